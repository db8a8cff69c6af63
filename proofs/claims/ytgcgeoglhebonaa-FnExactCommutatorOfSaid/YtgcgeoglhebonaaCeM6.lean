/- Part of the claim. -/
import Derived.Test.YtgcgeoglhebonaaCeM5
set_option maxRecDepth 100000
set_option maxHeartbeats 8000000
namespace Go.Proofs.Ytgcgeoglhebonaa.P
theorem qq1 {α : Type _} {l : List α} {i : Nat} {a : α} : l.toArray.setIfInBounds i a = (l.set i a).toArray := List.setIfInBounds_toArray ..
theorem qq2 {α : Type _} {a b : α} {l : List α} : (a :: l).set 0 b = b :: l := rfl
theorem qq3 {α : Type _} {a b : α} {l : List α} {n : Nat} : (a :: l).set (n + 1) b = a :: l.set n b := rfl
end Go.Proofs.Ytgcgeoglhebonaa.P
section
namespace Go.Proofs.Ytgcgeoglhebonaa.P
open Go.RowKit Go.Maps Go.Proofs.YtgcgeoglhebonaaW.PrintWords Go.Proofs.YtgcgeoglhebonaaW.PrintLast Go.Proofs.YtgcgeoglhebonaaW.PrintMore
set_option linter.unusedVariables false
set_option linter.unusedSimpArgs false
theorem cloneAll_any (A : Option Addr) (c : Nat) (l : List Int) (w : World) (hr : Kd.C (Kd.int .i64) w A l.length l) (hl : l.length ≤ 1000000000000) :
 Calls Try.prog 82 #[.slice A l.length c] w fun e w' => ∃ v, e = .returned v ∧ Kd.R (Kd.int .i64) 2 w' w.heap.size (fun _ => True) v l ∧ Below w.heap.size w w' := by
 by_cases h0 : 0 < l.length
 · exact cloneInts_any A c l w hr h0 hl
 have hnil : l = [] := List.eq_nil_of_length_eq_zero (by omega)
 subst hnil
 clear hr h0 hl
 cases A with
 | none =>
  have hq : ∀ (w : World) (n c : Nat), (binOp .eql 50 (.slice none n c) (.slice none 0 0)).run Try.prog w = .ok (.bool true) w := fun w n c => Go.Lib.run_eql_slice_nil w _ _ none n c 0 0 Try.underlying50
  go_enter Try.func82, Try.ntmps82
  go_wp2
  go_ret
  exact ⟨_, by rfl, Kd.R_nil _ _ _ _ _, Below.refl _ _⟩
 | some ad =>
  have HB := am (Below.refl w.heap.size w)
  have hq : ∀ (w : World) (a : Addr) (n c : Nat), (binOp .eql 50 (.slice (some a) n c) (.slice none 0 0)).run Try.prog w = .ok (.bool false) w := fun w a n c => Go.Lib.run_eql_slice_nil w _ _ (some a) n c 0 0 Try.underlying50
  go_enter Try.func82, Try.ntmps82
  go_wp2_with (first
   | ((with_reducible refine gate_dst (N := 5) rfl ?_); go_must (refine Kd.R_lit (Kd.int .i64) _ 2 ?hg (N := 5) ?hd (xs := ([] : List Int)) (inner := []) (ok := fun _ => True) (okp := fun _ => True) ?hr ?hp (fun _ hk => hk) trivial (Below.refl _ _) (Nat.le_refl _) (by simp) ?_); (case hd => rfl); (case hg => rfl); (case hr => (go_simp; done)); (case hp => exact (Reps.none _ _)); intro v1 w1 ho hb hg_ hnew_; have HO := am (Kd.R_lower ho (below_size HB.out)); have HB1 := am (below_step HB.out hb); clear ho hb hg_ hnew_)
   | ((with_reducible refine gate_builtin (b := .append) (xs := #[.tmp 5, .tmp 6]) rfl ?_); at_builtin; go_must (refine Kd.R_append_rows (Kd.int .i64) (w0 := w) w.heap.size rfl (.tmp 5) (.tmp 6) 50 2 (.int .i64 0) 8 rfl Try.underlying50 info2 rfl (by decide) (by omega) v1 [] ([] : List Int) _ _ _ (fun _ => True) (fun _ => False) rfl rfl ?aO ?aR (fun _ _ h => h) (fun _ h => h.elim) ?aF ?aB ?aS ?aL ?_); (case aR => exact (C_empty _ _ _)); (case aB => exact HB1.out); (case aF => exact (fun _ _ => trivial)); (case aO => exact HO.out); (case aS => exact HB1.out.size); (case aL => simp); intro v2 w2 ho hb hg hat; have HO2 := am ho; have HB2 := am hb; clear ho hb hg hat)
   | go_in)
  go_ret
  exact ⟨_, by rfl, by have := HO2.out; rwa [List.nil_append] at this, HB2.out⟩
theorem TRow.set {w : World} {base g t : Nat} {u : Value} {es : List TermV} {cells : Array Value} (h : TRow w base u es) (hb : w.heap[g]? = some (.cells cells t (0, 0))) (h1 : 65 ≠ t) (h2 : 2 ≠ t) (j : Nat) (x : Value) : TRow (w.setCell ⟨g, j, none⟩ x) base u es :=
 ⟨own_setCell h.row (own_ne h.row hb h1) x, fun e he hl => Kd.R_set (h.words e he hl) hb (fun q hq => by simp [Kd.int, Kd.scalar] at hq; rw [hq]; exact h2) j x, h.apart⟩
theorem TRow.typed {w : World} {base : Nat} {u : Value} {es : List TermV} (h : TRow w base u es) : ∀ k, u.ownBlock = some k → ∃ cells, w.heap[k]? = some (.cells cells 65 (0, 0)) := fun k hk => own_typed h.row k hk
theorem TRow.snoc {w w0 w1 : World} {base : Nat} {u v1 : Value} {es : List TermV} {e : TermV} (h : TRow w base u es) (hold : ∀ a ∈ es, ∀ k, wblk a = some k → k < w0.heap.size)
 (he : e.l ≠ [] → Kd.R (Kd.int .i64) 2 w base (fun _ => True) (.slice e.A e.l.length e.c) e.l) (hnew : ∀ k, wblk e = some k → w0.heap.size ≤ k)
 (hrow : w1.ownsRow base 65 2 v1 (es.length + 1) (es.flatMap encT ++ encT e)) (hg : w.grownBy w1 u.ownBlock) : TRow w1 base v1 (es ++ [e]) := by
 refine ⟨by rw [List.length_append, List.length_singleton, List.flatMap_append]; simpa using hrow, fun a ha hl => ?_, ?_⟩
 · rcases List.mem_append.1 ha with ha | ha
   · exact Kd.R_over' (h.words a ha hl) h.typed (by decide) hg
   · obtain rfl := List.mem_singleton.1 ha
     exact Kd.R_over' (he hl) h.typed (by decide) hg
 · rw [List.pairwise_append]
   refine ⟨h.apart, List.pairwise_singleton _ _, fun a ha b hb k h1 h2 => ?_⟩
   obtain rfl := List.mem_singleton.1 hb
   have := hold a ha k h1
   have := hnew k h2
   omega
theorem TRow.blk_lt {w : World} {base : Nat} {u : Value} {es : List TermV} (h : TRow w base u es) : ∀ a ∈ es, ∀ k, wblk a = some k → k < w.heap.size := fun a ha k hk => by
 by_cases hl : a.l = []
 · unfold wblk at hk; rw [if_pos hl] at hk; cases hk
 · exact Kd.R_lt (h.words a ha hl) k (by rw [← wblk_own hl]; exact hk)
def pairV (e : TermV) : List Int × Int := (e.l, e.v)
def nzV (e : TermV) : Bool := decide (e.v ≠ 0)
theorem perm_pick {κ : Type} [DecidableEq κ] (key : TermV → κ) : ∀ {l : List TermV} {e : TermV}, l.Pairwise (fun a b => key a ≠ key b) → e ∈ l → l.Perm (e :: l.filter fun a => !decide (key a = key e))
 | a :: l, e, hd, he => by
  rw [List.pairwise_cons] at hd
  by_cases hae : key a = key e
  · have h1 : e = a := by
     rcases List.mem_cons.1 he with rfl | h
     · rfl
     · exact absurd hae (hd.1 e h)
    subst h1
    rw [List.filter_cons_of_neg (by simp)]
    have : l.filter (fun a => !decide (key a = key e)) = l := List.filter_eq_self.2 fun b hb => by simpa using Ne.symm (hd.1 b hb)
    rw [this]
  · have h1 : e ∈ l := by
     rcases List.mem_cons.1 he with rfl | h
     · exact absurd rfl hae
     · exact h
    rw [List.filter_cons_of_pos (by simpa using hae)]
    exact ((perm_pick key hd.2 h1).cons a).trans (List.Perm.swap _ _ _)
theorem kvT_filter (ms : List TermV) (T : ByteArray) : (kvT ms).filter (fun q => !decide (q.1 = T)) = kvT (ms.filter fun a => !decide (textB a.l = T)) := by
 unfold kvT
 rw [List.filter_map]
 rfl
theorem sumG_any (base g b : Nat) (p : Int) (G : List (List Int × Int)) (w : World) (hG : IsG w base g b p G) (hlen : G.length ≤ 1000000) :
 Calls Try.prog 59 #[.pointer (some ⟨g, 0, none⟩)] w fun e w' => ∃ u es, e = .returned (.agg #[.int .i64 p, u]) ∧ (es.map pairV).Perm (G.filter fun a => decide (a.2 ≠ 0)) ∧ (es.map termOf).Pairwise (fun a b => wlt b.f0 a.f0 = false) ∧ TRow w' w.heap.size u es ∧ (∀ e ∈ es, smallW e.l) ∧ Below w.heap.size w w' := by
 have hu := Try.underlying89
 have hu2 := Try.underlying65
 have hu3 := Try.underlying28
 obtain ⟨ms, hm, hgt, hms⟩ := hG.map
 have hsz := hG.size
 have hb2 := below_alloc (below_alloc (Below.refl w.heap.size w) (.cells #[.int .i64 0, .slice none 0 0] 28)) (.cells #[.int .i64 p, .slice none 0 0] 28)
 have HM := am (hm.below hb2)
 have HB := am hb2
 have HBK := am (And.intro (blk_al (o' := .cells #[.int .i64 p, .slice none 0 0] 28) (MapKept.heap_alloc w (.cells #[.int .i64 0, .slice none 0 0] 28)).1) (MapKept.heap_alloc (w.alloc (.cells #[.int .i64 0, .slice none 0 0] 28)) (.cells #[.int .i64 p, .slice none 0 0] 28)).1)
 have HGB := am (And.intro (hG.below (below_alloc (Below.refl w.heap.size w) (.cells #[.int .i64 0, .slice none 0 0] 28))).blk (hG.below hb2).blk)
 have hz0 := (blk_cell HGB.out.1 0).trans (rfl : _ = some (Value.int .i64 p))
 have hz1 := (blk_cell HGB.out.2 1).trans (rfl : _ = some (Value.map (some b)))
 have HGT := am hgt
 have HMS := am hms
 have HSZ := am hsz
 clear hG hm hgt hms hb2 hsz
 go_enter Try.func59, Try.ntmps59
 go_wp2_with (first
  | (at_range; refine wpList_range_kv rfl _ 87 rfl 9 65 Try.underlying87 Value.string b _ rfl HM.out ?_; intro w2 hr2 hg2 hs2; have HR2 := am hr2; have HB2 := am (below_step HB.out (below_of_grown hg2)); have HBK2 := am (And.intro (blk_below HBK.out.1 (below_of_grown hg2)) (blk_below HBK.out.2 (below_of_grown hg2))); clear hr2 hg2 hs2)
  | go_in)
 go_frame
 simp only [size_al] at HBK2
 clear HM HB HBK HGB hz0 hz1
 have HRE := am (show ((w.alloc (.cells #[.int .i64 0, .slice none 0 0] 28)).alloc (.cells #[.int .i64 p, .slice none 0 0] 28)).heap.size = w.heap.size + 1 + 1 from by simp)
 generalize ((w.alloc (.cells #[.int .i64 0, .slice none 0 0] 28)).alloc (.cells #[.int .i64 p, .slice none 0 0] 28)).heap.size = R at *
 have HDI := am (show ms.Pairwise (fun a c => textB a.l ≠ textB c.l) from by
  have := (HR2.out.owns).distinct
  unfold kvT at this
  rwa [List.pairwise_map] at this)
 have HML := am (show ms.length ≤ 1000000 from by have := congrArg List.length HGT.out; unfold gT at this; simp at this; omega)
 go_loopg [16] ms.length (fun n _ wx => ∃ (lms es : List TermV) (u : Value), Aside0 (lms.length = n) ∧ Aside0 (rangeKV wx Value.string b R (kvT ms) (kvT lms)) ∧ Aside0 (lms.Pairwise (fun a c => textB a.l ≠ textB c.l) ∧ ∀ e ∈ lms, e ∈ ms) ∧ Aside0 ((es.map pairV ++ (lms.filter nzV).map pairV).Perm ((ms.filter nzV).map pairV)) ∧
  Aside0 (wx.heap[w.heap.size]? = some (.cells #[.int .i64 0, .slice none 0 0] 28 (0, 0)) ∧ wx.heap[w.heap.size + 1]? = some (.cells #[.int .i64 p, u] 28 (0, 0))) ∧ Aside0 (TRow wx w.heap.size u es) ∧ Aside0 (∀ e ∈ es, smallW e.l) ∧ Aside0 (Below w.heap.size w wx))
 case atStart => exact ⟨ms, [], .slice none 0 0, ⟨rfl⟩, HR2, ⟨HDI.out, fun e he => he⟩, ⟨by simp⟩, HBK2, ⟨TRow.nil _ _⟩, ⟨fun e he => by cases he⟩, HB2⟩
 case round =>
  obtain ⟨lms, es, u, HN, HRG, HLM, HPM, HBK, HTR, HSM, HB⟩ := hrel
  clear HR2 HB2 HBK2
  have HEL := am (show es.length ≤ 1000000 from by
   have := HPM.out.length_eq
   have h2 := List.length_filter_le nzV ms
   have h3 := HML.out
   simp at this; omega)
  have hne : b ≠ R := by have := HSZ.out; have := HRE.out; omega
  have HNE := am hne
  clear hne
  go_wp2_with (first
   | (at_next; refine wpList_next_kv rfl _ rfl 9 Value.string (fun x y h => by injection h) b R _ _ HNE.out rfl HRG.out ?_ ?_)
   | go_in)
  · intro hl
    have hlm : lms = [] := by unfold kvT at hl; simpa using hl
    have HP2 := am (show (es.map pairV).Perm (G.filter fun a => decide (a.2 ≠ 0)) from by
     have h1 := HPM.out
     rw [hlm] at h1
     simp only [List.filter_nil, List.map_nil, List.append_nil] at h1
     have h2 : (ms.filter nzV).map pairV = G.filter fun a => decide (a.2 ≠ 0) := by
      rw [← HGT.out]
      unfold gT
      rw [List.filter_map]
      rfl
     rwa [h2] at h1)
    clear hl hlm HPM
    have hc3 := (blk_cell HBK.out.2 1).trans (rfl : _ = some u)
    obtain ⟨Au, cu, rfl⟩ := HTR.out.slice
    have HSO := am (sortT_any w.heap.size _ es wr HTR.out HEL.out (fun e he => Nat.le_trans (HSM.out e he).1 (by omega)) (fun e he h => by rw [h]; exact Nat.zero_le _))
    go_wp2_with fail
    go_must (refine HSO.out.mono ?_)
    rintro e w5 ⟨rfl, es2, hp5, hs5, ht5, hg5⟩
    have hn1 : some (w.heap.size + 1) ≠ (Value.slice Au es.length cu).ownBlock := own_ne HTR.out.row HBK.out.2 (by decide)
    have hn0 : some w.heap.size ≠ (Value.slice Au es.length cu).ownBlock := own_ne HTR.out.row HBK.out.1 (by decide)
    have hl5 := (Array.getElem?_eq_some_iff.1 HBK.out.2).1
    have hk1 := (hg5.block _ hl5 hn1).trans HBK.out.2
    have hk0 := (hg5.block _ (by omega) hn0).trans HBK.out.1
    have hc0 := (blk_cell hk1 0).trans (rfl : _ = some (Value.int .i64 p))
    have hc1 := (blk_cell hk1 1).trans (rfl : _ = some (Value.slice Au es.length cu))
    have hd0 := (blk_cell hk0 0).trans (rfl : _ = some (Value.int .i64 0))
    have hd1 := (blk_cell hk0 1).trans (rfl : _ = some (Value.slice none 0 0))
    have hf0 := blk_frozen hk0 0
    have hf1 := blk_frozen hk0 1
    have HK0 := am hk0
    have HB5 := am (show Below w.heap.size w w5 from HB.out.grown hg5 HB.out.size (fun j hj => own_base HTR.out.row j hj))
    have HT5 := am (And.intro hp5 (And.intro hs5 ht5))
    clear hp5 hs5 ht5 hg5 hn1 hn0 hk1 hk0 hc3 hl5
    go_wp2
    refine bodyPost_ret (results_cell_row rfl _ _ w.heap.size 28 #[.int .i64 p, .slice Au es.length cu] (0, 0) _ rfl (by refine blk_put (cs := #[.int .i64 p, .slice none 0 0]) ?_ 1 _ rfl; refine blk_put (cs := #[.int .i64 0, .slice none 0 0]) ?_ 0 _ rfl; exact HK0.out) hu3 rfl (by kernel_rfl)) rfl ?_
    refine ⟨_, es2, by rfl, (HT5.out.1.map pairV).trans HP2.out, HT5.out.2.1, ?_, fun e he => HSM.out e (HT5.out.1.mem_iff.1 he), (HB5.out.setCell (p := ⟨w.heap.size, 0, none⟩) (Nat.le_refl _) _).setCell (p := ⟨w.heap.size, 1, none⟩) (Nat.le_refl _) _⟩
    have h1 := TRow.set HT5.out.2.2 HK0.out (by decide) (by decide) 0 (.int .i64 p)
    exact TRow.set h1 (blk_put (cs := #[.int .i64 0, .slice none 0 0]) HK0.out 0 (.int .i64 p) rfl) (by decide) (by decide) 1 (.slice Au es.length cu)
  · intro x v w3 hpl hpk hr3 hg4 hs4 hen
    obtain ⟨e, hel, hxe⟩ := List.mem_map.1 hpl
    obtain ⟨rfl, rfl⟩ := Prod.mk.inj hxe
    rw [kvT_filter] at hr3
    have hem := HLM.out.2 e hel
    have hRw : ∀ cells t, wr.heap[R]? ≠ some (.cells cells t (0, 0)) := fun cells t hc => by
     obtain ⟨_, _, _, _, _, _, _, _, hit, _⟩ := HRG.out
     rw [hit] at hc
     cases hc
    have hl1 := (Array.getElem?_eq_some_iff.1 HBK.out.2).1
    have hn0 : some w.heap.size ≠ some R := by intro h; injection h with h; have := HRE.out; omega
    have hn1 : some (w.heap.size + 1) ≠ some R := by intro h; injection h with h; have := HRE.out; omega
    have hB3 : Below w.heap.size w w3 := HB.out.grown hg4 HB.out.size (fun j hj => by cases hj; have := HRE.out; omega)
    have hbx := below_alloc (Below.refl w3.heap.size w3) (.cells #[.slice e.A e.l.length e.c, .int .i64 e.v] 65)
    have hal := (MapKept.heap_alloc w3 (.cells #[.slice e.A e.l.length e.c, .int .i64 e.v] 65)).1
    have HRG3 := am (hr3.below hbx)
    have HBK3 := am (And.intro (blk_below ((hg4.block _ (by omega) hn0).trans HBK.out.1) hbx) (blk_below ((hg4.block _ hl1 hn1).trans HBK.out.2) hbx))
    have HTR3 := am ((HTR.out.otherB hRw hg4).below hbx)
    have HUB := am (own_lt (HTR.out.otherB hRw hg4).row)
    have HB3 := am (below_step hB3 hbx)
    have HC3 := am (Kd.C_below (HMS.out e hem).2.2 (below_step hB3 hbx))
    have HSZ3 := am (size_al w3 (.cells #[.slice e.A e.l.length e.c, .int .i64 e.v] 65))
    have HWS3 := am hB3.size
    have HAL := am hal
    have HEM := am (HMS.out e hem)
    have HPK := am (perm_pick (fun a => textB a.l) HLM.out.1 hel)
    have HEL2 := am hel
    have hz0 := (blk_cell hal 0).trans (rfl : _ = some (Value.slice e.A e.l.length e.c))
    have hz1 := (blk_cell hal 1).trans (rfl : _ = some (Value.int .i64 e.v))
    have hag : aggT e = .agg #[.slice e.A e.l.length e.c, .int .i64 e.v] := rfl
    rw [hag] at hen ⊢
    have HLM3 := am (show (lms.filter fun a => !decide (textB a.l = textB e.l)).Pairwise (fun a c => textB a.l ≠ textB c.l) ∧ ∀ a ∈ (lms.filter fun a => !decide (textB a.l = textB e.l)), a ∈ ms from
     ⟨HLM.out.1.filter _, fun a ha => HLM.out.2 a (List.mem_filter.1 ha).1⟩)
    have HLN := am (show (lms.filter fun a => !decide (textB a.l = textB e.l)).length < lms.length from by
     have h1 := HPK.out.length_eq
     simp only [List.length_cons] at h1
     omega)
    clear hpl hpk hxe hr3 hg4 hs4 hag hem hRw hl1 hn0 hn1 hB3 hbx hal hel HRG HBK HTR HB HLM
    generalize hlf : (lms.filter fun a => !decide (textB a.l = textB e.l)) = lms2 at *
    clear hlf
    by_cases hv : e.v = 0
    · have hvb : (e.v != 0) = false := by simp [hv]
      have HV := am hv
      clear hv
      go_wp2
      go_roundg lms2.length
      case measure => exact Nat.lt_of_lt_of_le HLN.out (Nat.le_of_eq HN.out)
      case rel =>
       refine ⟨lms2, es, u, ⟨rfl⟩, HRG3, HLM3, ⟨?_⟩, HBK3, HTR3, HSM, HB3⟩
       have h1 := (HPK.out.filter nzV).map pairV
       rw [List.filter_cons_of_neg (by simp [nzV, HV.out])] at h1
       exact (h1.symm.append_left _).trans HPM.out
    · have hvb : (e.v != 0) = true := by simp [hv]
      have HV := am hv
      clear hv
      go_wp2_with fail
      have HSS := am (fun W (hb : Below (w3.alloc (.cells #[.slice e.A e.l.length e.c, .int .i64 e.v] 65)).heap.size (w3.alloc (.cells #[.slice e.A e.l.length e.c, .int .i64 e.v] 65)) W) => show W.cell? ⟨w.heap.size + 1, 1, none⟩ = some u ∧ W.cell? ⟨w3.heap.size, 0, none⟩ = some (.slice e.A e.l.length e.c) ∧ W.cell? ⟨w3.heap.size, 1, none⟩ = some (.int .i64 e.v) from
       ⟨(blk_cell (blk_below HBK3.out.2 hb) 1).trans rfl, (blk_cell (blk_below HAL.out hb) 0).trans rfl, (blk_cell (blk_below HAL.out hb) 1).trans rfl⟩)
      clear hz0 hz1
      generalize w3.alloc (.cells #[.slice e.A e.l.length e.c, .int .i64 e.v] 65) = W3 at *
      generalize w3.heap.size = b5 at *
      obtain ⟨Au, cu, rfl⟩ := HTR3.out.slice
      have HB4 := am (below_drew (Below.refl W3.heap.size W3))
      refine start_ (n := 12) (S := fun w' => w'.cell? ⟨w.heap.size + 1, 1, none⟩ = some (.slice Au es.length cu) ∧ w'.cell? ⟨b5, 0, none⟩ = some (.slice e.A e.l.length e.c) ∧ w'.cell? ⟨b5, 1, none⟩ = some (.int .i64 e.v)) (ds := [11]) (bs 0 12) (by kernel_rfl) rfl rfl (HSS.out _ HB4.out) (fun hHeld => ?_)
      generalize W3.drew = w4 at *
      refine pure_ (i := 0) (N := (some 23)) (v := ?_) (a' := ?_) (bs 1 12) rfl rfl (by kernel_rfl) (fun _ _ _ h => h) (Or.inl ⟨by rfl, ?_⟩) ?_ ?_; rotate_left; intro w'; go_simp; with_reducible rfl; rotate_left; simp only [Act.put, qq1, qq2, qq3, i64_w, i32_w]; rfl
      refine take_ (i := 1) (N := (some 24)) (v := ?_) (a' := ?_) (bs 3 12) rfl rfl (by kernel_rfl) (fun _ _ _ h => h) (Or.inl ⟨by rfl, ?_⟩) hHeld ?_ ?_; rotate_left; rintro w' ⟨s0, s1, s2⟩; go_simp; with_reducible rfl; rotate_left; simp only [Act.put, qq1, qq2, qq3, i64_w, i32_w]; rfl
      refine pure_ (i := 2) (N := (some 25)) (v := ?_) (a' := ?_) (bs 7 12) rfl rfl (by kernel_rfl) (fun _ _ _ h => h) (Or.inl ⟨by rfl, ?_⟩) ?_ ?_; rotate_left; intro w'; go_simp; with_reducible rfl; rotate_left; simp only [Act.put, qq1, qq2, qq3, i64_w, i32_w]; rfl
      refine take_ (i := 3) (N := (some 26)) (v := ?_) (a' := ?_) (bs 15 12) rfl rfl (by kernel_rfl) (fun _ _ _ h => h) (Or.inl ⟨by rfl, ?_⟩) hHeld ?_ ?_; rotate_left; rintro w' ⟨s0, s1, s2⟩; go_simp; with_reducible rfl; rotate_left; simp only [Act.put, qq1, qq2, qq3, i64_w, i32_w]; rfl
      refine pure_ (i := 5) (N := (some 28)) (v := ?_) (a' := ?_) (bs 47 12) rfl rfl (by kernel_rfl) (fun _ _ _ h => h) (Or.inl ⟨by rfl, ?_⟩) ?_ ?_; rotate_left; intro w'; go_simp; with_reducible rfl; rotate_left; simp only [Act.put, qq1, qq2, qq3, i64_w, i32_w]; rfl
      refine take_ (i := 6) (N := (some 29)) (v := ?_) (a' := ?_) (bs 111 12) rfl rfl (by kernel_rfl) (fun _ _ _ h => h) (Or.inl ⟨by rfl, ?_⟩) hHeld ?_ ?_; rotate_left; rintro w' ⟨s0, s1, s2⟩; go_simp; with_reducible rfl; rotate_left; simp only [Act.put, qq1, qq2, qq3, i64_w, i32_w]; rfl
      refine one_ (i := 4) (N := (some 27)) (bs 127 12) rfl rfl (by kernel_rfl) (by decide) (fun K hK => ?_)
      refine goes_ Try.func82 (by kernel_rfl) rfl #[.slice e.A e.l.length e.c] (by rfl) rfl rfl (by (try simp only [List.map_toArray, List.map_cons, List.map_nil]); rfl) ?_
      refine (cloneAll_any e.A e.c e.l w4 (Kd.C_below HC3.out HB4.out) (Nat.le_trans HEM.out.1.1 (by omega))).mono ?_
      rintro e1 w5 ⟨v5, rfl, hr5, hb5⟩
      obtain ⟨A5, c5, rfl, hr5⟩ := R_open hr5 (n := e.l.length) rfl
      refine ⟨_, rfl, ?_⟩
      have HB5 := am (below_step HB4.out hb5)
      have HR5 := am hr5
      have HW4 := am (HTR3.out.below HB4.out).blk_lt
      have HS4 := am (below_step HB3.out HB4.out).size
      clear hr5 hb5
      refine hK.out _ _ (HSS.out _ HB5.out) (fun hHeld => ?_)
      clear hK K
      refine norm_ (a' := ?_) ?_ ?_; rotate_left; show Act.put _ (some 27) _ = _; simp only [Act.put, qq1, qq2, qq3, i64_w, i32_w]; rfl
      refine pure_ (i := 7) (N := (some 30)) (v := ?_) (a' := ?_) (bs 255 12) rfl rfl (by kernel_rfl) (fun _ _ _ h => h) (Or.inl ⟨by rfl, ?_⟩) ?_ ?_; rotate_left; intro w'; go_simp; with_reducible rfl; rotate_left; simp only [Act.put, qq1, qq2, qq3, i64_w, i32_w]; rfl
      refine one_ (i := 8) (N := (some 31)) (bs 511 12) rfl rfl (by kernel_rfl) (by decide) (fun K hK => ?_)
      refine value_ (w1 := ?_) (v := ?_) (by rfl) rfl ?_ ?_
      rotate_left 2
      · go_simp
        constructor
        · rfl
        · rfl
      have hbx := below_alloc (Below.refl w5.heap.size w5) (.cells #[.slice A5 e.l.length c5, .int .i64 e.v] 65)
      refine hK.out _ _ (HSS.out _ (below_step HB5.out hbx)) (fun hHeld => ?_)
      clear hbx
      clear hK K
      refine norm_ (a' := ?_) ?_ ?_; rotate_left; show Act.put _ (some 31) _ = _; simp only [Act.put, qq1, qq2, qq3, i64_w, i32_w]; rfl
      refine one_ (i := 9) (N := (some 32)) (bs 1023 12) rfl rfl (by kernel_rfl) (by decide) (fun K hK => ?_)
      have HT5 := am (HTR3.out.below HB5.out)
      refine step_append_cells (w0 := w) (W := w5) w.heap.size ?hwq (.tmp 24) (.tmp 31) 26 65 (.agg #[.slice none 0 0, .int .i64 0]) 2 32 ?hoq Try.underlying26 info65 rfl (by decide) (by decide) (.slice Au es.length cu) es.length (es.flatMap encT) (encT ⟨A5, c5, e.l, e.v⟩) ?hsq ?hxq rfl (by intro x hx; simp [encT] at hx; rcases hx with rfl | rfl <;> rfl) HT5.out.row (below_step HB3.out HB5.out) (below_step HB3.out HB5.out).size (by have := HEL.out; omega) ?_
      case hwq => rfl
      case hoq => rfl
      case hsq => rfl
      case hxq => rfl
      intro v6 w6 ho6 hb6 hg6 hat6
      obtain ⟨A6, c6, rfl⟩ := own_slice ho6
      have hk5 := blk_below HBK3.out.2 HB5.out
      have hk50 := blk_below HBK3.out.1 HB5.out
      have hn1 : some (w.heap.size + 1) ≠ (Value.slice Au es.length cu).ownBlock := own_ne HT5.out.row hk5 (by decide)
      have hn0 : some w.heap.size ≠ (Value.slice Au es.length cu).ownBlock := own_ne HT5.out.row hk50 (by decide)
      have hn5 : some b5 ≠ (Value.slice Au es.length cu).ownBlock := fun h => by have := HUB.out b5 h.symm; exact Nat.lt_irrefl _ this
      have hk6 := (hg6.block _ (Array.getElem?_eq_some_iff.1 hk5).1 hn1).trans hk5
      have hk60 := (hg6.block _ (Array.getElem?_eq_some_iff.1 hk50).1 hn0).trans hk50
      have hk65 := (hg6.block _ (Array.getElem?_eq_some_iff.1 (blk_below HAL.out HB5.out)).1 hn5).trans (blk_below HAL.out HB5.out)
      have hnR : some R ≠ (Value.slice Au es.length cu).ownBlock := fun h => by
       obtain ⟨cells, hc⟩ := HT5.out.typed R h.symm
       obtain ⟨_, _, _, _, _, _, _, _, hit, _⟩ := (HRG3.out.below HB5.out)
       rw [hit] at hc
       cases hc
      have hnb : some b ≠ (Value.slice Au es.length cu).ownBlock := fun h => by
       obtain ⟨cells, hc⟩ := HT5.out.typed b h.symm
       obtain ⟨_, _, hbm, _⟩ := (HRG3.out.below HB5.out).owns
       rw [hbm] at hc
       cases hc
      have HRG6 := am (((HRG3.out.below HB5.out).kept hg6 hnb hnR))
      have HT6 := am (HT5.out.snoc (w0 := w4) (e := ⟨A5, c5, e.l, e.v⟩) HW4.out (fun _ => Kd.R_lower HR5.out HS4.out) (fun k hk => by
       by_cases hl : e.l = []
       · unfold wblk at hk; rw [if_pos hl] at hk; cases hk
       · exact Kd.R_base HR5.out k (by rw [← wblk_own (e := ⟨A5, c5, e.l, e.v⟩) hl]; exact hk)) ho6 hg6)
      have HK6 := am (And.intro hk60 hk6)
      have HB6 := am hb6
      have hs6 : w6.cell? ⟨w.heap.size + 1, 1, none⟩ = some (.slice Au es.length cu) := (blk_cell hk6 1).trans rfl
      have hf6 := blk_frozen hk6 1
      refine hK.out _ _ ⟨hs6, (blk_cell hk65 0).trans rfl, (blk_cell hk65 1).trans rfl⟩ (fun hHeld => ?_)
      clear ho6 hb6 hg6 hat6 hk5 hk50 hn1 hn0 hn5 hk6 hk60 hk65 hnR hnb
      clear hK K
      refine norm_ (a' := ?_) ?_ ?_; rotate_left; show Act.put _ (some 32) _ = _; simp only [Act.put, qq1, qq2, qq3, i64_w, i32_w]; rfl
      refine pure_ (i := 10) (N := (some 33)) (v := ?_) (a' := ?_) (bs 2047 12) rfl rfl (by kernel_rfl) (fun _ _ _ h => h) (Or.inl ⟨by rfl, ?_⟩) ?_ ?_; rotate_left; intro w'; go_simp; with_reducible rfl; rotate_left; simp only [Act.put, qq1, qq2, qq3, i64_w, i32_w]; rfl
      refine last_ (i := 11) (N := none) (bs 4095 12) rfl rfl (by kernel_rfl) (by decide) (fun K hK => ?_)
      refine skip_ (w1 := ?_) (by rfl) rfl ?_ ?_
      rotate_left
      · go_simp
        rfl
      refine hK.out _ _ ?_
      clear hK K hs6 hf6
      refine done_ (by kernel_rfl) ?_
      go_wp2
      go_roundg lms2.length
      case measure => exact Nat.lt_of_lt_of_le HLN.out (Nat.le_of_eq HN.out)
      case rel =>
       refine ⟨lms2, es ++ [⟨A5, c5, e.l, e.v⟩], .slice A6 (es.length + 1) c6, ⟨rfl⟩, ⟨?_⟩, HLM3, ⟨?_⟩, ⟨?_, ?_⟩, ⟨?_⟩, ⟨?_⟩, ⟨?_⟩⟩
       · have hb : b ≠ w.heap.size + 1 := by have := HSZ.out; omega
         have hR : R ≠ w.heap.size + 1 := by have := HRE.out; omega
         exact HRG6.out.move (Below.heap_setCell w6 ⟨w.heap.size + 1, 1, none⟩ _ b hb) (Below.heap_setCell w6 ⟨w.heap.size + 1, 1, none⟩ _ R hR)
       · have h1 := (HPK.out.filter nzV).map pairV
         rw [List.filter_cons_of_pos (by simp [nzV, HV.out])] at h1
         have h2 := (h1.symm.append_left (es.map pairV)).trans HPM.out
         rw [List.map_append, List.append_assoc]
         exact h2
       · exact (Below.heap_setCell w6 ⟨w.heap.size + 1, 1, none⟩ _ w.heap.size (by show w.heap.size ≠ w.heap.size + 1; omega)).trans HK6.out.1
       · exact blk_put (cs := #[.int .i64 p, .slice Au es.length cu]) HK6.out.2 1 _ rfl
       · exact TRow.set HT6.out HK6.out.2 (by decide) (by decide) 1 _
       · intro a ha
         rcases List.mem_append.1 ha with ha | ha
         · exact HSM.out a ha
         · obtain rfl := List.mem_singleton.1 ha
           exact HEM.out.1
       · exact HB6.out.setCell (p := ⟨w.heap.size + 1, 1, none⟩) (Nat.le_succ _) _
end Go.Proofs.Ytgcgeoglhebonaa.P
end
section
namespace Go.Proofs.Ytgcgeoglhebonaa.P
open Go.RowKit Go.Proofs.YtgcgeoglhebonaaW.PrintWords Go.Proofs.YtgcgeoglhebonaaW.PrintLast
set_option linter.unusedVariables false
set_option linter.unusedSimpArgs false
theorem drop_cons_U (l : List S64) (i : Nat) (h : i < l.length) : l.drop i = rd_T64 l (i : Int) :: l.drop (i + 1) := by
 rw [List.drop_eq_getElem_cons h]
 simp [rd_T64, List.getD_eq_getElem?_getD, List.getElem?_eq_getElem h]
theorem rdU_mem (l : List S64) (k : Nat) (h : k < l.length) : rd_T64 l (k : Int) ∈ l := by
 have : rd_T64 l (k : Int) ∈ l.drop k := by rw [drop_cons_U l k h]; exact List.mem_cons_self
 exact List.mem_of_mem_drop this
theorem szTerm (t : S64) (a : Int) (h0 : 0 ≤ a) (h1 : a ≤ 1048576) (hl : t.f0.length ≤ 9223372036854775807) : ∃ s, laws_szTerm.f t.f0 t.f1 a = some s ∧ (s < 0 ∨ (0 ≤ s ∧ s ≤ a ∧ (t.f0.length : Int) ≤ a)) := by
 obtain ⟨s, h2, h3⟩ := szI t.f0 a h0 h1 hl
 unfold laws_szTerm.f
 rw [h2, Option.bind_some]
 by_cases hs : s < 0
 · exact ⟨-1, by rw [if_pos hs], .inl (by omega)⟩
 · exact ⟨s, by rw [if_neg hs], h3⟩
theorem szTermS_l0 (l : List S64) (hn : l.length ≤ 1048576) (hl : ∀ t ∈ l, t.f0.length ≤ 9223372036854775807) : ∀ (d i : Nat) (a : Int), i + d = l.length → 0 ≤ a → a ≤ 1048576 → ∃ s, Ev (fun k => laws_szTermS.l0 k l a (i : Int)) s ∧ (s < 0 ∨ (0 ≤ s ∧ s ≤ a ∧ ∀ t ∈ l.drop i, (t.f0.length : Int) ≤ a)) := by
 intro d
 induction d with
 | zero =>
  intro i a hi h0 h1
  refine ⟨a, Ev.step (fun k => by rw [laws_szTermS.l0]) ?_, .inr ⟨h0, Int.le_refl _, ?_⟩⟩
  · simp only [if_neg (show ¬ ((i : Int) < (l.length : Int)) by omega)]
    exact Ev.now _
  · rw [List.drop_of_length_le (by omega)]; simp
 | succ d ih =>
  intro i a hi h0 h1
  have hd := drop_cons_U l i (by omega)
  obtain ⟨s, hs, hs2⟩ := szTerm (rd_T64 l (i : Int)) a h0 h1 (hl _ (rdU_mem l i (by omega)))
  rcases hs2 with hs2 | ⟨h2, h3, h4⟩
  · refine ⟨-1, Ev.step (fun k => by rw [laws_szTermS.l0]) ?_, .inl (by omega)⟩
    simp only [if_pos (show ((i : Int) < (l.length : Int)) by omega), if_pos (show (0 : Int) ≤ (i : Int) by omega), hs, Option.bind_some, if_pos hs2]
    exact Ev.now _
  · obtain ⟨s', h5, h6⟩ := ih (i + 1) s (by omega) h2 (by omega)
    refine ⟨s', Ev.step (fun k => by rw [laws_szTermS.l0]) ?_, ?_⟩
    · simp only [if_pos (show ((i : Int) < (l.length : Int)) by omega), if_pos (show (0 : Int) ≤ (i : Int) by omega), hs, Option.bind_some, if_neg (show ¬ s < 0 by omega), wr1 i l.length (by omega) (by omega)]
      exact h5
    · rcases h6 with h6 | ⟨h6, h7, h8⟩
      · exact .inl h6
      · refine .inr ⟨h6, by omega, ?_⟩
        rw [hd]
        intro f hf
        rcases List.mem_cons.1 hf with rfl | hf
        · exact h4
        · have := h8 f hf; omega
theorem szSum (p : Int) (l : List S64) (a : Int) (h0 : 0 ≤ a) (h1 : a ≤ 1048576) (hn : l.length ≤ 9223372036854775807) (hl : ∀ t ∈ l, t.f0.length ≤ 9223372036854775807) : ∃ s, Ev (fun k => laws_szSum.f k p l a) s ∧ (s < 0 ∨ (0 ≤ s ∧ s ≤ a ∧ (l.length : Int) ≤ a ∧ ∀ t ∈ l, (t.f0.length : Int) ≤ a)) := by
 have e : wrap64 (a - (l.length : Int)) = a - (l.length : Int) := by unfold wrap64; omega
 unfold laws_szSum.f laws_szTermS.f
 rw [e]
 by_cases h : a - (l.length : Int) < 0
 · refine ⟨-1, ?_, .inl (by omega)⟩
   simp only [if_pos h, Option.bind_some, if_pos (show (-1 : Int) < 0 by omega)]; exact Ev.now _
 · obtain ⟨s, h2, h3⟩ := szTermS_l0 l (by omega) hl l.length 0 (a - (l.length : Int)) (by omega) (by omega) (by omega)
   simp only [if_neg h]
   rcases h3 with h3 | ⟨h3, h4, h5⟩
   · refine ⟨-1, Ev.bind h2 ?_, .inl (by omega)⟩
     simp only [if_pos h3]; exact Ev.now _
   · refine ⟨s, Ev.bind h2 ?_, .inr ⟨h3, by omega, by omega, fun f hf => ?_⟩⟩
     · simp only [if_neg (show ¬ s < 0 by omega)]; exact Ev.now _
     · have := h5 f (by simpa using hf)
       omega
def conv (t : S64) : S65 := ⟨t.f0, t.f1⟩
theorem ev_toTerm (t : S64) (h : t.f0.length ≤ 1000000000000) : Ev (fun k => laws_toTerm.f k t.f0 t.f1) (t.f0, t.f1) := by
 unfold laws_toTerm.f
 exact Ev.bind (ev_toI t.f0 h) (Ev.now _)
theorem take_succ_U (l : List S64) (k : Nat) (h : k < l.length) : (l.map conv).take (k + 1) = (l.map conv).take k ++ [conv (rd_T64 l (k : Int))] := by
 rw [List.take_succ_eq_append_getElem (by simpa using h)]
 simp [rd_T64, List.getD_eq_getElem?_getD, List.getElem?_eq_getElem h]
theorem toTermS_l0 (l : List S64) (hn : l.length ≤ 1000000000) (hf : ∀ t ∈ l, t.f0.length ≤ 1000000000000) : ∀ (d i : Nat), i + d = l.length → Ev (fun k => laws_toTermS.l0 k l ((l.map conv).take i ++ List.replicate d z65) (i : Int)) (l.map conv) := by
 intro d
 induction d with
 | zero =>
  intro i hi
  refine Ev.step (fun k => by rw [laws_toTermS.l0]) ?_
  simp only [if_neg (show ¬ ((i : Int) < (l.length : Int)) by omega)]
  exact ev_val (by rw [List.take_of_length_le (by simp; omega)]; simp)
 | succ d ih =>
  intro i hi
  refine Ev.step (fun k => by rw [laws_toTermS.l0]) ?_
  have hl : ((l.map conv).take i).length = i := by simp; omega
  have hs : ((l.map conv).take i ++ List.replicate (d + 1) z65).length = l.length := by simp; omega
  simp only [if_pos (show ((i : Int) < (l.length : Int)) by omega), if_pos (show (0 : Int) ≤ (i : Int) by omega), hs, Int.toNat_natCast]
  refine Ev.bind (ev_toTerm _ (hf _ (rdU_mem l i (by omega)))) ?_
  simp only [fill_set z65 _ ((l.map conv).take i) i d hl, wr1 i l.length (by omega) (by omega)]
  have e := take_succ_U l i (by omega)
  have h := ih (i + 1) (by omega)
  rw [e] at h
  exact h
theorem ev_toSum (p : Int) (l : List S64) (hn : l.length ≤ 1000000000) (hf : ∀ t ∈ l, t.f0.length ≤ 1000000000000) : Ev (fun k => laws_toSum.f k p l) (p, l.map conv) := by
 unfold laws_toSum.f laws_toTermS.f
 simp only [if_pos (show (0 : Int) ≤ (l.length : Int) by omega), Int.toNat_natCast, if_pos (show l.length ≤ 8796093022208 by omega)]
 have := toTermS_l0 l hn hf l.length 0 (by omega)
 refine Ev.bind ?_ (Ev.now _)
 simpa using this
theorem rdV_mem (l : List S65) (k : Nat) (h : k < l.length) : rd_T65 l (k : Int) ∈ l := by
 simp only [rd_T65, Int.toNat_natCast, List.getD_eq_getElem?_getD, List.getElem?_eq_getElem h, Option.getD_some]
 exact List.getElem_mem h
theorem ev_eqTerm (t : S65) (h : t.f0.length ≤ 1000000000000) : Ev (fun k => laws_eqTerm.f k t.f0 t.f1 t.f0 t.f1) true := by
 unfold laws_eqTerm.f
 refine Ev.bind (ev_eqI t.f0 h) ?_
 simp only [if_true]
 exact Ev.now _
theorem eqTermS_l0 (l : List S65) (hn : l.length ≤ 1000000000000) (hf : ∀ t ∈ l, t.f0.length ≤ 1000000000000) : ∀ (d i : Nat), i + d = l.length → Ev (fun k => laws_eqTermS.l0 k l l (i : Int)) true := by
 intro d
 induction d with
 | zero =>
  intro i hi
  refine Ev.step (fun k => by rw [laws_eqTermS.l0]) ?_
  simp only [if_neg (show ¬ ((i : Int) < (l.length : Int)) by omega)]
  exact Ev.now _
 | succ d ih =>
  intro i hi
  refine Ev.step (fun k => by rw [laws_eqTermS.l0]) ?_
  simp only [if_pos (show ((i : Int) < (l.length : Int)) by omega), if_pos (show (0 : Int) ≤ (i : Int) by omega), wr1 i l.length (by omega) (by omega)]
  refine Ev.bind (ev_eqTerm _ (hf _ (rdV_mem l i (by omega)))) ?_
  simp only [if_true]
  exact ih (i + 1) (by omega)
theorem ev_eqSum (p : Int) (l : List S65) (hn : l.length ≤ 1000000000000) (hf : ∀ t ∈ l, t.f0.length ≤ 1000000000000) : Ev (fun k => laws_eqSum.f k p l p l) true := by
 unfold laws_eqSum.f laws_eqTermS.f
 simp only [if_true]
 refine Ev.bind (eqTermS_l0 l hn hf l.length 0 (by omega)) ?_
 simp only [if_true]
 exact Ev.now _
end Go.Proofs.Ytgcgeoglhebonaa.P
end
section
namespace Go.Proofs.Ytgcgeoglhebonaa.P
open Go.RowKit Go.Maps Go.Proofs.YtgcgeoglhebonaaW.PrintWords Go.Proofs.YtgcgeoglhebonaaW.PrintLast Go.Proofs.YtgcgeoglhebonaaW.PrintMore
set_option linter.unusedVariables false
set_option linter.unusedSimpArgs false
def lenT : List S65 → Nat
 | [] => 0
 | t :: r => t.f0.length + 1 + lenT r
def marksT (a : Int) : List S65 → List S65
 | [] => []
 | t :: r => ⟨marksL a t.f0.length, a + t.f0.length⟩ :: marksT (a + t.f0.length + 1) r
theorem marksT_length : ∀ (l : List S65) (a : Int), (marksT a l).length = l.length
 | [], _ => rfl
 | t :: r, a => by simp [marksT, marksT_length r]
theorem lenT_append : ∀ (a b : List S65), lenT (a ++ b) = lenT a + lenT b
 | [], b => by simp [lenT]
 | f :: r, b => by simp only [List.cons_append, lenT, lenT_append r b]; omega
theorem lenT_take (l : List S65) (i : Nat) : lenT (l.take i) ≤ lenT l := by
 conv => rhs; rw [← List.take_append_drop i l]
 rw [lenT_append]; omega
theorem marksT_append : ∀ (l m : List S65) (a : Int), marksT a (l ++ m) = marksT a l ++ marksT (a + lenT l) m
 | [], m, a => by simp [marksT, lenT]
 | f :: r, m, a => by
  simp only [List.cons_append, marksT, lenT, marksT_append r m]
  rw [show a + (f.f0.length : Int) + 1 + (lenT r : Int) = a + ((f.f0.length + 1 + lenT r : Nat) : Int) by omega]
theorem heldT_l0 (l : List S65) (a : Int) (h0 : 0 ≤ a) (hb : a + lenT l ≤ 1000000000000000) (hn : l.length ≤ 1000000000000) : ∀ (d i : Nat), i + d = l.length → Ev (fun k => laws_heldTermS.l0 k (marksT a l) (a + lenT (l.take i)) (i : Int)) (a + lenT l) := by
 intro d
 induction d with
 | zero =>
  intro i hi
  refine Ev.step (fun k => by rw [laws_heldTermS.l0]) ?_
  simp only [marksT_length, if_neg (show ¬ ((i : Int) < (l.length : Int)) by omega)]
  rw [List.take_of_length_le (by omega)]
  exact ev_val rfl
 | succ d ih =>
  intro i hi
  have hs : l.take (i + 1) = l.take i ++ [rd_T65 l (i : Int)] := by
   rw [List.take_succ_eq_append_getElem (show i < l.length by omega)]
   simp [rd_T65, List.getD_eq_getElem?_getD, List.getElem?_eq_getElem (show i < l.length by omega)]
  have hd : l.drop i = rd_T65 l (i : Int) :: l.drop (i + 1) := by
   rw [List.drop_eq_getElem_cons (show i < l.length by omega)]
   simp [rd_T65, List.getD_eq_getElem?_getD, List.getElem?_eq_getElem (show i < l.length by omega)]
  have hr : rd_T65 (marksT a l) (i : Int) = ⟨marksL (a + lenT (l.take i)) (rd_T65 l (i : Int)).f0.length, a + lenT (l.take i) + (rd_T65 l (i : Int)).f0.length⟩ := by
   have e : marksT a l = marksT a (l.take i) ++ marksT (a + lenT (l.take i)) (l.drop i) := by rw [← marksT_append, List.take_append_drop]
   have hl : (marksT a (l.take i)).length = i := by rw [marksT_length]; simp; omega
   rw [e, hd, marksT]
   generalize rd_T65 l (i : Int) = t
   simp only [rd_T65, Int.toNat_natCast]
   rw [List.getD_eq_getElem?_getD, List.getElem?_append_right (by omega), hl, Nat.sub_self]
   rfl
  have hl3 := lenT_take l (i + 1)
  have hl2 : lenT (l.take (i + 1)) = lenT (l.take i) + (rd_T65 l (i : Int)).f0.length + 1 := by rw [hs, lenT_append]; simp [lenT]; omega
  refine Ev.step (fun k => by rw [laws_heldTermS.l0]) ?_
  simp only [marksT_length, if_pos (show ((i : Int) < (l.length : Int)) by omega), if_pos (show (0 : Int) ≤ (i : Int) by omega), hr, wr1 i l.length (by omega) (by omega)]
  generalize (rd_T65 l (i : Int)).f0.length = n at *
  refine Ev.bind (ev_held n (a + lenT (l.take i)) (by omega) (by omega)) ?_
  simp only [if_neg (show ¬ (a + (lenT (l.take i) : Int) + (n : Int) < 0) by omega), if_true]
  rw [wrS _ (by omega) (by omega), show a + (lenT (l.take i) : Int) + (n : Int) + 1 = a + (lenT (l.take (i + 1)) : Int) by omega]
  exact ih (i + 1) (by omega)
theorem ev_heldSum (p : Int) (l : List S65) (a : Int) (h0 : 0 ≤ a) (hb : a + lenT l ≤ 1000000000000000) (hn : l.length ≤ 1000000000000) : Ev (fun k => laws_heldSum.f k p (marksT a l) a) (a + lenT l) := by
 unfold laws_heldSum.f laws_heldTermS.f
 have := heldT_l0 l a h0 hb hn l.length 0 (by omega)
 refine Ev.bind (by simpa [lenT] using this) ?_
 simp only [if_neg (show ¬ (a + (lenT l : Int) < 0) by omega)]
 exact Ev.now _
end Go.Proofs.Ytgcgeoglhebonaa.P
end
section
namespace Go.Proofs.Ytgcgeoglhebonaa.P
open Go.RowKit Go.Maps Go.Proofs.YtgcgeoglhebonaaW.PrintWords Go.Proofs.YtgcgeoglhebonaaW.PrintLast Go.Proofs.YtgcgeoglhebonaaW.PrintMore
set_option linter.unusedVariables false
set_option linter.unusedSimpArgs false
def blkT (u : Value) (es : List TermV) (k : Nat) : Prop := u.ownBlock = some k ∨ ∃ e ∈ es, wblk e = some k
theorem blkT_range {w : World} {base : Nat} {u : Value} {es : List TermV} (h : TRow w base u es) : ∀ k, blkT u es k → base ≤ k ∧ k < w.heap.size := fun k hk => by
 rcases hk with hk | ⟨e, he, hk⟩
 · exact ⟨own_base h.row k hk, own_lt h.row k hk⟩
 · by_cases hl : e.l = []
   · unfold wblk at hk; rw [if_pos hl] at hk; cases hk
   · rw [wblk_own hl] at hk
     exact ⟨Kd.R_base (h.words e he hl) k hk, Kd.R_lt (h.words e he hl) k hk⟩
theorem TRow.kept {w w1 : World} {base : Nat} {u : Value} {es : List TermV} {S : Nat → Prop} (h : TRow w base u es) (hk : Kept w w1 S) (hn : ∀ k, blkT u es k → ¬ S k) : TRow w1 base u es := by
 refine ⟨own_move h.row (fun k ho => hk.2 k (own_lt h.row k ho) (hn k (.inl ho))), fun e he hl => ?_, h.apart⟩
 have h1 := Kd.R_flat (ok' := fun k => wblk e = some k) (fun x => x) (h.words e he hl) (fun k hk _ => by rw [wblk_own hl]; exact hk)
 exact Kd.R_mono (Kd.R_kept h1 hk (fun k hx => hn k (.inr ⟨e, he, hx⟩))) (fun _ _ => trivial)
def markE (a : Int) (e : TermV) : TermV := ⟨e.A, e.c, marksL a e.l.length, a + e.l.length⟩
def marksE (a : Int) : List TermV → List TermV
 | [] => []
 | e :: r => markE a e :: marksE (a + e.l.length + 1) r
theorem marksE_term : ∀ (es : List TermV) (a : Int), (marksE a es).map termOf = marksT a (es.map termOf)
 | [], _ => rfl
 | e :: r, a => by simp only [marksE, List.map_cons, marksT, marksE_term r]; rfl
theorem marksE_length : ∀ (es : List TermV) (a : Int), (marksE a es).length = es.length
 | [], _ => rfl
 | e :: r, a => by simp [marksE, marksE_length r]
theorem marksE_append : ∀ (l m : List TermV) (a : Int), marksE a (l ++ m) = marksE a l ++ marksE (a + lenT (l.map termOf)) m
 | [], m, a => by simp [marksE, lenT]
 | f :: r, m, a => by
  simp only [List.cons_append, marksE, lenT, marksE_append r m, List.map_cons]
  rw [show a + (f.l.length : Int) + 1 + (lenT (r.map termOf) : Int) = a + (((termOf f).f0.length + 1 + lenT (r.map termOf) : Nat) : Int) by show _ = a + ((f.l.length + 1 + lenT (r.map termOf) : Nat) : Int); omega]
theorem markE_wblk (a : Int) (e : TermV) : wblk (markE a e) = wblk e := by
 unfold wblk markE
 by_cases h : e.l = []
 · simp [h, marksL]
 · have : marksL a e.l.length ≠ [] := fun hh => by
    have := congrArg List.length hh
    rw [marksL_length] at this
    exact h (List.eq_nil_of_length_eq_zero (by simpa using this))
   simp [h, this]
theorem markI_nil (A : Option Addr) (c : Nat) (a : Int) (w : World) :
 Calls Try.prog 64 #[.slice A 0 c, .int .i64 a] w fun e w' => e = .returned (.int .i64 a) ∧ Below w.heap.size w w' := by
 have hlt : ((0 : Nat) : Int) = 0 := rfl
 go_enter Try.func64, Try.ntmps64
 go_wp2
 go_loopw [5, 1] (fun i u wr => i = .int .i64 0 ∧ u = .int .i64 a ∧ Aside0 (Below w.heap.size w wr)) (fun i _ _ => 0)
 case atStart => exact ⟨rfl, rfl, ⟨Below.refl _ _⟩⟩
 case round =>
  obtain ⟨rfl, rfl, HB⟩ := hrel
  go_wp2
  go_ret
  exact ⟨by rfl, HB.out⟩
theorem markW_any (e : TermV) (a : Int) (w0 w : World) (hB : Below w0.heap.size w0 w) (h : e.l ≠ [] → Kd.R (Kd.int .i64) 2 w w0.heap.size (fun _ => True) (.slice e.A e.l.length e.c) e.l) (h0 : 0 ≤ a) (hb : a + e.l.length ≤ 1000000000000000) :
 Calls Try.prog 64 #[.slice e.A e.l.length e.c, .int .i64 a] w fun x w' => x = .returned (.int .i64 (a + e.l.length)) ∧ (e.l ≠ [] → Kd.R (Kd.int .i64) 2 w' w0.heap.size (fun _ => True) (.slice e.A e.l.length e.c) (marksL a e.l.length)) ∧ Below w0.heap.size w0 w' ∧ Kept w w' (fun k => wblk e = some k) := by
 by_cases hl : e.l = []
 · have hlen : e.l.length = 0 := by rw [hl]; rfl
   rw [hlen]
   refine (markI_nil e.A e.c a w).mono ?_
   rintro x w' ⟨rfl, hb1⟩
   exact ⟨by simp, fun hh => absurd hl hh, below_step hB hb1, Kept.of_below hb1 _⟩
 · have h1 := Kd.R_flat (ok' := fun k => wblk e = some k) (fun x => x) (h hl) (fun k hk _ => by rw [wblk_own hl]; exact hk)
   refine (markI_any _ e.l a w0 w _ hB h1 h0 hb).mono ?_
   rintro x w' ⟨rfl, hr, hb1, hk⟩
   exact ⟨rfl, fun _ => Kd.R_mono hr (fun _ _ => trivial), hb1, hk⟩
theorem take_succ_E (l : List TermV) (k : Nat) (e : TermV) (h : l[k]? = some e) : l.take (k + 1) = l.take k ++ [e] := by
 obtain ⟨hk, rfl⟩ := List.getElem?_eq_some_iff.1 h
 exact List.take_succ_eq_append_getElem hk
theorem drop_cons_E (l : List TermV) (k : Nat) (e : TermV) (h : l[k]? = some e) : l.drop k = e :: l.drop (k + 1) := by
 obtain ⟨hk, rfl⟩ := List.getElem?_eq_some_iff.1 h
 exact List.drop_eq_getElem_cons hk
theorem flat_set (l r : List TermV) (e e' : TermV) (hA : e'.A = e.A) (hc : e'.c = e.c) (hl : e'.l.length = e.l.length) : ((l ++ e :: r).flatMap encT).set (l.length * 2 + 1) (.int .i64 e'.v) = (l ++ e' :: r).flatMap encT := by
 rw [List.flatMap_append, List.flatMap_append, List.flatMap_cons, List.flatMap_cons, List.set_append_right _ _ (by rw [flat_length]; omega), flat_length]
 congr 1
 rw [show l.length * 2 + 1 - l.length * 2 = 1 by omega]
 simp [encT, hA, hc, hl]
theorem TRow.marked {w w1 : World} {base g cap : Nat} {l r : List TermV} {e e' : TermV} (h : TRow w base (.slice (some ⟨g, 0, none⟩) (l ++ e :: r).length cap) (l ++ e :: r)) (hA : e'.A = e.A) (hc : e'.c = e.c) (hl : e'.l.length = e.l.length) (hw : wblk e' = wblk e)
 (hk : Kept w w1 (fun k => wblk e = some k)) (hr : e'.l ≠ [] → Kd.R (Kd.int .i64) 2 w1 base (fun _ => True) (.slice e'.A e'.l.length e'.c) e'.l) :
 TRow (w1.setCell ⟨g, l.length * 2 + 1, none⟩ (.int .i64 e'.v)) base (.slice (some ⟨g, 0, none⟩) (l ++ e' :: r).length cap) (l ++ e' :: r) := by
 have hmem : e ∈ l ++ e :: r := by simp
 have hgw : wblk e ≠ some g := fun hh => by
  have hle : e.l ≠ [] := fun hn => by unfold wblk at hh; rw [if_pos hn] at hh; cases hh
  obtain ⟨c1, t1⟩ := own_typed h.row g rfl
  obtain ⟨c2, t2⟩ := Kd.R_typed (h.words e hmem hle) g (by rw [← wblk_own hle]; exact hh)
  rw [t1] at t2
  injection t2 with t3
  injection t3 with _ t4 _
  exact absurd t4 (by decide)
 have hrow1 : w1.ownsRow base 65 2 (.slice (some ⟨g, 0, none⟩) (l ++ e :: r).length cap) (l ++ e :: r).length ((l ++ e :: r).flatMap encT) :=
  own_move h.row (fun k ho => hk.2 k (own_lt h.row k ho) (fun hx => hgw (by
   have hh : g = k := by simpa [Value.ownBlock] using ho
   rw [hh]; exact hx)))
 have hst := (hrow1.stored (l.length * 2 + 1) (.int .i64 e'.v)).1
 rw [flat_set l r e e' hA hc hl] at hst
 have hlen : (l ++ e' :: r).length = (l ++ e :: r).length := by simp
 obtain ⟨cg, hg1⟩ := own_typed hrow1 g rfl
 have hap := List.pairwise_append.1 h.apart
 have hap2 := List.pairwise_cons.1 hap.2.1
 have other : ∀ a ∈ l ++ e :: r, (∀ k, wblk a = some k → wblk e ≠ some k) → a.l ≠ [] → Kd.R (Kd.int .i64) 2 (w1.setCell ⟨g, l.length * 2 + 1, none⟩ (.int .i64 e'.v)) base (fun _ => True) (.slice a.A a.l.length a.c) a.l := fun a ha hne hla => by
  have h1 := Kd.R_flat (ok' := fun k => wblk a = some k) (fun x => x) (h.words a ha hla) (fun k hk _ => by rw [wblk_own hla]; exact hk)
  exact Kd.R_set (Kd.R_mono (Kd.R_kept h1 hk (fun k hx => hne k hx)) (fun _ _ => trivial)) hg1 (fun q hq => by simp [Kd.int, Kd.scalar] at hq; rw [hq]; decide) _ _
 refine ⟨by rw [hlen]; exact hst, fun a ha hla => ?_, ?_⟩
 · rcases List.mem_append.1 ha with ha | ha
   · exact other a (List.mem_append_left _ ha) (fun k h1 h2 => hap.2.2 a ha e List.mem_cons_self k h1 h2) hla
   · rcases List.mem_cons.1 ha with rfl | ha
     · exact Kd.R_set (hr hla) hg1 (fun q hq => by simp [Kd.int, Kd.scalar] at hq; rw [hq]; decide) _ _
     · exact other a (List.mem_append_right _ (List.mem_cons_of_mem _ ha)) (fun k h1 h2 => hap2.1 a ha k h2 h1) hla
 · rw [List.pairwise_append]
   refine ⟨hap.1, List.pairwise_cons.2 ⟨fun b hb k h1 h2 => hap2.1 b hb k (by rw [← hw]; exact h1) h2, hap2.2⟩, fun a ha b hb k h1 h2 => ?_⟩
   rcases List.mem_cons.1 hb with rfl | hb
   · exact hap.2.2 a ha e List.mem_cons_self k h1 (by rw [← hw]; exact h2)
   · exact hap.2.2 a ha b (List.mem_cons_of_mem _ hb) k h1 h2
theorem own_form {w : World} {base e size n c : Nat} {A : Option Addr} {xs : List Value} (h : w.ownsRow base e size (.slice A n c) n xs) (hn : 0 < n) : ∃ g, A = some ⟨g, 0, none⟩ := by
 rcases h.2 with ⟨he, hx⟩ | ⟨g, cap, cur, he, _⟩
 · injection he with h1 h2 h3
   omega
 · injection he with h1 h2 h3
   exact ⟨g, h1⟩
theorem markTermS_any (u : Value) (es : List TermV) (a : Int) (w0 w : World) (hB : Below w0.heap.size w0 w) (h : TRow w w0.heap.size u es) (h0 : 0 ≤ a) (hb : a + lenT (es.map termOf) ≤ 1000000000000000) (hn : es.length ≤ 1000000000000) :
 Calls Try.prog 29 #[u, .int .i64 a] w fun e w' => e = .returned (.int .i64 (a + lenT (es.map termOf))) ∧ TRow w' w0.heap.size u (marksE a es) ∧ Below w0.heap.size w0 w' ∧ Kept w w' (blkT u es) := by
 have HT := am h
 have HB := am hB
 obtain ⟨A, c, rfl⟩ := h.slice
 clear h hB
 go_enter Try.func29, Try.ntmps29
 go_wp2
 go_loopw [5, 1] (fun i u wr => ∃ k : Nat, k ≤ es.length ∧ i = .int .i64 k ∧ u = .int .i64 (a + lenT ((es.take k).map termOf)) ∧ Aside0 (TRow wr w0.heap.size (.slice A es.length c) (marksE a (es.take k) ++ es.drop k)) ∧ Aside0 (Below w0.heap.size w0 wr) ∧ Aside0 (Kept w wr (blkT (.slice A es.length c) es)))
  (fun i _ _ => es.length - (intOf i).toNat)
 case atStart => exact ⟨0, Nat.zero_le _, rfl, by simp [lenT], ⟨by simpa [marksE] using HT.out⟩, HB, ⟨Kept.refl _ _⟩⟩
 case round =>
  obtain ⟨k, hk, rfl, rfl, HT2, HB2, HK2⟩ := hrel
  by_cases hlt : k < es.length
  · obtain ⟨e, he⟩ : ∃ e, es[k]? = some e := ⟨_, List.getElem?_eq_getElem hlt⟩
    have hlm : (marksE a (es.take k)).length = k := by rw [marksE_length]; simp; omega
    have hd := drop_cons_E es k e he
    rw [hd] at HT2
    have hlen : (marksE a (es.take k) ++ e :: es.drop (k + 1)).length = es.length := by simp [hlm]; omega
    have hrow := HT2.out.row
    rw [hlen] at hrow
    obtain ⟨g, rfl⟩ := own_form hrow (by omega)
    have hseg := flat_get (marksE a (es.take k) ++ e :: es.drop (k + 1)) k
    have hek : (marksE a (es.take k) ++ e :: es.drop (k + 1))[k]? = some e := by rw [List.getElem?_append_right (by omega), hlm, Nat.sub_self]; rfl
    have hx0 : wr.cell? ⟨g, k * 2, none⟩ = some (.slice e.A e.l.length e.c) := by
     have h1 := hrow.cellAt (k * 2) (by omega)
     rw [h1]
     have := hseg 0 e hek (by omega)
     simpa [encT] using this
    have hx1 : wr.cell? ⟨g, k * 2 + 1, none⟩ = some (.int .i64 e.v) := by
     have h1 := hrow.cellAt (k * 2 + 1) (by omega)
     rw [h1]
     have := hseg 1 e hek (by omega)
     simpa [encT] using this
    have hmem : e ∈ marksE a (es.take k) ++ e :: es.drop (k + 1) := by simp
    have hts := take_succ_E es k e he
    have hl2 : lenT ((es.take (k + 1)).map termOf) = lenT ((es.take k).map termOf) + e.l.length + 1 := by rw [hts, List.map_append, lenT_append]; simp [lenT, termOf]; omega
    have hl3 : lenT ((es.take (k + 1)).map termOf) ≤ lenT (es.map termOf) := by rw [List.map_take]; exact lenT_take _ _
    have HW := am (markW_any e (a + lenT ((es.take k).map termOf)) w0 wr HB2.out (fun hl => HT2.out.words e hmem hl) (by omega) (by omega))
    have HTS := am hts
    have HEM := am (List.mem_of_getElem? he)
    have HL2 := am hl2
    have HLM := am hlm
    have HLEN := am hlen
    have hgw : wblk e ≠ some g := fun hh => by
     have hle : e.l ≠ [] := fun hn => by unfold wblk at hh; rw [if_pos hn] at hh; cases hh
     obtain ⟨c1, t1⟩ := own_typed hrow g rfl
     obtain ⟨c2, t2⟩ := Kd.R_typed (HT2.out.words e hmem hle) g (by rw [← wblk_own hle]; exact hh)
     rw [t1] at t2
     injection t2 with t3
     injection t3 with _ t4 _
     exact absurd t4 (by decide)
    have HGW := am hgw
    have HROW := am hrow
    have hbd : 0 ≤ a + (lenT ((es.take k).map termOf) : Int) + (e.l.length : Int) ∧ a + (lenT ((es.take k).map termOf) : Int) + (e.l.length : Int) ≤ 1000000000000000 := by omega
    generalize hacc : a + (lenT ((es.take k).map termOf) : Int) = acc at *
    have HACC := am hacc
    clear hseg hek hmem hts hl2 hl3 hlm hlen hd hacc hgw hrow
    go_wp2_with (first
     | (go_at_call 64; go_must (refine HW.out.mono ?_); rintro x w1 ⟨rfl, hr1, hb1, hk1⟩; have HR1 := am hr1; have HB1 := am hb1; have HK1 := am hk1; have hst1 := (hk1.2 g (own_lt HROW.out g rfl) HGW.out); have hc1 : w1.cell? ⟨g, k * 2 + 1, none⟩ = some (.int .i64 e.v) := (World.cell?_of_block (w := wr) (a := ⟨g, k * 2 + 1, none⟩) hst1).trans hx1; have hf1 : w1.frozen? ⟨g, k * 2 + 1, none⟩ = false := (own_typed HROW.out g rfl).elim (fun cs hcs => blk_frozen (hst1.trans hcs) _); clear hr1 hb1 hk1 hst1)
     | go_in)
    go_roundw
    case rel =>
     have hl2 := HL2.out
     have hacc := HACC.out
     refine ⟨k + 1, by omega, by go_num, by congr 1; omega, ⟨?_⟩, ⟨HB1.out.setCell (p := ⟨g, k * 2 + 1, none⟩) (own_base HROW.out g rfl) _⟩, ⟨?_⟩⟩
     · have h1 := HT2.out
       rw [← HLEN.out] at h1
       have h2 := TRow.marked (e' := markE acc e) h1 rfl rfl (by simp [markE, marksL_length]) (markE_wblk _ _) HK1.out (fun hl => by
        have hle : e.l ≠ [] := fun hn => hl (by simp [markE, hn, marksL])
        have := HR1.out hle
        have e1 : (markE acc e).l.length = e.l.length := by simp [markE, marksL_length]
        rw [e1]
        exact this)
       rw [HLM.out] at h2
       have e2 : (marksE a (es.take k) ++ markE acc e :: es.drop (k + 1)).length = es.length := by
        have := HLEN.out
        simp only [List.length_append, List.length_cons] at this ⊢
        exact this
       rw [e2] at h2
       have e3 : marksE a (es.take (k + 1)) ++ es.drop (k + 1) = marksE a (es.take k) ++ markE acc e :: es.drop (k + 1) := by
        rw [HTS.out, marksE_append, hacc, List.append_assoc]
        rfl
       rw [e3]
       exact h2
     · refine (HK2.out.then_ HK1.out (fun j hj => .inl (.inr ⟨e, HEM.out, hj⟩))).setCell (p := ⟨g, k * 2 + 1, none⟩) (.inl (.inl rfl)) _
    case measure => simp [intOf]; omega
  · obtain rfl : k = es.length := by omega
    have HS3 := HT2.out
    rw [List.take_length, List.drop_length, List.append_nil] at HS3
    have HS4 := am HS3
    clear HS3
    rw [List.take_length]
    go_wp2
    go_ret
    exact ⟨by rfl, HS4.out, HB2.out, HK2.out⟩
theorem markSum_any (p : Int) (u : Value) (es : List TermV) (a : Int) (w0 w : World) (hB : Below w0.heap.size w0 w) (h : TRow w w0.heap.size u es) (h0 : 0 ≤ a) (hb : a + lenT (es.map termOf) ≤ 1000000000000000) (hn : es.length ≤ 1000000000000) :
 Calls Try.prog 11 #[.agg #[.int .i64 p, u], .int .i64 a] w fun e w' => e = .returned (.int .i64 (a + lenT (es.map termOf))) ∧ TRow w' w0.heap.size u (marksE a es) ∧ Below w0.heap.size w0 w' ∧ Kept w w' (blkT u es) := by
 have hu3 := Try.underlying28
 have hbx := below_alloc (Below.refl w.heap.size w) (.cells #[.int .i64 p, u] 28)
 have HM := am (markTermS_any u es a w0 (w.alloc (.cells #[.int .i64 p, u] 28)) (below_step hB hbx) (h.below hbx) h0 hb hn)
 have hz1 := (blk_cell (MapKept.heap_alloc w (.cells #[.int .i64 p, u] 28)).1 1).trans (rfl : _ = some u)
 have HBX := am hbx
 obtain ⟨A, c, rfl⟩ := h.slice
 clear hB h hbx
 go_enter Try.func11, Try.ntmps11
 go_wp2_with fail
 go_must (refine HM.out.mono ?_)
 rintro e w1 ⟨rfl, h1, h2, h3⟩
 have HR := am (And.intro h1 (And.intro h2 h3))
 clear h1 h2 h3 HM hz1
 go_wp2
 go_ret
 exact ⟨by rfl, HR.out.1, HR.out.2.1, (Kept.of_below HBX.out _).then_ HR.out.2.2 (fun k hk => .inl hk)⟩
end Go.Proofs.Ytgcgeoglhebonaa.P
end
section
namespace Go.Proofs.Ytgcgeoglhebonaa.P
open Go.RowKit Go.Maps Go.Proofs.YtgcgeoglhebonaaW.PrintWords Go.Proofs.YtgcgeoglhebonaaW.PrintLast Go.Proofs.YtgcgeoglhebonaaW.PrintMore
set_option linter.unusedVariables false
set_option linter.unusedSimpArgs false
theorem kvPut_length {α β : Type} [DecidableEq α] (k : α) (v : β) : ∀ l : List (α × β), (kvPut l k v).length ≤ l.length + 1
 | [] => Nat.le_refl _
 | a :: r => by
  have ih := kvPut_length k v r
  unfold kvPut
  split
  · simp
  · simp only [List.length_cons]; omega
theorem addAllG_length (p : Int) : ∀ (adds G : List (List Int × Int)), (addAllG p G adds).length ≤ G.length + adds.length
 | [], G => Nat.le_refl _
 | a :: r, G => by
  have h1 := addAllG_length p r (addG p G a.1 a.2)
  have h2 : (addG p G a.1 a.2).length ≤ G.length + 1 := kvPut_length _ _ _
  show (addAllG p (addG p G a.1 a.2) r).length ≤ _
  simp only [List.length_cons]; omega
theorem addsT_length (l : List S65) (k : Int) : (addsT l k).length = l.length := by simp [addsT]
structure SumRow (w : World) (base : Nat) (p : Int) (f : List Int → Int) (u : Value) (es : List TermV) : Prop where
 row : TRow w base u es
 sum : SumOf p f (es.map termOf)
 small : ∀ e ∈ es, smallW e.l
theorem SumRow.below {w w1 : World} {base : Nat} {p : Int} {f : List Int → Int} {u : Value} {es : List TermV} (h : SumRow w base p f u es) (hb : Below w.heap.size w w1) : SumRow w1 base p f u es := ⟨h.row.below hb, h.sum, h.small⟩
theorem SumRow.lower {w : World} {base base' : Nat} {p : Int} {f : List Int → Int} {u : Value} {es : List TermV} (h : SumRow w base p f u es) (hb : base' ≤ base) : SumRow w base' p f u es := ⟨h.row.lower hb, h.sum, h.small⟩
theorem SumRow.congr {w : World} {base : Nat} {p : Int} {f g : List Int → Int} {u : Value} {es : List TermV} (h : SumRow w base p f u es) (hg : ∀ a, f a % p = g a % p) : SumRow w base p g u es := ⟨h.row, h.sum.congr hg, h.small⟩
theorem sumS_any (base g b : Nat) (p : Int) (f : List Int → Int) (G : List (List Int × Int)) (w : World) (hG : IsG w base g b p G) (hf : GOf p f G) (hlen : G.length ≤ 1000000) :
 Calls Try.prog 59 #[.pointer (some ⟨g, 0, none⟩)] w fun e w' => ∃ u es, e = .returned (.agg #[.int .i64 p, u]) ∧ SumRow w' w.heap.size p f u es ∧ es.length ≤ G.length ∧ Below w.heap.size w w' := by
 refine (sumG_any base g b p G w hG hlen).mono ?_
 rintro e w' ⟨u, es, rfl, h1, h2, h3, h4, h5⟩
 refine ⟨u, es, rfl, ⟨h3, ?_, h4⟩, ?_, h5⟩
 · refine SumOf.of_perm hf _ ?_ (by simpa [List.pairwise_map] using h2)
   have := h1.map mkT
   rw [List.map_map] at this
   exact this
 · have := h1.length_eq
   have h2 := List.length_filter_le (fun a : List Int × Int => decide (a.2 ≠ 0)) G
   simp only [List.length_map] at this
   omega
theorem plus_any (q0 q1 : Int) (A0 : Option Addr) (c0 : Nat) (xs : List S65) (A1 : Option Addr) (c1 : Nat) (ys : List S65) (k : Int) (w : World) (hp : 0 < q0) (hp2 : q0 ≤ 1000)
 (hx : k65.C w A0 xs.length xs) (hy : k65.C w A1 ys.length ys) (hsx : ∀ t ∈ xs, smallW t.f0 ∧ -1000 ≤ t.f1 ∧ t.f1 ≤ 1000) (hsy : ∀ t ∈ ys, smallW t.f0 ∧ -1000 ≤ t.f1 ∧ t.f1 ≤ 1000) (hk : -1000 ≤ k ∧ k ≤ 1000) (hlx : xs.length ≤ 100000) (hly : ys.length ≤ 100000) :
 Calls Try.prog 26 #[.agg #[.int .i64 q0, .slice A0 xs.length c0], .agg #[.int .i64 q1, .slice A1 ys.length c1], .int .i64 k] w fun e w' => ∃ u es, e = .returned (.agg #[.int .i64 q0, u]) ∧ SumRow w' w.heap.size q0 (fun x => tot (addsT xs 1) x + tot (addsT ys k) x) u es ∧ Below w.heap.size w w' := by
 have hu3 := Try.underlying28
 have hb1 := below_alloc (Below.refl w.heap.size w) (.cells #[.int .i64 q0, .slice A0 xs.length c0] 28)
 have hb2 := below_alloc hb1 (.cells #[.int .i64 q1, .slice A1 ys.length c1] 28)
 have hb3 := below_alloc hb2 (.cells #[.int .i64 0, .slice none 0 0] 28)
 have hk0 := (MapKept.heap_alloc w (.cells #[.int .i64 q0, .slice A0 xs.length c0] 28)).1
 have hk1 := (MapKept.heap_alloc (w.alloc (.cells #[.int .i64 q0, .slice A0 xs.length c0] 28)) (.cells #[.int .i64 q1, .slice A1 ys.length c1] 28)).1
 have hk2 := (MapKept.heap_alloc ((w.alloc (.cells #[.int .i64 q0, .slice A0 xs.length c0] 28)).alloc (.cells #[.int .i64 q1, .slice A1 ys.length c1] 28)) (.cells #[.int .i64 0, .slice none 0 0] 28)).1
 have HBK := am (And.intro (blk_al (o' := .cells #[.int .i64 0, .slice none 0 0] 28) (blk_al (o' := .cells #[.int .i64 q1, .slice A1 ys.length c1] 28) hk0)) (And.intro (blk_al (o' := .cells #[.int .i64 0, .slice none 0 0] 28) hk1) hk2))
 simp only [size_al] at HBK
 have HB := am hb3
 have HX := am hx
 have HY := am hy
 have HSX := am hsx
 have HSY := am hsy
 have HWS := am (show (((w.alloc (.cells #[.int .i64 q0, .slice A0 xs.length c0] 28)).alloc (.cells #[.int .i64 q1, .slice A1 ys.length c1] 28)).alloc (.cells #[.int .i64 0, .slice none 0 0] 28)).heap.size = w.heap.size + 1 + 1 + 1 by simp)
 clear hb1 hb2 hb3 hk0 hk1 hk2 hx hy hsx hsy
 go_enter Try.func26, Try.ntmps26
 go_wp2_with fail
 generalize ((w.alloc (.cells #[.int .i64 q0, .slice A0 xs.length c0] 28)).alloc (.cells #[.int .i64 q1, .slice A1 ys.length c1] 28)).alloc (.cells #[.int .i64 0, .slice none 0 0] 28) = w0 at *
 have HSS := am (fun W (hb : Below w0.heap.size w0 W) => show W.cell? ⟨w.heap.size, 0, none⟩ = some (.int .i64 q0) ∧ W.cell? ⟨w.heap.size, 1, none⟩ = some (.slice A0 xs.length c0) ∧ W.cell? ⟨w.heap.size + 1, 0, none⟩ = some (.int .i64 q1) ∧ W.cell? ⟨w.heap.size + 1, 1, none⟩ = some (.slice A1 ys.length c1) from
  ⟨(blk_cell (blk_below HBK.out.1 hb) 0).trans rfl, (blk_cell (blk_below HBK.out.1 hb) 1).trans rfl, (blk_cell (blk_below HBK.out.2.1 hb) 0).trans rfl, (blk_cell (blk_below HBK.out.2.1 hb) 1).trans rfl⟩)
 have HBZ := am (below_drew (Below.refl w0.heap.size w0))
 refine start_ (n := 10) (S := fun w' => w'.cell? ⟨w.heap.size, 0, none⟩ = some (.int .i64 q0) ∧ w'.cell? ⟨w.heap.size, 1, none⟩ = some (.slice A0 xs.length c0) ∧ w'.cell? ⟨w.heap.size + 1, 0, none⟩ = some (.int .i64 q1) ∧ w'.cell? ⟨w.heap.size + 1, 1, none⟩ = some (.slice A1 ys.length c1)) (ds := [9]) (bs 0 10) (by kernel_rfl) rfl rfl (HSS.out _ HBZ.out) (fun hHeld => ?_)
 generalize w0.drew = wz at HBZ hHeld ⊢
 refine pure_ (i := 0) (N := (some 7)) (v := ?_) (a' := ?_) (bs 1 10) rfl rfl (by kernel_rfl) (fun _ _ _ h => h) (Or.inl ⟨by rfl, ?_⟩) ?_ ?_; rotate_left; intro w'; go_simp; with_reducible rfl; rotate_left; simp only [Act.put, qq1, qq2, qq3, i64_w, i32_w]; rfl
 refine take_ (i := 1) (N := (some 8)) (v := ?_) (a' := ?_) (bs 3 10) rfl rfl (by kernel_rfl) (fun _ _ _ h => h) (Or.inl ⟨by rfl, ?_⟩) hHeld ?_ ?_; rotate_left; rintro w' ⟨s0, s1, s2, s3⟩; go_simp; with_reducible rfl; rotate_left; simp only [Act.put, qq1, qq2, qq3, i64_w, i32_w]; rfl
 refine take_ (i := 3) (N := (some 10)) (v := ?_) (a' := ?_) (bs 11 10) rfl rfl (by kernel_rfl) (fun _ _ _ h => h) (Or.inl ⟨by rfl, ?_⟩) hHeld ?_ ?_; rotate_left; rintro w' ⟨s0, s1, s2, s3⟩; go_simp; with_reducible rfl; rotate_left; simp only [Act.put, qq1, qq2, qq3, i64_w, i32_w]; rfl
 refine take_ (i := 5) (N := (some 12)) (v := ?_) (a' := ?_) (bs 43 10) rfl rfl (by kernel_rfl) (fun _ _ _ h => h) (Or.inl ⟨by rfl, ?_⟩) hHeld ?_ ?_; rotate_left; rintro w' ⟨s0, s1, s2, s3⟩; go_simp; with_reducible rfl; rotate_left; simp only [Act.put, qq1, qq2, qq3, i64_w, i32_w]; rfl
 refine pure_ (i := 6) (N := (some 13)) (v := ?_) (a' := ?_) (bs 107 10) rfl rfl (by kernel_rfl) (fun _ _ _ h => h) (Or.inl ⟨by rfl, ?_⟩) ?_ ?_; rotate_left; intro w'; go_simp; with_reducible rfl; rotate_left; simp only [Act.put, qq1, qq2, qq3, i64_w, i32_w]; rfl
 refine one_ (i := 2) (N := (some 9)) (bs 111 10) rfl rfl (by kernel_rfl) (by decide) (fun K hK => ?_)
 refine goes_ Try.func57 (by kernel_rfl) rfl #[.int .i64 q0] (by rfl) rfl rfl (by (try simp only [List.map_toArray, List.map_cons, List.map_nil]); rfl) ?_
 refine (newGather_any q0 wz).mono ?_
 rintro e w1 ⟨g, b, rfl, hg1, hb1⟩
 refine ⟨_, rfl, ?_⟩
 have HB1 := am (below_step HBZ.out hb1)
 have HG1 := am hg1
 clear hg1 hb1
 refine hK.out _ _ (HSS.out _ HB1.out) (fun hHeld => ?_)
 clear hK K
 refine norm_ (a' := ?_) ?_ ?_; rotate_left; show Act.put _ (some 9) _ = _; simp only [Act.put, qq1, qq2, qq3, i64_w, i32_w]; rfl
 have hbg : w0.heap.size ≤ b := by have := HG1.out.beb; have := HBZ.out.size; omega
 have HBG := am hbg
 have hws := HWS.out
 have HBW := am (fun W (h : Below w0.heap.size w0 W) => (below_step HB.out h : Below w.heap.size w W))
 have HCX := am (fun W (h : w1.grownBy W (some b)) => Kd.C_below HX.out (HBW.out _ (below_grown HB1.out HBG.out h)))
 have HCY := am (fun W (h : w1.grownBy W (some b)) => Kd.C_below HY.out (HBW.out _ (below_grown HB1.out HBG.out h)))
 clear hbg hws
 refine one_ (i := 4) (N := (some 11)) (bs 127 10) rfl rfl (by kernel_rfl) (by decide) (fun K hK => ?_)
 refine goes_ Try.func58 (by kernel_rfl) rfl #[.pointer (some ⟨g, 0, none⟩), .agg #[.int .i64 q0, .slice A0 xs.length c0], .int .i64 1] (by rfl) rfl rfl (by (try simp only [List.map_toArray, List.map_cons, List.map_nil]); rfl) ?_
 refine (addAll_any _ g b q0 q0 [] A0 c0 xs 1 w1 HG1.out hp (by omega) HCX.out HSX.out (by decide) (fun a ha => by cases ha) (by omega)).mono ?_
 rintro e w2 ⟨rfl, hg2, hb2⟩
 refine ⟨_, rfl, ?_⟩
 have HB2 := am (below_grown HB1.out HBG.out hb2)
 have HG2 := am hg2
 have HCY2 := am (fun W (h : w2.grownBy W (some b)) => HCY.out W (grown_then hb2 h))
 clear hg2 hb2
 refine hK.out _ _ (HSS.out _ HB2.out) (fun hHeld => ?_)
 clear hK K
 refine norm_ (a' := ?_) ?_ ?_; rotate_left; show Act.put _ (some 11) _ = _; simp only [Act.put, qq1, qq2, qq3, i64_w, i32_w]; rfl
 refine one_ (i := 7) (N := (some 14)) (bs 255 10) rfl rfl (by kernel_rfl) (by decide) (fun K hK => ?_)
 refine goes_ Try.func58 (by kernel_rfl) rfl #[.pointer (some ⟨g, 0, none⟩), .agg #[.int .i64 q1, .slice A1 ys.length c1], .int .i64 k] (by rfl) rfl rfl (by (try simp only [List.map_toArray, List.map_cons, List.map_nil]); rfl) ?_
 refine (addAll_any _ g b q0 q1 _ A1 c1 ys k w2 HG2.out hp (by omega) HCY2.out HSY.out hk (addAllG_range hp _ _ (fun a ha => by cases ha)) (by omega)).mono ?_
 rintro e w3 ⟨rfl, hg3, hb3⟩
 refine ⟨_, rfl, ?_⟩
 have HB3 := am (below_grown HB2.out HBG.out hb3)
 have HG3 := am hg3
 clear hg3 hb3
 refine hK.out _ _ (HSS.out _ HB3.out) (fun hHeld => ?_)
 clear hK K
 refine norm_ (a' := ?_) ?_ ?_; rotate_left; show Act.put _ (some 14) _ = _; simp only [Act.put, qq1, qq2, qq3, i64_w, i32_w]; rfl
 refine one_ (i := 8) (N := (some 15)) (bs 511 10) rfl rfl (by kernel_rfl) (by decide) (fun K hK => ?_)
 refine goes_ Try.func59 (by kernel_rfl) rfl #[.pointer (some ⟨g, 0, none⟩)] (by rfl) rfl rfl (by (try simp only [List.map_toArray, List.map_cons, List.map_nil]); rfl) ?_
 have hgf : GOf q0 (fun x => tot (addsT xs 1) x + tot (addsT ys k) x) (addAllG q0 (addAllG q0 [] (addsT xs 1)) (addsT ys k)) := (GOf.addAll hp _ (GOf.addAll hp _ (GOf.nil q0))).congr (fun x => by simp)
 have hgl : (addAllG q0 (addAllG q0 [] (addsT xs 1)) (addsT ys k)).length ≤ 200000 := by
  have h1 := addAllG_length q0 (addsT ys k) (addAllG q0 [] (addsT xs 1))
  have h2 := addAllG_length q0 (addsT xs 1) []
  rw [addsT_length] at h1 h2
  simp at h2
  omega
 refine (sumS_any _ g b q0 _ _ w3 HG3.out hgf (by omega)).mono ?_
 rintro e w4 ⟨u, es, rfl, h4, hl4, hb4⟩
 refine ⟨_, rfl, ?_⟩
 have HB4 := am (below_step HB3.out hb4)
 have HR4 := am (h4.lower (show w.heap.size ≤ w3.heap.size from (HBW.out _ HB3.out).size))
 clear h4 hl4 hb4 hgf hgl
 refine hK.out _ _ (HSS.out _ HB4.out) (fun hHeld => ?_)
 clear hK K
 refine norm_ (a' := ?_) ?_ ?_; rotate_left; show Act.put _ (some 15) _ = _; simp only [Act.put, qq1, qq2, qq3, i64_w, i32_w]; rfl
 obtain ⟨Au, cu, rfl⟩ := HR4.out.row.slice
 have hk0 := blk_below HBK.out.2.2 HB4.out
 have hd0 := (blk_cell hk0 0).trans (rfl : _ = some (Value.int .i64 0))
 have hd1 := (blk_cell hk0 1).trans (rfl : _ = some (Value.slice none 0 0))
 have hf0 := blk_frozen hk0 0
 have hf1 := blk_frozen hk0 1
 have HK0 := am hk0
 clear hk0
 refine last_ (i := 9) (N := none) (bs 1023 10) rfl rfl (by kernel_rfl) (by decide) (fun K hK => ?_)
 refine skip_ (w1 := ?_) (by rfl) rfl ?_ ?_
 rotate_left
 · go_simp
   rfl
 refine hK.out _ _ ?_
 clear hK K hd0 hd1 hf0 hf1
 refine done_ (by kernel_rfl) ?_
 go_wp2_with fail
 refine bodyPost_ret (results_cell_row rfl _ _ (w.heap.size + 1 + 1) 28 #[.int .i64 q0, .slice Au es.length cu] (0, 0) _ rfl (by refine blk_put (cs := #[.int .i64 q0, .slice none 0 0]) ?_ 1 _ rfl; refine blk_put (cs := #[.int .i64 0, .slice none 0 0]) ?_ 0 _ rfl; exact HK0.out) hu3 rfl (by kernel_rfl)) rfl ?_
 refine ⟨_, es, by rfl, ⟨?_, HR4.out.sum, HR4.out.small⟩, ((HBW.out _ HB4.out).setCell (p := ⟨w.heap.size + 1 + 1, 0, none⟩) (by show w.heap.size ≤ w.heap.size + 1 + 1; omega) _).setCell (p := ⟨w.heap.size + 1 + 1, 1, none⟩) (by show w.heap.size ≤ w.heap.size + 1 + 1; omega) _⟩
 have h1 := TRow.set HR4.out.row HK0.out (by decide) (by decide) 0 (.int .i64 q0)
 exact TRow.set h1 (blk_put (cs := #[.int .i64 0, .slice none 0 0]) HK0.out 0 (.int .i64 q0) rfl) (by decide) (by decide) 1 (.slice Au es.length cu)
end Go.Proofs.Ytgcgeoglhebonaa.P
end
section
namespace Go.Proofs.Ytgcgeoglhebonaa.P
open Go.RowKit Go.Maps Go.Proofs.YtgcgeoglhebonaaW.PrintWords Go.Proofs.YtgcgeoglhebonaaW.PrintLast Go.Proofs.YtgcgeoglhebonaaW.PrintMore
set_option linter.unusedVariables false
set_option linter.unusedSimpArgs false
theorem chords_eq (l : List Int) (h : l.length ≤ 1000000) : impl_chords.f l = some ((l.length / 2 : Nat) : Int) := by
 unfold impl_chords.f
 congr 1
 unfold wrap64; omega
theorem joinW_take (a b : List Int) (k : Nat) (h : k < b.length) : joinW a (b.take (k + 1)) = joinW a (b.take k) ++ [rd b (k : Int) + ((a.length / 2 : Nat) : Int)] := by
 unfold joinW
 rw [take_succ_rd b k h, List.map_append, List.append_assoc]
 rfl
theorem join_any (A0 : Option Addr) (c0 : Nat) (a : List Int) (A1 : Option Addr) (c1 : Nat) (b : List Int) (w : World) (hr0 : (Kd.int .i64).C w A0 a.length a) (hc0 : a.length ≤ c0) (hr1 : (Kd.int .i64).C w A1 b.length b) (ha : a.length ≤ 1000) (hb : smallW b) :
 Calls Try.prog 62 #[.slice A0 a.length c0, .slice A1 b.length c1] w fun e w' => ∃ v, e = .returned v ∧ Kd.R (Kd.int .i64) 2 w' w.heap.size (fun _ => True) v (joinW a b) ∧ Below w.heap.size w w' := by
 have HC := am (cloneAll_any A0 c0 a w hr0 (by omega))
 have HCH := am (fun W (h : Below w.heap.size w W) => impl_chords.calls A0 c0 a ((a.length / 2 : Nat) : Int) W (Kd.C_below hr0 h) hc0 (chords_eq a (by omega)))
 have HR1 := am hr1
 have HSM := am hb
 have hbl := hb.1
 clear hr0 hr1 hb
 go_enter Try.func62, Try.ntmps62
 go_wp2_with fail
 go_must (refine HC.out.mono ?_)
 rintro e w1 ⟨v1, rfl, hr, hb⟩
 have HO := am hr
 have HB := am hb
 clear hr hb
 go_wp2_with fail
 go_loopw [12, 5] (fun i v wr => ∃ k : Nat, k ≤ b.length ∧ i = .int .i64 k ∧ Aside0 (Kd.R (Kd.int .i64) 2 wr w.heap.size (fun _ => True) v (joinW a (b.take k))) ∧ Aside0 (Below w.heap.size w wr))
  (fun i _ _ => b.length - (intOf i).toNat)
 case atStart => exact ⟨0, Nat.zero_le _, rfl, ⟨by simpa [joinW] using HO.out⟩, HB⟩
 case round =>
  obtain ⟨k, hk, rfl, HO2, HB2⟩ := hrel
  clear HO HB
  by_cases hlt : k < b.length
  · obtain ⟨ad, e0, hx⟩ := Kd.at_int (Kd.C_below HR1.out HB2.out) (k : Int) (by omega) (by omega)
    cases e0
    have hj := joinW_take a b k hlt
    have hxb : 0 ≤ rd b (k : Int) ∧ rd b (k : Int) < 100 := HSM.out.2 _ (by simp [rd, List.getD_eq_getElem?_getD, List.getElem?_eq_getElem hlt])
    rw [Int.toNat_natCast] at hx
    generalize rd b (k : Int) = x at *
    have hln : (joinW a (b.take k)).length ≤ 10000 := by simp [joinW]; omega
    have hwr : wrap64 (x + ((a.length / 2 : Nat) : Int)) = x + ((a.length / 2 : Nat) : Int) := by unfold wrap64; omega
    have HJ := am hj
    clear hj hxb
    generalize hL : joinW a (b.take k) = L at *
    generalize hm : ((a.length / 2 : Nat) : Int) = m at *
    clear hL hm
    obtain ⟨Av, cv, rfl⟩ := Kd.R_slice HO2.out
    go_wp2_with fail
    go_must (refine (HCH.out _ HB2.out).mono ?_)
    rintro e w2 ⟨rfl, ⟨n, rfl⟩⟩
    have HO3 := am (Kd.R_below HO2.out (pw_below_drewN (Below.refl _ wr) n))
    have HB3 := am (below_step HB2.out (pw_below_drewN (Below.refl _ wr) n))
    generalize wr.drewN n = w3 at *
    go_wp2_with (first
     | (at_builtin; go_must (refine appI rfl (.tmp 16) (.tmp 21) rfl (.slice Av L.length cv) L (x + m) (fun _ => True) rfl rfl HO3.out (fun _ _ => trivial) HB3.out (by omega) ?_); intro v2 w4 ho hb hg hat)
     | go_in)
    go_roundw
    case rel => exact ⟨k + 1, by omega, by go_num, ⟨by rw [HJ.out]; exact ho⟩, ⟨hb⟩⟩
    case measure => simp [intOf]; omega
  · obtain rfl : k = b.length := by omega
    rw [List.take_length] at HO2
    go_wp2
    go_ret
    exact ⟨_, by rfl, HO2.out, HB2.out⟩
end Go.Proofs.Ytgcgeoglhebonaa.P
end
section
namespace Go.Proofs.Ytgcgeoglhebonaa.P
open Go.RowKit Go.Maps Go.Proofs.YtgcgeoglhebonaaW.PrintWords Go.Proofs.YtgcgeoglhebonaaW.PrintLast Go.Proofs.YtgcgeoglhebonaaW.PrintMore
set_option linter.unusedVariables false
set_option linter.unusedSimpArgs false
def tinyW (l : List Int) : Prop := l.length ≤ 24 ∧ ∀ x ∈ l, 0 ≤ x ∧ x < 36
theorem tinyW.small {l : List Int} (h : tinyW l) : smallW l := ⟨by have := h.1; omega, fun x hx => by have := h.2 x hx; omega⟩
theorem joinW_small {a b : List Int} (ha : tinyW a) (hb : tinyW b) : smallW (joinW a b) := by
 have h1 := ha.1
 have h2 := hb.1
 refine ⟨by simp [joinW]; omega, fun x hx => ?_⟩
 unfold joinW at hx
 rcases List.mem_append.1 hx with hx | hx
 · have := ha.2 x hx; omega
 · obtain ⟨y, hy, rfl⟩ := List.mem_map.1 hx
   have := hb.2 y hy
   omega
def rowAdds (n : Nat) (t : S65) (y : List S65) : List (List Int × Int) := (y.filter fun u => fitsB n t u).map fun u => (joinW t.f0 u.f0, t.f1 * u.f1)
theorem prodAdds_snoc (n : Nat) (x : List S65) (t : S65) (y : List S65) : prodAdds n (x ++ [t]) y = prodAdds n x y ++ rowAdds n t y := by
 simp [prodAdds, rowAdds]
theorem rowAdds_snoc (n : Nat) (t : S65) (y : List S65) (u : S65) : rowAdds n t (y ++ [u]) = rowAdds n t y ++ (if fitsB n t u then [(joinW t.f0 u.f0, t.f1 * u.f1)] else []) := by
 unfold rowAdds
 rw [List.filter_append, List.map_append]
 congr 1
 by_cases h : fitsB n t u = true
 · simp [h]
 · simp [h]
theorem rowAdds_length (n : Nat) (t : S65) (y : List S65) : (rowAdds n t y).length ≤ y.length := by
 unfold rowAdds
 rw [List.length_map]
 exact List.length_filter_le _ _
theorem prodAdds_length (n : Nat) (y : List S65) : ∀ x : List S65, (prodAdds n x y).length ≤ x.length * y.length
 | [] => by simp [prodAdds]
 | t :: x => by
  have h1 := prodAdds_length n y x
  have h2 := rowAdds_length n t y
  have e : prodAdds n (t :: x) y = rowAdds n t y ++ prodAdds n x y := by simp [prodAdds, rowAdds]
  rw [e, List.length_append, List.length_cons, Nat.add_mul, Nat.one_mul]
  omega
theorem fits_eq (n0 : Nat) (t u : S65) (ht : tinyW t.f0) (hu : tinyW u.f0) : fitsB n0 t u = decide (wrap64 (((t.f0.length / 2 : Nat) : Int) + ((u.f0.length / 2 : Nat) : Int)) ≤ (n0 : Int)) := by
 have h1 := ht.1
 have h2 := hu.1
 have e : wrap64 (((t.f0.length / 2 : Nat) : Int) + ((u.f0.length / 2 : Nat) : Int)) = ((t.f0.length / 2 + u.f0.length / 2 : Nat) : Int) := by unfold wrap64; omega
 rw [e]
 unfold fitsB
 exact decide_eq_decide.2 Int.ofNat_le.symm
theorem product_any (q0 q1 : Int) (A0 : Option Addr) (c0 : Nat) (xs : List S65) (A1 : Option Addr) (c1 : Nat) (ys : List S65) (n0 : Nat) (w : World) (hp : 0 < q0) (hp2 : q0 ≤ 1000)
 (hx : k65.C w A0 xs.length xs) (hy : k65.C w A1 ys.length ys) (hsx : ∀ t ∈ xs, tinyW t.f0 ∧ -1000 ≤ t.f1 ∧ t.f1 ≤ 1000) (hsy : ∀ t ∈ ys, tinyW t.f0 ∧ -1000 ≤ t.f1 ∧ t.f1 ≤ 1000) (hn0 : n0 ≤ 1000) (hlx : xs.length ≤ 1000) (hly : ys.length ≤ 1000) :
 Calls Try.prog 27 #[.agg #[.int .i64 q0, .slice A0 xs.length c0], .agg #[.int .i64 q1, .slice A1 ys.length c1], .int .i64 (n0 : Int)] w fun e w' => ∃ u es, e = .returned (.agg #[.int .i64 q0, u]) ∧ SumRow w' w.heap.size q0 (fun a => tot (prodAdds n0 xs ys) a) u es ∧ es.length ≤ xs.length * ys.length ∧ Below w.heap.size w w' := by
 have hu3 := Try.underlying28
 have hu2 := Try.underlying65
 have hb1 := below_alloc (Below.refl w.heap.size w) (.cells #[.int .i64 q0, .slice A0 xs.length c0] 28)
 have hb2 := below_alloc hb1 (.cells #[.int .i64 q1, .slice A1 ys.length c1] 28)
 have hb3 := below_alloc hb2 (.cells #[.int .i64 0, .slice none 0 0] 28)
 have hk0 := (MapKept.heap_alloc w (.cells #[.int .i64 q0, .slice A0 xs.length c0] 28)).1
 have hk1 := (MapKept.heap_alloc (w.alloc (.cells #[.int .i64 q0, .slice A0 xs.length c0] 28)) (.cells #[.int .i64 q1, .slice A1 ys.length c1] 28)).1
 have hk2 := (MapKept.heap_alloc ((w.alloc (.cells #[.int .i64 q0, .slice A0 xs.length c0] 28)).alloc (.cells #[.int .i64 q1, .slice A1 ys.length c1] 28)) (.cells #[.int .i64 0, .slice none 0 0] 28)).1
 have HBK := am (And.intro (blk_al (o' := .cells #[.int .i64 0, .slice none 0 0] 28) (blk_al (o' := .cells #[.int .i64 q1, .slice A1 ys.length c1] 28) hk0)) (And.intro (blk_al (o' := .cells #[.int .i64 0, .slice none 0 0] 28) hk1) hk2))
 simp only [size_al] at HBK
 have HB := am hb3
 have HX := am hx
 have HY := am hy
 have HSX := am hsx
 have HSY := am hsy
 have hz0 := (blk_cell HBK.out.1 0).trans (rfl : _ = some (Value.int .i64 q0))
 clear hb1 hb2 hb3 hk0 hk1 hk2 hx hy hsx hsy
 have HNG := am (newGather_any q0 (((w.alloc (.cells #[.int .i64 q0, .slice A0 xs.length c0] 28)).alloc (.cells #[.int .i64 q1, .slice A1 ys.length c1] 28)).alloc (.cells #[.int .i64 0, .slice none 0 0] 28)))
 go_enter Try.func27, Try.ntmps27
 go_wp2_with fail
 go_must (refine HNG.out.mono ?_)
 rintro e w1 ⟨g, b, rfl, hg1, hb1⟩
 generalize ((w.alloc (.cells #[.int .i64 q0, .slice A0 xs.length c0] 28)).alloc (.cells #[.int .i64 q1, .slice A1 ys.length c1] 28)).alloc (.cells #[.int .i64 0, .slice none 0 0] 28) = w0 at *
 have HG1 := am hg1
 have HB1 := am hb1
 have HGG := am (show ∀ W, w1.grownBy W (some b) → Below w.heap.size w W from fun W h => below_step HB.out (below_grown HB1.out HG1.out.beb h))
 have HKK := am (show ∀ W, w1.grownBy W (some b) → W.heap[w.heap.size]? = some (.cells #[.int .i64 q0, .slice A0 xs.length c0] 28 (0, 0)) ∧ W.heap[w.heap.size + 1]? = some (.cells #[.int .i64 q1, .slice A1 ys.length c1] 28 (0, 0)) ∧ W.heap[w.heap.size + 1 + 1]? = some (.cells #[.int .i64 0, .slice none 0 0] 28 (0, 0)) from fun W h =>
  have hw := below_grown HB1.out HG1.out.beb h
  ⟨blk_below HBK.out.1 hw, blk_below HBK.out.2.1 hw, blk_below HBK.out.2.2 hw⟩)
 have HGR := am (grown_below (Below.refl w1.heap.size w1) (some b))
 have hz1 := (blk_cell (HKK.out w1 HGR.out).1 1).trans (rfl : _ = some (Value.slice A0 xs.length c0))
 clear hg1 hb1 hz0 HNG HBK HB
 go_wp2_with fail
 clear hz1
 go_loopw [18] (fun i wr => ∃ j : Nat, j ≤ xs.length ∧ i = .int .i64 j ∧ Aside0 (IsG wr w0.heap.size g b q0 (addAllG q0 [] (prodAdds n0 (xs.take j) ys))) ∧ Aside0 (w1.grownBy wr (some b)))
  (fun i _ => xs.length - (intOf i).toNat)
 case atStart => exact ⟨0, Nat.zero_le _, rfl, ⟨by simpa [prodAdds, addAllG] using HG1.out⟩, HGR⟩
 case round =>
  obtain ⟨j, hj, rfl, HG2, HB2⟩ := hrel
  clear HG1 HGR
  by_cases hlt : j < xs.length
  · obtain ⟨ad, B0, d0, e0, hx0, hx1, hl0, hi0⟩ := at_T65 HX.out (j : Int) (by omega) (by omega)
    cases e0
    replace hx0 := pw_cell_below (HGG.out _ HB2.out) hx0
    replace hx1 := pw_cell_below (HGG.out _ HB2.out) hx1
    have hm := rdV_mem' xs j hlt
    have HTS := am (take_succ_V xs j hlt)
    have HSM := am (HSX.out _ hm)
    rw [Int.toNat_natCast] at hx0 hx1
    generalize rd_T65 xs (j : Int) = t at *
    have hbx := below_alloc (Below.refl wr.heap.size wr) (.cells #[.slice B0 t.f0.length d0, .int .i64 t.f1] 65)
    have HIX := am (fun W (h : w1.grownBy W (some b)) => Kd.C_below hi0 (HGG.out _ h))
    have HTB := am (MapKept.heap_alloc wr (.cells #[.slice B0 t.f0.length d0, .int .i64 t.f1] 65)).1
    have HGT := am (HG2.out.below hbx)
    have HBT := am (grown_then HB2.out (grown_below hbx (some b)))
    have hz1 := (blk_cell (HKK.out _ HBT.out).2.1 1).trans (rfl : _ = some (Value.slice A1 ys.length c1))
    clear hbx hi0 hm
    go_wp2_with fail
    clear hz1 hx0 hx1
    have HTN := am (show wr.heap.size ≠ b from by have := HG2.out.size; omega)
    generalize wr.alloc (.cells #[.slice B0 t.f0.length d0, .int .i64 t.f1] 65) = wt at *
    generalize wr.heap.size = tb at *
    clear HB2 HG2
    have HRT := am (grown_below (Below.refl wt.heap.size wt) (some b))
    go_loopw [25] (fun i wq => ∃ k : Nat, k ≤ ys.length ∧ i = .int .i64 k ∧ Aside0 (IsG wq w0.heap.size g b q0 (addAllG q0 [] (prodAdds n0 (xs.take j) ys ++ rowAdds n0 t (ys.take k)))) ∧ Aside0 (wt.grownBy wq (some b)))
     (fun i _ => ys.length - (intOf i).toNat)
    case atStart => exact ⟨0, Nat.zero_le _, rfl, ⟨by simpa [rowAdds] using HGT.out⟩, HRT⟩
    case round =>
     obtain ⟨k, hk, rfl, HG3, HB3⟩ := hrel
     clear HGT HRT
     by_cases hlt2 : k < ys.length
     · obtain ⟨ad1, B1, d1, e1, hy0, hy1, hl1, hi1⟩ := at_T65 (Kd.C_below HY.out (HGG.out _ (grown_then HBT.out HB3.out))) (k : Int) (by omega) (by omega)
       cases e1
       have hm := rdV_mem' ys k hlt2
       have HUS := am (take_succ_V ys k hlt2)
       have HSU := am (HSY.out _ hm)
       rw [Int.toNat_natCast] at hy0 hy1
       generalize rd_T65 ys (k : Int) = u at *
       have hbx := below_alloc (Below.refl wr.heap.size wr) (.cells #[.slice B1 u.f0.length d1, .int .i64 u.f1] 65)
       have HUB := am (MapKept.heap_alloc wr (.cells #[.slice B1 u.f0.length d1, .int .i64 u.f1] 65)).1
       have HTB3 := am (blk_below ((HB3.out.block _ (Array.getElem?_eq_some_iff.1 HTB.out).1 (fun h => HTN.out (by injection h))).trans HTB.out) hbx)
       have HGU := am (HG3.out.below hbx)
       have HBU := am (grown_then HB3.out (grown_below hbx (some b)))
       have HIU := am (Kd.C_below hi1 hbx)
       have HITU := am (HIX.out _ (grown_then HBT.out HBU.out))
       clear hbx hi1 hm HG3 HB3
       go_wp2_with fail
       clear hy0 hy1
       generalize wr.alloc (.cells #[.slice B1 u.f0.length d1, .int .i64 u.f1] 65) = wu at *
       generalize wr.heap.size = ub at *
       have HCH := am (fun (A : Option Addr) (c : Nat) (l : List Int) (W : World) (h1 : (Kd.int .i64).C W A l.length l) (h2 : l.length ≤ c) (h3 : tinyW l) => impl_chords.calls A c l ((l.length / 2 : Nat) : Int) W h1 h2 (chords_eq l (by have := h3.1; omega)))
       have HSS := am (fun W (hb : Below wu.heap.size wu W) => show W.cell? ⟨tb, 0, none⟩ = some (.slice B0 t.f0.length d0) ∧ W.cell? ⟨tb, 1, none⟩ = some (.int .i64 t.f1) ∧ W.cell? ⟨ub, 0, none⟩ = some (.slice B1 u.f0.length d1) ∧ W.cell? ⟨ub, 1, none⟩ = some (.int .i64 u.f1) from
        ⟨(blk_cell (blk_below HTB3.out hb) 0).trans rfl, (blk_cell (blk_below HTB3.out hb) 1).trans rfl, (blk_cell (blk_below HUB.out hb) 0).trans rfl, (blk_cell (blk_below HUB.out hb) 1).trans rfl⟩)
       have HFIT := am (fits_eq n0 t u HSM.out.1 HSU.out.1)
       have HC0 := am (fun W (hb : Below wu.heap.size wu W) => HCH.out B0 d0 t.f0 W (Kd.C_below HITU.out hb) hl0 HSM.out.1)
       have HC1 := am (fun W (hb : Below wu.heap.size wu W) => HCH.out B1 d1 u.f0 W (Kd.C_below HIU.out hb) hl1 HSU.out.1)
       clear HCH
       obtain ⟨m0, hgm0⟩ : ∃ m0 : Int, ((t.f0.length / 2 : Nat) : Int) = m0 := ⟨_, rfl⟩
       obtain ⟨m1, hgm1⟩ : ∃ m1 : Int, ((u.f0.length / 2 : Nat) : Int) = m1 := ⟨_, rfl⟩
       rw [hgm0, hgm1] at HFIT
       rw [hgm0] at HC0
       rw [hgm1] at HC1
       clear hgm0 hgm1
       have HBZ := am (below_drew (Below.refl wu.heap.size wu))
       refine start_ (n := 9) (S := fun w' => w'.cell? ⟨tb, 0, none⟩ = some (.slice B0 t.f0.length d0) ∧ w'.cell? ⟨tb, 1, none⟩ = some (.int .i64 t.f1) ∧ w'.cell? ⟨ub, 0, none⟩ = some (.slice B1 u.f0.length d1) ∧ w'.cell? ⟨ub, 1, none⟩ = some (.int .i64 u.f1)) (ds := [8]) (bs 0 9) (by kernel_rfl) rfl rfl (HSS.out _ HBZ.out) (fun hHeld => ?_)
       generalize wu.drew = wz at HBZ hHeld ⊢
       refine pure_ (i := 0) (N := (some 29)) (v := ?_) (a' := ?_) (bs 1 9) rfl rfl (by kernel_rfl) (fun _ _ _ h => h) (Or.inl ⟨by rfl, ?_⟩) ?_ ?_; rotate_left; intro w'; go_simp; with_reducible rfl; rotate_left; simp only [Act.put, qq1, qq2, qq3, i64_w, i32_w]; rfl
       refine take_ (i := 1) (N := (some 30)) (v := ?_) (a' := ?_) (bs 3 9) rfl rfl (by kernel_rfl) (fun _ _ _ h => h) (Or.inl ⟨by rfl, ?_⟩) hHeld ?_ ?_; rotate_left; rintro w' ⟨s0, s1, s2, s3⟩; go_simp; with_reducible rfl; rotate_left; simp only [Act.put, qq1, qq2, qq3, i64_w, i32_w]; rfl
       refine pure_ (i := 3) (N := (some 32)) (v := ?_) (a' := ?_) (bs 11 9) rfl rfl (by kernel_rfl) (fun _ _ _ h => h) (Or.inl ⟨by rfl, ?_⟩) ?_ ?_; rotate_left; intro w'; go_simp; with_reducible rfl; rotate_left; simp only [Act.put, qq1, qq2, qq3, i64_w, i32_w]; rfl
       refine take_ (i := 4) (N := (some 33)) (v := ?_) (a' := ?_) (bs 27 9) rfl rfl (by kernel_rfl) (fun _ _ _ h => h) (Or.inl ⟨by rfl, ?_⟩) hHeld ?_ ?_; rotate_left; rintro w' ⟨s0, s1, s2, s3⟩; go_simp; with_reducible rfl; rotate_left; simp only [Act.put, qq1, qq2, qq3, i64_w, i32_w]; rfl
       refine pure_ (i := 7) (N := (some 36)) (v := ?_) (a' := ?_) (bs 155 9) rfl rfl (by kernel_rfl) (fun _ _ _ h => h) (Or.inl ⟨by rfl, ?_⟩) ?_ ?_; rotate_left; intro w'; go_simp; with_reducible rfl; rotate_left; simp only [Act.put, qq1, qq2, qq3, i64_w, i32_w]; rfl
       refine one_ (i := 2) (N := (some 31)) (bs 159 9) rfl rfl (by kernel_rfl) (by decide) (fun K hK => ?_)
       refine goes_ Try.func60 (by kernel_rfl) rfl #[.slice B0 t.f0.length d0] (by rfl) rfl rfl (by (try simp only [List.map_toArray, List.map_cons, List.map_nil]); rfl) ?_
       refine (HC0.out _ HBZ.out).mono ?_
       rintro e wy ⟨rfl, ⟨z, rfl⟩⟩
       refine ⟨_, rfl, ?_⟩
       have HBY := am (show Below wu.heap.size wu (wz.drewN z) from pw_below_drewN HBZ.out z)
       generalize wz.drewN z = wy at HBY ⊢
       refine hK.out _ _ (HSS.out _ HBY.out) (fun hHeld => ?_)
       clear hK K
       refine norm_ (a' := ?_) ?_ ?_; rotate_left; show Act.put _ (some 31) _ = _; simp only [Act.put, qq1, qq2, qq3, i64_w, i32_w]; rfl
       refine one_ (i := 5) (N := (some 34)) (bs 191 9) rfl rfl (by kernel_rfl) (by decide) (fun K hK => ?_)
       refine goes_ Try.func60 (by kernel_rfl) rfl #[.slice B1 u.f0.length d1] (by rfl) rfl rfl (by (try simp only [List.map_toArray, List.map_cons, List.map_nil]); rfl) ?_
       refine (HC1.out _ HBY.out).mono ?_
       rintro e wx ⟨rfl, ⟨z, rfl⟩⟩
       refine ⟨_, rfl, ?_⟩
       have HBX := am (show Below wu.heap.size wu (wy.drewN z) from pw_below_drewN HBY.out z)
       generalize wy.drewN z = wx at HBX ⊢
       refine hK.out _ _ (HSS.out _ HBX.out) (fun hHeld => ?_)
       clear hK K
       refine norm_ (a' := ?_) ?_ ?_; rotate_left; show Act.put _ (some 34) _ = _; simp only [Act.put, qq1, qq2, qq3, i64_w, i32_w]; rfl
       refine pure_ (i := 6) (N := (some 35)) (v := ?_) (a' := ?_) (bs 255 9) rfl rfl (by kernel_rfl) (fun _ _ _ h => h) (Or.inl ⟨by rfl, ?_⟩) ?_ ?_; rotate_left; intro w'; go_simp; with_reducible rfl; rotate_left; simp only [Act.put, qq1, qq2, qq3, i64_w, i32_w]; rfl
       refine pure_ (i := 8) (N := (some 37)) (v := ?_) (a' := ?_) (bs 511 9) rfl rfl (by kernel_rfl) (fun _ _ _ h => h) (Or.inl ⟨by rfl, ?_⟩) ?_ ?_; rotate_left; intro w'; go_simp; with_reducible rfl; rotate_left; simp only [Act.put, qq1, qq2, qq3, i64_w, i32_w]; rfl
       refine done_ (by kernel_rfl) ?_
       have HGX := am (HGU.out.below HBX.out)
       have HBUX := am (grown_then HBU.out (grown_below HBX.out (some b)))
       have HSSX := am (fun W (hb : Below wx.heap.size wx W) => HSS.out W (below_step HBX.out hb))
       have HITX := am (Kd.C_below HITU.out HBX.out)
       have HIUX := am (Kd.C_below HIU.out HBX.out)
       clear HBZ HBY HSS HC0 HC1 HGU HBU HITU HIU hHeld HBX HTB3 HUB
       by_cases hf : wrap64 (m0 + m1) ≤ (n0 : Int)
       · have HF := am (show fitsB n0 t u = true by rw [HFIT.out]; exact decide_eq_true hf)
         have hb37 : (decide (wrap64 (m0 + m1) ≤ (n0 : Int))) = true := decide_eq_true hf
         rw [hb37]
         clear hb37 hf
         go_wp2_with fail
         have hmul : wrap64 (t.f1 * u.f1) = t.f1 * u.f1 := by
          have h1 := mul_bd t.f1 u.f1 HSM.out.2 HSU.out.2
          unfold wrap64; omega
         have HMUL := am hmul
         clear hmul
         have HBZ := am (below_drew (Below.refl wx.heap.size wx))
         refine start_ (n := 12) (S := fun w' => w'.cell? ⟨tb, 0, none⟩ = some (.slice B0 t.f0.length d0) ∧ w'.cell? ⟨tb, 1, none⟩ = some (.int .i64 t.f1) ∧ w'.cell? ⟨ub, 0, none⟩ = some (.slice B1 u.f0.length d1) ∧ w'.cell? ⟨ub, 1, none⟩ = some (.int .i64 u.f1)) (ds := [11]) (bs 0 12) (by kernel_rfl) rfl rfl (HSSX.out _ HBZ.out) (fun hHeld => ?_)
         generalize wx.drew = wz at HBZ hHeld ⊢
         refine pure_ (i := 0) (N := (some 38)) (v := ?_) (a' := ?_) (bs 1 12) rfl rfl (by kernel_rfl) (fun _ _ _ h => h) (Or.inl ⟨by rfl, ?_⟩) ?_ ?_; rotate_left; intro w'; go_simp; with_reducible rfl; rotate_left; simp only [Act.put, qq1, qq2, qq3, i64_w, i32_w]; rfl
         refine pure_ (i := 1) (N := (some 39)) (v := ?_) (a' := ?_) (bs 3 12) rfl rfl (by kernel_rfl) (fun _ _ _ h => h) (Or.inl ⟨by rfl, ?_⟩) ?_ ?_; rotate_left; intro w'; go_simp; with_reducible rfl; rotate_left; simp only [Act.put, qq1, qq2, qq3, i64_w, i32_w]; rfl
         refine take_ (i := 2) (N := (some 40)) (v := ?_) (a' := ?_) (bs 7 12) rfl rfl (by kernel_rfl) (fun _ _ _ h => h) (Or.inl ⟨by rfl, ?_⟩) hHeld ?_ ?_; rotate_left; rintro w' ⟨s0, s1, s2, s3⟩; go_simp; with_reducible rfl; rotate_left; simp only [Act.put, qq1, qq2, qq3, i64_w, i32_w]; rfl
         refine pure_ (i := 3) (N := (some 41)) (v := ?_) (a' := ?_) (bs 15 12) rfl rfl (by kernel_rfl) (fun _ _ _ h => h) (Or.inl ⟨by rfl, ?_⟩) ?_ ?_; rotate_left; intro w'; go_simp; with_reducible rfl; rotate_left; simp only [Act.put, qq1, qq2, qq3, i64_w, i32_w]; rfl
         refine take_ (i := 4) (N := (some 42)) (v := ?_) (a' := ?_) (bs 31 12) rfl rfl (by kernel_rfl) (fun _ _ _ h => h) (Or.inl ⟨by rfl, ?_⟩) hHeld ?_ ?_; rotate_left; rintro w' ⟨s0, s1, s2, s3⟩; go_simp; with_reducible rfl; rotate_left; simp only [Act.put, qq1, qq2, qq3, i64_w, i32_w]; rfl
         refine pure_ (i := 6) (N := (some 44)) (v := ?_) (a' := ?_) (bs 95 12) rfl rfl (by kernel_rfl) (fun _ _ _ h => h) (Or.inl ⟨by rfl, ?_⟩) ?_ ?_; rotate_left; intro w'; go_simp; with_reducible rfl; rotate_left; simp only [Act.put, qq1, qq2, qq3, i64_w, i32_w]; rfl
         refine take_ (i := 7) (N := (some 45)) (v := ?_) (a' := ?_) (bs 223 12) rfl rfl (by kernel_rfl) (fun _ _ _ h => h) (Or.inl ⟨by rfl, ?_⟩) hHeld ?_ ?_; rotate_left; rintro w' ⟨s0, s1, s2, s3⟩; go_simp; with_reducible rfl; rotate_left; simp only [Act.put, qq1, qq2, qq3, i64_w, i32_w]; rfl
         refine pure_ (i := 8) (N := (some 46)) (v := ?_) (a' := ?_) (bs 479 12) rfl rfl (by kernel_rfl) (fun _ _ _ h => h) (Or.inl ⟨by rfl, ?_⟩) ?_ ?_; rotate_left; intro w'; go_simp; with_reducible rfl; rotate_left; simp only [Act.put, qq1, qq2, qq3, i64_w, i32_w]; rfl
         refine take_ (i := 9) (N := (some 47)) (v := ?_) (a' := ?_) (bs 991 12) rfl rfl (by kernel_rfl) (fun _ _ _ h => h) (Or.inl ⟨by rfl, ?_⟩) hHeld ?_ ?_; rotate_left; rintro w' ⟨s0, s1, s2, s3⟩; go_simp; with_reducible rfl; rotate_left; simp only [Act.put, qq1, qq2, qq3, i64_w, i32_w]; rfl
         refine pure_ (i := 10) (N := (some 48)) (v := ?_) (a' := ?_) (bs 2015 12) rfl rfl (by kernel_rfl) (fun _ _ _ h => h) (Or.inl ⟨by rfl, ?_⟩) ?_ ?_; rotate_left; intro w'; go_simp; with_reducible rfl; rotate_left; simp only [Act.put, qq1, qq2, qq3, i64_w, i32_w]; rfl
         refine one_ (i := 5) (N := (some 43)) (bs 2047 12) rfl rfl (by kernel_rfl) (by decide) (fun K hK => ?_)
         refine goes_ Try.func62 (by kernel_rfl) rfl #[.slice B0 t.f0.length d0, .slice B1 u.f0.length d1] (by rfl) rfl rfl (by (try simp only [List.map_toArray, List.map_cons, List.map_nil]); rfl) ?_
         refine (join_any B0 d0 t.f0 B1 d1 u.f0 wz (Kd.C_below HITX.out HBZ.out) hl0 (Kd.C_below HIUX.out HBZ.out) (by have := HSM.out.1.1; omega) HSU.out.1.small).mono ?_
         rintro e wy ⟨v, rfl, hr, hb⟩
         obtain ⟨Av, cv, rfl, hr⟩ := R_open hr (n := (joinW t.f0 u.f0).length) rfl
         refine ⟨_, rfl, ?_⟩
         have HBY := am (below_step HBZ.out hb)
         have HRY := am (Kd.R_reads' hr)
         clear hr hb
         refine hK.out _ _ (HSSX.out _ HBY.out) (fun hHeld => ?_)
         clear hK K
         refine norm_ (a' := ?_) ?_ ?_; rotate_left; show Act.put _ (some 43) _ = _; simp only [Act.put, qq1, qq2, qq3, i64_w, i32_w]; rfl
         refine last_ (i := 11) (N := (some 49)) (bs 4095 12) rfl rfl (by kernel_rfl) (by decide) (fun K hK => ?_)
         refine goes_ Try.func61 (by kernel_rfl) rfl #[.pointer (some ⟨g, 0, none⟩), .slice Av (joinW t.f0 u.f0).length cv, .int .i64 (wrap64 (t.f1 * u.f1))] (by rfl) rfl rfl (by (try simp only [List.map_toArray, List.map_cons, List.map_nil]); rfl) ?_
         rw [HMUL.out]
         refine (add_any _ g b q0 _ Av cv (joinW t.f0 u.f0) (t.f1 * u.f1) wy (HGX.out.below HBY.out) hp (by omega) (by have := mul_bd t.f1 u.f1 HSM.out.2 HSU.out.2; omega) HRY.out.2.2 HRY.out.2.1 (joinW_small HSM.out.1 HSU.out.1) (addAllG_range hp _ _ (fun a ha => by cases ha))).mono ?_
         rintro e wv ⟨rfl, hgv, hbv⟩
         refine ⟨_, rfl, ?_⟩
         have HGV := am hgv
         have HBV := am (grown_then HBUX.out (grown_then (grown_below HBY.out (some b)) hbv))
         clear hgv hbv
         refine hK.out _ _ ?_
         clear hK K
         refine norm_ (a' := ?_) ?_ ?_; rotate_left; show Act.put _ (some 49) _ = _; simp only [Act.put, qq1, qq2, qq3, i64_w, i32_w]; rfl
         refine done_ (by kernel_rfl) ?_
         go_wp2
         go_roundw
         case rel => exact ⟨k + 1, by omega, by go_num, ⟨by
          rw [HUS.out, rowAdds_snoc, if_pos HF.out, ← List.append_assoc, addAllG_append]
          exact HGV.out⟩, HBV⟩
         case measure => simp [intOf]; omega
       · have HF := am (show ¬ fitsB n0 t u = true by rw [HFIT.out]; simpa using hf)
         have hb37 : (decide (wrap64 (m0 + m1) ≤ (n0 : Int))) = false := decide_eq_false hf
         rw [hb37]
         clear hb37 hf
         go_wp2
         go_roundw
         case rel => exact ⟨k + 1, by omega, by go_num, ⟨by
          rw [HUS.out, rowAdds_snoc, if_neg HF.out, List.append_nil]
          exact HGX.out⟩, HBUX⟩
         case measure => simp [intOf]; omega
     · obtain rfl : k = ys.length := by omega
       rw [List.take_length] at HG3
       go_wp2
       go_roundw
       case rel => exact ⟨j + 1, by omega, by go_num, ⟨by
        rw [HTS.out, prodAdds_snoc]
        exact HG3.out⟩, ⟨grown_then HBT.out HB3.out⟩⟩
       case measure => simp [intOf]; omega
  · obtain rfl : j = xs.length := by omega
    rw [List.take_length] at HG2
    have hgf : GOf q0 (fun a => tot (prodAdds n0 xs ys) a) (addAllG q0 [] (prodAdds n0 xs ys)) := (GOf.addAll hp _ (GOf.nil q0)).congr (fun x => by simp)
    have hgl : (addAllG q0 [] (prodAdds n0 xs ys)).length ≤ xs.length * ys.length := by
     have h1 := addAllG_length q0 (prodAdds n0 xs ys) []
     have h2 := prodAdds_length n0 ys xs
     simp only [List.length_nil, Nat.zero_add] at h1
     exact Nat.le_trans h1 h2
    have HGL := am hgl
    have HSUM := am (sumS_any _ g b q0 _ _ wr HG2.out hgf (Nat.le_trans hgl (Nat.le_trans (Nat.mul_le_mul hlx hly) (by decide))))
    clear hgf hgl
    go_wp2_with fail
    go_must (refine HSUM.out.mono ?_)
    rintro e w4 ⟨v, es, rfl, h4, hl4, hb4⟩
    have HB4 := am (below_step (HGG.out _ HB2.out) hb4)
    have HR4 := am (h4.lower (HGG.out _ HB2.out).size)
    have hk0 := blk_below (HKK.out _ HB2.out).2.2 hb4
    have hd0 := (blk_cell hk0 0).trans (rfl : _ = some (Value.int .i64 0))
    have hd1 := (blk_cell hk0 1).trans (rfl : _ = some (Value.slice none 0 0))
    have hf0 := blk_frozen hk0 0
    have hf1 := blk_frozen hk0 1
    have HK0 := am hk0
    have HL4 := am (Nat.le_trans hl4 HGL.out)
    clear hk0 h4 hl4 hb4 HSUM HGL
    obtain ⟨Au, cu, rfl⟩ := HR4.out.row.slice
    go_wp2
    refine bodyPost_ret (results_cell_row rfl _ _ (w.heap.size + 1 + 1) 28 #[.int .i64 q0, .slice Au es.length cu] (0, 0) _ rfl (by refine blk_put (cs := #[.int .i64 q0, .slice none 0 0]) ?_ 1 _ rfl; refine blk_put (cs := #[.int .i64 0, .slice none 0 0]) ?_ 0 _ rfl; exact HK0.out) hu3 rfl (by kernel_rfl)) rfl ?_
    refine ⟨_, es, by rfl, ⟨?_, HR4.out.sum, HR4.out.small⟩, HL4.out, (HB4.out.setCell (p := ⟨w.heap.size + 1 + 1, 0, none⟩) (by show w.heap.size ≤ w.heap.size + 1 + 1; omega) _).setCell (p := ⟨w.heap.size + 1 + 1, 1, none⟩) (by show w.heap.size ≤ w.heap.size + 1 + 1; omega) _⟩
    have h1 := TRow.set HR4.out.row HK0.out (by decide) (by decide) 0 (.int .i64 q0)
    exact TRow.set h1 (blk_put (cs := #[.int .i64 0, .slice none 0 0]) HK0.out 0 (.int .i64 q0) rfl) (by decide) (by decide) 1 (.slice Au es.length cu)
end Go.Proofs.Ytgcgeoglhebonaa.P
end
section
namespace Go.Proofs.Ytgcgeoglhebonaa.P
open Go.RowKit Go.Maps Go.Proofs.YtgcgeoglhebonaaW.PrintWords Go.Proofs.YtgcgeoglhebonaaW.PrintLast Go.Proofs.YtgcgeoglhebonaaW.PrintMore
set_option linter.unusedVariables false
set_option linter.unusedSimpArgs false
theorem isSum_any (p : Int) (A : Option Addr) (c : Nat) (l : List S65) (w : World) (h : k65.C w A l.length l) (hc : l.length ≤ c) :
 ∀ W, Below w.heap.size w W → Calls Try.prog 54 #[.agg #[.int .i64 p, .slice A l.length c]] W fun e w' => e = .returned (.bool (isSumB p l)) ∧ Below W.heap.size W w' := by
 intro W hb
 obtain ⟨k, hk⟩ := ev_isSum p l
 exact impl_IsSum.calls k p A c l _ W (Kd.C_below h hb) hc (hk k (Nat.le_refl k))
theorem indexBad (sb : Nat) (p0 p1 : Int) (A0 A1 : Option Addr) (n0 n1 c0 c1 : Nat) (b0 b1 : Bool) (w : World) (hsb : w.heap[sb]? = some (.cells #[.int .i64 p0, .slice A0 n0 c0, .int .i64 p1, .slice A1 n1 c1] 28 (0, 0)))
 (h0 : ∀ W, Below w.heap.size w W → Calls Try.prog 53 #[.agg #[.int .i64 p0, .slice A0 n0 c0]] W fun e w' => e = .returned (.bool b0) ∧ Below W.heap.size W w')
 (h1 : ∀ W, Below w.heap.size w W → Calls Try.prog 53 #[.agg #[.int .i64 p1, .slice A1 n1 c1]] W fun e w' => e = .returned (.bool b1) ∧ Below W.heap.size W w') :
 Calls Try.prog 78 #[.slice (some ⟨sb, 0, none⟩) 2 2, .func (.func 53) #[] #[]] w fun e w' => e = .returned (.int .i64 (if b0 = true then 0 else if b1 = true then 1 else -1)) ∧ Below w.heap.size w w' := by
 have hu3 := Try.underlying28
 have HSB := am hsb
 have H0 := am h0
 have H1 := am h1
 have HB0 := am (Below.refl w.heap.size w)
 clear hsb h0 h1
 go_enter Try.func78, Try.ntmps78
 go_wp2
 go_loopw [8] (fun i wr => ∃ k : Nat, i = .int .i64 k ∧ Aside0 (k = 0 ∨ (k = 1 ∧ b0 = false) ∨ (k = 2 ∧ b0 = false ∧ b1 = false)) ∧ Aside0 (Below w.heap.size w wr)) (fun i _ => 2 - (intOf i).toNat)
 case atStart => exact ⟨0, rfl, ⟨.inl rfl⟩, HB0⟩
 case round =>
  obtain ⟨k, rfl, HK, HB⟩ := hrel
  clear HB0
  rcases HK.out with rfl | ⟨rfl, hb0⟩ | ⟨rfl, hb0, hb1⟩
  · have hz0 := (blk_cell (blk_below HSB.out HB.out) 0).trans (rfl : _ = some (Value.int .i64 p0))
    have hz1 := (blk_cell (blk_below HSB.out HB.out) 1).trans (rfl : _ = some (Value.slice A0 n0 c0))
    go_wp2_with fail
    refine (H0.out _ HB.out).mono ?_
    rintro e w2 ⟨rfl, hb2⟩
    have HB2 := am (below_step HB.out hb2)
    clear hb2 HK hz0 hz1
    cases b0 with
    | true =>
     go_wp2
     go_ret
     exact ⟨by rfl, HB2.out⟩
    | false =>
     go_wp2
     go_roundw
     case rel => exact ⟨1, by go_num, ⟨by simp⟩, HB2⟩
     case measure => simp [intOf]
  · have hz2 := (blk_cell (blk_below HSB.out HB.out) 2).trans (rfl : _ = some (Value.int .i64 p1))
    have hz3 := (blk_cell (blk_below HSB.out HB.out) 3).trans (rfl : _ = some (Value.slice A1 n1 c1))
    subst hb0
    go_wp2_with fail
    refine (H1.out _ HB.out).mono ?_
    rintro e w2 ⟨rfl, hb2⟩
    have HB2 := am (below_step HB.out hb2)
    clear hb2 HK hz2 hz3
    cases b1 with
    | true =>
     go_wp2
     go_ret
     exact ⟨by rfl, HB2.out⟩
    | false =>
     go_wp2
     go_roundw
     case rel => exact ⟨2, by go_num, ⟨by simp⟩, HB2⟩
     case measure => simp [intOf]
  · subst hb0
    subst hb1
    clear HK
    go_wp2
    go_ret
    exact ⟨by rfl, HB.out⟩
theorem containsBad (sb : Nat) (p0 p1 : Int) (A0 A1 : Option Addr) (n0 n1 c0 c1 : Nat) (b0 b1 : Bool) (w : World) (hsb : w.heap[sb]? = some (.cells #[.int .i64 p0, .slice A0 n0 c0, .int .i64 p1, .slice A1 n1 c1] 28 (0, 0)))
 (h0 : ∀ W, Below w.heap.size w W → Calls Try.prog 53 #[.agg #[.int .i64 p0, .slice A0 n0 c0]] W fun e w' => e = .returned (.bool b0) ∧ Below W.heap.size W w')
 (h1 : ∀ W, Below w.heap.size w W → Calls Try.prog 53 #[.agg #[.int .i64 p1, .slice A1 n1 c1]] W fun e w' => e = .returned (.bool b1) ∧ Below W.heap.size W w') :
 Calls Try.prog 52 #[.slice (some ⟨sb, 0, none⟩) 2 2, .func (.func 53) #[] #[]] w fun e w' => e = .returned (.bool (b0 || b1)) ∧ Below w.heap.size w w' := by
 have HX := am (indexBad sb p0 p1 A0 A1 n0 n1 c0 c1 b0 b1 w hsb h0 h1)
 clear hsb h0 h1
 go_enter Try.func52, Try.ntmps52
 go_wp2_with fail
 go_must (refine HX.out.mono ?_)
 rintro e w2 ⟨rfl, hb⟩
 have HB := am hb
 clear hb HX
 cases b0 <;> cases b1 <;> (go_wp2; go_ret; exact ⟨by rfl, HB.out⟩)
theorem indexPrime (sb : Nat) (p0 p1 : Int) (A0 A1 : Option Addr) (n0 n1 c0 c1 : Nat) (b0 b1 : Bool) (lb : Nat) (w : World) (hsb : w.heap[sb]? = some (.cells #[.int .i64 p0, .slice A0 n0 c0, .int .i64 p1, .slice A1 n1 c1] 28 (0, 0)))
 (h0 : ∀ W, Below w.heap.size w W → Calls Try.prog 55 #[.agg #[.int .i64 p0, .slice A0 n0 c0], .pointer (some ⟨lb, 0, none⟩)] W fun e w' => e = .returned (.bool b0) ∧ Below W.heap.size W w')
 (h1 : ∀ W, Below w.heap.size w W → Calls Try.prog 55 #[.agg #[.int .i64 p1, .slice A1 n1 c1], .pointer (some ⟨lb, 0, none⟩)] W fun e w' => e = .returned (.bool b1) ∧ Below W.heap.size W w') :
 Calls Try.prog 78 #[.slice (some ⟨sb, 0, none⟩) 2 2, .func (.func 55) #[] #[.pointer (some ⟨lb, 0, none⟩)]] w fun e w' => e = .returned (.int .i64 (if b0 = true then 0 else if b1 = true then 1 else -1)) ∧ Below w.heap.size w w' := by
 have hu3 := Try.underlying28
 have HSB := am hsb
 have H0 := am h0
 have H1 := am h1
 have HB0 := am (Below.refl w.heap.size w)
 clear hsb h0 h1
 go_enter Try.func78, Try.ntmps78
 go_wp2
 go_loopw [8] (fun i wr => ∃ k : Nat, i = .int .i64 k ∧ Aside0 (k = 0 ∨ (k = 1 ∧ b0 = false) ∨ (k = 2 ∧ b0 = false ∧ b1 = false)) ∧ Aside0 (Below w.heap.size w wr)) (fun i _ => 2 - (intOf i).toNat)
 case atStart => exact ⟨0, rfl, ⟨.inl rfl⟩, HB0⟩
 case round =>
  obtain ⟨k, rfl, HK, HB⟩ := hrel
  clear HB0
  rcases HK.out with rfl | ⟨rfl, hb0⟩ | ⟨rfl, hb0, hb1⟩
  · have hz0 := (blk_cell (blk_below HSB.out HB.out) 0).trans (rfl : _ = some (Value.int .i64 p0))
    have hz1 := (blk_cell (blk_below HSB.out HB.out) 1).trans (rfl : _ = some (Value.slice A0 n0 c0))
    go_wp2_with fail
    refine (H0.out _ HB.out).mono ?_
    rintro e w2 ⟨rfl, hb2⟩
    have HB2 := am (below_step HB.out hb2)
    clear hb2 HK hz0 hz1
    cases b0 with
    | true =>
     go_wp2
     go_ret
     exact ⟨by rfl, HB2.out⟩
    | false =>
     go_wp2
     go_roundw
     case rel => exact ⟨1, by go_num, ⟨by simp⟩, HB2⟩
     case measure => simp [intOf]
  · have hz2 := (blk_cell (blk_below HSB.out HB.out) 2).trans (rfl : _ = some (Value.int .i64 p1))
    have hz3 := (blk_cell (blk_below HSB.out HB.out) 3).trans (rfl : _ = some (Value.slice A1 n1 c1))
    subst hb0
    go_wp2_with fail
    refine (H1.out _ HB.out).mono ?_
    rintro e w2 ⟨rfl, hb2⟩
    have HB2 := am (below_step HB.out hb2)
    clear hb2 HK hz2 hz3
    cases b1 with
    | true =>
     go_wp2
     go_ret
     exact ⟨by rfl, HB2.out⟩
    | false =>
     go_wp2
     go_roundw
     case rel => exact ⟨2, by go_num, ⟨by simp⟩, HB2⟩
     case measure => simp [intOf]
  · subst hb0
    subst hb1
    clear HK
    go_wp2
    go_ret
    exact ⟨by rfl, HB.out⟩
theorem containsPrime (sb : Nat) (p0 p1 : Int) (A0 A1 : Option Addr) (n0 n1 c0 c1 : Nat) (b0 b1 : Bool) (lb : Nat) (w : World) (hsb : w.heap[sb]? = some (.cells #[.int .i64 p0, .slice A0 n0 c0, .int .i64 p1, .slice A1 n1 c1] 28 (0, 0)))
 (h0 : ∀ W, Below w.heap.size w W → Calls Try.prog 55 #[.agg #[.int .i64 p0, .slice A0 n0 c0], .pointer (some ⟨lb, 0, none⟩)] W fun e w' => e = .returned (.bool b0) ∧ Below W.heap.size W w')
 (h1 : ∀ W, Below w.heap.size w W → Calls Try.prog 55 #[.agg #[.int .i64 p1, .slice A1 n1 c1], .pointer (some ⟨lb, 0, none⟩)] W fun e w' => e = .returned (.bool b1) ∧ Below W.heap.size W w') :
 Calls Try.prog 52 #[.slice (some ⟨sb, 0, none⟩) 2 2, .func (.func 55) #[] #[.pointer (some ⟨lb, 0, none⟩)]] w fun e w' => e = .returned (.bool (b0 || b1)) ∧ Below w.heap.size w w' := by
 have HX := am (indexPrime sb p0 p1 A0 A1 n0 n1 c0 c1 b0 b1 lb w hsb h0 h1)
 clear hsb h0 h1
 go_enter Try.func52, Try.ntmps52
 go_wp2_with fail
 go_must (refine HX.out.mono ?_)
 rintro e w2 ⟨rfl, hb⟩
 have HB := am hb
 clear hb HX
 cases b0 <;> cases b1 <;> (go_wp2; go_ret; exact ⟨by rfl, HB.out⟩)
theorem bad_any (p : Int) (A : Option Addr) (c : Nat) (l : List S65) (w : World) (h : k65.C w A l.length l) (hc : l.length ≤ c) :
 ∀ W, Below w.heap.size w W → Calls Try.prog 53 #[.agg #[.int .i64 p, .slice A l.length c]] W fun e w' => e = .returned (.bool (!isSumB p l)) ∧ Below W.heap.size W w' := by
 intro W hb
 have hu3 := Try.underlying28
 have HB0 := am (below_alloc (Below.refl W.heap.size W) (.cells #[.int .i64 p, .slice A l.length c] 28))
 have HI := am (isSum_any p A c l w h hc _ (below_step hb HB0.out))
 clear h hb
 go_enter Try.func53, Try.ntmps53
 go_wp2_with fail
 go_must (refine HI.out.mono ?_)
 rintro e w2 ⟨rfl, hb2⟩
 have HB2 := am (below_step HB0.out hb2)
 clear hb2 HB0 HI
 obtain ⟨b, hbb⟩ : ∃ b, isSumB p l = b := ⟨_, rfl⟩
 rw [hbb]
 have HBB := am hbb
 clear hbb
 go_wp2
 go_ret
 exact ⟨by rw [HBB.out]; rfl, HB2.out⟩
theorem prime_any (p p0 : Int) (S : Value) (lb sb : Nat) (v1 v2 v3 : Value) (w : World) (hlb : w.heap[lb]? = some (.cells #[.slice (some ⟨sb, 0, none⟩) 2 2] 69 (0, 0))) (hsb : w.heap[sb]? = some (.cells #[.int .i64 p0, v1, v2, v3] 28 (0, 0))) :
 ∀ W, Below w.heap.size w W → Calls Try.prog 55 #[.agg #[.int .i64 p, S], .pointer (some ⟨lb, 0, none⟩)] W fun e w' => e = .returned (.bool (p != p0)) ∧ Below W.heap.size W w' := by
 intro W hb
 have hu3 := Try.underlying28
 have HB0 := am (below_alloc (Below.refl W.heap.size W) (.cells #[.int .i64 p, S] 28))
 have hz0 := (blk_cell (blk_below hlb (below_step hb HB0.out)) 0).trans (rfl : _ = some (Value.slice (some ⟨sb, 0, none⟩) 2 2))
 have hz1 := (blk_cell (blk_below hsb (below_step hb HB0.out)) 0).trans (rfl : _ = some (Value.int .i64 p0))
 have hz2 := (blk_cell (MapKept.heap_alloc W (.cells #[.int .i64 p, S] 28)).1 0).trans (rfl : _ = some (Value.int .i64 p))
 clear hlb hsb hb
 go_enter Try.func55, Try.ntmps55
 go_wp2_with fail
 generalize W.alloc (.cells #[.int .i64 p, S] 28) = w1 at *
 refine start_ (n := 8) (S := fun w' => w'.cell? ⟨W.heap.size, 0, none⟩ = some (.int .i64 p) ∧ w'.cell? ⟨lb, 0, none⟩ = some (.slice (some ⟨sb, 0, none⟩) 2 2) ∧ w'.cell? ⟨sb, 0, none⟩ = some (.int .i64 p0)) (ds := [7]) (bs 0 8) (by kernel_rfl) rfl rfl (⟨hz2, hz0, hz1⟩) (fun hHeld => ?_)
 refine pure_ (i := 0) (N := (some 4)) (v := ?_) (a' := ?_) (bs 1 8) rfl rfl (by kernel_rfl) (fun _ _ _ h => h) (Or.inl ⟨by rfl, ?_⟩) ?_ ?_; rotate_left; intro w'; go_simp; with_reducible rfl; rotate_left; simp only [Act.put, qq1, qq2, qq3, i64_w, i32_w]; rfl
 refine take_ (i := 1) (N := (some 5)) (v := ?_) (a' := ?_) (bs 3 8) rfl rfl (by kernel_rfl) (fun _ _ _ h => h) (Or.inl ⟨by rfl, ?_⟩) hHeld ?_ ?_; rotate_left; rintro w' ⟨s0, s1, s2⟩; go_simp; with_reducible rfl; rotate_left; simp only [Act.put, qq1, qq2, qq3, i64_w, i32_w]; rfl
 refine take_ (i := 2) (N := (some 6)) (v := ?_) (a' := ?_) (bs 7 8) rfl rfl (by kernel_rfl) (fun _ _ _ h => h) (Or.inl ⟨by rfl, ?_⟩) hHeld ?_ ?_; rotate_left; rintro w' ⟨s0, s1, s2⟩; go_simp; with_reducible rfl; rotate_left; simp only [Act.put, qq1, qq2, qq3, i64_w, i32_w]; rfl
 refine pure_ (i := 3) (N := (some 7)) (v := ?_) (a' := ?_) (bs 15 8) rfl rfl (by kernel_rfl) (fun _ _ _ h => h) (Or.inl ⟨by rfl, ?_⟩) ?_ ?_; rotate_left; intro w'; go_simp; with_reducible rfl; rotate_left; simp only [Act.put, qq1, qq2, qq3, i64_w, i32_w]; rfl
 refine pure_ (i := 4) (N := (some 8)) (v := ?_) (a' := ?_) (bs 31 8) rfl rfl (by kernel_rfl) (fun _ _ _ h => h) (Or.inl ⟨by rfl, ?_⟩) ?_ ?_; rotate_left; intro w'; go_simp; with_reducible rfl; rotate_left; simp only [Act.put, qq1, qq2, qq3, i64_w, i32_w]; rfl
 refine take_ (i := 5) (N := (some 9)) (v := ?_) (a' := ?_) (bs 63 8) rfl rfl (by kernel_rfl) (fun _ _ _ h => h) (Or.inl ⟨by rfl, ?_⟩) hHeld ?_ ?_; rotate_left; rintro w' ⟨s0, s1, s2⟩; go_simp; with_reducible rfl; rotate_left; simp only [Act.put, qq1, qq2, qq3, i64_w, i32_w]; rfl
 refine pure_ (i := 6) (N := (some 10)) (v := ?_) (a' := ?_) (bs 127 8) rfl rfl (by kernel_rfl) (fun _ _ _ h => h) (Or.inl ⟨by rfl, ?_⟩) ?_ ?_; rotate_left; intro w'; go_simp; with_reducible rfl; rotate_left; simp only [Act.put, qq1, qq2, qq3, i64_w, i32_w]; rfl
 refine pure_ (i := 7) (N := (some 3)) (v := ?_) (a' := ?_) (bs 255 8) rfl rfl (by kernel_rfl) (fun _ _ _ h => h) (Or.inl ⟨by rfl, ?_⟩) ?_ ?_; rotate_left; intro w'; go_simp; with_reducible rfl; rotate_left; simp only [Act.put, qq1, qq2, qq3, i64_w, i32_w]; rfl
 refine done_ (by kernel_rfl) ?_
 clear hz0 hz1 hz2
 go_wp2
 go_ret
 exact ⟨by rfl, below_drew1 HB0.out⟩
def wrongC (p0 : Int) (l0 : List S65) (p1 : Int) (l1 : List S65) : Int := if (!isSumB p0 l0 || !isSumB p1 l1) = true then 1 else if (p1 != p0) = true then 2 else 0
theorem wrong_any (sb : Nat) (p0 p1 : Int) (A0 A1 : Option Addr) (c0 c1 : Nat) (l0 l1 : List S65) (w : World) (hsb : w.heap[sb]? = some (.cells #[.int .i64 p0, .slice A0 l0.length c0, .int .i64 p1, .slice A1 l1.length c1] 28 (0, 0)))
 (h0 : k65.C w A0 l0.length l0) (hc0 : l0.length ≤ c0) (h1 : k65.C w A1 l1.length l1) (hc1 : l1.length ≤ c1) :
 Calls Try.prog 23 #[.slice (some ⟨sb, 0, none⟩) 2 2] w fun e w' => e = .returned (.int .i64 (wrongC p0 l0 p1 l1)) ∧ Below w.heap.size w w' := by
 have hlb := (MapKept.heap_alloc w (.cells #[.slice (some ⟨sb, 0, none⟩) 2 2] 69)).1
 have hb := below_alloc (Below.refl w.heap.size w) (.cells #[.slice (some ⟨sb, 0, none⟩) 2 2] 69)
 have HLB := am hlb
 have HB := am hb
 have HSB := am (blk_below hsb hb)
 have hcl := (blk_cell hlb 0).trans (rfl : _ = some (Value.slice (some ⟨sb, 0, none⟩) 2 2))
 have HI0 := am (bad_any p0 A0 c0 l0 _ (Kd.C_below h0 hb) hc0)
 have HI1 := am (bad_any p1 A1 c1 l1 _ (Kd.C_below h1 hb) hc1)
 have HC := am (containsBad sb p0 p1 A0 A1 l0.length l1.length c0 c1 _ _ _ HSB.out HI0.out HI1.out)
 clear hlb hb hsb h0 h1 HI0 HI1
 go_enter Try.func23, Try.ntmps23
 go_wp2_with fail
 go_must (refine HC.out.mono ?_)
 rintro e w2 ⟨rfl, hb2⟩
 have HB2 := am (below_step HB.out hb2)
 have HLB2 := am (blk_below HLB.out hb2)
 have HSB2 := am (blk_below HSB.out hb2)
 have hcl2 := (blk_cell HLB2.out 0).trans (rfl : _ = some (Value.slice (some ⟨sb, 0, none⟩) 2 2))
 have HP := am (containsPrime sb p0 p1 A0 A1 l0.length l1.length c0 c1 (p0 != p0) (p1 != p0) w.heap.size w2 HSB2.out (prime_any p0 p0 (.slice A0 l0.length c0) w.heap.size sb _ _ _ w2 HLB2.out HSB2.out) (prime_any p1 p0 (.slice A1 l1.length c1) w.heap.size sb _ _ _ w2 HLB2.out HSB2.out))
 clear hb2 HC HSB HLB hcl
 have hpp : (p0 != p0) = false := by simp
 rw [hpp] at HP
 clear hpp
 by_cases hb : (!isSumB p0 l0 || !isSumB p1 l1) = true
 · have HW := am (show wrongC p0 l0 p1 l1 = 1 by unfold wrongC; rw [if_pos hb])
   rw [hb]
   clear hb
   go_wp2
   go_ret
   exact ⟨by rw [HW.out]; rfl, HB2.out⟩
 · have hbf : (!isSumB p0 l0 || !isSumB p1 l1) = false := by simpa using hb
   have HW := am (show wrongC p0 l0 p1 l1 = if (p1 != p0) = true then 2 else 0 by unfold wrongC; rw [if_neg hb])
   rw [hbf]
   clear hb hbf
   go_wp2_with fail
   go_must (refine HP.out.mono ?_)
   rintro e w3 ⟨rfl, hb3⟩
   have HB3 := am (below_step HB2.out hb3)
   clear hb3 HP
   by_cases hb : (p1 != p0) = true
   · have HW2 := am (HW.out.trans (if_pos hb))
     rw [hb]
     clear hb HW
     go_wp2
     go_ret
     exact ⟨by rw [HW2.out]; rfl, HB3.out⟩
   · have HW2 := am (HW.out.trans (if_neg hb))
     have hbf : (p1 != p0) = false := by simpa using hb
     rw [hbf]
     clear hb hbf HW
     go_wp2
     go_ret
     exact ⟨by rw [HW2.out]; rfl, HB3.out⟩
end Go.Proofs.Ytgcgeoglhebonaa.P
end
section
namespace Go.Proofs.Ytgcgeoglhebonaa.P
open Go.RowKit Go.Maps Go.Proofs.YtgcgeoglhebonaaW.PrintWords Go.Proofs.YtgcgeoglhebonaaW.PrintLast Go.Proofs.YtgcgeoglhebonaaW.PrintMore
set_option linter.unusedVariables false
set_option linter.unusedSimpArgs false
theorem mostC_last (ts : List S65) (h : ts ≠ []) : mostC ts = (rd_T65 ts ((ts.length - 1 : Nat) : Int)).f0.length / 2 := by
 unfold mostC
 have hl : 0 < ts.length := List.length_pos_iff.2 h
 have e : ts.getLast? = some (rd_T65 ts ((ts.length - 1 : Nat) : Int)) := by
  rw [List.getLast?_eq_getElem?]
  simp [rd_T65, List.getD_eq_getElem?_getD, List.getElem?_eq_getElem (show ts.length - 1 < ts.length by omega)]
 rw [e]
theorem most_any (b : Nat) (p : Int) (A : Option Addr) (c : Nat) (ts : List S65) (w : World) (hb : w.heap[b]? = some (.cells #[.int .i64 p, .slice A ts.length c] 28 (0, 0))) (hr : k65.C w A ts.length ts) (hs : ∀ t ∈ ts, t.f0.length ≤ 1000) (hl : ts.length ≤ 1000000) :
 Calls Try.prog 56 #[.pointer (some ⟨b, 0, none⟩)] w fun e w' => e = .returned (.int .i64 (mostC ts : Nat)) ∧ Below w.heap.size w w' := by
 have hu3 := Try.underlying28
 have hu2 := Try.underlying65
 have HBK := am hb
 have hz1 := (blk_cell hb 1).trans (rfl : _ = some (Value.slice A ts.length c))
 by_cases h0 : ts = []
 · subst h0
   have HM := am (show ((mostC [] : Nat) : Int) = 0 from rfl)
   clear hb hr hs hl
   go_enter Try.func56, Try.ntmps56
   go_wp2
   go_ret
   exact ⟨by rw [HM.out]; rfl, Below.refl _ _⟩
 · have hpos : 0 < ts.length := List.length_pos_iff.2 h0
   have hlb : (0 : Int) ≤ ((ts.length - 1 : Nat) : Int) ∧ ((ts.length - 1 : Nat) : Int) < (ts.length : Int) := by omega
   obtain ⟨ad, A1, c1, e0, hx0, hx1, hl1, hi1⟩ := at_T65 hr ((ts.length - 1 : Nat) : Int) hlb.1 hlb.2
   cases e0
   have HM := am (mostC_last ts h0)
   have hm := hs _ (rdV_mem' ts (ts.length - 1) (by omega))
   rw [Int.toNat_natCast] at hx0 hx1
   generalize rd_T65 ts ((ts.length - 1 : Nat) : Int) = t at *
   have HC := am (fun W (h : Below w.heap.size w W) => impl_chords.calls A1 c1 t.f0 ((t.f0.length / 2 : Nat) : Int) W (Kd.C_below hi1 h) hl1 (chords_eq t.f0 (by omega)))
   clear hb hr hs hi1 hx1 hlb
   have hsub : wrap64 ((ts.length : Int) - 1) = ((ts.length - 1 : Nat) : Int) := by unfold wrap64; omega
   have hne : ((ts.length : Int) == 0) = false := by simp; omega
   have hn0 : ¬ (ts.length : Int) = 0 := by omega
   go_enter Try.func56, Try.ntmps56
   go_wp2_with fail
   have HB0 := am (below_drew (Below.refl w.heap.size w))
   have HSS := am (fun W (h : Below w.heap.size w W) => show W.cell? ⟨b, 1, none⟩ = some (.slice (some ad) ts.length c) ∧ W.cell? (ad.add ((ts.length - 1) * 2)) = some (.slice A1 t.f0.length c1) from ⟨(blk_cell (blk_below HBK.out h) 1).trans rfl, pw_cell_below h hx0⟩)
   clear hz1 hx0
   refine start_ (n := 15) (S := fun w' => w'.cell? ⟨b, 1, none⟩ = some (.slice (some ad) ts.length c) ∧ w'.cell? (ad.add ((ts.length - 1) * 2)) = some (.slice A1 t.f0.length c1)) (ds := [14]) (bs 0 15) (by kernel_rfl) rfl rfl (HSS.out _ HB0.out) (fun hHeld => ?_)
   generalize w.drew = wz at HB0 hHeld ⊢
   refine pure_ (i := 0) (N := (some 9)) (v := ?_) (a' := ?_) (bs 1 15) rfl rfl (by kernel_rfl) (fun _ _ _ h => h) (Or.inl ⟨by rfl, ?_⟩) ?_ ?_; rotate_left; intro w'; go_simp; with_reducible rfl; rotate_left; simp only [Act.put, qq1, qq2, qq3, i64_w, i32_w]; rfl
   refine pure_ (i := 1) (N := (some 10)) (v := ?_) (a' := ?_) (bs 3 15) rfl rfl (by kernel_rfl) (fun _ _ _ h => h) (Or.inl ⟨by rfl, ?_⟩) ?_ ?_; rotate_left; intro w'; go_simp; with_reducible rfl; rotate_left; simp only [Act.put, qq1, qq2, qq3, i64_w, i32_w]; rfl
   refine pure_ (i := 2) (N := (some 11)) (v := ?_) (a' := ?_) (bs 7 15) rfl rfl (by kernel_rfl) (fun _ _ _ h => h) (Or.inl ⟨by rfl, ?_⟩) ?_ ?_; rotate_left; intro w'; go_simp; with_reducible rfl; rotate_left; simp only [Act.put, qq1, qq2, qq3, i64_w, i32_w]; rfl
   refine take_ (i := 3) (N := (some 12)) (v := ?_) (a' := ?_) (bs 15 15) rfl rfl (by kernel_rfl) (fun _ _ _ h => h) (Or.inl ⟨by rfl, ?_⟩) hHeld ?_ ?_; rotate_left; rintro w' ⟨s0, s1⟩; go_simp; with_reducible rfl; rotate_left; simp only [Act.put, qq1, qq2, qq3, i64_w, i32_w]; rfl
   refine pure_ (i := 4) (N := (some 13)) (v := ?_) (a' := ?_) (bs 31 15) rfl rfl (by kernel_rfl) (fun _ _ _ h => h) (Or.inl ⟨by rfl, ?_⟩) ?_ ?_; rotate_left; intro w'; go_simp; with_reducible rfl; rotate_left; simp only [Act.put, qq1, qq2, qq3, i64_w, i32_w]; rfl
   refine pure_ (i := 5) (N := (some 14)) (v := ?_) (a' := ?_) (bs 63 15) rfl rfl (by kernel_rfl) (fun _ _ _ h => h) (Or.inl ⟨by rfl, ?_⟩) ?_ ?_; rotate_left; intro w'; go_simp; with_reducible rfl; rotate_left; simp only [Act.put, qq1, qq2, qq3, i64_w, i32_w]; rfl
   refine pure_ (i := 6) (N := (some 15)) (v := ?_) (a' := ?_) (bs 127 15) rfl rfl (by kernel_rfl) (fun _ _ _ h => h) (Or.inl ⟨by rfl, ?_⟩) ?_ ?_; rotate_left; intro w'; go_simp; with_reducible rfl; rotate_left; simp only [Act.put, qq1, qq2, qq3, i64_w, i32_w]; rfl
   refine take_ (i := 7) (N := (some 16)) (v := ?_) (a' := ?_) (bs 255 15) rfl rfl (by kernel_rfl) (fun _ _ _ h => h) (Or.inl ⟨by rfl, ?_⟩) hHeld ?_ ?_; rotate_left; rintro w' ⟨s0, s1⟩; go_simp; with_reducible rfl; rotate_left; simp only [Act.put, qq1, qq2, qq3, i64_w, i32_w]; rfl
   refine pure_ (i := 8) (N := (some 17)) (v := ?_) (a' := ?_) (bs 511 15) rfl rfl (by kernel_rfl) (fun _ _ _ h => h) (Or.inl ⟨by rfl, ?_⟩) ?_ ?_; rotate_left; intro w'; go_simp; with_reducible rfl; rotate_left; simp only [Act.put, qq1, qq2, qq3, i64_w, i32_w]; rfl
   refine pure_ (i := 9) (N := (some 18)) (v := ?_) (a' := ?_) (bs 1023 15) rfl rfl (by kernel_rfl) (fun _ _ _ h => h) (Or.inl ⟨by rfl, ?_⟩) ?_ ?_
   rotate_left
   · intro w'
     go_simp
     try rw [hsub]
     all_goals with_reducible rfl
   rotate_left; simp only [Act.put, qq1, qq2, qq3, i64_w, i32_w]; rfl
   refine pure_ (i := 10) (N := (some 19)) (v := ?_) (a' := ?_) (bs 2047 15) rfl rfl (by kernel_rfl) (fun _ _ _ h => h) (Or.inl ⟨by rfl, ?_⟩) ?_ ?_
   rotate_left
   · intro w'
     go_simp
     rw [if_pos (show ts.length - 1 < ts.length by omega)]
     all_goals with_reducible rfl
   rotate_left; simp only [Act.put, qq1, qq2, qq3, i64_w, i32_w]; rfl
   refine pure_ (i := 11) (N := (some 20)) (v := ?_) (a' := ?_) (bs 4095 15) rfl rfl (by kernel_rfl) (fun _ _ _ h => h) (Or.inl ⟨by rfl, ?_⟩) ?_ ?_; rotate_left; intro w'; go_simp; with_reducible rfl; rotate_left; simp only [Act.put, qq1, qq2, qq3, i64_w, i32_w]; rfl
   refine take_ (i := 12) (N := (some 21)) (v := ?_) (a' := ?_) (bs 8191 15) rfl rfl (by kernel_rfl) (fun _ _ _ h => h) (Or.inl ⟨by rfl, ?_⟩) hHeld ?_ ?_; rotate_left; rintro w' ⟨s0, s1⟩; go_simp; with_reducible rfl; rotate_left; simp only [Act.put, qq1, qq2, qq3, i64_w, i32_w]; rfl
   refine one_ (i := 13) (N := (some 22)) (bs 16383 15) rfl rfl (by kernel_rfl) (by decide) (fun K hK => ?_)
   refine goes_ Try.func60 (by kernel_rfl) rfl #[.slice A1 t.f0.length c1] (by rfl) rfl rfl (by (try simp only [List.map_toArray, List.map_cons, List.map_nil]); rfl) ?_
   refine (HC.out _ HB0.out).mono ?_
   rintro e wy ⟨rfl, ⟨z, rfl⟩⟩
   refine ⟨_, rfl, ?_⟩
   have HBY := am (show Below w.heap.size w (wz.drewN z) from pw_below_drewN HB0.out z)
   generalize wz.drewN z = wy at HBY ⊢
   refine hK.out _ _ (HSS.out _ HBY.out) (fun hHeld => ?_)
   clear hK K
   refine norm_ (a' := ?_) ?_ ?_; rotate_left; show Act.put _ (some 22) _ = _; simp only [Act.put, qq1, qq2, qq3, i64_w, i32_w]; rfl
   refine pure_ (i := 14) (N := (some 2)) (v := ?_) (a' := ?_) (bs 32767 15) rfl rfl (by kernel_rfl) (fun _ _ _ h => h) (Or.inl ⟨by rfl, ?_⟩) ?_ ?_; rotate_left; intro w'; go_simp; with_reducible rfl; rotate_left; simp only [Act.put, qq1, qq2, qq3, i64_w, i32_w]; rfl
   refine done_ (by kernel_rfl) ?_
   go_wp2
   go_ret
   exact ⟨by rw [HM.out]; rfl, HBY.out⟩
theorem joinLimit_any (q0 q1 : Int) (A0 : Option Addr) (c0 : Nat) (xs : List S65) (A1 : Option Addr) (c1 : Nat) (ys : List S65) (w : World)
 (hx : k65.C w A0 xs.length xs) (hy : k65.C w A1 ys.length ys) (hsx : ∀ t ∈ xs, t.f0.length ≤ 1000) (hsy : ∀ t ∈ ys, t.f0.length ≤ 1000) (hlx : xs.length ≤ 1000000) (hly : ys.length ≤ 1000000) :
 Calls Try.prog 24 #[.agg #[.int .i64 q0, .slice A0 xs.length c0], .agg #[.int .i64 q1, .slice A1 ys.length c1]] w fun e w' => e = .returned (.bool (joinOver 6 xs ys)) ∧ Below w.heap.size w w' := by
 have hu3 := Try.underlying28
 have hb2 := below_alloc (below_alloc (Below.refl w.heap.size w) (.cells #[.int .i64 q0, .slice A0 xs.length c0] 28)) (.cells #[.int .i64 q1, .slice A1 ys.length c1] 28)
 have hk0 := (MapKept.heap_alloc w (.cells #[.int .i64 q0, .slice A0 xs.length c0] 28)).1
 have hk1 := (MapKept.heap_alloc (w.alloc (.cells #[.int .i64 q0, .slice A0 xs.length c0] 28)) (.cells #[.int .i64 q1, .slice A1 ys.length c1] 28)).1
 have hk0' := blk_al (o' := .cells #[.int .i64 q1, .slice A1 ys.length c1] 28) hk0
 simp only [size_al] at hk1
 have HB := am hb2
 have HM0 := am (fun W (h : Below ((w.alloc (.cells #[.int .i64 q0, .slice A0 xs.length c0] 28)).alloc (.cells #[.int .i64 q1, .slice A1 ys.length c1] 28)).heap.size ((w.alloc (.cells #[.int .i64 q0, .slice A0 xs.length c0] 28)).alloc (.cells #[.int .i64 q1, .slice A1 ys.length c1] 28)) W) => most_any w.heap.size q0 A0 c0 xs W (blk_below hk0' h) (Kd.C_below hx (below_step hb2 h)) hsx hlx)
 have HM1 := am (fun W (h : Below ((w.alloc (.cells #[.int .i64 q0, .slice A0 xs.length c0] 28)).alloc (.cells #[.int .i64 q1, .slice A1 ys.length c1] 28)).heap.size ((w.alloc (.cells #[.int .i64 q0, .slice A0 xs.length c0] 28)).alloc (.cells #[.int .i64 q1, .slice A1 ys.length c1] 28)) W) => most_any (w.heap.size + 1) q1 A1 c1 ys W (blk_below hk1 h) (Kd.C_below hy (below_step hb2 h)) hsy hly)
 have hz0 := (blk_cell (blk_al (o' := .cells #[.int .i64 q1, .slice A1 ys.length c1] 28) hk0) 1).trans (rfl : _ = some (Value.slice A0 xs.length c0))
 have hz1 := (blk_cell hk1 1).trans (rfl : _ = some (Value.slice A1 ys.length c1))
 have HR := am (Below.refl ((w.alloc (.cells #[.int .i64 q0, .slice A0 xs.length c0] 28)).alloc (.cells #[.int .i64 q1, .slice A1 ys.length c1] 28)).heap.size ((w.alloc (.cells #[.int .i64 q0, .slice A0 xs.length c0] 28)).alloc (.cells #[.int .i64 q1, .slice A1 ys.length c1] 28)))
 clear hb2 hk0 hk0' hk1 hx hy
 cases xs with
 | nil =>
  have HJ := am (show joinOver 6 ([] : List S65) ys = false from rfl)
  go_enter Try.func24, Try.ntmps24
  go_wp2
  go_ret
  exact ⟨by rw [HJ.out]; rfl, HB.out⟩
 | cons t xs =>
  have hpx : (0 : Int) < (((t :: xs).length : Nat) : Int) := by simp only [List.length_cons]; omega
  cases ys with
  | nil =>
   have HJ := am (show joinOver 6 (t :: xs) [] = false from rfl)
   generalize t :: xs = xx at *
   go_enter Try.func24, Try.ntmps24
   go_wp2
   go_ret
   exact ⟨by rw [HJ.out]; rfl, HB.out⟩
  | cons u ys =>
   have hpy : (0 : Int) < (((u :: ys).length : Nat) : Int) := by simp only [List.length_cons]; omega
   have HJ := am (show joinOver 6 (t :: xs) (u :: ys) = decide (6 < mostC (t :: xs) + mostC (u :: ys)) from rfl)
   have hmx : mostC (t :: xs) ≤ 1000 := by
    obtain ⟨a, ha, e⟩ := mostC_mem (ts := t :: xs) (by simp)
    have := hsx a ha
    omega
   have hmy : mostC (u :: ys) ≤ 1000 := by
    obtain ⟨a, ha, e⟩ := mostC_mem (ts := u :: ys) (by simp)
    have := hsy a ha
    omega
   generalize t :: xs = xx at *
   generalize u :: ys = yy at *
   generalize mostC xx = m0 at *
   generalize mostC yy = m1 at *
   have HW := am (show decide (wrap64 ((m0 : Int) + (m1 : Int)) > 6) = decide (6 < m0 + m1) from decide_eq_decide.2 (by unfold wrap64; omega))
   clear hmx hmy hsx hsy hlx hly
   go_enter Try.func24, Try.ntmps24
   go_wp2_with fail
   refine (HM0.out _ HR.out).mono ?_
   rintro e w2 ⟨rfl, hb2⟩
   have HB2 := am hb2
   clear hb2 HR HM0 hz0 hz1
   go_wp2_with fail
   refine (HM1.out _ HB2.out).mono ?_
   rintro e w3 ⟨rfl, hb3⟩
   have HB3 := am (below_step HB.out (below_step HB2.out hb3))
   clear hb3 HB2 HM1
   go_wp2_with fail
   rw [HW.out]
   clear hpx hpy HB
   go_wp2
   go_ret
   exact ⟨by rw [HJ.out]; rfl, HB3.out⟩
theorem limited_le (q : Int) (A : Option Addr) (n c : Nat) (w : World) (hn : n ≤ 200) :
 Calls Try.prog 25 #[.agg #[.int .i64 q, .slice A n c]] w fun e w' => e = .returned (.tuple #[.agg #[.int .i64 q, .slice A n c], .int .i64 0]) ∧ Below w.heap.size w w' := by
 have hu3 := Try.underlying28
 have hk0 := (MapKept.heap_alloc w (.cells #[.int .i64 q, .slice A n c] 28)).1
 have hk1 := (MapKept.heap_alloc (w.alloc (.cells #[.int .i64 q, .slice A n c] 28)) (.cells #[.int .i64 0, .slice none 0 0] 28)).1
 simp only [size_al] at hk1
 have HK := am hk1
 have HB := am (below_alloc (below_alloc (Below.refl w.heap.size w) (.cells #[.int .i64 q, .slice A n c] 28)) (.cells #[.int .i64 0, .slice none 0 0] 28))
 have hz0 := (blk_cell (blk_al (o' := .cells #[.int .i64 0, .slice none 0 0] 28) hk0) 0).trans (rfl : _ = some (Value.int .i64 q))
 have hz1 := (blk_cell (blk_al (o' := .cells #[.int .i64 0, .slice none 0 0] 28) hk0) 1).trans (rfl : _ = some (Value.slice A n c))
 have hd0 := (blk_cell hk1 0).trans (rfl : _ = some (Value.int .i64 0))
 have hd1 := (blk_cell hk1 1).trans (rfl : _ = some (Value.slice none 0 0))
 have hf0 := blk_frozen hk1 0
 have hf1 := blk_frozen hk1 1
 have hle : ¬ ((n : Int) > 200) := by omega
 clear hk0 hk1
 go_enter Try.func25, Try.ntmps25
 go_wp2
 refine bodyPost_ret (results_ct rfl _ _ (w.heap.size + 1) 28 #[.int .i64 q, .slice A n c] (0, 0) _ rfl (by have := (MapKept.heap_alloc (w.alloc (.cells #[.int .i64 q, .slice A n c] 28)) (.cells #[.int .i64 q, .slice A n c] 28)).1; rwa [size_al] at this) hu3 rfl (by kernel_rfl)) rfl ?_
 exact ⟨by rfl, below_alloc (below_alloc (Below.refl _ _) _) _⟩
theorem limited_gt (q : Int) (A : Option Addr) (n c : Nat) (w : World) (hn : 200 < n) :
 Calls Try.prog 25 #[.agg #[.int .i64 q, .slice A n c]] w fun e w' => e = .returned (.tuple #[.agg #[.int .i64 0, .slice none 0 0], .int .i64 3]) ∧ Below w.heap.size w w' := by
 have hu3 := Try.underlying28
 have hk0 := (MapKept.heap_alloc w (.cells #[.int .i64 q, .slice A n c] 28)).1
 have hk1 := (MapKept.heap_alloc (w.alloc (.cells #[.int .i64 q, .slice A n c] 28)) (.cells #[.int .i64 0, .slice none 0 0] 28)).1
 simp only [size_al] at hk1
 have HK := am hk1
 have HB := am (below_alloc (below_alloc (Below.refl w.heap.size w) (.cells #[.int .i64 q, .slice A n c] 28)) (.cells #[.int .i64 0, .slice none 0 0] 28))
 have hz0 := (blk_cell (blk_al (o' := .cells #[.int .i64 0, .slice none 0 0] 28) hk0) 0).trans (rfl : _ = some (Value.int .i64 q))
 have hz1 := (blk_cell (blk_al (o' := .cells #[.int .i64 0, .slice none 0 0] 28) hk0) 1).trans (rfl : _ = some (Value.slice A n c))
 have hd0 := (blk_cell hk1 0).trans (rfl : _ = some (Value.int .i64 0))
 have hd1 := (blk_cell hk1 1).trans (rfl : _ = some (Value.slice none 0 0))
 have hf0 := blk_frozen hk1 0
 have hf1 := blk_frozen hk1 1
 have hle : (n : Int) > 200 := by omega
 clear hk0 hk1
 go_enter Try.func25, Try.ntmps25
 go_wp2
 refine bodyPost_ret (results_ct rfl _ _ (w.heap.size + 1) 28 #[.int .i64 0, .slice none 0 0] (0, 0) _ rfl (by have := (MapKept.heap_alloc (w.alloc (.cells #[.int .i64 q, .slice A n c] 28)) (.cells #[.int .i64 0, .slice none 0 0] 28)).1; rwa [size_al] at this) hu3 rfl (by kernel_rfl)) rfl ?_
 exact ⟨by rfl, below_alloc (below_alloc (Below.refl _ _) _) _⟩
theorem limited_any (q : Int) (A : Option Addr) (n c : Nat) (w : World) :
 Calls Try.prog 25 #[.agg #[.int .i64 q, .slice A n c]] w fun e w' => ∃ q' A' n' c' rc, e = .returned (.tuple #[.agg #[.int .i64 q', .slice A' n' c'], .int .i64 rc]) ∧ ((200 < n ∧ q' = 0 ∧ A' = none ∧ n' = 0 ∧ c' = 0 ∧ rc = 3) ∨ (n ≤ 200 ∧ q' = q ∧ A' = A ∧ n' = n ∧ c' = c ∧ rc = 0)) ∧ Below w.heap.size w w' := by
 by_cases h : n ≤ 200
 · refine (limited_le q A n c w h).mono ?_
   rintro e w' ⟨rfl, hb⟩
   exact ⟨_, _, _, _, _, rfl, .inr ⟨h, rfl, rfl, rfl, rfl, rfl⟩, hb⟩
 · refine (limited_gt q A n c w (by omega)).mono ?_
   rintro e w' ⟨rfl, hb⟩
   exact ⟨_, _, _, _, _, rfl, .inl ⟨by omega, rfl, rfl, rfl, rfl, rfl⟩, hb⟩
end Go.Proofs.Ytgcgeoglhebonaa.P
end
section
namespace Go.Proofs.Ytgcgeoglhebonaa.P
open Go.RowKit Go.Maps Go.Proofs.YtgcgeoglhebonaaW.PrintWords Go.Proofs.YtgcgeoglhebonaaW.PrintLast Go.Proofs.YtgcgeoglhebonaaW.PrintMore
set_option linter.unusedVariables false
set_option linter.unusedSimpArgs false
def CommIs (p0 : Int) (xs : List S65) (p1 : Int) (ys : List S65) (rp : Int) (ts : List S65) (rc : Int) : Prop :=
 if wrongC p0 xs p1 ys ≠ 0 then rp = 0 ∧ ts = [] ∧ rc = wrongC p0 xs p1 ys
 else if joinOver 6 xs ys = true then rp = 0 ∧ ts = [] ∧ rc = 3
 else ∃ l, SumOf p0 (fun a => tot (prodAdds 6 xs ys) a - tot (prodAdds 6 ys xs) a) l ∧ ((200 < l.length ∧ rp = 0 ∧ ts = [] ∧ rc = 3) ∨ (l.length ≤ 200 ∧ rp = p0 ∧ ts = l ∧ rc = 0))
theorem wrongC_good {p0 : Int} {xs : List S65} {p1 : Int} {ys : List S65} (h : wrongC p0 xs p1 ys = 0) : GoodSum p0 xs ∧ GoodSum p1 ys ∧ p1 = p0 := by
 unfold wrongC at h
 by_cases h1 : (!isSumB p0 xs || !isSumB p1 ys) = true
 · rw [if_pos h1] at h; cases h
 · rw [if_neg h1] at h
   by_cases h2 : (p1 != p0) = true
   · rw [if_pos h2] at h; cases h
   · simp only [Bool.or_eq_true, Bool.not_eq_true', not_or, Bool.not_eq_false] at h1
     exact ⟨isSumB_good h1.1, isSumB_good h1.2, by simpa using h2⟩
theorem CommIs.unique {p0 : Int} {xs : List S65} {p1 : Int} {ys : List S65} {rp rp' : Int} {ts ts' : List S65} {rc rc' : Int} (h : CommIs p0 xs p1 ys rp ts rc) (h' : CommIs p0 xs p1 ys rp' ts' rc') : rp = rp' ∧ ts = ts' ∧ rc = rc' := by
 unfold CommIs at h h'
 by_cases h1 : wrongC p0 xs p1 ys ≠ 0
 · rw [if_pos h1] at h h'
   obtain ⟨rfl, rfl, rfl⟩ := h
   obtain ⟨rfl, rfl, rfl⟩ := h'
   exact ⟨rfl, rfl, rfl⟩
 · rw [if_neg h1] at h h'
   by_cases h2 : joinOver 6 xs ys = true
   · rw [if_pos h2] at h h'
     obtain ⟨rfl, rfl, rfl⟩ := h
     obtain ⟨rfl, rfl, rfl⟩ := h'
     exact ⟨rfl, rfl, rfl⟩
   · rw [if_neg h2] at h h'
     obtain ⟨l, h3, h4⟩ := h
     obtain ⟨l', h3', h4'⟩ := h'
     obtain rfl := h3.unique h3' (fun _ => rfl)
     rcases h4 with ⟨h5, rfl, rfl, rfl⟩ | ⟨h5, rfl, rfl, rfl⟩ <;> rcases h4' with ⟨h6, rfl, rfl, rfl⟩ | ⟨h6, rfl, rfl, rfl⟩
     · exact ⟨rfl, rfl, rfl⟩
     · omega
     · omega
     · exact ⟨rfl, rfl, rfl⟩
theorem GoodSum.tiny {p : Int} {ts : List S65} (h : GoodSum p ts) : ∀ t ∈ ts, tinyW t.f0 ∧ -1000 ≤ t.f1 ∧ t.f1 ≤ 1000 := fun t ht => by
 have h1 := word_len (h.word t ht)
 have h2 := h.range t ht
 have h3 := primeB_range h.prime
 exact ⟨⟨by omega, fun x hx => by have := word_range (h.word t ht) x hx; omega⟩, by omega, by omega⟩
theorem SumOf.small {p : Int} {f : List Int → Int} {l : List S65} (h : SumOf p f l) (hp : p ≤ 1000) (hs : ∀ t ∈ l, smallW t.f0) : ∀ t ∈ l, smallW t.f0 ∧ -1000 ≤ t.f1 ∧ t.f1 ≤ 1000 := fun t ht => by
 have := h.range t ht
 exact ⟨hs t ht, by omega, by omega⟩
theorem small_map {es : List TermV} (h : ∀ e ∈ es, smallW e.l) : ∀ t ∈ es.map termOf, smallW t.f0 := fun t ht => by
 obtain ⟨e, he, rfl⟩ := List.mem_map.1 ht
 exact h e he
theorem commutator_any (p0 p1 : Int) (A0 : Option Addr) (c0 : Nat) (xs : List S65) (A1 : Option Addr) (c1 : Nat) (ys : List S65) (w : World)
 (hx : k65.C w A0 xs.length xs) (hcx : xs.length ≤ c0) (hy : k65.C w A1 ys.length ys) (hcy : ys.length ≤ c1) :
 Calls Try.prog 9 #[.agg #[.int .i64 p0, .slice A0 xs.length c0], .agg #[.int .i64 p1, .slice A1 ys.length c1]] w fun e w' => ∃ rp u es rc, e = .returned (.tuple #[.agg #[.int .i64 rp, u], .int .i64 rc]) ∧ TRow w' w.heap.size u es ∧ CommIs p0 xs p1 ys rp (es.map termOf) rc ∧ (∀ e ∈ es, smallW e.l) ∧ Below w.heap.size w w' := by
 have hu3 := Try.underlying28
 have hb1 := below_alloc (Below.refl w.heap.size w) (.cells #[.int .i64 p0, .slice A0 xs.length c0] 28)
 have hb2 := below_alloc hb1 (.cells #[.int .i64 p1, .slice A1 ys.length c1] 28)
 have hb3 := below_alloc hb2 (.cells #[.int .i64 0, .slice none 0 0] 28)
 have hk0 := (MapKept.heap_alloc w (.cells #[.int .i64 p0, .slice A0 xs.length c0] 28)).1
 have hk1 := (MapKept.heap_alloc (w.alloc (.cells #[.int .i64 p0, .slice A0 xs.length c0] 28)) (.cells #[.int .i64 p1, .slice A1 ys.length c1] 28)).1
 have hk2 := (MapKept.heap_alloc ((w.alloc (.cells #[.int .i64 p0, .slice A0 xs.length c0] 28)).alloc (.cells #[.int .i64 p1, .slice A1 ys.length c1] 28)) (.cells #[.int .i64 0, .slice none 0 0] 28)).1
 have HBK := am (And.intro (blk_al (o' := .cells #[.int .i64 0, .slice none 0 0] 28) (blk_al (o' := .cells #[.int .i64 p1, .slice A1 ys.length c1] 28) hk0)) (And.intro (blk_al (o' := .cells #[.int .i64 0, .slice none 0 0] 28) hk1) hk2))
 simp only [size_al] at HBK
 have HB := am hb3
 have HX := am hx
 have HY := am hy
 have hz0 := (blk_cell HBK.out.1 0).trans (rfl : _ = some (Value.int .i64 p0))
 have hz1 := (blk_cell HBK.out.1 1).trans (rfl : _ = some (Value.slice A0 xs.length c0))
 have hz2 := (blk_cell HBK.out.2.1 0).trans (rfl : _ = some (Value.int .i64 p1))
 have hz3 := (blk_cell HBK.out.2.1 1).trans (rfl : _ = some (Value.slice A1 ys.length c1))
 clear hb1 hb2 hb3 hk0 hk1 hk2 hx hy
 go_enter Try.func9, Try.ntmps9
 go_wp2_with fail
 have HSZ := am (show (((w.alloc (.cells #[.int .i64 p0, .slice A0 xs.length c0] 28)).alloc (.cells #[.int .i64 p1, .slice A1 ys.length c1] 28)).alloc (.cells #[.int .i64 0, .slice none 0 0] 28)).heap.size = w.heap.size + 1 + 1 + 1 by simp)
 generalize ((w.alloc (.cells #[.int .i64 p0, .slice A0 xs.length c0] 28)).alloc (.cells #[.int .i64 p1, .slice A1 ys.length c1] 28)).alloc (.cells #[.int .i64 0, .slice none 0 0] 28) = w0 at *
 have hsb := (MapKept.heap_alloc w0 (.cells #[.int .i64 p0, .slice A0 xs.length c0, .int .i64 p1, .slice A1 ys.length c1] 28)).1
 have hb1 := below_alloc (Below.refl w0.heap.size w0) (.cells #[.int .i64 p0, .slice A0 xs.length c0, .int .i64 p1, .slice A1 ys.length c1] 28)
 rw [HSZ.out] at hsb
 have HW := am (wrong_any (w.heap.size + 1 + 1 + 1) p0 p1 A0 A1 c0 c1 xs ys _ hsb (Kd.C_below HX.out (below_step HB.out hb1)) hcx (Kd.C_below HY.out (below_step HB.out hb1)) hcy)
 refine HW.out.mono ?_
 rintro e w1 ⟨rfl, hb⟩
 have HKK := am (show ∀ W, Below w0.heap.size w0 W → W.heap[w.heap.size]? = some (.cells #[.int .i64 p0, .slice A0 xs.length c0] 28 (0, 0)) ∧ W.heap[w.heap.size + 1]? = some (.cells #[.int .i64 p1, .slice A1 ys.length c1] 28 (0, 0)) ∧ W.heap[w.heap.size + 1 + 1]? = some (.cells #[.int .i64 0, .slice none 0 0] 28 (0, 0)) from fun W h =>
  ⟨blk_below HBK.out.1 h, blk_below HBK.out.2.1 h, blk_below HBK.out.2.2 h⟩)
 have HB1 := am (below_step hb1 hb)
 clear hb hb1 hsb HW hz0 hz1 hz2 hz3 HBK
 by_cases hc : wrongC p0 xs p1 ys = 0
 · obtain ⟨hgx, hgy, hpp⟩ := wrongC_good hc
   have HC0 := am hc
   have HGX := am hgx
   have HGY := am hgy
   have hpr := primeB_range hgx.prime
   subst hpp
   have hlx := hgx.len
   have hly := hgy.len
   rw [hc]
   clear hc hgx hgy
   have hz0 := (blk_cell (HKK.out _ HB1.out).1 0).trans (rfl : _ = some (Value.int .i64 p1))
   have hz1 := (blk_cell (HKK.out _ HB1.out).1 1).trans (rfl : _ = some (Value.slice A0 xs.length c0))
   have hz2 := (blk_cell (HKK.out _ HB1.out).2.1 0).trans (rfl : _ = some (Value.int .i64 p1))
   have hz3 := (blk_cell (HKK.out _ HB1.out).2.1 1).trans (rfl : _ = some (Value.slice A1 ys.length c1))
   have HBW := am (fun W (h : Below w0.heap.size w0 W) => (below_step HB.out h : Below w.heap.size w W))
   have HJL := am (joinLimit_any p1 p1 A0 c0 xs A1 c1 ys w1 (Kd.C_below HX.out (HBW.out _ HB1.out)) (Kd.C_below HY.out (HBW.out _ HB1.out)) (fun t ht => by have := word_len (HGX.out.word t ht); omega) (fun t ht => by have := word_len (HGY.out.word t ht); omega) (by omega) (by omega))
   go_wp2_with fail
   refine HJL.out.mono ?_
   rintro e w2 ⟨rfl, hb⟩
   have HB2 := am (below_step HB1.out hb)
   clear hb HJL hz0 hz1 hz2 hz3 HB1
   by_cases hj : joinOver 6 xs ys = true
   · have HC := am (fun rp ts rc (h : rp = 0 ∧ ts = [] ∧ rc = 3) => show CommIs p1 xs p1 ys rp ts rc from by unfold CommIs; rw [if_neg (fun hh => hh HC0.out), if_pos hj]; exact h)
     have hk2 := (HKK.out _ HB2.out).2.2
     have hd0 := (blk_cell hk2 0).trans (rfl : _ = some (Value.int .i64 0))
     have hd1 := (blk_cell hk2 1).trans (rfl : _ = some (Value.slice none 0 0))
     have hf0 := blk_frozen hk2 0
     have hf1 := blk_frozen hk2 1
     have HK2 := am hk2
     rw [hj]
     clear hk2 hj
     go_wp2
     refine bodyPost_ret (results_ct rfl _ _ (w.heap.size + 1 + 1) 28 #[.int .i64 0, .slice none 0 0] (0, 0) _ rfl (by refine blk_put (cs := #[.int .i64 0, .slice none 0 0]) ?_ 1 _ rfl; refine blk_put (cs := #[.int .i64 0, .slice none 0 0]) ?_ 0 _ rfl; exact HK2.out) hu3 rfl (by kernel_rfl)) rfl ?_
     refine ⟨_, _, [], _, by rfl, TRow.nil _ _, HC.out _ _ _ ⟨rfl, rfl, rfl⟩, (fun e he => by cases he), ((HBW.out _ HB2.out).setCell (p := ⟨w.heap.size + 1 + 1, 0, none⟩) (by show w.heap.size ≤ w.heap.size + 1 + 1; omega) _).setCell (p := ⟨w.heap.size + 1 + 1, 1, none⟩) (by show w.heap.size ≤ w.heap.size + 1 + 1; omega) _⟩
   · have HC := am (fun rp ts rc (h : ∃ l, SumOf p1 (fun a => tot (prodAdds 6 xs ys) a - tot (prodAdds 6 ys xs) a) l ∧ ((200 < l.length ∧ rp = 0 ∧ ts = [] ∧ rc = 3) ∨ (l.length ≤ 200 ∧ rp = p1 ∧ ts = l ∧ rc = 0))) => show CommIs p1 xs p1 ys rp ts rc from by unfold CommIs; rw [if_neg (fun hh => hh HC0.out), if_neg hj]; exact h)
     have hjf : joinOver 6 xs ys = false := by simpa using hj
     rw [hjf]
     clear hj hjf
     go_wp2_with fail
     have HSS := am (fun W (hb : Below w0.heap.size w0 W) => show W.cell? ⟨w.heap.size, 0, none⟩ = some (.int .i64 p1) ∧ W.cell? ⟨w.heap.size, 1, none⟩ = some (.slice A0 xs.length c0) ∧ W.cell? ⟨w.heap.size + 1, 0, none⟩ = some (.int .i64 p1) ∧ W.cell? ⟨w.heap.size + 1, 1, none⟩ = some (.slice A1 ys.length c1) from
      ⟨(blk_cell (HKK.out W hb).1 0).trans rfl, (blk_cell (HKK.out W hb).1 1).trans rfl, (blk_cell (HKK.out W hb).2.1 0).trans rfl, (blk_cell (HKK.out W hb).2.1 1).trans rfl⟩)
     have HB3 := am (below_drew1 HB2.out)
     refine start_ (n := 12) (S := fun w' => w'.cell? ⟨w.heap.size, 0, none⟩ = some (.int .i64 p1) ∧ w'.cell? ⟨w.heap.size, 1, none⟩ = some (.slice A0 xs.length c0) ∧ w'.cell? ⟨w.heap.size + 1, 0, none⟩ = some (.int .i64 p1) ∧ w'.cell? ⟨w.heap.size + 1, 1, none⟩ = some (.slice A1 ys.length c1)) (ds := [10,11]) (bs 0 12) (by kernel_rfl) rfl rfl (HSS.out _ HB3.out) (fun hHeld => ?_)
     generalize w2.drew = w3 at HB3 hHeld ⊢
     refine take_ (i := 0) (N := (some 19)) (v := ?_) (a' := ?_) (bs 1 12) rfl rfl (by kernel_rfl) (fun _ _ _ h => h) (Or.inl ⟨by rfl, ?_⟩) hHeld ?_ ?_; rotate_left; rintro w' ⟨s0, s1, s2, s3⟩; go_simp; with_reducible rfl; rotate_left; simp only [Act.put, qq1, qq2, qq3, i64_w, i32_w]; rfl
     refine take_ (i := 1) (N := (some 20)) (v := ?_) (a' := ?_) (bs 3 12) rfl rfl (by kernel_rfl) (fun _ _ _ h => h) (Or.inl ⟨by rfl, ?_⟩) hHeld ?_ ?_; rotate_left; rintro w' ⟨s0, s1, s2, s3⟩; go_simp; with_reducible rfl; rotate_left; simp only [Act.put, qq1, qq2, qq3, i64_w, i32_w]; rfl
     refine take_ (i := 3) (N := (some 22)) (v := ?_) (a' := ?_) (bs 11 12) rfl rfl (by kernel_rfl) (fun _ _ _ h => h) (Or.inl ⟨by rfl, ?_⟩) hHeld ?_ ?_; rotate_left; rintro w' ⟨s0, s1, s2, s3⟩; go_simp; with_reducible rfl; rotate_left; simp only [Act.put, qq1, qq2, qq3, i64_w, i32_w]; rfl
     refine take_ (i := 4) (N := (some 23)) (v := ?_) (a' := ?_) (bs 27 12) rfl rfl (by kernel_rfl) (fun _ _ _ h => h) (Or.inl ⟨by rfl, ?_⟩) hHeld ?_ ?_; rotate_left; rintro w' ⟨s0, s1, s2, s3⟩; go_simp; with_reducible rfl; rotate_left; simp only [Act.put, qq1, qq2, qq3, i64_w, i32_w]; rfl
     refine one_ (i := 2) (N := (some 21)) (bs 31 12) rfl rfl (by kernel_rfl) (by decide) (fun K hK => ?_)
     refine goes_ Try.func27 (by kernel_rfl) rfl #[.agg #[.int .i64 p1, .slice A0 xs.length c0], .agg #[.int .i64 p1, .slice A1 ys.length c1], .int .i64 6] (by rfl) rfl rfl (by (try simp only [List.map_toArray, List.map_cons, List.map_nil]); rfl) ?_
     refine (product_any p1 p1 A0 c0 xs A1 c1 ys 6 w3 (by omega) (by omega) (Kd.C_below HX.out (HBW.out _ HB3.out)) (Kd.C_below HY.out (HBW.out _ HB3.out)) HGX.out.tiny HGY.out.tiny (by decide) (by omega) (by omega)).mono ?_
     rintro e w4 ⟨u1, es1, rfl, hs1, hl1, hb⟩
     refine ⟨_, rfl, ?_⟩
     have HB4 := am (below_step HB3.out hb)
     obtain ⟨B1, d1, rfl, hd1, hr1⟩ := hs1.row.reads
     have HS1 := am hs1
     have HR1 := am hr1
     have HL1 := am (Nat.le_trans hl1 (Nat.mul_le_mul hlx hly))
     clear hb hs1 hl1 hr1 hd1
     refine hK.out _ _ (HSS.out _ HB4.out) (fun hHeld => ?_)
     clear hK K
     refine norm_ (a' := ?_) ?_ ?_; rotate_left; show Act.put _ (some 21) _ = _; simp only [Act.put, qq1, qq2, qq3, i64_w, i32_w]; rfl
     refine one_ (i := 5) (N := (some 24)) (bs 63 12) rfl rfl (by kernel_rfl) (by decide) (fun K hK => ?_)
     refine goes_ Try.func27 (by kernel_rfl) rfl #[.agg #[.int .i64 p1, .slice A1 ys.length c1], .agg #[.int .i64 p1, .slice A0 xs.length c0], .int .i64 6] (by rfl) rfl rfl (by (try simp only [List.map_toArray, List.map_cons, List.map_nil]); rfl) ?_
     refine (product_any p1 p1 A1 c1 ys A0 c0 xs 6 w4 (by omega) (by omega) (Kd.C_below HY.out (HBW.out _ HB4.out)) (Kd.C_below HX.out (HBW.out _ HB4.out)) HGY.out.tiny HGX.out.tiny (by decide) (by omega) (by omega)).mono ?_
     rintro e w5 ⟨u2, es2, rfl, hs2, hl2, hb⟩
     refine ⟨_, rfl, ?_⟩
     have HB5 := am (below_step HB4.out hb)
     obtain ⟨B2, d2, rfl, hd2, hr2⟩ := hs2.row.reads
     have HS2 := am hs2
     have HR2 := am hr2
     have HR15 := am (Kd.C_below HR1.out hb)
     have HL2 := am (Nat.le_trans hl2 (Nat.mul_le_mul hly hlx))
     clear hb hs2 hl2 hr2 hd2
     refine hK.out _ _ (HSS.out _ HB5.out) (fun hHeld => ?_)
     clear hK K
     refine norm_ (a' := ?_) ?_ ?_; rotate_left; show Act.put _ (some 24) _ = _; simp only [Act.put, qq1, qq2, qq3, i64_w, i32_w]; rfl
     refine one_ (i := 6) (N := (some 25)) (bs 127 12) rfl rfl (by kernel_rfl) (by decide) (fun K hK => ?_)
     refine goes_ Try.func26 (by kernel_rfl) rfl #[.agg #[.int .i64 p1, .slice B1 (es1.map termOf).length d1], .agg #[.int .i64 p1, .slice B2 (es2.map termOf).length d2], .int .i64 (-1)] (by rfl) rfl rfl (by (try simp only [List.map_toArray, List.map_cons, List.map_nil]); rfl) ?_
     refine (plus_any p1 p1 B1 d1 (es1.map termOf) B2 d2 (es2.map termOf) (-1) w5 (by omega) (by omega) HR15.out HR2.out (HS1.out.sum.small (by omega) (small_map HS1.out.small)) (HS2.out.sum.small (by omega) (small_map HS2.out.small)) (by decide) (by have := HL1.out; rw [List.length_map]; omega) (by have := HL2.out; rw [List.length_map]; omega)).mono ?_
     rintro e w6 ⟨u3, es3, rfl, hs3, hb⟩
     refine ⟨_, rfl, ?_⟩
     have HB6 := am (below_step HB5.out hb)
     have HS3 := am ((hs3.congr (g := fun a => tot (prodAdds 6 xs ys) a - tot (prodAdds 6 ys xs) a) (fun a => by
      rw [tot_adds HS1.out.sum.sorted, tot_adds HS2.out.sum.sorted, HS1.out.sum.at_, HS2.out.sum.at_, Int.one_mul, Int.neg_mul, Int.one_mul, ← Int.sub_eq_add_neg, ← Int.sub_emod])).lower (HBW.out _ HB5.out).size)
     clear hb hs3 HS1 HS2 HR1 HR2 HR15 HL1 HL2
     refine hK.out _ _ (HSS.out _ HB6.out) (fun hHeld => ?_)
     clear hK K
     refine norm_ (a' := ?_) ?_ ?_; rotate_left; show Act.put _ (some 25) _ = _; simp only [Act.put, qq1, qq2, qq3, i64_w, i32_w]; rfl
     obtain ⟨B3, d3, rfl⟩ := HS3.out.row.slice
     refine one_ (i := 7) (N := (some 26)) (bs 255 12) rfl rfl (by kernel_rfl) (by decide) (fun K hK => ?_)
     refine goes_ Try.func25 (by kernel_rfl) rfl #[.agg #[.int .i64 p1, .slice B3 es3.length d3]] (by rfl) rfl rfl (by (try simp only [List.map_toArray, List.map_cons, List.map_nil]); rfl) ?_
     refine (limited_any p1 B3 es3.length d3 w6).mono ?_
     rintro e w7 ⟨q4, B4, n4, d4, rc4, rfl, hcase, hb⟩
     refine ⟨_, rfl, ?_⟩
     have HB7 := am (below_step HB6.out hb)
     have HS7 := am (HS3.out.below hb)
     have HCASE := am hcase
     clear hb hcase
     refine hK.out _ _ (HSS.out _ HB7.out) (fun hHeld => ?_)
     clear hK K
     refine norm_ (a' := ?_) ?_ ?_; rotate_left; show Act.put _ (some 26) _ = _; simp only [Act.put, qq1, qq2, qq3, i64_w, i32_w]; rfl
     have hk2 := (HKK.out _ HB7.out).2.2
     have hd0 := (blk_cell hk2 0).trans (rfl : _ = some (Value.int .i64 0))
     have hd1 := (blk_cell hk2 1).trans (rfl : _ = some (Value.slice none 0 0))
     have hf0 := blk_frozen hk2 0
     have hf1 := blk_frozen hk2 1
     have HK2 := am hk2
     clear hk2
     refine pure_ (i := 8) (N := (some 27)) (v := ?_) (a' := ?_) (bs 511 12) rfl rfl (by kernel_rfl) (fun _ _ _ h => h) (Or.inl ⟨by rfl, ?_⟩) ?_ ?_; rotate_left; intro w'; go_simp; with_reducible rfl; rotate_left; simp only [Act.put, qq1, qq2, qq3, i64_w, i32_w]; rfl
     refine pure_ (i := 9) (N := (some 28)) (v := ?_) (a' := ?_) (bs 1023 12) rfl rfl (by kernel_rfl) (fun _ _ _ h => h) (Or.inl ⟨by rfl, ?_⟩) ?_ ?_; rotate_left; intro w'; go_simp; with_reducible rfl; rotate_left; simp only [Act.put, qq1, qq2, qq3, i64_w, i32_w]; rfl
     refine last_ (i := 10) (N := none) (bs 2047 12) rfl rfl (by kernel_rfl) (by decide) (fun K hK => ?_)
     refine skip_ (w1 := ?_) (by rfl) rfl ?_ ?_
     rotate_left
     · go_simp
       rfl
     refine hK.out _ _ ?_
     clear hK K hd0 hd1 hf0 hf1
     refine pure_ (i := 11) (N := (some 5)) (v := ?_) (a' := ?_) (bs 4095 12) rfl rfl (by kernel_rfl) (fun _ _ _ h => h) (Or.inl ⟨by rfl, ?_⟩) ?_ ?_; rotate_left; intro w'; go_simp; with_reducible rfl; rotate_left; simp only [Act.put, qq1, qq2, qq3, i64_w, i32_w]; rfl
     refine done_ (by kernel_rfl) ?_
     go_wp2_with fail
     refine bodyPost_ret (results_ct rfl _ _ (w.heap.size + 1 + 1) 28 #[.int .i64 q4, .slice B4 n4 d4] (0, 0) _ rfl (by refine blk_put (cs := #[.int .i64 q4, .slice none 0 0]) ?_ 1 _ rfl; refine blk_put (cs := #[.int .i64 0, .slice none 0 0]) ?_ 0 _ rfl; exact HK2.out) hu3 rfl (by kernel_rfl)) rfl ?_
     have HBE := am (((HBW.out _ HB7.out).setCell (p := ⟨w.heap.size + 1 + 1, 0, none⟩) (by show w.heap.size ≤ w.heap.size + 1 + 1; omega) (.int .i64 q4)).setCell (p := ⟨w.heap.size + 1 + 1, 1, none⟩) (by show w.heap.size ≤ w.heap.size + 1 + 1; omega) (.slice B4 n4 d4))
     rcases HCASE.out with ⟨hn, rfl, rfl, rfl, rfl, rfl⟩ | ⟨hn, rfl, rfl, rfl, rfl, rfl⟩
     · exact ⟨_, _, [], _, by rfl, TRow.nil _ _, HC.out _ _ _ ⟨_, HS7.out.sum, .inl ⟨by rw [List.length_map]; exact hn, rfl, rfl, rfl⟩⟩, (fun e he => by cases he), HBE.out⟩
     · have h1 := TRow.set HS7.out.row HK2.out (by decide) (by decide) 0 (.int .i64 q4)
       exact ⟨_, _, es3, _, by rfl, TRow.set h1 (blk_put (cs := #[.int .i64 0, .slice none 0 0]) HK2.out 0 (.int .i64 q4) rfl) (by decide) (by decide) 1 (.slice B4 es3.length d4), HC.out _ _ _ ⟨_, HS7.out.sum, .inr ⟨by rw [List.length_map]; exact hn, rfl, rfl, rfl⟩⟩, HS7.out.small, HBE.out⟩
 · have HC := am (fun rp ts rc (h : rp = 0 ∧ ts = [] ∧ rc = wrongC p0 xs p1 ys) => show CommIs p0 xs p1 ys rp ts rc from by unfold CommIs; rw [if_pos hc]; exact h)
   have hk2 := (HKK.out _ HB1.out).2.2
   have hd0 := (blk_cell hk2 0).trans (rfl : _ = some (Value.int .i64 0))
   have hd1 := (blk_cell hk2 1).trans (rfl : _ = some (Value.slice none 0 0))
   have hf0 := blk_frozen hk2 0
   have hf1 := blk_frozen hk2 1
   have HK2 := am hk2
   clear hk2
   have hcb : (wrongC p0 xs p1 ys != 0) = true := by simpa using hc
   generalize wrongC p0 xs p1 ys = code at *
   clear hc
   go_wp2
   refine bodyPost_ret (results_ct rfl _ _ (w.heap.size + 1 + 1) 28 #[.int .i64 0, .slice none 0 0] (0, 0) _ rfl (by refine blk_put (cs := #[.int .i64 0, .slice none 0 0]) ?_ 1 _ rfl; refine blk_put (cs := #[.int .i64 0, .slice none 0 0]) ?_ 0 _ rfl; exact HK2.out) hu3 rfl (by kernel_rfl)) rfl ?_
   refine ⟨_, _, [], _, by rfl, TRow.nil _ _, HC.out _ _ _ ⟨rfl, rfl, rfl⟩, (fun e he => by cases he), ((below_step HB.out HB1.out).setCell (p := ⟨w.heap.size + 1 + 1, 0, none⟩) (by show w.heap.size ≤ w.heap.size + 1 + 1; omega) _).setCell (p := ⟨w.heap.size + 1 + 1, 1, none⟩) (by show w.heap.size ≤ w.heap.size + 1 + 1; omega) _⟩
end Go.Proofs.Ytgcgeoglhebonaa.P
end
section
namespace Go.Proofs.Ytgcgeoglhebonaa.P
open Go.RowKit Go.Proofs.YtgcgeoglhebonaaW.PrintWords Go.Proofs.YtgcgeoglhebonaaW.PrintLast
set_option linter.unusedVariables false
set_option linter.unusedSimpArgs false
theorem own_eq (l : List Int) (h : l.length ≤ 1000000) : spec_l01Own.f l = some l := by
 unfold spec_l01Own.f
 simp only [Option.bind_some, List.length_nil, Nat.zero_add, if_pos (show l.length < 17592186044416 by omega), List.nil_append]
theorem at_l0 (w : List Int) (p : Int) (l : List S65) (hn : l.length ≤ 1000000) (hs : ∀ t ∈ l, t.f0.length ≤ 1000) : ∀ (d i : Nat), i + d = l.length → Ev (fun k => spec_l03At.l0 k w (i : Int) p l) (cof (l.drop i) w) := by
 intro d
 induction d with
 | zero =>
  intro i hi
  refine Ev.step (fun k => by rw [spec_l03At.l0]) ?_
  simp only [if_neg (show ¬ ((i : Int) < (l.length : Int)) by omega)]
  exact ev_val (by rw [List.drop_of_length_le (by omega)]; rfl)
 | succ d ih =>
  intro i hi
  have hd := rdT_drop l i (by omega)
  have hm := hs _ (rdV_mem l i (by omega))
  refine Ev.step (fun k => by rw [spec_l03At.l0]) ?_
  simp only [if_pos (show ((i : Int) < (l.length : Int)) by omega), if_pos (show (0 : Int) ≤ (i : Int) by omega), wr1 i l.length (by omega) (by omega)]
  refine Ev.bind (ev_same _ w (by omega)) ?_
  rw [hd]
  generalize rd_T65 l (i : Int) = t at *
  by_cases h : t.f0 = w
  · simp only [h, decide_true, if_true]
    exact ev_val (by simp [cof, h])
  · simp only [h, decide_false, Bool.false_eq_true, if_false]
    have e : cof (t :: l.drop (i + 1)) w = cof (l.drop (i + 1)) w := by simp [cof, h]
    rw [e]
    exact ih (i + 1) (by omega)
theorem ev_at (p : Int) (l : List S65) (w : List Int) (hn : l.length ≤ 1000000) (hs : ∀ t ∈ l, t.f0.length ≤ 1000) : Ev (fun k => spec_l03At.f k p l w) (cof l w) := at_l0 w p l hn hs l.length 0 (by omega)
theorem mod_eq (n p : Int) (hp : 0 < p) (hp2 : p ≤ 1000000) (h1 : -1000000000000 ≤ n) (h2 : n ≤ 1000000000000) : spec_l03Mod.f p n = some (n % p) := by
 have e1 : wrap64 (Int.tmod n p + p) = Int.tmod n p + p := by
  have := Int.tmod_lt_of_pos n hp
  have h3 : -p < Int.tmod n p := by
   have := Int.lt_tmod_of_pos n hp
   omega
  unfold wrap64; omega
 unfold spec_l03Mod.f
 rw [if_neg (by omega), e1]
 have h3 : 0 ≤ Int.tmod n p + p := by
  have := Int.lt_tmod_of_pos n hp
  omega
 rw [Int.tmod_eq_emod_of_nonneg h3, Int.add_emod_right, Int.tmod_def, Int.sub_mul_emod_self_left]
structure Okay (p : Int) (n : Nat) (l : List S65) : Prop where
 sum : ∃ f, SumOf p f l
 len : l.length ≤ n
 word : ∀ t ∈ l, t.f0.length ≤ 1000
theorem putL_length : ∀ (l : List S65) (w : List Int) (u : Int) (done : Bool), (putL w u done l).length ≤ l.length + (if done then 0 else 1)
 | [], w, u, done => by cases done <;> simp [putL]
 | t :: l, w, u, done => by
  have ih := putL_length l w u
  have hi : ((if t.f0 = w then [] else [t]) : List S65).length ≤ 1 := by split <;> simp
  unfold putL
  split
  · rename_i h
    simp only [Bool.and_eq_true, Bool.not_eq_true'] at h
    have := ih true
    simp only [h.1, List.length_cons, List.length_append, if_true] at *
    simp only [Bool.false_eq_true, if_false]
    omega
  · have := ih done
    simp only [List.length_cons, List.length_append] at *
    omega
theorem Okay.put {p : Int} {n : Nat} {l : List S65} (hp : 0 < p) (h : Okay p n l) (w : List Int) (v : Int) (hw : w.length ≤ 1000) : Okay p (n + 1) (putT p l w v) := by
 obtain ⟨⟨f, hf⟩, h2, h3⟩ := h
 refine ⟨⟨_, hf.put hp w v⟩, ?_, fun t ht => ?_⟩
 · have := putL_length l w ((v + cof l w) % p) (decide ((v + cof l w) % p = 0))
   unfold putT
   split at this <;> omega
 · rcases putL_mem _ _ _ _ _ ht with ⟨_, rfl⟩ | ⟨h4, _⟩
   · exact hw
   · exact h3 t h4
theorem put_l0 (w : List Int) (u p : Int) (l : List S65) (hw : w.length ≤ 1000) (hn : l.length ≤ 1000000) (hs : ∀ t ∈ l, t.f0.length ≤ 1000) : ∀ (d i : Nat) (done : Bool) (out : List S65), i + d = l.length → out.length + 2 * d ≤ 3000000 → Ev (fun k => spec_l03Put.l0 k w u done (i : Int) p l p out) (p, out ++ putL w u done (l.drop i)) := by
 intro d
 induction d with
 | zero =>
  intro i done out hi ho
  refine Ev.step (fun k => by rw [spec_l03Put.l0]) ?_
  simp only [if_neg (show ¬ ((i : Int) < (l.length : Int)) by omega), List.drop_of_length_le (show l.length ≤ i by omega)]
  cases done with
  | true => simp only [if_true]; exact ev_val (by simp [putL])
  | false =>
   simp only [Bool.false_eq_true, if_false, own_eq w (by omega), Option.bind_some, if_pos (show out.length < 4398046511104 by omega)]
   exact ev_val (by simp [putL])
 | succ d ih =>
  intro i done out hi ho
  have hd := rdT_drop l i (by omega)
  have hm := hs _ (rdV_mem l i (by omega))
  have tail : ∀ (dn : Bool) (o : List S65), o.length + 1 + 2 * d ≤ 3000000 → Ev (fun k => spec_l03Put.j2 k w u dn (i : Int) p l p o (rd_T65 l (i : Int)).f0 (rd_T65 l (i : Int)).f1) (p, o ++ ((if (rd_T65 l (i : Int)).f0 = w then [] else [rd_T65 l (i : Int)]) ++ putL w u dn (l.drop (i + 1)))) := by
   intro dn o h2
   refine Ev.step (fun k => by rw [spec_l03Put.j2]) ?_
   refine Ev.bind (ev_same _ w (by omega)) ?_
   by_cases h : (rd_T65 l (i : Int)).f0 = w
   · simp only [h, decide_true, if_true, wr1 i l.length (by omega) (by omega), List.nil_append]
     exact ih (i + 1) dn o (by omega) (by omega)
   · simp only [h, decide_false, Bool.false_eq_true, if_false, wr1 i l.length (by omega) (by omega), own_eq _ (show (rd_T65 l (i : Int)).f0.length ≤ 1000000 by omega), Option.bind_some, if_pos (show o.length < 4398046511104 by omega)]
     have := ih (i + 1) dn (o ++ [rd_T65 l (i : Int)]) (by omega) (by simp; omega)
     rw [List.append_assoc] at this
     exact this
  refine Ev.step (fun k => by rw [spec_l03Put.l0]) ?_
  simp only [if_pos (show ((i : Int) < (l.length : Int)) by omega), if_pos (show (0 : Int) ≤ (i : Int) by omega)]
  rw [hd]
  cases done with
  | true =>
   simp only [if_true]
   refine Ev.step (fun k => by rw [spec_l03Put.j1]) ?_
   simp only [Bool.false_eq_true, if_false]
   have := tail true out (by omega)
   unfold putL
   simpa using this
  | false =>
   simp only [Bool.false_eq_true, if_false]
   refine Ev.bind (ev_before w _ (by omega)) ?_
   refine Ev.step (fun k => by rw [spec_l03Put.j1]) ?_
   by_cases hb : wlt w (rd_T65 l (i : Int)).f0 = true
   · simp only [hb, if_true, own_eq w (show w.length ≤ 1000000 by omega), Option.bind_some, if_pos (show out.length < 4398046511104 by omega)]
     have := tail true (out ++ [⟨w, u⟩]) (by simp; omega)
     rw [List.append_assoc] at this
     unfold putL
     rw [if_pos (by simp [hb])]
     exact this
   · simp only [hb, Bool.false_eq_true, if_false]
     have := tail false out (by omega)
     unfold putL
     rw [if_neg (by simp [hb])]
     exact this
theorem cof_range {p : Int} {l : List S65} {f : List Int → Int} (h : SumOf p f l) (hp : 0 < p) (w : List Int) : 0 ≤ cof l w ∧ cof l w < p := by
 rw [h.at_]
 exact ⟨Int.emod_nonneg _ (by omega), Int.emod_lt_of_pos _ hp⟩
theorem ev_put (p : Int) (n : Nat) (l : List S65) (w : List Int) (v : Int) (h : Okay p n l) (hn : n ≤ 1000000) (hp : 0 < p) (hp2 : p ≤ 1000) (hw : w.length ≤ 1000) (hv : -1000000000 ≤ v ∧ v ≤ 1000000000) : Ev (fun k => spec_l03Put.f k p l w v) (p, putT p l w v) := by
 obtain ⟨⟨f, hf⟩, h2, h3⟩ := h
 have hc := cof_range hf hp w
 unfold spec_l03Put.f spec_l03Empty.f
 simp only [Option.bind_some]
 refine Ev.bind (ev_at p l w (by omega) h3) ?_
 have e : wrap64 (v + cof l w) = v + cof l w := by unfold wrap64; omega
 simp only [e, mod_eq (v + cof l w) p hp (by omega) (by omega) (by omega), Option.bind_some]
 have := put_l0 w ((v + cof l w) % p) p l hw (by omega) h3 l.length 0 (decide ((v + cof l w) % p = 0)) [] (by omega) (by simp; omega)
 rw [List.nil_append] at this
 exact this
end Go.Proofs.Ytgcgeoglhebonaa.P
end
section
namespace Go.Proofs.Ytgcgeoglhebonaa.P
open Go.RowKit Go.Proofs.YtgcgeoglhebonaaW.PrintWords Go.Proofs.YtgcgeoglhebonaaW.PrintLast
set_option linter.unusedVariables false
set_option linter.unusedSimpArgs false
theorem join_l0 (a b : List Int) (ha : a.length ≤ 1000) (hb : b.length ≤ 1000) (hs : ∀ x ∈ b, 0 ≤ x ∧ x < 1000) : ∀ (d i : Nat), i + d = b.length → Ev (fun k => spec_l01Join.l0 k a b (joinW a (b.take i)) (i : Int)) (joinW a b) := by
 intro d
 induction d with
 | zero =>
  intro i hi
  refine Ev.step (fun k => by rw [spec_l01Join.l0]) ?_
  simp only [if_neg (show ¬ ((i : Int) < (b.length : Int)) by omega)]
  exact ev_val (by rw [List.take_of_length_le (by omega)])
 | succ d ih =>
  intro i hi
  have hx : 0 ≤ rd b (i : Int) ∧ rd b (i : Int) < 1000 := hs _ (by simp [rd, List.getD_eq_getElem?_getD, List.getElem?_eq_getElem (show i < b.length by omega)])
  have hl : (joinW a (b.take i)).length ≤ 2000 := by simp [joinW]; omega
  have e1 : ((a.length : Int) / 2) = ((a.length / 2 : Nat) : Int) := by omega
  have e2 : wrap64 ((a.length / 2 : Nat) : Int) = ((a.length / 2 : Nat) : Int) := by unfold wrap64; omega
  have e3 : wrap64 (rd b (i : Int) + ((a.length / 2 : Nat) : Int)) = rd b (i : Int) + ((a.length / 2 : Nat) : Int) := by unfold wrap64; omega
  refine Ev.step (fun k => by rw [spec_l01Join.l0]) ?_
  simp only [if_pos (show ((i : Int) < (b.length : Int)) by omega), if_pos (show (0 : Int) ≤ (i : Int) by omega), if_pos (show (joinW a (b.take i)).length < 17592186044416 by omega), e1, e2, e3, wr1 i b.length (by omega) (by omega)]
  rw [← joinW_take a b i (by omega)]
  exact ih (i + 1) (by omega)
theorem ev_join (a b : List Int) (ha : a.length ≤ 1000) (hb : b.length ≤ 1000) (hs : ∀ x ∈ b, 0 ≤ x ∧ x < 1000) : Ev (fun k => spec_l01Join.f k a b) (joinW a b) := by
 unfold spec_l01Join.f
 simp only [own_eq a (by omega), Option.bind_some]
 have := join_l0 a b ha hb hs b.length 0 (by omega)
 simpa [joinW] using this
def JoinRes (p : Int) (ys : List S65) (xs : List S65) (adds : List (List Int × Int)) (first : List S65) (out o : List S65) (b : Bool) : Prop :=
 (b = true → o = putAllT p out adds ∧ (∀ t ∈ xs, ∀ u ∈ ys, t.f0.length + u.f0.length ≤ 12)) ∧ (b = false → ∃ t ∈ xs, ∃ u ∈ ys, 12 < t.f0.length + u.f0.length)
theorem fits_of {t u : S65} (h : t.f0.length + u.f0.length ≤ 12) : fitsB 6 t u = true := by
 unfold fitsB
 exact decide_eq_true (by omega)
theorem prodAdds_cons (n : Nat) (t : S65) (x y : List S65) : prodAdds n (t :: x) y = rowAdds n t y ++ prodAdds n x y := by simp [prodAdds, rowAdds]
theorem rowAdds_cons (n : Nat) (t u : S65) (y : List S65) (h : fitsB n t u = true) : rowAdds n t (u :: y) = (joinW t.f0 u.f0, t.f1 * u.f1) :: rowAdds n t y := by simp [rowAdds, h]
theorem mul_wrap (a b : Int) (ha : -1000 ≤ a ∧ a ≤ 1000) (hb : -1000 ≤ b ∧ b ≤ 1000) : wrap64 (a * b) = a * b := by
 have := mul_bd a b ha hb
 generalize a * b = c at *
 unfold wrap64; omega
theorem mul_bd9 (a b : Int) (ha : -1000 ≤ a ∧ a ≤ 1000) (hb : -1000 ≤ b ∧ b ≤ 1000) : -1000000000 ≤ a * b ∧ a * b ≤ 1000000000 := by
 have := mul_bd a b ha hb
 generalize a * b = c at *
 omega
theorem not12 {m : Nat} {n : Nat} (h : n = m) (h2 : n ≤ 12) : ¬ ((m : Int) > 12) := by omega
theorem gt12 {m : Nat} {n : Nat} (h : n = m) (h2 : ¬ n ≤ 12) : ((m : Int) > 12) := by omega
theorem wrapAdd12 {a b m : Nat} (h : a + b = m) (ha : a ≤ 24) (hb : b ≤ 24) : wrap64 ((a : Int) + (b : Int)) = (m : Int) := by unfold wrap64; omega
theorem specjoin_l0 (p q : Int) (xs ys : List S65) (hp : 0 < p) (hp2 : p ≤ 1000) (hx : xs.length ≤ 200) (hy : ys.length ≤ 200) (hsx : ∀ t ∈ xs, tinyW t.f0 ∧ -1000 ≤ t.f1 ∧ t.f1 ≤ 1000) (hsy : ∀ t ∈ ys, tinyW t.f0 ∧ -1000 ≤ t.f1 ∧ t.f1 ≤ 1000) :
 ∀ (d i n : Nat) (out : List S65), i + d = xs.length → Okay p n out → n + d * 200 ≤ 500000 → ∃ o b, Ev (fun k => spec_l03Join.l0 k (i : Int) p xs q ys p out) (p, o, b) ∧ JoinRes p ys (xs.drop i) (prodAdds 6 (xs.drop i) ys) [] out o b := by
 intro d
 induction d with
 | zero =>
  intro i n out hi ho hn
  refine ⟨out, true, Ev.step (fun k => by rw [spec_l03Join.l0]) ?_, fun _ => ?_, fun h => by cases h⟩
  · simp only [if_neg (show ¬ ((i : Int) < (xs.length : Int)) by omega)]
    exact Ev.now _
  · rw [List.drop_of_length_le (by omega)]
    exact ⟨rfl, fun t ht => by cases ht⟩
 | succ d ih =>
  intro i n out hi ho hn
  have hd := rdT_drop xs i (by omega)
  have hmx := rdV_mem xs i (by omega)
  have hst := hsx _ hmx
  obtain ⟨t0, ht0⟩ : ∃ t0, rd_T65 xs (i : Int) = t0 := ⟨_, rfl⟩
  rw [ht0] at hd hmx hst
  have inner : ∀ (e k0 m : Nat) (o2 : List S65), k0 + e = ys.length → Okay p m o2 → m + e + d * 200 ≤ 500000 → ∃ o b, Ev (fun k => spec_l03Join.l1 k (i : Int) (k0 : Int) p xs q ys p o2) (p, o, b) ∧ ((b = true → o = putAllT p o2 (rowAdds 6 t0 (ys.drop k0) ++ prodAdds 6 (xs.drop (i + 1)) ys) ∧ (∀ u ∈ ys.drop k0, t0.f0.length + u.f0.length ≤ 12) ∧ (∀ t ∈ xs.drop (i + 1), ∀ u ∈ ys, t.f0.length + u.f0.length ≤ 12)) ∧ (b = false → ∃ t ∈ xs.drop i, ∃ u ∈ ys, 12 < t.f0.length + u.f0.length)) := by
   intro e
   induction e with
   | zero =>
    intro k0 m o2 hk ho2 hm
    obtain ⟨o, b, h1, h2, h3⟩ := ih (i + 1) m o2 (by omega) ho2 (by omega)
    refine ⟨o, b, Ev.step (fun k => by rw [spec_l03Join.l1]) ?_, fun hb => ?_, fun hb => ?_⟩
    · simp only [if_neg (show ¬ ((k0 : Int) < (ys.length : Int)) by omega), wr1 i xs.length (by omega) (by omega)]
      exact h1
    · rw [List.drop_of_length_le (show ys.length ≤ k0 by omega)]
      exact ⟨(h2 hb).1, (fun u hu => by cases hu), (h2 hb).2⟩
    · obtain ⟨t, ht, u, hu, h⟩ := h3 hb
      exact ⟨t, by rw [hd]; exact List.mem_cons_of_mem _ ht, u, hu, h⟩
   | succ e ih2 =>
    intro k0 m o2 hk ho2 hm
    have hdy := rdT_drop ys k0 (by omega)
    have hmy := rdV_mem ys k0 (by omega)
    have hsu := hsy _ hmy
    obtain ⟨u0, hu0⟩ : ∃ u0, rd_T65 ys (k0 : Int) = u0 := ⟨_, rfl⟩
    rw [hu0] at hdy hmy hsu
    have hlt := hst.1.1
    have hlu := hsu.1.1
    obtain ⟨m0, hm0⟩ : ∃ m0, t0.f0.length + u0.f0.length = m0 := ⟨_, rfl⟩
    have e1 := am (show wrap64 ((t0.f0.length : Int) + (u0.f0.length : Int)) = (m0 : Int) from wrapAdd12 hm0 hlt hlu)
    by_cases hfit : t0.f0.length + u0.f0.length ≤ 12
    · have e2 := am (mul_wrap t0.f1 u0.f1 hst.2 hsu.2)
      have E9 := am (mul_bd9 t0.f1 u0.f1 hst.2 hsu.2)
      have hjl : (joinW t0.f0 u0.f0).length ≤ 1000 := (joinW_small hst.1 hsu.1).1
      obtain ⟨o, b, h1, h2, h3⟩ := ih2 (k0 + 1) (m + 1) _ (by omega) (ho2.put hp (joinW t0.f0 u0.f0) (t0.f1 * u0.f1) hjl) (by omega)
      refine ⟨o, b, Ev.step (fun k => by rw [spec_l03Join.l1]) ?_, fun hb => ?_, h3⟩
      · simp only [if_pos (show ((k0 : Int) < (ys.length : Int)) by omega), if_pos (show (0 : Int) ≤ (i : Int) by omega), if_pos (show ((i : Int) < (xs.length : Int)) by omega), if_pos (show (0 : Int) ≤ (k0 : Int) by omega), ht0, hu0, e1.out, e2.out, if_neg (not12 hm0 hfit), wr1 k0 ys.length (by omega) (by omega)]
        refine Ev.bind (ev_join _ _ (by omega) (by omega) (fun x hx => by have := hsu.1.2 x hx; omega)) ?_
        refine Ev.bind (ev_put p m o2 _ _ ho2 (by omega) hp hp2 hjl E9.out) ?_
        exact h1
      · obtain ⟨h4, h5, h6⟩ := h2 hb
        rw [hdy, rowAdds_cons _ _ _ _ (fits_of hfit)]
        refine ⟨h4, fun u hu => ?_, h6⟩
        rcases List.mem_cons.1 hu with rfl | hu
        · exact hfit
        · exact h5 u hu
    · refine ⟨o2, false, Ev.step (fun k => by rw [spec_l03Join.l1]) ?_, fun hb => (by cases hb), fun _ => ⟨_, by rw [hd]; exact List.mem_cons_self, _, hmy, by omega⟩⟩
      simp only [if_pos (show ((k0 : Int) < (ys.length : Int)) by omega), if_pos (show (0 : Int) ≤ (i : Int) by omega), if_pos (show ((i : Int) < (xs.length : Int)) by omega), if_pos (show (0 : Int) ≤ (k0 : Int) by omega), ht0, hu0, e1.out, if_pos (gt12 hm0 hfit)]
      exact Ev.now _
  obtain ⟨o, b, h1, h2, h3⟩ := inner ys.length 0 n out (by omega) ho (by omega)
  refine ⟨o, b, Ev.step (fun k => by rw [spec_l03Join.l0]) ?_, fun hb => ?_, h3⟩
  · simp only [if_pos (show ((i : Int) < (xs.length : Int)) by omega)]
    exact h1
  · obtain ⟨h4, h5, h6⟩ := h2 hb
    rw [hd, prodAdds_cons]
    refine ⟨h4, fun t ht u hu => ?_⟩
    rcases List.mem_cons.1 ht with rfl | ht
    · exact h5 u (by simpa using hu)
    · exact h6 t ht u hu
theorem specjoin (p q : Int) (xs ys : List S65) (hp : 0 < p) (hp2 : p ≤ 1000) (hx : xs.length ≤ 200) (hy : ys.length ≤ 200) (hsx : ∀ t ∈ xs, tinyW t.f0 ∧ -1000 ≤ t.f1 ∧ t.f1 ≤ 1000) (hsy : ∀ t ∈ ys, tinyW t.f0 ∧ -1000 ≤ t.f1 ∧ t.f1 ≤ 1000) :
 ∃ o b, Ev (fun k => spec_l03Join.f k p xs q ys) (p, o, b) ∧ JoinRes p ys xs (prodAdds 6 xs ys) [] [] o b := by
 have h0 : Okay p 0 [] := ⟨⟨_, SumOf.nil p⟩, Nat.le_refl _, fun t ht => by cases ht⟩
 obtain ⟨o, b, h1, h2⟩ := specjoin_l0 p q xs ys hp hp2 hx hy hsx hsy xs.length 0 0 [] (by omega) h0 (by omega)
 refine ⟨o, b, ?_, h2⟩
 unfold spec_l03Join.f spec_l03Empty.f
 simp only [Option.bind_some]
 exact h1
end Go.Proofs.Ytgcgeoglhebonaa.P
end
section
namespace Go.Proofs.Ytgcgeoglhebonaa.P
open Go.RowKit Go.Proofs.YtgcgeoglhebonaaW.PrintWords Go.Proofs.YtgcgeoglhebonaaW.PrintLast
set_option linter.unusedVariables false
set_option linter.unusedSimpArgs false
theorem plus_l1 (p : Int) (x : List S65) (hn : x.length ≤ 1000000) (hs : ∀ t ∈ x, t.f0.length ≤ 1000) : ∀ (d i : Nat), i + d = x.length → Ev (fun k => spec_l03Plus.l1 k (i : Int) p x p (x.take i)) (p, x) := by
 intro d
 induction d with
 | zero =>
  intro i hi
  refine Ev.step (fun k => by rw [spec_l03Plus.l1]) ?_
  simp only [if_neg (show ¬ ((i : Int) < (x.length : Int)) by omega)]
  exact ev_val (by rw [List.take_of_length_le (by omega)])
 | succ d ih =>
  intro i hi
  have hm := hs _ (rdV_mem x i (by omega))
  have ht : (x.take i).length < 4398046511104 := by simp; omega
  refine Ev.step (fun k => by rw [spec_l03Plus.l1]) ?_
  simp only [if_pos (show ((i : Int) < (x.length : Int)) by omega), if_pos (show (0 : Int) ≤ (i : Int) by omega), own_eq _ (Nat.le_trans hm (by decide)), Option.bind_some, if_pos ht, wr1 i x.length (by omega) (by omega)]
  have := ih (i + 1) (by omega)
  rw [take_succ_V x i (by omega)] at this
  exact this
theorem plus_l0 (p q kk : Int) (x y : List S65) (hp : 0 < p) (hp2 : p ≤ 1000) (hx : x.length ≤ 100000) (hy : y.length ≤ 100000) (hwx : ∀ t ∈ x, t.f0.length ≤ 1000) (hwy : ∀ t ∈ y, t.f0.length ≤ 1000 ∧ -1000 ≤ t.f1 ∧ t.f1 ≤ 1000) (hk : -1000 ≤ kk ∧ kk ≤ 1000) :
 ∀ (d i n : Nat) (out : List S65), i + d = y.length → Okay p n out → n + d ≤ 500000 → (y = [] → out = x) → Ev (fun k => spec_l03Plus.l0 k kk (i : Int) p x q y p out) (p, putAllT p out (addsT (y.drop i) kk)) := by
 intro d
 induction d with
 | zero =>
  intro i n out hi ho hn h0
  refine Ev.step (fun k => by rw [spec_l03Plus.l0]) ?_
  simp only [if_neg (show ¬ ((i : Int) < (y.length : Int)) by omega)]
  rw [List.drop_of_length_le (by omega)]
  by_cases he : y = []
  · subst he
    simp only [List.length_nil, Int.natCast_zero, if_true, spec_l03Empty.f, Option.bind_some]
    have := plus_l1 p x (by omega) hwx x.length 0 (by omega)
    rw [h0 rfl]
    exact this
  · have hpos := List.length_pos_iff.2 he
    simp only [if_neg (show ¬ ((y.length : Int) = 0) by omega)]
    exact Ev.now _
 | succ d ih =>
  intro i n out hi ho hn h0
  have hd := rdT_drop y i (by omega)
  have hm := hwy _ (rdV_mem y i (by omega))
  obtain ⟨t0, ht0⟩ : ∃ t0, rd_T65 y (i : Int) = t0 := ⟨_, rfl⟩
  rw [ht0] at hd hm
  have e2 := am (mul_wrap kk t0.f1 hk hm.2)
  have E9 := am (mul_bd9 kk t0.f1 hk hm.2)
  refine Ev.step (fun k => by rw [spec_l03Plus.l0]) ?_
  simp only [if_pos (show ((i : Int) < (y.length : Int)) by omega), if_pos (show (0 : Int) ≤ (i : Int) by omega), ht0, e2.out, wr1 i y.length (by omega) (by omega)]
  refine Ev.bind (ev_put p n out _ _ ho (by omega) hp hp2 hm.1 E9.out) ?_
  have := ih (i + 1) (n + 1) _ (by omega) (ho.put hp t0.f0 (kk * t0.f1) hm.1) (by omega) (fun h => by rw [h] at hi; simp at hi)
  rw [hd]
  exact this
theorem ev_plus (p q kk : Int) (x y : List S65) (n : Nat) (hp : 0 < p) (hp2 : p ≤ 1000) (ho : Okay p n x) (hn : n ≤ 100000) (hy : y.length ≤ 100000) (hwy : ∀ t ∈ y, t.f0.length ≤ 1000 ∧ -1000 ≤ t.f1 ∧ t.f1 ≤ 1000) (hk : -1000 ≤ kk ∧ kk ≤ 1000) : Ev (fun k => spec_l03Plus.f k p x q y kk) (p, putAllT p x (addsT y kk)) := by
 unfold spec_l03Plus.f
 exact plus_l0 p q kk x y hp hp2 (Nat.le_trans ho.len hn) hy ho.word hwy hk y.length 0 n x (by omega) ho (by omega) (fun _ => rfl)
theorem ev_like (p0 : Int) (xs : List S65) (p1 : Int) (ys : List S65) : Ev (fun k => spec_l03Like.f k p0 xs p1 ys) (wrongC p0 xs p1 ys) := by
 unfold spec_l03Like.f wrongC
 refine Ev.bind (ev_sumIs p0 xs) ?_
 cases isSumB p0 xs with
 | false =>
  simp only [Bool.false_eq_true, if_false, Bool.not_false, Bool.true_or, if_true]
  refine Ev.step (fun k => by rw [spec_l03Like.j0]) ?_
  simp only [if_true]
  exact Ev.now _
 | true =>
  simp only [if_true, Bool.not_true, Bool.false_or]
  refine Ev.bind (ev_sumIs p1 ys) ?_
  refine Ev.step (fun k => by rw [spec_l03Like.j0]) ?_
  cases isSumB p1 ys with
  | false => simp only [Bool.not_false, if_true]; exact Ev.now _
  | true =>
   simp only [Bool.not_true, Bool.false_eq_true, if_false]
   by_cases h : p0 = p1
   · subst h; simp only [if_true, bne_self_eq_false, Bool.false_eq_true, if_false]; exact Ev.now _
   · have h2 : (p1 != p0) = true := by simp; exact fun e => h e.symm
     simp only [if_neg h, h2, if_true]; exact Ev.now _
theorem Okay.putAll {p : Int} (hp : 0 < p) : ∀ (adds : List (List Int × Int)) {n : Nat} {l : List S65}, Okay p n l → (∀ a ∈ adds, a.1.length ≤ 1000) → Okay p (n + adds.length) (putAllT p l adds)
 | [], n, l, h, _ => h
 | a :: r, n, l, h, hw => by
  have := Okay.putAll hp r (h.put hp a.1 a.2 (hw a List.mem_cons_self)) (fun b hb => hw b (List.mem_cons_of_mem _ hb))
  have e : n + (a :: r).length = n + 1 + r.length := by simp; omega
  rw [e]
  exact this
theorem prodAdds_word {n : Nat} {x y : List S65} (hx : ∀ t ∈ x, tinyW t.f0 ∧ -1000 ≤ t.f1 ∧ t.f1 ≤ 1000) (hy : ∀ t ∈ y, tinyW t.f0 ∧ -1000 ≤ t.f1 ∧ t.f1 ≤ 1000) : ∀ a ∈ prodAdds n x y, a.1.length ≤ 1000 := fun a ha => by
 unfold prodAdds at ha
 obtain ⟨t, ht, h⟩ := List.mem_flatMap.1 ha
 obtain ⟨u, hu, rfl⟩ := List.mem_map.1 h
 exact (joinW_small (hx t ht).1 (hy u (List.mem_filter.1 hu).1).1).1
theorem comm_mod (p t1 t2 : Int) : (t1 + (p - 1) * (t2 % p)) % p = (t1 - t2) % p := by
 have e : t1 + (p - 1) * (t2 % p) = (t1 - t2 % p) + p * (t2 % p) := by rw [Int.sub_mul, Int.one_mul]; omega
 rw [e, Int.add_mul_emod_self_left, Int.sub_emod, Int.emod_emod_of_dvd _ (Int.dvd_refl p), ← Int.sub_emod]
theorem spec_comm (p0 : Int) (xs : List S65) (p1 : Int) (ys : List S65) : ∃ rp ts rc, Ev (fun k => spec_CommutatorOf.f k p0 xs p1 ys) (rp, ts, rc) ∧ CommIs p0 xs p1 ys rp ts rc := by
 unfold spec_CommutatorOf.f CommIs
 by_cases hc : wrongC p0 xs p1 ys = 0
 · simp only [if_neg (show ¬ (wrongC p0 xs p1 ys ≠ 0) from fun h => h hc)]
   obtain ⟨hgx, hgy, rfl⟩ := wrongC_good hc
   have hpr := primeB_range hgx.prime
   obtain ⟨o1, b1, h1, h2, h3⟩ := specjoin p1 p1 xs ys (by omega) (by omega) hgx.len hgy.len hgx.tiny hgy.tiny
   obtain ⟨o2, b2, h4, h5, h6⟩ := specjoin p1 p1 ys xs (by omega) (by omega) hgy.len hgx.len hgy.tiny hgx.tiny
   have hev : ∀ t ∈ xs, ∀ u ∈ ys, (t.f0.length / 2 + u.f0.length / 2 ≤ 6 ↔ t.f0.length + u.f0.length ≤ 12) := fun t ht u hu => by
    have := word_even (hgx.word t ht)
    have := word_even (hgy.word u hu)
    omega
   by_cases hj : joinOver 6 xs ys = true
   · simp only [if_pos hj]
     have hb : b1 = false := by
      cases b1 with
      | false => rfl
      | true =>
       have := (joinOver_iff hgx.sorted hgy.sorted (n := 6)).2 (fun t ht u hu => (hev t ht u hu).2 ((h2 rfl).2 t ht u hu))
       rw [this] at hj; cases hj
     subst hb
     refine ⟨0, [], 3, ?_, rfl, rfl, rfl⟩
     refine Ev.bind (ev_like p1 xs p1 ys) ?_
     simp only [hc, if_true]
     refine Ev.bind h1 ?_
     refine Ev.bind h4 ?_
     simp only [Bool.false_eq_true, if_false]
     refine Ev.step (fun k => by rw [spec_CommutatorOf.j0]) ?_
     simp only [if_true]
     exact Ev.now _
   · simp only [if_neg hj]
     have hfit := (joinOver_iff hgx.sorted hgy.sorted (n := 6)).1 (by simpa using hj)
     have hb1 : b1 = true := by
      cases b1 with
      | true => rfl
      | false =>
       obtain ⟨t, ht, u, hu, h⟩ := h3 rfl
       have := (hev t ht u hu).1 (hfit t ht u hu)
       omega
     have hb2 : b2 = true := by
      cases b2 with
      | true => rfl
      | false =>
       obtain ⟨t, ht, u, hu, h⟩ := h6 rfl
       have := (hev u hu t ht).1 (hfit u hu t ht)
       omega
     subst hb1 hb2
     obtain ⟨rfl, _⟩ := h2 rfl
     obtain ⟨rfl, _⟩ := h5 rfl
     clear h2 h3 h5 h6 hev hfit
     have hp : 0 < p1 := by omega
     have hO : Okay p1 0 [] := ⟨⟨_, SumOf.nil p1⟩, Nat.le_refl _, fun t ht => by cases ht⟩
     have hO1 := hO.putAll hp (prodAdds 6 xs ys) (prodAdds_word hgx.tiny hgy.tiny)
     have hO2 := hO.putAll hp (prodAdds 6 ys xs) (prodAdds_word hgy.tiny hgx.tiny)
     have hl1 := Nat.le_trans (prodAdds_length 6 ys xs) (Nat.mul_le_mul hgx.len hgy.len)
     have hl2 := Nat.le_trans (prodAdds_length 6 xs ys) (Nat.mul_le_mul hgy.len hgx.len)
     have hS1 := SumOf.putAll hp (prodAdds 6 xs ys) (SumOf.nil p1)
     have hS2 := SumOf.putAll hp (prodAdds 6 ys xs) (SumOf.nil p1)
     have hlen2 := hO2.len
     have hpl := ev_plus p1 p1 (p1 - 1) _ _ _ hp (by omega) hO1 (by omega) (by omega) (fun t ht => ⟨hO2.word t ht, by have := hS2.range t ht; omega, by have := hS2.range t ht; omega⟩) (by omega)
     have hS := SumOf.putAll hp (addsT (putAllT p1 [] (prodAdds 6 ys xs)) (p1 - 1)) hS1
     have hS' : SumOf p1 (fun a => tot (prodAdds 6 xs ys) a - tot (prodAdds 6 ys xs) a) (putAllT p1 (putAllT p1 [] (prodAdds 6 xs ys)) (addsT (putAllT p1 [] (prodAdds 6 ys xs)) (p1 - 1))) := hS.congr (fun a => by
      rw [tot_adds hS2.sorted, hS2.at_]
      simp only [Int.zero_add]
      exact comm_mod p1 _ _)
     have ew : wrap64 (p1 - 1) = p1 - 1 := by unfold wrap64; omega
     have main : ∀ rp ts rc, spec_l03Told.f p1 (putAllT p1 (putAllT p1 [] (prodAdds 6 xs ys)) (addsT (putAllT p1 [] (prodAdds 6 ys xs)) (p1 - 1))) = some (rp, ts, rc) → Ev (fun k => (spec_l03Like.f k p1 xs p1 ys).bind fun t248 => (if t248 = 0 then ((spec_l03Join.f k p1 xs p1 ys).bind fun bt249 => ((spec_l03Join.f k p1 ys p1 xs).bind fun bt255 => (if bt249.2.2 = true then (spec_CommutatorOf.j0 k (!bt255.2.2) p1 xs bt249.1 bt249.2.1 bt255.1 bt255.2.1) else (spec_CommutatorOf.j0 k true p1 xs bt249.1 bt249.2.1 bt255.1 bt255.2.1)))) else (some (0, ([] : List (S65)), t248)))) (rp, ts, rc) := by
      intro rp ts rc hT
      refine Ev.bind (ev_like p1 xs p1 ys) ?_
      simp only [hc, if_true]
      refine Ev.bind h1 ?_
      refine Ev.bind h4 ?_
      simp only [if_true, Bool.not_true]
      refine Ev.step (fun k => by rw [spec_CommutatorOf.j0]) ?_
      simp only [Bool.false_eq_true, if_false, ew]
      refine Ev.bind hpl ?_
      simp only [hT, Option.bind_some]
      exact Ev.now _
     by_cases h200 : 200 < (putAllT p1 (putAllT p1 [] (prodAdds 6 xs ys)) (addsT (putAllT p1 [] (prodAdds 6 ys xs)) (p1 - 1))).length
     · exact ⟨0, [], 3, main _ _ _ (by unfold spec_l03Told.f; rw [if_pos (by omega)]), _, hS', .inl ⟨h200, rfl, rfl, rfl⟩⟩
     · exact ⟨p1, _, 0, main _ _ _ (by unfold spec_l03Told.f; rw [if_neg (by omega)]), _, hS', .inr ⟨by omega, rfl, rfl, rfl⟩⟩
 · simp only [if_pos (show wrongC p0 xs p1 ys ≠ 0 from hc)]
   refine ⟨0, [], wrongC p0 xs p1 ys, ?_, rfl, rfl, rfl⟩
   refine Ev.bind (ev_like p0 xs p1 ys) ?_
   simp only [if_neg hc]
   exact Ev.now _
end Go.Proofs.Ytgcgeoglhebonaa.P
end
section
namespace Go.Proofs.Ytgcgeoglhebonaa.P
open Go.RowKit Go.Maps Go.Proofs.YtgcgeoglhebonaaW.PrintWords Go.Proofs.YtgcgeoglhebonaaW.PrintLast Go.Proofs.YtgcgeoglhebonaaW.PrintMore
set_option linter.unusedVariables false
set_option linter.unusedSimpArgs false
structure LawSt (w W8 : World) (bl : List (Nat × Obj)) (ok : Nat → Prop) (A : Option Addr) (ts : List S65) (rows : List (Value × List TermV)) (W : World) : Prop where
 old : Below w.heap.size w W
 mid : Below W8.heap.size W8 W
 blk : ∀ b ∈ bl, W.heap[b.1]? = some b.2
 foot : Kd.F k65 W ok A ts.length ts
 rows : ∀ r ∈ rows, TRow W W8.heap.size r.1 r.2
section
variable {w W8 W W' : World} {bl bl' : List (Nat × Obj)} {ok : Nat → Prop} {A : Option Addr} {ts : List S65} {rows rows' : List (Value × List TermV)}
theorem LawSt.below (h : LawSt w W8 bl ok A ts rows W) (hb : Below W.heap.size W W') : LawSt w W8 bl ok A ts rows W' :=
 ⟨below_step h.old hb, below_step h.mid hb, fun b hm => blk_below (h.blk b hm) hb, Kd.F_below h.foot hb, fun r hm => (h.rows r hm).below hb⟩
theorem LawSt.add (h : LawSt w W8 bl ok A ts rows W) (hb : Below W.heap.size W W') (u : Value) (es : List TermV) (o : Obj) (hr : TRow W' W.heap.size u es) : LawSt w W8 ((W'.heap.size, o) :: bl) ok A ts ((u, es) :: rows) (W'.alloc o) := by
 have h1 := (h.below hb).below (below_alloc (Below.refl W'.heap.size W') o)
 refine ⟨h1.old, h1.mid, fun b hm => ?_, h1.foot, fun r hm => ?_⟩
 · rcases List.mem_cons.1 hm with rfl | hm
   · exact (MapKept.heap_alloc W' o).1
   · exact h1.blk b hm
 · rcases List.mem_cons.1 hm with rfl | hm
   · exact (hr.lower h.mid.size).below (below_alloc (Below.refl W'.heap.size W') o)
   · exact h1.rows r hm
theorem LawSt.mark {S : Nat → Prop} (hw : Below w.heap.size w W8) (h : LawSt w W8 bl ok A ts rows W) (hm : Below W8.heap.size W8 W') (hk : Kept W W' S) (hbl : ∀ b ∈ bl, ¬ S b.1) (hok : ∀ k, ok k → ¬ S k) (hrw : ∀ r ∈ rows', TRow W' W8.heap.size r.1 r.2 ∨ (r ∈ rows ∧ ∀ k, blkT r.1 r.2 k → ¬ S k)) : LawSt w W8 bl ok A ts rows' W' :=
 ⟨below_step hw hm, hm, fun b hb => blk_kept (h.blk b hb) hk (hbl b hb), Kd.F_kept h.foot hk hok, fun r hr => (hrw r hr).elim id (fun h2 => (h.rows r h2.1).kept hk h2.2)⟩
end
theorem TRow.foot {w : World} {base n c : Nat} {A : Option Addr} {es : List TermV} {ts : List S65} (h : TRow w base (.slice A n c) es) (ht : es.map termOf = ts) : n = ts.length ∧ ts.length ≤ c ∧ Kd.F k65 w (blkT (.slice A n c) es) A ts.length ts := by
 subst ht
 have key : ∀ W' : World, (∀ k, blkT (.slice A n c) es k → k < w.heap.size → W'.heap[k]? = w.heap[k]?) → n = (es.map termOf).length ∧ (es.map termOf).length ≤ c ∧ k65.C W' A (es.map termOf).length (es.map termOf) := fun W' hW => by
  have h2 : TRow W' base (.slice A n c) es := by
   refine ⟨own_move h.row (fun k ho => hW k (.inl ho) (own_lt h.row k ho)), fun e he hl => ?_, h.apart⟩
   have h1 := Kd.R_flat (ok' := fun k => wblk e = some k) (fun x => x) (h.words e he hl) (fun k hk _ => by rw [wblk_own hl]; exact hk)
   exact Kd.R_mono (Kd.R_move (Kd.R_bound h1) (fun k hk => hW k (.inr ⟨e, he, hk.1⟩) hk.2.2.1)) (fun _ _ => trivial)
  obtain ⟨A2, c2, he, hc, hr⟩ := h2.reads
  injection he with e1 e2 e3
  subst e1 e2 e3
  exact ⟨rfl, hc, hr⟩
 have h0 := key w (fun _ _ _ => rfl)
 exact ⟨h0.1, h0.2.1, fun W' hW => (key W' hW).2.2⟩
theorem toSum_any (p : Int) (A : Option Addr) (c : Nat) (l : List S64) (w : World) (hr : k64.C w A l.length l) (hc : l.length ≤ c) (hn : l.length ≤ 1000000000) (hf : ∀ t ∈ l, t.f0.length ≤ 1000000000000) :
 Calls Try.prog 8 #[.agg #[.int .i64 p, .slice A l.length c]] w fun e w' => ∃ u es, e = .returned (.agg #[.int .i64 p, u]) ∧ es.map termOf = l.map conv ∧ TRow w' w.heap.size u es ∧ Below w.heap.size w w' := by
 obtain ⟨k, hk⟩ := (ev_toSum p l hn hf).rounds
 refine (laws_toSum.calls k p A c l p (l.map conv) w hr hc hk).mono ?_
 rintro e w' ⟨v, rfl, hs, hb⟩
 obtain ⟨es, he, ht⟩ := TRow.of_S hs
 exact ⟨v, es, rfl, he, ht, hb⟩
theorem CommIs.len {p0 : Int} {xs : List S65} {p1 : Int} {ys : List S65} {rp : Int} {ts : List S65} {rc : Int} (h : CommIs p0 xs p1 ys rp ts rc) : ts.length ≤ 200 := by
 unfold CommIs at h
 split at h
 · rw [h.2.1]; simp
 · split at h
   · rw [h.2.1]; simp
   · obtain ⟨l, _, h4⟩ := h
     rcases h4 with ⟨_, _, rfl, _⟩ | ⟨h5, _, rfl, _⟩
     · simp
     · exact h5
theorem lenT_le {m : Nat} : ∀ {l : List S65}, (∀ t ∈ l, t.f0.length ≤ m) → lenT l ≤ l.length * (m + 1)
 | [], _ => by simp [lenT]
 | t :: r, h => by
  have h1 := h t List.mem_cons_self
  have h2 := lenT_le (l := r) (fun u hu => h u (List.mem_cons_of_mem _ hu))
  simp only [lenT, List.length_cons, Nat.succ_mul]; omega
theorem eqSum_any (p : Int) (ts : List S65) (A A' : Option Addr) (c c' : Nat) (w : World) (hn : ts.length ≤ 1000000000000) (hf : ∀ t ∈ ts, t.f0.length ≤ 1000000000000) (h : k65.C w A ts.length ts) (hc : ts.length ≤ c) (h' : k65.C w A' ts.length ts) (hc' : ts.length ≤ c') :
 Calls Try.prog 10 #[.agg #[.int .i64 p, .slice A ts.length c], .agg #[.int .i64 p, .slice A' ts.length c']] w fun e w' => e = .returned (.bool true) ∧ Below w.heap.size w w' := by
 obtain ⟨k, hk⟩ := (ev_eqSum p ts hn hf).rounds
 exact laws_eqSum.calls k p A c ts p A' c' ts true w h hc h' hc' hk
theorem eqSum_any' (p : Int) (ts : List S65) (A A' : Option Addr) (n n' c c' : Nat) (w : World) (h1 : n = ts.length) (h2 : n' = ts.length) (hn : ts.length ≤ 1000000000000) (hf : ∀ t ∈ ts, t.f0.length ≤ 1000000000000) (h : k65.C w A ts.length ts) (hc : ts.length ≤ c) (h' : k65.C w A' ts.length ts) (hc' : ts.length ≤ c') :
 Calls Try.prog 10 #[.agg #[.int .i64 p, .slice A n c], .agg #[.int .i64 p, .slice A' n' c']] w fun e w' => e = .returned (.bool true) ∧ Below w.heap.size w w' := by
 subst h1 h2
 exact eqSum_any p ts A A' c c' w hn hf h hc h' hc'
theorem heldSum_any (p : Int) (u : Value) (es : List TermV) (w : World) {base : Nat} (h : TRow w base u (marksE 1 es)) (hb : 1 + (lenT (es.map termOf) : Int) ≤ 1000000000000000) (hn : es.length ≤ 1000000000000) :
 Calls Try.prog 12 #[.agg #[.int .i64 p, u], .int .i64 1] w fun e w' => e = .returned (.int .i64 (1 + lenT (es.map termOf))) ∧ Below w.heap.size w w' := by
 obtain ⟨A, c, rfl, hc, hr⟩ := h.reads
 rw [marksE_term] at hc hr ⊢
 obtain ⟨k, hk⟩ := (ev_heldSum p (es.map termOf) 1 (by decide) hb (by rw [List.length_map]; exact hn)).rounds
 exact laws_heldSum.calls k p A c _ 1 _ w hr hc hk
theorem specC_any (p0 p1 rp rc : Int) (A0 A1 : Option Addr) (c0 c1 : Nat) (xs ys ts : List S65) (w : World) (hE : Ev (fun k => spec_CommutatorOf.f k p0 xs p1 ys) (rp, ts, rc)) (hx : k65.C w A0 xs.length xs) (hcx : xs.length ≤ c0) (hy : k65.C w A1 ys.length ys) (hcy : ys.length ≤ c1) :
 Calls Try.prog 7 #[.agg #[.int .i64 p0, .slice A0 xs.length c0], .agg #[.int .i64 p1, .slice A1 ys.length c1]] w fun e w' => ∃ A c, e = .returned (.tuple #[.agg #[.int .i64 rp, .slice A ts.length c], .int .i64 rc]) ∧ ts.length ≤ c ∧ Kd.F k65 w' (fun k => w.heap.size ≤ k) A ts.length ts ∧ Below w.heap.size w w' := by
 obtain ⟨k, hk⟩ := hE.rounds
 refine (spec_CommutatorOf.calls k p0 A0 c0 xs p1 A1 c1 ys rp ts rc w hx hcx hy hcy hk).mono ?_
 rintro e w' ⟨v, rfl, hv, hb⟩
 obtain ⟨A, c, rfl, hc, hf⟩ := hv
 exact ⟨A, c, rfl, hc, hf, hb⟩
theorem implC_any (p0 p1 rp rc : Int) (A0 A1 : Option Addr) (c0 c1 : Nat) (xs ys ts : List S65) (w : World) (hC : CommIs p0 xs p1 ys rp ts rc) (hx : k65.C w A0 xs.length xs) (hcx : xs.length ≤ c0) (hy : k65.C w A1 ys.length ys) (hcy : ys.length ≤ c1) :
 Calls Try.prog 9 #[.agg #[.int .i64 p0, .slice A0 xs.length c0], .agg #[.int .i64 p1, .slice A1 ys.length c1]] w fun e w' => ∃ u es, e = .returned (.tuple #[.agg #[.int .i64 rp, u], .int .i64 rc]) ∧ es.map termOf = ts ∧ TRow w' w.heap.size u es ∧ (∀ t ∈ ts, t.f0.length ≤ 1000) ∧ Below w.heap.size w w' := by
 refine (commutator_any p0 p1 A0 c0 xs A1 c1 ys w hx hcx hy hcy).mono ?_
 rintro e w' ⟨rp', u, es, rc', rfl, ht, hc, hs, hb⟩
 obtain ⟨rfl, h2, rfl⟩ := hc.unique hC
 exact ⟨u, es, rfl, h2, ht, fun t htt => by rw [← h2] at htt; exact (small_map hs t htt).1, hb⟩
theorem implCF_any (p0 p1 rp rc : Int) (A0 A1 : Option Addr) (c0 c1 : Nat) (xs ys ts : List S65) (w : World) (hC : CommIs p0 xs p1 ys rp ts rc) (hx : k65.C w A0 xs.length xs) (hcx : xs.length ≤ c0) (hy : k65.C w A1 ys.length ys) (hcy : ys.length ≤ c1) :
 Calls Try.prog 9 #[.agg #[.int .i64 p0, .slice A0 xs.length c0], .agg #[.int .i64 p1, .slice A1 ys.length c1]] w fun e w' => ∃ A c, e = .returned (.tuple #[.agg #[.int .i64 rp, .slice A ts.length c], .int .i64 rc]) ∧ ts.length ≤ c ∧ Kd.F k65 w' (fun k => w.heap.size ≤ k) A ts.length ts ∧ Below w.heap.size w w' := by
 refine (implC_any p0 p1 rp rc A0 A1 c0 c1 xs ys ts w hC hx hcx hy hcy).mono ?_
 rintro e w' ⟨u, es, rfl, h1, h2, _, hb⟩
 obtain ⟨A, c, rfl⟩ := h2.slice
 obtain ⟨e1, e2, e3⟩ := h2.foot h1
 rw [e1] at h2 e3 ⊢
 exact ⟨A, c, rfl, e2, Kd.F_mono e3 (fun k hk => (blkT_range h2 k (by rw [e1] at *; exact hk)).1), hb⟩
end Go.Proofs.Ytgcgeoglhebonaa.P
end
