/- 'stands' tells for each edge of a web the legs and the forks in which it stands. -/
import Derived.Test.YtibahnmljafkdaaCdBase
namespace Go.Proofs.Ytibahnmljafkdaa.P
open Go.RowKit Go.Maps Go.Proofs.YtibahnmljafkdaaW.PrintWords Go.Proofs.YtibahnmljafkdaaW.PrintLast Go.Proofs.YtibahnmljafkdaaW.PrintMore
set_option linter.unusedVariables false
set_option linter.unusedSimpArgs false
def endsStep (m : List (Int × List Int)) (p : Int × Int) : List (Int × List Int) := kvPut m p.1 ((kvGet m p.1).getD [] ++ [p.2])
def endsOf (l : List (Int × Int)) (m : List (Int × List Int)) : List (Int × List Int) := l.foldl endsStep m
def legsL (legs : List Int) : List (Int × Int) := legs.zipIdx.map fun p => (p.1, (p.2 : Int))
def forksL (n : Nat) (forks : List (List Int)) : List (Int × Int) := forks.zipIdx.flatMap fun p => p.1.map fun e => (e, ((n + p.2 : Nat) : Int))
def endsL (legs : List Int) (forks : List (List Int)) : List (Int × Int) := legsL legs ++ forksL legs.length forks
theorem endsOf_snoc (l : List (Int × Int)) (p : Int × Int) (m : List (Int × List Int)) : endsOf (l ++ [p]) m = endsStep (endsOf l m) p := by simp [endsOf, List.foldl_append]
theorem legsL_snoc (l : List Int) (x : Int) : legsL (l ++ [x]) = legsL l ++ [(x, (l.length : Int))] := by simp [legsL, List.zipIdx_append]
theorem forksL_snoc (n : Nat) (l : List (List Int)) (f : List Int) : forksL n (l ++ [f]) = forksL n l ++ f.map fun e => (e, ((n + l.length : Nat) : Int)) := by simp [forksL, List.zipIdx_append]
theorem endsOf_len (l : List (Int × Int)) : ∀ e, ((kvGet (endsOf l []) e).getD []).length ≤ l.length := by
 suffices h : ∀ (l : List (Int × Int)) (m : List (Int × List Int)) (n : Nat), (∀ e, ((kvGet m e).getD []).length ≤ n) → ∀ e, ((kvGet (endsOf l m) e).getD []).length ≤ n + l.length by
  intro e; have := h l [] 0 (fun e => by simp [kvGet_nil]) e; omega
 intro l
 induction l with
 | nil => intro m n h e; exact h e
 | cons p l ih =>
  intro m n h e
  have := ih (endsStep m p) (n + 1) (fun e' => by
   unfold endsStep
   by_cases he : e' = p.1
   · subst he; rw [kvGet_put_same]; simp; exact h p.1
   · rw [kvGet_put_other _ _ _ _ he]; have := h e'; omega) e
  simp only [List.length_cons]
  have e1 : endsOf (p :: l) m = endsOf l (endsStep m p) := rfl
  rw [e1]; omega
theorem forksL_len (n : Nat) (l : List (List Int)) (B : Nat) (h : ∀ f ∈ l, f.length ≤ B) : (forksL n l).length ≤ l.length * B := by
 suffices H : ∀ (l : List (List Int)) (k : Nat), (∀ f ∈ l, f.length ≤ B) → ((l.zipIdx k).flatMap fun p => p.1.map fun e => (e, ((n + p.2 : Nat) : Int))).length ≤ l.length * B from H l 0 h
 intro l
 induction l with
 | nil => intro k _; simp
 | cons f l ih =>
  intro k h
  have h1 := ih (k + 1) (fun g hg => h g (List.mem_cons_of_mem _ hg))
  have h2 := h f List.mem_cons_self
  simp only [List.zipIdx_cons, List.flatMap_cons, List.length_append, List.length_map, List.length_cons, Nat.succ_mul]
  omega
structure Ends (w : World) (base : Nat) (kv : List (Int × Value)) (m : List (Int × List Int)) : Prop where
 keys : kv.map (·.1) = m.map (·.1)
 rows : ∀ e v l, kvGet kv e = some v → kvGet m e = some l → Kd.R (Kd.int .i64) 3 w base (fun _ => True) v l
 apart : ∀ e e' v v', e ≠ e' → kvGet kv e = some v → kvGet kv e' = some v' → v.ownBlock = none ∨ v.ownBlock ≠ v'.ownBlock
theorem kvGet_keys {α β : Type} : ∀ {kv : List (Int × α)} {m : List (Int × β)}, kv.map (·.1) = m.map (·.1) → ∀ e, (kvGet kv e).isSome = (kvGet m e).isSome
 | [], [], _, e => rfl
 | p :: kv, q :: m, h, e => by
  simp only [List.map_cons, List.cons.injEq] at h
  rw [kvGet_cons, kvGet_cons, h.1]
  by_cases he : q.1 = e
  · simp [he]
  · rw [if_neg he, if_neg he]; exact kvGet_keys h.2 e
theorem kvPut_keys_eq {α β : Type} : ∀ {kv : List (Int × α)} {m : List (Int × β)}, kv.map (·.1) = m.map (·.1) → ∀ e a b, (kvPut kv e a).map (·.1) = (kvPut m e b).map (·.1)
 | [], [], _, e, a, b => rfl
 | (x, p) :: kv, (y, q) :: m, h, e, a, b => by
  simp only [List.map_cons, List.cons.injEq] at h
  obtain ⟨rfl, h⟩ := h
  simp only [kvPut]
  by_cases he : x = e
  · simp [he, h]
  · simp [he, kvPut_keys_eq h e a b]
theorem Ends.nil (w : World) (base : Nat) : Ends w base [] [] := ⟨rfl, fun e v l h => (by cases h), fun e e' v v' _ h => (by cases h)⟩
theorem Ends.below {w w1 : World} {base : Nat} {kv : List (Int × Value)} {m : List (Int × List Int)} (h : Ends w base kv m) (hb : Below w.heap.size w w1) : Ends w1 base kv m :=
 ⟨h.keys, fun e v l h1 h2 => Kd.R_below (h.rows e v l h1 h2) hb, h.apart⟩
theorem Ends.look {w : World} {base : Nat} {kv : List (Int × Value)} {m : List (Int × List Int)} (h : Ends w base kv m) (e : Int) :
 Kd.R (Kd.int .i64) 3 w base (fun _ => True) ((kvGet kv e).getD (.slice none 0 0)) ((kvGet m e).getD []) := by
 have hk := kvGet_keys h.keys e
 cases h1 : kvGet kv e with
 | none =>
  rw [h1] at hk
  cases h2 : kvGet m e with
  | none => exact Kd.R_nil _ _ _ _ _
  | some l => rw [h2] at hk; cases hk
 | some v =>
  rw [h1] at hk
  cases h2 : kvGet m e with
  | none => rw [h2] at hk; cases hk
  | some l => exact h.rows e v l h1 h2
theorem Ends.step {w w1 w2 : World} {base b : Nat} {kv : List (Int × Value)} {m : List (Int × List Int)} {e i : Int} {v1 : Value} (h : Ends w base kv m) (hm : mapKV w (Value.int .i64) b kv)
 (hr : Kd.R (Kd.int .i64) 3 w1 base (fun _ => True) v1 ((kvGet m e).getD [] ++ [i])) (hg : w.grownBy w1 ((kvGet kv e).getD (.slice none 0 0)).ownBlock)
 (hat : v1.ownBlock = ((kvGet kv e).getD (.slice none 0 0)).ownBlock ∨ ∃ g, v1.ownBlock = some g ∧ w.heap.size ≤ g) (hm1 : mapKV w1 (Value.int .i64) b kv) (hg2 : w1.grownBy w2 (some b)) :
 Ends w2 base (kvPut kv e v1) (endsStep m (e, i)) := by
 have hother : ∀ e' v' l', e' ≠ e → kvGet kv e' = some v' → kvGet m e' = some l' → v'.ownBlock = none ∨ v'.ownBlock ≠ ((kvGet kv e).getD (.slice none 0 0)).ownBlock := by
  intro e' v' l' hne h1 h2
  cases hv : kvGet kv e with
  | none =>
   simp only [Option.getD_none]
   cases ho : v'.ownBlock with
   | none => exact .inl rfl
   | some g => exact .inr (by simp [Value.ownBlock])
  | some v => exact h.apart e' e v' v hne h1 hv
 refine ⟨kvPut_keys_eq h.keys e _ _, fun e' v' l' h1 h2 => ?_, fun e' e'' v' v'' hne h1 h2 => ?_⟩
 · by_cases he : e' = e
   · subst he
     rw [kvGet_put_same] at h1
     unfold endsStep at h2
     rw [kvGet_put_same] at h2
     cases h1; cases h2
     exact row_of_map hr hm1 hg2
   · rw [kvGet_put_other _ _ _ _ he] at h1
     unfold endsStep at h2
     rw [kvGet_put_other _ _ _ _ he] at h2
     exact row_of_map (intRow_keep (h.rows e' v' l' h1 h2) hg (hother e' v' l' he h1 h2)) hm1 hg2
 · have hlt : ∀ e' v' , kvGet kv e' = some v' → ∀ g, v'.ownBlock = some g → g < w.heap.size := fun e' v' h1 g hg' => by
    have hk := kvGet_keys h.keys e'
    rw [h1] at hk
    cases h2 : kvGet m e' with
    | none => rw [h2] at hk; cases hk
    | some l' =>
     obtain ⟨_, inner, ho, _⟩ := h.rows e' v' l' h1 h2
     exact own_lt ho g hg'
   have hl : ∀ e' v', e' ≠ e → kvGet kv e' = some v' → v'.ownBlock = none ∨ v'.ownBlock ≠ v1.ownBlock := fun e' v' he h1 => by
    have hk := kvGet_keys h.keys e'
    rw [h1] at hk
    cases h2 : kvGet m e' with
    | none => rw [h2] at hk; cases hk
    | some l' =>
     rcases hat with hat | ⟨g, hg1, hg3⟩
     · rw [hat]; exact hother e' v' l' he h1 h2
     · cases ho : v'.ownBlock with
       | none => exact .inl rfl
       | some g' =>
        have := hlt e' v' h1 g' ho
        exact .inr (by rw [hg1]; intro hh; cases hh; omega)
   by_cases he : e' = e
   · subst he
     rw [kvGet_put_same] at h1
     cases h1
     rw [kvGet_put_other _ _ _ _ (Ne.symm hne)] at h2
     rcases hl e'' v'' (Ne.symm hne) h2 with hh | hh
     · cases ho : v1.ownBlock with
       | none => exact .inl rfl
       | some g => exact .inr (by rw [hh]; simp)
     · exact .inr (Ne.symm hh)
   · rw [kvGet_put_other _ _ _ _ he] at h1
     by_cases he2 : e'' = e
     · subst he2
       rw [kvGet_put_same] at h2
       cases h2
       exact hl e' v' he h1
     · rw [kvGet_put_other _ _ _ _ he2] at h2
       exact h.apart e' e'' v' v'' hne h1 h2
theorem zeroS (w : World) : (zeroValue 68).run Try.prog w = .ok (.slice none 0 0) w := by kernel_rfl
section
variable {ops : Array Oper} {rest : List Oper} {o : Oper} {a : Act} {Q : Exit → Act → World → Prop} {w W : World}
theorem appN_step {Kc : Act → World → Prop} (hwt : Region.wanted o (yielded ops a.tmps) = true) (s x : Operand) (ho : o.op = .call { callee := .builtin .append, args := #[s, x], argTypes := #[68, 68] })
 (v : Value) (xs : List Int) (p : Int) (ok : Nat → Prop) (hs : a.eval s = v) (hx : a.eval x = .slice (some ⟨W.heap.size, 0, none⟩) 1 1) (HO : Kd.R (Kd.int .i64) 3 W w.heap.size ok v xs) (hfresh : ∀ k, W.heap.size ≤ k → ok k)
 (HB : Below w.heap.size w W) (hl : xs.length ≤ 17592186044414)
 (h : ∀ v1 w1, Kd.R (Kd.int .i64) 3 w1 w.heap.size ok v1 (xs ++ [p]) → Below w.heap.size w w1 → W.grownBy w1 v.ownBlock → (v1.ownBlock = v.ownBlock ∨ ∃ b, v1.ownBlock = some b ∧ W.heap.size ≤ b) → Kc (a.put o.dst v1) w1) :
 if Region.wanted o (yielded ops a.tmps) = true then Oper.wp Try.prog o a (W.alloc (.cells #[.int .i64 p] 3)) Kc Q else Kc (a.put o.dst undef) (W.alloc (.cells #[.int .i64 p] 3)) :=
 Kd.R_append_step (Kd.int .i64) (w0 := w) w.heap.size hwt s x 68 3 (.int .i64 0) 8 ho Try.underlying68 info3 rfl (by decide) (by omega) v xs p [.int .i64 p] ok (fun _ => False) hs hx rfl (fun _ h => h.elim) hfresh HO HB HB.size (by omega) h
theorem appN (hgd : o.guard = none) (s x : Operand) (ho : o.op = .call { callee := .builtin .append, args := #[s, x], argTypes := #[68, 68] })
 (v : Value) (xs : List Int) (p : Int) (ok : Nat → Prop) (hs : a.eval s = v) (hx : a.eval x = .slice (some ⟨W.heap.size, 0, none⟩) 1 1) (HO : Kd.R (Kd.int .i64) 3 W w.heap.size ok v xs) (hfresh : ∀ k, W.heap.size ≤ k → ok k)
 (HB : Below w.heap.size w W) (hl : xs.length ≤ 17592186044414)
 (h : ∀ v1 w1, Kd.R (Kd.int .i64) 3 w1 w.heap.size ok v1 (xs ++ [p]) → Below w.heap.size w w1 → W.grownBy w1 v.ownBlock → (v1.ownBlock = v.ownBlock ∨ ∃ b, v1.ownBlock = some b ∧ W.heap.size ≤ b) → wpList Try.prog ops Q rest (a.put o.dst v1) w1) :
 wpList Try.prog ops Q (o :: rest) a (W.alloc (.cells #[.int .i64 p] 3)) :=
 Kd.R_append (Kd.int .i64) (w0 := w) w.heap.size hgd s x 68 3 (.int .i64 0) 8 ho Try.underlying68 info3 rfl (by decide) (by omega) v xs p [.int .i64 p] ok (fun _ => False) hs hx rfl (fun _ h => h.elim) hfresh HO HB HB.size (by omega) h
end
set_option maxRecDepth 100000 in
set_option maxHeartbeats 1000000 in
theorem stands_any (g : Nat) (A0 : Option Addr) (c0 : Nat) (legs : List Int) (A1 : Option Addr) (c1 : Nat) (forks : List (List Int)) (w : World) (hw : w.heap[g]? = some (.cells #[.slice A0 legs.length c0, .slice A1 forks.length c1] 36 (0, 0)))
 (hr0 : Kd.C (Kd.int .i64) w A0 legs.length legs) (hc0 : legs.length ≤ c0) (hr1 : Kd.C (Kd.slice 2 (Kd.int .i64)) w A1 forks.length forks) (hc1 : forks.length ≤ c1) (hl0 : legs.length ≤ 1000) (hl1 : forks.length ≤ 1000) (hl2 : ∀ f ∈ forks, f.length ≤ 1000) :
 Calls Try.prog 43 #[.pointer (some ⟨g, 0, none⟩)] w fun e w' => ∃ b kv, e = .returned (.map (some b)) ∧ w.heap.size ≤ b ∧ mapKV w' (Value.int .i64) b kv ∧ Ends w' w.heap.size kv (endsOf (endsL legs forks) []) ∧ Below w.heap.size w w' := by
 have hu36 := Try.underlying36
 have HR0 := Aside0.mk hr0
 have HR1 := Aside0.mk hr1
 have HC0 := Aside0.mk hc0
 have HC1 := Aside0.mk hc1
 have HW := Aside0.mk hw
 have HL2 := Aside0.mk hl2
 have hgl : g < w.heap.size := (Array.getElem?_eq_some_iff.1 hw).1
 have hcz0 : w.cell? ⟨g, 0, none⟩ = some (.slice A0 legs.length c0) := (blk_cell HW.out 0).trans rfl
 have hcz1 : w.cell? ⟨g, 1, none⟩ = some (.slice A1 forks.length c1) := (blk_cell HW.out 1).trans rfl
 clear hr0 hr1 hc0 hc1 hw hl2
 have hmm := @run_makeMap Try.prog
 go_enter Try.func43, Try.ntmps43
 go_wp2
 go_loopw [16] (fun i wr => ∃ (k : Nat) (kv : List (Int × Value)), k ≤ legs.length ∧ i = .int .i64 k ∧ Aside0 (mapKV wr (Value.int .i64) w.heap.size kv) ∧ Aside0 (Ends wr w.heap.size kv (endsOf (legsL (legs.take k)) [])) ∧ Aside0 (Below w.heap.size w wr))
  (fun i _ => legs.length - (intOf i).toNat)
 case atStart => exact ⟨0, [], Nat.zero_le _, rfl, ⟨mapKV_made _ _⟩, ⟨Ends.nil _ _⟩, ⟨(Below.refl _ _).alloc (Nat.le_refl _) _⟩⟩
 case round =>
  obtain ⟨k, kv, hk, rfl, HM, HE, HB⟩ := hrel
  clear hcz0 hcz1
  by_cases hlt : k < legs.length
  · obtain ⟨ad, e0, hx⟩ := Kd.at_int (Kd.C_below HR0.out HB.out) (k : Int) (by omega) (by omega)
    cases e0
    have hs := take_succ_rd legs k hlt
    rw [Int.toNat_natCast] at hx
    generalize rd legs (k : Int) = x at *
    have hstep : legsL (legs.take (k + 1)) = legsL (legs.take k) ++ [(x, (k : Int))] := by rw [hs, legsL_snoc]; simp; omega
    have hlen := endsOf_len (legsL (legs.take k)) x
    have hlook := HE.out.look x
    generalize hL : legsL (legs.take k) = L at *
    have hlen2 : L.length ≤ 1000 := by rw [← hL]; simp [legsL]; omega
    obtain ⟨u, hu⟩ : ∃ u, u = (kvGet kv x).getD (.slice none 0 0) := ⟨_, rfl⟩
    obtain ⟨row, hrow⟩ : ∃ row, row = (kvGet (endsOf L []) x).getD [] := ⟨_, rfl⟩
    rw [← hu, ← hrow] at hlook
    rw [← hrow] at hlen
    have hrl : row.length ≤ 1000 := by omega
    have HU := Aside0.mk hu.symm
    have HROW := Aside0.mk hrow
    have HLK := Aside0.mk hlook
    have HST := Aside0.mk hstep
    clear hu hrow hlook hstep hs hL hlen hlen2
    go_wp2_with (first
     | (at_lookup; refine wpList_lookup_kv rfl _ _ 66 rfl 2 68 (Value.int .i64) keyI64 Try.underlying66 (.slice none 0 0) (zeroS _) w.heap.size _ rfl HM.out x rfl u HU.out ?_)
     | (at_builtin; go_must (refine appN (w := w) rfl (.tmp 25) (.tmp 27) rfl u row (k : Int) (fun _ => True) rfl rfl HLK.out (fun _ _ => trivial) HB.out (by omega) ?_); intro v2 w1 ho hb hg hat; have HO1 := Aside0.mk ho; have HB1 := Aside0.mk hb; have HG1 := Aside0.mk hg; have HAT := Aside0.mk hat; have HM1 := Aside0.mk (map_of_row HM.out HLK.out hg); clear ho hb hg hat)
     | (at_mapUpdate; refine wpList_mapUpdate_kv rfl _ _ _ 66 rfl 2 68 (Value.int .i64) keyI64 Try.underlying66 w.heap.size _ rfl HM1.out x rfl v2 ?hv ?_; (case hv => rfl); intro w2 hm2 hg2 hs2)
     | go_in)
    go_roundw
    case rel => exact ⟨k + 1, _, by omega, by go_num, ⟨hm2⟩, ⟨by rw [HST.out, endsOf_snoc]; exact HE.out.step HM.out (by rw [← HROW.out]; exact HO1.out) (by rw [HU.out]; exact HG1.out) (by rw [HU.out]; exact HAT.out) HM1.out hg2⟩, ⟨HB1.out.grown hg2 HB1.out.size (fun j hj => by cases hj; exact Nat.le_refl _)⟩⟩
    case measure => simp [intOf]; omega
  · obtain rfl : k = legs.length := by omega
    have HE2 : Aside0 (Ends wr w.heap.size kv (endsOf (legsL legs) [])) := ⟨by have := HE.out; rwa [List.take_length] at this⟩
    clear HE
    have hcz0 : wr.cell? ⟨g, 0, none⟩ = some (.slice A0 legs.length c0) := (HB.out.cell hgl).trans ((blk_cell HW.out 0).trans rfl)
    have hcz1 : wr.cell? ⟨g, 1, none⟩ = some (.slice A1 forks.length c1) := (HB.out.cell hgl).trans ((blk_cell HW.out 1).trans rfl)
    go_wp2
    clear hcz0 hcz1
    obtain ⟨wo, rfl⟩ : ∃ wo : World, wo = wr := ⟨_, rfl⟩
    go_loopw [35, 42] (fun i _ wr => ∃ (k : Nat) (kv : List (Int × Value)), k ≤ forks.length ∧ i = .int .i64 k ∧ Aside0 (mapKV wr (Value.int .i64) w.heap.size kv) ∧ Aside0 (Ends wr w.heap.size kv (endsOf (legsL legs ++ forksL legs.length (forks.take k)) [])) ∧ Aside0 (Below w.heap.size w wr))
     (fun i _ _ => forks.length - (intOf i).toNat)
    case atStart => exact ⟨0, kv, Nat.zero_le _, rfl, HM, ⟨by simpa [forksL] using HE2.out⟩, HB⟩
    case round =>
     obtain ⟨k, kv, hk, rfl, HM, HE, HB⟩ := hrel
     by_cases hlt : k < forks.length
     · obtain ⟨ad, Af, cf, e0, hxw, hlf, hif⟩ := atR HR1.out (k : Int) (by omega) (by omega)
       cases e0
       have hx := (HB.out.cell (World.block_lt_of_cell? w _ hxw)).trans hxw
       clear hxw
       have hs := take_succ_rdR forks k hlt
       have hmem := rdR_mem forks k hlt
       rw [Int.toNat_natCast] at hx
       generalize rdR forks (k : Int) = f at *
       have hfl : f.length ≤ 1000 := HL2.out f hmem
       have hstep : forksL legs.length (forks.take (k + 1)) = forksL legs.length (forks.take k) ++ f.map (fun e => (e, ((legs.length + k : Nat) : Int))) := by rw [hs, forksL_snoc]; simp [Nat.min_eq_left hk]
       have hlen := forksL_len legs.length (forks.take k) 1000 (fun g hg => HL2.out g (List.mem_of_mem_take hg))
       have HST := Aside0.mk hstep
       have HIF := Aside0.mk hif
       have HLF := Aside0.mk hlf
       clear hs hmem hstep hif hlf
       have hlen2 : (legsL legs ++ forksL legs.length (forks.take k)).length ≤ 1001000 := by
        have h1 : (legsL legs).length ≤ 1000 := by simp [legsL]; exact hl0
        have h2 : (forks.take k).length ≤ 1000 := by simp; omega
        have h3 : (forks.take k).length * 1000 ≤ 1000 * 1000 := Nat.mul_le_mul_right _ h2
        rw [List.length_append]; omega
       generalize hLe : legsL legs ++ forksL legs.length (forks.take k) = L at *
       have HLE := Aside0.mk hLe
       clear hLe
       have HLL := Aside0.mk hlen2
       clear hlen hlen2
       go_wp2
       obtain ⟨wp, rfl⟩ : ∃ wp : World, wp = wr := ⟨_, rfl⟩
       go_loopw [42] (fun j wr => ∃ (n : Nat) (kv : List (Int × Value)), n ≤ f.length ∧ j = .int .i64 n ∧ Aside0 (mapKV wr (Value.int .i64) w.heap.size kv) ∧ Aside0 (Ends wr w.heap.size kv (endsOf (L ++ (f.take n).map (fun e => (e, ((legs.length + k : Nat) : Int)))) [])) ∧ Aside0 (Below w.heap.size w wr))
        (fun j _ => f.length - (intOf j).toNat)
       case atStart => exact ⟨0, kv, Nat.zero_le _, rfl, HM, ⟨by simpa using HE.out⟩, HB⟩
       case round =>
        obtain ⟨n, kv, hn, rfl, HM, HE, HB2⟩ := hrel
        by_cases hln : n < f.length
        · obtain ⟨ad2, e2, hx2⟩ := Kd.at_int (Kd.C_below HIF.out HB2.out) (n : Int) (by omega) (by omega)
          cases e2
          have hs2 := take_succ_rd f n hln
          rw [Int.toNat_natCast] at hx2
          generalize rd f (n : Int) = x at *
          have hstep : L ++ (f.take (n + 1)).map (fun e => (e, ((legs.length + k : Nat) : Int))) = (L ++ (f.take n).map (fun e => (e, ((legs.length + k : Nat) : Int)))) ++ [(x, ((legs.length + k : Nat) : Int))] := by rw [hs2]; simp
          have hlen := endsOf_len (L ++ (f.take n).map (fun e => (e, ((legs.length + k : Nat) : Int)))) x
          have hlen2 : (L ++ (f.take n).map (fun e => (e, ((legs.length + k : Nat) : Int)))).length ≤ 1002000 := by have := HLL.out; simp; omega
          have hlook := HE.out.look x
          generalize L ++ (f.take n).map (fun e => (e, ((legs.length + k : Nat) : Int))) = M at *
          obtain ⟨u, hu⟩ : ∃ u, u = (kvGet kv x).getD (.slice none 0 0) := ⟨_, rfl⟩
          obtain ⟨row, hrow⟩ : ∃ row, row = (kvGet (endsOf M []) x).getD [] := ⟨_, rfl⟩
          rw [← hu, ← hrow] at hlook
          rw [← hrow] at hlen
          have hrl : row.length ≤ 1002000 := by omega
          have hlk : ∀ W, mapKV W (Value.int .i64) w.heap.size kv → (Instr.lookup 66 (.map (some w.heap.size)) (.int .i64 x) false).run Try.prog W = .ok u W := by
           intro W hW
           have h1 := hW.lookup false keyI64 Try.underlying66 (zeroS W) x
           rw [← hu] at h1
           simpa using h1
          have HU := Aside0.mk hu.symm
          have HROW := Aside0.mk hrow
          have HLK := Aside0.mk hlook
          have HST2 := Aside0.mk hstep
          have HF := Aside0.mk hlk
          clear hu hrow hlook hstep hs2 hlen hlen2 hlk
          go_wp2
          refine start_ (n := 15) (S := fun w' => w'.cell? ⟨g, 0, none⟩ = some (.slice A0 legs.length c0) ∧ (Instr.lookup 66 (.map (some w.heap.size)) (.int .i64 x) false).run Try.prog w' = .ok u w') (ds := [14]) #[false, false, false, false, false, false, false, false, false, false, false, false, false, false, false] (by kernel_rfl) rfl rfl (⟨(HB2.out.cell hgl).trans ((blk_cell HW.out 0).trans rfl), HF.out _ HM.out.drew⟩) (fun hHeld => ?_)
          have HMd := Aside0.mk (HM.out.drew)
          have HBd := Aside0.mk (HB2.out.drew)
          have HLKd := Aside0.mk (Kd.R_drew HLK.out)
          have HEd := Aside0.mk (HE.out.below (below_drew1 (Below.refl _ _)))
          clear HM HB2 HLK HE
          generalize wr.drew = wz at HMd HBd HLKd HEd hHeld ⊢
          refine pure_ (i := 0) (N := (some 46)) (v := ?_) (a' := ?_) #[true, false, false, false, false, false, false, false, false, false, false, false, false, false, false] rfl rfl (by kernel_rfl) (fun _ _ _ h => h) (Or.inl ⟨by rfl, ?_⟩) ?_ ?_
          rotate_left
          · intro w'
            go_simp
            with_reducible rfl
          rotate_left
          · simp only [Act.put, List.setIfInBounds_toArray, List.set_cons_zero, List.set_cons_succ, i64_w, i32_w]
            rfl
          refine pure_ (i := 1) (N := (some 47)) (v := ?_) (a' := ?_) #[true, true, false, false, false, false, false, false, false, false, false, false, false, false, false] rfl rfl (by kernel_rfl) (fun _ _ _ h => h) (Or.inl ⟨by rfl, ?_⟩) ?_ ?_
          rotate_left
          · intro w'
            go_simp
            with_reducible rfl
          rotate_left
          · simp only [Act.put, List.setIfInBounds_toArray, List.set_cons_zero, List.set_cons_succ, i64_w, i32_w]
            rfl
          refine pure_ (i := 2) (N := (some 48)) (v := ?_) (a' := ?_) #[true, true, true, false, false, false, false, false, false, false, false, false, false, false, false] rfl rfl (by kernel_rfl) (fun _ _ _ h => h) (Or.inl ⟨by rfl, ?_⟩) ?_ ?_
          rotate_left
          · intro w'
            go_simp
            with_reducible rfl
          rotate_left
          · simp only [Act.put, List.setIfInBounds_toArray, List.set_cons_zero, List.set_cons_succ, i64_w, i32_w]
            rfl
          refine pure_ (i := 3) (N := (some 49)) (v := ?_) (a' := ?_) #[true, true, true, true, false, false, false, false, false, false, false, false, false, false, false] rfl rfl (by kernel_rfl) (fun _ _ _ h => h) (Or.inl ⟨by rfl, ?_⟩) ?_ ?_
          rotate_left
          · intro w'
            go_simp
            with_reducible rfl
          rotate_left
          · simp only [Act.put, List.setIfInBounds_toArray, List.set_cons_zero, List.set_cons_succ, i64_w, i32_w]
            rfl
          refine take_ (i := 4) (N := (some 50)) (v := ?_) (a' := ?_) #[true, true, true, true, true, false, false, false, false, false, false, false, false, false, false] rfl rfl (by kernel_rfl) (fun _ _ _ h => h) (Or.inl ⟨by rfl, ?_⟩) hHeld ?_ ?_
          rotate_left
          · rintro w' ⟨s0, s1⟩
            go_simp
            with_reducible rfl
          rotate_left
          · simp only [Act.put, List.setIfInBounds_toArray, List.set_cons_zero, List.set_cons_succ, i64_w, i32_w]
            rfl
          refine pure_ (i := 5) (N := (some 51)) (v := ?_) (a' := ?_) #[true, true, true, true, true, true, false, false, false, false, false, false, false, false, false] rfl rfl (by kernel_rfl) (fun _ _ _ h => h) (Or.inl ⟨by rfl, ?_⟩) ?_ ?_
          rotate_left
          · intro w'
            go_simp
            with_reducible rfl
          rotate_left
          · simp only [Act.put, List.setIfInBounds_toArray, List.set_cons_zero, List.set_cons_succ, i64_w, i32_w]
            rfl
          refine pure_ (i := 6) (N := (some 52)) (v := ?_) (a' := ?_) #[true, true, true, true, true, true, true, false, false, false, false, false, false, false, false] rfl rfl (by kernel_rfl) (fun _ _ _ h => h) (Or.inl ⟨by rfl, ?_⟩) ?_ ?_
          rotate_left
          · intro w'
            go_simp
            with_reducible rfl
          rotate_left
          · simp only [Act.put, List.setIfInBounds_toArray, List.set_cons_zero, List.set_cons_succ, i64_w, i32_w]
            rfl
          refine pure_ (i := 7) (N := (some 53)) (v := ?_) (a' := ?_) #[true, true, true, true, true, true, true, true, false, false, false, false, false, false, false] rfl rfl (by kernel_rfl) (fun _ _ _ h => h) (Or.inl ⟨by rfl, ?_⟩) ?_ ?_
          rotate_left
          · intro w'
            go_simp
            with_reducible rfl
          rotate_left
          · simp only [Act.put, List.setIfInBounds_toArray, List.set_cons_zero, List.set_cons_succ, i64_w, i32_w]
            rfl
          refine take_ (i := 8) (N := (some 54)) (v := ?_) (a' := ?_) #[true, true, true, true, true, true, true, true, true, false, false, false, false, false, false] rfl rfl (by kernel_rfl) (fun _ _ _ h => h) (Or.inl ⟨by rfl, ?_⟩) hHeld ?_ ?_
          rotate_left
          · rintro w' ⟨s0, s1⟩
            go_simp
            with_reducible rfl
          rotate_left
          · simp only [Act.put, List.setIfInBounds_toArray, List.set_cons_zero, List.set_cons_succ, i64_w, i32_w]
            rfl
          refine pure_ (i := 9) (N := (some 55)) (v := ?_) (a' := ?_) #[true, true, true, true, true, true, true, true, true, true, false, false, false, false, false] rfl rfl (by kernel_rfl) (fun _ _ _ h => h) (Or.inl ⟨by rfl, ?_⟩) ?_ ?_
          rotate_left
          · intro w'
            go_simp
            with_reducible rfl
          rotate_left
          · simp only [Act.put, List.setIfInBounds_toArray, List.set_cons_zero, List.set_cons_succ, i64_w, i32_w]
            rfl
          refine pure_ (i := 10) (N := (some 56)) (v := ?_) (a' := ?_) #[true, true, true, true, true, true, true, true, true, true, true, false, false, false, false] rfl rfl (by kernel_rfl) (fun _ _ _ h => h) (Or.inl ⟨by rfl, ?_⟩) ?_ ?_
          rotate_left
          · intro w'
            go_simp
            with_reducible rfl
          rotate_left
          · simp only [Act.put, List.setIfInBounds_toArray, List.set_cons_zero, List.set_cons_succ, i64_w, i32_w]
            rfl
          refine pure_ (i := 11) (N := (some 57)) (v := ?_) (a' := ?_) #[true, true, true, true, true, true, true, true, true, true, true, true, false, false, false] rfl rfl (by kernel_rfl) (fun _ _ _ h => h) (Or.inl ⟨by rfl, ?_⟩) ?_ ?_
          rotate_left
          · intro w'
            go_simp
            with_reducible rfl
          rotate_left
          · simp only [Act.put, List.setIfInBounds_toArray, List.set_cons_zero, List.set_cons_succ, i64_w, i32_w]
            rfl
          refine one_ (i := 12) (N := (some 58)) #[true, true, true, true, true, true, true, true, true, true, true, true, true, false, false] rfl rfl (by kernel_rfl) (by decide) (fun K hK => ?_)
          refine value_ (w1 := ?_) (v := ?_) (by rfl) rfl ?_ ?_
          rotate_left 2
          · go_simp
            constructor
            · rfl
            · rfl
          refine hK.out _ _ ⟨(World.cell?_alloc_lt _ _ _ (by show g < wz.heap.size; have := HBd.out.size; omega)).trans ((HBd.out.cell hgl).trans ((blk_cell HW.out 0).trans rfl)), HF.out _ (HMd.out.alloc _)⟩ (fun hHeld => ?_)
          clear hK K
          refine norm_ (a' := ?_) ?_ ?_
          rotate_left
          · show Act.put _ (some 58) _ = _
            simp only [Act.put, List.setIfInBounds_toArray, List.set_cons_zero, List.set_cons_succ, i64_w, i32_w]
            rfl
          refine one_ (i := 13) (N := (some 59)) #[true, true, true, true, true, true, true, true, true, true, true, true, true, true, false] rfl rfl (by kernel_rfl) (by decide) (fun K hK => ?_)
          refine appN_step (w := w) (by rfl) (.tmp 50) (.tmp 58) rfl u row (wrap64 ((legs.length : Int) + (k : Int))) (fun _ => True) rfl rfl HLKd.out (fun _ _ => trivial) HBd.out (by omega) ?_
          intro v2 w1 ho hb hg hat
          rw [show wrap64 ((legs.length : Int) + (k : Int)) = ((legs.length + k : Nat) : Int) from by unfold wrap64; omega] at ho
          have HO1 := Aside0.mk ho
          have HB1 := Aside0.mk hb
          have HG1 := Aside0.mk hg
          have HAT := Aside0.mk hat
          have HM1 := Aside0.mk (map_of_row HMd.out HLKd.out hg)
          clear ho hb hg hat
          refine hK.out _ _ ⟨(HB1.out.cell hgl).trans ((blk_cell HW.out 0).trans rfl), HF.out _ HM1.out⟩ (fun hHeld => ?_)
          clear hK K
          refine norm_ (a' := ?_) ?_ ?_
          rotate_left
          · show Act.put _ (some 59) _ = _
            simp only [Act.put, List.setIfInBounds_toArray, List.set_cons_zero, List.set_cons_succ, i64_w, i32_w]
            rfl
          refine last_ (i := 14) (N := none) #[true, true, true, true, true, true, true, true, true, true, true, true, true, true, true] rfl rfl (by kernel_rfl) (by decide) (fun K hK => ?_)
          obtain ⟨w2, hrun2, hm2, hg2, hs2⟩ := HM1.out.update keyI64 Try.underlying66 x v2
          refine skip_ (w1 := w2) (by rfl) rfl ?_ ?_
          · go_simp
          refine hK.out _ _ ?_
          clear hK K
          refine done_ (by kernel_rfl) ?_
          have hm2' := Aside0.mk hm2
          have hg2' := Aside0.mk hg2
          clear hm2 hg2 hs2 hrun2
          go_wp2
          go_roundw
          case rel => exact ⟨n + 1, _, by omega, by go_num, hm2', ⟨by rw [HST2.out, endsOf_snoc]; exact HEd.out.step HMd.out (by rw [← HROW.out]; exact HO1.out) (by rw [HU.out]; exact HG1.out) (by rw [HU.out]; exact HAT.out) HM1.out hg2'.out⟩, ⟨HB1.out.grown hg2'.out HB1.out.size (fun j hj => by cases hj; exact Nat.le_refl _)⟩⟩
          case measure => simp [intOf]; omega
        · obtain rfl : n = f.length := by omega
          go_wp2
          go_roundw
          case rel => exact ⟨k + 1, kv, by omega, by go_num, HM, ⟨by rw [HST.out, ← List.append_assoc, HLE.out]; have := HE.out; rwa [List.take_length] at this⟩, HB2⟩
          case measure => simp [intOf]; omega
     · obtain rfl : k = forks.length := by omega
       go_wp2
       go_ret
       exact ⟨w.heap.size, kv, rfl, Nat.le_refl _, HM.out, by have := HE.out; rwa [List.take_length] at this, HB.out⟩
end Go.Proofs.Ytibahnmljafkdaa.P
