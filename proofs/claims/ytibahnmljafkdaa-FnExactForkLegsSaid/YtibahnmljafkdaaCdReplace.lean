/- 'slices.Replace' of two neighbours by one number, in a row of one's own: the row is written in place. -/
import Derived.Test.YtibahnmljafkdaaCdBase
import Derived.Laws.IdiomCopy
import Derived.Lib.SliceRun
import Derived.ArgAppend
namespace Go.Proofs.Ytibahnmljafkdaa.P
open Go.RowKit Go.Maps Go.Proofs.YtibahnmljafkdaaW.PrintWords Go.Proofs.YtibahnmljafkdaaW.PrintLast Go.Proofs.YtibahnmljafkdaaW.PrintMore
set_option linter.unusedVariables false
set_option linter.unusedSimpArgs false
section
variable {ops : Array Oper} {rest : List Oper} {o : Oper} {a : Act} {Q : Exit → Act → World → Prop} {W : World}
theorem appRoom (hg : o.guard = none) (s x : Operand) (hop : o.op = Op.call { callee := Callee.builtin Builtin.append, args := #[s, x], argTypes := #[22, 22] })
 (g n c gv cv : Nat) (e : Int) (hs : a.eval s = .slice (some ⟨g, 0, none⟩) n c) (hx : a.eval x = .slice (some ⟨gv, 0, none⟩) 1 cv) (hroom : n + 1 ≤ c)
 (hv : W.cell? ⟨gv, 0, none⟩ = some (.int .i64 e)) (hc : (W.cell? ⟨g, n, none⟩).isSome = true) (hf : W.frozen? ⟨g, n, none⟩ = false)
 (h : wpList Try.prog ops Q rest (a.put o.dst (.slice (some ⟨g, 0, none⟩) (n + 1) c)) (W.setCell ⟨g, n, none⟩ (.int .i64 e))) : wpList Try.prog ops Q (o :: rest) a W := by
 refine wpList_plain hg fun K hK => ?_
 obtain ⟨i, hi, hsz⟩ : ∃ i, Try.prog.info? 2 = some i ∧ i.size = 1 := by
  have := info2
  cases hq : Try.prog.info? 2 with
  | none => rw [hq] at this; simp at this
  | some i => rw [hq] at this; simp at this; exact ⟨i, rfl, this.2.1⟩
 have hrun := run_append_room_cells (P := Try.prog) W 22 o.type 2 i Try.underlying22 hi g 0 n c ⟨gv, 0, none⟩ 1 cv [.int .i64 e] (by simp [hsz])
  (fun j u hj => by
   cases j with
   | zero => simp at hj; subst hj; exact hv
   | succ j => simp at hj) (by simp [Value.oneCell']) hroom
  (fun j hj => by
   have : j = 0 := by simpa using hj
   subst this
   simpa [hsz] using hc)
  (fun j hj => by
   have : j = 0 := by simpa using hj
   subst this
   simpa [hsz] using hf)
 unfold Oper.wp
 simp [execOp, hop, resolve, invoke, builtin, hs, hx, hrun, Result.andThen, hsz]
 exact hK _ _ h
end
theorem size64 : (Try.prog.info? 2).map (·.size) = some 1 := by
 have := info2
 cases hq : Try.prog.info? 2 with
 | none => rw [hq] at this; simp at this
 | some i => rw [hq] at this; simp at this; simp [this.2.1]
theorem blk_some {w : World} {g : Nat} {cur : Array Value} {t : TypeId} (h : w.heap[g]? = some (.cells cur t (0, 0))) (j : Nat) (hj : j < cur.size) : (w.cell? ⟨g, j, none⟩).isSome = true := by
 rw [blk_cell h j, Array.getElem?_eq_getElem hj]; rfl
structure Replaced (w w' : World) (g k n c : Nat) (cur : Array Value) (e : Int) : Prop where
 row : ∃ cur', w'.heap[g]? = some (.cells cur' 2 (0, 0)) ∧ cur'.size = c ∧ cur'.toList.take (n - 1) = cur.toList.take k ++ [.int .i64 e] ++ (cur.toList.take n).drop (k + 2)
 far : ∀ j, j ≠ g → w'.heap[j]? = w.heap[j]?
 same : w'.os = w.os ∧ w'.tape = w.tape ∧ w'.output = w.output ∧ w'.heap.size = w.heap.size
set_option maxRecDepth 100000 in
set_option maxHeartbeats 1000000 in
theorem replace_end (g n c k : Nat) (cur : Array Value) (e : Int) (gv cv : Nat) (w : World) (hg : w.heap[g]? = some (.cells cur 2 (0, 0))) (hs : cur.size = c) (hn : n ≤ c) (hk : k + 2 = n) (hv : w.cell? ⟨gv, 0, none⟩ = some (.int .i64 e)) (hc : c ≤ 9223372036854775807) (hnn : n ≤ 1000000000000) :
 Calls Try.prog 44 #[.slice (some ⟨g, 0, none⟩) n c, .int .i64 k, .int .i64 ((k : Int) + 2), .slice (some ⟨gv, 0, none⟩) 1 cv] w fun x w' => x = .returned (.slice (some ⟨g, 0, none⟩) (n - 1) c) ∧ Replaced w w' g k n c cur e := by
 have hgg := hg
 obtain ⟨cur1, hr1, hz1, hl1⟩ := setCells_row [.int .i64 e] k w cur hg (by simp; omega)
 obtain ⟨cur2, hr2, hz2, hl2⟩ := setCells_row [.int .i64 0] (k + 1) _ cur1 hr1 (by simp; omega)
 have hcl : (Builtin.clear_ #[22] 0 #[.slice (some ⟨g, k + 1, none⟩) (n - (k + 1)) (c - (k + 1))]).run Try.prog (w.setCell ⟨g, k, none⟩ (.int .i64 e)) = .ok (.tuple #[]) ((w.setCells g k [.int .i64 e]).setCells g (k + 1) [.int .i64 0]) := by
  have e1 : n - (k + 1) = 1 := by omega
  rw [e1]
  exact Go.Lib.run_clear_slice (P := Try.prog) _ 22 2 0 (.int .i64 0) Try.underlying22 (fun w => Try.zeroValue2 w) rfl rfl g (k + 1) 1 _ (by omega) (fun j hj => blk_some hr1 _ (by omega)) (fun j hj => blk_frozen hr1 _)
 have hend : Replaced w ((w.setCells g k [.int .i64 e]).setCells g (k + 1) [.int .i64 0]) g k n c cur e := by
  have s1 := setCells_same g [.int .i64 e] k w
  have s2 := setCells_same g [.int .i64 0] (k + 1) (w.setCells g k [.int .i64 e])
  refine ⟨⟨cur2, hr2, by omega, ?_⟩, fun j hj => (setCells_far _ _ j hj).trans (setCells_far _ _ j hj), s2.1.trans s1.1, s2.2.1.trans s1.2.1, s2.2.2.1.trans s1.2.2.1, by simp [s2, s1]⟩
  have hkl : (cur.toList.take k).length = k := by simp; omega
  have e1 : (cur.toList.take n).drop (k + 2) = [] := List.drop_of_length_le (by simp; omega)
  have e2 : n - 1 = k + 1 := by omega
  rw [hl2, hl1, e1, e2, List.append_nil]
  have hx : (cur.toList.take k ++ [Value.int .i64 e]).length = k + 1 := by simp; omega
  generalize cur.toList.take k ++ [Value.int .i64 e] = L at *
  rw [List.append_assoc, List.take_append_of_le_length (by simp [hx]), List.take_append_of_le_length (by omega), ← hx, List.take_length, List.take_length]
 have HE := Aside0.mk hend
 have h1 : (w.cell? ⟨g, k, none⟩).isSome = true := blk_some hg k (by omega)
 have h2 := blk_frozen hg k
 have HC := Aside0.mk h1
 have HF := Aside0.mk h2
 have HV := Aside0.mk hv
 clear hg hgg hs h1 h2 hv hr1 hr2 hl1 hl2 hz1 hz2 hend
 generalize (w.setCells g k [.int .i64 e]).setCells g (k + 1) [.int .i64 0] = w2 at *
 go_enter Try.func44, Try.ntmps44
 go_wp2_with (first
  | ((with_reducible refine gate_builtin (b := .append) (xs := #[.tmp 32, .tmp 33]) rfl ?_); at_builtin; go_must (refine appRoom rfl (.tmp 32) (.tmp 33) rfl g k c gv cv e rfl rfl (by omega) HV.out HC.out HF.out ?_)))
 have e3 : n - 1 = k + 1 := by omega
 go_ret
 exact ⟨by rw [e3]; rfl, HE.out⟩
set_option maxRecDepth 100000 in
set_option maxHeartbeats 1000000 in
theorem replace_mid (g n c k : Nat) (cur : Array Value) (e : Int) (gv cv : Nat) (w : World) (hg : w.heap[g]? = some (.cells cur 2 (0, 0))) (hs : cur.size = c) (hn : n ≤ c) (hk : k + 2 < n) (hv : w.cell? ⟨gv, 0, none⟩ = some (.int .i64 e)) (hc : c ≤ 9223372036854775807) (hnn : n ≤ 1000000000000) (hone : ∀ u ∈ cur.toList.take n, u.oneCell' = true) :
 Calls Try.prog 44 #[.slice (some ⟨g, 0, none⟩) n c, .int .i64 k, .int .i64 ((k : Int) + 2), .slice (some ⟨gv, 0, none⟩) 1 cv] w fun x w' => x = .returned (.slice (some ⟨g, 0, none⟩) (n - 1) c) ∧ Replaced w w' g k n c cur e := by
 obtain ⟨m, rfl⟩ : ∃ m, n = k + 2 + (m + 1) := ⟨n - k - 3, by omega⟩
 go_enter Try.func44, Try.ntmps44
 have hcp1 := fun (W : World) (hW : W.heap[g]? = some (.cells cur 2 (0, 0))) (hV : W.cell? ⟨gv, 0, none⟩ = some (.int .i64 e)) => show (Builtin.copy_ #[22, 22] 3 #[.slice (some ⟨g, k, none⟩) (k + 1 + (m + 1) - k) (c - k), .slice (some ⟨gv, 0, none⟩) 1 cv]).run Try.prog W = .ok (goInt 1) (W.setCells g k [.int .i64 e]) from
  run_copy_cells (P := Try.prog) W 22 22 3 2 g k _ _ ⟨gv, 0, none⟩ 1 cv [.int .i64 e] Try.underlying22 size64 (by show _ = min _ _; rw [Nat.min_eq_left (by omega)]; rfl)
   (fun j v hj => by
    cases j with
    | zero => simp at hj; subst hj; exact hV
    | succ j => simp at hj)
   (fun j hj => blk_some hW _ (by simp at hj; omega)) (fun j hj => blk_frozen hW _) (by simp [Value.oneCell'])
 have HCP1 := Aside0.mk hcp1
 clear hcp1
 go_wp2
 go_quiet (fail)
 generalize hw0 : w.drewN nq = w0
 have hg0 : w0.heap[g]? = some (.cells cur 2 (0, 0)) := by rw [← hw0]; exact hg
 have hv0 : w0.cell? ⟨gv, 0, none⟩ = some (.int .i64 e) := by rw [← hw0]; exact hv
 have hq1 := HCP1.out w0 hg0 hv0
 obtain ⟨cur1, hr1, hz1, hl1⟩ := setCells_row [.int .i64 e] k w0 cur hg0 (by simp; omega)
 generalize hw1 : w0.setCells g k [.int .i64 e] = w1 at *
 obtain ⟨vs, hvs⟩ : ∃ vs, vs = (cur1.toList.take (k + 2 + (m + 1))).drop (k + 2) := ⟨_, rfl⟩
 have hvl : vs.length = m + 1 := by rw [hvs]; simp; omega
 have hvs2 : vs = (cur.toList.take (k + 2 + (m + 1))).drop (k + 2) := by
  rw [hvs, hl1]
  have hkl : (cur.toList.take k).length = k := by simp; omega
  apply List.ext_getElem?
  intro j
  rw [List.getElem?_drop, List.getElem?_drop]
  by_cases hj : k + 2 + j < k + 2 + (m + 1)
  · rw [List.getElem?_take_of_lt hj, List.getElem?_take_of_lt hj, List.append_assoc, List.getElem?_append_right (by omega), List.getElem?_append_right (by simp [hkl]; omega), List.getElem?_drop]
    congr 1
    simp [hkl]; omega
  · rw [List.getElem?_eq_none (by simp; omega), List.getElem?_eq_none (by simp; omega)]
 have hone2 : ∀ u ∈ vs, u.oneCell' = true := fun u hu => hone u (by rw [hvs2] at hu; exact List.mem_of_mem_drop hu)
 have hcp2 := fun (W : World) (hW : W.heap[g]? = some (.cells cur1 2 (0, 0))) => show (Builtin.copy_ #[22, 22] 3 #[.slice (some ⟨g, k + 1, none⟩) (m + 1) (c - (k + 1)), .slice (some ⟨g, k + 2, none⟩) (m + 1) (c - (k + 2))]).run Try.prog W = .ok (goInt vs.length) (W.setCells g (k + 1) vs) from
  run_copy_cells (P := Try.prog) W 22 22 3 2 g (k + 1) _ _ ⟨g, k + 2, none⟩ _ _ vs Try.underlying22 size64 (by show _ = min _ _; rw [hvl, Nat.min_self])
   (fun j v hj => by
    rw [hvs, List.getElem?_drop] at hj
    have hj2 : k + 2 + j < k + 2 + (m + 1) := by
     have := (List.getElem?_eq_some_iff.1 hj).1
     simp at this; omega
    rw [List.getElem?_take_of_lt hj2, Array.getElem?_toList] at hj
    rw [Addr.add_lit]
    exact (blk_cell hW (k + 2 + j)).trans hj)
   (fun j hj => blk_some hW _ (by omega)) (fun j hj => blk_frozen hW _) hone2
 obtain ⟨cur2, hr2, hz2, hl2⟩ := setCells_row vs (k + 1) w1.drew cur1 hr1 (by omega)
 generalize hw2 : w1.drew.setCells g (k + 1) vs = w2 at *
 have HCP2 := Aside0.mk hcp2
 have HW2 := Aside0.mk hw2
 have HR2 := Aside0.mk hr2
 clear hw2 hr2
 have HR1 := Aside0.mk hr1
 clear hcp2
 have hwk : wrap64 ((k : Int) + 1) = (k : Int) + 1 := by unfold wrap64; omega
 have htn1 : ((k : Int) + 1).toNat = k + 1 := by omega
 have htn2 : ((k : Int) + 2).toNat = k + 2 := by omega
 have hb1 : (0 : Int) ≤ (k : Int) + 1 ∧ (k : Int) + 1 ≤ (k : Int) + 1 + ((m : Int) + 1) := by omega
 have hb2 : ¬ c = k + 1 := by omega
 have hb3 : (0 : Int) ≤ (k : Int) + 2 ∧ (k : Int) + 2 ≤ (k : Int) + 2 + ((m : Int) + 1) := by omega
 have hb4 : ¬ c = k + 2 := by omega
 go_wp2
 refine start_ (n := 10) (S := fun w' => w'.heap[g]? = some (.cells cur1 2 (0, 0))) (ds := [9]) #[false, false, false, false, false, false, false, false, false, false] (by kernel_rfl) rfl rfl (HR1.out) (fun hHeld => ?_)
 refine pure_ (i := 0) (N := (some 98)) (v := ?_) (a' := ?_) #[true, false, false, false, false, false, false, false, false, false] rfl rfl (by kernel_rfl) (fun _ _ _ h => h) (Or.inl ⟨by rfl, ?_⟩) ?_ ?_
 rotate_left
 · intro w'
   go_simp
   with_reducible rfl
 rotate_left
 · simp only [Act.put, List.setIfInBounds_toArray, List.set_cons_zero, List.set_cons_succ, i64_w, i32_w]
   rfl
 refine pure_ (i := 1) (N := (some 99)) (v := ?_) (a' := ?_) #[true, true, false, false, false, false, false, false, false, false] rfl rfl (by kernel_rfl) (fun _ _ _ h => h) (Or.inl ⟨by rfl, ?_⟩) ?_ ?_
 rotate_left
 · intro w'
   go_simp
   with_reducible rfl
 rotate_left
 · simp only [Act.put, List.setIfInBounds_toArray, List.set_cons_zero, List.set_cons_succ, i64_w, i32_w]
   rfl
 refine pure_ (i := 2) (N := (some 100)) (v := ?_) (a' := ?_) #[true, true, true, false, false, false, false, false, false, false] rfl rfl (by kernel_rfl) (fun _ _ _ h => h) (Or.inl ⟨by rfl, ?_⟩) ?_ ?_
 rotate_left
 · intro w'
   go_simp
   with_reducible rfl
 rotate_left
 · simp only [Act.put, List.setIfInBounds_toArray, List.set_cons_zero, List.set_cons_succ, i64_w, i32_w]
   rfl
 refine pure_ (i := 3) (N := (some 101)) (v := ?_) (a' := ?_) #[true, true, true, true, false, false, false, false, false, false] rfl rfl (by kernel_rfl) (fun _ _ _ h => h) (Or.inl ⟨by rfl, ?_⟩) ?_ ?_
 rotate_left
 · intro w'
   go_simp
   with_reducible rfl
 rotate_left
 · simp only [Act.put, List.setIfInBounds_toArray, List.set_cons_zero, List.set_cons_succ, i64_w, i32_w]
   rfl
 refine pure_ (i := 4) (N := (some 102)) (v := ?_) (a' := ?_) #[true, true, true, true, true, false, false, false, false, false] rfl rfl (by kernel_rfl) (fun _ _ _ h => h) (Or.inl ⟨by rfl, ?_⟩) ?_ ?_
 rotate_left
 · intro w'
   go_simp
   with_reducible rfl
 rotate_left
 · simp only [Act.put, List.setIfInBounds_toArray, List.set_cons_zero, List.set_cons_succ, i64_w, i32_w]
   rfl
 refine pure_ (i := 5) (N := (some 103)) (v := ?_) (a' := ?_) #[true, true, true, true, true, true, false, false, false, false] rfl rfl (by kernel_rfl) (fun _ _ _ h => h) (Or.inl ⟨by rfl, ?_⟩) ?_ ?_
 rotate_left
 · intro w'
   go_simp
   with_reducible rfl
 rotate_left
 · simp only [Act.put, List.setIfInBounds_toArray, List.set_cons_zero, List.set_cons_succ, i64_w, i32_w]
   rfl
 refine pure_ (i := 6) (N := (some 104)) (v := ?_) (a' := ?_) #[true, true, true, true, true, true, true, false, false, false] rfl rfl (by kernel_rfl) (fun _ _ _ h => h) (Or.inl ⟨by rfl, ?_⟩) ?_ ?_
 rotate_left
 · intro w'
   go_simp
   with_reducible rfl
 rotate_left
 · simp only [Act.put, List.setIfInBounds_toArray, List.set_cons_zero, List.set_cons_succ, i64_w, i32_w]
   rfl
 refine pure_ (i := 7) (N := (some 105)) (v := ?_) (a' := ?_) #[true, true, true, true, true, true, true, true, false, false] rfl rfl (by kernel_rfl) (fun _ _ _ h => h) (Or.inl ⟨by rfl, ?_⟩) ?_ ?_
 rotate_left
 · intro w'
   go_simp
   with_reducible rfl
 rotate_left
 · simp only [Act.put, List.setIfInBounds_toArray, List.set_cons_zero, List.set_cons_succ, i64_w, i32_w]
   rfl
 refine pure_ (i := 8) (N := (some 106)) (v := ?_) (a' := ?_) #[true, true, true, true, true, true, true, true, true, false] rfl rfl (by kernel_rfl) (fun _ _ _ h => h) (Or.inl ⟨by rfl, ?_⟩) ?_ ?_
 rotate_left
 · intro w'
   go_simp
   with_reducible rfl
 rotate_left
 · simp only [Act.put, List.setIfInBounds_toArray, List.set_cons_zero, List.set_cons_succ, i64_w, i32_w]
   rfl
 refine last_ (i := 9) (N := (some 107)) #[true, true, true, true, true, true, true, true, true, true] rfl rfl (by kernel_rfl) (by decide) (fun K hK => ?_)
 refine value_ (w1 := ?_) (v := ?_) (by rfl) rfl ?_ ?_
 rotate_left 2
 · go_simp
   rw [HCP2.out w1.drew HR1.out, HW2.out]
   rfl
 refine hK.out _ _ ?_
 clear hK K
 refine norm_ (a' := ?_) ?_ ?_
 rotate_left
 · show Act.put _ (some 107) _ = _
   simp only [Act.put, List.setIfInBounds_toArray, List.set_cons_zero, List.set_cons_succ, i64_w, i32_w]
   rfl
 refine done_ (by kernel_rfl) ?_
 obtain ⟨cur3, hr3, hz3, hl3⟩ := setCells_row [.int .i64 0] (k + 1 + (m + 1)) w2 cur2 HR2.out (by simp; omega)
 have hcl : (Builtin.clear_ #[22] 0 #[.slice (some ⟨g, k + 1 + (m + 1), none⟩) (k + 2 + (m + 1) - (k + 1 + (m + 1))) (c - (k + 1 + (m + 1)))]).run Try.prog w2 = .ok (.tuple #[]) (w2.setCells g (k + 1 + (m + 1)) [.int .i64 0]) := by
  have e1 : k + 2 + (m + 1) - (k + 1 + (m + 1)) = 1 := by omega
  rw [e1]
  exact Go.Lib.run_clear_slice (P := Try.prog) _ 22 2 0 (.int .i64 0) Try.underlying22 (fun w => Try.zeroValue2 w) rfl rfl g (k + 1 + (m + 1)) 1 _ (by omega) (fun j hj => blk_some HR2.out _ (by omega)) (fun j hj => blk_frozen HR2.out _)
 have hend : Replaced w (w2.setCells g (k + 1 + (m + 1)) [.int .i64 0]) g k (k + 2 + (m + 1)) c cur e := by
  have s1 := setCells_same g [.int .i64 e] k w0
  have s2 := setCells_same g vs (k + 1) w1.drew
  have s3 := setCells_same g [.int .i64 0] (k + 1 + (m + 1)) w2
  have f1 : ∀ j, j ≠ g → w1.heap[j]? = w.heap[j]? := fun j hj => by rw [← hw1, setCells_far _ _ j hj, ← hw0]; rfl
  have f2 : ∀ j, j ≠ g → w2.heap[j]? = w.heap[j]? := fun j hj => by rw [← HW2.out, setCells_far _ _ j hj]; exact f1 j hj
  rw [hw1] at s1
  rw [HW2.out] at s2
  have d0 : w0.os = w.os ∧ w0.tape = w.tape ∧ w0.output = w.output ∧ w0.heap.size = w.heap.size := by rw [← hw0]; exact ⟨rfl, rfl, rfl, rfl⟩
  have d1 : w1.drew.os = w1.os ∧ w1.drew.tape = w1.tape ∧ w1.drew.output = w1.output ∧ w1.drew.heap.size = w1.heap.size := ⟨rfl, rfl, rfl, rfl⟩
  refine ⟨⟨cur3, hr3, by omega, ?_⟩, fun j hj => (setCells_far _ _ j hj).trans (f2 j hj), ?_, ?_, ?_, ?_⟩
  · have hkl : (cur.toList.take k).length = k := by simp; omega
    have e2 : k + 2 + (m + 1) - 1 = k + 1 + (m + 1) := by omega
    have hx : (cur1.toList.take (k + 1)) = cur.toList.take k ++ [Value.int .i64 e] := by
     rw [hl1, List.take_append_of_le_length (by simp [hkl])]
     exact List.take_of_length_le (by simp [hkl])
    have hx2 : (cur2.toList.take (k + 1 + (m + 1))) = cur.toList.take k ++ [Value.int .i64 e] ++ vs := by
     rw [hl2, hx, List.take_append_of_le_length (by simp [hkl, hvl]; omega)]
     exact List.take_of_length_le (by simp [hkl, hvl]; omega)
    rw [e2, hl3, hx2, ← hvs2, List.append_assoc, List.take_append_of_le_length (by simp [hkl, hvl]; omega)]
    exact List.take_of_length_le (by simp [hkl, hvl]; omega)
  · exact s3.1.trans (s2.1.trans (d1.1.trans (s1.1.trans d0.1)))
  · exact s3.2.1.trans (s2.2.1.trans (d1.2.1.trans (s1.2.1.trans d0.2.1)))
  · exact s3.2.2.1.trans (s2.2.2.1.trans (d1.2.2.1.trans (s1.2.2.1.trans d0.2.2.1)))
  · have a1 := s3.2.2.2; have a2 := s2.2.2.2; have a3 := s1.2.2.2
    simp at a1 a2 a3
    omega
 have HE := Aside0.mk hend
 clear hend hr3 hl3 hz3 hr1 hl1 hz1 hl2 hz2 hg hv
 generalize w2.setCells g (k + 1 + (m + 1)) [.int .i64 0] = w3 at *
 go_wp2
 have e3 : k + 2 + (m + 1) - 1 = k + 1 + (m + 1) := by omega
 go_ret
 exact ⟨by rw [e3]; rfl, HE.out⟩
theorem replace_R {base : Nat} {ok : Nat → Prop} (g c k : Nat) (l : List Int) (e : Int) (gv cv : Nat) (w : World) (HO : Kd.R (Kd.int .i64) 2 w base ok (.slice (some ⟨g, 0, none⟩) l.length c) l) (hk : k + 2 ≤ l.length) (hl : l.length ≤ 1000000000000) (hv : w.cell? ⟨gv, 0, none⟩ = some (.int .i64 e)) :
 Calls Try.prog 44 #[.slice (some ⟨g, 0, none⟩) l.length c, .int .i64 k, .int .i64 ((k : Int) + 2), .slice (some ⟨gv, 0, none⟩) 1 cv] w fun x w' => x = .returned (.slice (some ⟨g, 0, none⟩) (l.length - 1) c) ∧ Kd.R (Kd.int .i64) 2 w' base ok (.slice (some ⟨g, 0, none⟩) (l.length - 1) c) (l.take k ++ [e] ++ l.drop (k + 2)) ∧
  (∀ j, j ≠ g → w'.heap[j]? = w.heap[j]?) ∧ w'.os = w.os ∧ w'.tape = w.tape ∧ w'.output = w.output ∧ w'.heap.size = w.heap.size := by
 have hown := Kd.own_of_R (enc := Value.int .i64) (h1 := fun _ => rfl) HO
 have hbk := HO.1
 obtain ⟨_, hown | ⟨g', cap, cur, hval, hbase, hheap, hn, hcap, hsz, htk⟩⟩ := hown
 · cases hown.1
 · cases hval
   rw [Nat.mul_one] at hsz htk
   have hmax : maxLen = 9223372036854775807 := rfl
   have hone : ∀ u ∈ cur.toList.take l.length, u.oneCell' = true := fun u hu => by
    rw [htk] at hu
    obtain ⟨x, _, rfl⟩ := List.mem_map.1 hu
    rfl
   have hcall : Calls Try.prog 44 #[.slice (some ⟨g, 0, none⟩) l.length c, .int .i64 k, .int .i64 ((k : Int) + 2), .slice (some ⟨gv, 0, none⟩) 1 cv] w fun x w' => x = .returned (.slice (some ⟨g, 0, none⟩) (l.length - 1) c) ∧ Replaced w w' g k l.length c cur e := by
    rcases Nat.lt_or_eq_of_le hk with h | h
    · exact replace_mid g l.length c k cur e gv cv w hheap hsz hn h hv (by omega) hl hone
    · exact replace_end g l.length c k cur e gv cv w hheap hsz hn h hv (by omega) hl
   refine hcall.mono ?_
   rintro x w' ⟨rfl, hr⟩
   obtain ⟨cur', h1, h2, h3⟩ := hr.row
   refine ⟨rfl, ?_, hr.far, hr.same⟩
   have hlen : (l.take k ++ [e] ++ l.drop (k + 2)).length = l.length - 1 := by simp; omega
   rw [← hlen]
   refine Kd.R_of_own (enc := Value.int .i64) (h1 := fun _ => rfl) ⟨by simp [encs], .inr ⟨g, c, cur', rfl, hbase, h1, by omega, hcap, by omega, ?_⟩⟩ (fun j hj => hbk j (by simpa [Value.ownBlock] using hj))
   have h5 : cur.toList.take k = (cur.toList.take l.length).take k := by rw [List.take_take, Nat.min_eq_left (by omega)]
   rw [Nat.mul_one, hlen, h3, h5, htk]
   simp [encs]
end Go.Proofs.Ytibahnmljafkdaa.P
