/- The reference's labels of parts are the program's: plain mathematics. -/
import Derived.Test.YtibahnmljafkdaaCdPureWeb
namespace Go.Proofs.Ytibahnmljafkdaa.P
open Go.RowKit Go.Proofs.YtibahnmljafkdaaW.PrintWords Go.Proofs.YtibahnmljafkdaaW.PrintLast
set_option linter.unusedVariables false
set_option linter.unusedSimpArgs false
theorem joined_l1 (a b : List Int) (ha : a.length ≤ 1000000000000000) (hb : b.length ≤ 1000000000000000) (i : Nat) (hi : i < a.length) (r : Bool) (hr : Ev (fun k => spec_l06Joined.l0 k a b ((i + 1 : Nat) : Int)) r) :
 ∀ (d j : Nat), j + d = b.length → Ev (fun k => spec_l06Joined.l1 k a b (i : Int) (j : Int)) (decide (rd a (i : Int) ∈ b.drop j) || r) := by
 intro d
 induction d with
 | zero =>
  intro j hj
  refine Ev.step (fun k => by rw [spec_l06Joined.l1]) ?_
  simp only [if_neg (show ¬ ((j : Int) < (b.length : Int)) by omega), wr1 i a.length hi ha]
  rw [List.drop_of_length_le (by omega)]
  simpa using hr
 | succ d ih =>
  intro j hj
  refine Ev.step (fun k => by rw [spec_l06Joined.l1]) ?_
  simp only [if_pos (show (j : Int) < (b.length : Int) by omega), if_pos (show (0 : Int) ≤ (j : Int) by omega), if_pos (show (0 : Int) ≤ (i : Int) by omega), if_pos (show (i : Int) < (a.length : Int) by omega), wr1 j b.length (by omega) hb]
  rw [rd_drop b j (by omega)]
  by_cases he : rd a (i : Int) = rd b (j : Int)
  · simp only [if_pos he]; exact ev_val (by simp [he])
  · simp only [if_neg he]
    have := ih (j + 1) (by omega)
    simpa [he] using this
theorem joined_l0 (a b : List Int) (ha : a.length ≤ 1000000000000000) (hb : b.length ≤ 1000000000000000) : ∀ (d i : Nat), i + d = a.length → Ev (fun k => spec_l06Joined.l0 k a b (i : Int)) (joinB (a.drop i) b) := by
 intro d
 induction d with
 | zero =>
  intro i hi
  refine Ev.step (fun k => by rw [spec_l06Joined.l0]) ?_
  simp only [if_neg (show ¬ ((i : Int) < (a.length : Int)) by omega)]
  rw [List.drop_of_length_le (by omega)]
  exact ev_val rfl
 | succ d ih =>
  intro i hi
  refine Ev.step (fun k => by rw [spec_l06Joined.l0]) ?_
  simp only [if_pos (show (i : Int) < (a.length : Int) by omega)]
  have := joined_l1 a b ha hb i (by omega) _ (ih (i + 1) (by omega)) b.length 0 (by omega)
  rw [rd_drop a i (by omega)]
  simpa [joinB] using this
theorem ev_joined (a b : List Int) (ha : a.length ≤ 1000000000000000) (hb : b.length ≤ 1000000000000000) : Ev (fun k => spec_l06Joined.f k a b) (joinB a b) := by
 have := joined_l0 a b ha hb a.length 0 (by omega)
 simpa [spec_l06Joined.f] using this
theorem wrn (x : Int) (h0 : 0 ≤ x) (h : x ≤ 1000000000000000) : wrap64 x = x := by unfold wrap64; omega
theorem edges_eq (legs : List Int) (forks : List (List Int)) (i : Nat) (hi : i < legs.length + forks.length) (hn : legs.length + forks.length ≤ 1000000) : spec_l06Edges.f legs forks (i : Int) = some (nodeE legs forks i) := by
 unfold spec_l06Edges.f nodeE
 by_cases h : i < legs.length
 · simp only [if_pos (show (i : Int) < (legs.length : Int) by omega), if_pos (show (0 : Int) ≤ (i : Int) by omega), if_pos h]
 · have e1 : wrap64 ((i : Int) - (legs.length : Int)) = ((i - legs.length : Nat) : Int) := by rw [wrn _ (by omega) (by omega)]; omega
   simp only [if_neg (show ¬ (i : Int) < (legs.length : Int) by omega), if_neg h, e1, if_pos (show (0 : Int) ≤ ((i - legs.length : Nat) : Int) by omega), if_pos (show ((i - legs.length : Nat) : Int) < (forks.length : Int) by omega)]
   rfl
theorem nodeE_len {legs : List Int} {forks : List (List Int)} (h : ∀ f ∈ forks, f.length ≤ 1000) (i : Nat) : (nodeE legs forks i).length ≤ 1000 := by
 unfold nodeE
 by_cases h1 : i < legs.length
 · rw [if_pos h1]; simp
 · rw [if_neg h1]
   by_cases h2 : i - legs.length < forks.length
   · exact h _ (rdR_mem forks _ h2)
   · have : rdR forks ((i - legs.length : Nat) : Int) = [] := by
      unfold rdR
      rw [List.getD_eq_getElem?_getD, List.getElem?_eq_none (by simp; omega)]; rfl
     rw [this]; simp
def sumN (n : Nat) (f : Nat → Nat) : Nat := match n with
 | 0 => 0
 | n + 1 => sumN n f + f n
theorem sumN_le : ∀ (n : Nat) (f g : Nat → Nat), (∀ i, i < n → f i ≤ g i) → sumN n f ≤ sumN n g
 | 0, f, g, _ => Nat.le_refl _
 | n + 1, f, g, h => by
  have h1 := sumN_le n f g (fun i hi => h i (by omega))
  have h2 := h n (by omega)
  simp only [sumN]; omega
theorem sumN_lt : ∀ (n : Nat) (f g : Nat → Nat) (a : Nat), a < n → (∀ i, i < n → f i ≤ g i) → f a < g a → sumN n f < sumN n g
 | 0, f, g, a, ha, _, _ => by omega
 | n + 1, f, g, a, ha, h, hlt => by
  simp only [sumN]
  by_cases hn : a = n
  · subst hn
    have h1 := sumN_le a f g (fun i hi => h i (by omega))
    omega
  · have h1 := sumN_lt n f g a (by omega) (fun i hi => h i (by omega)) hlt
    have h2 := h n (by omega)
    omega
def labS (n : Nat) (c : List Int) : Nat := sumN n fun i => (rd c (i : Int)).toNat
def Own (n : Nat) (E : List (Nat × Nat)) (c : List Int) : Prop := Mid n E c (fun _ => False) c
theorem mn_min (a b : Int) : mn a b = min a b := by unfold mn; split <;> omega
theorem Own.step {n : Nat} {E : List (Nat × Nat)} {c : List Int} (h : Own n E c) (hE : EdgesOk n E) {i j : Nat} (hij : i ≠ j) (hl : Link E i j) (hne : rd c (i : Int) ≠ rd c (j : Int)) :
 Own n E ((c.set i (mn (rd c (i : Int)) (rd c (j : Int)))).set j (mn (rd c (i : Int)) (rd c (j : Int)))) ∧ labS n ((c.set i (mn (rd c (i : Int)) (rd c (j : Int)))).set j (mn (rd c (i : Int)) (rd c (j : Int)))) < labS n c := by
 have hlt := hl.lt hE
 rw [mn_min]
 have h1 : Mid n E c (fun _ => False) ((c.set i (min (rd c (i : Int)) (rd c (j : Int)))).set j (min (rd c (i : Int)) (rd c (j : Int)))) := by
  rcases hl with hl | hl
  · exact Mid.step h hE hl (fun p hp => hp.elim)
  · have := Mid.step (met' := fun _ => False) h hE hl (fun p hp => hp.elim)
    rw [List.set_comm _ _ hij.symm, Int.min_comm] at this
    exact this
 have hlen : c.length = n := h.len
 have hri : rd ((c.set i (min (rd c (i : Int)) (rd c (j : Int)))).set j (min (rd c (i : Int)) (rd c (j : Int)))) (i : Int) = min (rd c (i : Int)) (rd c (j : Int)) := by
  rw [rd_set _ _ _ _ (by simp; omega), if_neg hij, rd_set _ _ _ _ (by omega), if_pos rfl]
 have hrj : rd ((c.set i (min (rd c (i : Int)) (rd c (j : Int)))).set j (min (rd c (i : Int)) (rd c (j : Int)))) (j : Int) = min (rd c (i : Int)) (rd c (j : Int)) := by
  rw [rd_set _ _ _ _ (by simp; omega), if_pos rfl]
 refine ⟨⟨h1.len, h1.own, fun _ _ => Int.le_refl _, fun _ h => h.elim⟩, ?_⟩
 obtain ⟨a, ea, _, _⟩ := h.own i hlt.1
 obtain ⟨b, eb, _, _⟩ := h.own j hlt.2
 have hle : ∀ k, k < n → (rd ((c.set i (min (rd c (i : Int)) (rd c (j : Int)))).set j (min (rd c (i : Int)) (rd c (j : Int)))) (k : Int)).toNat ≤ (rd c (k : Int)).toNat := fun k hk => by
  have := h1.le k hk
  omega
 by_cases hab : rd c (i : Int) < rd c (j : Int)
 · refine sumN_lt n _ _ j hlt.2 hle ?_
   simp only [hrj]; omega
 · refine sumN_lt n _ _ i hlt.1 hle ?_
   simp only [hri]; omega
theorem ups_snoc (i : Nat) : ups i ++ [(i : Int)] = ups (i + 1) := by simp [ups, List.range_succ]
theorem ups_len (i : Nat) : (ups i).length = i := by simp [ups]
section
variable (legs : List Int) (forks : List (List Int)) (hn : legs.length + forks.length ≤ 1000) (hf : ∀ f ∈ forks, f.length ≤ 1000) (hv : ∀ p ∈ webM legs forks, p.2.length = 2)
include hn hf hv
def PassI (legs : List Int) (forks : List (List Int)) (c0 c : List Int) (ch : Bool) (i j : Nat) : Prop :=
 Own (legs.length + forks.length) (edgesM (webM legs forks)) c ∧ ((ch = true ∧ labS (legs.length + forks.length) c < labS (legs.length + forks.length) c0) ∨ (ch = false ∧ c = c0 ∧ ∀ i' j', j' < i' → (i' < i ∨ (i' = i ∧ j' < j)) → joinB (nodeE legs forks i') (nodeE legs forks j') = true → rd c0 (i' : Int) = rd c0 (j' : Int)))
theorem parts_l3 (r : List Int) (c0 : List Int) (i : Nat) (hi : i < legs.length + forks.length)
 (next : ∀ c ch, PassI legs forks c0 c ch (i + 1) 0 → Ev (fun k => spec_l06Parts.l2 k c ch ((i + 1 : Nat) : Int) legs forks) r) :
 ∀ (d j : Nat) (c : List Int) (ch : Bool), j + d = i → PassI legs forks c0 c ch i j → Ev (fun k => spec_l06Parts.l3 k c ch (i : Int) (j : Int) legs forks) r := by
 have hE := edgesM_ok legs forks hv
 intro d
 induction d with
 | zero =>
  intro j c ch hj hp
  refine Ev.step (fun k => by rw [spec_l06Parts.l3]) ?_
  simp only [if_neg (show ¬ ((j : Int) < (i : Int)) by omega), wr1 i (legs.length + forks.length) hi (by omega)]
  refine next c ch ⟨hp.1, ?_⟩
  rcases hp.2 with h | ⟨h1, h2, h3⟩
  · exact .inl h
  · exact .inr ⟨h1, h2, fun i' j' h4 h5 h6 => h3 i' j' h4 (by omega) h6⟩
 | succ d ih =>
  intro j c ch hj hp
  have hlen : c.length = legs.length + forks.length := hp.1.len
  refine Ev.step (fun k => by rw [spec_l06Parts.l3]) ?_
  simp only [if_pos (show ((j : Int) < (i : Int)) by omega), if_pos (show (0 : Int) ≤ (i : Int) by omega), if_pos (show (i : Int) < (c.length : Int) by omega), if_pos (show (0 : Int) ≤ (j : Int) by omega), if_pos (show (j : Int) < (c.length : Int) by omega), wr1 j i (by omega) (by omega), edges_eq legs forks i (by omega) (by omega), edges_eq legs forks j (by omega) (by omega), Option.bind_some, Int.toNat_natCast]
  have skip : (joinB (nodeE legs forks i) (nodeE legs forks j) = true → rd c (i : Int) = rd c (j : Int)) → PassI legs forks c0 c ch i (j + 1) := fun hsk => by
   refine ⟨hp.1, ?_⟩
   rcases hp.2 with h | ⟨h1, h2, h3⟩
   · exact .inl h
   · refine .inr ⟨h1, h2, fun i' j' h4 h5 h6 => ?_⟩
     by_cases h7 : i' = i ∧ j' = j
     · obtain ⟨rfl, rfl⟩ := h7
       rw [← h2]; exact hsk h6
     · exact h3 i' j' h4 (by omega) h6
  by_cases he : rd c (i : Int) = rd c (j : Int)
  · simp only [if_pos he]
    exact ih (j + 1) c ch (by omega) (skip (fun _ => he))
  · simp only [if_neg he]
    refine Ev.bind (ev_joined _ _ (by have := nodeE_len hf (legs := legs) i; omega) (by have := nodeE_len hf (legs := legs) j; omega)) ?_
    cases hb : joinB (nodeE legs forks i) (nodeE legs forks j) with
    | false =>
     simp only [Bool.false_eq_true, if_false]
     exact ih (j + 1) c ch (by omega) (skip (fun h => by rw [hb] at h; cases h))
    | true =>
     simp only [if_true]
     obtain ⟨h1, h2⟩ := Own.step hp.1 hE (show i ≠ j by omega) (link_of_joined hv (by omega) (by omega) (by omega) hb) he
     refine ih (j + 1) _ true (by omega) ⟨h1, .inl ⟨rfl, ?_⟩⟩
     rcases hp.2 with ⟨_, h⟩ | ⟨_, h, _⟩
     · omega
     · rw [← h]; exact h2
theorem parts_l2 (r : List Int) (c0 : List Int)
 (next : ∀ c ch, PassI legs forks c0 c ch (legs.length + forks.length) 0 → Ev (fun k => spec_l06Parts.l1 k c ch legs forks) r) :
 ∀ (d i : Nat) (c : List Int) (ch : Bool), i + d = legs.length + forks.length → PassI legs forks c0 c ch i 0 → Ev (fun k => spec_l06Parts.l2 k c ch (i : Int) legs forks) r := by
 intro d
 induction d with
 | zero =>
  intro i c ch hi hp
  have hlen : c.length = legs.length + forks.length := hp.1.len
  obtain rfl : i = legs.length + forks.length := by omega
  refine Ev.step (fun k => by rw [spec_l06Parts.l2]) ?_
  simp only [if_neg (show ¬ (((legs.length + forks.length : Nat) : Int) < (c.length : Int)) by omega)]
  exact next c ch hp
 | succ d ih =>
  intro i c ch hi hp
  have hlen : c.length = legs.length + forks.length := hp.1.len
  refine Ev.step (fun k => by rw [spec_l06Parts.l2]) ?_
  simp only [if_pos (show ((i : Int) < (c.length : Int)) by omega)]
  exact parts_l3 legs forks hn hf hv r c0 i (by omega) (fun c ch h => ih (i + 1) c ch (by omega) h) i 0 c ch (by omega) hp
theorem parts_l1 : ∀ (S : Nat) (c : List Int), Own (legs.length + forks.length) (edgesM (webM legs forks)) c → labS (legs.length + forks.length) c < S → Ev (fun k => spec_l06Parts.l1 k c true legs forks) (partsC (legs.length + forks.length) (edgesM (webM legs forks))) := by
 have hE := edgesM_ok legs forks hv
 intro S
 induction S with
 | zero => intro c _ h; omega
 | succ S ih =>
  intro c hown hS
  refine Ev.step (fun k => by rw [spec_l06Parts.l1]) ?_
  simp only [if_true]
  refine parts_l2 legs forks hn hf hv _ c (fun c' ch' hp => ?_) (legs.length + forks.length) 0 c false (by omega) ⟨hown, .inr ⟨rfl, rfl, fun i' j' _ h => by omega⟩⟩
  rcases hp.2 with ⟨rfl, h⟩ | ⟨rfl, h1, h2⟩
  · exact ih c' hp.1 (by omega)
  · refine Ev.step (fun k => by rw [spec_l06Parts.l1]) ?_
    simp only [Bool.false_eq_true, if_false]
    subst h1
    refine ev_val (IsParts.unique hE ⟨hown.len, hown.own, fun a b hab => ?_⟩ (partsC_is hE))
    have hlt := hab.lt hE
    have hj : joinB (nodeE legs forks a) (nodeE legs forks b) = true := by
     rcases hab with h | h
     · exact joined_of_edge hv h
     · rw [joinB_symm]; exact joined_of_edge hv h
    rcases Nat.lt_trichotomy a b with h | h | h
    · exact (h2 b a h (.inl hlt.2) (by rw [joinB_symm]; exact hj)).symm
    · rw [h]
    · exact h2 a b h (.inl hlt.1) hj
theorem parts_l0 : ∀ (d i : Nat), i + d = legs.length + forks.length → Ev (fun k => spec_l06Parts.l0 k (legs.length : Int) (ups i) (i : Int) legs forks) (partsC (legs.length + forks.length) (edgesM (webM legs forks))) := by
 have e1 : wrap64 ((legs.length : Int) + (forks.length : Int)) = ((legs.length + forks.length : Nat) : Int) := by rw [wrn _ (by omega) (by omega)]; omega
 intro d
 induction d with
 | zero =>
  intro i hi
  refine Ev.step (fun k => by rw [spec_l06Parts.l0]) ?_
  simp only [e1, if_neg (show ¬ ((i : Int) < ((legs.length + forks.length : Nat) : Int)) by omega)]
  obtain rfl : i = legs.length + forks.length := by omega
  have h := Mid.start (Lab.start (legs.length + forks.length) (edgesM (webM legs forks)))
  exact parts_l1 legs forks hn hf hv _ (ups (legs.length + forks.length)) h (Nat.lt_succ_self _)
 | succ d ih =>
  intro i hi
  refine Ev.step (fun k => by rw [spec_l06Parts.l0]) ?_
  simp only [e1, if_pos (show ((i : Int) < ((legs.length + forks.length : Nat) : Int)) by omega), ups_len, if_pos (show i < 17592186044416 by omega), ups_snoc, wr1 i (legs.length + forks.length) (by omega) (by omega)]
  exact ih (i + 1) (by omega)
theorem ev_parts : Ev (fun k => spec_l06Parts.f k legs forks) (partsC (legs.length + forks.length) (edgesM (webM legs forks))) := by
 have := parts_l0 legs forks hn hf hv (legs.length + forks.length) 0 (by omega)
 unfold spec_l06Parts.f
 simpa [ups] using this
end
theorem wtwice_l2 (l : List Int) (hn : l.length ≤ 1000000000000000) (j : Nat) (hj : j < l.length) (r : Bool) (hr : (l.count (rd l (j : Int)) : Int) = 2 → 0 ≤ rd l (j : Int) ∧ rd l (j : Int) ≤ 1000 → Ev (fun k => spec_l06Twice.l1 k l ((j + 1 : Nat) : Int)) r) (hr' : ¬ ((l.count (rd l (j : Int)) : Int) = 2 ∧ 0 ≤ rd l (j : Int) ∧ rd l (j : Int) ≤ 1000) → r = false) :
 ∀ (d i : Nat), i + d = l.length → Ev (fun k => spec_l06Twice.l2 k l (j : Int) (((l.take i).count (rd l (j : Int)) : Nat) : Int) (i : Int)) r := by
 intro d
 induction d with
 | zero =>
  intro i hi
  refine Ev.step (fun k => by rw [spec_l06Twice.l2]) ?_
  simp only [if_neg (show ¬ ((i : Int) < (l.length : Int)) by omega)]
  rw [List.take_of_length_le (by omega)]
  by_cases h2 : (l.count (rd l (j : Int)) : Int) = 2
  · simp only [if_pos h2, if_pos (show (0 : Int) ≤ (j : Int) by omega), if_pos (show (j : Int) < (l.length : Int) by omega), wr1 j l.length hj hn, spec_l01In.f]
    by_cases h3 : 0 ≤ rd l (j : Int)
    · simp only [if_pos (show rd l (j : Int) ≥ 0 from h3), Option.bind_some]
      by_cases h4 : rd l (j : Int) ≤ 1000
      · simp only [h4, decide_true, if_true]; exact hr h2 ⟨h3, h4⟩
      · simp only [h4, decide_false, Bool.false_eq_true, if_false]; exact ev_val (hr' (fun h => h4 h.2.2)).symm
    · simp only [if_neg (show ¬ rd l (j : Int) ≥ 0 from h3), Option.bind_some, Bool.false_eq_true, if_false]; exact ev_val (hr' (fun h => h3 h.2.1)).symm
  · simp only [if_neg h2]; exact ev_val (hr' (fun h => h2 h.1)).symm
 | succ d ih =>
  intro i hi
  have hc : (l.take i).count (rd l (j : Int)) ≤ i := Nat.le_trans List.count_le_length (by simp; omega)
  have hs : (l.take (i + 1)).count (rd l (j : Int)) = (l.take i).count (rd l (j : Int)) + if rd l (i : Int) = rd l (j : Int) then 1 else 0 := by
   rw [take_succ_rd l i (by omega), List.count_append, List.count_singleton]
   by_cases he : rd l (i : Int) = rd l (j : Int) <;> simp [he]
  refine Ev.step (fun k => by rw [spec_l06Twice.l2]) ?_
  simp only [if_pos (show (i : Int) < (l.length : Int) by omega), if_pos (show (0 : Int) ≤ (i : Int) by omega), if_pos (show (0 : Int) ≤ (j : Int) by omega), if_pos (show (j : Int) < (l.length : Int) by omega), wr1 i l.length (by omega) hn]
  by_cases he : rd l (i : Int) = rd l (j : Int)
  · simp only [if_pos he, wr1 ((l.take i).count (rd l (j : Int))) l.length (by omega) hn]
    have := ih (i + 1) (by omega)
    rw [hs, if_pos he] at this
    exact this
  · simp only [if_neg he]
    have := ih (i + 1) (by omega)
    rw [hs, if_neg he] at this
    exact this
def okL (l : List Int) (x : Int) : Bool := decide (l.count x = 2) && (decide (0 ≤ x) && decide (x ≤ 1000))
theorem wtwice_l1 (l : List Int) (hn : l.length ≤ 1000000000000000) : ∀ (d i : Nat), i + d = l.length → Ev (fun k => spec_l06Twice.l1 k l (i : Int)) ((l.drop i).all (okL l)) := by
 intro d
 induction d with
 | zero =>
  intro i hi
  refine Ev.step (fun k => by rw [spec_l06Twice.l1]) ?_
  simp only [if_neg (show ¬ ((i : Int) < (l.length : Int)) by omega)]
  refine ev_val ?_
  rw [List.drop_of_length_le (by omega)]
  rfl
 | succ d ih =>
  intro i hi
  refine Ev.step (fun k => by rw [spec_l06Twice.l1]) ?_
  simp only [if_pos (show (i : Int) < (l.length : Int) by omega)]
  have h1 := ih (i + 1) (by omega)
  have := wtwice_l2 l hn i (by omega) ((l.drop i).all (okL l)) (fun h2 h3 => by
   rw [rd_drop l i (by omega), List.all_cons]
   have : okL l (rd l (i : Int)) = true := by simp [okL]; omega
   rw [this, Bool.true_and]; exact h1) (fun h2 => by
   rw [rd_drop l i (by omega), List.all_cons]
   have : okL l (rd l (i : Int)) = false := by
    cases hb : okL l (rd l (i : Int)) with
    | false => rfl
    | true =>
     simp only [okL, Bool.and_eq_true, decide_eq_true_eq] at hb
     exact absurd ⟨by omega, hb.2.1, hb.2.2⟩ h2
   rw [this, Bool.false_and]) l.length 0 (by omega)
  simpa using this
theorem drop_cons_R (l : List (List Int)) (i : Nat) (h : i < l.length) : l.drop i = rd_L1 l (i : Int) :: l.drop (i + 1) := by
 rw [List.drop_eq_getElem_cons h]
 simp [rd_L1, List.getD_eq_getElem?_getD, List.getElem?_eq_getElem h]
theorem wtwice_l0 (legs : List Int) (forks : List (List Int)) (hn : legs.length + forks.length ≤ 1000) : ∀ (d i : Nat) (acc : List Int), i + d = forks.length → acc.length + 3 * d ≤ 100000 →
 Ev (fun k => spec_l06Twice.l0 k acc (i : Int) legs forks) (if (forks.drop i).any not3 then false else (acc ++ (forks.drop i).flatten).all (okL (acc ++ (forks.drop i).flatten))) := by
 intro d
 induction d with
 | zero =>
  intro i acc hi ha
  refine Ev.step (fun k => by rw [spec_l06Twice.l0]) ?_
  simp only [if_neg (show ¬ ((i : Int) < (forks.length : Int)) by omega)]
  rw [List.drop_of_length_le (by omega)]
  have := wtwice_l1 acc (by omega) acc.length 0 (by omega)
  simpa using this
 | succ d ih =>
  intro i acc hi ha
  refine Ev.step (fun k => by rw [spec_l06Twice.l0]) ?_
  simp only [if_pos (show ((i : Int) < (forks.length : Int)) by omega), if_pos (show (0 : Int) ≤ (i : Int) by omega), wr1 i forks.length (by omega) (by omega)]
  rw [drop_cons_R forks i (by omega)]
  by_cases h3 : ((rd_L1 forks (i : Int)).length : Int) = 3
  · have hb : not3 (rd_L1 forks (i : Int)) = false := by simp [not3, h3]
    simp only [if_pos h3, if_pos (show acc.length + (rd_L1 forks (i : Int)).length < 17592186044416 by omega), List.any_cons, hb, Bool.false_or, List.flatten_cons]
    have := ih (i + 1) (acc ++ rd_L1 forks (i : Int)) (by omega) (by simp; omega)
    rw [List.append_assoc] at this
    exact this
  · have hb : not3 (rd_L1 forks (i : Int)) = true := by simp [not3, h3]
    simp only [if_neg h3, List.any_cons, hb, Bool.true_or, if_true]
    exact Ev.now _
theorem ev_wtwice (legs : List Int) (forks : List (List Int)) (hn : legs.length + forks.length ≤ 1000) : Ev (fun k => spec_l06Twice.f k legs forks) (if forks.any not3 then false else (allE legs forks).all (okL (allE legs forks))) := by
 unfold spec_l06Twice.f spec_l01Own.f
 simp only [Option.bind_some, List.length_nil, if_pos (show 0 + legs.length < 17592186044416 by omega), List.nil_append]
 have := wtwice_l0 legs forks hn forks.length 0 legs (by omega) (by omega)
 simpa [allE] using this
theorem webIs_l0 (parts : List Int) (legs : List Int) (forks : List (List Int)) (hn : parts.length ≤ 1000000) : ∀ (d i : Nat), i + d = parts.length → Ev (fun k => spec_l06Is.l0 k parts (i : Int) legs forks) (!(parts.drop i).any fun x => decide ((legs.length : Int) ≤ x)) := by
 intro d
 induction d with
 | zero =>
  intro i hi
  refine Ev.step (fun k => by rw [spec_l06Is.l0]) ?_
  simp only [if_neg (show ¬ ((i : Int) < (parts.length : Int)) by omega)]
  rw [List.drop_of_length_le (by omega)]
  exact ev_val rfl
 | succ d ih =>
  intro i hi
  refine Ev.step (fun k => by rw [spec_l06Is.l0]) ?_
  simp only [if_pos (show ((i : Int) < (parts.length : Int)) by omega), if_pos (show (0 : Int) ≤ (i : Int) by omega), wr1 i parts.length (by omega) (by omega)]
  rw [rd_drop parts i (by omega), List.any_cons]
  by_cases h : (legs.length : Int) ≤ rd parts (i : Int)
  · simp only [if_pos (show rd parts (i : Int) ≥ (legs.length : Int) from h), h, decide_true, Bool.true_or, Bool.not_true]; exact Ev.now _
  · simp only [if_neg (show ¬ rd parts (i : Int) ≥ (legs.length : Int) from h), h, decide_false, Bool.false_or]; exact ih (i + 1) (by omega)
theorem ev_webIs (legs : List Int) (forks : List (List Int)) (h0 : legs.length ≤ 1000000000000) (h1 : forks.length ≤ 1000000000000) : Ev (fun k => spec_l06Is.f k legs forks) (isWebB legs forks) := by
 have e1 : wrap64 ((legs.length : Int) + (forks.length : Int)) = ((legs.length + forks.length : Nat) : Int) := by rw [wrn _ (by omega) (by omega)]; omega
 unfold spec_l06Is.f isWebB
 rw [e1]
 by_cases hn : legs.length + forks.length ≤ 8
 · simp only [if_neg (show ¬ (((legs.length + forks.length : Nat) : Int) > 8) by omega), hn, decide_true, Bool.true_and]
   refine Ev.bind (ev_wtwice legs forks (by omega)) ?_
   cases h3 : forks.any not3 with
   | true =>
    simp only [if_true, Bool.not_false, Bool.not_true, Bool.false_and]
    refine Ev.step (fun k => by rw [spec_l06Is.j0]) ?_
    simp only [if_true]
    exact Ev.now _
   | false =>
    simp only [Bool.false_eq_true, if_false, Bool.not_false, Bool.true_and]
    rw [all_ok]
    have e2 : (allE legs forks).all (okE legs forks) = (allE legs forks).all (okL (allE legs forks)) := rfl
    rw [← e2]
    cases h4 : (allE legs forks).all (okE legs forks) with
    | false =>
     simp only [Bool.not_false, Bool.false_and]
     refine Ev.step (fun k => by rw [spec_l06Is.j0]) ?_
     simp only [if_true]
     exact Ev.now _
    | true =>
     simp only [Bool.not_true, Bool.true_and]
     refine Ev.step (fun k => by rw [spec_l06Is.j0]) ?_
     simp only [Bool.false_eq_true, if_false]
     have hv : ∀ p ∈ webM legs forks, p.2.length = 2 := fun p hp => by
      have h5 := all_ok legs forks
      rw [h4, List.all_eq_true] at h5
      have := h5 p hp
      simp only [okEnd, Bool.and_eq_true, decide_eq_true_eq] at this
      exact this.2
     have hf : ∀ f ∈ forks, f.length ≤ 1000 := fun f hf => by
      rw [List.any_eq_false] at h3
      have := h3 f hf
      simp [not3] at this
      omega
     refine Ev.bind (ev_parts legs forks (by omega) hf hv) ?_
     have hl : (partsC (legs.length + forks.length) (edgesM (webM legs forks))).length = legs.length + forks.length := (partsC_is (edgesM_ok legs forks hv)).len
     have := webIs_l0 (partsC (legs.length + forks.length) (edgesM (webM legs forks))) legs forks (by omega) _ 0 (Nat.zero_add _)
     simpa using this
 · simp only [if_pos (show (((legs.length + forks.length : Nat) : Int) > 8) by omega), hn, decide_false, Bool.false_and]
   refine Ev.step (fun k => by rw [spec_l06Is.j0]) ?_
   simp only [if_true]
   exact Ev.now _
end Go.Proofs.Ytibahnmljafkdaa.P
