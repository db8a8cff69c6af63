/- Small laws that the walks of this seat share. -/
import Derived.Test.YtibahnmljafkdaaCdPx0
import Derived.Test.YtibahnmljafkdaaCdMap
import Derived.Maps.OwnSet
import Derived.WalkSpells
namespace Go.Proofs.Ytibahnmljafkdaa.P
open Go.RowKit Go.Maps Go.Proofs.YtibahnmljafkdaaW.PrintWords Go.Proofs.YtibahnmljafkdaaW.PrintLast Go.Proofs.YtibahnmljafkdaaW.PrintMore
set_option linter.unusedVariables false
set_option linter.unusedSimpArgs false
set_option linter.unusedSectionVars false
section
variable {κ : Type} [DecidableEq κ] {α : Type} {d : Kd α} {e base : Nat} {w w1 : World} {ok : Nat → Prop} {v : Value} {xs : List α} {enc : κ → Value} {b : Nat} {kv : List (κ × Value)}
theorem cells_not_map (h : d.R e w base ok v xs) (hm : mapKV w enc b kv) : v.ownBlock ≠ some b := by
 intro hk
 obtain ⟨_, inner, ho, _⟩ := h
 obtain ⟨cells, hc⟩ := own_typed ho b hk
 obtain ⟨es, clock, hb, _⟩ := hm
 rw [hc] at hb
 cases hb
theorem row_of_map (h : d.R e w base ok v xs) (hm : mapKV w enc b kv) (hg : w.grownBy w1 (some b)) : d.R e w1 base ok v xs := by
 refine Kd.R_mono (Kd.R_grown (Kd.R_bound h) hg fun k hk he => ?_) (fun _ hk => hk.1)
 obtain ⟨_, _, _, q, _, cells, hc⟩ := hk
 obtain ⟨es, clock, hb, _⟩ := hm
 cases he
 rw [hc] at hb
 cases hb
theorem map_of_row (hm : mapKV w enc b kv) (h : d.R e w base ok v xs) (hg : w.grownBy w1 v.ownBlock) : mapKV w1 enc b kv := hm.kept hg (Ne.symm (cells_not_map h hm))
end
theorem take_succ_rd (l : List Int) (k : Nat) (h : k < l.length) : l.take (k + 1) = l.take k ++ [rd l (k : Int)] := by
 rw [List.take_succ_eq_append_getElem h]
 simp [rd, List.getD_eq_getElem?_getD, List.getElem?_eq_getElem h]
theorem R_open {α : Type} {d : Kd α} {e base n : Nat} {w : World} {ok : Nat → Prop} {v : Value} {xs : List α} (h : d.R e w base ok v xs) (hn : xs.length = n) : ∃ A c, v = .slice A n c ∧ d.R e w base ok (.slice A n c) xs := by
 obtain ⟨A, c, rfl⟩ := Kd.R_slice h
 subst hn
 exact ⟨A, c, rfl, h⟩
theorem R_block {α : Type} {d : Kd α} {e base n c : Nat} {A : Option Addr} {w : World} {ok : Nat → Prop} {xs : List α} (h : d.R e w base ok (.slice A n c) xs) (hn : 0 < n) : ∃ g, A = some ⟨g, 0, none⟩ ∧ base ≤ g ∧ g < w.heap.size := by
 obtain ⟨rfl, _⟩ := Kd.R_reads' h
 obtain ⟨h0, inner, ho, hr⟩ := h
 have hb := own_base ho
 have hl := own_lt ho
 rcases ho.2 with ⟨he, h1⟩ | ⟨g, cap, cur, he, _⟩
 · omega
 · injection he with ha _ _
   subst ha
   exact ⟨g, rfl, hb g (by simp [Value.ownBlock]), hl g (by simp [Value.ownBlock])⟩
theorem below_of_grown {w w1 : World} (h : w.grownBy w1 none) : Below w.heap.size w w1 := ⟨h.os, h.tape, h.output, h.size, fun k hk => h.block k hk (by simp)⟩
def rdR (xs : List (List Int)) (i : Int) : List Int := xs.getD i.toNat []
theorem take_succ_rdR (l : List (List Int)) (k : Nat) (h : k < l.length) : l.take (k + 1) = l.take k ++ [rdR l (k : Int)] := by
 rw [List.take_succ_eq_append_getElem h]
 simp [rdR, List.getD_eq_getElem?_getD, List.getElem?_eq_getElem h]
theorem rdR_mem (l : List (List Int)) (k : Nat) (h : k < l.length) : rdR l (k : Int) ∈ l := by
 simp [rdR, List.getD_eq_getElem?_getD, List.getElem?_eq_getElem h]
theorem atR {w : World} {A : Option Addr} {n : Nat} {xs : List (List Int)} (h : Kd.C (Kd.slice 2 (Kd.int .i64)) w A n xs) (i : Int) (h0 : 0 ≤ i) (h1 : i < n) :
 ∃ ad A0 c0, A = some ad ∧ w.cell? (ad.add i.toNat) = some (.slice A0 (rdR xs i).length c0) ∧ (rdR xs i).length ≤ c0 ∧ (Kd.int .i64).C w A0 (rdR xs i).length (rdR xs i) := by
 obtain ⟨ad, c, e, _, hK, hc0⟩ := Kd.C_get h ([] : List Int) i h0 h1
 have hc : ∀ j u, c[j]? = some u → w.cell? (ad.add (i.toNat * 1 + j)) = some u := hc0
 obtain ⟨A0, c0, rfl, l0, g0⟩ := hK
 exact ⟨ad, A0, c0, e, by have hq := hc 0 _ rfl; rwa [Nat.mul_one, Nat.add_zero] at hq, l0, g0⟩
theorem intRow_keep {k : IntKind} {e base : Nat} {w w1 : World} {ok : Nat → Prop} {v : Value} {xs : List Int} {row : Option Nat} (h : Kd.R (Kd.int k) e w base ok v xs) (hg : w.grownBy w1 row) (hne : v.ownBlock = none ∨ v.ownBlock ≠ row) : Kd.R (Kd.int k) e w1 base ok v xs := by
 obtain ⟨h0, inner, ho, hr⟩ := h
 exact ⟨h0, inner, own_other ho hg hne, hr⟩
theorem iter_keep {κ : Type} [DecidableEq κ] {k : IntKind} {e base b r : Nat} {w w1 : World} {ok : Nat → Prop} {v : Value} {xs : List Int} {enc : κ → Value} {kv left : List (κ × Value)} (h : Kd.R (Kd.int k) e w base ok v xs) (hr : rangeKV w enc b r kv left) (hg : w.grownBy w1 (some r)) : Kd.R (Kd.int k) e w1 base ok v xs := by
 refine intRow_keep h hg ?_
 cases ho : v.ownBlock with
 | none => exact .inl rfl
 | some j =>
  refine .inr fun he => ?_
  obtain ⟨_, inner, hoo, _⟩ := h
  obtain ⟨cells, hc⟩ := own_typed hoo j ho
  obtain ⟨es, clock, since, seen, cc, _, _, _, hit, _⟩ := hr
  cases he
  rw [hc] at hit
  cases hit
theorem keyI64 : KeyEnc Try.prog 2 (Value.int .i64) := keyEnc_int Try.underlying2
section
variable {ops : Array Oper} {rest : List Oper} {o : Oper} {a : Act} {Q : Exit → Act → World → Prop} {w W : World}
end
end Go.Proofs.Ytibahnmljafkdaa.P
