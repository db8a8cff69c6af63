/- The law of 'IsDesk', in plain mathematics. -/
import Derived.Test.YtibahnmljafkdaaCaPureS
import Derived.Test.YtibahnmljafkdaaCaPureParts
import Derived.Test.YtibahnmljafkdaaCaPureSum
import Derived.Test.YtibahnmljafkdaaCaPx1
import Derived.Test.YtibahnmljafkdaaCaPx7
import Derived.Test.YtibahnmljafkdaaCaPx11
import Derived.Test.YtibahnmljafkdaaCaPx6
import Derived.Test.YtibahnmljafkdaaCaPx10
import Derived.Test.YtibahnmljafkdaaCaPx12
namespace Go.Proofs.Ytibahnmljafkdaa.P
open Go.RowKit Go.Proofs.YtibahnmljafkdaaW.PrintWords Go.Proofs.YtibahnmljafkdaaW.PrintLast
set_option linter.unusedVariables false
set_option linter.unusedSimpArgs false
def deskB (word : List Int) (p : Int) (ts : List S80) (legs : List Int) (forks : List (List Int)) : Bool := isWordB word && isSumB p ts && isWebB legs forks
theorem ev_specDesk (word : List Int) (p : Int) (ts : List S80) (legs : List Int) (forks : List (List Int)) (h0 : legs.length ≤ 1000000000000) (h1 : forks.length ≤ 1000000000000) : Ev (fun k => spec_IsDesk.f k word p ts legs forks) (deskB word p ts legs forks) := by
 unfold spec_IsDesk.f deskB
 refine Ev.bind (ev_is word) ?_
 cases isWordB word with
 | false => simp only [Bool.false_eq_true, if_false, Bool.false_and]; exact Ev.now _
 | true =>
  simp only [if_true, Bool.true_and]
  refine Ev.bind (ev_sumIs p ts) ?_
  cases isSumB p ts with
  | false => simp only [Bool.false_eq_true, if_false, Bool.false_and]; exact Ev.now _
  | true =>
   simp only [if_true, Bool.true_and]
   exact Ev.bind (ev_webIs legs forks h0 h1) (Ev.now _)
theorem ev_implDesk (word : List Int) (p : Int) (ts : List S80) (legs : List Int) (forks : List (List Int)) (h0 : legs.length ≤ 1000000000000) (h1 : forks.length ≤ 1000000000000) : Ev (fun k => impl_IsDesk.f k word p ts legs forks) (deskB word p ts legs forks) := by
 unfold impl_IsDesk.f deskB impl_IsWeb.f
 refine Ev.bind (ev_isWord word) ?_
 cases isWordB word with
 | false => simp only [Bool.false_eq_true, if_false, Bool.false_and]; exact Ev.now _
 | true =>
  simp only [if_true, Bool.true_and]
  refine Ev.bind (ev_isSum p ts) ?_
  cases isSumB p ts with
  | false => simp only [Bool.false_eq_true, if_false, Bool.false_and]; exact Ev.now _
  | true =>
   simp only [if_true, Bool.true_and, if_pos (show legs.length ≤ 1000000000000 ∧ forks.length ≤ 1000000000000 from ⟨h0, h1⟩), Option.bind_some]
   exact Ev.now _
theorem szDesk (word : List Int) (p : Int) (ts : List S95) (legs : List Int) (forks : List (List Int)) (hw : word.length ≤ 9223372036854775807) (hts : ts.length ≤ 9223372036854775807) (ht : ∀ t ∈ ts, t.f0.length ≤ 9223372036854775807) (hg : legs.length ≤ 9223372036854775807) (hfs : forks.length ≤ 9223372036854775807) (hf : ∀ f ∈ forks, f.length ≤ 9223372036854775807) :
 ∃ s, Ev (fun k => laws_szDesk.f k word p ts legs forks 1048576) s ∧ (s < 0 ∨ (0 ≤ s ∧ word.length ≤ 1048576 ∧ ts.length ≤ 1048576 ∧ (∀ t ∈ ts, t.f0.length ≤ 1048576) ∧ legs.length ≤ 1048576 ∧ forks.length ≤ 1048576 ∧ ∀ f ∈ forks, f.length ≤ 1048576)) := by
 unfold laws_szDesk.f
 obtain ⟨s0, h2, h3⟩ := szI word 1048576 (by omega) (by omega) hw
 simp only [h2, Option.bind_some]
 rcases h3 with h3 | ⟨h3, h4, h5⟩
 · exact ⟨-1, by simp only [if_pos h3]; exact Ev.now _, .inl (by omega)⟩
 simp only [if_neg (show ¬ s0 < 0 by omega)]
 obtain ⟨s1, h6, h7⟩ := szSum p ts s0 h3 h4 hts ht
 rcases h7 with h7 | ⟨h7, h8, h9, h10⟩
 · exact ⟨-1, Ev.bind h6 (by simp only [if_pos h7]; exact Ev.now _), .inl (by omega)⟩
 obtain ⟨s2, h11, h12⟩ := szWeb legs forks s1 h7 (by omega) hg hfs hf
 rcases h12 with h12 | ⟨h12, h13, h14, h15, h16⟩
 · refine ⟨-1, Ev.bind h6 ?_, .inl (by omega)⟩
   simp only [if_neg (show ¬ s1 < 0 by omega)]
   exact Ev.bind h11 (by simp only [if_pos h12]; exact Ev.now _)
 · refine ⟨s2, Ev.bind h6 ?_, .inr ⟨h12, by omega, by omega, fun t h => ?_, by omega, by omega, fun f h => ?_⟩⟩
   · simp only [if_neg (show ¬ s1 < 0 by omega)]
     exact Ev.bind h11 (by simp only [if_neg (show ¬ s2 < 0 by omega)]; exact Ev.now _)
   · have := h10 t h; omega
   · have := h16 f h; omega
theorem isDesk_true (word : List Int) (p : Int) (ts : List S95) (legs : List Int) (forks : List (List Int)) (hw : word.length ≤ 9223372036854775807) (hts : ts.length ≤ 9223372036854775807) (ht : ∀ t ∈ ts, t.f0.length ≤ 9223372036854775807) (hg : legs.length ≤ 9223372036854775807) (hfs : forks.length ≤ 9223372036854775807) (hf : ∀ f ∈ forks, f.length ≤ 9223372036854775807) :
 Ev (fun k => laws_FnExactIsDesk.f k word p ts legs forks) true := by
 obtain ⟨s, hs, hb⟩ := szDesk word p ts legs forks hw hts ht hg hfs hf
 unfold laws_FnExactIsDesk.f
 refine Ev.bind hs ?_
 rcases hb with hb | ⟨hb, b0, b1, b2, b3, b4, b5⟩
 · simp only [if_pos hb]; exact Ev.now _
 simp only [if_neg (show ¬ s < 0 by omega)]
 have b5' : ∀ f ∈ forks, f.length ≤ 1000000000000 := fun f h => by have := b5 f h; omega
 have hto : Ev (fun k => laws_toDesk.f k word p ts legs forks) (word, p, ts.map conv, legs, forks) := by
  unfold laws_toDesk.f
  refine Ev.bind (ev_toI word (by omega)) ?_
  refine Ev.bind (ev_toSum p ts (by omega) (fun t h => by have := b2 t h; omega)) ?_
  exact Ev.bind (ev_toWeb legs forks (by omega) (by omega) b5') (Ev.now _)
 refine Ev.bind hto ?_
 refine Ev.bind (ev_specDesk _ _ _ _ _ (by simp only; omega) (by simp only; omega)) ?_
 refine Ev.bind hto ?_
 refine Ev.bind (ev_implDesk _ _ _ _ _ (by simp only; omega) (by simp only; omega)) ?_
 simp only [bne_self_eq_false, Bool.false_eq_true, if_false]
 refine Ev.bind hto ?_
 refine Ev.bind (a := true) ?_ ?_
 · unfold laws_eqDesk.f
   refine Ev.bind (ev_eqI word (by omega)) ?_
   simp only [if_true]
   refine Ev.bind (ev_eqSum p (ts.map conv) (by simp; omega) (fun t h => by
    obtain ⟨u, hu, rfl⟩ := List.mem_map.1 h
    have := b2 u hu
    simp only [conv]; omega)) ?_
   simp only [if_true]
   refine Ev.bind (ev_eqWeb legs forks (by omega) (by omega) b5') ?_
   simp only [if_true]
   exact Ev.now _
 · simp only [if_true]; exact Ev.now _
end Go.Proofs.Ytibahnmljafkdaa.P
