/- Apart of two marks. -/
import Derived.Test.YtahlicinchehhaaLawS
import Derived.Test.YtahlicinchehhaaApart
namespace Go.Proofs.Ytahlicinchehhaa
set_option linter.unusedVariables false
set_option linter.unusedSimpArgs false

theorem apart_no {a b : Mk} {t : Int} (hck : check t [a, b] = 0) (h : mixedS a b t = 5) : (apartE t [a, b] 0 1 = 11 ∧ apartV t [a, b] 0 1 = 0) ∧ apartE t [a, b] 1 0 = 11 ∧ apartV t [a, b] 1 0 = 0 := by
  have e01 : apartE t [a, b] 0 1 = 11 := by
    unfold apartE
    rw [if_neg (by rw [hck]; omega), if_neg (by rw [ownerE_two.2 (by simp)]; omega), if_neg (by omega)]
    show (if 4 < mixedS a b t then (11 : Int) else 0) = 11
    rw [if_pos (by omega)]
  have e10 : apartE t [a, b] 1 0 = 11 := by
    unfold apartE
    rw [if_neg (by rw [hck]; omega), if_neg (by rw [ownerE_two.2 (by simp)]; omega), if_neg (by omega)]
    show (if 4 < mixedS b a t then (11 : Int) else 0) = 11
    rw [mixed_comm, if_pos (by omega)]
  exact ⟨⟨e01, by unfold apartV; rw [if_neg (by rw [e01]; omega)]⟩, e10, by unfold apartV; rw [if_neg (by rw [e10]; omega)]⟩
theorem apart_yes {a b : Mk} {t : Int} {q : Nat} (hck : check t [a, b] = 0) (h : mixedS a b t = q) (hq : q ≤ 4) : (apartE t [a, b] 0 1 = 0 ∧ apartV t [a, b] 0 1 = q) ∧ apartE t [a, b] 1 0 = 0 ∧ apartV t [a, b] 1 0 = q := by
  have e01 : apartE t [a, b] 0 1 = 0 := by
    unfold apartE
    rw [if_neg (by rw [hck]; omega), if_neg (by rw [ownerE_two.2 (by simp)]; omega), if_neg (by omega)]
    show (if 4 < mixedS a b t then (11 : Int) else 0) = 0
    rw [if_neg (by omega)]
  have e10 : apartE t [a, b] 1 0 = 0 := by
    unfold apartE
    rw [if_neg (by rw [hck]; omega), if_neg (by rw [ownerE_two.2 (by simp)]; omega), if_neg (by omega)]
    show (if 4 < mixedS b a t then (11 : Int) else 0) = 0
    rw [mixed_comm, if_neg (by omega)]
  refine ⟨⟨e01, ?_⟩, e10, ?_⟩
  · unfold apartV; rw [if_pos e01]; exact h
  · unfold apartV; rw [if_pos e10]; exact (mixed_comm b a t).trans h
end Go.Proofs.Ytahlicinchehhaa
