/- Plain law of the reference's reading: the parts of a string between line feeds, byte by byte; the tests of a line. No program in sight. -/
import Derived.Test.YtoidaigiejilcaaDoorTextM
namespace Go.Proofs.YtoidaigiejilcaaDoor
set_option linter.unusedVariables false
set_option linter.unusedSimpArgs false

/-- the pieces that have been cut off at byte i; f: where the next one begins -/
structure Piec (s : List UInt8) (ps : List (List UInt8)) (f i : Nat) : Prop where
  cut : cutL 10 s = ps ++ cutL 10 (s.drop f)
  fi : f ≤ i
  free : (10 : UInt8) ∉ (s.drop f).take (i - f)
theorem Piec.start (s : List UInt8) : Piec s [] 0 0 := ⟨by simp, Nat.le_refl _, by simp⟩
theorem Piec.skip {s : List UInt8} {ps : List (List UInt8)} {f i : Nat} (h : Piec s ps f i) (hi : i < s.length) (hne : s.getD i 0 ≠ 10) : Piec s ps f (i + 1) := by
  refine ⟨h.cut, by have := h.fi; omega, ?_⟩
  have hfi := h.fi
  rw [show i + 1 - f = (i - f) + 1 by omega, takeS (by rw [List.length_drop]; omega)]
  intro hm
  rcases List.mem_append.1 hm with hm | hm
  · exact h.free hm
  · simp only [List.mem_singleton, List.getElem_drop] at hm
    apply hne
    rw [List.getD_eq_getElem?_getD, List.getElem?_eq_getElem hi, Option.getD_some]
    rw [hm]
    congr 1
    omega
theorem Piec.at_ {s : List UInt8} {ps : List (List UInt8)} {f i : Nat} (h : Piec s ps f i) (hi : i < s.length) (he : s.getD i 0 = 10) : Piec s (ps ++ [(s.drop f).take (i - f)]) (i + 1) (i + 1) := by
  have hfi := h.fi
  refine ⟨?_, Nat.le_refl _, by simp⟩
  have hsplit : s.drop f = (s.drop f).take (i - f) ++ 10 :: s.drop (i + 1) := by
    conv => lhs; rw [← List.take_append_drop (i - f) (s.drop f)]
    congr 1
    rw [List.drop_drop, show f + (i - f) = i by omega, List.drop_eq_getElem_cons hi]
    congr 1
    rw [← he, List.getD_eq_getElem?_getD, List.getElem?_eq_getElem hi, Option.getD_some]
  rw [h.cut]
  conv => lhs; rw [hsplit]
  rw [cutL_app 10 _ _ h.free, List.append_assoc]
  rfl
theorem Piec.end_ {s : List UInt8} {ps : List (List UInt8)} {f : Nat} (h : Piec s ps f s.length) : cutL 10 s = ps ++ [(s.drop f).take (s.length - f)] := by
  have hf := h.free
  have ht : (s.drop f).take (s.length - f) = s.drop f := List.take_of_length_le (by rw [List.length_drop]; omega)
  rw [ht] at hf ⊢
  rw [h.cut, cutL_last 10 _ hf]
end Go.Proofs.YtoidaigiejilcaaDoor
