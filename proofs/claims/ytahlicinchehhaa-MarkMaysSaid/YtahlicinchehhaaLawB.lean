/- Plain laws: the verdicts of all owners. -/
import Derived.Test.YtahlicinchehhaaLawA
import Derived.Test.YtahlicinchehhaaVerdict
import Derived.Test.YtahlicinchehhaaKitB
namespace Go.Proofs.Ytahlicinchehhaa
set_option linter.unusedVariables false
set_option linter.unusedSimpArgs false

theorem mayTo_prefix (t : Int) (l : List Mk) (s : Sg) : ∀ {k n : Nat}, k ≤ n → mayTo t l s k <+: mayTo t l s n := by
  intro k n h
  unfold mayTo
  obtain ⟨d, rfl⟩ := Nat.le.dest h
  refine ⟨(((List.range' k d).filter fun i => (l[i]?).any fun m => fits s m t).map Int.ofNat), ?_⟩
  rw [← List.map_append, ← List.filter_append, List.range_eq_range', List.range_eq_range']
  have h := List.range'_append_1 (s := 0) (m := k) (n := d)
  rw [Nat.zero_add] at h
  rw [h]
theorem mayL_iff {t : Int} {l : List Mk} {s : Sg} {o : Nat} {m : Mk} (hm : l[o]? = some m) : (o : Int) ∈ mayL t l s ↔ fits s m t = true := by
  refine ⟨fun h => ?_, mem_mayL hm⟩
  unfold mayL mayTo at h
  obtain ⟨i, hi, he⟩ := List.mem_map.1 h
  have : i = o := by have he' : (i : Int) = (o : Int) := he; omega
  subst this
  have := (List.mem_filter.1 hi).2
  rw [hm] at this
  simpa using this
/-- what the walk of MarkSure asks at the owner k -/
theorem sure_law {t : Int} {l : List Mk} {s : Sg} {k : Nat} (hE : mayE t l s = 0) (hk : k < l.length) :
    verE t l s k = 0 ∧ mayR t l s = mayL t l s ∧
    ((verV t l s k = 2 ∧ placeI (mayL t l s) k < 0 ∧ ¬ mayL t l s = [(k : Int)] ∧ (mayTo t l s (k + 1)).length = (mayTo t l s k).length) ∨
     ((verV t l s k = 1 ∧ mayL t l s = [(k : Int)] ∨ verV t l s k = 3 ∧ ¬ mayL t l s = [(k : Int)]) ∧ ¬ placeI (mayL t l s) k < 0 ∧ (mayL t l s)[(mayTo t l s k).length]? = some (k : Int) ∧ (mayTo t l s (k + 1)).length = (mayTo t l s k).length + 1)) := by
  have hm : l[k]? = some l[k] := List.getElem?_eq_getElem hk
  have hv : verE t l s k = 0 := by
    unfold verE
    rw [if_neg (by simp [hE]), ownerE_one]
    omega
  refine ⟨hv, by unfold mayR; rw [if_pos hE], ?_⟩
  have hvv : verV t l s k = verL (mayL t l s) k := by unfold verV; rw [if_neg (by simp [hv])]
  have hs := mayTo_succ (t := t) (s := s) hm
  rw [hvv, placeI_neg]
  cases hf : fits s l[k] t
  · have hn : (k : Int) ∉ mayL t l s := fun h => by rw [mayL_iff hm, hf] at h; cases h
    refine .inl ⟨?_, hn, fun h => hn (by rw [h]; simp), ?_⟩
    · unfold verL
      have : (mayL t l s).contains (k : Int) = false := by rw [List.contains_eq_mem, decide_eq_false hn]
      rw [this]; rfl
    · rw [hs, hf]; simp
  · have hn : (k : Int) ∈ mayL t l s := (mayL_iff hm).2 hf
    have hc : (mayL t l s).contains (k : Int) = true := by rw [List.contains_eq_mem, decide_eq_true hn]
    refine .inr ⟨?_, fun h => h hn, ?_, ?_⟩
    · unfold verL
      rw [hc]
      simp only [if_true]
      by_cases h1 : (mayL t l s).length = 1
      · rw [if_pos h1]
        refine .inl ⟨rfl, ?_⟩
        obtain ⟨x, hx⟩ := List.length_eq_one_iff.1 h1
        rw [hx] at hn ⊢
        rw [List.mem_singleton.1 hn]
      · rw [if_neg h1]
        exact .inr ⟨rfl, fun h => h1 (by rw [h]; rfl)⟩
    · obtain ⟨r, hr⟩ := mayTo_prefix t l s (k := k + 1) (n := l.length) hk
      show (mayTo t l s l.length)[_]? = _
      rw [← hr, hs, hf]
      simp
    · rw [hs, hf]; simp
end Go.Proofs.Ytahlicinchehhaa
