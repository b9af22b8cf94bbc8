/- mark.Fresh.
   The new mark, told by its place: the first of those with the fewest notches. Plain. -/
import Derived.Test.YtoidaigiejilcaaDoorLeast
import Derived.Test.YtoidaigiejilcaaDoorCheck
namespace Go.Proofs.YtoidaigiejilcaaDoor
open Go.RowKit Go.Shelf
set_option linter.unusedVariables false
set_option linter.unusedSimpArgs false

def freshE (t : Int) (l : List Mk) (los : Int) : Int :=
  if check t l ≠ 0 then check t l else if 5 ≤ l.length then 6 else if btw los 0 4 = false then 1 else if (leastI (freshAll t l los)).isSome then 0 else 11
def freshM (t : Int) (l : List Mk) (los : Int) : Mk := if freshE t l los = 0 then leastV (freshAll t l los) else ⟨0, 0, 0⟩

set_option maxHeartbeats 2000000 in
theorem Fresh_any (t los : Int) (A : Option Addr) (n c : Nat) (l : List Mk) (w : World) (hl : Marks w A n l) (hlc : n ≤ c) (hcm : c ≤ maxLen) :
    Calls Tryd.prog 19 #[.agg #[.int .i64 t, .slice A n c], .int .i64 los] w fun e w' => e = .returned (.tuple #[vMk (freshM t l los), .int .i64 (freshE t l los)]) ∧ Below w.heap.size w w' := by
  have HL := Lib.hid hl
  have HN := Lib.hid hl.len
  have hb0 : Below w.heap.size w ((w.alloc (Obj.cells #[Value.int .i64 t, .slice A n c] 26)).alloc (Obj.cells #[Value.int .i64 0, .int .i64 0, .int .i64 0] 52)) := ((Below.refl _ _).alloc (Nat.le_refl _) _).alloc (by simp) _
  clear hl
  by_cases hck : check t l = 0
  · have h0 : (check t l != 0) = false := by simp [hck]
    have HC := Lib.hid hck
    have hn5 : n ≤ 5 := by have := (check_ok hck).2.2.1; have := HN.out; omega
    clear hck
    by_cases h5 : 5 ≤ n
    · have HE := Lib.hid (show freshE t l los = 6 by unfold freshE; rw [if_neg (by simp [HC.out]), if_pos (by have := HN.out; omega)])
      have h5' : decide ((5 : Int) ≤ (n : Int)) = true := by simp; omega
      go_enter Tryd.func19, Tryd.ntmps19
      go_wp2_with (go_at_call 26; refine (check_any t A n c l _ ((HL.out.alloc _).alloc _) hlc hcm).mono ?_; rintro e w1 ⟨rfl, hb1⟩; obtain ⟨hc1, hf1⟩ := bc hb1; have hz1 := hb1.size; simp at hz1; have g1 : w.heap.size < w1.heap.size := (by omega); have g2 : w.heap.size + 1 < w1.heap.size := (by omega); have HB1 := Lib.hid hb1; clear hb1)
      refine bodyPost_ret (v := .tuple #[vMk ⟨0, 0, 0⟩, .int .i64 6]) (by simp [results, Tryd.f19, go_sem, vMk, g1, g2, hc1]) rfl ?_
      refine ⟨by rw [freshM, HE.out]; rfl, ?_⟩
      exact (((hb0.trans (HB1.out.mono (by simp; omega))).setCell (by dsimp; omega) _).setCell (by dsimp; omega) _).setCell (by dsimp; omega) _
    · have h5' : decide ((5 : Int) ≤ (n : Int)) = false := by simp; omega
      by_cases hbt : btw los 0 4 = false
      · have HE := Lib.hid (show freshE t l los = 1 by unfold freshE; rw [if_neg (by simp [HC.out]), if_neg (by have := HN.out; omega), if_pos hbt])
        go_enter Tryd.func19, Tryd.ntmps19
        go_wp2_with (first
          | (go_at_call 26; refine (check_any t A n c l _ ((HL.out.alloc _).alloc _) hlc hcm).mono ?_; rintro e w1 ⟨rfl, hb1⟩; obtain ⟨hc1, hf1⟩ := bc hb1; have hz1 := hb1.size; simp at hz1; have g1 : w.heap.size < w1.heap.size := (by omega); have g2 : w.heap.size + 1 < w1.heap.size := (by omega); have HB1 := Lib.hid hb1; clear hb1)
          | (go_at_call 46; refine (between_any _ _ _ _).mono ?_; rintro e w' ⟨rfl, rfl⟩))
        refine bodyPost_ret (v := .tuple #[vMk ⟨0, 0, 0⟩, .int .i64 1]) (by simp [results, Tryd.f19, go_sem, vMk, g1, g2, hc1]) rfl ?_
        refine ⟨by rw [freshM, HE.out]; rfl, ?_⟩
        exact (((hb0.trans (HB1.out.mono (by simp; omega))).setCell (by dsimp; omega) _).setCell (by dsimp; omega) _).setCell (by dsimp; omega) _
      · have hbt' : btw los 0 4 = true := by simpa using hbt
        have HE := Lib.hid (show freshE t l los = if (leastI (freshAll t l los)).isSome then 0 else 11 by unfold freshE; rw [if_neg (by simp [HC.out]), if_neg (by have := HN.out; omega), if_neg hbt])
        clear hbt
        have hv : ∀ m ∈ l, 0 ≤ m.n ∧ m.n ≤ 255 := fun m hm => (check_marks HC.out m hm).1
        have HV := Lib.hid hv
        clear hv
        go_enter Tryd.func19, Tryd.ntmps19
        go_wp2_with (first
          | (go_at_call 26; refine (check_any t A n c l _ ((HL.out.alloc _).alloc _) hlc hcm).mono ?_; rintro e w1 ⟨rfl, hb1⟩; obtain ⟨hc1, hf1⟩ := bc hb1; have hz1 := hb1.size; simp at hz1; have g1 : w.heap.size < w1.heap.size := (by omega); have g2 : w.heap.size + 1 < w1.heap.size := (by omega); have HB1 := Lib.hid hb1; clear hb1)
          | (go_at_call 46; refine (between_any _ _ _ _).mono ?_; rintro e w' ⟨rfl, rfl⟩)
          | (go_at_call 48; refine (fresh_any t los A n c _).mono ?_; rintro e w' ⟨rfl, rfl⟩))
        obtain ⟨w2, hw2⟩ : ∃ w2, w2 = (w1.alloc (.cells #[.int .i64 t, .slice A n c] 79)).alloc (.cells #[.int .i64 los] 3) := ⟨_, rfl⟩
        have hB12 : Below w1.heap.size w1 w2 := by rw [hw2]; exact ((Below.refl _ _).alloc (Nat.le_refl _) _).alloc (by simp) _
        have q1 : w2.heap[w1.heap.size]? = some (.cells #[.int .i64 t, .slice A n c] 79 (0, 0)) := by rw [hw2]; exact hblk_alloc (alloc_at rfl) _
        have q2 : w2.heap[w1.heap.size + 1]? = some (.cells #[.int .i64 los] 3 (0, 0)) := by rw [hw2]; exact alloc_at (by simp)
        rw [← hw2]
        clear hw2
        have hz2 := hB12.size
        have hm2 : Marks w2 A n l := ((((HL.out.alloc _).alloc _).below HB1.out (Nat.le_refl _)).below hB12 (Nat.le_refl _))
        have hseq := fresh_stops 8 (by omega) t los A n c l w2 w1.heap.size (w1.heap.size + 1) hm2 HV.out (by omega) q1 q2
        have HB2 := Lib.hid hB12
        clear hm2 q1 q2 hB12
        refine (least_any _ _ _ _ _ _ w2 w2 (enters_of Tryd.func66 (by kernel_rfl) rfl) hseq (Below.refl _ _) (Nat.le_refl _)).mono ?_
        rintro e w3 ⟨xs, hxs, he, hb3⟩
        obtain ⟨F, hF⟩ : ∃ F, F = freshAll t l los := ⟨_, rfl⟩
        have hxF : xs = F := by rw [hF]; exact hxs
        clear hxs
        subst hxF
        subst he
        have HXS := Lib.hid hF
        clear hF
        have HB3 := Lib.hid (show Below w1.heap.size w1 w3 from HB2.out.trans (hb3.mono hz2))
        obtain ⟨hc3, hf3⟩ := bc HB3.out
        have hz3 := HB3.out.size
        have g3 : w.heap.size + 1 < w3.heap.size := by omega
        clear hb3 hseq
        unfold vMk
        cases hs : (leastI xs).isSome
        · have HS := Lib.hid hs
          go_wp2
          refine bodyPost_ret (v := .tuple #[vMk ⟨0, 0, 0⟩, .int .i64 11]) (by simp [results, Tryd.f19, go_sem, vMk, g1, g2, g3, hc1, hc3]) rfl ?_
          have hE := HE.out
          rw [← HXS.out] at hE
          simp only [HS.out, Bool.false_eq_true, if_false] at hE
          have hM : freshM t l los = ⟨0, 0, 0⟩ := by unfold freshM; rw [if_neg (by rw [hE]; decide)]
          refine ⟨by rw [hM, hE], ?_⟩
          have hbw : Below w.heap.size w w3 := (hb0.trans (HB1.out.mono (by simp; omega))).trans (HB3.out.mono (by omega))
          exact ((((hbw.setCell (by dsimp; omega) _).setCell (by dsimp; omega) _).setCell (by dsimp; omega) _).alloc (by simp [World.setCell]; omega) _)
        · have HS := Lib.hid hs
          go_wp2
          refine bodyPost_ret (v := .tuple #[vMk (leastV xs), .int .i64 0]) (by simp [results, Tryd.f19, go_sem, vMk, g1, g2, g3, hc1, hc3]) rfl ?_
          have hE := HE.out
          rw [← HXS.out] at hE
          simp only [HS.out, if_true] at hE
          have hM : freshM t l los = leastV xs := by unfold freshM; rw [if_pos hE, ← HXS.out]
          refine ⟨by rw [hM, hE], ?_⟩
          have hbw : Below w.heap.size w w3 := (hb0.trans (HB1.out.mono (by simp; omega))).trans (HB3.out.mono (by omega))
          exact ((((hbw.setCell (by dsimp; omega) _).setCell (by dsimp; omega) _).setCell (by dsimp; omega) _).alloc (by simp [World.setCell]; omega) _)
  · have h0 : (check t l != 0) = true := by simp [hck]
    have HE := Lib.hid (show freshE t l los = check t l by unfold freshE; rw [if_pos hck])
    have HC := Lib.hid hck
    clear hck
    go_enter Tryd.func19, Tryd.ntmps19
    go_wp2_with (go_at_call 26; refine (check_any t A n c l _ ((HL.out.alloc _).alloc _) hlc hcm).mono ?_; rintro e w1 ⟨rfl, hb1⟩; obtain ⟨hc1, hf1⟩ := bc hb1; have hz1 := hb1.size; simp at hz1; have g1 : w.heap.size < w1.heap.size := (by omega); have g2 : w.heap.size + 1 < w1.heap.size := (by omega); have HB1 := Lib.hid hb1; clear hb1)
    refine bodyPost_ret (v := .tuple #[vMk ⟨0, 0, 0⟩, .int .i64 (check t l)]) (by simp [results, Tryd.f19, go_sem, vMk, g1, g2, hc1]) rfl ?_
    refine ⟨by rw [freshM, HE.out, if_neg HC.out], ?_⟩
    exact (((hb0.trans (HB1.out.mono (by simp; omega))).setCell (by dsimp; omega) _).setCell (by dsimp; omega) _).setCell (by dsimp; omega) _
end Go.Proofs.YtoidaigiejilcaaDoor

namespace Go.Proofs.YtoidaigiejilcaaDoor
set_option linter.unusedVariables false
set_option linter.unusedSimpArgs false

def keyI (i : Nat) : Nat := popI (mkIx i).n * 17920 + i
theorem keyI_inj {i k : Nat} (hi : i < 17920) (hk : k < 17920) (h : keyI i = keyI k) : i = k := by
  unfold keyI at h; omega
/-- x is the first with the fewest notches, of those below k -/
def IsLeast (l : List Mk) (t los : Int) (k : Nat) (r : Option Ix) : Prop := match r with
    | none => ∀ i, i < k → freeM l t los (mkIx i) = false
    | some x => x.1 < k ∧ freeM l t los (mkIx x.1) = true ∧ ∀ i, i < k → freeM l t los (mkIx i) = true → keyI x.1 ≤ keyI i
theorem key1 {p q r N k x i : Nat} (hpq : p < q) (hk : k < N) (h : q * N + x ≤ r * N + i) : p * N + k ≤ r * N + i := by
  have h3 : (p + 1) * N ≤ q * N := Nat.mul_le_mul_right N hpq
  rw [Nat.add_mul] at h3
  generalize p * N = P at *
  generalize q * N = Q at *
  generalize r * N = R at *
  omega
theorem key2 {p q N k x : Nat} (hpq : q ≤ p) (hx : x < k) : q * N + x ≤ p * N + k := by
  have h3 : q * N ≤ p * N := Nat.mul_le_mul_right N hpq
  generalize p * N = P at *
  generalize q * N = Q at *
  omega
def stepI (y : Ix) (r : Option Ix) : Option Ix := match r with | none => some y | some z => if popI (mkIx y.1).n < popI (mkIx z.1).n then some y else some z
theorem leastI_step (xs : List Ix) (x : Ix) : leastI (xs ++ [x]) = stepI x (leastI xs) := leastI_snoc xs x
theorem isLeast_succ {l : List Mk} {t los : Int} {k : Nat} (hk : k < 17920) (r : Option Ix) (h : IsLeast l t los k r) (y : Ix) (hy : y.1 = k) :
    IsLeast l t los (k + 1) (if freeM l t los (mkIx k) then stepI y r else r) := by
  cases hf : freeM l t los (mkIx k)
  · simp only [Bool.false_eq_true, if_false]
    cases r with
    | none =>
      intro i hi
      rcases Nat.lt_or_ge i k with h1 | h1
      · exact h i h1
      · rw [Nat.le_antisymm (Nat.lt_succ_iff.1 hi) h1]; exact hf
    | some x =>
      refine ⟨Nat.lt_succ_of_lt h.1, h.2.1, fun i hi hfi => ?_⟩
      rcases Nat.lt_or_ge i k with h1 | h1
      · exact h.2.2 i h1 hfi
      · rw [Nat.le_antisymm (Nat.lt_succ_iff.1 hi) h1, hf] at hfi; cases hfi
  · simp only [if_true]
    cases r with
    | none =>
      show IsLeast l t los (k + 1) (some y)
      refine ⟨by rw [hy]; exact Nat.lt_succ_self k, by rw [hy]; exact hf, fun i hi hfi => ?_⟩
      rcases Nat.lt_or_ge i k with h1 | h1
      · rw [h i h1] at hfi; cases hfi
      · rw [Nat.le_antisymm (Nat.lt_succ_iff.1 hi) h1, hy]; exact Nat.le_refl _
    | some x =>
      show IsLeast l t los (k + 1) (if popI (mkIx y.1).n < popI (mkIx x.1).n then some y else some x)
      rw [hy]
      have hx := h.1
      by_cases hp : popI (mkIx k).n < popI (mkIx x.1).n
      · rw [if_pos hp]
        refine ⟨by rw [hy]; exact Nat.lt_succ_self k, by rw [hy]; exact hf, fun i hi hfi => ?_⟩
        rcases Nat.lt_or_ge i k with h1 | h1
        · have := h.2.2 i h1 hfi
          rw [hy]
          exact key1 hp hk this
        · rw [Nat.le_antisymm (Nat.lt_succ_iff.1 hi) h1, hy]; exact Nat.le_refl _
      · rw [if_neg hp]
        refine ⟨Nat.lt_succ_of_lt h.1, h.2.1, fun i hi hfi => ?_⟩
        rcases Nat.lt_or_ge i k with h1 | h1
        · exact h.2.2 i h1 hfi
        · rw [Nat.le_antisymm (Nat.lt_succ_iff.1 hi) h1]
          exact key2 (Nat.le_of_not_lt hp) hx
theorem least_at (l : List Mk) (t los : Int) : ∀ k, k ≤ 17920 → IsLeast l t los k (leastI (freshIx l t los k))
  | 0, _ => by
    have : leastI (freshIx l t los 0) = none := rfl
    rw [this]
    intro i hi
    exact absurd hi (Nat.not_lt_zero i)
  | k + 1, hk => by
    have ih := least_at l t los k (Nat.le_of_lt hk)
    have h := isLeast_succ hk _ ih ⟨k, hk⟩ rfl
    rw [freshIx_succ l t los hk]
    cases hf : freeM l t los (mkIx k)
    · rw [hf] at h
      simpa using h
    · rw [hf] at h
      simp only [if_true] at h ⊢
      rw [leastI_step]
      exact h
theorem freshAll_N (l : List Mk) (t los : Int) : ∃ N, N = 17920 ∧ freshAll t l los = freshIx l t los N := ⟨17920, rfl, rfl⟩
theorem fresh_some {l : List Mk} {t los : Int} {k : Nat} (hk : k < 17920) (hf : freeM l t los (mkIx k) = true) (hmin : ∀ i, i < 17920 → keyI i < keyI k → freeM l t los (mkIx i) = false) : leastI (freshAll t l los) = some ⟨k, hk⟩ := by
  obtain ⟨N, hN, e⟩ := freshAll_N l t los
  rw [e]
  have h := least_at l t los N (Nat.le_of_eq hN)
  cases h0 : leastI (freshIx l t los N) with
  | none =>
    rw [h0] at h
    have := h k (Nat.lt_of_lt_of_eq hk hN.symm)
    rw [this] at hf; cases hf
  | some x =>
    rw [h0] at h
    have h1 := h.2.2 k (Nat.lt_of_lt_of_eq hk hN.symm) hf
    have h2 : ¬ keyI x.1 < keyI k := fun hlt => by
      have := hmin x.1 x.2 hlt
      rw [h.2.1] at this; cases this
    have h3 : x.1 = k := keyI_inj x.2 hk (Nat.le_antisymm h1 (Nat.le_of_not_lt h2))
    have h4 : x = ⟨k, hk⟩ := Fin.ext h3
    rw [h4]
theorem fresh_none {l : List Mk} {t los : Int} (h : ∀ i, i < 17920 → freeM l t los (mkIx i) = false) : leastI (freshAll t l los) = none := by
  obtain ⟨N, hN, e⟩ := freshAll_N l t los
  rw [e]
  have h0 := least_at l t los N (Nat.le_of_eq hN)
  cases h1 : leastI (freshIx l t los N) with
  | none => rfl
  | some x =>
    rw [h1] at h0
    have h2 := h x.1 x.2
    rw [h0.2.1] at h2
    cases h2

def exR : List Mk := [⟨1, 0, 0⟩, ⟨3, 0, 1⟩, ⟨16, 3, 0⟩]
theorem ex_few : ((List.range 256).all fun n => decide (2 < popI (n : Int)) || (List.range 70).all fun j => decide (36689 ≤ popI (n : Int) * 17920 + (n * 70 + j)) || !freeM exR 1 2 (mkIx (n * 70 + j))) = true := by decide +kernel
theorem ex_least : leastI (freshAll 1 exR 2) = some ⟨849, by decide⟩ := by
  refine fresh_some (by decide) (by decide +kernel) (fun i hi hlt => ?_)
  have h := ex_few
  rw [List.all_eq_true] at h
  have h1 := h (i / 70) (by rw [List.mem_range]; omega)
  have e : i / 70 * 70 + i % 70 = i := by omega
  have hk : keyI 849 = 36689 := by decide +kernel
  have hm : (mkIx i).n = ((i / 70 : Nat) : Int) := rfl
  rw [hk] at hlt
  unfold keyI at hlt
  rw [hm] at hlt
  simp only [Bool.or_eq_true, decide_eq_true_eq] at h1
  rcases h1 with h1 | h1
  · omega
  · rw [List.all_eq_true] at h1
    have h2 := h1 (i % 70) (by rw [List.mem_range]; omega)
    rw [e] at h2
    simp only [Bool.or_eq_true, decide_eq_true_eq, Bool.not_eq_true'] at h2
    rcases h2 with h2 | h2
    · omega
    · exact h2
theorem freshE_of {t los : Int} {l : List Mk} {o : Option Ix} (h1 : check t l = 0) (h2 : ¬ 5 ≤ l.length) (h3 : btw los 0 4 = true) (ho : leastI (freshAll t l los) = o) :
    freshE t l los = if o.isSome then 0 else 11 := by
  unfold freshE
  rw [ho, if_neg (by simp [h1]), if_neg h2, if_neg (by simp [h3])]
theorem freshM_of {t los : Int} {l : List Mk} {x : Ix} (h : freshE t l los = 0) (ho : leastI (freshAll t l los) = some x) : freshM t l los = mkIx x.1 := by
  unfold freshM leastV
  rw [if_pos h, ho]
theorem ex_fresh : freshM 1 exR 2 = ⟨12, 1, 2⟩ ∧ freshE 1 exR 2 = 0 := by
  have he : freshE 1 exR 2 = 0 := freshE_of (by decide +kernel) (by decide) (by decide) ex_least
  exact ⟨(freshM_of he ex_least).trans (by decide +kernel), he⟩
end Go.Proofs.YtoidaigiejilcaaDoor
