/- mark.Fresh. -/
import Derived.Test.YtoidaigiejilcaaLeast
import Derived.Test.YtoidaigiejilcaaCheck
namespace Go.Proofs.Ytoidaigiejilcaa
open Go.RowKit Go.Shelf
set_option linter.unusedVariables false
set_option linter.unusedSimpArgs false

def freshE (t : Int) (l : List Mk) (los : Int) : Int :=
  if check t l ≠ 0 then check t l else if 5 ≤ l.length then 6 else if btw los 0 4 = false then 1 else if (leastI (freshAll t l los)).isSome then 0 else 11
def freshM (t : Int) (l : List Mk) (los : Int) : Mk := if freshE t l los = 0 then leastV (freshAll t l los) else ⟨0, 0, 0⟩

set_option maxHeartbeats 2000000 in
theorem Fresh_any (t los : Int) (A : Option Addr) (n c : Nat) (l : List Mk) (w : World) (hl : Marks w A n l) (hlc : n ≤ c) (hcm : c ≤ maxLen) :
    Calls Try.prog 50 #[.agg #[.int .i64 t, .slice A n c], .int .i64 los] w fun e w' => e = .returned (.tuple #[vMk (freshM t l los), .int .i64 (freshE t l los)]) ∧ Below w.heap.size w w' := by
  have HL := Lib.hid hl
  have HN := Lib.hid hl.len
  have hb0 : Below w.heap.size w ((w.alloc (Obj.cells #[Value.int .i64 t, .slice A n c] 25)).alloc (Obj.cells #[Value.int .i64 0, .int .i64 0, .int .i64 0] 46)) := ((Below.refl _ _).alloc (Nat.le_refl _) _).alloc (by simp) _
  clear hl
  by_cases hck : check t l = 0
  · have h0 : (check t l != 0) = false := by simp [hck]
    have HC := Lib.hid hck
    have hn5 : n ≤ 5 := by have := (check_ok hck).2.2.1; have := HN.out; omega
    clear hck
    by_cases h5 : 5 ≤ n
    · have HE := Lib.hid (show freshE t l los = 6 by unfold freshE; rw [if_neg (by simp [HC.out]), if_pos (by have := HN.out; omega)])
      have h5' : decide ((5 : Int) ≤ (n : Int)) = true := by simp; omega
      go_enter Try.func50, Try.ntmps50
      go_wp2_with (go_at_call 46; refine (check_any t A n c l _ ((HL.out.alloc _).alloc _) hlc hcm).mono ?_; rintro e w1 ⟨rfl, hb1⟩; obtain ⟨hc1, hf1⟩ := bc hb1; have hz1 := hb1.size; simp at hz1; have g1 : w.heap.size < w1.heap.size := (by omega); have g2 : w.heap.size + 1 < w1.heap.size := (by omega); have HB1 := Lib.hid hb1; clear hb1)
      refine bodyPost_ret (v := .tuple #[vMk ⟨0, 0, 0⟩, .int .i64 6]) (by simp [results, Try.f50, go_sem, vMk, g1, g2, hc1]) rfl ?_
      refine ⟨by rw [freshM, HE.out]; rfl, ?_⟩
      exact (((hb0.trans (HB1.out.mono (by simp; omega))).setCell (by dsimp; omega) _).setCell (by dsimp; omega) _).setCell (by dsimp; omega) _
    · have h5' : decide ((5 : Int) ≤ (n : Int)) = false := by simp; omega
      by_cases hbt : btw los 0 4 = false
      · have HE := Lib.hid (show freshE t l los = 1 by unfold freshE; rw [if_neg (by simp [HC.out]), if_neg (by have := HN.out; omega), if_pos hbt])
        go_enter Try.func50, Try.ntmps50
        go_wp2_with (first
          | (go_at_call 46; refine (check_any t A n c l _ ((HL.out.alloc _).alloc _) hlc hcm).mono ?_; rintro e w1 ⟨rfl, hb1⟩; obtain ⟨hc1, hf1⟩ := bc hb1; have hz1 := hb1.size; simp at hz1; have g1 : w.heap.size < w1.heap.size := (by omega); have g2 : w.heap.size + 1 < w1.heap.size := (by omega); have HB1 := Lib.hid hb1; clear hb1)
          | (go_at_call 91; refine (between_any _ _ _ _).mono ?_; rintro e w' ⟨rfl, rfl⟩))
        refine bodyPost_ret (v := .tuple #[vMk ⟨0, 0, 0⟩, .int .i64 1]) (by simp [results, Try.f50, go_sem, vMk, g1, g2, hc1]) rfl ?_
        refine ⟨by rw [freshM, HE.out]; rfl, ?_⟩
        exact (((hb0.trans (HB1.out.mono (by simp; omega))).setCell (by dsimp; omega) _).setCell (by dsimp; omega) _).setCell (by dsimp; omega) _
      · have hbt' : btw los 0 4 = true := by simpa using hbt
        have HE := Lib.hid (show freshE t l los = if (leastI (freshAll t l los)).isSome then 0 else 11 by unfold freshE; rw [if_neg (by simp [HC.out]), if_neg (by have := HN.out; omega), if_neg hbt])
        clear hbt
        have hv : ∀ m ∈ l, 0 ≤ m.n ∧ m.n ≤ 255 := fun m hm => (check_marks HC.out m hm).1
        have HV := Lib.hid hv
        clear hv
        go_enter Try.func50, Try.ntmps50
        go_wp2_with (first
          | (go_at_call 46; refine (check_any t A n c l _ ((HL.out.alloc _).alloc _) hlc hcm).mono ?_; rintro e w1 ⟨rfl, hb1⟩; obtain ⟨hc1, hf1⟩ := bc hb1; have hz1 := hb1.size; simp at hz1; have g1 : w.heap.size < w1.heap.size := (by omega); have g2 : w.heap.size + 1 < w1.heap.size := (by omega); have HB1 := Lib.hid hb1; clear hb1)
          | (go_at_call 91; refine (between_any _ _ _ _).mono ?_; rintro e w' ⟨rfl, rfl⟩)
          | (go_at_call 94; refine (fresh_any t los A n c _).mono ?_; rintro e w' ⟨rfl, rfl⟩))
        obtain ⟨w2, hw2⟩ : ∃ w2, w2 = (w1.alloc (.cells #[.int .i64 t, .slice A n c] 91)).alloc (.cells #[.int .i64 los] 3) := ⟨_, rfl⟩
        have hB12 : Below w1.heap.size w1 w2 := by rw [hw2]; exact ((Below.refl _ _).alloc (Nat.le_refl _) _).alloc (by simp) _
        have q1 : w2.heap[w1.heap.size]? = some (.cells #[.int .i64 t, .slice A n c] 91 (0, 0)) := by rw [hw2]; exact hblk_alloc (alloc_at rfl) _
        have q2 : w2.heap[w1.heap.size + 1]? = some (.cells #[.int .i64 los] 3 (0, 0)) := by rw [hw2]; exact alloc_at (by simp)
        rw [← hw2]
        clear hw2
        have hz2 := hB12.size
        have hm2 : Marks w2 A n l := ((((HL.out.alloc _).alloc _).below HB1.out (Nat.le_refl _)).below hB12 (Nat.le_refl _))
        have hseq := fresh_stops 8 (by omega) t los A n c l w2 w1.heap.size (w1.heap.size + 1) hm2 HV.out (by omega) q1 q2
        have HB2 := Lib.hid hB12
        clear hm2 q1 q2 hB12
        refine (least_any _ _ _ _ _ _ w2 w2 (enters_of Try.func116 (by kernel_rfl) rfl) hseq (Below.refl _ _) (Nat.le_refl _)).mono ?_
        rintro e w3 ⟨xs, hxs, he, hb3⟩
        obtain ⟨F, hF⟩ : ∃ F, F = freshAll t l los := ⟨_, rfl⟩
        have hxF : xs = F := by rw [hF]; exact hxs
        clear hxs
        subst hxF
        subst he
        have HXS := Lib.hid hF
        clear hF
        have HB3 := Lib.hid (show Below w1.heap.size w1 w3 from HB2.out.trans (hb3.mono hz2))
        obtain ⟨hc3, hf3⟩ := bc HB3.out
        have hz3 := HB3.out.size
        have g3 : w.heap.size + 1 < w3.heap.size := by omega
        clear hb3 hseq
        unfold vMk
        cases hs : (leastI xs).isSome
        · have HS := Lib.hid hs
          go_wp2
          refine bodyPost_ret (v := .tuple #[vMk ⟨0, 0, 0⟩, .int .i64 11]) (by simp [results, Try.f50, go_sem, vMk, g1, g2, g3, hc1, hc3]) rfl ?_
          have hE := HE.out
          rw [← HXS.out] at hE
          simp only [HS.out, Bool.false_eq_true, if_false] at hE
          have hM : freshM t l los = ⟨0, 0, 0⟩ := by unfold freshM; rw [if_neg (by rw [hE]; decide)]
          refine ⟨by rw [hM, hE], ?_⟩
          have hbw : Below w.heap.size w w3 := (hb0.trans (HB1.out.mono (by simp; omega))).trans (HB3.out.mono (by omega))
          exact ((((hbw.setCell (by dsimp; omega) _).setCell (by dsimp; omega) _).setCell (by dsimp; omega) _).alloc (by simp [World.setCell]; omega) _)
        · have HS := Lib.hid hs
          go_wp2
          refine bodyPost_ret (v := .tuple #[vMk (leastV xs), .int .i64 0]) (by simp [results, Try.f50, go_sem, vMk, g1, g2, g3, hc1, hc3]) rfl ?_
          have hE := HE.out
          rw [← HXS.out] at hE
          simp only [HS.out, if_true] at hE
          have hM : freshM t l los = leastV xs := by unfold freshM; rw [if_pos hE, ← HXS.out]
          refine ⟨by rw [hM, hE], ?_⟩
          have hbw : Below w.heap.size w w3 := (hb0.trans (HB1.out.mono (by simp; omega))).trans (HB3.out.mono (by omega))
          exact ((((hbw.setCell (by dsimp; omega) _).setCell (by dsimp; omega) _).setCell (by dsimp; omega) _).alloc (by simp [World.setCell]; omega) _)
  · have h0 : (check t l != 0) = true := by simp [hck]
    have HE := Lib.hid (show freshE t l los = check t l by unfold freshE; rw [if_pos hck])
    have HC := Lib.hid hck
    clear hck
    go_enter Try.func50, Try.ntmps50
    go_wp2_with (go_at_call 46; refine (check_any t A n c l _ ((HL.out.alloc _).alloc _) hlc hcm).mono ?_; rintro e w1 ⟨rfl, hb1⟩; obtain ⟨hc1, hf1⟩ := bc hb1; have hz1 := hb1.size; simp at hz1; have g1 : w.heap.size < w1.heap.size := (by omega); have g2 : w.heap.size + 1 < w1.heap.size := (by omega); have HB1 := Lib.hid hb1; clear hb1)
    refine bodyPost_ret (v := .tuple #[vMk ⟨0, 0, 0⟩, .int .i64 (check t l)]) (by simp [results, Try.f50, go_sem, vMk, g1, g2, hc1]) rfl ?_
    refine ⟨by rw [freshM, HE.out, if_neg HC.out], ?_⟩
    exact (((hb0.trans (HB1.out.mono (by simp; omega))).setCell (by dsimp; omega) _).setCell (by dsimp; omega) _).setCell (by dsimp; omega) _
end Go.Proofs.Ytoidaigiejilcaa
