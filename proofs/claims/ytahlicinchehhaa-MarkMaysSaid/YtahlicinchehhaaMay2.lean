/- mark.May and mark.Verdict. -/
import Derived.Test.YtahlicinchehhaaCheck
import Derived.Test.YtahlicinchehhaaMay
namespace Go.Proofs.Ytahlicinchehhaa
open Go.RowKit
set_option linter.unusedVariables false
set_option linter.unusedSimpArgs false

set_option maxHeartbeats 1000000 in
theorem May_any (t : Int) (A : Option Addr) (n c : Nat) (l : List Mk) (s : Sg) (w : World) (hl : Marks w A n l) (hlc : n ≤ c) (hcm : c ≤ maxLen) :
    Calls Try.prog 29 #[.agg #[.int .i64 t, .slice A n c], vSg s] w fun e w' => ∃ v, e = .returned (.tuple #[v, .int .i64 (mayE t l s)]) ∧ OwnI w' w.heap.size v (mayR t l s) ∧ Below w.heap.size w w' := by
  have HL := Lib.hid hl
  have hb0 : Below w.heap.size w ((w.alloc (Obj.cells #[Value.int .i64 t, .slice A n c] 24)).alloc (Obj.cells #[Value.int .i64 s.n, .bool s.l, .bool s.r, .int .i64 s.b, .int .i64 s.p] 28)) := ((Below.refl _ _).alloc (Nat.le_refl _) _).alloc (by simp) _
  clear hl
  by_cases hck : check t l = 0
  · have h0 : (check t l != 0) = false := by simp [hck]
    have HC := Lib.hid hck
    clear hck
    by_cases hse : seen s 9 6 = 0
    · have h1 : (seen s 9 6 != 0) = false := by simp [hse]
      have HS := Lib.hid hse
      have hv := (seen_ok hse).1
      have hm : ∀ m ∈ l, 0 ≤ m.n ∧ m.n ≤ 255 := fun m hm => (check_marks HC.out m hm).1
      have HM := Lib.hid hm
      have hn5 : n ≤ 5 := by have := (check_ok HC.out).2.2.1; have := HL.out.len; omega
      clear hse hm
      go_enter Try.func29, Try.ntmps29
      unfold vSg
      go_wp2_with (first
        | (go_at_call 23; refine (check_any t A n c l _ ((HL.out.alloc _).alloc _) hlc hcm).mono ?_; rintro e w1 ⟨rfl, hb1⟩; obtain ⟨hc1, hf1⟩ := bc hb1; have hz1 := hb1.size; simp at hz1; have g1 : w.heap.size < w1.heap.size := (by omega); have g2 : w.heap.size + 1 < w1.heap.size := (by omega); have HB1 := Lib.hid hb1; clear hb1)
        | (go_at_call 79; refine (sight_any s _).mono ?_; rintro e w2 ⟨rfl, hb2⟩; obtain ⟨hc2, hf2⟩ := bc hb2; have hz2 := hb2.size; have g3 : w.heap.size < w2.heap.size := (by omega); have g4 : w.heap.size + 1 < w2.heap.size := (by omega); have HB2 := Lib.hid hb2; clear hb2)
        | (go_at_call 80; refine (mayB_any t A n c l s _ ((((HL.out.alloc _).alloc _).below HB1.out (Nat.le_refl _)).below HB2.out (Nat.le_refl _)) (by omega) hv.1 hv.2 HM.out).mono ?_; rintro e w3 ⟨v, rfl, ho3, hb3⟩; have HB3 := Lib.hid (And.intro ho3 hb3); clear ho3 hb3))
      go_ret2
      exact ⟨v, by simp [mayE, HC.out, HS.out], by simpa [mayR, mayE, HC.out, HS.out] using HB3.out.1.mono (by omega), hb0.trans ((HB1.out.mono (by simp; omega)).trans ((HB2.out.mono (by omega)).trans (HB3.out.2.mono (by omega))))⟩
    · have h1 : (seen s 9 6 != 0) = true := by simp [hse]
      have HS := Lib.hid hse
      clear hse
      go_enter Try.func29, Try.ntmps29
      unfold vSg
      go_wp2_with (first
        | (go_at_call 23; refine (check_any t A n c l _ ((HL.out.alloc _).alloc _) hlc hcm).mono ?_; rintro e w1 ⟨rfl, hb1⟩; obtain ⟨hc1, hf1⟩ := bc hb1; have hz1 := hb1.size; simp at hz1; have g1 : w.heap.size < w1.heap.size := (by omega); have g2 : w.heap.size + 1 < w1.heap.size := (by omega); have HB1 := Lib.hid hb1; clear hb1)
        | (go_at_call 79; refine (sight_any s _).mono ?_; rintro e w2 ⟨rfl, hb2⟩; have hz2 := hb2.size; have g3 : w.heap.size < w2.heap.size := (by omega); have g4 : w.heap.size + 1 < w2.heap.size := (by omega); have HB2 := Lib.hid hb2; clear hb2))
      go_ret2
      exact ⟨.slice none 0 0, by simp [mayE, HC.out], by simpa [mayR, mayE, HC.out, HS.out] using Own.nil_, hb0.trans ((HB1.out.mono (by simp; omega)).trans (HB2.out.mono (by omega)))⟩
  · have h0 : (check t l != 0) = true := by simp [hck]
    have HC := Lib.hid hck
    clear hck
    go_enter Try.func29, Try.ntmps29
    unfold vSg
    go_wp2_with (go_at_call 23; refine (check_any t A n c l _ ((HL.out.alloc _).alloc _) hlc hcm).mono ?_; rintro e w1 ⟨rfl, hb1⟩; have HB1 := Lib.hid hb1; clear hb1)
    go_ret2
    exact ⟨.slice none 0 0, by simp [mayE, HC.out], by simpa [mayR, mayE, HC.out] using Own.nil_, hb0.trans (HB1.out.mono (by simp; omega))⟩
end Go.Proofs.Ytahlicinchehhaa
