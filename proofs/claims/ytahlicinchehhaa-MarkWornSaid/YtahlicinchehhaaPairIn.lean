/- mestalaw03.pairIn. -/
import Derived.Test.YtahlicinchehhaaGridB
namespace Go.Proofs.Ytahlicinchehhaa
open Go.RowKit
set_option linter.unusedVariables false
set_option linter.unusedSimpArgs false

set_option maxRecDepth 100000 in
set_option maxHeartbeats 2000000 in
theorem pairIn_any (A : Option Addr) (n c : Nat) (ls : List (List Int)) (B : Option Addr) (m d : Nat) (p : List Int) (w : World) (hx : Grid w A n ls) (hp : Ints w B m p) (hn : n ≤ maxLen) (hm : m ≤ maxLen) :
    Calls Try.prog 41 #[.slice A n c, .slice B m d] w fun e w' => e = .returned (.bool (decide (p ∈ ls))) ∧ Below w.heap.size w w' := by
  have HX := Lib.hid (And.intro hx (And.intro hp hx.len))
  clear hx hp
  have hn' := hn
  unfold maxLen at hn'
  go_enter Try.func41, Try.ntmps41
  go_wp2_with fail
  go_loopg [5] n (fun g i wr => ∃ k : Nat, k + g = n ∧ i = .int .i64 k ∧ p ∉ ls.take k ∧ Below w.heap.size w wr)
  case atStart => exact ⟨0, by omega, rfl, by simp, Below.refl _ _⟩
  case round =>
    obtain ⟨k, hk, rfl, hno, hbl⟩ := hrel
    have HK := Lib.hid (And.intro hk hno)
    have hkn : k ≤ n := by omega
    clear hk hno
    by_cases hlt : k < n
    · obtain ⟨b0, o0, C0, u, c0, rfl, hb0, hu, p0, hi0, hc0, hm0⟩ := Grid.get (HX.out.1.below hbl (Nat.le_refl _)) hlt
      have HU := Lib.hid hu
      have i0 : (0 : Int) ≤ (k : Int) := by omega
      have i1 : (k : Int) < (n : Int) := by omega
      have HS := Lib.hid (sameInts_any C0 u.length c0 u B m d p wr hi0 (HX.out.2.1.below hbl (Nat.le_refl _)) (Nat.le_trans hc0 hm0) hm)
      clear hu hi0
      go_wp2_with fail
      refine HS.out.mono ?_
      rintro e w2 ⟨rfl, hb2⟩
      have hbl2 := hbl.trans (hb2.mono hbl.size)
      clear p0 hb2
      cases hup : sameL u p
      · have HE := Lib.hid hup
        go_wp2
        go_roundg (gk - 1)
        case measure => have := HK.out.1; omega
        case rel =>
          refine ⟨k + 1, by have := HK.out.1; omega, by go_num, ?_, hbl2⟩
          rw [List.take_add_one, HU.out]
          intro h
          rcases List.mem_append.1 h with h | h
          · exact HK.out.2 h
          · have := HE.out
            unfold sameL at this
            simp at h this
            exact this h.symm
      · have HE := Lib.hid hup
        go_wp2
        go_ret
        refine ⟨ret_bool (decide_eq_true ?_).symm, hbl2⟩
        have := HE.out
        unfold sameL at this
        simp at this
        subst this
        exact List.mem_of_getElem? HU.out
    · obtain rfl : k = n := by omega
      go_wp2
      go_ret
      refine ⟨ret_bool (decide_eq_false ?_).symm, hbl⟩
      have := HK.out.2
      rwa [List.take_of_length_le (by have := HX.out.2.2; omega)] at this
end Go.Proofs.Ytahlicinchehhaa
