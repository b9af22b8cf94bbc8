/- mark.Verdict. -/
import Derived.Test.YtahlicinchehhaaMay2
namespace Go.Proofs.Ytahlicinchehhaa
open Go.RowKit
set_option linter.unusedVariables false
set_option linter.unusedSimpArgs false

theorem take_noI {l : List Int} {q : Nat} {x m : Int} (h : (l.take q).contains m = false) (hx : l[q]? = some x) (hne : ¬ x = m) : (l.take (q + 1)).contains m = false := by
  rw [List.take_add_one, hx]
  simp only [Option.toList, List.contains_eq_mem, decide_eq_false_iff_not, List.mem_append, List.mem_singleton, not_or] at h ⊢
  exact ⟨h, fun e => hne e.symm⟩

set_option maxHeartbeats 1000000 in
theorem Verdict_any (t : Int) (A : Option Addr) (n c : Nat) (l : List Mk) (s : Sg) (o : Int) (w : World) (hl : Marks w A n l) (hlc : n ≤ c) (hcm : c ≤ maxLen) :
    Calls Try.prog 45 #[.agg #[.int .i64 t, .slice A n c], vSg s, .int .i64 o] w fun e w' => e = .returned (.tuple #[.int .i64 (verV t l s o), .int .i64 (verE t l s o)]) ∧ Below w.heap.size w w' := by
  have HL := Lib.hid hl
  have hb0 : Below w.heap.size w ((w.alloc (Obj.cells #[Value.int .i64 t, .slice A n c] 24)).alloc (Obj.cells #[Value.int .i64 s.n, .bool s.l, .bool s.r, .int .i64 s.b, .int .i64 s.p] 28)) := ((Below.refl _ _).alloc (Nat.le_refl _) _).alloc (by simp) _
  clear hl
  by_cases hma : mayE t l s = 0
  · have h0 : (mayE t l s == 0) = true := by simp [hma]
    have HC := Lib.hid hma
    clear hma
    have hnm : n ≤ maxLen := by omega
    have hnl := HL.out.len
    have HN := Lib.hid hnl
    clear hnl
    cases hoe : (ownerE [o] n != 0)
    · have HO := Lib.hid (show ownerE [o] n = 0 by simpa using hoe)
      go_enter Try.func45, Try.ntmps45
      unfold vSg
      go_wp2_with (first
        | (go_at_call 29; refine (May_any t A n c l s _ ((HL.out.alloc _).alloc _) hlc hcm).mono ?_; rintro e w1 ⟨v, rfl, ho1, hb1⟩; obtain ⟨hc1, hf1⟩ := bc hb1; have hz1 := hb1.size; simp at hz1; have g1 : w.heap.size < w1.heap.size := (by omega); have HB1 := Lib.hid (And.intro ho1 hb1); clear ho1 hb1)
        | (go_at_call 63; refine (owner_any t A n c [o] (some ⟨w1.heap.size, 0, none⟩) 1 1 _ (ints1 _ _ _) hnm (by decide)).mono ?_; rintro e w2 ⟨rfl, hb2⟩; have hz2 := hb2.size; simp at hz2; have HB2 := Lib.hid hb2; clear hb2 hc1 hf1; obtain ⟨A', c', rfl, hsl, hlc', hcm'⟩ := (((HB1.out.1.alloc _).below HB2.out (Nat.le_refl _))).form lenInt))
      have hmr : mayR t l s = mayL t l s := by simp [mayR, HC.out]
      obtain ⟨L, hL⟩ : ∃ L, L = mayR t l s := ⟨_, rfl⟩
      rw [← hL] at hsl hlc' ⊢
      have HRL := Lib.hid (hL.trans hmr)
      have HBl := Lib.hid (show Below w.heap.size w w2 from hb0.trans ((HB1.out.2.mono (by simp; omega)).trans (((Below.refl _ _).alloc (Nat.le_refl _) _).mono (by omega) |>.trans (HB2.out.mono (by simp; omega)))))
      have HSP := Lib.hid (show verE t l s o = 0 ∧ verV t l s o = verL L o by rw [hL, hmr]; simp [verV, verE, HC.out, HN.out, HO.out])
      clear hL hmr HB1 HB2 hz1 hz2 hoe h0 hb0
      unfold maxLen at hcm'
      have hlm : L.length ≤ 9223372036854775807 := by omega
      go_loopg [30] L.length (fun g i wr => ∃ q : Nat, q + g = L.length ∧ i = .int .i64 q ∧ (L.take q).contains o = false ∧ w2 = wr)
      case atStart => exact ⟨0, by omega, rfl, by simp, rfl⟩
      case round =>
        obtain ⟨q, hq, rfl, hno, rfl⟩ := hrel
        have HQ := Lib.hid hq
        have HNO := Lib.hid hno
        have hqm : q ≤ L.length := by omega
        clear hq hno
        by_cases hlt : q < L.length
        · obtain ⟨b, off, x, rfl, hb, hx, d0⟩ := Ints.get hsl hlt
          have HX := Lib.hid hx
          clear hx
          cases hxo : (x == o)
          · have HXO := Lib.hid (show ¬ x = o by simpa using hxo)
            go_wp2
            go_roundg (gk - 1)
            case measure => have := HQ.out; omega
            case rel => exact ⟨q + 1, by have := HQ.out; omega, by go_num, take_noI HNO.out HX.out HXO.out, rfl⟩
          · have HXO := Lib.hid (show x = o by simpa using hxo)
            have HIN := Lib.hid (show L.contains o = true by
              rw [List.contains_eq_mem, decide_eq_true_eq, ← HXO.out]; exact List.mem_of_getElem? HX.out)
            cases h1 : ((L.length : Int) == 1)
            · have H1 := Lib.hid (show ¬ L.length = 1 by (have := beq_eq_false_iff_ne.1 h1; omega))
              go_wp2
              go_ret2
              exact ⟨ret_int2 (by rw [HSP.out.2]; simp only [verL, HIN.out, if_true, if_neg H1.out]) HSP.out.1.symm, HBl.out⟩
            · have H1 := Lib.hid (show L.length = 1 by (have := beq_iff_eq.1 h1; omega))
              go_wp2
              go_ret2
              exact ⟨ret_int2 (by rw [HSP.out.2]; simp only [verL, HIN.out, if_true, if_pos H1.out]) HSP.out.1.symm, HBl.out⟩
        · obtain rfl : q = L.length := by omega
          have HIN := Lib.hid (show L.contains o = false by have := HNO.out; rwa [List.take_length] at this)
          go_wp2
          go_ret2
          exact ⟨ret_int2 (by rw [HSP.out.2]; simp only [verL, HIN.out, Bool.false_eq_true, if_false]) HSP.out.1.symm, HBl.out⟩
    · have HO := Lib.hid (show ¬ ownerE [o] n = 0 by simpa using hoe)
      go_enter Try.func45, Try.ntmps45
      unfold vSg
      go_wp2_with (first
        | (go_at_call 29; refine (May_any t A n c l s _ ((HL.out.alloc _).alloc _) hlc hcm).mono ?_; rintro e w1 ⟨v, rfl, ho1, hb1⟩; obtain ⟨hc1, hf1⟩ := bc hb1; have hz1 := hb1.size; simp at hz1; have g1 : w.heap.size < w1.heap.size := (by omega); have HB1 := Lib.hid (And.intro ho1 hb1); clear ho1 hb1)
        | (go_at_call 63; refine (owner_any t A n c [o] (some ⟨w1.heap.size, 0, none⟩) 1 1 _ (ints1 _ _ _) hnm (by decide)).mono ?_; rintro e w2 ⟨rfl, hb2⟩; have hz2 := hb2.size; simp at hz2; have HB2 := Lib.hid hb2; clear hb2 hc1 hf1))
      go_ret2
      exact ⟨by simp [verV, verE, HC.out, HN.out, HO.out], hb0.trans ((HB1.out.2.mono (by simp; omega)).trans (((Below.refl _ _).alloc (Nat.le_refl _) _).mono (by omega) |>.trans (HB2.out.mono (by simp; omega))))⟩
  · have h0 : (mayE t l s == 0) = false := by simp [hma]
    have h1 : (mayE t l s != 0) = true := by simp [hma]
    have HC := Lib.hid hma
    clear hma
    go_enter Try.func45, Try.ntmps45
    unfold vSg
    go_wp2_with (go_at_call 29; refine (May_any t A n c l s _ ((HL.out.alloc _).alloc _) hlc hcm).mono ?_; rintro e w1 ⟨v, rfl, ho1, hb1⟩; have HB1 := Lib.hid (And.intro ho1 hb1); clear ho1 hb1)
    go_ret2
    exact ⟨by simp [verV, verE, HC.out], hb0.trans (HB1.out.2.mono (by simp; omega))⟩
end Go.Proofs.Ytahlicinchehhaa
