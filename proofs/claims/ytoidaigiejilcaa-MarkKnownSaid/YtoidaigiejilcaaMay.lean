/- book.may: all owners who may have a sheep.
   mark.May and mark.Verdict.
   mark.Verdict. -/
import Derived.Test.YtoidaigiejilcaaFits
import Derived.Test.YtoidaigiejilcaaBase
import Derived.Test.YtoidaigiejilcaaCheck
namespace Go.Proofs.Ytoidaigiejilcaa
open Go.RowKit
set_option linter.unusedVariables false
set_option linter.unusedSimpArgs false

set_option maxHeartbeats 1000000 in
theorem mayB_any (t : Int) (A : Option Addr) (n c : Nat) (l : List Mk) (s : Sg) (w : World) (hl : Marks w A n l) (hn : n ≤ 4294967295) (hs : 0 ≤ s.n) (hs' : s.n ≤ 255) (hv : ∀ m ∈ l, 0 ≤ m.n ∧ m.n ≤ 255) :
    Calls Try.prog 73 #[.agg #[.int .i64 t, .slice A n c], vSg s] w fun e w' => ∃ v, e = .returned v ∧ OwnI w' w.heap.size v (mayL t l s) ∧ Below w.heap.size w w' := by
  have HV := Lib.hid hv
  have HL := Lib.hid hl
  have hB0 : Below w.heap.size w ((w.alloc (Obj.cells #[Value.int .i64 t, .slice A n c] 91)).alloc (Obj.cells #[Value.int .i64 s.n, .bool s.l, .bool s.r, .int .i64 s.b, .int .i64 s.p] 44)) := ((Below.refl _ _).alloc (Nat.le_refl _) _).alloc (by simp) _
  have b2 : ((w.alloc (Obj.cells #[Value.int .i64 t, .slice A n c] 91)).alloc (Obj.cells #[Value.int .i64 s.n, .bool s.l, .bool s.r, .int .i64 s.b, .int .i64 s.p] 44)).heap[w.heap.size]? = some (Obj.cells #[Value.int .i64 t, .slice A n c] 91 (0, 0)) := hblk_alloc (alloc_at rfl) _
  have b3 : ((w.alloc (Obj.cells #[Value.int .i64 t, .slice A n c] 91)).alloc (Obj.cells #[Value.int .i64 s.n, .bool s.l, .bool s.r, .int .i64 s.b, .int .i64 s.p] 44)).heap[w.heap.size + 1]? = some (Obj.cells #[Value.int .i64 s.n, .bool s.l, .bool s.r, .int .i64 s.b, .int .i64 s.p] 44 (0, 0)) := alloc_at (by simp)
  have hl0 := (hl.alloc (Obj.cells #[Value.int .i64 t, .slice A n c] 91)).alloc (Obj.cells #[Value.int .i64 s.n, .bool s.l, .bool s.r, .int .i64 s.b, .int .i64 s.p] 44)
  clear hv hl
  go_enter Try.func73, Try.ntmps73
  unfold vSg
  go_wp2_with fail
  generalize ((w.alloc (Obj.cells #[Value.int .i64 t, .slice A n c] 91)).alloc (Obj.cells #[Value.int .i64 s.n, .bool s.l, .bool s.r, .int .i64 s.b, .int .i64 s.p] 44)) = W0 at hB0 b2 b3 hl0 ⊢
  have hw0 : w.heap.size + 1 < W0.heap.size := heap_lt b3
  have HB := Lib.hid (And.intro b2 b3)
  clear b2 b3
  go_loopg [5, 12] n (fun g v i wr => ∃ k : Nat, k + g = n ∧ i = .int .i64 k ∧ OwnI wr W0.heap.size v (mayTo t l s k) ∧ Below W0.heap.size W0 wr)
  case atStart => exact ⟨0, by omega, rfl, Own.nil_, Below.refl _ _⟩
  case round =>
    obtain ⟨k, hk, rfl, hown, hbl⟩ := hrel
    have HK := Lib.hid hk
    have HO := Lib.hid hown
    have hkn : k ≤ n := by omega
    clear hk hown
    have hz := hbl.size
    have g0 : w.heap.size < wr.heap.size := by omega
    have g1 : w.heap.size + 1 < wr.heap.size := by omega
    by_cases hlt : k < n
    · obtain ⟨b, off, m, rfl, hb, hm, c0, c1, c2⟩ := Marks.get (hl0.below hbl (Nat.le_refl _)) hlt
      have HM := Lib.hid hm
      have hmv := HV.out m (List.mem_of_getElem? hm)
      clear hm
      obtain ⟨r0, r1⟩ := blk2 (bheap HB.out.1 hbl (Nat.le_refl _))
      obtain ⟨s0, s1, s2, s3, s4⟩ := blk5 (bheap HB.out.2 hbl (Nat.le_refl _))
      go_wp2_with fail
      refine (fits_any t _ s m _ hs hs' hmv.1 hmv.2).mono ?_
      rintro e w1 ⟨rfl, hb1⟩
      have hz1 := hb1.size
      have hbl1 : Below W0.heap.size W0 w1 := (hbl.alloc hz _).trans (hb1.mono (by simp; omega))
      have hown1 := Lib.hid ((HO.out.alloc (Obj.cells #[Value.int .i64 m.n, .int .i64 m.b, .int .i64 m.p] 46)).below hb1 (Nat.le_refl _))
      have hlen := mayTo_len t l s k
      have HS := Lib.hid (mayTo_succ (t := t) (s := s) HM.out)
      have hz1' := hbl1.size
      cases hf : fits s m t
      all_goals
        go_wp2_with (at_builtin; refine wp_app okInt rfl (.tmp 21) (.tmp 23) rfl W0.heap.size _ (mayTo t l s k) (k : Int) _ rfl rfl rfl rfl (one_eInt _) hown1.out ?_ ?_ ?_ ?_; (omega); (omega); (omega); intro v' w2 hown2 hb2 _ hz2; have HO2 := Lib.hid hown2; clear hown2)
        go_roundg (gk - 1)
        case measure => have := HK.out; omega
      · exact ⟨k + 1, by have := HK.out; omega, by go_num, by rw [HS.out, hf]; simpa using hown1.out, hbl1⟩
      · exact ⟨k + 1, by have := HK.out; omega, by go_num, by rw [HS.out, hf]; simpa using HO2.out, hbl1.trans hb2⟩
    · obtain rfl : k = n := by omega
      go_wp2
      go_ret
      exact ⟨_, rfl, by have := HL.out.len; unfold mayL; rw [this]; exact HO.out.mono (by omega), hB0.trans (hbl.mono (by omega))⟩
end Go.Proofs.Ytoidaigiejilcaa

namespace Go.Proofs.Ytoidaigiejilcaa
open Go.RowKit
set_option linter.unusedVariables false
set_option linter.unusedSimpArgs false

set_option maxHeartbeats 1000000 in
theorem May_any (t : Int) (A : Option Addr) (n c : Nat) (l : List Mk) (s : Sg) (w : World) (hl : Marks w A n l) (hlc : n ≤ c) (hcm : c ≤ maxLen) :
    Calls Try.prog 24 #[.agg #[.int .i64 t, .slice A n c], vSg s] w fun e w' => ∃ v, e = .returned (.tuple #[v, .int .i64 (mayE t l s)]) ∧ OwnI w' w.heap.size v (mayR t l s) ∧ Below w.heap.size w w' := by
  have HL := Lib.hid hl
  have hb0 : Below w.heap.size w ((w.alloc (Obj.cells #[Value.int .i64 t, .slice A n c] 25)).alloc (Obj.cells #[Value.int .i64 s.n, .bool s.l, .bool s.r, .int .i64 s.b, .int .i64 s.p] 44)) := ((Below.refl _ _).alloc (Nat.le_refl _) _).alloc (by simp) _
  clear hl
  by_cases hck : check t l = 0
  · have h0 : (check t l != 0) = false := by simp [hck]
    have HC := Lib.hid hck
    clear hck
    by_cases hse : seen s 9 6 = 0
    · have h1 : (seen s 9 6 != 0) = false := by simp [hse]
      have HS := Lib.hid hse
      have hv := (seen_ok hse).1
      have hm : ∀ m ∈ l, 0 ≤ m.n ∧ m.n ≤ 255 := fun m hm => (check_marks HC.out m hm).1
      have HM := Lib.hid hm
      have hn5 : n ≤ 5 := by have := (check_ok HC.out).2.2.1; have := HL.out.len; omega
      clear hse hm
      go_enter Try.func24, Try.ntmps24
      unfold vSg
      go_wp2_with (first
        | (go_at_call 46; refine (check_any t A n c l _ ((HL.out.alloc _).alloc _) hlc hcm).mono ?_; rintro e w1 ⟨rfl, hb1⟩; obtain ⟨hc1, hf1⟩ := bc hb1; have hz1 := hb1.size; simp at hz1; have g1 : w.heap.size < w1.heap.size := (by omega); have g2 : w.heap.size + 1 < w1.heap.size := (by omega); have HB1 := Lib.hid hb1; clear hb1)
        | (go_at_call 72; refine (sight_any s _).mono ?_; rintro e w2 ⟨rfl, hb2⟩; obtain ⟨hc2, hf2⟩ := bc hb2; have hz2 := hb2.size; have g3 : w.heap.size < w2.heap.size := (by omega); have g4 : w.heap.size + 1 < w2.heap.size := (by omega); have HB2 := Lib.hid hb2; clear hb2)
        | (go_at_call 73; refine (mayB_any t A n c l s _ ((((HL.out.alloc _).alloc _).below HB1.out (Nat.le_refl _)).below HB2.out (Nat.le_refl _)) (by omega) hv.1 hv.2 HM.out).mono ?_; rintro e w3 ⟨v, rfl, ho3, hb3⟩; have HB3 := Lib.hid (And.intro ho3 hb3); clear ho3 hb3))
      go_ret2
      exact ⟨v, by simp [mayE, HC.out, HS.out], by simpa [mayR, mayE, HC.out, HS.out] using HB3.out.1.mono (by omega), hb0.trans ((HB1.out.mono (by simp; omega)).trans ((HB2.out.mono (by omega)).trans (HB3.out.2.mono (by omega))))⟩
    · have h1 : (seen s 9 6 != 0) = true := by simp [hse]
      have HS := Lib.hid hse
      clear hse
      go_enter Try.func24, Try.ntmps24
      unfold vSg
      go_wp2_with (first
        | (go_at_call 46; refine (check_any t A n c l _ ((HL.out.alloc _).alloc _) hlc hcm).mono ?_; rintro e w1 ⟨rfl, hb1⟩; obtain ⟨hc1, hf1⟩ := bc hb1; have hz1 := hb1.size; simp at hz1; have g1 : w.heap.size < w1.heap.size := (by omega); have g2 : w.heap.size + 1 < w1.heap.size := (by omega); have HB1 := Lib.hid hb1; clear hb1)
        | (go_at_call 72; refine (sight_any s _).mono ?_; rintro e w2 ⟨rfl, hb2⟩; have hz2 := hb2.size; have g3 : w.heap.size < w2.heap.size := (by omega); have g4 : w.heap.size + 1 < w2.heap.size := (by omega); have HB2 := Lib.hid hb2; clear hb2))
      go_ret2
      exact ⟨.slice none 0 0, by simp [mayE, HC.out], by simpa [mayR, mayE, HC.out, HS.out] using Own.nil_, hb0.trans ((HB1.out.mono (by simp; omega)).trans (HB2.out.mono (by omega)))⟩
  · have h0 : (check t l != 0) = true := by simp [hck]
    have HC := Lib.hid hck
    clear hck
    go_enter Try.func24, Try.ntmps24
    unfold vSg
    go_wp2_with (go_at_call 46; refine (check_any t A n c l _ ((HL.out.alloc _).alloc _) hlc hcm).mono ?_; rintro e w1 ⟨rfl, hb1⟩; have HB1 := Lib.hid hb1; clear hb1)
    go_ret2
    exact ⟨.slice none 0 0, by simp [mayE, HC.out], by simpa [mayR, mayE, HC.out] using Own.nil_, hb0.trans (HB1.out.mono (by simp; omega))⟩
end Go.Proofs.Ytoidaigiejilcaa

namespace Go.Proofs.Ytoidaigiejilcaa
open Go.RowKit
set_option linter.unusedVariables false
set_option linter.unusedSimpArgs false

theorem take_noI {l : List Int} {q : Nat} {x m : Int} (h : (l.take q).contains m = false) (hx : l[q]? = some x) (hne : ¬ x = m) : (l.take (q + 1)).contains m = false := by
  rw [List.take_add_one, hx]
  simp only [Option.toList, List.contains_eq_mem, decide_eq_false_iff_not, List.mem_append, List.mem_singleton, not_or] at h ⊢
  exact ⟨h, fun e => hne e.symm⟩

set_option maxHeartbeats 1000000 in
theorem Verdict_any (t : Int) (A : Option Addr) (n c : Nat) (l : List Mk) (s : Sg) (o : Int) (w : World) (hl : Marks w A n l) (hlc : n ≤ c) (hcm : c ≤ maxLen) :
    Calls Try.prog 26 #[.agg #[.int .i64 t, .slice A n c], vSg s, .int .i64 o] w fun e w' => e = .returned (.tuple #[.int .i64 (verV t l s o), .int .i64 (verE t l s o)]) ∧ Below w.heap.size w w' := by
  have HL := Lib.hid hl
  have hb0 : Below w.heap.size w ((w.alloc (Obj.cells #[Value.int .i64 t, .slice A n c] 25)).alloc (Obj.cells #[Value.int .i64 s.n, .bool s.l, .bool s.r, .int .i64 s.b, .int .i64 s.p] 44)) := ((Below.refl _ _).alloc (Nat.le_refl _) _).alloc (by simp) _
  clear hl
  by_cases hma : mayE t l s = 0
  · have h0 : (mayE t l s == 0) = true := by simp [hma]
    have HC := Lib.hid hma
    clear hma
    have hnm : n ≤ maxLen := by omega
    have hnl := HL.out.len
    have HN := Lib.hid hnl
    clear hnl
    cases hoe : (ownerE [o] n != 0)
    · have HO := Lib.hid (show ownerE [o] n = 0 by simpa using hoe)
      go_enter Try.func26, Try.ntmps26
      unfold vSg
      go_wp2_with (first
        | (go_at_call 24; refine (May_any t A n c l s _ ((HL.out.alloc _).alloc _) hlc hcm).mono ?_; rintro e w1 ⟨v, rfl, ho1, hb1⟩; obtain ⟨hc1, hf1⟩ := bc hb1; have hz1 := hb1.size; simp at hz1; have g1 : w.heap.size < w1.heap.size := (by omega); have HB1 := Lib.hid (And.intro ho1 hb1); clear ho1 hb1)
        | (go_at_call 74; refine (owner_any t A n c [o] (some ⟨w1.heap.size, 0, none⟩) 1 1 _ (ints1 _ _ _) hnm (by decide)).mono ?_; rintro e w2 ⟨rfl, hb2⟩; have hz2 := hb2.size; simp at hz2; have HB2 := Lib.hid hb2; clear hb2 hc1 hf1; obtain ⟨A', c', rfl, hsl, hlc', hcm'⟩ := (((HB1.out.1.alloc _).below HB2.out (Nat.le_refl _))).form lenInt))
      have hmr : mayR t l s = mayL t l s := by simp [mayR, HC.out]
      obtain ⟨L, hL⟩ : ∃ L, L = mayR t l s := ⟨_, rfl⟩
      rw [← hL] at hsl hlc' ⊢
      have HRL := Lib.hid (hL.trans hmr)
      have HBl := Lib.hid (show Below w.heap.size w w2 from hb0.trans ((HB1.out.2.mono (by simp; omega)).trans (((Below.refl _ _).alloc (Nat.le_refl _) _).mono (by omega) |>.trans (HB2.out.mono (by simp; omega)))))
      have HSP := Lib.hid (show verE t l s o = 0 ∧ verV t l s o = verL L o by rw [hL, hmr]; simp [verV, verE, HC.out, HN.out, HO.out])
      clear hL hmr HB1 HB2 hz1 hz2 hoe h0 hb0
      unfold maxLen at hcm'
      have hlm : L.length ≤ 9223372036854775807 := by omega
      go_loopg [30] L.length (fun g i wr => ∃ q : Nat, q + g = L.length ∧ i = .int .i64 q ∧ (L.take q).contains o = false ∧ w2 = wr)
      case atStart => exact ⟨0, by omega, rfl, by simp, rfl⟩
      case round =>
        obtain ⟨q, hq, rfl, hno, rfl⟩ := hrel
        have HQ := Lib.hid hq
        have HNO := Lib.hid hno
        have hqm : q ≤ L.length := by omega
        clear hq hno
        by_cases hlt : q < L.length
        · obtain ⟨b, off, x, rfl, hb, hx, d0⟩ := Ints.get hsl hlt
          have HX := Lib.hid hx
          clear hx
          cases hxo : (x == o)
          · have HXO := Lib.hid (show ¬ x = o by simpa using hxo)
            go_wp2
            go_roundg (gk - 1)
            case measure => have := HQ.out; omega
            case rel => exact ⟨q + 1, by have := HQ.out; omega, by go_num, take_noI HNO.out HX.out HXO.out, rfl⟩
          · have HXO := Lib.hid (show x = o by simpa using hxo)
            have HIN := Lib.hid (show L.contains o = true by
              rw [List.contains_eq_mem, decide_eq_true_eq, ← HXO.out]; exact List.mem_of_getElem? HX.out)
            cases h1 : ((L.length : Int) == 1)
            · have H1 := Lib.hid (show ¬ L.length = 1 by (have := beq_eq_false_iff_ne.1 h1; omega))
              go_wp2
              go_ret2
              exact ⟨ret_int2 (by rw [HSP.out.2]; simp only [verL, HIN.out, if_true, if_neg H1.out]) HSP.out.1.symm, HBl.out⟩
            · have H1 := Lib.hid (show L.length = 1 by (have := beq_iff_eq.1 h1; omega))
              go_wp2
              go_ret2
              exact ⟨ret_int2 (by rw [HSP.out.2]; simp only [verL, HIN.out, if_true, if_pos H1.out]) HSP.out.1.symm, HBl.out⟩
        · obtain rfl : q = L.length := by omega
          have HIN := Lib.hid (show L.contains o = false by have := HNO.out; rwa [List.take_length] at this)
          go_wp2
          go_ret2
          exact ⟨ret_int2 (by rw [HSP.out.2]; simp only [verL, HIN.out, Bool.false_eq_true, if_false]) HSP.out.1.symm, HBl.out⟩
    · have HO := Lib.hid (show ¬ ownerE [o] n = 0 by simpa using hoe)
      go_enter Try.func26, Try.ntmps26
      unfold vSg
      go_wp2_with (first
        | (go_at_call 24; refine (May_any t A n c l s _ ((HL.out.alloc _).alloc _) hlc hcm).mono ?_; rintro e w1 ⟨v, rfl, ho1, hb1⟩; obtain ⟨hc1, hf1⟩ := bc hb1; have hz1 := hb1.size; simp at hz1; have g1 : w.heap.size < w1.heap.size := (by omega); have HB1 := Lib.hid (And.intro ho1 hb1); clear ho1 hb1)
        | (go_at_call 74; refine (owner_any t A n c [o] (some ⟨w1.heap.size, 0, none⟩) 1 1 _ (ints1 _ _ _) hnm (by decide)).mono ?_; rintro e w2 ⟨rfl, hb2⟩; have hz2 := hb2.size; simp at hz2; have HB2 := Lib.hid hb2; clear hb2 hc1 hf1))
      go_ret2
      exact ⟨by simp [verV, verE, HC.out, HN.out, HO.out], hb0.trans ((HB1.out.2.mono (by simp; omega)).trans (((Below.refl _ _).alloc (Nat.le_refl _) _).mono (by omega) |>.trans (HB2.out.mono (by simp; omega))))⟩
  · have h0 : (mayE t l s == 0) = false := by simp [hma]
    have h1 : (mayE t l s != 0) = true := by simp [hma]
    have HC := Lib.hid hma
    clear hma
    go_enter Try.func26, Try.ntmps26
    unfold vSg
    go_wp2_with (go_at_call 24; refine (May_any t A n c l s _ ((HL.out.alloc _).alloc _) hlc hcm).mono ?_; rintro e w1 ⟨v, rfl, ho1, hb1⟩; have HB1 := Lib.hid (And.intro ho1 hb1); clear ho1 hb1)
    go_ret2
    exact ⟨by simp [verV, verE, HC.out], hb0.trans (HB1.out.2.mono (by simp; omega))⟩
end Go.Proofs.Ytoidaigiejilcaa
