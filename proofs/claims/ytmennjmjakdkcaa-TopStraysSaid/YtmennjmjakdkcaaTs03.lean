/- TopStrays 3: Fits, May, Grid, Kit. -/
import Derived.Test.YtmennjmjakdkcaaTs02
import Derived.Test.YtmennjmjakdkcaaTs01
import Derived.Deep.AppendLies
import Derived.Deep.RegionHeld3
import Derived.Laws.AppendOwnNone
namespace Go.Proofs.Ytmennjmjakdkcaa
open Go.RowKit
set_option linter.unusedVariables false
set_option linter.unusedSimpArgs false

set_option maxHeartbeats 1000000 in
theorem fits_any (t : Int) (v : Value) (s : Sg) (m : Mk) (w : World) (hs : 0 ≤ s.n) (hs' : s.n ≤ 255) (hm : 0 ≤ m.n) (hm' : m.n ≤ 255) :
    Calls Try.prog 97 #[.agg #[.int .i64 t, v], vSg s, vMk m] w fun e w' => e = .returned (.bool (fits s m t)) ∧ Below w.heap.size w w' := by
  have ho := onI_lo m.n s.l s.r
  have ho' := onI_hi m.n s.l s.r
  have hb := butI_lo s.n (onI m.n s.l s.r)
  have hb' := butI_hi s.n (onI m.n s.l s.r)
  go_enter Try.func97, Try.ntmps97
  unfold vSg vMk
  go_upto_region 1 with (fail)
  go_cut [30] (fun q wc => q = .bool (!alikeBP s m) ∧ (((w.alloc (Obj.cells #[Value.int .i64 t, v] 112)).alloc (Obj.cells #[Value.int .i64 s.n, .bool s.l, .bool s.r, .int .i64 s.b, .int .i64 s.p] 36)).alloc (Obj.cells #[Value.int .i64 m.n, .int .i64 m.b, .int .i64 m.p] 62)) = wc)
  case first =>
    cases e1 : (s.b != -1) <;> cases e2 : (s.b != m.b) <;> cases e3 : (s.p != -1) <;> cases e4 : (s.p != m.p)
    all_goals
      go_wp2
      go_meet
      exact ⟨by simp_all [alikeBP], rfl⟩
  case rest =>
    obtain ⟨rfl, rfl⟩ := hcut
    cases hal : alikeBP s m
    · have HF := Lib.hid (show fits s m t = false by simp [fits, hal])
      go_wp2_with fail
      go_ret
      exact ⟨ret_bool HF.out.symm, (((Below.refl _ _).alloc (Nat.le_refl _) _).alloc (by simp) _).alloc (by simp; omega) _⟩
    · have HF := Lib.hid hal
      clear hal
      go_wp2_with fail
      obtain ⟨W2, hW2⟩ : ∃ W2, W2 = ((w.alloc (Obj.cells #[Value.int .i64 t, v] 112)).alloc (Obj.cells #[Value.int .i64 s.n, .bool s.l, .bool s.r, .int .i64 s.b, .int .i64 s.p] 36)).alloc (Obj.cells #[Value.int .i64 m.n, .int .i64 m.b, .int .i64 m.p] 62) := ⟨_, rfl⟩
      rw [← hW2]
      have hB : Below w.heap.size w W2 := by rw [hW2]; exact (((Below.refl _ _).alloc (Nat.le_refl _) _).alloc (by simp) _).alloc (by simp; omega) _
      have b3 : W2.heap[w.heap.size]? = some (Obj.cells #[Value.int .i64 t, v] 112 (0, 0)) := by rw [hW2]; exact hblk_alloc (hblk_alloc (alloc_at rfl) _) _
      have b4 : W2.heap[w.heap.size + 1]? = some (Obj.cells #[Value.int .i64 s.n, .bool s.l, .bool s.r, .int .i64 s.b, .int .i64 s.p] 36 (0, 0)) := by rw [hW2]; exact hblk_alloc (alloc_at (by simp)) _
      have b5 : W2.heap[w.heap.size + 1 + 1]? = some (Obj.cells #[Value.int .i64 m.n, .int .i64 m.b, .int .i64 m.p] 62 (0, 0)) := by rw [hW2]; exact alloc_at (by simp)
      clear hW2
      obtain ⟨c0, c1, c2, c3, c4⟩ := blk5 b4
      have k0 := cell_regrown c0
      have k1 := cell_regrown c1
      have k2 := cell_regrown c2
      have k3 := cell_regrown c3
      have k4 := cell_regrown c4
      have k5 := cell_regrown (blk3 b5).1
      have cOn : ∀ d os, Calls Try.prog 113 #[.int .i64 m.n, vSg s] (Sort.grow (redrawn W2 d) os) (fun e w'' => e = .returned (.int .i64 (onI m.n s.l s.r)) ∧ ∃ p : Regrown, w'' = Sort.grow (redrawn W2 p.d) p.os) := fun d os => Calls.regrown_of (on_any m.n s _ hm hm')
      have HCon := Lib.hid cOn
      clear cOn c0 c1 c2 c3 c4
      refine wp_region_quiet_below (by kernel_rfl) (by kernel_rfl) ?_
      repeat (quiet_step (exact HCon.out _ _))
      refine wpQuiet_nil ?_
      intro _ hw'
      obtain ⟨⟨dq, osq⟩, hw''⟩ := hw'
      subst hw''
      obtain ⟨W3, hW3⟩ : ∃ W3, W3 = Sort.grow (redrawn W2 dq) osq := ⟨_, rfl⟩
      have hB3 : Below W2.heap.size W2 W3 := by rw [hW3]; exact below_regrown W2 dq osq
      rw [← hW3]
      have hs2 : w.heap.size + 2 < W2.heap.size := by have := heap_lt b5; omega
      have q0 : W3.cell? ⟨w.heap.size, 0, none⟩ = some (.int .i64 t) := bcell (blk2 b3).1 hB3 (Nat.le_refl _)
      clear hW3 k0 k1 k2 k3 k4 k5 HCon
      cases hg : (butI (onI m.n s.l s.r) s.n == 0)
      all_goals
        go_wp2_with fail
        go_quiet (first
          | (go_at_call 114; exact quiet_left (but_any _ _ _ (by assumption) (by assumption) (by assumption) (by assumption)))
          | (go_at_call 115; exact quiet_left (count_any _ _ hb hb')))
        go_wp2
        go_ret
        refine ⟨ret_bool ?_, hB.trans (((hB3.mono (by omega)).trans (below_drewN (Below.refl _ _) _)))⟩
      · have h0 : ¬ butI (onI m.n s.l s.r) s.n = 0 := by simpa using hg
        simp [fits, HF.out, h0]
      · have h0 : butI (onI m.n s.l s.r) s.n = 0 := by simpa using hg
        simp [fits, HF.out, h0]
end Go.Proofs.Ytmennjmjakdkcaa
namespace Go.Proofs.Ytmennjmjakdkcaa
open Go.RowKit
set_option linter.unusedVariables false
set_option linter.unusedSimpArgs false

set_option maxHeartbeats 1000000 in
theorem mayB_any (t : Int) (A : Option Addr) (n c : Nat) (l : List Mk) (s : Sg) (w : World) (hl : Marks w A n l) (hn : n ≤ 4294967295) (hs : 0 ≤ s.n) (hs' : s.n ≤ 255) (hv : ∀ m ∈ l, 0 ≤ m.n ∧ m.n ≤ 255) :
    Calls Try.prog 60 #[.agg #[.int .i64 t, .slice A n c], vSg s] w fun e w' => ∃ v, e = .returned v ∧ OwnI w' w.heap.size v (mayL t l s) ∧ Below w.heap.size w w' := by
  have HV := Lib.hid hv
  have HL := Lib.hid hl
  have hB0 : Below w.heap.size w ((w.alloc (Obj.cells #[Value.int .i64 t, .slice A n c] 112)).alloc (Obj.cells #[Value.int .i64 s.n, .bool s.l, .bool s.r, .int .i64 s.b, .int .i64 s.p] 36)) := ((Below.refl _ _).alloc (Nat.le_refl _) _).alloc (by simp) _
  have b2 : ((w.alloc (Obj.cells #[Value.int .i64 t, .slice A n c] 112)).alloc (Obj.cells #[Value.int .i64 s.n, .bool s.l, .bool s.r, .int .i64 s.b, .int .i64 s.p] 36)).heap[w.heap.size]? = some (Obj.cells #[Value.int .i64 t, .slice A n c] 112 (0, 0)) := hblk_alloc (alloc_at rfl) _
  have b3 : ((w.alloc (Obj.cells #[Value.int .i64 t, .slice A n c] 112)).alloc (Obj.cells #[Value.int .i64 s.n, .bool s.l, .bool s.r, .int .i64 s.b, .int .i64 s.p] 36)).heap[w.heap.size + 1]? = some (Obj.cells #[Value.int .i64 s.n, .bool s.l, .bool s.r, .int .i64 s.b, .int .i64 s.p] 36 (0, 0)) := alloc_at (by simp)
  have hl0 := (hl.alloc (Obj.cells #[Value.int .i64 t, .slice A n c] 112)).alloc (Obj.cells #[Value.int .i64 s.n, .bool s.l, .bool s.r, .int .i64 s.b, .int .i64 s.p] 36)
  clear hv hl
  go_enter Try.func60, Try.ntmps60
  unfold vSg
  go_wp2_with fail
  generalize ((w.alloc (Obj.cells #[Value.int .i64 t, .slice A n c] 112)).alloc (Obj.cells #[Value.int .i64 s.n, .bool s.l, .bool s.r, .int .i64 s.b, .int .i64 s.p] 36)) = W0 at hB0 b2 b3 hl0 ⊢
  have hw0 : w.heap.size + 1 < W0.heap.size := heap_lt b3
  have HB := Lib.hid (And.intro b2 b3)
  clear b2 b3
  go_loopg [5, 12] n (fun g v i wr => ∃ k : Nat, k + g = n ∧ i = .int .i64 k ∧ OwnI wr W0.heap.size v (mayTo t l s k) ∧ Below W0.heap.size W0 wr)
  case atStart => exact ⟨0, by omega, rfl, Own.nil_, Below.refl _ _⟩
  case round =>
    obtain ⟨k, hk, rfl, hown, hbl⟩ := hrel
    have HK := Lib.hid hk
    have HO := Lib.hid hown
    have hkn : k ≤ n := by omega
    clear hk hown
    have hz := hbl.size
    have g0 : w.heap.size < wr.heap.size := by omega
    have g1 : w.heap.size + 1 < wr.heap.size := by omega
    by_cases hlt : k < n
    · obtain ⟨b, off, m, rfl, hb, hm, c0, c1, c2⟩ := Marks.get (hl0.below hbl (Nat.le_refl _)) hlt
      have HM := Lib.hid hm
      have hmv := HV.out m (List.mem_of_getElem? hm)
      clear hm
      obtain ⟨r0, r1⟩ := blk2 (bheap HB.out.1 hbl (Nat.le_refl _))
      obtain ⟨s0, s1, s2, s3, s4⟩ := blk5 (bheap HB.out.2 hbl (Nat.le_refl _))
      go_wp2_with fail
      refine (fits_any t _ s m _ hs hs' hmv.1 hmv.2).mono ?_
      rintro e w1 ⟨rfl, hb1⟩
      have hz1 := hb1.size
      have hbl1 : Below W0.heap.size W0 w1 := (hbl.alloc hz _).trans (hb1.mono (by simp; omega))
      have hown1 := Lib.hid ((HO.out.alloc (Obj.cells #[Value.int .i64 m.n, .int .i64 m.b, .int .i64 m.p] 62)).below hb1 (Nat.le_refl _))
      have hlen := mayTo_len t l s k
      have HS := Lib.hid (mayTo_succ (t := t) (s := s) HM.out)
      have hz1' := hbl1.size
      cases hf : fits s m t
      all_goals
        go_wp2_with (at_builtin; refine wp_app okInt rfl (.tmp 21) (.tmp 23) rfl W0.heap.size _ (mayTo t l s k) (k : Int) _ rfl rfl rfl rfl (one_eInt _) hown1.out ?_ ?_ ?_ ?_; (omega); (omega); (omega); intro v' w2 hown2 hb2 _ hz2; have HO2 := Lib.hid hown2; clear hown2)
        go_roundg (gk - 1)
        case measure => have := HK.out; omega
      · exact ⟨k + 1, by have := HK.out; omega, by go_num, by rw [HS.out, hf]; simpa using hown1.out, hbl1⟩
      · exact ⟨k + 1, by have := HK.out; omega, by go_num, by rw [HS.out, hf]; simpa using HO2.out, hbl1.trans hb2⟩
    · obtain rfl : k = n := by omega
      go_wp2
      go_ret
      exact ⟨_, rfl, by have := HL.out.len; unfold mayL; rw [this]; exact HO.out.mono (by omega), hB0.trans (hbl.mono (by omega))⟩
end Go.Proofs.Ytmennjmjakdkcaa

namespace Go.Proofs.Ytmennjmjakdkcaa
open Go.RowKit
set_option linter.unusedVariables false
set_option linter.unusedSimpArgs false

set_option maxHeartbeats 1000000 in
theorem May_any (t : Int) (A : Option Addr) (n c : Nat) (l : List Mk) (s : Sg) (w : World) (hl : Marks w A n l) (hlc : n ≤ c) (hcm : c ≤ maxLen) :
    Calls Try.prog 13 #[.agg #[.int .i64 t, .slice A n c], vSg s] w fun e w' => ∃ v, e = .returned (.tuple #[v, .int .i64 (mayE t l s)]) ∧ OwnI w' w.heap.size v (mayR t l s) ∧ Below w.heap.size w w' := by
  have HL := Lib.hid hl
  have hb0 : Below w.heap.size w ((w.alloc (Obj.cells #[Value.int .i64 t, .slice A n c] 25)).alloc (Obj.cells #[Value.int .i64 s.n, .bool s.l, .bool s.r, .int .i64 s.b, .int .i64 s.p] 36)) := ((Below.refl _ _).alloc (Nat.le_refl _) _).alloc (by simp) _
  clear hl
  by_cases hck : check t l = 0
  · have h0 : (check t l != 0) = false := by simp [hck]
    have HC := Lib.hid hck
    clear hck
    by_cases hse : seen s 9 6 = 0
    · have h1 : (seen s 9 6 != 0) = false := by simp [hse]
      have HS := Lib.hid hse
      have hv := (seen_ok hse).1
      have hm : ∀ m ∈ l, 0 ≤ m.n ∧ m.n ≤ 255 := fun m hm => (check_marks HC.out m hm).1
      have HM := Lib.hid hm
      have hn5 : n ≤ 5 := by have := (check_ok HC.out).2.2.1; have := HL.out.len; omega
      clear hse hm
      go_enter Try.func13, Try.ntmps13
      unfold vSg
      go_wp2_with (first
        | (go_at_call 58; refine (check_any t A n c l _ ((HL.out.alloc _).alloc _) hlc hcm).mono ?_; rintro e w1 ⟨rfl, hb1⟩; obtain ⟨hc1, hf1⟩ := bc hb1; have hz1 := hb1.size; simp at hz1; have g1 : w.heap.size < w1.heap.size := (by omega); have g2 : w.heap.size + 1 < w1.heap.size := (by omega); have HB1 := Lib.hid hb1; clear hb1)
        | (go_at_call 59; refine (sight_any s _).mono ?_; rintro e w2 ⟨rfl, hb2⟩; obtain ⟨hc2, hf2⟩ := bc hb2; have hz2 := hb2.size; have g3 : w.heap.size < w2.heap.size := (by omega); have g4 : w.heap.size + 1 < w2.heap.size := (by omega); have HB2 := Lib.hid hb2; clear hb2)
        | (go_at_call 60; refine (mayB_any t A n c l s _ ((((HL.out.alloc _).alloc _).below HB1.out (Nat.le_refl _)).below HB2.out (Nat.le_refl _)) (by omega) hv.1 hv.2 HM.out).mono ?_; rintro e w3 ⟨v, rfl, ho3, hb3⟩; have HB3 := Lib.hid (And.intro ho3 hb3); clear ho3 hb3))
      go_ret2
      exact ⟨v, by simp [mayE, HC.out, HS.out], by simpa [mayR, mayE, HC.out, HS.out] using HB3.out.1.mono (by omega), hb0.trans ((HB1.out.mono (by simp; omega)).trans ((HB2.out.mono (by omega)).trans (HB3.out.2.mono (by omega))))⟩
    · have h1 : (seen s 9 6 != 0) = true := by simp [hse]
      have HS := Lib.hid hse
      clear hse
      go_enter Try.func13, Try.ntmps13
      unfold vSg
      go_wp2_with (first
        | (go_at_call 58; refine (check_any t A n c l _ ((HL.out.alloc _).alloc _) hlc hcm).mono ?_; rintro e w1 ⟨rfl, hb1⟩; obtain ⟨hc1, hf1⟩ := bc hb1; have hz1 := hb1.size; simp at hz1; have g1 : w.heap.size < w1.heap.size := (by omega); have g2 : w.heap.size + 1 < w1.heap.size := (by omega); have HB1 := Lib.hid hb1; clear hb1)
        | (go_at_call 59; refine (sight_any s _).mono ?_; rintro e w2 ⟨rfl, hb2⟩; have hz2 := hb2.size; have g3 : w.heap.size < w2.heap.size := (by omega); have g4 : w.heap.size + 1 < w2.heap.size := (by omega); have HB2 := Lib.hid hb2; clear hb2))
      go_ret2
      exact ⟨.slice none 0 0, by simp [mayE, HC.out], by simpa [mayR, mayE, HC.out, HS.out] using Own.nil_, hb0.trans ((HB1.out.mono (by simp; omega)).trans (HB2.out.mono (by omega)))⟩
  · have h0 : (check t l != 0) = true := by simp [hck]
    have HC := Lib.hid hck
    clear hck
    go_enter Try.func13, Try.ntmps13
    unfold vSg
    go_wp2_with (go_at_call 58; refine (check_any t A n c l _ ((HL.out.alloc _).alloc _) hlc hcm).mono ?_; rintro e w1 ⟨rfl, hb1⟩; have HB1 := Lib.hid hb1; clear hb1)
    go_ret2
    exact ⟨.slice none 0 0, by simp [mayE, HC.out], by simpa [mayR, mayE, HC.out] using Own.nil_, hb0.trans (HB1.out.mono (by simp; omega))⟩
end Go.Proofs.Ytmennjmjakdkcaa

namespace Go.Proofs.Ytmennjmjakdkcaa
open Go.RowKit
set_option linter.unusedVariables false
set_option linter.unusedSimpArgs false

theorem take_noI {l : List Int} {q : Nat} {x m : Int} (h : (l.take q).contains m = false) (hx : l[q]? = some x) (hne : ¬ x = m) : (l.take (q + 1)).contains m = false := by
  rw [List.take_add_one, hx]
  simp only [Option.toList, List.contains_eq_mem, decide_eq_false_iff_not, List.mem_append, List.mem_singleton, not_or] at h ⊢
  exact ⟨h, fun e => hne e.symm⟩

set_option maxHeartbeats 1000000 in
theorem Verdict_any (t : Int) (A : Option Addr) (n c : Nat) (l : List Mk) (s : Sg) (o : Int) (w : World) (hl : Marks w A n l) (hlc : n ≤ c) (hcm : c ≤ maxLen) :
    Calls Try.prog 15 #[.agg #[.int .i64 t, .slice A n c], vSg s, .int .i64 o] w fun e w' => e = .returned (.tuple #[.int .i64 (verV t l s o), .int .i64 (verE t l s o)]) ∧ Below w.heap.size w w' := by
  have HL := Lib.hid hl
  have hb0 : Below w.heap.size w ((w.alloc (Obj.cells #[Value.int .i64 t, .slice A n c] 25)).alloc (Obj.cells #[Value.int .i64 s.n, .bool s.l, .bool s.r, .int .i64 s.b, .int .i64 s.p] 36)) := ((Below.refl _ _).alloc (Nat.le_refl _) _).alloc (by simp) _
  clear hl
  by_cases hma : mayE t l s = 0
  · have h0 : (mayE t l s == 0) = true := by simp [hma]
    have HC := Lib.hid hma
    clear hma
    have hnm : n ≤ maxLen := by omega
    have hnl := HL.out.len
    have HN := Lib.hid hnl
    clear hnl
    cases hoe : (ownerE [o] n != 0)
    · have HO := Lib.hid (show ownerE [o] n = 0 by simpa using hoe)
      go_enter Try.func15, Try.ntmps15
      unfold vSg
      go_wp2_with (first
        | (go_at_call 13; refine (May_any t A n c l s _ ((HL.out.alloc _).alloc _) hlc hcm).mono ?_; rintro e w1 ⟨v, rfl, ho1, hb1⟩; obtain ⟨hc1, hf1⟩ := bc hb1; have hz1 := hb1.size; simp at hz1; have g1 : w.heap.size < w1.heap.size := (by omega); have HB1 := Lib.hid (And.intro ho1 hb1); clear ho1 hb1)
        | (go_at_call 61; refine (owner_any t A n c [o] (some ⟨w1.heap.size, 0, none⟩) 1 1 _ (ints1 _ _ _) hnm (by decide)).mono ?_; rintro e w2 ⟨rfl, hb2⟩; have hz2 := hb2.size; simp at hz2; have HB2 := Lib.hid hb2; clear hb2 hc1 hf1; obtain ⟨A', c', rfl, hsl, hlc', hcm'⟩ := (((HB1.out.1.alloc _).below HB2.out (Nat.le_refl _))).form lenInt))
      have hmr : mayR t l s = mayL t l s := by simp [mayR, HC.out]
      obtain ⟨L, hL⟩ : ∃ L, L = mayR t l s := ⟨_, rfl⟩
      rw [← hL] at hsl hlc' ⊢
      have HRL := Lib.hid (hL.trans hmr)
      have HBl := Lib.hid (show Below w.heap.size w w2 from hb0.trans ((HB1.out.2.mono (by simp; omega)).trans (((Below.refl _ _).alloc (Nat.le_refl _) _).mono (by omega) |>.trans (HB2.out.mono (by simp; omega)))))
      have HSP := Lib.hid (show verE t l s o = 0 ∧ verV t l s o = verL L o by rw [hL, hmr]; simp [verV, verE, HC.out, HN.out, HO.out])
      clear hL hmr HB1 HB2 hz1 hz2 hoe h0 hb0
      unfold maxLen at hcm'
      have hlm : L.length ≤ 9223372036854775807 := by omega
      go_loopg [30] L.length (fun g i wr => ∃ q : Nat, q + g = L.length ∧ i = .int .i64 q ∧ (L.take q).contains o = false ∧ w2 = wr)
      case atStart => exact ⟨0, by omega, rfl, by simp, rfl⟩
      case round =>
        obtain ⟨q, hq, rfl, hno, rfl⟩ := hrel
        have HQ := Lib.hid hq
        have HNO := Lib.hid hno
        have hqm : q ≤ L.length := by omega
        clear hq hno
        by_cases hlt : q < L.length
        · obtain ⟨b, off, x, rfl, hb, hx, d0⟩ := Ints.get hsl hlt
          have HX := Lib.hid hx
          clear hx
          cases hxo : (x == o)
          · have HXO := Lib.hid (show ¬ x = o by simpa using hxo)
            go_wp2
            go_roundg (gk - 1)
            case measure => have := HQ.out; omega
            case rel => exact ⟨q + 1, by have := HQ.out; omega, by go_num, take_noI HNO.out HX.out HXO.out, rfl⟩
          · have HXO := Lib.hid (show x = o by simpa using hxo)
            have HIN := Lib.hid (show L.contains o = true by
              rw [List.contains_eq_mem, decide_eq_true_eq, ← HXO.out]; exact List.mem_of_getElem? HX.out)
            cases h1 : ((L.length : Int) == 1)
            · have H1 := Lib.hid (show ¬ L.length = 1 by (have := beq_eq_false_iff_ne.1 h1; omega))
              go_wp2
              go_ret2
              exact ⟨ret_int2 (by rw [HSP.out.2]; simp only [verL, HIN.out, if_true, if_neg H1.out]) HSP.out.1.symm, HBl.out⟩
            · have H1 := Lib.hid (show L.length = 1 by (have := beq_iff_eq.1 h1; omega))
              go_wp2
              go_ret2
              exact ⟨ret_int2 (by rw [HSP.out.2]; simp only [verL, HIN.out, if_true, if_pos H1.out]) HSP.out.1.symm, HBl.out⟩
        · obtain rfl : q = L.length := by omega
          have HIN := Lib.hid (show L.contains o = false by have := HNO.out; rwa [List.take_length] at this)
          go_wp2
          go_ret2
          exact ⟨ret_int2 (by rw [HSP.out.2]; simp only [verL, HIN.out, Bool.false_eq_true, if_false]) HSP.out.1.symm, HBl.out⟩
    · have HO := Lib.hid (show ¬ ownerE [o] n = 0 by simpa using hoe)
      go_enter Try.func15, Try.ntmps15
      unfold vSg
      go_wp2_with (first
        | (go_at_call 13; refine (May_any t A n c l s _ ((HL.out.alloc _).alloc _) hlc hcm).mono ?_; rintro e w1 ⟨v, rfl, ho1, hb1⟩; obtain ⟨hc1, hf1⟩ := bc hb1; have hz1 := hb1.size; simp at hz1; have g1 : w.heap.size < w1.heap.size := (by omega); have HB1 := Lib.hid (And.intro ho1 hb1); clear ho1 hb1)
        | (go_at_call 61; refine (owner_any t A n c [o] (some ⟨w1.heap.size, 0, none⟩) 1 1 _ (ints1 _ _ _) hnm (by decide)).mono ?_; rintro e w2 ⟨rfl, hb2⟩; have hz2 := hb2.size; simp at hz2; have HB2 := Lib.hid hb2; clear hb2 hc1 hf1))
      go_ret2
      exact ⟨by simp [verV, verE, HC.out, HN.out, HO.out], hb0.trans ((HB1.out.2.mono (by simp; omega)).trans (((Below.refl _ _).alloc (Nat.le_refl _) _).mono (by omega) |>.trans (HB2.out.mono (by simp; omega))))⟩
  · have h0 : (mayE t l s == 0) = false := by simp [hma]
    have h1 : (mayE t l s != 0) = true := by simp [hma]
    have HC := Lib.hid hma
    clear hma
    go_enter Try.func15, Try.ntmps15
    unfold vSg
    go_wp2_with (go_at_call 13; refine (May_any t A n c l s _ ((HL.out.alloc _).alloc _) hlc hcm).mono ?_; rintro e w1 ⟨v, rfl, ho1, hb1⟩; have HB1 := Lib.hid (And.intro ho1 hb1); clear ho1 hb1)
    go_ret2
    exact ⟨by simp [verV, verE, HC.out], hb0.trans (HB1.out.2.mono (by simp; omega))⟩
end Go.Proofs.Ytmennjmjakdkcaa
namespace Go.Proofs.Ytmennjmjakdkcaa
open Go.RowKit
set_option linter.unusedVariables false
set_option linter.unusedSimpArgs false

theorem okInts : ElemOk Try.prog 26 22 1 24 := ElemOk.mk' (z := .slice none 0 0) Try.underlying26 (by kernel_rfl) rfl (by decide)

/-- the values are slices of integers of the call's own, and read as the lists -/
def Rws (w : World) (base : Nat) (mv : List Value) (ls : List (List Int)) : Prop :=
  mv.length = ls.length ∧ ∀ (i : Nat) v, mv[i]? = some v → ∃ l, ls[i]? = some l ∧ OwnI w base v l
/-- the slice v of slices is the call's own, its rows too, and it reads as ls -/
def OwnG (w : World) (base : Nat) (v : Value) (ls : List (List Int)) : Prop := ∃ mv, Own eVal 22 1 w base v mv ∧ Rws w base mv ls

theorem lenFlatVal (l : List Value) : (l.flatMap eVal).length = l.length := by
  induction l with
  | nil => rfl
  | cons a r ih => rw [List.flatMap_cons, List.length_append, ih]; simp [eVal]; omega
theorem own_ne {α β : Type} {ea : α → List Value} {eb : β → List Value} {t u : TypeId} {s r : Nat} {w : World} {b c : Nat} {x y : Value} {l : List α} {m : List β} (h : Own ea t s w b x l) (k : Own eb u r w c y m) (hne : t ≠ u) :
    x.ownBlock = none ∨ x.ownBlock ≠ y.ownBlock := by
  rcases h.2 with ⟨rfl, _⟩ | ⟨g, cap, cur, rfl, _, h2, _⟩
  · exact .inl rfl
  · refine .inr ?_
    rcases k.2 with ⟨rfl, _⟩ | ⟨g', cap', cur', rfl, _, k2, _⟩
    · simp [Value.ownBlock]
    · intro e
      simp only [Value.ownBlock, Option.some.injEq] at e
      subst e
      rw [h2] at k2
      cases k2
      exact hne rfl
theorem OwnG.nil_ {w : World} {base : Nat} : OwnG w base (.slice none 0 0) [] := ⟨[], Own.nil_, rfl, fun i v h => by simp at h⟩
theorem OwnG.below {w w' : World} {base B : Nat} {v : Value} {ls : List (List Int)} (h : OwnG w base v ls) (hb : Below B w w') (hB : w.heap.size ≤ B) : OwnG w' base v ls := by
  obtain ⟨mv, h1, h2, h3⟩ := h
  exact ⟨mv, h1.below hb hB, h2, fun i v hv => by
    obtain ⟨l, hl, ho⟩ := h3 i v hv
    exact ⟨l, hl, ho.below hb hB⟩⟩
theorem OwnG.mono {w : World} {base b : Nat} {v : Value} {ls : List (List Int)} (h : OwnG w base v ls) (hb : b ≤ base) : OwnG w b v ls := by
  obtain ⟨mv, h1, h2, h3⟩ := h
  exact ⟨mv, h1.mono hb, h2, fun i v hv => by
    obtain ⟨l, hl, ho⟩ := h3 i v hv
    exact ⟨l, hl, ho.mono hb⟩⟩
theorem OwnG.upon {w w' : World} {base : Nat} {v : Value} {ls : List (List Int)} (h : OwnG w base v ls) (k : ∀ j, base ≤ j → w'.heap[j]? = w.heap[j]?) : OwnG w' base v ls := by
  obtain ⟨mv, h1, h2, h3⟩ := h
  exact ⟨mv, h1.upon k, h2, fun i v hv => by
    obtain ⟨l, hl, ho⟩ := h3 i v hv
    exact ⟨l, hl, ho.upon k⟩⟩
/-- behind an append of a row u that is the call's own -/
theorem OwnG.snoc {w w' : World} {base : Nat} {v v' u : Value} {mv : List Value} {ls : List (List Int)} {l : List Int} (h1 : Own eVal 22 1 w base v mv) (h2 : Rws w base mv ls) (hu : OwnI w base u l)
    (h3 : Own eVal 22 1 w' base v' (mv ++ [u])) (hg : w.grownBy w' v.ownBlock) : OwnG w' base v' (ls ++ [l]) := by
  refine ⟨mv ++ [u], h3, by simp [h2.1], fun i x hx => ?_⟩
  rcases Nat.lt_or_ge i mv.length with hi | hi
  · rw [List.getElem?_append_left hi] at hx
    obtain ⟨l', hl', ho⟩ := h2.2 i x hx
    exact ⟨l', by rw [List.getElem?_append_left (by rw [← h2.1]; exact hi)]; exact hl', ho.kept hg (own_ne ho h1 (by decide))⟩
  · rw [List.getElem?_append_right hi] at hx
    have h0 : i - mv.length = 0 := by
      cases hd : i - mv.length with
      | zero => rfl
      | succ k => rw [hd] at hx; simp at hx
    rw [h0] at hx
    simp only [List.getElem?_cons_zero, Option.some.injEq] at hx
    subst hx
    refine ⟨l, ?_, hu.kept hg (own_ne hu h1 (by decide))⟩
    rw [List.getElem?_append_right (by rw [← h2.1]; exact hi), show i - ls.length = 0 by rw [← h2.1]; exact h0]
    rfl

theorem set4_2 {W : World} {g : Nat} {t : TypeId} {a b c d z : Value} (h : W.heap[g]? = some (.cells #[a, b, c, d] t (0, 0))) : (W.setCell ⟨g, 2, none⟩ z).heap[g]? = some (.cells #[a, b, z, d] t (0, 0)) := by
  simp [World.setCell, Array.getElem?_modify, h]
/-- behind 'x.may = append(x.may, u)' -/
theorem grid_next {base gx : Nat} {Wy w3 w4 : World} {T : TypeId} {a b d v v4 u : Value} {mv : List Value} {ls : List (List Int)} {l : List Int} {o : Obj}
    (bx : Wy.heap[gx]? = some (.cells #[a, b, v, d] T (0, 0))) (hov : Own eVal 22 1 Wy base v mv) (hrw : Rws Wy base mv ls) (hgb : gx < base) (hbz : base ≤ Wy.heap.size)
    (hb3 : Below Wy.heap.size Wy w3) (hu : OwnI w3 Wy.heap.size u l) (hov4 : Own eVal 22 1 w4 base v4 (mv ++ [u])) (hgr : (w3.alloc o).grownBy w4 v.ownBlock) :
    (w4.setCell ⟨gx, 2, none⟩ v4).heap[gx]? = some (.cells #[a, b, v4, d] T (0, 0)) ∧ Own eVal 22 1 (w4.setCell ⟨gx, 2, none⟩ v4) base v4 (mv ++ [u]) ∧
      Rws (w4.setCell ⟨gx, 2, none⟩ v4) base (mv ++ [u]) (ls ++ [l]) ∧ Below gx Wy (w4.setCell ⟨gx, 2, none⟩ v4) := by
  have hz3 := hb3.size
  have hov3 := (hov.below hb3 (Nat.le_refl _)).alloc o
  have hvl := hov.lt
  have hne : v.ownBlock ≠ some gx := fun h => by have := hvl _ h; omega
  have h4 : w4.heap[gx]? = some (.cells #[a, b, v, d] T (0, 0)) :=
    (hgr.block gx (by simp; omega) (fun e => hne e.symm)).trans (hblk_alloc ((hb3.block gx (by omega)).trans bx) o)
  have hfar : ∀ j, j ≠ gx → (w4.setCell ⟨gx, 2, none⟩ v4).heap[j]? = w4.heap[j]? := fun j hj => Below.heap_setCell w4 ⟨gx, 2, none⟩ v4 j hj
  have keep : ∀ {α : Type} {enc : α → List Value} {t : TypeId} {s : Nat} {x : Value} {l : List α}, Own enc t s w4 base x l → Own enc t s (w4.setCell ⟨gx, 2, none⟩ v4) base x l := fun {α enc t s x l} h => by
    refine ⟨h.1, ?_⟩
    rcases h.2 with h2 | ⟨g, cap, cur, hv, hg, hh, r⟩
    · exact .inl h2
    · exact .inr ⟨g, cap, cur, hv, hg, (hfar g (by omega)).trans hh, r⟩
  have hR : Rws (w3.alloc o) base mv ls := ⟨hrw.1, fun i x hx => by
    obtain ⟨l', hl', ho⟩ := hrw.2 i x hx
    exact ⟨l', hl', (ho.below hb3 (Nat.le_refl _)).alloc o⟩⟩
  obtain ⟨mv', m1, m2⟩ := OwnG.snoc hov3 hR ((hu.mono hbz).alloc o) hov4 hgr
  have hR4 : Rws w4 base (mv ++ [u]) (ls ++ [l]) := by
    refine ⟨by simp [hrw.1], fun i x hx => ?_⟩
    rcases Nat.lt_or_ge i mv.length with hi | hi
    · rw [List.getElem?_append_left hi] at hx
      obtain ⟨l', hl', ho⟩ := hR.2 i x hx
      exact ⟨l', by rw [List.getElem?_append_left (by rw [← hrw.1]; exact hi)]; exact hl', ho.kept hgr (own_ne ho hov3 (by decide))⟩
    · have h0 : i = mv.length := by
        have := (List.getElem?_eq_some_iff.1 hx).1
        simp at this; omega
      subst h0
      simp at hx
      subst hx
      exact ⟨l, by rw [hrw.1]; simp, ((hu.mono hbz).alloc o).kept hgr (own_ne ((hu.mono hbz).alloc o) hov3 (by decide))⟩
  refine ⟨set4_2 h4, keep hov4, ⟨hR4.1, fun i x hx => ?_⟩, ?_⟩
  · obtain ⟨l', hl', ho⟩ := hR4.2 i x hx
    exact ⟨l', hl', keep ho⟩
  · have hbb : Below gx Wy w4 := ((hb3.mono (by omega)).trans ((bal0 w3 o).mono (by omega))).trans ((Below.refl _ _).grown hgr (by simp; omega) (fun k hk => by have := hvl _ hk; omega))
    exact hbb.setCell (Nat.le_refl gx : gx ≤ (⟨gx, 2, none⟩ : Addr).block) _

/-- a slice of slices reads as a list of lists -/
def Grid (w : World) (A : Option Addr) (n : Nat) (ls : List (List Int)) : Prop :=
  ∃ mv, Sl eVal 1 w A n mv ∧ mv.length = ls.length ∧ ∀ (i : Nat) v, mv[i]? = some v → ∃ B l c, ls[i]? = some l ∧ v = .slice B l.length c ∧ Ints w B l.length l ∧ l.length ≤ c ∧ c ≤ maxLen
theorem OwnG.form {w : World} {base : Nat} {v : Value} {ls : List (List Int)} (h : OwnG w base v ls) : ∃ A c, v = .slice A ls.length c ∧ Grid w A ls.length ls ∧ ls.length ≤ c ∧ c ≤ maxLen := by
  obtain ⟨mv, h1, h2, h3⟩ := h
  obtain ⟨A, c, hv, hs, hc, hm⟩ := h1.form lenVal
  rw [h2] at hv hs hc
  refine ⟨A, c, hv, ⟨mv, hs, h2, fun i v hv => ?_⟩, hc, hm⟩
  obtain ⟨l, hl, ho⟩ := h3 i v hv
  obtain ⟨B, c', hv', hs', hc', hm'⟩ := ho.form lenInt
  exact ⟨B, l, c', hl, hv', hs', hc', hm'⟩
theorem Grid.below {w w' : World} {B : Nat} {A : Option Addr} {n : Nat} {ls : List (List Int)} (h : Grid w A n ls) (hb : Below B w w') (hB : w.heap.size ≤ B) : Grid w' A n ls := by
  obtain ⟨mv, h1, h2, h3⟩ := h
  exact ⟨mv, h1.below hb hB, h2, fun i v hv => by
    obtain ⟨C, l, c, a1, a2, a3, a4, a5⟩ := h3 i v hv
    exact ⟨C, l, c, a1, a2, a3.below hb hB, a4, a5⟩⟩
theorem Grid.get {w : World} {A : Option Addr} {n : Nat} {ls : List (List Int)} (h : Grid w A n ls) {k : Nat} (hk : k < n) :
    ∃ b off B l c, A = some ⟨b, off, none⟩ ∧ b < w.heap.size ∧ ls[k]? = some l ∧ w.cell? ⟨b, off + k, none⟩ = some (.slice B l.length c) ∧ Ints w B l.length l ∧ l.length ≤ c ∧ c ≤ maxLen := by
  obtain ⟨mv, h1, h2, h3⟩ := h
  obtain ⟨b, off, x, hA, hb, hx, hc⟩ := Vals.get h1 hk
  obtain ⟨B, l, c, a1, a2, a3, a4, a5⟩ := h3 k x hx
  subst a2
  exact ⟨b, off, B, l, c, hA, hb, a1, hc, a3, a4, a5⟩

/-- 'append' of one element at a step of a region that draws: x lies in a block that is known whole -/
theorem step_app {α : Type} {enc : α → List Value} {P : Program} {t e : TypeId} {sz bytes : Nat} (E : ElemOk P t e sz bytes) {ops : Array Oper} {o : Oper} {a : Act} {K : Act → World → Prop} {Q : Exit → Act → World → Prop} {F : Prop} {w : World}
    (hgd : o.guard = none) (s x : Operand) (ho : o.op = .call { callee := .builtin .append, args := #[s, x], argTypes := #[t, t] })
    (base : Nat) (v : Value) (l : List α) (y : α) (cs : Array Value) (g : Nat) (hs : a.eval s = v) (hx : a.eval x = .slice (some ⟨g, 0, none⟩) 1 1) (hg : w.heap[g]? = some (.cells cs e (0, 0))) (hcs : cs.toList = enc y)
    (hlen : (enc y).length = sz) (h1 : ∀ u ∈ enc y, u.oneCell' = true)
    (hown : Own enc e sz w base v l) (hll : l.length < 4294967296) (hby : bytes ≤ 4096) (hbase : base ≤ w.heap.size)
    (h : ∀ g' cap w', Own enc e sz w' base (.slice (some ⟨g', 0, none⟩) (l.length + 1) cap) (l ++ [y]) → w.grownBy w' v.ownBlock → Below base w w' → K (a.put o.dst (.slice (some ⟨g', 0, none⟩) (l.length + 1) cap)) w') :
    if Region.wanted o (yielded ops a.tmps) = true then Oper.wp P o a w K Q else F := by
  obtain ⟨i, z, hi, hz, hsize, hbytes, hzs⟩ := E.info
  refine step_append_lies w hgd s x t ho base e i z sz bytes E.sl hi hz hsize hbytes hzs E.pos v l.length (l.flatMap enc) hs hown ⟨g, 0, none⟩ 1 1 (enc y) hx (by omega) ?_ h1 (by omega) (by unfold maxLen; omega) ?_ hbase w.heap.size rfl ?_
  · rw [← hcs]; exact World.news_of_block hg
  · calc (l.length + 1) * bytes ≤ 4294967296 * 4096 := Nat.mul_le_mul (by omega) hby
      _ ≤ 140737488355328 := by omega
  · intro g' cap w' hown' hgr _ _
    refine h g' cap w' ?_ hgr ((Below.refl _ _).grown hgr hbase (fun k hk => (Own.lt hown k hk).1))
    have e2 : (l ++ [y]).flatMap enc = l.flatMap enc ++ enc y := by simp
    unfold Own
    rw [e2, List.length_append]
    exact hown'
/-- 'append' of one element, the new value written out -/
theorem wp_appx {α : Type} {enc : α → List Value} {P : Program} {t e : TypeId} {sz bytes : Nat} (E : ElemOk P t e sz bytes) {ops : Array Oper} {rest : List Oper} {o : Oper} {a : Act} {Q : Exit → Act → World → Prop} {w : World}
    (hgd : o.guard = none) (s x : Operand) (ho : o.op = .call { callee := .builtin .append, args := #[s, x], argTypes := #[t, t] })
    (base : Nat) (v : Value) (l : List α) (y : α) (cs : Array Value) (hs : a.eval s = v) (hx : a.eval x = .slice (some ⟨w.heap.size, 0, none⟩) 1 1) (hcs : cs.toList = enc y)
    (hlen : (enc y).length = sz) (h1 : ∀ u ∈ enc y, u.oneCell' = true)
    (hown : Own enc e sz w base v l) (hll : l.length < 4294967296) (hby : bytes ≤ 4096) (hbase : base ≤ w.heap.size)
    (h : ∀ g' cap w', Own enc e sz w' base (.slice (some ⟨g', 0, none⟩) (l.length + 1) cap) (l ++ [y]) → w.grownBy w' v.ownBlock → Below base w w' → wpList P ops Q rest (a.put o.dst (.slice (some ⟨g', 0, none⟩) (l.length + 1) cap)) w') :
    wpList P ops Q (o :: rest) a (w.alloc (.cells cs e)) := by
  obtain ⟨i, z, hi, hz, hsize, hbytes, hzs⟩ := E.info
  refine wpList_append_lies _ hgd s x t ho base e i z sz bytes E.sl hi hz hsize hbytes hzs E.pos v l.length (l.flatMap enc) hs (World.ownsRow.alloc hown _) ⟨w.heap.size, 0, none⟩ 1 1 (enc y) hx (by omega) ?_ h1 (by omega) (by unfold maxLen; omega) ?_ (by simp; omega) (w.heap.size + 1) (by simp) ?_
  · rw [← hcs]; exact World.news_of_block (heap_alloc_new w _)
  · calc (l.length + 1) * bytes ≤ 4294967296 * 4096 := Nat.mul_le_mul (by omega) hby
      _ ≤ 140737488355328 := by omega
  · intro g' cap w' hown' hgr _ _
    have hg0 : w.grownBy w' v.ownBlock := ⟨hgr.os, hgr.tape, hgr.output, Nat.le_trans (by simp) hgr.size, fun k hk hne => (hgr.block k (by simp; omega) hne).trans (Below.heap_alloc _ _ _ hk)⟩
    refine h g' cap w' ?_ hg0 ((Below.refl _ _).grown hg0 hbase (fun k hk => (Own.lt hown k hk).1))
    have e2 : (l ++ [y]).flatMap enc = l.flatMap enc ++ enc y := by simp
    unfold Own
    rw [e2, List.length_append]
    exact hown'
end Go.Proofs.Ytmennjmjakdkcaa
namespace Go.Proofs.Ytmennjmjakdkcaa
open Go.RowKit
set_option linter.unusedVariables false
set_option linter.unusedSimpArgs false

theorem take_eq_snoc {α : Type} {x y : List α} {k : Nat} {u v : α} (h : x.take k = y.take k) (hx : x[k]? = some u) (hy : y[k]? = some v) (he : u = v) : x.take (k + 1) = y.take (k + 1) := by
  rw [List.take_add_one, List.take_add_one, hx, hy, h, he]
theorem ne_of_at {α : Type} {x y : List α} {k : Nat} {u v : α} (hx : x[k]? = some u) (hy : y[k]? = some v) (he : ¬ u = v) : ¬ x = y := fun h => by
  subst h; rw [hx] at hy; cases hy; exact he rfl

def sameL {α : Type} [DecidableEq α] (x y : List α) : Bool := decide (x = y)

set_option maxHeartbeats 1000000 in
theorem sameInts_any (A : Option Addr) (n c : Nat) (x : List Int) (B : Option Addr) (m d : Nat) (y : List Int) (w : World) (hx : Ints w A n x) (hy : Ints w B m y) (hn : n ≤ maxLen) (hm : m ≤ maxLen) :
    Calls Try.prog 16 #[.slice A n c, .slice B m d] w fun e w' => e = .returned (.bool (sameL x y)) ∧ Below w.heap.size w w' := by
  have hxl := hx.len
  have hyl := hy.len
  have HL := Lib.hid (And.intro hxl hyl)
  have HXY := Lib.hid (And.intro hx hy)
  unfold maxLen at hn hm
  clear hxl hyl hx hy
  by_cases hnm : n = m
  · subst hnm
    have h0 : (n != n) = false := by simp
    have h0' : ((n : Int) != (n : Int)) = false := by simp
    go_enter Try.func16, Try.ntmps16
    go_wp2_with fail
    go_loopg [5] n (fun g i wr => ∃ k : Nat, k + g = n ∧ i = .int .i64 k ∧ x.take k = y.take k ∧ ∃ q, wr = w.drewN q)
    case atStart => exact ⟨0, by omega, rfl, by simp, 0, rfl⟩
    case round =>
      obtain ⟨k, hk, rfl, htk, q, rfl⟩ := hrel
      have HK := Lib.hid (And.intro hk htk)
      have hkn : k ≤ n := by omega
      clear hk htk
      by_cases hlt : k < n
      · obtain ⟨b0, o0, u, rfl, hb0, hu, p0⟩ := Ints.get HXY.out.1 hlt
        obtain ⟨b1, o1, v, rfl, hb1, hv, q0⟩ := Ints.get HXY.out.2 hlt
        have i0 : (0 : Int) ≤ (k : Int) := by omega
        have i1 : (k : Int) < (n : Int) := by omega
        have HUV := Lib.hid (And.intro hu hv)
        clear hu hv
        by_cases huv : u = v
        · have h1 : (u != v) = false := by simp [huv]
          have HE := Lib.hid huv
          clear huv
          go_upto_region 6 with (fail)
          go_quiet (fail)
          go_wp2
          go_roundg (gk - 1)
          case measure => have := HK.out.1; omega
          case rel => exact ⟨k + 1, by have := HK.out.1; omega, by go_num, take_eq_snoc HK.out.2 HUV.out.1 HUV.out.2 HE.out, _, rfl⟩
        · have h1 : (u != v) = true := by simp [huv]
          have HE := Lib.hid huv
          clear huv
          go_upto_region 6 with (fail)
          go_quiet (fail)
          go_wp2
          go_ret
          exact ⟨ret_bool (by unfold sameL; rw [decide_eq_false (ne_of_at HUV.out.1 HUV.out.2 HE.out)]), below_drewN (below_drewN (Below.refl _ _) _) _⟩
      · obtain rfl : k = n := by omega
        go_wp2
        go_ret
        refine ⟨ret_bool ?_, below_drewN (Below.refl _ _) _⟩
        have h := HK.out.2
        rw [List.take_of_length_le (by rw [HL.out.1]; omega), List.take_of_length_le (by rw [HL.out.2]; omega)] at h
        unfold sameL; rw [decide_eq_true h]
  · have h0 : (n != m) = true := by simpa using hnm
    have h0' : ((n : Int) != (m : Int)) = true := by simp; omega
    have HE := Lib.hid hnm
    clear hnm
    go_enter Try.func16, Try.ntmps16
    go_wp2
    go_ret
    exact ⟨ret_bool (by unfold sameL; rw [decide_eq_false (fun h => HE.out (by rw [← HL.out.1, ← HL.out.2, h]))]), Below.refl _ _⟩
end Go.Proofs.Ytmennjmjakdkcaa

namespace Go.Proofs.Ytmennjmjakdkcaa
open Go.RowKit
set_option linter.unusedVariables false
set_option linter.unusedSimpArgs false

theorem flat_len {α : Type} {enc : α → List Value} {sz : Nat} (h : ∀ x, (enc x).length = sz) (l : List α) : (l.flatMap enc).length = l.length * sz := by
  induction l with
  | nil => simp
  | cons a r ih => rw [List.flatMap_cons, List.length_append, ih, h, List.length_cons, Nat.succ_mul]; omega
theorem flat_at {α : Type} {enc : α → List Value} {sz : Nat} (hsz : 0 < sz) (h : ∀ x, (enc x).length = sz) : ∀ (l : List α) (j : Nat) (u : Value), (l.flatMap enc)[j]? = some u → ∃ x, l[j / sz]? = some x ∧ (enc x)[j % sz]? = some u
  | [], j, u, hu => by simp at hu
  | a :: r, j, u, hu => by
    rw [List.flatMap_cons] at hu
    rcases Nat.lt_or_ge j sz with hj | hj
    · rw [List.getElem?_append_left (by rw [h]; exact hj)] at hu
      exact ⟨a, by rw [Nat.div_eq_of_lt hj]; rfl, by rw [Nat.mod_eq_of_lt hj]; exact hu⟩
    · rw [List.getElem?_append_right (by rw [h]; exact hj), h] at hu
      obtain ⟨x, h1, h2⟩ := flat_at hsz h r (j - sz) u hu
      have e1 : j = (j - sz) + sz := by omega
      refine ⟨x, ?_, ?_⟩
      · rw [e1, Nat.add_div_right _ hsz]; simpa using h1
      · rw [e1, Nat.add_mod_right]; exact h2

/-- 'append(dst, src...)' of a list -/
theorem wp_apps {α : Type} {enc : α → List Value} {P : Program} {t e : TypeId} {sz bytes : Nat} (E : ElemOk P t e sz bytes) {ops : Array Oper} {rest : List Oper} {o : Oper} {a : Act} {Q : Exit → Act → World → Prop} {w : World}
    (hgd : o.guard = none) (s x : Operand) (ho : o.op = .call { callee := .builtin .append, args := #[s, x], argTypes := #[t, t] })
    (base : Nat) (v : Value) (l : List α) (A : Option Addr) (m c : Nat) (l2 : List α) (hs : a.eval s = v) (hx : a.eval x = .slice A m c) (hl2 : Sl enc sz w A m l2) (hz : A = none → c = 0)
    (hlen : ∀ x, (enc x).length = sz) (h1 : ∀ x, ∀ u ∈ enc x, u.oneCell' = true)
    (hown : Own enc e sz w base v l) (hll : l.length + m < 4294967296) (hby : bytes ≤ 4096) (hbase : base ≤ w.heap.size)
    (h : ∀ v' w', Own enc e sz w' base v' (l ++ l2) → w.grownBy w' v.ownBlock → Below base w w' → wpList P ops Q rest (a.put o.dst v') w') :
    wpList P ops Q (o :: rest) a w := by
  obtain ⟨i, z, hi, hzz, hsize, hbytes, hzs⟩ := E.info
  cases A with
  | none =>
    have hc := hz rfl
    subst hc
    have hm : m = 0 := by
      rcases Nat.eq_zero_or_pos m with h0 | h0
      · exact h0
      · obtain ⟨b, off, hA, _⟩ := hl2.2 h0; cases hA
    subst hm
    have hl0 : l2 = [] := List.eq_nil_of_length_eq_zero hl2.1
    subst hl0
    refine wpList_append_own_none hgd s x t ho base e i sz E.sl hi v l.length (l.flatMap enc) hs hown hx ?_
    exact h v w (by rw [List.append_nil]; exact hown) (World.grownBy.refl w _) (Below.refl _ _)
  | some ad =>
    refine wpList_append_own w hgd s x t ho base e i z sz bytes E.sl hi hzz hsize hbytes hzs E.pos v l.length (l.flatMap enc) hs hown ad m c (l2.flatMap enc) hx (by rw [flat_len hlen, hl2.1]) ?_ ?_ (by unfold maxLen; omega) ?_ hbase ?_
    · intro j u hu
      obtain ⟨y, hy, hu2⟩ := flat_at E.pos hlen l2 j u hu
      have hlt := (List.getElem?_eq_some_iff.1 hy).1
      obtain ⟨b, off, hA, hc⟩ := hl2.2 (hl2.1 ▸ Nat.lt_of_le_of_lt (Nat.zero_le _) hlt)
      cases hA
      have := hc _ y hy _ u hu2
      rw [Addr.add_lit]
      have e1 : off + j / sz * sz + j % sz = off + j := by rw [Nat.add_assoc, Nat.div_add_mod']
      rw [e1] at this
      exact this
    · intro u hu
      obtain ⟨y, hy, hu2⟩ := List.mem_flatMap.1 hu
      exact h1 y u hu2
    · calc (l.length + m) * bytes ≤ 4294967296 * 4096 := Nat.mul_le_mul (by omega) hby
        _ ≤ 140737488355328 := by omega
    · intro v' w' hown' hg _
      refine h v' w' ?_ hg ((Below.refl _ _).grown hg hbase (fun k hk => (Own.lt hown k hk).1))
      have e2 : (l ++ l2).flatMap enc = l.flatMap enc ++ l2.flatMap enc := by simp
      unfold Own
      rw [e2, List.length_append, hl2.1]
      exact hown'
/-- the first place of a number, -1 if it has none -/
def placeI (l : List Int) (x : Int) : Int := if x ∈ l then (l.idxOf x : Int) else -1
theorem placeI_neg (l : List Int) (x : Int) : (placeI l x < 0) = (x ∉ l) := by
  unfold placeI
  by_cases h : x ∈ l
  · simp [h]
  · simp [h]
theorem placeI_at {l : List Int} {k : Nat} {x : Int} (hk : l[k]? = some x) (hn : (l.take k).contains x = false) : placeI l x = k := by
  have hin : x ∈ l := List.mem_of_getElem? hk
  have hlt := (List.getElem?_eq_some_iff.1 hk).1
  unfold placeI
  rw [if_pos hin]
  rw [List.contains_eq_mem, decide_eq_false_iff_not] at hn
  have e : l = l.take k ++ x :: l.drop (k + 1) := by
    have h1 := (List.take_append_drop k l).symm
    rw [List.drop_eq_getElem_cons hlt] at h1
    have h2 := (List.getElem?_eq_some_iff.1 hk).2
    rw [h2] at h1
    exact h1
  rw [e, List.idxOf_append, if_neg hn, List.idxOf_cons_self, List.length_take]
  omega
theorem place_any (A : Option Addr) (n c : Nat) (l : List Int) (x : Int) (w : World) (hl : Ints w A n l) (hn : n ≤ maxLen) :
    Calls Try.prog 14 #[.slice A n c, .int .i64 x] w fun e w' => e = .returned (.int .i64 (placeI l x)) ∧ w = w' := by
  have HL := Lib.hid hl
  have HN := Lib.hid hl.len
  unfold maxLen at hn
  clear hl
  go_enter Try.func14, Try.ntmps14
  go_wp2_with fail
  go_loopg [5] n (fun g i wr => ∃ k : Nat, k + g = n ∧ i = .int .i64 k ∧ (l.take k).contains x = false ∧ w = wr)
  case atStart => exact ⟨0, by omega, rfl, by simp, rfl⟩
  case round =>
    obtain ⟨k, hk, rfl, hno, rfl⟩ := hrel
    have HK := Lib.hid (And.intro hk hno)
    have hkn : k ≤ n := by omega
    clear hk hno
    by_cases hlt : k < n
    · obtain ⟨b, off, y, rfl, hb, hy, q0⟩ := Ints.get HL.out hlt
      have HY := Lib.hid hy
      clear hy
      cases hyx : (y == x)
      · have HE := Lib.hid (show ¬ y = x by simpa using hyx)
        go_wp2
        go_roundg (gk - 1)
        case measure => have := HK.out.1; omega
        case rel =>
          refine ⟨k + 1, by have := HK.out.1; omega, by go_num, ?_, rfl⟩
          have h := HK.out.2
          rw [List.take_add_one, HY.out]
          simp only [Option.toList, List.contains_eq_mem, decide_eq_false_iff_not, List.mem_append, List.mem_singleton, not_or] at h ⊢
          exact ⟨h, fun e => HE.out e.symm⟩
      · have HE := Lib.hid (show y = x by simpa using hyx)
        go_wp2
        go_ret
        exact ⟨ret_int (placeI_at (by rw [HY.out, HE.out]) HK.out.2).symm, rfl⟩
    · obtain rfl : k = n := by omega
      go_wp2
      go_ret
      refine ⟨ret_int ?_, rfl⟩
      have h := HK.out.2
      rw [List.take_of_length_le (by rw [HN.out]; omega), List.contains_eq_mem, decide_eq_false_iff_not] at h
      unfold placeI
      rw [if_neg h]
end Go.Proofs.Ytmennjmjakdkcaa

namespace Go.Proofs.Ytmennjmjakdkcaa
open Go.RowKit
set_option linter.unusedVariables false
set_option linter.unusedSimpArgs false

theorem own_shape {α : Type} {enc : α → List Value} {e : TypeId} {sz : Nat} {w : World} {base : Nat} {v : Value} {l : List α} (h : Own enc e sz w base v l) (henc : ∀ x, (enc x).length = sz) :
    ∃ A c, v = .slice A l.length c ∧ Sl enc sz w A l.length l ∧ l.length ≤ c ∧ c ≤ maxLen ∧ (A = none → c = 0) := by
  rcases h.2 with ⟨hv, h0⟩ | ⟨g, cap, cur, hv, hg, hh, hnc, hcm, r⟩
  · have hl : l = [] := List.eq_nil_of_length_eq_zero h0
    subst hl
    exact ⟨none, 0, hv, Sl.nil_, Nat.le_refl _, Nat.zero_le _, fun _ => rfl⟩
  · subst hv
    exact ⟨_, cap, rfl, Sl.of_own (fun x _ => henc x) h rfl, hnc, hcm, fun h => by cases h⟩

end Go.Proofs.Ytmennjmjakdkcaa
