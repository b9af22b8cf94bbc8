/- mestaref03.Fresh. -/
import Derived.Test.YtahlicinchehhaaRefN
namespace Go.Proofs.Ytahlicinchehhaa
open Go.RowKit
set_option linter.unusedVariables false
set_option linter.unusedSimpArgs false

set_option maxRecDepth 100000 in
set_option maxHeartbeats 4000000 in
theorem rFresh (t los : Int) (A : Option Addr) (n c : Nat) (l : List Mk) (w : World) (hl : Marks w A n l) (hlc : n ≤ c) (hcm : c ≤ maxLen) :
    Calls Try.prog 28 #[.agg #[.int .i64 t, .slice A n c], .int .i64 los] w fun e w' => e = .returned (.tuple #[vMk (freshM t l los), .int .i64 (freshE t l los)]) ∧ Below w.heap.size w w' := by
  have HL := Lib.hid hl
  have HN := Lib.hid hl.len
  clear hl
  go_enter Try.func28, Try.ntmps28
  go_wp2_with fail
  obtain ⟨W0, hW⟩ : ∃ W0, W0 = (w.alloc (Obj.cells #[Value.int .i64 t, .slice A n c] 24)).alloc (Obj.cells #[Value.int .i64 0, .int .i64 0, .int .i64 0] 26) := ⟨_, rfl⟩
  rw [← hW]
  have hB0 : Below w.heap.size w W0 := by rw [hW]; exact bal (bal0 w _) (Nat.le_refl _) _
  have a0 : W0.heap[w.heap.size]? = some (Obj.cells #[Value.int .i64 t, .slice A n c] 24 (0, 0)) := by rw [hW]; exact hblk_alloc (alloc_at rfl) _
  have a1 : W0.heap[w.heap.size + 1]? = some (Obj.cells #[Value.int .i64 0, .int .i64 0, .int .i64 0] 26 (0, 0)) := by rw [hW]; exact alloc_at (by simp)
  clear hW
  refine (rCheck t A n c l _ (HL.out.below hB0 (Nat.le_refl _)) hlc hcm).mono ?_
  rintro e w1 ⟨rfl, hb1⟩
  have hB1 := hB0.trans (hb1.mono hB0.size)
  replace a0 := bheap a0 hb1 (Nat.le_refl _)
  replace a1 := bheap a1 hb1 (Nat.le_refl _)
  have hs1 := heap_lt a1
  clear hb1 hB0
  obtain ⟨r0, r1⟩ := blk2 a0
  obtain ⟨v0, v1, v2⟩ := blk3 a1
  obtain ⟨f0, f1, f2⟩ := And.intro (frz a1 0) (And.intro (frz a1 1) (frz a1 2))
  have g1 : w.heap.size < w1.heap.size := by omega
  have HB := Lib.hid (And.intro a0 (And.intro a1 hB1))
  clear a0 a1 hB1
  by_cases hck : check t l = 0
  · have h0 : (check t l != 0) = false := by simp [hck]
    have HC := Lib.hid hck
    have hn5 : n ≤ 5 := by have := (check_ok hck).2.2.1; have := HN.out; omega
    clear hck
    by_cases h5 : 5 ≤ n
    · have HE := Lib.hid (show freshE t l los = 6 by unfold freshE; rw [if_neg (by simp [HC.out]), if_pos (by have := HN.out; omega)])
      have h5' : decide ((5 : Int) ≤ (n : Int)) = true := by simp; omega
      go_wp2_with fail
      refine bodyPost_ret (v := .tuple #[vMk ⟨0, 0, 0⟩, .int .i64 6]) (by simp [results, Try.f28, go_sem, vMk, g1, hs1, v0, v1, v2]) rfl ?_
      refine ⟨by rw [freshM, HE.out]; rfl, ?_⟩
      exact (((HB.out.2.2).setCell (by dsimp; omega) _).setCell (by dsimp; omega) _).setCell (by dsimp; omega) _
    · have h5' : decide ((5 : Int) ≤ (n : Int)) = false := by simp; omega
      cases hbt : btw los 0 4
      · have HE := Lib.hid (show freshE t l los = 1 by unfold freshE; rw [if_neg (by simp [HC.out]), if_neg (by have := HN.out; omega), if_pos hbt])
        have HI := Lib.hid (fun w => hbt ▸ rWithin los 0 4 w)
        clear hbt
        go_wp2_with (go_at_call 73; refine (HI.out _).mono ?_; rintro e w' ⟨rfl, rfl⟩)
        refine bodyPost_ret (v := .tuple #[vMk ⟨0, 0, 0⟩, .int .i64 1]) (by simp [results, Try.f28, go_sem, vMk, g1, hs1, v0, v1, v2]) rfl ?_
        refine ⟨by rw [freshM, HE.out]; rfl, ?_⟩
        exact (((HB.out.2.2).setCell (by dsimp; omega) _).setCell (by dsimp; omega) _).setCell (by dsimp; omega) _
      · have HE := Lib.hid (show freshE t l los = if (leastI (freshAll t l los)).isSome then 0 else 11 by unfold freshE; rw [if_neg (by simp [HC.out]), if_neg (by have := HN.out; omega), if_neg (by simp [hbt])])
        have HI := Lib.hid (fun w => hbt ▸ rWithin los 0 4 w)
        have hlos : los ≤ 4 := (btw_iff.1 hbt).2
        have HV := Lib.hid (show ∀ m ∈ l, 0 ≤ m.n ∧ m.n ≤ 255 from fun m hm => (check_marks HC.out m hm).1)
        clear hbt h5 v0 v1 v2 f0 f1 f2
        go_wp2_with (go_at_call 73; refine (HI.out _).mono ?_; rintro e w' ⟨rfl, rfl⟩)
        clear r0 r1
        go_loopg [7] 9 (fun g i wr => ∃ many : Nat, many + g = 9 ∧ i = .int .i64 many ∧ Dn l t los many 0 ∧ Below w1.heap.size w1 wr)
        case atStart => exact ⟨0, by omega, rfl, Dn.zero, Below.refl _ _⟩
        case round =>
          obtain ⟨many, hk, rfl, hdn, hbl⟩ := hrel
          obtain ⟨wa, rfl⟩ : ∃ wa : World, wa = wr := ⟨_, rfl⟩
          obtain ⟨ga, rfl⟩ : ∃ ga : Nat, ga = gk := ⟨_, rfl⟩
          have HA := Lib.hid (And.intro hk (And.intro hdn hbl))
          have hm9 : many ≤ 9 := by omega
          clear hk hdn hbl
          by_cases hlm : many ≤ 8
          · have hlm' : (many : Int) ≤ 8 := by omega
            go_wp2_with fail
            go_loopg [8] 256 (fun g i wr => ∃ nn : Nat, nn + g = 256 ∧ i = .int .i64 nn ∧ Dn l t los many (nn * 70) ∧ Below w1.heap.size w1 wr)
            case atStart => exact ⟨0, by omega, rfl, by simpa using HA.out.2.1, HA.out.2.2⟩
            case round =>
              obtain ⟨nn, hk, rfl, hdn, hbl⟩ := hrel
              obtain ⟨wb, rfl⟩ : ∃ wb : World, wb = wr := ⟨_, rfl⟩
              obtain ⟨gb, rfl⟩ : ∃ gb : Nat, gb = gk := ⟨_, rfl⟩
              have HQ := Lib.hid (And.intro hk (And.intro hdn hbl))
              have hn256 : nn ≤ 256 := by omega
              clear hk hdn hbl
              by_cases hln : nn ≤ 255
              · have hln' : (nn : Int) ≤ 255 := by omega
                have hln0 : (0 : Int) ≤ (nn : Int) := by omega
                obtain ⟨P, hP⟩ : ∃ P, P = popI (nn : Int) := ⟨_, rfl⟩
                have HNo := Lib.hid (fun w => hP ▸ rNotches (nn : Int) w hln0 hln')
                have HP := Lib.hid hP
                have hP8 : P ≤ 8 := by rw [hP]; exact cnt_le _
                clear hP
                go_wp2_with fail
                refine (HNo.out _).mono ?_
                rintro e w' ⟨rfl, rfl⟩
                by_cases hpm : P = many
                · subst hpm
                  have hbe : ((P : Int) != (P : Int)) = false := by simp
                  go_wp2_with fail
                  go_loopg [9] 10 (fun g i wr => ∃ b : Nat, b + g = 10 ∧ i = .int .i64 b ∧ Dn l t los P (nn * 70 + b * 7) ∧ Below w1.heap.size w1 wr)
                  case atStart => exact ⟨0, by omega, rfl, by simpa using HQ.out.2.1, HQ.out.2.2⟩
                  case round =>
                    obtain ⟨b, hk, rfl, hdn, hbl⟩ := hrel
                    obtain ⟨wd, rfl⟩ : ∃ wd : World, wd = wr := ⟨_, rfl⟩
                    obtain ⟨gc, rfl⟩ : ∃ gc : Nat, gc = gk := ⟨_, rfl⟩
                    have HQ2 := Lib.hid (And.intro hk (And.intro hdn hbl))
                    have hb10 : b ≤ 10 := by omega
                    clear hk hdn hbl
                    by_cases hlb : b ≤ 9
                    · have hlb' : (b : Int) ≤ 9 := by omega
                      go_wp2_with fail
                      go_loopg [10] 7 (fun g i wr => ∃ p : Nat, p + g = 7 ∧ i = .int .i64 p ∧ Dn l t los P (nn * 70 + b * 7 + p) ∧ Below w1.heap.size w1 wr)
                      case atStart => exact ⟨0, by omega, rfl, HQ2.out.2.1, HQ2.out.2.2⟩
                      case round =>
                        obtain ⟨p, hk, rfl, hdn, hbl⟩ := hrel
                        have HR := Lib.hid (And.intro hk (And.intro hdn hbl))
                        have hp7 : p ≤ 7 := by omega
                        clear hk hdn hbl
                        by_cases hlp : p ≤ 6
                        · have hlp' : (p : Int) ≤ 6 := by omega
                          obtain ⟨F, hF⟩ : ∃ F, F = freeM l t los ⟨(nn : Int), (b : Int), (p : Int)⟩ := ⟨_, rfl⟩
                          have HF := Lib.hid hF
                          have hbl := HR.out.2.2
                          obtain ⟨r0, r1⟩ := blk2 (bheap HB.out.1 hbl (Nat.le_refl _))
                          obtain ⟨W2, hW2⟩ : ∃ W2, W2 = wr.alloc (Obj.cells #[Value.int .i64 (nn : Int), .int .i64 (b : Int), .int .i64 (p : Int)] 26) := ⟨_, rfl⟩
                          have hlw : Marks W2 A n l := by rw [hW2]; exact ((((HL.out.below HB.out.2.2 (Nat.le_refl _)).below hbl (Nat.le_refl _)).alloc _))
                          have hOwn := rOwn t A n c l ⟨(nn : Int), (b : Int), (p : Int)⟩ los W2 hlw (by omega) hln0 hln' HV.out hlos
                          rw [← hF] at hOwn
                          unfold vMk at hOwn
                          have hb2 : Below wr.heap.size wr W2 := by rw [hW2]; exact bal0 wr _
                          have m2 : W2.heap[wr.heap.size]? = some (Obj.cells #[Value.int .i64 (nn : Int), .int .i64 (b : Int), .int .i64 (p : Int)] 26 (0, 0)) := by rw [hW2]; exact alloc_at rfl
                          have HW := Lib.hid (And.intro hOwn (And.intro hb2 (And.intro hW2 m2)))
                          have g5 : w.heap.size < wr.heap.size := Nat.lt_of_lt_of_le g1 hbl.size
                          clear hOwn hb2 m2 hlw hF hbl
                          cases F
                          all_goals
                            go_wp2_with (rw [← HW.out.2.2.1]; go_at_call 78; refine HW.out.1.mono ?_; rintro e w4 ⟨rfl, hb4⟩; have hbl4 := (HR.out.2.2.trans (HW.out.2.1.mono HR.out.2.2.size)).trans (hb4.mono (Nat.le_trans HR.out.2.2.size HW.out.2.1.size)); have m4 := bheap HW.out.2.2.2 hb4 (Nat.le_refl _); obtain ⟨p0, p1, p2⟩ := blk3 m4; obtain ⟨v0, v1, v2⟩ := blk3 (bheap HB.out.2.1 hbl4 (Nat.le_refl _)); obtain ⟨f0, f1, f2⟩ := And.intro (frz (bheap HB.out.2.1 hbl4 (Nat.le_refl _)) 0) (And.intro (frz (bheap HB.out.2.1 hbl4 (Nat.le_refl _)) 1) (frz (bheap HB.out.2.1 hbl4 (Nat.le_refl _)) 2)); have HB4 := Lib.hid hbl4; clear hbl4 hb4 m4 r0 r1)
                          · go_roundg (gk - 1)
                            case measure => have := HR.out.1; omega
                            case rel => exact ⟨p + 1, by have := HR.out.1; omega, by go_num, HR.out.2.1.next (by rw [mkIx_at (by omega) (by omega)]; exact HF.out.symm), HB4.out⟩
                          · have g4 : w.heap.size + 1 < w4.heap.size := Nat.lt_of_lt_of_le hs1 HB4.out.size
                            refine bodyPost_ret (v := .tuple #[vMk ⟨nn, b, p⟩, .int .i64 0]) (by simp [results, Try.f28, go_sem, vMk, g1, hs1, v0, v1, v2, g4]) rfl ?_
                            obtain ⟨hk, hlst⟩ := Dn.found (by omega) (by omega) (by omega) HP.out.symm HR.out.2.1 HF.out.symm
                            have hE := HE.out
                            rw [hlst] at hE
                            simp only [Option.isSome_some, if_true] at hE
                            have hM := freshM_of hE hlst
                            rw [mkIx_at (by omega) (by omega)] at hM
                            refine ⟨by rw [hM, hE], ?_⟩
                            have hbw := HB.out.2.2.trans (HB4.out.mono HB.out.2.2.size)
                            exact ((hbw.setCell (by dsimp; omega) _).setCell (by dsimp; omega) _).setCell (by dsimp; omega) _
                        · obtain rfl : p = 7 := by omega
                          go_wp2
                          go_roundg (gc - 1)
                          case measure => have := HQ2.out.1; omega
                          case rel => exact ⟨b + 1, by have := HQ2.out.1; omega, by go_num, by rw [show nn * 70 + (b + 1) * 7 = nn * 70 + b * 7 + 7 by omega]; exact HR.out.2.1, HR.out.2.2⟩
                    · obtain rfl : b = 10 := by omega
                      go_wp2
                      go_roundg (gb - 1)
                      case measure => have := HQ.out.1; omega
                      case rel => exact ⟨nn + 1, by have := HQ.out.1; omega, by go_num, by rw [show (nn + 1) * 70 = nn * 70 + 10 * 7 by omega]; exact HQ2.out.2.1, HQ2.out.2.2⟩
                · have hbe : ((P : Int) != (many : Int)) = true := by simp; omega
                  have HNE := Lib.hid hpm
                  clear hpm
                  go_wp2
                  go_roundg (gb - 1)
                  case measure => have := HQ.out.1; omega
                  case rel => exact ⟨nn + 1, by have := HQ.out.1; omega, by go_num, HQ.out.2.1.skip (by rw [← HP.out]; exact HNE.out), HQ.out.2.2⟩
              · obtain rfl : nn = 256 := by omega
                go_wp2
                go_roundg (ga - 1)
                case measure => have := HA.out.1; omega
                case rel => exact ⟨many + 1, by have := HA.out.1; omega, by go_num, HQ.out.2.1.more, HQ.out.2.2⟩
          · obtain rfl : many = 9 := by omega
            have hbl := HA.out.2.2
            obtain ⟨v0, v1, v2⟩ := blk3 (bheap HB.out.2.1 hbl (Nat.le_refl _))
            obtain ⟨f0, f1, f2⟩ := And.intro (frz (bheap HB.out.2.1 hbl (Nat.le_refl _)) 0) (And.intro (frz (bheap HB.out.2.1 hbl (Nat.le_refl _)) 1) (frz (bheap HB.out.2.1 hbl (Nat.le_refl _)) 2))
            have g4 : w.heap.size + 1 < wa.heap.size := Nat.lt_of_lt_of_le hs1 hbl.size
            clear hbl
            go_wp2
            refine bodyPost_ret (v := .tuple #[vMk ⟨0, 0, 0⟩, .int .i64 11]) (by simp [results, Try.f28, go_sem, vMk, g1, hs1, v0, v1, v2, g4]) rfl ?_
            have hE := HE.out
            rw [HA.out.2.1.none] at hE
            simp only [Option.isSome_none, Bool.false_eq_true, if_false] at hE
            refine ⟨by rw [freshM, hE]; rfl, ?_⟩
            have hbw := HB.out.2.2.trans (HA.out.2.2.mono HB.out.2.2.size)
            exact ((hbw.setCell (by dsimp; omega) _).setCell (by dsimp; omega) _).setCell (by dsimp; omega) _
  · have h0 : (check t l != 0) = true := by simp [hck]
    have HE := Lib.hid (show freshE t l los = check t l by unfold freshE; rw [if_pos hck])
    have HC := Lib.hid hck
    clear hck
    go_wp2_with fail
    refine bodyPost_ret (v := .tuple #[vMk ⟨0, 0, 0⟩, .int .i64 (check t l)]) (by simp [results, Try.f28, go_sem, vMk, g1, hs1, v0, v1, v2]) rfl ?_
    refine ⟨by rw [freshM, HE.out, if_neg HC.out], ?_⟩
    exact (((HB.out.2.2).setCell (by dsimp; omega) _).setCell (by dsimp; omega) _).setCell (by dsimp; omega) _
end Go.Proofs.Ytahlicinchehhaa
