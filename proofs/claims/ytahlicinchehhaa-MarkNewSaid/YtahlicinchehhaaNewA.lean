/- mestalaw03.MarkNew returns true. -/
import Derived.Test.YtahlicinchehhaaMarking
import Derived.Test.YtahlicinchehhaaClash
import Derived.Test.YtahlicinchehhaaRegs
import Derived.Test.YtahlicinchehhaaOwn2
import Derived.Test.YtahlicinchehhaaGridB
namespace Go.Proofs.Ytahlicinchehhaa
open Go.RowKit
set_option linter.unusedVariables false
set_option linter.unusedSimpArgs false

theorem mkIx_k {n k : Nat} (hk : k < 70) : mkIx (n * 70 + k) = ⟨n, (k : Int) / 7, (k : Int) % 7⟩ := by
  have h := mkIx_at (n := n) (b := k / 7) (p := k % 7) (by omega) (by omega)
  have e : n * 70 + k / 7 * 7 + k % 7 = n * 70 + k := by omega
  rw [e] at h
  rw [h]
  simp
theorem Dn.found' {l : List Mk} {t los : Int} {many n k : Nat} (hn : n < 256) (hk : k < 70) (hpop : popI (n : Int) = many) (h : Dn l t los many (n * 70 + k)) (hf : freeM l t los ⟨n, (k : Int) / 7, (k : Int) % 7⟩ = true) :
    ∃ hk : n * 70 + k < 17920, leastI (freshAll t l los) = some ⟨n * 70 + k, hk⟩ := by
  have e : n * 70 + k / 7 * 7 + k % 7 = n * 70 + k := by omega
  have h1 := Dn.found (l := l) (t := t) (los := los) (many := many) (n := n) (b := k / 7) (p := k % 7) hn (by omega) (by omega) hpop (by rw [e]; exact h) (by simpa using hf)
  simp only [e] at h1
  exact h1

set_option maxRecDepth 100000 in
set_option maxHeartbeats 4000000 in
theorem MarkNew_any (A : Option Addr) (n c : Nat) (nums : List Int) (w : World) (hl : Ints w A n nums) (hn : n ≤ 9223372036854775807) :
    Calls Try.prog 9 #[.slice A n c] w fun e w' => e = .returned (.bool true) ∧ Below w.heap.size w w' := by
  go_enter Try.func9, Try.ntmps9
  go_wp2_with fail
  refine (newHand_any A n c nums _ hl hn).mono ?_
  rintro e w1 ⟨rfl, hh, hb1, hz1⟩
  clear hl
  go_wp2_with fail
  refine (registerOf_any w.heap.size 0 4 _ hh (by omega) (by omega)).mono ?_
  rintro e w2 ⟨t, l, A1, c1, rfl, hck, hl5, hown, hms, hlc, hcm, hd2⟩
  obtain ⟨ht0, ht2, _, _⟩ := check_ok hck
  obtain ⟨tn, rfl⟩ := Int.eq_ofNat_of_zero_le ht0
  have hHM := Lib.hid (And.intro hck hlc)
  have hB2 := hb1.trans ((hd2.below (Nat.le_refl _) (by omega)))
  have hhd := hd2.hd
  have hz2 := hd2.size
  have HZ := Lib.hid hz1
  have hz1l : w.heap.size < w1.heap.size := by omega
  clear hck hms hlc hd2 hb1 hh hz1
  go_upto_region 3 with (fail)
  obtain ⟨W, hW⟩ : ∃ W, W = w2.alloc (Obj.cells #[Value.int .i64 (tn : Int), .slice A1 l.length c1] 24) := ⟨_, rfl⟩
  rw [← hW]
  have bW : W.heap[w2.heap.size]? = some (Obj.cells #[Value.int .i64 (tn : Int), .slice A1 l.length c1] 24 (0, 0)) := by rw [hW]; exact alloc_at rfl
  have hBW : Below w.heap.size w W := by rw [hW]; exact bal hB2 (Nat.le_refl _) _
  have hOW : OwnM W (w.heap.size + 1) (.slice A1 l.length c1) l := by rw [hW, ← HZ.out]; exact hown.alloc _
  have hHW : Hd W w.heap.size 100 := by rw [hW]; exact hhd.alloc _
  clear hW hB2 hown hhd
  have hlW := heap_lt bW
  go_wp2_with fail
  refine (of_any w.heap.size 100 0 (some ⟨W.heap.size, 0, none⟩) 4 4 [1, 2, 2, 3] _ (hHW.alloc _) (by omega) (Sl.lit W 3 _ [1, 2, 2, 3] rfl lenInt (by simp [maxLen])) (fun b off e => by cases e; omega) (by omega)).mono ?_
  rintro e w3 ⟨los, rfl, hlos, hd3⟩
  have hlos' : 0 ≤ los ∧ los ≤ 3 := by
    simp only [List.mem_cons, List.not_mem_nil, or_false] at hlos
    omega
  obtain ⟨ln, rfl⟩ := Int.eq_ofNat_of_zero_le hlos'.1
  have b3 := hd3.blk (hblk_alloc bW (Obj.cells #[Value.int .i64 1, .int .i64 2, .int .i64 2, .int .i64 3] 3)) (by omega)
  have hO3 : OwnM w3 (w.heap.size + 1) (.slice A1 l.length c1) l := (hOW.alloc _).kept hd3.gr (.inr (fun e => by have := hOW.lt _ e; omega))
  have hB3 : Below w.heap.size w w3 := (bal hBW (Nat.le_refl _) _).trans (hd3.below (Nat.le_refl _) (by have := hBW.size; simp; omega))
  clear hd3 bW hOW hBW hHW hlos
  obtain ⟨hms3, hc3, hm3⟩ := hO3.sl lenMk
  obtain ⟨r0, r1⟩ := blk2 b3
  obtain ⟨M, hM⟩ : ∃ M, M = freshM (tn : Int) l ln := ⟨_, rfl⟩
  obtain ⟨E, hE⟩ : ∃ E, E = freshE (tn : Int) l ln := ⟨_, rfl⟩
  have HF := Fresh_any tn ln A1 l.length c1 l w3 hms3 hc3 hm3
  rw [← hM, ← hE] at HF
  unfold vMk at HF
  have HFF := Lib.hid HF
  have HME := Lib.hid (And.intro hM (hE.trans (show freshE (tn : Int) l ln = if (leastI (freshAll tn l ln)).isSome then 0 else 11 by unfold freshE; rw [if_neg (by rw [hHM.out.1]; omega), if_neg (by omega), if_neg (by rw [Bool.not_eq_false, btw_iff]; omega)])))
  have HE0 := Lib.hid hE
  clear hM hE HF
  go_wp2_with fail
  refine HFF.out.mono ?_
  rintro e w4 ⟨rfl, hb4⟩
  have b4 := bheap b3 hb4 (Nat.le_refl _)
  have hO4 := hO3.below hb4 (Nat.le_refl _)
  have hB4 := hB3.trans (hb4.mono hB3.size)
  clear hb4 b3 hO3 hB3 hms3 hc3 hm3 r0 r1 HFF
  go_upto_region 5 with (fail)
  obtain ⟨W5, hW⟩ : ∃ W5, W5 = w4.alloc (Obj.cells #[Value.int .i64 M.n, .int .i64 M.b, .int .i64 M.p] 26) := ⟨_, rfl⟩
  rw [← hW]
  have b5 : W5.heap[w2.heap.size]? = some (Obj.cells #[Value.int .i64 (tn : Int), .slice A1 l.length c1] 24 (0, 0)) := by rw [hW]; exact hblk_alloc b4 _
  have m5 : W5.heap[w4.heap.size]? = some (Obj.cells #[Value.int .i64 M.n, .int .i64 M.b, .int .i64 M.p] 26 (0, 0)) := by rw [hW]; exact alloc_at rfl
  have hO5 : OwnM W5 (w.heap.size + 1) (.slice A1 l.length c1) l := by rw [hW]; exact hO4.alloc _
  have hB5 : Below w.heap.size w W5 := by rw [hW]; exact bal hB4 (Nat.le_refl _) _
  have HW := Lib.hid (And.intro b5 (And.intro m5 (And.intro hO5 hB5)))
  have hl5' := heap_lt m5
  have hl24 := heap_lt b4
  have hs5 := hB5.size
  clear hW b4 hO4 hB4 b5 m5 hO5 hB5
  go_wp2_with fail
  go_loopg [8] 9 (fun g i wr => ∃ many : Nat, many + g = 9 ∧ i = .int .i64 many ∧ Dn l tn ln many 0 ∧ Below W5.heap.size W5 wr)
  case atStart => exact ⟨0, by omega, rfl, Dn.zero, Below.refl _ _⟩
  case round =>
    obtain ⟨many, hk, rfl, hdn, hbl⟩ := hrel
    obtain ⟨wa, rfl⟩ : ∃ wa : World, wa = wr := ⟨_, rfl⟩
    obtain ⟨ga, rfl⟩ : ∃ ga : Nat, ga = gk := ⟨_, rfl⟩
    have HA := Lib.hid (And.intro hk (And.intro hdn hbl))
    have hm9 : many ≤ 9 := by omega
    clear hk hdn hbl
    by_cases hlm : many ≤ 8
    · have hlm' : (many : Int) ≤ 8 := by omega
      go_wp2_with fail
      go_loopg [9] 256 (fun g i wr => ∃ nn : Nat, nn + g = 256 ∧ i = .int .i64 nn ∧ Dn l tn ln many (nn * 70) ∧ Below W5.heap.size W5 wr)
      case atStart => exact ⟨0, by omega, rfl, by simpa using HA.out.2.1, HA.out.2.2⟩
      case round =>
        obtain ⟨nn, hk, rfl, hdn, hbl⟩ := hrel
        obtain ⟨wb, rfl⟩ : ∃ wb : World, wb = wr := ⟨_, rfl⟩
        obtain ⟨gb, rfl⟩ : ∃ gb : Nat, gb = gk := ⟨_, rfl⟩
        have HQ := Lib.hid (And.intro hk (And.intro hdn hbl))
        have hn256 : nn ≤ 256 := by omega
        clear hk hdn hbl
        by_cases hln : nn ≤ 255
        · have hln' : (nn : Int) ≤ 255 := by omega
          have hln0 : (0 : Int) ≤ (nn : Int) := by omega
          obtain ⟨P, hP⟩ : ∃ P, P = popI (nn : Int) := ⟨_, rfl⟩
          have HNo := Lib.hid (fun w => hP ▸ rNotches (nn : Int) w hln0 hln')
          have HP := Lib.hid hP
          have hP8 : P ≤ 8 := by rw [hP]; exact cnt_le _
          clear hP
          go_wp2_with fail
          refine (HNo.out _).mono ?_
          rintro e w' ⟨rfl, rfl⟩
          by_cases hpm : P = many
          · subst hpm
            have hbe : ((P : Int) != (P : Int)) = false := by simp
            go_wp2_with fail
            go_loopg [10] 70 (fun g i wr => ∃ k : Nat, k + g = 70 ∧ i = .int .i64 k ∧ Dn l tn ln P (nn * 70 + k) ∧ Below W5.heap.size W5 wr)
            case atStart => exact ⟨0, by omega, rfl, HQ.out.2.1, HQ.out.2.2⟩
            case round =>
              obtain ⟨k, hk, rfl, hdn, hbl⟩ := hrel
              obtain ⟨wd, rfl⟩ : ∃ wd : World, wd = wr := ⟨_, rfl⟩
              obtain ⟨gc, rfl⟩ : ∃ gc : Nat, gc = gk := ⟨_, rfl⟩
              have HR := Lib.hid (And.intro hk (And.intro hdn hbl))
              have hk70 : k ≤ 70 := by omega
              have hsd := hbl.size
              clear hk hdn hbl
              by_cases hlk : k < 70
              · have hlk' : (k : Int) < 70 := by omega
                have hlk0 : (0 : Int) ≤ (k : Int) := by omega
                have d0 : (0 : Int) ≤ (k : Int) / 7 := by omega
                have d1 : (k : Int) / 7 ≤ 9 := by omega
                have d2 : (0 : Int) ≤ (k : Int) % 7 := by omega
                have d3 : (k : Int) % 7 ≤ 6 := by omega
                go_upto_region 16 with (fail)
                obtain ⟨xb, hxb⟩ : ∃ x, x = (k : Int) / 7 := ⟨_, rfl⟩
                obtain ⟨xp, hxp⟩ : ∃ x, x = (k : Int) % 7 := ⟨_, rfl⟩
                rw [← hxb] at d0 d1
                rw [← hxp] at d2 d3
                rw [← hxb, ← hxp]
                have HX := Lib.hid (And.intro hxb hxp)
                clear hxb hxp
                obtain ⟨W6, hW⟩ : ∃ W6, W6 = wd.alloc (Obj.cells #[Value.int .i64 (nn : Int), .int .i64 xb, .int .i64 xp] 26) := ⟨_, rfl⟩
                rw [← hW]
                have m6 : W6.heap[wd.heap.size]? = some (Obj.cells #[Value.int .i64 (nn : Int), .int .i64 xb, .int .i64 xp] 26 (0, 0)) := by rw [hW]; exact alloc_at rfl
                have hb6 : Below wd.heap.size wd W6 := by rw [hW]; exact bal0 wd _
                have HW6 := Lib.hid (And.intro m6 (HR.out.2.2.trans (hb6.mono hsd)))
                have hl6 := heap_lt m6
                clear hW m6 hb6
                go_wp2_with fail
                go_loopg [12, 13] l.length (fun g v i wr => ∃ q : Nat, q + g = l.length ∧ i = .int .i64 q ∧ v = .bool (freeM (l.take q) tn ln ⟨nn, xb, xp⟩) ∧ Below W6.heap.size W6 wr)
                case atStart => exact ⟨0, by omega, rfl, rfl, Below.refl _ _⟩
                case round =>
                  obtain ⟨q, hq, rfl, rfl, hbr⟩ := hrel
                  have HI := Lib.hid (And.intro hq hbr)
                  have hql : q ≤ l.length := by omega
                  have hsr := hbr.size
                  obtain ⟨F, hF⟩ : ∃ F, F = freeM (l.take q) tn ln ⟨nn, xb, xp⟩ := ⟨_, rfl⟩
                  rw [← hF]
                  have HFr := Lib.hid hF
                  have hw := HW6.out.2.trans (hbr.mono (Nat.le_trans hsd (Nat.le_of_lt hl6)))
                  obtain ⟨r0, r1⟩ := blk2 (bheap HW.out.1 hw (Nat.le_refl _))
                  clear hq hF
                  by_cases hlq : q < l.length
                  · obtain ⟨b, off, o, rfl, hb, ho, c0, c1', c2⟩ := Marks.get ((HW.out.2.2.1.below hw (Nat.le_refl _)).sl lenMk).1 hlq
                    obtain ⟨z0, z1, z2⟩ := blk3 (bheap HW6.out.1 hbr (Nat.le_refl _))
                    have hov := (check_marks hHM.out.1 o (List.mem_of_getElem? ho)).1
                    have HOx := Lib.hid ho
                    have i0 : (0 : Int) ≤ (q : Int) := by omega
                    have i1 : (q : Int) < (l.length : Int) := by omega
                    have cM : ∀ d os, Calls Try.prog 43 #[vMk ⟨nn, xb, xp⟩, vMk o, .int .i64 ln, .int .i64 tn] (Sort.grow (redrawn wr d) os) (fun e w'' => e = .returned (.bool (decide (mixedS ⟨nn, xb, xp⟩ o tn ≤ ln))) ∧ ∃ p : Regrown, w'' = Sort.grow (redrawn wr p.d) p.os) := fun d os =>
                      Calls.regrown_of (clash_any ⟨nn, xb, xp⟩ o ln tn _ ⟨hln0, hln'⟩ hov (by omega) (by omega))
                    obtain ⟨C, hC⟩ : ∃ C, C = decide (mixedS ⟨nn, xb, xp⟩ o tn ≤ ln) := ⟨_, rfl⟩
                    rw [← hC] at cM
                    unfold vMk at cM
                    have HC := Lib.hid hC
                    clear hC ho hbr hw hb
                    cases F <;> cases C
                    all_goals
                      have HCM := Lib.hid cM
                      go_upto_region 20 with (fail)
                      have k0 := cell_regrown r0
                      have k1 := cell_regrown r1
                      have k2 := cell_regrown c0
                      have k3 := cell_regrown c1'
                      have k4 := cell_regrown c2
                      have k5 := cell_regrown z0
                      have k6 := cell_regrown z1
                      have k7 := cell_regrown z2
                      clear cM r0 r1 c0 c1' c2 z0 z1 z2
                      refine wp_region_quiet_below (by kernel_rfl) (by kernel_rfl) ?_
                      repeat
                        with_reducible refine wpQuiet_step (fun K hK => ?_)
                        go_simp
                        first
                          | (with_reducible refine hK _ ?_
                             clear hK K)
                          | (apply Exists.intro
                             refine ⟨fun _ => ?_, ?_⟩
                             (exact HCM.out _ _)
                             with_reducible refine hK _ ?_
                             clear hK K)
                      with_reducible refine wpQuiet_nil ?_
                      intro _ hw'
                      obtain ⟨⟨dq, osq⟩, hw''⟩ := hw'
                      subst hw''
                      obtain ⟨W7, hW7⟩ : ∃ W7, W7 = Sort.grow (redrawn wr dq) osq := ⟨_, rfl⟩
                      have hb7 : Below wr.heap.size wr W7 := by rw [hW7]; exact below_regrown wr dq osq
                      have HB7 := Lib.hid (HI.out.2.trans (hb7.mono hsr))
                      rw [← hW7]
                      clear hW7 k0 k1 k2 k3 k4 k5 k6 k7 hb7
                      go_wp2
                      go_roundg (gk - 1)
                      case measure => have := HI.out.1; omega
                      case rel =>
                        refine ⟨q + 1, by have := HI.out.1; omega, by go_num, ?_, HB7.out⟩
                        have h1 := HFr.out
                        have h2 := HC.out
                        unfold freeM at h1 ⊢
                        rw [List.take_add_one, HOx.out, List.all_append, ← h1]
                        simp [← h2]
                  · obtain rfl : q = l.length := by omega
                    have hfree : F = freeM l tn ln ⟨nn, xb, xp⟩ := by rw [HFr.out, List.take_of_length_le (Nat.le_refl _)]
                    have HFr2 := Lib.hid hfree
                    have HWr := Lib.hid (And.intro hw hbr)
                    clear hfree hw hbr
                    cases F
                    · go_wp2
                      go_roundg (gc - 1)
                      case measure => have := HR.out.1; omega
                      case rel =>
                        refine ⟨k + 1, by have := HR.out.1; omega, by go_num, ?_, HWr.out.1⟩
                        have := HR.out.2.1.next (by rw [mkIx_k hlk, ← HX.out.1, ← HX.out.2]; exact HFr2.out.symm)
                        exact this
                    · obtain ⟨hkk, hlst⟩ := Dn.found' (n := nn) (k := k) (by omega) hlk HP.out.symm HR.out.2.1 (by rw [← HX.out.1, ← HX.out.2]; exact HFr2.out.symm)
                      have hE0 : E = 0 := by rw [HME.out.2, hlst]; rfl
                      have hMx : M = ⟨nn, xb, xp⟩ := by
                        rw [HME.out.1, freshM_of (by rw [← HE0.out]; exact hE0) hlst, mkIx_k hlk, ← HX.out.1, ← HX.out.2]
                      have e1 : (M.n == (nn : Int)) = true := by rw [hMx]; simp
                      have e2 : (M.b == xb) = true := by rw [hMx]; simp
                      have e3 : (M.p == xp) = true := by rw [hMx]; simp
                      have hfx : freeM l tn ln ⟨nn, xb, xp⟩ = true := HFr2.out.symm
                      have hkx : mkOk ⟨nn, xb, xp⟩ = true := mkOk_iff.2 ⟨⟨hln0, hln'⟩, ⟨d0, d1⟩, d2, d3⟩
                      have hck2 := check_snoc hHM.out.1 hl5 hkx (by omega) hfx
                      have hms2 := mist_snoc hfx
                      have HCK := Lib.hid (And.intro hck2 hms2)
                      subst hE0
                      clear hMx hfx hkx hck2 hms2 hlst hkk
                      have hOr := HW.out.2.2.1.below HWr.out.1 (Nat.le_refl _)
                      have brr := bheap HW.out.1 HWr.out.1 (Nat.le_refl _)
                      have bMr := bheap HW.out.2.1 HWr.out.1 (Nat.le_refl _)
                      have bxr := bheap HW6.out.1 HWr.out.2 (Nat.le_refl _)
                      have hzA : A1 = none → c1 = 0 := by
                        obtain ⟨A', c', hv, _, _, _, h3⟩ := own_shape hOr lenMk
                        cases hv
                        exact h3
                      have hsr := HWr.out.2.size
                      have hs5r := HWr.out.1.size
                      have HOr := Lib.hid hOr
                      have hltA : ∀ b off, A1 = some ⟨b, off, none⟩ → b < wr.heap.size := fun b off e => (hOr.lt b (by rw [e]; rfl)).2
                      go_wp2_with fail
                      refine (copyRegister_any tn A1 l.length c1 l _ (HOr.out.sl lenMk).1 hzA (by omega)).mono ?_
                      rintro e w7 ⟨⟨A3, c3, rfl, hown3, hm3, hlc3, hcm3, hz3⟩, hb7⟩
                      have br7 := bheap brr hb7 (Nat.le_refl _)
                      have bM7 := bheap bMr hb7 (Nat.le_refl _)
                      have bx7 := bheap bxr hb7 (Nat.le_refl _)
                      have hO7 := hOr.below hb7 (Nat.le_refl _)
                      have hB7 := HWr.out.1.trans (hb7.mono hs5r)
                      have hs7 := hb7.size
                      clear hb7 brr bMr bxr hOr HOr r0 r1 hm3
                      go_upto_region 23 with (fail)
                      obtain ⟨W8, hW⟩ : ∃ W8, W8 = w7.alloc (Obj.cells #[Value.int .i64 (tn : Int), .slice A3 l.length c3] 24) := ⟨_, rfl⟩
                      rw [← hW]
                      have aL : W8.heap[w7.heap.size]? = some (Obj.cells #[Value.int .i64 (tn : Int), .slice A3 l.length c3] 24 (0, 0)) := by rw [hW]; exact alloc_at rfl
                      replace br7 : W8.heap[w2.heap.size]? = some (Obj.cells #[Value.int .i64 (tn : Int), .slice A1 l.length c1] 24 (0, 0)) := by rw [hW]; exact hblk_alloc br7 _
                      replace bM7 : W8.heap[w4.heap.size]? = some (Obj.cells #[Value.int .i64 M.n, .int .i64 M.b, .int .i64 M.p] 26 (0, 0)) := by rw [hW]; exact hblk_alloc bM7 _
                      replace bx7 : W8.heap[wd.heap.size]? = some (Obj.cells #[Value.int .i64 (nn : Int), .int .i64 xb, .int .i64 xp] 26 (0, 0)) := by rw [hW]; exact hblk_alloc bx7 _
                      replace hO7 : OwnM W8 (w.heap.size + 1) (.slice A1 l.length c1) l := by rw [hW]; exact hO7.alloc _
                      replace hown3 : OwnM W8 wr.heap.size (.slice A3 l.length c3) l := by rw [hW]; exact hown3.alloc _
                      replace hB7 : Below W5.heap.size W5 W8 := by rw [hW]; exact bal hB7 (Nat.le_refl _) _
                      clear hW
                      have hs8 := heap_lt aL
                      have hll : l.length < 4294967296 := by omega
                      obtain ⟨y0, y1⟩ := blk2 aL
                      obtain ⟨z0, z1, z2⟩ := blk3 bx7
                      have HO := Lib.hid (And.intro hown3 (And.intro aL (And.intro br7 (And.intro bM7 (And.intro bx7 (And.intro hO7 hB7))))))
                      clear hown3 aL br7 bM7 bx7 hO7 hB7
                      go_upto_region 24 with (at_builtin; refine wp_appx okMark rfl (.tmp 80) (.tmp 82) rfl wr.heap.size (Value.slice A3 l.length c3) l ⟨nn, xb, xp⟩ _ rfl rfl rfl rfl (one_eMk _) HO.out.1 hll ?_ ?_ ?_; (omega); (omega); intro g9 c9 w9 hown9 hgr9 hb9; have bq9 := (hgr9.block _ (heap_lt HO.out.2.1) (fun e => by have h9 := Own.ne' HO.out.1 HO.out.2.1 (by decide) e.symm; exact h9)).trans HO.out.2.1; have q9 := (blk2 bq9).2; have f9 := frz bq9 1; have H9 := Lib.hid (And.intro hown9 (And.intro hgr9 (And.intro hb9 bq9))); clear hown9 hgr9 hb9 bq9)
                      have hne9 := H9.out.1.ne H9.out.2.2.2 (by decide)
                      obtain ⟨W10, hW⟩ : ∃ W, W = w9.setCell ⟨w7.heap.size, 1, none⟩ (.slice (some ⟨g9, 0, none⟩) (l.length + 1) c9) := ⟨_, rfl⟩
                      rw [← hW]
                      have hb10 : Below wr.heap.size W8 W10 := by rw [hW]; exact H9.out.2.2.1.setCell (show wr.heap.size ≤ w7.heap.size from hs7) _
                      have aL10 : W10.heap[w7.heap.size]? = some (Obj.cells #[Value.int .i64 (tn : Int), .slice (some ⟨g9, 0, none⟩) (l.length + 1) c9] 24 (0, 0)) := by rw [hW]; exact set2_1 H9.out.2.2.2
                      have hOL : OwnM W10 wr.heap.size (.slice (some ⟨g9, 0, none⟩) (l ++ [(⟨nn, xb, xp⟩ : Mk)]).length c9) (l ++ [(⟨nn, xb, xp⟩ : Mk)]) := by
                        rw [hW, List.length_append]
                        exact Own.kept H9.out.1 (gb_set _ _ _ _) (.inr (by simpa [Value.ownBlock] using hne9))
                      clear hW H9 q9 f9 y0 y1 z0 z1 z2 hne9
                      have hs10 := hb10.size
                      have br10 := blk_b HO.out.2.2.1 hb10 (by omega)
                      have bM10 := blk_b HO.out.2.2.2.1 hb10 (by omega)
                      have bx10 := blk_b HO.out.2.2.2.2.1 hb10 (by omega)
                      have hB10 := HO.out.2.2.2.2.2.2.trans (hb10.mono hs5r)
                      have hms10 : Marks W10 A1 l.length l := Sl.under (HO.out.2.2.2.2.2.1.sl lenMk).1 hb10 hltA
                      have hmsL : Marks W10 (some ⟨g9, 0, none⟩) (l.length + 1) (l ++ [⟨nn, xb, xp⟩]) ∧ l.length + 1 ≤ c9 ∧ c9 ≤ maxLen := by
                        have h := hOL.sl lenMk
                        rw [List.length_append] at h
                        exact h
                      have hme : mistE (tn : Int) l ln = 0 := by unfold mistE; rw [if_neg (by simp [hHM.out.1]), if_neg (by rw [Bool.not_eq_false, btw_iff]; omega)]
                      have hme2 : mistE (tn : Int) (l ++ [⟨nn, xb, xp⟩]) ln = 0 := by unfold mistE; rw [if_neg (by simp [HCK.out.1]), if_neg (by rw [Bool.not_eq_false, btw_iff]; omega)]
                      have C1 := Mistaken_any tn A1 l.length c1 l ln W10 hms10 hHM.out.2 (HO.out.2.2.2.2.2.1.sl lenMk).2.2
                      rw [hme, show mistR (tn : Int) l ln = mistL l tn ln by unfold mistR; rw [if_pos hme]] at C1
                      have C2 := fun w' (hb' : Below W10.heap.size W10 w') => Mistaken_any tn (some ⟨g9, 0, none⟩) (l.length + 1) c9 (l ++ [⟨nn, xb, xp⟩]) ln w' (hmsL.1.below hb' (Nat.le_refl _)) hmsL.2.1 hmsL.2.2
                      rw [hme2, show mistR (tn : Int) (l ++ [⟨nn, xb, xp⟩]) ln = mistL (l ++ [⟨nn, xb, xp⟩]) tn ln by unfold mistR; rw [if_pos hme2], HCK.out.2] at C2
                      have HC1 := Lib.hid C1
                      have HC2 := Lib.hid C2
                      have HBX := Lib.hid (And.intro bM10 (And.intro bx10 (And.intro aL10 hB10)))
                      obtain ⟨r0, r1⟩ := blk2 br10
                      clear C1 C2 hme hme2 hmsL hms10 hOL aL10 bM10 bx10 hB10 hb10 hltA br10
                      go_wp2_with fail
                      refine HC1.out.mono ?_
                      rintro e w11 ⟨v11, rfl, ho11, hb11⟩
                      obtain ⟨Aa, ca, rfl, hga, hca, hma⟩ := ho11.form
                      have HG1 := Lib.hid (And.intro hga (And.intro hca hma))
                      obtain ⟨y0, y1⟩ := blk2 (bheap HBX.out.2.2.1 hb11 (Nat.le_refl _))
                      have HB11 := Lib.hid hb11
                      clear ho11 hga hca hma hb11 r0 r1
                      go_wp2_with fail
                      refine (HC2.out _ HB11.out).mono ?_
                      rintro e w12 ⟨v12, rfl, ho12, hb12⟩
                      obtain ⟨Ab, cb, rfl, hgb, hcb, hmb⟩ := ho12.form
                      obtain ⟨L, hL⟩ : ∃ L, L = mistL l (tn : Int) ln := ⟨_, rfl⟩
                      have hga := HG1.out.1.below hb12 (Nat.le_refl _)
                      have hLm := Nat.le_trans HG1.out.2.1 HG1.out.2.2
                      rw [← hL] at hga hgb hLm ⊢
                      have HG2 := Lib.hid (And.intro hga hgb)
                      have HB12 := Lib.hid (HB11.out.trans (hb12.mono HB11.out.size))
                      obtain ⟨x0, x1, x2⟩ := blk3 (bheap HBX.out.2.1 HB12.out (Nat.le_refl _))
                      obtain ⟨m0, m1, m2⟩ := blk3 (bheap HBX.out.1 HB12.out (Nat.le_refl _))
                      clear ho12 hga hgb hcb hmb hb12 hL y0 y1
                      go_wp2_with fail
                      refine (sameGrids_any Aa L.length ca L Ab L.length cb L _ HG2.out.1 HG2.out.2 hLm hLm).mono ?_
                      rw [show sameL L L = true from decide_eq_true rfl]
                      rintro e w13 ⟨rfl, hb13⟩
                      have HB13 := Lib.hid (HB12.out.trans (hb13.mono HB12.out.size))
                      clear hb13 x0 x1 x2 m0 m1 m2
                      go_wp2_with fail
                      refine (marking_any _).mono ?_
                      rintro e w14 ⟨rfl, hb14⟩
                      go_wp2
                      go_ret
                      have h1 := HB13.out.trans (hb14.mono HB13.out.size)
                      have h2 := HBX.out.2.2.2
                      exact ⟨rfl, HW.out.2.2.2.trans ((h2.trans (h1.mono h2.size)).mono hs5)⟩
              · obtain rfl : k = 70 := by omega
                go_wp2
                go_roundg (gb - 1)
                case measure => have := HQ.out.1; omega
                case rel => exact ⟨nn + 1, by have := HQ.out.1; omega, by go_num, by rw [show (nn + 1) * 70 = nn * 70 + 70 by omega]; exact HR.out.2.1, HR.out.2.2⟩
          · have hbe : ((P : Int) != (many : Int)) = true := by simp; omega
            have HNE := Lib.hid hpm
            clear hpm
            go_wp2
            go_roundg (gb - 1)
            case measure => have := HQ.out.1; omega
            case rel => exact ⟨nn + 1, by have := HQ.out.1; omega, by go_num, HQ.out.2.1.skip (by rw [← HP.out]; exact HNE.out), HQ.out.2.2⟩
        · obtain rfl : nn = 256 := by omega
          go_wp2
          go_roundg (ga - 1)
          case measure => have := HA.out.1; omega
          case rel => exact ⟨many + 1, by have := HA.out.1; omega, by go_num, HQ.out.2.1.more, HQ.out.2.2⟩
    · obtain rfl : many = 9 := by omega
      have hE11 : E = 11 := by
        rw [HME.out.2, HA.out.2.1.none]
        rfl
      subst hE11
      go_wp2_with fail
      refine (marking_any _).mono ?_
      rintro e w9 ⟨rfl, hb9⟩
      go_wp2
      go_ret
      have h1 := HA.out.2.2
      exact ⟨rfl, HW.out.2.2.2.trans ((h1.trans (hb9.mono h1.size)).mono hs5)⟩
end Go.Proofs.Ytahlicinchehhaa
