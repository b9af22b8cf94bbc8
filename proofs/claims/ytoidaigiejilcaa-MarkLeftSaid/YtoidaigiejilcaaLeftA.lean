/- mestalaw03.MarkLeft returns true. -/
import Derived.Test.YtoidaigiejilcaaMarking
import Derived.Test.YtoidaigiejilcaaLeft
import Derived.Test.YtoidaigiejilcaaGives
import Derived.Test.YtoidaigiejilcaaWords
import Derived.Test.YtoidaigiejilcaaDecL
namespace Go.Proofs.Ytoidaigiejilcaa
open Go.RowKit
set_option linter.unusedVariables false
set_option linter.unusedSimpArgs false

def leftP (t : Int) (l : List Mk) (ss : List Sg) (mis : List Int) (x : List Int) : Bool := givesB t l ss mis (decL x)
def leftF (x : List Int) : List Int := leftIx (decL x)
theorem decL_len (x : List Int) : (decL x).length = x.length := by unfold decL; simp

set_option maxRecDepth 100000 in
set_option maxHeartbeats 4000000 in
theorem MarkLeft_any (A : Option Addr) (n c : Nat) (nums : List Int) (w : World) (hl : Ints w A n nums) (hn : n ≤ 9223372036854775807) :
    Calls Try.prog 3 #[.slice A n c] w fun e w' => e = .returned (.bool true) ∧ Below w.heap.size w w' := by
  go_enter Try.func3, Try.ntmps3
  go_wp2_with fail
  refine (newHand_any A n c nums _ hl hn).mono ?_
  rintro e w1 ⟨rfl, hh, hb1, hz1⟩
  clear hl hz1
  go_wp2_with fail
  refine (found_any w.heap.size _ hh).mono ?_
  rintro e w2 ⟨tn, l, A1, c1, B, cb, ss, D, cd, mis, rfl, hck, hl3, hms, hlc, hcm, hzA, hss, hsv, hs4, hmi, hml, hmv, hd2⟩
  have hB2 := hb1.trans ((hd2.below (Nat.le_refl _) hb1.size))
  have HML := Lib.hid hml
  have hml3 : mis.length ≤ 3 := by omega
  clear hd2 hb1 hh hml
  go_upto_region 2 with (fail)
  obtain ⟨W, hW⟩ : ∃ W, W = w2.alloc (Obj.cells #[Value.int .i64 (tn : Int), .slice A1 l.length c1] 25) := ⟨_, rfl⟩
  rw [← hW]
  have hb3 : Below w2.heap.size w2 W := by rw [hW]; exact bal0 w2 _
  have bW : W.heap[w2.heap.size]? = some (Obj.cells #[Value.int .i64 (tn : Int), .slice A1 l.length c1] 25 (0, 0)) := by rw [hW]; exact alloc_at rfl
  have hBW := hB2.trans (hb3.mono hB2.size)
  have HD := Lib.hid (And.intro bW (And.intro (hms.below hb3 (Nat.le_refl _)) (And.intro (hss.below hb3 (Nat.le_refl _)) (And.intro (hmi.below hb3 (Nat.le_refl _)) hBW))))
  have HP := Lib.hid (And.intro hck (And.intro hsv (And.intro HML.out (And.intro hmv hzA))))
  have hml' : mis.length ≤ maxLen := by unfold maxLen; omega
  have hsl' : ss.length ≤ maxLen := by unfold maxLen; omega
  have hge : gatherE (tn : Int) l ss mis = 0 := by
    unfold gatherE
    have := HML.out
    rw [if_neg (by rw [hck]; omega), if_neg (by omega), if_neg (by rw [sightsE_ok.2 hsv]; omega), if_neg (by omega), if_neg (by omega), if_pos]
    rw [List.all_eq_true]
    intro x hx
    have := hmv x hx
    rw [btw_iff]
    omega
  have hm0 : ∀ x ∈ mis, 0 ≤ x := fun x hx => (hmv x hx).1
  have HM0 := Lib.hid hm0
  obtain ⟨p, hp⟩ : ∃ p, p = leftP (tn : Int) l ss mis := ⟨_, rfl⟩
  have HPP := Lib.hid hp
  obtain ⟨R, hR⟩ : ∃ R, R = leftR (tn : Int) l ss mis := ⟨_, rfl⟩
  have HR := Lib.hid (show R = leftL (mays (tn : Int) l ss) mis by rw [hR]; unfold leftR; rw [if_pos hge])
  have C1 := Left_any tn A1 l.length c1 l B ss.length cb ss D mis.length cd mis W HD.out.2.1 hlc hcm HD.out.2.2.1 hsl' HD.out.2.2.2.1 hml'
  rw [hge, ← hR] at C1
  have HC1 := Lib.hid C1
  obtain ⟨r0, r1⟩ := blk2 bW
  have hsW := hBW.size
  have hlW := heap_lt bW
  clear C1 hR hW hB2 hb3 bW hBW hms hss hmi hck hsv hmv hzA hge hm0 hp
  go_wp2_with fail
  (with_reducible refine HC1.out.mono ?_)
  rintro e w3 ⟨⟨A3, c3, rfl, hs3, hc3, hm3⟩, hb3⟩
  have HX3 := Lib.hid (And.intro hs3 (And.intro hb3 (Nat.le_trans hc3 hm3)))
  have hs3' := hb3.size
  clear hs3 r0 r1
  obtain ⟨r0, r1⟩ := blk2 (bheap HD.out.1 hb3 (Nat.le_refl _))
  clear hb3
  have e1 : IntKind.i64.wrap ((l.length : Int) + 1) = ((l.length + 1 : Nat) : Int) := by rw [IntWalk.i64_in _ (by omega)]; simp
  go_wp2_with fail
  refine (words_any (l.length + 1) (by omega) ss.length (by omega) _).mono ?_
  rintro e w5 ⟨v5, rfl, ho5, hb5⟩
  obtain ⟨A5, c5, rfl, -, hc5, hm5⟩ := ho5.form
  have hbW5 := HX3.out.2.1.trans (hb5.mono hs3')
  obtain ⟨all, hall⟩ : ∃ a, a = wordsL (l.length + 1) ss.length := ⟨_, rfl⟩
  rw [← hall] at ho5 hc5 ⊢
  have HX5 := Lib.hid (And.intro ho5 (And.intro hb5 hbW5))
  have HALL := Lib.hid hall
  have hwl : all.length ≤ 3125 := by rw [hall]; exact Nat.le_trans (wordsL_len _ (by omega) _) (pow5_le (by omega))
  have hs5 := hb5.size
  have hsW5 := hbW5.size
  clear ho5 hall r0 r1 hc5 hm5
  clear hb5 hbW5
  go_wp2_with fail
  go_loopg [9, 10, 11] all.length (fun g v u x wr => ∃ i : Nat, i + g = all.length ∧ x = .int .i64 i ∧ ∃ s b, u = .bool s ∧ OwnI wr w5.heap.size v b ∧ b.length ≤ 4 ∧ Scan p leftF all i s b ∧ Below w5.heap.size w5 wr)
  case atStart => exact ⟨0, by omega, rfl, false, [], rfl, Own.nil_, by simp, Scan.zero, Below.refl _ _⟩
  case round =>
    obtain ⟨i, hi, rfl, s, b, rfl, hob, hbl4, hsc, hbr⟩ := hrel
    obtain ⟨Ab, cb', rfl, hsb, hcb, hmb⟩ := hob.form lenInt
    have HI := Lib.hid (And.intro hi (And.intro hob (And.intro hsc (And.intro hbr (And.intro hsb (And.intro hcb hmb))))))
    have hil : i ≤ all.length := by omega
    have hsr := hbr.size
    obtain ⟨g1, rfl⟩ : ∃ g1 : Nat, g1 = gk := ⟨_, rfl⟩
    obtain ⟨wo, rfl⟩ : ∃ wo : World, wo = wr := ⟨_, rfl⟩
    have hWr : Below W.heap.size W wo := HX5.out.2.2.trans (hbr.mono hsW5)
    have HWr := Lib.hid hWr
    clear hi hob hsc hsb hcb hmb
    by_cases hlt : i < all.length
    · obtain ⟨bb, ob, cap, Bx, x, cx, hv, hx, hc, hxi, hxc, hxm, hxz⟩ := HX5.out.1.get hlt
      obtain ⟨rfl, rfl⟩ : A5 = some ⟨bb, ob, none⟩ ∧ c5 = cap := by simpa using hv
      replace hc := bcell hc hbr (Nat.le_refl _)
      have hxw : x ∈ wordsL (l.length + 1) ss.length := by
        have := List.mem_of_getElem? hx
        rwa [HALL.out] at this
      obtain ⟨hxl, hxv⟩ := wordsL_mem hxw
      have C6 := copyInts_any Bx x.length cx x wo (hxi.below hbr (Nat.le_refl _)) hxz (by omega)
      have HC6 := Lib.hid C6
      have HX := Lib.hid (And.intro hx (And.intro hxl hxv))
      have i0 : (0 : Int) ≤ (i : Int) := by omega
      have i1 : (i : Int) < (all.length : Int) := by omega
      clear hv hx hxi hxl hxv hxw hxz C6 hxc hbr hWr
      go_wp2_with fail
      (with_reducible refine HC6.out.mono ?_)
      rintro e w6 ⟨v6, rfl, ho6, hb6⟩
      obtain ⟨A6, c6, rfl, hc6, hm6, hd6⟩ := DL.start ho6
      have hs6 := hb6.size
      have H6 := Lib.hid (And.intro hd6 hb6)
      clear ho6 hd6 hb6 hc
      go_wp2_with fail
      go_loopg [13, 14] x.length (fun g v z wr => ∃ k : Nat, k + g = x.length ∧ z = .int .i64 k ∧ OwnI wr w6.heap.size v (leftTo (decL x) k) ∧ DL wr A6 wo.heap.size w6.heap.size x k ∧ Below wo.heap.size wo wr ∧ w6.heap.size ≤ wr.heap.size)
      case atStart => exact ⟨0, by omega, rfl, Own.nil_, H6.out.1, H6.out.2, Nat.le_refl _⟩
      case round =>
        obtain ⟨k, hk, rfl, hol, hdl, hbk, h6k⟩ := hrel
        have HK := Lib.hid (And.intro hk (And.intro hol (And.intro hdl hbk)))
        have hkl : k ≤ x.length := by omega
        have hxl4 : x.length ≤ 4 := by have := HX.out.2.1; omega
        have hll : (leftTo (decL x) k).length < 4294967296 := by have := leftTo_len (decL x) k; omega
        have hwo : wo.heap.size ≤ wr.heap.size := by omega
        clear hk hol hbk
        by_cases hlk : k < x.length
        · obtain ⟨g, y, rfl, hg, hgt, hgw, hy, cY, fY, cY2, hd'⟩ := hdl.at_ hlk
          have hyv := HX.out.2.2 y (List.mem_of_getElem? hy)
          have ew : IntKind.i64.wrap (y - 1) = y - 1 := IntWalk.i64_in _ (by omega)
          have k0 : (0 : Int) ≤ (k : Int) := by omega
          have k1 : (k : Int) < (x.length : Int) := by omega
          have HS := Lib.hid (leftTo_succ (decL x) k)
          have HY := Lib.hid (decL_getD hy)
          have HD' := Lib.hid (And.intro hd' (HK.out.2.1.upon (w' := wr.setCell ⟨g, k, none⟩ (.int .i64 (y - 1))) (fun j hj => Below.heap_setCell _ ⟨g, k, none⟩ _ _ (by dsimp; omega))))
          have HB' := Lib.hid (HK.out.2.2.2.setCell (show wo.heap.size ≤ (⟨g, k, none⟩ : Addr).block from hg) (Value.int .i64 (y - 1)))
          clear hdl hd' hy hyv
          by_cases hneg : y - 1 < 0
          · have hd0 : decide (y - 1 < 0) = true := decide_eq_true hneg
            go_upto_region 16 with (fail)
            obtain ⟨W7, hW7⟩ : ∃ W7, W7 = wr.setCell ⟨g, k, none⟩ (.int .i64 (y - 1)) := ⟨_, rfl⟩
            have HW7 := Lib.hid hW7
            have hs7 : W7.heap.size = wr.heap.size := by rw [hW7]; simp [World.setCell]
            rw [← hW7]
            have h7 := HD'.out.2
            rw [← hW7] at h7
            have HO7 := Lib.hid h7
            clear h7
            clear hW7 cY cY2 fY
            have h67 : w6.heap.size ≤ W7.heap.size := by omega
            have HS7 := Lib.hid hs7
            clear hs7
            go_wp2_with (at_builtin; refine wp_app okInt rfl (.tmp 66) (.tmp 68) rfl w6.heap.size _ (leftTo (decL x) k) (k : Int) _ rfl rfl rfl rfl (one_eInt _) HO7.out hll (by omega) h67 ?_; intro v' w' hown' hb' _ hsz'; have H9 := Lib.hid (And.intro hown' (And.intro hb' hsz')); clear hown' hb' hsz')
            go_roundg (gk - 1)
            case measure => have := HK.out.1; omega
            case rel =>
              refine ⟨k + 1, by have := HK.out.1; omega, by go_num, ?_, ?_, ?_, by have := H9.out.2.2; omega⟩
              · rw [HS.out, HY.out, if_pos hneg]; exact H9.out.1
              · have h := HD'.out.1
                rw [← HW7.out] at h
                exact h.keep H9.out.2.1 (Nat.le_refl _)
              · have h := HB'.out
                rw [← HW7.out] at h
                exact h.trans (H9.out.2.1.mono (by omega))
          · have hd0 : decide (y - 1 < 0) = false := decide_eq_false hneg
            go_wp2
            go_roundg (gk - 1)
            case measure => have := HK.out.1; omega
            case rel =>
              refine ⟨k + 1, by have := HK.out.1; omega, by go_num, ?_, HD'.out.1, HB'.out, by simp [World.setCell]; omega⟩
              rw [HS.out, HY.out, if_neg (by omega), List.append_nil]; exact HD'.out.2
        · obtain rfl : k = x.length := by omega
          obtain ⟨AL, cL, rfl, hsl, hcl, hml⟩ := HK.out.2.1.form lenInt
          have hdi : Ints wr A6 x.length (decL x) := hdl.ints
          have hq0 : leftTo (decL x) x.length = leftF x := by unfold leftF leftIx; rw [decL_len]
          obtain ⟨q, hq⟩ : ∃ q, q = leftF x := ⟨_, rfl⟩
          have hoq := HK.out.2.1
          rw [hq0, ← hq] at hoq hsl hcl hll ⊢
          have hWw : Below W.heap.size W wr := HWr.out.trans (HK.out.2.2.2.mono HWr.out.size)
          have hq4 : q.length ≤ 4 := by
            have := leftTo_len (decL x) x.length
            rw [hq0, ← hq] at this
            omega
          have C7 := gives_any tn A1 l.length c1 l B ss.length cb ss D mis.length cd mis A6 x.length c6 (decL x) wr (HD.out.2.1.below hWw (Nat.le_refl _)) (HD.out.2.2.1.below hWw (Nat.le_refl _)) (HD.out.2.2.2.1.below hWw (Nat.le_refl _)) hdi HP.out.1 HP.out.2.1 (by have := HX.out.2.1; omega) (by have := HP.out.2.2.1; omega) (fun v hv => by
            unfold decL at hv
            obtain ⟨z, hz, rfl⟩ := List.mem_map.1 hv
            have := HX.out.2.2 z hz
            omega) (by omega)
          rw [show givesB (tn : Int) l ss mis (decL x) = p x by rw [HPP.out]; rfl] at C7
          obtain ⟨Gv, hGv⟩ : ∃ Gv, Gv = p x := ⟨_, rfl⟩
          rw [← hGv] at C7
          have HC7 := Lib.hid C7
          have HQ := Lib.hid (And.intro hq (And.intro hGv (And.intro hoq (And.intro hsl (And.intro hcl hml)))))
          have HWw := Lib.hid hWw
          obtain ⟨r0, r1⟩ := blk2 (bheap HD.out.1 hWw (Nat.le_refl _))
          clear hq0 hq hoq hsl hcl hml hWw C7 hdi hdl hGv
          go_wp2_with fail
          (with_reducible refine HC7.out.mono ?_)
          rintro e w7 ⟨rfl, hb7⟩
          have hBo7 := HK.out.2.2.2.trans (hb7.mono hwo)
          have h56 : w5.heap.size ≤ w6.heap.size := by omega
          have HB7 := Lib.hid (And.intro hb7 (And.intro hBo7 (And.intro (HI.out.2.2.2.1.trans (hBo7.mono hsr)) (And.intro (HI.out.2.1.below hBo7 (Nat.le_refl _)) ((HQ.out.2.2.1.below hb7 (Nat.le_refl _)).mono h56)))))
          clear hb7 hBo7 r0 r1
          cases Gv
          · go_wp2
            go_roundg (g1 - 1)
            case measure => have := HI.out.1; omega
            case rel => exact ⟨i + 1, by have := HI.out.1; omega, by go_num, s, b, rfl, HB7.out.2.2.2.1, hbl4, HI.out.2.2.1.keep HX.out.1 (.inl HQ.out.2.1.symm), HB7.out.2.2.1⟩
          · cases s
            · have hsc := HI.out.2.2.1.take HX.out.1 HQ.out.2.1.symm (.inl rfl)
              rw [← HQ.out.1] at hsc
              have HSC := Lib.hid hsc
              clear hsc
              go_wp2
              go_roundg (g1 - 1)
              case measure => have := HI.out.1; omega
              case rel => exact ⟨i + 1, by have := HI.out.1; omega, by go_num, true, q, rfl, HB7.out.2.2.2.2, hq4, HSC.out, HB7.out.2.2.1⟩
            · rcases Nat.lt_trichotomy q.length b.length with hlq | heq | hgq
              · have d1 : decide ((q.length : Int) < (b.length : Int)) = true := decide_eq_true (by omega)
                have d1' : (q.length : Int) < (b.length : Int) := by omega
                have hsc := HI.out.2.2.1.take HX.out.1 HQ.out.2.1.symm (.inr (by rw [← HQ.out.1]; unfold beforeB; rw [decide_eq_true hlq]; rfl))
                rw [← HQ.out.1] at hsc
                have HSC := Lib.hid hsc
                clear hsc
                go_wp2
                go_roundg (g1 - 1)
                case measure => have := HI.out.1; omega
                case rel => exact ⟨i + 1, by have := HI.out.1; omega, by go_num, true, q, rfl, HB7.out.2.2.2.2, hq4, HSC.out, HB7.out.2.2.1⟩
              · have d1 : decide ((q.length : Int) < (b.length : Int)) = false := decide_eq_false (by omega)
                have d1' : ¬ (q.length : Int) < (b.length : Int) := by omega
                have d2 : ((q.length : Int) == (b.length : Int)) = true := by rw [beq_iff_eq]; omega
                have C8 := ahead_any AL q.length cL q Ab b.length cb' b w7 (HQ.out.2.2.2.1.below HB7.out.1 (Nat.le_refl _)) (HI.out.2.2.2.2.1.below HB7.out.2.1 (Nat.le_refl _)) (by unfold maxLen; omega) (by unfold maxLen; omega)
                obtain ⟨Av, hAv⟩ : ∃ Av, Av = aheadB q b := ⟨_, rfl⟩
                rw [← hAv] at C8
                have HC8 := Lib.hid C8
                have HAV := Lib.hid (show beforeB q b = Av by unfold beforeB; rw [decide_eq_false (by omega), decide_eq_true heq, hAv]; rfl)
                clear C8 hAv heq
                go_wp2_with fail
                (with_reducible refine HC8.out.mono ?_)
                rintro e w8 ⟨rfl, hb8⟩
                have hB8 := HB7.out.2.1.trans (hb8.mono HB7.out.2.1.size)
                have HB8 := Lib.hid (And.intro (HI.out.2.2.2.1.trans (hB8.mono hsr)) (And.intro (HI.out.2.1.below hB8 (Nat.le_refl _)) (HB7.out.2.2.2.2.below hb8 (Nat.le_refl _))))
                clear hb8 hB8
                cases Av
                · have HSC := Lib.hid (HI.out.2.2.1.keep HX.out.1 (.inr ⟨rfl, by rw [← HQ.out.1]; exact HAV.out⟩))
                  go_wp2
                  go_roundg (g1 - 1)
                  case measure => have := HI.out.1; omega
                  case rel => exact ⟨i + 1, by have := HI.out.1; omega, by go_num, true, b, rfl, HB8.out.2.1, hbl4, HSC.out, HB8.out.1⟩
                · have hsc := HI.out.2.2.1.take HX.out.1 HQ.out.2.1.symm (.inr (by rw [← HQ.out.1]; exact HAV.out))
                  rw [← HQ.out.1] at hsc
                  have HSC := Lib.hid hsc
                  clear hsc
                  go_wp2
                  go_roundg (g1 - 1)
                  case measure => have := HI.out.1; omega
                  case rel => exact ⟨i + 1, by have := HI.out.1; omega, by go_num, true, q, rfl, HB8.out.2.2, hq4, HSC.out, HB8.out.1⟩
              · have d1 : decide ((q.length : Int) < (b.length : Int)) = false := decide_eq_false (by omega)
                have d1' : ¬ (q.length : Int) < (b.length : Int) := by omega
                have d2 : ((q.length : Int) == (b.length : Int)) = false := by rw [beq_eq_false_iff_ne]; omega
                have HSC := Lib.hid (HI.out.2.2.1.keep HX.out.1 (.inr ⟨rfl, by rw [← HQ.out.1]; unfold beforeB; rw [decide_eq_false (by omega), decide_eq_false (by omega)]; rfl⟩))
                go_wp2
                go_roundg (g1 - 1)
                case measure => have := HI.out.1; omega
                case rel => exact ⟨i + 1, by have := HI.out.1; omega, by go_num, true, b, rfl, HB7.out.2.2.2.1, hbl4, HSC.out, HB7.out.2.2.1⟩
    · obtain rfl : i = all.length := by omega
      have hse := scan_end (t := (tn : Int)) (l := l) (ss := ss) (mis := mis) (all := all) (s := s) (b := b) (by omega) HM0.out HALL.out (by have h := HI.out.2.2.1; rw [HPP.out] at h; exact h)
      obtain ⟨rfl, hbb⟩ := hse
      obtain rfl : b = R := hbb.trans HR.out.symm
      have h3o : Below w3.heap.size w3 wo := HX5.out.2.1.trans (hbr.mono hs5)
      have C4 := sameInts_any A3 b.length c3 b Ab b.length cb' b wo (HX3.out.1.below h3o (Nat.le_refl _)) HI.out.2.2.2.2.1 HX3.out.2.2 (Nat.le_trans HI.out.2.2.2.2.2.1 HI.out.2.2.2.2.2.2)
      rw [show sameL b b = true from decide_eq_true rfl] at C4
      have HC4 := Lib.hid C4
      clear C4 h3o hbb hbr hWr
      go_wp2_with fail
      (with_reducible refine HC4.out.mono ?_)
      rintro e w8 ⟨rfl, hb8⟩
      have HB8 := Lib.hid hb8
      clear hb8
      go_wp2_with fail
      refine (marking_any _).mono ?_
      rintro e w9 ⟨rfl, hb9⟩
      go_wp2
      go_ret
      exact ⟨rfl, HD.out.2.2.2.2.trans (((HWr.out.trans (HB8.out.mono HWr.out.size)).trans (hb9.mono (Nat.le_trans HWr.out.size HB8.out.size))).mono hsW)⟩
end Go.Proofs.Ytoidaigiejilcaa
