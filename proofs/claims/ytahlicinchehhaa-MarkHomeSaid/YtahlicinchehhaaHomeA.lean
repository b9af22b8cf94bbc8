/- mestalaw03.MarkHome returns true. -/
import Derived.Test.YtahlicinchehhaaMarking
import Derived.Test.YtahlicinchehhaaFound
import Derived.Test.YtahlicinchehhaaLawI
namespace Go.Proofs.Ytahlicinchehhaa
open Go.RowKit
set_option linter.unusedVariables false
set_option linter.unusedSimpArgs false

/-- the table of truth values in the block G -/
def Tab (w : World) (G P n L : Nat) (f : Nat → Nat → Bool) : Prop := ∃ cs : Array Value, w.heap[G]? = some (.cells cs 4 (0, 0)) ∧ cs.size = P ∧ ∀ k o : Nat, k < L → o < n → cs[k * n + o]? = some (.bool (f k o))
theorem Tab.cell {w : World} {G P n L : Nat} {f : Nat → Nat → Bool} (h : Tab w G P n L f) {k o : Nat} (hk : k < L) (ho : o < n) : w.cell? ⟨G, k * n + o, none⟩ = some (.bool (f k o)) := by
  obtain ⟨cs, h1, h2, h3⟩ := h
  unfold World.cell?
  simp [h1, h3 k o hk ho]
theorem Tab.free {w : World} {G P n L : Nat} {f : Nat → Nat → Bool} (h : Tab w G P n L f) (i : Nat) : w.frozen? ⟨G, i, none⟩ = false := by
  obtain ⟨cs, h1, _⟩ := h
  exact frz h1 i
theorem Tab.keep {w w' : World} {G P n L : Nat} {f : Nat → Nat → Bool} (h : Tab w G P n L f) (e : w'.heap[G]? = w.heap[G]?) : Tab w' G P n L f := by
  obtain ⟨cs, h1, h2⟩ := h
  exact ⟨cs, e.trans h1, h2⟩
theorem Tab.set {w : World} {G n L : Nat} {f f' : Nat → Nat → Bool} (h : Tab w G (L * n) n L f) {k o : Nat} (hk : k < L) (ho : o < n) (hf : ∀ a b, a < L → b < n → f' a b = if a = k ∧ b = o then true else f a b) :
    Tab (w.setCell ⟨G, k * n + o, none⟩ (.bool true)) G (L * n) n L f' := by
  obtain ⟨cs, h1, h2, h3⟩ := h
  refine ⟨cs.setIfInBounds (k * n + o) (.bool true), set_blk h1, by simpa using h2, fun a b ha hb => ?_⟩
  rw [hf a b ha hb]
  by_cases hab : a = k ∧ b = o
  · obtain ⟨rfl, rfl⟩ := hab
    rw [if_pos ⟨rfl, rfl⟩, Array.getElem?_setIfInBounds_self, if_pos (by rw [h2]; exact idx_lt ha hb)]
  · rw [if_neg hab, Array.getElem?_setIfInBounds_ne (fun e => hab (by have := idx_inj ho hb e; exact ⟨this.1.symm, this.2.symm⟩))]
    exact h3 a b ha hb

set_option maxRecDepth 100000 in
set_option maxHeartbeats 4000000 in
theorem MarkHome_any (A : Option Addr) (n c : Nat) (nums : List Int) (w : World) (hl : Ints w A n nums) (hn : n ≤ 9223372036854775807) :
    Calls Try.prog 12 #[.slice A n c] w fun e w' => e = .returned (.bool true) ∧ Below w.heap.size w w' := by
  go_enter Try.func12, Try.ntmps12
  go_wp2_with fail
  refine (newHand_any A n c nums _ hl hn).mono ?_
  rintro e w1 ⟨rfl, hh, hb1, hz1⟩
  clear hl hz1
  go_wp2_with fail
  refine (found_any w.heap.size _ hh).mono ?_
  rintro e w2 ⟨tn, l, A1, c1, B, cb, ss, D, cd, mis, rfl, hck, hl3, hms, hlc, hcm, hzA, hss, hsv, hs4, hmi, hml, hmv, hd2⟩
  have hB2 := hb1.trans ((hd2.below (Nat.le_refl _) hb1.size))
  have HML := Lib.hid hml
  have hml3 : mis.length ≤ 3 := by omega
  clear hd2 hb1 hh hml
  go_upto_region 2 with (fail)
  obtain ⟨W, hW⟩ : ∃ W, W = w2.alloc (Obj.cells #[Value.int .i64 (tn : Int), .slice A1 l.length c1] 24) := ⟨_, rfl⟩
  rw [← hW]
  have hb3 : Below w2.heap.size w2 W := by rw [hW]; exact bal0 w2 _
  have bW : W.heap[w2.heap.size]? = some (Obj.cells #[Value.int .i64 (tn : Int), .slice A1 l.length c1] 24 (0, 0)) := by rw [hW]; exact alloc_at rfl
  have hBW := hB2.trans (hb3.mono hB2.size)
  have HD := Lib.hid (And.intro bW (And.intro (hms.below hb3 (Nat.le_refl _)) (And.intro (hss.below hb3 (Nat.le_refl _)) (And.intro (hmi.below hb3 (Nat.le_refl _)) hBW))))
  have HP := Lib.hid (And.intro hck (And.intro hsv (And.intro HML.out (And.intro hmv hzA))))
  have hml' : mis.length ≤ maxLen := by unfold maxLen; omega
  have hsl' : ss.length ≤ maxLen := by unfold maxLen; omega
  have hge : gatherE (tn : Int) l ss mis = 0 := by
    unfold gatherE
    have := HML.out
    rw [if_neg (by rw [hck]; omega), if_neg (by omega), if_neg (by rw [sightsE_ok.2 hsv]; omega), if_neg (by omega), if_neg (by omega), if_pos]
    rw [List.all_eq_true]
    intro x hx
    have := hmv x hx
    rw [btw_iff]
    omega
  have hm0 : ∀ x ∈ mis, 0 ≤ x := fun x hx => (hmv x hx).1
  have HW0 := Lib.hid (And.intro (give_all (t := (tn : Int)) (l := l) (ss := ss) (mis := mis) (by omega) hm0) (And.intro (fun k (hk : k < ss.length) => owns_all (t := (tn : Int)) (l := l) (ss := ss) (mis := mis) (by omega) hm0 hk) hge))
  obtain ⟨p, hp⟩ : ∃ p, p = givesB (tn : Int) l ss mis := ⟨_, rfl⟩
  rw [← hp] at HW0
  have HPP := Lib.hid hp
  obtain ⟨E, hE⟩ : ∃ E, E = homeE (tn : Int) l ss mis := ⟨_, rfl⟩
  obtain ⟨R, hR⟩ : ∃ R, R = homeL (tn : Int) l ss mis := ⟨_, rfl⟩
  obtain ⟨O, hO⟩ : ∃ O, O = ownersR (tn : Int) l ss mis := ⟨_, rfl⟩
  have HE := Lib.hid (And.intro hE (And.intro hR hO))
  have C1 := Home_any tn A1 l.length c1 l B ss.length cb ss D mis.length cd mis W HD.out.2.1 hlc hcm HD.out.2.2.1 hsl' HD.out.2.2.2.1 hml'
  have C2 := fun w' (hb' : Below W.heap.size W w') => Owners_any tn A1 l.length c1 l B ss.length cb ss D mis.length cd mis w' (HD.out.2.1.below hb' (Nat.le_refl _)) hlc hcm (HD.out.2.2.1.below hb' (Nat.le_refl _)) hsl' (HD.out.2.2.2.1.below hb' (Nat.le_refl _)) hml'
  rw [← hE, ← hR] at C1
  rw [← hE, ← hO] at C2
  have HC1 := Lib.hid C1
  have HC2 := Lib.hid C2
  obtain ⟨r0, r1⟩ := blk2 bW
  have hsW := hBW.size
  have hlW := heap_lt bW
  clear C1 C2 hE hR hO hW hB2 hb3 bW hBW hms hss hmi hck hsv hmv hzA hge hm0 hp
  go_wp2_with fail
  (with_reducible refine HC1.out.mono ?_)
  rintro e w3 ⟨v3, rfl, ho3, hb3⟩
  obtain ⟨A3, c3, rfl, hs3, hc3, hm3⟩ := ho3.form lenInt
  have HX3 := Lib.hid (And.intro hs3 (And.intro hb3 (Nat.le_trans hc3 hm3)))
  clear ho3 hs3 r0 r1
  obtain ⟨r0, r1⟩ := blk2 (bheap HD.out.1 hb3 (Nat.le_refl _))
  clear hb3
  go_wp2_with fail
  (with_reducible refine (HC2.out _ HX3.out.2.1).mono ?_)
  rintro e w4 ⟨v4, rfl, ho4, hb4⟩
  have hbW4 := HX3.out.2.1.trans (hb4.mono HX3.out.2.1.size)
  obtain ⟨A4, c4, rfl, -, hc4, hm4⟩ := ho4.form
  have HX4 := Lib.hid (And.intro ho4 (And.intro hb4 (And.intro hbW4 (Nat.le_trans hc4 hm4))))
  clear ho4 r0 r1
  obtain ⟨r0, r1⟩ := blk2 (bheap HD.out.1 hbW4 (Nat.le_refl _))
  clear hb4 hbW4
  go_wp2_with fail
  refine (words_any l.length (by omega) ss.length (by omega) _).mono ?_
  rintro e w5 ⟨v5, rfl, ho5, hb5⟩
  obtain ⟨A5, c5, rfl, -, hc5, hm5⟩ := ho5.form
  have hbW5 := HX4.out.2.2.1.trans (hb5.mono HX4.out.2.2.1.size)
  obtain ⟨all, hall⟩ : ∃ a, a = allW l ss := ⟨_, rfl⟩
  have hall' : wordsL l.length ss.length = all := hall.symm
  rw [hall'] at ho5 hc5 ⊢
  have HX5 := Lib.hid (And.intro ho5 (And.intro hb5 hbW5))
  have HALL := Lib.hid hall
  have hwl : all.length ≤ 3125 := by rw [← hall']; exact Nat.le_trans (wordsL_len _ (by omega) _) (pow5_le (by omega))
  have hs5 := hb5.size
  clear ho5 hall hall' r0 r1 hc5 hm5
  obtain ⟨r0, r1⟩ := blk2 (bheap HD.out.1 hbW5 (Nat.le_refl _))
  clear hb5 hbW5
  obtain ⟨P, hP⟩ : ∃ P, P = ss.length * l.length := ⟨_, rfl⟩
  have hP12 : P ≤ 12 := by rw [hP]; have : ss.length * l.length ≤ 4 * 3 := Nat.mul_le_mul hs4 hl3; omega
  have hmul : (ss.length : Int) * (l.length : Int) = (P : Int) := by rw [hP]; simp
  have HPe := Lib.hid hP
  clear hP
  have hmk : ∀ W : World, (Instr.makeSlice 75 (.int .i64 (P : Int)) (.int .i64 (P : Int))).run Try.prog W = .ok (.slice (some ⟨W.heap.size, 0, none⟩) P P) (W.alloc (.cells (madeCells #[.bool false] P) 4)) :=
    run_make_row' (P := Try.prog) 75 4 (.bool false) 1 Try.underlying75 (by kernel_rfl) rfl .i64 .i64 P (by omega) (by omega)
  go_upto_region 7 with (fail)
  obtain ⟨W6, hW⟩ : ∃ W6, W6 = w5.alloc (.cells (madeCells #[.bool false] P) 4) := ⟨_, rfl⟩
  rw [← hW]
  have hb6 : Below w5.heap.size w5 W6 := by rw [hW]; exact bal0 w5 _
  have ht6 : Tab W6 w5.heap.size P l.length ss.length (hasB p all 0) := by
    refine ⟨_, by rw [hW]; exact alloc_at rfl, size_madeCells _ _, fun k o hk ho => ?_⟩
    have hlt : k * l.length + o < P := by rw [HPe.out]; exact idx_lt hk ho
    simp [madeCells, hlt, Nat.mod_one, hasB]
  have HT6 := Lib.hid (And.intro ht6 hb6)
  have hsW5 := HX5.out.2.2.size
  have hG6 : w5.heap.size < W6.heap.size := by obtain ⟨cs, h1, _⟩ := ht6; exact heap_lt h1
  have hmulr : ∀ wr, Below w5.heap.size W6 wr → Below w5.heap.size w5 wr ∧ Below W.heap.size W wr := fun wr h =>
    ⟨HT6.out.2.trans h, HX5.out.2.2.trans ((HT6.out.2.trans h).mono hsW5)⟩
  have HBW := Lib.hid hmulr
  clear hW hb6 ht6 hmulr hmk r0 r1
  go_wp2_with fail
  clear hmul
  go_loopg [11, 13] all.length (fun g v x wr => ∃ i : Nat, i + g = all.length ∧ x = .int .i64 i ∧ (∃ f : Int, v = .int .i64 f ∧ FirstIs p all i f) ∧ Tab wr w5.heap.size P l.length ss.length (hasB p all i) ∧ Below w5.heap.size W6 wr)
  case atStart => exact ⟨0, by omega, rfl, ⟨-1, rfl, FirstIs.zero⟩, HT6.out.1, Below.refl _ _⟩
  case round =>
    obtain ⟨i, hi, rfl, ⟨f, rfl, hfi⟩, htab, hbr⟩ := hrel
    have HI := Lib.hid (And.intro hi (And.intro hfi (And.intro htab hbr)))
    have hil : i ≤ all.length := by omega
    have hflo := hfi.lo
    have hsr := hbr.size
    obtain ⟨g1, rfl⟩ : ∃ g1 : Nat, g1 = gk := ⟨_, rfl⟩
    obtain ⟨wo, rfl⟩ : ∃ wo : World, wo = wr := ⟨_, rfl⟩
    obtain ⟨h5r, hWr⟩ := HBW.out _ hbr
    clear hi hfi htab hbr
    by_cases hlt : i < all.length
    · obtain ⟨bb, ob, cap, Bx, x, cx, hv, hx, hc, hxi, hxc, hxm, hxz⟩ := HX5.out.1.get hlt
      obtain ⟨rfl, rfl⟩ : A5 = some ⟨bb, ob, none⟩ ∧ c5 = cap := by simpa using hv
      have hc0 := hc
      replace hc := bcell hc h5r (Nat.le_refl _)
      have hxw : x ∈ wordsL l.length ss.length := by
        have := List.mem_of_getElem? hx
        rwa [HALL.out] at this
      obtain ⟨hxl, hxv⟩ := wordsL_mem hxw
      have cM : ∀ d os, Calls Try.prog 52 #[.agg #[.int .i64 tn, .slice A1 l.length c1], .slice B ss.length cb, .slice D mis.length cd, .slice Bx x.length cx] (Sort.grow (redrawn wo d) os) (fun e w'' => e = .returned (.bool (p x)) ∧ ∃ p : Regrown, w'' = Sort.grow (redrawn wo p.d) p.os) := fun d os => by
        have hg := below_regrown wo d os
        have h := gives_any tn A1 l.length c1 l B ss.length cb ss D mis.length cd mis Bx x.length cx x (Sort.grow (redrawn wo d) os) ((HD.out.2.1.below hWr (Nat.le_refl _)).below hg (Nat.le_refl _)) ((HD.out.2.2.1.below hWr (Nat.le_refl _)).below hg (Nat.le_refl _)) ((HD.out.2.2.2.1.below hWr (Nat.le_refl _)).below hg (Nat.le_refl _)) ((hxi.below h5r (Nat.le_refl _)).below hg (Nat.le_refl _)) HP.out.1 HP.out.2.1 (by omega) (by have := HP.out.2.2.1; omega) (fun v hv => (hxv v hv).2) (by omega)
        rw [← HPP.out] at h
        exact Calls.regrown_of h
      have HX := Lib.hid (And.intro hx (And.intro hxi (And.intro hxl (And.intro hxv hc0))))
      obtain ⟨r0, r1⟩ := blk2 (bheap HD.out.1 hWr (Nat.le_refl _))
      have hbl := cell_lt hc
      have hbl5 : bb < w5.heap.size := cell_lt hc0
      have i0 : (0 : Int) ≤ (i : Int) := by omega
      have i1 : (i : Int) < (all.length : Int) := by omega
      obtain ⟨Gv, hGv⟩ : ∃ Gv, Gv = p x := ⟨_, rfl⟩
      rw [← hGv] at cM
      have HGV := Lib.hid hGv.symm
      clear hv hx hxi hxl hxv hxw hGv hxz hc0
      cases Gv
      · have HCM := Lib.hid cM
        clear cM
        go_upto_region 10 with (fail)
        have k0 := cell_regrown r0
        have k1 := cell_regrown r1
        have k2 := cell_regrown hc
        refine wp_region_quiet_below (by kernel_rfl) (by kernel_rfl) ?_
        repeat (quiet_step (exact HCM.out _ _))
        refine wpQuiet_nil ?_
        intro _ hw'
        obtain ⟨⟨dq, osq⟩, hw''⟩ := hw'
        subst hw''
        obtain ⟨W7, hW7⟩ : ∃ W7, W7 = Sort.grow (redrawn wo dq) osq := ⟨_, rfl⟩
        have hb7 : Below wo.heap.size wo W7 := by rw [hW7]; exact below_regrown wo dq osq
        rw [← hW7]
        have HB7 := Lib.hid hb7
        clear hW7 k0 k1 k2 hb7 r0 r1 hc
        go_wp2
        go_roundg (g1 - 1)
        case measure => have := HI.out.1; omega
        case rel =>
          refine ⟨i + 1, by have := HI.out.1; omega, by go_num, ⟨f, rfl, HI.out.2.1.no HX.out.1 HGV.out⟩, ?_, HI.out.2.2.2.trans (HB7.out.mono (by omega))⟩
          have h1 : hasB p all (i + 1) = hasB p all i := by funext a b; exact hasB_no HX.out.1 HGV.out
          rw [h1]
          exact HI.out.2.2.1.keep (HB7.out.block _ (by omega))
      · have HCM := Lib.hid cM
        clear cM
        go_upto_region 10 with (fail)
        have k0 := cell_regrown r0
        have k1 := cell_regrown r1
        have k2 := cell_regrown hc
        refine wp_region_quiet_below (by kernel_rfl) (by kernel_rfl) ?_
        repeat (quiet_step (exact HCM.out _ _))
        refine wpQuiet_nil ?_
        intro _ hw'
        obtain ⟨⟨dq, osq⟩, hw''⟩ := hw'
        subst hw''
        obtain ⟨W7, hW7⟩ : ∃ W7, W7 = Sort.grow (redrawn wo dq) osq := ⟨_, rfl⟩
        have hb7 : Below wo.heap.size wo W7 := by rw [hW7]; exact below_regrown wo dq osq
        rw [← hW7]
        have HB7 := Lib.hid (And.intro hb7 (And.intro (HI.out.2.2.2.trans (hb7.mono (by omega))) (HI.out.2.2.1.keep (hb7.block _ (by omega)))))
        have hs7 := hb7.size
        clear hW7 k0 k1 k2 hb7 r0 r1 hc
        rcases hflo with hf | ⟨hf, hf2⟩
        · subst hf
          have HFY := Lib.hid (HI.out.2.1.yes HX.out.1 HGV.out)
          go_wp2_with fail
          go_loopg [14] ss.length (fun g x wr => ∃ k : Nat, k + g = ss.length ∧ x = .int .i64 k ∧ Tab wr w5.heap.size P l.length ss.length (fun a b => if a < k then hasB p all (i + 1) a b else hasB p all i a b) ∧ Below w5.heap.size W6 wr)
          case atStart => exact ⟨0, by omega, rfl, by simpa using HB7.out.2.2, HB7.out.2.1⟩
          case round =>
            obtain ⟨k, hk, rfl, htk, hbk⟩ := hrel
            have HK := Lib.hid (And.intro hk (And.intro htk hbk))
            have hkl : k ≤ ss.length := by omega
            obtain ⟨h5k, hWk⟩ := HBW.out _ hbk
            have hsk := hbk.size
            clear hk htk hbk
            by_cases hlk : k < ss.length
            · obtain ⟨r0, r1⟩ := blk2 (bheap HD.out.1 hWk (Nat.le_refl _))
              have c5k := bcell HX.out.2.2.2.2 h5k (Nat.le_refl _)
              obtain ⟨be, oe, y, rfl, hbe, hy, y0⟩ := Ints.get (HX.out.2.1.below h5k (Nat.le_refl _)) (show k < x.length by have := HX.out.2.2.1; omega)
              have hyv := HX.out.2.2.2.1 y (List.mem_of_getElem? hy)
              obtain ⟨yo, rfl⟩ := Int.eq_ofNat_of_zero_le hyv.1
              have hyo : yo < l.length := by omega
              have HY := Lib.hid (show x.getD k 0 = (yo : Int) by rw [List.getD_eq_getElem?_getD, hy]; rfl)
              obtain ⟨pk, hpk⟩ : ∃ pk, pk = k * l.length := ⟨_, rfl⟩
              obtain ⟨ix, hix⟩ : ∃ ix, ix = pk + yo := ⟨_, rfl⟩
              have hixP : ix < P := by rw [hix, hpk, HPe.out]; exact idx_lt hlk hyo
              have HIX := Lib.hid (show ix = k * l.length + yo by rw [hix, hpk])
              have em : (k : Int) * (l.length : Int) = (pk : Int) := by rw [hpk]; simp
              have em2 : IntKind.i64.wrap (pk : Int) = (pk : Int) := IntWalk.i64_in _ (by omega)
              have es : IntKind.i64.wrap ((pk : Int) + (yo : Int)) = (ix : Int) := by rw [IntWalk.i64_in _ (by omega), hix]; simp
              have x0 : (0 : Int) ≤ (ix : Int) := by omega
              have x1 : (ix : Int) < (P : Int) := by omega
              have k0 : (0 : Int) ≤ (k : Int) := by omega
              have k1 : (k : Int) < (x.length : Int) := by have := HX.out.2.2.1; omega
              have fG := HK.out.2.1.free ix
              have cG : ∃ bv, wr.cell? ⟨w5.heap.size, ix, none⟩ = some (.bool bv) := ⟨_, by rw [HIX.out]; exact HK.out.2.1.cell hlk hyo⟩
              obtain ⟨bv, cG⟩ := cG
              clear hy hbe hyv hpk hix
              go_upto_region 16 with (fail)
              refine wp_region_quiet_tail (C := fun w' => ∃ n, w' = wr.drewN n) 15 (by kernel_rfl) (by kernel_rfl) ⟨1, rfl⟩ ?_
              simp only [List.take_succ_cons, List.take_zero, List.drop_succ_cons, List.drop_zero]
              repeat (quiet_step (fail))
              refine wpQuiet_nil ?_
              intro _ hw'
              obtain ⟨nq, hw''⟩ := hw'
              subst hw''
              go_wp2
              go_roundg (gk - 1)
              case measure => have := HK.out.1; omega
              case rel =>
                refine ⟨k + 1, by have := HK.out.1; omega, by go_num, ?_, (below_drewN HK.out.2.2 nq).setCell (Nat.le_refl w5.heap.size : w5.heap.size ≤ (⟨w5.heap.size, ix, none⟩ : Addr).block) _⟩
                have ht : Tab (wr.drewN nq) w5.heap.size P l.length ss.length (fun a b => if a < k then hasB p all (i + 1) a b else hasB p all i a b) := HK.out.2.1.keep rfl
                rw [HPe.out] at ht ⊢
                rw [HIX.out]
                refine Tab.set ht hlk hyo fun a b ha hb => ?_
                show (if a < k + 1 then hasB p all (i + 1) a b else hasB p all i a b) = if a = k ∧ b = yo then true else (if a < k then hasB p all (i + 1) a b else hasB p all i a b)
                by_cases hak : a = k
                · rw [if_pos (show a < k + 1 by omega)]
                  by_cases hbo : b = yo
                  · rw [if_pos ⟨hak, hbo⟩, hasB_yes HX.out.1 HGV.out, hak, HY.out, hbo]
                    simp
                  · rw [if_neg (fun h => hbo h.2), if_neg (show ¬ a < k by omega), hasB_yes HX.out.1 HGV.out, hak, HY.out, decide_eq_false (by omega), Bool.or_false]
                · rw [if_neg (show ¬ (a = k ∧ b = yo) from fun h => hak h.1)]
                  by_cases hlt' : a < k
                  · rw [if_pos (by omega), if_pos hlt']
                  · rw [if_neg (by omega), if_neg hlt']
            · obtain rfl : k = ss.length := by omega
              go_wp2
              go_roundg (g1 - 1)
              case measure => have := HI.out.1; omega
              case rel =>
                refine ⟨i + 1, by have := HI.out.1; omega, by go_num, ⟨_, rfl, HFY.out⟩, ?_, HK.out.2.2⟩
                obtain ⟨cs, h1, h2, h3⟩ := HK.out.2.1
                refine ⟨cs, h1, h2, fun a b ha hb => ?_⟩
                have := h3 a b ha hb
                dsimp only at this
                rwa [if_pos ha] at this
        · have hd : decide (f < 0) = false := decide_eq_false (by omega)
          have HFY := Lib.hid (HI.out.2.1.more hf)
          go_wp2_with fail
          go_loopg [14] ss.length (fun g x wr => ∃ k : Nat, k + g = ss.length ∧ x = .int .i64 k ∧ Tab wr w5.heap.size P l.length ss.length (fun a b => if a < k then hasB p all (i + 1) a b else hasB p all i a b) ∧ Below w5.heap.size W6 wr)
          case atStart => exact ⟨0, by omega, rfl, by simpa using HB7.out.2.2, HB7.out.2.1⟩
          case round =>
            obtain ⟨k, hk, rfl, htk, hbk⟩ := hrel
            have HK := Lib.hid (And.intro hk (And.intro htk hbk))
            have hkl : k ≤ ss.length := by omega
            obtain ⟨h5k, hWk⟩ := HBW.out _ hbk
            have hsk := hbk.size
            clear hk htk hbk
            by_cases hlk : k < ss.length
            · obtain ⟨r0, r1⟩ := blk2 (bheap HD.out.1 hWk (Nat.le_refl _))
              have c5k := bcell HX.out.2.2.2.2 h5k (Nat.le_refl _)
              obtain ⟨be, oe, y, rfl, hbe, hy, y0⟩ := Ints.get (HX.out.2.1.below h5k (Nat.le_refl _)) (show k < x.length by have := HX.out.2.2.1; omega)
              have hyv := HX.out.2.2.2.1 y (List.mem_of_getElem? hy)
              obtain ⟨yo, rfl⟩ := Int.eq_ofNat_of_zero_le hyv.1
              have hyo : yo < l.length := by omega
              have HY := Lib.hid (show x.getD k 0 = (yo : Int) by rw [List.getD_eq_getElem?_getD, hy]; rfl)
              obtain ⟨pk, hpk⟩ : ∃ pk, pk = k * l.length := ⟨_, rfl⟩
              obtain ⟨ix, hix⟩ : ∃ ix, ix = pk + yo := ⟨_, rfl⟩
              have hixP : ix < P := by rw [hix, hpk, HPe.out]; exact idx_lt hlk hyo
              have HIX := Lib.hid (show ix = k * l.length + yo by rw [hix, hpk])
              have em : (k : Int) * (l.length : Int) = (pk : Int) := by rw [hpk]; simp
              have em2 : IntKind.i64.wrap (pk : Int) = (pk : Int) := IntWalk.i64_in _ (by omega)
              have es : IntKind.i64.wrap ((pk : Int) + (yo : Int)) = (ix : Int) := by rw [IntWalk.i64_in _ (by omega), hix]; simp
              have x0 : (0 : Int) ≤ (ix : Int) := by omega
              have x1 : (ix : Int) < (P : Int) := by omega
              have k0 : (0 : Int) ≤ (k : Int) := by omega
              have k1 : (k : Int) < (x.length : Int) := by have := HX.out.2.2.1; omega
              have fG := HK.out.2.1.free ix
              have cG : ∃ bv, wr.cell? ⟨w5.heap.size, ix, none⟩ = some (.bool bv) := ⟨_, by rw [HIX.out]; exact HK.out.2.1.cell hlk hyo⟩
              obtain ⟨bv, cG⟩ := cG
              clear hy hbe hyv hpk hix
              go_upto_region 16 with (fail)
              refine wp_region_quiet_tail (C := fun w' => ∃ n, w' = wr.drewN n) 15 (by kernel_rfl) (by kernel_rfl) ⟨1, rfl⟩ ?_
              simp only [List.take_succ_cons, List.take_zero, List.drop_succ_cons, List.drop_zero]
              repeat (quiet_step (fail))
              refine wpQuiet_nil ?_
              intro _ hw'
              obtain ⟨nq, hw''⟩ := hw'
              subst hw''
              go_wp2
              go_roundg (gk - 1)
              case measure => have := HK.out.1; omega
              case rel =>
                refine ⟨k + 1, by have := HK.out.1; omega, by go_num, ?_, (below_drewN HK.out.2.2 nq).setCell (Nat.le_refl w5.heap.size : w5.heap.size ≤ (⟨w5.heap.size, ix, none⟩ : Addr).block) _⟩
                have ht : Tab (wr.drewN nq) w5.heap.size P l.length ss.length (fun a b => if a < k then hasB p all (i + 1) a b else hasB p all i a b) := HK.out.2.1.keep rfl
                rw [HPe.out] at ht ⊢
                rw [HIX.out]
                refine Tab.set ht hlk hyo fun a b ha hb => ?_
                show (if a < k + 1 then hasB p all (i + 1) a b else hasB p all i a b) = if a = k ∧ b = yo then true else (if a < k then hasB p all (i + 1) a b else hasB p all i a b)
                by_cases hak : a = k
                · rw [if_pos (show a < k + 1 by omega)]
                  by_cases hbo : b = yo
                  · rw [if_pos ⟨hak, hbo⟩, hasB_yes HX.out.1 HGV.out, hak, HY.out, hbo]
                    simp
                  · rw [if_neg (fun h => hbo h.2), if_neg (show ¬ a < k by omega), hasB_yes HX.out.1 HGV.out, hak, HY.out, decide_eq_false (by omega), Bool.or_false]
                · rw [if_neg (show ¬ (a = k ∧ b = yo) from fun h => hak h.1)]
                  by_cases hlt' : a < k
                  · rw [if_pos (by omega), if_pos hlt']
                  · rw [if_neg (by omega), if_neg hlt']
            · obtain rfl : k = ss.length := by omega
              go_wp2
              go_roundg (g1 - 1)
              case measure => have := HI.out.1; omega
              case rel =>
                refine ⟨i + 1, by have := HI.out.1; omega, by go_num, ⟨_, rfl, HFY.out⟩, ?_, HK.out.2.2⟩
                obtain ⟨cs, h1, h2, h3⟩ := HK.out.2.1
                refine ⟨cs, h1, h2, fun a b ha hb => ?_⟩
                have := h3 a b ha hb
                dsimp only at this
                rwa [if_pos ha] at this
    · obtain rfl : i = all.length := by omega
      have hEq : E = if giveL (mays (tn : Int) l ss) mis 0 (fun _ _ => true) = none then 11 else 0 := by
        rw [HE.out.1]; unfold homeE; rw [if_neg (by rw [HW0.out.2.2]; simp)]
      have hRq : R = (giveL (mays (tn : Int) l ss) mis 0 (fun _ _ => true)).getD [] := by
        rw [HE.out.2.1]; unfold homeL; rw [if_neg (by rw [HW0.out.2.2]; simp)]
      rw [HW0.out.1, ← HALL.out] at hEq hRq
      rcases HI.out.2.1 with ⟨hf, hno⟩ | ⟨j, hf, hj, x, hx, hpx, hfirst⟩
      · have hnone : all.find? p = none := by
          rw [List.find?_eq_none]
          intro y hy
          obtain ⟨j, hj⟩ := List.getElem?_of_mem hy
          rw [hno j y (List.getElem?_eq_some_iff.1 hj).1 hj]
          simp
        rw [hnone] at hEq
        have hE11 : E = 11 := hEq
        subst hE11
        subst hf
        clear hEq hRq hnone hno
        go_wp2_with fail
        refine (marking_any _).mono ?_
        rintro e w9 ⟨rfl, hb9⟩
        go_wp2
        go_ret
        exact ⟨rfl, HD.out.2.2.2.2.trans ((hWr.trans (hb9.mono hWr.size)).mono hsW)⟩
      · have hsome : all.find? p = some x := find_first hx hpx hfirst
        rw [hsome] at hEq hRq
        have hE0 : E = 0 := hEq
        have hRx : R = x := hRq
        have hOg : O = ownersG (mays (tn : Int) l ss) mis := by
          rw [HE.out.2.2]; unfold ownersR; rw [if_pos (by rw [← HE.out.1]; exact hE0)]
        have hml9 : (mays (tn : Int) l ss).length = ss.length := by unfold mays; simp
        have hOl : O.length = ss.length := by rw [hOg]; unfold ownersG; simp [hml9]
        have HOK := Lib.hid (show ∀ k, k < ss.length → O[k]? = some (((List.range l.length).filter (hasB p all all.length k)).map Int.ofNat) from fun k hk => by
          rw [hOg]
          unfold ownersG
          rw [List.getElem?_map, List.getElem?_range (by rw [hml9]; exact hk)]
          have h := HW0.out.2.1 k hk
          rw [← HALL.out] at h
          show some (ownsRow (mays (tn : Int) l ss) mis k) = _
          rw [h])
        have HOL := Lib.hid hOl
        have HRX := Lib.hid hRx
        subst hE0
        subst hf
        clear hEq hRq hsome hRx hOg hOl hml9 hfirst
        obtain ⟨bb, ob, cap, Bx, x', cx, hv, hx', hc, hxi, hxc, hxm, hxz⟩ := HX5.out.1.get hj
        obtain ⟨rfl, rfl⟩ : A5 = some ⟨bb, ob, none⟩ ∧ c5 = cap := by simpa using hv
        obtain rfl : x' = x := Option.some.inj (hx'.symm.trans hx)
        replace hc := bcell hc h5r (Nat.le_refl _)
        have hb43 := (HX4.out.2.1.trans (HX5.out.2.1.mono HX4.out.2.1.size)).trans (h5r.mono (Nat.le_trans HX4.out.2.1.size hs5))
        have C3 := sameInts_any A3 R.length c3 R Bx x'.length cx x' wo (HX3.out.1.below hb43 (Nat.le_refl _)) (hxi.below h5r (Nat.le_refl _)) HX3.out.2.2 (Nat.le_trans hxc hxm)
        rw [show sameL R x' = true by rw [HRX.out]; exact decide_eq_true rfl] at C3
        have HC3 := Lib.hid C3
        have hdO : ((O.length : Int) != (ss.length : Int)) = false := by rw [HOL.out]; simp
        have j0 : (0 : Int) ≤ (j : Int) := by omega
        have j1 : (j : Int) < (all.length : Int) := by omega
        have hdj : decide ((j : Int) < 0) = false := decide_eq_false (by omega)
        clear hv hx hx' hxi C3 hpx hxz hb43
        go_wp2_with fail
        (with_reducible refine HC3.out.mono ?_)
        rintro e w8 ⟨rfl, hb8⟩
        have HB8 := Lib.hid (And.intro (HI.out.2.2.2.trans (hb8.mono (by omega))) (HI.out.2.2.1.keep (hb8.block _ (by omega))))
        clear hc hb8 h5r hWr
        go_wp2_with fail
        clear hdO
        go_loopg [15] ss.length (fun g x wr => ∃ k : Nat, k + g = ss.length ∧ x = .int .i64 k ∧ Tab wr w5.heap.size P l.length ss.length (hasB p all all.length) ∧ Below w5.heap.size W6 wr)
        case atStart => exact ⟨0, by omega, rfl, HB8.out.2, HB8.out.1⟩
        case round =>
          obtain ⟨k, hk, rfl, htk, hbk⟩ := hrel
          have HK := Lib.hid (And.intro hk (And.intro htk hbk))
          have hkl : k ≤ ss.length := by omega
          obtain ⟨g2, rfl⟩ : ∃ g2 : Nat, g2 = gk := ⟨_, rfl⟩
          obtain ⟨wp, rfl⟩ : ∃ wp : World, wp = wr := ⟨_, rfl⟩
          obtain ⟨h5k, hWk⟩ := HBW.out _ hbk
          have hsk := hbk.size
          have HKW := Lib.hid (And.intro h5k hWk)
          clear hk htk hbk
          by_cases hlk : k < ss.length
          · obtain ⟨r0, r1⟩ := blk2 (bheap HD.out.1 hWk (Nat.le_refl _))
            obtain ⟨pk, hpk⟩ : ∃ pk, pk = k * l.length := ⟨_, rfl⟩
            have hpkP : pk + l.length ≤ P := by
              rw [hpk, HPe.out]
              have : (k + 1) * l.length ≤ ss.length * l.length := Nat.mul_le_mul_right _ hlk
              rw [Nat.succ_mul] at this; exact this
            have HPK := Lib.hid hpk
            have em : (k : Int) * (l.length : Int) = (pk : Int) := by rw [hpk]; simp
            clear hpk
            go_wp2_with fail
            clear r0 r1
            go_loopg [16, 17] l.length (fun g v x wr => ∃ o : Nat, o + g = l.length ∧ x = .int .i64 o ∧ OwnI wr wp.heap.size v (((List.range o).filter (hasB p all all.length k)).map Int.ofNat) ∧ Below wp.heap.size wp wr)
            case atStart => exact ⟨0, by omega, rfl, Own.nil_, Below.refl _ _⟩
            case round =>
              obtain ⟨o, ho, rfl, hown, hbo⟩ := hrel
              have HO := Lib.hid (And.intro ho (And.intro hown hbo))
              have hol : o ≤ l.length := by omega
              have hso := hbo.size
              obtain ⟨r0, r1⟩ := blk2 (bheap (bheap HD.out.1 HKW.out.2 (Nat.le_refl _)) hbo (Nat.le_refl _))
              have htab := HK.out.2.1.keep (hbo.block w5.heap.size (by omega))
              clear ho hown hbo
              by_cases hlo : o < l.length
              · have hlo' : (o : Int) < (l.length : Int) := by omega
                have o0 : (0 : Int) ≤ (o : Int) := by omega
                obtain ⟨ix, hix⟩ : ∃ ix, ix = pk + o := ⟨_, rfl⟩
                have hixP : ix < P := by omega
                have es : (pk : Int) + (o : Int) = (ix : Int) := by rw [hix]; simp
                have cG : wr.cell? ⟨w5.heap.size, ix, none⟩ = some (.bool (hasB p all all.length k o)) := by rw [hix, HPK.out]; exact htab.cell hlk hlo
                have hGr : w5.heap.size < wr.heap.size := by omega
                obtain ⟨T, hT⟩ : ∃ T, T = hasB p all all.length k o := ⟨_, rfl⟩
                rw [← hT] at cG
                have HTT := Lib.hid hT
                have hll : (((List.range o).filter (hasB p all all.length k)).map Int.ofNat).length < 4294967296 := by
                  rw [List.length_map]
                  have := List.length_filter_le (hasB p all all.length k) (List.range o)
                  rw [List.length_range] at this
                  omega
                have hsucc : ((List.range (o + 1)).filter (hasB p all all.length k)).map Int.ofNat = ((List.range o).filter (hasB p all all.length k)).map Int.ofNat ++ if T then [(o : Int)] else [] := by
                  rw [List.range_succ, List.filter_append, List.map_append]
                  congr 1
                  rw [hT]
                  cases hh : hasB p all all.length k o <;> simp [List.filter_cons, hh]
                have HSU := Lib.hid hsucc
                clear hix htab hT hsucc
                cases T
                · go_wp2
                  go_roundg (gk - 1)
                  case measure => have := HO.out.1; omega
                  case rel => exact ⟨o + 1, by have := HO.out.1; omega, by go_num, by rw [HSU.out]; simpa using HO.out.2.1, HO.out.2.2⟩
                · go_wp2_with (at_builtin; refine wp_app okInt rfl (.tmp 147) (.tmp 149) rfl wp.heap.size _ (((List.range o).filter (hasB p all all.length k)).map Int.ofNat) (o : Int) _ rfl rfl rfl rfl (one_eInt _) HO.out.2.1 hll ?_ ?_ ?_; (omega); (omega); intro v' w' hown' hb' _ _; have H9 := Lib.hid (And.intro hown' hb'); clear hown' hb')
                  go_roundg (gk - 1)
                  case measure => have := HO.out.1; omega
                  case rel => exact ⟨o + 1, by have := HO.out.1; omega, by go_num, by rw [HSU.out]; exact H9.out.1, HO.out.2.2.trans H9.out.2⟩
              · obtain rfl : o = l.length := by omega
                have hrow := HOK.out k hlk
                obtain ⟨b4, o4, cap4, B4, row, cr, hv4, hrow', hc4', hri, hrc, hrm, hrz⟩ := HX4.out.1.get (show k < O.length by rw [HOL.out]; exact hlk)
                obtain ⟨rfl, rfl⟩ : A4 = some ⟨b4, o4, none⟩ ∧ c4 = cap4 := by simpa using hv4
                have hb5r := HO.out.2.2
                have h4r : Below w4.heap.size w4 wr := HX5.out.2.1.trans ((HKW.out.1.trans (hb5r.mono (by omega))).mono hs5)
                have cR := bcell hc4' h4r (Nat.le_refl _)
                obtain ⟨due, hdue⟩ : ∃ due, due = ((List.range l.length).filter (hasB p all all.length k)).map Int.ofNat := ⟨_, rfl⟩
                have hodue := HO.out.2.1
                rw [← hdue] at hodue hrow
                obtain ⟨Ad, cd', hvd, hsd, hcd, hmd⟩ := hodue.form lenInt
                subst hvd
                obtain rfl : row = due := Option.some.inj (hrow'.symm.trans hrow)
                have C4 := sameInts_any B4 row.length cr row Ad row.length cd' row wr (hri.below h4r (Nat.le_refl _)) hsd (Nat.le_trans hrc hrm) (Nat.le_trans hcd hmd)
                rw [show sameL row row = true from decide_eq_true rfl] at C4
                have HC4 := Lib.hid C4
                have kk0 : (0 : Int) ≤ (k : Int) := by omega
                have kk1 : (k : Int) < (O.length : Int) := by rw [HOL.out]; omega
                clear hv4 hrow hrow' hc4' hri hrz hdue hodue hsd C4 h4r htab hb5r
                go_wp2_with fail
                (with_reducible refine HC4.out.mono ?_)
                rintro e w9 ⟨rfl, hb9⟩
                have HB9 := Lib.hid (HO.out.2.2.trans (hb9.mono hso))
                clear hb9 cR
                go_wp2
                go_roundg (g2 - 1)
                case measure => have := HK.out.1; omega
                case rel => exact ⟨k + 1, by have := HK.out.1; omega, by go_num, HK.out.2.1.keep (HB9.out.block _ (by omega)), HK.out.2.2.trans (HB9.out.mono (by omega))⟩
          · obtain rfl : k = ss.length := by omega
            go_wp2_with fail
            refine (marking_any _).mono ?_
            rintro e w9 ⟨rfl, hb9⟩
            go_wp2
            go_ret
            exact ⟨rfl, HD.out.2.2.2.2.trans ((hWk.trans (hb9.mono hWk.size)).mono hsW)⟩
end Go.Proofs.Ytahlicinchehhaa
