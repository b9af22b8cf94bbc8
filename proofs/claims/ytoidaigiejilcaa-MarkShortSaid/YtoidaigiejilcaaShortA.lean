/- mestalaw03.MarkShort returns true. -/
import Derived.Test.YtoidaigiejilcaaMarking
import Derived.Test.YtoidaigiejilcaaFound
import Derived.Test.YtoidaigiejilcaaLawI
import Derived.Test.YtoidaigiejilcaaShort
import Derived.Test.YtoidaigiejilcaaPicks
namespace Go.Proofs.Ytoidaigiejilcaa
open Go.RowKit
set_option linter.unusedVariables false
set_option linter.unusedSimpArgs false

/-- a stray of a list is one that the owner may have -/
theorem may_fits {t : Int} {l : List Mk} {ss : List Sg} {k o : Nat} {s : Sg} {m : Mk} (hs : ss[k]? = some s) (hm : l[o]? = some m) : ((mays t l ss).getD k []).contains (o : Int) = fits s m t := by
  rw [Bool.eq_iff_iff, List.contains_eq_mem, decide_eq_true_eq, mays_getD hs, mayL_iff hm]
/-- the first list that lacks -/
theorem short_found {may : List (List Int)} {mis : List Int} (hmay : ∀ r ∈ may, ∀ o ∈ r, 0 ≤ o) (hL : may.length ≤ 8) {many : Nat} (h1 : 1 ≤ many) (h2 : many ≤ may.length) {x : List Int}
    (hno : ∀ j, 1 ≤ j → j < many → (picksL may.length 0 j).find? (lackB may mis) = none) (hx : (picksL may.length 0 many).find? (lackB may mis) = some x) : shortL may mis = some x := by
  unfold shortL
  rw [show may.length = (many - 1) + ((may.length - many) + 1) by omega, shortOf_skip (many - 1) ((may.length - many) + 1) 1 (fun j hj1 hj => by rw [shortOf_find hmay hL]; exact hno j hj1 (by omega))]
  show (match pickRest may.length (shortB may mis) (1 + (many - 1)) 0 0 with | some l => some l | none => shortOf may mis (may.length - many) (1 + (many - 1) + 1)) = some x
  rw [show 1 + (many - 1) = many by omega, shortOf_find hmay hL, hx]
theorem short_not {may : List (List Int)} {mis : List Int} (hmay : ∀ r ∈ may, ∀ o ∈ r, 0 ≤ o) (hL : may.length ≤ 8) (hno : ∀ j, 1 ≤ j → j < may.length + 1 → (picksL may.length 0 j).find? (lackB may mis) = none) : shortL may mis = none := by
  unfold shortL
  rw [shortOf_none]
  intro j h1 h2
  rw [shortOf_find hmay hL]
  exact hno j h1 (by omega)

set_option maxRecDepth 100000 in
set_option maxHeartbeats 4000000 in
theorem MarkShort_any (A : Option Addr) (n c : Nat) (nums : List Int) (w : World) (hl : Ints w A n nums) (hn : n ≤ 9223372036854775807) :
    Calls Try.prog 4 #[.slice A n c] w fun e w' => e = .returned (.bool true) ∧ Below w.heap.size w w' := by
  go_enter Try.func4, Try.ntmps4
  go_wp2_with fail
  refine (newHand_any A n c nums _ hl hn).mono ?_
  rintro e w1 ⟨rfl, hh, hb1, hz1⟩
  clear hl hz1
  go_wp2_with fail
  refine (found_any w.heap.size _ hh).mono ?_
  rintro e w2 ⟨tn, l, A1, c1, B, cb, ss, D, cd, mis, rfl, hck, hl3, hms, hlc, hcm, hzA, hss, hsv, hs4, hmi, hml, hmv, hd2⟩
  have hB2 := hb1.trans ((hd2.below (Nat.le_refl _) hb1.size))
  have HML := Lib.hid hml
  have hml3 : mis.length ≤ 3 := by omega
  clear hd2 hb1 hh hml
  go_upto_region 2 with (fail)
  obtain ⟨W, hW⟩ : ∃ W, W = w2.alloc (Obj.cells #[Value.int .i64 (tn : Int), .slice A1 l.length c1] 25) := ⟨_, rfl⟩
  rw [← hW]
  have hb3 : Below w2.heap.size w2 W := by rw [hW]; exact bal0 w2 _
  have bW : W.heap[w2.heap.size]? = some (Obj.cells #[Value.int .i64 (tn : Int), .slice A1 l.length c1] 25 (0, 0)) := by rw [hW]; exact alloc_at rfl
  have hBW := hB2.trans (hb3.mono hB2.size)
  have HD := Lib.hid (And.intro bW (And.intro (hms.below hb3 (Nat.le_refl _)) (And.intro (hss.below hb3 (Nat.le_refl _)) (And.intro (hmi.below hb3 (Nat.le_refl _)) hBW))))
  have HP := Lib.hid (And.intro hck (And.intro hsv (And.intro HML.out (And.intro hmv hzA))))
  have hml' : mis.length ≤ maxLen := by unfold maxLen; omega
  have hsl' : ss.length ≤ maxLen := by unfold maxLen; omega
  have hge : gatherE (tn : Int) l ss mis = 0 := by
    unfold gatherE
    have := HML.out
    rw [if_neg (by rw [hck]; omega), if_neg (by omega), if_neg (by rw [sightsE_ok.2 hsv]; omega), if_neg (by omega), if_neg (by omega), if_pos]
    rw [List.all_eq_true]
    intro x hx
    have := hmv x hx
    rw [btw_iff]
    omega
  have hm0 : ∀ x ∈ mis, 0 ≤ x := fun x hx => (hmv x hx).1
  obtain ⟨may, hmay⟩ : ∃ may, may = mays (tn : Int) l ss := ⟨_, rfl⟩
  have HMAY := Lib.hid hmay
  have hmL : may.length = ss.length := by rw [hmay]; unfold mays; simp
  have hmin : ∀ r ∈ may, ∀ o ∈ r, 0 ≤ o ∧ o < 5 ∧ o < mis.length := fun r hr o ho => by
    have := (mays_in hge rfl r (hmay ▸ hr)).2 o ho
    omega
  have HLAW := Lib.hid (And.intro hmin (And.intro hm0 (And.intro hmL (short_home hmin hm0 (by omega)))))
  obtain ⟨E, hE⟩ : ∃ E, E = shortE (tn : Int) l ss mis := ⟨_, rfl⟩
  obtain ⟨R, hR⟩ : ∃ R, R = shortR (tn : Int) l ss mis := ⟨_, rfl⟩
  obtain ⟨E2, hE2⟩ : ∃ E, E = homeE (tn : Int) l ss mis := ⟨_, rfl⟩
  have HE := Lib.hid (And.intro (show E = if shortL may mis = none then 11 else 0 by rw [hE, hmay]; unfold shortE; rw [if_pos hge]) (And.intro (show R = (shortL may mis).getD [] by rw [hR, hmay]; unfold shortR; rw [if_pos hge]) (show E2 = if giveL may mis 0 (fun _ _ => true) = none then 11 else 0 by rw [hE2, hmay]; unfold homeE; rw [if_neg (by rw [hge]; simp)])))
  have C1 := Short_any tn A1 l.length c1 l B ss.length cb ss D mis.length cd mis W HD.out.2.1 hlc hcm HD.out.2.2.1 hsl' HD.out.2.2.2.1 hml'
  have C2 := fun w' (hb' : Below W.heap.size W w') => Home_any tn A1 l.length c1 l B ss.length cb ss D mis.length cd mis w' (HD.out.2.1.below hb' (Nat.le_refl _)) hlc hcm (HD.out.2.2.1.below hb' (Nat.le_refl _)) hsl' (HD.out.2.2.2.1.below hb' (Nat.le_refl _)) hml'
  rw [← hE, ← hR] at C1
  rw [← hE2] at C2
  have HC1 := Lib.hid C1
  have HC2 := Lib.hid C2
  have hcase : (E = 11 ∧ E2 = 0) ∨ (E = 0 ∧ E2 = 11) := by
    have h := HLAW.out.2.2.2
    rw [HE.out.1, HE.out.2.2]
    by_cases hs : shortL may mis = none
    · left
      have h2 := h.2 hs
      rw [if_pos hs, if_neg (by intro h3; rw [h3] at h2; cases h2)]
      exact ⟨rfl, rfl⟩
    · right
      rw [if_neg hs, if_pos]
      · exact ⟨rfl, rfl⟩
      · cases h3 : giveL may mis 0 (fun _ _ => true) with
        | none => rfl
        | some q => exact absurd (h.1 (by rw [h3]; rfl)) hs
  have HCASE := Lib.hid hcase
  obtain ⟨r0, r1⟩ := blk2 bW
  have hsW := hBW.size
  have hlW := heap_lt bW
  clear C1 C2 hE hR hE2 hW hB2 hb3 bW hBW hms hss hmi hck hsv hmv hzA hge hm0 hmay hmL hmin hcase
  go_wp2_with fail
  (with_reducible refine HC1.out.mono ?_)
  rintro e w3 ⟨⟨A3, c3, rfl, hs3, hc3, hm3⟩, hb3⟩
  have HX3 := Lib.hid (And.intro hs3 (And.intro hb3 (Nat.le_trans hc3 hm3)))
  clear hs3 r0 r1
  obtain ⟨r0, r1⟩ := blk2 (bheap HD.out.1 hb3 (Nat.le_refl _))
  clear hb3
  go_wp2_with fail
  (with_reducible refine (HC2.out _ HX3.out.2.1).mono ?_)
  rintro e w4 ⟨v4, rfl, ho4, hb4⟩
  have hbW4 := HX3.out.2.1.trans (hb4.mono HX3.out.2.1.size)
  have HX4 := Lib.hid (And.intro hb4 hbW4)
  have hsW4 := hbW4.size
  clear ho4 r0 r1 hb4 hbW4
  have hF : ∀ x, shortL may mis = some x → E = 0 ∧ R = x := fun x hx => by
    rw [HE.out.1, HE.out.2.1, hx]; exact ⟨rfl, rfl⟩
  have hN : shortL may mis = none → E = 11 ∧ R = [] := fun hx => by
    rw [HE.out.1, HE.out.2.1, hx]; exact ⟨rfl, rfl⟩
  have HF := Lib.hid (And.intro hF hN)
  clear hF hN
  have hsl4 : ss.length ≤ 4 := hs4
  have HMW := Lib.hid (fun wr (hbr : Below w4.heap.size w4 wr) => HX4.out.2.trans (hbr.mono hsW4))
  rcases HCASE.out with ⟨rfl, rfl⟩ | ⟨rfl, rfl⟩
  all_goals
    go_wp2_with fail
    go_loopg [10] ss.length (fun g x wr => ∃ k : Nat, k + g = ss.length ∧ x = .int .i64 ((k + 1 : Nat) : Int) ∧ (∀ j, 1 ≤ j → j < k + 1 → (picksL ss.length 0 j).find? (lackB may mis) = none) ∧ Below w4.heap.size w4 wr)
    case atStart => exact ⟨0, by omega, rfl, fun j _ hj => by omega, Below.refl _ _⟩
    case round =>
      obtain ⟨k', hk, rfl, hno, hbr⟩ := hrel
      obtain ⟨k, hkk⟩ : ∃ k, k = k' + 1 := ⟨_, rfl⟩
      rw [← hkk] at hno ⊢
      have HI := Lib.hid (And.intro hk (And.intro hno (And.intro hbr hkk)))
      have hkm : k ≤ ss.length + 1 := by omega
      have hk1 : 1 ≤ k := by omega
      obtain ⟨g1, rfl⟩ : ∃ g1 : Nat, g1 = gk := ⟨_, rfl⟩
      obtain ⟨wo, rfl⟩ : ∃ wo : World, wo = wr := ⟨_, rfl⟩
      clear hk hno hkk
      by_cases hlt : k ≤ ss.length
      · have C := picks_any ss.length (by omega) k 0 (by omega) (by omega) wo
        obtain ⟨all, hall⟩ : ∃ a, a = picksL ss.length 0 k := ⟨_, rfl⟩
        rw [← hall, show ((0 : Nat) : Int) = 0 from rfl] at C
        have HC := Lib.hid C
        have HALL := Lib.hid hall
        have hwl : all.length ≤ 1296 := by
          rw [hall]
          have h1 := picks_len (n := ss.length) (by omega) k 0
          have h2 : 6 ^ k ≤ 6 ^ 4 := Nat.pow_le_pow_right (by omega) (by omega)
          omega
        have k0 : (k : Int) ≤ (ss.length : Int) := by omega
        clear C hall
        go_wp2_with fail
        (with_reducible refine HC.out.mono ?_)
        rintro e w5 ⟨v5, rfl, ho5, hb5⟩
        have hb45 := HI.out.2.2.1.trans (hb5.mono HI.out.2.2.1.size)
        have HX5 := Lib.hid (And.intro ho5 (And.intro hb5 hb45))
        obtain ⟨A5, c5, rfl, -, hc5, hm5⟩ := ho5.form
        have hs45 := hb45.size
        have hso := hb5.size
        clear ho5 hc5 hm5 hb5 hb45 hbr
        go_wp2_with fail
        go_loopg [12] all.length (fun g x wr => ∃ i : Nat, i + g = all.length ∧ x = .int .i64 i ∧ (∀ (j : Nat) x, j < i → all[j]? = some x → lackB may mis x = false) ∧ Below w5.heap.size w5 wr)
        case atStart => exact ⟨0, by omega, rfl, fun j x h => by omega, Below.refl _ _⟩
        case round =>
          obtain ⟨i, hi, rfl, hno, hbr⟩ := hrel
          have HI2 := Lib.hid (And.intro hi (And.intro hno hbr))
          have hil : i ≤ all.length := by omega
          obtain ⟨g2, rfl⟩ : ∃ g2 : Nat, g2 = gk := ⟨_, rfl⟩
          obtain ⟨wi, rfl⟩ : ∃ wi : World, wi = wr := ⟨_, rfl⟩
          have hsi := hbr.size
          have hWi := HMW.out _ (HX5.out.2.2.trans (hbr.mono hs45))
          have HWi := Lib.hid hWi
          clear hi hno
          by_cases hlti : i < all.length
          · obtain ⟨bb, ob, cap, Bx, x, cx, hv, hx, hc, hxi, hxc, hxm, hxz⟩ := HX5.out.1.get hlti
            obtain ⟨rfl, rfl⟩ : A5 = some ⟨bb, ob, none⟩ ∧ c5 = cap := by simpa using hv
            replace hc := bcell hc hbr (Nat.le_refl _)
            have hbbi := cell_lt hc
            have hxw : x ∈ picksL ss.length 0 k := by
              have := List.mem_of_getElem? hx
              rwa [HALL.out] at this
            obtain ⟨hxa, hxl⟩ := picks_mem hxw
            have HX := Lib.hid (And.intro hx (And.intro (hxi.below hbr (Nat.le_refl _)) (And.intro hxa (And.intro hxl (And.intro hxc hxm)))))
            have i0 : (0 : Int) ≤ (i : Int) := by omega
            have i1 : (i : Int) < (all.length : Int) := by omega
            have HCC := Lib.hid hc
            clear hv hx hxi hxa hxl hxw hxz hxc hxm hbr hWi hc
            go_wp2_with fail
            go_loopg [13, 14] l.length (fun g v x' wr => ∃ o : Nat, o + g = l.length ∧ x' = .int .i64 o ∧ v = .int .i64 (needTo (hasO may x) mis o) ∧ Below wi.heap.size wi wr)
            case atStart => exact ⟨0, by omega, rfl, rfl, Below.refl _ _⟩
            case round =>
              obtain ⟨o, ho, rfl, rfl, hbr⟩ := hrel
              have hol : o ≤ l.length := by omega
              obtain ⟨g3, rfl⟩ : ∃ g3 : Nat, g3 = gk := ⟨_, rfl⟩
              obtain ⟨wp, rfl⟩ : ∃ wp : World, wp = wr := ⟨_, rfl⟩
              have hsp := hbr.size
              have hbd := need_bd (p := hasO may x) (mis := mis) (fun x hx => by have := HP.out.2.2.2.1 x hx; omega) o
              obtain ⟨z, hz⟩ : ∃ z, z = needTo (hasO may x) mis o := ⟨_, rfl⟩
              rw [← hz] at hbd ⊢
              obtain ⟨z0, z1⟩ := hbd
              have hWp := HWi.out.trans (hbr.mono HWi.out.size)
              have HO := Lib.hid (And.intro ho (And.intro hz (And.intro hbr hWp)))
              obtain ⟨r0, r1⟩ := blk2 (bheap HD.out.1 hWp (Nat.le_refl _))
              have hlWp : w2.heap.size < wp.heap.size := heap_lt (bheap HD.out.1 hWp (Nat.le_refl _))
              clear ho hz hbr hWp
              by_cases hlo : o < l.length
              · have o0 : (0 : Int) ≤ (o : Int) := by omega
                have o1 : (o : Int) < (l.length : Int) := by omega
                go_wp2_with fail
                clear r0 r1
                go_loopg [15, 16] k (fun g v x' wr => ∃ q : Nat, q + g = k ∧ x' = .int .i64 q ∧ v = .bool ((x.take q).any fun y => (may.getD y.toNat []).contains (o : Int)) ∧ Below wp.heap.size wp wr)
                case atStart => exact ⟨0, by omega, rfl, rfl, Below.refl _ _⟩
                case round =>
                  obtain ⟨q, hq, rfl, rfl, hbr⟩ := hrel
                  have hqk : q ≤ k := by omega
                  obtain ⟨T, hT⟩ : ∃ T, T = ((x.take q).any fun y => (may.getD y.toNat []).contains (o : Int)) := ⟨_, rfl⟩
                  rw [← hT]
                  have hWq := HO.out.2.2.2.trans (hbr.mono HO.out.2.2.2.size)
                  have hsq := hbr.size
                  have HQ := Lib.hid (And.intro hq (And.intro hT (And.intro hbr hWq)))
                  obtain ⟨r0, r1⟩ := blk2 (bheap HD.out.1 hWq (Nat.le_refl _))
                  have hlWq : w2.heap.size < wr.heap.size := by omega
                  clear hq hT
                  by_cases hlq : q < k
                  · have hci := bcell (bcell HCC.out HO.out.2.2.1 (Nat.le_refl _)) hbr (Nat.le_refl _)
                    obtain ⟨be, oe, y, rfl, hbe, hy, y0⟩ := Ints.get ((HX.out.2.1.below HO.out.2.2.1 (Nat.le_refl _)).below hbr (Nat.le_refl _)) (show q < x.length by rw [HX.out.2.2.2.1]; exact hlq)
                    have hyv := asc_ge HX.out.2.2.1 y (List.mem_of_getElem? hy)
                    obtain ⟨yo, rfl⟩ := Int.eq_ofNat_of_zero_le (show 0 ≤ y by omega)
                    have hyo : yo < ss.length := by omega
                    obtain ⟨bs, os, s, rfl, hbs, hs, s0, s1, s2, s3, s4⟩ := Sights.get (HD.out.2.2.1.below hWq (Nat.le_refl _)) hyo
                    obtain ⟨bm, om, mk, rfl, hbm, hmk, m0, m1, m2⟩ := Marks.get (HD.out.2.1.below hWq (Nat.le_refl _)) hlo
                    obtain ⟨hsn, hso', -, -⟩ := seen_ok (HP.out.2.1 s (List.mem_of_getElem? hs))
                    have hmv := (check_marks HP.out.1 mk (List.mem_of_getElem? hmk)).1
                    have q0 : (0 : Int) ≤ (q : Int) := by omega
                    have q1 : (q : Int) < (x.length : Int) := by have := HX.out.2.2.2.1; omega
                    have q2 : (q : Int) < (k : Int) := by omega
                    have y1 : (0 : Int) ≤ (yo : Int) := by omega
                    have y2 : (yo : Int) < (ss.length : Int) := by omega
                    have cM : ∀ d os, Calls Try.prog 21 #[vSg s, vMk mk, .int .i64 tn] (Sort.grow (redrawn wr d) os) (fun e w'' => e = .returned (.bool (fits s mk tn)) ∧ ∃ p : Regrown, w'' = Sort.grow (redrawn wr p.d) p.os) := fun d os =>
                      Calls.regrown_of (rFits s mk tn _ hmv.1 hmv.2 hsn.1 hsn.2 hso')
                    obtain ⟨F, hF⟩ : ∃ F, F = fits s mk tn := ⟨_, rfl⟩
                    rw [← hF] at cM
                    have HFF := Lib.hid (show ((x.take (q + 1)).any fun y => (may.getD y.toNat []).contains (o : Int)) = (T || F) by
                      rw [List.take_add_one, hy, List.any_append, ← HQ.out.2.1]
                      congr 1
                      rw [hF, HMAY.out, ← may_fits hs hmk]
                      simp)
                    have HCM := Lib.hid cM
                    unfold vSg vMk at HCM
                    clear hs hmk hbs hbm hyv hy hF cM hbe
                    cases T
                    · go_upto_region 21 with (fail)
                      have k0 := cell_regrown y0
                      have k1 := cell_regrown r0
                      have k2 := cell_regrown r1
                      have k3 := And.intro (cell_regrown s0) (And.intro (cell_regrown s1) (And.intro (cell_regrown s2) (And.intro (cell_regrown s3) (cell_regrown s4))))
                      have k4 := And.intro (cell_regrown m0) (And.intro (cell_regrown m1) (cell_regrown m2))
                      have k5 := cell_regrown hci
                      clear y0 r0 r1 s0 s1 s2 s3 s4 m0 m1 m2 hci
                      refine wp_region_quiet_below (by kernel_rfl) (by kernel_rfl) ?_
                      repeat (quiet_step (exact HCM.out _ _))
                      refine wpQuiet_nil ?_
                      intro _ hw'
                      obtain ⟨⟨dq, osq⟩, hw''⟩ := hw'
                      subst hw''
                      obtain ⟨W7, hW7⟩ : ∃ W7, W7 = Sort.grow (redrawn wr dq) osq := ⟨_, rfl⟩
                      have hb7 : Below wr.heap.size wr W7 := by rw [hW7]; exact below_regrown wr dq osq
                      rw [← hW7]
                      have HBR7 := Lib.hid (hbr.trans (hb7.mono hbr.size))
                      clear hW7 k0 k1 k2 k3 k4 k5 hb7
                      go_wp2
                      go_roundg (gk - 1)
                      case measure => have := HQ.out.1; omega
                      case rel => exact ⟨q + 1, by have := HQ.out.1; omega, by go_num, by rw [HFF.out]; rfl, HBR7.out⟩
                    · go_upto_region 21 with (fail)
                      clear y0 r0 r1 s0 s1 s2 s3 s4 m0 m1 m2 hci
                      refine wp_region_quiet_below (by kernel_rfl) (by kernel_rfl) ?_
                      repeat
                        with_reducible refine wpQuiet_step (fun K hK => ?_)
                        go_simp
                        first
                          | (with_reducible refine hK _ ?_
                             clear hK K)
                          | (apply Exists.intro
                             refine ⟨fun _ => ?_, ?_⟩
                             (fail)
                             with_reducible refine hK _ ?_
                             clear hK K)
                      with_reducible refine wpQuiet_nil ?_
                      intro _ hw'
                      obtain ⟨⟨dq, osq⟩, hw''⟩ := hw'
                      subst hw''
                      obtain ⟨W7, hW7⟩ : ∃ W7, W7 = Sort.grow (redrawn wr dq) osq := ⟨_, rfl⟩
                      have hb7 : Below wr.heap.size wr W7 := by rw [hW7]; exact below_regrown wr dq osq
                      rw [← hW7]
                      have HBR7 := Lib.hid (hbr.trans (hb7.mono hbr.size))
                      clear hW7 hb7
                      go_wp2
                      go_roundg (gk - 1)
                      case measure => have := HQ.out.1; omega
                      case rel => exact ⟨q + 1, by have := HQ.out.1; omega, by go_num, by rw [HFF.out]; rfl, HBR7.out⟩
                  · obtain rfl : q = k := by omega
                    have HT := Lib.hid (show hasO may x o = T by
                      have h := HQ.out.2.1
                      rw [h, List.take_of_length_le (by rw [HX.out.2.2.2.1]; exact Nat.le_refl _)]
                      rfl)
                    obtain ⟨bd, od, y, rfl, hbd, hy, y0⟩ := Ints.get (HD.out.2.2.2.1.below hWq (Nat.le_refl _)) (show o < mis.length by have := HP.out.2.2.1; omega)
                    have hyv := HP.out.2.2.2.1 y (List.mem_of_getElem? hy)
                    have HY := Lib.hid (show mis.getD o 0 = y by rw [List.getD_eq_getElem?_getD, hy]; rfl)
                    have om : (o : Int) < (mis.length : Int) := by have := HP.out.2.2.1; omega
                    obtain ⟨y1, y2⟩ := hyv
                    clear hy hbd r0 r1
                    cases T
                    all_goals
                      go_wp2
                      go_roundg (g3 - 1)
                      case measure => have := HO.out.1; omega
                    · refine ⟨o + 1, by have := HO.out.1; omega, by go_num, ?_, HO.out.2.2.1.trans (hbr.mono hsp)⟩
                      show _ = Value.int .i64 (needTo (hasO may x) mis o + if hasO may x o = true then mis.getD o 0 else 0)
                      rw [HT.out, ← HO.out.2.1]
                      simp
                    · refine ⟨o + 1, by have := HO.out.1; omega, by go_num, ?_, HO.out.2.2.1.trans (hbr.mono hsp)⟩
                      show _ = Value.int .i64 (needTo (hasO may x) mis o + if hasO may x o = true then mis.getD o 0 else 0)
                      rw [HT.out, ← HO.out.2.1, HY.out]
                      simp
              · obtain rfl : o = l.length := by omega
                have HLK := Lib.hid (show lackB may mis x = decide (z < (k : Int)) by
                  unfold lackB
                  rw [HP.out.2.2.1, ← HO.out.2.1, HX.out.2.2.2.1])
                by_cases hzk : z < (k : Int)
                · have hfnd : (picksL may.length 0 k).find? (lackB may mis) = some x := by
                    rw [HLAW.out.2.2.1, ← HALL.out]
                    exact find_first HX.out.1 (by rw [HLK.out]; exact decide_eq_true hzk) HI2.out.2.1
                  have hfr := HF.out.1 x (short_found (fun r hr o ho => (HLAW.out.1 r hr o ho).1) (by rw [HLAW.out.2.2.1]; omega) hk1 (by rw [HLAW.out.2.2.1]; exact hlt) (by rw [HLAW.out.2.2.1]; exact HI.out.2.1) hfnd)
                  obtain ⟨hE0, hRx⟩ := hfr
                  clear hfnd
                  first
                    | (exfalso; omega)
                    | (have hb3p := HX4.out.1.trans ((HX5.out.2.2.trans ((HI2.out.2.2.trans (HO.out.2.2.1.mono hsi)).mono hs45)).mono HX4.out.1.size)
                       have C3 := sameInts_any A3 R.length c3 R Bx x.length cx x wp (HX3.out.1.below hb3p (Nat.le_refl _)) (HX.out.2.1.below HO.out.2.2.1 (Nat.le_refl _)) HX3.out.2.2 (Nat.le_trans HX.out.2.2.2.2.1 HX.out.2.2.2.2.2)
                       rw [show sameL R x = true by rw [hRx]; exact decide_eq_true rfl] at C3
                       have HC3 := Lib.hid C3
                       have hci := bcell HCC.out HO.out.2.2.1 (Nat.le_refl _)
                       have hbbp := cell_lt hci
                       clear C3 hb3p hRx hE0
                       go_wp2_with fail
                       (with_reducible refine HC3.out.mono ?_)
                       rintro e w8 ⟨rfl, hb8⟩
                       have HB8 := Lib.hid hb8
                       clear hb8 hci r0 r1
                       go_wp2_with fail
                       refine (marking_any _).mono ?_
                       rintro e w9 ⟨rfl, hb9⟩
                       go_wp2
                       go_ret
                       exact ⟨rfl, HD.out.2.2.2.2.trans ((HO.out.2.2.2.trans ((HB8.out.trans (hb9.mono HB8.out.size)).mono HO.out.2.2.2.size)).mono hsW)⟩)
                · go_wp2
                  go_roundg (g2 - 1)
                  case measure => have := HI2.out.1; omega
                  case rel =>
                    refine ⟨i + 1, by have := HI2.out.1; omega, by go_num, fun j x' hj hx' => ?_, HI2.out.2.2.trans (HO.out.2.2.1.mono hsi)⟩
                    by_cases hji : j = i
                    · subst hji
                      obtain rfl : x = x' := Option.some.inj (HX.out.1.symm.trans hx')
                      rw [HLK.out]
                      exact decide_eq_false (by omega)
                    · exact HI2.out.2.1 j x' (by omega) hx'
          · obtain rfl : i = all.length := by omega
            go_wp2
            go_roundg (g1 - 1)
            case measure => have := HI.out.1; have := HI.out.2.2.2; omega
            case rel =>
              refine ⟨k, by have := HI.out.1; have := HI.out.2.2.2; omega, by go_num, fun j hj1 hj => ?_, HX5.out.2.2.trans (hbr.mono hs45)⟩
              by_cases hjk : j = k
              · subst hjk
                rw [← HALL.out, List.find?_eq_none]
                intro y hy
                obtain ⟨q, hq⟩ := List.getElem?_of_mem hy
                rw [HI2.out.2.1 q y (List.getElem?_eq_some_iff.1 hq).1 hq]
                simp
              · exact HI.out.2.1 j hj1 (by omega)
      · obtain rfl : k = ss.length + 1 := by omega
        have hfr := HF.out.2 (short_not (fun r hr o ho => (HLAW.out.1 r hr o ho).1) (by rw [HLAW.out.2.2.1]; omega) (by rw [HLAW.out.2.2.1]; exact HI.out.2.1))
        obtain ⟨hE0, hRx⟩ := hfr
        first
          | (exfalso; omega)
          | (have hR0 : R.length = 0 := by rw [hRx]; rfl
             have hd : ((R.length : Int) == 0) = true := by rw [hR0]; rfl
             have HW := Lib.hid (HMW.out _ hbr)
             have hcast : ((ss.length + 1 : Nat) : Int) = (ss.length : Int) + 1 := by omega
             rw [hcast]
             clear hR0 hRx hE0 hcast hbr
             go_wp2_with fail
             refine (marking_any _).mono ?_
             rintro e w9 ⟨rfl, hb9⟩
             go_wp2
             go_ret
             exact ⟨rfl, HD.out.2.2.2.2.trans ((HW.out.trans (hb9.mono HW.out.size)).mono hsW)⟩)
end Go.Proofs.Ytoidaigiejilcaa
