/- mestalaw03.gives. -/
import Derived.Test.YtoidaigiejilcaaRefA
import Derived.Test.YtoidaigiejilcaaShow
namespace Go.Proofs.Ytoidaigiejilcaa
open Go.RowKit
set_option linter.unusedVariables false
set_option linter.unusedSimpArgs false

def cntI (x : List Int) (o : Int) : Nat := x.countP (· == o)
def fitAt (t : Int) (l : List Mk) (ss : List Sg) (x : List Int) (i : Nat) : Bool := decide (x.getD i 0 < 0) || fits (ss.getD i ⟨0, false, false, 0, 0⟩) (mkAt l (x.getD i 0)) t
/-- the list is a giving -/
def givesB (t : Int) (l : List Mk) (ss : List Sg) (mis x : List Int) : Bool := ((List.range l.length).all fun (o : Nat) => decide ((cntI x (o : Int) : Int) ≤ mis.getD o 0)) && (List.range x.length).all (fitAt t l ss x)
theorem cntI_snoc (x : List Int) (y o : Int) : cntI (x ++ [y]) o = cntI x o + if y = o then 1 else 0 := by
  unfold cntI
  rw [List.countP_append]
  by_cases h : y = o <;> simp [h]
theorem cntI_le (x : List Int) (o : Int) : cntI x o ≤ x.length := List.countP_le_length

set_option maxRecDepth 100000 in
set_option maxHeartbeats 4000000 in
theorem gives_any (t : Int) (A : Option Addr) (n c : Nat) (l : List Mk) (B : Option Addr) (m cb : Nat) (ss : List Sg) (D : Option Addr) (ni ci : Nat) (mis : List Int) (E : Option Addr) (q ce : Nat) (x : List Int) (w : World)
    (hl : Marks w A n l) (hss : Sights w B m ss) (hmi : Ints w D ni mis) (hx : Ints w E q x) (hck : check t l = 0) (hsv : ∀ s ∈ ss, seen s 9 6 = 0) (hq : q ≤ m) (hni : n ≤ ni) (hv : ∀ v ∈ x, v < n) (hmm : m ≤ 4294967295) :
    Calls Try.prog 14 #[.agg #[.int .i64 t, .slice A n c], .slice B m cb, .slice D ni ci, .slice E q ce] w fun e w' => e = .returned (.bool (givesB t l ss mis x)) ∧ Below w.heap.size w w' := by
  obtain ⟨W, hW⟩ : ∃ W, W = w.alloc (Obj.cells #[Value.int .i64 t, .slice A n c] 25) := ⟨_, rfl⟩
  have hB0 : Below w.heap.size w W := by rw [hW]; exact bal0 w _
  have b0 : W.heap[w.heap.size]? = some (Obj.cells #[Value.int .i64 t, .slice A n c] 25 (0, 0)) := by rw [hW]; exact alloc_at rfl
  have HA := Lib.hid (And.intro (hl.below hB0 (Nat.le_refl _)) (And.intro (hss.below hB0 (Nat.le_refl _)) (And.intro (hmi.below hB0 (Nat.le_refl _)) (hx.below hB0 (Nat.le_refl _)))))
  have HN := Lib.hid (And.intro hl.len (And.intro hx.len (And.intro hss.len hmi.len)))
  have HC := Lib.hid (And.intro hck (And.intro hsv hv))
  have HB := Lib.hid (And.intro b0 hB0)
  have hn5 : n ≤ 5 := by have := (check_ok hck).2.2.1; have := hl.len; omega
  have hq9 : q ≤ 4294967295 := by omega
  have hsz := hB0.size
  clear hl hss hmi hx hck hsv hv hB0
  go_enter Try.func14, Try.ntmps14
  go_upto_region 1 with (fail)
  rw [← hW]
  clear hW b0
  go_wp2_with fail
  go_loopg [9] n (fun g i wr => ∃ k : Nat, k + g = n ∧ i = .int .i64 k ∧ ((List.range k).all fun (o : Nat) => decide ((cntI x (o : Int) : Int) ≤ mis.getD o 0)) = true ∧ W = wr)
  case atStart => exact ⟨0, by omega, rfl, rfl, rfl⟩
  case round =>
    obtain ⟨k, hk, rfl, hal, rfl⟩ := hrel
    have HK := Lib.hid (And.intro hk hal)
    obtain ⟨g1, rfl⟩ : ∃ g1 : Nat, g1 = gk := ⟨_, rfl⟩
    have hkn : k ≤ n := by omega
    clear hk hal
    obtain ⟨r0, r1⟩ := blk2 HB.out.1
    have hlr := heap_lt HB.out.1
    by_cases hlt : k < n
    · have hlt' : (k : Int) < (n : Int) := by omega
      have k0 : (0 : Int) ≤ (k : Int) := by omega
      go_wp2_with fail
      go_loopg [10, 11] q (fun g v i wr => ∃ j : Nat, j + g = q ∧ i = .int .i64 j ∧ (∃ a : Nat, v = .int .i64 a ∧ a ≤ j ∧ a = cntI (x.take j) (k : Int)) ∧ W = wr)
      case atStart => exact ⟨0, by omega, rfl, ⟨0, rfl, by omega, by simp [cntI]⟩, rfl⟩
      case round =>
        obtain ⟨j, hj, rfl, ⟨a, rfl, haj, ha⟩, rfl⟩ := hrel
        have HJ := Lib.hid (And.intro hj ha)
        have hjq : j ≤ q := by omega
        clear hj ha
        by_cases hlj : j < q
        · obtain ⟨be, oe, y, rfl, hbe, hy, y0⟩ := Ints.get HA.out.2.2.2 hlj
          have HY := Lib.hid hy
          have j0 : (0 : Int) ≤ (j : Int) := by omega
          have j1 : (j : Int) < (q : Int) := by omega
          clear hy hbe
          cases hyk : (y == (k : Int))
          all_goals
            have HE := Lib.hid hyk
            go_wp2
            go_roundg (gk - 1)
            case measure => have := HJ.out.1; omega
          · refine ⟨j + 1, by have := HJ.out.1; omega, by go_num, ⟨a, rfl, by omega, ?_⟩, rfl⟩
            rw [List.take_add_one, HY.out]
            show a = cntI (x.take j ++ [y]) k
            have h := HE.out
            simp at h
            rw [cntI_snoc, if_neg h, ← HJ.out.2, Nat.add_zero]
          · refine ⟨j + 1, by have := HJ.out.1; omega, by go_num, ⟨a + 1, by go_num, by omega, ?_⟩, rfl⟩
            rw [List.take_add_one, HY.out]
            show a + 1 = cntI (x.take j ++ [y]) k
            have h := HE.out
            simp at h
            rw [cntI_snoc, if_pos h, ← HJ.out.2]
        · obtain rfl : j = q := by omega
          have hac : a = cntI x (k : Int) := by
            have := HJ.out.2
            rwa [List.take_of_length_le (by have := HN.out.2.1; omega)] at this
          obtain ⟨bd, od, z, rfl, hbd, hz, z0⟩ := Ints.get HA.out.2.2.1 (show k < ni by omega)
          have HZ := Lib.hid (show mis.getD k 0 = z by rw [List.getD_eq_getElem?_getD, hz]; rfl)
          have HAC := Lib.hid hac
          have k1 : (k : Int) < (ni : Int) := by omega
          clear hz hbd hac
          cases hgt : decide (z < (a : Int))
          all_goals
            have HE := Lib.hid hgt
            go_wp2
          · go_roundg (g1 - 1)
            case measure => have := HK.out.1; omega
            case rel =>
              refine ⟨k + 1, by have := HK.out.1; omega, by go_num, ?_, rfl⟩
              rw [List.range_succ, List.all_append, HK.out.2]
              have h := HE.out
              simp at h
              rw [List.all_cons, List.all_nil, Bool.and_true, Bool.true_and, HZ.out, ← HAC.out]
              exact decide_eq_true h
          · go_ret
            refine ⟨ret_bool ?_, HB.out.2⟩
            unfold givesB
            have h := HE.out
            simp at h
            have h2 : ((List.range l.length).all fun (o : Nat) => decide ((cntI x (o : Int) : Int) ≤ mis.getD o 0)) = false := by
              rw [List.all_eq_false]
              refine ⟨k, by rw [List.mem_range, HN.out.1]; exact hlt, ?_⟩
              rw [HZ.out, ← HAC.out]
              simp; omega
            rw [h2, Bool.false_and]
    · obtain rfl : k = n := by omega
      have HAll := Lib.hid (show ((List.range l.length).all fun (o : Nat) => decide ((cntI x (o : Int) : Int) ≤ mis.getD o 0)) = true by rw [HN.out.1]; exact HK.out.2)
      go_wp2_with fail
      clear r0 r1
      go_loopg [12] q (fun g i wr => ∃ j : Nat, j + g = q ∧ i = .int .i64 j ∧ (List.range j).all (fitAt t l ss x) = true ∧ Below W.heap.size W wr)
      case atStart => exact ⟨0, by omega, rfl, rfl, Below.refl _ _⟩
      case round =>
        obtain ⟨j, hj, rfl, hal, hbr⟩ := hrel
        have HJ := Lib.hid (And.intro hj (And.intro hal hbr))
        have hjq : j ≤ q := by omega
        clear hj hal
        by_cases hlj : j < q
        · obtain ⟨be, oe, y, rfl, hbe, hy, y0⟩ := Ints.get (HA.out.2.2.2.below hbr (Nat.le_refl _)) hlj
          have hyn := HC.out.2.2 y (List.mem_of_getElem? hy)
          have HY := Lib.hid (show x.getD j 0 = y by rw [List.getD_eq_getElem?_getD, hy]; rfl)
          have j0 : (0 : Int) ≤ (j : Int) := by omega
          have j1 : (j : Int) < (q : Int) := by omega
          obtain ⟨r0, r1⟩ := blk2 (bheap HB.out.1 hbr (Nat.le_refl _))
          clear hy hbe
          by_cases hneg : y < 0
          · have d0 : decide (0 ≤ y) = false := by simp; omega
            have HNEG := Lib.hid hneg
            clear hneg hyn
            go_upto_region 15 with (fail)
            have k0 := cell_regrown y0
            have k1 := cell_regrown r0
            have k2 := cell_regrown r1
            clear y0 r0 r1
            refine wp_region_quiet_below (by kernel_rfl) (by kernel_rfl) ?_
            repeat
              with_reducible refine wpQuiet_step (fun K hK => ?_)
              go_simp
              first
                | (with_reducible refine hK _ ?_
                   clear hK K)
                | (apply Exists.intro
                   refine ⟨fun _ => ?_, ?_⟩
                   (fail)
                   with_reducible refine hK _ ?_
                   clear hK K)
            with_reducible refine wpQuiet_nil ?_
            intro _ hw'
            obtain ⟨⟨dq, osq⟩, hw''⟩ := hw'
            subst hw''
            obtain ⟨W7, hW7⟩ : ∃ W7, W7 = Sort.grow (redrawn wr dq) osq := ⟨_, rfl⟩
            have hb7 : Below wr.heap.size wr W7 := by rw [hW7]; exact below_regrown wr dq osq
            rw [← hW7]
            have hbr7 := hbr.trans (hb7.mono hbr.size)
            clear hW7 k0 k1 k2 hb7
            go_wp2
            go_roundg (gk - 1)
            case measure => have := HJ.out.1; omega
            case rel =>
              refine ⟨j + 1, by have := HJ.out.1; omega, by go_num, ?_, hbr7⟩
              rw [List.range_succ, List.all_append, HJ.out.2.1]
              simp only [List.all_cons, List.all_nil, Bool.and_true, Bool.true_and]
              unfold fitAt
              rw [HY.out, decide_eq_true HNEG.out, Bool.true_or]
          · obtain ⟨yn, rfl⟩ := Int.eq_ofNat_of_zero_le (show 0 ≤ y by omega)
            have d0 : decide ((0 : Int) ≤ (yn : Int)) = true := by simp
            have hynn : yn < k := by omega
            obtain ⟨bs, os, s, rfl, hbs, hs, s0, s1, s2, s3, s4⟩ := Sights.get (HA.out.2.1.below hbr (Nat.le_refl _)) (show j < m by omega)
            obtain ⟨bm, om, mk, rfl, hbm, hmk, m0, m1, m2⟩ := Marks.get (HA.out.1.below hbr (Nat.le_refl _)) hynn
            obtain ⟨hsn, hso, -, -⟩ := seen_ok (HC.out.2.1 s (List.mem_of_getElem? hs))
            have hmv := (check_marks HC.out.1 mk (List.mem_of_getElem? hmk)).1
            have j2 : (j : Int) < (m : Int) := by omega
            have y1 : (yn : Int) < (k : Int) := by omega
            have y2 : (0 : Int) ≤ (yn : Int) := by omega
            have cM : ∀ d os, Calls Try.prog 21 #[vSg s, vMk mk, .int .i64 t] (Sort.grow (redrawn wr d) os) (fun e w'' => e = .returned (.bool (fits s mk t)) ∧ ∃ p : Regrown, w'' = Sort.grow (redrawn wr p.d) p.os) := fun d os =>
              Calls.regrown_of (rFits s mk t _ hmv.1 hmv.2 hsn.1 hsn.2 hso)
            have HF := Lib.hid (show fitAt t l ss x j = fits s mk t by
              unfold fitAt mkAt
              rw [HY.out, List.getD_eq_getElem?_getD, hs, show decide ((yn : Int) < 0) = false from decide_eq_false (by omega), Bool.false_or]
              simp [hmk])
            obtain ⟨F, hF⟩ : ∃ F, F = fits s mk t := ⟨_, rfl⟩
            rw [← hF] at cM
            have HFF := Lib.hid (HF.out.trans hF.symm)
            unfold vSg vMk at cM
            clear hs hmk hbs hbm hneg hyn hF HF
            cases F
            all_goals
              have HCM := Lib.hid cM
              go_upto_region 15 with (fail)
              have k0 := cell_regrown y0
              have k1 := cell_regrown r0
              have k2 := cell_regrown r1
              have k3 := And.intro (cell_regrown s0) (And.intro (cell_regrown s1) (And.intro (cell_regrown s2) (And.intro (cell_regrown s3) (cell_regrown s4))))
              have k4 := And.intro (cell_regrown m0) (And.intro (cell_regrown m1) (cell_regrown m2))
              clear y0 r0 r1 s0 s1 s2 s3 s4 m0 m1 m2 cM
              refine wp_region_quiet_below (by kernel_rfl) (by kernel_rfl) ?_
              repeat (quiet_step (exact HCM.out _ _))
              refine wpQuiet_nil ?_
              intro _ hw'
              obtain ⟨⟨dq, osq⟩, hw''⟩ := hw'
              subst hw''
              obtain ⟨W7, hW7⟩ : ∃ W7, W7 = Sort.grow (redrawn wr dq) osq := ⟨_, rfl⟩
              have hb7 : Below wr.heap.size wr W7 := by rw [hW7]; exact below_regrown wr dq osq
              rw [← hW7]
              have hbr7 := hbr.trans (hb7.mono hbr.size)
              clear hW7 k0 k1 k2 k3 k4 hb7
              go_wp2
            · go_ret
              refine ⟨ret_bool ?_, HB.out.2.trans (hbr7.mono hsz)⟩
              unfold givesB
              rw [HAll.out, Bool.true_and]
              exact (List.all_eq_false.2 ⟨j, by rw [List.mem_range, HN.out.2.1]; exact hlj, by rw [HFF.out]; simp⟩).symm
            · go_roundg (gk - 1)
              case measure => have := HJ.out.1; omega
              case rel =>
                refine ⟨j + 1, by have := HJ.out.1; omega, by go_num, ?_, hbr7⟩
                rw [List.range_succ, List.all_append, HJ.out.2.1]
                simp only [List.all_cons, List.all_nil, Bool.and_true, Bool.true_and]
                exact HFF.out
        · obtain rfl : j = q := by omega
          go_wp2
          go_ret
          refine ⟨ret_bool ?_, HB.out.2.trans (hbr.mono hsz)⟩
          unfold givesB
          rw [HAll.out, HN.out.2.1, HJ.out.2.1]
          rfl
end Go.Proofs.Ytoidaigiejilcaa
