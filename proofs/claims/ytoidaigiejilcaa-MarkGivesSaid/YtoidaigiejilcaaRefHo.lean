/- The reference's Home and Owners.
   The reference's in, Without, Left, Lacking and Short.
   The reference's Short and Left.
   The reference's Left. -/
import Derived.Test.YtoidaigiejilcaaGivings
import Derived.Test.YtoidaigiejilcaaLeft
import Derived.Test.YtoidaigiejilcaaPicks
import Derived.Test.YtoidaigiejilcaaShort
import Derived.Test.YtoidaigiejilcaaFoundK
import Derived.Deep.RegionHeld3
namespace Go.Proofs.Ytoidaigiejilcaa
open Go.RowKit
set_option linter.unusedVariables false
set_option linter.unusedSimpArgs false

theorem mays_len (t : Int) (l : List Mk) (ss : List Sg) : (mays t l ss).length = ss.length := by unfold mays; simp
/-- what is known when there is no error -/
theorem gather_ok {t : Int} {l : List Mk} {ss : List Sg} {mis : List Int} (h : gatherE t l ss mis = 0) : check t l = 0 ∧ l.length ≤ 5 ∧ ss.length ≤ 6 ∧ (∀ s ∈ ss, seen s 9 6 = 0) ∧ mis.length = l.length ∧ ∀ x ∈ mis, 0 ≤ x ∧ x ≤ 6 := by
  obtain ⟨h1, h2, h3, h4, h5⟩ := mays_ok h
  exact ⟨h1, (check_ok h1).2.2.1, h2, sightsE_ok.1 h3, h4, fun x hx => btw_iff.1 (List.all_eq_true.1 h5 x hx)⟩

set_option maxRecDepth 100000 in
set_option maxHeartbeats 2000000 in
theorem rHome (t : Int) (A : Option Addr) (n c : Nat) (l : List Mk) (B : Option Addr) (m cb : Nat) (ss : List Sg) (Ai : Option Addr) (ni ci : Nat) (mis : List Int) (w : World)
    (hl : Marks w A n l) (hlc : n ≤ c) (hcm : c ≤ maxLen) (hss : Sights w B m ss) (hmc : m ≤ cb) (hcb : cb ≤ maxLen) (hmi : Ints w Ai ni mis) (hni : ni ≤ maxLen) (hz : Ai = none → ci = 0) :
    Calls Try.prog 37 #[.agg #[.int .i64 t, .slice A n c], .slice B m cb, .slice Ai ni ci] w fun e w' => IntsRes (homeL t l ss mis) (homeE t l ss mis) e w' ∧ Below w.heap.size w w' := by
  have HP := Lib.hid (And.intro hl (And.intro hss (And.intro hmi hz)))
  have HN := Lib.hid (And.intro hl.len (And.intro hss.len hmi.len))
  have C1 := fun w' hb => rCheckHome t A n c l B m cb ss Ai ni ci mis w' (hl.below (w' := w') hb (Nat.le_refl w.heap.size)) hlc hcm (hss.below hb (Nat.le_refl _)) (Nat.le_trans hmc hcb) (hmi.below hb (Nat.le_refl _)) hni
  obtain ⟨G, hG⟩ : ∃ G, G = gatherE t l ss mis := ⟨_, rfl⟩
  rw [← hG] at C1
  have HC1 := Lib.hid C1
  have HG := Lib.hid hG
  obtain ⟨R, hR⟩ : ∃ R, R = homeL t l ss mis := ⟨_, rfl⟩
  obtain ⟨E, hE⟩ : ∃ E, E = homeE t l ss mis := ⟨_, rfl⟩
  rw [← hR, ← hE]
  have HRE := Lib.hid (And.intro hR hE)
  clear hl hss hmi hz C1 hG hR hE
  go_enter Try.func37, Try.ntmps37
  go_upto_region 1 with (fail)
  obtain ⟨W, hW⟩ : ∃ W, W = w.alloc (Obj.cells #[Value.int .i64 t, .slice A n c] 25) := ⟨_, rfl⟩
  rw [← hW]
  have hb0 : Below w.heap.size w W := by rw [hW]; exact bal0 w _
  have bW : W.heap[w.heap.size]? = some (Obj.cells #[Value.int .i64 t, .slice A n c] 25 (0, 0)) := by rw [hW]; exact alloc_at rfl
  obtain ⟨r0, r1⟩ := blk2 bW
  have hlW := heap_lt bW
  have HW := Lib.hid (And.intro bW hb0)
  clear hW hb0 bW
  go_wp2_with fail
  (with_reducible refine (HC1.out _ HW.out.2).mono ?_)
  rintro e w1 ⟨rfl, hb1⟩
  have hB1 := HW.out.2.trans (hb1.mono HW.out.2.size)
  obtain ⟨q0, q1⟩ := blk2 (bheap HW.out.1 hb1 (Nat.le_refl _))
  have hl1 := heap_lt (bheap HW.out.1 hb1 (Nat.le_refl _))
  have HB1 := Lib.hid hB1
  clear r0 r1 hb1 hB1
  by_cases hg : G = 0
  · subst hg
    obtain ⟨k1, k2, k3, k4, k5, k6⟩ := gather_ok HG.out.symm
    have hni' : ni = n := by have := HN.out; omega
    subst hni'
    have hm : m = ss.length := HN.out.2.1.symm
    subst hm
    have C := rGivings t A ni c l k1 ss B cb Ai ci mis w1 (HP.out.1.below HB1.out (Nat.le_refl _)) (HP.out.2.1.below HB1.out (Nat.le_refl _)) hmc hcb k3 k4 (HP.out.2.2.1.below HB1.out (Nat.le_refl _)) HP.out.2.2.2 k6
    have hh := home_givs (N := l.length) (mays_rows (t := t) (l := l) (ss := ss)) k2 k5 (fun x hx => (k6 x hx).1)
    obtain ⟨V, hV⟩ : ∃ V, V = givs (mays t l ss) mis := ⟨_, rfl⟩
    rw [← hV] at C hh
    have hE1 : E = if V.head? = none then 11 else 0 := by
      rw [HRE.out.2]; unfold homeE; rw [if_neg (by rw [← HG.out]; simp), hh]
    have hR1 : R = V.head?.getD [] := by
      rw [HRE.out.1]; unfold homeL; rw [if_neg (by rw [← HG.out]; simp), hh]
    have HC := Lib.hid C
    have HX := Lib.hid (And.intro hE1 hR1)
    clear C hV hE1 hR1 hh k1 k2 k3 k4 k5 k6
    go_wp2_with fail
    (with_reducible refine HC.out.mono ?_)
    rintro e w2 ⟨v2, rfl, ho2, hb2⟩
    obtain ⟨A2, c2, rfl, -, hc2, hm2⟩ := ho2.form
    have H2 := Lib.hid (And.intro ho2 (HB1.out.trans (hb2.mono HB1.out.size)))
    clear ho2 hb2 q0 q1
    cases V with
    | nil =>
      have hl0 : ([] : List (List Int)).length = 0 := rfl
      rw [hl0]
      clear hl0
      go_wp2
      go_ret2
      refine ⟨?_, H2.out.2⟩
      have e1 : E = 11 := HX.out.1
      have e2 : R = [] := HX.out.2
      rw [e1, e2]
      exact ⟨none, 0, rfl, Sl.nil_, Nat.le_refl _, by unfold maxLen; omega⟩
    | cons x V =>
      obtain ⟨b, off, cap, Bx, r, cx, hv, hr, hc, hri, hrc, hrm, hrz⟩ := H2.out.1.get (show 0 < (x :: V).length by simp)
      obtain ⟨rfl, rfl⟩ : A2 = some ⟨b, off, none⟩ ∧ c2 = cap := by simpa using hv
      obtain rfl : x = r := by simpa using hr
      have hc' : w2.cell? ⟨b, off, none⟩ = some (.slice Bx x.length cx) := hc
      have hlb := cell_lt hc'
      obtain ⟨L, hL⟩ : ∃ L, L = (x :: V).length := ⟨_, rfl⟩
      have hL0 : (0 : Int) < (L : Int) := by rw [hL]; simp
      have hL1 : ((L : Int) == 0) = false := by rw [beq_eq_false_iff_ne]; omega
      rw [← hL]
      have HRI := Lib.hid (And.intro hri (And.intro hrc hrm))
      clear hv hr hc hri hrz hL hrc hrm
      go_wp2
      go_ret2
      refine ⟨?_, H2.out.2⟩
      have e1 : E = 0 := HX.out.1
      have e2 : R = x := HX.out.2
      rw [e1, e2]
      exact ⟨Bx, cx, rfl, HRI.out⟩
  · have h0 : (G != 0) = true := by simp [hg]
    have e1 : E = G := by rw [HRE.out.2]; unfold homeE; rw [if_pos (by rw [← HG.out]; exact hg), ← HG.out]
    have e2 : R = [] := by rw [HRE.out.1]; unfold homeL; rw [if_pos (by rw [← HG.out]; exact hg)]
    have HE := Lib.hid (And.intro e1 e2)
    clear hg e1 e2
    go_wp2
    go_ret2
    refine ⟨?_, HB1.out⟩
    rw [HE.out.1, HE.out.2]
    exact ⟨none, 0, rfl, Sl.nil_, Nat.le_refl _, by unfold maxLen; omega⟩

def ownsTo (V : List (List Int)) (i o : Nat) : List Int := ((List.range o).filter fun (o : Nat) => V.any fun x => decide (x.getD i 0 = (o : Int))).map Int.ofNat
theorem filter_one (p : Nat → Bool) (o : Nat) : List.filter p [o] = if p o = true then [o] else [] := by
  by_cases h : p o = true
  · rw [if_pos h, List.filter_cons_of_pos h]; rfl
  · rw [if_neg h, List.filter_cons_of_neg h]; rfl
theorem ownsTo_succ (V : List (List Int)) (i o : Nat) : ownsTo V i (o + 1) = ownsTo V i o ++ if (V.any fun x => decide (x.getD i 0 = (o : Int))) = true then [(o : Int)] else [] := by
  unfold ownsTo
  rw [List.range_succ, List.filter_append, List.map_append]
  congr 1
  rw [filter_one]
  by_cases h : (V.any fun x => decide (x.getD i 0 = (o : Int))) = true
  · rw [if_pos h, if_pos h]; rfl
  · rw [if_neg h, if_neg h]; rfl
theorem ownsTo_len (V : List (List Int)) (i o : Nat) : (ownsTo V i o).length ≤ o := by
  unfold ownsTo
  rw [List.length_map]
  have := List.length_filter_le (fun (o : Nat) => V.any fun x => decide (x.getD i 0 = (o : Int))) (List.range o)
  simpa using this
theorem givs_row {t : Int} {l : List Mk} {ss : List Sg} {mis x : List Int} (h : x ∈ givs (mays t l ss) mis) : x.length = ss.length := by
  rw [givs_filter (N := l.length) mays_rows, List.mem_filter] at h
  have := (wordsL_mem h.1).1
  rwa [mays_len] at this

set_option maxRecDepth 100000 in
set_option maxHeartbeats 4000000 in
theorem rOwners (t : Int) (A : Option Addr) (n c : Nat) (l : List Mk) (B : Option Addr) (m cb : Nat) (ss : List Sg) (Ai : Option Addr) (ni ci : Nat) (mis : List Int) (w : World)
    (hl : Marks w A n l) (hlc : n ≤ c) (hcm : c ≤ maxLen) (hss : Sights w B m ss) (hmc : m ≤ cb) (hcb : cb ≤ maxLen) (hmi : Ints w Ai ni mis) (hni : ni ≤ maxLen) (hz : Ai = none → ci = 0) :
    Calls Try.prog 38 #[.agg #[.int .i64 t, .slice A n c], .slice B m cb, .slice Ai ni ci] w fun e w' => ∃ v, e = .returned (.tuple #[v, .int .i64 (homeE t l ss mis)]) ∧ OwnG w' w.heap.size v (ownersR t l ss mis) ∧ Below w.heap.size w w' := by
  have HP := Lib.hid (And.intro hl (And.intro hss (And.intro hmi hz)))
  have HN := Lib.hid (And.intro hl.len (And.intro hss.len hmi.len))
  have C1 := fun w' hb => rCheckHome t A n c l B m cb ss Ai ni ci mis w' (hl.below (w' := w') hb (Nat.le_refl w.heap.size)) hlc hcm (hss.below hb (Nat.le_refl _)) (Nat.le_trans hmc hcb) (hmi.below hb (Nat.le_refl _)) hni
  obtain ⟨G, hG⟩ : ∃ G, G = gatherE t l ss mis := ⟨_, rfl⟩
  rw [← hG] at C1
  have HC1 := Lib.hid C1
  have HG := Lib.hid hG
  obtain ⟨R, hR⟩ : ∃ R, R = ownersR t l ss mis := ⟨_, rfl⟩
  obtain ⟨E, hE⟩ : ∃ E, E = homeE t l ss mis := ⟨_, rfl⟩
  rw [← hR, ← hE]
  have HRE := Lib.hid (And.intro hR hE)
  clear hl hss hmi hz C1 hG hR hE
  go_enter Try.func38, Try.ntmps38
  go_upto_region 1 with (fail)
  obtain ⟨W, hW⟩ : ∃ W, W = w.alloc (Obj.cells #[Value.int .i64 t, .slice A n c] 25) := ⟨_, rfl⟩
  rw [← hW]
  have hb0 : Below w.heap.size w W := by rw [hW]; exact bal0 w _
  have bW : W.heap[w.heap.size]? = some (Obj.cells #[Value.int .i64 t, .slice A n c] 25 (0, 0)) := by rw [hW]; exact alloc_at rfl
  obtain ⟨r0, r1⟩ := blk2 bW
  have hlW := heap_lt bW
  have HW := Lib.hid (And.intro bW hb0)
  clear hW hb0 bW
  go_wp2_with fail
  (with_reducible refine (HC1.out _ HW.out.2).mono ?_)
  rintro e w1 ⟨rfl, hb1⟩
  have hB1 := HW.out.2.trans (hb1.mono HW.out.2.size)
  have b1 := bheap HW.out.1 hb1 (Nat.le_refl _)
  obtain ⟨q0, q1⟩ := blk2 b1
  have hl1 := heap_lt b1
  have HB1 := Lib.hid (And.intro hB1 b1)
  have hs1 := hB1.size
  clear r0 r1 hb1 hB1 b1
  by_cases hg : G = 0
  · subst hg
    obtain ⟨k1, k2, k3, k4, k5, k6⟩ := gather_ok HG.out.symm
    have hni' : ni = n := by have := HN.out; omega
    subst hni'
    have hm : m = ss.length := HN.out.2.1.symm
    subst hm
    have hnl := HN.out.1
    have C := rGivings t A ni c l k1 ss B cb Ai ci mis w1 (HP.out.1.below HB1.out.1 (Nat.le_refl _)) (HP.out.2.1.below HB1.out.1 (Nat.le_refl _)) hmc hcb k3 k4 (HP.out.2.2.1.below HB1.out.1 (Nat.le_refl _)) HP.out.2.2.2 k6
    have hh := home_givs (N := l.length) (mays_rows (t := t) (l := l) (ss := ss)) k2 k5 (fun x hx => (k6 x hx).1)
    have hoo := fun i (hi : i < ss.length) => owns_givs (N := l.length) (mays_rows (t := t) (l := l) (ss := ss)) k2 k5 (fun x hx => (k6 x hx).1) (i := i) (by rw [mays_len]; exact hi)
    have hrow := fun x hx => givs_row (t := t) (l := l) (ss := ss) (mis := mis) (x := x) hx
    obtain ⟨V, hV⟩ : ∃ V, V = givs (mays t l ss) mis := ⟨_, rfl⟩
    rw [← hV] at C hh
    have hVl : V.length ≤ 15625 := by
      rw [hV]
      have h1 := givs_len (N := l.length) k2 (mays t l ss) mis mays_rows
      rw [mays_len] at h1
      have h2 : 5 ^ ss.length ≤ 5 ^ 6 := Nat.pow_le_pow_right (by omega) k3
      omega
    have hE1 : E = if V.head? = none then 11 else 0 := by
      rw [HRE.out.2]; unfold homeE; rw [if_neg (by rw [← HG.out]; simp), hh]
    have hR1 : R = if E = 0 then (List.range ss.length).map (fun i => ownsTo V i l.length) else [] := by
      rw [HRE.out.1]
      unfold ownersR
      rw [← HRE.out.2]
      by_cases h0 : E = 0
      · rw [if_pos h0, if_pos h0]
        unfold ownersG
        rw [mays_len]
        refine List.map_congr_left fun i hi => ?_
        rw [hoo i (List.mem_range.1 hi), ← hV]
        rfl
      · rw [if_neg h0, if_neg h0]
    have HC := Lib.hid C
    have HX := Lib.hid (And.intro hE1 (And.intro hR1 (fun x hx => hrow x (hV ▸ hx))))
    clear C hV hE1 hR1 hh k1 k4 k5 k6 hoo hrow
    go_wp2_with fail
    (with_reducible refine HC.out.mono ?_)
    rintro e w2 ⟨v2, rfl, ho2, hb2⟩
    obtain ⟨A2, c2, rfl, -, hc2, hm2⟩ := ho2.form
    have H2 := Lib.hid (And.intro ho2 (And.intro (HB1.out.1.trans (hb2.mono hs1)) (bheap HB1.out.2 hb2 (Nat.le_refl _))))
    have hs2 := H2.out.2.1.size
    clear ho2 hb2 q0 q1
    by_cases hV0 : V = []
    · subst hV0
      have hl0 : ([] : List (List Int)).length = 0 := rfl
      rw [hl0]
      clear hl0 hVl
      go_wp2
      go_ret2
      have e1 : E = 11 := HX.out.1
      have e2 : R = [] := by rw [HX.out.2.1, e1]; rfl
      rw [e1, e2]
      exact ⟨_, rfl, OwnG.nil_, H2.out.2.1⟩
    · have hVp : 0 < V.length := List.length_pos_iff.2 hV0
      have hE0 : E = 0 := by
        rw [HX.out.1]
        cases V with
        | nil => exact absurd rfl hV0
        | cons a V => rfl
      have hR2 : R = (List.range ss.length).map (fun i => ownsTo V i l.length) := by rw [HX.out.2.1, if_pos hE0]
      have HER := Lib.hid (And.intro hE0 hR2)
      have hd0 : ((V.length : Int) == 0) = false := by rw [beq_eq_false_iff_ne]; omega
      clear hV0 hE0 hR2
      go_wp2_with fail
      clear hd0
      go_loopg [10, 11] ss.length (fun g v x wr => ∃ i : Nat, i + g = ss.length ∧ x = .int .i64 i ∧ OwnG wr w2.heap.size v ((List.range i).map (fun i => ownsTo V i l.length)) ∧ Below w2.heap.size w2 wr)
      case atStart => exact ⟨0, by omega, rfl, OwnG.nil_, Below.refl _ _⟩
      case round =>
        obtain ⟨i, hi, rfl, hog, hbr⟩ := hrel
        have HI := Lib.hid (And.intro hi (And.intro hog hbr))
        have hil : i ≤ ss.length := by omega
        obtain ⟨g1, rfl⟩ : ∃ g1 : Nat, g1 = gk := ⟨_, rfl⟩
        obtain ⟨wo, rfl⟩ : ∃ wo : World, wo = wr := ⟨_, rfl⟩
        have hso := hbr.size
        clear hi hog hbr
        by_cases hlt : i < ss.length
        · have hlt' : (i : Int) < (ss.length : Int) := by omega
          go_wp2_with fail
          go_loopg [12, 13] l.length (fun g v x wr => ∃ o : Nat, o + g = l.length ∧ x = .int .i64 o ∧ OwnI wr wo.heap.size v (ownsTo V i o) ∧ Below wo.heap.size wo wr)
          case atStart => exact ⟨0, by omega, rfl, Own.nil_, Below.refl _ _⟩
          case round =>
            obtain ⟨o, ho, rfl, hown, hbo⟩ := hrel
            have hb2o := HI.out.2.2.trans (hbo.mono hso)
            have HO := Lib.hid (And.intro ho (And.intro hown (And.intro hbo hb2o)))
            have hol : o ≤ l.length := by omega
            have hsp := hbo.size
            obtain ⟨g2, rfl⟩ : ∃ g2 : Nat, g2 = gk := ⟨_, rfl⟩
            obtain ⟨wp, rfl⟩ : ∃ wp : World, wp = wr := ⟨_, rfl⟩
            obtain ⟨r0, r1⟩ := blk2 (bheap H2.out.2.2 hb2o (Nat.le_refl _))
            have hlp := heap_lt (bheap H2.out.2.2 hb2o (Nat.le_refl _))
            clear ho hown hbo
            by_cases hlo : o < l.length
            · have hlo' : (o : Int) < (l.length : Int) := by omega
              have hlo2 : (o : Int) < (ni : Int) := by omega
              have hlo3 : o < ni := by omega
              go_wp2_with fail
              clear r0 r1 hb2o
              go_loopg [14, 15] V.length (fun g v x wr => ∃ k : Nat, k + g = V.length ∧ x = .int .i64 k ∧ v = .bool ((V.take k).any fun x => decide (x.getD i 0 = (o : Int))) ∧ wp = wr)
              case atStart => exact ⟨0, by omega, rfl, rfl, rfl⟩
              case round =>
                obtain ⟨k, hk, rfl, rfl, rfl⟩ := hrel
                have hkl : k ≤ V.length := by omega
                obtain ⟨T, hT⟩ : ∃ T, T = ((V.take k).any fun x => decide (x.getD i 0 = (o : Int))) := ⟨_, rfl⟩
                rw [← hT]
                have HK := Lib.hid (And.intro hk hT)
                clear hk hT
                by_cases hlk : k < V.length
                · obtain ⟨bb, off, cap, Bx, r, cx, hv, hr, hc, hri, hrc, hrm, hrz⟩ := H2.out.1.get hlk
                  obtain ⟨rfl, rfl⟩ : A2 = some ⟨bb, off, none⟩ ∧ c2 = cap := by simpa using hv
                  have hc3 := bcell hc HO.out.2.2.2 (Nat.le_refl _)
                  have hrl : r.length = ss.length := HX.out.2.2 r (List.mem_of_getElem? hr)
                  obtain ⟨be, oe, y, rfl, hbe, hy, y0⟩ := Ints.get (hri.below HO.out.2.2.2 (Nat.le_refl _)) (show i < r.length by omega)
                  have HY := Lib.hid (show ((V.take (k + 1)).any fun x => decide (x.getD i 0 = (o : Int))) = (T || decide (y = (o : Int))) by
                    rw [List.take_add_one, hr, List.any_append, ← HK.out.2]
                    congr 1
                    show ([r].any _) = _
                    simp only [List.any_cons, List.any_nil, Bool.or_false]
                    rw [List.getD_eq_getElem?_getD, hy]
                    rfl)
                  have k0 : (0 : Int) ≤ (k : Int) := by omega
                  have k1 : (k : Int) < (V.length : Int) := by omega
                  have i0 : (0 : Int) ≤ (i : Int) := by omega
                  have i1 : (i : Int) < (r.length : Int) := by omega
                  have hlb := cell_lt hc3
                  clear hv hr hc hri hrc hrm hrz hrl hbe hy
                  cases T
                  · go_wp2
                    go_roundg (gk - 1)
                    case measure => have := HK.out.1; omega
                    case rel => exact ⟨k + 1, by have := HK.out.1; omega, by go_num, by rw [HY.out]; rfl, rfl⟩
                  · go_wp2
                    go_roundg (gk - 1)
                    case measure => have := HK.out.1; omega
                    case rel => exact ⟨k + 1, by have := HK.out.1; omega, by go_num, by rw [HY.out]; rfl, rfl⟩
                · obtain rfl : k = V.length := by omega
                  have HT := Lib.hid (ownsTo_succ V i o)
                  have hTT : (V.any fun x => decide (x.getD i 0 = (o : Int))) = T := by
                    have h := HK.out.2
                    rw [List.take_of_length_le (Nat.le_refl _)] at h
                    exact h.symm
                  have HTT := Lib.hid hTT
                  have hll : (ownsTo V i o).length < 4294967296 := by have := ownsTo_len V i o; omega
                  clear hTT
                  cases T
                  · go_wp2
                    go_roundg (g2 - 1)
                    case measure => have := HO.out.1; omega
                    case rel => exact ⟨o + 1, by have := HO.out.1; omega, by go_num, by rw [HT.out, HTT.out]; simpa using HO.out.2.1, HO.out.2.2.1⟩
                  · go_wp2_with (at_builtin; refine wp_app okInt rfl (.tmp 62) (.tmp 64) rfl wo.heap.size _ (ownsTo V i o) (o : Int) _ rfl rfl rfl rfl (one_eInt _) HO.out.2.1 hll ?_ ?_ ?_; (omega); (omega); intro v' w' hown' hb' _ _; have H9 := Lib.hid (And.intro hown' hb'); clear hown' hb')
                    go_roundg (g2 - 1)
                    case measure => have := HO.out.1; omega
                    case rel => exact ⟨o + 1, by have := HO.out.1; omega, by go_num, by rw [HT.out, HTT.out]; exact H9.out.1, HO.out.2.2.1.trans H9.out.2⟩
            · obtain rfl : o = l.length := by omega
              have hlo' : ¬ (l.length : Int) < (ni : Int) := by omega
              have hll : ((List.range i).map (fun i => ownsTo V i l.length)).length < 4294967296 := by simp; omega
              obtain ⟨Aw, cw, rfl, hsw, hcw, hmw⟩ := Own.form HO.out.2.1 lenInt
              obtain ⟨OL, hOL⟩ : ∃ OL, OL = ownsTo V i l.length := ⟨_, rfl⟩
              have hownO := HO.out.2.1
              rw [← hOL] at hownO ⊢
              have HOO := Lib.hid (And.intro hOL hownO)
              clear hsw hcw hmw hOL hownO
              have hog := HI.out.2.1.below HO.out.2.2.1 (Nat.le_refl _)
              have HOG := Lib.hid hog
              have hbw : w2.heap.size ≤ wp.heap.size := by omega
              clear hog hb2o
              go_wp2_with (at_builtin; (refine wp_app_row rfl (.tmp 66) (.tmp 68) rfl w2.heap.size _ (.slice Aw OL.length cw) ((List.range i).map (fun i => ownsTo V i l.length)) OL ?_ ?_ HOG.out (HOO.out.2.mono hso) hll hbw ?_); (rfl); (simp [go_sem]); intro v8 w8 hog8 hb8 hk8; have H8 := Lib.hid (And.intro hog8 hb8); clear hog8 hb8 hk8)
              go_roundg (g1 - 1)
              case measure => have := HI.out.1; omega
              case rel =>
                refine ⟨i + 1, by have := HI.out.1; omega, by go_num, ?_, HO.out.2.2.2.trans H8.out.2⟩
                rw [List.range_succ, List.map_append]
                show OwnG w8 w2.heap.size _ (_ ++ [ownsTo V i l.length])
                rw [← HOO.out.1]
                exact H8.out.1
        · obtain rfl : i = ss.length := by omega
          go_wp2
          go_ret2
          rw [HER.out.1, HER.out.2]
          exact ⟨_, rfl, HI.out.2.1.mono hs2, H2.out.2.1.trans (HI.out.2.2.mono hs2)⟩
  · have h0 : (G != 0) = true := by simp [hg]
    have e1 : E = G := by rw [HRE.out.2]; unfold homeE; rw [if_pos (by rw [← HG.out]; exact hg), ← HG.out]
    have e2 : R = [] := by rw [HRE.out.1]; unfold ownersR; rw [← HRE.out.2, if_neg (by rw [e1]; exact hg)]
    have HE := Lib.hid (And.intro e1 e2)
    clear hg e1 e2
    go_wp2
    go_ret2
    rw [HE.out.1, HE.out.2]
    exact ⟨_, rfl, OwnG.nil_, HB1.out.1⟩
end Go.Proofs.Ytoidaigiejilcaa

namespace Go.Proofs.Ytoidaigiejilcaa
open Go.RowKit
set_option linter.unusedVariables false
set_option linter.unusedSimpArgs false

set_option maxRecDepth 100000 in
set_option maxHeartbeats 2000000 in
theorem rIn (A : Option Addr) (n c : Nat) (l : List Int) (x : Int) (w : World) (hl : Ints w A n l) (hn : n ≤ maxLen) :
    Calls Try.prog 114 #[.slice A n c, .int .i64 x] w fun e w' => e = .returned (.bool (l.contains x)) ∧ w = w' := by
  have HL := Lib.hid hl
  have HN := Lib.hid hl.len
  unfold maxLen at hn
  clear hl
  go_enter Try.func114, Try.ntmps114
  go_wp2_with fail
  go_loopg [5] n (fun g i wr => ∃ k : Nat, k + g = n ∧ i = .int .i64 k ∧ (l.take k).contains x = false ∧ w = wr)
  case atStart => exact ⟨0, by omega, rfl, rfl, rfl⟩
  case round =>
    obtain ⟨k, hk, rfl, hno, rfl⟩ := hrel
    have HK := Lib.hid (And.intro hk hno)
    have hkn : k ≤ n := by omega
    clear hk hno
    by_cases hlt : k < n
    · obtain ⟨b, off, y, rfl, hb, hy, y0⟩ := Ints.get HL.out hlt
      have k0 : (0 : Int) ≤ (k : Int) := by omega
      have k1 : (k : Int) < (n : Int) := by omega
      have HY := Lib.hid (show (l.take (k + 1)).contains x = (y == x) by
        rw [List.take_add_one, hy]
        have h := HK.out.2
        rw [List.contains_eq_mem, decide_eq_false_iff_not] at h
        rw [Bool.eq_iff_iff, List.contains_eq_mem, decide_eq_true_eq, List.mem_append, beq_iff_eq]
        constructor
        · rintro (h2 | h2)
          · exact absurd h2 h
          · simpa using (List.mem_singleton.1 h2).symm
        · rintro rfl; exact .inr (by simp))
      have HM := Lib.hid (List.mem_of_getElem? hy)
      clear hy hb
      cases hyx : (y == x)
      · have HE := Lib.hid hyx
        go_wp2
        go_roundg (gk - 1)
        case measure => have := HK.out.1; omega
        case rel => exact ⟨k + 1, by have := HK.out.1; omega, by go_num, by rw [HY.out, HE.out], rfl⟩
      · have HE := Lib.hid hyx
        go_wp2
        go_ret
        refine ⟨ret_bool ?_, rfl⟩
        have h := HE.out
        rw [beq_iff_eq] at h
        rw [← h, List.contains_eq_mem]
        exact (decide_eq_true HM.out).symm
    · obtain rfl : k = n := by omega
      go_wp2
      go_ret
      refine ⟨ret_bool ?_, rfl⟩
      have h := HK.out.2
      rw [List.take_of_length_le (by have := HN.out; omega)] at h
      exact h.symm

set_option maxRecDepth 100000 in
set_option maxHeartbeats 2000000 in
theorem rWithout (B : Option Addr) (m cb : Nat) (ss : List Sg) (A : Option Addr) (n c : Nat) (q : List Int) (w : World) (hss : Sights w B m ss) (hm : m ≤ 6) (hq : Ints w A n q) (hn : n ≤ maxLen) :
    Calls Try.prog 85 #[.slice B m cb, .slice A n c] w fun e w' => ∃ v, e = .returned v ∧ OwnS w' w.heap.size v (withoutS ss q ss.length) ∧ Below w.heap.size w w' := by
  have HP := Lib.hid (And.intro hss hq)
  have HN := Lib.hid hss.len
  clear hss hq
  go_enter Try.func85, Try.ntmps85
  go_wp2_with fail
  go_loopg [5, 6] m (fun g v i wr => ∃ k : Nat, k + g = m ∧ i = .int .i64 k ∧ OwnS wr w.heap.size v (withoutS ss q k) ∧ Below w.heap.size w wr)
  case atStart => exact ⟨0, by omega, rfl, Own.nil_, Below.refl _ _⟩
  case round =>
    obtain ⟨k, hk, rfl, hown, hbr⟩ := hrel
    have HK := Lib.hid (And.intro hk (And.intro hown hbr))
    have hkn : k ≤ m := by omega
    have hsr := hbr.size
    clear hk hown
    by_cases hlt : k < m
    · obtain ⟨b, off, x, rfl, hb, hx, s0, s1, s2, s3, s4⟩ := Sights.get (HP.out.1.below hbr (Nat.le_refl _)) hlt
      have k0 : (0 : Int) ≤ (k : Int) := by omega
      have k1 : (k : Int) < (m : Int) := by omega
      have HX := Lib.hid (show withoutS ss q (k + 1) = withoutS ss q k ++ if q.contains (k : Int) then [] else [x] by
        rw [withoutS_succ, List.getD_eq_getElem?_getD, hx]; rfl)
      have hwl : (withoutS ss q k).length < 4294967296 := by
        unfold withoutS
        rw [List.length_map]
        have := List.length_filter_le (fun (i : Nat) => !q.contains (i : Int)) (List.range k)
        rw [List.length_range] at this
        omega
      obtain ⟨T, hT⟩ : ∃ T, T = q.contains (k : Int) := ⟨_, rfl⟩
      have C := rIn A n c q (k : Int) wr (HP.out.2.below hbr (Nat.le_refl _)) hn
      rw [← hT] at C HX
      have HC := Lib.hid C
      clear C hx hT hbr hb
      go_wp2_with fail
      (with_reducible refine HC.out.mono ?_)
      rintro e w2 ⟨rfl, rfl⟩
      cases T
      · go_wp2_with (at_builtin; refine wp_app okSight rfl (.tmp 17) (.tmp 22) rfl w.heap.size _ (withoutS ss q k) x _ rfl rfl rfl rfl (one_eSg _) HK.out.2.1 hwl ?_ ?_ ?_; (omega); (omega); intro v5 w5 hown5 hb5 _ _; have H5 := Lib.hid (And.intro hown5 hb5); clear hown5 hb5)
        go_roundg (gk - 1)
        case measure => have := HK.out.1; omega
        case rel => exact ⟨k + 1, by have := HK.out.1; omega, by go_num, by rw [HX.out]; exact H5.out.1, HK.out.2.2.trans H5.out.2⟩
      · go_wp2
        go_roundg (gk - 1)
        case measure => have := HK.out.1; omega
        case rel => exact ⟨k + 1, by have := HK.out.1; omega, by go_num, by rw [HX.out]; simpa using HK.out.2.1, HK.out.2.2⟩
    · obtain rfl : k = m := by omega
      go_wp2
      go_ret
      exact ⟨_, rfl, by rw [HN.out]; exact HK.out.2.1, HK.out.2.2⟩

set_option maxRecDepth 100000 in
set_option maxHeartbeats 4000000 in
theorem rLacking (t : Int) (A : Option Addr) (n c : Nat) (l : List Mk) (B : Option Addr) (m cb : Nat) (ss : List Sg) (C : Option Addr) (k cx : Nat) (x : List Int) (D : Option Addr) (ni ci : Nat) (mis : List Int) (w : World)
    (hl : Marks w A n l) (hss : Sights w B m ss) (hx : Ints w C k x) (hmi : Ints w D ni mis) (hck : check t l = 0) (hsv : ∀ s ∈ ss, seen s 9 6 = 0) (hm : m ≤ 6) (hxa : Asc ss.length 0 x) (hml : mis.length = l.length) (hmv : ∀ x ∈ mis, 0 ≤ x ∧ x ≤ 6) (hk : k ≤ 6) :
    Calls Try.prog 86 #[.agg #[.int .i64 t, .slice A n c], .slice B m cb, .slice C k cx, .slice D ni ci] w fun e w' => e = .returned (.bool (lackB (mays t l ss) mis x)) ∧ Below w.heap.size w w' := by
  obtain ⟨tn, rfl⟩ := Int.eq_ofNat_of_zero_le (check_ok hck).1
  have HN := Lib.hid (And.intro hl.len (And.intro hss.len (And.intro hx.len hmi.len)))
  have hn5 : n ≤ 5 := by have := (check_ok hck).2.2.1; have := hl.len; omega
  obtain ⟨R, hR⟩ : ∃ R, R = lackB (mays (tn : Int) l ss) mis x := ⟨_, rfl⟩
  rw [← hR]
  have HR := Lib.hid hR
  obtain ⟨may, hmay⟩ : ∃ may, may = mays (tn : Int) l ss := ⟨_, rfl⟩
  have HMAY := Lib.hid hmay
  have HD := Lib.hid (And.intro hl (And.intro hss (And.intro hx hmi)))
  have HP := Lib.hid (And.intro hck (And.intro hsv (And.intro hxa (And.intro hml hmv))))
  clear hR hmay hl hss hx hmi hck hsv hxa hml hmv
  go_enter Try.func86, Try.ntmps86
  go_upto_region 1 with (fail)
  obtain ⟨W, hW⟩ : ∃ W, W = w.alloc (Obj.cells #[Value.int .i64 (tn : Int), .slice A n c] 25) := ⟨_, rfl⟩
  rw [← hW]
  have hb0 : Below w.heap.size w W := by rw [hW]; exact bal0 w _
  have bW : W.heap[w.heap.size]? = some (Obj.cells #[Value.int .i64 (tn : Int), .slice A n c] 25 (0, 0)) := by rw [hW]; exact alloc_at rfl
  have HW := Lib.hid (And.intro bW hb0)
  have hsW := hb0.size
  have hlW := heap_lt bW
  clear hW hb0 bW
  go_wp2_with fail
  go_loopg [9, 10] n (fun g v x' wr => ∃ o : Nat, o + g = n ∧ x' = .int .i64 o ∧ v = .int .i64 (needTo (hasO may x) mis o) ∧ Below W.heap.size W wr)
  case atStart => exact ⟨0, by omega, rfl, rfl, Below.refl _ _⟩
  case round =>
    obtain ⟨o, ho, rfl, rfl, hbr⟩ := hrel
    have hol : o ≤ n := by omega
    obtain ⟨g3, rfl⟩ : ∃ g3 : Nat, g3 = gk := ⟨_, rfl⟩
    obtain ⟨wp, rfl⟩ : ∃ wp : World, wp = wr := ⟨_, rfl⟩
    have hsp := hbr.size
    have hbd := need_bd (p := hasO may x) (mis := mis) (fun x hx => by have := HP.out.2.2.2.2 x hx; omega) o
    obtain ⟨z, hz⟩ : ∃ z, z = needTo (hasO may x) mis o := ⟨_, rfl⟩
    rw [← hz] at hbd ⊢
    obtain ⟨z0, z1⟩ := hbd
    have hWp := HW.out.2.trans (hbr.mono hsW)
    have HO := Lib.hid (And.intro ho (And.intro hz (And.intro hbr hWp)))
    obtain ⟨r0, r1⟩ := blk2 (bheap HW.out.1 hbr (Nat.le_refl _))
    have hlWp : w.heap.size < wp.heap.size := heap_lt (bheap HW.out.1 hbr (Nat.le_refl _))
    clear ho hz hbr hWp
    by_cases hlo : o < n
    · have o0 : (0 : Int) ≤ (o : Int) := by omega
      have o1 : (o : Int) < (n : Int) := by omega
      go_wp2_with fail
      clear r0 r1
      go_loopg [11, 12] k (fun g v x' wr => ∃ q : Nat, q + g = k ∧ x' = .int .i64 q ∧ v = .bool ((x.take q).any fun y => (may.getD y.toNat []).contains (o : Int)) ∧ Below wp.heap.size wp wr)
      case atStart => exact ⟨0, by omega, rfl, rfl, Below.refl _ _⟩
      case round =>
        obtain ⟨q, hq, rfl, rfl, hbr⟩ := hrel
        have hqk : q ≤ k := by omega
        obtain ⟨T, hT⟩ : ∃ T, T = ((x.take q).any fun y => (may.getD y.toNat []).contains (o : Int)) := ⟨_, rfl⟩
        rw [← hT]
        have hWq := HO.out.2.2.2.trans (hbr.mono HO.out.2.2.2.size)
        have hsq := hbr.size
        have HQ := Lib.hid (And.intro hq (And.intro hT (And.intro hbr hWq)))
        obtain ⟨r0, r1⟩ := blk2 (bheap (bheap HW.out.1 HO.out.2.2.1 (Nat.le_refl _)) hbr (Nat.le_refl _))
        have hlWq : w.heap.size < wr.heap.size := by omega
        clear hq hT
        by_cases hlq : q < k
        · obtain ⟨be, oe, y, rfl, hbe, hy, y0⟩ := Ints.get (HD.out.2.2.1.below hWq (Nat.le_refl _)) hlq
          have hyv := asc_ge HP.out.2.2.1 y (List.mem_of_getElem? hy)
          obtain ⟨yo, rfl⟩ := Int.eq_ofNat_of_zero_le (show 0 ≤ y by omega)
          have hyo : yo < m := by have := HN.out.2.1; omega
          obtain ⟨bs, os, s, rfl, hbs, hs, s0, s1, s2, s3, s4⟩ := Sights.get (HD.out.2.1.below hWq (Nat.le_refl _)) hyo
          obtain ⟨bm, om, mk, rfl, hbm, hmk, m0, m1, m2⟩ := Marks.get (HD.out.1.below hWq (Nat.le_refl _)) hlo
          obtain ⟨hsn, hso', -, -⟩ := seen_ok (HP.out.2.1 s (List.mem_of_getElem? hs))
          have hmv := (check_marks HP.out.1 mk (List.mem_of_getElem? hmk)).1
          have q0 : (0 : Int) ≤ (q : Int) := by omega
          have q2 : (q : Int) < (k : Int) := by omega
          have y1 : (0 : Int) ≤ (yo : Int) := by omega
          have y2 : (yo : Int) < (m : Int) := by omega
          have cM : ∀ d os, Calls Try.prog 21 #[vSg s, vMk mk, .int .i64 tn] (Sort.grow (redrawn wr d) os) (fun e w'' => e = .returned (.bool (fits s mk tn)) ∧ ∃ p : Regrown, w'' = Sort.grow (redrawn wr p.d) p.os) := fun d os =>
            Calls.regrown_of (rFits s mk tn _ hmv.1 hmv.2 hsn.1 hsn.2 hso')
          obtain ⟨F, hF⟩ : ∃ F, F = fits s mk tn := ⟨_, rfl⟩
          rw [← hF] at cM
          have HFF := Lib.hid (show ((x.take (q + 1)).any fun y => (may.getD y.toNat []).contains (o : Int)) = (T || F) by
            rw [List.take_add_one, hy, List.any_append, ← HQ.out.2.1]
            congr 1
            have e : (may.getD yo []).contains (o : Int) = fits s mk tn := by
              rw [HMAY.out, Bool.eq_iff_iff, List.contains_eq_mem, decide_eq_true_eq, mays_getD hs, mayL_iff hmk]
            rw [hF, ← e]
            simp)
          have HCM := Lib.hid cM
          unfold vSg vMk at HCM
          clear hs hmk hbs hbm hyv hy hF cM hbe
          cases T
          · go_upto_region 9 with (fail)
            have k0 := cell_regrown y0
            have k1 := cell_regrown r0
            have k2 := cell_regrown r1
            have k3 := And.intro (cell_regrown s0) (And.intro (cell_regrown s1) (And.intro (cell_regrown s2) (And.intro (cell_regrown s3) (cell_regrown s4))))
            have k4 := And.intro (cell_regrown m0) (And.intro (cell_regrown m1) (cell_regrown m2))
            clear y0 r0 r1 s0 s1 s2 s3 s4 m0 m1 m2
            refine wp_region_quiet_below (by kernel_rfl) (by kernel_rfl) ?_
            repeat (quiet_step (exact HCM.out _ _))
            refine wpQuiet_nil ?_
            intro _ hw'
            obtain ⟨⟨dq, osq⟩, hw''⟩ := hw'
            subst hw''
            obtain ⟨W7, hW7⟩ : ∃ W7, W7 = Sort.grow (redrawn wr dq) osq := ⟨_, rfl⟩
            have hb7 : Below wr.heap.size wr W7 := by rw [hW7]; exact below_regrown wr dq osq
            rw [← hW7]
            have HBR7 := Lib.hid (hbr.trans (hb7.mono hbr.size))
            clear hW7 k0 k1 k2 k3 k4 hb7
            go_wp2
            go_roundg (gk - 1)
            case measure => have := HQ.out.1; omega
            case rel => exact ⟨q + 1, by have := HQ.out.1; omega, by go_num, by rw [HFF.out]; rfl, HBR7.out⟩
          · go_upto_region 9 with (fail)
            clear y0 r0 r1 s0 s1 s2 s3 s4 m0 m1 m2
            refine wp_region_quiet_below (by kernel_rfl) (by kernel_rfl) ?_
            repeat
              with_reducible refine wpQuiet_step (fun K hK => ?_)
              go_simp
              first
                | (with_reducible refine hK _ ?_
                   clear hK K)
                | (apply Exists.intro
                   refine ⟨fun _ => ?_, ?_⟩
                   (fail)
                   with_reducible refine hK _ ?_
                   clear hK K)
            with_reducible refine wpQuiet_nil ?_
            intro _ hw'
            obtain ⟨⟨dq, osq⟩, hw''⟩ := hw'
            subst hw''
            obtain ⟨W7, hW7⟩ : ∃ W7, W7 = Sort.grow (redrawn wr dq) osq := ⟨_, rfl⟩
            have hb7 : Below wr.heap.size wr W7 := by rw [hW7]; exact below_regrown wr dq osq
            rw [← hW7]
            have HBR7 := Lib.hid (hbr.trans (hb7.mono hbr.size))
            clear hW7 hb7
            go_wp2
            go_roundg (gk - 1)
            case measure => have := HQ.out.1; omega
            case rel => exact ⟨q + 1, by have := HQ.out.1; omega, by go_num, by rw [HFF.out]; rfl, HBR7.out⟩
        · obtain rfl : q = k := by omega
          have HT := Lib.hid (show hasO may x o = T by
            have h := HQ.out.2.1
            rw [h, List.take_of_length_le (by rw [HN.out.2.2.1]; exact Nat.le_refl _)]
            rfl)
          obtain ⟨bd, od, y, rfl, hbd, hy, y0⟩ := Ints.get (HD.out.2.2.2.below hWq (Nat.le_refl _)) (show o < ni by have := HP.out.2.2.2.1; have := HN.out; omega)
          have hyv := HP.out.2.2.2.2 y (List.mem_of_getElem? hy)
          have HY := Lib.hid (show mis.getD o 0 = y by rw [List.getD_eq_getElem?_getD, hy]; rfl)
          have om : (o : Int) < (ni : Int) := by have := HP.out.2.2.2.1; have := HN.out; omega
          obtain ⟨y1, y2⟩ := hyv
          clear hy hbd r0 r1
          cases T
          all_goals
            go_wp2
            go_roundg (g3 - 1)
            case measure => have := HO.out.1; omega
          · refine ⟨o + 1, by have := HO.out.1; omega, by go_num, ?_, HO.out.2.2.1.trans (hbr.mono hsp)⟩
            show _ = Value.int .i64 (needTo (hasO may x) mis o + if hasO may x o = true then mis.getD o 0 else 0)
            rw [HT.out, ← HO.out.2.1]
            simp
          · refine ⟨o + 1, by have := HO.out.1; omega, by go_num, ?_, HO.out.2.2.1.trans (hbr.mono hsp)⟩
            show _ = Value.int .i64 (needTo (hasO may x) mis o + if hasO may x o = true then mis.getD o 0 else 0)
            rw [HT.out, ← HO.out.2.1, HY.out]
            simp
    · obtain rfl : o = n := by omega
      have HLK := Lib.hid (show R = decide (z < (k : Int)) by
        rw [HR.out, ← HMAY.out]
        unfold lackB
        rw [HP.out.2.2.2.1, HN.out.1, ← HO.out.2.1, HN.out.2.2.1])
      go_wp2
      go_ret
      exact ⟨ret_bool HLK.out.symm, HO.out.2.2.2⟩
end Go.Proofs.Ytoidaigiejilcaa

namespace Go.Proofs.Ytoidaigiejilcaa
open Go.RowKit
set_option linter.unusedVariables false
set_option linter.unusedSimpArgs false

/-- the first list that lacks -/
theorem short_found2 {may : List (List Int)} {mis : List Int} (hmay : ∀ r ∈ may, ∀ o ∈ r, 0 ≤ o) (hL : may.length ≤ 8) {many : Nat} (h1 : 1 ≤ many) (h2 : many ≤ may.length) {x : List Int}
    (hno : ∀ j, 1 ≤ j → j < many → (picksL may.length 0 j).find? (lackB may mis) = none) (hx : (picksL may.length 0 many).find? (lackB may mis) = some x) : shortL may mis = some x := by
  unfold shortL
  rw [show may.length = (many - 1) + ((may.length - many) + 1) by omega, shortOf_skip (many - 1) ((may.length - many) + 1) 1 (fun j hj1 hj => by rw [shortOf_find hmay hL]; exact hno j hj1 (by omega))]
  show (match pickRest may.length (shortB may mis) (1 + (many - 1)) 0 0 with | some l => some l | none => shortOf may mis (may.length - many) (1 + (many - 1) + 1)) = some x
  rw [show 1 + (many - 1) = many by omega, shortOf_find hmay hL, hx]
theorem short_not2 {may : List (List Int)} {mis : List Int} (hmay : ∀ r ∈ may, ∀ o ∈ r, 0 ≤ o) (hL : may.length ≤ 8) (hno : ∀ j, 1 ≤ j → j < may.length + 1 → (picksL may.length 0 j).find? (lackB may mis) = none) : shortL may mis = none := by
  unfold shortL
  rw [shortOf_none]
  intro j h1 h2
  rw [shortOf_find hmay hL]
  exact hno j h1 (by omega)

set_option maxRecDepth 100000 in
set_option maxHeartbeats 4000000 in
theorem rShort (t : Int) (A : Option Addr) (n c : Nat) (l : List Mk) (B : Option Addr) (m cb : Nat) (ss : List Sg) (Ai : Option Addr) (ni ci : Nat) (mis : List Int) (w : World)
    (hl : Marks w A n l) (hlc : n ≤ c) (hcm : c ≤ maxLen) (hss : Sights w B m ss) (hmc : m ≤ cb) (hcb : cb ≤ maxLen) (hmi : Ints w Ai ni mis) (hni : ni ≤ maxLen) (hz : Ai = none → ci = 0) :
    Calls Try.prog 41 #[.agg #[.int .i64 t, .slice A n c], .slice B m cb, .slice Ai ni ci] w fun e w' => IntsRes (shortR t l ss mis) (shortE t l ss mis) e w' ∧ Below w.heap.size w w' := by
  have HP := Lib.hid (And.intro hl (And.intro hss (And.intro hmi hz)))
  have HN := Lib.hid (And.intro hl.len (And.intro hss.len hmi.len))
  have C1 := fun w' hb => rCheckHome t A n c l B m cb ss Ai ni ci mis w' (hl.below (w' := w') hb (Nat.le_refl w.heap.size)) hlc hcm (hss.below hb (Nat.le_refl _)) (Nat.le_trans hmc hcb) (hmi.below hb (Nat.le_refl _)) hni
  obtain ⟨G, hG⟩ : ∃ G, G = gatherE t l ss mis := ⟨_, rfl⟩
  rw [← hG] at C1
  have HC1 := Lib.hid C1
  have HG := Lib.hid hG
  obtain ⟨R, hR⟩ : ∃ R, R = shortR t l ss mis := ⟨_, rfl⟩
  obtain ⟨E, hE⟩ : ∃ E, E = shortE t l ss mis := ⟨_, rfl⟩
  rw [← hR, ← hE]
  have HRE := Lib.hid (And.intro hR hE)
  clear hl hss hmi hz C1 hG hR hE
  go_enter Try.func41, Try.ntmps41
  go_upto_region 1 with (fail)
  obtain ⟨W, hW⟩ : ∃ W, W = w.alloc (Obj.cells #[Value.int .i64 t, .slice A n c] 25) := ⟨_, rfl⟩
  rw [← hW]
  have hb0 : Below w.heap.size w W := by rw [hW]; exact bal0 w _
  have bW : W.heap[w.heap.size]? = some (Obj.cells #[Value.int .i64 t, .slice A n c] 25 (0, 0)) := by rw [hW]; exact alloc_at rfl
  obtain ⟨r0, r1⟩ := blk2 bW
  have hlW := heap_lt bW
  have HW := Lib.hid (And.intro bW hb0)
  clear hW hb0 bW
  go_wp2_with fail
  (with_reducible refine (HC1.out _ HW.out.2).mono ?_)
  rintro e w1 ⟨rfl, hb1⟩
  have hB1 := HW.out.2.trans (hb1.mono HW.out.2.size)
  have b1 := bheap HW.out.1 hb1 (Nat.le_refl _)
  have hl1 := heap_lt b1
  have HB1 := Lib.hid (And.intro hB1 b1)
  have hs1 := hB1.size
  clear r0 r1 hb1 hB1 b1
  by_cases hg : G = 0
  · subst hg
    obtain ⟨k1, k2, k3, k4, k5, k6⟩ := gather_ok HG.out.symm
    have hm : m = ss.length := HN.out.2.1.symm
    subst hm
    have hmL := mays_len t l ss
    have hmin : ∀ r ∈ mays t l ss, ∀ o ∈ r, 0 ≤ o := fun r hr o ho => ((mays_in HG.out.symm rfl r hr).2 o ho).1
    have hF : ∀ x, shortL (mays t l ss) mis = some x → E = 0 ∧ R = x := fun x hx => by
      rw [HRE.out.1, HRE.out.2]; unfold shortR shortE; rw [if_pos HG.out.symm, if_pos HG.out.symm, hx]; exact ⟨rfl, rfl⟩
    have hNn : shortL (mays t l ss) mis = none → E = 11 ∧ R = [] := fun hx => by
      rw [HRE.out.1, HRE.out.2]; unfold shortR shortE; rw [if_pos HG.out.symm, if_pos HG.out.symm, hx]; exact ⟨rfl, rfl⟩
    obtain ⟨may, hmay⟩ : ∃ may, may = mays t l ss := ⟨_, rfl⟩
    rw [← hmay] at hF hNn hmin hmL
    have HMAY := Lib.hid hmay
    have HF := Lib.hid (And.intro hF (And.intro hNn (And.intro hmin hmL)))
    have HK := Lib.hid (And.intro k1 (And.intro k4 (And.intro k5 k6)))
    clear hF hNn hmin hmL k1 k4 k5 k6 hmay k2
    go_wp2_with fail
    go_loopg [9] ss.length (fun g x wr => ∃ k : Nat, k + g = ss.length ∧ x = .int .i64 ((k + 1 : Nat) : Int) ∧ (∀ j, 1 ≤ j → j < k + 1 → (picksL ss.length 0 j).find? (lackB may mis) = none) ∧ Below w1.heap.size w1 wr)
    case atStart => exact ⟨0, by omega, rfl, fun j _ hj => by omega, Below.refl _ _⟩
    case round =>
      obtain ⟨k', hk, rfl, hno, hbr⟩ := hrel
      obtain ⟨k, hkk⟩ : ∃ k, k = k' + 1 := ⟨_, rfl⟩
      rw [← hkk] at hno ⊢
      have HI := Lib.hid (And.intro hk (And.intro hno (And.intro hbr hkk)))
      have hkm : k ≤ ss.length + 1 := by omega
      have hk1 : 1 ≤ k := by omega
      obtain ⟨g1, rfl⟩ : ∃ g1 : Nat, g1 = gk := ⟨_, rfl⟩
      obtain ⟨wo, rfl⟩ : ∃ wo : World, wo = wr := ⟨_, rfl⟩
      clear hk hno hkk
      by_cases hlt : k ≤ ss.length
      · have C := lists_any ss.length (by omega) k 0 (by omega) (by omega) wo
        obtain ⟨all, hall⟩ : ∃ a, a = picksL ss.length 0 k := ⟨_, rfl⟩
        rw [← hall, show ((0 : Nat) : Int) = 0 from rfl] at C
        have HC := Lib.hid C
        have HALL := Lib.hid hall
        have hwl : all.length ≤ 46656 := by
          rw [hall]
          have h1 := picks_len (n := ss.length) (by omega) k 0
          have h2 : 6 ^ k ≤ 6 ^ 6 := Nat.pow_le_pow_right (by omega) (by omega)
          omega
        have k0 : (k : Int) ≤ (ss.length : Int) := by omega
        clear C hall
        go_wp2_with fail
        (with_reducible refine HC.out.mono ?_)
        rintro e w5 ⟨v5, rfl, ho5, hb5⟩
        have hb45 := HI.out.2.2.1.trans (hb5.mono HI.out.2.2.1.size)
        have HX5 := Lib.hid (And.intro ho5 (And.intro hb5 hb45))
        obtain ⟨A5, c5, rfl, -, hc5, hm5⟩ := ho5.form
        have hs45 := hb45.size
        clear ho5 hc5 hm5 hb5 hb45 hbr
        go_wp2_with fail
        go_loopg [11] all.length (fun g x wr => ∃ i : Nat, i + g = all.length ∧ x = .int .i64 i ∧ (∀ (j : Nat) x, j < i → all[j]? = some x → lackB may mis x = false) ∧ Below w5.heap.size w5 wr)
        case atStart => exact ⟨0, by omega, rfl, fun j x h => by omega, Below.refl _ _⟩
        case round =>
          obtain ⟨i, hi, rfl, hno, hbr⟩ := hrel
          have hb1r := HX5.out.2.2.trans (hbr.mono hs45)
          have hBr := HB1.out.1.trans (hb1r.mono hs1)
          have HI2 := Lib.hid (And.intro hi (And.intro hno (And.intro hbr (And.intro hb1r hBr))))
          have hil : i ≤ all.length := by omega
          have hsi := hbr.size
          clear hi hno
          by_cases hlti : i < all.length
          · obtain ⟨bb, ob, cap, Bx, x, cx, hv, hx, hc, hxi, hxc, hxm, hxz⟩ := HX5.out.1.get hlti
            obtain ⟨rfl, rfl⟩ : A5 = some ⟨bb, ob, none⟩ ∧ c5 = cap := by simpa using hv
            replace hc := bcell hc hbr (Nat.le_refl _)
            have hbbi := cell_lt hc
            have hxw : x ∈ picksL ss.length 0 k := by
              have := List.mem_of_getElem? hx
              rwa [HALL.out] at this
            obtain ⟨hxa, hxl⟩ := picks_mem hxw
            have C2 := fun w' (hb' : Below wr.heap.size wr w') => rLacking t A n c l B ss.length cb ss Bx x.length cx x Ai ni ci mis w' ((HP.out.1.below hBr (Nat.le_refl _)).below hb' (Nat.le_refl _)) ((HP.out.2.1.below hBr (Nat.le_refl _)).below hb' (Nat.le_refl _)) ((hxi.below hbr (Nat.le_refl _)).below hb' (Nat.le_refl _)) ((HP.out.2.2.1.below hBr (Nat.le_refl _)).below hb' (Nat.le_refl _)) HK.out.1 HK.out.2.1 k3 hxa HK.out.2.2.1 HK.out.2.2.2 (by omega)
            obtain ⟨T, hT⟩ : ∃ T, T = lackB may mis x := ⟨_, rfl⟩
            rw [← HMAY.out, ← hT] at C2
            have HC2 := Lib.hid C2
            have HT := Lib.hid hT
            have HX := Lib.hid (And.intro hx (And.intro (hxi.below hbr (Nat.le_refl _)) (And.intro hxc hxm)))
            have i0 : (0 : Int) ≤ (i : Int) := by omega
            have i1 : (i : Int) < (all.length : Int) := by omega
            obtain ⟨q0, q1⟩ := blk2 (bheap HB1.out.2 hb1r (Nat.le_refl _))
            have HCC := Lib.hid hc
            have hlr := heap_lt (bheap HB1.out.2 hb1r (Nat.le_refl _))
            clear hv hx hxi hxa hxl hxw hxz hxc hxm hbr hb1r hBr C2 hT
            go_upto_region 11 with (fail)
            refine wp_region_quiet_tail (C := fun w' => ∃ n, w' = wr.drewN n) 7 (by kernel_rfl) (by kernel_rfl) ⟨1, rfl⟩ ?_
            simp only [List.take_succ_cons, List.take_zero, List.drop_succ_cons, List.drop_zero]
            repeat (quiet_step (fail))
            refine wpQuiet_nil ?_
            intro _ hw'
            obtain ⟨nq, hw''⟩ := hw'
            subst hw''
            obtain ⟨W6, hW6⟩ : ∃ W6, W6 = wr.drewN nq := ⟨_, rfl⟩
            have hb6 : Below wr.heap.size wr W6 := by rw [hW6]; exact below_drewN (Below.refl _ _) nq
            have hs6 : W6.heap.size = wr.heap.size := by rw [hW6]; rfl
            rw [← hW6]
            have HB6 := Lib.hid (And.intro hb6 hs6)
            clear hW6 hb6 hs6 q0 q1 hc
            go_wp2_with fail
            (with_reducible refine (HC2.out _ HB6.out.1).mono ?_)
            rintro e w7 ⟨rfl, hb7⟩
            have hbr7 := HB6.out.1.trans (hb7.mono HB6.out.1.size)
            have HB7 := Lib.hid (And.intro hbr7 (HI2.out.2.2.2.2.trans (hbr7.mono HI2.out.2.2.2.2.size)))
            have hc7 := bcell HCC.out hbr7 (Nat.le_refl _)
            have hlb7 := cell_lt hc7
            clear hb7 hbr7
            cases T
            · clear hc7 hlb7
              go_wp2
              go_roundg (gk - 1)
              case measure => have := HI2.out.1; omega
              case rel =>
                refine ⟨i + 1, by have := HI2.out.1; omega, by go_num, fun j x' hj hx' => ?_, HI2.out.2.2.1.trans (HB7.out.1.mono hsi)⟩
                by_cases hji : j = i
                · subst hji
                  obtain rfl : x = x' := Option.some.inj (HX.out.1.symm.trans hx')
                  exact HT.out.symm
                · exact HI2.out.2.1 j x' (by omega) hx'
            · have hfnd : (picksL may.length 0 k).find? (lackB may mis) = some x := by
                rw [HF.out.2.2.2, ← HALL.out]
                exact find_first HX.out.1 HT.out.symm HI2.out.2.1
              have hfr := HF.out.1 x (short_found2 HF.out.2.2.1 (by rw [HF.out.2.2.2]; omega) hk1 (by rw [HF.out.2.2.2]; exact hlt) (by rw [HF.out.2.2.2]; exact HI.out.2.1) hfnd)
              have HFR := Lib.hid hfr
              clear hfnd hfr
              go_wp2
              go_ret2
              refine ⟨?_, HB7.out.2⟩
              rw [HFR.out.1, HFR.out.2]
              exact ⟨Bx, cx, rfl, HX.out.2.1.below HB7.out.1 (Nat.le_refl _), HX.out.2.2⟩
          · obtain rfl : i = all.length := by omega
            go_wp2
            go_roundg (g1 - 1)
            case measure => have := HI.out.1; have := HI.out.2.2.2; omega
            case rel =>
              refine ⟨k, by have := HI.out.1; have := HI.out.2.2.2; omega, by go_num, fun j hj1 hj => ?_, HI2.out.2.2.2.1⟩
              by_cases hjk : j = k
              · subst hjk
                rw [← HALL.out, List.find?_eq_none]
                intro y hy
                obtain ⟨q, hq⟩ := List.getElem?_of_mem hy
                rw [HI2.out.2.1 q y (List.getElem?_eq_some_iff.1 hq).1 hq]
                simp
              · exact HI.out.2.1 j hj1 (by omega)
      · obtain rfl : k = ss.length + 1 := by omega
        have hfr := HF.out.2.1 (short_not2 HF.out.2.2.1 (by rw [HF.out.2.2.2]; omega) (by rw [HF.out.2.2.2]; exact HI.out.2.1))
        have HFR := Lib.hid hfr
        have HBW := Lib.hid (HB1.out.1.trans (hbr.mono hs1))
        have hcast : ((ss.length + 1 : Nat) : Int) = (ss.length : Int) + 1 := by omega
        rw [hcast]
        clear hfr hcast hbr
        go_wp2
        go_ret2
        refine ⟨?_, HBW.out⟩
        rw [HFR.out.1, HFR.out.2]
        exact ⟨none, 0, rfl, Sl.nil_, Nat.le_refl _, by unfold maxLen; omega⟩
  · have h0 : (G != 0) = true := by simp [hg]
    have e1 : E = G := by rw [HRE.out.2]; unfold shortE; rw [if_neg (by rw [← HG.out]; exact hg), ← HG.out]
    have e2 : R = [] := by rw [HRE.out.1]; unfold shortR; rw [if_neg (by rw [← HG.out]; exact hg)]
    have HE := Lib.hid (And.intro e1 e2)
    clear hg e1 e2
    go_wp2
    go_ret2
    refine ⟨?_, HB1.out.1⟩
    rw [HE.out.1, HE.out.2]
    exact ⟨none, 0, rfl, Sl.nil_, Nat.le_refl _, by unfold maxLen; omega⟩
end Go.Proofs.Ytoidaigiejilcaa

namespace Go.Proofs.Ytoidaigiejilcaa
open Go.RowKit
set_option linter.unusedVariables false
set_option linter.unusedSimpArgs false

def plB (t : Int) (l : List Mk) (ss : List Sg) (mis q : List Int) : Bool := !(givs (mays t l (withoutS ss q ss.length)) mis).isEmpty
theorem full_ok (t : Int) (l : List Mk) (ss : List Sg) (mis : List Int) : (picksL ss.length 0 ss.length).find? (plB t l ss mis) ≠ none := by
  intro h
  rw [List.find?_eq_none] at h
  have ha := asc_list (fun _ => true) ss.length
  have hl : (listOf (fun _ => true) ss.length).length = ss.length := by unfold listOf; rw [List.length_map, List.filter_eq_self.2 (by simp)]; simp
  have hm := picks_has ha
  rw [hl] at hm
  have := h _ hm
  apply this
  unfold plB
  have hw : withoutS ss (listOf (fun _ => true) ss.length) ss.length = [] := by
    unfold withoutS
    rw [List.map_eq_nil_iff, List.filter_eq_nil_iff]
    intro i hi
    have hil := List.mem_range.1 hi
    rw [List.contains_eq_mem, decide_eq_true (mem_list.2 ⟨hil, rfl⟩)]
    simp
  rw [hw]
  rfl
theorem left_found {t : Int} {l : List Mk} {ss : List Sg} {mis : List Int} (hn5 : l.length ≤ 5) (hN : mis.length = l.length) (hmis : ∀ x ∈ mis, 0 ≤ x) {k : Nat} (hk : k ≤ ss.length) {x : List Int}
    (hno : ∀ j, j < k → (picksL ss.length 0 j).find? (plB t l ss mis) = none) (hx : (picksL ss.length 0 k).find? (plB t l ss mis) = some x) : leftL (mays t l ss) mis = x := by
  unfold leftL
  rw [mays_len, show ss.length + 1 = k + ((ss.length - k) + 1) by omega, leftOf_skip k ((ss.length - k) + 1) 0 (fun j _ hj => by rw [leftOf_find hn5 hN hmis]; exact hno j (by omega))]
  show (match pickRest (mays t l ss).length (fun set => (giveL (mays t l ss) mis set (fun _ _ => true)).isSome) (0 + k) 0 0 with | some l => some l | none => leftOf (mays t l ss) mis (ss.length - k) (0 + k + 1)).getD [] = x
  rw [Nat.zero_add, leftOf_find hn5 hN hmis]
  have hx' : ((picksL ss.length 0 k).find? fun q => !(givs (mays t l (withoutS ss q ss.length)) mis).isEmpty) = some x := hx
  rw [hx']
  rfl
theorem withoutS_seen {ss : List Sg} {q : List Int} (h : ∀ s ∈ ss, seen s 9 6 = 0) : ∀ s ∈ withoutS ss q ss.length, seen s 9 6 = 0 := fun s hs => by
  unfold withoutS at hs
  obtain ⟨i, hi, rfl⟩ := List.mem_map.1 hs
  have hil := List.mem_range.1 (List.mem_filter.1 hi).1
  rw [List.getD_eq_getElem?_getD, List.getElem?_eq_getElem hil]
  exact h _ (List.getElem_mem hil)
theorem withoutS_len (ss : List Sg) (q : List Int) : (withoutS ss q ss.length).length ≤ ss.length := by
  unfold withoutS
  rw [List.length_map]
  have := List.length_filter_le (fun (i : Nat) => !q.contains (i : Int)) (List.range ss.length)
  simpa using this

set_option maxRecDepth 100000 in
set_option maxHeartbeats 4000000 in
theorem rLeft (t : Int) (A : Option Addr) (n c : Nat) (l : List Mk) (B : Option Addr) (m cb : Nat) (ss : List Sg) (Ai : Option Addr) (ni ci : Nat) (mis : List Int) (w : World)
    (hl : Marks w A n l) (hlc : n ≤ c) (hcm : c ≤ maxLen) (hss : Sights w B m ss) (hmc : m ≤ cb) (hcb : cb ≤ maxLen) (hmi : Ints w Ai ni mis) (hni : ni ≤ maxLen) (hz : Ai = none → ci = 0) :
    Calls Try.prog 40 #[.agg #[.int .i64 t, .slice A n c], .slice B m cb, .slice Ai ni ci] w fun e w' => IntsRes (leftR t l ss mis) (gatherE t l ss mis) e w' ∧ Below w.heap.size w w' := by
  have HP := Lib.hid (And.intro hl (And.intro hss (And.intro hmi hz)))
  have HN := Lib.hid (And.intro hl.len (And.intro hss.len hmi.len))
  have C1 := fun w' hb => rCheckHome t A n c l B m cb ss Ai ni ci mis w' (hl.below (w' := w') hb (Nat.le_refl w.heap.size)) hlc hcm (hss.below hb (Nat.le_refl _)) (Nat.le_trans hmc hcb) (hmi.below hb (Nat.le_refl _)) hni
  obtain ⟨G, hG⟩ : ∃ G, G = gatherE t l ss mis := ⟨_, rfl⟩
  rw [← hG] at C1
  have HC1 := Lib.hid C1
  have HG := Lib.hid hG
  obtain ⟨R, hR⟩ : ∃ R, R = leftR t l ss mis := ⟨_, rfl⟩
  rw [← hR, ← hG]
  have HRE := Lib.hid hR
  clear hl hss hmi hz C1 hG hR
  go_enter Try.func40, Try.ntmps40
  go_upto_region 1 with (fail)
  obtain ⟨W, hW⟩ : ∃ W, W = w.alloc (Obj.cells #[Value.int .i64 t, .slice A n c] 25) := ⟨_, rfl⟩
  rw [← hW]
  have hb0 : Below w.heap.size w W := by rw [hW]; exact bal0 w _
  have bW : W.heap[w.heap.size]? = some (Obj.cells #[Value.int .i64 t, .slice A n c] 25 (0, 0)) := by rw [hW]; exact alloc_at rfl
  obtain ⟨r0, r1⟩ := blk2 bW
  have hlW := heap_lt bW
  have HW := Lib.hid (And.intro bW hb0)
  clear hW hb0 bW
  go_wp2_with fail
  (with_reducible refine (HC1.out _ HW.out.2).mono ?_)
  rintro e w1 ⟨rfl, hb1⟩
  have hB1 := HW.out.2.trans (hb1.mono HW.out.2.size)
  have b1 := bheap HW.out.1 hb1 (Nat.le_refl _)
  have hl1 := heap_lt b1
  have HB1 := Lib.hid (And.intro hB1 b1)
  have hs1 := hB1.size
  clear r0 r1 hb1 hB1 b1
  by_cases hg : G = 0
  · subst hg
    obtain ⟨k1, k2, k3, k4, k5, k6⟩ := gather_ok HG.out.symm
    have hni' : ni = n := by have := HN.out; omega
    subst hni'
    have hm : m = ss.length := HN.out.2.1.symm
    subst hm
    have hF : ∀ (k : Nat) (x : List Int), k ≤ ss.length → (∀ j, j < k → (picksL ss.length 0 j).find? (plB t l ss mis) = none) → (picksL ss.length 0 k).find? (plB t l ss mis) = some x → R = x := fun k x hk hno hx => by
      rw [HRE.out]
      unfold leftR
      rw [if_pos HG.out.symm]
      exact left_found k2 k5 (fun x hx => (k6 x hx).1) hk hno hx
    have HF := Lib.hid hF
    have HFU := Lib.hid (full_ok t l ss mis)
    have HK := Lib.hid (And.intro k1 (And.intro k4 (And.intro k5 k6)))
    obtain ⟨pl, hpl⟩ : ∃ pl, pl = plB t l ss mis := ⟨_, rfl⟩
    have HPL := Lib.hid hpl
    rw [← hpl] at HF HFU
    clear hF k1 k4 k5 k6 hpl
    go_wp2_with fail
    go_loopg [9] (ss.length + 1) (fun g x wr => ∃ k : Nat, k + g = ss.length + 1 ∧ 0 < g ∧ x = .int .i64 (k : Int) ∧ (∀ j, j < k → (picksL ss.length 0 j).find? pl = none) ∧ Below w1.heap.size w1 wr)
    case atStart => exact ⟨0, by omega, by omega, rfl, fun j hj => by omega, Below.refl _ _⟩
    case round =>
      obtain ⟨k, hk, hgp, rfl, hno, hbr⟩ := hrel
      have HI := Lib.hid (And.intro hk (And.intro hno hbr))
      have hlt : k ≤ ss.length := by omega
      obtain ⟨g1, rfl⟩ : ∃ g1 : Nat, g1 = gk := ⟨_, rfl⟩
      obtain ⟨wo, rfl⟩ : ∃ wo : World, wo = wr := ⟨_, rfl⟩
      clear hk hno
      have C := lists_any ss.length (by omega) k 0 (by omega) (by omega) wo
      obtain ⟨all, hall⟩ : ∃ a, a = picksL ss.length 0 k := ⟨_, rfl⟩
      rw [← hall, show ((0 : Nat) : Int) = 0 from rfl] at C
      have HC := Lib.hid C
      have HALL := Lib.hid hall
      have hwl : all.length ≤ 46656 := by
        rw [hall]
        have h1 := picks_len (n := ss.length) (by omega) k 0
        have h2 : 6 ^ k ≤ 6 ^ 6 := Nat.pow_le_pow_right (by omega) (by omega)
        omega
      clear C hall
      go_wp2_with fail
      (with_reducible refine HC.out.mono ?_)
      rintro e w5 ⟨v5, rfl, ho5, hb5⟩
      have hb45 := HI.out.2.2.trans (hb5.mono HI.out.2.2.size)
      have HX5 := Lib.hid (And.intro ho5 (And.intro hb5 hb45))
      obtain ⟨A5, c5, rfl, -, hc5, hm5⟩ := ho5.form
      have hs45 := hb45.size
      clear ho5 hc5 hm5 hb5 hb45 hbr
      go_wp2_with fail
      go_loopg [11] all.length (fun g x wr => ∃ i : Nat, i + g = all.length ∧ x = .int .i64 i ∧ (∀ (j : Nat) x, j < i → all[j]? = some x → pl x = false) ∧ Below w5.heap.size w5 wr)
      case atStart => exact ⟨0, by omega, rfl, fun j x h => by omega, Below.refl _ _⟩
      case round =>
        obtain ⟨i, hi, rfl, hno, hbr⟩ := hrel
        have hb1r := HX5.out.2.2.trans (hbr.mono hs45)
        have hBr := HB1.out.1.trans (hb1r.mono hs1)
        have HI2 := Lib.hid (And.intro hi (And.intro hno (And.intro hbr (And.intro hb1r hBr))))
        have hil : i ≤ all.length := by omega
        have hsi := hbr.size
        clear hi hno
        by_cases hlti : i < all.length
        · obtain ⟨bb, ob, cap, Bx, x, cx, hv, hx, hc, hxi, hxc, hxm, hxz⟩ := HX5.out.1.get hlti
          obtain ⟨rfl, rfl⟩ : A5 = some ⟨bb, ob, none⟩ ∧ c5 = cap := by simpa using hv
          replace hc := bcell hc hbr (Nat.le_refl _)
          have hbbi := cell_lt hc
          have hxw : x ∈ picksL ss.length 0 k := by
            have := List.mem_of_getElem? hx
            rwa [HALL.out] at this
          obtain ⟨hxa, hxl⟩ := picks_mem hxw
          have C2 := fun w' (hb' : Below wr.heap.size wr w') => rWithout B ss.length cb ss Bx x.length cx x w' ((HP.out.2.1.below hBr (Nat.le_refl _)).below hb' (Nat.le_refl _)) k3 ((hxi.below hbr (Nat.le_refl _)).below hb' (Nat.le_refl _)) (by unfold maxLen; omega)
          have HC2 := Lib.hid C2
          obtain ⟨S, hS⟩ : ∃ S, S = withoutS ss x ss.length := ⟨_, rfl⟩
          have hS6 : S.length ≤ 6 := by rw [hS]; have := withoutS_len ss x; omega
          have hSv : ∀ s ∈ S, seen s 9 6 = 0 := by rw [hS]; exact withoutS_seen HK.out.2.1
          have C3 := fun w' (hb' : Below wr.heap.size wr w') B6 cb6 (h6 : Sights w' B6 S.length S) (h7 : S.length ≤ cb6) (h8 : cb6 ≤ maxLen) => rGivings t A ni c l HK.out.1 S B6 cb6 Ai ci mis w' ((HP.out.1.below hBr (Nat.le_refl _)).below hb' (Nat.le_refl _)) h6 h7 h8 hS6 hSv ((HP.out.2.2.1.below hBr (Nat.le_refl _)).below hb' (Nat.le_refl _)) HP.out.2.2.2 HK.out.2.2.2
          obtain ⟨V, hV⟩ : ∃ V, V = givs (mays t l S) mis := ⟨_, rfl⟩
          rw [← hV] at C3
          have HC3 := Lib.hid C3
          have hT : pl x = decide (0 < V.length) := by
            rw [HPL.out]
            unfold plB
            rw [← hS, ← hV]
            cases V with
            | nil => rfl
            | cons a V => rfl
          have HT := Lib.hid hT
          have HS := Lib.hid hS
          have HX := Lib.hid (And.intro hx (And.intro (hxi.below hbr (Nat.le_refl _)) (And.intro hxc hxm)))
          have i0 : (0 : Int) ≤ (i : Int) := by omega
          have i1 : (i : Int) < (all.length : Int) := by omega
          obtain ⟨q0, q1⟩ := blk2 (bheap HB1.out.2 hb1r (Nat.le_refl _))
          have HCC := Lib.hid hc
          have hlr := heap_lt (bheap HB1.out.2 hb1r (Nat.le_refl _))
          have q0d : wr.drew.cell? ⟨w.heap.size, 0, none⟩ = some (.int .i64 t) := q0
          have q1d : wr.drew.cell? ⟨w.heap.size, 1, none⟩ = some (.slice A ni c) := q1
          have hcd : wr.drew.cell? ⟨bb, ob + i, none⟩ = some (.slice Bx x.length cx) := hc
          have HDR := Lib.hid (below_drewN (Below.refl wr.heap.size wr) 1)
          clear hv hx hxi hxa hxl hxw hxz hxc hxm hbr hb1r hBr C2 C3 hT hS hS6 hSv hV
          go_upto_region 10 with (fail)
          go_region_held3 (fun w' => w'.cell? ⟨w.heap.size, 0, none⟩ = some (.int .i64 t) ∧ w'.cell? ⟨w.heap.size, 1, none⟩ = some (.slice A ni c) ∧ w'.cell? ⟨bb, ob + i, none⟩ = some (.slice Bx x.length cx))
            ((go_split_ands
              refine ⟨?_, ?_, ?_⟩
              all_goals first
                | (with_reducible exact q0d)
                | (with_reducible exact q1d)
                | (with_reducible exact hcd)
                | (with_reducible exact p0)
                | (with_reducible exact p1)
                | (with_reducible exact p2)
                | fail))
            (first
              | (go_at_call 85; refine (HC2.out _ ?_).mono ?_; (exact HDR.out); rintro e w6 ⟨v6, rfl, ho6, hb6⟩; have hbw6 := HDR.out.trans hb6; have p0 := bcell q0 hbw6 (Nat.le_refl _); have p1 := bcell q1 hbw6 (Nat.le_refl _); have p2 := bcell hc hbw6 (Nat.le_refl _); rw [← HS.out] at ho6; obtain ⟨B6, cb6, rfl, hs6, hc6, hm6⟩ := ho6.form lenSg; have H6 := Lib.hid (And.intro hs6 hbw6); clear ho6 hb6 hbw6 hs6)
              | (go_at_call 83; refine (HC3.out _ ?_ B6 cb6 ?_ hc6 hm6).mono ?_; (exact H6.out.2); (exact H6.out.1); rintro e w7 ⟨v7, rfl, ho7, hb7⟩; have hbw7 := H6.out.2.trans (hb7.mono H6.out.2.size); have p0 := bcell q0 hbw7 (Nat.le_refl _); have p1 := bcell q1 hbw7 (Nat.le_refl _); have p2 := bcell hc hbw7 (Nat.le_refl _); obtain ⟨A7, c7, rfl, -, hc7, hm7⟩ := ho7.form; have H7 := Lib.hid hbw7; clear ho7 hb7 hbw7 hc7 hm7)
              | fail)
          have HB7 := Lib.hid (And.intro H7.out (HI2.out.2.2.2.2.trans (H7.out.mono HI2.out.2.2.2.2.size)))
          have hlb7 := cell_lt p2
          by_cases hT0 : 0 < V.length
          · have hfnd : (picksL ss.length 0 k).find? pl = some x := by
              rw [← HALL.out]
              exact find_first HX.out.1 (by rw [HT.out]; exact decide_eq_true hT0) HI2.out.2.1
            have HFR := Lib.hid (HF.out _ _ hlt HI.out.2.1 hfnd)
            clear hfnd p0 p1 q0 q1 q0d q1d hc hcd
            go_wp2
            go_ret2
            refine ⟨?_, HB7.out.2⟩
            rw [HFR.out]
            exact ⟨Bx, cx, rfl, HX.out.2.1.below HB7.out.1 (Nat.le_refl _), HX.out.2.2⟩
          · clear p0 p1 p2 q0 q1 q0d q1d hc hcd
            go_wp2
            go_roundg (gk - 1)
            case measure => have := HI2.out.1; omega
            case rel =>
              refine ⟨i + 1, by have := HI2.out.1; omega, by go_num, fun j x' hj hx' => ?_, HI2.out.2.2.1.trans (HB7.out.1.mono hsi)⟩
              by_cases hji : j = i
              · subst hji
                obtain rfl : x = x' := Option.some.inj (HX.out.1.symm.trans hx')
                rw [HT.out]
                exact decide_eq_false hT0
              · exact HI2.out.2.1 j x' (by omega) hx'
        · obtain rfl : i = all.length := by omega
          have hnone : (picksL ss.length 0 k).find? pl = none := by
            rw [← HALL.out, List.find?_eq_none]
            intro y hy
            obtain ⟨q, hq⟩ := List.getElem?_of_mem hy
            rw [HI2.out.2.1 q y (List.getElem?_eq_some_iff.1 hq).1 hq]
            simp
          have hkl : k < ss.length := by
            rcases Nat.lt_or_ge k ss.length with h | h
            · exact h
            · have : k = ss.length := by omega
              subst this
              exact absurd hnone HFU.out
          have HNO := Lib.hid hnone
          clear hnone
          go_wp2
          go_roundg (g1 - 1)
          case measure => have := HI.out.1; omega
          case rel =>
            refine ⟨k + 1, by have := HI.out.1; omega, by have := HI.out.1; omega, by go_num, fun j hj => ?_, HI2.out.2.2.2.1⟩
            by_cases hjk : j = k
            · subst hjk; exact HNO.out
            · exact HI.out.2.1 j (by omega)
  · have h0 : (G != 0) = true := by simp [hg]
    have e2 : R = [] := by rw [HRE.out]; unfold leftR; rw [if_neg (by rw [← HG.out]; exact hg)]
    have HE := Lib.hid e2
    clear hg e2
    go_wp2
    go_ret2
    refine ⟨?_, HB1.out.1⟩
    rw [HE.out]
    exact ⟨none, 0, rfl, Sl.nil_, Nat.le_refl _, by unfold maxLen; omega⟩
end Go.Proofs.Ytoidaigiejilcaa
