/- TopCounted 13: TalX, Clone, SwA, SwR, HdOf, HdJ, HdZ. -/
import Derived.Test.YtgnjknihgjdedaaTc10
import Derived.Test.YtgnjknihgjdedaaTc11
import Derived.Laws.MakeOwn
import Derived.Test.YtgnjknihgjdedaaTc04
import Derived.Test.YtgnjknihgjdedaaTc03
import Derived.Test.YtgnjknihgjdedaaTc12
import Derived.Lib.SliceRun
import Derived.Deep.CutBlock
import Derived.Deep.RegionHeld3
import Derived.Test.YtgnjknihgjdedaaTc06
import Derived.Test.YtgnjknihgjdedaaTc01
import Derived.BigRegion
import Derived.Deep.RegionLaw
namespace Go.Proofs.Ytgnjknihgjdedaa
open Go.RowKit
set_option linter.unusedVariables false
set_option linter.unusedSimpArgs false

theorem one_eDe (x : De) : ∀ u ∈ eDe x, u.oneCell' = true := by
  intro u hu; simp [eDe] at hu; rcases hu with rfl | rfl | rfl | rfl | rfl | rfl | rfl | rfl | rfl | rfl | rfl | rfl <;> rfl
theorem okDeed : ElemOk Try.prog 62 67 12 88 := ElemOk.mk' (z := .agg #[.int .i64 0, .int .i64 0, .int .i64 0, .int .i64 0, .int .i64 0, .int .i64 0, .int .i64 0, .int .i64 0, .bool false, .bool false, .int .i64 0, .int .i64 0]) Try.underlying62 (by kernel_rfl) rfl (by decide)
section
variable {w w' : World} {base g : Nat} {v : Value} {ls : List (List Int)} {o : Array Value} {x : Nat × Nat}
theorem OwnG.keptB (h : OwnG w base v ls) (hg : w.grownBy w' (some g)) (bg : w.heap[g]? = some (Obj.cells o 64 x)) : OwnG w' base v ls := by
  obtain ⟨mv, h1, h2⟩ := h
  exact ⟨mv, h1.kept hg (.inr (h1.ne' bg (by decide))), Rws.kept h2 hg (fun x hx => .inr (Rws.ne h2 hx bg (by decide)))⟩
end
end Go.Proofs.Ytgnjknihgjdedaa
namespace Go.Proofs.Ytgnjknihgjdedaa
open Go.RowKit
set_option linter.unusedVariables false
set_option linter.unusedSimpArgs false

set_option maxHeartbeats 1000000 in
theorem cloneI_any (A : Option Addr) (n c : Nat) (l : List Int) (w : World) (hl : Ints w A n l) (hn : n ≤ 4294967295) :
    Calls Try.prog 94 #[.slice A n c] w fun e w' => ∃ v, e = .returned v ∧ OwnI w' w.heap.size v l ∧ Below w.heap.size w w' := by
  have HL := Lib.hid hl
  have HB := Lib.hid (bal0 w (Obj.cells #[] 3))
  have HLW := Lib.hid (HL.out.below HB.out (Nat.le_refl _))
  have HOWN := Lib.hid (show OwnI (w.alloc (Obj.cells #[] 3)) w.heap.size (.slice (some ⟨w.heap.size, 0, none⟩) 0 0) [] from Own.lit (enc := eInt) w w.heap.size #[] [] rfl lenInt (by omega) (by simp [maxLen]))
  have qT : ∀ (w : World) (a : Option Addr) (n c n' c' : Nat), (binOp .eql 22 (.slice a n c) (.slice none n' c')).run Try.prog w = .ok (.bool a.isNone) w := fun w a n c n' c' => Lib.run_eql_slice_nil w _ _ a n c n' c' Try.underlying22
  clear hl
  cases A with
  | none =>
    have hn0 : l = [] := List.eq_nil_of_length_eq_zero (by
      have := HL.out.len
      rcases Nat.eq_zero_or_pos n with h | h
      · omega
      · obtain ⟨b, off, e, -⟩ := HL.out.2 h; cases e)
    subst hn0
    go_enter Try.func94, Try.ntmps94
    go_wp2_with fail
    go_ret
    exact ⟨_, rfl, Own.nil_, Below.refl _ _⟩
  | some ad =>
    go_enter Try.func94, Try.ntmps94
    go_wp2_with (at_builtin; refine wp_apps okInt rfl (.tmp 5) (.tmp 6) rfl w.heap.size (.slice (some ⟨w.heap.size, 0, none⟩) 0 0) [] (some ad) n c l rfl rfl HLW.out (fun h => by cases h) lenInt one_eInt HOWN.out ?_ ?_ ?_ ?_; (simp; omega); (omega); (simp); intro v' w5 hown5 hgr5 hb5; have HH := Lib.hid (And.intro hown5 hb5); clear hown5 hgr5 hb5)
    go_ret
    have h := HH.out.1
    rw [List.nil_append] at h
    exact ⟨_, rfl, h, HB.out.trans HH.out.2⟩
set_option maxHeartbeats 1000000 in
theorem cloneM_any (A : Option Addr) (n c : Nat) (l : List Mk) (w : World) (hl : Marks w A n l) (hn : n ≤ 4294967295) :
    Calls Try.prog 93 #[.slice A n c] w fun e w' => ∃ v, e = .returned v ∧ OwnM w' w.heap.size v l ∧ Below w.heap.size w w' := by
  have HL := Lib.hid hl
  have HB := Lib.hid (bal0 w (Obj.cells #[] 44))
  have HLW := Lib.hid (HL.out.below HB.out (Nat.le_refl _))
  have HOWN := Lib.hid (show OwnM (w.alloc (Obj.cells #[] 44)) w.heap.size (.slice (some ⟨w.heap.size, 0, none⟩) 0 0) [] from Own.lit (enc := eMk) w w.heap.size #[] [] rfl lenMk (by omega) (by simp [maxLen]))
  have qT : ∀ (w : World) (a : Option Addr) (n c n' c' : Nat), (binOp .eql 39 (.slice a n c) (.slice none n' c')).run Try.prog w = .ok (.bool a.isNone) w := fun w a n c n' c' => Lib.run_eql_slice_nil w _ _ a n c n' c' Try.underlying39
  clear hl
  cases A with
  | none =>
    have hn0 : l = [] := List.eq_nil_of_length_eq_zero (by
      have := HL.out.len
      rcases Nat.eq_zero_or_pos n with h | h
      · omega
      · obtain ⟨b, off, e, -⟩ := HL.out.2 h; cases e)
    subst hn0
    go_enter Try.func93, Try.ntmps93
    go_wp2_with fail
    go_ret
    exact ⟨_, rfl, Own.nil_, Below.refl _ _⟩
  | some ad =>
    go_enter Try.func93, Try.ntmps93
    go_wp2_with (at_builtin; refine wp_apps okMark rfl (.tmp 5) (.tmp 6) rfl w.heap.size (.slice (some ⟨w.heap.size, 0, none⟩) 0 0) [] (some ad) n c l rfl rfl HLW.out (fun h => by cases h) lenMk one_eMk HOWN.out ?_ ?_ ?_ ?_; (simp; omega); (omega); (simp); intro v' w5 hown5 hgr5 hb5; have HH := Lib.hid (And.intro hown5 hb5); clear hown5 hgr5 hb5)
    go_ret
    have h := HH.out.1
    rw [List.nil_append] at h
    exact ⟨_, rfl, h, HB.out.trans HH.out.2⟩
set_option maxHeartbeats 1000000 in
theorem cloneD_any (A : Option Addr) (n c : Nat) (l : List De) (w : World) (hl : Deeds w A n l) (hn : n ≤ 4294967295) :
    Calls Try.prog 95 #[.slice A n c] w fun e w' => ∃ v, e = .returned v ∧ OwnD w' w.heap.size v l ∧ Below w.heap.size w w' := by
  have HL := Lib.hid hl
  have HB := Lib.hid (bal0 w (Obj.cells #[] 67))
  have HLW := Lib.hid (HL.out.below HB.out (Nat.le_refl _))
  have HOWN := Lib.hid (show OwnD (w.alloc (Obj.cells #[] 67)) w.heap.size (.slice (some ⟨w.heap.size, 0, none⟩) 0 0) [] from Own.lit (enc := eDe) w w.heap.size #[] [] rfl lenDe (by omega) (by simp [maxLen]))
  have qT : ∀ (w : World) (a : Option Addr) (n c n' c' : Nat), (binOp .eql 62 (.slice a n c) (.slice none n' c')).run Try.prog w = .ok (.bool a.isNone) w := fun w a n c n' c' => Lib.run_eql_slice_nil w _ _ a n c n' c' Try.underlying62
  clear hl
  cases A with
  | none =>
    have hn0 : l = [] := List.eq_nil_of_length_eq_zero (by
      have := HL.out.len
      rcases Nat.eq_zero_or_pos n with h | h
      · omega
      · obtain ⟨b, off, e, -⟩ := HL.out.2 h; cases e)
    subst hn0
    go_enter Try.func95, Try.ntmps95
    go_wp2_with fail
    go_ret
    exact ⟨_, rfl, Own.nil_, Below.refl _ _⟩
  | some ad =>
    go_enter Try.func95, Try.ntmps95
    go_wp2_with (at_builtin; refine wp_apps okDeed rfl (.tmp 5) (.tmp 6) rfl w.heap.size (.slice (some ⟨w.heap.size, 0, none⟩) 0 0) [] (some ad) n c l rfl rfl HLW.out (fun h => by cases h) lenDe one_eDe HOWN.out ?_ ?_ ?_ ?_; (simp; omega); (omega); (simp); intro v' w5 hown5 hgr5 hb5; have HH := Lib.hid (And.intro hown5 hb5); clear hown5 hgr5 hb5)
    go_ret
    have h := HH.out.1
    rw [List.nil_append] at h
    exact ⟨_, rfl, h, HB.out.trans HH.out.2⟩
end Go.Proofs.Ytgnjknihgjdedaa
namespace Go.Proofs.Ytgnjknihgjdedaa
open Go.RowKit
set_option linter.unusedVariables false
set_option linter.unusedSimpArgs false
set_option maxRecDepth 1000000
def findBlk (n : Nat) : Code → Option Code
  | .block m c => if m = n then some (.block m c) else findBlk n c
  | .seq a b => match findBlk n a with
    | some x => some x
    | none => findBlk n b
  | .cond _ a b => match findBlk n a with
    | some x => some x
    | none => findBlk n b
  | .loop c => findBlk n c
  | .scope c => findBlk n c
  | _ => none
end Go.Proofs.Ytgnjknihgjdedaa
namespace Go.Proofs.Ytgnjknihgjdedaa
open Go.RowKit
set_option linter.unusedVariables false
set_option linter.unusedSimpArgs false
set_option maxRecDepth 1000000
def findRgn (n : Nat) : Code → Option Code
  | .region m ops b => if m = n then some (.region m ops b) else none
  | .block _ c => findRgn n c
  | .seq a b => match findRgn n a with
    | some x => some x
    | none => findRgn n b
  | .cond _ a b => match findRgn n a with
    | some x => some x
    | none => findRgn n b
  | .loop c => findRgn n c
  | .scope c => findRgn n c
  | _ => none
end Go.Proofs.Ytgnjknihgjdedaa
namespace Go.Proofs.Ytgnjknihgjdedaa
open Go.RowKit
set_option linter.unusedVariables false
set_option linter.unusedSimpArgs false

structure HbO (w : World) (base : Nat) (b : Hb) : Prop where
  m : OwnM w base b.vm b.l
  k : OwnI w base b.vk b.ks
  h : OwnG w base b.vh b.hs
  d : OwnD w base b.vd b.ds
section
variable {w w' : World} {base B : Nat} {b : Hb}
theorem HbO.below (h : HbO w base b) (hb : Below B w w') (hB : w.heap.size ≤ B) : HbO w' base b := ⟨h.m.below hb hB, h.k.below hb hB, h.h.below hb hB, h.d.below hb hB⟩
theorem HbO.mono {c : Nat} (h : HbO w base b) (hc : c ≤ base) : HbO w c b := ⟨h.m.mono hc, h.k.mono hc, h.h.mono hc, h.d.mono hc⟩
theorem HbO.inn (h : HbO w base b) : HbIn w b := by
  obtain ⟨A1, c1, e1, m1, m2, m3⟩ := h.m.form lenMk
  obtain ⟨A2, c2, e2, k1, k2, k3⟩ := h.k.form lenInt
  obtain ⟨A3, c3, e3, h1, h2, h3⟩ := h.h.form
  obtain ⟨A4, c4, e4, d1, d2, d3⟩ := h.d.form lenDe
  injection e1 with a1 _ b1
  injection e2 with a2 _ b2
  injection e3 with a3 _ b3
  injection e4 with a4 _ b4
  subst a1 b1 a2 b2 a3 b3 a4 b4
  exact ⟨m1, m2, m3, k1, k2, k3, h1, h2, h3, d1, d2, d3⟩
theorem OwnG.keptH {v : Value} {ls : List (List Int)} {H : Nat} (h : OwnG w base v ls) (hg : w.grownBy w' (some H)) (hH : H < base) : OwnG w' base v ls := by
  obtain ⟨mv, h1, h2⟩ := h
  exact ⟨mv, h1.kept hg (.inr (fun e => by have := (h1.lt _ e).1; omega)), Rws.kept h2 hg (fun x hx => .inr (fun e => by have := (Rws.ltv h2 hx _ e).1; omega))⟩
theorem Own.keptH {α : Type} {enc : α → List Value} {e : TypeId} {sz H : Nat} {v : Value} {l : List α} (h : Own enc e sz w base v l) (hg : w.grownBy w' (some H)) (hH : H < base) : Own enc e sz w' base v l :=
  h.kept hg (.inr (fun e => by have := (h.lt _ e).1; omega))
end
section
variable {w wr w' : World} {H g B nD M M' : Nat} {b : Hb} {ds : List De}
end
end Go.Proofs.Ytgnjknihgjdedaa
namespace Go.Proofs.Ytgnjknihgjdedaa
open Go.RowKit Go.MapKept
set_option linter.unusedVariables false
set_option linter.unusedSimpArgs false

set_option maxRecDepth 100000 in
set_option maxHeartbeats 1000000 in
theorem checkD_any (p : Nat) (b : Hb) (deed owner now : Int) (d : De) (w : World) (hp : w.heap[p]? = some (b.bk deed owner now)) (hin : HbIn w b) (hck : check b.t b.l = 0) :
    Calls Try.prog 55 #[.pointer (some ⟨p, 0, none⟩), dv d] w fun e w' => e = .returned (.int .i64 (deedE b.l.length b.ks.length d)) ∧ Below w.heap.size w w' := by
  obtain ⟨V, hV⟩ : ∃ V, V = w.alloc (dObj d) := ⟨_, rfl⟩
  obtain ⟨g, hg⟩ : ∃ g, g = w.heap.size := ⟨_, rfl⟩
  have b0 : V.heap[g]? = some (dObj d) := by rw [hV, hg]; exact alloc_at rfl
  have hBV : Below w.heap.size w V := by rw [hV]; exact bal0 w _
  have hpV := bheap hp hBV (Nat.le_refl _)
  have hiV := hin.below hBV (Nat.le_refl _)
  obtain ⟨c0, c1, c2, c3, c4, c5, c6, c7, c8, c9, c10, c11⟩ := blkD b0
  have hkm : b.ks.length ≤ maxLen := Nat.le_trans hin.kc hin.km
  have hbt := betweenH_any d.kind 1 6 V
  have hif := isFlock_any p b.t b.A b.l.length b.c b.Ak b.ks.length b.ck b.vh b.vd deed owner now d.flock V hpV hkm
  obtain ⟨k1, hk1⟩ : ∃ k1, k1 = btw d.kind 1 6 := ⟨_, rfl⟩
  obtain ⟨k2, hk2⟩ : ∃ k2, k2 = ownB b.ks.length d.flock := ⟨_, rfl⟩
  rw [← hk1] at hbt
  rw [← hk2] at hif
  have HK := Lib.hid (And.intro hk1.symm hk2.symm)
  have HV := Lib.hid (And.intro hBV (And.intro b0 (And.intro hpV (And.intro hiV hck))))
  have HG := Lib.hid hg
  clear hk1 hk2
  unfold dv
  go_enter Try.func55, Try.ntmps55
  go_upto_region 1 with (fail)
  rw [← hV, ← hg]
  clear hV hg hp hin hck hBV hpV hiV b0
  cases k1 with
  | false =>
    go_wp2_with (go_at_call 90; refine hbt.mono ?_; rintro e w' ⟨rfl, rfl⟩)
    go_ret
    exact ⟨ret_int (by unfold deedE; rw [if_pos HK.out.1]), HV.out.1⟩
  | true =>
  cases k2 with
  | false =>
    go_wp2_with (first
      | (go_at_call 90; refine hbt.mono ?_; rintro e w' ⟨rfl, rfl⟩)
      | (go_at_call 91; refine hif.mono ?_; rintro e w' ⟨rfl, rfl⟩))
    go_ret
    exact ⟨ret_int (by unfold deedE; rw [if_neg (by rw [HK.out.1]; simp), if_pos HK.out.2]), HV.out.1⟩
  | true =>
  have hchk := checked_any p b deed owner now d V HV.out.2.2.1 HV.out.2.2.2.1 HV.out.2.2.2.2 (btw_iff.1 HK.out.1)
  unfold dv at hchk
  go_upto_region 6 with (first
      | (go_at_call 90; refine hbt.mono ?_; rintro e w' ⟨rfl, rfl⟩)
      | (go_at_call 91; refine hif.mono ?_; rintro e w' ⟨rfl, rfl⟩)
      | (go_at_call 92; refine hchk.mono ?_; rintro e w2 ⟨⟨x, rfl, hx⟩, hb2⟩))
  obtain ⟨Y, hY⟩ : ∃ Y, Y = w2.alloc (dObj x) := ⟨_, rfl⟩
  obtain ⟨gx, hgx⟩ : ∃ gx, gx = w2.heap.size := ⟨_, rfl⟩
  have y1 : Y.heap[gx]? = some (dObj x) := by rw [hY, hgx]; exact alloc_at rfl
  have y0 : Y.heap[g]? = some (dObj d) := by rw [hY]; exact hblk_alloc (bheap HV.out.2.1 hb2 (Nat.le_refl _)) _
  have hBY : Below w.heap.size w Y := by rw [hY]; exact bal (HV.out.1.trans (hb2.mono HV.out.1.size)) (Nat.le_refl _) _
  obtain ⟨e0, e1, e2, e3, e4, e5, e6, e7, e8, e9, e10, e11⟩ := blkD y0
  obtain ⟨r0, r1, r2, r3, r4, r5, r6, r7, r8, r9, r10, r11⟩ := blkD y1
  rw [← hY, ← hgx]
  have HY := Lib.hid (And.intro hBY hx)
  clear hY hgx y1 y0 hBY hb2 hx c0 c1 c2 c3 c4 c5 c6 c7 c8 c9 c10 c11 hbt hif hchk
  obtain ⟨fe, hfe⟩ : ∃ fe, fe = fldE b.l.length b.ks.length d := ⟨_, rfl⟩
  have HFE := Lib.hid hfe
  rw [← hfe]
  clear hfe
  by_cases h0 : fe = 0
  · subst h0
    have hxn : x = namD d := HY.out.2 HFE.out.symm
    by_cases hdx : x = d
    · have hde : deedE b.l.length b.ks.length d = 0 := by
        unfold deedE
        rw [if_neg (by rw [HK.out.1]; simp), if_neg (by rw [HK.out.2]; simp), if_neg (by rw [← HFE.out]; simp), if_neg (fun h => h (hdx.symm.trans hxn))]
      have HDE := Lib.hid (And.intro hde HY.out.1)
      clear HY HFE HK HV hde hxn
      subst hdx
      go_wp2_with fail
      go_ret
      exact ⟨ret_int HDE.out.1.symm, HDE.out.2⟩
    · have hde : deedE b.l.length b.ks.length d = 1 := by
        unfold deedE
        rw [if_neg (by rw [HK.out.1]; simp), if_neg (by rw [HK.out.2]; simp), if_neg (by rw [← HFE.out]; simp), if_pos (fun h => hdx (hxn.trans h.symm))]
      have HDE := Lib.hid (And.intro hde (And.intro HY.out.1 hdx))
      clear HY HFE HK HV hde hxn hdx
      obtain ⟨dk, df, dow, dot, dt, dm, de, ⟨dsn, dsl, dsr, dsb, dsp⟩⟩ := d
      obtain ⟨xk, xf, xow, xot, xt, xm, xe, ⟨xsn, xsl, xsr, xsb, xsp⟩⟩ := x
      dsimp only at *
      go_wp2_with fail
      all_goals
        first
          | (go_ret
             exact ⟨ret_int HDE.out.1.symm, HDE.out.2.1⟩)
          | (exfalso
             subst_vars
             exact HDE.out.2.2 rfl)
  · have x0 : (fe == 0) = false := beq_eq_false_iff_ne.2 h0
    have H0 := Lib.hid h0
    clear h0
    go_wp2_with fail
    go_ret
    refine ⟨ret_int ?_, HY.out.1⟩
    unfold deedE
    rw [if_neg (by rw [HK.out.1]; simp), if_neg (by rw [HK.out.2]; simp), ← HFE.out, if_pos H0.out]

set_option maxRecDepth 100000 in
theorem begin_any (b : Hb) (w : World) :
    Calls Try.prog 58 #[b.v] w fun e w' => ∃ p, e = .returned (.pointer (some ⟨p, 0, none⟩)) ∧ w.heap.size ≤ p ∧ w'.heap[p]? = some (b.bk (-1) 0 0) ∧ Below w.heap.size w w' := by
  unfold Hb.v
  go_enter Try.func58, Try.ntmps58
  go_wp2
  go_ret
  exact ⟨_, rfl, by omega, alloc_at (by simp), bal (bal0 w _) (Nat.le_refl _) _⟩
end Go.Proofs.Ytgnjknihgjdedaa
namespace Go.Proofs.Ytgnjknihgjdedaa
open Go.RowKit Go.MapKept
set_option linter.unusedVariables false
set_option linter.unusedSimpArgs false

theorem deedsE_snoc (n nf : Nat) : ∀ (l : List De) (d : De), deedsE n nf l = 0 → deedsE n nf (l ++ [d]) = deedE n nf d
  | [], d, _ => by unfold deedsE; simp [deedsE]; intro h; exact h.symm
  | x :: l, d, h => by
    unfold deedsE at h
    split at h
    · rename_i h1; exact absurd h h1
    · rename_i h1
      rw [List.cons_append]
      conv => lhs; unfold deedsE
      rw [if_neg h1]
      exact deedsE_snoc n nf l d h
theorem deedsE_stop (n nf : Nat) : ∀ (l m : List De), deedsE n nf l ≠ 0 → deedsE n nf (l ++ m) = deedsE n nf l
  | [], m, h => absurd rfl h
  | x :: l, m, h => by
    rw [List.cons_append]
    unfold deedsE at h ⊢
    split
    · rfl
    · rename_i h1
      rw [if_neg h1] at h
      exact deedsE_stop n nf l m h
theorem blk5c {w : World} {b : Nat} {t : TypeId} {v0 v1 v2 v3 v4 : Value} (h : w.heap[b]? = some (.cells #[v0, v1, v2, v3, v4] t (0, 0))) : w.cell? ⟨b, 0, none⟩ = some v0 ∧ w.cell? ⟨b, 1, none⟩ = some v1 ∧ w.cell? ⟨b, 2, none⟩ = some v2 ∧ w.cell? ⟨b, 3, none⟩ = some v3 ∧ w.cell? ⟨b, 4, none⟩ = some v4 := blk5 h
abbrev Hb.obj (b : Hb) : Obj := .cells #[.int .i64 b.t, .slice b.A b.l.length b.c, .slice b.Ak b.ks.length b.ck, .slice b.Ah b.hs.length b.ch, .slice b.Ad b.ds.length b.cd] 64 (0, 0)

set_option maxRecDepth 100000 in
set_option maxHeartbeats 1000000 in
theorem CheckH_any (b : Hb) (w : World) (hin : HbIn w b) :
    Calls Try.prog 89 #[b.v] w fun e w' => e = .returned (.int .i64 b.chk) ∧ Below w.heap.size w w' := by
  obtain ⟨V, hV⟩ : ∃ V, V = w.alloc b.obj := ⟨_, rfl⟩
  obtain ⟨g, hg⟩ : ∃ g, g = w.heap.size := ⟨_, rfl⟩
  have b0 : V.heap[g]? = some b.obj := by rw [hV, hg]; exact alloc_at rfl
  have hBV : Below w.heap.size w V := by rw [hV]; exact bal0 w _
  have hiV := hin.below hBV (Nat.le_refl _)
  obtain ⟨c0, c1, c2, c3, c4⟩ := blk5c b0
  have hmk := check_any b.t b.A b.l.length b.c b.l V hiV.m hiV.mc hiV.mm
  have HV := Lib.hid (And.intro hBV (And.intro b0 (And.intro hiV hg)))
  have hdm : b.ds.length ≤ maxLen := Nat.le_trans hin.dc hin.dm
  unfold maxLen at hdm
  unfold Hb.v
  go_enter Try.func89, Try.ntmps89
  go_upto_region 1 with (fail)
  rw [← hV, ← hg]
  clear hV hg hin hBV hiV b0
  obtain ⟨ck, hck⟩ : ∃ ck, ck = check b.t b.l := ⟨_, rfl⟩
  rw [← hck] at hmk
  by_cases h0 : ck = 0
  · subst h0
    have HCK := Lib.hid hck.symm
    clear hck
    go_upto_region 4 with (go_at_call 39; refine hmk.mono ?_; rintro e w2 ⟨rfl, hb2⟩)
    have x0 := bheap HV.out.2.1 hb2 (Nat.le_refl _)
    have hi2 := HV.out.2.2.1.below hb2 (Nat.le_refl _)
    have hB2 := HV.out.1.trans (hb2.mono HV.out.1.size)
    clear c0 c1 c2 c3 c4 hmk hb2
    obtain ⟨c0, c1, c2, c3, c4⟩ := blk5c x0
    have H2 := Lib.hid (And.intro hB2 (And.intro x0 hi2))
    clear x0 hi2 hB2
    have hbg := begin_any b w2
    unfold Hb.v at hbg
    go_upto_region 5 with (go_at_call 58; refine hbg.mono ?_; rintro e w3 ⟨p, rfl, hp, hpb, hb3⟩)
    have x0 := bheap H2.out.2.1 hb3 (Nat.le_refl _)
    have hi3 := H2.out.2.2.below hb3 (Nat.le_refl _)
    have hB3 := H2.out.1.trans (hb3.mono H2.out.1.size)
    have hfl := flocks_any p b (-1) 0 0 w3 hpb hi3
    clear c0 c1 c2 c3 c4 hbg hb3 hp
    obtain ⟨c0, c1, c2, c3, c4⟩ := blk5c x0
    have H3 := Lib.hid (And.intro hB3 (And.intro x0 (And.intro hi3 hpb)))
    clear x0 hi3 hB3 hpb
    obtain ⟨fe, hfe⟩ : ∃ fe, fe = flocksE b.l.length b.ks b.hs := ⟨_, rfl⟩
    rw [← hfe] at hfl
    by_cases hf0 : fe = 0
    · subst hf0
      have HFE := Lib.hid hfe.symm
      clear hfe
      have hchk : b.chk = if 6 < b.ds.length then 6 else deedsE b.l.length b.ks.length b.ds := by
        unfold Hb.chk checkH
        rw [if_neg (by rw [HCK.out]; simp), if_neg (by rw [HFE.out]; simp)]
      have HCH := Lib.hid hchk
      clear hchk
      by_cases h6 : 6 < b.ds.length
      · have x6 : decide (6 < (b.ds.length : Int)) = true := by simp; omega
        have HL := Lib.hid h6
        clear h6
        go_wp2_with (go_at_call 105; refine hfl.mono ?_; rintro e w' ⟨rfl, rfl⟩)
        go_ret
        exact ⟨ret_int (by rw [HCH.out, if_pos HL.out]), H3.out.1⟩
      · have x6 : decide (6 < (b.ds.length : Int)) = false := by simp; omega
        have HL := Lib.hid h6
        clear h6
        obtain ⟨Ad, hAd⟩ : ∃ Ad, Ad = b.Ad := ⟨_, rfl⟩
        rw [← hAd] at c4
        have hG := H3.out.2.2.1.d
        rw [← hAd] at hG
        obtain ⟨nd, hnd⟩ : ∃ nd, nd = b.ds.length := ⟨_, rfl⟩
        rw [← hnd] at c4 hG x6 hdm
        have HND := Lib.hid hnd
        have hg3 : p < w3.heap.size := heap_lt H3.out.2.2.2
        clear hAd hnd
        go_wp2_with (go_at_call 105; refine hfl.mono ?_; rintro e w' ⟨rfl, rfl⟩)
        go_loopg [29] nd (fun g v wr => ∃ k : Nat, k + g = nd ∧ v = .int .i64 k ∧ deedsE b.l.length b.ks.length (b.ds.take k) = 0 ∧ Below w3.heap.size w3 wr)
        case atStart => exact ⟨0, by omega, rfl, rfl, Below.refl _ _⟩
        case round =>
          obtain ⟨k, hk, rfl, hall, hBr⟩ := hrel
          have HK := Lib.hid (And.intro hk (And.intro hall hBr))
          by_cases hlt : k < nd
          · obtain ⟨bi, oi, d, hA, hbi, hdk, d0, d1, d2, d3, d4, d5, d6, d7, d8, d9, d10, d11⟩ := Deeds.get (hG.below hBr (Nat.le_refl _)) hlt
            subst hA
            have HD := Lib.hid hdk
            have bz : (wr.alloc dZ).heap[wr.heap.size]? = some dZ := alloc_at rfl
            clear hk hall hBr hbi hdk
            go_upto_region 13 with ((with_reducible apply wp_storeD bz rfl); (rfl); (rfl); (rfl); (rfl); intro w5 b5 g5 z5)
            obtain ⟨gx, hgx⟩ : ∃ gx, gx = wr.heap.size := ⟨_, rfl⟩
            have hg5 : wr.grownBy w5 none := ⟨g5.os, g5.tape, g5.output, by rw [z5]; simp, fun j hj _ => (g5.block j (by simp; omega) (fun e => by cases e; omega)).trans (Below.heap_alloc _ _ _ hj)⟩
            have hB5 : Below w3.heap.size w3 w5 := HK.out.2.2.trans ((Below.refl _ _).grown hg5 HK.out.2.2.size (fun k e => by cases e))
            have hcd := checkD_any p b (-1) 0 0 d w5 (bheap H3.out.2.2.2 hB5 (Nat.le_refl _)) (H3.out.2.2.1.below hB5 (Nat.le_refl _)) HCK.out
            unfold dv at hcd
            obtain ⟨de, hde⟩ : ∃ de, de = deedE b.l.length b.ks.length d := ⟨_, rfl⟩
            rw [← hde] at hcd
            rw [← hgx] at b5 ⊢
            obtain ⟨y0, y1, y2, y3, y4, y5, y6, y7, y8, y9, y10, y11⟩ := blkD b5
            have H5 := Lib.hid hB5
            clear hgx z5 g5 hg5 hB5 bz b5 d0 d1 d2 d3 d4 d5 d6 d7 d8 d9 d10 d11
            have htk : b.ds.take (k + 1) = b.ds.take k ++ [d] := by rw [List.take_add_one, HD.out]; rfl
            have HTK := Lib.hid htk
            clear htk
            by_cases hd0 : de = 0
            · subst hd0
              have HDE := Lib.hid hde.symm
              clear hde
              go_wp2_with (go_at_call 55; refine hcd.mono ?_; rintro e w6 ⟨rfl, hb6⟩)
              go_roundg (gk - 1)
              case measure => have := HK.out.1; omega
              case rel => exact ⟨k + 1, by have := HK.out.1; omega, by go_num, by rw [HTK.out, deedsE_snoc _ _ _ _ HK.out.2.1]; exact HDE.out, H5.out.trans (hb6.mono H5.out.size)⟩
            · have xd : (de != 0) = true := by simp [hd0]
              have HD0 := Lib.hid (And.intro hd0 hde)
              clear hd0 hde
              go_wp2_with (go_at_call 55; refine hcd.mono ?_; rintro e w6 ⟨rfl, hb6⟩)
              go_ret
              refine ⟨ret_int ?_, H3.out.1.trans ((H5.out.trans (hb6.mono H5.out.size)).mono H3.out.1.size)⟩
              rw [HCH.out, if_neg HL.out, ← List.take_append_drop (k + 1) b.ds, deedsE_stop, HTK.out, deedsE_snoc _ _ _ _ HK.out.2.1]
              · exact HD0.out.2
              · rw [HTK.out, deedsE_snoc _ _ _ _ HK.out.2.1, ← HD0.out.2]; exact HD0.out.1
          · obtain rfl : k = nd := by omega
            have HE := Lib.hid (show b.chk = 0 by rw [HCH.out, if_neg HL.out]; have := HK.out.2.1; rw [HND.out, List.take_length] at this; exact this)
            have HB := Lib.hid (H3.out.1.trans (hBr.mono H3.out.1.size))
            clear hk hall hBr
            go_wp2_with fail
            go_ret
            exact ⟨ret_int HE.out.symm, HB.out⟩
    · have xf : (fe != 0) = true := by simp [hf0]
      have HF0 := Lib.hid (And.intro hf0 hfe)
      clear hf0 hfe
      go_wp2_with (go_at_call 105; refine hfl.mono ?_; rintro e w' ⟨rfl, rfl⟩)
      go_ret
      refine ⟨ret_int ?_, H3.out.1⟩
      unfold Hb.chk checkH
      rw [if_neg (by rw [HCK.out]; simp), ← HF0.out.2, if_pos HF0.out.1]
  · have xf : (ck != 0) = true := by simp [h0]
    have HF0 := Lib.hid (And.intro h0 hck)
    clear h0 hck
    go_wp2_with (go_at_call 39; refine hmk.mono ?_; rintro e w2 ⟨rfl, hb2⟩)
    go_ret
    refine ⟨ret_int ?_, HV.out.1.trans (hb2.mono HV.out.1.size)⟩
    unfold Hb.chk checkH
    rw [← HF0.out.2, if_pos HF0.out.1]

def AskedR (b : Hb) (ck : Int) (w : World) (e : Ending) (w' : World) : Prop := (ck ≠ 0 ∧ e = .returned (.tuple #[.pointer none, .int .i64 ck]) ∧ Below w.heap.size w w') ∨
      (ck = 0 ∧ ∃ p, e = .returned (.tuple #[.pointer (some ⟨p, 0, none⟩), .int .i64 0]) ∧ Work w p b (-1) 0 w' ∧ Below w.heap.size w w')
set_option maxRecDepth 100000 in
set_option maxHeartbeats 1000000 in
theorem asked_any (b : Hb) (w : World) (hin : HbIn w b) :
    Calls Try.prog 54 #[b.v] w (AskedR b b.chk w) := by
  obtain ⟨V, hV⟩ : ∃ V, V = w.alloc b.obj := ⟨_, rfl⟩
  obtain ⟨g, hg⟩ : ∃ g, g = w.heap.size := ⟨_, rfl⟩
  have b0 : V.heap[g]? = some b.obj := by rw [hV, hg]; exact alloc_at rfl
  have hBV : Below w.heap.size w V := by rw [hV]; exact bal0 w _
  have hiV := hin.below hBV (Nat.le_refl _)
  obtain ⟨c0, c1, c2, c3, c4⟩ := blk5c b0
  have hck := CheckH_any b V hiV
  unfold Hb.v at hck
  obtain ⟨ce, hce⟩ : ∃ ce, ce = b.chk := ⟨_, rfl⟩
  rw [← hce] at hck ⊢
  have HV := Lib.hid (And.intro hBV (And.intro b0 (And.intro hin (And.intro hg hce.symm))))
  unfold Hb.v
  go_enter Try.func54, Try.ntmps54
  go_upto_region 1 with (fail)
  rw [← hV, ← hg]
  clear hV hg hin hBV hiV b0 hce
  by_cases h0 : ce = 0
  · subst h0
    go_upto_region 4 with (go_at_call 89; refine hck.mono ?_; rintro e w2 ⟨rfl, hb2⟩)
    have x0 := bheap HV.out.2.1 hb2 (Nat.le_refl _)
    have hB2 := HV.out.1.trans (hb2.mono HV.out.1.size)
    clear c0 c1 c2 c3 c4 hck hb2
    obtain ⟨c0, c1, c2, c3, c4⟩ := blk5c x0
    have H2 := Lib.hid hB2
    have hbg := begin_any b w2
    unfold Hb.v at hbg
    clear x0 hB2
    go_wp2_with (go_at_call 58; refine hbg.mono ?_; rintro e w3 ⟨p, rfl, hp, hpb, hb3⟩)
    go_ret2
    have hB3 := H2.out.trans (hb3.mono H2.out.size)
    exact .inr ⟨rfl, p, rfl, ⟨HV.out.2.2.1, Nat.le_trans H2.out.size hp, hB3, ⟨_, hpb⟩, HV.out.2.2.2.2⟩, hB3⟩
  · have xf : (ce != 0) = true := by simp [h0]
    have H0 := Lib.hid h0
    clear h0
    go_wp2_with (go_at_call 89; refine hck.mono ?_; rintro e w2 ⟨rfl, hb2⟩)
    go_ret2
    exact .inl ⟨H0.out, rfl, HV.out.1.trans (hb2.mono HV.out.1.size)⟩
end Go.Proofs.Ytgnjknihgjdedaa
