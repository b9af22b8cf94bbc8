/- mestalaw03.marking: some of the chapter's examples. -/
import Derived.Test.YtoidaigiejilcaaDoorShow
import Derived.Test.YtoidaigiejilcaaDoorMay
import Derived.Test.YtoidaigiejilcaaDoorApart
import Derived.Test.YtoidaigiejilcaaDoorFresh
import Derived.Test.YtoidaigiejilcaaDoorHome3
import Derived.Test.YtoidaigiejilcaaDoorKit
namespace Go.Proofs.YtoidaigiejilcaaDoor
open Go.RowKit
set_option linter.unusedVariables false
set_option linter.unusedSimpArgs false

def RegRes (base : Nat) (t : Int) (l : List Mk) (e : Ending) (w' : World) : Prop := ∃ A c, e = .returned (.agg #[.int .i64 t, .slice A l.length c]) ∧ OwnM w' base (.slice A l.length c) l ∧ Marks w' A l.length l ∧ l.length ≤ c ∧ c ≤ maxLen

theorem register_any (w : World) : Calls Tryd.prog 15 #[] w fun e w' => RegRes w.heap.size 1 exR e w' ∧ Below w.heap.size w w' := by
  go_enter Tryd.func15, Tryd.ntmps15
  go_wp2
  refine bodyPost_ret (v := .agg #[.int .i64 1, .slice (some ⟨w.heap.size + 1, 0, none⟩) 3 3]) (by simp [results, Tryd.f15, go_sem]) rfl ⟨⟨_, 3, rfl, ?_, ?_, by decide, by decide⟩, bal (bal0 w _) (Nat.le_refl _) _⟩
  · have h := Own.lit (enc := eMk) (e := 52) (w.alloc (Obj.cells #[Value.int .i64 1, Value.slice (some ⟨w.heap.size + 1, 0, none⟩) 3 3] 26)) w.heap.size #[Value.int .i64 1, Value.int .i64 0, Value.int .i64 0, Value.int .i64 3, Value.int .i64 0, Value.int .i64 1, Value.int .i64 16, Value.int .i64 3, Value.int .i64 0] exR rfl lenMk (by simp) (by decide)
    rw [World.size_alloc] at h
    exact h
  · have h := Sl.lit (enc := eMk) (w.alloc (Obj.cells #[Value.int .i64 1, Value.slice (some ⟨w.heap.size + 1, 0, none⟩) 3 3] 26)) 52 #[Value.int .i64 1, Value.int .i64 0, Value.int .i64 0, Value.int .i64 3, Value.int .i64 0, Value.int .i64 1, Value.int .i64 16, Value.int .i64 3, Value.int .i64 0] exR rfl lenMk (by decide)
    rw [World.size_alloc] at h
    exact h
theorem half_any (w : World) : Calls Tryd.prog 17 #[] w fun e w' => e = .returned (vSg ⟨3, false, false, 0, -1⟩) ∧ Below w.heap.size w w' := by
  go_enter Tryd.func17, Tryd.ntmps17
  go_wp2
  exact bodyPost_ret (v := vSg ⟨3, false, false, 0, -1⟩) (by simp [results, Tryd.f17, go_sem, vSg]) rfl ⟨rfl, bal0 w _⟩

theorem ex_show : showS 1 exR 1 ⟨64, true, false, 0, -1⟩ = ⟨64, true, false, 0, -1⟩ ∧ showE 1 exR 1 ⟨64, true, false, 0, -1⟩ = 0 := by decide +kernel
theorem ex_may : mayE 1 exR ⟨3, false, false, 0, -1⟩ = 0 ∧ mayR 1 exR ⟨3, false, false, 0, -1⟩ = [0, 1] := by decide +kernel
theorem ex_apart : apartV 1 exR 1 2 = 3 ∧ apartE 1 exR 1 2 = 0 := by decide +kernel
theorem ex_home : homeE 1 exR [⟨3, false, false, 0, -1⟩, ⟨3, false, false, 0, -1⟩] [1, 1, 0] = 0 ∧ homeL 1 exR [⟨3, false, false, 0, -1⟩, ⟨3, false, false, 0, -1⟩] [1, 1, 0] = [0, 1] := by decide +kernel
/-- the examples' calls, with their results -/
theorem show_ex {A : Option Addr} {c : Nat} (w : World) (hl : Marks w A 3 exR) (hlc : 3 ≤ c) (hcm : c ≤ maxLen) :
    Calls Tryd.prog 14 #[.agg #[.int .i64 1, .slice A 3 c], .int .i64 1, .agg #[.int .i64 64, .bool true, .bool false, .int .i64 0, .int .i64 (-1)]] w fun e w' =>
      e = .returned (.tuple #[.agg #[.int .i64 64, .bool true, .bool false, .int .i64 0, .int .i64 (-1)], .int .i64 0]) ∧ Below w.heap.size w w' := by
  have h := Show_any 1 A 3 c exR 1 ⟨64, true, false, 0, -1⟩ w hl hlc hcm
  rw [ex_show.1, ex_show.2] at h
  exact h
theorem may_ex {A : Option Addr} {c : Nat} (w : World) (hl : Marks w A 3 exR) (hlc : 3 ≤ c) (hcm : c ≤ maxLen) :
    Calls Tryd.prog 16 #[.agg #[.int .i64 1, .slice A 3 c], .agg #[.int .i64 3, .bool false, .bool false, .int .i64 0, .int .i64 (-1)]] w fun e w' =>
      ∃ v, e = .returned (.tuple #[v, .int .i64 0]) ∧ OwnI w' w.heap.size v [0, 1] ∧ Below w.heap.size w w' := by
  have h := May_any 1 A 3 c exR ⟨3, false, false, 0, -1⟩ w hl hlc hcm
  rw [ex_may.1, ex_may.2] at h
  exact h
theorem apart_ex {A : Option Addr} {c : Nat} (w : World) (hl : Marks w A 3 exR) (hlc : 3 ≤ c) (hcm : c ≤ maxLen) :
    Calls Tryd.prog 18 #[.agg #[.int .i64 1, .slice A 3 c], .int .i64 1, .int .i64 2] w fun e w' => e = .returned (.tuple #[.int .i64 3, .int .i64 0]) ∧ Below w.heap.size w w' := by
  have h := Apart_any 1 A 3 c exR 1 2 w hl hlc hcm
  rw [ex_apart.1, ex_apart.2] at h
  exact h
theorem fresh_ex {A : Option Addr} {c : Nat} (w : World) (hl : Marks w A 3 exR) (hlc : 3 ≤ c) (hcm : c ≤ maxLen) :
    Calls Tryd.prog 19 #[.agg #[.int .i64 1, .slice A 3 c], .int .i64 2] w fun e w' => e = .returned (.tuple #[.agg #[.int .i64 12, .int .i64 1, .int .i64 2], .int .i64 0]) ∧ Below w.heap.size w w' := by
  have h := Fresh_any 1 2 A 3 c exR w hl hlc hcm
  rw [ex_fresh.1, ex_fresh.2] at h
  exact h
theorem home_ex {A : Option Addr} {c : Nat} {B : Option Addr} {cb : Nat} {D : Option Addr} {cd : Nat} (w : World) (hl : Marks w A 3 exR) (hlc : 3 ≤ c) (hcm : c ≤ maxLen) (hs : Sights w B 2 [⟨3, false, false, 0, -1⟩, ⟨3, false, false, 0, -1⟩]) (hm : Ints w D 3 [1, 1, 0]) :
    Calls Tryd.prog 20 #[.agg #[.int .i64 1, .slice A 3 c], .slice B 2 cb, .slice D 3 cd] w fun e w' => ∃ v, e = .returned (.tuple #[v, .int .i64 0]) ∧ OwnI w' w.heap.size v [0, 1] ∧ Below w.heap.size w w' := by
  have h := Home_any 1 A 3 c exR B 2 cb [⟨3, false, false, 0, -1⟩, ⟨3, false, false, 0, -1⟩] D 3 cd [1, 1, 0] w hl hlc hcm hs (by decide) hm (by decide)
  rw [ex_home.1, ex_home.2] at h
  exact h

set_option maxRecDepth 100000 in
set_option maxHeartbeats 2000000 in
theorem marking_any (w : World) : Calls Tryd.prog 5 #[] w fun e w' => e = .returned (.bool true) ∧ Below w.heap.size w w' := by
  go_enter Tryd.func5, Tryd.ntmps5
  go_wp2_with fail
  refine (register_any _).mono ?_
  rintro e w1 ⟨⟨A1, c1, rfl, _, hm1, hc1, hx1⟩, hb1⟩
  go_wp2_with fail
  refine (show_ex _ hm1 hc1 hx1).mono ?_
  rintro e w2 ⟨rfl, hb2⟩
  have hB2 := hb1.trans (hb2.mono hb1.size)
  clear hb1 hb2 hm1 hc1 hx1
  go_wp2_with fail
  have hB3 : Below w.heap.size w (w2.alloc (Obj.cells #[Value.int .i64 64, .bool true, .bool false, .int .i64 0, .int .i64 (-1)] 42)) := bal hB2 (Nat.le_refl _) _
  have b1 : (w2.alloc (Obj.cells #[Value.int .i64 64, .bool true, .bool false, .int .i64 0, .int .i64 (-1)] 42)).heap[w2.heap.size]? = some (Obj.cells #[Value.int .i64 64, .bool true, .bool false, .int .i64 0, .int .i64 (-1)] 42 (0, 0)) := alloc_at rfl
  refine (register_any _).mono ?_
  rintro e w3 ⟨⟨A2, c2, rfl, _, hm2, hc2, hx2⟩, hb3⟩
  have b13 := bheap b1 hb3 (Nat.le_refl _)
  have hB4 := hB3.trans (hb3.mono hB3.size)
  clear hb3 hB3 hB2 b1
  go_wp2_with fail
  refine (half_any _).mono ?_
  rintro e w4 ⟨rfl, hb4⟩
  have b14 := bheap b13 hb4 (Nat.le_refl _)
  have hB5 := hB4.trans (hb4.mono hB4.size)
  have hm2' := hm2.below hb4 (Nat.le_refl _)
  clear hb4 hB4 b13 hm2
  unfold vSg
  go_wp2_with fail
  refine (may_ex _ hm2' hc2 hx2).mono ?_
  rintro e w5 ⟨v5, rfl, ho5, hb5⟩
  have b15 := bheap b14 hb5 (Nat.le_refl _)
  have hB6 := hB5.trans (hb5.mono hB5.size)
  have HO5 := Lib.hid (ho5.mono (Nat.le_trans (Nat.le_of_eq rfl) hB5.size))
  clear hb5 hB5 b14 hm2' hc2 hx2 ho5
  go_wp2_with fail
  refine (register_any _).mono ?_
  rintro e w6 ⟨⟨A3, c3, rfl, _, hm3, hc3, hx3⟩, hb6⟩
  have b16 := bheap b15 hb6 (Nat.le_refl _)
  have hB7 := hB6.trans (hb6.mono hB6.size)
  have HO6 := Lib.hid (HO5.out.below hb6 (Nat.le_refl _))
  clear hb6 hB6 b15 HO5
  go_wp2_with fail
  refine (apart_ex _ hm3 hc3 hx3).mono ?_
  rintro e w7 ⟨rfl, hb7⟩
  have b17 := bheap b16 hb7 (Nat.le_refl _)
  have hB8 := hB7.trans (hb7.mono hB7.size)
  have HO7 := Lib.hid (HO6.out.below hb7 (Nat.le_refl _))
  clear hb7 hB7 b16 HO6 hm3 hc3 hx3
  go_wp2_with fail
  refine (register_any _).mono ?_
  rintro e w8 ⟨⟨A4, c4, rfl, _, hm4, hc4, hx4⟩, hb8⟩
  have b18 := bheap b17 hb8 (Nat.le_refl _)
  have hB9 := hB8.trans (hb8.mono hB8.size)
  have HO8 := Lib.hid (HO7.out.below hb8 (Nat.le_refl _))
  clear hb8 hB8 b17 HO7
  go_wp2_with fail
  refine (fresh_ex _ hm4 hc4 hx4).mono ?_
  rintro e w9 ⟨rfl, hb9⟩
  have b19 := hblk_alloc (bheap b18 hb9 (Nat.le_refl _)) (Obj.cells #[Value.int .i64 12, .int .i64 1, .int .i64 2] 52)
  have hB10 := bal (hB9.trans (hb9.mono hB9.size)) (Nat.le_refl _) (Obj.cells #[Value.int .i64 12, .int .i64 1, .int .i64 2] 52)
  have HO9 := Lib.hid ((HO8.out.below hb9 (Nat.le_refl _)).alloc (Obj.cells #[Value.int .i64 12, .int .i64 1, .int .i64 2] 52))
  have d19 : (w9.alloc (Obj.cells #[Value.int .i64 12, .int .i64 1, .int .i64 2] 52)).heap[w9.heap.size]? = some (Obj.cells #[Value.int .i64 12, .int .i64 1, .int .i64 2] 52 (0, 0)) := alloc_at rfl
  clear hb9 hB9 b18 HO8 hm4 hc4 hx4
  go_wp2_with fail
  refine (register_any _).mono ?_
  rintro e wa ⟨⟨A5, c5, rfl, _, hm5, hc5, hx5⟩, hba⟩
  have b1a := bheap b19 hba (Nat.le_refl _)
  have d1a := bheap d19 hba (Nat.le_refl _)
  have hBa := hB10.trans (hba.mono hB10.size)
  have HOa := Lib.hid (HO9.out.below hba (Nat.le_refl _))
  clear hba hB10 b19 d19 HO9
  go_wp2_with fail
  refine (half_any _).mono ?_
  rintro e wb ⟨rfl, hbb⟩
  have b1b := bheap b1a hbb (Nat.le_refl _)
  have d1b := bheap d1a hbb (Nat.le_refl _)
  have hBb := hBa.trans (hbb.mono hBa.size)
  have HOb := Lib.hid (HOa.out.below hbb (Nat.le_refl _))
  have hm5 := hm5.below hbb (Nat.le_refl _)
  clear hbb hBa b1a d1a HOa
  unfold vSg
  go_wp2_with fail
  refine (half_any _).mono ?_
  rintro e wc ⟨rfl, hbc⟩
  have b1c := bheap b1b hbc (Nat.le_refl _)
  have d1c := bheap d1b hbc (Nat.le_refl _)
  have hBc := hBb.trans (hbc.mono hBb.size)
  have HOc := Lib.hid (HOb.out.below hbc (Nat.le_refl _))
  have hm5 := hm5.below hbc (Nat.le_refl _)
  clear hbc hBb b1b d1b HOb
  unfold vSg
  go_wp2_with fail
  have hs2 : Sights (wc.alloc (Obj.cells #[Value.int .i64 3, .bool false, .bool false, .int .i64 0, .int .i64 (-1), .int .i64 3, .bool false, .bool false, .int .i64 0, .int .i64 (-1)] 42)) (some ⟨wc.heap.size, 0, none⟩) 2 [⟨3, false, false, 0, -1⟩, ⟨3, false, false, 0, -1⟩] :=
    Sl.lit (enc := eSg) wc _ _ [⟨3, false, false, 0, -1⟩, ⟨3, false, false, 0, -1⟩] rfl lenSg (by decide)
  have hi3 := ints3 (wc.alloc (Obj.cells #[Value.int .i64 3, .bool false, .bool false, .int .i64 0, .int .i64 (-1), .int .i64 3, .bool false, .bool false, .int .i64 0, .int .i64 (-1)] 42)) 3 1 1 0
  rw [World.size_alloc] at hi3
  refine (home_ex _ ((hm5.alloc _).alloc _) hc5 hx5 (hs2.alloc _) hi3).mono ?_
  rintro e wd ⟨v9, rfl, ho9, hbd⟩
  have b1d := bheap (hblk_alloc (hblk_alloc b1c _) _) hbd (Nat.le_refl _)
  have d1d := bheap (hblk_alloc (hblk_alloc d1c _) _) hbd (Nat.le_refl _)
  have hBd := (bal (bal hBc (Nat.le_refl _) _) (Nat.le_refl _) _).trans (hbd.mono (by have := hBc.size; simp; omega))
  have HOd := Lib.hid (And.intro (((HOc.out.alloc _).alloc _).below hbd (Nat.le_refl _)) ho9)
  clear hbd hBc b1c d1c HOc hs2 hi3 hm5 hc5 hx5 ho9
  obtain ⟨Av, cv, rfl, hv5, hcv, hmv⟩ := HOd.out.1.form lenInt
  obtain ⟨Aw, cw, rfl, hv9, hcw, hmw⟩ := HOd.out.2.form lenInt
  have HV := Lib.hid (And.intro hv5 hv9)
  have HB := Lib.hid hBd
  have hzd := hBd.size
  clear hv5 hv9 HOd hcv hcw hmv hmw hBd
  obtain ⟨p0, p1, p2, p3, p4⟩ := blk5 b1d
  obtain ⟨q0, q1, q2⟩ := blk3 d1d
  clear b1d d1d
  go_wp2_with fail
  refine (sameInts_any Av 2 cv [0, 1] (some ⟨wd.heap.size, 0, none⟩) 2 2 [0, 1] _ (HV.out.1.alloc _) (ints2 _ _ _ _) (by decide) (by decide)).mono ?_
  rintro e we ⟨rfl, hbe⟩
  have hs1 : sameL ([0, 1] : List Int) [0, 1] = true := by decide
  rw [hs1]
  clear hs1
  go_wp2_with fail
  refine (sameInts_any Aw 2 cw [0, 1] (some ⟨we.heap.size, 0, none⟩) 2 2 [0, 1] _ ((HV.out.2.below ((bal0 wd _).trans (hbe.mono (by simp))) (Nat.le_refl _)).alloc _) (ints2 _ _ _ _) (by decide) (by decide)).mono ?_
  rintro e wf ⟨rfl, hbf⟩
  have hs1 : sameL ([0, 1] : List Int) [0, 1] = true := by decide
  rw [hs1]
  clear hs1
  have hBf : Below w.heap.size w wf := ((bal ((bal HB.out (Nat.le_refl _) _).trans (hbe.mono (by simp; omega))) (Nat.le_refl _) _)).trans (hbf.mono (by have := hbe.size; simp at this ⊢; omega))
  go_wp2
  go_ret
  exact ⟨rfl, hBf⟩
end Go.Proofs.YtoidaigiejilcaaDoor
