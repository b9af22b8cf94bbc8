/- mestaref03.Read: a register read from its text, the reference. -/
import Derived.Test.YtoidaigiejilcaaDoorRefL
import Derived.Test.YtoidaigiejilcaaDoorRefM
import Derived.Test.YtoidaigiejilcaaDoorReadB
namespace Go.Proofs.YtoidaigiejilcaaDoor
open Go.RowKit
set_option linter.unusedVariables false
set_option linter.unusedSimpArgs false

theorem readL_bad {s : List UInt8} {k : Nat} (hs : ¬ 120 < s.length) (h : rdOk s = none ∧ rdLn s = k) : readL s = ⟨0, [], k, 2⟩ := by
  unfold readL; rw [if_neg hs, h.1, h.2]
theorem readL_chk {s : List UInt8} {st : Rd} (hs : ¬ 120 < s.length) (h : rdOk s = some st) (hc : check st.t st.l ≠ 0) : readL s = ⟨0, [], 0, check st.t st.l⟩ := by
  unfold readL; rw [if_neg hs, h]; exact if_pos hc
theorem readL_good {s : List UInt8} {st : Rd} (hs : ¬ 120 < s.length) (h : rdOk s = some st) (hc : check st.t st.l = 0) : readL s = ⟨st.t, st.l, 0, 0⟩ := by
  unfold readL; rw [if_neg hs, h]; exact if_neg (fun h => h hc)
theorem ReadOut.zero {R : Rr} {w' : World} {ln er : Int} {n : Nat} (h : R = ⟨0, [], n, er⟩) (hn : ln = n) : ReadOut R (.returned (.tuple #[.agg #[.int .i64 0, .slice none 0 0], .int .i64 ln, .int .i64 er])) w' := by
  rw [h, hn]; exact ⟨none, 0, rfl, Sl.nil_, Nat.le_refl _, Nat.zero_le _⟩

/-- the tests of the first line -/
theorem tears_yes {s : ByteArray} {d : UInt8} (h : s.data.toList = tearsL ++ [d]) : s.size = 7 ∧ (s.extract 0 6).toList = [116, 101, 97, 114, 115, 32] ∧ ∀ g : 6 < s.size, s[6]'g = d := by
  refine ⟨by rw [Lib.size_eq, h]; rfl, ?_, fun g => ?_⟩
  · rw [Lib.toList_data, Lib.extract_data, h]; rfl
  · rw [← getB g, h]; rfl
theorem tears_no {s : ByteArray} (h : loneL s.data.toList tearsL < 0) (h7 : s.size = 7) (hp : (s.extract 0 6).toList = [116, 101, 97, 114, 115, 32]) (g : 6 < s.size) : digI (s[6]'g) < 0 := by
  rw [digI_ge]
  cases hd : isDg (s[6]'g) with
  | false => rfl
  | true =>
    exfalso
    have e : s.data.toList = tearsL ++ [s[6]'g] := by
      have h1 : s.data.toList.take 6 = tearsL := by
        rw [Lib.toList_data, Lib.extract_data] at hp
        unfold tearsL
        simpa using hp
      have hl := Lib.size_eq s
      have h2 : s.data.toList.drop 6 = [s[6]'g] := by
        rw [List.drop_eq_getElem_cons (by omega), List.drop_eq_nil_of_le (by omega)]
        have := getB g
        rw [List.getD_eq_getElem?_getD, List.getElem?_eq_getElem (by omega)] at this
        rw [← this]; rfl
      rw [← List.take_append_drop 6 s.data.toList, h1, h2]
    rw [e, loneL_of _ _ hd] at h
    have := dgI_lo hd
    omega

set_option maxRecDepth 100000 in
set_option maxHeartbeats 4000000 in
theorem rRead (s : ByteArray) (w : World) (hs : s.size ≤ 9223372036854775807) :
    Calls Tryd.prog 13 #[.string s] w fun e w' => ReadOut (readL s.data.toList) e w' ∧ Below w.heap.size w w' := by
  have hsz := Lib.size_eq s
  by_cases hlong : 120 < s.size
  · have hR : readL s.data.toList = ⟨0, [], 0, 10⟩ := by unfold readL; rw [if_pos (by omega)]
    rw [hR]
    have hl : (120 : Int) < (s.size : Int) := by omega
    clear hR hsz hlong
    go_enter Tryd.func13, Tryd.ntmps13
    go_wp2
    exact bodyPost_ret (v := .tuple #[.agg #[.int .i64 0, .slice none 0 0], .int .i64 0, .int .i64 10]) (by simp [results, Tryd.f13, go_sem]) rfl ⟨⟨none, 0, rfl, Sl.nil_, Nat.le_refl _, Nat.zero_le _⟩, bal0 w _⟩
  · have hl : ¬ (120 : Int) < (s.size : Int) := by omega
    have hs' : s.size ≤ 4294967290 := by omega
    have HLG := Lib.hid (And.intro (show ¬ 120 < s.data.toList.length by omega) hsz)
    clear hsz hs hlong
    have hb0 : Below w.heap.size w (w.alloc (Obj.cells #[Value.int .i64 0, Value.slice none 0 0] 26)) := bal0 w _
    have hblk : (w.alloc (Obj.cells #[Value.int .i64 0, Value.slice none 0 0] 26)).heap[w.heap.size]? = some (Obj.cells #[Value.int .i64 0, Value.slice none 0 0] 26 (0, 0)) := alloc_at rfl
    have H0 := Lib.hid (And.intro hb0 hblk)
    clear hb0 hblk
    go_enter Tryd.func13, Tryd.ntmps13
    go_upto_region 4 with (go_at_call 35; refine (rLines s _ hs').mono ?_; rintro e w1 ⟨A, c, ps, rfl, hdat, hown, hb1⟩)
    have hcu : Cutting s.data.toList ps := ⟨hdat, by have h1 := congrArg List.length hdat; rw [List.length_map] at h1; have h2 := cutL_ne 10 s.data.toList; exact Nat.pos_of_ne_zero fun h => h2 (List.eq_nil_of_length_eq_zero (h1.symm.trans h))⟩
    obtain ⟨n, hnp⟩ : ∃ n, ps.length = n + 1 := ⟨ps.length - 1, by have := hcu.pos; omega⟩
    have hcl := cut_len 10 s.data.toList
    have hn : n ≤ 4294967290 := by have := hcu.len; have := HLG.out.2; omega
    obtain ⟨hsl, hlc, hcm⟩ := hown.sl lenStr
    obtain ⟨bL, oL, hA, hcs⟩ : ∃ b off, A = some ⟨b, off, none⟩ ∧ ∀ k (hk : k < ps.length), w1.cell? ⟨b, off + k, none⟩ = some (.string (ps[k]'hk)) := by
      obtain ⟨bb, oo, hA, hc⟩ := hsl.2 (by omega)
      refine ⟨bb, oo, hA, fun k hk => ?_⟩
      have := hc k (ps[k]'hk) (List.getElem?_eq_getElem hk) 0 (.string (ps[k]'hk)) rfl
      simpa using this
    have hbL : w.heap.size < bL ∧ bL < w1.heap.size := by
      have h1 := hown.lt bL (by rw [hA]; rfl)
      simp at h1
      omega
    subst hA
    have hB1 := H0.out.1.trans (hb1.mono H0.out.1.size)
    have hq1 := bheap H0.out.2 hb1 (Nat.le_refl _)
    rw [hnp]
    have k2 : wrap64 ((n : Int) + 1 - 1) = n := by rw [IntWalk.wrap64_in _ (by omega)]; omega
    have HCU := Lib.hid (And.intro hcu hnp)
    clear hdat hown hb1 hsl hcl hcu H0 hlc hcm hnp
    go_upto_region 5 with (fail)
    obtain ⟨W, hW⟩ : ∃ W, W = w1.alloc (Obj.cells #[Value.int .i64 0, Value.slice none 0 0] 26) := ⟨_, rfl⟩
    have b0 : W.heap[w.heap.size]? = some (Obj.cells #[Value.int .i64 0, Value.slice none 0 0] 26 (0, 0)) := by rw [hW]; exact hblk_alloc hq1 _
    have b1 : W.heap[w1.heap.size]? = some (Obj.cells #[Value.int .i64 0, Value.slice none 0 0] 26 (0, 0)) := by rw [hW]; exact alloc_at rfl
    have hBW : Below w.heap.size w W := by rw [hW]; exact bal hB1 (Nat.le_refl _) _
    have hcW : ∀ k (hk : k < ps.length), W.cell? ⟨bL, oL + k, none⟩ = some (.string (ps[k]'hk)) := fun k hk => by rw [hW]; exact (cell_heap (Below.heap_alloc w1 _ bL hbL.2) _).trans (hcs k hk)
    have hszW : W.heap.size = w1.heap.size + 1 := by rw [hW]; simp
    rw [← hW]
    clear hW hB1 hq1 hcs
    obtain ⟨r1, hr1⟩ : ∃ r, r = w1.heap.size := ⟨_, rfl⟩
    obtain ⟨r0, hr0⟩ : ∃ r, r = w.heap.size := ⟨_, rfl⟩
    have HR0 := Lib.hid hr0
    have h01 : r0 < r1 := by omega
    rw [← hr1] at b1 hbL hszW ⊢
    rw [← hr0] at b0 hbL hBW ⊢
    have hbl1 : bL ≠ r1 := by omega
    have HBL := Lib.hid (show bL < r1 by omega)
    have hbl0 : bL ≠ r0 := by omega
    have HW := Lib.hid (And.intro b0 (And.intro b1 (And.intro hBW (And.intro hcW hszW))))
    have HNE := Lib.hid (And.intro hbl1 (And.intro hbl0 h01))
    clear hr1 hr0 b0 b1 hBW hcW hszW hbL hbl1 hbl0
    go_wp2_with fail
    go_loopg [7, 8] n (fun g en i wr => ∃ (k : Nat) (st : Rd) (v : Value), k + g = n ∧ i = .int .i64 k ∧ en = .bool st.e ∧ rdTo (cutL 10 s.data.toList) k = some st ∧ st.l.length ≤ k ∧ wr.heap[r1]? = some (Obj.cells #[Value.int .i64 st.t, v] 26 (0, 0)) ∧ OwnM wr (r1 + 1) v st.l ∧ wr.heap[r0]? = some (Obj.cells #[Value.int .i64 0, Value.slice none 0 0] 26 (0, 0)) ∧ (∀ k (hk : k < ps.length), wr.cell? ⟨bL, oL + k, none⟩ = some (.string (ps[k]'hk))) ∧ Below r0 w wr)
    case atStart => exact ⟨0, ⟨0, [], false⟩, _, by omega, rfl, rfl, rfl, Nat.le_refl _, HW.out.2.1, Own.nil_, HW.out.1, HW.out.2.2.2.1, HW.out.2.2.1⟩
    case round =>
      obtain ⟨k, st, v, hk, rfl, rfl, hrd, hlk, hr, hown, hz0, hcs, hB⟩ := hrel
      have HK := Lib.hid (And.intro hk hlk)
      obtain ⟨A', c', rfl, hsl, hlc, hcm⟩ := hown.form lenMk
      by_cases hlt : k < n
      · have hkp : k < ps.length := by have := HCU.out.2; omega
        obtain ⟨line, hline⟩ : ∃ x, x = ps[k]'hkp := ⟨_, rfl⟩
        have HLI := Lib.hid (⟨hkp, hline⟩ : ∃ h : k < ps.length, line = ps[k]'h)
        have hcell : wr.cell? ⟨bL, oL + k, none⟩ = some (.string line) := by rw [hline]; exact hcs k hkp
        have i0 : (0 : Int) ≤ (k : Int) := by omega
        have i1 : (k : Int) < (n : Int) := by omega
        have i2 : wrap64 ((k : Int) + 1) = (k : Int) + 1 := IntWalk.wrap64_in _ (by omega)
        have HX := Lib.hid (And.intro hrd (And.intro hr (And.intro hown (And.intro hz0 (And.intro hcs hB)))))
        have gb := cell_lt hcell
        have gr := heap_lt hr
        have g0 := heap_lt hz0
        clear hrd hr hown hz0 hcs hB hlk hkp hline hk hsl
        go_upto_region 11 with (go_at_call 36; refine (rToMark line _).mono ?_; rintro e w3 ⟨hmo, hb3⟩; obtain ⟨m, rfl, hmk⟩ := hmo; have HM := Lib.hid (And.intro hmk hb3); clear hmk hb3; unfold vMk)
        obtain ⟨bm, hbm⟩ : ∃ b, b = (markL line.data.toList).isSome := ⟨_, rfl⟩
        have HBM := Lib.hid hbm
        rw [← hbm]
        clear hbm
        obtain ⟨W3, hW⟩ : ∃ W3, W3 = w3.alloc (Obj.cells #[Value.int .i64 m.n, .int .i64 m.b, .int .i64 m.p] 52) := ⟨_, rfl⟩
        have hb3 : Below wr.heap.size wr W3 := by rw [hW]; exact bal HM.out.2 (Nat.le_refl _) _
        have bm3 : W3.heap[w3.heap.size]? = some (Obj.cells #[Value.int .i64 m.n, .int .i64 m.b, .int .i64 m.p] 52 (0, 0)) := by rw [hW]; exact alloc_at rfl
        have hM3 : wr.heap.size ≤ w3.heap.size := HM.out.2.size
        rw [← hW]
        clear hW hcell
        obtain ⟨M3, hM⟩ : ∃ M, M = w3.heap.size := ⟨_, rfl⟩
        rw [← hM] at bm3 hM3 ⊢
        clear hM
        have hcs3 : ∀ k (hk : k < ps.length), W3.cell? ⟨bL, oL + k, none⟩ = some (.string (ps[k]'hk)) := fun k hk => bcell (HX.out.2.2.2.2.1 k hk) hb3 (Nat.le_refl _)
        have hcell : W3.cell? ⟨bL, oL + k, none⟩ = some (.string line) := by obtain ⟨h1, h2⟩ := HLI.out; rw [h2]; exact hcs3 k h1
        have hr3 := bheap HX.out.2.1 hb3 (Nat.le_refl _)
        have hz3 := bheap HX.out.2.2.2.1 hb3 (Nat.le_refl _)
        have hown3 := HX.out.2.2.1.below hb3 (Nat.le_refl _)
        have hB3 := HX.out.2.2.2.2.2.trans (hb3.mono (by omega : r0 ≤ wr.heap.size))
        have hsz3 := hb3.size
        obtain ⟨q0, q1⟩ := blk2 hr3
        obtain ⟨f0, f1⟩ := And.intro (frz hr3 0) (frz hr3 1)
        obtain ⟨y0, y1⟩ := blk2 hz3
        obtain ⟨e0, e1⟩ := And.intro (frz hz3 0) (frz hz3 1)
        obtain ⟨m0, m1, m2⟩ := blk3 bm3
        have gr3 := heap_lt hr3
        have gM3 := heap_lt bm3
        have H3 := Lib.hid (And.intro hr3 (And.intro hz3 (And.intro hown3 (And.intro hB3 (And.intro hcs3 (And.intro hsz3 hM3))))))
        clear hr3 hz3 hown3 hB3 hcs3 hb3 bm3
        obtain ⟨t, l, en⟩ := st
        by_cases hk0 : k = 0
        · obtain ⟨lv, hlv⟩ : ∃ x, x = loneL line.data.toList tearsL := ⟨_, rfl⟩
          have hst : (⟨t, l, en⟩ : Rd) = ⟨0, [], false⟩ := by
            have := HX.out.1
            rw [hk0] at this
            injection this with h
            exact h.symm
          injection hst with hs1 hs2 hs3
          subst hs3
          have x0 : ((k : Int) == 0) = true := beq_iff_eq.2 (by omega)
          have x1 : ¬ (0 : Int) < (k : Int) := by omega
          by_cases hneg : lv < 0
          · have hbad := bad_line HCU.out.1 (k := k) (st := ⟨t, l, false⟩) (by have := HCU.out.2; omega) HX.out.1 (by
              obtain ⟨hkp, hl⟩ := HLI.out
              rw [← hl]
              unfold rdStep
              rw [if_neg (by simp), if_pos hk0, ← hlv, if_neg (by omega)])
            have HBD := Lib.hid (readL_bad HLG.out.1 hbad)
            have HNO := Lib.hid (fun h7 hp g => tears_no (s := line) (by rw [← hlv]; exact hneg) h7 hp g)
            clear hbad hk0 hlv hneg hs1 hs2
            by_cases h7 : line.size = 7
            · have c7 : ((line.size : Int) == 7) = true := beq_iff_eq.2 (by omega)
              have g6 : 6 < line.size := by omega
              have g6' : 6 ≤ line.size := by omega
              by_cases hp : (line.extract 0 6).toList = [116, 101, 97, 114, 115, 32]
              · have hd : digI (line[6]'g6) < 0 := HNO.out h7 hp g6
                have hd' : ¬ 0 ≤ digI (line[6]'g6) := by omega
                have hdig := fun w' => rDigit (line[6]'g6) w'
                clear h7 hd
                generalize digI (line[6]'g6) = dv at hdig hd'
                go_wp2_with (first | (go_at_call 37; refine (hdig _).mono ?_; rintro e w' ⟨rfl, hw⟩; rw [hw]; clear hw))
                have hz : ((W3.setCell ⟨r0, 0, none⟩ (.int .i64 0)).setCell ⟨r0, 1, none⟩ (.slice none 0 0)).heap[r0]? = some (Obj.cells #[Value.int .i64 0, Value.slice none 0 0] 26 (0, 0)) := set_blk (set_blk H3.out.2.1)
                have hbz : Below r0 w ((W3.setCell ⟨r0, 0, none⟩ (.int .i64 0)).setCell ⟨r0, 1, none⟩ (.slice none 0 0)) := Below.setCell (Below.setCell H3.out.2.2.2.1 (p := ⟨r0, 0, none⟩) (Nat.le_refl _) _) (p := ⟨r0, 1, none⟩) (Nat.le_refl _) _
                have HBZ := Lib.hid hbz
                generalize ((W3.setCell ⟨r0, 0, none⟩ (.int .i64 0)).setCell ⟨r0, 1, none⟩ (.slice none 0 0)) = Z at hz HBZ ⊢
                clear hbz y0 y1 e0 e1 q0 q1 f0 f1 m0 m1 m2 hcell
                obtain ⟨y0, y1⟩ := blk2 hz
                exact bodyPost_ret (v := .tuple #[.agg #[.int .i64 0, .slice none 0 0], .int .i64 ((k : Int) + 1), .int .i64 2]) (by simp [results, Tryd.f13, go_sem, y0, y1]) rfl ⟨ReadOut.zero HBD.out (by simp), by rw [← HR0.out]; exact HBZ.out⟩
              · clear h7
                go_wp2_with fail
                have hz : ((W3.setCell ⟨r0, 0, none⟩ (.int .i64 0)).setCell ⟨r0, 1, none⟩ (.slice none 0 0)).heap[r0]? = some (Obj.cells #[Value.int .i64 0, Value.slice none 0 0] 26 (0, 0)) := set_blk (set_blk H3.out.2.1)
                have hbz : Below r0 w ((W3.setCell ⟨r0, 0, none⟩ (.int .i64 0)).setCell ⟨r0, 1, none⟩ (.slice none 0 0)) := Below.setCell (Below.setCell H3.out.2.2.2.1 (p := ⟨r0, 0, none⟩) (Nat.le_refl _) _) (p := ⟨r0, 1, none⟩) (Nat.le_refl _) _
                have HBZ := Lib.hid hbz
                generalize ((W3.setCell ⟨r0, 0, none⟩ (.int .i64 0)).setCell ⟨r0, 1, none⟩ (.slice none 0 0)) = Z at hz HBZ ⊢
                clear hbz y0 y1 e0 e1 q0 q1 f0 f1 m0 m1 m2 hcell
                obtain ⟨y0, y1⟩ := blk2 hz
                exact bodyPost_ret (v := .tuple #[.agg #[.int .i64 0, .slice none 0 0], .int .i64 ((k : Int) + 1), .int .i64 2]) (by simp [results, Tryd.f13, go_sem, y0, y1]) rfl ⟨ReadOut.zero HBD.out (by simp), by rw [← HR0.out]; exact HBZ.out⟩
            · have c7 : ((line.size : Int) == 7) = false := beq_eq_false_iff_ne.2 (by omega)
              clear h7
              go_wp2_with fail
              have hz : ((W3.setCell ⟨r0, 0, none⟩ (.int .i64 0)).setCell ⟨r0, 1, none⟩ (.slice none 0 0)).heap[r0]? = some (Obj.cells #[Value.int .i64 0, Value.slice none 0 0] 26 (0, 0)) := set_blk (set_blk H3.out.2.1)
              have hbz : Below r0 w ((W3.setCell ⟨r0, 0, none⟩ (.int .i64 0)).setCell ⟨r0, 1, none⟩ (.slice none 0 0)) := Below.setCell (Below.setCell H3.out.2.2.2.1 (p := ⟨r0, 0, none⟩) (Nat.le_refl _) _) (p := ⟨r0, 1, none⟩) (Nat.le_refl _) _
              have HBZ := Lib.hid hbz
              generalize ((W3.setCell ⟨r0, 0, none⟩ (.int .i64 0)).setCell ⟨r0, 1, none⟩ (.slice none 0 0)) = Z at hz HBZ ⊢
              clear hbz y0 y1 e0 e1 q0 q1 f0 f1 m0 m1 m2 hcell
              obtain ⟨y0, y1⟩ := blk2 hz
              exact bodyPost_ret (v := .tuple #[.agg #[.int .i64 0, .slice none 0 0], .int .i64 ((k : Int) + 1), .int .i64 2]) (by simp [results, Tryd.f13, go_sem, y0, y1]) rfl ⟨ReadOut.zero HBD.out (by simp), by rw [← HR0.out]; exact HBZ.out⟩
          · have hnext := next_line HCU.out.1 (k := k) (st := ⟨t, l, false⟩) (st' := ⟨lv, l, false⟩) (by have := HCU.out.2; omega) HX.out.1 (by
              obtain ⟨hkp, hl⟩ := HLI.out
              rw [← hl]
              unfold rdStep
              rw [if_neg (by simp), if_pos hk0, ← hlv, if_pos (by omega)])
            have HBD := Lib.hid hnext
            obtain ⟨d, hd1, hd2, hd3⟩ := loneL_ge (s := line.data.toList) (h := tearsL) (by omega)
            obtain ⟨h7, hp, hg⟩ := tears_yes hd1
            have c7 : ((line.size : Int) == 7) = true := beq_iff_eq.2 (by omega)
            have g6 : 6 < line.size := by omega
            have g6' : 6 ≤ line.size := by omega
            have hdv : digI (line[6]'g6) = lv := by rw [hg g6, digI_yes hd2, hlv, hd3]
            have hdig := fun w' => rDigit (line[6]'g6) w'
            rw [hdv] at hdig
            have hd' : 0 ≤ lv := by omega
            clear hnext hk0 hlv hneg hs1 hs2 h7 hd1 hd2 hd3 hg hdv
            go_wp2_with (first | (go_at_call 37; refine (hdig _).mono ?_; rintro e w' ⟨rfl, hw⟩; rw [hw]; clear hw))
            have hfar : ∀ j, j ≠ r1 → (W3.setCell ⟨r1, 0, none⟩ (.int .i64 lv)).heap[j]? = W3.heap[j]? := fun j hj => Below.heap_setCell _ ⟨r1, 0, none⟩ _ _ hj
            go_roundg (gk - 1)
            case measure => have := HK.out.1; omega
            case rel => exact ⟨k + 1, ⟨lv, l, false⟩, _, by have := HK.out.1; omega, by go_num, rfl, HBD.out, by have := HK.out.2; dsimp at this ⊢; omega, set_blk H3.out.1, H3.out.2.2.1.upon (fun j hj => hfar j (by omega)), (hfar _ (by have := HNE.out.2.2; omega)).trans H3.out.2.1, fun j hj => (cell_heap (hfar _ HNE.out.1) _).trans (H3.out.2.2.2.2.1 j hj), Below.setCell H3.out.2.2.2.1 (p := ⟨r1, 0, none⟩) (by have := HNE.out.2.2; dsimp; omega) _⟩
        · have x0 : ((k : Int) == 0) = false := beq_eq_false_iff_ne.2 (by omega)
          have x1 : (0 : Int) < (k : Int) := by omega
          cases en with
          | true =>
            have hbad := bad_line HCU.out.1 (k := k) (st := ⟨t, l, true⟩) (by have := HCU.out.2; omega) HX.out.1 rfl
            have HBD := Lib.hid (readL_bad HLG.out.1 hbad)
            clear hbad hk0
            go_wp2_with fail
            have hz : ((W3.setCell ⟨r0, 0, none⟩ (.int .i64 0)).setCell ⟨r0, 1, none⟩ (.slice none 0 0)).heap[r0]? = some (Obj.cells #[Value.int .i64 0, Value.slice none 0 0] 26 (0, 0)) := set_blk (set_blk H3.out.2.1)
            have hbz : Below r0 w ((W3.setCell ⟨r0, 0, none⟩ (.int .i64 0)).setCell ⟨r0, 1, none⟩ (.slice none 0 0)) := Below.setCell (Below.setCell H3.out.2.2.2.1 (p := ⟨r0, 0, none⟩) (Nat.le_refl _) _) (p := ⟨r0, 1, none⟩) (Nat.le_refl _) _
            have HBZ := Lib.hid hbz
            generalize ((W3.setCell ⟨r0, 0, none⟩ (.int .i64 0)).setCell ⟨r0, 1, none⟩ (.slice none 0 0)) = Z at hz HBZ ⊢
            clear hbz y0 y1 e0 e1 q0 q1 f0 f1 m0 m1 m2 hcell
            obtain ⟨y0, y1⟩ := blk2 hz
            exact bodyPost_ret (v := .tuple #[.agg #[.int .i64 0, .slice none 0 0], .int .i64 ((k : Int) + 1), .int .i64 2]) (by simp [results, Tryd.f13, go_sem, y0, y1]) rfl ⟨ReadOut.zero HBD.out (by simp), by rw [← HR0.out]; exact HBZ.out⟩
          | false =>
            have hle : line.toList = [109, 97, 114, 107, 115, 32, 101, 110, 100] ↔ line.data.toList = endL := by rw [Lib.toList_data]; exact Iff.rfl
            by_cases hend : line.toList = [109, 97, 114, 107, 115, 32, 101, 110, 100]
            · have hnext := next_line HCU.out.1 (k := k) (st := ⟨t, l, false⟩) (st' := ⟨t, l, true⟩) (by have := HCU.out.2; omega) HX.out.1 (by
                obtain ⟨hkp, hl⟩ := HLI.out
                rw [← hl]
                unfold rdStep
                rw [if_neg (by simp), if_neg hk0, if_pos (hle.1 hend)])
              have HBD := Lib.hid hnext
              clear hnext hk0 hle
              go_wp2_with fail
              go_roundg (gk - 1)
              case measure => have := HK.out.1; omega
              case rel => exact ⟨k + 1, ⟨t, l, true⟩, _, by have := HK.out.1; omega, by go_num, rfl, HBD.out, by have := HK.out.2; dsimp at this ⊢; omega, H3.out.1, H3.out.2.2.1, H3.out.2.1, H3.out.2.2.2.2.1, H3.out.2.2.2.1⟩
            · have hne : ¬ line.data.toList = endL := fun h => hend (hle.2 h)
              have hendb : (line.toList == [109, 97, 114, 107, 115, 32, 101, 110, 100]) = false := beq_eq_false_iff_ne.2 hend
              cases hmk : markL line.data.toList with
              | none =>
                have hbad := bad_line HCU.out.1 (k := k) (st := ⟨t, l, false⟩) (by have := HCU.out.2; omega) HX.out.1 (by
                  obtain ⟨hkp, hl⟩ := HLI.out
                  rw [← hl]
                  unfold rdStep
                  rw [if_neg (by simp), if_neg hk0, if_neg hne, hmk])
                have HBD := Lib.hid (readL_bad HLG.out.1 hbad)
                obtain rfl : bm = false := by rw [HBM.out, hmk]; rfl
                clear hbad hk0 hle hne hmk
                go_wp2_with fail
                have hz : ((W3.setCell ⟨r0, 0, none⟩ (.int .i64 0)).setCell ⟨r0, 1, none⟩ (.slice none 0 0)).heap[r0]? = some (Obj.cells #[Value.int .i64 0, Value.slice none 0 0] 26 (0, 0)) := set_blk (set_blk H3.out.2.1)
                have hbz : Below r0 w ((W3.setCell ⟨r0, 0, none⟩ (.int .i64 0)).setCell ⟨r0, 1, none⟩ (.slice none 0 0)) := Below.setCell (Below.setCell H3.out.2.2.2.1 (p := ⟨r0, 0, none⟩) (Nat.le_refl _) _) (p := ⟨r0, 1, none⟩) (Nat.le_refl _) _
                have HBZ := Lib.hid hbz
                generalize ((W3.setCell ⟨r0, 0, none⟩ (.int .i64 0)).setCell ⟨r0, 1, none⟩ (.slice none 0 0)) = Z at hz HBZ ⊢
                clear hbz y0 y1 e0 e1 q0 q1 f0 f1 m0 m1 m2 hcell
                obtain ⟨y0, y1⟩ := blk2 hz
                exact bodyPost_ret (v := .tuple #[.agg #[.int .i64 0, .slice none 0 0], .int .i64 ((k : Int) + 1), .int .i64 2]) (by simp [results, Tryd.f13, go_sem, y0, y1]) rfl ⟨ReadOut.zero HBD.out (by simp), by rw [← HR0.out]; exact HBZ.out⟩
              | some m' =>
                obtain rfl : m = m' := HM.out.1 m' hmk
                have hnext := next_line HCU.out.1 (k := k) (st := ⟨t, l, false⟩) (st' := ⟨t, l ++ [m], false⟩) (by have := HCU.out.2; omega) HX.out.1 (by
                  obtain ⟨hkp, hl⟩ := HLI.out
                  rw [← hl]
                  unfold rdStep
                  rw [if_neg (by simp), if_neg hk0, if_neg hne, hmk])
                have HBD := Lib.hid hnext
                obtain rfl : bm = true := by rw [HBM.out, hmk]; rfl
                clear hnext hk0 hle hne hmk
                have hll : l.length < 4294967296 := by have h1 := HK.out.1; have h2 : l.length ≤ k := HK.out.2; omega
                have hrb : r1 + 1 ≤ W3.heap.size := by omega
                go_wp2_with (at_builtin; refine wp_appx okMark rfl (.tmp 96) (.tmp 98) rfl (r1 + 1) (Value.slice A' l.length c') l m _ rfl rfl rfl rfl (one_eMk _) H3.out.2.2.1 hll ?_ ?_ ?_; (omega); (omega); intro g5 c5 w5 hown5 hgr5 hb5; have bq5 := (hgr5.block _ gr3 (fun e => by have := H3.out.2.2.1.lt _ e.symm; omega)).trans H3.out.1; have q5 := (blk2 bq5).2; have f5 := frz bq5 1; have H5 := Lib.hid (And.intro hown5 (And.intro hgr5 (And.intro hb5 bq5))); clear hown5 hgr5 hb5 bq5)
                obtain ⟨hown5, hgr5, hb5, bq5⟩ := H5.out
                have hfar : ∀ j, j ≠ r1 → (w5.setCell ⟨r1, 1, none⟩ (.slice (some ⟨g5, 0, none⟩) (l.length + 1) c5)).heap[j]? = w5.heap[j]? := fun j hj => Below.heap_setCell _ ⟨r1, 1, none⟩ _ _ hj
                have hz5 := (hgr5.block _ (heap_lt H3.out.2.1) (fun e => by have := H3.out.2.2.1.lt _ e.symm; have := HNE.out.2.2; omega)).trans H3.out.2.1
                have hl5 : w5.heap[bL]? = W3.heap[bL]? := hgr5.block _ (by have := H3.out.2.2.2.2.2.1; omega) (fun e => by have := H3.out.2.2.1.lt _ e.symm; have := HBL.out; omega)
                go_roundg (gk - 1)
                case measure => have := HK.out.1; omega
                case rel => exact ⟨k + 1, ⟨t, l ++ [m], false⟩, _, by have := HK.out.1; omega, by go_num, rfl, HBD.out, by have := HK.out.2; simp at this ⊢; omega, set2_1 bq5, hown5.upon (fun j hj => hfar j (by omega)), (hfar _ (by have := HNE.out.2.2; omega)).trans hz5, fun j hj => (cell_heap ((hfar _ HNE.out.1).trans hl5) _).trans (H3.out.2.2.2.2.1 j hj), Below.setCell (H3.out.2.2.2.1.trans (hb5.mono (by have := HNE.out.2.2; omega))) (p := ⟨r1, 1, none⟩) (by have := HNE.out.2.2; dsimp; omega) _⟩
      · obtain rfl : k = n := by omega
        have hkp : k < ps.length := by have := HCU.out.2; omega
        obtain ⟨line, hline⟩ : ∃ x, x = ps[k]'hkp := ⟨_, rfl⟩
        have HLI := Lib.hid (⟨hkp, hline⟩ : ∃ h : k < ps.length, line = ps[k]'h)
        have hcell : wr.cell? ⟨bL, oL + k, none⟩ = some (.string line) := by rw [hline]; exact hcs k hkp
        have i3 : (0 : Int) ≤ (k : Int) := by omega
        have hl0 : line.toList = [] ↔ line.data.toList = [] := by rw [Lib.toList_data]
        obtain ⟨t, l, en⟩ := st
        obtain ⟨q0, q1⟩ := blk2 hr
        obtain ⟨y0, y1⟩ := blk2 hz0
        obtain ⟨e0, e1⟩ := And.intro (frz hz0 0) (frz hz0 1)
        have gr := heap_lt hr
        have HX := Lib.hid (And.intro hrd (And.intro hr (And.intro hown (And.intro hz0 (And.intro hsl hB)))))
        clear hrd hlk hr hown hz0 hcs hB hkp hline hk hsl
        cases en with
        | false =>
          have hbad := last_bad HCU.out.1 (st := ⟨t, l, false⟩) (by have := HCU.out.2; rw [this]; exact HX.out.1) (.inl rfl)
          have HBD := Lib.hid (readL_bad HLG.out.1 hbad)
          clear hbad hl0
          go_wp2_with fail
          have hz : ((wr.setCell ⟨r0, 0, none⟩ (.int .i64 0)).setCell ⟨r0, 1, none⟩ (.slice none 0 0)).heap[r0]? = some (Obj.cells #[Value.int .i64 0, Value.slice none 0 0] 26 (0, 0)) := set_blk (set_blk HX.out.2.2.2.1)
          have hbz : Below r0 w ((wr.setCell ⟨r0, 0, none⟩ (.int .i64 0)).setCell ⟨r0, 1, none⟩ (.slice none 0 0)) := Below.setCell (Below.setCell HX.out.2.2.2.2.2 (p := ⟨r0, 0, none⟩) (Nat.le_refl _) _) (p := ⟨r0, 1, none⟩) (Nat.le_refl _) _
          have HBZ := Lib.hid hbz
          generalize ((wr.setCell ⟨r0, 0, none⟩ (.int .i64 0)).setCell ⟨r0, 1, none⟩ (.slice none 0 0)) = Z at hz HBZ ⊢
          clear hbz y0 y1 e0 e1 q0 q1
          obtain ⟨y0, y1⟩ := blk2 hz
          exact bodyPost_ret (v := .tuple #[.agg #[.int .i64 0, .slice none 0 0], .int .i64 ((k : Int) + 1), .int .i64 2]) (by simp [results, Tryd.f13, go_sem, y0, y1]) rfl ⟨ReadOut.zero HBD.out (by rw [HCU.out.2]; simp), by rw [← HR0.out]; exact HBZ.out⟩
        | true =>
          cases hE : line.toList.isEmpty with
          | false =>
            have hbad := last_bad HCU.out.1 (st := ⟨t, l, true⟩) (by have := HCU.out.2; rw [this]; exact HX.out.1) (.inr (by
              obtain ⟨hkp, hl⟩ := HLI.out
              have e : ps[ps.length - 1]'(by omega) = line := by rw [hl]; congr 1; have := HCU.out.2; omega
              rw [e]
              intro h
              rw [hl0.2 h] at hE
              cases hE))
            have HBD := Lib.hid (readL_bad HLG.out.1 hbad)
            clear hbad hl0
            go_wp2_with fail
            have hz : ((wr.setCell ⟨r0, 0, none⟩ (.int .i64 0)).setCell ⟨r0, 1, none⟩ (.slice none 0 0)).heap[r0]? = some (Obj.cells #[Value.int .i64 0, Value.slice none 0 0] 26 (0, 0)) := set_blk (set_blk HX.out.2.2.2.1)
            have hbz : Below r0 w ((wr.setCell ⟨r0, 0, none⟩ (.int .i64 0)).setCell ⟨r0, 1, none⟩ (.slice none 0 0)) := Below.setCell (Below.setCell HX.out.2.2.2.2.2 (p := ⟨r0, 0, none⟩) (Nat.le_refl _) _) (p := ⟨r0, 1, none⟩) (Nat.le_refl _) _
            have HBZ := Lib.hid hbz
            generalize ((wr.setCell ⟨r0, 0, none⟩ (.int .i64 0)).setCell ⟨r0, 1, none⟩ (.slice none 0 0)) = Z at hz HBZ ⊢
            clear hbz y0 y1 e0 e1 q0 q1
            obtain ⟨y0, y1⟩ := blk2 hz
            exact bodyPost_ret (v := .tuple #[.agg #[.int .i64 0, .slice none 0 0], .int .i64 ((k : Int) + 1), .int .i64 2]) (by simp [results, Tryd.f13, go_sem, y0, y1]) rfl ⟨ReadOut.zero HBD.out (by rw [HCU.out.2]; simp), by rw [← HR0.out]; exact HBZ.out⟩
          | true =>
            have hgood := last_good HCU.out.1 (st := ⟨t, l, true⟩) (by have := HCU.out.2; rw [this]; exact HX.out.1) rfl (by
              obtain ⟨hkp, hl⟩ := HLI.out
              have e : ps[ps.length - 1]'(by omega) = line := by rw [hl]; congr 1; have := HCU.out.2; omega
              rw [e]
              exact hl0.1 (List.isEmpty_iff.1 hE))
            have HG := Lib.hid hgood
            clear hgood hl0
            obtain ⟨ev, hev⟩ : ∃ x, x = check t l := ⟨_, rfl⟩
            have hck := fun w' (h : Below wr.heap.size wr w') => rCheck t A' l.length c' l w' (HX.out.2.2.2.2.1.below h (Nat.le_refl _)) hlc hcm
            rw [← hev] at hck
            have HCK := Lib.hid hck
            have HEV := Lib.hid hev
            clear hck hev
            by_cases h0 : ev = 0
            · have HBD := Lib.hid (readL_good HLG.out.1 HG.out (by dsimp only; rw [← HEV.out]; exact h0))
              subst h0
              go_wp2_with (go_at_call 31; refine (HCK.out _ (Below.refl _ _)).mono ?_; rintro e w6 ⟨rfl, hb6⟩; have d0 := bheap HX.out.2.1 hb6 (Nat.le_refl _); have d1 := bheap HX.out.2.2.2.1 hb6 (Nat.le_refl _); clear q0 q1 y0 y1 e0 e1; obtain ⟨q0, q1⟩ := blk2 d0; obtain ⟨y0, y1⟩ := blk2 d1; obtain ⟨e0, e1⟩ := And.intro (frz d1 0) (frz d1 1); have H6 := Lib.hid (And.intro hb6 d1); clear hb6 d0 d1)
              have hz : ((w6.setCell ⟨r0, 0, none⟩ (.int .i64 t)).setCell ⟨r0, 1, none⟩ (.slice A' l.length c')).heap[r0]? = some (Obj.cells #[Value.int .i64 t, .slice A' l.length c'] 26 (0, 0)) := set_blk (set_blk H6.out.2)
              have hB6 := HX.out.2.2.2.2.2.trans (H6.out.1.mono (by have := HNE.out.2.2; omega : r0 ≤ wr.heap.size))
              have hbz : Below r0 w ((w6.setCell ⟨r0, 0, none⟩ (.int .i64 t)).setCell ⟨r0, 1, none⟩ (.slice A' l.length c')) := Below.setCell (Below.setCell hB6 (p := ⟨r0, 0, none⟩) (Nat.le_refl _) _) (p := ⟨r0, 1, none⟩) (Nat.le_refl _) _
              have hoz : OwnM ((w6.setCell ⟨r0, 0, none⟩ (.int .i64 t)).setCell ⟨r0, 1, none⟩ (.slice A' l.length c')) (r1 + 1) (.slice A' l.length c') l := (HX.out.2.2.1.below H6.out.1 (Nat.le_refl _)).upon (fun j hj => (Below.heap_setCell _ ⟨r0, 1, none⟩ _ _ (by have := HNE.out.2.2; dsimp; omega)).trans (Below.heap_setCell _ ⟨r0, 0, none⟩ _ _ (by have := HNE.out.2.2; dsimp; omega)))
              have HBZ := Lib.hid (And.intro hbz (hoz.sl lenMk).1)
              generalize ((w6.setCell ⟨r0, 0, none⟩ (.int .i64 t)).setCell ⟨r0, 1, none⟩ (.slice A' l.length c')) = Z at hz HBZ ⊢
              clear hbz hoz y0 y1 e0 e1 q0 q1
              obtain ⟨y0, y1⟩ := blk2 hz
              exact bodyPost_ret (v := .tuple #[.agg #[.int .i64 t, .slice A' l.length c'], .int .i64 0, .int .i64 0]) (by simp [results, Tryd.f13, go_sem, y0, y1]) rfl ⟨by rw [HBD.out]; exact ⟨A', c', rfl, HBZ.out.2, hlc, hcm⟩, by rw [← HR0.out]; exact HBZ.out.1⟩
            · have HBD := Lib.hid (readL_chk HLG.out.1 HG.out (by dsimp only; rw [← HEV.out]; exact h0))
              have hne : (ev != 0) = true := bne_iff_ne.2 h0
              clear h0
              go_wp2_with (go_at_call 31; refine (HCK.out _ (Below.refl _ _)).mono ?_; rintro e w6 ⟨rfl, hb6⟩; have d0 := bheap HX.out.2.1 hb6 (Nat.le_refl _); have d1 := bheap HX.out.2.2.2.1 hb6 (Nat.le_refl _); clear q0 q1 y0 y1 e0 e1; obtain ⟨y0, y1⟩ := blk2 d1; obtain ⟨e0, e1⟩ := And.intro (frz d1 0) (frz d1 1); have H6 := Lib.hid (And.intro hb6 d1); clear hb6 d0 d1)
              have hz : ((w6.setCell ⟨r0, 0, none⟩ (.int .i64 0)).setCell ⟨r0, 1, none⟩ (.slice none 0 0)).heap[r0]? = some (Obj.cells #[Value.int .i64 0, Value.slice none 0 0] 26 (0, 0)) := set_blk (set_blk H6.out.2)
              have hB6 := HX.out.2.2.2.2.2.trans (H6.out.1.mono (by have := HNE.out.2.2; omega : r0 ≤ wr.heap.size))
              have hbz : Below r0 w ((w6.setCell ⟨r0, 0, none⟩ (.int .i64 0)).setCell ⟨r0, 1, none⟩ (.slice none 0 0)) := Below.setCell (Below.setCell hB6 (p := ⟨r0, 0, none⟩) (Nat.le_refl _) _) (p := ⟨r0, 1, none⟩) (Nat.le_refl _) _
              have HBZ := Lib.hid hbz
              generalize ((w6.setCell ⟨r0, 0, none⟩ (.int .i64 0)).setCell ⟨r0, 1, none⟩ (.slice none 0 0)) = Z at hz HBZ ⊢
              clear hbz y0 y1 e0 e1
              obtain ⟨y0, y1⟩ := blk2 hz
              exact bodyPost_ret (v := .tuple #[.agg #[.int .i64 0, .slice none 0 0], .int .i64 0, .int .i64 ev]) (by simp [results, Tryd.f13, go_sem, y0, y1]) rfl ⟨ReadOut.zero (n := 0) (HBD.out.trans (by rw [← HEV.out])) rfl, by rw [← HR0.out]; exact HBZ.out⟩
end Go.Proofs.YtoidaigiejilcaaDoor
