/- mestakit.MarkOf: a valid mark, whichever. -/
import Derived.Test.YtoidaigiejilcaaDoorHand
import Derived.Test.YtoidaigiejilcaaDoorDraw
namespace Go.Proofs.YtoidaigiejilcaaDoor
open Go.RowKit
set_option linter.unusedVariables false
set_option linter.unusedSimpArgs false

def mk8 : List Int := [1, 2, 16, 4, 32, 8, 64, 128]
theorem mk8_le : ∀ i, i < 9 → (mk8.take i).sum ≤ 255 := by decide
theorem sum_take {l : List Int} {i : Nat} {x : Int} (h : l[i]? = some x) : (l.take (i + 1)).sum = (l.take i).sum + x := by
  rw [List.take_add_one, h]; simp
theorem mkOk_mk {n b p : Int} (h1 : 0 ≤ n ∧ n ≤ 255) (h2 : 0 ≤ b ∧ b ≤ 9) (h3 : 0 ≤ p ∧ p ≤ 6) : mkOk ⟨n, b, p⟩ = true := mkOk_iff.2 ⟨h1, h2, h3⟩
theorem mk8_step : ∀ i, i < 8 → (mk8.take i).sum ≤ (mk8.take (i + 1)).sum := by decide
/-- some valid mark -/
def MkRes (w : World) (H N : Nat) (e : Ending) (w' : World) : Prop := ∃ m : Mk, e = .returned (vMk m) ∧ mkOk m = true ∧ Dealt w w' H N

set_option maxRecDepth 100000 in
set_option maxHeartbeats 2000000 in
theorem markOf_any (H N : Nat) (w : World) (h : Hd w H N) (hN : N ≤ 4611686018427387000) :
    Calls Tryd.prog 24 #[.pointer (some ⟨H, 0, none⟩)] w (MkRes w H (N + 16)) := by
  have hH := h.lt
  go_enter Tryd.func24, Tryd.ntmps24
  go_wp2_with fail
  refine (upto_any H N 9 _ (h.alloc _) (by omega) (by omega)).mono ?_
  rintro e w1 ⟨n1, rfl, hn1, hd1⟩
  have hD1 := (((Dealt.refl h).mono (by omega : N ≤ N + 1)).alloc (Obj.cells #[Value.int .i64 0, .int .i64 0, .int .i64 0] 52)).trans hd1
  have br1 := hd1.blk (alloc_at rfl : (w.alloc (Obj.cells #[Value.int .i64 0, .int .i64 0, .int .i64 0] 52)).heap[w.heap.size]? = some _) (by omega)
  clear hd1 h
  go_wp2_with fail
  refine (of_any H (N + 1) 0 (some ⟨w1.heap.size, 0, none⟩) 3 3 [0, 1, n1] _ (hD1.hd.alloc _) (by omega) (ints3 _ _ _ _ _) (offH_new hD1.hd (Nat.le_refl _) 0) (by omega)).mono ?_
  rintro e w2 ⟨b, rfl, hb, hd2⟩
  have hD2 := (hD1.mono (by omega : N + 1 ≤ N + 2)).alloc (Obj.cells #[Value.int .i64 0, .int .i64 1, .int .i64 n1] 3) |>.trans hd2
  have br2 := hd2.blk (hblk_alloc br1 _) (by omega)
  have hb' : 0 ≤ b ∧ b ≤ 9 := by
    simp only [List.mem_cons, List.not_mem_nil, or_false] at hb
    omega
  clear hd2 hD1 hb hn1 br1
  go_wp2_with fail
  refine (upto_any H (N + 2) 6 _ hD2.hd (by omega) (by omega)).mono ?_
  rintro e w3 ⟨n2, rfl, hn2, hd3⟩
  have hD3 := hD2.trans hd3
  have br3 := hd3.blk br2 (by omega)
  clear hd3 hD2 br2
  go_wp2_with fail
  refine (of_any H (N + 2 + 1) 0 (some ⟨w3.heap.size, 0, none⟩) 4 4 [0, 1, 2, n2] _ (hD3.hd.alloc _) (by omega) (Sl.lit w3 _ _ [0, 1, 2, (n2 : Int)] rfl lenInt (by simp [maxLen])) (offH_new hD3.hd (Nat.le_refl _) 0) (by omega)).mono ?_
  rintro e w4 ⟨p, rfl, hp, hd4⟩
  have hD4 := (hD3.mono (by omega : N + 2 + 1 ≤ N + 4)).alloc (Obj.cells #[Value.int .i64 0, .int .i64 1, .int .i64 2, .int .i64 n2] 3) |>.trans hd4
  have br4 := hd4.blk (hblk_alloc br3 _) (by omega)
  have hp' : 0 ≤ p ∧ p ≤ 6 := by
    simp only [List.mem_cons, List.not_mem_nil, or_false] at hp
    omega
  clear hd4 hD3 hp hn2 br3
  go_wp2_with fail
  have hD5 := hD4.alloc (Obj.cells #[Value.int .i64 0, .int .i64 b, .int .i64 p] 52)
  have br5 := hblk_alloc br4 (Obj.cells #[Value.int .i64 0, .int .i64 b, .int .i64 p] 52)
  have bm5 : (w4.alloc (Obj.cells #[Value.int .i64 0, .int .i64 b, .int .i64 p] 52)).heap[w4.heap.size]? = some (Obj.cells #[Value.int .i64 0, .int .i64 b, .int .i64 p] 52 (0, 0)) := alloc_at rfl
  have hz4 : w.heap.size < w4.heap.size := heap_lt br4
  refine (odds_any H (N + 2 + 1 + 1) 1 4 _ hD5.hd (by omega) (by omega) (by omega)).mono ?_
  rintro e w6 ⟨o, rfl, hd6⟩
  have hD6 := hD5.trans hd6
  have br6 := hd6.blk br5 (by omega)
  have bm6 := hd6.blk bm5 (by omega)
  clear hd6 hD5 hD4 br5 bm5 br4
  cases o
  · go_wp2_with fail
    obtain ⟨W, hW⟩ : ∃ W, W = w6.alloc (Obj.cells #[Value.int .i64 1, .int .i64 2, .int .i64 16, .int .i64 4, .int .i64 32, .int .i64 8, .int .i64 64, .int .i64 128] 3) := ⟨_, rfl⟩
    rw [← hW]
    have hDW : Dealt w W H (N + 2 + 1 + 1 + 1) := by rw [hW]; exact hD6.alloc _
    have brW : W.heap[w.heap.size]? = some (Obj.cells #[Value.int .i64 0, .int .i64 0, .int .i64 0] 52 (0, 0)) := by rw [hW]; exact hblk_alloc br6 _
    have bmW : W.heap[w4.heap.size]? = some (Obj.cells #[Value.int .i64 0, .int .i64 b, .int .i64 p] 52 (0, 0)) := by rw [hW]; exact hblk_alloc bm6 _
    have hLW : Ints W (some ⟨w6.heap.size, 0, none⟩) 8 mk8 := by rw [hW]; exact Sl.lit w6 _ _ mk8 rfl lenInt (by decide)
    have hbW : W.heap[w6.heap.size]? = some (Obj.cells #[Value.int .i64 1, .int .i64 2, .int .i64 16, .int .i64 4, .int .i64 32, .int .i64 8, .int .i64 64, .int .i64 128] 3 (0, 0)) := by rw [hW]; exact alloc_at rfl
    have hz6 : w4.heap.size < w6.heap.size := heap_lt bm6
    clear hW br6 bm6 hD6
    go_loopg [5] 8 (fun g i wr => ∃ k : Nat, k + g = 8 ∧ i = .int .i64 k ∧ ∃ x : Int, 0 ≤ x ∧ x ≤ (mk8.take k).sum ∧ wr.heap[w4.heap.size]? = some (Obj.cells #[Value.int .i64 x, .int .i64 b, .int .i64 p] 52 (0, 0)) ∧
      wr.heap[w.heap.size]? = some (Obj.cells #[Value.int .i64 0, .int .i64 0, .int .i64 0] 52 (0, 0)) ∧ Ints wr (some ⟨w6.heap.size, 0, none⟩) 8 mk8 ∧ Dealt w wr H (N + 5 + k))
    case atStart => exact ⟨0, by omega, rfl, 0, by omega, by decide, bmW, brW, hLW, hDW⟩
    case round =>
      obtain ⟨k, hk, rfl, x, hx0, hx1, bmr, brr, hLr, hDr⟩ := hrel
      have HK := Lib.hid hk
      have hk8 : k ≤ 8 := by omega
      clear hk
      by_cases hlt : k < 8
      · have hk3 : (k : Int) + 3 ≤ 11 := by omega
        go_wp2_with fail
        refine (odds_any H (N + 5 + k) 1 (k + 3) _ hDr.hd (by omega) (by omega) (by omega)).mono ?_
        rintro e w8 ⟨o, rfl, hd8⟩
        have bm8 := hd8.blk bmr (by omega)
        have br8 := hd8.blk brr (by omega)
        have hL8 := hLr.dealt hd8 (fun b' off' e => by cases e; omega)
        have hD8 := hDr.trans hd8
        clear hd8 bmr brr hLr hDr
        have hm8 := mk8_le k (by omega)
        cases o
        · go_wp2
          go_roundg (gk - 1)
          case measure => have := HK.out; omega
          case rel =>
            have h9 := mk8_step k hlt
            exact ⟨k + 1, by have := HK.out; omega, by go_num, x, hx0, by omega, bm8, br8, hL8, hD8.mono (by omega)⟩
        · obtain ⟨b8, off8, y, hA8, hb8, hy, q0⟩ := Ints.get hL8 hlt
          cases hA8
          rw [Nat.zero_add] at q0
          have hs := sum_take hy
          have hm9 := mk8_le (k + 1) (by omega)
          have hy0 : 0 ≤ y := by
            have : ∀ z ∈ mk8, 0 ≤ z := by decide
            exact this y (List.mem_of_getElem? hy)
          have HS := Lib.hid hs
          have hxy : x + y ≤ 255 := by omega
          clear hs hy
          obtain ⟨m0, m1, m2⟩ := blk3 bm8
          have fm0 := frz bm8 0
          have i0 : (0 : Int) ≤ (k : Int) := by omega
          have i1 : (k : Int) < 8 := by omega
          go_upto_region 10 with (fail)
          refine wp_region_quiet_tail (C := fun w' => ∃ n, w' = w8.drewN n) 8 (by kernel_rfl) (by kernel_rfl) ⟨1, rfl⟩ ?_
          simp only [List.take_succ_cons, List.take_zero, List.drop_succ_cons, List.drop_zero]
          repeat (quiet_step (fail))
          refine wpQuiet_nil ?_
          intro _ hw'
          obtain ⟨nq, hw''⟩ := hw'
          subst hw''
          go_wp2
          go_roundg (gk - 1)
          case measure => have := HK.out; omega
          case rel =>
            refine ⟨k + 1, by have := HK.out; omega, by go_num, x + y, by omega, by rw [HS.out]; omega, set3_0 bm8, ?_, ?_, ?_⟩
            · exact (Below.heap_setCell _ ⟨w4.heap.size, 0, none⟩ _ _ (by dsimp; omega)).trans br8
            · refine ⟨hL8.1, fun hn => ?_⟩
              obtain ⟨bb, oo, hA, hc⟩ := hL8.2 hn
              refine ⟨bb, oo, hA, fun i x hx j u hu => ?_⟩
              have h0 := hc i x hx j u hu
              cases hA
              unfold World.cell? at h0 ⊢
              rw [Below.heap_setCell _ ⟨w4.heap.size, 0, none⟩ _ _ (by dsimp; omega)]
              exact h0
            · exact ((hD8.mono (by omega : N + 5 + k + 1 ≤ N + 5 + (k + 1))).drewN nq).set (by dsimp; omega) (by dsimp; omega) _
      · obtain rfl : k = 8 := by omega
        have hm8 := mk8_le 8 (by omega)
        have fr0 := frz brr 0
        have fr1 := frz brr 1
        have fr2 := frz brr 2
        obtain ⟨m0, m1, m2⟩ := blk3 bmr
        obtain ⟨r0, r1, r2⟩ := blk3 brr
        have zr := heap_lt bmr
        have HD := Lib.hid hDr
        clear hDr
        go_wp2
        refine bodyPost_ret (v := vMk ⟨x, b, p⟩) (by simp [results, Tryd.f24, go_sem, vMk, m0, m1, m2, r0, r1, r2]) rfl ⟨⟨x, b, p⟩, rfl, mkOk_mk (by omega) hb' hp', ?_⟩
        have hD := HD.out.mono (by omega : N + 5 + 8 ≤ N + 16)
        exact ((hD.set (by dsimp; omega) (by dsimp; omega) _).set (by dsimp; omega) (by dsimp; omega) _).set (by dsimp; omega) (by dsimp; omega) _
  · go_wp2_with fail
    refine (upto_any H (N + 2 + 1 + 1 + 1) 255 _ hD6.hd (by omega) (by omega)).mono ?_
    rintro e w7 ⟨n3, rfl, hn3, hd7⟩
    have hD7 := hD6.trans hd7
    have br7 := hd7.blk br6 (by omega)
    have bm7 := hd7.blk bm6 (by omega)
    clear hd7 hD6 br6 bm6
    have fm0 := frz bm7 0
    have fr0 := frz br7 0
    have fr1 := frz br7 1
    have fr2 := frz br7 2
    obtain ⟨m0, m1, m2⟩ := blk3 bm7
    obtain ⟨r0, r1, r2⟩ := blk3 br7
    have z7 := heap_lt bm7
    have HD := Lib.hid hD7
    clear hD7
    go_wp2
    refine bodyPost_ret (v := vMk ⟨n3, b, p⟩) (by simp [results, Tryd.f24, go_sem, vMk, m0, m1, m2, r0, r1, r2]) rfl ⟨⟨n3, b, p⟩, rfl, mkOk_mk (by omega) hb' hp', ?_⟩
    have hD := HD.out.mono (by omega : N + 2 + 1 + 1 + 1 + 1 ≤ N + 16)
    exact (((hD.set (by dsimp; omega) (by dsimp; omega) _).set (by dsimp; omega) (by dsimp; omega) _).set (by dsimp; omega) (by dsimp; omega) _).set (by dsimp; omega) (by dsimp; omega) _
end Go.Proofs.YtoidaigiejilcaaDoor
