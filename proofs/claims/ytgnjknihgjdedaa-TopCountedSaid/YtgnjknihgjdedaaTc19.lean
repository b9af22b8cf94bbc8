/- TopCounted 19: TyJ. -/
import Derived.Test.YtgnjknihgjdedaaTc18
namespace Go.Proofs.Ytgnjknihgjdedaa
open Go.RowKit Go.MapKept Go.ChangeMaps
set_option linter.unusedVariables false
set_option linter.unusedSimpArgs false

set_option maxRecDepth 100000 in
set_option maxHeartbeats 8000000 in
theorem tlost_any (T : Ty) (p : Tp) (k M g n c a b : Nat) (L : List Sp) (w : World) (hk : TyOk T) (hat : TyAt w T p k M) (hs : SpB w g 91 L) (hn : L.length = n) (hL : LsOk T L) (hab : a ≤ b) (hbn : b < n) (hnc : n ≤ c ∧ c ≤ maxLen) :
    Calls Try.prog 35 #[.pointer (some ⟨k, 0, none⟩), .slice (some ⟨g, 0, none⟩) n c, .int .i64 a, .int .i64 b] w fun e w' => e = .returned (spV (lostF T L a b)) ∧ Below w.heap.size w w' := by
  have hn5 : n ≤ 5 := by have := hk.g; have := hL.n; omega
  have hgn : T.g = (n : Int) := by have := hL.n; omega
  obtain ⟨W, hW⟩ : ∃ W, W = (w.alloc (Obj.cells #[.slice (some ⟨g, 0, none⟩) n c] 88)).alloc (spO sp0) := ⟨_, rfl⟩
  obtain ⟨q, hq⟩ : ∃ q, q = w.heap.size := ⟨_, rfl⟩
  have b0 : W.heap[q]? = some (Obj.cells #[.slice (some ⟨g, 0, none⟩) n c] 88 (0, 0)) := by rw [hW, hq]; exact hblk_alloc (alloc_at rfl) _
  have b1 : W.heap[q + 1]? = some (spO sp0) := by rw [hW, hq]; exact alloc_at (by simp)
  have hbW : Below w.heap.size w W := by rw [hW]; exact bal (bal0 w _) (Nat.le_refl _) _
  have hWz : W.heap.size = q + 2 := by rw [hW, hq]; simp
  have hgq : g < q := by rw [hq]; exact hs.lt
  have hkq : k < q := by rw [hq]; exact heap_lt hat.b
  have HW := Lib.hid (And.intro hW (And.intro hq hWz))
  have H0 := Lib.hid (And.intro hk (And.intro hL (And.intro hn (And.intro hbW (And.intro b0 (And.intro b1 (And.intro (hat.below hbW (Nat.le_refl _)) (hs.below hbW (Nat.le_refl _)))))))))
  have hqW : q + 1 < W.heap.size := by omega
  have HST := Lib.hid (fun (X : World) (hX : Below W.heap.size W X) => show X.heap[q]? = some (Obj.cells #[.slice (some ⟨g, 0, none⟩) n c] 88 (0, 0)) ∧ SpB X g 91 L ∧ TyAt X T p k M from
    ⟨bheap b0 hX (Nat.le_refl _), (hs.below hbW (Nat.le_refl _)).below hX (Nat.le_refl _), (hat.below hbW (Nat.le_refl _)).below hX (Nat.le_refl _)⟩)
  have HT1 := Lib.hid (fun (X : World) (hX : Below W.heap.size W X) (z : Nat) (hz : W.heap.size ≤ z) => show OffT T p k z from ((hat.below hbW (Nat.le_refl _)).off hz))
  have hwid : ∀ j, j < n → (L.getD j sp0).wid ≤ 601 ∧ 1 ≤ (L.getD j sp0).wid := fun j hj => by
    have := hL.get (k := j) (by omega)
    unfold Sp.wid; omega
  have HWD := Lib.hid hwid
  have hca : ∀ X : World, Below W.heap.size W X → ∀ j, j < n → Calls Try.prog 77 #[.int .i64 (j : Int), .pointer (some ⟨q, 0, none⟩)] X fun e w' => e = .returned (.int .i64 ((L.getD j sp0).wid : Int)) ∧ Below X.heap.size X w' := fun X hX j hj =>
    twid_any q g n c L j X (HST.out X hX).1 (HST.out X hX).2.1 H0.out.2.2.1 hj hn5 (H0.out.2.1.get (by have := H0.out.2.2.1; omega))
  have HCA := Lib.hid hca
  obtain ⟨N0, hN0⟩ : ∃ N, N = (L.getD a sp0).wid := ⟨_, rfl⟩
  have hN0b := hwid a (by omega)
  have hc0 := hca W (Below.refl _ _) a (by omega)
  rw [← hN0] at hc0 hN0b
  have HN0 := Lib.hid hN0
  have hmk0 := fun X => run_mkS X (show N0 ≤ 100000 by omega)
  clear hW hq b0 b1 hbW hWz hk hat hs hn hL hwid hca hN0
  go_enter Try.func35, Try.ntmps35
  go_upto_region 2 with (fail)
  rw [show (w.alloc (Obj.cells #[Value.slice (some ⟨g, 0, none⟩) n c] 88)).alloc (Obj.cells #[Value.int .i64 0, .int .i64 0] 91) = W from HW.out.1.symm, ← HW.out.2.1]
  go_upto_region 3 with (go_at_call 77; (with_reducible refine hc0.mono ?_); rintro e w1 ⟨rfl, hb1⟩; have HB1 := Lib.hid hb1; clear hb1)
  clear hc0
  go_wp2_with fail
  clear hmk0
  obtain ⟨w2, hw2⟩ : ∃ X, X = w1.alloc (Obj.cells (lcs (List.replicate N0 sp0)) 91) := ⟨_, rfl⟩
  obtain ⟨nb0, hnb0⟩ : ∃ x, x = w1.heap.size := ⟨_, rfl⟩
  rw [← hw2, ← hnb0]
  have s2 : SpB w2 nb0 91 (lossTo T L a 0) := by rw [hw2, hnb0, show lossTo T L a 0 = List.replicate N0 sp0 by rw [HN0.out]; rfl]; exact alloc_at rfl
  have hb2 : Below W.heap.size W w2 := by rw [hw2]; exact HB1.out.trans ((bal0 w1 _).mono HB1.out.size)
  have hnb2 : W.heap.size ≤ nb0 := by rw [hnb0]; exact HB1.out.size
  have H2 := Lib.hid (And.intro s2 (And.intro hb2 hnb2))
  clear hw2 hnb0 s2 hb2 hnb2
  go_loopg [10, 11, 12, 13, 14, 15, 16, 17, 18, 28, 29, 30, 31, 32, 33, 34, 35, 36, 37, 38, 39, 40, 41, 42, 43, 44, 45, 46, 47, 48, 49, 50, 51, 52, 53, 54, 55, 56, 57, 58, 59, 60, 61, 62, 63, 64, 65, 66, 67, 68, 69, 70, 71, 72, 73, 74, 75, 76, 77, 78, 79, 80, 81, 82, 83, 84, 85, 86, 87, 88, 89, 90, 91, 92, 93, 94, 95, 96, 97, 98, 99, 100, 101, 102, 103, 104, 105, 106, 107, 108, 109, 110, 111, 112, 113, 114, 115, 116, 117, 118, 119, 120, 121, 122, 123, 124, 125, 126, 127, 128, 129, 130, 131, 132, 133, 134, 135, 136, 137, 138] (b - a) (fun gh v10 v11 _ _ _ _ _ _ _ _ _ _ _ _ _ _ _ _ _ _ _ _ _ _ _ _ _ _ _ _ _ _ _ _ _ _ _ _ _ _ _ _ _ _ _ _ _ _ _ _ _ _ _ _ _ _ _ _ _ _ _ _ _ _ _ _ _ _ _ _ _ _ _ _ _ _ _ _ _ _ _ _ _ _ _ _ _ _ _ _ _ _ _ _ _ _ _ _ _ _ _ _ _ _ _ _ _ _ _ _ _ _ _ _ _ _ _ _ _ _ wr => ∃ j nb N : Nat, j + gh = b - a ∧ v11 = .int .i64 ((a + j : Nat) : Int) ∧ v10 = .slice (some ⟨nb, 0, none⟩) N N ∧ Below W.heap.size W wr ∧ W.heap.size ≤ nb ∧ SpB wr nb 91 (lossTo T L a j) ∧ N = (L.getD (a + j) sp0).wid)
  case atStart => exact ⟨0, nb0, N0, by omega, by congr 1, rfl, H2.out.2.1, H2.out.2.2, H2.out.1, HN0.out⟩
  case round =>
    obtain ⟨ga, rfl⟩ : ∃ x : Nat, x = gk := ⟨_, rfl⟩
    obtain ⟨j, nb, N, hj, rfl, rfl, hbr, hnbW, hsn, hN⟩ := hrel
    have HJ := Lib.hid (And.intro hj (And.intro hbr (And.intro hsn hN)))
    obtain ⟨wj, hwj⟩ : ∃ X : World, X = wr := ⟨_, rfl⟩
    rw [← hwj] at HJ hbr hsn ⊢
    clear hwj
    by_cases hlt : a + j < b
    · have hj1 : a + j + 1 < n := by omega
      obtain ⟨N1, hN1⟩ : ∃ N, N = (L.getD (a + j + 1) sp0).wid := ⟨_, rfl⟩
      have hN1b := HWD.out (a + j + 1) hj1
      have hNb := HWD.out (a + j) (by omega)
      have hcj := HCA.out wj hbr (a + j + 1) hj1
      rw [← hN1] at hcj hN1b
      rw [← hN] at hNb
      rw [show ((a + j + 1 : Nat) : Int) = ((a + j : Nat) : Int) + 1 by omega] at hcj
      have HN1 := Lib.hid hN1
      have hmk1 := fun X => run_mkS X (show N1 ≤ 100000 by omega)
      have i1 : ((a + j : Nat) : Int) < (b : Int) := by omega
      have iw : ((a + j : Nat) : Int) + 1 ≤ 1000 := by omega
      obtain ⟨aj, haj⟩ : ∃ x, x = a + j := ⟨_, rfl⟩
      rw [← haj] at hcj i1 iw hN ⊢
      have HAJ := Lib.hid haj
      clear hN1 hj hbr hsn hN haj
      go_upto_region 7 with (go_at_call 77; (with_reducible refine hcj.mono ?_); rintro e w3 ⟨rfl, hb3⟩; have HB3 := Lib.hid hb3; clear hb3)
      clear hcj hmk1
      obtain ⟨w4, hw4⟩ : ∃ X, X = w3.alloc (Obj.cells (lcs (List.replicate N1 sp0)) 91) := ⟨_, rfl⟩
      obtain ⟨xb, hxb⟩ : ∃ x, x = w3.heap.size := ⟨_, rfl⟩
      rw [← hw4, ← hxb]
      have hb34 : Below wj.heap.size wj w4 := by rw [hw4]; exact HB3.out.trans ((bal0 w3 _).mono HB3.out.size)
      have s4 : SpB w4 xb 91 (List.replicate N1 sp0) := by rw [hw4, hxb]; exact alloc_at rfl
      have hxbj : wj.heap.size ≤ xb := by rw [hxb]; exact HB3.out.size
      have hnx : nb < xb := by have := HJ.out.2.2.1.lt; omega
      have H4 := Lib.hid (And.intro s4 (And.intro hb34 (And.intro (HJ.out.2.2.1.below hb34 (Nat.le_refl _)) (HJ.out.2.1.trans (hb34.mono HJ.out.2.1.size)))))
      have hqx : q + 1 < xb := by have := HJ.out.2.1.size; omega
      clear hw4 hxb hb34 s4
      go_wp2_with fail
      go_loopg [13, 14, 15, 16, 17, 18, 40, 41, 42, 43, 44, 45, 46, 47, 48, 49, 50, 51, 52, 53, 54, 55, 56, 57, 58, 59, 60, 61, 62, 63, 64, 65, 66, 67, 68, 69, 70, 71, 72, 73, 74, 75, 76, 77, 78, 79, 80, 81, 82, 83, 84, 85, 86, 87, 88, 89, 90, 91, 92, 93, 94, 95, 96, 97, 98, 99, 100, 101, 102, 103, 104, 105, 106, 107, 108, 109, 110, 111, 112, 113, 114, 115, 116, 117, 118, 119, 120, 121, 122, 123, 124, 125, 126, 127, 128, 129, 130, 131, 132, 133, 134, 135, 136, 137] N1 (fun gh _ _ _ _ _ _ v40 _ _ _ _ _ _ _ _ _ _ _ _ _ _ _ _ _ _ _ _ _ _ _ _ _ _ _ _ _ _ _ _ _ _ _ _ _ _ _ _ _ _ _ _ _ _ _ _ _ _ _ _ _ _ _ _ _ _ _ _ _ _ _ _ _ _ _ _ _ _ _ _ _ _ _ _ _ _ _ _ _ _ _ _ _ _ _ _ _ _ _ _ _ _ _ _ _ wr => ∃ (i : Nat) (l : List Sp), i + gh = N1 ∧ v40 = .int .i64 (i : Int) ∧ l.length = N1 ∧ SpB wr xb 91 l ∧ w4.grownBy wr (some xb) ∧ l.take i = (lossTo T L a (j + 1)).take i)
      case atStart => exact ⟨0, _, by omega, rfl, by simp, H4.out.1, World.grownBy.refl _ _, rfl⟩
      case round =>
        obtain ⟨gb, rfl⟩ : ∃ x : Nat, x = gk := ⟨_, rfl⟩
        obtain ⟨i, l, hi, rfl, hl, hlb, hgw, htk⟩ := hrel
        have HI := Lib.hid (And.intro hi (And.intro hl (And.intro hlb (And.intro hgw htk))))
        obtain ⟨wi, hwi⟩ : ∃ X : World, X = wr := ⟨_, rfl⟩
        rw [← hwi] at HI hlb hgw ⊢
        clear hwi
        by_cases hlt2 : i < N1
        · obtain ⟨m, hm⟩ : ∃ m, m = (L.getD (aj + 1) sp0).lo + (i : Int) := ⟨_, rfl⟩
          have hLm := H0.out.2.1.get (k := aj + 1) (by have := H0.out.2.2.1; omega)
          have hLn := H0.out.2.1.get (k := aj) (by have := H0.out.2.2.1; omega)
          obtain ⟨c0, c1⟩ := hlb.get (show i < l.length by omega)
          have f0 := hlb.free (i * 2)
          have f1 := hlb.free (i * 2 + 1)
          have hxl := hlb.lt
          have hqi : wi.heap[q]? = some (Obj.cells #[.slice (some ⟨g, 0, none⟩) n c] 88 (0, 0)) := (hgw.block q (by have := H4.out.2.2.2.size; omega) (fun e => by injection e with e; omega)).trans (HST.out w4 H4.out.2.2.2).1
          have q0 := blk1 hqi
          have hql := heap_lt hqi
          have hgi : SpB wi g 91 L := (hgw.block g (by have := H4.out.2.2.2.size; omega) (fun e => by injection e with e; omega)).trans (HST.out w4 H4.out.2.2.2).2.1
          have hgl := hgi.lt
          obtain ⟨g0, g1⟩ := hgi.get (show aj + 1 < L.length by have := H0.out.2.2.1; omega)
          obtain ⟨lo1, hlo1⟩ : ∃ x, x = (L.getD (aj + 1) sp0).lo := ⟨_, rfl⟩
          rw [← hlo1] at hm hLm g0
          have j0 : (0 : Int) ≤ (aj : Int) + 1 := by omega
          have j1 : (aj : Int) + 1 < (n : Int) := by have := HAJ.out; omega
          have i2 : (i : Int) < (N1 : Int) := by omega
          have hwm : IntKind.i64.wrap (lo1 + (i : Int)) = lo1 + (i : Int) := IntWalk.i64_in _ (by have := HN1.out; have := (HWD.out (aj + 1) (by have := HAJ.out; omega)).1; have := HAJ.out; omega)
          have HM := Lib.hid (And.intro hm (And.intro hlo1 (And.intro hLm hLn)))
          have HQI := Lib.hid (And.intro hqi hgi)
          have hN1b' : N1 ≤ 601 := hN1b.1
          have hm0 : 0 ≤ m ∧ m ≤ 1300 := by omega
          clear hm hlo1 hLm hLn hqi hgi hi hl hlb hgw htk
          go_wp2_with fail
          obtain ⟨w5, hw5⟩ : ∃ X, X = (wi.setCell ⟨xb, i * 2, none⟩ (.int .i64 1048576)).setCell ⟨xb, i * 2 + 1, none⟩ (.int .i64 (-1)) := ⟨_, rfl⟩
          rw [← hw5, ← HM.out.1]
          have s5 : SpB w5 xb 91 (l.set i spE) := by rw [hw5]; exact HI.out.2.2.1.set i spE
          have hg5 : w4.grownBy w5 (some xb) := by rw [hw5]; exact GrB.set (GrB.set HI.out.2.2.2.1 _) _
          obtain ⟨r, hr⟩ : ∃ r, r = T.ch.getD aj sp0 := ⟨_, rfl⟩
          obtain ⟨lo0, hlo0⟩ : ∃ x, x = (L.getD aj sp0).lo := ⟨_, rfl⟩
          obtain ⟨now, hnow⟩ : ∃ x, x = lossTo T L a j := ⟨_, rfl⟩
          have hnl : now.length = N := by rw [hnow, lossTo_len, HJ.out.2.2.2]
          have hnbd : ∀ s ∈ now, LossBd (60 * (j : Int)) s := by rw [hnow]; exact lossTo_bd H0.out.1 L a j (by omega)
          have hrow : i < N1 → (lossTo T L a (j + 1))[i]? = some (lossCell r T.m lo0 m now now.length) := fun hi => by
            show (lossRow (T.ch.getD (a + j) sp0) T.m (L.getD (a + j) sp0).lo (L.getD (a + j + 1) sp0).lo (lossTo T L a j) (L.getD (a + j + 1) sp0).wid)[i]? = _
            unfold lossRow
            rw [List.getElem?_map, List.getElem?_range (by rw [← HN1.out]; exact hi), ← HAJ.out, ← hr, ← hlo0, ← hnow, ← HM.out.2.1, HM.out.1]
            rfl
          have H5 := Lib.hid (And.intro s5 (And.intro hg5 (And.intro hr (And.intro hlo0 (And.intro hnow (And.intro hnl (And.intro hnbd hrow)))))))
          have hj4 : j ≤ 4 := by omega
          have hlo0b := HM.out.2.2.2
          rw [← hlo0] at hlo0b
          clear hw5 s5 hg5 hr hlo0 hnow hnl hnbd hrow c0 c1 f0 f1 hxl q0 hql hgl g0 g1 hwm
          go_loopg [15, 16, 17, 18, 57, 58, 59, 60, 61, 62, 63, 64, 65, 66, 67, 68, 69, 70, 71, 72, 73, 74, 75, 76, 77, 78, 79, 80, 81, 82, 83, 84, 85, 86, 87, 88, 89, 90, 91, 92, 93, 94, 95, 96, 97, 98, 99, 100, 101, 102, 103, 104, 105, 106, 107, 108, 109, 110, 111, 112, 113, 114, 115, 116, 117, 118, 119, 120, 121, 122, 123, 124, 125, 126, 127, 128, 129, 130, 131, 132, 133, 134, 135, 136] N (fun gh _ _ _ _ v57 _ _ _ _ _ _ _ _ _ _ _ _ _ _ _ _ _ _ _ _ _ _ _ _ _ _ _ _ _ _ _ _ _ _ _ _ _ _ _ _ _ _ _ _ _ _ _ _ _ _ _ _ _ _ _ _ _ _ _ _ _ _ _ _ _ _ _ _ _ _ _ _ _ _ _ _ _ _ _ wr => ∃ k3 : Nat, k3 + gh = N ∧ v57 = .int .i64 (k3 : Int) ∧ SpB wr xb 91 (l.set i (lossCell r T.m lo0 m now k3)) ∧ w4.grownBy wr (some xb))
          case atStart => exact ⟨0, by omega, rfl, H5.out.1, H5.out.2.1⟩
          case round =>
            obtain ⟨k3, hk3, rfl, hlb, hgw⟩ := hrel
            have HK := Lib.hid (And.intro hk3 (And.intro hlb hgw))
            obtain ⟨wk, hwk⟩ : ∃ X : World, X = wr := ⟨_, rfl⟩
            rw [← hwk] at HK hlb hgw ⊢
            clear hwk
            by_cases hlt3 : k3 < N
            · have hsk := HST.out w4 H4.out.2.2.2
              have st : ∀ kk, kk ≠ xb → kk < w4.heap.size → wk.heap[kk]? = w4.heap[kk]? := fun kk h1 h2 => hgw.block kk h2 (fun e => h1 (by injection e))
              have z4 := H4.out.2.2.2.size
              have bq : wk.heap[q]? = some (Obj.cells #[.slice (some ⟨g, 0, none⟩) n c] 88 (0, 0)) := (st q (by omega) (by omega)).trans hsk.1
              have bg : SpB wk g 91 L := (st g (by omega) (by omega)).trans hsk.2.1
              have bn : SpB wk nb 91 now := by rw [H5.out.2.2.2.2.1]; exact (st nb (by omega) (by have := H4.out.2.2.1.lt; omega)).trans H4.out.2.2.1
              have bt : TyAt wk T p k M := hsk.2.2.kpx (q := xb) ⟨hgw.size, fun jj o hj ho _ => (st jj hj (heap_lt ho)).trans ho⟩ (HT1.out w4 H4.out.2.2.2 xb (by omega))
              obtain ⟨s, hs⟩ : ∃ s, s = now.getD k3 sp0 := ⟨_, rfl⟩
              obtain ⟨n0, n1⟩ := bn.get (show k3 < now.length by have := H5.out.2.2.2.2.2.1; omega)
              rw [← hs] at n0 n1
              have hnbl := bn.lt
              have HB := Lib.hid (And.intro bq (And.intro bg (And.intro bt hs)))
              have q0 := blk1 bq
              have hql := heap_lt bq
              obtain ⟨g0, g1⟩ := bg.get (show aj < L.length by have := H0.out.2.2.1; omega)
              rw [← H5.out.2.2.2.1] at g0
              have hgl := bg.lt
              have hwn : IntKind.i64.wrap (lo0 + (k3 : Int)) = lo0 + (k3 : Int) := IntWalk.i64_in _ (by omega)
              have ia0 : (0 : Int) ≤ (aj : Int) := by omega
              have ia1 : (aj : Int) < (n : Int) := by have := HAJ.out; omega
              have ik1 : (k3 : Int) < (N : Int) := by omega
              clear bq bg bn bt hs hk3 hlb hgw st hsk g1
              go_upto_region 16 with (fail)
              obtain ⟨X, hX⟩ : ∃ X, X = wk.alloc (Obj.cells #[Value.int .i64 s.lo, .int .i64 s.hi] 91) := ⟨_, rfl⟩
              obtain ⟨x6, hx6⟩ : ∃ x, x = wk.heap.size := ⟨_, rfl⟩
              rw [← hX, ← hx6]
              have hbX : Below wk.heap.size wk X := by rw [hX]; exact bal0 wk _
              have bs : X.heap[x6]? = some (spO s) := by rw [hX, hx6]; exact alloc_at rfl
              have btX := HB.out.2.2.1.below hbX (Nat.le_refl _)
              have hchn : aj < T.ch.length := by have := H0.out.1.cn; omega
              obtain ⟨bc, oc, r', hA, hbc, hr', r0, r1⟩ := Sps.get btX.i.a hchn
              have hrr : r' = r := by rw [H5.out.2.2.1, List.getD_eq_getElem?_getD, hr']; rfl
              subst hrr
              have hrok := H0.out.1.ch r' (List.mem_of_getElem? hr')
              have hm60 := H0.out.1.m
              have hch1 : (aj : Int) < (T.ch.length : Int) := by omega
              have hchc : T.ch.length ≤ p.c ∧ p.c ≤ maxLen := ⟨btX.i.ac, btX.i.am⟩
              have c3 := (blk8w btX.b).2.2.2.1
              have c4 := (blk8w btX.b).2.2.2.2.1
              rw [hA] at c3
              have hkX := heap_lt btX.b
              obtain ⟨nn, hnn⟩ : ∃ nn, nn = lo0 + (k3 : Int) := ⟨_, rfl⟩
              have hnn' : 0 ≤ nn ∧ nn ≤ 1300 := by omega
              rw [← hnn]
              obtain ⟨o, ho⟩ : ∃ o, o = lossOwn r' T.m nn m := ⟨_, rfl⟩
              have ho1 : o.lo = max 0 (nn + r'.lo - m) := by rw [ho]; rfl
              have ho2 : o.hi = min T.m (nn + r'.hi - m) := by rw [ho]; rfl
              have hrb : -60 ≤ r'.lo ∧ r'.lo ≤ 60 ∧ -60 ≤ r'.hi ∧ r'.hi ≤ 60 := by obtain ⟨x, y, z⟩ := hrok; omega
              have hw1 : IntKind.i64.wrap (nn + r'.lo) = nn + r'.lo := IntWalk.i64_in _ (by omega)
              have hw2 : IntKind.i64.wrap (nn + r'.lo - m) = nn + r'.lo - m := IntWalk.i64_in _ (by omega)
              have hw3 : IntKind.i64.wrap (nn + r'.hi) = nn + r'.hi := IntWalk.i64_in _ (by omega)
              have hw4 : IntKind.i64.wrap (nn + r'.hi - m) = nn + r'.hi - m := IntWalk.i64_in _ (by omega)
              obtain ⟨V, hV⟩ : ∃ V, V = nn + r'.hi - m := ⟨_, rfl⟩
              have HD := Lib.hid (fun (w' : World) (h : Below X.drew.heap.size X.drew w') => show (w'.cell? ⟨k, 3, none⟩ = some (.slice (some ⟨bc, oc, none⟩) T.ch.length p.c) ∧ w'.cell? ⟨k, 4, none⟩ = some (.int .i64 T.m)) ∧ (w'.cell? ⟨bc, oc + aj * 2, none⟩ = some (.int .i64 r'.lo) ∧ w'.cell? ⟨bc, oc + aj * 2 + 1, none⟩ = some (.int .i64 r'.hi)) ∧ k < w'.heap.size ∧ bc < w'.heap.size from by
                have h3 := (bdraw (Below.refl X.heap.size X)).trans h
                exact ⟨⟨bcell c3 h3 (Nat.le_refl _), bcell c4 h3 (Nat.le_refl _)⟩, ⟨bcell r0 h3 (Nat.le_refl _), bcell r1 h3 (Nat.le_refl _)⟩, Nat.lt_of_lt_of_le hkX h3.size, Nat.lt_of_lt_of_le hbc h3.size⟩)
              have HX0 := Lib.hid (And.intro hX (And.intro hx6 (And.intro hbX (And.intro bs (And.intro ho (And.intro hnn hV))))))
              have HX1 := Lib.hid (And.intro ho1 (And.intro ho2 (And.intro hrb (And.intro hm60 hnn'))))
              have HW4 := Lib.hid (And.intro hw1 (And.intro hw2 (And.intro hw3 hw4)))
              clear hX hx6 hbX bs btX hA hbc hr' r0 r1 hrok c3 c4 hkX hnn ho ho1 ho2 hrb hw1 hw2 hw3 hw4 hV hm60 n0 n1 g0 q0 hwn
              refine wp_region_tag 36 0 0 [] [] 0 (TYw) (PYw X.drew) [0, 0, 0, 0, 0, 0, 0, 0, 0, 0, 0, 0, 0, 0, 0, 0, 0, 0, 0, 0, 0, 0, 0, 0, 0, 0, 0, 0, 0, 0, 0, 0, 0, 0, 0, 0] (by as_aux_lemma => kernel_rfl) (by as_aux_lemma => kernel_rfl) (by as_aux_lemma => kernel_rfl) (by as_aux_lemma => kernel_rfl) (by omega) (.inl rfl) rfl rfl (fun k i w1 w2 hc _ hT hp => PYw.st k i w1 w2 hT hp) (fun k => Below.refl _ _) ?_
              apply Exists.intro
              refine ⟨fun ys => ?_, fun ops K hK => ?_⟩
              · simp only [List.take_succ_cons, List.take_zero, dstsOf, List.filterMap_cons, List.filterMap_nil, putAll]
                go_simp
                rfl
              simp only [List.take_succ_cons, List.take_zero, List.drop_succ_cons, List.drop_zero] at hK ⊢
              have ⟨hw1, hw2, hw3, hw4⟩ := HW4.out
              iterate 13
                refine LexT.const TYw.rf ?_
                apply Exists.intro
                refine ⟨fun ys w' hp hpk hq hd => ?_, ?_⟩
                · try simp [DepsOf, depsGo, DF.holds, Region.binds, EqF] at hd
                  try simp only [hd]
                  obtain ⟨⟨c3, c4⟩, ⟨r0, r1⟩, l1, l2⟩ := HD.out w' hp
                  clear hp hpk hq
                  intro Q2 hQ2
                  go_wp2_with fail
                  rfl
                try simp only [List.nil_append, List.cons_append]
              refine LexT.some (FYv (.int .i64 o.lo)) (fun i v w1 w2 hc _ hT h => h) (fun ys w' hp hpk hq hd => ?_) ?_
              · try simp [DepsOf, depsGo, DF.holds, Region.binds, EqF] at hd
                try simp only [hd]
                (have hh := HX1.out.1; clear hp hpk hq hd)
                intro Q2 hQ2
                go_wp2_with fail
                all_goals (refine ⟨Below.refl _ _, ?_⟩; first | rfl | (unfold FYv; congr 1; omega))
              try simp only [List.nil_append, List.cons_append]
              iterate 18
                refine LexT.const TYw.rf ?_
                apply Exists.intro
                refine ⟨fun ys w' hp hpk hq hd => ?_, ?_⟩
                · try simp [DepsOf, depsGo, DF.holds, Region.binds, EqF] at hd
                  try simp only [hd]
                  obtain ⟨⟨c3, c4⟩, ⟨r0, r1⟩, l1, l2⟩ := HD.out w' hp
                  clear hp hpk hq
                  intro Q2 hQ2
                  go_wp2_with fail
                  rfl
                try simp only [List.nil_append, List.cons_append]
              refine LexT.some (FYb X.heap.size (.cells #[.int .i64 (nn + r'.hi - m)] 3 (0, 0))) (fun i v w1 w2 hc _ hT h => FYb.st i v w1 w2 hT h) (fun ys w' hp hpk hq hd => ?_) ?_
              · try simp [DepsOf, depsGo, DF.holds, Region.binds, EqF] at hd
                try simp only [hd]
                have hz : X.heap.size ≤ w'.heap.size := (show Below X.drew.heap.size X.drew w' from hp).size
                clear hp hpk hq hd
                intro Q2 hQ2
                go_wp2_with fail
                exact ⟨bal0 _ _, _, rfl, hz, alloc_at rfl⟩
              try simp only [List.nil_append, List.cons_append]
              refine LexT.some (FYv (.int .i64 o.hi)) (fun i v w1 w2 hc _ hT h => h) (fun ys w' hp hpk hq hd => ?_) ?_
              · try simp [DepsOf, depsGo, DF.holds, Region.binds, EqF] at hd
                try simp only [hd]
                obtain ⟨-, qq, e1, hq1, hq2⟩ := hd
                simp only [e1]
                have hcl := tleast_any T.m (nn + r'.hi - m) qq w' hq2
                rw [← HX1.out.2.1] at hcl
                clear hp hpk hq e1 hq1 hq2
                intro Q2 hQ2
                go_wp2_with fail
                (with_reducible refine hcl.mono ?_)
                rintro e w4 ⟨rfl, hb4⟩
                have HX := Lib.hid (show TYw 0 w' w4 ∧ FYv (.int .i64 o.hi) (.int .i64 o.hi) w4 from ⟨by rw [hb4]; exact Below.refl _ _, rfl⟩)
                clear hb4
                go_wp2
                exact ⟨_, rfl, HX.out⟩
              try simp only [List.nil_append, List.cons_append]
              refine LexT.some (FYv (spV o)) (fun i v w1 w2 hc _ hT h => h) (fun ys w' hp hpk hq hd => ?_) ?_
              · try simp [DepsOf, depsGo, DF.holds, Region.binds, EqF] at hd
                try simp only [hd]
                (obtain ⟨y1, y2⟩ := hd; have y1 : ys 82 = .int .i64 o.lo := y1; have y2 : ys 102 = .int .i64 o.hi := y2; simp only [y1, y2]; clear hp hpk hq y1 y2)
                intro Q2 hQ2
                go_wp2_with fail
                all_goals (refine ⟨Below.refl _ _, ?_⟩; first | rfl | (unfold FYv; congr 1; omega))
              try simp only [List.nil_append, List.cons_append]
              refine LexT.some (FYp X.heap.size (spO sp0)) (fun i v w1 w2 hc _ hT h => FYp.st i v w1 w2 hT h) (fun ys w' hp hpk hq hd => ?_) ?_
              · try simp [DepsOf, depsGo, DF.holds, Region.binds, EqF] at hd
                try simp only [hd]
                have hz : X.heap.size ≤ w'.heap.size := (show Below X.drew.heap.size X.drew w' from hp).size
                clear hp hpk hq hd
                intro Q2 hQ2
                go_wp2_with fail
                exact ⟨bal0 _ _, _, rfl, hz, alloc_at rfl⟩
              try simp only [List.nil_append, List.cons_append]
              refine hK _ fun ys w' hp hF => ?_
              simp [AllF, DF.holds] at hF
              obtain ⟨-, -, -, -, -, -, -, -, -, -, -, -, -, -, -, -, -, -, -, -, -, -, -, -, -, -, -, -, -, -, -, -, -, -, f103, f18⟩ := hF
              have f103 : ys 103 = spV o := f103
              obtain ⟨x8, e18, hx8, b8⟩ := f18
              simp only [f103, e18]
              have hpB : Below X.heap.size X w' := (bdraw (Below.refl X.heap.size X)).trans hp
              have y0 := frz b8 0
              have y1 := frz b8 1
              obtain ⟨v0, v1⟩ := blk2 b8
              have hl8 := heap_lt b8
              have HP := Lib.hid (And.intro hpB b8)
              clear hK f103 e18 hp hpB b8 hw1 hw2 hw3 hw4
              go_upto_region 17 with (fail)
              obtain ⟨Z, hZ⟩ : ∃ Z, Z = (w'.setCell ⟨x8, 0, none⟩ (.int .i64 o.lo)).setCell ⟨x8, 1, none⟩ (.int .i64 o.hi) := ⟨_, rfl⟩
              rw [← hZ]
              have z8 : Z.heap[x8]? = some (spO o) := by rw [hZ]; exact set_blk (set_blk HP.out.2)
              have hbZ : Below X.heap.size X Z := by rw [hZ]; exact Below.setCell (Below.setCell HP.out.1 (p := ⟨x8, 0, none⟩) hx8 _) (p := ⟨x8, 1, none⟩) hx8 _
              have z6 : Z.heap[x6]? = some (spO s) := bheap HX0.out.2.2.2.1 hbZ (Nat.le_refl _)
              have hx68 : x6 < x8 := by have := heap_lt HX0.out.2.2.2.1; omega
              have hbkZ : Below wk.heap.size wk Z := HX0.out.2.2.1.trans (hbZ.mono HX0.out.2.2.1.size)
              have hwkx : wk.heap.size ≤ x6 := Nat.le_of_eq HX0.out.2.1.symm
              have HZ := Lib.hid (And.intro z8 (And.intro z6 hbkZ))
              obtain ⟨v0, v1⟩ := blk2 z8
              obtain ⟨u0, u1⟩ := blk2 z6
              have hl8 := heap_lt z8
              have hl6 := heap_lt z6
              have hce := fun w => temp_any s w
              have hco := fun w => temp_any o w
              obtain ⟨es, hes⟩ : ∃ e, e = s.emp := ⟨_, rfl⟩
              obtain ⟨eo, heo⟩ : ∃ e, e = o.emp := ⟨_, rfl⟩
              rw [← hes] at hce
              rw [← heo] at hco
              have HE := Lib.hid (And.intro hes heo)
              clear hZ z8 z6 hbZ hbkZ y0 y1 hes heo
              cases es
              · cases eo
                · go_upto_region 18 with (first
                    | (go_at_call 79; (with_reducible refine (hce _).mono ?_); rintro e w8 ⟨rfl, hb8⟩; have v0 := bcell v0 hb8 (Nat.le_refl _); have v1 := bcell v1 hb8 (Nat.le_refl _); have hl8 := Nat.lt_of_lt_of_le hl8 hb8.size; have hl6 := Nat.lt_of_lt_of_le hl6 hb8.size; have HB8 := Lib.hid hb8; clear hb8)
                    | (go_at_call 79; (with_reducible refine (hco _).mono ?_); rintro e w9 ⟨rfl, hb9⟩; have HB9 := Lib.hid hb9; clear hb9))
                  have hb9 : Below Z.heap.size Z w9 := HB8.out.trans (HB9.out.mono HB8.out.size)
                  have a6 := bheap HZ.out.2.1 hb9 (Nat.le_refl _)
                  have a8 := bheap HZ.out.1 hb9 (Nat.le_refl _)
                  have hbk9 : Below wk.heap.size wk w9 := HZ.out.2.2.trans (hb9.mono HZ.out.2.2.size)
                  obtain ⟨u0, u1⟩ := blk2 a6
                  obtain ⟨v0, v1⟩ := blk2 a8
                  have fz0 := frz a6 0
                  have fz1 := frz a6 1
                  have hl6' := heap_lt a6
                  have hl8' := heap_lt a8
                  obtain ⟨u, hu⟩ : ∃ u, u = s.add o := ⟨_, rfl⟩
                  have hsb : 0 ≤ s.lo ∧ s.lo ≤ 300 ∧ 0 ≤ s.hi ∧ s.hi ≤ 300 := by
                    have h1 := getD_inP (d := sp0) H5.out.2.2.2.2.2.2.1 (by right; unfold sp0; dsimp only; omega) k3
                    rw [← HB.out.2.2.2] at h1
                    have h2 := emp_le HE.out.1.symm
                    rcases h1 with h1 | h1
                    · rw [h1] at h2; unfold spE at h2; dsimp only at h2; omega
                    · omega
                  have hob : 0 ≤ o.lo ∧ o.lo ≤ 60 ∧ 0 ≤ o.hi ∧ o.hi ≤ 60 := by
                    have h2 := emp_le HE.out.2.symm
                    have h3 := HX1.out.1
                    have h4 := HX1.out.2.1
                    have h5 := HX1.out.2.2.2.1
                    omega
                  have had : ∀ w, Calls Try.prog 75 #[.agg #[.int .i64 s.lo, .int .i64 s.hi], .agg #[.int .i64 o.lo, .int .i64 o.hi]] w fun e w' => e = .returned (.agg #[.int .i64 u.lo, .int .i64 u.hi]) ∧ Below w.heap.size w w' := fun w => by rw [hu]; exact tadd_any s o w (by unfold Sp.bd Sp.add; dsimp only; omega)
                  have HA9 := Lib.hid (And.intro a6 (And.intro hbk9 (And.intro hu (And.intro hsb hob))))
                  clear hb9 a6 a8 hbk9 hu hsb hob hce hco hl6 hl8
                  go_upto_region 19 with (go_at_call 75; (with_reducible refine (had _).mono ?_); rintro e w10 ⟨rfl, hb10⟩; have a10 := bheap HA9.out.1 hb10 (Nat.le_refl _); obtain ⟨ca10, cb10⟩ := blk2 a10; have fy0 := frz a10 0; have fy1 := frz a10 1; have hl10 := heap_lt a10; have HA10 := Lib.hid (And.intro hb10 a10); clear hb10 a10)
                  obtain ⟨Y, hY⟩ : ∃ Y, Y = (w10.setCell ⟨x6, 0, none⟩ (.int .i64 u.lo)).setCell ⟨x6, 1, none⟩ (.int .i64 u.hi) := ⟨_, rfl⟩
                  rw [← hY]
                  have y6 : Y.heap[x6]? = some (spO u) := by rw [hY]; exact set_blk (set_blk HA10.out.2)
                  have hbkY : Below wk.heap.size wk Y := by rw [hY]; exact Below.setCell (Below.setCell (HA9.out.2.1.trans (HA10.out.1.mono HA9.out.2.1.size)) (p := ⟨x6, 0, none⟩) hwkx _) (p := ⟨x6, 1, none⟩) hwkx _
                  obtain ⟨acc, hacc⟩ : ∃ x, x = lossCell r' T.m lo0 m now k3 := ⟨_, rfl⟩
                  have yb := HK.out.2.1.below hbkY (Nat.le_refl _)
                  rw [← hacc] at yb
                  have hil : i < (l.set i acc).length := by rw [List.length_set]; have := HI.out.2.1; omega
                  obtain ⟨p0, p1⟩ := yb.get hil
                  have hgs : (l.set i acc).getD i sp0 = acc := by rw [List.getD_eq_getElem?_getD, List.getElem?_set_self (by have := HI.out.2.1; omega)]; rfl
                  rw [hgs] at p0 p1
                  have hybl := yb.lt
                  have hy6l := heap_lt y6
                  obtain ⟨t1, ht1⟩ : ∃ t, t = min acc.lo u.lo := ⟨_, rfl⟩
                  obtain ⟨t2, ht2⟩ : ∃ t, t = max acc.hi u.hi := ⟨_, rfl⟩
                  have HDY := Lib.hid (fun (w' : World) (h : Below Y.drew.heap.size Y.drew w') => show (w'.cell? ⟨xb, i * 2, none⟩ = some (.int .i64 acc.lo) ∧ w'.cell? ⟨xb, i * 2 + 1, none⟩ = some (.int .i64 acc.hi)) ∧ (w'.cell? ⟨x6, 0, none⟩ = some (.int .i64 u.lo) ∧ w'.cell? ⟨x6, 1, none⟩ = some (.int .i64 u.hi)) ∧ xb < w'.heap.size ∧ x6 < w'.heap.size from by
                    have h3 := (bdraw (Below.refl Y.heap.size Y)).trans h
                    exact ⟨⟨bcell p0 h3 (Nat.le_refl _), bcell p1 h3 (Nat.le_refl _)⟩, blk2 (bheap y6 h3 (Nat.le_refl _)), Nat.lt_of_lt_of_le hybl h3.size, Nat.lt_of_lt_of_le hy6l h3.size⟩)
                  have HYY := Lib.hid (And.intro hbkY (And.intro yb (And.intro hacc (And.intro hil (And.intro ht1 ht2)))))
                  have i3 : (0 : Int) ≤ (i : Int) := by omega
                  clear hY y6 hbkY hacc yb hil p0 p1 hgs ht1 ht2 u0 u1 v0 v1 fz0 fz1 fy0 fy1 hl10 had ca10 cb10
                  refine wp_region_tag 21 0 0 [] [] 0 (TYw) (PYw Y.drew) [0, 0, 0, 0, 0, 0, 0, 0, 0, 0, 0, 0, 0, 0, 0, 0, 0, 0, 0, 0, 0] (by as_aux_lemma => kernel_rfl) (by as_aux_lemma => kernel_rfl) (by as_aux_lemma => kernel_rfl) (by as_aux_lemma => kernel_rfl) (by omega) (.inl rfl) rfl rfl (fun k i w1 w2 hc _ hT hp => PYw.st k i w1 w2 hT hp) (fun k => Below.refl _ _) ?_
                  apply Exists.intro
                  refine ⟨fun ys => ?_, fun ops K hK => ?_⟩
                  · simp only [List.take_succ_cons, List.take_zero, dstsOf, List.filterMap_cons, List.filterMap_nil, putAll]
                    go_simp
                    rfl
                  simp only [List.take_succ_cons, List.take_zero, List.drop_succ_cons, List.drop_zero] at hK ⊢
                  iterate 9
                    refine LexT.const TYw.rf ?_
                    apply Exists.intro
                    refine ⟨fun ys w' hp hpk hq hd => ?_, ?_⟩
                    · try simp [DepsOf, depsGo, DF.holds, Region.binds, EqF] at hd
                      try simp only [hd]
                      obtain ⟨⟨c3, c4⟩, ⟨r0, r1⟩, l1, l2⟩ := HDY.out w' hp
                      clear hp hpk hq
                      intro Q2 hQ2
                      go_wp2_with fail
                      rfl
                    try simp only [List.nil_append, List.cons_append]
                  refine LexT.some (FYb Y.heap.size (.cells #[.int .i64 u.lo] 3 (0, 0))) (fun i v w1 w2 hc _ hT h => FYb.st i v w1 w2 hT h) (fun ys w' hp hpk hq hd => ?_) ?_
                  · try simp [DepsOf, depsGo, DF.holds, Region.binds, EqF] at hd
                    try simp only [hd]
                    have hz : Y.heap.size ≤ w'.heap.size := (show Below Y.drew.heap.size Y.drew w' from hp).size
                    clear hp hpk hq hd
                    intro Q2 hQ2
                    go_wp2_with fail
                    exact ⟨bal0 _ _, _, rfl, hz, alloc_at rfl⟩
                  try simp only [List.nil_append, List.cons_append]
                  refine LexT.some (FYv (.int .i64 t1)) (fun i v w1 w2 hc _ hT h => h) (fun ys w' hp hpk hq hd => ?_) ?_
                  · try simp [DepsOf, depsGo, DF.holds, Region.binds, EqF] at hd
                    try simp only [hd]
                    obtain ⟨-, qq, e1, hq1, hq2⟩ := hd
                    simp only [e1]
                    have hcl := tleast_any acc.lo u.lo qq w' hq2
                    rw [← HYY.out.2.2.2.2.1] at hcl
                    clear hp hpk hq e1 hq1 hq2
                    intro Q2 hQ2
                    go_wp2_with fail
                    (with_reducible refine hcl.mono ?_)
                    rintro e w4 ⟨rfl, hb4⟩
                    have HX := Lib.hid (show TYw 0 w' w4 ∧ FYv (.int .i64 t1) (.int .i64 t1) w4 from ⟨by rw [hb4]; exact Below.refl _ _, rfl⟩)
                    clear hb4
                    go_wp2
                    exact ⟨_, rfl, HX.out⟩
                  try simp only [List.nil_append, List.cons_append]
                  iterate 7
                    refine LexT.const TYw.rf ?_
                    apply Exists.intro
                    refine ⟨fun ys w' hp hpk hq hd => ?_, ?_⟩
                    · try simp [DepsOf, depsGo, DF.holds, Region.binds, EqF] at hd
                      try simp only [hd]
                      obtain ⟨⟨c3, c4⟩, ⟨r0, r1⟩, l1, l2⟩ := HDY.out w' hp
                      clear hp hpk hq
                      intro Q2 hQ2
                      go_wp2_with fail
                      rfl
                    try simp only [List.nil_append, List.cons_append]
                  refine LexT.some (FYv (.int .i64 t2)) (fun i v w1 w2 hc _ hT h => h) (fun ys w' hp hpk hq hd => ?_) ?_
                  · try simp [DepsOf, depsGo, DF.holds, Region.binds, EqF] at hd
                    try simp only [hd]
                    (have hh := HYY.out.2.2.2.2.2; clear hp hpk hq hd)
                    intro Q2 hQ2
                    go_wp2_with fail
                    all_goals (refine ⟨Below.refl _ _, ?_⟩; first | rfl | (unfold FYv; congr 1; omega))
                  try simp only [List.nil_append, List.cons_append]
                  refine LexT.some (FYv (.agg #[.int .i64 t1, .int .i64 t2])) (fun i v w1 w2 hc _ hT h => h) (fun ys w' hp hpk hq hd => ?_) ?_
                  · try simp [DepsOf, depsGo, DF.holds, Region.binds, EqF] at hd
                    try simp only [hd]
                    (obtain ⟨y1, y2⟩ := hd; have y1 : ys 125 = .int .i64 t1 := y1; have y2 : ys 133 = .int .i64 t2 := y2; simp only [y1, y2]; clear hp hpk hq y1 y2)
                    intro Q2 hQ2
                    go_wp2_with fail
                    all_goals (refine ⟨Below.refl _ _, ?_⟩; first | rfl | (unfold FYv; congr 1; omega))
                  try simp only [List.nil_append, List.cons_append]
                  iterate 1
                    refine LexT.const TYw.rf ?_
                    apply Exists.intro
                    refine ⟨fun ys w' hp hpk hq hd => ?_, ?_⟩
                    · try simp [DepsOf, depsGo, DF.holds, Region.binds, EqF] at hd
                      try simp only [hd]
                      obtain ⟨⟨c3, c4⟩, ⟨r0, r1⟩, l1, l2⟩ := HDY.out w' hp
                      clear hp hpk hq
                      intro Q2 hQ2
                      go_wp2_with fail
                      rfl
                    try simp only [List.nil_append, List.cons_append]
                  refine hK _ fun ys w' hp hF => ?_
                  simp [AllF, DF.holds] at hF
                  obtain ⟨-, -, -, -, -, -, -, -, -, -, -, -, -, -, -, -, -, -, -, f134, f135⟩ := hF
                  have f134 : ys 134 = .agg #[.int .i64 t1, .int .i64 t2] := f134
                  simp only [f134, f135]
                  have hpB : Below Y.heap.size Y w' := (bdraw (Below.refl Y.heap.size Y)).trans hp
                  have b4 := HYY.out.2.1.below hpB (Nat.le_refl _)
                  have y0 := b4.free (i * 2)
                  have y1 := b4.free (i * 2 + 1)
                  obtain ⟨v0, v1⟩ := b4.get HYY.out.2.2.2.1
                  have hl4 := b4.lt
                  have HXX := Lib.hid (And.intro hpB b4)
                  clear hK f134 f135 hp hpB b4
                  go_wp2
                  go_roundg (gk - 1)
                  case measure => have := HK.out.1; omega
                  case rel =>
                    refine ⟨k3 + 1, by have := HK.out.1; omega, by go_num, ?_, GrB.set (GrB.set (GrB.then HK.out.2.2 (gbB (HYY.out.1.trans (HXX.out.1.mono HYY.out.1.size))) (fun i e => by cases e)) _) _⟩
                    have h := HXX.out.2.set i ⟨t1, t2⟩
                    rw [List.set_set] at h
                    have hst : lossCell r' T.m lo0 m now (k3 + 1) = ⟨t1, t2⟩ := by
                      show lossStep r' T.m (lo0 + (k3 : Int)) m (lossCell r' T.m lo0 m now k3) (now.getD k3 sp0) = _
                      rw [← HX0.out.2.2.2.2.2.1, ← HYY.out.2.2.1, ← HB.out.2.2.2]
                      unfold lossStep
                      rw [← HX0.out.2.2.2.2.1, if_pos ⟨HE.out.1.symm, HE.out.2.symm⟩, HYY.out.2.2.2.2.1, HYY.out.2.2.2.2.2, HA9.out.2.2.1]
                      rfl
                    rw [hst]
                    exact h
                · go_wp2_with (first
                    | (go_at_call 79; (with_reducible refine (hce _).mono ?_); rintro e w8 ⟨rfl, hb8⟩; have v0 := bcell v0 hb8 (Nat.le_refl _); have v1 := bcell v1 hb8 (Nat.le_refl _); have hl8 := Nat.lt_of_lt_of_le hl8 hb8.size; have hl6 := Nat.lt_of_lt_of_le hl6 hb8.size; have HB8 := Lib.hid hb8; clear hb8)
                    | (go_at_call 79; (with_reducible refine (hco _).mono ?_); rintro e w9 ⟨rfl, hb9⟩; have HB9 := Lib.hid hb9; clear hb9))
                  go_roundg (gk - 1)
                  case measure => have := HK.out.1; omega
                  case rel =>
                    have hb9 : Below wk.heap.size wk w9 := HZ.out.2.2.trans ((HB8.out.trans (HB9.out.mono HB8.out.size)).mono HZ.out.2.2.size)
                    refine ⟨k3 + 1, by have := HK.out.1; omega, by go_num, ?_, GrB.then HK.out.2.2 (gbB hb9) (fun i e => by cases e)⟩
                    have hst : lossCell r' T.m lo0 m now (k3 + 1) = lossCell r' T.m lo0 m now k3 := by
                      show lossStep r' T.m (lo0 + (k3 : Int)) m (lossCell r' T.m lo0 m now k3) (now.getD k3 sp0) = _
                      rw [← HX0.out.2.2.2.2.2.1, ← HB.out.2.2.2]
                      unfold lossStep
                      rw [← HX0.out.2.2.2.2.1, if_neg (fun h => by have := HE.out.2; rw [h.2] at this; cases this)]
                    rw [hst]
                    exact HK.out.2.1.below hb9 (Nat.le_refl _)
              · go_wp2_with (go_at_call 79; (with_reducible refine (hce _).mono ?_); rintro e w8 ⟨rfl, hb8⟩; have HB8 := Lib.hid hb8; clear hb8)
                go_roundg (gk - 1)
                case measure => have := HK.out.1; omega
                case rel =>
                  have hb9 : Below wk.heap.size wk w8 := HZ.out.2.2.trans (HB8.out.mono HZ.out.2.2.size)
                  refine ⟨k3 + 1, by have := HK.out.1; omega, by go_num, ?_, GrB.then HK.out.2.2 (gbB hb9) (fun i e => by cases e)⟩
                  have hst : lossCell r' T.m lo0 m now (k3 + 1) = lossCell r' T.m lo0 m now k3 := by
                    show lossStep r' T.m (lo0 + (k3 : Int)) m (lossCell r' T.m lo0 m now k3) (now.getD k3 sp0) = _
                    rw [← HX0.out.2.2.2.2.2.1, ← HB.out.2.2.2]
                    unfold lossStep
                    rw [← HX0.out.2.2.2.2.1, if_neg (fun h => by have := HE.out.1; rw [h.1] at this; cases this)]
                  rw [hst]
                  exact HK.out.2.1.below hb9 (Nat.le_refl _)
            · obtain rfl : k3 = N := by omega
              clear hk3 hlb hgw
              go_wp2_with fail
              go_roundg (gb - 1)
              case measure => have := HI.out.1; omega
              case rel =>
                refine ⟨i + 1, _, by have := HI.out.1; omega, by go_num, ?_, HK.out.2.1, HK.out.2.2, ?_⟩
                · rw [List.length_set]; exact HI.out.2.1
                · rw [take_set (by have := HI.out.2.1; omega), HI.out.2.2.2.2, List.take_add_one, H5.out.2.2.2.2.2.2.2 hlt2, H5.out.2.2.2.2.2.1]
                  rfl
        · obtain rfl : i = N1 := by omega
          have hl1 : l = lossTo T L a (j + 1) := by
            have h := htk
            rwa [List.take_of_length_le (by omega), List.take_of_length_le (by rw [lossTo_len, ← Nat.add_assoc, ← HAJ.out]; have := HN1.out; rw [← HAJ.out] at this; omega)] at h
          subst hl1
          clear hi hl hlb hgw htk
          go_wp2_with fail
          go_roundg (ga - 1)
          case measure => have := HJ.out.1; omega
          case rel =>
            refine ⟨j + 1, xb, i, by have := HJ.out.1; omega, by have := HAJ.out; congr 1; omega, rfl, ?_, by omega, HI.out.2.2.1, by have := HN1.out; rw [this, ← Nat.add_assoc, ← HAJ.out]⟩
            exact ⟨HI.out.2.2.2.1.os.trans H4.out.2.2.2.os, HI.out.2.2.2.1.tape.trans H4.out.2.2.2.tape, HI.out.2.2.2.1.output.trans H4.out.2.2.2.output, Nat.le_trans H4.out.2.2.2.size HI.out.2.2.2.1.size, fun kk hkk => (HI.out.2.2.2.1.block kk (by have := H4.out.2.2.2.size; omega) (fun e => by injection e with e; omega)).trans (H4.out.2.2.2.block kk hkk)⟩
    · have hjb : a + j = b := by have := HJ.out.1; omega
      obtain ⟨E, hE⟩ : ∃ E, E = lossTo T L a j := ⟨_, rfl⟩
      rw [← hE] at hsn
      have hEl : E.length = N := by rw [hE, lossTo_len, hN]
      have hN1 : 1 ≤ N := by rw [hN]; exact (HWD.out (a + j) (by omega)).2
      have hN2 : N ≤ 601 := by rw [hN]; exact (HWD.out (a + j) (by omega)).1
      have hbj : b - a = j := by omega
      obtain ⟨E0, hE0⟩ : ∃ x, x = E.getD 0 sp0 := ⟨_, rfl⟩
      obtain ⟨e0, e1⟩ := hsn.get (show 0 < E.length by omega)
      rw [← hE0] at e0 e1
      rw [Nat.zero_mul] at e0 e1
      have hnl := hsn.lt
      have HE := Lib.hid (And.intro hE (And.intro hEl (And.intro hbj (And.intro hE0 (And.intro hsn hbr)))))
      have iN0 : (0 : Int) < (N : Int) := by omega
      have ilt : ¬ ((a + j : Nat) : Int) < (b : Int) := by omega
      have hqj : q + 1 < wj.heap.size := by have := hbr.size; omega
      obtain ⟨aj, haj⟩ : ∃ x, x = a + j := ⟨_, rfl⟩
      rw [← haj] at ilt ⊢
      clear hE hEl hbj hE0 hsn hN hj hjb haj hlt hbr
      go_wp2_with fail
      obtain ⟨w6, hw6⟩ : ∃ X, X = wj.alloc (Obj.cells #[Value.int .i64 E0.lo, .int .i64 E0.hi] 91) := ⟨_, rfl⟩
      obtain ⟨x9, hx9⟩ : ∃ x, x = wj.heap.size := ⟨_, rfl⟩
      rw [← hw6, ← hx9]
      have b6 : w6.heap[x9]? = some (spO E0) := by rw [hw6, hx9]; exact alloc_at rfl
      have hb6 : Below wj.heap.size wj w6 := by rw [hw6]; exact bal0 wj _
      have hx9' : wj.heap.size ≤ x9 := Nat.le_of_eq hx9.symm
      have hnx : nb < x9 := by omega
      have hqx : q + 1 < x9 := by omega
      have H6 := Lib.hid (And.intro b6 (And.intro hb6 hx9))
      clear hw6 hx9 b6 hb6 e0 e1
      go_loopg [21, 144, 145, 146, 147, 148, 149, 150, 151, 152, 153, 154, 155, 156, 157, 158, 159, 160] N (fun gh _ v144 _ _ _ _ _ _ _ _ _ _ _ _ _ _ _ _ wr => ∃ kk : Nat, kk + gh = N ∧ v144 = .int .i64 (kk : Int) ∧ wr.heap[x9]? = some (spO ((E.take kk).foldl minmax E0)) ∧ Below wj.heap.size wj wr)
      case atStart => exact ⟨0, by omega, rfl, H6.out.1, H6.out.2.1⟩
      case round =>
        obtain ⟨kk, hkk, rfl, hb9, hbw⟩ := hrel
        obtain ⟨cur, hcur⟩ : ∃ x, x = (E.take kk).foldl minmax E0 := ⟨_, rfl⟩
        rw [← hcur] at hb9
        have HK := Lib.hid (And.intro hkk (And.intro hb9 (And.intro hbw hcur)))
        obtain ⟨wk, hwk⟩ : ∃ X : World, X = wr := ⟨_, rfl⟩
        rw [← hwk] at HK hb9 hbw ⊢
        clear hwk
        by_cases hlt : kk < N
        · obtain ⟨s, hs⟩ : ∃ s, s = E.getD kk sp0 := ⟨_, rfl⟩
          have hsk := HE.out.2.2.2.2.1.below hbw (Nat.le_refl _)
          obtain ⟨e0, e1⟩ := hsk.get (show kk < E.length by have := HE.out.2.1; omega)
          rw [← hs] at e0 e1
          have hnk := hsk.lt
          have hx9k := heap_lt hb9
          have ik : (kk : Int) < (N : Int) := by omega
          have hss : E[kk]? = some s := by rw [hs, List.getD_eq_getElem?_getD, List.getElem?_eq_getElem (show kk < E.length by have := HE.out.2.1; omega)]; rfl
          have HS := Lib.hid hss
          clear hsk hs hss hkk hb9 hbw hcur
          go_upto_region 27 with (fail)
          obtain ⟨Y, hY⟩ : ∃ Y, Y = wk.alloc (Obj.cells #[Value.int .i64 s.lo, .int .i64 s.hi] 91) := ⟨_, rfl⟩
          obtain ⟨x6, hx6⟩ : ∃ x, x = wk.heap.size := ⟨_, rfl⟩
          rw [← hY, ← hx6]
          have y6 : Y.heap[x6]? = some (spO s) := by rw [hY, hx6]; exact alloc_at rfl
          have hbY : Below wk.heap.size wk Y := by rw [hY]; exact bal0 wk _
          have y9 := bheap HK.out.2.1 hbY (Nat.le_refl _)
          obtain ⟨t1, ht1⟩ : ∃ t, t = min cur.lo s.lo := ⟨_, rfl⟩
          obtain ⟨t2, ht2⟩ : ∃ t, t = max cur.hi s.hi := ⟨_, rfl⟩
          have HDY := Lib.hid (fun (w' : World) (h : Below Y.drew.heap.size Y.drew w') => show (w'.cell? ⟨x9, 0, none⟩ = some (.int .i64 cur.lo) ∧ w'.cell? ⟨x9, 1, none⟩ = some (.int .i64 cur.hi)) ∧ (w'.cell? ⟨x6, 0, none⟩ = some (.int .i64 s.lo) ∧ w'.cell? ⟨x6, 1, none⟩ = some (.int .i64 s.hi)) ∧ x9 < w'.heap.size ∧ x6 < w'.heap.size from by
            have h3 := (bdraw (Below.refl Y.heap.size Y)).trans h
            have h4 := bheap y9 h3 (Nat.le_refl _)
            have h5 := bheap y6 h3 (Nat.le_refl _)
            exact ⟨blk2 h4, blk2 h5, heap_lt h4, heap_lt h5⟩)
          have HYY := Lib.hid (And.intro hbY (And.intro y9 (And.intro ht1 ht2)))
          clear hY hx6 y6 hbY y9 ht1 ht2 e0 e1
          refine wp_region_tag 12 0 0 [] [] 0 (TYw) (PYw Y.drew) [0, 0, 0, 0, 0, 0, 0, 0, 0, 0, 0, 0] (by as_aux_lemma => kernel_rfl) (by as_aux_lemma => kernel_rfl) (by as_aux_lemma => kernel_rfl) (by as_aux_lemma => kernel_rfl) (by omega) (.inl rfl) rfl rfl (fun k i w1 w2 hc _ hT hp => PYw.st k i w1 w2 hT hp) (fun k => Below.refl _ _) ?_
          apply Exists.intro
          refine ⟨fun ys => ?_, fun ops K hK => ?_⟩
          · simp only [List.take_succ_cons, List.take_zero, dstsOf, List.filterMap_cons, List.filterMap_nil, putAll]
            go_simp
            rfl
          simp only [List.take_succ_cons, List.take_zero, List.drop_succ_cons, List.drop_zero] at hK ⊢
          iterate 4
            refine LexT.const TYw.rf ?_
            apply Exists.intro
            refine ⟨fun ys w' hp hpk hq hd => ?_, ?_⟩
            · try simp [DepsOf, depsGo, DF.holds, Region.binds, EqF] at hd
              try simp only [hd]
              obtain ⟨⟨c3, c4⟩, ⟨r0, r1⟩, l1, l2⟩ := HDY.out w' hp
              clear hp hpk hq
              intro Q2 hQ2
              go_wp2_with fail
              rfl
            try simp only [List.nil_append, List.cons_append]
          refine LexT.some (FYb Y.heap.size (.cells #[.int .i64 s.lo] 3 (0, 0))) (fun i v w1 w2 hc _ hT h => FYb.st i v w1 w2 hT h) (fun ys w' hp hpk hq hd => ?_) ?_
          · try simp [DepsOf, depsGo, DF.holds, Region.binds, EqF] at hd
            try simp only [hd]
            have hz : Y.heap.size ≤ w'.heap.size := (show Below Y.drew.heap.size Y.drew w' from hp).size
            clear hp hpk hq hd
            intro Q2 hQ2
            go_wp2_with fail
            exact ⟨bal0 _ _, _, rfl, hz, alloc_at rfl⟩
          try simp only [List.nil_append, List.cons_append]
          refine LexT.some (FYv (.int .i64 t1)) (fun i v w1 w2 hc _ hT h => h) (fun ys w' hp hpk hq hd => ?_) ?_
          · try simp [DepsOf, depsGo, DF.holds, Region.binds, EqF] at hd
            try simp only [hd]
            obtain ⟨-, qq, e1, hq1, hq2⟩ := hd
            simp only [e1]
            have hcl := tleast_any cur.lo s.lo qq w' hq2
            rw [← HYY.out.2.2.1] at hcl
            clear hp hpk hq e1 hq1 hq2
            intro Q2 hQ2
            go_wp2_with fail
            (with_reducible refine hcl.mono ?_)
            rintro e w4 ⟨rfl, hb4⟩
            have HX := Lib.hid (show TYw 0 w' w4 ∧ FYv (.int .i64 t1) (.int .i64 t1) w4 from ⟨by rw [hb4]; exact Below.refl _ _, rfl⟩)
            clear hb4
            go_wp2
            exact ⟨_, rfl, HX.out⟩
          try simp only [List.nil_append, List.cons_append]
          iterate 4
            refine LexT.const TYw.rf ?_
            apply Exists.intro
            refine ⟨fun ys w' hp hpk hq hd => ?_, ?_⟩
            · try simp [DepsOf, depsGo, DF.holds, Region.binds, EqF] at hd
              try simp only [hd]
              obtain ⟨⟨c3, c4⟩, ⟨r0, r1⟩, l1, l2⟩ := HDY.out w' hp
              clear hp hpk hq
              intro Q2 hQ2
              go_wp2_with fail
              rfl
            try simp only [List.nil_append, List.cons_append]
          refine LexT.some (FYv (.int .i64 t2)) (fun i v w1 w2 hc _ hT h => h) (fun ys w' hp hpk hq hd => ?_) ?_
          · try simp [DepsOf, depsGo, DF.holds, Region.binds, EqF] at hd
            try simp only [hd]
            (have hh := HYY.out.2.2.2; clear hp hpk hq hd)
            intro Q2 hQ2
            go_wp2_with fail
            all_goals (refine ⟨Below.refl _ _, ?_⟩; first | rfl | (unfold FYv; congr 1; omega))
          try simp only [List.nil_append, List.cons_append]
          refine LexT.some (FYv (.agg #[.int .i64 t1, .int .i64 t2])) (fun i v w1 w2 hc _ hT h => h) (fun ys w' hp hpk hq hd => ?_) ?_
          · try simp [DepsOf, depsGo, DF.holds, Region.binds, EqF] at hd
            try simp only [hd]
            (obtain ⟨y1, y2⟩ := hd; have y1 : ys 153 = .int .i64 t1 := y1; have y2 : ys 158 = .int .i64 t2 := y2; simp only [y1, y2]; clear hp hpk hq y1 y2)
            intro Q2 hQ2
            go_wp2_with fail
            all_goals (refine ⟨Below.refl _ _, ?_⟩; first | rfl | (unfold FYv; congr 1; omega))
          try simp only [List.nil_append, List.cons_append]
          refine hK _ fun ys w' hp hF => ?_
          simp [AllF, DF.holds] at hF
          obtain ⟨-, -, -, -, -, -, -, -, -, -, -, f159⟩ := hF
          have f159 : ys 159 = .agg #[.int .i64 t1, .int .i64 t2] := f159
          simp only [f159]
          have hpB : Below Y.heap.size Y w' := (bdraw (Below.refl Y.heap.size Y)).trans hp
          have b4 := bheap HYY.out.2.1 hpB (Nat.le_refl _)
          have y0 := frz b4 0
          have y1 := frz b4 1
          obtain ⟨v0, v1⟩ := blk2 b4
          have hl4 := heap_lt b4
          have HXX := Lib.hid (And.intro hpB b4)
          clear hK f159 hp hpB b4
          go_wp2
          go_roundg (gk - 1)
          case measure => have := HK.out.1; omega
          case rel =>
            have hbb : Below wj.heap.size wj w' := HK.out.2.2.1.trans ((HYY.out.1.trans (HXX.out.1.mono HYY.out.1.size)).mono HK.out.2.2.1.size)
            refine ⟨kk + 1, by have := HK.out.1; omega, by go_num, ?_, Below.setCell (Below.setCell hbb (p := ⟨x9, 0, none⟩) hx9' _) (p := ⟨x9, 1, none⟩) hx9' _⟩
            rw [List.take_add_one, HS.out, List.foldl_append, ← HK.out.2.2.2]
            show _ = some (spO (minmax cur s))
            unfold minmax
            rw [← HYY.out.2.2.1, ← HYY.out.2.2.2]
            exact set_blk (set_blk HXX.out.2)
        · obtain rfl : kk = N := by omega
          have hfin : lostF T L a b = cur := by
            unfold lostF
            rw [HE.out.2.2.1, ← HE.out.1, ← HE.out.2.2.2.1, hcur, List.take_of_length_le (by rw [HE.out.2.1]; exact Nat.le_refl _)]
          have b8 := bheap (HE.out.2.2.2.2.2 |> fun h => bheap H0.out.2.2.2.2.2.1 h (Nat.le_refl _)) hbw (Nat.le_refl _)
          obtain ⟨u0, u1⟩ := blk2 hb9
          obtain ⟨v0, v1⟩ := blk2 b8
          have f0 := frz b8 0
          have f1 := frz b8 1
          have hl9 := heap_lt hb9
          have hl8 := heap_lt b8
          have HF := Lib.hid (And.intro hfin (And.intro b8 (H0.out.2.2.2.1.trans ((HE.out.2.2.2.2.2.trans (hbw.mono HE.out.2.2.2.2.2.size)).mono H0.out.2.2.2.1.size))))
          clear hkk hb9 hbw hcur hfin b8
          go_wp2_with fail
          have hz := set_blk (set_blk HF.out.2.1 (i := 0) (v := .int .i64 cur.lo)) (i := 1) (v := .int .i64 cur.hi)
          refine bodyPost_ret (v := spV cur) ?_ rfl ⟨by rw [HF.out.1], ?_⟩
          · obtain ⟨g0, g1⟩ := blk2 hz
            simp [results, Try.f35, go_sem, g0, g1]
          · have h1 := HW.out.2.1
            exact Below.setCell (Below.setCell HF.out.2.2 (p := ⟨q + 1, 0, none⟩) (by dsimp; omega) _) (p := ⟨q + 1, 1, none⟩) (by dsimp; omega) _
end Go.Proofs.Ytgnjknihgjdedaa
