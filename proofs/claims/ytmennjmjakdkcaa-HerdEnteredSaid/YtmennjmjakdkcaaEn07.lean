/- HerdEntered 7: RegOf, SightOf, Regs. -/
import Derived.Test.YtmennjmjakdkcaaEn06
import Derived.Test.YtmennjmjakdkcaaEn03
import Derived.Test.YtmennjmjakdkcaaEn04
import Derived.Deep.RegionHeld3
import Derived.Test.YtmennjmjakdkcaaEn05
namespace Go.Proofs.Ytmennjmjakdkcaa
open Go.RowKit
set_option linter.unusedVariables false
set_option linter.unusedSimpArgs false

theorem chk_zero {l : List Mk} (h1 : ∀ m ∈ l, mkOk m = true) (h2 : l.Nodup) : ∀ j k, chk l j k = 0
  | 0, _ => rfl
  | j + 1, k => by
    unfold chk
    cases hk : l[k]? with
    | none => rfl
    | some m =>
      dsimp only
      have hm := h1 m (List.mem_of_getElem? hk)
      rw [if_neg (by simp [hm]), if_neg, chk_zero h1 h2 j (k + 1)]
      intro hc
      rw [List.contains_eq_mem, decide_eq_true_eq, List.mem_take_iff_getElem] at hc
      obtain ⟨i, hi, he⟩ := hc
      have hk' := List.getElem?_eq_some_iff.1 hk
      obtain ⟨hlt, hk2⟩ := hk'
      have h3 := (List.pairwise_iff_getElem.1 h2) i k (by omega) hlt (by omega)
      exact h3 (he.trans hk2.symm)
theorem check_zero {t : Int} {l : List Mk} (ht : 0 ≤ t ∧ t ≤ 2) (hl : l.length ≤ 5) (h1 : ∀ m ∈ l, mkOk m = true) (h2 : l.Nodup) : check t l = 0 := by
  unfold check
  rw [if_neg (by simp [btw_iff, ht.1, ht.2]), if_neg (by omega), chk_zero h1 h2]

/-- a valid register of the call's own -/
def RegOut (w : World) (H N o : Nat) (e : Ending) (w' : World) : Prop := ∃ t l A c, e = .returned (.agg #[.int .i64 t, .slice A l.length c]) ∧ check t l = 0 ∧ l.length ≤ o ∧ OwnM w' w.heap.size (.slice A l.length c) l ∧ Marks w' A l.length l ∧ l.length ≤ c ∧ c ≤ maxLen ∧ Dealt w w' H N

theorem set2_1 {W : World} {g : Nat} {t : TypeId} {a b z : Value} (h : W.heap[g]? = some (.cells #[a, b] t (0, 0))) : (W.setCell ⟨g, 1, none⟩ z).heap[g]? = some (.cells #[a, z] t (0, 0)) := by
  simp [World.setCell, Array.getElem?_modify, h]

set_option maxRecDepth 100000 in
set_option maxHeartbeats 2000000 in
theorem registerOf_any (H N o : Nat) (w : World) (h : Hd w H N) (hN : N ≤ 4611686018427380000) (ho : o ≤ 5) :
    Calls Try.prog 48 #[.pointer (some ⟨H, 0, none⟩), .int .i64 o] w (RegOut w H (N + 100) o) := by
  have hH := h.lt
  go_enter Try.func48, Try.ntmps48
  go_wp2_with fail
  have hD0 := ((Dealt.refl h).alloc (Obj.cells #[Value.int .i64 0, .slice none 0 0] 25)).alloc (Obj.cells #[Value.int .i64 1, .int .i64 1, .int .i64 2] 3)
  have br0 : ((w.alloc (Obj.cells #[Value.int .i64 0, .slice none 0 0] 25)).alloc (Obj.cells #[Value.int .i64 1, .int .i64 1, .int .i64 2] 3)).heap[w.heap.size]? = some (Obj.cells #[Value.int .i64 0, .slice none 0 0] 25 (0, 0)) := hblk_alloc (alloc_at rfl) _
  have hi0 := ints3 (w.alloc (Obj.cells #[Value.int .i64 0, .slice none 0 0] 25)) 3 1 1 2
  rw [World.size_alloc] at hi0
  refine (of_any H N 0 (some ⟨w.heap.size + 1, 0, none⟩) 3 3 [1, 1, 2] _ hD0.hd (by omega) hi0 (fun b off e => by cases e; omega) (by omega)).mono ?_
  rintro e w1 ⟨t, rfl, ht, hd1⟩
  have hD1 := hD0.trans hd1
  have br1 := hd1.blk br0 (by omega)
  have ht' : 0 ≤ t ∧ t ≤ 2 := by
    simp only [List.mem_cons, List.not_mem_nil, or_false] at ht
    omega
  clear hd1 hD0 br0 ht hi0 h
  go_wp2_with fail
  refine (upto_any H (N + 1) o _ (hD1.alloc _).hd (by omega) (by omega)).mono ?_
  rintro e w2 ⟨n0, rfl, hn0, hd2⟩
  have hD2 := (hD1.alloc (Obj.cells #[Value.int .i64 t, .slice none 0 0] 25)).trans hd2
  have br2 := hd2.blk (hblk_alloc br1 (Obj.cells #[Value.int .i64 t, .slice none 0 0] 25)) (by omega)
  have bq2 := hd2.blk (alloc_at rfl : (w1.alloc (Obj.cells #[Value.int .i64 t, .slice none 0 0] 25)).heap[w1.heap.size]? = some _) (by have := heap_lt br1; omega)
  have hz1 : w.heap.size < w1.heap.size := heap_lt br1
  have hz2 : w1.heap.size < w2.heap.size := heap_lt bq2
  have hn5 : n0 ≤ o := by omega
  clear hd2 hD1 br1 hn0
  go_wp2_with fail
  go_loopg [6] n0 (fun g i wr => i = .int .i64 g ∧ g ≤ n0 ∧ ∃ v l, wr.heap[w1.heap.size]? = some (Obj.cells #[Value.int .i64 t, v] 25 (0, 0)) ∧ wr.heap[w.heap.size]? = some (Obj.cells #[Value.int .i64 0, .slice none 0 0] 25 (0, 0)) ∧
    OwnM wr (w1.heap.size + 1) v l ∧ (∀ m ∈ l, mkOk m = true) ∧ l.Nodup ∧ l.length + g ≤ n0 ∧ Dealt w wr H (N + 2 + 16 * (n0 - g)))
  case atStart => exact ⟨rfl, Nat.le_refl _, _, [], bq2, br2, Own.nil_, (fun m hm => nomatch hm), List.nodup_nil, Nat.le_of_eq (Nat.zero_add _), hD2.mono (by omega)⟩
  case round =>
    obtain ⟨rfl, hgn, v, l, bq, br, hown, hok, hnd, hlen, hD⟩ := hrel
    have HL := Lib.hid (And.intro hok hnd)
    clear hok hnd
    by_cases hg : 0 < gk
    · obtain ⟨A, c, rfl, hsl, hlc, hcm⟩ := hown.form lenMk
      have hg' : (0 : Int) < (gk : Int) := by omega
      go_wp2_with fail
      refine (markOf_any H _ _ hD.hd (by omega)).mono ?_
      rintro e w3 ⟨m, rfl, hm, hd3⟩
      unfold vMk
      go_upto_region 6 with (fail)
      obtain ⟨W3, hW⟩ : ∃ W3, W3 = w3.alloc (Obj.cells #[Value.int .i64 m.n, .int .i64 m.b, .int .i64 m.p] 62) := ⟨_, rfl⟩
      have hD3 : Dealt w W3 H (N + 2 + 16 * (n0 - gk) + 16) := by rw [hW]; exact (hD.trans hd3).alloc _
      have bq3 : W3.heap[w1.heap.size]? = some (Obj.cells #[Value.int .i64 t, .slice A l.length c] 25 (0, 0)) := by rw [hW]; exact hblk_alloc (hd3.blk bq (by omega)) _
      have br3 : W3.heap[w.heap.size]? = some (Obj.cells #[Value.int .i64 0, .slice none 0 0] 25 (0, 0)) := by rw [hW]; exact hblk_alloc (hd3.blk br (by omega)) _
      have hown3 : OwnM W3 (w1.heap.size + 1) (.slice A l.length c) l := by rw [hW]; exact (hown.kept hd3.gr (.inr (fun e => by have := hown.lt _ e; omega))).alloc _
      have bm3 : W3.heap[w3.heap.size]? = some (Obj.cells #[Value.int .i64 m.n, .int .i64 m.b, .int .i64 m.p] 62 (0, 0)) := by rw [hW]; exact alloc_at rfl
      have hsz : w1.heap.size < w3.heap.size := Nat.lt_of_lt_of_le (heap_lt bq) hd3.size
      rw [← hW]
      clear hW hd3 bq br hown hsl hlc hD
      obtain ⟨r0, r1⟩ := blk2 bq3
      obtain ⟨m0, m1, m2⟩ := blk3 bm3
      go_wp2_with fail
      obtain ⟨hs3, hc3, hm3⟩ := hown3.sl lenMk
      refine (owner_kit t A l.length c l m _ hs3 (by omega)).mono ?_
      rintro e w4 ⟨oo, rfl, hoo, hb4⟩
      have hD4 := hD3.less hb4 (Nat.le_refl _)
      have bq4 := bheap bq3 hb4 (Nat.le_refl _)
      have br4 := bheap br3 hb4 (Nat.le_refl _)
      have bm4 := bheap bm3 hb4 (Nat.le_refl _)
      have hown4 := hown3.below hb4 (Nat.le_refl _)
      have hz4 := hb4.size
      have hzm := heap_lt bm3
      clear hD3 bq3 br3 bm3 hown3 hs3 r0 r1 m0 m1 m2 hb4
      obtain ⟨r0, r1⟩ := blk2 bq4
      obtain ⟨m0, m1, m2⟩ := blk3 bm4
      have f1 := frz bq4 1
      by_cases hin : m ∈ l
      · have ho1 : ¬ oo < 0 := by simpa [hin] using hoo
        have ho2 : 0 ≤ oo := by omega
        clear hoo
        go_wp2
        go_roundg (gk - 1)
        case measure => omega
        case rel =>
          refine ⟨by congr 1; omega, by omega, _, l, bq4, br4, hown4, HL.out.1, HL.out.2, by omega, hD4.mono (by omega)⟩
      · have ho1 : oo < 0 := by simpa [hin] using hoo
        have HO := Lib.hid (And.intro hown4 (And.intro hD4 (And.intro bq4 br4)))
        have HIN := Lib.hid hin
        clear hoo hown4 hD4 bq4 br4 hin
        have hll : l.length < 4294967296 := by omega
        go_wp2_with (at_builtin; refine wp_appx okMark rfl (.tmp 27) (.tmp 29) rfl (w1.heap.size + 1) (Value.slice A l.length c) l m _ rfl rfl rfl rfl (one_eMk _) HO.out.1 hll ?_ ?_ ?_; (omega); (omega); intro g5 c5 w5 hown5 hgr5 hb5; have bq5 := (hgr5.block _ (heap_lt HO.out.2.2.1) (fun e => by have := HO.out.1.lt _ e.symm; omega)).trans HO.out.2.2.1; have q5 := (blk2 bq5).2; have f5 := frz bq5 1; have H5 := Lib.hid (And.intro hown5 (And.intro hgr5 (And.intro hb5 bq5))); clear hown5 hgr5 hb5 bq5)
        obtain ⟨hown5, hgr5, hb5, bq5⟩ := H5.out
        obtain ⟨hown4, hD4, bq4, br4⟩ := HO.out
        go_roundg (gk - 1)
        case measure => omega
        case rel =>
          have hfar : ∀ j, j ≠ w1.heap.size → (w5.setCell ⟨w1.heap.size, 1, none⟩ (.slice (some ⟨g5, 0, none⟩) (l.length + 1) c5)).heap[j]? = w5.heap[j]? := fun j hj => Below.heap_setCell _ ⟨w1.heap.size, 1, none⟩ _ _ hj
          have hrs : w5.heap[w.heap.size]? = some (Obj.cells #[Value.int .i64 0, .slice none 0 0] 25 (0, 0)) := (hgr5.block _ (heap_lt br4) (fun e => by have := hown4.lt _ e.symm; omega)).trans br4
          have hD5 : Dealt w w5 H (N + 2 + 16 * (n0 - gk) + 16) := by
            refine ⟨hD4.hd.kept fun j hj => hgr5.block j (Nat.lt_of_le_of_lt hj hD4.hd.lt) (fun e => by have := hown4.lt _ e.symm; omega), ⟨hgr5.os.trans hD4.gr.os, hgr5.tape.trans hD4.gr.tape, hgr5.output.trans hD4.gr.output, Nat.le_trans hD4.gr.size hgr5.size, fun j hj hne => ?_⟩⟩
            exact (hgr5.block j (Nat.lt_of_lt_of_le hj hD4.gr.size) (fun e => by have := hown4.lt _ e.symm; omega)).trans (hD4.gr.block j hj hne)
          refine ⟨by congr 1; omega, by omega, _, l ++ [m], set2_1 bq5, (hfar _ (by omega)).trans hrs, hown5.upon (fun j hj => hfar j (by omega)), ?_, ?_, by simp; omega, (hD5.mono (by omega)).set (by dsimp; omega) (by dsimp; omega) _⟩
          · intro x hx
            rcases List.mem_append.1 hx with h | h
            · exact HL.out.1 x h
            · rw [List.mem_singleton.1 h]; exact hm
          · rw [List.nodup_append]
            refine ⟨HL.out.2, by simp, fun a ha b hb => ?_⟩
            rw [List.mem_singleton.1 hb]
            intro e
            exact HIN.out (e ▸ ha)
    · obtain rfl : gk = 0 := by omega
      have fr0 := frz br 0
      have fr1 := frz br 1
      obtain ⟨A, c, rfl, hsl, hlc, hcm⟩ := hown.form lenMk
      obtain ⟨q0, q1⟩ := blk2 bq
      obtain ⟨r0, r1⟩ := blk2 br
      have HO := Lib.hid (And.intro hown (And.intro hsl (And.intro hlc (And.intro hcm hD))))
      clear hown hsl hlc hcm hD
      go_wp2
      refine bodyPost_ret (v := .agg #[.int .i64 t, .slice A l.length c]) (by simp [results, Try.f48, go_sem, q0, q1, r0, r1]) rfl ?_
      obtain ⟨hown, hsl, hlc, hcm, hD⟩ := HO.out
      have hfar : ∀ j, j ≠ w.heap.size → ((wr.setCell ⟨w.heap.size, 0, none⟩ (.int .i64 t)).setCell ⟨w.heap.size, 1, none⟩ (.slice A l.length c)).heap[j]? = wr.heap[j]? := fun j hj => (Below.heap_setCell _ ⟨w.heap.size, 1, none⟩ _ _ hj).trans (Below.heap_setCell _ ⟨w.heap.size, 0, none⟩ _ _ hj)
      have hown' := hown.upon (w' := (wr.setCell ⟨w.heap.size, 0, none⟩ (.int .i64 t)).setCell ⟨w.heap.size, 1, none⟩ (.slice A l.length c)) (fun j hj => hfar j (by omega))
      refine ⟨t, l, A, c, rfl, check_zero ht' (by omega) HL.out.1 HL.out.2, by omega, hown'.mono (by omega), (hown'.sl lenMk).1, hlc, hcm, ?_⟩
      exact ((hD.mono (by omega)).set (by dsimp; omega) (by dsimp; omega) _).set (by dsimp; omega) (by dsimp; omega) _
end Go.Proofs.Ytmennjmjakdkcaa
namespace Go.Proofs.Ytmennjmjakdkcaa
open Go.RowKit
set_option linter.unusedVariables false
set_option linter.unusedSimpArgs false

theorem Dealt.cell {w w' : World} {H N : Nat} (h : Dealt w w' H N) {b o : Nat} {v : Value} (hc : w.cell? ⟨b, o, none⟩ = some v) (hne : b ≠ H) : w'.cell? ⟨b, o, none⟩ = some v := h.gr.cell hc (fun e => hne (by simpa using e))
/-- some valid sight -/
def SgRes (w : World) (H N : Nat) (e : Ending) (w' : World) : Prop := ∃ s : Sg, e = .returned (vSg s) ∧ seen s 9 6 = 0 ∧ Dealt w w' H N
theorem Dealt.undrew {w w' : World} {H N : Nat} (h : Dealt w.drew w' H N) : Dealt w w' H N := ⟨h.hd, ⟨h.gr.os, h.gr.tape, h.gr.output, h.gr.size, h.gr.block⟩⟩
theorem far5 {w : World} {b g o : Nat} (h : b ≠ g) (x0 x1 x2 x3 x4 : Value) : (((((w.setCell ⟨g, 0, none⟩ x0).setCell ⟨g, 1, none⟩ x1).setCell ⟨g, 2, none⟩ x2).setCell ⟨g, 3, none⟩ x3).setCell ⟨g, 4, none⟩ x4).cell? ⟨b, o, none⟩ = w.cell? ⟨b, o, none⟩ := by
  have e : (((((w.setCell ⟨g, 0, none⟩ x0).setCell ⟨g, 1, none⟩ x1).setCell ⟨g, 2, none⟩ x2).setCell ⟨g, 3, none⟩ x3).setCell ⟨g, 4, none⟩ x4).heap[b]? = w.heap[b]? :=
    (Below.heap_setCell _ ⟨g, 4, none⟩ _ _ h).trans ((Below.heap_setCell _ ⟨g, 3, none⟩ _ _ h).trans ((Below.heap_setCell _ ⟨g, 2, none⟩ _ _ h).trans ((Below.heap_setCell _ ⟨g, 1, none⟩ _ _ h).trans (Below.heap_setCell _ ⟨g, 0, none⟩ _ _ h))))
  unfold World.cell?
  rw [e]
theorem worn_valid (m : Mk) (s : Sg) (w : World) (hm : mkOk m = true) (hs : 0 ≤ s.n) (hs' : s.n ≤ 255) :
    Calls Try.prog 53 #[.agg #[.int .i64 m.n, .int .i64 m.b, .int .i64 m.p], .agg #[.int .i64 s.n, .bool s.l, .bool s.r, .int .i64 s.b, .int .i64 s.p]] w fun e w' =>
      ∃ S : Sg, e = .returned (.agg #[.int .i64 S.n, .bool S.l, .bool S.r, .int .i64 S.b, .int .i64 S.p]) ∧ seen S 9 6 = 0 ∧ Below w.heap.size w w' := by
  have hk := mkOk_iff.1 hm
  refine Calls.mono (wornK_any m s w hk.1.1 hk.1.2 hs hs') fun e w' h => ?_
  exact ⟨wornS m s, h.1, seen_worn hk, h.2⟩
set_option maxRecDepth 100000 in
set_option maxHeartbeats 4000000 in
theorem sightOf_any (H N : Nat) (t : Nat) (A : Option Addr) (n c : Nat) (l : List Mk) (w : World) (h : Hd w H N) (hN : N ≤ 4611686018427380000) (hck : check t l = 0) (hl : Marks w A n l) (hA : OffH A H) (hn : n ≤ 5) :
    Calls Try.prog 39 #[.pointer (some ⟨H, 0, none⟩), .agg #[.int .i64 t, .slice A n c]] w (SgRes w H (N + 250)) := by
  have hH := h.lt
  have HC := Lib.hid (And.intro hck (And.intro hl hA))
  have ht2 := (check_ok hck).2.1
  clear hck hl hA
  go_enter Try.func39, Try.ntmps39
  go_upto_region 1 with (fail)
  obtain ⟨W, hW⟩ : ∃ W, W = (w.alloc (Obj.cells #[Value.int .i64 (t : Int), .slice A n c] 25)).alloc (Obj.cells #[Value.int .i64 0, .bool false, .bool false, .int .i64 0, .int .i64 0] 36) := ⟨_, rfl⟩
  rw [← hW]
  have hD : Dealt w W H N := by rw [hW]; exact ((Dealt.refl h).alloc _).alloc _
  have br : W.heap[w.heap.size]? = some (Obj.cells #[Value.int .i64 (t : Int), .slice A n c] 25 (0, 0)) := by rw [hW]; exact hblk_alloc (alloc_at rfl) _
  have bs : W.heap[w.heap.size + 1]? = some (Obj.cells #[Value.int .i64 0, .bool false, .bool false, .int .i64 0, .int .i64 0] 36 (0, 0)) := by rw [hW]; exact alloc_at (by simp)
  clear hW
  obtain ⟨r0, r1⟩ := blk2 br
  have first_way : ∀ (w3 : World) (M : Nat), M ≤ N + 1 → Dealt w w3 H M → w3.heap[w.heap.size + 1]? = some (Obj.cells #[Value.int .i64 0, .bool false, .bool false, .int .i64 0, .int .i64 0] 36 (0, 0)) → True := fun _ _ _ _ _ => trivial
  clear first_way
  by_cases hn0 : n = 0
  · subst hn0
    have h0 : ((0 : Nat) == 0) = true := rfl
    have hD0 := hD
    have bsX := bs
    go_wp2_with fail
    refine (markOf_any H (N) _ hD0.hd (by omega)).mono ?_
    rintro e w4 ⟨m, rfl, hm, hd4⟩
    have hD4 := hD0.trans hd4
    have bs4 := hd4.blk bsX (by omega)
    clear hd4 bsX
    unfold vMk
    go_wp2_with fail
    refine (wearOf_any H _ 2 _ hD4.hd (by omega) (by omega)).mono ?_
    rintro e w5 ⟨s, rfl, hs, hp, hd5⟩
    have hD5 := hD4.trans hd5
    have bs5 := hd5.blk bs4 (by omega)
    have hsv := (seen_ok hs).1
    clear hd5 bs4 hD4 hs hp
    unfold vSg
    go_wp2_with fail
    refine (worn_valid m s _ hm hsv.1 hsv.2).mono ?_
    rintro e w6 ⟨S, rfl, hS, hb6⟩
    have hD6 := hD5.less hb6 (Nat.le_refl _)
    have bs6 := bheap bs5 hb6 (Nat.le_refl _)
    have HS := Lib.hid (And.intro hS hD6)
    have g0 := frz bs6 0
    have g1 := frz bs6 1
    have g2 := frz bs6 2
    have g3 := frz bs6 3
    have g4 := frz bs6 4
    have z6 := heap_lt bs6
    obtain ⟨p0, p1, p2, p3, p4⟩ := blk5 bs6
    clear hb6 hS hD5 bs5 bs6 hD6
    go_wp2
    refine bodyPost_ret (v := vSg S) (by simp [results, Try.f39, go_sem, vSg, p0, p1, p2, p3, p4, z6]) rfl ⟨S, rfl, HS.out.1, ?_⟩
    exact (((((HS.out.2.mono (by omega)).set (by dsimp; omega) (by dsimp; omega) _).set (by dsimp; omega) (by dsimp; omega) _).set (by dsimp; omega) (by dsimp; omega) _).set (by dsimp; omega) (by dsimp; omega) _).set (by dsimp; omega) (by dsimp; omega) _
  · have h0 : (n == 0) = false := by simpa using hn0
    have h0' : ((n : Int) == 0) = false := by simp; omega
    go_wp2_with fail
    refine (odds_any H N 1 5 _ hD.hd (by omega) (by omega) (by omega)).mono ?_
    rintro e w3 ⟨o, rfl, hd3⟩
    have hD3 := hD.trans hd3
    have br3 := hd3.blk br (by omega)
    have bs3 := hd3.blk bs (by omega)
    clear hd3 hD br bs r0 r1 h
    cases o
    · go_upto_region 3 with (fail)
      obtain ⟨r0, r1⟩ := blk2 br3
      have hl3 := HC.out.2.1.dealt hD3 HC.out.2.2
      obtain ⟨b, off, hA, hcell⟩ := hl3.2 (by omega)
      subst hA
      have hbH : b ≠ H := HC.out.2.2 b off rfl
      have z3 := heap_lt br3
      obtain ⟨g, hg⟩ : ∃ g : Nat → Mk, ∀ j, j < n → l[j]? = some (g j) := ⟨fun j => l.getD j ⟨0, 0, 0⟩, fun j hj => by
        have hx := List.getElem?_eq_getElem (l := l) (i := j) (by rw [hl3.1]; exact hj)
        dsimp only
        rw [List.getD_eq_getElem?_getD, hx]; rfl⟩
      have m0 : ∀ j, j < n → w3.cell? ⟨b, off + j * 3, none⟩ = some (.int .i64 (g j).n) := fun j hj => hcell j _ (hg j hj) 0 _ rfl
      have m1 : ∀ j, j < n → w3.cell? ⟨b, off + j * 3 + 1, none⟩ = some (.int .i64 (g j).b) := fun j hj => hcell j _ (hg j hj) 1 _ rfl
      have m2 : ∀ j, j < n → w3.cell? ⟨b, off + j * 3 + 2, none⟩ = some (.int .i64 (g j).p) := fun j hj => hcell j _ (hg j hj) 2 _ rfl
      have HG := Lib.hid (show ∀ j, j < n → mkOk (g j) = true from fun j hj => mkOk_iff.2 (check_marks HC.out.1 _ (List.mem_of_getElem? (hg j hj))))
      clear hg
      have hwH : w.heap.size ≠ H := by omega
      have hwH1 : w.heap.size + 1 ≠ H := by omega
      have HD3 := Lib.hid hD3
      have hn1 : (1 : Int) ≤ (n : Int) := by omega
      have hwr : IntKind.i64.wrap ((n : Int) - 1) = (n : Int) - 1 := IntWalk.i64_in _ (by omega)
      clear hcell hD3
      have r0d : w3.drew.cell? ⟨w.heap.size, 0, none⟩ = some (.int .i64 (t : Int)) := r0
      have r1d : w3.drew.cell? ⟨w.heap.size, 1, none⟩ = some (.slice (some ⟨b, off, none⟩) n c) := r1
      have m0d : ∀ j, j < n → w3.drew.cell? ⟨b, off + j * 3, none⟩ = some (.int .i64 (g j).n) := m0
      have m1d : ∀ j, j < n → w3.drew.cell? ⟨b, off + j * 3 + 1, none⟩ = some (.int .i64 (g j).b) := m1
      have m2d : ∀ j, j < n → w3.drew.cell? ⟨b, off + j * 3 + 2, none⟩ = some (.int .i64 (g j).p) := m2
      have hwW : w.heap.size ≠ w.heap.size + 1 := by omega
      have hbW : b ≠ w.heap.size + 1 := by
        obtain ⟨b', off', x, hA', hb', _⟩ := Marks.get HC.out.2.1 (show 0 < n by omega)
        cases hA'
        omega
      go_region_held3 (fun w' => w'.cell? ⟨w.heap.size, 0, none⟩ = some (.int .i64 (t : Int)) ∧ w'.cell? ⟨w.heap.size, 1, none⟩ = some (.slice (some ⟨b, off, none⟩) n c) ∧ (∀ j, j < n → w'.cell? ⟨b, off + j * 3, none⟩ = some (.int .i64 (g j).n)) ∧ (∀ j, j < n → w'.cell? ⟨b, off + j * 3 + 1, none⟩ = some (.int .i64 (g j).b)) ∧ (∀ j, j < n → w'.cell? ⟨b, off + j * 3 + 2, none⟩ = some (.int .i64 (g j).p)))
        ((go_split_ands
          refine ⟨?_, ?_, ?_, ?_, ?_⟩
          all_goals first
            | (with_reducible exact r0d)
            | (with_reducible exact r1d)
            | (with_reducible exact m0d)
            | (with_reducible exact m1d)
            | (with_reducible exact m2d)
            | (with_reducible exact hdx.cell r0 hwH)
            | (with_reducible exact hdx.cell r1 hwH)
            | (intro j hj; with_reducible exact hdx.cell (m0 j hj) hbH)
            | (intro j hj; with_reducible exact hdx.cell (m1 j hj) hbH)
            | (intro j hj; with_reducible exact hdx.cell (m2 j hj) hbH)
            | (rw [far5 hwW]; with_reducible exact hdx.cell r0 hwH)
            | (rw [far5 hwW]; with_reducible exact hdx.cell r1 hwH)
            | (intro j hj; rw [far5 hbW]; with_reducible exact hdx.cell (m0 j hj) hbH)
            | (intro j hj; rw [far5 hbW]; with_reducible exact hdx.cell (m1 j hj) hbH)
            | (intro j hj; rw [far5 hbW]; with_reducible exact hdx.cell (m2 j hj) hbH)
            | fail))
        (first
          | (go_at_call 24; refine (upto_any H (N + 1) (n - 1) _ ?_ ?_ ?_).mono ?_; (exact HD3.out.hd); (omega); (omega); rintro e w4 ⟨k, rfl, hk, hdx⟩; have hdx := hdx.undrew; have hkn : k < n := (by omega); have hk0 : (0 : Int) ≤ (k : Int) := (by omega); have hk1 : (k : Int) < (n : Int) := (by omega); clear hk)
          | (go_at_call 54; refine (wearOf_any H (N + 1 + 1) t _ ?_ ?_ ?_).mono ?_; (exact hdx.hd); (omega); (omega); rintro e w5 ⟨s, rfl, hs, hp, hd5⟩; have hdx := hdx.trans hd5; have hsv := (seen_ok hs).1; clear hd5)
          | (go_at_call 53; refine (worn_valid (g k) s _ ?_ ?_ ?_).mono ?_; (exact HG.out k hkn); (exact hsv.1); (exact hsv.2); rintro e w6 ⟨S, rfl, hS, hb6⟩; have hdx := hdx.less hb6 (Nat.le_refl _); have HSv := Lib.hid hS; have bs6 := hdx.blk bs3 hwH1; have g0 := frz bs6 0; have g1 := frz bs6 1; have g2 := frz bs6 2; have g3 := frz bs6 3; have g4 := frz bs6 4; obtain ⟨p0, p1, p2, p3, p4⟩ := blk5 bs6; clear hb6 hS)
          | fail)
      go_wp2
      have z6 := heap_lt bs6
      refine bodyPost_ret (v := vSg S) (by simp [results, Try.f39, go_sem, vSg, p0, p1, p2, p3, p4, z6]) rfl ⟨S, rfl, HSv.out, ?_⟩
      have hDx := HD3.out.trans hdx
      exact (((((hDx.mono (by omega)).set (by dsimp; omega) (by dsimp; omega) _).set (by dsimp; omega) (by dsimp; omega) _).set (by dsimp; omega) (by dsimp; omega) _).set (by dsimp; omega) (by dsimp; omega) _).set (by dsimp; omega) (by dsimp; omega) _
    · have hD0 := hD3
      have bsX := bs3
      go_wp2_with fail
      refine (markOf_any H (N + 1) _ hD0.hd (by omega)).mono ?_
      rintro e w4 ⟨m, rfl, hm, hd4⟩
      have hD4 := hD0.trans hd4
      have bs4 := hd4.blk bsX (by omega)
      clear hd4 bsX
      unfold vMk
      go_wp2_with fail
      refine (wearOf_any H _ 2 _ hD4.hd (by omega) (by omega)).mono ?_
      rintro e w5 ⟨s, rfl, hs, hp, hd5⟩
      have hD5 := hD4.trans hd5
      have bs5 := hd5.blk bs4 (by omega)
      have hsv := (seen_ok hs).1
      clear hd5 bs4 hD4 hs hp
      unfold vSg
      go_wp2_with fail
      refine (worn_valid m s _ hm hsv.1 hsv.2).mono ?_
      rintro e w6 ⟨S, rfl, hS, hb6⟩
      have hD6 := hD5.less hb6 (Nat.le_refl _)
      have bs6 := bheap bs5 hb6 (Nat.le_refl _)
      have HS := Lib.hid (And.intro hS hD6)
      have g0 := frz bs6 0
      have g1 := frz bs6 1
      have g2 := frz bs6 2
      have g3 := frz bs6 3
      have g4 := frz bs6 4
      have z6 := heap_lt bs6
      obtain ⟨p0, p1, p2, p3, p4⟩ := blk5 bs6
      clear hb6 hS hD5 bs5 bs6 hD6
      go_wp2
      refine bodyPost_ret (v := vSg S) (by simp [results, Try.f39, go_sem, vSg, p0, p1, p2, p3, p4, z6]) rfl ⟨S, rfl, HS.out.1, ?_⟩
      exact (((((HS.out.2.mono (by omega)).set (by dsimp; omega) (by dsimp; omega) _).set (by dsimp; omega) (by dsimp; omega) _).set (by dsimp; omega) (by dsimp; omega) _).set (by dsimp; omega) (by dsimp; omega) _).set (by dsimp; omega) (by dsimp; omega) _
end Go.Proofs.Ytmennjmjakdkcaa
namespace Go.Proofs.Ytmennjmjakdkcaa
open Go.RowKit
set_option linter.unusedVariables false
set_option linter.unusedSimpArgs false

/-- a register as it is handed about -/
structure Rg where
  t : Int
  A : Option Addr
  n : Nat
  c : Nat
  l : List Mk
def eRg (g : Rg) : List Value := [.int .i64 g.t, .slice g.A g.n g.c]
/-- it can be read -/
structure RgOk (w : World) (g : Rg) : Prop where
  m : Marks w g.A g.n g.l
  nc : g.n ≤ g.c
  cm : g.c ≤ maxLen
  z : g.A = none → g.c = 0
  s : g.n ≤ 4294967295
theorem RgOk.below {w w' : World} {g : Rg} (h : RgOk w g) {B : Nat} (hb : Below B w w') (hB : w.heap.size ≤ B) : RgOk w' g := ⟨h.m.below hb hB, h.nc, h.cm, h.z, h.s⟩
theorem Regs.get {w : World} {A : Option Addr} {n : Nat} {l : List Rg} (h : Sl eRg 2 w A n l) {k : Nat} (hk : k < n) :
    ∃ b off g, A = some ⟨b, off, none⟩ ∧ b < w.heap.size ∧ l[k]? = some g ∧ w.cell? ⟨b, off + k * 2, none⟩ = some (.int .i64 g.t) ∧ w.cell? ⟨b, off + k * 2 + 1, none⟩ = some (.slice g.A g.n g.c) := by
  obtain ⟨b, off, x, hA, hx, hc⟩ := h.at_ hk
  have h0 := hc 0 _ rfl
  exact ⟨b, off, x, hA, cell_lt h0, hx, h0, hc 1 _ rfl⟩

theorem Hd.drew {w : World} {H N : Nat} (h : Hd w H N) : Hd w.drew H N := h
theorem hb_drew {w : World} {b : Nat} {o : Obj} (h : w.heap[b]? = some o) : w.drew.heap[b]? = some o := h
theorem gb_drew (w : World) (row : Option Nat) : w.grownBy w.drew row := ⟨rfl, rfl, rfl, Nat.le_refl _, fun _ _ _ => rfl⟩
theorem gb_cell {w w' : World} {H b o : Nat} {v : Value} (hg : w.grownBy w' (some H)) (hne : b ≠ H) (hc : w.cell? ⟨b, o, none⟩ = some v) : w'.cell? ⟨b, o, none⟩ = some v := hg.cell hc (fun e => hne (by simpa using e))
theorem gb_blk {w w' : World} {H b : Nat} {o : Obj} (hg : w.grownBy w' (some H)) (hne : b ≠ H) (hc : w.heap[b]? = some o) : w'.heap[b]? = some o :=
  (hg.block b (heap_lt hc) (fun e => hne (by cases e; rfl))).trans hc
theorem Sl.gb {α : Type} {enc : α → List Value} {sz : Nat} {w w' : World} {A : Option Addr} {n : Nat} {l : List α} {H : Nat} (h : Sl enc sz w A n l) (hg : w.grownBy w' (some H)) (hne : OffH A H) : Sl enc sz w' A n l :=
  ⟨h.1, fun hn => by
    obtain ⟨b, off, hA, hc⟩ := h.2 hn
    exact ⟨b, off, hA, fun i x hx j u hu => gb_cell hg (hne b off hA) (hc i x hx j u hu)⟩⟩
theorem flat_get {α : Type} {enc : α → List Value} {sz : Nat} (henc : ∀ x, (enc x).length = sz) : ∀ (l : List α) (i j : Nat) (x : α) (u : Value), l[i]? = some x → (enc x)[j]? = some u → (l.flatMap enc)[i * sz + j]? = some u
  | [], i, j, x, u, hx, hu => by simp at hx
  | y :: r, i, j, x, u, hx, hu => by
    have hj : j < sz := by have := henc x; have := (List.getElem?_eq_some_iff.1 hu).1; omega
    rw [List.flatMap_cons]
    cases i with
    | zero =>
      simp at hx
      subst hx
      rw [List.getElem?_append_left (by rw [henc]; omega)]
      simpa using hu
    | succ i =>
      rw [List.getElem?_append_right (by rw [henc, Nat.succ_mul]; omega), henc]
      have := flat_get henc r i j x u (by simpa using hx) hu
      rw [show (i + 1) * sz + j - sz = i * sz + j by rw [Nat.succ_mul]; omega]
      exact this
/-- a block that is known whole, read as a list -/
theorem Sl.of_blk {α : Type} {enc : α → List Value} {sz : Nat} {w : World} {b : Nat} {cs : Array Value} {t : TypeId} {l : List α} (h : w.heap[b]? = some (.cells cs t (0, 0))) (hcs : cs.toList = l.flatMap enc) (henc : ∀ x, (enc x).length = sz) : Sl enc sz w (some ⟨b, 0, none⟩) l.length l := by
  refine ⟨rfl, fun _ => ⟨b, 0, rfl, ?_⟩⟩
  intro i x hx j u hu
  have hc : w.cell? ⟨b, 0 + i * sz + j, none⟩ = cs[0 + i * sz + j]? := by unfold World.cell?; simp [h]
  rw [hc, ← Array.getElem?_toList, hcs, Nat.zero_add]
  exact flat_get henc l i j x u hx hu
end Go.Proofs.Ytmennjmjakdkcaa

namespace Go.Proofs.Ytmennjmjakdkcaa
open Go.RowKit
set_option linter.unusedVariables false
set_option linter.unusedSimpArgs false

/-- the hand has dealt some numbers, and blocks were laid -/
def TH (H : Nat) (n : Nat) (w w' : World) : Prop := w.grownBy w' (some H) ∧ ∀ N, Hd w H N → Hd w' H (N + 300 * n)
theorem TH.tr {H : Nat} : ∀ n a b c, TH H n a b → TH H 1 b c → TH H (n + 1) a c := fun n a b c h k =>
  ⟨h.1.trans k.1, fun N hN => by have := k.2 _ (h.2 N hN); rw [show N + 300 * (n + 1) = N + 300 * n + 300 * 1 by omega]; exact this⟩
theorem TH.draw {H : Nat} (w : World) : TH H 0 w { w with drawn := w.drawn + 1 } := ⟨⟨rfl, rfl, rfl, Nat.le_refl _, fun _ _ _ => rfl⟩, fun N h => h⟩
theorem TH.rf {H : Nat} : ∀ w, TH H 1 w w := fun w => ⟨World.grownBy.refl _ _, fun N h => h.mono (by omega)⟩
theorem TH.al {H : Nat} (w : World) (o : Obj) : TH H 1 w (w.alloc o) := ⟨World.grownBy_alloc _ _ _, fun N h => (h.alloc o).mono (by omega)⟩
theorem Hd.least {w : World} {H N : Nat} (h : Hd w H N) : ∃ N0, N0 ≤ N ∧ Hd w H N0 ∧ ∀ M, Hd w H M → N0 ≤ M := by
  obtain ⟨A, n, c, next, state, h1, h2, h3, h4, h5⟩ := h
  refine ⟨next.toNat, by omega, ⟨A, n, c, next, state, h1, h2, h3, by omega, h5⟩, fun M hM => ?_⟩
  obtain ⟨A', n', c', next', state', k1, k2, k3, k4, k5⟩ := hM
  rw [h1] at k1
  cases k1
  omega
theorem TH.of {w w' : World} {H N k : Nat} (hmin : ∀ M, Hd w H M → N ≤ M) (h : Dealt w w' H (N + k)) (hk : k ≤ 300) : TH H 1 w w' :=
  ⟨h.gr, fun M hM => h.hd.mono (by have := hmin M hM; omega)⟩
theorem TH.blk {w w' : World} {H n b : Nat} {o : Obj} (h : TH H n w w') (hne : b ≠ H) (hb : w.heap[b]? = some o) : w'.heap[b]? = some o := gb_blk h.1 hne hb
theorem TH.hd {w w' : World} {H n N M : Nat} (h : TH H n w w') (hd : Hd w H N) (hn : N + 300 * n ≤ M) : Hd w' H M := (h.2 N hd).mono hn
/-- a new slice of n elements, not in the hand's block -/
def SlF (H : Nat) (e : TypeId) (n : Nat) (S : Array Value → Prop) : VF := fun v w => ∃ b cs, v = .slice (some ⟨b, 0, none⟩) n n ∧ b ≠ H ∧ w.heap[b]? = some (.cells cs e (0, 0)) ∧ S cs
theorem SlF.st {H : Nat} {e : TypeId} {n : Nat} {S : Array Value → Prop} : ∀ m v w w', TH H m w w' → SlF H e n S v w → SlF H e n S v w' := fun m v w w' h ⟨b, cs, h1, h2, h3, h4⟩ => ⟨b, cs, h1, h2, h.blk h2 h3, h4⟩
theorem SlF.new {H : Nat} {e : TypeId} {n : Nat} {S : Array Value → Prop} {w : World} {cs : Array Value} (hH : H < w.heap.size) (hS : S cs) :
    TH H 1 w (w.alloc (.cells cs e)) ∧ SlF H e n S (.slice (some ⟨w.heap.size, 0, none⟩) n n) (w.alloc (.cells cs e)) :=
  ⟨TH.al _ _, w.heap.size, cs, rfl, by omega, heap_alloc_new w _, hS⟩
/-- a number, a sight, of which no more is known -/
def EqF (c : Value) : VF := fun v _ => v = c
theorem EqF.st {T : Nat → World → World → Prop} {c : Value} : ∀ (m : Nat) v w w', T m w w' → EqF c v w → EqF c v w' := fun _ _ _ _ _ h => h
def NatF : VF := fun v _ => ∃ k : Nat, v = .int .i64 k
def NatLe (m : Int) : VF := fun v _ => ∃ k : Nat, v = .int .i64 k ∧ ((k : Int) ≤ m ∨ k = 0)
def SgF : VF := fun v _ => ∃ S : Sg, v = vSg S
theorem NatF.st {T : Nat → World → World → Prop} : ∀ (m : Nat) v w w', T m w w' → NatF v w → NatF v w' := fun _ _ _ _ _ h => h
theorem NatLe.st {T : Nat → World → World → Prop} {M : Int} : ∀ (m : Nat) v w w', T m w w' → NatLe M v w → NatLe M v w' := fun _ _ _ _ _ h => h
theorem SgF.st {T : Nat → World → World → Prop} : ∀ (m : Nat) v w w', T m w w' → SgF v w → SgF v w' := fun _ _ _ _ _ h => h
theorem Hd.bb {w w' : World} {H N B : Nat} (h : Hd w H N) (hb : Below B w w') (hB : H < B) : Hd w' H N := h.below hb hB
/-- blocks were laid, nothing that was there has changed -/
def TB (n : Nat) (w w' : World) : Prop := Below w.heap.size w w'
theorem TB.tr : ∀ n a b c, TB n a b → TB 1 b c → TB (n + 1) a c := fun n a b c h k => Below.trans h (k.mono h.size)
theorem TB.draw (w : World) : TB 0 w { w with drawn := w.drawn + 1 } := bdraw (Below.refl _ _)
theorem TB.rf : ∀ w, TB 1 w w := fun w => Below.refl _ _
/-- the same, but blocks from B on that read z may have been written to read t: for a result that is a struct, kept in a block of its own -/
def TZ (B : Nat) (z t : Obj) (n : Nat) (w w' : World) : Prop :=
  w'.os = w.os ∧ w'.tape = w.tape ∧ w'.output = w.output ∧ w.heap.size ≤ w'.heap.size ∧ ∀ (k : Nat) o, w.heap[k]? = some o → w'.heap[k]? = some o ∨ (B ≤ k ∧ o = z ∧ w'.heap[k]? = some t)
theorem TZ.tr {B : Nat} {z t : Obj} : ∀ n a b c, TZ B z t n a b → TZ B z t 1 b c → TZ B z t (n + 1) a c := fun n a b c h k => by
  obtain ⟨h1, h2, h3, h4, h5⟩ := h
  obtain ⟨k1, k2, k3, k4, k5⟩ := k
  refine ⟨k1.trans h1, k2.trans h2, k3.trans h3, Nat.le_trans h4 k4, fun j o ho => ?_⟩
  rcases h5 j o ho with h | ⟨hB, hz, h⟩
  · exact k5 j o h
  · rcases k5 j t h with h' | ⟨_, _, h'⟩
    · exact .inr ⟨hB, hz, h'⟩
    · exact .inr ⟨hB, hz, h'⟩
theorem TZ.draw {B : Nat} {z t : Obj} (w : World) : TZ B z t 0 w { w with drawn := w.drawn + 1 } := ⟨rfl, rfl, rfl, Nat.le_refl _, fun _ _ h => .inl h⟩
theorem TZ.rf {B : Nat} {z t : Obj} : ∀ w, TZ B z t 1 w w := fun w => ⟨rfl, rfl, rfl, Nat.le_refl _, fun _ _ h => .inl h⟩
theorem TZ.of {B : Nat} {z t : Obj} {n : Nat} {w w' : World} (h : Below w.heap.size w w') : TZ B z t n w w' := ⟨h.os, h.tape, h.output, h.size, fun k o ho => .inl ((h.block k (heap_lt ho)).trans ho)⟩
theorem TZ.below {B : Nat} {z t : Obj} {n : Nat} {w w' : World} (h : TZ B z t n w w') (hB : B ≤ w.heap.size) : Below B w w' := by
  obtain ⟨h1, h2, h3, h4, h5⟩ := h
  refine ⟨h1, h2, h3, h4, fun k hk => ?_⟩
  have ho : w.heap[k]? = some (w.heap[k]'(by omega)) := Array.getElem?_eq_getElem (by omega)
  rcases h5 k _ ho with h | ⟨h, _⟩
  · rw [h, ho]
  · omega
/-- a pointer to the block of the result: not yet written, or written -/
def PtZ (B : Nat) (z t : Obj) : VF := fun v w => ∃ k, v = .pointer (some ⟨k, 0, none⟩) ∧ B ≤ k ∧ (w.heap[k]? = some z ∨ w.heap[k]? = some t)
def PtT (B : Nat) (t : Obj) : VF := fun v w => ∃ k, v = .pointer (some ⟨k, 0, none⟩) ∧ B ≤ k ∧ w.heap[k]? = some t
theorem PtZ.st {B : Nat} {z t : Obj} : ∀ n v w w', TZ B z t n w w' → PtZ B z t v w → PtZ B z t v w' := fun n v w w' h ⟨k, hv, hk, ho⟩ => by
  refine ⟨k, hv, hk, ?_⟩
  rcases ho with ho | ho
  · rcases h.2.2.2.2 k z ho with h' | ⟨_, _, h'⟩
    · exact .inl h'
    · exact .inr h'
  · rcases h.2.2.2.2 k t ho with h' | ⟨_, _, h'⟩
    · exact .inr h'
    · exact .inr h'
theorem PtT.st {B : Nat} {z t : Obj} : ∀ n v w w', TZ B z t n w w' → PtT B t v w → PtT B t v w' := fun n v w w' h ⟨k, hv, hk, ho⟩ => by
  refine ⟨k, hv, hk, ?_⟩
  rcases h.2.2.2.2 k t ho with h' | ⟨_, _, h'⟩
  · exact h'
  · exact h'
theorem PtZ.new {B : Nat} {z t : Obj} (w : World) (hB : B ≤ w.heap.size) : TZ B z t 1 w (w.alloc z) ∧ PtZ B z t (.pointer (some ⟨w.heap.size, 0, none⟩)) (w.alloc z) :=
  ⟨TZ.of (bal0 w z), w.heap.size, rfl, hB, .inl (heap_alloc_new w z)⟩
theorem PtZ.put {B k : Nat} {z t : Obj} {w w' : World} (hk : B ≤ k) (ho : w.heap[k]? = some z ∨ w.heap[k]? = some t) (h1 : w'.os = w.os ∧ w'.tape = w.tape ∧ w'.output = w.output) (h2 : w'.heap.size = w.heap.size) (h3 : ∀ j, j ≠ k → w'.heap[j]? = w.heap[j]?) (h4 : w'.heap[k]? = some t) :
    TZ B z t 1 w w' ∧ PtT B t (.pointer (some ⟨k, 0, none⟩)) w' := by
  refine ⟨⟨h1.1, h1.2.1, h1.2.2, by omega, fun j o hj => ?_⟩, k, rfl, hk, h4⟩
  by_cases hjk : j = k
  · subst hjk
    rcases ho with ho | ho
    · rw [ho] at hj; cases hj; exact .inr ⟨hk, rfl, h4⟩
    · rw [ho] at hj; cases hj; exact .inl h4
  · exact .inl ((h3 j hjk).trans hj)
theorem set_blk {w : World} {k i : Nat} {t : TypeId} {cs : Array Value} {x : Nat × Nat} {v : Value} (h : w.heap[k]? = some (.cells cs t x)) : (w.setCell ⟨k, i, none⟩ v).heap[k]? = some (.cells (cs.setIfInBounds i v) t x) := by
  simp [World.setCell, Array.getElem?_modify, h]
/-- two worlds alike in all but the heap -/
def Out (w w' : World) : Prop := w'.os = w.os ∧ w'.tape = w.tape ∧ w'.output = w.output
theorem Out.set {w w' : World} (h : Out w w') (a : Addr) (v : Value) : Out w (w'.setCell a v) := ⟨h.1, h.2.1, h.2.2⟩
theorem Out.rf (w : World) : Out w w := ⟨rfl, rfl, rfl⟩
end Go.Proofs.Ytmennjmjakdkcaa
