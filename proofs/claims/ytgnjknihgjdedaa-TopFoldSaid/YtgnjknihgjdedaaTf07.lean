/- TopFold 7: RegOf, SightOf, Regs, HdK, HdN, HdP, HdA, TalA, TalB, Own2. -/
import Derived.Test.YtgnjknihgjdedaaTf06
import Derived.Test.YtgnjknihgjdedaaTf02
import Derived.Test.YtgnjknihgjdedaaTf05
import Derived.Test.YtgnjknihgjdedaaTf04
import Derived.Deep.RegionHeld3
import Derived.Deep.WholeRow
import Derived.RangeFuncKeeps
import Derived.BigQuiet
import Derived.Laws.EntriesVeiled
import Derived.Laws.IdiomCopy
import Derived.Test.YtgnjknihgjdedaaTf03
import Derived.Test.YtgnjknihgjdedaaTf01
import Derived.RangeFuncNested
namespace Go.Proofs.Ytgnjknihgjdedaa
open Go.RowKit
set_option linter.unusedVariables false
set_option linter.unusedSimpArgs false

theorem chk_zero {l : List Mk} (h1 : ∀ m ∈ l, mkOk m = true) (h2 : l.Nodup) : ∀ j k, chk l j k = 0
  | 0, _ => rfl
  | j + 1, k => by
    unfold chk
    cases hk : l[k]? with
    | none => rfl
    | some m =>
      dsimp only
      have hm := h1 m (List.mem_of_getElem? hk)
      rw [if_neg (by simp [hm]), if_neg, chk_zero h1 h2 j (k + 1)]
      intro hc
      rw [List.contains_eq_mem, decide_eq_true_eq, List.mem_take_iff_getElem] at hc
      obtain ⟨i, hi, he⟩ := hc
      have hk' := List.getElem?_eq_some_iff.1 hk
      obtain ⟨hlt, hk2⟩ := hk'
      have h3 := (List.pairwise_iff_getElem.1 h2) i k (by omega) hlt (by omega)
      exact h3 (he.trans hk2.symm)
theorem check_zero {t : Int} {l : List Mk} (ht : 0 ≤ t ∧ t ≤ 2) (hl : l.length ≤ 5) (h1 : ∀ m ∈ l, mkOk m = true) (h2 : l.Nodup) : check t l = 0 := by
  unfold check
  rw [if_neg (by simp [btw_iff, ht.1, ht.2]), if_neg (by omega), chk_zero h1 h2]

def RegOut (w : World) (H N o : Nat) (e : Ending) (w' : World) : Prop := ∃ t l A c, e = .returned (.agg #[.int .i64 t, .slice A l.length c]) ∧ check t l = 0 ∧ l.length ≤ o ∧ OwnM w' w.heap.size (.slice A l.length c) l ∧ Marks w' A l.length l ∧ l.length ≤ c ∧ c ≤ maxLen ∧ Dealt w w' H N

theorem set2_1 {W : World} {g : Nat} {t : TypeId} {a b z : Value} (h : W.heap[g]? = some (.cells #[a, b] t (0, 0))) : (W.setCell ⟨g, 1, none⟩ z).heap[g]? = some (.cells #[a, z] t (0, 0)) := by
  simp [World.setCell, Array.getElem?_modify, h]

set_option maxRecDepth 100000 in
set_option maxHeartbeats 2000000 in
theorem registerOf_any (H N o : Nat) (w : World) (h : Hd w H N) (hN : N ≤ 4611686018427380000) (ho : o ≤ 5) :
    Calls Try.prog 10 #[.pointer (some ⟨H, 0, none⟩), .int .i64 o] w (RegOut w H (N + 100) o) := by
  have hH := h.lt
  go_enter Try.func10, Try.ntmps10
  go_wp2_with fail
  have hD0 := ((Dealt.refl h).alloc (Obj.cells #[Value.int .i64 0, .slice none 0 0] 41)).alloc (Obj.cells #[Value.int .i64 1, .int .i64 1, .int .i64 2] 3)
  have br0 : ((w.alloc (Obj.cells #[Value.int .i64 0, .slice none 0 0] 41)).alloc (Obj.cells #[Value.int .i64 1, .int .i64 1, .int .i64 2] 3)).heap[w.heap.size]? = some (Obj.cells #[Value.int .i64 0, .slice none 0 0] 41 (0, 0)) := hblk_alloc (alloc_at rfl) _
  have hi0 := ints3 (w.alloc (Obj.cells #[Value.int .i64 0, .slice none 0 0] 41)) 3 1 1 2
  rw [World.size_alloc] at hi0
  refine (of_any H N 0 (some ⟨w.heap.size + 1, 0, none⟩) 3 3 [1, 1, 2] _ hD0.hd (by omega) hi0 (fun b off e => by cases e; omega) (by omega)).mono ?_
  rintro e w1 ⟨t, rfl, ht, hd1⟩
  have hD1 := hD0.trans hd1
  have br1 := hd1.blk br0 (by omega)
  have ht' : 0 ≤ t ∧ t ≤ 2 := by
    simp only [List.mem_cons, List.not_mem_nil, or_false] at ht
    omega
  clear hd1 hD0 br0 ht hi0 h
  go_wp2_with fail
  refine (upto_any H (N + 1) o _ (hD1.alloc _).hd (by omega) (by omega)).mono ?_
  rintro e w2 ⟨n0, rfl, hn0, hd2⟩
  have hD2 := (hD1.alloc (Obj.cells #[Value.int .i64 t, .slice none 0 0] 41)).trans hd2
  have br2 := hd2.blk (hblk_alloc br1 (Obj.cells #[Value.int .i64 t, .slice none 0 0] 41)) (by omega)
  have bq2 := hd2.blk (alloc_at rfl : (w1.alloc (Obj.cells #[Value.int .i64 t, .slice none 0 0] 41)).heap[w1.heap.size]? = some _) (by have := heap_lt br1; omega)
  have hz1 : w.heap.size < w1.heap.size := heap_lt br1
  have hz2 : w1.heap.size < w2.heap.size := heap_lt bq2
  have hn5 : n0 ≤ o := by omega
  clear hd2 hD1 br1 hn0
  go_wp2_with fail
  go_loopg [6] n0 (fun g i wr => i = .int .i64 g ∧ g ≤ n0 ∧ ∃ v l, wr.heap[w1.heap.size]? = some (Obj.cells #[Value.int .i64 t, v] 41 (0, 0)) ∧ wr.heap[w.heap.size]? = some (Obj.cells #[Value.int .i64 0, .slice none 0 0] 41 (0, 0)) ∧
    OwnM wr (w1.heap.size + 1) v l ∧ (∀ m ∈ l, mkOk m = true) ∧ l.Nodup ∧ l.length + g ≤ n0 ∧ Dealt w wr H (N + 2 + 16 * (n0 - g)))
  case atStart => exact ⟨rfl, Nat.le_refl _, _, [], bq2, br2, Own.nil_, (fun m hm => nomatch hm), List.nodup_nil, Nat.le_of_eq (Nat.zero_add _), hD2.mono (by omega)⟩
  case round =>
    obtain ⟨rfl, hgn, v, l, bq, br, hown, hok, hnd, hlen, hD⟩ := hrel
    have HL := Lib.hid (And.intro hok hnd)
    clear hok hnd
    by_cases hg : 0 < gk
    · obtain ⟨A, c, rfl, hsl, hlc, hcm⟩ := hown.form lenMk
      have hg' : (0 : Int) < (gk : Int) := by omega
      go_wp2_with fail
      refine (markOf_any H _ _ hD.hd (by omega)).mono ?_
      rintro e w3 ⟨m, rfl, hm, hd3⟩
      unfold vMk
      go_upto_region 6 with (fail)
      obtain ⟨W3, hW⟩ : ∃ W3, W3 = w3.alloc (Obj.cells #[Value.int .i64 m.n, .int .i64 m.b, .int .i64 m.p] 44) := ⟨_, rfl⟩
      have hD3 : Dealt w W3 H (N + 2 + 16 * (n0 - gk) + 16) := by rw [hW]; exact (hD.trans hd3).alloc _
      have bq3 : W3.heap[w1.heap.size]? = some (Obj.cells #[Value.int .i64 t, .slice A l.length c] 41 (0, 0)) := by rw [hW]; exact hblk_alloc (hd3.blk bq (by omega)) _
      have br3 : W3.heap[w.heap.size]? = some (Obj.cells #[Value.int .i64 0, .slice none 0 0] 41 (0, 0)) := by rw [hW]; exact hblk_alloc (hd3.blk br (by omega)) _
      have hown3 : OwnM W3 (w1.heap.size + 1) (.slice A l.length c) l := by rw [hW]; exact (hown.kept hd3.gr (.inr (fun e => by have := hown.lt _ e; omega))).alloc _
      have bm3 : W3.heap[w3.heap.size]? = some (Obj.cells #[Value.int .i64 m.n, .int .i64 m.b, .int .i64 m.p] 44 (0, 0)) := by rw [hW]; exact alloc_at rfl
      have hsz : w1.heap.size < w3.heap.size := Nat.lt_of_lt_of_le (heap_lt bq) hd3.size
      rw [← hW]
      clear hW hd3 bq br hown hsl hlc hD
      obtain ⟨r0, r1⟩ := blk2 bq3
      obtain ⟨m0, m1, m2⟩ := blk3 bm3
      go_wp2_with fail
      obtain ⟨hs3, hc3, hm3⟩ := hown3.sl lenMk
      refine (owner_kit t A l.length c l m _ hs3 (by omega)).mono ?_
      rintro e w4 ⟨oo, rfl, hoo, hb4⟩
      have hD4 := hD3.less hb4 (Nat.le_refl _)
      have bq4 := bheap bq3 hb4 (Nat.le_refl _)
      have br4 := bheap br3 hb4 (Nat.le_refl _)
      have bm4 := bheap bm3 hb4 (Nat.le_refl _)
      have hown4 := hown3.below hb4 (Nat.le_refl _)
      have hz4 := hb4.size
      have hzm := heap_lt bm3
      clear hD3 bq3 br3 bm3 hown3 hs3 r0 r1 m0 m1 m2 hb4
      obtain ⟨r0, r1⟩ := blk2 bq4
      obtain ⟨m0, m1, m2⟩ := blk3 bm4
      have f1 := frz bq4 1
      by_cases hin : m ∈ l
      · have ho1 : ¬ oo < 0 := by simpa [hin] using hoo
        have ho2 : 0 ≤ oo := by omega
        clear hoo
        go_wp2
        go_roundg (gk - 1)
        case measure => omega
        case rel =>
          refine ⟨by congr 1; omega, by omega, _, l, bq4, br4, hown4, HL.out.1, HL.out.2, by omega, hD4.mono (by omega)⟩
      · have ho1 : oo < 0 := by simpa [hin] using hoo
        have HO := Lib.hid (And.intro hown4 (And.intro hD4 (And.intro bq4 br4)))
        have HIN := Lib.hid hin
        clear hoo hown4 hD4 bq4 br4 hin
        have hll : l.length < 4294967296 := by omega
        go_wp2_with (at_builtin; refine wp_appx okMark rfl (.tmp 27) (.tmp 29) rfl (w1.heap.size + 1) (Value.slice A l.length c) l m _ rfl rfl rfl rfl (one_eMk _) HO.out.1 hll ?_ ?_ ?_; (omega); (omega); intro g5 c5 w5 hown5 hgr5 hb5; have bq5 := (hgr5.block _ (heap_lt HO.out.2.2.1) (fun e => by have := HO.out.1.lt _ e.symm; omega)).trans HO.out.2.2.1; have q5 := (blk2 bq5).2; have f5 := frz bq5 1; have H5 := Lib.hid (And.intro hown5 (And.intro hgr5 (And.intro hb5 bq5))); clear hown5 hgr5 hb5 bq5)
        obtain ⟨hown5, hgr5, hb5, bq5⟩ := H5.out
        obtain ⟨hown4, hD4, bq4, br4⟩ := HO.out
        go_roundg (gk - 1)
        case measure => omega
        case rel =>
          have hfar : ∀ j, j ≠ w1.heap.size → (w5.setCell ⟨w1.heap.size, 1, none⟩ (.slice (some ⟨g5, 0, none⟩) (l.length + 1) c5)).heap[j]? = w5.heap[j]? := fun j hj => Below.heap_setCell _ ⟨w1.heap.size, 1, none⟩ _ _ hj
          have hrs : w5.heap[w.heap.size]? = some (Obj.cells #[Value.int .i64 0, .slice none 0 0] 41 (0, 0)) := (hgr5.block _ (heap_lt br4) (fun e => by have := hown4.lt _ e.symm; omega)).trans br4
          have hD5 : Dealt w w5 H (N + 2 + 16 * (n0 - gk) + 16) := by
            refine ⟨hD4.hd.kept fun j hj => hgr5.block j (Nat.lt_of_le_of_lt hj hD4.hd.lt) (fun e => by have := hown4.lt _ e.symm; omega), ⟨hgr5.os.trans hD4.gr.os, hgr5.tape.trans hD4.gr.tape, hgr5.output.trans hD4.gr.output, Nat.le_trans hD4.gr.size hgr5.size, fun j hj hne => ?_⟩⟩
            exact (hgr5.block j (Nat.lt_of_lt_of_le hj hD4.gr.size) (fun e => by have := hown4.lt _ e.symm; omega)).trans (hD4.gr.block j hj hne)
          refine ⟨by congr 1; omega, by omega, _, l ++ [m], set2_1 bq5, (hfar _ (by omega)).trans hrs, hown5.upon (fun j hj => hfar j (by omega)), ?_, ?_, by simp; omega, (hD5.mono (by omega)).set (by dsimp; omega) (by dsimp; omega) _⟩
          · intro x hx
            rcases List.mem_append.1 hx with h | h
            · exact HL.out.1 x h
            · rw [List.mem_singleton.1 h]; exact hm
          · rw [List.nodup_append]
            refine ⟨HL.out.2, by simp, fun a ha b hb => ?_⟩
            rw [List.mem_singleton.1 hb]
            intro e
            exact HIN.out (e ▸ ha)
    · obtain rfl : gk = 0 := by omega
      have fr0 := frz br 0
      have fr1 := frz br 1
      obtain ⟨A, c, rfl, hsl, hlc, hcm⟩ := hown.form lenMk
      obtain ⟨q0, q1⟩ := blk2 bq
      obtain ⟨r0, r1⟩ := blk2 br
      have HO := Lib.hid (And.intro hown (And.intro hsl (And.intro hlc (And.intro hcm hD))))
      clear hown hsl hlc hcm hD
      go_wp2
      refine bodyPost_ret (v := .agg #[.int .i64 t, .slice A l.length c]) (by simp [results, Try.f10, go_sem, q0, q1, r0, r1]) rfl ?_
      obtain ⟨hown, hsl, hlc, hcm, hD⟩ := HO.out
      have hfar : ∀ j, j ≠ w.heap.size → ((wr.setCell ⟨w.heap.size, 0, none⟩ (.int .i64 t)).setCell ⟨w.heap.size, 1, none⟩ (.slice A l.length c)).heap[j]? = wr.heap[j]? := fun j hj => (Below.heap_setCell _ ⟨w.heap.size, 1, none⟩ _ _ hj).trans (Below.heap_setCell _ ⟨w.heap.size, 0, none⟩ _ _ hj)
      have hown' := hown.upon (w' := (wr.setCell ⟨w.heap.size, 0, none⟩ (.int .i64 t)).setCell ⟨w.heap.size, 1, none⟩ (.slice A l.length c)) (fun j hj => hfar j (by omega))
      refine ⟨t, l, A, c, rfl, check_zero ht' (by omega) HL.out.1 HL.out.2, by omega, hown'.mono (by omega), (hown'.sl lenMk).1, hlc, hcm, ?_⟩
      exact ((hD.mono (by omega)).set (by dsimp; omega) (by dsimp; omega) _).set (by dsimp; omega) (by dsimp; omega) _
end Go.Proofs.Ytgnjknihgjdedaa
namespace Go.Proofs.Ytgnjknihgjdedaa
open Go.RowKit
set_option linter.unusedVariables false
set_option linter.unusedSimpArgs false

theorem Dealt.cell {w w' : World} {H N : Nat} (h : Dealt w w' H N) {b o : Nat} {v : Value} (hc : w.cell? ⟨b, o, none⟩ = some v) (hne : b ≠ H) : w'.cell? ⟨b, o, none⟩ = some v := h.gr.cell hc (fun e => hne (by simpa using e))
def SgRes (w : World) (H N : Nat) (e : Ending) (w' : World) : Prop := ∃ s : Sg, e = .returned (vSg s) ∧ seen s 9 6 = 0 ∧ Dealt w w' H N
theorem Dealt.undrew {w w' : World} {H N : Nat} (h : Dealt w.drew w' H N) : Dealt w w' H N := ⟨h.hd, ⟨h.gr.os, h.gr.tape, h.gr.output, h.gr.size, h.gr.block⟩⟩
theorem far5 {w : World} {b g o : Nat} (h : b ≠ g) (x0 x1 x2 x3 x4 : Value) : (((((w.setCell ⟨g, 0, none⟩ x0).setCell ⟨g, 1, none⟩ x1).setCell ⟨g, 2, none⟩ x2).setCell ⟨g, 3, none⟩ x3).setCell ⟨g, 4, none⟩ x4).cell? ⟨b, o, none⟩ = w.cell? ⟨b, o, none⟩ := by
  have e : (((((w.setCell ⟨g, 0, none⟩ x0).setCell ⟨g, 1, none⟩ x1).setCell ⟨g, 2, none⟩ x2).setCell ⟨g, 3, none⟩ x3).setCell ⟨g, 4, none⟩ x4).heap[b]? = w.heap[b]? :=
    (Below.heap_setCell _ ⟨g, 4, none⟩ _ _ h).trans ((Below.heap_setCell _ ⟨g, 3, none⟩ _ _ h).trans ((Below.heap_setCell _ ⟨g, 2, none⟩ _ _ h).trans ((Below.heap_setCell _ ⟨g, 1, none⟩ _ _ h).trans (Below.heap_setCell _ ⟨g, 0, none⟩ _ _ h))))
  unfold World.cell?
  rw [e]
theorem worn_valid (m : Mk) (s : Sg) (w : World) (hm : mkOk m = true) (hs : 0 ≤ s.n) (hs' : s.n ≤ 255) :
    Calls Try.prog 53 #[.agg #[.int .i64 m.n, .int .i64 m.b, .int .i64 m.p], .agg #[.int .i64 s.n, .bool s.l, .bool s.r, .int .i64 s.b, .int .i64 s.p]] w fun e w' =>
      ∃ S : Sg, e = .returned (.agg #[.int .i64 S.n, .bool S.l, .bool S.r, .int .i64 S.b, .int .i64 S.p]) ∧ seen S 9 6 = 0 ∧ Below w.heap.size w w' := by
  have hk := mkOk_iff.1 hm
  refine Calls.mono (wornK_any m s w hk.1.1 hk.1.2 hs hs') fun e w' h => ?_
  exact ⟨wornS m s, h.1, seen_worn hk, h.2⟩
set_option maxRecDepth 100000 in
set_option maxHeartbeats 4000000 in
theorem sightOf_any (H N : Nat) (t : Nat) (A : Option Addr) (n c : Nat) (l : List Mk) (w : World) (h : Hd w H N) (hN : N ≤ 4611686018427380000) (hck : check t l = 0) (hl : Marks w A n l) (hA : OffH A H) (hn : n ≤ 5) :
    Calls Try.prog 21 #[.pointer (some ⟨H, 0, none⟩), .agg #[.int .i64 t, .slice A n c]] w (SgRes w H (N + 250)) := by
  have hH := h.lt
  have HC := Lib.hid (And.intro hck (And.intro hl hA))
  have ht2 := (check_ok hck).2.1
  clear hck hl hA
  go_enter Try.func21, Try.ntmps21
  go_upto_region 1 with (fail)
  obtain ⟨W, hW⟩ : ∃ W, W = (w.alloc (Obj.cells #[Value.int .i64 (t : Int), .slice A n c] 41)).alloc (Obj.cells #[Value.int .i64 0, .bool false, .bool false, .int .i64 0, .int .i64 0] 52) := ⟨_, rfl⟩
  rw [← hW]
  have hD : Dealt w W H N := by rw [hW]; exact ((Dealt.refl h).alloc _).alloc _
  have br : W.heap[w.heap.size]? = some (Obj.cells #[Value.int .i64 (t : Int), .slice A n c] 41 (0, 0)) := by rw [hW]; exact hblk_alloc (alloc_at rfl) _
  have bs : W.heap[w.heap.size + 1]? = some (Obj.cells #[Value.int .i64 0, .bool false, .bool false, .int .i64 0, .int .i64 0] 52 (0, 0)) := by rw [hW]; exact alloc_at (by simp)
  clear hW
  obtain ⟨r0, r1⟩ := blk2 br
  have first_way : ∀ (w3 : World) (M : Nat), M ≤ N + 1 → Dealt w w3 H M → w3.heap[w.heap.size + 1]? = some (Obj.cells #[Value.int .i64 0, .bool false, .bool false, .int .i64 0, .int .i64 0] 52 (0, 0)) → True := fun _ _ _ _ _ => trivial
  clear first_way
  by_cases hn0 : n = 0
  · subst hn0
    have h0 : ((0 : Nat) == 0) = true := rfl
    have hD0 := hD
    have bsX := bs
    go_wp2_with fail
    refine (markOf_any H (N) _ hD0.hd (by omega)).mono ?_
    rintro e w4 ⟨m, rfl, hm, hd4⟩
    have hD4 := hD0.trans hd4
    have bs4 := hd4.blk bsX (by omega)
    clear hd4 bsX
    unfold vMk
    go_wp2_with fail
    refine (wearOf_any H _ 2 _ hD4.hd (by omega) (by omega)).mono ?_
    rintro e w5 ⟨s, rfl, hs, hp, hd5⟩
    have hD5 := hD4.trans hd5
    have bs5 := hd5.blk bs4 (by omega)
    have hsv := (seen_ok hs).1
    clear hd5 bs4 hD4 hs hp
    unfold vSg
    go_wp2_with fail
    refine (worn_valid m s _ hm hsv.1 hsv.2).mono ?_
    rintro e w6 ⟨S, rfl, hS, hb6⟩
    have hD6 := hD5.less hb6 (Nat.le_refl _)
    have bs6 := bheap bs5 hb6 (Nat.le_refl _)
    have HS := Lib.hid (And.intro hS hD6)
    have g0 := frz bs6 0
    have g1 := frz bs6 1
    have g2 := frz bs6 2
    have g3 := frz bs6 3
    have g4 := frz bs6 4
    have z6 := heap_lt bs6
    obtain ⟨p0, p1, p2, p3, p4⟩ := blk5 bs6
    clear hb6 hS hD5 bs5 bs6 hD6
    go_wp2
    refine bodyPost_ret (v := vSg S) (by simp [results, Try.f21, go_sem, vSg, p0, p1, p2, p3, p4, z6]) rfl ⟨S, rfl, HS.out.1, ?_⟩
    exact (((((HS.out.2.mono (by omega)).set (by dsimp; omega) (by dsimp; omega) _).set (by dsimp; omega) (by dsimp; omega) _).set (by dsimp; omega) (by dsimp; omega) _).set (by dsimp; omega) (by dsimp; omega) _).set (by dsimp; omega) (by dsimp; omega) _
  · have h0 : (n == 0) = false := by simpa using hn0
    have h0' : ((n : Int) == 0) = false := by simp; omega
    go_wp2_with fail
    refine (odds_any H N 1 5 _ hD.hd (by omega) (by omega) (by omega)).mono ?_
    rintro e w3 ⟨o, rfl, hd3⟩
    have hD3 := hD.trans hd3
    have br3 := hd3.blk br (by omega)
    have bs3 := hd3.blk bs (by omega)
    clear hd3 hD br bs r0 r1 h
    cases o
    · go_upto_region 3 with (fail)
      obtain ⟨r0, r1⟩ := blk2 br3
      have hl3 := HC.out.2.1.dealt hD3 HC.out.2.2
      obtain ⟨b, off, hA, hcell⟩ := hl3.2 (by omega)
      subst hA
      have hbH : b ≠ H := HC.out.2.2 b off rfl
      have z3 := heap_lt br3
      obtain ⟨g, hg⟩ : ∃ g : Nat → Mk, ∀ j, j < n → l[j]? = some (g j) := ⟨fun j => l.getD j ⟨0, 0, 0⟩, fun j hj => by
        have hx := List.getElem?_eq_getElem (l := l) (i := j) (by rw [hl3.1]; exact hj)
        dsimp only
        rw [List.getD_eq_getElem?_getD, hx]; rfl⟩
      have m0 : ∀ j, j < n → w3.cell? ⟨b, off + j * 3, none⟩ = some (.int .i64 (g j).n) := fun j hj => hcell j _ (hg j hj) 0 _ rfl
      have m1 : ∀ j, j < n → w3.cell? ⟨b, off + j * 3 + 1, none⟩ = some (.int .i64 (g j).b) := fun j hj => hcell j _ (hg j hj) 1 _ rfl
      have m2 : ∀ j, j < n → w3.cell? ⟨b, off + j * 3 + 2, none⟩ = some (.int .i64 (g j).p) := fun j hj => hcell j _ (hg j hj) 2 _ rfl
      have HG := Lib.hid (show ∀ j, j < n → mkOk (g j) = true from fun j hj => mkOk_iff.2 (check_marks HC.out.1 _ (List.mem_of_getElem? (hg j hj))))
      clear hg
      have hwH : w.heap.size ≠ H := by omega
      have hwH1 : w.heap.size + 1 ≠ H := by omega
      have HD3 := Lib.hid hD3
      have hn1 : (1 : Int) ≤ (n : Int) := by omega
      have hwr : IntKind.i64.wrap ((n : Int) - 1) = (n : Int) - 1 := IntWalk.i64_in _ (by omega)
      clear hcell hD3
      have r0d : w3.drew.cell? ⟨w.heap.size, 0, none⟩ = some (.int .i64 (t : Int)) := r0
      have r1d : w3.drew.cell? ⟨w.heap.size, 1, none⟩ = some (.slice (some ⟨b, off, none⟩) n c) := r1
      have m0d : ∀ j, j < n → w3.drew.cell? ⟨b, off + j * 3, none⟩ = some (.int .i64 (g j).n) := m0
      have m1d : ∀ j, j < n → w3.drew.cell? ⟨b, off + j * 3 + 1, none⟩ = some (.int .i64 (g j).b) := m1
      have m2d : ∀ j, j < n → w3.drew.cell? ⟨b, off + j * 3 + 2, none⟩ = some (.int .i64 (g j).p) := m2
      have hwW : w.heap.size ≠ w.heap.size + 1 := by omega
      have hbW : b ≠ w.heap.size + 1 := by
        obtain ⟨b', off', x, hA', hb', _⟩ := Marks.get HC.out.2.1 (show 0 < n by omega)
        cases hA'
        omega
      go_region_held3 (fun w' => w'.cell? ⟨w.heap.size, 0, none⟩ = some (.int .i64 (t : Int)) ∧ w'.cell? ⟨w.heap.size, 1, none⟩ = some (.slice (some ⟨b, off, none⟩) n c) ∧ (∀ j, j < n → w'.cell? ⟨b, off + j * 3, none⟩ = some (.int .i64 (g j).n)) ∧ (∀ j, j < n → w'.cell? ⟨b, off + j * 3 + 1, none⟩ = some (.int .i64 (g j).b)) ∧ (∀ j, j < n → w'.cell? ⟨b, off + j * 3 + 2, none⟩ = some (.int .i64 (g j).p)))
        ((go_split_ands
          refine ⟨?_, ?_, ?_, ?_, ?_⟩
          all_goals first
            | (with_reducible exact r0d)
            | (with_reducible exact r1d)
            | (with_reducible exact m0d)
            | (with_reducible exact m1d)
            | (with_reducible exact m2d)
            | (with_reducible exact hdx.cell r0 hwH)
            | (with_reducible exact hdx.cell r1 hwH)
            | (intro j hj; with_reducible exact hdx.cell (m0 j hj) hbH)
            | (intro j hj; with_reducible exact hdx.cell (m1 j hj) hbH)
            | (intro j hj; with_reducible exact hdx.cell (m2 j hj) hbH)
            | (rw [far5 hwW]; with_reducible exact hdx.cell r0 hwH)
            | (rw [far5 hwW]; with_reducible exact hdx.cell r1 hwH)
            | (intro j hj; rw [far5 hbW]; with_reducible exact hdx.cell (m0 j hj) hbH)
            | (intro j hj; rw [far5 hbW]; with_reducible exact hdx.cell (m1 j hj) hbH)
            | (intro j hj; rw [far5 hbW]; with_reducible exact hdx.cell (m2 j hj) hbH)
            | fail))
        (first
          | (go_at_call 12; refine (upto_any H (N + 1) (n - 1) _ ?_ ?_ ?_).mono ?_; (exact HD3.out.hd); (omega); (omega); rintro e w4 ⟨k, rfl, hk, hdx⟩; have hdx := hdx.undrew; have hkn : k < n := (by omega); have hk0 : (0 : Int) ≤ (k : Int) := (by omega); have hk1 : (k : Int) < (n : Int) := (by omega); clear hk)
          | (go_at_call 16; refine (wearOf_any H (N + 1 + 1) t _ ?_ ?_ ?_).mono ?_; (exact hdx.hd); (omega); (omega); rintro e w5 ⟨s, rfl, hs, hp, hd5⟩; have hdx := hdx.trans hd5; have hsv := (seen_ok hs).1; clear hd5)
          | (go_at_call 53; refine (worn_valid (g k) s _ ?_ ?_ ?_).mono ?_; (exact HG.out k hkn); (exact hsv.1); (exact hsv.2); rintro e w6 ⟨S, rfl, hS, hb6⟩; have hdx := hdx.less hb6 (Nat.le_refl _); have HSv := Lib.hid hS; have bs6 := hdx.blk bs3 hwH1; have g0 := frz bs6 0; have g1 := frz bs6 1; have g2 := frz bs6 2; have g3 := frz bs6 3; have g4 := frz bs6 4; obtain ⟨p0, p1, p2, p3, p4⟩ := blk5 bs6; clear hb6 hS)
          | fail)
      go_wp2
      have z6 := heap_lt bs6
      refine bodyPost_ret (v := vSg S) (by simp [results, Try.f21, go_sem, vSg, p0, p1, p2, p3, p4, z6]) rfl ⟨S, rfl, HSv.out, ?_⟩
      have hDx := HD3.out.trans hdx
      exact (((((hDx.mono (by omega)).set (by dsimp; omega) (by dsimp; omega) _).set (by dsimp; omega) (by dsimp; omega) _).set (by dsimp; omega) (by dsimp; omega) _).set (by dsimp; omega) (by dsimp; omega) _).set (by dsimp; omega) (by dsimp; omega) _
    · have hD0 := hD3
      have bsX := bs3
      go_wp2_with fail
      refine (markOf_any H (N + 1) _ hD0.hd (by omega)).mono ?_
      rintro e w4 ⟨m, rfl, hm, hd4⟩
      have hD4 := hD0.trans hd4
      have bs4 := hd4.blk bsX (by omega)
      clear hd4 bsX
      unfold vMk
      go_wp2_with fail
      refine (wearOf_any H _ 2 _ hD4.hd (by omega) (by omega)).mono ?_
      rintro e w5 ⟨s, rfl, hs, hp, hd5⟩
      have hD5 := hD4.trans hd5
      have bs5 := hd5.blk bs4 (by omega)
      have hsv := (seen_ok hs).1
      clear hd5 bs4 hD4 hs hp
      unfold vSg
      go_wp2_with fail
      refine (worn_valid m s _ hm hsv.1 hsv.2).mono ?_
      rintro e w6 ⟨S, rfl, hS, hb6⟩
      have hD6 := hD5.less hb6 (Nat.le_refl _)
      have bs6 := bheap bs5 hb6 (Nat.le_refl _)
      have HS := Lib.hid (And.intro hS hD6)
      have g0 := frz bs6 0
      have g1 := frz bs6 1
      have g2 := frz bs6 2
      have g3 := frz bs6 3
      have g4 := frz bs6 4
      have z6 := heap_lt bs6
      obtain ⟨p0, p1, p2, p3, p4⟩ := blk5 bs6
      clear hb6 hS hD5 bs5 bs6 hD6
      go_wp2
      refine bodyPost_ret (v := vSg S) (by simp [results, Try.f21, go_sem, vSg, p0, p1, p2, p3, p4, z6]) rfl ⟨S, rfl, HS.out.1, ?_⟩
      exact (((((HS.out.2.mono (by omega)).set (by dsimp; omega) (by dsimp; omega) _).set (by dsimp; omega) (by dsimp; omega) _).set (by dsimp; omega) (by dsimp; omega) _).set (by dsimp; omega) (by dsimp; omega) _).set (by dsimp; omega) (by dsimp; omega) _
end Go.Proofs.Ytgnjknihgjdedaa
namespace Go.Proofs.Ytgnjknihgjdedaa
open Go.RowKit
set_option linter.unusedVariables false
set_option linter.unusedSimpArgs false

structure Rg where
  t : Int
  A : Option Addr
  n : Nat
  c : Nat
  l : List Mk
structure RgOk (w : World) (g : Rg) : Prop where
  m : Marks w g.A g.n g.l
  nc : g.n ≤ g.c
  cm : g.c ≤ maxLen
  z : g.A = none → g.c = 0
  s : g.n ≤ 4294967295
theorem gb_drew (w : World) (row : Option Nat) : w.grownBy w.drew row := ⟨rfl, rfl, rfl, Nat.le_refl _, fun _ _ _ => rfl⟩
theorem gb_cell {w w' : World} {H b o : Nat} {v : Value} (hg : w.grownBy w' (some H)) (hne : b ≠ H) (hc : w.cell? ⟨b, o, none⟩ = some v) : w'.cell? ⟨b, o, none⟩ = some v := hg.cell hc (fun e => hne (by simpa using e))
theorem Sl.gb {α : Type} {enc : α → List Value} {sz : Nat} {w w' : World} {A : Option Addr} {n : Nat} {l : List α} {H : Nat} (h : Sl enc sz w A n l) (hg : w.grownBy w' (some H)) (hne : OffH A H) : Sl enc sz w' A n l :=
  ⟨h.1, fun hn => by
    obtain ⟨b, off, hA, hc⟩ := h.2 hn
    exact ⟨b, off, hA, fun i x hx j u hu => gb_cell hg (hne b off hA) (hc i x hx j u hu)⟩⟩
theorem flat_get {α : Type} {enc : α → List Value} {sz : Nat} (henc : ∀ x, (enc x).length = sz) : ∀ (l : List α) (i j : Nat) (x : α) (u : Value), l[i]? = some x → (enc x)[j]? = some u → (l.flatMap enc)[i * sz + j]? = some u
  | [], i, j, x, u, hx, hu => by simp at hx
  | y :: r, i, j, x, u, hx, hu => by
    have hj : j < sz := by have := henc x; have := (List.getElem?_eq_some_iff.1 hu).1; omega
    rw [List.flatMap_cons]
    cases i with
    | zero =>
      simp at hx
      subst hx
      rw [List.getElem?_append_left (by rw [henc]; omega)]
      simpa using hu
    | succ i =>
      rw [List.getElem?_append_right (by rw [henc, Nat.succ_mul]; omega), henc]
      have := flat_get henc r i j x u (by simpa using hx) hu
      rw [show (i + 1) * sz + j - sz = i * sz + j by rw [Nat.succ_mul]; omega]
      exact this
theorem Sl.of_blk {α : Type} {enc : α → List Value} {sz : Nat} {w : World} {b : Nat} {cs : Array Value} {t : TypeId} {l : List α} (h : w.heap[b]? = some (.cells cs t (0, 0))) (hcs : cs.toList = l.flatMap enc) (henc : ∀ x, (enc x).length = sz) : Sl enc sz w (some ⟨b, 0, none⟩) l.length l := by
  refine ⟨rfl, fun _ => ⟨b, 0, rfl, ?_⟩⟩
  intro i x hx j u hu
  have hc : w.cell? ⟨b, 0 + i * sz + j, none⟩ = cs[0 + i * sz + j]? := by unfold World.cell?; simp [h]
  rw [hc, ← Array.getElem?_toList, hcs, Nat.zero_add]
  exact flat_get henc l i j x u hx hu
end Go.Proofs.Ytgnjknihgjdedaa

namespace Go.Proofs.Ytgnjknihgjdedaa
open Go.RowKit
set_option linter.unusedVariables false
set_option linter.unusedSimpArgs false

theorem Hd.least {w : World} {H N : Nat} (h : Hd w H N) : ∃ N0, N0 ≤ N ∧ Hd w H N0 ∧ ∀ M, Hd w H M → N0 ≤ M := by
  obtain ⟨A, n, c, next, state, h1, h2, h3, h4, h5⟩ := h
  refine ⟨next.toNat, by omega, ⟨A, n, c, next, state, h1, h2, h3, by omega, h5⟩, fun M hM => ?_⟩
  obtain ⟨A', n', c', next', state', k1, k2, k3, k4, k5⟩ := hM
  rw [h1] at k1
  cases k1
  omega
def EqF (c : Value) : VF := fun v _ => v = c
theorem EqF.st {T : Nat → World → World → Prop} {c : Value} : ∀ (m : Nat) v w w', T m w w' → EqF c v w → EqF c v w' := fun _ _ _ _ _ h => h
theorem pure_st {T : Nat → World → World → Prop} {R : Value → Prop} : ∀ (m : Nat) v w w', T m w w' → (fun v _ => R v : VF) v w → (fun v _ => R v : VF) v w' := fun _ _ _ _ _ h => h

def TB (n : Nat) (w w' : World) : Prop := Below w.heap.size w w'
theorem TB.tr : ∀ n a b c, TB n a b → TB 1 b c → TB (n + 1) a c := fun n a b c h k => Below.trans h (k.mono h.size)
theorem TB.draw (w : World) : TB 0 w { w with drawn := w.drawn + 1 } := bdraw (Below.refl _ _)
theorem TB.rf : ∀ w, TB 1 w w := fun w => Below.refl _ _
def sgObj (s : Sg) : Obj := .cells #[.int .i64 s.n, .bool s.l, .bool s.r, .int .i64 s.b, .int .i64 s.p] 52 (0, 0)
theorem set_blk {w : World} {k i : Nat} {t : TypeId} {cs : Array Value} {x : Nat × Nat} {v : Value} (h : w.heap[k]? = some (.cells cs t x)) : (w.setCell ⟨k, i, none⟩ v).heap[k]? = some (.cells (cs.setIfInBounds i v) t x) := by
  simp [World.setCell, Array.getElem?_modify, h]
def Out (w w' : World) : Prop := w'.os = w.os ∧ w'.tape = w.tape ∧ w'.output = w.output
theorem Out.set {w w' : World} (h : Out w w') (a : Addr) (v : Value) : Out w (w'.setCell a v) := ⟨h.1, h.2.1, h.2.2⟩
theorem Out.rf (w : World) : Out w w := ⟨rfl, rfl, rfl⟩
end Go.Proofs.Ytgnjknihgjdedaa
namespace Go.Proofs.Ytgnjknihgjdedaa
open Go.RowKit Go.MapKept
set_option linter.unusedVariables false
set_option linter.unusedSimpArgs false

def hcs (h : List Int) : Array Value := (h.map (Value.int .i64)).toArray
end Go.Proofs.Ytgnjknihgjdedaa
namespace Go.Proofs.Ytgnjknihgjdedaa
open Go.RowKit Go.MapKept
set_option linter.unusedVariables false
set_option linter.unusedSimpArgs false

structure PutsH (w w' : World) (M : Nat) (L : List (List Int)) : Prop where
  gr : w.grownBy w' (some M)
  met : ∀ K, MetH w M K → ∃ K', MetH w' M K' ∧ ∀ q, q ∈ K' ↔ q ∈ K ∨ q ∈ L
abbrev dObj (d : De) : Obj := .cells #[.int .i64 d.kind, .int .i64 d.flock, .int .i64 d.owner, .int .i64 d.other, .int .i64 d.tof, .int .i64 d.many, .int .i64 d.err, .int .i64 d.s.n, .bool d.s.l, .bool d.s.r, .int .i64 d.s.b, .int .i64 d.s.p] 67 (0, 0)
end Go.Proofs.Ytgnjknihgjdedaa
namespace Go.Proofs.Ytgnjknihgjdedaa
open Go.RowKit Go.MapKept
set_option linter.unusedVariables false
set_option linter.unusedSimpArgs false

abbrev bkObj (t : Int) (A : Option Addr) (n c : Nat) (ks hs ds : Value) (deed owner now : Int) : Obj := .cells #[.int .i64 t, .slice A n c, ks, hs, ds, .int .i64 deed, .int .i64 owner, .int .i64 now] 172 (0, 0)
end Go.Proofs.Ytgnjknihgjdedaa
namespace Go.Proofs.Ytgnjknihgjdedaa
open Go.RowKit Go.MapKept
set_option linter.unusedVariables false
set_option linter.unusedSimpArgs false

def eDe (d : De) : List Value := [.int .i64 d.kind, .int .i64 d.flock, .int .i64 d.owner, .int .i64 d.other, .int .i64 d.tof, .int .i64 d.many, .int .i64 d.err, .int .i64 d.s.n, .bool d.s.l, .bool d.s.r, .int .i64 d.s.b, .int .i64 d.s.p]
abbrev Deeds (w : World) (A : Option Addr) (n : Nat) (l : List De) : Prop := Sl eDe 12 w A n l
structure Hb where
  t : Int
  A : Option Addr
  c : Nat
  l : List Mk
  Ak : Option Addr
  ck : Nat
  ks : List Int
  Ah : Option Addr
  ch : Nat
  hs : List (List Int)
  Ad : Option Addr
  cd : Nat
  ds : List De
namespace Hb
variable (b : Hb)
abbrev vm : Value := .slice b.A b.l.length b.c
abbrev vk : Value := .slice b.Ak b.ks.length b.ck
abbrev vh : Value := .slice b.Ah b.hs.length b.ch
abbrev vd : Value := .slice b.Ad b.ds.length b.cd
abbrev v : Value := .agg #[.int .i64 b.t, .slice b.A b.l.length b.c, .slice b.Ak b.ks.length b.ck, .slice b.Ah b.hs.length b.ch, .slice b.Ad b.ds.length b.cd]
abbrev bk (deed owner now : Int) : Obj := bkObj b.t b.A b.l.length b.c b.vk b.vh b.vd deed owner now
def chk : Int := checkH b.t b.l b.ks b.hs b.ds
def ends (deed owner : Int) : List (List Int) := endsL b.t b.l b.hs b.ds deed owner
end Hb
structure HbIn (w : World) (b : Hb) : Prop where
  m : Marks w b.A b.l.length b.l
  mc : b.l.length ≤ b.c
  mm : b.c ≤ maxLen
  k : Ints w b.Ak b.ks.length b.ks
  kc : b.ks.length ≤ b.ck
  km : b.ck ≤ maxLen
  h : Grid w b.Ah b.hs.length b.hs
  hc : b.hs.length ≤ b.ch
  hm : b.ch ≤ maxLen
  d : Deeds w b.Ad b.ds.length b.ds
  dc : b.ds.length ≤ b.cd
  dm : b.cd ≤ maxLen
structure NowIn (p : Nat) (O : Int → Obj) (w w' : World) : Prop where
  os : w'.os = w.os
  tape : w'.tape = w.tape
  output : w'.output = w.output
  size : w.heap.size ≤ w'.heap.size
  block : ∀ k, k < w.heap.size → k ≠ p → w'.heap[k]? = w.heap[k]?
  hp : ∃ now, w'.heap[p]? = some (O now)
section
variable {p : Nat} {O : Int → Obj} {a b c w w' : World}
end

structure Work (w0 : World) (p : Nat) (b : Hb) (deed owner : Int) (w : World) : Prop where
  hin : HbIn w0 b
  hz : w0.heap.size ≤ p
  bel : Below w0.heap.size w0 w
  hp : ∃ now, w.heap[p]? = some (b.bk deed owner now)
  ck : b.chk = 0
section
variable {w0 w w' : World} {p : Nat} {b : Hb} {deed owner : Int}
end
end Go.Proofs.Ytgnjknihgjdedaa
namespace Go.Proofs.Ytgnjknihgjdedaa
open Go.RowKit
set_option linter.unusedVariables false
set_option linter.unusedSimpArgs false

theorem among_any (H N : Nat) (lo hi : Int) (w : World) (h : Hd w H N) (hN : N ≤ 4611686018427387904) (h1 : -1000000 ≤ lo ∧ lo ≤ 1000000) (h2 : -1000000 ≤ hi ∧ hi ≤ 1000000) :
    Calls Try.prog 22 #[.pointer (some ⟨H, 0, none⟩), .int .i64 lo, .int .i64 hi] w fun e w' => ∃ x : Int, e = .returned (.int .i64 x) ∧ lo ≤ x ∧ (x ≤ hi ∨ x = lo) ∧ Dealt w w' H (N + 1) := by
  go_enter Try.func22, Try.ntmps22
  go_wp2_with fail
  refine (upto_any H N (hi - lo) _ h hN (by omega)).mono ?_
  rintro e w1 ⟨n, rfl, hn, hd⟩
  have hn' : (n : Int) ≤ 2000000 := by omega
  go_wp2_with fail
  go_ret
  exact ⟨lo + n, rfl, by omega, by omega, hd⟩

theorem sumI_take {l : List Int} {k : Nat} {x : Int} (h : l[k]? = some x) : (l.take (k + 1)).sum = (l.take k).sum + x := by
  rw [List.take_add_one, h]
  simp
theorem sum_bd {B : Int} (hB : 0 ≤ B) : ∀ {l : List Int}, (∀ x ∈ l, -B ≤ x ∧ x ≤ B) → -(B * l.length) ≤ l.sum ∧ l.sum ≤ B * l.length
  | [], _ => by simp
  | x :: l, h => by
    have ih := sum_bd hB (l := l) fun y hy => h y (List.mem_cons_of_mem _ hy)
    have hx := h x List.mem_cons_self
    rw [List.sum_cons, List.length_cons]
    have : B * ((l.length + 1 : Nat) : Int) = B * (l.length : Int) + B := by rw [Int.natCast_add, Int.mul_add]; simp
    omega

set_option maxHeartbeats 1000000 in
theorem total_any (A : Option Addr) (n c : Nat) (l : List Int) (w : World) (hl : Ints w A n l) (hn : n ≤ 100000) (hb : ∀ x ∈ l, -100000 ≤ x ∧ x ≤ 100000) :
    Calls Try.prog 14 #[.slice A n c] w fun e w' => e = .returned (.int .i64 l.sum) ∧ w = w' := by
  have hlen := hl.len
  have HL := Lib.hid (And.intro hl (And.intro hlen hb))
  clear hl hlen hb
  obtain ⟨wo, hwo⟩ : ∃ wo, wo = w := ⟨_, rfl⟩
  rw [← hwo]
  have HW := Lib.hid hwo
  clear hwo
  go_enter Try.func14, Try.ntmps14
  go_wp2_with fail
  go_loopg [3, 4] n (fun g v3 v4 wr => ∃ k : Nat, k + g = n ∧ v4 = .int .i64 k ∧ v3 = .int .i64 (l.take k).sum ∧ wr = wo)
  case atStart => exact ⟨0, by omega, rfl, by simp, rfl⟩
  case round =>
    obtain ⟨k, hk, rfl, rfl, rfl⟩ := hrel
    by_cases hlt : k < n
    · obtain ⟨b, off, x, rfl, hbb, hx, c0⟩ := (HW.out ▸ HL.out.1).get hlt
      have hbx := HL.out.2.2 x (List.mem_of_getElem? hx)
      obtain ⟨s, hs⟩ : ∃ s, s = (l.take k).sum := ⟨_, rfl⟩
      have hsb := sum_bd (B := 100000) (by decide) (l := l.take k) (fun y hy => HL.out.2.2 y (List.mem_of_mem_take hy))
      have htl : (l.take k).length ≤ 100000 := by rw [List.length_take]; omega
      rw [← hs] at hsb ⊢
      have h1 : -10000000000 ≤ s ∧ s ≤ 10000000000 := by omega
      have h2 : (k : Int) < (n : Int) := by omega
      have HX := Lib.hid (And.intro hx (And.intro hs hk))
      clear hx hs hsb htl hk
      go_wp2_with fail
      go_roundg (gk - 1)
      case measure => have := HX.out.2.2; omega
      case rel => exact ⟨k + 1, by have := HX.out.2.2; omega, by go_num, by rw [sumI_take HX.out.1, ← HX.out.2.1], rfl⟩
    · obtain rfl : k = n := by omega
      have e : l.take k = l := List.take_of_length_le (by rw [HL.out.2.1]; exact Nat.le_refl _)
      rw [e]
      obtain ⟨s, hs⟩ : ∃ s, s = l.sum := ⟨_, rfl⟩
      rw [← hs]
      have HS := Lib.hid hs
      clear hs
      go_wp2_with fail
      go_ret
      exact ⟨by rw [← HS.out]; rfl, rfl⟩

def ApartV (a b : Value) : Prop := ∀ k, a.ownBlock = some k → b.ownBlock ≠ some k
section
variable {w w' : World} {base B : Nat} {v v' u : Value} {ls : List (List Int)} {l : List Int}
theorem Own.row {α : Type} {enc : α → List Value} {e : TypeId} {sz : Nat} {l : List α} {row : Option Nat} (h : Own enc e sz w base v l) (hg : w.grownBy w' row) (hr : ∀ k, row = some k → k < base) : Own enc e sz w' base v l := by
  refine h.kept hg ?_
  cases hv : v.ownBlock with
  | none => exact .inl rfl
  | some j => exact .inr fun e => by have := hr j e.symm; have := h.lt j hv; omega
theorem Own.put1 {A : Option Addr} {n c : Nat} (h : OwnI w base (.slice A n c) l) {o : Nat} (ho : o < l.length) (x : Int) :
    ∃ g, A = some ⟨g, 0, none⟩ ∧ base ≤ g ∧ g < w.heap.size ∧ w.cell? ⟨g, o, none⟩ = some (.int .i64 (l.getD o 0)) ∧ w.frozen? ⟨g, o, none⟩ = false ∧ OwnI (w.setCell ⟨g, o, none⟩ (.int .i64 x)) base (.slice A n c) (l.set o x) := by
  have flat : ∀ x : List Int, x.flatMap eInt = x.map (Value.int .i64) := fun x => by
    induction x with
    | nil => rfl
    | cons a r ih => rw [List.flatMap_cons, ih]; rfl
  rcases h.2 with ⟨hv, h0⟩ | ⟨g, cap, cur, hv, hg, hh, hnc, hcm, hsz, htk⟩
  · omega
  · cases hv
    have hlo : o < c := by omega
    have hm : (l.flatMap eInt)[o]? = some (Value.int .i64 (l.getD o 0)) := by
      rw [flat, List.getElem?_map, List.getElem?_eq_getElem ho, List.getD_eq_getElem?_getD, List.getElem?_eq_getElem ho]; rfl
    have hco : cur[o]? = some (Value.int .i64 (l.getD o 0)) := by
      rw [← htk, List.getElem?_take_of_lt (by omega), Array.getElem?_toList] at hm
      exact hm
    refine ⟨g, rfl, hg, heap_lt hh, ?_, frz hh o, ?_⟩
    · unfold World.cell?; simp [hh, hco]
    · refine ⟨by simp [flat], .inr ⟨g, c, cur.setIfInBounds o (.int .i64 x), by simp, hg, set_blk hh, by simpa using hnc, hcm, by simpa using hsz, ?_⟩⟩
      rw [Array.toList_setIfInBounds, List.take_set, List.length_set, htk, flat, flat, List.map_set]
theorem grownBy_cell (w : World) (g o : Nat) (x : Value) : w.grownBy (w.setCell ⟨g, o, none⟩ x) (some g) := ⟨rfl, rfl, rfl, by simp, fun j _ hj => Below.heap_setCell _ ⟨g, o, none⟩ _ _ (fun e => hj (by rw [e]))⟩
end
end Go.Proofs.Ytgnjknihgjdedaa
namespace Go.Proofs.Ytgnjknihgjdedaa
open Go.RowKit
set_option linter.unusedVariables false
set_option linter.unusedSimpArgs false

theorem Own.formZ {α : Type} {enc : α → List Value} {e : TypeId} {sz : Nat} {w : World} {base : Nat} {v : Value} {l : List α} (h : Own enc e sz w base v l) (henc : ∀ x, (enc x).length = sz) : ∃ A c, v = .slice A l.length c ∧ Sl enc sz w A l.length l ∧ l.length ≤ c ∧ c ≤ maxLen ∧ (A = none → c = 0) := by
  obtain ⟨A, c, e, h1, h2, h3⟩ := h.form henc
  refine ⟨A, c, e, h1, h2, h3, fun hA => ?_⟩
  rcases h.2 with ⟨hv, _⟩ | ⟨g, cap, cur, hv, _⟩
  · rw [e] at hv; injection hv with _ _ e3
  · rw [e, hA] at hv; injection hv with e1; cases e1
end Go.Proofs.Ytgnjknihgjdedaa
namespace Go.Proofs.Ytgnjknihgjdedaa
open Go.RowKit
set_option linter.unusedVariables false

theorem Own.ne' {α : Type} {enc : α → List Value} {e e' : TypeId} {sz : Nat} {w : World} {base : Nat} {v : Value} {l : List α} {b : Nat} {cs : Array Value} {x : Nat × Nat} (h : Own enc e sz w base v l) (hb : w.heap[b]? = some (.cells cs e' x)) (hne : e ≠ e') : v.ownBlock ≠ some b := by
  intro hgb
  rcases h.2 with ⟨hv, _⟩ | ⟨g', cap, cur, hv, hg, hh, _⟩
  · rw [hv] at hgb; cases hgb
  · rw [hv] at hgb
    cases hgb
    rw [hh] at hb
    cases hb
    exact hne rfl

end Go.Proofs.Ytgnjknihgjdedaa

namespace Go.Proofs.Ytgnjknihgjdedaa
open Go.RowKit
set_option linter.unusedVariables false

theorem okSight : ElemOk Try.prog 50 52 5 32 := ElemOk.mk' (z := .agg #[.int .i64 0, .bool false, .bool false, .int .i64 0, .int .i64 0]) Try.underlying50 (by kernel_rfl) rfl (by decide)
abbrev OwnS (w : World) (base : Nat) (v : Value) (l : List Sg) : Prop := Own eSg 52 5 w base v l
theorem one_eSg (x : Sg) : ∀ u ∈ eSg x, u.oneCell' = true := by
  intro u hu; simp [eSg] at hu; rcases hu with rfl | rfl | rfl | rfl | rfl <;> rfl
end Go.Proofs.Ytgnjknihgjdedaa
