/- mestakit.RegisterOf: a valid register, whichever. -/
import Derived.Test.YtoidaigiejilcaaDoorMarkOf
import Derived.Test.YtoidaigiejilcaaDoorOwner
import Derived.Test.YtoidaigiejilcaaDoorGrid
namespace Go.Proofs.YtoidaigiejilcaaDoor
open Go.RowKit
set_option linter.unusedVariables false
set_option linter.unusedSimpArgs false

theorem chk_zero {l : List Mk} (h1 : ∀ m ∈ l, mkOk m = true) (h2 : l.Nodup) : ∀ j k, chk l j k = 0
  | 0, _ => rfl
  | j + 1, k => by
    unfold chk
    cases hk : l[k]? with
    | none => rfl
    | some m =>
      dsimp only
      have hm := h1 m (List.mem_of_getElem? hk)
      rw [if_neg (by simp [hm]), if_neg, chk_zero h1 h2 j (k + 1)]
      intro hc
      rw [List.contains_eq_mem, decide_eq_true_eq, List.mem_take_iff_getElem] at hc
      obtain ⟨i, hi, he⟩ := hc
      have hk' := List.getElem?_eq_some_iff.1 hk
      obtain ⟨hlt, hk2⟩ := hk'
      have h3 := (List.pairwise_iff_getElem.1 h2) i k (by omega) hlt (by omega)
      exact h3 (he.trans hk2.symm)
theorem check_zero {t : Int} {l : List Mk} (ht : 0 ≤ t ∧ t ≤ 2) (hl : l.length ≤ 5) (h1 : ∀ m ∈ l, mkOk m = true) (h2 : l.Nodup) : check t l = 0 := by
  unfold check
  rw [if_neg (by simp [btw_iff, ht.1, ht.2]), if_neg (by omega), chk_zero h1 h2]

/-- a valid register of the call's own -/
def RegOut (w : World) (H N o : Nat) (e : Ending) (w' : World) : Prop := ∃ t l A c, e = .returned (.agg #[.int .i64 t, .slice A l.length c]) ∧ check t l = 0 ∧ l.length ≤ o ∧ OwnM w' w.heap.size (.slice A l.length c) l ∧ Marks w' A l.length l ∧ l.length ≤ c ∧ c ≤ maxLen ∧ Dealt w w' H N

theorem set2_1 {W : World} {g : Nat} {t : TypeId} {a b z : Value} (h : W.heap[g]? = some (.cells #[a, b] t (0, 0))) : (W.setCell ⟨g, 1, none⟩ z).heap[g]? = some (.cells #[a, z] t (0, 0)) := by
  simp [World.setCell, Array.getElem?_modify, h]

set_option maxRecDepth 100000 in
set_option maxHeartbeats 2000000 in
theorem registerOf_any (H N o : Nat) (w : World) (h : Hd w H N) (hN : N ≤ 4611686018427380000) (ho : o ≤ 5) :
    Calls Tryd.prog 6 #[.pointer (some ⟨H, 0, none⟩), .int .i64 o] w (RegOut w H (N + 100) o) := by
  have hH := h.lt
  go_enter Tryd.func6, Tryd.ntmps6
  go_wp2_with fail
  have hD0 := ((Dealt.refl h).alloc (Obj.cells #[Value.int .i64 0, .slice none 0 0] 26)).alloc (Obj.cells #[Value.int .i64 1, .int .i64 1, .int .i64 2] 3)
  have br0 : ((w.alloc (Obj.cells #[Value.int .i64 0, .slice none 0 0] 26)).alloc (Obj.cells #[Value.int .i64 1, .int .i64 1, .int .i64 2] 3)).heap[w.heap.size]? = some (Obj.cells #[Value.int .i64 0, .slice none 0 0] 26 (0, 0)) := hblk_alloc (alloc_at rfl) _
  have hi0 := ints3 (w.alloc (Obj.cells #[Value.int .i64 0, .slice none 0 0] 26)) 3 1 1 2
  rw [World.size_alloc] at hi0
  refine (of_any H N 0 (some ⟨w.heap.size + 1, 0, none⟩) 3 3 [1, 1, 2] _ hD0.hd (by omega) hi0 (fun b off e => by cases e; omega) (by omega)).mono ?_
  rintro e w1 ⟨t, rfl, ht, hd1⟩
  have hD1 := hD0.trans hd1
  have br1 := hd1.blk br0 (by omega)
  have ht' : 0 ≤ t ∧ t ≤ 2 := by
    simp only [List.mem_cons, List.not_mem_nil, or_false] at ht
    omega
  clear hd1 hD0 br0 ht hi0 h
  go_wp2_with fail
  refine (upto_any H (N + 1) o _ (hD1.alloc _).hd (by omega) (by omega)).mono ?_
  rintro e w2 ⟨n0, rfl, hn0, hd2⟩
  have hD2 := (hD1.alloc (Obj.cells #[Value.int .i64 t, .slice none 0 0] 26)).trans hd2
  have br2 := hd2.blk (hblk_alloc br1 (Obj.cells #[Value.int .i64 t, .slice none 0 0] 26)) (by omega)
  have bq2 := hd2.blk (alloc_at rfl : (w1.alloc (Obj.cells #[Value.int .i64 t, .slice none 0 0] 26)).heap[w1.heap.size]? = some _) (by have := heap_lt br1; omega)
  have hz1 : w.heap.size < w1.heap.size := heap_lt br1
  have hz2 : w1.heap.size < w2.heap.size := heap_lt bq2
  have hn5 : n0 ≤ o := by omega
  clear hd2 hD1 br1 hn0
  go_wp2_with fail
  go_loopg [6] n0 (fun g i wr => i = .int .i64 g ∧ g ≤ n0 ∧ ∃ v l, wr.heap[w1.heap.size]? = some (Obj.cells #[Value.int .i64 t, v] 26 (0, 0)) ∧ wr.heap[w.heap.size]? = some (Obj.cells #[Value.int .i64 0, .slice none 0 0] 26 (0, 0)) ∧
    OwnM wr (w1.heap.size + 1) v l ∧ (∀ m ∈ l, mkOk m = true) ∧ l.Nodup ∧ l.length + g ≤ n0 ∧ Dealt w wr H (N + 2 + 16 * (n0 - g)))
  case atStart => exact ⟨rfl, Nat.le_refl _, _, [], bq2, br2, Own.nil_, (fun m hm => nomatch hm), List.nodup_nil, Nat.le_of_eq (Nat.zero_add _), hD2.mono (by omega)⟩
  case round =>
    obtain ⟨rfl, hgn, v, l, bq, br, hown, hok, hnd, hlen, hD⟩ := hrel
    have HL := Lib.hid (And.intro hok hnd)
    clear hok hnd
    by_cases hg : 0 < gk
    · obtain ⟨A, c, rfl, hsl, hlc, hcm⟩ := hown.form lenMk
      have hg' : (0 : Int) < (gk : Int) := by omega
      go_wp2_with fail
      refine (markOf_any H _ _ hD.hd (by omega)).mono ?_
      rintro e w3 ⟨m, rfl, hm, hd3⟩
      unfold vMk
      go_upto_region 6 with (fail)
      obtain ⟨W3, hW⟩ : ∃ W3, W3 = w3.alloc (Obj.cells #[Value.int .i64 m.n, .int .i64 m.b, .int .i64 m.p] 52) := ⟨_, rfl⟩
      have hD3 : Dealt w W3 H (N + 2 + 16 * (n0 - gk) + 16) := by rw [hW]; exact (hD.trans hd3).alloc _
      have bq3 : W3.heap[w1.heap.size]? = some (Obj.cells #[Value.int .i64 t, .slice A l.length c] 26 (0, 0)) := by rw [hW]; exact hblk_alloc (hd3.blk bq (by omega)) _
      have br3 : W3.heap[w.heap.size]? = some (Obj.cells #[Value.int .i64 0, .slice none 0 0] 26 (0, 0)) := by rw [hW]; exact hblk_alloc (hd3.blk br (by omega)) _
      have hown3 : OwnM W3 (w1.heap.size + 1) (.slice A l.length c) l := by rw [hW]; exact (hown.kept hd3.gr (.inr (fun e => by have := hown.lt _ e; omega))).alloc _
      have bm3 : W3.heap[w3.heap.size]? = some (Obj.cells #[Value.int .i64 m.n, .int .i64 m.b, .int .i64 m.p] 52 (0, 0)) := by rw [hW]; exact alloc_at rfl
      have hsz : w1.heap.size < w3.heap.size := Nat.lt_of_lt_of_le (heap_lt bq) hd3.size
      rw [← hW]
      clear hW hd3 bq br hown hsl hlc hD
      obtain ⟨r0, r1⟩ := blk2 bq3
      obtain ⟨m0, m1, m2⟩ := blk3 bm3
      go_wp2_with fail
      obtain ⟨hs3, hc3, hm3⟩ := hown3.sl lenMk
      refine (owner_kit t A l.length c l m _ hs3 (by omega)).mono ?_
      rintro e w4 ⟨oo, rfl, hoo, hb4⟩
      have hD4 := hD3.less hb4 (Nat.le_refl _)
      have bq4 := bheap bq3 hb4 (Nat.le_refl _)
      have br4 := bheap br3 hb4 (Nat.le_refl _)
      have bm4 := bheap bm3 hb4 (Nat.le_refl _)
      have hown4 := hown3.below hb4 (Nat.le_refl _)
      have hz4 := hb4.size
      have hzm := heap_lt bm3
      clear hD3 bq3 br3 bm3 hown3 hs3 r0 r1 m0 m1 m2 hb4
      obtain ⟨r0, r1⟩ := blk2 bq4
      obtain ⟨m0, m1, m2⟩ := blk3 bm4
      have f1 := frz bq4 1
      by_cases hin : m ∈ l
      · have ho1 : ¬ oo < 0 := by simpa [hin] using hoo
        have ho2 : 0 ≤ oo := by omega
        clear hoo
        go_wp2
        go_roundg (gk - 1)
        case measure => omega
        case rel =>
          refine ⟨by congr 1; omega, by omega, _, l, bq4, br4, hown4, HL.out.1, HL.out.2, by omega, hD4.mono (by omega)⟩
      · have ho1 : oo < 0 := by simpa [hin] using hoo
        have HO := Lib.hid (And.intro hown4 (And.intro hD4 (And.intro bq4 br4)))
        have HIN := Lib.hid hin
        clear hoo hown4 hD4 bq4 br4 hin
        have hll : l.length < 4294967296 := by omega
        go_wp2_with (at_builtin; refine wp_appx okMark rfl (.tmp 27) (.tmp 29) rfl (w1.heap.size + 1) (Value.slice A l.length c) l m _ rfl rfl rfl rfl (one_eMk _) HO.out.1 hll ?_ ?_ ?_; (omega); (omega); intro g5 c5 w5 hown5 hgr5 hb5; have bq5 := (hgr5.block _ (heap_lt HO.out.2.2.1) (fun e => by have := HO.out.1.lt _ e.symm; omega)).trans HO.out.2.2.1; have q5 := (blk2 bq5).2; have f5 := frz bq5 1; have H5 := Lib.hid (And.intro hown5 (And.intro hgr5 (And.intro hb5 bq5))); clear hown5 hgr5 hb5 bq5)
        obtain ⟨hown5, hgr5, hb5, bq5⟩ := H5.out
        obtain ⟨hown4, hD4, bq4, br4⟩ := HO.out
        go_roundg (gk - 1)
        case measure => omega
        case rel =>
          have hfar : ∀ j, j ≠ w1.heap.size → (w5.setCell ⟨w1.heap.size, 1, none⟩ (.slice (some ⟨g5, 0, none⟩) (l.length + 1) c5)).heap[j]? = w5.heap[j]? := fun j hj => Below.heap_setCell _ ⟨w1.heap.size, 1, none⟩ _ _ hj
          have hrs : w5.heap[w.heap.size]? = some (Obj.cells #[Value.int .i64 0, .slice none 0 0] 26 (0, 0)) := (hgr5.block _ (heap_lt br4) (fun e => by have := hown4.lt _ e.symm; omega)).trans br4
          have hD5 : Dealt w w5 H (N + 2 + 16 * (n0 - gk) + 16) := by
            refine ⟨hD4.hd.kept fun j hj => hgr5.block j (Nat.lt_of_le_of_lt hj hD4.hd.lt) (fun e => by have := hown4.lt _ e.symm; omega), ⟨hgr5.os.trans hD4.gr.os, hgr5.tape.trans hD4.gr.tape, hgr5.output.trans hD4.gr.output, Nat.le_trans hD4.gr.size hgr5.size, fun j hj hne => ?_⟩⟩
            exact (hgr5.block j (Nat.lt_of_lt_of_le hj hD4.gr.size) (fun e => by have := hown4.lt _ e.symm; omega)).trans (hD4.gr.block j hj hne)
          refine ⟨by congr 1; omega, by omega, _, l ++ [m], set2_1 bq5, (hfar _ (by omega)).trans hrs, hown5.upon (fun j hj => hfar j (by omega)), ?_, ?_, by simp; omega, (hD5.mono (by omega)).set (by dsimp; omega) (by dsimp; omega) _⟩
          · intro x hx
            rcases List.mem_append.1 hx with h | h
            · exact HL.out.1 x h
            · rw [List.mem_singleton.1 h]; exact hm
          · rw [List.nodup_append]
            refine ⟨HL.out.2, by simp, fun a ha b hb => ?_⟩
            rw [List.mem_singleton.1 hb]
            intro e
            exact HIN.out (e ▸ ha)
    · obtain rfl : gk = 0 := by omega
      have fr0 := frz br 0
      have fr1 := frz br 1
      obtain ⟨A, c, rfl, hsl, hlc, hcm⟩ := hown.form lenMk
      obtain ⟨q0, q1⟩ := blk2 bq
      obtain ⟨r0, r1⟩ := blk2 br
      have HO := Lib.hid (And.intro hown (And.intro hsl (And.intro hlc (And.intro hcm hD))))
      clear hown hsl hlc hcm hD
      go_wp2
      refine bodyPost_ret (v := .agg #[.int .i64 t, .slice A l.length c]) (by simp [results, Tryd.f6, go_sem, q0, q1, r0, r1]) rfl ?_
      obtain ⟨hown, hsl, hlc, hcm, hD⟩ := HO.out
      have hfar : ∀ j, j ≠ w.heap.size → ((wr.setCell ⟨w.heap.size, 0, none⟩ (.int .i64 t)).setCell ⟨w.heap.size, 1, none⟩ (.slice A l.length c)).heap[j]? = wr.heap[j]? := fun j hj => (Below.heap_setCell _ ⟨w.heap.size, 1, none⟩ _ _ hj).trans (Below.heap_setCell _ ⟨w.heap.size, 0, none⟩ _ _ hj)
      have hown' := hown.upon (w' := (wr.setCell ⟨w.heap.size, 0, none⟩ (.int .i64 t)).setCell ⟨w.heap.size, 1, none⟩ (.slice A l.length c)) (fun j hj => hfar j (by omega))
      refine ⟨t, l, A, c, rfl, check_zero ht' (by omega) HL.out.1 HL.out.2, by omega, hown'.mono (by omega), (hown'.sl lenMk).1, hlc, hcm, ?_⟩
      exact ((hD.mono (by omega)).set (by dsimp; omega) (by dsimp; omega) _).set (by dsimp; omega) (by dsimp; omega) _
end Go.Proofs.YtoidaigiejilcaaDoor
