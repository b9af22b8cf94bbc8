/- mestakit.SightOf: a valid sight, whichever. -/
import Derived.Test.YtoidaigiejilcaaWornK
import Derived.Test.YtoidaigiejilcaaWearOf
import Derived.Test.YtoidaigiejilcaaRegOf
import Derived.Test.YtoidaigiejilcaaLaw
import Derived.Deep.RegionHeld3
namespace Go.Proofs.Ytoidaigiejilcaa
open Go.RowKit
set_option linter.unusedVariables false
set_option linter.unusedSimpArgs false

theorem Dealt.cell {w w' : World} {H N : Nat} (h : Dealt w w' H N) {b o : Nat} {v : Value} (hc : w.cell? ⟨b, o, none⟩ = some v) (hne : b ≠ H) : w'.cell? ⟨b, o, none⟩ = some v := h.gr.cell hc (fun e => hne (by simpa using e))
/-- some valid sight -/
def SgRes (w : World) (H N : Nat) (e : Ending) (w' : World) : Prop := ∃ s : Sg, e = .returned (vSg s) ∧ seen s 9 6 = 0 ∧ Dealt w w' H N
theorem sgRes_mono {w w' : World} {H N M : Nat} {e : Ending} (h : SgRes w H N e w') (hM : N ≤ M) : SgRes w H M e w' := by
  obtain ⟨s, h1, h2, h3⟩ := h
  exact ⟨s, h1, h2, h3.mono hM⟩

theorem Dealt.undrew {w w' : World} {H N : Nat} (h : Dealt w.drew w' H N) : Dealt w w' H N := ⟨h.hd, ⟨h.gr.os, h.gr.tape, h.gr.output, h.gr.size, h.gr.block⟩⟩
theorem far5 {w : World} {b g o : Nat} (h : b ≠ g) (x0 x1 x2 x3 x4 : Value) : (((((w.setCell ⟨g, 0, none⟩ x0).setCell ⟨g, 1, none⟩ x1).setCell ⟨g, 2, none⟩ x2).setCell ⟨g, 3, none⟩ x3).setCell ⟨g, 4, none⟩ x4).cell? ⟨b, o, none⟩ = w.cell? ⟨b, o, none⟩ := by
  have e : (((((w.setCell ⟨g, 0, none⟩ x0).setCell ⟨g, 1, none⟩ x1).setCell ⟨g, 2, none⟩ x2).setCell ⟨g, 3, none⟩ x3).setCell ⟨g, 4, none⟩ x4).heap[b]? = w.heap[b]? :=
    (Below.heap_setCell _ ⟨g, 4, none⟩ _ _ h).trans ((Below.heap_setCell _ ⟨g, 3, none⟩ _ _ h).trans ((Below.heap_setCell _ ⟨g, 2, none⟩ _ _ h).trans ((Below.heap_setCell _ ⟨g, 1, none⟩ _ _ h).trans (Below.heap_setCell _ ⟨g, 0, none⟩ _ _ h))))
  unfold World.cell?
  rw [e]
theorem worn_valid (m : Mk) (s : Sg) (w : World) (hm : mkOk m = true) (hs : 0 ≤ s.n) (hs' : s.n ≤ 255) :
    Calls Try.prog 31 #[.agg #[.int .i64 m.n, .int .i64 m.b, .int .i64 m.p], .agg #[.int .i64 s.n, .bool s.l, .bool s.r, .int .i64 s.b, .int .i64 s.p]] w fun e w' =>
      ∃ S : Sg, e = .returned (.agg #[.int .i64 S.n, .bool S.l, .bool S.r, .int .i64 S.b, .int .i64 S.p]) ∧ seen S 9 6 = 0 ∧ Below w.heap.size w w' := by
  have hk := mkOk_iff.1 hm
  refine Calls.mono (wornK_any m s w hk.1.1 hk.1.2 hs hs') fun e w' h => ?_
  exact ⟨wornS m s, h.1, seen_worn hk, h.2⟩
set_option maxRecDepth 100000 in
set_option maxHeartbeats 4000000 in
theorem sightOf_any (H N : Nat) (t : Nat) (A : Option Addr) (n c : Nat) (l : List Mk) (w : World) (h : Hd w H N) (hN : N ≤ 4611686018427380000) (hck : check t l = 0) (hl : Marks w A n l) (hA : OffH A H) (hn : n ≤ 5) :
    Calls Try.prog 81 #[.pointer (some ⟨H, 0, none⟩), .agg #[.int .i64 t, .slice A n c]] w (SgRes w H (N + 250)) := by
  have hH := h.lt
  have HC := Lib.hid (And.intro hck (And.intro hl hA))
  have ht2 := (check_ok hck).2.1
  clear hck hl hA
  go_enter Try.func81, Try.ntmps81
  go_upto_region 1 with (fail)
  obtain ⟨W, hW⟩ : ∃ W, W = (w.alloc (Obj.cells #[Value.int .i64 (t : Int), .slice A n c] 25)).alloc (Obj.cells #[Value.int .i64 0, .bool false, .bool false, .int .i64 0, .int .i64 0] 44) := ⟨_, rfl⟩
  rw [← hW]
  have hD : Dealt w W H N := by rw [hW]; exact ((Dealt.refl h).alloc _).alloc _
  have br : W.heap[w.heap.size]? = some (Obj.cells #[Value.int .i64 (t : Int), .slice A n c] 25 (0, 0)) := by rw [hW]; exact hblk_alloc (alloc_at rfl) _
  have bs : W.heap[w.heap.size + 1]? = some (Obj.cells #[Value.int .i64 0, .bool false, .bool false, .int .i64 0, .int .i64 0] 44 (0, 0)) := by rw [hW]; exact alloc_at (by simp)
  clear hW
  obtain ⟨r0, r1⟩ := blk2 br
  have first_way : ∀ (w3 : World) (M : Nat), M ≤ N + 1 → Dealt w w3 H M → w3.heap[w.heap.size + 1]? = some (Obj.cells #[Value.int .i64 0, .bool false, .bool false, .int .i64 0, .int .i64 0] 44 (0, 0)) → True := fun _ _ _ _ _ => trivial
  clear first_way
  by_cases hn0 : n = 0
  · subst hn0
    have h0 : ((0 : Nat) == 0) = true := rfl
    have hD0 := hD
    have bsX := bs
    go_wp2_with fail
    refine (markOf_any H (N) _ hD0.hd (by omega)).mono ?_
    rintro e w4 ⟨m, rfl, hm, hd4⟩
    have hD4 := hD0.trans hd4
    have bs4 := hd4.blk bsX (by omega)
    clear hd4 bsX
    unfold vMk
    go_wp2_with fail
    refine (wearOf_any H _ 2 _ hD4.hd (by omega) (by omega)).mono ?_
    rintro e w5 ⟨s, rfl, hs, hp, hd5⟩
    have hD5 := hD4.trans hd5
    have bs5 := hd5.blk bs4 (by omega)
    have hsv := (seen_ok hs).1
    clear hd5 bs4 hD4 hs hp
    unfold vSg
    go_wp2_with fail
    refine (worn_valid m s _ hm hsv.1 hsv.2).mono ?_
    rintro e w6 ⟨S, rfl, hS, hb6⟩
    have hD6 := hD5.less hb6 (Nat.le_refl _)
    have bs6 := bheap bs5 hb6 (Nat.le_refl _)
    have HS := Lib.hid (And.intro hS hD6)
    have g0 := frz bs6 0
    have g1 := frz bs6 1
    have g2 := frz bs6 2
    have g3 := frz bs6 3
    have g4 := frz bs6 4
    have z6 := heap_lt bs6
    obtain ⟨p0, p1, p2, p3, p4⟩ := blk5 bs6
    clear hb6 hS hD5 bs5 bs6 hD6
    go_wp2
    refine bodyPost_ret (v := vSg S) (by simp [results, Try.f81, go_sem, vSg, p0, p1, p2, p3, p4, z6]) rfl ⟨S, rfl, HS.out.1, ?_⟩
    exact (((((HS.out.2.mono (by omega)).set (by dsimp; omega) (by dsimp; omega) _).set (by dsimp; omega) (by dsimp; omega) _).set (by dsimp; omega) (by dsimp; omega) _).set (by dsimp; omega) (by dsimp; omega) _).set (by dsimp; omega) (by dsimp; omega) _
  · have h0 : (n == 0) = false := by simpa using hn0
    have h0' : ((n : Int) == 0) = false := by simp; omega
    go_wp2_with fail
    refine (odds_any H N 1 5 _ hD.hd (by omega) (by omega) (by omega)).mono ?_
    rintro e w3 ⟨o, rfl, hd3⟩
    have hD3 := hD.trans hd3
    have br3 := hd3.blk br (by omega)
    have bs3 := hd3.blk bs (by omega)
    clear hd3 hD br bs r0 r1 h
    cases o
    · go_upto_region 3 with (fail)
      obtain ⟨r0, r1⟩ := blk2 br3
      have hl3 := HC.out.2.1.dealt hD3 HC.out.2.2
      obtain ⟨b, off, hA, hcell⟩ := hl3.2 (by omega)
      subst hA
      have hbH : b ≠ H := HC.out.2.2 b off rfl
      have z3 := heap_lt br3
      obtain ⟨g, hg⟩ : ∃ g : Nat → Mk, ∀ j, j < n → l[j]? = some (g j) := ⟨fun j => l.getD j ⟨0, 0, 0⟩, fun j hj => by
        have hx := List.getElem?_eq_getElem (l := l) (i := j) (by rw [hl3.1]; exact hj)
        dsimp only
        rw [List.getD_eq_getElem?_getD, hx]; rfl⟩
      have m0 : ∀ j, j < n → w3.cell? ⟨b, off + j * 3, none⟩ = some (.int .i64 (g j).n) := fun j hj => hcell j _ (hg j hj) 0 _ rfl
      have m1 : ∀ j, j < n → w3.cell? ⟨b, off + j * 3 + 1, none⟩ = some (.int .i64 (g j).b) := fun j hj => hcell j _ (hg j hj) 1 _ rfl
      have m2 : ∀ j, j < n → w3.cell? ⟨b, off + j * 3 + 2, none⟩ = some (.int .i64 (g j).p) := fun j hj => hcell j _ (hg j hj) 2 _ rfl
      have HG := Lib.hid (show ∀ j, j < n → mkOk (g j) = true from fun j hj => mkOk_iff.2 (check_marks HC.out.1 _ (List.mem_of_getElem? (hg j hj))))
      clear hg
      have hwH : w.heap.size ≠ H := by omega
      have hwH1 : w.heap.size + 1 ≠ H := by omega
      have HD3 := Lib.hid hD3
      have hn1 : (1 : Int) ≤ (n : Int) := by omega
      have hwr : IntKind.i64.wrap ((n : Int) - 1) = (n : Int) - 1 := IntWalk.i64_in _ (by omega)
      clear hcell hD3
      have r0d : w3.drew.cell? ⟨w.heap.size, 0, none⟩ = some (.int .i64 (t : Int)) := r0
      have r1d : w3.drew.cell? ⟨w.heap.size, 1, none⟩ = some (.slice (some ⟨b, off, none⟩) n c) := r1
      have m0d : ∀ j, j < n → w3.drew.cell? ⟨b, off + j * 3, none⟩ = some (.int .i64 (g j).n) := m0
      have m1d : ∀ j, j < n → w3.drew.cell? ⟨b, off + j * 3 + 1, none⟩ = some (.int .i64 (g j).b) := m1
      have m2d : ∀ j, j < n → w3.drew.cell? ⟨b, off + j * 3 + 2, none⟩ = some (.int .i64 (g j).p) := m2
      have hwW : w.heap.size ≠ w.heap.size + 1 := by omega
      have hbW : b ≠ w.heap.size + 1 := by
        obtain ⟨b', off', x, hA', hb', _⟩ := Marks.get HC.out.2.1 (show 0 < n by omega)
        cases hA'
        omega
      go_region_held3 (fun w' => w'.cell? ⟨w.heap.size, 0, none⟩ = some (.int .i64 (t : Int)) ∧ w'.cell? ⟨w.heap.size, 1, none⟩ = some (.slice (some ⟨b, off, none⟩) n c) ∧ (∀ j, j < n → w'.cell? ⟨b, off + j * 3, none⟩ = some (.int .i64 (g j).n)) ∧ (∀ j, j < n → w'.cell? ⟨b, off + j * 3 + 1, none⟩ = some (.int .i64 (g j).b)) ∧ (∀ j, j < n → w'.cell? ⟨b, off + j * 3 + 2, none⟩ = some (.int .i64 (g j).p)))
        ((go_split_ands
          refine ⟨?_, ?_, ?_, ?_, ?_⟩
          all_goals first
            | (with_reducible exact r0d)
            | (with_reducible exact r1d)
            | (with_reducible exact m0d)
            | (with_reducible exact m1d)
            | (with_reducible exact m2d)
            | (with_reducible exact hdx.cell r0 hwH)
            | (with_reducible exact hdx.cell r1 hwH)
            | (intro j hj; with_reducible exact hdx.cell (m0 j hj) hbH)
            | (intro j hj; with_reducible exact hdx.cell (m1 j hj) hbH)
            | (intro j hj; with_reducible exact hdx.cell (m2 j hj) hbH)
            | (rw [far5 hwW]; with_reducible exact hdx.cell r0 hwH)
            | (rw [far5 hwW]; with_reducible exact hdx.cell r1 hwH)
            | (intro j hj; rw [far5 hbW]; with_reducible exact hdx.cell (m0 j hj) hbH)
            | (intro j hj; rw [far5 hbW]; with_reducible exact hdx.cell (m1 j hj) hbH)
            | (intro j hj; rw [far5 hbW]; with_reducible exact hdx.cell (m2 j hj) hbH)
            | fail))
        (first
          | (go_at_call 30; refine (upto_any H (N + 1) (n - 1) _ ?_ ?_ ?_).mono ?_; (exact HD3.out.hd); (omega); (omega); rintro e w4 ⟨k, rfl, hk, hdx⟩; have hdx := hdx.undrew; have hkn : k < n := (by omega); have hk0 : (0 : Int) ≤ (k : Int) := (by omega); have hk1 : (k : Int) < (n : Int) := (by omega); clear hk)
          | (go_at_call 32; refine (wearOf_any H (N + 1 + 1) t _ ?_ ?_ ?_).mono ?_; (exact hdx.hd); (omega); (omega); rintro e w5 ⟨s, rfl, hs, hp, hd5⟩; have hdx := hdx.trans hd5; have hsv := (seen_ok hs).1; clear hd5)
          | (go_at_call 31; refine (worn_valid (g k) s _ ?_ ?_ ?_).mono ?_; (exact HG.out k hkn); (exact hsv.1); (exact hsv.2); rintro e w6 ⟨S, rfl, hS, hb6⟩; have hdx := hdx.less hb6 (Nat.le_refl _); have HSv := Lib.hid hS; have bs6 := hdx.blk bs3 hwH1; have g0 := frz bs6 0; have g1 := frz bs6 1; have g2 := frz bs6 2; have g3 := frz bs6 3; have g4 := frz bs6 4; obtain ⟨p0, p1, p2, p3, p4⟩ := blk5 bs6; clear hb6 hS)
          | fail)
      go_wp2
      have z6 := heap_lt bs6
      refine bodyPost_ret (v := vSg S) (by simp [results, Try.f81, go_sem, vSg, p0, p1, p2, p3, p4, z6]) rfl ⟨S, rfl, HSv.out, ?_⟩
      have hDx := HD3.out.trans hdx
      exact (((((hDx.mono (by omega)).set (by dsimp; omega) (by dsimp; omega) _).set (by dsimp; omega) (by dsimp; omega) _).set (by dsimp; omega) (by dsimp; omega) _).set (by dsimp; omega) (by dsimp; omega) _).set (by dsimp; omega) (by dsimp; omega) _
    · have hD0 := hD3
      have bsX := bs3
      go_wp2_with fail
      refine (markOf_any H (N + 1) _ hD0.hd (by omega)).mono ?_
      rintro e w4 ⟨m, rfl, hm, hd4⟩
      have hD4 := hD0.trans hd4
      have bs4 := hd4.blk bsX (by omega)
      clear hd4 bsX
      unfold vMk
      go_wp2_with fail
      refine (wearOf_any H _ 2 _ hD4.hd (by omega) (by omega)).mono ?_
      rintro e w5 ⟨s, rfl, hs, hp, hd5⟩
      have hD5 := hD4.trans hd5
      have bs5 := hd5.blk bs4 (by omega)
      have hsv := (seen_ok hs).1
      clear hd5 bs4 hD4 hs hp
      unfold vSg
      go_wp2_with fail
      refine (worn_valid m s _ hm hsv.1 hsv.2).mono ?_
      rintro e w6 ⟨S, rfl, hS, hb6⟩
      have hD6 := hD5.less hb6 (Nat.le_refl _)
      have bs6 := bheap bs5 hb6 (Nat.le_refl _)
      have HS := Lib.hid (And.intro hS hD6)
      have g0 := frz bs6 0
      have g1 := frz bs6 1
      have g2 := frz bs6 2
      have g3 := frz bs6 3
      have g4 := frz bs6 4
      have z6 := heap_lt bs6
      obtain ⟨p0, p1, p2, p3, p4⟩ := blk5 bs6
      clear hb6 hS hD5 bs5 bs6 hD6
      go_wp2
      refine bodyPost_ret (v := vSg S) (by simp [results, Try.f81, go_sem, vSg, p0, p1, p2, p3, p4, z6]) rfl ⟨S, rfl, HS.out.1, ?_⟩
      exact (((((HS.out.2.mono (by omega)).set (by dsimp; omega) (by dsimp; omega) _).set (by dsimp; omega) (by dsimp; omega) _).set (by dsimp; omega) (by dsimp; omega) _).set (by dsimp; omega) (by dsimp; omega) _).set (by dsimp; omega) (by dsimp; omega) _
end Go.Proofs.Ytoidaigiejilcaa
