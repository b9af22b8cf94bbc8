/- mestakit.SightsOf, MissingOf; mestalaw03.found. -/
import Derived.Test.YtoidaigiejilcaaSightOf
import Derived.Test.YtoidaigiejilcaaRegs
import Derived.Test.YtoidaigiejilcaaOwn2
namespace Go.Proofs.Ytoidaigiejilcaa
open Go.RowKit
set_option linter.unusedVariables false
set_option linter.unusedSimpArgs false

/-- valid sights of the call's own -/
def SsRes (w : World) (H N most : Nat) (e : Ending) (w' : World) : Prop := ∃ v ss, e = .returned v ∧ OwnS w' w.heap.size v ss ∧ (∀ s ∈ ss, seen s 9 6 = 0) ∧ ss.length ≤ most ∧ Dealt w w' H N
/-- an own slice that grows leaves the hand and all that was there -/
theorem Dealt.grown {w w1 w2 : World} {H N : Nat} (h : Dealt w w1 H N) {row : Option Nat} (hg : w1.grownBy w2 row) (hr : ∀ k, row = some k → H < k ∧ w.heap.size ≤ k) : Dealt w w2 H N := by
  refine ⟨h.hd.kept fun j hj => hg.block j (Nat.lt_of_le_of_lt hj h.hd.lt) (fun e => by have := hr j e.symm; omega), ⟨hg.os.trans h.gr.os, hg.tape.trans h.gr.tape, hg.output.trans h.gr.output, Nat.le_trans h.gr.size hg.size, fun j hj hne => ?_⟩⟩
  exact (hg.block j (Nat.lt_of_lt_of_le hj h.gr.size) (fun e => by have := hr j e.symm; omega)).trans (h.gr.block j hj hne)

set_option maxRecDepth 100000 in
set_option maxHeartbeats 2000000 in
theorem sightsOf_any (H N most : Nat) (t : Nat) (A : Option Addr) (n c : Nat) (l : List Mk) (w : World) (h : Hd w H N) (hN : N ≤ 4611686018427000000) (hmost : most ≤ 20) (hck : check t l = 0) (hl : Marks w A n l) (hA : OffH A H) (hn : n ≤ 5) :
    Calls Try.prog 34 #[.pointer (some ⟨H, 0, none⟩), .agg #[.int .i64 t, .slice A n c], .int .i64 most] w (SsRes w H (N + 1 + 250 * most) most) := by
  have hH := h.lt
  have HC := Lib.hid (And.intro hck (And.intro hl hA))
  clear hck hl hA
  go_enter Try.func34, Try.ntmps34
  go_wp2_with fail
  have hD0 := (Dealt.refl h).alloc (Obj.cells #[Value.int .i64 (t : Int), .slice A n c] 25)
  have b0 : (w.alloc (Obj.cells #[Value.int .i64 (t : Int), .slice A n c] 25)).heap[w.heap.size]? = some (Obj.cells #[Value.int .i64 (t : Int), .slice A n c] 25 (0, 0)) := alloc_at rfl
  refine (upto_any H N most _ hD0.hd (by omega) (by omega)).mono ?_
  rintro e w1 ⟨n0, rfl, hn0, hd1⟩
  have hD1 := hD0.trans hd1
  have b1 := hd1.blk b0 (by omega)
  have hn0' : n0 ≤ most := by omega
  have hl1 := heap_lt b1
  clear hd1 hD0 b0 hn0 h
  go_wp2_with fail
  go_loopg [7, 8] n0 (fun g v i wr => i = .int .i64 g ∧ g ≤ n0 ∧ ∃ ss, OwnS wr (w.heap.size + 1) v ss ∧ (∀ s ∈ ss, seen s 9 6 = 0) ∧ ss.length + g ≤ n0 ∧ wr.heap[w.heap.size]? = some (Obj.cells #[Value.int .i64 (t : Int), .slice A n c] 25 (0, 0)) ∧ Dealt w wr H (N + 1 + 250 * (n0 - g)))
  case atStart => exact ⟨rfl, Nat.le_refl _, [], Own.nil_, (fun s hs => nomatch hs), by simp, b1, hD1.mono (by omega)⟩
  case round =>
    obtain ⟨rfl, hgn, ss, hown, hok, hlen, br, hD⟩ := hrel
    have HO := Lib.hid (And.intro hok hown)
    have hsr := hD.size
    clear hok
    by_cases hg : 0 < gk
    · have hg' : (0 : Int) < (gk : Int) := by omega
      obtain ⟨r0, r1⟩ := blk2 br
      have hlr : Marks _ A n l := HC.out.2.1.dealt hD HC.out.2.2
      have hso := sightOf_any H _ t A n c l _ hD.hd (by omega) HC.out.1 hlr HC.out.2.2 hn
      have HSO := Lib.hid hso
      clear hso hlr hown
      go_wp2_with fail
      refine HSO.out.mono ?_
      rintro e w3 ⟨s, rfl, hs, hd3⟩
      unfold vSg
      have hD3 := hD.trans hd3
      have br3 := hd3.blk br (by omega)
      have hown3 := HO.out.2.kept hd3.gr (.inr (fun e => by have := HO.out.2.lt _ e; omega))
      have HX := Lib.hid (And.intro hown3 (And.intro hD3 (And.intro br3 hs)))
      have hll : ss.length < 4294967296 := by omega
      have hs3 := hD3.size
      have hl3 := heap_lt br3
      clear hD hd3 br hown3 hD3 br3 hs r0 r1
      go_wp2_with (at_builtin; refine wp_app okSight rfl (.tmp 16) (.tmp 20) rfl (w.heap.size + 1) _ ss s _ rfl rfl rfl rfl (one_eSg _) HX.out.1 hll ?_ ?_ ?_; (omega); (omega); intro v5 w5 hown5 hb5 hk5 hz5; have H5 := Lib.hid (And.intro hown5 (And.intro hb5 (And.intro hk5 hz5))); clear hown5 hb5 hk5 hz5)
      go_roundg (gk - 1)
      case measure => omega
      case rel =>
        obtain ⟨hown5, hb5, hk5, hz5⟩ := H5.out
        have hne : ∀ k, k ≤ w.heap.size → True → w5.heap[k]? = w3.heap[k]? := fun k hk _ => hk5 k (by omega) (fun e => by have := HX.out.1.lt _ e; omega)
        refine ⟨by congr 1; omega, by omega, ss ++ [s], hown5, ?_, by simp; omega, (hne _ (Nat.le_refl _) trivial).trans HX.out.2.2.1, ?_⟩
        · intro x hx
          rcases List.mem_append.1 hx with h | h
          · exact HO.out.1 x h
          · rw [List.mem_singleton.1 h]; exact HX.out.2.2.2
        · refine ⟨(HX.out.2.1.hd.kept fun j hj => hne j (by omega) trivial).mono (by omega), ⟨hb5.os.trans HX.out.2.1.gr.os, hb5.tape.trans HX.out.2.1.gr.tape, hb5.output.trans HX.out.2.1.gr.output, by omega, fun j hj hne' => ?_⟩⟩
          exact (hne j (by omega) trivial).trans (HX.out.2.1.gr.block j hj hne')
    · obtain rfl : gk = 0 := by omega
      go_wp2
      go_ret
      exact ⟨_, ss, rfl, HO.out.2.mono (by omega), HO.out.1, by omega, hD.mono (by omega)⟩

/-- what owners miss -/
def MsRes (w : World) (H N n : Nat) (e : Ending) (w' : World) : Prop := ∃ v mis, e = .returned v ∧ OwnI w' w.heap.size v mis ∧ mis.length = n ∧ (∀ x ∈ mis, 0 ≤ x ∧ x ≤ 3) ∧ Dealt w w' H N

set_option maxRecDepth 100000 in
set_option maxHeartbeats 2000000 in
theorem missingOf_any (H N : Nat) (t : Nat) (A : Option Addr) (n c : Nat) (w : World) (h : Hd w H N) (hN : N ≤ 4611686018427000000) (hn : n ≤ 5) :
    Calls Try.prog 35 #[.pointer (some ⟨H, 0, none⟩), .agg #[.int .i64 t, .slice A n c], .int .i64 3] w (MsRes w H (N + 2 * n) n) := by
  have hH := h.lt
  go_enter Try.func35, Try.ntmps35
  go_wp2_with fail
  have hD1 := (Dealt.refl h).alloc (Obj.cells #[Value.int .i64 (t : Int), .slice A n c] 25)
  have b1 : (w.alloc (Obj.cells #[Value.int .i64 (t : Int), .slice A n c] 25)).heap[w.heap.size]? = some (Obj.cells #[Value.int .i64 (t : Int), .slice A n c] 25 (0, 0)) := alloc_at rfl
  clear h
  go_loopg [7, 8] n (fun g v i wr => ∃ k : Nat, k + g = n ∧ i = .int .i64 k ∧ ∃ mis, OwnI wr (w.heap.size + 1) v mis ∧ (∀ x ∈ mis, 0 ≤ x ∧ x ≤ 3) ∧ mis.length = k ∧ wr.heap[w.heap.size]? = some (Obj.cells #[Value.int .i64 (t : Int), .slice A n c] 25 (0, 0)) ∧ Dealt w wr H (N + 2 * k))
  case atStart => exact ⟨0, by omega, rfl, [], Own.nil_, (fun s hs => nomatch hs), rfl, b1, hD1.mono (by omega)⟩
  case round =>
    obtain ⟨k, hk, rfl, mis, hown, hok, hlen, br, hD⟩ := hrel
    have HO := Lib.hid (And.intro hok (And.intro hown (And.intro hlen hk)))
    have hsr := hD.size
    have hkn : k ≤ n := by omega
    clear hok hlen hk
    obtain ⟨r0, r1⟩ := blk2 br
    have hlr := heap_lt br
    by_cases hlt : k < n
    · have hlt' : (k : Int) < (n : Int) := by omega
      clear hown
      go_wp2_with fail
      refine (upto_any H _ 3 _ hD.hd (by omega) (by omega)).mono ?_
      rintro e w2 ⟨x0, rfl, hx0, hd2⟩
      have hD2 := hD.trans hd2
      have br2 := hd2.blk br (by omega)
      have hown2 := HO.out.2.1.kept hd2.gr (.inr (fun e => by have := HO.out.2.1.lt _ e; omega))
      have hx3 : x0 ≤ 3 := by omega
      clear hd2 hD br hx0 r0 r1
      go_wp2_with fail
      have hsz2 := hD2.size
      refine (of_any H _ 0 (some ⟨w2.heap.size, 0, none⟩) 3 3 [1, 1, (x0 : Int)] _ (hD2.hd.alloc _) (by omega) (ints3 w2 3 1 1 x0) (fun b off e => by cases e; omega) (by omega)).mono ?_
      rintro e w3 ⟨y, rfl, hy, hd3⟩
      have hy' : 0 ≤ y ∧ y ≤ 3 := by
        simp only [List.mem_cons, List.not_mem_nil, or_false] at hy
        omega
      have hD3 := (hD2.alloc _).trans hd3
      have br3 := hd3.blk (hblk_alloc br2 (Obj.cells #[Value.int .i64 1, .int .i64 1, .int .i64 (x0 : Int)] 3)) (by omega)
      have hown3 := (hown2.alloc (Obj.cells #[Value.int .i64 1, .int .i64 1, .int .i64 (x0 : Int)] 3)).kept hd3.gr (.inr (fun e => by have := hown2.lt _ e; omega))
      have HX := Lib.hid (And.intro hown3 (And.intro hD3 (And.intro br3 hy')))
      have hll : mis.length < 4294967296 := by have := HO.out.2.2.1; omega
      have hs3 := hD3.size
      have hl3 := heap_lt br3
      clear hD2 hd3 br2 hown2 hown3 hD3 br3 hy hy'
      go_wp2_with (at_builtin; refine wp_app okInt rfl (.tmp 16) (.tmp 23) rfl (w.heap.size + 1) _ mis y _ rfl rfl rfl rfl (one_eInt _) HX.out.1 hll ?_ ?_ ?_; (omega); (omega); intro v5 w5 hown5 hb5 hk5 hz5; have H5 := Lib.hid (And.intro hown5 (And.intro hb5 (And.intro hk5 hz5))); clear hown5 hb5 hk5 hz5)
      go_roundg (gk - 1)
      case measure => have := HO.out.2.2.2; omega
      case rel =>
        obtain ⟨hown5, hb5, hk5, hz5⟩ := H5.out
        have hne : ∀ k, k ≤ w.heap.size → w5.heap[k]? = w3.heap[k]? := fun k hk => hk5 k (by omega) (fun e => by have := HX.out.1.lt _ e; omega)
        refine ⟨k + 1, by have := HO.out.2.2.2; omega, by go_num, mis ++ [y], hown5, ?_, by have := HO.out.2.2.1; simp; omega, (hne _ (Nat.le_refl _)).trans HX.out.2.2.1, ?_⟩
        · intro x hx
          rcases List.mem_append.1 hx with h | h
          · exact HO.out.1 x h
          · rw [List.mem_singleton.1 h]; exact HX.out.2.2.2
        · refine ⟨(HX.out.2.1.hd.kept fun j hj => hne j (by omega)).mono (by omega), ⟨hb5.os.trans HX.out.2.1.gr.os, hb5.tape.trans HX.out.2.1.gr.tape, hb5.output.trans HX.out.2.1.gr.output, by omega, fun j hj hne' => ?_⟩⟩
          exact (hne j (by omega)).trans (HX.out.2.1.gr.block j hj hne')
    · obtain rfl : k = n := by omega
      clear hown
      go_wp2
      go_ret
      exact ⟨_, mis, rfl, HO.out.2.1.mono (by omega), HO.out.2.2.1, HO.out.1, hD⟩
end Go.Proofs.Ytoidaigiejilcaa
