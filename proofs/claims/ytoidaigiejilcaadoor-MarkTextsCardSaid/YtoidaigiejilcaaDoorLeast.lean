/- mark.least over an iterator of marks; mark.Fresh. -/
import Derived.Test.YtoidaigiejilcaaDoorFreshIt
namespace Go.Proofs.YtoidaigiejilcaaDoor
open Go.RowKit Go.Shelf
set_option linter.unusedVariables false
set_option linter.unusedSimpArgs false
attribute [local go_sem] Oper.semAt_some

theorem fewer_any (a b : Mk) (w : World) (ha : 0 ≤ a.n) (ha' : a.n ≤ 255) (hb : 0 ≤ b.n) (hb' : b.n ≤ 255) :
    Calls Tryd.prog 49 #[vMk a, vMk b] w fun e w' => e = .returned (.bool (decide (popI a.n < popI b.n))) ∧ Below w.heap.size w w' := by
  go_enter Tryd.func49, Tryd.ntmps49
  unfold vMk
  go_wp2_with fail
  go_quiet ((go_at_call 41; exact quiet_left (count_any _ _ (by assumption) (by assumption))))
  go_wp2
  go_ret
  exact ⟨rfl, below_drewN (((Below.refl _ _).alloc (Nat.le_refl _) _).alloc (by simp) _) _⟩

theorem set3 {W : World} {g : Nat} {t : TypeId} {a b c x y z : Value} (h : W.heap[g]? = some (.cells #[a, b, c] t (0, 0))) :
    (((W.setCell ⟨g, 0, none⟩ x).setCell ⟨g, 1, none⟩ y).setCell ⟨g, 2, none⟩ z).heap[g]? = some (.cells #[x, y, z] t (0, 0)) := by simp [World.setCell, Array.getElem?_modify, h]
theorem far_set {W : World} {k g i : Nat} {o : Obj} {x : Value} (h : W.heap[k]? = some o) (hne : k ≠ g) : (W.setCell ⟨g, i, none⟩ x).heap[k]? = some o := (Below.heap_setCell W ⟨g, i, none⟩ x k hne).trans h
theorem keeps_sets {B : Nat} {W : World} {a b c d : Addr} {x y z u : Value} : KeepsFrom B W ((((W.setCell a x).setCell b y).setCell c z).setCell d u) :=
  ((((KeepsOthers.setCell _ _ _).trans (KeepsOthers.setCell _ _ _)).trans (KeepsOthers.setCell _ _ _)).trans (KeepsOthers.setCell _ _ _)).from _
def leastI : List Ix → Option Ix := List.foldl (fun o x => match o with | none => some x | some y => if popI (mkIx x.1).n < popI (mkIx y.1).n then some x else some y) none
theorem leastI_snoc (xs : List Ix) (x : Ix) : leastI (xs ++ [x]) = match leastI xs with | none => some x | some y => if popI (mkIx x.1).n < popI (mkIx y.1).n then some x else some y := by
  simp [leastI, List.foldl_append]
def leastV (xs : List Ix) : Mk := match leastI xs with | none => ⟨0, 0, 0⟩ | some x => mkIx x.1

set_option maxRecDepth 100000 in
set_option maxHeartbeats 2000000 in
theorem least_any (gf : Nat) (lb : Array Value) (S Sp : List Ix → Prop) (N n₀ : Nat) (w0 w : World) (eg : ∀ args w, (callFunc gf args).run Tryd.prog w = .ok (.enter gf args) w)
    (hseq : SeqStopsK Fence.wide 8 Tryd.prog gf lb encM (Below n₀) S Sp N w0) (hb0 : Below w0.heap.size w0 w) (hn0 : n₀ ≤ w.heap.size) :
    Calls Tryd.prog 47 #[.func (.func gf) #[] lb, .agg #[.func (.func 49) #[] #[]]] w fun e w' =>
      ∃ xs, S xs ∧ e = .returned (.tuple #[vMk (leastV xs), .bool (leastI xs).isSome]) ∧ Below w.heap.size w w' := by
  refine (callsIn_wide (n := 9)).1 ?_
  refine callsIn_of_wp_marks Tryd.func47 rfl trivial ?_ rfl
  simp only [Tryd.ntmps47, List.size_toArray, List.length_cons, List.length_nil, Nat.reduceAdd, Nat.reduceSub, Array.replicate_succ, Array.replicate_zero, List.push_toArray, List.append_toArray, List.nil_append, List.cons_append]
  refine wpIn_wide.2 ?_
  go_wp2
  obtain ⟨w1, hw1⟩ : ∃ w1, w1 = (((w.alloc (Obj.cells #[Value.func (Fn.func 49) #[] #[]] 96)).alloc (Obj.cells #[Value.int .i64 0, .int .i64 0, .int .i64 0] 52)).alloc (Obj.cells #[Value.int .i64 0, .int .i64 0, .int .i64 0] 52)).alloc (Obj.cells #[Value.bool false] 4) := ⟨_, rfl⟩
  rw [← hw1]
  have b3 : w1.heap[w.heap.size]? = some (Obj.cells #[Value.func (Fn.func 49) #[] #[]] 96 (0, 0)) := by rw [hw1]; exact hblk_alloc (hblk_alloc (hblk_alloc (alloc_at rfl) _) _) _
  have b4 : w1.heap[w.heap.size + 1]? = some (Obj.cells #[Value.int .i64 0, .int .i64 0, .int .i64 0] 52 (0, 0)) := by rw [hw1]; exact hblk_alloc (hblk_alloc (alloc_at (by simp)) _) _
  have b6 : w1.heap[w.heap.size + 1 + 1]? = some (Obj.cells #[Value.int .i64 0, .int .i64 0, .int .i64 0] 52 (0, 0)) := by rw [hw1]; exact hblk_alloc (alloc_at (by simp)) _
  have b7 : w1.heap[w.heap.size + 1 + 1 + 1]? = some (Obj.cells #[Value.bool false] 4 (0, 0)) := by rw [hw1]; exact alloc_at (by simp)
  have hB0 : Below w.heap.size w w1 := by rw [hw1]; exact ((((Below.refl _ _).alloc (Nat.le_refl _) _).alloc (by simp) _).alloc (by simp; omega) _).alloc (by simp; omega) _
  have hz : w1.heap.size = w.heap.size + 4 := by rw [hw1]; simp
  clear hw1
  have hz' : w.heap.size + 3 < w1.heap.size := by omega
  have HZ := Lib.hid hz
  clear hz
  refine (wpIn_wide (n := 9)).1 ?_
  refine wpIn_rangeFunc_ownH rfl (by omega) (gf := gf) (lb := lb) rfl trivial eg hseq belowK_t (belowK_b (by omega)) (hb0.trans (hB0.mono hb0.size)) (fun _ => rfl)
    (fun pre W => (∃ m : Mk, ∃ sm : Bool, (sm = (leastI pre).isSome ∧ (∀ i, leastI pre = some i → m = mkIx i.1) ∧ (leastI pre = none → m = ⟨0, 0, 0⟩)) ∧
        W.heap[w.heap.size]? = some (Obj.cells #[Value.func (Fn.func 49) #[] #[]] 96 (0, 0)) ∧
        W.heap[w.heap.size + 1]? = some (Obj.cells #[Value.int .i64 0, .int .i64 0, .int .i64 0] 52 (0, 0)) ∧
        W.heap[w.heap.size + 1 + 1]? = some (Obj.cells #[Value.int .i64 m.n, .int .i64 m.b, .int .i64 m.p] 52 (0, 0)) ∧
        W.heap[w.heap.size + 1 + 1 + 1]? = some (Obj.cells #[Value.bool sm] 4 (0, 0))) ∧ Below w.heap.size w W)
    (fun _ _ _ => False)
    (OwnFrom.and (Own.from (fun pre A B row hs hg hr => by
      obtain ⟨m, sm, h0, h1, h2, h3, h4⟩ := hs
      exact ⟨m, sm, h0, blk_kept h1 rfl hg hr, blk_kept h2 rfl hg hr, blk_kept h3 rfl hg hr, blk_kept h4 rfl hg hr⟩) _) (ownFrom_below (Nat.le_refl _) (by omega)))
    (fun _ _ _ _ _ hs _ _ => hs)
    ⟨⟨⟨0, 0, 0⟩, false, ⟨rfl, by simp [leastI], fun _ => rfl⟩, b3, b4, b6, b7⟩, hB0⟩
    (fun x a' W => ∃ Bx, w1.heap.size ≤ Bx ∧ W.heap[Bx]? = some (Obj.cells #[.int .i64 (mkIx x.1).n, .int .i64 (mkIx x.1).b, .int .i64 (mkIx x.1).p] 52 (0, 0)) ∧
      a' = { tmps := #[.func (.func gf) #[] lb, .agg #[.func (.func 49) #[] #[]], undef, .pointer (some ⟨w.heap.size, 0, none⟩), .pointer (some ⟨w.heap.size + 1, 0, none⟩), .bool false, .pointer (some ⟨w.heap.size + 1 + 1, 0, none⟩), .pointer (some ⟨w.heap.size + 1 + 1 + 1, 0, none⟩), .pointer (some ⟨Bx, 0, none⟩), .func (.func gf) #[] lb, vMk (mkIx x.1), undef, undef, undef, undef, undef, undef, undef, undef, undef, undef, undef, undef], defers := [] })
    (fun x a' _ A B row hs hg hr => by
      obtain ⟨Bx, h1, h2, h3⟩ := hs
      exact ⟨Bx, h1, blk_kept h2 rfl hg (fun r e => (hr r e).2), h3⟩)
    ?assign ?body ?done ?stop
  case assign =>
    rintro l pre x W K ⟨⟨m, sm, h0, h1, h2, h3, h4⟩, hB⟩ hK
    have hsz := heap_lt h4
    unfold encM vMk
    gi_wp2
    refine hK _ _ ((KeepsOthers.alloc _ _).from _) ((Below.refl _ _).alloc (by omega) _) ⟨⟨m, sm, h0, hblk_alloc h1 _, hblk_alloc h2 _, hblk_alloc h3 _, hblk_alloc h4 _⟩, hB.alloc (by omega) _⟩ ⟨W.heap.size, by have := HZ.out; omega, alloc_at rfl, rfl⟩
  case body =>
    rintro l pre x a' W hl hrec ⟨⟨m, sm, h0, h1, h2, h3, h4⟩, hB⟩ ⟨Bx, hBx, hbx, rfl⟩ hlen
    have hsz := heap_lt h4
    have hsx := heap_lt hbx
    have c1 := blk1 h1
    obtain ⟨d0, d1, d2⟩ := blk3 h3
    have c4 := blk1 h4
    obtain ⟨x0, x1, x2⟩ := blk3 hbx
    have f4 : W.frozen? ⟨w.heap.size + 1 + 1 + 1, 0, none⟩ = false := free_of_one h4
    have f3 : ∀ i, W.frozen? ⟨w.heap.size + 1 + 1, i, none⟩ = false := fun i => by simp [World.frozen?, h3]
    have HH := Lib.hid (And.intro h0 (And.intro h1 (And.intro h2 (And.intro h3 h4))))
    clear h0 h1 h2 h3 h4
    cases sm
    · gi_wp2
      refine ⟨fun _ h => (by cases h), ?_⟩
      gi_wp2
      have hl0 : leastI pre = none := by
        have := HH.out.1.1
        cases hl : leastI pre with
        | none => rfl
        | some i => rw [hl] at this; cases this
      obtain ⟨h0, h1, h2, h3, h4⟩ := HH.out
      have hBn : Below w.heap.size W ((((W.setCell ⟨w.heap.size + 1 + 1, 0, none⟩ (.int .i64 (mkIx x.1).n)).setCell ⟨w.heap.size + 1 + 1, 1, none⟩ (.int .i64 (mkIx x.1).b)).setCell ⟨w.heap.size + 1 + 1, 2, none⟩ (.int .i64 (mkIx x.1).p)).setCell ⟨w.heap.size + 1 + 1 + 1, 0, none⟩ (.bool true)) :=
        ((((Below.refl _ _).setCell (by dsimp; omega) _).setCell (by dsimp; omega) _).setCell (by dsimp; omega) _).setCell (by dsimp; omega) _
      refine ⟨keeps_sets, hBn.mono hn0, ⟨mkIx x.1, true, ⟨by rw [leastI_snoc, hl0]; rfl, fun i hi => ?_, fun hi => ?_⟩, ?_, ?_, ?_, ?_⟩, hB.trans hBn⟩
      · rw [leastI_snoc, hl0] at hi; cases hi; rfl
      · rw [leastI_snoc, hl0] at hi; cases hi
      · exact far_set (far_set (far_set (far_set h1 (by omega)) (by omega)) (by omega)) (by omega)
      · exact far_set (far_set (far_set (far_set h2 (by omega)) (by omega)) (by omega)) (by omega)
      · exact far_set (set3 h3) (by omega)
      · exact one_setCell (far_set (far_set (far_set h4 (by omega)) (by omega)) (by omega))
    · have hpx := mkIx_lo x
      have hm : ∃ i : Ix, leastI pre = some i ∧ m = mkIx i.1 := by
        obtain ⟨⟨hs, hi, _⟩, _⟩ := HH.out
        cases hl : leastI pre with
        | none => rw [hl] at hs; cases hs
        | some i => exact ⟨i, rfl, hi i hl⟩
      obtain ⟨i, hi, rfl⟩ := hm
      have hpi := mkIx_lo i
      have HI := Lib.hid hi
      clear hi
      have HX := Lib.hid (And.intro hbx hlen)
      have g1 : w.heap.size + 1 + 1 < W.heap.size := by omega
      have g0 : w.heap.size < W.heap.size := by omega
      gi_wp2_with (refine ⟨trivial, ?_⟩; gi_at_call 49; refine (inRnd (fewer_any (mkIx x.1) (mkIx i.1) _ hpx.1 hpx.2 hpi.1 hpi.2)).mono ?_; rintro e w2 ⟨rfl, hb2⟩; obtain ⟨hc2, hf2⟩ := bc hb2; have hz2 := hb2.size; have HB2 := Lib.hid hb2; clear hb2)
      · have hlt : popI (mkIx x.1).n < popI (mkIx i.1).n := by assumption
        obtain ⟨h0, h1, h2, h3, h4⟩ := HH.out
        have h1 := bheap h1 HB2.out (Nat.le_refl _)
        have h2 := bheap h2 HB2.out (Nat.le_refl _)
        have h3 := bheap h3 HB2.out (Nat.le_refl _)
        have h4 := bheap h4 HB2.out (Nat.le_refl _)
        have hBn : Below w.heap.size W ((((w2.setCell ⟨w.heap.size + 1 + 1, 0, none⟩ (.int .i64 (mkIx x.1).n)).setCell ⟨w.heap.size + 1 + 1, 1, none⟩ (.int .i64 (mkIx x.1).b)).setCell ⟨w.heap.size + 1 + 1, 2, none⟩ (.int .i64 (mkIx x.1).p)).setCell ⟨w.heap.size + 1 + 1 + 1, 0, none⟩ (.bool true)) :=
          ((((HB2.out.mono (by omega)).setCell (by dsimp; omega) _).setCell (by dsimp; omega) _).setCell (by dsimp; omega) _).setCell (by dsimp; omega) _
        have hls : leastI (pre ++ [x]) = some x := by rw [leastI_snoc, HI.out]; simp only [hlt, if_true]
        refine ⟨(keepsFrom_below HB2.out).trans keeps_sets, hBn.mono hn0, ⟨mkIx x.1, true, ⟨by rw [hls]; rfl, fun j hj => ?_, fun hj => ?_⟩, ?_, ?_, ?_, ?_⟩, hB.trans hBn⟩
        · rw [hls] at hj; cases hj; rfl
        · rw [hls] at hj; cases hj
        · exact far_set (far_set (far_set (far_set h1 (by omega)) (by omega)) (by omega)) (by omega)
        · exact far_set (far_set (far_set (far_set h2 (by omega)) (by omega)) (by omega)) (by omega)
        · exact far_set (set3 h3) (by omega)
        · exact one_setCell (far_set (far_set (far_set h4 (by omega)) (by omega)) (by omega))
      · have hnlt : ¬ popI (mkIx x.1).n < popI (mkIx i.1).n := by first | assumption | omega
        obtain ⟨h0, h1, h2, h3, h4⟩ := HH.out
        have hls : leastI (pre ++ [x]) = some i := by rw [leastI_snoc, HI.out]; simp only [hnlt, if_false]
        refine ⟨keepsFrom_below HB2.out, HB2.out.mono (by omega), ⟨mkIx i.1, true, ⟨by rw [hls]; rfl, fun j hj => ?_, fun hj => ?_⟩, bheap h1 HB2.out (Nat.le_refl _), bheap h2 HB2.out (Nat.le_refl _), bheap h3 HB2.out (Nat.le_refl _), bheap h4 HB2.out (Nat.le_refl _)⟩, hB.trans (HB2.out.mono (by omega))⟩
        · rw [hls] at hj; cases hj; rfl
        · rw [hls] at hj; cases hj
  case done =>
    rintro D xs W hD hS ⟨⟨m, sm, h0, h1, h2, h3, h4⟩, hB⟩ hK
    have hsz := heap_lt h4
    obtain ⟨d0, d1, d2⟩ := blk3 h3
    have c4 := blk1 h4
    obtain ⟨e0, e1, e2⟩ := blk3 h2
    have f2 : ∀ i, W.frozen? ⟨w.heap.size + 1, i, none⟩ = false := fun i => by simp [World.frozen?, h2]
    have HH := Lib.hid (And.intro h0 (And.intro h1 (And.intro h2 (And.intro h3 (And.intro h4 hS)))))
    clear h0 h1 h2 h3 h4
    go_wp2
    go_region
    go_wp2
    obtain ⟨h0, h1, h2, h3, h4, hS⟩ := HH.out
    have hz0 := HZ.out
    obtain ⟨W', hW'⟩ : ∃ W', W' = ((((W.setCell ⟨w.heap.size + 1, 0, none⟩ (.int .i64 m.n)).setCell ⟨w.heap.size + 1, 1, none⟩ (.int .i64 m.b)).setCell ⟨w.heap.size + 1, 2, none⟩ (.int .i64 m.p)).drew) := ⟨_, rfl⟩
    have hK' : W'.heap[D]? = some (.deferred (some [])) := by rw [hW']; exact far_set (far_set (far_set hK (by omega)) (by omega)) (by omega)
    have h2' : W'.heap[w.heap.size + 1]? = some (Obj.cells #[Value.int .i64 m.n, .int .i64 m.b, .int .i64 m.p] 52 (0, 0)) := by rw [hW']; exact set3 h2
    have hB' : Below w.heap.size w W' := by rw [hW']; exact (((hB.setCell (by dsimp; omega) _).setCell (by dsimp; omega) _).setCell (by dsimp; omega) _).drew
    show bodyPostM _ _ _ _ _ _ _ ((((W.setCell ⟨w.heap.size + 1, 0, none⟩ (.int .i64 m.n)).setCell ⟨w.heap.size + 1, 1, none⟩ (.int .i64 m.b)).setCell ⟨w.heap.size + 1, 2, none⟩ (.int .i64 m.p)).drew)
    rw [← hW']
    clear hW'
    refine ⟨by simp, .inl ⟨_, _, rfl, run_takeDeferred hK', ?_⟩⟩
    have h2'' : (W'.putObj D (.deferred none)).heap[w.heap.size + 1]? = some (Obj.cells #[Value.int .i64 m.n, .int .i64 m.b, .int .i64 m.p] 52 (0, 0)) := (World.putObj_heap_other (by omega)).trans h2'
    obtain ⟨r0, r1, r2⟩ := blk3 h2''
    refine ⟨.tuple #[vMk m, .bool sm], ?_, xs, hS, ?_, hB'.trans (belowK_b (w := w) (Nat.le_refl _) W' D _ _ (by omega) hK' rfl rfl)⟩
    · simp [results, Tryd.f47, go_sem, r0, r1, r2, vMk]
    · have hm : m = leastV xs := by
        unfold leastV
        cases hl : leastI xs with
        | none => exact h0.2.2 hl
        | some i => exact h0.2.1 i hl
      rw [h0.1, hm]
  case stop =>
    rintro D c pre W hD hpre hf hK
    exact hf.elim
end Go.Proofs.YtoidaigiejilcaaDoor
