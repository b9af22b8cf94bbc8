/- TopCounted 18: TyH, TyI. -/
import Derived.Test.YtgnjknihgjdedaaTc17
import Derived.Laws.MakeOwn
namespace Go.Proofs.Ytgnjknihgjdedaa
open Go.RowKit Go.MapKept Go.ChangeMaps
set_option linter.unusedVariables false
set_option linter.unusedSimpArgs false
attribute [local go_sem] Oper.semAt_some

theorem made_sp (n : Nat) : madeCells #[.int .i64 0, .int .i64 0] (n * 2) = lcs (List.replicate n sp0) := by
  have hall : ∀ x ∈ (List.replicate n sp0).flatMap eSp, x = Value.int .i64 0 := fun x hx => by
    rw [List.mem_flatMap] at hx
    obtain ⟨a, ha, hx⟩ := hx
    rw [(List.mem_replicate.1 ha).2] at hx
    unfold eSp sp0 at hx
    simpa using hx
  apply Array.ext
  · rw [lcs_size, List.length_replicate, size_madeCells]
  · intro i h1 h2
    have e1 : (lcs (List.replicate n sp0))[i] = Value.int .i64 0 := hall _ (by
      have := Array.getElem_mem h2
      rwa [List.mem_toArray] at this)
    rw [e1]
    have hm : i % 2 = 0 ∨ i % 2 = 1 := by omega
    rcases hm with h | h <;> simp [madeCells, h]
theorem info_span : (Try.prog.info? 91).map (fun i => (i.size, i.zero.map Value.cells, i.bytes)) = some (2, some #[.int .i64 0, .int .i64 0], 16) := by kernel_rfl
theorem run_mkS (W : World) {n : Nat} (h : n ≤ 100000) : (Instr.makeSlice 88 (.int .i64 (n : Int)) (.int .i64 (n : Int))).run Try.prog W = .ok (.slice (some ⟨W.heap.size, 0, none⟩) n n) (W.alloc (.cells (lcs (List.replicate n sp0)) 91)) := by
  have hh := info_span
  cases hi : Try.prog.info? 91 with
  | none => rw [hi] at hh; simp at hh
  | some i =>
    rw [hi] at hh
    simp only [Option.map_some, Option.some.injEq, Prod.mk.injEq] at hh
    obtain ⟨h1, h2, h3⟩ := hh
    cases hz : i.zero with
    | none => rw [hz] at h2; simp at h2
    | some z =>
      rw [hz] at h2
      simp only [Option.map_some, Option.some.injEq] at h2
      have := run_make (P := Try.prog) W 88 91 i z Try.underlying88 hi hz .i64 .i64 (n : Int) (n : Int) (by omega) (Int.le_refl _) (by rw [h3]; omega) (by omega)
      rw [Int.toNat_natCast, h1, h2, made_sp] at this
      exact this
theorem GrB.then {A B C : World} {a : Nat} {row : Option Nat} (h : A.grownBy B (some a)) (k : B.grownBy C row) (hr : ∀ r, row = some r → A.heap.size ≤ r) : A.grownBy C (some a) :=
  ⟨k.os.trans h.os, k.tape.trans h.tape, k.output.trans h.output, Nat.le_trans h.size k.size, fun j hj hne => (k.block j (Nat.lt_of_lt_of_le hj h.size) (fun e => by have := hr j e.symm; omega)).trans (h.block j hj hne)⟩
theorem nows_bd {T : Ty} (hk : TyOk T) {G : Nat} (s : Sp) (hs : s ∈ T.nows) (hG : T.g = (G : Int) ∧ G ≤ 5) : s.bd (3000 - 120 * ((G - 1 : Nat) : Int)) := by
  obtain ⟨g, hg, rfl⟩ := List.mem_map.1 hs
  have hg' := List.mem_range.1 hg
  have := now_bd hk g
  unfold Sp.bd at *
  omega
theorem gbB {A B : World} (h : Below A.heap.size A B) : A.grownBy B none := ⟨h.os, h.tape, h.output, h.size, fun j hj _ => h.block j hj⟩
theorem GrB.set {A B : World} {a i : Nat} (h : A.grownBy B (some a)) (v : Value) : A.grownBy (B.setCell ⟨a, i, none⟩ v) (some a) :=
  ⟨h.os, h.tape, h.output, by simpa using h.size, fun j hj hne => (Below.heap_setCell B ⟨a, i, none⟩ v j (fun e => hne (by rw [e]))).trans (h.block j hj hne)⟩
set_option maxRecDepth 100000 in
set_option maxHeartbeats 2000000 in
theorem ttruly_any (T : Ty) (p : Tp) (k M cl : Nat) (w : World) (hk : TyOk T) (hat : TyAt w T p k M) (hM : w.heap[M]? = some (.map #[] cl)) (ht : TyT T) :
    Calls Try.prog 34 #[.pointer (some ⟨k, 0, none⟩)] w fun e w' => (∃ g : Nat, e = .returned (.tuple #[.slice (some ⟨g, 0, none⟩) T.g.toNat T.g.toNat, .bool true]) ∧ w.heap.size ≤ g ∧ SpB w' g 91 T.outs) ∧ w.grownBy w' (some M) := by
  have hkl := heap_lt hat.b
  have hMl := heap_lt hM
  have hkM : k ≠ M := fun e => by have := hat.b; rw [e, hM] at this; cases this
  have htr := ttruth_any T p k M cl w hk hat hM ht
  obtain ⟨G, hG⟩ := Int.eq_ofNat_of_zero_le (show 0 ≤ T.g by have := hk.g; omega)
  have hG1 : 1 ≤ G ∧ G ≤ 5 := by have := hk.g; omega
  have HG := Lib.hid hG
  have HA := Lib.hid (And.intro hk (And.intro hat (And.intro hM ht)))
  rw [show T.g.toNat = G by omega]
  refine (callsIn_wide (n := 9)).1 ?_
  refine callsIn_of_wp_marks Try.func34 rfl trivial ?_ rfl
  simp only [Try.ntmps34, List.size_toArray, List.length_cons, List.length_nil, Nat.reduceAdd, Nat.reduceSub, Array.replicate_succ, Array.replicate_zero, List.push_toArray, List.append_toArray, List.nil_append, List.cons_append]
  refine wpIn_wide.2 ?_
  clear hk hat hM ht hG
  have hmk := fun W => run_mkS W (show G ≤ 100000 by omega)
  go_wp2_with (first
    | (go_at_call 70; (with_reducible refine htr.mono ?_); rintro e w1 ⟨rfl, hg1⟩; have hb1 : w1.heap[k]? = some (wkO T p M) := (hg1.block k hkl (fun e => hkM (by injection e))).trans HA.out.2.1.b; obtain ⟨c0, c1, c2, c3, c4, c5, c6, c7⟩ := blk8w hb1; have hk1 := heap_lt hb1; rw [HG.out] at c0; have H1 := Lib.hid (And.intro hg1 hb1); clear hg1 hb1))
  clear htr c0 c1 c2 c3 c4 c5 c6 c7 hmk
  obtain ⟨g0, hg0⟩ : ∃ g, g = w1.heap.size := ⟨_, rfl⟩
  obtain ⟨w3, hw3⟩ : ∃ W, W = (w1.alloc (Obj.cells (lcs (List.replicate G sp0)) 91)).alloc (Obj.cells #[Value.slice (some ⟨g0, 0, none⟩) G G] 88) := ⟨_, rfl⟩
  rw [← hg0, ← hw3]
  have s3 : SpB w3 g0 91 (List.replicate G sp0) := by rw [hw3, hg0]; exact hblk_alloc (alloc_at rfl) _
  have t3 : w3.heap[g0 + 1]? = some (Obj.cells #[Value.slice (some ⟨g0, 0, none⟩) G G] 88 (0, 0)) := by rw [hw3, hg0]; exact alloc_at (by simp)
  have hb13 : Below w1.heap.size w1 w3 := by rw [hw3]; exact bal (bal0 w1 _) (Nat.le_refl _) _
  have hw1 := H1.out.1.size
  have hkg : k < g0 := by omega
  have hMg : M < g0 := by omega
  have hat1 : TyAt w1 T p k M := by
    have hsl : ∀ {α : Type} {enc : α → List Value} {sz : Nat} {A : Option Addr} {n : Nat} {l : List α}, Sl enc sz w A n l → Sl enc sz w1 A n l := fun h => ⟨h.1, fun hn => by
      obtain ⟨b, off, e, hc⟩ := h.2 hn
      refine ⟨b, off, e, fun i x hx j u hu => ?_⟩
      have h1 := hc i x hx j u hu
      have hbM : b ≠ M := fun e => by rw [e] at h1; unfold World.cell? at h1; rw [HA.out.2.2.1] at h1; cases h1
      unfold World.cell? at h1 ⊢
      cases hh : w.heap[b]? with
      | none => rw [hh] at h1; cases h1
      | some o => rw [(H1.out.1.block b (heap_lt hh) (fun e => hbM (by injection e)))]; exact h1⟩
    exact ⟨H1.out.2, hsl HA.out.2.1.i.a, HA.out.2.1.i.ac, HA.out.2.1.i.am, hsl HA.out.2.1.i.b, HA.out.2.1.i.bc, HA.out.2.1.i.bm⟩
  have hat3 := hat1.below hb13 (Nat.le_refl _)
  have hof : OffT T p k g0 := hat1.off (Nat.le_of_eq hg0.symm)
  have H3 := Lib.hid (And.intro s3 (And.intro t3 (And.intro hb13 (And.intro hat3 (And.intro hof hg0)))))
  have hlm := tlim_any T p k M w3 hat3.b hat3.i HA.out.1
  have hwk := fun w => twalk_any k (limL T.cs) w (limL_len T.cs)
  have hw3s := hb13.size
  clear s3 t3 hb13 hat1 hat3 hof hw3 hg0
  go_wp2_with (first
    | (go_at_call 72; (with_reducible refine hlm.mono ?_); rintro e w4 ⟨rfl, hb4⟩; have HB4 := Lib.hid hb4; clear hb4)
    | (go_at_call 71; (with_reducible refine (hwk _).mono ?_); rintro e w5 ⟨rfl, hb5, p5, q5, z5⟩))
  try go_step3
  try go_wp2_with (go_at_call 71; (with_reducible refine (hwk _).mono ?_); rintro e w5 ⟨rfl, hb5, p5, q5, z5⟩)
  obtain ⟨r, hr⟩ : ∃ r, r = w4.heap.size := ⟨_, rfl⟩
  have hb35 : Below w3.heap.size w3 w5 := HB4.out.trans (hb5.mono HB4.out.size)
  have s5 := H3.out.1.below hb35 (Nat.le_refl _)
  have t5 := bheap H3.out.2.1 hb35 (Nat.le_refl _)
  have hat5 := H3.out.2.2.2.1.below hb35 (Nat.le_refl _)
  have hg3 := heap_lt H3.out.2.1
  have hgr : g0 + 1 < r := by rw [hr]; exact Nat.lt_of_lt_of_le hg3 HB4.out.size
  rw [← hr] at p5 q5 ⊢
  have hg5 := heap_lt t5
  have H5 := Lib.hid (And.intro s5 (And.intro t5 (And.intro hat5 (And.intro (H3.out.2.2.1.trans (hb35.mono H3.out.2.2.1.size)) hr))))
  clear hb35 s5 t5 hat5 hr hb5 z5 hlm hwk
  refine wp_walk HA.out.1 H5.out.2.2.1 p5 q5 H3.out.2.2.2.2.1 (by omega) (by omega) (by omega) rfl rfl
    (fun pre W => w5.grownBy W (some g0) ∧ ∃ l, SpB W g0 91 l ∧ l.length = G ∧ l.take pre.length = T.nows.take pre.length) (fun _ _ _ => False)
    (fun s A B row hs hg hr => ⟨GrB.then hs.1 hg (fun i e => (hr i e).1), by
      obtain ⟨l, h1, h2⟩ := hs.2
      exact ⟨l, blk_kept h1 rfl hg (fun i e => (hr i e).2), h2⟩⟩) (fun c s A B row hs hg hr => hs.elim)
    (fun s A B h e => ⟨⟨e.1.os.trans h.1.os, e.1.tape.trans h.1.tape, e.1.output.trans h.1.output, Nat.le_trans h.1.size e.1.size, fun j hj hne => (e.1.block j hj).trans (h.1.block j hj hne)⟩, by
      obtain ⟨l, h1, h2⟩ := h.2
      exact ⟨l, (e.1.block g0 (by omega)).trans h1, h2⟩⟩) ⟨World.grownBy.refl _ _, _, H5.out.1, by simp, rfl⟩
    (fun x' a' W => ∃ B, w5.heap.size ≤ B ∧ W.heap[B]? = some (spO x'.2) ∧ a' = { tmps := #[.pointer (some ⟨k, 0, none⟩), undef, .slice none 0 0, .bool false, .pointer (some ⟨g0 + 1, 0, none⟩), .int .i64 x'.1, .pointer (some ⟨B, 0, none⟩), undef, undef, undef, .pointer (some ⟨k, 0, none⟩), .bool true, .bool false, .pointer (some ⟨k, 0, none⟩), .pointer (some ⟨k, 0, none⟩), .pointer (some ⟨k, 0, none⟩), .pointer (some ⟨k, 0, none⟩), .int .i64 (G : Int), .slice (some ⟨g0, 0, none⟩) G G, .pointer (some ⟨k, 0, none⟩), .pointer (some ⟨k, 0, none⟩), .agg (lcs (limL T.cs)), .func (.func 102) #[] #[.pointer (some ⟨r, 0, none⟩), .pointer (some ⟨r + 1, 0, none⟩)], .int .i64 x'.1, spV x'.2, undef, undef, undef, undef, undef, undef, undef, undef, undef, undef, undef, undef, undef, undef, undef, undef, undef, undef, undef, undef, undef, undef, undef, undef, undef, undef, undef, undef, undef, undef, undef, undef, undef, undef, undef], defers := [] })
    (fun x' a' _ A B row hs hg hr => by
      obtain ⟨Bx, h1, h2, h3⟩ := hs
      exact ⟨Bx, h1, blk_kept h2 rfl hg (fun r e => (hr r e).2), h3⟩)
    ?assign ?body ?done ?stop
  case assign =>
    rintro l pre x' W K ⟨hB, lo, h1, h2⟩ hx hK
    unfold encN spV
    gi_wp2
    exact hK _ _ ((KeepsOthers.alloc _ _).from _) (KpX.of_below (bal0 _ _)) ⟨GrB.then hB (World.grownBy_alloc W _ none) (fun i e => by cases e), lo, h1.below (bal0 _ _) (Nat.le_refl _), h2⟩ ⟨W.heap.size, hB.size, alloc_at rfl, rfl⟩
  case body =>
    rintro l pre x' a' W ⟨hB, lo, h1, h2, h3⟩ ⟨Bx, hBx, hbx, rfl⟩ hx
    obtain ⟨g, hg, hpl, rfl⟩ := walk_mem hx
    obtain ⟨s, hs⟩ : ∃ s, s = T.now g := ⟨_, rfl⟩
    dsimp only at hbx ⊢
    rw [← hs] at hbx ⊢
    obtain ⟨s0, s1⟩ := blk2 hbx
    have hbl := heap_lt hbx
    have ht7 : W.heap[g0 + 1]? = _ := (hB.block (g0 + 1) hg5 (fun e => by injection e with e; omega)).trans H5.out.2.1
    have t0 := blk1 ht7
    have ht7l := heap_lt ht7
    have hgG : g < lo.length := by have := HG.out; omega
    obtain ⟨c0, c1⟩ := h1.get hgG
    have f0 := h1.free (g * 2)
    have f1 := h1.free (g * 2 + 1)
    have hgl := h1.lt
    have i0 : (0 : Int) ≤ (g : Int) := by omega
    have i1 : (g : Int) < (G : Int) := by omega
    have HB := Lib.hid (And.intro hB (And.intro h1 (And.intro h2 (And.intro h3 (And.intro hs (And.intro hpl hgG))))))
    clear hB h1 h2 h3 hx hbx hs hpl ht7
    gi_wp2
    refine ⟨((KeepsOthers.setCell _ _ _).trans (KeepsOthers.setCell _ _ _)).from _, (KpX.set _ _).tr (KpX.set _ _), GrB.set (GrB.set HB.out.1 _) _, lo.set g s, HB.out.2.1.set g s, by rw [List.length_set]; exact HB.out.2.2.1, ?_⟩
    have hn : T.nows[g]? = some s := by
      rw [HB.out.2.2.2.2.1]
      unfold Ty.nows
      rw [List.getElem?_map, List.getElem?_range hg]
      rfl
    rw [List.length_append, List.length_singleton, HB.out.2.2.2.2.2.1, take_set HB.out.2.2.2.2.2.2, List.take_add_one, hn]
    have h3 := HB.out.2.2.2.1
    rw [HB.out.2.2.2.2.2.1] at h3
    rw [h3]
    rfl
  case done =>
    rintro D xs W hD hS ⟨hB, lo, h1, h2, h3⟩ hd
    have hxl : xs.length = G := by rw [hS]; unfold Ty.walkL; simp; have := HG.out; omega
    have hlo : lo = T.nows := by
      rw [hxl, List.take_of_length_le (by omega), List.take_of_length_le (by rw [nows_len]; have := HG.out; omega)] at h3
      exact h3
    subst hlo
    obtain ⟨W0, hW0⟩ : ∃ X : World, X = W := ⟨_, rfl⟩
    rw [← hW0] at hB h1 hd ⊢
    clear hW0
    have hk0 : W0.heap[k]? = some (wkO T p M) := (hB.block k (by omega) (fun e => by injection e with e; omega)).trans H5.out.2.2.1.b
    obtain ⟨c0, c1, c2, c3, c4, c5, c6, c7⟩ := blk8w hk0
    rw [HG.out] at c0
    have hkl0 := heap_lt hk0
    have hat0 : TyAt W0 T p k M := H5.out.2.2.1.kpx (q := g0) ⟨hB.size, fun j o hj ho _ => (hB.block j (heap_lt ho) (fun e => hj (by injection e))).trans ho⟩ H3.out.2.2.2.2.1
    have ht0 := (hB.block (g0 + 1) hg5 (fun e => by injection e with e; omega)).trans H5.out.2.1
    have hwr : IntKind.i64.wrap ((G : Int) - 2) = (G : Int) - 2 := IntWalk.i64_in _ (by omega)
    have H0 := Lib.hid (And.intro hB (And.intro h1 (And.intro hat0 (And.intro ht0 (And.intro hd hD)))))
    clear hB h1 h2 h3 hS hxl hd hD hk0 hat0 ht0
    go_wp2
    clear c0 c1 c2 c3 c4 c5 c6 c7
    go_loopg [9, 35, 36, 37, 38, 39, 40, 41, 42, 43, 44, 45, 46, 47, 48, 49, 50, 51, 52, 53, 54, 55, 56, 57, 58] (G - 1) (fun gh v9 _ _ _ _ _ _ _ _ _ _ _ _ _ _ _ _ _ _ _ _ _ _ _ _ wr => ∃ (n : Nat) (l : List Sp), n = gh ∧ n ≤ G - 1 ∧ v9 = .int .i64 ((n : Int) - 1) ∧ l.length = G ∧ T.back l n = T.outs ∧ SpB wr g0 91 l ∧ W0.grownBy wr (some g0) ∧ ∀ s ∈ l, s.bd (3000 - 120 * (n : Int)))
    case atStart => exact ⟨G - 1, T.nows, rfl, by omega, by congr 1; omega, by rw [nows_len]; have := HG.out; omega, by unfold Ty.outs; rw [show (T.g - 1).toNat = G - 1 by have := HG.out; omega], H0.out.2.1, World.grownBy.refl _ _, fun s hs => nows_bd HA.out.1 s hs (by have := HG.out; omega)⟩
    case round =>
      obtain ⟨n, l, rfl, hnG, rfl, hll, hbk, hlb, hgw, hld⟩ := hrel
      have HR := Lib.hid (And.intro hnG (And.intro hll (And.intro hbk (And.intro hlb (And.intro hgw hld)))))
      rcases Nat.eq_zero_or_pos n with h0 | h0
      · subst h0
        clear hnG hll hlb hgw hld
        have hbk' : l = T.outs := hbk
        subst hbk'
        have ht := (HR.out.2.2.2.2.1.block (g0 + 1) (heap_lt H0.out.2.2.2.1) (fun e => by injection e with e; omega)).trans H0.out.2.2.2.1
        have t0 := blk1 ht
        have htl := heap_lt ht
        have hneg : ¬ (0 : Int) ≤ ((0 : Nat) : Int) - 1 := by omega
        have hneg' : ¬ (0 : Int) ≤ -1 := by omega
        clear ht hbk
        go_wp2
        have hDg : D ≠ g0 := by have := H0.out.2.2.2.2.2; omega
        have hdz : wr.heap[D]? = some (.deferred (some [])) := (HR.out.2.2.2.2.1.block D (heap_lt H0.out.2.2.2.2.1) (fun e => hDg (by injection e))).trans H0.out.2.2.2.2.1
        have hD5 := H0.out.2.2.2.2.2
        have hw15 := H5.out.2.2.2.1
        have hsz := hw15.size
        have hg0' := H3.out.2.2.2.2.2
        have hws := H1.out.1.size
        refine ⟨by simp, .inl ⟨_, _, rfl, run_takeDeferred hdz, ?_⟩⟩
        refine ⟨.tuple #[.slice (some ⟨g0, 0, none⟩) G G, .bool true], by simp [results, Try.f34, go_sem], ⟨g0, rfl, by omega, (World.putObj_heap_other (Ne.symm hDg)).trans HR.out.2.2.2.1⟩, ?_⟩
        refine GrB.then (GrB.then (GrB.then (GrB.then H1.out.1 (gbB hw15) (fun i e => by cases e)) H0.out.1 (fun i e => by cases e; omega)) HR.out.2.2.2.2.1 (fun i e => by cases e; omega)) (grownBy_putObj' wr D _) (fun i e => by cases e; omega)
      · obtain ⟨m, rfl⟩ : ∃ m, n = m + 1 := ⟨n - 1, by omega⟩
        have hmG : (m : Int) + 1 < T.g := by have := HG.out; omega
        have hm1 : m + 1 < l.length := by omega
        rw [show (((m + 1 : Nat) : Int) - 1) = (m : Int) by omega]
        obtain ⟨a, ha⟩ : ∃ a, a = l.getD m sp0 := ⟨_, rfl⟩
        obtain ⟨b, hb⟩ : ∃ b, b = l.getD (m + 1) sp0 := ⟨_, rfl⟩
        obtain ⟨s, hs⟩ : ∃ s, s = T.str m := ⟨_, rfl⟩
        obtain ⟨u, hu⟩ : ∃ u, u = s.turn := ⟨_, rfl⟩
        obtain ⟨c, hc⟩ : ∃ c, c = b.add u := ⟨_, rfl⟩
        obtain ⟨d, hd'⟩ : ∃ d, d = a.meet c := ⟨_, rfl⟩
        have hbk2 : T.back (l.set m d) m = T.outs := by rw [hd', hc, hu, hs, hb, ha]; exact hbk
        have hsb := str_bd HA.out.1 m
        rw [← hs] at hsb
        have hlb1 : b.bd (3000 - 120 * ((m + 1 : Nat) : Int)) := by rw [hb]; exact getD_inP hld (by unfold sp0 Sp.bd; dsimp only; omega) _
        have hlb2 : a.bd (3000 - 120 * ((m + 1 : Nat) : Int)) := by rw [ha]; exact getD_inP hld (by unfold sp0 Sp.bd; dsimp only; omega) _
        have hlbd : b.bd 100000 := by unfold Sp.bd at *; omega
        have hdb : d.bd (3000 - 120 * (m : Int)) := by rw [hd', hc, hu]; unfold Sp.bd Sp.meet Sp.add Sp.turn at *; dsimp only; omega
        have hld2 : ∀ s ∈ l.set m d, s.bd (3000 - 120 * (m : Int)) := fun s hs => by
          rcases List.mem_or_eq_of_mem_set hs with h1 | h1
          · have := hld s h1; unfold Sp.bd at *; omega
          · rw [h1]; exact hdb
        have HS := Lib.hid (fun (w' : World) (h : Below wr.drew.heap.size wr.drew w') => show Calls Try.prog 76 #[.pointer (some ⟨k, 0, none⟩), .int .i64 ((m : Nat) : Int)] w' fun e w'' => e = .returned (.agg #[.int .i64 s.lo, .int .i64 s.hi]) ∧ Below w'.heap.size w' w'' from by
          rw [hs]
          have h1 : TyAt wr T p k M := H0.out.2.2.1.kpx (q := g0) ⟨HR.out.2.2.2.2.1.size, fun j o hj ho _ => (HR.out.2.2.2.2.1.block j (heap_lt ho) (fun e => hj (by injection e))).trans ho⟩ H3.out.2.2.2.2.1
          have h3 := h1.below ((bdraw (Below.refl wr.heap.size wr)).trans h) (Nat.le_refl _)
          exact tstr_any T p k M m w' h3.b h3.i HA.out.1 hmG)
        have HT := Lib.hid (fun (w' : World) => show Calls Try.prog 73 #[.agg #[.int .i64 s.lo, .int .i64 s.hi]] w' fun e w'' => e = .returned (.agg #[.int .i64 u.lo, .int .i64 u.hi]) ∧ Below w'.heap.size w' w'' from by
          rw [hu]; exact tturn_any s w' (by unfold Sp.bd at *; omega))
        have HAD := Lib.hid (fun (w' : World) => show Calls Try.prog 75 #[.agg #[.int .i64 b.lo, .int .i64 b.hi], .agg #[.int .i64 u.lo, .int .i64 u.hi]] w' fun e w'' => e = .returned (.agg #[.int .i64 c.lo, .int .i64 c.hi]) ∧ Below w'.heap.size w' w'' from by
          rw [hc]; exact tadd_any b u w' (by rw [hu]; unfold Sp.bd Sp.add Sp.turn at *; dsimp only; omega))
        have HMT := Lib.hid (fun (w' : World) => show Calls Try.prog 74 #[.agg #[.int .i64 a.lo, .int .i64 a.hi], .agg #[.int .i64 c.lo, .int .i64 c.hi]] w' fun e w'' => e = .returned (.agg #[.int .i64 d.lo, .int .i64 d.hi]) ∧ Below w'.heap.size w' w'' from by
          rw [hd']; exact tmeet_any a c w')
        have hta := hlb.get (show m < l.length by omega)
        have htb := hlb.get hm1
        rw [← ha] at hta
        rw [← hb] at htb
        have ht := (hgw.block (g0 + 1) (heap_lt H0.out.2.2.2.1) (fun e => by injection e with e; omega)).trans H0.out.2.2.2.1
        have hgl := hlb.lt
        have HD := Lib.hid (fun (w' : World) (h : Below wr.drew.heap.size wr.drew w') => show w'.cell? ⟨g0 + 1, 0, none⟩ = some (.slice (some ⟨g0, 0, none⟩) G G) ∧ (w'.cell? ⟨g0, m * 2, none⟩ = some (.int .i64 a.lo) ∧ w'.cell? ⟨g0, m * 2 + 1, none⟩ = some (.int .i64 a.hi)) ∧ (w'.cell? ⟨g0, (m + 1) * 2, none⟩ = some (.int .i64 b.lo) ∧ w'.cell? ⟨g0, (m + 1) * 2 + 1, none⟩ = some (.int .i64 b.hi)) ∧ g0 + 1 < w'.heap.size ∧ g0 < w'.heap.size from by
          have h3 := (bdraw (Below.refl wr.heap.size wr)).trans h
          have h4 := bheap ht h3 (Nat.le_refl _)
          exact ⟨blk1 h4, ⟨bcell hta.1 h3 (Nat.le_refl _), bcell hta.2 h3 (Nat.le_refl _)⟩, ⟨bcell htb.1 h3 (Nat.le_refl _), bcell htb.2 h3 (Nat.le_refl _)⟩, heap_lt h4, Nat.lt_of_lt_of_le hgl h3.size⟩)
        have HBK := Lib.hid (And.intro hbk2 (And.intro hld2 hm1))
        have i0 : (0 : Int) ≤ (m : Int) := by omega
        have i1 : (m : Int) < (G : Int) := by have := HG.out; omega
        have i2 : (m : Int) + 1 < (G : Int) := by have := HG.out; omega
        clear ha hb hs hu hc hd' hbk2 hsb hlbd hlb1 hlb2 hdb hld2 hld hm1 hta htb ht hgl hbk hll hlb hgw hnG h0 hmG
        go_upto_region 12 with (fail)
        refine wp_region_tag 20 0 0 [] [] 0 (TYw) (PYw wr.drew) [0, 0, 0, 0, 0, 0, 0, 0, 0, 0, 0, 0, 0, 0, 0, 0, 0, 0, 0, 0] (by as_aux_lemma => kernel_rfl) (by as_aux_lemma => kernel_rfl) (by as_aux_lemma => kernel_rfl) (by as_aux_lemma => kernel_rfl) (by omega) (.inl rfl) rfl rfl (fun k i w1 w2 hc _ hT hp => PYw.st k i w1 w2 hT hp) (fun k => Below.refl _ _) ?_
        apply Exists.intro
        refine ⟨fun ys => ?_, fun ops K hK => ?_⟩
        · simp only [List.take_succ_cons, List.take_zero, dstsOf, List.filterMap_cons, List.filterMap_nil, putAll]
          go_simp
          rfl
        simp only [List.take_succ_cons, List.take_zero, List.drop_succ_cons, List.drop_zero] at hK ⊢
        iterate 15
          refine LexT.const TYw.rf ?_
          apply Exists.intro
          refine ⟨fun ys w' hp hpk hq hd => ?_, ?_⟩
          · try simp [DepsOf, depsGo, DF.holds, Region.binds, EqF] at hd
            try simp only [hd]
            obtain ⟨t0, ⟨a0, a1⟩, ⟨b0, b1⟩, l1, l2⟩ := HD.out w' hp
            clear hp hpk hq
            intro Q2 hQ2
            go_wp2_with fail
            rfl
          try simp only [List.nil_append, List.cons_append]
        refine LexT.some (FYv (.agg #[.int .i64 s.lo, .int .i64 s.hi])) (fun i v w1 w2 hc _ hT h => h) (fun ys w' hp hpk hq hd => ?_) ?_
        · try simp [DepsOf, depsGo, DF.holds, Region.binds, EqF] at hd
          try simp only [hd]
          (have hcl := HS.out w' hp; clear hp hpk hq hd)
          intro Q2 hQ2
          go_wp2_with fail
          (with_reducible refine (hcl).mono ?_)
          rintro e w4 ⟨rfl, hb4⟩
          have HX := Lib.hid (show TYw 0 w' w4 ∧ FYv (.agg #[.int .i64 s.lo, .int .i64 s.hi]) (.agg #[.int .i64 s.lo, .int .i64 s.hi]) w4 from ⟨hb4, rfl⟩)
          clear hb4
          go_wp2
          exact ⟨_, rfl, HX.out⟩
        try simp only [List.nil_append, List.cons_append]
        refine LexT.some (FYv (.agg #[.int .i64 u.lo, .int .i64 u.hi])) (fun i v w1 w2 hc _ hT h => h) (fun ys w' hp hpk hq hd => ?_) ?_
        · try simp [DepsOf, depsGo, DF.holds, Region.binds, EqF] at hd
          try simp only [hd]
          (obtain ⟨-, y1⟩ := hd; have y1 : ys 54 = .agg #[.int .i64 s.lo, .int .i64 s.hi] := y1; simp only [y1]; clear hp hpk hq y1)
          intro Q2 hQ2
          go_wp2_with fail
          (with_reducible refine (HT.out _).mono ?_)
          rintro e w4 ⟨rfl, hb4⟩
          have HX := Lib.hid (show TYw 0 w' w4 ∧ FYv (.agg #[.int .i64 u.lo, .int .i64 u.hi]) (.agg #[.int .i64 u.lo, .int .i64 u.hi]) w4 from ⟨hb4, rfl⟩)
          clear hb4
          go_wp2
          exact ⟨_, rfl, HX.out⟩
        try simp only [List.nil_append, List.cons_append]
        refine LexT.some (FYv (.agg #[.int .i64 c.lo, .int .i64 c.hi])) (fun i v w1 w2 hc _ hT h => h) (fun ys w' hp hpk hq hd => ?_) ?_
        · try simp [DepsOf, depsGo, DF.holds, Region.binds, EqF] at hd
          try simp only [hd]
          (obtain ⟨-, y1⟩ := hd; have y1 : ys 55 = .agg #[.int .i64 u.lo, .int .i64 u.hi] := y1; simp only [y1]; clear hp hpk hq y1)
          intro Q2 hQ2
          go_wp2_with fail
          (with_reducible refine (HAD.out _).mono ?_)
          rintro e w4 ⟨rfl, hb4⟩
          have HX := Lib.hid (show TYw 0 w' w4 ∧ FYv (.agg #[.int .i64 c.lo, .int .i64 c.hi]) (.agg #[.int .i64 c.lo, .int .i64 c.hi]) w4 from ⟨hb4, rfl⟩)
          clear hb4
          go_wp2
          exact ⟨_, rfl, HX.out⟩
        try simp only [List.nil_append, List.cons_append]
        refine LexT.some (FYv (.agg #[.int .i64 d.lo, .int .i64 d.hi])) (fun i v w1 w2 hc _ hT h => h) (fun ys w' hp hpk hq hd => ?_) ?_
        · try simp [DepsOf, depsGo, DF.holds, Region.binds, EqF] at hd
          try simp only [hd]
          (obtain ⟨-, -, y1⟩ := hd; have y1 : ys 56 = .agg #[.int .i64 c.lo, .int .i64 c.hi] := y1; simp only [y1]; clear hp hpk hq y1)
          intro Q2 hQ2
          go_wp2_with fail
          (with_reducible refine (HMT.out _).mono ?_)
          rintro e w4 ⟨rfl, hb4⟩
          have HX := Lib.hid (show TYw 0 w' w4 ∧ FYv (.agg #[.int .i64 d.lo, .int .i64 d.hi]) (.agg #[.int .i64 d.lo, .int .i64 d.hi]) w4 from ⟨hb4, rfl⟩)
          clear hb4
          go_wp2
          exact ⟨_, rfl, HX.out⟩
        try simp only [List.nil_append, List.cons_append]
        iterate 1
          refine LexT.const TYw.rf ?_
          apply Exists.intro
          refine ⟨fun ys w' hp hpk hq hd => ?_, ?_⟩
          · try simp [DepsOf, depsGo, DF.holds, Region.binds, EqF] at hd
            try simp only [hd]
            obtain ⟨t0, ⟨a0, a1⟩, ⟨b0, b1⟩, l1, l2⟩ := HD.out w' hp
            clear hp hpk hq
            intro Q2 hQ2
            go_wp2_with fail
            rfl
          try simp only [List.nil_append, List.cons_append]
        refine hK _ fun ys w' hp hF => ?_
        simp [AllF, DF.holds] at hF
        obtain ⟨-, -, -, -, -, -, -, -, -, -, -, -, -, -, -, -, -, -, f57, f58⟩ := hF
        have f57 : ys 57 = .agg #[.int .i64 d.lo, .int .i64 d.hi] := f57
        simp only [f57, f58]
        have hpB : Below wr.heap.size wr w' := (bdraw (Below.refl wr.heap.size wr)).trans hp
        have b4 := HR.out.2.2.2.1.below hpB (Nat.le_refl _)
        have y0 := b4.free (m * 2)
        have y1 := b4.free (m * 2 + 1)
        obtain ⟨x0, x1⟩ := b4.get (show m < l.length by have := HBK.out.2.2; omega)
        have hl4 := b4.lt
        have HX := Lib.hid (And.intro hpB b4)
        clear hK f57 f58 hp hpB b4
        go_wp2
        go_roundg m
        case measure => omega
        case rel => exact ⟨m, l.set m d, rfl, by have := HR.out.1; omega, rfl, by rw [List.length_set]; exact HR.out.2.1, HBK.out.1, HX.out.2.set m d, GrB.set (GrB.set (GrB.then HR.out.2.2.2.2.1 (gbB HX.out.1) (fun i e => by cases e)) _) _, HBK.out.2.1⟩
  case stop => exact fun D c pre W _ _ h => h.elim
end Go.Proofs.Ytgnjknihgjdedaa
namespace Go.Proofs.Ytgnjknihgjdedaa
open Go.RowKit Go.MapKept Go.ChangeMaps
set_option linter.unusedVariables false
set_option linter.unusedSimpArgs false

def FYb (base : Nat) (o : Obj) : VF := fun v w => ∃ r : Nat, v = .slice (some ⟨r, 0, none⟩) 1 1 ∧ base ≤ r ∧ w.heap[r]? = some o
theorem FYb.st {base : Nat} {o : Obj} (j : Nat) (v : Value) (w w' : World) (hT : TYw j w w') (h : FYb base o v w) : FYb base o v w' := by
  obtain ⟨r, h1, h2, h3⟩ := h
  exact ⟨r, h1, h2, bheap h3 hT (Nat.le_refl _)⟩
def FYp (base : Nat) (o : Obj) : VF := fun v w => ∃ r : Nat, v = .pointer (some ⟨r, 0, none⟩) ∧ base ≤ r ∧ w.heap[r]? = some o
theorem FYp.st {base : Nat} {o : Obj} (j : Nat) (v : Value) (w w' : World) (hT : TYw j w w') (h : FYp base o v w) : FYp base o v w' := by
  obtain ⟨r, h1, h2, h3⟩ := h
  exact ⟨r, h1, h2, bheap h3 hT (Nat.le_refl _)⟩
structure LsOk (T : Ty) (L : List Sp) : Prop where
  n : (L.length : Int) = T.g
  b : ∀ s ∈ L, 0 ≤ s.lo ∧ s.lo ≤ s.hi ∧ s.hi ≤ 600
theorem LsOk.get {T : Ty} {L : List Sp} (h : LsOk T L) {k : Nat} (hk : k < L.length) : 0 ≤ (L.getD k sp0).lo ∧ (L.getD k sp0).lo ≤ (L.getD k sp0).hi ∧ (L.getD k sp0).hi ≤ 600 :=
  getD_inP h.b (by unfold sp0; decide) k
theorem twid_any (q g n c : Nat) (L : List Sp) (k : Nat) (w : World) (hq : w.heap[q]? = some (.cells #[.slice (some ⟨g, 0, none⟩) n c] 88 (0, 0))) (hs : SpB w g 91 L) (hn : L.length = n) (hk : k < n) (hn5 : n ≤ 5) (hb : 0 ≤ (L.getD k sp0).lo ∧ (L.getD k sp0).lo ≤ (L.getD k sp0).hi ∧ (L.getD k sp0).hi ≤ 600) :
    Calls Try.prog 77 #[.int .i64 k, .pointer (some ⟨q, 0, none⟩)] w fun e w' => e = .returned (.int .i64 ((L.getD k sp0).wid : Int)) ∧ Below w.heap.size w w' := by
  obtain ⟨s, hs'⟩ : ∃ s, s = L.getD k sp0 := ⟨_, rfl⟩
  obtain ⟨c0, c1⟩ := hs.get (show k < L.length by omega)
  rw [← hs'] at c0 c1 hb ⊢
  have d0 := blk1 hq
  have hql := heap_lt hq
  have hgl := hs.lt
  have i0 : (k : Int) < (n : Int) := by omega
  have hw : (s.wid : Int) = s.hi - s.lo + 1 := by unfold Sp.wid; omega
  rw [hw]
  have h1 := hb.1
  have h2 := hb.2.2
  clear hs hs' hq hw
  go_enter Try.func77, Try.ntmps77
  go_upto_region 1 with (fail)
  go_region
  go_wp2
  go_ret
  exact ⟨rfl, bdraw (Below.refl _ _)⟩
end Go.Proofs.Ytgnjknihgjdedaa
