/- TopCounted 6: Hand, MarkOf, SightOf, Regs, HdK. -/
import Derived.Test.YtgnjknihgjdedaaTc01
import Derived.OpenShut
import Derived.Maps.AppendAt
import Derived.Test.YtgnjknihgjdedaaTc05
import Derived.Test.YtgnjknihgjdedaaTc03
import Derived.Test.YtgnjknihgjdedaaTc02
import Derived.Test.YtgnjknihgjdedaaTc04
import Derived.Deep.RegionHeld3
import Derived.Deep.WholeRow
namespace Go.Proofs.Ytgnjknihgjdedaa
open Go.RowKit
set_option linter.unusedVariables false
set_option linter.unusedSimpArgs false

def Hd (w : World) (H N : Nat) : Prop := ∃ (A : Option Addr) (n c : Nat) (next state : Int), w.heap[H]? = some (.cells #[.slice A n c, .int .i64 next, .int .u64 state] 81 (0, 0)) ∧ n ≤ 9223372036854775807 ∧ 0 ≤ next ∧ next ≤ N ∧
  ∀ k, k < n → ∃ b off x, A = some ⟨b, off, none⟩ ∧ b < H ∧ w.cell? ⟨b, off + k, none⟩ = some (.int .i64 x)
theorem Hd.lt {w : World} {H N : Nat} (h : Hd w H N) : H < w.heap.size := by
  obtain ⟨A, n, c, next, state, h1, _⟩ := h
  exact heap_lt h1
theorem Hd.kept {w w' : World} {H N : Nat} (h : Hd w H N) (k : ∀ j, j ≤ H → w'.heap[j]? = w.heap[j]?) : Hd w' H N := by
  obtain ⟨A, n, c, next, state, h1, h2, h3, h4, h5⟩ := h
  refine ⟨A, n, c, next, state, (k H (Nat.le_refl _)).trans h1, h2, h3, h4, fun i hi => ?_⟩
  obtain ⟨b, off, x, hA, hb, hc⟩ := h5 i hi
  refine ⟨b, off, x, hA, hb, ?_⟩
  have e := k b (by omega)
  unfold World.cell? at hc ⊢
  rw [e]; exact hc
theorem Hd.below {w w' : World} {H N B : Nat} (h : Hd w H N) (hb : Below B w w') (hB : H < B) : Hd w' H N := h.kept fun j hj => hb.block j (by omega)
theorem Hd.mono {w : World} {H N M : Nat} (h : Hd w H N) (hM : N ≤ M) : Hd w H M := by
  obtain ⟨A, n, c, next, state, h1, h2, h3, h4, h5⟩ := h
  exact ⟨A, n, c, next, state, h1, h2, h3, by omega, h5⟩
structure Dealt (w w' : World) (H N : Nat) : Prop where
  hd : Hd w' H N
  gr : w.grownBy w' (some H)

theorem bits_u64 (op : BinOp) (x y : Int) : 0 ≤ bits op .u64 x y ∧ bits op .u64 x y ≤ 18446744073709551615 := bounds_u64 (wf_bits op .u64 x y)
theorem hd_next {w w' : World} {H N n c : Nat} {A : Option Addr} {q st x : Int} (h1 : w.heap[H]? = some (.cells #[.slice A n c, .int .i64 q, .int .u64 st] 81 (0, 0))) (h2 : n ≤ 9223372036854775807) (h3 : 0 ≤ q) (h4 : q ≤ N)
    (h5 : ∀ k, k < n → ∃ b off x, A = some ⟨b, off, none⟩ ∧ b < H ∧ w.cell? ⟨b, off + k, none⟩ = some (.int .i64 x)) (hb : w.heap.size = w'.heap.size) (ho : w'.os = w.os ∧ w'.tape = w.tape ∧ w'.output = w.output) (hh : ∀ j : Nat, w'.heap[j]? = w.heap[j]?) :
    Dealt w ((w'.setCell ⟨H, 1, none⟩ (.int .i64 (q + 1))).setCell ⟨H, 2, none⟩ (.int .u64 x)) H (N + 1) := by
  have hfar : ∀ j : Nat, j ≠ H → ((w'.setCell ⟨H, 1, none⟩ (.int .i64 (q + 1))).setCell ⟨H, 2, none⟩ (.int .u64 x)).heap[j]? = w.heap[j]? := fun j hj =>
    (Below.heap_setCell _ ⟨H, 2, none⟩ _ j hj).trans ((Below.heap_setCell _ ⟨H, 1, none⟩ _ j hj).trans (hh j))
  refine ⟨⟨A, n, c, q + 1, x, ?_, h2, by omega, by omega, fun k hk => ?_⟩, ⟨ho.1, ho.2.1, ho.2.2, by simp [hb], fun j _ hj => hfar j (fun e => hj (by rw [e]))⟩⟩
  · have h0 := (hh H).trans h1
    simp [World.setCell, Array.getElem?_modify, h0]
  · obtain ⟨b, off, y, hA, hbH, hc⟩ := h5 k hk
    refine ⟨b, off, y, hA, hbH, ?_⟩
    unfold World.cell? at hc ⊢
    rw [hfar b (by omega)]
    exact hc

set_option maxRecDepth 100000 in
set_option maxHeartbeats 2000000 in
theorem pull_any (H N : Nat) (w : World) (h : Hd w H N) (hN : N ≤ 4611686018427387904) :
    Calls Try.prog 38 #[.pointer (some ⟨H, 0, none⟩)] w fun e w' => ∃ u : Int, e = .returned (.int .u64 u) ∧ 0 ≤ u ∧ u < 18446744073709551616 ∧ Dealt w w' H (N + 1) := by
  obtain ⟨A, n, c, next, state, h1, h2, h3, h4, h5⟩ := h
  obtain ⟨q, rfl⟩ := Int.eq_ofNat_of_zero_le h3
  obtain ⟨c0, c1, c2⟩ := blk3 h1
  have f1 := frz h1 1
  have f2 := frz h1 2
  have hq : (q : Int) ≤ 4611686018427387904 := by omega
  by_cases hlt : q < n
  · obtain ⟨b, off, x, rfl, hb, hx⟩ := h5 q hlt
    have hlt' : (q : Int) < (n : Int) := by omega
    go_enter Try.func38, Try.ntmps38
    go_upto_region 2 with (fail)
    go_quiet (fail)
    go_upto_region 3 with (fail)
    go_quiet (fail)
    go_upto_region 5 with (fail)
    generalize IntKind.u64.wrap x = u0
    go_upto_region 6 with (fail)
    generalize bits BinOp.xor IntKind.u64 state (IntKind.u64.wrap (u0 * 11400714819323198485)) = s1
    go_upto_region 7 with (fail)
    generalize bits BinOp.xor IntKind.u64 s1 (IntKind.u64.wrap (s1 * 8192)) = s2
    go_upto_region 8 with (fail)
    generalize bits BinOp.xor IntKind.u64 s2 (s2 / 128) = s3
    go_upto_region 9 with (fail)
    generalize bits BinOp.xor IntKind.u64 s3 (IntKind.u64.wrap (s3 * 131072)) = s4
    go_upto_region 10 with (fail)
    generalize IntKind.u64.wrap (s4 + 7146057691288625177) = s5
    go_upto_region 11 with (fail)
    generalize IntKind.u64.wrap (bits BinOp.xor IntKind.u64 s4 (s4 / 2147483648) * 13787848793156543929) = s6
    go_wp2
    go_ret
    have hb6 := bits_u64 .xor s6 (s6 / 536870912)
    exact ⟨_, rfl, by omega, by omega, hd_next h1 h2 h3 h4 h5 rfl ⟨rfl, rfl, rfl⟩ (fun _ => rfl)⟩
  · have hlt' : ¬ (q : Int) < (n : Int) := by omega
    have hd' : decide (q < n) = false := by simpa using hlt
    have hd2 : decide ((q : Int) < (n : Int)) = false := by simpa using hlt'
    go_enter Try.func38, Try.ntmps38
    go_upto_region 2 with (fail)
    go_quiet (fail)
    go_upto_region 5 with (fail)
    go_upto_region 6 with (fail)
    generalize bits BinOp.xor IntKind.u64 state (IntKind.u64.wrap ((q : Int) * 11400714819323198485)) = s1
    go_upto_region 7 with (fail)
    generalize bits BinOp.xor IntKind.u64 s1 (IntKind.u64.wrap (s1 * 8192)) = s2
    go_upto_region 8 with (fail)
    generalize bits BinOp.xor IntKind.u64 s2 (s2 / 128) = s3
    go_upto_region 9 with (fail)
    generalize bits BinOp.xor IntKind.u64 s3 (IntKind.u64.wrap (s3 * 131072)) = s4
    go_upto_region 10 with (fail)
    generalize IntKind.u64.wrap (s4 + 7146057691288625177) = s5
    go_upto_region 11 with (fail)
    generalize IntKind.u64.wrap (bits BinOp.xor IntKind.u64 s4 (s4 / 2147483648) * 13787848793156543929) = s6
    go_wp2
    go_ret
    have hb6 := bits_u64 .xor s6 (s6 / 536870912)
    exact ⟨_, rfl, by omega, by omega, hd_next h1 h2 h3 h4 h5 rfl ⟨rfl, rfl, rfl⟩ (fun _ => rfl)⟩

theorem Dealt.refl {w : World} {H N : Nat} (h : Hd w H N) : Dealt w w H N := ⟨h, World.grownBy.refl w _⟩
theorem Dealt.mono {w w' : World} {H N M : Nat} (h : Dealt w w' H N) (hM : N ≤ M) : Dealt w w' H M := ⟨h.hd.mono hM, h.gr⟩
theorem Dealt.trans {w w' w'' : World} {H N M : Nat} (h : Dealt w w' H N) (k : Dealt w' w'' H M) : Dealt w w'' H M := ⟨k.hd, h.gr.trans k.gr⟩
theorem Dealt.below {w w' : World} {H N : Nat} (h : Dealt w w' H N) {B : Nat} (hB : B ≤ H) (hw : B ≤ w.heap.size) : Below B w w' := (Below.refl _ _).grown h.gr hw (fun k hk => by cases hk; exact hB)
theorem Dealt.blk {w w' : World} {H N : Nat} (h : Dealt w w' H N) {j : Nat} {o : Obj} (hj : w.heap[j]? = some o) (hne : j ≠ H) : w'.heap[j]? = some o := (h.gr.block j (heap_lt hj) (by intro e; cases e; exact hne rfl)).trans hj
theorem Dealt.size {w w' : World} {H N : Nat} (h : Dealt w w' H N) : w.heap.size ≤ w'.heap.size := h.gr.size

theorem upto_any (H N : Nat) (m : Int) (w : World) (h : Hd w H N) (hN : N ≤ 4611686018427387904) (hm : m ≤ 4611686018427387904) :
    Calls Try.prog 12 #[.pointer (some ⟨H, 0, none⟩), .int .i64 m] w fun e w' => ∃ n : Nat, e = .returned (.int .i64 n) ∧ ((n : Int) ≤ m ∨ n = 0) ∧ Dealt w w' H (N + 1) := by
  by_cases h0 : m ≤ 0
  · go_enter Try.func12, Try.ntmps12
    go_wp2_with fail
    go_ret
    exact ⟨0, rfl, .inr rfl, (Dealt.refl h).mono (by omega)⟩
  · go_enter Try.func12, Try.ntmps12
    go_wp2_with fail
    refine (pull_any H N _ h hN).mono ?_
    rintro e w1 ⟨u, rfl, hu0, hu1, hd⟩
    have hd1 := Lib.hid hd
    clear hd h
    have hr0 : 0 ≤ u % (m + 1) := Int.emod_nonneg _ (by omega)
    have hr1 : u % (m + 1) < m + 1 := Int.emod_lt_of_pos _ (by omega)
    go_wp2
    go_ret
    refine ⟨(u % (m + 1)).toNat, ?_, .inl (by omega), hd1.out⟩
    exact ret_int (by omega)
def OffH (A : Option Addr) (H : Nat) : Prop := ∀ b off, A = some ⟨b, off, none⟩ → b ≠ H
theorem Sl.dealt {α : Type} {enc : α → List Value} {sz : Nat} {w w' : World} {A : Option Addr} {n : Nat} {l : List α} {H N : Nat} (h : Sl enc sz w A n l) (hd : Dealt w w' H N) (hne : OffH A H) : Sl enc sz w' A n l :=
  ⟨h.1, fun hn => by
    obtain ⟨b, off, hA, hc⟩ := h.2 hn
    refine ⟨b, off, hA, fun i x hx j u hu => ?_⟩
    exact hd.gr.cell (hc i x hx j u hu) (fun e => hne b off hA (by simpa using e))⟩

theorem odds_any (H N : Nat) (a b : Int) (w : World) (h : Hd w H N) (hN : N ≤ 4611686018427387904) (hb : -4611686018427387904 ≤ b) (hb' : b ≤ 4611686018427387904) :
    Calls Try.prog 37 #[.pointer (some ⟨H, 0, none⟩), .int .i64 a, .int .i64 b] w fun e w' => ∃ o : Bool, e = .returned (.bool o) ∧ Dealt w w' H (N + 1) := by
  go_enter Try.func37, Try.ntmps37
  go_wp2_with fail
  refine (upto_any H N (b - 1) _ h hN (by omega)).mono ?_
  rintro e w1 ⟨n, rfl, _, hd⟩
  have hd1 := Lib.hid hd
  clear hd h
  go_wp2
  go_ret
  exact ⟨_, rfl, hd1.out⟩
theorem of_any (H N : Nat) (f : Int) (B : Option Addr) (m d : Nat) (L : List Int) (w : World) (h : Hd w H N) (hN : N ≤ 4611686018427387904) (hL : Ints w B m L) (hB : OffH B H) (hm : m ≤ 4611686018427387904) :
    Calls Try.prog 23 #[.pointer (some ⟨H, 0, none⟩), .int .i64 f, .slice B m d] w fun e w' => ∃ x : Int, e = .returned (.int .i64 x) ∧ (x = f ∨ x ∈ L) ∧ Dealt w w' H (N + 1) := by
  have HL := Lib.hid hL
  go_enter Try.func23, Try.ntmps23
  go_wp2_with fail
  refine (upto_any H N m _ h hN (by omega)).mono ?_
  rintro e w1 ⟨n, rfl, hn, hd⟩
  have hd1 := Lib.hid hd
  have hL1 := hL.dealt hd hB
  clear hd h hL
  by_cases h0 : n = 0
  · subst h0
    go_wp2
    go_ret
    exact ⟨_, rfl, .inl rfl, hd1.out⟩
  · have hnm : n ≤ m := by omega
    obtain ⟨k, rfl⟩ : ∃ k, n = k + 1 := ⟨n - 1, by omega⟩
    obtain ⟨b, off, x, rfl, hb, hx, hc⟩ := Ints.get hL1 (show k < m by omega)
    have HX := Lib.hid hx
    clear hx
    have e1 : ((k + 1 : Nat) : Int) = (k : Int) + 1 := by omega
    rw [e1]
    clear e1 hn h0
    have hk1 : (k : Int) < (m : Int) := by omega
    have hk2 : (k : Int) ≤ 4611686018427387904 := by omega
    go_wp2
    go_ret
    exact ⟨_, rfl, .inr (List.mem_of_getElem? HX.out), hd1.out⟩

theorem newHand_any (A : Option Addr) (n c : Nat) (l : List Int) (w : World) (hl : Ints w A n l) (hn : n ≤ 9223372036854775807) :
    Calls Try.prog 5 #[.slice A n c] w fun e w' => e = .returned (.pointer (some ⟨w.heap.size, 0, none⟩)) ∧ Hd w' w.heap.size 0 ∧ Below w.heap.size w w' ∧ w'.heap.size = w.heap.size + 1 := by
  have HL := Lib.hid hl
  clear hl
  go_enter Try.func5, Try.ntmps5
  go_wp2
  go_ret
  refine ⟨rfl, ⟨A, n, c, 0, 88172645463325252, alloc_at rfl, hn, by omega, by omega, fun k hk => ?_⟩, bal0 _ _, by simp⟩
  obtain ⟨b, off, x, hA, hb, hx, hc⟩ := Ints.get HL.out hk
  exact ⟨b, off, x, hA, hb, bcell hc (bal0 w _) (Nat.le_refl _)⟩
theorem Dealt.alloc {w w' : World} {H N : Nat} (h : Dealt w w' H N) (o : Obj) : Dealt w (w'.alloc o) H N :=
  ⟨h.hd.below (bal0 w' o) h.hd.lt, h.gr.trans (World.grownBy_alloc _ _ _)⟩
theorem Dealt.set {w w' : World} {H N : Nat} (h : Dealt w w' H N) {a : Addr} (hH : H < a.block) (ha : w.heap.size ≤ a.block) (v : Value) : Dealt w (w'.setCell a v) H N := by
  refine ⟨h.hd.kept fun j hj => Below.heap_setCell _ _ _ _ (by omega), ⟨h.gr.os, h.gr.tape, h.gr.output, by simpa using h.gr.size, fun j hj hne => ?_⟩⟩
  exact (Below.heap_setCell _ _ _ _ (by omega)).trans (h.gr.block j hj hne)
theorem Dealt.drewN {w w' : World} {H N : Nat} (h : Dealt w w' H N) (k : Nat) : Dealt w (w'.drewN k) H N := ⟨h.hd, ⟨h.gr.os, h.gr.tape, h.gr.output, h.gr.size, h.gr.block⟩⟩
theorem Dealt.less {w w' : World} {H N B : Nat} (h : Dealt w w' H N) {w'' : World} (hb : Below B w' w'') (hB : w'.heap.size ≤ B) : Dealt w w'' H N :=
  ⟨h.hd.below hb (Nat.lt_of_lt_of_le h.hd.lt hB), ⟨hb.os.trans h.gr.os, hb.tape.trans h.gr.tape, hb.output.trans h.gr.output, Nat.le_trans h.gr.size hb.size, fun j hj hne => (hb.block j (Nat.lt_of_lt_of_le hj (Nat.le_trans h.gr.size hB))).trans (h.gr.block j hj hne)⟩⟩
theorem Hd.alloc {w : World} {H N : Nat} (h : Hd w H N) (o : Obj) : Hd (w.alloc o) H N := h.below (bal0 w o) h.lt
theorem offH_new {w : World} {H N : Nat} (h : Hd w H N) {k : Nat} (hk : w.heap.size ≤ k) (off : Nat) : OffH (some ⟨k, off, none⟩) H := fun b o e => by
  have := h.lt
  cases e
  omega
end Go.Proofs.Ytgnjknihgjdedaa
namespace Go.Proofs.Ytgnjknihgjdedaa
open Go.RowKit
set_option linter.unusedVariables false
set_option linter.unusedSimpArgs false

def mk8 : List Int := [1, 2, 16, 4, 32, 8, 64, 128]
theorem mk8_le : ∀ i, i < 9 → (mk8.take i).sum ≤ 255 := by decide
theorem sum_take {l : List Int} {i : Nat} {x : Int} (h : l[i]? = some x) : (l.take (i + 1)).sum = (l.take i).sum + x := by
  rw [List.take_add_one, h]; simp
theorem mkOk_mk {n b p : Int} (h1 : 0 ≤ n ∧ n ≤ 255) (h2 : 0 ≤ b ∧ b ≤ 9) (h3 : 0 ≤ p ∧ p ≤ 6) : mkOk ⟨n, b, p⟩ = true := mkOk_iff.2 ⟨h1, h2, h3⟩
theorem mk8_step : ∀ i, i < 8 → (mk8.take i).sum ≤ (mk8.take (i + 1)).sum := by decide
def MkRes (w : World) (H N : Nat) (e : Ending) (w' : World) : Prop := ∃ m : Mk, e = .returned (vMk m) ∧ mkOk m = true ∧ Dealt w w' H N

set_option maxRecDepth 100000 in
set_option maxHeartbeats 2000000 in
theorem markOf_any (H N : Nat) (w : World) (h : Hd w H N) (hN : N ≤ 4611686018427387000) :
    Calls Try.prog 11 #[.pointer (some ⟨H, 0, none⟩)] w (MkRes w H (N + 16)) := by
  have hH := h.lt
  go_enter Try.func11, Try.ntmps11
  go_wp2_with fail
  refine (upto_any H N 9 _ (h.alloc _) (by omega) (by omega)).mono ?_
  rintro e w1 ⟨n1, rfl, hn1, hd1⟩
  have hD1 := (((Dealt.refl h).mono (by omega : N ≤ N + 1)).alloc (Obj.cells #[Value.int .i64 0, .int .i64 0, .int .i64 0] 44)).trans hd1
  have br1 := hd1.blk (alloc_at rfl : (w.alloc (Obj.cells #[Value.int .i64 0, .int .i64 0, .int .i64 0] 44)).heap[w.heap.size]? = some _) (by omega)
  clear hd1 h
  go_wp2_with fail
  refine (of_any H (N + 1) 0 (some ⟨w1.heap.size, 0, none⟩) 3 3 [0, 1, n1] _ (hD1.hd.alloc _) (by omega) (ints3 _ _ _ _ _) (offH_new hD1.hd (Nat.le_refl _) 0) (by omega)).mono ?_
  rintro e w2 ⟨b, rfl, hb, hd2⟩
  have hD2 := (hD1.mono (by omega : N + 1 ≤ N + 2)).alloc (Obj.cells #[Value.int .i64 0, .int .i64 1, .int .i64 n1] 3) |>.trans hd2
  have br2 := hd2.blk (hblk_alloc br1 _) (by omega)
  have hb' : 0 ≤ b ∧ b ≤ 9 := by
    simp only [List.mem_cons, List.not_mem_nil, or_false] at hb
    omega
  clear hd2 hD1 hb hn1 br1
  go_wp2_with fail
  refine (upto_any H (N + 2) 6 _ hD2.hd (by omega) (by omega)).mono ?_
  rintro e w3 ⟨n2, rfl, hn2, hd3⟩
  have hD3 := hD2.trans hd3
  have br3 := hd3.blk br2 (by omega)
  clear hd3 hD2 br2
  go_wp2_with fail
  refine (of_any H (N + 2 + 1) 0 (some ⟨w3.heap.size, 0, none⟩) 4 4 [0, 1, 2, n2] _ (hD3.hd.alloc _) (by omega) (Sl.lit w3 _ _ [0, 1, 2, (n2 : Int)] rfl lenInt (by simp [maxLen])) (offH_new hD3.hd (Nat.le_refl _) 0) (by omega)).mono ?_
  rintro e w4 ⟨p, rfl, hp, hd4⟩
  have hD4 := (hD3.mono (by omega : N + 2 + 1 ≤ N + 4)).alloc (Obj.cells #[Value.int .i64 0, .int .i64 1, .int .i64 2, .int .i64 n2] 3) |>.trans hd4
  have br4 := hd4.blk (hblk_alloc br3 _) (by omega)
  have hp' : 0 ≤ p ∧ p ≤ 6 := by
    simp only [List.mem_cons, List.not_mem_nil, or_false] at hp
    omega
  clear hd4 hD3 hp hn2 br3
  go_wp2_with fail
  have hD5 := hD4.alloc (Obj.cells #[Value.int .i64 0, .int .i64 b, .int .i64 p] 44)
  have br5 := hblk_alloc br4 (Obj.cells #[Value.int .i64 0, .int .i64 b, .int .i64 p] 44)
  have bm5 : (w4.alloc (Obj.cells #[Value.int .i64 0, .int .i64 b, .int .i64 p] 44)).heap[w4.heap.size]? = some (Obj.cells #[Value.int .i64 0, .int .i64 b, .int .i64 p] 44 (0, 0)) := alloc_at rfl
  have hz4 : w.heap.size < w4.heap.size := heap_lt br4
  refine (odds_any H (N + 2 + 1 + 1) 1 4 _ hD5.hd (by omega) (by omega) (by omega)).mono ?_
  rintro e w6 ⟨o, rfl, hd6⟩
  have hD6 := hD5.trans hd6
  have br6 := hd6.blk br5 (by omega)
  have bm6 := hd6.blk bm5 (by omega)
  clear hd6 hD5 hD4 br5 bm5 br4
  cases o
  · go_wp2_with fail
    obtain ⟨W, hW⟩ : ∃ W, W = w6.alloc (Obj.cells #[Value.int .i64 1, .int .i64 2, .int .i64 16, .int .i64 4, .int .i64 32, .int .i64 8, .int .i64 64, .int .i64 128] 3) := ⟨_, rfl⟩
    rw [← hW]
    have hDW : Dealt w W H (N + 2 + 1 + 1 + 1) := by rw [hW]; exact hD6.alloc _
    have brW : W.heap[w.heap.size]? = some (Obj.cells #[Value.int .i64 0, .int .i64 0, .int .i64 0] 44 (0, 0)) := by rw [hW]; exact hblk_alloc br6 _
    have bmW : W.heap[w4.heap.size]? = some (Obj.cells #[Value.int .i64 0, .int .i64 b, .int .i64 p] 44 (0, 0)) := by rw [hW]; exact hblk_alloc bm6 _
    have hLW : Ints W (some ⟨w6.heap.size, 0, none⟩) 8 mk8 := by rw [hW]; exact Sl.lit w6 _ _ mk8 rfl lenInt (by decide)
    have hbW : W.heap[w6.heap.size]? = some (Obj.cells #[Value.int .i64 1, .int .i64 2, .int .i64 16, .int .i64 4, .int .i64 32, .int .i64 8, .int .i64 64, .int .i64 128] 3 (0, 0)) := by rw [hW]; exact alloc_at rfl
    have hz6 : w4.heap.size < w6.heap.size := heap_lt bm6
    clear hW br6 bm6 hD6
    go_loopg [5] 8 (fun g i wr => ∃ k : Nat, k + g = 8 ∧ i = .int .i64 k ∧ ∃ x : Int, 0 ≤ x ∧ x ≤ (mk8.take k).sum ∧ wr.heap[w4.heap.size]? = some (Obj.cells #[Value.int .i64 x, .int .i64 b, .int .i64 p] 44 (0, 0)) ∧
      wr.heap[w.heap.size]? = some (Obj.cells #[Value.int .i64 0, .int .i64 0, .int .i64 0] 44 (0, 0)) ∧ Ints wr (some ⟨w6.heap.size, 0, none⟩) 8 mk8 ∧ Dealt w wr H (N + 5 + k))
    case atStart => exact ⟨0, by omega, rfl, 0, by omega, by decide, bmW, brW, hLW, hDW⟩
    case round =>
      obtain ⟨k, hk, rfl, x, hx0, hx1, bmr, brr, hLr, hDr⟩ := hrel
      have HK := Lib.hid hk
      have hk8 : k ≤ 8 := by omega
      clear hk
      by_cases hlt : k < 8
      · have hk3 : (k : Int) + 3 ≤ 11 := by omega
        go_wp2_with fail
        refine (odds_any H (N + 5 + k) 1 (k + 3) _ hDr.hd (by omega) (by omega) (by omega)).mono ?_
        rintro e w8 ⟨o, rfl, hd8⟩
        have bm8 := hd8.blk bmr (by omega)
        have br8 := hd8.blk brr (by omega)
        have hL8 := hLr.dealt hd8 (fun b' off' e => by cases e; omega)
        have hD8 := hDr.trans hd8
        clear hd8 bmr brr hLr hDr
        have hm8 := mk8_le k (by omega)
        cases o
        · go_wp2
          go_roundg (gk - 1)
          case measure => have := HK.out; omega
          case rel =>
            have h9 := mk8_step k hlt
            exact ⟨k + 1, by have := HK.out; omega, by go_num, x, hx0, by omega, bm8, br8, hL8, hD8.mono (by omega)⟩
        · obtain ⟨b8, off8, y, hA8, hb8, hy, q0⟩ := Ints.get hL8 hlt
          cases hA8
          rw [Nat.zero_add] at q0
          have hs := sum_take hy
          have hm9 := mk8_le (k + 1) (by omega)
          have hy0 : 0 ≤ y := by
            have : ∀ z ∈ mk8, 0 ≤ z := by decide
            exact this y (List.mem_of_getElem? hy)
          have HS := Lib.hid hs
          have hxy : x + y ≤ 255 := by omega
          clear hs hy
          obtain ⟨m0, m1, m2⟩ := blk3 bm8
          have fm0 := frz bm8 0
          have i0 : (0 : Int) ≤ (k : Int) := by omega
          have i1 : (k : Int) < 8 := by omega
          go_upto_region 10 with (fail)
          refine wp_region_quiet_tail (C := fun w' => ∃ n, w' = w8.drewN n) 8 (by kernel_rfl) (by kernel_rfl) ⟨1, rfl⟩ ?_
          simp only [List.take_succ_cons, List.take_zero, List.drop_succ_cons, List.drop_zero]
          repeat (quiet_step (fail))
          refine wpQuiet_nil ?_
          intro _ hw'
          obtain ⟨nq, hw''⟩ := hw'
          subst hw''
          go_wp2
          go_roundg (gk - 1)
          case measure => have := HK.out; omega
          case rel =>
            refine ⟨k + 1, by have := HK.out; omega, by go_num, x + y, by omega, by rw [HS.out]; omega, set3_0 bm8, ?_, ?_, ?_⟩
            · exact (Below.heap_setCell _ ⟨w4.heap.size, 0, none⟩ _ _ (by dsimp; omega)).trans br8
            · refine ⟨hL8.1, fun hn => ?_⟩
              obtain ⟨bb, oo, hA, hc⟩ := hL8.2 hn
              refine ⟨bb, oo, hA, fun i x hx j u hu => ?_⟩
              have h0 := hc i x hx j u hu
              cases hA
              unfold World.cell? at h0 ⊢
              rw [Below.heap_setCell _ ⟨w4.heap.size, 0, none⟩ _ _ (by dsimp; omega)]
              exact h0
            · exact ((hD8.mono (by omega : N + 5 + k + 1 ≤ N + 5 + (k + 1))).drewN nq).set (by dsimp; omega) (by dsimp; omega) _
      · obtain rfl : k = 8 := by omega
        have hm8 := mk8_le 8 (by omega)
        have fr0 := frz brr 0
        have fr1 := frz brr 1
        have fr2 := frz brr 2
        obtain ⟨m0, m1, m2⟩ := blk3 bmr
        obtain ⟨r0, r1, r2⟩ := blk3 brr
        have zr := heap_lt bmr
        have HD := Lib.hid hDr
        clear hDr
        go_wp2
        refine bodyPost_ret (v := vMk ⟨x, b, p⟩) (by simp [results, Try.f11, go_sem, vMk, m0, m1, m2, r0, r1, r2]) rfl ⟨⟨x, b, p⟩, rfl, mkOk_mk (by omega) hb' hp', ?_⟩
        have hD := HD.out.mono (by omega : N + 5 + 8 ≤ N + 16)
        exact ((hD.set (by dsimp; omega) (by dsimp; omega) _).set (by dsimp; omega) (by dsimp; omega) _).set (by dsimp; omega) (by dsimp; omega) _
  · go_wp2_with fail
    refine (upto_any H (N + 2 + 1 + 1 + 1) 255 _ hD6.hd (by omega) (by omega)).mono ?_
    rintro e w7 ⟨n3, rfl, hn3, hd7⟩
    have hD7 := hD6.trans hd7
    have br7 := hd7.blk br6 (by omega)
    have bm7 := hd7.blk bm6 (by omega)
    clear hd7 hD6 br6 bm6
    have fm0 := frz bm7 0
    have fr0 := frz br7 0
    have fr1 := frz br7 1
    have fr2 := frz br7 2
    obtain ⟨m0, m1, m2⟩ := blk3 bm7
    obtain ⟨r0, r1, r2⟩ := blk3 br7
    have z7 := heap_lt bm7
    have HD := Lib.hid hD7
    clear hD7
    go_wp2
    refine bodyPost_ret (v := vMk ⟨n3, b, p⟩) (by simp [results, Try.f11, go_sem, vMk, m0, m1, m2, r0, r1, r2]) rfl ⟨⟨n3, b, p⟩, rfl, mkOk_mk (by omega) hb' hp', ?_⟩
    have hD := HD.out.mono (by omega : N + 2 + 1 + 1 + 1 + 1 ≤ N + 16)
    exact (((hD.set (by dsimp; omega) (by dsimp; omega) _).set (by dsimp; omega) (by dsimp; omega) _).set (by dsimp; omega) (by dsimp; omega) _).set (by dsimp; omega) (by dsimp; omega) _
end Go.Proofs.Ytgnjknihgjdedaa
namespace Go.Proofs.Ytgnjknihgjdedaa
open Go.RowKit
set_option linter.unusedVariables false
set_option linter.unusedSimpArgs false

theorem Dealt.cell {w w' : World} {H N : Nat} (h : Dealt w w' H N) {b o : Nat} {v : Value} (hc : w.cell? ⟨b, o, none⟩ = some v) (hne : b ≠ H) : w'.cell? ⟨b, o, none⟩ = some v := h.gr.cell hc (fun e => hne (by simpa using e))
end Go.Proofs.Ytgnjknihgjdedaa
namespace Go.Proofs.Ytgnjknihgjdedaa
open Go.RowKit
set_option linter.unusedVariables false
set_option linter.unusedSimpArgs false

theorem hb_drew {w : World} {b : Nat} {o : Obj} (h : w.heap[b]? = some o) : w.drew.heap[b]? = some o := h
theorem flat_get {α : Type} {enc : α → List Value} {sz : Nat} (henc : ∀ x, (enc x).length = sz) : ∀ (l : List α) (i j : Nat) (x : α) (u : Value), l[i]? = some x → (enc x)[j]? = some u → (l.flatMap enc)[i * sz + j]? = some u
  | [], i, j, x, u, hx, hu => by simp at hx
  | y :: r, i, j, x, u, hx, hu => by
    have hj : j < sz := by have := henc x; have := (List.getElem?_eq_some_iff.1 hu).1; omega
    rw [List.flatMap_cons]
    cases i with
    | zero =>
      simp at hx
      subst hx
      rw [List.getElem?_append_left (by rw [henc]; omega)]
      simpa using hu
    | succ i =>
      rw [List.getElem?_append_right (by rw [henc, Nat.succ_mul]; omega), henc]
      have := flat_get henc r i j x u (by simpa using hx) hu
      rw [show (i + 1) * sz + j - sz = i * sz + j by rw [Nat.succ_mul]; omega]
      exact this
theorem Sl.of_blk {α : Type} {enc : α → List Value} {sz : Nat} {w : World} {b : Nat} {cs : Array Value} {t : TypeId} {l : List α} (h : w.heap[b]? = some (.cells cs t (0, 0))) (hcs : cs.toList = l.flatMap enc) (henc : ∀ x, (enc x).length = sz) : Sl enc sz w (some ⟨b, 0, none⟩) l.length l := by
  refine ⟨rfl, fun _ => ⟨b, 0, rfl, ?_⟩⟩
  intro i x hx j u hu
  have hc : w.cell? ⟨b, 0 + i * sz + j, none⟩ = cs[0 + i * sz + j]? := by unfold World.cell?; simp [h]
  rw [hc, ← Array.getElem?_toList, hcs, Nat.zero_add]
  exact flat_get henc l i j x u hx hu
end Go.Proofs.Ytgnjknihgjdedaa

namespace Go.Proofs.Ytgnjknihgjdedaa
open Go.RowKit
set_option linter.unusedVariables false
set_option linter.unusedSimpArgs false

theorem Hd.least {w : World} {H N : Nat} (h : Hd w H N) : ∃ N0, N0 ≤ N ∧ Hd w H N0 ∧ ∀ M, Hd w H M → N0 ≤ M := by
  obtain ⟨A, n, c, next, state, h1, h2, h3, h4, h5⟩ := h
  refine ⟨next.toNat, by omega, ⟨A, n, c, next, state, h1, h2, h3, by omega, h5⟩, fun M hM => ?_⟩
  obtain ⟨A', n', c', next', state', k1, k2, k3, k4, k5⟩ := hM
  rw [h1] at k1
  cases k1
  omega
def EqF (c : Value) : VF := fun v _ => v = c
theorem EqF.st {T : Nat → World → World → Prop} {c : Value} : ∀ (m : Nat) v w w', T m w w' → EqF c v w → EqF c v w' := fun _ _ _ _ _ h => h
theorem set_blk {w : World} {k i : Nat} {t : TypeId} {cs : Array Value} {x : Nat × Nat} {v : Value} (h : w.heap[k]? = some (.cells cs t x)) : (w.setCell ⟨k, i, none⟩ v).heap[k]? = some (.cells (cs.setIfInBounds i v) t x) := by
  simp [World.setCell, Array.getElem?_modify, h]
end Go.Proofs.Ytgnjknihgjdedaa
namespace Go.Proofs.Ytgnjknihgjdedaa
open Go.RowKit Go.MapKept
set_option linter.unusedVariables false
set_option linter.unusedSimpArgs false

def hcs (h : List Int) : Array Value := (h.map (Value.int .i64)).toArray
theorem hv_cs (h : List Int) : hv h = .agg (hcs h) := rfl
abbrev hObj (h : List Int) : Obj := .cells (hcs h) 126 (0, 0)
theorem hcs_size (h : List Int) : (hcs h).size = h.length := by simp [hcs]
theorem hcs_at {h : List Int} {i : Nat} (hi : i < h.length) : (hcs h)[i]? = some (.int .i64 (h.getD i 0)) := by
  unfold hcs
  rw [List.getElem?_toArray, List.getElem?_map, List.getElem?_eq_getElem hi, List.getD_eq_getElem?_getD, List.getElem?_eq_getElem hi]
  rfl
theorem hcs_one (h : List Int) : (hcs h).all (·.oneCell') = true := by
  rw [Array.all_eq_true_iff_forall_mem]
  intro x hx
  unfold hcs at hx
  simp at hx
  obtain ⟨a, _, rfl⟩ := hx
  rfl
theorem info_hds : (Try.prog.info? 126).map (·.size) = some 15 := by kernel_rfl
theorem blkH {w : World} {b : Nat} {h : List Int} (hb : w.heap[b]? = some (hObj h)) {i : Nat} (hi : i < h.length) : w.cell? ⟨b, i, none⟩ = some (.int .i64 (h.getD i 0)) := by
  rw [cell_of_row w b i (hcs h) _ _ hb]; exact hcs_at hi
theorem split15 {y : List Int} (hl : y.length = 15) : ∃ a0 a1 a2 a3 a4 a5 a6 a7 a8 a9 a10 a11 a12 a13 a14 : Int, #[Value.int .i64 a0, Value.int .i64 a1, Value.int .i64 a2, Value.int .i64 a3, Value.int .i64 a4, Value.int .i64 a5, Value.int .i64 a6, Value.int .i64 a7, Value.int .i64 a8, Value.int .i64 a9, Value.int .i64 a10, Value.int .i64 a11, Value.int .i64 a12, Value.int .i64 a13, Value.int .i64 a14] = hcs y ∧ ∀ (w : World) (b : Nat), w.heap[b]? = some (hObj y) → w.cell? ⟨b, 0, none⟩ = some (.int .i64 a0) ∧ w.cell? ⟨b, 1, none⟩ = some (.int .i64 a1) ∧ w.cell? ⟨b, 2, none⟩ = some (.int .i64 a2) ∧ w.cell? ⟨b, 3, none⟩ = some (.int .i64 a3) ∧ w.cell? ⟨b, 4, none⟩ = some (.int .i64 a4) ∧ w.cell? ⟨b, 5, none⟩ = some (.int .i64 a5) ∧ w.cell? ⟨b, 6, none⟩ = some (.int .i64 a6) ∧ w.cell? ⟨b, 7, none⟩ = some (.int .i64 a7) ∧ w.cell? ⟨b, 8, none⟩ = some (.int .i64 a8) ∧ w.cell? ⟨b, 9, none⟩ = some (.int .i64 a9) ∧ w.cell? ⟨b, 10, none⟩ = some (.int .i64 a10) ∧ w.cell? ⟨b, 11, none⟩ = some (.int .i64 a11) ∧ w.cell? ⟨b, 12, none⟩ = some (.int .i64 a12) ∧ w.cell? ⟨b, 13, none⟩ = some (.int .i64 a13) ∧ w.cell? ⟨b, 14, none⟩ = some (.int .i64 a14) := by
  obtain ⟨a, b, c, d, e, f, g, i, j, k, m, n, o, p, q, rfl⟩ := list15' hl
  refine ⟨a, b, c, d, e, f, g, i, j, k, m, n, o, p, q, rfl, fun w b hb => ⟨blkH hb (by simp), blkH hb (by simp), blkH hb (by simp), blkH hb (by simp), blkH hb (by simp), blkH hb (by simp), blkH hb (by simp), blkH hb (by simp), blkH hb (by simp), blkH hb (by simp), blkH hb (by simp), blkH hb (by simp), blkH hb (by simp), blkH hb (by simp), blkH hb (by simp)⟩⟩
def setsL (b : Nat) : Nat → List Value → World → World
  | _, [], w => w
  | i, v :: l, w => setsL b (i + 1) l (w.setCell ⟨b, i, none⟩ v)
def setsA : Nat → List Value → Array Value → Array Value
  | _, [], cs => cs
  | i, v :: l, cs => setsA (i + 1) l (cs.setIfInBounds i v)
theorem setsL_heap {b : Nat} {t : TypeId} {x : Nat × Nat} : ∀ (l : List Value) (i : Nat) (w : World) (cs : Array Value), w.heap[b]? = some (.cells cs t x) → (setsL b i l w).heap[b]? = some (.cells (setsA i l cs) t x)
  | [], _, _, _, h => h
  | v :: l, i, w, cs, h => setsL_heap l (i + 1) _ _ (set_blk h)
theorem setsL_below {B b : Nat} {w : World} (hb : B ≤ b) : ∀ (l : List Value) (i : Nat) (w' : World), Below B w w' → Below B w (setsL b i l w')
  | [], _, _, h => h
  | v :: l, i, w', h => setsL_below hb l (i + 1) _ (h.setCell (p := ⟨b, i, none⟩) hb _)
def setsLL : Nat → List Value → List Value → List Value
  | _, [], cs => cs
  | i, v :: l, cs => setsLL (i + 1) l (cs.set i v)
theorem setsA_list : ∀ (l : List Value) (i : Nat) (cs : Array Value), (setsA i l cs).toList = setsLL i l cs.toList
  | [], _, _ => rfl
  | v :: l, i, cs => by unfold setsA setsLL; rw [setsA_list l, Array.toList_setIfInBounds]
theorem setsA15 (a0 a1 a2 a3 a4 a5 a6 a7 a8 a9 a10 a11 a12 a13 a14 : Int) {x : List Int} (hx : x.length = 15) : setsA 0 [Value.int .i64 a0, Value.int .i64 a1, Value.int .i64 a2, Value.int .i64 a3, Value.int .i64 a4, Value.int .i64 a5, Value.int .i64 a6, Value.int .i64 a7, Value.int .i64 a8, Value.int .i64 a9, Value.int .i64 a10, Value.int .i64 a11, Value.int .i64 a12, Value.int .i64 a13, Value.int .i64 a14] (hcs x) = #[Value.int .i64 a0, Value.int .i64 a1, Value.int .i64 a2, Value.int .i64 a3, Value.int .i64 a4, Value.int .i64 a5, Value.int .i64 a6, Value.int .i64 a7, Value.int .i64 a8, Value.int .i64 a9, Value.int .i64 a10, Value.int .i64 a11, Value.int .i64 a12, Value.int .i64 a13, Value.int .i64 a14] := by
  obtain ⟨a, b', c, d, e, f, g, i, j, k, m, n, o, p, q, rfl⟩ := list15' hx
  apply Array.ext'
  rw [setsA_list]
  rfl
theorem zero15_sets {w : World} {b : Nat} (a0 a1 a2 a3 a4 a5 a6 a7 a8 a9 a10 a11 a12 a13 a14 : Int) {y : List Int} (hy : #[Value.int .i64 a0, Value.int .i64 a1, Value.int .i64 a2, Value.int .i64 a3, Value.int .i64 a4, Value.int .i64 a5, Value.int .i64 a6, Value.int .i64 a7, Value.int .i64 a8, Value.int .i64 a9, Value.int .i64 a10, Value.int .i64 a11, Value.int .i64 a12, Value.int .i64 a13, Value.int .i64 a14] = hcs y) (hb : w.heap[b]? = some (hObj (List.replicate 15 0))) : (setsL b 0 [Value.int .i64 a0, Value.int .i64 a1, Value.int .i64 a2, Value.int .i64 a3, Value.int .i64 a4, Value.int .i64 a5, Value.int .i64 a6, Value.int .i64 a7, Value.int .i64 a8, Value.int .i64 a9, Value.int .i64 a10, Value.int .i64 a11, Value.int .i64 a12, Value.int .i64 a13, Value.int .i64 a14] w).heap[b]? = some (hObj y) := by
  have h := setsL_heap [Value.int .i64 a0, Value.int .i64 a1, Value.int .i64 a2, Value.int .i64 a3, Value.int .i64 a4, Value.int .i64 a5, Value.int .i64 a6, Value.int .i64 a7, Value.int .i64 a8, Value.int .i64 a9, Value.int .i64 a10, Value.int .i64 a11, Value.int .i64 a12, Value.int .i64 a13, Value.int .i64 a14] 0 w _ hb
  have e : setsA 0 [Value.int .i64 a0, Value.int .i64 a1, Value.int .i64 a2, Value.int .i64 a3, Value.int .i64 a4, Value.int .i64 a5, Value.int .i64 a6, Value.int .i64 a7, Value.int .i64 a8, Value.int .i64 a9, Value.int .i64 a10, Value.int .i64 a11, Value.int .i64 a12, Value.int .i64 a13, Value.int .i64 a14] (hcs (List.replicate 15 0)) = hcs y := (setsA15 a0 a1 a2 a3 a4 a5 a6 a7 a8 a9 a10 a11 a12 a13 a14 (x := List.replicate 15 0) List.length_replicate).trans hy
  rw [e] at h
  exact h
set_option maxRecDepth 100000 in
set_option maxHeartbeats 2000000 in
theorem moved_any (h : List Int) (f o : Nat) (k : Int) (w : World) (hl : h.length = 15) (hf : f < 3) (ho : o < 5) (hg : -1000000 ≤ hget h f o ∧ hget h f o ≤ 1000000) (hk : -1000000 ≤ k ∧ k ≤ 1000000) :
    Calls Try.prog 117 #[hv h, .int .i64 f, .int .i64 o, .int .i64 k] w fun e w' => e = .returned (.tuple #[hv (hadd h f o k), .bool (decide (0 ≤ hget h f o + k))]) ∧ Below w.heap.size w w' := by
  rw [hv_cs]
  go_enter Try.func117, Try.ntmps117
  go_upto_region 1 with (fail)
  obtain ⟨W, hW⟩ : ∃ W, W = (w.alloc (Obj.cells (hcs h) 126)).alloc (Obj.cells #[.int .i64 0, .int .i64 0, .int .i64 0, .int .i64 0, .int .i64 0, .int .i64 0, .int .i64 0, .int .i64 0, .int .i64 0, .int .i64 0, .int .i64 0, .int .i64 0, .int .i64 0, .int .i64 0, .int .i64 0] 126) := ⟨_, rfl⟩
  have b0 : W.heap[w.heap.size]? = some (hObj h) := by rw [hW]; exact hblk_alloc (alloc_at rfl) _
  have b1 : W.heap[w.heap.size + 1]? = some (hObj (List.replicate 15 0)) := by rw [hW]; exact alloc_at (by simp)
  have hBW : Below w.heap.size w W := by rw [hW]; exact bal (bal0 w _) (Nat.le_refl _) _
  rw [← hW]
  clear hW
  obtain ⟨r, hr⟩ : ∃ r, r = w.heap.size := ⟨_, rfl⟩
  have HR := Lib.hid (And.intro hr hBW)
  rw [← hr] at b0 b1 ⊢
  clear hr hBW
  obtain ⟨x, hx⟩ : ∃ x, x = hget h f o := ⟨_, rfl⟩
  rw [← hx] at hg
  have c0 : W.cell? ⟨r, f * 5 + o, none⟩ = some (.int .i64 x) := by rw [hx, Nat.mul_comm f 5]; exact blkH b0 (by omega)
  have HX := Lib.hid hx
  clear hx
  have i0 : (0 : Int) ≤ (f : Int) := by omega
  have i1 : (f : Int) < 3 := by omega
  have i2 : (0 : Int) ≤ (o : Int) := by omega
  have i3 : (o : Int) < 5 := by omega
  have fz := fun i => frz b0 i
  go_region
  obtain ⟨W1, hW1⟩ : ∃ W1, W1 = (W.setCell ⟨r, f * 5 + o, none⟩ (.int .i64 (x + k))).drew := ⟨_, rfl⟩
  have d0 : W1.heap[r]? = some (hObj (hadd h f o k)) := by
    rw [hW1]
    have h1 := set_blk (i := f * 5 + o) (v := .int .i64 (x + k)) b0
    have e : (hcs h).setIfInBounds (f * 5 + o) (.int .i64 (x + k)) = hcs (hadd h f o k) := by
      unfold hcs hadd
      rw [List.map_set, HX.out, Nat.mul_comm f 5]
      simp
    rw [e] at h1
    exact h1
  have d1 : W1.heap[r + 1]? = some (hObj (List.replicate 15 0)) := by rw [hW1]; exact (Below.heap_setCell _ ⟨r, _, none⟩ _ _ (by dsimp; omega)).trans b1
  have hBW1 : Below r w W1 := by rw [hW1]; exact bdraw (Below.setCell (by rw [HR.out.1]; exact HR.out.2) (p := ⟨r, f * 5 + o, none⟩) (Nat.le_refl _) _)
  have HB1 := Lib.hid hBW1
  rw [← hW1]
  clear hW1 hBW1 b0 b1 c0 fz
  have hl1 : (hadd h f o k).length = 15 := by unfold hadd; rw [List.length_set]; exact hl
  obtain ⟨y, hy⟩ : ∃ y, y = hadd h f o k := ⟨_, rfl⟩
  have HY := Lib.hid hy
  rw [← hy] at d0 hl1
  have c1 : W1.cell? ⟨r, f * 5 + o, none⟩ = some (.int .i64 (x + k)) := by
    have e : y.getD (5 * f + o) 0 = x + k := by rw [hy, HX.out]; exact (hget_hadd hl hf ho ho).trans (if_pos ⟨rfl, rfl⟩)
    rw [← e, Nat.mul_comm f 5]
    exact blkH d0 (by omega)
  clear hy
  obtain ⟨a0, a1, a2, a3, a4, a5, a6, a7, a8, a9, a10, a11, a12, a13, a14, hc15, hcell⟩ := split15 hl1
  have HCE := Lib.hid (And.intro hc15 hcell)
  obtain ⟨y0, y1, y2, y3, y4, y5, y6, y7, y8, y9, y10, y11, y12, y13, y14⟩ := hcell _ _ d0
  clear hcell hc15
  have d1n : ∀ n, (W1.drewN n).heap[r + 1]? = some (hObj (List.replicate 15 0)) := fun n => d1
  go_upto_region 2 with (fail)
  have fz := fun i => frz d1 i
  have hsz := heap_lt d1
  have z : ∀ i, i < 15 → W1.cell? ⟨r + 1, i, none⟩ = some (.int .i64 0) := fun i hi => by
    rw [blkH d1 (by simpa using hi), List.getD_eq_getElem?_getD, List.getElem?_replicate, if_pos hi]; rfl
  obtain ⟨z0, z1, z2, z3, z4⟩ := And.intro (z 0 (by decide)) (And.intro (z 1 (by decide)) (And.intro (z 2 (by decide)) (And.intro (z 3 (by decide)) (z 4 (by decide)))))
  obtain ⟨z5, z6, z7, z8, z9⟩ := And.intro (z 5 (by decide)) (And.intro (z 6 (by decide)) (And.intro (z 7 (by decide)) (And.intro (z 8 (by decide)) (z 9 (by decide)))))
  obtain ⟨z10, z11, z12, z13, z14⟩ := And.intro (z 10 (by decide)) (And.intro (z 11 (by decide)) (And.intro (z 12 (by decide)) (And.intro (z 13 (by decide)) (z 14 (by decide)))))
  clear z
  go_region
  have hz9 := zero15_sets a0 a1 a2 a3 a4 a5 a6 a7 a8 a9 a10 a11 a12 a13 a14 HCE.out.1 d1
  have hb9 := bdraw (setsL_below (show r ≤ r + 1 by omega) [Value.int .i64 a0, Value.int .i64 a1, Value.int .i64 a2, Value.int .i64 a3, Value.int .i64 a4, Value.int .i64 a5, Value.int .i64 a6, Value.int .i64 a7, Value.int .i64 a8, Value.int .i64 a9, Value.int .i64 a10, Value.int .i64 a11, Value.int .i64 a12, Value.int .i64 a13, Value.int .i64 a14] 0 _ HB1.out)
  clear y0 z0 y1 z1 y2 z2 y3 z3 y4 z4 y5 z5 y6 z6 y7 z7 y8 z8 y9 z9 y10 z10 y11 z11 y12 z12 y13 z13 y14 z14 fz d0 d1 d1n c1
  have HBZ := Lib.hid (And.intro hz9 hb9)
  obtain ⟨Z, hZ⟩ : ∃ Z, Z = (setsL (r + 1) 0 [Value.int .i64 a0, Value.int .i64 a1, Value.int .i64 a2, Value.int .i64 a3, Value.int .i64 a4, Value.int .i64 a5, Value.int .i64 a6, Value.int .i64 a7, Value.int .i64 a8, Value.int .i64 a9, Value.int .i64 a10, Value.int .i64 a11, Value.int .i64 a12, Value.int .i64 a13, Value.int .i64 a14] W1).drew := ⟨_, rfl⟩
  have HZ := Lib.hid hZ
  simp only [setsL, Nat.reduceAdd] at hZ
  rw [← hZ]
  clear hZ hz9 hb9
  have e1 : Z.heap[r + 1]? = some (hObj y) := by rw [HZ.out]; exact hb_drew HBZ.out.1
  have HBY := Lib.hid (show Below r w Z by rw [HZ.out]; exact HBZ.out.2)
  clear HZ HBZ
  go_wp2
  have hc15 := HCE.out.1
  obtain ⟨y0, y1, y2, y3, y4, y5, y6, y7, y8, y9, y10, y11, y12, y13, y14⟩ := HCE.out.2 _ _ e1
  refine bodyPost_ret (v := .tuple #[.agg (hcs y), .bool (decide (0 ≤ x + k))]) (by simp [results, Try.f117, go_sem, ← hc15, y0, y1, y2, y3, y4, y5, y6, y7, y8, y9, y10, y11, y12, y13, y14]) rfl ?_
  exact ⟨by rw [HY.out, hv_cs, HX.out], by rw [← HR.out.1]; exact HBY.out⟩
end Go.Proofs.Ytgnjknihgjdedaa
