/- mestakit.Hand: the hand that deals numbers. Which ones is not said: only that they are in their bounds, and that nothing but the hand's own block is written. -/
import Derived.Test.YtoidaigiejilcaaDoorBase
import Derived.OpenShut
import Derived.Maps.AppendAt
namespace Go.Proofs.YtoidaigiejilcaaDoor
open Go.RowKit
set_option linter.unusedVariables false
set_option linter.unusedSimpArgs false

/-- block H is a hand that was asked at most N times -/
def Hd (w : World) (H N : Nat) : Prop := ∃ (A : Option Addr) (n c : Nat) (next state : Int), w.heap[H]? = some (.cells #[.slice A n c, .int .i64 next, .int .u64 state] 64 (0, 0)) ∧ n ≤ 9223372036854775807 ∧ 0 ≤ next ∧ next ≤ N ∧
  ∀ k, k < n → ∃ b off x, A = some ⟨b, off, none⟩ ∧ b < H ∧ w.cell? ⟨b, off + k, none⟩ = some (.int .i64 x)
theorem Hd.lt {w : World} {H N : Nat} (h : Hd w H N) : H < w.heap.size := by
  obtain ⟨A, n, c, next, state, h1, _⟩ := h
  exact heap_lt h1
theorem Hd.kept {w w' : World} {H N : Nat} (h : Hd w H N) (k : ∀ j, j ≤ H → w'.heap[j]? = w.heap[j]?) : Hd w' H N := by
  obtain ⟨A, n, c, next, state, h1, h2, h3, h4, h5⟩ := h
  refine ⟨A, n, c, next, state, (k H (Nat.le_refl _)).trans h1, h2, h3, h4, fun i hi => ?_⟩
  obtain ⟨b, off, x, hA, hb, hc⟩ := h5 i hi
  refine ⟨b, off, x, hA, hb, ?_⟩
  have e := k b (by omega)
  unfold World.cell? at hc ⊢
  rw [e]; exact hc
theorem Hd.below {w w' : World} {H N B : Nat} (h : Hd w H N) (hb : Below B w w') (hB : H < B) : Hd w' H N := h.kept fun j hj => hb.block j (by omega)
theorem Hd.mono {w : World} {H N M : Nat} (h : Hd w H N) (hM : N ≤ M) : Hd w H M := by
  obtain ⟨A, n, c, next, state, h1, h2, h3, h4, h5⟩ := h
  exact ⟨A, n, c, next, state, h1, h2, h3, by omega, h5⟩
/-- what a deal leaves: the hand is there, nothing else that was there has changed -/
structure Dealt (w w' : World) (H N : Nat) : Prop where
  hd : Hd w' H N
  gr : w.grownBy w' (some H)

theorem bits_u64 (op : BinOp) (x y : Int) : 0 ≤ bits op .u64 x y ∧ bits op .u64 x y ≤ 18446744073709551615 := bounds_u64 (wf_bits op .u64 x y)
theorem wrap_u64_le (x : Int) : 0 ≤ IntKind.u64.wrap x ∧ IntKind.u64.wrap x ≤ 18446744073709551615 := bounds_u64 (wf_wrap .u64 x)
/-- the hand's block is written at its second and third cell -/
theorem hd_next {w w' : World} {H N n c : Nat} {A : Option Addr} {q st x : Int} (h1 : w.heap[H]? = some (.cells #[.slice A n c, .int .i64 q, .int .u64 st] 64 (0, 0))) (h2 : n ≤ 9223372036854775807) (h3 : 0 ≤ q) (h4 : q ≤ N)
    (h5 : ∀ k, k < n → ∃ b off x, A = some ⟨b, off, none⟩ ∧ b < H ∧ w.cell? ⟨b, off + k, none⟩ = some (.int .i64 x)) (hb : w.heap.size = w'.heap.size) (ho : w'.os = w.os ∧ w'.tape = w.tape ∧ w'.output = w.output) (hh : ∀ j : Nat, w'.heap[j]? = w.heap[j]?) :
    Dealt w ((w'.setCell ⟨H, 1, none⟩ (.int .i64 (q + 1))).setCell ⟨H, 2, none⟩ (.int .u64 x)) H (N + 1) := by
  have hfar : ∀ j : Nat, j ≠ H → ((w'.setCell ⟨H, 1, none⟩ (.int .i64 (q + 1))).setCell ⟨H, 2, none⟩ (.int .u64 x)).heap[j]? = w.heap[j]? := fun j hj =>
    (Below.heap_setCell _ ⟨H, 2, none⟩ _ j hj).trans ((Below.heap_setCell _ ⟨H, 1, none⟩ _ j hj).trans (hh j))
  refine ⟨⟨A, n, c, q + 1, x, ?_, h2, by omega, by omega, fun k hk => ?_⟩, ⟨ho.1, ho.2.1, ho.2.2, by simp [hb], fun j _ hj => hfar j (fun e => hj (by rw [e]))⟩⟩
  · have h0 := (hh H).trans h1
    simp [World.setCell, Array.getElem?_modify, h0]
  · obtain ⟨b, off, y, hA, hbH, hc⟩ := h5 k hk
    refine ⟨b, off, y, hA, hbH, ?_⟩
    unfold World.cell? at hc ⊢
    rw [hfar b (by omega)]
    exact hc

set_option maxRecDepth 100000 in
set_option maxHeartbeats 2000000 in
theorem pull_any (H N : Nat) (w : World) (h : Hd w H N) (hN : N ≤ 4611686018427387904) :
    Calls Tryd.prog 53 #[.pointer (some ⟨H, 0, none⟩)] w fun e w' => ∃ u : Int, e = .returned (.int .u64 u) ∧ 0 ≤ u ∧ u < 18446744073709551616 ∧ Dealt w w' H (N + 1) := by
  obtain ⟨A, n, c, next, state, h1, h2, h3, h4, h5⟩ := h
  obtain ⟨q, rfl⟩ := Int.eq_ofNat_of_zero_le h3
  obtain ⟨c0, c1, c2⟩ := blk3 h1
  have f1 := frz h1 1
  have f2 := frz h1 2
  have hq : (q : Int) ≤ 4611686018427387904 := by omega
  by_cases hlt : q < n
  · obtain ⟨b, off, x, rfl, hb, hx⟩ := h5 q hlt
    have hlt' : (q : Int) < (n : Int) := by omega
    go_enter Tryd.func53, Tryd.ntmps53
    go_upto_region 2 with (fail)
    go_quiet (fail)
    go_upto_region 3 with (fail)
    go_quiet (fail)
    go_upto_region 5 with (fail)
    generalize IntKind.u64.wrap x = u0
    go_upto_region 6 with (fail)
    generalize bits BinOp.xor IntKind.u64 state (IntKind.u64.wrap (u0 * 11400714819323198485)) = s1
    go_upto_region 7 with (fail)
    generalize bits BinOp.xor IntKind.u64 s1 (IntKind.u64.wrap (s1 * 8192)) = s2
    go_upto_region 8 with (fail)
    generalize bits BinOp.xor IntKind.u64 s2 (s2 / 128) = s3
    go_upto_region 9 with (fail)
    generalize bits BinOp.xor IntKind.u64 s3 (IntKind.u64.wrap (s3 * 131072)) = s4
    go_upto_region 10 with (fail)
    generalize IntKind.u64.wrap (s4 + 7146057691288625177) = s5
    go_upto_region 11 with (fail)
    generalize IntKind.u64.wrap (bits BinOp.xor IntKind.u64 s4 (s4 / 2147483648) * 13787848793156543929) = s6
    go_wp2
    go_ret
    have hb6 := bits_u64 .xor s6 (s6 / 536870912)
    exact ⟨_, rfl, by omega, by omega, hd_next h1 h2 h3 h4 h5 rfl ⟨rfl, rfl, rfl⟩ (fun _ => rfl)⟩
  · have hlt' : ¬ (q : Int) < (n : Int) := by omega
    have hd' : decide (q < n) = false := by simpa using hlt
    have hd2 : decide ((q : Int) < (n : Int)) = false := by simpa using hlt'
    go_enter Tryd.func53, Tryd.ntmps53
    go_upto_region 2 with (fail)
    go_quiet (fail)
    go_upto_region 5 with (fail)
    go_upto_region 6 with (fail)
    generalize bits BinOp.xor IntKind.u64 state (IntKind.u64.wrap ((q : Int) * 11400714819323198485)) = s1
    go_upto_region 7 with (fail)
    generalize bits BinOp.xor IntKind.u64 s1 (IntKind.u64.wrap (s1 * 8192)) = s2
    go_upto_region 8 with (fail)
    generalize bits BinOp.xor IntKind.u64 s2 (s2 / 128) = s3
    go_upto_region 9 with (fail)
    generalize bits BinOp.xor IntKind.u64 s3 (IntKind.u64.wrap (s3 * 131072)) = s4
    go_upto_region 10 with (fail)
    generalize IntKind.u64.wrap (s4 + 7146057691288625177) = s5
    go_upto_region 11 with (fail)
    generalize IntKind.u64.wrap (bits BinOp.xor IntKind.u64 s4 (s4 / 2147483648) * 13787848793156543929) = s6
    go_wp2
    go_ret
    have hb6 := bits_u64 .xor s6 (s6 / 536870912)
    exact ⟨_, rfl, by omega, by omega, hd_next h1 h2 h3 h4 h5 rfl ⟨rfl, rfl, rfl⟩ (fun _ => rfl)⟩

theorem Dealt.refl {w : World} {H N : Nat} (h : Hd w H N) : Dealt w w H N := ⟨h, World.grownBy.refl w _⟩
theorem Dealt.mono {w w' : World} {H N M : Nat} (h : Dealt w w' H N) (hM : N ≤ M) : Dealt w w' H M := ⟨h.hd.mono hM, h.gr⟩
theorem Dealt.trans {w w' w'' : World} {H N M : Nat} (h : Dealt w w' H N) (k : Dealt w' w'' H M) : Dealt w w'' H M := ⟨k.hd, h.gr.trans k.gr⟩
theorem Dealt.below {w w' : World} {H N : Nat} (h : Dealt w w' H N) {B : Nat} (hB : B ≤ H) (hw : B ≤ w.heap.size) : Below B w w' := (Below.refl _ _).grown h.gr hw (fun k hk => by cases hk; exact hB)
theorem Dealt.blk {w w' : World} {H N : Nat} (h : Dealt w w' H N) {j : Nat} {o : Obj} (hj : w.heap[j]? = some o) (hne : j ≠ H) : w'.heap[j]? = some o := (h.gr.block j (heap_lt hj) (by intro e; cases e; exact hne rfl)).trans hj
theorem Dealt.size {w w' : World} {H N : Nat} (h : Dealt w w' H N) : w.heap.size ≤ w'.heap.size := h.gr.size

theorem upto_any (H N : Nat) (m : Int) (w : World) (h : Hd w H N) (hN : N ≤ 4611686018427387904) (hm : m ≤ 4611686018427387904) :
    Calls Tryd.prog 23 #[.pointer (some ⟨H, 0, none⟩), .int .i64 m] w fun e w' => ∃ n : Nat, e = .returned (.int .i64 n) ∧ ((n : Int) ≤ m ∨ n = 0) ∧ Dealt w w' H (N + 1) := by
  by_cases h0 : m ≤ 0
  · go_enter Tryd.func23, Tryd.ntmps23
    go_wp2_with fail
    go_ret
    exact ⟨0, rfl, .inr rfl, (Dealt.refl h).mono (by omega)⟩
  · go_enter Tryd.func23, Tryd.ntmps23
    go_wp2_with fail
    refine (pull_any H N _ h hN).mono ?_
    rintro e w1 ⟨u, rfl, hu0, hu1, hd⟩
    have hd1 := Lib.hid hd
    clear hd h
    have hr0 : 0 ≤ u % (m + 1) := Int.emod_nonneg _ (by omega)
    have hr1 : u % (m + 1) < m + 1 := Int.emod_lt_of_pos _ (by omega)
    go_wp2
    go_ret
    refine ⟨(u % (m + 1)).toNat, ?_, .inl (by omega), hd1.out⟩
    exact ret_int (by omega)
/-- a slice that does not lie in the hand's block reads as it did -/
def OffH (A : Option Addr) (H : Nat) : Prop := ∀ b off, A = some ⟨b, off, none⟩ → b ≠ H
theorem Sl.dealt {α : Type} {enc : α → List Value} {sz : Nat} {w w' : World} {A : Option Addr} {n : Nat} {l : List α} {H N : Nat} (h : Sl enc sz w A n l) (hd : Dealt w w' H N) (hne : OffH A H) : Sl enc sz w' A n l :=
  ⟨h.1, fun hn => by
    obtain ⟨b, off, hA, hc⟩ := h.2 hn
    refine ⟨b, off, hA, fun i x hx j u hu => ?_⟩
    exact hd.gr.cell (hc i x hx j u hu) (fun e => hne b off hA (by simpa using e))⟩

theorem odds_any (H N : Nat) (a b : Int) (w : World) (h : Hd w H N) (hN : N ≤ 4611686018427387904) (hb : -4611686018427387904 ≤ b) (hb' : b ≤ 4611686018427387904) :
    Calls Tryd.prog 54 #[.pointer (some ⟨H, 0, none⟩), .int .i64 a, .int .i64 b] w fun e w' => ∃ o : Bool, e = .returned (.bool o) ∧ Dealt w w' H (N + 1) := by
  go_enter Tryd.func54, Tryd.ntmps54
  go_wp2_with fail
  refine (upto_any H N (b - 1) _ h hN (by omega)).mono ?_
  rintro e w1 ⟨n, rfl, _, hd⟩
  have hd1 := Lib.hid hd
  clear hd h
  go_wp2
  go_ret
  exact ⟨_, rfl, hd1.out⟩
theorem of_any (H N : Nat) (f : Int) (B : Option Addr) (m d : Nat) (L : List Int) (w : World) (h : Hd w H N) (hN : N ≤ 4611686018427387904) (hL : Ints w B m L) (hB : OffH B H) (hm : m ≤ 4611686018427387904) :
    Calls Tryd.prog 22 #[.pointer (some ⟨H, 0, none⟩), .int .i64 f, .slice B m d] w fun e w' => ∃ x : Int, e = .returned (.int .i64 x) ∧ (x = f ∨ x ∈ L) ∧ Dealt w w' H (N + 1) := by
  have HL := Lib.hid hL
  go_enter Tryd.func22, Tryd.ntmps22
  go_wp2_with fail
  refine (upto_any H N m _ h hN (by omega)).mono ?_
  rintro e w1 ⟨n, rfl, hn, hd⟩
  have hd1 := Lib.hid hd
  have hL1 := hL.dealt hd hB
  clear hd h hL
  by_cases h0 : n = 0
  · subst h0
    go_wp2
    go_ret
    exact ⟨_, rfl, .inl rfl, hd1.out⟩
  · have hnm : n ≤ m := by omega
    obtain ⟨k, rfl⟩ : ∃ k, n = k + 1 := ⟨n - 1, by omega⟩
    obtain ⟨b, off, x, rfl, hb, hx, hc⟩ := Ints.get hL1 (show k < m by omega)
    have HX := Lib.hid hx
    clear hx
    have e1 : ((k + 1 : Nat) : Int) = (k : Int) + 1 := by omega
    rw [e1]
    clear e1 hn h0
    have hk1 : (k : Int) < (m : Int) := by omega
    have hk2 : (k : Int) ≤ 4611686018427387904 := by omega
    go_wp2
    go_ret
    exact ⟨_, rfl, .inr (List.mem_of_getElem? HX.out), hd1.out⟩

/-- a new hand -/
theorem newHand_any (A : Option Addr) (n c : Nat) (l : List Int) (w : World) (hl : Ints w A n l) (hn : n ≤ 9223372036854775807) :
    Calls Tryd.prog 7 #[.slice A n c] w fun e w' => e = .returned (.pointer (some ⟨w.heap.size, 0, none⟩)) ∧ Hd w' w.heap.size 0 ∧ Below w.heap.size w w' ∧ w'.heap.size = w.heap.size + 1 := by
  have HL := Lib.hid hl
  clear hl
  go_enter Tryd.func7, Tryd.ntmps7
  go_wp2
  go_ret
  refine ⟨rfl, ⟨A, n, c, 0, 88172645463325252, alloc_at rfl, hn, by omega, by omega, fun k hk => ?_⟩, bal0 _ _, by simp⟩
  obtain ⟨b, off, x, hA, hb, hx, hc⟩ := Ints.get HL.out hk
  exact ⟨b, off, x, hA, hb, bcell hc (bal0 w _) (Nat.le_refl _)⟩
theorem Dealt.alloc {w w' : World} {H N : Nat} (h : Dealt w w' H N) (o : Obj) : Dealt w (w'.alloc o) H N :=
  ⟨h.hd.below (bal0 w' o) h.hd.lt, h.gr.trans (World.grownBy_alloc _ _ _)⟩
theorem Dealt.set {w w' : World} {H N : Nat} (h : Dealt w w' H N) {a : Addr} (hH : H < a.block) (ha : w.heap.size ≤ a.block) (v : Value) : Dealt w (w'.setCell a v) H N := by
  refine ⟨h.hd.kept fun j hj => Below.heap_setCell _ _ _ _ (by omega), ⟨h.gr.os, h.gr.tape, h.gr.output, by simpa using h.gr.size, fun j hj hne => ?_⟩⟩
  exact (Below.heap_setCell _ _ _ _ (by omega)).trans (h.gr.block j hj hne)
theorem Dealt.drewN {w w' : World} {H N : Nat} (h : Dealt w w' H N) (k : Nat) : Dealt w (w'.drewN k) H N := ⟨h.hd, ⟨h.gr.os, h.gr.tape, h.gr.output, h.gr.size, h.gr.block⟩⟩
theorem Dealt.less {w w' : World} {H N B : Nat} (h : Dealt w w' H N) {w'' : World} (hb : Below B w' w'') (hB : w'.heap.size ≤ B) : Dealt w w'' H N :=
  ⟨h.hd.below hb (Nat.lt_of_lt_of_le h.hd.lt hB), ⟨hb.os.trans h.gr.os, hb.tape.trans h.gr.tape, hb.output.trans h.gr.output, Nat.le_trans h.gr.size hb.size, fun j hj hne => (hb.block j (Nat.lt_of_lt_of_le hj (Nat.le_trans h.gr.size hB))).trans (h.gr.block j hj hne)⟩⟩
theorem Hd.alloc {w : World} {H N : Nat} (h : Hd w H N) (o : Obj) : Hd (w.alloc o) H N := h.below (bal0 w o) h.lt
theorem offH_new {w : World} {H N : Nat} (h : Hd w H N) {k : Nat} (hk : w.heap.size ≤ k) (off : Nat) : OffH (some ⟨k, off, none⟩) H := fun b o e => by
  have := h.lt
  cases e
  omega
end Go.Proofs.YtoidaigiejilcaaDoor
