/- TopFold 6: Hand, WearOf, MarkOf, Owner. -/
import Derived.Test.YtgnjknihgjdedaaTf01
import Derived.OpenShut
import Derived.Maps.AppendAt
import Derived.Test.YtgnjknihgjdedaaTf05
import Derived.Test.YtgnjknihgjdedaaTf03
namespace Go.Proofs.Ytgnjknihgjdedaa
open Go.RowKit
set_option linter.unusedVariables false
set_option linter.unusedSimpArgs false

def Hd (w : World) (H N : Nat) : Prop := ∃ (A : Option Addr) (n c : Nat) (next state : Int), w.heap[H]? = some (.cells #[.slice A n c, .int .i64 next, .int .u64 state] 81 (0, 0)) ∧ n ≤ 9223372036854775807 ∧ 0 ≤ next ∧ next ≤ N ∧
  ∀ k, k < n → ∃ b off x, A = some ⟨b, off, none⟩ ∧ b < H ∧ w.cell? ⟨b, off + k, none⟩ = some (.int .i64 x)
theorem Hd.lt {w : World} {H N : Nat} (h : Hd w H N) : H < w.heap.size := by
  obtain ⟨A, n, c, next, state, h1, _⟩ := h
  exact heap_lt h1
theorem Hd.kept {w w' : World} {H N : Nat} (h : Hd w H N) (k : ∀ j, j ≤ H → w'.heap[j]? = w.heap[j]?) : Hd w' H N := by
  obtain ⟨A, n, c, next, state, h1, h2, h3, h4, h5⟩ := h
  refine ⟨A, n, c, next, state, (k H (Nat.le_refl _)).trans h1, h2, h3, h4, fun i hi => ?_⟩
  obtain ⟨b, off, x, hA, hb, hc⟩ := h5 i hi
  refine ⟨b, off, x, hA, hb, ?_⟩
  have e := k b (by omega)
  unfold World.cell? at hc ⊢
  rw [e]; exact hc
theorem Hd.below {w w' : World} {H N B : Nat} (h : Hd w H N) (hb : Below B w w') (hB : H < B) : Hd w' H N := h.kept fun j hj => hb.block j (by omega)
theorem Hd.mono {w : World} {H N M : Nat} (h : Hd w H N) (hM : N ≤ M) : Hd w H M := by
  obtain ⟨A, n, c, next, state, h1, h2, h3, h4, h5⟩ := h
  exact ⟨A, n, c, next, state, h1, h2, h3, by omega, h5⟩
structure Dealt (w w' : World) (H N : Nat) : Prop where
  hd : Hd w' H N
  gr : w.grownBy w' (some H)

theorem bits_u64 (op : BinOp) (x y : Int) : 0 ≤ bits op .u64 x y ∧ bits op .u64 x y ≤ 18446744073709551615 := bounds_u64 (wf_bits op .u64 x y)
theorem hd_next {w w' : World} {H N n c : Nat} {A : Option Addr} {q st x : Int} (h1 : w.heap[H]? = some (.cells #[.slice A n c, .int .i64 q, .int .u64 st] 81 (0, 0))) (h2 : n ≤ 9223372036854775807) (h3 : 0 ≤ q) (h4 : q ≤ N)
    (h5 : ∀ k, k < n → ∃ b off x, A = some ⟨b, off, none⟩ ∧ b < H ∧ w.cell? ⟨b, off + k, none⟩ = some (.int .i64 x)) (hb : w.heap.size = w'.heap.size) (ho : w'.os = w.os ∧ w'.tape = w.tape ∧ w'.output = w.output) (hh : ∀ j : Nat, w'.heap[j]? = w.heap[j]?) :
    Dealt w ((w'.setCell ⟨H, 1, none⟩ (.int .i64 (q + 1))).setCell ⟨H, 2, none⟩ (.int .u64 x)) H (N + 1) := by
  have hfar : ∀ j : Nat, j ≠ H → ((w'.setCell ⟨H, 1, none⟩ (.int .i64 (q + 1))).setCell ⟨H, 2, none⟩ (.int .u64 x)).heap[j]? = w.heap[j]? := fun j hj =>
    (Below.heap_setCell _ ⟨H, 2, none⟩ _ j hj).trans ((Below.heap_setCell _ ⟨H, 1, none⟩ _ j hj).trans (hh j))
  refine ⟨⟨A, n, c, q + 1, x, ?_, h2, by omega, by omega, fun k hk => ?_⟩, ⟨ho.1, ho.2.1, ho.2.2, by simp [hb], fun j _ hj => hfar j (fun e => hj (by rw [e]))⟩⟩
  · have h0 := (hh H).trans h1
    simp [World.setCell, Array.getElem?_modify, h0]
  · obtain ⟨b, off, y, hA, hbH, hc⟩ := h5 k hk
    refine ⟨b, off, y, hA, hbH, ?_⟩
    unfold World.cell? at hc ⊢
    rw [hfar b (by omega)]
    exact hc

set_option maxRecDepth 100000 in
set_option maxHeartbeats 2000000 in
theorem pull_any (H N : Nat) (w : World) (h : Hd w H N) (hN : N ≤ 4611686018427387904) :
    Calls Try.prog 38 #[.pointer (some ⟨H, 0, none⟩)] w fun e w' => ∃ u : Int, e = .returned (.int .u64 u) ∧ 0 ≤ u ∧ u < 18446744073709551616 ∧ Dealt w w' H (N + 1) := by
  obtain ⟨A, n, c, next, state, h1, h2, h3, h4, h5⟩ := h
  obtain ⟨q, rfl⟩ := Int.eq_ofNat_of_zero_le h3
  obtain ⟨c0, c1, c2⟩ := blk3 h1
  have f1 := frz h1 1
  have f2 := frz h1 2
  have hq : (q : Int) ≤ 4611686018427387904 := by omega
  by_cases hlt : q < n
  · obtain ⟨b, off, x, rfl, hb, hx⟩ := h5 q hlt
    have hlt' : (q : Int) < (n : Int) := by omega
    go_enter Try.func38, Try.ntmps38
    go_upto_region 2 with (fail)
    go_quiet (fail)
    go_upto_region 3 with (fail)
    go_quiet (fail)
    go_upto_region 5 with (fail)
    generalize IntKind.u64.wrap x = u0
    go_upto_region 6 with (fail)
    generalize bits BinOp.xor IntKind.u64 state (IntKind.u64.wrap (u0 * 11400714819323198485)) = s1
    go_upto_region 7 with (fail)
    generalize bits BinOp.xor IntKind.u64 s1 (IntKind.u64.wrap (s1 * 8192)) = s2
    go_upto_region 8 with (fail)
    generalize bits BinOp.xor IntKind.u64 s2 (s2 / 128) = s3
    go_upto_region 9 with (fail)
    generalize bits BinOp.xor IntKind.u64 s3 (IntKind.u64.wrap (s3 * 131072)) = s4
    go_upto_region 10 with (fail)
    generalize IntKind.u64.wrap (s4 + 7146057691288625177) = s5
    go_upto_region 11 with (fail)
    generalize IntKind.u64.wrap (bits BinOp.xor IntKind.u64 s4 (s4 / 2147483648) * 13787848793156543929) = s6
    go_wp2
    go_ret
    have hb6 := bits_u64 .xor s6 (s6 / 536870912)
    exact ⟨_, rfl, by omega, by omega, hd_next h1 h2 h3 h4 h5 rfl ⟨rfl, rfl, rfl⟩ (fun _ => rfl)⟩
  · have hlt' : ¬ (q : Int) < (n : Int) := by omega
    have hd' : decide (q < n) = false := by simpa using hlt
    have hd2 : decide ((q : Int) < (n : Int)) = false := by simpa using hlt'
    go_enter Try.func38, Try.ntmps38
    go_upto_region 2 with (fail)
    go_quiet (fail)
    go_upto_region 5 with (fail)
    go_upto_region 6 with (fail)
    generalize bits BinOp.xor IntKind.u64 state (IntKind.u64.wrap ((q : Int) * 11400714819323198485)) = s1
    go_upto_region 7 with (fail)
    generalize bits BinOp.xor IntKind.u64 s1 (IntKind.u64.wrap (s1 * 8192)) = s2
    go_upto_region 8 with (fail)
    generalize bits BinOp.xor IntKind.u64 s2 (s2 / 128) = s3
    go_upto_region 9 with (fail)
    generalize bits BinOp.xor IntKind.u64 s3 (IntKind.u64.wrap (s3 * 131072)) = s4
    go_upto_region 10 with (fail)
    generalize IntKind.u64.wrap (s4 + 7146057691288625177) = s5
    go_upto_region 11 with (fail)
    generalize IntKind.u64.wrap (bits BinOp.xor IntKind.u64 s4 (s4 / 2147483648) * 13787848793156543929) = s6
    go_wp2
    go_ret
    have hb6 := bits_u64 .xor s6 (s6 / 536870912)
    exact ⟨_, rfl, by omega, by omega, hd_next h1 h2 h3 h4 h5 rfl ⟨rfl, rfl, rfl⟩ (fun _ => rfl)⟩

theorem Dealt.refl {w : World} {H N : Nat} (h : Hd w H N) : Dealt w w H N := ⟨h, World.grownBy.refl w _⟩
theorem Dealt.mono {w w' : World} {H N M : Nat} (h : Dealt w w' H N) (hM : N ≤ M) : Dealt w w' H M := ⟨h.hd.mono hM, h.gr⟩
theorem Dealt.trans {w w' w'' : World} {H N M : Nat} (h : Dealt w w' H N) (k : Dealt w' w'' H M) : Dealt w w'' H M := ⟨k.hd, h.gr.trans k.gr⟩
theorem Dealt.below {w w' : World} {H N : Nat} (h : Dealt w w' H N) {B : Nat} (hB : B ≤ H) (hw : B ≤ w.heap.size) : Below B w w' := (Below.refl _ _).grown h.gr hw (fun k hk => by cases hk; exact hB)
theorem Dealt.blk {w w' : World} {H N : Nat} (h : Dealt w w' H N) {j : Nat} {o : Obj} (hj : w.heap[j]? = some o) (hne : j ≠ H) : w'.heap[j]? = some o := (h.gr.block j (heap_lt hj) (by intro e; cases e; exact hne rfl)).trans hj
theorem Dealt.size {w w' : World} {H N : Nat} (h : Dealt w w' H N) : w.heap.size ≤ w'.heap.size := h.gr.size

theorem upto_any (H N : Nat) (m : Int) (w : World) (h : Hd w H N) (hN : N ≤ 4611686018427387904) (hm : m ≤ 4611686018427387904) :
    Calls Try.prog 12 #[.pointer (some ⟨H, 0, none⟩), .int .i64 m] w fun e w' => ∃ n : Nat, e = .returned (.int .i64 n) ∧ ((n : Int) ≤ m ∨ n = 0) ∧ Dealt w w' H (N + 1) := by
  by_cases h0 : m ≤ 0
  · go_enter Try.func12, Try.ntmps12
    go_wp2_with fail
    go_ret
    exact ⟨0, rfl, .inr rfl, (Dealt.refl h).mono (by omega)⟩
  · go_enter Try.func12, Try.ntmps12
    go_wp2_with fail
    refine (pull_any H N _ h hN).mono ?_
    rintro e w1 ⟨u, rfl, hu0, hu1, hd⟩
    have hd1 := Lib.hid hd
    clear hd h
    have hr0 : 0 ≤ u % (m + 1) := Int.emod_nonneg _ (by omega)
    have hr1 : u % (m + 1) < m + 1 := Int.emod_lt_of_pos _ (by omega)
    go_wp2
    go_ret
    refine ⟨(u % (m + 1)).toNat, ?_, .inl (by omega), hd1.out⟩
    exact ret_int (by omega)
def OffH (A : Option Addr) (H : Nat) : Prop := ∀ b off, A = some ⟨b, off, none⟩ → b ≠ H
theorem Sl.dealt {α : Type} {enc : α → List Value} {sz : Nat} {w w' : World} {A : Option Addr} {n : Nat} {l : List α} {H N : Nat} (h : Sl enc sz w A n l) (hd : Dealt w w' H N) (hne : OffH A H) : Sl enc sz w' A n l :=
  ⟨h.1, fun hn => by
    obtain ⟨b, off, hA, hc⟩ := h.2 hn
    refine ⟨b, off, hA, fun i x hx j u hu => ?_⟩
    exact hd.gr.cell (hc i x hx j u hu) (fun e => hne b off hA (by simpa using e))⟩

theorem odds_any (H N : Nat) (a b : Int) (w : World) (h : Hd w H N) (hN : N ≤ 4611686018427387904) (hb : -4611686018427387904 ≤ b) (hb' : b ≤ 4611686018427387904) :
    Calls Try.prog 37 #[.pointer (some ⟨H, 0, none⟩), .int .i64 a, .int .i64 b] w fun e w' => ∃ o : Bool, e = .returned (.bool o) ∧ Dealt w w' H (N + 1) := by
  go_enter Try.func37, Try.ntmps37
  go_wp2_with fail
  refine (upto_any H N (b - 1) _ h hN (by omega)).mono ?_
  rintro e w1 ⟨n, rfl, _, hd⟩
  have hd1 := Lib.hid hd
  clear hd h
  go_wp2
  go_ret
  exact ⟨_, rfl, hd1.out⟩
theorem of_any (H N : Nat) (f : Int) (B : Option Addr) (m d : Nat) (L : List Int) (w : World) (h : Hd w H N) (hN : N ≤ 4611686018427387904) (hL : Ints w B m L) (hB : OffH B H) (hm : m ≤ 4611686018427387904) :
    Calls Try.prog 23 #[.pointer (some ⟨H, 0, none⟩), .int .i64 f, .slice B m d] w fun e w' => ∃ x : Int, e = .returned (.int .i64 x) ∧ (x = f ∨ x ∈ L) ∧ Dealt w w' H (N + 1) := by
  have HL := Lib.hid hL
  go_enter Try.func23, Try.ntmps23
  go_wp2_with fail
  refine (upto_any H N m _ h hN (by omega)).mono ?_
  rintro e w1 ⟨n, rfl, hn, hd⟩
  have hd1 := Lib.hid hd
  have hL1 := hL.dealt hd hB
  clear hd h hL
  by_cases h0 : n = 0
  · subst h0
    go_wp2
    go_ret
    exact ⟨_, rfl, .inl rfl, hd1.out⟩
  · have hnm : n ≤ m := by omega
    obtain ⟨k, rfl⟩ : ∃ k, n = k + 1 := ⟨n - 1, by omega⟩
    obtain ⟨b, off, x, rfl, hb, hx, hc⟩ := Ints.get hL1 (show k < m by omega)
    have HX := Lib.hid hx
    clear hx
    have e1 : ((k + 1 : Nat) : Int) = (k : Int) + 1 := by omega
    rw [e1]
    clear e1 hn h0
    have hk1 : (k : Int) < (m : Int) := by omega
    have hk2 : (k : Int) ≤ 4611686018427387904 := by omega
    go_wp2
    go_ret
    exact ⟨_, rfl, .inr (List.mem_of_getElem? HX.out), hd1.out⟩

theorem newHand_any (A : Option Addr) (n c : Nat) (l : List Int) (w : World) (hl : Ints w A n l) (hn : n ≤ 9223372036854775807) :
    Calls Try.prog 5 #[.slice A n c] w fun e w' => e = .returned (.pointer (some ⟨w.heap.size, 0, none⟩)) ∧ Hd w' w.heap.size 0 ∧ Below w.heap.size w w' ∧ w'.heap.size = w.heap.size + 1 := by
  have HL := Lib.hid hl
  clear hl
  go_enter Try.func5, Try.ntmps5
  go_wp2
  go_ret
  refine ⟨rfl, ⟨A, n, c, 0, 88172645463325252, alloc_at rfl, hn, by omega, by omega, fun k hk => ?_⟩, bal0 _ _, by simp⟩
  obtain ⟨b, off, x, hA, hb, hx, hc⟩ := Ints.get HL.out hk
  exact ⟨b, off, x, hA, hb, bcell hc (bal0 w _) (Nat.le_refl _)⟩
theorem Dealt.alloc {w w' : World} {H N : Nat} (h : Dealt w w' H N) (o : Obj) : Dealt w (w'.alloc o) H N :=
  ⟨h.hd.below (bal0 w' o) h.hd.lt, h.gr.trans (World.grownBy_alloc _ _ _)⟩
theorem Dealt.set {w w' : World} {H N : Nat} (h : Dealt w w' H N) {a : Addr} (hH : H < a.block) (ha : w.heap.size ≤ a.block) (v : Value) : Dealt w (w'.setCell a v) H N := by
  refine ⟨h.hd.kept fun j hj => Below.heap_setCell _ _ _ _ (by omega), ⟨h.gr.os, h.gr.tape, h.gr.output, by simpa using h.gr.size, fun j hj hne => ?_⟩⟩
  exact (Below.heap_setCell _ _ _ _ (by omega)).trans (h.gr.block j hj hne)
theorem Dealt.drewN {w w' : World} {H N : Nat} (h : Dealt w w' H N) (k : Nat) : Dealt w (w'.drewN k) H N := ⟨h.hd, ⟨h.gr.os, h.gr.tape, h.gr.output, h.gr.size, h.gr.block⟩⟩
theorem Dealt.less {w w' : World} {H N B : Nat} (h : Dealt w w' H N) {w'' : World} (hb : Below B w' w'') (hB : w'.heap.size ≤ B) : Dealt w w'' H N :=
  ⟨h.hd.below hb (Nat.lt_of_lt_of_le h.hd.lt hB), ⟨hb.os.trans h.gr.os, hb.tape.trans h.gr.tape, hb.output.trans h.gr.output, Nat.le_trans h.gr.size hb.size, fun j hj hne => (hb.block j (Nat.lt_of_lt_of_le hj (Nat.le_trans h.gr.size hB))).trans (h.gr.block j hj hne)⟩⟩
theorem Hd.alloc {w : World} {H N : Nat} (h : Hd w H N) (o : Obj) : Hd (w.alloc o) H N := h.below (bal0 w o) h.lt
theorem offH_new {w : World} {H N : Nat} (h : Hd w H N) {k : Nat} (hk : w.heap.size ≤ k) (off : Nat) : OffH (some ⟨k, off, none⟩) H := fun b o e => by
  have := h.lt
  cases e
  omega
end Go.Proofs.Ytgnjknihgjdedaa
namespace Go.Proofs.Ytgnjknihgjdedaa
open Go.RowKit
set_option linter.unusedVariables false
set_option linter.unusedSimpArgs false

theorem bit_i64 (l p : Nat) (hl : l < 256) (hp : p ≤ 7) : (bits BinOp.and IntKind.i64 ((l : Int) / 2 ^ p) 1 == 1) = l.testBit p := by
  have e2 : (l : Int) / 2 ^ p = ((l / 2 ^ p : Nat) : Int) := by simp
  rw [e2]
  have hle : l / 2 ^ p ≤ l := Nat.div_le_self _ _
  show (IntKind.i64.wrap ((BitVec.ofInt 64 ((l / 2 ^ p : Nat) : Int) &&& BitVec.ofInt 64 ((1 : Nat) : Int)).toNat : Int) == 1) = _
  rw [BitVec.toNat_and, ofInt_u64 _ (by omega), ofInt_u64 1 (by omega), Nat.and_one_is_mod, Nat.testBit_eq_decide_div_mod_eq]
  have h2 := Nat.mod_lt (l / 2 ^ p) (show 0 < 2 by omega)
  rw [IntWalk.i64_in _ (by omega)]
  rw [Bool.eq_iff_iff]
  simp only [beq_iff_eq, decide_eq_true_eq]
  omega
theorem bit_kit (n : Int) (b : Nat) (w : World) (hn : 0 ≤ n) (hn' : n ≤ 255) (hb : b ≤ 7) :
    Calls Try.prog 45 #[.int .i64 n, .int .i64 b] w fun e w' => e = .returned (.bool (bit n b)) ∧ w = w' := by
  obtain ⟨l, rfl⟩ := Int.eq_ofNat_of_zero_le hn
  have h := bit_i64 l b (by omega) hb
  have hb' : (b : Int) ≤ 7 := by omega
  have hl : l < 256 := by omega
  obtain rfl | rfl | rfl | rfl | rfl | rfl | rfl | rfl : b = 0 ∨ b = 1 ∨ b = 2 ∨ b = 3 ∨ b = 4 ∨ b = 5 ∨ b = 6 ∨ b = 7 := by omega
  all_goals
    have H := Lib.hid h
    clear h
    go_enter Try.func45, Try.ntmps45
    go_wp2
    go_ret
    refine ⟨ret_bool ?_, rfl⟩
    unfold bit
    rw [Int.toNat_natCast, ← H.out]
    first | rfl | simp
theorem wear_tab : ∀ n : Fin 256, ∀ b : Fin 8, ∀ l r : Bool, onI (n.1 : Int) l r = n.1 → n.1.testBit b.1 = false → ((b.1 < 4 ∧ l = false) ∨ (4 ≤ b.1 ∧ r = false)) → n.1 + 2 ^ b.1 < 256 ∧ popI ((n.1 + 2 ^ b.1 : Nat) : Int) = popI (n.1 : Int) + 1 ∧ onI ((n.1 + 2 ^ b.1 : Nat) : Int) l r = ((n.1 + 2 ^ b.1 : Nat) : Int) := by
  decide +kernel
theorem wear_add {n : Int} {b : Nat} {l r : Bool} (h0 : 0 ≤ n) (h1 : n ≤ 255) (hb : b ≤ 7) (ho : onI n l r = n) (hz : bit n b = false) (he : (b < 4 ∧ l = false) ∨ (4 ≤ b ∧ r = false)) :
    n + (2 ^ b : Nat) ≤ 255 ∧ popI (n + (2 ^ b : Nat)) = popI n + 1 ∧ onI (n + (2 ^ b : Nat)) l r = n + (2 ^ b : Nat) := by
  obtain ⟨k, rfl⟩ := Int.eq_ofNat_of_zero_le h0
  have h := wear_tab ⟨k, by omega⟩ ⟨b, by omega⟩ l r ho (by unfold bit at hz; simpa using hz) he
  have e : ((k : Int) + (2 ^ b : Nat)) = ((k + 2 ^ b : Nat) : Int) := by simp
  rw [e]
  exact ⟨by have := h.1; dsimp only at this; omega, h.2.1, h.2.2⟩
def WearRes (w : World) (H N o : Nat) (e : Ending) (w' : World) : Prop := ∃ s : Sg, e = .returned (vSg s) ∧ seen s 0 0 = 0 ∧ popI s.n ≤ o ∧ Dealt w w' H N
theorem seen_wear {n : Int} {l r : Bool} {b p : Int} (h0 : 0 ≤ n) (h1 : n ≤ 255) (ho : onI n l r = n) (hb : b = 0 ∨ b = -1) (hp : p = 0 ∨ p = -1) : seen ⟨n, l, r, b, p⟩ 0 0 = 0 := by
  unfold seen
  dsimp only
  rw [if_neg (by simp [btw_iff, h0, h1]), if_neg (by simp [ho]), if_neg, if_neg]
  · rcases hp with rfl | rfl <;> simp [btw]
  · rcases hb with rfl | rfl <;> simp [btw]
theorem set5_0 {W : World} {g : Nat} {t : TypeId} {a b c d e z : Value} (h : W.heap[g]? = some (.cells #[a, b, c, d, e] t (0, 0))) : (W.setCell ⟨g, 0, none⟩ z).heap[g]? = some (.cells #[z, b, c, d, e] t (0, 0)) := by
  simp [World.setCell, Array.getElem?_modify, h]
theorem set5_3 {W : World} {g : Nat} {t : TypeId} {a b c d e z : Value} (h : W.heap[g]? = some (.cells #[a, b, c, d, e] t (0, 0))) : (W.setCell ⟨g, 3, none⟩ z).heap[g]? = some (.cells #[a, b, c, z, e] t (0, 0)) := by
  simp [World.setCell, Array.getElem?_modify, h]
set_option maxRecDepth 100000 in
set_option maxHeartbeats 2000000 in
theorem wearOf_any (H N o : Nat) (w : World) (h : Hd w H N) (hN : N ≤ 4611686018427387000) (ho : o ≤ 100) :
    Calls Try.prog 16 #[.pointer (some ⟨H, 0, none⟩), .int .i64 o] w (WearRes w H (N + 110) o) := by
  have hH := h.lt
  have hzz : Value.agg #[Value.int .i64 0, .bool false, .bool false, .int .i64 0, .int .i64 0] = Value.agg #[Value.int .i64 0, .bool false, .bool false, .int .i64 0, .int .i64 0] := rfl
  clear hzz
  go_enter Try.func16, Try.ntmps16
  go_wp2_with fail
  have hD0 := (Dealt.refl h).alloc (Obj.cells #[Value.int .i64 0, .bool false, .bool false, .int .i64 0, .int .i64 0] 52)
  have br0 : (w.alloc (Obj.cells #[Value.int .i64 0, .bool false, .bool false, .int .i64 0, .int .i64 0] 52)).heap[w.heap.size]? = some (Obj.cells #[Value.int .i64 0, .bool false, .bool false, .int .i64 0, .int .i64 0] 52 (0, 0)) := alloc_at rfl
  refine (odds_any H N 1 4 _ hD0.hd (by omega) (by omega) (by omega)).mono ?_
  rintro e w1 ⟨sl, rfl, hd1⟩
  have hD1 := hD0.trans hd1
  have br1 := hd1.blk br0 (by omega)
  clear hd1 hD0 br0 h
  go_wp2_with fail
  refine (odds_any H (N + 1) 1 4 _ hD1.hd (by omega) (by omega) (by omega)).mono ?_
  rintro e w2 ⟨sr, rfl, hd2⟩
  have hD2 := (hD1.trans hd2).alloc (Obj.cells #[Value.int .i64 0, .bool sl, .bool sr, .int .i64 0, .int .i64 0] 52)
  have br2 := hblk_alloc (hd2.blk br1 (by omega)) (Obj.cells #[Value.int .i64 0, .bool sl, .bool sr, .int .i64 0, .int .i64 0] 52)
  have bs2 : (w2.alloc (Obj.cells #[Value.int .i64 0, .bool sl, .bool sr, .int .i64 0, .int .i64 0] 52)).heap[w2.heap.size]? = some (Obj.cells #[Value.int .i64 0, .bool sl, .bool sr, .int .i64 0, .int .i64 0] 52 (0, 0)) := alloc_at rfl
  have hz : w.heap.size < w2.heap.size := Nat.lt_of_lt_of_le (heap_lt br1) hd2.size
  clear hd2 hD1 br1
  go_wp2_with fail
  refine (upto_any H (N + 1 + 1) o _ hD2.hd (by omega) (by omega)).mono ?_
  rintro e w3 ⟨n0, rfl, hn0, hd3⟩
  have hD3 := hD2.trans hd3
  have br3 := hd3.blk br2 (by omega)
  have bs3 := hd3.blk bs2 (by omega)
  have hno : n0 ≤ o := by omega
  clear hd3 hD2 br2 bs2 hn0
  go_wp2_with fail
  go_loopg [6] n0 (fun g i wr => i = .int .i64 g ∧ g ≤ n0 ∧ ∃ n : Int, 0 ≤ n ∧ n ≤ 255 ∧ onI n sl sr = n ∧ popI n + g ≤ n0 ∧ wr.heap[w2.heap.size]? = some (Obj.cells #[Value.int .i64 n, .bool sl, .bool sr, .int .i64 0, .int .i64 0] 52 (0, 0)) ∧
    wr.heap[w.heap.size]? = some (Obj.cells #[Value.int .i64 0, .bool false, .bool false, .int .i64 0, .int .i64 0] 52 (0, 0)) ∧ Dealt w wr H (N + 3 + (n0 - g)))
  case atStart => exact ⟨rfl, Nat.le_refl _, 0, by omega, by omega, by simp [onI], by (have : popI 0 = 0 := by decide); omega, bs3, br3, hD3.mono (by omega)⟩
  case round =>
    obtain ⟨rfl, hgn, n, hn0, hn1, hon, hpop, bs, br, hD⟩ := hrel
    have HON := Lib.hid (And.intro hon hpop)
    clear hon hpop
    by_cases hg : 0 < gk
    · have hg' : (0 : Int) < (gk : Int) := by omega
      go_wp2_with fail
      refine (upto_any H _ 7 _ hD.hd (by omega) (by omega)).mono ?_
      rintro e w4 ⟨b, rfl, hb, hd4⟩
      have hD4 := hD.trans hd4
      have br4 := hd4.blk br (by omega)
      have bs4 := hd4.blk bs (by omega)
      have hb7 : b ≤ 7 := by omega
      clear hd4 hD br bs hb
      obtain ⟨s0, s1, s2, s3, s4⟩ := blk5 bs4
      have f0 := frz bs4 0
      have HO := Lib.hid (And.intro hD4 (And.intro br4 bs4))
      clear hD4 br4 bs4
      go_wp2_with fail
      refine (bit_kit n b _ hn0 hn1 hb7).mono ?_
      rintro e w5 ⟨rfl, rfl⟩
      have fin0 : Handed = Handed := rfl
      clear fin0
      cases hbit : bit n b
      · by_cases hb4 : b < 4
        · have hb4' : (b : Int) < 4 := by omega
          have hb4c : ¬ (4 : Int) ≤ (b : Int) := by omega
          cases sl
          · have hw := wear_add hn0 hn1 hb7 HON.out.1 hbit (.inl ⟨hb4, rfl⟩)
            clear hbit
            obtain rfl | rfl | rfl | rfl : b = 0 ∨ b = 1 ∨ b = 2 ∨ b = 3 := by omega
            all_goals
              first | rw [show (((2 : Nat) ^ 0 : Nat) : Int) = 1 from rfl] at hw | rw [show (((2 : Nat) ^ 1 : Nat) : Int) = 2 from rfl] at hw | rw [show (((2 : Nat) ^ 2 : Nat) : Int) = 4 from rfl] at hw | rw [show (((2 : Nat) ^ 3 : Nat) : Int) = 8 from rfl] at hw | rw [show (((2 : Nat) ^ 4 : Nat) : Int) = 16 from rfl] at hw | rw [show (((2 : Nat) ^ 5 : Nat) : Int) = 32 from rfl] at hw | rw [show (((2 : Nat) ^ 6 : Nat) : Int) = 64 from rfl] at hw | rw [show (((2 : Nat) ^ 7 : Nat) : Int) = 128 from rfl] at hw
              have hle := hw.1
              have HW := Lib.hid hw.2
              clear hw
              go_wp2
              go_roundg (gk - 1)
              case measure => omega
              case rel =>
                obtain ⟨hD4, br4, bs4⟩ := HO.out
                refine ⟨by congr 1; omega, by omega, _, ?_, ?_, HW.out.2, ?_, set5_0 bs4, (Below.heap_setCell _ ⟨w2.heap.size, 0, none⟩ _ _ (by dsimp; omega)).trans br4, (hD4.mono (by omega)).set (by dsimp; omega) (by dsimp; omega) _⟩
                · omega
                · omega
                · rw [HW.out.1]; have := HON.out.2; omega
          · go_wp2
            go_roundg (gk - 1)
            case measure => omega
            case rel => exact ⟨by congr 1; omega, by omega, n, hn0, hn1, HON.out.1, by have := HON.out.2; omega, HO.out.2.2, HO.out.2.1, HO.out.1.mono (by omega)⟩
        · have hb4' : ¬ (b : Int) < 4 := by omega
          have hb4c : (4 : Int) ≤ (b : Int) := by omega
          cases sr
          · have hw := wear_add hn0 hn1 hb7 HON.out.1 hbit (.inr ⟨by omega, rfl⟩)
            clear hbit
            obtain rfl | rfl | rfl | rfl : b = 4 ∨ b = 5 ∨ b = 6 ∨ b = 7 := by omega
            all_goals
              first | rw [show (((2 : Nat) ^ 0 : Nat) : Int) = 1 from rfl] at hw | rw [show (((2 : Nat) ^ 1 : Nat) : Int) = 2 from rfl] at hw | rw [show (((2 : Nat) ^ 2 : Nat) : Int) = 4 from rfl] at hw | rw [show (((2 : Nat) ^ 3 : Nat) : Int) = 8 from rfl] at hw | rw [show (((2 : Nat) ^ 4 : Nat) : Int) = 16 from rfl] at hw | rw [show (((2 : Nat) ^ 5 : Nat) : Int) = 32 from rfl] at hw | rw [show (((2 : Nat) ^ 6 : Nat) : Int) = 64 from rfl] at hw | rw [show (((2 : Nat) ^ 7 : Nat) : Int) = 128 from rfl] at hw
              have hle := hw.1
              have HW := Lib.hid hw.2
              clear hw
              go_wp2
              go_roundg (gk - 1)
              case measure => omega
              case rel =>
                obtain ⟨hD4, br4, bs4⟩ := HO.out
                refine ⟨by congr 1; omega, by omega, _, ?_, ?_, HW.out.2, ?_, set5_0 bs4, (Below.heap_setCell _ ⟨w2.heap.size, 0, none⟩ _ _ (by dsimp; omega)).trans br4, (hD4.mono (by omega)).set (by dsimp; omega) (by dsimp; omega) _⟩
                · omega
                · omega
                · rw [HW.out.1]; have := HON.out.2; omega
          · go_wp2
            go_roundg (gk - 1)
            case measure => omega
            case rel => exact ⟨by congr 1; omega, by omega, n, hn0, hn1, HON.out.1, by have := HON.out.2; omega, HO.out.2.2, HO.out.2.1, HO.out.1.mono (by omega)⟩
      · go_wp2
        go_roundg (gk - 1)
        case measure => omega
        case rel =>
          refine ⟨by congr 1; omega, by omega, n, hn0, hn1, HON.out.1, by have := HON.out.2; omega, HO.out.2.2, HO.out.2.1, HO.out.1.mono (by omega)⟩
    · obtain rfl : gk = 0 := by omega
      go_wp2_with fail
      refine (odds_any H _ 1 3 _ hD.hd (by omega) (by omega) (by omega)).mono ?_
      rintro e w4 ⟨o1, rfl, hd4⟩
      have hD4 := hD.trans hd4
      have br4 := hd4.blk br (by omega)
      have bs4 := hd4.blk bs (by omega)
      clear hd4 hD br bs
      have hzs := heap_lt bs4
      cases o1
      · have hD5 := hD4
        have br5 := br4
        have bs5 := bs4
        clear hD4 br4 bs4
        go_wp2_with fail
        refine (odds_any H _ 1 3 _ hD5.hd (by omega) (by omega) (by omega)).mono ?_
        rintro e w6 ⟨o2, rfl, hd6⟩
        have hD6 := hD5.trans hd6
        have br6 := hd6.blk br5 (by omega)
        have bs6 := hd6.blk bs5 (by omega)
        clear hd6 hD5 br5 bs5
        have z6 := heap_lt bs6
        have fr0 := frz br6 0
        have fr1 := frz br6 1
        have fr2 := frz br6 2
        have fr3 := frz br6 3
        have fr4 := frz br6 4
        have f4 := frz bs6 4
        obtain ⟨s0, s1, s2, s3, s4⟩ := blk5 bs6
        obtain ⟨r0, r1, r2, r3, r4⟩ := blk5 br6
        have HD := Lib.hid hD6
        clear hD6 bs6 br6
        cases o2
        · go_wp2
          refine bodyPost_ret (v := vSg ⟨n, sl, sr, 0, 0⟩) (by simp [results, Try.f16, go_sem, vSg, s0, s1, s2, s3, s4, r0, r1, r2, r3, r4]) rfl ⟨⟨n, sl, sr, 0, 0⟩, rfl, seen_wear hn0 hn1 HON.out.1 (by omega) (by omega), by have := HON.out.2; dsimp only; omega, ?_⟩
          have hD := HD.out.mono (by omega : N + 3 + (n0 - 0) + 1 + 1 ≤ N + 110)
          exact ((((hD.set (by dsimp; omega) (by dsimp; omega) _).set (by dsimp; omega) (by dsimp; omega) _).set (by dsimp; omega) (by dsimp; omega) _).set (by dsimp; omega) (by dsimp; omega) _).set (by dsimp; omega) (by dsimp; omega) _
        · go_wp2
          refine bodyPost_ret (v := vSg ⟨n, sl, sr, 0, -1⟩) (by simp [results, Try.f16, go_sem, vSg, s0, s1, s2, s3, s4, r0, r1, r2, r3, r4]) rfl ⟨⟨n, sl, sr, 0, -1⟩, rfl, seen_wear hn0 hn1 HON.out.1 (by omega) (by omega), by have := HON.out.2; dsimp only; omega, ?_⟩
          have hD := HD.out.mono (by omega : N + 3 + (n0 - 0) + 1 + 1 ≤ N + 110)
          exact (((((hD.set (by dsimp; omega) (by dsimp; omega) _).set (by dsimp; omega) (by dsimp; omega) _).set (by dsimp; omega) (by dsimp; omega) _).set (by dsimp; omega) (by dsimp; omega) _).set (by dsimp; omega) (by dsimp; omega) _).set (by dsimp; omega) (by dsimp; omega) _
      · have f3 := frz bs4 3
        obtain ⟨q0, q1, q2, q3, q4⟩ := blk5 bs4
        go_wp2_with fail
        obtain ⟨w5, hW⟩ : ∃ w5, w5 = w4.setCell ⟨w2.heap.size, 3, none⟩ (.int .i64 (-1)) := ⟨_, rfl⟩
        rw [← hW]
        have hD5 : Dealt w w5 H (N + 3 + (n0 - 0) + 1) := by rw [hW]; exact hD4.set (by dsimp; omega) (by dsimp; omega) _
        have bs5 : w5.heap[w2.heap.size]? = some (Obj.cells #[Value.int .i64 n, .bool sl, .bool sr, .int .i64 (-1), .int .i64 0] 52 (0, 0)) := by rw [hW]; exact set5_3 bs4
        have br5 : w5.heap[w.heap.size]? = some (Obj.cells #[Value.int .i64 0, .bool false, .bool false, .int .i64 0, .int .i64 0] 52 (0, 0)) := by rw [hW]; exact (Below.heap_setCell _ ⟨w2.heap.size, 3, none⟩ _ _ (by dsimp; omega)).trans br4
        clear hW f3 q0 q1 q2 q3 q4 bs4 br4 hD4
        refine (odds_any H _ 1 3 _ hD5.hd (by omega) (by omega) (by omega)).mono ?_
        rintro e w6 ⟨o2, rfl, hd6⟩
        have hD6 := hD5.trans hd6
        have br6 := hd6.blk br5 (by omega)
        have bs6 := hd6.blk bs5 (by omega)
        clear hd6 hD5 br5 bs5
        have z6 := heap_lt bs6
        have fr0 := frz br6 0
        have fr1 := frz br6 1
        have fr2 := frz br6 2
        have fr3 := frz br6 3
        have fr4 := frz br6 4
        have f4 := frz bs6 4
        obtain ⟨s0, s1, s2, s3, s4⟩ := blk5 bs6
        obtain ⟨r0, r1, r2, r3, r4⟩ := blk5 br6
        have HD := Lib.hid hD6
        clear hD6 bs6 br6
        cases o2
        · go_wp2
          refine bodyPost_ret (v := vSg ⟨n, sl, sr, -1, 0⟩) (by simp [results, Try.f16, go_sem, vSg, s0, s1, s2, s3, s4, r0, r1, r2, r3, r4]) rfl ⟨⟨n, sl, sr, -1, 0⟩, rfl, seen_wear hn0 hn1 HON.out.1 (by omega) (by omega), by have := HON.out.2; dsimp only; omega, ?_⟩
          have hD := HD.out.mono (by omega : N + 3 + (n0 - 0) + 1 + 1 ≤ N + 110)
          exact ((((hD.set (by dsimp; omega) (by dsimp; omega) _).set (by dsimp; omega) (by dsimp; omega) _).set (by dsimp; omega) (by dsimp; omega) _).set (by dsimp; omega) (by dsimp; omega) _).set (by dsimp; omega) (by dsimp; omega) _
        · go_wp2
          refine bodyPost_ret (v := vSg ⟨n, sl, sr, -1, -1⟩) (by simp [results, Try.f16, go_sem, vSg, s0, s1, s2, s3, s4, r0, r1, r2, r3, r4]) rfl ⟨⟨n, sl, sr, -1, -1⟩, rfl, seen_wear hn0 hn1 HON.out.1 (by omega) (by omega), by have := HON.out.2; dsimp only; omega, ?_⟩
          have hD := HD.out.mono (by omega : N + 3 + (n0 - 0) + 1 + 1 ≤ N + 110)
          exact (((((hD.set (by dsimp; omega) (by dsimp; omega) _).set (by dsimp; omega) (by dsimp; omega) _).set (by dsimp; omega) (by dsimp; omega) _).set (by dsimp; omega) (by dsimp; omega) _).set (by dsimp; omega) (by dsimp; omega) _).set (by dsimp; omega) (by dsimp; omega) _
end Go.Proofs.Ytgnjknihgjdedaa
namespace Go.Proofs.Ytgnjknihgjdedaa
open Go.RowKit
set_option linter.unusedVariables false
set_option linter.unusedSimpArgs false

def mk8 : List Int := [1, 2, 16, 4, 32, 8, 64, 128]
theorem mk8_le : ∀ i, i < 9 → (mk8.take i).sum ≤ 255 := by decide
theorem sum_take {l : List Int} {i : Nat} {x : Int} (h : l[i]? = some x) : (l.take (i + 1)).sum = (l.take i).sum + x := by
  rw [List.take_add_one, h]; simp
theorem mkOk_mk {n b p : Int} (h1 : 0 ≤ n ∧ n ≤ 255) (h2 : 0 ≤ b ∧ b ≤ 9) (h3 : 0 ≤ p ∧ p ≤ 6) : mkOk ⟨n, b, p⟩ = true := mkOk_iff.2 ⟨h1, h2, h3⟩
theorem mk8_step : ∀ i, i < 8 → (mk8.take i).sum ≤ (mk8.take (i + 1)).sum := by decide
def MkRes (w : World) (H N : Nat) (e : Ending) (w' : World) : Prop := ∃ m : Mk, e = .returned (vMk m) ∧ mkOk m = true ∧ Dealt w w' H N

set_option maxRecDepth 100000 in
set_option maxHeartbeats 2000000 in
theorem markOf_any (H N : Nat) (w : World) (h : Hd w H N) (hN : N ≤ 4611686018427387000) :
    Calls Try.prog 11 #[.pointer (some ⟨H, 0, none⟩)] w (MkRes w H (N + 16)) := by
  have hH := h.lt
  go_enter Try.func11, Try.ntmps11
  go_wp2_with fail
  refine (upto_any H N 9 _ (h.alloc _) (by omega) (by omega)).mono ?_
  rintro e w1 ⟨n1, rfl, hn1, hd1⟩
  have hD1 := (((Dealt.refl h).mono (by omega : N ≤ N + 1)).alloc (Obj.cells #[Value.int .i64 0, .int .i64 0, .int .i64 0] 44)).trans hd1
  have br1 := hd1.blk (alloc_at rfl : (w.alloc (Obj.cells #[Value.int .i64 0, .int .i64 0, .int .i64 0] 44)).heap[w.heap.size]? = some _) (by omega)
  clear hd1 h
  go_wp2_with fail
  refine (of_any H (N + 1) 0 (some ⟨w1.heap.size, 0, none⟩) 3 3 [0, 1, n1] _ (hD1.hd.alloc _) (by omega) (ints3 _ _ _ _ _) (offH_new hD1.hd (Nat.le_refl _) 0) (by omega)).mono ?_
  rintro e w2 ⟨b, rfl, hb, hd2⟩
  have hD2 := (hD1.mono (by omega : N + 1 ≤ N + 2)).alloc (Obj.cells #[Value.int .i64 0, .int .i64 1, .int .i64 n1] 3) |>.trans hd2
  have br2 := hd2.blk (hblk_alloc br1 _) (by omega)
  have hb' : 0 ≤ b ∧ b ≤ 9 := by
    simp only [List.mem_cons, List.not_mem_nil, or_false] at hb
    omega
  clear hd2 hD1 hb hn1 br1
  go_wp2_with fail
  refine (upto_any H (N + 2) 6 _ hD2.hd (by omega) (by omega)).mono ?_
  rintro e w3 ⟨n2, rfl, hn2, hd3⟩
  have hD3 := hD2.trans hd3
  have br3 := hd3.blk br2 (by omega)
  clear hd3 hD2 br2
  go_wp2_with fail
  refine (of_any H (N + 2 + 1) 0 (some ⟨w3.heap.size, 0, none⟩) 4 4 [0, 1, 2, n2] _ (hD3.hd.alloc _) (by omega) (Sl.lit w3 _ _ [0, 1, 2, (n2 : Int)] rfl lenInt (by simp [maxLen])) (offH_new hD3.hd (Nat.le_refl _) 0) (by omega)).mono ?_
  rintro e w4 ⟨p, rfl, hp, hd4⟩
  have hD4 := (hD3.mono (by omega : N + 2 + 1 ≤ N + 4)).alloc (Obj.cells #[Value.int .i64 0, .int .i64 1, .int .i64 2, .int .i64 n2] 3) |>.trans hd4
  have br4 := hd4.blk (hblk_alloc br3 _) (by omega)
  have hp' : 0 ≤ p ∧ p ≤ 6 := by
    simp only [List.mem_cons, List.not_mem_nil, or_false] at hp
    omega
  clear hd4 hD3 hp hn2 br3
  go_wp2_with fail
  have hD5 := hD4.alloc (Obj.cells #[Value.int .i64 0, .int .i64 b, .int .i64 p] 44)
  have br5 := hblk_alloc br4 (Obj.cells #[Value.int .i64 0, .int .i64 b, .int .i64 p] 44)
  have bm5 : (w4.alloc (Obj.cells #[Value.int .i64 0, .int .i64 b, .int .i64 p] 44)).heap[w4.heap.size]? = some (Obj.cells #[Value.int .i64 0, .int .i64 b, .int .i64 p] 44 (0, 0)) := alloc_at rfl
  have hz4 : w.heap.size < w4.heap.size := heap_lt br4
  refine (odds_any H (N + 2 + 1 + 1) 1 4 _ hD5.hd (by omega) (by omega) (by omega)).mono ?_
  rintro e w6 ⟨o, rfl, hd6⟩
  have hD6 := hD5.trans hd6
  have br6 := hd6.blk br5 (by omega)
  have bm6 := hd6.blk bm5 (by omega)
  clear hd6 hD5 hD4 br5 bm5 br4
  cases o
  · go_wp2_with fail
    obtain ⟨W, hW⟩ : ∃ W, W = w6.alloc (Obj.cells #[Value.int .i64 1, .int .i64 2, .int .i64 16, .int .i64 4, .int .i64 32, .int .i64 8, .int .i64 64, .int .i64 128] 3) := ⟨_, rfl⟩
    rw [← hW]
    have hDW : Dealt w W H (N + 2 + 1 + 1 + 1) := by rw [hW]; exact hD6.alloc _
    have brW : W.heap[w.heap.size]? = some (Obj.cells #[Value.int .i64 0, .int .i64 0, .int .i64 0] 44 (0, 0)) := by rw [hW]; exact hblk_alloc br6 _
    have bmW : W.heap[w4.heap.size]? = some (Obj.cells #[Value.int .i64 0, .int .i64 b, .int .i64 p] 44 (0, 0)) := by rw [hW]; exact hblk_alloc bm6 _
    have hLW : Ints W (some ⟨w6.heap.size, 0, none⟩) 8 mk8 := by rw [hW]; exact Sl.lit w6 _ _ mk8 rfl lenInt (by decide)
    have hbW : W.heap[w6.heap.size]? = some (Obj.cells #[Value.int .i64 1, .int .i64 2, .int .i64 16, .int .i64 4, .int .i64 32, .int .i64 8, .int .i64 64, .int .i64 128] 3 (0, 0)) := by rw [hW]; exact alloc_at rfl
    have hz6 : w4.heap.size < w6.heap.size := heap_lt bm6
    clear hW br6 bm6 hD6
    go_loopg [5] 8 (fun g i wr => ∃ k : Nat, k + g = 8 ∧ i = .int .i64 k ∧ ∃ x : Int, 0 ≤ x ∧ x ≤ (mk8.take k).sum ∧ wr.heap[w4.heap.size]? = some (Obj.cells #[Value.int .i64 x, .int .i64 b, .int .i64 p] 44 (0, 0)) ∧
      wr.heap[w.heap.size]? = some (Obj.cells #[Value.int .i64 0, .int .i64 0, .int .i64 0] 44 (0, 0)) ∧ Ints wr (some ⟨w6.heap.size, 0, none⟩) 8 mk8 ∧ Dealt w wr H (N + 5 + k))
    case atStart => exact ⟨0, by omega, rfl, 0, by omega, by decide, bmW, brW, hLW, hDW⟩
    case round =>
      obtain ⟨k, hk, rfl, x, hx0, hx1, bmr, brr, hLr, hDr⟩ := hrel
      have HK := Lib.hid hk
      have hk8 : k ≤ 8 := by omega
      clear hk
      by_cases hlt : k < 8
      · have hk3 : (k : Int) + 3 ≤ 11 := by omega
        go_wp2_with fail
        refine (odds_any H (N + 5 + k) 1 (k + 3) _ hDr.hd (by omega) (by omega) (by omega)).mono ?_
        rintro e w8 ⟨o, rfl, hd8⟩
        have bm8 := hd8.blk bmr (by omega)
        have br8 := hd8.blk brr (by omega)
        have hL8 := hLr.dealt hd8 (fun b' off' e => by cases e; omega)
        have hD8 := hDr.trans hd8
        clear hd8 bmr brr hLr hDr
        have hm8 := mk8_le k (by omega)
        cases o
        · go_wp2
          go_roundg (gk - 1)
          case measure => have := HK.out; omega
          case rel =>
            have h9 := mk8_step k hlt
            exact ⟨k + 1, by have := HK.out; omega, by go_num, x, hx0, by omega, bm8, br8, hL8, hD8.mono (by omega)⟩
        · obtain ⟨b8, off8, y, hA8, hb8, hy, q0⟩ := Ints.get hL8 hlt
          cases hA8
          rw [Nat.zero_add] at q0
          have hs := sum_take hy
          have hm9 := mk8_le (k + 1) (by omega)
          have hy0 : 0 ≤ y := by
            have : ∀ z ∈ mk8, 0 ≤ z := by decide
            exact this y (List.mem_of_getElem? hy)
          have HS := Lib.hid hs
          have hxy : x + y ≤ 255 := by omega
          clear hs hy
          obtain ⟨m0, m1, m2⟩ := blk3 bm8
          have fm0 := frz bm8 0
          have i0 : (0 : Int) ≤ (k : Int) := by omega
          have i1 : (k : Int) < 8 := by omega
          go_upto_region 10 with (fail)
          refine wp_region_quiet_tail (C := fun w' => ∃ n, w' = w8.drewN n) 8 (by kernel_rfl) (by kernel_rfl) ⟨1, rfl⟩ ?_
          simp only [List.take_succ_cons, List.take_zero, List.drop_succ_cons, List.drop_zero]
          repeat (quiet_step (fail))
          refine wpQuiet_nil ?_
          intro _ hw'
          obtain ⟨nq, hw''⟩ := hw'
          subst hw''
          go_wp2
          go_roundg (gk - 1)
          case measure => have := HK.out; omega
          case rel =>
            refine ⟨k + 1, by have := HK.out; omega, by go_num, x + y, by omega, by rw [HS.out]; omega, set3_0 bm8, ?_, ?_, ?_⟩
            · exact (Below.heap_setCell _ ⟨w4.heap.size, 0, none⟩ _ _ (by dsimp; omega)).trans br8
            · refine ⟨hL8.1, fun hn => ?_⟩
              obtain ⟨bb, oo, hA, hc⟩ := hL8.2 hn
              refine ⟨bb, oo, hA, fun i x hx j u hu => ?_⟩
              have h0 := hc i x hx j u hu
              cases hA
              unfold World.cell? at h0 ⊢
              rw [Below.heap_setCell _ ⟨w4.heap.size, 0, none⟩ _ _ (by dsimp; omega)]
              exact h0
            · exact ((hD8.mono (by omega : N + 5 + k + 1 ≤ N + 5 + (k + 1))).drewN nq).set (by dsimp; omega) (by dsimp; omega) _
      · obtain rfl : k = 8 := by omega
        have hm8 := mk8_le 8 (by omega)
        have fr0 := frz brr 0
        have fr1 := frz brr 1
        have fr2 := frz brr 2
        obtain ⟨m0, m1, m2⟩ := blk3 bmr
        obtain ⟨r0, r1, r2⟩ := blk3 brr
        have zr := heap_lt bmr
        have HD := Lib.hid hDr
        clear hDr
        go_wp2
        refine bodyPost_ret (v := vMk ⟨x, b, p⟩) (by simp [results, Try.f11, go_sem, vMk, m0, m1, m2, r0, r1, r2]) rfl ⟨⟨x, b, p⟩, rfl, mkOk_mk (by omega) hb' hp', ?_⟩
        have hD := HD.out.mono (by omega : N + 5 + 8 ≤ N + 16)
        exact ((hD.set (by dsimp; omega) (by dsimp; omega) _).set (by dsimp; omega) (by dsimp; omega) _).set (by dsimp; omega) (by dsimp; omega) _
  · go_wp2_with fail
    refine (upto_any H (N + 2 + 1 + 1 + 1) 255 _ hD6.hd (by omega) (by omega)).mono ?_
    rintro e w7 ⟨n3, rfl, hn3, hd7⟩
    have hD7 := hD6.trans hd7
    have br7 := hd7.blk br6 (by omega)
    have bm7 := hd7.blk bm6 (by omega)
    clear hd7 hD6 br6 bm6
    have fm0 := frz bm7 0
    have fr0 := frz br7 0
    have fr1 := frz br7 1
    have fr2 := frz br7 2
    obtain ⟨m0, m1, m2⟩ := blk3 bm7
    obtain ⟨r0, r1, r2⟩ := blk3 br7
    have z7 := heap_lt bm7
    have HD := Lib.hid hD7
    clear hD7
    go_wp2
    refine bodyPost_ret (v := vMk ⟨n3, b, p⟩) (by simp [results, Try.f11, go_sem, vMk, m0, m1, m2, r0, r1, r2]) rfl ⟨⟨n3, b, p⟩, rfl, mkOk_mk (by omega) hb' hp', ?_⟩
    have hD := HD.out.mono (by omega : N + 2 + 1 + 1 + 1 + 1 ≤ N + 16)
    exact (((hD.set (by dsimp; omega) (by dsimp; omega) _).set (by dsimp; omega) (by dsimp; omega) _).set (by dsimp; omega) (by dsimp; omega) _).set (by dsimp; omega) (by dsimp; omega) _
end Go.Proofs.Ytgnjknihgjdedaa
namespace Go.Proofs.Ytgnjknihgjdedaa
open Go.RowKit
set_option linter.unusedVariables false
set_option linter.unusedSimpArgs false

set_option maxRecDepth 100000 in
set_option maxHeartbeats 1000000 in
theorem owner_kit (t : Int) (A : Option Addr) (n c : Nat) (l : List Mk) (m : Mk) (w : World) (hl : Marks w A n l) (hn : n ≤ maxLen) :
    Calls Try.prog 36 #[.agg #[.int .i64 t, .slice A n c], vMk m] w fun e w' => ∃ o : Int, e = .returned (.int .i64 o) ∧ ((o < 0) = (m ∉ l)) ∧ Below w.heap.size w w' := by
  have HL := Lib.hid hl.len
  unfold maxLen at hn
  obtain ⟨W, hW⟩ : ∃ W, W = (w.alloc (Obj.cells #[Value.int .i64 t, .slice A n c] 41)).alloc (Obj.cells #[Value.int .i64 m.n, .int .i64 m.b, .int .i64 m.p] 44) := ⟨_, rfl⟩
  have hB : Below w.heap.size w W := by rw [hW]; exact bal (bal0 w _) (Nat.le_refl _) _
  have b0 : W.heap[w.heap.size]? = some (Obj.cells #[Value.int .i64 t, .slice A n c] 41 (0, 0)) := by rw [hW]; exact hblk_alloc (alloc_at rfl) _
  have b1 : W.heap[w.heap.size + 1]? = some (Obj.cells #[Value.int .i64 m.n, .int .i64 m.b, .int .i64 m.p] 44 (0, 0)) := by rw [hW]; exact alloc_at (by simp)
  have hl1 := hl.below hB (Nat.le_refl _)
  obtain ⟨r0, r1⟩ := blk2 b0
  obtain ⟨m0, m1, m2⟩ := blk3 b1
  have z1 := heap_lt b1
  have HB := Lib.hid hB
  have HL1 := Lib.hid hl1
  clear hl hl1 hB b0 b1
  go_enter Try.func36, Try.ntmps36
  unfold vMk
  go_wp2_with fail
  rw [← hW]
  clear hW
  go_loopg [5] n (fun g i wr => ∃ k : Nat, k + g = n ∧ i = .int .i64 k ∧ (l.take k).contains m = false ∧ ∃ q, wr = W.drewN q)
  case atStart => exact ⟨0, by omega, rfl, by simp, 0, rfl⟩
  case round =>
    obtain ⟨k, hk, rfl, hno, q, rfl⟩ := hrel
    have HK := Lib.hid (And.intro hk hno)
    have hkn : k ≤ n := by omega
    clear hk hno
    by_cases hlt : k < n
    · obtain ⟨b, off, x, rfl, hb, hx, p0, p1, p2⟩ := Marks.get HL1.out hlt
      have HX := Lib.hid hx
      clear hx
      have i0 : (0 : Int) ≤ (k : Int) := by omega
      have i1 : (k : Int) < (n : Int) := by omega
      by_cases hxm : x = m
      · subst hxm
        go_upto_region 4 with (fail)
        go_quiet (fail)
        go_wp2
        go_ret
        refine ⟨k, rfl, ?_, below_drewN (below_drewN HB.out _) _⟩
        have := List.mem_of_getElem? HX.out
        simp only [eq_iff_iff]
        exact ⟨fun h => by omega, fun h => absurd this h⟩
      · have HNE := Lib.hid hxm
        cases e1 : (x.n == m.n) <;> cases e2 : (x.b == m.b) <;> cases e3 : (x.p == m.p)
        case true.true.true =>
          exfalso
          exact hxm (by cases x; cases m; simp at e1 e2 e3; simp [e1, e2, e3])
        all_goals
          clear hxm
          go_upto_region 4 with (fail)
          go_quiet (fail)
          go_wp2
          go_roundg (gk - 1)
          case measure => have := HK.out.1; omega
          case rel => exact ⟨k + 1, by have := HK.out.1; omega, by go_num, take_no HK.out.2 HX.out HNE.out, _, rfl⟩
    · obtain rfl : k = n := by omega
      go_wp2
      go_ret
      refine ⟨-1, rfl, ?_, below_drewN HB.out _⟩
      have h := HK.out.2
      rw [List.take_of_length_le (by rw [HL.out]; omega), List.contains_eq_mem, decide_eq_false_iff_not] at h
      simp [h]
end Go.Proofs.Ytgnjknihgjdedaa
