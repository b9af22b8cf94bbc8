/- TopFold 9: Give, Grow. -/
import Derived.Test.YtgnjknihgjdedaaTf08
import Derived.Test.YtgnjknihgjdedaaTf05
namespace Go.Proofs.Ytgnjknihgjdedaa
open Go.RowKit
set_option linter.unusedVariables false
set_option linter.unusedSimpArgs false

theorem wp_fit {ops : Array Oper} {rest : List Oper} {o : Oper} {a : Act} {Q : Exit → Act → World → Prop} {w : World} {e : TypeId}
    (hgd : o.guard = none) (s x : Operand) (ho : o.op = .call { callee := .builtin .append, args := #[s, x], argTypes := #[22, 22] })
    (b g cap : Nat) (l : List Int) (y : Int) (hs : a.eval s = .slice (some ⟨g, 0, none⟩) l.length cap) (hx : a.eval x = .slice (some ⟨w.heap.size, 0, none⟩) 1 1)
    (hown : w.ownsRow b 3 1 (.slice (some ⟨g, 0, none⟩) l.length cap) l.length (l.flatMap eInt)) (hfit : l.length + 1 ≤ cap)
    (h : ∀ w', w'.ownsRow b 3 1 (.slice (some ⟨g, 0, none⟩) (l.length + 1) cap) (l.length + 1) ((l ++ [y]).flatMap eInt) → w.grownBy w' (some g) → wpList Try.prog ops Q rest (a.put o.dst (.slice (some ⟨g, 0, none⟩) (l.length + 1) cap)) w') :
    wpList Try.prog ops Q (o :: rest) a (w.alloc (.cells #[.int .i64 y] e)) := by
  obtain ⟨i, z, hi, hz, hsize, hbytes, hzs⟩ := okInt.info
  refine wpList_append_fits _ hgd s x 22 ho b 3 i 1 okInt.sl hi hsize g l.length cap (l.flatMap eInt) hs (World.ownsRow.alloc hown _) ⟨w.heap.size, 0, none⟩ 1 1 [.int .i64 y] hx rfl ?_ (by simp [Value.oneCell']) hfit ?_
  · intro j u hu
    rw [Addr.add_lit, Nat.zero_add, World.cell?_alloc_at _ _ _ _ rfl]
    simpa using hu
  · intro w' hown' hg
    have hf : (l ++ [y]).flatMap eInt = l.flatMap eInt ++ [.int .i64 y] := by simp [eInt]
    exact h w' (hf ▸ hown') ((World.grownBy_alloc _ _ _).trans hg)

set_option maxRecDepth 100000 in
set_option maxHeartbeats 2000000 in
theorem give_any (S : Srch) (xs : Array Value) (lt : Value) (w0 : World) (n : Nat) (hG : S.Grows xs lt w0 n) (hL : S.L ≤ 6) (w : World) (c : Cn) (o : List Int) (K : List Cn) (ow : Nat)
    (hb : Below S.b w0 w) (env : Env S xs lt w) (st : St S w c o K) (hs : S.sound K) (hn : n < S.L) (hlen : o.length = S.L - (n + 1)) (how : ow < 5) :
    Calls Try.prog 83 #[.int .i64 (S.L - (n + 1) : Nat), .int .i64 ow, .pointer (some ⟨S.b + 3, 0, none⟩), .pointer (some ⟨S.b + 7, 0, none⟩), .pointer (some ⟨S.b + 8, 0, none⟩)] w fun e w' =>
      e = .returned (.bool (S.rest n (c.up ow)).isSome) ∧ Fr S.b w w' ∧
      ∃ c' o' K', St S w' c' o' K' ∧ S.sound K' ∧ (∀ r, S.rest n (c.up ow) = some r → o' = o ++ ((ow : Int) :: r)) ∧ (S.rest n (c.up ow) = none → c' = c ∧ o' = o) := by
  have hmf : ∀ (fn : Fn) (first cap : Array Value) (w : World), (Instr.makeFunc fn first cap).run Try.prog w = .ok (.func fn first cap) w := fun _ _ _ _ => rfl
  obtain ⟨now, out, buf, met, len, ok⟩ := st
  have hz9 := heap_lt env.g
  have hz7 : S.b + 7 < w.heap.size := by omega
  have hz3 : S.b + 3 < w.heap.size := by omega
  have hz8 : S.b + 8 < w.heap.size := by omega
  have hx0 := ok ow how
  have hs5 : c.at 5 = c.s := rfl
  have hx5 : 0 ≤ c.at 5 ∧ c.at 5 < 6 := by omega
  have hne : ¬ ow = 5 := by omega
  have hne' : ¬ 5 = ow := by omega
  generalize hp : S.L - (n + 1) = p at *
  subst hlen
  go_enter_defers Try.func83, Try.ntmps83
  go_upto_region 1 with (fail)
  obtain ⟨W, hW⟩ : ∃ W, W = ((w.alloc (Obj.cells #[Value.int IntKind.i64 ↑o.length] 3)).alloc (Obj.cells #[Value.int IntKind.i64 ↑ow] 3)).alloc (Obj.cells #[Value.bool false] 4) := ⟨_, rfl⟩
  rw [← hW]
  have b0 : W.heap[w.heap.size]? = some (Obj.cells #[Value.int IntKind.i64 ↑o.length] 3 (0, 0)) := by rw [hW]; exact hblk_alloc (hblk_alloc (alloc_at rfl) _) _
  have b1 : W.heap[w.heap.size + 1]? = some (Obj.cells #[Value.int IntKind.i64 ↑ow] 3 (0, 0)) := by rw [hW]; exact hblk_alloc (alloc_at (by simp)) _
  have b2 : W.heap[w.heap.size + 1 + 1]? = some (Obj.cells #[Value.bool false] 4 (0, 0)) := by rw [hW]; exact alloc_at (by simp)
  have hB : Below w.heap.size w W := by rw [hW]; exact (((Below.refl _ _).alloc (Nat.le_refl _) _).alloc (by simp) _).alloc (by simp; omega) _
  have hzW : W.heap.size = w.heap.size + 3 := by rw [hW]; simp
  clear hW
  have hF : Fr S.b w W := Fr.of_below hB (Nat.le_refl _) (by omega)
  have now := now.keep (hB.block _ (by omega))
  have c0 := now.cell (i := ow) (by omega)
  have c5 := now.cell (i := 5) (by omega)
  have f0 := now.free ow
  have f5 := now.free 5
  have out := bheap out hB (Nat.le_refl _)
  have cout := blk1 out
  have fout : W.frozen? ⟨S.b + 7, 0, none⟩ = false := free_of_one out
  have d0 := blk1 b0
  have d1 := blk1 b1
  have d2 := blk1 b2
  have n1 : ¬ w.heap.size + 1 = S.b + 3 := by omega
  have n2 : ¬ w.heap.size = S.b + 3 := by omega
  go_upto_region 3 with (fail)
  obtain ⟨W2, hW⟩ : ∃ W2, W2 = (W.setCell ⟨S.b + 3, ow, none⟩ (.int .i64 (c.at ow + 1))).setCell ⟨S.b + 3, 5, none⟩ (.int .i64 (↑o.length + 1)) := ⟨_, rfl⟩
  rw [← hW]
  have hF2 : Fr S.b w W2 := by rw [hW]; exact (hF.set (by omega) _ _ (.inl rfl)).set (by omega) _ _ (.inl rfl)
  have hat5 : (c.add 1 ow).at 5 = c.at 5 := by
    obtain rfl | rfl | rfl | rfl | rfl : ow = 0 ∨ ow = 1 ∨ ow = 2 ∨ ow = 3 ∨ ow = 4 := by omega
    all_goals rfl
  have hatp : c.at 5 = ↑o.length := by omega
  have now2 : Now W2 (S.b + 3) (c.up ow) := by rw [hW]; exact (now.set (by omega) 1 _ rfl).set (by omega) 1 _ (by rw [hat5]; omega)
  have out2 : W2.heap[S.b + 7]? = some (Obj.cells #[Value.slice (some { block := S.b + 6, off := 0 }) o.length S.L] 22 (0, 0)) := by rw [hW]; exact far_put (far_put out (by omega)) (by omega)
  have e0 : W2.heap[w.heap.size]? = some (Obj.cells #[Value.int IntKind.i64 ↑o.length] 3 (0, 0)) := by rw [hW]; exact far_put (far_put b0 (by omega)) (by omega)
  have e1 : W2.heap[w.heap.size + 1]? = some (Obj.cells #[Value.int IntKind.i64 ↑ow] 3 (0, 0)) := by rw [hW]; exact far_put (far_put b1 (by omega)) (by omega)
  have e2 : W2.heap[w.heap.size + 1 + 1]? = some (Obj.cells #[Value.bool false] 4 (0, 0)) := by rw [hW]; exact far_put (far_put b2 (by omega)) (by omega)
  have g6 : W2.heap[S.b + 6]? = W.heap[S.b + 6]? := by rw [hW]; exact (Below.heap_setCell _ _ _ _ (by dsimp; omega)).trans (Below.heap_setCell _ _ _ _ (by dsimp; omega))
  have met2 : W2.heap[S.b + 4]? = W.heap[S.b + 4]? := by rw [hW]; exact (Below.heap_setCell _ _ _ _ (by dsimp; omega)).trans (Below.heap_setCell _ _ _ _ (by dsimp; omega))
  have hz2 : W2.heap.size = w.heap.size + 3 := by rw [hW]; simpa using hzW
  have buf2 := owns_at buf (g6.trans (hB.block _ (by omega)))
  have met2 := met.keep (met2.trans (hB.block _ (by omega)))
  clear hW
  have c7 := blk1 out2
  have d0 := blk1 e0
  have d1 := blk1 e1
  have d2 := blk1 e2
  have hnn : ¬ W2.heap.size = S.b + 7 := by omega
  have gl := blk1 env.v
  have hz2' : w.heap.size + 3 ≤ W2.heap.size := by omega
  have HZ := Lib.hid (And.intro hz2 hzW)
  clear hz2 hzW
  go_wp2_with (at_builtin; refine wp_fit rfl (.tmp 17) (.tmp 19) rfl S.b (S.b + 6) S.L o ow rfl rfl buf2 (by omega) ?_; intro W3 buf3 hg3; have hF3 := hF2.grown (by omega) hg3; have out3 := (hg3.block (S.b + 7) (by omega) (by simp)).trans out2; have c73 := blk1 out3; have f73 : W3.frozen? ⟨S.b + 7, 0, none⟩ = false := free_of_one out3; have v3 := blk1 (env.fr hF3).v; have hz3 := hF3.below.size)
  obtain ⟨W4, hW⟩ : ∃ W4, W4 = W3.setCell ⟨S.b + 7, 0, none⟩ (Value.slice (some ⟨S.b + 6, 0, none⟩) (o.length + 1) S.L) := ⟨_, rfl⟩
  rw [← hW]
  have hF4 : Fr S.b w W4 := by rw [hW]; exact hF3.set (by omega) _ _ (.inr (.inl rfl))
  have k4 : ∀ j, j < w.heap.size + 3 → j ≠ S.b + 7 → j ≠ S.b + 6 → W4.heap[j]? = W2.heap[j]? := fun j hj h7 h6 => by
    rw [hW]
    exact (Below.heap_setCell _ _ _ _ h7).trans (hg3.block j (by omega) (by intro e; cases e; exact h6 rfl))
  have k46 : W4.heap[S.b + 6]? = W3.heap[S.b + 6]? := by rw [hW]; exact Below.heap_setCell _ _ _ _ (by dsimp; omega)
  have o4 : W4.heap[S.b + 7]? = some (Obj.cells #[Value.slice (some ⟨S.b + 6, 0, none⟩) (o.length + 1) S.L] 22 (0, 0)) := by rw [hW]; exact one_setCell out3
  have st4 : St S W4 (c.up ow) (o ++ [(ow : Int)]) K :=
    ⟨now2.keep (k4 _ (by omega) (by omega) (by omega)), by simpa using o4, by simpa using owns_at buf3 k46, met2.keep (k4 _ (by omega) (by omega) (by omega)), by rw [Cn.up_s c how, len]; simp,
      fun i hi => by have := ok i hi; rw [Cn.up_s c how, Cn.up_at c how hi]; split <;> omega⟩
  have hz4 := hF4.below.size
  have e4 := (k4 (w.heap.size + 1 + 1) (by omega) (by omega) (by omega)).trans e2
  have e41 := (k4 (w.heap.size + 1) (by omega) (by omega) (by omega)).trans e1
  have e40 := (k4 (w.heap.size) (by omega) (by omega) (by omega)).trans e0
  clear hW
  refine (hG W4 (c.up ow) (o ++ [(ow : Int)]) K (hb.trans hF4.below) (env.fr hF4) st4 hs (by omega) (by simp; omega)).mono ?_
  rintro e w5 ⟨rfl, hF5, c', o', K', st5, hs5', hsome, hnone⟩
  have e5 := (hF5.rest _ (heap_lt e4) (by omega) (by omega) (by omega) (by omega)).trans e4
  have e51 := (hF5.rest _ (heap_lt e41) (by omega) (by omega) (by omega) (by omega)).trans e41
  have e50 := (hF5.rest _ (heap_lt e40) (by omega) (by omega) (by omega) (by omega)).trans e40
  have c5d := blk1 e5
  have f5d : w5.frozen? ⟨w.heap.size + 1 + 1, 0, none⟩ = false := free_of_one e5
  dsimp only
  go_wp2
  have hlo : o'.length ≤ S.L := by
    rcases st5.buf.2 with ⟨hv, _⟩ | ⟨g', cap', cur, hv, h1, h2, h3, _⟩
    · cases hv
    · cases hv; exact h3
  obtain ⟨w6, hW⟩ : ∃ w6, w6 = w5.setCell ⟨w.heap.size + 1 + 1, 0, none⟩ (Value.bool (S.rest n (c.up ow)).isSome) := ⟨_, rfl⟩
  rw [← hW]
  have k6 : ∀ j, j ≠ w.heap.size + 1 + 1 → w6.heap[j]? = w5.heap[j]? := fun j hj => by rw [hW]; exact Below.heap_setCell _ _ _ _ hj
  have e6 : w6.heap[w.heap.size + 1 + 1]? = some (Obj.cells #[Value.bool (S.rest n (c.up ow)).isSome] 4 (0, 0)) := by rw [hW]; exact one_setCell e5
  have hF6 : Fr S.b w w6 := by rw [hW]; exact (hF4.trans hF5).set (by omega) _ _ (.inr (.inr (by dsimp; omega)))
  have e61 := (k6 (w.heap.size + 1) (by omega)).trans e51
  have e60 := (k6 (w.heap.size) (by omega)).trans e50
  have st6 : St S w6 c' o' K' := ⟨st5.now.keep (k6 _ (by omega)), (k6 _ (by omega)).trans st5.out, owns_at st5.buf (k6 _ (by omega)), st5.met.keep (k6 _ (by omega)), st5.len, st5.ok⟩
  clear hW
  have hm : maxLen = 9223372036854775807 := rfl
  have hk0 := st6.ok ow how
  have hk5 : c'.at 5 = c'.s := rfl
  have hk6 := st6.len
  refine leaves_cons (f := 84) (args := #[.pointer (some ⟨w.heap.size + 1 + 1, 0, none⟩), .pointer (some ⟨S.b + 3, 0, none⟩), .pointer (some ⟨w.heap.size + 1, 0, none⟩), .pointer (some ⟨S.b + 7, 0, none⟩), .pointer (some ⟨w.heap.size, 0, none⟩)]) (by simp) (by simp [go_sem]) ?_
  refine (undo_any w6 .returning _ _ _ _ _ _ c' ow o.length ⟨S.b + 6, 0, none⟩ o'.length S.L (blk1 e6) st6.now (blk1 e61) (blk1 st6.out) (blk1 e60) (free_of_one st6.out) how (by omega) (by omega) (by omega) (by omega) (by omega) (by omega) (by omega) (by omega) (by omega)).mono ?_
  rintro e u' w7 ⟨rfl, rfl, rfl⟩
  cases hr : S.rest n (c.up ow) with
  | some r =>
    simp only [hr, Option.isSome_some, if_true] at e6 ⊢
    have d6 := blk1 e6
    exact ⟨_, by simp [results, Try.f83, go_sem, d6], rfl, hF6, c', o', K', st6, hs5', fun r1 hr1 => by cases hr1; rw [hsome r hr]; simp, fun h => by cases h⟩
  | none =>
    obtain ⟨rfl, rfl⟩ := hnone hr
    simp only [hr, Option.isSome_none, Bool.false_eq_true, if_false] at e6 ⊢
    obtain ⟨w7, hW⟩ : ∃ w7, w7 = ((w6.setCell ⟨S.b + 3, ow, none⟩ (.int .i64 ((c.up ow).at ow - 1))).setCell ⟨S.b + 3, 5, none⟩ (.int .i64 ((c.up ow).at 5 - 1))).setCell ⟨S.b + 7, 0, none⟩ (.slice (some ⟨S.b + 6, 0, none⟩) o.length S.L) := ⟨_, rfl⟩
    rw [← hW]
    have e7 : w7.heap[w.heap.size + 1 + 1]? = some (Obj.cells #[Value.bool false] 4 (0, 0)) := by rw [hW]; exact far_put (far_put (far_put e6 (by omega)) (by omega)) (by omega)
    have d7 := blk1 e7
    have hF7 : Fr S.b w w7 := by rw [hW]; exact ((hF6.set (by omega) _ _ (.inl rfl)).set (by omega) _ _ (.inl rfl)).set (by omega) _ _ (.inr (.inl rfl))
    have a5 : ((c.up ow).add (-1) ow).at 5 = (c.up ow).at 5 := by
      obtain rfl | rfl | rfl | rfl | rfl : ow = 0 ∨ ow = 1 ∨ ow = 2 ∨ ow = 3 ∨ ow = 4 := by omega
      all_goals rfl
    have n7 : Now w7 (S.b + 3) c := by
      have h0 := (st6.now.set (i := ow) (by omega) (-1) ((c.up ow).at ow - 1) (by omega)).set (i := 5) (by omega) (-1) ((c.up ow).at 5 - 1) (by rw [a5]; omega)
      rw [Cn.up_down c how] at h0
      rw [hW]
      exact h0.keep (Below.heap_setCell _ _ _ _ (by dsimp; omega))
    have k7 : ∀ j, j ≠ S.b + 3 → j ≠ S.b + 7 → w7.heap[j]? = w6.heap[j]? := fun j h3 h7 => by
      rw [hW]
      exact (Below.heap_setCell _ _ _ _ h7).trans ((Below.heap_setCell _ _ _ _ h3).trans (Below.heap_setCell _ _ _ _ h3))
    have o7 : w7.heap[S.b + 7]? = some (Obj.cells #[Value.slice (some ⟨S.b + 6, 0, none⟩) o.length S.L] 22 (0, 0)) := by
      rw [hW]
      exact one_setCell (far_put (far_put st6.out (by omega)) (by omega))
    clear hW
    exact ⟨_, by simp [results, Try.f83, go_sem, d7], rfl, hF7, c, o, K', ⟨n7, o7, owns_at (owns_cut st6.buf) (k7 _ (by omega) (by omega)), st6.met.keep (k7 _ (by omega) (by omega)), len, ok⟩, hs5', fun r1 hr1 => (by cases hr1), fun _ => ⟨rfl, rfl⟩⟩
end Go.Proofs.Ytgnjknihgjdedaa
namespace Go.Proofs.Ytgnjknihgjdedaa
open Go.RowKit
set_option linter.unusedVariables false
set_option linter.unusedSimpArgs false

theorem Now.six {w : World} {B : Nat} {c : Cn} (h : Now w B c) : w.cell? ⟨B, 0, none⟩ = some (.int .i64 c.a) ∧ w.cell? ⟨B, 1, none⟩ = some (.int .i64 c.b) ∧ w.cell? ⟨B, 2, none⟩ = some (.int .i64 c.c) ∧
    w.cell? ⟨B, 3, none⟩ = some (.int .i64 c.d) ∧ w.cell? ⟨B, 4, none⟩ = some (.int .i64 c.e) ∧ w.cell? ⟨B, 5, none⟩ = some (.int .i64 c.s) :=
  ⟨h.cell (i := 0) (by omega), h.cell (i := 1) (by omega), h.cell (i := 2) (by omega), h.cell (i := 3) (by omega), h.cell (i := 4) (by omega), h.cell (i := 5) (by omega)⟩

structure Ctx (S : Srch) (w0 : World) (xs : Array Value) (lt : Value) : Prop where
  hb : w0.heap.size = S.b
  L : S.L ≤ 6
  left : (S.left : Int) < 18446744073709551616
  x : ∃ t A nA cA Am cm Ai ni ci mv, xs = #[.int .i64 t, .slice A nA cA, .slice Am S.L cm, .slice Ai ni ci] ∧ Sl eVal 1 w0 Am S.L mv ∧ Ints w0 Ai ni S.mis ∧
    (∀ (i : Nat) v, mv[i]? = some v → ∃ A l c, v = .slice A l.length c ∧ S.may[i]? = some l ∧ Ints w0 A l.length l ∧ l.length ≤ 4294967296 ∧ ∀ o ∈ l, 0 ≤ o ∧ o < 5 ∧ o.toNat < ni)
  lt : ∃ fl fi ca, lt = .func (.func fl) fi ca ∧ (∀ args w, (callFunc fl args).run Try.prog w = .ok (.enter fl args) w) ∧
    ∀ w, Below S.b w0 w → ∀ (p : Nat) (o : Int), p < S.L → 0 ≤ o → o < 5 → Calls Try.prog fl (fi ++ (#[.int .i64 p, .int .i64 o] ++ ca)) w fun e w' => e = .returned (.bool (S.lf p o)) ∧ Below w.heap.size w w'

set_option maxRecDepth 100000 in
set_option maxHeartbeats 2000000 in
theorem grow_zero (S : Srch) (xs : Array Value) (lt : Value) (w0 : World) (C : Ctx S w0 xs lt) : S.Grows xs lt w0 0 := by
  intro w c o K hb env st hs hn hlen
  obtain ⟨t, A, nA, cA, Am, cm, Ai, ni, ci, mv, rfl, hmv, hmis, hrow⟩ := C.x
  have hL := C.L
  obtain ⟨q0, q1, q2, q3, q4, q5⟩ := st.now.six
  obtain ⟨x0, x1, x2, x3⟩ := show w.cell? ⟨S.b, 0, none⟩ = _ ∧ w.cell? ⟨S.b, 1, none⟩ = _ ∧ w.cell? ⟨S.b, 2, none⟩ = some (.slice Am S.L cm) ∧ w.cell? ⟨S.b, 3, none⟩ = some (.slice Ai ni ci) from
    ⟨by simp [World.cell?, env.x]; rfl, by simp [World.cell?, env.x]; rfl, by simp [World.cell?, env.x], by simp [World.cell?, env.x]⟩
  have hc : c.s = (S.L : Int) := by have := st.len; omega
  rw [hc] at q5
  unfold Srch.growCaps
  go_enter Try.func85, Try.ntmps85
  go_wp2
  go_ret
  exact ⟨rfl, Fr.refl _ _, c, o, K, st, hs, fun r hr => by cases hr; simp, fun h => (by cases h)⟩

theorem bit_test (l p : Nat) (hl : (l : Int) < 18446744073709551616) (hp : p ≤ 6) :
    (bits BinOp.and IntKind.u64 ((l : Int) / 2 ^ p) 1 == 1) = l.testBit p := by
  have e2 : (l : Int) / 2 ^ p = ((l / 2 ^ p : Nat) : Int) := by simp
  rw [e2]
  have hle : l / 2 ^ p ≤ l := Nat.div_le_self _ _
  show (IntKind.u64.wrap ((BitVec.ofInt 64 ((l / 2 ^ p : Nat) : Int) &&& BitVec.ofInt 64 ((1 : Nat) : Int)).toNat : Int) == 1) = _
  rw [BitVec.toNat_and, ofInt_u64 _ (by omega), ofInt_u64 1 (by omega), Nat.and_one_is_mod, Nat.testBit_eq_decide_div_mod_eq]
  have h2 := Nat.mod_lt (l / 2 ^ p) (show 0 < 2 by omega)
  rw [IntWalk.u64_in _ (by omega)]
  rw [Bool.eq_iff_iff]
  simp only [beq_iff_eq, decide_eq_true_eq]
  omega
theorem grow_met {S : Srch} {w W : World} {c : Cn} {o : List Int} {K K2 : List Cn} {n : Nat} {ob : Obj} (hF : Fr S.b w W) (hbw : S.b ≤ w.heap.size) (st : St S W c o K) (hs : S.sound K) (hn : n ≤ S.L) (hlen : o.length = S.L - n) (hr : S.rest n c = none)
    (hlt : S.b + 4 < W.heap.size) (hM : ∀ w' : World, w'.heap[S.b + 4]? = some ob → MetAt w' (S.b + 4) K2) (hK : ∀ q, q ∈ K2 ↔ q ∈ K ∨ q = c) :
    Fr S.b w { W with heap := W.heap.setIfInBounds (S.b + 4) ob } ∧ St S { W with heap := W.heap.setIfInBounds (S.b + 4) ob } c o K2 ∧ S.sound K2 := by
  have k : ∀ j, j ≠ S.b + 4 → (W.heap.setIfInBounds (S.b + 4) ob)[j]? = W.heap[j]? := fun j hj => by rw [Array.getElem?_setIfInBounds_ne (by omega)]
  refine ⟨hF.put hbw ob hlt, ⟨st.now.keep (k _ (by omega)), (k _ (by omega)).trans st.out, owns_at st.buf (k _ (by omega)), hM _ (by simp [hlt]), st.len, st.ok⟩, ?_⟩
  intro q hq m hm hqs
  rcases (hK q).1 hq with h | rfl
  · exact hs q h m hm hqs
  · have := st.len
    obtain rfl : m = n := by omega
    exact hr

theorem St.below {S : Srch} {w w' : World} {c : Cn} {o : List Int} {K : List Cn} (h : St S w c o K) (hb : Below w.heap.size w w') : St S w' c o K := by
  have h7 := heap_lt h.out
  exact ⟨h.now.keep (hb.block _ (by omega)), (hb.block _ h7).trans h.out, owns_at h.buf (hb.block _ (by omega)), h.met.keep (hb.block _ (by omega)), h.len, h.ok⟩

set_option maxRecDepth 100000 in
set_option maxHeartbeats 4000000 in
theorem grow_succ (S : Srch) (xs : Array Value) (lt : Value) (w0 : World) (C : Ctx S w0 xs lt) (n : Nat) (hG : S.Grows xs lt w0 n) : S.Grows xs lt w0 (n + 1) := by
  intro w c o K hb env st hs hn hlen
  obtain ⟨t, A, nA, cA, Am, cm, Ai, ni, ci, mv, rfl, hmv, hmis, hrow⟩ := C.x
  obtain ⟨fl, fi, ca, rfl, eg, hlet⟩ := C.lt
  have hL := C.L
  obtain ⟨q0, q1, q2, q3, q4, q5⟩ := st.now.six
  obtain ⟨x0, x1, x2, x3⟩ := show w.cell? ⟨S.b, 0, none⟩ = _ ∧ w.cell? ⟨S.b, 1, none⟩ = _ ∧ w.cell? ⟨S.b, 2, none⟩ = some (.slice Am S.L cm) ∧ w.cell? ⟨S.b, 3, none⟩ = some (.slice Ai ni ci) from
    ⟨by simp [World.cell?, env.x]; rfl, by simp [World.cell?, env.x]; rfl, by simp [World.cell?, env.x], by simp [World.cell?, env.x]⟩
  have hc := st.len
  rw [hc] at q5
  have hne : ¬ (o.length : Int) = S.L := by omega
  have hne2 : ¬ o.length = S.L := by omega
  have HL := Lib.hid hlen
  clear hlen
  have em := blk1 env.m
  have ec : kv c = .agg #[.int .i64 c.a, .int .i64 c.b, .int .i64 c.c, .int .i64 c.d, .int .i64 c.e, .int .i64 o.length] := by rw [← hc]; rfl
  have hlk := run_look6 c w (S.b + 4) K st.met
  rw [ec] at hlk
  unfold Srch.growCaps
  by_cases hin : c ∈ K
  · have hr := hs c hin (n + 1) hn (by rw [hc, HL.out])
    simp only [hin, decide_true] at hlk
    go_enter Try.func85, Try.ntmps85
    go_wp2
    go_ret
    exact ⟨by rw [hr]; rfl, Fr.refl _ _, c, o, K, st, hs, fun r h => (by rw [hr] at h; cases h), fun _ => ⟨rfl, rfl⟩⟩
  · simp only [hin, decide_false] at hlk
    go_enter Try.func85, Try.ntmps85
    go_upto_region 7 with (fail)
    obtain ⟨W1, hW⟩ : ∃ W1, W1 = w.alloc (Obj.cells #[.int .i64 c.a, .int .i64 c.b, .int .i64 c.c, .int .i64 c.d, .int .i64 c.e, .int .i64 o.length] 155) := ⟨_, rfl⟩
    rw [← hW]
    have bw : W1.heap[w.heap.size]? = some (.cells c.cs 155 (0, 0)) := by rw [hW, Cn.cs, hc]; exact alloc_at rfl
    have hB1 : Below w.heap.size w W1 := by rw [hW]; exact (Below.refl _ _).alloc (Nat.le_refl _) _
    have hz1 : w.heap.size < W1.heap.size := heap_lt bw
    clear hW
    have hbw : S.b ≤ w.heap.size := by have := heap_lt env.x; omega
    have hF1 : Fr S.b w W1 := Fr.of_below hB1 (Nat.le_refl _) hbw
    have el := blk1 (env.fr hF1).l
    clear hne2
    have hbt := bit_test S.left o.length C.left (by have := HL.out; omega)
    have now1 := st.now.keep (hB1.block _ (by have := heap_lt env.g; omega))
    have out1 := bheap st.out hB1 (Nat.le_refl _)
    have bz : S.b + 9 < w.heap.size := heap_lt env.g
    have buf1 := owns_at st.buf (hB1.block (S.b + 6) (by omega))
    have met1 := st.met.keep (hB1.block (S.b + 4) (by omega))
    have f5 := now1.free 5
    have q5' : W1.cell? ⟨S.b + 3, 5, none⟩ = some (.int .i64 o.length) := (bcell q5 hB1 (Nat.le_refl _))
    have hol : (o.length : Int) < 6 := by have := HL.out; omega
    have hbool : ((o.length : Int) == (S.L : Int)) = false := by simpa using hne
    simp only [hbool]
    cases hT : S.left.testBit o.length
    · rw [hT] at hbt
      obtain ⟨vb, voff, v, rfl, hvb, hv, hvc⟩ := Vals.get (hmv.below (hb.trans hF1.below) (by rw [C.hb]; exact Nat.le_refl _)) (show o.length < S.L by have := HL.out; omega)
      obtain ⟨Ar, l, cr, rfl, hml, hl0, hll, hlo⟩ := hrow _ _ hv
      have hl1 : Ints W1 Ar l.length l := hl0.below (hb.trans hF1.below) (by rw [C.hb]; exact Nat.le_refl _)
      have hT' : S.left.testBit (S.L - (n + 1)) = false := by rw [← HL.out]; exact hT
      have hrest : S.rest (n + 1) c = l.findSome? (fun q => if c.at q.toNat < S.mis.getD q.toNat 0 && S.lf o.length q then (S.rest n (c.up q.toNat)).map (fun r => q :: r) else none) := by
        rw [HL.out] at hml ⊢
        simp only [Srch.rest, hT', Bool.false_eq_true, if_false, List.getD_eq_getElem?_getD, hml, Option.getD_some]
      obtain ⟨F, hFd⟩ : ∃ F : Int → Option (List Int), F = fun q => if c.at q.toNat < S.mis.getD q.toNat 0 && S.lf o.length q then (S.rest n (c.up q.toNat)).map (fun r => q :: r) else none := ⟨_, rfl⟩
      rw [← hFd] at hrest
      have HR := Lib.hid (And.intro hrest (And.intro hFd (And.intro hml hlo)))
      clear hrest hFd hml hlo
      obtain ⟨y0, y1, y2, y3⟩ := show W1.cell? ⟨S.b, 0, none⟩ = _ ∧ W1.cell? ⟨S.b, 1, none⟩ = _ ∧ W1.cell? ⟨S.b, 2, none⟩ = some (.slice (some ⟨vb, voff, none⟩) S.L cm) ∧ W1.cell? ⟨S.b, 3, none⟩ = some (.slice Ai ni ci) from
        ⟨bcell x0 hB1 (Nat.le_refl _), bcell x1 hB1 (Nat.le_refl _), bcell x2 hB1 (Nat.le_refl _), bcell x3 hB1 (Nat.le_refl _)⟩
      have hpl : (o.length : Int) < S.L := by have := HL.out; omega
      have hpl' : o.length < S.L := by have := HL.out; omega
      have hlm : l.length ≤ 4294967296 := hll
      go_wp2_with fail
      go_loopg [12, 52] l.length (fun g _v i wr => ∃ k : Nat, k + g = l.length ∧ i = .int .i64 k ∧ ∃ K', St S wr c o K' ∧ S.sound K' ∧ Fr S.b w wr ∧ wr.heap[w.heap.size]? = some (.cells c.cs 155 (0, 0)) ∧ (l.take k).findSome? F = none)
      case atStart => exact ⟨0, by omega, rfl, K, ⟨now1, out1, buf1, met1, st.len, st.ok⟩, hs, hF1, bw, by simp⟩
      case round =>
        obtain ⟨k, hk, rfl, K', str, hsr, hFr, bwr, hnone⟩ := hrel
        have HK := Lib.hid (And.intro hk hnone)
        have hkn : k ≤ l.length := by omega
        clear hk hnone
        by_cases hlt : k < l.length
        · obtain ⟨rb, roff, x, rfl, hrb, hx, hxc⟩ := Ints.get (hl0.below (hb.trans hFr.below) (by rw [C.hb]; exact Nat.le_refl _)) hlt
          obtain ⟨hx0, hx5, hxn⟩ := HR.out.2.2.2 x (List.mem_of_getElem? hx)
          obtain ⟨oo, rfl⟩ : ∃ oo : Nat, x = oo := ⟨x.toNat, by omega⟩
          have hoo : oo < 5 := by omega
          obtain ⟨mb, moff, xm, rfl, hmb, hxm, hmc⟩ := Ints.get (hmis.below (hb.trans hFr.below) (by rw [C.hb]; exact Nat.le_refl _)) (show oo < ni by simpa using hxn)
          have hFx : F oo = if c.at oo < xm && S.lf o.length oo then (S.rest n (c.up oo)).map (fun r => (oo : Int) :: r) else none := by
            rw [HR.out.2.1]
            simp only [Int.toNat_natCast, List.getD_eq_getElem?_getD, hxm, Option.getD_some]
          have htk : (l.take (k + 1)).findSome? F = F oo := by
            rw [List.take_add_one, hx, List.findSome?_append, HK.out.2]
            simp
          have hgo : l.findSome? F = (F oo).or ((l.drop (k + 1)).findSome? F) := by
            rw [← List.take_append_drop (k + 1) l, List.findSome?_append, htk]
            simp
          have HX := Lib.hid (And.intro hx (And.intro hFx (And.intro htk hgo)))
          clear hx hFx htk hgo hxm
          have a0 := str.now.cell (i := oo) (by omega)
          have af := str.now.free oo
          obtain ⟨ex, _, et, _, _, eg9⟩ := env.fr hFr
          obtain ⟨z0, z1, z2, z3⟩ := show wr.cell? ⟨S.b, 0, none⟩ = _ ∧ wr.cell? ⟨S.b, 1, none⟩ = _ ∧ wr.cell? ⟨S.b, 2, none⟩ = some (.slice (some ⟨vb, voff, none⟩) S.L cm) ∧ wr.cell? ⟨S.b, 3, none⟩ = some (.slice (some ⟨mb, moff, none⟩) ni ci) from
            ⟨by simp [World.cell?, ex]; rfl, by simp [World.cell?, ex]; rfl, by simp [World.cell?, ex], by simp [World.cell?, ex]⟩
          have ct := blk1 et
          have cg := blk1 eg9
          clear ex et eg9
          have hoI : (oo : Int) < 6 := by omega
          have hoN : (oo : Int) < ni := by omega
          by_cases hA : c.at oo < xm
          · have hbr : Below S.b w0 wr.drew := below_drewN (hb.trans hFr.below) 1
            cases hLf : S.lf o.length oo
            · go_upto_region 17 with (fail)
              have k0 := cell_regrown a0
              have k1 := cell_regrown z3
              have k2 := cell_regrown hmc
              have k3 := cell_regrown ct
              have hbS : S.b ≤ wr.heap.size := by have := hFr.below.size; omega
              have cLet : ∀ d os, Calls Try.prog fl (fi ++ (#[.int .i64 o.length, .int .i64 oo] ++ ca)) (Sort.grow (redrawn wr d) os) (fun e w'' => e = .returned (.bool false) ∧ ∃ p : Regrown, w'' = Sort.grow (redrawn wr p.d) p.os) := fun d os => by
                have h := hlet (Sort.grow (redrawn wr d) os) ((hb.trans hFr.below).trans ((below_regrown wr d os).mono hbS)) o.length oo hpl' (by omega) (by omega)
                rw [hLf] at h
                exact Calls.regrown_of h
              have HCl := Lib.hid cLet
              clear cLet
              refine wp_region_quiet_below (by kernel_rfl) (by kernel_rfl) ?_
              repeat (quiet_step (exact HCl.out _ _))
              refine wpQuiet_nil ?_
              intro _ hw'
              obtain ⟨⟨dq, osq⟩, hw''⟩ := hw'
              subst hw''
              obtain ⟨W3, hW3⟩ : ∃ W3, W3 = Sort.grow (redrawn wr dq) osq := ⟨_, rfl⟩
              have hB3 : Below wr.heap.size wr W3 := by rw [hW3]; exact below_regrown wr dq osq
              rw [← hW3]
              clear hW3 k0 k1 k2 k3
              go_wp2
              go_roundg (gk - 1)
              case measure => have := HK.out.1; omega
              exact ⟨k + 1, by have := HK.out.1; omega, by go_num, K', str.below hB3, hsr, hFr.trans (Fr.of_below hB3 (Nat.le_refl _) hbS), bheap bwr hB3 (Nat.le_refl _), by rw [HX.out.2.2.1, HX.out.2.1, hLf]; simp⟩
            · go_upto_region 17 with (fail)
              have k0 := cell_regrown a0
              have k1 := cell_regrown z3
              have k2 := cell_regrown hmc
              have k3 := cell_regrown ct
              have k4 := cell_regrown cg
              have hbS : S.b ≤ wr.heap.size := by have := hFr.below.size; omega
              have cLet : ∀ d os, Calls Try.prog fl (fi ++ (#[.int .i64 o.length, .int .i64 oo] ++ ca)) (Sort.grow (redrawn wr d) os) (fun e w'' => e = .returned (.bool true) ∧ ∃ p : Regrown, w'' = Sort.grow (redrawn wr p.d) p.os) := fun d os => by
                have h := hlet (Sort.grow (redrawn wr d) os) ((hb.trans hFr.below).trans ((below_regrown wr d os).mono hbS)) o.length oo hpl' (by omega) (by omega)
                rw [hLf] at h
                exact Calls.regrown_of h
              have HCl := Lib.hid cLet
              clear cLet
              refine wp_region_below_tail 19 (by kernel_rfl) (by kernel_rfl) ?_
              simp only [List.take_succ_cons, List.take_zero, List.drop_succ_cons, List.drop_zero]
              repeat (quiet_step (exact HCl.out _ _))
              refine wpQuiet_nil ?_
              intro _ hw'
              obtain ⟨⟨dq, osq⟩, hw''⟩ := hw'
              subst hw''
              obtain ⟨W3, hW3⟩ : ∃ W3, W3 = Sort.grow (redrawn wr dq) osq := ⟨_, rfl⟩
              have hB3 : Below wr.heap.size wr W3 := by rw [hW3]; exact below_regrown wr dq osq
              rw [← hW3]
              clear hW3 k0 k1 k2 k3 k4 HCl
              have hF3 : Fr S.b w W3 := hFr.trans (Fr.of_below hB3 (Nat.le_refl _) hbS)
              have hgv := give_any S _ _ w0 n hG hL W3 c o K' oo (hb.trans hF3.below) (env.fr hF3) (str.below hB3) hsr (by omega) HL.out hoo
              rw [← HL.out] at hgv
              have HGV := Lib.hid hgv
              clear hgv
              go_wp2_with fail
              refine (HGV.out).mono ?_
              rintro e w5 ⟨rfl, hF5, c', o', K'', st5, hs5, hsome, hnone⟩
              have HSN := Lib.hid (And.intro hsome hnone)
              clear hsome hnone
              have bw3 := bheap bwr hB3 (Nat.le_refl _)
              have bw5 := (hF5.rest _ (heap_lt bw3) (by omega) (by omega) (by omega) (by omega)).trans bw3
              cases hr : S.rest n (c.up oo) with
              | some r =>
                simp only [hr, Option.isSome_some]
                have HF := Lib.hid (show S.rest (n + 1) c = some ((oo : Int) :: r) by
                  rw [HR.out.1, HX.out.2.2.2, HX.out.2.1, hLf, hr]; simp [hA])
                go_wp2
                go_ret
                have hrest := HF.out
                exact ⟨by rw [hrest]; rfl, hF3.trans hF5, c', o', K'', st5, hs5, fun r1 h1 => by (rw [hrest] at h1; cases h1; rw [HSN.out.1 r hr]), fun h => by (rw [hrest] at h; cases h)⟩
              | none =>
                obtain ⟨rfl, rfl⟩ := HSN.out.2 hr
                simp only [hr, Option.isSome_none]
                go_wp2
                go_roundg (gk - 1)
                case measure => have := HK.out.1; omega
                exact ⟨k + 1, by have := HK.out.1; omega, by go_num, K'', st5, hs5, hF3.trans hF5, bw5, by rw [HX.out.2.2.1, HX.out.2.1, hLf, hr]; simp⟩
          · go_upto_region 17 with (fail)
            go_quiet (fail)
            go_wp2
            go_roundg (gk - 1)
            case measure => have := HK.out.1; omega
            have hB3 : Below wr.heap.size wr (wr.drewN nq) := below_drewN (Below.refl _ _) _
            exact ⟨k + 1, by have := HK.out.1; omega, by go_num, K', str.below hB3, hsr, hFr.trans (Fr.of_below hB3 (Nat.le_refl _) (by have := hFr.below.size; omega)), bwr, by rw [HX.out.2.2.1, HX.out.2.1, show decide (c.at oo < xm) = false from decide_eq_false (by omega)]; simp⟩
        · obtain rfl : k = l.length := by omega
          have hrest : S.rest (n + 1) c = none := by rw [HR.out.1]; have := HK.out.2; rwa [List.take_length] at this
          have HN := Lib.hid hrest
          clear hrest
          obtain ⟨u0, u1, u2, u3, u4, u5⟩ := Now.six (show Now wr w.heap.size c from bwr)
          have em6 := blk1 (env.fr hFr).m
          have met6 := str.met
          go_wp2_with (at_mapUpdate; refine wp_put6 rfl (.tmp 78) (.tmp 79) (.const (.bool true)) rfl (S.b + 4) K' c rfl (by rw [ec]; rfl) rfl met6 ?_; intro ob K2 hlt hM hK2)
          go_ret
          have hrest := HN.out
          obtain ⟨r1, r2, r3⟩ := grow_met hFr hbw str hsr hn HL.out hrest hlt hM hK2
          exact ⟨by rw [hrest]; rfl, r1, c, o, K2, r2, r3, fun r1 h1 => by (rw [hrest] at h1; cases h1), fun _ => ⟨rfl, rfl⟩⟩
    · rw [hT] at hbt
      go_upto_region 9 with (fail)
      obtain ⟨W2, hW⟩ : ∃ W2, W2 = W1.setCell ⟨S.b + 3, 5, none⟩ (.int .i64 (o.length + 1)) := ⟨_, rfl⟩
      rw [← hW]
      have hF2 : Fr S.b w W2 := by rw [hW]; exact hF1.set hbw _ _ (.inl rfl)
      have k2 : ∀ j, j ≠ S.b + 3 → W2.heap[j]? = W1.heap[j]? := fun j hj => by rw [hW]; exact Below.heap_setCell _ _ _ _ hj
      have now2 : Now W2 (S.b + 3) c.skip := by rw [hW]; exact now1.set (by omega) 1 _ (by show _ = c.s + 1; omega)
      have hz2 : w.heap.size + 1 ≤ W2.heap.size := by rw [hW]; simp; omega
      clear hW
      have out2 := (k2 (S.b + 7) (by omega)).trans out1
      have buf2 := owns_at buf1 (k2 (S.b + 6) (by omega))
      have met2 := met1.keep (k2 (S.b + 4) (by omega))
      have c7 := blk1 out2
      have bw2 := (k2 w.heap.size (by omega)).trans bw
      have gl := blk1 (env.fr hF2).v
      have hfit : o.length + 1 ≤ S.L := by have := HL.out; omega
      go_wp2_with (at_builtin; refine wp_fit rfl (.tmp 34) (.tmp 35) rfl S.b (S.b + 6) S.L o (-1) rfl rfl buf2 hfit ?_; intro W3 buf3 hg3; have hF3 := hF2.grown (by omega) hg3; have out3 := (hg3.block (S.b + 7) (by omega) (by simp)).trans out2; have c73 := blk1 out3; have f73 : W3.frozen? ⟨S.b + 7, 0, none⟩ = false := free_of_one out3; have v3 := blk1 (env.fr hF3).v; have hz3 := hF3.below.size)
      obtain ⟨W4, hW⟩ : ∃ W4, W4 = W3.setCell ⟨S.b + 7, 0, none⟩ (Value.slice (some ⟨S.b + 6, 0, none⟩) (o.length + 1) S.L) := ⟨_, rfl⟩
      rw [← hW]
      have hF4 : Fr S.b w W4 := by rw [hW]; exact hF3.set (by omega) _ _ (.inr (.inl rfl))
      have k4 : ∀ j, j < w.heap.size + 1 → j ≠ S.b + 7 → j ≠ S.b + 6 → W4.heap[j]? = W2.heap[j]? := fun j hj h7 h6 => by
        rw [hW]
        exact (Below.heap_setCell _ _ _ _ h7).trans (hg3.block j (by omega) (by intro e; cases e; exact h6 rfl))
      have k46 : W4.heap[S.b + 6]? = W3.heap[S.b + 6]? := by rw [hW]; exact Below.heap_setCell _ _ _ _ (by dsimp; omega)
      have o4 : W4.heap[S.b + 7]? = some (Obj.cells #[Value.slice (some ⟨S.b + 6, 0, none⟩) (o.length + 1) S.L] 22 (0, 0)) := by rw [hW]; exact one_setCell out3
      have st4 : St S W4 c.skip (o ++ [-1]) K :=
        ⟨now2.keep (k4 _ (by omega) (by omega) (by omega)), by simpa using o4, by simpa using owns_at buf3 k46, met2.keep (k4 _ (by omega) (by omega) (by omega)), by rw [Cn.skip_s c, hc]; simp,
          fun i hi => by have := st.ok i hi; rw [Cn.skip_s c, Cn.skip_at c hi]; omega⟩
      have bw4 := (k4 w.heap.size (by omega) (by omega) (by omega)).trans bw2
      have hlt4 := heap_lt bw4
      clear hW
      refine (hG W4 c.skip (o ++ [-1]) K (hb.trans hF4.below) (env.fr hF4) st4 hs (by omega) (by have := HL.out; simp; omega)).mono ?_
      rintro e w5 ⟨rfl, hF5, c', o', K', st5, hs5, hsome, hnone⟩
      dsimp only
      have hT' : S.left.testBit (S.L - (n + 1)) = true := by rw [← HL.out]; exact hT
      have hF := hF4.trans hF5
      cases hr : S.rest n c.skip with
      | some r =>
        have hrest : S.rest (n + 1) c = some (-1 :: r) := by simp only [Srch.rest, hT', if_true, hr, Option.map_some]
        simp only [hr, Option.isSome_some]
        go_wp2
        go_ret
        exact ⟨by rw [hrest]; rfl, hF, c', o', K', st5, hs5, fun r1 h1 => by rw [hrest] at h1; cases h1; rw [hsome r hr]; simp, fun h => by rw [hrest] at h; cases h⟩
      | none =>
        have hrest : S.rest (n + 1) c = none := by simp only [Srch.rest, hT', if_true, hr, Option.map_none]
        simp only [hr, Option.isSome_none]
        have HR := Lib.hid hrest
        clear hrest
        obtain ⟨rfl, rfl⟩ := hnone hr
        have g5 : w5.cell? ⟨S.b + 3, 5, none⟩ = some (.int .i64 (o.length + 1)) := by rw [st5.now.cell (i := 5) (by omega)]; show some (Value.int _ (c.s + 1)) = _; rw [hc]
        have gf := st5.now.free 5
        have g7 := blk1 st5.out
        have g7f : w5.frozen? ⟨S.b + 7, 0, none⟩ = false := free_of_one st5.out
        have bw5 := (hF5.rest _ hlt4 (by omega) (by omega) (by omega) (by omega)).trans bw4
        obtain ⟨u0, u1, u2, u3, u4, u5⟩ := Now.six (show Now w5 w.heap.size c from bw5)
        have em5 := blk1 (env.fr hF).m
        go_upto_region 20 with (fail)
        obtain ⟨W6, hW⟩ : ∃ W6, W6 = (w5.setCell ⟨S.b + 3, 5, none⟩ (.int .i64 o.length)).setCell ⟨S.b + 7, 0, none⟩ (.slice (some ⟨S.b + 6, 0, none⟩) o.length S.L) := ⟨_, rfl⟩
        rw [← hW]
        have hF6 : Fr S.b w W6 := by rw [hW]; exact (hF.set hbw _ _ (.inl rfl)).set hbw _ _ (.inr (.inl rfl))
        have k6 : ∀ j, j ≠ S.b + 3 → j ≠ S.b + 7 → W6.heap[j]? = w5.heap[j]? := fun j h3 h7 => by
          rw [hW]
          exact (Below.heap_setCell _ _ _ _ h7).trans (Below.heap_setCell _ _ _ _ h3)
        have n6 : Now W6 (S.b + 3) c := by
          have h0 := st5.now.set (i := 5) (by omega) (-1) (o.length : Int) (by show _ = c.s + 1 + -1; omega)
          rw [Cn.skip_down] at h0
          rw [hW]
          exact h0.keep (Below.heap_setCell _ _ _ _ (by dsimp; omega))
        have o6 : W6.heap[S.b + 7]? = some (Obj.cells #[Value.slice (some ⟨S.b + 6, 0, none⟩) o.length S.L] 22 (0, 0)) := by
          rw [hW]
          exact one_setCell (far_put st5.out (by omega))
        have st6 : St S W6 c o K' := ⟨n6, o6, owns_at (owns_cut st5.buf) (k6 _ (by omega) (by omega)), st5.met.keep (k6 _ (by omega) (by omega)), hc, st.ok⟩
        have bw6 := (k6 w.heap.size (by omega) (by omega)).trans bw5
        clear hW
        obtain ⟨u0, u1, u2, u3, u4, u5⟩ := Now.six (show Now W6 w.heap.size c from bw6)
        have em6 := blk1 (env.fr hF6).m
        have met6 := st6.met
        go_wp2_with (at_mapUpdate; refine wp_put6 rfl (.tmp 78) (.tmp 79) (.const (.bool true)) rfl (S.b + 4) K' c rfl (by rw [ec]; rfl) rfl met6 ?_; intro ob K2 hlt hM hK2)
        go_ret
        have hrest := HR.out
        obtain ⟨r1, r2, r3⟩ := grow_met hF6 hbw st6 hs5 hn HL.out hrest hlt hM hK2
        exact ⟨by rw [hrest]; rfl, r1, c, o, K2, r2, r3, fun r1 h1 => by (rw [hrest] at h1; cases h1), fun _ => ⟨rfl, rfl⟩⟩
end Go.Proofs.Ytgnjknihgjdedaa
