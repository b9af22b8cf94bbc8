/- strays.home's closure give: one stray to one owner, then the rest. -/
import Derived.Test.YtoidaigiejilcaaDoorHome1
namespace Go.Proofs.YtoidaigiejilcaaDoor
open Go.RowKit
set_option linter.unusedVariables false
set_option linter.unusedSimpArgs false

/-- 'append' of one integer that fits. -/
theorem wp_fit {ops : Array Oper} {rest : List Oper} {o : Oper} {a : Act} {Q : Exit → Act → World → Prop} {w : World} {e : TypeId}
    (hgd : o.guard = none) (s x : Operand) (ho : o.op = .call { callee := .builtin .append, args := #[s, x], argTypes := #[22, 22] })
    (b g cap : Nat) (l : List Int) (y : Int) (hs : a.eval s = .slice (some ⟨g, 0, none⟩) l.length cap) (hx : a.eval x = .slice (some ⟨w.heap.size, 0, none⟩) 1 1)
    (hown : w.ownsRow b 3 1 (.slice (some ⟨g, 0, none⟩) l.length cap) l.length (l.flatMap eInt)) (hfit : l.length + 1 ≤ cap)
    (h : ∀ w', w'.ownsRow b 3 1 (.slice (some ⟨g, 0, none⟩) (l.length + 1) cap) (l.length + 1) ((l ++ [y]).flatMap eInt) → w.grownBy w' (some g) → wpList Tryd.prog ops Q rest (a.put o.dst (.slice (some ⟨g, 0, none⟩) (l.length + 1) cap)) w') :
    wpList Tryd.prog ops Q (o :: rest) a (w.alloc (.cells #[.int .i64 y] e)) := by
  obtain ⟨i, z, hi, hz, hsize, hbytes, hzs⟩ := okInt.info
  refine wpList_append_fits _ hgd s x 22 ho b 3 i 1 okInt.sl hi hsize g l.length cap (l.flatMap eInt) hs (World.ownsRow.alloc hown _) ⟨w.heap.size, 0, none⟩ 1 1 [.int .i64 y] hx rfl ?_ (by simp [Value.oneCell']) hfit ?_
  · intro j u hu
    rw [Addr.add_lit, Nat.zero_add, World.cell?_alloc_at _ _ _ _ rfl]
    simpa using hu
  · intro w' hown' hg
    have hf : (l ++ [y]).flatMap eInt = l.flatMap eInt ++ [.int .i64 y] := by simp [eInt]
    exact h w' (hf ▸ hown') ((World.grownBy_alloc _ _ _).trans hg)

set_option maxRecDepth 100000 in
set_option maxHeartbeats 2000000 in
theorem give_any (S : Srch) (xs : Array Value) (lt : Value) (w0 : World) (n : Nat) (hG : S.Grows xs lt w0 n) (hL : S.L ≤ 6) (w : World) (c : Cn) (o : List Int) (K : List Cn) (ow : Nat)
    (hb : Below S.b w0 w) (env : Env S xs lt w) (st : St S w c o K) (hs : S.sound K) (hn : n < S.L) (hlen : o.length = S.L - (n + 1)) (how : ow < 5) :
    Calls Tryd.prog 67 #[.int .i64 (S.L - (n + 1) : Nat), .int .i64 ow, .pointer (some ⟨S.b + 3, 0, none⟩), .pointer (some ⟨S.b + 7, 0, none⟩), .pointer (some ⟨S.b + 8, 0, none⟩)] w fun e w' =>
      e = .returned (.bool (S.rest n (c.up ow)).isSome) ∧ Fr S.b w w' ∧
      ∃ c' o' K', St S w' c' o' K' ∧ S.sound K' ∧ (∀ r, S.rest n (c.up ow) = some r → o' = o ++ ((ow : Int) :: r)) ∧ (S.rest n (c.up ow) = none → c' = c ∧ o' = o) := by
  have hmf : ∀ (fn : Fn) (first cap : Array Value) (w : World), (Instr.makeFunc fn first cap).run Tryd.prog w = .ok (.func fn first cap) w := fun _ _ _ _ => rfl
  obtain ⟨now, out, buf, met, len, ok⟩ := st
  have hz9 := heap_lt env.g
  have hz7 : S.b + 7 < w.heap.size := by omega
  have hz3 : S.b + 3 < w.heap.size := by omega
  have hz8 : S.b + 8 < w.heap.size := by omega
  have hx0 := ok ow how
  have hs5 : c.at 5 = c.s := rfl
  have hx5 : 0 ≤ c.at 5 ∧ c.at 5 < 6 := by omega
  have hne : ¬ ow = 5 := by omega
  have hne' : ¬ 5 = ow := by omega
  generalize hp : S.L - (n + 1) = p at *
  subst hlen
  go_enter_defers Tryd.func67, Tryd.ntmps67
  go_upto_region 1 with (fail)
  obtain ⟨W, hW⟩ : ∃ W, W = ((w.alloc (Obj.cells #[Value.int IntKind.i64 ↑o.length] 3)).alloc (Obj.cells #[Value.int IntKind.i64 ↑ow] 3)).alloc (Obj.cells #[Value.bool false] 4) := ⟨_, rfl⟩
  rw [← hW]
  have b0 : W.heap[w.heap.size]? = some (Obj.cells #[Value.int IntKind.i64 ↑o.length] 3 (0, 0)) := by rw [hW]; exact hblk_alloc (hblk_alloc (alloc_at rfl) _) _
  have b1 : W.heap[w.heap.size + 1]? = some (Obj.cells #[Value.int IntKind.i64 ↑ow] 3 (0, 0)) := by rw [hW]; exact hblk_alloc (alloc_at (by simp)) _
  have b2 : W.heap[w.heap.size + 1 + 1]? = some (Obj.cells #[Value.bool false] 4 (0, 0)) := by rw [hW]; exact alloc_at (by simp)
  have hB : Below w.heap.size w W := by rw [hW]; exact (((Below.refl _ _).alloc (Nat.le_refl _) _).alloc (by simp) _).alloc (by simp; omega) _
  have hzW : W.heap.size = w.heap.size + 3 := by rw [hW]; simp
  clear hW
  have hF : Fr S.b w W := Fr.of_below hB (Nat.le_refl _) (by omega)
  have now := now.keep (hB.block _ (by omega))
  have c0 := now.cell (i := ow) (by omega)
  have c5 := now.cell (i := 5) (by omega)
  have f0 := now.free ow
  have f5 := now.free 5
  have out := bheap out hB (Nat.le_refl _)
  have cout := blk1 out
  have fout : W.frozen? ⟨S.b + 7, 0, none⟩ = false := free_of_one out
  have d0 := blk1 b0
  have d1 := blk1 b1
  have d2 := blk1 b2
  have n1 : ¬ w.heap.size + 1 = S.b + 3 := by omega
  have n2 : ¬ w.heap.size = S.b + 3 := by omega
  go_upto_region 3 with (fail)
  obtain ⟨W2, hW⟩ : ∃ W2, W2 = (W.setCell ⟨S.b + 3, ow, none⟩ (.int .i64 (c.at ow + 1))).setCell ⟨S.b + 3, 5, none⟩ (.int .i64 (↑o.length + 1)) := ⟨_, rfl⟩
  rw [← hW]
  have hF2 : Fr S.b w W2 := by rw [hW]; exact (hF.set (by omega) _ _ (.inl rfl)).set (by omega) _ _ (.inl rfl)
  have hat5 : (c.add 1 ow).at 5 = c.at 5 := by
    obtain rfl | rfl | rfl | rfl | rfl : ow = 0 ∨ ow = 1 ∨ ow = 2 ∨ ow = 3 ∨ ow = 4 := by omega
    all_goals rfl
  have hatp : c.at 5 = ↑o.length := by omega
  have now2 : Now W2 (S.b + 3) (c.up ow) := by rw [hW]; exact (now.set (by omega) 1 _ rfl).set (by omega) 1 _ (by rw [hat5]; omega)
  have out2 : W2.heap[S.b + 7]? = some (Obj.cells #[Value.slice (some { block := S.b + 6, off := 0 }) o.length S.L] 22 (0, 0)) := by rw [hW]; exact far_put (far_put out (by omega)) (by omega)
  have e0 : W2.heap[w.heap.size]? = some (Obj.cells #[Value.int IntKind.i64 ↑o.length] 3 (0, 0)) := by rw [hW]; exact far_put (far_put b0 (by omega)) (by omega)
  have e1 : W2.heap[w.heap.size + 1]? = some (Obj.cells #[Value.int IntKind.i64 ↑ow] 3 (0, 0)) := by rw [hW]; exact far_put (far_put b1 (by omega)) (by omega)
  have e2 : W2.heap[w.heap.size + 1 + 1]? = some (Obj.cells #[Value.bool false] 4 (0, 0)) := by rw [hW]; exact far_put (far_put b2 (by omega)) (by omega)
  have g6 : W2.heap[S.b + 6]? = W.heap[S.b + 6]? := by rw [hW]; exact (Below.heap_setCell _ _ _ _ (by dsimp; omega)).trans (Below.heap_setCell _ _ _ _ (by dsimp; omega))
  have met2 : W2.heap[S.b + 4]? = W.heap[S.b + 4]? := by rw [hW]; exact (Below.heap_setCell _ _ _ _ (by dsimp; omega)).trans (Below.heap_setCell _ _ _ _ (by dsimp; omega))
  have hz2 : W2.heap.size = w.heap.size + 3 := by rw [hW]; simpa using hzW
  have buf2 := owns_at buf (g6.trans (hB.block _ (by omega)))
  have met2 := met.keep (met2.trans (hB.block _ (by omega)))
  clear hW
  have c7 := blk1 out2
  have d0 := blk1 e0
  have d1 := blk1 e1
  have d2 := blk1 e2
  have hnn : ¬ W2.heap.size = S.b + 7 := by omega
  have gl := blk1 env.v
  have hz2' : w.heap.size + 3 ≤ W2.heap.size := by omega
  have HZ := Lib.hid (And.intro hz2 hzW)
  clear hz2 hzW
  go_wp2_with (at_builtin; refine wp_fit rfl (.tmp 17) (.tmp 19) rfl S.b (S.b + 6) S.L o ow rfl rfl buf2 (by omega) ?_; intro W3 buf3 hg3; have hF3 := hF2.grown (by omega) hg3; have out3 := (hg3.block (S.b + 7) (by omega) (by simp)).trans out2; have c73 := blk1 out3; have f73 : W3.frozen? ⟨S.b + 7, 0, none⟩ = false := free_of_one out3; have v3 := blk1 (env.fr hF3).v; have hz3 := hF3.below.size)
  obtain ⟨W4, hW⟩ : ∃ W4, W4 = W3.setCell ⟨S.b + 7, 0, none⟩ (Value.slice (some ⟨S.b + 6, 0, none⟩) (o.length + 1) S.L) := ⟨_, rfl⟩
  rw [← hW]
  have hF4 : Fr S.b w W4 := by rw [hW]; exact hF3.set (by omega) _ _ (.inr (.inl rfl))
  have k4 : ∀ j, j < w.heap.size + 3 → j ≠ S.b + 7 → j ≠ S.b + 6 → W4.heap[j]? = W2.heap[j]? := fun j hj h7 h6 => by
    rw [hW]
    exact (Below.heap_setCell _ _ _ _ h7).trans (hg3.block j (by omega) (by intro e; cases e; exact h6 rfl))
  have k46 : W4.heap[S.b + 6]? = W3.heap[S.b + 6]? := by rw [hW]; exact Below.heap_setCell _ _ _ _ (by dsimp; omega)
  have o4 : W4.heap[S.b + 7]? = some (Obj.cells #[Value.slice (some ⟨S.b + 6, 0, none⟩) (o.length + 1) S.L] 22 (0, 0)) := by rw [hW]; exact one_setCell out3
  have st4 : St S W4 (c.up ow) (o ++ [(ow : Int)]) K :=
    ⟨now2.keep (k4 _ (by omega) (by omega) (by omega)), by simpa using o4, by simpa using owns_at buf3 k46, met2.keep (k4 _ (by omega) (by omega) (by omega)), by rw [Cn.up_s c how, len]; simp,
      fun i hi => by have := ok i hi; rw [Cn.up_s c how, Cn.up_at c how hi]; split <;> omega⟩
  have hz4 := hF4.below.size
  have e4 := (k4 (w.heap.size + 1 + 1) (by omega) (by omega) (by omega)).trans e2
  have e41 := (k4 (w.heap.size + 1) (by omega) (by omega) (by omega)).trans e1
  have e40 := (k4 (w.heap.size) (by omega) (by omega) (by omega)).trans e0
  clear hW
  refine (hG W4 (c.up ow) (o ++ [(ow : Int)]) K (hb.trans hF4.below) (env.fr hF4) st4 hs (by omega) (by simp; omega)).mono ?_
  rintro e w5 ⟨rfl, hF5, c', o', K', st5, hs5', hsome, hnone⟩
  have e5 := (hF5.rest _ (heap_lt e4) (by omega) (by omega) (by omega) (by omega)).trans e4
  have e51 := (hF5.rest _ (heap_lt e41) (by omega) (by omega) (by omega) (by omega)).trans e41
  have e50 := (hF5.rest _ (heap_lt e40) (by omega) (by omega) (by omega) (by omega)).trans e40
  have c5d := blk1 e5
  have f5d : w5.frozen? ⟨w.heap.size + 1 + 1, 0, none⟩ = false := free_of_one e5
  dsimp only
  go_wp2
  have hlo : o'.length ≤ S.L := by
    rcases st5.buf.2 with ⟨hv, _⟩ | ⟨g', cap', cur, hv, h1, h2, h3, _⟩
    · cases hv
    · cases hv; exact h3
  obtain ⟨w6, hW⟩ : ∃ w6, w6 = w5.setCell ⟨w.heap.size + 1 + 1, 0, none⟩ (Value.bool (S.rest n (c.up ow)).isSome) := ⟨_, rfl⟩
  rw [← hW]
  have k6 : ∀ j, j ≠ w.heap.size + 1 + 1 → w6.heap[j]? = w5.heap[j]? := fun j hj => by rw [hW]; exact Below.heap_setCell _ _ _ _ hj
  have e6 : w6.heap[w.heap.size + 1 + 1]? = some (Obj.cells #[Value.bool (S.rest n (c.up ow)).isSome] 4 (0, 0)) := by rw [hW]; exact one_setCell e5
  have hF6 : Fr S.b w w6 := by rw [hW]; exact (hF4.trans hF5).set (by omega) _ _ (.inr (.inr (by dsimp; omega)))
  have e61 := (k6 (w.heap.size + 1) (by omega)).trans e51
  have e60 := (k6 (w.heap.size) (by omega)).trans e50
  have st6 : St S w6 c' o' K' := ⟨st5.now.keep (k6 _ (by omega)), (k6 _ (by omega)).trans st5.out, owns_at st5.buf (k6 _ (by omega)), st5.met.keep (k6 _ (by omega)), st5.len, st5.ok⟩
  clear hW
  have hm : maxLen = 9223372036854775807 := rfl
  have hk0 := st6.ok ow how
  have hk5 : c'.at 5 = c'.s := rfl
  have hk6 := st6.len
  refine leaves_cons (f := 68) (args := #[.pointer (some ⟨w.heap.size + 1 + 1, 0, none⟩), .pointer (some ⟨S.b + 3, 0, none⟩), .pointer (some ⟨w.heap.size + 1, 0, none⟩), .pointer (some ⟨S.b + 7, 0, none⟩), .pointer (some ⟨w.heap.size, 0, none⟩)]) (by simp) (by simp [go_sem]) ?_
  refine (undo_any w6 .returning _ _ _ _ _ _ c' ow o.length ⟨S.b + 6, 0, none⟩ o'.length S.L (blk1 e6) st6.now (blk1 e61) (blk1 st6.out) (blk1 e60) (free_of_one st6.out) how (by omega) (by omega) (by omega) (by omega) (by omega) (by omega) (by omega) (by omega) (by omega)).mono ?_
  rintro e u' w7 ⟨rfl, rfl, rfl⟩
  cases hr : S.rest n (c.up ow) with
  | some r =>
    simp only [hr, Option.isSome_some, if_true] at e6 ⊢
    have d6 := blk1 e6
    exact ⟨_, by simp [results, Tryd.f67, go_sem, d6], rfl, hF6, c', o', K', st6, hs5', fun r1 hr1 => by cases hr1; rw [hsome r hr]; simp, fun h => by cases h⟩
  | none =>
    obtain ⟨rfl, rfl⟩ := hnone hr
    simp only [hr, Option.isSome_none, Bool.false_eq_true, if_false] at e6 ⊢
    obtain ⟨w7, hW⟩ : ∃ w7, w7 = ((w6.setCell ⟨S.b + 3, ow, none⟩ (.int .i64 ((c.up ow).at ow - 1))).setCell ⟨S.b + 3, 5, none⟩ (.int .i64 ((c.up ow).at 5 - 1))).setCell ⟨S.b + 7, 0, none⟩ (.slice (some ⟨S.b + 6, 0, none⟩) o.length S.L) := ⟨_, rfl⟩
    rw [← hW]
    have e7 : w7.heap[w.heap.size + 1 + 1]? = some (Obj.cells #[Value.bool false] 4 (0, 0)) := by rw [hW]; exact far_put (far_put (far_put e6 (by omega)) (by omega)) (by omega)
    have d7 := blk1 e7
    have hF7 : Fr S.b w w7 := by rw [hW]; exact ((hF6.set (by omega) _ _ (.inl rfl)).set (by omega) _ _ (.inl rfl)).set (by omega) _ _ (.inr (.inl rfl))
    have a5 : ((c.up ow).add (-1) ow).at 5 = (c.up ow).at 5 := by
      obtain rfl | rfl | rfl | rfl | rfl : ow = 0 ∨ ow = 1 ∨ ow = 2 ∨ ow = 3 ∨ ow = 4 := by omega
      all_goals rfl
    have n7 : Now w7 (S.b + 3) c := by
      have h0 := (st6.now.set (i := ow) (by omega) (-1) ((c.up ow).at ow - 1) (by omega)).set (i := 5) (by omega) (-1) ((c.up ow).at 5 - 1) (by rw [a5]; omega)
      rw [Cn.up_down c how] at h0
      rw [hW]
      exact h0.keep (Below.heap_setCell _ _ _ _ (by dsimp; omega))
    have k7 : ∀ j, j ≠ S.b + 3 → j ≠ S.b + 7 → w7.heap[j]? = w6.heap[j]? := fun j h3 h7 => by
      rw [hW]
      exact (Below.heap_setCell _ _ _ _ h7).trans ((Below.heap_setCell _ _ _ _ h3).trans (Below.heap_setCell _ _ _ _ h3))
    have o7 : w7.heap[S.b + 7]? = some (Obj.cells #[Value.slice (some ⟨S.b + 6, 0, none⟩) o.length S.L] 22 (0, 0)) := by
      rw [hW]
      exact one_setCell (far_put (far_put st6.out (by omega)) (by omega))
    clear hW
    exact ⟨_, by simp [results, Tryd.f67, go_sem, d7], rfl, hF7, c, o, K', ⟨n7, o7, owns_at (owns_cut st6.buf) (k7 _ (by omega) (by omega)), st6.met.keep (k7 _ (by omega) (by omega)), len, ok⟩, hs5', fun r1 hr1 => (by cases hr1), fun _ => ⟨rfl, rfl⟩⟩
end Go.Proofs.YtoidaigiejilcaaDoor
