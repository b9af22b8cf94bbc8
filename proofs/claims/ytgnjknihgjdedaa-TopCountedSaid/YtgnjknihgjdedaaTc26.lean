/- TopCounted 26: TcI. -/
import Derived.Test.YtgnjknihgjdedaaTc21
import Derived.Test.YtgnjknihgjdedaaTc25
namespace Go.Proofs.Ytgnjknihgjdedaa
open Go.RowKit
set_option linter.unusedVariables false
set_option linter.unusedSimpArgs false
def StE (E : Nat → Prop) (w : World) (P : World → Prop) : Prop := ∀ w' : World, w.heap.size ≤ w'.heap.size → (∀ j, j < w.heap.size → ¬ E j → w'.heap[j]? = w.heap[j]?) → P w'
section
variable {E E' : Nat → Prop} {w w' : World} {P : World → Prop}
theorem StE.now (h : StE E w P) : P w := h w (Nat.le_refl _) fun _ _ _ => rfl
theorem StE.step (h : StE E w P) (hs : w.heap.size ≤ w'.heap.size) (hw : ∀ j, j < w.heap.size → ¬ E j → w'.heap[j]? = w.heap[j]?) (hE : ∀ j, j < w.heap.size → E' j → E j) : StE E' w' P := fun w'' hs' hw' =>
  h w'' (Nat.le_trans hs hs') fun j hj he => (hw' j (Nat.lt_of_lt_of_le hj hs) (fun e => he (hE j hj e))).trans (hw j hj he)
theorem Own.up {α : Type} {enc : α → List Value} {e : TypeId} {sz base : Nat} {v : Value} {l : List α} (h : Own enc e sz w base v l) (hw : ∀ j, base ≤ j → j < w.heap.size → w'.heap[j]? = w.heap[j]?) : Own enc e sz w' base v l := by
  refine ⟨h.1, ?_⟩
  rcases h.2 with hh | ⟨g, cap, cur, hv, hb, hg, r⟩
  · exact .inl hh
  · exact .inr ⟨g, cap, cur, hv, hb, (hw g hb (heap_lt hg)).trans hg, r⟩
theorem hbO_st {base : Nat} {b : Hb} (h : HbO w base b) (hE : ∀ j, E j → j < base) : StE E w (fun w' => HbIn w' b) := fun w' hs hw => by
  have hu : ∀ j, base ≤ j → j < w.heap.size → w'.heap[j]? = w.heap[j]? := fun j h1 h2 => hw j h2 (fun e => by have := hE j e; omega)
  obtain ⟨mv, h1, h2, h3⟩ := h.h
  exact HbO.inn (base := base) ⟨h.m.up hu, h.k.up hu, ⟨mv, h1.up hu, h2, fun i v hv => by
    obtain ⟨l, hl, ho⟩ := h3 i v hv
    exact ⟨l, hl, ho.up hu⟩⟩, h.d.up hu⟩
end
def EI (H p5 p6 : Nat) (V7 V8 VC : Value) (q : Nat) (j : Nat) : Prop := j = H ∨ j = p5 ∨ j = p6 ∨ V7.ownBlock = some j ∨ V8.ownBlock = some j ∨ VC.ownBlock = some j ∨ j = q
structure TcI (W : World) (H B p5 p6 : Nat) (mk : Mk) (a : Int) (CH : List Sp) (ns ls : List Int) (ds : List De) (V7 V8 : Value) (N : Nat) (X : Hb) (AC : Option Addr) (cC q : Nat) (w' : World) : Prop where
  dl : Dealt W w' H N
  hH : H < W.heap.size
  h5 : W.heap.size ≤ p5
  h6 : p5 < p6
  hB : p6 < B
  b5 : w'.heap[p5]? = some X.obj
  x : X.t = 0 ∧ X.l = [mk] ∧ X.ks = [0] ∧ X.hs = [[a]] ∧ X.ds = ds
  b6 : w'.heap[p6]? = some (tyC ((CH.length : Int) + 1) a a (.slice AC CH.length cC) 3 (.slice none 0 0))
  o7 : OwnI w' B V7 ls
  o8 : OwnI w' B V8 ns
  oc : OwnSp w' B (.slice AC CH.length cC) CH
  ap : ApartV V7 V8
  st : StE (EI H p5 p6 V7 V8 (.slice AC CH.length cC) q) w' (fun w => HbIn w X)
section
variable {W w' w'' : World} {H B p5 p6 : Nat} {mk : Mk} {a : Int} {CH : List Sp} {ns ls : List Int} {ds : List De} {V7 V8 : Value} {N M : Nat} {X : Hb} {AC : Option Addr} {cC q : Nat}
theorem TcI.mono (h : TcI W H B p5 p6 mk a CH ns ls ds V7 V8 N X AC cC q w') (hM : N ≤ M) : TcI W H B p5 p6 mk a CH ns ls ds V7 V8 M X AC cC q w' := ⟨h.dl.mono hM, h.hH, h.h5, h.h6, h.hB, h.b5, h.x, h.b6, h.o7, h.o8, h.oc, h.ap, h.st⟩
theorem TcI.deal (h : TcI W H B p5 p6 mk a CH ns ls ds V7 V8 N X AC cC q w') (hd : Dealt w' w'' H M) : TcI W H B p5 p6 mk a CH ns ls ds V7 V8 M X AC cC q w'' := by
  have hH := h.hH
  have h5 := h.h5
  have h6 := h.h6
  have hB := h.hB
  exact ⟨h.dl.trans hd, hH, h5, h6, hB, hd.blk h.b5 (by omega), h.x, hd.blk h.b6 (by omega), h.o7.kept hd.gr (.inr (h.o7.nb (show H < B by omega))), h.o8.kept hd.gr (.inr (h.o8.nb (show H < B by omega))), h.oc.kept hd.gr (.inr (h.oc.nb (show H < B by omega))), h.ap,
    h.st.step hd.size (fun j hj he => hd.gr.block j hj (fun e => he (.inl (by injection e)))) fun j _ e => e⟩
theorem TcI.bel (h : TcI W H B p5 p6 mk a CH ns ls ds V7 V8 N X AC cC q w') (hb : Below w'.heap.size w' w'') : TcI W H B p5 p6 mk a CH ns ls ds V7 V8 N X AC cC q w'' :=
  ⟨h.dl.less hb (Nat.le_refl _), h.hH, h.h5, h.h6, h.hB, bheap h.b5 hb (Nat.le_refl _), h.x, bheap h.b6 hb (Nat.le_refl _), h.o7.below hb (Nat.le_refl _), h.o8.below hb (Nat.le_refl _), h.oc.below hb (Nat.le_refl _), h.ap,
    h.st.step hb.size (fun j hj _ => hb.block j hj) fun j _ e => e⟩
theorem TcI.newq (h : TcI W H B p5 p6 mk a CH ns ls ds V7 V8 N X AC cC q w') (o : Obj) : TcI W H B p5 p6 mk a CH ns ls ds V7 V8 N X AC cC w'.heap.size (w'.alloc o) := by
  have hb := bal0 w' o
  refine ⟨h.dl.less hb (Nat.le_refl _), h.hH, h.h5, h.h6, h.hB, bheap h.b5 hb (Nat.le_refl _), h.x, bheap h.b6 hb (Nat.le_refl _), h.o7.below hb (Nat.le_refl _), h.o8.below hb (Nat.le_refl _), h.oc.below hb (Nat.le_refl _), h.ap, h.st.step hb.size (fun j hj _ => hb.block j hj) fun j hj e => ?_⟩
  rcases e with e | e | e | e | e | e | e
  · exact .inl e
  · exact .inr (.inl e)
  · exact .inr (.inr (.inl e))
  · exact .inr (.inr (.inr (.inl e)))
  · exact .inr (.inr (.inr (.inr (.inl e))))
  · exact .inr (.inr (.inr (.inr (.inr (.inl e)))))
  · omega
structure OffI (H p5 p6 : Nat) (V7 V8 VC : Value) (q : Nat) : Prop where
  h : H < q
  a : p5 ≠ q
  b : p6 ≠ q
  v7 : V7.ownBlock ≠ some q
  v8 : V8.ownBlock ≠ some q
  vc : VC.ownBlock ≠ some q
theorem TcI.off (h : TcI W H B p5 p6 mk a CH ns ls ds V7 V8 N X AC cC q w') {k : Nat} (hk : w'.heap.size ≤ k) : OffI H p5 p6 V7 V8 (.slice AC CH.length cC) k := by
  have h5 := heap_lt h.b5
  have h6 := heap_lt h.b6
  have := h.hH
  have := h.h5
  exact ⟨by omega, by omega, by omega, fun e => by have := (h.o7.lt _ e).2; omega, fun e => by have := (h.o8.lt _ e).2; omega, fun e => by have := (h.oc.lt _ e).2; omega⟩
theorem TcI.putq (h : TcI W H B p5 p6 mk a CH ns ls ds V7 V8 N X AC cC q w') (ho : OffI H p5 p6 V7 V8 (.slice AC CH.length cC) q) (hW : W.heap.size ≤ q) (i : Nat) (v : Value) : TcI W H B p5 p6 mk a CH ns ls ds V7 V8 N X AC cC q (w'.setCell ⟨q, i, none⟩ v) := by
  have hg := grownBy_cell w' q i v
  exact ⟨h.dl.set (by show H < q; exact ho.h) (by show W.heap.size ≤ q; exact hW) v, h.hH, h.h5, h.h6, h.hB, (Below.heap_setCell w' ⟨q, i, none⟩ v p5 (by show p5 ≠ q; exact ho.a)).trans h.b5, h.x, (Below.heap_setCell w' ⟨q, i, none⟩ v p6 (by show p6 ≠ q; exact ho.b)).trans h.b6, h.o7.kept hg (.inr ho.v7), h.o8.kept hg (.inr ho.v8), h.oc.kept hg (.inr ho.vc), h.ap,
    h.st.step hg.size (fun j hj he => hg.block j hj (fun e => he (.inr (.inr (.inr (.inr (.inr (.inr (by injection e))))))))) fun j _ e => e⟩
theorem TcI.more {x y : Int} {Y : Hb} {g7 c7 g8 c8 : Nat} {d : De} (h : TcI W H B p5 p6 mk a CH ns ls ds V7 V8 N X AC cC q w') (hY : Y.t = 0 ∧ Y.l = [mk] ∧ Y.ks = [0] ∧ Y.hs = [[a]] ∧ Y.ds = ds ++ [d]) (hYs : StE (EI H p5 p6 V7 V8 (.slice AC CH.length cC) q) w' (fun w => HbIn w Y))
    (h7 : OwnI w'' B (.slice (some ⟨g7, 0, none⟩) (ls.length + 1) c7) (ls ++ [x])) (h8 : OwnI w'' B (.slice (some ⟨g8, 0, none⟩) (ns.length + 1) c8) (ns ++ [y])) (hne : g7 ≠ g8) (l7 : V7.ownBlock = some g7 ∨ w'.heap.size ≤ g7) (l8 : V8.ownBlock = some g8 ∨ w'.heap.size ≤ g8)
    (hb5 : w''.heap[p5]? = some Y.obj) (hg : GE (fun j => j = p5 ∨ E25 V7 V8 j) w' w'') :
    TcI W H B p5 p6 mk a CH (ns ++ [y]) (ls ++ [x]) (ds ++ [d]) (.slice (some ⟨g7, 0, none⟩) (ls.length + 1) c7) (.slice (some ⟨g8, 0, none⟩) (ns.length + 1) c8) N Y AC cC H w'' := by
  have hH := h.hH
  have h5 := h.h5
  have h6 := h.h6
  have hB := h.hB
  have n7 : ∀ j, V7.ownBlock = some j → B ≤ j := fun j e => (h.o7.lt j e).1
  have n8 : ∀ j, V8.ownBlock = some j → B ≤ j := fun j e => (h.o8.lt j e).1
  have hEE : ∀ j, (j = p5 ∨ E25 V7 V8 j) → EI H p5 p6 V7 V8 (.slice AC CH.length cC) q j := fun j e => by
    rcases e with e | e | e
    · exact .inr (.inl e)
    · exact .inr (.inr (.inr (.inl e)))
    · exact .inr (.inr (.inr (.inr (.inl e))))
  have hlow : ∀ j, j < B → j ≠ p5 → j < w'.heap.size → w''.heap[j]? = w'.heap[j]? := fun j hj hn hs => hg.blk j hs fun e => by
    rcases e with e | e | e
    · exact hn e
    · have := n7 j e; omega
    · have := n8 j e; omega
  have hHs := h.dl.hd.lt
  have hBp : ∀ j, (j = p5 ∨ E25 V7 V8 j) → W.heap.size ≤ j ∧ H < j := fun j e => by
    rcases e with e | e | e
    · omega
    · have := n7 j e; omega
    · have := n8 j e; omega
  have hc : OwnSp w'' B (.slice AC CH.length cC) CH := by
    refine ⟨h.oc.1, ?_⟩
    rcases h.oc.2 with hh | ⟨g, cap, cur, hv, hb, hgg, r⟩
    · exact .inl hh
    · refine .inr ⟨g, cap, cur, hv, hb, (hg.blk g (heap_lt hgg) fun e => ?_).trans hgg, r⟩
      rcases e with e | e | e
      · omega
      · exact Own.ne' h.o7 hgg (by decide) e
      · exact Own.ne' h.o8 hgg (by decide) e
  refine ⟨⟨h.dl.hd.kept fun j hj => hlow j (by omega) (by omega) (by omega), ⟨hg.os.trans h.dl.gr.os, hg.tape.trans h.dl.gr.tape, hg.output.trans h.dl.gr.output, Nat.le_trans h.dl.gr.size hg.size, fun j hj hn => ?_⟩⟩, hH, h5, h6, hB, hb5, hY, (hlow p6 hB (by omega) (heap_lt h.b6)).trans h.b6, h7, h8, hc, ?_, ?_⟩
  · exact (hg.blk j (Nat.lt_of_lt_of_le hj h.dl.gr.size) fun e => by have := (hBp j e).1; omega).trans (h.dl.gr.block j hj hn)
  · intro k e e'
    have a1 : some g7 = some k := e
    have a2 : some g8 = some k := e'
    injection a1 with a1; injection a2 with a2
    omega
  · refine hYs.step hg.size (fun j hj he => hg.blk j hj fun e => he (hEE j e)) fun j hj e => ?_
    rcases e with e | e | e | e | e | e | e
    · exact .inl e
    · exact .inr (.inl e)
    · exact .inr (.inr (.inl e))
    · have e' : some g7 = some j := e
      injection e' with e'
      rcases l7 with l | l
      · exact .inr (.inr (.inr (.inl (by rw [l, e']))))
      · omega
    · have e' : some g8 = some j := e
      injection e' with e'
      rcases l8 with l | l
      · exact .inr (.inr (.inr (.inr (.inl (by rw [l, e'])))))
      · omega
    · exact .inr (.inr (.inr (.inr (.inr (.inl e)))))
    · exact .inl e
theorem TcI.chg {s : Sp} {g7 c7 : Nat} (h : TcI W H B p5 p6 mk a CH ns ls ds V7 V8 N X AC cC q w') (h7 : OwnSp w'' B (.slice (some ⟨g7, 0, none⟩) (CH.length + 1) c7) (CH ++ [s])) (l7 : (Value.slice AC CH.length cC).ownBlock = some g7 ∨ w'.heap.size ≤ g7)
    (hb6 : w''.heap[p6]? = some (tyC ((CH.length : Int) + 1 + 1) a a (.slice (some ⟨g7, 0, none⟩) (CH.length + 1) c7) 3 (.slice none 0 0))) (hg : GE (fun j => j = p6 ∨ (Value.slice AC CH.length cC).ownBlock = some j) w' w'') :
    TcI W H B p5 p6 mk a (CH ++ [s]) ns ls ds V7 V8 N X (some ⟨g7, 0, none⟩) c7 q w'' := by
  have hH := h.hH
  have h5 := h.h5
  have h6 := h.h6
  have hB := h.hB
  have nc : ∀ j, (Value.slice AC CH.length cC).ownBlock = some j → B ≤ j := fun j e => (h.oc.lt j e).1
  have hlow : ∀ j, j < B → j ≠ p6 → j < w'.heap.size → w''.heap[j]? = w'.heap[j]? := fun j hj hn hs => hg.blk j hs fun e => by
    rcases e with e | e
    · exact hn e
    · have := nc j e; omega
  have hHs := h.dl.hd.lt
  have keepI : ∀ {v : Value} {l : List Int}, OwnI w' B v l → OwnI w'' B v l := fun {v l} ho => by
    refine ⟨ho.1, ?_⟩
    rcases ho.2 with hh | ⟨g, cap, cur, hv, hb, hgg, r⟩
    · exact .inl hh
    · refine .inr ⟨g, cap, cur, hv, hb, (hg.blk g (heap_lt hgg) fun e => ?_).trans hgg, r⟩
      rcases e with e | e
      · omega
      · exact Own.ne' h.oc hgg (by decide) e
  have hl1 : (CH ++ [s]).length = CH.length + 1 := by simp
  refine ⟨⟨h.dl.hd.kept fun j hj => hlow j (by omega) (by omega) (by omega), ⟨hg.os.trans h.dl.gr.os, hg.tape.trans h.dl.gr.tape, hg.output.trans h.dl.gr.output, Nat.le_trans h.dl.gr.size hg.size, fun j hj hn => ?_⟩⟩, hH, h5, h6, hB, (hlow p5 (by omega) (by omega) (heap_lt h.b5)).trans h.b5, h.x, ?_, keepI h.o7, keepI h.o8, ?_, h.ap, ?_⟩
  · exact (hg.blk j (Nat.lt_of_lt_of_le hj h.dl.gr.size) fun e => by
      rcases e with e | e
      · omega
      · have := nc j e; omega).trans (h.dl.gr.block j hj hn)
  · rw [hb6, hl1]; push_cast; rfl
  · rw [hl1]; exact h7
  · refine h.st.step hg.size (fun j hj he => hg.blk j hj fun e => he ?_) fun j hj e => ?_
    · rcases e with e | e
      · exact .inr (.inr (.inl e))
      · exact .inr (.inr (.inr (.inr (.inr (.inl e)))))
    · rcases e with e | e | e | e | e | e | e
      · exact .inl e
      · exact .inr (.inl e)
      · exact .inr (.inr (.inl e))
      · exact .inr (.inr (.inr (.inl e)))
      · exact .inr (.inr (.inr (.inr (.inl e))))
      · have e' : some g7 = some j := e
        injection e' with e'
        rcases l7 with l | l
        · exact .inr (.inr (.inr (.inr (.inr (.inl (by rw [l, e']))))))
        · omega
      · exact .inr (.inr (.inr (.inr (.inr (.inr e)))))
end
end Go.Proofs.Ytgnjknihgjdedaa
