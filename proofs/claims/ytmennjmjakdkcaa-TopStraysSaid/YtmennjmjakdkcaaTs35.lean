/- TopStrays 35: HdOf, TopT, HdAb, SameR, Book9, Herding. -/
import Derived.Test.YtmennjmjakdkcaaTs25
import Derived.Test.YtmennjmjakdkcaaTs07
import Derived.Deep.RegionHeld3
import Derived.Test.YtmennjmjakdkcaaTs13
import Derived.Test.YtmennjmjakdkcaaTs34
import Derived.Test.YtmennjmjakdkcaaTs28
import Derived.Test.YtmennjmjakdkcaaTs11
import Derived.Test.YtmennjmjakdkcaaTs05
import Derived.Test.YtmennjmjakdkcaaTs27
import Derived.StillTail
import Derived.Test.YtmennjmjakdkcaaTs31
import Derived.Laws.MakeOwn
namespace Go.Proofs.Ytmennjmjakdkcaa
open Go.RowKit
set_option linter.unusedVariables false
set_option linter.unusedSimpArgs false

theorem flat_set {α : Type} {enc : α → List Value} {sz j : Nat} {x y : α} {u : Value} (hsz : ∀ x, (enc x).length = sz) (hj : j < sz) (hy : enc y = (enc x).set j u) : ∀ (l : List α) (k : Nat), l[k]? = some x → (l.set k y).flatMap enc = (l.flatMap enc).set (k * sz + j) u
  | [], k, h => by simp at h
  | a :: r, 0, h => by
    simp at h
    subst h
    rw [List.set_cons_zero, List.flatMap_cons, List.flatMap_cons, hy, Nat.zero_mul, Nat.zero_add, List.set_append_left _ _ (by rw [hsz]; exact hj)]
  | a :: r, k + 1, h => by
    rw [List.set_cons_succ, List.flatMap_cons, List.flatMap_cons, flat_set hsz hj hy r k (by simpa using h), List.set_append_right _ _ (by rw [hsz, Nat.succ_mul]; omega), hsz, show (k + 1) * sz + j - sz = k * sz + j by rw [Nat.succ_mul]; omega]
theorem flatGet {α : Type} {enc : α → List Value} {sz j : Nat} {x : α} {u : Value} (hsz : ∀ x, (enc x).length = sz) (hj : j < sz) (hu : (enc x)[j]? = some u) : ∀ (l : List α) (k : Nat), l[k]? = some x → (l.flatMap enc)[k * sz + j]? = some u
  | [], k, h => by simp at h
  | a :: r, 0, h => by
    simp at h
    subst h
    rw [List.flatMap_cons, Nat.zero_mul, Nat.zero_add, List.getElem?_append_left (by rw [hsz]; exact hj)]
    exact hu
  | a :: r, k + 1, h => by
    rw [List.flatMap_cons, List.getElem?_append_right (by rw [hsz, Nat.succ_mul]; omega), hsz, show (k + 1) * sz + j - sz = k * sz + j by rw [Nat.succ_mul]; omega]
    exact flatGet hsz hj hu r k (by simpa using h)
/-- a cell of an element of an own slice: where it lies, and what a store leaves -/
theorem Own.putC {α : Type} {enc : α → List Value} {e : TypeId} {sz base n c : Nat} {A : Option Addr} {w : World} {l : List α} (hsz : ∀ x, (enc x).length = sz) (h : Own enc e sz w base (.slice A n c) l) {k : Nat} {x : α} (hk : l[k]? = some x) :
    ∃ g, A = some ⟨g, 0, none⟩ ∧ base ≤ g ∧ g < w.heap.size ∧ n = l.length ∧ n ≤ c ∧ c ≤ maxLen ∧ (∃ cs, w.heap[g]? = some (Obj.cells cs e (0, 0))) ∧ (∀ j u, (enc x)[j]? = some u → w.cell? ⟨g, k * sz + j, none⟩ = some u) ∧ (∀ o, w.frozen? ⟨g, o, none⟩ = false) ∧
      ∀ (j : Nat) (u : Value) (y : α), j < sz → enc y = (enc x).set j u → Own enc e sz (w.setCell ⟨g, k * sz + j, none⟩ u) base (.slice A n c) (l.set k y) := by
  have hkl : k < l.length := (List.getElem?_eq_some_iff.1 hk).1
  rcases h.2 with ⟨hv, h0⟩ | ⟨g, cap, cur, hv, hg, hh, hnc, hcm, hs, htk⟩
  · omega
  · cases hv
    have hfl := flat_len hsz l
    have hlt : ∀ j, j < sz → k * sz + j < l.length * sz := fun j hj => by
      have : (k + 1) * sz ≤ l.length * sz := Nat.mul_le_mul_right _ (by omega)
      rw [Nat.succ_mul] at this
      omega
    refine ⟨g, rfl, hg, heap_lt hh, rfl, hnc, hcm, ⟨_, hh⟩, fun j u hu => ?_, fun o => frz hh o, fun j u y hj hy => ⟨by rw [flat_len hsz, List.length_set], .inr ⟨g, c, cur.setIfInBounds (k * sz + j) u, by rw [List.length_set], hg, set_blk hh, by rw [List.length_set]; exact hnc, hcm, by simpa using hs, ?_⟩⟩⟩
    · have hj : j < sz := by have := (List.getElem?_eq_some_iff.1 hu).1; rw [hsz] at this; exact this
      have hm := flatGet hsz hj hu l k hk
      rw [← htk, List.getElem?_take_of_lt (hlt j hj), Array.getElem?_toList] at hm
      unfold World.cell?
      simp [hh, hm]
    · rw [Array.toList_setIfInBounds, List.take_set, List.length_set, htk, flat_set hsz hj hy l k hk]

/-- a herd book of the call's own -/
structure HbO (w : World) (base : Nat) (b : Hb) : Prop where
  m : OwnM w base b.vm b.l
  k : OwnI w base b.vk b.ks
  h : OwnG w base b.vh b.hs
  d : OwnD w base b.vd b.ds
section
variable {w w' : World} {base B : Nat} {b : Hb}
theorem HbO.below (h : HbO w base b) (hb : Below B w w') (hB : w.heap.size ≤ B) : HbO w' base b := ⟨h.m.below hb hB, h.k.below hb hB, h.h.below hb hB, h.d.below hb hB⟩
theorem HbO.mono {c : Nat} (h : HbO w base b) (hc : c ≤ base) : HbO w c b := ⟨h.m.mono hc, h.k.mono hc, h.h.mono hc, h.d.mono hc⟩
theorem HbO.inn (h : HbO w base b) : HbIn w b := by
  obtain ⟨A1, c1, e1, m1, m2, m3⟩ := h.m.form lenMk
  obtain ⟨A2, c2, e2, k1, k2, k3⟩ := h.k.form lenInt
  obtain ⟨A3, c3, e3, h1, h2, h3⟩ := h.h.form
  obtain ⟨A4, c4, e4, d1, d2, d3⟩ := h.d.form lenDe
  injection e1 with a1 _ b1
  injection e2 with a2 _ b2
  injection e3 with a3 _ b3
  injection e4 with a4 _ b4
  subst a1 b1 a2 b2 a3 b3 a4 b4
  exact ⟨m1, m2, m3, k1, k2, k3, h1, h2, h3, d1, d2, d3⟩
theorem OwnG.keptH {v : Value} {ls : List (List Int)} {H : Nat} (h : OwnG w base v ls) (hg : w.grownBy w' (some H)) (hH : H < base) : OwnG w' base v ls := by
  obtain ⟨mv, h1, h2⟩ := h
  exact ⟨mv, h1.kept hg (.inr (fun e => by have := (h1.lt _ e).1; omega)), Rws.kept h2 hg (fun x hx => .inr (fun e => by have := (Rws.ltv h2 hx _ e).1; omega))⟩
theorem Own.keptH {α : Type} {enc : α → List Value} {e : TypeId} {sz H : Nat} {v : Value} {l : List α} (h : Own enc e sz w base v l) (hg : w.grownBy w' (some H)) (hH : H < base) : Own enc e sz w' base v l :=
  h.kept hg (.inr (fun e => by have := (h.lt _ e).1; omega))
theorem HbO.dealt {H N : Nat} (h : HbO w base b) (hd : Dealt w w' H N) (hH : H < base) : HbO w' base b := ⟨h.m.keptH hd.gr hH, h.k.keptH hd.gr hH, h.h.keptH hd.gr hH, h.d.keptH hd.gr hH⟩
end
theorem deedE_inv {n nf : Nat} {d : De} (h : deedE n nf d = 0) : (1 ≤ d.kind ∧ d.kind ≤ 6) ∧ (0 ≤ d.flock ∧ d.flock < nf) ∧ fldE n nf d = 0 ∧ d = namD d := by
  unfold deedE at h
  obtain ⟨h1, h⟩ := ite0 (by decide) h
  obtain ⟨h2, h⟩ := ite0 (by decide) h
  split at h
  · exact absurd h (by assumption)
  rename_i h3
  obtain ⟨h4, -⟩ := ite0 (by decide) h
  exact ⟨btw_iff.1 ((Bool.not_eq_false _).mp h1), ownB_iff.1 ((Bool.not_eq_false _).mp h2), Classical.not_not.1 h3, Classical.not_not.1 h4⟩
/-- another number of sheep, from 1 to 3 -/
theorem deedE_many {n nf : Nat} {d : De} {x : Int} (h : deedE n nf d = 0) (h5 : d.kind ≠ 5) (hx : 1 ≤ x ∧ x ≤ 3) : deedE n nf { d with many := x } = 0 := by
  obtain ⟨h1, h2, h3, h4⟩ := deedE_inv h
  obtain ⟨kind, flock, owner, other, tof, many, err, s⟩ := d
  dsimp only at *
  refine deedE_ok h1 h2 ?_ ?_
  · unfold fldE at h3 ⊢
    dsimp only at h3 ⊢
    obtain e | e | e | e | e : kind = 1 ∨ kind = 2 ∨ kind = 3 ∨ kind = 4 ∨ kind = 6 := by omega
    all_goals subst e
    · rw [if_pos (by decide)] at h3 ⊢
      obtain ⟨a1, h3⟩ := ite0 (by decide) h3
      rw [if_neg a1, if_neg (by rw [btw_iff.2 ⟨hx.1, by omega⟩]; decide)]
    · rw [if_neg (by decide), if_pos (by decide)] at h3 ⊢
      obtain ⟨a1, h3⟩ := ite0 (by decide) h3
      obtain ⟨a2, h3⟩ := ite0 (by decide) h3
      rw [if_neg a1, if_neg a2, if_neg (by rw [btw_iff.2 ⟨hx.1, by omega⟩]; decide)]
    · rw [if_pos (by decide)] at h3 ⊢
      obtain ⟨a1, h3⟩ := ite0 (by decide) h3
      rw [if_neg a1, if_neg (by rw [btw_iff.2 ⟨hx.1, by omega⟩]; decide)]
    · rw [if_neg (by decide), if_neg (by decide), if_pos (by decide)]
      rw [if_neg (by rw [btw_iff.2 ⟨hx.1, by omega⟩]; decide)]
    · rw [if_neg (by decide), if_neg (by decide), if_neg (by decide), if_neg (by decide)] at h3 ⊢
      obtain ⟨a1, -⟩ := ite0 (by decide) h3
      rw [if_neg (fun h => h.elim (fun h => by rw [btw_iff.2 ⟨by omega, by omega⟩] at h; cases h) fun h => a1 (.inr h))]
  · unfold namD at h4 ⊢
    dsimp only at h4 ⊢
    obtain e | e | e | e | e : kind = 1 ∨ kind = 2 ∨ kind = 3 ∨ kind = 4 ∨ kind = 6 := by omega
    all_goals subst e; simp at h4 ⊢; simp [h4]

/-- while some deeds are told otherwise -/
structure HoS (w : World) (H g B nD : Nat) (b : Hb) (M : Nat) (ds : List De) (wr : World) : Prop where
  dl : ds.length = nD
  de : ∀ d ∈ ds, deedE b.l.length b.ks.length d = 0
  m : OwnM wr (g + 1) b.vm b.l
  k : OwnI wr (g + 1) b.vk b.ks
  h : OwnG wr (g + 1) b.vh b.hs
  d : OwnD wr (g + 1) (.slice b.Ad nD b.cd) ds
  bx : wr.heap[B]? = some (boxO b.t b.vm b.vk b.vh (.slice b.Ad nD b.cd))
  bg : wr.heap[g]? = some (boxO 0 (.slice none 0 0) (.slice none 0 0) (.slice none 0 0) (.slice none 0 0))
  dt : Dealt w wr H M
  z : H < g ∧ g < B ∧ w.heap.size ≤ g
section
variable {w wr w' : World} {H g B nD M M' : Nat} {b : Hb} {ds : List De}
theorem HoS.dealt (a : HoS w H g B nD b M ds wr) (hd : Dealt wr w' H M') : HoS w H g B nD b M' ds w' := by
  have hz := a.z
  exact ⟨a.dl, a.de, a.m.keptH hd.gr (by omega), a.k.keptH hd.gr (by omega), a.h.keptH hd.gr (by omega), a.d.keptH hd.gr (by omega), hd.blk a.bx (by omega), hd.blk a.bg (by omega), a.dt.trans hd, a.z⟩
theorem HoS.mono (a : HoS w H g B nD b M ds wr) (h : M ≤ M') : HoS w H g B nD b M' ds wr := ⟨a.dl, a.de, a.m, a.k, a.h, a.d, a.bx, a.bg, a.dt.mono h, a.z⟩
theorem HoS.at (a : HoS w H g B nD b M ds wr) {k : Nat} (hk : k < nD) : ∃ gd d, b.Ad = some ⟨gd, 0, none⟩ ∧ ds[k]? = some d ∧ nD ≤ b.cd ∧ b.cd ≤ maxLen ∧ wr.cell? ⟨gd, k * 12, none⟩ = some (.int .i64 d.kind) ∧ wr.cell? ⟨gd, k * 12 + 5, none⟩ = some (.int .i64 d.many) ∧ wr.frozen? ⟨gd, k * 12 + 5, none⟩ = false ∧
    gd < wr.heap.size ∧ gd ≠ H ∧ gd ≠ B ∧ ∀ x, d.kind ≠ 5 → 1 ≤ x → x ≤ 3 → HoS w H g B nD b M (ds.set k { d with many := x }) (wr.setCell ⟨gd, k * 12 + 5, none⟩ (.int .i64 x)) := by
  have hz := a.z
  obtain ⟨d, hd⟩ : ∃ d, ds[k]? = some d := ⟨_, List.getElem?_eq_getElem (by rw [a.dl]; exact hk)⟩
  obtain ⟨gd, e, h1, h2, h3, h4, h5, ⟨cs, hb⟩, h6, h7, h8⟩ := a.d.putC lenDe hd
  have hgB : gd ≠ B := fun e => by subst e; have := a.bx; rw [hb] at this; cases this
  have hgg : gd ≠ g := by omega
  refine ⟨gd, d, e, hd, h4, h5, h6 0 _ rfl, h6 5 _ rfl, h7 _, h2, by omega, hgB, fun x hk5 hx1 hx2 => ?_⟩
  have hgr := grownBy_cell wr gd (k * 12 + 5) (.int .i64 x)
  have hvd : (Value.slice b.Ad nD b.cd).ownBlock = some gd := by rw [e]; rfl
  have key : ∀ {α : Type} {enc : α → List Value} {e : TypeId} {sz : Nat} {v : Value} {l : List α}, Own enc e sz wr (g + 1) v l → e ≠ 38 → Own enc e sz (wr.setCell ⟨gd, k * 12 + 5, none⟩ (.int .i64 x)) (g + 1) v l := fun ho he => ho.kept hgr (.inr (ho.ne' hb he))
  obtain ⟨mv, g1, g2⟩ := a.h
  refine ⟨by rw [List.length_set]; exact a.dl, fun d' hd' => ?_, key a.m (by decide), key a.k (by decide), ⟨mv, key g1 (by decide), Rws.kept g2 hgr (fun y hy => .inr (Rws.ne g2 hy hb (by decide)))⟩, h8 5 (.int .i64 x) { d with many := x } (by decide) rfl, (hgr.block B (heap_lt a.bx) (fun e => hgB (by simpa using e.symm))).trans a.bx, (hgr.block g (heap_lt a.bg) (fun e => hgg (by simpa using e.symm))).trans a.bg, a.dt.set (by show H < gd; omega) (by show w.heap.size ≤ gd; omega) _, a.z⟩
  rcases List.mem_or_eq_of_mem_set hd' with h | rfl
  · exact a.de _ h
  · exact deedE_many (a.de _ (List.mem_of_getElem? hd)) hk5 ⟨hx1, hx2⟩
end
end Go.Proofs.Ytmennjmjakdkcaa
namespace Go.Proofs.Ytmennjmjakdkcaa
open Go.RowKit
set_option linter.unusedVariables false
set_option linter.unusedSimpArgs false

/-- what an operation of a tag may write -/
def R22 (v7 v8 : Value) : Nat → Option Nat
  | 1 => v7.ownBlock
  | 2 => v8.ownBlock
  | _ => none
def T22 (v7 v8 : Value) (j : Nat) (w w' : World) : Prop := w.grownBy w' (R22 v7 v8 j)
theorem T22.rf {v7 v8 : Value} {j : Nat} (w : World) : T22 v7 v8 j w w := World.grownBy.refl w _
theorem R22.cases (v7 v8 : Value) (i : Nat) : R22 v7 v8 i = none ∨ (i = 1 ∧ R22 v7 v8 i = v7.ownBlock) ∨ (i = 2 ∧ R22 v7 v8 i = v8.ownBlock) := by
  match i with
  | 0 => exact .inl rfl
  | 1 => exact .inr (.inl ⟨rfl, rfl⟩)
  | 2 => exact .inr (.inr ⟨rfl, rfl⟩)
  | n + 3 => exact .inl rfl
theorem R22.ne {v7 v8 : Value} {k : Nat} (h2 : v7.ownBlock ≠ some k) (h3 : v8.ownBlock ≠ some k) (i : Nat) : some k ≠ R22 v7 v8 i := fun e => by
  rcases R22.cases v7 v8 i with h | ⟨_, h⟩ | ⟨_, h⟩ <;> rw [h] at e
  · cases e
  · exact h2 e.symm
  · exact h3 e.symm
structure P22Z (ws : World) (v7 v8 : Value) (w : World) : Prop where
  os : w.os = ws.os
  tape : w.tape = ws.tape
  output : w.output = ws.output
  sz : ws.heap.size ≤ w.heap.size
  bk : ∀ k, k < ws.heap.size → v7.ownBlock ≠ some k → v8.ownBlock ≠ some k → w.heap[k]? = ws.heap[k]?
theorem P22Z.cell {ws w : World} {v7 v8 : Value} (h : P22Z ws v7 v8 w) {k o : Nat} {u : Value} (hk : k < ws.heap.size) (h1 : v7.ownBlock ≠ some k) (h2 : v8.ownBlock ≠ some k) (hc : ws.cell? ⟨k, o, none⟩ = some u) : w.cell? ⟨k, o, none⟩ = some u := by
  unfold World.cell? at hc ⊢
  rw [h.bk k hk h1 h2]
  exact hc
theorem P22Z.below {ws w : World} {v7 v8 : Value} (h : P22Z ws v7 v8 w) {B : Nat} (hB : B ≤ ws.heap.size) (h1 : ∀ k, v7.ownBlock = some k → B ≤ k) (h2 : ∀ k, v8.ownBlock = some k → B ≤ k) : Below B ws w :=
  ⟨h.os, h.tape, h.output, h.sz, fun k hk => h.bk k (by omega) (fun e => by have := h1 k e; omega) (fun e => by have := h2 k e; omega)⟩
/-- what each tag may count on -/
def P22 (ws : World) (base : Nat) (v7 : Value) (ss : List Sg) (v8 : Value) (os : List Int) (k : Nat) (w : World) : Prop :=
  match k with
  | 0 => P22Z ws v7 v8 w
  | 1 => OwnS w base v7 ss
  | 2 => OwnI w base v8 os
  | _ => True
structure S22 (ws : World) (base : Nat) (v7 : Value) (ss : List Sg) (v8 : Value) (os : List Int) : Prop where
  s : OwnS ws base v7 ss
  o : OwnI ws base v8 os
  z : base ≤ ws.heap.size
section
variable {ws w w' : World} {base : Nat} {v7 v8 : Value} {ss : List Sg} {os : List Int}
theorem P22.start (a : S22 ws base v7 ss v8 os) (k : Nat) : P22 ws base v7 ss v8 os k ws := by
  match k with
  | 0 => exact (show P22Z ws v7 v8 ws from ⟨rfl, rfl, rfl, Nat.le_refl _, fun _ _ _ _ => rfl⟩)
  | 1 => exact a.s
  | 2 => exact a.o
  | n + 3 => exact trivial
theorem P22.st (a : S22 ws base v7 ss v8 os) (k i : Nat) (w w' : World) (hik : i ≠ k ∨ k = 0) (hT : T22 v7 v8 i w w') (hp : P22 ws base v7 ss v8 os k w) : P22 ws base v7 ss v8 os k w' := by
  have hT' : w.grownBy w' (R22 v7 v8 i) := hT
  match k with
  | 0 =>
    have hp' : P22Z ws v7 v8 w := hp
    exact (show P22Z ws v7 v8 w' from ⟨hT'.os.trans hp'.os, hT'.tape.trans hp'.tape, hT'.output.trans hp'.output, Nat.le_trans hp'.sz hT'.size, fun k hk h1 h2 =>
      (hT'.block k (Nat.lt_of_lt_of_le hk hp'.sz) (R22.ne h1 h2 i)).trans (hp'.bk k hk h1 h2)⟩)
  | 1 =>
    have hp' : OwnS w base v7 ss := hp
    refine (show OwnS w' base v7 ss from hp'.kept hT' ?_)
    rcases R22.cases v7 v8 i with h | ⟨h0, h⟩ | ⟨_, h⟩ <;> rw [h]
    · exact ownB_em
    · subst h0; rcases hik with h | h <;> omega
    · exact own_ne a.s a.o (by decide)
  | 2 =>
    have hp' : OwnI w base v8 os := hp
    refine (show OwnI w' base v8 os from hp'.kept hT' ?_)
    rcases R22.cases v7 v8 i with h | ⟨_, h⟩ | ⟨h0, h⟩ <;> rw [h]
    · exact ownB_em
    · exact own_ne a.o a.s (by decide)
    · subst h0; rcases hik with h | h <;> omega
  | n + 3 => exact trivial
/-- a block of one element, the region's own -/
def F22B (v7 v8 : Value) (o : Obj) : VF := fun v w => ∃ k, v = .slice (some ⟨k, 0, none⟩) 1 1 ∧ w.heap[k]? = some o ∧ v7.ownBlock ≠ some k ∧ v8.ownBlock ≠ some k
/-- the strays, the owners, one more -/
def F22S (v8 : Value) (base : Nat) (ss : List Sg) : VF := fun v w => ∃ g n c, v = .slice (some ⟨g, 0, none⟩) n c ∧ OwnS w base v ss ∧ v8.ownBlock ≠ some g
def F22O (v7 : Value) (base : Nat) (os : List Int) : VF := fun v w => ∃ g n c, v = .slice (some ⟨g, 0, none⟩) n c ∧ OwnI w base v os ∧ v7.ownBlock ≠ some g
theorem F22B.st {o : Obj} (i : Nat) (v : Value) (w w' : World) (hT : T22 v7 v8 i w w') (h : F22B v7 v8 o v w) : F22B v7 v8 o v w' := by
  obtain ⟨k, h1, h3, h5, h6⟩ := h
  have hT' : w.grownBy w' (R22 v7 v8 i) := hT
  exact ⟨k, h1, (hT'.block k (heap_lt h3) (R22.ne h5 h6 i)).trans h3, h5, h6⟩
theorem F22S.st {ss : List Sg} (i : Nat) (v : Value) (w w' : World) (hik : i ≠ 1 ∨ 1 = 0) (hT : T22 v7 v8 i w w') (h : F22S v8 base ss v w) : F22S v8 base ss v w' := by
  obtain ⟨g, n, c, rfl, h3, h6⟩ := h
  have hT' : w.grownBy w' (R22 v7 v8 i) := hT
  refine ⟨g, n, c, rfl, h3.kept hT' (.inr fun e => ?_), h6⟩
  rcases R22.cases v7 v8 i with h | ⟨h0, h⟩ | ⟨_, h⟩ <;> rw [h] at e
  · cases e
  · subst h0; rcases hik with h | h <;> omega
  · exact h6 e.symm
theorem F22O.st {os : List Int} (i : Nat) (v : Value) (w w' : World) (hik : i ≠ 2 ∨ 2 = 0) (hT : T22 v7 v8 i w w') (h : F22O v7 base os v w) : F22O v7 base os v w' := by
  obtain ⟨g, n, c, rfl, h3, h6⟩ := h
  have hT' : w.grownBy w' (R22 v7 v8 i) := hT
  refine ⟨g, n, c, rfl, h3.kept hT' (.inr fun e => ?_), h6⟩
  rcases R22.cases v7 v8 i with h | ⟨_, h⟩ | ⟨h0, h⟩ <;> rw [h] at e
  · cases e
  · exact h6 e.symm
  · subst h0; rcases hik with h | h <;> omega
theorem F22B.new (a : S22 ws base v7 ss v8 os) (hz : ws.heap.size ≤ w.heap.size) (cs : Array Value) (t : TypeId) :
    T22 v7 v8 0 w (w.alloc (Obj.cells cs t)) ∧ F22B v7 v8 (Obj.cells cs t) (.slice (some ⟨w.heap.size, 0, none⟩) 1 1) (w.alloc (Obj.cells cs t)) :=
  ⟨World.grownBy_alloc w _ _, w.heap.size, rfl, heap_alloc_new w _, fun e => by have := (a.s.lt _ e).2; omega, fun e => by have := (a.o.lt _ e).2; omega⟩
theorem F22S.new (a : S22 ws base v7 ss v8 os) (hz : P22Z ws v7 v8 w) {g' n' c' : Nat} {ss' : List Sg} (hk : OwnS w' base (.slice (some ⟨g', 0, none⟩) n' c') ss') (hg : w.grownBy w' v7.ownBlock)
    (hl : v7.ownBlock = some g' ∨ g' = w.heap.size) : T22 v7 v8 1 w w' ∧ F22S v8 base ss' (.slice (some ⟨g', 0, none⟩) n' c') w' := by
  have hsz := hz.sz
  refine ⟨hg, g', n', c', rfl, hk, fun e => ?_⟩
  rcases hl with hl | hl
  · rcases own_ne a.s a.o (by decide) with h | h
    · rw [hl] at h; cases h
    · exact h (hl.trans e.symm)
  · have := (a.o.lt _ e).2; omega
theorem F22O.new (a : S22 ws base v7 ss v8 os) (hz : P22Z ws v7 v8 w) {g' n' c' : Nat} {os' : List Int} (hk : OwnI w' base (.slice (some ⟨g', 0, none⟩) n' c') os') (hg : w.grownBy w' v8.ownBlock)
    (hl : v8.ownBlock = some g' ∨ g' = w.heap.size) : T22 v7 v8 2 w w' ∧ F22O v7 base os' (.slice (some ⟨g', 0, none⟩) n' c') w' := by
  have hsz := hz.sz
  refine ⟨hg, g', n', c', rfl, hk, fun e => ?_⟩
  rcases hl with hl | hl
  · rcases own_ne a.o a.s (by decide) with h | h
    · rw [hl] at h; cases h
    · exact h (hl.trans e.symm)
  · have := (a.s.lt _ e).2; omega
end
/-- what has been laid by so far -/
structure FT (G : Nat) (W : World) (b : Hb) (i : Nat) (v7 v8 : Value) (wr : World) (ss : List Sg) (os mis : List Int) : Prop where
  s : OwnS wr (G + 1) v7 ss
  o : OwnI wr (G + 1) v8 os
  m : MisB wr G mis
  bw : Below G W wr
  l : ss.length = os.length
  i : ss.length ≤ i
  ml : mis.length = b.l.length
  c : ∀ o : Nat, o < b.l.length → mis.getD o 0 = (cntI os (o : Int) : Int)
  f : FitL b.t b.l ss os
  z : G + 1 ≤ wr.heap.size
theorem FT.start {G : Nat} {W W2 : World} {b : Hb} (hG : G = W.heap.size) (hW : W2 = W.alloc (.cells (Array.replicate b.l.length (Value.int .i64 0)) 3)) : FT G W b 0 (.slice none 0 0) (.slice none 0 0) W2 [] [] (List.replicate b.l.length 0) := by
  subst hG hW
  refine ⟨Own.nil_, Own.nil_, ?_, bal0 W _, rfl, Nat.le_refl _, by simp, fun o ho => ?_, fun k s o hs => by simp at hs, by simp⟩
  · unfold MisB
    rw [List.map_replicate, List.toArray_replicate]
    exact alloc_at rfl
  · rw [List.getD_eq_getElem?_getD, List.getElem?_replicate, if_pos ho]
    rfl
theorem FT.mono {G : Nat} {W wr : World} {b : Hb} {i j : Nat} {v7 v8 : Value} {ss : List Sg} {os mis : List Int} (h : FT G W b i v7 v8 wr ss os mis) (hij : i ≤ j) : FT G W b j v7 v8 wr ss os mis :=
  ⟨h.s, h.o, h.m, h.bw, h.l, Nat.le_trans h.i hij, h.ml, h.c, h.f, h.z⟩
theorem FT.next {G : Nat} {W wr ws w8 : World} {b : Hb} {i o : Nat} {v6 v7 u6 u7 : Value} {ss : List Sg} {os mis : List Int} {d : De} {y : Int} (h : FT G W b i u6 u7 wr ss os mis) (hb : Below wr.heap.size wr ws) (hp : P22Z ws u6 u7 w8)
    (hs : F22S u7 (G + 1) (ss ++ [d.s]) v6 w8) (ho : F22O u6 (G + 1) (os ++ [(o : Int)]) v7 w8) (hS : StrayL b i o d) (hy : y = mis.getD o 0) (hGW : G = W.heap.size) :
    FT G W b (i + 1) v6 v7 (w8.setCell ⟨G, o, none⟩ (.int .i64 (y + 1))) (ss ++ [d.s]) (os ++ [(o : Int)]) (mis.set o (y + 1)) := by
  obtain ⟨g1, n1, c1, -, hs, -⟩ := hs
  obtain ⟨g2, n2, c2, -, ho, -⟩ := ho
  have hz := h.z
  have hsz := hb.size
  have hu6 : ∀ k, u6.ownBlock = some k → G + 1 ≤ k := fun k hk => (h.s.lt k hk).1
  have hu7 : ∀ k, u7.ownBlock = some k → G + 1 ≤ k := fun k hk => (h.o.lt k hk).1
  have hfar : ∀ j, j ≠ G → (w8.setCell ⟨G, o, none⟩ (.int .i64 (y + 1))).heap[j]? = w8.heap[j]? := fun j hj => Below.heap_setCell w8 ⟨G, o, none⟩ _ j hj
  have hup : ∀ j, G + 1 ≤ j → (w8.setCell ⟨G, o, none⟩ (.int .i64 (y + 1))).heap[j]? = w8.heap[j]? := fun j hj => hfar j (by omega)
  have hb8 : Below (G + 1) ws w8 := hp.below (by omega) hu6 hu7
  have hbw : Below (G + 1) wr w8 := (hb.mono (by omega)).trans hb8
  have hm8 : MisB w8 G mis := (hbw.block G (by omega)).trans h.m
  obtain ⟨m, hm, hf⟩ := hS.m
  have hi := h.i
  refine ⟨hs.upon hup, ho.upon hup, hm8.set _, ?_, by simp [h.l], by simp; omega, by simpa using h.ml, fun o' ho' => ?_, h.f.snoc h.l hS.sn hm hf, by have := hb8.size; simp [World.setCell]; omega⟩
  · exact Below.setCell (h.bw.trans (hbw.mono (by omega))) (p := ⟨G, o, none⟩) (by dsimp; omega) _
  · rw [cntI_snoc]
    have hml := h.ml
    by_cases hoo : o' = o
    · subst hoo
      have hz := h.c o' ho'
      rw [if_pos rfl, List.getD_eq_getElem?_getD, List.getElem?_set_self (by omega)]
      show y + 1 = _
      rw [hy, hz]
      simp
    · have hz := h.c o' ho'
      rw [if_neg (by omega), List.getD_eq_getElem?_getD, List.getElem?_set_ne (fun e => hoo e.symm), ← List.getD_eq_getElem?_getD, hz]
      simp
theorem FT.sees {G : Nat} {W wr : World} {b : Hb} {i : Nat} {v7 v8 : Value} {ss : List Sg} {os mis : List Int} (h : FT G W b i v7 v8 wr ss os mis) : ∀ s ∈ ss, seen s 9 6 = 0 := fun s hs => by
  obtain ⟨k, hk⟩ := List.getElem?_of_mem hs
  have hkl := (List.getElem?_eq_some_iff.1 hk).1
  exact (h.f k s _ hk (List.getElem?_eq_getElem (show k < os.length by have := h.l; omega))).1
theorem FT.mb {G : Nat} {W wr : World} {b : Hb} {i : Nat} {v7 v8 : Value} {ss : List Sg} {os mis : List Int} (h : FT G W b i v7 v8 wr ss os mis) : ∀ x ∈ mis, 0 ≤ x ∧ x ≤ (ss.length : Int) := fun x hx => by
  obtain ⟨k, hk⟩ := List.getElem?_of_mem hx
  have hkl := (List.getElem?_eq_some_iff.1 hk).1
  have h1 := h.c k (by have := h.ml; omega)
  rw [List.getD_eq_getElem?_getD, hk] at h1
  simp only [Option.getD_some] at h1
  have := cntI_le os (k : Int)
  have := h.l
  omega
theorem FT.law {G : Nat} {W wr : World} {b : Hb} {i : Nat} {v7 v8 : Value} {ss : List Sg} {os mis : List Int} (h : FT G W b i v7 v8 wr ss os mis) (hck : b.chk = 0) (hi : i ≤ 6) :
    gatherE b.t b.l ss mis = 0 ∧ homeE b.t b.l ss mis = 0 ∧ (homeL b.t b.l ss mis).length = ss.length ∧ leftR b.t b.l ss mis = [] ∧ (ownersR b.t b.l ss mis).length = ss.length ∧
      ∀ k, k < ss.length → ∃ row, (ownersR b.t b.l ss mis)[k]? = some row ∧ (∀ o, os[k]? = some o → o ∈ row) ∧ ∀ o, (homeL b.t b.l ss mis)[k]? = some o → o ∈ row := by
  have hok := checkH_ok hck
  have h1 := h.i
  have hge : gatherE b.t b.l ss mis = 0 := gather_zero hok.ck (by omega) h.sees h.ml fun x hx => by have := h.mb x hx; omega
  exact ⟨hge, found_law hok.n5 h.l h.f (fun o ho => Int.le_of_eq (h.c o ho).symm) (fun x hx => (h.mb x hx).1) hge⟩
end Go.Proofs.Ytmennjmjakdkcaa
namespace Go.Proofs.Ytmennjmjakdkcaa
open Go.RowKit Go.MapKept
set_option linter.unusedVariables false
set_option linter.unusedSimpArgs false

theorem Rns.get {w : World} {A : Option Addr} {n : Nat} {l : List Rn} (h : Sl eRn 2 w A n l) {k : Nat} (hk : k < n) :
    ∃ b off m, A = some ⟨b, off, none⟩ ∧ b < w.heap.size ∧ l[k]? = some m ∧ w.cell? ⟨b, off + k * 2, none⟩ = some (.int .i64 m.lo) ∧ w.cell? ⟨b, off + k * 2 + 1, none⟩ = some (.int .i64 m.hi) := by
  obtain ⟨b, off, x, hA, hx, hc⟩ := h.at_ hk
  have h0 := hc 0 _ rfl
  exact ⟨b, off, x, hA, cell_lt h0, hx, h0, hc 1 _ rfl⟩
end Go.Proofs.Ytmennjmjakdkcaa
namespace Go.Proofs.Ytmennjmjakdkcaa
open Go.RowKit
set_option linter.unusedVariables false
set_option linter.unusedSimpArgs false

theorem GridA.len {α : Type} {enc : α → List Value} {sz : Nat} {w : World} {A : Option Addr} {n : Nat} {ls : List (List α)} (h : GridA enc sz w A n ls) : ls.length = n := by
  obtain ⟨mv, h1, h2, _⟩ := h
  rw [← h2]; exact h1.len
end Go.Proofs.Ytmennjmjakdkcaa
namespace Go.Proofs.Ytmennjmjakdkcaa
open Go.RowKit
set_option linter.unusedVariables false
set_option linter.unusedSimpArgs false

/-- the worlds of a region that makes memory and writes the block r, which then reads as G says -/
def HB9 (r : Nat) (w : World) : Prop := ∃ t vm vk vh vd, w.heap[r]? = some (boxO t vm vk vh vd)
def TB9 (r : Nat) (G : World → Prop) (n : Nat) (w w' : World) : Prop := w.grownBy w' (some r) ∧ (HB9 r w → HB9 r w') ∧ (G w → G w')
theorem TB9.tr {r : Nat} {G : World → Prop} : ∀ n a b c, TB9 r G n a b → TB9 r G 1 b c → TB9 r G (n + 1) a c := fun n a b c h k => ⟨h.1.trans k.1, fun g => k.2.1 (h.2.1 g), fun g => k.2.2 (h.2.2 g)⟩
def G9 (r : Nat) (ms : List Mk) (hs : List (List Int)) (ds : List De) (w : World) : Prop := ∃ vm vk vh vd, w.heap[r]? = some (boxO 1 vm vk vh vd) ∧ OwnM w (r + 1) vm ms ∧ OwnI w (r + 1) vk [0, 1] ∧ OwnG w (r + 1) vh hs ∧ OwnD w (r + 1) vd ds
section
variable {r : Nat} {ms : List Mk} {hs : List (List Int)} {ds : List De}
theorem TB9.gr {n : Nat} {w w' : World} (hg : w.grownBy w' (some r)) (hr : w'.heap[r]? = w.heap[r]?) : TB9 r (G9 r ms hs ds) n w w' :=
  ⟨hg, fun ⟨t, vm, vk, vh, vd, h⟩ => ⟨t, vm, vk, vh, vd, hr.trans h⟩, fun ⟨vm, vk, vh, vd, h1, h2, h3, h4, h5⟩ => ⟨vm, vk, vh, vd, hr.trans h1, h2.keptH hg (by omega), h3.keptH hg (by omega), h4.keptH hg (by omega), h5.keptH hg (by omega)⟩⟩
theorem TB9.rf : ∀ w, TB9 r (G9 r ms hs ds) 1 w w := fun w => .gr (World.grownBy.refl _ _) rfl
theorem TB9.draw (w : World) : TB9 r (G9 r ms hs ds) 0 w { w with drawn := w.drawn + 1 } := .gr (grownBy_drew w 1 _) rfl
theorem TB9.bel {w w' : World} (hb : Below w.heap.size w w') (hr : r < w.heap.size) : TB9 r (G9 r ms hs ds) 1 w w' := .gr ⟨hb.os, hb.tape, hb.output, hb.size, fun k hk _ => hb.block k hk⟩ (hb.block r hr)
theorem TB9.sz {n : Nat} {w w' : World} (h : TB9 r (G9 r ms hs ds) n w w') (hr : r < w.heap.size) : r < w'.heap.size := Nat.lt_of_lt_of_le hr h.1.size
/-- a slice of the call's own -/
def OF {α : Type} (enc : α → List Value) (e : TypeId) (sz base n : Nat) (l : List α) : VF := fun v w => ∃ k, v = .slice (some ⟨k, 0, none⟩) n n ∧ Own enc e sz w base (.slice (some ⟨k, 0, none⟩) n n) l
def OFG (base n : Nat) (l : List (List Int)) : VF := fun v w => ∃ k, v = .slice (some ⟨k, 0, none⟩) n n ∧ OwnG w base (.slice (some ⟨k, 0, none⟩) n n) l
theorem OF.st {α : Type} {enc : α → List Value} {e : TypeId} {sz n : Nat} {l : List α} : ∀ m v w w', TB9 r (G9 r ms hs ds) m w w' → OF enc e sz (r + 1) n l v w → OF enc e sz (r + 1) n l v w' := fun m v w w' h ⟨k, h1, h2⟩ => ⟨k, h1, h2.keptH h.1 (by omega)⟩
theorem OFG.st {n : Nat} {l : List (List Int)} : ∀ m v w w', TB9 r (G9 r ms hs ds) m w w' → OFG (r + 1) n l v w → OFG (r + 1) n l v w' := fun m v w w' h ⟨k, h1, h2⟩ => ⟨k, h1, h2.keptH h.1 (by omega)⟩
theorem OF.new {α : Type} {enc : α → List Value} {e : TypeId} {sz : Nat} {w : World} (cs : Array Value) (l : List α) (hcs : cs.toList = l.flatMap enc) (henc : ∀ x, (enc x).length = sz) (hr : r < w.heap.size) (hm : l.length ≤ maxLen) :
    TB9 r (G9 r ms hs ds) 1 w (w.alloc (.cells cs e)) ∧ OF enc e sz (r + 1) l.length l (.slice (some ⟨w.heap.size, 0, none⟩) l.length l.length) (w.alloc (.cells cs e)) :=
  ⟨.bel (bal0 w _) hr, _, rfl, Own.lit w (r + 1) cs l hcs henc hr hm⟩
/-- the book's value -/
def F9 (r s nm nd : Nat) (hs : List (List Int)) (ds : List De) : VF := fun v w => ∃ k1 k2 k3, v = .agg #[.int .i64 1, .slice (some ⟨s, 0, none⟩) nm nm, .slice (some ⟨k1, 0, none⟩) 2 2, .slice (some ⟨k2, 0, none⟩) 2 2, .slice (some ⟨k3, 0, none⟩) nd nd] ∧
  OwnI w (r + 1) (.slice (some ⟨k1, 0, none⟩) 2 2) [0, 1] ∧ OwnG w (r + 1) (.slice (some ⟨k2, 0, none⟩) 2 2) hs ∧ OwnD w (r + 1) (.slice (some ⟨k3, 0, none⟩) nd nd) ds
theorem F9.st {s nm nd : Nat} : ∀ m v w w', TB9 r (G9 r ms hs ds) m w w' → F9 r s nm nd hs ds v w → F9 r s nm nd hs ds v w' := fun m v w w' h ⟨k1, k2, k3, h1, h2, h3, h4⟩ => ⟨k1, k2, k3, h1, h2.keptH h.1 (by omega), h3.keptH h.1 (by omega), h4.keptH h.1 (by omega)⟩
theorem G9.put {s nm nd k1 k2 k3 : Nat} {w : World} (hb : HB9 r w) (hm : OwnM w (r + 1) (.slice (some ⟨s, 0, none⟩) nm nm) ms) (h1 : OwnI w (r + 1) (.slice (some ⟨k1, 0, none⟩) 2 2) [0, 1]) (h2 : OwnG w (r + 1) (.slice (some ⟨k2, 0, none⟩) 2 2) hs) (h3 : OwnD w (r + 1) (.slice (some ⟨k3, 0, none⟩) nd nd) ds)
    {W : World} (hW : W = (((((w.setCell ⟨r, 0, none⟩ (.int .i64 1)).setCell ⟨r, 1, none⟩ (.slice (some ⟨s, 0, none⟩) nm nm)).setCell ⟨r, 2, none⟩ (.slice (some ⟨k1, 0, none⟩) 2 2)).setCell ⟨r, 3, none⟩ (.slice (some ⟨k2, 0, none⟩) 2 2)).setCell ⟨r, 4, none⟩ (.slice (some ⟨k3, 0, none⟩) nd nd))) :
    TB9 r (G9 r ms hs ds) 1 w W ∧ G9 r ms hs ds W := by
  obtain ⟨t, vm, vk, vh, vd, hb⟩ := hb
  have hW' : W.heap[r]? = some (boxO 1 (.slice (some ⟨s, 0, none⟩) nm nm) (.slice (some ⟨k1, 0, none⟩) 2 2) (.slice (some ⟨k2, 0, none⟩) 2 2) (.slice (some ⟨k3, 0, none⟩) nd nd)) := by rw [hW]; exact (set_blk (set_blk (set_blk (set_blk (set_blk hb))))).trans (by simp; rfl)
  have hgr : w.grownBy W (some r) := by rw [hW]; exact ((((grownBy_cell _ r _ _).trans (grownBy_cell _ r _ _)).trans (grownBy_cell _ r _ _)).trans (grownBy_cell _ r _ _)).trans (grownBy_cell _ r _ _)
  have hG : G9 r ms hs ds W := ⟨_, _, _, _, hW', hm.keptH hgr (by omega), h1.keptH hgr (by omega), h2.keptH hgr (by omega), h3.keptH hgr (by omega)⟩
  exact ⟨⟨hgr, fun _ => ⟨_, _, _, _, _, hW'⟩, fun _ => hG⟩, hG⟩
end
theorem OwnG.lit2 {w : World} {base : Nat} {u v : Value} {x y : List Int} (hu : OwnI w base u x) (hv : OwnI w base v y) (hb : base ≤ w.heap.size) : OwnG (w.alloc (.cells #[u, v] 22)) base (.slice (some ⟨w.heap.size, 0, none⟩) 2 2) [x, y] := by
  refine ⟨[u, v], Own.lit (enc := eVal) w base #[u, v] [u, v] rfl lenVal hb (by simp [maxLen]), rfl, fun i v' hv' => ?_⟩
  match i, hv' with
  | 0, hv' => simp at hv'; subst hv'; exact ⟨x, rfl, hu.alloc _⟩
  | 1, hv' => simp at hv'; subst hv'; exact ⟨y, rfl, hv.alloc _⟩
  | i + 2, hv' => simp at hv'
/-- the book as it is handed back -/
def Book9R (w : World) (ms : List Mk) (hs : List (List Int)) (ds : List De) (e : Ending) (w' : World) : Prop :=
  (∃ A c Ak ck Ah ch Ad cd, e = .returned (Hb.v ⟨1, A, c, ms, Ak, ck, [0, 1], Ah, ch, hs, Ad, cd, ds⟩) ∧ HbO w' w.heap.size ⟨1, A, c, ms, Ak, ck, [0, 1], Ah, ch, hs, Ad, cd, ds⟩) ∧ Below w.heap.size w w'
end Go.Proofs.Ytmennjmjakdkcaa
namespace Go.Proofs.Ytmennjmjakdkcaa
open Go.RowKit
set_option linter.unusedVariables false
set_option linter.unusedSimpArgs false

section
variable {w w' a b' : World} {base : Nat}
theorem Sl.bH {α : Type} {enc : α → List Value} {sz : Nat} {A : Option Addr} {n : Nat} {l : List α} (h : Sl enc sz w A n l) (hb : Hid (Below w.heap.size w w')) : Sl enc sz w' A n l := h.below hb.out (Nat.le_refl _)
theorem GridA.bH {α : Type} {enc : α → List Value} {sz : Nat} {A : Option Addr} {n : Nat} {l : List (List α)} (h : GridA enc sz w A n l) (hb : Hid (Below w.heap.size w w')) : GridA enc sz w' A n l := h.below hb.out (Nat.le_refl _)
theorem GridA.al {α : Type} {enc : α → List Value} {sz : Nat} {A : Option Addr} {n : Nat} {l : List (List α)} (h : GridA enc sz w A n l) (o : Obj) : GridA enc sz (w.alloc o) A n l := h.below (bal0 w o) (Nat.le_refl _)
theorem HbIn.bH {b : Hb} (h : HbIn w b) (hb : Hid (Below w.heap.size w w')) : HbIn w' b := h.below hb.out (Nat.le_refl _)
theorem HbIn.al {b : Hb} (h : HbIn w b) (o : Obj) : HbIn (w.alloc o) b := h.below (bal0 w o) (Nat.le_refl _)
theorem belS (h : Below w.heap.size w a) (hb : Hid (Below a.heap.size a b')) : Below w.heap.size w b' := h.trans (hb.out.mono h.size)
end
end Go.Proofs.Ytmennjmjakdkcaa
