/- HerdConserved 26: HdOf, HdJ, HdZ. -/
import Derived.Test.YtmennjmjakdkcaaCn25
import Derived.Test.YtmennjmjakdkcaaCn07
import Derived.Deep.RegionHeld3
import Derived.Test.YtmennjmjakdkcaaCn15
namespace Go.Proofs.Ytmennjmjakdkcaa
open Go.RowKit
set_option linter.unusedVariables false
set_option linter.unusedSimpArgs false

theorem flat_set {α : Type} {enc : α → List Value} {sz j : Nat} {x y : α} {u : Value} (hsz : ∀ x, (enc x).length = sz) (hj : j < sz) (hy : enc y = (enc x).set j u) : ∀ (l : List α) (k : Nat), l[k]? = some x → (l.set k y).flatMap enc = (l.flatMap enc).set (k * sz + j) u
  | [], k, h => by simp at h
  | a :: r, 0, h => by
    simp at h
    subst h
    rw [List.set_cons_zero, List.flatMap_cons, List.flatMap_cons, hy, Nat.zero_mul, Nat.zero_add, List.set_append_left _ _ (by rw [hsz]; exact hj)]
  | a :: r, k + 1, h => by
    rw [List.set_cons_succ, List.flatMap_cons, List.flatMap_cons, flat_set hsz hj hy r k (by simpa using h), List.set_append_right _ _ (by rw [hsz, Nat.succ_mul]; omega), hsz, show (k + 1) * sz + j - sz = k * sz + j by rw [Nat.succ_mul]; omega]
theorem flatGet {α : Type} {enc : α → List Value} {sz j : Nat} {x : α} {u : Value} (hsz : ∀ x, (enc x).length = sz) (hj : j < sz) (hu : (enc x)[j]? = some u) : ∀ (l : List α) (k : Nat), l[k]? = some x → (l.flatMap enc)[k * sz + j]? = some u
  | [], k, h => by simp at h
  | a :: r, 0, h => by
    simp at h
    subst h
    rw [List.flatMap_cons, Nat.zero_mul, Nat.zero_add, List.getElem?_append_left (by rw [hsz]; exact hj)]
    exact hu
  | a :: r, k + 1, h => by
    rw [List.flatMap_cons, List.getElem?_append_right (by rw [hsz, Nat.succ_mul]; omega), hsz, show (k + 1) * sz + j - sz = k * sz + j by rw [Nat.succ_mul]; omega]
    exact flatGet hsz hj hu r k (by simpa using h)
/-- a cell of an element of an own slice: where it lies, and what a store leaves -/
theorem Own.putC {α : Type} {enc : α → List Value} {e : TypeId} {sz base n c : Nat} {A : Option Addr} {w : World} {l : List α} (hsz : ∀ x, (enc x).length = sz) (h : Own enc e sz w base (.slice A n c) l) {k : Nat} {x : α} (hk : l[k]? = some x) :
    ∃ g, A = some ⟨g, 0, none⟩ ∧ base ≤ g ∧ g < w.heap.size ∧ n = l.length ∧ n ≤ c ∧ c ≤ maxLen ∧ (∃ cs, w.heap[g]? = some (Obj.cells cs e (0, 0))) ∧ (∀ j u, (enc x)[j]? = some u → w.cell? ⟨g, k * sz + j, none⟩ = some u) ∧ (∀ o, w.frozen? ⟨g, o, none⟩ = false) ∧
      ∀ (j : Nat) (u : Value) (y : α), j < sz → enc y = (enc x).set j u → Own enc e sz (w.setCell ⟨g, k * sz + j, none⟩ u) base (.slice A n c) (l.set k y) := by
  have hkl : k < l.length := (List.getElem?_eq_some_iff.1 hk).1
  rcases h.2 with ⟨hv, h0⟩ | ⟨g, cap, cur, hv, hg, hh, hnc, hcm, hs, htk⟩
  · omega
  · cases hv
    have hfl := flat_len hsz l
    have hlt : ∀ j, j < sz → k * sz + j < l.length * sz := fun j hj => by
      have : (k + 1) * sz ≤ l.length * sz := Nat.mul_le_mul_right _ (by omega)
      rw [Nat.succ_mul] at this
      omega
    refine ⟨g, rfl, hg, heap_lt hh, rfl, hnc, hcm, ⟨_, hh⟩, fun j u hu => ?_, fun o => frz hh o, fun j u y hj hy => ⟨by rw [flat_len hsz, List.length_set], .inr ⟨g, c, cur.setIfInBounds (k * sz + j) u, by rw [List.length_set], hg, set_blk hh, by rw [List.length_set]; exact hnc, hcm, by simpa using hs, ?_⟩⟩⟩
    · have hj : j < sz := by have := (List.getElem?_eq_some_iff.1 hu).1; rw [hsz] at this; exact this
      have hm := flatGet hsz hj hu l k hk
      rw [← htk, List.getElem?_take_of_lt (hlt j hj), Array.getElem?_toList] at hm
      unfold World.cell?
      simp [hh, hm]
    · rw [Array.toList_setIfInBounds, List.take_set, List.length_set, htk, flat_set hsz hj hy l k hk]

/-- a herd book of the call's own -/
structure HbO (w : World) (base : Nat) (b : Hb) : Prop where
  m : OwnM w base b.vm b.l
  k : OwnI w base b.vk b.ks
  h : OwnG w base b.vh b.hs
  d : OwnD w base b.vd b.ds
section
variable {w w' : World} {base B : Nat} {b : Hb}
theorem HbO.below (h : HbO w base b) (hb : Below B w w') (hB : w.heap.size ≤ B) : HbO w' base b := ⟨h.m.below hb hB, h.k.below hb hB, h.h.below hb hB, h.d.below hb hB⟩
theorem HbO.mono {c : Nat} (h : HbO w base b) (hc : c ≤ base) : HbO w c b := ⟨h.m.mono hc, h.k.mono hc, h.h.mono hc, h.d.mono hc⟩
theorem HbO.inn (h : HbO w base b) : HbIn w b := by
  obtain ⟨A1, c1, e1, m1, m2, m3⟩ := h.m.form lenMk
  obtain ⟨A2, c2, e2, k1, k2, k3⟩ := h.k.form lenInt
  obtain ⟨A3, c3, e3, h1, h2, h3⟩ := h.h.form
  obtain ⟨A4, c4, e4, d1, d2, d3⟩ := h.d.form lenDe
  injection e1 with a1 _ b1
  injection e2 with a2 _ b2
  injection e3 with a3 _ b3
  injection e4 with a4 _ b4
  subst a1 b1 a2 b2 a3 b3 a4 b4
  exact ⟨m1, m2, m3, k1, k2, k3, h1, h2, h3, d1, d2, d3⟩
theorem OwnG.keptH {v : Value} {ls : List (List Int)} {H : Nat} (h : OwnG w base v ls) (hg : w.grownBy w' (some H)) (hH : H < base) : OwnG w' base v ls := by
  obtain ⟨mv, h1, h2⟩ := h
  exact ⟨mv, h1.kept hg (.inr (fun e => by have := (h1.lt _ e).1; omega)), Rws.kept h2 hg (fun x hx => .inr (fun e => by have := (Rws.ltv h2 hx _ e).1; omega))⟩
theorem Own.keptH {α : Type} {enc : α → List Value} {e : TypeId} {sz H : Nat} {v : Value} {l : List α} (h : Own enc e sz w base v l) (hg : w.grownBy w' (some H)) (hH : H < base) : Own enc e sz w' base v l :=
  h.kept hg (.inr (fun e => by have := (h.lt _ e).1; omega))
theorem HbO.dealt {H N : Nat} (h : HbO w base b) (hd : Dealt w w' H N) (hH : H < base) : HbO w' base b := ⟨h.m.keptH hd.gr hH, h.k.keptH hd.gr hH, h.h.keptH hd.gr hH, h.d.keptH hd.gr hH⟩
end
/-- what HerdOf hands back -/
def HerdR (w : World) (H N n nf nd : Nat) (e : Ending) (w' : World) : Prop :=
  ∃ b : Hb, e = .returned b.v ∧ b.chk = 0 ∧ (b.l.length ≤ n ∨ b.l.length = 1) ∧ (b.ks.length ≤ nf ∨ b.ks.length = 1) ∧ b.ds.length ≤ nd ∧ HbO w' w.heap.size b ∧ Dealt w w' H N

theorem deedE_inv {n nf : Nat} {d : De} (h : deedE n nf d = 0) : (1 ≤ d.kind ∧ d.kind ≤ 6) ∧ (0 ≤ d.flock ∧ d.flock < nf) ∧ fldE n nf d = 0 ∧ d = namD d := by
  unfold deedE at h
  obtain ⟨h1, h⟩ := ite0 (by decide) h
  obtain ⟨h2, h⟩ := ite0 (by decide) h
  split at h
  · exact absurd h (by assumption)
  rename_i h3
  obtain ⟨h4, -⟩ := ite0 (by decide) h
  exact ⟨btw_iff.1 ((Bool.not_eq_false _).mp h1), ownB_iff.1 ((Bool.not_eq_false _).mp h2), Classical.not_not.1 h3, Classical.not_not.1 h4⟩
/-- another number of sheep, from 1 to 3 -/
theorem deedE_many {n nf : Nat} {d : De} {x : Int} (h : deedE n nf d = 0) (h5 : d.kind ≠ 5) (hx : 1 ≤ x ∧ x ≤ 3) : deedE n nf { d with many := x } = 0 := by
  obtain ⟨h1, h2, h3, h4⟩ := deedE_inv h
  obtain ⟨kind, flock, owner, other, tof, many, err, s⟩ := d
  dsimp only at *
  refine deedE_ok h1 h2 ?_ ?_
  · unfold fldE at h3 ⊢
    dsimp only at h3 ⊢
    obtain e | e | e | e | e : kind = 1 ∨ kind = 2 ∨ kind = 3 ∨ kind = 4 ∨ kind = 6 := by omega
    all_goals subst e
    · rw [if_pos (by decide)] at h3 ⊢
      obtain ⟨a1, h3⟩ := ite0 (by decide) h3
      rw [if_neg a1, if_neg (by rw [btw_iff.2 ⟨hx.1, by omega⟩]; decide)]
    · rw [if_neg (by decide), if_pos (by decide)] at h3 ⊢
      obtain ⟨a1, h3⟩ := ite0 (by decide) h3
      obtain ⟨a2, h3⟩ := ite0 (by decide) h3
      rw [if_neg a1, if_neg a2, if_neg (by rw [btw_iff.2 ⟨hx.1, by omega⟩]; decide)]
    · rw [if_pos (by decide)] at h3 ⊢
      obtain ⟨a1, h3⟩ := ite0 (by decide) h3
      rw [if_neg a1, if_neg (by rw [btw_iff.2 ⟨hx.1, by omega⟩]; decide)]
    · rw [if_neg (by decide), if_neg (by decide), if_pos (by decide)]
      rw [if_neg (by rw [btw_iff.2 ⟨hx.1, by omega⟩]; decide)]
    · rw [if_neg (by decide), if_neg (by decide), if_neg (by decide), if_neg (by decide)] at h3 ⊢
      obtain ⟨a1, -⟩ := ite0 (by decide) h3
      rw [if_neg (fun h => h.elim (fun h => by rw [btw_iff.2 ⟨by omega, by omega⟩] at h; cases h) fun h => a1 (.inr h))]
  · unfold namD at h4 ⊢
    dsimp only at h4 ⊢
    obtain e | e | e | e | e : kind = 1 ∨ kind = 2 ∨ kind = 3 ∨ kind = 4 ∨ kind = 6 := by omega
    all_goals subst e; simp at h4 ⊢; simp [h4]

/-- while some deeds are told otherwise -/
structure HoS (w : World) (H g B nD : Nat) (b : Hb) (M : Nat) (ds : List De) (wr : World) : Prop where
  dl : ds.length = nD
  de : ∀ d ∈ ds, deedE b.l.length b.ks.length d = 0
  m : OwnM wr (g + 1) b.vm b.l
  k : OwnI wr (g + 1) b.vk b.ks
  h : OwnG wr (g + 1) b.vh b.hs
  d : OwnD wr (g + 1) (.slice b.Ad nD b.cd) ds
  bx : wr.heap[B]? = some (boxO b.t b.vm b.vk b.vh (.slice b.Ad nD b.cd))
  bg : wr.heap[g]? = some (boxO 0 (.slice none 0 0) (.slice none 0 0) (.slice none 0 0) (.slice none 0 0))
  dt : Dealt w wr H M
  z : H < g ∧ g < B ∧ w.heap.size ≤ g
section
variable {w wr w' : World} {H g B nD M M' : Nat} {b : Hb} {ds : List De}
theorem HoS.dealt (a : HoS w H g B nD b M ds wr) (hd : Dealt wr w' H M') : HoS w H g B nD b M' ds w' := by
  have hz := a.z
  exact ⟨a.dl, a.de, a.m.keptH hd.gr (by omega), a.k.keptH hd.gr (by omega), a.h.keptH hd.gr (by omega), a.d.keptH hd.gr (by omega), hd.blk a.bx (by omega), hd.blk a.bg (by omega), a.dt.trans hd, a.z⟩
theorem HoS.mono (a : HoS w H g B nD b M ds wr) (h : M ≤ M') : HoS w H g B nD b M' ds wr := ⟨a.dl, a.de, a.m, a.k, a.h, a.d, a.bx, a.bg, a.dt.mono h, a.z⟩
theorem HoS.at (a : HoS w H g B nD b M ds wr) {k : Nat} (hk : k < nD) : ∃ gd d, b.Ad = some ⟨gd, 0, none⟩ ∧ ds[k]? = some d ∧ nD ≤ b.cd ∧ b.cd ≤ maxLen ∧ wr.cell? ⟨gd, k * 12, none⟩ = some (.int .i64 d.kind) ∧ wr.cell? ⟨gd, k * 12 + 5, none⟩ = some (.int .i64 d.many) ∧ wr.frozen? ⟨gd, k * 12 + 5, none⟩ = false ∧
    gd < wr.heap.size ∧ gd ≠ H ∧ gd ≠ B ∧ ∀ x, d.kind ≠ 5 → 1 ≤ x → x ≤ 3 → HoS w H g B nD b M (ds.set k { d with many := x }) (wr.setCell ⟨gd, k * 12 + 5, none⟩ (.int .i64 x)) := by
  have hz := a.z
  obtain ⟨d, hd⟩ : ∃ d, ds[k]? = some d := ⟨_, List.getElem?_eq_getElem (by rw [a.dl]; exact hk)⟩
  obtain ⟨gd, e, h1, h2, h3, h4, h5, ⟨cs, hb⟩, h6, h7, h8⟩ := a.d.putC lenDe hd
  have hgB : gd ≠ B := fun e => by subst e; have := a.bx; rw [hb] at this; cases this
  have hgg : gd ≠ g := by omega
  refine ⟨gd, d, e, hd, h4, h5, h6 0 _ rfl, h6 5 _ rfl, h7 _, h2, by omega, hgB, fun x hk5 hx1 hx2 => ?_⟩
  have hgr := grownBy_cell wr gd (k * 12 + 5) (.int .i64 x)
  have hvd : (Value.slice b.Ad nD b.cd).ownBlock = some gd := by rw [e]; rfl
  have key : ∀ {α : Type} {enc : α → List Value} {e : TypeId} {sz : Nat} {v : Value} {l : List α}, Own enc e sz wr (g + 1) v l → e ≠ 38 → Own enc e sz (wr.setCell ⟨gd, k * 12 + 5, none⟩ (.int .i64 x)) (g + 1) v l := fun ho he => ho.kept hgr (.inr (ho.ne' hb he))
  obtain ⟨mv, g1, g2⟩ := a.h
  refine ⟨by rw [List.length_set]; exact a.dl, fun d' hd' => ?_, key a.m (by decide), key a.k (by decide), ⟨mv, key g1 (by decide), Rws.kept g2 hgr (fun y hy => .inr (Rws.ne g2 hy hb (by decide)))⟩, h8 5 (.int .i64 x) { d with many := x } (by decide) rfl, (hgr.block B (heap_lt a.bx) (fun e => hgB (by simpa using e.symm))).trans a.bx, (hgr.block g (heap_lt a.bg) (fun e => hgg (by simpa using e.symm))).trans a.bg, a.dt.set (by show H < gd; omega) (by show w.heap.size ≤ gd; omega) _, a.z⟩
  rcases List.mem_or_eq_of_mem_set hd' with h | rfl
  · exact a.de _ h
  · exact deedE_many (a.de _ (List.mem_of_getElem? hd)) hk5 ⟨hx1, hx2⟩
end
theorem HbO.ofS {w wr : World} {H g B nD M : Nat} {b : Hb} {ds : List De} (a : HoS w H g B nD b M ds wr) (hc : b.chk = 0) (hl : b.ds.length = nD) : HbO wr w.heap.size { b with ds := ds } ∧ ({ b with ds := ds } : Hb).chk = 0 := by
  have hz := a.z
  obtain ⟨a1, a2⟩ : True ∧ nD = ds.length := ⟨trivial, a.dl.symm⟩
  subst a2
  refine ⟨⟨a.m.mono (by omega), a.k.mono (by omega), a.h.mono (by omega), a.d.mono (by omega)⟩, ?_⟩
  have h := checkH_ok hc
  exact bookChk h.ck h.f0 h.f3 h.kk h.hl (fun r hr => ⟨h.rl r hr, h.rb r hr⟩) (show ds.length ≤ 6 by have := h.d6; omega) a.de
set_option maxRecDepth 100000 in
set_option maxHeartbeats 2000000 in
theorem herdOf_any (H N n nf nd : Nat) (w : World) (h : Hd w H N) (hN : N ≤ 4611686018000000000) (hn : n ≤ 5) (hnf : nf ≤ 3) (hnd : nd ≤ 6) :
    Calls Try.prog 21 #[.pointer (some ⟨H, 0, none⟩), .int .i64 n, .int .i64 nf, .int .i64 nd] w (HerdR w H (N + 200000) n nf nd) := by
  have hHl := h.lt
  obtain ⟨g, hg⟩ : ∃ g, g = w.heap.size := ⟨_, rfl⟩
  obtain ⟨V, hV⟩ : ∃ V, V = w.alloc (boxO 0 (.slice none 0 0) (.slice none 0 0) (.slice none 0 0) (.slice none 0 0)) := ⟨_, rfl⟩
  have hDV : Dealt w V H N := by rw [hV]; exact (Dealt.refl h).alloc _
  have b0 : V.heap[g]? = some (boxO 0 (.slice none 0 0) (.slice none 0 0) (.slice none 0 0) (.slice none 0 0)) := by rw [hV, hg]; exact alloc_at rfl
  have hzV : V.heap.size = g + 1 := by rw [hV, hg]; simp
  have HV := Lib.hid (And.intro hDV (And.intro b0 (And.intro hzV hg)))
  have htl := taleOf_any H N n nf nd V hDV.hd hN hn hnf hnd
  unfold boxO at hV
  go_enter Try.func21, Try.ntmps21
  go_upto_region 1 with (fail)
  rw [← hV]
  rw [← hg]
  clear hV hDV b0 hzV hg h
  go_upto_region 2 with (go_at_call 10; refine htl.mono ?_; rintro e w1 ⟨b, vE, vG, vW, gs, gone, whose, rfl, hck, hln, hkn, hdn, hm, hk, hh, hd, hE, hG, hW, hsh, hti, hdl⟩; unfold Hb.v)
  obtain ⟨B, hB⟩ : ∃ B, B = w1.heap.size := ⟨_, rfl⟩
  obtain ⟨w2, hw2⟩ : ∃ w2, w2 = w1.alloc (Obj.cells #[Value.int .i64 b.t, .slice b.A b.l.length b.c, .slice b.Ak b.ks.length b.ck, .slice b.Ah b.hs.length b.ch, .slice b.Ad b.ds.length b.cd] 29) := ⟨_, rfl⟩
  rw [← hw2]
  rw [← hB]
  have hz := hdl.size
  have hBl : Below w1.heap.size w1 w2 := by rw [hw2]; exact bal0 _ _
  obtain ⟨nD, hnD⟩ : ∃ nD, nD = b.ds.length := ⟨_, rfl⟩
  have hS : HoS w H g B nD b (N + 100000) b.ds w2 := by
    have hz1 : V.heap.size = g + 1 := HV.out.2.2.1
    have hck' := checkH_ok hck
    rw [hz1] at hm hk hh hd hz
    refine ⟨hnD.symm, hck'.dE, hm.below hBl (Nat.le_refl _), hk.below hBl (Nat.le_refl _), hh.below hBl (Nat.le_refl _), by rw [hnD]; exact hd.below hBl (Nat.le_refl _), by rw [hw2, hB, hnD]; exact alloc_at rfl, ?_, ?_, by have := HV.out.2.2.2; omega, by omega, by have := HV.out.2.2.2; omega⟩
    · exact bheap (hdl.blk HV.out.2.1 (by have := HV.out.2.2.2; omega)) hBl (Nat.le_refl _)
    · rw [hw2]; exact (HV.out.1.trans hdl).alloc _
  rw [← hnD]
  have HC := Lib.hid (And.intro hck (And.intro hln (And.intro hkn (And.intro hdn hnD))))
  have hn6 : nD ≤ 6 := by omega
  clear htl hck hln hkn hdn hm hk hh hd hE hG hW hsh hti hdl hz hBl hB hw2 hnD
  go_wp2_with fail
  go_loopg [13] nD (fun gg v13 wr => ∃ (k : Nat) (ds : List De), k + gg = nD ∧ v13 = .int .i64 k ∧ HoS w H g B nD b (N + 100000 + 2 * k) ds wr)
  case atStart => exact ⟨0, b.ds, by omega, rfl, hS⟩
  case round =>
    obtain ⟨k, ds, hk, rfl, hS⟩ := hrel
    by_cases hlt : k < nD
    · obtain ⟨M, hM⟩ : ∃ M, M = N + 100000 + 2 * k := ⟨_, rfl⟩
      rw [← hM] at hS
      have hMN : M ≤ 4611686018000200000 := by omega
      obtain ⟨gd, d, hA, hdk, hc1, hc2, hk0, hk5, hf5, hgz, hgH, hgB, hput⟩ := hS.at hlt
      obtain ⟨x0, x1, x2, x3, x4⟩ := blk5 hS.bx
      rw [hA] at x4
      have hHd := hS.dt.hd
      have hlt' : (k : Int) < (nD : Int) := by omega
      obtain ⟨kd, hkd⟩ : ∃ kd, kd = d.kind := ⟨_, rfl⟩
      rw [← hkd] at hk0
      have HA := Lib.hid (And.intro hA hdk)
      have HS := Lib.hid (And.intro hS (And.intro hput (And.intro hkd (And.intro hk hM))))
      clear hput hkd hS hM hA hdk
      by_cases h5 : kd = 5
      · have e5 : (kd != 5) = false := by simp [h5]
        clear h5
        go_wp2_with fail
        go_roundg (gk - 1)
        case measure => have := HS.out.2.2.2.1; omega
        case rel => exact ⟨k + 1, ds, by have := HS.out.2.2.2.1; omega, by go_num, HS.out.1.mono (by have := HS.out.2.2.2.2; omega)⟩
      · have e5 : (kd != 5) = true := by simp [h5]
        have H5 := Lib.hid h5
        clear h5
        have hod := odds_any H M 1 6 wr hHd (by omega) (by omega) (by omega)
        go_upto_if 41 with (go_at_call 69; refine hod.mono ?_; rintro e w2 ⟨o, rfl, hd2⟩)
        have hS2 := HS.out.1.dealt hd2
        obtain ⟨y0, y1, y2, y3, y4⟩ := blk5 hS2.bx
        clear hod
        cases o
        · go_wp2_with fail
          go_roundg (gk - 1)
          case measure => have := HS.out.2.2.2.1; omega
          case rel => exact ⟨k + 1, ds, by have := HS.out.2.2.2.1; omega, by go_num, hS2.mono (by have := HS.out.2.2.2.2; omega)⟩
        · obtain ⟨gd', d', hA', hdk', -, -, -, hk5', hf5', hgz', -, -, hput'⟩ := hS2.at hlt
          rw [HA.out.1] at hA'
          cases hA'
          rw [HA.out.2] at hdk'
          cases hdk'
          have y4' : w2.drew.cell? ⟨B, 4, none⟩ = some (.slice (some ⟨gd, 0, none⟩) nD b.cd) := by rw [← HA.out.1]; exact y4
          have hc5 : w2.drew.cell? ⟨gd, k * 12 + 5, none⟩ = some (.int .i64 d.many) := hk5'
          have hcf : w2.drew.frozen? ⟨gd, k * 12 + 5, none⟩ = false := hf5'
          have hBH : B ≠ H := by have := hS2.z; omega
          have hHd2 := hS2.dt.hd
          have ham := among_any H (M + 1) 1 3 w2.drew hHd2.drew (by omega) (by omega) (by omega)
          have HP := Lib.hid hS2
          clear hput' hS2 y0 y1 y2 y3 y4 hHd2 hd2 hk5' hf5'
          go_upto_region 6 with (fail)
          go_region_held3 (fun w' => w'.cell? ⟨B, 4, none⟩ = some (.slice (some ⟨gd, 0, none⟩) nD b.cd))
            (first
              | (with_reducible exact y4')
              | (with_reducible exact hd3.cell y4' hBH)
              | (exact (World.cell?_of_block (a := ⟨B, 4, none⟩) (Below.heap_setCell _ ⟨gd, k * 12 + 5, none⟩ _ _ (show B ≠ gd from fun e => hgB e.symm))).trans (hd3.cell y4' hBH))
              | fail)
            (first
              | (go_at_call 34; refine ham.mono ?_; rintro e w3 ⟨x, rfl, hx1, hx2, hd3⟩; have hc3 := hd3.cell hc5 hgH; have hcf3 := (World.frozen?_of_block (a := ⟨gd, k * 12 + 5, none⟩) (hd3.gr.block gd hgz' (by intro e; cases e; exact hgH rfl))).trans hcf)
              | fail)
          all_goals
            have hS3 := HP.out.dealt (show Dealt w2 w3 H (M + 1 + 1) from hd3.undrew)
            obtain ⟨gd2, d2, e1, e2, -, -, -, -, -, -, -, -, hput3⟩ := hS3.at hlt
            rw [HA.out.1] at e1
            cases e1
            rw [HA.out.2] at e2
            cases e2
            have hS4 := Lib.hid (hput3 x (by rw [← HS.out.2.2.1]; exact H5.out) hx1 (by omega))
            clear hput3 hS3 hd3 hx1 hx2
            go_wp2_with fail
            go_roundg (gk - 1)
            case measure => have := HS.out.2.2.2.1; omega
            case rel => exact ⟨k + 1, _, by have := HS.out.2.2.2.1; omega, by go_num, hS4.out.mono (by have := HS.out.2.2.2.2; omega)⟩
    · obtain rfl : k = nD := by omega
      obtain ⟨x0, x1, x2, x3, x4⟩ := blk5 hS.bx
      obtain ⟨z0, z1, z2, z3, z4⟩ := blk5 hS.bg
      obtain ⟨f0, f1, f2, f3, f4⟩ := And.intro (frz hS.bg 0) (And.intro (frz hS.bg 1) (And.intro (frz hS.bg 2) (And.intro (frz hS.bg 3) (frz hS.bg 4))))
      have hgl := heap_lt hS.bg
      have HS := Lib.hid hS
      clear hS
      go_wp2_with fail
      obtain ⟨W, hW⟩ : ∃ W, W = (((((wr.setCell ⟨g, 0, none⟩ (.int .i64 b.t)).setCell ⟨g, 1, none⟩ (.slice b.A b.l.length b.c)).setCell ⟨g, 2, none⟩ (.slice b.Ak b.ks.length b.ck)).setCell ⟨g, 3, none⟩ (.slice b.Ah b.hs.length b.ch)).setCell ⟨g, 4, none⟩ (.slice b.Ad k b.cd)) := ⟨_, rfl⟩
      rw [← hW]
      have bgW : W.heap[g]? = some (boxO b.t b.vm b.vk b.vh (.slice b.Ad k b.cd)) := by rw [hW]; exact (set_blk (set_blk (set_blk (set_blk (set_blk HS.out.bg))))).trans (by simp; rfl)
      have hgr : wr.grownBy W (some g) := by rw [hW]; exact ((((grownBy_cell _ g _ _).trans (grownBy_cell _ g _ _)).trans (grownBy_cell _ g _ _)).trans (grownBy_cell _ g _ _)).trans (grownBy_cell _ g _ _)
      obtain ⟨q0, q1, q2, q3, q4⟩ := blk5 bgW
      obtain ⟨o1, o2⟩ := HbO.ofS HS.out HC.out.1 HC.out.2.2.2.2.symm
      have hsl := HS.out.dl
      have hc := HC.out
      have hz := HS.out.z
      have hbg := HS.out.bg
      refine bodyPost_ret (v := .agg #[.int .i64 b.t, .slice b.A b.l.length b.c, .slice b.Ak b.ks.length b.ck, .slice b.Ah b.hs.length b.ch, .slice b.Ad k b.cd]) (by simp [results, Try.f21, go_sem, q0, q1, q2, q3, q4]) rfl ⟨{ b with ds := ds }, by rw [← hsl], o2, hc.2.1, hc.2.2.1, by show ds.length ≤ nd; omega, ?_, ?_⟩
      · exact ⟨o1.m.kept hgr (.inr (o1.m.ne' hbg (by decide))), o1.k.kept hgr (.inr (o1.k.ne' hbg (by decide))), o1.h.keptB hgr hbg, o1.d.kept hgr (.inr (o1.d.ne' hbg (by decide)))⟩
      · exact (HS.out.dt.ownG hgr fun j e => by cases e; omega).mono (by omega)
end Go.Proofs.Ytmennjmjakdkcaa
namespace Go.Proofs.Ytmennjmjakdkcaa
open Go.RowKit Go.MapKept
set_option linter.unusedVariables false
set_option linter.unusedSimpArgs false

set_option maxRecDepth 100000 in
set_option maxHeartbeats 1000000 in
theorem checkD_any (p : Nat) (b : Hb) (deed owner now : Int) (d : De) (w : World) (hp : w.heap[p]? = some (b.bk deed owner now)) (hin : HbIn w b) (hck : check b.t b.l = 0) :
    Calls Try.prog 83 #[.pointer (some ⟨p, 0, none⟩), dv d] w fun e w' => e = .returned (.int .i64 (deedE b.l.length b.ks.length d)) ∧ Below w.heap.size w w' := by
  obtain ⟨V, hV⟩ : ∃ V, V = w.alloc (dObj d) := ⟨_, rfl⟩
  obtain ⟨g, hg⟩ : ∃ g, g = w.heap.size := ⟨_, rfl⟩
  have b0 : V.heap[g]? = some (dObj d) := by rw [hV, hg]; exact alloc_at rfl
  have hBV : Below w.heap.size w V := by rw [hV]; exact bal0 w _
  have hpV := bheap hp hBV (Nat.le_refl _)
  have hiV := hin.below hBV (Nat.le_refl _)
  obtain ⟨c0, c1, c2, c3, c4, c5, c6, c7, c8, c9, c10, c11⟩ := blkD b0
  have hkm : b.ks.length ≤ maxLen := Nat.le_trans hin.kc hin.km
  have hbt := betweenH_any d.kind 1 6 V
  have hif := isFlock_any p b.t b.A b.l.length b.c b.Ak b.ks.length b.ck b.vh b.vd deed owner now d.flock V hpV hkm
  obtain ⟨k1, hk1⟩ : ∃ k1, k1 = btw d.kind 1 6 := ⟨_, rfl⟩
  obtain ⟨k2, hk2⟩ : ∃ k2, k2 = ownB b.ks.length d.flock := ⟨_, rfl⟩
  rw [← hk1] at hbt
  rw [← hk2] at hif
  have HK := Lib.hid (And.intro hk1.symm hk2.symm)
  have HV := Lib.hid (And.intro hBV (And.intro b0 (And.intro hpV (And.intro hiV hck))))
  have HG := Lib.hid hg
  clear hk1 hk2
  unfold dv
  go_enter Try.func83, Try.ntmps83
  go_upto_region 1 with (fail)
  rw [← hV, ← hg]
  clear hV hg hp hin hck hBV hpV hiV b0
  cases k1 with
  | false =>
    go_wp2_with (go_at_call 56; refine hbt.mono ?_; rintro e w' ⟨rfl, rfl⟩)
    go_ret
    exact ⟨ret_int (by unfold deedE; rw [if_pos HK.out.1]), HV.out.1⟩
  | true =>
  cases k2 with
  | false =>
    go_wp2_with (first
      | (go_at_call 56; refine hbt.mono ?_; rintro e w' ⟨rfl, rfl⟩)
      | (go_at_call 75; refine hif.mono ?_; rintro e w' ⟨rfl, rfl⟩))
    go_ret
    exact ⟨ret_int (by unfold deedE; rw [if_neg (by rw [HK.out.1]; simp), if_pos HK.out.2]), HV.out.1⟩
  | true =>
  have hchk := checked_any p b deed owner now d V HV.out.2.2.1 HV.out.2.2.2.1 HV.out.2.2.2.2 (btw_iff.1 HK.out.1)
  unfold dv at hchk
  go_upto_region 6 with (first
      | (go_at_call 56; refine hbt.mono ?_; rintro e w' ⟨rfl, rfl⟩)
      | (go_at_call 75; refine hif.mono ?_; rintro e w' ⟨rfl, rfl⟩)
      | (go_at_call 108; refine hchk.mono ?_; rintro e w2 ⟨⟨x, rfl, hx⟩, hb2⟩))
  obtain ⟨Y, hY⟩ : ∃ Y, Y = w2.alloc (dObj x) := ⟨_, rfl⟩
  obtain ⟨gx, hgx⟩ : ∃ gx, gx = w2.heap.size := ⟨_, rfl⟩
  have y1 : Y.heap[gx]? = some (dObj x) := by rw [hY, hgx]; exact alloc_at rfl
  have y0 : Y.heap[g]? = some (dObj d) := by rw [hY]; exact hblk_alloc (bheap HV.out.2.1 hb2 (Nat.le_refl _)) _
  have hBY : Below w.heap.size w Y := by rw [hY]; exact bal (HV.out.1.trans (hb2.mono HV.out.1.size)) (Nat.le_refl _) _
  obtain ⟨e0, e1, e2, e3, e4, e5, e6, e7, e8, e9, e10, e11⟩ := blkD y0
  obtain ⟨r0, r1, r2, r3, r4, r5, r6, r7, r8, r9, r10, r11⟩ := blkD y1
  rw [← hY, ← hgx]
  have HY := Lib.hid (And.intro hBY hx)
  clear hY hgx y1 y0 hBY hb2 hx c0 c1 c2 c3 c4 c5 c6 c7 c8 c9 c10 c11 hbt hif hchk
  obtain ⟨fe, hfe⟩ : ∃ fe, fe = fldE b.l.length b.ks.length d := ⟨_, rfl⟩
  have HFE := Lib.hid hfe
  rw [← hfe]
  clear hfe
  by_cases h0 : fe = 0
  · subst h0
    have hxn : x = namD d := HY.out.2 HFE.out.symm
    by_cases hdx : x = d
    · have hde : deedE b.l.length b.ks.length d = 0 := by
        unfold deedE
        rw [if_neg (by rw [HK.out.1]; simp), if_neg (by rw [HK.out.2]; simp), if_neg (by rw [← HFE.out]; simp), if_neg (fun h => h (hdx.symm.trans hxn))]
      have HDE := Lib.hid (And.intro hde HY.out.1)
      clear HY HFE HK HV hde hxn
      subst hdx
      go_wp2_with fail
      go_ret
      exact ⟨ret_int HDE.out.1.symm, HDE.out.2⟩
    · have hde : deedE b.l.length b.ks.length d = 1 := by
        unfold deedE
        rw [if_neg (by rw [HK.out.1]; simp), if_neg (by rw [HK.out.2]; simp), if_neg (by rw [← HFE.out]; simp), if_pos (fun h => hdx (hxn.trans h.symm))]
      have HDE := Lib.hid (And.intro hde (And.intro HY.out.1 hdx))
      clear HY HFE HK HV hde hxn hdx
      obtain ⟨dk, df, dow, dot, dt, dm, de, ⟨dsn, dsl, dsr, dsb, dsp⟩⟩ := d
      obtain ⟨xk, xf, xow, xot, xt, xm, xe, ⟨xsn, xsl, xsr, xsb, xsp⟩⟩ := x
      dsimp only at *
      go_wp2_with fail
      all_goals
        first
          | (go_ret
             exact ⟨ret_int HDE.out.1.symm, HDE.out.2.1⟩)
          | (exfalso
             subst_vars
             exact HDE.out.2.2 rfl)
  · have x0 : (fe == 0) = false := beq_eq_false_iff_ne.2 h0
    have H0 := Lib.hid h0
    clear h0
    go_wp2_with fail
    go_ret
    refine ⟨ret_int ?_, HY.out.1⟩
    unfold deedE
    rw [if_neg (by rw [HK.out.1]; simp), if_neg (by rw [HK.out.2]; simp), ← HFE.out, if_pos H0.out]

set_option maxRecDepth 100000 in
theorem begin_any (b : Hb) (w : World) :
    Calls Try.prog 85 #[b.v] w fun e w' => ∃ p, e = .returned (.pointer (some ⟨p, 0, none⟩)) ∧ w.heap.size ≤ p ∧ w'.heap[p]? = some (b.bk (-1) 0 0) ∧ Below w.heap.size w w' := by
  unfold Hb.v
  go_enter Try.func85, Try.ntmps85
  go_wp2
  go_ret
  exact ⟨_, rfl, by omega, alloc_at (by simp), bal (bal0 w _) (Nat.le_refl _) _⟩
end Go.Proofs.Ytmennjmjakdkcaa
namespace Go.Proofs.Ytmennjmjakdkcaa
open Go.RowKit Go.MapKept
set_option linter.unusedVariables false
set_option linter.unusedSimpArgs false

theorem deedsE_snoc (n nf : Nat) : ∀ (l : List De) (d : De), deedsE n nf l = 0 → deedsE n nf (l ++ [d]) = deedE n nf d
  | [], d, _ => by unfold deedsE; simp [deedsE]; intro h; exact h.symm
  | x :: l, d, h => by
    unfold deedsE at h
    split at h
    · rename_i h1; exact absurd h h1
    · rename_i h1
      rw [List.cons_append]
      conv => lhs; unfold deedsE
      rw [if_neg h1]
      exact deedsE_snoc n nf l d h
theorem deedsE_stop (n nf : Nat) : ∀ (l m : List De), deedsE n nf l ≠ 0 → deedsE n nf (l ++ m) = deedsE n nf l
  | [], m, h => absurd rfl h
  | x :: l, m, h => by
    rw [List.cons_append]
    unfold deedsE at h ⊢
    split
    · rfl
    · rename_i h1
      rw [if_neg h1] at h
      exact deedsE_stop n nf l m h
theorem blk5c {w : World} {b : Nat} {t : TypeId} {v0 v1 v2 v3 v4 : Value} (h : w.heap[b]? = some (.cells #[v0, v1, v2, v3, v4] t (0, 0))) : w.cell? ⟨b, 0, none⟩ = some v0 ∧ w.cell? ⟨b, 1, none⟩ = some v1 ∧ w.cell? ⟨b, 2, none⟩ = some v2 ∧ w.cell? ⟨b, 3, none⟩ = some v3 ∧ w.cell? ⟨b, 4, none⟩ = some v4 := blk5 h
/-- the block of a herd book -/
abbrev Hb.obj (b : Hb) : Obj := .cells #[.int .i64 b.t, .slice b.A b.l.length b.c, .slice b.Ak b.ks.length b.ck, .slice b.Ah b.hs.length b.ch, .slice b.Ad b.ds.length b.cd] 29 (0, 0)

set_option maxRecDepth 100000 in
set_option maxHeartbeats 1000000 in
theorem CheckH_any (b : Hb) (w : World) (hin : HbIn w b) :
    Calls Try.prog 94 #[b.v] w fun e w' => e = .returned (.int .i64 b.chk) ∧ Below w.heap.size w w' := by
  obtain ⟨V, hV⟩ : ∃ V, V = w.alloc b.obj := ⟨_, rfl⟩
  obtain ⟨g, hg⟩ : ∃ g, g = w.heap.size := ⟨_, rfl⟩
  have b0 : V.heap[g]? = some b.obj := by rw [hV, hg]; exact alloc_at rfl
  have hBV : Below w.heap.size w V := by rw [hV]; exact bal0 w _
  have hiV := hin.below hBV (Nat.le_refl _)
  obtain ⟨c0, c1, c2, c3, c4⟩ := blk5c b0
  have hmk := check_any b.t b.A b.l.length b.c b.l V hiV.m hiV.mc hiV.mm
  have HV := Lib.hid (And.intro hBV (And.intro b0 (And.intro hiV hg)))
  have hdm : b.ds.length ≤ maxLen := Nat.le_trans hin.dc hin.dm
  unfold maxLen at hdm
  unfold Hb.v
  go_enter Try.func94, Try.ntmps94
  go_upto_region 1 with (fail)
  rw [← hV, ← hg]
  clear hV hg hin hBV hiV b0
  obtain ⟨ck, hck⟩ : ∃ ck, ck = check b.t b.l := ⟨_, rfl⟩
  rw [← hck] at hmk
  by_cases h0 : ck = 0
  · subst h0
    have HCK := Lib.hid hck.symm
    clear hck
    go_upto_region 4 with (go_at_call 58; refine hmk.mono ?_; rintro e w2 ⟨rfl, hb2⟩)
    have x0 := bheap HV.out.2.1 hb2 (Nat.le_refl _)
    have hi2 := HV.out.2.2.1.below hb2 (Nat.le_refl _)
    have hB2 := HV.out.1.trans (hb2.mono HV.out.1.size)
    clear c0 c1 c2 c3 c4 hmk hb2
    obtain ⟨c0, c1, c2, c3, c4⟩ := blk5c x0
    have H2 := Lib.hid (And.intro hB2 (And.intro x0 hi2))
    clear x0 hi2 hB2
    have hbg := begin_any b w2
    unfold Hb.v at hbg
    go_upto_region 5 with (go_at_call 85; refine hbg.mono ?_; rintro e w3 ⟨p, rfl, hp, hpb, hb3⟩)
    have x0 := bheap H2.out.2.1 hb3 (Nat.le_refl _)
    have hi3 := H2.out.2.2.below hb3 (Nat.le_refl _)
    have hB3 := H2.out.1.trans (hb3.mono H2.out.1.size)
    have hfl := flocks_any p b (-1) 0 0 w3 hpb hi3
    clear c0 c1 c2 c3 c4 hbg hb3 hp
    obtain ⟨c0, c1, c2, c3, c4⟩ := blk5c x0
    have H3 := Lib.hid (And.intro hB3 (And.intro x0 (And.intro hi3 hpb)))
    clear x0 hi3 hB3 hpb
    obtain ⟨fe, hfe⟩ : ∃ fe, fe = flocksE b.l.length b.ks b.hs := ⟨_, rfl⟩
    rw [← hfe] at hfl
    by_cases hf0 : fe = 0
    · subst hf0
      have HFE := Lib.hid hfe.symm
      clear hfe
      have hchk : b.chk = if 6 < b.ds.length then 6 else deedsE b.l.length b.ks.length b.ds := by
        unfold Hb.chk checkH
        rw [if_neg (by rw [HCK.out]; simp), if_neg (by rw [HFE.out]; simp)]
      have HCH := Lib.hid hchk
      clear hchk
      by_cases h6 : 6 < b.ds.length
      · have x6 : decide (6 < (b.ds.length : Int)) = true := by simp; omega
        have HL := Lib.hid h6
        clear h6
        go_wp2_with (go_at_call 112; refine hfl.mono ?_; rintro e w' ⟨rfl, rfl⟩)
        go_ret
        exact ⟨ret_int (by rw [HCH.out, if_pos HL.out]), H3.out.1⟩
      · have x6 : decide (6 < (b.ds.length : Int)) = false := by simp; omega
        have HL := Lib.hid h6
        clear h6
        obtain ⟨Ad, hAd⟩ : ∃ Ad, Ad = b.Ad := ⟨_, rfl⟩
        rw [← hAd] at c4
        have hG := H3.out.2.2.1.d
        rw [← hAd] at hG
        obtain ⟨nd, hnd⟩ : ∃ nd, nd = b.ds.length := ⟨_, rfl⟩
        rw [← hnd] at c4 hG x6 hdm
        have HND := Lib.hid hnd
        have hg3 : p < w3.heap.size := heap_lt H3.out.2.2.2
        clear hAd hnd
        go_wp2_with (go_at_call 112; refine hfl.mono ?_; rintro e w' ⟨rfl, rfl⟩)
        go_loopg [29] nd (fun g v wr => ∃ k : Nat, k + g = nd ∧ v = .int .i64 k ∧ deedsE b.l.length b.ks.length (b.ds.take k) = 0 ∧ Below w3.heap.size w3 wr)
        case atStart => exact ⟨0, by omega, rfl, rfl, Below.refl _ _⟩
        case round =>
          obtain ⟨k, hk, rfl, hall, hBr⟩ := hrel
          have HK := Lib.hid (And.intro hk (And.intro hall hBr))
          by_cases hlt : k < nd
          · obtain ⟨bi, oi, d, hA, hbi, hdk, d0, d1, d2, d3, d4, d5, d6, d7, d8, d9, d10, d11⟩ := Deeds.get (hG.below hBr (Nat.le_refl _)) hlt
            subst hA
            have HD := Lib.hid hdk
            have bz : (wr.alloc dZ).heap[wr.heap.size]? = some dZ := alloc_at rfl
            clear hk hall hBr hbi hdk
            go_upto_region 13 with ((with_reducible apply wp_storeD bz rfl); (rfl); (rfl); (rfl); (rfl); intro w5 b5 g5 z5)
            obtain ⟨gx, hgx⟩ : ∃ gx, gx = wr.heap.size := ⟨_, rfl⟩
            have hg5 : wr.grownBy w5 none := ⟨g5.os, g5.tape, g5.output, by rw [z5]; simp, fun j hj _ => (g5.block j (by simp; omega) (fun e => by cases e; omega)).trans (Below.heap_alloc _ _ _ hj)⟩
            have hB5 : Below w3.heap.size w3 w5 := HK.out.2.2.trans ((Below.refl _ _).grown hg5 HK.out.2.2.size (fun k e => by cases e))
            have hcd := checkD_any p b (-1) 0 0 d w5 (bheap H3.out.2.2.2 hB5 (Nat.le_refl _)) (H3.out.2.2.1.below hB5 (Nat.le_refl _)) HCK.out
            unfold dv at hcd
            obtain ⟨de, hde⟩ : ∃ de, de = deedE b.l.length b.ks.length d := ⟨_, rfl⟩
            rw [← hde] at hcd
            rw [← hgx] at b5 ⊢
            obtain ⟨y0, y1, y2, y3, y4, y5, y6, y7, y8, y9, y10, y11⟩ := blkD b5
            have H5 := Lib.hid hB5
            clear hgx z5 g5 hg5 hB5 bz b5 d0 d1 d2 d3 d4 d5 d6 d7 d8 d9 d10 d11
            have htk : b.ds.take (k + 1) = b.ds.take k ++ [d] := by rw [List.take_add_one, HD.out]; rfl
            have HTK := Lib.hid htk
            clear htk
            by_cases hd0 : de = 0
            · subst hd0
              have HDE := Lib.hid hde.symm
              clear hde
              go_wp2_with (go_at_call 83; refine hcd.mono ?_; rintro e w6 ⟨rfl, hb6⟩)
              go_roundg (gk - 1)
              case measure => have := HK.out.1; omega
              case rel => exact ⟨k + 1, by have := HK.out.1; omega, by go_num, by rw [HTK.out, deedsE_snoc _ _ _ _ HK.out.2.1]; exact HDE.out, H5.out.trans (hb6.mono H5.out.size)⟩
            · have xd : (de != 0) = true := by simp [hd0]
              have HD0 := Lib.hid (And.intro hd0 hde)
              clear hd0 hde
              go_wp2_with (go_at_call 83; refine hcd.mono ?_; rintro e w6 ⟨rfl, hb6⟩)
              go_ret
              refine ⟨ret_int ?_, H3.out.1.trans ((H5.out.trans (hb6.mono H5.out.size)).mono H3.out.1.size)⟩
              rw [HCH.out, if_neg HL.out, ← List.take_append_drop (k + 1) b.ds, deedsE_stop, HTK.out, deedsE_snoc _ _ _ _ HK.out.2.1]
              · exact HD0.out.2
              · rw [HTK.out, deedsE_snoc _ _ _ _ HK.out.2.1, ← HD0.out.2]; exact HD0.out.1
          · obtain rfl : k = nd := by omega
            have HE := Lib.hid (show b.chk = 0 by rw [HCH.out, if_neg HL.out]; have := HK.out.2.1; rw [HND.out, List.take_length] at this; exact this)
            have HB := Lib.hid (H3.out.1.trans (hBr.mono H3.out.1.size))
            clear hk hall hBr
            go_wp2_with fail
            go_ret
            exact ⟨ret_int HE.out.symm, HB.out⟩
    · have xf : (fe != 0) = true := by simp [hf0]
      have HF0 := Lib.hid (And.intro hf0 hfe)
      clear hf0 hfe
      go_wp2_with (go_at_call 112; refine hfl.mono ?_; rintro e w' ⟨rfl, rfl⟩)
      go_ret
      refine ⟨ret_int ?_, H3.out.1⟩
      unfold Hb.chk checkH
      rw [if_neg (by rw [HCK.out]; simp), ← HF0.out.2, if_pos HF0.out.1]
  · have xf : (ck != 0) = true := by simp [h0]
    have HF0 := Lib.hid (And.intro h0 hck)
    clear h0 hck
    go_wp2_with (go_at_call 58; refine hmk.mono ?_; rintro e w2 ⟨rfl, hb2⟩)
    go_ret
    refine ⟨ret_int ?_, HV.out.1.trans (hb2.mono HV.out.1.size)⟩
    unfold Hb.chk checkH
    rw [← HF0.out.2, if_pos HF0.out.1]

def AskedR (b : Hb) (ck : Int) (w : World) (e : Ending) (w' : World) : Prop := (ck ≠ 0 ∧ e = .returned (.tuple #[.pointer none, .int .i64 ck]) ∧ Below w.heap.size w w') ∨
      (ck = 0 ∧ ∃ p, e = .returned (.tuple #[.pointer (some ⟨p, 0, none⟩), .int .i64 0]) ∧ Work w p b (-1) 0 w' ∧ Below w.heap.size w w')
set_option maxRecDepth 100000 in
set_option maxHeartbeats 1000000 in
theorem asked_any (b : Hb) (w : World) (hin : HbIn w b) :
    Calls Try.prog 55 #[b.v] w (AskedR b b.chk w) := by
  obtain ⟨V, hV⟩ : ∃ V, V = w.alloc b.obj := ⟨_, rfl⟩
  obtain ⟨g, hg⟩ : ∃ g, g = w.heap.size := ⟨_, rfl⟩
  have b0 : V.heap[g]? = some b.obj := by rw [hV, hg]; exact alloc_at rfl
  have hBV : Below w.heap.size w V := by rw [hV]; exact bal0 w _
  have hiV := hin.below hBV (Nat.le_refl _)
  obtain ⟨c0, c1, c2, c3, c4⟩ := blk5c b0
  have hck := CheckH_any b V hiV
  unfold Hb.v at hck
  obtain ⟨ce, hce⟩ : ∃ ce, ce = b.chk := ⟨_, rfl⟩
  rw [← hce] at hck ⊢
  have HV := Lib.hid (And.intro hBV (And.intro b0 (And.intro hin (And.intro hg hce.symm))))
  unfold Hb.v
  go_enter Try.func55, Try.ntmps55
  go_upto_region 1 with (fail)
  rw [← hV, ← hg]
  clear hV hg hin hBV hiV b0 hce
  by_cases h0 : ce = 0
  · subst h0
    go_upto_region 4 with (go_at_call 94; refine hck.mono ?_; rintro e w2 ⟨rfl, hb2⟩)
    have x0 := bheap HV.out.2.1 hb2 (Nat.le_refl _)
    have hB2 := HV.out.1.trans (hb2.mono HV.out.1.size)
    clear c0 c1 c2 c3 c4 hck hb2
    obtain ⟨c0, c1, c2, c3, c4⟩ := blk5c x0
    have H2 := Lib.hid hB2
    have hbg := begin_any b w2
    unfold Hb.v at hbg
    clear x0 hB2
    go_wp2_with (go_at_call 85; refine hbg.mono ?_; rintro e w3 ⟨p, rfl, hp, hpb, hb3⟩)
    go_ret2
    have hB3 := H2.out.trans (hb3.mono H2.out.size)
    exact .inr ⟨rfl, p, rfl, ⟨HV.out.2.2.1, Nat.le_trans H2.out.size hp, hB3, ⟨_, hpb⟩, HV.out.2.2.2.2⟩, hB3⟩
  · have xf : (ce != 0) = true := by simp [h0]
    have H0 := Lib.hid h0
    clear h0
    go_wp2_with (go_at_call 94; refine hck.mono ?_; rintro e w2 ⟨rfl, hb2⟩)
    go_ret2
    exact .inl ⟨H0.out, rfl, HV.out.1.trans (hb2.mono HV.out.1.size)⟩
end Go.Proofs.Ytmennjmjakdkcaa
