/- HerdRenamed 33: HdOf, RenL. -/
import Derived.Test.YtmennjmjakdkcaaRn32
import Derived.Test.YtmennjmjakdkcaaRn08
import Derived.Deep.RegionHeld3
import Derived.Test.YtmennjmjakdkcaaRn04
import Derived.Test.YtmennjmjakdkcaaRn17
import Derived.Test.YtmennjmjakdkcaaRn02
import Derived.Test.YtmennjmjakdkcaaRn19
import Derived.Test.YtmennjmjakdkcaaRn22
namespace Go.Proofs.Ytmennjmjakdkcaa
open Go.RowKit
set_option linter.unusedVariables false
set_option linter.unusedSimpArgs false

theorem flat_set {α : Type} {enc : α → List Value} {sz j : Nat} {x y : α} {u : Value} (hsz : ∀ x, (enc x).length = sz) (hj : j < sz) (hy : enc y = (enc x).set j u) : ∀ (l : List α) (k : Nat), l[k]? = some x → (l.set k y).flatMap enc = (l.flatMap enc).set (k * sz + j) u
  | [], k, h => by simp at h
  | a :: r, 0, h => by
    simp at h
    subst h
    rw [List.set_cons_zero, List.flatMap_cons, List.flatMap_cons, hy, Nat.zero_mul, Nat.zero_add, List.set_append_left _ _ (by rw [hsz]; exact hj)]
  | a :: r, k + 1, h => by
    rw [List.set_cons_succ, List.flatMap_cons, List.flatMap_cons, flat_set hsz hj hy r k (by simpa using h), List.set_append_right _ _ (by rw [hsz, Nat.succ_mul]; omega), hsz, show (k + 1) * sz + j - sz = k * sz + j by rw [Nat.succ_mul]; omega]
theorem flatGet {α : Type} {enc : α → List Value} {sz j : Nat} {x : α} {u : Value} (hsz : ∀ x, (enc x).length = sz) (hj : j < sz) (hu : (enc x)[j]? = some u) : ∀ (l : List α) (k : Nat), l[k]? = some x → (l.flatMap enc)[k * sz + j]? = some u
  | [], k, h => by simp at h
  | a :: r, 0, h => by
    simp at h
    subst h
    rw [List.flatMap_cons, Nat.zero_mul, Nat.zero_add, List.getElem?_append_left (by rw [hsz]; exact hj)]
    exact hu
  | a :: r, k + 1, h => by
    rw [List.flatMap_cons, List.getElem?_append_right (by rw [hsz, Nat.succ_mul]; omega), hsz, show (k + 1) * sz + j - sz = k * sz + j by rw [Nat.succ_mul]; omega]
    exact flatGet hsz hj hu r k (by simpa using h)
/-- a cell of an element of an own slice: where it lies, and what a store leaves -/
theorem Own.putC {α : Type} {enc : α → List Value} {e : TypeId} {sz base n c : Nat} {A : Option Addr} {w : World} {l : List α} (hsz : ∀ x, (enc x).length = sz) (h : Own enc e sz w base (.slice A n c) l) {k : Nat} {x : α} (hk : l[k]? = some x) :
    ∃ g, A = some ⟨g, 0, none⟩ ∧ base ≤ g ∧ g < w.heap.size ∧ n = l.length ∧ n ≤ c ∧ c ≤ maxLen ∧ (∃ cs, w.heap[g]? = some (Obj.cells cs e (0, 0))) ∧ (∀ j u, (enc x)[j]? = some u → w.cell? ⟨g, k * sz + j, none⟩ = some u) ∧ (∀ o, w.frozen? ⟨g, o, none⟩ = false) ∧
      ∀ (j : Nat) (u : Value) (y : α), j < sz → enc y = (enc x).set j u → Own enc e sz (w.setCell ⟨g, k * sz + j, none⟩ u) base (.slice A n c) (l.set k y) := by
  have hkl : k < l.length := (List.getElem?_eq_some_iff.1 hk).1
  rcases h.2 with ⟨hv, h0⟩ | ⟨g, cap, cur, hv, hg, hh, hnc, hcm, hs, htk⟩
  · omega
  · cases hv
    have hfl := flat_len hsz l
    have hlt : ∀ j, j < sz → k * sz + j < l.length * sz := fun j hj => by
      have : (k + 1) * sz ≤ l.length * sz := Nat.mul_le_mul_right _ (by omega)
      rw [Nat.succ_mul] at this
      omega
    refine ⟨g, rfl, hg, heap_lt hh, rfl, hnc, hcm, ⟨_, hh⟩, fun j u hu => ?_, fun o => frz hh o, fun j u y hj hy => ⟨by rw [flat_len hsz, List.length_set], .inr ⟨g, c, cur.setIfInBounds (k * sz + j) u, by rw [List.length_set], hg, set_blk hh, by rw [List.length_set]; exact hnc, hcm, by simpa using hs, ?_⟩⟩⟩
    · have hj : j < sz := by have := (List.getElem?_eq_some_iff.1 hu).1; rw [hsz] at this; exact this
      have hm := flatGet hsz hj hu l k hk
      rw [← htk, List.getElem?_take_of_lt (hlt j hj), Array.getElem?_toList] at hm
      unfold World.cell?
      simp [hh, hm]
    · rw [Array.toList_setIfInBounds, List.take_set, List.length_set, htk, flat_set hsz hj hy l k hk]

/-- a herd book of the call's own -/
structure HbO (w : World) (base : Nat) (b : Hb) : Prop where
  m : OwnM w base b.vm b.l
  k : OwnI w base b.vk b.ks
  h : OwnG w base b.vh b.hs
  d : OwnD w base b.vd b.ds
section
variable {w w' : World} {base B : Nat} {b : Hb}
theorem HbO.below (h : HbO w base b) (hb : Below B w w') (hB : w.heap.size ≤ B) : HbO w' base b := ⟨h.m.below hb hB, h.k.below hb hB, h.h.below hb hB, h.d.below hb hB⟩
theorem HbO.mono {c : Nat} (h : HbO w base b) (hc : c ≤ base) : HbO w c b := ⟨h.m.mono hc, h.k.mono hc, h.h.mono hc, h.d.mono hc⟩
theorem HbO.inn (h : HbO w base b) : HbIn w b := by
  obtain ⟨A1, c1, e1, m1, m2, m3⟩ := h.m.form lenMk
  obtain ⟨A2, c2, e2, k1, k2, k3⟩ := h.k.form lenInt
  obtain ⟨A3, c3, e3, h1, h2, h3⟩ := h.h.form
  obtain ⟨A4, c4, e4, d1, d2, d3⟩ := h.d.form lenDe
  injection e1 with a1 _ b1
  injection e2 with a2 _ b2
  injection e3 with a3 _ b3
  injection e4 with a4 _ b4
  subst a1 b1 a2 b2 a3 b3 a4 b4
  exact ⟨m1, m2, m3, k1, k2, k3, h1, h2, h3, d1, d2, d3⟩
theorem OwnG.keptH {v : Value} {ls : List (List Int)} {H : Nat} (h : OwnG w base v ls) (hg : w.grownBy w' (some H)) (hH : H < base) : OwnG w' base v ls := by
  obtain ⟨mv, h1, h2⟩ := h
  exact ⟨mv, h1.kept hg (.inr (fun e => by have := (h1.lt _ e).1; omega)), Rws.kept h2 hg (fun x hx => .inr (fun e => by have := (Rws.ltv h2 hx _ e).1; omega))⟩
theorem Own.keptH {α : Type} {enc : α → List Value} {e : TypeId} {sz H : Nat} {v : Value} {l : List α} (h : Own enc e sz w base v l) (hg : w.grownBy w' (some H)) (hH : H < base) : Own enc e sz w' base v l :=
  h.kept hg (.inr (fun e => by have := (h.lt _ e).1; omega))
theorem HbO.dealt {H N : Nat} (h : HbO w base b) (hd : Dealt w w' H N) (hH : H < base) : HbO w' base b := ⟨h.m.keptH hd.gr hH, h.k.keptH hd.gr hH, h.h.keptH hd.gr hH, h.d.keptH hd.gr hH⟩
end
/-- what HerdOf hands back -/
def HerdR (w : World) (H N n nf nd : Nat) (e : Ending) (w' : World) : Prop :=
  ∃ b : Hb, e = .returned b.v ∧ b.chk = 0 ∧ (b.l.length ≤ n ∨ b.l.length = 1) ∧ (b.ks.length ≤ nf ∨ b.ks.length = 1) ∧ b.ds.length ≤ nd ∧ HbO w' w.heap.size b ∧ Dealt w w' H N

theorem deedE_inv {n nf : Nat} {d : De} (h : deedE n nf d = 0) : (1 ≤ d.kind ∧ d.kind ≤ 6) ∧ (0 ≤ d.flock ∧ d.flock < nf) ∧ fldE n nf d = 0 ∧ d = namD d := by
  unfold deedE at h
  obtain ⟨h1, h⟩ := ite0 (by decide) h
  obtain ⟨h2, h⟩ := ite0 (by decide) h
  split at h
  · exact absurd h (by assumption)
  rename_i h3
  obtain ⟨h4, -⟩ := ite0 (by decide) h
  exact ⟨btw_iff.1 ((Bool.not_eq_false _).mp h1), ownB_iff.1 ((Bool.not_eq_false _).mp h2), Classical.not_not.1 h3, Classical.not_not.1 h4⟩
/-- another number of sheep, from 1 to 3 -/
theorem deedE_many {n nf : Nat} {d : De} {x : Int} (h : deedE n nf d = 0) (h5 : d.kind ≠ 5) (hx : 1 ≤ x ∧ x ≤ 3) : deedE n nf { d with many := x } = 0 := by
  obtain ⟨h1, h2, h3, h4⟩ := deedE_inv h
  obtain ⟨kind, flock, owner, other, tof, many, err, s⟩ := d
  dsimp only at *
  refine deedE_ok h1 h2 ?_ ?_
  · unfold fldE at h3 ⊢
    dsimp only at h3 ⊢
    obtain e | e | e | e | e : kind = 1 ∨ kind = 2 ∨ kind = 3 ∨ kind = 4 ∨ kind = 6 := by omega
    all_goals subst e
    · rw [if_pos (by decide)] at h3 ⊢
      obtain ⟨a1, h3⟩ := ite0 (by decide) h3
      rw [if_neg a1, if_neg (by rw [btw_iff.2 ⟨hx.1, by omega⟩]; decide)]
    · rw [if_neg (by decide), if_pos (by decide)] at h3 ⊢
      obtain ⟨a1, h3⟩ := ite0 (by decide) h3
      obtain ⟨a2, h3⟩ := ite0 (by decide) h3
      rw [if_neg a1, if_neg a2, if_neg (by rw [btw_iff.2 ⟨hx.1, by omega⟩]; decide)]
    · rw [if_pos (by decide)] at h3 ⊢
      obtain ⟨a1, h3⟩ := ite0 (by decide) h3
      rw [if_neg a1, if_neg (by rw [btw_iff.2 ⟨hx.1, by omega⟩]; decide)]
    · rw [if_neg (by decide), if_neg (by decide), if_pos (by decide)]
      rw [if_neg (by rw [btw_iff.2 ⟨hx.1, by omega⟩]; decide)]
    · rw [if_neg (by decide), if_neg (by decide), if_neg (by decide), if_neg (by decide)] at h3 ⊢
      obtain ⟨a1, -⟩ := ite0 (by decide) h3
      rw [if_neg (fun h => h.elim (fun h => by rw [btw_iff.2 ⟨by omega, by omega⟩] at h; cases h) fun h => a1 (.inr h))]
  · unfold namD at h4 ⊢
    dsimp only at h4 ⊢
    obtain e | e | e | e | e : kind = 1 ∨ kind = 2 ∨ kind = 3 ∨ kind = 4 ∨ kind = 6 := by omega
    all_goals subst e; simp at h4 ⊢; simp [h4]

/-- while some deeds are told otherwise -/
structure HoS (w : World) (H g B nD : Nat) (b : Hb) (M : Nat) (ds : List De) (wr : World) : Prop where
  dl : ds.length = nD
  de : ∀ d ∈ ds, deedE b.l.length b.ks.length d = 0
  m : OwnM wr (g + 1) b.vm b.l
  k : OwnI wr (g + 1) b.vk b.ks
  h : OwnG wr (g + 1) b.vh b.hs
  d : OwnD wr (g + 1) (.slice b.Ad nD b.cd) ds
  bx : wr.heap[B]? = some (boxO b.t b.vm b.vk b.vh (.slice b.Ad nD b.cd))
  bg : wr.heap[g]? = some (boxO 0 (.slice none 0 0) (.slice none 0 0) (.slice none 0 0) (.slice none 0 0))
  dt : Dealt w wr H M
  z : H < g ∧ g < B ∧ w.heap.size ≤ g
section
variable {w wr w' : World} {H g B nD M M' : Nat} {b : Hb} {ds : List De}
theorem HoS.dealt (a : HoS w H g B nD b M ds wr) (hd : Dealt wr w' H M') : HoS w H g B nD b M' ds w' := by
  have hz := a.z
  exact ⟨a.dl, a.de, a.m.keptH hd.gr (by omega), a.k.keptH hd.gr (by omega), a.h.keptH hd.gr (by omega), a.d.keptH hd.gr (by omega), hd.blk a.bx (by omega), hd.blk a.bg (by omega), a.dt.trans hd, a.z⟩
theorem HoS.mono (a : HoS w H g B nD b M ds wr) (h : M ≤ M') : HoS w H g B nD b M' ds wr := ⟨a.dl, a.de, a.m, a.k, a.h, a.d, a.bx, a.bg, a.dt.mono h, a.z⟩
theorem HoS.at (a : HoS w H g B nD b M ds wr) {k : Nat} (hk : k < nD) : ∃ gd d, b.Ad = some ⟨gd, 0, none⟩ ∧ ds[k]? = some d ∧ nD ≤ b.cd ∧ b.cd ≤ maxLen ∧ wr.cell? ⟨gd, k * 12, none⟩ = some (.int .i64 d.kind) ∧ wr.cell? ⟨gd, k * 12 + 5, none⟩ = some (.int .i64 d.many) ∧ wr.frozen? ⟨gd, k * 12 + 5, none⟩ = false ∧
    gd < wr.heap.size ∧ gd ≠ H ∧ gd ≠ B ∧ ∀ x, d.kind ≠ 5 → 1 ≤ x → x ≤ 3 → HoS w H g B nD b M (ds.set k { d with many := x }) (wr.setCell ⟨gd, k * 12 + 5, none⟩ (.int .i64 x)) := by
  have hz := a.z
  obtain ⟨d, hd⟩ : ∃ d, ds[k]? = some d := ⟨_, List.getElem?_eq_getElem (by rw [a.dl]; exact hk)⟩
  obtain ⟨gd, e, h1, h2, h3, h4, h5, ⟨cs, hb⟩, h6, h7, h8⟩ := a.d.putC lenDe hd
  have hgB : gd ≠ B := fun e => by subst e; have := a.bx; rw [hb] at this; cases this
  have hgg : gd ≠ g := by omega
  refine ⟨gd, d, e, hd, h4, h5, h6 0 _ rfl, h6 5 _ rfl, h7 _, h2, by omega, hgB, fun x hk5 hx1 hx2 => ?_⟩
  have hgr := grownBy_cell wr gd (k * 12 + 5) (.int .i64 x)
  have hvd : (Value.slice b.Ad nD b.cd).ownBlock = some gd := by rw [e]; rfl
  have key : ∀ {α : Type} {enc : α → List Value} {e : TypeId} {sz : Nat} {v : Value} {l : List α}, Own enc e sz wr (g + 1) v l → e ≠ 38 → Own enc e sz (wr.setCell ⟨gd, k * 12 + 5, none⟩ (.int .i64 x)) (g + 1) v l := fun ho he => ho.kept hgr (.inr (ho.ne' hb he))
  obtain ⟨mv, g1, g2⟩ := a.h
  refine ⟨by rw [List.length_set]; exact a.dl, fun d' hd' => ?_, key a.m (by decide), key a.k (by decide), ⟨mv, key g1 (by decide), Rws.kept g2 hgr (fun y hy => .inr (Rws.ne g2 hy hb (by decide)))⟩, h8 5 (.int .i64 x) { d with many := x } (by decide) rfl, (hgr.block B (heap_lt a.bx) (fun e => hgB (by simpa using e.symm))).trans a.bx, (hgr.block g (heap_lt a.bg) (fun e => hgg (by simpa using e.symm))).trans a.bg, a.dt.set (by show H < gd; omega) (by show w.heap.size ≤ gd; omega) _, a.z⟩
  rcases List.mem_or_eq_of_mem_set hd' with h | rfl
  · exact a.de _ h
  · exact deedE_many (a.de _ (List.mem_of_getElem? hd)) hk5 ⟨hx1, hx2⟩
end
theorem HbO.ofS {w wr : World} {H g B nD M : Nat} {b : Hb} {ds : List De} (a : HoS w H g B nD b M ds wr) (hc : b.chk = 0) (hl : b.ds.length = nD) : HbO wr w.heap.size { b with ds := ds } ∧ ({ b with ds := ds } : Hb).chk = 0 := by
  have hz := a.z
  obtain ⟨a1, a2⟩ : True ∧ nD = ds.length := ⟨trivial, a.dl.symm⟩
  subst a2
  refine ⟨⟨a.m.mono (by omega), a.k.mono (by omega), a.h.mono (by omega), a.d.mono (by omega)⟩, ?_⟩
  have h := checkH_ok hc
  exact bookChk h.ck h.f0 h.f3 h.kk h.hl (fun r hr => ⟨h.rl r hr, h.rb r hr⟩) (show ds.length ≤ 6 by have := h.d6; omega) a.de
set_option maxRecDepth 100000 in
set_option maxHeartbeats 2000000 in
theorem herdOf_any (H N n nf nd : Nat) (w : World) (h : Hd w H N) (hN : N ≤ 4611686018000000000) (hn : n ≤ 5) (hnf : nf ≤ 3) (hnd : nd ≤ 6) :
    Calls Try.prog 21 #[.pointer (some ⟨H, 0, none⟩), .int .i64 n, .int .i64 nf, .int .i64 nd] w (HerdR w H (N + 200000) n nf nd) := by
  have hHl := h.lt
  obtain ⟨g, hg⟩ : ∃ g, g = w.heap.size := ⟨_, rfl⟩
  obtain ⟨V, hV⟩ : ∃ V, V = w.alloc (boxO 0 (.slice none 0 0) (.slice none 0 0) (.slice none 0 0) (.slice none 0 0)) := ⟨_, rfl⟩
  have hDV : Dealt w V H N := by rw [hV]; exact (Dealt.refl h).alloc _
  have b0 : V.heap[g]? = some (boxO 0 (.slice none 0 0) (.slice none 0 0) (.slice none 0 0) (.slice none 0 0)) := by rw [hV, hg]; exact alloc_at rfl
  have hzV : V.heap.size = g + 1 := by rw [hV, hg]; simp
  have HV := Lib.hid (And.intro hDV (And.intro b0 (And.intro hzV hg)))
  have htl := taleOf_any H N n nf nd V hDV.hd hN hn hnf hnd
  unfold boxO at hV
  go_enter Try.func21, Try.ntmps21
  go_upto_region 1 with (fail)
  rw [← hV]
  rw [← hg]
  clear hV hDV b0 hzV hg h
  go_upto_region 2 with (go_at_call 10; refine htl.mono ?_; rintro e w1 ⟨b, vE, vG, vW, gs, gone, whose, rfl, hck, hln, hkn, hdn, hm, hk, hh, hd, hE, hG, hW, hsh, hti, hdl⟩; unfold Hb.v)
  obtain ⟨B, hB⟩ : ∃ B, B = w1.heap.size := ⟨_, rfl⟩
  obtain ⟨w2, hw2⟩ : ∃ w2, w2 = w1.alloc (Obj.cells #[Value.int .i64 b.t, .slice b.A b.l.length b.c, .slice b.Ak b.ks.length b.ck, .slice b.Ah b.hs.length b.ch, .slice b.Ad b.ds.length b.cd] 29) := ⟨_, rfl⟩
  rw [← hw2]
  rw [← hB]
  have hz := hdl.size
  have hBl : Below w1.heap.size w1 w2 := by rw [hw2]; exact bal0 _ _
  obtain ⟨nD, hnD⟩ : ∃ nD, nD = b.ds.length := ⟨_, rfl⟩
  have hS : HoS w H g B nD b (N + 100000) b.ds w2 := by
    have hz1 : V.heap.size = g + 1 := HV.out.2.2.1
    have hck' := checkH_ok hck
    rw [hz1] at hm hk hh hd hz
    refine ⟨hnD.symm, hck'.dE, hm.below hBl (Nat.le_refl _), hk.below hBl (Nat.le_refl _), hh.below hBl (Nat.le_refl _), by rw [hnD]; exact hd.below hBl (Nat.le_refl _), by rw [hw2, hB, hnD]; exact alloc_at rfl, ?_, ?_, by have := HV.out.2.2.2; omega, by omega, by have := HV.out.2.2.2; omega⟩
    · exact bheap (hdl.blk HV.out.2.1 (by have := HV.out.2.2.2; omega)) hBl (Nat.le_refl _)
    · rw [hw2]; exact (HV.out.1.trans hdl).alloc _
  rw [← hnD]
  have HC := Lib.hid (And.intro hck (And.intro hln (And.intro hkn (And.intro hdn hnD))))
  have hn6 : nD ≤ 6 := by omega
  clear htl hck hln hkn hdn hm hk hh hd hE hG hW hsh hti hdl hz hBl hB hw2 hnD
  go_wp2_with fail
  go_loopg [13] nD (fun gg v13 wr => ∃ (k : Nat) (ds : List De), k + gg = nD ∧ v13 = .int .i64 k ∧ HoS w H g B nD b (N + 100000 + 2 * k) ds wr)
  case atStart => exact ⟨0, b.ds, by omega, rfl, hS⟩
  case round =>
    obtain ⟨k, ds, hk, rfl, hS⟩ := hrel
    by_cases hlt : k < nD
    · obtain ⟨M, hM⟩ : ∃ M, M = N + 100000 + 2 * k := ⟨_, rfl⟩
      rw [← hM] at hS
      have hMN : M ≤ 4611686018000200000 := by omega
      obtain ⟨gd, d, hA, hdk, hc1, hc2, hk0, hk5, hf5, hgz, hgH, hgB, hput⟩ := hS.at hlt
      obtain ⟨x0, x1, x2, x3, x4⟩ := blk5 hS.bx
      rw [hA] at x4
      have hHd := hS.dt.hd
      have hlt' : (k : Int) < (nD : Int) := by omega
      obtain ⟨kd, hkd⟩ : ∃ kd, kd = d.kind := ⟨_, rfl⟩
      rw [← hkd] at hk0
      have HA := Lib.hid (And.intro hA hdk)
      have HS := Lib.hid (And.intro hS (And.intro hput (And.intro hkd (And.intro hk hM))))
      clear hput hkd hS hM hA hdk
      by_cases h5 : kd = 5
      · have e5 : (kd != 5) = false := by simp [h5]
        clear h5
        go_wp2_with fail
        go_roundg (gk - 1)
        case measure => have := HS.out.2.2.2.1; omega
        case rel => exact ⟨k + 1, ds, by have := HS.out.2.2.2.1; omega, by go_num, HS.out.1.mono (by have := HS.out.2.2.2.2; omega)⟩
      · have e5 : (kd != 5) = true := by simp [h5]
        have H5 := Lib.hid h5
        clear h5
        have hod := odds_any H M 1 6 wr hHd (by omega) (by omega) (by omega)
        go_upto_if 41 with (go_at_call 69; refine hod.mono ?_; rintro e w2 ⟨o, rfl, hd2⟩)
        have hS2 := HS.out.1.dealt hd2
        obtain ⟨y0, y1, y2, y3, y4⟩ := blk5 hS2.bx
        clear hod
        cases o
        · go_wp2_with fail
          go_roundg (gk - 1)
          case measure => have := HS.out.2.2.2.1; omega
          case rel => exact ⟨k + 1, ds, by have := HS.out.2.2.2.1; omega, by go_num, hS2.mono (by have := HS.out.2.2.2.2; omega)⟩
        · obtain ⟨gd', d', hA', hdk', -, -, -, hk5', hf5', hgz', -, -, hput'⟩ := hS2.at hlt
          rw [HA.out.1] at hA'
          cases hA'
          rw [HA.out.2] at hdk'
          cases hdk'
          have y4' : w2.drew.cell? ⟨B, 4, none⟩ = some (.slice (some ⟨gd, 0, none⟩) nD b.cd) := by rw [← HA.out.1]; exact y4
          have hc5 : w2.drew.cell? ⟨gd, k * 12 + 5, none⟩ = some (.int .i64 d.many) := hk5'
          have hcf : w2.drew.frozen? ⟨gd, k * 12 + 5, none⟩ = false := hf5'
          have hBH : B ≠ H := by have := hS2.z; omega
          have hHd2 := hS2.dt.hd
          have ham := among_any H (M + 1) 1 3 w2.drew hHd2.drew (by omega) (by omega) (by omega)
          have HP := Lib.hid hS2
          clear hput' hS2 y0 y1 y2 y3 y4 hHd2 hd2 hk5' hf5'
          go_upto_region 6 with (fail)
          go_region_held3 (fun w' => w'.cell? ⟨B, 4, none⟩ = some (.slice (some ⟨gd, 0, none⟩) nD b.cd))
            (first
              | (with_reducible exact y4')
              | (with_reducible exact hd3.cell y4' hBH)
              | (exact (World.cell?_of_block (a := ⟨B, 4, none⟩) (Below.heap_setCell _ ⟨gd, k * 12 + 5, none⟩ _ _ (show B ≠ gd from fun e => hgB e.symm))).trans (hd3.cell y4' hBH))
              | fail)
            (first
              | (go_at_call 34; refine ham.mono ?_; rintro e w3 ⟨x, rfl, hx1, hx2, hd3⟩; have hc3 := hd3.cell hc5 hgH; have hcf3 := (World.frozen?_of_block (a := ⟨gd, k * 12 + 5, none⟩) (hd3.gr.block gd hgz' (by intro e; cases e; exact hgH rfl))).trans hcf)
              | fail)
          all_goals
            have hS3 := HP.out.dealt (show Dealt w2 w3 H (M + 1 + 1) from hd3.undrew)
            obtain ⟨gd2, d2, e1, e2, -, -, -, -, -, -, -, -, hput3⟩ := hS3.at hlt
            rw [HA.out.1] at e1
            cases e1
            rw [HA.out.2] at e2
            cases e2
            have hS4 := Lib.hid (hput3 x (by rw [← HS.out.2.2.1]; exact H5.out) hx1 (by omega))
            clear hput3 hS3 hd3 hx1 hx2
            go_wp2_with fail
            go_roundg (gk - 1)
            case measure => have := HS.out.2.2.2.1; omega
            case rel => exact ⟨k + 1, _, by have := HS.out.2.2.2.1; omega, by go_num, hS4.out.mono (by have := HS.out.2.2.2.2; omega)⟩
    · obtain rfl : k = nD := by omega
      obtain ⟨x0, x1, x2, x3, x4⟩ := blk5 hS.bx
      obtain ⟨z0, z1, z2, z3, z4⟩ := blk5 hS.bg
      obtain ⟨f0, f1, f2, f3, f4⟩ := And.intro (frz hS.bg 0) (And.intro (frz hS.bg 1) (And.intro (frz hS.bg 2) (And.intro (frz hS.bg 3) (frz hS.bg 4))))
      have hgl := heap_lt hS.bg
      have HS := Lib.hid hS
      clear hS
      go_wp2_with fail
      obtain ⟨W, hW⟩ : ∃ W, W = (((((wr.setCell ⟨g, 0, none⟩ (.int .i64 b.t)).setCell ⟨g, 1, none⟩ (.slice b.A b.l.length b.c)).setCell ⟨g, 2, none⟩ (.slice b.Ak b.ks.length b.ck)).setCell ⟨g, 3, none⟩ (.slice b.Ah b.hs.length b.ch)).setCell ⟨g, 4, none⟩ (.slice b.Ad k b.cd)) := ⟨_, rfl⟩
      rw [← hW]
      have bgW : W.heap[g]? = some (boxO b.t b.vm b.vk b.vh (.slice b.Ad k b.cd)) := by rw [hW]; exact (set_blk (set_blk (set_blk (set_blk (set_blk HS.out.bg))))).trans (by simp; rfl)
      have hgr : wr.grownBy W (some g) := by rw [hW]; exact ((((grownBy_cell _ g _ _).trans (grownBy_cell _ g _ _)).trans (grownBy_cell _ g _ _)).trans (grownBy_cell _ g _ _)).trans (grownBy_cell _ g _ _)
      obtain ⟨q0, q1, q2, q3, q4⟩ := blk5 bgW
      obtain ⟨o1, o2⟩ := HbO.ofS HS.out HC.out.1 HC.out.2.2.2.2.symm
      have hsl := HS.out.dl
      have hc := HC.out
      have hz := HS.out.z
      have hbg := HS.out.bg
      refine bodyPost_ret (v := .agg #[.int .i64 b.t, .slice b.A b.l.length b.c, .slice b.Ak b.ks.length b.ck, .slice b.Ah b.hs.length b.ch, .slice b.Ad k b.cd]) (by simp [results, Try.f21, go_sem, q0, q1, q2, q3, q4]) rfl ⟨{ b with ds := ds }, by rw [← hsl], o2, hc.2.1, hc.2.2.1, by show ds.length ≤ nd; omega, ?_, ?_⟩
      · exact ⟨o1.m.kept hgr (.inr (o1.m.ne' hbg (by decide))), o1.k.kept hgr (.inr (o1.k.ne' hbg (by decide))), o1.h.keptB hgr hbg, o1.d.kept hgr (.inr (o1.d.ne' hbg (by decide)))⟩
      · exact (HS.out.dt.ownG hgr fun j e => by cases e; omega).mono (by omega)
end Go.Proofs.Ytmennjmjakdkcaa
namespace Go.Proofs.Ytmennjmjakdkcaa
set_option linter.unusedVariables false
set_option linter.unusedSimpArgs false

/-- numbers of flocks change places: r from the old one to the new one, s back -/
structure Swp (nf : Nat) (r s : Nat → Nat) : Prop where
  rs : ∀ f, f < 3 → r (s f) = f
  sr : ∀ f, f < 3 → s (r f) = f
  rl : ∀ f, f < 3 → r f < 3
  sl : ∀ f, f < 3 → s f < 3
  rn : ∀ f, f < nf → r f < nf
  sn : ∀ f, f < nf → s f < nf
def renH (s : Nat → Nat) (h : List Int) : List Int := (List.range 15).map fun i => hget h (s (i / 5)) (i % 5)
theorem renH_len (s : Nat → Nat) (h : List Int) : (renH s h).length = 15 := by simp [renH]
theorem renH_get {s : Nat → Nat} {h : List Int} {f o : Nat} (hf : f < 3) (ho : o < 5) : hget (renH s h) f o = hget h (s f) o := by
  have e : hget (renH s h) f o = (renH s h).getD (5 * f + o) 0 := rfl
  rw [e, List.getD_eq_getElem?_getD]
  unfold renH
  rw [List.getElem?_map, List.getElem?_range (by omega)]
  simp only [Option.map_some, Option.getD_some]
  rw [show (5 * f + o) / 5 = f by omega, show (5 * f + o) % 5 = o by omega]
theorem h_ext {x y : List Int} (hx : x.length = 15) (hy : y.length = 15) (h : ∀ f o, f < 3 → o < 5 → hget x f o = hget y f o) : x = y := by
  apply List.ext_getElem (by omega)
  intro i h1 h2
  have := h (i / 5) (i % 5) (by omega) (by omega)
  unfold hget at this
  rw [show 5 * (i / 5) + i % 5 = i by omega, List.getD_eq_getElem?_getD, List.getD_eq_getElem?_getD, List.getElem?_eq_getElem h1, List.getElem?_eq_getElem h2] at this
  exact this
section
variable {nf : Nat} {r s : Nat → Nat} (hS : Swp nf r s)
include hS
theorem Swp.iff {f g : Nat} (hf : f < 3) (hg : g < 3) : r f = g ↔ f = s g := ⟨fun e => by rw [← e, hS.sr f hf], fun e => by rw [e, hS.rs g hg]⟩
theorem renH_hadd {h : List Int} {f o : Nat} {k : Int} (hl : h.length = 15) (hf : f < 3) (ho : o < 5) : renH s (hadd h f o k) = hadd (renH s h) (r f) o k := by
  refine h_ext (renH_len _ _) (hadd_l (renH_len _ _)) fun f' o' hf' ho' => ?_
  rw [renH_get hf' ho', hget_hadd hl hf ho ho', hget_hadd (renH_len _ _) (hS.rl f hf) ho ho', renH_get (hS.rl f hf) ho, renH_get hf' ho', hS.sr f hf]
  by_cases e : f = s f' ∧ o = o'
  · rw [if_pos e, if_pos ⟨(hS.iff hf hf').2 e.1, e.2⟩]
  · rw [if_neg e, if_neg fun e' => e ⟨(hS.iff hf hf').1 e'.1, e'.2⟩]
theorem renH_mvd {h : List Int} {f o : Nat} {k : Int} (hl : h.length = 15) (hf : f < 3) (ho : o < 5) : mvd (renH s h) (r f) o k = (mvd h f o k).map (renH s) := by
  unfold mvd
  rw [renH_get (hS.rl f hf) ho, hS.sr f hf]
  split
  · rw [← renH_hadd hS hl hf ho]; rfl
  · rfl
theorem renH_lostJ {n f : Nat} (hf : f < 3) (hn : n ≤ 5) : ∀ (j : Nat) (h : List Int) (m : Nat), h.length = 15 → lostJ n (r f) j (renH s h) m = (lostJ n f j h m).map (renH s)
  | 0, h, m, _ => by unfold lostJ; split <;> rfl
  | j + 1, h, m, hl => by
    unfold lostJ
    split
    · rfl
    · rw [List.map_flatMap]
      congr 1
      funext k
      rcases Nat.eq_zero_or_pos n with hn0 | hn0
      · rw [renH_mvd hS hl hf (by omega)]
        cases hm : mvd h f (n - (j + 1)) (-(k : Int)) with
        | none => rfl
        | some x => exact renH_lostJ hf hn j x (m - k) (by rw [(mvd_some hm).2]; exact hadd_l hl)
      · rw [renH_mvd hS hl hf (by omega)]
        cases hm : mvd h f (n - (j + 1)) (-(k : Int)) with
        | none => rfl
        | some x => exact renH_lostJ hf hn j x (m - k) (by rw [(mvd_some hm).2]; exact hadd_l hl)
theorem renH_stray {f g : Nat} (hf : f < 3) (hg : g < 3) {h : List Int} (hl : h.length = 15) : ∀ os : List Int, (∀ o ∈ os, o.toNat < 5) → strayL (r f) (r g) (renH s h) os = (strayL f g h os).map (renH s)
  | [], _ => rfl
  | o :: os, ho => by
    have ih := renH_stray hf hg hl os fun o ho' => ho o (List.mem_cons_of_mem _ ho')
    have h0 := ho o List.mem_cons_self
    unfold strayL at ih ⊢
    rw [List.flatMap_cons, List.flatMap_cons, List.map_append, ih, renH_mvd hS hl hf h0]
    congr 1
    cases hm : mvd h f o.toNat (-1) with
    | none => rfl
    | some x =>
      show [hadd (renH s x) (r g) o.toNat 1] = [renH s (hadd x g o.toNat 1)]
      rw [renH_hadd hS (by rw [(mvd_some hm).2]; exact hadd_l hl) hg h0]
theorem renH_all {h : List Int} {f : Nat} (hf : f < 3) : hall (renH s h) (r f) = hall h f := by
  unfold hall
  have hr := hS.rl f hf
  rw [renH_get hr (by decide), renH_get hr (by decide), renH_get hr (by decide), renH_get hr (by decide), renH_get hr (by decide), hS.sr f hf]
theorem renH_owned {h : List Int} {o : Nat} (ho : o < 5) : howned (renH s h) o = howned h o := by
  unfold howned
  rw [renH_get (by decide) ho, renH_get (by decide) ho, renH_get (by decide) ho]
  have a0 := hS.rs 0 (by decide)
  have a1 := hS.rs 1 (by decide)
  have a2 := hS.rs 2 (by decide)
  rcases lt3 (hS.sl 0 (by decide)) with e0 | e0 | e0 <;> rcases lt3 (hS.sl 1 (by decide)) with e1 | e1 | e1 <;> rcases lt3 (hS.sl 2 (by decide)) with e2 | e2 | e2 <;> rw [e0] at a0 <;> rw [e1] at a1 <;> rw [e2] at a2 <;> rw [e0, e1, e2] <;> omega
end
/-- a deed of flocks with other numbers -/
def renD (r : Nat → Nat) (d : De) : De := ⟨d.kind, (r d.flock.toNat : Nat), d.owner, d.other, if d.kind = 5 then ((r d.tof.toNat : Nat) : Int) else d.tof, d.many, d.err, d.s⟩
theorem renH_succ {nf : Nat} {r s : Nat → Nat} (hS : Swp nf r s) {t : Int} {l : List Mk} {pass : Int → Bool} {d : De} {h : List Int} (hnf : nf ≤ 3) (hl5 : l.length ≤ 5) (hd : DeIn l.length nf d) (hl : h.length = 15) :
    succ t l pass (renD r d) (renH s h) = (succ t l pass d h).map (renH s) := by
  have hf : d.flock.toNat < 3 := by have := hd.f; omega
  have ho : d.owner.toNat < 5 := by have := hd.o; omega
  have hx : d.other.toNat < 5 := by have := hd.x; omega
  have ht : d.tof.toNat < 3 := by have := hd.t; omega
  have k0 : (renD r d).kind = d.kind := rfl
  have kf : (renD r d).flock.toNat = r d.flock.toNat := Int.toNat_natCast _
  have ko : (renD r d).owner = d.owner := rfl
  have kx : (renD r d).other = d.other := rfl
  have km : (renD r d).many = d.many := rfl
  have ks : (renD r d).s = d.s := rfl
  unfold succ
  rw [k0, ko, kx, km, ks, kf]
  by_cases h1 : d.kind = 1
  · rw [if_pos h1, if_pos h1, List.map_cons, List.map_nil, renH_hadd hS hl hf ho]
  rw [if_neg h1, if_neg h1]
  by_cases h2 : d.kind = 2
  · rw [if_pos h2, if_pos h2, renH_mvd hS hl hf ho]
    cases hm : mvd h d.flock.toNat d.owner.toNat (-d.many) with
    | none => rfl
    | some x =>
      show [hadd (renH s x) (r d.flock.toNat) d.other.toNat d.many] = [renH s (hadd x d.flock.toNat d.other.toNat d.many)]
      rw [renH_hadd hS (by rw [(mvd_some hm).2]; exact hadd_l hl) hf hx]
  rw [if_neg h2, if_neg h2]
  by_cases h3 : d.kind = 3
  · rw [if_pos h3, if_pos h3, renH_mvd hS hl hf ho]
    cases hm : mvd h d.flock.toNat d.owner.toNat (-d.many) with
    | none => rfl
    | some x => rfl
  rw [if_neg h3, if_neg h3]
  by_cases h4 : d.kind = 4
  · rw [if_pos h4, if_pos h4, renH_lostJ hS hf hl5 _ _ _ hl]
  rw [if_neg h4, if_neg h4]
  by_cases h5 : d.kind = 5
  · have kt : (renD r d).tof.toNat = r d.tof.toNat := by show (if d.kind = 5 then ((r d.tof.toNat : Nat) : Int) else d.tof).toNat = _; rw [if_pos h5]; exact Int.toNat_natCast _
    rw [if_pos h5, if_pos h5, kt]
    refine renH_stray hS hf ht hl _ fun o ho' => ?_
    have := mayTo_lt o (List.mem_filter.1 ho').1
    omega
  rw [if_neg h5, if_neg h5]
  have hc : countB (renD r d) (renH s h) = countB d h := by
    unfold countB
    rw [kf, renH_all hS hf]
    rfl
  rw [hc]
  split
  · rfl
  · rfl
theorem renH_first {nf : Nat} {r s : Nat → Nat} (hS : Swp nf r s) {hs hs' : List (List Int)} (h : ∀ f, f < 3 → hs'.getD (r f) [] = hs.getD f []) : firstH hs' = renH s (firstH hs) := by
  refine h_ext (by simp [firstH]) (renH_len _ _) fun f o hf ho => ?_
  rw [renH_get hf ho, firstH_get _ hf ho, firstH_get _ (hS.sl f hf) ho]
  unfold getG
  rw [← h (s f) (hS.sl f hf), hS.rs f hf]
theorem renH_ends {nf : Nat} {r s : Nat → Nat} (hS : Swp nf r s) {t : Int} {l : List Mk} {hs hs' : List (List Int)} {ds : List De} (hnf : nf ≤ 3) (hl5 : l.length ≤ 5) (hd : ∀ d ∈ ds, DeIn l.length nf d) (hfst : firstH hs' = renH s (firstH hs))
    (hE : ∀ i, ∀ y ∈ endsTo t l hs ds (-1) 0 i, y.length = 15) : ∀ i, i ≤ ds.length → ∀ x, x ∈ endsTo t l hs' (ds.map (renD r)) (-1) 0 i ↔ ∃ y ∈ endsTo t l hs ds (-1) 0 i, x = renH s y
  | 0, _, x => by simp [endsTo, hfst]
  | i + 1, hi, x => by
    have ih := renH_ends hS hnf hl5 hd hfst hE i (by omega)
    have hdi : ds[i]? = some ds[i] := List.getElem?_eq_getElem hi
    have hdi' : (ds.map (renD r))[i]? = some (renD r ds[i]) := by rw [List.getElem?_map, hdi]; rfl
    have hdn := hd _ (List.getElem_mem hi)
    rw [endsTo_mem hdi']
    constructor
    · rintro ⟨z, hz, hx⟩
      obtain ⟨y, hy, rfl⟩ := (ih z).1 hz
      rw [renH_succ hS hnf hl5 hdn (hE i y hy)] at hx
      obtain ⟨u, hu, rfl⟩ := List.mem_map.1 hx
      exact ⟨u, (endsTo_mem hdi u).2 ⟨y, hy, hu⟩, rfl⟩
    · rintro ⟨u, hu, rfl⟩
      obtain ⟨y, hy, hu⟩ := (endsTo_mem hdi u).1 hu
      refine ⟨renH s y, (ih _).2 ⟨y, hy, rfl⟩, ?_⟩
      rw [renH_succ hS hnf hl5 hdn (hE i y hy)]
      exact List.mem_map.2 ⟨u, hu, rfl⟩
theorem sumS_ren {r : Nat → Nat} {hs hs' : List (List Int)} {o : Nat} (h : howned (firstH hs') o = howned (firstH hs) o) : ∀ ds : List De, sumS hs' o (ds.map (renD r)) = sumS hs o ds := fun ds => by
  unfold sumS
  rw [h, List.foldl_map]
  rfl
theorem flocksE_ok {n : Nat} {ks : List Int} {hs : List (List Int)} (h0 : 0 < ks.length) (h3 : ks.length ≤ 3) (hk : ∀ k ∈ ks, 0 ≤ k ∧ k < n) (hl : hs.length = ks.length) (hr : ∀ r ∈ hs, r.length = n) (hb : ∀ r ∈ hs, ∀ x ∈ r, 0 ≤ x ∧ x ≤ 20) : flocksE n ks hs = 0 := by
  unfold flocksE
  rw [if_neg (by omega), if_neg (by omega), if_neg (by rw [Bool.not_eq_false, List.all_eq_true]; exact fun k hk' => ownB_iff.2 (hk k hk')), if_neg (by simpa using hl), if_neg (by rw [Bool.not_eq_false, List.all_eq_true]; exact fun r hr' => by simpa using hr r hr'),
    if_neg (by rw [Bool.not_eq_false, List.all_eq_true]; exact fun r hr' => by rw [List.all_eq_true]; exact fun x hx => btw_iff.2 (hb r hr' x hx))]
theorem deedE_ren {n nf : Nat} {r s : Nat → Nat} (hS : Swp nf r s) (hnf : nf ≤ 3) {d : De} (h : deedE n nf d = 0) : deedE n nf (renD r d) = 0 := by
  obtain ⟨h1, h2, h3, h4⟩ := deedE_inv h
  have hfl : d.flock.toNat < nf := by omega
  have hrf := hS.rn _ hfl
  refine deedE_ok h1 ⟨by show (0 : Int) ≤ ((r d.flock.toNat : Nat) : Int); omega, by show ((r d.flock.toNat : Nat) : Int) < _; omega⟩ ?_ ?_
  · have k0 : (renD r d).kind = d.kind := rfl
    have ko : (renD r d).owner = d.owner := rfl
    have kx : (renD r d).other = d.other := rfl
    have km : (renD r d).many = d.many := rfl
    have ke : (renD r d).err = d.err := rfl
    have ks : (renD r d).s = d.s := rfl
    unfold fldE at h3 ⊢
    rw [k0, ko, kx, km, ke, ks]
    by_cases k1 : d.kind = 1 ∨ d.kind = 3
    · rw [if_pos k1] at h3 ⊢; exact h3
    rw [if_neg k1] at h3 ⊢
    by_cases k2 : d.kind = 2
    · rw [if_pos k2] at h3 ⊢; exact h3
    rw [if_neg k2] at h3 ⊢
    by_cases k4 : d.kind = 4
    · rw [if_pos k4] at h3 ⊢; exact h3
    rw [if_neg k4] at h3 ⊢
    by_cases k5 : d.kind = 5
    · have kt : (renD r d).tof = ((r d.tof.toNat : Nat) : Int) := if_pos k5
      have kf : (renD r d).flock = ((r d.flock.toNat : Nat) : Int) := rfl
      rw [if_pos k5] at h3 ⊢
      rw [kt, kf]
      obtain ⟨a1, h3⟩ := ite0 (by decide) h3
      obtain ⟨a2, h3⟩ := ite0 (by decide) h3
      have a1 := ownB_iff.1 ((Bool.not_eq_false _).mp a1)
      have htl : d.tof.toNat < nf := by omega
      have hrt := hS.rn _ htl
      rw [if_neg (by rw [ownB_iff.2 ⟨by omega, by omega⟩]; decide), if_neg ?_]
      · exact h3
      · intro e
        have e' : r d.tof.toNat = r d.flock.toNat := by omega
        have e2 := congrArg s e'
        rw [hS.sr _ (by omega), hS.sr _ (by omega)] at e2
        omega
    rw [if_neg k5] at h3 ⊢
    exact h3
  · obtain ⟨kind, flock, owner, other, tof, many, err, sg⟩ := d
    unfold namD at h4 ⊢
    simp only [renD] at h1 h4 ⊢
    obtain e | e | e | e | e | e : kind = 1 ∨ kind = 2 ∨ kind = 3 ∨ kind = 4 ∨ kind = 5 ∨ kind = 6 := by omega
    all_goals subst e; simp at h4 ⊢
    all_goals simp_all
/-- the book with flocks that have other numbers -/
structure RenB (r s : Nat → Nat) (b b' : Hb) : Prop where
  sw : Swp b.ks.length r s
  ck : b.chk = 0
  t : b'.t = b.t
  l : b'.l = b.l
  kl : b'.ks.length = b.ks.length
  hl : b'.hs.length = b.hs.length
  ks : ∀ f, f < b.ks.length → b'.ks[r f]? = b.ks[f]?
  hs : ∀ f, f < 3 → b'.hs.getD (r f) [] = b.hs.getD f []
  ds : b'.ds = b.ds.map (renD r)
theorem RenB.chk {r s : Nat → Nat} {b b' : Hb} (h : RenB r s b b') : b'.chk = 0 := by
  have hok := checkH_ok h.ck
  have hks : ∀ i, i < b.ks.length → b'.ks[i]? = b.ks[s i]? := fun i hi => by rw [← h.ks (s i) (h.sw.sn i hi), h.sw.rs i (by have := hok.f3; omega)]
  have hhs : ∀ i, i < b.ks.length → b'.hs.getD i [] = b.hs.getD (s i) [] := fun i hi => by rw [← h.hs (s i) (h.sw.sl i (by have := hok.f3; omega)), h.sw.rs i (by have := hok.f3; omega)]
  have hrow : ∀ x ∈ b'.hs, x ∈ b.hs := fun x hx => by
    obtain ⟨i, hi, e⟩ := List.mem_iff_getElem.1 hx
    have hi' : i < b.ks.length := by rw [h.hl, hok.hl] at hi; exact hi
    have e2 := hhs i hi'
    rw [List.getD_eq_getElem?_getD, List.getD_eq_getElem?_getD, List.getElem?_eq_getElem hi, List.getElem?_eq_getElem (by rw [hok.hl]; exact h.sw.sn i hi')] at e2
    simp only [Option.getD_some] at e2
    rw [← e, e2]
    exact List.getElem_mem _
  show checkH b'.t b'.l b'.ks b'.hs b'.ds = 0
  unfold checkH
  rw [h.t, h.l, h.kl, h.ds, if_neg (by rw [hok.ck]; simp), if_neg (by
    rw [flocksE_ok (by rw [h.kl]; exact hok.f0) (by rw [h.kl]; exact hok.f3) (fun k hk => ?_) (by rw [h.hl, h.kl]; exact hok.hl) (fun x hx => hok.rl x (hrow x hx)) (fun x hx => hok.rb x (hrow x hx))]; · simp
    obtain ⟨i, hi, e⟩ := List.mem_iff_getElem.1 hk
    have hi' : i < b.ks.length := by rw [h.kl] at hi; exact hi
    have e2 := hks i hi'
    rw [List.getElem?_eq_getElem hi, List.getElem?_eq_getElem (h.sw.sn i hi')] at e2
    injection e2 with e2
    rw [← e, e2]
    exact hok.kk _ (List.getElem_mem _)), if_neg (by rw [List.length_map]; have := hok.d6; omega)]
  refine deedsE_all.2 fun d hd => ?_
  obtain ⟨d', hd', rfl⟩ := List.mem_map.1 hd
  exact deedE_ren h.sw hok.f3 (hok.dE d' hd')
theorem RenB.ends {r s : Nat → Nat} {b b' : Hb} (h : RenB r s b b') (x : List Int) : x ∈ b'.ends (-1) 0 ↔ ∃ y ∈ b.ends (-1) 0, x = renH s y := by
  have hok := checkH_ok h.ck
  show x ∈ endsL b'.t b'.l b'.hs b'.ds (-1) 0 ↔ _
  rw [h.t, h.l, h.ds]
  unfold endsL
  rw [List.length_map]
  exact renH_ends h.sw hok.f3 hok.n5 hok.dI (renH_first h.sw h.hs) (fun i y hy => (endsTo_bd hok.f3 hok.n5 hok.rb hok.dI i y hy).1) _ (Nat.le_refl _) x
theorem RenB.len {r s : Nat → Nat} {b b' : Hb} (h : RenB r s b b') : ∀ y ∈ b.ends (-1) 0, y.length = 15 := fun y hy => by
  have hok := checkH_ok h.ck
  exact (endsTo_bd hok.f3 hok.n5 hok.rb hok.dI _ y hy).1
theorem RenB.range {r s : Nat → Nat} {b b' : Hb} (h : RenB r s b b') {f g : List Int → Int} (hfg : ∀ y, y.length = 15 → f (renH s y) = g y) : rangeE (b'.ends (-1) 0) f = rangeE (b.ends (-1) 0) g := by
  have e := rangeE_congr (E := b'.ends (-1) 0) (E' := (b.ends (-1) 0).map (renH s)) (f := f) (g := f) (fun x => by rw [h.ends x, List.mem_map]; exact ⟨fun ⟨y, hy, e⟩ => ⟨y, hy, e.symm⟩, fun ⟨y, hy, e⟩ => ⟨y, hy, e.symm⟩⟩) (fun _ _ => rfl)
  rw [e]
  unfold rangeE
  rw [List.map_map]
  have : (b.ends (-1) 0).map (f ∘ renH s) = (b.ends (-1) 0).map g := List.map_congr_left fun y hy => hfg y (h.len y hy)
  rw [this]
theorem RenB.ask {r s : Nat → Nat} {b b' : Hb} (h : RenB r s b b') : askE b' = askE b := by
  have hn : b'.ends (-1) 0 = [] ↔ b.ends (-1) 0 = [] := by
    constructor
    · intro e
      rw [List.eq_nil_iff_forall_not_mem]
      intro y hy
      have := (h.ends (renH s y)).2 ⟨y, hy, rfl⟩
      rw [e] at this
      cases this
    · intro e
      rw [List.eq_nil_iff_forall_not_mem]
      intro y hy
      obtain ⟨z, hz, -⟩ := (h.ends y).1 hy
      rw [e] at hz
      cases hz
  unfold askE
  rw [h.chk, h.ck]
  by_cases e : b.ends (-1) 0 = []
  · rw [if_pos (hn.2 e), if_pos e]
  · rw [if_neg fun e' => e (hn.1 e'), if_neg e]
theorem RenB.has {r s : Nat → Nat} {b b' : Hb} (h : RenB r s b b') {f : Nat} (hf : f < b.ks.length) : (hasR b')[r f]? = (hasR b)[f]? := by
  have hok := checkH_ok h.ck
  have hf3 : f < 3 := by have := hok.f3; omega
  unfold hasR
  rw [h.ask]
  by_cases e : askE b = 0
  · rw [if_pos e, if_pos e]
    unfold hasL
    rw [List.getElem?_map, List.getElem?_map, List.getElem?_range (by rw [h.kl]; exact h.sw.rn f hf), List.getElem?_range hf, h.l]
    simp only [Option.map_some]
    congr 1
    refine List.map_congr_left fun o ho => ?_
    have ho5 : o < 5 := by have := List.mem_range.1 ho; have := hok.n5; omega
    exact h.range fun y hy => by rw [renH_get (h.sw.rl f hf3) ho5, h.sw.sr f hf3]
  · rw [if_neg e, if_neg e]; rfl
theorem RenB.owns {r s : Nat → Nat} {b b' : Hb} (h : RenB r s b b') : ownsR b' = ownsR b := by
  have hok := checkH_ok h.ck
  unfold ownsR
  rw [h.ask, h.l]
  split
  · unfold ownsL
    refine List.map_congr_left fun o ho => ?_
    have ho5 : o < 5 := by have := List.mem_range.1 ho; have := hok.n5; omega
    exact h.range fun y hy => renH_owned h.sw ho5
  · rfl
theorem RenB.total {r s : Nat → Nat} {b b' : Hb} (h : RenB r s b b') {f : Nat} (hf : f < b.ks.length) : (totalR b')[r f]? = (totalR b)[f]? := by
  have hok := checkH_ok h.ck
  have hf3 : f < 3 := by have := hok.f3; omega
  unfold totalR
  rw [h.ask]
  by_cases e : askE b = 0
  · rw [if_pos e, if_pos e]
    unfold totalL
    rw [List.getElem?_map, List.getElem?_map, List.getElem?_range (by rw [h.kl]; exact h.sw.rn f hf), List.getElem?_range hf]
    simp only [Option.map_some]
    congr 1
    exact h.range fun y hy => renH_all h.sw hf3
  · rw [if_neg e, if_neg e]; rfl
theorem RenB.gone {r s : Nat → Nat} {b b' : Hb} (h : RenB r s b b') : goneE b' 0 = goneE b 0 ∧ goneR b' 0 = goneR b 0 := by
  have hok := checkH_ok h.ck
  have hn : b'.ends (-1) 0 = [] ↔ b.ends (-1) 0 = [] := by
    have := h.ask
    unfold askE at this
    rw [h.chk, h.ck] at this
    by_cases e : b.ends (-1) 0 = [] <;> by_cases e' : b'.ends (-1) 0 = [] <;> simp [e, e'] at this ⊢
  have hs : sumE b' 0 = sumE b 0 := by unfold sumE; rw [h.chk, h.ck, h.l]
  have hg : goneE b' 0 = goneE b 0 := by
    unfold goneE
    rw [hs]
    by_cases e : b.ends (-1) 0 = []
    · rw [if_pos (hn.2 e), if_pos e]
    · rw [if_neg fun e' => e (hn.1 e'), if_neg e]
  refine ⟨hg, ?_⟩
  unfold goneR
  rw [hg]
  split
  · rw [h.ds, sumS_ren (r := r) (o := (0 : Int).toNat) (hs := b.hs) (hs' := b'.hs) (by rw [renH_first h.sw h.hs]; exact renH_owned h.sw (by decide))]
    exact h.range fun y hy => by rw [show (0 : Int).toNat = 0 from rfl, renH_owned h.sw (by decide)]
  · rfl
end Go.Proofs.Ytmennjmjakdkcaa
