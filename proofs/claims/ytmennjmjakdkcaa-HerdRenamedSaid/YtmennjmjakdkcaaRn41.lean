/- HerdRenamed 41: RenW. -/
import Derived.Test.YtmennjmjakdkcaaRn33
import Derived.Test.YtmennjmjakdkcaaRn34
import Derived.Test.YtmennjmjakdkcaaRn40
import Derived.Test.YtmennjmjakdkcaaRn21
import Derived.Test.YtmennjmjakdkcaaRn31
namespace Go.Proofs.Ytmennjmjakdkcaa
open Go.RowKit
set_option linter.unusedVariables false
set_option linter.unusedSimpArgs false

/-- a region in which one cell of the block gK is written, and memory made -/
def TRn (gK r : Nat) (x : Value) (j : Nat) (w w' : World) : Prop := match j with
  | 1 => w' = w.setCell ⟨gK, r, none⟩ x
  | _ => Below w.heap.size w w'
def PRn (ws : World) (gK : Nat) (O : Obj) (k : Nat) (w : World) : Prop := match k with
  | 0 => ws.grownBy w (some gK)
  | 1 => w.heap[gK]? = some O
  | _ => True
theorem TRn.rf {gK r : Nat} {x : Value} (w : World) : TRn gK r x 0 w w := Below.refl _ _
theorem gb_of_below {w w' : World} {row : Option Nat} (h : Below w.heap.size w w') : w.grownBy w' row := ⟨h.os, h.tape, h.output, h.size, fun j hj _ => h.block j hj⟩
theorem TRn.gr {gK r j : Nat} {x : Value} {w w' : World} (h : TRn gK r x j w w') : w.grownBy w' (some gK) := by
  match j, h with
  | 0, h => exact gb_of_below (show Below w.heap.size w w' from h)
  | 1, h => rw [show w' = w.setCell ⟨gK, r, none⟩ x from h]; exact grownBy_cell w gK r x
  | n + 2, h => exact gb_of_below (show Below w.heap.size w w' from h)
theorem TRn.bel {gK r j : Nat} {x : Value} {w w' : World} (h : TRn gK r x j w w') (hj : j ≠ 1) : Below w.heap.size w w' := by
  match j, h with
  | 0, h => exact h
  | 1, h => exact absurd rfl hj
  | n + 2, h => exact h
theorem PRn.start {ws : World} {gK : Nat} {O : Obj} (h : ws.heap[gK]? = some O) (k : Nat) : PRn ws gK O k ws := by
  match k with
  | 0 => exact World.grownBy.refl _ _
  | 1 => exact h
  | n + 2 => exact trivial
theorem PRn.st {ws : World} {gK r : Nat} {x : Value} {O : Obj} (k j : Nat) (w w' : World) (hc : j ≠ k ∨ k = 0) (hT : TRn gK r x j w w') (hp : PRn ws gK O k w) : PRn ws gK O k w' := by
  match k, hp with
  | 0, hp => exact World.grownBy.trans (show ws.grownBy w (some gK) from hp) hT.gr
  | 1, hp => exact bheap (show w.heap[gK]? = some O from hp) (hT.bel (by rcases hc with h | h <;> omega)) (Nat.le_refl _)
  | n + 2, _ => exact trivial
def FRn (base : Nat) (l : List Int) : VF := fun v w => OwnI w base v l
theorem FRn.st {gK r base : Nat} {x : Value} {l : List Int} (hg : gK < base) (j : Nat) (v : Value) (w w' : World) (hT : TRn gK r x j w w') (h : FRn base l v w) : FRn base l v w' := by
  match j, hT with
  | 0, hT => exact Own.below h (show Below w.heap.size w w' from hT) (Nat.le_refl _)
  | 1, hT =>
    rw [show w' = w.setCell ⟨gK, r, none⟩ x from hT]
    exact Own.upon h fun j hj => Below.heap_setCell _ ⟨gK, r, none⟩ _ j (by show j ≠ gK; omega)
  | n + 2, hT => exact Own.below h (show Below w.heap.size w w' from hT) (Nat.le_refl _)
def FSt (gK : Nat) (O : Obj) : VF := fun _ w => w.heap[gK]? = some O
theorem FSt.st {gK r : Nat} {x : Value} {O : Obj} (j : Nat) (v : Value) (w w' : World) (hc : j ≠ 1 ∨ 1 = 0) (hT : TRn gK r x j w w') (h : FSt gK O v w) : FSt gK O v w' := bheap h (hT.bel (by rcases hc with h | h <;> omega)) (Nat.le_refl _)
theorem upI_mem {n : Nat} {x : Int} (h : x ∈ upI n) : ∃ r : Nat, x = (r : Int) ∧ r < n := by
  unfold upI at h
  obtain ⟨r, hr, rfl⟩ := List.mem_map.1 h
  exact ⟨r, rfl, List.mem_range.1 hr⟩
theorem row_at {L : List Int} {n k : Nat} (hp : L.Perm (upI n)) (hk : k < n) : ∃ r : Nat, L[k]? = some (r : Int) ∧ r < n := by
  have hl : L.length = n := by rw [hp.length_eq, upI_len]
  obtain ⟨r, h1, h2⟩ := upI_mem (hp.mem_iff.1 (List.getElem_mem (show k < L.length by omega)))
  exact ⟨r, by rw [List.getElem?_eq_getElem (by omega), h1], h2⟩
/-- rows of the outer list of the call's own -/
theorem OwnV.put {w : World} {base n c : Nat} {A : Option Addr} {mv : List Value} (h : Own eVal 22 1 w base (.slice A n c) mv) {k : Nat} (hk : k < mv.length) :
    ∃ g, A = some ⟨g, 0, none⟩ ∧ base ≤ g ∧ g < w.heap.size ∧ (∃ cs, w.heap[g]? = some (Obj.cells cs 22 (0, 0))) ∧ (∃ u, w.cell? ⟨g, k, none⟩ = some u) ∧ w.frozen? ⟨g, k, none⟩ = false ∧
      ∀ u, Own eVal 22 1 (w.setCell ⟨g, k, none⟩ u) base (.slice A n c) (mv.set k u) := by
  obtain ⟨g, hA, hb, hl, -, -, -, hcs, hce, hfz, hput⟩ := Own.putC lenVal h (List.getElem?_eq_getElem hk)
  refine ⟨g, hA, hb, hl, hcs, ⟨mv[k], by simpa using hce 0 mv[k] rfl⟩, hfz k, fun u => ?_⟩
  simpa using hput 0 u u (by decide) rfl
/-- the copy under renaming: k flocks have their other numbers -/
structure RnI (w3 : World) (z zz XB : Nat) (b : Hb) (L : List Int) (A1 Ak Ah Ad : Option Addr) (a1 ck ch cd k : Nat) (wr : World) : Prop where
  bel : Below z w3 wr
  zw : z = w3.heap.size
  bx : wr.heap[XB]? = some (boxO b.t (.slice A1 b.l.length a1) (.slice Ak b.ks.length ck) (.slice Ah b.hs.length ch) (.slice Ad b.ds.length cd))
  zx : z ≤ XB
  zl : zz ≤ wr.heap.size
  m : OwnM wr z (.slice A1 b.l.length a1) b.l
  d : OwnD wr z (.slice Ad b.ds.length cd) b.ds
  kk : ∃ KS : List Int, OwnI wr z (.slice Ak b.ks.length ck) KS ∧ KS.length = b.ks.length ∧ ∀ (f : Nat) (r : Nat), f < k → L[f]? = some (r : Int) → KS[r]? = b.ks[f]?
  hh : ∃ mv : List Value, Own eVal 22 1 wr z (.slice Ah b.hs.length ch) mv ∧ mv.length = b.hs.length ∧ ∀ (f : Nat) (r : Nat), f < k → L[f]? = some (r : Int) → ∃ v l, mv[r]? = some v ∧ b.hs[f]? = some l ∧ OwnI wr zz v l
  kz : ∀ g, Ak = some ⟨g, 0, none⟩ → g < zz
def rOf (L : List Int) (n f : Nat) : Nat := if f < n then (L.getD f 0).toNat else f
def sOf (L : List Int) (n i : Nat) : Nat := if i < n then L.idxOf (i : Int) else i
theorem rOf_at {L : List Int} {n f r : Nat} (hf : f < n) (h : L[f]? = some (r : Int)) : rOf L n f = r := by
  unfold rOf
  rw [if_pos hf, List.getD_eq_getElem?_getD, h]
  simp
theorem sOf_at {L : List Int} {n i : Nat} (hp : L.Perm (upI n)) (hi : i < n) : sOf L n i < n ∧ L[sOf L n i]? = some (i : Int) := by
  have hm : (i : Int) ∈ L := hp.mem_iff.2 (List.mem_map.2 ⟨i, List.mem_range.2 hi, rfl⟩)
  have hl : L.length = n := by rw [hp.length_eq, upI_len]
  unfold sOf
  rw [if_pos hi]
  have h1 := List.idxOf_lt_length_of_mem hm
  exact ⟨by omega, by rw [List.getElem?_eq_getElem h1]; exact congrArg some (List.getElem_idxOf h1)⟩
theorem upI_nodup (n : Nat) : (upI n).Nodup := by
  unfold upI
  rw [List.Nodup, List.pairwise_map]
  exact (List.nodup_range (n := n)).imp fun h e => h (Int.ofNat.inj e)
theorem row_inj {L : List Int} {n f k : Nat} {r : Nat} (hp : L.Perm (upI n)) (hf : L[f]? = some (r : Int)) (hk : L[k]? = some (r : Int)) : f = k := by
  have hn : L.Nodup := hp.nodup_iff.2 (upI_nodup n)
  have h1 := (List.getElem?_eq_some_iff.1 hf).1
  exact (List.getElem?_inj h1 hn).1 (hf.trans hk.symm)
theorem swp_of {L : List Int} {n : Nat} (hp : L.Perm (upI n)) (hn : n ≤ 3) : Swp n (rOf L n) (sOf L n) := by
  have h1 : ∀ f, f < n → rOf L n f < n := fun f hf => by
    obtain ⟨r, hr, hrn⟩ := row_at hp hf
    rw [rOf_at hf hr]; exact hrn
  have h2 : ∀ f, ¬ f < n → rOf L n f = f := fun f hf => by unfold rOf; rw [if_neg hf]
  have h3 : ∀ f, ¬ f < n → sOf L n f = f := fun f hf => by unfold sOf; rw [if_neg hf]
  refine ⟨fun f hf => ?_, fun f hf => ?_, fun f hf => ?_, fun f hf => ?_, h1, fun f hf => (sOf_at hp hf).1⟩
  · by_cases h : f < n
    · exact rOf_at (sOf_at hp h).1 (sOf_at hp h).2
    · rw [h3 f h, h2 f h]
  · by_cases h : f < n
    · obtain ⟨r, hr, hrn⟩ := row_at hp h
      rw [rOf_at h hr]
      exact row_inj hp (sOf_at hp hrn).2 hr
    · rw [h2 f h, h3 f h]
  · by_cases h : f < n
    · have := h1 f h; omega
    · rw [h2 f h]; exact hf
  · by_cases h : f < n
    · have := (sOf_at hp h).1; omega
    · rw [h3 f h]; exact hf
/-- the heads of the flocks with their other numbers -/
def hsOf (L : List Int) (n : Nat) (hs : List (List Int)) : List (List Int) := (List.range n).map fun i => hs.getD (sOf L n i) []
/-- the copy under renaming, its deeds: i of them have their other numbers -/
structure RnD (w3 : World) (z XB : Nat) (b : Hb) (L : List Int) (A1 Ak Ah Ad : Option Addr) (a1 ck ch cd : Nat) (KS : List Int) (DS : List De) (wr : World) : Prop where
  bel : Below z w3 wr
  zw : z = w3.heap.size
  bx : wr.heap[XB]? = some (boxO b.t (.slice A1 b.l.length a1) (.slice Ak b.ks.length ck) (.slice Ah b.hs.length ch) (.slice Ad b.ds.length cd))
  zx : z ≤ XB
  m : OwnM wr z (.slice A1 b.l.length a1) b.l
  kk : OwnI wr z (.slice Ak b.ks.length ck) KS
  hh : OwnG wr z (.slice Ah b.hs.length ch) (hsOf L b.ks.length b.hs)
  d : OwnD wr z (.slice Ad b.ds.length cd) DS
  dl : DS.length = b.ds.length
def DsI (b : Hb) (L : List Int) (i : Nat) (DS : List De) : Prop := (∀ j, j < i → DS[j]? = (b.ds[j]?).map (renD (rOf L b.ks.length))) ∧ ∀ j, i ≤ j → DS[j]? = b.ds[j]?
theorem DsI.next {b : Hb} {L : List Int} {i : Nat} {DS : List De} {d : De} (h : DsI b L i DS) (hi : i < DS.length) (hd : b.ds[i]? = some d) : DsI b L (i + 1) (DS.set i (renD (rOf L b.ks.length) d)) := by
  refine ⟨fun j hj => ?_, fun j hj => ?_⟩
  · rcases Nat.lt_or_ge j i with h1 | h1
    · rw [List.getElem?_set_ne (by omega)]; exact h.1 j h1
    · obtain rfl : j = i := by omega
      rw [List.getElem?_set_self hi, hd]; rfl
  · rw [List.getElem?_set_ne (by omega)]; exact h.2 j (by omega)
theorem DsI.fin {b : Hb} {L : List Int} {DS : List De} (h : DsI b L b.ds.length DS) (hl : DS.length = b.ds.length) : DS = b.ds.map (renD (rOf L b.ks.length)) := by
  apply List.ext_getElem?
  intro j
  rcases Nat.lt_or_ge j b.ds.length with h1 | h1
  · rw [h.1 j h1, List.getElem?_map]
  · rw [List.getElem?_eq_none (by omega), List.getElem?_eq_none (by simpa using h1)]
theorem RnI.deeds {w3 : World} {z zz XB : Nat} {b : Hb} {L : List Int} {A1 Ak Ah Ad : Option Addr} {a1 ck ch cd : Nat} {wr : World} (hR : RnI w3 z zz XB b L A1 Ak Ah Ad a1 ck ch cd b.ks.length wr) (hz : z ≤ zz) (hp : L.Perm (upI b.ks.length)) (hhl : b.hs.length = b.ks.length) :
    ∃ KS, KS.length = b.ks.length ∧ (∀ f, f < b.ks.length → KS[rOf L b.ks.length f]? = b.ks[f]?) ∧ RnD w3 z XB b L A1 Ak Ah Ad a1 ck ch cd KS b.ds wr := by
  obtain ⟨KS, k1, k2, k3⟩ := hR.kk
  obtain ⟨mv, h1, h2, h3⟩ := hR.hh
  refine ⟨KS, k2, fun f hf => ?_, hR.bel, hR.zw, hR.bx, hR.zx, hR.m, k1, ⟨mv, h1, by simp [hsOf, h2, hhl], fun i v hv => ?_⟩, hR.d, rfl⟩
  · obtain ⟨r, hr, hrn⟩ := row_at hp hf
    rw [rOf_at hf hr]
    exact k3 f r hf hr
  · have hi : i < b.ks.length := by have := (List.getElem?_eq_some_iff.1 hv).1; omega
    obtain ⟨s1, s2⟩ := sOf_at hp hi
    obtain ⟨v', l, e1, e2, e3⟩ := h3 _ i s1 s2
    rw [hv] at e1
    cases e1
    refine ⟨l, ?_, e3.mono hz⟩
    unfold hsOf
    rw [List.getElem?_map, List.getElem?_range hi]
    simp only [Option.map_some]
    rw [List.getD_eq_getElem?_getD, e2]; rfl
theorem hsOf_at {L : List Int} {n : Nat} {hs : List (List Int)} (hp : L.Perm (upI n)) (hn : n ≤ 3) (hl : hs.length = n) {f : Nat} (hf : f < 3) : (hsOf L n hs).getD (rOf L n f) [] = hs.getD f [] := by
  have hs' := swp_of hp hn
  unfold hsOf
  by_cases h : f < n
  · rw [List.getD_eq_getElem?_getD, List.getElem?_map, List.getElem?_range (hs'.rn f h)]
    simp only [Option.map_some, Option.getD_some]
    rw [hs'.sr f hf]
  · have e : rOf L n f = f := by unfold rOf; rw [if_neg h]
    rw [e, List.getD_eq_getElem?_getD, List.getD_eq_getElem?_getD, List.getElem?_eq_none (by simp; omega), List.getElem?_eq_none (by omega)]
theorem OwnG.keptT {w w' : World} {base g : Nat} {v : Value} {ls : List (List Int)} {e : TypeId} {cs : Array Value} (h : OwnG w base v ls) (hg : w.grownBy w' (some g)) (bg : w.heap[g]? = some (Obj.cells cs e (0, 0))) (h1 : 22 ≠ e) (h2 : 3 ≠ e) : OwnG w' base v ls := by
  obtain ⟨mv, a1, a2, a3⟩ := h
  refine ⟨mv, a1.kept hg (.inr (a1.ne' bg h1)), a2, fun i v hv => ?_⟩
  obtain ⟨l, hl, ho⟩ := a3 i v hv
  exact ⟨l, hl, ho.kept hg (.inr (ho.ne' bg h2))⟩
theorem RnD.drewN {w3 : World} {z XB : Nat} {b : Hb} {L : List Int} {A1 Ak Ah Ad : Option Addr} {a1 ck ch cd : Nat} {KS : List Int} {DS : List De} {wr : World} (h : RnD w3 z XB b L A1 Ak Ah Ad a1 ck ch cd KS DS wr) (q : Nat) : RnD w3 z XB b L A1 Ak Ah Ad a1 ck ch cd KS DS (wr.drewN q) :=
  ⟨below_drewN h.bel q, h.zw, h.bx, h.zx, h.m.upon fun _ _ => rfl, h.kk.upon fun _ _ => rfl, h.hh.upon fun _ _ => rfl, h.d.upon fun _ _ => rfl, h.dl⟩
/-- one deed's number -/
theorem RnD.put {w3 : World} {z XB : Nat} {b : Hb} {L : List Int} {A1 Ak Ah Ad : Option Addr} {a1 ck ch cd : Nat} {KS : List Int} {DS : List De} {wr : World} (h : RnD w3 z XB b L A1 Ak Ah Ad a1 ck ch cd KS DS wr) {k : Nat} {d : De} (hk : DS[k]? = some d) :
    ∃ gD, Ad = some ⟨gD, 0, none⟩ ∧ gD < wr.heap.size ∧ XB ≠ gD ∧ z ≤ gD ∧ (∀ j u, (eDe d)[j]? = some u → wr.cell? ⟨gD, k * 12 + j, none⟩ = some u) ∧ (∀ o, wr.frozen? ⟨gD, o, none⟩ = false) ∧
      ∀ (j : Nat) (u : Value) (y : De), j < 12 → eDe y = (eDe d).set j u →
        RnD w3 z XB b L A1 Ak Ah Ad a1 ck ch cd KS (DS.set k y) (wr.setCell ⟨gD, k * 12 + j, none⟩ u) := by
  obtain ⟨g, hA, hb, hl, -, -, -, ⟨cs, hcs⟩, hce, hfz, hput⟩ := Own.putC lenDe h.d hk
  have hne : XB ≠ g := fun e => by rw [← e, h.bx] at hcs; cases hcs
  refine ⟨g, hA, hl, hne, hb, hce, hfz, fun j u y hj hy => ?_⟩
  have hg := grownBy_cell wr g (k * 12 + j) u
  exact ⟨h.bel.grown hg (by rw [h.zw]; exact h.bel.size) (fun m e => by cases e; exact hb), h.zw, (Below.heap_setCell _ ⟨g, k * 12 + j, none⟩ _ XB hne).trans h.bx, h.zx, h.m.kept hg (.inr (h.m.ne' hcs (by decide))), h.kk.kept hg (.inr (h.kk.ne' hcs (by decide))), h.hh.keptT hg hcs (by decide) (by decide), hput j u y hj hy, by rw [List.length_set]; exact h.dl⟩
theorem RnI.next {w3 : World} {z zz XB : Nat} {b : Hb} {L : List Int} {A1 Ah Ad : Option Addr} {a1 ck ch cd k gK r : Nat} {wr w6 : World} {xk : Int} {KS l : List Int} {v : Value} {cs : Array Value}
    (hR : RnI w3 z zz XB b L A1 (some ⟨gK, 0, none⟩) Ah Ad a1 ck ch cd k wr) (hp : L.Perm (upI b.ks.length)) (hr : L[k]? = some (r : Int)) (hrn : r < b.ks.length) (hhl : b.hs.length = b.ks.length)
    (hKl : KS.length = b.ks.length) (hKd : ∀ (f : Nat) (r : Nat), f < k → L[f]? = some (r : Int) → KS[r]? = b.ks[f]?)
    (hcs : wr.heap[gK]? = some (.cells cs 3 (0, 0))) (hKp : OwnI (wr.setCell ⟨gK, r, none⟩ (.int .i64 xk)) z (.slice (some ⟨gK, 0, none⟩) b.ks.length ck) (KS.set r xk)) (hxk : b.ks[k]? = some xk) (hl : b.hs[k]? = some l)
    (hg6 : wr.grownBy w6 (some gK)) (hS6 : w6.heap[gK]? = (wr.setCell ⟨gK, r, none⟩ (.int .i64 xk)).heap[gK]?) (hv : OwnI w6 wr.heap.size v l) :
    ∃ gH, Ah = some ⟨gH, 0, none⟩ ∧ gH < w6.heap.size ∧ (∃ u, w6.cell? ⟨gH, r, none⟩ = some u) ∧ w6.frozen? ⟨gH, r, none⟩ = false ∧ RnI w3 z zz XB b L A1 (some ⟨gK, 0, none⟩) Ah Ad a1 ck ch cd (k + 1) (w6.setCell ⟨gH, r, none⟩ v) := by
  obtain ⟨V, hV⟩ : ∃ V, V = wr.setCell ⟨gK, r, none⟩ (.int .i64 xk) := ⟨_, rfl⟩
  rw [← hV] at hKp hS6
  have hgV : wr.grownBy V (some gK) := by rw [hV]; exact grownBy_cell wr gK r _
  have hzV : V.heap.size = wr.heap.size := by rw [hV]; simp [World.setCell]
  have hfarV : ∀ j, j ≠ gK → V.heap[j]? = wr.heap[j]? := fun j hj => by rw [hV]; exact Below.heap_setCell _ ⟨gK, r, none⟩ _ j hj
  have hgN : V.grownBy w6 none := ⟨hg6.os.trans hgV.os.symm, hg6.tape.trans hgV.tape.symm, hg6.output.trans hgV.output.symm, by rw [hzV]; exact hg6.size, fun j hj _ => by
    by_cases e : j = gK
    · rw [e]; exact hS6
    · rw [hfarV j e]; exact hg6.block j (by omega) (fun h => e (Option.some.inj h))⟩
  have hgKz : gK < zz := hR.kz gK rfl
  have hgl := heap_lt hcs
  obtain ⟨mv, hmv, hml, hmd⟩ := hR.hh
  have m6 := (hR.m.kept hgV (.inr (hR.m.ne' hcs (by decide)))).row hgN (fun _ e => by cases e)
  have d6 := (hR.d.kept hgV (.inr (hR.d.ne' hcs (by decide)))).row hgN (fun _ e => by cases e)
  have v6 := (hmv.kept hgV (.inr (hmv.ne' hcs (by decide)))).row hgN (fun _ e => by cases e)
  have k6 := hKp.row hgN (fun _ e => by cases e)
  have hgz : z ≤ gK := (hKp.lt gK rfl).1
  have hx6 : w6.heap[XB]? = _ := (hg6.block XB (heap_lt hR.bx) (fun e => by cases e; rw [hR.bx] at hcs; cases hcs)).trans hR.bx
  have hb6 : Below z w3 w6 := hR.bel.grown hg6 (by rw [hR.zw]; exact hR.bel.size) (fun j e => by cases e; exact hgz)
  have hz6 := hg6.size
  have hzl := hR.zl
  obtain ⟨gH, hAh, hHz, hHl, ⟨cs2, hcs2⟩, hcell, hfz, hput⟩ := OwnV.put v6 (k := r) (by omega)
  refine ⟨gH, hAh, hHl, hcell, hfz, ?_⟩
  have hgH : w6.grownBy (w6.setCell ⟨gH, r, none⟩ v) (some gH) := grownBy_cell w6 gH r v
  have hne : XB ≠ gH := fun e => by rw [← e, hx6] at hcs2; cases hcs2
  refine ⟨hb6.grown hgH (by rw [hR.zw]; exact hb6.size) (fun j e => by cases e; exact hHz), hR.zw, (Below.heap_setCell _ ⟨gH, r, none⟩ _ XB hne).trans hx6, hR.zx, by simpa [World.setCell] using Nat.le_trans hzl hz6,
    m6.kept hgH (.inr (m6.ne' hcs2 (by decide))), d6.kept hgH (.inr (d6.ne' hcs2 (by decide))), ⟨KS.set r xk, k6.kept hgH (.inr (k6.ne' hcs2 (by decide))), by rw [List.length_set]; exact hKl, fun f r' hf hr' => ?_⟩,
    ⟨mv.set r v, hput v, by rw [List.length_set]; exact hml, fun f r' hf hr' => ?_⟩, hR.kz⟩
  · rcases Nat.lt_or_ge f k with hfk | hfk
    · have hne' : r ≠ r' := fun e => by subst e; have := row_inj hp hr' hr; omega
      rw [List.getElem?_set_ne hne']
      exact hKd f r' hfk hr'
    · obtain rfl : f = k := by omega
      rw [hr] at hr'
      have e : r = r' := by have := Option.some.inj hr'; omega
      subst e
      rw [List.getElem?_set_self (by omega), hxk]
  · rcases Nat.lt_or_ge f k with hfk | hfk
    · have hne' : r ≠ r' := fun e => by subst e; have := row_inj hp hr' hr; omega
      obtain ⟨u, l', hu, hl', ho⟩ := hmd f r' hfk hr'
      refine ⟨u, l', by rw [List.getElem?_set_ne hne']; exact hu, hl', ?_⟩
      have o6 := (ho.upon (w' := V) fun j hj => hfarV j (by omega)).row hgN (fun _ e => by cases e)
      exact o6.kept hgH (.inr (o6.ne' hcs2 (by decide)))
    · obtain rfl : f = k := by omega
      rw [hr] at hr'
      have e : r = r' := by have := Option.some.inj hr'; omega
      subst e
      have hv' := hv.mono hzl
      exact ⟨v, l, List.getElem?_set_self (by omega), hl, hv'.kept hgH (.inr (hv'.ne' hcs2 (by decide)))⟩
end Go.Proofs.Ytmennjmjakdkcaa
