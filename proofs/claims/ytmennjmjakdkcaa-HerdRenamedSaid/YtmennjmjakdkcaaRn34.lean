/- HerdRenamed 34: Row, OwnH, App0, CopyHd, Ent, HdAb, SameR. -/
import Derived.Test.YtmennjmjakdkcaaRn18
import Derived.Test.YtmennjmjakdkcaaRn19
import Derived.Test.YtmennjmjakdkcaaRn30
import Derived.Lib.SliceRun
import Derived.Test.YtmennjmjakdkcaaRn33
import Derived.Test.YtmennjmjakdkcaaRn14
import Derived.Deep.OwnRows
import Derived.Test.YtmennjmjakdkcaaRn04
import Derived.Test.YtmennjmjakdkcaaRn16
import Derived.Test.YtmennjmjakdkcaaRn17
namespace Go.Proofs.Ytmennjmjakdkcaa
open Go.RowKit
set_option linter.unusedVariables false
set_option linter.unusedSimpArgs false

def upI (n : Nat) : List Int := (List.range n).map Int.ofNat
theorem upI_len (n : Nat) : (upI n).length = n := by simp [upI]
theorem upI_succ (n : Nat) : upI (n + 1) = upI n ++ [(n : Int)] := by unfold upI; rw [List.range_succ, List.map_append]; rfl
theorem swap_perm {L : List Int} {i k : Nat} (hi : i < L.length) (hk : k < L.length) : ((L.set i (L.getD k 0)).set k (L.getD i 0)).Perm L := by
  rw [List.getD_eq_getElem?_getD, List.getD_eq_getElem?_getD, List.getElem?_eq_getElem hi, List.getElem?_eq_getElem hk]
  exact List.set_set_perm hi hk
def RowR (H N n : Nat) (w : World) (e : Ending) (w' : World) : Prop := ∃ A c L, e = .returned (.slice A n c) ∧ OwnI w' w.heap.size (.slice A n c) L ∧ L.Perm (upI n) ∧ Dealt w w' H N
set_option maxHeartbeats 1000000 in
theorem row_any (H N n : Nat) (w : World) (h : Hd w H N) (hN : N ≤ 4611686018427000000) (hn : n ≤ 1000) :
    Calls Try.prog 45 #[.pointer (some ⟨H, 0, none⟩), .int .i64 n] w (RowR H (N + n) n w) := by
  have hHl := h.lt
  have HH := Lib.hid h
  clear h
  go_enter Try.func45, Try.ntmps45
  go_wp2_with fail
  go_loopg [5, 6] n (fun g v5 v6 wr => ∃ k : Nat, k + g = n ∧ v6 = .int .i64 k ∧ OwnI wr w.heap.size v5 (upI k) ∧ Below w.heap.size w wr)
  case atStart => exact ⟨0, by omega, rfl, Own.nil_, Below.refl _ _⟩
  case round =>
    obtain ⟨k, hk, rfl, hown, hB⟩ := hrel
    have hBz := hB.size
    by_cases hlt : k < n
    · have hll : (upI k).length < 4294967296 := by rw [upI_len]; omega
      have h3 : (k : Int) < (n : Int) := by omega
      have HK := Lib.hid (And.intro hk (And.intro hown hB))
      clear hk hown hB
      go_wp2_with (at_builtin; refine wp_app okInt rfl (.tmp 15) (.tmp 17) rfl w.heap.size _ (upI k) (k : Int) _ rfl rfl rfl rfl (one_eInt _) HK.out.2.1 ?_ ?_ ?_ ?_; (omega); (omega); (omega); intro v' w4 hown4 hb4 _ hz4; have H4 := Lib.hid (And.intro hown4 hb4); clear hown4 hb4)
      go_roundg (gk - 1)
      case measure => have := HK.out.1; omega
      case rel => exact ⟨k + 1, by have := HK.out.1; omega, by go_num, by rw [upI_succ]; exact H4.out.1, HK.out.2.2.trans H4.out.2⟩
    · obtain rfl : k = n := by omega
      have hhd : Hd wr H N := HH.out.below hB hHl
      have hD : Dealt w wr H N := ⟨hhd, ⟨hB.os, hB.tape, hB.output, hB.size, fun j hj _ => hB.block j hj⟩⟩
      obtain ⟨A5, c5, rfl, -, -, -⟩ := hown.form lenInt
      rw [upI_len] at hown ⊢
      have HK := Lib.hid (And.intro hown hD)
      clear hown hD hk hB hlt hhd
      go_wp2_with fail
      go_loopg [7] k (fun g v7 wx => (g = 0 ∧ v7 = .int .i64 (-1) ∨ ∃ i : Nat, i + 1 = g ∧ v7 = .int .i64 i) ∧ g ≤ k ∧ ∃ L : List Int, OwnI wx w.heap.size (.slice A5 k c5) L ∧ L.Perm (upI k) ∧ Dealt w wx H (N + (k - g)))
      case atStart =>
        refine ⟨?_, Nat.le_refl _, upI k, HK.out.1, List.Perm.refl _, HK.out.2.mono (by omega)⟩
        rcases Nat.eq_zero_or_pos k with h0 | h0
        · exact .inl ⟨h0, by rw [h0]; rfl⟩
        · exact .inr ⟨k - 1, by omega, by congr 1; omega⟩
      case round =>
        obtain ⟨hv7, hg, L, hown, hp, hD⟩ := hrel
        have hL : L.length = k := by rw [hp.length_eq, upI_len]
        rcases hv7 with ⟨h0, rfl⟩ | ⟨i, hi, rfl⟩
        · have HE := Lib.hid (And.intro hown (And.intro hp hD))
          clear hown hp hD hL hg
          go_wp2_with fail
          go_ret
          exact ⟨A5, c5, L, rfl, HE.out.1, HE.out.2.1, HE.out.2.2.mono (by omega)⟩
        by_cases h2 : 0 < i
        · have i1 : (0 : Int) < (i : Int) := by omega
          have hup := upto_any H (N + (k - gk)) (i : Int) wr hD.hd (by omega) (by omega)
          have HU := Lib.hid hup
          have HG := Lib.hid (And.intro hown (And.intro hp (And.intro hD (And.intro hL (And.intro hi hg)))))
          clear hown hp hD hL hup hi hg
          go_upto_region 10 with (go_at_call 24; refine HU.out.mono ?_; rintro e w4 ⟨x, rfl, hx, hd4⟩)
          have ho4 := HG.out.1.row hd4.gr (fun k e => by cases e; exact hHl)
          have hxk : x < L.length ∧ i < L.length := by have := HG.out.2.2.2.1; have := HG.out.2.2.2.2; omega
          obtain ⟨g5, rfl, hb5, hl5, hc1, -, -⟩ := Own.put1 ho4 hxk.1 0
          obtain ⟨g5', e5, -, -, hc2, hf2, ho5⟩ := Own.put1 ho4 hxk.2 (L.getD x 0)
          cases e5
          have hxk' : x < (L.set i (L.getD x 0)).length := by rw [List.length_set]; exact hxk.1
          obtain ⟨g5', e5, -, -, hc3, hf3, ho6⟩ := Own.put1 ho5 hxk' (L.getD i 0)
          cases e5
          have i3 : (i : Int) < (k : Int) := by have := HG.out.2.2.2.1; omega
          have i4 : (x : Int) < (k : Int) := by have := HG.out.2.2.2.1; omega
          obtain ⟨y, hy⟩ : ∃ y, y = L.getD x 0 := ⟨_, rfl⟩
          obtain ⟨z, hz⟩ : ∃ z, z = L.getD i 0 := ⟨_, rfl⟩
          have hpm := swap_perm hxk.2 hxk.1
          rw [← hy, ← hz] at hpm
          rw [← hy] at hc1 ho5 hc3 hf3 ho6
          rw [← hz] at hc2 ho6
          have hgr := (grownBy_cell w4 g5 i (.int .i64 y)).trans (grownBy_cell _ g5 x (.int .i64 z))
          have hdd := hd4
          have hs6 : g5 < (w4.setCell ⟨g5, i, none⟩ (.int .i64 y)).heap.size := by simpa [World.setCell] using hl5
          have HO := Lib.hid (And.intro ho6 (And.intro hpm (And.intro hdd hgr)))
          clear ho4 ho5 ho6 hpm hdd hgr hd4 hxk hxk' hy hz hx
          go_wp2_with fail
          go_roundg (gk - 1)
          case measure => have := HG.out.2.2.2.2; omega
          case rel =>
            have hH5 : H < g5 := by omega
            refine ⟨.inr ⟨i - 1, by have := HG.out.2.2.2.2; omega, by congr 1; omega⟩, by have := HG.out.2.2.2.2; omega, _, HO.out.1, HO.out.2.1.trans HG.out.2.1, ?_⟩
            have hD := HG.out.2.2.1.trans HO.out.2.2.1
            refine Dealt.mono (M := N + (k - (gk - 1))) (N := N + (k - gk) + 1) ?_ (by have := HG.out.2.2.2.2; omega)
            exact Dealt.set (Dealt.set hD (by omega) (by omega) _) (by omega) (by omega) _
        · obtain rfl : i = 0 := by omega
          have HE := Lib.hid (And.intro hown (And.intro hp hD))
          clear hown hp hD hL
          go_wp2_with fail
          go_ret
          exact ⟨A5, c5, L, rfl, HE.out.1, HE.out.2.1, HE.out.2.2.mono (by omega)⟩
end Go.Proofs.Ytmennjmjakdkcaa
namespace Go.Proofs.Ytmennjmjakdkcaa
open Go.RowKit
set_option linter.unusedVariables false
set_option linter.unusedSimpArgs false

def TBw (j : Nat) (w w' : World) : Prop := Below w.heap.size w w'
theorem TBw.rf {j : Nat} (w : World) : TBw j w w := Below.refl _ _
def PBw (ws : World) (k : Nat) (w : World) : Prop := Below ws.heap.size ws w
theorem PBw.st {ws : World} (k i : Nat) (w w' : World) (hT : TBw i w w') (hp : PBw ws k w) : PBw ws k w' := Below.trans hp (Below.mono hT (Below.size hp))
def FOI (base : Nat) (l : List Int) : VF := fun v w => OwnI w base v l
def FOD (base : Nat) (l : List De) : VF := fun v w => OwnD w base v l
theorem FOI.st {base : Nat} {l : List Int} (i : Nat) (v : Value) (w w' : World) (hT : TBw i w w') (h : FOI base l v w) : FOI base l v w' := Own.below h hT (Nat.le_refl _)
theorem FOD.st {base : Nat} {l : List De} (i : Nat) (v : Value) (w w' : World) (hT : TBw i w w') (h : FOD base l v w) : FOD base l v w' := Own.below h hT (Nat.le_refl _)
/-- rows under making: the block R of slices, the first k of them rows of the call's own -/
def RwM (R n : Nat) (ls : List (List Int)) (k : Nat) (w : World) : Prop :=
  ∃ mv : List Value, mv.length = n ∧ w.heap[R]? = some (.cells mv.toArray 22 (0, 0)) ∧ ∀ i v, i < k → mv[i]? = some v → ∃ l, ls[i]? = some l ∧ OwnI w (R + 1) v l
theorem RwM.start {R n : Nat} {ls : List (List Int)} {w w' : World} (hR : R = w.heap.size) (h : w' = w.alloc (.cells (madeCells #[.slice none 0 0] n) 22)) : RwM R n ls 0 w' := by
  subst hR h
  refine ⟨List.replicate n (.slice none 0 0), by simp, ?_, fun i v hi => by omega⟩
  rw [show (List.replicate n (Value.slice none 0 0)).toArray = madeCells #[.slice none 0 0] n by
    apply Array.ext
    · simp [size_madeCells]
    · intro i h1 h2
      simp [madeCells, Nat.mod_one]]
  exact alloc_at rfl
theorem RwM.next {R n k : Nat} {ls : List (List Int)} {w w' : World} {v : Value} {l : List Int} (h : RwM R n ls k w) (hb : Below w.heap.size w w') (hl : ls[k]? = some l) (hv : OwnI w' (R + 1) v l) (hk : k < n) : RwM R n ls (k + 1) (w'.setCell ⟨R, k, none⟩ v) := by
  obtain ⟨mv, h1, h2, h3⟩ := h
  have hup : ∀ j, R + 1 ≤ j → (w'.setCell ⟨R, k, none⟩ v).heap[j]? = w'.heap[j]? := fun j hj => Below.heap_setCell w' ⟨R, k, none⟩ _ j (by dsimp; omega)
  refine ⟨mv.set k v, by simpa using h1, ?_, fun i u hi hu => ?_⟩
  · rw [set_blk (bheap h2 hb (Nat.le_refl _)), List.setIfInBounds_toArray]
  · rcases Nat.lt_or_ge i k with hik | hik
    · rw [List.getElem?_set_ne (by omega)] at hu
      obtain ⟨l', hl', ho⟩ := h3 i u hik hu
      exact ⟨l', hl', (ho.below hb (Nat.le_refl _)).upon hup⟩
    · obtain rfl : i = k := by omega
      rw [List.getElem?_set_self (by omega)] at hu
      cases hu
      exact ⟨l, hl, hv.upon hup⟩
theorem RwM.upon {R n k : Nat} {ls : List (List Int)} {w w' : World} (h : RwM R n ls k w) (hup : ∀ j, R ≤ j → w'.heap[j]? = w.heap[j]?) : RwM R n ls k w' := by
  obtain ⟨mv, h1, h2, h3⟩ := h
  refine ⟨mv, h1, (hup R (Nat.le_refl _)).trans h2, fun i v hi hv => ?_⟩
  obtain ⟨l, hl, ho⟩ := h3 i v hi hv
  exact ⟨l, hl, ho.upon fun j hj => hup j (by omega)⟩
theorem RwM.fin {R n base : Nat} {ls : List (List Int)} {w : World} (h : RwM R n ls n w) (hn : ls.length = n) (hb : base ≤ R) (hm : n ≤ maxLen) : OwnG w base (.slice (some ⟨R, 0, none⟩) n n) ls := by
  obtain ⟨mv, h1, h2, h3⟩ := h
  refine ⟨mv, ⟨by rw [lenFlatVal, Nat.mul_one], .inr ⟨R, n, mv.toArray, by rw [h1], hb, h2, by omega, hm, by simp [h1], ?_⟩⟩, by rw [h1, hn], fun i v hv => ?_⟩
  · rw [Nat.mul_one, List.take_of_length_le (by simp)]
    have : ∀ x : List Value, x.flatMap eVal = x := fun x => by
      induction x with
      | nil => rfl
      | cons a r ih => rw [List.flatMap_cons, ih]; rfl
    rw [this]
  · obtain ⟨l, hl, ho⟩ := h3 i v (by have := (List.getElem?_eq_some_iff.1 hv).1; omega) hv
    exact ⟨l, hl, ho.mono (by omega)⟩
/-- a copy of the book b -/
def OwnedR (b : Hb) (w : World) (e : Ending) (w' : World) : Prop :=
  (∃ A c Ak ck Ah ch Ad cd, e = .returned (Hb.v ⟨b.t, A, c, b.l, Ak, ck, b.ks, Ah, ch, b.hs, Ad, cd, b.ds⟩) ∧ HbO w' w.heap.size ⟨b.t, A, c, b.l, Ak, ck, b.ks, Ah, ch, b.hs, Ad, cd, b.ds⟩) ∧ Below w.heap.size w w'
end Go.Proofs.Ytmennjmjakdkcaa
namespace Go.Proofs.Ytmennjmjakdkcaa
open Go.RowKit
set_option linter.unusedVariables false
set_option linter.unusedSimpArgs false

/-- 'append([]T{}, src...)' -/
theorem wp_apps0 {α : Type} {enc : α → List Value} {P : Program} {t e : TypeId} {sz bytes : Nat} (E : ElemOk P t e sz bytes) {ops : Array Oper} {rest : List Oper} {o : Oper} {a : Act} {Q : Exit → Act → World → Prop} {w : World}
    (hgd : o.guard = none) (s x : Operand) (ho : o.op = .call { callee := .builtin .append, args := #[s, x], argTypes := #[t, t] })
    (base q : Nat) (A : Option Addr) (m c : Nat) (l2 : List α) (hs : a.eval s = .slice (some ⟨q, 0, none⟩) 0 0) (hq : w.heap[q]? = some (.cells #[] e (0, 0))) (hx : a.eval x = .slice A m c) (hl2 : Sl enc sz w A m l2) (hz : A = none → c = 0)
    (hlen : ∀ x, (enc x).length = sz) (h1 : ∀ x, ∀ u ∈ enc x, u.oneCell' = true) (hll : m < 4294967296) (hby : bytes ≤ 4096) (hbase : base ≤ q)
    (h : ∀ v' w', Own enc e sz w' base v' l2 → Below w.heap.size w w' → wpList P ops Q rest (a.put o.dst v') w') :
    wpList P ops Q (o :: rest) a w := by
  obtain ⟨i, z, hi, hzz, hsize, hbytes, hzs⟩ := E.info
  have hql := heap_lt hq
  have hown0 : Own enc e sz w base (.slice (some ⟨q, 0, none⟩) 0 0) ([] : List α) := ⟨by simp, .inr ⟨q, 0, #[], rfl, hbase, hq, Nat.le_refl _, by simp [maxLen], by simp, by simp⟩⟩
  cases A with
  | none =>
    have hc := hz rfl
    subst hc
    have hm : m = 0 := by
      rcases Nat.eq_zero_or_pos m with h0 | h0
      · exact h0
      · obtain ⟨b, off, hA, _⟩ := hl2.2 h0; cases hA
    subst hm
    have hl0 : l2 = [] := List.eq_nil_of_length_eq_zero hl2.1
    subst hl0
    refine wpList_append_own_none hgd s x t ho base e i sz E.sl hi (.slice (some ⟨q, 0, none⟩) 0 0) 0 [] hs hown0 hx ?_
    exact h _ w hown0 (Below.refl _ _)
  | some ad =>
    have hnews : ∀ j u, (l2.flatMap enc)[j]? = some u → w.cell? (ad.add j) = some u := by
      intro j u hu
      obtain ⟨y, hy, hu2⟩ := flat_at E.pos hlen l2 j u hu
      have hlt := (List.getElem?_eq_some_iff.1 hy).1
      obtain ⟨b, off, hA, hc⟩ := hl2.2 (hl2.1 ▸ Nat.lt_of_le_of_lt (Nat.zero_le _) hlt)
      cases hA
      have := hc _ y hy _ u hu2
      rw [Addr.add_lit]
      have e1 : off + j / sz * sz + j % sz = off + j := by rw [Nat.add_assoc, Nat.div_add_mod']
      rw [e1] at this
      exact this
    have h1' : ∀ u ∈ l2.flatMap enc, u.oneCell' = true := by
      intro u hu
      obtain ⟨y, hy, hu2⟩ := List.mem_flatMap.1 hu
      exact h1 y u hu2
    have hll2 : (l2.flatMap enc).length = m * sz := by rw [flat_len hlen, hl2.1]
    subst hsize
    subst hbytes
    rcases Nat.eq_zero_or_pos m with hm | hm
    · subst hm
      have hl0 : l2 = [] := List.eq_nil_of_length_eq_zero hl2.1
      subst hl0
      refine wpList_plain hgd fun _ hK => ?_
      have hr := run_append_room (P := P) w t o.type e i E.sl hi q 0 0 #[] hq ad 0 c [] (by simp) (by simp) (by simp) (Nat.le_refl _) (by simp)
      unfold Oper.wp execOp
      simp only [ho, resolve, invoke, builtin, Sem.run_bind, Sem.run_pure, Result.andThen_ok, List.map_toArray, List.map_cons, List.map_nil, hs, hx, hr]
      refine hK _ _ (h _ _ ?_ ?_)
      · exact ⟨by simp, .inr ⟨q, 0, #[], rfl, hbase, (setRow_heap w q #[] _ e _ hq).trans (by simp), Nat.le_refl _, by simp [maxLen], by simp, by simp⟩⟩
      · refine ⟨rfl, rfl, rfl, by simp, fun j hj => ?_⟩
        by_cases hjq : j = q
        · subst hjq; rw [hq]; exact (setRow_heap w j #[] _ e _ hq).trans (by simp)
        · exact setRow_other w q j _ hjq
    · refine wpList_plain hgd fun _ hK => ?_
      have hr := run_append_grow (P := P) w t o.type e i z E.sl hi hzz ⟨q, 0, none⟩ 0 0 [] (by simp) (by simp) ad m c (l2.flatMap enc) hll2 hnews (by omega) (by omega) (growslice_fits (by omega) (by
        calc (0 + m) * i.bytes ≤ 4294967296 * 4096 := Nat.mul_le_mul (by omega) hby
          _ ≤ 140737488355328 := by omega))
      simp only [Nat.zero_add] at hr
      unfold Oper.wp execOp
      simp only [ho, resolve, invoke, builtin, Sem.run_bind, Sem.run_pure, Result.andThen_ok, List.map_toArray, List.map_cons, List.map_nil, hs, hx, hr]
      have hge := grownCap_ge w m 0 e
      have hcm : grownCap w m 0 e ≤ maxLen := grownCap_le_maxLen w m 0 e (by unfold maxLen; omega)
      refine hK _ _ (h _ _ ?_ ?_)
      · refine ⟨hll2.trans (by rw [hl2.1]), .inr ⟨w.heap.size, _, _, by rw [hl2.1], by omega, heap_alloc_new w.drew _, by rw [hl2.1]; omega, hcm, ?_, ?_⟩⟩
        · simp only [Array.size_append, List.size_toArray, size_zeroCells, hzs, hll2, List.length_nil, Nat.zero_add, Nat.zero_mul, ← Nat.add_mul]
          congr 1
          omega
        · simp only [Array.toList_append, List.nil_append, hl2.1, ← hll2]
          exact List.take_left
      · refine ⟨rfl, rfl, rfl, by simp, fun j hj => heap_alloc_old w.drew _ hj⟩
end Go.Proofs.Ytmennjmjakdkcaa
namespace Go.Proofs.Ytmennjmjakdkcaa
open Go.RowKit
set_option linter.unusedVariables false
set_option linter.unusedSimpArgs false

/-- lists without a place have no room -/
structure HbZ (w : World) (b : Hb) : Prop where
  m : b.A = none → b.c = 0
  k : b.Ak = none → b.ck = 0
  h : GridZ w b.Ah b.hs.length b.hs
  d : b.Ad = none → b.cd = 0
theorem HbZ.below {w w' : World} {b : Hb} {B : Nat} (h : HbZ w b) (hb : Below B w w') (hB : w.heap.size ≤ B) : HbZ w' b := ⟨h.m, h.k, h.h.below hb hB, h.d⟩
theorem HbO.z {w : World} {base : Nat} {b : Hb} (h : HbO w base b) : HbZ w b := by
  obtain ⟨A1, c1, e1, -, -, -, z1⟩ := h.m.formZ lenMk
  obtain ⟨A2, c2, e2, -, -, -, z2⟩ := h.k.formZ lenInt
  obtain ⟨A3, c3, e3, g3, -, -, z3⟩ := h.h.formZ
  obtain ⟨A4, c4, e4, -, -, -, z4⟩ := h.d.formZ lenDe
  injection e1 with a1 _ b1
  injection e2 with a2 _ b2
  injection e3 with a3 _ b3
  injection e4 with a4 _ b4
  exact ⟨fun e => by rw [b1]; exact z1 (a1 ▸ e), fun e => by rw [b2]; exact z2 (a2 ▸ e), a3 ▸ g3, fun e => by rw [b4]; exact z4 (a4 ▸ e)⟩
def FOG (base : Nat) (l : List (List Int)) : VF := fun v w => OwnG w base v l
theorem FOG.st {base : Nat} {l : List (List Int)} (i : Nat) (v : Value) (w w' : World) (hT : TBw i w w') (h : FOG base l v w) : FOG base l v w' := OwnG.below h hT (Nat.le_refl _)
/-- an empty literal of deeds -/
def FE0 (base : Nat) : VF := fun v w => ∃ q : Nat, v = .slice (some ⟨q, 0, none⟩) 0 0 ∧ base ≤ q ∧ w.heap[q]? = some (.cells #[] 38 (0, 0))
theorem FE0.st {base : Nat} (i : Nat) (v : Value) (w w' : World) (hT : TBw i w w') (h : FE0 base v w) : FE0 base v w' := by
  obtain ⟨q, h1, h2, h3⟩ := h
  exact ⟨q, h1, h2, bheap h3 hT (Nat.le_refl _)⟩
set_option maxRecDepth 100000 in
set_option maxHeartbeats 1000000 in
theorem copyHerd_any (b : Hb) (w : World) (hin : HbIn w b) (hz : HbZ w b) (hl : b.l.length ≤ 1000) (hk : b.ks.length ≤ 1000) (hh : b.hs.length ≤ 1000) (hd : b.ds.length ≤ 1000) (hr : ∀ r ∈ b.hs, r.length ≤ 1000) : Calls Try.prog 46 #[b.v] w (OwnedR b w) := by
  obtain ⟨V, hV⟩ : ∃ V, V = (w.alloc b.obj).alloc (Obj.cells #[.int .i64 0, .slice none 0 0, .slice none 0 0, .slice none 0 0, .slice none 0 0] 29) := ⟨_, rfl⟩
  obtain ⟨g, hg⟩ : ∃ g, g = w.heap.size := ⟨_, rfl⟩
  have b0 : V.heap[g]? = some b.obj := by rw [hV, hg]; exact hblk_alloc (alloc_at rfl) _
  have b1 : V.heap[g + 1]? = some (boxO 0 (.slice none 0 0) (.slice none 0 0) (.slice none 0 0) (.slice none 0 0)) := by rw [hV, hg]; exact alloc_at (by simp)
  have hBV : Below w.heap.size w V := by rw [hV]; exact (bal0 w _).trans ((bal0 _ _).mono (by simp))
  have hiV := hin.below hBV (Nat.le_refl _)
  have hzV : V.heap.size = g + 2 := by rw [hV, hg]; simp
  obtain ⟨c0, c1, c2, c3, c4⟩ := blk5c b0
  have hmc := copyRegister_any b.t b.A b.l.length b.c b.l V hiV.m hz.m (by omega)
  have HZ := Lib.hid hz
  clear hz
  have HV := Lib.hid (And.intro hBV (And.intro b0 (And.intro b1 (And.intro hiV (And.intro hzV hg)))))
  have HIN := Lib.hid hin
  unfold Hb.v
  go_enter Try.func46, Try.ntmps46
  go_upto_region 1 with (fail)
  rw [← hV, ← hg]
  have hgV := heap_lt b0
  clear hV hg hin hBV hiV b0 b1 hzV
  go_wp2_with fail
  with_reducible refine hmc.mono ?_
  rintro e w2 ⟨⟨A1, a1, rfl, ho1, -, -, -, -⟩, hb2⟩
  have x0 := bheap HV.out.2.1 hb2 (Nat.le_refl _)
  have x1 := bheap HV.out.2.2.1 hb2 (Nat.le_refl _)
  clear c0 c1 c2 c3 c4 hmc
  obtain ⟨c0, c1, c2, c3, c4⟩ := blk5c x0
  have f0 := frz x0 0
  have f1 := frz x0 1
  have hg2 := heap_lt x0
  go_upto_region 2 with (fail)
  obtain ⟨W3, hW3⟩ : ∃ W3, W3 = (w2.setCell ⟨g, 0, none⟩ (.int .i64 b.t)).setCell ⟨g, 1, none⟩ (.slice A1 b.l.length a1) := ⟨_, rfl⟩
  rw [← hW3]
  have hfar : ∀ j, j ≠ g → W3.heap[j]? = w2.heap[j]? := fun j hj => by rw [hW3]; exact (Below.heap_setCell _ ⟨g, 1, none⟩ _ j hj).trans (Below.heap_setCell _ ⟨g, 0, none⟩ _ j hj)
  have x3 : W3.heap[g]? = some (boxO b.t (.slice A1 b.l.length a1) b.vk b.vh b.vd) := by rw [hW3]; exact (set_blk (set_blk x0)).trans (by simp [boxO, Hb.vk, Hb.vh, Hb.vd])
  have y3 := (hfar (g + 1) (by omega)).trans x1
  have hB2 := HV.out.1.trans (hb2.mono HV.out.1.size)
  have hB3 : Below w.heap.size w W3 := by rw [hW3]; exact Below.setCell (Below.setCell hB2 (p := ⟨g, 0, none⟩) (by rw [← HV.out.2.2.2.2.2]; exact Nat.le_refl _) _) (p := ⟨g, 1, none⟩) (by rw [← HV.out.2.2.2.2.2]; exact Nat.le_refl _) _
  have hi3 := HIN.out.below hB3 (Nat.le_refl _)
  have hs2 := hb2.size
  have hz3 : g + 2 ≤ W3.heap.size := by have h1 : W3.heap.size = w2.heap.size := by rw [hW3]; simp [World.setCell]
                                        have := HV.out.2.2.2.2.1; omega
  have ho3 : OwnM W3 (g + 2) (.slice A1 b.l.length a1) b.l := by
    rw [HV.out.2.2.2.2.1] at ho1
    exact ho1.upon fun j hj => hfar j (by omega)
  have H3 := Lib.hid (And.intro x3 (And.intro y3 (And.intro hB3 (And.intro hi3 (And.intro hz3 ho3)))))
  clear hW3 hfar x3 y3 hB2 hB3 hi3 hs2 ho1 hb2 x0 x1 c0 c1 c2 c3 c4 f0 f1 hg2
  have hbd : Below W3.heap.size W3 W3.drew := bdraw (Below.refl _ _)
  have HC := Lib.hid (fun (w' : World) (hp : Below W3.drew.heap.size W3.drew w') => And.intro (blk5c (bheap (bheap H3.out.1 hbd (Nat.le_refl _)) hp (Nat.le_refl _))) (heap_lt (bheap (bheap H3.out.1 hbd (Nat.le_refl _)) hp (Nat.le_refl _))))
  have HI3 := Lib.hid (And.intro (H3.out.2.2.2.1.below hbd (Nat.le_refl _)) ((HZ.out.below H3.out.2.2.1 (Nat.le_refl _)).below hbd (Nat.le_refl _)))
  have hzd : g + 2 ≤ W3.drew.heap.size := hz3
  clear hbd hz3
  go_wp2_with fail
  refine wp_region_tag 11 0 0 [] [] 0 (TBw) (PBw W3.drew) [0, 0, 0, 0, 0, 0, 0, 0, 0, 0, 0] (by as_aux_lemma => kernel_rfl) (by as_aux_lemma => kernel_rfl) (by as_aux_lemma => kernel_rfl) (by as_aux_lemma => kernel_rfl) (by omega) (.inl rfl) rfl rfl (fun k i w1 w2 hc _ hT hp => PBw.st k i w1 w2 hT hp) (fun k => Below.refl _ _) ?_
  apply Exists.intro
  refine ⟨fun ys => ?_, fun ops K hK => ?_⟩
  · simp only [List.take_succ_cons, List.take_zero, dstsOf, List.filterMap_cons, List.filterMap_nil, putAll]
    go_simp
    rfl
  simp only [List.take_succ_cons, List.take_zero, List.drop_succ_cons, List.drop_zero] at hK ⊢
  repeat
    refine LexT.const TBw.rf ?_
    apply Exists.intro
    refine ⟨fun ys w' hp hpk hq hd => ?_, ?_⟩
    · try simp [DepsOf, depsGo, DF.holds, Region.binds, EqF] at hd
      try simp only [hd]
      obtain ⟨⟨c0, c1, c2, c3, c4⟩, hlg⟩ := HC.out w' hp
      intro Q2 hQ2
      go_wp2_with fail
      rfl
    try simp only [List.nil_append, List.cons_append]
  refine LexT.some (FOI (g + 2) b.ks) (fun i v w1 w2 hc _ hT h => FOI.st i v w1 w2 hT h) (fun ys w' hp hpk hq hd => ?_) ?_
  · try simp [DepsOf, depsGo, DF.holds, Region.binds, EqF] at hd
    try simp only [hd]
    have hpz := Below.size hp
    have hci := copyInts_any b.Ak b.ks.length b.ck b.ks w' (HI3.out.1.k.below hp (Nat.le_refl _)) HI3.out.2.k (by omega)
    clear hp hpk
    intro Q2 hQ2
    go_wp2_with fail
    refine hci.mono ?_
    rintro e w4 ⟨v, rfl, ho, hb⟩
    have HX := Lib.hid (show TBw 0 w' w4 ∧ FOI (g + 2) b.ks v w4 from ⟨hb, ho.mono (by omega)⟩)
    clear ho hb hci
    go_wp2
    exact ⟨_, rfl, HX.out⟩
  try simp only [List.nil_append, List.cons_append]
  repeat
    refine LexT.const TBw.rf ?_
    apply Exists.intro
    refine ⟨fun ys w' hp hpk hq hd => ?_, ?_⟩
    · try simp [DepsOf, depsGo, DF.holds, Region.binds, EqF] at hd
      try simp only [hd]
      obtain ⟨⟨c0, c1, c2, c3, c4⟩, hlg⟩ := HC.out w' hp
      intro Q2 hQ2
      go_wp2_with fail
      rfl
    try simp only [List.nil_append, List.cons_append]
  refine LexT.some (FOG (g + 2) b.hs) (fun i v w1 w2 hc _ hT h => FOG.st i v w1 w2 hT h) (fun ys w' hp hpk hq hd => ?_) ?_
  · try simp [DepsOf, depsGo, DF.holds, Region.binds, EqF] at hd
    try simp only [hd]
    have hpz := Below.size hp
    have hci := copyGrid_any b.Ah b.hs.length b.ch b.hs w' (HI3.out.2.h.below hp (Nat.le_refl _)) hh hr
    clear hp hpk
    intro Q2 hQ2
    go_wp2_with fail
    refine hci.mono ?_
    rintro e w4 ⟨⟨v, rfl, ho⟩, hb⟩
    have HX := Lib.hid (show TBw 0 w' w4 ∧ FOG (g + 2) b.hs v w4 from ⟨hb, ho.ownG.mono (by omega)⟩)
    clear ho hb hci
    go_wp2
    exact ⟨_, rfl, HX.out⟩
  try simp only [List.nil_append, List.cons_append]
  refine LexT.some (FE0 (g + 2)) (fun i v w1 w2 hc _ hT h => FE0.st i v w1 w2 hT h) (fun ys w' hp hpk hq hd => ?_) ?_
  · try simp [DepsOf, depsGo, DF.holds, Region.binds, EqF] at hd
    try simp only [hd]
    have hpz := Below.size hp
    have HX := Lib.hid (show TBw 0 w' (w'.alloc (Obj.cells #[] 38)) ∧ FE0 (g + 2) (.slice (some ⟨w'.heap.size, 0, none⟩) 0 0) (w'.alloc (Obj.cells #[] 38)) from ⟨bal0 _ _, w'.heap.size, rfl, by omega, alloc_at rfl⟩)
    clear hp hpk
    intro Q2 hQ2
    go_wp2_with fail
    exact HX.out
  try simp only [List.nil_append, List.cons_append]
  repeat
    refine LexT.const TBw.rf ?_
    apply Exists.intro
    refine ⟨fun ys w' hp hpk hq hd => ?_, ?_⟩
    · try simp [DepsOf, depsGo, DF.holds, Region.binds, EqF] at hd
      try simp only [hd]
      obtain ⟨⟨c0, c1, c2, c3, c4⟩, hlg⟩ := HC.out w' hp
      intro Q2 hQ2
      go_wp2_with fail
      rfl
    try simp only [List.nil_append, List.cons_append]
  refine LexT.some (FOD (g + 2) b.ds) (fun i v w1 w2 hc _ hT h => FOD.st i v w1 w2 hT h) (fun ys w' hp hpk hq hd => ?_) ?_
  · try simp [DepsOf, depsGo, DF.holds, Region.binds, EqF] at hd
    try simp only [hd]
    obtain ⟨⟨q, e13, hq1, hq2⟩, e15, -⟩ := hd
    have hbl := HI3.out.1.d.below hp (Nat.le_refl _)
    simp only [e13, e15]
    have HX0 := Lib.hid (And.intro hq1 (And.intro hq2 hbl))
    clear hp hpk e13 e15 hq1 hq2 hbl
    intro Q2 hQ2
    go_wp2_with (at_builtin; refine wp_apps0 okDeed rfl (.tmp 13) (.tmp 15) rfl (g + 2) q b.Ad b.ds.length b.cd b.ds rfl HX0.out.2.1 rfl HX0.out.2.2 HI3.out.2.d lenDe one_eDe (by omega) (by decide) HX0.out.1 ?_; intro v' w5 hown5 hb5; have HX := Lib.hid (show TBw 0 w' w5 ∧ FOD (g + 2) b.ds v' w5 from ⟨hb5, hown5⟩); clear hown5 hb5)
    exact HX.out
  try simp only [List.nil_append, List.cons_append]
  repeat
    refine LexT.const TBw.rf ?_
    apply Exists.intro
    refine ⟨fun ys w' hp hpk hq hd => ?_, ?_⟩
    · try simp [DepsOf, depsGo, DF.holds, Region.binds, EqF] at hd
      try simp only [hd]
      obtain ⟨⟨c0, c1, c2, c3, c4⟩, hlg⟩ := HC.out w' hp
      intro Q2 hQ2
      go_wp2_with fail
      rfl
    try simp only [List.nil_append, List.cons_append]
  refine hK _ fun ys w' hp hF => ?_
  simp [AllF, DF.holds] at hF
  obtain ⟨-, -, f9, -, -, f12, -, -, -, f16, h17⟩ := hF
  replace hp : Below W3.drew.heap.size W3.drew w' := hp
  replace f9 : OwnI w' (g + 2) (ys 9) b.ks := f9
  replace f12 : OwnG w' (g + 2) (ys 12) b.hs := f12
  replace f16 : OwnD w' (g + 2) (ys 16) b.ds := f16
  obtain ⟨A9, a9, e9, -, -, -⟩ := f9.form lenInt
  obtain ⟨A12, a12, e12, -, -, -⟩ := f12.form
  obtain ⟨A16, a16, e16, -, -, -⟩ := f16.form lenDe
  rw [e9] at f9
  rw [e12] at f12
  rw [e16] at f16
  simp only [e9, e12, e16, h17]
  have hbd : Below W3.heap.size W3 W3.drew := bdraw (Below.refl _ _)
  have hp3 := hbd.trans (hp.mono hbd.size)
  have x4 := bheap H3.out.1 hp3 (Nat.le_refl _)
  have y4 := bheap H3.out.2.1 hp3 (Nat.le_refl _)
  have o4 := H3.out.2.2.2.2.2.below hp3 (Nat.le_refl _)
  obtain ⟨c0, c1, c2, c3, c4⟩ := blk5 x4
  obtain ⟨d0, d1, d2, d3, d4⟩ := blk5 y4
  have q2 := frz x4 2
  have q3 := frz x4 3
  have q4 := frz x4 4
  obtain ⟨e0, e1, e2, e3, e4⟩ := And.intro (frz y4 0) (And.intro (frz y4 1) (And.intro (frz y4 2) (And.intro (frz y4 3) (frz y4 4))))
  have hg4 := heap_lt x4
  have hg5 := heap_lt y4
  have H4 := Lib.hid (And.intro x4 (And.intro y4 (And.intro hp3 (And.intro o4 (And.intro f9 (And.intro f12 f16))))))
  clear hK e9 e12 e16 h17 hbd hp x4 y4 hp3 o4 f9 f12 f16
  go_wp2_with fail
  obtain ⟨Z, hZ⟩ : ∃ Z, Z = ((((((((w'.setCell ⟨g, 2, none⟩ (.slice A9 b.ks.length a9)).setCell ⟨g, 3, none⟩ (.slice A12 b.hs.length a12)).setCell ⟨g, 4, none⟩ (.slice A16 b.ds.length a16)).setCell ⟨g + 1, 0, none⟩ (.int .i64 b.t)).setCell ⟨g + 1, 1, none⟩ (.slice A1 b.l.length a1)).setCell ⟨g + 1, 2, none⟩ (.slice A9 b.ks.length a9)).setCell ⟨g + 1, 3, none⟩ (.slice A12 b.hs.length a12)).setCell ⟨g + 1, 4, none⟩ (.slice A16 b.ds.length a16)) := ⟨_, rfl⟩
  rw [← hZ]
  have hzb : Z.heap[g + 1]? = some (boxO b.t (.slice A1 b.l.length a1) (.slice A9 b.ks.length a9) (.slice A12 b.hs.length a12) (.slice A16 b.ds.length a16)) := by
    rw [hZ]
    exact (set_blk (set_blk (set_blk (set_blk (set_blk ((Below.heap_setCell _ ⟨g, 4, none⟩ _ (g + 1) (by dsimp; omega)).trans ((Below.heap_setCell _ ⟨g, 3, none⟩ _ (g + 1) (by dsimp; omega)).trans ((Below.heap_setCell _ ⟨g, 2, none⟩ _ (g + 1) (by dsimp; omega)).trans H4.out.2.1)))))))).trans (by simp [boxO])
  have hfar : ∀ j, g + 2 ≤ j → Z.heap[j]? = w'.heap[j]? := fun j hj => by
    rw [hZ, Below.heap_setCell _ ⟨g + 1, 4, none⟩ _ j (by dsimp; omega), Below.heap_setCell _ ⟨g + 1, 3, none⟩ _ j (by dsimp; omega), Below.heap_setCell _ ⟨g + 1, 2, none⟩ _ j (by dsimp; omega), Below.heap_setCell _ ⟨g + 1, 1, none⟩ _ j (by dsimp; omega), Below.heap_setCell _ ⟨g + 1, 0, none⟩ _ j (by dsimp; omega), Below.heap_setCell _ ⟨g, 4, none⟩ _ j (by dsimp; omega), Below.heap_setCell _ ⟨g, 3, none⟩ _ j (by dsimp; omega), Below.heap_setCell _ ⟨g, 2, none⟩ _ j (by dsimp; omega)]
  have hgw := HV.out.2.2.2.2.2
  have hBz : Below w.heap.size w Z := by
    have h1 := H3.out.2.2.1.trans (H4.out.2.2.1.mono H3.out.2.2.1.size)
    rw [hZ]
    exact Below.setCell (Below.setCell (Below.setCell (Below.setCell (Below.setCell (Below.setCell (Below.setCell (Below.setCell h1 (p := ⟨g, 2, none⟩) (by dsimp; omega) _) (p := ⟨g, 3, none⟩) (by dsimp; omega) _) (p := ⟨g, 4, none⟩) (by dsimp; omega) _) (p := ⟨g + 1, 0, none⟩) (by dsimp; omega) _) (p := ⟨g + 1, 1, none⟩) (by dsimp; omega) _) (p := ⟨g + 1, 2, none⟩) (by dsimp; omega) _) (p := ⟨g + 1, 3, none⟩) (by dsimp; omega) _) (p := ⟨g + 1, 4, none⟩) (by dsimp; omega) _
  have h1 := H4.out.2.2.2
  have hHO : HbO Z w.heap.size ⟨b.t, A1, a1, b.l, A9, a9, b.ks, A12, a12, b.hs, A16, a16, b.ds⟩ :=
    ⟨(h1.1.upon hfar).mono (by omega), (h1.2.1.upon hfar).mono (by omega), (h1.2.2.1.upon hfar).mono (by omega), (h1.2.2.2.upon hfar).mono (by omega)⟩
  obtain ⟨p0, p1, p2, p3, p4⟩ := blk5 hzb
  have HZF := Lib.hid (And.intro hHO hBz)
  have hgz := heap_lt hzb
  clear hZ hzb hfar hgw hBz h1 hHO c0 c1 c2 c3 c4 d0 d1 d2 d3 d4 q2 q3 q4 e0 e1 e2 e3 e4
  refine bodyPost_ret (v := Hb.v ⟨b.t, A1, a1, b.l, A9, a9, b.ks, A12, a12, b.hs, A16, a16, b.ds⟩) (by unfold Hb.v; simp [results, Try.f46, go_sem, p0, p1, p2, p3, p4, hgz]) rfl ⟨⟨_, _, _, _, _, _, _, _, rfl, HZF.out.1⟩, HZF.out.2⟩
end Go.Proofs.Ytmennjmjakdkcaa
namespace Go.Proofs.Ytmennjmjakdkcaa
open Go.RowKit
set_option linter.unusedVariables false
set_option linter.unusedSimpArgs false

theorem checkH_snoc {t : Int} {l : List Mk} {ks : List Int} {hs : List (List Int)} {ds : List De} {d : De} (h : checkH t l ks hs ds = 0) (h6 : ds.length < 6) (hd : deedE l.length ks.length d = 0) : checkH t l ks hs (ds ++ [d]) = 0 := by
  unfold checkH at h ⊢
  by_cases h1 : check t l = 0
  · rw [if_neg (by rw [h1]; simp)] at h ⊢
    by_cases h2 : flocksE l.length ks hs = 0
    · rw [if_neg (by rw [h2]; simp)] at h ⊢
      rw [if_neg (by omega)] at h
      rw [if_neg (by rw [List.length_append, List.length_singleton]; omega)]
      rw [deedsE_snoc _ _ ds d h]
      exact hd
    · rw [if_pos h2] at h; exact absurd h h2
  · rw [if_pos h1] at h; exact absurd h h1
/-- the error of Enter -/
def enterE (b : Hb) (d : De) : Int :=
  if b.chk ≠ 0 then b.chk else if 6 ≤ b.ds.length then 6 else if deedE b.l.length b.ks.length d ≠ 0 then deedE b.l.length b.ks.length d
  else if b.ends (-1) 0 ≠ [] ∧ endsL b.t b.l b.hs (b.ds ++ [d]) (-1) 0 = [] then 12 else 0
def EnterR (b : Hb) (d : De) (w : World) (e : Ending) (w' : World) : Prop :=
  ((enterE b d = 0 ∧ ∃ A c Ak ck Ah ch Ad cd, e = .returned (.tuple #[Hb.v ⟨b.t, A, c, b.l, Ak, ck, b.ks, Ah, ch, b.hs, Ad, cd, b.ds ++ [d]⟩, .int .i64 0]) ∧ HbO w' w.heap.size ⟨b.t, A, c, b.l, Ak, ck, b.ks, Ah, ch, b.hs, Ad, cd, b.ds ++ [d]⟩) ∨
    (enterE b d ≠ 0 ∧ e = .returned (.tuple #[.agg #[.int .i64 0, .slice none 0 0, .slice none 0 0, .slice none 0 0, .slice none 0 0], .int .i64 (enterE b d)]))) ∧ Below w.heap.size w w'
theorem HbO.keptG {w w' : World} {base H : Nat} {b : Hb} (h : HbO w base b) (hg : w.grownBy w' (some H)) (hH : H < base) : HbO w' base b := ⟨h.m.keptH hg hH, h.k.keptH hg hH, h.h.keptH hg hH, h.d.keptH hg hH⟩
theorem HbO.now {w w' : World} {base p : Nat} {b : Hb} {O : Int → Obj} (h : HbO w base b) (hN : NowIn p O w w') (hp : p < base) : HbO w' base b :=
  h.keptG ⟨hN.os, hN.tape, hN.output, hN.size, fun j hj hne => hN.block j hj fun e => hne (by rw [e])⟩ hp
end Go.Proofs.Ytmennjmjakdkcaa
namespace Go.Proofs.Ytmennjmjakdkcaa
open Go.RowKit Go.MapKept
set_option linter.unusedVariables false
set_option linter.unusedSimpArgs false

def eGf (x : Gf) : List Value := [.int .i64 x.f, .int .i64 x.o, .int .i64 x.r.lo, .int .i64 x.r.hi]
theorem Rns.get {w : World} {A : Option Addr} {n : Nat} {l : List Rn} (h : Sl eRn 2 w A n l) {k : Nat} (hk : k < n) :
    ∃ b off m, A = some ⟨b, off, none⟩ ∧ b < w.heap.size ∧ l[k]? = some m ∧ w.cell? ⟨b, off + k * 2, none⟩ = some (.int .i64 m.lo) ∧ w.cell? ⟨b, off + k * 2 + 1, none⟩ = some (.int .i64 m.hi) := by
  obtain ⟨b, off, x, hA, hx, hc⟩ := h.at_ hk
  have h0 := hc 0 _ rfl
  exact ⟨b, off, x, hA, cell_lt h0, hx, h0, hc 1 _ rfl⟩
theorem hasL_rows (E : List (List Int)) (n nf : Nat) : (hasL E n nf).length = nf ∧ ∀ r ∈ hasL E n nf, r.length = n := by
  unfold hasL
  refine ⟨by simp, fun r hr => ?_⟩
  obtain ⟨f, _, rfl⟩ := List.mem_map.1 hr
  simp
end Go.Proofs.Ytmennjmjakdkcaa
namespace Go.Proofs.Ytmennjmjakdkcaa
open Go.RowKit
set_option linter.unusedVariables false
set_option linter.unusedSimpArgs false

set_option maxHeartbeats 1000000 in
theorem sameRanges_any (A : Option Addr) (n c : Nat) (x : List Rn) (B : Option Addr) (m d : Nat) (y : List Rn) (w : World) (hx : Sl eRn 2 w A n x) (hy : Sl eRn 2 w B m y) (hn : n ≤ maxLen) (hm : m ≤ maxLen) :
    Calls Try.prog 31 #[.slice A n c, .slice B m d] w fun e w' => e = .returned (.bool (sameL x y)) ∧ Below w.heap.size w w' := by
  have HL := Lib.hid (And.intro hx.len hy.len)
  have HXY := Lib.hid (And.intro hx hy)
  unfold maxLen at hn hm
  clear hx hy
  by_cases hnm : n = m
  · subst hnm
    have h0 : (n != n) = false := by simp
    have h0' : ((n : Int) != (n : Int)) = false := by simp
    go_enter Try.func31, Try.ntmps31
    go_wp2_with fail
    go_loopg [5] n (fun g i wr => ∃ k : Nat, k + g = n ∧ i = .int .i64 k ∧ x.take k = y.take k ∧ ∃ q, wr = w.drewN q)
    case atStart => exact ⟨0, by omega, rfl, by simp, 0, rfl⟩
    case round =>
      obtain ⟨k, hk, rfl, htk, q, rfl⟩ := hrel
      have HK := Lib.hid (And.intro hk htk)
      have hkn : k ≤ n := by omega
      clear hk htk
      by_cases hlt : k < n
      · obtain ⟨b0, o0, u, rfl, hb0, hu, p0, p1⟩ := Rns.get HXY.out.1 hlt
        obtain ⟨b1, o1, v, rfl, hb1, hv, q0, q1⟩ := Rns.get HXY.out.2 hlt
        have i0 : (0 : Int) ≤ (k : Int) := by omega
        have i1 : (k : Int) < (n : Int) := by omega
        have HUV := Lib.hid (And.intro hu hv)
        clear hu hv
        by_cases huv : u = v
        · subst huv
          go_upto_region 6 with (fail)
          go_quiet (fail)
          go_wp2
          go_roundg (gk - 1)
          case measure => have := HK.out.1; omega
          case rel => exact ⟨k + 1, by have := HK.out.1; omega, by go_num, take_eq_snoc HK.out.2 HUV.out.1 HUV.out.2 rfl, _, rfl⟩
        · have HNE := Lib.hid huv
          cases e1 : (u.lo == v.lo) <;> cases e2 : (u.hi == v.hi)
          case true.true =>
            exfalso
            exact huv (by cases u; cases v; simp at e1 e2; simp [e1, e2])
          all_goals
            clear huv
            go_upto_region 6 with (fail)
            go_quiet (fail)
            go_wp2
            go_ret
            exact ⟨ret_bool (by unfold sameL; rw [decide_eq_false (ne_of_at HUV.out.1 HUV.out.2 HNE.out)]), below_drewN (below_drewN (Below.refl _ _) _) _⟩
      · obtain rfl : k = n := by omega
        go_wp2
        go_ret
        refine ⟨ret_bool ?_, below_drewN (Below.refl _ _) _⟩
        have h1 := HK.out.2
        rw [List.take_of_length_le (by have := HL.out.1; omega), List.take_of_length_le (by have := HL.out.2; omega)] at h1
        unfold sameL
        rw [decide_eq_true h1]
  · have h0' : ((n : Int) != (m : Int)) = true := by simp; omega
    have HNE := Lib.hid hnm
    clear hnm
    go_enter Try.func31, Try.ntmps31
    go_wp2
    go_ret
    refine ⟨ret_bool ?_, Below.refl _ _⟩
    unfold sameL
    rw [decide_eq_false (fun h => HNE.out (by rw [← HL.out.1, ← HL.out.2, h]))]

theorem GridA.len {α : Type} {enc : α → List Value} {sz : Nat} {w : World} {A : Option Addr} {n : Nat} {ls : List (List α)} (h : GridA enc sz w A n ls) : ls.length = n := by
  obtain ⟨mv, h1, h2, _⟩ := h
  rw [← h2]; exact h1.len
abbrev Table (w : World) (A : Option Addr) (n : Nat) (ls : List (List Rn)) : Prop := GridA eRn 2 w A n ls
set_option maxRecDepth 100000 in
set_option maxHeartbeats 2000000 in
theorem sameTables_any (A : Option Addr) (n c : Nat) (x : List (List Rn)) (B : Option Addr) (m d : Nat) (y : List (List Rn)) (w : World) (hx : Table w A n x) (hy : Table w B m y) (hn : n ≤ maxLen) (hm : m ≤ maxLen) :
    Calls Try.prog 73 #[.slice A n c, .slice B m d] w fun e w' => e = .returned (.bool (sameL x y)) ∧ Below w.heap.size w w' := by
  have HL := Lib.hid (And.intro hx.len hy.len)
  have HXY := Lib.hid (And.intro hx hy)
  unfold maxLen at hn hm
  clear hx hy
  by_cases hnm : n = m
  · subst hnm
    have h0 : (n != n) = false := by simp
    have h0' : ((n : Int) != (n : Int)) = false := by simp
    go_enter Try.func73, Try.ntmps73
    go_wp2_with fail
    go_loopg [5] n (fun g i wr => ∃ k : Nat, k + g = n ∧ i = .int .i64 k ∧ x.take k = y.take k ∧ Below w.heap.size w wr)
    case atStart => exact ⟨0, by omega, rfl, by simp, Below.refl _ _⟩
    case round =>
      obtain ⟨k, hk, rfl, htk, hbl⟩ := hrel
      have HK := Lib.hid (And.intro hk htk)
      have hkn : k ≤ n := by omega
      clear hk htk
      by_cases hlt : k < n
      · obtain ⟨b0, o0, C0, u, c0, rfl, hb0, hu, p0, hi0, hc0, hm0⟩ := GridA.get (HXY.out.1.below hbl (Nat.le_refl _)) hlt
        obtain ⟨b1, o1, C1, v, c1, rfl, hb1, hv, q0, hi1, hc1, hm1⟩ := GridA.get (HXY.out.2.below hbl (Nat.le_refl _)) hlt
        have i0 : (0 : Int) ≤ (k : Int) := by omega
        have i1 : (k : Int) < (n : Int) := by omega
        have HUV := Lib.hid (And.intro hu hv)
        have hmu : u.length ≤ maxLen := Nat.le_trans hc0 hm0
        have hmv : v.length ≤ maxLen := Nat.le_trans hc1 hm1
        have cS : ∀ d os, Calls Try.prog 31 #[.slice C0 u.length c0, .slice C1 v.length c1] (Sort.grow (redrawn wr d) os) (fun e w'' => e = .returned (.bool (sameL u v)) ∧ ∃ p : Regrown, w'' = Sort.grow (redrawn wr p.d) p.os) := fun d os =>
          Calls.regrown_of (sameRanges_any C0 u.length c0 u C1 v.length c1 v _ (hi0.below (below_regrown wr d os) (Nat.le_refl _)) (hi1.below (below_regrown wr d os) (Nat.le_refl _)) hmu hmv)
        clear hu hv hi0 hi1
        cases huv : sameL u v
        all_goals
          rw [huv] at cS
          have HC := Lib.hid cS
          have HE := Lib.hid huv
          clear cS huv
          go_upto_region 6 with (fail)
          have k0 := cell_regrown p0
          have k1 := cell_regrown q0
          refine wp_region_quiet_below (by kernel_rfl) (by kernel_rfl) ?_
          repeat (quiet_step (exact HC.out _ _))
          refine wpQuiet_nil ?_
          intro _ hw'
          obtain ⟨⟨dq, osq⟩, hw''⟩ := hw'
          subst hw''
          obtain ⟨w3, hW1⟩ : ∃ w3, w3 = Sort.grow (redrawn wr dq) osq := ⟨_, rfl⟩
          have hb3 : Below wr.heap.size wr w3 := by rw [hW1]; exact below_regrown wr dq osq
          rw [← hW1]
          have hbl3 := hbl.trans (hb3.mono hbl.size)
          clear hW1 k0 k1 p0 q0
          go_wp2
        · go_ret
          exact ⟨ret_bool (by unfold sameL; rw [decide_eq_false (ne_of_at HUV.out.1 HUV.out.2 (by have := HE.out; unfold sameL at this; simpa using this))]), hbl3⟩
        · go_roundg (gk - 1)
          case measure => have := HK.out.1; omega
          case rel => exact ⟨k + 1, by have := HK.out.1; omega, by go_num, take_eq_snoc HK.out.2 HUV.out.1 HUV.out.2 (by have := HE.out; unfold sameL at this; simpa using this), hbl3⟩
      · obtain rfl : k = n := by omega
        go_wp2
        go_ret
        refine ⟨ret_bool ?_, hbl⟩
        have h1 := HK.out.2
        rw [List.take_of_length_le (by have := HL.out.1; omega), List.take_of_length_le (by have := HL.out.2; omega)] at h1
        unfold sameL
        rw [decide_eq_true h1]
  · have h0' : ((n : Int) != (m : Int)) = true := by simp; omega
    have HNE := Lib.hid hnm
    clear hnm
    go_enter Try.func73, Try.ntmps73
    go_wp2
    go_ret
    refine ⟨ret_bool ?_, Below.refl _ _⟩
    unfold sameL
    rw [decide_eq_false (fun h => HNE.out (by rw [← HL.out.1, ← HL.out.2, h]))]
end Go.Proofs.Ytmennjmjakdkcaa
