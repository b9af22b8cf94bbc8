/- HerdEntered 4: Kit, Law, TalL, HdM. -/
import Derived.Test.YtmennjmjakdkcaaEn01
import Derived.Test.YtmennjmjakdkcaaEn03
import Derived.Laws.AppendOwnNone
import Derived.Test.YtmennjmjakdkcaaEn02
import Derived.Maps.Own
import Derived.Maps.OwnOps
import Derived.Maps.RangeWalk
import Derived.DeepKeys4
namespace Go.Proofs.Ytmennjmjakdkcaa
open Go.RowKit
set_option linter.unusedVariables false
set_option linter.unusedSimpArgs false

theorem take_eq_snoc {α : Type} {x y : List α} {k : Nat} {u v : α} (h : x.take k = y.take k) (hx : x[k]? = some u) (hy : y[k]? = some v) (he : u = v) : x.take (k + 1) = y.take (k + 1) := by
  rw [List.take_add_one, List.take_add_one, hx, hy, h, he]
theorem ne_of_at {α : Type} {x y : List α} {k : Nat} {u v : α} (hx : x[k]? = some u) (hy : y[k]? = some v) (he : ¬ u = v) : ¬ x = y := fun h => by
  subst h; rw [hx] at hy; cases hy; exact he rfl

def sameL {α : Type} [DecidableEq α] (x y : List α) : Bool := decide (x = y)

set_option maxHeartbeats 1000000 in
theorem sameInts_any (A : Option Addr) (n c : Nat) (x : List Int) (B : Option Addr) (m d : Nat) (y : List Int) (w : World) (hx : Ints w A n x) (hy : Ints w B m y) (hn : n ≤ maxLen) (hm : m ≤ maxLen) :
    Calls Try.prog 16 #[.slice A n c, .slice B m d] w fun e w' => e = .returned (.bool (sameL x y)) ∧ Below w.heap.size w w' := by
  have hxl := hx.len
  have hyl := hy.len
  have HL := Lib.hid (And.intro hxl hyl)
  have HXY := Lib.hid (And.intro hx hy)
  unfold maxLen at hn hm
  clear hxl hyl hx hy
  by_cases hnm : n = m
  · subst hnm
    have h0 : (n != n) = false := by simp
    have h0' : ((n : Int) != (n : Int)) = false := by simp
    go_enter Try.func16, Try.ntmps16
    go_wp2_with fail
    go_loopg [5] n (fun g i wr => ∃ k : Nat, k + g = n ∧ i = .int .i64 k ∧ x.take k = y.take k ∧ ∃ q, wr = w.drewN q)
    case atStart => exact ⟨0, by omega, rfl, by simp, 0, rfl⟩
    case round =>
      obtain ⟨k, hk, rfl, htk, q, rfl⟩ := hrel
      have HK := Lib.hid (And.intro hk htk)
      have hkn : k ≤ n := by omega
      clear hk htk
      by_cases hlt : k < n
      · obtain ⟨b0, o0, u, rfl, hb0, hu, p0⟩ := Ints.get HXY.out.1 hlt
        obtain ⟨b1, o1, v, rfl, hb1, hv, q0⟩ := Ints.get HXY.out.2 hlt
        have i0 : (0 : Int) ≤ (k : Int) := by omega
        have i1 : (k : Int) < (n : Int) := by omega
        have HUV := Lib.hid (And.intro hu hv)
        clear hu hv
        by_cases huv : u = v
        · have h1 : (u != v) = false := by simp [huv]
          have HE := Lib.hid huv
          clear huv
          go_upto_region 6 with (fail)
          go_quiet (fail)
          go_wp2
          go_roundg (gk - 1)
          case measure => have := HK.out.1; omega
          case rel => exact ⟨k + 1, by have := HK.out.1; omega, by go_num, take_eq_snoc HK.out.2 HUV.out.1 HUV.out.2 HE.out, _, rfl⟩
        · have h1 : (u != v) = true := by simp [huv]
          have HE := Lib.hid huv
          clear huv
          go_upto_region 6 with (fail)
          go_quiet (fail)
          go_wp2
          go_ret
          exact ⟨ret_bool (by unfold sameL; rw [decide_eq_false (ne_of_at HUV.out.1 HUV.out.2 HE.out)]), below_drewN (below_drewN (Below.refl _ _) _) _⟩
      · obtain rfl : k = n := by omega
        go_wp2
        go_ret
        refine ⟨ret_bool ?_, below_drewN (Below.refl _ _) _⟩
        have h := HK.out.2
        rw [List.take_of_length_le (by rw [HL.out.1]; omega), List.take_of_length_le (by rw [HL.out.2]; omega)] at h
        unfold sameL; rw [decide_eq_true h]
  · have h0 : (n != m) = true := by simpa using hnm
    have h0' : ((n : Int) != (m : Int)) = true := by simp; omega
    have HE := Lib.hid hnm
    clear hnm
    go_enter Try.func16, Try.ntmps16
    go_wp2
    go_ret
    exact ⟨ret_bool (by unfold sameL; rw [decide_eq_false (fun h => HE.out (by rw [← HL.out.1, ← HL.out.2, h]))]), Below.refl _ _⟩
end Go.Proofs.Ytmennjmjakdkcaa

namespace Go.Proofs.Ytmennjmjakdkcaa
open Go.RowKit
set_option linter.unusedVariables false
set_option linter.unusedSimpArgs false

theorem flat_len {α : Type} {enc : α → List Value} {sz : Nat} (h : ∀ x, (enc x).length = sz) (l : List α) : (l.flatMap enc).length = l.length * sz := by
  induction l with
  | nil => simp
  | cons a r ih => rw [List.flatMap_cons, List.length_append, ih, h, List.length_cons, Nat.succ_mul]; omega
theorem flat_at {α : Type} {enc : α → List Value} {sz : Nat} (hsz : 0 < sz) (h : ∀ x, (enc x).length = sz) : ∀ (l : List α) (j : Nat) (u : Value), (l.flatMap enc)[j]? = some u → ∃ x, l[j / sz]? = some x ∧ (enc x)[j % sz]? = some u
  | [], j, u, hu => by simp at hu
  | a :: r, j, u, hu => by
    rw [List.flatMap_cons] at hu
    rcases Nat.lt_or_ge j sz with hj | hj
    · rw [List.getElem?_append_left (by rw [h]; exact hj)] at hu
      exact ⟨a, by rw [Nat.div_eq_of_lt hj]; rfl, by rw [Nat.mod_eq_of_lt hj]; exact hu⟩
    · rw [List.getElem?_append_right (by rw [h]; exact hj), h] at hu
      obtain ⟨x, h1, h2⟩ := flat_at hsz h r (j - sz) u hu
      have e1 : j = (j - sz) + sz := by omega
      refine ⟨x, ?_, ?_⟩
      · rw [e1, Nat.add_div_right _ hsz]; simpa using h1
      · rw [e1, Nat.add_mod_right]; exact h2

/-- 'append(dst, src...)' of a list -/
theorem wp_apps {α : Type} {enc : α → List Value} {P : Program} {t e : TypeId} {sz bytes : Nat} (E : ElemOk P t e sz bytes) {ops : Array Oper} {rest : List Oper} {o : Oper} {a : Act} {Q : Exit → Act → World → Prop} {w : World}
    (hgd : o.guard = none) (s x : Operand) (ho : o.op = .call { callee := .builtin .append, args := #[s, x], argTypes := #[t, t] })
    (base : Nat) (v : Value) (l : List α) (A : Option Addr) (m c : Nat) (l2 : List α) (hs : a.eval s = v) (hx : a.eval x = .slice A m c) (hl2 : Sl enc sz w A m l2) (hz : A = none → c = 0)
    (hlen : ∀ x, (enc x).length = sz) (h1 : ∀ x, ∀ u ∈ enc x, u.oneCell' = true)
    (hown : Own enc e sz w base v l) (hll : l.length + m < 4294967296) (hby : bytes ≤ 4096) (hbase : base ≤ w.heap.size)
    (h : ∀ v' w', Own enc e sz w' base v' (l ++ l2) → w.grownBy w' v.ownBlock → Below base w w' → wpList P ops Q rest (a.put o.dst v') w') :
    wpList P ops Q (o :: rest) a w := by
  obtain ⟨i, z, hi, hzz, hsize, hbytes, hzs⟩ := E.info
  cases A with
  | none =>
    have hc := hz rfl
    subst hc
    have hm : m = 0 := by
      rcases Nat.eq_zero_or_pos m with h0 | h0
      · exact h0
      · obtain ⟨b, off, hA, _⟩ := hl2.2 h0; cases hA
    subst hm
    have hl0 : l2 = [] := List.eq_nil_of_length_eq_zero hl2.1
    subst hl0
    refine wpList_append_own_none hgd s x t ho base e i sz E.sl hi v l.length (l.flatMap enc) hs hown hx ?_
    exact h v w (by rw [List.append_nil]; exact hown) (World.grownBy.refl w _) (Below.refl _ _)
  | some ad =>
    refine wpList_append_own w hgd s x t ho base e i z sz bytes E.sl hi hzz hsize hbytes hzs E.pos v l.length (l.flatMap enc) hs hown ad m c (l2.flatMap enc) hx (by rw [flat_len hlen, hl2.1]) ?_ ?_ (by unfold maxLen; omega) ?_ hbase ?_
    · intro j u hu
      obtain ⟨y, hy, hu2⟩ := flat_at E.pos hlen l2 j u hu
      have hlt := (List.getElem?_eq_some_iff.1 hy).1
      obtain ⟨b, off, hA, hc⟩ := hl2.2 (hl2.1 ▸ Nat.lt_of_le_of_lt (Nat.zero_le _) hlt)
      cases hA
      have := hc _ y hy _ u hu2
      rw [Addr.add_lit]
      have e1 : off + j / sz * sz + j % sz = off + j := by rw [Nat.add_assoc, Nat.div_add_mod']
      rw [e1] at this
      exact this
    · intro u hu
      obtain ⟨y, hy, hu2⟩ := List.mem_flatMap.1 hu
      exact h1 y u hu2
    · calc (l.length + m) * bytes ≤ 4294967296 * 4096 := Nat.mul_le_mul (by omega) hby
        _ ≤ 140737488355328 := by omega
    · intro v' w' hown' hg _
      refine h v' w' ?_ hg ((Below.refl _ _).grown hg hbase (fun k hk => (Own.lt hown k hk).1))
      have e2 : (l ++ l2).flatMap enc = l.flatMap enc ++ l2.flatMap enc := by simp
      unfold Own
      rw [e2, List.length_append, hl2.1]
      exact hown'
end Go.Proofs.Ytmennjmjakdkcaa

namespace Go.Proofs.Ytmennjmjakdkcaa
open Go.RowKit
set_option linter.unusedVariables false
set_option linter.unusedSimpArgs false

end Go.Proofs.Ytmennjmjakdkcaa
namespace Go.Proofs.Ytmennjmjakdkcaa
set_option linter.unusedVariables false
set_option linter.unusedSimpArgs false

theorem cnt_mono {p q : Nat → Bool} (h : ∀ i, i < 8 → p i = true → q i = true) : cnt p ≤ cnt q :=
  List.countP_mono_left fun i hi => h i (by simpa using hi)
theorem wornS_n (m : Mk) (s : Sg) : (wornS m s).n = onI (orI m.n s.n) s.l s.r := rfl
theorem onI_on (n : Int) (l r : Bool) : onI (onI n l r) l r = onI n l r :=
  bits_ext (onI_lo _ _ _) (onI_hi _ _ _) (onI_lo _ _ _) (onI_hi _ _ _) fun i hi => by
    rw [bit_on _ _ _ _ hi, bit_on _ _ _ _ hi]; cases bit n i <;> cases tornB l r i <;> rfl
theorem fits_worn {m : Mk} {s : Sg} {t : Int} (hm : 0 ≤ m.n ∧ m.n ≤ 255) (hs : 0 ≤ s.n ∧ s.n ≤ 255) (hp : (popI s.n : Int) ≤ t) : fits (wornS m s) m t = true := by
  have e1 : alikeBP (wornS m s) m = true := by
    unfold alikeBP wornS
    dsimp only
    by_cases h1 : s.b = -1 <;> by_cases h2 : s.p = -1 <;> simp [h1, h2]
  have e2 : butI (onI m.n s.l s.r) (wornS m s).n = 0 := by
    rw [eq_zero_iff (butI_lo _ _) (butI_hi _ _)]
    intro i hi
    rw [wornS_n, bit_but _ _ (onI_hi _ _ _) i hi, bit_on _ _ _ _ hi, bit_on _ _ _ _ hi, bit_or]
    cases bit m.n i <;> cases bit s.n i <;> cases tornB s.l s.r i <;> rfl
  have e3 : popI (butI (wornS m s).n (onI m.n s.l s.r)) ≤ popI s.n := by
    unfold popI
    refine cnt_mono fun i hi h => ?_
    rw [wornS_n, bit_but _ _ (onI_hi _ _ _) i hi, bit_on _ _ _ _ hi, bit_on _ _ _ _ hi, bit_or] at h
    revert h
    cases bit m.n i <;> cases bit s.n i <;> cases tornB s.l s.r i <;> simp
  unfold fits
  rw [e1]
  have e4 : (wornS m s).l = s.l := rfl
  have e5 : (wornS m s).r = s.r := rfl
  rw [e4, e5, e2]
  simp
  omega
theorem seen_worn {m : Mk} {s : Sg} (hm : (0 ≤ m.n ∧ m.n ≤ 255) ∧ (0 ≤ m.b ∧ m.b ≤ 9) ∧ 0 ≤ m.p ∧ m.p ≤ 6) : seen (wornS m s) 9 6 = 0 := by
  unfold seen
  rw [if_neg (by simp [btw_iff, wornS_n, onI_lo, onI_hi]), if_neg (by rw [wornS_n]; show ¬ onI (onI (orI m.n s.n) s.l s.r) s.l s.r ≠ onI (orI m.n s.n) s.l s.r; rw [onI_on]; simp), if_neg, if_neg]
  · rintro ⟨h1, h2⟩
    have e : (wornS m s).p = m.p := by unfold wornS at h1 ⊢; dsimp only at h1 ⊢; split <;> simp_all
    rw [e, btw_no] at h2
    exact h2 hm.2.2
  · rintro ⟨h1, h2⟩
    have e : (wornS m s).b = m.b := by unfold wornS at h1 ⊢; dsimp only at h1 ⊢; split <;> simp_all
    rw [e, btw_no] at h2
    exact h2 hm.2.1
theorem mem_mayL {t : Int} {l : List Mk} {s : Sg} {o : Nat} {m : Mk} (hm : l[o]? = some m) (hf : fits s m t = true) : (o : Int) ∈ mayL t l s := by
  unfold mayL mayTo
  refine List.mem_map.2 ⟨o, List.mem_filter.2 ⟨?_, ?_⟩, rfl⟩
  · rw [List.mem_range]; exact (List.getElem?_eq_some_iff.1 hm).1
  · rw [hm]; simpa using hf
end Go.Proofs.Ytmennjmjakdkcaa

namespace Go.Proofs.Ytmennjmjakdkcaa
set_option linter.unusedVariables false
set_option linter.unusedSimpArgs false

end Go.Proofs.Ytmennjmjakdkcaa
namespace Go.Proofs.Ytmennjmjakdkcaa
set_option linter.unusedVariables false
set_option linter.unusedSimpArgs false

def getG (gs : List (List Int)) (f o : Nat) : Int := (gs.getD f []).getD o 0
def addG (gs : List (List Int)) (f o : Nat) (k : Int) : List (List Int) := gs.set f ((gs.getD f []).set o (getG gs f o + k))
/-- a grid of nf rows of n numbers -/
structure GSh (n nf : Nat) (gs : List (List Int)) : Prop where
  l : gs.length = nf
  r : ∀ r ∈ gs, r.length = n
theorem GSh.row {n nf : Nat} {gs : List (List Int)} (h : GSh n nf gs) {f : Nat} (hf : f < nf) : (gs.getD f []).length = n := by
  rw [List.getD_eq_getElem?_getD, List.getElem?_eq_getElem (by rw [h.l]; exact hf), Option.getD_some]
  exact h.r _ (List.getElem_mem _)
theorem GSh.add {n nf : Nat} {gs : List (List Int)} (h : GSh n nf gs) {f : Nat} (hf : f < nf) (o : Nat) (k : Int) : GSh n nf (addG gs f o k) := by
  refine ⟨by unfold addG; rw [List.length_set]; exact h.l, fun r hr => ?_⟩
  rcases List.mem_or_eq_of_mem_set hr with hr | rfl
  · exact h.r r hr
  · rw [List.length_set]; exact h.row hf
theorem firstH_at (gs : List (List Int)) {i : Nat} (hi : i < 15) : (firstH gs)[i]? = some (getG gs (i / 5) (i % 5)) := by
  unfold firstH getG
  rw [List.getElem?_map, List.getElem?_range hi]
  rfl
theorem firstH_get (gs : List (List Int)) {f o : Nat} (hf : f < 3) (ho : o < 5) : hget (firstH gs) f o = getG gs f o := by
  unfold hget
  rw [List.getD_eq_getElem?_getD, firstH_at gs (by omega), show (5 * f + o) / 5 = f by omega, show (5 * f + o) % 5 = o by omega]
  rfl
theorem firstH_l (gs : List (List Int)) : (firstH gs).length = 15 := by simp [firstH]
theorem firstH_add {n nf : Nat} {gs : List (List Int)} (h : GSh n nf gs) (hn : n ≤ 5) (hnf : nf ≤ 3) {f o : Nat} (hf : f < nf) (ho : o < n) (k : Int) : firstH (addG gs f o k) = hadd (firstH gs) f o k := by
  have hrl := h.row hf
  have hfl : f < gs.length := by rw [h.l]; exact hf
  apply List.ext_getElem?
  intro i
  unfold hadd
  by_cases hi : i < 15
  · rw [firstH_at _ hi, List.getElem?_set, firstH_l]
    by_cases e : 5 * f + o = i
    · rw [if_pos e, if_pos (by omega), ← e, show (5 * f + o) / 5 = f by omega, show (5 * f + o) % 5 = o by omega, firstH_get gs (by omega) (by omega)]
      unfold getG addG
      rw [List.getD_eq_getElem?_getD, List.getD_eq_getElem?_getD (l := gs.set _ _), List.getElem?_set_self hfl, Option.getD_some, List.getElem?_set_self (by omega)]
      rfl
    · rw [if_neg e, firstH_at _ hi]
      congr 1
      unfold getG addG
      by_cases ef : f = i / 5
      · subst ef
        have eo : o ≠ i % 5 := by omega
        rw [List.getD_eq_getElem?_getD (l := gs.set _ _), List.getElem?_set_self hfl, Option.getD_some, List.getD_eq_getElem?_getD, List.getElem?_set_ne eo, List.getD_eq_getElem?_getD (l := gs.getD _ _)]
      · rw [List.getD_eq_getElem?_getD (l := gs.set _ _), List.getElem?_set_ne ef, ← List.getD_eq_getElem?_getD (l := gs)]
  · rw [List.getElem?_eq_none (by rw [firstH_l]; omega), List.getElem?_eq_none (by rw [List.length_set, firstH_l]; omega)]
theorem sum5 {l : List Int} (h : l.length ≤ 5) : l.sum = l.getD 0 0 + l.getD 1 0 + l.getD 2 0 + l.getD 3 0 + l.getD 4 0 := by
  match l, h with
  | [], _ => simp
  | [a], _ => simp
  | [a, b], _ => simp
  | [a, b, c], _ => simp; omega
  | [a, b, c, d], _ => simp; omega
  | [a, b, c, d, e], _ => simp; omega
  | _ :: _ :: _ :: _ :: _ :: _ :: _, h => simp at h
theorem row_sum {gs : List (List Int)} {f : Nat} (hf : f < 3) (hl : (gs.getD f []).length ≤ 5) : (gs.getD f []).sum = hall (firstH gs) f := by
  rw [sum5 hl]
  unfold hall
  rw [firstH_get gs hf (by omega), firstH_get gs hf (by omega), firstH_get gs hf (by omega), firstH_get gs hf (by omega), firstH_get gs hf (by omega)]
  rfl
/-! ### the ends behind one deed more -/
theorem endsTo_snoc {t : Int} {l : List Mk} {hs : List (List Int)} {ds : List De} {d : De} {deed owner : Int} : ∀ i, i ≤ ds.length → endsTo t l hs (ds ++ [d]) deed owner i = endsTo t l hs ds deed owner i
  | 0, _ => rfl
  | i + 1, hi => by
    unfold endsTo
    rw [endsTo_snoc i (by omega), List.getElem?_append_left (by omega)]
theorem endsL_snoc {t : Int} {l : List Mk} {hs : List (List Int)} {ds : List De} {d : De} {deed owner : Int} {x h : List Int} (hh : h ∈ endsL t l hs ds deed owner) (hx : x ∈ succ t l (passB deed owner ds.length) d h) : x ∈ endsL t l hs (ds ++ [d]) deed owner := by
  unfold endsL at hh ⊢
  rw [List.length_append]
  refine (endsTo_mem (i := ds.length) (d := d) (by simp) x).2 ⟨h, ?_, hx⟩
  rw [endsTo_snoc _ (Nat.le_refl _)]
  exact hh
theorem endsTo_far {t : Int} {l : List Mk} {hs : List (List Int)} {ds : List De} {deed owner deed' owner' : Int} : ∀ i : Nat, (∀ j : Nat, j < i → (j : Int) ≠ deed ∧ (j : Int) ≠ deed') → endsTo t l hs ds deed owner i = endsTo t l hs ds deed' owner' i
  | 0, _ => rfl
  | i + 1, h => by
    unfold endsTo
    rw [endsTo_far i fun j hj => h j (by omega)]
    have e : passB deed owner i = passB deed' owner' i := by
      funext o
      unfold passB
      have := h i (by omega)
      rw [decide_eq_false this.1, decide_eq_false this.2]
      rfl
    rw [e]
theorem pass_far {deed owner : Int} {i : Nat} (h : (i : Int) ≠ deed) (o : Int) : passB deed owner i o = true := by unfold passB; rw [decide_eq_false h]; rfl
theorem pass_own {deed : Int} {i : Nat} (o : Int) : passB deed o i o = true := by unfold passB; simp
/-! ### sheep that are lost one by one -/
theorem hadd_hadd {h : List Int} (hl : h.length = 15) {f o o' : Nat} {k k' : Int} (hf : f < 3) (ho : o < 5) (ho' : o' < 5) (hne : o ≠ o') : hadd (hadd h f o k) f o' k' = hadd (hadd h f o' k') f o k := by
  unfold hadd
  have e1 : hget (h.set (5 * f + o) (hget h f o + k)) f o' = hget h f o' := by rw [show hget (h.set (5 * f + o) (hget h f o + k)) f o' = _ from hget_set hl hf ho ho', if_neg (by omega)]; rfl
  have e2 : hget (h.set (5 * f + o') (hget h f o' + k')) f o = hget h f o := by rw [show hget (h.set (5 * f + o') (hget h f o' + k')) f o = _ from hget_set hl hf ho' ho, if_neg (by omega)]; rfl
  rw [e1, e2, List.set_comm _ _ (by omega)]
theorem hadd_same {h : List Int} (hl : h.length = 15) {f o : Nat} {k k' : Int} (hf : f < 3) (ho : o < 5) : hadd (hadd h f o k) f o k' = hadd h f o (k + k') := by
  unfold hadd
  have e1 : hget (h.set (5 * f + o) (hget h f o + k)) f o = hget h f o + k := by rw [show hget (h.set (5 * f + o) (hget h f o + k)) f o = _ from hget_set hl hf ho ho, if_pos ⟨rfl, rfl⟩]
  rw [e1, List.set_set, Int.add_assoc]
theorem hadd_zero {h : List Int} (hl : h.length = 15) {f o : Nat} (hf : f < 3) (ho : o < 5) : hadd h f o 0 = h := by
  unfold hadd hget
  rw [Int.add_zero, List.getD_eq_getElem?_getD, List.getElem?_eq_getElem (by omega), Option.getD_some, List.set_getElem_self]
theorem lostJ_zero {n f : Nat} (j : Nat) (h : List Int) : lostJ n f j h 0 = [h] := by cases j <;> simp [lostJ]
theorem lostJ_step {n f j m k : Nat} {h x : List Int} (hl : h.length = 15) (hf : f < 3) (hq : n - (j + 1) < 5) (hk : k ≤ m) (h0 : 0 ≤ hget h f (n - (j + 1)) + -(k : Int)) (hx : x ∈ lostJ n f j (hadd h f (n - (j + 1)) (-(k : Int))) (m - k)) : x ∈ lostJ n f (j + 1) h m := by
  unfold lostJ
  by_cases hm : m = 0
  · subst hm
    obtain rfl : k = 0 := by omega
    rw [if_pos rfl]
    rw [lostJ_zero] at hx
    simp at hx
    rw [hx, hadd_zero hl hf hq]
    simp
  · rw [if_neg hm]
    refine List.mem_flatMap.2 ⟨k, List.mem_range.2 (by omega), ?_⟩
    unfold mvd
    rw [if_pos h0]
    exact hx
theorem lostJ_pick {n f : Nat} (hf : f < 3) (hn : n ≤ 5) : ∀ (j : Nat) (h : List Int) (m o : Nat) (x : List Int), j ≤ n → h.length = 15 → (∀ o, o < 5 → 0 ≤ hget h f o) → n - j ≤ o → o < n → 0 < hget h f o → x ∈ lostJ n f j (hadd h f o (-1)) m → x ∈ lostJ n f j h (m + 1)
  | 0, h, m, o, x, hj, hl, hnn, h1, h2, hp, hx => by omega
  | j + 1, h, m, o, x, hj, hl, hnn, h1, h2, hp, hx => by
    have hq5 : n - (j + 1) < 5 := by omega
    have ho5 : o < 5 := by omega
    by_cases e : o = n - (j + 1)
    · subst e
      by_cases hm : m = 0
      · subst hm
        rw [lostJ_zero] at hx
        simp at hx
        subst hx
        refine lostJ_step hl hf hq5 (k := 1) (by omega) (by omega) ?_
        rw [lostJ_zero]
        simp
      · unfold lostJ at hx
        rw [if_neg hm] at hx
        obtain ⟨k, hk, hx⟩ := List.mem_flatMap.1 hx
        have hkm : k ≤ m := by have := List.mem_range.1 hk; omega
        cases hmv : mvd (hadd h f (n - (j + 1)) (-1)) f (n - (j + 1)) (-(k : Int)) with
        | none => rw [hmv] at hx; cases hx
        | some y =>
          rw [hmv] at hx
          obtain ⟨h0, rfl⟩ := mvd_some hmv
          rw [hget_hadd hl hf ho5 ho5, if_pos ⟨rfl, rfl⟩] at h0
          rw [hadd_same hl hf ho5] at hx
          refine lostJ_step hl hf hq5 (k := k + 1) (by omega) (by omega) ?_
          rw [show -((k + 1 : Nat) : Int) = -1 + -(k : Int) by omega, show m + 1 - (k + 1) = m - k by omega]
          exact hx
    · by_cases hm : m = 0
      · subst hm
        rw [lostJ_zero] at hx
        simp at hx
        subst hx
        refine lostJ_step hl hf hq5 (k := 0) (by omega) (by have := hnn _ hq5; omega) ?_
        rw [show -((0 : Nat) : Int) = 0 from rfl, hadd_zero hl hf hq5]
        exact lostJ_pick hf hn j h 0 o _ (by omega) hl hnn (by omega) h2 hp (by rw [lostJ_zero]; simp)
      · unfold lostJ at hx
        rw [if_neg hm] at hx
        obtain ⟨k, hk, hx⟩ := List.mem_flatMap.1 hx
        have hkm : k ≤ m := by have := List.mem_range.1 hk; omega
        cases hmv : mvd (hadd h f o (-1)) f (n - (j + 1)) (-(k : Int)) with
        | none => rw [hmv] at hx; cases hx
        | some y =>
          rw [hmv] at hx
          obtain ⟨h0, rfl⟩ := mvd_some hmv
          rw [hget_hadd hl hf ho5 hq5, if_neg (by omega)] at h0
          rw [hadd_hadd hl hf ho5 hq5 e] at hx
          refine lostJ_step hl hf hq5 (k := k) (by omega) h0 ?_
          rw [show m + 1 - k = m - k + 1 by omega]
          refine lostJ_pick hf hn j _ (m - k) o x (by omega) (hadd_l hl) (fun o' ho' => ?_) (by omega) h2 ?_ hx
          · rw [hget_hadd hl hf hq5 ho']
            split
            · exact h0
            · exact hnn o' ho'
          · rw [hget_hadd hl hf hq5 ho5, if_neg (by omega)]
            exact hp
/-! ### a truth, deed by deed -/
structure TaleI (t : Int) (l : List Mk) (hs : List (List Int)) (ds : List De) (gs : List (List Int)) (gone whose : List Int) : Prop where
  e : firstH gs ∈ endsL t l hs ds (-1) 0
  w : ∀ (k : Nat) (o : Int), whose[k]? = some o → 0 ≤ o → firstH gs ∈ endsL t l hs ds k o ∧ o < l.length ∧ ∃ d, ds[k]? = some d ∧ d.kind = 5
  wn : whose.length = ds.length
  nn : ∀ f o, f < 3 → o < 5 → 0 ≤ hget (firstH gs) f o
  tot : htot (firstH gs) ≤ 60 + 3 * ds.length
  g : ∀ o : Nat, o < l.length → gone.getD o 0 + howned (firstH gs) o = hasS (sumS hs o ds)
  gl : gone.length = l.length
theorem hget_tot {h : List Int} (hnn : ∀ f o, f < 3 → o < 5 → 0 ≤ hget h f o) {f o : Nat} (hf : f < 3) (ho : o < 5) : hget h f o ≤ hall h f ∧ hall h f ≤ htot h := by
  have a0 := fun f (hf : f < 3) => hnn f 0 hf (by omega)
  have a1 := fun f (hf : f < 3) => hnn f 1 hf (by omega)
  have a2 := fun f (hf : f < 3) => hnn f 2 hf (by omega)
  have a3 := fun f (hf : f < 3) => hnn f 3 hf (by omega)
  have a4 := fun f (hf : f < 3) => hnn f 4 hf (by omega)
  have b0 := a0 f hf; have b1 := a1 f hf; have b2 := a2 f hf; have b3 := a3 f hf; have b4 := a4 f hf
  have c : ∀ f, f < 3 → 0 ≤ hall h f := fun f hf => by unfold hall; have := a0 f hf; have := a1 f hf; have := a2 f hf; have := a3 f hf; have := a4 f hf; omega
  constructor
  · unfold hall
    rcases lt5 ho with rfl | rfl | rfl | rfl | rfl <;> omega
  · unfold htot
    have := c 0 (by omega); have := c 1 (by omega); have := c 2 (by omega)
    rcases lt3 hf with rfl | rfl | rfl <;> omega
theorem TaleI.start {t : Int} {l : List Mk} {hs : List (List Int)} (hnn : ∀ f o, f < 3 → o < 5 → 0 ≤ hget (firstH hs) f o) (ht : htot (firstH hs) ≤ 60) : TaleI t l hs [] hs (List.replicate l.length 0) [] := by
  refine ⟨by simp [endsL, endsTo], by simp, rfl, hnn, by simpa using ht, fun o ho => ?_, by simp⟩
  rw [List.getD_eq_getElem?_getD, List.getElem?_replicate, if_pos ho]
  unfold sumS hasS
  simp
theorem TaleI.step {t : Int} {l : List Mk} {hs : List (List Int)} {ds : List De} {gs gs' : List (List Int)} {gone gone' whose : List Int} {d : De} {ow : Int} (h : TaleI t l hs ds gs gone whose)
    (hsucc : ∀ pass : Int → Bool, (d.kind = 5 → pass ow = true) → firstH gs' ∈ succ t l pass d (firstH gs)) (how : ow = -1 ∨ 0 ≤ ow ∧ ow < l.length ∧ d.kind = 5) (hne : d.kind = 2 → d.owner ≠ d.other)
    (hnn : ∀ f o, f < 3 → o < 5 → 0 ≤ hget (firstH gs') f o) (ht : htot (firstH gs') ≤ htot (firstH gs) + 3)
    (hg : ∀ o : Nat, o < l.length → gone'.getD o 0 + howned (firstH gs') o = gone.getD o 0 + howned (firstH gs) o + delta o d) (hgl : gone'.length = gone.length) : TaleI t l hs (ds ++ [d]) gs' gone' (whose ++ [ow]) := by
  refine ⟨endsL_snoc h.e (hsucc _ fun _ => pass_far (by omega) _), fun k o hk ho => ?_, by simp [h.wn], hnn, ?_, fun o ho => ?_, hgl.trans h.gl⟩
  · rcases Nat.lt_or_ge k whose.length with hkl | hkl
    · rw [List.getElem?_append_left hkl] at hk
      obtain ⟨a1, a2, d', a3, a4⟩ := h.w k o hk ho
      exact ⟨endsL_snoc a1 (hsucc _ fun _ => pass_far (by have := h.wn; omega) _), a2, d', by rw [List.getElem?_append_left (by have := h.wn; omega)]; exact a3, a4⟩
    · rw [List.getElem?_append_right hkl] at hk
      have hk0 : k - whose.length = 0 := by
        cases hd : k - whose.length with
        | zero => rfl
        | succ j => rw [hd] at hk; simp at hk
      rw [hk0] at hk
      simp at hk
      subst hk
      have hkl' : k = ds.length := by have := h.wn; omega
      subst hkl'
      rcases how with e | ⟨a1, a2, a3⟩
      · omega
      · refine ⟨endsL_snoc (deed := (ds.length : Int)) (owner := ow) ?_ (hsucc _ fun _ => pass_own _), a2, d, by simp, a3⟩
        unfold endsL
        rw [endsTo_far (deed' := -1) (owner' := 0) _ fun j hj => ⟨by omega, by omega⟩]
        exact h.e
  · have := h.tot
    rw [List.length_append, List.length_singleton]
    omega
  · have hs1 : sumS hs o (ds ++ [d]) = stepS o (sumS hs o ds) d := by
      unfold sumS
      rw [List.foldl_append]
      rfl
    rw [hg o ho, h.g o ho, hs1, hasS_step _ _ _ hne]
end Go.Proofs.Ytmennjmjakdkcaa
namespace Go.Proofs.Ytmennjmjakdkcaa
open Go.RowKit Go.MapKept Go.ChangeMaps
set_option linter.unusedVariables false
set_option linter.unusedSimpArgs false

def hv (h : List Int) : Value := .agg (h.map (Value.int .i64)).toArray
/-- fifteen numbers that are ints -/
def HOk (h : List Int) : Prop := h.length = 15 ∧ ∀ x ∈ h, -9223372036854775808 ≤ x ∧ x ≤ 9223372036854775807
theorem HBd.ok {B : Int} {h : List Int} (hh : HBd B h) (hB : B ≤ 9223372036854775807) : HOk h := ⟨hh.1, fun x hx => by have := hh.2 x hx; omega⟩
theorem hv_inj {h k : List Int} (e : hv h = hv k) : h = k := by
  unfold hv at e
  injection e with e
  have e2 := congrArg Array.toList e
  simp only at e2
  have : ∀ (a b : List Int), a.map (Value.int .i64) = b.map (Value.int .i64) → a = b := by
    intro a
    induction a with
    | nil => intro b hb; cases b with
      | nil => rfl
      | cons y b => simp at hb
    | cons x a ih => intro b hb; cases b with
      | nil => simp at hb
      | cons y b => simp at hb; rw [hb.1, ih b (by simpa using hb.2)]
  exact this h k e2
theorem laidOutH : laidOutB Try.prog = true := by kernel_rfl
theorem hdsRow : (137 : TypeId) < Try.prog.types.size := of_decide_eq_true (by kernel_rfl)
theorem hdsWide : (match Try.prog.underlying 137 with | some (.array _ _) | some (.struct _) => true | _ => false) = true := by rw [Try.underlying137]
set_option maxRecDepth 100000 in
theorem hdsLaw : WideMaps.KeyLaw Try.prog 137 := deep_law_laid laidOutH (m := 3) (by omega) hdsRow (by kernel_rfl) hdsWide
theorem hdsKeyed : Maps.Keyed Try.prog 137 := Maps.Keyed.of_law hdsLaw
theorem cells_row : Try.prog.cellsOf 135 = 5 := by kernel_rfl
theorem cells_hds : Try.prog.cellsOf 137 = 15 := by kernel_rfl
theorem cells_int : Try.prog.cellsOf 3 = 1 := by kernel_rfl
theorem lits_int (d : Nat) (x : Int) (hx : -9223372036854775808 ≤ x ∧ x ≤ 9223372036854775807) : Try.prog.keyLits (d + 1) 3 [.int .i64 x] = some [.int .i64 x] := by
  unfold Program.keyLits
  rw [Try.underlying3]
  simp [WalkArith.wf_i64 hx]
theorem lits_row (d : Nat) {a b c e f : Int} (ha : -9223372036854775808 ≤ a ∧ a ≤ 9223372036854775807) (hb : -9223372036854775808 ≤ b ∧ b ≤ 9223372036854775807) (hc : -9223372036854775808 ≤ c ∧ c ≤ 9223372036854775807)
    (he : -9223372036854775808 ≤ e ∧ e ≤ 9223372036854775807) (hf : -9223372036854775808 ≤ f ∧ f ≤ 9223372036854775807) :
    Try.prog.keyLits (d + 2) 135 [.int .i64 a, .int .i64 b, .int .i64 c, .int .i64 e, .int .i64 f] = some [.int .i64 a, .int .i64 b, .int .i64 c, .int .i64 e, .int .i64 f] := by
  have h0 := lits_int d a ha
  have h1 := lits_int d b hb
  have h2 := lits_int d c hc
  have h3 := lits_int d e he
  have h4 := lits_int d f hf
  have hr : List.range 5 = [0, 1, 2, 3, 4] := rfl
  unfold Program.keyLits
  rw [Try.underlying135]
  simp [cells_row, cells_int, hr, h0, h1, h2, h3, h4]
theorem list15' {α : Type} {l : List α} (h : l.length = 15) : ∃ a b c d e f g i j k m n o p q, l = [a, b, c, d, e, f, g, i, j, k, m, n, o, p, q] := by
  match l, h with
  | [a, b, c, d, e, f, g, i, j, k, m, n, o, p, q], _ => exact ⟨a, b, c, d, e, f, g, i, j, k, m, n, o, p, q, rfl⟩
set_option maxRecDepth 100000 in
theorem hds_keyType : Try.prog.keyType 137 = true := by kernel_rfl
theorem keyH {h : List Int} (hh : HOk h) : ∃ l, keyOf Try.prog 137 (hv h) = some l := by
  obtain ⟨a, b, c, d, e, f, g, i, j, k, m, n, o, p, q, rfl⟩ := list15' hh.1
  have hw := hh.2
  simp only [List.mem_cons, List.not_mem_nil, or_false, forall_eq_or_imp, forall_eq] at hw
  obtain ⟨h0, h1, h2, h3, h4, h5, h6, h7, h8, h9, h10, h11, h12, h13, h14⟩ := hw
  obtain ⟨d', hd⟩ : ∃ d', Try.prog.types.size + 1 = d' + 3 := ⟨Try.prog.types.size - 2, by have : 2 ≤ Try.prog.types.size := of_decide_eq_true (by kernel_rfl); omega⟩
  have r0 := lits_row d' h0 h1 h2 h3 h4
  have r1 := lits_row d' h5 h6 h7 h8 h9
  have r2 := lits_row d' h10 h11 h12 h13 h14
  have hr : List.range 3 = [0, 1, 2] := rfl
  have hu := Try.underlying137
  have hform : (hv [a, b, c, d, e, f, g, i, j, k, m, n, o, p, q]).formed Try.prog 137 = true := by simp [Value.formed, hu, cells_hds, hv]
  have hk : Try.prog.keyLits (d' + 3) 137 (hv [a, b, c, d, e, f, g, i, j, k, m, n, o, p, q]).cells.toList = some ([[Lit.int .i64 a, .int .i64 b, .int .i64 c, .int .i64 d, .int .i64 e], [.int .i64 f, .int .i64 g, .int .i64 i, .int .i64 j, .int .i64 k], [.int .i64 m, .int .i64 n, .int .i64 o, .int .i64 p, .int .i64 q]].flatten) := by
    unfold Program.keyLits
    rw [hu]
    simp [cells_hds, cells_row, hr, hv, Value.cells, r0, r1, r2]
  exact ⟨_, by unfold keyOf; rw [hu, hds_keyType, hform, hd, hk]; rfl⟩

/-- the map in block M holds true at the keys K, in this order, and nothing else -/
def MetH (w : World) (M : Nat) (K : List (List Int)) : Prop :=
  ∃ es clock, w.heap[M]? = some (.map es clock) ∧ MapKept.Stamped es clock ∧ es.toList.map (fun e => (e.key, e.val)) = K.map (fun h => (hv h, Value.bool true)) ∧ ∀ h ∈ K, HOk h
theorem MetH.lt {w : World} {M : Nat} {K : List (List Int)} (h : MetH w M K) : M < w.heap.size := by obtain ⟨es, c, h1, _⟩ := h; exact heap_lt h1
theorem MetH.keep {w w' : World} {M : Nat} {K : List (List Int)} (h : MetH w M K) (e : w'.heap[M]? = w.heap[M]?) : MetH w' M K := by
  obtain ⟨es, c, h1, h2⟩ := h
  exact ⟨es, c, by rw [e]; exact h1, h2⟩
theorem metH_empty {w : World} {M clock : Nat} (h : w.heap[M]? = some (.map #[] clock)) : MetH w M [] := ⟨_, _, h, MapKept.stamped_empty _, rfl, fun h hh => by cases hh⟩
theorem keys_of {es : List MapEntry} {K : List (List Int)} (h : es.map (fun e => (e.key, e.val)) = K.map (fun h => (hv h, Value.bool true))) : es.map (·.key) = K.map hv := by
  have := congrArg (List.map Prod.fst) h
  rw [List.map_map, List.map_map] at this
  exact this
theorem MetH.nodup {w : World} {M : Nat} {K : List (List Int)} (h : MetH w M K) : K.Nodup := by
  obtain ⟨es, c, h1, h2, h3, h4⟩ := h
  have hn := h2.2.2
  rw [keys_of h3] at hn
  exact List.Pairwise.of_map hv (fun a b hab e => hab (by rw [e])) hn
theorem entry_key {es : List MapEntry} {K : List (List Int)} (h : es.map (fun e => (e.key, e.val)) = K.map (fun h => (hv h, Value.bool true))) {e : MapEntry} (he : e ∈ es) : ∃ k ∈ K, e.key = hv k ∧ e.val = .bool true := by
  have hm : (e.key, e.val) ∈ es.map (fun e => (e.key, e.val)) := List.mem_map.2 ⟨e, he, rfl⟩
  rw [h] at hm
  obtain ⟨k, hk, e2⟩ := List.mem_map.1 hm
  injection e2 with e3 e4
  exact ⟨k, hk, e3.symm, e4.symm⟩

/-- after a store of true at x the map holds K and x, and nothing else has changed -/
theorem run_putH (x : List Int) (hx : HOk x) (w : World) (M : Nat) (K : List (List Int)) (h : MetH w M K) :
    ∃ ob, (Instr.mapUpdate 163 (.map (some M)) (hv x) (.bool true)).run Try.prog w = .ok () { w with heap := w.heap.setIfInBounds M ob } ∧ M < w.heap.size
      ∧ ∃ K', (∀ w' : World, w'.heap[M]? = some ob → MetH w' M K') ∧ ∀ k, k ∈ K' ↔ k ∈ K ∨ k = x := by
  obtain ⟨es, clock, hh, hst, hes, hok⟩ := h
  obtain ⟨l, hl⟩ := keyH hx
  have hu := run_underlying (P := Try.prog) (w := w) Try.underlying163
  have hg : (getObj M).run Try.prog w = .ok (.map es clock) w := by simp [getObj, Sem.run, hh]
  have hs : ∀ o, (setObj M o).run Try.prog w = .ok () { w with heap := w.heap.setIfInBounds M o } := fun o => by simp [setObj, Sem.run, hh]
  have hlt : M < w.heap.size := heap_lt hh
  have hck := fun em => hdsKeyed.check w em hl
  have hks := hdsKeyed.stays w hl
  rcases hdsKeyed.find w hl es.toList (fun e he => by obtain ⟨k, hk, e1, _⟩ := entry_key hes he; rw [e1]; exact keyH (hok k hk)) with ⟨hr, hno⟩ | ⟨j, e, hr, hj, hke⟩
  · refine ⟨.map (es.push { key := hv x, val := .bool true, born := clock }) (clock + 1), ?_, hlt, K ++ [x], ?_, fun k => by simp⟩
    · simp [Instr.mapUpdate, hu, hg, hck, hr, hs]
    · intro w' hw'
      exact ⟨_, _, hw', MapKept.stamped_push hst hno, by simp [hes], fun k hk => by
        rcases List.mem_append.1 hk with hk | hk
        · exact hok k hk
        · simp at hk; rw [hk]; exact hx⟩
  · have hj' : es[j]? = some e := by simpa using hj
    obtain ⟨k, hk, e1, e2⟩ := entry_key hes (List.mem_of_getElem? hj)
    have hxk : x = k := hv_inj (hke.symm.trans e1)
    subst hxk
    refine ⟨.map (es.modify j fun e => { e with key := hv x, val := .bool true }) clock, ?_, hlt, K, ?_, fun k => ⟨.inl, fun h => h.elim id (fun h => h ▸ hk)⟩⟩
    · simp [Instr.mapUpdate, hu, hg, hck, hr, hj', hke, hks, hs]
    · intro w' hw'
      have hsame : es.modify j (fun e => { e with key := hv x, val := .bool true }) = es := by
        apply Array.ext_getElem?
        intro i
        rw [Array.getElem?_modify]
        split
        · rename_i hij
          subst hij
          rw [hj']
          simp only [Option.map_some]
          rw [← hke, ← e2]
        · rfl
      rw [hsame] at hw'
      exact ⟨es, clock, hw', hst, hes, hok⟩
theorem wp_putH {w : World} {ops : Array Oper} {rest : List Oper} {o : Oper} {a : Act} {Q : Exit → Act → World → Prop}
    (hg : o.guard = none) (m x v : Operand) (hop : o.op = Op.mapUpdate 163 m x v) (M : Nat) (K : List (List Int)) (k : List Int) (hk : HOk k)
    (hm : a.eval m = .map (some M)) (hx : a.eval x = hv k) (hv' : a.eval v = .bool true) (h : MetH w M K)
    (hK : ∀ ob K', M < w.heap.size → (∀ w' : World, w'.heap[M]? = some ob → MetH w' M K') → (∀ q, q ∈ K' ↔ q ∈ K ∨ q = k) → wpList Try.prog ops Q rest (a.put o.dst undef) { w with heap := w.heap.setIfInBounds M ob }) :
    wpList Try.prog ops Q (o :: rest) a w := by
  refine wpList_plain hg fun K' hK' => ?_
  obtain ⟨ob, hrun, hlt, K2, h1, h2⟩ := run_putH k hk w M K h
  unfold Oper.wp
  simp [execOp, hop, hm, hx, hv', hrun, Result.andThen]
  exact hK' _ _ (hK ob K2 hlt h1 h2)

/-- a walk through the map in block M by the iterator in block r; L: the keys that are still to come -/
def IterH (w : World) (M r : Nat) (K L : List (List Int)) : Prop :=
  ∃ es clock since seen c0, w.heap[M]? = some (.map es clock) ∧ MapKept.Stamped es clock ∧ es.toList.map (fun e => (e.key, e.val)) = K.map (fun h => (hv h, Value.bool true)) ∧ (∀ h ∈ K, HOk h) ∧
    w.heap[r]? = some (.mapIter (some M) since seen c0) ∧ (∀ x ∈ es.toList, x.born < since) ∧ since ≤ c0 ∧ since ≤ clock ∧ (leftOf es seen).toList.map (·.key) = L.map hv
theorem IterH.met {w : World} {M r : Nat} {K L : List (List Int)} (h : IterH w M r K L) : MetH w M K := by
  obtain ⟨es, clock, since, seen, c0, h1, h2, h3, h4, _⟩ := h
  exact ⟨es, clock, h1, h2, h3, h4⟩
theorem IterH.lt {w : World} {M r : Nat} {K L : List (List Int)} (h : IterH w M r K L) : r < w.heap.size := by
  obtain ⟨es, clock, since, seen, c0, h1, h2, h3, h4, h5, _⟩ := h
  exact heap_lt h5
theorem IterH.ne {w : World} {M r : Nat} {K L : List (List Int)} (h : IterH w M r K L) : r ≠ M := by
  obtain ⟨es, clock, since, seen, c0, h1, h2, h3, h4, h5, _⟩ := h
  intro e
  rw [e, h1] at h5
  cases h5
theorem IterH.keep {w w' : World} {M r : Nat} {K L : List (List Int)} (h : IterH w M r K L) (e : w'.heap[M]? = w.heap[M]?) (e' : w'.heap[r]? = w.heap[r]?) : IterH w' M r K L := by
  obtain ⟨es, clock, since, seen, c0, h1, h2, h3, h4, h5, h6⟩ := h
  exact ⟨es, clock, since, seen, c0, by rw [e]; exact h1, h2, h3, h4, by rw [e']; exact h5, h6⟩
theorem IterH.left {w : World} {M r : Nat} {K L : List (List Int)} (h : IterH w M r K L) : w.rangeLeft M r = L.length := by
  obtain ⟨es, clock, since, seen, c0, h1, h2, h3, h4, h5, _, _, _, h6⟩ := h
  have := congrArg List.length h6
  simp only [List.length_map, Array.length_toList] at this
  simp only [World.rangeLeft, h1, h5]
  exact this
/-- 'range' -/
theorem run_rangeH {w : World} {M : Nat} {K : List (List Int)} (h : MetH w M K) :
    ∃ w', (Instr.range 163 (.map (some M))).run Try.prog w = .ok (.pointer (some ⟨w.heap.size, 0, none⟩)) w' ∧ IterH w' M w.heap.size K K ∧ w.grownBy w' none ∧ w'.heap.size = w.heap.size + 1 := by
  obtain ⟨es, clock, h1, h2, h3, h4⟩ := h
  have hlt := heap_lt h1
  have hrun := run_range_map w 163 137 4 M es clock Try.underlying163 h1
  refine ⟨_, hrun, ⟨es, clock, clock, #[], clock, ((MapKept.heap_alloc w _).2 M hlt).trans h1, h2, h3, h4, (MapKept.heap_alloc w _).1, h2.1, Nat.le_refl _, Nat.le_refl _, ?_⟩, World.grownBy_alloc w _ none, by simp⟩
  have : leftOf es #[] = es := by simp [leftOf]
  rw [this]
  exact keys_of h3
theorem keys_split {l : List MapEntry} {L : List (List Int)} (h : l.map (·.key) = L.map hv) {e : MapEntry} (he : e ∈ l) (hn : (l.map (·.born)).Nodup) :
    ∃ x L', L.Perm (x :: L') ∧ e.key = hv x ∧ (l.filter fun y => !(y.born == e.born)).map (·.key) = L'.map hv := by
  induction l generalizing L with
  | nil => cases he
  | cons y l ih =>
    cases L with
    | nil => simp at h
    | cons z L =>
      simp only [List.map_cons, List.cons.injEq] at h
      obtain ⟨h1, h2⟩ := h
      simp only [List.map_cons, List.nodup_cons] at hn
      rcases List.mem_cons.1 he with rfl | he'
      · refine ⟨z, L, List.Perm.refl _, h1, ?_⟩
        have hf : (l.filter fun y => !(y.born == e.born)) = l := by
          rw [List.filter_eq_self]
          intro a ha
          have : a.born ≠ e.born := fun e' => hn.1 (e' ▸ List.mem_map.2 ⟨a, ha, rfl⟩)
          simp [this]
        rw [List.filter_cons]
        simp only [beq_self_eq_true, Bool.not_true, Bool.false_eq_true, if_false]
        rw [hf]
        exact h2
      · obtain ⟨x, L', hp, hx, hL⟩ := ih h2 he' hn.2
        refine ⟨x, z :: L', (hp.cons z).trans (List.Perm.swap x z L'), hx, ?_⟩
        have hne : y.born ≠ e.born := fun e' => hn.1 (e' ▸ List.mem_map.2 ⟨e, he', rfl⟩)
        rw [List.filter_cons]
        simp only [show (y.born == e.born) = false from beq_eq_false_iff_ne.2 hne, Bool.not_false, if_true, List.map_cons, h1, hL]
theorem left_push (es : Array MapEntry) (seen : Array Nat) (b : Nat) : (leftOf es (seen.push b)).toList = (leftOf es seen).toList.filter fun y => !(y.born == b) := by
  unfold leftOf
  simp only [Array.toList_filter, List.filter_filter]
  congr 1
  funext y
  simp only [Array.contains_eq_mem, Array.mem_push]
  by_cases h1 : y.born ∈ seen <;> by_cases h2 : y.born = b <;> simp [h1, h2]
/-- a step: nothing is left; or a key comes out -/
theorem run_nextH {w : World} {M r : Nat} {K L : List (List Int)} (h : IterH w M r K L) (ty : TypeId) :
    (L = [] ∧ (Instr.next (.pointer (some ⟨r, 0, none⟩)) false ty).run Try.prog w = .ok (.tuple #[.bool false]) w) ∨
    ∃ x L' w', L.Perm (x :: L') ∧ HOk x ∧ (Instr.next (.pointer (some ⟨r, 0, none⟩)) false ty).run Try.prog w = .ok (.tuple #[.bool true, hv x, .bool true]) w' ∧ IterH w' M r K L' ∧ w.grownBy w' (some r) ∧ w'.heap.size = w.heap.size ∧
      (Instr.entry (.pointer (some ⟨r, 0, none⟩))).run Try.prog w' = .ok (.tuple #[hv x, .bool true]) w' := by
  have hne := h.ne
  obtain ⟨es, clock, since, seen, c0, h1, h2, h3, h4, h5, h6, h7, h8, h9⟩ := h
  rcases run_next_at (P := Try.prog) w ty r M since c0 seen es clock h5 h1 h6 h7 with ⟨h0, hrun⟩ | ⟨e, he, w1, hal, hrun⟩
  · left
    refine ⟨?_, hrun⟩
    have : (leftOf es seen) = #[] := Array.eq_empty_of_size_eq_zero h0
    rw [this] at h9
    cases L with
    | nil => rfl
    | cons a b => simp at h9
  · right
    have hb : (es.toList.map (·.born)).Nodup := h2.2.1
    have hsub : (leftOf es seen).toList.Sublist es.toList := by unfold leftOf; rw [Array.toList_filter]; exact List.filter_sublist
    have hbl : ((leftOf es seen).toList.map (·.born)).Nodup := (hsub.map _).nodup hb
    obtain ⟨x, L', hp, hx, hL⟩ := keys_split h9 he hbl
    obtain ⟨k, hk, e1, e2⟩ := entry_key h3 (hsub.subset he)
    have hxk : x = k := hv_inj (hx.symm.trans e1)
    subst hxk
    have hr1 : w1.heap[r]? = some (.mapIter (some M) since seen c0) := by rcases hal with rfl | rfl <;> exact h5
    have hb1 : w1.heap[M]? = some (.map es clock) := by rcases hal with rfl | rfl <;> exact h1
    have hset := heap_set (o' := .mapIter (some M) since (seen.push e.born) clock) hr1
    have hM : (setBlock w1 r (.mapIter (some M) since (seen.push e.born) clock)).heap[M]? = some (.map es clock) := (hset.2 M (fun e1 => hne e1.symm)).trans hb1
    have hen := run_entry_at (P := Try.prog) _ r M since seen es clock e hset.1 hM (hsub.subset he) hb
    rw [hx, e2] at hrun hen
    refine ⟨x, L', _, hp, h4 x hk, hrun, ⟨es, clock, since, seen.push e.born, clock, hM, h2, h3, h4, hset.1, h6, h8, h8, by rw [left_push]; exact hL⟩, ?_, ?_, hen⟩
    · rcases hal with rfl | rfl <;> exact ⟨rfl, rfl, rfl, by simp [setBlock], fun i _ hi => hset.2 i (fun e1 => hi (by rw [e1]))⟩
    · rcases hal with rfl | rfl <;> simp [setBlock]
theorem wp_rangeH {w : World} {ops : Array Oper} {rest : List Oper} {o : Oper} {a : Act} {Q : Exit → Act → World → Prop}
    (hg : o.guard = none) (m : Operand) (hop : o.op = Op.range 163 m) (M : Nat) (K : List (List Int)) (hm : a.eval m = .map (some M)) (h : MetH w M K)
    (hK : ∀ w', IterH w' M w.heap.size K K → w.grownBy w' none → w'.heap.size = w.heap.size + 1 → wpList Try.prog ops Q rest (a.put o.dst (.pointer (some ⟨w.heap.size, 0, none⟩))) w') : wpList Try.prog ops Q (o :: rest) a w := by
  refine wpList_plain hg fun K' hK' => ?_
  obtain ⟨w', hrun, r1, r2, r3⟩ := run_rangeH h
  unfold Oper.wp
  simp [execOp, hop, hm, hrun, Result.andThen]
  exact hK' _ _ (hK w' r1 r2 r3)
end Go.Proofs.Ytmennjmjakdkcaa
