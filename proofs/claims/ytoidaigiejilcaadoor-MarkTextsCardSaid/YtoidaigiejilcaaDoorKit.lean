/- mestakit: lists compared, places.
   mestakit: registers copied and compared, wear put on a mark, places of numbers.
   mestakit: CopyRegister, SameRegisters, Worn. -/
import Derived.Test.YtoidaigiejilcaaDoorBase
import Derived.Test.YtoidaigiejilcaaDoorCheck
import Derived.Test.YtoidaigiejilcaaDoorShow
import Derived.Test.YtoidaigiejilcaaDoorGrid
import Derived.Laws.AppendOwnNone
namespace Go.Proofs.YtoidaigiejilcaaDoor
open Go.RowKit
set_option linter.unusedVariables false
set_option linter.unusedSimpArgs false

theorem take_eq_snoc {α : Type} {x y : List α} {k : Nat} {u v : α} (h : x.take k = y.take k) (hx : x[k]? = some u) (hy : y[k]? = some v) (he : u = v) : x.take (k + 1) = y.take (k + 1) := by
  rw [List.take_add_one, List.take_add_one, hx, hy, h, he]
theorem ne_of_at {α : Type} {x y : List α} {k : Nat} {u v : α} (hx : x[k]? = some u) (hy : y[k]? = some v) (he : ¬ u = v) : ¬ x = y := fun h => by
  subst h; rw [hx] at hy; cases hy; exact he rfl

def sameL {α : Type} [DecidableEq α] (x y : List α) : Bool := decide (x = y)

set_option maxHeartbeats 1000000 in
theorem sameInts_any (A : Option Addr) (n c : Nat) (x : List Int) (B : Option Addr) (m d : Nat) (y : List Int) (w : World) (hx : Ints w A n x) (hy : Ints w B m y) (hn : n ≤ maxLen) (hm : m ≤ maxLen) :
    Calls Tryd.prog 21 #[.slice A n c, .slice B m d] w fun e w' => e = .returned (.bool (sameL x y)) ∧ Below w.heap.size w w' := by
  have hxl := hx.len
  have hyl := hy.len
  have HL := Lib.hid (And.intro hxl hyl)
  have HXY := Lib.hid (And.intro hx hy)
  unfold maxLen at hn hm
  clear hxl hyl hx hy
  by_cases hnm : n = m
  · subst hnm
    have h0 : (n != n) = false := by simp
    have h0' : ((n : Int) != (n : Int)) = false := by simp
    go_enter Tryd.func21, Tryd.ntmps21
    go_wp2_with fail
    go_loopg [5] n (fun g i wr => ∃ k : Nat, k + g = n ∧ i = .int .i64 k ∧ x.take k = y.take k ∧ ∃ q, wr = w.drewN q)
    case atStart => exact ⟨0, by omega, rfl, by simp, 0, rfl⟩
    case round =>
      obtain ⟨k, hk, rfl, htk, q, rfl⟩ := hrel
      have HK := Lib.hid (And.intro hk htk)
      have hkn : k ≤ n := by omega
      clear hk htk
      by_cases hlt : k < n
      · obtain ⟨b0, o0, u, rfl, hb0, hu, p0⟩ := Ints.get HXY.out.1 hlt
        obtain ⟨b1, o1, v, rfl, hb1, hv, q0⟩ := Ints.get HXY.out.2 hlt
        have i0 : (0 : Int) ≤ (k : Int) := by omega
        have i1 : (k : Int) < (n : Int) := by omega
        have HUV := Lib.hid (And.intro hu hv)
        clear hu hv
        by_cases huv : u = v
        · have h1 : (u != v) = false := by simp [huv]
          have HE := Lib.hid huv
          clear huv
          go_upto_region 6 with (fail)
          go_quiet (fail)
          go_wp2
          go_roundg (gk - 1)
          case measure => have := HK.out.1; omega
          case rel => exact ⟨k + 1, by have := HK.out.1; omega, by go_num, take_eq_snoc HK.out.2 HUV.out.1 HUV.out.2 HE.out, _, rfl⟩
        · have h1 : (u != v) = true := by simp [huv]
          have HE := Lib.hid huv
          clear huv
          go_upto_region 6 with (fail)
          go_quiet (fail)
          go_wp2
          go_ret
          exact ⟨ret_bool (by unfold sameL; rw [decide_eq_false (ne_of_at HUV.out.1 HUV.out.2 HE.out)]), below_drewN (below_drewN (Below.refl _ _) _) _⟩
      · obtain rfl : k = n := by omega
        go_wp2
        go_ret
        refine ⟨ret_bool ?_, below_drewN (Below.refl _ _) _⟩
        have h := HK.out.2
        rw [List.take_of_length_le (by rw [HL.out.1]; omega), List.take_of_length_le (by rw [HL.out.2]; omega)] at h
        unfold sameL; rw [decide_eq_true h]
  · have h0 : (n != m) = true := by simpa using hnm
    have h0' : ((n : Int) != (m : Int)) = true := by simp; omega
    have HE := Lib.hid hnm
    clear hnm
    go_enter Tryd.func21, Tryd.ntmps21
    go_wp2
    go_ret
    exact ⟨ret_bool (by unfold sameL; rw [decide_eq_false (fun h => HE.out (by rw [← HL.out.1, ← HL.out.2, h]))]), Below.refl _ _⟩
end Go.Proofs.YtoidaigiejilcaaDoor

namespace Go.Proofs.YtoidaigiejilcaaDoor
open Go.RowKit
set_option linter.unusedVariables false
set_option linter.unusedSimpArgs false

theorem flat_len {α : Type} {enc : α → List Value} {sz : Nat} (h : ∀ x, (enc x).length = sz) (l : List α) : (l.flatMap enc).length = l.length * sz := by
  induction l with
  | nil => simp
  | cons a r ih => rw [List.flatMap_cons, List.length_append, ih, h, List.length_cons, Nat.succ_mul]; omega
theorem flat_at {α : Type} {enc : α → List Value} {sz : Nat} (hsz : 0 < sz) (h : ∀ x, (enc x).length = sz) : ∀ (l : List α) (j : Nat) (u : Value), (l.flatMap enc)[j]? = some u → ∃ x, l[j / sz]? = some x ∧ (enc x)[j % sz]? = some u
  | [], j, u, hu => by simp at hu
  | a :: r, j, u, hu => by
    rw [List.flatMap_cons] at hu
    rcases Nat.lt_or_ge j sz with hj | hj
    · rw [List.getElem?_append_left (by rw [h]; exact hj)] at hu
      exact ⟨a, by rw [Nat.div_eq_of_lt hj]; rfl, by rw [Nat.mod_eq_of_lt hj]; exact hu⟩
    · rw [List.getElem?_append_right (by rw [h]; exact hj), h] at hu
      obtain ⟨x, h1, h2⟩ := flat_at hsz h r (j - sz) u hu
      have e1 : j = (j - sz) + sz := by omega
      refine ⟨x, ?_, ?_⟩
      · rw [e1, Nat.add_div_right _ hsz]; simpa using h1
      · rw [e1, Nat.add_mod_right]; exact h2

/-- 'append(dst, src...)' of a list -/
theorem wp_apps {α : Type} {enc : α → List Value} {P : Program} {t e : TypeId} {sz bytes : Nat} (E : ElemOk P t e sz bytes) {ops : Array Oper} {rest : List Oper} {o : Oper} {a : Act} {Q : Exit → Act → World → Prop} {w : World}
    (hgd : o.guard = none) (s x : Operand) (ho : o.op = .call { callee := .builtin .append, args := #[s, x], argTypes := #[t, t] })
    (base : Nat) (v : Value) (l : List α) (A : Option Addr) (m c : Nat) (l2 : List α) (hs : a.eval s = v) (hx : a.eval x = .slice A m c) (hl2 : Sl enc sz w A m l2) (hz : A = none → c = 0)
    (hlen : ∀ x, (enc x).length = sz) (h1 : ∀ x, ∀ u ∈ enc x, u.oneCell' = true)
    (hown : Own enc e sz w base v l) (hll : l.length + m < 4294967296) (hby : bytes ≤ 4096) (hbase : base ≤ w.heap.size)
    (h : ∀ v' w', Own enc e sz w' base v' (l ++ l2) → w.grownBy w' v.ownBlock → Below base w w' → wpList P ops Q rest (a.put o.dst v') w') :
    wpList P ops Q (o :: rest) a w := by
  obtain ⟨i, z, hi, hzz, hsize, hbytes, hzs⟩ := E.info
  cases A with
  | none =>
    have hc := hz rfl
    subst hc
    have hm : m = 0 := by
      rcases Nat.eq_zero_or_pos m with h0 | h0
      · exact h0
      · obtain ⟨b, off, hA, _⟩ := hl2.2 h0; cases hA
    subst hm
    have hl0 : l2 = [] := List.eq_nil_of_length_eq_zero hl2.1
    subst hl0
    refine wpList_append_own_none hgd s x t ho base e i sz E.sl hi v l.length (l.flatMap enc) hs hown hx ?_
    exact h v w (by rw [List.append_nil]; exact hown) (World.grownBy.refl w _) (Below.refl _ _)
  | some ad =>
    refine wpList_append_own w hgd s x t ho base e i z sz bytes E.sl hi hzz hsize hbytes hzs E.pos v l.length (l.flatMap enc) hs hown ad m c (l2.flatMap enc) hx (by rw [flat_len hlen, hl2.1]) ?_ ?_ (by unfold maxLen; omega) ?_ hbase ?_
    · intro j u hu
      obtain ⟨y, hy, hu2⟩ := flat_at E.pos hlen l2 j u hu
      have hlt := (List.getElem?_eq_some_iff.1 hy).1
      obtain ⟨b, off, hA, hc⟩ := hl2.2 (hl2.1 ▸ Nat.lt_of_le_of_lt (Nat.zero_le _) hlt)
      cases hA
      have := hc _ y hy _ u hu2
      rw [Addr.add_lit]
      have e1 : off + j / sz * sz + j % sz = off + j := by rw [Nat.add_assoc, Nat.div_add_mod']
      rw [e1] at this
      exact this
    · intro u hu
      obtain ⟨y, hy, hu2⟩ := List.mem_flatMap.1 hu
      exact h1 y u hu2
    · calc (l.length + m) * bytes ≤ 4294967296 * 4096 := Nat.mul_le_mul (by omega) hby
        _ ≤ 140737488355328 := by omega
    · intro v' w' hown' hg _
      refine h v' w' ?_ hg ((Below.refl _ _).grown hg hbase (fun k hk => (Own.lt hown k hk).1))
      have e2 : (l ++ l2).flatMap enc = l.flatMap enc ++ l2.flatMap enc := by simp
      unfold Own
      rw [e2, List.length_append, hl2.1]
      exact hown'
/-- the first place of a number, -1 if it has none -/
def placeI (l : List Int) (x : Int) : Int := if x ∈ l then (l.idxOf x : Int) else -1
theorem placeI_neg (l : List Int) (x : Int) : (placeI l x < 0) = (x ∉ l) := by
  unfold placeI
  by_cases h : x ∈ l
  · simp [h]
  · simp [h]
theorem placeI_at {l : List Int} {k : Nat} {x : Int} (hk : l[k]? = some x) (hn : (l.take k).contains x = false) : placeI l x = k := by
  have hin : x ∈ l := List.mem_of_getElem? hk
  have hlt := (List.getElem?_eq_some_iff.1 hk).1
  unfold placeI
  rw [if_pos hin]
  rw [List.contains_eq_mem, decide_eq_false_iff_not] at hn
  have e : l = l.take k ++ x :: l.drop (k + 1) := by
    have h1 := (List.take_append_drop k l).symm
    rw [List.drop_eq_getElem_cons hlt] at h1
    have h2 := (List.getElem?_eq_some_iff.1 hk).2
    rw [h2] at h1
    exact h1
  rw [e, List.idxOf_append, if_neg hn, List.idxOf_cons_self, List.length_take]
  omega
end Go.Proofs.YtoidaigiejilcaaDoor

namespace Go.Proofs.YtoidaigiejilcaaDoor
open Go.RowKit
set_option linter.unusedVariables false
set_option linter.unusedSimpArgs false

/-- a register of the call's own, that reads as t, l -/
def RegIs (base : Nat) (t : Int) (l : List Mk) (e : Ending) (w' : World) : Prop := ∃ A c, e = .returned (.agg #[.int .i64 t, .slice A l.length c]) ∧ OwnM w' base (.slice A l.length c) l ∧ Marks w' A l.length l ∧ l.length ≤ c ∧ c ≤ maxLen ∧ (A = none → c = 0)

theorem own_shape {α : Type} {enc : α → List Value} {e : TypeId} {sz : Nat} {w : World} {base : Nat} {v : Value} {l : List α} (h : Own enc e sz w base v l) (henc : ∀ x, (enc x).length = sz) :
    ∃ A c, v = .slice A l.length c ∧ Sl enc sz w A l.length l ∧ l.length ≤ c ∧ c ≤ maxLen ∧ (A = none → c = 0) := by
  rcases h.2 with ⟨hv, h0⟩ | ⟨g, cap, cur, hv, hg, hh, hnc, hcm, r⟩
  · have hl : l = [] := List.eq_nil_of_length_eq_zero h0
    subst hl
    exact ⟨none, 0, hv, Sl.nil_, Nat.le_refl _, Nat.zero_le _, fun _ => rfl⟩
  · subst hv
    exact ⟨_, cap, rfl, Sl.of_own (fun x _ => henc x) h rfl, hnc, hcm, fun h => by cases h⟩

set_option maxRecDepth 100000 in
set_option maxHeartbeats 2000000 in
theorem sameRegisters_any (t u : Int) (A : Option Addr) (n c : Nat) (l : List Mk) (B : Option Addr) (m d : Nat) (k2 : List Mk) (w : World) (hl : Marks w A n l) (hk : Marks w B m k2) (hn : n ≤ maxLen) (hm : m ≤ maxLen) :
    Calls Tryd.prog 10 #[.agg #[.int .i64 t, .slice A n c], .agg #[.int .i64 u, .slice B m d]] w fun e w' => e = .returned (.bool (decide (t = u) && sameL l k2)) ∧ Below w.heap.size w w' := by
  have HN := Lib.hid (And.intro hl.len hk.len)
  unfold maxLen at hn hm
  obtain ⟨W, hW⟩ : ∃ W, W = (w.alloc (Obj.cells #[Value.int .i64 t, .slice A n c] 26)).alloc (Obj.cells #[Value.int .i64 u, .slice B m d] 26) := ⟨_, rfl⟩
  have hB : Below w.heap.size w W := by rw [hW]; exact bal (bal0 w _) (Nat.le_refl _) _
  have b0 : W.heap[w.heap.size]? = some (Obj.cells #[Value.int .i64 t, .slice A n c] 26 (0, 0)) := by rw [hW]; exact hblk_alloc (alloc_at rfl) _
  have b1 : W.heap[w.heap.size + 1]? = some (Obj.cells #[Value.int .i64 u, .slice B m d] 26 (0, 0)) := by rw [hW]; exact alloc_at (by simp)
  have HL := Lib.hid (And.intro (hl.below hB (Nat.le_refl _)) (hk.below hB (Nat.le_refl _)))
  obtain ⟨r0, r1⟩ := blk2 b0
  obtain ⟨q0, q1⟩ := blk2 b1
  have z1 := heap_lt b1
  have HB := Lib.hid hB
  clear hl hk hB b0 b1
  by_cases htu : t = u
  · subst htu
    have ht : (t != t) = false := by simp
    by_cases hnm : n = m
    · subst hnm
      have h0 : (n != n) = false := by simp
      have h0' : ((n : Int) != (n : Int)) = false := by simp
      go_enter Tryd.func10, Tryd.ntmps10
      go_upto_region 1 with (fail)
      rw [← hW]
      clear hW
      go_wp2_with fail
      go_loopg [5] n (fun g i wr => ∃ k : Nat, k + g = n ∧ i = .int .i64 k ∧ l.take k = k2.take k ∧ ∃ q, wr = W.drewN q)
      case atStart => exact ⟨0, by omega, rfl, by simp, 0, rfl⟩
      case round =>
        obtain ⟨k, hk, rfl, htk, q, rfl⟩ := hrel
        have HK := Lib.hid (And.intro hk htk)
        have hkn : k ≤ n := by omega
        clear hk htk
        by_cases hlt : k < n
        · obtain ⟨b, off, x, rfl, hb, hx, p0, p1, p2⟩ := Marks.get HL.out.1 hlt
          obtain ⟨b', off', y, rfl, hb', hy, s0, s1, s2⟩ := Marks.get HL.out.2 hlt
          have HXY := Lib.hid (And.intro hx hy)
          clear hx hy
          have i0 : (0 : Int) ≤ (k : Int) := by omega
          have i1 : (k : Int) < (n : Int) := by omega
          by_cases hxy : x = y
          · subst hxy
            go_upto_region 6 with (fail)
            go_quiet (fail)
            go_wp2
            go_roundg (gk - 1)
            case measure => have := HK.out.1; omega
            case rel => exact ⟨k + 1, by have := HK.out.1; omega, by go_num, take_eq_snoc HK.out.2 HXY.out.1 HXY.out.2 rfl, _, rfl⟩
          · have HNE := Lib.hid hxy
            cases e1 : (x.n == y.n) <;> cases e2 : (x.b == y.b) <;> cases e3 : (x.p == y.p)
            case true.true.true =>
              exfalso
              exact hxy (by cases x; cases y; simp at e1 e2 e3; simp [e1, e2, e3])
            all_goals
              clear hxy
              go_upto_region 6 with (fail)
              go_quiet (fail)
              go_wp2
              go_ret
              exact ⟨ret_bool (by unfold sameL; rw [decide_eq_false (ne_of_at HXY.out.1 HXY.out.2 HNE.out)]; simp), below_drewN (below_drewN HB.out _) _⟩
        · obtain rfl : k = n := by omega
          go_wp2
          go_ret
          refine ⟨ret_bool ?_, below_drewN HB.out _⟩
          have h := HK.out.2
          rw [List.take_of_length_le (by rw [HN.out.1]; omega), List.take_of_length_le (by rw [HN.out.2]; omega)] at h
          unfold sameL
          rw [decide_eq_true h]
          simp
    · have h0 : (n != m) = true := by simpa using hnm
      have h0' : ((n : Int) != (m : Int)) = true := by simp; omega
      have HE := Lib.hid hnm
      clear hnm
      go_enter Tryd.func10, Tryd.ntmps10
      go_upto_region 1 with (fail)
      rw [← hW]
      clear hW
      go_wp2
      go_ret
      have hne : ¬ l = k2 := fun h => HE.out (by rw [← HN.out.1, ← HN.out.2, h])
      exact ⟨ret_bool (by unfold sameL; rw [decide_eq_false hne]; simp), HB.out⟩
  · have ht : (t != u) = true := by simpa using htu
    have HE := Lib.hid htu
    clear htu
    go_enter Tryd.func10, Tryd.ntmps10
    go_upto_region 1 with (fail)
    rw [← hW]
    clear hW
    go_wp2
    go_ret
    exact ⟨ret_bool (by rw [decide_eq_false HE.out]; simp), HB.out⟩
end Go.Proofs.YtoidaigiejilcaaDoor
