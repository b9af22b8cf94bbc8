/- mestakit.Picks.
   mestaref03.Lists. -/
import Derived.Test.YtoidaigiejilcaaWords
import Derived.Test.YtoidaigiejilcaaLawK
namespace Go.Proofs.Ytoidaigiejilcaa
open Go.RowKit
set_option linter.unusedVariables false
set_option linter.unusedSimpArgs false

def picksTo (n m a k : Nat) : List (List Int) := (List.range' a k).flatMap fun (i : Nat) => (picksL n (i + 1) m).map fun r => (i : Int) :: r
theorem picksTo_succ (n m a k : Nat) : picksTo n m a (k + 1) = picksTo n m a k ++ (picksL n (a + k + 1) m).map fun r => ((a + k : Nat) : Int) :: r := by
  unfold picksTo; rw [List.range'_1_concat, List.flatMap_append]; simp
theorem picks_len {n : Nat} (hn : n ≤ 6) : ∀ (m a : Nat), (picksL n a m).length ≤ 6 ^ m
  | 0, a => by simp [picksL]
  | m + 1, a => by
    have key : ∀ k, (picksTo n m a k).length ≤ k * 6 ^ m := by
      intro k
      induction k with
      | zero => simp [picksTo]
      | succ k ih =>
        rw [picksTo_succ, List.length_append, List.length_map, Nat.succ_mul]
        have := picks_len hn m (a + k + 1)
        omega
    have h1 : (picksL n a (m + 1)).length = (picksTo n m a (n - a)).length := rfl
    have h2 := key (n - a)
    have h3 : (n - a) * 6 ^ m ≤ 6 * 6 ^ m := Nat.mul_le_mul_right _ (by omega)
    rw [h1, Nat.pow_succ, Nat.mul_comm (6 ^ m)]
    omega
theorem picksTo_len {n : Nat} (hn : n ≤ 6) (m a : Nat) : ∀ k, (picksTo n m a k).length ≤ k * 6 ^ m
  | 0 => by simp [picksTo]
  | k + 1 => by
    rw [picksTo_succ, List.length_append, List.length_map, Nat.succ_mul]
    have := picks_len hn m (a + k + 1)
    have := picksTo_len hn m a k
    omega
theorem pow6_le {m : Nat} (hm : m ≤ 6) : 6 ^ m ≤ 46656 := by
  have := Nat.pow_le_pow_right (n := 6) (by omega) hm
  simpa using this

/-- 'out = append(out, row)': with where the new slice lies -/
theorem wp_app_row2 {ops : Array Oper} {rest : List Oper} {o : Oper} {a : Act} {Q : Exit → Act → World → Prop} {w : World}
    (hgd : o.guard = none) (s x : Operand) (ho : o.op = .call { callee := .builtin .append, args := #[s, x], argTypes := #[34, 34] })
    (base : Nat) (v u : Value) (ls : List (List Int)) (l : List Int) (hs : a.eval s = v) (hx : a.eval x = .slice (some ⟨w.heap.size, 0, none⟩) 1 1)
    (hown : OwnG w base v ls) (hu : OwnI w base u l) (hll : ls.length < 4294967296) (hbase : base ≤ w.heap.size)
    (h : ∀ v' w', OwnG w' base v' (ls ++ [l]) → Below base w w' → w.grownBy w' v.ownBlock → (∀ k, v'.ownBlock = some k → v.ownBlock = some k ∨ w.heap.size ≤ k) → wpList Try.prog ops Q rest (a.put o.dst v') w') :
    wpList Try.prog ops Q (o :: rest) a (w.alloc (.cells #[u] 22)) := by
  obtain ⟨mv, h1, h2⟩ := hown
  have h1u : u.oneCell' = true := by
    rcases hu.2 with ⟨rfl, _⟩ | ⟨g, cap, cur, rfl, _⟩ <;> rfl
  obtain ⟨i, z, hi, hz, hsize, hbytes, hzs⟩ := okInts.info
  refine wpList_append_lies _ hgd s x _ ho base _ i z 1 24 okInts.sl hi hz hsize hbytes hzs (by decide) v mv.length (mv.flatMap eVal) hs (World.ownsRow.alloc h1 _) ⟨w.heap.size, 0, none⟩ 1 1 (eVal u) hx rfl ?_ (one_eVal h1u) (by omega) (by rw [h2.1]; unfold maxLen; omega) (by rw [h2.1]; omega) (by simp; omega) (w.heap.size + 1) (by simp) ?_
  · exact World.news_of_block (heap_alloc_new w _)
  · intro g' cap w' hown' hgr hlies _
    have hg0 : w.grownBy w' v.ownBlock := ⟨hgr.os, hgr.tape, hgr.output, Nat.le_trans (by simp) hgr.size, fun k hk hne => (hgr.block k (by simp; omega) hne).trans (Below.heap_alloc _ _ _ hk)⟩
    have ho' : Own eVal 22 1 w' base (.slice (some ⟨g', 0, none⟩) (mv.length + 1) cap) (mv ++ [u]) := by
      have e2 : (mv ++ [u]).flatMap eVal = mv.flatMap eVal ++ eVal u := by simp
      unfold Own
      rw [e2, List.length_append]
      exact hown'
    refine h _ _ (OwnG.snoc h1 h2 hu ho' hg0) ((Below.refl _ _).grown hg0 hbase (fun k hk => (Own.lt h1 k hk).1)) hg0 fun k hk => ?_
    simp only [Value.ownBlock, Option.some.injEq] at hk
    subst hk
    rcases hlies with h | h
    · exact .inl h
    · exact .inr (by omega)
/-- a slice of slices whose blocks lie in a zone that is as it was -/
theorem OwnG.zone {w w' : World} {base : Nat} {v : Value} {ls : List (List Int)} (h : OwnG w base v ls) (k : ∀ j, base ≤ j → j < w.heap.size → w'.heap[j]? = w.heap[j]?) : OwnG w' base v ls := by
  have key : ∀ {α : Type} {enc : α → List Value} {t : TypeId} {s : Nat} {x : Value} {l : List α}, Own enc t s w base x l → Own enc t s w' base x l := fun {α enc t s x l} h => by
    refine ⟨h.1, ?_⟩
    rcases h.2 with h2 | ⟨g, cap, cur, hv, hg, hh, r⟩
    · exact .inl h2
    · exact .inr ⟨g, cap, cur, hv, hg, (k g hg (heap_lt hh)).trans hh, r⟩
  obtain ⟨mv, h1, h2, h3⟩ := h
  exact ⟨mv, key h1, h2, fun i v hv => by
    obtain ⟨l, hl, ho⟩ := h3 i v hv
    exact ⟨l, hl, key ho⟩⟩
/-- the blocks of a call are as they were, and a slice lies elsewhere -/
def Zone (lo hi : Nat) (w1 w : World) (v : Value) : Prop := (∀ j, lo ≤ j → j < hi → w.heap[j]? = w1.heap[j]?) ∧ ∀ k, v.ownBlock = some k → k < lo ∨ hi ≤ k

theorem OwnG.lt {w : World} {base : Nat} {v : Value} {ls : List (List Int)} (h : OwnG w base v ls) : ∀ k, v.ownBlock = some k → base ≤ k ∧ k < w.heap.size := by
  obtain ⟨mv, h1, _⟩ := h
  exact Own.lt h1

set_option maxRecDepth 100000 in
set_option maxHeartbeats 2000000 in
theorem picks_any (n : Nat) (hn : n ≤ 6) : ∀ (m a : Nat), m ≤ 6 → a ≤ n → ∀ w : World,
    Calls Try.prog 20 #[.int .i64 a, .int .i64 n, .int .i64 m] w fun e w' => ∃ v, e = .returned v ∧ OwnG w' w.heap.size v (picksL n a m) ∧ Below w.heap.size w w'
  | 0, a, _, _, w => by
    go_enter Try.func20, Try.ntmps20
    go_wp2
    go_ret
    exact ⟨_, rfl, OwnG.one w _ (Nat.le_refl _), bal0 w _⟩
  | m + 1, a, hm, han, w => by
    have ih := fun b (hb : b ≤ n) w => picks_any n hn m b (by omega) hb w
    have IH := Lib.hid ih
    have e1 : ((m + 1 : Nat) : Int) = (m : Int) + 1 := by omega
    rw [e1]
    clear ih e1
    go_enter Try.func20, Try.ntmps20
    have hm0 : (((m : Int) + 1) == 0) = false := by rw [beq_eq_false_iff_ne]; omega
    go_wp2_with fail
    go_loopg [7, 8] (n - a) (fun g v i wr => ∃ k : Nat, k + g = n - a ∧ i = .int .i64 ((a + k : Nat) : Int) ∧ OwnG wr w.heap.size v (picksTo n m a k) ∧ Below w.heap.size w wr)
    case atStart => exact ⟨0, by omega, rfl, OwnG.nil_, Below.refl _ _⟩
    case round =>
      obtain ⟨k, hk, rfl, hog, hbr⟩ := hrel
      have HK := Lib.hid (And.intro hk (And.intro hog hbr))
      have hkn : k ≤ n - a := by omega
      obtain ⟨g1, rfl⟩ : ∃ g1 : Nat, g1 = gk := ⟨_, rfl⟩
      obtain ⟨wo, rfl⟩ : ∃ wo : World, wo = wr := ⟨_, rfl⟩
      have hso := hbr.size
      obtain ⟨b, hb⟩ : ∃ b, b = a + k := ⟨_, rfl⟩
      rw [← hb]
      have HB := Lib.hid hb
      have hbn : b ≤ n := by omega
      clear hk hog hbr
      by_cases hlt : b < n
      · have hlt' : (b : Int) < (n : Int) := by omega
        obtain ⟨R, hR⟩ : ∃ R, R = picksL n (b + 1) m := ⟨_, rfl⟩
        have HR := Lib.hid hR
        have hlen : R.length ≤ 46656 := by rw [hR]; exact Nat.le_trans (picks_len hn m _) (pow6_le (by omega))
        have C := IH.out (b + 1) (by omega) wo
        rw [← hR] at C
        have HC := Lib.hid C
        have e1 : IntKind.i64.wrap ((b : Int) + 1) = ((b + 1 : Nat) : Int) := by rw [IntWalk.i64_in _ (by omega)]; simp
        have hcast : ((b + 1 : Nat) : Int) = (b : Int) + 1 := by simp
        rw [hcast] at HC
        clear hb hR C hcast e1
        go_wp2_with fail
        (with_reducible refine HC.out.mono ?_)
        rintro e w1 ⟨v1, rfl, ho1, hb1⟩
        have HO := Lib.hid (And.intro ho1 (And.intro hb1 (HK.out.2.2.trans (hb1.mono hso))))
        have HKO := Lib.hid (HK.out.2.1.below hb1 (Nat.le_refl _))
        have HKV := Lib.hid (fun (k : Nat) hk => (HK.out.2.1.lt k hk).2)
        obtain ⟨A1, c1, rfl, -, hc1, hx1⟩ := ho1.form
        have hs1 := hb1.size
        have hRm : R.length ≤ 9223372036854775807 := by omega
        clear ho1 hb1
        go_wp2_with fail
        go_loopg [7, 10] R.length (fun g v i wr => ∃ q : Nat, q + g = R.length ∧ i = .int .i64 q ∧ OwnG wr w.heap.size v (picksTo n m a k ++ (R.take q).map fun r => (b : Int) :: r) ∧ Zone wo.heap.size w1.heap.size w1 wr v ∧ w1.heap.size ≤ wr.heap.size ∧ Below w.heap.size w wr)
        case atStart => exact ⟨0, by omega, rfl, by simpa using HKO.out, ⟨fun j _ _ => rfl, fun k hk => .inl (HKV.out k hk)⟩, Nat.le_refl _, HO.out.2.2⟩
        case round =>
          obtain ⟨q, hq, rfl, hog, hzn, hs1r, hbr⟩ := hrel
          have HQ := Lib.hid (And.intro hq (And.intro hog (And.intro hzn hbr)))
          have hqn : q ≤ R.length := by omega
          have hsr := hbr.size
          have hrr := HO.out.1.zone (w' := wr) hzn.1
          clear hq hog hzn
          by_cases hlq : q < R.length
          · obtain ⟨bb, off, cap, B, r, c, hv, hr, hc, hri, hrc, hrm, hrz⟩ := hrr.get hlq
            obtain ⟨rfl, rfl⟩ : A1 = some ⟨bb, off, none⟩ ∧ c1 = cap := by simpa using hv
            have HX := Lib.hid (And.intro hr hri)
            have hbl : bb < wr.heap.size := cell_lt hc
            have i0 : (0 : Int) ≤ (q : Int) := by omega
            have i1 : (q : Int) < (R.length : Int) := by omega
            have hrlen : r.length ≤ 6 := by have := (picks_mem (HR.out ▸ List.mem_of_getElem? hr)).2; omega
            have hll : (picksTo n m a k ++ (R.take q).map fun r => (b : Int) :: r).length < 4294967296 := by
              rw [List.length_append, List.length_map, List.length_take]
              have h1 := picksTo_len hn m a k
              have h2 : k * 6 ^ m ≤ 6 * 46656 := Nat.mul_le_mul (by omega) (pow6_le (by omega))
              omega
            have hbc : Below wr.heap.size wr (wr.alloc (Obj.cells #[Value.int .i64 (b : Int)] 3)) := bal0 wr _
            have HL := Lib.hid (And.intro (HX.out.2.below hbc (Nat.le_refl _)) (Own.lit (enc := eInt) (e := 3) wr wr.heap.size #[Value.int .i64 (b : Int)] [(b : Int)] rfl lenInt (Nat.le_refl _) (by simp [maxLen])))
            have HZ := Lib.hid hrz
            have HBC := Lib.hid hbc
            clear hv hr hri hbr hbc hrz hrr
            go_wp2_with (first
              | (at_builtin; refine wp_apps okInt rfl (.tmp 34) (.tmp 38) rfl wr.heap.size (.slice (some ⟨wr.heap.size, 0, none⟩) 1 1) [(b : Int)] B r.length c r rfl rfl HL.out.1 HZ.out lenInt one_eInt HL.out.2 ?_ ?_ ?_ ?_; (simp; omega); (omega); (simp); intro v5 w5 hown5 hgr5 hb5; obtain ⟨A5, c5, hv5, hs5, hc5, hm5, hz5⟩ := own_shape hown5 lenInt; rw [hv5]; have hws : w.heap.size ≤ w5.heap.size := (by have := hb5.size; simp at this; omega); have H5 := Lib.hid (And.intro (hv5 ▸ hown5) (HBC.out.trans hb5)); clear hown5 hgr5 hb5 hs5 hc5 hm5 hz5 hv5)
              | (at_builtin; refine wp_app_row2 rfl (.tmp 32) (.tmp 40) rfl w.heap.size _ (.slice A5 ([(b : Int)] ++ r).length c5) (picksTo n m a k ++ (R.take q).map fun r => (b : Int) :: r) ([(b : Int)] ++ r) rfl ?_ (HQ.out.2.1.below H5.out.2 (Nat.le_refl _)) (H5.out.1.mono hsr) hll hws ?_; (simp [go_sem]); intro v6 w6 hog6 hb6 hg6 hk6; have H6 := Lib.hid (And.intro hog6 (And.intro hb6 (And.intro hg6 hk6))); clear hog6 hb6 hg6 hk6))
            go_roundg (gk - 1)
            case measure => have := HQ.out.1; omega
            case rel =>
              have hs5 := H5.out.2.size
              have hs6 := H6.out.2.1.size
              refine ⟨q + 1, by have := HQ.out.1; omega, by go_num, ?_, ⟨fun j hj1 hj2 => ?_, fun k hk => ?_⟩, by omega, (HQ.out.2.2.2.trans (H5.out.2.mono hsr)).trans H6.out.2.1⟩
              · have h := H6.out.1
                rw [List.take_add_one, HX.out.1]
                simpa [List.append_assoc] using h
              · rw [H6.out.2.2.1.block j (by omega) (fun e => by rcases HQ.out.2.2.1.2 j e.symm with h | h <;> omega), H5.out.2.block j (by omega)]
                exact HQ.out.2.2.1.1 j hj1 hj2
              · rcases H6.out.2.2.2 k hk with h | h
                · exact HQ.out.2.2.1.2 k h
                · exact .inr (by omega)
          · obtain rfl : q = R.length := by omega
            go_wp2
            go_roundg (g1 - 1)
            case measure => have := HK.out.1; have := HB.out; omega
            case rel =>
              refine ⟨k + 1, by have := HK.out.1; have := HB.out; omega, by have := HB.out; rw [show a + (k + 1) = b + 1 by omega]; go_num, ?_, HQ.out.2.2.2⟩
              have := HQ.out.2.1
              rw [List.take_of_length_le (Nat.le_refl _), HR.out, HB.out] at this
              rw [picksTo_succ]
              exact this
      · go_wp2
        go_ret
        refine ⟨_, rfl, ?_, HK.out.2.2⟩
        have h := HK.out.2.1
        rw [show k = n - a by have := HB.out; omega] at h
        exact h
end Go.Proofs.Ytoidaigiejilcaa

namespace Go.Proofs.Ytoidaigiejilcaa
open Go.RowKit
set_option linter.unusedVariables false
set_option linter.unusedSimpArgs false

set_option maxRecDepth 100000 in
set_option maxHeartbeats 2000000 in
theorem lists_any (n : Nat) (hn : n ≤ 6) : ∀ (m a : Nat), m ≤ 6 → a ≤ n → ∀ w : World,
    Calls Try.prog 84 #[.int .i64 a, .int .i64 n, .int .i64 m] w fun e w' => ∃ v, e = .returned v ∧ OwnG w' w.heap.size v (picksL n a m) ∧ Below w.heap.size w w'
  | 0, a, _, _, w => by
    go_enter Try.func84, Try.ntmps84
    go_wp2
    go_ret
    exact ⟨_, rfl, OwnG.one w _ (Nat.le_refl _), bal0 w _⟩
  | m + 1, a, hm, han, w => by
    have ih := fun b (hb : b ≤ n) w => lists_any n hn m b (by omega) hb w
    have IH := Lib.hid ih
    have e1 : ((m + 1 : Nat) : Int) = (m : Int) + 1 := by omega
    rw [e1]
    clear ih e1
    go_enter Try.func84, Try.ntmps84
    have hm0 : (((m : Int) + 1) == 0) = false := by rw [beq_eq_false_iff_ne]; omega
    go_wp2_with fail
    go_loopg [7, 8] (n - a) (fun g v i wr => ∃ k : Nat, k + g = n - a ∧ i = .int .i64 ((a + k : Nat) : Int) ∧ OwnG wr w.heap.size v (picksTo n m a k) ∧ Below w.heap.size w wr)
    case atStart => exact ⟨0, by omega, rfl, OwnG.nil_, Below.refl _ _⟩
    case round =>
      obtain ⟨k, hk, rfl, hog, hbr⟩ := hrel
      have HK := Lib.hid (And.intro hk (And.intro hog hbr))
      have hkn : k ≤ n - a := by omega
      obtain ⟨g1, rfl⟩ : ∃ g1 : Nat, g1 = gk := ⟨_, rfl⟩
      obtain ⟨wo, rfl⟩ : ∃ wo : World, wo = wr := ⟨_, rfl⟩
      have hso := hbr.size
      obtain ⟨b, hb⟩ : ∃ b, b = a + k := ⟨_, rfl⟩
      rw [← hb]
      have HB := Lib.hid hb
      have hbn : b ≤ n := by omega
      clear hk hog hbr
      by_cases hlt : b < n
      · have hlt' : (b : Int) < (n : Int) := by omega
        obtain ⟨R, hR⟩ : ∃ R, R = picksL n (b + 1) m := ⟨_, rfl⟩
        have HR := Lib.hid hR
        have hlen : R.length ≤ 46656 := by rw [hR]; exact Nat.le_trans (picks_len hn m _) (pow6_le (by omega))
        have C := IH.out (b + 1) (by omega) wo
        rw [← hR] at C
        have HC := Lib.hid C
        have e1 : IntKind.i64.wrap ((b : Int) + 1) = ((b + 1 : Nat) : Int) := by rw [IntWalk.i64_in _ (by omega)]; simp
        have hcast : ((b + 1 : Nat) : Int) = (b : Int) + 1 := by simp
        rw [hcast] at HC
        clear hb hR C hcast e1
        go_wp2_with fail
        (with_reducible refine HC.out.mono ?_)
        rintro e w1 ⟨v1, rfl, ho1, hb1⟩
        have HO := Lib.hid (And.intro ho1 (And.intro hb1 (HK.out.2.2.trans (hb1.mono hso))))
        have HKO := Lib.hid (HK.out.2.1.below hb1 (Nat.le_refl _))
        have HKV := Lib.hid (fun (k : Nat) hk => (HK.out.2.1.lt k hk).2)
        obtain ⟨A1, c1, rfl, -, hc1, hx1⟩ := ho1.form
        have hs1 := hb1.size
        have hRm : R.length ≤ 9223372036854775807 := by omega
        clear ho1 hb1
        go_wp2_with fail
        go_loopg [7, 10] R.length (fun g v i wr => ∃ q : Nat, q + g = R.length ∧ i = .int .i64 q ∧ OwnG wr w.heap.size v (picksTo n m a k ++ (R.take q).map fun r => (b : Int) :: r) ∧ Zone wo.heap.size w1.heap.size w1 wr v ∧ w1.heap.size ≤ wr.heap.size ∧ Below w.heap.size w wr)
        case atStart => exact ⟨0, by omega, rfl, by simpa using HKO.out, ⟨fun j _ _ => rfl, fun k hk => .inl (HKV.out k hk)⟩, Nat.le_refl _, HO.out.2.2⟩
        case round =>
          obtain ⟨q, hq, rfl, hog, hzn, hs1r, hbr⟩ := hrel
          have HQ := Lib.hid (And.intro hq (And.intro hog (And.intro hzn hbr)))
          have hqn : q ≤ R.length := by omega
          have hsr := hbr.size
          have hrr := HO.out.1.zone (w' := wr) hzn.1
          clear hq hog hzn
          by_cases hlq : q < R.length
          · obtain ⟨bb, off, cap, B, r, c, hv, hr, hc, hri, hrc, hrm, hrz⟩ := hrr.get hlq
            obtain ⟨rfl, rfl⟩ : A1 = some ⟨bb, off, none⟩ ∧ c1 = cap := by simpa using hv
            have HX := Lib.hid (And.intro hr hri)
            have hbl : bb < wr.heap.size := cell_lt hc
            have i0 : (0 : Int) ≤ (q : Int) := by omega
            have i1 : (q : Int) < (R.length : Int) := by omega
            have hrlen : r.length ≤ 6 := by have := (picks_mem (HR.out ▸ List.mem_of_getElem? hr)).2; omega
            have hll : (picksTo n m a k ++ (R.take q).map fun r => (b : Int) :: r).length < 4294967296 := by
              rw [List.length_append, List.length_map, List.length_take]
              have h1 := picksTo_len hn m a k
              have h2 : k * 6 ^ m ≤ 6 * 46656 := Nat.mul_le_mul (by omega) (pow6_le (by omega))
              omega
            have hbc : Below wr.heap.size wr (wr.alloc (Obj.cells #[Value.int .i64 (b : Int)] 3)) := bal0 wr _
            have HL := Lib.hid (And.intro (HX.out.2.below hbc (Nat.le_refl _)) (Own.lit (enc := eInt) (e := 3) wr wr.heap.size #[Value.int .i64 (b : Int)] [(b : Int)] rfl lenInt (Nat.le_refl _) (by simp [maxLen])))
            have HZ := Lib.hid hrz
            have HBC := Lib.hid hbc
            clear hv hr hri hbr hbc hrz hrr
            go_wp2_with (first
              | (at_builtin; refine wp_apps okInt rfl (.tmp 34) (.tmp 38) rfl wr.heap.size (.slice (some ⟨wr.heap.size, 0, none⟩) 1 1) [(b : Int)] B r.length c r rfl rfl HL.out.1 HZ.out lenInt one_eInt HL.out.2 ?_ ?_ ?_ ?_; (simp; omega); (omega); (simp); intro v5 w5 hown5 hgr5 hb5; obtain ⟨A5, c5, hv5, hs5, hc5, hm5, hz5⟩ := own_shape hown5 lenInt; rw [hv5]; have hws : w.heap.size ≤ w5.heap.size := (by have := hb5.size; simp at this; omega); have H5 := Lib.hid (And.intro (hv5 ▸ hown5) (HBC.out.trans hb5)); clear hown5 hgr5 hb5 hs5 hc5 hm5 hz5 hv5)
              | (at_builtin; refine wp_app_row2 rfl (.tmp 32) (.tmp 40) rfl w.heap.size _ (.slice A5 ([(b : Int)] ++ r).length c5) (picksTo n m a k ++ (R.take q).map fun r => (b : Int) :: r) ([(b : Int)] ++ r) rfl ?_ (HQ.out.2.1.below H5.out.2 (Nat.le_refl _)) (H5.out.1.mono hsr) hll hws ?_; (simp [go_sem]); intro v6 w6 hog6 hb6 hg6 hk6; have H6 := Lib.hid (And.intro hog6 (And.intro hb6 (And.intro hg6 hk6))); clear hog6 hb6 hg6 hk6))
            go_roundg (gk - 1)
            case measure => have := HQ.out.1; omega
            case rel =>
              have hs5 := H5.out.2.size
              have hs6 := H6.out.2.1.size
              refine ⟨q + 1, by have := HQ.out.1; omega, by go_num, ?_, ⟨fun j hj1 hj2 => ?_, fun k hk => ?_⟩, by omega, (HQ.out.2.2.2.trans (H5.out.2.mono hsr)).trans H6.out.2.1⟩
              · have h := H6.out.1
                rw [List.take_add_one, HX.out.1]
                simpa [List.append_assoc] using h
              · rw [H6.out.2.2.1.block j (by omega) (fun e => by rcases HQ.out.2.2.1.2 j e.symm with h | h <;> omega), H5.out.2.block j (by omega)]
                exact HQ.out.2.2.1.1 j hj1 hj2
              · rcases H6.out.2.2.2 k hk with h | h
                · exact HQ.out.2.2.1.2 k h
                · exact .inr (by omega)
          · obtain rfl : q = R.length := by omega
            go_wp2
            go_roundg (g1 - 1)
            case measure => have := HK.out.1; have := HB.out; omega
            case rel =>
              refine ⟨k + 1, by have := HK.out.1; have := HB.out; omega, by have := HB.out; rw [show a + (k + 1) = b + 1 by omega]; go_num, ?_, HQ.out.2.2.2⟩
              have := HQ.out.2.1
              rw [List.take_of_length_le (Nat.le_refl _), HR.out, HB.out] at this
              rw [picksTo_succ]
              exact this
      · go_wp2
        go_ret
        refine ⟨_, rfl, ?_, HK.out.2.2⟩
        have h := HK.out.2.1
        rw [show k = n - a by have := HB.out; omega] at h
        exact h
end Go.Proofs.Ytoidaigiejilcaa
