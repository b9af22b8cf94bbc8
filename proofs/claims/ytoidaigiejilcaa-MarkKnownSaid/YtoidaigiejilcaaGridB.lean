/- A row appended to a slice of slices of the call's own; mestakit.SameGrids. -/
import Derived.Test.YtoidaigiejilcaaGrid
import Derived.Test.YtoidaigiejilcaaKit
namespace Go.Proofs.Ytoidaigiejilcaa
open Go.RowKit
set_option linter.unusedVariables false
set_option linter.unusedSimpArgs false

theorem one_eVal {x : Value} (h : x.oneCell' = true) : ∀ u ∈ eVal x, u.oneCell' = true := by
  intro u hu; simp [eVal] at hu; subst hu; exact h
/-- 'out = append(out, row)': the row is a slice of the call's own -/
theorem wp_app_row {ops : Array Oper} {rest : List Oper} {o : Oper} {a : Act} {Q : Exit → Act → World → Prop} {w : World}
    (hgd : o.guard = none) (s x : Operand) (ho : o.op = .call { callee := .builtin .append, args := #[s, x], argTypes := #[34, 34] })
    (base : Nat) (v u : Value) (ls : List (List Int)) (l : List Int) (hs : a.eval s = v) (hx : a.eval x = .slice (some ⟨w.heap.size, 0, none⟩) 1 1)
    (hown : OwnG w base v ls) (hu : OwnI w base u l) (hll : ls.length < 4294967296) (hbase : base ≤ w.heap.size)
    (h : ∀ v' w', OwnG w' base v' (ls ++ [l]) → Below base w w' → (∀ (k : Nat) cs T, T ≠ 22 → w.heap[k]? = some (.cells cs T (0, 0)) → w'.heap[k]? = some (.cells cs T (0, 0))) → wpList Try.prog ops Q rest (a.put o.dst v') w') :
    wpList Try.prog ops Q (o :: rest) a (w.alloc (.cells #[u] 22)) := by
  obtain ⟨mv, h1, h2⟩ := hown
  have h1u : u.oneCell' = true := by
    rcases hu.2 with ⟨rfl, _⟩ | ⟨g, cap, cur, rfl, _⟩ <;> rfl
  refine wp_appx (P := Try.prog) okInts hgd s x ho base v mv u #[u] hs hx rfl rfl (one_eVal h1u) h1 (by rw [h2.1]; exact hll) (by decide) hbase ?_
  intro g' cap w' ho' hg hb
  refine h _ _ (OwnG.snoc h1 h2 hu ho' hg) hb fun k cs T hT hk => (hg.block k (heap_lt hk) fun e => ?_).trans hk
  rcases h1.2 with ⟨rfl, _⟩ | ⟨g, cap, cur, rfl, _, k2, _⟩
  · cases e
  · simp only [Value.ownBlock, Option.some.injEq] at e
    subst e
    rw [k2] at hk
    cases hk
    exact hT rfl
theorem own_pair (w : World) (base : Nat) (x y : Int) (hb : base ≤ w.heap.size) : OwnI (w.alloc (.cells #[.int .i64 x, .int .i64 y] 3)) base (.slice (some ⟨w.heap.size, 0, none⟩) 2 2) [x, y] :=
  Own.lit w base _ [x, y] rfl lenInt hb (by simp [maxLen])
theorem Grid.len {w : World} {A : Option Addr} {n : Nat} {ls : List (List Int)} (h : Grid w A n ls) : ls.length = n := by
  obtain ⟨mv, h1, h2, _⟩ := h
  rw [← h2]; exact h1.len

set_option maxRecDepth 100000 in
set_option maxHeartbeats 2000000 in
theorem sameGrids_any (A : Option Addr) (n c : Nat) (x : List (List Int)) (B : Option Addr) (m d : Nat) (y : List (List Int)) (w : World) (hx : Grid w A n x) (hy : Grid w B m y) (hn : n ≤ maxLen) (hm : m ≤ maxLen) :
    Calls Try.prog 39 #[.slice A n c, .slice B m d] w fun e w' => e = .returned (.bool (sameL x y)) ∧ Below w.heap.size w w' := by
  have HL := Lib.hid (And.intro hx.len hy.len)
  have HXY := Lib.hid (And.intro hx hy)
  unfold maxLen at hn hm
  clear hx hy
  by_cases hnm : n = m
  · subst hnm
    have h0 : (n != n) = false := by simp
    have h0' : ((n : Int) != (n : Int)) = false := by simp
    go_enter Try.func39, Try.ntmps39
    go_wp2_with fail
    go_loopg [5] n (fun g i wr => ∃ k : Nat, k + g = n ∧ i = .int .i64 k ∧ x.take k = y.take k ∧ Below w.heap.size w wr)
    case atStart => exact ⟨0, by omega, rfl, by simp, Below.refl _ _⟩
    case round =>
      obtain ⟨k, hk, rfl, htk, hbl⟩ := hrel
      have HK := Lib.hid (And.intro hk htk)
      have hkn : k ≤ n := by omega
      clear hk htk
      by_cases hlt : k < n
      · obtain ⟨b0, o0, C0, u, c0, rfl, hb0, hu, p0, hi0, hc0, hm0⟩ := Grid.get (HXY.out.1.below hbl (Nat.le_refl _)) hlt
        obtain ⟨b1, o1, C1, v, c1, rfl, hb1, hv, q0, hi1, hc1, hm1⟩ := Grid.get (HXY.out.2.below hbl (Nat.le_refl _)) hlt
        have i0 : (0 : Int) ≤ (k : Int) := by omega
        have i1 : (k : Int) < (n : Int) := by omega
        have HUV := Lib.hid (And.intro hu hv)
        have hmu : u.length ≤ maxLen := Nat.le_trans hc0 hm0
        have hmv : v.length ≤ maxLen := Nat.le_trans hc1 hm1
        have cS : ∀ d os, Calls Try.prog 16 #[.slice C0 u.length c0, .slice C1 v.length c1] (Sort.grow (redrawn wr d) os) (fun e w'' => e = .returned (.bool (sameL u v)) ∧ ∃ p : Regrown, w'' = Sort.grow (redrawn wr p.d) p.os) := fun d os =>
          Calls.regrown_of (sameInts_any C0 u.length c0 u C1 v.length c1 v _ (hi0.below (below_regrown wr d os) (Nat.le_refl _)) (hi1.below (below_regrown wr d os) (Nat.le_refl _)) hmu hmv)
        clear hu hv hi0 hi1
        cases huv : sameL u v
        all_goals
          rw [huv] at cS
          have HC := Lib.hid cS
          have HE := Lib.hid huv
          clear cS huv
          go_upto_region 6 with (fail)
          have k0 := cell_regrown p0
          have k1 := cell_regrown q0
          refine wp_region_quiet_below (by kernel_rfl) (by kernel_rfl) ?_
          repeat (quiet_step (exact HC.out _ _))
          refine wpQuiet_nil ?_
          intro _ hw'
          obtain ⟨⟨dq, osq⟩, hw''⟩ := hw'
          subst hw''
          obtain ⟨w3, hW1⟩ : ∃ w3, w3 = Sort.grow (redrawn wr dq) osq := ⟨_, rfl⟩
          have hb3 : Below wr.heap.size wr w3 := by rw [hW1]; exact below_regrown wr dq osq
          rw [← hW1]
          have hbl3 := hbl.trans (hb3.mono hbl.size)
          clear hW1 k0 k1 p0 q0
          go_wp2
        · go_ret
          exact ⟨ret_bool (by unfold sameL; rw [decide_eq_false (ne_of_at HUV.out.1 HUV.out.2 (by have := HE.out; unfold sameL at this; simpa using this))]), hbl3⟩
        · go_roundg (gk - 1)
          case measure => have := HK.out.1; omega
          case rel => exact ⟨k + 1, by have := HK.out.1; omega, by go_num, take_eq_snoc HK.out.2 HUV.out.1 HUV.out.2 (by have := HE.out; unfold sameL at this; simpa using this), hbl3⟩
      · obtain rfl : k = n := by omega
        go_wp2
        go_ret
        refine ⟨ret_bool ?_, hbl⟩
        have h1 := HK.out.2
        rw [List.take_of_length_le (by have := HL.out.1; omega), List.take_of_length_le (by have := HL.out.2; omega)] at h1
        unfold sameL
        rw [decide_eq_true h1]
  · have h0' : ((n : Int) != (m : Int)) = true := by simp; omega
    have HNE := Lib.hid hnm
    clear hnm
    go_enter Try.func39, Try.ntmps39
    go_wp2
    go_ret
    refine ⟨ret_bool ?_, Below.refl _ _⟩
    unfold sameL
    rw [decide_eq_false (fun h => HNE.out (by rw [← HL.out.1, ← HL.out.2, h]))]
end Go.Proofs.Ytoidaigiejilcaa
