/- The reference's checkHome and Givings.
   The reference's Givings. -/
import Derived.Test.YtoidaigiejilcaaRefA
import Derived.Test.YtoidaigiejilcaaLawK
import Derived.Test.YtoidaigiejilcaaPicks
import Derived.Test.YtoidaigiejilcaaGather
import Derived.Test.YtoidaigiejilcaaCopyI
import Derived.Deep.RegionHeld3
import Derived.Test.YtoidaigiejilcaaOwn2
namespace Go.Proofs.Ytoidaigiejilcaa
open Go.RowKit
set_option linter.unusedVariables false
set_option linter.unusedSimpArgs false

set_option maxRecDepth 100000 in
set_option maxHeartbeats 2000000 in
theorem rCheckHome (t : Int) (A : Option Addr) (n c : Nat) (l : List Mk) (B : Option Addr) (m cb : Nat) (ss : List Sg) (Ai : Option Addr) (ni ci : Nat) (mis : List Int) (w : World)
    (hl : Marks w A n l) (hlc : n ≤ c) (hcm : c ≤ maxLen) (hss : Sights w B m ss) (hmm : m ≤ maxLen) (hmi : Ints w Ai ni mis) (hni : ni ≤ maxLen) :
    Calls Try.prog 82 #[.agg #[.int .i64 t, .slice A n c], .slice B m cb, .slice Ai ni ci] w fun e w' => e = .returned (.int .i64 (gatherE t l ss mis)) ∧ Below w.heap.size w w' := by
  have HL := Lib.hid (And.intro hl (And.intro hss hmi))
  have HN := Lib.hid (And.intro hl.len (And.intro hss.len hmi.len))
  have hnc : n ≤ maxLen := Nat.le_trans hlc hcm
  unfold maxLen at hmm hni hnc
  obtain ⟨R, hR⟩ : ∃ R, R = gatherE t l ss mis := ⟨_, rfl⟩
  rw [← hR]
  have HR := Lib.hid hR
  clear hl hss hmi hR
  go_enter Try.func82, Try.ntmps82
  go_upto_region 1 with (fail)
  obtain ⟨W, hW⟩ : ∃ W, W = w.alloc (Obj.cells #[Value.int .i64 t, .slice A n c] 25) := ⟨_, rfl⟩
  rw [← hW]
  have hb0 : Below w.heap.size w W := by rw [hW]; exact bal0 w _
  have bW : W.heap[w.heap.size]? = some (Obj.cells #[Value.int .i64 t, .slice A n c] 25 (0, 0)) := by rw [hW]; exact alloc_at rfl
  obtain ⟨r0, r1⟩ := blk2 bW
  have hlW := heap_lt bW
  have HW := Lib.hid (And.intro bW hb0)
  clear hW hb0 bW
  go_wp2_with fail
  refine (rCheck t A n c l _ (HL.out.1.below HW.out.2 (Nat.le_refl _)) hlc hcm).mono ?_
  rintro e w1 ⟨rfl, hb1⟩
  have hB1 := HW.out.2.trans (hb1.mono HW.out.2.size)
  have b1 := bheap HW.out.1 hb1 (Nat.le_refl _)
  clear r0 r1
  by_cases hck : check t l = 0
  · have h0 : (check t l != 0) = false := by simp [hck]
    have HC := Lib.hid hck
    clear hck
    by_cases h6 : m ≤ 6
    · have h6' : ¬ (6 : Int) < (m : Int) := by omega
      have HB1 := Lib.hid (And.intro hB1 b1)
      have hs1 := hB1.size
      clear hB1 b1 hb1
      go_wp2_with fail
      clear h0
      go_loopg [8] m (fun g i wr => ∃ k : Nat, k + g = m ∧ i = .int .i64 k ∧ (∀ (i : Nat) x, i < k → ss[i]? = some x → seen x 9 6 = 0) ∧ Below w1.heap.size w1 wr)
      case atStart => exact ⟨0, by omega, rfl, fun i x hi => by omega, Below.refl _ _⟩
      case round =>
        obtain ⟨k, hk, rfl, hok, hbl⟩ := hrel
        have hBr := HB1.out.1.trans (hbl.mono hs1)
        have HK := Lib.hid (And.intro hk (And.intro hok (And.intro hbl hBr)))
        have hkm : k ≤ m := by omega
        have hz := hbl.size
        clear hk hok
        by_cases hlt : k < m
        · obtain ⟨b, off, x, rfl, hb, hx, q0, q1, q2, q3, q4⟩ := Sights.get (HL.out.2.1.below hBr (Nat.le_refl _)) hlt
          have HX := Lib.hid hx
          have i0 : (0 : Int) ≤ (k : Int) := by omega
          have i1 : (k : Int) < (m : Int) := by omega
          clear hx hbl hBr
          obtain ⟨S, hS⟩ : ∃ S, S = seen x 9 6 := ⟨_, rfl⟩
          have C := rCheckSight x wr
          rw [← hS] at C
          unfold vSg at C
          have HCC := Lib.hid C
          have HS := Lib.hid hS
          clear C hS
          go_wp2_with fail
          (with_reducible refine HCC.out.mono ?_)
          rintro e w2 ⟨rfl, hb2⟩
          have HB2 := Lib.hid (HK.out.2.2.1.trans (hb2.mono hz))
          clear hb2 q0 q1 q2 q3 q4
          by_cases hse : S = 0
          · subst hse
            go_wp2
            go_roundg (gk - 1)
            case measure => have := HK.out.1; omega
            case rel =>
              refine ⟨k + 1, by have := HK.out.1; omega, by go_num, fun i y hi hy => ?_, HB2.out⟩
              by_cases hik : i = k
              · subst hik
                obtain rfl : x = y := Option.some.inj (HX.out.symm.trans hy)
                exact HS.out.symm
              · exact HK.out.2.1 i y (by omega) hy
          · have h1 : (S != 0) = true := by simp [hse]
            have HRS := Lib.hid (show R = S by
              have h2 := sightsE_bad HK.out.2.1 HX.out (by rw [← HS.out]; exact hse)
              rw [HR.out, HS.out]
              unfold gatherE
              rw [if_neg (by rw [HC.out]; omega), if_neg (by have := HN.out.2.1; omega), h2, if_pos (by rw [← HS.out]; exact hse)])
            clear hse
            go_wp2
            go_ret
            exact ⟨ret_int HRS.out.symm, HB1.out.1.trans (HB2.out.mono hs1)⟩
        · obtain rfl : k = m := by omega
          have HSE := Lib.hid (show sightsE ss = 0 from sightsE_ok.2 fun s hs => by
            obtain ⟨i, hi⟩ := List.getElem?_of_mem hs
            exact HK.out.2.1 i s (by have := (List.getElem?_eq_some_iff.1 hi).1; have := HN.out.2.1; omega) hi)
          have HRB := Lib.hid (show R = if mis.length < l.length then 7 else if l.length < mis.length then 6 else if mis.all (fun x => btw x 0 6) then 0 else 1 by
            rw [HR.out]
            unfold gatherE
            rw [if_neg (by rw [HC.out]; omega), if_neg (by have := HN.out.2.1; omega), if_neg (by rw [HSE.out]; omega)])
          obtain ⟨r0, r1⟩ := blk2 (bheap HB1.out.2 hbl (Nat.le_refl _))
          have hlr : w.heap.size < wr.heap.size := heap_lt (bheap HB1.out.2 hbl (Nat.le_refl _))
          clear hbl hBr
          by_cases hlt1 : ni < n
          · go_wp2
            go_ret
            exact ⟨ret_int (by rw [HRB.out, if_pos (by have := HN.out; omega)]), HK.out.2.2.2⟩
          · by_cases hlt2 : n < ni
            · have h1 : ¬ (ni : Int) < (n : Int) := by omega
              go_wp2
              go_ret
              exact ⟨ret_int (by rw [HRB.out, if_neg (by have := HN.out; omega), if_pos (by have := HN.out; omega)]), HK.out.2.2.2⟩
            · have h1 : ¬ (ni : Int) < (n : Int) := by omega
              have h2 : ¬ (n : Int) < (ni : Int) := by omega
              have HMI := Lib.hid (HL.out.2.2.below HK.out.2.2.2 (Nat.le_refl _))
              obtain ⟨wo, rfl⟩ : ∃ wo : World, wo = wr := ⟨_, rfl⟩
              go_wp2_with fail
              clear r0 r1 h1 h2
              go_loopg [10] ni (fun g i wr => ∃ q : Nat, q + g = ni ∧ i = .int .i64 q ∧ (∀ (i : Nat) x, i < q → mis[i]? = some x → btw x 0 6 = true) ∧ wo = wr)
              case atStart => exact ⟨0, by omega, rfl, fun i x hi => by omega, rfl⟩
              case round =>
                obtain ⟨q, hq, rfl, hok, rfl⟩ := hrel
                have HQ := Lib.hid (And.intro hq hok)
                have hqn : q ≤ ni := by omega
                clear hq hok
                by_cases hlq : q < ni
                · obtain ⟨be, oe, y, rfl, hbe, hy, y0⟩ := Ints.get HMI.out hlq
                  have HY := Lib.hid hy
                  have q0 : (0 : Int) ≤ (q : Int) := by omega
                  have q1 : (q : Int) < (ni : Int) := by omega
                  obtain ⟨T, hT⟩ : ∃ T, T = btw y 0 6 := ⟨_, rfl⟩
                  have C := rWithin y 0 6 wo
                  rw [← hT] at C
                  have HCC := Lib.hid C
                  have HT := Lib.hid hT
                  clear hy hbe C hT
                  go_wp2_with fail
                  (with_reducible refine HCC.out.mono ?_)
                  rintro e w2 ⟨rfl, rfl⟩
                  cases T
                  · go_wp2
                    go_ret
                    refine ⟨ret_int ?_, HK.out.2.2.2⟩
                    rw [HRB.out, if_neg (by have := HN.out; omega), if_neg (by have := HN.out; omega), if_neg]
                    intro h
                    have := List.all_eq_true.1 h y (List.mem_of_getElem? HY.out)
                    rw [← HT.out] at this
                    cases this
                  · go_wp2
                    go_roundg (gk - 1)
                    case measure => have := HQ.out.1; omega
                    case rel =>
                      refine ⟨q + 1, by have := HQ.out.1; omega, by go_num, fun i x hi hx => ?_, rfl⟩
                      by_cases hiq : i = q
                      · subst hiq
                        obtain rfl : y = x := Option.some.inj (HY.out.symm.trans hx)
                        exact HT.out.symm
                      · exact HQ.out.2 i x (by omega) hx
                · obtain rfl : q = ni := by omega
                  go_wp2
                  go_ret
                  refine ⟨ret_int ?_, HK.out.2.2.2⟩
                  rw [HRB.out, if_neg (by have := HN.out; omega), if_neg (by have := HN.out; omega), if_pos]
                  rw [List.all_eq_true]
                  intro x hx
                  obtain ⟨i, hi⟩ := List.getElem?_of_mem hx
                  exact HQ.out.2 i x (by have := (List.getElem?_eq_some_iff.1 hi).1; have := HN.out.2.2; omega) hi
    · have h6' : (6 : Int) < (m : Int) := by omega
      go_wp2
      go_ret
      exact ⟨ret_int (by rw [HR.out]; unfold gatherE; rw [if_neg (by rw [HC.out]; omega), if_pos (by have := HN.out.2.1; omega)]), hB1⟩
  · have h0 : (check t l != 0) = true := by simp [hck]
    have HE := Lib.hid (show R = check t l by rw [HR.out]; unfold gatherE; rw [if_pos hck])
    clear hck
    go_wp2
    go_ret
    exact ⟨ret_int HE.out.symm, hB1⟩
end Go.Proofs.Ytoidaigiejilcaa

namespace Go.Proofs.Ytoidaigiejilcaa
open Go.RowKit
set_option linter.unusedVariables false
set_option linter.unusedSimpArgs false

def givsTo (row : List Int) (rest : List (List Int)) (mis : List Int) (i : Nat) : List (List Int) := (row.take i).flatMap fun o => if mis.getD o.toNat 0 = 0 then [] else (givs rest (lessI mis o)).map fun r => o :: r
theorem givsTo_succ {row : List Int} {rest : List (List Int)} {mis : List Int} {i : Nat} {o : Int} (h : row[i]? = some o) : givsTo row rest mis (i + 1) = givsTo row rest mis i ++ if mis.getD o.toNat 0 = 0 then [] else (givs rest (lessI mis o)).map fun r => o :: r := by
  unfold givsTo; rw [List.take_add_one, h, List.flatMap_append]; simp
theorem givsTo_len {N : Nat} (hN : N ≤ 5) {rest : List (List Int)} (hr : ∀ row ∈ rest, ∃ p : Nat → Bool, row = ((List.range N).filter p).map Int.ofNat) (row mis : List Int) : ∀ i, (givsTo row rest mis i).length ≤ i * 5 ^ rest.length
  | 0 => by simp [givsTo]
  | i + 1 => by
    have ih := givsTo_len hN hr row mis i
    have hle := fun m => givs_len hN rest m hr
    rw [Nat.succ_mul]
    generalize 5 ^ rest.length = P at ih hle ⊢
    generalize i * P = Q at ih ⊢
    cases h : row[i]? with
    | none =>
      have : givsTo row rest mis (i + 1) = givsTo row rest mis i := by unfold givsTo; rw [List.take_add_one, h]; simp
      rw [this]; omega
    | some o =>
      rw [givsTo_succ h, List.length_append]
      split
      · simp; omega
      · rw [List.length_map]
        have := hle (lessI mis o)
        omega
theorem Sl.tail {α : Type} {enc : α → List Value} {sz : Nat} {w : World} {b off n : Nat} {x : α} {l : List α} (h : Sl enc sz w (some ⟨b, off, none⟩) (n + 1) (x :: l)) : Sl enc sz w (some ⟨b, off + sz, none⟩) n l := by
  obtain ⟨h1, h2⟩ := h
  refine ⟨by simpa using h1, fun hn => ⟨b, off + sz, rfl, fun i y hy j u hu => ?_⟩⟩
  obtain ⟨b', off', e, hc⟩ := h2 (by omega)
  cases e
  have := hc (i + 1) y (by simpa using hy) j u hu
  rw [Nat.succ_mul] at this
  rw [show off + sz + i * sz + j = off + (i * sz + sz) + j by omega]
  exact this

/-- 'append(dst, src...)' of a list, at a step of a region that draws -/
theorem step_apps {α : Type} {enc : α → List Value} {P : Program} {t e : TypeId} {sz bytes : Nat} (E : ElemOk P t e sz bytes) {ops : Array Oper} {o : Oper} {a : Act} {K : Act → World → Prop} {Q : Exit → Act → World → Prop} {F : Prop} {w : World}
    (hgd : o.guard = none) (s x : Operand) (ho : o.op = .call { callee := .builtin .append, args := #[s, x], argTypes := #[t, t] })
    (base : Nat) (v : Value) (l : List α) (A : Option Addr) (m c : Nat) (l2 : List α) (hs : a.eval s = v) (hx : a.eval x = .slice A m c) (hl2 : Sl enc sz w A m l2) (hz : A = none → c = 0)
    (hlen : ∀ x, (enc x).length = sz) (h1 : ∀ x, ∀ u ∈ enc x, u.oneCell' = true)
    (hown : Own enc e sz w base v l) (hll : l.length + m < 4294967296) (hby : bytes ≤ 4096) (hbase : base ≤ w.heap.size)
    (h : ∀ v' w', Own enc e sz w' base v' (l ++ l2) → w.grownBy w' v.ownBlock → Below base w w' → K (a.put o.dst v') w') :
    if Region.wanted o (yielded ops a.tmps) = true then Oper.wp P o a w K Q else F := by
  obtain ⟨i, z, hi, hzz, hsize, hbytes, hzs⟩ := E.info
  have hw : Region.wanted o (yielded ops a.tmps) = true := by simp [Region.wanted, hgd]
  rw [if_pos hw]
  cases A with
  | none =>
    have hc := hz rfl
    subst hc
    have hm : m = 0 := by
      rcases Nat.eq_zero_or_pos m with h0 | h0
      · exact h0
      · obtain ⟨b, off, hA, _⟩ := hl2.2 h0; cases hA
    subst hm
    have hl0 : l2 = [] := List.eq_nil_of_length_eq_zero hl2.1
    subst hl0
    have hk := h v w (by rw [List.append_nil]; exact hown) (World.grownBy.refl w _) (Below.refl _ _)
    have hrun := run_append_owned_none (P := P) (w := w) base t o.type e i sz E.sl hi v l.length (l.flatMap enc) hown
    unfold Oper.wp
    simp [execOp, ho, resolve, invoke, builtin, hs, hx, hrun, Result.andThen]
    exact hk
  | some ad =>
    refine wp_append_own w s x t ho base e i z sz bytes E.sl hi hzz hsize hbytes hzs E.pos v l.length (l.flatMap enc) hs hown ad m c (l2.flatMap enc) hx (by rw [flat_len hlen, hl2.1]) ?_ ?_ (by unfold maxLen; omega) ?_ hbase ?_
    · intro j u hu
      obtain ⟨y, hy, hu2⟩ := flat_at E.pos hlen l2 j u hu
      have hlt := (List.getElem?_eq_some_iff.1 hy).1
      obtain ⟨b, off, hA, hc⟩ := hl2.2 (hl2.1 ▸ Nat.lt_of_le_of_lt (Nat.zero_le _) hlt)
      cases hA
      have := hc _ y hy _ u hu2
      rw [Addr.add_lit]
      have e1 : off + j / sz * sz + j % sz = off + j := by rw [Nat.add_assoc, Nat.div_add_mod']
      rw [e1] at this
      exact this
    · intro u hu
      obtain ⟨y, hy, hu2⟩ := List.mem_flatMap.1 hu
      exact h1 y u hu2
    · calc (l.length + m) * bytes ≤ 4294967296 * 4096 := Nat.mul_le_mul (by omega) hby
        _ ≤ 140737488355328 := by omega
    · intro v' w' hown' hg _
      refine h v' w' ?_ hg ((Below.refl _ _).grown hg hbase (fun k hk => (Own.lt hown k hk).1))
      have e2 : (l ++ l2).flatMap enc = l.flatMap enc ++ l2.flatMap enc := by simp
      unfold Own
      rw [e2, List.length_append, hl2.1]
      exact hown'
/-- 'out = append(out, row)' at a step of a region that draws, with where the new slice lies -/
theorem step_app_row2 {ops : Array Oper} {o : Oper} {a : Act} {K : Act → World → Prop} {Q : Exit → Act → World → Prop} {F : Prop} {w : World}
    (hgd : o.guard = none) (s x : Operand) (ho : o.op = .call { callee := .builtin .append, args := #[s, x], argTypes := #[34, 34] })
    (base : Nat) (v u : Value) (ls : List (List Int)) (l : List Int) (hs : a.eval s = v) (hx : a.eval x = .slice (some ⟨w.heap.size, 0, none⟩) 1 1)
    (hown : OwnG w base v ls) (hu : OwnI w base u l) (hll : ls.length < 4294967296) (hbase : base ≤ w.heap.size)
    (h : ∀ v' w', OwnG w' base v' (ls ++ [l]) → Below base w w' → w.grownBy w' v.ownBlock → (∀ k, v'.ownBlock = some k → v.ownBlock = some k ∨ w.heap.size ≤ k) → K (a.put o.dst v') w') :
    if Region.wanted o (yielded ops a.tmps) = true then Oper.wp Try.prog o a (w.alloc (.cells #[u] 22)) K Q else F := by
  obtain ⟨mv, h1, h2⟩ := hown
  have h1u : u.oneCell' = true := by
    rcases hu.2 with ⟨rfl, _⟩ | ⟨g, cap, cur, rfl, _⟩ <;> rfl
  obtain ⟨i, z, hi, hz, hsize, hbytes, hzs⟩ := okInts.info
  refine step_append_lies _ hgd s x _ ho base _ i z 1 24 okInts.sl hi hz hsize hbytes hzs (by decide) v mv.length (mv.flatMap eVal) hs (World.ownsRow.alloc h1 _) ⟨w.heap.size, 0, none⟩ 1 1 (eVal u) hx rfl ?_ (one_eVal h1u) (by omega) (by rw [h2.1]; unfold maxLen; omega) (by rw [h2.1]; omega) (by simp; omega) (w.heap.size + 1) (by simp) ?_
  · exact World.news_of_block (heap_alloc_new w _)
  · intro g' cap w' hown' hgr hlies _
    have hg0 : w.grownBy w' v.ownBlock := ⟨hgr.os, hgr.tape, hgr.output, Nat.le_trans (by simp) hgr.size, fun k hk hne => (hgr.block k (by simp; omega) hne).trans (Below.heap_alloc _ _ _ hk)⟩
    have ho' : Own eVal 22 1 w' base (.slice (some ⟨g', 0, none⟩) (mv.length + 1) cap) (mv ++ [u]) := by
      have e2 : (mv ++ [u]).flatMap eVal = mv.flatMap eVal ++ eVal u := by simp
      unfold Own
      rw [e2, List.length_append]
      exact hown'
    refine h _ _ (OwnG.snoc h1 h2 hu ho' hg0) ((Below.refl _ _).grown hg0 hbase (fun k hk => (Own.lt h1 k hk).1)) hg0 fun k hk => ?_
    simp only [Value.ownBlock, Option.some.injEq] at hk
    subst hk
    rcases hlies with h | h
    · exact .inl h
    · exact .inr (by omega)
theorem zone_ne {lo hi bb : Nat} {w1 w : World} {v : Value} (h : Zone lo hi w1 w v) (h1 : lo ≤ bb) (h2 : bb < hi) : v.ownBlock ≠ some bb := fun e => by
  rcases h.2 bb e with h | h <;> omega
theorem gcell {w w' : World} {v u : Value} {b o base : Nat} (hg : w.grownBy w' v.ownBlock) (hc : w.cell? ⟨b, o, none⟩ = some u) (hv : ∀ k, v.ownBlock = some k → base ≤ k) (hb : b < base) : w'.cell? ⟨b, o, none⟩ = some u :=
  hg.cell hc (fun e => by
    have e' : v.ownBlock = some b := e.symm
    have := hv b e'; omega)
theorem flat_ints2 (x : List Int) : x.flatMap eInt = x.map (Value.int .i64) := by
  induction x with
  | nil => rfl
  | cons a r ih => rw [List.flatMap_cons, ih]; rfl
/-- one number of a list of the call's own, and the list with another one in its place -/
theorem Own.put {w : World} {base : Nat} {A : Option Addr} {n c : Nat} {l : List Int} (h : OwnI w base (.slice A n c) l) {o : Nat} (ho : o < l.length) (x : Int) :
    ∃ g, A = some ⟨g, 0, none⟩ ∧ base ≤ g ∧ g < w.heap.size ∧ w.cell? ⟨g, o, none⟩ = some (.int .i64 (l.getD o 0)) ∧ w.frozen? ⟨g, o, none⟩ = false ∧ OwnI (w.setCell ⟨g, o, none⟩ (.int .i64 x)) base (.slice A n c) (l.set o x) := by
  rcases h.2 with ⟨hv, h0⟩ | ⟨g, cap, cur, hv, hg, hh, hnc, hcm, hsz, htk⟩
  · omega
  · cases hv
    have hlo : o < c := by omega
    have hm : (l.flatMap eInt)[o]? = some (Value.int .i64 (l.getD o 0)) := by
      rw [flat_ints2, List.getElem?_map, List.getElem?_eq_getElem ho, List.getD_eq_getElem?_getD, List.getElem?_eq_getElem ho]; rfl
    have hco : cur[o]? = some (Value.int .i64 (l.getD o 0)) := by
      rw [← htk, List.getElem?_take_of_lt (by omega), Array.getElem?_toList] at hm
      exact hm
    refine ⟨g, rfl, hg, heap_lt hh, ?_, frz hh o, ?_⟩
    · unfold World.cell?; simp [hh, hco]
    · refine ⟨by simp [flat_ints2], .inr ⟨g, c, cur.setIfInBounds o (.int .i64 x), by simp, hg, set_blk hh, by simpa using hnc, hcm, by simpa using hsz, ?_⟩⟩
      rw [Array.toList_setIfInBounds, List.take_set, List.length_set, htk, flat_ints2, flat_ints2, List.map_set]

set_option maxRecDepth 100000 in
set_option maxHeartbeats 4000000 in
theorem rGivings (t : Int) (A : Option Addr) (n c : Nat) (l : List Mk) (hck : check t l = 0) : ∀ (ss : List Sg) (B : Option Addr) (cb : Nat) (Ai : Option Addr) (ci : Nat) (mis : List Int) (w : World),
    Marks w A n l → Sights w B ss.length ss → ss.length ≤ cb → cb ≤ maxLen → ss.length ≤ 6 → (∀ s ∈ ss, seen s 9 6 = 0) → Ints w Ai n mis → (Ai = none → ci = 0) → (∀ x ∈ mis, 0 ≤ x ∧ x ≤ 6) →
    Calls Try.prog 83 #[.agg #[.int .i64 t, .slice A n c], .slice B ss.length cb, .slice Ai n ci] w fun e w' => ∃ v, e = .returned v ∧ OwnG w' w.heap.size v (givs (mays t l ss) mis) ∧ Below w.heap.size w w'
  | [], B, cb, Ai, ci, mis, w, hl, hss, hcb, hcbm, h6, hsv, hmi, hz, hmv => by
    go_enter Try.func83, Try.ntmps83
    go_wp2
    go_ret
    refine ⟨_, rfl, ?_, bal (bal0 w _) (Nat.le_refl _) _⟩
    have h := OwnG.one (w.alloc (Obj.cells #[Value.int .i64 t, .slice A n c] 25)) w.heap.size (bal0 w _).size
    rw [show (w.alloc (Obj.cells #[Value.int .i64 t, .slice A n c] 25)).heap.size = w.heap.size + 1 by simp] at h
    exact h
  | s :: ss, B, cb, Ai, ci, mis, w, hl, hss, hcb, hcbm, h6, hsv, hmi, hz, hmv => by
    have IH := fun B cb Ai ci mis w => rGivings t A n c l hck ss B cb Ai ci mis w
    have HIH := Lib.hid IH
    have hnl := hl.len
    have hn5 : n ≤ 5 := by have := (check_ok hck).2.2.1; omega
    obtain ⟨bs, os, s', rfl, hbs, hs', s0, s1, s2, s3, s4⟩ := Sights.get hss (show 0 < (s :: ss).length by simp)
    obtain rfl : s = s' := by simpa using hs'
    obtain ⟨hsn, hso, -, -⟩ := seen_ok (hsv s (by simp))
    obtain ⟨m, hm⟩ : ∃ m, m = ss.length := ⟨_, rfl⟩
    have hm1 : (s :: ss).length = m + 1 := by rw [hm]; rfl
    have HVM := Lib.hid (show ∀ m ∈ l, 0 ≤ m.n ∧ m.n ≤ 255 from fun m hm => (check_marks hck m hm).1)
    have hm6 : m + 1 ≤ 6 := by omega
    have hmcb : m + 1 ≤ cb := by omega
    rw [hm1]
    have HP := Lib.hid (And.intro hl (And.intro (Sl.tail (n := m) (x := s) (l := ss) (hm1 ▸ hss)) (And.intro hmi (And.intro hmv (And.intro (fun x hx => hsv x (List.mem_cons_of_mem _ hx)) (And.intro hm hz))))))
    unfold maxLen at hcbm
    clear IH hl hss hsv hmi hmv hs' hbs hm hm1 hcb h6 hz
    go_enter Try.func83, Try.ntmps83
    go_upto_region 1 with (fail)
    obtain ⟨W, hW⟩ : ∃ W, W = w.alloc (Obj.cells #[Value.int .i64 t, .slice A n c] 25) := ⟨_, rfl⟩
    rw [← hW]
    have hb0 : Below w.heap.size w W := by rw [hW]; exact bal0 w _
    have bW : W.heap[w.heap.size]? = some (Obj.cells #[Value.int .i64 t, .slice A n c] 25 (0, 0)) := by rw [hW]; exact alloc_at rfl
    obtain ⟨r0, r1⟩ := blk2 bW
    have hlW := heap_lt bW
    simp only [Nat.zero_mul, Nat.add_zero] at s0 s1 s2 s3 s4
    replace s0 := bcell s0 hb0 (Nat.le_refl _)
    replace s1 := bcell s1 hb0 (Nat.le_refl _)
    replace s2 := bcell s2 hb0 (Nat.le_refl _)
    replace s3 := bcell s3 hb0 (Nat.le_refl _)
    replace s4 := bcell s4 hb0 (Nat.le_refl _)
    have HW := Lib.hid (And.intro bW hb0)
    have hm0 : (((m : Int) + 1) == 0) = false := by rw [beq_eq_false_iff_ne]; omega
    have hm2 : (0 : Int) < (m : Int) + 1 := by omega
    have hm3 : (1 : Int) ≤ (m : Int) + 1 := by omega
    have hcast : ((m + 1 : Nat) : Int) = (m : Int) + 1 := by omega
    clear hW hb0 bW
    go_upto_region 4 with (fail)
    refine wp_region_quiet_tail (C := fun w' => ∃ n, w' = W.drewN n) 4 (by kernel_rfl) (by kernel_rfl) ⟨1, rfl⟩ ?_
    simp only [List.take_succ_cons, List.take_zero, List.drop_succ_cons, List.drop_zero]
    repeat (quiet_step (fail))
    refine wpQuiet_nil ?_
    intro _ hw'
    obtain ⟨nq, hw''⟩ := hw'
    subst hw''
    obtain ⟨W1, hW1⟩ : ∃ W1, W1 = W.drewN nq := ⟨_, rfl⟩
    have hbW1 : Below W.heap.size W W1 := by rw [hW1]; exact below_drewN (Below.refl _ _) nq
    have hsW1 : W1.heap.size = W.heap.size := by rw [hW1]; rfl
    rw [← hW1]
    have HW1 := Lib.hid (And.intro hbW1 (And.intro hsW1 (HW.out.2.trans (hbW1.mono HW.out.2.size))))
    clear hW1 hbW1 hsW1 r0 r1 s0 s1 s2 s3 s4
    go_wp2_with fail
    refine (rMayB t A n c l s _ (HP.out.1.below HW1.out.2.2 (Nat.le_refl _)) (by omega) hsn.1 hsn.2 hso HVM.out).mono ?_
    rintro e w2 ⟨v2, rfl, ho2, hb2⟩
    obtain ⟨row, hrow⟩ : ∃ row, row = mayL t l s := ⟨_, rfl⟩
    rw [← hrow] at ho2
    obtain ⟨A2, c2, rfl, hi2, hc2, hm2'⟩ := ho2.form lenInt
    have hB2 := HW1.out.2.2.trans (hb2.mono HW1.out.2.2.size)
    have hrl : row.length ≤ 5 := by rw [hrow]; have := mayL_len t l s; omega
    have hrv : ∀ o ∈ row, 0 ≤ o ∧ o < n := fun o ho => by rw [hrow] at ho; have := mayL_mem ho; omega
    have b2 := bheap (bheap HW.out.1 HW1.out.1 (Nat.le_refl _)) hb2 (Nat.le_refl _)
    have HR := Lib.hid (And.intro hrow (And.intro hi2 (And.intro hB2 (And.intro hrv b2))))
    have hs2 := hB2.size
    clear hrow ho2 hi2 hB2 hb2 hrv b2 hc2 hm2'
    go_wp2_with fail
    go_loopg [7, 9] row.length (fun g v i wr => ∃ k : Nat, k + g = row.length ∧ i = .int .i64 k ∧ OwnG wr w2.heap.size v (givsTo row (mays t l ss) mis k) ∧ Below w2.heap.size w2 wr)
    case atStart => exact ⟨0, by omega, rfl, OwnG.nil_, Below.refl _ _⟩
    case round =>
      obtain ⟨k, hk, rfl, hog, hbr⟩ := hrel
      have hBr := HR.out.2.2.1.trans (hbr.mono hs2)
      have HK := Lib.hid (And.intro hk (And.intro hog (And.intro hbr hBr)))
      have hkn : k ≤ row.length := by omega
      obtain ⟨g1, rfl⟩ : ∃ g1 : Nat, g1 = gk := ⟨_, rfl⟩
      obtain ⟨wo, rfl⟩ : ∃ wo : World, wo = wr := ⟨_, rfl⟩
      have hso := hbr.size
      clear hk hog
      by_cases hlt : k < row.length
      · obtain ⟨be, oe, y, rfl, hbe, hy, y0⟩ := Ints.get (HR.out.2.1.below hbr (Nat.le_refl _)) hlt
        have hyv := HR.out.2.2.2.1 y (List.mem_of_getElem? hy)
        obtain ⟨o, rfl⟩ := Int.eq_ofNat_of_zero_le hyv.1
        have hon : o < n := by omega
        obtain ⟨bd, od, z, rfl, hbd, hz, z0⟩ := Ints.get (HP.out.2.2.1.below hBr (Nat.le_refl _)) hon
        have hzv := HP.out.2.2.2.1 z (List.mem_of_getElem? hz)
        have hzz : mis.getD o 0 = z := by rw [List.getD_eq_getElem?_getD, hz]; rfl
        have HY := Lib.hid (And.intro hy (And.intro hzz (givsTo_succ (rest := mays t l ss) (mis := mis) hy)))
        have k0 : (0 : Int) ≤ (k : Int) := by omega
        have k1 : (k : Int) < (row.length : Int) := by omega
        have o0 : (0 : Int) ≤ (o : Int) := by omega
        have o1 : (o : Int) < (n : Int) := by omega
        clear hy hbe hyv hbd hz hzz
        by_cases hz0 : z = 0
        · subst hz0
          go_wp2
          go_roundg (g1 - 1)
          case measure => have := HK.out.1; omega
          case rel =>
            refine ⟨k + 1, by have := HK.out.1; omega, by go_num, ?_, HK.out.2.2.1⟩
            rw [HY.out.2.2, Int.toNat_natCast, if_pos HY.out.2.1, List.append_nil]
            exact HK.out.2.1
        · have hzb : (z == 0) = false := by rw [beq_eq_false_iff_ne]; exact hz0
          have hz0' : ¬ z = 0 := hz0
          have HLW := Lib.hid (And.intro (HP.out.2.2.1.below HK.out.2.2.2 (Nat.le_refl _)) (show OwnI (wo.alloc (Obj.cells #[] 3)) wo.heap.size (.slice (some ⟨wo.heap.size, 0, none⟩) 0 0) [] from Own.lit (enc := eInt) wo wo.heap.size #[] [] rfl lenInt (by omega) (by simp [maxLen])))
          have HBL := Lib.hid (bal0 wo (Obj.cells #[] 3))
          have HMI2 := Lib.hid (HLW.out.1.below HBL.out (Nat.le_refl _))
          clear hbr hBr
          go_wp2_with (at_builtin; refine wp_apps okInt rfl (.tmp 36) (.tmp 37) rfl wo.heap.size (.slice (some ⟨wo.heap.size, 0, none⟩) 0 0) [] _ n ci mis rfl rfl HMI2.out HP.out.2.2.2.2.2.2 lenInt one_eInt HLW.out.2 ?_ ?_ ?_ ?_; (simp; omega); (omega); (simp); intro v3 w3 hown3 hgr3 hb3; have H3 := Lib.hid (And.intro hown3 hb3); clear hown3 hgr3 hb3)
          have hown3 : OwnI w3 wo.heap.size v3 mis := by have h := H3.out.1; rwa [List.nil_append] at h
          obtain ⟨A3, c3, hv3, hi3, hc3, hm3⟩ := hown3.form lenInt
          subst hv3
          have hml := HP.out.2.2.1.len
          obtain ⟨g, rfl, hg0, hg1, hcz, hfz, hset⟩ := hown3.put (show o < mis.length by omega) (z - 1)
          rw [HY.out.2.1] at hcz
          have hzs : IntKind.i64.wrap (z - 1) = z - 1 := IntWalk.i64_in _ (by omega)
          have hb3 : Below wo.heap.size wo w3 := HBL.out.trans (H3.out.2)
          have hs3 := hb3.size
          replace y0 := bcell y0 hb3 (Nat.le_refl _)
          have hls : (lessI mis (o : Int)).length = n := by rw [lessI_len]; exact hml
          have HS3 := Lib.hid (And.intro hset (And.intro hb3 (And.intro hown3 hls)))
          have ho3 : (o : Int) < (mis.length : Int) := by omega
          rw [hml]
          clear hown3 hi3 hset hb3 hls z0 hml
          go_upto_region 10 with (fail)
          refine wp_region_quiet_tail (C := fun w' => ∃ n, w' = w3.drewN n) 14 (by kernel_rfl) (by kernel_rfl) ⟨1, rfl⟩ ?_
          simp only [List.take_succ_cons, List.take_zero, List.drop_succ_cons, List.drop_zero]
          repeat (quiet_step (fail))
          refine wpQuiet_nil ?_
          intro _ hw'
          obtain ⟨nq3, hw''⟩ := hw'
          subst hw''
          obtain ⟨W4, hW4⟩ : ∃ W4, W4 = (w3.drewN nq3).setCell ⟨g, o, none⟩ (.int .i64 (z - 1)) := ⟨_, rfl⟩
          go_upto_region 11 with (fail)
          rw [← hW4]
          have ho4 : OwnI W4 wo.heap.size (.slice (some ⟨g, 0, none⟩) n c3) (lessI mis (o : Int)) := by
            have h := HS3.out.1
            rw [show mis.length = n by have := HS3.out.2.2.2; rw [lessI_len] at this; exact this] at h
            unfold lessI
            rw [Int.toNat_natCast, HY.out.2.1, hW4]
            exact h.upon fun j _ => rfl
          have hb4 : Below wo.heap.size wo W4 := by
            rw [hW4]
            exact (below_drewN HS3.out.2.1 nq3).setCell (show wo.heap.size ≤ (⟨g, o, none⟩ : Addr).block from hg0) _
          have hb24 := HK.out.2.2.1.trans (hb4.mono hso)
          have hs4 := hb4.size
          obtain ⟨r0, r1⟩ := blk2 (bheap HR.out.2.2.2.2 hb24 (Nat.le_refl _))
          have hl4 : w.heap.size < W4.heap.size := heap_lt (bheap HR.out.2.2.2.2 hb24 (Nat.le_refl _))
          have HO4 := Lib.hid (And.intro ho4 (And.intro hb4 (And.intro hb24 (HR.out.2.2.1.trans (hb24.mono hs2)))))
          clear hW4 ho4 hb4 hb24 y0 hcz hfz
          refine wp_region_quiet_tail (C := fun w' => ∃ n, w' = W4.drewN n) 4 (by kernel_rfl) (by kernel_rfl) ⟨1, rfl⟩ ?_
          simp only [List.take_succ_cons, List.take_zero, List.drop_succ_cons, List.drop_zero]
          repeat (quiet_step (fail))
          refine wpQuiet_nil ?_
          intro _ hw'
          obtain ⟨nq5, hw''⟩ := hw'
          subst hw''
          obtain ⟨W5, hW5⟩ : ∃ W5, W5 = W4.drewN nq5 := ⟨_, rfl⟩
          rw [← hW5]
          have hb5 : Below W4.heap.size W4 W5 := by rw [hW5]; exact below_drewN (Below.refl _ _) nq5
          have hs5 : W5.heap.size = W4.heap.size := by rw [hW5]; rfl
          have hbo5 := HO4.out.2.1.trans (hb5.mono hs4)
          have HO5 := Lib.hid (And.intro (HO4.out.1.below hb5 (Nat.le_refl _)) (And.intro hbo5 (And.intro (HO4.out.2.2.2.trans (hb5.mono HO4.out.2.2.2.size)) hs5)))
          clear hW5 hb5 hs5 hbo5 r0 r1
          generalize hA5 : (if cb = 1 then (some ⟨bs, os, none⟩ : Option Addr) else some ⟨bs, os + 5, none⟩) = A5
          have hsA5 : Sights W5 A5 m ss := by
            have h := HP.out.2.1.below HO5.out.2.2.1 (Nat.le_refl _)
            rw [← hA5]
            by_cases h1 : cb = 1
            · rw [if_pos h1]
              have hm0 : m = 0 := by omega
              have hss0 : ss = [] := List.eq_nil_of_length_eq_zero (by have := HP.out.2.2.2.2.2.1; omega)
              subst hss0; subst hm0
              exact Sl.nil_
            · rw [if_neg h1]; exact h
          have hm5 := HP.out.2.2.2.2.2.1
          have hi5 : Ints W5 (some ⟨g, 0, none⟩) n (lessI mis (o : Int)) := by
            have h := (Own.sl HO5.out.1 lenInt).1
            rwa [HS3.out.2.2.2] at h
          have hmv5 : ∀ x ∈ lessI mis (o : Int), 0 ≤ x ∧ x ≤ 6 := fun x hx => by
            unfold lessI at hx
            rw [Int.toNat_natCast, HY.out.2.1] at hx
            rcases List.mem_or_eq_of_mem_set hx with h1 | h1
            · exact HP.out.2.2.2.1 x h1
            · omega
          have C := HIH.out A5 (cb - 1) (some ⟨g, 0, none⟩) c3 (lessI mis (o : Int)) W5 (HP.out.1.below HO5.out.2.2.1 (Nat.le_refl _)) (hm5 ▸ hsA5) (by omega) (by unfold maxLen; omega) (by omega) HP.out.2.2.2.2.1 hi5 (fun h => by cases h) hmv5
          rw [← hm5] at C
          obtain ⟨R, hR⟩ : ∃ R, R = givs (mays t l ss) (lessI mis (o : Int)) := ⟨_, rfl⟩
          rw [← hR] at C
          have hRl : R.length ≤ 3125 := by
            rw [hR]
            have h1 := givs_len (N := l.length) (by omega) (mays t l ss) (lessI mis (o : Int)) mays_rows
            have h2 : (mays t l ss).length = m := by unfold mays; rw [List.length_map, hm5]
            rw [h2] at h1
            exact Nat.le_trans h1 (pow5_le (by omega))
          have HC := Lib.hid C
          have HRR := Lib.hid hR
          have hnl5 : n = l.length := hnl.symm
          clear hA5 hsA5 hm5 hi5 hmv5 C hR hnl5
          go_wp2_with fail
          (with_reducible refine HC.out.mono ?_)
          rintro e w6 ⟨v6, rfl, ho6, hb6⟩
          obtain ⟨A6, c6, rfl, -, hc6, hm6'⟩ := ho6.form
          have hb26 := HK.out.2.2.1.trans ((HO5.out.2.1.trans (hb6.mono HO5.out.2.1.size)).mono hso)
          have hs6 := hb6.size
          have hso5 := HO5.out.2.1.size
          have hog6 := HK.out.2.1.below (HO5.out.2.1.trans (hb6.mono HO5.out.2.1.size)) (Nat.le_refl _)
          have HV0 := Lib.hid (fun (k : Nat) hk => (HK.out.2.1.lt k hk).2)
          have H6 := Lib.hid (And.intro ho6 (And.intro hog6 hb26))
          have hs26 := hb26.size
          clear ho6 hb6 hog6 hb26 hc6 hm6'
          go_wp2_with fail
          go_loopg [7, 12] R.length (fun g v i wr => ∃ q : Nat, q + g = R.length ∧ i = .int .i64 q ∧ OwnG wr w2.heap.size v (givsTo row (mays t l ss) mis k ++ (R.take q).map fun r => (o : Int) :: r) ∧ Zone W5.heap.size w6.heap.size w6 wr v ∧ w6.heap.size ≤ wr.heap.size ∧ Below w2.heap.size w2 wr)
          case atStart => exact ⟨0, by omega, rfl, by simpa using H6.out.2.1, ⟨fun j _ _ => rfl, fun k hk => .inl (Nat.lt_of_lt_of_le (HV0.out k hk) hso5)⟩, Nat.le_refl _, H6.out.2.2⟩
          case round =>
            obtain ⟨q, hq, rfl, hog, hzn, hs6r, hbr⟩ := hrel
            have HQ := Lib.hid (And.intro hq (And.intro hog (And.intro hzn hbr)))
            have hqn : q ≤ R.length := by omega
            have hsr := hbr.size
            have hrr := H6.out.1.zone (w' := wr) hzn.1
            clear hq hog hzn
            by_cases hlq : q < R.length
            · obtain ⟨bb, off, cap, Bx, r, cx, hv, hr, hc, hri, hrc, hrm, hrz⟩ := hrr.get hlq
              obtain ⟨rfl, rfl⟩ : A6 = some ⟨bb, off, none⟩ ∧ c6 = cap := by simpa using hv
              have y0 : wr.cell? ⟨be, oe + k, none⟩ = some (.int .i64 (o : Int)) := by
                obtain ⟨be', oe', y, hA, hbe, hy, y0⟩ := Ints.get (HR.out.2.1.below hbr (Nat.le_refl _)) hlt
                cases hA
                obtain rfl : (o : Int) = y := Option.some.inj (HY.out.1.symm.trans hy)
                exact y0
              have y0d : wr.drew.cell? ⟨be, oe + k, none⟩ = some (.int .i64 (o : Int)) := y0
              have hcd : wr.drew.cell? ⟨bb, off + q, none⟩ = some (.slice Bx r.length cx) := hc
              have HX := Lib.hid (And.intro hr hri)
              have i0 : (0 : Int) ≤ (q : Int) := by omega
              have i1 : (q : Int) < (R.length : Int) := by omega
              have hrlen : r.length ≤ 6 := by
                have hmem := HRR.out ▸ List.mem_of_getElem? hr
                rw [givs_filter (N := l.length) mays_rows, List.mem_filter] at hmem
                have h1 := (wordsL_mem hmem.1).1
                have h2 : (mays t l ss).length = m := by unfold mays; rw [List.length_map, HP.out.2.2.2.2.2.1]
                omega
              have hll : (givsTo row (mays t l ss) mis k ++ (R.take q).map fun r => (o : Int) :: r).length < 4294967296 := by
                rw [List.length_append, List.length_map, List.length_take]
                have h1 := givsTo_len (N := l.length) (by omega) (rest := mays t l ss) mays_rows row mis k
                have h2 : (mays t l ss).length = m := by unfold mays; rw [List.length_map, HP.out.2.2.2.2.2.1]
                rw [h2] at h1
                have h3 : 5 ^ m ≤ 3125 := pow5_le (by omega)
                have h4 : k * 5 ^ m ≤ 5 * 3125 := Nat.mul_le_mul (by omega) h3
                omega
              have hbd : Below wr.heap.size wr (wr.drew.alloc (Obj.cells #[Value.int .i64 (o : Int)] 3)) := (below_drewN (Below.refl _ _) 1).trans (bal0 wr.drew _)
              have HBD := Lib.hid hbd
              have HL := Lib.hid (And.intro (HX.out.2.below hbd (Nat.le_refl _)) (Own.lit (enc := eInt) (e := 3) wr.drew wr.heap.size #[Value.int .i64 (o : Int)] [(o : Int)] rfl lenInt (Nat.le_refl _) (by simp [maxLen])))
              have HZ := Lib.hid hrz
              clear hv hr hri hbr hrz hrr hbd
              have hbe2 : be < w2.heap.size := by
                obtain ⟨be', oe', y, hA, hbe, _, _⟩ := Ints.get HR.out.2.1 hlt
                cases hA
                exact hbe
              have HVV := Lib.hid (fun k hk => (HQ.out.2.1.lt k hk).1)
              have HNE := Lib.hid (zone_ne HQ.out.2.2.1 (H6.out.1.lt bb rfl).1 (H6.out.1.lt bb rfl).2)
              go_upto_region 15 with (fail)
              go_region_held3 (fun w' => w'.cell? ⟨be, oe + k, none⟩ = some (.int .i64 (o : Int)) ∧ w'.cell? ⟨bb, off + q, none⟩ = some (.slice Bx r.length cx))
                ((go_split_ands
                  refine ⟨?_, ?_⟩
                  all_goals first
                    | (with_reducible exact y0d)
                    | (with_reducible exact hcd)
                    | (with_reducible exact q0)
                    | (with_reducible exact q1)
                    | (with_reducible exact bcell y0d (bal0 _ _) (Nat.le_refl _))
                    | (with_reducible exact bcell hcd (bal0 _ _) (Nat.le_refl _))
                    | (with_reducible exact bcell q0 (bal0 _ _) (Nat.le_refl _))
                    | (with_reducible exact bcell q1 (bal0 _ _) (Nat.le_refl _))
                    | fail))
                (first
                  | (refine step_apps okInt (by rfl) _ _ (by rfl) wr.heap.size (.slice (some ⟨wr.drew.heap.size, 0, none⟩) 1 1) [(o : Int)] Bx r.length cx r (by rfl) (by rfl) HL.out.1 HZ.out lenInt one_eInt HL.out.2 ?_ ?_ ?_ ?_; (simp; omega); (omega); (simp); intro v7 w7 hown7 hgr7 hb7; have hbw7 := HBD.out.trans hb7; have q0 := bcell y0 hbw7 (Nat.le_refl _); have q1 := bcell hc hbw7 (Nat.le_refl _); obtain ⟨A7, c7, hv7, hs7, hc7, hm7, hz7⟩ := own_shape hown7 lenInt; rw [hv7]; have hws : w2.heap.size ≤ w7.heap.size := (by have := hbw7.size; omega); have H7 := Lib.hid (And.intro (hv7 ▸ hown7) hbw7); clear hown7 hgr7 hb7 hs7 hc7 hm7 hz7 hv7 hbw7)
                  | (refine step_app_row2 (by rfl) _ _ (by rfl) w2.heap.size _ (.slice A7 ([(o : Int)] ++ r).length c7) (givsTo row (mays t l ss) mis k ++ (R.take q).map fun r => (o : Int) :: r) ([(o : Int)] ++ r) (by rfl) ?_ (HQ.out.2.1.below H7.out.2 (Nat.le_refl _)) (H7.out.1.mono hsr) hll hws ?_; (simp [go_sem]); intro v8 w8 hog8 hb8 hg8 hk8; have H8 := Lib.hid (And.intro hog8 (And.intro hb8 (And.intro hg8 hk8))); have q0 := gcell hg8 q0 HVV.out hbe2; have q1 := hg8.cell q1 (fun e => HNE.out e.symm); clear hog8 hb8 hg8 hk8)
                  | fail)
              have hs7 := H7.out.2.size
              have hs8 := H8.out.2.1.size
              clear q0 q1 y0 y0d hc hcd
              go_wp2
              go_roundg (gk - 1)
              case measure => have := HQ.out.1; omega
              case rel =>
                refine ⟨q + 1, by have := HQ.out.1; omega, by go_num, ?_, ⟨fun j hj1 hj2 => ?_, fun k hk => ?_⟩, by omega, (HQ.out.2.2.2.trans (H7.out.2.mono hsr)).trans H8.out.2.1⟩
                · have h := H8.out.1
                  rw [List.take_add_one, HX.out.1]
                  simpa [List.append_assoc] using h
                · rw [H8.out.2.2.1.block j (by omega) (fun e => by rcases HQ.out.2.2.1.2 j e.symm with h | h <;> omega), H7.out.2.block j (by omega)]
                  exact HQ.out.2.2.1.1 j hj1 hj2
                · rcases H8.out.2.2.2 k hk with h | h
                  · exact HQ.out.2.2.1.2 k h
                  · exact .inr (by omega)
            · obtain rfl : q = R.length := by omega
              go_wp2
              go_roundg (g1 - 1)
              case measure => have := HK.out.1; omega
              case rel =>
                refine ⟨k + 1, by have := HK.out.1; omega, by go_num, ?_, HQ.out.2.2.2⟩
                have := HQ.out.2.1
                rw [List.take_of_length_le (Nat.le_refl _), HRR.out] at this
                rw [HY.out.2.2, Int.toNat_natCast, if_neg (by rw [HY.out.2.1]; exact hz0)]
                exact this
      · obtain rfl : k = row.length := by omega
        go_wp2
        go_ret
        refine ⟨_, rfl, ?_, HK.out.2.2.2⟩
        have h := HK.out.2.1
        unfold givsTo at h
        rw [List.take_of_length_le (Nat.le_refl _), HR.out.1] at h
        exact h.mono hs2
end Go.Proofs.Ytoidaigiejilcaa
