/- TopCounted 9: HdR, HdS, HdT, HdE. -/
import Derived.Test.YtgnjknihgjdedaaTc08
import Derived.Laws.IdiomCopy
import Derived.Test.YtgnjknihgjdedaaTc02
import Derived.Test.YtgnjknihgjdedaaTc01
import Derived.RangeFuncNested
namespace Go.Proofs.Ytgnjknihgjdedaa
open Go.RowKit Go.MapKept
set_option linter.unusedVariables false
set_option linter.unusedSimpArgs false

def putRow (h : List Int) (f : Nat) (r : List Int) : List Int := h.take (f * 5) ++ r ++ h.drop (f * 5 + r.length)
theorem putRow_len {h r : List Int} {f : Nat} (hl : h.length = 15) (hf : f < 3) (hr : r.length ≤ 5) : (putRow h f r).length = 15 := by
  unfold putRow; simp; omega
theorem info_intz : (Try.prog.info? 3).map (·.size) = some 1 := by kernel_rfl
theorem wp_copyH {ops : Array Oper} {rest : List Oper} {o : Oper} {a : Act} {w : World} {Q : Exit → Act → World → Prop} {g f n c : Nat} {B : Option Addr} {h r : List Int}
    (hb : w.heap[g]? = some (hObj h)) (hl : h.length = 15) (hf : f < 3) (hr : Ints w B n r) (hn : n ≤ 5)
    (hg : o.guard = none) (x y : Operand) (hop : o.op = .call { callee := .builtin .copy, args := #[x, y], argTypes := #[22, 22] }) (hx : a.eval x = .slice (some ⟨g, f * 5, none⟩) 5 5) (hy : a.eval y = .slice B n c)
    (hK : ∀ w2, w2.heap[g]? = some (hObj (putRow h f r)) → w.grownBy w2 (some g) → w2.heap.size = w.heap.size → wpList Try.prog ops Q rest (a.put o.dst (.int .i64 n)) w2) : wpList Try.prog ops Q (o :: rest) a w := by
  have hrn := hr.len
  obtain ⟨dst, op, ty, pos, after, guard⟩ := o
  dsimp only at hop hg hK
  subst hop
  refine wpList_plain hg fun K' hK' => ?_
  unfold Oper.wp
  cases B with
  | none =>
    have h0 : n = 0 := by
      rcases Nat.eq_zero_or_pos n with h0 | h0
      · exact h0
      · obtain ⟨bb, oo, hA, _⟩ := hr.2 h0; cases hA
    subst h0
    have hr0 : r = [] := List.eq_nil_of_length_eq_zero hrn
    subst hr0
    have hrun := run_copy_none (P := Try.prog) w 22 22 ty 3 (some ⟨g, f * 5, none⟩) none 5 5 0 c Try.underlying22 info_intz (by simp)
    simp [BigFrame.execOp_builtin, BigFrame.builtin_copy, hx, hy, hrun, Result.andThen]
    refine hK' _ _ (hK w ?_ (World.grownBy.refl w _) rfl)
    rw [show putRow h f [] = h by unfold putRow; simp]
    exact hb
  | some ad =>
    have hrun := run_copy_row (P := Try.prog) w 22 22 ty 3 g (f * 5) 5 5 ad n c (hcs h) _ (r.map (Value.int .i64)) Try.underlying22 info_intz hb (by have : Nat.min n 5 = n := Nat.min_eq_left hn; rw [this, List.length_map, hrn]) (fun j v hj => by
        obtain ⟨bb, oo, hA, hc⟩ : ∃ bb oo, ad = ⟨bb, oo, none⟩ ∧ ∀ i x, r[i]? = some x → w.cell? ⟨bb, oo + i, none⟩ = some (.int .i64 x) := by
          have hpos : 0 < n := by
            rw [← hrn]
            have := (List.getElem?_eq_some_iff.1 hj).1
            simp at this; omega
          obtain ⟨bb, oo, hA, hc⟩ := hr.2 hpos
          injection hA with hA
          exact ⟨bb, oo, hA, fun i x hx => by simpa using hc i x hx 0 _ rfl⟩
        subst hA
        rw [List.getElem?_map] at hj
        cases hx' : r[j]? with
        | none => rw [hx'] at hj; cases hj
        | some z =>
          rw [hx'] at hj
          injection hj with hj
          rw [← hj]
          have := hc j z hx'
          have hadd : (⟨bb, oo, none⟩ : Addr).add j = ⟨bb, oo + j, none⟩ := by unfold Addr.add; split <;> simp_all
          rw [hadd]; exact this) (by rw [hcs_size, hl]; simp; omega) (fun v hv => by simp at hv; obtain ⟨z, _, rfl⟩ := hv; rfl)
    have hrow : ((hcs h).toList.take (f * 5) ++ r.map (Value.int .i64) ++ (hcs h).toList.drop (f * 5 + (r.map (Value.int .i64)).length)).toArray = hcs (putRow h f r) := by
      unfold hcs putRow
      simp [List.map_take, List.map_drop]
    rw [hrow] at hrun
    have hlen : (goInt (r.map (Value.int .i64)).length) = Value.int .i64 n := by rw [List.length_map, hrn]; rfl
    rw [hlen] at hrun
    simp [BigFrame.execOp_builtin, BigFrame.builtin_copy, hx, hy, hrun, Result.andThen]
    refine hK' _ _ (hK _ (setRow_heap _ _ _ _ _ _ hb) ⟨rfl, rfl, rfl, by simp [World.setRow], fun k hk hne => ?_⟩ (by simp [World.setRow]))
    unfold World.setRow
    rw [Array.getElem?_modify, if_neg (fun e => hne (by rw [e]))]

theorem putRow_get {h r : List Int} {f : Nat} (hl : h.length = 15) (hf : f < 3) (hr : r.length ≤ 5) (i : Nat) : (putRow h f r).getD i 0 = if f * 5 ≤ i ∧ i < f * 5 + r.length then r.getD (i - f * 5) 0 else h.getD i 0 := by
  have ht : (h.take (f * 5)).length = f * 5 := by rw [List.length_take]; omega
  unfold putRow
  simp only [List.getD_eq_getElem?_getD]
  by_cases h1 : i < f * 5
  · rw [if_neg (by omega), List.append_assoc, List.getElem?_append_left (by omega), List.getElem?_take_of_lt h1]
  · by_cases h2 : i < f * 5 + r.length
    · rw [if_pos ⟨by omega, h2⟩, List.getElem?_append_left (by rw [List.length_append, ht]; exact h2), List.getElem?_append_right (by omega), ht]
    · rw [if_neg (by omega), List.getElem?_append_right (by rw [List.length_append, ht]; omega), List.length_append, ht, List.getElem?_drop]
      congr 2
      omega
def fillTo (heads : List (List Int)) : Nat → List Int
  | 0 => List.replicate 15 0
  | k + 1 => putRow (fillTo heads k) k (heads.getD k [])
theorem fillTo_len {heads : List (List Int)} (h5 : ∀ r ∈ heads, r.length ≤ 5) : ∀ k, k ≤ 3 → (fillTo heads k).length = 15
  | 0, _ => by simp [fillTo]
  | k + 1, hk => by
    unfold fillTo
    refine putRow_len (fillTo_len h5 k (by omega)) (by omega) ?_
    rw [List.getD_eq_getElem?_getD]
    cases e : heads[k]? with
    | none => simp
    | some r => exact h5 r (List.mem_of_getElem? e)
theorem fillTo_get {heads : List (List Int)} (h5 : ∀ r ∈ heads, r.length ≤ 5) : ∀ k, k ≤ 3 → ∀ i, (fillTo heads k).getD i 0 = if i / 5 < k then (heads.getD (i / 5) []).getD (i % 5) 0 else 0
  | 0, _, i => by
    rw [if_neg (by omega)]
    unfold fillTo
    rw [List.getD_eq_getElem?_getD, List.getElem?_replicate]
    split <;> rfl
  | k + 1, hk, i => by
    have hr : (heads.getD k []).length ≤ 5 := by
      rw [List.getD_eq_getElem?_getD]
      cases e : heads[k]? with
      | none => simp
      | some r => exact h5 r (List.mem_of_getElem? e)
    unfold fillTo
    rw [putRow_get (fillTo_len h5 k (by omega)) (by omega) hr, fillTo_get h5 k (by omega)]
    by_cases h1 : i / 5 = k
    · rw [if_pos (show i / 5 < k + 1 by omega), if_neg (show ¬ i / 5 < k by omega), h1]
      have e1 : i - k * 5 = i % 5 := by omega
      by_cases h2 : k * 5 ≤ i ∧ i < k * 5 + (heads.getD k []).length
      · rw [if_pos h2, e1]
      · rw [if_neg h2]
        rw [List.getD_eq_getElem?_getD, List.getElem?_eq_none (by omega)]
        rfl
    · rw [if_neg (show ¬ (k * 5 ≤ i ∧ i < k * 5 + (heads.getD k []).length) by omega)]
      by_cases h3 : i / 5 < k
      · rw [if_pos h3, if_pos (by omega)]
      · rw [if_neg h3, if_neg (by omega)]
theorem fillTo_all {heads : List (List Int)} (h5 : ∀ r ∈ heads, r.length ≤ 5) (h3 : heads.length ≤ 3) : fillTo heads heads.length = firstH heads := by
  have hl := fillTo_len h5 heads.length h3
  apply List.ext_getElem?
  intro i
  by_cases hi : i < 15
  · have hg := fillTo_get h5 heads.length h3 i
    rw [List.getD_eq_getElem?_getD, List.getElem?_eq_getElem (by omega), Option.getD_some] at hg
    rw [List.getElem?_eq_getElem (by omega), hg]
    unfold firstH
    rw [List.getElem?_map, List.getElem?_range hi, Option.map_some]
    by_cases h1 : i / 5 < heads.length
    · rw [if_pos h1]
    · rw [if_neg h1, List.getD_eq_getElem?_getD (l := heads), List.getElem?_eq_none (by omega)]; rfl
  · rw [List.getElem?_eq_none (by omega), List.getElem?_eq_none (by unfold firstH; simp; omega)]

set_option maxRecDepth 100000 in
set_option maxHeartbeats 2000000 in
theorem first_any (p : Nat) (t : Int) (A : Option Addr) (n c : Nat) (l : List Mk) (ks ds : Value) (HA : Option Addr) (hc : Nat) (heads : List (List Int)) (deed owner now : Int) (w : World) (hB : Book w p t A n c l ks (.slice HA heads.length hc) ds deed owner now) (hG : Grid w HA heads.length heads) (h3 : heads.length ≤ 3) (h5 : ∀ r ∈ heads, r.length ≤ 5) :
    Calls Try.prog 108 #[.pointer (some ⟨p, 0, none⟩)] w fun e w' => e = .returned (.agg (hcs (firstH heads))) ∧ Below w.heap.size w w' := by
  obtain ⟨W, hW⟩ : ∃ W, W = (w.alloc (Obj.cells #[.int .i64 0, .int .i64 0, .int .i64 0, .int .i64 0, .int .i64 0, .int .i64 0, .int .i64 0, .int .i64 0, .int .i64 0, .int .i64 0, .int .i64 0, .int .i64 0, .int .i64 0, .int .i64 0, .int .i64 0] 126)).alloc (Obj.cells #[.int .i64 0, .int .i64 0, .int .i64 0, .int .i64 0, .int .i64 0, .int .i64 0, .int .i64 0, .int .i64 0, .int .i64 0, .int .i64 0, .int .i64 0, .int .i64 0, .int .i64 0, .int .i64 0, .int .i64 0] 126) := ⟨_, rfl⟩
  have b0 : W.heap[w.heap.size]? = some (hObj (List.replicate 15 0)) := by rw [hW]; exact hblk_alloc (alloc_at rfl) _
  have b1 : W.heap[w.heap.size + 1]? = some (hObj (fillTo heads 0)) := by rw [hW]; exact alloc_at (by simp)
  have hBW : Below w.heap.size w W := by rw [hW]; exact bal (bal0 w _) (Nat.le_refl _) _
  have hp := bheap hB.hp hBW (Nat.le_refl _)
  obtain ⟨p0, p1, p2, p3, -⟩ := blkB hp
  have hpl := heap_lt hB.hp
  have HW := Lib.hid hW
  obtain ⟨r, hr⟩ : ∃ r, r = w.heap.size := ⟨_, rfl⟩
  have HR := Lib.hid hr
  go_enter Try.func108, Try.ntmps108
  go_upto_region 2 with (fail)
  rw [← hW, ← hr]
  rw [← hr] at b0 b1 hBW hpl
  have HX := Lib.hid (And.intro hBW (And.intro hG (And.intro b0 b1)))
  have H35 := Lib.hid (And.intro h3 h5)
  clear hW hr b0 b1 hBW hp hB hG h3 h5
  go_wp2_with fail
  go_loopg [12] heads.length (fun g iv wr => ∃ k : Nat, k + g = heads.length ∧ iv = .int .i64 k ∧ wr.heap[r]? = some (hObj (List.replicate 15 0)) ∧ wr.heap[r + 1]? = some (hObj (fillTo heads k)) ∧ Below r w wr)
  case atStart => exact ⟨0, by omega, rfl, HX.out.2.2.1, HX.out.2.2.2, HX.out.1⟩
  case round =>
    obtain ⟨k, hk', rfl, f0, f1, hBr⟩ := hrel
    have hGr := HX.out.2.1.below hBr (Nat.le_of_eq HR.out.symm)
    have hzr := heap_lt f1
    by_cases hlt : k < heads.length
    · obtain ⟨bi, oi, Bx, row, cx, hA1, hbi, hrow, hcx, hin, hlc, hcm⟩ := hGr.get hlt
      subst hA1
      have hr5 := H35.out.2 row (List.mem_of_getElem? hrow)
      have hk3 : k < 3 := by have := H35.out.1; omega
      have hl := fillTo_len H35.out.2 k (by omega)
      have hnx : fillTo heads (k + 1) = putRow (fillTo heads k) k row := by
        conv => lhs; unfold fillTo
        rw [List.getD_eq_getElem?_getD, hrow]; rfl
      have i0 : (0 : Int) ≤ (k : Int) := by omega
      have i1 : (k : Int) < (heads.length : Int) := by omega
      have i3 : (k : Int) < 3 := by omega
      have HKM := Lib.hid (And.intro (show gk - 1 < gk by omega) (And.intro (show k + 1 + (gk - 1) = heads.length by omega) (show Value.int .i64 ((k : Int) + 1) = Value.int .i64 ((k + 1 : Nat) : Int) by push_cast; rfl)))
      have HN := Lib.hid (And.intro hnx (And.intro f0 hBr))
      clear hnx f0 hBr hGr hk' hrow
      go_wp2_with ((with_reducible apply wp_copyH f1 hl hk3 hin hr5); (rfl); (rfl); (rfl); (rfl); intro w2 f12 g2 z2)
      go_roundg (gk - 1)
      case measure => exact HKM.out.1
      case rel => exact ⟨k + 1, HKM.out.2.1, HKM.out.2.2, gblk g2 HN.out.2.1 (by omega), by rw [HN.out.1]; exact f12, HN.out.2.2.grown g2 (by omega) (fun j hj => by cases hj; omega)⟩
    · obtain rfl : k = heads.length := by omega
      have hl := fillTo_len H35.out.2 heads.length H35.out.1
      have hfin := fillTo_all H35.out.2 H35.out.1
      rw [hfin] at f1 hl
      obtain ⟨y, hy⟩ : ∃ y, y = firstH heads := ⟨_, rfl⟩
      have HY := Lib.hid hy
      rw [← hy] at f1 hl
      have HBR := Lib.hid hBr
      clear hGr hk' hfin hy hBr
      have h15 : (hcs (List.replicate 15 0)).size = 15 := by rw [hcs_size, List.length_replicate]
      go_wp2_with (first
        | ((with_reducible apply wp_loadH f1 hl); (rfl); (rfl); (rfl))
        | ((with_reducible apply wp_storeH f0 h15 hl); (rfl); (rfl); (rfl); (rfl); intro w2 f02 g2 z2))
      have HB2 := Lib.hid (HBR.out.grown g2 (by omega) (fun j hj => by cases hj; omega))
      obtain ⟨a0, a1, a2, a3, a4, a5, a6, a7, a8, a9, a10, a11, a12, a13, a14, hc15, hcell⟩ := split15 hl
      obtain ⟨y0, y1, y2, y3, y4, y5, y6, y7, y8, y9, y10, y11, y12, y13, y14⟩ := hcell _ _ f02
      exact bodyPost_ret (v := .agg (hcs y)) (by simp [results, Try.f108, go_sem, ← hc15, y0, y1, y2, y3, y4, y5, y6, y7, y8, y9, y10, y11, y12, y13, y14]) rfl ⟨by rw [HY.out], by rw [← HR.out]; exact HB2.out⟩
end Go.Proofs.Ytgnjknihgjdedaa
namespace Go.Proofs.Ytgnjknihgjdedaa
open Go.RowKit Go.MapKept
set_option linter.unusedVariables false
set_option linter.unusedSimpArgs false

theorem intK : Maps.Keyed Try.prog 3 := Maps.int_keyed Try.underlying3
theorem keyIS {k : Int} (hk : -9223372036854775808 ≤ k ∧ k ≤ 9223372036854775807) : ∃ l, keyOf Try.prog 3 (.int .i64 k) = some l := ⟨_, Maps.keyOf_int_mk Try.underlying3 (WalkArith.wf_i64 hk)⟩
def SmallKeys (es : List MapEntry) : Prop := ∀ e ∈ es, ∃ q : Nat, e.key = .int .i64 (q : Int) ∧ q ≤ 100
theorem run_getI {W : World} {D clock : Nat} {es : Array MapEntry} (hh : W.heap[D]? = some (.map es clock)) : (getObj D).run Try.prog W = .ok (.map es clock) W := by simp [getObj, Sem.run, hh]
theorem run_setI {W : World} {D clock : Nat} {es : Array MapEntry} (hh : W.heap[D]? = some (.map es clock)) (o : Obj) : (setObj D o).run Try.prog W = .ok () { W with heap := W.heap.setIfInBounds D o } := by simp [setObj, Sem.run, hh]
theorem alloc_set (w : World) (m o : Obj) : ({ (w.alloc m) with heap := (w.alloc m).heap.setIfInBounds w.heap.size o } : World) = w.alloc o := by
  have h : (w.heap.push m).setIfInBounds w.heap.size o = w.heap.push o := by
    apply Array.ext_getElem?
    intro i
    by_cases hi : i = w.heap.size
    · subst hi
      rw [Array.getElem?_setIfInBounds_self_of_lt (by simp)]
      simp
    · rw [Array.getElem?_setIfInBounds_ne (fun e => hi e.symm), Array.getElem?_push, Array.getElem?_push, if_neg hi, if_neg hi]
  show ({ (w.alloc m) with heap := (w.heap.push m).setIfInBounds w.heap.size o } : World) = w.alloc o
  rw [h]; rfl
set_option maxRecDepth 100000 in
theorem run_putI {w : World} {es : Array MapEntry} {clock k : Nat} {v : Value} (hs : SmallKeys es.toList) (hk : k ≤ 100) (hno : ∀ e ∈ es.toList, e.key ≠ .int .i64 (k : Int)) :
    (Instr.mapUpdate 188 (.map (some w.heap.size)) (.int .i64 (k : Int)) v).run Try.prog (w.alloc (.map es clock)) = .ok () (w.alloc (.map (es.push ⟨.int .i64 (k : Int), v, clock⟩) (clock + 1))) := by
  obtain ⟨l, hl⟩ := keyIS (k := (k : Int)) (by omega)
  have hh : (w.alloc (.map es clock)).heap[w.heap.size]? = some (.map es clock) := alloc_at rfl
  have hu := run_underlying (P := Try.prog) (w := w.alloc (.map es clock)) Try.underlying188
  have hg := run_getI hh
  have hset : ∀ o, (setObj w.heap.size o).run Try.prog (w.alloc (.map es clock)) = .ok () (w.alloc o) := fun o => (run_setI hh o).trans (by rw [alloc_set])
  have hck := fun em => intK.check (w.alloc (.map es clock)) em hl
  rcases intK.find (w.alloc (.map es clock)) hl es.toList (fun e he => by obtain ⟨q, hq, hq'⟩ := hs e he; rw [hq]; exact keyIS (by omega)) with ⟨hr, _⟩ | ⟨j, e, hr, hj, hke⟩
  · simp [Instr.mapUpdate, hu, hg, hck, hr, hset]
  · exact absurd hke (hno e (List.mem_of_getElem? hj))
def doesM (p : Nat) : Array MapEntry := #[⟨.int .i64 1, (.func (.func 111) #[.pointer (some ⟨p, 0, none⟩)] #[]), 0⟩, ⟨.int .i64 2, (.func (.func 112) #[.pointer (some ⟨p, 0, none⟩)] #[]), 1⟩, ⟨.int .i64 3, (.func (.func 113) #[.pointer (some ⟨p, 0, none⟩)] #[]), 2⟩, ⟨.int .i64 4, (.func (.func 114) #[.pointer (some ⟨p, 0, none⟩)] #[]), 3⟩, ⟨.int .i64 5, (.func (.func 115) #[.pointer (some ⟨p, 0, none⟩)] #[]), 4⟩, ⟨.int .i64 6, (.func (.func 116) #[.pointer (some ⟨p, 0, none⟩)] #[]), 5⟩]
set_option maxRecDepth 100000 in
theorem small_does (p : Nat) : SmallKeys (doesM p).toList := by
  intro e he
  simp [doesM] at he
  rcases he with rfl | rfl | rfl | rfl | rfl | rfl
  · exact ⟨1, rfl, by decide⟩
  · exact ⟨2, rfl, by decide⟩
  · exact ⟨3, rfl, by decide⟩
  · exact ⟨4, rfl, by decide⟩
  · exact ⟨5, rfl, by decide⟩
  · exact ⟨6, rfl, by decide⟩
set_option maxRecDepth 100000 in
theorem run_does {w : World} {D clock p k : Nat} (h : w.heap[D]? = some (.map (doesM p) clock)) {e : MapEntry} (he : (doesM p)[k]? = some e) (hk : k < 6) :
    (Instr.lookup 188 (.map (some D)) (.int .i64 ((k : Int) + 1)) false).run Try.prog w = .ok e.val w := by
  obtain ⟨l, hl⟩ := keyIS (k := (k : Int) + 1) (by omega)
  have hu := run_underlying (P := Try.prog) (w := w) Try.underlying188
  have hg : (getObj D).run Try.prog w = .ok (.map (doesM p) clock) w := by simp [getObj, Sem.run, h]
  have hck := fun em => intK.check w em hl
  have hkey : e.key = .int .i64 ((k : Int) + 1) := by
    obtain rfl | rfl | rfl | rfl | rfl | rfl : k = 0 ∨ k = 1 ∨ k = 2 ∨ k = 3 ∨ k = 4 ∨ k = 5 := by omega
    all_goals (simp [doesM] at he; rw [← he]; rfl)
  rcases intK.find w hl (doesM p).toList (fun e he => by obtain ⟨q, hq, hq'⟩ := small_does p e he; rw [hq]; exact keyIS (by omega)) with ⟨hr, hno⟩ | ⟨j, e', hr, hj, hke⟩
  · exact absurd hkey (hno e (List.mem_of_getElem? (by simpa using he)))
  · have hee : e' = e := by
      have hj' : (doesM p)[j]? = some e' := by simpa using hj
      have hj6 : j < 6 := by have := (Array.getElem?_eq_some_iff.1 hj').1; simpa [doesM] using this
      have hjk : j = k := by
        have : e'.key = .int .i64 ((j : Int) + 1) := by
          obtain rfl | rfl | rfl | rfl | rfl | rfl : j = 0 ∨ j = 1 ∨ j = 2 ∨ j = 3 ∨ j = 4 ∨ j = 5 := by omega
          all_goals (simp [doesM] at hj'; rw [← hj']; rfl)
        rw [this] at hke
        have h2 := (Value.int.inj hke).2
        omega
      rw [hjk, he] at hj'
      exact (Option.some.inj hj').symm
    rw [hee] at hr
    simp [Instr.lookup, hu, hg, hck, hr]

set_option maxRecDepth 100000 in
theorem does_any (p : Nat) (w : World) :
    Calls Try.prog 109 #[.pointer (some ⟨p, 0, none⟩)] w fun e w' => e = .returned (.map (some w.heap.size)) ∧ w' = w.alloc (.map (doesM p) 6) := by
  have hmm := @run_makeMap Try.prog
  have q0 : (Instr.mapUpdate 188 (.map (some w.heap.size)) (.int .i64 1) (.func (.func 111) #[.pointer (some ⟨p, 0, none⟩)] #[])).run Try.prog (w.alloc (.map #[] 0)) = .ok () (w.alloc (.map #[⟨.int .i64 1, (.func (.func 111) #[.pointer (some ⟨p, 0, none⟩)] #[]), 0⟩] 1)) := run_putI (es := #[]) (clock := 0) (k := 1) (fun e he => by simp at he) (by decide) (fun e he => by simp at he)
  have q1 : (Instr.mapUpdate 188 (.map (some w.heap.size)) (.int .i64 2) (.func (.func 112) #[.pointer (some ⟨p, 0, none⟩)] #[])).run Try.prog (w.alloc (.map #[⟨.int .i64 1, (.func (.func 111) #[.pointer (some ⟨p, 0, none⟩)] #[]), 0⟩] 1)) = .ok () (w.alloc (.map #[⟨.int .i64 1, (.func (.func 111) #[.pointer (some ⟨p, 0, none⟩)] #[]), 0⟩, ⟨.int .i64 2, (.func (.func 112) #[.pointer (some ⟨p, 0, none⟩)] #[]), 1⟩] 2)) := run_putI (es := #[⟨.int .i64 1, (.func (.func 111) #[.pointer (some ⟨p, 0, none⟩)] #[]), 0⟩]) (clock := 1) (k := 2) (fun e he => by simp at he; rcases he with rfl; all_goals (first | exact ⟨1, rfl, by decide⟩ | exact ⟨2, rfl, by decide⟩ | exact ⟨3, rfl, by decide⟩ | exact ⟨4, rfl, by decide⟩ | exact ⟨5, rfl, by decide⟩)) (by decide) (fun e he => by simp at he; rcases he with rfl; all_goals (intro h; injection h with _ h2; omega))
  have q2 : (Instr.mapUpdate 188 (.map (some w.heap.size)) (.int .i64 3) (.func (.func 113) #[.pointer (some ⟨p, 0, none⟩)] #[])).run Try.prog (w.alloc (.map #[⟨.int .i64 1, (.func (.func 111) #[.pointer (some ⟨p, 0, none⟩)] #[]), 0⟩, ⟨.int .i64 2, (.func (.func 112) #[.pointer (some ⟨p, 0, none⟩)] #[]), 1⟩] 2)) = .ok () (w.alloc (.map #[⟨.int .i64 1, (.func (.func 111) #[.pointer (some ⟨p, 0, none⟩)] #[]), 0⟩, ⟨.int .i64 2, (.func (.func 112) #[.pointer (some ⟨p, 0, none⟩)] #[]), 1⟩, ⟨.int .i64 3, (.func (.func 113) #[.pointer (some ⟨p, 0, none⟩)] #[]), 2⟩] 3)) := run_putI (es := #[⟨.int .i64 1, (.func (.func 111) #[.pointer (some ⟨p, 0, none⟩)] #[]), 0⟩, ⟨.int .i64 2, (.func (.func 112) #[.pointer (some ⟨p, 0, none⟩)] #[]), 1⟩]) (clock := 2) (k := 3) (fun e he => by simp at he; rcases he with rfl | rfl; all_goals (first | exact ⟨1, rfl, by decide⟩ | exact ⟨2, rfl, by decide⟩ | exact ⟨3, rfl, by decide⟩ | exact ⟨4, rfl, by decide⟩ | exact ⟨5, rfl, by decide⟩)) (by decide) (fun e he => by simp at he; rcases he with rfl | rfl; all_goals (intro h; injection h with _ h2; omega))
  have q3 : (Instr.mapUpdate 188 (.map (some w.heap.size)) (.int .i64 4) (.func (.func 114) #[.pointer (some ⟨p, 0, none⟩)] #[])).run Try.prog (w.alloc (.map #[⟨.int .i64 1, (.func (.func 111) #[.pointer (some ⟨p, 0, none⟩)] #[]), 0⟩, ⟨.int .i64 2, (.func (.func 112) #[.pointer (some ⟨p, 0, none⟩)] #[]), 1⟩, ⟨.int .i64 3, (.func (.func 113) #[.pointer (some ⟨p, 0, none⟩)] #[]), 2⟩] 3)) = .ok () (w.alloc (.map #[⟨.int .i64 1, (.func (.func 111) #[.pointer (some ⟨p, 0, none⟩)] #[]), 0⟩, ⟨.int .i64 2, (.func (.func 112) #[.pointer (some ⟨p, 0, none⟩)] #[]), 1⟩, ⟨.int .i64 3, (.func (.func 113) #[.pointer (some ⟨p, 0, none⟩)] #[]), 2⟩, ⟨.int .i64 4, (.func (.func 114) #[.pointer (some ⟨p, 0, none⟩)] #[]), 3⟩] 4)) := run_putI (es := #[⟨.int .i64 1, (.func (.func 111) #[.pointer (some ⟨p, 0, none⟩)] #[]), 0⟩, ⟨.int .i64 2, (.func (.func 112) #[.pointer (some ⟨p, 0, none⟩)] #[]), 1⟩, ⟨.int .i64 3, (.func (.func 113) #[.pointer (some ⟨p, 0, none⟩)] #[]), 2⟩]) (clock := 3) (k := 4) (fun e he => by simp at he; rcases he with rfl | rfl | rfl; all_goals (first | exact ⟨1, rfl, by decide⟩ | exact ⟨2, rfl, by decide⟩ | exact ⟨3, rfl, by decide⟩ | exact ⟨4, rfl, by decide⟩ | exact ⟨5, rfl, by decide⟩)) (by decide) (fun e he => by simp at he; rcases he with rfl | rfl | rfl; all_goals (intro h; injection h with _ h2; omega))
  have q4 : (Instr.mapUpdate 188 (.map (some w.heap.size)) (.int .i64 5) (.func (.func 115) #[.pointer (some ⟨p, 0, none⟩)] #[])).run Try.prog (w.alloc (.map #[⟨.int .i64 1, (.func (.func 111) #[.pointer (some ⟨p, 0, none⟩)] #[]), 0⟩, ⟨.int .i64 2, (.func (.func 112) #[.pointer (some ⟨p, 0, none⟩)] #[]), 1⟩, ⟨.int .i64 3, (.func (.func 113) #[.pointer (some ⟨p, 0, none⟩)] #[]), 2⟩, ⟨.int .i64 4, (.func (.func 114) #[.pointer (some ⟨p, 0, none⟩)] #[]), 3⟩] 4)) = .ok () (w.alloc (.map #[⟨.int .i64 1, (.func (.func 111) #[.pointer (some ⟨p, 0, none⟩)] #[]), 0⟩, ⟨.int .i64 2, (.func (.func 112) #[.pointer (some ⟨p, 0, none⟩)] #[]), 1⟩, ⟨.int .i64 3, (.func (.func 113) #[.pointer (some ⟨p, 0, none⟩)] #[]), 2⟩, ⟨.int .i64 4, (.func (.func 114) #[.pointer (some ⟨p, 0, none⟩)] #[]), 3⟩, ⟨.int .i64 5, (.func (.func 115) #[.pointer (some ⟨p, 0, none⟩)] #[]), 4⟩] 5)) := run_putI (es := #[⟨.int .i64 1, (.func (.func 111) #[.pointer (some ⟨p, 0, none⟩)] #[]), 0⟩, ⟨.int .i64 2, (.func (.func 112) #[.pointer (some ⟨p, 0, none⟩)] #[]), 1⟩, ⟨.int .i64 3, (.func (.func 113) #[.pointer (some ⟨p, 0, none⟩)] #[]), 2⟩, ⟨.int .i64 4, (.func (.func 114) #[.pointer (some ⟨p, 0, none⟩)] #[]), 3⟩]) (clock := 4) (k := 5) (fun e he => by simp at he; rcases he with rfl | rfl | rfl | rfl; all_goals (first | exact ⟨1, rfl, by decide⟩ | exact ⟨2, rfl, by decide⟩ | exact ⟨3, rfl, by decide⟩ | exact ⟨4, rfl, by decide⟩ | exact ⟨5, rfl, by decide⟩)) (by decide) (fun e he => by simp at he; rcases he with rfl | rfl | rfl | rfl; all_goals (intro h; injection h with _ h2; omega))
  have q5 : (Instr.mapUpdate 188 (.map (some w.heap.size)) (.int .i64 6) (.func (.func 116) #[.pointer (some ⟨p, 0, none⟩)] #[])).run Try.prog (w.alloc (.map #[⟨.int .i64 1, (.func (.func 111) #[.pointer (some ⟨p, 0, none⟩)] #[]), 0⟩, ⟨.int .i64 2, (.func (.func 112) #[.pointer (some ⟨p, 0, none⟩)] #[]), 1⟩, ⟨.int .i64 3, (.func (.func 113) #[.pointer (some ⟨p, 0, none⟩)] #[]), 2⟩, ⟨.int .i64 4, (.func (.func 114) #[.pointer (some ⟨p, 0, none⟩)] #[]), 3⟩, ⟨.int .i64 5, (.func (.func 115) #[.pointer (some ⟨p, 0, none⟩)] #[]), 4⟩] 5)) = .ok () (w.alloc (.map #[⟨.int .i64 1, (.func (.func 111) #[.pointer (some ⟨p, 0, none⟩)] #[]), 0⟩, ⟨.int .i64 2, (.func (.func 112) #[.pointer (some ⟨p, 0, none⟩)] #[]), 1⟩, ⟨.int .i64 3, (.func (.func 113) #[.pointer (some ⟨p, 0, none⟩)] #[]), 2⟩, ⟨.int .i64 4, (.func (.func 114) #[.pointer (some ⟨p, 0, none⟩)] #[]), 3⟩, ⟨.int .i64 5, (.func (.func 115) #[.pointer (some ⟨p, 0, none⟩)] #[]), 4⟩, ⟨.int .i64 6, (.func (.func 116) #[.pointer (some ⟨p, 0, none⟩)] #[]), 5⟩] 6)) := run_putI (es := #[⟨.int .i64 1, (.func (.func 111) #[.pointer (some ⟨p, 0, none⟩)] #[]), 0⟩, ⟨.int .i64 2, (.func (.func 112) #[.pointer (some ⟨p, 0, none⟩)] #[]), 1⟩, ⟨.int .i64 3, (.func (.func 113) #[.pointer (some ⟨p, 0, none⟩)] #[]), 2⟩, ⟨.int .i64 4, (.func (.func 114) #[.pointer (some ⟨p, 0, none⟩)] #[]), 3⟩, ⟨.int .i64 5, (.func (.func 115) #[.pointer (some ⟨p, 0, none⟩)] #[]), 4⟩]) (clock := 5) (k := 6) (fun e he => by simp at he; rcases he with rfl | rfl | rfl | rfl | rfl; all_goals (first | exact ⟨1, rfl, by decide⟩ | exact ⟨2, rfl, by decide⟩ | exact ⟨3, rfl, by decide⟩ | exact ⟨4, rfl, by decide⟩ | exact ⟨5, rfl, by decide⟩)) (by decide) (fun e he => by simp at he; rcases he with rfl | rfl | rfl | rfl | rfl; all_goals (intro h; injection h with _ h2; omega))
  go_enter Try.func109, Try.ntmps109
  go_wp2
  go_ret
  exact ⟨rfl, rfl⟩
end Go.Proofs.Ytgnjknihgjdedaa
namespace Go.Proofs.Ytgnjknihgjdedaa
open Go.RowKit Go.MapKept
set_option linter.unusedVariables false
set_option linter.unusedSimpArgs false

def kf (k : Int) : FuncId := if k = 1 then 111 else if k = 2 then 112 else if k = 3 then 113 else if k = 4 then 114 else if k = 5 then 115 else 116
theorem deed_any (p : Nat) (t : Int) (A : Option Addr) (c : Nat) (l : List Mk) (ks hs ds : Value) (deed owner now : Int) (h : List Int) (d : De) (nf : Nat) (B M : Nat) (K : List (List Int)) (w : World) (hA : Ask l.length nf B M K h d w) (hB : Book w p t A l.length c l ks hs ds deed owner now) :
    Calls Try.prog (kf d.kind) #[.pointer (some ⟨p, 0, none⟩), .agg (hcs h), dv d, .func (.func 110) #[] #[.pointer (some ⟨B, 0, none⟩)]] w fun e w' => e = .returned (.tuple #[]) ∧ PutsH w w' M (succ t l (passI deed owner now) d h) := by
  have hk := hA.hd.k
  obtain h1 | h1 | h1 | h1 | h1 | h1 : d.kind = 1 ∨ d.kind = 2 ∨ d.kind = 3 ∨ d.kind = 4 ∨ d.kind = 5 ∨ d.kind = 6 := by omega
  · rw [show succ t l (passI deed owner now) d h = [hadd h d.flock.toNat d.owner.toNat d.many] by unfold succ; rw [if_pos h1], show kf d.kind = 111 by rw [h1]; rfl]
    exact born_any _ h d _ _ B M K w hA h1
  · rw [show succ t l (passI deed owner now) d h = (match mvd h d.flock.toNat d.owner.toNat (-d.many) with | some x => [hadd x d.flock.toNat d.other.toNat d.many] | none => []) by unfold succ; rw [if_neg (by omega), if_pos h1]; cases mvd h d.flock.toNat d.owner.toNat (-d.many) <;> rfl, show kf d.kind = 112 by rw [h1]; rfl]
    exact sold_any _ h d _ _ B M K w hA h1
  · rw [show succ t l (passI deed owner now) d h = (match mvd h d.flock.toNat d.owner.toNat (-d.many) with | some x => [x] | none => []) by unfold succ; rw [if_neg (by omega), if_neg (by omega), if_pos h1]; cases mvd h d.flock.toNat d.owner.toNat (-d.many) <;> rfl, show kf d.kind = 113 by rw [h1]; rfl]
    exact eaten_any _ h d _ _ B M K w hA h1
  · rw [show succ t l (passI deed owner now) d h = lostJ l.length d.flock.toNat l.length h d.many.toNat by unfold succ; rw [if_neg (by omega), if_neg (by omega), if_neg (by omega), if_pos h1], show kf d.kind = 114 by rw [h1]; rfl]
    exact lost_any p t A c l ks hs ds deed owner now h d nf B M K w hA hB h1
  · rw [show succ t l (passI deed owner now) d h = strayL d.flock.toNat d.tof.toNat h ((mayL t l d.s).filter (passI deed owner now)) by unfold succ; rw [if_neg (by omega), if_neg (by omega), if_neg (by omega), if_neg (by omega), if_pos h1], show kf d.kind = 115 by rw [h1]; rfl]
    exact strayed_any p t A _ c l ks hs ds deed owner now h d nf B M K w hA hB h1
  · rw [show succ t l (passI deed owner now) d h = (if countB d h = true then [h] else []) by unfold succ; rw [if_neg (by omega), if_neg (by omega), if_neg (by omega), if_neg (by omega), if_neg (by omega)], show kf d.kind = 116 by rw [h1]; rfl]
    exact counted_any _ h d _ _ B M K w hA h1
theorem look_kind {w : World} {D clock p : Nat} {k : Int} (h : w.heap[D]? = some (.map (doesM p) clock)) (h1 : 1 ≤ k) (h6 : k ≤ 6) :
    (Instr.lookup 188 (.map (some D)) (.int .i64 k) false).run Try.prog w = .ok (.func (.func (kf k)) #[.pointer (some ⟨p, 0, none⟩)] #[]) w := by
  obtain rfl | rfl | rfl | rfl | rfl | rfl : k = 1 ∨ k = 2 ∨ k = 3 ∨ k = 4 ∨ k = 5 ∨ k = 6 := by omega
  · exact run_does (k := 0) h (e := _) rfl (by decide)
  · exact run_does (k := 1) h (e := _) rfl (by decide)
  · exact run_does (k := 2) h (e := _) rfl (by decide)
  · exact run_does (k := 3) h (e := _) rfl (by decide)
  · exact run_does (k := 4) h (e := _) rfl (by decide)
  · exact run_does (k := 5) h (e := _) rfl (by decide)
end Go.Proofs.Ytgnjknihgjdedaa
namespace Go.Proofs.Ytgnjknihgjdedaa
open Go.RowKit
set_option linter.unusedVariables false
set_option linter.unusedSimpArgs false

def SeqE {α : Type} (F : Fence) (n : Nat) (P : Program) (g : Nat) (lb : Array Value) (enc : α → Array Value) (Ex : World → World → Prop) (S Sp : List α → Prop) (w : World) : Prop :=
  ∀ (l : Nat) (J Jx : List α → World → Prop) (W : World), Below w.heap.size w W → AbidesFrom W.heap.size J → AbidesFrom W.heap.size Jx → (∀ s A B, J s A → Ex A B → J s B) →
    (∀ pre x V, J pre V → Sp (pre ++ [x]) → YieldAt F (n - 1) P l (enc x) V fun e V' => (e = .returned (.bool true) ∧ J (pre ++ [x]) V' ∧ KeepsWalks V V') ∨ (e = .returned (.bool false) ∧ Jx (pre ++ [x]) V')) →
    J [] W → CallsIn F n P g (#[.func (.yield l) #[] #[]] ++ lb) W fun e W' => (∃ v, e = .returned v) ∧ ((∃ xs, S xs ∧ J xs W') ∨ ∃ pre, Sp pre ∧ Jx pre W')

def Rec (D : Nat) (r : Loop) (W : World) : Prop := W.heap[D + 1]? = some (.loop r) ∧ W.heap[D]? = some (.deferred (some []))
theorem Rec.ab {D : Nat} {r : Loop} {A B : World} {row : Option Nat} (h : Rec D r A) (hg : A.grownBy B row) (hr : ∀ i, row = some i → ∃ o : Obj, A.heap[i]? = some o ∧ o.isWalk = true) : Rec D r B :=
  ⟨(grownBy_keeps hg hr h.1 rfl).trans h.1, (grownBy_keeps hg hr h.2 rfl).trans h.2⟩
theorem Rec.others {D : Nat} {r : Loop} {A B : World} (h : Rec D r A) (hk : KeepsOthers A B) : Rec D r B := ⟨hk.same _ _ h.1 rfl, hk.same _ _ h.2 rfl⟩
theorem Rec.keeps {D B0 : Nat} {r : Loop} {A B : World} (h : Rec D r A) (hk : KeepsFrom B0 A B) (hB : B0 ≤ D) : Rec D r B := ⟨hk.same _ _ (by omega) h.1 rfl, hk.same _ _ hB h.2 rfl⟩
theorem Rec.turn {D : Nat} {r r' : Loop} {A : World} (h : Rec D r A) : Rec D r' (A.putObj (D + 1) (.loop r')) :=
  ⟨World.putObj_heap_same (Array.getElem?_eq_some_iff.1 h.1).1, (World.putObj_heap_other (by omega)).trans h.2⟩
theorem walks_put {W : World} {l : Nat} {r r' : Loop} (h : W.heap[l]? = some (.loop r)) : KeepsWalks W (W.putObj l (.loop r')) := by
  refine ⟨by simp, fun k o hk ho => ?_⟩
  by_cases e : k = l
  · rw [e, h] at hk
    cases hk
    cases ho
  · exact (World.putObj_heap_other e).trans hk

variable {F : Fence} {n : Nat} {P : Program}
def roundOut {α : Type} (B : Nat) (I : List α → World → Prop) (Ix : Code → List α → World → Prop) (xs : List α) (W : World) : Exit → Act → World → Prop
  | .normal, _, W' => KeepsFrom B W W' ∧ KeepsWalks W W' ∧ I xs W'
  | .ret, _, W' => KeepsFrom B W W' ∧ Ix .ret xs W'
  | .exit id, _, W' => KeepsFrom B W W' ∧ Ix (.exit id) xs W'
  | .goto t, _, W' => KeepsFrom B W W' ∧ Ix (.goto t) xs W'
  | _, _, _ => False

theorem wpIn_rangeE {α : Type} {g : Operand} {ps : Array Tmp} {assign body : Code} {Q : Exit → Act → World → Prop} {a : Act} {w : World}
    (hro : F.round = none) (h1 : 1 ≤ n) {gf : Nat} {lb : Array Value} (hg : a.eval g = .func (.func gf) #[] lb) (hFg : F.fn gf) (eg : ∀ args w, (callFunc gf args).run P w = .ok (.enter gf args) w)
    {enc : α → Array Value} {Ex : World → World → Prop} {S Sp : List α → Prop} (hseq : SeqE F (n - 1) P gf lb enc Ex S Sp w) (hEx : ∀ A B, Ex A B → KeepsOthers A B) (hps : ∀ x, (enc x).size = ps.size)
    (I : List α → World → Prop) (Ix : Code → List α → World → Prop) (hI : OwnFrom w.heap.size I) (hIx : ∀ c, OwnFrom w.heap.size (Ix c)) (hIE : ∀ s A B, I s A → Ex A B → I s B) (h0 : I [] w)
    (Ax : α → Act → World → Prop) (hAx : ∀ x a', OwnFrom w.heap.size (fun (_ : Unit) W => Ax x a' W))
    (hassign : ∀ (l : Nat) (pre : List α) (x : α) (W : World) (K : Act → World → Prop), I pre W → Sp (pre ++ [x]) → (∀ a' W', KeepsFrom w.heap.size W W' → KeepsWalks W W' → I pre W' → Ax x a' W' → K a' W') →
      assign.wpIn (F.inRound l) (n - 1 - 1) P (Exit.then K (fun _ _ _ => False)) { tmps := (ps.zip (enc x)).foldl (fun t (p, v) => t.setIfInBounds p v) a.tmps, defers := [] } W)
    (hbody : ∀ (l : Nat) (pre : List α) (x : α) (a' : Act) (W : World), I pre W → Ax x a' W → Sp (pre ++ [x]) → body.wpIn (F.inRound l) (n - 1 - 1) P (roundOut w.heap.size I Ix (pre ++ [x]) W) a' W)
    (hdone : ∀ (D : Nat) (xs : List α) (W : World), w.heap.size ≤ D → S xs → I xs W → W.heap[D]? = some (.deferred (some [])) → Q .normal { a with defers := { target := .collected D, args := #[] } :: a.defers } W)
    (hstop : ∀ (D : Nat) (c : Code) (pre : List α) (W : World), w.heap.size ≤ D → Sp pre → Ix c pre W → W.heap[D]? = some (.deferred (some [])) → c.wpIn F n P Q { a with defers := { target := .collected D, args := #[] } :: a.defers } W) :
    (Code.rangeFunc g ps assign body).wpIn F n P Q a w := by
  refine wpIn_rangeFunc fun fn hfn => ?_
  rw [hro]
  obtain ⟨D, hD⟩ : ∃ D, D = w.heap.size := ⟨_, rfl⟩
  obtain ⟨rec, hrec⟩ : ∃ rec : LoopState → Option Code → Loop, rec = fun st pe => { state := st, pending := pe, fn, tmps := a.tmps, params := ps, assign, body, defers := D } := ⟨_, rfl⟩
  have rst : ∀ st pe, (rec st pe).state = st := fun st pe => by rw [hrec]
  have rpe : ∀ st pe, (rec st pe).pending = pe := fun st pe => by rw [hrec]
  have rup : ∀ st pe st' pe', { rec st pe with state := st', pending := pe' } = rec st' pe' := fun _ _ _ _ => by rw [hrec]
  have rup1 : ∀ st pe st', { rec st pe with state := st' } = rec st' pe := fun _ _ _ => by rw [hrec]
  obtain ⟨W1, hW1⟩ : ∃ W1, (w.alloc (.deferred (some []))).alloc (.loop (rec .ready none)) = W1 := ⟨_, rfl⟩
  have hz1 : W1.heap.size = D + 2 := by rw [← hW1, hD]; simp
  have hR1 : Rec D (rec .ready none) W1 := by
    have e1 : (w.alloc (.deferred (some []))).heap.size = D + 1 := by rw [hD]; simp
    refine ⟨?_, ?_⟩
    · have := World.alloc_heap_new (w.alloc (.deferred (some []))) (.loop (rec .ready none)); rw [e1] at this; rwa [← hW1]
    · rw [← hW1, Below.heap_alloc _ _ _ (by omega), hD]; exact World.alloc_heap_new w _
  have hI1 : I [] W1 := by rw [← hW1]; exact hI.alloc _ (hI.alloc _ h0)
  have hb1 : Below w.heap.size w W1 := by rw [← hW1]; exact ((Below.refl _ w).alloc (Nat.le_refl _) _).alloc (by simp) _
  refine ⟨D + 1, [{ target := .collected D, args := #[] }], W1, { target := .fn (.func gf) lb, args := #[.func (.yield (D + 1)) #[] #[]] }, W1, gf, #[.func (.yield (D + 1)) #[] #[]] ++ lb, W1, ?_, ?_, ?_, ?_, fun _ => h1, ?_⟩
  · rw [← hW1, hrec, hD]; exact run_enterLoop_outer _ _ _ _ _
  · simp only [resolve, hg]; simp [go_sem]
  · intro f' hf'; simp [Target.leads] at hf'; subst hf'; exact hFg
  · simp [invoke, go_sem, eg]
  -- what is no cells and lies at or behind w's end: it is asked of the iterator's steps
  have nw : ∀ {A B : World} {row : Option Nat}, A.grownBy B row → (∀ r, row = some r → W1.heap.size ≤ r ∧ ∃ o : Obj, A.heap[r]? = some o ∧ o.isWalk = true) → ∀ r, row = some r → w.heap.size ≤ r ∧ ∃ o : Obj, A.heap[r]? = some o ∧ o.isCells = false :=
    fun _ hr r e => by obtain ⟨hB, o, ho, hw⟩ := hr r e; exact ⟨by omega, o, ho, Obj.not_cells_of_walk hw⟩
  refine (hseq (D + 1) (fun pre W => I pre W ∧ Rec D (rec .ready none) W) (fun pre W => ∃ c, Ix c pre W ∧ Rec D (rec .done (some c)) W) W1 hb1
    (fun s A B row hs hg' hr => ⟨hI s A B row hs.1 hg' (nw hg' hr), hs.2.ab hg' fun r e => (hr r e).2⟩)
    (fun s A B row hs hg' hr => by obtain ⟨c, hc, hl⟩ := hs; exact ⟨c, hIx c s A B row hc hg' (nw hg' hr), hl.ab hg' fun r e => (hr r e).2⟩)
    (fun s A B hs hx => ⟨hIE s A B hs.1 hx, hs.2.others (hEx A B hx)⟩) ?round ⟨hI1, hR1⟩).mono ?behind
  case round =>
    rintro pre x V ⟨hi, hR⟩ hsp
    have hy := run_yield (P := P) (args := enc x) hR.1 (by rw [hrec]; exact hps x)
    have e1 : (rec .ready none).fn = fn := by rw [hrec]
    have e2 : (rec .ready none).params = ps := by rw [hrec]
    have e3 : (rec .ready none).tmps = a.tmps := by rw [hrec]
    have e4 : (rec .ready none).assign = assign := by rw [hrec]
    have e5 : (rec .ready none).body = body := by rw [hrec]
    rw [e1, e2, e3, e4, e5] at hy
    refine ⟨fn, _, assign, body, hy, roundIn_of_wpIn hfn (hassign _ pre x V _ hi hsp ?_)⟩
    intro a' U hkf hkw hi2 hax
    have hR2 := hR.keeps hkf (by omega)
    refine ⟨_, run_beginRound hR2.1 (rst _ _), ?_⟩
    rw [rup1]
    have hR3 : Rec D (rec .busy none) (U.putObj (D + 1) (.loop (rec .busy none))) := hR2.turn
    have hk3 := walks_put (r' := rec .busy none) hR2.1
    refine wpIn_mono (hbody _ pre x a' _ (hI.putObj _ hi2 (by omega) hR2.1 rfl) ((hAx x a').putObj (s := ()) _ hax (by omega) hR2.1 rfl) hsp) ?_
    have fin : ∀ (jump : Option Code) (Z : World), KeepsFrom w.heap.size (U.putObj (D + 1) (.loop (rec .busy none))) Z →
        (Instr.endRound (D + 1) jump).run P Z = .ok (.bool jump.isNone) (Z.putObj (D + 1) (.loop (rec (if jump.isNone then .ready else .done) jump))) ∧ Rec D (rec .busy none) Z := fun jump Z hk => by
      have hR4 := hR3.keeps hk (by omega)
      have := run_endRound (P := P) jump hR4.1
      rw [rup] at this
      exact ⟨this, hR4⟩
    intro e a3 Z hp
    cases e with
    | normal =>
      obtain ⟨k1, k2, k3⟩ := hp
      obtain ⟨hr, hR4⟩ := fin none Z k1
      exact ⟨_, _, hr, .inl ⟨rfl, ⟨hI.putObj _ k3 (by omega) hR4.1 rfl, hR4.turn⟩, hkw.trans (hk3.trans (k2.trans (walks_put hR4.1)))⟩⟩
    | ret =>
      obtain ⟨hr, hR4⟩ := fin (some .ret) Z hp.1
      exact ⟨_, _, hr, .inr ⟨rfl, _, (hIx _).putObj _ hp.2 (by omega) hR4.1 rfl, hR4.turn⟩⟩
    | exit id =>
      obtain ⟨hr, hR4⟩ := fin (some (.exit id)) Z hp.1
      exact ⟨_, _, hr, .inr ⟨rfl, _, (hIx _).putObj _ hp.2 (by omega) hR4.1 rfl, hR4.turn⟩⟩
    | goto t =>
      obtain ⟨hr, hR4⟩ := fin (some (.goto t)) Z hp.1
      exact ⟨_, _, hr, .inr ⟨rfl, _, (hIx _).putObj _ hp.2 (by omega) hR4.1 rfl, hR4.turn⟩⟩
    | panic ch => exact hp.elim
    | outgrown => exact hp.elim
  case behind =>
    rintro e Z ⟨⟨v, rfl⟩, (⟨xs, hS, hi, hR⟩ | ⟨pre, hSp, c, hi, hR⟩)⟩
    · have := run_endLoop (P := P) hR.1 (by rw [rst]; simp)
      rw [rup1, rpe] at this
      exact ⟨none, _, this, hdone D xs _ (by omega) hS (hI.putObj _ hi (by omega) hR.1 rfl) hR.turn.2⟩
    · have := run_endLoop (P := P) hR.1 (by rw [rst]; simp)
      rw [rup1, rpe] at this
      exact ⟨some c, _, this, hstop D c pre _ (by omega) hSp ((hIx c).putObj _ hi (by omega) hR.1 rfl) hR.turn.2⟩
end Go.Proofs.Ytgnjknihgjdedaa
