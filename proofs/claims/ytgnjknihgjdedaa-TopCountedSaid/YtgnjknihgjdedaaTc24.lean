/- TopCounted 24: HdF, HdU, HdOw, OwnsT, HdSm. -/
import Derived.Test.YtgnjknihgjdedaaTc23
import Derived.Test.YtgnjknihgjdedaaTc13
import Derived.Test.YtgnjknihgjdedaaTc10
import Derived.Test.YtgnjknihgjdedaaTc07
namespace Go.Proofs.Ytgnjknihgjdedaa
open Go.RowKit Go.MapKept
set_option linter.unusedVariables false
set_option linter.unusedSimpArgs false

def eRn (x : Rn) : List Value := [.int .i64 x.lo, .int .i64 x.hi]
theorem lenRn (x : Rn) : (eRn x).length = 2 := rfl
theorem one_eRn (x : Rn) : ∀ u ∈ eRn x, u.oneCell' = true := by intro u hu; simp [eRn] at hu; rcases hu with rfl | rfl <;> rfl
theorem okRn : ElemOk Try.prog 27 26 2 16 := ElemOk.mk' (z := .agg #[.int .i64 0, .int .i64 0]) Try.underlying27 (by kernel_rfl) rfl (by decide)
abbrev OwnR (w : World) (base : Nat) (v : Value) (l : List Rn) : Prop := Own eRn 26 2 w base v l
theorem Own.now {α : Type} {enc : α → List Value} {e : TypeId} {sz : Nat} {a c : World} {base p : Nat} {v : Value} {l : List α} {O : Int → Obj} (h : Own enc e sz a base v l) (k : NowIn p O a c) (hp : p < base) : Own enc e sz c base v l :=
  h.kept (row := some p) ⟨k.os, k.tape, k.output, k.size, fun j hj hne => k.block j hj (fun e => hne (by rw [e]))⟩ (by
    cases e : v.ownBlock with
    | none => exact .inl rfl
    | some b => right; intro e'; cases e'; have := (Own.lt h _ e).1; omega)

set_option maxRecDepth 100000 in
theorem spansF_any (F : FuncId) (bd : Array Value) (y : Int) (x : List Int) (i : Nat) (r5 ri : Nat) (W : World) (hxl : x.length = 15)
    (hent : ∀ (args : Array Value) (w : World), (callFunc F args).run Try.prog w = .ok (.enter F args) w)
    (h5 : W.heap[r5]? = some (Obj.cells #[.func (.func F) #[] bd] 123 (0, 0))) (hi : W.heap[ri]? = some (Obj.cells #[.int .i64 (i : Int)] 3 (0, 0)))
    (hc : ∀ W', Below W.heap.size W W' → Calls Try.prog F (#[.agg (hcs x), .int .i64 (i : Int)] ++ bd) W' fun e W'' => e = .returned (.int .i64 y) ∧ Below W'.heap.size W' W'') :
    Calls Try.prog 97 #[.agg (hcs x), .pointer (some ⟨r5, 0, none⟩), .pointer (some ⟨ri, 0, none⟩)] W fun e W' => e = .returned (.int .i64 y) ∧ Below W.heap.size W W' := by
  obtain ⟨V, hV⟩ : ∃ V, V = W.alloc (Obj.cells (hcs x) 126) := ⟨_, rfl⟩
  have b0 : V.heap[W.heap.size]? = some (hObj x) := by rw [hV]; exact alloc_at rfl
  have c5 := blk1 (show V.heap[r5]? = _ by rw [hV]; exact hblk_alloc h5 _)
  have ci := blk1 (show V.heap[ri]? = _ by rw [hV]; exact hblk_alloc hi _)
  have hBV : Below W.heap.size W V := by rw [hV]; exact bal0 W _
  have hcV := hc V hBV
  have HV := Lib.hid (And.intro hV hBV)
  clear hc
  go_enter Try.func97, Try.ntmps97
  go_upto_region 1 with (fail)
  rw [← hV]
  obtain ⟨g, hg⟩ : ∃ g, g = W.heap.size := ⟨_, rfl⟩
  have HG := Lib.hid hg
  rw [← hg] at b0 ⊢
  clear hV hg hBV
  go_wp2_with (first
    | ((with_reducible apply wp_loadH b0 hxl); (rfl); (rfl); (rfl))
    | (go_at_fn F; refine hcV.mono ?_; rintro e w6 ⟨rfl, hb6⟩))
  go_ret
  exact ⟨rfl, HV.out.2.trans (hb6.mono HV.out.2.size)⟩

def spansTo (E : List (List Int)) (G : Nat → List Int → Int) (k : Nat) : List Rn := (List.range k).map fun i => rangeE E (G i)
theorem spansTo_succ (E : List (List Int)) (G : Nat → List Int → Int) (k : Nat) : spansTo E G (k + 1) = spansTo E G k ++ [rangeE E (G k)] := by unfold spansTo; rw [List.range_succ, List.map_append]; rfl
theorem spansTo_len (E : List (List Int)) (G : Nat → List Int → Int) (k : Nat) : (spansTo E G k).length = k := by simp [spansTo]
def spansE (E : List (List Int)) : Int := if E = [] then 11 else 0
theorem spansE_pos {E : List (List Int)} (h : E = []) : spansE E = 11 := if_pos h
theorem spansE_neg {E : List (List Int)} (h : E ≠ []) : spansE E = 0 := if_neg h
def spansR (E : List (List Int)) (G : Nat → List Int → Int) (n : Nat) : List Rn := if E = [] then [] else spansTo E G n

set_option maxRecDepth 100000 in
set_option maxHeartbeats 1000000 in
theorem spans_any (w0 : World) (p : Nat) (b : Hb) (deed owner : Int) (w : World) (hW : Work w0 p b deed owner w) (n : Nat) (hn : 0 < n) (hn5 : n ≤ 100) (F : FuncId) (bd : Array Value) (G : Nat → List Int → Int)
    (hent : ∀ (args : Array Value) (w : World), (callFunc F args).run Try.prog w = .ok (.enter F args) w)
    (hF : ∀ x ∈ b.ends deed owner, ∀ i : Nat, i < n → ∀ W, NowIn p (b.bk deed owner) w W → Calls Try.prog F (#[.agg (hcs x), .int .i64 (i : Int)] ++ bd) W fun e W' => e = .returned (.int .i64 (G i x)) ∧ Below W.heap.size W W') :
    Calls Try.prog 59 #[.pointer (some ⟨p, 0, none⟩), .int .i64 (n : Int), .func (.func F) #[] bd] w fun e w' => (∃ v, e = .returned (.tuple #[v, .int .i64 (spansE (b.ends deed owner))]) ∧ OwnR w' w.heap.size v (spansR (b.ends deed owner) G n)) ∧ NowIn p (b.bk deed owner) w w' := by
  have hpl := hW.lt
  obtain ⟨V, hV⟩ : ∃ V, V = w.alloc (Obj.cells #[.func (.func F) #[] bd] 123) := ⟨_, rfl⟩
  obtain ⟨r, hr⟩ : ∃ r, r = w.heap.size := ⟨_, rfl⟩
  have b5 : V.heap[r]? = some (Obj.cells #[.func (.func F) #[] bd] 123 (0, 0)) := by rw [hV, hr]; exact alloc_at rfl
  have hNV : NowIn p (b.bk deed owner) w V := by rw [hV]; exact NowIn.of_below (bal0 w _) hW.hp (Nat.le_refl _)
  have hxl15 : ∀ x ∈ b.ends deed owner, x.length = 15 := fun x hx => (endsTo_bd hW.ok.f3 hW.ok.n5 hW.ok.rb hW.ok.dI _ x hx).1
  have hzV : V.heap.size = r + 1 := by rw [hV, hr]; simp
  have HH := Lib.hid (And.intro hW (And.intro hF (And.intro hNV (And.intro hxl15 (And.intro hzV (And.intro hr b5))))))
  have hent' : ∀ (args : Array Value) (w : World), (callFunc 97 args).run Try.prog w = .ok (.enter 97 args) w := enters_of Try.func97 (by kernel_rfl) rfl
  go_enter Try.func59, Try.ntmps59
  go_upto_region 1 with (fail)
  rw [← hV, ← hr]
  clear hW hF hV hNV hxl15 hr hzV b5
  go_wp2_with fail
  go_loopg [8, 13] n (fun g v8 v13 wr => ∃ k : Nat, k + g = n ∧ v13 = .int .i64 k ∧ (0 < k → b.ends deed owner ≠ []) ∧ OwnR wr V.heap.size v8 (spansTo (b.ends deed owner) G k) ∧ NowIn p (b.bk deed owner) w wr ∧ wr.heap[r]? = some (Obj.cells #[.func (.func F) #[] bd] 123 (0, 0)) ∧ V.heap.size ≤ wr.heap.size)
  case atStart => exact ⟨0, by omega, rfl, fun h => absurd h (by omega), Own.nil_, HH.out.2.2.1, HH.out.2.2.2.2.2.2, Nat.le_refl _⟩
  case round =>
    obtain ⟨k, hk, rfl, hne, hown, hN, hbr, hVz⟩ := hrel
    by_cases hlt : k < n
    · have i1 : (k : Int) < (n : Int) := by omega
      have i2 : (n : Int) ≤ 100 := by omega
      have HK := Lib.hid (And.intro hk (And.intro hne (And.intro hown (And.intro hN (And.intro hbr hVz)))))
      clear hk hne hown hN hbr hVz
      go_upto_region 5 with (fail)
      obtain ⟨wi, hwi⟩ : ∃ wi, wi = wr.alloc (Obj.cells #[Value.int .i64 (k : Int)] 3) := ⟨_, rfl⟩
      obtain ⟨gi, hgi⟩ : ∃ gi, gi = wr.heap.size := ⟨_, rfl⟩
      have hNi : NowIn p (b.bk deed owner) w wi := by rw [hwi]; exact HK.out.2.2.2.1.below hpl (bal0 wr _) HK.out.2.2.2.1.size
      have bri : wi.heap[r]? = some (Obj.cells #[.func (.func F) #[] bd] 123 (0, 0)) := by rw [hwi]; exact hblk_alloc HK.out.2.2.2.2.1 _
      have bii : wi.heap[gi]? = some (Obj.cells #[Value.int .i64 (k : Int)] 3 (0, 0)) := by rw [hwi, hgi]; exact alloc_at rfl
      have hrp : r ≠ p := by have := HH.out.2.2.2.2.2.1; omega
      have hgp : gi ≠ p := by have := HK.out.2.2.2.1.lt; omega
      have howni : OwnR wi V.heap.size u8 (spansTo (b.ends deed owner) G k) := by rw [hwi]; exact Own.alloc HK.out.2.2.1 _
      have hzi : V.heap.size ≤ wi.heap.size := by rw [hwi]; simp; have := HK.out.2.2.2.2.2; omega
      have hsp := span_any w0 p b deed owner wi (HH.out.1.now hNi) 97 #[.pointer (some ⟨r, 0, none⟩), .pointer (some ⟨gi, 0, none⟩)] (G k) hent' (fun x hx W hNW =>
        spansF_any F bd (G k x) x k r gi W (HH.out.2.2.2.1 x hx) hent (hNW.blk bri hrp) (hNW.blk bii hgp) (fun W' hb => HH.out.2.1 x hx k hlt W' (hNi.trans (hNW.below hNi.lt hb hNW.size))))
      rw [← hwi, ← hgi]
      have HI := Lib.hid (And.intro hNi (And.intro bri (And.intro howni hzi)))
      clear hwi hgi hNi bri bii hrp hgp howni hzi
      go_upto_region 6 with (go_at_call 66; refine hsp.mono ?_; rintro e w2 ⟨rfl, hN2⟩)
      obtain ⟨eb, heb⟩ : ∃ eb, eb = !decide (b.ends deed owner = []) := ⟨_, rfl⟩
      obtain ⟨y, hy⟩ : ∃ y, y = rangeE (b.ends deed owner) (G k) := ⟨_, rfl⟩
      rw [← heb, ← hy]
      obtain ⟨w3, hw3⟩ : ∃ w3, w3 = w2.alloc (Obj.cells #[Value.int .i64 y.lo, .int .i64 y.hi] 26) := ⟨_, rfl⟩
      have hN3 : NowIn p (b.bk deed owner) w w3 := by rw [hw3]; exact (HI.out.1.trans hN2).below hpl (bal0 w2 _) (Nat.le_trans HI.out.1.size hN2.size)
      have hpV : p < V.heap.size := by have := HH.out.2.2.2.2.1; have := HH.out.2.2.2.2.2.1; omega
      have hrV : r < V.heap.size := by have := HH.out.2.2.2.2.1; omega
      have hown3 : OwnR w3 V.heap.size u8 (spansTo (b.ends deed owner) G k) := by rw [hw3]; exact Own.alloc (HI.out.2.2.1.now hN2 hpV) _
      have br3 : w3.heap[r]? = some (Obj.cells #[.func (.func F) #[] bd] 123 (0, 0)) := by rw [hw3]; exact hblk_alloc (hN2.blk HI.out.2.1 (by have := HH.out.2.2.2.2.2.1; omega)) _
      have by3 : w3.heap[w2.heap.size]? = some (Obj.cells #[Value.int .i64 y.lo, .int .i64 y.hi] 26 (0, 0)) := by rw [hw3]; exact alloc_at rfl
      have hz3 : V.heap.size ≤ w3.heap.size := by rw [hw3]; simp; have := HI.out.2.2.2; have := hN2.size; omega
      obtain ⟨x0, x1⟩ := blk2 by3
      rw [← hw3]
      have hlen := spansTo_len (b.ends deed owner) G k
      have HY := Lib.hid (And.intro heb (And.intro hy (And.intro hN3 (And.intro hpV (And.intro hrV (And.intro br3 hlen))))))
      have hll : (spansTo (b.ends deed owner) G k).length < 4294967296 := by omega
      clear heb hy hw3 hN3 hpV hrV br3 by3 hN2 hlen
      cases eb with
      | false =>
        have hE : b.ends deed owner = [] := by have := HY.out.1; by_cases h : b.ends deed owner = []; exact h; simp [h] at this
        have HE := Lib.hid hE
        clear hE
        go_wp2_with fail
        go_ret2
        rw [spansE_pos HE.out]
        refine ⟨⟨_, rfl, ?_⟩, HY.out.2.2.1⟩
        unfold spansR
        rw [if_pos HE.out]
        exact Own.nil_
      | true =>
        have hE : b.ends deed owner ≠ [] := by have := HY.out.1; intro h; simp [h] at this
        have HE := Lib.hid hE
        have HO3 := Lib.hid hown3
        clear hE hown3
        go_wp2_with (at_builtin; refine wp_app okRn rfl (.tmp 24) (.tmp 26) rfl V.heap.size _ (spansTo (b.ends deed owner) G k) y _ rfl rfl rfl rfl (one_eRn _) HO3.out ?_ ?_ ?_ ?_; (omega); (omega); (omega); intro v' w4 hown4 hb4 _ hz4; have HO4 := Lib.hid (And.intro hown4 hb4); clear hown4 hb4)
        go_roundg (gk - 1)
        case measure => have := HK.out.1; omega
        case rel =>
          refine ⟨k + 1, by have := HK.out.1; omega, by go_num, fun _ => HE.out, by rw [spansTo_succ, ← HY.out.2.1]; exact HO4.out.1, HY.out.2.2.1.below hpl HO4.out.2 (by have := HH.out.2.2.2.2.1; have := HH.out.2.2.2.2.2.1; omega), (HO4.out.2.block r HY.out.2.2.2.2.1).trans HY.out.2.2.2.2.2.1, by omega⟩
    · obtain rfl : k = n := by omega
      have HF := Lib.hid (And.intro (hne hn) (And.intro hown hN))
      clear hne hown hN hbr hVz
      go_wp2_with fail
      go_ret2
      rw [spansE_neg HF.out.1]
      refine ⟨⟨_, rfl, ?_⟩, HF.out.2.2⟩
      unfold spansR
      rw [if_neg HF.out.1]
      exact HF.out.2.1.mono (by have := HH.out.2.2.2.2.1; have := HH.out.2.2.2.2.2.1; omega)
end Go.Proofs.Ytgnjknihgjdedaa
namespace Go.Proofs.Ytgnjknihgjdedaa
open Go.RowKit Go.MapKept
set_option linter.unusedVariables false
set_option linter.unusedSimpArgs false

def askE (b : Hb) : Int := if b.chk ≠ 0 then b.chk else if b.ends (-1) 0 = [] then 11 else 0
theorem askE_chk {b : Hb} (h : b.chk ≠ 0) : askE b = b.chk := if_pos h
theorem askE_none {b : Hb} (h : b.chk = 0) (h' : b.ends (-1) 0 = []) : askE b = 11 := by unfold askE; rw [if_neg (by rw [h]; simp), if_pos h']
theorem askE_ok {b : Hb} (h : b.chk = 0) (h' : b.ends (-1) 0 ≠ []) : askE b = 0 := by unfold askE; rw [if_neg (by rw [h]; simp), if_neg h']
end Go.Proofs.Ytgnjknihgjdedaa
namespace Go.Proofs.Ytgnjknihgjdedaa
open Go.RowKit
set_option linter.unusedVariables false
set_option linter.unusedSimpArgs false

set_option maxRecDepth 100000 in
theorem run_row3 (x0 x1 x2 x3 x4 x5 x6 x7 x8 x9 x10 x11 x12 x13 x14 : Int) (w : World) :
    (Instr.index 126 (.agg #[.int .i64 x0, .int .i64 x1, .int .i64 x2, .int .i64 x3, .int .i64 x4, .int .i64 x5, .int .i64 x6, .int .i64 x7, .int .i64 x8, .int .i64 x9, .int .i64 x10, .int .i64 x11, .int .i64 x12, .int .i64 x13, .int .i64 x14]) (.int .i64 0)).run Try.prog w = .ok (.agg #[.int .i64 x0, .int .i64 x1, .int .i64 x2, .int .i64 x3, .int .i64 x4]) w ∧
    (Instr.index 126 (.agg #[.int .i64 x0, .int .i64 x1, .int .i64 x2, .int .i64 x3, .int .i64 x4, .int .i64 x5, .int .i64 x6, .int .i64 x7, .int .i64 x8, .int .i64 x9, .int .i64 x10, .int .i64 x11, .int .i64 x12, .int .i64 x13, .int .i64 x14]) (.int .i64 1)).run Try.prog w = .ok (.agg #[.int .i64 x5, .int .i64 x6, .int .i64 x7, .int .i64 x8, .int .i64 x9]) w ∧
    (Instr.index 126 (.agg #[.int .i64 x0, .int .i64 x1, .int .i64 x2, .int .i64 x3, .int .i64 x4, .int .i64 x5, .int .i64 x6, .int .i64 x7, .int .i64 x8, .int .i64 x9, .int .i64 x10, .int .i64 x11, .int .i64 x12, .int .i64 x13, .int .i64 x14]) (.int .i64 2)).run Try.prog w = .ok (.agg #[.int .i64 x10, .int .i64 x11, .int .i64 x12, .int .i64 x13, .int .i64 x14]) w := ⟨by kernel_rfl, by kernel_rfl, by kernel_rfl⟩
theorem run_row (h : List Int) (hl : h.length = 15) (w : World) (k : Nat) (hk : k < 3) :
    (Instr.index 126 (.agg (hcs h)) (.int .i64 (k : Int))).run Try.prog w = .ok (.agg #[.int .i64 (hget h k 0), .int .i64 (hget h k 1), .int .i64 (hget h k 2), .int .i64 (hget h k 3), .int .i64 (hget h k 4)]) w := by
  obtain ⟨a, b, c, d, e, f, g, i, j, l, m, n, o, p, q, rfl⟩ := list15' hl
  obtain ⟨h0, h1, h2⟩ := run_row3 a b c d e f g i j l m n o p q w
  obtain rfl | rfl | rfl : k = 0 ∨ k = 1 ∨ k = 2 := by omega
  · exact h0
  · exact h1
  · exact h2
theorem cell5 (x0 x1 x2 x3 x4 : Int) (w : World) (e : TypeId) (o : Nat) (ho : o < 5) : (w.alloc (Obj.cells #[.int .i64 x0, .int .i64 x1, .int .i64 x2, .int .i64 x3, .int .i64 x4] e)).cell? ⟨w.heap.size, o, none⟩ = some (.int .i64 ([x0, x1, x2, x3, x4].getD o 0)) := by
  have h : (w.alloc (Obj.cells #[.int .i64 x0, .int .i64 x1, .int .i64 x2, .int .i64 x3, .int .i64 x4] e)).heap[w.heap.size]? = some (Obj.cells #[.int .i64 x0, .int .i64 x1, .int .i64 x2, .int .i64 x3, .int .i64 x4] e) := alloc_at rfl
  obtain rfl | rfl | rfl | rfl | rfl : o = 0 ∨ o = 1 ∨ o = 2 ∨ o = 3 ∨ o = 4 := by omega
  all_goals
    unfold World.cell?
    rw [h]
    rfl
theorem row_getD (h : List Int) (k o : Nat) (ho : o < 5) : [hget h k 0, hget h k 1, hget h k 2, hget h k 3, hget h k 4].getD o 0 = hget h k o := by
  obtain rfl | rfl | rfl | rfl | rfl : o = 0 ∨ o = 1 ∨ o = 2 ∨ o = 3 ∨ o = 4 := by omega
  all_goals rfl
set_option maxRecDepth 100000 in
set_option maxHeartbeats 2000000 in
theorem owned_any (h : List Int) (o : Nat) (w : World) (hh : HBd 1000 h) (ho : o < 5) :
    Calls Try.prog 68 #[.agg (hcs h), .int .i64 o] w fun e w' => e = .returned (.int .i64 (howned h o)) ∧ Below w.heap.size w w' := by
  have hl := hh.1
  obtain ⟨V, hV⟩ : ∃ V, V = w.alloc (Obj.cells (hcs h) 126) := ⟨_, rfl⟩
  obtain ⟨r, hr⟩ : ∃ r, r = w.heap.size := ⟨_, rfl⟩
  have b0 : V.heap[r]? = some (hObj h) := by rw [hV, hr]; exact alloc_at rfl
  have hB : Below w.heap.size w V := by rw [hV]; exact bal0 w _
  have HV := Lib.hid (And.intro hB hh)
  go_enter Try.func68, Try.ntmps68
  go_upto_region 1 with (fail)
  rw [← hV, ← hr]
  clear hV hr hB hh
  go_upto_region 3 with ((with_reducible apply wp_loadH b0 hl); (rfl); (rfl); (rfl))
  go_loopg [5, 9] 3 (fun g sv iv wr => ∃ k : Nat, k + g = 3 ∧ iv = .int .i64 k ∧ sv = .int .i64 (sumTo [hget h 0 o, hget h 1 o, hget h 2 o] k) ∧ Below V.heap.size V wr)
  case atStart => exact ⟨0, rfl, rfl, rfl, Below.refl _ _⟩
  case round =>
    obtain ⟨k, hk, rfl, rfl, hb⟩ := hrel
    by_cases hlt : k < 3
    · have hsb := sumTo_bd (r := [hget h 0 o, hget h 1 o, hget h 2 o]) (fun x hx => by
        simp only [List.mem_cons, List.not_mem_nil, or_false] at hx
        rcases hx with rfl | rfl | rfl
        · exact HV.out.2.get (by decide) ho
        · exact HV.out.2.get (by decide) ho
        · exact HV.out.2.get (by decide) ho) k
      have hnx : sumTo [hget h 0 o, hget h 1 o, hget h 2 o] (k + 1) = sumTo [hget h 0 o, hget h 1 o, hget h 2 o] k + hget h k o := by
        show _ + [hget h 0 o, hget h 1 o, hget h 2 o].getD k 0 = _
        obtain rfl | rfl | rfl : k = 0 ∨ k = 1 ∨ k = 2 := by omega
        all_goals rfl
      have hix := run_row h hl wr k hlt
      have hc5 := cell5 (hget h k 0) (hget h k 1) (hget h k 2) (hget h k 3) (hget h k 4) wr 124 o ho
      rw [row_getD h k o ho] at hc5
      have hgb := HV.out.2.get (f := k) hlt ho
      obtain ⟨S, hS⟩ : ∃ S, S = sumTo [hget h 0 o, hget h 1 o, hget h 2 o] k := ⟨_, rfl⟩
      rw [← hS] at hsb hnx ⊢
      have HN := Lib.hid (And.intro hnx (And.intro hk hb))
      have hi1 : (o : Int) < 5 := by omega
      have hk3 : (k : Int) < 3 := by omega
      clear hS hnx hk hb
      go_wp2_with fail
      go_roundg (gk - 1)
      case measure => have := HN.out.2.1; omega
      case rel => exact ⟨k + 1, by have := HN.out.2.1; omega, by go_num, by rw [HN.out.1], bal HN.out.2.2 (Nat.le_refl _) _⟩
    · obtain rfl : k = 3 := by omega
      have HN := Lib.hid hb
      clear hk hb
      go_wp2
      go_ret
      exact ⟨ret_int (by simp [sumTo, howned]), HV.out.1.trans (HN.out.mono HV.out.1.size)⟩
end Go.Proofs.Ytgnjknihgjdedaa
namespace Go.Proofs.Ytgnjknihgjdedaa
open Go.RowKit Go.MapKept
set_option linter.unusedVariables false
set_option linter.unusedSimpArgs false

theorem spansTo_total (E : List (List Int)) (n : Nat) : spansTo E (fun f x => hall x f) n = totalL E n := rfl
def totalR (b : Hb) : List Rn := if askE b = 0 then totalL (b.ends (-1) 0) b.ks.length else []
def TotalR (b : Hb) (w : World) (e : Ending) (w' : World) : Prop := (∃ v, e = .returned (.tuple #[v, .int .i64 (askE b)]) ∧ OwnR w' w.heap.size v (totalR b)) ∧ Below w.heap.size w w'
theorem hb_of {b : Hb} {deed owner : Int} (hk : HeOk b.t b.l b.ks b.hs b.ds) : ∀ x ∈ b.ends deed owner, HBd 1000 x := fun x hx => (endsTo_bd hk.f3 hk.n5 hk.rb hk.dI _ x hx).mono (by have := hk.d6; omega)
set_option maxRecDepth 100000 in
set_option maxHeartbeats 1000000 in
theorem Total_any (b : Hb) (w : World) (hin : HbIn w b) : Calls Try.prog 25 #[b.v] w (TotalR b w) := by
  obtain ⟨V, hV⟩ : ∃ V, V = w.alloc b.obj := ⟨_, rfl⟩
  obtain ⟨g, hg⟩ : ∃ g, g = w.heap.size := ⟨_, rfl⟩
  have b0 : V.heap[g]? = some b.obj := by rw [hV, hg]; exact alloc_at rfl
  have hBV : Below w.heap.size w V := by rw [hV]; exact bal0 w _
  have hiV := hin.below hBV (Nat.le_refl _)
  obtain ⟨c0, c1, c2, c3, c4⟩ := blk5c b0
  have hak := asked_any b V hiV
  unfold Hb.v at hak
  have HV := Lib.hid (And.intro hBV (And.intro b0 (And.intro hiV hg)))
  have hent : ∀ (args : Array Value) (w : World), (callFunc 60 args).run Try.prog w = .ok (.enter 60 args) w := enters_of Try.func60 (by kernel_rfl) rfl
  have HENT := Lib.hid hent
  unfold Hb.v
  go_enter Try.func25, Try.ntmps25
  go_upto_region 1 with (fail)
  rw [← hV, ← hg]
  clear hV hg hin hBV hiV b0 hent
  obtain ⟨R, hR⟩ : ∃ R, R = AskedR b b.chk V := ⟨_, rfl⟩
  rw [← hR] at hak
  have HR := Lib.hid hR
  clear hR
  go_upto_region 2 with (go_at_call 54; refine hak.mono ?_; rintro e w2 hRR; rw [HR.out] at hRR; unfold AskedR at hRR; rcases hRR with ⟨h0, rfl, hb2⟩ | ⟨h0, p, rfl, hWk, hb2⟩)
  · have xf : (b.chk != 0) = true := by simp [h0]
    go_wp2_with fail
    go_ret2
    unfold TotalR totalR
    rw [askE_chk h0, if_neg h0]
    exact ⟨⟨_, rfl, Own.nil_⟩, HV.out.1.trans (hb2.mono HV.out.1.size)⟩
  have x0 := bheap HV.out.2.1 hb2 (Nat.le_refl _)
  have hok := hWk.ok
  clear c0 c1 c2 c3 c4 hak
  obtain ⟨c0, c1, c2, c3, c4⟩ := blk5c x0
  obtain ⟨n, hn⟩ : ∃ n, n = b.ks.length := ⟨_, rfl⟩
  rw [← hn] at c2
  have hn0 : 0 < n ∧ n ≤ 3 := by rw [hn]; exact ⟨hok.f0, hok.f3⟩
  have hbd := hb_of (deed := -1) (owner := 0) hok
  have hsp := spans_any V p b (-1) 0 w2 hWk n hn0.1 (by omega) 60 #[] (fun i x => hall x i) HENT.out (fun x hx i hi W hNW => all_any x i W (hbd x hx) (by omega))
  have H2 := Lib.hid (And.intro hb2 (And.intro hWk (And.intro h0 hn)))
  clear hb2 hWk h0 hn hok x0 hbd
  go_wp2_with (go_at_call 59; refine hsp.mono ?_; rintro e w3 ⟨⟨v, rfl, hov⟩, hN3⟩)
  go_ret2
  have hh := H2.out
  have hb3 : Below w.heap.size w w3 := (HV.out.1.trans (hh.1.mono HV.out.1.size)).trans (hN3.less (Nat.le_trans HV.out.1.size hh.2.1.hz) (Nat.le_trans HV.out.1.size hh.1.size))
  have hsz : w.heap.size ≤ w2.heap.size := Nat.le_trans HV.out.1.size hh.1.size
  unfold TotalR totalR
  by_cases hE : b.ends (-1) 0 = []
  · rw [askE_none hh.2.2.1 hE, if_neg (by decide)]
    rw [spansE_pos hE]
    have hov' : OwnR w3 w2.heap.size v [] := by unfold spansR at hov; rwa [if_pos hE] at hov
    exact ⟨⟨_, rfl, hov'.mono hsz⟩, hb3⟩
  · rw [askE_ok hh.2.2.1 hE, if_pos rfl]
    rw [spansE_neg hE]
    have hov' : OwnR w3 w2.heap.size v (spansTo (b.ends (-1) 0) (fun i x => hall x i) n) := by unfold spansR at hov; rwa [if_neg hE] at hov
    rw [spansTo_total, hh.2.2.2] at hov'
    exact ⟨⟨_, rfl, hov'.mono hsz⟩, hb3⟩
end Go.Proofs.Ytgnjknihgjdedaa
namespace Go.Proofs.Ytgnjknihgjdedaa
open Go.RowKit Go.MapKept
set_option linter.unusedVariables false
set_option linter.unusedSimpArgs false

def smV (s : Sm) : Value := .agg #[.int .i64 s.first, .int .i64 s.born, .int .i64 s.bought, .int .i64 s.sold, .int .i64 s.eaten]
abbrev smO (a b c d e : Int) : Obj := .cells #[.int .i64 a, .int .i64 b, .int .i64 c, .int .i64 d, .int .i64 e] 132 (0, 0)
def SmB (B : Int) (s : Sm) : Prop := (0 ≤ s.first ∧ s.first ≤ B) ∧ (0 ≤ s.born ∧ s.born ≤ B) ∧ (0 ≤ s.bought ∧ s.bought ≤ B) ∧ (0 ≤ s.sold ∧ s.sold ≤ B) ∧ (0 ≤ s.eaten ∧ s.eaten ≤ B)
theorem stepS_bd {B : Int} {o : Int} {s : Sm} {d : De} (h : SmB B s) (hm : 0 ≤ d.many ∧ d.many ≤ 300) : SmB (B + 300) (stepS o s d) := by
  obtain ⟨h1, h2, h3, h4, h5⟩ := h
  unfold stepS SmB
  split
  · exact ⟨by dsimp; omega, by dsimp; omega, by dsimp; omega, by dsimp; omega, by dsimp; omega⟩
  split
  · exact ⟨by dsimp; omega, by dsimp; omega, by dsimp; omega, by dsimp; omega, by dsimp; omega⟩
  split
  · exact ⟨by dsimp; omega, by dsimp; omega, by dsimp; omega, by dsimp; omega, by dsimp; omega⟩
  split
  · exact ⟨by dsimp; omega, by dsimp; omega, by dsimp; omega, by dsimp; omega, by dsimp; omega⟩
  · exact ⟨by omega, by omega, by omega, by omega, by omega⟩
theorem sumS_bd {hs : List (List Int)} {o : Nat} {ds : List De} (h0 : 0 ≤ howned (firstH hs) o ∧ howned (firstH hs) o ≤ 3000) (hm : ∀ d ∈ ds, 0 ≤ d.many ∧ d.many ≤ 300) : ∀ k, k ≤ ds.length → SmB (3000 + 300 * (k : Int)) (sumS hs o (ds.take k))
  | 0, _ => by simp [sumS, SmB]; omega
  | k + 1, hk => by
    have hg : ds[k]? = some ds[k] := List.getElem?_eq_getElem (by omega)
    rw [sumS_snoc hs o ds hg]
    have := stepS_bd (o := o) (sumS_bd h0 hm k (by omega)) (hm _ (List.getElem_mem (l := ds) (show k < ds.length by omega)))
    rw [show (3000 : Int) + 300 * ((k + 1 : Nat) : Int) = 3000 + 300 * (k : Int) + 300 by omega]
    exact this
set_option maxRecDepth 100000 in
set_option maxHeartbeats 2000000 in
theorem sum_any (w0 : World) (p : Nat) (b : Hb) (deed owner : Int) (w : World) (hW : Work w0 p b deed owner w) (o : Nat) (ho : o < 5) :
    Calls Try.prog 100 #[.pointer (some ⟨p, 0, none⟩), .int .i64 o] w fun e w' => e = .returned (smV (sumS b.hs o b.ds)) ∧ Below w.heap.size w w' := by
  obtain ⟨V, hV⟩ : ∃ V, V = w.alloc (Obj.cells #[.int .i64 0, .int .i64 0, .int .i64 0, .int .i64 0, .int .i64 0] 132) := ⟨_, rfl⟩
  obtain ⟨r, hr⟩ : ∃ r, r = w.heap.size := ⟨_, rfl⟩
  have b0 : V.heap[r]? = some (smO 0 0 0 0 0) := by rw [hV, hr]; exact alloc_at rfl
  have hBV : Below w.heap.size w V := by rw [hV]; exact bal0 w _
  have hWV := hW.below hBV (Nat.le_refl _)
  obtain ⟨now, hp⟩ := hWV.hp
  have hok := hWV.ok
  have hfi := first_any p b.t b.A b.l.length b.c b.l b.vk b.vd b.Ah b.ch b.hs deed owner now V (hWV.book hp) hWV.inn.h (by have := hok.f3; have := hok.hl; omega) (fun x hx => by have := hok.rl x hx; have := hok.n5; omega)
  have hfb : HBd 20 (firstH b.hs) := firstH_bd hok.rb
  have hob := owned_any (firstH b.hs) o
  have hpl := hW.lt
  have HV := Lib.hid (And.intro hBV (And.intro b0 (And.intro hWV (And.intro hr hok))))
  have HF := Lib.hid hfb
  go_enter Try.func100, Try.ntmps100
  go_upto_region 1 with (fail)
  rw [← hV, ← hr]
  clear hV hBV b0 hWV hp hok hfb
  rw [← hr] at hpl
  clear hr
  go_upto_region 2 with (first
    | (go_at_call 108; refine hfi.mono ?_; rintro e w1 ⟨rfl, hb1⟩)
    | (go_at_call 68; refine (hob w1 (HF.out.mono (by omega)) ho).mono ?_; rintro e w2 ⟨rfl, hb2⟩))
  have hb2' : Below V.heap.size V w2 := hb1.trans (hb2.mono hb1.size)
  clear hb1 hb2 hfi hob
  obtain ⟨f0, hf0⟩ : ∃ f, f = howned (firstH b.hs) o := ⟨_, rfl⟩
  have hf3 : 0 ≤ f0 ∧ f0 ≤ 3000 := by
    have h0 := HF.out.get (show 0 < 3 by decide) ho
    have h1 := HF.out.get (show 1 < 3 by decide) ho
    have h2 := HF.out.get (show 2 < 3 by decide) ho
    rw [hf0]; unfold howned; omega
  rw [← hf0]
  obtain ⟨s, hs⟩ : ∃ s, s = w2.heap.size := ⟨_, rfl⟩
  obtain ⟨U, hU⟩ : ∃ U, U = w2.alloc (Obj.cells #[.int .i64 f0, .int .i64 0, .int .i64 0, .int .i64 0, .int .i64 0] 132) := ⟨_, rfl⟩
  rw [← hU, ← hs]
  have hbU : Below V.heap.size V U := by rw [hU]; exact bal hb2' (Nat.le_refl _) _
  have bS : U.heap[s]? = some (smO f0 0 0 0 0) := by rw [hU, hs]; exact alloc_at rfl
  have hVs : V.heap.size ≤ s := by rw [hs]; exact hb2'.size
  have hWU := HV.out.2.2.1.below hbU (Nat.le_refl _)
  obtain ⟨now2, hp2⟩ := hWU.hp
  obtain ⟨a0, a1, a2, a3, a4, a5, a6, a7⟩ := blkB hp2
  obtain ⟨nd, hnd⟩ : ∃ nd, nd = b.ds.length := ⟨_, rfl⟩
  have hsb : ∀ k, k ≤ nd → SmB (3000 + 300 * (k : Int)) (sumS b.hs o (b.ds.take k)) := fun k hk => sumS_bd (by rw [← hf0]; exact hf3) (fun d hd => by have := (HV.out.2.2.2.2.dI d hd).m; omega) k (by omega)
  have hd6 : nd ≤ 6 := by rw [hnd]; exact HV.out.2.2.2.2.d6
  obtain ⟨Dx, hDx⟩ : ∃ D, D = b.Ad := ⟨_, rfl⟩
  obtain ⟨cx, hcx⟩ : ∃ D, D = b.cd := ⟨_, rfl⟩
  have hcd : nd ≤ cx ∧ cx ≤ maxLen := by rw [hnd, hcx]; exact ⟨hWU.inn.dc, hWU.inn.dm⟩
  unfold Hb.vd at a4
  rw [← hnd, ← hDx, ← hcx] at a4
  have hds : Deeds w0 Dx nd b.ds := by rw [hnd, hDx]; exact hWU.hin.d
  have HU := Lib.hid (And.intro hbU (And.intro bS (And.intro hVs (And.intro hWU (And.intro hnd (And.intro hsb (And.intro hf0 hds)))))))
  clear hbU bS hVs hWU hnd hsb hf0 hp2 hU hs hDx hcx hds hb2'
  go_wp2_with fail
  go_loopg [20] nd (fun g v20 wr => ∃ k : Nat, k + g = nd ∧ v20 = .int .i64 k ∧ (∃ x : Sm, x = sumS b.hs o (b.ds.take k) ∧ wr.heap[s]? = some (smO x.first x.born x.bought x.sold x.eaten)) ∧ (∀ j, j < U.heap.size → j ≠ s → wr.heap[j]? = U.heap[j]?) ∧ U.heap.size ≤ wr.heap.size ∧ wr.os = U.os ∧ wr.tape = U.tape ∧ wr.output = U.output)
  case atStart => exact ⟨0, by omega, rfl, ⟨⟨f0, 0, 0, 0, 0⟩, by rw [List.take_zero]; unfold sumS; rw [HU.out.2.2.2.2.2.2.1]; rfl, HU.out.2.1⟩, fun _ _ _ => rfl, Nat.le_refl _, rfl, rfl, rfl⟩
  case round =>
    obtain ⟨k, hk, rfl, ⟨x, hx, bs⟩, hfar, hsz, ho1, ho2, ho3⟩ := hrel
    by_cases hlt : k < nd
    · have hWr : Below w0.heap.size w0 wr := HU.out.2.2.2.1.bel.trans ⟨ho1, ho2, ho3, hsz, fun j hj => hfar j (by have := HU.out.2.2.2.1.bel.size; omega) (by have := HU.out.2.2.2.1.hz; have := HU.out.2.2.1; have := HV.out.1.size; have := HV.out.2.2.2.1; omega)⟩
      obtain ⟨bd, od, ⟨kind, flock, ow, other, tof, many, err, sg⟩, rfl, hbl, hd, e0, e1, e2, e3, e4, e5, e6, e7, e8, e9, e10, e11⟩ := Deeds.get (HU.out.2.2.2.2.2.2.2.below hWr (Nat.le_refl _)) hlt
      obtain ⟨x1, x2, x3, x4, x5⟩ := x
      obtain ⟨b1, b2, b3, b4, b5⟩ := HU.out.2.2.2.2.2.1 k (by omega)
      rw [← hx] at b1 b2 b3 b4 b5
      have hsn := sumS_snoc b.hs o b.ds hd
      rw [← hx] at hsn
      have hdm := (HV.out.2.2.2.2.dI _ (List.mem_of_getElem? hd)).m
      have hdk := (HV.out.2.2.2.2.dI _ (List.mem_of_getElem? hd)).k
      dsimp only at hdm hdk e0 e1 e2 e3 e4 e5 e6 e7 e8 e9 e10 e11 b1 b2 b3 b4 b5 bs
      have gs1 := frz bs 1
      have gs2 := frz bs 2
      have gs3 := frz bs 3
      have gs4 := frz bs 4
      have hslt := heap_lt bs
      obtain ⟨w0', w1', w2', w3', w4'⟩ := blk5c bs
      by_cases how : ow = (o : Int)
      · have eo : (ow == (o : Int)) = true := by simp [how]
        by_cases h1 : kind = 1
        · subst h1
          simp [stepS, how] at hsn
          have HN := Lib.hid (And.intro bs (And.intro hk (And.intro hfar (And.intro hsz (And.intro ho1 (And.intro ho2 (And.intro ho3 hsn)))))))
          clear bs hk hfar hsz ho1 ho2 ho3 hsn hx hd hdk hWr
          go_wp2_with fail
          go_roundg (gk - 1)
          case measure => have := HN.out.2.1; omega
          case rel => exact ⟨k + 1, by have := HN.out.2.1; omega, by go_num, ⟨_, HN.out.2.2.2.2.2.2.2.symm, hblk_alloc ((set_blk HN.out.1).trans (by simp)) _⟩, fun j hj hne => (Below.heap_alloc _ _ _ (by have := HN.out.2.2.2.1; simp; omega)).trans ((Below.heap_setCell _ ⟨s, _, none⟩ _ _ hne).trans (HN.out.2.2.1 j hj hne)), by have := HN.out.2.2.2.1; simp; omega, HN.out.2.2.2.2.1, HN.out.2.2.2.2.2.1, HN.out.2.2.2.2.2.2.1⟩
        by_cases h2 : kind = 2
        · subst h2
          simp [stepS, how] at hsn
          have HN := Lib.hid (And.intro bs (And.intro hk (And.intro hfar (And.intro hsz (And.intro ho1 (And.intro ho2 (And.intro ho3 hsn)))))))
          clear bs hk hfar hsz ho1 ho2 ho3 hsn hx hd hdk hWr
          go_wp2_with fail
          go_roundg (gk - 1)
          case measure => have := HN.out.2.1; omega
          case rel => exact ⟨k + 1, by have := HN.out.2.1; omega, by go_num, ⟨_, HN.out.2.2.2.2.2.2.2.symm, hblk_alloc ((set_blk HN.out.1).trans (by simp)) _⟩, fun j hj hne => (Below.heap_alloc _ _ _ (by have := HN.out.2.2.2.1; simp; omega)).trans ((Below.heap_setCell _ ⟨s, _, none⟩ _ _ hne).trans (HN.out.2.2.1 j hj hne)), by have := HN.out.2.2.2.1; simp; omega, HN.out.2.2.2.2.1, HN.out.2.2.2.2.2.1, HN.out.2.2.2.2.2.2.1⟩
        by_cases h3 : kind = 3
        · subst h3
          simp [stepS, how] at hsn
          have HN := Lib.hid (And.intro bs (And.intro hk (And.intro hfar (And.intro hsz (And.intro ho1 (And.intro ho2 (And.intro ho3 hsn)))))))
          clear bs hk hfar hsz ho1 ho2 ho3 hsn hx hd hdk hWr
          go_wp2_with fail
          go_roundg (gk - 1)
          case measure => have := HN.out.2.1; omega
          case rel => exact ⟨k + 1, by have := HN.out.2.1; omega, by go_num, ⟨_, HN.out.2.2.2.2.2.2.2.symm, hblk_alloc ((set_blk HN.out.1).trans (by simp)) _⟩, fun j hj hne => (Below.heap_alloc _ _ _ (by have := HN.out.2.2.2.1; simp; omega)).trans ((Below.heap_setCell _ ⟨s, _, none⟩ _ _ hne).trans (HN.out.2.2.1 j hj hne)), by have := HN.out.2.2.2.1; simp; omega, HN.out.2.2.2.2.1, HN.out.2.2.2.2.2.1, HN.out.2.2.2.2.2.2.1⟩
        have k1 : (kind == 1) = false := by simp [h1]
        have k2 : (kind == 2) = false := by simp [h2]
        have k3 : (kind == 3) = false := by simp [h3]
        simp [stepS, how, h1, h2, h3] at hsn
        have HN := Lib.hid (And.intro bs (And.intro hk (And.intro hfar (And.intro hsz (And.intro ho1 (And.intro ho2 (And.intro ho3 hsn)))))))
        clear bs hk hfar hsz ho1 ho2 ho3 hsn hx hd hdk hWr
        go_wp2_with fail
        go_roundg (gk - 1)
        case measure => have := HN.out.2.1; omega
        case rel => exact ⟨k + 1, by have := HN.out.2.1; omega, by go_num, ⟨_, HN.out.2.2.2.2.2.2.2.symm, hblk_alloc HN.out.1 _⟩, fun j hj hne => (Below.heap_alloc _ _ _ (by have := HN.out.2.2.2.1; omega)).trans (HN.out.2.2.1 j hj hne), by have := HN.out.2.2.2.1; simp; omega, HN.out.2.2.2.2.1, HN.out.2.2.2.2.2.1, HN.out.2.2.2.2.2.2.1⟩
      · have eo : (ow == (o : Int)) = false := by simp [how]
        by_cases h2 : kind = 2
        · subst h2
          by_cases hot : other = (o : Int)
          · have et : (other == (o : Int)) = true := by simp [hot]
            simp [stepS, how, hot] at hsn
            have HN := Lib.hid (And.intro bs (And.intro hk (And.intro hfar (And.intro hsz (And.intro ho1 (And.intro ho2 (And.intro ho3 hsn)))))))
            clear bs hk hfar hsz ho1 ho2 ho3 hsn hx hd hdk hWr
            go_wp2_with fail
            go_roundg (gk - 1)
            case measure => have := HN.out.2.1; omega
            case rel => exact ⟨k + 1, by have := HN.out.2.1; omega, by go_num, ⟨_, HN.out.2.2.2.2.2.2.2.symm, hblk_alloc ((set_blk HN.out.1).trans (by simp)) _⟩, fun j hj hne => (Below.heap_alloc _ _ _ (by have := HN.out.2.2.2.1; simp; omega)).trans ((Below.heap_setCell _ ⟨s, _, none⟩ _ _ hne).trans (HN.out.2.2.1 j hj hne)), by have := HN.out.2.2.2.1; simp; omega, HN.out.2.2.2.2.1, HN.out.2.2.2.2.2.1, HN.out.2.2.2.2.2.2.1⟩
          · have et : (other == (o : Int)) = false := by simp [hot]
            simp [stepS, how, hot] at hsn
            have HN := Lib.hid (And.intro bs (And.intro hk (And.intro hfar (And.intro hsz (And.intro ho1 (And.intro ho2 (And.intro ho3 hsn)))))))
            clear bs hk hfar hsz ho1 ho2 ho3 hsn hx hd hdk hWr
            go_wp2_with fail
            go_roundg (gk - 1)
            case measure => have := HN.out.2.1; omega
            case rel => exact ⟨k + 1, by have := HN.out.2.1; omega, by go_num, ⟨_, HN.out.2.2.2.2.2.2.2.symm, hblk_alloc HN.out.1 _⟩, fun j hj hne => (Below.heap_alloc _ _ _ (by have := HN.out.2.2.2.1; omega)).trans (HN.out.2.2.1 j hj hne), by have := HN.out.2.2.2.1; simp; omega, HN.out.2.2.2.2.1, HN.out.2.2.2.2.2.1, HN.out.2.2.2.2.2.2.1⟩
        have k2 : (kind == 2) = false := by simp [h2]
        simp [stepS, how, h2] at hsn
        have HN := Lib.hid (And.intro bs (And.intro hk (And.intro hfar (And.intro hsz (And.intro ho1 (And.intro ho2 (And.intro ho3 hsn)))))))
        clear bs hk hfar hsz ho1 ho2 ho3 hsn hx hd hdk hWr
        go_wp2_with fail
        go_roundg (gk - 1)
        case measure => have := HN.out.2.1; omega
        case rel => exact ⟨k + 1, by have := HN.out.2.1; omega, by go_num, ⟨_, HN.out.2.2.2.2.2.2.2.symm, hblk_alloc HN.out.1 _⟩, fun j hj hne => (Below.heap_alloc _ _ _ (by have := HN.out.2.2.2.1; omega)).trans (HN.out.2.2.1 j hj hne), by have := HN.out.2.2.2.1; simp; omega, HN.out.2.2.2.2.1, HN.out.2.2.2.2.2.1, HN.out.2.2.2.2.2.2.1⟩
    · obtain rfl : k = nd := by omega
      obtain ⟨w0', w1', w2', w3', w4'⟩ := blk5c bs
      have hr0 : wr.heap[r]? = some (smO 0 0 0 0 0) := (hfar r (by have := HU.out.1.size; have := heap_lt HV.out.2.1; omega) (by have := HU.out.2.2.1; have := heap_lt HV.out.2.1; omega)).trans (bheap HV.out.2.1 HU.out.1 (Nat.le_refl _))
      obtain ⟨z0, z1, z2, z3, z4⟩ := blk5c hr0
      obtain ⟨f0', f1, f2, f3, f4⟩ := And.intro (frz hr0 0) (And.intro (frz hr0 1) (And.intro (frz hr0 2) (And.intro (frz hr0 3) (frz hr0 4))))
      have hlr := heap_lt hr0
      have hxx : x = sumS b.hs o b.ds := by rw [hx, HU.out.2.2.2.2.1, List.take_length]
      obtain ⟨x1, x2, x3, x4, x5⟩ := x
      dsimp only at w0' w1' w2' w3' w4'
      have HN := Lib.hid (And.intro hr0 (And.intro hxx (And.intro hfar (And.intro hsz (And.intro ho1 (And.intro ho2 ho3))))))
      clear hr0 hxx hfar hsz ho1 ho2 ho3 hx bs hk
      go_wp2_with fail
      obtain ⟨Z, hZ⟩ : ∃ Z, Z = (((((wr.setCell ⟨r, 0, none⟩ (.int .i64 x1)).setCell ⟨r, 1, none⟩ (.int .i64 x2)).setCell ⟨r, 2, none⟩ (.int .i64 x3)).setCell ⟨r, 3, none⟩ (.int .i64 x4)).setCell ⟨r, 4, none⟩ (.int .i64 x5)) := ⟨_, rfl⟩
      rw [← hZ]
      have bZ : Z.heap[r]? = some (smO x1 x2 x3 x4 x5) := by rw [hZ]; exact (set_blk (set_blk (set_blk (set_blk (set_blk HN.out.1))))).trans (by simp)
      have hgr : wr.grownBy Z (some r) := by rw [hZ]; exact ((((grownBy_cell _ r _ _).trans (grownBy_cell _ r _ _)).trans (grownBy_cell _ r _ _)).trans (grownBy_cell _ r _ _)).trans (grownBy_cell _ r _ _)
      obtain ⟨q0, q1, q2, q3, q4⟩ := blk5c bZ
      clear hZ
      refine bodyPost_ret (v := .agg #[.int .i64 x1, .int .i64 x2, .int .i64 x3, .int .i64 x4, .int .i64 x5]) (by simp [results, Try.f100, go_sem, q0, q1, q2, q3, q4]) rfl ⟨by rw [← HN.out.2.1]; rfl, ?_⟩
      have hn := HN.out
      have hBU : Below w.heap.size w U := HV.out.1.trans (HU.out.1.mono HV.out.1.size)
      refine hBU.trans ⟨hgr.os.trans hn.2.2.2.2.1, hgr.tape.trans hn.2.2.2.2.2.1, hgr.output.trans hn.2.2.2.2.2.2, Nat.le_trans hn.2.2.2.1 hgr.size, fun j hj => ?_⟩
      have h1 := HV.out.2.2.2.1
      have h2 := HU.out.2.2.1
      have h3 := HV.out.1.size
      have h4 := hBU.size
      exact (hgr.block j (by omega) (fun e => by cases e; omega)).trans (hn.2.2.1 j (by omega) (by omega))
end Go.Proofs.Ytgnjknihgjdedaa
