/- TopCounted 15: TyB, TyC, TyD, TyE. -/
import Derived.Test.YtgnjknihgjdedaaTc02
import Derived.Test.YtgnjknihgjdedaaTc06
import Derived.Deep.RegionHeld3
import Derived.Maps.Own
import Derived.Maps.OwnOps
import Derived.Test.YtgnjknihgjdedaaTc11
import Derived.Test.YtgnjknihgjdedaaTc01
import Derived.RangeFuncNested
namespace Go.Proofs.Ytgnjknihgjdedaa
open Go.RowKit
set_option linter.unusedVariables false
set_option linter.unusedSimpArgs false

abbrev spV (s : Sp) : Value := .agg #[.int .i64 s.lo, .int .i64 s.hi]
theorem tmeet_any (a b : Sp) (w : World) :
    Calls Try.prog 74 #[spV a, spV b] w fun e w' => e = .returned (spV (a.meet b)) ∧ Below w.heap.size w w' := by
  unfold Sp.meet
  obtain ⟨X, hX⟩ : ∃ X, X = max a.lo b.lo := ⟨_, rfl⟩
  obtain ⟨Y, hY⟩ : ∃ Y, Y = min a.hi b.hi := ⟨_, rfl⟩
  rw [← hX, ← hY]
  have HX := Lib.hid (And.intro hX hY)
  clear hX hY
  go_enter Try.func74, Try.ntmps74
  go_wp2
  all_goals
    refine bodyPost_ret (v := spV ⟨X, Y⟩) ?_ rfl ⟨rfl, ?_⟩
    · have h1 := HX.out.1
      have h2 := HX.out.2
      simp [results, Try.f74, go_sem]
      omega
    · exact bal (bal (bal0 w _) (Nat.le_refl _) _) (Nat.le_refl _) _
theorem tadd_any (a b : Sp) (w : World) (h : (a.add b).bd 9223372036854775807) :
    Calls Try.prog 75 #[spV a, spV b] w fun e w' => e = .returned (spV (a.add b)) ∧ Below w.heap.size w w' := by
  obtain ⟨h1, h2, h3, h4⟩ := h
  unfold Sp.add at h1 h2 h3 h4 ⊢
  dsimp only at h1 h2 h3 h4
  go_enter Try.func75, Try.ntmps75
  go_wp2
  refine bodyPost_ret (v := spV ⟨a.lo + b.lo, a.hi + b.hi⟩) ?_ rfl ⟨rfl, ?_⟩
  · simp [results, Try.f75, go_sem]
  · exact bal (bal (bal0 w _) (Nat.le_refl _) _) (Nat.le_refl _) _
theorem tturn_any (a : Sp) (w : World) (h : a.bd 9223372036854775807) :
    Calls Try.prog 73 #[spV a] w fun e w' => e = .returned (spV a.turn) ∧ Below w.heap.size w w' := by
  obtain ⟨h1, h2, h3, h4⟩ := h
  unfold Sp.turn
  go_enter Try.func73, Try.ntmps73
  go_wp2
  refine bodyPost_ret (v := spV ⟨-a.hi, -a.lo⟩) ?_ rfl ⟨rfl, ?_⟩
  · simp [results, Try.f73, go_sem]
  · exact bal (bal0 w _) (Nat.le_refl _) _
theorem temp_any (a : Sp) (w : World) :
    Calls Try.prog 79 #[spV a] w fun e w' => e = .returned (.bool a.emp) ∧ Below w.heap.size w w' := by
  unfold Sp.emp
  go_enter Try.func79, Try.ntmps79
  go_wp2
  go_ret
  exact ⟨rfl, bal0 w _⟩
set_option maxRecDepth 100000 in
theorem tread_any (c : Ct) (w : World) (hN : 0 ≤ c.n ∧ c.n ≤ 300) (hE : 0 ≤ c.e ∧ c.e ≤ 20) :
    Calls Try.prog 103 #[.agg #[.int .i64 c.g, .int .i64 c.m, .int .i64 c.n, .int .i64 c.e]] w fun e w' => e = .returned (spV (readsS c)) ∧ Below w.heap.size w w' := by
  obtain ⟨G, M, N, E⟩ := c
  dsimp only at hN hE ⊢
  obtain ⟨hN0, hN1⟩ := hN
  obtain ⟨hE0, hE1⟩ := hE
  have q1 : wrap64 (100 * N) = 100 * N := IntWalk.wrap64_in _ (by omega)
  have q2 : wrap64 (100 * N + 99) = 100 * N + 99 := IntWalk.wrap64_in _ (by omega)
  have q3 : wrap64 (100 * N + 99 + E) = 100 * N + 99 + E := IntWalk.wrap64_in _ (by omega)
  have q4 : wrap64 (100 + E) = 100 + E := IntWalk.wrap64_in _ (by omega)
  have q5 : wrap64 (100 - E) = 100 - E := IntWalk.wrap64_in _ (by omega)
  have z1 : ((100 + E : Int) == 0) = false := beq_eq_false_iff_ne.2 (by omega)
  have z2 : ((100 - E : Int) == 0) = false := beq_eq_false_iff_ne.2 (by omega)
  obtain ⟨LO, d1⟩ : ∃ LO, LO = (100 * N + 99 + E).tdiv (100 + E) := ⟨_, rfl⟩
  obtain ⟨HI, d2⟩ : ∃ HI, HI = (100 * N).tdiv (100 - E) := ⟨_, rfl⟩
  have l1 : 0 ≤ LO ∧ LO ≤ 100 * N + 99 + E := by rw [d1]; exact ⟨Int.tdiv_nonneg (by omega) (by omega), Int.tdiv_le_self _ (by omega)⟩
  have l2 : 0 ≤ HI ∧ HI ≤ 100 * N := by rw [d2]; exact ⟨Int.tdiv_nonneg (by omega) (by omega), Int.tdiv_le_self _ (by omega)⟩
  have w1 : wrap64 LO = LO := IntWalk.wrap64_in _ (by omega)
  have w2 : wrap64 HI = HI := IntWalk.wrap64_in _ (by omega)
  unfold readsS
  dsimp only
  rw [← d1, ← d2]
  replace d1 := d1.symm
  replace d2 := d2.symm
  go_enter Try.func103, Try.ntmps103
  go_upto_region 1 with (fail)
  go_region
  go_wp2
  refine bodyPost_ret (v := .agg #[.int .i64 LO, .int .i64 HI]) (by simp [results, Try.f103, go_sem]) rfl ?_
  exact ⟨rfl, bdraw (bal (bal0 w _) (Nat.le_refl _) _)⟩
theorem tleast_any (a b : Int) (g : Nat) (w : World) (hb : w.heap[g]? = some (.cells #[.int .i64 b] 3 (0, 0))) :
    Calls Try.prog 78 #[.int .i64 a, .slice (some ⟨g, 0, none⟩) 1 1] w fun e w' => e = .returned (.int .i64 (min a b)) ∧ w = w' := by
  have c0 : w.cell? ⟨g, 0, none⟩ = some (.int .i64 b) := by simp [World.cell?, hb]
  have hl := heap_lt hb
  obtain ⟨X, hX⟩ : ∃ X, X = min a b := ⟨_, rfl⟩
  rw [← hX]
  have HX := Lib.hid hX
  clear hX hb
  obtain ⟨st, hst⟩ : ∃ st : Nat → Int, st = fun k => if k = 0 then a else X := ⟨_, rfl⟩
  have s0 : st 0 = a := by rw [hst]; rfl
  have s1 : st 1 = X := by rw [hst]; rfl
  clear hst
  rw [show (a : Int) = st 0 from s0.symm]
  go_enter Try.func78, Try.ntmps78
  go_wp2_with fail
  go_loopg [0, 6, 9, 10, 11, 12, 13, 14, 15, 16] 1 (fun g x0 _ v _ _ _ _ _ _ _ wr => ∃ k : Nat, k + g = 1 ∧ v = .int .i64 k ∧ x0 = .int .i64 (st k) ∧ w = wr)
  case atStart => exact ⟨0, by omega, rfl, rfl, rfl⟩
  case round =>
    obtain ⟨k, hk, rfl, rfl, rfl⟩ := hrel
    by_cases hlt : k < 1
    · obtain rfl : k = 0 := by omega
      rw [s0]
      have HS := Lib.hid (And.intro s1 hk)
      clear s1 hk hlt
      by_cases hab : a ≤ b
      · have HA := Lib.hid hab
        go_wp2_with fail
        go_roundg (gk - 1)
        case measure => have := HS.out.2; omega
        case rel => exact ⟨1, by have := HS.out.2; omega, by go_num, by rw [HS.out.1, HX.out]; congr 1; have := HA.out; omega, rfl⟩
      · have HA := Lib.hid hab
        go_wp2_with fail
        go_roundg (gk - 1)
        case measure => have := HS.out.2; omega
        case rel => exact ⟨1, by have := HS.out.2; omega, by go_num, by rw [HS.out.1, HX.out]; congr 1; have := HA.out; omega, rfl⟩
    · obtain rfl : k = 1 := by omega
      rw [s1]
      clear s0 s1
      go_wp2_with fail
      go_ret
      exact ⟨rfl, rfl⟩
end Go.Proofs.Ytgnjknihgjdedaa
namespace Go.Proofs.Ytgnjknihgjdedaa
open Go.RowKit Go.MapKept Go.ChangeMaps
set_option linter.unusedVariables false
set_option linter.unusedSimpArgs false

abbrev lcs (l : List Sp) : Array Value := (l.flatMap eSp).toArray
theorem lcs_size (l : List Sp) : (lcs l).size = l.length * 2 := by
  show (l.flatMap eSp).toArray.size = _
  rw [List.size_toArray]
  induction l with
  | nil => rfl
  | cons a l ih => rw [List.flatMap_cons, List.length_append, ih, lenSp, List.length_cons]; omega
theorem flat_setY : ∀ (l : List Sp) (k : Nat) (s : Sp), ((l.flatMap eSp).set (k * 2) (.int .i64 s.lo)).set (k * 2 + 1) (.int .i64 s.hi) = (l.set k s).flatMap eSp := by
  intro l
  induction l with
  | nil => intro k s; simp
  | cons a l ih =>
    intro k s
    cases k with
    | zero => simp [eSp]
    | succ k =>
      have := ih k s
      rw [show (k + 1) * 2 = (k * 2 + 1) + 1 by omega]
      simp only [List.flatMap_cons, eSp, List.cons_append, List.nil_append, List.set_cons_succ]
      rw [← this]
def SpB (w : World) (q : Nat) (t : TypeId) (l : List Sp) : Prop := w.heap[q]? = some (.cells (lcs l) t (0, 0))
theorem SpB.sl {w : World} {q : Nat} {t : TypeId} {l : List Sp} (h : SpB w q t l) : Sps w (some ⟨q, 0, none⟩) l.length l := Sl.of_blk h rfl lenSp
theorem SpB.get {w : World} {q : Nat} {t : TypeId} {l : List Sp} (h : SpB w q t l) {k : Nat} (hk : k < l.length) :
    w.cell? ⟨q, k * 2, none⟩ = some (.int .i64 (l.getD k sp0).lo) ∧ w.cell? ⟨q, k * 2 + 1, none⟩ = some (.int .i64 (l.getD k sp0).hi) := by
  obtain ⟨b, off, s, hA, hb, hs, h0, h1⟩ := Sps.get h.sl hk
  cases hA
  rw [List.getD_eq_getElem?_getD, hs]
  rw [Nat.zero_add] at h0 h1
  exact ⟨h0, h1⟩
theorem SpB.set {w : World} {q : Nat} {t : TypeId} {l : List Sp} (h : SpB w q t l) (k : Nat) (s : Sp) : SpB ((w.setCell ⟨q, k * 2, none⟩ (.int .i64 s.lo)).setCell ⟨q, k * 2 + 1, none⟩ (.int .i64 s.hi)) q t (l.set k s) := by
  have := set_blk (set_blk h (i := k * 2) (v := .int .i64 s.lo)) (i := k * 2 + 1) (v := .int .i64 s.hi)
  unfold SpB
  rw [this]
  congr 2
  show ((l.flatMap eSp).toArray.setIfInBounds _ _).setIfInBounds _ _ = _
  rw [List.setIfInBounds_toArray, List.setIfInBounds_toArray, flat_setY]
theorem SpB.below {w w' : World} {q B : Nat} {t : TypeId} {l : List Sp} (h : SpB w q t l) (hb : Below B w w') (hB : w.heap.size ≤ B) : SpB w' q t l := bheap h hb hB
theorem SpB.lt {w : World} {q : Nat} {t : TypeId} {l : List Sp} (h : SpB w q t l) : q < w.heap.size := heap_lt h
theorem SpB.free {w : World} {q : Nat} {t : TypeId} {l : List Sp} (h : SpB w q t l) (i : Nat) : w.frozen? ⟨q, i, none⟩ = false := frz h i
theorem take_set {α : Type} {l : List α} {k : Nat} (hk : k < l.length) (x : α) : (l.set k x).take (k + 1) = l.take k ++ [x] := by
  rw [List.take_add_one, List.getElem?_set_self hk, List.take_set_of_le (Nat.le_refl _)]
  rfl
abbrev wkO (T : Ty) (p : Tp) (M : Nat) : Obj := .cells #[.int .i64 T.g, .int .i64 T.f.lo, .int .i64 T.f.hi, .slice p.A T.ch.length p.c, .int .i64 T.m, .slice p.B T.cs.length p.d, .int .u64 0, .map (some M)] 141 (0, 0)
theorem blk8w {w : World} {k : Nat} {a b c d e f g h : Value} {t : TypeId} {z : Nat × Nat} (hb : w.heap[k]? = some (.cells #[a, b, c, d, e, f, g, h] t z)) :
    w.cell? ⟨k, 0, none⟩ = some a ∧ w.cell? ⟨k, 1, none⟩ = some b ∧ w.cell? ⟨k, 2, none⟩ = some c ∧ w.cell? ⟨k, 3, none⟩ = some d ∧ w.cell? ⟨k, 4, none⟩ = some e ∧ w.cell? ⟨k, 5, none⟩ = some f ∧ w.cell? ⟨k, 6, none⟩ = some g ∧ w.cell? ⟨k, 7, none⟩ = some h := by
  refine ⟨?_, ?_, ?_, ?_, ?_, ?_, ?_, ?_⟩ <;> simp [World.cell?, hb]
def TBeg (T : Ty) (p : Tp) (w : World) (v : Value) (w' : World) : Prop := ∃ k M : Nat, v = .pointer (some ⟨k, 0, none⟩) ∧ w.heap.size ≤ k ∧ w.heap.size ≤ M ∧ k ≠ M ∧ w'.heap[k]? = some (wkO T p M) ∧ w'.heap[M]? = some (.map #[] 0)
set_option maxRecDepth 100000 in
theorem tbeg_any (T : Ty) (p : Tp) (w : World) :
    Calls Try.prog 69 #[tyV T p] w fun e w' => (∃ v, e = .returned v ∧ TBeg T p w v w') ∧ Below w.heap.size w w' := by
  have hmm := @run_makeMap Try.prog
  go_enter Try.func69, Try.ntmps69
  go_wp2_with fail
  go_ret
  refine ⟨⟨_, rfl, _, _, rfl, ?_, ?_, ?_, alloc_at (by simp), hblk_alloc (alloc_at (by simp)) _⟩, bal (bal (bal0 w _) (Nat.le_refl _) _) (Nat.le_refl _) _⟩
  all_goals first | exact Nat.le_refl _ | omega | (simp; done) | (simp; omega)
theorem bcl {w w' : World} {B b i : Nat} {v : Value} (h : Below B w w') (hb : b < B) (hc : w.cell? ⟨b, i, none⟩ = some v) : w'.cell? ⟨b, i, none⟩ = some v := by
  unfold World.cell? at hc ⊢
  rw [h.block b hb]; exact hc
set_option maxRecDepth 100000 in
theorem tstr_any (T : Ty) (p : Tp) (k M g : Nat) (w : World) (hw : w.heap[k]? = some (wkO T p M)) (hi : TyIn w T p) (hk : TyOk T) (hg : (g : Int) + 1 < T.g) :
    Calls Try.prog 76 #[.pointer (some ⟨k, 0, none⟩), .int .i64 g] w fun e w' => e = .returned (spV (T.str g)) ∧ Below w.heap.size w w' := by
  have hcn := hk.cn
  have hg0 : (g : Int) < (T.ch.length : Int) := by omega
  obtain ⟨PA, pc, PB, pd⟩ := p
  obtain ⟨b, off, s, hA, hb, hs, s0, s1⟩ := Sps.get hi.a (show g < T.ch.length by omega)
  dsimp only at hA
  subst hA
  have hsg : T.ch.getD g sp0 = s := by rw [List.getD_eq_getElem?_getD, hs]; rfl
  have hso := hk.ch s (List.mem_of_getElem? hs)
  have hm := hk.m
  have hbd : (s.add ⟨-T.m, 0⟩).bd 9223372036854775807 := by
    obtain ⟨x, y, z⟩ := hso
    unfold Sp.bd Sp.add; dsimp only; omega
  have had : ∀ w, Calls Try.prog 75 #[.agg #[.int .i64 s.lo, .int .i64 s.hi], .agg #[.int .i64 (-T.m), .int .i64 0]] w fun e w' => e = .returned (spV (s.add ⟨-T.m, 0⟩)) ∧ Below w.heap.size w w' := fun w => tadd_any s ⟨-T.m, 0⟩ w hbd
  unfold Ty.str
  rw [hsg]
  obtain ⟨R, hR⟩ : ∃ R, R = s.add ⟨-T.m, 0⟩ := ⟨_, rfl⟩
  rw [← hR] at had ⊢
  obtain ⟨z1, z2⟩ := And.intro hi.ac hi.am
  dsimp only at z1 z2
  obtain ⟨W, hW⟩ : ∃ W, W = w.alloc (Obj.cells #[.int .i64 0, .int .i64 0] 91) := ⟨_, rfl⟩
  have hbW : Below w.heap.size w W := by rw [hW]; exact bal0 w _
  have bQ : W.heap[w.heap.size]? = some (Obj.cells #[.int .i64 0, .int .i64 0] 91 (0, 0)) := by rw [hW]; exact alloc_at rfl
  have HW := Lib.hid hW
  have hwW := bheap hw hbW (Nat.le_refl _)
  have s0W := bcell s0 hbW (Nat.le_refl _)
  have s1W := bcell s1 hbW (Nat.le_refl _)
  obtain ⟨q, hq⟩ : ∃ q, q = w.heap.size := ⟨_, rfl⟩
  rw [← hq] at bQ
  have HQ := Lib.hid hq
  have hkl := heap_lt hw
  have hkW := heap_lt hwW
  have hqW := heap_lt bQ
  have hbl : b < W.heap.size := cell_lt s0W
  have hkq : k < q := by omega
  have hbq : b < q := by have := cell_lt s0; omega
  have HB := Lib.hid hbW
  have hwr : IntKind.i64.wrap (-T.m) = -T.m := IntWalk.i64_in _ (by omega)
  clear hR hW hq hcn hso hm hbd hsg hs hi hk hbW hw hkl s0 s1 hb
  go_enter Try.func76, Try.ntmps76
  go_upto_region 1 with (fail)
  rw [← HW.out, ← HQ.out]
  have HH := Lib.hid (fun (w' : World) (h : Below q W w') => And.intro (blk8w ((h.block k hkq).trans hwW)) (And.intro (bcl h hbq s0W) (bcl h hbq s1W)))
  have HBQ := Lib.hid bQ
  have ⟨⟨c0, c1, c2, c3, c4, c5, c6, c7⟩, d0, d1⟩ := HH.out W (Below.refl _ _)
  have f0 := frz bQ 0
  have f1 := frz bQ 1
  clear hwW s0W s1W bQ
  go_region_held3 (fun w' => (w'.cell? ⟨k, 3, none⟩ = some (.slice (some ⟨b, off, none⟩) T.ch.length pc) ∧ w'.cell? ⟨k, 4, none⟩ = some (.int .i64 T.m)) ∧ w'.cell? ⟨b, off + g * 2, none⟩ = some (.int .i64 s.lo) ∧ w'.cell? ⟨b, off + g * 2 + 1, none⟩ = some (.int .i64 s.hi))
    ((refine (fun (h : _ ∧ _ ∧ _) => And.intro (And.intro h.1.2.2.2.1 h.1.2.2.2.2.1) h.2) (HH.out _ ?_)
      repeat' (first | (with_reducible exact Below.refl _ _) | (with_reducible refine bdraw ?_) | (with_reducible refine Below.trans ?_ (Below.mono (bal0 _ _) ?_)) | (with_reducible refine Below.trans ?_ (Below.mono hb3 ?_)) | (with_reducible refine Below.setCell ?_ ?_ _) | omega | exact Nat.le_refl _ | (simp; done) | (simp; omega) | fail)
      ))
    (first
      | (go_at_call 75; (try rw [hwr]); (with_reducible refine (had _).mono ?_); rintro e w3 ⟨rfl, hb3⟩; have b3 := bheap (show W.drew.heap[q]? = _ from HBQ.out) hb3 (Nat.le_refl _); have y0 := frz b3 0; have y1 := frz b3 1; obtain ⟨x0, x1⟩ := blk2 b3; have hl3 := heap_lt b3)
      | fail)
  all_goals
    go_wp2
    have hz := set_blk (set_blk b3 (i := 0) (v := .int .i64 R.lo)) (i := 1) (v := .int .i64 R.hi)
    refine bodyPost_ret (v := spV R) ?_ rfl ⟨rfl, ?_⟩
    · obtain ⟨g0, g1⟩ := blk2 hz
      simp [results, Try.f76, go_sem, g0, g1]
    · have hq := HQ.out
      refine HB.out.trans (Below.mono (B := q) ?_ (by omega))
      repeat' (first | (with_reducible exact Below.refl _ _) | (with_reducible refine bdraw ?_) | (with_reducible refine Below.trans ?_ (Below.mono (bal0 _ _) ?_)) | (with_reducible refine Below.trans ?_ (Below.mono hb3 ?_)) | (with_reducible refine Below.setCell ?_ ?_ _) | omega | exact Nat.le_refl _ | (simp; done) | (simp; omega) | fail)
end Go.Proofs.Ytgnjknihgjdedaa
namespace Go.Proofs.Ytgnjknihgjdedaa
open Go.RowKit Go.MapKept Go.ChangeMaps
set_option linter.unusedVariables false
set_option linter.unusedSimpArgs false

def TYw (j : Nat) (w w' : World) : Prop := Below w.heap.size w w'
theorem TYw.rf {j : Nat} (w : World) : TYw j w w := Below.refl _ _
def PYw (ws : World) (k : Nat) (w : World) : Prop := Below ws.heap.size ws w
theorem PYw.st {ws : World} (k i : Nat) (w w' : World) (hT : TYw i w w') (hp : PYw ws k w) : PYw ws k w' := Below.trans hp (Below.mono hT (Below.size hp))
def FYv (x : Value) : VF := fun v _ => v = x
abbrev z10 : Obj := .cells #[.int .i64 0, .int .i64 0, .int .i64 0, .int .i64 0, .int .i64 0, .int .i64 0, .int .i64 0, .int .i64 0, .int .i64 0, .int .i64 0] 146 (0, 0)
theorem info_lim : (Try.prog.info? 146).map (·.size) = some 10 := by kernel_rfl
theorem lcs_one (l : List Sp) : (lcs l).all (·.oneCell') = true := by
  rw [Array.all_eq_true_iff_forall_mem]
  intro x hx
  rw [List.mem_toArray, List.mem_flatMap] at hx
  obtain ⟨a, _, h⟩ := hx
  unfold eSp at h
  rcases List.mem_cons.1 h with rfl | h
  · rfl
  · rw [List.mem_singleton.1 h]; rfl
theorem wp_loadL {ops : Array Oper} {rest : List Oper} {o : Oper} {a : Act} {w : World} {Q : Exit → Act → World → Prop} {b : Nat} {l : List Sp} (hb : SpB w b 146 l) (hl : l.length = 5)
    (hg : o.guard = none) (x : Operand) (ho : o.op = .load 146 x) (hx : a.eval x = .pointer (some ⟨b, 0, none⟩))
    (hK : wpList Try.prog ops Q rest (a.put o.dst (.agg (lcs l))) w) : wpList Try.prog ops Q (o :: rest) a w :=
  wpList_load_row hg 146 x ho b hx _ (lcs l) _ _ hb Try.underlying146 rfl (by rw [info_lim, lcs_size, hl]) hK
theorem wp_storeL {ops : Array Oper} {rest : List Oper} {o : Oper} {a : Act} {w : World} {Q : Exit → Act → World → Prop} {b : Nat} {l : List Sp} {old : Array Value} (hb : w.heap[b]? = some (.cells old 146 (0, 0))) (hold : old.size = 10) (hl : l.length = 5)
    (hg : o.guard = none) (x y : Operand) (ho : o.op = .store 146 x y) (hx : a.eval x = .pointer (some ⟨b, 0, none⟩)) (hy : a.eval y = .agg (lcs l))
    (hK : ∀ w2, SpB w2 b 146 l → w.grownBy w2 (some b) → w2.heap.size = w.heap.size → wpList Try.prog ops Q rest (a.put o.dst undef) w2) : wpList Try.prog ops Q (o :: rest) a w := by
  refine wpList_store_row hg 146 x y ho b (lcs l) hx hy _ old hb (by rw [info_lim, lcs_size, hl]) (by rw [hold, lcs_size, hl]) (lcs_one l) (hK _ (setRow_heap _ _ _ _ _ _ hb) ⟨rfl, rfl, rfl, by simp [World.setRow], fun k hk hne => ?_⟩ (by simp [World.setRow]))
  unfold World.setRow
  rw [Array.getElem?_modify, if_neg (fun e => hne (by rw [e]))]
theorem list5s {α : Type} {l : List α} (h : l.length = 5) : ∃ a b c d e, l = [a, b, c, d, e] := by
  match l, h with
  | [a, b, c, d, e], _ => exact ⟨a, b, c, d, e, rfl⟩
set_option maxRecDepth 100000 in
theorem tlim_any (T : Ty) (p : Tp) (k M : Nat) (w : World) (hw : w.heap[k]? = some (wkO T p M)) (hi : TyIn w T p) (hk : TyOk T) :
    Calls Try.prog 72 #[.pointer (some ⟨k, 0, none⟩)] w fun e w' => e = .returned (.agg (lcs (limL T.cs))) ∧ Below w.heap.size w w' := by
  obtain ⟨PA, pc, PB, pd⟩ := p
  obtain ⟨W, hW⟩ : ∃ W, W = (w.alloc z10).alloc z10 := ⟨_, rfl⟩
  obtain ⟨r, hr⟩ : ∃ r, r = w.heap.size := ⟨_, rfl⟩
  have b0 : W.heap[r]? = some z10 := by rw [hW, hr]; exact hblk_alloc (alloc_at rfl) _
  have b1 : SpB W (r + 1) 146 (List.replicate 5 sp0) := by rw [hW, hr]; exact alloc_at (by simp)
  have hbW : Below w.heap.size w W := by rw [hW]; exact bal (bal0 w _) (Nat.le_refl _) _
  have HW := Lib.hid (And.intro hW hr)
  have HB := Lib.hid (And.intro b0 (And.intro b1 (And.intro hbW (And.intro (bheap hw hbW (Nat.le_refl _)) hi))))
  have hkr : k < r := by rw [hr]; exact heap_lt hw
  have hrl : r + 1 < W.heap.size := heap_lt b1
  have HK := Lib.hid hk
  clear hW hr b0 b1 hbW hw hi hk
  go_enter Try.func72, Try.ntmps72
  go_wp2_with fail
  rw [show (w.alloc z10).alloc z10 = W from HW.out.1.symm, ← HW.out.2]
  go_loopg [4, 7, 8, 9, 10, 11, 12, 13] 5 (fun g _ v _ _ _ _ _ _ wr => ∃ (j : Nat) (l : List Sp), j + g = 5 ∧ v = .int .i64 j ∧ l.length = 5 ∧ l.take j = List.replicate j spW ∧ SpB wr (r + 1) 146 l ∧ Below (r + 1) W wr)
  case atStart => exact ⟨0, _, by omega, rfl, rfl, rfl, HB.out.2.1, Below.refl _ _⟩
  case round =>
    obtain ⟨j, l, hj, rfl, hl, htk, hlb, hbr⟩ := hrel
    have HJ := Lib.hid (And.intro hj (And.intro hl (And.intro htk (And.intro hlb hbr))))
    by_cases hlt : j < 5
    · obtain ⟨c0, c1⟩ := hlb.get (show j < l.length by omega)
      have f0 := hlb.free (j * 2)
      have f1 := hlb.free (j * 2 + 1)
      have hlq := hlb.lt
      clear hj hl htk hlb hbr
      go_wp2_with fail
      go_roundg (gk - 1)
      case measure => have := HJ.out.1; omega
      case rel => exact ⟨j + 1, l.set j spW, by have := HJ.out.1; omega, by go_num, by rw [List.length_set]; exact HJ.out.2.1, by rw [take_set (by have := HJ.out.2.1; omega), HJ.out.2.2.1, List.replicate_succ'], HJ.out.2.2.2.1.set j spW, by have h := HJ.out.2.2.2.2; exact Below.setCell (Below.setCell h (p := ⟨r + 1, j * 2, none⟩) (Nat.le_refl _) _) (p := ⟨r + 1, j * 2 + 1, none⟩) (Nat.le_refl _) _⟩
    · obtain rfl : j = 5 := by omega
      have hl5 : l = [spW, spW, spW, spW, spW] := by rw [List.take_of_length_le (by omega)] at htk; exact htk
      subst hl5
      obtain ⟨wr0, hwr⟩ : ∃ W : World, W = wr := ⟨_, rfl⟩
      rw [← hwr] at hlb hbr ⊢
      clear hwr HJ hj hl htk hlt
      have hk0 := (hbr.block k (by omega)).trans HB.out.2.2.2.1
      have hb0 : Below w.heap.size w wr0 := HB.out.2.2.1.trans (hbr.mono (by have := HW.out.2; omega))
      have hi0 : TyIn wr0 T ⟨PA, pc, PB, pd⟩ := HB.out.2.2.2.2.below hb0 (Nat.le_refl _)
      have HI := Lib.hid (And.intro hi0 (And.intro hk0 (And.intro hb0 (And.intro hlb ((hbr.block r (by omega)).trans HB.out.1)))))
      obtain ⟨c0, c1, c2, c3, c4, c5, c6, c7⟩ := blk8w hk0
      obtain ⟨ns, hns⟩ : ∃ n, n = T.cs.length := ⟨_, rfl⟩
      have hns7 : ns ≤ 7 := by rw [hns]; exact HK.out.sn
      have hbc : ns ≤ pd ∧ pd ≤ maxLen := ⟨by rw [hns]; exact hi0.bc, hi0.bm⟩
      dsimp only at c5
      rw [← hns] at c5
      have HN := Lib.hid hns
      have hrl := hlb.lt
      clear hns hk0 hb0 hi0 hbr hlb
      go_wp2_with fail
      clear c0 c1 c2 c3 c4 c5 c7
      go_loopg [5, 6, 20, 21, 22, 23, 24, 25, 26, 27, 28, 29, 30, 31, 32, 33, 34, 35, 36, 37, 38, 39, 40, 41, 42, 43, 44] ns (fun g _ _ v _ _ _ _ _ _ _ _ _ _ _ _ _ _ _ _ _ _ _ _ _ _ _ _ wr => ∃ i : Nat, i + g = ns ∧ v = .int .i64 i ∧ SpB wr (r + 1) 146 ((T.cs.take i).foldl limStep [spW, spW, spW, spW, spW]) ∧ Below (r + 1) wr0 wr)
      case atStart => exact ⟨0, by omega, rfl, HI.out.2.2.2.1, Below.refl _ _⟩
      case round =>
        obtain ⟨i, hi, rfl, hlb, hbr⟩ := hrel
        have hb1 : Below w.heap.size w wr := HI.out.2.2.1.trans (hbr.mono (by have := HW.out.2; omega))
        have HJ := Lib.hid (And.intro hi (And.intro hlb (And.intro hbr hb1)))
        by_cases hlt : i < ns
        · obtain ⟨bi, oi, c, hB, hbi, hc, d0, d1, d2, d3⟩ := Cts.get (HB.out.2.2.2.2.below hb1 (Nat.le_refl _)).b (show i < T.cs.length by rw [← HN.out]; exact hlt)
          dsimp only at hB
          have hkb := (hbr.block k (by omega)).trans HI.out.2.1
          obtain ⟨k0, k1, k2, k3, k4, k5, k6, k7⟩ := blk8w hkb
          have hkz := heap_lt hkb
          have hlz := hlb.lt
          have HC := Lib.hid hc
          have hco := HK.out.cs _ (List.mem_of_getElem? hc)
          obtain ⟨cg, cm, cn, ce⟩ := c
          have hcb := hco.g0
          have hg5 := HK.out.g.2
          dsimp only at hcb
          obtain ⟨gi, rfl⟩ := Int.eq_ofNat_of_zero_le hcb.1
          obtain ⟨l, hl⟩ : ∃ l, l = (T.cs.take i).foldl limStep [spW, spW, spW, spW, spW] := ⟨_, rfl⟩
          rw [← hl] at hlb
          have hl5 : l.length = 5 := by rw [hl]; exact limF_len _ _
          have hgi : gi < 5 := by omega
          obtain ⟨m, hm⟩ : ∃ m, m = l.getD gi sp0 := ⟨_, rfl⟩
          obtain ⟨rd, hrd⟩ : ∃ x, x = readsS ⟨(gi : Int), cm, cn, ce⟩ := ⟨_, rfl⟩
          have cr : ∀ w, Calls Try.prog 103 #[.agg #[.int .i64 (gi : Int), .int .i64 cm, .int .i64 cn, .int .i64 ce]] w fun e w' => e = .returned (.agg #[.int .i64 rd.lo, .int .i64 rd.hi]) ∧ Below w.heap.size w w' := fun w => by rw [hrd]; exact tread_any ⟨(gi : Int), cm, cn, ce⟩ w hco.n0 hco.e0
          obtain ⟨me, hme⟩ : ∃ x, x = m.meet rd := ⟨_, rfl⟩
          have cme : ∀ w, Calls Try.prog 74 #[.agg #[.int .i64 m.lo, .int .i64 m.hi], .agg #[.int .i64 rd.lo, .int .i64 rd.hi]] w fun e w' => e = .returned (.agg #[.int .i64 me.lo, .int .i64 me.hi]) ∧ Below w.heap.size w w' := fun w => by rw [hme]; exact tmeet_any m rd w
          have hgt := hlb.get (show gi < l.length by omega)
          rw [← hm] at hgt
          have hst : limStep l ⟨(gi : Int), cm, cn, ce⟩ = l.set gi me := by unfold limStep; rw [hme, hm, hrd]; rfl
          have HL := Lib.hid (And.intro hl (And.intro hlb (And.intro hgt hst)))
          have hgi0 : (0 : Int) ≤ (gi : Int) := by omega
          have hgi5 : (gi : Int) < 5 := by omega
          have HL5 := Lib.hid hl5
          clear hl hl5 hm hrd hme hgt hst hco hcb hg5
          subst hB
          clear hi hlb hbr hb1 hc hkb k0 k1 k2 k3 k4 k5 k7
          go_upto_region 11 with (fail)
          obtain ⟨Z, hZ⟩ : ∃ Z, Z = wr.alloc (Obj.cells #[Value.int .i64 (gi : Int), .int .i64 cm, .int .i64 cn, .int .i64 ce] 76) := ⟨_, rfl⟩
          obtain ⟨x, hx⟩ : ∃ x, x = wr.heap.size := ⟨_, rfl⟩
          have bz : Z.heap[x]? = some (Obj.cells #[Value.int .i64 (gi : Int), .int .i64 cm, .int .i64 cn, .int .i64 ce] 76 (0, 0)) := by rw [hZ, hx]; exact alloc_at rfl
          have hbZ : Below wr.heap.size wr Z := by rw [hZ]; exact bal0 wr _
          have lz : SpB Z (r + 1) 146 l := HL.out.2.1.below hbZ (Nat.le_refl _)
          have m0 := bcell HL.out.2.2.1.1 hbZ (Nat.le_refl _)
          have m1 := bcell HL.out.2.2.1.2 hbZ (Nat.le_refl _)
          rw [← hZ, ← hx]
          have HH := Lib.hid (fun (w' : World) (h : Below Z.heap.size Z w') => And.intro (blk4 (bheap bz h (Nat.le_refl _))) (And.intro (bcell m0 h (Nat.le_refl _)) (bcell m1 h (Nat.le_refl _))))
          have ⟨⟨a0, a1, a2, a3⟩, e0, e1⟩ := HH.out Z (Below.refl _ _)
          have hxl := heap_lt bz
          have hrZ := lz.lt
          have f0 := lz.free (gi * 2)
          have f1 := lz.free (gi * 2 + 1)
          have HZ := Lib.hid (And.intro hZ (And.intro hx (And.intro hbZ lz)))
          clear hZ hx bz hbZ lz m0 m1 d0 d1 d2 d3 k6 hkz hlz hbi
          have HD := Lib.hid (fun (w' : World) (h : Below Z.drew.heap.size Z.drew w') => And.intro (HH.out w' ((bdraw (Below.refl Z.heap.size Z)).trans h)) (And.intro (Nat.lt_of_lt_of_le hxl (show Z.heap.size ≤ w'.heap.size from h.size)) (Nat.lt_of_lt_of_le hrZ (show Z.heap.size ≤ w'.heap.size from h.size))))
          refine wp_region_tag 10 0 0 [] [] 0 (TYw) (PYw Z.drew) [0, 0, 0, 0, 0, 0, 0, 0, 0, 0] (by as_aux_lemma => kernel_rfl) (by as_aux_lemma => kernel_rfl) (by as_aux_lemma => kernel_rfl) (by as_aux_lemma => kernel_rfl) (by omega) (.inl rfl) rfl rfl (fun k i w1 w2 hc _ hT hp => PYw.st k i w1 w2 hT hp) (fun k => Below.refl _ _) ?_
          apply Exists.intro
          refine ⟨fun ys => ?_, fun ops K hK => ?_⟩
          · simp only [List.take_succ_cons, List.take_zero, dstsOf, List.filterMap_cons, List.filterMap_nil, putAll]
            go_simp
            rfl
          simp only [List.take_succ_cons, List.take_zero, List.drop_succ_cons, List.drop_zero] at hK ⊢
          iterate 7
            refine LexT.const TYw.rf ?_
            apply Exists.intro
            refine ⟨fun ys w' hp hpk hq hd => ?_, ?_⟩
            · try simp [DepsOf, depsGo, DF.holds, Region.binds, EqF] at hd
              try simp only [hd]
              obtain ⟨⟨⟨a0, a1, a2, a3⟩, e0, e1⟩, l1, l2⟩ := HD.out w' hp
              clear hp hpk hq
              intro Q2 hQ2
              go_wp2_with fail
              rfl
            try simp only [List.nil_append, List.cons_append]
          refine LexT.some (FYv (.agg #[.int .i64 rd.lo, .int .i64 rd.hi])) (fun i v w1 w2 hc _ hT h => h) (fun ys w' hp hpk hq hd => ?_) ?_
          · try simp [DepsOf, depsGo, DF.holds, Region.binds, EqF] at hd
            try simp only [hd]
            clear hp hpk hq hd
            intro Q2 hQ2
            go_wp2_with fail
            (with_reducible refine (cr _).mono ?_)
            rintro e w4 ⟨rfl, hb4⟩
            have HX := Lib.hid (show TYw 0 w' w4 ∧ FYv (.agg #[.int .i64 rd.lo, .int .i64 rd.hi]) (.agg #[.int .i64 rd.lo, .int .i64 rd.hi]) w4 from ⟨hb4, rfl⟩)
            clear hb4
            go_wp2
            exact ⟨_, rfl, HX.out⟩
          try simp only [List.nil_append, List.cons_append]
          refine LexT.some (FYv (.agg #[.int .i64 me.lo, .int .i64 me.hi])) (fun i v w1 w2 hc _ hT h => h) (fun ys w' hp hpk hq hd => ?_) ?_
          · try simp [DepsOf, depsGo, DF.holds, Region.binds, EqF] at hd
            try simp only [hd]
            obtain ⟨y2, y1⟩ := hd
            have y1 : ys 41 = .agg #[.int .i64 rd.lo, .int .i64 rd.hi] := y1
            simp only [y1, y2]
            clear hp hpk hq y1 y2
            intro Q2 hQ2
            go_wp2_with fail
            (with_reducible refine (cme _).mono ?_)
            rintro e w4 ⟨rfl, hb4⟩
            have HX := Lib.hid (show TYw 0 w' w4 ∧ FYv (.agg #[.int .i64 me.lo, .int .i64 me.hi]) (.agg #[.int .i64 me.lo, .int .i64 me.hi]) w4 from ⟨hb4, rfl⟩)
            clear hb4
            go_wp2
            exact ⟨_, rfl, HX.out⟩
          try simp only [List.nil_append, List.cons_append]
          iterate 1
            refine LexT.const TYw.rf ?_
            apply Exists.intro
            refine ⟨fun ys w' hp hpk hq hd => ?_, ?_⟩
            · try simp [DepsOf, depsGo, DF.holds, Region.binds, EqF] at hd
              try simp only [hd]
              obtain ⟨⟨⟨a0, a1, a2, a3⟩, e0, e1⟩, l1, l2⟩ := HD.out w' hp
              clear hp hpk hq
              intro Q2 hQ2
              go_wp2_with fail
              rfl
            try simp only [List.nil_append, List.cons_append]
          refine hK _ fun ys w' hp hF => ?_
          simp [AllF, DF.holds] at hF
          obtain ⟨-, -, -, -, -, -, -, -, f42, f43⟩ := hF
          have f42 : ys 42 = .agg #[.int .i64 me.lo, .int .i64 me.hi] := f42
          simp only [f42, f43]
          have hpB : Below Z.heap.size Z w' := (bdraw (Below.refl Z.heap.size Z)).trans hp
          have b4 := HZ.out.2.2.2.below hpB (Nat.le_refl _)
          have y0 := b4.free (gi * 2)
          have y1 := b4.free (gi * 2 + 1)
          obtain ⟨x0, x1⟩ := b4.get (show gi < l.length by have := HL5.out; omega)
          have hl4 := b4.lt
          have HX := Lib.hid (And.intro hpB b4)
          clear hK f42 f43 hp hpB b4 a0 a1 a2 a3 e0 e1 f0 f1
          go_wp2
          go_roundg (gk - 1)
          case measure => have := HJ.out.1; omega
          case rel =>
            have hzz : wr.heap.size ≤ Z.heap.size := HZ.out.2.2.1.size
            have hrr := HL.out.2.1.lt
            have hb := HJ.out.2.2.1.trans (HZ.out.2.2.1.mono (by omega)) |>.trans (HX.out.1.mono (by omega))
            refine ⟨i + 1, by have := HJ.out.1; omega, by go_num, ?_, Below.setCell (Below.setCell hb (p := ⟨r + 1, gi * 2, none⟩) (Nat.le_refl _) _) (p := ⟨r + 1, gi * 2 + 1, none⟩) (Nat.le_refl _) _⟩
            have h := HX.out.2.set gi me
            rw [List.take_add_one, HC.out, List.foldl_append]
            rw [← HL.out.1]
            show SpB _ _ _ (limStep l ⟨(gi : Int), cm, cn, ce⟩)
            rw [HL.out.2.2.2]
            exact h
        · obtain rfl : i = ns := by omega
          have htk : T.cs.take i = T.cs := List.take_of_length_le (by rw [HN.out]; exact Nat.le_refl _)
          rw [htk] at hlb
          change SpB wr (r + 1) 146 (limL T.cs) at hlb
          have hl5 := limL_len T.cs
          have b4 := (hbr.block r (by omega)).trans HI.out.2.2.2.2
          have hBF := hb1
          have HF := Lib.hid (And.intro hlb (And.intro hBF b4))
          obtain ⟨L, hL⟩ : ∃ L, L = limL T.cs := ⟨_, rfl⟩
          rw [← hL] at hlb hl5
          have HL := Lib.hid hL
          clear hL htk hb1 hbr hi hBF
          go_wp2_with (first
            | ((with_reducible apply wp_loadL hlb hl5); (rfl); (rfl); (rfl))
            | ((with_reducible apply wp_storeL b4 rfl hl5); (rfl); (rfl); (rfl); (rfl); intro w5 b5 g5 z5))
          obtain ⟨s0, s1, s2, s3, s4, hs⟩ := list5s hl5
          have hcell := fun j (hj : j < 5) => b5.get (show j < L.length by omega)
          have HLe := Lib.hid (show limL T.cs = [s0, s1, s2, s3, s4] from HL.out.symm.trans hs)
          rw [hs] at hcell
          obtain ⟨y0, y1⟩ := hcell 0 (by decide)
          obtain ⟨y2, y3⟩ := hcell 1 (by decide)
          obtain ⟨y4, y5⟩ := hcell 2 (by decide)
          obtain ⟨y6, y7⟩ := hcell 3 (by decide)
          obtain ⟨y8, y9⟩ := hcell 4 (by decide)
          simp at y0 y1 y2 y3 y4 y5 y6 y7 y8 y9
          refine bodyPost_ret (v := .agg (lcs [s0, s1, s2, s3, s4])) ?_ rfl ⟨by rw [HLe.out], HF.out.2.1.grown g5 (Below.size HF.out.2.1) (fun j hj => by cases hj; have := HW.out.2; omega)⟩
          simp [results, Try.f72, go_sem, lcs, eSp, y0, y1, y2, y3, y4, y5, y6, y7, y8, y9]
end Go.Proofs.Ytgnjknihgjdedaa
namespace Go.Proofs.Ytgnjknihgjdedaa
open Go.RowKit
set_option linter.unusedVariables false
set_option linter.unusedSimpArgs false

def SeqX {α : Type} (F : Fence) (n : Nat) (P : Program) (g : Nat) (lb : Array Value) (enc : α → Array Value) (Kp Ex : World → World → Prop) (S Sp : List α → Prop) (w : World) : Prop :=
  ∀ (l : Nat) (J Jx : List α → World → Prop) (W : World), Below w.heap.size w W → AbidesFrom W.heap.size J → AbidesFrom W.heap.size Jx → (∀ s A B, J s A → Ex A B → J s B) →
    (∀ pre x V, J pre V → Sp (pre ++ [x]) → YieldAt F (n - 1) P l (enc x) V fun e V' => (e = .returned (.bool true) ∧ J (pre ++ [x]) V' ∧ Kp V V') ∨ (e = .returned (.bool false) ∧ Jx (pre ++ [x]) V')) →
    J [] W → CallsIn F n P g (#[.func (.yield l) #[] #[]] ++ lb) W fun e W' => (∃ v, e = .returned v) ∧ ((∃ xs, S xs ∧ J xs W') ∨ ∃ pre, Sp pre ∧ Jx pre W')

def RecX (D : Nat) (r : Loop) (W : World) : Prop := W.heap[D + 1]? = some (.loop r) ∧ W.heap[D]? = some (.deferred (some []))
theorem RecX.ab {D : Nat} {r : Loop} {A B : World} {row : Option Nat} (h : RecX D r A) (hg : A.grownBy B row) (hr : ∀ i, row = some i → ∃ o : Obj, A.heap[i]? = some o ∧ o.isWalk = true) : RecX D r B :=
  ⟨(grownBy_keeps hg hr h.1 rfl).trans h.1, (grownBy_keeps hg hr h.2 rfl).trans h.2⟩
theorem RecX.others {D : Nat} {r : Loop} {A B : World} (h : RecX D r A) (hk : KeepsOthers A B) : RecX D r B := ⟨hk.same _ _ h.1 rfl, hk.same _ _ h.2 rfl⟩
theorem RecX.keeps {D B0 : Nat} {r : Loop} {A B : World} (h : RecX D r A) (hk : KeepsFrom B0 A B) (hB : B0 ≤ D) : RecX D r B := ⟨hk.same _ _ (by omega) h.1 rfl, hk.same _ _ hB h.2 rfl⟩
theorem RecX.turn {D : Nat} {r r' : Loop} {A : World} (h : RecX D r A) : RecX D r' (A.putObj (D + 1) (.loop r')) :=
  ⟨World.putObj_heap_same (Array.getElem?_eq_some_iff.1 h.1).1, (World.putObj_heap_other (by omega)).trans h.2⟩
variable {F : Fence} {n : Nat} {P : Program}
def roundX {α : Type} (Kp : World → World → Prop) (B : Nat) (I : List α → World → Prop) (Ix : Code → List α → World → Prop) (xs : List α) (W : World) : Exit → Act → World → Prop
  | .normal, _, W' => KeepsFrom B W W' ∧ Kp W W' ∧ I xs W'
  | .ret, _, W' => KeepsFrom B W W' ∧ Ix .ret xs W'
  | .exit id, _, W' => KeepsFrom B W W' ∧ Ix (.exit id) xs W'
  | .goto t, _, W' => KeepsFrom B W W' ∧ Ix (.goto t) xs W'
  | _, _, _ => False

theorem wpIn_rangeX {α : Type} {g : Operand} {ps : Array Tmp} {assign body : Code} {Q : Exit → Act → World → Prop} {a : Act} {w : World}
    (hro : F.round = none) (h1 : 1 ≤ n) {gf : Nat} {lb : Array Value} (hg : a.eval g = .func (.func gf) #[] lb) (hFg : F.fn gf) (eg : ∀ args w, (callFunc gf args).run P w = .ok (.enter gf args) w)
    {enc : α → Array Value} {Kp Ex : World → World → Prop} {S Sp : List α → Prop} (hseq : SeqX F (n - 1) P gf lb enc Kp Ex S Sp w) (hKt : ∀ A B C : World, Kp A B → Kp B C → Kp A C) (hKb : ∀ (W : World) (l : Nat) (o o' : Obj), w.heap.size ≤ l → W.heap[l]? = some o → o.isCells = false → o.isWalk = false → Kp W (W.putObj l o')) (hEx : ∀ A B, Ex A B → KeepsOthers A B) (hps : ∀ x, (enc x).size = ps.size)
    (I : List α → World → Prop) (Ix : Code → List α → World → Prop) (hI : OwnFrom w.heap.size I) (hIx : ∀ c, OwnFrom w.heap.size (Ix c)) (hIE : ∀ s A B, I s A → Ex A B → I s B) (h0 : I [] w)
    (Ax : α → Act → World → Prop) (hAx : ∀ x a', OwnFrom w.heap.size (fun (_ : Unit) W => Ax x a' W))
    (hassign : ∀ (l : Nat) (pre : List α) (x : α) (W : World) (K : Act → World → Prop), I pre W → Sp (pre ++ [x]) → (∀ a' W', KeepsFrom w.heap.size W W' → Kp W W' → I pre W' → Ax x a' W' → K a' W') →
      assign.wpIn (F.inRound l) (n - 1 - 1) P (Exit.then K (fun _ _ _ => False)) { tmps := (ps.zip (enc x)).foldl (fun t (p, v) => t.setIfInBounds p v) a.tmps, defers := [] } W)
    (hbody : ∀ (l : Nat) (pre : List α) (x : α) (a' : Act) (W : World), I pre W → Ax x a' W → Sp (pre ++ [x]) → body.wpIn (F.inRound l) (n - 1 - 1) P (roundX Kp w.heap.size I Ix (pre ++ [x]) W) a' W)
    (hdone : ∀ (D : Nat) (xs : List α) (W : World), w.heap.size ≤ D → S xs → I xs W → W.heap[D]? = some (.deferred (some [])) → Q .normal { a with defers := { target := .collected D, args := #[] } :: a.defers } W)
    (hstop : ∀ (D : Nat) (c : Code) (pre : List α) (W : World), w.heap.size ≤ D → Sp pre → Ix c pre W → W.heap[D]? = some (.deferred (some [])) → c.wpIn F n P Q { a with defers := { target := .collected D, args := #[] } :: a.defers } W) :
    (Code.rangeFunc g ps assign body).wpIn F n P Q a w := by
  refine wpIn_rangeFunc fun fn hfn => ?_
  rw [hro]
  obtain ⟨D, hD⟩ : ∃ D, D = w.heap.size := ⟨_, rfl⟩
  obtain ⟨rec, hrec⟩ : ∃ rec : LoopState → Option Code → Loop, rec = fun st pe => { state := st, pending := pe, fn, tmps := a.tmps, params := ps, assign, body, defers := D } := ⟨_, rfl⟩
  have rst : ∀ st pe, (rec st pe).state = st := fun st pe => by rw [hrec]
  have rpe : ∀ st pe, (rec st pe).pending = pe := fun st pe => by rw [hrec]
  have rup : ∀ st pe st' pe', { rec st pe with state := st', pending := pe' } = rec st' pe' := fun _ _ _ _ => by rw [hrec]
  have rup1 : ∀ st pe st', { rec st pe with state := st' } = rec st' pe := fun _ _ _ => by rw [hrec]
  obtain ⟨W1, hW1⟩ : ∃ W1, (w.alloc (.deferred (some []))).alloc (.loop (rec .ready none)) = W1 := ⟨_, rfl⟩
  have hz1 : W1.heap.size = D + 2 := by rw [← hW1, hD]; simp
  have hR1 : RecX D (rec .ready none) W1 := by
    have e1 : (w.alloc (.deferred (some []))).heap.size = D + 1 := by rw [hD]; simp
    refine ⟨?_, ?_⟩
    · have := World.alloc_heap_new (w.alloc (.deferred (some []))) (.loop (rec .ready none)); rw [e1] at this; rwa [← hW1]
    · rw [← hW1, Below.heap_alloc _ _ _ (by omega), hD]; exact World.alloc_heap_new w _
  have hI1 : I [] W1 := by rw [← hW1]; exact hI.alloc _ (hI.alloc _ h0)
  have hb1 : Below w.heap.size w W1 := by rw [← hW1]; exact ((Below.refl _ w).alloc (Nat.le_refl _) _).alloc (by simp) _
  refine ⟨D + 1, [{ target := .collected D, args := #[] }], W1, { target := .fn (.func gf) lb, args := #[.func (.yield (D + 1)) #[] #[]] }, W1, gf, #[.func (.yield (D + 1)) #[] #[]] ++ lb, W1, ?_, ?_, ?_, ?_, fun _ => h1, ?_⟩
  · rw [← hW1, hrec, hD]; exact run_enterLoop_outer _ _ _ _ _
  · simp only [resolve, hg]; simp [go_sem]
  · intro f' hf'; simp [Target.leads] at hf'; subst hf'; exact hFg
  · simp [invoke, go_sem, eg]
  -- what is no cells and lies at or behind w's end: it is asked of the iterator's steps
  have nw : ∀ {A B : World} {row : Option Nat}, A.grownBy B row → (∀ r, row = some r → W1.heap.size ≤ r ∧ ∃ o : Obj, A.heap[r]? = some o ∧ o.isWalk = true) → ∀ r, row = some r → w.heap.size ≤ r ∧ ∃ o : Obj, A.heap[r]? = some o ∧ o.isCells = false :=
    fun _ hr r e => by obtain ⟨hB, o, ho, hw⟩ := hr r e; exact ⟨by omega, o, ho, Obj.not_cells_of_walk hw⟩
  refine (hseq (D + 1) (fun pre W => I pre W ∧ RecX D (rec .ready none) W) (fun pre W => ∃ c, Ix c pre W ∧ RecX D (rec .done (some c)) W) W1 hb1
    (fun s A B row hs hg' hr => ⟨hI s A B row hs.1 hg' (nw hg' hr), hs.2.ab hg' fun r e => (hr r e).2⟩)
    (fun s A B row hs hg' hr => by obtain ⟨c, hc, hl⟩ := hs; exact ⟨c, hIx c s A B row hc hg' (nw hg' hr), hl.ab hg' fun r e => (hr r e).2⟩)
    (fun s A B hs hx => ⟨hIE s A B hs.1 hx, hs.2.others (hEx A B hx)⟩) ?round ⟨hI1, hR1⟩).mono ?behind
  case round =>
    rintro pre x V ⟨hi, hR⟩ hsp
    have hy := run_yield (P := P) (args := enc x) hR.1 (by rw [hrec]; exact hps x)
    have e1 : (rec .ready none).fn = fn := by rw [hrec]
    have e2 : (rec .ready none).params = ps := by rw [hrec]
    have e3 : (rec .ready none).tmps = a.tmps := by rw [hrec]
    have e4 : (rec .ready none).assign = assign := by rw [hrec]
    have e5 : (rec .ready none).body = body := by rw [hrec]
    rw [e1, e2, e3, e4, e5] at hy
    refine ⟨fn, _, assign, body, hy, roundIn_of_wpIn hfn (hassign _ pre x V _ hi hsp ?_)⟩
    intro a' U hkf hkw hi2 hax
    have hR2 := hR.keeps hkf (by omega)
    refine ⟨_, run_beginRound hR2.1 (rst _ _), ?_⟩
    rw [rup1]
    have hR3 : RecX D (rec .busy none) (U.putObj (D + 1) (.loop (rec .busy none))) := hR2.turn
    have hk3 : Kp U (U.putObj (D + 1) (.loop (rec .busy none))) := hKb _ _ _ _ (by omega) hR2.1 rfl rfl
    refine wpIn_mono (hbody _ pre x a' _ (hI.putObj _ hi2 (by omega) hR2.1 rfl) ((hAx x a').putObj (s := ()) _ hax (by omega) hR2.1 rfl) hsp) ?_
    have fin : ∀ (jump : Option Code) (Z : World), KeepsFrom w.heap.size (U.putObj (D + 1) (.loop (rec .busy none))) Z →
        (Instr.endRound (D + 1) jump).run P Z = .ok (.bool jump.isNone) (Z.putObj (D + 1) (.loop (rec (if jump.isNone then .ready else .done) jump))) ∧ RecX D (rec .busy none) Z := fun jump Z hk => by
      have hR4 := hR3.keeps hk (by omega)
      have := run_endRound (P := P) jump hR4.1
      rw [rup] at this
      exact ⟨this, hR4⟩
    intro e a3 Z hp
    cases e with
    | normal =>
      obtain ⟨k1, k2, k3⟩ := hp
      obtain ⟨hr, hR4⟩ := fin none Z k1
      exact ⟨_, _, hr, .inl ⟨rfl, ⟨hI.putObj _ k3 (by omega) hR4.1 rfl, hR4.turn⟩, hKt _ _ _ hkw (hKt _ _ _ hk3 (hKt _ _ _ k2 (hKb _ _ _ _ (by omega) hR4.1 rfl rfl)))⟩⟩
    | ret =>
      obtain ⟨hr, hR4⟩ := fin (some .ret) Z hp.1
      exact ⟨_, _, hr, .inr ⟨rfl, _, (hIx _).putObj _ hp.2 (by omega) hR4.1 rfl, hR4.turn⟩⟩
    | exit id =>
      obtain ⟨hr, hR4⟩ := fin (some (.exit id)) Z hp.1
      exact ⟨_, _, hr, .inr ⟨rfl, _, (hIx _).putObj _ hp.2 (by omega) hR4.1 rfl, hR4.turn⟩⟩
    | goto t =>
      obtain ⟨hr, hR4⟩ := fin (some (.goto t)) Z hp.1
      exact ⟨_, _, hr, .inr ⟨rfl, _, (hIx _).putObj _ hp.2 (by omega) hR4.1 rfl, hR4.turn⟩⟩
    | panic ch => exact hp.elim
    | outgrown => exact hp.elim
  case behind =>
    rintro e Z ⟨⟨v, rfl⟩, (⟨xs, hS, hi, hR⟩ | ⟨pre, hSp, c, hi, hR⟩)⟩
    · have := run_endLoop (P := P) hR.1 (by rw [rst]; simp)
      rw [rup1, rpe] at this
      exact ⟨none, _, this, hdone D xs _ (by omega) hS (hI.putObj _ hi (by omega) hR.1 rfl) hR.turn.2⟩
    · have := run_endLoop (P := P) hR.1 (by rw [rst]; simp)
      rw [rup1, rpe] at this
      exact ⟨some c, _, this, hstop D c pre _ (by omega) hSp ((hIx c).putObj _ hi (by omega) hR.1 rfl) hR.turn.2⟩
end Go.Proofs.Ytgnjknihgjdedaa
