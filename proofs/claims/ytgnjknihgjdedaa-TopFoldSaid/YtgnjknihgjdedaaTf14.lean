/- TopFold 14: TyB, TyC, DrawT. -/
import Derived.Test.YtgnjknihgjdedaaTf02
import Derived.Test.YtgnjknihgjdedaaTf07
import Derived.Deep.RegionHeld3
import Derived.Maps.Own
import Derived.Maps.OwnOps
import Derived.Test.YtgnjknihgjdedaaTf05
namespace Go.Proofs.Ytgnjknihgjdedaa
open Go.RowKit
set_option linter.unusedVariables false
set_option linter.unusedSimpArgs false

abbrev spV (s : Sp) : Value := .agg #[.int .i64 s.lo, .int .i64 s.hi]
theorem tmeet_any (a b : Sp) (w : World) :
    Calls Try.prog 74 #[spV a, spV b] w fun e w' => e = .returned (spV (a.meet b)) ∧ Below w.heap.size w w' := by
  unfold Sp.meet
  obtain ⟨X, hX⟩ : ∃ X, X = max a.lo b.lo := ⟨_, rfl⟩
  obtain ⟨Y, hY⟩ : ∃ Y, Y = min a.hi b.hi := ⟨_, rfl⟩
  rw [← hX, ← hY]
  have HX := Lib.hid (And.intro hX hY)
  clear hX hY
  go_enter Try.func74, Try.ntmps74
  go_wp2
  all_goals
    refine bodyPost_ret (v := spV ⟨X, Y⟩) ?_ rfl ⟨rfl, ?_⟩
    · have h1 := HX.out.1
      have h2 := HX.out.2
      simp [results, Try.f74, go_sem]
      omega
    · exact bal (bal (bal0 w _) (Nat.le_refl _) _) (Nat.le_refl _) _
theorem tadd_any (a b : Sp) (w : World) (h : (a.add b).bd 9223372036854775807) :
    Calls Try.prog 75 #[spV a, spV b] w fun e w' => e = .returned (spV (a.add b)) ∧ Below w.heap.size w w' := by
  obtain ⟨h1, h2, h3, h4⟩ := h
  unfold Sp.add at h1 h2 h3 h4 ⊢
  dsimp only at h1 h2 h3 h4
  go_enter Try.func75, Try.ntmps75
  go_wp2
  refine bodyPost_ret (v := spV ⟨a.lo + b.lo, a.hi + b.hi⟩) ?_ rfl ⟨rfl, ?_⟩
  · simp [results, Try.f75, go_sem]
  · exact bal (bal (bal0 w _) (Nat.le_refl _) _) (Nat.le_refl _) _
theorem tturn_any (a : Sp) (w : World) (h : a.bd 9223372036854775807) :
    Calls Try.prog 73 #[spV a] w fun e w' => e = .returned (spV a.turn) ∧ Below w.heap.size w w' := by
  obtain ⟨h1, h2, h3, h4⟩ := h
  unfold Sp.turn
  go_enter Try.func73, Try.ntmps73
  go_wp2
  refine bodyPost_ret (v := spV ⟨-a.hi, -a.lo⟩) ?_ rfl ⟨rfl, ?_⟩
  · simp [results, Try.f73, go_sem]
  · exact bal (bal0 w _) (Nat.le_refl _) _
theorem temp_any (a : Sp) (w : World) :
    Calls Try.prog 79 #[spV a] w fun e w' => e = .returned (.bool a.emp) ∧ Below w.heap.size w w' := by
  unfold Sp.emp
  go_enter Try.func79, Try.ntmps79
  go_wp2
  go_ret
  exact ⟨rfl, bal0 w _⟩
set_option maxRecDepth 100000 in
theorem tread_any (c : Ct) (w : World) (hN : 0 ≤ c.n ∧ c.n ≤ 300) (hE : 0 ≤ c.e ∧ c.e ≤ 20) :
    Calls Try.prog 103 #[.agg #[.int .i64 c.g, .int .i64 c.m, .int .i64 c.n, .int .i64 c.e]] w fun e w' => e = .returned (spV (readsS c)) ∧ Below w.heap.size w w' := by
  obtain ⟨G, M, N, E⟩ := c
  dsimp only at hN hE ⊢
  obtain ⟨hN0, hN1⟩ := hN
  obtain ⟨hE0, hE1⟩ := hE
  have q1 : wrap64 (100 * N) = 100 * N := IntWalk.wrap64_in _ (by omega)
  have q2 : wrap64 (100 * N + 99) = 100 * N + 99 := IntWalk.wrap64_in _ (by omega)
  have q3 : wrap64 (100 * N + 99 + E) = 100 * N + 99 + E := IntWalk.wrap64_in _ (by omega)
  have q4 : wrap64 (100 + E) = 100 + E := IntWalk.wrap64_in _ (by omega)
  have q5 : wrap64 (100 - E) = 100 - E := IntWalk.wrap64_in _ (by omega)
  have z1 : ((100 + E : Int) == 0) = false := beq_eq_false_iff_ne.2 (by omega)
  have z2 : ((100 - E : Int) == 0) = false := beq_eq_false_iff_ne.2 (by omega)
  obtain ⟨LO, d1⟩ : ∃ LO, LO = (100 * N + 99 + E).tdiv (100 + E) := ⟨_, rfl⟩
  obtain ⟨HI, d2⟩ : ∃ HI, HI = (100 * N).tdiv (100 - E) := ⟨_, rfl⟩
  have l1 : 0 ≤ LO ∧ LO ≤ 100 * N + 99 + E := by rw [d1]; exact ⟨Int.tdiv_nonneg (by omega) (by omega), Int.tdiv_le_self _ (by omega)⟩
  have l2 : 0 ≤ HI ∧ HI ≤ 100 * N := by rw [d2]; exact ⟨Int.tdiv_nonneg (by omega) (by omega), Int.tdiv_le_self _ (by omega)⟩
  have w1 : wrap64 LO = LO := IntWalk.wrap64_in _ (by omega)
  have w2 : wrap64 HI = HI := IntWalk.wrap64_in _ (by omega)
  unfold readsS
  dsimp only
  rw [← d1, ← d2]
  replace d1 := d1.symm
  replace d2 := d2.symm
  go_enter Try.func103, Try.ntmps103
  go_upto_region 1 with (fail)
  go_region
  go_wp2
  refine bodyPost_ret (v := .agg #[.int .i64 LO, .int .i64 HI]) (by simp [results, Try.f103, go_sem]) rfl ?_
  exact ⟨rfl, bdraw (bal (bal0 w _) (Nat.le_refl _) _)⟩
theorem tleast_any (a b : Int) (g : Nat) (w : World) (hb : w.heap[g]? = some (.cells #[.int .i64 b] 3 (0, 0))) :
    Calls Try.prog 78 #[.int .i64 a, .slice (some ⟨g, 0, none⟩) 1 1] w fun e w' => e = .returned (.int .i64 (min a b)) ∧ w = w' := by
  have c0 : w.cell? ⟨g, 0, none⟩ = some (.int .i64 b) := by simp [World.cell?, hb]
  have hl := heap_lt hb
  obtain ⟨X, hX⟩ : ∃ X, X = min a b := ⟨_, rfl⟩
  rw [← hX]
  have HX := Lib.hid hX
  clear hX hb
  obtain ⟨st, hst⟩ : ∃ st : Nat → Int, st = fun k => if k = 0 then a else X := ⟨_, rfl⟩
  have s0 : st 0 = a := by rw [hst]; rfl
  have s1 : st 1 = X := by rw [hst]; rfl
  clear hst
  rw [show (a : Int) = st 0 from s0.symm]
  go_enter Try.func78, Try.ntmps78
  go_wp2_with fail
  go_loopg [0, 6, 9, 10, 11, 12, 13, 14, 15, 16] 1 (fun g x0 _ v _ _ _ _ _ _ _ wr => ∃ k : Nat, k + g = 1 ∧ v = .int .i64 k ∧ x0 = .int .i64 (st k) ∧ w = wr)
  case atStart => exact ⟨0, by omega, rfl, rfl, rfl⟩
  case round =>
    obtain ⟨k, hk, rfl, rfl, rfl⟩ := hrel
    by_cases hlt : k < 1
    · obtain rfl : k = 0 := by omega
      rw [s0]
      have HS := Lib.hid (And.intro s1 hk)
      clear s1 hk hlt
      by_cases hab : a ≤ b
      · have HA := Lib.hid hab
        go_wp2_with fail
        go_roundg (gk - 1)
        case measure => have := HS.out.2; omega
        case rel => exact ⟨1, by have := HS.out.2; omega, by go_num, by rw [HS.out.1, HX.out]; congr 1; have := HA.out; omega, rfl⟩
      · have HA := Lib.hid hab
        go_wp2_with fail
        go_roundg (gk - 1)
        case measure => have := HS.out.2; omega
        case rel => exact ⟨1, by have := HS.out.2; omega, by go_num, by rw [HS.out.1, HX.out]; congr 1; have := HA.out; omega, rfl⟩
    · obtain rfl : k = 1 := by omega
      rw [s1]
      clear s0 s1
      go_wp2_with fail
      go_ret
      exact ⟨rfl, rfl⟩
end Go.Proofs.Ytgnjknihgjdedaa
namespace Go.Proofs.Ytgnjknihgjdedaa
open Go.RowKit Go.MapKept Go.ChangeMaps
set_option linter.unusedVariables false
set_option linter.unusedSimpArgs false

abbrev lcs (l : List Sp) : Array Value := (l.flatMap eSp).toArray
theorem lcs_size (l : List Sp) : (lcs l).size = l.length * 2 := by
  show (l.flatMap eSp).toArray.size = _
  rw [List.size_toArray]
  induction l with
  | nil => rfl
  | cons a l ih => rw [List.flatMap_cons, List.length_append, ih, lenSp, List.length_cons]; omega
theorem flat_set : ∀ (l : List Sp) (k : Nat) (s : Sp), ((l.flatMap eSp).set (k * 2) (.int .i64 s.lo)).set (k * 2 + 1) (.int .i64 s.hi) = (l.set k s).flatMap eSp := by
  intro l
  induction l with
  | nil => intro k s; simp
  | cons a l ih =>
    intro k s
    cases k with
    | zero => simp [eSp]
    | succ k =>
      have := ih k s
      rw [show (k + 1) * 2 = (k * 2 + 1) + 1 by omega]
      simp only [List.flatMap_cons, eSp, List.cons_append, List.nil_append, List.set_cons_succ]
      rw [← this]
def SpB (w : World) (q : Nat) (t : TypeId) (l : List Sp) : Prop := w.heap[q]? = some (.cells (lcs l) t (0, 0))
theorem SpB.sl {w : World} {q : Nat} {t : TypeId} {l : List Sp} (h : SpB w q t l) : Sps w (some ⟨q, 0, none⟩) l.length l := Sl.of_blk h rfl lenSp
theorem SpB.get {w : World} {q : Nat} {t : TypeId} {l : List Sp} (h : SpB w q t l) {k : Nat} (hk : k < l.length) :
    w.cell? ⟨q, k * 2, none⟩ = some (.int .i64 (l.getD k sp0).lo) ∧ w.cell? ⟨q, k * 2 + 1, none⟩ = some (.int .i64 (l.getD k sp0).hi) := by
  obtain ⟨b, off, s, hA, hb, hs, h0, h1⟩ := Sps.get h.sl hk
  cases hA
  rw [List.getD_eq_getElem?_getD, hs]
  rw [Nat.zero_add] at h0 h1
  exact ⟨h0, h1⟩
theorem SpB.set {w : World} {q : Nat} {t : TypeId} {l : List Sp} (h : SpB w q t l) (k : Nat) (s : Sp) : SpB ((w.setCell ⟨q, k * 2, none⟩ (.int .i64 s.lo)).setCell ⟨q, k * 2 + 1, none⟩ (.int .i64 s.hi)) q t (l.set k s) := by
  have := set_blk (set_blk h (i := k * 2) (v := .int .i64 s.lo)) (i := k * 2 + 1) (v := .int .i64 s.hi)
  unfold SpB
  rw [this]
  congr 2
  show ((l.flatMap eSp).toArray.setIfInBounds _ _).setIfInBounds _ _ = _
  rw [List.setIfInBounds_toArray, List.setIfInBounds_toArray, flat_set]
theorem SpB.below {w w' : World} {q B : Nat} {t : TypeId} {l : List Sp} (h : SpB w q t l) (hb : Below B w w') (hB : w.heap.size ≤ B) : SpB w' q t l := bheap h hb hB
theorem SpB.lt {w : World} {q : Nat} {t : TypeId} {l : List Sp} (h : SpB w q t l) : q < w.heap.size := heap_lt h
theorem SpB.free {w : World} {q : Nat} {t : TypeId} {l : List Sp} (h : SpB w q t l) (i : Nat) : w.frozen? ⟨q, i, none⟩ = false := frz h i
theorem take_set {α : Type} {l : List α} {k : Nat} (hk : k < l.length) (x : α) : (l.set k x).take (k + 1) = l.take k ++ [x] := by
  rw [List.take_add_one, List.getElem?_set_self hk, List.take_set_of_le (Nat.le_refl _)]
  rfl
abbrev wkO (T : Ty) (p : Tp) (M : Nat) : Obj := .cells #[.int .i64 T.g, .int .i64 T.f.lo, .int .i64 T.f.hi, .slice p.A T.ch.length p.c, .int .i64 T.m, .slice p.B T.cs.length p.d, .int .u64 0, .map (some M)] 141 (0, 0)
theorem blk8w {w : World} {k : Nat} {a b c d e f g h : Value} {t : TypeId} {z : Nat × Nat} (hb : w.heap[k]? = some (.cells #[a, b, c, d, e, f, g, h] t z)) :
    w.cell? ⟨k, 0, none⟩ = some a ∧ w.cell? ⟨k, 1, none⟩ = some b ∧ w.cell? ⟨k, 2, none⟩ = some c ∧ w.cell? ⟨k, 3, none⟩ = some d ∧ w.cell? ⟨k, 4, none⟩ = some e ∧ w.cell? ⟨k, 5, none⟩ = some f ∧ w.cell? ⟨k, 6, none⟩ = some g ∧ w.cell? ⟨k, 7, none⟩ = some h := by
  refine ⟨?_, ?_, ?_, ?_, ?_, ?_, ?_, ?_⟩ <;> simp [World.cell?, hb]
def TBeg (T : Ty) (p : Tp) (w : World) (v : Value) (w' : World) : Prop := ∃ k M : Nat, v = .pointer (some ⟨k, 0, none⟩) ∧ w.heap.size ≤ k ∧ w.heap.size ≤ M ∧ k ≠ M ∧ w'.heap[k]? = some (wkO T p M) ∧ w'.heap[M]? = some (.map #[] 0)
set_option maxRecDepth 100000 in
theorem tbeg_any (T : Ty) (p : Tp) (w : World) :
    Calls Try.prog 69 #[tyV T p] w fun e w' => (∃ v, e = .returned v ∧ TBeg T p w v w') ∧ Below w.heap.size w w' := by
  have hmm := @run_makeMap Try.prog
  go_enter Try.func69, Try.ntmps69
  go_wp2_with fail
  go_ret
  refine ⟨⟨_, rfl, _, _, rfl, ?_, ?_, ?_, alloc_at (by simp), hblk_alloc (alloc_at (by simp)) _⟩, bal (bal (bal0 w _) (Nat.le_refl _) _) (Nat.le_refl _) _⟩
  all_goals first | exact Nat.le_refl _ | omega | (simp; done) | (simp; omega)
theorem bcl {w w' : World} {B b i : Nat} {v : Value} (h : Below B w w') (hb : b < B) (hc : w.cell? ⟨b, i, none⟩ = some v) : w'.cell? ⟨b, i, none⟩ = some v := by
  unfold World.cell? at hc ⊢
  rw [h.block b hb]; exact hc
set_option maxRecDepth 100000 in
theorem tstr_any (T : Ty) (p : Tp) (k M g : Nat) (w : World) (hw : w.heap[k]? = some (wkO T p M)) (hi : TyIn w T p) (hk : TyOk T) (hg : (g : Int) + 1 < T.g) :
    Calls Try.prog 76 #[.pointer (some ⟨k, 0, none⟩), .int .i64 g] w fun e w' => e = .returned (spV (T.str g)) ∧ Below w.heap.size w w' := by
  have hcn := hk.cn
  have hg0 : (g : Int) < (T.ch.length : Int) := by omega
  obtain ⟨PA, pc, PB, pd⟩ := p
  obtain ⟨b, off, s, hA, hb, hs, s0, s1⟩ := Sps.get hi.a (show g < T.ch.length by omega)
  dsimp only at hA
  subst hA
  have hsg : T.ch.getD g sp0 = s := by rw [List.getD_eq_getElem?_getD, hs]; rfl
  have hso := hk.ch s (List.mem_of_getElem? hs)
  have hm := hk.m
  have hbd : (s.add ⟨-T.m, 0⟩).bd 9223372036854775807 := by
    obtain ⟨x, y, z⟩ := hso
    unfold Sp.bd Sp.add; dsimp only; omega
  have had : ∀ w, Calls Try.prog 75 #[.agg #[.int .i64 s.lo, .int .i64 s.hi], .agg #[.int .i64 (-T.m), .int .i64 0]] w fun e w' => e = .returned (spV (s.add ⟨-T.m, 0⟩)) ∧ Below w.heap.size w w' := fun w => tadd_any s ⟨-T.m, 0⟩ w hbd
  unfold Ty.str
  rw [hsg]
  obtain ⟨R, hR⟩ : ∃ R, R = s.add ⟨-T.m, 0⟩ := ⟨_, rfl⟩
  rw [← hR] at had ⊢
  obtain ⟨z1, z2⟩ := And.intro hi.ac hi.am
  dsimp only at z1 z2
  obtain ⟨W, hW⟩ : ∃ W, W = w.alloc (Obj.cells #[.int .i64 0, .int .i64 0] 91) := ⟨_, rfl⟩
  have hbW : Below w.heap.size w W := by rw [hW]; exact bal0 w _
  have bQ : W.heap[w.heap.size]? = some (Obj.cells #[.int .i64 0, .int .i64 0] 91 (0, 0)) := by rw [hW]; exact alloc_at rfl
  have HW := Lib.hid hW
  have hwW := bheap hw hbW (Nat.le_refl _)
  have s0W := bcell s0 hbW (Nat.le_refl _)
  have s1W := bcell s1 hbW (Nat.le_refl _)
  obtain ⟨q, hq⟩ : ∃ q, q = w.heap.size := ⟨_, rfl⟩
  rw [← hq] at bQ
  have HQ := Lib.hid hq
  have hkl := heap_lt hw
  have hkW := heap_lt hwW
  have hqW := heap_lt bQ
  have hbl : b < W.heap.size := cell_lt s0W
  have hkq : k < q := by omega
  have hbq : b < q := by have := cell_lt s0; omega
  have HB := Lib.hid hbW
  have hwr : IntKind.i64.wrap (-T.m) = -T.m := IntWalk.i64_in _ (by omega)
  clear hR hW hq hcn hso hm hbd hsg hs hi hk hbW hw hkl s0 s1 hb
  go_enter Try.func76, Try.ntmps76
  go_upto_region 1 with (fail)
  rw [← HW.out, ← HQ.out]
  have HH := Lib.hid (fun (w' : World) (h : Below q W w') => And.intro (blk8w ((h.block k hkq).trans hwW)) (And.intro (bcl h hbq s0W) (bcl h hbq s1W)))
  have HBQ := Lib.hid bQ
  have ⟨⟨c0, c1, c2, c3, c4, c5, c6, c7⟩, d0, d1⟩ := HH.out W (Below.refl _ _)
  have f0 := frz bQ 0
  have f1 := frz bQ 1
  clear hwW s0W s1W bQ
  go_region_held3 (fun w' => (w'.cell? ⟨k, 3, none⟩ = some (.slice (some ⟨b, off, none⟩) T.ch.length pc) ∧ w'.cell? ⟨k, 4, none⟩ = some (.int .i64 T.m)) ∧ w'.cell? ⟨b, off + g * 2, none⟩ = some (.int .i64 s.lo) ∧ w'.cell? ⟨b, off + g * 2 + 1, none⟩ = some (.int .i64 s.hi))
    ((refine (fun (h : _ ∧ _ ∧ _) => And.intro (And.intro h.1.2.2.2.1 h.1.2.2.2.2.1) h.2) (HH.out _ ?_)
      repeat' (first | (with_reducible exact Below.refl _ _) | (with_reducible refine bdraw ?_) | (with_reducible refine Below.trans ?_ (Below.mono (bal0 _ _) ?_)) | (with_reducible refine Below.trans ?_ (Below.mono hb3 ?_)) | (with_reducible refine Below.setCell ?_ ?_ _) | omega | exact Nat.le_refl _ | (simp; done) | (simp; omega) | fail)
      ))
    (first
      | (go_at_call 75; (try rw [hwr]); (with_reducible refine (had _).mono ?_); rintro e w3 ⟨rfl, hb3⟩; have b3 := bheap (show W.drew.heap[q]? = _ from HBQ.out) hb3 (Nat.le_refl _); have y0 := frz b3 0; have y1 := frz b3 1; obtain ⟨x0, x1⟩ := blk2 b3; have hl3 := heap_lt b3)
      | fail)
  all_goals
    go_wp2
    have hz := set_blk (set_blk b3 (i := 0) (v := .int .i64 R.lo)) (i := 1) (v := .int .i64 R.hi)
    refine bodyPost_ret (v := spV R) ?_ rfl ⟨rfl, ?_⟩
    · obtain ⟨g0, g1⟩ := blk2 hz
      simp [results, Try.f76, go_sem, g0, g1]
    · have hq := HQ.out
      refine HB.out.trans (Below.mono (B := q) ?_ (by omega))
      repeat' (first | (with_reducible exact Below.refl _ _) | (with_reducible refine bdraw ?_) | (with_reducible refine Below.trans ?_ (Below.mono (bal0 _ _) ?_)) | (with_reducible refine Below.trans ?_ (Below.mono hb3 ?_)) | (with_reducible refine Below.setCell ?_ ?_ _) | omega | exact Nat.le_refl _ | (simp; done) | (simp; omega) | fail)
end Go.Proofs.Ytgnjknihgjdedaa
namespace Go.Proofs.Ytgnjknihgjdedaa
set_option linter.unusedVariables false
section
variable {P : Program} {ops : Array Oper} {T : Nat → World → World → Prop} {Pk : Nat → World → Prop}

def reachB (ops : Array Oper) : Nat → Nat → Nat → Bool
  | 0, _, _ => false
  | f + 1, a, b => match ops[a]? with
    | some o => o.after.toList.any fun e => Region.binds .any e && (e.on == b || reachB ops f e.on b)
    | none => false
theorem reach_listed {n : Nat} {listed : Array Bool} (inv : HeadInv .any ops n listed) : ∀ (f a b : Nat), reachB ops f a b = true → (∀ o, ops[a]? = some o → ∀ e ∈ o.after, Region.binds .any e = true → listed.getD e.on false = true) → listed.getD b false = true
  | 0, a, b, h, _ => by simp [reachB] at h
  | f + 1, a, b, h, ha => by
    unfold reachB at h
    split at h
    · rename_i o ho
      obtain ⟨e, he, h2⟩ := List.any_eq_true.1 h
      simp only [Bool.and_eq_true, Bool.or_eq_true, beq_iff_eq] at h2
      have he' : e ∈ o.after := by rw [Array.mem_toList_iff] at he; exact he
      have h3 := ha o ho e he' h2.1
      rcases h2.2 with h4 | h4
      · rw [← h4]; exact h3
      · exact reach_listed inv f e.on b h4 (fun o' ho' e' he2 hb' => inv.closed e.on o' ho' h3 e' he2 hb')
    · cases h
def bef (tg : List Nat) (rl : List (Nat × Nat)) (j k : Nat) : Prop := j ≠ 0 ∧ k ≠ 0 ∧ ∃ x ∈ rl, tg[x.1]? = some j ∧ tg[x.2]? = some k
def LexT (P : Program) (ops : Array Oper) (T : Nat → World → World → Prop) (Pk : Nat → World → Prop) (gl : List Nat) (ks : Nat) (bf : Nat → Nat → Prop) (B : (Nat → Value) → Act) (K : List DF → Prop) : List DF → List Nat → List Oper → Prop
  | acc, _, [] => K acc
  | acc, [], _ :: _ => False
  | acc, k :: tg, o :: l => ∃ F : VF, (∀ j v w w', (j ≠ k ∨ k = 0) → ¬ bf k j → T j w w' → F v w → F v w') ∧
      (∀ ys w, Pk 0 w → Pk k w → (acc.length ∈ gl → Pk ks w) → DepsOf acc ys o w → Does P ops o (B ys) w (fun v w' => T k w w' ∧ F v w')) ∧ LexT P ops T Pk gl ks bf B K (acc ++ [(o.dst, F)]) tg l

def tagsB (tg : List Nat) : Bool := (List.range tg.length).all fun i => (List.range i).all fun j => tg.getD i 0 != tg.getD j 0 || tg.getD i 0 == 0
theorem tagsB_spec {tg : List Nat} (h : tagsB tg = true) {i j k : Nat} (hi : tg[i]? = some k) (hj : tg[j]? = some k) (hne : i ≠ j) : k = 0 := by
  have key : ∀ i j : Nat, j < i → tg[i]? = some k → tg[j]? = some k → k = 0 := fun i j hlt hi hj => by
    have h1 := List.all_eq_true.1 h i (List.mem_range.2 (List.getElem?_eq_some_iff.1 hi).1)
    have h2 := List.all_eq_true.1 h1 j (List.mem_range.2 hlt)
    rw [List.getD_eq_getElem?_getD, List.getD_eq_getElem?_getD, hi, hj] at h2
    simpa using h2
  rcases Nat.lt_or_gt_of_ne hne with h | h
  · exact key j i h hj hi
  · exact key i j h hi hj

def headDone (n s : Nat) : Array Bool := ((List.range s).map fun j => decide (j < n)).toArray
def tagTailB (ops : Array Oper) (n : Nat) : Bool :=
  Region.noSelect ops && decide (n < ops.size) && Region.sinkB .any ops n && Region.chainB .any ops n && Region.seqB .any ops (ops.size - n) n (headDone n ops.size)

theorem lexT_facts {gl : List Nat} {ks : Nat} {bf : Nat → Nat → Prop} {B : (Nat → Value) → Act} {K : List DF → Prop} : ∀ (l : List Oper) (tg : List Nat) (acc : List DF) (full : List Nat), LexT P ops T Pk gl ks bf B K acc tg l → (∀ j, j < l.length → l[j]? = ops[acc.length + j]?) → (∀ j, tg[j]? = full[acc.length + j]?) →
    ∃ Fs : List DF, K Fs ∧ (∃ r, Fs = acc ++ r) ∧ Fs.length = acc.length + l.length ∧ ∀ i o, acc.length ≤ i → i < acc.length + l.length → ops[i]? = some o → ∃ k F, full[i]? = some k ∧ Fs[i]? = some (o.dst, F) ∧ (∀ j v w w', (j ≠ k ∨ k = 0) → ¬ bf k j → T j w w' → F v w → F v w') ∧
      ∀ ys w, Pk 0 w → Pk k w → (i ∈ gl → Pk ks w) → DepsOf (Fs.take i) ys o w → Does P ops o (B ys) w (fun v w' => T k w w' ∧ F v w')
  | [], tg, acc, full, h, hl, ht => ⟨acc, by cases tg <;> exact h, ⟨[], by simp⟩, by simp, fun i o hi hi2 ho => by simp at hi2; omega⟩
  | o :: l, [], acc, full, h, hl, ht => h.elim
  | o :: l, k :: tg, acc, full, ⟨F, hF, hD, hr⟩, hl, ht => by
    obtain ⟨Fs, hK, ⟨r', hr'⟩, hFl, hall⟩ := lexT_facts l tg (acc ++ [(o.dst, F)]) full hr (fun j hj => by
      have := hl (j + 1) (by simp; omega)
      simpa [Nat.add_assoc, Nat.add_comm 1 j] using this) (fun j => by
      have := ht (j + 1)
      simpa [Nat.add_assoc, Nat.add_comm 1 j] using this)
    refine ⟨Fs, hK, ⟨(o.dst, F) :: r', by rw [hr']; simp⟩, by rw [hFl]; simp; omega, fun i o' hi hi2 ho' => ?_⟩
    rcases Nat.lt_or_ge i (acc ++ [(o.dst, F)]).length with h | h
    · have hia : i = acc.length := by simp at h; omega
      subst hia
      have ho : o = o' := by
        have := hl 0 (by simp)
        simp at this
        rw [ho'] at this
        exact Option.some.inj this
      subst ho
      refine ⟨k, F, by have := ht 0; simpa using this.symm, by rw [hr']; simp, hF, ?_⟩
      rw [hr']
      simpa using hD
    · exact hall i o' h (by simp at hi2 ⊢; omega) ho'

structure WayT (ops : Array Oper) (n : Nat) (Pk : Nat → World → Prop) (a0 : Act) (Fs : List DF) (tg : List Nat) (listed : Array Bool) (a : Act) (w : World) : Prop where
  inv : HeadInv .any ops n listed
  p0 : Pk 0 w
  pk : ∀ i k, i < n → listed.getD i true = false → tg[i]? = some k → Pk k w
  defers : a.defers = a0.defers
  len : a.tmps.size = a0.tmps.size
  far : ∀ t, t ∉ dstsOf (ops.toList.take n) → a.tmps[t]? = a0.tmps[t]?
  facts : ∀ j, listed.getD j false = true → FactAt Fs (fun t => a.tmps.getD t undef) j w

theorem WayT.act {n : Nat} {a0 : Act} {Fs : List DF} {tg : List Nat} {listed : Array Bool} {a : Act} {w : World} (h : WayT ops n Pk a0 Fs tg listed a w) :
    putAll (dstsOf (ops.toList.take n)) (fun t => a.tmps.getD t undef) a0 = a := by
  have h1 := putAll_defers (dstsOf (ops.toList.take n)) (fun t => a.tmps.getD t undef) a0
  have h2 : (putAll (dstsOf (ops.toList.take n)) (fun t => a.tmps.getD t undef) a0).tmps = a.tmps := by
    apply Array.ext_getElem?
    intro t
    rcases Nat.lt_or_ge t a0.tmps.size with ht | ht
    · rw [putAll_get _ _ _ _ ht]
      have ht' : t < a.tmps.size := by rw [h.len]; exact ht
      split
      · simp [ht']
      · rename_i hn; rw [h.far t hn]
    · rw [Array.getElem?_eq_none (by rw [putAll_size]; exact ht), Array.getElem?_eq_none (by rw [h.len]; exact ht)]
  generalize putAll (dstsOf (ops.toList.take n)) (fun t => a.tmps.getD t undef) a0 = b at *
  cases b; cases a
  have h3 := h.defers
  dsimp only at h1 h2 h3
  rw [h1, h2, h3]

theorem wpAny_up {md : Region.Mode} {Q : Exit → Act → World → Prop} (k : Nat) : ∀ (f : Nat) (listed : Array Bool) (a : Act) (w : World), wpAny P md ops Q f listed a w → wpAny P md ops Q (f + k) listed a w
  | 0, listed, a, w, h => by
    cases k with
    | zero => exact h
    | succ k => exact ⟨fun _ => h.2, fun i hi => by rw [h.1] at hi; cases hi⟩
  | f + 1, listed, a, w, h => by
    rw [show f + 1 + k = (f + k) + 1 by omega]
    exact ⟨h.1, fun i hi => wpOp_mono (fun a' w' h' => wpAny_up k f _ a' w' h') (h.2 i hi)⟩

theorem wayT_any {gl : List Nat} {ks s0 : Nat} {rl : List (Nat × Nat)} {fu : Nat} {n : Nat} {Fs : List DF} {tg : List Nat} {a0 : Act} {Q : Exit → Act → World → Prop} (hinv : invB ops a0.tmps.size = true) (hB : tagTailB ops n = true) (htg : tagsB tg = true) (hs0 : s0 < n) (hks : gl = [] ∨ tg[s0]? = some ks) (hgl : gl.all (fun i => Region.waitsFor .any ops s0 i) = true) (hrl : rl.all (fun x => reachB ops fu x.1 x.2) = true)
    (hP : ∀ k j w w', (j ≠ k ∨ k = 0) → ¬ bef tg rl j k → T j w w' → Pk k w → Pk k w')
    (hst : ∀ i o, i < n → ops[i]? = some o → ∃ k F, tg[i]? = some k ∧ Fs[i]? = some (o.dst, F) ∧ (∀ j v w w', (j ≠ k ∨ k = 0) → ¬ bef tg rl k j → T j w w' → F v w → F v w') ∧
      ∀ ys w, Pk 0 w → Pk k w → (i ∈ gl → Pk ks w) → DepsOf (Fs.take i) ys o w → Does P ops o (putAll (dstsOf (ops.toList.take n)) ys a0) w (fun v w' => T k w w' ∧ F v w'))
    (hend : ∀ ys w, Pk 0 w → (∀ j, j < n → FactAt Fs ys j w) → wpList P ops Q (ops.toList.drop n) (putAll (dstsOf (ops.toList.take n)) ys a0) w) :
    ∀ (f : Nat) (listed : Array Bool) (a : Act) (w : World), WayT ops n Pk a0 Fs tg listed a w → (List.range n).countP (fun i => !listed.getD i true) ≤ f → wpAny P .any ops Q (f + (ops.size - n)) listed a w := by
  obtain ⟨hb1, hb2, hb3⟩ := invB_spec hinv
  simp only [tagTailB, Bool.and_eq_true, decide_eq_true_eq] at hB
  obtain ⟨⟨⟨⟨hsel, hn⟩, hs⟩, hc⟩, hseq⟩ := hB
  have hfin : ∀ (f : Nat) (listed : Array Bool) (a : Act) (w : World), WayT ops n Pk a0 Fs tg listed a w → (∀ i, i < n → listed.getD i true = true) → wpAny P .any ops Q (f + (ops.size - n)) listed a w := by
    intro f listed a w inv hall
    have hl : listed = headDone n ops.size := by
      apply Array.ext_getElem?
      intro j
      rw [show (headDone n ops.size)[j]? = ((List.range ops.size).map fun j => decide (j < n))[j]? by unfold headDone; simp, List.getElem?_map]
      rcases Nat.lt_or_ge j ops.size with hj | hj
      · have hjl : j < listed.size := by rw [inv.inv.size]; exact hj
        rw [List.getElem?_range hj, Array.getElem?_eq_getElem hjl]
        rcases Nat.lt_or_ge j n with hjn | hjn
        · have := hall j hjn
          simp [hjl] at this
          simp [hjn, this]
        · have := inv.inv.tail j hjn hj
          simp [hjl] at this
          simp [Nat.not_lt.2 hjn, this]
      · rw [Array.getElem?_eq_none (by rw [inv.inv.size]; exact hj), List.getElem?_eq_none (by simpa using hj)]
        rfl
    have hlen : (ops.toList.drop n).length = ops.size - n := by simp
    have h1 := hend (fun t => a.tmps.getD t undef) w inv.p0 (fun j hj => inv.facts j (by
      have h2 := hall j hj
      have h3 : j < listed.size := by rw [inv.inv.size]; omega
      simp [h3] at h2 ⊢
      exact h2))
    rw [inv.act] at h1
    have h2 := wpAny_of_seq (md := .any) (Q' := Q) (ops.toList.drop n) n listed a w (fun j => by simp [List.getElem?_drop]) (by rw [hlen, hl]; exact hseq) h1
    rw [hlen] at h2
    have h3 := wpAny_up f _ _ _ _ h2
    rwa [Nat.add_comm] at h3
  have hstep : ∀ (listed : Array Bool) (a : Act) (w : World), WayT ops n Pk a0 Fs tg listed a w → ∀ i ∈ Region.ready .any ops listed, i < n → ∀ K : Act → World → Prop,
      (∀ a' w', WayT ops n Pk a0 Fs tg (listed.setIfInBounds i true) a' w' → K a' w') → wpOp P ops Q i K a w := by
    intro listed a w inv i hi hin K hK
    obtain ⟨hun, o, ho, hall⟩ := mem_ready.1 hi
    obtain ⟨k, F, hk, hF, hsF, hD⟩ := hst i o hin ho
    have hlt : i < ops.size := (Array.getElem?_eq_some_iff.1 ho).1
    have hdeps : DepsOf (Fs.take i) (fun t => a.tmps.getD t undef) o w := depsGo_of fun e he hb f hf => by
      have h1 := hall e (by rw [Array.mem_toList_iff] at he; exact he) hb
      have h2 := hb2 i o ho e (by rw [Array.mem_toList_iff] at he; exact he) hb
      rw [List.getElem?_take_of_lt h2] at hf
      exact inv.facts e.on h1 f hf
    have hmem : ∀ d, o.dst = some d → d ∈ dstsOf (ops.toList.take n) := fun d hd' => List.mem_filterMap.2 ⟨o, by
      rw [List.mem_take_iff_getElem]
      have hz : i < ops.toList.length := by simpa using hlt
      refine ⟨i, by omega, ?_⟩
      have := (Array.getElem?_eq_some_iff.1 ho).2
      simpa using this, hd'⟩
    have hguard : i ∈ gl → Pk ks w := fun hg => by
      have hk0 : tg[s0]? = some ks := by
        rcases hks with h | h
        · rw [h] at hg; cases hg
        · exact h
      obtain ⟨os, hos, e, he, hb, hon⟩ := Region.waitsFor_spec (List.all_eq_true.1 hgl i hg)
      have hss : s0 < listed.size := by rw [inv.inv.size]; exact (Array.getElem?_eq_some_iff.1 hos).1
      refine inv.pk s0 ks hs0 (getD_in hss ?_) hk0
      cases hl : listed.getD s0 false with
      | false => rfl
      | true =>
        have h2 := inv.inv.closed s0 os hos hl e he hb
        rw [hon, getD_both hun] at h2
        cases h2
    have hd := hD (fun t => a.tmps.getD t undef) w inv.p0 (inv.pk i k hin hun hk) hguard hdeps
    rw [inv.act] at hd
    refine does_wpOp ho hd fun v w' ⟨ht, hv⟩ => hK _ _ ⟨inv.inv.set hi hin, hP 0 k w w' (.inr rfl) (fun h => h.2.1 rfl) ht inv.p0, ?_, ?_, ?_, ?_, ?_⟩
    · intro i' k' hi' hun' hk'
      have hne : i ≠ i' := fun e => by
        subst e
        have h3 : i < listed.size := by rw [inv.inv.size]; exact hlt
        simp [h3] at hun'
      rw [getD_set_ne true hne] at hun'
      refine hP k' k w w' ?_ (fun hbf => ?_) ht (inv.pk i' k' hi' hun' hk')
      rotate_left
      · obtain ⟨n1, n2, x, hx, hx1, hx2⟩ := hbf
        have e1 : x.1 = i := Classical.byContradiction fun hne' => n1 (tagsB_spec htg hx1 hk hne')
        have e2 : x.2 = i' := Classical.byContradiction fun hne' => n2 (tagsB_spec htg hx2 hk' hne')
        have h3 := reach_listed inv.inv fu x.1 x.2 (List.all_eq_true.1 hrl x hx) (fun o' ho' e' he' hb' => by
          rw [e1, ho] at ho'
          cases ho'
          exact hall e' he' hb')
        rw [e2, getD_both hun'] at h3
        cases h3
      by_cases e : k = k'
      · subst e; exact .inr (tagsB_spec htg hk hk' hne)
      · exact .inl e
    · rw [← inv.defers]; cases o.dst <;> rfl
    · rw [← inv.len]; cases o.dst <;> simp [Act.put]
    · intro t hn'
      cases hod : o.dst with
      | none => exact inv.far t hn'
      | some d =>
        have : d ≠ t := fun e => hn' (e ▸ hmem d hod)
        simp only [Act.put]
        rw [Array.getElem?_setIfInBounds_ne this]
        exact inv.far t hn'
    · intro j hj
      by_cases hij : i = j
      · subst hij
        intro f hf
        rw [hF] at hf
        cases hf
        show DF.holds _ _ _
        unfold DF.holds
        cases hod : o.dst with
        | none => exact ⟨v, hv⟩
        | some d =>
          have hld : d < a.tmps.size := by rw [inv.len]; exact hb1 i o d ho hod
          simpa [hod, Act.put, hld] using hv
      · rw [getD_set_ne false hij] at hj
        intro f hf
        have h3 := inv.facts j hj f hf
        have hjs : j < listed.size := by
          rcases Nat.lt_or_ge j listed.size with h | h
          · exact h
          · simp [Array.getElem?_eq_none h] at hj
        have hjn : j < n := by
          rcases Nat.lt_or_ge j n with h | h
          · exact h
          · have := inv.inv.tail j h (by rw [← inv.inv.size]; exact hjs)
            simp [hjs] at this hj
            rw [hj] at this; cases this
        obtain ⟨oj, hoj⟩ : ∃ oj, ops[j]? = some oj := ⟨_, Array.getElem?_eq_getElem (by rw [← inv.inv.size]; exact hjs)⟩
        obtain ⟨k', F', hk', hF', hsF', _⟩ := hst j oj hjn hoj
        rw [hf] at hF'
        cases hF'
        have hcond : k ≠ k' ∨ k' = 0 := by
          by_cases e : k = k'
          · subst e; exact .inr (tagsB_spec htg hk hk' hij)
          · exact .inl e
        have hnb : ¬ bef tg rl k' k := fun hbf => by
          obtain ⟨n1, n2, x, hx, hx1, hx2⟩ := hbf
          have e1 : x.1 = j := Classical.byContradiction fun hne' => n1 (tagsB_spec htg hx1 hk' hne')
          have e2 : x.2 = i := Classical.byContradiction fun hne' => n2 (tagsB_spec htg hx2 hk hne')
          have h4 := reach_listed inv.inv fu x.1 x.2 (List.all_eq_true.1 hrl x hx) (fun o' ho' e' he' hb' => by
            rw [e1] at ho'
            exact inv.inv.closed j o' ho' hj e' he' hb')
          rw [e2, getD_both hun] at h4
          cases h4
        unfold DF.holds at h3 ⊢
        cases hod : oj.dst with
        | none =>
          simp only [hod] at h3 ⊢
          obtain ⟨u, hu⟩ := h3
          exact ⟨u, hsF' _ _ _ _ hcond hnb ht hu⟩
        | some d =>
          simp only [hod] at h3 ⊢
          have hne : o.dst ≠ some d := hb3 j i oj o d hoj ho (fun e => hij e.symm) hod
          have : (a.put o.dst v).tmps.getD d undef = a.tmps.getD d undef := by
            cases hod' : o.dst with
            | none => rfl
            | some d' =>
              have : d' ≠ d := fun e => hne (by rw [hod', e])
              simp [Act.put, Array.getElem?_setIfInBounds_ne this]
          rw [this]
          exact hsF' _ _ _ _ hcond hnb ht h3
  intro f
  induction f with
  | zero =>
    intro listed a w inv hc0
    refine hfin 0 listed a w inv fun i hi => ?_
    have h1 : (List.range n).countP (fun i => !listed.getD i true) = 0 := by omega
    rw [List.countP_eq_zero] at h1
    have := h1 i (List.mem_range.2 hi)
    simpa using this
  | succ f ih =>
    intro listed a w inv hcf
    by_cases hall : ∀ i, i < n → listed.getD i true = true
    · exact hfin (f + 1) listed a w inv hall
    · -- the least that is left is ready
      have hex : ∃ i, i < n ∧ listed.getD i true = false := by
        apply Classical.byContradiction
        intro hno
        exact hall fun i hi => by
          cases h : listed.getD i true with
          | true => rfl
          | false => exact absurd ⟨i, hi, h⟩ hno
      have hleast : ∃ i, i < n ∧ listed.getD i true = false ∧ ∀ j, j < i → listed.getD j true = true := by
        obtain ⟨i, hi⟩ := hex
        revert hi
        induction i using Nat.strongRecOn with
        | _ i ihh =>
          intro hi
          by_cases h : ∀ j, j < i → listed.getD j true = true
          · exact ⟨i, hi.1, hi.2, h⟩
          · have : ∃ j, j < i ∧ listed.getD j true = false := by
              apply Classical.byContradiction
              intro hno
              exact h fun j hj => by
                cases h' : listed.getD j true with
                | true => rfl
                | false => exact absurd ⟨j, hj, h'⟩ hno
            obtain ⟨j, hj, hj2⟩ := this
            exact ihh j hj ⟨by omega, hj2⟩
      obtain ⟨i0, h1, h2, h3⟩ := hleast
      have ho0 : ops[i0]? = some ops[i0] := Array.getElem?_eq_getElem (by omega)
      have hr0 : i0 ∈ Region.ready .any ops listed := mem_ready.2 ⟨h2, _, ho0, fun e he hbe => by
        have h4 := hb2 i0 _ ho0 e he hbe
        have h5 := h3 e.on h4
        have h6 : e.on < listed.size := by rw [inv.inv.size]; omega
        simp [h6] at h5 ⊢
        exact h5⟩
      rw [show f + 1 + (ops.size - n) = (f + (ops.size - n)) + 1 by omega]
      refine ⟨fun h => (by rw [h] at hr0; cases hr0), fun i hi => ?_⟩
      have hin : i < n := by
        rcases Nat.lt_or_ge i n with h | h
        · exact h
        · exact absurd hi (tail_waits hs hc hn inv.inv _ i0 rfl h1 h2 i h)
      refine hstep listed a w inv i hi hin _ fun a' w' inv' => ih _ _ _ inv' ?_
      obtain ⟨hun, o, ho, _⟩ := mem_ready.1 hi
      have hlt : i < ops.size := (Array.getElem?_eq_some_iff.1 ho).1
      have := countP_lt (p := fun j => !(listed.setIfInBounds i true).getD j true) (q := fun j => !listed.getD j true) (i := i) (List.mem_range.2 hin) (fun j hj => by
        by_cases hij : i = j
        · subst hij
          rw [hun]; rfl
        · rw [getD_set_ne true hij] at hj; exact hj) (by rw [hun]; rfl) (by
        have : i < listed.size := by rw [inv.inv.size]; exact hlt
        simp [this])
      omega

theorem wp_region_tag (n s0 ks : Nat) (gl : List Nat) (rl : List (Nat × Nat)) (fu : Nat) (T : Nat → World → World → Prop) (Pk : Nat → World → Prop) (tg : List Nat) {id : Nat} {Q : Exit → Act → World → Prop} {a0 : Act} {w : World} {l : List Oper} (hm : P.follows .mixedOrders = true) (hinv : invB l.toArray a0.tmps.size = true)
    (hB : tagTailB l.toArray n = true) (htg : tagsB tg = true) (hs0 : s0 < n) (hks : gl = [] ∨ tg[s0]? = some ks) (hgl : gl.all (fun i => Region.waitsFor .any l.toArray s0 i) = true) (hrl : rl.all (fun x => reachB l.toArray fu x.1 x.2) = true)
    (hP : ∀ k j w w', (j ≠ k ∨ k = 0) → ¬ bef tg rl j k → T j w w' → Pk k w → Pk k w') (h0 : ∀ k, Pk k { w with drawn := w.drawn + 1 })
    (h : ∃ B : (Nat → Value) → Act, (∀ ys, putAll (dstsOf (l.take n)) ys a0 = B ys) ∧ ∀ (ops : Array Oper) (K : List DF → Prop),
      (∀ Fs, (∀ ys w', Pk 0 w' → AllF Fs ys w' → wpList P ops Q (l.drop n) (B ys) w') → K Fs) → LexT P ops T Pk gl ks (bef tg rl) B K [] tg (l.take n)) : (Code.region id l.toArray true).wp P Q a0 w := by
  obtain ⟨B, hB', h⟩ := h
  have hB2 := hB
  simp only [tagTailB, Bool.and_eq_true, decide_eq_true_eq] at hB2
  have hn : n < l.length := by simpa using hB2.1.1.1.2
  have htl : (l.take n).length = n := by simp; omega
  obtain ⟨Fs, hK, _, hFl, hall⟩ := lexT_facts (ops := l.toArray) (T := T) (Pk := Pk) (P := P) (l.take n) tg [] tg (h l.toArray (fun Fs => ∀ ys w', Pk 0 w' → AllF Fs ys w' → wpList P l.toArray Q (l.drop n) (B ys) w') (fun Fs h => h)) (fun j hj => by
    have hj' : j < n := by rw [htl] at hj; exact hj
    simp [hj']) (fun j => by simp)
  rw [List.length_nil, Nat.zero_add, htl] at hFl
  refine wp_region_any hm ?_
  have hst : ∀ i o, i < n → l.toArray[i]? = some o → ∃ k F, tg[i]? = some k ∧ Fs[i]? = some (o.dst, F) ∧ (∀ j v w w', (j ≠ k ∨ k = 0) → ¬ bef tg rl k j → T j w w' → F v w → F v w') ∧
      ∀ ys w, Pk 0 w → Pk k w → (i ∈ gl → Pk ks w) → DepsOf (Fs.take i) ys o w → Does P l.toArray o (putAll (dstsOf (l.toArray.toList.take n)) ys a0) w (fun v w' => T k w w' ∧ F v w') := fun i o hi ho => by
    obtain ⟨k, F, h1, h2, h3, h4⟩ := hall i o (Nat.zero_le _) (by rw [List.length_nil, Nat.zero_add, htl]; exact hi) ho
    exact ⟨k, F, h1, h2, h3, fun ys w => by rw [show l.toArray.toList = l by simp, hB']; exact h4 ys w⟩
  have hend : ∀ ys w, Pk 0 w → (∀ j, j < n → FactAt Fs ys j w) → wpList P l.toArray Q (l.toArray.toList.drop n) (putAll (dstsOf (l.toArray.toList.take n)) ys a0) w := fun ys w hp hf => by
    rw [show l.toArray.toList = l by simp, hB']
    exact hK ys w hp (allF_of Fs ys w (fun j hj => hf j (by rw [← hFl]; exact hj)))
  have := wayT_any (T := T) (Pk := Pk) (Fs := Fs) (tg := tg) (Q := Q) (gl := gl) (ks := ks) (s0 := s0) (rl := rl) (fu := fu) hinv hB htg hs0 hks hgl hrl hP hst hend n (Array.replicate l.toArray.size false) a0 { w with drawn := w.drawn + 1 }
    ⟨⟨by simp, fun j oj _ hl => (by rw [getD_replicate_false] at hl; cases hl), fun t _ ht => getD_in (by simpa using ht) (getD_replicate_false _ _)⟩, h0 0, fun _ k _ _ _ => h0 k, rfl, rfl, fun _ _ => rfl,
      fun j (hj : (Array.replicate l.toArray.size false).getD j false = true) => (by rw [getD_replicate_false] at hj; cases hj)⟩ (by
        have := List.countP_le_length (p := fun i => !(Array.replicate l.toArray.size false).getD i true) (l := List.range n); simpa using this)
  rwa [show n + (l.toArray.size - n) = l.toArray.size by simp; omega] at this

section
variable {B : (Nat → Value) → Act} {K : List DF → Prop} {acc : List DF} {o : Oper} {l : List Oper} {k : Nat} {tg gl : List Nat} {ks : Nat} {bf : Nat → Nat → Prop}
theorem LexT.const (hr : ∀ w, T k w w)
    (h : ∃ c : Value, (∀ ys w, Pk 0 w → Pk k w → (acc.length ∈ gl → Pk ks w) → DepsOf acc ys o w → Does P ops o (B ys) w (fun v w' => w = w' ∧ v = c)) ∧
      LexT P ops T Pk gl ks bf B K (acc ++ [(o.dst, fun v _ => v = c)]) tg l) : LexT P ops T Pk gl ks bf B K acc (k :: tg) (o :: l) :=
  let ⟨c, h, kk⟩ := h
  ⟨fun v _ => v = c, fun _ _ _ _ _ _ _ h => h, fun ys w hp hpk hq hd Q2 hQ2 => h ys w hp hpk hq hd Q2 fun a2 w2 ⟨v, e, hw, hv⟩ => hQ2 a2 w2 ⟨v, e, by rw [← hw]; exact hr w, hv⟩, kk⟩
theorem LexT.some (F : VF) (hF : ∀ j v w w', (j ≠ k ∨ k = 0) → ¬ bf k j → T j w w' → F v w → F v w')
    (h : ∀ ys w, Pk 0 w → Pk k w → (acc.length ∈ gl → Pk ks w) → DepsOf acc ys o w → Does P ops o (B ys) w (fun v w' => T k w w' ∧ F v w'))
    (kk : LexT P ops T Pk gl ks bf B K (acc ++ [(o.dst, F)]) tg l) : LexT P ops T Pk gl ks bf B K acc (k :: tg) (o :: l) := ⟨F, hF, h, kk⟩
end
end
end Go.Proofs.Ytgnjknihgjdedaa
