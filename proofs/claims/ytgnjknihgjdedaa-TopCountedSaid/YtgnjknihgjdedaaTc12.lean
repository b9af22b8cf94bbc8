/- TopCounted 12: HdH. -/
import Derived.Test.YtgnjknihgjdedaaTc11
import Derived.Test.YtgnjknihgjdedaaTc03
import Derived.BigQuiet
import Derived.Deep.CutBlock
namespace Go.Proofs.Ytgnjknihgjdedaa
open Go.RowKit Go.MapKept
set_option linter.unusedVariables false
set_option linter.unusedSimpArgs false

def setL (w : World) (g : Nat) : List (Nat × Value) → World
  | [] => w
  | (i, v) :: l => setL (w.setCell ⟨g, i, none⟩ v) g l
def putL (cs : Array Value) : List (Nat × Value) → Array Value
  | [] => cs
  | (i, v) :: l => putL (cs.setIfInBounds i v) l
theorem setL_at {g : Nat} {t : TypeId} {z : Nat × Nat} : ∀ {l : List (Nat × Value)} {w : World} {cs : Array Value}, w.heap[g]? = some (.cells cs t z) → (setL w g l).heap[g]? = some (.cells (putL cs l) t z)
  | [], w, cs, h => h
  | (i, v) :: l, w, cs, h => setL_at (l := l) (set_blk h)
theorem setL_off {g k : Nat} (hk : k ≠ g) : ∀ {l : List (Nat × Value)} {w : World}, (setL w g l).heap[k]? = w.heap[k]?
  | [], w => rfl
  | (i, v) :: l, w => (setL_off hk (l := l)).trans (Below.heap_setCell _ ⟨g, i, none⟩ _ _ hk)
theorem setL_size {g : Nat} : ∀ {l : List (Nat × Value)} {w : World}, (setL w g l).heap.size = w.heap.size
  | [], w => rfl
  | (i, v) :: l, w => (setL_size (l := l)).trans (by simp)
theorem setL_os {g : Nat} : ∀ {l : List (Nat × Value)} {w : World}, (setL w g l).os = w.os ∧ (setL w g l).tape = w.tape ∧ (setL w g l).output = w.output
  | [], w => ⟨rfl, rfl, rfl⟩
  | (i, v) :: l, w => setL_os (l := l) (w := w.setCell ⟨g, i, none⟩ v)
theorem setL_below {g : Nat} {l : List (Nat × Value)} {w w' : World} {B : Nat} (h : Below B w w') (hg : B ≤ g) : Below B w (setL w' g l) :=
  ⟨setL_os.1.trans h.os, setL_os.2.1.trans h.tape, setL_os.2.2.trans h.output, by rw [setL_size]; exact h.size, fun k hk => (setL_off (by omega)).trans (h.block k hk)⟩
def l12 (d : De) : List (Nat × Value) := [(0, .int .i64 d.kind), (1, .int .i64 d.flock), (2, .int .i64 d.owner), (3, .int .i64 d.other), (4, .int .i64 d.tof), (5, .int .i64 d.many), (6, .int .i64 d.err), (7, .int .i64 d.s.n), (8, .bool d.s.l), (9, .bool d.s.r), (10, .int .i64 d.s.b), (11, .int .i64 d.s.p)]
theorem l12_at {w : World} {g : Nat} {d e : De} (h : w.heap[g]? = some (dObj e)) : (setL w g (l12 d)).heap[g]? = some (dObj d) := (setL_at h).trans (by simp [putL, l12])

theorem heap_drew (w : World) : w.drew.heap = w.heap := rfl
theorem l12_dr {w : World} {g : Nat} {d e : De} (h : w.heap[g]? = some (dObj e)) : (setL w g (l12 d)).drew.heap[g]? = some (dObj d) := by rw [heap_drew]; exact l12_at h
theorem setL_dr {g : Nat} {l : List (Nat × Value)} {w w' : World} {B : Nat} (h : Below B w w') (hg : B ≤ g) : Below B w (setL w' g l).drew := bdraw (setL_below h hg)
def loK (k : Int) : Int := if k = 6 then 0 else 1
def hiK (k : Int) : Int := if k = 6 then 300 else if k = 4 then 3 else 20
def CkAt (n nf : Nat) (d x : De) (e : Int) : Prop := fldE n nf d = (if btw d.many (loK d.kind) (hiK d.kind) = false then 1 else e) ∧ { x with many := d.many } = namD d
set_option maxRecDepth 100000 in
set_option maxHeartbeats 1000000 in
theorem checked_any (p : Nat) (b : Hb) (deed owner now : Int) (d : De) (w : World) (hp : w.heap[p]? = some (b.bk deed owner now)) (hin : HbIn w b) (hck : check b.t b.l = 0) (hk : 1 ≤ d.kind ∧ d.kind ≤ 6) :
    Calls Try.prog 92 #[.pointer (some ⟨p, 0, none⟩), dv d] w fun e w' => (∃ x, e = .returned (.tuple #[.int .i64 (fldE b.l.length b.ks.length d), dv x]) ∧ (fldE b.l.length b.ks.length d = 0 → x = namD d)) ∧ Below w.heap.size w w' := by
  obtain ⟨kind, flock, ow, other, tof, many, err, s⟩ := d
  dsimp only at hk
  unfold dv
  go_enter Try.func92, Try.ntmps92
  go_upto_block 0 with (fail)
  obtain ⟨V, hV⟩ : ∃ V, V = ((w.alloc (dObj ⟨kind, flock, ow, other, tof, many, err, s⟩)).alloc dZ).alloc (dObj ⟨kind, flock, 0, 0, 0, 0, 0, ⟨0, false, false, 0, 0⟩⟩) := ⟨_, rfl⟩
  obtain ⟨g, hg⟩ : ∃ g, g = w.heap.size := ⟨_, rfl⟩
  have b0 : V.heap[g]? = some (dObj ⟨kind, flock, ow, other, tof, many, err, s⟩) := by rw [hV, hg]; exact hblk_alloc (hblk_alloc (alloc_at rfl) _) _
  have b1 : V.heap[g + 1]? = some dZ := by rw [hV, hg]; exact hblk_alloc (alloc_at (by simp)) _
  have b2 : V.heap[g + 1 + 1]? = some (dObj ⟨kind, flock, 0, 0, 0, 0, 0, ⟨0, false, false, 0, 0⟩⟩) := by rw [hV, hg]; exact alloc_at (by simp)
  have hBV : Below w.heap.size w V := by rw [hV]; exact bal (bal (bal0 w _) (Nat.le_refl _) _) (Nat.le_refl _) _
  have hpV := bheap hp hBV (Nat.le_refl _)
  have hiV := hin.below hBV (Nat.le_refl _)
  have hpg : p < g := by rw [hg]; exact heap_lt hp
  rw [← hV, ← hg]
  have HG := Lib.hid hg
  have HCK := Lib.hid (And.intro hck hin)
  clear hck
  have HV := Lib.hid (And.intro hBV (And.intro b0 (And.intro b1 (And.intro b2 (And.intro hpV hiV)))))
  clear hV hg hBV hp hin hpV hiV b0 b1 b2
  go_cut [7, 8, 9] (fun v7 v8 v9 wx => ∃ (e0 : Int) (x : De), v7 = .int .i64 e0 ∧ v8 = .int .i64 (loK kind) ∧ v9 = .int .i64 (hiK kind) ∧ wx.heap[g]? = some (dObj ⟨kind, flock, ow, other, tof, many, err, s⟩) ∧ wx.heap[g + 1]? = some dZ ∧ wx.heap[g + 1 + 1]? = some (dObj x) ∧ Below w.heap.size w wx ∧ CkAt b.l.length b.ks.length ⟨kind, flock, ow, other, tof, many, err, s⟩ x e0)
  case first =>
    obtain ⟨c0, c1, c2, c3, c4, c5, c6, c7, c8, c9, c10, c11⟩ := blkD HV.out.2.1
    obtain ⟨e0, e1, e2, e3, e4, e5, e6, e7, e8, e9, e10, e11⟩ := blkD HV.out.2.2.2.1
    have fr := frz HV.out.2.2.2.1
    obtain ⟨f0, f1, f2, f3, f4, f5, f6, f7⟩ := And.intro (fr 2) (And.intro (fr 3) (And.intro (fr 4) (And.intro (fr 5) (And.intro (fr 6) (And.intro (fr 7) (And.intro (fr 8) (And.intro (fr 9) (And.intro (fr 10) (fr 11)))))))))
    clear fr
    obtain ⟨r0, r1, r2, r3, r4, r5, r6, r7, r8, r9, r10, r11⟩ := blkD (d := ⟨0, 0, 0, 0, 0, 0, 0, ⟨0, false, false, 0, 0⟩⟩) HV.out.2.2.1
    obtain ⟨q0, q1, q2, q3, q4, q5, q6, q7, q8, q9, q10, q11⟩ := And.intro (frz HV.out.2.2.1 0) (And.intro (frz HV.out.2.2.1 1) (And.intro (frz HV.out.2.2.1 2) (And.intro (frz HV.out.2.2.1 3) (And.intro (frz HV.out.2.2.1 4) (And.intro (frz HV.out.2.2.1 5) (And.intro (frz HV.out.2.2.1 6) (And.intro (frz HV.out.2.2.1 7) (And.intro (frz HV.out.2.2.1 8) (And.intro (frz HV.out.2.2.1 9) (And.intro (frz HV.out.2.2.1 10) (frz HV.out.2.2.1 11)))))))))))
    obtain h | h | h | h | h | h : kind = 1 ∨ kind = 2 ∨ kind = 3 ∨ kind = 4 ∨ kind = 5 ∨ kind = 6 := by omega
    all_goals subst h
    · have hfl : fldE b.l.length b.ks.length ⟨1, flock, ow, other, tof, many, err, s⟩ = if ownB b.l.length ow = false then 3 else if btw many 1 20 = false then 1 else 0 := by unfold fldE; simp
      have HFL := Lib.hid hfl
      clear hfl
      go_upto_region 15 with (fail)
      obtain ⟨U, hU⟩ : ∃ U, U = (V.setCell ⟨g + 1 + 1, 2, none⟩ (Value.int .i64 ow)) := ⟨_, rfl⟩
      have u2 : U.heap[g + 1 + 1]? = some (dObj ⟨1, flock, ow, 0, 0, 0, 0, ⟨0, false, false, 0, 0⟩⟩) := by rw [hU]; exact (set_blk HV.out.2.2.2.1).trans (by simp)
      have hoffU : ∀ k, k ≠ g + 1 + 1 → U.heap[k]? = V.heap[k]? := fun k hk => by rw [hU]; exact Below.heap_setCell _ ⟨g + 1 + 1, 2, none⟩ _ _ hk
      have u1 := (hoffU (g + 1) (by omega)).trans HV.out.2.2.1
      have u0 := (hoffU g (by omega)).trans HV.out.2.1
      have hup := (hoffU p (by omega)).trans HV.out.2.2.2.2.1
      have hBU : Below w.heap.size w U := by rw [hU]; exact Below.setCell HV.out.1 (p := ⟨g + 1 + 1, 2, none⟩) (by rw [← HG.out]; dsimp; omega) _
      have hnm : b.l.length ≤ maxLen := Nat.le_trans HV.out.2.2.2.2.2.mc HV.out.2.2.2.2.2.mm
      obtain ⟨ob, hob⟩ : ∃ ob, ob = ownB b.l.length ow := ⟨_, rfl⟩
      obtain ⟨T, hT⟩ : ∃ T, T = U.alloc (Obj.cells #[Value.int .i64 ow] 3) := ⟨_, rfl⟩
      have hBT : Below U.heap.size U T := by rw [hT]; exact bal0 U _
      have t2 := bheap u2 hBT (Nat.le_refl _)
      have t1 := bheap u1 hBT (Nat.le_refl _)
      have t0 := bheap u0 hBT (Nat.le_refl _)
      have htp := bheap hup hBT (Nat.le_refl _)
      have hio := isOwner_any p .nilFunc b.t b.A b.l.length b.c b.vk b.vh b.vd deed owner now (some ⟨U.heap.size, 0, none⟩) 1 1 [ow] T htp (by rw [hT]; exact ints1 U 3 ow) hnm (by unfold maxLen; omega)
      simp only [List.all_cons, List.all_nil, Bool.and_true] at hio
      rw [← hob] at hio
      rw [← hU]
      obtain ⟨-, -, u2c, -⟩ := blkD u0
      have HU := Lib.hid (And.intro hT (And.intro t0 (And.intro t1 (And.intro t2 (hBU.trans (hBT.mono hBU.size))))))
      have HOB := Lib.hid hob.symm
      have HT := Lib.hid hT
      rw [hT] at hio
      obtain ⟨e0, e1, e2, e3, e4, e5, e6, e7, e8, e9, e10, e11⟩ := blkD t2
      obtain ⟨r0, r1, r2, r3, r4, r5, r6, r7, r8, r9, r10, r11⟩ := blkD (d := ⟨0, 0, 0, 0, 0, 0, 0, ⟨0, false, false, 0, 0⟩⟩) t1
      obtain ⟨q0, q1, q2, q3, q4, q5, q6, q7, q8, q9, q10, q11⟩ := And.intro (frz t1 0) (And.intro (frz t1 1) (And.intro (frz t1 2) (And.intro (frz t1 3) (And.intro (frz t1 4) (And.intro (frz t1 5) (And.intro (frz t1 6) (And.intro (frz t1 7) (And.intro (frz t1 8) (And.intro (frz t1 9) (And.intro (frz t1 10) (frz t1 11)))))))))))
      rw [hT] at e0 e1 e2 e3 e4 e5 e6 e7 e8 e9 e10 e11 r0 r1 r2 r3 r4 r5 r6 r7 r8 r9 r10 r11 q0 q1 q2 q3 q4 q5 q6 q7 q8 q9 q10 q11
      clear hU u2 hoffU u1 u0 hup hBU hob hT hBT t2 t1 t0 htp
      rw [HU.out.1] at HU
      clear c0 c1 c2 c3 c4 c5 c6 c7 c8 c9 c10 c11 f0 f1 f2 f3 f4 f5 f6 f7
      cases ob with
      | false =>
        have HFE := Lib.hid (show fldE b.l.length b.ks.length ⟨1, flock, ow, other, tof, many, err, s⟩ = 3 by rw [HFL.out, HOB.out]; rfl)
        go_wp2_with (go_at_call 99; refine hio.mono ?_; rintro e w' ⟨rfl, rfl⟩)
        go_region
        all_goals
          go_wp2
          have hz := l12_dr (d := ⟨1, flock, ow, 0, 0, 0, 0, ⟨0, false, false, 0, 0⟩⟩) (e := ⟨0, 0, 0, 0, 0, 0, 0, ⟨0, false, false, 0, 0⟩⟩) HU.out.2.2.1
          have hbz := setL_dr (l := l12 ⟨1, flock, ow, 0, 0, 0, 0, ⟨0, false, false, 0, 0⟩⟩) HU.out.2.2.2.2 (show w.heap.size ≤ g + 1 by rw [← HG.out]; omega)
          simp only [setL, l12] at hz hbz
          generalize World.drew _ = Z at hz hbz ⊢
          have HZ := Lib.hid hbz
          obtain ⟨z0, z1, z2, z3, z4, z5, z6, z7, z8, z9, z10, z11⟩ := blkD hz
          clear hbz hz
          exact bodyPost_ret (v := .tuple #[.int .i64 3, dv ⟨1, flock, ow, 0, 0, 0, 0, ⟨0, false, false, 0, 0⟩⟩]) (by simp [results, Try.f92, go_sem, z0, z1, z2, z3, z4, z5, z6, z7, z8, z9, z10, z11, dv]) rfl ⟨⟨⟨1, flock, ow, 0, 0, 0, 0, ⟨0, false, false, 0, 0⟩⟩, by rw [HFE.out]; rfl, fun h => by rw [HFE.out] at h; cases h⟩, HZ.out⟩
      | true =>
        go_wp2_with (go_at_call 99; refine hio.mono ?_; rintro e w' ⟨rfl, rfl⟩)
        go_meet
        exact ⟨0, ⟨1, flock, ow, 0, 0, 0, 0, ⟨0, false, false, 0, 0⟩⟩, rfl, rfl, rfl, HU.out.2.1, HU.out.2.2.1, HU.out.2.2.2.1, HU.out.2.2.2.2, by rw [HFL.out, HOB.out]; unfold loK hiK; simp, by unfold namD; simp⟩
    · have hfl : fldE b.l.length b.ks.length ⟨2, flock, ow, other, tof, many, err, s⟩ = if ownB b.l.length ow = false ∨ ownB b.l.length other = false then 3 else if ow = other then 4 else if btw many 1 20 = false then 1 else 0 := by unfold fldE; simp
      have HFL := Lib.hid hfl
      clear hfl
      go_upto_region 10 with (fail)
      obtain ⟨U1, hU⟩ : ∃ U, U = (V.setCell ⟨g + 1 + 1, 3, none⟩ (Value.int .i64 other)) := ⟨_, rfl⟩
      have u2 : U1.heap[g + 1 + 1]? = some (dObj ⟨2, flock, 0, other, 0, 0, 0, ⟨0, false, false, 0, 0⟩⟩) := by rw [hU]; exact (set_blk HV.out.2.2.2.1).trans (by simp)
      have hoffU : ∀ k, k ≠ g + 1 + 1 → U1.heap[k]? = V.heap[k]? := fun k hk => by rw [hU]; exact Below.heap_setCell _ ⟨g + 1 + 1, 3, none⟩ _ _ hk
      have u1 := (hoffU (g + 1) (by omega)).trans HV.out.2.2.1
      have u0 := (hoffU g (by omega)).trans HV.out.2.1
      have hup := (hoffU p (by omega)).trans HV.out.2.2.2.2.1
      have hBU : Below w.heap.size w U1 := by rw [hU]; exact Below.setCell HV.out.1 (p := ⟨g + 1 + 1, 3, none⟩) (by rw [← HG.out]; dsimp; omega) _
      have hnm : b.l.length ≤ maxLen := Nat.le_trans HV.out.2.2.2.2.2.mc HV.out.2.2.2.2.2.mm
      obtain ⟨o2, ho2⟩ : ∃ o2, o2 = (ownB b.l.length ow && ownB b.l.length other) := ⟨_, rfl⟩
      obtain ⟨T1, hT⟩ : ∃ T, T = U1.alloc (Obj.cells #[Value.int .i64 ow, Value.int .i64 other] 3) := ⟨_, rfl⟩
      have hBT : Below U1.heap.size U1 T1 := by rw [hT]; exact bal0 U1 _
      have t2 := bheap u2 hBT (Nat.le_refl _)
      have t1 := bheap u1 hBT (Nat.le_refl _)
      have t0 := bheap u0 hBT (Nat.le_refl _)
      have htp := bheap hup hBT (Nat.le_refl _)
      have hio := isOwner_any p .nilFunc b.t b.A b.l.length b.c b.vk b.vh b.vd deed owner now (some ⟨U1.heap.size, 0, none⟩) 2 2 [ow, other] T1 htp (by rw [hT]; exact ints2 U1 3 ow other) hnm (by unfold maxLen; omega)
      simp only [List.all_cons, List.all_nil, Bool.and_true] at hio
      rw [← ho2] at hio
      rw [← hU]
      obtain ⟨-, -, v2c, v3c, -⟩ := blkD u0
      have HU1 := Lib.hid (And.intro hT (And.intro t0 (And.intro t1 (And.intro t2 (And.intro (hBU.trans (hBT.mono hBU.size)) htp)))))
      have HO2 := Lib.hid ho2
      obtain ⟨-, -, w2c, w3c, -⟩ := blkD t0
      obtain ⟨e0, e1, e2, e3, e4, e5, e6, e7, e8, e9, e10, e11⟩ := blkD t2
      obtain ⟨r0, r1, r2, r3, r4, r5, r6, r7, r8, r9, r10, r11⟩ := blkD (d := ⟨0, 0, 0, 0, 0, 0, 0, ⟨0, false, false, 0, 0⟩⟩) t1
      obtain ⟨q0, q1, q2, q3, q4, q5, q6, q7, q8, q9, q10, q11⟩ := And.intro (frz t1 0) (And.intro (frz t1 1) (And.intro (frz t1 2) (And.intro (frz t1 3) (And.intro (frz t1 4) (And.intro (frz t1 5) (And.intro (frz t1 6) (And.intro (frz t1 7) (And.intro (frz t1 8) (And.intro (frz t1 9) (And.intro (frz t1 10) (frz t1 11)))))))))))
      have f2 := frz t2 2
      clear hT hU u2 hoffU u1 u0 hup hBU ho2 hBT t2 t1 t0 htp c0 c1 c2 c3 c4 c5 c6 c7 c8 c9 c10 c11 f0 f1 f3 f4 f5 f6 f7
      cases o2 with
      | false =>
        have HFE := Lib.hid (show fldE b.l.length b.ks.length ⟨2, flock, ow, other, tof, many, err, s⟩ = 3 by
          rw [HFL.out]
          refine if_pos ?_
          have h0 := HO2.out
          cases h1 : ownB b.l.length ow with
          | false => exact .inl rfl
          | true => rw [h1, Bool.true_and] at h0; exact .inr h0.symm)
        go_wp2_with (go_at_call 99; rw [← HU1.out.1]; refine hio.mono ?_; rintro e w' ⟨rfl, rfl⟩)
        go_region
        all_goals
          go_wp2
          have hz := l12_dr (d := ⟨2, flock, 0, other, 0, 0, 0, ⟨0, false, false, 0, 0⟩⟩) (e := ⟨0, 0, 0, 0, 0, 0, 0, ⟨0, false, false, 0, 0⟩⟩) HU1.out.2.2.1
          have hbz := setL_dr (l := l12 ⟨2, flock, 0, other, 0, 0, 0, ⟨0, false, false, 0, 0⟩⟩) HU1.out.2.2.2.2.1 (show w.heap.size ≤ g + 1 by rw [← HG.out]; omega)
          simp only [setL, l12] at hz hbz
          generalize World.drew _ = Z at hz hbz ⊢
          have HZ := Lib.hid hbz
          obtain ⟨z0, z1, z2, z3, z4, z5, z6, z7, z8, z9, z10, z11⟩ := blkD hz
          clear hbz hz
          exact bodyPost_ret (v := .tuple #[.int .i64 3, dv ⟨2, flock, 0, other, 0, 0, 0, ⟨0, false, false, 0, 0⟩⟩]) (by simp [results, Try.f92, go_sem, z0, z1, z2, z3, z4, z5, z6, z7, z8, z9, z10, z11, dv]) rfl ⟨⟨⟨2, flock, 0, other, 0, 0, 0, ⟨0, false, false, 0, 0⟩⟩, by rw [HFE.out]; rfl, fun h => by rw [HFE.out] at h; cases h⟩, HZ.out⟩
      | true =>
        have hoo := HO2.out
        simp only [Bool.true_eq, Bool.and_eq_true] at hoo
        have HOO := Lib.hid hoo
        clear hoo
        by_cases how : ow = other
        · have x0 : (ow == other) = true := beq_iff_eq.2 how
          have HFE := Lib.hid (show fldE b.l.length b.ks.length ⟨2, flock, ow, other, tof, many, err, s⟩ = 4 by
            rw [HFL.out, HOO.out.1, HOO.out.2, if_neg (by simp), if_pos how])
          clear how
          go_wp2_with (go_at_call 99; rw [← HU1.out.1]; refine hio.mono ?_; rintro e w' ⟨rfl, rfl⟩)
          go_region
          all_goals
            go_wp2
            have hz := l12_dr (d := ⟨2, flock, 0, other, 0, 0, 0, ⟨0, false, false, 0, 0⟩⟩) (e := ⟨0, 0, 0, 0, 0, 0, 0, ⟨0, false, false, 0, 0⟩⟩) HU1.out.2.2.1
            have hbz := setL_dr (l := l12 ⟨2, flock, 0, other, 0, 0, 0, ⟨0, false, false, 0, 0⟩⟩) HU1.out.2.2.2.2.1 (show w.heap.size ≤ g + 1 by rw [← HG.out]; omega)
            simp only [setL, l12] at hz hbz
            generalize World.drew _ = Z at hz hbz ⊢
            have HZ := Lib.hid hbz
            obtain ⟨z0, z1, z2, z3, z4, z5, z6, z7, z8, z9, z10, z11⟩ := blkD hz
            clear hbz hz
            exact bodyPost_ret (v := .tuple #[.int .i64 4, dv ⟨2, flock, 0, other, 0, 0, 0, ⟨0, false, false, 0, 0⟩⟩]) (by simp [results, Try.f92, go_sem, z0, z1, z2, z3, z4, z5, z6, z7, z8, z9, z10, z11, dv]) rfl ⟨⟨⟨2, flock, 0, other, 0, 0, 0, ⟨0, false, false, 0, 0⟩⟩, by rw [HFE.out]; rfl, fun h => by rw [HFE.out] at h; cases h⟩, HZ.out⟩
        · have x0 : (ow == other) = false := beq_eq_false_iff_ne.2 how
          have HFE := Lib.hid (show fldE b.l.length b.ks.length ⟨2, flock, ow, other, tof, many, err, s⟩ = if btw many 1 20 = false then 1 else 0 by
            rw [HFL.out, HOO.out.1, HOO.out.2, if_neg (by simp), if_neg how])
          clear how
          go_upto_region 15 with (go_at_call 99; rw [← HU1.out.1]; refine hio.mono ?_; rintro e w' ⟨rfl, rfl⟩)
          clear hio e0 e1 e2 e3 e4 e5 e6 e7 e8 e9 e10 e11 r0 r1 r2 r3 r4 r5 r6 r7 r8 r9 r10 r11 q0 q1 q2 q3 q4 q5 q6 q7 q8 q9 q10 q11 f2 v2c v3c w2c w3c x0 hnm
          obtain ⟨U, hU⟩ : ∃ U, U = (T1.setCell ⟨g + 1 + 1, 2, none⟩ (Value.int .i64 ow)) := ⟨_, rfl⟩
          have u2 : U.heap[g + 1 + 1]? = some (dObj ⟨2, flock, ow, other, 0, 0, 0, ⟨0, false, false, 0, 0⟩⟩) := by rw [hU]; exact (set_blk HU1.out.2.2.2.1).trans (by simp)
          have hoffU : ∀ k, k ≠ g + 1 + 1 → U.heap[k]? = T1.heap[k]? := fun k hk => by rw [hU]; exact Below.heap_setCell _ ⟨g + 1 + 1, 2, none⟩ _ _ hk
          have u1 := (hoffU (g + 1) (by omega)).trans HU1.out.2.2.1
          have u0 := (hoffU g (by omega)).trans HU1.out.2.1
          have hup := (hoffU p (by omega)).trans HU1.out.2.2.2.2.2
          have hBU : Below w.heap.size w U := by rw [hU]; exact Below.setCell HU1.out.2.2.2.2.1 (p := ⟨g + 1 + 1, 2, none⟩) (by rw [← HG.out]; dsimp; omega) _
          have hnm : b.l.length ≤ maxLen := Nat.le_trans HV.out.2.2.2.2.2.mc HV.out.2.2.2.2.2.mm
          obtain ⟨ob, hob⟩ : ∃ ob, ob = ownB b.l.length ow := ⟨_, rfl⟩
          obtain ⟨T, hT⟩ : ∃ T, T = U.alloc (Obj.cells #[Value.int .i64 ow] 3) := ⟨_, rfl⟩
          have hBT : Below U.heap.size U T := by rw [hT]; exact bal0 U _
          have t2 := bheap u2 hBT (Nat.le_refl _)
          have t1 := bheap u1 hBT (Nat.le_refl _)
          have t0 := bheap u0 hBT (Nat.le_refl _)
          have htp := bheap hup hBT (Nat.le_refl _)
          have hio := isOwner_any p .nilFunc b.t b.A b.l.length b.c b.vk b.vh b.vd deed owner now (some ⟨U.heap.size, 0, none⟩) 1 1 [ow] T htp (by rw [hT]; exact ints1 U 3 ow) hnm (by unfold maxLen; omega)
          simp only [List.all_cons, List.all_nil, Bool.and_true] at hio
          rw [← hob] at hio
          rw [← hU]
          obtain ⟨-, -, u2c, -⟩ := blkD u0
          have HU := Lib.hid (And.intro hT (And.intro t0 (And.intro t1 (And.intro t2 (hBU.trans (hBT.mono hBU.size))))))
          have HOB := Lib.hid hob.symm
          have HT := Lib.hid hT
          rw [hT] at hio
          obtain ⟨e0, e1, e2, e3, e4, e5, e6, e7, e8, e9, e10, e11⟩ := blkD t2
          obtain ⟨r0, r1, r2, r3, r4, r5, r6, r7, r8, r9, r10, r11⟩ := blkD (d := ⟨0, 0, 0, 0, 0, 0, 0, ⟨0, false, false, 0, 0⟩⟩) t1
          obtain ⟨q0, q1, q2, q3, q4, q5, q6, q7, q8, q9, q10, q11⟩ := And.intro (frz t1 0) (And.intro (frz t1 1) (And.intro (frz t1 2) (And.intro (frz t1 3) (And.intro (frz t1 4) (And.intro (frz t1 5) (And.intro (frz t1 6) (And.intro (frz t1 7) (And.intro (frz t1 8) (And.intro (frz t1 9) (And.intro (frz t1 10) (frz t1 11)))))))))))
          rw [hT] at e0 e1 e2 e3 e4 e5 e6 e7 e8 e9 e10 e11 r0 r1 r2 r3 r4 r5 r6 r7 r8 r9 r10 r11 q0 q1 q2 q3 q4 q5 q6 q7 q8 q9 q10 q11
          clear hU u2 hoffU u1 u0 hup hBU hob hT hBT t2 t1 t0 htp
          rw [HU.out.1] at HU
          cases ob with
          | false => exact absurd (HOO.out.1.symm.trans HOB.out) (by simp)
          | true =>
            go_wp2_with (go_at_call 99; refine hio.mono ?_; rintro e w' ⟨rfl, rfl⟩)
            go_meet
            exact ⟨0, ⟨2, flock, ow, other, 0, 0, 0, ⟨0, false, false, 0, 0⟩⟩, rfl, rfl, rfl, HU.out.2.1, HU.out.2.2.1, HU.out.2.2.2.1, HU.out.2.2.2.2, by rw [HFE.out]; unfold loK hiK; simp, by unfold namD; simp⟩
    · have hfl : fldE b.l.length b.ks.length ⟨3, flock, ow, other, tof, many, err, s⟩ = if ownB b.l.length ow = false then 3 else if btw many 1 20 = false then 1 else 0 := by unfold fldE; simp
      have HFL := Lib.hid hfl
      clear hfl
      go_upto_region 15 with (fail)
      obtain ⟨U, hU⟩ : ∃ U, U = (V.setCell ⟨g + 1 + 1, 2, none⟩ (Value.int .i64 ow)) := ⟨_, rfl⟩
      have u2 : U.heap[g + 1 + 1]? = some (dObj ⟨3, flock, ow, 0, 0, 0, 0, ⟨0, false, false, 0, 0⟩⟩) := by rw [hU]; exact (set_blk HV.out.2.2.2.1).trans (by simp)
      have hoffU : ∀ k, k ≠ g + 1 + 1 → U.heap[k]? = V.heap[k]? := fun k hk => by rw [hU]; exact Below.heap_setCell _ ⟨g + 1 + 1, 2, none⟩ _ _ hk
      have u1 := (hoffU (g + 1) (by omega)).trans HV.out.2.2.1
      have u0 := (hoffU g (by omega)).trans HV.out.2.1
      have hup := (hoffU p (by omega)).trans HV.out.2.2.2.2.1
      have hBU : Below w.heap.size w U := by rw [hU]; exact Below.setCell HV.out.1 (p := ⟨g + 1 + 1, 2, none⟩) (by rw [← HG.out]; dsimp; omega) _
      have hnm : b.l.length ≤ maxLen := Nat.le_trans HV.out.2.2.2.2.2.mc HV.out.2.2.2.2.2.mm
      obtain ⟨ob, hob⟩ : ∃ ob, ob = ownB b.l.length ow := ⟨_, rfl⟩
      obtain ⟨T, hT⟩ : ∃ T, T = U.alloc (Obj.cells #[Value.int .i64 ow] 3) := ⟨_, rfl⟩
      have hBT : Below U.heap.size U T := by rw [hT]; exact bal0 U _
      have t2 := bheap u2 hBT (Nat.le_refl _)
      have t1 := bheap u1 hBT (Nat.le_refl _)
      have t0 := bheap u0 hBT (Nat.le_refl _)
      have htp := bheap hup hBT (Nat.le_refl _)
      have hio := isOwner_any p .nilFunc b.t b.A b.l.length b.c b.vk b.vh b.vd deed owner now (some ⟨U.heap.size, 0, none⟩) 1 1 [ow] T htp (by rw [hT]; exact ints1 U 3 ow) hnm (by unfold maxLen; omega)
      simp only [List.all_cons, List.all_nil, Bool.and_true] at hio
      rw [← hob] at hio
      rw [← hU]
      obtain ⟨-, -, u2c, -⟩ := blkD u0
      have HU := Lib.hid (And.intro hT (And.intro t0 (And.intro t1 (And.intro t2 (hBU.trans (hBT.mono hBU.size))))))
      have HOB := Lib.hid hob.symm
      have HT := Lib.hid hT
      rw [hT] at hio
      obtain ⟨e0, e1, e2, e3, e4, e5, e6, e7, e8, e9, e10, e11⟩ := blkD t2
      obtain ⟨r0, r1, r2, r3, r4, r5, r6, r7, r8, r9, r10, r11⟩ := blkD (d := ⟨0, 0, 0, 0, 0, 0, 0, ⟨0, false, false, 0, 0⟩⟩) t1
      obtain ⟨q0, q1, q2, q3, q4, q5, q6, q7, q8, q9, q10, q11⟩ := And.intro (frz t1 0) (And.intro (frz t1 1) (And.intro (frz t1 2) (And.intro (frz t1 3) (And.intro (frz t1 4) (And.intro (frz t1 5) (And.intro (frz t1 6) (And.intro (frz t1 7) (And.intro (frz t1 8) (And.intro (frz t1 9) (And.intro (frz t1 10) (frz t1 11)))))))))))
      rw [hT] at e0 e1 e2 e3 e4 e5 e6 e7 e8 e9 e10 e11 r0 r1 r2 r3 r4 r5 r6 r7 r8 r9 r10 r11 q0 q1 q2 q3 q4 q5 q6 q7 q8 q9 q10 q11
      clear hU u2 hoffU u1 u0 hup hBU hob hT hBT t2 t1 t0 htp
      rw [HU.out.1] at HU
      clear c0 c1 c2 c3 c4 c5 c6 c7 c8 c9 c10 c11 f0 f1 f2 f3 f4 f5 f6 f7
      cases ob with
      | false =>
        have HFE := Lib.hid (show fldE b.l.length b.ks.length ⟨3, flock, ow, other, tof, many, err, s⟩ = 3 by rw [HFL.out, HOB.out]; rfl)
        go_wp2_with (go_at_call 99; refine hio.mono ?_; rintro e w' ⟨rfl, rfl⟩)
        go_region
        all_goals
          go_wp2
          have hz := l12_dr (d := ⟨3, flock, ow, 0, 0, 0, 0, ⟨0, false, false, 0, 0⟩⟩) (e := ⟨0, 0, 0, 0, 0, 0, 0, ⟨0, false, false, 0, 0⟩⟩) HU.out.2.2.1
          have hbz := setL_dr (l := l12 ⟨3, flock, ow, 0, 0, 0, 0, ⟨0, false, false, 0, 0⟩⟩) HU.out.2.2.2.2 (show w.heap.size ≤ g + 1 by rw [← HG.out]; omega)
          simp only [setL, l12] at hz hbz
          generalize World.drew _ = Z at hz hbz ⊢
          have HZ := Lib.hid hbz
          obtain ⟨z0, z1, z2, z3, z4, z5, z6, z7, z8, z9, z10, z11⟩ := blkD hz
          clear hbz hz
          exact bodyPost_ret (v := .tuple #[.int .i64 3, dv ⟨3, flock, ow, 0, 0, 0, 0, ⟨0, false, false, 0, 0⟩⟩]) (by simp [results, Try.f92, go_sem, z0, z1, z2, z3, z4, z5, z6, z7, z8, z9, z10, z11, dv]) rfl ⟨⟨⟨3, flock, ow, 0, 0, 0, 0, ⟨0, false, false, 0, 0⟩⟩, by rw [HFE.out]; rfl, fun h => by rw [HFE.out] at h; cases h⟩, HZ.out⟩
      | true =>
        go_wp2_with (go_at_call 99; refine hio.mono ?_; rintro e w' ⟨rfl, rfl⟩)
        go_meet
        exact ⟨0, ⟨3, flock, ow, 0, 0, 0, 0, ⟨0, false, false, 0, 0⟩⟩, rfl, rfl, rfl, HU.out.2.1, HU.out.2.2.1, HU.out.2.2.2.1, HU.out.2.2.2.2, by rw [HFL.out, HOB.out]; unfold loK hiK; simp, by unfold namD; simp⟩
    · go_wp2
      go_meet
      exact ⟨0, ⟨4, flock, 0, 0, 0, 0, 0, ⟨0, false, false, 0, 0⟩⟩, rfl, rfl, rfl, HV.out.2.1, HV.out.2.2.1, HV.out.2.2.2.1, HV.out.1, by unfold fldE loK hiK; simp, by unfold namD; simp⟩
    · have hfl : fldE b.l.length b.ks.length ⟨5, flock, ow, other, tof, many, err, s⟩ = if ownB b.ks.length tof = false then 3 else if tof = flock then 4 else seen s 9 6 := by unfold fldE; simp
      have HFL := Lib.hid hfl
      clear hfl
      go_upto_region 18 with (fail)
      go_cut [] (fun wx => wx.heap[g]? = some (dObj ⟨5, flock, ow, other, tof, many, err, s⟩) ∧ wx.heap[g + 1]? = some dZ ∧ wx.heap[g + 1 + 1]? = some (dObj ⟨5, flock, 0, 0, tof, 0, 0, s⟩) ∧ Below w.heap.size w wx ∧ wx.heap[p]? = some (b.bk deed owner now))
      case first =>
        go_region
        all_goals
          go_wp2
          go_meet
          simp only [heap_drew]
          first
            | (have h2 := setL_at (l := [(4, .int .i64 tof), (7, .int .i64 s.n), (8, .bool s.l), (9, .bool s.r), (10, .int .i64 s.b), (11, .int .i64 s.p), (5, .int .i64 0)]) HV.out.2.2.2.1
               have ho := fun k hk => setL_off (l := [(4, .int .i64 tof), (7, .int .i64 s.n), (8, .bool s.l), (9, .bool s.r), (10, .int .i64 s.b), (11, .int .i64 s.p), (5, .int .i64 0)]) (w := V) (g := g + 1 + 1) (k := k) hk
               have hb := setL_dr (l := [(4, .int .i64 tof), (7, .int .i64 s.n), (8, .bool s.l), (9, .bool s.r), (10, .int .i64 s.b), (11, .int .i64 s.p), (5, .int .i64 0)]) HV.out.1 (show w.heap.size ≤ g + 1 + 1 by rw [← HG.out]; omega)
               simp only [setL] at h2 ho hb
               exact ⟨(ho g (by omega)).trans HV.out.2.1, (ho (g + 1) (by omega)).trans HV.out.2.2.1, h2.trans (by simp [putL]), hb, (ho p (by omega)).trans HV.out.2.2.2.2.1⟩)
            | (have h2 := setL_at (l := [(4, .int .i64 tof), (5, .int .i64 0), (7, .int .i64 s.n), (8, .bool s.l), (9, .bool s.r), (10, .int .i64 s.b), (11, .int .i64 s.p)]) HV.out.2.2.2.1
               have ho := fun k hk => setL_off (l := [(4, .int .i64 tof), (5, .int .i64 0), (7, .int .i64 s.n), (8, .bool s.l), (9, .bool s.r), (10, .int .i64 s.b), (11, .int .i64 s.p)]) (w := V) (g := g + 1 + 1) (k := k) hk
               have hb := setL_dr (l := [(4, .int .i64 tof), (5, .int .i64 0), (7, .int .i64 s.n), (8, .bool s.l), (9, .bool s.r), (10, .int .i64 s.b), (11, .int .i64 s.p)]) HV.out.1 (show w.heap.size ≤ g + 1 + 1 by rw [← HG.out]; omega)
               simp only [setL] at h2 ho hb
               exact ⟨(ho g (by omega)).trans HV.out.2.1, (ho (g + 1) (by omega)).trans HV.out.2.2.1, h2.trans (by simp [putL]), hb, (ho p (by omega)).trans HV.out.2.2.2.2.1⟩)
            | (have h2 := setL_at (l := [(7, .int .i64 s.n), (8, .bool s.l), (9, .bool s.r), (10, .int .i64 s.b), (11, .int .i64 s.p), (4, .int .i64 tof), (5, .int .i64 0)]) HV.out.2.2.2.1
               have ho := fun k hk => setL_off (l := [(7, .int .i64 s.n), (8, .bool s.l), (9, .bool s.r), (10, .int .i64 s.b), (11, .int .i64 s.p), (4, .int .i64 tof), (5, .int .i64 0)]) (w := V) (g := g + 1 + 1) (k := k) hk
               have hb := setL_dr (l := [(7, .int .i64 s.n), (8, .bool s.l), (9, .bool s.r), (10, .int .i64 s.b), (11, .int .i64 s.p), (4, .int .i64 tof), (5, .int .i64 0)]) HV.out.1 (show w.heap.size ≤ g + 1 + 1 by rw [← HG.out]; omega)
               simp only [setL] at h2 ho hb
               exact ⟨(ho g (by omega)).trans HV.out.2.1, (ho (g + 1) (by omega)).trans HV.out.2.2.1, h2.trans (by simp [putL]), hb, (ho p (by omega)).trans HV.out.2.2.2.2.1⟩)
            | (have h2 := setL_at (l := [(7, .int .i64 s.n), (8, .bool s.l), (9, .bool s.r), (10, .int .i64 s.b), (11, .int .i64 s.p), (5, .int .i64 0), (4, .int .i64 tof)]) HV.out.2.2.2.1
               have ho := fun k hk => setL_off (l := [(7, .int .i64 s.n), (8, .bool s.l), (9, .bool s.r), (10, .int .i64 s.b), (11, .int .i64 s.p), (5, .int .i64 0), (4, .int .i64 tof)]) (w := V) (g := g + 1 + 1) (k := k) hk
               have hb := setL_dr (l := [(7, .int .i64 s.n), (8, .bool s.l), (9, .bool s.r), (10, .int .i64 s.b), (11, .int .i64 s.p), (5, .int .i64 0), (4, .int .i64 tof)]) HV.out.1 (show w.heap.size ≤ g + 1 + 1 by rw [← HG.out]; omega)
               simp only [setL] at h2 ho hb
               exact ⟨(ho g (by omega)).trans HV.out.2.1, (ho (g + 1) (by omega)).trans HV.out.2.2.1, h2.trans (by simp [putL]), hb, (ho p (by omega)).trans HV.out.2.2.2.2.1⟩)
            | (have h2 := setL_at (l := [(5, .int .i64 0), (4, .int .i64 tof), (7, .int .i64 s.n), (8, .bool s.l), (9, .bool s.r), (10, .int .i64 s.b), (11, .int .i64 s.p)]) HV.out.2.2.2.1
               have ho := fun k hk => setL_off (l := [(5, .int .i64 0), (4, .int .i64 tof), (7, .int .i64 s.n), (8, .bool s.l), (9, .bool s.r), (10, .int .i64 s.b), (11, .int .i64 s.p)]) (w := V) (g := g + 1 + 1) (k := k) hk
               have hb := setL_dr (l := [(5, .int .i64 0), (4, .int .i64 tof), (7, .int .i64 s.n), (8, .bool s.l), (9, .bool s.r), (10, .int .i64 s.b), (11, .int .i64 s.p)]) HV.out.1 (show w.heap.size ≤ g + 1 + 1 by rw [← HG.out]; omega)
               simp only [setL] at h2 ho hb
               exact ⟨(ho g (by omega)).trans HV.out.2.1, (ho (g + 1) (by omega)).trans HV.out.2.2.1, h2.trans (by simp [putL]), hb, (ho p (by omega)).trans HV.out.2.2.2.2.1⟩)
            | (have h2 := setL_at (l := [(5, .int .i64 0), (7, .int .i64 s.n), (8, .bool s.l), (9, .bool s.r), (10, .int .i64 s.b), (11, .int .i64 s.p), (4, .int .i64 tof)]) HV.out.2.2.2.1
               have ho := fun k hk => setL_off (l := [(5, .int .i64 0), (7, .int .i64 s.n), (8, .bool s.l), (9, .bool s.r), (10, .int .i64 s.b), (11, .int .i64 s.p), (4, .int .i64 tof)]) (w := V) (g := g + 1 + 1) (k := k) hk
               have hb := setL_dr (l := [(5, .int .i64 0), (7, .int .i64 s.n), (8, .bool s.l), (9, .bool s.r), (10, .int .i64 s.b), (11, .int .i64 s.p), (4, .int .i64 tof)]) HV.out.1 (show w.heap.size ≤ g + 1 + 1 by rw [← HG.out]; omega)
               simp only [setL] at h2 ho hb
               exact ⟨(ho g (by omega)).trans HV.out.2.1, (ho (g + 1) (by omega)).trans HV.out.2.2.1, h2.trans (by simp [putL]), hb, (ho p (by omega)).trans HV.out.2.2.2.2.1⟩)
      case rest =>
        clear c0 c1 c2 c3 c4 c5 c6 c7 c8 c9 c10 c11 f0 f1 f2 f3 f4 f5 f6 f7 e0 e1 e2 e3 e4 e5 e6 e7 e8 e9 e10 e11 q0 q1 q2 q3 q4 q5 q6 q7 q8 q9 q10 q11 r0 r1 r2 r3 r4 r5 r6 r7 r8 r9 r10 r11
        obtain ⟨b0, b1, b2, hBc, hpc⟩ := hcut
        obtain ⟨c0, c1, c2, c3, c4, c5, c6, c7, c8, c9, c10, c11⟩ := blkD b0
        obtain ⟨e0, e1, e2, e3, e4, e5, e6, e7, e8, e9, e10, e11⟩ := blkD b2
        obtain ⟨r0, r1, r2, r3, r4, r5, r6, r7, r8, r9, r10, r11⟩ := blkD (d := ⟨0, 0, 0, 0, 0, 0, 0, ⟨0, false, false, 0, 0⟩⟩) b1
        obtain ⟨q0, q1, q2, q3, q4, q5, q6, q7, q8, q9, q10, q11⟩ := And.intro (frz b1 0) (And.intro (frz b1 1) (And.intro (frz b1 2) (And.intro (frz b1 3) (And.intro (frz b1 4) (And.intro (frz b1 5) (And.intro (frz b1 6) (And.intro (frz b1 7) (And.intro (frz b1 8) (And.intro (frz b1 9) (And.intro (frz b1 10) (frz b1 11)))))))))))
        obtain ⟨fo, hfo⟩ : ∃ fo, fo = ownB b.ks.length tof := ⟨_, rfl⟩
        have hif := isFlock_any p b.t b.A b.l.length b.c b.Ak b.ks.length b.ck b.vh b.vd deed owner now tof wc hpc (Nat.le_trans HV.out.2.2.2.2.2.kc HV.out.2.2.2.2.2.km)
        rw [← hfo] at hif
        have HFO := Lib.hid hfo.symm
        have HC := Lib.hid (And.intro b1 (And.intro b2 (And.intro hBc (And.intro hpc b0))))
        clear hfo b0 b1 b2 hBc hpc
        cases fo with
        | false =>
          have HFE := Lib.hid (show fldE b.l.length b.ks.length ⟨5, flock, ow, other, tof, many, err, s⟩ = 3 by rw [HFL.out, HFO.out]; rfl)
          go_wp2_with (go_at_call 91; refine hif.mono ?_; rintro e w' ⟨rfl, rfl⟩)
          go_region
          all_goals
            go_wp2
            have hz := l12_dr (d := ⟨5, flock, 0, 0, tof, 0, 0, s⟩) (e := ⟨0, 0, 0, 0, 0, 0, 0, ⟨0, false, false, 0, 0⟩⟩) HC.out.1
            have hbz := setL_dr (l := l12 ⟨5, flock, 0, 0, tof, 0, 0, s⟩) HC.out.2.2.1 (show w.heap.size ≤ g + 1 by rw [← HG.out]; omega)
            simp only [setL, l12] at hz hbz
            generalize World.drew _ = Z at hz hbz ⊢
            have HZ := Lib.hid hbz
            obtain ⟨z0, z1, z2, z3, z4, z5, z6, z7, z8, z9, z10, z11⟩ := blkD hz
            clear hbz hz
            exact bodyPost_ret (v := .tuple #[.int .i64 3, dv ⟨5, flock, 0, 0, tof, 0, 0, s⟩]) (by simp [results, Try.f92, go_sem, z0, z1, z2, z3, z4, z5, z6, z7, z8, z9, z10, z11, dv]) rfl ⟨⟨⟨5, flock, 0, 0, tof, 0, 0, s⟩, by rw [HFE.out]; rfl, fun h => by rw [HFE.out] at h; cases h⟩, HZ.out⟩
        | true =>
          by_cases htf : tof = flock
          · have x0 : (tof == flock) = true := beq_iff_eq.2 htf
            have HFE := Lib.hid (show fldE b.l.length b.ks.length ⟨5, flock, ow, other, tof, many, err, s⟩ = 4 by rw [HFL.out, HFO.out, if_neg (by simp), if_pos htf])
            clear htf
            go_wp2_with (go_at_call 91; refine hif.mono ?_; rintro e w' ⟨rfl, rfl⟩)
            go_region
            all_goals
              go_wp2
              have hz := l12_dr (d := ⟨5, flock, 0, 0, tof, 0, 0, s⟩) (e := ⟨0, 0, 0, 0, 0, 0, 0, ⟨0, false, false, 0, 0⟩⟩) HC.out.1
              have hbz := setL_dr (l := l12 ⟨5, flock, 0, 0, tof, 0, 0, s⟩) HC.out.2.2.1 (show w.heap.size ≤ g + 1 by rw [← HG.out]; omega)
              simp only [setL, l12] at hz hbz
              generalize World.drew _ = Z at hz hbz ⊢
              have HZ := Lib.hid hbz
              obtain ⟨z0, z1, z2, z3, z4, z5, z6, z7, z8, z9, z10, z11⟩ := blkD hz
              clear hbz hz
              exact bodyPost_ret (v := .tuple #[.int .i64 4, dv ⟨5, flock, 0, 0, tof, 0, 0, s⟩]) (by simp [results, Try.f92, go_sem, z0, z1, z2, z3, z4, z5, z6, z7, z8, z9, z10, z11, dv]) rfl ⟨⟨⟨5, flock, 0, 0, tof, 0, 0, s⟩, by rw [HFE.out]; rfl, fun h => by rw [HFE.out] at h; cases h⟩, HZ.out⟩
          · have x0 : (tof == flock) = false := beq_eq_false_iff_ne.2 htf
            have HFE := Lib.hid (show fldE b.l.length b.ks.length ⟨5, flock, ow, other, tof, many, err, s⟩ = seen s 9 6 by rw [HFL.out, HFO.out, if_neg (by simp), if_neg htf])
            clear htf
            go_upto_region 23 with (go_at_call 91; refine hif.mono ?_; rintro e w' ⟨rfl, rfl⟩)
            obtain ⟨p0, p1, p2, p3, p4, p5, p6, p7⟩ := blkB HC.out.2.2.2.1
            clear hif x0
            refine wp_region_quiet_call (C := fun w' => ∃ n, w' = wc.drewN n) 7 (by kernel_rfl) (by kernel_rfl) ⟨1, rfl⟩ ?_
            simp only [List.take_succ_cons, List.take_zero, List.drop_succ_cons, List.drop_zero]
            repeat (quiet_step (fail))
            refine wpQuiet_nil ?_
            intro _ hw'
            obtain ⟨nq, hw''⟩ := hw'
            subst hw''
            intro Q2 hQ2
            go_wp2_with fail
            refine (May_any b.t b.A b.l.length b.c b.l s (wc.drewN nq) ((HCK.out.2.m.below HC.out.2.2.1 (Nat.le_refl _)).drewN nq) HCK.out.2.mc HCK.out.2.mm).mono ?_
            rintro e w1 ⟨v, rfl, hown, hb1⟩
            replace hb1 : Below wc.heap.size wc w1 := below_dr' hb1
            have hme : mayE b.t b.l s = seen s 9 6 := by unfold mayE; rw [if_neg (by rw [HCK.out.1]; simp)]
            rw [hme]
            have d1 := bheap HC.out.1 hb1 (Nat.le_refl _)
            have d2 := bheap HC.out.2.1 hb1 (Nat.le_refl _)
            have hb2 := HC.out.2.2.1.trans (hb1.mono HC.out.2.2.1.size)
            have HD := Lib.hid (And.intro d1 hb2)
            clear hown hb1 hme hb2 p0 p1 p2 p3 p4 p5 p6 p7 e0 e1 e2 e3 e4 e5 e6 e7 e8 e9 e10 e11 r0 r1 r2 r3 r4 r5 r6 r7 r8 r9 r10 r11 q0 q1 q2 q3 q4 q5 q6 q7 q8 q9 q10 q11
            obtain ⟨e0, e1, e2, e3, e4, e5, e6, e7, e8, e9, e10, e11⟩ := blkD d2
            obtain ⟨r0, r1, r2, r3, r4, r5, r6, r7, r8, r9, r10, r11⟩ := blkD (d := ⟨0, 0, 0, 0, 0, 0, 0, ⟨0, false, false, 0, 0⟩⟩) d1
            obtain ⟨q0, q1, q2, q3, q4, q5, q6, q7, q8, q9, q10, q11⟩ := And.intro (frz d1 0) (And.intro (frz d1 1) (And.intro (frz d1 2) (And.intro (frz d1 3) (And.intro (frz d1 4) (And.intro (frz d1 5) (And.intro (frz d1 6) (And.intro (frz d1 7) (And.intro (frz d1 8) (And.intro (frz d1 9) (And.intro (frz d1 10) (frz d1 11)))))))))))
            clear d1 d2
            go_wp2
            repeat (quiet_step (fail))
            refine wpQuiet_nil ?_
            go_wp2_with fail
            go_region
            all_goals
              go_wp2
              have hz := l12_dr (d := ⟨5, flock, 0, 0, tof, 0, 0, s⟩) (e := ⟨0, 0, 0, 0, 0, 0, 0, ⟨0, false, false, 0, 0⟩⟩) HD.out.1
              have hbz := setL_dr (l := l12 ⟨5, flock, 0, 0, tof, 0, 0, s⟩) HD.out.2 (show w.heap.size ≤ g + 1 by rw [← HG.out]; omega)
              simp only [setL, l12] at hz hbz
              generalize World.drew _ = Z at hz hbz ⊢
              have HZ := Lib.hid hbz
              obtain ⟨z0, z1, z2, z3, z4, z5, z6, z7, z8, z9, z10, z11⟩ := blkD hz
              clear hbz hz
              exact bodyPost_ret (v := .tuple #[.int .i64 (seen s 9 6), dv ⟨5, flock, 0, 0, tof, 0, 0, s⟩]) (by simp [results, Try.f92, go_sem, z0, z1, z2, z3, z4, z5, z6, z7, z8, z9, z10, z11, dv]) rfl ⟨⟨⟨5, flock, 0, 0, tof, 0, 0, s⟩, by rw [HFE.out]; rfl, fun _ => by unfold namD; simp⟩, HZ.out⟩
    · have hfl : fldE b.l.length b.ks.length ⟨6, flock, ow, other, tof, many, err, s⟩ = if btw many 0 300 = false ∨ btw err 0 20 = false then 1 else 0 := by unfold fldE; simp
      have HFL := Lib.hid hfl
      clear hfl
      go_upto_region 26 with (fail)
      obtain ⟨U, hU⟩ : ∃ U, U = (V.setCell ⟨g + 1 + 1, 6, none⟩ (Value.int .i64 err)) := ⟨_, rfl⟩
      have u2 : U.heap[g + 1 + 1]? = some (dObj ⟨6, flock, 0, 0, 0, 0, err, ⟨0, false, false, 0, 0⟩⟩) := by rw [hU]; exact (set_blk HV.out.2.2.2.1).trans (by simp)
      have hoffU : ∀ k, k ≠ g + 1 + 1 → U.heap[k]? = V.heap[k]? := fun k hk => by rw [hU]; exact Below.heap_setCell _ ⟨g + 1 + 1, 6, none⟩ _ _ hk
      have u1 := (hoffU (g + 1) (by omega)).trans HV.out.2.2.1
      have u0 := (hoffU g (by omega)).trans HV.out.2.1
      have hBU : Below w.heap.size w U := by rw [hU]; exact Below.setCell HV.out.1 (p := ⟨g + 1 + 1, 6, none⟩) (by rw [← HG.out]; dsimp; omega) _
      obtain ⟨-, -, -, -, -, -, v6, -⟩ := blkD u0
      have HU := Lib.hid (And.intro u0 (And.intro u1 (And.intro u2 hBU)))
      obtain ⟨bb, hbb⟩ : ∃ bb, bb = btw err 0 20 := ⟨_, rfl⟩
      have hbt := betweenH_any err 0 20 U
      rw [← hbb] at hbt
      have HBB := Lib.hid hbb
      rw [← hU]
      clear hU u2 hoffU u1 u0 hBU hbb c0 c1 c2 c3 c4 c5 c6 c7 c8 c9 c10 c11 f0 f1 f2 f3 f4 f5 f6 f7 e0 e1 e2 e3 e4 e5 e6 e7 e8 e9 e10 e11 q0 q1 q2 q3 q4 q5 q6 q7 q8 q9 q10 q11 r0 r1 r2 r3 r4 r5 r6 r7 r8 r9 r10 r11
      cases bb
      all_goals
        go_wp2_with (go_at_call 90; refine hbt.mono ?_; rintro e w' ⟨rfl, rfl⟩)
        go_meet
        refine ⟨_, ⟨6, flock, 0, 0, 0, 0, err, ⟨0, false, false, 0, 0⟩⟩, rfl, rfl, rfl, HU.out.1, HU.out.2.1, HU.out.2.2.1, HU.out.2.2.2, ?_, by unfold namD; simp⟩
        rw [HFL.out, ← HBB.out]
        have e1 : loK 6 = 0 := rfl
        have e2 : hiK 6 = 300 := rfl
        dsimp only
        rw [e1, e2]
        cases btw many 0 300 <;> simp
  case rest =>
    obtain ⟨ee, x, rfl, rfl, rfl, b0, b1, b2, hBw, hck⟩ := hcut
    have HC := Lib.hid (And.intro b1 (And.intro b2 (And.intro hBw hck)))
    obtain ⟨-, -, -, -, -, c5, -⟩ := blkD b0
    obtain ⟨-, -, -, -, -, x5, -⟩ := blkD b2
    have f5 := frz b2 5
    have hg1 := heap_lt b1
    have hg2 := heap_lt b2
    have HB0 := Lib.hid b0
    clear b0 b1 b2 hBw hck
    go_upto_region 30 with (fail)
    obtain ⟨Y, hY⟩ : ∃ Y, Y = wc.setCell ⟨g + 1 + 1, 5, none⟩ (Value.int .i64 many) := ⟨_, rfl⟩
    have y2 : Y.heap[g + 1 + 1]? = some (dObj { x with many := many }) := by rw [hY]; exact (set_blk HC.out.2.1).trans (by simp)
    have y1 : Y.heap[g + 1]? = some dZ := by rw [hY]; exact (Below.heap_setCell _ ⟨g + 1 + 1, 5, none⟩ _ _ (show g + 1 ≠ g + 1 + 1 by omega)).trans HC.out.1
    have y0 : Y.heap[g]? = some (dObj ⟨kind, flock, ow, other, tof, many, err, s⟩) := by rw [hY]; exact (Below.heap_setCell _ ⟨g + 1 + 1, 5, none⟩ _ _ (show g ≠ g + 1 + 1 by omega)).trans HB0.out
    have hBY : Below w.heap.size w Y := by rw [hY]; exact Below.setCell HC.out.2.2.1 (p := ⟨g + 1 + 1, 5, none⟩) (by rw [← HG.out]; dsimp; omega) _
    obtain ⟨-, -, -, -, -, q5, -⟩ := blkD y0
    rw [← hY]
    clear hY c5 x5 f5 hg1 hg2
    obtain ⟨x0, hx0⟩ : ∃ x0, x0 = { x with many := many } := ⟨_, rfl⟩
    rw [← hx0] at y2
    obtain ⟨e0, e1, e2, e3, e4, e5, e6, e7, e8, e9, e10, e11⟩ := blkD y2
    obtain ⟨r0, r1, r2, r3, r4, r5, r6, r7, r8, r9, r10, r11⟩ := blkD (d := ⟨0, 0, 0, 0, 0, 0, 0, ⟨0, false, false, 0, 0⟩⟩) y1
    obtain ⟨fr0, fr1, fr2, fr3, fr4, fr5, fr6, fr7, fr8, fr9, fr10, fr11⟩ := And.intro (frz y1 0) (And.intro (frz y1 1) (And.intro (frz y1 2) (And.intro (frz y1 3) (And.intro (frz y1 4) (And.intro (frz y1 5) (And.intro (frz y1 6) (And.intro (frz y1 7) (And.intro (frz y1 8) (And.intro (frz y1 9) (And.intro (frz y1 10) (frz y1 11)))))))))))
    have HY := Lib.hid (And.intro hx0 (And.intro y1 hBY))
    clear hx0 y0 y1 y2 hBY
    obtain ⟨bb, hbb⟩ : ∃ bb, bb = btw many (loK kind) (hiK kind) := ⟨_, rfl⟩
    have hbt := betweenH_any many (loK kind) (hiK kind) Y
    rw [← hbb] at hbt
    have HBB := Lib.hid hbb
    clear hbb
    cases bb with
    | true =>
      have hfe : fldE b.l.length b.ks.length ⟨kind, flock, ow, other, tof, many, err, s⟩ = ee := by rw [HC.out.2.2.2.1]; dsimp only; rw [← HBB.out]; simp
      have HFE := Lib.hid hfe
      clear hfe
      go_wp2_with (go_at_call 90; refine hbt.mono ?_; rintro e w' ⟨rfl, rfl⟩)
      go_region
      all_goals
        go_wp2
        have hz := l12_dr (d := x0) (e := ⟨0, 0, 0, 0, 0, 0, 0, ⟨0, false, false, 0, 0⟩⟩) HY.out.2.1
        have hbz := setL_dr (l := l12 x0) HY.out.2.2 (show w.heap.size ≤ g + 1 by rw [← HG.out]; omega)
        simp only [setL, l12] at hz hbz
        generalize World.drew _ = Z at hz hbz ⊢
        have HZ := Lib.hid hbz
        obtain ⟨z0, z1, z2, z3, z4, z5, z6, z7, z8, z9, z10, z11⟩ := blkD hz
        clear hbz hz
        exact bodyPost_ret (v := .tuple #[.int .i64 ee, dv x0]) (by simp [results, Try.f92, go_sem, z0, z1, z2, z3, z4, z5, z6, z7, z8, z9, z10, z11, dv]) rfl ⟨⟨x0, by rw [HFE.out]; rfl, fun _ => HY.out.1.trans HC.out.2.2.2.2⟩, HZ.out⟩
    | false =>
      have hfe : fldE b.l.length b.ks.length ⟨kind, flock, ow, other, tof, many, err, s⟩ = 1 := by rw [HC.out.2.2.2.1]; dsimp only; rw [← HBB.out]; simp
      have HFE := Lib.hid hfe
      clear hfe
      go_wp2_with (go_at_call 90; refine hbt.mono ?_; rintro e w' ⟨rfl, rfl⟩)
      go_region
      all_goals
        go_wp2
        have hz := l12_dr (d := x0) (e := ⟨0, 0, 0, 0, 0, 0, 0, ⟨0, false, false, 0, 0⟩⟩) HY.out.2.1
        have hbz := setL_dr (l := l12 x0) HY.out.2.2 (show w.heap.size ≤ g + 1 by rw [← HG.out]; omega)
        simp only [setL, l12] at hz hbz
        generalize World.drew _ = Z at hz hbz ⊢
        have HZ := Lib.hid hbz
        obtain ⟨z0, z1, z2, z3, z4, z5, z6, z7, z8, z9, z10, z11⟩ := blkD hz
        clear hbz hz
        exact bodyPost_ret (v := .tuple #[.int .i64 1, dv x0]) (by simp [results, Try.f92, go_sem, z0, z1, z2, z3, z4, z5, z6, z7, z8, z9, z10, z11, dv]) rfl ⟨⟨x0, by rw [HFE.out]; rfl, fun h => by rw [HFE.out] at h; cases h⟩, HZ.out⟩
end Go.Proofs.Ytgnjknihgjdedaa
