/- MarkKnown: the walk. -/
import Derived.Test.YtoidaigiejilcaaKnown
import Derived.Test.YtoidaigiejilcaaKnownW
namespace Go.Proofs.Ytoidaigiejilcaa
open Go.RowKit
set_option linter.unusedVariables false
set_option linter.unusedSimpArgs false

def regCells : Array Value := #[Value.int .i64 1, Value.int .i64 0, Value.int .i64 0, Value.int .i64 3, Value.int .i64 0, Value.int .i64 1, Value.int .i64 16, Value.int .i64 3, Value.int .i64 0]

def kO1 (A1 : Nat) : Obj := Obj.cells #[Value.int .i64 3, .slice (some ⟨A1, 0, none⟩) 3 3] 25 (0, 0)
def kO2 (A3 : Nat) : Obj := Obj.cells #[Value.int .i64 1, .slice (some ⟨A3, 0, none⟩) 2 3] 25 (0, 0)
def kO3 : Obj := .cells #[Value.int .i64 1, Value.int .i64 0, Value.int .i64 0, Value.int .i64 1, Value.int .i64 0, Value.int .i64 0, Value.int .i64 16, Value.int .i64 3, Value.int .i64 0] 46 (0, 0)
/-- three blocks: each as it was, or as it is to be -/
structure T3 (s r A : Nat) (o1 o2 o3 : Obj) (n : Nat) (w w' : World) : Prop where
  os : w'.os = w.os
  tape : w'.tape = w.tape
  output : w'.output = w.output
  size : w'.heap.size = w.heap.size
  block : ∀ k, k ≠ s → k ≠ r → k ≠ A → w'.heap[k]? = w.heap[k]?
  c1 : w'.heap[s]? = w.heap[s]? ∨ w'.heap[s]? = some o1
  c2 : w'.heap[r]? = w.heap[r]? ∨ w'.heap[r]? = some o2
  c3 : w'.heap[A]? = w.heap[A]? ∨ w'.heap[A]? = some o3
section
variable {s r A : Nat} {o1 o2 o3 : Obj}
theorem T3.rf (w : World) : T3 s r A o1 o2 o3 1 w w := ⟨rfl, rfl, rfl, rfl, fun _ _ _ _ => rfl, .inl rfl, .inl rfl, .inl rfl⟩
theorem T3.or {n : Nat} {x y z : Option Obj} {o : Obj} (h : y = x ∨ y = some o) (k : z = y ∨ z = some o) : z = x ∨ z = some o := by
  rcases k with k | k
  · rw [k]; exact h
  · exact .inr k
theorem T3.tr : ∀ n a b c, T3 s r A o1 o2 o3 n a b → T3 s r A o1 o2 o3 1 b c → T3 s r A o1 o2 o3 (n + 1) a c := fun n a b c h k =>
  ⟨k.os.trans h.os, k.tape.trans h.tape, k.output.trans h.output, k.size.trans h.size, fun i h1 h2 h3 => (k.block i h1 h2 h3).trans (h.block i h1 h2 h3), T3.or (n := n) h.c1 k.c1, T3.or (n := n) h.c2 k.c2, T3.or (n := n) h.c3 k.c3⟩
theorem T3.draw (w : World) : T3 s r A o1 o2 o3 0 w { w with drawn := w.drawn + 1 } := ⟨rfl, rfl, rfl, rfl, fun _ _ _ _ => rfl, .inl rfl, .inl rfl, .inl rfl⟩
theorem T3.below {n B : Nat} {w w' : World} (h : T3 s r A o1 o2 o3 n w w') (h1 : B ≤ s) (h2 : B ≤ r) (h3 : B ≤ A) : Below B w w' :=
  ⟨h.os, h.tape, h.output, Nat.le_of_eq h.size.symm, fun k hk => h.block k (by omega) (by omega) (by omega)⟩
def Is (b : Nat) (o : Obj) : VF := fun _ w => w.heap[b]? = some o
theorem T3.st1 : ∀ n v w w', T3 s r A o1 o2 o3 n w w' → Is s o1 v w → Is s o1 v w' := fun n v w w' h k => by
  rcases h.c1 with h | h
  · exact h.trans k
  · exact h
theorem T3.st2 : ∀ n v w w', T3 s r A o1 o2 o3 n w w' → Is r o2 v w → Is r o2 v w' := fun n v w w' h k => by
  rcases h.c2 with h | h
  · exact h.trans k
  · exact h
theorem T3.st3 : ∀ n v w w', T3 s r A o1 o2 o3 n w w' → Is A o3 v w → Is A o3 v w' := fun n v w w' h k => by
  rcases h.c3 with h | h
  · exact h.trans k
  · exact h
theorem put_heap {w : World} {b i : Nat} {t : TypeId} {cs : Array Value} {v : Value} (h : w.heap[b]? = some (.cells cs t (0, 0))) : (w.setCell ⟨b, i, none⟩ v).heap[b]? = some (.cells (cs.setIfInBounds i v) t (0, 0)) := set_blk h
theorem T3.put1 {w : World} {u v : Value} {i : Nat} {t : TypeId} {cs : Array Value} (h : w.heap[s]? = some (.cells cs t (0, 0))) (e : Obj.cells (cs.setIfInBounds i v) t (0, 0) = o1) (h1 : r ≠ s) (h2 : A ≠ s) :
    T3 s r A o1 o2 o3 1 w (w.setCell ⟨s, i, none⟩ v) ∧ Is s o1 u (w.setCell ⟨s, i, none⟩ v) := by
  have hs : (w.setCell ⟨s, i, none⟩ v).heap[s]? = some o1 := by rw [set_blk h, e]
  have hk : ∀ k, k ≠ s → (w.setCell ⟨s, i, none⟩ v).heap[k]? = w.heap[k]? := fun k hk => Below.heap_setCell _ _ _ _ hk
  exact ⟨⟨rfl, rfl, rfl, by simp [World.setCell], fun k h1 _ _ => hk k h1, .inr hs, .inl (hk r h1), .inl (hk A h2)⟩, hs⟩
theorem T3.put2 {w : World} {u v : Value} {i : Nat} {t : TypeId} {cs : Array Value} (h : w.heap[r]? = some (.cells cs t (0, 0))) (e : Obj.cells (cs.setIfInBounds i v) t (0, 0) = o2) (h1 : s ≠ r) (h2 : A ≠ r) :
    T3 s r A o1 o2 o3 1 w (w.setCell ⟨r, i, none⟩ v) ∧ Is r o2 u (w.setCell ⟨r, i, none⟩ v) := by
  have hs : (w.setCell ⟨r, i, none⟩ v).heap[r]? = some o2 := by rw [set_blk h, e]
  have hk : ∀ k, k ≠ r → (w.setCell ⟨r, i, none⟩ v).heap[k]? = w.heap[k]? := fun k hk => Below.heap_setCell _ _ _ _ hk
  exact ⟨⟨rfl, rfl, rfl, by simp [World.setCell], fun k _ h1 _ => hk k h1, .inl (hk s h1), .inr hs, .inl (hk A h2)⟩, hs⟩
theorem T3.put3 {w : World} {u v v' v'' : Value} {i j l : Nat} {t : TypeId} {cs : Array Value} (h : w.heap[A]? = some (.cells cs t (0, 0))) (e : Obj.cells (((cs.setIfInBounds i v).setIfInBounds j v').setIfInBounds l v'') t (0, 0) = o3) (h1 : s ≠ A) (h2 : r ≠ A) :
    T3 s r A o1 o2 o3 1 w (((w.setCell ⟨A, i, none⟩ v).setCell ⟨A, j, none⟩ v').setCell ⟨A, l, none⟩ v'') ∧ Is A o3 u (((w.setCell ⟨A, i, none⟩ v).setCell ⟨A, j, none⟩ v').setCell ⟨A, l, none⟩ v'') := by
  have hs : (((w.setCell ⟨A, i, none⟩ v).setCell ⟨A, j, none⟩ v').setCell ⟨A, l, none⟩ v'').heap[A]? = some o3 := by rw [set_blk (set_blk (set_blk h)), e]
  have hk : ∀ k, k ≠ A → (((w.setCell ⟨A, i, none⟩ v).setCell ⟨A, j, none⟩ v').setCell ⟨A, l, none⟩ v'').heap[k]? = w.heap[k]? := fun k hk => ((Below.heap_setCell _ _ _ _ hk).trans (Below.heap_setCell _ _ _ _ hk)).trans (Below.heap_setCell _ _ _ _ hk)
  exact ⟨⟨rfl, rfl, rfl, by simp [World.setCell], fun k _ _ h1 => hk k h1, .inl (hk s h1), .inl (hk r h2), .inr hs⟩, hs⟩
end
def KsF (A : Nat) : VF := fun v _ => v = .slice (some ⟨A, 0, none⟩) 3 3 ∨ v = .slice (some ⟨A, 0, none⟩) 2 3
theorem KsF.st {s r A A3 : Nat} {o1 o2 o3 : Obj} : ∀ n v w w', T3 s r A o1 o2 o3 n w w' → KsF A3 v w → KsF A3 v w' := fun _ _ _ _ _ h => h

theorem kn_verd {A : Option Addr} {c : Nat} (x : Sg) (o v : Int) (hv : verV 1 exR x o = v ∧ verE 1 exR x o = 0) (w : World) (hl : Marks w A 3 exR) (hlc : 3 ≤ c) (hcm : c ≤ maxLen) :
    Calls Try.prog 26 #[.agg #[.int .i64 1, .slice A 3 c], .agg #[.int .i64 x.n, .bool x.l, .bool x.r, .int .i64 x.b, .int .i64 x.p], .int .i64 o] w fun e w' => e = .returned (.tuple #[.int .i64 v, .int .i64 0]) ∧ Below w.heap.size w w' := by
  have h := Verdict_any 1 A 3 c exR x o w hl hlc hcm
  rw [hv.1, hv.2] at h
  exact h
theorem kn_apar {A : Option Addr} {c : Nat} (k : Nat) (h1 : 1 ≤ k) (h2 : k < 3) (w : World) (hl : Marks w A 3 exR) (hlc : 3 ≤ c) (hcm : c ≤ maxLen) :
    Calls Try.prog 48 #[.agg #[.int .i64 1, .slice A 3 c], .int .i64 0, .int .i64 k] w fun e w' => e = .returned (.tuple #[.int .i64 1, .int .i64 0]) ∧ Below w.heap.size w w' := by
  have h := Apart_any 1 A 3 c exR 0 k w hl hlc hcm
  obtain rfl | rfl : k = 1 ∨ k = 2 := by omega
  · rw [show apartV 1 exR 0 ((1 : Nat) : Int) = 1 from kn_apart.1, show apartE 1 exR 0 ((1 : Nat) : Int) = 0 from kn_apart.2.1] at h
    exact h
  · rw [show apartV 1 exR 0 ((2 : Nat) : Int) = 1 from kn_apart.2.2.1, show apartE 1 exR 0 ((2 : Nat) : Int) = 0 from kn_apart.2.2.2] at h
    exact h
theorem kn_mista {A : Option Addr} {c : Nat} (k : Nat) (hk : mistE 1 exR k = 0) (w : World) (hl : Marks w A 3 exR) (hlc : 3 ≤ c) (hcm : c ≤ maxLen) :
    Calls Try.prog 49 #[.agg #[.int .i64 1, .slice A 3 c], .int .i64 k] w fun e w' => (∃ F n cf, e = .returned (.tuple #[.slice F n cf, .int .i64 0]) ∧ Grid w' F n (mistR 1 exR k) ∧ n ≤ maxLen) ∧ Below w.heap.size w w' := by
  have h := Mistaken_any 1 A 3 c exR k w hl hlc hcm
  rw [hk] at h
  exact h.mono fun _ _ ⟨v, he, ho, hb⟩ => by
    obtain ⟨F, cf, rfl, hs, h1, h2⟩ := ho.form
    exact ⟨⟨F, _, cf, he, hs, Nat.le_trans h1 h2⟩, hb⟩
def knS : List Sg := [⟨3, false, false, 0, -1⟩, ⟨3, false, false, 0, 1⟩, ⟨3, false, false, 0, 1⟩]
def knO : List Int := [0, 1, 0]
def knV : List Int := [3, 1, 2]

theorem Grid.allocH {w : World} {A : Option Addr} {n : Nat} {l : List (List Int)} (h : Grid w A n l) (o : Obj) : Grid (w.alloc o) A n l := h.below (bal0 w o) (Nat.le_refl _)
theorem kn_text : wrS 1 [⟨1, 0, 0⟩, ⟨3, 0, 1⟩] = ⟨#[116, 101, 97, 114, 115, 32, 49, 10, 120, 46, 46, 46, 47, 46, 46, 46, 46, 32, 98, 48, 32, 112, 48, 10, 120, 120, 46, 46, 47, 46, 46, 46, 46, 32, 98, 48, 32, 112, 49, 10, 109, 97, 114, 107, 115, 32, 101, 110, 100, 10]⟩ := by decide +kernel
theorem kn_write_b (A3 : Nat) (w : World) (hl : Marks w (some ⟨A3, 0, none⟩) 2 [⟨1, 0, 0⟩, ⟨3, 0, 1⟩]) :
    Calls Try.prog 53 #[.agg #[.int .i64 1, .slice (some ⟨A3, 0, none⟩) 2 3]] w fun e w' => e = .returned (.tuple #[.string ⟨#[116, 101, 97, 114, 115, 32, 49, 10, 120, 46, 46, 46, 47, 46, 46, 46, 46, 32, 98, 48, 32, 112, 48, 10, 120, 120, 46, 46, 47, 46, 46, 46, 46, 32, 98, 48, 32, 112, 49, 10, 109, 97, 114, 107, 115, 32, 101, 110, 100, 10]⟩, .int .i64 0]) ∧ Below w.heap.size w w' := by
  have h := write_any 1 (some ⟨A3, 0, none⟩) 2 3 [⟨1, 0, 0⟩, ⟨3, 0, 1⟩] w hl (by decide) (by decide)
  rw [kn_text, show check 1 [⟨1, 0, 0⟩, ⟨3, 0, 1⟩] = 0 by decide +kernel] at h
  exact h

set_option maxRecDepth 100000 in
set_option maxHeartbeats 40000000 in
theorem MarkKnown_any (w : World) : Calls Try.prog 8 #[] w fun e w' => e = .returned (.bool true) ∧ Below w.heap.size w w' := by
  go_enter Try.func8, Try.ntmps8
  go_wp2_with fail
  refine (register_at _).mono ?_
  rintro e w1 ⟨A1, rfl, hA1, k1, hb1⟩
  go_wp2_with fail
  refine (register_at _).mono ?_
  rintro e w2 ⟨A2, rfl, hA2, k2, hb2⟩
  go_wp2_with fail
  refine (register_at _).mono ?_
  rintro e w3 ⟨A3, rfl, hA3, k3, hb3⟩
  have k1' := bheapH (bheapH k1 hb2) hb3
  have k2' := bheapH k2 hb3
  have HK := Lib.hid (And.intro k1' (And.intro k2' k3))
  have HS := Lib.hid (And.intro (heap_lt k1) (And.intro (heap_lt k2) (heap_lt k3)))
  have HB0 := Lib.hid (Bel.step (Bel.step hb1.out hb2) hb3)
  clear k1 k2 k3 k1' k2'
  go_upto_region 2 with (fail)
  obtain ⟨W, hW⟩ : ∃ W, W = ((w3.alloc (Obj.cells #[Value.int .i64 1, .slice (some ⟨A1, 0, none⟩) 3 3] 25)).alloc (Obj.cells #[Value.int .i64 1, .slice (some ⟨A2, 0, none⟩) 3 3] 25)).alloc (Obj.cells #[Value.int .i64 1, .slice (some ⟨A3, 0, none⟩) 3 3] 25) := ⟨_, rfl⟩
  have m1 : W.heap[w3.heap.size]? = some (Obj.cells #[Value.int .i64 1, .slice (some ⟨A1, 0, none⟩) 3 3] 25 (0, 0)) := by rw [hW]; exact hblk_alloc (hblk_alloc (alloc_at rfl) _) _
  have m2 : W.heap[w3.heap.size + 1]? = some (Obj.cells #[Value.int .i64 1, .slice (some ⟨A2, 0, none⟩) 3 3] 25 (0, 0)) := by rw [hW]; exact hblk_alloc (alloc_at (by simp)) _
  have m3 : W.heap[w3.heap.size + 1 + 1]? = some (Obj.cells #[Value.int .i64 1, .slice (some ⟨A3, 0, none⟩) 3 3] 25 (0, 0)) := by rw [hW]; exact alloc_at (by simp)
  have hBW := (show Below w.heap.size w W by rw [hW]; exact Bel.al (Bel.al (Bel.al HB0.out _) _) _)
  have l1 : W.heap[A1]? = some (.cells regCells 46 (0, 0)) := by rw [hW]; exact hblk_alloc (hblk_alloc (hblk_alloc HK.out.1 _) _) _
  have l2 : W.heap[A2]? = some (.cells regCells 46 (0, 0)) := by rw [hW]; exact hblk_alloc (hblk_alloc (hblk_alloc HK.out.2.1 _) _) _
  have l3 : W.heap[A3]? = some (.cells regCells 46 (0, 0)) := by rw [hW]; exact hblk_alloc (hblk_alloc (hblk_alloc HK.out.2.2 _) _) _
  rw [← hW]
  have hA12 : A1 < A2 := by have := HS.out.1; omega
  have hA23 : A2 < A3 := by have := HS.out.2.1; omega
  have hA3s : A3 < w3.heap.size := HS.out.2.2
  have hA1w : w.heap.size ≤ A1 := hA1
  clear hW HK HS HB0 hb1 hb2 hb3 hA1 hA2 hA3
  generalize w3.heap.size = s at *
  have HM := Lib.hid (And.intro m1 (And.intro m2 (And.intro m3 (And.intro l1 (And.intro l2 (And.intro l3 hBW))))))
  have HLE := Lib.hid (And.intro hA12 (And.intro hA23 (And.intro hA3s hA1w)))
  obtain ⟨x0, x1⟩ := blk2 m1
  obtain ⟨y0, y1⟩ := blk2 m2
  obtain ⟨z0, z1⟩ := blk2 m3
  have n1 : A2 ≠ s := by omega
  have n2 : A2 ≠ s + 1 := by omega
  have n3 : A2 ≠ s + 1 + 1 := by omega
  have g1 := heap_lt m1
  have g2 := heap_lt m2
  have g3 := heap_lt m3
  have g4 := heap_lt l2
  have q0 : W.cell? ⟨A2, 0, none⟩ = some (.int .i64 1) := by simp [World.cell?, l2, regCells]
  have q1 : W.cell? ⟨A2, 1, none⟩ = some (.int .i64 0) := by simp [World.cell?, l2, regCells]
  have q2 : W.cell? ⟨A2, 2, none⟩ = some (.int .i64 0) := by simp [World.cell?, l2, regCells]
  have q3 : W.cell? ⟨A2, 3, none⟩ = some (.int .i64 3) := by simp [World.cell?, l2, regCells]
  have q4 : W.cell? ⟨A2, 4, none⟩ = some (.int .i64 0) := by simp [World.cell?, l2, regCells]
  have q5 : W.cell? ⟨A2, 5, none⟩ = some (.int .i64 1) := by simp [World.cell?, l2, regCells]
  have f1 := fun i => frz m1 i
  have f2 := fun i => frz l2 i
  have f3 := fun i => frz m3 i
  clear m1 m2 m3 l1 l2 l3 hBW hA12 hA23 hA3s hA1w
  go_cut [] (fun wx => wx.heap[s]? = some (kO1 A1) ∧ wx.heap[s + 1]? = some (Obj.cells #[Value.int .i64 1, .slice (some ⟨A2, 0, none⟩) 3 3] 25 (0, 0)) ∧ wx.heap[s + 1 + 1]? = some (kO2 A3) ∧ wx.heap[A2]? = some kO3 ∧ wx.heap[A1]? = some (.cells regCells 46 (0, 0)) ∧ wx.heap[A3]? = some (.cells regCells 46 (0, 0)) ∧ Below w.heap.size w wx)
  -- FIRST
  case first =>
    as_aux_lemma =>
      have HC : Hid (∀ k' w', T3 s (s + 1 + 1) A2 (kO1 A1) (kO2 A3) kO3 k' W w' →
          w'.heap.size = W.heap.size ∧ w'.cell? ⟨s + 1, 1, none⟩ = some (.slice (some ⟨A2, 0, none⟩) 3 3) ∧ w'.cell? ⟨A2, 0, none⟩ = some (.int .i64 1) ∧ w'.cell? ⟨A2, 1, none⟩ = some (.int .i64 0) ∧ w'.cell? ⟨A2, 2, none⟩ = some (.int .i64 0)) := Lib.hid fun k' w' h => by
        have h2 : w'.heap[A2]? = some (.cells regCells 46 (0, 0)) ∨ w'.heap[A2]? = some kO3 := by
          rcases h.c3 with h | h
          · exact .inl (h.trans HM.out.2.2.2.2.1)
          · exact .inr h
        have hle := HLE.out
        refine ⟨h.size, (blk2 ((h.block (s + 1) (by omega) (by omega) (by omega)).trans HM.out.2.1)).2, ?_, ?_, ?_⟩
        all_goals
          rcases h2 with h | h
          · simp [World.cell?, h, regCells]
          · simp [World.cell?, h, kO3]
      refine wp_region_inv (T3 s (s + 1 + 1) A2 (kO1 A1) (kO2 A3) kO3) (by kernel_rfl) (by kernel_rfl) T3.tr (T3.draw _) ?_
      apply Exists.intro
      refine ⟨fun ys => ?_, fun ops K hK => ?_⟩
      · simp only [dstsOf, List.filterMap_cons, List.filterMap_nil, putAll]
        go_simp
        rfl
      repeat
        refine LexI.const T3.rf ?_
        apply Exists.intro
        refine ⟨fun n' ys w' hn' hT hd => ?_, ?_⟩
        · try simp [DepsOf, depsGo, DF.holds, Region.binds, EqF] at hd
          obtain ⟨hsz, y1, q0, q1, q2⟩ := HC.out n' w' hT
          intro Q2 hQ2
          go_wp2_with fail
          rfl
        try simp only [List.nil_append, List.cons_append]
      refine LexI.some (KsF A3) (KsF.st) (fun n' ys w' hn' hT hd => ?_) ?_
      · try simp [DepsOf, depsGo, DF.holds, Region.binds, EqF] at hd
        try simp only [hd]
        have hz : w'.cell? ⟨s + 1 + 1, 1, none⟩ = some (.slice (some ⟨A3, 0, none⟩) 3 3) ∨ w'.cell? ⟨s + 1 + 1, 1, none⟩ = some (.slice (some ⟨A3, 0, none⟩) 2 3) := by
          rcases hT.c2 with h | h
          · exact .inl (blk2 (h.trans HM.out.2.2.1)).2
          · exact .inr (blk2 h).2
        rcases hz with hz | hz
        · intro Q2 hQ2
          go_wp2_with fail
          exact ⟨T3.rf _, .inl rfl⟩
        · intro Q2 hQ2
          go_wp2_with fail
          exact ⟨T3.rf _, .inr rfl⟩
      try simp only [List.nil_append, List.cons_append]
      refine LexI.const T3.rf ?_
      refine ⟨.slice (some ⟨A3, 0, none⟩) 2 3, fun n' ys w' hn' hT hd => ?_, ?_⟩
      · try simp [DepsOf, depsGo, DF.holds, Region.binds, EqF] at hd
        try simp only [hd]
        rcases hd with hd | hd
        · simp only [hd]
          intro Q2 hQ2
          go_wp2_with fail
        · simp only [hd]
          intro Q2 hQ2
          go_wp2_with fail
      try simp only [List.nil_append, List.cons_append]
      repeat
        refine LexI.const T3.rf ?_
        apply Exists.intro
        refine ⟨fun n' ys w' hn' hT hd => ?_, ?_⟩
        · try simp [DepsOf, depsGo, DF.holds, Region.binds, EqF] at hd
          obtain ⟨hsz, y1, q0, q1, q2⟩ := HC.out n' w' hT
          intro Q2 hQ2
          go_wp2_with fail
          rfl
        try simp only [List.nil_append, List.cons_append]
      refine LexI.ref 50 (Is s (kO1 A1)) (T3.st1) rfl rfl (fun n' ys w' hn' hT hd => ?_) ?_
      · try simp [DepsOf, depsGo, DF.holds, Region.binds, EqF] at hd
        try simp only [hd]
        have hb : w'.heap[s]? = some (Obj.cells #[Value.int .i64 1, .slice (some ⟨A1, 0, none⟩) 3 3] 25 (0, 0)) ∨ w'.heap[s]? = some (kO1 A1) := by
          rcases hT.c1 with h | h
          · exact .inl (h.trans HM.out.1)
          · exact .inr h
        have HHB := Lib.hid hb
        have hl : s < w'.heap.size := by rw [hT.size]; exact g1
        have hf : w'.frozen? ⟨s, 0, none⟩ = false := by
          rcases hb with h | h
          · exact frz h 0
          · exact frz h 0
        have hc : ∃ v, w'.cell? ⟨s, 0, none⟩ = some v := by
          rcases hb with h | h
          · exact ⟨_, (blk2 h).1⟩
          · exact ⟨_, (blk2 h).1⟩
        obtain ⟨vv, hc⟩ := hc
        clear hb
        intro Q2 hQ2
        go_wp2_with fail
        rcases HHB.out with h | h
        · exact T3.put1 h rfl (by omega) n1
        · exact T3.put1 h rfl (by omega) n1
      try simp only [List.nil_append, List.cons_append]
      repeat
        refine LexI.const T3.rf ?_
        apply Exists.intro
        refine ⟨fun n' ys w' hn' hT hd => ?_, ?_⟩
        · try simp [DepsOf, depsGo, DF.holds, Region.binds, EqF] at hd
          obtain ⟨hsz, y1, q0, q1, q2⟩ := HC.out n' w' hT
          intro Q2 hQ2
          go_wp2_with fail
          rfl
        try simp only [List.nil_append, List.cons_append]
      refine LexI.ref 51 (Is A2 kO3) (T3.st3) rfl rfl (fun n' ys w' hn' hT hd => ?_) ?_
      · try simp [DepsOf, depsGo, DF.holds, Region.binds, EqF] at hd
        try simp only [hd]
        have hb : w'.heap[A2]? = some (.cells regCells 46 (0, 0)) ∨ w'.heap[A2]? = some kO3 := by
          rcases hT.c3 with h | h
          · exact .inl (h.trans HM.out.2.2.2.2.1)
          · exact .inr h
        have HHB := Lib.hid hb
        have hl : A2 < w'.heap.size := by rw [hT.size]; exact g4
        have hf : ∀ i, w'.frozen? ⟨A2, i, none⟩ = false := by
          rcases hb with h | h
          · exact frz h
          · exact frz h
        have hc : ∃ v3 v4 v5, w'.cell? ⟨A2, 3, none⟩ = some v3 ∧ w'.cell? ⟨A2, 4, none⟩ = some v4 ∧ w'.cell? ⟨A2, 5, none⟩ = some v5 := by
          rcases hb with h | h
          · exact ⟨.int .i64 3, .int .i64 0, .int .i64 1, by simp [World.cell?, h, regCells], by simp [World.cell?, h, regCells], by simp [World.cell?, h, regCells]⟩
          · exact ⟨.int .i64 1, .int .i64 0, .int .i64 0, by simp [World.cell?, h, kO3], by simp [World.cell?, h, kO3], by simp [World.cell?, h, kO3]⟩
        obtain ⟨v3, v4, v5, c3, c4, c5⟩ := hc
        clear hb
        intro Q2 hQ2
        go_wp2_with fail
        rcases HHB.out with h | h
        · exact T3.put3 h rfl (by omega) (by omega)
        · exact T3.put3 h rfl (by omega) (by omega)
      try simp only [List.nil_append, List.cons_append]
      repeat
        refine LexI.const T3.rf ?_
        apply Exists.intro
        refine ⟨fun n' ys w' hn' hT hd => ?_, ?_⟩
        · try simp [DepsOf, depsGo, DF.holds, Region.binds, EqF] at hd
          obtain ⟨hsz, y1, q0, q1, q2⟩ := HC.out n' w' hT
          intro Q2 hQ2
          go_wp2_with fail
          rfl
        try simp only [List.nil_append, List.cons_append]
      refine LexI.ref 52 (Is (s + 1 + 1) (kO2 A3)) (T3.st2) rfl rfl (fun n' ys w' hn' hT hd => ?_) ?_
      · try simp [DepsOf, depsGo, DF.holds, Region.binds, EqF] at hd
        try simp only [hd]
        have hb : w'.heap[s + 1 + 1]? = some (Obj.cells #[Value.int .i64 1, .slice (some ⟨A3, 0, none⟩) 3 3] 25 (0, 0)) ∨ w'.heap[s + 1 + 1]? = some (kO2 A3) := by
          rcases hT.c2 with h | h
          · exact .inl (h.trans HM.out.2.2.1)
          · exact .inr h
        have HHB := Lib.hid hb
        have hl : s + 1 + 1 < w'.heap.size := by rw [hT.size]; exact g3
        have hf : w'.frozen? ⟨s + 1 + 1, 1, none⟩ = false := by
          rcases hb with h | h
          · exact frz h 1
          · exact frz h 1
        have hc : ∃ v, w'.cell? ⟨s + 1 + 1, 1, none⟩ = some v := by
          rcases hb with h | h
          · exact ⟨_, (blk2 h).2⟩
          · exact ⟨_, (blk2 h).2⟩
        obtain ⟨vv, hc⟩ := hc
        clear hb
        intro Q2 hQ2
        go_wp2_with fail
        rcases HHB.out with h | h
        · exact T3.put2 h rfl (by omega) n3
        · exact T3.put2 h rfl (by omega) n3
      try simp only [List.nil_append, List.cons_append]
      refine hK _ (fun n' ys w5 hn' hT hF => ?_)
      simp only [AllF, DF.holds] at hF
      obtain ⟨-, -, -, -, -, -, -, -, -, -, hF⟩ := hF
      have hle := HLE.out
      go_wp2_with fail
      go_meet
      exact ⟨hF.1, (hT.block _ (by omega) (by omega) (by omega)).trans HM.out.2.1, hF.2.2.2.2.1, hF.2.2.1, (hT.block _ (by omega) (by omega) (by omega)).trans HM.out.2.2.2.1, (hT.block _ (by omega) (by omega) (by omega)).trans HM.out.2.2.2.2.2.1, HM.out.2.2.2.2.2.2.trans (hT.below (by omega) (by omega) (by omega))⟩
  -- TSRIF
  clear x0 x1 y0 y1 z0 z1 n1 n2 n3 g1 g2 g3 g4 q0 q1 q2 q3 q4 q5 f1 f2 f3
  case rest =>
    obtain ⟨b1, b2, b3, l2, l1, l3, hBw⟩ := hcut
    have h1 : Marks wc (some ⟨A1, 0, none⟩) 3 exR := Sl.of_blk l1 rfl lenMk
    have h2 : Marks wc (some ⟨A2, 0, none⟩) 3 [⟨1, 0, 0⟩, ⟨1, 0, 0⟩, ⟨16, 3, 0⟩] := Sl.of_blk l2 rfl lenMk
    have h3 : Marks wc (some ⟨A3, 0, none⟩) 2 [⟨1, 0, 0⟩, ⟨3, 0, 1⟩] := ⟨rfl, fun _ => ⟨A3, 0, rfl, fun i x hx j u hu => (Sl.of_blk (enc := eMk) (l := exR) l3 rfl lenMk).2 (by decide) |>.elim fun b h => h.elim fun o h => by
      obtain ⟨hA, hh⟩ := h
      cases hA
      refine hh i x ?_ j u hu
      have : i < 2 := (List.getElem?_eq_some_iff.1 hx).1
      obtain rfl | rfl : i = 0 ∨ i = 1 := by omega
      all_goals exact hx⟩⟩
    have HZ1 := Lib.hid h1
    have HZ2 := Lib.hid h2
    have HZ3 := Lib.hid h3
    have HZb1 := Lib.hid b1
    have HZb2 := Lib.hid b2
    have HZb3 := Lib.hid b3
    have HZW := Lib.hid hBw
    clear b1 b2 b3 l1 l2 l3 hBw h1 h2 h3 HM HLE
    go_wp2_with fail
    with_reducible refine (register_s _).mono ?_
    rintro e v1 ⟨B1, d1, rfl, hm1, hc1, hx1, hb1⟩
    have HB1 := Lib.hid hb1
    have HM1 := Lib.hid hm1
    clear hb1 hm1
    go_wp2_with fail
    with_reducible refine (kn_show_ex _ HM1.out hc1 hx1).mono ?_
    rintro e v2 ⟨⟨s2, rfl⟩, hb2⟩
    have HB2 := Lib.hid hb2
    clear hb2
    unfold vSg
    go_wp2_with fail
    with_reducible refine (marking_any _).mono ?_
    rintro e v3 ⟨rfl, hb3⟩
    have HB3 := Lib.hid hb3
    clear hb3
    go_wp2_with fail
    with_reducible refine (register_s _).mono ?_
    rintro e v4 ⟨B4, d4, rfl, hm4, hc4, hx4, hb4⟩
    have HB4 := Lib.hid hb4
    have HM4 := Lib.hid hm4
    clear hb4 hm4
    go_wp2_with fail
    with_reducible refine (check_any 1 B4 3 d4 exR _ HM4.out hc4 hx4).mono ?_
    rintro e v5 ⟨rfl, hb5⟩
    rw [kn_check.1]
    have HB5 := Lib.hid hb5
    clear hb5
    have hk : v5.heap[s]? = some (kO1 A1) := by
      repeat (first | (with_reducible refine Hid.out ?_; assumption) | (with_reducible refine hblk_alloc ?_ _) | (with_reducible refine bheapH ?_ (by assumption)))
    obtain ⟨x0, x1⟩ := blk2 hk
    have gk := heap_lt hk
    clear hk
    go_wp2_with fail
    with_reducible refine (check_any 3 (some ⟨A1, 0, none⟩) 3 3 exR _ ?_ (by decide) (by decide)).mono ?_
    · repeat (first | (with_reducible refine Hid.out ?_; assumption) | (with_reducible refine Sl.alloc ?_ _) | (with_reducible refine Sl.belowH ?_ (by assumption)))
    clear x0 x1 gk
    rintro e v6 ⟨rfl, hb6⟩
    rw [kn_check.2.1]
    have HB6 := Lib.hid hb6
    clear hb6
    have hk : v6.heap[s + 1]? = some (Obj.cells #[Value.int IntKind.i64 1, Value.slice (some ⟨A2, 0, none⟩) 3 3] 25 (0, 0)) := by
      repeat (first | (with_reducible refine Hid.out ?_; assumption) | (with_reducible refine hblk_alloc ?_ _) | (with_reducible refine bheapH ?_ (by assumption)))
    obtain ⟨x0, x1⟩ := blk2 hk
    have gk := heap_lt hk
    clear hk
    go_wp2_with fail
    with_reducible refine (check_any 1 (some ⟨A2, 0, none⟩) 3 3 [⟨1, 0, 0⟩, ⟨1, 0, 0⟩, ⟨16, 3, 0⟩] _ ?_ (by decide) (by decide)).mono ?_
    · repeat (first | (with_reducible refine Hid.out ?_; assumption) | (with_reducible refine Sl.alloc ?_ _) | (with_reducible refine Sl.belowH ?_ (by assumption)))
    clear x0 x1 gk
    rintro e v7 ⟨rfl, hb7⟩
    rw [kn_check.2.2.1]
    have HB7 := Lib.hid hb7
    clear hb7
    go_wp2_with fail
    with_reducible refine (register_s _).mono ?_
    rintro e v8 ⟨B8, d8, rfl, hm8, hc8, hx8, hb8⟩
    have HB8 := Lib.hid hb8
    have HM8 := Lib.hid hm8
    clear hb8 hm8
    go_wp2_with fail
    with_reducible refine (kn_may_b _ HM8.out hc8 hx8).mono ?_
    rintro e v9 ⟨⟨C9, e9, rfl, hi9⟩, hb9⟩
    have HI9 := Lib.hid hi9
    clear hi9
    have HB9 := Lib.hid hb9
    clear hb9
    go_wp2_with fail
    with_reducible refine (register_s _).mono ?_
    rintro e v10 ⟨B10, d10, rfl, hm10, hc10, hx10, hb10⟩
    have HB10 := Lib.hid hb10
    have HM10 := Lib.hid hm10
    clear hb10 hm10
    go_wp2_with fail
    with_reducible refine (kn_may_c _ HM10.out hc10 hx10).mono ?_
    rintro e v11 ⟨⟨C11, e11, rfl, hi11⟩, hb11⟩
    have HI11 := Lib.hid hi11
    clear hi11
    have HB11 := Lib.hid hb11
    clear hb11
    go_wp2_with fail
    with_reducible refine (sameInts_any C9 1 e9 [1] (some ⟨v11.heap.size, 0, none⟩) 1 1 [1] _ ?_ (ints1 _ _ _) (by decide) (by decide)).mono ?_
    · repeat (first | (with_reducible refine Hid.out ?_; assumption) | (with_reducible refine Sl.alloc ?_ _) | (with_reducible refine Sl.belowH ?_ (by assumption)))
    rintro e v12 ⟨rfl, hb12⟩
    rw [show sameL ([1] : List Int) [1] = true by decide]
    have HB12 := Lib.hid hb12
    clear hb12
    go_wp2_with fail
    with_reducible refine (half_any _).mono ?_
    rintro e v13 ⟨rfl, hb13⟩
    have HB13 := Lib.hid hb13
    clear hb13
    unfold vSg
    go_wp2_with fail
    obtain ⟨W, hW⟩ : ∃ W, W = ((v13.alloc (Obj.cells #[Value.int .i64 3, .bool false, .bool false, .int .i64 0, .int .i64 (-1), .int .i64 3, .bool false, .bool false, .int .i64 0, .int .i64 1, .int .i64 3, .bool false, .bool false, .int .i64 0, .int .i64 1] 44)).alloc (Obj.cells #[Value.int .i64 0, .int .i64 1, .int .i64 0] 3)).alloc (Obj.cells #[Value.int .i64 3, .int .i64 1, .int .i64 2] 3) := ⟨_, rfl⟩
    have hb14 : Below v13.heap.size v13 W := by rw [hW]; exact Bel.al (Bel.al (bal0 _ _) _) _
    have hss : Sights W (some ⟨v13.heap.size, 0, none⟩) 3 knS := by rw [hW]; exact ((Sl.lit (enc := eSg) v13 _ _ knS rfl lenSg (by decide)).alloc _).alloc _
    have hoo : Ints W (some ⟨v13.heap.size + 1, 0, none⟩) 3 knO := by
      rw [hW]
      have h := ints3 (v13.alloc (Obj.cells #[Value.int .i64 3, .bool false, .bool false, .int .i64 0, .int .i64 (-1), .int .i64 3, .bool false, .bool false, .int .i64 0, .int .i64 1, .int .i64 3, .bool false, .bool false, .int .i64 0, .int .i64 1] 44)) 3 0 1 0
      rw [World.size_alloc] at h
      exact h.alloc _
    have hvv : Ints W (some ⟨v13.heap.size + 1 + 1, 0, none⟩) 3 knV := by
      rw [hW]
      have h := ints3 ((v13.alloc (Obj.cells #[Value.int .i64 3, .bool false, .bool false, .int .i64 0, .int .i64 (-1), .int .i64 3, .bool false, .bool false, .int .i64 0, .int .i64 1, .int .i64 3, .bool false, .bool false, .int .i64 0, .int .i64 1] 44)).alloc (Obj.cells #[Value.int .i64 0, .int .i64 1, .int .i64 0] 3)) 3 3 1 2
      rw [World.size_alloc, World.size_alloc] at h
      exact h
    rw [← hW]
    clear hW
    have HB14 := Lib.hid hb14
    clear hb14
    obtain ⟨N, hN⟩ : ∃ N, N = v13.heap.size := ⟨_, rfl⟩
    rw [← hN] at hss hoo hvv ⊢
    have HSS := Lib.hid hss
    have HOO := Lib.hid hoo
    have HVV := Lib.hid hvv
    clear hss hoo hvv hN
    go_loopg [12] 3 (fun g i wr => ∃ k : Nat, k + g = 3 ∧ i = .int .i64 k ∧ Below W.heap.size W wr)
    case atStart => exact ⟨0, rfl, rfl, Below.refl _ _⟩
    case round =>
      obtain ⟨k, hk, rfl, hB⟩ := hrel
      have HK := Lib.hid hk
      have HBR := Lib.hid hB
      by_cases hlt : k < 3
      · have i0 : (0 : Int) ≤ (k : Int) := by omega
        have i1 : (k : Int) < 3 := by omega
        obtain ⟨bx, ox, x, hA, hbx, hx, p0, p1, p2, p3, p4⟩ := Sights.get (HSS.out.below hB (Nat.le_refl _)) hlt
        cases hA
        obtain ⟨bo, oo, o, hA, hbo, ho, y0⟩ := Ints.get (HOO.out.below hB (Nat.le_refl _)) hlt
        cases hA
        obtain ⟨bv, ov, v, hA, hbv, hv, z0⟩ := Ints.get (HVV.out.below hB (Nat.le_refl _)) hlt
        cases hA
        rw [Nat.zero_add] at p0 p1 p2 p3 p4 y0 z0
        have hve : verV 1 exR x o = v ∧ verE 1 exR x o = 0 := by
          obtain rfl | rfl | rfl : k = 0 ∨ k = 1 ∨ k = 2 := by omega
          all_goals
            cases hx
            cases ho
            cases hv
          · exact ⟨kn_ver.1, kn_ver.2.1⟩
          · exact ⟨kn_ver.2.2.1, kn_ver.2.2.2.1⟩
          · exact ⟨kn_ver.2.2.2.2.1, kn_ver.2.2.2.2.2⟩
        have HVE := Lib.hid hve
        clear hve hx ho hv hk hB
        go_upto_region 14 with (fail)
        have p0d : wr.drew.cell? ⟨N, k * 5, none⟩ = some (.int .i64 x.n) := p0
        have p1d : wr.drew.cell? ⟨N, k * 5 + 1, none⟩ = some (.bool x.l) := p1
        have p2d : wr.drew.cell? ⟨N, k * 5 + 2, none⟩ = some (.bool x.r) := p2
        have p3d : wr.drew.cell? ⟨N, k * 5 + 3, none⟩ = some (.int .i64 x.b) := p3
        have p4d : wr.drew.cell? ⟨N, k * 5 + 4, none⟩ = some (.int .i64 x.p) := p4
        have y0d : wr.drew.cell? ⟨N + 1, k, none⟩ = some (.int .i64 o) := y0
        go_region_held3 (fun w' => w'.cell? ⟨N, k * 5, none⟩ = some (.int .i64 x.n) ∧ w'.cell? ⟨N, k * 5 + 1, none⟩ = some (.bool x.l) ∧ w'.cell? ⟨N, k * 5 + 2, none⟩ = some (.bool x.r) ∧ w'.cell? ⟨N, k * 5 + 3, none⟩ = some (.int .i64 x.b) ∧ w'.cell? ⟨N, k * 5 + 4, none⟩ = some (.int .i64 x.p) ∧ w'.cell? ⟨N + 1, k, none⟩ = some (.int .i64 o))
          ((go_split_ands
            refine ⟨?_, ?_, ?_, ?_, ?_, ?_⟩
            all_goals first
              | (with_reducible exact p0d)
              | (with_reducible exact p1d)
              | (with_reducible exact p2d)
              | (with_reducible exact p3d)
              | (with_reducible exact p4d)
              | (with_reducible exact y0d)
              | (with_reducible exact r0)
              | (with_reducible exact r1)
              | (with_reducible exact r2)
              | (with_reducible exact r3)
              | (with_reducible exact r4)
              | (with_reducible exact r5)
              | fail))
          (first
            | (go_at_call 44; (with_reducible refine (register_s _).mono ?_); rintro e vr ⟨Br, dr, rfl, hmr, hcr, hxr, hbr⟩; have r0 := bcell p0d hbr (Nat.le_refl _); have r1 := bcell p1d hbr (Nat.le_refl _); have r2 := bcell p2d hbr (Nat.le_refl _); have r3 := bcell p3d hbr (Nat.le_refl _); have r4 := bcell p4d hbr (Nat.le_refl _); have r5 := bcell y0d hbr (Nat.le_refl _); have HMR := Lib.hid hmr; have HBX := Lib.hid hbr; clear hmr hbr)
            | (go_at_call 26; (with_reducible refine (kn_verd x o v HVE.out _ HMR.out hcr hxr).mono ?_); rintro e vv ⟨rfl, hbv⟩; have r0 := bcell r0 hbv (Nat.le_refl _); have r1 := bcell r1 hbv (Nat.le_refl _); have r2 := bcell r2 hbv (Nat.le_refl _); have r3 := bcell r3 hbv (Nat.le_refl _); have r4 := bcell r4 hbv (Nat.le_refl _); have r5 := bcell r5 hbv (Nat.le_refl _); have HBV := Lib.hid hbv; clear hbv)
            | fail)
        have z1 := bcell (bcell z0 (show Below wr.heap.size wr vr from ⟨HBX.out.os, HBX.out.tape, HBX.out.output, HBX.out.size, HBX.out.block⟩) (Nat.le_refl _)) HBV.out (Nat.le_refl _)
        have gv : N + 1 + 1 < vv.heap.size := cell_lt z1
        clear p0 p1 p2 p3 p4 y0 z0 p0d p1d p2d p3d p4d y0d r0 r1 r2 r3 r4 r5
        go_wp2
        go_roundg (gk - 1)
        case measure => have := HK.out; omega
        case rel => exact ⟨k + 1, by have := HK.out; omega, by go_num, Bel.step (Bel.step HBR.out (show Hid (Below wr.heap.size wr vr) from ⟨HBX.out.os, HBX.out.tape, HBX.out.output, HBX.out.size, HBX.out.block⟩)) HBV⟩
      · obtain rfl : k = 3 := by omega
        clear hk hB HK
        go_wp2_with fail
        obtain ⟨W2, rfl⟩ : ∃ x, x = wr := ⟨_, rfl⟩
        obtain ⟨g1, rfl⟩ : ∃ x, x = gk := ⟨_, rfl⟩
        have HB15 := HBR
        clear HBR
        go_loopg [15] 2 (fun g i wr => ∃ k : Nat, k + g = 3 ∧ 1 ≤ k ∧ i = .int .i64 k ∧ Below W2.heap.size W2 wr)
        case atStart => exact ⟨1, rfl, by omega, rfl, Below.refl _ _⟩
        case round =>
          obtain ⟨k, hk, hk1, rfl, hB⟩ := hrel
          have HK := Lib.hid hk
          have HBR := Lib.hid hB
          by_cases hlt : k < 3
          · have i1 : (k : Int) < 3 := by omega
            clear hk hB
            go_wp2_with fail
            with_reducible refine (register_s _).mono ?_
            rintro e vr ⟨Br, dr, rfl, hmr, hcr, hxr, hbr⟩
            have HMR := Lib.hid hmr
            have HBX := Lib.hid hbr
            clear hmr hbr
            go_wp2_with fail
            with_reducible refine (kn_apar k hk1 hlt _ HMR.out hcr hxr).mono ?_
            rintro e vv ⟨rfl, hbv⟩
            have HBV := Lib.hid hbv
            clear hbv
            go_wp2
            go_roundg (gk - 1)
            case measure => have := HK.out; omega
            case rel => exact ⟨k + 1, by have := HK.out; omega, by omega, by go_num, Bel.step (Bel.step HBR.out HBX) HBV⟩
          · obtain rfl : k = 3 := by omega
            clear hk hB HK
            go_wp2_with fail
            obtain ⟨W3, hW⟩ : ∃ W, W = pw wr := ⟨_, rfl⟩
            have hb16 : Below wr.heap.size wr W3 := by rw [hW]; exact pw_below wr
            have HPW := Lib.hid (fun k hk => (hW ▸ pw_at wr k hk : ∃ A n, W3.cell? ⟨wr.heap.size + 1 + 1 + 1 + 1 + 1 + 1 + 1 + 1 + 1 + 1, k, none⟩ = some (.slice A n n) ∧ mistE 1 exR k = 0 ∧ Grid W3 A n (mistR 1 exR k) ∧ n ≤ maxLen))
            have hW' := hW
            unfold pw rowO ptr2 at hW'
            rw [← hW']
            clear hW' hW
            have HB16 := Lib.hid hb16
            clear hb16
            obtain ⟨NP, hNP⟩ : ∃ N, N = wr.heap.size + 1 + 1 + 1 + 1 + 1 + 1 + 1 + 1 + 1 + 1 := ⟨_, rfl⟩
            rw [← hNP] at HPW ⊢
            clear hNP
            obtain ⟨W4, rfl⟩ : ∃ x, x = wr := ⟨_, rfl⟩
            obtain ⟨g2, rfl⟩ : ∃ x, x = gk := ⟨_, rfl⟩
            have HB17 := HBR
            clear HBR
            go_loopg [19] 4 (fun g i wr => ∃ k : Nat, k + g = 4 ∧ i = .int .i64 k ∧ Below W3.heap.size W3 wr)
            case atStart => exact ⟨0, rfl, rfl, Below.refl _ _⟩
            case round =>
              obtain ⟨k, hk, rfl, hB⟩ := hrel
              have HK := Lib.hid hk
              have HBR := Lib.hid hB
              by_cases hlt : k < 4
              · have i0 : (0 : Int) ≤ (k : Int) := by omega
                have i1 : (k : Int) < 4 := by omega
                obtain ⟨AP, nP, hcP, hme, hgP, hnP⟩ := HPW.out k hlt
                have HG := Lib.hid (And.intro hme (And.intro hgP hcP))
                clear hk hB hcP hgP hme
                go_wp2_with fail
                with_reducible refine (register_s _).mono ?_
                rintro e vr ⟨Br, dr, rfl, hmr, hcr, hxr, hbr⟩
                have HMR := Lib.hid hmr
                have HBX := Lib.hid hbr
                clear hmr hbr
                go_wp2_with fail
                with_reducible refine (kn_mista k HG.out.1 _ HMR.out hcr hxr).mono ?_
                rintro e vv ⟨⟨FM, nM, cM, rfl, hgM, hnM⟩, hbv⟩
                have HBV := Lib.hid hbv
                have HGM := Lib.hid hgM
                have hcv : vv.cell? ⟨NP, k, none⟩ = some (.slice AP nP nP) := bcell (bcell (bcell HG.out.2.2 HBR.out (Nat.le_refl _)) HBX.out (Nat.le_refl _)) hbv (Nat.le_refl _)
                have gv := cell_lt hcv
                clear hbv hgM
                go_wp2_with fail
                with_reducible refine (sameGrids_any FM nM cM (mistR 1 exR k) AP nP nP (mistR 1 exR k) _ HGM.out (Grid.belowH (Grid.belowH (HG.out.2.1.below HBR.out (Nat.le_refl _)) HBX) HBV) hnM hnP).mono ?_
                rintro e vz ⟨rfl, hbz⟩
                rw [show sameL (mistR 1 exR (k : Int)) (mistR 1 exR (k : Int)) = true from decide_eq_true rfl]
                have HBZ := Lib.hid hbz
                clear hbz hcv gv
                go_wp2
                go_roundg (gk - 1)
                case measure => have := HK.out; omega
                case rel => exact ⟨k + 1, by have := HK.out; omega, by go_num, Bel.step (Bel.step (Bel.step HBR.out HBX) HBV) HBZ⟩
              · obtain rfl : k = 4 := by omega
                clear hk hB HK HPW HSS HOO HVV
                obtain ⟨v20, rfl⟩ : ∃ x, x = wr := ⟨_, rfl⟩
                obtain ⟨g3, rfl⟩ : ∃ x, x = gk := ⟨_, rfl⟩
                have HB20 := HBR
                clear HBR
                go_wp2_with fail
                with_reducible refine (register_s _).mono ?_
                rintro e v21 ⟨B21, d21, rfl, hm21, hc21, hx21, hb21⟩
                have HB21 := Lib.hid hb21
                have HM21 := Lib.hid hm21
                clear hb21 hm21
                go_wp2_with fail
                with_reducible refine (kn_fresh_a _ HM21.out hc21 hx21).mono ?_
                rintro e v22 ⟨rfl, hb22⟩
                have HB22 := Lib.hid hb22
                clear hb22
                have HX22 := Lib.hid (show (v22.alloc (Obj.cells #[Value.int .i64 0, .int .i64 0, .int .i64 1] 46)).heap[v22.heap.size]? = some (Obj.cells #[Value.int .i64 0, .int .i64 0, .int .i64 1] 46 (0, 0)) from alloc_at rfl)
                go_wp2_with fail
                with_reducible refine (register_s _).mono ?_
                rintro e v23 ⟨B23, d23, rfl, hm23, hc23, hx23, hb23⟩
                have HB23 := Lib.hid hb23
                have HM23 := Lib.hid hm23
                clear hb23 hm23
                go_wp2_with fail
                with_reducible refine (kn_fresh_b _ HM23.out hc23 hx23).mono ?_
                rintro e v24 ⟨⟨m24, rfl⟩, hb24⟩
                unfold vMk
                have HB24 := Lib.hid hb24
                clear hb24
                go_wp2_with fail
                with_reducible refine (register_s _).mono ?_
                rintro e v25 ⟨B25, d25, rfl, hm25, hc25, hx25, hb25⟩
                have HB25 := Lib.hid hb25
                have HM25 := Lib.hid hm25
                clear hb25 hm25
                go_wp2_with fail
                with_reducible refine (kn_forge_a _ HM25.out hc25 hx25).mono ?_
                rintro e v26 ⟨rfl, hb26⟩
                have HB26 := Lib.hid hb26
                clear hb26
                go_wp2_with fail
                with_reducible refine (register_s _).mono ?_
                rintro e v27 ⟨B27, d27, rfl, hm27, hc27, hx27, hb27⟩
                have HB27 := Lib.hid hb27
                have HM27 := Lib.hid hm27
                clear hb27 hm27
                go_wp2_with fail
                with_reducible refine (kn_forge_b _ HM27.out hc27 hx27).mono ?_
                rintro e v28 ⟨⟨m28, rfl⟩, hb28⟩
                have HB28 := Lib.hid hb28
                clear hb28
                go_wp2_with fail
                with_reducible refine (register_s _).mono ?_
                rintro e v29 ⟨B29, d29, rfl, hm29, hc29, hx29, hb29⟩
                have HB29 := Lib.hid hb29
                have HM29 := Lib.hid hm29
                clear hb29 hm29
                go_wp2_with fail
                with_reducible refine (kn_forge_c _ HM29.out hc29 hx29).mono ?_
                rintro e v30 ⟨⟨m30, rfl⟩, hb30⟩
                have HB30 := Lib.hid hb30
                clear hb30
                go_wp2_with fail
                with_reducible refine (register_s _).mono ?_
                rintro e v31 ⟨B31, d31, rfl, hm31, hc31, hx31, hb31⟩
                have HB31 := Lib.hid hb31
                have HM31 := Lib.hid hm31
                clear hb31 hm31
                go_wp2_with fail
                with_reducible refine (kn_forge_d _ HM31.out hc31 hx31).mono ?_
                rintro e v32 ⟨rfl, hb32⟩
                have HB32 := Lib.hid hb32
                clear hb32
                go_wp2_with fail
                with_reducible refine (register_s _).mono ?_
                rintro e v33 ⟨B33, d33, rfl, hm33, hc33, hx33, hb33⟩
                have HB33 := Lib.hid hb33
                have HM33 := Lib.hid hm33
                clear hb33 hm33
                go_wp2_with fail
                with_reducible refine (kn_prey_a _ HM33.out hc33 hx33).mono ?_
                rintro e v34 ⟨⟨C34, e34, rfl, hi34⟩, hb34⟩
                have HI34 := Lib.hid hi34
                clear hi34
                have HB34 := Lib.hid hb34
                clear hb34
                go_wp2_with fail
                with_reducible refine (register_s _).mono ?_
                rintro e v35 ⟨B35, d35, rfl, hm35, hc35, hx35, hb35⟩
                have HB35 := Lib.hid hb35
                have HM35 := Lib.hid hm35
                clear hb35 hm35
                go_wp2_with fail
                with_reducible refine (kn_prey_b _ HM35.out hc35 hx35).mono ?_
                rintro e v36 ⟨⟨C36, e36, rfl, hi36⟩, hb36⟩
                have HI36 := Lib.hid hi36
                clear hi36
                have HB36 := Lib.hid hb36
                clear hb36
                have hk : v36.heap[v22.heap.size]? = some (Obj.cells #[Value.int .i64 0, .int .i64 0, .int .i64 1] 46 (0, 0)) := by
                  repeat (first | (with_reducible refine Hid.out ?_; assumption) | (with_reducible refine hblk_alloc ?_ _) | (with_reducible refine bheapH ?_ (by assumption)))
                obtain ⟨x0, x1, x2⟩ := blk3 hk
                have gk := heap_lt hk
                clear hk
                go_wp2_with fail
                with_reducible refine (sameInts_any C34 1 e34 [0] (some ⟨v36.heap.size, 0, none⟩) 1 1 [0] _ ?_ (ints1 _ _ _) (by decide) (by decide)).mono ?_
                · repeat (first | (with_reducible refine Hid.out ?_; assumption) | (with_reducible refine Sl.alloc ?_ _) | (with_reducible refine Sl.belowH ?_ (by assumption)))
                clear x0 x1 x2 gk
                rintro e v37 ⟨rfl, hb37⟩
                rw [show sameL ([0] : List Int) [0] = true by decide]
                have HB37 := Lib.hid hb37
                clear hb37
                go_wp2_with fail
                with_reducible refine (half_any _).mono ?_
                rintro e v38 ⟨rfl, hb38⟩
                have HB38 := Lib.hid hb38
                clear hb38
                unfold vSg
                go_wp2_with fail
                with_reducible refine (half_any _).mono ?_
                rintro e v39 ⟨rfl, hb39⟩
                have HB39 := Lib.hid hb39
                clear hb39
                unfold vSg
                go_wp2_with fail
                have HTW := Lib.hid (show Sights (v39.alloc (Obj.cells #[Value.int .i64 3, .bool false, .bool false, .int .i64 0, .int .i64 (-1), .int .i64 3, .bool false, .bool false, .int .i64 0, .int .i64 (-1)] 44)) (some ⟨v39.heap.size, 0, none⟩) 2 dbl from Sl.lit (enc := eSg) v39 _ _ dbl rfl lenSg (by decide))
                go_wp2_with fail
                with_reducible refine (register_s _).mono ?_
                rintro e v40 ⟨B40, d40, rfl, hm40, hc40, hx40, hb40⟩
                have HB40 := Lib.hid hb40
                have HM40 := Lib.hid hm40
                clear hb40 hm40
                go_wp2_with fail
                with_reducible refine (kn_home_a _ ?_ hc40 hx40 ?_ ?_).mono ?_
                · repeat (first | (with_reducible refine Hid.out ?_; assumption) | (with_reducible refine Sl.alloc ?_ _) | (with_reducible refine Sl.belowH ?_ (by assumption)))
                · repeat (first | (with_reducible refine Hid.out ?_; assumption) | (with_reducible refine Sl.alloc ?_ _) | (with_reducible refine Sl.belowH ?_ (by assumption)))
                · exact ints3 _ _ _ _ _
                rintro e v41 ⟨⟨C41, e41, rfl, hi41⟩, hb41⟩
                have HI41 := Lib.hid hi41
                clear hi41
                have HB41 := Lib.hid hb41
                clear hb41
                go_wp2_with fail
                with_reducible refine (register_s _).mono ?_
                rintro e v42 ⟨B42, d42, rfl, hm42, hc42, hx42, hb42⟩
                have HB42 := Lib.hid hb42
                have HM42 := Lib.hid hm42
                clear hb42 hm42
                go_wp2_with fail
                with_reducible refine (kn_home_b _ ?_ hc42 hx42 ?_ ?_).mono ?_
                · repeat (first | (with_reducible refine Hid.out ?_; assumption) | (with_reducible refine Sl.alloc ?_ _) | (with_reducible refine Sl.belowH ?_ (by assumption)))
                · repeat (first | (with_reducible refine Hid.out ?_; assumption) | (with_reducible refine Sl.alloc ?_ _) | (with_reducible refine Sl.belowH ?_ (by assumption)))
                · exact ints3 _ _ _ _ _
                rintro e v43 ⟨⟨m43, rfl⟩, hb43⟩
                have HB43 := Lib.hid hb43
                clear hb43
                go_wp2_with fail
                with_reducible refine (register_s _).mono ?_
                rintro e v44 ⟨B44, d44, rfl, hm44, hc44, hx44, hb44⟩
                have HB44 := Lib.hid hb44
                have HM44 := Lib.hid hm44
                clear hb44 hm44
                go_wp2_with fail
                with_reducible refine (kn_owners_a _ ?_ hc44 hx44 ?_ ?_).mono ?_
                · repeat (first | (with_reducible refine Hid.out ?_; assumption) | (with_reducible refine Sl.alloc ?_ _) | (with_reducible refine Sl.belowH ?_ (by assumption)))
                · repeat (first | (with_reducible refine Hid.out ?_; assumption) | (with_reducible refine Sl.alloc ?_ _) | (with_reducible refine Sl.belowH ?_ (by assumption)))
                · exact ints3 _ _ _ _ _
                rintro e v45 ⟨⟨C45, e45, rfl, hi45⟩, hb45⟩
                have HI45 := Lib.hid hi45
                clear hi45
                have HB45 := Lib.hid hb45
                clear hb45
                go_wp2_with fail
                with_reducible refine (register_s _).mono ?_
                rintro e v46 ⟨B46, d46, rfl, hm46, hc46, hx46, hb46⟩
                have HB46 := Lib.hid hb46
                have HM46 := Lib.hid hm46
                clear hb46 hm46
                go_wp2_with fail
                with_reducible refine (kn_left_a _ ?_ hc46 hx46 ?_ ?_).mono ?_
                · repeat (first | (with_reducible refine Hid.out ?_; assumption) | (with_reducible refine Sl.alloc ?_ _) | (with_reducible refine Sl.belowH ?_ (by assumption)))
                · repeat (first | (with_reducible refine Hid.out ?_; assumption) | (with_reducible refine Sl.alloc ?_ _) | (with_reducible refine Sl.belowH ?_ (by assumption)))
                · exact ints3 _ _ _ _ _
                rintro e v47 ⟨⟨C47, e47, rfl, hi47⟩, hb47⟩
                have HI47 := Lib.hid hi47
                clear hi47
                have HB47 := Lib.hid hb47
                clear hb47
                go_wp2_with fail
                with_reducible refine (register_s _).mono ?_
                rintro e v48 ⟨B48, d48, rfl, hm48, hc48, hx48, hb48⟩
                have HB48 := Lib.hid hb48
                have HM48 := Lib.hid hm48
                clear hb48 hm48
                go_wp2_with fail
                with_reducible refine (kn_short_a _ ?_ hc48 hx48 ?_ ?_).mono ?_
                · repeat (first | (with_reducible refine Hid.out ?_; assumption) | (with_reducible refine Sl.alloc ?_ _) | (with_reducible refine Sl.belowH ?_ (by assumption)))
                · repeat (first | (with_reducible refine Hid.out ?_; assumption) | (with_reducible refine Sl.alloc ?_ _) | (with_reducible refine Sl.belowH ?_ (by assumption)))
                · exact ints3 _ _ _ _ _
                rintro e v49 ⟨⟨C49, e49, rfl, hi49⟩, hb49⟩
                have HI49 := Lib.hid hi49
                clear hi49
                have HB49 := Lib.hid hb49
                clear hb49
                have hk : v49.heap[s + 1 + 1]? = some (kO2 A3) := by
                  repeat (first | (with_reducible refine Hid.out ?_; assumption) | (with_reducible refine hblk_alloc ?_ _) | (with_reducible refine bheapH ?_ (by assumption)))
                obtain ⟨x0, x1⟩ := blk2 hk
                have gk := heap_lt hk
                clear hk
                go_wp2_with fail
                with_reducible refine (kn_write_b A3 _ ?_).mono ?_
                · repeat (first | (with_reducible refine Hid.out ?_; assumption) | (with_reducible refine Sl.alloc ?_ _) | (with_reducible refine Sl.belowH ?_ (by assumption)))
                clear x0 x1 gk
                rintro e v50 ⟨rfl, hb50⟩
                have HB50 := Lib.hid hb50
                clear hb50
                go_wp2_with fail
                with_reducible refine (sameInts_any C41 2 e41 [0, 0] (some ⟨v50.heap.size, 0, none⟩) 2 2 [0, 0] _ ?_ (ints2 _ _ _ _) (by decide) (by decide)).mono ?_
                · repeat (first | (with_reducible refine Hid.out ?_; assumption) | (with_reducible refine Sl.alloc ?_ _) | (with_reducible refine Sl.belowH ?_ (by assumption)))
                rintro e v51 ⟨rfl, hb51⟩
                rw [show sameL ([0, 0] : List Int) [0, 0] = true by decide]
                have HB51 := Lib.hid hb51
                clear hb51
                go_wp2_with fail
                obtain ⟨W5, hW⟩ : ∃ W, W = ((v51.alloc (Obj.cells #[Value.int .i64 0, .int .i64 1] 3)).alloc (Obj.cells #[Value.int .i64 0, .int .i64 1] 3)).alloc (Obj.cells #[.slice (some ⟨v51.heap.size, 0, none⟩) 2 2, .slice (some ⟨v51.heap.size + 1, 0, none⟩) 2 2] 22) := ⟨_, rfl⟩
                have hb52 : Below v51.heap.size v51 W5 := by rw [hW]; exact Bel.al (Bel.al (bal0 _ _) _) _
                have hgw : Grid W5 (some ⟨v51.heap.size + 1 + 1, 0, none⟩) 2 [[0, 1], [0, 1]] := by
                  rw [hW]
                  exact grid2_of (b := v51.heap.size + 1 + 1) (b0 := v51.heap.size) (b1 := v51.heap.size + 1) (alloc_at (by simp)) (hblk_alloc (hblk_alloc (alloc_at rfl) _) _) (hblk_alloc (alloc_at (by simp)) _)
                rw [← hW]
                clear hW
                have HB52 := Lib.hid hb52
                clear hb52
                with_reducible refine (sameGrids_any C45 2 e45 [[0, 1], [0, 1]] (some ⟨v51.heap.size + 1 + 1, 0, none⟩) 2 2 [[0, 1], [0, 1]] _ ?_ hgw (by decide) (by decide)).mono ?_
                · repeat (first | (with_reducible refine Hid.out ?_; assumption) | (with_reducible refine Grid.allocH ?_ _) | (with_reducible refine Grid.belowH ?_ (by assumption)))
                clear hgw
                rintro e v53 ⟨rfl, hb53⟩
                rw [show sameL ([[0, 1], [0, 1]] : List (List Int)) [[0, 1], [0, 1]] = true by decide]
                have HB53 := Lib.hid hb53
                clear hb53
                go_wp2_with fail
                with_reducible refine (sameInts_any C47 1 e47 [0] (some ⟨v53.heap.size, 0, none⟩) 1 1 [0] _ ?_ (ints1 _ _ _) (by decide) (by decide)).mono ?_
                · repeat (first | (with_reducible refine Hid.out ?_; assumption) | (with_reducible refine Sl.alloc ?_ _) | (with_reducible refine Sl.belowH ?_ (by assumption)))
                rintro e v54 ⟨rfl, hb54⟩
                rw [show sameL ([0] : List Int) [0] = true by decide]
                have HB54 := Lib.hid hb54
                clear hb54
                go_wp2_with fail
                with_reducible refine (sameInts_any C49 2 e49 [0, 1] (some ⟨v54.heap.size, 0, none⟩) 2 2 [0, 1] _ ?_ (ints2 _ _ _ _) (by decide) (by decide)).mono ?_
                · repeat (first | (with_reducible refine Hid.out ?_; assumption) | (with_reducible refine Sl.alloc ?_ _) | (with_reducible refine Sl.belowH ?_ (by assumption)))
                rintro e v55 ⟨rfl, hb55⟩
                rw [show sameL ([0, 1] : List Int) [0, 1] = true by decide]
                have HB55 := Lib.hid hb55
                clear hb55
                go_wp2
                go_ret
                refine ⟨rfl, ?_⟩
                repeat (first | (with_reducible refine Hid.out ?_; assumption) | (with_reducible refine Bel.al ?_ _) | (with_reducible refine Bel.step ?_ (by assumption)))
end Go.Proofs.Ytoidaigiejilcaa
