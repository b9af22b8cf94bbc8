/- mestakit.Wrap and mestakit.Blotted: a string in which a byte is another one, is gone, or has another one ahead of it. -/
import Derived.Test.YtoidaigiejilcaaDoorRefR
namespace Go.Proofs.YtoidaigiejilcaaDoor
open Go.RowKit
set_option linter.unusedVariables false
set_option linter.unusedSimpArgs false

theorem wrap_any (n : Int) (k : Nat) (w : World) (hn : -9223372036854775808 ≤ n ∧ n ≤ 9223372036854775807) (h1 : 1 ≤ k) (h2 : k ≤ 9223372036854775807) :
    Calls Tryd.prog 34 #[.int .i64 n, .int .i64 k] w fun e w' => ∃ r : Nat, e = .returned (.int .i64 r) ∧ r < k ∧ w' = w := by
  have h1' : ¬ ((k : Int) < 1) := by omega
  have hk0 : ((k : Int) == 0) = false := beq_eq_false_iff_ne.2 (by omega)
  obtain ⟨m, hm⟩ : ∃ m, m = n.tmod (k : Int) := ⟨_, rfl⟩
  have m0 : m < (k : Int) := by rw [hm]; exact Int.tmod_lt_of_pos n (by omega)
  have m1 : -(k : Int) < m := by rw [hm]; have := Int.tmod_lt_of_pos (-n) (b := (k : Int)) (by omega); rw [Int.neg_tmod] at this; omega
  have hw : wrap64 m = m := IntWalk.wrap64_in _ (by omega)
  subst hm
  by_cases h0 : n.tmod (k : Int) < 0
  · have hw2 : wrap64 (n.tmod (k : Int) + (k : Int)) = n.tmod (k : Int) + (k : Int) := IntWalk.wrap64_in _ (by omega)
    have HR := Lib.hid (show ∃ r : Nat, (n.tmod (k : Int) + (k : Int)) = r ∧ r < k from ⟨(n.tmod (k : Int) + (k : Int)).toNat, by omega, by omega⟩)
    go_enter Tryd.func34, Tryd.ntmps34
    go_wp2_with fail
    go_ret
    obtain ⟨r, hr, hlt⟩ := HR.out
    exact ⟨r, congrArg (fun z => Ending.returned (.int .i64 z)) hr, hlt, rfl⟩
  · have HR := Lib.hid (show ∃ r : Nat, n.tmod (k : Int) = r ∧ r < k from ⟨(n.tmod (k : Int)).toNat, by omega, by omega⟩)
    go_enter Tryd.func34, Tryd.ntmps34
    go_wp2_with fail
    go_ret
    obtain ⟨r, hr, hlt⟩ := HR.out
    exact ⟨r, congrArg (fun z => Ending.returned (.int .i64 z)) hr, hlt, rfl⟩

/-- a slice of one byte -/
def Byt1 (c : Int) : VF := fun v w => ∃ b, v = .slice (some ⟨b, 0, none⟩) 1 1 ∧ b < w.heap.size ∧ w.cell? ⟨b, 0, none⟩ = some (.int .u8 c)
theorem Byt1.st {c : Int} : ∀ n v w w', TB n w w' → Byt1 c v w → Byt1 c v w' := fun n v w w' h ⟨b, hv, hb, hj⟩ =>
  ⟨b, hv, by have := Below.size h; omega, bcell hj h (Nat.le_refl _)⟩
theorem byt_conv (c : UInt8) (b : Nat) (w : World) (h : w.cell? ⟨b, 0, none⟩ = some (.int .u8 (c.toNat : Int))) :
    (convert 72 9 (.slice (some ⟨b, 0, none⟩) 1 1)).run Tryd.prog w = .ok (.string ⟨#[c]⟩) w := by
  have h := run_convert_bytes_back (P := Tryd.prog) w 72 9 5 ⟨b, 0, none⟩ 1 [c] Tryd.underlying72 Tryd.underlying5 Tryd.underlying9 (fun j hj => by
    have hj0 : j = 0 := by simpa using hj
    subst hj0
    rw [Addr.add_lit]
    exact h)
  exact h

def BlotOut (s : ByteArray) (e : Ending) : Prop := ∃ T : ByteArray, e = .returned (.string T) ∧ T.size ≤ s.size + 1

set_option maxRecDepth 100000 in
set_option maxHeartbeats 2000000 in
theorem blotted_any (s : ByteArray) (a h : Int) (c : UInt8) (w : World) (hs : s.size ≤ 4294967290) (ha : -9223372036854775808 ≤ a ∧ a ≤ 9223372036854775807) (hh : -9223372036854775808 ≤ h ∧ h ≤ 9223372036854775807) :
    Calls Tryd.prog 12 #[.string s, .int .i64 a, .int .i64 h, .int .u8 (c.toNat : Int)] w fun e w' => BlotOut s e ∧ Below w.heap.size w w' := by
  by_cases h0 : s.size = 0
  · have x0 : ((s.size : Int) == 0) = true := beq_iff_eq.2 (by omega)
    have kb := byt_conv c w.heap.size (w.alloc (.cells #[.int .u8 (c.toNat : Int)] 5)) (blk1 (alloc_at rfl))
    go_enter Tryd.func12, Tryd.ntmps12
    go_wp2
    go_ret
    exact ⟨⟨_, rfl, by rw [h0]; exact Nat.le_refl 1⟩, bal0 w _⟩
  · have x0 : ((s.size : Int) == 0) = false := beq_eq_false_iff_ne.2 (by omega)
    have s1 : 1 ≤ s.size := by omega
    have s2 : s.size ≤ 9223372036854775807 := by omega
    clear h0
    go_enter Tryd.func12, Tryd.ntmps12
    go_wp2_with fail
    refine (wrap_any a s.size w ha s1 s2).mono ?_
    rintro e w1 ⟨k, rfl, hk, hw⟩
    rw [hw]
    clear hw
    go_wp2_with fail
    refine (wrap_any h 3 w hh (by omega) (by omega)).mono ?_
    rintro e w1 ⟨q, rfl, hq, hw⟩
    rw [hw]
    clear hw
    have i0 : (0 : Int) ≤ (k : Int) := by omega
    have i1 : k ≤ s.size := by omega
    have i2 : wrap64 ((k : Int) + 1) = ((k + 1 : Nat) : Int) := by rw [IntWalk.wrap64_in _ (by omega)]; omega
    have i3 : k + 1 ≤ s.size := by omega
    have e1 : (s.extract 0 k).size = k := by rw [ByteArray.size_extract]; omega
    have e2 : (s.extract (k + 1) s.size).size = s.size - (k + 1) := by rw [ByteArray.size_extract]; omega
    have e3 : (s.extract k s.size).size = s.size - k := by rw [ByteArray.size_extract]; omega
    have HE := Lib.hid (And.intro e1 (And.intro e2 e3))
    clear e1 e2 e3
    obtain rfl | rfl | rfl : q = 0 ∨ q = 1 ∨ q = 2 := by omega
    · go_upto_region 6 with (fail)
      have HC : Hid (∀ k' w', TB k' w w' → Below w.heap.size w w' ∧ True) := Lib.hid fun k' w' h => ⟨h, trivial⟩
      refine wp_region_inv (TB) (by kernel_rfl) (by kernel_rfl) TB.tr (TB.draw _) ?_
      apply Exists.intro
      refine ⟨fun ys => ?_, fun ops K hK => ?_⟩
      · simp only [dstsOf, List.filterMap_cons, List.filterMap_nil, putAll]
        go_simp
        rfl
      repeat
        refine LexI.const TB.rf ?_
        apply Exists.intro
        refine ⟨fun n' ys w' hn' hT hd => ?_, ?_⟩
        · try simp [DepsOf, depsGo, DF.holds, Region.binds, EqF] at hd
          obtain ⟨z0, -⟩ := HC.out n' w' hT
          intro Q2 hQ2
          go_wp2_with fail
          rfl
        try simp only [List.nil_append, List.cons_append]
      refine LexI.some (Byt1 (c.toNat : Int)) (Byt1.st) (fun n' ys w' hn' hT hd => ?_) ?_
      · try simp [DepsOf, depsGo, DF.holds, Region.binds, EqF] at hd
        try simp only [hd]
        intro Q2 hQ2
        go_wp2_with fail
        exact ⟨bal0 w' _, _, rfl, by simp, blk1 (alloc_at rfl)⟩
      try simp only [List.nil_append, List.cons_append]
      refine LexI.some (EqF (.string ⟨#[c]⟩)) (EqF.st) (fun n' ys w' hn' hT hd => ?_) ?_
      · try simp [DepsOf, depsGo, DF.holds, Region.binds, EqF] at hd
        try simp only [hd]
        obtain ⟨b, e28, hb, hbc⟩ := hd
        simp only [e28]
        have kb := byt_conv c b w' hbc
        intro Q2 hQ2
        go_wp2_with fail
        exact ⟨TB.rf _, rfl⟩
      try simp only [List.nil_append, List.cons_append]
      repeat
        refine LexI.const TB.rf ?_
        apply Exists.intro
        refine ⟨fun n' ys w' hn' hT hd => ?_, ?_⟩
        · try simp [DepsOf, depsGo, DF.holds, Region.binds, EqF] at hd
          obtain ⟨z0, -⟩ := HC.out n' w' hT
          intro Q2 hQ2
          go_wp2_with fail
          rfl
        try simp only [List.nil_append, List.cons_append]
      refine hK _ (fun n' ys w6 hn' hT hF => ?_)
      simp only [AllF, DF.holds] at hF
      obtain ⟨e24, e25, e26, e27, -, e29, e30, e31, e32, e33, e34, e35, e8, -⟩ := hF
      unfold EqF at e29
      simp only [e24, e25, e26, e27, e29, e30, e31, e32, e33, e34, e35, e8]
      have hb6 : Below w.heap.size w w6 := hT
      have HB6 := Lib.hid hb6
      clear hT hb6 e24 e25 e26 e27 e29 e30 e31 e32 e33 e34 e35 e8
      go_wp2
      go_ret
      exact ⟨⟨_, rfl, by rw [ByteArray.size_append, ByteArray.size_append, HE.out.1, HE.out.2.1, show (⟨#[c]⟩ : ByteArray).size = 1 from rfl]; omega⟩, HB6.out⟩
    · go_upto_region 8 with (fail)
      go_region
      go_wp2
      go_ret
      exact ⟨⟨_, rfl, by rw [ByteArray.size_append, HE.out.1, HE.out.2.1]; omega⟩, bdraw (Below.refl _ _)⟩
    · go_upto_region 9 with (fail)
      have HC : Hid (∀ k' w', TB k' w w' → Below w.heap.size w w' ∧ True) := Lib.hid fun k' w' h => ⟨h, trivial⟩
      refine wp_region_inv (TB) (by kernel_rfl) (by kernel_rfl) TB.tr (TB.draw _) ?_
      apply Exists.intro
      refine ⟨fun ys => ?_, fun ops K hK => ?_⟩
      · simp only [dstsOf, List.filterMap_cons, List.filterMap_nil, putAll]
        go_simp
        rfl
      repeat
        refine LexI.const TB.rf ?_
        apply Exists.intro
        refine ⟨fun n' ys w' hn' hT hd => ?_, ?_⟩
        · try simp [DepsOf, depsGo, DF.holds, Region.binds, EqF] at hd
          obtain ⟨z0, -⟩ := HC.out n' w' hT
          intro Q2 hQ2
          go_wp2_with fail
          rfl
        try simp only [List.nil_append, List.cons_append]
      refine LexI.some (Byt1 (c.toNat : Int)) (Byt1.st) (fun n' ys w' hn' hT hd => ?_) ?_
      · try simp [DepsOf, depsGo, DF.holds, Region.binds, EqF] at hd
        try simp only [hd]
        intro Q2 hQ2
        go_wp2_with fail
        exact ⟨bal0 w' _, _, rfl, by simp, blk1 (alloc_at rfl)⟩
      try simp only [List.nil_append, List.cons_append]
      refine LexI.some (EqF (.string ⟨#[c]⟩)) (EqF.st) (fun n' ys w' hn' hT hd => ?_) ?_
      · try simp [DepsOf, depsGo, DF.holds, Region.binds, EqF] at hd
        try simp only [hd]
        obtain ⟨b, e28, hb, hbc⟩ := hd
        simp only [e28]
        have kb := byt_conv c b w' hbc
        intro Q2 hQ2
        go_wp2_with fail
        exact ⟨TB.rf _, rfl⟩
      try simp only [List.nil_append, List.cons_append]
      repeat
        refine LexI.const TB.rf ?_
        apply Exists.intro
        refine ⟨fun n' ys w' hn' hT hd => ?_, ?_⟩
        · try simp [DepsOf, depsGo, DF.holds, Region.binds, EqF] at hd
          obtain ⟨z0, -⟩ := HC.out n' w' hT
          intro Q2 hQ2
          go_wp2_with fail
          rfl
        try simp only [List.nil_append, List.cons_append]
      refine hK _ (fun n' ys w6 hn' hT hF => ?_)
      simp only [AllF, DF.holds] at hF
      obtain ⟨e46, e47, e48, e49, -, e51, e52, e53, e54, e55, e56, e8, -⟩ := hF
      unfold EqF at e51
      simp only [e46, e47, e48, e49, e51, e52, e53, e54, e55, e56, e8]
      have hb6 : Below w.heap.size w w6 := hT
      have HB6 := Lib.hid hb6
      clear hT hb6 e46 e47 e48 e49 e51 e52 e53 e54 e55 e56 e8
      go_wp2
      go_ret
      exact ⟨⟨_, rfl, by rw [ByteArray.size_append, ByteArray.size_append, HE.out.1, HE.out.2.2, show (⟨#[c]⟩ : ByteArray).size = 1 from rfl]; omega⟩, HB6.out⟩
end Go.Proofs.YtoidaigiejilcaaDoor
