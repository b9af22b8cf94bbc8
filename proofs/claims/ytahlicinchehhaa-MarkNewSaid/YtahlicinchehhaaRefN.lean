/- mestaref03: Notches, Own, Fresh. -/
import Derived.Test.YtahlicinchehhaaPairC
import Derived.Test.YtahlicinchehhaaFresh
import Derived.Test.YtahlicinchehhaaLeastLaw
namespace Go.Proofs.Ytahlicinchehhaa
open Go.RowKit
set_option linter.unusedVariables false
set_option linter.unusedSimpArgs false

theorem rNotches (n : Int) (w : World) (hn : 0 ≤ n) (hn' : n ≤ 255) :
    Calls Try.prog 42 #[.int .i64 n] w fun e w' => e = .returned (.int .i64 (popI n)) ∧ w = w' := by
  have HP := Lib.hid (show popI n = cntTo (bit n) 8 from rfl)
  obtain ⟨P, hP⟩ : ∃ P, P = popI n := ⟨_, rfl⟩
  rw [← hP]
  have HP2 := Lib.hid (hP.trans HP.out)
  clear hP HP
  go_enter Try.func42, Try.ntmps42
  go_wp2_with fail
  go_loopg [3, 4] 8 (fun g x i wr => ∃ k : Nat, k + g = 8 ∧ i = .int .i64 k ∧ ∃ q : Nat, x = .int .i64 q ∧ q = cntTo (bit n) k ∧ w = wr)
  case atStart => exact ⟨0, by omega, rfl, 0, rfl, rfl, rfl⟩
  case round =>
    obtain ⟨k, hk, rfl, q, rfl, hq, rfl⟩ := hrel
    have hqk : q ≤ k := by rw [hq]; exact cntTo_le _ _
    have HK := Lib.hid (And.intro hk hq)
    have hk8 : k ≤ 8 := by omega
    clear hk hq
    by_cases hlt : k < 8
    · have hlt' : (k : Int) < 8 := by omega
      cases hb : bit n k
      all_goals
        have HB := Lib.hid hb
        go_wp2_with (go_at_call 70; refine (rHas n k _ hn hn' hk8).mono ?_; rintro e w3 ⟨rfl, rfl⟩)
        go_roundg (gk - 1)
        case measure => have := HK.out.1; omega
      · exact ⟨k + 1, by have := HK.out.1; omega, by go_num, q, rfl, by rw [cntTo_succ, HK.out.2, HB.out]; rfl, rfl⟩
      · exact ⟨k + 1, by have := HK.out.1; omega, by go_num, q + 1, by go_num, by rw [cntTo_succ, HK.out.2, HB.out]; rfl, rfl⟩
    · obtain rfl : k = 8 := by omega
      go_wp2
      go_ret
      exact ⟨ret_int (by rw [HP2.out, ← HK.out.2]), rfl⟩

set_option maxRecDepth 100000 in
set_option maxHeartbeats 4000000 in
theorem rOwn (t : Int) (A : Option Addr) (n c : Nat) (l : List Mk) (m : Mk) (los : Int) (w : World) (hl : Marks w A n l) (hn : n ≤ 4294967295) (hm : 0 ≤ m.n) (hm' : m.n ≤ 255) (hv : ∀ o ∈ l, 0 ≤ o.n ∧ o.n ≤ 255) (h4 : los ≤ 4) :
    Calls Try.prog 78 #[.agg #[.int .i64 t, .slice A n c], vMk m, .int .i64 los] w fun e w' => e = .returned (.bool (freeM l t los m)) ∧ Below w.heap.size w w' := by
  have HV := Lib.hid (And.intro hv hl.len)
  obtain ⟨W0, hW⟩ : ∃ W0, W0 = (w.alloc (Obj.cells #[Value.int .i64 t, .slice A n c] 24)).alloc (Obj.cells #[Value.int .i64 m.n, .int .i64 m.b, .int .i64 m.p] 26) := ⟨_, rfl⟩
  have hB0 : Below w.heap.size w W0 := by rw [hW]; exact bal (bal0 w _) (Nat.le_refl _) _
  have b2 : W0.heap[w.heap.size]? = some (Obj.cells #[Value.int .i64 t, .slice A n c] 24 (0, 0)) := by rw [hW]; exact hblk_alloc (alloc_at rfl) _
  have b3 : W0.heap[w.heap.size + 1]? = some (Obj.cells #[Value.int .i64 m.n, .int .i64 m.b, .int .i64 m.p] 26 (0, 0)) := by rw [hW]; exact alloc_at (by simp)
  have hl0 := hl.below hB0 (Nat.le_refl _)
  clear hv hl
  go_enter Try.func78, Try.ntmps78
  unfold vMk
  go_wp2_with fail
  rw [← hW]
  clear hW
  have HB := Lib.hid (And.intro b2 (And.intro b3 (And.intro hB0 hl0)))
  clear b2 b3 hB0 hl0
  go_loopg [7] n (fun g i wr => ∃ k : Nat, k + g = n ∧ i = .int .i64 k ∧ freeM (l.take k) t los m = true ∧ Below W0.heap.size W0 wr)
  case atStart => exact ⟨0, by omega, rfl, rfl, Below.refl _ _⟩
  case round =>
    obtain ⟨k, hk, rfl, hfr, hbl⟩ := hrel
    have HK := Lib.hid (And.intro hk hfr)
    have hkn : k ≤ n := by omega
    clear hk hfr
    obtain ⟨r0, r1⟩ := blk2 (bheap HB.out.1 hbl (Nat.le_refl _))
    obtain ⟨m0, m1, m2⟩ := blk3 (bheap HB.out.2.1 hbl (Nat.le_refl _))
    by_cases hlt : k < n
    · obtain ⟨b, off, x, rfl, hb, hx, c0, c1, c2⟩ := Marks.get (HB.out.2.2.2.below hbl (Nat.le_refl _)) hlt
      have HX := Lib.hid hx
      have hxv := HV.out.1 x (List.mem_of_getElem? hx)
      clear hx
      have i0 : (0 : Int) ≤ (k : Int) := by omega
      have i1 : (k : Int) < (n : Int) := by omega
      have cM : ∀ d os, Calls Try.prog 82 #[vMk m, vMk x, .int .i64 los, .int .i64 t] (Sort.grow (redrawn wr d) os) (fun e w'' => e = .returned (.bool (decide (mixedS m x t ≤ los))) ∧ ∃ p : Regrown, w'' = Sort.grow (redrawn wr p.d) p.os) := fun d os =>
        Calls.regrown_of (rMixed m x los t _ hm hm' hxv.1 hxv.2 h4)
      unfold vMk at cM
      cases hmx : decide (mixedS m x t ≤ los)
      all_goals
        rw [hmx] at cM
        have HCM := Lib.hid cM
        have HM := Lib.hid hmx
        clear cM hmx
        go_upto_region 4 with (fail)
        have k0 := cell_regrown r0
        have k1 := cell_regrown r1
        have k2 := cell_regrown m0
        have k3 := cell_regrown m1
        have k4 := cell_regrown m2
        have k5 := cell_regrown c0
        have k6 := cell_regrown c1
        have k7 := cell_regrown c2
        refine wp_region_quiet_below (by kernel_rfl) (by kernel_rfl) ?_
        repeat (quiet_step (exact HCM.out _ _))
        refine wpQuiet_nil ?_
        intro _ hw'
        obtain ⟨⟨dq, osq⟩, hw''⟩ := hw'
        subst hw''
        obtain ⟨w3, hW1⟩ : ∃ w3, w3 = Sort.grow (redrawn wr dq) osq := ⟨_, rfl⟩
        have hb3 : Below wr.heap.size wr w3 := by rw [hW1]; exact below_regrown wr dq osq
        have hbl3 := hbl.trans (hb3.mono hbl.size)
        rw [← hW1]
        clear hW1 k0 k1 k2 k3 k4 k5 k6 k7
        go_wp2
      · go_roundg (gk - 1)
        case measure => have := HK.out.1; omega
        case rel =>
          refine ⟨k + 1, by have := HK.out.1; omega, by go_num, ?_, hbl3⟩
          have := HK.out.2
          unfold freeM at this ⊢
          rw [List.take_add_one, HX.out, List.all_append, this]
          simp [HM.out]
      · go_ret
        refine ⟨ret_bool ?_, HB.out.2.2.1.trans (hbl3.mono HB.out.2.2.1.size)⟩
        unfold freeM
        exact (List.all_eq_false.2 ⟨x, List.mem_of_getElem? HX.out, by rw [HM.out]; simp⟩).symm
    · obtain rfl : k = n := by omega
      go_wp2
      go_ret
      refine ⟨ret_bool ?_, HB.out.2.2.1.trans (hbl.mono HB.out.2.2.1.size)⟩
      have := HK.out.2
      rw [List.take_of_length_le (by have := HV.out.2; omega)] at this
      exact this.symm

/-- no mark ahead of the place N among those of so many notches is free -/
def Dn (l : List Mk) (t los : Int) (many N : Nat) : Prop := ∀ i, i < 17920 → (popI (mkIx i).n < many ∨ (popI (mkIx i).n = many ∧ i < N)) → freeM l t los (mkIx i) = false
theorem Dn.zero {l : List Mk} {t los : Int} : Dn l t los 0 0 := fun i _ h => by omega
theorem Dn.next {l : List Mk} {t los : Int} {many N : Nat} (h : Dn l t los many N) (hf : freeM l t los (mkIx N) = false) : Dn l t los many (N + 1) := fun i hi hh => by
  by_cases he : i = N
  · subst he; exact hf
  · exact h i hi (by omega)
theorem Dn.skip {l : List Mk} {t los : Int} {many n : Nat} (h : Dn l t los many (n * 70)) (hn : popI (n : Int) ≠ many) : Dn l t los many ((n + 1) * 70) := fun i hi hh => by
  refine h i hi ?_
  rcases hh with hh | ⟨h1, h2⟩
  · exact .inl hh
  · by_cases he : i < n * 70
    · exact .inr ⟨h1, he⟩
    · have h3 : i / 70 = n := by omega
      have h4 : (mkIx i).n = (n : Int) := by unfold mkIx; dsimp only; rw [h3]
      rw [h4] at h1
      exact absurd h1 hn
theorem Dn.more {l : List Mk} {t los : Int} {many : Nat} (h : Dn l t los many (256 * 70)) : Dn l t los (many + 1) 0 := fun i hi hh => h i hi (by omega)
theorem Dn.none {l : List Mk} {t los : Int} (h : Dn l t los 9 0) : leastI (freshAll t l los) = none := fresh_none fun i hi => h i hi (.inl (by
  have := cnt_le (bit (mkIx i).n)
  unfold popI; omega))
theorem Dn.found {l : List Mk} {t los : Int} {many n b p : Nat} (hn : n < 256) (hb : b < 10) (hp : p < 7) (hpop : popI (n : Int) = many) (h : Dn l t los many (n * 70 + b * 7 + p)) (hf : freeM l t los ⟨n, b, p⟩ = true) :
    ∃ hk : n * 70 + b * 7 + p < 17920, leastI (freshAll t l los) = some ⟨n * 70 + b * 7 + p, hk⟩ := by
  have hk : n * 70 + b * 7 + p < 17920 := by omega
  have hm := mkIx_at (n := n) hb hp
  refine ⟨hk, fresh_some hk (by rw [hm]; exact hf) fun i hi hkey => h i hi ?_⟩
  unfold keyI at hkey
  rw [hm] at hkey
  dsimp only at hkey
  rw [hpop] at hkey
  by_cases h1 : popI (mkIx i).n < many
  · exact .inl h1
  · right
    have : many ≤ popI (mkIx i).n := by omega
    have h2 : many * 17920 ≤ popI (mkIx i).n * 17920 := Nat.mul_le_mul_right _ this
    refine ⟨?_, by omega⟩
    rcases Nat.lt_or_ge many (popI (mkIx i).n) with h3 | h3
    · have : (many + 1) * 17920 ≤ popI (mkIx i).n * 17920 := Nat.mul_le_mul_right _ h3
      omega
    · omega
end Go.Proofs.Ytahlicinchehhaa
