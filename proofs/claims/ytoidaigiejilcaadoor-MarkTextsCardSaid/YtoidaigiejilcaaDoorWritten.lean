/- mestalaw03.MarkWritten returns true. -/
import Derived.Test.YtoidaigiejilcaaDoorReadB
import Derived.Test.YtoidaigiejilcaaDoorTextM
import Derived.Test.YtoidaigiejilcaaDoorRegOf
import Derived.Test.YtoidaigiejilcaaDoorCopyS
import Derived.Test.YtoidaigiejilcaaDoorMarking
namespace Go.Proofs.YtoidaigiejilcaaDoor
open Go.RowKit
set_option linter.unusedVariables false
set_option linter.unusedSimpArgs false

/-- what a register that is right can be written with -/
theorem check_wm {t : Int} {l : List Mk} (h : check t l = 0) : 0 ≤ t ∧ t ≤ 9 ∧ Wm l := by
  have h1 := check_ok h
  refine ⟨h1.1, by omega, fun m hm => ?_⟩
  have h2 := check_marks h m hm
  omega
/-- what is written is read as it was -/
theorem read_back {t : Int} {l : List Mk} (h : check t l = 0) : readL (wrS t l).data.toList = ⟨t, l, 0, 0⟩ := by
  obtain ⟨h1, h2, h3⟩ := check_wm h
  rw [wrS_list h]
  exact read_text h1 h2 h3 h
theorem wrS_size {t : Int} {l : List Mk} (h : check t l = 0) : (wrS t l).size ≤ 98 := by
  rw [Lib.size_eq, wrS_list h, text_len]
  have := (check_ok h).2.2.1
  omega
/-- what is read without an error is written as it was -/
theorem write_back {s : ByteArray} {R : Rr} (hR : readL s.data.toList = R) (h0 : R.e = 0) : wrS R.t R.l = s ∧ check R.t R.l = 0 := by
  obtain ⟨t, l, n, e⟩ := R
  dsimp only at h0
  subst h0
  obtain ⟨h1, h2, h3, h4, h5⟩ := text_read hR
  exact ⟨bytes_ext (by rw [wrS_list h2]; exact h1.symm), h2⟩

set_option maxRecDepth 100000 in
set_option maxHeartbeats 4000000 in
theorem MarkWritten_any (A : Option Addr) (n c : Nat) (nums : List Int) (s : ByteArray) (w : World) (hl : Ints w A n nums) (hn : n ≤ 9223372036854775807) (hs : s.size ≤ 9223372036854775807) :
    Calls Tryd.prog 3 #[.slice A n c, .string s] w fun e w' => e = .returned (.bool true) ∧ Below w.heap.size w w' := by
  by_cases hlong : (110 : Int) < (s.size : Int)
  · clear hl
    go_enter Tryd.func3, Tryd.ntmps3
    go_wp2_with fail
    refine (marking_any _).mono ?_
    rintro e w1 ⟨rfl, hb1⟩
    go_wp2
    go_ret
    exact ⟨rfl, hb1⟩
  · go_enter Tryd.func3, Tryd.ntmps3
    go_wp2_with fail
    refine (newHand_any A n c nums _ hl hn).mono ?_
    rintro e w1 ⟨rfl, hh, hb1, hz1⟩
    clear hl
    go_wp2_with fail
    refine (registerOf_any w.heap.size 0 5 _ hh (by omega) (by omega)).mono ?_
    rintro e w2 ⟨t, l, A1, c1, rfl, hck, hl5, hown, hms, hlc, hcm, hd2⟩
    have hB2 := hb1.trans ((hd2.below (Nat.le_refl _) (by omega)))
    have hws := wrS_size hck
    have hrb := read_back hck
    clear hown hd2 hb1 hh hz1
    go_upto_region 4 with (fail)
    obtain ⟨W, hW⟩ : ∃ W, W = w2.alloc (Obj.cells #[Value.int .i64 t, .slice A1 l.length c1] 26) := ⟨_, rfl⟩
    have bW : W.heap[w2.heap.size]? = some (Obj.cells #[Value.int .i64 t, .slice A1 l.length c1] 26 (0, 0)) := by rw [hW]; exact alloc_at rfl
    have hBW : Below w.heap.size w W := by rw [hW]; exact bal hB2 (Nat.le_refl _) _
    have hmW := hms.alloc (Obj.cells #[Value.int .i64 t, .slice A1 l.length c1] 26)
    rw [← hW] at hmW ⊢
    clear hW hB2 hms
    obtain ⟨r0, hr0⟩ : ∃ r, r = w2.heap.size := ⟨_, rfl⟩
    rw [← hr0] at bW ⊢
    clear hr0
    obtain ⟨p0, p1⟩ := blk2 bW
    have hg := heap_lt bW
    obtain ⟨T, hT⟩ : ∃ T, T = wrS t l := ⟨_, rfl⟩
    have HC := Lib.hid (And.intro hck (And.intro hrb hT))
    rw [← hT] at hws
    clear hrb hT
    go_upto_region 5 with (go_at_call 8; refine (write_any t A1 l.length c1 l _ hmW hlc hcm).mono ?_; rintro e w3 ⟨rfl, hb3⟩; rw [HC.out.1, ← HC.out.2.2])
    clear hck p0 p1
    have bW3 := bheap bW hb3 (Nat.le_refl _)
    have hm3 := hmW.below hb3 (Nat.le_refl _)
    have hB3 := hBW.trans (hb3.mono hBW.size)
    clear hb3 bW hmW hBW
    go_upto_region 6 with (go_at_call 9; refine (Read_any T _ (by omega)).mono ?_; rintro e w4 ⟨hro, hb4⟩; rw [HC.out.2.2, HC.out.2.1] at hro; obtain ⟨A2, c2, rfl, hm4, hlc4, hcm4⟩ := hro; dsimp only at hm4 hlc4 hcm4)
    obtain ⟨W, hW⟩ : ∃ W, W = w4.alloc (Obj.cells #[Value.int .i64 t, .slice A2 l.length c2] 26) := ⟨_, rfl⟩
    have bW : W.heap[w4.heap.size]? = some (Obj.cells #[Value.int .i64 t, .slice A2 l.length c2] 26 (0, 0)) := by rw [hW]; exact alloc_at rfl
    have b34 := bheap bW3 hb4 (Nat.le_refl _)
    have b3W : W.heap[r0]? = some (Obj.cells #[Value.int .i64 t, .slice A1 l.length c1] 26 (0, 0)) := by rw [hW]; exact hblk_alloc b34 _
    have hBW : Below w.heap.size w W := by rw [hW]; exact bal (hB3.trans (hb4.mono hB3.size)) (Nat.le_refl _) _
    have hmW := hm4.alloc (Obj.cells #[Value.int .i64 t, .slice A2 l.length c2] 26)
    have hm3W := (hm3.below hb4 (Nat.le_refl _)).alloc (Obj.cells #[Value.int .i64 t, .slice A2 l.length c2] 26)
    rw [← hW] at hmW hm3W ⊢
    clear hW hB3 hm4 hb4 hm3 bW3 b34
    obtain ⟨r1, hr1⟩ : ∃ r, r = w4.heap.size := ⟨_, rfl⟩
    rw [← hr1] at bW ⊢
    clear hr1
    obtain ⟨p0, p1⟩ := blk2 b3W
    obtain ⟨q0, q1⟩ := blk2 bW
    have hsm : (decide (t = t) && sameL l l) = true := by unfold sameL; simp
    go_upto_region 8 with (go_at_call 10; refine (sameRegisters_any t t A1 l.length c1 l A2 l.length c2 l _ hm3W hmW (by omega) (by omega)).mono ?_; rintro e w5 ⟨rfl, hb5⟩; rw [hsm])
    have hB5 := hBW.trans (hb5.mono hBW.size)
    clear hb5 hBW hm3W hmW p0 p1 q0 q1 b3W bW hsm HC hws hlc hcm hlc4 hcm4
    obtain ⟨R, hR⟩ : ∃ R, R = readL s.data.toList := ⟨_, rfl⟩
    have HRR := Lib.hid hR
    clear hR
    go_upto_region 9 with (go_at_call 9; refine (Read_any s _ hs).mono ?_; rintro e w6 ⟨hro, hb6⟩; rw [← HRR.out] at hro; obtain ⟨A3, c3, rfl, hm6, hlc6, hcm6⟩ := hro)
    obtain ⟨W, hW⟩ : ∃ W, W = w6.alloc (Obj.cells #[Value.int .i64 R.t, .slice A3 R.l.length c3] 26) := ⟨_, rfl⟩
    have bW : W.heap[w6.heap.size]? = some (Obj.cells #[Value.int .i64 R.t, .slice A3 R.l.length c3] 26 (0, 0)) := by rw [hW]; exact alloc_at rfl
    have hBW : Below w.heap.size w W := by rw [hW]; exact bal (hB5.trans (hb6.mono hB5.size)) (Nat.le_refl _) _
    have hmW := hm6.alloc (Obj.cells #[Value.int .i64 R.t, .slice A3 R.l.length c3] 26)
    rw [← hW] at hmW ⊢
    clear hW hB5 hm6 hb6
    obtain ⟨r2, hr2⟩ : ∃ r, r = w6.heap.size := ⟨_, rfl⟩
    rw [← hr2] at bW ⊢
    clear hr2
    obtain ⟨p0, p1⟩ := blk2 bW
    by_cases he : R.e = 0
    · obtain ⟨hwr, hckR⟩ := write_back HRR.out.symm he
      have HR := Lib.hid (And.intro hwr hckR)
      clear hwr hckR
      rw [he]
      clear he
      go_upto_region 12 with (go_at_call 8; refine (write_any R.t A3 R.l.length c3 R.l _ hmW hlc6 hcm6).mono ?_; rintro e w7 ⟨rfl, hb7⟩; rw [HR.out.1, HR.out.2])
      have hB7 := hBW.trans (hb7.mono hBW.size)
      clear hb7 hBW hmW p0 p1 bW
      go_wp2_with (go_at_call 5; refine (marking_any _).mono ?_; rintro e w8 ⟨rfl, hb8⟩)
      go_ret
      exact ⟨rfl, hB7.trans (hb8.mono hB7.size)⟩
    · have he' : (R.e != 0) = true := by simp [he]
      clear he
      go_wp2_with (go_at_call 5; refine (marking_any _).mono ?_; rintro e w8 ⟨rfl, hb8⟩)
      go_ret
      exact ⟨rfl, hBW.trans (hb8.mono hBW.size)⟩
end Go.Proofs.YtoidaigiejilcaaDoor
