/- The inner functions of package mark that look at one register, one mark, one sight: between, but, count, on, Check, seen, sight.
   mark.seen and mark.sight return the error of a sight; book.owner that of the numbers of owners; fits, may.
   mark.Check returns the first error of a register; seen, sight: the error of a sight. -/
import Derived.Test.YtoidaigiejilcaaDoorBase
namespace Go.Proofs.YtoidaigiejilcaaDoor
open Go.RowKit
set_option linter.unusedVariables false
set_option linter.unusedSimpArgs false

theorem between_any (n lo hi : Int) (w : World) :
    Calls Tryd.prog 46 #[.int .i64 n, .int .i64 lo, .int .i64 hi] w fun e w' => e = .returned (.bool (btw n lo hi)) ∧ w = w' := by
  by_cases h1 : lo ≤ n <;> by_cases h2 : n ≤ hi
  all_goals
    go_enter Tryd.func46, Tryd.ntmps46
    go_wp2
    go_ret
    exact ⟨by simp [btw, h1, h2], rfl⟩

theorem but_any (n m : Int) (w : World) (hn : 0 ≤ n) (hn' : n ≤ 255) (hm : 0 ≤ m) (hm' : m ≤ 255) :
    Calls Tryd.prog 40 #[.int .i64 n, .int .i64 m] w fun e w' => e = .returned (.int .i64 (butI n m)) ∧ w = w' := by
  go_enter Tryd.func40, Tryd.ntmps40
  go_wp2
  go_ret
  exact ⟨ret_int (bits_andNot n m hn hn' hm hm'), rfl⟩

theorem ones64 (x : Int) (w : World) (h0 : 0 ≤ x) (h1 : x ≤ 255) :
    Calls Tryd.prog 74 #[.int .u64 x] w fun e w' => e = .returned (.int .i64 (popI x)) ∧ w = w' := by
  go_enter Tryd.func74, Tryd.ntmps74
  go_wp2
  go_ret
  refine ⟨ret_int ?_, rfl⟩
  obtain ⟨y, rfl⟩ := Int.eq_ofNat_of_zero_le h0
  have h : y < 256 := by omega
  clear h0 h1
  revert y
  decide +kernel
theorem count_any (n : Int) (w : World) (hn : 0 ≤ n) (hn' : n ≤ 255) :
    Calls Tryd.prog 41 #[.int .i64 n] w fun e w' => e = .returned (.int .i64 (popI n)) ∧ w = w' := by
  have hw : IntKind.u64.wrap n = n := IntWalk.u64_in _ (by omega)
  go_enter Tryd.func41, Tryd.ntmps41
  go_wp2_with (first | (go_at_call 74; refine (ones64 n _ hn hn').mono ?_; rintro e w' ⟨rfl, rfl⟩) | go_in)
  go_ret
  exact ⟨rfl, rfl⟩
theorem on_any (n : Int) (s : Sg) (w : World) (hn : 0 ≤ n) (hn' : n ≤ 255) :
    Calls Tryd.prog 42 #[.int .i64 n, vSg s] w fun e w' => e = .returned (.int .i64 (onI n s.l s.r)) ∧ Below w.heap.size w w' := by
  obtain ⟨sn, l, r, sb, sp⟩ := s
  unfold vSg
  have h1 := bits_andNot n 15 hn hn' (by omega) (by omega)
  have h2 := bits_andNot n 240 hn hn' (by omega) (by omega)
  have h3 := bits_andNot (butI n 15) 240 (butI_lo _ _) (butI_hi _ _) (by omega) (by omega)
  have H := Lib.hid (And.intro h1 (And.intro h2 h3))
  clear h1 h2 h3
  cases l <;> cases r
  all_goals
    go_enter Tryd.func42, Tryd.ntmps42
    go_wp2
    go_ret
    refine ⟨ret_int ?_, (Below.refl _ _).alloc (Nat.le_refl _) _⟩
  · exact (onI_ff n hn hn').symm
  · exact H.out.2.1.trans (onI_ft n hn hn').symm
  · exact H.out.1.trans (onI_tf n hn hn').symm
  · refine Eq.trans ?_ (onI_tt n hn hn').symm
    show bits .andNot .i64 (bits .andNot .i64 n 15) 240 = _
    rw [H.out.1, H.out.2.2]
end Go.Proofs.YtoidaigiejilcaaDoor

namespace Go.Proofs.YtoidaigiejilcaaDoor
open Go.RowKit
set_option linter.unusedVariables false
set_option linter.unusedSimpArgs false

theorem seen_any (s : Sg) (b p : Int) (w : World) :
    Calls Tryd.prog 39 #[vSg s, .int .i64 b, .int .i64 p] w fun e w' => e = .returned (.int .i64 (seen s b p)) ∧ Below w.heap.size w w' := by
  by_cases h1 : btw s.n 0 255 = true
  · have h1' := btw_iff.1 h1
    go_enter Tryd.func39, Tryd.ntmps39
    unfold vSg
    go_wp2_with (first
      | (go_at_call 46; refine (between_any _ _ _ _).mono ?_; rintro e w' ⟨rfl, rfl⟩)
      | (go_at_call 42; refine (on_any s.n s _ h1'.1 h1'.2).mono ?_; rintro e w1 ⟨rfl, hb1⟩; obtain ⟨hc1, hf1⟩ := bc hb1; have hz1 := hb1.size))
    all_goals
      go_ret
      refine ⟨ret_int ?_, ?_⟩
      · simp_all [seen]
      · exact ((Below.refl _ _).alloc (Nat.le_refl _) _).trans (hb1.mono (by simp))
  · have h1' : btw s.n 0 255 = false := by simpa using h1
    go_enter Tryd.func39, Tryd.ntmps39
    unfold vSg
    go_wp2_with (go_at_call 46; refine (between_any _ _ _ _).mono ?_; rintro e w' ⟨rfl, rfl⟩)
    go_ret
    exact ⟨ret_int (by simp [seen, h1']), (Below.refl _ _).alloc (Nat.le_refl _) _⟩
theorem sight_any (s : Sg) (w : World) :
    Calls Tryd.prog 43 #[vSg s] w fun e w' => e = .returned (.int .i64 (seen s 9 6)) ∧ Below w.heap.size w w' := by
  go_enter Tryd.func43, Tryd.ntmps43
  unfold vSg
  go_wp2_with (go_at_call 39; refine (seen_any s 9 6 _).mono ?_; rintro e w1 ⟨rfl, hb1⟩)
  go_ret
  exact ⟨rfl, ((Below.refl _ _).alloc (Nat.le_refl _) _).trans (hb1.mono (by simp))⟩

/-- owner: all numbers are those of owners -/
theorem all_step {L : List Int} {q : Nat} {x : Int} {f : Int → Bool} (h : (L.take q).all f = true) (hx : L[q]? = some x) (hf : f x = true) : (L.take (q + 1)).all f = true := by
  rw [List.take_add_one, hx, List.all_append, h]; simp [hf]
theorem all_not {L : List Int} {q : Nat} {x : Int} {f : Int → Bool} (hx : L[q]? = some x) (hf : f x = false) : L.all f = false := by
  rw [List.all_eq_false]; exact ⟨x, List.mem_of_getElem? hx, by simp [hf]⟩
set_option maxHeartbeats 1000000 in
theorem owner_any (t : Int) (A : Option Addr) (n c : Nat) (L : List Int) (B : Option Addr) (m d : Nat) (w : World) (hL : Ints w B m L) (hn : n ≤ maxLen) (hm : m ≤ maxLen) :
    Calls Tryd.prog 38 #[.agg #[.int .i64 t, .slice A n c], .slice B m d] w fun e w' =>
      e = .returned (.int .i64 (ownerE L n)) ∧ Below w.heap.size w w' := by
  unfold maxLen at hn hm
  have HL := Lib.hid hL
  have hb0 : Below w.heap.size w (w.alloc (Obj.cells #[Value.int IntKind.i64 t, Value.slice A n c] 79)) := (Below.refl _ _).alloc (Nat.le_refl _) _
  have hz0 : (w.alloc (Obj.cells #[Value.int IntKind.i64 t, Value.slice A n c] 79)).heap.size = w.heap.size + 1 := by simp
  have hL0 := hL.alloc (Obj.cells #[Value.int IntKind.i64 t, Value.slice A n c] 79)
  have hblk : (w.alloc (Obj.cells #[Value.int IntKind.i64 t, Value.slice A n c] 79)).heap[w.heap.size]? = some (Obj.cells #[Value.int IntKind.i64 t, Value.slice A n c] 79 (0, 0)) := heap_alloc_new w _
  clear hL
  go_enter Tryd.func38, Tryd.ntmps38
  go_wp2
  generalize (w.alloc (Obj.cells #[Value.int IntKind.i64 t, Value.slice A n c] 79)) = W0 at hL0 hblk hb0 hz0 ⊢
  go_loopg [9] m (fun g i wr => ∃ q : Nat, q + g = m ∧ i = .int .i64 q ∧ (L.take q).all (fun x => btw x 0 (n - 1)) = true ∧ W0 = wr)
  case atStart => exact ⟨0, by omega, rfl, by simp, rfl⟩
  case round =>
    obtain ⟨q, hq, rfl, hall, rfl⟩ := hrel
    have HQ := Lib.hid hq
    have HA := Lib.hid hall
    have hqm : q ≤ m := by omega
    clear hq hall
    have r1 : W0.cell? ⟨w.heap.size, 1, none⟩ = some (.slice A n c) := by simp [World.cell?, hblk]
    have hwr := heap_lt hblk
    by_cases hlt : q < m
    · obtain ⟨b, off, x, rfl, hb, hx, d0⟩ := Ints.get hL0 hlt
      have HX := Lib.hid hx
      clear hx
      go_wp2_with (go_at_call 46; refine (between_any _ _ _ _).mono ?_; rintro e w' ⟨rfl, rfl⟩)
      · have hin : btw x 0 (n - 1) = false := by simpa using ‹(!btw x 0 (↑n - 1)) = true›
        go_ret
        exact ⟨ret_int (by unfold ownerE; rw [all_not HX.out hin]; rfl), hb0⟩
      · have hin : btw x 0 (n - 1) = true := by simpa using ‹(!btw x 0 (↑n - 1)) = false›
        go_roundg (gk - 1)
        case measure => have := HQ.out; omega
        case rel => exact ⟨q + 1, by have := HQ.out; omega, by go_num, all_step HA.out HX.out hin, rfl⟩
    · obtain rfl : q = m := by omega
      go_wp2
      go_ret
      refine ⟨ret_int ?_, hb0⟩
      have := HA.out
      rw [List.take_of_length_le (by have := HL.out.len; omega)] at this
      unfold ownerE; rw [this]; rfl
end Go.Proofs.YtoidaigiejilcaaDoor

namespace Go.Proofs.YtoidaigiejilcaaDoor
open Go.RowKit
set_option linter.unusedVariables false
set_option linter.unusedSimpArgs false

theorem chk_step {l : List Mk} {n k : Nat} {m : Mk} (hl : l.length = n) (hk : k < n) (hm : l[k]? = some m) :
    chk l (n - k) k = if mkOk m = false then 1 else if (l.take k).contains m then 4 else chk l (n - (k + 1)) (k + 1) := by
  obtain ⟨j, hj⟩ : ∃ j, n - k = j + 1 := ⟨n - k - 1, by omega⟩
  rw [hj, show n - (k + 1) = j by omega]
  simp only [chk, hm]
theorem take_no {l : List Mk} {q : Nat} {x m : Mk} (h : (l.take q).contains m = false) (hx : l[q]? = some x) (hne : ¬ x = m) : (l.take (q + 1)).contains m = false := by
  have hlt : q < l.length := (List.getElem?_eq_some_iff.1 hx).1
  rw [List.take_add_one, hx]
  simp only [Option.toList, List.contains_eq_mem, decide_eq_false_iff_not, List.mem_append, List.mem_singleton, not_or] at h ⊢
  exact ⟨h, fun e => hne e.symm⟩
theorem take_yes {l : List Mk} {q k : Nat} {m : Mk} (hx : l[q]? = some m) (hq : q < k) : (l.take k).contains m = true := by
  simp only [List.contains_eq_mem, decide_eq_true_eq]
  exact List.mem_of_getElem? (i := q) (by rw [List.getElem?_take, if_pos hq]; exact hx)

set_option maxHeartbeats 1000000 in
theorem check_any (t : Int) (A : Option Addr) (n c : Nat) (l : List Mk) (w : World) (hc : Marks w A n l) (hlc : n ≤ c) (hcm : c ≤ maxLen) :
    Calls Tryd.prog 26 #[.agg #[.int .i64 t, .slice A n c]] w fun e w' => e = .returned (.int .i64 (check t l)) ∧ Below w.heap.size w w' := by
  have hl := hc.len
  have HL := Lib.hid hl
  unfold maxLen at hcm
  have hb0 : Below w.heap.size w (w.alloc (Obj.cells #[Value.int IntKind.i64 t, Value.slice A n c] 26)) := (Below.refl _ _).alloc (Nat.le_refl _) _
  by_cases h1 : btw t 0 2 = true
  · by_cases h2 : n ≤ 5
    · have hck : check t l = chk l (n - 0) 0 := by
        unfold check; rw [if_neg (by simp [h1]), if_neg (by omega), hl]; rfl
      have HC := Lib.hid hck
      clear hl hck
      have h3 : decide ((5 : Int) < (n : Int)) = false := by simp; omega
      have hc0 := hc.alloc (Obj.cells #[Value.int IntKind.i64 t, Value.slice A n c] 26)
      have hblk : (w.alloc (Obj.cells #[Value.int IntKind.i64 t, Value.slice A n c] 26)).heap[w.heap.size]? = some (Obj.cells #[Value.int IntKind.i64 t, Value.slice A n c] 26 (0, 0)) := heap_alloc_new w _
      go_enter Tryd.func26, Tryd.ntmps26
      go_wp2_with (go_at_call 46; refine (between_any _ _ _ _).mono ?_; rintro e w' ⟨rfl, rfl⟩)
      generalize hW : (w.alloc (Obj.cells #[Value.int IntKind.i64 t, Value.slice A n c] 26)) = W0 at hc0 hblk hb0 ⊢
      clear hW
      have hw0 := heap_lt hblk
      go_loopg [18] n (fun g i wr => ∃ k : Nat, k + g = n ∧ i = .int .i64 k ∧ chk l (n - 0) 0 = chk l (n - k) k ∧ Below W0.heap.size W0 wr)
      case atStart => exact ⟨0, by omega, rfl, rfl, Below.refl _ _⟩
      case round =>
        obtain ⟨k, hk, rfl, hchk, hbl⟩ := hrel
        obtain ⟨wo, rfl⟩ : ∃ wo : World, wo = wr := ⟨_, rfl⟩
        obtain ⟨g1, rfl⟩ : ∃ g1 : Nat, g1 = gk := ⟨_, rfl⟩
        have HK := Lib.hid hchk
        have HKG := Lib.hid hk
        have hk' : k ≤ n := by omega
        clear hchk hk
        have hs0 := hbl.size
        by_cases hlt : k < n
        · obtain ⟨b, off, m, rfl, hb, hm, c0, c1, c2⟩ := Marks.get (hc0.below hbl (Nat.le_refl _)) hlt
          have HM := Lib.hid hm
          have HS := Lib.hid (chk_step HL.out hlt hm)
          clear hm
          have r1 : wo.cell? ⟨w.heap.size, 1, none⟩ = some (.slice (some ⟨b, off, none⟩) n c) := by
            have := bheap hblk hbl (Nat.le_refl _); simp [World.cell?, this]
          have hmarks := (hc0.below hbl (Nat.le_refl _)).alloc (Obj.cells #[Value.int IntKind.i64 m.n, Value.int IntKind.i64 m.b, Value.int IntKind.i64 m.p] 52)
          have hwr : w.heap.size < wo.heap.size := by omega
          by_cases hmk : mkOk m = true
          · have h4 : btw m.n 0 255 = true := by simp [mkOk] at hmk; exact hmk.1
            have h5 : btw m.b 0 9 = true := by simp [mkOk] at hmk; exact hmk.2.1
            have h6 : btw m.p 0 6 = true := by simp [mkOk] at hmk; exact hmk.2.2
            go_wp2_with (go_at_call 46; refine (between_any _ _ _ _).mono ?_; rintro e w' ⟨rfl, rfl⟩)
            generalize hW1 : (wo.alloc (Obj.cells #[Value.int IntKind.i64 m.n, Value.int IntKind.i64 m.b, Value.int IntKind.i64 m.p] 52)) = W1 at hmarks ⊢
            have hblk1 : W1.heap[wo.heap.size]? = some (Obj.cells #[Value.int IntKind.i64 m.n, Value.int IntKind.i64 m.b, Value.int IntKind.i64 m.p] 52 (0, 0)) := by rw [← hW1]; exact heap_alloc_new wo _
            have hb1 : Below W0.heap.size W0 W1 := by rw [← hW1]; exact hbl.alloc hbl.size _
            clear hW1
            have hw1 := heap_lt hblk1
            go_loopg [44] k (fun g i wr => ∃ q : Nat, q + g = k ∧ i = .int .i64 q ∧ (l.take q).contains m = false ∧ Below W1.heap.size W1 wr)
            case atStart => exact ⟨0, by omega, rfl, by simp, Below.refl _ _⟩
            case round =>
              obtain ⟨q, hq, rfl, hno, hbi⟩ := hrel
              have HN := Lib.hid hno
              have HQ := Lib.hid hq
              have hq' : q ≤ k := by omega
              clear hno hq
              have hs1 := hbi.size
              by_cases hqk : q < k
              · obtain ⟨b', off', x, hA, hb', hx, d0, d1, d2⟩ := Marks.get (hmarks.below hbi (Nat.le_refl _)) (show q < n by omega)
                obtain ⟨rfl, rfl⟩ : b' = b ∧ off' = off := by simpa [eq_comm] using hA
                have HX := Lib.hid hx
                clear hx hA
                have e0 : wr.cell? ⟨wo.heap.size, 0, none⟩ = some (.int .i64 m.n) := by have := bheap hblk1 hbi (Nat.le_refl _); simp [World.cell?, this]
                have e1 : wr.cell? ⟨wo.heap.size, 1, none⟩ = some (.int .i64 m.b) := by have := bheap hblk1 hbi (Nat.le_refl _); simp [World.cell?, this]
                have e2 : wr.cell? ⟨wo.heap.size, 2, none⟩ = some (.int .i64 m.p) := by have := bheap hblk1 hbi (Nat.le_refl _); simp [World.cell?, this]
                have hwi : wo.heap.size < wr.heap.size := by omega
                by_cases hxm : x = m
                · subst hxm
                  go_wp2
                  go_ret
                  refine ⟨ret_int ?_, ?_⟩
                  · rw [HC.out, HK.out, HS.out, if_neg (by simp [hmk]), if_pos (take_yes HX.out hqk)]
                  · exact hb0.trans ((hb1.trans (hbi.mono hb1.size)).mono hb0.size |>.alloc (by omega) _)
                · have hne : ¬ (x.n = m.n ∧ x.b = m.b ∧ x.p = m.p) := fun h => hxm (by cases x; cases m; simp_all)
                  have HNE := Lib.hid hne
                  clear hne hxm
                  go_wp2
                  · exact absurd ⟨‹_›, ‹_›, ‹_›⟩ HNE.out
                  all_goals
                    go_roundg (gk - 1)
                    case measure => have := HQ.out; omega
                    case rel => exact ⟨q + 1, by have := HQ.out; omega, by go_num, take_no HN.out HX.out (fun e => HNE.out (by rw [e]; exact ⟨rfl, rfl, rfl⟩)), hbi.alloc hbi.size _⟩
              · obtain rfl : q = k := by omega
                go_wp2
                go_roundg (g1 - 1)
                case measure => have := HKG.out; omega
                case rel =>
                  refine ⟨q + 1, by have := HKG.out; omega, by go_num, ?_, (hb1.trans (hbi.mono hb1.size))⟩
                  rw [HK.out, HS.out, if_neg (by simp [hmk]), if_neg (by rw [HN.out]; simp)]
          · have hmk' : mkOk m = false := by simpa using hmk
            have hsp : ¬ (btw m.n 0 255 = true ∧ btw m.b 0 9 = true ∧ btw m.p 0 6 = true) := by simpa [mkOk] using hmk
            have HSP := Lib.hid hsp
            clear hsp hmk
            go_wp2_with (go_at_call 46; refine (between_any _ _ _ _).mono ?_; rintro e w' ⟨rfl, rfl⟩)
            all_goals first
              | (go_ret
                 exact ⟨ret_int (by rw [HC.out, HK.out, HS.out, if_pos hmk']), hb0.trans ((hbl.alloc hbl.size _).mono hb0.size)⟩)
              | (exfalso; exact HSP.out ⟨‹_›, ‹_›, by simpa using ‹(!btw m.p 0 6) = false›⟩)
        · obtain rfl : k = n := by omega
          go_wp2
          go_ret
          exact ⟨ret_int (by rw [HC.out, HK.out, Nat.sub_self]; rfl), hb0.trans (hbl.mono hb0.size)⟩
    · have h3 : decide ((5 : Int) < (n : Int)) = true := by simp; omega
      have hck : check t l = 6 := by
        unfold check; rw [if_neg (by simp [h1]), if_pos (by omega)]
      have HC := Lib.hid hck
      clear hl hck
      go_enter Tryd.func26, Tryd.ntmps26
      go_wp2_with (go_at_call 46; refine (between_any _ _ _ _).mono ?_; rintro e w' ⟨rfl, rfl⟩)
      go_ret
      exact ⟨ret_int HC.out.symm, hb0⟩
  · have h1' : btw t 0 2 = false := by simpa using h1
    have hck : check t l = 1 := by
      unfold check; rw [if_pos h1']
    have HC := Lib.hid hck
    clear hl hck h1
    go_enter Tryd.func26, Tryd.ntmps26
    go_wp2_with (go_at_call 46; refine (between_any _ _ _ _).mono ?_; rintro e w' ⟨rfl, rfl⟩)
    go_ret
    exact ⟨ret_int HC.out.symm, hb0⟩
end Go.Proofs.YtoidaigiejilcaaDoor
