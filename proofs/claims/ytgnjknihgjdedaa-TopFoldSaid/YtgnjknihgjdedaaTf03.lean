/- TopFold 3: HdV, HdX, Check, Show. -/
import Derived.Test.YtgnjknihgjdedaaTf02
import Derived.Test.YtgnjknihgjdedaaTf01
namespace Go.Proofs.Ytgnjknihgjdedaa
set_option linter.unusedVariables false
set_option linter.unusedSimpArgs false

def namD (d : De) : De :=
  if d.kind = 1 ∨ d.kind = 3 then ⟨d.kind, d.flock, d.owner, 0, 0, d.many, 0, ⟨0, false, false, 0, 0⟩⟩
  else if d.kind = 2 then ⟨d.kind, d.flock, d.owner, d.other, 0, d.many, 0, ⟨0, false, false, 0, 0⟩⟩
  else if d.kind = 4 then ⟨d.kind, d.flock, 0, 0, 0, d.many, 0, ⟨0, false, false, 0, 0⟩⟩
  else if d.kind = 5 then ⟨d.kind, d.flock, 0, 0, d.tof, 0, 0, d.s⟩
  else ⟨d.kind, d.flock, 0, 0, 0, d.many, d.err, ⟨0, false, false, 0, 0⟩⟩
def ownB (n : Nat) (x : Int) : Bool := btw x 0 ((n : Int) - 1)
def fldE (n nf : Nat) (d : De) : Int :=
  if d.kind = 1 ∨ d.kind = 3 then (if ownB n d.owner = false then 3 else if btw d.many 1 20 = false then 1 else 0)
  else if d.kind = 2 then (if ownB n d.owner = false ∨ ownB n d.other = false then 3 else if d.owner = d.other then 4 else if btw d.many 1 20 = false then 1 else 0)
  else if d.kind = 4 then (if btw d.many 1 3 = false then 1 else 0)
  else if d.kind = 5 then (if ownB nf d.tof = false then 3 else if d.tof = d.flock then 4 else seen d.s 9 6)
  else (if btw d.many 0 300 = false ∨ btw d.err 0 20 = false then 1 else 0)
def deedE (n nf : Nat) (d : De) : Int :=
  if btw d.kind 1 6 = false then 8 else if ownB nf d.flock = false then 3 else if fldE n nf d ≠ 0 then fldE n nf d else if d ≠ namD d then 1 else 0
def flocksE (n : Nat) (ks : List Int) (hs : List (List Int)) : Int :=
  if ks.length = 0 then 7 else if 3 < ks.length then 6 else if ks.all (ownB n) = false then 3 else if hs.length ≠ ks.length then 2
  else if hs.all (fun r => decide (r.length = n)) = false then 2 else if hs.all (fun r => r.all fun x => btw x 0 20) = false then 1 else 0
def deedsE (n nf : Nat) : List De → Int
  | [] => 0
  | d :: l => if deedE n nf d ≠ 0 then deedE n nf d else deedsE n nf l
def checkH (t : Int) (l : List Mk) (ks : List Int) (hs : List (List Int)) (ds : List De) : Int :=
  if check t l ≠ 0 then check t l else if flocksE l.length ks hs ≠ 0 then flocksE l.length ks hs else if 6 < ds.length then 6 else deedsE l.length ks.length ds
structure HeOk (t : Int) (l : List Mk) (ks : List Int) (hs : List (List Int)) (ds : List De) : Prop where
  ck : check t l = 0
  n5 : l.length ≤ 5
  n0 : 0 < l.length
  f0 : 0 < ks.length
  f3 : ks.length ≤ 3
  kk : ∀ k ∈ ks, 0 ≤ k ∧ k < l.length
  hl : hs.length = ks.length
  rl : ∀ r ∈ hs, r.length = l.length
  rb : ∀ r ∈ hs, ∀ x ∈ r, 0 ≤ x ∧ x ≤ 20
  d6 : ds.length ≤ 6
  dE : ∀ d ∈ ds, deedE l.length ks.length d = 0
  dI : ∀ d ∈ ds, DeIn l.length ks.length d
end Go.Proofs.Ytgnjknihgjdedaa
namespace Go.Proofs.Ytgnjknihgjdedaa
set_option linter.unusedVariables false
set_option linter.unusedSimpArgs false

structure Sm where
  first : Int
  born : Int
  bought : Int
  sold : Int
  eaten : Int
  deriving DecidableEq
def stepS (o : Int) (s : Sm) (d : De) : Sm :=
  if d.owner = o ∧ d.kind = 1 then { s with born := s.born + d.many }
  else if d.owner = o ∧ d.kind = 2 then { s with sold := s.sold + d.many }
  else if d.owner = o ∧ d.kind = 3 then { s with eaten := s.eaten + d.many }
  else if d.kind = 2 ∧ d.other = o then { s with bought := s.bought + d.many } else s
def sumS (hs : List (List Int)) (o : Nat) (ds : List De) : Sm := ds.foldl (stepS o) ⟨howned (firstH hs) o, 0, 0, 0, 0⟩
def hasS (s : Sm) : Int := s.first + s.born + s.bought - s.sold - s.eaten
def htot (h : List Int) : Int := hall h 0 + hall h 1 + hall h 2
end Go.Proofs.Ytgnjknihgjdedaa
namespace Go.Proofs.Ytgnjknihgjdedaa
open Go.RowKit
set_option linter.unusedVariables false
set_option linter.unusedSimpArgs false

theorem between_any (n lo hi : Int) (w : World) :
    Calls Try.prog 80 #[.int .i64 n, .int .i64 lo, .int .i64 hi] w fun e w' => e = .returned (.bool (btw n lo hi)) ∧ w = w' := by
  by_cases h1 : lo ≤ n <;> by_cases h2 : n ≤ hi
  all_goals
    go_enter Try.func80, Try.ntmps80
    go_wp2
    go_ret
    exact ⟨by simp [btw, h1, h2], rfl⟩

theorem but_any (n m : Int) (w : World) (hn : 0 ≤ n) (hn' : n ≤ 255) (hm : 0 ≤ m) (hm' : m ≤ 255) :
    Calls Try.prog 42 #[.int .i64 n, .int .i64 m] w fun e w' => e = .returned (.int .i64 (butI n m)) ∧ w = w' := by
  go_enter Try.func42, Try.ntmps42
  go_wp2
  go_ret
  exact ⟨ret_int (bits_andNot n m hn hn' hm hm'), rfl⟩

theorem ones64 (x : Int) (w : World) (h0 : 0 ≤ x) (h1 : x ≤ 255) :
    Calls Try.prog 88 #[.int .u64 x] w fun e w' => e = .returned (.int .i64 (popI x)) ∧ w = w' := by
  go_enter Try.func88, Try.ntmps88
  go_wp2
  go_ret
  refine ⟨ret_int ?_, rfl⟩
  obtain ⟨y, rfl⟩ := Int.eq_ofNat_of_zero_le h0
  have h : y < 256 := by omega
  clear h0 h1
  revert y
  decide +kernel
theorem count_any (n : Int) (w : World) (hn : 0 ≤ n) (hn' : n ≤ 255) :
    Calls Try.prog 43 #[.int .i64 n] w fun e w' => e = .returned (.int .i64 (popI n)) ∧ w = w' := by
  have hw : IntKind.u64.wrap n = n := IntWalk.u64_in _ (by omega)
  go_enter Try.func43, Try.ntmps43
  go_wp2_with (first | (go_at_call 88; refine (ones64 n _ hn hn').mono ?_; rintro e w' ⟨rfl, rfl⟩) | go_in)
  go_ret
  exact ⟨rfl, rfl⟩
theorem on_any (n : Int) (s : Sg) (w : World) (hn : 0 ≤ n) (hn' : n ≤ 255) :
    Calls Try.prog 44 #[.int .i64 n, vSg s] w fun e w' => e = .returned (.int .i64 (onI n s.l s.r)) ∧ Below w.heap.size w w' := by
  obtain ⟨sn, l, r, sb, sp⟩ := s
  unfold vSg
  have h1 := bits_andNot n 15 hn hn' (by omega) (by omega)
  have h2 := bits_andNot n 240 hn hn' (by omega) (by omega)
  have h3 := bits_andNot (butI n 15) 240 (butI_lo _ _) (butI_hi _ _) (by omega) (by omega)
  have H := Lib.hid (And.intro h1 (And.intro h2 h3))
  clear h1 h2 h3
  cases l <;> cases r
  all_goals
    go_enter Try.func44, Try.ntmps44
    go_wp2
    go_ret
    refine ⟨ret_int ?_, (Below.refl _ _).alloc (Nat.le_refl _) _⟩
  · exact (onI_ff n hn hn').symm
  · exact H.out.2.1.trans (onI_ft n hn hn').symm
  · exact H.out.1.trans (onI_tf n hn hn').symm
  · refine Eq.trans ?_ (onI_tt n hn hn').symm
    show bits .andNot .i64 (bits .andNot .i64 n 15) 240 = _
    rw [H.out.1, H.out.2.2]
end Go.Proofs.Ytgnjknihgjdedaa

namespace Go.Proofs.Ytgnjknihgjdedaa
open Go.RowKit
set_option linter.unusedVariables false
set_option linter.unusedSimpArgs false

theorem seen_any (s : Sg) (b p : Int) (w : World) :
    Calls Try.prog 41 #[vSg s, .int .i64 b, .int .i64 p] w fun e w' => e = .returned (.int .i64 (seen s b p)) ∧ Below w.heap.size w w' := by
  by_cases h1 : btw s.n 0 255 = true
  · have h1' := btw_iff.1 h1
    go_enter Try.func41, Try.ntmps41
    unfold vSg
    go_wp2_with (first
      | (go_at_call 80; refine (between_any _ _ _ _).mono ?_; rintro e w' ⟨rfl, rfl⟩)
      | (go_at_call 44; refine (on_any s.n s _ h1'.1 h1'.2).mono ?_; rintro e w1 ⟨rfl, hb1⟩; obtain ⟨hc1, hf1⟩ := bc hb1; have hz1 := hb1.size))
    all_goals
      go_ret
      refine ⟨ret_int ?_, ?_⟩
      · simp_all [seen]
      · exact ((Below.refl _ _).alloc (Nat.le_refl _) _).trans (hb1.mono (by simp))
  · have h1' : btw s.n 0 255 = false := by simpa using h1
    go_enter Try.func41, Try.ntmps41
    unfold vSg
    go_wp2_with (go_at_call 80; refine (between_any _ _ _ _).mono ?_; rintro e w' ⟨rfl, rfl⟩)
    go_ret
    exact ⟨ret_int (by simp [seen, h1']), (Below.refl _ _).alloc (Nat.le_refl _) _⟩
theorem sight_any (s : Sg) (w : World) :
    Calls Try.prog 81 #[vSg s] w fun e w' => e = .returned (.int .i64 (seen s 9 6)) ∧ Below w.heap.size w w' := by
  go_enter Try.func81, Try.ntmps81
  unfold vSg
  go_wp2_with (go_at_call 41; refine (seen_any s 9 6 _).mono ?_; rintro e w1 ⟨rfl, hb1⟩)
  go_ret
  exact ⟨rfl, ((Below.refl _ _).alloc (Nat.le_refl _) _).trans (hb1.mono (by simp))⟩

theorem all_step {L : List Int} {q : Nat} {x : Int} {f : Int → Bool} (h : (L.take q).all f = true) (hx : L[q]? = some x) (hf : f x = true) : (L.take (q + 1)).all f = true := by
  rw [List.take_add_one, hx, List.all_append, h]; simp [hf]
theorem all_not {L : List Int} {q : Nat} {x : Int} {f : Int → Bool} (hx : L[q]? = some x) (hf : f x = false) : L.all f = false := by
  rw [List.all_eq_false]; exact ⟨x, List.mem_of_getElem? hx, by simp [hf]⟩
set_option maxHeartbeats 1000000 in
theorem owner_any (t : Int) (A : Option Addr) (n c : Nat) (L : List Int) (B : Option Addr) (m d : Nat) (w : World) (hL : Ints w B m L) (hn : n ≤ maxLen) (hm : m ≤ maxLen) :
    Calls Try.prog 40 #[.agg #[.int .i64 t, .slice A n c], .slice B m d] w fun e w' =>
      e = .returned (.int .i64 (ownerE L n)) ∧ Below w.heap.size w w' := by
  unfold maxLen at hn hm
  have HL := Lib.hid hL
  have hb0 : Below w.heap.size w (w.alloc (Obj.cells #[Value.int IntKind.i64 t, Value.slice A n c] 98)) := (Below.refl _ _).alloc (Nat.le_refl _) _
  have hz0 : (w.alloc (Obj.cells #[Value.int IntKind.i64 t, Value.slice A n c] 98)).heap.size = w.heap.size + 1 := by simp
  have hL0 := hL.alloc (Obj.cells #[Value.int IntKind.i64 t, Value.slice A n c] 98)
  have hblk : (w.alloc (Obj.cells #[Value.int IntKind.i64 t, Value.slice A n c] 98)).heap[w.heap.size]? = some (Obj.cells #[Value.int IntKind.i64 t, Value.slice A n c] 98 (0, 0)) := heap_alloc_new w _
  clear hL
  go_enter Try.func40, Try.ntmps40
  go_wp2
  generalize (w.alloc (Obj.cells #[Value.int IntKind.i64 t, Value.slice A n c] 98)) = W0 at hL0 hblk hb0 hz0 ⊢
  go_loopg [9] m (fun g i wr => ∃ q : Nat, q + g = m ∧ i = .int .i64 q ∧ (L.take q).all (fun x => btw x 0 (n - 1)) = true ∧ W0 = wr)
  case atStart => exact ⟨0, by omega, rfl, by simp, rfl⟩
  case round =>
    obtain ⟨q, hq, rfl, hall, rfl⟩ := hrel
    have HQ := Lib.hid hq
    have HA := Lib.hid hall
    have hqm : q ≤ m := by omega
    clear hq hall
    have r1 : W0.cell? ⟨w.heap.size, 1, none⟩ = some (.slice A n c) := by simp [World.cell?, hblk]
    have hwr := heap_lt hblk
    by_cases hlt : q < m
    · obtain ⟨b, off, x, rfl, hb, hx, d0⟩ := Ints.get hL0 hlt
      have HX := Lib.hid hx
      clear hx
      go_wp2_with (go_at_call 80; refine (between_any _ _ _ _).mono ?_; rintro e w' ⟨rfl, rfl⟩)
      · have hin : btw x 0 (n - 1) = false := by simpa using ‹(!btw x 0 (↑n - 1)) = true›
        go_ret
        exact ⟨ret_int (by unfold ownerE; rw [all_not HX.out hin]; rfl), hb0⟩
      · have hin : btw x 0 (n - 1) = true := by simpa using ‹(!btw x 0 (↑n - 1)) = false›
        go_roundg (gk - 1)
        case measure => have := HQ.out; omega
        case rel => exact ⟨q + 1, by have := HQ.out; omega, by go_num, all_step HA.out HX.out hin, rfl⟩
    · obtain rfl : q = m := by omega
      go_wp2
      go_ret
      refine ⟨ret_int ?_, hb0⟩
      have := HA.out
      rw [List.take_of_length_le (by have := HL.out.len; omega)] at this
      unfold ownerE; rw [this]; rfl
end Go.Proofs.Ytgnjknihgjdedaa

namespace Go.Proofs.Ytgnjknihgjdedaa
open Go.RowKit
set_option linter.unusedVariables false
set_option linter.unusedSimpArgs false

theorem chk_step {l : List Mk} {n k : Nat} {m : Mk} (hl : l.length = n) (hk : k < n) (hm : l[k]? = some m) :
    chk l (n - k) k = if mkOk m = false then 1 else if (l.take k).contains m then 4 else chk l (n - (k + 1)) (k + 1) := by
  obtain ⟨j, hj⟩ : ∃ j, n - k = j + 1 := ⟨n - k - 1, by omega⟩
  rw [hj, show n - (k + 1) = j by omega]
  simp only [chk, hm]
theorem take_no {l : List Mk} {q : Nat} {x m : Mk} (h : (l.take q).contains m = false) (hx : l[q]? = some x) (hne : ¬ x = m) : (l.take (q + 1)).contains m = false := by
  have hlt : q < l.length := (List.getElem?_eq_some_iff.1 hx).1
  rw [List.take_add_one, hx]
  simp only [Option.toList, List.contains_eq_mem, decide_eq_false_iff_not, List.mem_append, List.mem_singleton, not_or] at h ⊢
  exact ⟨h, fun e => hne e.symm⟩
theorem take_yes {l : List Mk} {q k : Nat} {m : Mk} (hx : l[q]? = some m) (hq : q < k) : (l.take k).contains m = true := by
  simp only [List.contains_eq_mem, decide_eq_true_eq]
  exact List.mem_of_getElem? (i := q) (by rw [List.getElem?_take, if_pos hq]; exact hx)

set_option maxHeartbeats 1000000 in
theorem check_any (t : Int) (A : Option Addr) (n c : Nat) (l : List Mk) (w : World) (hc : Marks w A n l) (hlc : n ≤ c) (hcm : c ≤ maxLen) :
    Calls Try.prog 39 #[.agg #[.int .i64 t, .slice A n c]] w fun e w' => e = .returned (.int .i64 (check t l)) ∧ Below w.heap.size w w' := by
  have hl := hc.len
  have HL := Lib.hid hl
  unfold maxLen at hcm
  have hb0 : Below w.heap.size w (w.alloc (Obj.cells #[Value.int IntKind.i64 t, Value.slice A n c] 41)) := (Below.refl _ _).alloc (Nat.le_refl _) _
  by_cases h1 : btw t 0 2 = true
  · by_cases h2 : n ≤ 5
    · have hck : check t l = chk l (n - 0) 0 := by
        unfold check; rw [if_neg (by simp [h1]), if_neg (by omega), hl]; rfl
      have HC := Lib.hid hck
      clear hl hck
      have h3 : decide ((5 : Int) < (n : Int)) = false := by simp; omega
      have hc0 := hc.alloc (Obj.cells #[Value.int IntKind.i64 t, Value.slice A n c] 41)
      have hblk : (w.alloc (Obj.cells #[Value.int IntKind.i64 t, Value.slice A n c] 41)).heap[w.heap.size]? = some (Obj.cells #[Value.int IntKind.i64 t, Value.slice A n c] 41 (0, 0)) := heap_alloc_new w _
      go_enter Try.func39, Try.ntmps39
      go_wp2_with (go_at_call 80; refine (between_any _ _ _ _).mono ?_; rintro e w' ⟨rfl, rfl⟩)
      generalize hW : (w.alloc (Obj.cells #[Value.int IntKind.i64 t, Value.slice A n c] 41)) = W0 at hc0 hblk hb0 ⊢
      clear hW
      have hw0 := heap_lt hblk
      go_loopg [18] n (fun g i wr => ∃ k : Nat, k + g = n ∧ i = .int .i64 k ∧ chk l (n - 0) 0 = chk l (n - k) k ∧ Below W0.heap.size W0 wr)
      case atStart => exact ⟨0, by omega, rfl, rfl, Below.refl _ _⟩
      case round =>
        obtain ⟨k, hk, rfl, hchk, hbl⟩ := hrel
        obtain ⟨wo, rfl⟩ : ∃ wo : World, wo = wr := ⟨_, rfl⟩
        obtain ⟨g1, rfl⟩ : ∃ g1 : Nat, g1 = gk := ⟨_, rfl⟩
        have HK := Lib.hid hchk
        have HKG := Lib.hid hk
        have hk' : k ≤ n := by omega
        clear hchk hk
        have hs0 := hbl.size
        by_cases hlt : k < n
        · obtain ⟨b, off, m, rfl, hb, hm, c0, c1, c2⟩ := Marks.get (hc0.below hbl (Nat.le_refl _)) hlt
          have HM := Lib.hid hm
          have HS := Lib.hid (chk_step HL.out hlt hm)
          clear hm
          have r1 : wo.cell? ⟨w.heap.size, 1, none⟩ = some (.slice (some ⟨b, off, none⟩) n c) := by
            have := bheap hblk hbl (Nat.le_refl _); simp [World.cell?, this]
          have hmarks := (hc0.below hbl (Nat.le_refl _)).alloc (Obj.cells #[Value.int IntKind.i64 m.n, Value.int IntKind.i64 m.b, Value.int IntKind.i64 m.p] 44)
          have hwr : w.heap.size < wo.heap.size := by omega
          by_cases hmk : mkOk m = true
          · have h4 : btw m.n 0 255 = true := by simp [mkOk] at hmk; exact hmk.1
            have h5 : btw m.b 0 9 = true := by simp [mkOk] at hmk; exact hmk.2.1
            have h6 : btw m.p 0 6 = true := by simp [mkOk] at hmk; exact hmk.2.2
            go_wp2_with (go_at_call 80; refine (between_any _ _ _ _).mono ?_; rintro e w' ⟨rfl, rfl⟩)
            generalize hW1 : (wo.alloc (Obj.cells #[Value.int IntKind.i64 m.n, Value.int IntKind.i64 m.b, Value.int IntKind.i64 m.p] 44)) = W1 at hmarks ⊢
            have hblk1 : W1.heap[wo.heap.size]? = some (Obj.cells #[Value.int IntKind.i64 m.n, Value.int IntKind.i64 m.b, Value.int IntKind.i64 m.p] 44 (0, 0)) := by rw [← hW1]; exact heap_alloc_new wo _
            have hb1 : Below W0.heap.size W0 W1 := by rw [← hW1]; exact hbl.alloc hbl.size _
            clear hW1
            have hw1 := heap_lt hblk1
            go_loopg [44] k (fun g i wr => ∃ q : Nat, q + g = k ∧ i = .int .i64 q ∧ (l.take q).contains m = false ∧ Below W1.heap.size W1 wr)
            case atStart => exact ⟨0, by omega, rfl, by simp, Below.refl _ _⟩
            case round =>
              obtain ⟨q, hq, rfl, hno, hbi⟩ := hrel
              have HN := Lib.hid hno
              have HQ := Lib.hid hq
              have hq' : q ≤ k := by omega
              clear hno hq
              have hs1 := hbi.size
              by_cases hqk : q < k
              · obtain ⟨b', off', x, hA, hb', hx, d0, d1, d2⟩ := Marks.get (hmarks.below hbi (Nat.le_refl _)) (show q < n by omega)
                obtain ⟨rfl, rfl⟩ : b' = b ∧ off' = off := by simpa [eq_comm] using hA
                have HX := Lib.hid hx
                clear hx hA
                have e0 : wr.cell? ⟨wo.heap.size, 0, none⟩ = some (.int .i64 m.n) := by have := bheap hblk1 hbi (Nat.le_refl _); simp [World.cell?, this]
                have e1 : wr.cell? ⟨wo.heap.size, 1, none⟩ = some (.int .i64 m.b) := by have := bheap hblk1 hbi (Nat.le_refl _); simp [World.cell?, this]
                have e2 : wr.cell? ⟨wo.heap.size, 2, none⟩ = some (.int .i64 m.p) := by have := bheap hblk1 hbi (Nat.le_refl _); simp [World.cell?, this]
                have hwi : wo.heap.size < wr.heap.size := by omega
                by_cases hxm : x = m
                · subst hxm
                  go_wp2
                  go_ret
                  refine ⟨ret_int ?_, ?_⟩
                  · rw [HC.out, HK.out, HS.out, if_neg (by simp [hmk]), if_pos (take_yes HX.out hqk)]
                  · exact hb0.trans ((hb1.trans (hbi.mono hb1.size)).mono hb0.size |>.alloc (by omega) _)
                · have hne : ¬ (x.n = m.n ∧ x.b = m.b ∧ x.p = m.p) := fun h => hxm (by cases x; cases m; simp_all)
                  have HNE := Lib.hid hne
                  clear hne hxm
                  go_wp2
                  · exact absurd ⟨‹_›, ‹_›, ‹_›⟩ HNE.out
                  all_goals
                    go_roundg (gk - 1)
                    case measure => have := HQ.out; omega
                    case rel => exact ⟨q + 1, by have := HQ.out; omega, by go_num, take_no HN.out HX.out (fun e => HNE.out (by rw [e]; exact ⟨rfl, rfl, rfl⟩)), hbi.alloc hbi.size _⟩
              · obtain rfl : q = k := by omega
                go_wp2
                go_roundg (g1 - 1)
                case measure => have := HKG.out; omega
                case rel =>
                  refine ⟨q + 1, by have := HKG.out; omega, by go_num, ?_, (hb1.trans (hbi.mono hb1.size))⟩
                  rw [HK.out, HS.out, if_neg (by simp [hmk]), if_neg (by rw [HN.out]; simp)]
          · have hmk' : mkOk m = false := by simpa using hmk
            have hsp : ¬ (btw m.n 0 255 = true ∧ btw m.b 0 9 = true ∧ btw m.p 0 6 = true) := by simpa [mkOk] using hmk
            have HSP := Lib.hid hsp
            clear hsp hmk
            go_wp2_with (go_at_call 80; refine (between_any _ _ _ _).mono ?_; rintro e w' ⟨rfl, rfl⟩)
            all_goals first
              | (go_ret
                 exact ⟨ret_int (by rw [HC.out, HK.out, HS.out, if_pos hmk']), hb0.trans ((hbl.alloc hbl.size _).mono hb0.size)⟩)
              | (exfalso; exact HSP.out ⟨‹_›, ‹_›, by simpa using ‹(!btw m.p 0 6) = false›⟩)
        · obtain rfl : k = n := by omega
          go_wp2
          go_ret
          exact ⟨ret_int (by rw [HC.out, HK.out, Nat.sub_self]; rfl), hb0.trans (hbl.mono hb0.size)⟩
    · have h3 : decide ((5 : Int) < (n : Int)) = true := by simp; omega
      have hck : check t l = 6 := by
        unfold check; rw [if_neg (by simp [h1]), if_pos (by omega)]
      have HC := Lib.hid hck
      clear hl hck
      go_enter Try.func39, Try.ntmps39
      go_wp2_with (go_at_call 80; refine (between_any _ _ _ _).mono ?_; rintro e w' ⟨rfl, rfl⟩)
      go_ret
      exact ⟨ret_int HC.out.symm, hb0⟩
  · have h1' : btw t 0 2 = false := by simpa using h1
    have hck : check t l = 1 := by
      unfold check; rw [if_pos h1']
    have HC := Lib.hid hck
    clear hl hck h1
    go_enter Try.func39, Try.ntmps39
    go_wp2_with (go_at_call 80; refine (between_any _ _ _ _).mono ?_; rintro e w' ⟨rfl, rfl⟩)
    go_ret
    exact ⟨ret_int HC.out.symm, hb0⟩
end Go.Proofs.Ytgnjknihgjdedaa
namespace Go.Proofs.Ytgnjknihgjdedaa
open Go.RowKit
set_option linter.unusedVariables false
set_option linter.unusedSimpArgs false

def mkAt (l : List Mk) (o : Int) : Mk := (l[o.toNat]?).getD ⟨0, 0, 0⟩
def showE (t : Int) (l : List Mk) (o : Int) (s : Sg) : Int :=
  if check t l ≠ 0 then check t l else if ownerE [o] l.length ≠ 0 then 3 else if seen s 0 0 ≠ 0 then seen s 0 0 else
  if t < (popI (butI s.n (mkAt l o).n) : Int) then 9 else 0
def wornS (m : Mk) (s : Sg) : Sg := ⟨onI (orI m.n s.n) s.l s.r, s.l, s.r, if s.b = -1 then -1 else m.b, if s.p = -1 then -1 else m.p⟩
def showS (t : Int) (l : List Mk) (o : Int) (s : Sg) : Sg := if showE t l o s = 0 then wornS (mkAt l o) s else ⟨0, false, false, 0, 0⟩
theorem ownerE_or (L : List Int) (n : Nat) : ownerE L n = 0 ∨ ownerE L n = 3 := by unfold ownerE; split <;> simp
theorem ownerE_one {o : Int} {n : Nat} : ownerE [o] n = 0 ↔ 0 ≤ o ∧ o < n := by
  unfold ownerE
  by_cases h : btw o 0 ((n : Int) - 1) = true
  · simp [h]; rw [btw_iff] at h; omega
  · simp [h]
    rw [btw_iff] at h
    omega

set_option maxHeartbeats 2000000 in
theorem Show_ok (t : Int) (A : Option Addr) (n c : Nat) (l : List Mk) (o : Int) (s : Sg) (w : World) (HL : Hid (Marks w A n l)) (HN : Hid (l.length = n)) (hlc : n ≤ c) (hcm : c ≤ maxLen) (hnm : n ≤ maxLen)
    (hb0 : Below w.heap.size w (((w.alloc (Obj.cells #[Value.int .i64 t, .slice A n c] 41)).alloc (Obj.cells #[Value.int .i64 s.n, .bool s.l, .bool s.r, .int .i64 s.b, .int .i64 s.p] 52)).alloc (Obj.cells #[Value.int .i64 0, .bool false, .bool false, .int .i64 0, .int .i64 0] 52)))
    (h0 : (check t l != 0) = false) (HC : Hid (check t l = 0)) (h1 : (ownerE [o] n != 0) = false) (HO : Hid (ownerE [o] n = 0)) (hse : seen s 0 0 = 0) :
    Calls Try.prog 15 #[.agg #[.int .i64 t, .slice A n c], .int .i64 o, vSg s] w fun e w' => e = .returned (.tuple #[vSg (showS t l o s), .int .i64 (showE t l o s)]) ∧ Below w.heap.size w w' := by
  have h2 : (seen s 0 0 != 0) = false := by simp [hse]
  have HS := Lib.hid hse
  clear hse
  go_enter Try.func15, Try.ntmps15
  unfold vSg
  go_wp2_with (first
    | (go_at_call 39; refine (check_any t A n c l _ (((HL.out.alloc _).alloc _).alloc _) hlc hcm).mono ?_; rintro e w1 ⟨rfl, hb1⟩; obtain ⟨hc1, hf1⟩ := bc hb1; have hz1 := hb1.size; simp at hz1; have g1 : w.heap.size < w1.heap.size := (by omega); have g2 : w.heap.size + 1 < w1.heap.size := (by omega); have g3 : w.heap.size + 1 + 1 < w1.heap.size := (by omega); have HB1 := Lib.hid hb1; clear hb1)
    | (go_at_call 40; refine (owner_any t A n c [o] (some ⟨w1.heap.size + 1, 0, none⟩) 1 1 _ ?_ hnm (by decide)).mono ?_; (have := ints1 (w1.alloc (Obj.cells #[Value.int .i64 t, .slice A n c] 98)) 3 o; simpa using this); rintro e w2 ⟨rfl, hb2⟩; obtain ⟨hc2, hf2⟩ := bc hb2; have hz2 := hb2.size; simp at hz2; have i1 : w.heap.size < w2.heap.size := (by omega); have i2 : w.heap.size + 1 < w2.heap.size := (by omega); have i3 : w.heap.size + 1 + 1 < w2.heap.size := (by omega); have i4 : w1.heap.size < w2.heap.size := (by omega); have HB2 := Lib.hid hb2; clear hb2)
    | (go_at_call 41; refine (seen_any s 0 0 _).mono ?_; rintro e w3 ⟨rfl, hb3⟩; obtain ⟨hc3, hf3⟩ := bc hb3; have hz3 := hb3.size; have j1 : w.heap.size < w3.heap.size := (by omega); have j2 : w.heap.size + 1 < w3.heap.size := (by omega); have j3 : w.heap.size + 1 + 1 < w3.heap.size := (by omega); have j4 : w1.heap.size < w3.heap.size := (by omega); have HB3 := Lib.hid hb3; clear hb3))
  have b5 := bheap (bheap (hblk_alloc (hblk_alloc (bheap (hblk_alloc (alloc_at (w := w.alloc (Obj.cells #[Value.int .i64 t, .slice A n c] 41)) (o := Obj.cells #[Value.int .i64 s.n, .bool s.l, .bool s.r, .int .i64 s.b, .int .i64 s.p] 52) (n := w.heap.size + 1) (by simp)) _) HB1.out (Nat.le_refl _)) _) _) HB2.out (Nat.le_refl _)) HB3.out (Nat.le_refl _)
  have b6 := bheap (bheap (hblk_alloc (hblk_alloc (bheap (alloc_at (w := (w.alloc (Obj.cells #[Value.int .i64 t, .slice A n c] 41)).alloc (Obj.cells #[Value.int .i64 s.n, .bool s.l, .bool s.r, .int .i64 s.b, .int .i64 s.p] 52)) (o := Obj.cells #[Value.int .i64 0, .bool false, .bool false, .int .i64 0, .int .i64 0] 52) (n := w.heap.size + 1 + 1) (by simp)) HB1.out (Nat.le_refl _)) _) _) HB2.out (Nat.le_refl _)) HB3.out (Nat.le_refl _)
  have b9 := bheap (bheap (hblk_alloc (alloc_at (w := w1) (o := Obj.cells #[Value.int .i64 t, .slice A n c] 98) rfl) _) HB2.out (Nat.le_refl _)) HB3.out (Nat.le_refl _)
  have hm3 : Marks w3 A n l := (((((((HL.out.alloc _).alloc _).alloc _).below HB1.out (Nat.le_refl _)).alloc _).alloc _).below HB2.out (Nat.le_refl _)).below HB3.out (Nat.le_refl _)
  have HB := Lib.hid (show Below w.heap.size w w3 from (hb0.trans (HB1.out.mono (by simp; omega))).trans ((((Below.refl _ w1).alloc (Nat.le_refl _) _).alloc (by simp) _).mono (by omega) |>.trans ((HB2.out.mono (by simp; omega)).trans (HB3.out.mono (by omega)))))
  obtain ⟨ho0, ho1⟩ := ownerE_one.1 HO.out
  obtain ⟨k, rfl⟩ := Int.eq_ofNat_of_zero_le ho0
  have hkn : k < n := by omega
  have hkl : (k : Int) < (n : Int) := by omega
  obtain ⟨b, off, m, rfl, hb, hm, m0, m1, m2⟩ := Marks.get hm3 hkn
  have HM := Lib.hid (show mkAt l (k : Int) = m by simp [mkAt, hm])
  have hmv := (check_marks HC.out m (List.mem_of_getElem? hm)).1
  have hsv := (seen_ok HS.out).1
  clear hm hc1 hf1 hc2 hf2 hc3 hf3 hm3 hb0 HB1 HB2 HB3 h0 h1 h2 ho0 ho1
  obtain ⟨s0, s1, s2, s3, s4⟩ := blk5 b5
  obtain ⟨z0, z1, z2, z3, z4⟩ := blk5 b6
  obtain ⟨r0, r1⟩ := blk2 b9
  have HBK := Lib.hid (And.intro b5 (And.intro b6 b9))
  clear b5 b6 b9
  go_region
  have hq1 := butI_lo s.n m.n
  have hq2 := butI_hi s.n m.n
  go_wp2_with fail
  obtain ⟨W4, hW4⟩ : ∃ W4, W4 = (w3.alloc (Obj.cells #[Value.int .i64 m.n, .int .i64 m.b, .int .i64 m.p] 44)).drew := ⟨_, rfl⟩
  have hB4 : Below w3.heap.size w3 W4 := by rw [hW4]; exact ((Below.refl _ _).alloc (Nat.le_refl _) _).drew
  have b12 : W4.heap[w3.heap.size]? = some (Obj.cells #[Value.int .i64 m.n, .int .i64 m.b, .int .i64 m.p] 44 (0, 0)) := by rw [hW4]; exact alloc_at rfl
  rw [← hW4]
  clear hW4
  have m0 := bcell m0 hB4 (Nat.le_refl _)
  have r0 := bcell r0 hB4 (Nat.le_refl _)
  have r1 := bcell r1 hB4 (Nat.le_refl _)
  have b5 := bheap HBK.out.1 hB4 (Nat.le_refl _)
  have b6 := bheap HBK.out.2.1 hB4 (Nat.le_refl _)
  have HB4 := Lib.hid (show Below w.heap.size w W4 from HB.out.trans (hB4.mono HB.out.size))
  have HBK4 := Lib.hid (And.intro b5 (And.intro b6 b12))
  have e6 : w.heap.size + 1 + 1 < W4.heap.size := heap_lt b6
  have e5 : w.heap.size + 1 < W4.heap.size := by omega
  have e12 : w3.heap.size < W4.heap.size := heap_lt b12
  clear m1 m2 s0 s1 s2 s3 s4 z0 z1 z2 z3 z4 HBK HB hB4 b5 b6 b12
  go_quiet ((first
    | (go_at_call 42; exact quiet_left (but_any _ _ _ (by exact hsv.1) (by exact hsv.2) (by exact hmv.1) (by exact hmv.2)))
    | (go_at_call 43; exact quiet_left (count_any _ _ (by assumption) (by assumption)))))
  have HE := Lib.hid (show showE t l (k : Int) s = if t < (popI (butI s.n m.n) : Int) then 9 else 0 by
    unfold showE; rw [if_neg (by simp [HC.out]), if_neg (by rw [HN.out]; simp [HO.out]), if_neg (by simp [HS.out]), HM.out])
  obtain ⟨W5, hW5⟩ : ∃ W5, W5 = W4.drewN nq := ⟨_, rfl⟩
  have hB5 : Below W4.heap.size W4 W5 := by rw [hW5]; exact below_drewN (Below.refl _ _) _
  have hBK5 : _ ∧ _ ∧ _ := ⟨bheap HBK4.out.1 hB5 (Nat.le_refl _), bheap HBK4.out.2.1 hB5 (Nat.le_refl _), bheap HBK4.out.2.2 hB5 (Nat.le_refl _)⟩
  have hB5' : Below w.heap.size w W5 := HB4.out.trans (hB5.mono HB4.out.size)
  rw [← hW5]
  clear hW5 HB4 HBK4 e6 e5 e12 hB5
  obtain ⟨W4', rfl⟩ : ∃ W4', W4' = W4 := ⟨_, rfl⟩
  obtain ⟨W4, rfl⟩ : ∃ W4, W4 = W5 := ⟨_, rfl⟩
  have HBK4 := Lib.hid hBK5
  have HB4 := Lib.hid hB5'
  have e6 : w.heap.size + 1 + 1 < W4.heap.size := heap_lt HBK4.out.2.1
  have e5 : w.heap.size + 1 < W4.heap.size := by omega
  have e12 : w3.heap.size < W4.heap.size := heap_lt HBK4.out.2.2
  clear hBK5 hB5' m0
  obtain ⟨s0, s1, s2, s3, s4⟩ := blk5 HBK4.out.1
  obtain ⟨z0, z1, z2, z3, z4⟩ := blk5 HBK4.out.2.1
  obtain ⟨m0, m1, m2⟩ := blk3 HBK4.out.2.2
  have fz : ∀ i, W4.frozen? ⟨w.heap.size + 1 + 1, i, none⟩ = false := fun i => by simp [World.frozen?, HBK4.out.2.1]
  by_cases hbar : t < (popI (butI s.n m.n) : Int)
  · have HBA := Lib.hid hbar
    have hbar' : decide (t < (popI (butI s.n m.n) : Int)) = true := by simp [hbar]
    clear hbar
    simp only [hbar']
    go_wp2
    refine bodyPost_ret (v := .tuple #[vSg ⟨0, false, false, 0, 0⟩, .int .i64 9]) (by simp [results, Try.f15, go_sem, vSg, z0, z1, z2, z3, z4]) rfl ?_
    have hE := HE.out
    rw [if_pos HBA.out] at hE
    have hS : showS t l (k : Int) s = ⟨0, false, false, 0, 0⟩ := by unfold showS; rw [if_neg (by rw [hE]; decide)]
    refine ⟨by rw [hS, hE]; rfl, ?_⟩
    exact (((((HB4.out.setCell (by dsimp; omega) _).setCell (by dsimp; omega) _).setCell (by dsimp; omega) _).setCell (by dsimp; omega) _).setCell (by dsimp; omega) _)
  · have HBA := Lib.hid hbar
    have hbar' : decide (t < (popI (butI s.n m.n) : Int)) = false := by simp [hbar]
    clear hbar
    have hor := bits_or m.n s.n hmv.1 hmv.2 hsv.1 hsv.2
    have hol := orI_lo m.n s.n
    have hoh := orI_hi hmv.2 hsv.2
    simp only [hbar']
    go_upto_if 72 with (go_at_call 44; refine (on_any (orI m.n s.n) s _ hol hoh).mono ?_; rintro e w5 ⟨rfl, hb5⟩; obtain ⟨hc5, hf5⟩ := bc hb5; have hz5 := hb5.size; simp at hz5; have l1 : w.heap.size + 1 < w5.heap.size := (by omega); have l2 : w.heap.size + 1 + 1 < w5.heap.size := (by omega); have l3 : w3.heap.size < w5.heap.size := (by omega); have l4 : W4.heap.size < w5.heap.size := (by omega); have HB5 := Lib.hid hb5; clear hb5)
    have d14 := bheap (alloc_at (w := W4) (o := Obj.cells #[Value.int .i64 s.n, .bool s.l, .bool s.r, .int .i64 s.b, .int .i64 s.p] 52) rfl) HB5.out (Nat.le_refl _)
    have d12 := bheap (hblk_alloc HBK4.out.2.2 (Obj.cells #[Value.int .i64 s.n, .bool s.l, .bool s.r, .int .i64 s.b, .int .i64 s.p] 52)) HB5.out (Nat.le_refl _)
    have d6 := bheap (hblk_alloc HBK4.out.2.1 (Obj.cells #[Value.int .i64 s.n, .bool s.l, .bool s.r, .int .i64 s.b, .int .i64 s.p] 52)) HB5.out (Nat.le_refl _)
    have hbw5 : Below w.heap.size w w5 := HB4.out.trans (((Below.refl _ _).alloc (Nat.le_refl _) _).mono HB4.out.size |>.trans (HB5.out.mono (by simp; omega)))
    obtain ⟨W6, hW6⟩ : ∃ W6, W6 = w5.setCell ⟨W4.heap.size, 0, none⟩ (.int .i64 (onI (orI m.n s.n) s.l s.r)) := ⟨_, rfl⟩
    have k14 : W6.heap[W4.heap.size]? = some (Obj.cells #[Value.int .i64 (onI (orI m.n s.n) s.l s.r), .bool s.l, .bool s.r, .int .i64 s.b, .int .i64 s.p] 52 (0, 0)) := by rw [hW6]; simp [World.setCell, Array.getElem?_modify, d14]
    have k12 : W6.heap[w3.heap.size]? = some (Obj.cells #[Value.int .i64 m.n, .int .i64 m.b, .int .i64 m.p] 44 (0, 0)) := by rw [hW6]; exact (Below.heap_setCell w5 ⟨W4.heap.size, 0, none⟩ _ _ (by dsimp; omega)).trans d12
    have k6 : W6.heap[w.heap.size + 1 + 1]? = some (Obj.cells #[Value.int .i64 0, .bool false, .bool false, .int .i64 0, .int .i64 0] 52 (0, 0)) := by rw [hW6]; exact (Below.heap_setCell w5 ⟨W4.heap.size, 0, none⟩ _ _ (by dsimp; omega)).trans d6
    have hbw6 : Below w.heap.size w W6 := by rw [hW6]; exact hbw5.setCell (by dsimp; omega) _
    rw [← hW6]
    have hz6 : W4.heap.size < W6.heap.size := heap_lt k14
    clear hW6 d14 d12 d6 hbw5 hc5 hf5 HB5 l1 l2 l3 l4 hz5 s0 s1 s2 s3 s4 z0 z1 z2 z3 z4 m0 m1 m2 fz
    obtain ⟨s0, s1, s2, s3, s4⟩ := blk5 k14
    obtain ⟨m0, m1, m2⟩ := blk3 k12
    obtain ⟨z0, z1, z2, z3, z4⟩ := blk5 k6
    have fz : ∀ i, W6.frozen? ⟨w.heap.size + 1 + 1, i, none⟩ = false := fun i => by simp [World.frozen?, k6]
    have fs : ∀ i, W6.frozen? ⟨W4.heap.size, i, none⟩ = false := fun i => by simp [World.frozen?, k14]
    have HK6 := Lib.hid (And.intro k6 (And.intro k12 (And.intro k14 hbw6)))
    have hE := HE.out
    rw [if_neg (by have := HBA.out; omega)] at hE
    have HE2 := Lib.hid hE
    clear k6 k12 k14 hbw6 hE HE hor
    cases hb1 : (s.b != -1) <;> cases hb2 : (s.p != -1)
    all_goals go_wp2
    · refine bodyPost_ret (v := .tuple #[vSg ⟨onI (orI m.n s.n) s.l s.r, s.l, s.r, s.b, s.p⟩, .int .i64 0]) (by simp [results, Try.f15, go_sem, vSg, z0, z1, z2, z3, z4]) rfl ?_
      have hbb : s.b = -1 := by simpa using hb1
      have hpp : s.p = -1 := by simpa using hb2
      have hS : showS t l (k : Int) s = ⟨onI (orI m.n s.n) s.l s.r, s.l, s.r, s.b, s.p⟩ := by
        unfold showS; rw [if_pos HE2.out, HM.out]; unfold wornS; simp [hbb, hpp]
      refine ⟨by rw [hS, HE2.out]; rfl, ?_⟩
      have hb6 := HK6.out.2.2.2
      repeat' (first | (with_reducible exact hb6) | refine Below.setCell ?_ (by dsimp; omega) _)
    · refine bodyPost_ret (v := .tuple #[vSg ⟨onI (orI m.n s.n) s.l s.r, s.l, s.r, s.b, m.p⟩, .int .i64 0]) (by simp [results, Try.f15, go_sem, vSg, z0, z1, z2, z3, z4]) rfl ?_
      have hbb : s.b = -1 := by simpa using hb1
      have hpp : ¬ s.p = -1 := by simpa using hb2
      have hS : showS t l (k : Int) s = ⟨onI (orI m.n s.n) s.l s.r, s.l, s.r, s.b, m.p⟩ := by
        unfold showS; rw [if_pos HE2.out, HM.out]; unfold wornS; simp [hbb, hpp]
      refine ⟨by rw [hS, HE2.out]; rfl, ?_⟩
      have hb6 := HK6.out.2.2.2
      repeat' (first | (with_reducible exact hb6) | refine Below.setCell ?_ (by dsimp; omega) _)
    · refine bodyPost_ret (v := .tuple #[vSg ⟨onI (orI m.n s.n) s.l s.r, s.l, s.r, m.b, s.p⟩, .int .i64 0]) (by simp [results, Try.f15, go_sem, vSg, z0, z1, z2, z3, z4]) rfl ?_
      have hbb : ¬ s.b = -1 := by simpa using hb1
      have hpp : s.p = -1 := by simpa using hb2
      have hS : showS t l (k : Int) s = ⟨onI (orI m.n s.n) s.l s.r, s.l, s.r, m.b, s.p⟩ := by
        unfold showS; rw [if_pos HE2.out, HM.out]; unfold wornS; simp [hbb, hpp]
      refine ⟨by rw [hS, HE2.out]; rfl, ?_⟩
      have hb6 := HK6.out.2.2.2
      repeat' (first | (with_reducible exact hb6) | refine Below.setCell ?_ (by dsimp; omega) _)
    · refine bodyPost_ret (v := .tuple #[vSg ⟨onI (orI m.n s.n) s.l s.r, s.l, s.r, m.b, m.p⟩, .int .i64 0]) (by simp [results, Try.f15, go_sem, vSg, z0, z1, z2, z3, z4]) rfl ?_
      have hbb : ¬ s.b = -1 := by simpa using hb1
      have hpp : ¬ s.p = -1 := by simpa using hb2
      have hS : showS t l (k : Int) s = ⟨onI (orI m.n s.n) s.l s.r, s.l, s.r, m.b, m.p⟩ := by
        unfold showS; rw [if_pos HE2.out, HM.out]; unfold wornS; simp [hbb, hpp]
      refine ⟨by rw [hS, HE2.out]; rfl, ?_⟩
      have hb6 := HK6.out.2.2.2
      repeat' (first | (with_reducible exact hb6) | refine Below.setCell ?_ (by dsimp; omega) _)

set_option maxHeartbeats 2000000 in
theorem Show_any (t : Int) (A : Option Addr) (n c : Nat) (l : List Mk) (o : Int) (s : Sg) (w : World) (hl : Marks w A n l) (hlc : n ≤ c) (hcm : c ≤ maxLen) :
    Calls Try.prog 15 #[.agg #[.int .i64 t, .slice A n c], .int .i64 o, vSg s] w fun e w' => e = .returned (.tuple #[vSg (showS t l o s), .int .i64 (showE t l o s)]) ∧ Below w.heap.size w w' := by
  have HL := Lib.hid hl
  have HN := Lib.hid hl.len
  have hnm : n ≤ maxLen := by omega
  have hb0 : Below w.heap.size w (((w.alloc (Obj.cells #[Value.int .i64 t, .slice A n c] 41)).alloc (Obj.cells #[Value.int .i64 s.n, .bool s.l, .bool s.r, .int .i64 s.b, .int .i64 s.p] 52)).alloc (Obj.cells #[Value.int .i64 0, .bool false, .bool false, .int .i64 0, .int .i64 0] 52)) := (((Below.refl _ _).alloc (Nat.le_refl _) _).alloc (by simp) _).alloc (by simp; omega) _
  clear hl
  by_cases hck : check t l = 0
  · have h0 : (check t l != 0) = false := by simp [hck]
    have HC := Lib.hid hck
    clear hck
    by_cases how : ownerE [o] n = 0
    · have h1 : (ownerE [o] n != 0) = false := by simp [how]
      have HO := Lib.hid how
      clear how
      by_cases hse : seen s 0 0 = 0
      · exact Show_ok t A n c l o s w HL HN hlc hcm hnm hb0 h0 HC h1 HO hse
      · have h2 : (seen s 0 0 != 0) = true := by simp [hse]
        have HE := Lib.hid (show showE t l o s = seen s 0 0 by unfold showE; rw [if_neg (by simp [HC.out]), if_neg (by rw [HN.out]; simp [HO.out]), if_pos hse])
        have HS := Lib.hid hse
        clear hse
        go_enter Try.func15, Try.ntmps15
        unfold vSg
        go_wp2_with (first
          | (go_at_call 39; refine (check_any t A n c l _ (((HL.out.alloc _).alloc _).alloc _) hlc hcm).mono ?_; rintro e w1 ⟨rfl, hb1⟩; obtain ⟨hc1, hf1⟩ := bc hb1; have hz1 := hb1.size; simp at hz1; have g1 : w.heap.size < w1.heap.size := (by omega); have g2 : w.heap.size + 1 < w1.heap.size := (by omega); have g3 : w.heap.size + 1 + 1 < w1.heap.size := (by omega); have HB1 := Lib.hid hb1; clear hb1)
          | (go_at_call 40; refine (owner_any t A n c [o] (some ⟨w1.heap.size + 1, 0, none⟩) 1 1 _ ?_ hnm (by decide)).mono ?_; (have := ints1 (w1.alloc (Obj.cells #[Value.int .i64 t, .slice A n c] 98)) 3 o; simpa using this); rintro e w2 ⟨rfl, hb2⟩; obtain ⟨hc2, hf2⟩ := bc hb2; have hz2 := hb2.size; simp at hz2; have i1 : w.heap.size < w2.heap.size := (by omega); have i2 : w.heap.size + 1 < w2.heap.size := (by omega); have i3 : w.heap.size + 1 + 1 < w2.heap.size := (by omega); have i4 : w1.heap.size < w2.heap.size := (by omega); have HB2 := Lib.hid hb2; clear hb2)
          | (go_at_call 41; refine (seen_any s 0 0 _).mono ?_; rintro e w3 ⟨rfl, hb3⟩; obtain ⟨hc3, hf3⟩ := bc hb3; have hz3 := hb3.size; have j1 : w.heap.size < w3.heap.size := (by omega); have j2 : w.heap.size + 1 < w3.heap.size := (by omega); have j3 : w.heap.size + 1 + 1 < w3.heap.size := (by omega); have j4 : w1.heap.size < w3.heap.size := (by omega); have HB3 := Lib.hid hb3; clear hb3))
        refine bodyPost_ret (v := .tuple #[vSg ⟨0, false, false, 0, 0⟩, .int .i64 (seen s 0 0)]) (by simp [results, Try.f15, go_sem, vSg, g1, g2, g3, hc1, hc2, hc3, i1, i2, i3, i4, j1, j2, j3, j4]) rfl ?_
        have hE := HE.out
        have hS : showS t l o s = ⟨0, false, false, 0, 0⟩ := by unfold showS; rw [if_neg (by rw [hE]; exact HS.out)]
        refine ⟨by rw [hS, hE]; rfl, ?_⟩
        have hbb : Below w.heap.size w w3 := (hb0.trans (HB1.out.mono (by simp; omega))).trans ((((Below.refl _ w1).alloc (Nat.le_refl _) _).alloc (by simp) _).mono (by omega) |>.trans ((HB2.out.mono (by simp; omega)).trans (HB3.out.mono (by omega))))
        repeat' (first | (with_reducible exact hbb) | refine Below.setCell ?_ (by dsimp; omega) _)
    · have h1 : (ownerE [o] n != 0) = true := by simp [how]
      have hw3 : ownerE [o] n = 3 := (ownerE_or _ _).resolve_left how
      have HE := Lib.hid (show showE t l o s = ownerE [o] n by unfold showE; rw [if_neg (by simp [HC.out]), if_pos (by rw [HN.out]; exact how), hw3])
      have HS := Lib.hid how
      clear how hw3
      go_enter Try.func15, Try.ntmps15
      unfold vSg
      go_wp2_with (first
        | (go_at_call 39; refine (check_any t A n c l _ (((HL.out.alloc _).alloc _).alloc _) hlc hcm).mono ?_; rintro e w1 ⟨rfl, hb1⟩; obtain ⟨hc1, hf1⟩ := bc hb1; have hz1 := hb1.size; simp at hz1; have g1 : w.heap.size < w1.heap.size := (by omega); have g2 : w.heap.size + 1 < w1.heap.size := (by omega); have g3 : w.heap.size + 1 + 1 < w1.heap.size := (by omega); have HB1 := Lib.hid hb1; clear hb1)
        | (go_at_call 40; refine (owner_any t A n c [o] (some ⟨w1.heap.size + 1, 0, none⟩) 1 1 _ ?_ hnm (by decide)).mono ?_; (have := ints1 (w1.alloc (Obj.cells #[Value.int .i64 t, .slice A n c] 98)) 3 o; simpa using this); rintro e w2 ⟨rfl, hb2⟩; obtain ⟨hc2, hf2⟩ := bc hb2; have hz2 := hb2.size; simp at hz2; have i1 : w.heap.size < w2.heap.size := (by omega); have i2 : w.heap.size + 1 < w2.heap.size := (by omega); have i3 : w.heap.size + 1 + 1 < w2.heap.size := (by omega); have i4 : w1.heap.size < w2.heap.size := (by omega); have HB2 := Lib.hid hb2; clear hb2))
      refine bodyPost_ret (v := .tuple #[vSg ⟨0, false, false, 0, 0⟩, .int .i64 (ownerE [o] n)]) (by simp [results, Try.f15, go_sem, vSg, g1, g2, g3, hc1, hc2, i1, i2, i3, i4]) rfl ?_
      have hE := HE.out
      have hS : showS t l o s = ⟨0, false, false, 0, 0⟩ := by unfold showS; rw [if_neg (by rw [hE]; exact HS.out)]
      refine ⟨by rw [hS, hE]; rfl, ?_⟩
      have hbb : Below w.heap.size w w2 := (hb0.trans (HB1.out.mono (by simp; omega))).trans ((((Below.refl _ w1).alloc (Nat.le_refl _) _).alloc (by simp) _).mono (by omega) |>.trans (HB2.out.mono (by simp; omega)))
      repeat' (first | (with_reducible exact hbb) | refine Below.setCell ?_ (by dsimp; omega) _)
  · have h0 : (check t l != 0) = true := by simp [hck]
    have HE := Lib.hid (show showE t l o s = check t l by unfold showE; rw [if_pos hck])
    have HS := Lib.hid hck
    clear hck
    go_enter Try.func15, Try.ntmps15
    unfold vSg
    go_wp2_with (first
      | (go_at_call 39; refine (check_any t A n c l _ (((HL.out.alloc _).alloc _).alloc _) hlc hcm).mono ?_; rintro e w1 ⟨rfl, hb1⟩; obtain ⟨hc1, hf1⟩ := bc hb1; have hz1 := hb1.size; simp at hz1; have g1 : w.heap.size < w1.heap.size := (by omega); have g2 : w.heap.size + 1 < w1.heap.size := (by omega); have g3 : w.heap.size + 1 + 1 < w1.heap.size := (by omega); have HB1 := Lib.hid hb1; clear hb1))
    refine bodyPost_ret (v := .tuple #[vSg ⟨0, false, false, 0, 0⟩, .int .i64 (check t l)]) (by simp [results, Try.f15, go_sem, vSg, g1, g2, g3, hc1]) rfl ?_
    have hE := HE.out
    have hS : showS t l o s = ⟨0, false, false, 0, 0⟩ := by unfold showS; rw [if_neg (by rw [hE]; exact HS.out)]
    refine ⟨by rw [hS, hE]; rfl, ?_⟩
    have hbb : Below w.heap.size w w1 := hb0.trans (HB1.out.mono (by simp; omega))
    repeat' (first | (with_reducible exact hbb) | refine Below.setCell ?_ (by dsimp; omega) _)
end Go.Proofs.Ytgnjknihgjdedaa
