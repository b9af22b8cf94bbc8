/- mark.digit, places and Write: a register as text. -/
import Derived.Test.YtoidaigiejilcaaDoorCheck
import Derived.Test.YtoidaigiejilcaaDoorWearOf
import Derived.Test.YtoidaigiejilcaaDoorRegs
import Derived.Test.YtoidaigiejilcaaDoorShow
import Derived.Lib.SlBytesConst
import Derived.Laws.IdiomStrings
namespace Go.Proofs.YtoidaigiejilcaaDoor
open Go.RowKit
set_option linter.unusedVariables false
set_option linter.unusedSimpArgs false

def dgB (n : Int) : UInt8 := UInt8.ofNat (48 + n.toNat)
def dgS (n : Int) : ByteArray := ⟨#[dgB n]⟩
def chB (n : Int) (i : Nat) : UInt8 := if bit n i then 120 else 46
def plB (n : Int) (f : Nat) : List UInt8 := (List.range 4).map fun i => chB n (f + i)
def plS (n : Int) (f : Nat) : ByteArray := ⟨(plB n f).toArray⟩
theorem dgB_int {n : Int} (h0 : 0 ≤ n) (h1 : n ≤ 9) : ((dgB n).toNat : Int) = 48 + n := by
  unfold dgB
  rw [UInt8.toNat_ofNat']
  omega

set_option maxRecDepth 100000 in
theorem digit_any (n : Int) (w : World) (h0 : 0 ≤ n) (h1 : n ≤ 9) :
    Calls Tryd.prog 27 #[.int .i64 n] w fun e w' => e = .returned (.string (dgS n)) ∧ Below w.heap.size w w' := by
  have hw : IntKind.u8.wrap (48 + n) = 48 + n := IntWalk.u8_in _ (by omega)
  have kb : (convert 72 9 (.slice (some ⟨w.heap.size, 0, none⟩) 1 1)).run Tryd.prog (w.alloc (.cells #[.int .u8 (48 + n)] 5)) = .ok (.string (dgS n)) (w.alloc (.cells #[.int .u8 (48 + n)] 5)) := by
    have h := run_convert_bytes_back (P := Tryd.prog) (w.alloc (.cells #[.int .u8 (48 + n)] 5)) 72 9 5 ⟨w.heap.size, 0, none⟩ 1 [dgB n] Tryd.underlying72 Tryd.underlying5 Tryd.underlying9 (fun j hj => by
      have hj0 : j = 0 := by simpa using hj
      subst hj0
      rw [Addr.add_lit]
      show (w.alloc (.cells #[.int .u8 (48 + n)] 5)).cell? ⟨w.heap.size, 0, none⟩ = some (.int .u8 ((dgB n).toNat : Int))
      rw [dgB_int h0 h1]
      exact blk1 (alloc_at rfl))
    exact h
  go_enter Tryd.func27, Tryd.ntmps27
  go_wp2
  go_ret
  exact ⟨rfl, bal0 w _⟩

/-- the place of the i-th notch, written so far up to k -/
def chP (n : Int) (f k i : Nat) : Int := if i < k ∧ bit n (f + i) = true then 120 else 46
def plC (n : Int) (f k : Nat) : Array Value := #[.int .u8 (chP n f k 0), .int .u8 (chP n f k 1), .int .u8 (chP n f k 2), .int .u8 (chP n f k 3)]
theorem chP_skip {n : Int} {f k i : Nat} (h : bit n (f + k) = false) : chP n f (k + 1) i = chP n f k i := by
  unfold chP
  by_cases hi : i = k
  · subst hi; rw [if_neg (by rw [h]; simp), if_neg (by omega)]
  · by_cases h2 : i < k ∧ bit n (f + i) = true
    · rw [if_pos h2, if_pos ⟨by omega, h2.2⟩]
    · rw [if_neg h2, if_neg (fun h3 => h2 ⟨by omega, h3.2⟩)]
theorem plC_skip {n : Int} {f k : Nat} (h : bit n (f + k) = false) : plC n f (k + 1) = plC n f k := by
  unfold plC; rw [chP_skip h, chP_skip h, chP_skip h, chP_skip h]
theorem chP_take {n : Int} {f k i : Nat} (h : bit n (f + k) = true) : chP n f (k + 1) i = if i = k then 120 else chP n f k i := by
  unfold chP
  by_cases hi : i = k
  · subst hi; rw [if_pos ⟨by omega, h⟩, if_pos rfl]
  · rw [if_neg hi]
    by_cases h2 : i < k ∧ bit n (f + i) = true
    · rw [if_pos h2, if_pos ⟨by omega, h2.2⟩]
    · rw [if_neg h2, if_neg (fun h3 => h2 ⟨by omega, h3.2⟩)]
theorem plC_take {n : Int} {f k : Nat} (hk : k < 4) (h : bit n (f + k) = true) : plC n f (k + 1) = (plC n f k).setIfInBounds k (.int .u8 120) := by
  unfold plC
  rw [chP_take h, chP_take h, chP_take h, chP_take h]
  have hk' : k = 0 ∨ k = 1 ∨ k = 2 ∨ k = 3 := by omega
  rcases hk' with rfl | rfl | rfl | rfl <;> rfl
theorem frz_at {w : World} {b i lo hi : Nat} {t : TypeId} {cs : Array Value} (h : w.heap[b]? = some (.cells cs t (lo, hi))) (hi' : i < lo) : w.frozen? ⟨b, i, none⟩ = false := by
  simp [World.frozen?, h]; omega
theorem blk4f {w : World} {b : Nat} {t : TypeId} {x : Nat × Nat} {cs : Array Value} (h : w.heap[b]? = some (.cells cs t x)) (i : Nat) : w.cell? ⟨b, i, none⟩ = cs[i]? := by simp [World.cell?, h]

theorem plC_end (n : Int) (f j : Nat) (hj : j < (plB n f).length) : (plC n f 4)[j]? = some (.int .u8 (((plB n f)[j]'hj).toNat : Int)) := by
  have hj0 : j < 4 := by simpa [plB] using hj
  have e : (plC n f 4)[j]? = some (.int .u8 (if bit n (f + j) = true then 120 else 46)) := by
    obtain rfl | rfl | rfl | rfl : j = 0 ∨ j = 1 ∨ j = 2 ∨ j = 3 := by omega
    all_goals simp [plC, chP]
  rw [e]
  simp only [plB, List.getElem_map, List.getElem_range, chB]
  by_cases h : bit n (f + j) = true
  · rw [if_pos h, if_pos h]; rfl
  · rw [if_neg h, if_neg h]; rfl

set_option maxRecDepth 100000 in
set_option maxHeartbeats 2000000 in
theorem places_any (n : Int) (f : Nat) (w : World) (h0 : 0 ≤ n) (h1 : n ≤ 255) (hf : f = 0 ∨ f = 4) :
    Calls Tryd.prog 28 #[.int .i64 n, .int .i64 f] w fun e w' => e = .returned (.string (plS n f)) ∧ Below w.heap.size w w' := by
  have kc := fun (w : World) (C : Array Value) (n c : Nat) => Lib.run_convert_bytes_const (P := Tryd.prog) w 72 5 C n c Tryd.underlying72 Tryd.underlying5
  obtain ⟨nn, rfl⟩ := Int.eq_ofNat_of_zero_le h0
  have hnn : nn < 256 := by omega
  go_enter Tryd.func28, Tryd.ntmps28
  go_upto_region 2 with (fail)
  obtain ⟨W, hW⟩ : ∃ W, W = w.alloc (.cells (plC (nn : Int) f 0) 5 (4, 5)) := ⟨_, rfl⟩
  have hb0 : Below w.heap.size w W := by rw [hW]; exact bal0 w _
  have bW : W.heap[w.heap.size]? = some (.cells (plC (nn : Int) f 0) 5 (4, 5)) := by rw [hW]; exact alloc_at rfl
  have hW' : W = w.alloc (Obj.cells #[.int .u8 46, .int .u8 46, .int .u8 46, .int .u8 46] 5 (4, 5)) := by
    rw [hW]; unfold plC chP; simp
  have HB0 := Lib.hid hb0
  have HBW := Lib.hid bW
  rw [← hW']
  clear hW hW' hb0 bW kc
  go_wp2_with fail
  go_loopg [11] 4 (fun g i wr => ∃ k : Nat, k + g = 4 ∧ i = .int .i64 k ∧ wr.heap[w.heap.size]? = some (.cells (plC (nn : Int) f k) 5 (4, 5)) ∧ Below w.heap.size w wr)
  case atStart => exact ⟨0, rfl, rfl, HBW.out, HB0.out⟩
  case round =>
    obtain ⟨k, hk, rfl, hbk, hB⟩ := hrel
    by_cases hlt : k < 4
    · have d0 : (decide ((k : Int) < 4)) = true := decide_eq_true (by omega)
      have HK := Lib.hid hk
      have HBK := Lib.hid (And.intro hbk hB)
      have hwb := heap_lt hbk
      have hc : wr.cell? ⟨w.heap.size, k, none⟩ = some (.int .u8 (chP (nn : Int) f k k)) := by
        rw [blk4f hbk]
        obtain rfl | rfl | rfl | rfl : k = 0 ∨ k = 1 ∨ k = 2 ∨ k = 3 := by omega
        all_goals rfl
      have hfz : wr.frozen? ⟨w.heap.size, k, none⟩ = false := frz_at hbk hlt
      have H1 := Lib.hid (bit_i64 nn (f + k) hnn (by omega))
      have HS := Lib.hid (And.intro hc hfz)
      have hb : ((wr.setCell ⟨w.heap.size, k, none⟩ (.int .u8 120)).heap[w.heap.size]? = some (.cells ((plC (nn : Int) f k).setIfInBounds k (.int .u8 120)) 5 (4, 5))) := set_blk hbk
      have HBS := Lib.hid (And.intro hb (Below.setCell hB (p := ⟨w.heap.size, k, none⟩) (Nat.le_refl _) (.int .u8 120)))
      have HT := Lib.hid (fun h : (bits BinOp.and IntKind.i64 ((nn : Int) / 2 ^ (f + k)) 1 == 1) = true => (⟨k + 1, rfl, by rw [plC_take (n := (nn : Int)) (f := f) hlt (show bit (nn : Int) (f + k) = true from H1.out.symm.trans h)]; exact hb, HBS.out.2⟩ : ∃ k', k' = k + 1 ∧ ((wr.setCell ⟨w.heap.size, k, none⟩ (.int .u8 120)).heap[w.heap.size]? = some (.cells (plC (nn : Int) f k') 5 (4, 5))) ∧ Below w.heap.size w (wr.setCell ⟨w.heap.size, k, none⟩ (.int .u8 120))))
      have HN := Lib.hid (fun h : (bits BinOp.and IntKind.i64 ((nn : Int) / 2 ^ (f + k)) 1 == 1) = false => (⟨k + 1, rfl, by rw [plC_skip (n := (nn : Int)) (f := f) (k := k) (show bit (nn : Int) (f + k) = false from H1.out.symm.trans h)]; exact hbk, hB⟩ : ∃ k', k' = k + 1 ∧ (wr.heap[w.heap.size]? = some (.cells (plC (nn : Int) f k') 5 (4, 5))) ∧ Below w.heap.size w wr))
      clear hbk hB hk hb H1 HBS HBK
      have HF := Lib.hid (show k = 0 ∨ k = 1 ∨ k = 2 ∨ k = 3 by omega)
      clear HBW HB0
      rcases hf with rfl | rfl <;> rcases HF.out with rfl | rfl | rfl | rfl
      all_goals
        go_upto_region 5 with (fail)
        go_wp2
        · rename_i h
          obtain ⟨k', hk', h1, h2⟩ := HT.out (by simpa using h)
          go_roundg (gk - 1)
          case measure => have := HK.out; omega
          case rel => exact ⟨k', by have := HK.out; omega, by subst hk'; go_num, h1, h2⟩
        · rename_i h
          obtain ⟨k', hk', h1, h2⟩ := HN.out (by simpa using h)
          go_roundg (gk - 1)
          case measure => have := HK.out; omega
          case rel => exact ⟨k', by have := HK.out; omega, by subst hk'; go_num, h1, h2⟩
    · obtain rfl : k = 4 := by omega
      have kb : (convert 72 9 (.slice (some ⟨w.heap.size, 0, none⟩) 4 4)).run Tryd.prog wr = .ok (.string (plS (nn : Int) f)) wr := by
        have h := run_convert_bytes_back (P := Tryd.prog) wr 72 9 5 ⟨w.heap.size, 0, none⟩ 4 (plB (nn : Int) f) Tryd.underlying72 Tryd.underlying5 Tryd.underlying9 (fun j hj => by
          rw [Addr.add_lit, Nat.zero_add, blk4f hbk]
          exact plC_end (nn : Int) f j hj)
        exact h
      have HB := Lib.hid hB
      clear hB hbk
      go_wp2
      go_ret
      exact ⟨rfl, HB.out⟩

def slS : ByteArray := ⟨#[47]⟩
def nlS : ByteArray := ⟨#[10]⟩
def wrM (m : Mk) : ByteArray := plS m.n 0 ++ slS ++ plS m.n 4 ++ ⟨#[32, 98]⟩ ++ dgS m.b ++ ⟨#[32, 112]⟩ ++ dgS m.p ++ nlS
def wrTo (t : Int) (l : List Mk) : Nat → ByteArray
  | 0 => (⟨#[116, 101, 97, 114, 115, 32]⟩ : ByteArray) ++ dgS t ++ nlS
  | k + 1 => wrTo t l k ++ wrM (mkAt l k)
def wrS (t : Int) (l : List Mk) : ByteArray := if check t l = 0 then wrTo t l l.length ++ ⟨#[109, 97, 114, 107, 115, 32, 101, 110, 100, 10]⟩ else ⟨#[]⟩

set_option maxRecDepth 100000 in
set_option maxHeartbeats 2000000 in
theorem write_any (t : Int) (A : Option Addr) (n c : Nat) (l : List Mk) (w : World) (hc : Marks w A n l) (hlc : n ≤ c) (hcm : c ≤ maxLen) :
    Calls Tryd.prog 8 #[.agg #[.int .i64 t, .slice A n c]] w fun e w' => e = .returned (.tuple #[.string (wrS t l), .int .i64 (check t l)]) ∧ Below w.heap.size w w' := by
  have HL := Lib.hid hc
  have HN := Lib.hid hc.len
  have hb0 : Below w.heap.size w (w.alloc (Obj.cells #[Value.int IntKind.i64 t, Value.slice A n c] 26)) := (Below.refl _ _).alloc (Nat.le_refl _) _
  have HB0 := Lib.hid hb0
  have hblk : (w.alloc (Obj.cells #[Value.int IntKind.i64 t, Value.slice A n c] 26)).heap[w.heap.size]? = some (Obj.cells #[Value.int IntKind.i64 t, Value.slice A n c] 26 (0, 0)) := heap_alloc_new w _
  have HK0 := Lib.hid hblk
  clear hc hb0 hblk
  by_cases h0 : check t l = 0
  · have h0' : (check t l != 0) = false := by simp [h0]
    have HC := Lib.hid h0
    have ht := check_ok h0
    have t0 := ht.1
    have t1 := ht.2.1
    have HT := Lib.hid ht
    clear h0 ht
    go_enter Tryd.func8, Tryd.ntmps8
    go_upto_region 5 with (first
      | (go_at_call 26; refine (check_any t A n c l _ (HL.out.below HB0.out (Nat.le_refl _)) hlc hcm).mono ?_; rintro e w1 ⟨rfl, hb1⟩; obtain ⟨hc1, hf1⟩ := bc hb1; have g1 : w.heap.size < w1.heap.size := (by have := hb1.size; simp at this; omega); have HB1 := Lib.hid hb1; clear hb1)
      | (go_at_call 27; refine (digit_any t _ t0 (by omega)).mono ?_; rintro e w2 ⟨rfl, hb2⟩; obtain ⟨hc2, hf2⟩ := bc hb2; have g2 : w.heap.size < w2.heap.size := (by have := hb2.size; omega); have HB2 := Lib.hid hb2; clear hb2))
    have HBW := Lib.hid (show Below w.heap.size w w2 from (HB0.out.trans (HB1.out.mono HB0.out.size)).trans (HB2.out.mono (by have := HB1.out.size; have := HB0.out.size; omega)))
    have HLW := Lib.hid (HL.out.below HBW.out (Nat.le_refl _))
    have b2 := bheap (bheap HK0.out HB1.out (by simp)) HB2.out (by omega)
    obtain ⟨r0, r1⟩ := blk2 b2
    clear hc1 hf1 hc2 hf2 b2
    have hn5 : n ≤ 5 := by have h1 := HT.out.2.2.1; have h2 := HN.out; omega
    go_wp2_with fail
    have hz0 : (wrTo t l 0).size ≤ 8 := by unfold wrTo; simp only [ByteArray.size_append]; exact Nat.le_refl _
    have HZ := Lib.hid hz0
    clear hz0
    go_loopg [5, 21] n (fun g sv i wr => ∃ k : Nat, k + g = n ∧ i = .int .i64 k ∧ sv = .string (wrTo t l k) ∧ (wrTo t l k).size ≤ 8 + 17 * k ∧ Below w2.heap.size w2 wr)
    case atStart => exact ⟨0, by omega, rfl, rfl, HZ.out, Below.refl _ _⟩
    case round =>
      obtain ⟨k, hk, rfl, rfl, hsz, hB⟩ := hrel
      have HBK := Lib.hid hB
      have hkn : k ≤ n := by omega
      have HK := Lib.hid hk
      have gw : w.heap.size < wr.heap.size := by have := hB.size; omega
      clear hk
      by_cases hlt : k < n
      · obtain ⟨b, off, m, rfl, hb, hm, m0, m1, m2⟩ := Marks.get HLW.out hlt
        have q0 := bcell m0 hB (Nat.le_refl _)
        have q1 := bcell m1 hB (Nat.le_refl _)
        have q2 := bcell m2 hB (Nat.le_refl _)
        have hbw : b < wr.heap.size := Nat.lt_of_lt_of_le hb hB.size
        have hmv := check_marks HC.out m (List.mem_of_getElem? hm)
        have HM := Lib.hid (show mkAt l (k : Int) = m by simp [mkAt, hm])
        have HM2 := Lib.hid hm
        clear hm m0 m1 m2 hB
        go_upto_region 8 with (fail)
        obtain ⟨W, hW⟩ : ∃ W, W = wr.alloc (Obj.cells #[Value.int .i64 m.n, .int .i64 m.b, .int .i64 m.p] 52) := ⟨_, rfl⟩
        have bW : W.heap[wr.heap.size]? = some (Obj.cells #[Value.int .i64 m.n, .int .i64 m.b, .int .i64 m.p] 52 (0, 0)) := by rw [hW]; exact alloc_at rfl
        have hBW : Below w2.heap.size w2 W := by rw [hW]; exact HBK.out.alloc HBK.out.size _
        rw [← hW]
        clear hW
        obtain ⟨p0, p1, p2⟩ := blk3 bW
        have hp := heap_lt bW
        have cP0 : ∀ d os, Calls Tryd.prog 28 #[.int .i64 m.n, .int .i64 0] (Sort.grow (redrawn W d) os) (fun e w'' => e = .returned (.string (plS m.n 0)) ∧ ∃ p : Regrown, w'' = Sort.grow (redrawn W p.d) p.os) := fun d os => Calls.regrown_of (places_any m.n 0 _ hmv.1.1 hmv.1.2 (.inl rfl))
        have cP4 : ∀ d os, Calls Tryd.prog 28 #[.int .i64 m.n, .int .i64 4] (Sort.grow (redrawn W d) os) (fun e w'' => e = .returned (.string (plS m.n 4)) ∧ ∃ p : Regrown, w'' = Sort.grow (redrawn W p.d) p.os) := fun d os => Calls.regrown_of (places_any m.n 4 _ hmv.1.1 hmv.1.2 (.inr rfl))
        have cB : ∀ d os, Calls Tryd.prog 27 #[.int .i64 m.b] (Sort.grow (redrawn W d) os) (fun e w'' => e = .returned (.string (dgS m.b)) ∧ ∃ p : Regrown, w'' = Sort.grow (redrawn W p.d) p.os) := fun d os => Calls.regrown_of (digit_any m.b _ hmv.2.1.1 hmv.2.1.2)
        have cC : ∀ d os, Calls Tryd.prog 27 #[.int .i64 m.p] (Sort.grow (redrawn W d) os) (fun e w'' => e = .returned (.string (dgS m.p)) ∧ ∃ p : Regrown, w'' = Sort.grow (redrawn W p.d) p.os) := fun d os => Calls.regrown_of (digit_any m.p _ hmv.2.2.1 (by have := hmv.2.2.2; omega))
        have HCC := Lib.hid (And.intro cP0 (And.intro cP4 (And.intro cB cC)))
        clear cP0 cP4 cB cC
        have z0 := cell_regrown p0
        have z1 := cell_regrown p1
        have z2 := cell_regrown p2
        obtain ⟨T, hT⟩ : ∃ T, T = wrTo t l k := ⟨_, rfl⟩
        obtain ⟨P0, hP0⟩ : ∃ P, P = plS m.n 0 := ⟨_, rfl⟩
        obtain ⟨P4, hP4⟩ : ∃ P, P = plS m.n 4 := ⟨_, rfl⟩
        obtain ⟨DB, hDB⟩ : ∃ P, P = dgS m.b := ⟨_, rfl⟩
        obtain ⟨DP, hDP⟩ : ∃ P, P = dgS m.p := ⟨_, rfl⟩
        have sT : T.size ≤ 100 := by rw [hT]; omega
        have s0 : P0.size ≤ 4 := by rw [hP0]; exact Nat.le_refl 4
        have s4 : P4.size ≤ 4 := by rw [hP4]; exact Nat.le_refl 4
        have sB : DB.size ≤ 1 := by rw [hDB]; exact Nat.le_refl 1
        have sP : DP.size ≤ 1 := by rw [hDP]; exact Nat.le_refl 1
        have HE := Lib.hid (And.intro hT (And.intro hP0 (And.intro hP4 (And.intro hDB (And.intro hDP hsz)))))
        rw [← hT] at hsz ⊢
        rw [← hP0, ← hP4, ← hDB, ← hDP] at HCC
        clear hT hP0 hP4 hDB hDP hsz
        have u1 : ¬ (9223372036854775807 < P0.size + 1) := by omega
        have u2 : ¬ (9223372036854775807 < P0.size + 1 + P4.size) := by omega
        have u3 : ¬ (9223372036854775807 < P0.size + 1 + P4.size + 2) := by omega
        have u4 : ¬ (9223372036854775807 < P0.size + 1 + P4.size + 2 + DB.size) := by omega
        have u5 : ¬ (9223372036854775807 < P0.size + 1 + P4.size + 2 + DB.size + 2) := by omega
        have u6 : ¬ (9223372036854775807 < P0.size + 1 + P4.size + 2 + DB.size + 2 + DP.size) := by omega
        have u7 : ¬ (9223372036854775807 < P0.size + 1 + P4.size + 2 + DB.size + 2 + DP.size + 1) := by omega
        have u8 : ¬ (9223372036854775807 < T.size + (P0.size + 1 + P4.size + 2 + DB.size + 2 + DP.size + 1)) := by omega
        refine wp_region_quiet_below (by kernel_rfl) (by kernel_rfl) ?_
        repeat (quiet_step (with_reducible first | exact HCC.out.1 _ _ | exact HCC.out.2.1 _ _ | exact HCC.out.2.2.1 _ _ | exact HCC.out.2.2.2 _ _))
        refine wpQuiet_nil ?_
        intro _ hw'
        obtain ⟨⟨dq, osq⟩, hw''⟩ := hw'
        subst hw''
        obtain ⟨W9, hW9⟩ : ∃ W9, W9 = Sort.grow (redrawn W dq) osq := ⟨_, rfl⟩
        have hB9 : Below w2.heap.size w2 W9 := by rw [hW9]; exact hBW.trans ((below_regrown W dq osq).mono hBW.size)
        have HB9 := Lib.hid hB9
        rw [← hW9]
        clear hW9 z0 z1 z2 u1 u2 u3 u4 u5 u6 u7 u8
        have hE2 : wrTo t l (k + 1) = T ++ (P0 ++ slS ++ P4 ++ ⟨#[32, 98]⟩ ++ DB ++ ⟨#[32, 112]⟩ ++ DP ++ nlS) := by
          rw [HE.out.1, HE.out.2.1, HE.out.2.2.1, HE.out.2.2.2.1, HE.out.2.2.2.2.1, wrTo, HM.out]; rfl
        have hE3 : (wrTo t l (k + 1)).size ≤ 8 + 17 * (k + 1) := by
          rw [hE2]
          have h1 : T.size ≤ 8 + 17 * k := by rw [HE.out.1]; exact HE.out.2.2.2.2.2
          simp only [ByteArray.size_append]
          have h2 : slS.size = 1 := rfl
          have h3 : nlS.size = 1 := rfl
          have h4 : (⟨#[32, 98]⟩ : ByteArray).size = 2 := rfl
          have h5 : (⟨#[32, 112]⟩ : ByteArray).size = 2 := rfl
          omega
        have HE2 := Lib.hid (And.intro hE2 hE3)
        clear hE2 hE3
        go_wp2
        go_roundg (gk - 1)
        case measure => have := HK.out; omega
        case rel => exact ⟨k + 1, by have := HK.out; omega, by go_num, by rw [HE2.out.1]; rfl, HE2.out.2, HB9.out⟩
      · obtain rfl : k = n := by omega
        have sT : (wrTo t l k).size ≤ 100 := by omega
        have HS := Lib.hid (show wrS t l = wrTo t l k ++ ⟨#[109, 97, 114, 107, 115, 32, 101, 110, 100, 10]⟩ by unfold wrS; rw [if_pos HC.out, HN.out])
        clear hsz
        go_wp2
        refine bodyPost_ret (v := .tuple #[.string (wrS t l), .int .i64 0]) (by rw [HS.out]; simp [results, Tryd.f8, go_sem]) rfl ?_
        exact ⟨by rw [HC.out], HBW.out.trans (HBK.out.mono HBW.out.size)⟩
  · have h0' : (check t l != 0) = true := by simp [h0]
    have HC := Lib.hid (show wrS t l = ⟨#[]⟩ by unfold wrS; rw [if_neg h0])
    clear h0
    go_enter Tryd.func8, Tryd.ntmps8
    go_wp2_with (go_at_call 26; refine (check_any t A n c l _ (HL.out.below HB0.out (Nat.le_refl _)) hlc hcm).mono ?_; rintro e w1 ⟨rfl, hb1⟩; obtain ⟨hc1, hf1⟩ := bc hb1; have HB1 := Lib.hid hb1; clear hb1)
    refine bodyPost_ret (v := .tuple #[.string (wrS t l), .int .i64 (check t l)]) (by rw [HC.out]; simp [results, Tryd.f8, go_sem]) rfl ?_
    exact ⟨rfl, HB0.out.trans (HB1.out.mono HB0.out.size)⟩
end Go.Proofs.YtoidaigiejilcaaDoor
