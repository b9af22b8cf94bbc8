/- mestakit.Bit, WearOf: wear, whichever. -/
import Derived.Test.YtoidaigiejilcaaHand
namespace Go.Proofs.Ytoidaigiejilcaa
open Go.RowKit
set_option linter.unusedVariables false
set_option linter.unusedSimpArgs false

theorem bit_i64 (l p : Nat) (hl : l < 256) (hp : p ≤ 7) : (bits BinOp.and IntKind.i64 ((l : Int) / 2 ^ p) 1 == 1) = l.testBit p := by
  have e2 : (l : Int) / 2 ^ p = ((l / 2 ^ p : Nat) : Int) := by simp
  rw [e2]
  have hle : l / 2 ^ p ≤ l := Nat.div_le_self _ _
  show (IntKind.i64.wrap ((BitVec.ofInt 64 ((l / 2 ^ p : Nat) : Int) &&& BitVec.ofInt 64 ((1 : Nat) : Int)).toNat : Int) == 1) = _
  rw [BitVec.toNat_and, ofInt_u64 _ (by omega), ofInt_u64 1 (by omega), Nat.and_one_is_mod, Nat.testBit_eq_decide_div_mod_eq]
  have h2 := Nat.mod_lt (l / 2 ^ p) (show 0 < 2 by omega)
  rw [IntWalk.i64_in _ (by omega)]
  rw [Bool.eq_iff_iff]
  simp only [beq_iff_eq, decide_eq_true_eq]
  omega
theorem bit_kit (n : Int) (b : Nat) (w : World) (hn : 0 ≤ n) (hn' : n ≤ 255) (hb : b ≤ 7) :
    Calls Try.prog 80 #[.int .i64 n, .int .i64 b] w fun e w' => e = .returned (.bool (bit n b)) ∧ w = w' := by
  obtain ⟨l, rfl⟩ := Int.eq_ofNat_of_zero_le hn
  have h := bit_i64 l b (by omega) hb
  have hb' : (b : Int) ≤ 7 := by omega
  have hl : l < 256 := by omega
  obtain rfl | rfl | rfl | rfl | rfl | rfl | rfl | rfl : b = 0 ∨ b = 1 ∨ b = 2 ∨ b = 3 ∨ b = 4 ∨ b = 5 ∨ b = 6 ∨ b = 7 := by omega
  all_goals
    have H := Lib.hid h
    clear h
    go_enter Try.func80, Try.ntmps80
    go_wp2
    go_ret
    refine ⟨ret_bool ?_, rfl⟩
    unfold bit
    rw [Int.toNat_natCast, ← H.out]
    first | rfl | simp
theorem wear_tab : ∀ n : Fin 256, ∀ b : Fin 8, ∀ l r : Bool, onI (n.1 : Int) l r = n.1 → n.1.testBit b.1 = false → ((b.1 < 4 ∧ l = false) ∨ (4 ≤ b.1 ∧ r = false)) → n.1 + 2 ^ b.1 < 256 ∧ popI ((n.1 + 2 ^ b.1 : Nat) : Int) = popI (n.1 : Int) + 1 ∧ onI ((n.1 + 2 ^ b.1 : Nat) : Int) l r = ((n.1 + 2 ^ b.1 : Nat) : Int) := by
  decide +kernel
theorem wear_add {n : Int} {b : Nat} {l r : Bool} (h0 : 0 ≤ n) (h1 : n ≤ 255) (hb : b ≤ 7) (ho : onI n l r = n) (hz : bit n b = false) (he : (b < 4 ∧ l = false) ∨ (4 ≤ b ∧ r = false)) :
    n + (2 ^ b : Nat) ≤ 255 ∧ popI (n + (2 ^ b : Nat)) = popI n + 1 ∧ onI (n + (2 ^ b : Nat)) l r = n + (2 ^ b : Nat) := by
  obtain ⟨k, rfl⟩ := Int.eq_ofNat_of_zero_le h0
  have h := wear_tab ⟨k, by omega⟩ ⟨b, by omega⟩ l r ho (by unfold bit at hz; simpa using hz) he
  have e : ((k : Int) + (2 ^ b : Nat)) = ((k + 2 ^ b : Nat) : Int) := by simp
  rw [e]
  exact ⟨by have := h.1; dsimp only at this; omega, h.2.1, h.2.2⟩
/-- wear that is valid and adds at most so many notches -/
def WearRes (w : World) (H N o : Nat) (e : Ending) (w' : World) : Prop := ∃ s : Sg, e = .returned (vSg s) ∧ seen s 0 0 = 0 ∧ popI s.n ≤ o ∧ Dealt w w' H N
theorem seen_wear {n : Int} {l r : Bool} {b p : Int} (h0 : 0 ≤ n) (h1 : n ≤ 255) (ho : onI n l r = n) (hb : b = 0 ∨ b = -1) (hp : p = 0 ∨ p = -1) : seen ⟨n, l, r, b, p⟩ 0 0 = 0 := by
  unfold seen
  dsimp only
  rw [if_neg (by simp [btw_iff, h0, h1]), if_neg (by simp [ho]), if_neg, if_neg]
  · rcases hp with rfl | rfl <;> simp [btw]
  · rcases hb with rfl | rfl <;> simp [btw]
theorem set5_0 {W : World} {g : Nat} {t : TypeId} {a b c d e z : Value} (h : W.heap[g]? = some (.cells #[a, b, c, d, e] t (0, 0))) : (W.setCell ⟨g, 0, none⟩ z).heap[g]? = some (.cells #[z, b, c, d, e] t (0, 0)) := by
  simp [World.setCell, Array.getElem?_modify, h]
theorem set5_3 {W : World} {g : Nat} {t : TypeId} {a b c d e z : Value} (h : W.heap[g]? = some (.cells #[a, b, c, d, e] t (0, 0))) : (W.setCell ⟨g, 3, none⟩ z).heap[g]? = some (.cells #[a, b, c, z, e] t (0, 0)) := by
  simp [World.setCell, Array.getElem?_modify, h]
theorem set5_4 {W : World} {g : Nat} {t : TypeId} {a b c d e z : Value} (h : W.heap[g]? = some (.cells #[a, b, c, d, e] t (0, 0))) : (W.setCell ⟨g, 4, none⟩ z).heap[g]? = some (.cells #[a, b, c, d, z] t (0, 0)) := by
  simp [World.setCell, Array.getElem?_modify, h]

set_option maxRecDepth 100000 in
set_option maxHeartbeats 2000000 in
theorem wearOf_any (H N o : Nat) (w : World) (h : Hd w H N) (hN : N ≤ 4611686018427387000) (ho : o ≤ 100) :
    Calls Try.prog 32 #[.pointer (some ⟨H, 0, none⟩), .int .i64 o] w (WearRes w H (N + 110) o) := by
  have hH := h.lt
  have hzz : Value.agg #[Value.int .i64 0, .bool false, .bool false, .int .i64 0, .int .i64 0] = Value.agg #[Value.int .i64 0, .bool false, .bool false, .int .i64 0, .int .i64 0] := rfl
  clear hzz
  go_enter Try.func32, Try.ntmps32
  go_wp2_with fail
  have hD0 := (Dealt.refl h).alloc (Obj.cells #[Value.int .i64 0, .bool false, .bool false, .int .i64 0, .int .i64 0] 44)
  have br0 : (w.alloc (Obj.cells #[Value.int .i64 0, .bool false, .bool false, .int .i64 0, .int .i64 0] 44)).heap[w.heap.size]? = some (Obj.cells #[Value.int .i64 0, .bool false, .bool false, .int .i64 0, .int .i64 0] 44 (0, 0)) := alloc_at rfl
  refine (odds_any H N 1 4 _ hD0.hd (by omega) (by omega) (by omega)).mono ?_
  rintro e w1 ⟨sl, rfl, hd1⟩
  have hD1 := hD0.trans hd1
  have br1 := hd1.blk br0 (by omega)
  clear hd1 hD0 br0 h
  go_wp2_with fail
  refine (odds_any H (N + 1) 1 4 _ hD1.hd (by omega) (by omega) (by omega)).mono ?_
  rintro e w2 ⟨sr, rfl, hd2⟩
  have hD2 := (hD1.trans hd2).alloc (Obj.cells #[Value.int .i64 0, .bool sl, .bool sr, .int .i64 0, .int .i64 0] 44)
  have br2 := hblk_alloc (hd2.blk br1 (by omega)) (Obj.cells #[Value.int .i64 0, .bool sl, .bool sr, .int .i64 0, .int .i64 0] 44)
  have bs2 : (w2.alloc (Obj.cells #[Value.int .i64 0, .bool sl, .bool sr, .int .i64 0, .int .i64 0] 44)).heap[w2.heap.size]? = some (Obj.cells #[Value.int .i64 0, .bool sl, .bool sr, .int .i64 0, .int .i64 0] 44 (0, 0)) := alloc_at rfl
  have hz : w.heap.size < w2.heap.size := Nat.lt_of_lt_of_le (heap_lt br1) hd2.size
  clear hd2 hD1 br1
  go_wp2_with fail
  refine (upto_any H (N + 1 + 1) o _ hD2.hd (by omega) (by omega)).mono ?_
  rintro e w3 ⟨n0, rfl, hn0, hd3⟩
  have hD3 := hD2.trans hd3
  have br3 := hd3.blk br2 (by omega)
  have bs3 := hd3.blk bs2 (by omega)
  have hno : n0 ≤ o := by omega
  clear hd3 hD2 br2 bs2 hn0
  go_wp2_with fail
  go_loopg [6] n0 (fun g i wr => i = .int .i64 g ∧ g ≤ n0 ∧ ∃ n : Int, 0 ≤ n ∧ n ≤ 255 ∧ onI n sl sr = n ∧ popI n + g ≤ n0 ∧ wr.heap[w2.heap.size]? = some (Obj.cells #[Value.int .i64 n, .bool sl, .bool sr, .int .i64 0, .int .i64 0] 44 (0, 0)) ∧
    wr.heap[w.heap.size]? = some (Obj.cells #[Value.int .i64 0, .bool false, .bool false, .int .i64 0, .int .i64 0] 44 (0, 0)) ∧ Dealt w wr H (N + 3 + (n0 - g)))
  case atStart => exact ⟨rfl, Nat.le_refl _, 0, by omega, by omega, by simp [onI], by (have : popI 0 = 0 := by decide); omega, bs3, br3, hD3.mono (by omega)⟩
  case round =>
    obtain ⟨rfl, hgn, n, hn0, hn1, hon, hpop, bs, br, hD⟩ := hrel
    have HON := Lib.hid (And.intro hon hpop)
    clear hon hpop
    by_cases hg : 0 < gk
    · have hg' : (0 : Int) < (gk : Int) := by omega
      go_wp2_with fail
      refine (upto_any H _ 7 _ hD.hd (by omega) (by omega)).mono ?_
      rintro e w4 ⟨b, rfl, hb, hd4⟩
      have hD4 := hD.trans hd4
      have br4 := hd4.blk br (by omega)
      have bs4 := hd4.blk bs (by omega)
      have hb7 : b ≤ 7 := by omega
      clear hd4 hD br bs hb
      obtain ⟨s0, s1, s2, s3, s4⟩ := blk5 bs4
      have f0 := frz bs4 0
      have HO := Lib.hid (And.intro hD4 (And.intro br4 bs4))
      clear hD4 br4 bs4
      go_wp2_with fail
      refine (bit_kit n b _ hn0 hn1 hb7).mono ?_
      rintro e w5 ⟨rfl, rfl⟩
      have fin0 : Handed = Handed := rfl
      clear fin0
      cases hbit : bit n b
      · by_cases hb4 : b < 4
        · have hb4' : (b : Int) < 4 := by omega
          have hb4c : ¬ (4 : Int) ≤ (b : Int) := by omega
          cases sl
          · have hw := wear_add hn0 hn1 hb7 HON.out.1 hbit (.inl ⟨hb4, rfl⟩)
            clear hbit
            obtain rfl | rfl | rfl | rfl : b = 0 ∨ b = 1 ∨ b = 2 ∨ b = 3 := by omega
            all_goals
              first | rw [show (((2 : Nat) ^ 0 : Nat) : Int) = 1 from rfl] at hw | rw [show (((2 : Nat) ^ 1 : Nat) : Int) = 2 from rfl] at hw | rw [show (((2 : Nat) ^ 2 : Nat) : Int) = 4 from rfl] at hw | rw [show (((2 : Nat) ^ 3 : Nat) : Int) = 8 from rfl] at hw | rw [show (((2 : Nat) ^ 4 : Nat) : Int) = 16 from rfl] at hw | rw [show (((2 : Nat) ^ 5 : Nat) : Int) = 32 from rfl] at hw | rw [show (((2 : Nat) ^ 6 : Nat) : Int) = 64 from rfl] at hw | rw [show (((2 : Nat) ^ 7 : Nat) : Int) = 128 from rfl] at hw
              have hle := hw.1
              have HW := Lib.hid hw.2
              clear hw
              go_wp2
              go_roundg (gk - 1)
              case measure => omega
              case rel =>
                obtain ⟨hD4, br4, bs4⟩ := HO.out
                refine ⟨by congr 1; omega, by omega, _, ?_, ?_, HW.out.2, ?_, set5_0 bs4, (Below.heap_setCell _ ⟨w2.heap.size, 0, none⟩ _ _ (by dsimp; omega)).trans br4, (hD4.mono (by omega)).set (by dsimp; omega) (by dsimp; omega) _⟩
                · omega
                · omega
                · rw [HW.out.1]; have := HON.out.2; omega
          · go_wp2
            go_roundg (gk - 1)
            case measure => omega
            case rel => exact ⟨by congr 1; omega, by omega, n, hn0, hn1, HON.out.1, by have := HON.out.2; omega, HO.out.2.2, HO.out.2.1, HO.out.1.mono (by omega)⟩
        · have hb4' : ¬ (b : Int) < 4 := by omega
          have hb4c : (4 : Int) ≤ (b : Int) := by omega
          cases sr
          · have hw := wear_add hn0 hn1 hb7 HON.out.1 hbit (.inr ⟨by omega, rfl⟩)
            clear hbit
            obtain rfl | rfl | rfl | rfl : b = 4 ∨ b = 5 ∨ b = 6 ∨ b = 7 := by omega
            all_goals
              first | rw [show (((2 : Nat) ^ 0 : Nat) : Int) = 1 from rfl] at hw | rw [show (((2 : Nat) ^ 1 : Nat) : Int) = 2 from rfl] at hw | rw [show (((2 : Nat) ^ 2 : Nat) : Int) = 4 from rfl] at hw | rw [show (((2 : Nat) ^ 3 : Nat) : Int) = 8 from rfl] at hw | rw [show (((2 : Nat) ^ 4 : Nat) : Int) = 16 from rfl] at hw | rw [show (((2 : Nat) ^ 5 : Nat) : Int) = 32 from rfl] at hw | rw [show (((2 : Nat) ^ 6 : Nat) : Int) = 64 from rfl] at hw | rw [show (((2 : Nat) ^ 7 : Nat) : Int) = 128 from rfl] at hw
              have hle := hw.1
              have HW := Lib.hid hw.2
              clear hw
              go_wp2
              go_roundg (gk - 1)
              case measure => omega
              case rel =>
                obtain ⟨hD4, br4, bs4⟩ := HO.out
                refine ⟨by congr 1; omega, by omega, _, ?_, ?_, HW.out.2, ?_, set5_0 bs4, (Below.heap_setCell _ ⟨w2.heap.size, 0, none⟩ _ _ (by dsimp; omega)).trans br4, (hD4.mono (by omega)).set (by dsimp; omega) (by dsimp; omega) _⟩
                · omega
                · omega
                · rw [HW.out.1]; have := HON.out.2; omega
          · go_wp2
            go_roundg (gk - 1)
            case measure => omega
            case rel => exact ⟨by congr 1; omega, by omega, n, hn0, hn1, HON.out.1, by have := HON.out.2; omega, HO.out.2.2, HO.out.2.1, HO.out.1.mono (by omega)⟩
      · go_wp2
        go_roundg (gk - 1)
        case measure => omega
        case rel =>
          refine ⟨by congr 1; omega, by omega, n, hn0, hn1, HON.out.1, by have := HON.out.2; omega, HO.out.2.2, HO.out.2.1, HO.out.1.mono (by omega)⟩
    · obtain rfl : gk = 0 := by omega
      go_wp2_with fail
      refine (odds_any H _ 1 3 _ hD.hd (by omega) (by omega) (by omega)).mono ?_
      rintro e w4 ⟨o1, rfl, hd4⟩
      have hD4 := hD.trans hd4
      have br4 := hd4.blk br (by omega)
      have bs4 := hd4.blk bs (by omega)
      clear hd4 hD br bs
      have hzs := heap_lt bs4
      cases o1
      · have hD5 := hD4
        have br5 := br4
        have bs5 := bs4
        clear hD4 br4 bs4
        go_wp2_with fail
        refine (odds_any H _ 1 3 _ hD5.hd (by omega) (by omega) (by omega)).mono ?_
        rintro e w6 ⟨o2, rfl, hd6⟩
        have hD6 := hD5.trans hd6
        have br6 := hd6.blk br5 (by omega)
        have bs6 := hd6.blk bs5 (by omega)
        clear hd6 hD5 br5 bs5
        have z6 := heap_lt bs6
        have fr0 := frz br6 0
        have fr1 := frz br6 1
        have fr2 := frz br6 2
        have fr3 := frz br6 3
        have fr4 := frz br6 4
        have f4 := frz bs6 4
        obtain ⟨s0, s1, s2, s3, s4⟩ := blk5 bs6
        obtain ⟨r0, r1, r2, r3, r4⟩ := blk5 br6
        have HD := Lib.hid hD6
        clear hD6 bs6 br6
        cases o2
        · go_wp2
          refine bodyPost_ret (v := vSg ⟨n, sl, sr, 0, 0⟩) (by simp [results, Try.f32, go_sem, vSg, s0, s1, s2, s3, s4, r0, r1, r2, r3, r4]) rfl ⟨⟨n, sl, sr, 0, 0⟩, rfl, seen_wear hn0 hn1 HON.out.1 (by omega) (by omega), by have := HON.out.2; dsimp only; omega, ?_⟩
          have hD := HD.out.mono (by omega : N + 3 + (n0 - 0) + 1 + 1 ≤ N + 110)
          exact ((((hD.set (by dsimp; omega) (by dsimp; omega) _).set (by dsimp; omega) (by dsimp; omega) _).set (by dsimp; omega) (by dsimp; omega) _).set (by dsimp; omega) (by dsimp; omega) _).set (by dsimp; omega) (by dsimp; omega) _
        · go_wp2
          refine bodyPost_ret (v := vSg ⟨n, sl, sr, 0, -1⟩) (by simp [results, Try.f32, go_sem, vSg, s0, s1, s2, s3, s4, r0, r1, r2, r3, r4]) rfl ⟨⟨n, sl, sr, 0, -1⟩, rfl, seen_wear hn0 hn1 HON.out.1 (by omega) (by omega), by have := HON.out.2; dsimp only; omega, ?_⟩
          have hD := HD.out.mono (by omega : N + 3 + (n0 - 0) + 1 + 1 ≤ N + 110)
          exact (((((hD.set (by dsimp; omega) (by dsimp; omega) _).set (by dsimp; omega) (by dsimp; omega) _).set (by dsimp; omega) (by dsimp; omega) _).set (by dsimp; omega) (by dsimp; omega) _).set (by dsimp; omega) (by dsimp; omega) _).set (by dsimp; omega) (by dsimp; omega) _
      · have f3 := frz bs4 3
        obtain ⟨q0, q1, q2, q3, q4⟩ := blk5 bs4
        go_wp2_with fail
        obtain ⟨w5, hW⟩ : ∃ w5, w5 = w4.setCell ⟨w2.heap.size, 3, none⟩ (.int .i64 (-1)) := ⟨_, rfl⟩
        rw [← hW]
        have hD5 : Dealt w w5 H (N + 3 + (n0 - 0) + 1) := by rw [hW]; exact hD4.set (by dsimp; omega) (by dsimp; omega) _
        have bs5 : w5.heap[w2.heap.size]? = some (Obj.cells #[Value.int .i64 n, .bool sl, .bool sr, .int .i64 (-1), .int .i64 0] 44 (0, 0)) := by rw [hW]; exact set5_3 bs4
        have br5 : w5.heap[w.heap.size]? = some (Obj.cells #[Value.int .i64 0, .bool false, .bool false, .int .i64 0, .int .i64 0] 44 (0, 0)) := by rw [hW]; exact (Below.heap_setCell _ ⟨w2.heap.size, 3, none⟩ _ _ (by dsimp; omega)).trans br4
        clear hW f3 q0 q1 q2 q3 q4 bs4 br4 hD4
        refine (odds_any H _ 1 3 _ hD5.hd (by omega) (by omega) (by omega)).mono ?_
        rintro e w6 ⟨o2, rfl, hd6⟩
        have hD6 := hD5.trans hd6
        have br6 := hd6.blk br5 (by omega)
        have bs6 := hd6.blk bs5 (by omega)
        clear hd6 hD5 br5 bs5
        have z6 := heap_lt bs6
        have fr0 := frz br6 0
        have fr1 := frz br6 1
        have fr2 := frz br6 2
        have fr3 := frz br6 3
        have fr4 := frz br6 4
        have f4 := frz bs6 4
        obtain ⟨s0, s1, s2, s3, s4⟩ := blk5 bs6
        obtain ⟨r0, r1, r2, r3, r4⟩ := blk5 br6
        have HD := Lib.hid hD6
        clear hD6 bs6 br6
        cases o2
        · go_wp2
          refine bodyPost_ret (v := vSg ⟨n, sl, sr, -1, 0⟩) (by simp [results, Try.f32, go_sem, vSg, s0, s1, s2, s3, s4, r0, r1, r2, r3, r4]) rfl ⟨⟨n, sl, sr, -1, 0⟩, rfl, seen_wear hn0 hn1 HON.out.1 (by omega) (by omega), by have := HON.out.2; dsimp only; omega, ?_⟩
          have hD := HD.out.mono (by omega : N + 3 + (n0 - 0) + 1 + 1 ≤ N + 110)
          exact ((((hD.set (by dsimp; omega) (by dsimp; omega) _).set (by dsimp; omega) (by dsimp; omega) _).set (by dsimp; omega) (by dsimp; omega) _).set (by dsimp; omega) (by dsimp; omega) _).set (by dsimp; omega) (by dsimp; omega) _
        · go_wp2
          refine bodyPost_ret (v := vSg ⟨n, sl, sr, -1, -1⟩) (by simp [results, Try.f32, go_sem, vSg, s0, s1, s2, s3, s4, r0, r1, r2, r3, r4]) rfl ⟨⟨n, sl, sr, -1, -1⟩, rfl, seen_wear hn0 hn1 HON.out.1 (by omega) (by omega), by have := HON.out.2; dsimp only; omega, ?_⟩
          have hD := HD.out.mono (by omega : N + 3 + (n0 - 0) + 1 + 1 ≤ N + 110)
          exact (((((hD.set (by dsimp; omega) (by dsimp; omega) _).set (by dsimp; omega) (by dsimp; omega) _).set (by dsimp; omega) (by dsimp; omega) _).set (by dsimp; omega) (by dsimp; omega) _).set (by dsimp; omega) (by dsimp; omega) _).set (by dsimp; omega) (by dsimp; omega) _
end Go.Proofs.Ytoidaigiejilcaa
