/- TopFold 22: Short, GivesA, TyU, TyV, TyL, TalU. -/
import Derived.Test.YtgnjknihgjdedaaTf12
import Derived.Test.YtgnjknihgjdedaaTf21
import Derived.Test.YtgnjknihgjdedaaTf08
import Derived.Test.YtgnjknihgjdedaaTf03
import Derived.Test.YtgnjknihgjdedaaTf01
import Derived.Test.YtgnjknihgjdedaaTf04
import Derived.Test.YtgnjknihgjdedaaTf10
import Derived.Deep.RegionHeld3
import Derived.Test.YtgnjknihgjdedaaTf07
import Derived.Test.YtgnjknihgjdedaaTf05
import Derived.ArgAppend
import Derived.Deep.Upon
import Derived.Test.YtgnjknihgjdedaaTf13
import Derived.Test.YtgnjknihgjdedaaTf20
import Derived.Test.YtgnjknihgjdedaaTf14
import Derived.Laws.MakeOwn
namespace Go.Proofs.Ytgnjknihgjdedaa
open Go.RowKit
set_option linter.unusedVariables false
set_option linter.unusedSimpArgs false

theorem bit_at64 (s i : Nat) (hs : s < 64) (hi : i < 6) : bits .and .u64 ((s : Int) / 2 ^ i) 1 = ((s >>> i % 2 : Nat) : Int) := by
  have : ∀ s : Fin 64, ∀ i : Fin 6, bits .and .u64 ((s.1 : Int) / 2 ^ i.1) 1 = ((s.1 >>> i.1 % 2 : Nat) : Int) := by decide +kernel
  exact this ⟨s, hs⟩ ⟨i, hi⟩
theorem or_at64 (a b o : Nat) (ha : a < 32) (hb : b < 2) (ho : o < 5) : bits .or .u64 (a : Int) (IntKind.u64.wrap ((b : Int) * 2 ^ o)) = ((a ||| b <<< o : Nat) : Int) := by
  have : ∀ a : Fin 32, ∀ b : Fin 2, ∀ o : Fin 5, bits .or .u64 (a.1 : Int) (IntKind.u64.wrap ((b.1 : Int) * 2 ^ o.1)) = ((a.1 ||| b.1 <<< o.1 : Nat) : Int) := by decide +kernel
  exact this ⟨a, ha⟩ ⟨b, hb⟩ ⟨o, ho⟩
theorem maskRow_lt {s : Nat} (hs : s < 2) : ∀ (r : List Int) (a : Nat), (∀ x ∈ r, 0 ≤ x ∧ x < 5) → a < 32 → maskRow s a r < 32
  | [], a, _, h => h
  | x :: r, a, hr, h => by
    have hx := hr x (by simp)
    refine maskRow_lt hs r _ (fun y hy => hr y (by simp [hy])) ?_
    have h1 : s <<< x.toNat < 2 ^ 5 := by
      rw [Nat.shiftLeft_eq]
      have h2 : 2 ^ x.toNat ≤ 2 ^ 4 := Nat.pow_le_pow_right (by omega) (by omega)
      have h3 : s * 2 ^ x.toNat ≤ 1 * 2 ^ 4 := Nat.mul_le_mul (by omega) h2
      omega
    exact Nat.or_lt_two_pow (n := 5) h h1
theorem maskTo_lt {may : List (List Int)} {set : Nat} (hm : ∀ l ∈ may, ∀ o ∈ l, 0 ≤ o ∧ o < 5) : ∀ i, maskTo may set i < 32
  | 0 => by simp [maskTo]
  | i + 1 => by
    refine maskRow_lt (Nat.mod_lt _ (by omega)) _ _ (fun x hx => ?_) (maskTo_lt hm i)
    rw [List.getD_eq_getElem?_getD] at hx
    cases hj : may[i]? with
    | none => rw [hj] at hx; simp at hx
    | some row => rw [hj] at hx; exact hm row (List.mem_of_getElem? hj) x hx
theorem maskRow_snoc {s a : Nat} {r : List Int} {j : Nat} {o : Nat} (h : r[j]? = some (o : Int)) : maskRow s a (r.take (j + 1)) = maskRow s a (r.take j) ||| s <<< o := by
  rw [List.take_add_one, h]
  unfold maskRow
  rw [List.foldl_append]
  rfl
theorem need_bd {p : Nat → Bool} {mis : List Int} (hmis : ∀ x ∈ mis, 0 ≤ x ∧ x ≤ 6) : ∀ n : Nat, 0 ≤ needTo p mis n ∧ needTo p mis n ≤ 6 * n
  | 0 => by simp [needTo]
  | n + 1 => by
    have h := need_bd (p := p) hmis n
    have h2 : 0 ≤ mis.getD n 0 ∧ mis.getD n 0 ≤ 6 := by
      rw [List.getD_eq_getElem?_getD]
      cases hmo : mis[n]? with
      | none => simp
      | some z => have := hmis z (List.mem_of_getElem? hmo); simpa using this
    unfold needTo
    by_cases hp : p n = true
    · rw [if_pos hp]; omega
    · rw [if_neg hp]; omega

set_option maxRecDepth 100000 in
set_option maxHeartbeats 2000000 in
theorem shortPass_any {t : Int} {A : Option Addr} {n c : Nat} {Am : Option Addr} {k cm : Nat} {Ai : Option Addr} {ni ci : Nat} {may : List (List Int)} {mis : List Int} (B M set : Nat) (w : World)
    (hb : w.heap[B]? = some (.cells #[.int .i64 t, .slice A n c, .slice Am k cm, .slice Ai ni ci] 107 (0, 0))) (hM : w.heap[M]? = some (.cells #[.slice Ai ni ci] 22 (0, 0))) (hk : k = may.length) (hg : Grid w Am may.length may) (hmi : Ints w Ai ni mis) (hL : may.length ≤ 6) (hset : set < 64) (hm : ∀ l ∈ may, l.length ≤ 4294967296 ∧ ∀ o ∈ l, 0 ≤ o ∧ o < 5 ∧ o.toNat < ni)
    (hni : ni ≤ 5) (hmv : ∀ x ∈ mis, 0 ≤ x ∧ x ≤ 6) :
    Calls Try.prog 51 #[.int .u64 set, .pointer (some ⟨B, 0, none⟩), .pointer (some ⟨M, 0, none⟩)] w fun e w' => e = .returned (.bool (shortB may mis set)) ∧ Below w.heap.size w w' := by
  have HG := Lib.hid (And.intro hg (And.intro hmi (And.intro hm (And.intro hk (And.intro hmv hmi.len)))))
  obtain ⟨x0, x1, x2, x3⟩ := blk4 hb
  have m0 := blk1 hM
  have hl := heap_lt hb
  have hlM := heap_lt hM
  obtain ⟨L, hLL⟩ : ∃ L, L = may.length := ⟨_, rfl⟩
  have HL := Lib.hid hLL
  obtain rfl : k = L := by rw [hk, hLL]
  rw [← hLL] at hL
  have HM5 := Lib.hid (show ∀ l ∈ may, ∀ o ∈ l, 0 ≤ o ∧ o < 5 from fun l hl o ho => ⟨((hm l hl).2 o ho).1, ((hm l hl).2 o ho).2.1⟩)
  obtain ⟨S, hS⟩ : ∃ S, S = shortB may mis set := ⟨_, rfl⟩
  rw [← hS]
  have HS := Lib.hid hS
  clear hg hmi hm hk hb hM hLL hS hmv
  go_enter Try.func51, Try.ntmps51
  go_wp2_with fail
  clear x0 x1 x2 x3
  go_loopg [5, 16] k (fun g v i wr => ∃ j : Nat, j + g = k ∧ i = .int .i64 j ∧ v = .int .u64 (maskTo may set j : Nat) ∧ w = wr)
  case atStart => exact ⟨0, by omega, rfl, rfl, rfl⟩
  case round =>
    obtain ⟨j, hj, rfl, rfl, rfl⟩ := hrel
    have HJ := Lib.hid hj
    obtain ⟨g1, rfl⟩ : ∃ g1 : Nat, g1 = gk := ⟨_, rfl⟩
    have hjk : j ≤ k := by omega
    obtain ⟨a, ha⟩ : ∃ a, a = maskTo may set j := ⟨_, rfl⟩
    have hab : a < 32 := by rw [ha]; exact maskTo_lt HM5.out j
    rw [← ha]
    have HA := Lib.hid ha
    clear hj ha
    by_cases hlt : j < k
    · obtain ⟨bb, off, C, r, cr, rfl, hbb, hr, hc, hri, hrc, hrm⟩ := HG.out.1.get (show j < may.length by rw [← HL.out]; exact hlt)
      have j0 : (0 : Int) ≤ (j : Int) := by omega
      have j1 : (j : Int) < (k : Int) := by omega
      have HR := Lib.hid (And.intro hr (And.intro hri (HG.out.2.2.1 r (List.mem_of_getElem? hr))))
      have hrl : r.length ≤ 4294967296 := HR.out.2.2.1
      obtain ⟨b, hb⟩ : ∃ b, b = set >>> j % 2 := ⟨_, rfl⟩
      have hb2 : b < 2 := by rw [hb]; exact Nat.mod_lt _ (by omega)
      have hbit := bit_at64 set j hset (by omega)
      rw [← hb] at hbit
      have HB := Lib.hid (And.intro hb hbit)
      clear hr hri hb hbit
      go_wp2_with fail
      clear hc
      go_loopg [5, 23] r.length (fun g v i wr => ∃ q : Nat, q + g = r.length ∧ i = .int .i64 q ∧ v = .int .u64 (maskRow b a (r.take q) : Nat) ∧ w = wr)
      case atStart => exact ⟨0, by omega, rfl, rfl, rfl⟩
      case round =>
        obtain ⟨q, hq, rfl, rfl, rfl⟩ := hrel
        have HQ := Lib.hid hq
        have hqr : q ≤ r.length := by omega
        obtain ⟨z, hz⟩ : ∃ z, z = maskRow b a (r.take q) := ⟨_, rfl⟩
        have hz32 : z < 32 := by rw [hz]; exact maskRow_lt hb2 _ _ (fun x hx => HM5.out r (List.mem_of_getElem? HR.out.1) x (List.mem_of_mem_take hx)) hab
        rw [← hz]
        have HZ := Lib.hid hz
        clear hq hz
        by_cases hlq : q < r.length
        · obtain ⟨be, oe, y, rfl, hbe, hy, y0⟩ := Ints.get HR.out.2.1 hlq
          have hyv := HR.out.2.2.2 y (List.mem_of_getElem? hy)
          obtain ⟨yo, rfl⟩ := Int.eq_ofNat_of_zero_le hyv.1
          have hyo : yo < 5 := by omega
          have HY := Lib.hid (maskRow_snoc (s := b) (a := a) hy)
          have q0 : (0 : Int) ≤ (q : Int) := by omega
          have q1 : (q : Int) < (r.length : Int) := by omega
          have y1 : (0 : Int) ≤ (yo : Int) := by omega
          have hbit := HB.out.2
          have hor := or_at64 z b yo hz32 hb2 hyo
          clear hy hbe hyv
          go_wp2
          go_roundg (gk - 1)
          case measure => have := HQ.out; omega
          case rel => exact ⟨q + 1, by have := HQ.out; omega, by go_num, by rw [HY.out, ← HZ.out], rfl⟩
        · obtain rfl : q = r.length := by omega
          go_wp2
          go_roundg (g1 - 1)
          case measure => have := HJ.out; omega
          case rel =>
            refine ⟨j + 1, by have := HJ.out; omega, by go_num, ?_, rfl⟩
            have h := HZ.out
            rw [List.take_of_length_le (Nat.le_refl _), HB.out.1, HA.out] at h
            rw [h]
            show _ = Value.int .u64 ((maskRow (set >>> j % 2) (maskTo may set j) (may.getD j []) : Nat) : Int)
            rw [List.getD_eq_getElem?_getD, HR.out.1]
            rfl
    · obtain rfl : j = k := by omega
      have HMV := Lib.hid (And.intro HG.out.2.2.2.2.1 HG.out.2.2.2.2.2)
      go_wp2_with fail
      clear m0
      go_loopg [10, 41] ni (fun g v i wr => ∃ q : Nat, q + g = ni ∧ i = .int .i64 q ∧ v = .int .i64 (needTo (fun o => a.testBit o) mis q) ∧ w = wr)
      case atStart => exact ⟨0, by omega, rfl, rfl, rfl⟩
      case round =>
        obtain ⟨q, hq, rfl, rfl, rfl⟩ := hrel
        have HQ := Lib.hid hq
        have hqr : q ≤ ni := by omega
        have hbd := need_bd (p := fun o => a.testBit o) HMV.out.1 q
        obtain ⟨z, hz⟩ : ∃ z, z = needTo (fun o => a.testBit o) mis q := ⟨_, rfl⟩
        rw [← hz] at hbd ⊢
        have HZ := Lib.hid hz
        obtain ⟨hz0, hz1⟩ := hbd
        clear hq hz
        by_cases hlq : q < ni
        · obtain ⟨be, oe, y, rfl, hbe, hy, y0⟩ := Ints.get HG.out.2.1 hlq
          have hyv := HMV.out.1 y (List.mem_of_getElem? hy)
          have HY := Lib.hid (show mis.getD q 0 = y by rw [List.getD_eq_getElem?_getD, hy]; rfl)
          have q0 : (0 : Int) ≤ (q : Int) := by omega
          have q1 : (q : Int) < (ni : Int) := by omega
          have y1 := hyv.1
          have y2 := hyv.2
          obtain ⟨b, hb⟩ : ∃ b, b = a >>> q % 2 := ⟨_, rfl⟩
          have hb2 : b < 2 := by rw [hb]; exact Nat.mod_lt _ (by omega)
          have hbit := bit_at64 a q (by omega) (by omega)
          rw [← hb] at hbit
          have HT := Lib.hid (show a.testBit q = decide (b = 1) by rw [hb, Nat.testBit_eq_decide_div_mod_eq, Nat.shiftRight_eq_div_pow])
          clear hy hbe hyv hb
          have hb01 : b = 0 ∨ b = 1 := by omega
          rcases hb01 with rfl | rfl
          all_goals
            go_wp2
            go_roundg (gk - 1)
            case measure => have := HQ.out; omega
            case rel =>
              refine ⟨q + 1, by have := HQ.out; omega, by go_num, ?_, rfl⟩
              show _ = Value.int .i64 (needTo (fun o => a.testBit o) mis q + if a.testBit q = true then mis.getD q 0 else 0)
              rw [HT.out, HY.out, ← HZ.out]
              simp
        · obtain rfl : q = ni := by omega
          have hset0 : (0 : Int) ≤ (set : Int) := by omega
          have hset1 : (set : Int) ≤ 255 := by omega
          have HP := Lib.hid (ones_any (set : Int) w hset0 hset1)
          go_wp2_with fail
          (with_reducible refine HP.out.mono ?_)
          rintro e w2 ⟨rfl, rfl⟩
          go_wp2
          go_ret
          refine ⟨ret_bool ?_, Below.refl _ _⟩
          rw [HS.out]
          unfold shortB
          rw [HMV.out.2, ← HL.out, ← HA.out, ← HZ.out]
def shortR (t : Int) (l : List Mk) (ss : List Sg) (mis : List Int) : List Int := if gatherE t l ss mis = 0 then (shortL (mays t l ss) mis).getD [] else []
def shortE (t : Int) (l : List Mk) (ss : List Sg) (mis : List Int) : Int := if gatherE t l ss mis = 0 then (if shortL (mays t l ss) mis = none then 11 else 0) else gatherE t l ss mis

set_option maxRecDepth 100000 in
set_option maxHeartbeats 4000000 in
theorem Short_any (t : Int) (A : Option Addr) (n c : Nat) (l : List Mk) (B : Option Addr) (m cb : Nat) (ss : List Sg) (Ai : Option Addr) (ni ci : Nat) (mis : List Int) (w : World)
    (hl : Marks w A n l) (hlc : n ≤ c) (hcm : c ≤ maxLen) (hss : Sights w B m ss) (hmm : m ≤ maxLen) (hmi : Ints w Ai ni mis) (hni : ni ≤ maxLen) :
    Calls Try.prog 20 #[.agg #[.int .i64 t, .slice A n c], .slice B m cb, .slice Ai ni ci] w fun e w' => IntsRes (shortR t l ss mis) (shortE t l ss mis) e w' ∧ Below w.heap.size w w' := by
  have HL := Lib.hid hl
  have HSS := Lib.hid hss
  have HMI := Lib.hid hmi
  have hml := hmi.len
  have HN := Lib.hid (And.intro hml hss.len)
  have hmf : ∀ (fn : Fn) (first cap : Array Value) (w : World), (Instr.makeFunc fn first cap).run Try.prog w = .ok (.func fn first cap) w := fun _ _ _ _ => rfl
  obtain ⟨LR, hLR⟩ : ∃ x, x = shortR t l ss mis := ⟨_, rfl⟩
  obtain ⟨LE, hLE⟩ : ∃ x, x = shortE t l ss mis := ⟨_, rfl⟩
  rw [← hLR, ← hLE]
  have HLR := Lib.hid (And.intro hLR hLE)
  clear hl hss hmi hml hLR hLE
  go_enter Try.func20, Try.ntmps20
  go_upto_region 1 with (fail)
  obtain ⟨W0, hW0⟩ : ∃ W0, W0 = (w.alloc (Obj.cells #[Value.int .i64 t, .slice A n c] 41)).alloc (Obj.cells #[.slice Ai ni ci] 22) := ⟨_, rfl⟩
  rw [← hW0]
  have hbw : Below w.heap.size w W0 := by rw [hW0]; exact bal (bal0 w _) (Nat.le_refl _) _
  have hW0s : W0.heap.size = w.heap.size + 1 + 1 := by rw [hW0]; simp
  have b0 : W0.heap[w.heap.size]? = some (Obj.cells #[Value.int .i64 t, .slice A n c] 41 (0, 0)) := by rw [hW0]; exact hblk_alloc (alloc_at rfl) _
  have bM : W0.heap[w.heap.size + 1]? = some (Obj.cells #[.slice Ai ni ci] 22 (0, 0)) := by rw [hW0]; exact alloc_at (by simp)
  obtain ⟨r0, r1⟩ := blk2 b0
  have rM := blk1 bM
  have hl0 := heap_lt b0
  have hlM := heap_lt bM
  have HW0 := Lib.hid (And.intro hbw (And.intro bM hW0s))
  clear hW0 hbw hW0s b0 bM
  go_wp2_with fail
  refine (gather_any t A n c l B m cb ss Ai ni ci mis _ (HL.out.below HW0.out.1 (Nat.le_refl _)) hlc hcm (HSS.out.below HW0.out.1 (Nat.le_refl _)) hmm (HMI.out.below HW0.out.1 (Nat.le_refl _)) hni).mono ?_
  rintro e w1 ⟨hr, hb1⟩
  have hB1 : Below w.heap.size w w1 := HW0.out.1.trans (hb1.mono (by omega))
  have hz1 := hb1.size
  clear r0 r1 rM
  have bM := bheap HW0.out.2.1 hb1 (Nat.le_refl _)
  have rM := blk1 bM
  have HBM := Lib.hid bM
  clear bM
  by_cases hge : gatherE t l ss mis = 0
  · have hg : ∃ v, e = Ending.returned (.tuple #[.agg #[.int .i64 t, .slice A n c, v, .slice Ai ni ci], .int .i64 0]) ∧ OwnG w1 W0.heap.size v (mays t l ss) := by
      unfold GatherRes at hr
      rw [if_pos hge] at hr
      exact hr
    clear hr
    obtain ⟨v, rfl, hog⟩ := hg
    obtain ⟨Am, cm, rfl, hgr, hcm2, hmx⟩ := hog.form
    obtain ⟨hck, hk6', _, hmln, hmall⟩ := mays_ok hge
    have hk6 : (mays t l ss).length ≤ 6 := by unfold mays; rw [List.length_map]; exact hk6'
    have hkm : (mays t l ss).length = m := by unfold mays; rw [List.length_map]; exact HN.out.2
    have hni5 : ni ≤ 5 := by have := (check_ok hck).2.2.1; have := HN.out.1; omega
    have hmv : ∀ x ∈ mis, 0 ≤ x ∧ x ≤ 6 := fun x hx => btw_iff.1 (List.all_eq_true.1 hmall x hx)
    obtain ⟨may, hmay⟩ : ∃ may, may = mays t l ss := ⟨_, rfl⟩
    rw [← hmay] at hgr hk6 hkm ⊢
    have hLR2 : LR = (shortL may mis).getD [] := by rw [HLR.out.1, hmay]; unfold shortR; rw [if_pos hge]
    have hLE2 : LE = if shortL may mis = none then 11 else 0 := by rw [HLR.out.2, hmay]; unfold shortE; rw [if_pos hge]
    have HG := Lib.hid (And.intro hge (And.intro hgr (And.intro hB1 (And.intro hLR2 hLE2))))
    have HK := Lib.hid (show ∀ r ∈ may, r.length ≤ 4294967296 ∧ ∀ o ∈ r, 0 ≤ o ∧ o < 5 ∧ o.toNat < ni by rw [hmay]; exact mays_in hge HN.out.1)
    clear hog hgr hcm2 hmx hB1 hb1 hmay hLR2 hLE2 hmln hmall hck hk6'
    have HKM := Lib.hid hkm
    have hm6 : m ≤ 6 := by omega
    rw [hkm]
    clear hkm hge
    go_upto_region 4 with (fail)
    obtain ⟨W1, hW⟩ : ∃ W1, W1 = w1.alloc (Obj.cells #[Value.int .i64 t, .slice A n c, .slice Am m cm, .slice Ai ni ci] 107) := ⟨_, rfl⟩
    rw [← hW]
    have b8 : W1.heap[w1.heap.size]? = some (Obj.cells #[Value.int .i64 t, .slice A n c, .slice Am m cm, .slice Ai ni ci] 107 (0, 0)) := by rw [hW]; exact alloc_at rfl
    have hbW1 : Below w1.heap.size w1 W1 := by rw [hW]; exact bal0 w1 _
    have hgW : Grid W1 Am may.length may := by rw [HKM.out]; exact (HKM.out ▸ HG.out.2.1).below hbW1 (Nat.le_refl _)
    have hmW : Ints W1 Ai ni mis := HMI.out.below (HG.out.2.2.1.trans (hbW1.mono (by omega))) (Nat.le_refl _)
    have hBW : Below w.heap.size w W1 := HG.out.2.2.1.trans (hbW1.mono (by omega))
    have hMW := bheap HBM.out hbW1 (Nat.le_refl _)
    have HW1 := Lib.hid (And.intro b8 (And.intro hgW (And.intro hmW hBW)))
    have hl8 := heap_lt b8
    have HPASS := Lib.hid (fun (W : World) (hW : Below W1.heap.size W1 W) (set : Nat) (hset : set < 64) =>
      shortPass_any (t := t) (A := A) (n := n) (c := c) (Am := Am) (k := m) (cm := cm) (Ai := Ai) (ni := ni) (ci := ci) (may := may) (mis := mis) w1.heap.size (w.heap.size + 1) set W (bheap b8 hW (Nat.le_refl _)) (bheap hMW hW (Nat.le_refl _)) HKM.out.symm (hgW.below hW (Nat.le_refl _)) (hmW.below hW (Nat.le_refl _)) hk6 hset HK.out hni5 hmv)
    obtain ⟨pf, hpf⟩ : ∃ pf : Nat → Bool, pf = shortB may mis := ⟨_, rfl⟩
    have HPF := Lib.hid hpf
    clear hW hbW1 hgW hmW hBW b8 hpf hMW rM hmv
    go_wp2_with fail
    go_loopg [10] m (fun g x wr => ∃ k : Nat, k + g = m ∧ x = .int .i64 ((k + 1 : Nat) : Int) ∧ (∀ j, 1 ≤ j → j < k + 1 → pickRest m pf j 0 0 = none) ∧ Below W1.heap.size W1 wr)
    case atStart => exact ⟨0, by omega, rfl, fun j _ hj => by omega, Below.refl _ _⟩
    case round =>
      obtain ⟨k', hk, rfl, hno, hbr⟩ := hrel
      obtain ⟨k, hkk⟩ : ∃ k, k = k' + 1 := ⟨_, rfl⟩
      rw [← hkk] at hno ⊢
      have HI := Lib.hid (And.intro hk (And.intro hno (And.intro hbr hkk)))
      have hkm : k ≤ m + 1 := by omega
      have hk1 : 1 ≤ k := by omega
      clear hk hno hkk
      by_cases hlt : k ≤ m
      · obtain ⟨x0, x1, x2, x3⟩ := blk4 (bheap HW1.out.1 hbr (Nat.le_refl _))
        have hlr := heap_lt (bheap HW1.out.1 hbr (Nat.le_refl _))
        have C := list_any (t := t) (A := A) (n := n) (c := c) (Am := Am) (L := m) (cm := cm) (Ai := Ai) (ni := ni) (ci := ci) k hm6 51 #[] #[.pointer (some ⟨w1.heap.size, 0, none⟩), .pointer (some ⟨w.heap.size + 1, 0, none⟩)] pf wr (fun _ _ => by kernel_rfl) (fun W hW set hset => by
          rw [HPF.out]
          exact HPASS.out W (hbr.trans (hW.mono hbr.size)) set hset)
        obtain ⟨r, hr⟩ : ∃ r, r = pickRest m pf k 0 0 := ⟨_, rfl⟩
        rw [← hr] at C
        have HC := Lib.hid C
        have HR := Lib.hid hr.symm
        have k0 : (k : Int) ≤ (m : Int) := by omega
        clear C hr hbr
        go_wp2_with fail
        (with_reducible refine HC.out.mono ?_)
        rintro e w3 ⟨hres, hb3⟩
        have HB := Lib.hid (HI.out.2.2.1.trans (hb3.mono HI.out.2.2.1.size))
        clear hb3 x0 x1 x2 x3
        cases r with
        | none =>
          obtain ⟨v, rfl⟩ := hres
          go_wp2
          go_roundg (gk - 1)
          case measure => have := HI.out.1; have := HI.out.2.2.2; omega
          case rel =>
            refine ⟨k, by have := HI.out.1; have := HI.out.2.2.2; omega, by go_num, fun j hj1 hj => ?_, HB.out⟩
            by_cases hjk : j = k
            · subst hjk; exact HR.out
            · exact HI.out.2.1 j hj1 (by omega)
        | some q =>
          obtain ⟨A', c', rfl, hq1, hq2, hq3, hq4⟩ := hres
          have HQ := Lib.hid (And.intro hq1 (And.intro hq2 hq3))
          clear hq1 hq2 hq3 hq4
          go_wp2
          go_ret2
          refine ⟨?_, HW1.out.2.2.2.trans (HB.out.mono HW1.out.2.2.2.size)⟩
          have hsome : shortL may mis = some q := by
            unfold shortL
            rw [HKM.out, show m = (k - 1) + ((m - k) + 1) by omega, shortOf_skip (k - 1) ((m - k) + 1) 1 (fun j hj1 hj => by rw [HKM.out, ← HPF.out]; exact HI.out.2.1 j hj1 (by omega))]
            show (match pickRest may.length (shortB may mis) (1 + (k - 1)) 0 0 with | some l => some l | none => shortOf may mis (m - k) (1 + (k - 1) + 1)) = some q
            rw [HKM.out, ← HPF.out, show 1 + (k - 1) = k by omega, HR.out]
          have hLq : LR = q := by rw [HG.out.2.2.2.1, hsome]; rfl
          have hLe : LE = 0 := by rw [HG.out.2.2.2.2, hsome]; rfl
          rw [hLq, hLe]
          exact ⟨A', c', rfl, HQ.out⟩
      · obtain rfl : k = m + 1 := by omega
        have k0 : ¬ ((m : Int) + 1 ≤ (m : Int)) := by omega
        have hcast : ((m + 1 : Nat) : Int) = (m : Int) + 1 := by omega
        rw [hcast]
        have HB := Lib.hid hbr
        clear hbr hcast
        go_wp2
        go_ret2
        refine ⟨?_, HW1.out.2.2.2.trans (HB.out.mono HW1.out.2.2.2.size)⟩
        have hnone : shortL may mis = none := by
          unfold shortL
          rw [HKM.out, shortOf_none]
          intro j hj1 hj2
          rw [HKM.out, ← HPF.out]
          exact HI.out.2.1 j hj1 (by omega)
        have hLq : LR = [] := by rw [HG.out.2.2.2.1, hnone]; rfl
        have hLe : LE = 11 := by rw [HG.out.2.2.2.2, hnone]; rfl
        rw [hLq, hLe]
        exact ⟨none, 0, rfl, Sl.nil_, Nat.le_refl _, by unfold maxLen; omega⟩
  · have hg : e = Ending.returned (.tuple #[.agg #[.int .i64 0, .slice none 0 0, .slice none 0 0, .slice none 0 0], .int .i64 (gatherE t l ss mis)]) := by
      unfold GatherRes at hr
      rwa [if_neg hge] at hr
    subst hg
    have h0 : (gatherE t l ss mis != 0) = true := by simp [hge]
    have HE := Lib.hid (And.intro (show LR = [] by rw [HLR.out.1]; unfold shortR; rw [if_neg hge]) (show LE = gatherE t l ss mis by rw [HLR.out.2]; unfold shortE; rw [if_neg hge]))
    clear hr hge
    go_wp2
    go_ret2
    refine ⟨?_, bal hB1 (Nat.le_refl _) _⟩
    rw [HE.out.1, HE.out.2]
    exact ⟨none, 0, rfl, Sl.nil_, Nat.le_refl _, by unfold maxLen; omega⟩
end Go.Proofs.Ytgnjknihgjdedaa
namespace Go.Proofs.Ytgnjknihgjdedaa
open Go.RowKit
set_option linter.unusedVariables false
set_option linter.unusedSimpArgs false

theorem sameInts_same (A : Option Addr) (n c : Nat) (x : List Int) (B : Option Addr) (d : Nat) (w : World) (hx : Ints w A n x) (hy : Ints w B n x) (hn : n ≤ maxLen) :
    Calls Try.prog 31 #[.slice A n c, .slice B n d] w fun e w' => e = .returned (.bool true) ∧ Below w.heap.size w w' := by
  have h := sameInts_any A n c x B n d x w hx hy hn hn
  rwa [show sameL x x = true from decide_eq_true rfl] at h
end Go.Proofs.Ytgnjknihgjdedaa
namespace Go.Proofs.Ytgnjknihgjdedaa
open Go.RowKit
set_option linter.unusedVariables false
set_option linter.unusedSimpArgs false
def gT : Ty := ⟨2, ⟨10, 10⟩, [⟨0, 0⟩], 5, [⟨1, 1, 7, 0⟩]⟩
theorem gT_ok : TyOk gT := ⟨by decide, ⟨by decide, by decide, by decide⟩, rfl, fun s h => by
  rw [List.mem_singleton.1 h]; exact ⟨by decide, by decide, by decide⟩, by decide, by decide, fun c h => by
  rw [List.mem_singleton.1 h]; exact ⟨by decide, by decide, by decide, by decide⟩⟩
theorem gT_now : gT.now 0 = ⟨10, 10⟩ ∧ gT.now 1 = ⟨7, 7⟩ := by decide
theorem gT_t : TyT gT := fun g hg => by
  have hg2 : g < 2 := by have : (g : Int) < 2 := hg; omega
  match g, hg2 with
  | 0, _ => rw [gT_now.1]; rfl
  | 1, _ => rw [gT_now.2]; rfl
theorem gT_outs : gT.outs = [⟨10, 10⟩, ⟨7, 7⟩] := by decide
theorem gT_ls : LsOk gT gT.outs := ⟨by decide, by rw [gT_outs]; decide⟩
theorem gT_lost : lostF gT gT.outs 0 1 = ⟨3, 3⟩ := by rw [gT_outs]; decide
theorem sh_ex : shS [2, 8] 2 3 = [0, 3] := by decide
set_option maxRecDepth 100000 in
set_option maxHeartbeats 4000000 in
theorem gates_any (w : World) :
    Calls Try.prog 30 #[] w fun e w' => ∃ p, e = .returned (tyV gT p) ∧ TyIn w' gT p ∧ Below w.heap.size w w' := by
  obtain ⟨R, hR⟩ : ∃ R, R = (fun (e : Ending) (w' : World) => ∃ p, e = .returned (tyV gT p) ∧ TyIn w' gT p ∧ Below w.heap.size w w') := ⟨_, rfl⟩
  show Calls _ _ _ _ (fun e w' => (fun (e : Ending) (w' : World) => ∃ p, e = .returned (tyV gT p) ∧ TyIn w' gT p ∧ Below w.heap.size w w') e w')
  rw [← hR]
  go_enter Try.func30, Try.ntmps30
  go_wp2_with fail
  obtain ⟨w1, hw1⟩ : ∃ W, W = w.alloc (tyC 2 10 10 (.slice (some ⟨w.heap.size + 1, 0, none⟩) 1 1) 5 (.slice (some ⟨w.heap.size + 1 + 1, 0, none⟩) 1 1)) := ⟨_, rfl⟩
  rw [← hw1]
  have hs1 : w1.heap.size = w.heap.size + 1 := by rw [hw1]; simp
  have hb1 : w1.heap[w.heap.size]? = some (tyC 2 10 10 (.slice (some ⟨w.heap.size + 1, 0, none⟩) 1 1) 5 (.slice (some ⟨w.heap.size + 1 + 1, 0, none⟩) 1 1)) := by rw [hw1]; exact alloc_at rfl
  have h1 : Below w.heap.size w w1 := by rw [hw1]; exact bal0 w _
  obtain ⟨w2, hw2⟩ : ∃ W, W = w1.alloc (.cells #[.int .i64 0, .int .i64 0] 26 (0, 0)) := ⟨_, rfl⟩
  rw [← hw2]
  have hs2 : w2.heap.size = w.heap.size + 1 + 1 := by rw [hw2]; simp [hs1]
  have ha : Sps w2 (some ⟨w.heap.size + 1, 0, none⟩) 1 [⟨0, 0⟩] := by
    rw [hw2, ← hs1]; exact Sl.lit w1 26 #[.int .i64 0, .int .i64 0] [(⟨0, 0⟩ : Sp)] rfl lenSp (by simp [maxLen])
  have h2 : Below w.heap.size w w2 := h1.trans (by rw [hw2]; exact (bal0 w1 _).mono (by omega))
  have hb2 : w2.heap[w.heap.size]? = some (tyC 2 10 10 (.slice (some ⟨w.heap.size + 1, 0, none⟩) 1 1) 5 (.slice (some ⟨w.heap.size + 1 + 1, 0, none⟩) 1 1)) := by rw [hw2]; exact hblk_alloc hb1 _
  obtain ⟨w3, hw3⟩ : ∃ W, W = w2.alloc (.cells #[.int .i64 1, .int .i64 1, .int .i64 7, .int .i64 0] 76 (0, 0)) := ⟨_, rfl⟩
  rw [← hw3]
  have hb : Cts w3 (some ⟨w.heap.size + 1 + 1, 0, none⟩) 1 [⟨1, 1, 7, 0⟩] := by
    rw [hw3, ← hs2]; exact Sl.lit w2 76 #[.int .i64 1, .int .i64 1, .int .i64 7, .int .i64 0] [(⟨1, 1, 7, 0⟩ : Ct)] rfl lenCt (by simp [maxLen])
  have ha3 : Sps w3 (some ⟨w.heap.size + 1, 0, none⟩) 1 [⟨0, 0⟩] := by rw [hw3]; exact ha.below (bal0 w2 _) (Nat.le_refl _)
  have h3 : Below w.heap.size w w3 := h2.trans (by rw [hw3]; exact (bal0 w2 _).mono (by omega))
  have hb3 : w3.heap[w.heap.size]? = some (tyC 2 10 10 (.slice (some ⟨w.heap.size + 1, 0, none⟩) 1 1) 5 (.slice (some ⟨w.heap.size + 1 + 1, 0, none⟩) 1 1)) := by rw [hw3]; exact hblk_alloc hb2 _
  obtain ⟨z0, z1, z2, z3, z4, z5⟩ := blk6 hb3
  have hzl := heap_lt hb3
  have HF := Lib.hid (show ∃ p, Ending.returned (.agg #[.int .i64 2, .int .i64 10, .int .i64 10, .slice (some ⟨w.heap.size + 1, 0, none⟩) 1 1, .int .i64 5, .slice (some ⟨w.heap.size + 1 + 1, 0, none⟩) 1 1]) = .returned (tyV gT p) ∧ TyIn w3 gT p ∧ Below w.heap.size w w3 from
    ⟨⟨_, 1, _, 1⟩, rfl, ⟨ha3, Nat.le_refl _, by simp [maxLen], hb, Nat.le_refl _, by simp [maxLen]⟩, h3⟩)
  clear hw1 hw2 hw3 hb1 hb2 ha hb ha3 h1 h2 h3 hb3
  exact bodyPost_ret (v := .agg #[.int .i64 2, .int .i64 10, .int .i64 10, .slice (some ⟨w.heap.size + 1, 0, none⟩) 1 1, .int .i64 5, .slice (some ⟨w.heap.size + 1 + 1, 0, none⟩) 1 1]) (by simp [results, Try.f30, go_sem, z0, z1, z2, z3, z4, z5, hzl]) rfl (by rw [hR]; exact HF.out)
end Go.Proofs.Ytgnjknihgjdedaa
namespace Go.Proofs.Ytgnjknihgjdedaa
open Go.RowKit
set_option linter.unusedVariables false
set_option linter.unusedSimpArgs false
theorem left_ex : leftR 0 [⟨1, 0, 0⟩] [⟨1, false, false, 0, 0⟩, ⟨2, false, false, 0, 0⟩] [1] = [1] ∧ gatherE 0 [⟨1, 0, 0⟩] [⟨1, false, false, 0, 0⟩, ⟨2, false, false, 0, 0⟩] [1] = 0 := by decide
set_option maxRecDepth 100000 in
set_option maxHeartbeats 4000000 in
theorem foldAwake_any (w : World) :
    Calls Try.prog 7 #[] w fun e w' => e = .returned (.bool true) ∧ Below w.heap.size w w' := by
  obtain ⟨R, hR⟩ : ∃ R, R = (fun (e : Ending) (w' : World) => e = .returned (.bool true) ∧ Below w.heap.size w w') := ⟨_, rfl⟩
  show Calls _ _ _ _ (fun e w' => (fun (e : Ending) (w' : World) => e = .returned (.bool true) ∧ Below w.heap.size w w') e w')
  rw [← hR]
  go_enter Try.func7, Try.ntmps7
  go_wp2_with fail
  refine (gates_any _).mono ?_
  rintro e w1 ⟨p, rfl, hp, hb1⟩
  have HB1 := Lib.hid (And.intro hp hb1)
  clear hp hb1
  go_wp2_with fail
  have hl := tLost_any gT p 0 1 w1 gT_ok HB1.out.1 gT_t gT_ls (by omega) (by decide)
  rw [gT_lost] at hl
  refine hl.mono ?_
  rintro e w2 ⟨rfl, hb2⟩
  have HB2 := Lib.hid (HB1.out.2.trans (hb2.mono HB1.out.2.size))
  clear hl hb2
  go_upto_region 2 with (fail)
  obtain ⟨W2, hW2⟩ : ∃ W, W = w2.alloc (.cells #[.int .i64 3, .int .i64 3] 26 (0, 0)) := ⟨_, rfl⟩
  obtain ⟨q, hq⟩ : ∃ q, q = w2.heap.size := ⟨_, rfl⟩
  have hbq : W2.heap[q]? = some (.cells #[.int .i64 3, .int .i64 3] 26 (0, 0)) := by rw [hW2, hq]; exact alloc_at rfl
  have hbw : Below w.heap.size w W2 := by rw [hW2]; exact HB2.out.trans ((bal0 w2 _).mono HB2.out.size)
  rw [← hW2, ← hq]
  have HW2 := Lib.hid (And.intro hbq hbw)
  clear hW2 hq hbq hbw
  go_wp2_with fail
  have hsh := tShares_any (some ⟨W2.heap.size, 0, none⟩) 2 2 3 [2, 8] _ (ints2 W2 3 2 8) (by omega) (by decide) (by decide) (by omega) ⟨Nat.le_refl _, by simp [maxLen]⟩
  refine hsh.mono ?_
  rintro e w3 ⟨v, S, rfl, hoS, hSl, -, -, hb3, rfl⟩
  clear hsh
  rw [sh_ex] at hoS
  obtain ⟨A3, c3, rfl, hs3, -, hc3⟩ := hoS.form lenInt
  have HB3 := Lib.hid (And.intro (bheap (hblk_alloc HW2.out.1 _) hb3 (Nat.le_refl _)) (And.intro hs3 (HW2.out.2.trans (((bal0 W2 _).trans (hb3.mono (bal0 W2 _).size)).mono HW2.out.2.size))))
  clear hoS hSl hb3 hs3
  go_upto_region 3 with (fail)
  go_wp2_with fail
  obtain ⟨W3, hW3⟩ : ∃ W, W = w3.alloc (.cells #[.int .i64 1, .int .i64 0, .int .i64 0] 44 (0, 0)) := ⟨_, rfl⟩
  obtain ⟨W4, hW4⟩ : ∃ W, W = W3.alloc (.cells #[.int .i64 1, .bool false, .bool false, .int .i64 0, .int .i64 0, .int .i64 2, .bool false, .bool false, .int .i64 0, .int .i64 0] 52 (0, 0)) := ⟨_, rfl⟩
  obtain ⟨W5, hW5⟩ : ∃ W, W = W4.alloc (.cells #[.int .i64 1] 3 (0, 0)) := ⟨_, rfl⟩
  have hs3 : W3.heap.size = w3.heap.size + 1 := by rw [hW3]; simp
  have hs4 : W4.heap.size = w3.heap.size + 1 + 1 := by rw [hW4]; simp [hs3]
  have b3 : Below w3.heap.size w3 W3 := by rw [hW3]; exact bal0 _ _
  have b4 : Below W3.heap.size W3 W4 := by rw [hW4]; exact bal0 _ _
  have b5 : Below W4.heap.size W4 W5 := by rw [hW5]; exact bal0 _ _
  have hm3 : Marks W3 (some ⟨w3.heap.size, 0, none⟩) 1 [⟨1, 0, 0⟩] := by rw [hW3]; exact Sl.lit w3 44 #[.int .i64 1, .int .i64 0, .int .i64 0] [(⟨1, 0, 0⟩ : Mk)] rfl lenMk (by simp [maxLen])
  have hm4 : Sights W4 (some ⟨w3.heap.size + 1, 0, none⟩) 2 [⟨1, false, false, 0, 0⟩, ⟨2, false, false, 0, 0⟩] := by
    rw [hW4, ← hs3]; exact Sl.lit W3 52 #[.int .i64 1, .bool false, .bool false, .int .i64 0, .int .i64 0, .int .i64 2, .bool false, .bool false, .int .i64 0, .int .i64 0] [(⟨1, false, false, 0, 0⟩ : Sg), ⟨2, false, false, 0, 0⟩] rfl lenSg (by simp [maxLen])
  have hm5 : Ints W5 (some ⟨w3.heap.size + 1 + 1, 0, none⟩) 1 [1] := by
    rw [hW5, ← hs4]; exact ints1 W4 3 1
  have hle := Left_any 0 (some ⟨w3.heap.size, 0, none⟩) 1 1 [⟨1, 0, 0⟩] (some ⟨w3.heap.size + 1, 0, none⟩) 2 2 [⟨1, false, false, 0, 0⟩, ⟨2, false, false, 0, 0⟩] (some ⟨w3.heap.size + 1 + 1, 0, none⟩) 1 1 [1] W5
    ((hm3.below b4 (Nat.le_refl _)).below b5 (Nat.le_refl _)) (Nat.le_refl _) (by simp [maxLen]) (hm4.below b5 (Nat.le_refl _)) (by simp [maxLen]) hm5 (by simp [maxLen])
  rw [left_ex.1, left_ex.2] at hle
  have hb5 : Below w3.heap.size w3 W5 := (b3.trans (b4.mono b3.size)).trans (b5.mono (Nat.le_trans b3.size b4.size))
  rw [← hW3, ← hW4, ← hW5]
  have HB5 := Lib.hid (And.intro (bheap HB3.out.1 hb5 (Nat.le_refl _)) (And.intro (HB3.out.2.1.below hb5 (Nat.le_refl _)) (HB3.out.2.2.trans (hb5.mono HB3.out.2.2.size))))
  clear hW3 hW4 hW5 hs3 hs4 b3 b4 b5 hm3 hm4 hm5 hb5
  refine hle.mono ?_
  rintro e w6 ⟨⟨A6, c6, rfl, hi6, -, hc6⟩, hb6⟩
  have hbq6 := bheap HB5.out.1 hb6 (Nat.le_refl _)
  have HB6 := Lib.hid (And.intro (HB5.out.2.1.below hb6 (Nat.le_refl _)) (And.intro hi6 (HB5.out.2.2.trans (hb6.mono HB5.out.2.2.size))))
  obtain ⟨q0, q1⟩ := blk2 hbq6
  have hql := heap_lt hbq6
  clear hle hi6 hb6 hbq6
  go_wp2_with fail
  refine (sameInts_same A3 2 c3 [0, 3] (some ⟨w6.heap.size, 0, none⟩) 2 _ (HB6.out.1.below (bal0 w6 _) (Nat.le_refl _)) (ints2 w6 3 0 3) (by simp [maxLen])).mono ?_
  rintro e w7 ⟨rfl, hb7⟩
  have hb67 : Below w6.heap.size w6 w7 := (bal0 w6 (.cells #[.int .i64 0, .int .i64 3] 3 (0, 0))).trans (hb7.mono (bal0 w6 _).size)
  have HB7 := Lib.hid (And.intro (HB6.out.2.1.below hb67 (Nat.le_refl _)) (HB6.out.2.2.trans (hb67.mono HB6.out.2.2.size)))
  clear hb7 hb67 q0 q1 hql
  go_wp2_with fail
  refine (sameInts_same A6 1 c6 [1] (some ⟨w7.heap.size, 0, none⟩) 1 _ (HB7.out.1.below (bal0 w7 _) (Nat.le_refl _)) (ints1 w7 3 1) (by simp [maxLen])).mono ?_
  rintro e w8 ⟨rfl, hb8⟩
  have hb78 : Below w7.heap.size w7 w8 := (bal0 w7 (.cells #[.int .i64 1] 3 (0, 0))).trans (hb8.mono (bal0 w7 _).size)
  have HB8 := Lib.hid (HB7.out.2.trans (hb78.mono HB7.out.2.size))
  clear hb8 hb78
  go_wp2_with fail
  rw [hR]
  exact ⟨rfl, HB8.out⟩
end Go.Proofs.Ytgnjknihgjdedaa
namespace Go.Proofs.Ytgnjknihgjdedaa
open Go.RowKit
set_option linter.unusedVariables false
set_option linter.unusedSimpArgs false
def sumN (f : Nat → Int) : Nat → Int
  | 0 => 0
  | n + 1 => sumN f n + f n
theorem sumN_le {f g : Nat → Int} : ∀ {n : Nat}, (∀ o, o < n → f o ≤ g o) → sumN f n ≤ sumN g n
  | 0, _ => Int.le_refl _
  | n + 1, h => by
    have h1 := sumN_le (n := n) (f := f) (g := g) fun o ho => h o (by omega)
    have h2 := h n (by omega)
    show sumN f n + f n ≤ sumN g n + g n
    omega
theorem sumN_eq {f g : Nat → Int} : ∀ {n : Nat}, (∀ o, o < n → f o ≤ g o) → sumN g n ≤ sumN f n → ∀ o, o < n → f o = g o
  | 0, _, _, o, ho => by omega
  | n + 1, h, he, o, ho => by
    have he' : sumN g n + g n ≤ sumN f n + f n := he
    have h1 := sumN_le (n := n) (f := f) (g := g) fun o ho => h o (by omega)
    have h2 := h n (by omega)
    by_cases hon : o = n
    · subst hon; omega
    · exact sumN_eq (n := n) (fun o ho => h o (by omega)) (by omega) o (by omega)
theorem sumN_add {f g : Nat → Int} : ∀ n : Nat, sumN (fun o => f o + g o) n = sumN f n + sumN g n
  | 0 => rfl
  | n + 1 => by
    have := sumN_add (f := f) (g := g) n
    show sumN (fun o => f o + g o) n + (f n + g n) = (sumN f n + f n) + (sumN g n + g n)
    omega
theorem sumN_zero : ∀ n : Nat, sumN (fun _ => 0) n = 0
  | 0 => rfl
  | n + 1 => by
    have := sumN_zero n
    show sumN (fun _ => 0) n + 0 = 0
    omega
theorem sumN_one {y : Int} (h0 : 0 ≤ y) : ∀ n : Nat, sumN (fun o => if y = (o : Int) then 1 else 0) n = if y < (n : Int) then 1 else 0
  | 0 => by rw [if_neg (by omega)]; rfl
  | n + 1 => by
    have := sumN_one h0 n
    show sumN (fun o => if y = (o : Int) then 1 else 0) n + (if y = (n : Int) then 1 else 0) = _
    rw [this]
    by_cases h1 : y < (n : Int)
    · rw [if_pos h1, if_neg (by omega), if_pos (by omega)]; rfl
    · by_cases h2 : y = (n : Int)
      · rw [if_neg h1, if_pos h2, if_pos (by omega)]; rfl
      · rw [if_neg h1, if_neg h2, if_neg (by omega)]; rfl
theorem cnt_sumN {N : Nat} : ∀ {x : List Int}, (∀ y ∈ x, 0 ≤ y ∧ y < N) → sumN (fun o => (cntI x (o : Int) : Int)) N = (x.length : Int)
  | [], _ => by
    have : (fun o : Nat => (cntI [] (o : Int) : Int)) = fun _ => 0 := rfl
    rw [this, sumN_zero]; rfl
  | y :: x, h => by
    have ih := cnt_sumN (x := x) fun z hz => h z (List.mem_cons_of_mem _ hz)
    have hy := h y List.mem_cons_self
    have e : (fun o : Nat => (cntI (y :: x) (o : Int) : Int)) = fun o : Nat => (cntI x (o : Int) : Int) + (if y = (o : Int) then 1 else 0) := by
      funext o
      unfold cntI
      rw [List.countP_cons]
      by_cases h1 : y = (o : Int) <;> simp [h1]
    rw [e, sumN_add, ih, sumN_one hy.1, if_pos hy.2, List.length_cons]
    omega
theorem getD_sumN (m : List Int) : ∀ n : Nat, n ≤ m.length → sumN (fun o => m.getD o 0) n = (m.take n).sum
  | 0, _ => rfl
  | n + 1, h => by
    have ih := getD_sumN m n (by omega)
    show sumN (fun o => m.getD o 0) n + m.getD n 0 = _
    obtain ⟨x, hx⟩ : ∃ x, m[n]? = some x := ⟨_, List.getElem?_eq_getElem (show n < m.length by omega)⟩
    rw [ih, List.take_add_one, List.getD_eq_getElem?_getD, hx]
    simp
theorem mis_sumN {m : List Int} {n : Nat} (h : m.length = n) : sumN (fun o => m.getD o 0) n = m.sum := by
  rw [getD_sumN m n (by omega), List.take_of_length_le (by omega)]
theorem without_nil (ss : List Sg) : withoutS ss [] ss.length = ss := by
  unfold withoutS
  have e : ∀ i ∈ List.range ss.length, (!([] : List Int).contains (i : Int)) = true := fun i _ => rfl
  rw [List.filter_eq_self.2 e]
  apply List.ext_getElem
  · simp
  · intro i h1 h2
    simp only [List.getElem_map, List.getElem_range]
    rw [List.getD_eq_getElem?_getD, List.getElem?_eq_getElem h2]; rfl
theorem without_last (ss : List Sg) (s : Sg) : withoutS (ss ++ [s]) [(ss.length : Int)] (ss ++ [s]).length = ss := by
  rw [List.length_append, List.length_singleton, withoutS_succ, if_pos (by simp), List.append_nil]
  unfold withoutS
  have e : ∀ i ∈ List.range ss.length, (!([(ss.length : Int)] : List Int).contains (i : Int)) = true := fun i hi => by have := List.mem_range.1 hi; simp; omega
  rw [List.filter_eq_self.2 e]
  apply List.ext_getElem
  · simp
  · intro i h1 h2
    simp only [List.getElem_map, List.getElem_range]
    rw [List.getD_eq_getElem?_getD, List.getElem?_append_left h2, List.getElem?_eq_getElem h2]; rfl
section
variable {t : Int} {l : List Mk} {ss : List Sg} {os mis : List Int} {s : Sg}
theorem gath_len (hge : gatherE t l ss mis = 0) (hck : check t l = 0) : ss.length ≤ 6 := by
  unfold gatherE at hge
  rw [if_neg (by omega)] at hge
  by_cases h : 6 < ss.length
  · rw [if_pos h] at hge; omega
  · omega
theorem may_in (hn5 : l.length ≤ 5) (hml : mis.length = l.length) : ∀ r ∈ mays t l ss, ∀ o ∈ r, 0 ≤ o ∧ o < 5 ∧ o < mis.length := fun r hr o ho => by
  unfold mays at hr
  obtain ⟨s, _, rfl⟩ := List.mem_map.1 hr
  have := mayL_mem ho
  omega
theorem fold_law (hn5 : l.length ≤ 5) (hck : check t l = 0) (hsl : ss.length = os.length) (hft : FitL t l ss os) (hml : mis.length = l.length) (hcn : ∀ o : Nat, o < l.length → (cntI os (o : Int) : Int) = mis.getD o 0) (hm0 : ∀ x ∈ mis, 0 ≤ x) (hge : gatherE t l ss mis = 0) :
    homeE t l ss mis = 0 ∧ (homeL t l ss mis).length = ss.length ∧ leftR t l ss mis = [] ∧ shortE t l ss mis = 11 ∧ mis.sum = (ss.length : Int) ∧ ∀ o : Nat, o < l.length → (cntI (homeL t l ss mis) (o : Int) : Int) = mis.getD o 0 := by
  obtain ⟨h1, h2, h3, -⟩ := found_law hn5 hsl hft (fun o ho => by rw [hcn o ho]; exact Int.le_refl _) hm0 hge
  have hval : ∀ y ∈ os, 0 ≤ y ∧ y < l.length := fun y hy => by
    obtain ⟨k, hk⟩ := List.getElem?_of_mem hy
    have hkl := (List.getElem?_eq_some_iff.1 hk).1
    obtain ⟨_, on, m, rfl, hm, _⟩ := hft k _ y (List.getElem?_eq_getElem (show k < ss.length by omega)) hk
    have := (List.getElem?_eq_some_iff.1 hm).1
    omega
  have hsum : mis.sum = (ss.length : Int) := by
    rw [← mis_sumN hml, hsl, ← cnt_sumN hval]
    refine Int.le_antisymm (sumN_le fun o ho => ?_) (sumN_le fun o ho => ?_)
    · rw [hcn o ho]; exact Int.le_refl _
    · rw [hcn o ho]; exact Int.le_refl _
  have hsome : (giveL (mays t l ss) mis 0 (fun _ _ => true)).isSome = true := by
    unfold homeE at h1
    rw [if_neg (by rw [hge]; simp)] at h1
    cases hc : giveL (mays t l ss) mis 0 (fun _ _ => true) with
    | none => rw [hc] at h1; simp at h1
    | some x => rfl
  have h6 := gath_len hge hck
  have hmay : (mays t l ss).length = ss.length := by unfold mays; simp
  refine ⟨h1, h2, h3, ?_, hsum, fun o ho => ?_⟩
  · unfold shortE
    rw [if_pos hge, if_pos ((short_home (may_in hn5 hml) hm0 (by omega)).1 hsome)]
  · obtain ⟨x, hx⟩ := Option.isSome_iff_exists.1 hsome
    have hL : homeL t l ss mis = x := by
      unfold homeL
      rw [if_neg (by rw [hge]; simp), hx]; rfl
    have hall := give_all (t := t) (l := l) (ss := ss) (mis := mis) hn5 hm0
    rw [hx] at hall
    have hxg := List.find?_some hall.symm
    have hxm := wordsL_mem (List.mem_of_find?_eq_some hall.symm)
    unfold givesB at hxg
    rw [Bool.and_eq_true, List.all_eq_true] at hxg
    have hle : ∀ o : Nat, o < l.length → (cntI x (o : Int) : Int) ≤ mis.getD o 0 := fun o ho => by
      have := hxg.1 o (List.mem_range.2 ho)
      simpa using this
    rw [hL]
    exact sumN_eq (f := fun o => (cntI x (o : Int) : Int)) (g := fun o => mis.getD o 0) hle (by rw [mis_sumN hml, hsum, cnt_sumN hxm.2, hxm.1]; exact Int.le_refl _) o ho
theorem more_law (hn5 : l.length ≤ 5) (hck : check t l = 0) (hsl : ss.length = os.length) (hft : FitL t l ss os) (hml : mis.length = l.length) (hcn : ∀ o : Nat, o < l.length → (cntI os (o : Int) : Int) = mis.getD o 0) (hm0 : ∀ x ∈ mis, 0 ≤ x) (hge0 : gatherE t l ss mis = 0) (hge : gatherE t l (ss ++ [s]) mis = 0) :
    homeE t l (ss ++ [s]) mis = 11 ∧ (leftR t l (ss ++ [s]) mis).length = 1 ∧ shortE t l (ss ++ [s]) mis = 0 := by
  obtain ⟨h1, -, -, -, hsum, -⟩ := fold_law hn5 hck hsl hft hml hcn hm0 hge0
  have h6 := gath_len hge hck
  have hmay : (mays t l (ss ++ [s])).length = ss.length + 1 := by unfold mays; simp
  have hnone : giveL (mays t l (ss ++ [s])) mis 0 (fun _ _ => true) = none := by
    cases hc : giveL (mays t l (ss ++ [s])) mis 0 (fun _ _ => true) with
    | none => rfl
    | some x =>
      exfalso
      have hall := give_all (t := t) (l := l) (ss := ss ++ [s]) (mis := mis) hn5 hm0
      rw [hc] at hall
      have hxg := List.find?_some hall.symm
      have hxm := wordsL_mem (List.mem_of_find?_eq_some hall.symm)
      unfold givesB at hxg
      rw [Bool.and_eq_true, List.all_eq_true] at hxg
      have hle : ∀ o : Nat, o < l.length → (cntI x (o : Int) : Int) ≤ mis.getD o 0 := fun o ho => by
        have := hxg.1 o (List.mem_range.2 ho)
        simpa using this
      have h := sumN_le (f := fun o => (cntI x (o : Int) : Int)) (g := fun o => mis.getD o 0) hle
      rw [mis_sumN hml, hsum, cnt_sumN hxm.2, hxm.1, List.length_append, List.length_singleton] at h
      omega
  refine ⟨?_, ?_, ?_⟩
  · unfold homeE
    rw [if_neg (by rw [hge]; simp), hnone, if_pos rfl]
  · have hsome : (giveL (mays t l ss) mis 0 (fun _ _ => true)).isSome = true := by
      unfold homeE at h1
      rw [if_neg (by rw [hge0]; simp)] at h1
      cases hc : giveL (mays t l ss) mis 0 (fun _ _ => true) with
      | none => rw [hc] at h1; simp at h1
      | some x => rfl
    have hgv : (givs (mays t l ss) mis).isEmpty = false := by
      have h := left_givs (t := t) (l := l) (ss := ss) (mis := mis) (q := []) hn5 hml hm0 (fun i hi => nomatch hi)
      rw [without_nil] at h
      have h2 : (giveL (mays t l ss) mis (bitsF 0 []) (fun _ _ => true)).isSome = true := hsome
      rw [h2] at h
      simpa using h.symm
    have hfind : ((picksL (ss ++ [s]).length 0 1).find? fun q => !(givs (mays t l (withoutS (ss ++ [s]) q (ss ++ [s]).length)) mis).isEmpty).isSome = true := by
      rw [List.find?_isSome]
      refine ⟨[(ss.length : Int)], ?_, ?_⟩
      · exact picks_has (show Asc (ss ++ [s]).length 0 [(ss.length : Int)] from ⟨ss.length, rfl, Nat.zero_le _, by simp, trivial⟩)
      · rw [without_last, hgv]; rfl
    obtain ⟨q, hq⟩ := Option.isSome_iff_exists.1 hfind
    have hql := (picks_mem (List.mem_of_find?_eq_some hq)).2
    unfold leftR
    rw [if_pos hge]
    unfold leftL
    rw [hmay]
    show ((match pickRest (mays t l (ss ++ [s])).length (fun set => (giveL (mays t l (ss ++ [s])) mis set (fun _ _ => true)).isSome) 0 0 0 with | some l => some l | none => leftOf (mays t l (ss ++ [s])) mis (ss.length + 1) (0 + 1)).getD []).length = 1
    have hp0 : pickRest (mays t l (ss ++ [s])).length (fun set => (giveL (mays t l (ss ++ [s])) mis set (fun _ _ => true)).isSome) 0 0 0 = none := by
      unfold pickRest
      rw [hnone]; rfl
    rw [hp0]
    show ((match pickRest (mays t l (ss ++ [s])).length (fun set => (giveL (mays t l (ss ++ [s])) mis set (fun _ _ => true)).isSome) 1 0 0 with | some l => some l | none => leftOf (mays t l (ss ++ [s])) mis ss.length (1 + 1)).getD []).length = 1
    rw [leftOf_find hn5 hml hm0 1, hq]
    exact hql
  · unfold shortE
    rw [if_pos hge, if_neg]
    intro hc
    have h7 : (ss ++ [s]).length = ss.length + 1 := by simp
    have := (short_home (may_in hn5 hml) hm0 (by omega)).2 hc
    rw [hnone] at this
    cases this
end
end Go.Proofs.Ytgnjknihgjdedaa
namespace Go.Proofs.Ytgnjknihgjdedaa
open Go.RowKit
set_option linter.unusedVariables false
set_option linter.unusedSimpArgs false

structure P13Z (w0 : World) (z H g q : Nat) (t : Int) (bm bk bh bd vm : Value) (l : List Mk) (mv : List Value) (hs : List (List Int)) (vu : Value) (row : List Int) (w : World) : Prop where
  gr : w0.grownBy w (some H)
  sz : z ≤ w.heap.size
  box : w.heap[q]? = some (boxO t bm bk bh bd)
  bg : w.heap[g]? = some (boxO 0 (.slice none 0 0) (.slice none 0 0) (.slice none 0 0) (.slice none 0 0))
  m : OwnM w (g + 1) vm l
  rw : Rws w (g + 1) mv hs
  u : OwnI w (g + 1) vu row
section
variable {w0 ws w w' : World} {H g q N j : Nat} {t : Int} {bm bk bh bd vm vk vh vu v : Value} {l : List Mk} {ks : List Int} {mv : List Value} {hs : List (List Int)} {row : List Int}
end

end Go.Proofs.Ytgnjknihgjdedaa
