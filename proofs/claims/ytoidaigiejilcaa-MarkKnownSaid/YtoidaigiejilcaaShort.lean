/- mark.Short: the first list of strays whose owners miss too few. -/
import Derived.Test.YtoidaigiejilcaaLeft
import Derived.Test.YtoidaigiejilcaaLawK
import Derived.Test.YtoidaigiejilcaaWorn
namespace Go.Proofs.Ytoidaigiejilcaa
open Go.RowKit
set_option linter.unusedVariables false
set_option linter.unusedSimpArgs false

theorem bit_at64 (s i : Nat) (hs : s < 64) (hi : i < 6) : bits .and .u64 ((s : Int) / 2 ^ i) 1 = ((s >>> i % 2 : Nat) : Int) := by
  have : ∀ s : Fin 64, ∀ i : Fin 6, bits .and .u64 ((s.1 : Int) / 2 ^ i.1) 1 = ((s.1 >>> i.1 % 2 : Nat) : Int) := by decide +kernel
  exact this ⟨s, hs⟩ ⟨i, hi⟩
theorem or_at64 (a b o : Nat) (ha : a < 32) (hb : b < 2) (ho : o < 5) : bits .or .u64 (a : Int) (IntKind.u64.wrap ((b : Int) * 2 ^ o)) = ((a ||| b <<< o : Nat) : Int) := by
  have : ∀ a : Fin 32, ∀ b : Fin 2, ∀ o : Fin 5, bits .or .u64 (a.1 : Int) (IntKind.u64.wrap ((b.1 : Int) * 2 ^ o.1)) = ((a.1 ||| b.1 <<< o.1 : Nat) : Int) := by decide +kernel
  exact this ⟨a, ha⟩ ⟨b, hb⟩ ⟨o, ho⟩
theorem maskRow_lt {s : Nat} (hs : s < 2) : ∀ (r : List Int) (a : Nat), (∀ x ∈ r, 0 ≤ x ∧ x < 5) → a < 32 → maskRow s a r < 32
  | [], a, _, h => h
  | x :: r, a, hr, h => by
    have hx := hr x (by simp)
    refine maskRow_lt hs r _ (fun y hy => hr y (by simp [hy])) ?_
    have h1 : s <<< x.toNat < 2 ^ 5 := by
      rw [Nat.shiftLeft_eq]
      have h2 : 2 ^ x.toNat ≤ 2 ^ 4 := Nat.pow_le_pow_right (by omega) (by omega)
      have h3 : s * 2 ^ x.toNat ≤ 1 * 2 ^ 4 := Nat.mul_le_mul (by omega) h2
      omega
    exact Nat.or_lt_two_pow (n := 5) h h1
theorem maskTo_lt {may : List (List Int)} {set : Nat} (hm : ∀ l ∈ may, ∀ o ∈ l, 0 ≤ o ∧ o < 5) : ∀ i, maskTo may set i < 32
  | 0 => by simp [maskTo]
  | i + 1 => by
    refine maskRow_lt (Nat.mod_lt _ (by omega)) _ _ (fun x hx => ?_) (maskTo_lt hm i)
    rw [List.getD_eq_getElem?_getD] at hx
    cases hj : may[i]? with
    | none => rw [hj] at hx; simp at hx
    | some row => rw [hj] at hx; exact hm row (List.mem_of_getElem? hj) x hx
theorem maskRow_snoc {s a : Nat} {r : List Int} {j : Nat} {o : Nat} (h : r[j]? = some (o : Int)) : maskRow s a (r.take (j + 1)) = maskRow s a (r.take j) ||| s <<< o := by
  rw [List.take_add_one, h]
  unfold maskRow
  rw [List.foldl_append]
  rfl
theorem need_bd {p : Nat → Bool} {mis : List Int} (hmis : ∀ x ∈ mis, 0 ≤ x ∧ x ≤ 6) : ∀ n : Nat, 0 ≤ needTo p mis n ∧ needTo p mis n ≤ 6 * n
  | 0 => by simp [needTo]
  | n + 1 => by
    have h := need_bd (p := p) hmis n
    have h2 : 0 ≤ mis.getD n 0 ∧ mis.getD n 0 ≤ 6 := by
      rw [List.getD_eq_getElem?_getD]
      cases hmo : mis[n]? with
      | none => simp
      | some z => have := hmis z (List.mem_of_getElem? hmo); simpa using this
    unfold needTo
    by_cases hp : p n = true
    · rw [if_pos hp]; omega
    · rw [if_neg hp]; omega

set_option maxRecDepth 100000 in
set_option maxHeartbeats 2000000 in
theorem shortPass_any {t : Int} {A : Option Addr} {n c : Nat} {Am : Option Addr} {k cm : Nat} {Ai : Option Addr} {ni ci : Nat} {may : List (List Int)} {mis : List Int} (B M set : Nat) (w : World)
    (hb : w.heap[B]? = some (.cells #[.int .i64 t, .slice A n c, .slice Am k cm, .slice Ai ni ci] 93 (0, 0))) (hM : w.heap[M]? = some (.cells #[.slice Ai ni ci] 22 (0, 0))) (hk : k = may.length) (hg : Grid w Am may.length may) (hmi : Ints w Ai ni mis) (hL : may.length ≤ 6) (hset : set < 64) (hm : ∀ l ∈ may, l.length ≤ 4294967296 ∧ ∀ o ∈ l, 0 ≤ o ∧ o < 5 ∧ o.toNat < ni)
    (hni : ni ≤ 5) (hmv : ∀ x ∈ mis, 0 ≤ x ∧ x ≤ 6) :
    Calls Try.prog 59 #[.int .u64 set, .pointer (some ⟨B, 0, none⟩), .pointer (some ⟨M, 0, none⟩)] w fun e w' => e = .returned (.bool (shortB may mis set)) ∧ Below w.heap.size w w' := by
  have HG := Lib.hid (And.intro hg (And.intro hmi (And.intro hm (And.intro hk (And.intro hmv hmi.len)))))
  obtain ⟨x0, x1, x2, x3⟩ := blk4 hb
  have m0 := blk1 hM
  have hl := heap_lt hb
  have hlM := heap_lt hM
  obtain ⟨L, hLL⟩ : ∃ L, L = may.length := ⟨_, rfl⟩
  have HL := Lib.hid hLL
  obtain rfl : k = L := by rw [hk, hLL]
  rw [← hLL] at hL
  have HM5 := Lib.hid (show ∀ l ∈ may, ∀ o ∈ l, 0 ≤ o ∧ o < 5 from fun l hl o ho => ⟨((hm l hl).2 o ho).1, ((hm l hl).2 o ho).2.1⟩)
  obtain ⟨S, hS⟩ : ∃ S, S = shortB may mis set := ⟨_, rfl⟩
  rw [← hS]
  have HS := Lib.hid hS
  clear hg hmi hm hk hb hM hLL hS hmv
  go_enter Try.func59, Try.ntmps59
  go_wp2_with fail
  clear x0 x1 x2 x3
  go_loopg [5, 16] k (fun g v i wr => ∃ j : Nat, j + g = k ∧ i = .int .i64 j ∧ v = .int .u64 (maskTo may set j : Nat) ∧ w = wr)
  case atStart => exact ⟨0, by omega, rfl, rfl, rfl⟩
  case round =>
    obtain ⟨j, hj, rfl, rfl, rfl⟩ := hrel
    have HJ := Lib.hid hj
    obtain ⟨g1, rfl⟩ : ∃ g1 : Nat, g1 = gk := ⟨_, rfl⟩
    have hjk : j ≤ k := by omega
    obtain ⟨a, ha⟩ : ∃ a, a = maskTo may set j := ⟨_, rfl⟩
    have hab : a < 32 := by rw [ha]; exact maskTo_lt HM5.out j
    rw [← ha]
    have HA := Lib.hid ha
    clear hj ha
    by_cases hlt : j < k
    · obtain ⟨bb, off, C, r, cr, rfl, hbb, hr, hc, hri, hrc, hrm⟩ := HG.out.1.get (show j < may.length by rw [← HL.out]; exact hlt)
      have j0 : (0 : Int) ≤ (j : Int) := by omega
      have j1 : (j : Int) < (k : Int) := by omega
      have HR := Lib.hid (And.intro hr (And.intro hri (HG.out.2.2.1 r (List.mem_of_getElem? hr))))
      have hrl : r.length ≤ 4294967296 := HR.out.2.2.1
      obtain ⟨b, hb⟩ : ∃ b, b = set >>> j % 2 := ⟨_, rfl⟩
      have hb2 : b < 2 := by rw [hb]; exact Nat.mod_lt _ (by omega)
      have hbit := bit_at64 set j hset (by omega)
      rw [← hb] at hbit
      have HB := Lib.hid (And.intro hb hbit)
      clear hr hri hb hbit
      go_wp2_with fail
      clear hc
      go_loopg [5, 23] r.length (fun g v i wr => ∃ q : Nat, q + g = r.length ∧ i = .int .i64 q ∧ v = .int .u64 (maskRow b a (r.take q) : Nat) ∧ w = wr)
      case atStart => exact ⟨0, by omega, rfl, rfl, rfl⟩
      case round =>
        obtain ⟨q, hq, rfl, rfl, rfl⟩ := hrel
        have HQ := Lib.hid hq
        have hqr : q ≤ r.length := by omega
        obtain ⟨z, hz⟩ : ∃ z, z = maskRow b a (r.take q) := ⟨_, rfl⟩
        have hz32 : z < 32 := by rw [hz]; exact maskRow_lt hb2 _ _ (fun x hx => HM5.out r (List.mem_of_getElem? HR.out.1) x (List.mem_of_mem_take hx)) hab
        rw [← hz]
        have HZ := Lib.hid hz
        clear hq hz
        by_cases hlq : q < r.length
        · obtain ⟨be, oe, y, rfl, hbe, hy, y0⟩ := Ints.get HR.out.2.1 hlq
          have hyv := HR.out.2.2.2 y (List.mem_of_getElem? hy)
          obtain ⟨yo, rfl⟩ := Int.eq_ofNat_of_zero_le hyv.1
          have hyo : yo < 5 := by omega
          have HY := Lib.hid (maskRow_snoc (s := b) (a := a) hy)
          have q0 : (0 : Int) ≤ (q : Int) := by omega
          have q1 : (q : Int) < (r.length : Int) := by omega
          have y1 : (0 : Int) ≤ (yo : Int) := by omega
          have hbit := HB.out.2
          have hor := or_at64 z b yo hz32 hb2 hyo
          clear hy hbe hyv
          go_wp2
          go_roundg (gk - 1)
          case measure => have := HQ.out; omega
          case rel => exact ⟨q + 1, by have := HQ.out; omega, by go_num, by rw [HY.out, ← HZ.out], rfl⟩
        · obtain rfl : q = r.length := by omega
          go_wp2
          go_roundg (g1 - 1)
          case measure => have := HJ.out; omega
          case rel =>
            refine ⟨j + 1, by have := HJ.out; omega, by go_num, ?_, rfl⟩
            have h := HZ.out
            rw [List.take_of_length_le (Nat.le_refl _), HB.out.1, HA.out] at h
            rw [h]
            show _ = Value.int .u64 ((maskRow (set >>> j % 2) (maskTo may set j) (may.getD j []) : Nat) : Int)
            rw [List.getD_eq_getElem?_getD, HR.out.1]
            rfl
    · obtain rfl : j = k := by omega
      have HMV := Lib.hid (And.intro HG.out.2.2.2.2.1 HG.out.2.2.2.2.2)
      go_wp2_with fail
      clear m0
      go_loopg [10, 41] ni (fun g v i wr => ∃ q : Nat, q + g = ni ∧ i = .int .i64 q ∧ v = .int .i64 (needTo (fun o => a.testBit o) mis q) ∧ w = wr)
      case atStart => exact ⟨0, by omega, rfl, rfl, rfl⟩
      case round =>
        obtain ⟨q, hq, rfl, rfl, rfl⟩ := hrel
        have HQ := Lib.hid hq
        have hqr : q ≤ ni := by omega
        have hbd := need_bd (p := fun o => a.testBit o) HMV.out.1 q
        obtain ⟨z, hz⟩ : ∃ z, z = needTo (fun o => a.testBit o) mis q := ⟨_, rfl⟩
        rw [← hz] at hbd ⊢
        have HZ := Lib.hid hz
        obtain ⟨hz0, hz1⟩ := hbd
        clear hq hz
        by_cases hlq : q < ni
        · obtain ⟨be, oe, y, rfl, hbe, hy, y0⟩ := Ints.get HG.out.2.1 hlq
          have hyv := HMV.out.1 y (List.mem_of_getElem? hy)
          have HY := Lib.hid (show mis.getD q 0 = y by rw [List.getD_eq_getElem?_getD, hy]; rfl)
          have q0 : (0 : Int) ≤ (q : Int) := by omega
          have q1 : (q : Int) < (ni : Int) := by omega
          have y1 := hyv.1
          have y2 := hyv.2
          obtain ⟨b, hb⟩ : ∃ b, b = a >>> q % 2 := ⟨_, rfl⟩
          have hb2 : b < 2 := by rw [hb]; exact Nat.mod_lt _ (by omega)
          have hbit := bit_at64 a q (by omega) (by omega)
          rw [← hb] at hbit
          have HT := Lib.hid (show a.testBit q = decide (b = 1) by rw [hb, Nat.testBit_eq_decide_div_mod_eq, Nat.shiftRight_eq_div_pow])
          clear hy hbe hyv hb
          have hb01 : b = 0 ∨ b = 1 := by omega
          rcases hb01 with rfl | rfl
          all_goals
            go_wp2
            go_roundg (gk - 1)
            case measure => have := HQ.out; omega
            case rel =>
              refine ⟨q + 1, by have := HQ.out; omega, by go_num, ?_, rfl⟩
              show _ = Value.int .i64 (needTo (fun o => a.testBit o) mis q + if a.testBit q = true then mis.getD q 0 else 0)
              rw [HT.out, HY.out, ← HZ.out]
              simp
        · obtain rfl : q = ni := by omega
          have hset0 : (0 : Int) ≤ (set : Int) := by omega
          have hset1 : (set : Int) ≤ 255 := by omega
          have HP := Lib.hid (ones_any (set : Int) w hset0 hset1)
          go_wp2_with fail
          (with_reducible refine HP.out.mono ?_)
          rintro e w2 ⟨rfl, rfl⟩
          go_wp2
          go_ret
          refine ⟨ret_bool ?_, Below.refl _ _⟩
          rw [HS.out]
          unfold shortB
          rw [HMV.out.2, ← HL.out, ← HA.out, ← HZ.out]
def shortS (t : Int) (l : List Mk) (ss : List Sg) (mis : List Int) : Option (List Int) := shortL (mays t l ss) mis
def shortR (t : Int) (l : List Mk) (ss : List Sg) (mis : List Int) : List Int := if gatherE t l ss mis = 0 then (shortL (mays t l ss) mis).getD [] else []
def shortE (t : Int) (l : List Mk) (ss : List Sg) (mis : List Int) : Int := if gatherE t l ss mis = 0 then (if shortL (mays t l ss) mis = none then 11 else 0) else gatherE t l ss mis

set_option maxRecDepth 100000 in
set_option maxHeartbeats 4000000 in
theorem Short_any (t : Int) (A : Option Addr) (n c : Nat) (l : List Mk) (B : Option Addr) (m cb : Nat) (ss : List Sg) (Ai : Option Addr) (ni ci : Nat) (mis : List Int) (w : World)
    (hl : Marks w A n l) (hlc : n ≤ c) (hcm : c ≤ maxLen) (hss : Sights w B m ss) (hmm : m ≤ maxLen) (hmi : Ints w Ai ni mis) (hni : ni ≤ maxLen) :
    Calls Try.prog 18 #[.agg #[.int .i64 t, .slice A n c], .slice B m cb, .slice Ai ni ci] w fun e w' => IntsRes (shortR t l ss mis) (shortE t l ss mis) e w' ∧ Below w.heap.size w w' := by
  have HL := Lib.hid hl
  have HSS := Lib.hid hss
  have HMI := Lib.hid hmi
  have hml := hmi.len
  have HN := Lib.hid (And.intro hml hss.len)
  have hmf : ∀ (fn : Fn) (first cap : Array Value) (w : World), (Instr.makeFunc fn first cap).run Try.prog w = .ok (.func fn first cap) w := fun _ _ _ _ => rfl
  obtain ⟨LR, hLR⟩ : ∃ x, x = shortR t l ss mis := ⟨_, rfl⟩
  obtain ⟨LE, hLE⟩ : ∃ x, x = shortE t l ss mis := ⟨_, rfl⟩
  rw [← hLR, ← hLE]
  have HLR := Lib.hid (And.intro hLR hLE)
  clear hl hss hmi hml hLR hLE
  go_enter Try.func18, Try.ntmps18
  go_upto_region 1 with (fail)
  obtain ⟨W0, hW0⟩ : ∃ W0, W0 = (w.alloc (Obj.cells #[Value.int .i64 t, .slice A n c] 25)).alloc (Obj.cells #[.slice Ai ni ci] 22) := ⟨_, rfl⟩
  rw [← hW0]
  have hbw : Below w.heap.size w W0 := by rw [hW0]; exact bal (bal0 w _) (Nat.le_refl _) _
  have hW0s : W0.heap.size = w.heap.size + 1 + 1 := by rw [hW0]; simp
  have b0 : W0.heap[w.heap.size]? = some (Obj.cells #[Value.int .i64 t, .slice A n c] 25 (0, 0)) := by rw [hW0]; exact hblk_alloc (alloc_at rfl) _
  have bM : W0.heap[w.heap.size + 1]? = some (Obj.cells #[.slice Ai ni ci] 22 (0, 0)) := by rw [hW0]; exact alloc_at (by simp)
  obtain ⟨r0, r1⟩ := blk2 b0
  have rM := blk1 bM
  have hl0 := heap_lt b0
  have hlM := heap_lt bM
  have HW0 := Lib.hid (And.intro hbw (And.intro bM hW0s))
  clear hW0 hbw hW0s b0 bM
  go_wp2_with fail
  refine (gather_any t A n c l B m cb ss Ai ni ci mis _ (HL.out.below HW0.out.1 (Nat.le_refl _)) hlc hcm (HSS.out.below HW0.out.1 (Nat.le_refl _)) hmm (HMI.out.below HW0.out.1 (Nat.le_refl _)) hni).mono ?_
  rintro e w1 ⟨hr, hb1⟩
  have hB1 : Below w.heap.size w w1 := HW0.out.1.trans (hb1.mono (by omega))
  have hz1 := hb1.size
  clear r0 r1 rM
  have bM := bheap HW0.out.2.1 hb1 (Nat.le_refl _)
  have rM := blk1 bM
  have HBM := Lib.hid bM
  clear bM
  by_cases hge : gatherE t l ss mis = 0
  · have hg : ∃ v, e = Ending.returned (.tuple #[.agg #[.int .i64 t, .slice A n c, v, .slice Ai ni ci], .int .i64 0]) ∧ OwnG w1 W0.heap.size v (mays t l ss) := by
      unfold GatherRes at hr
      rw [if_pos hge] at hr
      exact hr
    clear hr
    obtain ⟨v, rfl, hog⟩ := hg
    obtain ⟨Am, cm, rfl, hgr, hcm2, hmx⟩ := hog.form
    obtain ⟨hck, hk6', _, hmln, hmall⟩ := mays_ok hge
    have hk6 : (mays t l ss).length ≤ 6 := by unfold mays; rw [List.length_map]; exact hk6'
    have hkm : (mays t l ss).length = m := by unfold mays; rw [List.length_map]; exact HN.out.2
    have hni5 : ni ≤ 5 := by have := (check_ok hck).2.2.1; have := HN.out.1; omega
    have hmv : ∀ x ∈ mis, 0 ≤ x ∧ x ≤ 6 := fun x hx => btw_iff.1 (List.all_eq_true.1 hmall x hx)
    obtain ⟨may, hmay⟩ : ∃ may, may = mays t l ss := ⟨_, rfl⟩
    rw [← hmay] at hgr hk6 hkm ⊢
    have hLR2 : LR = (shortL may mis).getD [] := by rw [HLR.out.1, hmay]; unfold shortR; rw [if_pos hge]
    have hLE2 : LE = if shortL may mis = none then 11 else 0 := by rw [HLR.out.2, hmay]; unfold shortE; rw [if_pos hge]
    have HG := Lib.hid (And.intro hge (And.intro hgr (And.intro hB1 (And.intro hLR2 hLE2))))
    have HK := Lib.hid (show ∀ r ∈ may, r.length ≤ 4294967296 ∧ ∀ o ∈ r, 0 ≤ o ∧ o < 5 ∧ o.toNat < ni by rw [hmay]; exact mays_in hge HN.out.1)
    clear hog hgr hcm2 hmx hB1 hb1 hmay hLR2 hLE2 hmln hmall hck hk6'
    have HKM := Lib.hid hkm
    have hm6 : m ≤ 6 := by omega
    rw [hkm]
    clear hkm hge
    go_upto_region 4 with (fail)
    obtain ⟨W1, hW⟩ : ∃ W1, W1 = w1.alloc (Obj.cells #[Value.int .i64 t, .slice A n c, .slice Am m cm, .slice Ai ni ci] 93) := ⟨_, rfl⟩
    rw [← hW]
    have b8 : W1.heap[w1.heap.size]? = some (Obj.cells #[Value.int .i64 t, .slice A n c, .slice Am m cm, .slice Ai ni ci] 93 (0, 0)) := by rw [hW]; exact alloc_at rfl
    have hbW1 : Below w1.heap.size w1 W1 := by rw [hW]; exact bal0 w1 _
    have hgW : Grid W1 Am may.length may := by rw [HKM.out]; exact (HKM.out ▸ HG.out.2.1).below hbW1 (Nat.le_refl _)
    have hmW : Ints W1 Ai ni mis := HMI.out.below (HG.out.2.2.1.trans (hbW1.mono (by omega))) (Nat.le_refl _)
    have hBW : Below w.heap.size w W1 := HG.out.2.2.1.trans (hbW1.mono (by omega))
    have hMW := bheap HBM.out hbW1 (Nat.le_refl _)
    have HW1 := Lib.hid (And.intro b8 (And.intro hgW (And.intro hmW hBW)))
    have hl8 := heap_lt b8
    have HPASS := Lib.hid (fun (W : World) (hW : Below W1.heap.size W1 W) (set : Nat) (hset : set < 64) =>
      shortPass_any (t := t) (A := A) (n := n) (c := c) (Am := Am) (k := m) (cm := cm) (Ai := Ai) (ni := ni) (ci := ci) (may := may) (mis := mis) w1.heap.size (w.heap.size + 1) set W (bheap b8 hW (Nat.le_refl _)) (bheap hMW hW (Nat.le_refl _)) HKM.out.symm (hgW.below hW (Nat.le_refl _)) (hmW.below hW (Nat.le_refl _)) hk6 hset HK.out hni5 hmv)
    obtain ⟨pf, hpf⟩ : ∃ pf : Nat → Bool, pf = shortB may mis := ⟨_, rfl⟩
    have HPF := Lib.hid hpf
    clear hW hbW1 hgW hmW hBW b8 hpf hMW rM hmv
    go_wp2_with fail
    go_loopg [10] m (fun g x wr => ∃ k : Nat, k + g = m ∧ x = .int .i64 ((k + 1 : Nat) : Int) ∧ (∀ j, 1 ≤ j → j < k + 1 → pickRest m pf j 0 0 = none) ∧ Below W1.heap.size W1 wr)
    case atStart => exact ⟨0, by omega, rfl, fun j _ hj => by omega, Below.refl _ _⟩
    case round =>
      obtain ⟨k', hk, rfl, hno, hbr⟩ := hrel
      obtain ⟨k, hkk⟩ : ∃ k, k = k' + 1 := ⟨_, rfl⟩
      rw [← hkk] at hno ⊢
      have HI := Lib.hid (And.intro hk (And.intro hno (And.intro hbr hkk)))
      have hkm : k ≤ m + 1 := by omega
      have hk1 : 1 ≤ k := by omega
      clear hk hno hkk
      by_cases hlt : k ≤ m
      · obtain ⟨x0, x1, x2, x3⟩ := blk4 (bheap HW1.out.1 hbr (Nat.le_refl _))
        have hlr := heap_lt (bheap HW1.out.1 hbr (Nat.le_refl _))
        have C := list_any (t := t) (A := A) (n := n) (c := c) (Am := Am) (L := m) (cm := cm) (Ai := Ai) (ni := ni) (ci := ci) k hm6 59 #[] #[.pointer (some ⟨w1.heap.size, 0, none⟩), .pointer (some ⟨w.heap.size + 1, 0, none⟩)] pf wr (fun _ _ => by kernel_rfl) (fun W hW set hset => by
          rw [HPF.out]
          exact HPASS.out W (hbr.trans (hW.mono hbr.size)) set hset)
        obtain ⟨r, hr⟩ : ∃ r, r = pickRest m pf k 0 0 := ⟨_, rfl⟩
        rw [← hr] at C
        have HC := Lib.hid C
        have HR := Lib.hid hr.symm
        have k0 : (k : Int) ≤ (m : Int) := by omega
        clear C hr hbr
        go_wp2_with fail
        (with_reducible refine HC.out.mono ?_)
        rintro e w3 ⟨hres, hb3⟩
        have HB := Lib.hid (HI.out.2.2.1.trans (hb3.mono HI.out.2.2.1.size))
        clear hb3 x0 x1 x2 x3
        cases r with
        | none =>
          obtain ⟨v, rfl⟩ := hres
          go_wp2
          go_roundg (gk - 1)
          case measure => have := HI.out.1; have := HI.out.2.2.2; omega
          case rel =>
            refine ⟨k, by have := HI.out.1; have := HI.out.2.2.2; omega, by go_num, fun j hj1 hj => ?_, HB.out⟩
            by_cases hjk : j = k
            · subst hjk; exact HR.out
            · exact HI.out.2.1 j hj1 (by omega)
        | some q =>
          obtain ⟨A', c', rfl, hq1, hq2, hq3, hq4⟩ := hres
          have HQ := Lib.hid (And.intro hq1 (And.intro hq2 hq3))
          clear hq1 hq2 hq3 hq4
          go_wp2
          go_ret2
          refine ⟨?_, HW1.out.2.2.2.trans (HB.out.mono HW1.out.2.2.2.size)⟩
          have hsome : shortL may mis = some q := by
            unfold shortL
            rw [HKM.out, show m = (k - 1) + ((m - k) + 1) by omega, shortOf_skip (k - 1) ((m - k) + 1) 1 (fun j hj1 hj => by rw [HKM.out, ← HPF.out]; exact HI.out.2.1 j hj1 (by omega))]
            show (match pickRest may.length (shortB may mis) (1 + (k - 1)) 0 0 with | some l => some l | none => shortOf may mis (m - k) (1 + (k - 1) + 1)) = some q
            rw [HKM.out, ← HPF.out, show 1 + (k - 1) = k by omega, HR.out]
          have hLq : LR = q := by rw [HG.out.2.2.2.1, hsome]; rfl
          have hLe : LE = 0 := by rw [HG.out.2.2.2.2, hsome]; rfl
          rw [hLq, hLe]
          exact ⟨A', c', rfl, HQ.out⟩
      · obtain rfl : k = m + 1 := by omega
        have k0 : ¬ ((m : Int) + 1 ≤ (m : Int)) := by omega
        have hcast : ((m + 1 : Nat) : Int) = (m : Int) + 1 := by omega
        rw [hcast]
        have HB := Lib.hid hbr
        clear hbr hcast
        go_wp2
        go_ret2
        refine ⟨?_, HW1.out.2.2.2.trans (HB.out.mono HW1.out.2.2.2.size)⟩
        have hnone : shortL may mis = none := by
          unfold shortL
          rw [HKM.out, shortOf_none]
          intro j hj1 hj2
          rw [HKM.out, ← HPF.out]
          exact HI.out.2.1 j hj1 (by omega)
        have hLq : LR = [] := by rw [HG.out.2.2.2.1, hnone]; rfl
        have hLe : LE = 11 := by rw [HG.out.2.2.2.2, hnone]; rfl
        rw [hLq, hLe]
        exact ⟨none, 0, rfl, Sl.nil_, Nat.le_refl _, by unfold maxLen; omega⟩
  · have hg : e = Ending.returned (.tuple #[.agg #[.int .i64 0, .slice none 0 0, .slice none 0 0, .slice none 0 0], .int .i64 (gatherE t l ss mis)]) := by
      unfold GatherRes at hr
      rwa [if_neg hge] at hr
    subst hg
    have h0 : (gatherE t l ss mis != 0) = true := by simp [hge]
    have HE := Lib.hid (And.intro (show LR = [] by rw [HLR.out.1]; unfold shortR; rw [if_neg hge]) (show LE = gatherE t l ss mis by rw [HLR.out.2]; unfold shortE; rw [if_neg hge]))
    clear hr hge
    go_wp2
    go_ret2
    refine ⟨?_, bal hB1 (Nat.le_refl _) _⟩
    rw [HE.out.1, HE.out.2]
    exact ⟨none, 0, rfl, Sl.nil_, Nat.le_refl _, by unfold maxLen; omega⟩
end Go.Proofs.Ytoidaigiejilcaa
