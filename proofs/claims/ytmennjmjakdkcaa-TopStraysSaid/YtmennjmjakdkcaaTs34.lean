/- TopStrays 34: Left, LawL, FoundA, TopL. -/
import Derived.Test.YtmennjmjakdkcaaTs33
import Derived.Test.YtmennjmjakdkcaaTs32
import Derived.Test.YtmennjmjakdkcaaTs02
import Derived.Test.YtmennjmjakdkcaaTs03
import Derived.Test.YtmennjmjakdkcaaTs27
import Derived.Test.YtmennjmjakdkcaaTs01
import Derived.Test.YtmennjmjakdkcaaTs28
import Derived.Test.YtmennjmjakdkcaaTs31
import Derived.Test.YtmennjmjakdkcaaTs06
import Derived.Deep.RegionHeld3
import Derived.Test.YtmennjmjakdkcaaTs23
namespace Go.Proofs.Ytmennjmjakdkcaa
open Go.RowKit
set_option linter.unusedVariables false
set_option linter.unusedSimpArgs false

set_option maxRecDepth 100000 in
set_option maxHeartbeats 2000000 in
theorem list_any {t : Int} {A : Option Addr} {n c : Nat} {Am : Option Addr} {L cm : Nat} {Ai : Option Addr} {ni ci : Nat} (many : Nat) (hL : L ≤ 6) (fl : Nat) (fi ca : Array Value) (pf : Nat → Bool) (w : World)
    (eg : ∀ args w, (callFunc fl args).run Try.prog w = .ok (.enter fl args) w)
    (hp : ∀ W, Below w.heap.size w W → ∀ set : Nat, set < 64 → Calls Try.prog fl (fi.push (.int .u64 set) ++ ca) W fun e w' => e = .returned (.bool (pf set)) ∧ Below W.heap.size W w') :
    Calls Try.prog 66 #[.agg #[.int .i64 t, .slice A n c, .slice Am L cm, .slice Ai ni ci], .int .i64 many, .func (.func fl) fi ca] w fun e w' => LRes [] (pickRest L pf many 0 0) e w' ∧ Below w.heap.size w w' := by
  have hG := listG_any w L many hL fl fi ca pf eg hp many
  have HG := Lib.hid hG
  obtain ⟨r, hr⟩ : ∃ r, r = pickRest L pf many 0 0 := ⟨_, rfl⟩
  rw [← hr]
  have HR := Lib.hid hr
  clear hr
  have hmf : ∀ (fn : Fn) (first cap : Array Value) (w : World), (Instr.makeFunc fn first cap).run Try.prog w = .ok (.func fn first cap) w := fun _ _ _ _ => rfl
  clear hG hp
  go_enter Try.func66, Try.ntmps66
  go_upto_region 4 with (fail)
  obtain ⟨W0, hW⟩ : ∃ W0, W0 = ((((w.alloc (Obj.cells #[Value.int .i64 t, .slice A n c, .slice Am L cm, .slice Ai ni ci] 116)).alloc (Obj.cells #[Value.int .i64 (many : Int)] 3)).alloc (Obj.cells #[Value.func (.func fl) fi ca] 124)).alloc (Obj.cells #[Value.int .i64 (L : Int)] 3)).alloc (Obj.cells #[Value.func (.func 101) #[] #[.pointer (some ⟨w.heap.size + 1, 0, none⟩), .pointer (some ⟨w.heap.size + 1 + 1, 0, none⟩), .pointer (some ⟨w.heap.size + 1 + 1 + 1, 0, none⟩), .pointer (some ⟨w.heap.size + 1 + 1 + 1 + 1, 0, none⟩)]] 159) := ⟨_, rfl⟩
  rw [← hW]
  simp only [Nat.add_assoc, Nat.reduceAdd] at hW ⊢
  have e1 : W0.heap[w.heap.size + 1]? = some (.cells #[.int .i64 many] 3 (0, 0)) := by rw [hW]; exact hblk_alloc (hblk_alloc (hblk_alloc (alloc_at (by simp)) _) _) _
  have e2 : W0.heap[w.heap.size + 2]? = some (.cells #[.func (.func fl) fi ca] 124 (0, 0)) := by rw [hW]; exact hblk_alloc (hblk_alloc (alloc_at (by simp)) _) _
  have e3 : W0.heap[w.heap.size + 3]? = some (.cells #[.int .i64 L] 3 (0, 0)) := by rw [hW]; exact hblk_alloc (alloc_at (by simp)) _
  have e4 : W0.heap[w.heap.size + 4]? = some (.cells #[.func (.func 101) #[] #[.pointer (some ⟨w.heap.size + 1, 0, none⟩), .pointer (some ⟨w.heap.size + 2, 0, none⟩), .pointer (some ⟨w.heap.size + 3, 0, none⟩), .pointer (some ⟨w.heap.size + 4, 0, none⟩)]] 159 (0, 0)) := by rw [hW]; exact alloc_at (by simp)
  have hB : Below w.heap.size w W0 := by rw [hW]; exact bal (bal (bal (bal (bal0 w _) (Nat.le_refl _) _) (Nat.le_refl _) _) (Nat.le_refl _) _) (Nat.le_refl _) _
  have hc : Calls Try.prog 101 #[.slice none 0 0, .int .u64 0, .pointer (some ⟨w.heap.size + 1, 0, none⟩), .pointer (some ⟨w.heap.size + 2, 0, none⟩), .pointer (some ⟨w.heap.size + 3, 0, none⟩), .pointer (some ⟨w.heap.size + 4, 0, none⟩)] W0
      fun e w' => LRes [] (pickRest L pf many 0 0) e w' ∧ Below W0.heap.size W0 w' :=
    HG.out W0 none 0 [] 0 0 hB ⟨e1, e2, e3, e4⟩ Sl.nil_ (Nat.le_refl _) (by unfold maxLen; omega) (fun _ => ⟨rfl, rfl⟩) (by simp) (.inl ⟨rfl, rfl⟩) (by omega) (by decide) (Nat.le_refl _)
  have HCC := Lib.hid (And.intro hc hB)
  have c4 := blk1 e4
  have l4 := heap_lt e4
  rw [← HR.out] at HCC
  clear hW e1 e2 e3 e4 hc hB HG hmf
  go_wp2_with fail
  (with_reducible refine HCC.out.1.mono ?_)
  rintro e w2 ⟨hres, hb2⟩
  have HB := Lib.hid (HCC.out.2.trans (hb2.mono HCC.out.2.size))
  clear hb2
  cases r with
  | none =>
    obtain ⟨v, rfl⟩ := hres
    go_wp2
    go_ret2
    exact ⟨⟨_, rfl⟩, HB.out⟩
  | some q =>
    obtain ⟨A', c', rfl, k⟩ := hres
    have HK := Lib.hid k
    clear k
    go_wp2
    go_ret2
    exact ⟨⟨A', c', rfl, HK.out⟩, HB.out⟩

/-- the bits of the strays that are left: the first list of the fewest with which the others can be given -/
def leftOf (may : List (List Int)) (mis : List Int) : Nat → Nat → Option (List Int)
  | 0, _ => none
  | k + 1, many => match pickRest may.length (fun set => (giveL may mis set (fun _ _ => true)).isSome) many 0 0 with
    | some l => some l
    | none => leftOf may mis k (many + 1)
def leftL (may : List (List Int)) (mis : List Int) : List Int := (leftOf may mis (may.length + 1) 0).getD []

set_option maxRecDepth 100000 in
set_option maxHeartbeats 2000000 in
theorem leftPass_any {t : Int} {A : Option Addr} {n c : Nat} {Am : Option Addr} {k cm : Nat} {Ai : Option Addr} {ni ci : Nat} {may : List (List Int)} {mis : List Int} (B set : Nat) (w : World)
    (hb : w.heap[B]? = some (.cells #[.int .i64 t, .slice A n c, .slice Am k cm, .slice Ai ni ci] 116 (0, 0))) (hk : k = may.length) (hg : Grid w Am may.length may) (hmi : Ints w Ai ni mis) (hL : may.length ≤ 6) (hset : set < 64) (hm : ∀ l ∈ may, l.length ≤ 4294967296 ∧ ∀ o ∈ l, 0 ≤ o ∧ o < 5 ∧ o.toNat < ni) :
    Calls Try.prog 67 #[.int .u64 set, .pointer (some ⟨B, 0, none⟩)] w fun e w' => e = .returned (.bool (giveL may mis set (fun _ _ => true)).isSome) ∧ Below w.heap.size w w' := by
  have hmf : ∀ (fn : Fn) (first cap : Array Value) (w : World), (Instr.makeFunc fn first cap).run Try.prog w = .ok (.func fn first cap) w := fun _ _ _ _ => rfl
  have HG := Lib.hid (And.intro hg (And.intro hmi (And.intro hm hk)))
  obtain ⟨x0, x1, x2, x3⟩ := blk4 hb
  have hl := heap_lt hb
  clear hg hmi hm hk hb
  go_enter Try.func67, Try.ntmps67
  go_wp2_with fail
  refine (homeG_any (may := may) (mis := mis) (left := set) (lf := fun _ _ => true) w HG.out.2.2.2 HG.out.1 HG.out.2.1 hL (by omega) HG.out.2.2.1 (fun _ _ => by kernel_rfl) ?_).mono ?_
  · intro W hW p o _ _ _
    exact any_any _ _ _ _ rfl
  rintro e w2 ⟨hr, hb2⟩
  have HB := Lib.hid hb2
  have hr5 : ∃ v, e = Ending.returned (.tuple #[v, .bool (giveL may mis set (fun _ _ => true)).isSome]) := by
    unfold HomeRes at hr
    cases hg : giveL may mis set (fun _ _ => true) with
    | none => rw [hg] at hr; exact ⟨_, hr⟩
    | some r => rw [hg] at hr; obtain ⟨v, h1, _⟩ := hr; exact ⟨v, h1⟩
  obtain ⟨v, rfl⟩ := hr5
  obtain ⟨S, hS⟩ : ∃ S, S = (giveL may mis set (fun _ _ => true)).isSome := ⟨_, rfl⟩
  rw [← hS]
  have HS := Lib.hid hS
  clear hr hb2 hS
  go_wp2
  go_ret
  exact ⟨ret_bool HS.out, HB.out⟩

theorem leftOf_skip {may : List (List Int)} {mis : List Int} : ∀ (a b c : Nat), (∀ j, c ≤ j → j < c + a → pickRest may.length (fun set => (giveL may mis set (fun _ _ => true)).isSome) j 0 0 = none) → leftOf may mis (a + b) c = leftOf may mis b (c + a)
  | 0, b, c, _ => by rw [Nat.zero_add, Nat.add_zero]
  | a + 1, b, c, h => by
    rw [show a + 1 + b = (a + b) + 1 by omega]
    show (match pickRest may.length (fun set => (giveL may mis set (fun _ _ => true)).isSome) c 0 0 with | some l => some l | none => leftOf may mis (a + b) (c + 1)) = _
    rw [h c (Nat.le_refl _) (by omega)]
    dsimp only
    rw [leftOf_skip a b (c + 1) (fun j h1 h2 => h j (by omega) (by omega)), show c + 1 + a = c + (a + 1) by omega]
def leftR (t : Int) (l : List Mk) (ss : List Sg) (mis : List Int) : List Int := if gatherE t l ss mis = 0 then leftL (mays t l ss) mis else []
/-- a list of integers that is handed back, read -/
def IntsRes (x : List Int) (code : Int) (e : Ending) (w' : World) : Prop := ∃ A c, e = .returned (.tuple #[.slice A x.length c, .int .i64 code]) ∧ Ints w' A x.length x ∧ x.length ≤ c ∧ c ≤ maxLen

set_option maxRecDepth 100000 in
set_option maxHeartbeats 4000000 in
theorem Left_any (t : Int) (A : Option Addr) (n c : Nat) (l : List Mk) (B : Option Addr) (m cb : Nat) (ss : List Sg) (Ai : Option Addr) (ni ci : Nat) (mis : List Int) (w : World)
    (hl : Marks w A n l) (hlc : n ≤ c) (hcm : c ≤ maxLen) (hss : Sights w B m ss) (hmm : m ≤ maxLen) (hmi : Ints w Ai ni mis) (hni : ni ≤ maxLen) :
    Calls Try.prog 19 #[.agg #[.int .i64 t, .slice A n c], .slice B m cb, .slice Ai ni ci] w fun e w' => IntsRes (leftR t l ss mis) (gatherE t l ss mis) e w' ∧ Below w.heap.size w w' := by
  have HL := Lib.hid hl
  have HSS := Lib.hid hss
  have HMI := Lib.hid hmi
  have hml := hmi.len
  have HN := Lib.hid (And.intro hml hss.len)
  have hmf : ∀ (fn : Fn) (first cap : Array Value) (w : World), (Instr.makeFunc fn first cap).run Try.prog w = .ok (.func fn first cap) w := fun _ _ _ _ => rfl
  obtain ⟨LR, hLR⟩ : ∃ x, x = leftR t l ss mis := ⟨_, rfl⟩
  rw [← hLR]
  have HLR := Lib.hid hLR
  clear hl hss hmi hml hLR
  go_enter Try.func19, Try.ntmps19
  go_wp2_with fail
  have hbw : Below w.heap.size w (w.alloc (Obj.cells #[Value.int .i64 t, .slice A n c] 25)) := bal0 w _
  refine (gather_any t A n c l B m cb ss Ai ni ci mis _ (HL.out.below hbw (Nat.le_refl _)) hlc hcm (HSS.out.below hbw (Nat.le_refl _)) hmm (HMI.out.below hbw (Nat.le_refl _)) hni).mono ?_
  rintro e w1 ⟨hr, hb1⟩
  have hB1 : Below w.heap.size w w1 := hbw.trans (hb1.mono (by simp))
  have hz1 := hb1.size
  simp at hz1
  by_cases hge : gatherE t l ss mis = 0
  · have hg : ∃ v, e = Ending.returned (.tuple #[.agg #[.int .i64 t, .slice A n c, v, .slice Ai ni ci], .int .i64 0]) ∧ OwnG w1 (w.heap.size + 1) v (mays t l ss) := by
      unfold GatherRes at hr
      rw [if_pos hge] at hr
      simpa using hr
    clear hr
    obtain ⟨v, rfl, hog⟩ := hg
    obtain ⟨Am, cm, rfl, hgr, hcm2, hmx⟩ := hog.form
    have hk6 : (mays t l ss).length ≤ 6 := by unfold mays; rw [List.length_map]; exact (mays_ok hge).2.1
    have hkm : (mays t l ss).length = m := by unfold mays; rw [List.length_map]; exact HN.out.2
    obtain ⟨may, hmay⟩ : ∃ may, may = mays t l ss := ⟨_, rfl⟩
    rw [← hmay] at hgr hk6 hkm ⊢
    have HG := Lib.hid (And.intro hge (And.intro hgr (And.intro hB1 (HLR.out.trans (show leftR t l ss mis = leftL may mis by unfold leftR; rw [if_pos hge, hmay])))))
    have HK := Lib.hid (show ∀ r ∈ may, r.length ≤ 4294967296 ∧ ∀ o ∈ r, 0 ≤ o ∧ o < 5 ∧ o.toNat < ni by rw [hmay]; exact mays_in hge HN.out.1)
    clear hog hgr hcm2 hmx hB1 hbw hb1 hmay
    have HKM := Lib.hid hkm
    have hm6 : m ≤ 6 := by omega
    rw [hkm]
    clear hkm hge
    go_upto_region 4 with (fail)
    obtain ⟨W1, hW⟩ : ∃ W1, W1 = w1.alloc (Obj.cells #[Value.int .i64 t, .slice A n c, .slice Am m cm, .slice Ai ni ci] 116) := ⟨_, rfl⟩
    rw [← hW]
    have b8 : W1.heap[w1.heap.size]? = some (Obj.cells #[Value.int .i64 t, .slice A n c, .slice Am m cm, .slice Ai ni ci] 116 (0, 0)) := by rw [hW]; exact alloc_at rfl
    have hbW1 : Below w1.heap.size w1 W1 := by rw [hW]; exact bal0 w1 _
    have hgW : Grid W1 Am may.length may := by rw [HKM.out]; exact (HKM.out ▸ HG.out.2.1).below hbW1 (Nat.le_refl _)
    have hmW : Ints W1 Ai ni mis := HMI.out.below (HG.out.2.2.1.trans (hbW1.mono (by omega))) (Nat.le_refl _)
    have hBW : Below w.heap.size w W1 := HG.out.2.2.1.trans (hbW1.mono (by omega))
    have HW1 := Lib.hid (And.intro b8 (And.intro hgW (And.intro hmW hBW)))
    have hl8 := heap_lt b8
    have HPASS := Lib.hid (fun (W : World) (hW : Below W1.heap.size W1 W) (set : Nat) (hset : set < 64) =>
      leftPass_any (t := t) (A := A) (n := n) (c := c) (Am := Am) (k := m) (cm := cm) (Ai := Ai) (ni := ni) (ci := ci) (may := may) (mis := mis) w1.heap.size set W (bheap b8 hW (Nat.le_refl _)) HKM.out.symm (hgW.below hW (Nat.le_refl _)) (hmW.below hW (Nat.le_refl _)) hk6 hset HK.out)
    obtain ⟨pf, hpf⟩ : ∃ pf : Nat → Bool, pf = fun set => (giveL may mis set (fun _ _ => true)).isSome := ⟨_, rfl⟩
    have HPF := Lib.hid hpf
    clear hW hbW1 hgW hmW hBW b8 hpf
    go_wp2_with fail
    go_loopg [26] (m + 1) (fun g x wr => ∃ k : Nat, k + g = m + 1 ∧ x = .int .i64 k ∧ (∀ j, j < k → pickRest m pf j 0 0 = none) ∧ Below W1.heap.size W1 wr)
    case atStart => exact ⟨0, by omega, rfl, fun j hj => by omega, Below.refl _ _⟩
    case round =>
      obtain ⟨k, hk, rfl, hno, hbr⟩ := hrel
      have HI := Lib.hid (And.intro hk (And.intro hno hbr))
      have hkm : k ≤ m + 1 := by omega
      clear hk hno
      by_cases hlt : k ≤ m
      · obtain ⟨x0, x1, x2, x3⟩ := blk4 (bheap HW1.out.1 hbr (Nat.le_refl _))
        have hlr := heap_lt (bheap HW1.out.1 hbr (Nat.le_refl _))
        have C := list_any (t := t) (A := A) (n := n) (c := c) (Am := Am) (L := m) (cm := cm) (Ai := Ai) (ni := ni) (ci := ci) k hm6 67 #[] #[.pointer (some ⟨w1.heap.size, 0, none⟩)] pf wr (fun _ _ => by kernel_rfl) (fun W hW set hset => by
          rw [HPF.out]
          exact HPASS.out W (hbr.trans (hW.mono hbr.size)) set hset)
        obtain ⟨r, hr⟩ : ∃ r, r = pickRest m pf k 0 0 := ⟨_, rfl⟩
        rw [← hr] at C
        have HC := Lib.hid C
        have HR := Lib.hid hr.symm
        have k0 : (k : Int) < (m : Int) + 1 := by omega
        clear C hr hbr
        go_wp2_with fail
        (with_reducible refine HC.out.mono ?_)
        rintro e w3 ⟨hres, hb3⟩
        have HB := Lib.hid (HI.out.2.2.trans (hb3.mono HI.out.2.2.size))
        clear hb3 x0 x1 x2 x3
        cases r with
        | none =>
          obtain ⟨v, rfl⟩ := hres
          go_wp2
          go_roundg (gk - 1)
          case measure => have := HI.out.1; omega
          case rel =>
            refine ⟨k + 1, by have := HI.out.1; omega, by go_num, fun j hj => ?_, HB.out⟩
            by_cases hjk : j = k
            · subst hjk; exact HR.out
            · exact HI.out.2.1 j (by omega)
        | some q =>
          obtain ⟨A', c', rfl, hq1, hq2, hq3, hq4⟩ := hres
          have HQ := Lib.hid (And.intro hq1 (And.intro hq2 hq3))
          clear hq1 hq2 hq3 hq4
          go_wp2
          go_ret2
          refine ⟨?_, HW1.out.2.2.2.trans (HB.out.mono HW1.out.2.2.2.size)⟩
          have hLq : LR = q := by
            rw [HG.out.2.2.2]
            unfold leftL
            rw [HKM.out, show m + 1 = k + ((m - k) + 1) by omega, leftOf_skip k ((m - k) + 1) 0 (fun j _ hj => by rw [HKM.out, ← HPF.out]; exact HI.out.2.1 j (by omega))]
            show (match pickRest may.length (fun set => (giveL may mis set (fun _ _ => true)).isSome) (0 + k) 0 0 with | some l => some l | none => leftOf may mis (m - k) (0 + k + 1)).getD [] = q
            rw [HKM.out, ← HPF.out, Nat.zero_add, HR.out]
            rfl
          rw [hLq, HG.out.1]
          exact ⟨A', c', rfl, HQ.out⟩
      · obtain rfl : k = m + 1 := by omega
        have k0 : ¬ ((m : Int) + 1 < (m : Int) + 1) := by omega
        have hcast : ((m + 1 : Nat) : Int) = (m : Int) + 1 := by omega
        rw [hcast]
        have HB := Lib.hid hbr
        clear hbr hcast
        go_wp2
        go_ret2
        refine ⟨?_, HW1.out.2.2.2.trans (HB.out.mono HW1.out.2.2.2.size)⟩
        have hLq : LR = [] := by
          rw [HG.out.2.2.2]
          unfold leftL
          rw [HKM.out, leftOf_skip (m + 1) 0 0 (fun j _ hj => by rw [HKM.out, ← HPF.out]; exact HI.out.2.1 j (by omega))]
          rfl
        rw [hLq, HG.out.1]
        exact ⟨none, 0, rfl, Sl.nil_, Nat.le_refl _, by unfold maxLen; omega⟩
  · have hg : e = Ending.returned (.tuple #[.agg #[.int .i64 0, .slice none 0 0, .slice none 0 0, .slice none 0 0], .int .i64 (gatherE t l ss mis)]) := by
      unfold GatherRes at hr
      rwa [if_neg hge] at hr
    subst hg
    have h0 : (gatherE t l ss mis != 0) = true := by simp [hge]
    have HE := Lib.hid (show LR = [] by rw [HLR.out]; unfold leftR; rw [if_neg hge])
    clear hr hge
    go_wp2
    go_ret2
    refine ⟨?_, bal hB1 (Nat.le_refl _) _⟩
    rw [HE.out]
    exact ⟨none, 0, rfl, Sl.nil_, Nat.le_refl _, by unfold maxLen; omega⟩
end Go.Proofs.Ytmennjmjakdkcaa
namespace Go.Proofs.Ytmennjmjakdkcaa
set_option linter.unusedVariables false
set_option linter.unusedSimpArgs false

def aheadB : List Int → List Int → Bool
  | [], b => !b.isEmpty
  | _ :: _, [] => false
  | a :: x, b :: y => if a = b then aheadB x y else decide (a < b)
theorem aheadB_self : ∀ x : List Int, aheadB x x = false
  | [] => rfl
  | a :: x => by unfold aheadB; rw [if_pos rfl]; exact aheadB_self x
/-- a list comes before another one: it is shorter, or ahead -/
def beforeB (x y : List Int) : Bool := decide (x.length < y.length) || (decide (x.length = y.length) && aheadB x y)
end Go.Proofs.Ytmennjmjakdkcaa

namespace Go.Proofs.Ytmennjmjakdkcaa
set_option linter.unusedVariables false
set_option linter.unusedSimpArgs false

section
variable {t : Int} {l : List Mk} {ss : List Sg} {mis : List Int} (hn5 : l.length ≤ 5) (hmis : ∀ x ∈ mis, 0 ≤ x)
theorem words_mem {N : Nat} : ∀ {m : Nat} {x : List Int}, x.length = m → (∀ y ∈ x, 0 ≤ y ∧ y < N) → x ∈ wordsL N m
  | 0, x, h, _ => by rw [List.eq_nil_of_length_eq_zero h]; simp [wordsL]
  | m + 1, [], h, _ => by simp at h
  | m + 1, y :: x, h, hv => by
    obtain ⟨h0, h1⟩ := hv y (by simp)
    obtain ⟨n, rfl⟩ := Int.eq_ofNat_of_zero_le h0
    unfold wordsL
    rw [List.mem_flatMap]
    exact ⟨n, List.mem_range.2 (by omega), List.mem_map.2 ⟨x, words_mem (by simpa using h) (fun z hz => hv z (by simp [hz])), rfl⟩⟩
theorem ahead_trans : ∀ {x y z : List Int}, aheadB x y = true → aheadB y z = true → aheadB x z = true
  | [], [], z, h, _ => by simp [aheadB] at h
  | [], _ :: _, [], _, h => by simp [aheadB] at h
  | [], _ :: _, _ :: _, _, _ => rfl
  | _ :: _, [], _, h, _ => by simp [aheadB] at h
  | _ :: _, _ :: _, [], _, h => by simp [aheadB] at h
  | a :: x, b :: y, c :: z, h1, h2 => by
    unfold aheadB at h1 h2 ⊢
    by_cases hab : a = b
    · subst hab
      rw [if_pos rfl] at h1
      by_cases hac : a = c
      · rw [if_pos hac] at h2 ⊢; exact ahead_trans h1 h2
      · rw [if_neg hac] at h2 ⊢; exact h2
    · rw [if_neg hab] at h1
      by_cases hbc : b = c
      · subst hbc; rw [if_neg hab]; exact h1
      · rw [if_neg hbc] at h2
        simp at h1 h2
        rw [if_neg (by omega)]
        exact decide_eq_true (by omega)
theorem before_trans {x y z : List Int} (h1 : beforeB x y = true) (h2 : beforeB y z = true) : beforeB x z = true := by
  unfold beforeB at h1 h2 ⊢
  simp only [Bool.or_eq_true, Bool.and_eq_true, decide_eq_true_eq] at h1 h2 ⊢
  rcases h1 with h1 | ⟨h1, h1'⟩ <;> rcases h2 with h2 | ⟨h2, h2'⟩
  · left; omega
  · left; omega
  · left; omega
  · right; exact ⟨by omega, ahead_trans h1' h2'⟩
theorem before_self (x : List Int) : beforeB x x = false := by
  unfold beforeB; rw [aheadB_self]; simp
/-- the best one so far: none, or one that no other comes before -/
def Scan (p : List Int → Bool) (f : List Int → List Int) (all : List (List Int)) (i : Nat) (some_ : Bool) (best : List Int) : Prop :=
  (some_ = false ∧ ∀ (j : Nat) x, j < i → all[j]? = some x → p x = false) ∨
  (some_ = true ∧ (∃ x, x ∈ all ∧ p x = true ∧ f x = best) ∧ ∀ (j : Nat) x, j < i → all[j]? = some x → p x = true → beforeB (f x) best = false)
theorem Scan.zero {p : List Int → Bool} {f : List Int → List Int} {all : List (List Int)} {b : List Int} : Scan p f all 0 false b := .inl ⟨rfl, fun j x h => by omega⟩
theorem Scan.keep {p : List Int → Bool} {f : List Int → List Int} {all : List (List Int)} {i : Nat} {s : Bool} {b x : List Int} (h : Scan p f all i s b) (hx : all[i]? = some x) (hp : p x = false ∨ (s = true ∧ beforeB (f x) b = false)) : Scan p f all (i + 1) s b := by
  rcases h with ⟨h1, h2⟩ | ⟨h1, h2, h3⟩
  · refine .inl ⟨h1, fun j y hj hy => ?_⟩
    by_cases hji : j = i
    · subst hji
      rw [hx] at hy; cases hy
      rcases hp with hp | ⟨hp, _⟩
      · exact hp
      · rw [h1] at hp; cases hp
    · exact h2 j y (by omega) hy
  · refine .inr ⟨h1, h2, fun j y hj hy hpy => ?_⟩
    by_cases hji : j = i
    · subst hji
      rw [hx] at hy; cases hy
      rcases hp with hp | ⟨_, hp⟩
      · rw [hp] at hpy; cases hpy
      · exact hp
    · exact h3 j y (by omega) hy hpy
theorem Scan.take {p : List Int → Bool} {f : List Int → List Int} {all : List (List Int)} {i : Nat} {s : Bool} {b x : List Int} (h : Scan p f all i s b) (hx : all[i]? = some x) (hp : p x = true) (hb : s = false ∨ beforeB (f x) b = true) : Scan p f all (i + 1) true (f x) := by
  refine .inr ⟨rfl, ⟨x, List.mem_of_getElem? hx, hp, rfl⟩, fun j y hj hy hpy => ?_⟩
  by_cases hji : j = i
  · subst hji
    rw [hx] at hy; cases hy
    exact before_self _
  · rcases h with ⟨h1, h2⟩ | ⟨h1, h2, h3⟩
    · have := h2 j y (by omega) hy
      rw [this] at hpy; cases hpy
    · rcases hb with hb | hb
      · rw [h1] at hb; cases hb
      · have h4 := h3 j y (by omega) hy hpy
        cases h5 : beforeB (f y) (f x)
        · rfl
        · rw [before_trans h5 hb] at h4; cases h4
end
end Go.Proofs.Ytmennjmjakdkcaa
namespace Go.Proofs.Ytmennjmjakdkcaa
open Go.RowKit
set_option linter.unusedVariables false
set_option linter.unusedSimpArgs false

/-- a block of integers, known whole -/
def MisB (w : World) (G : Nat) (mis : List Int) : Prop := w.heap[G]? = some (.cells (mis.map (Value.int .i64)).toArray 3 (0, 0))
theorem flat_map_int (x : List Int) : x.flatMap eInt = x.map (Value.int .i64) := by
  induction x with
  | nil => rfl
  | cons a r ih => rw [List.flatMap_cons, ih]; rfl
theorem MisB.ints {w : World} {G : Nat} {mis : List Int} (h : MisB w G mis) : Ints w (some ⟨G, 0, none⟩) mis.length mis :=
  Sl.of_blk h (flat_map_int mis).symm lenInt
theorem MisB.keep {w w' : World} {G : Nat} {mis : List Int} (h : MisB w G mis) (e : w'.heap[G]? = w.heap[G]?) : MisB w' G mis := e.trans h
theorem MisB.set {w : World} {G o : Nat} {mis : List Int} (h : MisB w G mis) (x : Int) : MisB (w.setCell ⟨G, o, none⟩ (.int .i64 x)) G (mis.set o x) := by
  unfold MisB
  rw [set_blk h, List.setIfInBounds_toArray, List.map_set]
theorem MisB.cell {w : World} {G : Nat} {mis : List Int} (h : MisB w G mis) {o : Nat} (ho : o < mis.length) : w.cell? ⟨G, o, none⟩ = some (.int .i64 (mis.getD o 0)) := by
  unfold World.cell?
  rw [show w.heap[G]? = _ from h]
  simp [ho]
theorem MisB.free {w : World} {G : Nat} {mis : List Int} (h : MisB w G mis) (i : Nat) : w.frozen? ⟨G, i, none⟩ = false := frz h i
theorem Own.nb {α : Type} {enc : α → List Value} {e : TypeId} {sz : Nat} {w : World} {base b : Nat} {v : Value} {l : List α} (h : Own enc e sz w base v l) (hb : b < base) : v.ownBlock ≠ some b := fun k => by
  have := (h.lt _ k).1; omega
theorem gcell {w w' : World} {v u : Value} {b o base : Nat} (hg : w.grownBy w' v.ownBlock) (hc : w.cell? ⟨b, o, none⟩ = some u) (hv : ∀ k, v.ownBlock = some k → base ≤ k) (hb : b < base) : w'.cell? ⟨b, o, none⟩ = some u :=
  hg.cell hc (fun e => by
    have e' : v.ownBlock = some b := e.symm
    have := hv b e'; omega)
theorem Sl.gbv {α : Type} {enc : α → List Value} {sz : Nat} {w w' : World} {A : Option Addr} {n base : Nat} {l : List α} {v : Value} (h : Sl enc sz w A n l) (hg : w.grownBy w' v.ownBlock) (hv : ∀ k, v.ownBlock = some k → base ≤ k) (hA : ∀ b off, A = some ⟨b, off, none⟩ → b < base) : Sl enc sz w' A n l :=
  ⟨h.1, fun hn => by
    obtain ⟨b, off, e, hc⟩ := h.2 hn
    exact ⟨b, off, e, fun i x hx j u hu => gcell hg (hc i x hx j u hu) hv (hA b off e)⟩⟩
theorem gblkF {w w' : World} {v : Value} {b base : Nat} {o : Obj} (hg : w.grownBy w' v.ownBlock) (hc : w.heap[b]? = some o) (hv : ∀ k, v.ownBlock = some k → base ≤ k) (hb : b < base) : w'.heap[b]? = some o :=
  (hg.block b (heap_lt hc) (fun e => by
    have e' : v.ownBlock = some b := e.symm
    have := hv b e'; omega)).trans hc
theorem Sl.far {α : Type} {enc : α → List Value} {sz : Nat} {w : World} {A : Option Addr} {n g i : Nat} {l : List α} {v : Value} (h : Sl enc sz w A n l) (hA : ∀ b off, A = some ⟨b, off, none⟩ → b ≠ g) : Sl enc sz (w.setCell ⟨g, i, none⟩ v) A n l :=
  ⟨h.1, fun hn => by
    obtain ⟨b, off, e, hc⟩ := h.2 hn
    refine ⟨b, off, e, fun i x hx j u hu => ?_⟩
    have h1 := hc i x hx j u hu
    unfold World.cell? at h1 ⊢
    rw [Below.heap_setCell _ ⟨g, _, none⟩ _ _ (by have := hA b off e; exact this)]
    exact h1⟩
/-- strays and their owners -/
def FitL (t : Int) (l : List Mk) (ss : List Sg) (os : List Int) : Prop := ∀ (k : Nat) s o, ss[k]? = some s → os[k]? = some o → seen s 9 6 = 0 ∧ ∃ (on : Nat) (m : Mk), o = (on : Int) ∧ l[on]? = some m ∧ fits s m t = true
theorem FitL.snoc {t : Int} {l : List Mk} {ss : List Sg} {os : List Int} {s : Sg} {on : Nat} {m : Mk} (h : FitL t l ss os) (hl : ss.length = os.length) (hs : seen s 9 6 = 0) (hm : l[on]? = some m) (hf : fits s m t = true) : FitL t l (ss ++ [s]) (os ++ [(on : Int)]) := by
  intro k s' o' hs' ho'
  rcases Nat.lt_or_ge k ss.length with hk | hk
  · rw [List.getElem?_append_left hk] at hs'
    rw [List.getElem?_append_left (by omega)] at ho'
    exact h k s' o' hs' ho'
  · rw [List.getElem?_append_right hk] at hs'
    rw [List.getElem?_append_right (by omega)] at ho'
    have h0 : k - ss.length = 0 := by
      cases hd : k - ss.length with
      | zero => rfl
      | succ j => rw [hd] at hs'; simp at hs'
    rw [h0] at hs'
    rw [show k - os.length = 0 by omega] at ho'
    simp at hs' ho'
    subst hs'; subst ho'
    exact ⟨hs, on, m, rfl, hm, hf⟩
/-- what has been dealt so far -/
def FI (H RB G base n0 : Nat) (w1 : World) (tn : Nat) (A1 : Option Addr) (c1 : Nat) (l : List Mk) (g : Nat) (v6 v7 : Value) (wr : World) : Prop :=
  ∃ ss os mis, OwnS wr base v6 ss ∧ OwnI wr base v7 os ∧ MisB wr G mis ∧ wr.heap[RB]? = some (Obj.cells #[Value.int .i64 (tn : Int), .slice A1 l.length c1] 25 (0, 0)) ∧ Marks wr A1 l.length l ∧ Dealt w1 wr H (1000 * (n0 - g) + 200) ∧
    ss.length = os.length ∧ ss.length + g ≤ n0 ∧ mis.length = l.length ∧ (∀ o : Nat, o < l.length → mis.getD o 0 = (cntI os (o : Int) : Int)) ∧ base ≤ wr.heap.size ∧ FitL tn l ss os

theorem found_law {t : Int} {l : List Mk} {ss : List Sg} {os mis : List Int} (hn5 : l.length ≤ 5) (hsl : ss.length = os.length) (hft : FitL t l ss os) (hcn : ∀ o : Nat, o < l.length → (cntI os (o : Int) : Int) ≤ mis.getD o 0) (hm0 : ∀ x ∈ mis, 0 ≤ x) (hge : gatherE t l ss mis = 0) :
    homeE t l ss mis = 0 ∧ (homeL t l ss mis).length = ss.length ∧ leftR t l ss mis = [] ∧ (ownersR t l ss mis).length = ss.length ∧
      ∀ k, k < ss.length → ∃ row, (ownersR t l ss mis)[k]? = some row ∧ (∀ o, os[k]? = some o → o ∈ row) ∧ ∀ o, (homeL t l ss mis)[k]? = some o → o ∈ row := by
  have hmay : (mays t l ss).length = ss.length := by unfold mays; simp
  have hval : ∀ y ∈ os, 0 ≤ y ∧ y < l.length := fun y hy => by
    obtain ⟨k, hk⟩ := List.getElem?_of_mem hy
    have hkl := (List.getElem?_eq_some_iff.1 hk).1
    obtain ⟨_, on, m, rfl, hm, _⟩ := hft k _ y (List.getElem?_eq_getElem (show k < ss.length by omega)) hk
    have := (List.getElem?_eq_some_iff.1 hm).1
    omega
  have hg : givesB t l ss mis os = true := by
    unfold givesB
    rw [Bool.and_eq_true, List.all_eq_true, List.all_eq_true]
    refine ⟨fun o ho => decide_eq_true (hcn o (List.mem_range.1 ho)), fun i hi => ?_⟩
    have hil := List.mem_range.1 hi
    have hs := List.getElem?_eq_getElem (show i < ss.length by omega)
    have ho := List.getElem?_eq_getElem hil
    obtain ⟨_, on, m, he, hm, hf⟩ := hft i _ _ hs ho
    unfold fitAt mkAt
    rw [List.getD_eq_getElem?_getD, ho, List.getD_eq_getElem?_getD, hs]
    simp only [Option.getD_some, he, Int.toNat_natCast, hm, hf, Bool.or_true]
  have hos : os ∈ allW l ss := words_mem hsl.symm hval
  have hall := give_all (t := t) (l := l) (ss := ss) (mis := mis) hn5 hm0
  have hsome : ((allW l ss).find? (givesB t l ss mis)).isSome = true := by
    rw [List.find?_isSome]; exact ⟨os, hos, hg⟩
  obtain ⟨x, hx⟩ := Option.isSome_iff_exists.1 hsome
  have hxg := List.find?_some hx
  have hxm := List.mem_of_find?_eq_some hx
  have hxl := (wordsL_mem hxm).1
  rw [hx] at hall
  have hE : homeE t l ss mis = 0 := by
    unfold homeE
    rw [if_neg (by rw [hge]; simp), hall]
    simp
  have hL : homeL t l ss mis = x := by
    unfold homeL
    rw [if_neg (by rw [hge]; simp), hall]
    rfl
  have hO : ownersR t l ss mis = ownersG (mays t l ss) mis := by unfold ownersR; rw [if_pos hE]
  refine ⟨hE, by rw [hL]; exact hxl, ?_, by rw [hO]; unfold ownersG; simp [hmay], fun k hk => ?_⟩
  · unfold leftR
    rw [if_pos hge]
    unfold leftL
    show (match pickRest (mays t l ss).length (fun set => (giveL (mays t l ss) mis set (fun _ _ => true)).isSome) 0 0 0 with | some l => some l | none => leftOf (mays t l ss) mis (mays t l ss).length (0 + 1)).getD [] = []
    unfold pickRest
    rw [hall]
    rfl
  · have hrow := owns_all (t := t) (l := l) (ss := ss) (mis := mis) hn5 hm0 hk
    refine ⟨ownsRow (mays t l ss) mis k, ?_, fun o ho => ?_, fun o ho => ?_⟩
    · rw [hO]
      unfold ownersG
      rw [List.getElem?_map, List.getElem?_range (by rw [hmay]; exact hk)]
      rfl
    · have hov := hval o (List.mem_of_getElem? ho)
      obtain ⟨on, rfl⟩ := Int.eq_ofNat_of_zero_le hov.1
      rw [hrow, List.mem_map]
      refine ⟨on, List.mem_filter.2 ⟨List.mem_range.2 (by omega), ?_⟩, rfl⟩
      unfold hasB
      rw [List.take_of_length_le (Nat.le_refl _), List.any_eq_true]
      refine ⟨os, hos, ?_⟩
      rw [hg, Bool.true_and, List.getD_eq_getElem?_getD, ho]
      simp
    · rw [hL] at ho
      have hov := (wordsL_mem hxm).2 o (List.mem_of_getElem? ho)
      obtain ⟨on, rfl⟩ := Int.eq_ofNat_of_zero_le hov.1
      rw [hrow, List.mem_map]
      refine ⟨on, List.mem_filter.2 ⟨List.mem_range.2 (by omega), ?_⟩, rfl⟩
      unfold hasB
      rw [List.take_of_length_le (Nat.le_refl _), List.any_eq_true]
      refine ⟨x, hxm, ?_⟩
      rw [hxg, Bool.true_and, List.getD_eq_getElem?_getD, ho]
      simp
/-- what owners miss, the first o of them perhaps one more -/
def FJ (H RB G base : Nat) (w1 : World) (tn : Nat) (A1 : Option Addr) (c1 : Nat) (l : List Mk) (ss : List Sg) (os : List Int) (v6 v7 : Value) (o : Nat) (wr : World) : Prop :=
  ∃ mis, OwnS wr base v6 ss ∧ OwnI wr base v7 os ∧ MisB wr G mis ∧ wr.heap[RB]? = some (Obj.cells #[Value.int .i64 (tn : Int), .slice A1 l.length c1] 25 (0, 0)) ∧ Marks wr A1 l.length l ∧ Dealt w1 wr H (10000 + o) ∧
    mis.length = l.length ∧ (∀ o' : Nat, o' < l.length → (cntI os (o' : Int) : Int) ≤ mis.getD o' 0 ∧ mis.getD o' 0 ≤ cntI os (o' : Int) + if o' < o then 1 else 0) ∧ base ≤ wr.heap.size
theorem FJ.next {H RB G base : Nat} {w1 : World} {tn : Nat} {A1 : Option Addr} {c1 : Nat} {l : List Mk} {N o : Nat} {v6 v7 : Value} {w7 w8 : World} {ss : List Sg} {os mis : List Int} {z x : Int}
    (h1 : OwnS w7 base v6 ss) (h2 : OwnI w7 base v7 os) (h3 : MisB w7 G mis) (h4 : w7.heap[RB]? = some (Obj.cells #[Value.int .i64 (tn : Int), .slice A1 l.length c1] 25 (0, 0))) (h5 : Marks w7 A1 l.length l) (h6 : Dealt w1 w7 H N) (h7 : mis.length = l.length)
    (h8 : ∀ o' : Nat, o' < l.length → (cntI os (o' : Int) : Int) ≤ mis.getD o' 0 ∧ mis.getD o' 0 ≤ cntI os (o' : Int) + if o' < o then 1 else 0) (h9 : base ≤ w7.heap.size)
    (hd : Dealt w7 w8 H (10000 + (o + 1))) (hz : z = mis.getD o 0) (hx : x = 0 ∨ x = 1) (ho : o < l.length) (hH : H < RB) (hRG : RB < G) (hG : G < base) (hA : ∀ b off, A1 = some ⟨b, off, none⟩ → b < RB ∧ b ≠ H) (hw1 : w1.heap.size ≤ RB) :
    FJ H RB G base w1 tn A1 c1 l ss os v6 v7 (o + 1) (w8.setCell ⟨G, o, none⟩ (.int .i64 (z + x))) := by
  have hfar : ∀ j, j ≠ G → (w8.setCell ⟨G, o, none⟩ (.int .i64 (z + x))).heap[j]? = w8.heap[j]? := fun j hj => Below.heap_setCell w8 ⟨G, o, none⟩ _ j hj
  have hup : ∀ j, base ≤ j → (w8.setCell ⟨G, o, none⟩ (.int .i64 (z + x))).heap[j]? = w8.heap[j]? := fun j hj => hfar j (by omega)
  have hs8 := hd.size
  have hm8 : MisB w8 G mis := hd.blk h3 (by omega)
  refine ⟨mis.set o (z + x), (h1.kept hd.gr (.inr (Own.nb h1 (by omega)))).upon hup, (h2.kept hd.gr (.inr (Own.nb h2 (by omega)))).upon hup, hm8.set _, (hfar _ (by omega)).trans (hd.blk h4 (by omega)), (h5.dealt hd (fun b off e => (hA b off e).2)).far (fun b off e => by have := hA b off e; omega), (h6.trans hd).set (by dsimp; omega) (by dsimp; omega) _, by simpa using h7, fun o' ho' => ?_, by simp [World.setCell]; omega⟩
  have h := h8 o' ho'
  by_cases hoo : o' = o
  · subst hoo
    rw [List.getD_eq_getElem?_getD, List.getElem?_set_self (by omega)]
    show _ ≤ z + x ∧ z + x ≤ _
    rw [if_neg (by omega)] at h
    rw [if_pos (by omega), hz]
    omega
  · rw [List.getD_eq_getElem?_getD, List.getElem?_set_ne (fun e => hoo e.symm), ← List.getD_eq_getElem?_getD]
    by_cases hlt : o' < o
    · rw [if_pos hlt] at h; rw [if_pos (by omega)]; exact h
    · rw [if_neg hlt] at h; rw [if_neg (by omega)]; exact h
theorem FI.next {H RB G base n0 : Nat} {w1 : World} {tn : Nat} {A1 : Option Addr} {c1 : Nat} {l : List Mk} {g N o : Nat} {v6 v7 v8 : Value} {w7 w8 : World} {ss : List Sg} {os mis : List Int} {S : Sg} {mk : Mk} {y : Int} {ob : Obj}
    (hown7 : OwnS w7 base v6 (ss ++ [S])) (hbr7 : w7.heap[RB]? = some (Obj.cells #[Value.int .i64 (tn : Int), .slice A1 l.length c1] 25 (0, 0))) (hoo7 : OwnI w7 base v7 os) (hmr7 : Marks w7 A1 l.length l) (hD7 : Dealt w1 w7 H N) (hN : N ≤ 1000 * (n0 - (g - 1)) + 200)
    (hown8 : OwnI w8 base v8 (os ++ [(o : Int)])) (hgr8 : (w7.drew.alloc ob).grownBy w8 v7.ownBlock) (hm8 : MisB w8 G mis) (hH : H < RB) (hRG : RB < G) (hG : G < base) (hw1 : w1.heap.size ≤ RB) (hb7 : base ≤ w7.heap.size) (hA : ∀ b off, A1 = some ⟨b, off, none⟩ → b < RB)
    (hsl : ss.length = os.length) (hsg : ss.length + g ≤ n0) (hg : 0 < g) (hml : mis.length = l.length) (hcn : ∀ o : Nat, o < l.length → mis.getD o 0 = (cntI os (o : Int) : Int)) (hft : FitL tn l ss os) (hmk : l[o]? = some mk) (hfit : fits S mk tn = true) (hsee : seen S 9 6 = 0) (hy : y = mis.getD o 0) :
    FI H RB G base n0 w1 tn A1 c1 l (g - 1) v6 v8 (w8.setCell ⟨G, o, none⟩ (.int .i64 (y + 1))) := by
  have hol : o < l.length := (List.getElem?_eq_some_iff.1 hmk).1
  have hv7 : ∀ k, v7.ownBlock = some k → base ≤ k := fun k hk => (hoo7.lt k hk).1
  have hfar : ∀ j, j ≠ G → (w8.setCell ⟨G, o, none⟩ (.int .i64 (y + 1))).heap[j]? = w8.heap[j]? := fun j hj => Below.heap_setCell w8 ⟨G, o, none⟩ _ j hj
  have hup : ∀ j, base ≤ j → (w8.setCell ⟨G, o, none⟩ (.int .i64 (y + 1))).heap[j]? = w8.heap[j]? := fun j hj => hfar j (by omega)
  have hdr : Below w7.heap.size w7 (w7.drew.alloc ob) := (below_drewN (Below.refl _ _) 1).trans (bal0 w7.drew ob)
  have hs7 := hdr.size
  have hs8 := hgr8.size
  refine ⟨ss ++ [S], os ++ [(o : Int)], mis.set o (y + 1), ?_, hown8.upon hup, hm8.set _, ?_, ?_, ?_, by simp [hsl], by simp; omega, by simpa using hml, fun o' ho' => ?_, ?_, hft.snoc hsl hsee hmk hfit⟩
  · exact ((hown7.below hdr (Nat.le_refl _)).kept hgr8 (own_ne hown7 hoo7 (by decide))).upon hup
  · exact (hfar _ (by omega)).trans (gblkF hgr8 (bheap hbr7 hdr (Nat.le_refl _)) hv7 (by omega))
  · exact ((hmr7.below hdr (Nat.le_refl _)).gbv hgr8 hv7 (fun b off e => by have := hA b off e; omega)).far (fun b off e => by have := hA b off e; omega)
  · exact (((hD7.less hdr (Nat.le_refl _)).grown hgr8 (fun k hk => by have := hv7 k hk; omega)).set (by dsimp; omega) (by dsimp; omega) _).mono hN
  · rw [cntI_snoc]
    by_cases hoo : o' = o
    · subst hoo
      have hz := hcn o' ho'
      rw [if_pos rfl, List.getD_eq_getElem?_getD, List.getElem?_set_self (by omega)]
      show y + 1 = _
      rw [hy, hz]
      simp
    · have hz := hcn o' ho'
      rw [if_neg (by omega), List.getD_eq_getElem?_getD, List.getElem?_set_ne (fun e => hoo e.symm), ← List.getD_eq_getElem?_getD, hz]
      simp
  · simp [World.setCell]; omega

end Go.Proofs.Ytmennjmjakdkcaa
namespace Go.Proofs.Ytmennjmjakdkcaa
open Go.RowKit
set_option linter.unusedVariables false
set_option linter.unusedSimpArgs false

theorem endsTo_nil {t : Int} {l : List Mk} {hs : List (List Int)} {ds : List De} {deed owner : Int} {i : Nat} (h : endsTo t l hs ds deed owner i = []) : ∀ k, endsTo t l hs ds deed owner (i + k) = []
  | 0 => h
  | k + 1 => by
    rw [show i + (k + 1) = (i + k) + 1 by omega]
    unfold endsTo
    rw [endsTo_nil h k]
    rfl
/-- whose the sheep is that strays by a deed may have it by its marks -/
theorem stray_may {t : Int} {l : List Mk} {hs : List (List Int)} {ds : List De} {k : Nat} {o : Int} {d : De} (hd : ds[k]? = some d) (hk : d.kind = 5) (h : endsL t l hs ds k o ≠ []) : o ∈ mayL t l d.s := by
  have hkl := (List.getElem?_eq_some_iff.1 hd).1
  have h1 : endsTo t l hs ds k o (k + 1) ≠ [] := fun e => by
    have := endsTo_nil e (ds.length - (k + 1))
    rw [show k + 1 + (ds.length - (k + 1)) = ds.length by omega] at this
    exact h this
  obtain ⟨x, hx⟩ := List.exists_mem_of_ne_nil _ h1
  obtain ⟨g, -, hx⟩ := (endsTo_mem hd x).1 hx
  unfold succ at hx
  rw [if_neg (by omega), if_neg (by omega), if_neg (by omega), if_neg (by omega), if_pos hk] at hx
  unfold strayL at hx
  obtain ⟨o', ho', -⟩ := List.mem_flatMap.1 hx
  obtain ⟨h2, h3⟩ := List.mem_filter.1 ho'
  unfold passB at h3
  simp at h3
  rw [← h3]; exact h2
theorem mayL_fit {t : Int} {l : List Mk} {s : Sg} {o : Int} (h : o ∈ mayL t l s) : ∃ (on : Nat) (m : Mk), o = (on : Int) ∧ l[on]? = some m ∧ fits s m t = true := by
  unfold mayL mayTo at h
  obtain ⟨i, hi, rfl⟩ := List.mem_map.1 h
  obtain ⟨hi1, hi2⟩ := List.mem_filter.1 hi
  have hil := List.mem_range.1 hi1
  rw [List.getElem?_eq_getElem hil] at hi2
  exact ⟨i, l[i], rfl, List.getElem?_eq_getElem hil, by simpa using hi2⟩
theorem whoseTo_mem {b : Hb} {deed o : Int} {n : Nat} : o ∈ whoseTo b deed n ↔ ∃ i : Nat, i < n ∧ o = (i : Int) ∧ b.ends deed (i : Int) ≠ [] := by
  unfold whoseTo
  simp only [List.mem_map, List.mem_filter, List.mem_range]
  constructor
  · rintro ⟨i, ⟨h1, h2⟩, rfl⟩
    exact ⟨i, h1, rfl, by simpa using h2⟩
  · rintro ⟨i, h1, rfl, h2⟩
    exact ⟨i, ⟨h1, by simpa using h2⟩, rfl⟩
theorem whoseTo_nodup (b : Hb) (deed : Int) (n : Nat) : (whoseTo b deed n).Nodup := by
  unfold whoseTo
  show List.Pairwise (· ≠ ·) _
  exact List.Pairwise.map (R := (· ≠ ·)) Int.ofNat (fun a c (h : a ≠ c) e => h (Int.ofNat.inj e)) ((show List.Pairwise (· ≠ ·) (List.range n) from List.nodup_range).filter _)
theorem nodup_one {L : List Int} {o : Int} (hn : L.Nodup) (ho : o ∈ L) (h : ∀ x ∈ L, x = o) : L = [o] := by
  match L, hn, ho, h with
  | [], _, ho, _ => cases ho
  | [a], _, _, h => rw [h a (by simp)]
  | a :: c :: r, hn, _, h =>
    have h1 := h a (by simp)
    have h2 := h c (by simp)
    rw [h1, h2] at hn
    simp at hn
theorem verL_ok {L : List Int} {o : Int} (h : o ∈ L) : verL L o ≠ 2 ∧ (verL L o = 1 → L = [o]) := by
  unfold verL
  rw [if_pos (by simpa using h)]
  by_cases h1 : L.length = 1
  · rw [if_pos h1]
    refine ⟨by decide, fun _ => ?_⟩
    match L, h1, h with
    | [a], _, h => simp at h; rw [h]
  · rw [if_neg h1]
    exact ⟨by decide, fun h => by cases h⟩
/-- what is known of a stray of a tale -/
structure StrayL (b : Hb) (i o : Nat) (d : De) : Prop where
  hd : b.ds[i]? = some d
  k : d.kind = 5
  we : whoseE b i = 0
  wo : (o : Int) ∈ whoseR b i
  wm : ∀ x ∈ whoseR b i, x ∈ mayL b.t b.l d.s
  me : mayE b.t b.l d.s = 0
  ve : verE b.t b.l d.s (o : Int) = 0
  v2 : verV b.t b.l d.s (o : Int) ≠ 2
  v1 : verV b.t b.l d.s (o : Int) = 1 → whoseR b i = [(o : Int)]
  ol : o < b.l.length
  m : ∃ m, b.l[o]? = some m ∧ fits d.s m b.t = true
  sn : seen d.s 9 6 = 0
theorem stray_law {b : Hb} {gs : List (List Int)} {gone whose : List Int} (hck : b.chk = 0) (hti : TaleI b.t b.l b.hs b.ds gs gone whose) {i o : Nat} (hw : whose[i]? = some (o : Int)) : ∃ d, StrayL b i o d := by
  have hok := checkH_ok hck
  obtain ⟨he, hol, d, hd, hk⟩ := hti.w i o hw (by omega)
  have hol : o < b.l.length := by omega
  have hil := (List.getElem?_eq_some_iff.1 hd).1
  have hin := hok.dI d (List.mem_of_getElem? hd)
  have hsn := hin.st hk
  have hne : b.ends i o ≠ [] := List.ne_nil_of_mem he
  have hwo : (o : Int) ∈ whoseTo b i b.l.length := whoseTo_mem.2 ⟨o, hol, rfl, hne⟩
  have hwe : whoseE b i = 0 := by
    unfold whoseE
    rw [if_neg (by rw [hck]; simp), if_neg (by rw [ownB_iff.2 ⟨by omega, by omega⟩]; simp), if_neg (by rw [Int.toNat_natCast, hd]; simp [hk]), if_neg (List.ne_nil_of_mem hwo)]
  have hwr : whoseR b i = whoseTo b i b.l.length := by unfold whoseR; rw [if_pos hwe]
  have hwm : ∀ x ∈ whoseTo b i b.l.length, x ∈ mayL b.t b.l d.s := fun x hx => by
    obtain ⟨j, _, rfl, hj⟩ := whoseTo_mem.1 hx
    exact stray_may hd hk hj
  have hme : mayE b.t b.l d.s = 0 := by unfold mayE; rw [if_neg (by rw [hok.ck]; simp)]; exact hsn
  have hve : verE b.t b.l d.s (o : Int) = 0 := by
    unfold verE
    rw [if_neg (by rw [hme]; simp)]
    unfold ownerE
    rw [if_pos]
    simp [btw_iff]; omega
  have hvv : verV b.t b.l d.s (o : Int) = verL (mayL b.t b.l d.s) o := by unfold verV; rw [if_neg (by rw [hve]; simp)]
  have hom := hwm _ hwo
  obtain ⟨v2, v1⟩ := verL_ok hom
  obtain ⟨on, m, e, hm, hf⟩ := mayL_fit hom
  obtain rfl : on = o := by omega
  refine ⟨d, hd, hk, hwe, by rw [hwr]; exact hwo, by rw [hwr]; exact hwm, hme, hve, by rw [hvv]; exact v2, fun h => ?_, hol, ⟨m, hm, hf⟩, hsn⟩
  rw [hvv] at h
  have h1 := v1 h
  rw [hwr]
  exact nodup_one (whoseTo_nodup _ _ _) hwo fun x hx => by have := hwm x hx; rw [h1] at this; simpa using this
theorem sightsE_zero : ∀ {ss : List Sg}, (∀ s ∈ ss, seen s 9 6 = 0) → sightsE ss = 0
  | [], _ => rfl
  | s :: r, h => by
    rw [sightsE_cons, if_pos (h s (by simp))]
    exact sightsE_zero fun x hx => h x (by simp [hx])
theorem gather_zero {t : Int} {l : List Mk} {ss : List Sg} {mis : List Int} (hck : check t l = 0) (h6 : ss.length ≤ 6) (hs : ∀ s ∈ ss, seen s 9 6 = 0) (hm : mis.length = l.length) (hb : ∀ x ∈ mis, 0 ≤ x ∧ x ≤ 6) : gatherE t l ss mis = 0 := by
  unfold gatherE
  rw [if_neg (by rw [hck]; simp), if_neg (by omega), if_neg (by rw [sightsE_zero hs]; simp), if_neg (by omega), if_neg (by omega), if_pos]
  exact List.all_eq_true.2 fun x hx => btw_iff.2 (hb x hx)
end Go.Proofs.Ytmennjmjakdkcaa
