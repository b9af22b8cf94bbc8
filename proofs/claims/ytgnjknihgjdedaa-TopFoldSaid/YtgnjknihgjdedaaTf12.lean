/- TopFold 12: Left, LawL, FoundA. -/
import Derived.Test.YtgnjknihgjdedaaTf11
import Derived.Test.YtgnjknihgjdedaaTf03
import Derived.Test.YtgnjknihgjdedaaTf04
import Derived.Test.YtgnjknihgjdedaaTf08
import Derived.Test.YtgnjknihgjdedaaTf01
import Derived.Test.YtgnjknihgjdedaaTf10
import Derived.Test.YtgnjknihgjdedaaTf07
import Derived.Test.YtgnjknihgjdedaaTf05
import Derived.Deep.RegionHeld3
namespace Go.Proofs.Ytgnjknihgjdedaa
open Go.RowKit
set_option linter.unusedVariables false
set_option linter.unusedSimpArgs false

set_option maxRecDepth 100000 in
set_option maxHeartbeats 2000000 in
theorem list_any {t : Int} {A : Option Addr} {n c : Nat} {Am : Option Addr} {L cm : Nat} {Ai : Option Addr} {ni ci : Nat} (many : Nat) (hL : L ≤ 6) (fl : Nat) (fi ca : Array Value) (pf : Nat → Bool) (w : World)
    (eg : ∀ args w, (callFunc fl args).run Try.prog w = .ok (.enter fl args) w)
    (hp : ∀ W, Below w.heap.size w W → ∀ set : Nat, set < 64 → Calls Try.prog fl (fi.push (.int .u64 set) ++ ca) W fun e w' => e = .returned (.bool (pf set)) ∧ Below W.heap.size W w') :
    Calls Try.prog 49 #[.agg #[.int .i64 t, .slice A n c, .slice Am L cm, .slice Ai ni ci], .int .i64 many, .func (.func fl) fi ca] w fun e w' => LRes [] (pickRest L pf many 0 0) e w' ∧ Below w.heap.size w w' := by
  have hG := listG_any w L many hL fl fi ca pf eg hp many
  have HG := Lib.hid hG
  obtain ⟨r, hr⟩ : ∃ r, r = pickRest L pf many 0 0 := ⟨_, rfl⟩
  rw [← hr]
  have HR := Lib.hid hr
  clear hr
  have hmf : ∀ (fn : Fn) (first cap : Array Value) (w : World), (Instr.makeFunc fn first cap).run Try.prog w = .ok (.func fn first cap) w := fun _ _ _ _ => rfl
  clear hG hp
  go_enter Try.func49, Try.ntmps49
  go_upto_region 4 with (fail)
  obtain ⟨W0, hW⟩ : ∃ W0, W0 = ((((w.alloc (Obj.cells #[Value.int .i64 t, .slice A n c, .slice Am L cm, .slice Ai ni ci] 107)).alloc (Obj.cells #[Value.int .i64 (many : Int)] 3)).alloc (Obj.cells #[Value.func (.func fl) fi ca] 113)).alloc (Obj.cells #[Value.int .i64 (L : Int)] 3)).alloc (Obj.cells #[Value.func (.func 86) #[] #[.pointer (some ⟨w.heap.size + 1, 0, none⟩), .pointer (some ⟨w.heap.size + 1 + 1, 0, none⟩), .pointer (some ⟨w.heap.size + 1 + 1 + 1, 0, none⟩), .pointer (some ⟨w.heap.size + 1 + 1 + 1 + 1, 0, none⟩)]] 157) := ⟨_, rfl⟩
  rw [← hW]
  simp only [Nat.add_assoc, Nat.reduceAdd] at hW ⊢
  have e1 : W0.heap[w.heap.size + 1]? = some (.cells #[.int .i64 many] 3 (0, 0)) := by rw [hW]; exact hblk_alloc (hblk_alloc (hblk_alloc (alloc_at (by simp)) _) _) _
  have e2 : W0.heap[w.heap.size + 2]? = some (.cells #[.func (.func fl) fi ca] 113 (0, 0)) := by rw [hW]; exact hblk_alloc (hblk_alloc (alloc_at (by simp)) _) _
  have e3 : W0.heap[w.heap.size + 3]? = some (.cells #[.int .i64 L] 3 (0, 0)) := by rw [hW]; exact hblk_alloc (alloc_at (by simp)) _
  have e4 : W0.heap[w.heap.size + 4]? = some (.cells #[.func (.func 86) #[] #[.pointer (some ⟨w.heap.size + 1, 0, none⟩), .pointer (some ⟨w.heap.size + 2, 0, none⟩), .pointer (some ⟨w.heap.size + 3, 0, none⟩), .pointer (some ⟨w.heap.size + 4, 0, none⟩)]] 157 (0, 0)) := by rw [hW]; exact alloc_at (by simp)
  have hB : Below w.heap.size w W0 := by rw [hW]; exact bal (bal (bal (bal (bal0 w _) (Nat.le_refl _) _) (Nat.le_refl _) _) (Nat.le_refl _) _) (Nat.le_refl _) _
  have hc : Calls Try.prog 86 #[.slice none 0 0, .int .u64 0, .pointer (some ⟨w.heap.size + 1, 0, none⟩), .pointer (some ⟨w.heap.size + 2, 0, none⟩), .pointer (some ⟨w.heap.size + 3, 0, none⟩), .pointer (some ⟨w.heap.size + 4, 0, none⟩)] W0
      fun e w' => LRes [] (pickRest L pf many 0 0) e w' ∧ Below W0.heap.size W0 w' :=
    HG.out W0 none 0 [] 0 0 hB ⟨e1, e2, e3, e4⟩ Sl.nil_ (Nat.le_refl _) (by unfold maxLen; omega) (fun _ => ⟨rfl, rfl⟩) (by simp) (.inl ⟨rfl, rfl⟩) (by omega) (by decide) (Nat.le_refl _)
  have HCC := Lib.hid (And.intro hc hB)
  have c4 := blk1 e4
  have l4 := heap_lt e4
  rw [← HR.out] at HCC
  clear hW e1 e2 e3 e4 hc hB HG hmf
  go_wp2_with fail
  (with_reducible refine HCC.out.1.mono ?_)
  rintro e w2 ⟨hres, hb2⟩
  have HB := Lib.hid (HCC.out.2.trans (hb2.mono HCC.out.2.size))
  clear hb2
  cases r with
  | none =>
    obtain ⟨v, rfl⟩ := hres
    go_wp2
    go_ret2
    exact ⟨⟨_, rfl⟩, HB.out⟩
  | some q =>
    obtain ⟨A', c', rfl, k⟩ := hres
    have HK := Lib.hid k
    clear k
    go_wp2
    go_ret2
    exact ⟨⟨A', c', rfl, HK.out⟩, HB.out⟩

def leftOf (may : List (List Int)) (mis : List Int) : Nat → Nat → Option (List Int)
  | 0, _ => none
  | k + 1, many => match pickRest may.length (fun set => (giveL may mis set (fun _ _ => true)).isSome) many 0 0 with
    | some l => some l
    | none => leftOf may mis k (many + 1)
def leftL (may : List (List Int)) (mis : List Int) : List Int := (leftOf may mis (may.length + 1) 0).getD []

set_option maxRecDepth 100000 in
set_option maxHeartbeats 2000000 in
theorem leftPass_any {t : Int} {A : Option Addr} {n c : Nat} {Am : Option Addr} {k cm : Nat} {Ai : Option Addr} {ni ci : Nat} {may : List (List Int)} {mis : List Int} (B set : Nat) (w : World)
    (hb : w.heap[B]? = some (.cells #[.int .i64 t, .slice A n c, .slice Am k cm, .slice Ai ni ci] 107 (0, 0))) (hk : k = may.length) (hg : Grid w Am may.length may) (hmi : Ints w Ai ni mis) (hL : may.length ≤ 6) (hset : set < 64) (hm : ∀ l ∈ may, l.length ≤ 4294967296 ∧ ∀ o ∈ l, 0 ≤ o ∧ o < 5 ∧ o.toNat < ni) :
    Calls Try.prog 50 #[.int .u64 set, .pointer (some ⟨B, 0, none⟩)] w fun e w' => e = .returned (.bool (giveL may mis set (fun _ _ => true)).isSome) ∧ Below w.heap.size w w' := by
  have hmf : ∀ (fn : Fn) (first cap : Array Value) (w : World), (Instr.makeFunc fn first cap).run Try.prog w = .ok (.func fn first cap) w := fun _ _ _ _ => rfl
  have HG := Lib.hid (And.intro hg (And.intro hmi (And.intro hm hk)))
  obtain ⟨x0, x1, x2, x3⟩ := blk4 hb
  have hl := heap_lt hb
  clear hg hmi hm hk hb
  go_enter Try.func50, Try.ntmps50
  go_wp2_with fail
  refine (homeG_any (may := may) (mis := mis) (left := set) (lf := fun _ _ => true) w HG.out.2.2.2 HG.out.1 HG.out.2.1 hL (by omega) HG.out.2.2.1 (fun _ _ => by kernel_rfl) ?_).mono ?_
  · intro W hW p o _ _ _
    exact any_any _ _ _ _ rfl
  rintro e w2 ⟨hr, hb2⟩
  have HB := Lib.hid hb2
  have hr5 : ∃ v, e = Ending.returned (.tuple #[v, .bool (giveL may mis set (fun _ _ => true)).isSome]) := by
    unfold HomeRes at hr
    cases hg : giveL may mis set (fun _ _ => true) with
    | none => rw [hg] at hr; exact ⟨_, hr⟩
    | some r => rw [hg] at hr; obtain ⟨v, h1, _⟩ := hr; exact ⟨v, h1⟩
  obtain ⟨v, rfl⟩ := hr5
  obtain ⟨S, hS⟩ : ∃ S, S = (giveL may mis set (fun _ _ => true)).isSome := ⟨_, rfl⟩
  rw [← hS]
  have HS := Lib.hid hS
  clear hr hb2 hS
  go_wp2
  go_ret
  exact ⟨ret_bool HS.out, HB.out⟩

theorem leftOf_skip {may : List (List Int)} {mis : List Int} : ∀ (a b c : Nat), (∀ j, c ≤ j → j < c + a → pickRest may.length (fun set => (giveL may mis set (fun _ _ => true)).isSome) j 0 0 = none) → leftOf may mis (a + b) c = leftOf may mis b (c + a)
  | 0, b, c, _ => by rw [Nat.zero_add, Nat.add_zero]
  | a + 1, b, c, h => by
    rw [show a + 1 + b = (a + b) + 1 by omega]
    show (match pickRest may.length (fun set => (giveL may mis set (fun _ _ => true)).isSome) c 0 0 with | some l => some l | none => leftOf may mis (a + b) (c + 1)) = _
    rw [h c (Nat.le_refl _) (by omega)]
    dsimp only
    rw [leftOf_skip a b (c + 1) (fun j h1 h2 => h j (by omega) (by omega)), show c + 1 + a = c + (a + 1) by omega]
def leftR (t : Int) (l : List Mk) (ss : List Sg) (mis : List Int) : List Int := if gatherE t l ss mis = 0 then leftL (mays t l ss) mis else []
def IntsRes (x : List Int) (code : Int) (e : Ending) (w' : World) : Prop := ∃ A c, e = .returned (.tuple #[.slice A x.length c, .int .i64 code]) ∧ Ints w' A x.length x ∧ x.length ≤ c ∧ c ≤ maxLen

set_option maxRecDepth 100000 in
set_option maxHeartbeats 4000000 in
theorem Left_any (t : Int) (A : Option Addr) (n c : Nat) (l : List Mk) (B : Option Addr) (m cb : Nat) (ss : List Sg) (Ai : Option Addr) (ni ci : Nat) (mis : List Int) (w : World)
    (hl : Marks w A n l) (hlc : n ≤ c) (hcm : c ≤ maxLen) (hss : Sights w B m ss) (hmm : m ≤ maxLen) (hmi : Ints w Ai ni mis) (hni : ni ≤ maxLen) :
    Calls Try.prog 19 #[.agg #[.int .i64 t, .slice A n c], .slice B m cb, .slice Ai ni ci] w fun e w' => IntsRes (leftR t l ss mis) (gatherE t l ss mis) e w' ∧ Below w.heap.size w w' := by
  have HL := Lib.hid hl
  have HSS := Lib.hid hss
  have HMI := Lib.hid hmi
  have hml := hmi.len
  have HN := Lib.hid (And.intro hml hss.len)
  have hmf : ∀ (fn : Fn) (first cap : Array Value) (w : World), (Instr.makeFunc fn first cap).run Try.prog w = .ok (.func fn first cap) w := fun _ _ _ _ => rfl
  obtain ⟨LR, hLR⟩ : ∃ x, x = leftR t l ss mis := ⟨_, rfl⟩
  rw [← hLR]
  have HLR := Lib.hid hLR
  clear hl hss hmi hml hLR
  go_enter Try.func19, Try.ntmps19
  go_wp2_with fail
  have hbw : Below w.heap.size w (w.alloc (Obj.cells #[Value.int .i64 t, .slice A n c] 41)) := bal0 w _
  refine (gather_any t A n c l B m cb ss Ai ni ci mis _ (HL.out.below hbw (Nat.le_refl _)) hlc hcm (HSS.out.below hbw (Nat.le_refl _)) hmm (HMI.out.below hbw (Nat.le_refl _)) hni).mono ?_
  rintro e w1 ⟨hr, hb1⟩
  have hB1 : Below w.heap.size w w1 := hbw.trans (hb1.mono (by simp))
  have hz1 := hb1.size
  simp at hz1
  by_cases hge : gatherE t l ss mis = 0
  · have hg : ∃ v, e = Ending.returned (.tuple #[.agg #[.int .i64 t, .slice A n c, v, .slice Ai ni ci], .int .i64 0]) ∧ OwnG w1 (w.heap.size + 1) v (mays t l ss) := by
      unfold GatherRes at hr
      rw [if_pos hge] at hr
      simpa using hr
    clear hr
    obtain ⟨v, rfl, hog⟩ := hg
    obtain ⟨Am, cm, rfl, hgr, hcm2, hmx⟩ := hog.form
    have hk6 : (mays t l ss).length ≤ 6 := by unfold mays; rw [List.length_map]; exact (mays_ok hge).2.1
    have hkm : (mays t l ss).length = m := by unfold mays; rw [List.length_map]; exact HN.out.2
    obtain ⟨may, hmay⟩ : ∃ may, may = mays t l ss := ⟨_, rfl⟩
    rw [← hmay] at hgr hk6 hkm ⊢
    have HG := Lib.hid (And.intro hge (And.intro hgr (And.intro hB1 (HLR.out.trans (show leftR t l ss mis = leftL may mis by unfold leftR; rw [if_pos hge, hmay])))))
    have HK := Lib.hid (show ∀ r ∈ may, r.length ≤ 4294967296 ∧ ∀ o ∈ r, 0 ≤ o ∧ o < 5 ∧ o.toNat < ni by rw [hmay]; exact mays_in hge HN.out.1)
    clear hog hgr hcm2 hmx hB1 hbw hb1 hmay
    have HKM := Lib.hid hkm
    have hm6 : m ≤ 6 := by omega
    rw [hkm]
    clear hkm hge
    go_upto_region 4 with (fail)
    obtain ⟨W1, hW⟩ : ∃ W1, W1 = w1.alloc (Obj.cells #[Value.int .i64 t, .slice A n c, .slice Am m cm, .slice Ai ni ci] 107) := ⟨_, rfl⟩
    rw [← hW]
    have b8 : W1.heap[w1.heap.size]? = some (Obj.cells #[Value.int .i64 t, .slice A n c, .slice Am m cm, .slice Ai ni ci] 107 (0, 0)) := by rw [hW]; exact alloc_at rfl
    have hbW1 : Below w1.heap.size w1 W1 := by rw [hW]; exact bal0 w1 _
    have hgW : Grid W1 Am may.length may := by rw [HKM.out]; exact (HKM.out ▸ HG.out.2.1).below hbW1 (Nat.le_refl _)
    have hmW : Ints W1 Ai ni mis := HMI.out.below (HG.out.2.2.1.trans (hbW1.mono (by omega))) (Nat.le_refl _)
    have hBW : Below w.heap.size w W1 := HG.out.2.2.1.trans (hbW1.mono (by omega))
    have HW1 := Lib.hid (And.intro b8 (And.intro hgW (And.intro hmW hBW)))
    have hl8 := heap_lt b8
    have HPASS := Lib.hid (fun (W : World) (hW : Below W1.heap.size W1 W) (set : Nat) (hset : set < 64) =>
      leftPass_any (t := t) (A := A) (n := n) (c := c) (Am := Am) (k := m) (cm := cm) (Ai := Ai) (ni := ni) (ci := ci) (may := may) (mis := mis) w1.heap.size set W (bheap b8 hW (Nat.le_refl _)) HKM.out.symm (hgW.below hW (Nat.le_refl _)) (hmW.below hW (Nat.le_refl _)) hk6 hset HK.out)
    obtain ⟨pf, hpf⟩ : ∃ pf : Nat → Bool, pf = fun set => (giveL may mis set (fun _ _ => true)).isSome := ⟨_, rfl⟩
    have HPF := Lib.hid hpf
    clear hW hbW1 hgW hmW hBW b8 hpf
    go_wp2_with fail
    go_loopg [26] (m + 1) (fun g x wr => ∃ k : Nat, k + g = m + 1 ∧ x = .int .i64 k ∧ (∀ j, j < k → pickRest m pf j 0 0 = none) ∧ Below W1.heap.size W1 wr)
    case atStart => exact ⟨0, by omega, rfl, fun j hj => by omega, Below.refl _ _⟩
    case round =>
      obtain ⟨k, hk, rfl, hno, hbr⟩ := hrel
      have HI := Lib.hid (And.intro hk (And.intro hno hbr))
      have hkm : k ≤ m + 1 := by omega
      clear hk hno
      by_cases hlt : k ≤ m
      · obtain ⟨x0, x1, x2, x3⟩ := blk4 (bheap HW1.out.1 hbr (Nat.le_refl _))
        have hlr := heap_lt (bheap HW1.out.1 hbr (Nat.le_refl _))
        have C := list_any (t := t) (A := A) (n := n) (c := c) (Am := Am) (L := m) (cm := cm) (Ai := Ai) (ni := ni) (ci := ci) k hm6 50 #[] #[.pointer (some ⟨w1.heap.size, 0, none⟩)] pf wr (fun _ _ => by kernel_rfl) (fun W hW set hset => by
          rw [HPF.out]
          exact HPASS.out W (hbr.trans (hW.mono hbr.size)) set hset)
        obtain ⟨r, hr⟩ : ∃ r, r = pickRest m pf k 0 0 := ⟨_, rfl⟩
        rw [← hr] at C
        have HC := Lib.hid C
        have HR := Lib.hid hr.symm
        have k0 : (k : Int) < (m : Int) + 1 := by omega
        clear C hr hbr
        go_wp2_with fail
        (with_reducible refine HC.out.mono ?_)
        rintro e w3 ⟨hres, hb3⟩
        have HB := Lib.hid (HI.out.2.2.trans (hb3.mono HI.out.2.2.size))
        clear hb3 x0 x1 x2 x3
        cases r with
        | none =>
          obtain ⟨v, rfl⟩ := hres
          go_wp2
          go_roundg (gk - 1)
          case measure => have := HI.out.1; omega
          case rel =>
            refine ⟨k + 1, by have := HI.out.1; omega, by go_num, fun j hj => ?_, HB.out⟩
            by_cases hjk : j = k
            · subst hjk; exact HR.out
            · exact HI.out.2.1 j (by omega)
        | some q =>
          obtain ⟨A', c', rfl, hq1, hq2, hq3, hq4⟩ := hres
          have HQ := Lib.hid (And.intro hq1 (And.intro hq2 hq3))
          clear hq1 hq2 hq3 hq4
          go_wp2
          go_ret2
          refine ⟨?_, HW1.out.2.2.2.trans (HB.out.mono HW1.out.2.2.2.size)⟩
          have hLq : LR = q := by
            rw [HG.out.2.2.2]
            unfold leftL
            rw [HKM.out, show m + 1 = k + ((m - k) + 1) by omega, leftOf_skip k ((m - k) + 1) 0 (fun j _ hj => by rw [HKM.out, ← HPF.out]; exact HI.out.2.1 j (by omega))]
            show (match pickRest may.length (fun set => (giveL may mis set (fun _ _ => true)).isSome) (0 + k) 0 0 with | some l => some l | none => leftOf may mis (m - k) (0 + k + 1)).getD [] = q
            rw [HKM.out, ← HPF.out, Nat.zero_add, HR.out]
            rfl
          rw [hLq, HG.out.1]
          exact ⟨A', c', rfl, HQ.out⟩
      · obtain rfl : k = m + 1 := by omega
        have k0 : ¬ ((m : Int) + 1 < (m : Int) + 1) := by omega
        have hcast : ((m + 1 : Nat) : Int) = (m : Int) + 1 := by omega
        rw [hcast]
        have HB := Lib.hid hbr
        clear hbr hcast
        go_wp2
        go_ret2
        refine ⟨?_, HW1.out.2.2.2.trans (HB.out.mono HW1.out.2.2.2.size)⟩
        have hLq : LR = [] := by
          rw [HG.out.2.2.2]
          unfold leftL
          rw [HKM.out, leftOf_skip (m + 1) 0 0 (fun j _ hj => by rw [HKM.out, ← HPF.out]; exact HI.out.2.1 j (by omega))]
          rfl
        rw [hLq, HG.out.1]
        exact ⟨none, 0, rfl, Sl.nil_, Nat.le_refl _, by unfold maxLen; omega⟩
  · have hg : e = Ending.returned (.tuple #[.agg #[.int .i64 0, .slice none 0 0, .slice none 0 0, .slice none 0 0], .int .i64 (gatherE t l ss mis)]) := by
      unfold GatherRes at hr
      rwa [if_neg hge] at hr
    subst hg
    have h0 : (gatherE t l ss mis != 0) = true := by simp [hge]
    have HE := Lib.hid (show LR = [] by rw [HLR.out]; unfold leftR; rw [if_neg hge])
    clear hr hge
    go_wp2
    go_ret2
    refine ⟨?_, bal hB1 (Nat.le_refl _) _⟩
    rw [HE.out]
    exact ⟨none, 0, rfl, Sl.nil_, Nat.le_refl _, by unfold maxLen; omega⟩
end Go.Proofs.Ytgnjknihgjdedaa
namespace Go.Proofs.Ytgnjknihgjdedaa
set_option linter.unusedVariables false
set_option linter.unusedSimpArgs false

def okR (may : List (List Int)) (mis : List Int) (left L : Nat) : Nat → Cn → List Int → Prop
  | 0, _, r => r = []
  | n + 1, c, r => ∃ o q, r = o :: q ∧ if left.testBit (L - (n + 1)) then o = -1 ∧ okR may mis left L n c.skip q
      else (o ∈ may.getD (L - (n + 1)) [] ∧ c.at o.toNat < mis.getD o.toNat 0) ∧ okR may mis left L n (c.up o.toNat) q
theorem rest_some {b L : Nat} {may : List (List Int)} {mis : List Int} {left : Nat} : ∀ n c, (Srch.rest ⟨b, L, may, mis, left, fun _ _ => true⟩ n c).isSome = true ↔ ∃ r, okR may mis left L n c r
  | 0, c => by simp [Srch.rest, okR]
  | n + 1, c => by
    unfold Srch.rest okR
    dsimp only
    cases hb : left.testBit (L - (n + 1))
    · simp only [Bool.false_eq_true, if_false]
      rw [List.findSome?_isSome_iff]
      constructor
      · rintro ⟨o, ho, h⟩
        split at h
        · rename_i hc
          rw [Option.isSome_map] at h
          obtain ⟨q, hq⟩ := (rest_some n _).1 h
          simp only [Bool.and_true, decide_eq_true_eq] at hc
          exact ⟨o :: q, o, q, rfl, ⟨ho, hc⟩, hq⟩
        · cases h
      · rintro ⟨r, o, q, rfl, ⟨h1, h2⟩, h3⟩
        refine ⟨o, h1, ?_⟩
        rw [if_pos (by rw [Bool.and_true, decide_eq_true_eq]; exact h2), Option.isSome_map]
        exact (rest_some n _).2 ⟨q, h3⟩
    · simp only [if_true]
      rw [Option.isSome_map, rest_some n c.skip]
      constructor
      · rintro ⟨q, hq⟩; exact ⟨-1 :: q, -1, q, rfl, rfl, hq⟩
      · rintro ⟨r, o, q, rfl, rfl, hq⟩; exact ⟨q, hq⟩
theorem okR_iff {L : Nat} {may : List (List Int)} {mis : List Int} {left : Nat} (hmay : ∀ r ∈ may, ∀ o ∈ r, 0 ≤ o ∧ o < 5) : ∀ (n : Nat) (c : Cn) (r : List Int), n ≤ L →
    (okR may mis left L n c r ↔ r.length = n ∧ (∀ (j : Nat) (o : Int), r[j]? = some o → if left.testBit (L - n + j) then o = -1 else o ∈ may.getD (L - n + j) []) ∧ ∀ o : Nat, o < 5 → (o : Int) ∈ r → c.at o + (cntI r o : Int) ≤ mis.getD o 0)
  | 0, c, r, _ => by
    unfold okR
    constructor
    · rintro rfl; simp
    · rintro ⟨h, _⟩; exact List.eq_nil_of_length_eq_zero h
  | n + 1, c, r, hn => by
    have hg : ∀ k (o : Int), o ∈ may.getD k [] → 0 ≤ o ∧ o < 5 := by
      intro k o ho
      rw [List.getD_eq_getElem?_getD] at ho
      cases hk : may[k]? with
      | none => rw [hk] at ho; simp at ho
      | some row => rw [hk] at ho; exact hmay row (List.mem_of_getElem? hk) o ho
    unfold okR
    constructor
    · rintro ⟨o, q, rfl, h⟩
      cases hb : left.testBit (L - (n + 1))
      · simp only [hb, Bool.false_eq_true, if_false] at h
        obtain ⟨⟨h1, h2⟩, h3⟩ := h
        obtain ⟨h0, h5⟩ := hg _ _ h1
        obtain ⟨i, rfl⟩ := Int.eq_ofNat_of_zero_le h0
        have hi5 : i < 5 := by omega
        obtain ⟨k1, k2, k3⟩ := (okR_iff hmay n _ q (by omega)).1 h3
        refine ⟨by simp [k1], fun j o hj => ?_, fun o ho5 ho => ?_⟩
        · cases j with
          | zero => simp at hj; subst hj; rw [Nat.add_zero, hb]; simpa using h1
          | succ j =>
            have := k2 j o (by simpa using hj)
            rw [show L - (n + 1) + (j + 1) = L - n + j by omega]
            exact this
        · rw [cntI_cons]
          have h2' : c.at i < mis.getD i 0 := h2
          by_cases ho2 : (o : Int) ∈ q
          · have h6 := k3 o ho5 ho2
            rw [show ((i : Int)).toNat = i from rfl, Cn.up_at c hi5 ho5] at h6
            by_cases hoi : o = i
            · subst hoi; rw [if_pos rfl] at h6; rw [if_pos rfl]; omega
            · rw [if_neg hoi] at h6; rw [if_neg (by omega)]; omega
          · rw [cntI_zero ho2]
            have hoi : (o : Int) = (i : Int) := by
              rcases List.mem_cons.1 ho with h | h
              · exact h
              · exact absurd h ho2
            have : o = i := by omega
            subst this
            rw [if_pos rfl]
            omega
      · simp only [hb, if_true] at h
        obtain ⟨rfl, h3⟩ := h
        obtain ⟨k1, k2, k3⟩ := (okR_iff hmay n _ q (by omega)).1 h3
        refine ⟨by simp [k1], fun j o hj => ?_, fun o ho5 ho => ?_⟩
        · cases j with
          | zero => simp at hj; subst hj; rw [Nat.add_zero, hb]; rfl
          | succ j =>
            have := k2 j o (by simpa using hj)
            rw [show L - (n + 1) + (j + 1) = L - n + j by omega]
            exact this
        · rw [cntI_cons, if_neg (by omega)]
          have ho2 : (o : Int) ∈ q := by
            rcases List.mem_cons.1 ho with h | h
            · omega
            · exact h
          have h6 := k3 o ho5 ho2
          rw [Cn.skip_at c ho5] at h6
          omega
    · rintro ⟨h1, h2, h3⟩
      match r, h1, h2, h3 with
      | [], h1, _, _ => simp at h1
      | o :: q, h1, h2, h3 =>
        refine ⟨o, q, rfl, ?_⟩
        have hq : q.length = n := by simpa using h1
        have h20 := h2 0 o rfl
        rw [Nat.add_zero] at h20
        have hq2 : ∀ (j : Nat) (o : Int), q[j]? = some o → if left.testBit (L - n + j) then o = -1 else o ∈ may.getD (L - n + j) [] := by
          intro j o' hj
          have := h2 (j + 1) o' (by simpa using hj)
          rw [show L - (n + 1) + (j + 1) = L - n + j by omega] at this
          exact this
        cases hb : left.testBit (L - (n + 1))
        · simp only [hb, Bool.false_eq_true, if_false] at h20 ⊢
          obtain ⟨h0, h5⟩ := hg _ _ h20
          obtain ⟨i, rfl⟩ := Int.eq_ofNat_of_zero_le h0
          have hi5 : i < 5 := by omega
          have h4 := h3 i hi5 (by simp)
          rw [cntI_cons, if_pos rfl] at h4
          refine ⟨⟨h20, ?_⟩, (okR_iff hmay n _ q (by omega)).2 ⟨hq, hq2, fun o ho5 ho => ?_⟩⟩
          · show c.at i < mis.getD i 0
            omega
          · have h6 := h3 o ho5 (by simp [ho])
            rw [show ((i : Int)).toNat = i from rfl, Cn.up_at c hi5 ho5]
            rw [cntI_cons] at h6
            by_cases hoi : o = i
            · subst hoi; rw [if_pos rfl] at h6 ⊢; omega
            · rw [if_neg hoi]; rw [if_neg (by omega)] at h6; omega
        · simp only [hb, if_true] at h20 ⊢
          refine ⟨h20, (okR_iff hmay n _ q (by omega)).2 ⟨hq, hq2, fun o ho5 ho => ?_⟩⟩
          have h6 := h3 o ho5 (by simp [ho])
          rw [Cn.skip_at c ho5]
          rw [cntI_cons, if_neg (by omega)] at h6
          omega
theorem give_some {may : List (List Int)} {mis : List Int} {left : Nat} (hmay : ∀ r ∈ may, ∀ o ∈ r, 0 ≤ o ∧ o < 5) :
    (giveL may mis left (fun _ _ => true)).isSome = true ↔ ∃ r : List Int, r.length = may.length ∧ (∀ (j : Nat) (o : Int), r[j]? = some o → if left.testBit j then o = -1 else o ∈ may.getD j []) ∧ ∀ o : Nat, o < 5 → (o : Int) ∈ r → (cntI r o : Int) ≤ mis.getD o 0 := by
  unfold giveL Srch.all
  rw [rest_some]
  have hat : ∀ o : Nat, (⟨0, 0, 0, 0, 0, 0⟩ : Cn).at o = 0 := fun o => by unfold Cn.at; split <;> rfl
  constructor
  · rintro ⟨r, h⟩
    have := (okR_iff hmay may.length _ r (Nat.le_refl _)).1 h
    simp only [hat, Int.zero_add, Nat.sub_self, Nat.zero_add] at this
    exact ⟨r, this⟩
  · rintro ⟨r, h⟩
    refine ⟨r, (okR_iff hmay may.length _ r (Nat.le_refl _)).2 ?_⟩
    simp only [hat, Int.zero_add, Nat.sub_self, Nat.zero_add]
    exact h

def Asc (L : Nat) : Nat → List Int → Prop
  | _, [] => True
  | a, i :: q => ∃ n : Nat, i = (n : Int) ∧ a ≤ n ∧ n < L ∧ Asc L (n + 1) q
def bitsF (set : Nat) (q : List Int) : Nat := q.foldl (fun s i => s ||| 2 ^ i.toNat) set
theorem asc_len {L : Nat} : ∀ {a : Nat} {r : List Int}, Asc L a r → a ≤ L → r.length ≤ L - a
  | _, [], _, _ => by simp
  | a, i :: q, h, ha => by
    obtain ⟨n, rfl, h1, h2, h3⟩ := h
    have := asc_len h3 (by omega)
    simp
    omega
end Go.Proofs.Ytgnjknihgjdedaa

namespace Go.Proofs.Ytgnjknihgjdedaa
set_option linter.unusedVariables false
set_option linter.unusedSimpArgs false

theorem asc_filter (p : Nat → Bool) (L : Nat) : ∀ (n a : Nat), a + n ≤ L → Asc L a (((List.range' a n).filter p).map Int.ofNat)
  | 0, a, _ => by simp [Asc]
  | n + 1, a, h => by
    have ih := asc_filter p L n (a + 1) (by omega)
    rw [List.range'_succ]
    by_cases hp : p a = true
    · rw [List.filter_cons_of_pos hp, List.map_cons]
      exact ⟨a, rfl, Nat.le_refl _, by omega, ih⟩
    · rw [List.filter_cons_of_neg hp]
      have mono : ∀ {q : List Int} {a b : Nat}, a ≤ b → Asc L b q → Asc L a q := by
        intro q a b hab hq
        match q, hq with
        | [], _ => trivial
        | i :: q, ⟨m, h1, h2, h3⟩ => exact ⟨m, h1, by omega, h3⟩
      exact mono (Nat.le_succ a) ih
theorem bitsF_test : ∀ (q : List Int) (set j : Nat), (∀ i ∈ q, 0 ≤ i) → (bitsF set q).testBit j = (set.testBit j || decide ((j : Int) ∈ q))
  | [], set, j, _ => by simp [bitsF]
  | i :: q, set, j, h => by
    rw [show bitsF set (i :: q) = bitsF (set ||| 2 ^ i.toNat) q from rfl, bitsF_test q _ j (fun k hk => h k (by simp [hk])), Nat.testBit_or, Nat.testBit_two_pow, Bool.or_assoc]
    congr 1
    obtain ⟨n, rfl⟩ := Int.eq_ofNat_of_zero_le (h i (by simp))
    rw [Int.toNat_natCast, Bool.eq_iff_iff]
    simp only [Bool.or_eq_true, decide_eq_true_eq, List.mem_cons]
    constructor
    · rintro (h | h)
      · left; omega
      · exact .inr h
    · rintro (h | h)
      · left; omega
      · exact .inr h
theorem asc_pos {L : Nat} : ∀ {q : List Int} {a : Nat}, Asc L a q → ∀ i ∈ q, 0 ≤ i
  | i :: q, a, ⟨n, h1, h2, h3, h4⟩, k, hk => by
    rcases List.mem_cons.1 hk with h | h
    · omega
    · exact asc_pos h4 k h
  | [], _, _, k, hk => by cases hk
theorem asc_ge {L : Nat} : ∀ {q : List Int} {a : Nat}, Asc L a q → ∀ i ∈ q, (a : Int) ≤ i ∧ i < L
  | i :: q, a, ⟨n, h1, h2, h3, h4⟩, k, hk => by
    rcases List.mem_cons.1 hk with h | h
    · omega
    · have := asc_ge h4 k h; omega
  | [], _, _, k, hk => by cases hk
theorem asc_ext {L : Nat} : ∀ {x y : List Int} {a b : Nat}, Asc L a x → Asc L b y → (∀ i : Int, i ∈ x ↔ i ∈ y) → x = y
  | [], [], _, _, _, _, _ => rfl
  | [], j :: y, _, _, _, _, h => by have := (h j).2 (by simp); cases this
  | i :: x, [], _, _, _, _, h => by have := (h i).1 (by simp); cases this
  | i :: x, j :: y, a, b, ⟨n, hn1, hn2, hn3, hn4⟩, ⟨m, hm1, hm2, hm3, hm4⟩, h => by
    have hij : i = j := by
      have h1 := (h i).1 (by simp)
      have h2 := (h j).2 (by simp)
      rcases List.mem_cons.1 h1 with e | e
      · exact e
      · rcases List.mem_cons.1 h2 with e' | e'
        · exact e'.symm
        · have := asc_ge hm4 i e; have := asc_ge hn4 j e'; omega
    subst hij
    have hnm : n = m := by omega
    subst hnm
    congr 1
    refine asc_ext hn4 hm4 fun k => ?_
    have hk := h k
    constructor
    · intro hx
      rcases List.mem_cons.1 (hk.1 (by simp [hx])) with e | e
      · have := asc_ge hn4 k hx; omega
      · exact e
    · intro hy
      rcases List.mem_cons.1 (hk.2 (by simp [hy])) with e | e
      · have := asc_ge hm4 k hy; omega
      · exact e

section
variable {t : Int} {l : List Mk} {ss : List Sg} {mis : List Int} (hn5 : l.length ≤ 5) (hmis : ∀ x ∈ mis, 0 ≤ x)
theorem mays_five (hn5 : l.length ≤ 5) : ∀ r ∈ mays t l ss, ∀ o ∈ r, 0 ≤ o ∧ o < 5 := by
  intro r hr o ho
  unfold mays at hr
  obtain ⟨s, _, rfl⟩ := List.mem_map.1 hr
  have := mayL_mem ho
  omega
theorem words_mem {N : Nat} : ∀ {m : Nat} {x : List Int}, x.length = m → (∀ y ∈ x, 0 ≤ y ∧ y < N) → x ∈ wordsL N m
  | 0, x, h, _ => by rw [List.eq_nil_of_length_eq_zero h]; simp [wordsL]
  | m + 1, [], h, _ => by simp at h
  | m + 1, y :: x, h, hv => by
    obtain ⟨h0, h1⟩ := hv y (by simp)
    obtain ⟨n, rfl⟩ := Int.eq_ofNat_of_zero_le h0
    unfold wordsL
    rw [List.mem_flatMap]
    exact ⟨n, List.mem_range.2 (by omega), List.mem_map.2 ⟨x, words_mem (by simpa using h) (fun z hz => hv z (by simp [hz])), rfl⟩⟩
end
end Go.Proofs.Ytgnjknihgjdedaa
namespace Go.Proofs.Ytgnjknihgjdedaa
open Go.RowKit
set_option linter.unusedVariables false
set_option linter.unusedSimpArgs false

def MisB (w : World) (G : Nat) (mis : List Int) : Prop := w.heap[G]? = some (.cells (mis.map (Value.int .i64)).toArray 3 (0, 0))
theorem flat_map_int (x : List Int) : x.flatMap eInt = x.map (Value.int .i64) := by
  induction x with
  | nil => rfl
  | cons a r ih => rw [List.flatMap_cons, ih]; rfl
theorem MisB.keep {w w' : World} {G : Nat} {mis : List Int} (h : MisB w G mis) (e : w'.heap[G]? = w.heap[G]?) : MisB w' G mis := e.trans h
theorem MisB.set {w : World} {G o : Nat} {mis : List Int} (h : MisB w G mis) (x : Int) : MisB (w.setCell ⟨G, o, none⟩ (.int .i64 x)) G (mis.set o x) := by
  unfold MisB
  rw [set_blk h, List.setIfInBounds_toArray, List.map_set]
theorem MisB.cell {w : World} {G : Nat} {mis : List Int} (h : MisB w G mis) {o : Nat} (ho : o < mis.length) : w.cell? ⟨G, o, none⟩ = some (.int .i64 (mis.getD o 0)) := by
  unfold World.cell?
  rw [show w.heap[G]? = _ from h]
  simp [ho]
theorem MisB.free {w : World} {G : Nat} {mis : List Int} (h : MisB w G mis) (i : Nat) : w.frozen? ⟨G, i, none⟩ = false := frz h i
theorem made_zero (n : Nat) : madeCells #[Value.int .i64 0] n = ((List.replicate n (0 : Int)).map (Value.int .i64)).toArray := by
  apply Array.ext
  · simp [size_madeCells]
  · intro i h1 h2
    simp [madeCells, Nat.mod_one]
theorem Own.nb {α : Type} {enc : α → List Value} {e : TypeId} {sz : Nat} {w : World} {base b : Nat} {v : Value} {l : List α} (h : Own enc e sz w base v l) (hb : b < base) : v.ownBlock ≠ some b := fun k => by
  have := (h.lt _ k).1; omega
theorem gcell {w w' : World} {v u : Value} {b o base : Nat} (hg : w.grownBy w' v.ownBlock) (hc : w.cell? ⟨b, o, none⟩ = some u) (hv : ∀ k, v.ownBlock = some k → base ≤ k) (hb : b < base) : w'.cell? ⟨b, o, none⟩ = some u :=
  hg.cell hc (fun e => by
    have e' : v.ownBlock = some b := e.symm
    have := hv b e'; omega)
theorem gblkF {w w' : World} {v : Value} {b base : Nat} {o : Obj} (hg : w.grownBy w' v.ownBlock) (hc : w.heap[b]? = some o) (hv : ∀ k, v.ownBlock = some k → base ≤ k) (hb : b < base) : w'.heap[b]? = some o :=
  (hg.block b (heap_lt hc) (fun e => by
    have e' : v.ownBlock = some b := e.symm
    have := hv b e'; omega)).trans hc
def FitL (t : Int) (l : List Mk) (ss : List Sg) (os : List Int) : Prop := ∀ (k : Nat) s o, ss[k]? = some s → os[k]? = some o → seen s 9 6 = 0 ∧ ∃ (on : Nat) (m : Mk), o = (on : Int) ∧ l[on]? = some m ∧ fits s m t = true
theorem FitL.snoc {t : Int} {l : List Mk} {ss : List Sg} {os : List Int} {s : Sg} {on : Nat} {m : Mk} (h : FitL t l ss os) (hl : ss.length = os.length) (hs : seen s 9 6 = 0) (hm : l[on]? = some m) (hf : fits s m t = true) : FitL t l (ss ++ [s]) (os ++ [(on : Int)]) := by
  intro k s' o' hs' ho'
  rcases Nat.lt_or_ge k ss.length with hk | hk
  · rw [List.getElem?_append_left hk] at hs'
    rw [List.getElem?_append_left (by omega)] at ho'
    exact h k s' o' hs' ho'
  · rw [List.getElem?_append_right hk] at hs'
    rw [List.getElem?_append_right (by omega)] at ho'
    have h0 : k - ss.length = 0 := by
      cases hd : k - ss.length with
      | zero => rfl
      | succ j => rw [hd] at hs'; simp at hs'
    rw [h0] at hs'
    rw [show k - os.length = 0 by omega] at ho'
    simp at hs' ho'
    subst hs'; subst ho'
    exact ⟨hs, on, m, rfl, hm, hf⟩
theorem found_law {t : Int} {l : List Mk} {ss : List Sg} {os mis : List Int} (hn5 : l.length ≤ 5) (hsl : ss.length = os.length) (hft : FitL t l ss os) (hcn : ∀ o : Nat, o < l.length → (cntI os (o : Int) : Int) ≤ mis.getD o 0) (hm0 : ∀ x ∈ mis, 0 ≤ x) (hge : gatherE t l ss mis = 0) :
    homeE t l ss mis = 0 ∧ (homeL t l ss mis).length = ss.length ∧ leftR t l ss mis = [] ∧ (ownersR t l ss mis).length = ss.length ∧
      ∀ k, k < ss.length → ∃ row, (ownersR t l ss mis)[k]? = some row ∧ (∀ o, os[k]? = some o → o ∈ row) ∧ ∀ o, (homeL t l ss mis)[k]? = some o → o ∈ row := by
  have hmay : (mays t l ss).length = ss.length := by unfold mays; simp
  have hval : ∀ y ∈ os, 0 ≤ y ∧ y < l.length := fun y hy => by
    obtain ⟨k, hk⟩ := List.getElem?_of_mem hy
    have hkl := (List.getElem?_eq_some_iff.1 hk).1
    obtain ⟨_, on, m, rfl, hm, _⟩ := hft k _ y (List.getElem?_eq_getElem (show k < ss.length by omega)) hk
    have := (List.getElem?_eq_some_iff.1 hm).1
    omega
  have hg : givesB t l ss mis os = true := by
    unfold givesB
    rw [Bool.and_eq_true, List.all_eq_true, List.all_eq_true]
    refine ⟨fun o ho => decide_eq_true (hcn o (List.mem_range.1 ho)), fun i hi => ?_⟩
    have hil := List.mem_range.1 hi
    have hs := List.getElem?_eq_getElem (show i < ss.length by omega)
    have ho := List.getElem?_eq_getElem hil
    obtain ⟨_, on, m, he, hm, hf⟩ := hft i _ _ hs ho
    unfold fitAt mkAt
    rw [List.getD_eq_getElem?_getD, ho, List.getD_eq_getElem?_getD, hs]
    simp only [Option.getD_some, he, Int.toNat_natCast, hm, hf, Bool.or_true]
  have hos : os ∈ allW l ss := words_mem hsl.symm hval
  have hall := give_all (t := t) (l := l) (ss := ss) (mis := mis) hn5 hm0
  have hsome : ((allW l ss).find? (givesB t l ss mis)).isSome = true := by
    rw [List.find?_isSome]; exact ⟨os, hos, hg⟩
  obtain ⟨x, hx⟩ := Option.isSome_iff_exists.1 hsome
  have hxg := List.find?_some hx
  have hxm := List.mem_of_find?_eq_some hx
  have hxl := (wordsL_mem hxm).1
  rw [hx] at hall
  have hE : homeE t l ss mis = 0 := by
    unfold homeE
    rw [if_neg (by rw [hge]; simp), hall]
    simp
  have hL : homeL t l ss mis = x := by
    unfold homeL
    rw [if_neg (by rw [hge]; simp), hall]
    rfl
  have hO : ownersR t l ss mis = ownersG (mays t l ss) mis := by unfold ownersR; rw [if_pos hE]
  refine ⟨hE, by rw [hL]; exact hxl, ?_, by rw [hO]; unfold ownersG; simp [hmay], fun k hk => ?_⟩
  · unfold leftR
    rw [if_pos hge]
    unfold leftL
    show (match pickRest (mays t l ss).length (fun set => (giveL (mays t l ss) mis set (fun _ _ => true)).isSome) 0 0 0 with | some l => some l | none => leftOf (mays t l ss) mis (mays t l ss).length (0 + 1)).getD [] = []
    unfold pickRest
    rw [hall]
    rfl
  · have hrow := owns_all (t := t) (l := l) (ss := ss) (mis := mis) hn5 hm0 hk
    refine ⟨ownsRow (mays t l ss) mis k, ?_, fun o ho => ?_, fun o ho => ?_⟩
    · rw [hO]
      unfold ownersG
      rw [List.getElem?_map, List.getElem?_range (by rw [hmay]; exact hk)]
      rfl
    · have hov := hval o (List.mem_of_getElem? ho)
      obtain ⟨on, rfl⟩ := Int.eq_ofNat_of_zero_le hov.1
      rw [hrow, List.mem_map]
      refine ⟨on, List.mem_filter.2 ⟨List.mem_range.2 (by omega), ?_⟩, rfl⟩
      unfold hasB
      rw [List.take_of_length_le (Nat.le_refl _), List.any_eq_true]
      refine ⟨os, hos, ?_⟩
      rw [hg, Bool.true_and, List.getD_eq_getElem?_getD, ho]
      simp
    · rw [hL] at ho
      have hov := (wordsL_mem hxm).2 o (List.mem_of_getElem? ho)
      obtain ⟨on, rfl⟩ := Int.eq_ofNat_of_zero_le hov.1
      rw [hrow, List.mem_map]
      refine ⟨on, List.mem_filter.2 ⟨List.mem_range.2 (by omega), ?_⟩, rfl⟩
      unfold hasB
      rw [List.take_of_length_le (Nat.le_refl _), List.any_eq_true]
      refine ⟨x, hxm, ?_⟩
      rw [hxg, Bool.true_and, List.getD_eq_getElem?_getD, ho]
      simp
end Go.Proofs.Ytgnjknihgjdedaa
