/- strays.list, mark.Left. -/
import Derived.Test.YtoidaigiejilcaaListG
namespace Go.Proofs.Ytoidaigiejilcaa
open Go.RowKit
set_option linter.unusedVariables false
set_option linter.unusedSimpArgs false

set_option maxRecDepth 100000 in
set_option maxHeartbeats 2000000 in
theorem list_any {t : Int} {A : Option Addr} {n c : Nat} {Am : Option Addr} {L cm : Nat} {Ai : Option Addr} {ni ci : Nat} (many : Nat) (hL : L ≤ 6) (fl : Nat) (fi ca : Array Value) (pf : Nat → Bool) (w : World)
    (eg : ∀ args w, (callFunc fl args).run Try.prog w = .ok (.enter fl args) w)
    (hp : ∀ W, Below w.heap.size w W → ∀ set : Nat, set < 64 → Calls Try.prog fl (fi.push (.int .u64 set) ++ ca) W fun e w' => e = .returned (.bool (pf set)) ∧ Below W.heap.size W w') :
    Calls Try.prog 55 #[.agg #[.int .i64 t, .slice A n c, .slice Am L cm, .slice Ai ni ci], .int .i64 many, .func (.func fl) fi ca] w fun e w' => LRes [] (pickRest L pf many 0 0) e w' ∧ Below w.heap.size w w' := by
  have hG := listG_any w L many hL fl fi ca pf eg hp many
  have HG := Lib.hid hG
  obtain ⟨r, hr⟩ : ∃ r, r = pickRest L pf many 0 0 := ⟨_, rfl⟩
  rw [← hr]
  have HR := Lib.hid hr
  clear hr
  have hmf : ∀ (fn : Fn) (first cap : Array Value) (w : World), (Instr.makeFunc fn first cap).run Try.prog w = .ok (.func fn first cap) w := fun _ _ _ _ => rfl
  clear hG hp
  go_enter Try.func55, Try.ntmps55
  go_upto_region 4 with (fail)
  obtain ⟨W0, hW⟩ : ∃ W0, W0 = ((((w.alloc (Obj.cells #[Value.int .i64 t, .slice A n c, .slice Am L cm, .slice Ai ni ci] 93)).alloc (Obj.cells #[Value.int .i64 (many : Int)] 3)).alloc (Obj.cells #[Value.func (.func fl) fi ca] 101)).alloc (Obj.cells #[Value.int .i64 (L : Int)] 3)).alloc (Obj.cells #[Value.func (.func 99) #[] #[.pointer (some ⟨w.heap.size + 1, 0, none⟩), .pointer (some ⟨w.heap.size + 1 + 1, 0, none⟩), .pointer (some ⟨w.heap.size + 1 + 1 + 1, 0, none⟩), .pointer (some ⟨w.heap.size + 1 + 1 + 1 + 1, 0, none⟩)]] 142) := ⟨_, rfl⟩
  rw [← hW]
  simp only [Nat.add_assoc, Nat.reduceAdd] at hW ⊢
  have e1 : W0.heap[w.heap.size + 1]? = some (.cells #[.int .i64 many] 3 (0, 0)) := by rw [hW]; exact hblk_alloc (hblk_alloc (hblk_alloc (alloc_at (by simp)) _) _) _
  have e2 : W0.heap[w.heap.size + 2]? = some (.cells #[.func (.func fl) fi ca] 101 (0, 0)) := by rw [hW]; exact hblk_alloc (hblk_alloc (alloc_at (by simp)) _) _
  have e3 : W0.heap[w.heap.size + 3]? = some (.cells #[.int .i64 L] 3 (0, 0)) := by rw [hW]; exact hblk_alloc (alloc_at (by simp)) _
  have e4 : W0.heap[w.heap.size + 4]? = some (.cells #[.func (.func 99) #[] #[.pointer (some ⟨w.heap.size + 1, 0, none⟩), .pointer (some ⟨w.heap.size + 2, 0, none⟩), .pointer (some ⟨w.heap.size + 3, 0, none⟩), .pointer (some ⟨w.heap.size + 4, 0, none⟩)]] 142 (0, 0)) := by rw [hW]; exact alloc_at (by simp)
  have hB : Below w.heap.size w W0 := by rw [hW]; exact bal (bal (bal (bal (bal0 w _) (Nat.le_refl _) _) (Nat.le_refl _) _) (Nat.le_refl _) _) (Nat.le_refl _) _
  have hc : Calls Try.prog 99 #[.slice none 0 0, .int .u64 0, .pointer (some ⟨w.heap.size + 1, 0, none⟩), .pointer (some ⟨w.heap.size + 2, 0, none⟩), .pointer (some ⟨w.heap.size + 3, 0, none⟩), .pointer (some ⟨w.heap.size + 4, 0, none⟩)] W0
      fun e w' => LRes [] (pickRest L pf many 0 0) e w' ∧ Below W0.heap.size W0 w' :=
    HG.out W0 none 0 [] 0 0 hB ⟨e1, e2, e3, e4⟩ Sl.nil_ (Nat.le_refl _) (by unfold maxLen; omega) (fun _ => ⟨rfl, rfl⟩) (by simp) (.inl ⟨rfl, rfl⟩) (by omega) (by decide) (Nat.le_refl _)
  have HCC := Lib.hid (And.intro hc hB)
  have c4 := blk1 e4
  have l4 := heap_lt e4
  rw [← HR.out] at HCC
  clear hW e1 e2 e3 e4 hc hB HG hmf
  go_wp2_with fail
  (with_reducible refine HCC.out.1.mono ?_)
  rintro e w2 ⟨hres, hb2⟩
  have HB := Lib.hid (HCC.out.2.trans (hb2.mono HCC.out.2.size))
  clear hb2
  cases r with
  | none =>
    obtain ⟨v, rfl⟩ := hres
    go_wp2
    go_ret2
    exact ⟨⟨_, rfl⟩, HB.out⟩
  | some q =>
    obtain ⟨A', c', rfl, k⟩ := hres
    have HK := Lib.hid k
    clear k
    go_wp2
    go_ret2
    exact ⟨⟨A', c', rfl, HK.out⟩, HB.out⟩

/-- the bits of the strays that are left: the first list of the fewest with which the others can be given -/
def leftOf (may : List (List Int)) (mis : List Int) : Nat → Nat → Option (List Int)
  | 0, _ => none
  | k + 1, many => match pickRest may.length (fun set => (giveL may mis set (fun _ _ => true)).isSome) many 0 0 with
    | some l => some l
    | none => leftOf may mis k (many + 1)
def leftL (may : List (List Int)) (mis : List Int) : List Int := (leftOf may mis (may.length + 1) 0).getD []

set_option maxRecDepth 100000 in
set_option maxHeartbeats 2000000 in
theorem leftPass_any {t : Int} {A : Option Addr} {n c : Nat} {Am : Option Addr} {k cm : Nat} {Ai : Option Addr} {ni ci : Nat} {may : List (List Int)} {mis : List Int} (B set : Nat) (w : World)
    (hb : w.heap[B]? = some (.cells #[.int .i64 t, .slice A n c, .slice Am k cm, .slice Ai ni ci] 93 (0, 0))) (hk : k = may.length) (hg : Grid w Am may.length may) (hmi : Ints w Ai ni mis) (hL : may.length ≤ 6) (hset : set < 64) (hm : ∀ l ∈ may, l.length ≤ 4294967296 ∧ ∀ o ∈ l, 0 ≤ o ∧ o < 5 ∧ o.toNat < ni) :
    Calls Try.prog 56 #[.int .u64 set, .pointer (some ⟨B, 0, none⟩)] w fun e w' => e = .returned (.bool (giveL may mis set (fun _ _ => true)).isSome) ∧ Below w.heap.size w w' := by
  have hmf : ∀ (fn : Fn) (first cap : Array Value) (w : World), (Instr.makeFunc fn first cap).run Try.prog w = .ok (.func fn first cap) w := fun _ _ _ _ => rfl
  have HG := Lib.hid (And.intro hg (And.intro hmi (And.intro hm hk)))
  obtain ⟨x0, x1, x2, x3⟩ := blk4 hb
  have hl := heap_lt hb
  clear hg hmi hm hk hb
  go_enter Try.func56, Try.ntmps56
  go_wp2_with fail
  refine (homeG_any (may := may) (mis := mis) (left := set) (lf := fun _ _ => true) w HG.out.2.2.2 HG.out.1 HG.out.2.1 hL (by omega) HG.out.2.2.1 (fun _ _ => by kernel_rfl) ?_).mono ?_
  · intro W hW p o _ _ _
    exact any_any _ _ _ _ rfl
  rintro e w2 ⟨hr, hb2⟩
  have HB := Lib.hid hb2
  have hr5 : ∃ v, e = Ending.returned (.tuple #[v, .bool (giveL may mis set (fun _ _ => true)).isSome]) := by
    unfold HomeRes at hr
    cases hg : giveL may mis set (fun _ _ => true) with
    | none => rw [hg] at hr; exact ⟨_, hr⟩
    | some r => rw [hg] at hr; obtain ⟨v, h1, _⟩ := hr; exact ⟨v, h1⟩
  obtain ⟨v, rfl⟩ := hr5
  obtain ⟨S, hS⟩ : ∃ S, S = (giveL may mis set (fun _ _ => true)).isSome := ⟨_, rfl⟩
  rw [← hS]
  have HS := Lib.hid hS
  clear hr hb2 hS
  go_wp2
  go_ret
  exact ⟨ret_bool HS.out, HB.out⟩

theorem leftOf_skip {may : List (List Int)} {mis : List Int} : ∀ (a b c : Nat), (∀ j, c ≤ j → j < c + a → pickRest may.length (fun set => (giveL may mis set (fun _ _ => true)).isSome) j 0 0 = none) → leftOf may mis (a + b) c = leftOf may mis b (c + a)
  | 0, b, c, _ => by rw [Nat.zero_add, Nat.add_zero]
  | a + 1, b, c, h => by
    rw [show a + 1 + b = (a + b) + 1 by omega]
    show (match pickRest may.length (fun set => (giveL may mis set (fun _ _ => true)).isSome) c 0 0 with | some l => some l | none => leftOf may mis (a + b) (c + 1)) = _
    rw [h c (Nat.le_refl _) (by omega)]
    dsimp only
    rw [leftOf_skip a b (c + 1) (fun j h1 h2 => h j (by omega) (by omega)), show c + 1 + a = c + (a + 1) by omega]
def leftR (t : Int) (l : List Mk) (ss : List Sg) (mis : List Int) : List Int := if gatherE t l ss mis = 0 then leftL (mays t l ss) mis else []
/-- a list of integers that is handed back, read -/
def IntsRes (x : List Int) (code : Int) (e : Ending) (w' : World) : Prop := ∃ A c, e = .returned (.tuple #[.slice A x.length c, .int .i64 code]) ∧ Ints w' A x.length x ∧ x.length ≤ c ∧ c ≤ maxLen

set_option maxRecDepth 100000 in
set_option maxHeartbeats 4000000 in
theorem Left_any (t : Int) (A : Option Addr) (n c : Nat) (l : List Mk) (B : Option Addr) (m cb : Nat) (ss : List Sg) (Ai : Option Addr) (ni ci : Nat) (mis : List Int) (w : World)
    (hl : Marks w A n l) (hlc : n ≤ c) (hcm : c ≤ maxLen) (hss : Sights w B m ss) (hmm : m ≤ maxLen) (hmi : Ints w Ai ni mis) (hni : ni ≤ maxLen) :
    Calls Try.prog 11 #[.agg #[.int .i64 t, .slice A n c], .slice B m cb, .slice Ai ni ci] w fun e w' => IntsRes (leftR t l ss mis) (gatherE t l ss mis) e w' ∧ Below w.heap.size w w' := by
  have HL := Lib.hid hl
  have HSS := Lib.hid hss
  have HMI := Lib.hid hmi
  have hml := hmi.len
  have HN := Lib.hid (And.intro hml hss.len)
  have hmf : ∀ (fn : Fn) (first cap : Array Value) (w : World), (Instr.makeFunc fn first cap).run Try.prog w = .ok (.func fn first cap) w := fun _ _ _ _ => rfl
  obtain ⟨LR, hLR⟩ : ∃ x, x = leftR t l ss mis := ⟨_, rfl⟩
  rw [← hLR]
  have HLR := Lib.hid hLR
  clear hl hss hmi hml hLR
  go_enter Try.func11, Try.ntmps11
  go_wp2_with fail
  have hbw : Below w.heap.size w (w.alloc (Obj.cells #[Value.int .i64 t, .slice A n c] 25)) := bal0 w _
  refine (gather_any t A n c l B m cb ss Ai ni ci mis _ (HL.out.below hbw (Nat.le_refl _)) hlc hcm (HSS.out.below hbw (Nat.le_refl _)) hmm (HMI.out.below hbw (Nat.le_refl _)) hni).mono ?_
  rintro e w1 ⟨hr, hb1⟩
  have hB1 : Below w.heap.size w w1 := hbw.trans (hb1.mono (by simp))
  have hz1 := hb1.size
  simp at hz1
  by_cases hge : gatherE t l ss mis = 0
  · have hg : ∃ v, e = Ending.returned (.tuple #[.agg #[.int .i64 t, .slice A n c, v, .slice Ai ni ci], .int .i64 0]) ∧ OwnG w1 (w.heap.size + 1) v (mays t l ss) := by
      unfold GatherRes at hr
      rw [if_pos hge] at hr
      simpa using hr
    clear hr
    obtain ⟨v, rfl, hog⟩ := hg
    obtain ⟨Am, cm, rfl, hgr, hcm2, hmx⟩ := hog.form
    have hk6 : (mays t l ss).length ≤ 6 := by unfold mays; rw [List.length_map]; exact (mays_ok hge).2.1
    have hkm : (mays t l ss).length = m := by unfold mays; rw [List.length_map]; exact HN.out.2
    obtain ⟨may, hmay⟩ : ∃ may, may = mays t l ss := ⟨_, rfl⟩
    rw [← hmay] at hgr hk6 hkm ⊢
    have HG := Lib.hid (And.intro hge (And.intro hgr (And.intro hB1 (HLR.out.trans (show leftR t l ss mis = leftL may mis by unfold leftR; rw [if_pos hge, hmay])))))
    have HK := Lib.hid (show ∀ r ∈ may, r.length ≤ 4294967296 ∧ ∀ o ∈ r, 0 ≤ o ∧ o < 5 ∧ o.toNat < ni by rw [hmay]; exact mays_in hge HN.out.1)
    clear hog hgr hcm2 hmx hB1 hbw hb1 hmay
    have HKM := Lib.hid hkm
    have hm6 : m ≤ 6 := by omega
    rw [hkm]
    clear hkm hge
    go_upto_region 4 with (fail)
    obtain ⟨W1, hW⟩ : ∃ W1, W1 = w1.alloc (Obj.cells #[Value.int .i64 t, .slice A n c, .slice Am m cm, .slice Ai ni ci] 93) := ⟨_, rfl⟩
    rw [← hW]
    have b8 : W1.heap[w1.heap.size]? = some (Obj.cells #[Value.int .i64 t, .slice A n c, .slice Am m cm, .slice Ai ni ci] 93 (0, 0)) := by rw [hW]; exact alloc_at rfl
    have hbW1 : Below w1.heap.size w1 W1 := by rw [hW]; exact bal0 w1 _
    have hgW : Grid W1 Am may.length may := by rw [HKM.out]; exact (HKM.out ▸ HG.out.2.1).below hbW1 (Nat.le_refl _)
    have hmW : Ints W1 Ai ni mis := HMI.out.below (HG.out.2.2.1.trans (hbW1.mono (by omega))) (Nat.le_refl _)
    have hBW : Below w.heap.size w W1 := HG.out.2.2.1.trans (hbW1.mono (by omega))
    have HW1 := Lib.hid (And.intro b8 (And.intro hgW (And.intro hmW hBW)))
    have hl8 := heap_lt b8
    have HPASS := Lib.hid (fun (W : World) (hW : Below W1.heap.size W1 W) (set : Nat) (hset : set < 64) =>
      leftPass_any (t := t) (A := A) (n := n) (c := c) (Am := Am) (k := m) (cm := cm) (Ai := Ai) (ni := ni) (ci := ci) (may := may) (mis := mis) w1.heap.size set W (bheap b8 hW (Nat.le_refl _)) HKM.out.symm (hgW.below hW (Nat.le_refl _)) (hmW.below hW (Nat.le_refl _)) hk6 hset HK.out)
    obtain ⟨pf, hpf⟩ : ∃ pf : Nat → Bool, pf = fun set => (giveL may mis set (fun _ _ => true)).isSome := ⟨_, rfl⟩
    have HPF := Lib.hid hpf
    clear hW hbW1 hgW hmW hBW b8 hpf
    go_wp2_with fail
    go_loopg [26] (m + 1) (fun g x wr => ∃ k : Nat, k + g = m + 1 ∧ x = .int .i64 k ∧ (∀ j, j < k → pickRest m pf j 0 0 = none) ∧ Below W1.heap.size W1 wr)
    case atStart => exact ⟨0, by omega, rfl, fun j hj => by omega, Below.refl _ _⟩
    case round =>
      obtain ⟨k, hk, rfl, hno, hbr⟩ := hrel
      have HI := Lib.hid (And.intro hk (And.intro hno hbr))
      have hkm : k ≤ m + 1 := by omega
      clear hk hno
      by_cases hlt : k ≤ m
      · obtain ⟨x0, x1, x2, x3⟩ := blk4 (bheap HW1.out.1 hbr (Nat.le_refl _))
        have hlr := heap_lt (bheap HW1.out.1 hbr (Nat.le_refl _))
        have C := list_any (t := t) (A := A) (n := n) (c := c) (Am := Am) (L := m) (cm := cm) (Ai := Ai) (ni := ni) (ci := ci) k hm6 56 #[] #[.pointer (some ⟨w1.heap.size, 0, none⟩)] pf wr (fun _ _ => by kernel_rfl) (fun W hW set hset => by
          rw [HPF.out]
          exact HPASS.out W (hbr.trans (hW.mono hbr.size)) set hset)
        obtain ⟨r, hr⟩ : ∃ r, r = pickRest m pf k 0 0 := ⟨_, rfl⟩
        rw [← hr] at C
        have HC := Lib.hid C
        have HR := Lib.hid hr.symm
        have k0 : (k : Int) < (m : Int) + 1 := by omega
        clear C hr hbr
        go_wp2_with fail
        (with_reducible refine HC.out.mono ?_)
        rintro e w3 ⟨hres, hb3⟩
        have HB := Lib.hid (HI.out.2.2.trans (hb3.mono HI.out.2.2.size))
        clear hb3 x0 x1 x2 x3
        cases r with
        | none =>
          obtain ⟨v, rfl⟩ := hres
          go_wp2
          go_roundg (gk - 1)
          case measure => have := HI.out.1; omega
          case rel =>
            refine ⟨k + 1, by have := HI.out.1; omega, by go_num, fun j hj => ?_, HB.out⟩
            by_cases hjk : j = k
            · subst hjk; exact HR.out
            · exact HI.out.2.1 j (by omega)
        | some q =>
          obtain ⟨A', c', rfl, hq1, hq2, hq3, hq4⟩ := hres
          have HQ := Lib.hid (And.intro hq1 (And.intro hq2 hq3))
          clear hq1 hq2 hq3 hq4
          go_wp2
          go_ret2
          refine ⟨?_, HW1.out.2.2.2.trans (HB.out.mono HW1.out.2.2.2.size)⟩
          have hLq : LR = q := by
            rw [HG.out.2.2.2]
            unfold leftL
            rw [HKM.out, show m + 1 = k + ((m - k) + 1) by omega, leftOf_skip k ((m - k) + 1) 0 (fun j _ hj => by rw [HKM.out, ← HPF.out]; exact HI.out.2.1 j (by omega))]
            show (match pickRest may.length (fun set => (giveL may mis set (fun _ _ => true)).isSome) (0 + k) 0 0 with | some l => some l | none => leftOf may mis (m - k) (0 + k + 1)).getD [] = q
            rw [HKM.out, ← HPF.out, Nat.zero_add, HR.out]
            rfl
          rw [hLq, HG.out.1]
          exact ⟨A', c', rfl, HQ.out⟩
      · obtain rfl : k = m + 1 := by omega
        have k0 : ¬ ((m : Int) + 1 < (m : Int) + 1) := by omega
        have hcast : ((m + 1 : Nat) : Int) = (m : Int) + 1 := by omega
        rw [hcast]
        have HB := Lib.hid hbr
        clear hbr hcast
        go_wp2
        go_ret2
        refine ⟨?_, HW1.out.2.2.2.trans (HB.out.mono HW1.out.2.2.2.size)⟩
        have hLq : LR = [] := by
          rw [HG.out.2.2.2]
          unfold leftL
          rw [HKM.out, leftOf_skip (m + 1) 0 0 (fun j _ hj => by rw [HKM.out, ← HPF.out]; exact HI.out.2.1 j (by omega))]
          rfl
        rw [hLq, HG.out.1]
        exact ⟨none, 0, rfl, Sl.nil_, Nat.le_refl _, by unfold maxLen; omega⟩
  · have hg : e = Ending.returned (.tuple #[.agg #[.int .i64 0, .slice none 0 0, .slice none 0 0, .slice none 0 0], .int .i64 (gatherE t l ss mis)]) := by
      unfold GatherRes at hr
      rwa [if_neg hge] at hr
    subst hg
    have h0 : (gatherE t l ss mis != 0) = true := by simp [hge]
    have HE := Lib.hid (show LR = [] by rw [HLR.out]; unfold leftR; rw [if_neg hge])
    clear hr hge
    go_wp2
    go_ret2
    refine ⟨?_, bal hB1 (Nat.le_refl _) _⟩
    rw [HE.out]
    exact ⟨none, 0, rfl, Sl.nil_, Nat.le_refl _, by unfold maxLen; omega⟩
end Go.Proofs.Ytoidaigiejilcaa
