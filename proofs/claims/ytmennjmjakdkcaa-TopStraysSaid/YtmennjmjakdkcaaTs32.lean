/- TopStrays 32: Gives, Owners, LawH. -/
import Derived.Test.YtmennjmjakdkcaaTs02
import Derived.Test.YtmennjmjakdkcaaTs01
import Derived.Test.YtmennjmjakdkcaaTs03
import Derived.Test.YtmennjmjakdkcaaTs04
import Derived.Test.YtmennjmjakdkcaaTs31
import Derived.Test.YtmennjmjakdkcaaTs12
import Derived.Test.YtmennjmjakdkcaaTs07
import Derived.Deep.OwnRows
import Derived.Deep.RegionLaw
namespace Go.Proofs.Ytmennjmjakdkcaa
open Go.RowKit
set_option linter.unusedVariables false
set_option linter.unusedSimpArgs false

def cntI (x : List Int) (o : Int) : Nat := x.countP (· == o)
def fitAt (t : Int) (l : List Mk) (ss : List Sg) (x : List Int) (i : Nat) : Bool := decide (x.getD i 0 < 0) || fits (ss.getD i ⟨0, false, false, 0, 0⟩) (mkAt l (x.getD i 0)) t
/-- the list is a giving -/
def givesB (t : Int) (l : List Mk) (ss : List Sg) (mis x : List Int) : Bool := ((List.range l.length).all fun (o : Nat) => decide ((cntI x (o : Int) : Int) ≤ mis.getD o 0)) && (List.range x.length).all (fitAt t l ss x)
theorem cntI_snoc (x : List Int) (y o : Int) : cntI (x ++ [y]) o = cntI x o + if y = o then 1 else 0 := by
  unfold cntI
  rw [List.countP_append]
  by_cases h : y = o <;> simp [h]
theorem cntI_le (x : List Int) (o : Int) : cntI x o ≤ x.length := List.countP_le_length

end Go.Proofs.Ytmennjmjakdkcaa
namespace Go.Proofs.Ytmennjmjakdkcaa
open Go.RowKit
set_option linter.unusedVariables false
set_option linter.unusedSimpArgs false

/-- only this owner is let have this stray -/
def letB (i : Nat) (o : Int) (p : Nat) (x : Int) : Bool := decide (p ≠ i) || decide (x = o)
def ownsIn (may : List (List Int)) (mis : List Int) (i : Nat) (r : List Int) : List Int := r.filter fun o => (giveL may mis 0 (letB i o)).isSome
def ownsRow (may : List (List Int)) (mis : List Int) (i : Nat) : List Int := ownsIn may mis i ((may[i]?).getD [])
def ownersG (may : List (List Int)) (mis : List Int) : List (List Int) := (List.range may.length).map (ownsRow may mis)
def ownersR (t : Int) (l : List Mk) (ss : List Sg) (mis : List Int) : List (List Int) := if homeE t l ss mis = 0 then ownersG (mays t l ss) mis else []

theorem let_any (p i : Nat) (x o : Int) (B1 B2 : Nat) (w : World) (h1 : w.heap[B1]? = some (.cells #[.int .i64 (i : Int)] 3 (0, 0))) (h2 : w.heap[B2]? = some (.cells #[.int .i64 o] 3 (0, 0))) :
    Calls Try.prog 65 #[.int .i64 (p : Int), .int .i64 x, .pointer (some ⟨B1, 0, none⟩), .pointer (some ⟨B2, 0, none⟩)] w fun e w' => e = .returned (.bool (letB i o p x)) ∧ w = w' := by
  have c1 := blk1 h1
  have c2 := blk1 h2
  have l1 := heap_lt h1
  have l2 := heap_lt h2
  clear h1 h2
  have HB := Lib.hid (show letB i o p x = (((p : Int) != (i : Int)) || (x == o)) by
    unfold letB
    congr 1
    rw [Bool.eq_iff_iff]
    simp only [decide_eq_true_eq, bne_iff_ne, ne_eq]
    omega)
  cases e1 : ((p : Int) != (i : Int)) <;> cases e2 : (x == o)
  all_goals
    have HE := Lib.hid (And.intro e1 e2)
    go_enter Try.func65, Try.ntmps65
    go_wp2
    go_ret
    exact ⟨ret_bool (by rw [HB.out, HE.out.1, HE.out.2]; rfl), rfl⟩

/-- the rows so far: in the block G, each its own -/
def OutS (w : World) (G L : Nat) (may : List (List Int)) (mis : List Int) (i : Nat) (cs : Array Value) : Prop :=
  w.heap[G]? = some (.cells cs 22 (0, 0)) ∧ cs.size = L ∧ (∀ j, j < i → ∃ v, cs[j]? = some v ∧ OwnI w (G + 1) v (ownsRow may mis j)) ∧ ∀ j, i ≤ j → j < L → cs[j]? = some (.slice none 0 0)

theorem arr_same {cs : Array Value} {i : Nat} {v : Value} (h : cs[i]? = some v) : cs.setIfInBounds i v = cs := by
  apply Array.ext_getElem?
  intro j
  rw [Array.getElem?_setIfInBounds]
  split
  · rename_i e
    subst e
    split
    · exact h.symm
    · rename_i hj
      rw [Array.getElem?_eq_none (by omega)] at h
      cases h
  · rfl
theorem ownsIn_snoc {may : List (List Int)} {mis : List Int} {i : Nat} {r : List Int} {x : Int} : ownsIn may mis i (r ++ [x]) = ownsIn may mis i r ++ if (giveL may mis 0 (letB i x)).isSome then [x] else [] := by
  unfold ownsIn
  rw [List.filter_append]
  congr 1
  by_cases h : (giveL may mis 0 (letB i x)).isSome = true
  · simp [List.filter_cons, h]
  · simp [List.filter_cons, h]
/-- behind 'out[i] = append(out[i], x)' -/
theorem owners_next {wo w5 w6 : World} {G base i : Nat} {cs0 : Array Value} {vi v6 : Value} {T : TypeId} {L : List Int} {x : Int} {o13 ob : Obj}
    (hG : w5.heap[G]? = some (.cells (cs0.setIfInBounds i vi) T (0, 0))) (hown : OwnI w5 base vi L) (hgr : (w5.drew.alloc ob).grownBy w6 vi.ownBlock) (hown6 : OwnI w6 base v6 (L ++ [x])) (hGb : G < wo.heap.size) (hb : base = wo.heap.size + 1)
    (h13 : w5.heap[wo.heap.size]? = some o13) (hwo : wo.grownBy w5 (some G)) :
    (w6.setCell ⟨G, i, none⟩ v6).heap[G]? = some (.cells (cs0.setIfInBounds i v6) T (0, 0)) ∧ OwnI (w6.setCell ⟨G, i, none⟩ v6) base v6 (L ++ [x]) ∧ wo.grownBy (w6.setCell ⟨G, i, none⟩ v6) (some G) ∧ (w6.setCell ⟨G, i, none⟩ v6).heap[wo.heap.size]? = some o13 ∧
      w5.heap.size ≤ (w6.setCell ⟨G, i, none⟩ v6).heap.size := by
  have hvl := hown.lt
  have hlt5 := hwo.size
  have hsz : (w5.drew.alloc ob).heap.size = w5.heap.size + 1 := by simp
  have keep : ∀ j, j < w5.heap.size → vi.ownBlock ≠ some j → w6.heap[j]? = w5.heap[j]? := fun j hj hne =>
    (hgr.block j (by omega) (fun e => hne e.symm)).trans (Below.heap_alloc w5.drew ob j hj)
  have hG6 : w6.heap[G]? = some (.cells (cs0.setIfInBounds i vi) T (0, 0)) := (keep G (by omega) (fun h => by have := hvl _ h; omega)).trans hG
  refine ⟨?_, ?_, ?_, ?_, ?_⟩
  · have := set_blk (i := i) (v := v6) hG6
    rw [Array.setIfInBounds_setIfInBounds] at this
    exact this
  · refine Own.kept hown6 (gb_set _ _ _ _) ?_
    cases h : v6.ownBlock with
    | none => exact .inl rfl
    | some k => exact .inr (fun e => by cases e; have := hown6.lt _ h; omega)
  · refine ⟨hgr.os.trans hwo.os, hgr.tape.trans hwo.tape, hgr.output.trans hwo.output, ?_, fun k hk hne => ?_⟩
    · have := hgr.size; simp at this ⊢; omega
    · rw [Below.heap_setCell _ ⟨G, i, none⟩ _ _ (fun e => hne (by rw [e]))]
      exact (keep k (by omega) (fun h => by have := hvl _ h; omega)).trans (hwo.block k hk hne)
  · rw [Below.heap_setCell _ ⟨G, i, none⟩ _ _ (by dsimp; omega)]
    exact (keep _ (heap_lt h13) (fun h => by have := hvl _ h; omega)).trans h13
  · have := hgr.size; simp at this ⊢; omega

set_option maxRecDepth 100000 in
set_option maxHeartbeats 4000000 in
theorem Owners_any (t : Int) (A : Option Addr) (n c : Nat) (l : List Mk) (B : Option Addr) (m cb : Nat) (ss : List Sg) (Ai : Option Addr) (ni ci : Nat) (mis : List Int) (w : World)
    (hl : Marks w A n l) (hlc : n ≤ c) (hcm : c ≤ maxLen) (hss : Sights w B m ss) (hmm : m ≤ maxLen) (hmi : Ints w Ai ni mis) (hni : ni ≤ maxLen) :
    Calls Try.prog 18 #[.agg #[.int .i64 t, .slice A n c], .slice B m cb, .slice Ai ni ci] w fun e w' => ∃ v, e = .returned (.tuple #[v, .int .i64 (homeE t l ss mis)]) ∧ OwnG w' w.heap.size v (ownersR t l ss mis) ∧ Below w.heap.size w w' := by
  have HL := Lib.hid hl
  have HSS := Lib.hid hss
  have HMI := Lib.hid hmi
  have hml := hmi.len
  have HN := Lib.hid (And.intro hml hss.len)
  have hmf : ∀ (fn : Fn) (first cap : Array Value) (w : World), (Instr.makeFunc fn first cap).run Try.prog w = .ok (.func fn first cap) w := fun _ _ _ _ => rfl
  clear hl hss hmi hml
  go_enter Try.func18, Try.ntmps18
  go_wp2_with fail
  have hbw : Below w.heap.size w (w.alloc (Obj.cells #[Value.int .i64 t, .slice A n c] 25)) := bal0 w _
  refine (gather_any t A n c l B m cb ss Ai ni ci mis _ (HL.out.below hbw (Nat.le_refl _)) hlc hcm (HSS.out.below hbw (Nat.le_refl _)) hmm (HMI.out.below hbw (Nat.le_refl _)) hni).mono ?_
  rintro e w1 ⟨hr, hb1⟩
  have hB1 : Below w.heap.size w w1 := hbw.trans (hb1.mono (by simp))
  have hz1 := hb1.size
  simp at hz1
  by_cases hge : gatherE t l ss mis = 0
  · have hg : ∃ v, e = Ending.returned (.tuple #[.agg #[.int .i64 t, .slice A n c, v, .slice Ai ni ci], .int .i64 0]) ∧ OwnG w1 (w.heap.size + 1) v (mays t l ss) := by
      unfold GatherRes at hr
      rw [if_pos hge] at hr
      simpa using hr
    clear hr
    obtain ⟨v, rfl, hog⟩ := hg
    obtain ⟨Am, cm, rfl, hgr, hcm2, hmx⟩ := hog.form
    have hk6 : (mays t l ss).length ≤ 6 := by unfold mays; rw [List.length_map]; exact (mays_ok hge).2.1
    have hkm : (mays t l ss).length = m := by unfold mays; rw [List.length_map]; exact HN.out.2
    obtain ⟨may, hmay⟩ : ∃ may, may = mays t l ss := ⟨_, rfl⟩
    rw [← hmay] at hgr hk6 hkm ⊢
    have HG := Lib.hid (And.intro hge (And.intro hgr (And.intro hB1 hmay)))
    have HK0 := Lib.hid (show ∀ r ∈ may, r.length ≤ 4294967296 ∧ ∀ o ∈ r, 0 ≤ o ∧ o < 5 ∧ o.toNat < ni by rw [hmay]; exact mays_in hge HN.out.1)
    clear hog hgr hcm2 hmx hB1 hge hbw hb1 hmay
    have HKM := Lib.hid hkm
    have hm6 : m ≤ 6 := by omega
    rw [hkm]
    clear hkm
    have hmk : ∀ W : World, (Instr.makeSlice 26 (.int .i64 (m : Int)) (.int .i64 (m : Int))).run Try.prog W = .ok (.slice (some ⟨W.heap.size, 0, none⟩) m m) (W.alloc (.cells (madeCells #[.slice none 0 0] m) 22)) :=
      run_make_row' (P := Try.prog) 26 22 (.slice none 0 0) 24 Try.underlying26 (by kernel_rfl) rfl .i64 .i64 m (by omega) (by omega)
    go_upto_region 4 with (fail)
    obtain ⟨W1, hW⟩ : ∃ W1, W1 = w1.alloc (Obj.cells #[Value.int .i64 t, .slice A n c, .slice Am m cm, .slice Ai ni ci] 116) := ⟨_, rfl⟩
    rw [← hW]
    have b8 : W1.heap[w1.heap.size]? = some (Obj.cells #[Value.int .i64 t, .slice A n c, .slice Am m cm, .slice Ai ni ci] 116 (0, 0)) := by rw [hW]; exact alloc_at rfl
    have hbW1 : Below w1.heap.size w1 W1 := by rw [hW]; exact bal0 w1 _
    have hgW : Grid W1 Am may.length may := by rw [HKM.out]; exact (HKM.out ▸ HG.out.2.1).below hbW1 (Nat.le_refl _)
    have hmW : Ints W1 Ai ni mis := HMI.out.below (HG.out.2.2.1.trans (hbW1.mono (by omega))) (Nat.le_refl _)
    have hBW : Below w.heap.size w W1 := HG.out.2.2.1.trans (hbW1.mono (by omega))
    have HW1 := Lib.hid (And.intro b8 (And.intro hgW (And.intro hmW hBW)))
    have hl8 := heap_lt b8
    clear hW hbW1 hgW hmW hBW
    obtain ⟨x0, x1, x2, x3⟩ := blk4 b8
    clear b8
    go_wp2_with fail
    refine (homeG_any (may := may) (mis := mis) (left := 0) (lf := fun _ _ => true) W1 HKM.out.symm HW1.out.2.1 HW1.out.2.2.1 hk6 (by decide) HK0.out (fun _ _ => by kernel_rfl) ?_).mono ?_
    · intro W hW p o _ _ _
      exact any_any _ _ _ _ rfl
    rintro e w2 ⟨hr, hb2⟩
    cases hg : giveL may mis 0 (fun _ _ => true) with
    | none =>
      have HE := Lib.hid (show homeE t l ss mis = 11 by unfold homeE; rw [if_neg (by simp [HG.out.1]), ← HG.out.2.2.2, if_pos hg])
      have hr2 : e = Ending.returned (.tuple #[.slice none 0 0, .bool false]) := by
        unfold HomeRes at hr; rw [hg] at hr; exact hr
      subst hr2
      clear hr hg
      go_wp2
      go_ret2
      exact ⟨.slice none 0 0, ret_val HE.out.symm, by unfold ownersR; rw [if_neg (by rw [HE.out]; omega)]; exact OwnG.nil_, HW1.out.2.2.2.trans (hb2.mono HW1.out.2.2.2.size)⟩
    | some r =>
      have HE := Lib.hid (show homeE t l ss mis = 0 by unfold homeE; rw [if_neg (by simp [HG.out.1]), ← HG.out.2.2.2, if_neg (by simp [hg])])
      have hr2 : ∃ v, e = Ending.returned (.tuple #[v, .bool true]) ∧ OwnI w2 W1.heap.size v r := by
        unfold HomeRes at hr; rw [hg] at hr; simpa using hr
      obtain ⟨v, rfl, hov⟩ := hr2
      have HB2 := Lib.hid hb2
      have hs2 := hb2.size
      clear hr hg hov hb2 x0 x1 x2 x3
      go_upto_region 8 with (fail)
      obtain ⟨W3, hW⟩ : ∃ W3, W3 = w2.alloc (.cells (madeCells #[.slice none 0 0] m) 22) := ⟨_, rfl⟩
      rw [← hW]
      have hB3 : Below W1.heap.size W1 W3 := by rw [hW]; exact bal HB2.out (Nat.le_refl _) _
      have hout : OutS W3 w2.heap.size m may mis 0 (madeCells #[.slice none 0 0] m) := by
        refine ⟨by rw [hW]; exact alloc_at rfl, size_madeCells _ _, fun j hj => by omega, fun j _ hj => by simp [madeCells, hj, Nat.mod_one]⟩
      have hG3 := heap_lt hout.1
      have HO := Lib.hid (And.intro hout hB3)
      clear hW hout hB3 hmk
      go_wp2_with fail
      go_loopg [42] m (fun g x wr => ∃ i : Nat, i + g = m ∧ x = .int .i64 i ∧ (∃ cs, OutS wr w2.heap.size m may mis i cs) ∧ Below w2.heap.size W3 wr)
      case atStart => exact ⟨0, by omega, rfl, ⟨_, HO.out.1⟩, Below.refl _ _⟩
      case round =>
        obtain ⟨i, hi, rfl, ⟨cs0, hos⟩, hbr⟩ := hrel
        have HI := Lib.hid (And.intro hi (And.intro hos hbr))
        have him : i ≤ m := by omega
        have hsr := hbr.size
        clear hi hos hbr
        by_cases hlt : i < m
        · obtain ⟨g1, rfl⟩ : ∃ g1 : Nat, g1 = gk := ⟨_, rfl⟩
          obtain ⟨wo, rfl⟩ : ∃ wo : World, wo = wr := ⟨_, rfl⟩
          have i0 : (0 : Int) ≤ (i : Int) := by omega
          have i1 : (i : Int) < (m : Int) := by omega
          have hW1o : Below W1.heap.size W1 wo := HO.out.2.trans (HI.out.2.2.mono hs2)
          obtain ⟨x0, x1, x2, x3⟩ := blk4 (bheap HW1.out.1 hW1o (Nat.le_refl _))
          obtain ⟨bg, og, Br, row, cr, rfl, hbg, hrow, c0, hIr, hcr, hmr⟩ := Grid.get HW1.out.2.1 (show i < may.length by rw [HKM.out]; exact hlt)
          replace c0 := bcell c0 hW1o (Nat.le_refl _)
          have HR := Lib.hid (And.intro hrow (And.intro hIr hW1o))
          have hrl : row.length ≤ 9223372036854775807 := Nat.le_trans hcr hmr
          have hwo := heap_lt HI.out.2.1.1
          have hGo : w2.heap.size < wo.heap.size := hwo
          go_upto_region 11 with (fail)
          obtain ⟨W4, hW⟩ : ∃ W4, W4 = wo.alloc (Obj.cells #[Value.int .i64 (i : Int)] 3) := ⟨_, rfl⟩
          rw [← hW]
          have hb4 : Below wo.heap.size wo W4 := by rw [hW]; exact bal0 wo _
          have b13 : W4.heap[wo.heap.size]? = some (Obj.cells #[Value.int .i64 (i : Int)] 3 (0, 0)) := by rw [hW]; exact alloc_at rfl
          have HB4 := Lib.hid (And.intro hb4 b13)
          have y13 := blk1 b13
          have hl4 := heap_lt b13
          replace x0 := bcell x0 hb4 (Nat.le_refl _)
          replace x1 := bcell x1 hb4 (Nat.le_refl _)
          replace x2 := bcell x2 hb4 (Nat.le_refl _)
          replace x3 := bcell x3 hb4 (Nat.le_refl _)
          replace c0 := bcell c0 hb4 (Nat.le_refl _)
          clear hW hb4 b13 hrow hIr hW1o hbg hcr hmr
          go_wp2_with fail
          clear x0 x1 x2 x3 c0 y13
          go_loopg [51] row.length (fun g x wr => ∃ k : Nat, k + g = row.length ∧ x = .int .i64 k ∧ (∃ vi, wr.heap[w2.heap.size]? = some (.cells (cs0.setIfInBounds i vi) 22 (0, 0)) ∧ OwnI wr (wo.heap.size + 1) vi (ownsIn may mis i (row.take k))) ∧
            wo.grownBy wr (some w2.heap.size) ∧ wr.heap[wo.heap.size]? = some (Obj.cells #[Value.int .i64 (i : Int)] 3 (0, 0)))
          case atStart =>
            refine ⟨0, by omega, rfl, ⟨.slice none 0 0, ?_, ?_⟩, ?_, HB4.out.2⟩
            · rw [arr_same (HI.out.2.1.2.2.2 i (Nat.le_refl _) hlt)]
              exact bheap HI.out.2.1.1 HB4.out.1 (Nat.le_refl _)
            · exact Own.nil_
            · exact gb_below (World.grownBy.refl wo _) HB4.out.1
          case round =>
            obtain ⟨k, hk, rfl, ⟨vi, hvG, hvo⟩, hgr, h13⟩ := hrel
            have HK := Lib.hid (And.intro hk (And.intro hvG (And.intro hvo (And.intro hgr h13))))
            have hkl : k ≤ row.length := by omega
            have hsr2 := hgr.size
            clear hk hvG hvo hgr h13
            have hW3r : Below w2.heap.size W3 wr := HI.out.2.2.grown HK.out.2.2.2.1 (by omega) (fun k hk => by cases hk; exact Nat.le_refl _)
            have hW1r : Below W1.heap.size W1 wr := HO.out.2.trans (hW3r.mono hs2)
            by_cases hlk : k < row.length
            · have hIr : Ints wr Br row.length row := HR.out.2.1.below hW1r (Nat.le_refl _)
              obtain ⟨bb, ob, x, rfl, hbb, hx, c0⟩ := Ints.get hIr hlk
              have k0 : (0 : Int) ≤ (k : Int) := by omega
              have k1 : (k : Int) < (row.length : Int) := by omega
              have HX := Lib.hid (And.intro hx (And.intro hW1r hW3r))
              clear hx hbb hIr hW3r hW1r
              go_upto_region 14 with (fail)
              obtain ⟨Wk, hW⟩ : ∃ Wk, Wk = wr.alloc (Obj.cells #[Value.int .i64 x] 3) := ⟨_, rfl⟩
              rw [← hW]
              have hbk : Below wr.heap.size wr Wk := by rw [hW]; exact bal0 wr _
              have b15 : Wk.heap[wr.heap.size]? = some (Obj.cells #[Value.int .i64 x] 3 (0, 0)) := by rw [hW]; exact alloc_at rfl
              have hlk15 := heap_lt b15
              have hW1k := HX.out.2.1.trans (hbk.mono HX.out.2.1.size)
              have b13k := bheap HK.out.2.2.2.2 hbk (Nat.le_refl _)
              obtain ⟨x0, x1, x2, x3⟩ := blk4 (bheap HW1.out.1 hW1k (Nat.le_refl _))
              have HBK := Lib.hid (And.intro hbk (And.intro b15 (And.intro hW1k b13k)))
              clear hW c0 hbk b15 hW1k b13k
              go_wp2_with fail
              refine (homeG_any (may := may) (mis := mis) (left := 0) (lf := letB i x) Wk HKM.out.symm (HW1.out.2.1.below HBK.out.2.2.1 (Nat.le_refl _)) (HW1.out.2.2.1.below HBK.out.2.2.1 (Nat.le_refl _)) hk6 (by decide) HK0.out (fun _ _ => by kernel_rfl) ?_).mono ?_
              · intro W hW p o _ _ _
                refine (let_any p i o x wo.heap.size wr.heap.size W (bheap HBK.out.2.2.2 hW (Nat.le_refl _)) (bheap HBK.out.2.1 hW (Nat.le_refl _))).mono ?_
                rintro e w' ⟨h1, rfl⟩
                exact ⟨h1, Below.refl _ _⟩
              rintro e w5 ⟨hr, hb5⟩
              have hb5r := HBK.out.1.trans (hb5.mono (Nat.le_of_lt hlk15))
              have hr5 : ∃ v, e = Ending.returned (.tuple #[v, .bool (giveL may mis 0 (letB i x)).isSome]) := by
                unfold HomeRes at hr
                cases hg : giveL may mis 0 (letB i x) with
                | none => rw [hg] at hr; exact ⟨_, hr⟩
                | some r => rw [hg] at hr; obtain ⟨v, h1, _⟩ := hr; exact ⟨v, h1⟩
              obtain ⟨v5, rfl⟩ := hr5
              have b15' := bheap HBK.out.2.1 hb5 (Nat.le_refl _)
              have b13' := bheap HK.out.2.2.2.2 hb5r (Nat.le_refl _)
              have bG' := bheap HK.out.2.1 hb5r (Nat.le_refl _)
              have ho' := HK.out.2.2.1.below hb5r (Nat.le_refl _)
              have hg5 : wo.grownBy w5 (some w2.heap.size) := gb_below HK.out.2.2.2.1 hb5r
              have HN5 := Lib.hid (And.intro bG' (And.intro ho' (And.intro hg5 (And.intro b13' b15'))))
              obtain ⟨S, hS⟩ : ∃ S, S = (giveL may mis 0 (letB i x)).isSome := ⟨_, rfl⟩
              rw [← hS]
              have htk : ownsIn may mis i (row.take (k + 1)) = ownsIn may mis i (row.take k) ++ if S then [x] else [] := by
                rw [List.take_add_one, HX.out.1, hS]
                exact ownsIn_snoc
              have HTK := Lib.hid htk
              have hll : (ownsIn may mis i (row.take k)).length < 4294967296 := by
                have h1 : (ownsIn may mis i (row.take k)).length ≤ (row.take k).length := List.length_filter_le _ _
                have h2 := HK0.out row (List.mem_of_getElem? HR.out.1)
                rw [List.length_take] at h1
                omega
              have hs5 := hb5r.size
              clear hr hb5 hb5r b15' b13' bG' ho' hg5 hS htk x0 x1 x2 x3
              cases S
              · go_wp2
                go_roundg (gk - 1)
                case measure => have := HK.out.1; omega
                case rel =>
                  refine ⟨k + 1, by have := HK.out.1; omega, by go_num, ⟨vi, HN5.out.1, ?_⟩, HN5.out.2.2.1, HN5.out.2.2.2.1⟩
                  rw [HTK.out]
                  simpa using HN5.out.2.1
              · go_upto_region 16 with (fail)
                have y13 := blk1 HN5.out.2.2.2.1
                have y15 := blk1 HN5.out.2.2.2.2
                have him2 : i < cs0.size := by rw [HI.out.2.1.2.1]; exact hlt
                have yG : w5.cell? ⟨w2.heap.size, i, none⟩ = some vi := by
                  unfold World.cell?
                  simp [HN5.out.1, him2]
                have fG := frz HN5.out.1 i
                have hG5 := heap_lt HN5.out.1
                have hne : vi.ownBlock ≠ some w2.heap.size := fun h => by have := HN5.out.2.1.lt _ h; omega
                obtain ⟨LL, hLL⟩ : ∃ LL, LL = ownsIn may mis i (row.take k) := ⟨_, rfl⟩
                have hown5 : OwnI w5 (wo.heap.size + 1) vi LL := by rw [hLL]; exact HN5.out.2.1
                rw [← hLL] at hll
                have HLL := Lib.hid (And.intro hLL hown5)
                clear hLL hown5
                have g13 := heap_lt HN5.out.2.2.2.1
                have g15 := heap_lt HN5.out.2.2.2.2
                have hne13 : vi.ownBlock ≠ some wo.heap.size := fun h => by have := HN5.out.2.1.lt _ h; omega
                go_region_law (refine step_app okInt (by rfl) _ _ (by rfl) (wo.heap.size + 1) vi LL x #[Value.int .i64 x] w5.drew.heap.size (by rfl) (by rfl) (heap_alloc_new w5.drew _) rfl rfl (one_eInt _) ((Own.below HLL.out.2 (bdraw (Below.refl _ _)) (Nat.le_refl _)).alloc _) hll (by decide) (by simp; omega) ?_; intro g6 cap6 w6 hown6 hgr6 hb6; have h6G := (hgr6.block w2.heap.size (by simp; omega) (fun e => hne e.symm)).trans (hblk_alloc (w := w5.drew) HN5.out.1 _); have f6G := frz h6G i; have y613 := blk1 ((hgr6.block wo.heap.size (by simp; omega) (fun e => hne13 e.symm)).trans (hblk_alloc (w := w5.drew) HN5.out.2.2.2.1 _)); have c6G : w6.cell? ⟨w2.heap.size, i, none⟩ = some vi := (by unfold World.cell?; simp [h6G, him2]); have H6 := Lib.hid (And.intro hown6 hgr6); clear hown6 hgr6 hb6 h6G)
                all_goals
                  obtain ⟨n1, n2, n3, n4, n5⟩ := owners_next HN5.out.1 HLL.out.2 H6.out.2 H6.out.1 hGo rfl HN5.out.2.2.2.1 HN5.out.2.2.1
                  have HNN := Lib.hid (And.intro n1 (And.intro n2 (And.intro n3 n4)))
                  clear n1 n2 n3 n4 n5 f6G c6G y13 y15 yG fG y613
                  go_wp2
                  go_roundg (gk - 1)
                  case measure => have := HK.out.1; omega
                  case rel =>
                    refine ⟨k + 1, by have := HK.out.1; omega, by go_num, ⟨_, HNN.out.1, ?_⟩, HNN.out.2.2.1, HNN.out.2.2.2⟩
                    rw [HTK.out, ← HLL.out.1]
                    exact HNN.out.2.1
            · obtain rfl : k = row.length := by omega
              have HX := Lib.hid (And.intro hW3r hW1r)
              clear hW3r hW1r
              go_wp2
              go_roundg (g1 - 1)
              case measure => have := HI.out.1; omega
              case rel =>
                refine ⟨i + 1, by have := HI.out.1; omega, by go_num, ⟨cs0.setIfInBounds i vi, HK.out.2.1, ?_, ?_, ?_⟩, HX.out.1⟩
                · rw [Array.size_setIfInBounds]; exact HI.out.2.1.2.1
                · intro j hj
                  by_cases hji : j = i
                  · subst hji
                    refine ⟨vi, ?_, ?_⟩
                    · rw [Array.getElem?_setIfInBounds_self, if_pos (by rw [HI.out.2.1.2.1]; exact hlt)]
                    · have h1 := HK.out.2.2.1
                      rw [List.take_of_length_le (Nat.le_refl _)] at h1
                      have h2 : ownsRow may mis j = ownsIn may mis j row := by unfold ownsRow; rw [HR.out.1]; rfl
                      rw [h2]
                      exact h1.mono (by omega)
                  · obtain ⟨v, h1, h2⟩ := HI.out.2.1.2.2.1 j (by omega)
                    refine ⟨v, by rw [Array.getElem?_setIfInBounds_ne (by omega)]; exact h1, h2.kept HK.out.2.2.2.1 (.inr fun e => ?_)⟩
                    have := h2.lt _ e
                    omega
                · intro j hj hjm
                  rw [Array.getElem?_setIfInBounds_ne (by omega)]
                  exact HI.out.2.1.2.2.2 j (by omega) hjm
        · obtain rfl : i = m := by omega
          go_wp2
          go_ret2
          have hlen : (ownersG may mis).length = i := by unfold ownersG; simp [HKM.out]
          have hRR : ownersR t l ss mis = ownersG may mis := by unfold ownersR; rw [if_pos HE.out, HG.out.2.2.2]
          have hbw1 : w.heap.size ≤ w2.heap.size := Nat.le_trans HW1.out.2.2.2.size hs2
          refine ⟨_, ret_val HE.out.symm, ?_, HW1.out.2.2.2.trans ((HO.out.2.trans (HI.out.2.2.mono hs2)).mono HW1.out.2.2.2.size)⟩
          rw [hRR]
          obtain ⟨k1, k2, k3, k4⟩ := HI.out.2.1
          refine ⟨cs0.toList, ⟨?_, .inr ⟨w2.heap.size, i, cs0, ?_, hbw1, k1, ?_, ?_, ?_, ?_⟩⟩, ?_, ?_⟩
          · rw [lenFlatVal]; simp
          · simp [k2]
          · simp [k2]
          · unfold maxLen; omega
          · rw [k2]; omega
          · rw [List.take_of_length_le (by simp)]
            clear k1 k2 k3 k4
            induction cs0.toList with
            | nil => rfl
            | cons a r ih => rw [List.flatMap_cons, ← ih]; rfl
          · rw [hlen]; simpa using k2
          · intro j v hv
            have hj : j < i := by have := (List.getElem?_eq_some_iff.1 hv).1; simp [k2] at this; exact this
            obtain ⟨v', h1, h2⟩ := k3 j hj
            rw [Array.getElem?_toList, h1] at hv
            cases hv
            refine ⟨ownsRow may mis j, ?_, h2.mono (by omega)⟩
            unfold ownersG
            rw [List.getElem?_map, List.getElem?_range (by rw [HKM.out]; exact hj)]
            rfl
  · have hg : e = Ending.returned (.tuple #[.agg #[.int .i64 0, .slice none 0 0, .slice none 0 0, .slice none 0 0], .int .i64 (gatherE t l ss mis)]) := by
      unfold GatherRes at hr
      rwa [if_neg hge] at hr
    subst hg
    have h0 : (gatherE t l ss mis != 0) = true := by simp [hge]
    have HE := Lib.hid (show homeE t l ss mis = gatherE t l ss mis by unfold homeE; rw [if_pos hge])
    have HGE := Lib.hid hge
    clear hr hge
    go_wp2
    go_ret2
    exact ⟨.slice none 0 0, ret_val HE.out.symm, by unfold ownersR; rw [if_neg (by rw [HE.out]; exact HGE.out)]; exact OwnG.nil_, bal hB1 (Nat.le_refl _) _⟩
end Go.Proofs.Ytmennjmjakdkcaa
namespace Go.Proofs.Ytmennjmjakdkcaa
set_option linter.unusedVariables false
set_option linter.unusedSimpArgs false

def goodR (may : List (List Int)) (mis : List Int) (lf : Nat → Int → Bool) (L : Nat) : Nat → Cn → List Int → Bool
  | 0, _, _ => true
  | n + 1, c, [] => false
  | n + 1, c, o :: r => ((may.getD (L - (n + 1)) []).contains o && (decide (c.at o.toNat < mis.getD o.toNat 0) && lf (L - (n + 1)) o)) && goodR may mis lf L n (c.up o.toNat) r
theorem findSome_filter {α β : Type} (p : α → Bool) (h : α → Option β) : ∀ l : List α, (l.filter p).findSome? h = l.findSome? fun i => if p i then h i else none
  | [] => rfl
  | a :: l => by
    by_cases hp : p a = true
    · rw [List.filter_cons_of_pos hp, List.findSome?_cons, List.findSome?_cons, if_pos hp, findSome_filter p h l]
    · rw [List.filter_cons_of_neg hp, List.findSome?_cons, if_neg hp, findSome_filter p h l]
theorem findSome_map {α β γ : Type} (f : α → γ) (h : γ → Option β) : ∀ l : List α, (l.map f).findSome? h = l.findSome? fun i => h (f i)
  | [] => rfl
  | a :: l => by rw [List.map_cons, List.findSome?_cons, List.findSome?_cons, findSome_map f h l]
theorem find_flat {α β : Type} (f : α → List β) (p : β → Bool) : ∀ l : List α, (l.flatMap f).find? p = l.findSome? fun i => (f i).find? p
  | [] => rfl
  | a :: l => by
    rw [List.flatMap_cons, List.find?_append, List.findSome?_cons, find_flat f p l]
    cases (f a).find? p <;> rfl
theorem findSome_congr {α β : Type} {f g : α → Option β} : ∀ {l : List α}, (∀ a ∈ l, f a = g a) → l.findSome? f = l.findSome? g
  | [], _ => rfl
  | a :: l, h => by rw [List.findSome?_cons, List.findSome?_cons, h a (by simp), findSome_congr fun b hb => h b (by simp [hb])]
theorem find_map' {α β : Type} (f : α → β) (p : β → Bool) : ∀ l : List α, (l.map f).find? p = (l.find? fun a => p (f a)).map f
  | [] => rfl
  | a :: l => by
    rw [List.map_cons, List.find?_cons, List.find?_cons, find_map' f p l]
    cases p (f a) <;> rfl
theorem find_congr {α : Type} {p q : α → Bool} : ∀ {l : List α}, (∀ a ∈ l, p a = q a) → l.find? p = l.find? q
  | [], _ => rfl
  | a :: l, h => by rw [List.find?_cons, List.find?_cons, h a (by simp), find_congr fun b hb => h b (by simp [hb])]
theorem find_false {α : Type} (l : List α) : l.find? (fun _ => false) = none := by
  rw [List.find?_eq_none]; intro a _ h; cases h
theorem rest_find {b N L : Nat} {may : List (List Int)} {mis : List Int} {lf : Nat → Int → Bool} (hrow : ∀ k, ∃ p : Nat → Bool, may.getD k [] = ((List.range N).filter p).map Int.ofNat) :
    ∀ n c, Srch.rest ⟨b, L, may, mis, 0, lf⟩ n c = (wordsL N n).find? (goodR may mis lf L n c)
  | 0, c => rfl
  | n + 1, c => by
    unfold Srch.rest wordsL
    rw [if_neg (by simp), find_flat]
    obtain ⟨p, hp⟩ := hrow (L - (n + 1))
    dsimp only
    rw [hp, findSome_map, findSome_filter]
    refine findSome_congr fun i hi => ?_
    rw [find_map']
    have hc : (may.getD (L - (n + 1)) []).contains (Int.ofNat i) = p i := by
      rw [hp, Bool.eq_iff_iff, List.contains_eq_mem, decide_eq_true_eq, List.mem_map]
      constructor
      · rintro ⟨a, ha, he⟩
        have : a = i := by injection he
        subst this
        exact (List.mem_filter.1 ha).2
      · intro h
        exact ⟨i, List.mem_filter.2 ⟨hi, h⟩, rfl⟩
    have hg : ∀ r, goodR may mis lf L (n + 1) c ((i : Int) :: r) = ((p i && (decide (c.at i < mis.getD i 0) && lf (L - (n + 1)) i)) && goodR may mis lf L n (c.up i) r) := by
      intro r
      show (((may.getD (L - (n + 1)) []).contains (i : Int) && _) && _) = _
      rw [show (may.getD (L - (n + 1)) []).contains (i : Int) = p i from hc]
      rfl
    simp only [hg]
    rw [rest_find hrow n]
    cases hpi : p i
    · simp only [Bool.false_and, find_false]; rfl
    · simp only [Bool.true_and, if_true]
      show (if (decide (c.at i < mis.getD i 0) && lf (L - (n + 1)) (i : Int)) = true then _ else none) = _
      cases hq : (decide (c.at i < mis.getD i 0) && lf (L - (n + 1)) (i : Int))
      · simp only [Bool.false_and, find_false]; rfl
      · simp only [Bool.true_and, if_true]; rfl
theorem cntI_cons (y : Int) (x : List Int) (o : Int) : cntI (y :: x) o = cntI x o + if y = o then 1 else 0 := by
  unfold cntI
  rw [List.countP_cons]
  by_cases h : y = o <;> simp [h]
theorem cntI_zero {x : List Int} {o : Int} (h : o ∉ x) : cntI x o = 0 := by
  unfold cntI
  rw [List.countP_eq_zero]
  intro a ha he
  simp at he
  subst he
  exact h ha
/-- what a good rest is -/
theorem good_iff {N L : Nat} {may : List (List Int)} {mis : List Int} {lf : Nat → Int → Bool} (hN : N ≤ 5) : ∀ (n : Nat) (c : Cn) (r : List Int), n ≤ L → r ∈ wordsL N n →
    (goodR may mis lf L n c r = true ↔ (∀ (j : Nat) (o : Int), r[j]? = some o → o ∈ may.getD (L - n + j) [] ∧ lf (L - n + j) o = true) ∧ ∀ o : Nat, (o : Int) ∈ r → c.at o + (cntI r o : Int) ≤ mis.getD o 0)
  | 0, c, r, _, hr => by
    simp [wordsL] at hr
    subst hr
    simp [goodR]
  | n + 1, c, r, hn, hr => by
    obtain ⟨i, hi, h2⟩ := List.mem_flatMap.1 hr
    obtain ⟨q, hq, rfl⟩ := List.mem_map.1 h2
    have hi5 : i < 5 := by have := List.mem_range.1 hi; omega
    have hqm := (wordsL_mem hq).2
    have ih := good_iff (L := L) (may := may) (mis := mis) (lf := lf) hN n (c.up i) q (by omega) hq
    show (((may.getD (L - (n + 1)) []).contains (i : Int) && (decide (c.at i < mis.getD i 0) && lf (L - (n + 1)) i)) && goodR may mis lf L n (c.up i) q) = true ↔ _
    rw [Bool.and_eq_true, Bool.and_eq_true, Bool.and_eq_true, ih, List.contains_eq_mem, decide_eq_true_eq, decide_eq_true_eq]
    constructor
    · rintro ⟨⟨h1, h2, h3⟩, h4, h5⟩
      refine ⟨fun j o hj => ?_, fun o ho => ?_⟩
      · cases j with
        | zero => simp at hj; subst hj; exact ⟨h1, h3⟩
        | succ j =>
          have := h4 j o (by simpa using hj)
          rw [show L - (n + 1) + (j + 1) = L - n + j by omega]
          exact this
      · rw [cntI_cons]
        by_cases ho2 : (o : Int) ∈ q
        · have h6 := h5 o ho2
          have ho5 : o < 5 := by have := (hqm o ho2).2; omega
          rw [Cn.up_at c hi5 ho5] at h6
          by_cases hoi : o = i
          · subst hoi; rw [if_pos rfl] at h6; rw [if_pos rfl]; omega
          · rw [if_neg hoi] at h6; rw [if_neg (by omega)]; omega
        · rw [cntI_zero ho2]
          have hoi : (o : Int) = (i : Int) := by
            rcases List.mem_cons.1 ho with h | h
            · exact h
            · exact absurd h ho2
          have : o = i := by omega
          subst this
          rw [if_pos rfl]
          omega
    · rintro ⟨h1, h2⟩
      have h0 := h1 0 i rfl
      have h3 := h2 i (by simp)
      rw [cntI_cons, if_pos rfl] at h3
      refine ⟨⟨h0.1, by omega, h0.2⟩, fun j o hj => ?_, fun o ho => ?_⟩
      · have := h1 (j + 1) o (by simpa using hj)
        rw [show L - (n + 1) + (j + 1) = L - n + j by omega] at this
        exact this
      · have h6 := h2 o (by simp [ho])
        have ho5 : o < 5 := by have := (hqm o ho).2; omega
        rw [Cn.up_at c hi5 ho5]
        rw [cntI_cons] at h6
        by_cases hoi : o = i
        · subst hoi; rw [if_pos rfl] at h6 ⊢; omega
        · rw [if_neg hoi]; rw [if_neg (by omega)] at h6; omega
theorem mays_getD {t : Int} {l : List Mk} {ss : List Sg} {k : Nat} {s : Sg} (hs : ss[k]? = some s) : (mays t l ss).getD k [] = mayL t l s := by
  unfold mays
  rw [List.getD_eq_getElem?_getD, List.getElem?_map, hs]
  rfl
/-- the search finds the first list that is a giving and is let -/
theorem give_find {t : Int} {l : List Mk} {ss : List Sg} {mis : List Int} (hn5 : l.length ≤ 5) (hmis : ∀ x ∈ mis, 0 ≤ x) (lf : Nat → Int → Bool) :
    giveL (mays t l ss) mis 0 lf = (wordsL l.length ss.length).find? fun x => givesB t l ss mis x && (List.range ss.length).all fun p => lf p (x.getD p 0) := by
  have hL : (mays t l ss).length = ss.length := by unfold mays; simp
  unfold giveL Srch.all
  dsimp only
  rw [rest_find (N := l.length), hL]
  · refine find_congr fun x hx => ?_
    obtain ⟨hxl, hxv⟩ := wordsL_mem hx
    rw [Bool.eq_iff_iff, good_iff hn5 ss.length _ x (Nat.le_refl _) hx]
    unfold givesB
    simp only [Bool.and_eq_true, List.all_eq_true, List.mem_range, decide_eq_true_eq, hxl, Nat.sub_self, Nat.zero_add]
    have hat : ∀ o : Nat, (⟨0, 0, 0, 0, 0, 0⟩ : Cn).at o = 0 := fun o => by unfold Cn.at; split <;> rfl
    simp only [hat, Int.zero_add]
    have hfit : ∀ (j : Nat) (o : Int), x[j]? = some o → (o ∈ (mays t l ss).getD j [] ↔ fitAt t l ss x j = true) := by
      intro j o hj
      have hjl : j < ss.length := by have := (List.getElem?_eq_some_iff.1 hj).1; omega
      have hs := List.getElem?_eq_getElem hjl
      obtain ⟨h0, h1⟩ := hxv o (List.mem_of_getElem? hj)
      obtain ⟨on, rfl⟩ := Int.eq_ofNat_of_zero_le h0
      have hon : on < l.length := by omega
      have hm := List.getElem?_eq_getElem hon
      rw [mays_getD hs, mayL_iff hm]
      unfold fitAt mkAt
      rw [List.getD_eq_getElem?_getD, hj, List.getD_eq_getElem?_getD, hs]
      have hd : decide ((on : Int) < 0) = false := decide_eq_false (by omega)
      simp only [Option.getD_some, hd, Bool.false_or]
      simp [hm]
    constructor
    · rintro ⟨h1, h2⟩
      refine ⟨⟨fun o ho => ?_, fun j hj => ?_⟩, fun p hp => ?_⟩
      · by_cases hm : (o : Int) ∈ x
        · exact h2 o hm
        · rw [cntI_zero hm, List.getD_eq_getElem?_getD]
          cases hmo : mis[o]? with
          | none => simp
          | some z => have := hmis z (List.mem_of_getElem? hmo); simpa using this
      · have hj' := List.getElem?_eq_getElem (show j < x.length by omega)
        exact (hfit j _ hj').1 (h1 j _ hj').1
      · have hj' := List.getElem?_eq_getElem (show p < x.length by omega)
        rw [List.getD_eq_getElem?_getD, hj']
        exact (h1 p _ hj').2
    · rintro ⟨⟨h1, h2⟩, h3⟩
      refine ⟨fun j o hj => ⟨(hfit j o hj).2 (h2 j (by have := (List.getElem?_eq_some_iff.1 hj).1; omega)), ?_⟩, fun o ho => h1 o (by have := (hxv o ho).2; omega)⟩
      have := h3 j (by have := (List.getElem?_eq_some_iff.1 hj).1; omega)
      rwa [List.getD_eq_getElem?_getD, hj] at this
  · intro k
    cases hs : ss[k]? with
    | none =>
      refine ⟨fun _ => false, ?_⟩
      unfold mays
      rw [List.getD_eq_getElem?_getD, List.getElem?_map, hs, List.filter_eq_nil_iff.2 (by simp)]
      rfl
    | some s => exact ⟨_, mays_getD hs⟩
end Go.Proofs.Ytmennjmjakdkcaa

namespace Go.Proofs.Ytmennjmjakdkcaa
set_option linter.unusedVariables false
set_option linter.unusedSimpArgs false

/-- the place of the first giving among the first i, -1 if there is none -/
def FirstIs (p : List Int → Bool) (all : List (List Int)) (i : Nat) (f : Int) : Prop :=
  (f = -1 ∧ ∀ (j : Nat) x, j < i → all[j]? = some x → p x = false) ∨ ∃ j : Nat, f = j ∧ j < i ∧ ∃ x, all[j]? = some x ∧ p x = true ∧ ∀ (j' : Nat) x', j' < j → all[j']? = some x' → p x' = false
theorem FirstIs.zero {p : List Int → Bool} {all : List (List Int)} : FirstIs p all 0 (-1) := .inl ⟨rfl, fun j x h => by omega⟩
theorem FirstIs.no {p : List Int → Bool} {all : List (List Int)} {i : Nat} {f : Int} {x : List Int} (h : FirstIs p all i f) (hx : all[i]? = some x) (hp : p x = false) : FirstIs p all (i + 1) f := by
  rcases h with ⟨h1, h2⟩ | ⟨j, h1, h2, h3⟩
  · refine .inl ⟨h1, fun j y hj hy => ?_⟩
    by_cases hji : j = i
    · subst hji; rw [hx] at hy; cases hy; exact hp
    · exact h2 j y (by omega) hy
  · exact .inr ⟨j, h1, by omega, h3⟩
theorem FirstIs.more {p : List Int → Bool} {all : List (List Int)} {i : Nat} {f : Int} (h : FirstIs p all i f) (hf : 0 ≤ f) : FirstIs p all (i + 1) f := by
  rcases h with ⟨h1, h2⟩ | ⟨j, h1, h2, h3⟩
  · omega
  · exact .inr ⟨j, h1, by omega, h3⟩
theorem FirstIs.lo {p : List Int → Bool} {all : List (List Int)} {i : Nat} {f : Int} (h : FirstIs p all i f) : f = -1 ∨ 0 ≤ f ∧ f < i := by
  rcases h with ⟨h1, h2⟩ | ⟨j, h1, h2, h3⟩ <;> omega

/-- some giving among the first i has the owner o for the stray k -/
def hasB (p : List Int → Bool) (all : List (List Int)) (i k o : Nat) : Bool := (all.take i).any fun x => p x && decide (x.getD k 0 = (o : Int))
section
variable {t : Int} {l : List Mk} {ss : List Sg} {mis : List Int} (hn5 : l.length ≤ 5) (hmis : ∀ x ∈ mis, 0 ≤ x)
/-- all lists -/
def allW (l : List Mk) (ss : List Sg) : List (List Int) := wordsL l.length ss.length
include hn5 hmis in
theorem give_all : giveL (mays t l ss) mis 0 (fun _ _ => true) = (allW l ss).find? (givesB t l ss mis) := by
  rw [give_find hn5 hmis]
  refine find_congr fun x _ => ?_
  rw [List.all_eq_true.2 (fun _ _ => rfl), Bool.and_true]
include hn5 hmis in
theorem owns_all {k : Nat} (hk : k < ss.length) : ownsRow (mays t l ss) mis k = ((List.range l.length).filter (hasB (givesB t l ss mis) (allW l ss) (allW l ss).length k)).map Int.ofNat := by
  have hs := List.getElem?_eq_getElem hk
  have hrow : ((mays t l ss)[k]?).getD [] = mayL t l ss[k] := by
    have := mays_getD (t := t) (l := l) hs
    rwa [List.getD_eq_getElem?_getD] at this
  unfold ownsRow ownsIn
  rw [hrow]
  unfold mayL mayTo
  rw [List.filter_map, List.filter_filter]
  congr 1
  refine List.filter_congr fun o ho => ?_
  have ho' := List.mem_range.1 ho
  have hm := List.getElem?_eq_getElem ho'
  show ((giveL (mays t l ss) mis 0 (letB k (o : Int))).isSome && _) = _
  rw [give_find hn5 hmis, hm, Bool.eq_iff_iff]
  unfold hasB
  rw [List.take_of_length_le (Nat.le_refl _), List.any_eq_true, Bool.and_eq_true, List.find?_isSome]
  constructor
  · rintro ⟨⟨x, hx, hp⟩, hf⟩
    rw [Bool.and_eq_true, List.all_eq_true] at hp
    refine ⟨x, hx, ?_⟩
    rw [Bool.and_eq_true, decide_eq_true_eq]
    refine ⟨hp.1, ?_⟩
    have := hp.2 k (List.mem_range.2 hk)
    unfold letB at this
    simpa using this
  · rintro ⟨x, hx, hp⟩
    rw [Bool.and_eq_true, decide_eq_true_eq] at hp
    refine ⟨⟨x, hx, ?_⟩, ?_⟩
    · rw [Bool.and_eq_true, List.all_eq_true]
      refine ⟨hp.1, fun p _ => ?_⟩
      unfold letB
      by_cases hpk : p = k
      · subst hpk; simp only [hp.2, decide_true, Bool.or_true]
      · simp [hpk]
    · have hg := hp.1
      unfold givesB at hg
      rw [Bool.and_eq_true] at hg
      have hxl := (wordsL_mem hx).1
      have h := List.all_eq_true.1 hg.2 k (List.mem_range.2 (by omega))
      unfold fitAt mkAt at h
      rw [hp.2] at h
      have hd : decide ((o : Int) < 0) = false := decide_eq_false (by omega)
      rw [hd, Bool.false_or, List.getD_eq_getElem?_getD, hs] at h
      simp only [Option.getD_some, Int.toNat_natCast, hm] at h
      simpa using h
end
end Go.Proofs.Ytmennjmjakdkcaa
