/- TopFold 26: TyW, Frame. -/
import Derived.Test.YtgnjknihgjdedaaTf22
import Derived.Test.YtgnjknihgjdedaaTf23
import Derived.Test.YtgnjknihgjdedaaTf25
import Derived.Deep.CutBlock
import Derived.Test.YtgnjknihgjdedaaTf01
import Derived.OpenShut
namespace Go.Proofs.Ytgnjknihgjdedaa
open Go.RowKit
set_option linter.unusedVariables false
set_option linter.unusedSimpArgs false
theorem tru_ok {T : Ty} {ns : Nat → Int} (hk : TyOk T) (h : TrueN T ns) : TyT T ∧ LsOk T T.outs := by
  have hg := hk.g
  have hl := outs_len T
  refine ⟨fun g hg => has_emp (h.now hk hg), ⟨by rw [hl]; omega, fun s hs => ?_⟩⟩
  obtain ⟨i, hi⟩ := List.getElem?_of_mem hs
  have hil := (List.getElem?_eq_some_iff.1 hi).1
  have h1 := h.outs hk (g := i) (by omega)
  rw [List.getD_eq_getElem?_getD, hi] at h1
  have h2 := outs_bd hk s hs
  unfold Sp.has at h1
  dsimp only [Option.getD_some] at h1
  omega
theorem tyIn_own {w : World} {b b' : Nat} {T : Ty} {p : Tp} (h1 : Own eSp 26 2 w b (.slice p.A T.ch.length p.c) T.ch) (h2 : Own eCt 76 4 w b' (.slice p.B T.cs.length p.d) T.cs) : TyIn w T p := by
  obtain ⟨a1, a2, a3⟩ := h1.sl lenSp
  obtain ⟨b1, b2, b3⟩ := h2.sl lenCt
  exact ⟨a1, a2, a3, b1, b2, b3⟩
theorem sum_geF {l : List Int} (h : ∀ x ∈ l, 0 ≤ x) : 0 ≤ l.sum := by
  induction l with
  | nil => exact Int.le_refl _
  | cons a l ih =>
    have h1 := h a List.mem_cons_self
    have h2 := ih fun x hx => h x (List.mem_cons_of_mem _ hx)
    simp only [List.sum_cons]; omega
theorem sum_set0 {l : List Int} {x : Int} (h : ∀ y ∈ l, 0 ≤ y) (hl : 0 < l.length) : x ≤ (l.set 0 x).sum := by
  cases l with
  | nil => simp at hl
  | cons a l =>
    have := sum_geF (l := l) fun y hy => h y (List.mem_cons_of_mem _ hy)
    simp only [List.set_cons_zero, List.sum_cons]; omega
theorem check_oneF {t : Int} {mk : Mk} (h : check t [] = 0) (hm : mkOk mk = true) : check t [mk] = 0 := by
  unfold check at h ⊢
  split at h
  · cases h
  · rename_i h1
    rw [if_neg h1, if_neg (by simp)]
    simp [chk, hm]
theorem mem_leF {l : List Int} (h : ∀ x ∈ l, 0 ≤ x) : ∀ z ∈ l, z ≤ l.sum := by
  induction l with
  | nil => intro z hz; cases hz
  | cons a l ih =>
    intro z hz
    have h3 := sum_geF (l := l) fun y hy => h y (List.mem_cons_of_mem _ hy)
    have h4 := h a List.mem_cons_self
    simp only [List.sum_cons]
    rcases List.mem_cons.1 hz with h5 | h5
    · omega
    · have := ih (fun y hy => h y (List.mem_cons_of_mem _ hy)) z h5
      omega
theorem gather_found {t : Int} {l : List Mk} {ss : List Sg} {S : List Int} (hc : check t l = 0) (h6 : ss.length ≤ 6) (hs : ∀ s ∈ ss, seen s 9 6 = 0) (hS : S.length = l.length) (hv : ∀ y ∈ S, 0 ≤ y ∧ y ≤ 5) : gatherE t l ss S = 0 := by
  have h2 : sightsE ss = 0 := sightsE_ok.2 hs
  unfold gatherE
  rw [if_neg (by rw [hc]; omega), if_neg (by omega), if_neg (by rw [h2]; omega), if_neg (by omega), if_neg (by omega), if_pos]
  rw [List.all_eq_true]
  intro x hx
  have := hv x hx
  rw [btw_iff]
  omega
theorem up_len {L : List Int} {n : Nat} (h : L.Perm (upI n)) : L.length = n := by rw [h.length_eq, upI_len]
theorem up_mem {L : List Int} {n : Nat} (h : L.Perm (upI n)) : ∀ y ∈ L, 0 ≤ y ∧ y < n := fun y hy => by
  have hm : y ∈ upI n := h.mem_iff.1 hy
  simp only [upI, List.mem_map, List.mem_range] at hm
  obtain ⟨a, ha, rfl⟩ := hm
  exact ⟨Int.natCast_nonneg a, Int.ofNat_lt.2 ha⟩
theorem fit_seen {t : Int} {l : List Mk} {ss : List Sg} {os : List Int} (h : FitL t l ss os) (hl : ss.length = os.length) : ∀ s ∈ ss, seen s 9 6 = 0 := fun s hs => by
  obtain ⟨k, hk⟩ := List.getElem?_of_mem hs
  have hkl := (List.getElem?_eq_some_iff.1 hk).1
  exact (h k s _ hk (List.getElem?_eq_getElem (show k < os.length by omega))).1
theorem found_len {t : Int} {l : List Mk} {ss : List Sg} {os S : List Int} (h : FitL t l ss os) (hsl : ss.length = os.length) (hml : S.length = l.length) (hcn : ∀ o : Nat, o < l.length → (cntI os (o : Int) : Int) = S.getD o 0) : S.sum = (ss.length : Int) := by
  have hval : ∀ y ∈ os, 0 ≤ y ∧ y < l.length := fun y hy => by
    obtain ⟨k, hk⟩ := List.getElem?_of_mem hy
    have hkl := (List.getElem?_eq_some_iff.1 hk).1
    obtain ⟨_, on, m, rfl, hm, _⟩ := h k _ y (List.getElem?_eq_getElem (show k < ss.length by omega)) hk
    have := (List.getElem?_eq_some_iff.1 hm).1
    omega
  rw [← mis_sumN hml, hsl, ← cnt_sumN hval]
  refine Int.le_antisymm (sumN_le fun o ho => ?_) (sumN_le fun o ho => ?_)
  · rw [hcn o ho]; exact Int.le_refl _
  · rw [hcn o ho]; exact Int.le_refl _
set_option maxRecDepth 1000000 in
set_option maxHeartbeats 16000000 in
theorem TopFold_any (A : Option Addr) (n c : Nat) (nums : List Int) (w : World) (hl : Ints w A n nums) (hn : n ≤ 9223372036854775807) :
    Calls Try.prog 3 #[.slice A n c] w fun e w' => e = .returned (.bool true) ∧ Below w.heap.size w w' := by
  obtain ⟨R, hR⟩ : ∃ R, R = (fun (e : Ending) (w' : World) => e = .returned (.bool true) ∧ Below w.heap.size w w') := ⟨_, rfl⟩
  show Calls _ _ _ _ (fun e w' => (fun (e : Ending) (w' : World) => e = .returned (.bool true) ∧ Below w.heap.size w w') e w')
  rw [← hR]
  have HR := Lib.hid hR
  clear hR
  go_enter Try.func3, Try.ntmps3
  go_wp2_with fail
  refine (newHand_any A n c nums _ hl hn).mono ?_
  rintro e w1 ⟨rfl, hh, hb1, hz1⟩
  have HB1 := Lib.hid (And.intro hb1 hz1)
  clear hl hb1 hz1
  go_wp2_with fail
  refine (truthOf_any w.heap.size 0 4 5 _ hh (by omega) (by omega) (by omega)).mono ?_
  rintro e w2 ⟨T, p, vN, vL, ns, ls, rfl, hk, htr, hg4, -, hoC, hoK, hd2⟩
  obtain ⟨ht, hL⟩ := tru_ok hk htr
  have hi2 := tyIn_own hoC hoK
  have hg1 := hk.g.1
  have HT := Lib.hid (And.intro hk (And.intro ht (And.intro hL (And.intro hi2 hd2))))
  clear hk htr hoC hoK hi2 ht hL hd2 hh
  go_upto_region 3 with (fail)
  obtain ⟨W2, hW2⟩ : ∃ W, W = w2.alloc (tyO T p) := ⟨_, rfl⟩
  obtain ⟨q, hq⟩ : ∃ q, q = w2.heap.size := ⟨_, rfl⟩
  have bq2 : W2.heap[q]? = some (tyO T p) := by rw [hW2, hq]; exact alloc_at rfl
  have hi2 : TyIn W2 T p := by rw [hW2]; exact HT.out.2.2.2.1.below (bal0 w2 _) (Nat.le_refl _)
  have hd2 : Dealt w1 W2 w.heap.size 200 := by rw [hW2]; exact (HT.out.2.2.2.2.mono (by omega)).alloc _
  have hqH : w.heap.size < q := by have := HT.out.2.2.2.2.hd.lt; omega
  have hqw : w1.heap.size ≤ q := by have := HT.out.2.2.2.2.size; omega
  rw [← hW2, ← hq]
  have HT2 := Lib.hid (And.intro bq2 (And.intro hi2 hd2))
  have HK := Lib.hid (And.intro HT.out.1 (And.intro HT.out.2.1 HT.out.2.2.1))
  obtain ⟨c0, c1, c2, c3, c4, c5⟩ := blk6 bq2
  have hql := heap_lt bq2
  clear hW2 hq bq2 hi2 hd2 HT
  by_cases hone : T.g = 1
  · have hgb : (T.g == 1) = true := beq_iff_eq.2 hone
    have HO := Lib.hid hone
    clear hone
    go_wp2_with fail
    refine (foldAwake_any _).mono ?_
    rintro e w3 ⟨rfl, hb3⟩
    have HF := Lib.hid (show Below w.heap.size w w3 from (HB1.out.1.trans (HT2.out.2.2.below (Nat.le_refl _) HB1.out.1.size)).trans (hb3.mono (by have := HT2.out.2.2.size; have := HB1.out.1.size; omega)))
    clear hb3
    go_wp2_with fail
    rw [HR.out]
    exact ⟨rfl, HF.out⟩
  · have hgb : (T.g == 1) = false := beq_eq_false_iff_ne.2 hone
    obtain ⟨b, hb⟩ := Int.eq_ofNat_of_zero_le (show 0 ≤ T.g - 1 by omega)
    have hb0 : 0 < b := by omega
    have hbT : (b : Int) < T.g := by omega
    obtain ⟨X, hX⟩ : ∃ X, X = lostF T T.outs 0 b := ⟨_, rfl⟩
    have hX0 : 0 ≤ X.lo := by rw [hX]; exact lostF_lo HK.out.1 _ (by omega)
    have hlo := fun (W : World) (hi : TyIn W T p) => tLost_any T p 0 b W HK.out.1 hi HK.out.2.1 HK.out.2.2 hb0 hbT
    rw [← hb, ← hX] at hlo
    have HXX := Lib.hid (And.intro hX hb)
    clear hX hb hone
    go_wp2_with fail
    refine (hlo _ HT2.out.2.1).mono ?_
    rintro e w3 ⟨rfl, hb3⟩
    have bq3 := bheap HT2.out.1 hb3 (Nat.le_refl _)
    have hi3 := HT2.out.2.1.below hb3 (Nat.le_refl _)
    have hd3 := HT2.out.2.2.less hb3 (Nat.le_refl _)
    clear hlo hb3 c0 c1 c2 c3 c4 c5 hql
    obtain ⟨c0, c1, c2, c3, c4, c5⟩ := blk6 bq3
    have hql := heap_lt bq3
    obtain ⟨W3, hW3⟩ : ∃ W, W = w3.alloc (.cells #[.int .i64 X.lo, .int .i64 X.hi] 26 (0, 0)) := ⟨_, rfl⟩
    obtain ⟨r, hr⟩ : ∃ r, r = w3.heap.size := ⟨_, rfl⟩
    have br3 : W3.heap[r]? = some (.cells #[.int .i64 X.lo, .int .i64 X.hi] 26 (0, 0)) := by rw [hW3, hr]; exact alloc_at rfl
    have HT3 := Lib.hid (show W3.heap[q]? = some (tyO T p) ∧ W3.heap[r]? = some (.cells #[.int .i64 X.lo, .int .i64 X.hi] 26 (0, 0)) ∧ TyIn W3 T p ∧ Dealt w1 W3 w.heap.size 200 ∧ q < r from by
      rw [hW3] at br3 ⊢
      exact ⟨hblk_alloc bq3 _, br3, hi3.below (bal0 w3 _) (Nat.le_refl _), hd3.alloc _, by rw [hr]; exact hql⟩)
    clear bq3 hi3 hd3 br3
    go_upto_region 6 with (fail)
    rw [← hr, ← hW3]
    clear hr hW3 c0 c1 c2 c3 c4 c5 hql
    obtain ⟨c0, c1, c2, c3, c4, c5⟩ := blk6 HT3.out.1
    obtain ⟨r0, r1⟩ := blk2 HT3.out.2.1
    have hql := heap_lt HT3.out.1
    have hrl := heap_lt HT3.out.2.1
    obtain ⟨loss, hloss⟩ := Int.eq_ofNat_of_zero_le (show 0 ≤ min X.lo 5 by omega)
    go_upto_region 8 with (fail)
    go_cut [9] from 60 to 62 (fun v9 wx => v9 = .int .i64 (loss : Int) ∧ W3 = wx)
    case first =>
      go_wp2_with fail
      all_goals
        go_meet
        exact ⟨by first | rfl | (congr 1; omega), rfl⟩
    case rest =>
      obtain ⟨rfl, rfl⟩ := hcut
      have hl5 : loss ≤ 5 := by omega
      have hsl : (loss : Int) ≤ (lostF T T.outs 0 (T.g - 1).toNat).lo := by
        rw [HXX.out.2, Int.toNat_natCast, ← HXX.out.1]; omega
      have hsi := tSince_any T p (loss : Int) W3 HK.out.1 HT3.out.2.2.1 HK.out.2.1 HK.out.2.2 (by omega) hsl
      clear hloss hsl r0 r1 hrl
      go_wp2_with fail
      refine hsi.mono ?_
      rintro e w4 ⟨⟨g0, rfl, hg0⟩, hb4⟩
      have bq4 := bheap HT3.out.1 hb4 (Nat.le_refl _)
      have HD4 := Lib.hid (HT3.out.2.2.2.1.less hb4 (Nat.le_refl _))
      have hgn : ¬ T.g ≤ (g0 : Int) := by omega
      clear hb4 hsi c0 c1 c2 c3 c4 c5 hql
      obtain ⟨c0, c1, c2, c3, c4, c5⟩ := blk6 bq4
      have hql := heap_lt bq4
      clear bq4
      go_wp2_with fail
      refine (registerOf_any w.heap.size 200 4 _ HD4.out.hd (by omega) (by omega)).mono ?_
      rintro e w5 ⟨t, l, A1, cA, rfl, hck, hl4, hown, hms, hlc, hcm, hd5⟩
      obtain ⟨ht0, ht2, _, _⟩ := check_ok hck
      obtain ⟨tn, rfl⟩ := Int.eq_ofNat_of_zero_le ht0
      have HCK := Lib.hid (And.intro hck (And.intro hown (And.intro hms (HD4.out.trans hd5))))
      have hs5 := hd5.size
      have hH4 := HD4.out.hd.lt
      clear hck hown hms hd5 c0 c1 c2 c3 c4 c5 hql HT2 HT3 hg0 hgn
      obtain ⟨W5, hW5⟩ : ∃ W, W = w5.alloc (.cells #[.int .i64 (tn : Int), .slice A1 l.length cA] 41 (0, 0)) := ⟨_, rfl⟩
      obtain ⟨x, hx⟩ : ∃ x, x = w5.heap.size := ⟨_, rfl⟩
      have bx5 : W5.heap[x]? = some (.cells #[.int .i64 (tn : Int), .slice A1 l.length cA] 41 (0, 0)) := by rw [hW5, hx]; exact alloc_at rfl
      have HX5 := Lib.hid (show check tn l = 0 ∧ OwnM W5 w4.heap.size (.slice A1 l.length cA) l ∧ W5.heap[x]? = some (.cells #[.int .i64 (tn : Int), .slice A1 l.length cA] 41 (0, 0)) ∧ Dealt w1 W5 w.heap.size 300 ∧ w4.heap.size ≤ x from by
        refine ⟨HCK.out.1, ?_, bx5, ?_, by omega⟩
        · rw [hW5]; exact HCK.out.2.1.alloc _
        · rw [hW5]; exact (HCK.out.2.2.2.mono (by omega)).alloc _)
      obtain ⟨x0, x1⟩ := blk2 bx5
      have hxl := heap_lt bx5
      go_upto_region 13 with (fail)
      rw [← hx, ← hW5]
      clear hx hW5 bx5 HCK
      obtain ⟨m, hm⟩ : ∃ m, m = l.length := ⟨_, rfl⟩
      rw [← hm] at x1 hl4 hlc ⊢
      go_upto_if 82 with (fail)
      go_cut [83] from 84 to 89 (fun _ wx => ∃ (l' : List Mk) (A' : Option Addr) (c' : Nat), 0 < l'.length ∧ l'.length ≤ 4 ∧ check tn l' = 0 ∧ OwnM wx w4.heap.size (.slice A' l'.length c') l' ∧ wx.heap[x]? = some (.cells #[.int .i64 (tn : Int), .slice A' l'.length c'] 41 (0, 0)) ∧ Dealt w1 wx w.heap.size 500)
      case first =>
        by_cases h0 : m = 0
        · have e0 : ((m : Int) == 0) = true := by simp [h0]
          subst h0
          have hl0 : l = [] := List.eq_nil_of_length_eq_zero hm.symm
          subst hl0
          have bxd : W5.heap[x]? = some (.cells #[.int .i64 (tn : Int), .slice A1 0 cA] 41 (0, 0)) := HX5.out.2.2.1
          have HO0 := Lib.hid (show OwnM W5 w4.heap.size (.slice A1 0 cA) [] from HX5.out.2.1)
          have HBX := Lib.hid bxd
          have hxw := HX5.out.2.2.2.2
          clear bxd
          go_upto_region 14 with (fail)
          refine fold_mark W5 w.heap.size x 300 w4.heap.size (tn : Int) A1 cA _ _ _ _ _ _ _ _ _ _ _ _ _ _ _ _ _ _ _ _ _ _ _ _ _ _ _ _ _ _ _ _ _ _ _ _ _ _ _ _ _ _ _ _ _ _ _ _ _ _ _ _ _ _ _ _ _ _ _ _ _ _ _ _ _ _ _ _ _ _ _ _ _ _ _ _ _ _ _ _ _ _ _ _ _ _ _ _ _ _ _ _ _ _ _ _ _ _ _ _ _ _ _ _ _ _ _ _ _ _ _ _ _ _ _ _ _ _ _ _ _ _ _ _ _ _ _ _ _ _ _ _ _ _ _ _ _ _ _ _ _ _ _ _ _ _ _ _ _ _ _ _ _ _ _ _ _ _ _ _ _ _ _ _ _ _ _ _ _ _ _ _ _ _ _ _ _ _ _ _ _ _ _ _ _ _ _ _ _ _ _ _ _ _ _ _ _ _ _ _ _ _ _ _ _ _ _ _ _ _ _ _ _ _ _ _ _ _ _ _ _ _ _ _ _ _ _ _ _ _ _ _ _ _ _ _ _ _ _ _ _ _ _ _ _ _ _ _ _ _ _ _ _ _ _ _ _ _ _ _ _ _ _ _ _ _ _ _ _ _ _ _ _ _ _ _ _ _ _ _ _ _ _ _ _ _ _ _ _ _ _ _ _ _ _ _ _ HBX (Lib.hid HX5.out.2.2.2.1.hd) (by omega) HO0 hH4 hxw hxl ?_
          intro x83 x84 x85 x86 x87 x88 x89 mk g7 c7 w6 hmk ho hbx hhd hlow
          go_wp2_with fail
          go_meet
          exact ⟨[mk], some ⟨g7, 0, none⟩, c7, by simp, by simp, check_oneF HX5.out.1 hmk, ho, hbx, hhd.mono (by omega), ⟨hlow.os.trans HX5.out.2.2.2.1.gr.os, hlow.tape.trans HX5.out.2.2.2.1.gr.tape, hlow.output.trans HX5.out.2.2.2.1.gr.output, Nat.le_trans HX5.out.2.2.2.1.size hlow.size, fun j hj hne => (hlow.blk j (by have := HD4.out.size; omega) (fun e => hne (by rw [e]))).trans (HX5.out.2.2.2.1.gr.block j hj hne)⟩⟩
        · have e0 : ((m : Int) == 0) = false := beq_eq_false_iff_ne.2 (by omega)
          go_wp2_with fail
          go_meet
          refine ⟨l, A1, cA, by omega, by omega, HX5.out.1, HX5.out.2.1, ?_, HX5.out.2.2.2.1.mono (by omega)⟩
          exact HX5.out.2.2.1
      case rest =>
        obtain ⟨l', A', c', hl1, hl4', hck, hown, bx, hD⟩ := hcut
        obtain ⟨wx, rfl⟩ : ∃ W, W = wc := ⟨_, rfl⟩
        have HXX2 := Lib.hid (And.intro hck (And.intro hown (And.intro bx hD)))
        obtain ⟨n', hn'⟩ : ∃ n', n' = l'.length := ⟨_, rfl⟩
        have hxH : x ≠ w.heap.size := by have := HX5.out.2.2.2.2; omega
        rw [← hn'] at hl1 hl4'
        clear hck hown bx hD x0 x1 hxl hm hlc hl4 hcm HX5 hs5
        go_upto_region 16 with (fail)
        go_wp2_with fail
        go_loopg [13, 14] n' (fun gg v13 v14 wr => ∃ (k : Nat) (hs : List Int), k + gg = n' ∧ v14 = .int .i64 (k : Int) ∧ OwnI wr wx.heap.size v13 hs ∧ hs.length = k ∧ (∀ h ∈ hs, 0 ≤ h ∧ h ≤ 9) ∧ Dealt wx wr w.heap.size (500 + k))
        case atStart => exact ⟨0, [], by omega, rfl, Own.nil_, rfl, (fun _ h => nomatch h), Dealt.refl HXX2.out.2.2.2.hd⟩
        case round =>
          obtain ⟨k, hs, hk, rfl, hoh, hhl, hhb, hdr⟩ := hrel
          have bxr := hdr.blk HXX2.out.2.2.1 hxH
          rw [← hn'] at bxr
          obtain ⟨x0, x1⟩ := blk2 bxr
          have hxl := heap_lt bxr
          have hzr := hdr.size
          have HK := Lib.hid (And.intro hk (And.intro hoh (And.intro hhl (And.intro hhb (And.intro hdr bxr)))))
          clear hoh hhl hhb hdr bxr
          by_cases hlt : k < n'
          · have hlt' : (k : Int) < (n' : Int) := by omega
            go_wp2_with fail
            refine (upto_any w.heap.size (500 + k) 9 _ HK.out.2.2.2.2.1.hd (by omega) (by omega)).mono ?_
            rintro e w6 ⟨h, rfl, hh9, hd6⟩
            have hh9 : (h : Int) ≤ 9 := by omega
            have hll : hs.length < 4294967296 := by have := HK.out.2.2.1; omega
            have ho6 := HK.out.2.1.kept hd6.gr (.inr (HK.out.2.1.nb (show w.heap.size < wx.heap.size from HXX2.out.2.2.2.hd.lt)))
            have hb6 : wx.heap.size ≤ w6.heap.size := by have := hd6.size; omega
            have HD6 := Lib.hid (And.intro ho6 (HK.out.2.2.2.2.1.trans hd6))
            clear ho6 hd6 x0 x1 hxl
            go_wp2_with (first
              | (at_builtin; refine wp_appL okInt rfl _ _ rfl wx.heap.size u13 hs (h : Int) #[.int .i64 (h : Int)] w6.heap.size rfl rfl (heap_alloc_new w6 _) rfl rfl (one_eInt _) (HD6.out.1.alloc _) hll (by decide) (by simp; omega) ?_; intro g7 c7 w7 ho7 hgr7 hl7; have HY := Lib.hid (And.intro ho7 hgr7); clear ho7 hgr7 hl7)
              | fail)
            go_roundg (gk - 1)
            case measure => have := HK.out.1; omega
            case rel =>
              obtain ⟨-, hoh, hhl, hhb, hdr, -⟩ := HK.out
              have hob : ∀ j, u13.ownBlock = some j → wx.heap.size ≤ j := fun j e => (hoh.lt j e).1
              refine ⟨k + 1, hs ++ [(h : Int)], by omega, by go_num, HY.out.1, by simp [hhl], fun y hy => ?_, ((HD6.out.2.alloc _).ownG HY.out.2 fun j e => ⟨by have := hob j e; have := HXX2.out.2.2.2.hd.lt; omega, hob j e⟩).mono (by omega)⟩
              rcases List.mem_append.1 hy with h1 | h1
              · exact hhb y h1
              · rw [List.mem_singleton.1 h1]; omega
          · obtain rfl : k = n' := by omega
            obtain ⟨Ah, ch, rfl, -, hhc, hhm⟩ := HK.out.2.1.form lenInt
            have hhl := HK.out.2.2.1
            have hh0 : 0 < hs.length := by omega
            obtain ⟨y, hy⟩ : ∃ y, y = hs.getD 0 0 := ⟨_, rfl⟩
            obtain ⟨bh, rfl, hbb, hbl, n0, fz, hput⟩ := Own.put1 HK.out.2.1 (o := 0) hh0 (y + 6)
            have hyb : 0 ≤ y ∧ y ≤ 9 := by
              have := getD_inP (P := fun z : Int => 0 ≤ z ∧ z ≤ 9) HK.out.2.2.2.1 (show (0 : Int) ≤ 0 ∧ (0 : Int) ≤ 9 by omega) 0 (l := hs) (d := 0)
              rw [← hy] at this; exact this
            rw [← hy] at n0
            have hlx : (0 : Int) < (hs.length : Int) := by omega
            have hwr : IntKind.i64.wrap (y + 6) = y + 6 := IntWalk.i64_in _ (by omega)
            have hlb : hs.length ≤ 4 := by omega
            have HP := Lib.hid (And.intro hput (And.intro (HK.out.2.2.2.2.1.set (a := ⟨bh, 0, none⟩) (by have := HXX2.out.2.2.2.hd.lt; show w.heap.size < bh; omega) hbb (.int .i64 (y + 6))) hbb))
            have hhn : ¬ (hs.length : Int) < (hs.length : Int) := by omega
            have HHL := Lib.hid hhl
            have HY := Lib.hid hy
            clear hput hhl hy
            go_upto_region 21 with (fail)
            obtain ⟨W6, hW6⟩ : ∃ W, W = wr.setCell ⟨bh, 0, none⟩ (.int .i64 (y + 6)) := ⟨_, rfl⟩
            rw [← hW6] at HP ⊢
            obtain ⟨H6, hH6⟩ : ∃ H6, H6 = hs.set 0 (y + 6) := ⟨_, rfl⟩
            rw [← hH6] at HP
            have h6l : H6.length = hs.length := by rw [hH6, List.length_set]
            have h6b : ∀ z ∈ H6, 0 ≤ z ∧ z ≤ 300 := fun z hz => by
              rw [hH6] at hz
              rcases List.mem_or_eq_of_mem_set hz with h1 | h1
              · have := HK.out.2.2.2.1 z h1; omega
              · omega
            have h6s : (loss : Int) ≤ H6.sum := by
              have := sum_set0 (l := hs) (x := y + 6) (fun z hz => (HK.out.2.2.2.1 z hz).1) hh0
              rw [hH6]; omega
            have hoI := (HP.out.1.sl lenInt).1
            rw [h6l] at hoI
            have hsh := tShares_any (some ⟨bh, 0, none⟩) hs.length ch loss H6 W6 hoI ⟨by omega, by omega⟩ h6b h6s (by omega) ⟨hhc, hhm⟩
            have HH6 := Lib.hid (And.intro hH6 (And.intro h6l (And.intro h6b h6s)))
            have hH7 := HP.out.2.1.hd.lt
            clear hW6 hH6 h6l h6b h6s hoI n0 fz
            go_wp2_with fail
            refine hsh.mono ?_
            rintro e w7 ⟨vS, S, rfl, hoS, hSl, hS0, hSs, hb7, -⟩
            obtain ⟨AS, cS, rfl, hiS, -, hcS⟩ := hoS.form lenInt
            have hS5 : ∀ z ∈ S, -100000 ≤ z ∧ z ≤ 100000 := fun z hz => by
              have h1 := hS0 z hz
              have h2 : z ≤ S.sum := by
                clear hoS hSl hSs hb7 hiS hsh hcS h1
                induction S with
                | nil => cases hz
                | cons a l ih =>
                  have h3 := sum_geF (l := l) fun y hy => hS0 y (List.mem_cons_of_mem _ hy)
                  have h4 := hS0 a List.mem_cons_self
                  simp only [List.sum_cons]
                  rcases List.mem_cons.1 hz with h5 | h5
                  · omega
                  · have := ih (fun y hy => hS0 y (List.mem_cons_of_mem _ hy)) h5
                    omega
              omega
            have hto := total_any AS S.length cS S w7 hiS (by omega) hS5
            rw [hSs] at hto
            have HS7 := Lib.hid (And.intro hoS (And.intro hS0 (And.intro hSs (And.intro hSl hb7))))
            have hSl2 : S.length = hs.length := hSl
            clear hoS hS0 hSs hb7 hiS hsh hS5 hSl
            rw [hSl2] at hto
            go_upto_block 2 with (go_at_call 14; (with_reducible refine hto.mono ?_); rintro e w' ⟨rfl, rfl⟩)
            have hHx7 : w.heap.size < w4.heap.size := hH4
            obtain ⟨hmx, hlc, hcm⟩ := HXX2.out.2.1.sl lenMk
            have hD7 : Dealt wx w7 w.heap.size (500 + k) := HP.out.2.1.less HS7.out.2.2.2.2 (Nat.le_refl _)
            have hAx : OffH A' w.heap.size := fun b off e => by
              have := (HXX2.out.2.1.lt b (by rw [e]; rfl)).1
              omega
            have hAs : OffH AS w.heap.size := fun b off e => by
              have := (HS7.out.1.lt b (by rw [e]; rfl)).1
              omega
            have hiS := (HS7.out.1.sl lenInt).1
            have hlS := hSl2
            rw [hlS] at hiS
            have hlk : hs.length = l'.length := by rw [HHL.out]; exact hn'
            have hSb : ∀ y ∈ S, 0 ≤ y ∧ y ≤ 5 := fun y hy => ⟨HS7.out.2.1 y hy, by have := mem_leF HS7.out.2.1 y hy; have := HS7.out.2.2.1; omega⟩
            have HM7 := Lib.hid (show Marks w7 A' l'.length l' ∧ l'.length ≤ c' ∧ c' ≤ maxLen ∧ check (tn : Int) l' = 0 ∧ l'.length = hs.length from ⟨hmx.dealt hD7 hAx, hlc, hcm, HXX2.out.1, hlk.symm⟩)
            have HS8 := Lib.hid (show Ints w7 AS hs.length S ∧ OffH AS w.heap.size ∧ ∀ y ∈ S, 0 ≤ y ∧ y ≤ 5 from ⟨hiS, hAs, hSb⟩)
            have HB7 := Lib.hid (hD7.blk HXX2.out.2.2.1 hxH)
            have HAX := Lib.hid hAx
            have HD7 := Lib.hid (HXX2.out.2.2.2.trans hD7)
            have HLC := Lib.hid (And.intro hlc (And.intro hcm hlk))
            have hk4 : k ≤ 4 := by omega
            clear hmx hD7 hAx hAs hiS hSb hlc hcm hto hlS
            refine fold_loop w7 w.heap.size x (500 + k) tn A' l'.length c' l' AS hs.length cS S _ _ _ _ _ _ _ _ _ _ _ _ _ _ _ _ _ _ _ _ _ _ _ _ _ _ _ _ _ _ _ _ _ _ _ _ _ _ _ _ _ _ _ _ _ _ _ _ _ _ _ _ _ _ _ _ _ _ _ _ _ _ _ _ _ _ _ _ _ _ _ _ _ _ _ _ _ _ _ _ _ _ _ _ _ _ _ _ _ _ _ _ _ _ _ _ _ _ _ _ _ _ _ _ _ _ _ _ _ _ _ _ _ _ _ _ _ _ _ _ _ _ _ _ _ _ _ _ _ _ _ _ _ _ _ _ _ _ _ _ _ _ _ _ _ _ _ _ _ _ _ _ _ _ _ _ _ _ _ _ _ _ _ _ _ _ _ _ _ _ _ _ _ _ _ _ _ _ _ _ _ _ _ _ _ _ _ _ _ _ _ _ _ _ _ _ _ _ _ _ _ _ _ _ _ _ _ _ _ _ _ _ _ _ _ _ _ _ _ _ _ _ _ _ _ _ _ _ _ _ _ _ _ _ _ _ _ _ _ _ _ _ _ _ _ _ _ _ _ _ _ _ _ _ _ _ _ _ _ _ _ _ _ _ _ _ _ _ _ _ _ _ _ _ _ _ _ _ _ _ _ _ _ _ _ _ _ _ _ _ _ _ _ _ HB7 (Lib.hid HD7.out.hd) (by omega) HM7 (by omega) hxH HAX (by omega) HS8 ?_
            intro x2 x16 x18 x19 x20 x129 x130 x131 x132 x133 x134 x135 x136 x137 x138 x139 x140 x141 x142 x143 x144 x145 x146 x147 x148 x149 x150 x151 x152 x153 x154 x155 x156 x157 x158 x159 x160 x161 x162 w8 hfb
            obtain ⟨ss, os, hos, hsl, hft, hcn, hss6, hd8⟩ := hfb
            obtain ⟨A8, c8, rfl, hs8, -, -⟩ := hos.form lenSg
            have HA8 := Lib.hid (show OffH A8 w.heap.size from fun b off e => by have := (hos.lt b (by rw [e]; rfl)).1; have := HD7.out.hd.lt; omega)
            have hss30 : ss.length ≤ 30 := by omega
            have HF8 := Lib.hid (And.intro hsl (And.intro hft (And.intro hcn (And.intro hd8 hs8))))
            clear hsl hft hcn hs8 hos hss6 hlk
            go_upto_region 35 with (fail)
            go_wp2_with fail
            refine (row_any w.heap.size (500 + k + 30000 * ss.length) ss.length w8 hd8.hd (by omega) (by omega)).mono ?_
            rintro e w9 ⟨AR, cR, L, rfl, hoL, hpm, hd9⟩
            have hLl := up_len hpm
            have hiL := (hoL.sl lenInt).1
            rw [hLl] at hiL
            have hA8 : Sights w9 A8 ss.length ss := HF8.out.2.2.2.2.dealt hd9 HA8.out
            have HS9 := Lib.hid (show Sights w9 A8 ss.length ss ∧ Ints w9 AR ss.length L ∧ ∀ y ∈ L, 0 ≤ y ∧ y < ss.length from ⟨hA8, hiL, up_mem hpm⟩)
            have HPM := Lib.hid (And.intro hpm (And.intro hLl (hd8.trans hd9)))
            clear hpm hLl hoL hiL hA8 hd9 hd8
            go_upto_block 6 with (fail)
            refine fold_turn w9 A8 ss.length c8 ss AR cR L _ _ _ _ _ _ _ _ _ _ _ _ _ _ _ _ _ _ _ _ _ _ _ _ _ _ _ _ _ _ _ _ _ _ _ _ _ _ _ _ _ _ _ _ _ _ _ _ _ _ _ _ _ _ _ _ _ _ _ _ _ _ _ _ _ _ _ _ _ _ _ _ _ _ _ _ _ _ _ _ _ _ _ _ _ _ _ _ _ _ _ _ _ _ _ _ _ _ _ _ _ _ _ _ _ _ _ _ _ _ _ _ _ _ _ _ _ _ _ _ _ _ _ _ _ _ _ _ _ _ _ _ _ _ _ _ _ _ _ _ _ _ _ _ _ _ _ _ _ _ _ _ _ _ _ _ _ _ _ _ _ _ _ _ _ _ _ _ _ _ _ _ _ _ _ _ _ _ _ _ _ _ _ _ _ _ _ _ _ _ _ _ _ _ _ _ _ _ _ _ _ _ _ _ _ _ _ _ _ _ _ _ _ _ _ _ _ _ _ _ _ _ _ _ _ _ _ _ _ _ _ _ _ _ _ _ _ _ _ _ _ _ _ _ _ _ _ _ _ _ _ _ _ _ _ _ _ _ _ _ _ _ _ _ _ _ _ _ _ _ _ _ _ _ _ _ _ _ _ _ _ _ _ _ _ _ _ _ _ _ _ _ _ _ _ HS9 (by omega) ?_
            intro x22 x167 x168 x169 x170 x171 x172 x173 x174 x175 x176 x177 x178 x179 x180 x181 x182 w10 htr
            obtain ⟨hot, hb10⟩ := htr
            rw [List.take_of_length_le (by rw [HPM.out.2.1]; exact Nat.le_refl _)] at hot
            go_upto_region 41 with (fail)
            obtain ⟨TS, hTS⟩ : ∃ TS, TS = L.map fun i : Int => ss.getD i.toNat ⟨0, false, false, 0, 0⟩ := ⟨_, rfl⟩
            obtain ⟨OS, hOS⟩ : ∃ OS, OS = L.map fun i : Int => os.getD i.toNat 0 := ⟨_, rfl⟩
            rw [← hTS] at hot
            obtain ⟨AT, cT, rfl, hsT, -, -, hzT⟩ := hot.formZ lenSg
            have hTl : TS.length = ss.length := by rw [hTS, List.length_map]; exact HPM.out.2.1
            have hOl : TS.length = OS.length := by rw [hTl, hOS, List.length_map]; exact HPM.out.2.1.symm
            have hfT : FitL tn l' TS OS := by rw [hTS, hOS]; exact turn_fit HPM.out.1 rfl HF8.out.1.symm HF8.out.2.1
            have hcT : ∀ o : Nat, o < l'.length → (cntI OS (o : Int) : Int) = S.getD o 0 := fun o ho => by
              rw [hOS, turn_cnt HPM.out.1 HF8.out.1.symm, HF8.out.2.2.1 o (by have := HLC.out.2.2; omega), if_pos (by have := HLC.out.2.2; omega)]
            have hml : S.length = l'.length := by have := HLC.out.2.2; omega
            have hl5' : l'.length ≤ 5 := by omega
            have hTs := found_len hfT hOl hml hcT
            have hTloss : TS.length = loss := by have := HS7.out.2.2.1; omega
            have hseT := fit_seen hfT hOl
            have hge := gather_found HXX2.out.1 (by omega) hseT hml HS8.out.2.2
            have HLAW := Lib.hid (fold_law hl5' HXX2.out.1 hOl hfT hml hcT (fun y hy => (HS8.out.2.2 y hy).1) hge)
            have HMORE := Lib.hid (fun (s : Sg) (hs : seen s 9 6 = 0) => more_law (s := s) hl5' HXX2.out.1 hOl hfT hml hcT (fun y hy => (HS8.out.2.2 y hy).1) hge (gather_found HXX2.out.1 (by simp; omega) (fun x hx => by rcases List.mem_append.1 hx with h | h; exact hseT x h; rw [List.mem_singleton.1 h]; exact hs) hml HS8.out.2.2))
            have HGM := Lib.hid (fun (s : Sg) (hs : seen s 9 6 = 0) => gather_found HXX2.out.1 (show (TS ++ [s]).length ≤ 6 by simp; omega) (fun x hx => by rcases List.mem_append.1 hx with h | h; exact hseT x h; rw [List.mem_singleton.1 h]; exact hs) hml HS8.out.2.2)
            have HGE := Lib.hid hge
            have hd10 : Dealt w7 w10 w.heap.size (500 + k + 30000 * ss.length + ss.length) := HPM.out.2.2.less hb10 (Nat.le_refl _)
            have bx10 := hd10.blk HB7.out hxH
            have hm10 := HM7.out.1.dealt hd10 HAX.out
            have hi10 := HS8.out.1.dealt hd10 HS8.out.2.1
            have hoT : OffH AT w.heap.size := fun b off e => by have := (hot.lt b (by rw [e]; rfl)).1; have := HPM.out.2.2.hd.lt; omega
            have hlm : l'.length ≤ maxLen := by unfold maxLen; omega
            have hsm : TS.length ≤ maxLen := by unfold maxLen; omega
            have hnm : hs.length ≤ maxLen := by unfold maxLen; omega
            obtain ⟨HL, hHL⟩ : ∃ HL, HL = homeL (tn : Int) l' TS S := ⟨_, rfl⟩
            have C1 := Home_any tn A' l'.length c' l' AT TS.length cT TS AS hs.length cS S w10 hm10 HLC.out.1 HLC.out.2.1 hsT hsm hi10 hnm
            have C2 := fun W' (hb : Below w10.heap.size w10 W') => Left_any tn A' l'.length c' l' AT TS.length cT TS AS hs.length cS S W' (hm10.below hb (Nat.le_refl _)) HLC.out.1 HLC.out.2.1 (hsT.below hb (Nat.le_refl _)) hsm (hi10.below hb (Nat.le_refl _)) hnm
            have C3 := fun W' (hb : Below w10.heap.size w10 W') => Short_any tn A' l'.length c' l' AT TS.length cT TS AS hs.length cS S W' (hm10.below hb (Nat.le_refl _)) HLC.out.1 HLC.out.2.1 (hsT.below hb (Nat.le_refl _)) hsm (hi10.below hb (Nat.le_refl _)) hnm
            rw [HLAW.out.1, ← hHL] at C1
            rw [hge, HLAW.out.2.2.1] at C2
            rw [HLAW.out.2.2.2.1] at C3
            have hHl : HL.length = loss := by rw [hHL, HLAW.out.2.1]; exact hTloss
            have hHc : ∀ o : Nat, o < hs.length → (cntI HL (o : Int) : Int) = S.getD o 0 := fun o ho => by rw [hHL]; exact HLAW.out.2.2.2.2.2 o (by have := HLC.out.2.2; omega)
            have HC2 := Lib.hid C2
            have HC3 := Lib.hid C3
            have d1 : ((HL.length : Int) != (loss : Int)) = false := by rw [hHl]; simp
            have HHC := Lib.hid (And.intro hHc hHl)
            have H10 := Lib.hid (And.intro hd10 (And.intro bx10 (And.intro hm10 (And.intro hi10 (And.intro hsT (And.intro hoT hzT))))))
            have hl5 : TS.length ≤ 5 := by omega
            clear hTS hOS hot hTl hOl hfT hcT hml hTs hseT hge hd10 hm10 hi10 hHL hHl hHc C2 C3 hsT hoT hzT
            obtain ⟨e0, e1⟩ := blk2 bx10
            have e2 := heap_lt bx10
            clear x0 x1 hxl hTloss
            go_wp2_with fail
            refine C1.mono ?_
            rintro e w11 ⟨v, rfl, hoH, hb11⟩
            obtain ⟨AH, cH, rfl, hiH, -, -⟩ := hoH.form lenInt
            have bx11 := bheap bx10 hb11 (Nat.le_refl _)
            have H11 := Lib.hid (And.intro hb11 (And.intro hiH bx11))
            have C2 := HC2.out _ hb11
            clear hoH hiH hb11 bx10 e0 e1 e2 C1 HC2
            obtain ⟨e0, e1⟩ := blk2 bx11
            have e2 := heap_lt bx11
            clear bx11
            go_wp2_with fail
            refine C2.mono ?_
            rintro e w12 ⟨⟨A12, c12, rfl, -, -, -⟩, hb12⟩
            simp only [List.length_nil]
            have bx12 := bheap H11.out.2.2 hb12 (Nat.le_refl _)
            have H12 := Lib.hid (And.intro (H11.out.1.trans (hb12.mono H11.out.1.size)) (And.intro (H11.out.2.1.below hb12 (Nat.le_refl _)) bx12))
            have C3 := HC3.out _ H12.out.1
            clear hb12 e0 e1 e2 C2 HC3
            obtain ⟨e0, e1⟩ := blk2 bx12
            have e2 := heap_lt bx12
            clear bx12
            go_upto_region 44 with (go_at_call 20; refine C3.mono ?_; rintro e w13 ⟨⟨A13, c13, rfl, -, -, -⟩, hb13⟩; generalize (shortR (tn : Int) l' TS S).length = sn)
            have bx13 := bheap H12.out.2.2 hb13 (Nat.le_refl _)
            have H13 := Lib.hid (And.intro (H12.out.1.trans (hb13.mono H12.out.1.size)) (And.intro (H12.out.2.1.below hb13 (Nat.le_refl _)) bx13))
            clear hb13 e0 e1 e2 C3
            go_upto_block 8 with (fail)
            have hHl100 : HL.length ≤ 100 := by have := HHC.out.2; omega
            have HS13 := Lib.hid (show Ints w13 AS hs.length S ∧ Ints w13 AH HL.length HL ∧ ∀ o : Nat, o < hs.length → (cntI HL (o : Int) : Int) = S.getD o 0 from ⟨H10.out.2.2.2.1.below H13.out.1 (Nat.le_refl _), H13.out.2.1, HHC.out.1⟩)
            refine fold_own w13 AS hs.length cS S AH HL.length cH HL _ _ _ _ _ _ _ _ _ _ _ _ _ _ _ _ _ _ _ _ _ _ _ _ _ _ _ _ _ _ _ _ _ _ _ _ _ _ _ _ _ _ _ _ _ _ _ _ _ _ _ _ _ _ _ _ _ _ _ _ _ _ _ _ _ _ _ _ _ _ _ _ _ _ _ _ _ _ _ _ _ _ _ _ _ _ _ _ _ _ _ _ _ _ _ _ _ _ _ _ _ _ _ _ _ _ _ _ _ _ _ _ _ _ _ _ _ _ _ _ _ _ _ _ _ _ _ _ _ _ _ _ _ _ _ _ _ _ _ _ _ _ _ _ _ _ _ _ _ _ _ _ _ _ _ _ _ _ _ _ _ _ _ _ _ _ _ _ _ _ _ _ _ _ _ _ _ _ _ _ _ _ _ _ _ _ _ _ _ _ _ _ _ _ _ _ _ _ _ _ _ _ _ _ _ _ _ _ _ _ _ _ _ _ _ _ _ _ _ _ _ _ _ _ _ _ _ _ _ _ _ _ _ _ _ _ _ _ _ _ _ _ _ _ _ _ _ _ _ _ _ _ _ _ _ _ _ _ _ _ _ _ _ _ _ _ _ _ _ _ _ _ _ _ _ _ _ _ _ _ _ _ _ _ _ _ _ _ _ _ _ _ _ _ _ _ HS13 hHl100 (by omega) ?_
            intro y2 x30 x31 x225 x226 x227 x228 x229 x230 x231 x232 x233 x234 x235 x236 x237 x238 x239 x240 x241 x242 x243 x244 x245 x246 x247 x248 x249 x250
            have hd13 : Dealt w7 w13 w.heap.size (500 + k + 30000 * ss.length + ss.length) := H10.out.1.less H13.out.1 (Nat.le_refl _)
            have HB13 := Lib.hid H13.out.2.2
            have HM13 := Lib.hid (show Marks w13 A' l'.length l' ∧ check (tn : Int) l' = 0 from ⟨H10.out.2.2.1.below H13.out.1 (Nat.le_refl _), HXX2.out.1⟩)
            have HT13 := Lib.hid (show Sights w13 AT TS.length TS ∧ (AT = none → cT = 0) ∧ OffH AT w.heap.size from ⟨H10.out.2.2.2.2.1.below H13.out.1 (Nat.le_refl _), H10.out.2.2.2.2.2.2, H10.out.2.2.2.2.2.1⟩)
            have HD13 := Lib.hid hd13
            clear hd13
            go_upto_region 57 with (fail)
            refine fold_more w13 w.heap.size x (500 + k + 30000 * ss.length + ss.length) tn A' l'.length c' l' AT TS.length cT TS _ _ _ _ _ _ _ _ _ _ _ _ _ _ _ _ _ _ _ _ _ _ _ _ _ _ _ _ _ _ _ _ _ _ _ _ _ _ _ _ _ _ _ _ _ _ _ _ _ _ _ _ _ _ _ _ _ _ _ _ _ _ _ _ _ _ _ _ _ _ _ _ _ _ _ _ _ _ _ _ _ _ _ _ _ _ _ _ _ _ _ _ _ _ _ _ _ _ _ _ _ _ _ _ _ _ _ _ _ _ _ _ _ _ _ _ _ _ _ _ _ _ _ _ _ _ _ _ _ _ _ _ _ _ _ _ _ _ _ _ _ _ _ _ _ _ _ _ _ _ _ _ _ _ _ _ _ _ _ _ _ _ _ _ _ _ _ _ _ _ _ _ _ _ _ _ _ _ _ _ _ _ _ _ _ _ _ _ _ _ _ _ _ _ _ _ _ _ _ _ _ _ _ _ _ _ _ _ _ _ _ _ _ _ _ _ _ _ _ _ _ _ _ _ _ _ _ _ _ _ _ _ _ _ _ _ _ _ _ _ _ _ _ _ _ _ _ _ _ _ _ _ _ _ _ _ _ _ _ _ _ _ _ _ _ _ _ _ _ _ _ _ _ _ _ _ _ _ _ _ _ _ _ _ _ _ _ _ _ _ _ _ _ _ _ _ HB13 (Lib.hid HD13.out.hd) (by omega) HM13 (by omega) hxH HAX HT13 (by omega) ?_
            intro x251 x252 x253 x254 x255 x256 x257 x258 g c6 s w14 hs14 ho14 hd14
            have hG := HGM.out s hs14
            have hMo := HMORE.out s hs14
            have hm14 := HM13.out.1.dealt hd14 HAX.out
            have hi14 := HS13.out.1.dealt hd14 HS8.out.2.1
            have bx14 := hd14.blk HB13.out hxH
            have hsT14 := (Own.sl (show OwnS w14 w13.heap.size (.slice (some ⟨g, 0, none⟩) (TS.length + 1) c6) (TS ++ [s]) from ho14) lenSg).1
            rw [show (TS ++ [s]).length = TS.length + 1 by simp] at hsT14
            have hsm1 : TS.length + 1 ≤ maxLen := by unfold maxLen; omega
            have C1 := Home_any tn A' l'.length c' l' (some ⟨g, 0, none⟩) (TS.length + 1) c6 (TS ++ [s]) AS hs.length cS S w14 hm14 HLC.out.1 HLC.out.2.1 hsT14 hsm1 hi14 hnm
            have C2 := fun W' (hb : Below w14.heap.size w14 W') => Left_any tn A' l'.length c' l' (some ⟨g, 0, none⟩) (TS.length + 1) c6 (TS ++ [s]) AS hs.length cS S W' (hm14.below hb (Nat.le_refl _)) HLC.out.1 HLC.out.2.1 (hsT14.below hb (Nat.le_refl _)) hsm1 (hi14.below hb (Nat.le_refl _)) hnm
            have C3 := fun W' (hb : Below w14.heap.size w14 W') => Short_any tn A' l'.length c' l' (some ⟨g, 0, none⟩) (TS.length + 1) c6 (TS ++ [s]) AS hs.length cS S W' (hm14.below hb (Nat.le_refl _)) HLC.out.1 HLC.out.2.1 (hsT14.below hb (Nat.le_refl _)) hsm1 (hi14.below hb (Nat.le_refl _)) hnm
            obtain ⟨HL2, hHL2⟩ : ∃ HL2, HL2 = homeL (tn : Int) l' (TS ++ [s]) S := ⟨_, rfl⟩
            obtain ⟨LL2, hLL2⟩ : ∃ LL2, LL2 = leftR (tn : Int) l' (TS ++ [s]) S := ⟨_, rfl⟩
            rw [hMo.1, ← hHL2] at C1
            rw [hG, ← hLL2] at C2
            rw [hMo.2.2] at C3
            have hl1' : LL2.length = 1 := by rw [hLL2]; exact hMo.2.1
            have HC2 := Lib.hid C2
            have HC3 := Lib.hid C3
            have H14 := Lib.hid (And.intro (HD13.out.trans hd14) bx14)
            clear hHL2 hLL2 hG hMo hm14 hi14 hsT14 C2 C3 hd14 ho14
            obtain ⟨e0, e1⟩ := blk2 bx14
            have e2 := heap_lt bx14
            clear bx14
            go_wp2_with fail
            refine C1.mono ?_
            rintro e w15 ⟨v, rfl, hoH, hb15⟩
            have bx15 := bheap H14.out.2 hb15 (Nat.le_refl _)
            have H15 := Lib.hid (And.intro hb15 bx15)
            have C2 := HC2.out _ hb15
            clear hoH hb15 e0 e1 e2 C1 HC2
            obtain ⟨e0, e1⟩ := blk2 bx15
            have e2 := heap_lt bx15
            clear bx15
            go_wp2_with fail
            refine C2.mono ?_
            rintro e w16 ⟨⟨A16, c16, rfl, -, -, -⟩, hb16⟩
            rw [hl1']
            have bx16 := bheap H15.out.2 hb16 (Nat.le_refl _)
            have H16 := Lib.hid (And.intro (H15.out.1.trans (hb16.mono H15.out.1.size)) bx16)
            have C3 := HC3.out _ H16.out.1
            clear hb16 e0 e1 e2 C2 HC3
            obtain ⟨e0, e1⟩ := blk2 bx16
            have e2 := heap_lt bx16
            clear bx16
            go_upto_region 61 with (go_at_call 20; refine C3.mono ?_; rintro e w17 ⟨⟨A17, c17, rfl, -, -, -⟩, hb17⟩; generalize (shortR (tn : Int) l' (TS ++ [s]) S).length = sn2)
            have HEND := Lib.hid (show Below w.heap.size w w17 from
              (HB1.out.1.trans ((HD7.out.trans H14.out.1).below (Nat.le_refl _) (by have := HB1.out.2; omega))).trans ((H16.out.1.trans (hb17.mono H16.out.1.size)).mono (by have := H14.out.1.hd.lt; omega)))
            clear hb17 e0 e1 e2 C3
            go_wp2_with fail
            refine (foldAwake_any _).mono ?_
            rintro e w18 ⟨rfl, hb18⟩
            have HF := Lib.hid (HEND.out.trans (hb18.mono HEND.out.size))
            clear hb18
            go_wp2_with fail
            rw [HR.out]
            exact ⟨rfl, HF.out⟩
end Go.Proofs.Ytgnjknihgjdedaa
namespace Go.Proofs.Ytgnjknihgjdedaa
open Go.RowKit
set_option linter.unusedVariables false

theorem ints_of {w : World} {a : Option Addr} {len cap : Nat} {zs : List Int}
    (h : (a = none ∧ len = 0 ∧ cap = 0 ∧ zs = []) ∨ ∃ x, a = some x ∧ len ≤ cap ∧ cap ≤ maxLen ∧ zs.length = cap ∧ (∀ i, i < zs.length → w.cell? (x.add i) = some (.int .i64 (zs.getD i 0))) ∧ ∀ n ∈ zs, (Lit.int .i64 n).wf = true) :
    ∃ nums, Ints w a len nums ∧ len ≤ cap ∧ cap ≤ 9223372036854775807 ∧ (a = none → cap = 0) := by
  rcases h with ⟨rfl, rfl, rfl, rfl⟩ | ⟨x, rfl, h1, h2, h3, h4, h5⟩
  · exact ⟨[], Sl.nil_, Nat.le_refl _, by omega, fun _ => rfl⟩
  · have h2' : cap ≤ 9223372036854775807 := h2
    refine ⟨zs.take len, ⟨by rw [List.length_take]; omega, fun hn => ?_⟩, h1, h2', fun h => by cases h⟩
    obtain ⟨b, off, rfl, hc⟩ := ints_at h4 (by omega)
    refine ⟨b, off, rfl, fun i y hy j u hu => ?_⟩
    rw [List.getElem?_take] at hy
    split at hy
    · have hlt := (List.getElem?_eq_some_iff.1 hy).1
      cases j with
      | zero =>
        simp only [eInt, List.getElem?_cons_zero, Option.some.injEq] at hu
        subst hu
        have := hc i (by omega)
        rw [Nat.mul_one, Nat.add_zero]
        rw [this, List.getD_eq_getElem?_getD, hy]
        rfl
      | succ j => simp [eInt] at hu
    · cases hy
end Go.Proofs.Ytgnjknihgjdedaa
