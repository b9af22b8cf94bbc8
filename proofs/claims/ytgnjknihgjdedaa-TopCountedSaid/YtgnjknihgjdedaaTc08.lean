/- TopCounted 8: HdP, HdQ. -/
import Derived.Test.YtgnjknihgjdedaaTc07
import Derived.Test.YtgnjknihgjdedaaTc03
import Derived.BigQuiet
import Derived.Laws.EntriesVeiled
namespace Go.Proofs.Ytgnjknihgjdedaa
open Go.RowKit Go.MapKept
set_option linter.unusedVariables false
set_option linter.unusedSimpArgs false

abbrev bkObj (t : Int) (A : Option Addr) (n c : Nat) (ks hs ds : Value) (deed owner now : Int) : Obj := .cells #[.int .i64 t, .slice A n c, ks, hs, ds, .int .i64 deed, .int .i64 owner, .int .i64 now] 172 (0, 0)
structure Book (w : World) (p : Nat) (t : Int) (A : Option Addr) (n c : Nat) (l : List Mk) (ks hs ds : Value) (deed owner now : Int) : Prop where
  hp : w.heap[p]? = some (bkObj t A n c ks hs ds deed owner now)
  hl : Marks w A n l
  nc : n ≤ c
  cm : c ≤ maxLen
  ck : check t l = 0
theorem blkB {w : World} {p : Nat} {t : Int} {A : Option Addr} {n c : Nat} {ks hs ds : Value} {deed owner now : Int} (h : w.heap[p]? = some (bkObj t A n c ks hs ds deed owner now)) :
    w.cell? ⟨p, 0, none⟩ = some (.int .i64 t) ∧ w.cell? ⟨p, 1, none⟩ = some (.slice A n c) ∧ w.cell? ⟨p, 2, none⟩ = some ks ∧ w.cell? ⟨p, 3, none⟩ = some hs ∧ w.cell? ⟨p, 4, none⟩ = some ds ∧
    w.cell? ⟨p, 5, none⟩ = some (.int .i64 deed) ∧ w.cell? ⟨p, 6, none⟩ = some (.int .i64 owner) ∧ w.cell? ⟨p, 7, none⟩ = some (.int .i64 now) := by simp [World.cell?, h]
theorem Book.puts {w w' : World} {p : Nat} {t : Int} {A : Option Addr} {n c : Nat} {l : List Mk} {ks hs ds : Value} {deed owner now : Int} {M : Nat} {L K : List (List Int)} (h : Book w p t A n c l ks hs ds deed owner now) (hP : PutsH w w' M L) (hm : MetH w M K) : Book w' p t A n c l ks hs ds deed owner now :=
  ⟨hP.blk h.hp (hm.ne h.hp), hP.sl hm h.hl, h.nc, h.cm, h.ck⟩
theorem below_dr' {W w1 : World} {n : Nat} (h : Below (W.drewN n).heap.size (W.drewN n) w1) : Below W.heap.size W w1 := ⟨h.os, h.tape, h.output, h.size, h.block⟩
def passI (deed owner now o : Int) : Bool := !(decide (now = deed) && decide (o ≠ owner))
def strayTo (f g : Nat) (h : List Int) (pass : Int → Bool) (os : List Int) (k : Nat) : List (List Int) := strayL f g h ((os.take k).filter pass)
theorem strayTo_succ {f g : Nat} {h : List Int} {pass : Int → Bool} {os : List Int} {k : Nat} {o : Int} (ho : os[k]? = some o) :
    strayTo f g h pass os (k + 1) = strayTo f g h pass os k ++ (if pass o = true then (match mvd h f o.toNat (-1) with | some x => [hadd x g o.toNat 1] | none => []) else []) := by
  unfold strayTo strayL
  rw [List.take_add_one, ho, List.filter_append, List.flatMap_append]
  congr 1
  by_cases hp : pass o = true
  · simp only [hp, List.filter_cons, List.filter_nil, Option.toList, if_true, List.flatMap_cons, List.flatMap_nil, List.append_nil]
    cases mvd h f o.toNat (-1) <;> rfl
  · simp [hp]

theorem stray_one {h x : List Int} {f g o : Nat} {b : Bool} (hx : x = hadd h f o (-1)) (hb : b = decide (0 ≤ hget h f o + -1)) :
    (match mvd h f (o : Int).toNat (-1) with | some x => [hadd x g (o : Int).toNat 1] | none => []) = if b = true then [hadd x g o 1] else [] := by
  simp only [Int.toNat_natCast]
  unfold mvd
  rw [hb, hx]
  by_cases h0 : 0 ≤ hget h f o + -1 <;> simp [h0]

set_option maxRecDepth 100000 in
set_option maxHeartbeats 2000000 in
theorem strayed_any (p : Nat) (t : Int) (A : Option Addr) (n c : Nat) (l : List Mk) (ks hs ds : Value) (deed owner now : Int) (h : List Int) (d : De) (nf : Nat) (B M : Nat) (K : List (List Int)) (w : World) (hA : Ask l.length nf B M K h d w) (hB : Book w p t A n c l ks hs ds deed owner now) (hk : d.kind = 5) :
    Calls Try.prog 115 #[.pointer (some ⟨p, 0, none⟩), .agg (hcs h), dv d, .func (.func 110) #[] #[.pointer (some ⟨B, 0, none⟩)]] w fun e w' => e = .returned (.tuple #[]) ∧ PutsH w w' M (strayL d.flock.toNat d.tof.toNat h ((mayL t l d.s).filter (passI deed owner now))) := by
  obtain ⟨hb, hm, hh, hd, hnf⟩ := hA
  have hM := hm.lt
  have hl := hh.1
  have hl5 : l.length ≤ 5 := (check_ok hB.ck).2.2.1
  obtain ⟨kind, flock, ow, other, tof, many, err, s⟩ := d
  obtain ⟨f, rfl⟩ := Int.eq_ofNat_of_zero_le hd.f.1
  obtain ⟨g, rfl⟩ := Int.eq_ofNat_of_zero_le hd.t.1
  have hf : f < 3 := by have := hd.f.2; dsimp at this; omega
  have hg : g < 3 := by have := hd.t.2; dsimp at this; omega
  have hse : seen s 9 6 = 0 := hd.st hk
  have hmr : mayR t l s = mayL t l s := by
    have : mayE t l s = 0 := by unfold mayE; rw [if_neg (by rw [hB.ck]; simp), hse]
    unfold mayR; rw [if_pos this]
  simp only [Int.toNat_natCast]
  have hmv : ∀ (o : Nat) (x : List Int) (b : Bool) (w : World), o < 5 → x = hadd h f o (-1) → b = decide (0 ≤ hget h f o + -1) → Calls Try.prog 117 #[.agg (hcs h), .int .i64 f, .int .i64 o, .int .i64 (-1)] w fun e w' => e = .returned (.tuple #[.agg (hcs x), .bool b]) ∧ Below w.heap.size w w' :=
    fun o x b w ho hx hb => moved_c w hx hb hl hf ho (by have := hh.get hf ho; omega) (by omega)
  have hmv2 : ∀ (o : Nat) (x y : List Int) (w : World), o < 5 → HBd 1000 x → y = hadd x g o 1 → Calls Try.prog 117 #[.agg (hcs x), .int .i64 g, .int .i64 o, .int .i64 1] w fun e w' => e = .returned (.tuple #[.agg (hcs y), .bool (decide (0 ≤ hget x g o + 1))]) ∧ Below w.heap.size w w' :=
    fun o x y w ho hxb hy => moved_c w hy rfl hxb.1 hg ho (by have := hxb.get hg ho; omega) (by omega)
  have HMV := Lib.hid (And.intro hmv hmv2)
  have HX := Lib.hid (And.intro hb (And.intro hm (And.intro hB (And.intro hh (And.intro hmr hl5)))))
  clear hd hk hh hb hm hB hmr hmv hmv2 hse
  unfold dv
  go_enter Try.func115, Try.ntmps115
  go_upto_region 1 with (fail)
  obtain ⟨W, hW⟩ : ∃ W, W = (w.alloc (Obj.cells (hcs h) 126)).alloc (dObj ⟨kind, f, ow, other, g, many, err, s⟩) := ⟨_, rfl⟩
  have b0 : W.heap[w.heap.size]? = some (hObj h) := by rw [hW]; exact hblk_alloc (alloc_at rfl) _
  have b1 : W.heap[w.heap.size + 1]? = some (dObj ⟨kind, f, ow, other, g, many, err, s⟩) := by rw [hW]; exact alloc_at (by simp)
  have hP : PutsH w W M [] := by rw [hW]; exact (PutsH.refl w M).below hM (bal (bal0 w _) (Nat.le_refl _) _) (Nat.le_refl _)
  rw [← hW]
  clear hW
  obtain ⟨r, hr⟩ : ∃ r, r = w.heap.size := ⟨_, rfl⟩
  have HR := Lib.hid (show w.heap.size ≤ r by omega)
  rw [← hr] at b0 b1 ⊢
  clear hr
  have hBW := HX.out.2.2.1.puts hP HX.out.2.1
  obtain ⟨d0, d1, d2, d3, d4, d5, d6, d7, d8, d9, d10, d11⟩ := blkD b1
  obtain ⟨p0, p1, p2, p3, p4, p5, p6, p7⟩ := blkB hBW.hp
  have HMW := Lib.hid (And.intro hBW.hl (And.intro hBW.nc hBW.cm))
  clear hBW
  refine wp_region_quiet_call (C := fun w' => ∃ n, w' = W.drewN n) 7 (by kernel_rfl) (by kernel_rfl) ⟨1, rfl⟩ ?_
  simp only [List.take_succ_cons, List.take_zero, List.drop_succ_cons, List.drop_zero]
  repeat (quiet_step (fail))
  refine wpQuiet_nil ?_
  intro _ hw'
  obtain ⟨nq, hw''⟩ := hw'
  subst hw''
  intro Q2 hQ2
  go_wp2_with fail
  refine (May_any t A n c l s (W.drewN nq) (HMW.out.1.drewN nq) HMW.out.2.1 HMW.out.2.2).mono ?_
  rintro e w1 ⟨v, rfl, hown, hb1⟩
  obtain ⟨A1, c1, rfl, hsl, hlc1, hcm1⟩ := hown.form lenInt
  replace hb1 : Below W.heap.size W w1 := below_dr' hb1
  rw [HX.out.2.2.2.2.1] at hsl hlc1 ⊢
  have hP1 := hP.below hM hb1 hP.size
  have e0 := bheap b0 hb1 (Nat.le_refl _)
  have e1 := bheap b1 hb1 (Nat.le_refl _)
  have HP1 := Lib.hid (And.intro hP1 (And.intro e0 (And.intro e1 hsl)))
  clear hb1 hown d0 d1 d2 d3 d4 d5 d6 d7 d8 d9 d10 d11 p0 p1 p2 p3 p4 p5 p6 p7 hP hP1 e0 e1 hsl b0 b1
  obtain ⟨os, hos⟩ : ∃ os, os = mayL t l s := ⟨_, rfl⟩
  have hol : ∀ o ∈ os, 0 ≤ o ∧ o < 5 := fun o ho => by rw [hos] at ho; have := mayTo_lt o ho; have := HX.out.2.2.2.2.2; omega
  have HO := Lib.hid hol
  have HOS := Lib.hid hos
  rw [← hos] at HP1 hlc1 ⊢
  clear hos hol
  go_wp2
  repeat (quiet_step (fail))
  refine wpQuiet_nil ?_
  obtain ⟨K1, hm1, -⟩ := HP1.out.1.met K HX.out.2.1
  have hB1 := HX.out.2.2.1.puts HP1.out.1 HX.out.2.1
  have hbx := HP1.out.1.blk HX.out.1 (HX.out.2.1.ne HX.out.1)
  have HM1 := Lib.hid (And.intro hm1 (And.intro hB1 hbx))
  have hM1 := hm1.lt
  clear hm1 hB1 hbx
  go_wp2_with fail
  go_loopg [27] os.length (fun gk' iv wr => ∃ k : Nat, k + gk' = os.length ∧ iv = .int .i64 k ∧ PutsH w1 wr M (strayTo f g h (passI deed owner now) os k))
  case atStart => exact ⟨0, by omega, rfl, PutsH.refl _ _⟩
  case round =>
    obtain ⟨k, hk', rfl, hPr⟩ := hrel
    have HK := Lib.hid hk'
    by_cases hlt : k < os.length
    · obtain ⟨bi, oi, x, hA1, hbi, hxk, hcx⟩ := Ints.get (hPr.sl HM1.out.1 HP1.out.2.2.2) hlt
      cases hA1
      have hxr := HO.out x (List.mem_of_getElem? hxk)
      obtain ⟨o, rfl⟩ := Int.eq_ofNat_of_zero_le hxr.1
      have ho5 : o < 5 := by omega
      have hst := strayTo_succ (f := f) (g := g) (h := h) (pass := passI deed owner now) hxk
      have hBr := HM1.out.2.1.puts hPr HM1.out.1
      have f0 := hPr.blk HP1.out.2.1 (HM1.out.1.ne HP1.out.2.1)
      have f1 := hPr.blk HP1.out.2.2.1 (HM1.out.1.ne HP1.out.2.2.1)
      obtain ⟨d0, d1, d2, d3, d4, -⟩ := blkD f1
      obtain ⟨p0, p1, p2, p3, p4, p5, p6, p7⟩ := blkB hBr.hp
      have HST := Lib.hid (And.intro hst (And.intro hPr hBr.hp))
      have i0 : (0 : Int) ≤ (k : Int) := by omega
      have i1 : (k : Int) < (os.length : Int) := by omega
      have i2 : wrap64 ((k : Int) + 1) = (k : Int) + 1 := IntWalk.wrap64_in _ (by unfold maxLen at hcm1; omega)
      have hwr := hPr.size
      have HKM := Lib.hid (And.intro (show gk - 1 < gk by omega) (And.intro (show k + 1 + (gk - 1) = os.length by omega) (show Value.int .i64 (wrap64 ((k : Int) + 1)) = Value.int .i64 ((k + 1 : Nat) : Int) by rw [i2]; push_cast; rfl)))
      have HD := Lib.hid (show ∀ q, PutsH w1 (wr.drewN q) M (strayTo f g h (passI deed owner now) os k) from fun q => hPr.below hM1 (below_drewN (Below.refl wr.heap.size wr) q) hPr.size)
      clear i2 hst hPr hBr hxk hxr hk'
      by_cases h1 : now = deed
      · subst h1
        by_cases h2 : (o : Int) = owner
        · subst h2
          have HQ := Lib.hid (show passI now (o : Int) now (o : Int) = true by unfold passI; simp)
          go_wp2_with fail
          go_quiet (fail)
          obtain ⟨x, hx⟩ : ∃ x, x = hadd h f o (-1) := ⟨_, rfl⟩
          obtain ⟨bb, hbb⟩ : ∃ b, b = decide (0 ≤ hget h f o + -1) := ⟨_, rfl⟩
          have hmvx := fun w => HMV.out.1 o x bb w ho5 hx hbb
          have hxo : HOk x := by rw [hx]; exact hOk_add HX.out.2.2.2.1 (by omega) hf ho5 (by omega)
          have hlx := hxo.1
          have hxb : bb = true → HBd 1000 x := fun e => by rw [hx]; rw [hbb, decide_eq_true_eq] at e; have := HX.out.2.2.2.1.get hf ho5; exact HX.out.2.2.2.1.add e (by omega) (Int.le_refl _)
          have HN := Lib.hid (HST.out.1.trans (by rw [HQ.out, if_pos rfl, stray_one hx hbb]))
          have HXB := Lib.hid hxb
          have f0q : (wr.drewN nq).heap[r]? = some (hObj h) := f0
          have f1q : (wr.drewN nq).heap[r + 1]? = _ := f1
          have hPq := HD.out nq
          clear hx hbb hxb
          go_upto_region 7 with (first
            | ((with_reducible apply wp_loadH f0q hl); (rfl); (rfl); (rfl))
            | (go_at_call 117; refine (hmvx _).mono ?_; rintro e w2 ⟨rfl, hb2⟩; have hP2 := hPq.below hM1 hb2 hPq.size; have f12 := bheap f1q hb2 (Nat.le_refl _); have bz : (w2.alloc (.cells #[.int .i64 0, .int .i64 0, .int .i64 0, .int .i64 0, .int .i64 0, .int .i64 0, .int .i64 0, .int .i64 0, .int .i64 0, .int .i64 0, .int .i64 0, .int .i64 0, .int .i64 0, .int .i64 0, .int .i64 0] 126)).heap[w2.heap.size]? = _ := alloc_at rfl; clear hb2)
            | ((with_reducible apply wp_storeH bz rfl hlx); (rfl); (rfl); (rfl); (rfl); intro w3 b03 g3 z3; have hP3 := (hP2.below hM1 (bal0 w2 _) hP2.size).grown hM1 g3 hP2.size; have f13 := gblk g3 (hblk_alloc f12 _) (Nat.ne_of_lt (heap_lt f12)); have hrr := hP2.size))
          obtain ⟨gg, hgg⟩ : ∃ gg, gg = w2.heap.size := ⟨_, rfl⟩
          rw [← hgg] at b03 hrr ⊢
          clear hgg g3 z3 hP2 hPq f12 bz f0q f1q d0 d1 d2 d3 d4 p0 p1 p2 p3 p4 p5 p6 p7 hcx f0 f1
          cases bb with
          | false =>
            go_wp2_with fail
            go_roundg (gk - 1)
            case measure => exact HKM.out.1
            case rel => exact ⟨k + 1, HKM.out.2.1, HKM.out.2.2, by rw [HN.out, if_neg Bool.false_ne_true, List.append_nil]; exact hP3⟩
          | true =>
            have hxy := HXB.out rfl
            obtain ⟨y, hy⟩ : ∃ y, y = hadd x g o 1 := ⟨_, rfl⟩
            have hyo : HOk y := by rw [hy]; exact hOk_add hxy (by omega) hg ho5 (by omega)
            have hly := hyo.1
            have hmvy := fun w => HMV.out.2 o x y w ho5 hxy hy
            have HY := Lib.hid hy
            clear hy hxy
            obtain ⟨d0, d1, d2, d3, d4, -⟩ := blkD f13
            have h15 := hcs_size x
            go_upto_region 9 with (first
              | ((with_reducible apply wp_loadH b03 hlx); (rfl); (rfl); (rfl))
              | (go_at_call 117; refine (hmvy _).mono ?_; rintro e w4 ⟨rfl, hb4⟩; have hP4 := hP3.below hM1 hb4 hP3.size; have b04 := bheap b03 hb4 (Nat.le_refl _); clear hb4)
              | ((with_reducible apply wp_storeH b04 (h15.trans hlx) hly); (rfl); (rfl); (rfl); (rfl); intro w5 b05 g5 z5; have hP5 := hP4.grown hM1 g5 hrr))
            go_wp2_with (first
              | ((with_reducible apply wp_loadH b05 hly); (rfl); (rfl); (rfl))
              | (go_at_call 110; refine (then_p hP5 HM1.out.2.2 HM1.out.1 hyo).mono ?_; rintro e w6 ⟨rfl, hP6⟩))
            go_roundg (gk - 1)
            case measure => exact HKM.out.1
            case rel => exact ⟨k + 1, HKM.out.2.1, HKM.out.2.2, by rw [HN.out, if_pos trivial, ← HY.out]; exact hP6⟩
        · have HQ := Lib.hid (show passI now owner now (o : Int) = false by unfold passI; simp [h2])
          have hq2 : ((o : Int) != owner) = true := bne_iff_ne.2 h2
          clear h2
          go_wp2_with fail
          go_quiet (fail)
          go_wp2_with fail
          go_roundg (gk - 1)
          case measure => exact HKM.out.1
          case rel => exact ⟨k + 1, HKM.out.2.1, HKM.out.2.2, by rw [HST.out.1, HQ.out, if_neg Bool.false_ne_true, List.append_nil]; exact HD.out nq⟩
      · have HQ := Lib.hid (show passI deed owner now (o : Int) = true by unfold passI; simp [h1])
        have hq1 : (now == deed) = false := beq_eq_false_iff_ne.2 h1
        go_wp2_with fail
        go_quiet (fail)
        obtain ⟨x, hx⟩ : ∃ x, x = hadd h f o (-1) := ⟨_, rfl⟩
        obtain ⟨bb, hbb⟩ : ∃ b, b = decide (0 ≤ hget h f o + -1) := ⟨_, rfl⟩
        have hmvx := fun w => HMV.out.1 o x bb w ho5 hx hbb
        have hxo : HOk x := by rw [hx]; exact hOk_add HX.out.2.2.2.1 (by omega) hf ho5 (by omega)
        have hlx := hxo.1
        have hxb : bb = true → HBd 1000 x := fun e => by rw [hx]; rw [hbb, decide_eq_true_eq] at e; have := HX.out.2.2.2.1.get hf ho5; exact HX.out.2.2.2.1.add e (by omega) (Int.le_refl _)
        have HN := Lib.hid (HST.out.1.trans (by rw [HQ.out, if_pos rfl, stray_one hx hbb]))
        have HXB := Lib.hid hxb
        have f0q : (wr.drewN nq).heap[r]? = some (hObj h) := f0
        have f1q : (wr.drewN nq).heap[r + 1]? = _ := f1
        have hPq := HD.out nq
        clear hx hbb hxb
        go_upto_region 7 with (first
          | ((with_reducible apply wp_loadH f0q hl); (rfl); (rfl); (rfl))
          | (go_at_call 117; refine (hmvx _).mono ?_; rintro e w2 ⟨rfl, hb2⟩; have hP2 := hPq.below hM1 hb2 hPq.size; have f12 := bheap f1q hb2 (Nat.le_refl _); have bz : (w2.alloc (.cells #[.int .i64 0, .int .i64 0, .int .i64 0, .int .i64 0, .int .i64 0, .int .i64 0, .int .i64 0, .int .i64 0, .int .i64 0, .int .i64 0, .int .i64 0, .int .i64 0, .int .i64 0, .int .i64 0, .int .i64 0] 126)).heap[w2.heap.size]? = _ := alloc_at rfl; clear hb2)
          | ((with_reducible apply wp_storeH bz rfl hlx); (rfl); (rfl); (rfl); (rfl); intro w3 b03 g3 z3; have hP3 := (hP2.below hM1 (bal0 w2 _) hP2.size).grown hM1 g3 hP2.size; have f13 := gblk g3 (hblk_alloc f12 _) (Nat.ne_of_lt (heap_lt f12)); have hrr := hP2.size))
        obtain ⟨gg, hgg⟩ : ∃ gg, gg = w2.heap.size := ⟨_, rfl⟩
        rw [← hgg] at b03 hrr ⊢
        clear hgg g3 z3 hP2 hPq f12 bz f0q f1q d0 d1 d2 d3 d4 p0 p1 p2 p3 p4 p5 p6 p7 hcx f0 f1
        cases bb with
        | false =>
          go_wp2_with fail
          go_roundg (gk - 1)
          case measure => exact HKM.out.1
          case rel => exact ⟨k + 1, HKM.out.2.1, HKM.out.2.2, by rw [HN.out, if_neg Bool.false_ne_true, List.append_nil]; exact hP3⟩
        | true =>
          have hxy := HXB.out rfl
          obtain ⟨y, hy⟩ : ∃ y, y = hadd x g o 1 := ⟨_, rfl⟩
          have hyo : HOk y := by rw [hy]; exact hOk_add hxy (by omega) hg ho5 (by omega)
          have hly := hyo.1
          have hmvy := fun w => HMV.out.2 o x y w ho5 hxy hy
          have HY := Lib.hid hy
          clear hy hxy
          obtain ⟨d0, d1, d2, d3, d4, -⟩ := blkD f13
          have h15 := hcs_size x
          go_upto_region 9 with (first
            | ((with_reducible apply wp_loadH b03 hlx); (rfl); (rfl); (rfl))
            | (go_at_call 117; refine (hmvy _).mono ?_; rintro e w4 ⟨rfl, hb4⟩; have hP4 := hP3.below hM1 hb4 hP3.size; have b04 := bheap b03 hb4 (Nat.le_refl _); clear hb4)
            | ((with_reducible apply wp_storeH b04 (h15.trans hlx) hly); (rfl); (rfl); (rfl); (rfl); intro w5 b05 g5 z5; have hP5 := hP4.grown hM1 g5 hrr))
          go_wp2_with (first
            | ((with_reducible apply wp_loadH b05 hly); (rfl); (rfl); (rfl))
            | (go_at_call 110; refine (then_p hP5 HM1.out.2.2 HM1.out.1 hyo).mono ?_; rintro e w6 ⟨rfl, hP6⟩))
          go_roundg (gk - 1)
          case measure => exact HKM.out.1
          case rel => exact ⟨k + 1, HKM.out.2.1, HKM.out.2.2, by rw [HN.out, if_pos trivial, ← HY.out]; exact hP6⟩
    · obtain rfl : k = os.length := by omega
      have hfin : strayTo f g h (passI deed owner now) os os.length = strayL f g h (os.filter (passI deed owner now)) := by unfold strayTo; rw [List.take_length]
      have HF := Lib.hid (HP1.out.1.trans hPr)
      have HFI := Lib.hid hfin
      clear hPr hfin
      go_wp2_with fail
      go_end0
      exact ⟨rfl, by have := HF.out; rw [HFI.out, HOS.out] at this; exact this⟩
end Go.Proofs.Ytgnjknihgjdedaa
namespace Go.Proofs.Ytgnjknihgjdedaa
open Go.RowKit Go.MapKept
set_option linter.unusedVariables false
set_option linter.unusedSimpArgs false

structure Chs (w : World) (bT bB bD bC B M p : Nat) (t : Int) (A : Option Addr) (n c : Nat) (l : List Mk) (ks hs ds : Value) (deed owner now : Int) (d : De) : Prop where
  hT : w.heap[bT]? = some (.cells #[.func (.func 110) #[] #[.pointer (some ⟨B, 0, none⟩)]] 191 (0, 0))
  hB : w.heap[bB]? = some (.cells #[.pointer (some ⟨p, 0, none⟩)] 116 (0, 0))
  hD : w.heap[bD]? = some (dObj d)
  hC : w.heap[bC]? = some (.cells #[.func (.func 118) #[] #[.pointer (some ⟨bT, 0, none⟩), .pointer (some ⟨bB, 0, none⟩), .pointer (some ⟨bD, 0, none⟩), .pointer (some ⟨bC, 0, none⟩)]] 194 (0, 0))
  hb : w.heap[B]? = some (.cells #[.map (some M)] 187 (0, 0))
  hk : Book w p t A n c l ks hs ds deed owner now
theorem Chs.puts {w w' : World} {bT bB bD bC B M p : Nat} {t : Int} {A : Option Addr} {n c : Nat} {l : List Mk} {ks hs ds : Value} {deed owner now : Int} {d : De} {L K : List (List Int)} (h : Chs w bT bB bD bC B M p t A n c l ks hs ds deed owner now d) (hP : PutsH w w' M L) (hm : MetH w M K) : Chs w' bT bB bD bC B M p t A n c l ks hs ds deed owner now d :=
  ⟨hP.blk h.hT (hm.ne h.hT), hP.blk h.hB (hm.ne h.hB), hP.blk h.hD (hm.ne h.hD), hP.blk h.hC (hm.ne h.hC), hP.blk h.hb (hm.ne h.hb), h.hk.puts hP hm⟩
def lostPre (n f : Nat) (j : Nat) (h : List Int) (m k : Nat) : List (List Int) := (List.range k).flatMap fun (k : Nat) => match mvd h f (n - (j + 1)) (-(k : Int)) with | some x => lostJ n f j x (m - k) | none => []
theorem lostPre_all {n f j : Nat} {h : List Int} {m : Nat} (hm : m ≠ 0) : lostJ n f (j + 1) h m = lostPre n f j h m (m + 1) := by
  conv => lhs; unfold lostJ
  rw [if_neg hm]; rfl
theorem lostPre_succ {n f j : Nat} {h x : List Int} {m k q : Nat} {b : Bool} (hq : q + (j + 1) = n) (hx : x = hadd h f q (-(k : Int))) (hb : b = decide (0 ≤ hget h f q + -(k : Int))) :
    lostPre n f j h m (k + 1) = lostPre n f j h m k ++ if b = true then lostJ n f j x (m - k) else [] := by
  unfold lostPre
  rw [List.range_succ, List.flatMap_append]
  congr 1
  rw [List.flatMap_cons, List.flatMap_nil, List.append_nil, show n - (j + 1) = q by omega]
  unfold mvd
  rw [hb, hx]
  by_cases h0 : 0 ≤ hget h f q + -(k : Int)
  · rw [if_pos h0, if_pos (decide_eq_true h0)]
  · rw [if_neg h0, if_neg (by simp [h0])]

set_option maxRecDepth 100000 in
set_option maxHeartbeats 2000000 in
theorem choose_any (bT bB bD bC B M p : Nat) (t : Int) (A : Option Addr) (c : Nat) (l : List Mk) (ks hs ds : Value) (deed owner now : Int) (d : De) (f nf : Nat) (hd : DeIn l.length nf d) (hnf : nf ≤ 3) (hfd : d.flock = (f : Int)) :
    ∀ (j : Nat) (h : List Int) (m q : Nat) (qi mi : Int) (K : List (List Int)) (w : World), q + j = l.length → qi = (q : Int) → mi = (m : Int) → m ≤ 300 → HBd 1000 h → Chs w bT bB bD bC B M p t A l.length c l ks hs ds deed owner now d → MetH w M K →
      Calls Try.prog 118 #[.agg (hcs h), .int .i64 qi, .int .i64 mi, .pointer (some ⟨bT, 0, none⟩), .pointer (some ⟨bB, 0, none⟩), .pointer (some ⟨bD, 0, none⟩), .pointer (some ⟨bC, 0, none⟩)] w fun e w' => e = .returned (.tuple #[]) ∧ PutsH w w' M (lostJ l.length f j h m) := by
  have hf : f < 3 := by have := hd.f; omega
  intro j
  induction j with
  | zero =>
    intro h m q qi mi K w hq hqi hmi hm3 hh hC hm
    have hM := hm.lt
    have hl := hh.1
    have hxo : HOk h := HOk.of hh (by omega)
    subst hqi hmi
    have hP : PutsH w (w.alloc (Obj.cells (hcs h) 126)) M [] := (PutsH.refl w M).below hM (bal0 w _) (Nat.le_refl _)
    have hC1 := hC.puts hP hm
    have b0 : (w.alloc (Obj.cells (hcs h) 126)).heap[w.heap.size]? = some (hObj h) := alloc_at rfl
    have cT := blk1 hC1.hT
    have cB := blk1 hC1.hB
    obtain ⟨p0, p1, -⟩ := blkB hC1.hk.hp
    have HX := Lib.hid (And.intro hC.hb hm)
    have hqn : (q : Int) = (l.length : Int) := by omega
    by_cases h0 : m = 0
    · subst h0
      rw [show lostJ l.length f 0 h 0 = [h] from rfl]
      clear hqn hC hC1
      go_enter Try.func118, Try.ntmps118
      go_wp2_with (first
        | ((with_reducible apply wp_loadH b0 hl); (rfl); (rfl); (rfl))
        | (go_at_call 110; refine (then_p hP HX.out.1 HX.out.2 hxo).mono ?_; rintro e w6 ⟨rfl, hP6⟩))
      go_end0
      exact ⟨rfl, hP6⟩
    · rw [show lostJ l.length f 0 h m = [] by unfold lostJ; rw [if_neg h0]]
      have x0 : ((m : Int) == 0) = false := beq_eq_false_iff_ne.2 (by omega)
      have x1 : ¬ (q : Int) < (l.length : Int) := by omega
      clear hqn hC hC1 h0
      go_enter Try.func118, Try.ntmps118
      go_wp2_with fail
      go_end0
      exact ⟨rfl, hP⟩
  | succ j ih =>
    intro h m q qi mi K w hq hqi hmi hm3 hh hC hm
    have hM := hm.lt
    have hl := hh.1
    have hxo : HOk h := HOk.of hh (by omega)
    subst hqi hmi
    by_cases h0 : m = 0
    · subst h0
      have hP : PutsH w (w.alloc (Obj.cells (hcs h) 126)) M [] := (PutsH.refl w M).below hM (bal0 w _) (Nat.le_refl _)
      have hC1 := hC.puts hP hm
      have b0 : (w.alloc (Obj.cells (hcs h) 126)).heap[w.heap.size]? = some (hObj h) := alloc_at rfl
      have cT := blk1 hC1.hT
      have HX := Lib.hid (And.intro hC.hb hm)
      rw [show lostJ l.length f (j + 1) h 0 = [h] from rfl]
      clear hC hC1 ih
      go_enter Try.func118, Try.ntmps118
      go_wp2_with (first
        | ((with_reducible apply wp_loadH b0 hl); (rfl); (rfl); (rfl))
        | (go_at_call 110; refine (then_p hP HX.out.1 HX.out.2 hxo).mono ?_; rintro e w6 ⟨rfl, hP6⟩))
      go_end0
      exact ⟨rfl, hP6⟩
    · rw [lostPre_all h0]
      obtain ⟨W, hW⟩ : ∃ W, W = w.alloc (Obj.cells (hcs h) 126) := ⟨_, rfl⟩
      have b0 : W.heap[w.heap.size]? = some (hObj h) := by rw [hW]; exact alloc_at rfl
      have hP : PutsH w W M [] := by rw [hW]; exact (PutsH.refl w M).below hM (bal0 w _) (Nat.le_refl _)
      have hC1 := hC.puts hP hm
      obtain ⟨K1, hm1, -⟩ := hP.met K hm
      have x0 : ((m : Int) == 0) = false := beq_eq_false_iff_ne.2 (by omega)
      have x1 : (q : Int) < (l.length : Int) := by omega
      have x2 : wrap64 ((m : Int) + 1) = (m : Int) + 1 := IntWalk.wrap64_in _ (by omega)
      have hq5 : q < 5 := by have := (check_ok hC.hk.ck).2.2.1; omega
      have cB := blk1 hC1.hB
      obtain ⟨p0, p1, -⟩ := blkB hC1.hk.hp
      have hM1 := hm1.lt
      have HX := Lib.hid (And.intro hC1 (And.intro hm1 (And.intro hP (And.intro hh (And.intro hq (And.intro ih hW))))))
      have HQ := Lib.hid (And.intro hd (And.intro hnf hfd))
      obtain ⟨r, hr⟩ : ∃ r, r = w.heap.size := ⟨_, rfl⟩
      clear h0 hC hm ih hC1 hm1 hP hh hq hd hnf hfd
      go_enter Try.func118, Try.ntmps118
      go_upto_region 1 with (fail)
      rw [← hW, ← hr]
      rw [← hr] at b0
      clear hW hr
      go_wp2_with fail
      go_loopg [31] (m + 1) (fun g iv wr => ∃ k : Nat, k + g = m + 1 ∧ iv = .int .i64 k ∧ PutsH W wr M (lostPre l.length f j h m k))
      case atStart => exact ⟨0, by omega, rfl, PutsH.refl _ _⟩
      case round =>
        obtain ⟨k, hk', rfl, hPr⟩ := hrel
        by_cases hlt : k < m + 1
        · have i0 : (0 : Int) ≤ (k : Int) := by omega
          have i1 : (k : Int) < (m : Int) + 1 := by omega
          have HKM := Lib.hid (And.intro (show gk - 1 < gk by omega) (And.intro (show k + 1 + (gk - 1) = m + 1 by omega) (And.intro (show (q + 1) + j = l.length by have := HX.out.2.2.2.2.1; omega) (And.intro (show ((q : Int) + 1) = ((q + 1 : Nat) : Int) by push_cast; rfl) (And.intro (show ((m : Int) - (k : Int)) = ((m - k : Nat) : Int) by omega) (show m - k ≤ 300 by omega))))))
          have hCr := HX.out.1.puts hPr HX.out.2.1
          have f0 := hPr.blk b0 (HX.out.2.1.ne b0)
          obtain ⟨x, hx⟩ : ∃ x, x = hadd h f q (-(k : Int)) := ⟨_, rfl⟩
          obtain ⟨b, hbb⟩ : ∃ b, b = decide (0 ≤ hget h f q + -(k : Int)) := ⟨_, rfl⟩
          have hst := lostPre_succ (n := l.length) (j := j) (m := m) HX.out.2.2.2.2.1 hx hbb
          have hmv := fun w => moved_c (x := x) (b := b) w hx hbb hl hf hq5 (by have := HX.out.2.2.2.1.get hf hq5; omega) (by omega)
          have hxok : HOk x := by rw [hx]; exact hOk_add HX.out.2.2.2.1 (by omega) hf hq5 (by omega)
          have hlx := hxok.1
          have hxb : b = true → HBd 1000 x := fun e => by rw [hx]; rw [hbb, decide_eq_true_eq] at e; have := HX.out.2.2.2.1.get hf hq5; exact HX.out.2.2.2.1.add e (by omega) (Int.le_refl _)
          have cT := blk1 hCr.hT
          have cC := blk1 hCr.hC
          obtain ⟨d0, d1, -⟩ := blkD hCr.hD
          rw [HQ.out.2.2] at d1
          have HST := Lib.hid (And.intro hst (And.intro hPr hxb))
          clear hx hbb hst hPr hxb hk' hCr d0
          clear x2
          have HIV := Lib.hid (show Value.int .i64 ((k : Int) + 1) = Value.int .i64 ((k + 1 : Nat) : Int) by push_cast; rfl)
          go_upto_region 8 with (first
            | ((with_reducible apply wp_loadH f0 hl); (rfl); (rfl); (rfl))
            | (go_at_call 117; refine (hmv _).mono ?_; rintro e w2 ⟨rfl, hb2⟩; have hP2 := HST.out.2.1.below hM1 hb2 HST.out.2.1.size; have bz : (w2.alloc (.cells #[.int .i64 0, .int .i64 0, .int .i64 0, .int .i64 0, .int .i64 0, .int .i64 0, .int .i64 0, .int .i64 0, .int .i64 0, .int .i64 0, .int .i64 0, .int .i64 0, .int .i64 0, .int .i64 0, .int .i64 0] 126)).heap[w2.heap.size]? = _ := alloc_at rfl; clear hb2)
            | ((with_reducible apply wp_storeH bz rfl hlx); (rfl); (rfl); (rfl); (rfl); intro w3 b03 g3 z3; have hP3 := (hP2.below hM1 (bal0 w2 _) hP2.size).grown hM1 g3 hP2.size))
          obtain ⟨gg, hgg⟩ : ∃ gg, gg = w2.heap.size := ⟨_, rfl⟩
          rw [← hgg] at b03 ⊢
          clear hgg g3 z3 hP2 bz f0 cT cC d1
          have hC3 := HX.out.1.puts hP3 HX.out.2.1
          obtain ⟨K3, hm3', -⟩ := hP3.met _ HX.out.2.1
          have cC := blk1 hC3.hC
          have H3 := Lib.hid (And.intro hC3 (And.intro hm3' hP3))
          clear hC3 hm3' hP3
          cases b with
          | false =>
            go_wp2_with fail
            go_roundg (gk - 1)
            case measure => exact HKM.out.1
            case rel => exact ⟨k + 1, HKM.out.2.1, HIV.out, by rw [HST.out.1, if_neg Bool.false_ne_true, List.append_nil]; exact H3.out.2.2⟩
          | true =>
            go_wp2_with (first
              | ((with_reducible apply wp_loadH b03 hlx); (rfl); (rfl); (rfl))
              | (go_at_call 118; refine (HX.out.2.2.2.2.2.1 x (m - k) (q + 1) _ _ K3 _ HKM.out.2.2.1 HKM.out.2.2.2.1 HKM.out.2.2.2.2.1 HKM.out.2.2.2.2.2 (HST.out.2.2 rfl) H3.out.1 H3.out.2.1).mono ?_; rintro e w6 ⟨rfl, hP6⟩; have H6 := Lib.hid (H3.out.2.2.trans hP6); clear hP6))
            go_roundg (gk - 1)
            case measure => exact HKM.out.1
            case rel => exact ⟨k + 1, HKM.out.2.1, HIV.out, by rw [HST.out.1, if_pos trivial]; exact H6.out⟩
        · obtain rfl : k = m + 1 := by omega
          have HF := Lib.hid (HX.out.2.2.1.trans hPr)
          clear hPr
          go_wp2_with fail
          go_end0
          exact ⟨rfl, HF.out⟩

set_option maxRecDepth 100000 in
set_option maxHeartbeats 2000000 in
theorem lost_any (p : Nat) (t : Int) (A : Option Addr) (c : Nat) (l : List Mk) (ks hs ds : Value) (deed owner now : Int) (h : List Int) (d : De) (nf : Nat) (B M : Nat) (K : List (List Int)) (w : World) (hA : Ask l.length nf B M K h d w) (hB : Book w p t A l.length c l ks hs ds deed owner now) (hk : d.kind = 4) :
    Calls Try.prog 114 #[.pointer (some ⟨p, 0, none⟩), .agg (hcs h), dv d, .func (.func 110) #[] #[.pointer (some ⟨B, 0, none⟩)]] w fun e w' => e = .returned (.tuple #[]) ∧ PutsH w w' M (lostJ l.length d.flock.toNat l.length h d.many.toNat) := by
  obtain ⟨hb, hm, hh, hd, hnf⟩ := hA
  have hM := hm.lt
  have hl := hh.1
  have hmy := hd.m
  have hfd : d.flock = ((d.flock.toNat : Nat) : Int) := by have := hd.f; omega
  have hmd : d.many = ((d.many.toNat : Nat) : Int) := by omega
  have hm3 : d.many.toNat ≤ 300 := by omega
  have HC := Lib.hid (fun bT bB bD bC w' K' hC hm' => choose_any bT bB bD bC B M p t A c l ks hs ds deed owner now d d.flock.toNat nf hd hnf hfd l.length h d.many.toNat 0 0 d.many K' w' (by omega) rfl hmd hm3 hh hC hm')
  have HX := Lib.hid (And.intro hb (And.intro hm hB))
  clear hd hnf hfd hmd hm3 hh hb hm hB hmy hk
  unfold dv
  go_enter Try.func114, Try.ntmps114
  go_upto_region 2 with (fail)
  obtain ⟨W, hW⟩ : ∃ W, W = ((((w.alloc (Obj.cells #[Value.pointer (some ⟨p, 0, none⟩)] 116)).alloc (Obj.cells (hcs h) 126)).alloc (dObj d)).alloc (Obj.cells #[Value.func (Fn.func 110) #[] #[Value.pointer (some ⟨B, 0, none⟩)]] 191)).alloc (Obj.cells #[Value.nilFunc] 194) := ⟨_, rfl⟩
  have b0 : W.heap[w.heap.size]? = some (Obj.cells #[Value.pointer (some ⟨p, 0, none⟩)] 116 (0, 0)) := by rw [hW]; exact hblk_alloc (hblk_alloc (hblk_alloc (hblk_alloc (alloc_at rfl) _) _) _) _
  have b1 : W.heap[w.heap.size + 1]? = some (hObj h) := by rw [hW]; exact hblk_alloc (hblk_alloc (hblk_alloc (alloc_at (by simp)) _) _) _
  have b2 : W.heap[w.heap.size + 1 + 1]? = some (dObj d) := by rw [hW]; exact hblk_alloc (hblk_alloc (alloc_at (by simp)) _) _
  have b3 : W.heap[w.heap.size + 1 + 1 + 1]? = some (Obj.cells #[Value.func (Fn.func 110) #[] #[Value.pointer (some ⟨B, 0, none⟩)]] 191 (0, 0)) := by rw [hW]; exact hblk_alloc (alloc_at (by simp)) _
  have b4 : W.heap[w.heap.size + 1 + 1 + 1 + 1]? = some (Obj.cells #[Value.nilFunc] 194 (0, 0)) := by rw [hW]; exact alloc_at (by simp)
  have hP : PutsH w W M [] := by rw [hW]; exact (PutsH.refl w M).below hM (bal (bal (bal (bal (bal0 w _) (Nat.le_refl _) _) (Nat.le_refl _) _) (Nat.le_refl _) _) (Nat.le_refl _) _) (Nat.le_refl _)
  rw [← hW]
  clear hW
  obtain ⟨r, hr⟩ : ∃ r, r = w.heap.size := ⟨_, rfl⟩
  have HR := Lib.hid (show w.heap.size ≤ r by omega)
  rw [← hr] at b0 b1 b2 b3 b4 ⊢
  clear hr
  have c4 := blk1 b4
  have f4 := frz b4 0
  go_upto_region 3 with (fail)
  obtain ⟨F, hF⟩ : ∃ F, F = Value.func (Fn.func 118) #[] #[.pointer (some ⟨r + 1 + 1 + 1, 0, none⟩), .pointer (some ⟨r, 0, none⟩), .pointer (some ⟨r + 1 + 1, 0, none⟩), .pointer (some ⟨r + 1 + 1 + 1 + 1, 0, none⟩)] := ⟨_, rfl⟩
  have hfar : ∀ j, j ≠ r + 1 + 1 + 1 + 1 → (W.setCell ⟨r + 1 + 1 + 1 + 1, 0, none⟩ F).heap[j]? = W.heap[j]? := fun j hj => Below.heap_setCell _ ⟨r + 1 + 1 + 1 + 1, 0, none⟩ _ _ hj
  have e4 : (W.setCell ⟨r + 1 + 1 + 1 + 1, 0, none⟩ F).heap[r + 1 + 1 + 1 + 1]? = some (Obj.cells #[F] 194 (0, 0)) := set_blk b4
  have e0 := (hfar r (by omega)).trans b0
  have e1 := (hfar (r + 1) (by omega)).trans b1
  have e2 := (hfar (r + 1 + 1) (by omega)).trans b2
  have e3 := (hfar (r + 1 + 1 + 1) (by omega)).trans b3
  have hrr := HR.out
  have hP2 : PutsH w (W.setCell ⟨r + 1 + 1 + 1 + 1, 0, none⟩ F) M [] := hP.quiet hM (by simpa using hP.size) rfl rfl rfl (fun k hk => hfar k (by omega))
  rw [← hF]
  generalize W.setCell ⟨r + 1 + 1 + 1 + 1, 0, none⟩ F = W2 at e0 e1 e2 e3 e4 hP2 ⊢
  clear hfar b0 b1 b2 b3 b4 c4 f4 hP
  have hBk := HX.out.2.2.puts hP2 HX.out.2.1
  obtain ⟨K2, hm2, -⟩ := hP2.met K HX.out.2.1
  have hb2 := hP2.blk HX.out.1 (HX.out.2.1.ne HX.out.1)
  rw [hF] at e4
  have HCh := Lib.hid (And.intro (Chs.mk e3 e0 e2 e4 hb2 hBk) (And.intro hm2 hP2))
  rw [hF]
  have c4 := blk1 e4
  obtain ⟨-, -, -, -, -, d5, -⟩ := blkD e2
  clear hF e0 e2 e3 hBk hm2 hb2 hP2 hrr
  go_wp2_with (first
    | ((with_reducible apply wp_loadH e1 hl); (rfl); (rfl); (rfl))
    | (go_at_call 118; refine (HC.out _ _ _ _ _ K2 HCh.out.1 HCh.out.2.1).mono ?_; rintro e w6 ⟨rfl, hP6⟩; have H6 := Lib.hid (HCh.out.2.2.trans hP6); clear hP6))
  go_end0
  exact ⟨rfl, H6.out⟩
end Go.Proofs.Ytgnjknihgjdedaa
