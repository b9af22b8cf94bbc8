/- mark.mixed: with how many losses two marks can be mistaken for each other. -/
import Derived.Test.YtoidaigiejilcaaDoorWorn
namespace Go.Proofs.YtoidaigiejilcaaDoor
open Go.RowKit Go.Shelf
set_option linter.unusedVariables false
set_option linter.unusedSimpArgs false
attribute [local go_sem] Oper.semAt_some

set_option maxRecDepth 100000 in
set_option maxHeartbeats 2000000 in
theorem mixed_any (a b : Mk) (t : Int) (w : World) (ha : 0 ≤ a.n) (ha' : a.n ≤ 255) (hb : 0 ≤ b.n) (hb' : b.n ≤ 255) :
    Calls Tryd.prog 45 #[vMk a, vMk b, .int .i64 t] w fun e w' => e = .returned (.int .i64 (mixedS a b t)) ∧ Below w.heap.size w w' := by
  refine (callsIn_wide (n := 9)).1 ?_
  refine callsIn_of_wp_marks Tryd.func45 rfl trivial ?_ rfl
  simp only [Tryd.ntmps45, List.size_toArray, List.length_cons, List.length_nil, Nat.reduceAdd, Nat.reduceSub, Array.replicate_succ, Array.replicate_zero, List.push_toArray, List.append_toArray, List.nil_append, List.cons_append]
  unfold vMk
  refine wpIn_wide.2 ?_
  go_wp2_with (go_at_call 65; refine (worn_any _).mono ?_; rintro e w' ⟨rfl, rfl⟩)
  go_step3
  go_wp2_with (go_at_call 65; refine (worn_any _).mono ?_; rintro e w' ⟨rfl, rfl⟩)
  go_step3
  go_wp2_with (go_at_call 65; refine (worn_any _).mono ?_; rintro e w' ⟨rfl, rfl⟩)
  obtain ⟨w1, hw1⟩ : ∃ w1, w1 = (((w.alloc (Obj.cells #[Value.int .i64 a.n, .int .i64 a.b, .int .i64 a.p] 52)).alloc (Obj.cells #[Value.int .i64 b.n, .int .i64 b.b, .int .i64 b.p] 52)).alloc (Obj.cells #[Value.int .i64 t] 3)).alloc (Obj.cells #[Value.int .i64 5] 3) := ⟨_, rfl⟩
  rw [← hw1]
  have b3 : w1.heap[w.heap.size]? = some (Obj.cells #[Value.int .i64 a.n, .int .i64 a.b, .int .i64 a.p] 52 (0, 0)) := by rw [hw1]; exact hblk_alloc (hblk_alloc (hblk_alloc (alloc_at rfl) _) _) _
  have b4 : w1.heap[w.heap.size + 1]? = some (Obj.cells #[Value.int .i64 b.n, .int .i64 b.b, .int .i64 b.p] 52 (0, 0)) := by rw [hw1]; exact hblk_alloc (hblk_alloc (alloc_at (by simp)) _) _
  have b5 : w1.heap[w.heap.size + 1 + 1]? = some (Obj.cells #[Value.int .i64 t] 3 (0, 0)) := by rw [hw1]; exact hblk_alloc (alloc_at (by simp)) _
  have b7 : w1.heap[w.heap.size + 1 + 1 + 1]? = some (Obj.cells #[Value.int .i64 5] 3 (0, 0)) := by rw [hw1]; exact alloc_at (by simp)
  have hB0 : Below w.heap.size w w1 := by rw [hw1]; exact ((((Below.refl _ _).alloc (Nat.le_refl _) _).alloc (by simp) _).alloc (by simp; omega) _).alloc (by simp; omega) _
  have hz : w1.heap.size = w.heap.size + 4 := by rw [hw1]; simp
  clear hw1
  have HBK := Lib.hid (And.intro b3 (And.intro b4 (And.intro b5 b7)))
  clear b3 b4 b5 b7
  have HZ := Lib.hid hz
  have hz' : w.heap.size + 3 < w1.heap.size := by omega
  clear hz
  refine (wpIn_wide (n := 9)).1 ?_
  refine wpIn_rangeFunc_ownH rfl (by omega) (gf := 75) (lb := #[]) rfl trivial (enters_of Tryd.func75 (by kernel_rfl) rfl)
    (worn_stops 8 (by omega) (Below w1.heap.size) w1) belowK_t (belowK_b (Nat.le_refl _)) (Below.refl _ _) (fun _ => rfl)
    (fun pre W => (∀ y ∈ pre, alikeW a b t y.2 = false) ∧ Below w1.heap.size w1 W)
    (fun c pre W => (∃ q y, pre = q ++ [y] ∧ (∀ z ∈ q, alikeW a b t z.2 = false) ∧ alikeW a b t y.2 = true ∧ c = .exit 0 ∧ W.cell? ⟨w.heap.size + 1 + 1 + 1, 0, none⟩ = some (.int .i64 y.1)) ∧ Below w.heap.size w W)
    (OwnFrom.and (ownFrom_pure _ _) (ownFrom_below (Nat.le_refl _) (Nat.le_refl _)))
    (fun c => OwnFrom.and (Own.from (fun pre A B row hs hg hr => by
      obtain ⟨q, y, h1, h2, h3, h4, h5⟩ := hs
      exact ⟨q, y, h1, h2, h3, h4, cell_kept h5 hg hr⟩) _) (ownFrom_below (Nat.le_refl _) (by omega)))
    ⟨by simp, Below.refl _ _⟩
    (fun x a' W => ∃ Bx, w1.heap.size ≤ Bx ∧ W.heap[Bx]? = some (Obj.cells #[.int .i64 x.2.n, .bool x.2.l, .bool x.2.r, .int .i64 x.2.b, .int .i64 x.2.p] 42 (0, 0)) ∧
      a' = { tmps := #[.agg #[.int .i64 a.n, .int .i64 a.b, .int .i64 a.p], .agg #[.int .i64 b.n, .int .i64 b.b, .int .i64 b.p], .int .i64 t, .pointer (some ⟨w.heap.size, 0, none⟩), .pointer (some ⟨w.heap.size + 1, 0, none⟩), .pointer (some ⟨w.heap.size + 1 + 1, 0, none⟩), .int .i64 0, .pointer (some ⟨w.heap.size + 1 + 1 + 1, 0, none⟩), .int .i64 x.1, .pointer (some ⟨Bx, 0, none⟩), undef, undef, .func (.func 75) #[] #[], .int .i64 x.1, vSg x.2, undef, undef, undef, undef, undef, undef, undef, undef, undef, undef, undef, undef, undef, undef, undef, undef, undef, undef, undef, undef, undef, undef, undef, undef, undef, undef, undef, undef, undef, undef, undef, undef, undef, undef, undef, undef, undef, undef, undef, undef, undef, undef, undef, undef, undef, undef], defers := [] })
    (fun x a' _ A B row hs hg hr => by
      obtain ⟨Bx, h1, h2, h3⟩ := hs
      exact ⟨Bx, h1, blk_kept h2 rfl hg (fun r e => (hr r e).2), h3⟩)
    ?assign ?body ?done ?stop
  case assign =>
    rintro l pre x W K ⟨hp, hB⟩ hK
    unfold encW vSg
    gi_wp2
    refine hK _ _ ((KeepsOthers.alloc _ _).from _) ((Below.refl _ _).alloc hB.size _) ⟨hp, hB.alloc hB.size _⟩ ⟨W.heap.size, hB.size, alloc_at rfl, rfl⟩
  case body =>
    rintro l pre x a' W hl hrec ⟨hp, hB⟩ ⟨Bx, hBx, hbx, rfl⟩ hlen
    obtain ⟨m, s⟩ := x
    dsimp only at hbx ⊢
    have hzW := hB.size
    obtain ⟨b3, b4, b5, b7⟩ := HBK.out
    obtain ⟨a0, a1, a2⟩ := blk3 (bheap b3 hB (Nat.le_refl _))
    obtain ⟨d0, d1, d2⟩ := blk3 (bheap b4 hB (Nat.le_refl _))
    have c5 := blk1 (bheap b5 hB (Nat.le_refl _))
    have c7 := blk1 (bheap b7 hB (Nat.le_refl _))
    have f7 : W.frozen? ⟨w.heap.size + 1 + 1 + 1, 0, none⟩ = false := free_of_one (bheap b7 hB (Nat.le_refl _))
    obtain ⟨s0, s1, s2, s3, s4⟩ := blk5 hbx
    have HW := Lib.hid (And.intro (And.intro a1 a2) (And.intro (And.intro d1 d2) (And.intro c5 (And.intro (And.intro c7 f7) (And.intro s3 s4)))))
    have k0 := cell_regrown a0
    have k1 := cell_regrown d0
    have k2 := cell_regrown s0
    have k3 := cell_regrown s1
    have k4 := cell_regrown s2
    have k5 := cell_regrown s3
    have k6 := cell_regrown s4
    clear a0 a1 a2 d0 d1 d2 c5 c7 f7 s0 s1 s2 s3 s4 b3 b4 b5 b7 hbx
    have cA : ∀ (x : Int) (h0 : 0 ≤ x) (h1 : x ≤ 255) d os, CallsIn (Fence.wide.inRound l) (9 - 1 - 1 - 1) Tryd.prog 42 #[.int .i64 x, vSg s] (Sort.grow (redrawn W d) os) (fun e w'' => e = .returned (.int .i64 (onI x s.l s.r)) ∧ ∃ p : Regrown, w'' = Sort.grow (redrawn W p.d) p.os) := fun x h0 h1 d os => inRnd_below (on_any x s _ h0 h1)
    have HCA := Lib.hid cA
    clear cA
    gi_wp2_with fail
    refine round_quiet_below (by kernel_rfl) (by kernel_rfl) (by kernel_rfl) ?_
    repeat
      (refine wpQuietIn_step (fun _ _ _ _ => trivial) (fun K hK => ?_)
       go_simp
       first
         | (refine hK _ ?_; clear hK K)
         | (apply Exists.intro
            refine ⟨fun _ => ?_, hK _ ?_⟩
            (exact HCA.out _ (by assumption) (by assumption) _ _)
            clear hK K))
    refine wpQuietIn_nil ?_
    intro _ hw'
    obtain ⟨⟨dq, osq⟩, hw''⟩ := hw'
    subst hw''
    obtain ⟨W3, hW3⟩ : ∃ W3, W3 = Sort.grow (redrawn W dq) osq := ⟨_, rfl⟩
    have hB3 : Below W.heap.size W W3 := by rw [hW3]; exact below_regrown W dq osq
    rw [← hW3]
    have hz3 := hB3.size
    clear hW3 k0 k1 k2 k3 k4 k5 k6 HCA
    obtain ⟨⟨a1, a2⟩, ⟨d1, d2⟩, c5, ⟨c7, f7⟩, s3, s4⟩ := HW.out
    have a1 := bcell a1 hB3 (Nat.le_refl _)
    have a2 := bcell a2 hB3 (Nat.le_refl _)
    have d1 := bcell d1 hB3 (Nat.le_refl _)
    have d2 := bcell d2 hB3 (Nat.le_refl _)
    have c5 := bcell c5 hB3 (Nat.le_refl _)
    have f7 := (hB3.frozen (p := ⟨w.heap.size + 1 + 1 + 1, 0, none⟩) (by dsimp; omega)).trans f7
    have c7 := bcell c7 hB3 (Nat.le_refl _)
    have s3 := bcell s3 hB3 (Nat.le_refl _)
    have s4 := bcell s4 hB3 (Nat.le_refl _)
    clear HW
    have hp1 := onI_lo a.n s.l s.r
    have hp2 := onI_hi a.n s.l s.r
    have hp3 := onI_lo b.n s.l s.r
    have hp4 := onI_hi b.n s.l s.r
    have hq1 := butI_lo (onI a.n s.l s.r) (onI b.n s.l s.r)
    have hq2 := butI_hi (onI a.n s.l s.r) (onI b.n s.l s.r)
    have hq3 := butI_lo (onI b.n s.l s.r) (onI a.n s.l s.r)
    have hq4 := butI_hi (onI b.n s.l s.r) (onI a.n s.l s.r)
    have HP := Lib.hid hp
    clear hp
    have hno : alikeW a b t s = false → ∀ z ∈ pre ++ [(m, s)], alikeW a b t z.2 = false := fun h z hz => by
      rcases List.mem_append.1 hz with hz | hz
      · exact HP.out z hz
      · rw [List.mem_singleton.1 hz]; exact h
    have HNO := Lib.hid hno
    clear hno
    cases hbp : bpW a b s
    · have HA := Lib.hid (show alikeW a b t s = false by simp [alikeW, hbp])
      have hc : ((s.b != -1) = true ∧ (a.b != b.b) = true) ∨ ((s.b != -1) = false ∨ (s.b != -1) = true ∧ (a.b != b.b) = false) ∧ (s.p != -1) = true ∧ (a.p != b.p) = true := by
        revert hbp; unfold bpW
        by_cases h1 : s.b = -1 <;> by_cases h2 : a.b = b.b <;> by_cases h3 : s.p = -1 <;> by_cases h4 : a.p = b.p <;> simp [h1, h2, h3, h4]
      clear hbp
      rcases hc with ⟨e1, e2⟩ | ⟨e1 | ⟨e1, e2⟩, e3, e4⟩
      all_goals
        gi_wp2
        exact ⟨keepsFrom_below hB3, hB3.mono hzW, HNO.out HA.out, hB.trans (hB3.mono hzW)⟩
    · have HBP := Lib.hid hbp
      have hc : ((s.b != -1) = false ∨ (s.b != -1) = true ∧ (a.b != b.b) = false) ∧ ((s.p != -1) = false ∨ (s.p != -1) = true ∧ (a.p != b.p) = false) := by
        revert hbp; unfold bpW
        by_cases h1 : s.b = -1 <;> by_cases h2 : a.b = b.b <;> by_cases h3 : s.p = -1 <;> by_cases h4 : a.p = b.p <;> simp [h1, h2, h3, h4]
      clear hbp
      have cBut : ∀ (x y : Int) (h0 : 0 ≤ x) (h1 : x ≤ 255) (h2 : 0 ≤ y) (h3 : y ≤ 255) d os, CallsIn (Fence.wide.inRound l) (9 - 1 - 1 - 1) Tryd.prog 40 #[.int .i64 x, .int .i64 y] (Sort.grow (redrawn W3 d) os) (fun e w'' => e = .returned (.int .i64 (butI x y)) ∧ ∃ p : Regrown, w'' = Sort.grow (redrawn W3 p.d) p.os) := fun x y h0 h1 h2 h3 d os => inRnd_left (but_any x y _ h0 h1 h2 h3)
      have cCnt : ∀ (x : Int) (h0 : 0 ≤ x) (h1 : x ≤ 255) d os, CallsIn (Fence.wide.inRound l) (9 - 1 - 1 - 1) Tryd.prog 41 #[.int .i64 x] (Sort.grow (redrawn W3 d) os) (fun e w'' => e = .returned (.int .i64 (popI x)) ∧ ∃ p : Regrown, w'' = Sort.grow (redrawn W3 p.d) p.os) := fun x h0 h1 d os => inRnd_left (count_any x _ h0 h1)
      have HBT := Lib.hid cBut
      have HCT := Lib.hid cCnt
      clear cBut cCnt
      have k5 := cell_regrown c5
      rcases hc with ⟨e1 | ⟨e1, e2⟩, e3 | ⟨e3, e4⟩⟩
      all_goals
        gi_wp2
        have hg : decide ((popI (butI (onI a.n s.l s.r) (onI b.n s.l s.r)) : Int) ≤ t) = false ∨ (decide ((popI (butI (onI a.n s.l s.r) (onI b.n s.l s.r)) : Int) ≤ t) = true ∧ decide ((popI (butI (onI b.n s.l s.r) (onI a.n s.l s.r)) : Int) ≤ t) = false) ∨
            (decide ((popI (butI (onI a.n s.l s.r) (onI b.n s.l s.r)) : Int) ≤ t) = true ∧ decide ((popI (butI (onI b.n s.l s.r) (onI a.n s.l s.r)) : Int) ≤ t) = true) := by
          cases decide ((popI (butI (onI a.n s.l s.r) (onI b.n s.l s.r)) : Int) ≤ t) <;> cases decide ((popI (butI (onI b.n s.l s.r) (onI a.n s.l s.r)) : Int) ≤ t) <;> simp
        rcases hg with hg1 | ⟨hg1, hg2⟩ | ⟨hg1, hg2⟩
        all_goals
          refine round_quiet_below (by kernel_rfl) (by kernel_rfl) (by kernel_rfl) ?_
          repeat
            (refine wpQuietIn_step (fun _ _ _ _ => trivial) (fun K hK => ?_)
             go_simp
             first
               | (refine hK _ ?_; clear hK K)
               | (apply Exists.intro
                  refine ⟨fun _ => ?_, hK _ ?_⟩
                  (first | (gi_at_call 40; exact HBT.out _ _ (by assumption) (by assumption) (by assumption) (by assumption) _ _) | exact HCT.out _ (by assumption) (by assumption) _ _)
                  clear hK K))
          refine wpQuietIn_nil ?_
          intro _ hw'
          obtain ⟨⟨dq, osq⟩, hw''⟩ := hw'
          subst hw''
          obtain ⟨W4, hW4⟩ : ∃ W4, W4 = Sort.grow (redrawn W3 dq) osq := ⟨_, rfl⟩
          have hB4 : Below W3.heap.size W3 W4 := by rw [hW4]; exact below_regrown W3 dq osq
          rw [← hW4]
          have c7' := bcell c7 hB4 (Nat.le_refl _)
          have f7' := (hB4.frozen (p := ⟨w.heap.size + 1 + 1 + 1, 0, none⟩) (by dsimp; omega)).trans f7
          have HB34 := Lib.hid (show Below W.heap.size W W4 from hB3.trans (hB4.mono hB3.size))
          clear hW4 k5 HBT HCT hB4
          gi_wp2
        · exact ⟨keepsFrom_below HB34.out, HB34.out.mono hzW, HNO.out (by simp only [alikeW, hg1, Bool.and_false, Bool.false_and]), hB.trans (HB34.out.mono hzW)⟩
        · exact ⟨keepsFrom_below HB34.out, HB34.out.mono hzW, HNO.out (by simp only [alikeW, hg2, Bool.and_false]), hB.trans (HB34.out.mono hzW)⟩
        · refine ⟨(keepsFrom_below HB34.out).trans ((KeepsOthers.setCell _ _ _).from _), ⟨pre, (m, s), rfl, HP.out, by simp only [alikeW, HBP.out, hg1, hg2, Bool.and_true], rfl, World.cell?_setCell_same' _ _ _ (by rw [c7']; rfl)⟩, ?_⟩
          exact (hB0.trans ((hB.trans (HB34.out.mono hzW)).mono (by omega))).setCell (by dsimp; omega) _
  case done =>
    rintro D xs W hD rfl ⟨hp, hB⟩ hK
    have c7 := blk1 (bheap HBK.out.2.2.2 hB (Nat.le_refl _))
    have HF := Lib.hid (mixedS_none hp)
    clear hp
    go_wp2
    rw [Exit.noGoto_ret]
    refine ⟨by simp, .inl ⟨_, _, rfl, run_takeDeferred hK, ?_⟩⟩
    refine ⟨_, results_tmp rfl _ _ _, ?_, hB0.trans ((hB.mono (by omega)).trans (belowK_b (w := w) (Nat.le_refl _) W D _ _ (by omega) hK rfl rfl))⟩
    exact ret_int HF.out.symm
  case stop =>
    rintro D c pre W hD hpre ⟨⟨q, y, rfl, hq, hy, rfl, hc⟩, hB⟩ hK
    have HF := Lib.hid (mixedS_some hpre hq hy)
    clear hq hy
    refine wpIn_wide.2 ?_
    go_wp2
    rw [Exit.noGoto_ret]
    refine ⟨by simp, .inl ⟨_, _, rfl, run_takeDeferred hK, ?_⟩⟩
    refine ⟨_, results_tmp rfl _ _ _, ?_, hB.trans (belowK_b (w := w) (Nat.le_refl _) W D _ _ (by omega) hK rfl rfl)⟩
    exact ret_int HF.out.symm
end Go.Proofs.YtoidaigiejilcaaDoor
