/- book.fresh: the iterator over all marks that can be mistaken for no mark of a register. -/
import Derived.Test.YtoidaigiejilcaaDoorMixed
namespace Go.Proofs.YtoidaigiejilcaaDoor
open Go.RowKit Go.Shelf
set_option linter.unusedVariables false
set_option linter.unusedSimpArgs false
attribute [local go_sem] Oper.semAt_some

abbrev Ix := Fin 17920
def encM (x : Ix) : Array Value := #[vMk (mkIx x.1)]
def freshIx (l : List Mk) (t los : Int) (k : Nat) : List Ix := (List.range k).filterMap fun i => if h : i < 17920 then (if freeM l t los (mkIx i) then some ⟨i, h⟩ else none) else none
theorem freshIx_succ (l : List Mk) (t los : Int) {k : Nat} (hk : k < 17920) : freshIx l t los (k + 1) = freshIx l t los k ++ if freeM l t los (mkIx k) then [⟨k, hk⟩] else [] := by
  unfold freshIx
  rw [List.range_succ, List.filterMap_append]
  congr 1
  by_cases h : freeM l t los (mkIx k) <;> simp [List.filterMap_cons, h, hk]
theorem freshIx_len (l : List Mk) (t los : Int) (k : Nat) : (freshIx l t los k).length ≤ k := by
  unfold freshIx
  have := List.length_filterMap_le (fun i => if h : i < 17920 then (if freeM l t los (mkIx i) then some (⟨i, h⟩ : Ix) else none) else none) (List.range k)
  simpa using this
def freshAll (t : Int) (l : List Mk) (los : Int) : List Ix := freshIx l t los 17920
theorem mkIx_lo (i : Ix) : 0 ≤ (mkIx i.1).n ∧ (mkIx i.1).n ≤ 255 := by
  have := i.2
  unfold mkIx
  dsimp only
  omega
theorem abides_below {β : Type} {B : Nat} {J : β → World → Prop} (hJ : AbidesFrom B J) {s : β} {W W' : World} (h : J s W) (hb : Below W.heap.size W W') : J s W' :=
  hJ s W W' none h ⟨hb.os, hb.tape, hb.output, hb.size, fun k hk _ => hb.block k hk⟩ (fun r e => by cases e)

theorem fresh_any (t los : Int) (A : Option Addr) (n c : Nat) (w : World) :
    Calls Tryd.prog 48 #[.agg #[.int .i64 t, .slice A n c], .int .i64 los] w fun e w' =>
      e = .returned (.func (.func 66) #[] #[.pointer (some ⟨w.heap.size, 0, none⟩), .pointer (some ⟨w.heap.size + 1, 0, none⟩)]) ∧
      (w.alloc (.cells #[.int .i64 t, .slice A n c] 79)).alloc (.cells #[.int .i64 los] 3) = w' := by
  go_enter Tryd.func48, Tryd.ntmps48
  go_wp2
  go_ret
  exact ⟨rfl, rfl⟩

set_option maxRecDepth 100000 in
set_option maxHeartbeats 4000000 in
theorem fresh_stops (n : Nat) (hn : 1 ≤ n) (t los : Int) (A : Option Addr) (ln c : Nat) (l : List Mk) (w : World) (B1 B2 : Nat) (hm : Marks w A ln l) (hv : ∀ m ∈ l, 0 ≤ m.n ∧ m.n ≤ 255) (hln : ln ≤ 4294967295)
    (h1 : w.heap[B1]? = some (.cells #[.int .i64 t, .slice A ln c] 79 (0, 0))) (h2 : w.heap[B2]? = some (.cells #[.int .i64 los] 3 (0, 0))) :
    SeqStopsK Fence.wide n Tryd.prog 66 #[.pointer (some ⟨B1, 0, none⟩), .pointer (some ⟨B2, 0, none⟩)] encM (Below w.heap.size) (fun xs => xs = freshAll t l los) (fun _ => True) 17920 w := fun r J Jx W hW hJ hJx hY h0 => by
  refine callsIn_of_wp Tryd.func66 rfl trivial ?_ rfl
  simp only [Tryd.ntmps66, List.size_toArray, List.length_cons, List.length_nil, Nat.reduceAdd, Nat.reduceSub, Array.replicate_succ, Array.replicate_zero, List.push_toArray, List.append_toArray, List.nil_append, List.cons_append]
  refine wpIn_wide.2 ?_
  have HM := Lib.hid hm
  have HV := Lib.hid hv
  have HBX := Lib.hid (And.intro h1 h2)
  have hB1 := heap_lt h1
  have hB2 := heap_lt h2
  clear hm hv h1 h2
  go_wp2
  go_loopg [10] 256 (fun g i wr => ∃ k : Nat, k + g = 256 ∧ i = .int .i64 k ∧ J (freshIx l t los (k * 70 + 0 * 7 + 0)) wr ∧ Below w.heap.size w wr ∧ W.heap.size ≤ wr.heap.size)
  case atStart => exact ⟨0, by omega, rfl, h0, hW, Nat.le_refl _⟩
  case round =>
    obtain ⟨k, hk, rfl, hJk, hBk, hzk⟩ := hrel
    obtain ⟨wo, rfl⟩ : ∃ wo : World, wo = wr := ⟨_, rfl⟩
    obtain ⟨g1, rfl⟩ : ∃ g1 : Nat, g1 = gk := ⟨_, rfl⟩
    have HK := Lib.hid (And.intro hk hJk)
    clear hk hJk
    by_cases hlt : k < 256
    · have hd1 : decide ((k : Int) < 256) = true := by simp; omega
      go_wp2
      go_loopg [13] 10 (fun g i wr => ∃ b : Nat, b + g = 10 ∧ i = .int .i64 b ∧ J (freshIx l t los (k * 70 + b * 7 + 0)) wr ∧ Below w.heap.size w wr ∧ W.heap.size ≤ wr.heap.size)
      case atStart => exact ⟨0, by omega, rfl, HK.out.2, hBk, hzk⟩
      case round =>
        obtain ⟨b, hb, rfl, hJb, hBb, hzb⟩ := hrel
        obtain ⟨wp, rfl⟩ : ∃ wp : World, wp = wr := ⟨_, rfl⟩
        obtain ⟨g2, rfl⟩ : ∃ g2 : Nat, g2 = gk := ⟨_, rfl⟩
        have HB := Lib.hid (And.intro hb hJb)
        clear hb hJb
        by_cases hlb : b < 10
        · have hd2 : decide ((b : Int) < 10) = true := by simp; omega
          go_wp2
          go_step3
          go_wp2
          go_step3
          go_wp2
          go_loopg [16] 7 (fun g i wr => ∃ p : Nat, p + g = 7 ∧ i = .int .i64 p ∧ J (freshIx l t los (k * 70 + b * 7 + p)) wr ∧ Below w.heap.size w wr ∧ W.heap.size ≤ wr.heap.size)
          case atStart => exact ⟨0, by omega, rfl, HB.out.2, hBb, hzb⟩
          case round =>
            obtain ⟨p, hp, rfl, hJp, hBp, hzp⟩ := hrel
            obtain ⟨wq, rfl⟩ : ∃ wq : World, wq = wr := ⟨_, rfl⟩
            obtain ⟨g3, rfl⟩ : ∃ g3 : Nat, g3 = gk := ⟨_, rfl⟩
            have HP := Lib.hid (And.intro hp hJp)
            clear hp hJp
            by_cases hlp : p < 7
            · have hd3 : decide ((p : Int) < 7) = true := by simp; omega
              obtain ⟨q0, q1⟩ := blk2 (bheap HBX.out.1 hBp (Nat.le_refl _))
              have q2 := blk1 (bheap HBX.out.2 hBp (Nat.le_refl _))
              have hzq := hBp.size
              have g4 : B1 < wq.heap.size := by omega
              have g5 : B2 < wq.heap.size := by omega
              go_wp2
              have hmk := mkIx_at (n := k) hlb hlp
              have HMK := Lib.hid hmk
              clear hmk
              have hall0 := (HM.out.below hBp (Nat.le_refl _)).alloc (Obj.cells #[Value.int .i64 k, .int .i64 b, .int .i64 p] 52)
              obtain ⟨W1, hW1⟩ : ∃ W1, W1 = wq.alloc (Obj.cells #[Value.int .i64 k, .int .i64 b, .int .i64 p] 52) := ⟨_, rfl⟩
              have bm : W1.heap[wq.heap.size]? = some (Obj.cells #[Value.int .i64 k, .int .i64 b, .int .i64 p] 52 (0, 0)) := by rw [hW1]; exact alloc_at rfl
              have bb1 : W1.heap[B1]? = some (.cells #[.int .i64 t, .slice A ln c] 79 (0, 0)) := by rw [hW1]; exact hblk_alloc (bheap HBX.out.1 hBp (Nat.le_refl _)) _
              have bb2 : W1.heap[B2]? = some (.cells #[.int .i64 los] 3 (0, 0)) := by rw [hW1]; exact hblk_alloc (bheap HBX.out.2 hBp (Nat.le_refl _)) _
              have hBq1 : Below wq.heap.size wq W1 := by rw [hW1]; exact (Below.refl _ _).alloc (Nat.le_refl _) _
              rw [← hW1] at hall0 ⊢
              have HBQ := Lib.hid (And.intro bm (And.intro bb1 (And.intro bb2 (And.intro hBq1 hall0))))
              have hz1 := hBq1.size
              have g6 := heap_lt bm
              clear hW1 bm bb1 bb2 hBq1 q0 q1 q2 hall0
              go_loopg [27] ln (fun g i wr => ∃ q : Nat, q + g = ln ∧ i = .int .i64 q ∧ (l.take q).all (fun o => !decide (mixedS (mkIx (k * 70 + b * 7 + p)) o t ≤ los)) = true ∧ Below W1.heap.size W1 wr)
              case atStart => exact ⟨0, by omega, rfl, by simp, Below.refl _ _⟩
              case round =>
                obtain ⟨q, hq, rfl, hall, hBr⟩ := hrel
                have HQ := Lib.hid (And.intro hq hall)
                clear hq hall
                have hzr := hBr.size
                have g7 : wq.heap.size < wr.heap.size := by omega
                have g8 : B1 < wr.heap.size := by omega
                have g9 : B2 < wr.heap.size := by omega
                have hql : q ≤ ln := by have := HQ.out.1; omega
                by_cases hlq : q < ln
                · have hd4 : decide ((q : Int) < (ln : Int)) = true := by simp; omega
                  obtain ⟨bo, off, o, rfl, hbo, ho, c0, c1, c2⟩ := Marks.get (HBQ.out.2.2.2.2.below hBr (Nat.le_refl _)) hlq
                  have hov := HV.out o (List.mem_of_getElem? ho)
                  have HO := Lib.hid ho
                  clear ho
                  go_wp2
                  obtain ⟨W2, hW2⟩ : ∃ W2, W2 = wr.alloc (Obj.cells #[Value.int .i64 o.n, .int .i64 o.b, .int .i64 o.p] 52) := ⟨_, rfl⟩
                  have hB2 : Below wr.heap.size wr W2 := by rw [hW2]; exact (Below.refl _ _).alloc (Nat.le_refl _) _
                  have bo' : W2.heap[wr.heap.size]? = some (Obj.cells #[Value.int .i64 o.n, .int .i64 o.b, .int .i64 o.p] 52 (0, 0)) := by rw [hW2]; exact alloc_at rfl
                  rw [← hW2]
                  clear hW2
                  have HB2 := Lib.hid hB2
                  obtain ⟨x0, x1, x2⟩ := blk3 (bheap (bheap HBQ.out.1 hBr (Nat.le_refl _)) hB2 (Nat.le_refl _))
                  obtain ⟨y0, y1, y2⟩ := blk3 bo'
                  have z0 := (blk2 (bheap (bheap HBQ.out.2.1 hBr (Nat.le_refl _)) hB2 (Nat.le_refl _))).1
                  have u0 := blk1 (bheap (bheap HBQ.out.2.2.1 hBr (Nat.le_refl _)) hB2 (Nat.le_refl _))
                  have k0 := cell_regrown x0
                  have k1 := cell_regrown x1
                  have k2 := cell_regrown x2
                  have k3 := cell_regrown y0
                  have k4 := cell_regrown y1
                  have k5 := cell_regrown y2
                  have k6 := cell_regrown z0
                  have k7 := cell_regrown u0
                  have cM : ∀ d os, Calls Tryd.prog 45 #[vMk ⟨k, b, p⟩, vMk o, .int .i64 t] (Sort.grow (redrawn W2 d) os) (fun e w'' => e = .returned (.int .i64 (mixedS ⟨k, b, p⟩ o t)) ∧ ∃ p : Regrown, w'' = Sort.grow (redrawn W2 p.d) p.os) := fun d os => Calls.regrown_of (mixed_any ⟨k, b, p⟩ o t _ (by dsimp; omega) (by dsimp; omega) hov.1 hov.2)
                  have HCM := Lib.hid cM
                  clear cM x0 x1 x2 y0 y1 y2 z0 u0 bo' hB2 c0 c1 c2
                  refine wp_region_quiet_below (by kernel_rfl) (by kernel_rfl) ?_
                  repeat (quiet_step (exact HCM.out _ _))
                  refine wpQuiet_nil ?_
                  intro _ hw'
                  obtain ⟨⟨dq, osq⟩, hw''⟩ := hw'
                  subst hw''
                  obtain ⟨W3, hW3⟩ : ∃ W3, W3 = Sort.grow (redrawn W2 dq) osq := ⟨_, rfl⟩
                  have hB3 : Below wr.heap.size wr W3 := by rw [hW3]; exact HB2.out.trans ((below_regrown W2 dq osq).mono HB2.out.size)
                  rw [← hW3]
                  have HB3 := Lib.hid hB3
                  have hz3 := hB3.size
                  clear hW3 k0 k1 k2 k3 k4 k5 k6 k7 HCM hB3
                  cases hmx : decide (mixedS ⟨k, b, p⟩ o t ≤ los)
                  · have HX := Lib.hid hmx
                    go_wp2
                    go_roundg (gk - 1)
                    case measure => have := HQ.out.1; omega
                    case rel =>
                      refine ⟨q + 1, by have := HQ.out.1; omega, by go_num, ?_, hBr.trans (HB3.out.mono hzr)⟩
                      rw [List.take_add_one, HO.out, List.all_append, HQ.out.2, HMK.out]
                      simp [HX.out]
                  · have HX := Lib.hid hmx
                    go_wp2
                    go_roundg (g3 - 1)
                    case measure => have := HP.out.1; omega
                    case rel =>
                      refine ⟨p + 1, by have := HP.out.1; omega, by go_num, ?_, (hBp.trans ((HBQ.out.2.2.2.1.trans ((hBr.trans (HB3.out.mono hzr)).mono hz1)).mono hzq)), by omega⟩
                      have hno : freeM l t los (mkIx (k * 70 + b * 7 + p)) = false := by
                        unfold freeM
                        rw [List.all_eq_false]
                        exact ⟨o, List.mem_of_getElem? HO.out, by rw [HMK.out, HX.out]; decide⟩
                      rw [show k * 70 + b * 7 + (p + 1) = (k * 70 + b * 7 + p) + 1 by omega, freshIx_succ l t los (by omega), hno]
                      simp only [Bool.false_eq_true, if_false, List.append_nil]
                      exact abides_below hJ HP.out.2 (HBQ.out.2.2.2.1.trans ((hBr.trans (HB3.out.mono hzr)).mono hz1))
                · have hq' : q = ln := by omega
                  subst hq'
                  have hyes : freeM l t los (mkIx (k * 70 + b * 7 + p)) = true := by
                    have := HQ.out.2
                    rwa [List.take_of_length_le (by have := HM.out.len; omega)] at this
                  have HYES := Lib.hid hyes
                  clear hyes
                  go_upto_region 15 with (fail)
                  have hJr : J (freshIx l t los (k * 70 + b * 7 + p)) wr := abides_below hJ HP.out.2 (HBQ.out.2.2.2.1.trans (hBr.mono hz1))
                  obtain ⟨fn, tmps, assign, body, hy, hR⟩ := hY _ ⟨k * 70 + b * 7 + p, by omega⟩ wr hJr (by have := freshIx_len l t los (k * 70 + b * 7 + p); omega)
                  dsimp only [encM, vMk] at hy
                  rw [HMK.out] at hy
                  obtain ⟨x0, x1, x2⟩ := blk3 (bheap HBQ.out.1 hBr (Nat.le_refl _))
                  clear hY hJr
                  refine (wpIn_wide (n := n)).1 ?_
                  gi_wp2
                  refine hR.mono ?_
                  rintro e W3 (⟨rfl, hJ3, hk3⟩ | ⟨rfl, hJx3⟩)
                  · have HJ3 := Lib.hid hJ3
                    clear hJ3
                    gi_wp2
                    go_wp2
                    have hWr : W.heap.size ≤ wr.heap.size := by omega
                    have hwq : w.heap.size ≤ wq.heap.size := by omega
                    go_roundg (g3 - 1)
                    case measure => have := HP.out.1; omega
                    case rel =>
                      refine ⟨p + 1, by have := HP.out.1; omega, by go_num, ?_, (hBp.trans ((HBQ.out.2.2.2.1.trans (hBr.mono hz1)).mono hwq)).trans hk3, Nat.le_trans hWr hk3.size⟩
                      rw [show k * 70 + b * 7 + (p + 1) = (k * 70 + b * 7 + p) + 1 by omega, freshIx_succ l t los (by omega), HYES.out]
                      exact HJ3.out
                  · have HJX := Lib.hid hJx3
                    clear hJx3
                    gi_wp2
                    go_wp2
                    rw [Exit.noGoto_ret]
                    go_wp2
                    refine bodyPost_ret (results_none rfl _ _ _) rfl ?_
                    exact ⟨⟨_, rfl⟩, .inr ⟨_, trivial, HJX.out⟩⟩
            · have hp : p = 7 := by have := HP.out.1; omega
              subst hp
              go_wp2
              rw [Exit.noGoto_normal]
              go_wp2
              go_roundg (g2 - 1)
              case measure => have := HB.out.1; omega
              case rel => exact ⟨b + 1, by have := HB.out.1; omega, by go_num, by have := HP.out.2; rwa [show k * 70 + b * 7 + 7 = k * 70 + (b + 1) * 7 + 0 by omega] at this, hBp, hzp⟩
        · have hb : b = 10 := by have := HB.out.1; omega
          subst hb
          go_wp2
          go_roundg (g1 - 1)
          case measure => have := HK.out.1; omega
          case rel => exact ⟨k + 1, by have := HK.out.1; omega, by go_num, by have := HB.out.2; rwa [show k * 70 + 10 * 7 + 0 = (k + 1) * 70 + 0 * 7 + 0 by omega] at this, hBb, hzb⟩
    · have hk : k = 256 := by have := HK.out.1; omega
      subst hk
      go_wp2
      go_end0
      exact ⟨⟨_, rfl⟩, .inl ⟨_, rfl, HK.out.2⟩⟩
end Go.Proofs.YtoidaigiejilcaaDoor
