/- mark.gather: strays, or their error. -/
import Derived.Test.YtoidaigiejilcaaDoorGrid
import Derived.Test.YtoidaigiejilcaaDoorMay
import Derived.Deep.RegionLaw
namespace Go.Proofs.YtoidaigiejilcaaDoor
open Go.RowKit
set_option linter.unusedVariables false
set_option linter.unusedSimpArgs false

/-- the error of sights: the first one's that has one -/
def sightsE (ss : List Sg) : Int := ((ss.map fun s => seen s 9 6).find? (fun e => e != 0)).getD 0
theorem sightsE_cons (s : Sg) (r : List Sg) : sightsE (s :: r) = if seen s 9 6 = 0 then sightsE r else seen s 9 6 := by
  unfold sightsE
  rw [List.map_cons, List.find?_cons]
  by_cases h : seen s 9 6 = 0
  · simp [h]
  · have : (seen s 9 6 != 0) = true := by simp [h]
    simp [h, this]
theorem sightsE_bad {ss : List Sg} {k : Nat} {s : Sg} (h : ∀ (i : Nat) x, i < k → ss[i]? = some x → seen x 9 6 = 0) (hk : ss[k]? = some s) (hs : seen s 9 6 ≠ 0) : sightsE ss = seen s 9 6 := by
  induction ss generalizing k with
  | nil => simp at hk
  | cons a r ih =>
    rw [sightsE_cons]
    cases k with
    | zero => simp only [List.getElem?_cons_zero, Option.some.injEq] at hk; subst hk; rw [if_neg hs]
    | succ k =>
      rw [if_pos (h 0 a (by omega) rfl)]
      exact ih (fun i x hi hx => h (i + 1) x (Nat.succ_lt_succ hi) (by simpa using hx)) (by simpa using hk)
theorem sightsE_ok {ss : List Sg} : sightsE ss = 0 ↔ ∀ s ∈ ss, seen s 9 6 = 0 := by
  induction ss with
  | nil => simp [sightsE]
  | cons a r ih =>
    rw [sightsE_cons]
    by_cases h : seen a 9 6 = 0
    · rw [if_pos h, ih]; simp [h]
    · rw [if_neg h]; simp [h]
/-- the error of a register, strays, and what owners miss -/
def gatherE (t : Int) (l : List Mk) (ss : List Sg) (mis : List Int) : Int :=
  if check t l ≠ 0 then check t l else if 6 < ss.length then 6 else if sightsE ss ≠ 0 then sightsE ss
  else if mis.length < l.length then 7 else if l.length < mis.length then 6 else if mis.all (fun x => btw x 0 6) then 0 else 1
def mays (t : Int) (l : List Mk) (ss : List Sg) : List (List Int) := ss.map (mayL t l)

/-- what gather gives: the strays at work, or an error -/
def GatherRes (w : World) (t : Int) (A : Option Addr) (n c : Nat) (l : List Mk) (ss : List Sg) (Ai : Option Addr) (ni ci : Nat) (mis : List Int) (e : Ending) (w' : World) : Prop :=
  if gatherE t l ss mis = 0 then ∃ v, e = .returned (.tuple #[.agg #[.int .i64 t, .slice A n c, v, .slice Ai ni ci], .int .i64 0]) ∧ OwnG w' w.heap.size v (mays t l ss)
  else e = .returned (.tuple #[.agg #[.int .i64 0, .slice none 0 0, .slice none 0 0, .slice none 0 0], .int .i64 (gatherE t l ss mis)])

set_option maxRecDepth 100000 in
set_option maxHeartbeats 2000000 in
theorem gather_any (t : Int) (A : Option Addr) (n c : Nat) (l : List Mk) (B : Option Addr) (m cb : Nat) (ss : List Sg) (Ai : Option Addr) (ni ci : Nat) (mis : List Int) (w : World)
    (hl : Marks w A n l) (hlc : n ≤ c) (hcm : c ≤ maxLen) (hss : Sights w B m ss) (hmm : m ≤ maxLen) (hmi : Ints w Ai ni mis) (hni : ni ≤ maxLen) :
    Calls Tryd.prog 50 #[.agg #[.int .i64 t, .slice A n c], .slice B m cb, .slice Ai ni ci] w fun e w' => GatherRes w t A n c l ss Ai ni ci mis e w' ∧ Below w.heap.size w w' := by
  have HL := Lib.hid hl
  have HSS := Lib.hid hss
  have HMI := Lib.hid hmi
  have hll := hl.len
  have hsl := hss.len
  have hml := hmi.len
  have HN := Lib.hid (And.intro hll (And.intro hsl hml))
  unfold maxLen at hmm hni
  clear hl hss hmi hll hsl hml
  go_enter Tryd.func50, Tryd.ntmps50
  go_wp2_with fail
  have hbw : Below w.heap.size w ((w.alloc (Obj.cells #[Value.int .i64 t, .slice A n c] 26)).alloc (Obj.cells #[Value.int .i64 0, .slice none 0 0, .slice none 0 0, .slice none 0 0] 99)) := bal (bal0 w _) (Nat.le_refl _) _
  refine (check_any t A n c l _ (HL.out.below hbw (Nat.le_refl _)) hlc hcm).mono ?_
  rintro e w1 ⟨rfl, hb1⟩
  have e0 := bheap (show ((w.alloc (Obj.cells #[Value.int .i64 t, .slice A n c] 26)).alloc (Obj.cells #[Value.int .i64 0, .slice none 0 0, .slice none 0 0, .slice none 0 0] 99)).heap[w.heap.size]? = some (Obj.cells #[Value.int .i64 t, .slice A n c] 26 (0, 0)) from hblk_alloc (alloc_at rfl) _) hb1 (Nat.le_refl _)
  have e1 := bheap (show ((w.alloc (Obj.cells #[Value.int .i64 t, .slice A n c] 26)).alloc (Obj.cells #[Value.int .i64 0, .slice none 0 0, .slice none 0 0, .slice none 0 0] 99)).heap[w.heap.size + 1]? = some (Obj.cells #[Value.int .i64 0, .slice none 0 0, .slice none 0 0, .slice none 0 0] 99 (0, 0)) from alloc_at (by simp)) hb1 (Nat.le_refl _)
  have hB1 : Below w.heap.size w w1 := hbw.trans (hb1.mono (by simp; omega))
  clear hb1 hbw
  obtain ⟨r0, r1⟩ := blk2 e0
  obtain ⟨s0, s1, s2, s3⟩ := blk4 e1
  have f0 := frz e1 0
  have f1 := frz e1 1
  have f2 := frz e1 2
  have f3 := frz e1 3
  have z1 := heap_lt e1
  have z0 : w.heap.size < w1.heap.size := by omega
  by_cases hck : check t l = 0
  · have h0 : (check t l != 0) = false := by simp [hck]
    have HC := Lib.hid hck
    clear hck
    by_cases h6 : m ≤ 6
    · have h6' : decide ((6 : Int) < (m : Int)) = false := by simp; omega
      have e1' := e1
      have hBl := Lib.hid hB1
      go_wp2_with fail
      go_loopg [29] m (fun g i wr => ∃ k : Nat, k + g = m ∧ i = .int .i64 k ∧ (∀ (i : Nat) x, i < k → ss[i]? = some x → seen x 9 6 = 0) ∧ Below w1.heap.size w1 wr)
      case atStart => exact ⟨0, by omega, rfl, fun i x hi => by omega, Below.refl _ _⟩
      case round =>
        obtain ⟨k, hk, rfl, hok, hbl⟩ := hrel
        have HK := Lib.hid (And.intro hk hok)
        have hkm : k ≤ m := by omega
        clear hk hok
        have hz := hbl.size
        have e0r := bheap e0 hbl (Nat.le_refl _)
        have e1r := bheap e1 hbl (Nat.le_refl _)
        by_cases hlt : k < m
        · obtain ⟨b, off, x, rfl, hb, hx, q0, q1, q2, q3, q4⟩ := Sights.get (HSS.out.below (hB1.trans (hbl.mono hB1.size)) (Nat.le_refl _)) hlt
          have HX := Lib.hid hx
          clear hx
          by_cases hse : seen x 9 6 = 0
          · have h1 : (seen x 9 6 != 0) = false := by simp [hse]
            have HSE := Lib.hid hse
            clear hse
            go_wp2_with fail
            refine (sight_any x _).mono ?_
            rintro e w2 ⟨rfl, hb2⟩
            have hbl2 : Below w1.heap.size w1 w2 := (bal hbl (Nat.le_refl _) _).trans (hb2.mono (by simp; omega))
            go_wp2
            go_roundg (gk - 1)
            case measure => have := HK.out.1; omega
            case rel =>
              refine ⟨k + 1, by have := HK.out.1; omega, by go_num, fun i y hi hy => ?_, hbl2⟩
              rcases Nat.lt_or_ge i k with h | h
              · exact HK.out.2 i y h hy
              · obtain rfl : i = k := by omega
                have := HX.out.symm.trans hy
                cases this
                exact HSE.out
          · have h1 : (seen x 9 6 != 0) = true := by simp [hse]
            have HE := Lib.hid (show gatherE t l ss mis = seen x 9 6 by
              have hb := sightsE_bad HK.out.2 HX.out hse
              unfold gatherE; rw [if_neg (by simp [HC.out]), if_neg (by have := HN.out.2.1; omega), if_pos (by rw [hb]; exact hse), hb])
            have HSE := Lib.hid hse
            clear hse
            go_wp2_with fail
            refine (sight_any x _).mono ?_
            rintro e w2 ⟨rfl, hb2⟩
            have e12 := bheap (hblk_alloc e1r (Obj.cells #[Value.int .i64 x.n, .bool x.l, .bool x.r, .int .i64 x.b, .int .i64 x.p] 42)) hb2 (Nat.le_refl _)
            have hB2 : Below w.heap.size w w2 := hB1.trans (((bal hbl (Nat.le_refl _) _).trans (hb2.mono (by simp; omega))).mono hB1.size)
            obtain ⟨s0, s1, s2, s3⟩ := blk4 e12
            have f0 := frz e12 0
            have f1 := frz e12 1
            have f2 := frz e12 2
            have f3 := frz e12 3
            have z2 := heap_lt e12
            go_wp2
            refine bodyPost_ret (v := .tuple #[.agg #[.int .i64 0, .slice none 0 0, .slice none 0 0, .slice none 0 0], .int .i64 (seen x 9 6)]) (by simp [results, Tryd.f50, go_sem, s0, s1, s2, s3, z2]) rfl ?_
            refine ⟨?_, below_set4 hB2 (by omega) _ _ _ _⟩
            unfold GatherRes
            rw [HE.out, if_neg HSE.out]
        · obtain rfl : k = m := by omega
          have hss0 : sightsE ss = 0 := sightsE_ok.2 fun s hs => by
            obtain ⟨i, hi⟩ := List.getElem?_of_mem hs
            exact HK.out.2 i s (by have := (List.getElem?_eq_some_iff.1 hi).1; have := HN.out.2.1; omega) hi
          have HS0 := Lib.hid hss0
          clear hss0
          obtain ⟨r0, r1⟩ := blk2 e0r
          obtain ⟨s0, s1, s2, s3⟩ := blk4 e1r
          have f0 := frz e1r 0
          have f1 := frz e1r 1
          have f2 := frz e1r 2
          have f3 := frz e1r 3
          have z2 := heap_lt e1r
          have hB2 : Below w.heap.size w wr := hB1.trans (hbl.mono hB1.size)
          have HSP := Lib.hid (show gatherE t l ss mis = if mis.length < l.length then 7 else if l.length < mis.length then 6 else if mis.all (fun x => btw x 0 6) then 0 else 1 by
            unfold gatherE; rw [if_neg (by simp [HC.out]), if_neg (by have := HN.out.2.1; omega), if_neg (by simp [HS0.out])])
          rcases Nat.lt_trichotomy ni n with hcmp | hcmp | hcmp
          · have h2 : decide (ni < n) = true := by simpa using hcmp
            have h2' : decide ((ni : Int) < (n : Int)) = true := by simp; omega
            have HE := Lib.hid (show gatherE t l ss mis = 7 by rw [HSP.out, if_pos (by have := HN.out; omega)])
            go_wp2
            refine bodyPost_ret (v := .tuple #[.agg #[.int .i64 0, .slice none 0 0, .slice none 0 0, .slice none 0 0], .int .i64 7]) (by simp [results, Tryd.f50, go_sem, s0, s1, s2, s3, z2]) rfl ?_
            refine ⟨?_, below_set4 hB2 (by omega) _ _ _ _⟩
            unfold GatherRes
            rw [HE.out, if_neg (by omega)]
          · subst hcmp
            have h2 : decide (ni < ni) = false := by simp
            have h2' : decide ((ni : Int) < (ni : Int)) = false := by simp
            have HSP2 := Lib.hid (show gatherE t l ss mis = if mis.all (fun x => btw x 0 6) then 0 else 1 by rw [HSP.out, if_neg (by have := HN.out; omega), if_neg (by have := HN.out; omega)])
            go_wp2_with fail
            obtain ⟨wa, rfl⟩ : ∃ wa : World, wa = wr := ⟨_, rfl⟩
            have hmia : Ints wa Ai ni mis := HMI.out.below hB2 (Nat.le_refl _)
            go_loopg [58] ni (fun g i wr => ∃ q : Nat, q + g = ni ∧ i = .int .i64 q ∧ (mis.take q).all (fun x => btw x 0 6) = true ∧ wa = wr)
            case atStart => exact ⟨0, by omega, rfl, by simp, rfl⟩
            case round =>
              obtain ⟨q, hq, rfl, hall, rfl⟩ := hrel
              have HQ := Lib.hid (And.intro hq hall)
              have hqm : q ≤ ni := by omega
              clear hq hall
              by_cases hlt : q < ni
              · obtain ⟨b, off, x, rfl, hb, hx, q0⟩ := Ints.get hmia hlt
                have HX := Lib.hid hx
                clear hx
                cases hbt : btw x 0 6
                · have HE := Lib.hid (show gatherE t l ss mis = 1 by
                    rw [HSP2.out, all_not HX.out hbt]; rfl)
                  go_wp2_with (go_at_call 46; refine (between_any _ _ _ _).mono ?_; rintro e w' ⟨rfl, rfl⟩)
                  refine bodyPost_ret (v := .tuple #[.agg #[.int .i64 0, .slice none 0 0, .slice none 0 0, .slice none 0 0], .int .i64 1]) (by simp [results, Tryd.f50, go_sem, s0, s1, s2, s3, z2]) rfl ?_
                  refine ⟨?_, below_set4 hB2 (by omega) _ _ _ _⟩
                  unfold GatherRes
                  rw [HE.out, if_neg (by omega)]
                · have HBT := Lib.hid hbt
                  go_wp2_with (go_at_call 46; refine (between_any _ _ _ _).mono ?_; rintro e w' ⟨rfl, rfl⟩)
                  go_roundg (gk - 1)
                  case measure => have := HQ.out.1; omega
                  case rel => exact ⟨q + 1, by have := HQ.out.1; omega, by go_num, all_step HQ.out.2 HX.out HBT.out, rfl⟩
              · obtain rfl : q = ni := by omega
                have HE := Lib.hid (show gatherE t l ss mis = 0 by
                  have h := HQ.out.2
                  rw [List.take_of_length_le (by have := HN.out.2.2; omega)] at h
                  rw [HSP2.out, h]; rfl)
                go_wp2_with fail
                obtain ⟨W0, hW⟩ : ∃ W0, W0 = wa.alloc (Obj.cells #[Value.int .i64 t, .slice A q c, .slice none 0 0, .slice Ai q ci] 99) := ⟨_, rfl⟩
                rw [← hW]
                have b14 : W0.heap[wa.heap.size]? = some (Obj.cells #[Value.int .i64 t, .slice A q c, .slice none 0 0, .slice Ai q ci] 99 (0, 0)) := by rw [hW]; exact alloc_at rfl
                have hBa : Below wa.heap.size wa W0 := by rw [hW]; exact bal0 wa _
                have hz0 : W0.heap.size = wa.heap.size + 1 := by rw [hW]; simp
                clear hW
                have HZ := Lib.hid hz0
                have hz0' : wa.heap.size < W0.heap.size := by omega
                clear hz0
                have hkk : k ≤ 6 := h6
                clear r0 r1 s0 s1 s2 s3 f0 f1 f2 f3
                go_loopg [73] k (fun g i wr => ∃ j : Nat, j + g = k ∧ i = .int .i64 j ∧ ∃ v mv, wr.heap[wa.heap.size]? = some (.cells #[.int .i64 t, .slice A q c, v, .slice Ai q ci] 99 (0, 0)) ∧ Own eVal 22 1 wr W0.heap.size v mv ∧ Rws wr W0.heap.size mv ((mays t l ss).take j) ∧ Below wa.heap.size wa wr)
                case atStart => exact ⟨0, by omega, rfl, _, [], b14, Own.nil_, ⟨by simp, fun i v h => by simp at h⟩, hBa⟩
                case round =>
                  obtain ⟨j, hj, rfl, v, mv, bx, hov, hrw, hbr⟩ := hrel
                  have HJ := Lib.hid (And.intro hj (And.intro hov hrw))
                  have hjk : j ≤ k := by omega
                  clear hj hov hrw
                  obtain ⟨x0, x1, x2, x3⟩ := blk4 bx
                  have zx := heap_lt bx
                  by_cases hlt : j < k
                  · obtain ⟨b, off, x, rfl, hb, hx, q0, q1, q2, q3, q4⟩ := Sights.get (HSS.out.below (hB2.trans (hbr.mono hB2.size)) (Nat.le_refl _)) hlt
                    go_upto_region 27 with (fail)
                    obtain ⟨Wy, hW⟩ : ∃ Wy, Wy = wr.alloc (Obj.cells #[Value.int .i64 x.n, .bool x.l, .bool x.r, .int .i64 x.b, .int .i64 x.p] 42) := ⟨_, rfl⟩
                    rw [← hW]
                    have bs : Wy.heap[wr.heap.size]? = some (Obj.cells #[Value.int .i64 x.n, .bool x.l, .bool x.r, .int .i64 x.b, .int .i64 x.p] 42 (0, 0)) := by rw [hW]; exact alloc_at rfl
                    have bx2 : Wy.heap[wa.heap.size]? = some (.cells #[.int .i64 t, .slice A q c, v, .slice Ai q ci] 99 (0, 0)) := by rw [hW]; exact hblk_alloc bx _
                    have hby : Below wr.heap.size wr Wy := by rw [hW]; exact bal0 wr _
                    have hov := HJ.out.2.1.below hby (Nat.le_refl _)
                    have hrw : Rws Wy W0.heap.size mv ((mays t l ss).take j) := ⟨HJ.out.2.2.1, fun i v hv => by
                      obtain ⟨l', hl', ho⟩ := HJ.out.2.2.2 i v hv
                      exact ⟨l', hl', ho.below hby (Nat.le_refl _)⟩⟩
                    have hzy : wr.heap.size < Wy.heap.size := heap_lt bs
                    clear hW
                    have HX := Lib.hid hx
                    have hBy : Below wa.heap.size wa Wy := hbr.trans (hby.mono hbr.size)
                    have hLy : Marks Wy A q l := HL.out.below (hB2.trans (hBy.mono hB2.size)) (Nat.le_refl _)
                    have hmem : x ∈ ss := List.mem_of_getElem? hx
                    have hse := sightsE_ok.1 HS0.out x hmem
                    obtain ⟨hx1, hx2⟩ := (seen_ok hse).1
                    have HVM := Lib.hid (show ∀ m ∈ l, 0 ≤ m.n ∧ m.n ≤ 255 from fun m hm => (check_marks HC.out m hm).1)
                    have hq5 : q ≤ 5 := by have := (check_ok HC.out).2.2.1; have := HN.out.1; omega
                    obtain ⟨x0, x1, x2, x3⟩ := blk4 bx2
                    obtain ⟨y0, y1, y2, y3, y4⟩ := blk5 bs
                    have fx := frz bx2 2
                    have hne : v.ownBlock ≠ some wa.heap.size := fun h => by have := hov.lt _ h; omega
                    have hne2 : v.ownBlock ≠ some wr.heap.size := fun h => by have := HJ.out.2.1.lt _ h; omega
                    have HO := Lib.hid (And.intro hov (And.intro hrw (And.intro hLy (And.intro bx2 bs))))
                    have hmvl : mv.length ≤ 6 := by
                      have h1 := HJ.out.2.2.1
                      rw [List.length_take] at h1; omega
                    clear hov hrw hLy bx bx2 bs hx hse q0 q1 q2 q3 q4 hby e0r e1r hmem
                    have hza : wa.heap.size < Wy.heap.size := by omega
                    have hW0y : W0.heap.size ≤ Wy.heap.size := by have := HZ.out; omega
                    go_region_law (first
                      | (go_simp; go_at_call 44; refine (mayB_any t A q c l x _ ?_ ?_ hx1 hx2 HVM.out).mono ?_; (exact HO.out.2.2.1.drew); (omega); rintro e w3 ⟨u, rfl, hu, hb3⟩; have hb3 := bundrew hb3; obtain ⟨hc3, hf3⟩ := bc hb3; obtain ⟨Au, cu, rfl, hsu, hcu, hmu⟩ := hu.form lenInt; have HU := Lib.hid (And.intro hu hb3); have z31 : wa.heap.size < w3.heap.size := (by have := hb3.size; omega); have z32 : wr.heap.size < w3.heap.size := (by have := hb3.size; omega); have z33 : W0.heap.size ≤ w3.heap.size := (by have := hb3.size; omega); clear hu hb3 hsu hcu hmu)
                      | (refine step_app okInts (by rfl) _ _ (by rfl) W0.heap.size v mv (Value.slice Au (mayL t l x).length cu) #[Value.slice Au (mayL t l x).length cu] w3.heap.size (by rfl) (by rfl) (heap_alloc_new w3 _) rfl rfl (by simp [eVal, Value.oneCell']) ((HO.out.1.below HU.out.2 (Nat.le_refl _)).alloc _) (by omega) (by omega) (by simp; omega) ?_; intro g4 cap4 w4 hov4 hgr4 hb4; have f42 : w4.frozen? ⟨wa.heap.size, 2, none⟩ = false := (by rw [hgr4.frozen_far _ (by simp; omega) (by intro h; exact hne h.symm)]; refine frz_al ?_ z31; rw [hf3 _ _ hza]; exact fx); have c42 : w4.cell? ⟨wa.heap.size, 2, none⟩ = some v := (by rw [hgr4.cell_far _ (by simp; omega) (by intro h; exact hne h.symm), World.cell?_alloc_lt _ _ _ z31, hc3 _ _ hza]; exact x2)))
                    all_goals
                      obtain ⟨n1, n2, n3, n4⟩ := grid_next HO.out.2.2.2.1 HO.out.1 HO.out.2.1 (by have := HZ.out; omega) hW0y HU.out.2 HU.out.1 hov4 hgr4
                      have HN4 := Lib.hid (And.intro n1 (And.intro n2 n3))
                      clear n1 n2 n3
                      have n5 := hBy.trans n4
                      clear hc3 hf3 x0 x1 x2 x3 y0 y1 y2 y3 y4 f42 c42
                      generalize w4.setCell { block := wa.heap.size, off := 2 } (Value.slice (some { block := g4, off := 0 }) (mv.length + 1) cap4) = w5 at *
                      go_wp2
                      go_roundg (gk - 1)
                      case measure => have := HJ.out.1; omega
                      case rel =>
                        refine ⟨j + 1, by have := HJ.out.1; omega, by go_num, _, _, HN4.out.1, HN4.out.2.1, ?_, n5⟩
                        have h := HN4.out.2.2
                        rw [show (mays t l ss).take (j + 1) = (mays t l ss).take j ++ [mayL t l x] by
                          unfold mays; rw [List.take_add_one, List.getElem?_map, HX.out]; rfl]
                        exact h
                  · obtain rfl : j = k := by omega
                    have hgrid := Lib.hid (show OwnG wr W0.heap.size v (mays t l ss) from ⟨mv, HJ.out.2.1, by
                      have h := HJ.out.2.2
                      rwa [List.take_of_length_le (by unfold mays; rw [List.length_map]; have := HN.out.2.1; omega)] at h⟩)
                    have e1w := bheap (bheap e1r hbr (Nat.le_refl _)) (Below.refl _ _) (Nat.le_refl _)
                    obtain ⟨Av, cv, rfl, hsv, hcv, hmv⟩ := HJ.out.2.1.form lenVal
                    clear hsv hcv hmv
                    have f0 := frz e1w 0
                    have f1 := frz e1w 1
                    have f2 := frz e1w 2
                    have f3 := frz e1w 3
                    obtain ⟨s0, s1, s2, s3⟩ := blk4 e1w
                    have zw := heap_lt e1w
                    go_wp2
                    refine bodyPost_ret (v := .tuple #[.agg #[.int .i64 t, .slice A q c, .slice Av mv.length cv, .slice Ai q ci], .int .i64 0]) (by simp [results, Tryd.f50, go_sem, s0, s1, s2, s3, zw]) rfl ?_
                    refine ⟨?_, below_set4 (hB2.trans (hbr.mono hB2.size)) (by omega) _ _ _ _⟩
                    unfold GatherRes
                    rw [if_pos HE.out]
                    refine ⟨_, rfl, ?_⟩
                    have hz := hB2.size
                    have hz3 := HZ.out
                    exact (hgrid.out.upon (fun jj hj => heap_set4 (by omega) _ _ _ _)).mono (by omega)

          · have h2 : decide (ni < n) = false := by simp; omega
            have h2' : decide ((ni : Int) < (n : Int)) = false := by simp; omega
            have h3 : decide (n < ni) = true := by simpa using hcmp
            have h3' : decide ((n : Int) < (ni : Int)) = true := by simp; omega
            have HE := Lib.hid (show gatherE t l ss mis = 6 by rw [HSP.out, if_neg (by have := HN.out; omega), if_pos (by have := HN.out; omega)])
            go_wp2
            refine bodyPost_ret (v := .tuple #[.agg #[.int .i64 0, .slice none 0 0, .slice none 0 0, .slice none 0 0], .int .i64 6]) (by simp [results, Tryd.f50, go_sem, s0, s1, s2, s3, z2]) rfl ?_
            refine ⟨?_, below_set4 hB2 (by omega) _ _ _ _⟩
            unfold GatherRes
            rw [HE.out, if_neg (by omega)]
    · have h6' : decide ((6 : Int) < (m : Int)) = true := by simp; omega
      have HE := Lib.hid (show gatherE t l ss mis = 6 by unfold gatherE; rw [if_neg (by simp [HC.out]), if_pos (by have := HN.out.2.1; omega)])
      go_wp2
      refine bodyPost_ret (v := .tuple #[.agg #[.int .i64 0, .slice none 0 0, .slice none 0 0, .slice none 0 0], .int .i64 6]) (by simp [results, Tryd.f50, go_sem, s0, s1, s2, s3, z1]) rfl ?_
      refine ⟨?_, below_set4 hB1 (by omega) _ _ _ _⟩
      unfold GatherRes
      rw [HE.out, if_neg (by omega)]
  · have h0 : (check t l != 0) = true := by simp [hck]
    have HE := Lib.hid (show gatherE t l ss mis = check t l by unfold gatherE; rw [if_pos hck])
    have HC := Lib.hid hck
    clear hck
    go_wp2
    refine bodyPost_ret (v := .tuple #[.agg #[.int .i64 0, .slice none 0 0, .slice none 0 0, .slice none 0 0], .int .i64 (check t l)]) (by simp [results, Tryd.f50, go_sem, s0, s1, s2, s3, z1]) rfl ?_
    refine ⟨?_, below_set4 hB1 (by omega) _ _ _ _⟩
    unfold GatherRes
    rw [HE.out, if_neg HC.out]
end Go.Proofs.YtoidaigiejilcaaDoor
