/- TopFold 10: Gather, Home3, Words, Gives, Owners. -/
import Derived.Test.YtgnjknihgjdedaaTf02
import Derived.Test.YtgnjknihgjdedaaTf04
import Derived.Deep.RegionLaw
import Derived.Test.YtgnjknihgjdedaaTf09
import Derived.Test.YtgnjknihgjdedaaTf01
import Derived.Laws.EntriesVeiled
import Derived.Test.YtgnjknihgjdedaaTf03
import Derived.Test.YtgnjknihgjdedaaTf07
import Derived.Deep.OwnRows
namespace Go.Proofs.Ytgnjknihgjdedaa
open Go.RowKit
set_option linter.unusedVariables false
set_option linter.unusedSimpArgs false

def sightsE (ss : List Sg) : Int := ((ss.map fun s => seen s 9 6).find? (fun e => e != 0)).getD 0
theorem sightsE_cons (s : Sg) (r : List Sg) : sightsE (s :: r) = if seen s 9 6 = 0 then sightsE r else seen s 9 6 := by
  unfold sightsE
  rw [List.map_cons, List.find?_cons]
  by_cases h : seen s 9 6 = 0
  · simp [h]
  · have : (seen s 9 6 != 0) = true := by simp [h]
    simp [h, this]
theorem sightsE_bad {ss : List Sg} {k : Nat} {s : Sg} (h : ∀ (i : Nat) x, i < k → ss[i]? = some x → seen x 9 6 = 0) (hk : ss[k]? = some s) (hs : seen s 9 6 ≠ 0) : sightsE ss = seen s 9 6 := by
  induction ss generalizing k with
  | nil => simp at hk
  | cons a r ih =>
    rw [sightsE_cons]
    cases k with
    | zero => simp only [List.getElem?_cons_zero, Option.some.injEq] at hk; subst hk; rw [if_neg hs]
    | succ k =>
      rw [if_pos (h 0 a (by omega) rfl)]
      exact ih (fun i x hi hx => h (i + 1) x (Nat.succ_lt_succ hi) (by simpa using hx)) (by simpa using hk)
theorem sightsE_ok {ss : List Sg} : sightsE ss = 0 ↔ ∀ s ∈ ss, seen s 9 6 = 0 := by
  induction ss with
  | nil => simp [sightsE]
  | cons a r ih =>
    rw [sightsE_cons]
    by_cases h : seen a 9 6 = 0
    · rw [if_pos h, ih]; simp [h]
    · rw [if_neg h]; simp [h]
def gatherE (t : Int) (l : List Mk) (ss : List Sg) (mis : List Int) : Int :=
  if check t l ≠ 0 then check t l else if 6 < ss.length then 6 else if sightsE ss ≠ 0 then sightsE ss
  else if mis.length < l.length then 7 else if l.length < mis.length then 6 else if mis.all (fun x => btw x 0 6) then 0 else 1
def mays (t : Int) (l : List Mk) (ss : List Sg) : List (List Int) := ss.map (mayL t l)

def GatherRes (w : World) (t : Int) (A : Option Addr) (n c : Nat) (l : List Mk) (ss : List Sg) (Ai : Option Addr) (ni ci : Nat) (mis : List Int) (e : Ending) (w' : World) : Prop :=
  if gatherE t l ss mis = 0 then ∃ v, e = .returned (.tuple #[.agg #[.int .i64 t, .slice A n c, v, .slice Ai ni ci], .int .i64 0]) ∧ OwnG w' w.heap.size v (mays t l ss)
  else e = .returned (.tuple #[.agg #[.int .i64 0, .slice none 0 0, .slice none 0 0, .slice none 0 0], .int .i64 (gatherE t l ss mis)])

set_option maxRecDepth 100000 in
set_option maxHeartbeats 2000000 in
theorem gather_any (t : Int) (A : Option Addr) (n c : Nat) (l : List Mk) (B : Option Addr) (m cb : Nat) (ss : List Sg) (Ai : Option Addr) (ni ci : Nat) (mis : List Int) (w : World)
    (hl : Marks w A n l) (hlc : n ≤ c) (hcm : c ≤ maxLen) (hss : Sights w B m ss) (hmm : m ≤ maxLen) (hmi : Ints w Ai ni mis) (hni : ni ≤ maxLen) :
    Calls Try.prog 46 #[.agg #[.int .i64 t, .slice A n c], .slice B m cb, .slice Ai ni ci] w fun e w' => GatherRes w t A n c l ss Ai ni ci mis e w' ∧ Below w.heap.size w w' := by
  have HL := Lib.hid hl
  have HSS := Lib.hid hss
  have HMI := Lib.hid hmi
  have hll := hl.len
  have hsl := hss.len
  have hml := hmi.len
  have HN := Lib.hid (And.intro hll (And.intro hsl hml))
  unfold maxLen at hmm hni
  clear hl hss hmi hll hsl hml
  go_enter Try.func46, Try.ntmps46
  go_wp2_with fail
  have hbw : Below w.heap.size w ((w.alloc (Obj.cells #[Value.int .i64 t, .slice A n c] 41)).alloc (Obj.cells #[Value.int .i64 0, .slice none 0 0, .slice none 0 0, .slice none 0 0] 107)) := bal (bal0 w _) (Nat.le_refl _) _
  refine (check_any t A n c l _ (HL.out.below hbw (Nat.le_refl _)) hlc hcm).mono ?_
  rintro e w1 ⟨rfl, hb1⟩
  have e0 := bheap (show ((w.alloc (Obj.cells #[Value.int .i64 t, .slice A n c] 41)).alloc (Obj.cells #[Value.int .i64 0, .slice none 0 0, .slice none 0 0, .slice none 0 0] 107)).heap[w.heap.size]? = some (Obj.cells #[Value.int .i64 t, .slice A n c] 41 (0, 0)) from hblk_alloc (alloc_at rfl) _) hb1 (Nat.le_refl _)
  have e1 := bheap (show ((w.alloc (Obj.cells #[Value.int .i64 t, .slice A n c] 41)).alloc (Obj.cells #[Value.int .i64 0, .slice none 0 0, .slice none 0 0, .slice none 0 0] 107)).heap[w.heap.size + 1]? = some (Obj.cells #[Value.int .i64 0, .slice none 0 0, .slice none 0 0, .slice none 0 0] 107 (0, 0)) from alloc_at (by simp)) hb1 (Nat.le_refl _)
  have hB1 : Below w.heap.size w w1 := hbw.trans (hb1.mono (by simp; omega))
  clear hb1 hbw
  obtain ⟨r0, r1⟩ := blk2 e0
  obtain ⟨s0, s1, s2, s3⟩ := blk4 e1
  have f0 := frz e1 0
  have f1 := frz e1 1
  have f2 := frz e1 2
  have f3 := frz e1 3
  have z1 := heap_lt e1
  have z0 : w.heap.size < w1.heap.size := by omega
  by_cases hck : check t l = 0
  · have h0 : (check t l != 0) = false := by simp [hck]
    have HC := Lib.hid hck
    clear hck
    by_cases h6 : m ≤ 6
    · have h6' : decide ((6 : Int) < (m : Int)) = false := by simp; omega
      have e1' := e1
      have hBl := Lib.hid hB1
      go_wp2_with fail
      go_loopg [29] m (fun g i wr => ∃ k : Nat, k + g = m ∧ i = .int .i64 k ∧ (∀ (i : Nat) x, i < k → ss[i]? = some x → seen x 9 6 = 0) ∧ Below w1.heap.size w1 wr)
      case atStart => exact ⟨0, by omega, rfl, fun i x hi => by omega, Below.refl _ _⟩
      case round =>
        obtain ⟨k, hk, rfl, hok, hbl⟩ := hrel
        have HK := Lib.hid (And.intro hk hok)
        have hkm : k ≤ m := by omega
        clear hk hok
        have hz := hbl.size
        have e0r := bheap e0 hbl (Nat.le_refl _)
        have e1r := bheap e1 hbl (Nat.le_refl _)
        by_cases hlt : k < m
        · obtain ⟨b, off, x, rfl, hb, hx, q0, q1, q2, q3, q4⟩ := Sights.get (HSS.out.below (hB1.trans (hbl.mono hB1.size)) (Nat.le_refl _)) hlt
          have HX := Lib.hid hx
          clear hx
          by_cases hse : seen x 9 6 = 0
          · have h1 : (seen x 9 6 != 0) = false := by simp [hse]
            have HSE := Lib.hid hse
            clear hse
            go_wp2_with fail
            refine (sight_any x _).mono ?_
            rintro e w2 ⟨rfl, hb2⟩
            have hbl2 : Below w1.heap.size w1 w2 := (bal hbl (Nat.le_refl _) _).trans (hb2.mono (by simp; omega))
            go_wp2
            go_roundg (gk - 1)
            case measure => have := HK.out.1; omega
            case rel =>
              refine ⟨k + 1, by have := HK.out.1; omega, by go_num, fun i y hi hy => ?_, hbl2⟩
              rcases Nat.lt_or_ge i k with h | h
              · exact HK.out.2 i y h hy
              · obtain rfl : i = k := by omega
                have := HX.out.symm.trans hy
                cases this
                exact HSE.out
          · have h1 : (seen x 9 6 != 0) = true := by simp [hse]
            have HE := Lib.hid (show gatherE t l ss mis = seen x 9 6 by
              have hb := sightsE_bad HK.out.2 HX.out hse
              unfold gatherE; rw [if_neg (by simp [HC.out]), if_neg (by have := HN.out.2.1; omega), if_pos (by rw [hb]; exact hse), hb])
            have HSE := Lib.hid hse
            clear hse
            go_wp2_with fail
            refine (sight_any x _).mono ?_
            rintro e w2 ⟨rfl, hb2⟩
            have e12 := bheap (hblk_alloc e1r (Obj.cells #[Value.int .i64 x.n, .bool x.l, .bool x.r, .int .i64 x.b, .int .i64 x.p] 52)) hb2 (Nat.le_refl _)
            have hB2 : Below w.heap.size w w2 := hB1.trans (((bal hbl (Nat.le_refl _) _).trans (hb2.mono (by simp; omega))).mono hB1.size)
            obtain ⟨s0, s1, s2, s3⟩ := blk4 e12
            have f0 := frz e12 0
            have f1 := frz e12 1
            have f2 := frz e12 2
            have f3 := frz e12 3
            have z2 := heap_lt e12
            go_wp2
            refine bodyPost_ret (v := .tuple #[.agg #[.int .i64 0, .slice none 0 0, .slice none 0 0, .slice none 0 0], .int .i64 (seen x 9 6)]) (by simp [results, Try.f46, go_sem, s0, s1, s2, s3, z2]) rfl ?_
            refine ⟨?_, below_set4 hB2 (by omega) _ _ _ _⟩
            unfold GatherRes
            rw [HE.out, if_neg HSE.out]
        · obtain rfl : k = m := by omega
          have hss0 : sightsE ss = 0 := sightsE_ok.2 fun s hs => by
            obtain ⟨i, hi⟩ := List.getElem?_of_mem hs
            exact HK.out.2 i s (by have := (List.getElem?_eq_some_iff.1 hi).1; have := HN.out.2.1; omega) hi
          have HS0 := Lib.hid hss0
          clear hss0
          obtain ⟨r0, r1⟩ := blk2 e0r
          obtain ⟨s0, s1, s2, s3⟩ := blk4 e1r
          have f0 := frz e1r 0
          have f1 := frz e1r 1
          have f2 := frz e1r 2
          have f3 := frz e1r 3
          have z2 := heap_lt e1r
          have hB2 : Below w.heap.size w wr := hB1.trans (hbl.mono hB1.size)
          have HSP := Lib.hid (show gatherE t l ss mis = if mis.length < l.length then 7 else if l.length < mis.length then 6 else if mis.all (fun x => btw x 0 6) then 0 else 1 by
            unfold gatherE; rw [if_neg (by simp [HC.out]), if_neg (by have := HN.out.2.1; omega), if_neg (by simp [HS0.out])])
          rcases Nat.lt_trichotomy ni n with hcmp | hcmp | hcmp
          · have h2 : decide (ni < n) = true := by simpa using hcmp
            have h2' : decide ((ni : Int) < (n : Int)) = true := by simp; omega
            have HE := Lib.hid (show gatherE t l ss mis = 7 by rw [HSP.out, if_pos (by have := HN.out; omega)])
            go_wp2
            refine bodyPost_ret (v := .tuple #[.agg #[.int .i64 0, .slice none 0 0, .slice none 0 0, .slice none 0 0], .int .i64 7]) (by simp [results, Try.f46, go_sem, s0, s1, s2, s3, z2]) rfl ?_
            refine ⟨?_, below_set4 hB2 (by omega) _ _ _ _⟩
            unfold GatherRes
            rw [HE.out, if_neg (by omega)]
          · subst hcmp
            have h2 : decide (ni < ni) = false := by simp
            have h2' : decide ((ni : Int) < (ni : Int)) = false := by simp
            have HSP2 := Lib.hid (show gatherE t l ss mis = if mis.all (fun x => btw x 0 6) then 0 else 1 by rw [HSP.out, if_neg (by have := HN.out; omega), if_neg (by have := HN.out; omega)])
            go_wp2_with fail
            obtain ⟨wa, rfl⟩ : ∃ wa : World, wa = wr := ⟨_, rfl⟩
            have hmia : Ints wa Ai ni mis := HMI.out.below hB2 (Nat.le_refl _)
            go_loopg [58] ni (fun g i wr => ∃ q : Nat, q + g = ni ∧ i = .int .i64 q ∧ (mis.take q).all (fun x => btw x 0 6) = true ∧ wa = wr)
            case atStart => exact ⟨0, by omega, rfl, by simp, rfl⟩
            case round =>
              obtain ⟨q, hq, rfl, hall, rfl⟩ := hrel
              have HQ := Lib.hid (And.intro hq hall)
              have hqm : q ≤ ni := by omega
              clear hq hall
              by_cases hlt : q < ni
              · obtain ⟨b, off, x, rfl, hb, hx, q0⟩ := Ints.get hmia hlt
                have HX := Lib.hid hx
                clear hx
                cases hbt : btw x 0 6
                · have HE := Lib.hid (show gatherE t l ss mis = 1 by
                    rw [HSP2.out, all_not HX.out hbt]; rfl)
                  go_wp2_with (go_at_call 80; refine (between_any _ _ _ _).mono ?_; rintro e w' ⟨rfl, rfl⟩)
                  refine bodyPost_ret (v := .tuple #[.agg #[.int .i64 0, .slice none 0 0, .slice none 0 0, .slice none 0 0], .int .i64 1]) (by simp [results, Try.f46, go_sem, s0, s1, s2, s3, z2]) rfl ?_
                  refine ⟨?_, below_set4 hB2 (by omega) _ _ _ _⟩
                  unfold GatherRes
                  rw [HE.out, if_neg (by omega)]
                · have HBT := Lib.hid hbt
                  go_wp2_with (go_at_call 80; refine (between_any _ _ _ _).mono ?_; rintro e w' ⟨rfl, rfl⟩)
                  go_roundg (gk - 1)
                  case measure => have := HQ.out.1; omega
                  case rel => exact ⟨q + 1, by have := HQ.out.1; omega, by go_num, all_step HQ.out.2 HX.out HBT.out, rfl⟩
              · obtain rfl : q = ni := by omega
                have HE := Lib.hid (show gatherE t l ss mis = 0 by
                  have h := HQ.out.2
                  rw [List.take_of_length_le (by have := HN.out.2.2; omega)] at h
                  rw [HSP2.out, h]; rfl)
                go_wp2_with fail
                obtain ⟨W0, hW⟩ : ∃ W0, W0 = wa.alloc (Obj.cells #[Value.int .i64 t, .slice A q c, .slice none 0 0, .slice Ai q ci] 107) := ⟨_, rfl⟩
                rw [← hW]
                have b14 : W0.heap[wa.heap.size]? = some (Obj.cells #[Value.int .i64 t, .slice A q c, .slice none 0 0, .slice Ai q ci] 107 (0, 0)) := by rw [hW]; exact alloc_at rfl
                have hBa : Below wa.heap.size wa W0 := by rw [hW]; exact bal0 wa _
                have hz0 : W0.heap.size = wa.heap.size + 1 := by rw [hW]; simp
                clear hW
                have HZ := Lib.hid hz0
                have hz0' : wa.heap.size < W0.heap.size := by omega
                clear hz0
                have hkk : k ≤ 6 := h6
                clear r0 r1 s0 s1 s2 s3 f0 f1 f2 f3
                go_loopg [73] k (fun g i wr => ∃ j : Nat, j + g = k ∧ i = .int .i64 j ∧ ∃ v mv, wr.heap[wa.heap.size]? = some (.cells #[.int .i64 t, .slice A q c, v, .slice Ai q ci] 107 (0, 0)) ∧ Own eVal 22 1 wr W0.heap.size v mv ∧ Rws wr W0.heap.size mv ((mays t l ss).take j) ∧ Below wa.heap.size wa wr)
                case atStart => exact ⟨0, by omega, rfl, _, [], b14, Own.nil_, ⟨by simp, fun i v h => by simp at h⟩, hBa⟩
                case round =>
                  obtain ⟨j, hj, rfl, v, mv, bx, hov, hrw, hbr⟩ := hrel
                  have HJ := Lib.hid (And.intro hj (And.intro hov hrw))
                  have hjk : j ≤ k := by omega
                  clear hj hov hrw
                  obtain ⟨x0, x1, x2, x3⟩ := blk4 bx
                  have zx := heap_lt bx
                  by_cases hlt : j < k
                  · obtain ⟨b, off, x, rfl, hb, hx, q0, q1, q2, q3, q4⟩ := Sights.get (HSS.out.below (hB2.trans (hbr.mono hB2.size)) (Nat.le_refl _)) hlt
                    go_upto_region 27 with (fail)
                    obtain ⟨Wy, hW⟩ : ∃ Wy, Wy = wr.alloc (Obj.cells #[Value.int .i64 x.n, .bool x.l, .bool x.r, .int .i64 x.b, .int .i64 x.p] 52) := ⟨_, rfl⟩
                    rw [← hW]
                    have bs : Wy.heap[wr.heap.size]? = some (Obj.cells #[Value.int .i64 x.n, .bool x.l, .bool x.r, .int .i64 x.b, .int .i64 x.p] 52 (0, 0)) := by rw [hW]; exact alloc_at rfl
                    have bx2 : Wy.heap[wa.heap.size]? = some (.cells #[.int .i64 t, .slice A q c, v, .slice Ai q ci] 107 (0, 0)) := by rw [hW]; exact hblk_alloc bx _
                    have hby : Below wr.heap.size wr Wy := by rw [hW]; exact bal0 wr _
                    have hov := HJ.out.2.1.below hby (Nat.le_refl _)
                    have hrw : Rws Wy W0.heap.size mv ((mays t l ss).take j) := ⟨HJ.out.2.2.1, fun i v hv => by
                      obtain ⟨l', hl', ho⟩ := HJ.out.2.2.2 i v hv
                      exact ⟨l', hl', ho.below hby (Nat.le_refl _)⟩⟩
                    have hzy : wr.heap.size < Wy.heap.size := heap_lt bs
                    clear hW
                    have HX := Lib.hid hx
                    have hBy : Below wa.heap.size wa Wy := hbr.trans (hby.mono hbr.size)
                    have hLy : Marks Wy A q l := HL.out.below (hB2.trans (hBy.mono hB2.size)) (Nat.le_refl _)
                    have hmem : x ∈ ss := List.mem_of_getElem? hx
                    have hse := sightsE_ok.1 HS0.out x hmem
                    obtain ⟨hx1, hx2⟩ := (seen_ok hse).1
                    have HVM := Lib.hid (show ∀ m ∈ l, 0 ≤ m.n ∧ m.n ≤ 255 from fun m hm => (check_marks HC.out m hm).1)
                    have hq5 : q ≤ 5 := by have := (check_ok HC.out).2.2.1; have := HN.out.1; omega
                    obtain ⟨x0, x1, x2, x3⟩ := blk4 bx2
                    obtain ⟨y0, y1, y2, y3, y4⟩ := blk5 bs
                    have fx := frz bx2 2
                    have hne : v.ownBlock ≠ some wa.heap.size := fun h => by have := hov.lt _ h; omega
                    have hne2 : v.ownBlock ≠ some wr.heap.size := fun h => by have := HJ.out.2.1.lt _ h; omega
                    have HO := Lib.hid (And.intro hov (And.intro hrw (And.intro hLy (And.intro bx2 bs))))
                    have hmvl : mv.length ≤ 6 := by
                      have h1 := HJ.out.2.2.1
                      rw [List.length_take] at h1; omega
                    clear hov hrw hLy bx bx2 bs hx hse q0 q1 q2 q3 q4 hby e0r e1r hmem
                    have hza : wa.heap.size < Wy.heap.size := by omega
                    have hW0y : W0.heap.size ≤ Wy.heap.size := by have := HZ.out; omega
                    go_region_law (first
                      | (go_simp; go_at_call 82; refine (mayB_any t A q c l x _ ?_ ?_ hx1 hx2 HVM.out).mono ?_; (exact HO.out.2.2.1.drew); (omega); rintro e w3 ⟨u, rfl, hu, hb3⟩; have hb3 := bundrew hb3; obtain ⟨hc3, hf3⟩ := bc hb3; obtain ⟨Au, cu, rfl, hsu, hcu, hmu⟩ := hu.form lenInt; have HU := Lib.hid (And.intro hu hb3); have z31 : wa.heap.size < w3.heap.size := (by have := hb3.size; omega); have z32 : wr.heap.size < w3.heap.size := (by have := hb3.size; omega); have z33 : W0.heap.size ≤ w3.heap.size := (by have := hb3.size; omega); clear hu hb3 hsu hcu hmu)
                      | (refine step_app okInts (by rfl) _ _ (by rfl) W0.heap.size v mv (Value.slice Au (mayL t l x).length cu) #[Value.slice Au (mayL t l x).length cu] w3.heap.size (by rfl) (by rfl) (heap_alloc_new w3 _) rfl rfl (by simp [eVal, Value.oneCell']) ((HO.out.1.below HU.out.2 (Nat.le_refl _)).alloc _) (by omega) (by omega) (by simp; omega) ?_; intro g4 cap4 w4 hov4 hgr4 hb4; have f42 : w4.frozen? ⟨wa.heap.size, 2, none⟩ = false := (by rw [hgr4.frozen_far _ (by simp; omega) (by intro h; exact hne h.symm)]; refine frz_al ?_ z31; rw [hf3 _ _ hza]; exact fx); have c42 : w4.cell? ⟨wa.heap.size, 2, none⟩ = some v := (by rw [hgr4.cell_far _ (by simp; omega) (by intro h; exact hne h.symm), World.cell?_alloc_lt _ _ _ z31, hc3 _ _ hza]; exact x2)))
                    all_goals
                      obtain ⟨n1, n2, n3, n4⟩ := grid_next HO.out.2.2.2.1 HO.out.1 HO.out.2.1 (by have := HZ.out; omega) hW0y HU.out.2 HU.out.1 hov4 hgr4
                      have HN4 := Lib.hid (And.intro n1 (And.intro n2 n3))
                      clear n1 n2 n3
                      have n5 := hBy.trans n4
                      clear hc3 hf3 x0 x1 x2 x3 y0 y1 y2 y3 y4 f42 c42
                      generalize w4.setCell { block := wa.heap.size, off := 2 } (Value.slice (some { block := g4, off := 0 }) (mv.length + 1) cap4) = w5 at *
                      go_wp2
                      go_roundg (gk - 1)
                      case measure => have := HJ.out.1; omega
                      case rel =>
                        refine ⟨j + 1, by have := HJ.out.1; omega, by go_num, _, _, HN4.out.1, HN4.out.2.1, ?_, n5⟩
                        have h := HN4.out.2.2
                        rw [show (mays t l ss).take (j + 1) = (mays t l ss).take j ++ [mayL t l x] by
                          unfold mays; rw [List.take_add_one, List.getElem?_map, HX.out]; rfl]
                        exact h
                  · obtain rfl : j = k := by omega
                    have hgrid := Lib.hid (show OwnG wr W0.heap.size v (mays t l ss) from ⟨mv, HJ.out.2.1, by
                      have h := HJ.out.2.2
                      rwa [List.take_of_length_le (by unfold mays; rw [List.length_map]; have := HN.out.2.1; omega)] at h⟩)
                    have e1w := bheap (bheap e1r hbr (Nat.le_refl _)) (Below.refl _ _) (Nat.le_refl _)
                    obtain ⟨Av, cv, rfl, hsv, hcv, hmv⟩ := HJ.out.2.1.form lenVal
                    clear hsv hcv hmv
                    have f0 := frz e1w 0
                    have f1 := frz e1w 1
                    have f2 := frz e1w 2
                    have f3 := frz e1w 3
                    obtain ⟨s0, s1, s2, s3⟩ := blk4 e1w
                    have zw := heap_lt e1w
                    go_wp2
                    refine bodyPost_ret (v := .tuple #[.agg #[.int .i64 t, .slice A q c, .slice Av mv.length cv, .slice Ai q ci], .int .i64 0]) (by simp [results, Try.f46, go_sem, s0, s1, s2, s3, zw]) rfl ?_
                    refine ⟨?_, below_set4 (hB2.trans (hbr.mono hB2.size)) (by omega) _ _ _ _⟩
                    unfold GatherRes
                    rw [if_pos HE.out]
                    refine ⟨_, rfl, ?_⟩
                    have hz := hB2.size
                    have hz3 := HZ.out
                    exact (hgrid.out.upon (fun jj hj => heap_set4 (by omega) _ _ _ _)).mono (by omega)

          · have h2 : decide (ni < n) = false := by simp; omega
            have h2' : decide ((ni : Int) < (n : Int)) = false := by simp; omega
            have h3 : decide (n < ni) = true := by simpa using hcmp
            have h3' : decide ((n : Int) < (ni : Int)) = true := by simp; omega
            have HE := Lib.hid (show gatherE t l ss mis = 6 by rw [HSP.out, if_neg (by have := HN.out; omega), if_pos (by have := HN.out; omega)])
            go_wp2
            refine bodyPost_ret (v := .tuple #[.agg #[.int .i64 0, .slice none 0 0, .slice none 0 0, .slice none 0 0], .int .i64 6]) (by simp [results, Try.f46, go_sem, s0, s1, s2, s3, z2]) rfl ?_
            refine ⟨?_, below_set4 hB2 (by omega) _ _ _ _⟩
            unfold GatherRes
            rw [HE.out, if_neg (by omega)]
    · have h6' : decide ((6 : Int) < (m : Int)) = true := by simp; omega
      have HE := Lib.hid (show gatherE t l ss mis = 6 by unfold gatherE; rw [if_neg (by simp [HC.out]), if_pos (by have := HN.out.2.1; omega)])
      go_wp2
      refine bodyPost_ret (v := .tuple #[.agg #[.int .i64 0, .slice none 0 0, .slice none 0 0, .slice none 0 0], .int .i64 6]) (by simp [results, Try.f46, go_sem, s0, s1, s2, s3, z1]) rfl ?_
      refine ⟨?_, below_set4 hB1 (by omega) _ _ _ _⟩
      unfold GatherRes
      rw [HE.out, if_neg (by omega)]
  · have h0 : (check t l != 0) = true := by simp [hck]
    have HE := Lib.hid (show gatherE t l ss mis = check t l by unfold gatherE; rw [if_pos hck])
    have HC := Lib.hid hck
    clear hck
    go_wp2
    refine bodyPost_ret (v := .tuple #[.agg #[.int .i64 0, .slice none 0 0, .slice none 0 0, .slice none 0 0], .int .i64 (check t l)]) (by simp [results, Try.f46, go_sem, s0, s1, s2, s3, z1]) rfl ?_
    refine ⟨?_, below_set4 hB1 (by omega) _ _ _ _⟩
    unfold GatherRes
    rw [HE.out, if_neg HC.out]
end Go.Proofs.Ytgnjknihgjdedaa
namespace Go.Proofs.Ytgnjknihgjdedaa
open Go.RowKit
set_option linter.unusedVariables false
set_option linter.unusedSimpArgs false

theorem grows_all (S : Srch) (xs : Array Value) (lt : Value) (w0 : World) (C : Ctx S w0 xs lt) : ∀ n, S.Grows xs lt w0 n
  | 0 => grow_zero S xs lt w0 C
  | n + 1 => grow_succ S xs lt w0 C n (grows_all S xs lt w0 C n)

def Srch.all (S : Srch) : Option (List Int) := S.rest S.L ⟨0, 0, 0, 0, 0, 0⟩
def HomeRes (base : Nat) (r : Option (List Int)) (e : Ending) (w' : World) : Prop :=
  match r with
  | some l => ∃ v, e = .returned (.tuple #[v, .bool true]) ∧ OwnI w' base v l
  | none => e = .returned (.tuple #[.slice none 0 0, .bool false])

set_option maxRecDepth 100000 in
set_option maxHeartbeats 2000000 in
theorem home_any (S : Srch) (xs : Array Value) (fl : Nat) (fi ca : Array Value) (w : World) (C : Ctx S w xs (.func (.func fl) fi ca)) :
    Calls Try.prog 47 #[.agg xs, .int .u64 S.left, .func (.func fl) fi ca] w fun e w' => HomeRes w.heap.size S.all e w' ∧ Below w.heap.size w w' := by
  obtain ⟨t, A, nA, cA, Am, cm, Ai, ni, ci, mv, rfl, hmv, hmis, hrow⟩ := C.x
  have hmm := @run_makeMap Try.prog
  have hL6 := C.L
  have hb := C.hb
  have HC := Lib.hid (And.intro C hb)
  clear C hmv hmis hrow hb
  have hmf : ∀ (fn : Fn) (first cap : Array Value) (w : World), (Instr.makeFunc fn first cap).run Try.prog w = .ok (.func fn first cap) w := fun _ _ _ _ => rfl
  obtain ⟨i, z, hi, hz, hsize, hbytes, hzs⟩ := okInt.info
  obtain ⟨M, hM⟩ : ∃ M : Array Value, M = madeCells z.cells S.L := ⟨_, rfl⟩
  have hmk : ∀ W : World, (Instr.makeSlice 22 (.int .i64 0) (.int .i64 S.L)).run Try.prog W = .ok (.slice (some ⟨W.heap.size, 0, none⟩) 0 S.L) (W.alloc (.cells M 3)) := fun W => by
    have h := run_make (P := Try.prog) W 22 3 i z Try.underlying22 hi hz .i64 .i64 0 S.L (by omega) (by omega) (by rw [hbytes]; omega) (by omega)
    rw [hM]
    simpa [hsize] using h
  have HM := Lib.hid (show M.size = S.L by rw [hM, size_madeCells])
  clear hM hi hz hsize hbytes hzs
  go_enter Try.func47, Try.ntmps47
  go_upto_region 6 with (fail)
  obtain ⟨W0, hW⟩ : ∃ W0, W0 = ((((((((((w.alloc (Obj.cells #[Value.int IntKind.i64 t, Value.slice A nA cA, Value.slice Am S.L cm, Value.slice Ai ni ci] 107)).alloc (Obj.cells #[Value.int IntKind.u64 ↑S.left] 105)).alloc (Obj.cells #[Value.func (Fn.func fl) fi ca] 94)).alloc (Obj.cells #[Value.int IntKind.i64 0, Value.int IntKind.i64 0, Value.int IntKind.i64 0, Value.int IntKind.i64 0, Value.int IntKind.i64 0, Value.int IntKind.i64 0] 155)).alloc (Obj.map #[] 0)).alloc (Obj.cells #[Value.map (some (w.heap.size + 1 + 1 + 1 + 1))] 156)).alloc (Obj.cells M 3)).alloc (Obj.cells #[Value.slice (some { block := w.heap.size + 1 + 1 + 1 + 1 + 1 + 1, off := 0 }) 0 S.L] 22)).alloc (Obj.cells #[Value.nilFunc] 33)).alloc (Obj.cells #[Value.func (Fn.func 83) #[] #[Value.pointer (some { block := w.heap.size + 1 + 1 + 1, off := 0 }), Value.pointer (some { block := w.heap.size + 1 + 1 + 1 + 1 + 1 + 1 + 1, off := 0 }), Value.pointer (some { block := w.heap.size + 1 + 1 + 1 + 1 + 1 + 1 + 1 + 1, off := 0 })]] 94)) := ⟨_, rfl⟩
  rw [← hW]
  obtain ⟨C, hb⟩ := HC.out
  have hB : Below w.heap.size w W0 := by
    rw [hW]
    exact bal (bal (bal (bal (bal (bal (bal (bal (bal (bal0 w _) (Nat.le_refl _) _) (Nat.le_refl _) _) (Nat.le_refl _) _) (Nat.le_refl _) _) (Nat.le_refl _) _) (Nat.le_refl _) _) (Nat.le_refl _) _) (Nat.le_refl _) _) (Nat.le_refl _) _
  have hs0 : W0.heap.size = S.b + 10 := by rw [hW, ← hb]; simp
  have e0 : W0.heap[S.b]? = some (Obj.cells #[Value.int IntKind.i64 t, Value.slice A nA cA, Value.slice Am S.L cm, Value.slice Ai ni ci] 107 (0, 0)) := by rw [hW, ← hb]; exact hblk_alloc (hblk_alloc (hblk_alloc (hblk_alloc (hblk_alloc (hblk_alloc (hblk_alloc (hblk_alloc (hblk_alloc (alloc_at (by simp)) _) _) _) _) _) _) _) _) _
  have e1 : W0.heap[S.b + 1]? = some (Obj.cells #[Value.int IntKind.u64 ↑S.left] 105 (0, 0)) := by rw [hW, ← hb]; exact hblk_alloc (hblk_alloc (hblk_alloc (hblk_alloc (hblk_alloc (hblk_alloc (hblk_alloc (hblk_alloc (alloc_at (by simp)) _) _) _) _) _) _) _) _
  have e2 : W0.heap[S.b + 2]? = some (Obj.cells #[Value.func (Fn.func fl) fi ca] 94 (0, 0)) := by rw [hW, ← hb]; exact hblk_alloc (hblk_alloc (hblk_alloc (hblk_alloc (hblk_alloc (hblk_alloc (hblk_alloc (alloc_at (by simp)) _) _) _) _) _) _) _
  have e3 : W0.heap[S.b + 3]? = some (Obj.cells #[Value.int IntKind.i64 0, Value.int IntKind.i64 0, Value.int IntKind.i64 0, Value.int IntKind.i64 0, Value.int IntKind.i64 0, Value.int IntKind.i64 0] 155 (0, 0)) := by rw [hW, ← hb]; exact hblk_alloc (hblk_alloc (hblk_alloc (hblk_alloc (hblk_alloc (hblk_alloc (alloc_at (by simp)) _) _) _) _) _) _
  have e4 : W0.heap[S.b + 4]? = some (Obj.map #[] 0) := by rw [hW, ← hb]; exact hblk_alloc (hblk_alloc (hblk_alloc (hblk_alloc (hblk_alloc (alloc_at (by simp)) _) _) _) _) _
  have e5 : W0.heap[S.b + 5]? = some (Obj.cells #[Value.map (some (S.b + 4))] 156 (0, 0)) := by rw [hW, ← hb]; exact hblk_alloc (hblk_alloc (hblk_alloc (hblk_alloc (alloc_at (by simp)) _) _) _) _
  have e6 : W0.heap[S.b + 6]? = some (Obj.cells M 3 (0, 0)) := by rw [hW, ← hb]; exact hblk_alloc (hblk_alloc (hblk_alloc (alloc_at (by simp)) _) _) _
  have e7 : W0.heap[S.b + 7]? = some (Obj.cells #[Value.slice (some { block := S.b + 6, off := 0 }) 0 S.L] 22 (0, 0)) := by rw [hW, ← hb]; exact hblk_alloc (hblk_alloc (alloc_at (by simp)) _) _
  have e8 : W0.heap[S.b + 8]? = some (Obj.cells #[Value.nilFunc] 33 (0, 0)) := by rw [hW, ← hb]; exact hblk_alloc (alloc_at (by simp)) _
  have e9 : W0.heap[S.b + 9]? = some (Obj.cells #[Value.func (Fn.func 83) #[] #[Value.pointer (some { block := S.b + 3, off := 0 }), Value.pointer (some { block := S.b + 7, off := 0 }), Value.pointer (some { block := S.b + 8, off := 0 })]] 94 (0, 0)) := by rw [hW, ← hb]; exact alloc_at (by simp)
  clear hW
  simp only [hb, Nat.add_assoc, Nat.reduceAdd]
  have f8 : W0.frozen? ⟨S.b + 8, 0, none⟩ = false := free_of_one e8
  have c8 := blk1 e8
  go_upto_region 7 with (fail)
  obtain ⟨W1, hW⟩ : ∃ W1, W1 = W0.setCell ⟨S.b + 8, 0, none⟩ (.func (.func 85) #[] S.growCaps) := ⟨_, rfl⟩
  have hW' := hW
  unfold Srch.growCaps at hW'
  rw [← hW']
  clear hW'
  have k1 : ∀ j, j ≠ S.b + 8 → W1.heap[j]? = W0.heap[j]? := fun j hj => by rw [hW]; exact Below.heap_setCell _ _ _ _ hj
  have e8' : W1.heap[S.b + 8]? = some (Obj.cells #[.func (.func 85) #[] S.growCaps] 33 (0, 0)) := by rw [hW]; exact one_setCell e8
  have hB1 : Below w.heap.size w W1 := by rw [hW]; exact hB.setCell (by dsimp; omega) _
  have hs1 : W1.heap.size = S.b + 10 := by rw [hW]; simpa using hs0
  clear hW
  have env : Env S #[Value.int IntKind.i64 t, Value.slice A nA cA, Value.slice Am S.L cm, Value.slice Ai ni ci] (.func (.func fl) fi ca) W1 :=
    ⟨(k1 _ (by omega)).trans e0, (k1 _ (by omega)).trans e1, (k1 _ (by omega)).trans e2, (k1 _ (by omega)).trans e5, e8', (k1 _ (by omega)).trans e9⟩
  have st : St S W1 ⟨0, 0, 0, 0, 0, 0⟩ [] [] := by
    refine ⟨(k1 _ (by omega)).trans e3, (k1 _ (by omega)).trans e7, ?_, met_empty ((k1 _ (by omega)).trans e4), rfl, fun i hi => ?_⟩
    · refine ⟨rfl, .inr ⟨S.b + 6, S.L, M, rfl, by omega, (k1 _ (by omega)).trans e6, Nat.zero_le _, by (unfold maxLen; omega), by rw [HM.out]; omega, by simp⟩⟩
    · obtain rfl | rfl | rfl | rfl | rfl : i = 0 ∨ i = 1 ∨ i = 2 ∨ i = 3 ∨ i = 4 := by omega
      all_goals exact ⟨Int.le_refl _, Int.le_refl _⟩
  have c8 := blk1 e8'
  have hG := grows_all S _ _ w C S.L W1 ⟨0, 0, 0, 0, 0, 0⟩ [] [] (hb ▸ hB1) env st (fun k hk => by cases hk) (Nat.le_refl _) (by simp)
  have HG := Lib.hid hG
  clear hG
  unfold Srch.growCaps at c8
  go_wp2_with fail
  have hG := HG.out
  unfold Srch.growCaps at hG
  refine hG.mono ?_
  rintro e w5 ⟨rfl, hF, c', o', K', st5, hs5, hsome, hnone⟩
  have hB5 : Below w.heap.size w w5 := hB1.trans (hb ▸ hF.below)
  have HB := Lib.hid (And.intro hB5 (And.intro hsome hnone))
  clear hsome hnone
  have HS := Lib.hid st5.buf
  have c7 := blk1 st5.out
  cases hr : S.rest S.L ⟨0, 0, 0, 0, 0, 0⟩ with
  | some r =>
    have HR := Lib.hid (And.intro hr (HB.out.2.1 r hr))
    simp only [hr, Option.isSome_some]
    clear hr
    go_wp2
    go_ret2
    refine ⟨?_, HB.out.1⟩
    unfold HomeRes Srch.all
    rw [HR.out.1]
    refine ⟨_, rfl, ?_⟩
    have := HR.out.2
    simp only [List.nil_append] at this
    rw [← this, hb]
    exact HS.out
  | none =>
    have HR := Lib.hid hr
    simp only [hr, Option.isSome_none]
    clear hr
    go_wp2
    go_ret2
    refine ⟨?_, HB.out.1⟩
    unfold HomeRes Srch.all
    rw [HR.out]
    exact rfl
end Go.Proofs.Ytgnjknihgjdedaa

namespace Go.Proofs.Ytgnjknihgjdedaa
open Go.RowKit
set_option linter.unusedVariables false
set_option linter.unusedSimpArgs false

def giveL (may : List (List Int)) (mis : List Int) (left : Nat) (lf : Nat → Int → Bool) : Option (List Int) := Srch.all ⟨0, may.length, may, mis, left, lf⟩
theorem rest_b (b b' L : Nat) (may : List (List Int)) (mis : List Int) (left : Nat) (lf : Nat → Int → Bool) : ∀ n c, Srch.rest ⟨b, L, may, mis, left, lf⟩ n c = Srch.rest ⟨b', L, may, mis, left, lf⟩ n c
  | 0, c => rfl
  | n + 1, c => by
    unfold Srch.rest
    simp only [rest_b b b' L may mis left lf n]
theorem any_any (xs : Array Value) (p o : Int) (w : World) (hx : xs.size = 4) :
    Calls Try.prog 48 #[.agg xs, .int .i64 p, .int .i64 o] w fun e w' => e = .returned (.bool true) ∧ Below w.heap.size w w' := by
  go_enter Try.func48, Try.ntmps48
  go_wp2
  go_ret
  exact ⟨rfl, bal0 _ _⟩

def homeE (t : Int) (l : List Mk) (ss : List Sg) (mis : List Int) : Int := if gatherE t l ss mis ≠ 0 then gatherE t l ss mis else if giveL (mays t l ss) mis 0 (fun _ _ => true) = none then 11 else 0
def homeL (t : Int) (l : List Mk) (ss : List Sg) (mis : List Int) : List Int := if gatherE t l ss mis ≠ 0 then [] else (giveL (mays t l ss) mis 0 (fun _ _ => true)).getD []
theorem mayL_mem {t : Int} {l : List Mk} {s : Sg} {o : Int} (h : o ∈ mayL t l s) : 0 ≤ o ∧ o.toNat < l.length := by
  unfold mayL mayTo at h
  simp only [List.mem_map, List.mem_filter, List.mem_range] at h
  obtain ⟨i, ⟨hi, _⟩, rfl⟩ := h
  exact ⟨Int.natCast_nonneg i, by simpa using hi⟩
theorem mayL_len (t : Int) (l : List Mk) (s : Sg) : (mayL t l s).length ≤ l.length := mayTo_len t l s l.length
theorem ctx_of {w0 : World} {t : Int} {A : Option Addr} {n c : Nat} {Am : Option Addr} {cm : Nat} {Ai : Option Addr} {ni ci : Nat} {may : List (List Int)} {mis : List Int} {left : Nat} {lf : Nat → Int → Bool} {fl : Nat} {fi ca : Array Value}
    (hg : Grid w0 Am may.length may) (hmi : Ints w0 Ai ni mis) (hL : may.length ≤ 6) (hleft : (left : Int) < 18446744073709551616) (hm : ∀ l ∈ may, l.length ≤ 4294967296 ∧ ∀ o ∈ l, 0 ≤ o ∧ o < 5 ∧ o.toNat < ni)
    (eg : ∀ args w, (callFunc fl args).run Try.prog w = .ok (.enter fl args) w)
    (hlet : ∀ w, Below w0.heap.size w0 w → ∀ (p : Nat) (o : Int), p < may.length → 0 ≤ o → o < 5 → Calls Try.prog fl (fi ++ (#[.int .i64 p, .int .i64 o] ++ ca)) w fun e w' => e = .returned (.bool (lf p o)) ∧ Below w.heap.size w w') :
    Ctx ⟨w0.heap.size, may.length, may, mis, left, lf⟩ w0 #[.int .i64 t, .slice A n c, .slice Am may.length cm, .slice Ai ni ci] (.func (.func fl) fi ca) := by
  obtain ⟨mv, h1, h2, h3⟩ := hg
  refine ⟨rfl, hL, hleft, ⟨t, A, n, c, Am, cm, Ai, ni, ci, mv, rfl, h1, hmi, fun i v hv => ?_⟩, ⟨fl, fi, ca, rfl, eg, hlet⟩⟩
  obtain ⟨B, l, c', hl, hv', hs, _, _⟩ := h3 i v hv
  have := hm l (List.mem_of_getElem? hl)
  exact ⟨B, l, c', hv', hl, hs, this.1, this.2⟩
theorem all_b (b L : Nat) (may : List (List Int)) (mis : List Int) (left : Nat) (lf : Nat → Int → Bool) (hL : L = may.length) : Srch.all ⟨b, L, may, mis, left, lf⟩ = giveL may mis left lf := by
  subst hL
  exact rest_b b 0 may.length may mis left lf may.length ⟨0, 0, 0, 0, 0, 0⟩

theorem homeG_any {t : Int} {A : Option Addr} {n c : Nat} {Am : Option Addr} {k cm : Nat} {Ai : Option Addr} {ni ci : Nat} {may : List (List Int)} {mis : List Int} {left : Nat} {lf : Nat → Int → Bool} {fl : Nat} {fi ca : Array Value} (w0 : World)
    (hk : k = may.length) (hg : Grid w0 Am may.length may) (hmi : Ints w0 Ai ni mis) (hL : may.length ≤ 6) (hleft : (left : Int) < 18446744073709551616) (hm : ∀ l ∈ may, l.length ≤ 4294967296 ∧ ∀ o ∈ l, 0 ≤ o ∧ o < 5 ∧ o.toNat < ni)
    (eg : ∀ args w, (callFunc fl args).run Try.prog w = .ok (.enter fl args) w)
    (hlet : ∀ w, Below w0.heap.size w0 w → ∀ (p : Nat) (o : Int), p < may.length → 0 ≤ o → o < 5 → Calls Try.prog fl (fi ++ (#[.int .i64 p, .int .i64 o] ++ ca)) w fun e w' => e = .returned (.bool (lf p o)) ∧ Below w.heap.size w w') :
    Calls Try.prog 47 #[.agg #[.int .i64 t, .slice A n c, .slice Am k cm, .slice Ai ni ci], .int .u64 left, .func (.func fl) fi ca] w0 fun e w' => HomeRes w0.heap.size (giveL may mis left lf) e w' ∧ Below w0.heap.size w0 w' := by
  subst hk
  have h := home_any ⟨w0.heap.size, may.length, may, mis, left, lf⟩ _ fl fi ca w0 (ctx_of (t := t) (A := A) (n := n) (c := c) (cm := cm) (ci := ci) hg hmi hL hleft hm eg hlet)
  rw [all_b _ _ _ _ _ _ rfl] at h
  exact h
theorem mays_ok {t : Int} {l : List Mk} {ss : List Sg} {mis : List Int} (h : gatherE t l ss mis = 0) : check t l = 0 ∧ ss.length ≤ 6 ∧ sightsE ss = 0 ∧ mis.length = l.length ∧ mis.all (fun x => btw x 0 6) = true := by
  unfold gatherE at h
  split at h
  · contradiction
  · rename_i h1
    split at h
    · cases h
    · split at h
      · contradiction
      · rename_i h2 h3
        split at h
        · cases h
        · split at h
          · cases h
          · split at h
            · rename_i h4 h5 h6
              exact ⟨by omega, by omega, by omega, by omega, h6⟩
            · cases h
theorem mays_in {t : Int} {l : List Mk} {ss : List Sg} {mis : List Int} {ni : Nat} (h : gatherE t l ss mis = 0) (hn : mis.length = ni) : ∀ r ∈ mays t l ss, r.length ≤ 4294967296 ∧ ∀ o ∈ r, 0 ≤ o ∧ o < 5 ∧ o.toNat < ni := by
  obtain ⟨h1, h2, h3, h4, h5⟩ := mays_ok h
  have hl5 := (check_ok h1).2.2.1
  intro r hr
  unfold mays at hr
  obtain ⟨s, _, rfl⟩ := List.mem_map.1 hr
  have := mayL_len t l s
  refine ⟨by omega, fun o ho => ?_⟩
  have := mayL_mem ho
  omega

set_option maxRecDepth 100000 in
set_option maxHeartbeats 1000000 in
theorem Home_any (t : Int) (A : Option Addr) (n c : Nat) (l : List Mk) (B : Option Addr) (m cb : Nat) (ss : List Sg) (Ai : Option Addr) (ni ci : Nat) (mis : List Int) (w : World)
    (hl : Marks w A n l) (hlc : n ≤ c) (hcm : c ≤ maxLen) (hss : Sights w B m ss) (hmm : m ≤ maxLen) (hmi : Ints w Ai ni mis) (hni : ni ≤ maxLen) :
    Calls Try.prog 18 #[.agg #[.int .i64 t, .slice A n c], .slice B m cb, .slice Ai ni ci] w fun e w' => ∃ v, e = .returned (.tuple #[v, .int .i64 (homeE t l ss mis)]) ∧ OwnI w' w.heap.size v (homeL t l ss mis) ∧ Below w.heap.size w w' := by
  have HL := Lib.hid hl
  have HSS := Lib.hid hss
  have HMI := Lib.hid hmi
  have hml := hmi.len
  have HN := Lib.hid hml
  have hmf : ∀ (fn : Fn) (first cap : Array Value) (w : World), (Instr.makeFunc fn first cap).run Try.prog w = .ok (.func fn first cap) w := fun _ _ _ _ => rfl
  clear hl hss hmi hml
  go_enter Try.func18, Try.ntmps18
  go_wp2_with fail
  have hbw : Below w.heap.size w (w.alloc (Obj.cells #[Value.int .i64 t, .slice A n c] 41)) := bal0 w _
  refine (gather_any t A n c l B m cb ss Ai ni ci mis _ (HL.out.below hbw (Nat.le_refl _)) hlc hcm (HSS.out.below hbw (Nat.le_refl _)) hmm (HMI.out.below hbw (Nat.le_refl _)) hni).mono ?_
  rintro e w1 ⟨hr, hb1⟩
  have hB1 : Below w.heap.size w w1 := hbw.trans (hb1.mono (by simp))
  have hz1 := hb1.size
  simp at hz1
  by_cases hge : gatherE t l ss mis = 0
  · have hg : ∃ v, e = Ending.returned (.tuple #[.agg #[.int .i64 t, .slice A n c, v, .slice Ai ni ci], .int .i64 0]) ∧ OwnG w1 (w.heap.size + 1) v (mays t l ss) := by
      unfold GatherRes at hr
      rw [if_pos hge] at hr
      simpa using hr
    clear hr
    obtain ⟨v, rfl, hog⟩ := hg
    obtain ⟨Am, cm, rfl, hgr, hcm2, hmx⟩ := hog.form
    have HG := Lib.hid (And.intro hge (And.intro hgr hB1))
    have hk6 : (mays t l ss).length ≤ 6 := by unfold mays; rw [List.length_map]; exact (mays_ok hge).2.1
    have HK := Lib.hid (And.intro hk6 (mays_in hge HN.out))
    clear hog hgr hcm2 hmx hB1 hge hk6 hbw hb1
    generalize hk : (mays t l ss).length = k at *
    have HKE := Lib.hid hk
    clear hk
    go_wp2_with fail
    refine (homeG_any (may := mays t l ss) (mis := mis) (left := 0) (lf := fun _ _ => true) _ HKE.out.symm ?_ ?_ ?_ (by decide) HK.out.2 (fun _ _ => by kernel_rfl) ?_).mono ?_
    · rw [HKE.out]; exact HG.out.2.1.below (bal0 w1 _) (Nat.le_refl _)
    · exact HMI.out.below (bal (HG.out.2.2) (Nat.le_refl _) _) (Nat.le_refl _)
    · rw [HKE.out]; exact HK.out.1
    · intro W hW p o _ _ _
      exact any_any _ _ _ _ rfl
    rintro e w2 ⟨hr, hb2⟩
    cases hg : giveL (mays t l ss) mis 0 (fun _ _ => true) with
    | none =>
      have HE := Lib.hid (show homeE t l ss mis = 11 ∧ homeL t l ss mis = [] by unfold homeE homeL; rw [if_neg (by simp [HG.out.1]), if_pos hg, if_neg (by simp [HG.out.1]), hg]; exact ⟨rfl, rfl⟩)
      have hr2 : e = Ending.returned (.tuple #[.slice none 0 0, .bool false]) := by
        unfold HomeRes at hr; rw [hg] at hr; exact hr
      subst hr2
      clear hr hg
      go_wp2
      go_ret2
      exact ⟨.slice none 0 0, ret_val HE.out.1.symm, by rw [HE.out.2]; exact Own.nil_, (bal HG.out.2.2 (Nat.le_refl _) _).trans (hb2.mono (by simp; omega))⟩
    | some r =>
      have HE := Lib.hid (show homeE t l ss mis = 0 ∧ homeL t l ss mis = r by unfold homeE homeL; rw [if_neg (by simp [HG.out.1]), if_neg (by simp [hg]), if_neg (by simp [HG.out.1]), hg]; exact ⟨rfl, rfl⟩)
      have hr2 : ∃ v, e = Ending.returned (.tuple #[v, .bool true]) ∧ OwnI w2 (w1.heap.size + 1) v r := by
        unfold HomeRes at hr; rw [hg] at hr; simpa using hr
      obtain ⟨v, rfl, hov⟩ := hr2
      have HO := Lib.hid hov
      clear hr hg hov
      go_wp2
      go_ret2
      exact ⟨v, ret_val HE.out.1.symm, by rw [HE.out.2]; exact HO.out.mono (by omega), (bal HG.out.2.2 (Nat.le_refl _) _).trans (hb2.mono (by simp; omega))⟩
  · have hg : e = Ending.returned (.tuple #[.agg #[.int .i64 0, .slice none 0 0, .slice none 0 0, .slice none 0 0], .int .i64 (gatherE t l ss mis)]) := by
      unfold GatherRes at hr
      rwa [if_neg hge] at hr
    subst hg
    have h0 : (gatherE t l ss mis != 0) = true := by simp [hge]
    have HE := Lib.hid (show homeE t l ss mis = gatherE t l ss mis ∧ homeL t l ss mis = [] by unfold homeE homeL; rw [if_pos hge, if_pos hge]; exact ⟨rfl, rfl⟩)
    clear hr hge
    go_wp2
    go_ret2
    exact ⟨.slice none 0 0, ret_val HE.out.1.symm, by rw [HE.out.2]; exact Own.nil_, bal hB1 (Nat.le_refl _) _⟩
end Go.Proofs.Ytgnjknihgjdedaa
namespace Go.Proofs.Ytgnjknihgjdedaa
open Go.RowKit
set_option linter.unusedVariables false
set_option linter.unusedSimpArgs false

def wordsL (n : Nat) : Nat → List (List Int)
  | 0 => [[]]
  | m + 1 => (List.range n).flatMap fun (i : Nat) => (wordsL n m).map fun r => (i : Int) :: r
theorem wordsL_mem {n : Nat} : ∀ {m : Nat} {r : List Int}, r ∈ wordsL n m → r.length = m ∧ ∀ x ∈ r, 0 ≤ x ∧ x < n
  | 0, r, h => by simp [wordsL] at h; subst h; simp
  | m + 1, r, h => by
    obtain ⟨i, hi, h2⟩ := List.mem_flatMap.1 h
    obtain ⟨q, hq, rfl⟩ := List.mem_map.1 h2
    obtain ⟨h3, h4⟩ := wordsL_mem hq
    refine ⟨by simp [h3], fun x hx => ?_⟩
    rcases List.mem_cons.1 hx with rfl | hx
    · have := List.mem_range.1 hi; omega
    · exact h4 x hx
end Go.Proofs.Ytgnjknihgjdedaa
namespace Go.Proofs.Ytgnjknihgjdedaa
open Go.RowKit
set_option linter.unusedVariables false
set_option linter.unusedSimpArgs false

def cntI (x : List Int) (o : Int) : Nat := x.countP (· == o)
def fitAt (t : Int) (l : List Mk) (ss : List Sg) (x : List Int) (i : Nat) : Bool := decide (x.getD i 0 < 0) || fits (ss.getD i ⟨0, false, false, 0, 0⟩) (mkAt l (x.getD i 0)) t
def givesB (t : Int) (l : List Mk) (ss : List Sg) (mis x : List Int) : Bool := ((List.range l.length).all fun (o : Nat) => decide ((cntI x (o : Int) : Int) ≤ mis.getD o 0)) && (List.range x.length).all (fitAt t l ss x)
theorem cntI_snoc (x : List Int) (y o : Int) : cntI (x ++ [y]) o = cntI x o + if y = o then 1 else 0 := by
  unfold cntI
  rw [List.countP_append]
  by_cases h : y = o <;> simp [h]
theorem cntI_le (x : List Int) (o : Int) : cntI x o ≤ x.length := List.countP_le_length

end Go.Proofs.Ytgnjknihgjdedaa
namespace Go.Proofs.Ytgnjknihgjdedaa
open Go.RowKit
set_option linter.unusedVariables false
set_option linter.unusedSimpArgs false

def letB (i : Nat) (o : Int) (p : Nat) (x : Int) : Bool := decide (p ≠ i) || decide (x = o)
def ownsIn (may : List (List Int)) (mis : List Int) (i : Nat) (r : List Int) : List Int := r.filter fun o => (giveL may mis 0 (letB i o)).isSome
def ownsRow (may : List (List Int)) (mis : List Int) (i : Nat) : List Int := ownsIn may mis i ((may[i]?).getD [])
def ownersG (may : List (List Int)) (mis : List Int) : List (List Int) := (List.range may.length).map (ownsRow may mis)
def ownersR (t : Int) (l : List Mk) (ss : List Sg) (mis : List Int) : List (List Int) := if homeE t l ss mis = 0 then ownersG (mays t l ss) mis else []

end Go.Proofs.Ytgnjknihgjdedaa
