/- TopStrays 37: TopA, Frame. -/
import Derived.Test.YtmennjmjakdkcaaTs25
import Derived.Test.YtmennjmjakdkcaaTs35
import Derived.Test.YtmennjmjakdkcaaTs36
import Derived.Deep.RegionHeld3
import Derived.Test.YtmennjmjakdkcaaTs01
import Derived.OpenShut
namespace Go.Proofs.Ytmennjmjakdkcaa
open Go.RowKit
set_option linter.unusedVariables false
set_option linter.unusedSimpArgs false

set_option maxRecDepth 400000 in
set_option maxHeartbeats 4000000 in
theorem TopStrays_any (A : Option Addr) (n c : Nat) (nums : List Int) (w : World) (hl : Ints w A n nums) (hn : n ≤ 9223372036854775807) :
    Calls Try.prog 3 #[.slice A n c] w fun e w' => e = .returned (.bool true) ∧ Below w.heap.size w w' := by
  go_enter Try.func3, Try.ntmps3
  go_wp2_with fail
  refine (newHand_any A n c nums _ hl hn).mono ?_
  rintro e w1 ⟨rfl, hh, hb1, hz1⟩
  clear hl hz1
  go_wp2_with fail
  refine (taleOf_any w.heap.size 0 4 3 5 _ hh (by omega) (by omega) (by omega) (by omega)).mono ?_
  rintro e w2 ⟨b, vE, vG, vW, gs, gone, whose, rfl, hck, hln, hkn, hdn, om, ok, oh, od, oE, oG, oW, hsh, hti, hd2⟩
  have hin := (HbO.mk om ok oh od).inn
  have hB2 := hb1.trans (hd2.below (Nat.le_refl _) hb1.size)
  have hn5 : b.l.length ≤ 5 := by omega
  have hwn := hti.wn
  have hokc := checkH_ok hck
  obtain ⟨Aw, cw, rfl, hwi, hwc, hwm⟩ := oW.form lenInt
  obtain ⟨nw, hnw⟩ : ∃ nw, nw = whose.length := ⟨_, rfl⟩
  rw [← hnw] at hwi hwc hwn ⊢
  have HWN := Lib.hid hwn
  have HNW := Lib.hid hnw
  have hnw5 : nw ≤ 5 := by omega
  clear hwn hnw
  unfold Hb.v
  clear hh hb1 hd2 hln hkn om ok oh od oE oG oW hsh
  go_upto_region 2 with (fail)
  obtain ⟨B, hB⟩ : ∃ B, B = w2.heap.size := ⟨_, rfl⟩
  obtain ⟨W, hW⟩ : ∃ W, W = w2.alloc (Obj.cells #[Value.int .i64 b.t, .slice b.A b.l.length b.c, .slice b.Ak b.ks.length b.ck, .slice b.Ah b.hs.length b.ch, .slice b.Ad b.ds.length b.cd] 29) := ⟨_, rfl⟩
  rw [← hW, ← hB]
  have bW : W.heap[B]? = some (boxO b.t b.vm b.vk b.vh b.vd) := by rw [hW, hB]; exact alloc_at rfl
  have hiW : HbIn W b := by rw [hW]; exact hin.al _
  have hwW : Ints W Aw nw whose := by rw [hW]; exact hwi.alloc _
  have hBW : Below w.heap.size w W := by rw [hW]; exact bal hB2 (Nat.le_refl _) _
  clear hW hB hB2 hin hwi
  obtain ⟨r0, r1, r2, r3, r4⟩ := blk5 bW
  have hlB := heap_lt bW
  have hmk := fun W => run_mkI W hn5
  go_upto_region 5 with (fail)
  obtain ⟨G, hG⟩ : ∃ G, G = W.heap.size := ⟨_, rfl⟩
  obtain ⟨W2, hW2⟩ : ∃ W2, W2 = W.alloc (.cells (Array.replicate b.l.length (Value.int .i64 0)) 3) := ⟨_, rfl⟩
  rw [← hW2, ← hG]
  have hF0 := FT.start hG hW2
  have HW := Lib.hid (And.intro bW (And.intro hiW (And.intro hwW (And.intro hBW (And.intro hck (And.intro hti (And.intro HNW.out hG)))))))
  have hBG : B < G := by omega
  have HF0 := Lib.hid hF0
  clear bW hiW hwW hBW hck hti hW2 hG hF0 hmk r0 r1 r2 r3 r4 hlB
  go_wp2_with fail
  go_loopg [7, 8, 10] nw (fun g v7 v8 v10 wr => ∃ (i : Nat) (ss : List Sg) (os mis : List Int), i + g = nw ∧ v10 = .int .i64 i ∧ FT G W b i v7 v8 wr ss os mis)
  case atStart => exact ⟨0, _, _, _, by omega, rfl, HF0.out⟩
  case round =>
    obtain ⟨i, ss, os, mis, hi, rfl, hF⟩ := hrel
    have hbr := hF.bw
    have bR := bheap HW.out.1 hbr (Nat.le_of_eq HW.out.2.2.2.2.2.2.2.symm)
    have hiR := HW.out.2.1.below hbr (Nat.le_of_eq HW.out.2.2.2.2.2.2.2.symm)
    obtain ⟨r0, r1, r2, r3, r4⟩ := blk5 bR
    have hlB := heap_lt bR
    have hzr := hF.z
    have HF := Lib.hid hF
    have HI := Lib.hid hi
    have hil : i ≤ nw := by omega
    clear hi
    by_cases hlt : i < nw
    · obtain ⟨bw, ow, y, rfl, hbw, hy, y0⟩ := Ints.get HW.out.2.2.1 hlt
      have hbwG : bw < G := by rw [HW.out.2.2.2.2.2.2.2]; exact hbw
      have y1 := bcell y0 hbr (Nat.le_of_eq HW.out.2.2.2.2.2.2.2.symm)
      have hi0 : (i : Int) < (nw : Int) := by omega
      by_cases hneg : y < 0
      · have HF2 := Lib.hid (HF.out.mono (Nat.le_succ i))
        clear hF hiR bR
        go_wp2_with fail
        go_roundg (gk - 1)
        case measure => have := HI.out; omega
        case rel => exact ⟨i + 1, ss, os, mis, by have := HI.out; omega, by go_num, HF2.out⟩
      · obtain ⟨o, rfl⟩ := Int.eq_ofNat_of_zero_le (show 0 ≤ y by omega)
        obtain ⟨d, hS⟩ := stray_law HW.out.2.2.2.2.1 HW.out.2.2.2.2.2.1 hy
        have hol := hS.ol
        have hids : i < b.ds.length := by have := HWN.out; omega
        obtain ⟨bd, od, d', hAd, hbd, hd', e0, e1, e2, e3, e4, e5, e6, e7, e8, e9, e10, e11⟩ := Deeds.get hiR.d hids
        obtain rfl : d' = d := Option.some.inj (hd'.symm.trans hS.hd)
        have hi1 : (i : Int) < (b.ds.length : Int) := by omega
        unfold Hb.vd at r4
        rw [hAd] at r4
        clear hd' hy hF e0 e1 e2 e3 e4 e5 e6 y0
        have HS := Lib.hid hS
        have HAd := Lib.hid hAd
        have HIR := Lib.hid (And.intro hiR bR)
        clear hS hAd hiR bR
        go_upto_region 10 with (fail)
        obtain ⟨sb, hsb⟩ : ∃ sb, sb = wr.heap.size := ⟨_, rfl⟩
        obtain ⟨w5, hw5⟩ : ∃ w5, w5 = wr.alloc (Obj.cells #[Value.int .i64 d'.s.n, .bool d'.s.l, .bool d'.s.r, .int .i64 d'.s.b, .int .i64 d'.s.p] 36) := ⟨_, rfl⟩
        rw [← hw5, ← hsb]
        have hb5 : Below wr.heap.size wr w5 := by rw [hw5]; exact bal0 _ _
        have s5 : w5.heap[sb]? = some (sgObj d'.s) := by rw [hw5, hsb]; exact alloc_at rfl
        have hsbw : bw < sb := by omega
        have HSB := Lib.hid hsb
        clear hw5 hsb e7 e8 e9 e10 e11 r0 r1 r2 r3 r4 hbd
        have b5 := bheap HIR.out.2 hb5 (Nat.le_refl _)
        obtain ⟨r0, r1, r2, r3, r4⟩ := blk5 b5
        obtain ⟨z0, z1, z2, z3, z4⟩ := blk5 s5
        have y5 := bcell y1 hb5 (Nat.le_refl _)
        have hlB5 := heap_lt b5
        have hls5 := heap_lt s5
        have hi5 := HIR.out.1.below hb5 (Nat.le_refl _)
        have hwc6 := Whose_any b i w5 hi5
        unfold Hb.v at hwc6
        go_wp2_with fail
        refine hwc6.mono ?_
        rintro e w6 ⟨⟨v6, rfl, ho6⟩, hb6⟩
        rw [HS.out.we]
        obtain ⟨L, hL⟩ : ∃ L, L = whoseR b i := ⟨_, rfl⟩
        rw [← hL] at ho6
        obtain ⟨A6, c6, rfl, h6, hc6, hm6⟩ := ho6.form lenInt
        have hb6' := hb5.trans (hb6.mono hb5.size)
        have HL := Lib.hid hL
        have H6 := Lib.hid (And.intro h6 hb6')
        have s6 := bheap s5 hb6 (Nat.le_refl _)
        clear hwc6 ho6 hL h6 b5 s5 hi5 r0 r1 r2 r3 r4 z0 z1 z2 z3 z4 y5
        have b6 := bheap HIR.out.2 hb6' (Nat.le_refl _)
        obtain ⟨r0, r1, r2, r3, r4⟩ := blk5 b6
        obtain ⟨z0, z1, z2, z3, z4⟩ := blk5 s6
        have y6 := bcell y1 hb6' (Nat.le_refl _)
        have hlB6 := heap_lt b6
        have hls6 := heap_lt s6
        have hi6 := HIR.out.1.below hb6' (Nat.le_refl _)
        have hmc := May_any b.t b.A b.l.length b.c b.l d'.s w6 hi6.m hi6.mc hi6.mm
        unfold vSg at hmc
        go_wp2_with fail
        refine hmc.mono ?_
        rintro e w7 ⟨v7, rfl, ho7, hb7⟩
        rw [HS.out.me]
        obtain ⟨M, hM⟩ : ∃ M, M = mayR b.t b.l d'.s := ⟨_, rfl⟩
        rw [← hM] at ho7
        obtain ⟨A7, c7, rfl, h7, hc7, hm7⟩ := ho7.form lenInt
        have hb7' := hb6'.trans (hb7.mono hb6'.size)
        have hMm : ∀ x ∈ L, x ∈ M := by
          rw [hM, HL.out]
          unfold mayR
          rw [if_pos HS.out.me]
          exact HS.out.wm
        have h6' := H6.out.1.below hb7 (Nat.le_refl _)
        have H7 := Lib.hid (And.intro h7 (And.intro h6' (And.intro hMm (And.intro hc7 hm7))))
        have s7 := bheap s6 hb7 (Nat.le_refl _)
        clear hmc ho7 hM h7 h6' b6 s6 hi6 r0 r1 r2 r3 r4 z0 z1 z2 z3 z4 y6 hMm
        have b7 := bheap HIR.out.2 hb7' (Nat.le_refl _)
        obtain ⟨r0, r1, r2, r3, r4⟩ := blk5 b7
        obtain ⟨z0, z1, z2, z3, z4⟩ := blk5 s7
        have y7 := bcell y1 hb7' (Nat.le_refl _)
        have hlB7 := heap_lt b7
        have hls7 := heap_lt s7
        have hbw7 : bw < w7.heap.size := by omega
        have hi7 := HIR.out.1.below hb7' (Nat.le_refl _)
        have hp1 := place_any A6 L.length c6 L o w7 H7.out.2.1 (Nat.le_trans hc6 hm6)
        obtain ⟨P1, hP1⟩ : ∃ P, P = placeI L o := ⟨_, rfl⟩
        rw [← hP1] at hp1
        have q1 : ¬ P1 < 0 := by rw [hP1, placeI_neg, HL.out]; exact fun h => h HS.out.wo
        clear hP1
        go_wp2_with fail
        refine hp1.mono ?_
        rintro e w8 ⟨rfl, hw8⟩
        rw [← hw8]
        clear hw8 w8
        clear hp1
        go_wp2_with fail
        obtain ⟨go, hgo⟩ : ∃ go, go = gk := ⟨_, rfl⟩
        subst hgo
        go_loopg [16] L.length (fun g x wq => ∃ k : Nat, k + g = L.length ∧ x = .int .i64 k ∧ w7 = wq)
        case atStart => exact ⟨0, by omega, rfl, rfl⟩
        case round =>
          obtain ⟨k, hk, rfl, rfl⟩ := hrel
          have HK := Lib.hid hk
          have hkl : k ≤ L.length := by omega
          clear hk
          by_cases hklt : k < L.length
          · obtain ⟨bl, ol, x, rfl, hbl, hx, x0⟩ := Ints.get H7.out.2.1 hklt
            have hp2 := place_any A7 M.length c7 M x w7 H7.out.1 (Nat.le_trans hc7 hm7)
            obtain ⟨P2, hP2⟩ : ∃ P, P = placeI M x := ⟨_, rfl⟩
            rw [← hP2] at hp2
            have q2 : ¬ P2 < 0 := by rw [hP2, placeI_neg]; exact fun h => h (H7.out.2.2.1 x (List.mem_of_getElem? hx))
            have k1 : (k : Int) < (L.length : Int) := by omega
            have k9 : k + 1 ≤ 9223372036854775807 := by unfold maxLen at hm6; omega
            clear hP2 hx
            go_wp2_with fail
            refine hp2.mono ?_
            rintro e w8 ⟨rfl, hw8⟩
            rw [← hw8]
            clear hw8 w8
            clear hp2
            go_wp2_with fail
            go_roundg (gk - 1)
            case measure => have := HK.out; omega
            case rel => exact ⟨k + 1, by have := HK.out; omega, by go_num, rfl⟩
          · have k1 : ¬ (k : Int) < (L.length : Int) := by omega
            clear k1
            go_upto_region 19 with (fail)
            refine wp_region_quiet_call (C := fun w' => ∃ n, w' = w7.drewN n) 7 (by kernel_rfl) (by kernel_rfl) ⟨1, rfl⟩ ?_
            simp only [List.take_succ_cons, List.take_zero, List.drop_succ_cons, List.drop_zero]
            repeat (quiet_step (fail))
            refine wpQuiet_nil ?_
            intro _ hw'
            obtain ⟨nq, hw''⟩ := hw'
            subst hw''
            intro Q2 hQ2
            have hvc := Verdict_any b.t b.A b.l.length b.c b.l d'.s o (w7.drewN nq) hi7.m hi7.mc hi7.mm
            unfold vSg at hvc
            go_wp2_with fail
            refine hvc.mono ?_
            rintro e w8 ⟨rfl, hb8⟩
            replace hb8 : Below w7.heap.size w7 w8 := ⟨hb8.os, hb8.tape, hb8.output, hb8.size, hb8.block⟩
            rw [HS.out.ve]
            obtain ⟨V, hV⟩ : ∃ V, V = verV b.t b.l d'.s o := ⟨_, rfl⟩
            rw [← hV]
            have HV := Lib.hid hV
            clear hvc hV
            go_wp2
            repeat (quiet_step (fail))
            refine wpQuiet_nil ?_
            have hb8' := hb7'.trans (hb8.mono hb7'.size)
            have h8 := H7.out.2.1.below hb8 (Nat.le_refl _)
            have b8 := bheap HIR.out.2 hb8' (Nat.le_refl _)
            have s8 := bheap s7 hb8 (Nat.le_refl _)
            have y8 := bcell y1 hb8' (Nat.le_refl _)
            have hbw8 : bw < w8.heap.size := by have := hb8.size; omega
            have v2 : (V == 2) = false := by simp [HV.out, HS.out.v2]
            have H8 := Lib.hid (And.intro h8 (And.intro hb8' (And.intro b8 (And.intro s8 HV.out))))
            clear HV h8 hb8' hb8 b8 s8 b7 s7 hi7 y7 r0 r1 r2 r3 r4 z0 z1 z2 z3 z4 hlB7 hls7 hbw7 q1
            rcases (show V = 1 ∨ V ≠ 1 by omega) with hv1 | hv1
            have v1 : (V == 1) = true := by simp [hv1]
            have hLo : sameL L [(o : Int)] = true := by
              rw [HL.out, HS.out.v1 (by rw [← H8.out.2.2.2.2]; exact hv1)]
              simp [sameL]
            clear hv1
            have hsc := sameInts_any A6 L.length c6 L (some ⟨w8.heap.size, 0, none⟩) 1 1 [(o : Int)] (w8.alloc (Obj.cells #[Value.int .i64 (o : Int)] 3)) (H8.out.1.alloc _) (ints1 w8 3 (o : Int)) (Nat.le_trans hc6 hm6) (by unfold maxLen; omega)
            rw [hLo] at hsc
            go_wp2_with fail
            refine hsc.mono ?_
            rintro e w9 ⟨rfl, hb9⟩
            have H9 := Lib.hid (show Below w8.heap.size w8 w9 from (bal0 w8 _).trans (hb9.mono (bal0 w8 _).size))
            clear hsc hb9 hLo v1
            go_upto_region 22 with (fail)
            rotate_left
            have v1 : (V == 1) = false := by simp [hv1]
            clear hv1
            go_upto_region 22 with (fail)
            obtain ⟨w9, hw9⟩ : ∃ x, x = w8 := ⟨_, rfl⟩
            rw [← hw9]
            have H9 := Lib.hid (show Below w8.heap.size w8 w9 by rw [hw9]; exact Below.refl _ _)
            clear hw9 v1
            all_goals
              have hbd : Below w9.heap.size w9 w9.drew := bdraw (Below.refl _ _)
              have hb9d := H9.out.trans (hbd.mono H9.out.size)
              have hb9r := H8.out.2.1.trans (hb9d.mono H8.out.2.1.size)
              have hsr9 := hb9r.size
              have hS22 : S22 w9.drew (G + 1) u7 ss u8 os := ⟨HF.out.s.below hb9r (Nat.le_refl _), HF.out.o.below hb9r (Nat.le_refl _), by omega⟩
              have s9 : w9.drew.heap[sb]? = some (sgObj d'.s) := bheap H8.out.2.2.2.1 hb9d (Nat.le_refl _)
              have y9 := bcell y8 hb9d (Nat.le_refl _)
              have hls9 := heap_lt s9
              have n7 : ∀ k, u7.ownBlock = some k → G + 1 ≤ k ∧ k < sb := fun k hk => by have := HF.out.s.lt k hk; have := HSB.out; omega
              have n8 : ∀ k, u8.ownBlock = some k → G + 1 ≤ k ∧ k < sb := fun k hk => by have := HF.out.o.lt k hk; have := HSB.out; omega
              have hcs : ∀ w', P22Z w9.drew u7 u8 w' → w'.heap[sb]? = some (sgObj d'.s) := fun w' hp => (hp.bk sb hls9 (fun e => by have := n7 _ e; omega) (fun e => by have := n8 _ e; omega)).trans s9
              have hcy : ∀ w', P22Z w9.drew u7 u8 w' → w'.cell? ⟨bw, ow + i, none⟩ = some (.int .i64 (o : Int)) := fun w' hp => hp.cell (by omega) (fun e => by have := n7 _ e; omega) (fun e => by have := n8 _ e; omega) y9
              have HC := Lib.hid (fun (w' : World) (hp : P22Z w9.drew u7 u8 w') => And.intro (blk5 (hcs w' hp)) (And.intro (heap_lt (hcs w' hp)) (And.intro (hcy w' hp) (show bw < w'.heap.size by have := hp.sz; omega))))
              have HN78 := Lib.hid (And.intro n7 n8)
              have HT := Lib.hid hS22
              have HB9 := Lib.hid hb9r
              have hll : ss.length < 4294967296 := by have := HF.out.i; omega
              have hlo : os.length < 4294967296 := by have := HF.out.i; have := HF.out.l; omega
              have hGz := HF.out.z
              clear hbd hb9d hb9r hS22 s9 y9 hls9 n7 n8 hcs hcy y8 hbw8 v2 y1 hsr9
              go_wp2_with fail
              refine wp_region_tag 11 0 0 [] [] 0 (T22 u7 u8) (P22 w9.drew (G + 1) u7 ss u8 os) [0, 0, 0, 1, 0, 0, 0, 0, 0, 0, 2] (by as_aux_lemma => kernel_rfl) (by as_aux_lemma => kernel_rfl) (by as_aux_lemma => kernel_rfl) (by as_aux_lemma => kernel_rfl) (by omega) (.inl rfl) rfl rfl (fun k i w1 w2 hc _ hT hp => P22.st HT.out k i w1 w2 hc hT hp) (fun k => P22.start HT.out k) ?_
              apply Exists.intro
              refine ⟨fun ys => ?_, fun ops K hK => ?_⟩
              · simp only [List.take_succ_cons, List.take_zero, dstsOf, List.filterMap_cons, List.filterMap_nil, putAll]
                go_simp
                rfl
              simp only [List.take_succ_cons, List.take_zero, List.drop_succ_cons, List.drop_zero] at hK ⊢
              repeat
                refine LexT.const T22.rf ?_
                apply Exists.intro
                refine ⟨fun ys w' hp hpk hq hd => ?_, ?_⟩
                · try simp [DepsOf, depsGo, DF.holds, Region.binds, EqF] at hd
                  try simp only [hd]
                  obtain ⟨⟨z0, z1, z2, z3, z4⟩, hls, y10, hbw10⟩ := HC.out w' hp
                  intro Q2 hQ2
                  go_wp2_with fail
                  rfl
                try simp only [List.nil_append, List.cons_append]
              refine LexT.some (F22B u7 u8 (Obj.cells #[Value.int .i64 d'.s.n, .bool d'.s.l, .bool d'.s.r, .int .i64 d'.s.b, .int .i64 d'.s.p] 36)) (fun i v w1 w2 hc _ hT h => F22B.st i v w1 w2 hT h) (fun ys w' hp hpk hq hd => ?_) ?_
              · try simp [DepsOf, depsGo, DF.holds, Region.binds, EqF] at hd
                try simp only [hd]
                have HZ := Lib.hid (F22B.new (w := w') HT.out (P22Z.sz hp) #[Value.int .i64 d'.s.n, .bool d'.s.l, .bool d'.s.r, .int .i64 d'.s.b, .int .i64 d'.s.p] 36)
                clear hp hpk
                intro Q2 hQ2
                go_wp2_with fail
                exact HZ.out
              try simp only [List.nil_append, List.cons_append]
              refine LexT.some (F22S u8 (G + 1) (ss ++ [d'.s])) (fun i v w1 w2 hc _ hT h => F22S.st i v w1 w2 hc hT h) (fun ys w' hp hpk hq hd => ?_) ?_
              · try simp [DepsOf, depsGo, DF.holds, Region.binds, EqF] at hd
                try simp only [hd]
                obtain ⟨h128, k1, h130, hb1, -⟩ := hd
                simp only [h128, h130]
                have hz : G + 1 ≤ w'.heap.size := Nat.le_trans HT.out.z (P22Z.sz hp)
                intro Q2 hQ2
                refine wp_appL okSight rfl _ _ rfl (G + 1) u7 ss d'.s #[Value.int .i64 d'.s.n, .bool d'.s.l, .bool d'.s.r, .int .i64 d'.s.b, .int .i64 d'.s.p] k1 rfl rfl hb1 rfl rfl (one_eSg _) hpk hll (by decide) hz ?_
                intro g' c' w4 ho hgr hl
                have HZ := Lib.hid (F22S.new HT.out hp ho hgr hl)
                clear ho hgr hl hz hp hpk
                go_wp2
                exact HZ.out
              try simp only [List.nil_append, List.cons_append]
              repeat
                refine LexT.const T22.rf ?_
                apply Exists.intro
                refine ⟨fun ys w' hp hpk hq hd => ?_, ?_⟩
                · try simp [DepsOf, depsGo, DF.holds, Region.binds, EqF] at hd
                  try simp only [hd]
                  obtain ⟨⟨z0, z1, z2, z3, z4⟩, hls, y10, hbw10⟩ := HC.out w' hp
                  intro Q2 hQ2
                  go_wp2_with fail
                  rfl
                try simp only [List.nil_append, List.cons_append]
              refine LexT.some (F22B u7 u8 (Obj.cells #[Value.int .i64 (o : Int)] 3)) (fun i v w1 w2 hc _ hT h => F22B.st i v w1 w2 hT h) (fun ys w' hp hpk hq hd => ?_) ?_
              · try simp [DepsOf, depsGo, DF.holds, Region.binds, EqF] at hd
                try simp only [hd]
                have HZ := Lib.hid (F22B.new (w := w') HT.out (P22Z.sz hp) #[Value.int .i64 (o : Int)] 3)
                clear hp hpk
                intro Q2 hQ2
                go_wp2_with fail
                exact HZ.out
              try simp only [List.nil_append, List.cons_append]
              refine LexT.some (F22O u7 (G + 1) (os ++ [(o : Int)])) (fun i v w1 w2 hc _ hT h => F22O.st i v w1 w2 hc hT h) (fun ys w' hp hpk hq hd => ?_) ?_
              · try simp [DepsOf, depsGo, DF.holds, Region.binds, EqF] at hd
                try simp only [hd]
                obtain ⟨h132, ⟨k1, h137, hb1, -⟩, -⟩ := hd
                simp only [h132, h137]
                have hz : G + 1 ≤ w'.heap.size := Nat.le_trans HT.out.z (P22Z.sz hp)
                intro Q2 hQ2
                refine wp_appL okInt rfl _ _ rfl (G + 1) u8 os (o : Int) #[Value.int .i64 (o : Int)] k1 rfl rfl hb1 rfl rfl (one_eInt _) hpk hlo (by decide) hz ?_
                intro g' c' w4 ho hgr hl
                have HZ := Lib.hid (F22O.new HT.out hp ho hgr hl)
                clear ho hgr hl hz hp hpk
                go_wp2
                exact HZ.out
              try simp only [List.nil_append, List.cons_append]
              refine hK _ fun ys w' hp hF2 => ?_
              simp [AllF, DF.holds] at hF2
              obtain ⟨-, -, -, f1, -, -, -, -, -, -, f2⟩ := hF2
              replace hp : P22Z w9.drew u7 u8 w' := hp
              have f1c := f1
              have f2c := f2
              obtain ⟨g1, n1, c1, e1, -⟩ := f1c
              obtain ⟨g2, n2, c2, e2, -⟩ := f2c
              rw [e1] at f1
              rw [e2] at f2
              simp only [e1, e2]
              obtain ⟨y, hy⟩ : ∃ y, y = mis.getD o 0 := ⟨_, rfl⟩
              have hN := HF.out.next HB9.out hp f1 f2 HS.out hy HW.out.2.2.2.2.2.2.2
              have hbw' := hp.below (B := G + 1) HT.out.z (fun k hk => (HN78.out.1 k hk).1) (fun k hk => (HN78.out.2 k hk).1)
              have m10 : MisB w' G mis := (hbw'.block G (by omega)).trans ((HB9.out.block G (by omega)).trans HF.out.m)
              have c10 := m10.cell (show o < mis.length by rw [HF.out.ml]; exact hol)
              rw [← hy] at c10
              have f10 := m10.free o
              obtain ⟨-, -, y11, hbw11⟩ := HC.out w' hp
              have hyc := HF.out.c o hol
              have hyl := cntI_le os (o : Int)
              have hyi := HF.out.i
              have hyj := HF.out.l
              have y0 : 0 ≤ y := by omega
              have y5 : y ≤ 5 := by omega
              have hG10 : G < w'.heap.size := heap_lt m10
              have HN := Lib.hid hN
              have o1 : (o : Int) < (b.l.length : Int) := by omega
              clear hK hN hp f1 f2 e1 e2 hbw' m10 hy hyc hyl hyi hyj hll hlo
              go_wp2_with fail
              go_roundg (go - 1)
              case measure => have := HI.out; omega
              case rel => exact ⟨i + 1, _, _, _, by have := HI.out; omega, by go_num, HN.out⟩
    · have hin : i = nw := by omega
      subst hin
      have hLAW := HF.out.law HW.out.2.2.2.2.1 (by omega)
      obtain ⟨Bs, cb, rfl, hsv, hcb, hmb⟩ := Own.form HF.out.s lenSg
      obtain ⟨Q, cq, rfl, hqv, hcq, hmq⟩ := Own.form HF.out.o lenInt
      have hiM : Ints wr (some ⟨G, 0, none⟩) b.l.length mis := by
        have h := MisB.ints HF.out.m
        rwa [HF.out.ml] at h
      have hml' : b.l.length ≤ maxLen := by unfold maxLen; omega
      have hsl' : ss.length ≤ maxLen := Nat.le_trans hcb hmb
      obtain ⟨Rh, hRh⟩ : ∃ R, R = homeL b.t b.l ss mis := ⟨_, rfl⟩
      obtain ⟨O, hO⟩ : ∃ O, O = ownersR b.t b.l ss mis := ⟨_, rfl⟩
      have C1 := Home_any b.t b.A b.l.length b.c b.l Bs ss.length cb ss (some ⟨G, 0, none⟩) b.l.length b.l.length mis wr hiR.m hiR.mc hiR.mm hsv hsl' hiM hml'
      have C2 := fun w' (hb' : Below wr.heap.size wr w') => Owners_any b.t b.A b.l.length b.c b.l Bs ss.length cb ss (some ⟨G, 0, none⟩) b.l.length b.l.length mis w' (hiR.m.below hb' (Nat.le_refl _)) hiR.mc hiR.mm (hsv.below hb' (Nat.le_refl _)) hsl' (hiM.below hb' (Nat.le_refl _)) hml'
      have C3 := fun w' (hb' : Below wr.heap.size wr w') => Left_any b.t b.A b.l.length b.c b.l Bs ss.length cb ss (some ⟨G, 0, none⟩) b.l.length b.l.length mis w' (hiR.m.below hb' (Nat.le_refl _)) hiR.mc hiR.mm (hsv.below hb' (Nat.le_refl _)) hsl' (hiM.below hb' (Nat.le_refl _)) hml'
      rw [hLAW.2.1, ← hRh] at C1
      rw [hLAW.2.1, ← hO] at C2
      rw [hLAW.1, hLAW.2.2.2.1] at C3
      have HC1 := Lib.hid C1
      have HC2 := Lib.hid C2
      have HC3 := Lib.hid C3
      have hRl : Rh.length = ss.length := by rw [hRh]; exact hLAW.2.2.1
      have hOl : O.length = ss.length := by rw [hO]; exact hLAW.2.2.2.2.1
      have HRO := Lib.hid (show ∀ k, k < ss.length → ∃ row, O[k]? = some row ∧ (∀ o, os[k]? = some o → o ∈ row) ∧ ∀ o, Rh[k]? = some o → o ∈ row by rw [hRh, hO]; exact hLAW.2.2.2.2.2)
      have d1 : ((Rh.length : Int) != (ss.length : Int)) = false := by rw [hRl]; simp
      have d2 : ((O.length : Int) != (ss.length : Int)) = false := by rw [hOl]; simp
      have HRL := Lib.hid (And.intro hRl hOl)
      have HQV := Lib.hid hqv
      have hGW : w.heap.size ≤ G := by have := HW.out.2.2.2.1.size; have := HW.out.2.2.2.2.2.2.2; omega
      have HBB := Lib.hid (HW.out.2.2.2.1.trans (hbr.mono hGW))
      have HBR := Lib.hid bR
      have hszw : w.heap.size ≤ wr.heap.size := HBB.out.size
      have hos5 : os.length ≤ 5 := by have := HF.out.i; have := HF.out.l; omega
      clear C1 C2 C3 hRh hO hRl hOl hiM hsv hqv hLAW bR hiR hF
      go_wp2_with fail
      (with_reducible refine HC1.out.mono ?_)
      rintro e w3 ⟨v3, rfl, ho3, hb3⟩
      obtain ⟨A3, c3, rfl, hs3, hc3, hm3⟩ := ho3.form lenInt
      have HX3 := Lib.hid hb3
      clear ho3 hs3 r0 r1 r2 r3 r4
      obtain ⟨r0, r1, r2, r3, r4⟩ := blk5 (bheap HBR.out hb3 (Nat.le_refl _))
      clear hb3
      go_wp2_with fail
      (with_reducible refine (HC2.out _ HX3.out).mono ?_)
      rintro e w4 ⟨v4, rfl, ho4, hb4⟩
      have hbW4 := HX3.out.trans (hb4.mono HX3.out.size)
      obtain ⟨A4, c4, rfl, -, hc4, hm4⟩ := ho4.form
      have HX4 := Lib.hid (And.intro ho4 hbW4)
      clear ho4 r0 r1 r2 r3 r4
      obtain ⟨r0, r1, r2, r3, r4⟩ := blk5 (bheap HBR.out hbW4 (Nat.le_refl _))
      clear hb4 hbW4
      go_wp2_with fail
      (with_reducible refine (HC3.out _ HX4.out.2).mono ?_)
      rintro e w5 ⟨⟨A5, c5, rfl, -, hc5, hm5⟩, hb5⟩
      have hbW5 := HX4.out.2.trans (hb5.mono HX4.out.2.size)
      have HX5 := Lib.hid (And.intro (HX4.out.1.below hb5 (Nat.le_refl _)) hbW5)
      have hs5 := hbW5.size
      clear hb5 hbW5 r0 r1 r2 r3 r4
      rw [show ([] : List Int).length = 0 from rfl]
      go_wp2_with fail
      clear d1 d2
      go_loopg [25] os.length (fun g x wq => ∃ j : Nat, j + g = os.length ∧ x = .int .i64 j ∧ Below w5.heap.size w5 wq)
      case atStart => exact ⟨0, by omega, rfl, Below.refl _ _⟩
      case round =>
        obtain ⟨j, hj, rfl, hbq⟩ := hrel
        have HJ := Lib.hid (And.intro hj hbq)
        have hjo : j ≤ os.length := by omega
        have hsq := hbq.size
        have hbq' := HX5.out.2.trans (hbq.mono hs5)
        clear hj
        by_cases hlt : j < os.length
        · obtain ⟨row, hrow, hm1, -⟩ := HRO.out j (by have := HF.out.l; omega)
          obtain ⟨b4, o4, cap4, B4, row', cr, hv4, hrow', hc4', hri, hrc, hrm, hrz⟩ := (HX5.out.1.below hbq (Nat.le_refl _)).get (show j < O.length by have := HRL.out.2; have := HF.out.l; omega)
          obtain ⟨rfl, rfl⟩ : A4 = some ⟨b4, o4, none⟩ ∧ c4 = cap4 := by simpa using hv4
          obtain rfl : row' = row := Option.some.inj (hrow'.symm.trans hrow)
          obtain ⟨bq, oq, y, rfl, hbq1, hy, y0⟩ := Ints.get (HQV.out.below hbq' (Nat.le_refl _)) hlt
          obtain ⟨P1, hP1⟩ : ∃ P, P = placeI row' y := ⟨_, rfl⟩
          have p1 : ¬ P1 < 0 := by rw [hP1, placeI_neg]; exact fun h => h (hm1 y hy)
          have cP : ∀ x d os', Calls Try.prog 14 #[.slice B4 row'.length cr, .int .i64 x] (Sort.grow (redrawn wr d) os') (fun e w'' => e = .returned (.int .i64 (placeI row' x)) ∧ ∃ p : Regrown, w'' = Sort.grow (redrawn wr p.d) p.os) := fun x d os' =>
            regrown_left (place_any B4 row'.length cr row' x _ (hri.below (below_regrown wr d os') (Nat.le_refl _)) (Nat.le_trans hrc hrm))
          have cP1 := cP y
          rw [← hP1] at cP1
          have HC1' := Lib.hid cP1
          have j0 : (0 : Int) ≤ (j : Int) := by omega
          have j1 : (j : Int) < (os.length : Int) := by omega
          have j3 : (j : Int) < (O.length : Int) := by have := HRL.out.2; have := HF.out.l; omega
          have dp1 : decide (P1 < 0) = false := decide_eq_false p1
          clear hv4 hrow hrow' hri hrc hrm hrz hm1 hy hP1 cP cP1 hbq1 hbq' hbq
          go_upto_region 32 with (fail)
          have k0 := cell_regrown hc4'
          have k1 := cell_regrown y0
          clear hc4' y0
          refine wp_region_quiet_below (by kernel_rfl) (by kernel_rfl) ?_
          repeat (quiet_step (first | (with_reducible exact HC1'.out _ _)))
          refine wpQuiet_nil ?_
          intro _ hw'
          obtain ⟨⟨dq, osq⟩, hw''⟩ := hw'
          subst hw''
          obtain ⟨W7, hW7⟩ : ∃ W7, W7 = Sort.grow (redrawn wr dq) osq := ⟨_, rfl⟩
          have hb7 : Below wr.heap.size wr W7 := by rw [hW7]; exact below_regrown wr dq osq
          rw [← hW7]
          have HB7 := Lib.hid (HJ.out.2.trans (hb7.mono hsq))
          clear hW7 k0 k1 hb7
          go_wp2
          go_roundg (gk - 1)
          case measure => have := HJ.out.1; omega
          case rel => exact ⟨j + 1, by have := HJ.out.1; omega, by go_num, HB7.out⟩
        · have HW9 := Lib.hid hbq'
          clear hbq hbq'
          go_wp2_with fail
          refine (straysAwake_any _).mono ?_
          rintro e w9 ⟨rfl, hb9⟩
          go_wp2
          go_ret
          exact ⟨rfl, HBB.out.trans ((HW9.out.trans (hb9.mono HW9.out.size)).mono hszw)⟩
end Go.Proofs.Ytmennjmjakdkcaa
namespace Go.Proofs.Ytmennjmjakdkcaa
open Go.RowKit
set_option linter.unusedVariables false

theorem ints_of {w : World} {a : Option Addr} {len cap : Nat} {zs : List Int}
    (h : (a = none ∧ len = 0 ∧ cap = 0 ∧ zs = []) ∨ ∃ x, a = some x ∧ len ≤ cap ∧ cap ≤ maxLen ∧ zs.length = cap ∧ (∀ i, i < zs.length → w.cell? (x.add i) = some (.int .i64 (zs.getD i 0))) ∧ ∀ n ∈ zs, (Lit.int .i64 n).wf = true) :
    ∃ nums, Ints w a len nums ∧ len ≤ cap ∧ cap ≤ 9223372036854775807 ∧ (a = none → cap = 0) := by
  rcases h with ⟨rfl, rfl, rfl, rfl⟩ | ⟨x, rfl, h1, h2, h3, h4, h5⟩
  · exact ⟨[], Sl.nil_, Nat.le_refl _, by omega, fun _ => rfl⟩
  · have h2' : cap ≤ 9223372036854775807 := h2
    refine ⟨zs.take len, ⟨by rw [List.length_take]; omega, fun hn => ?_⟩, h1, h2', fun h => by cases h⟩
    obtain ⟨b, off, rfl, hc⟩ := ints_at h4 (by omega)
    refine ⟨b, off, rfl, fun i y hy j u hu => ?_⟩
    rw [List.getElem?_take] at hy
    split at hy
    · have hlt := (List.getElem?_eq_some_iff.1 hy).1
      cases j with
      | zero =>
        simp only [eInt, List.getElem?_cons_zero, Option.some.injEq] at hu
        subst hu
        have := hc i (by omega)
        rw [Nat.mul_one, Nat.add_zero]
        rw [this, List.getD_eq_getElem?_getD, hy]
        rfl
      | succ j => simp [eInt] at hu
    · cases hy
end Go.Proofs.Ytmennjmjakdkcaa
