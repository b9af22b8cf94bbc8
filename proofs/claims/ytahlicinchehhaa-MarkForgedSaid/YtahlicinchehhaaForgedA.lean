/- mestalaw03.MarkForged returns true. -/
import Derived.Test.YtahlicinchehhaaMarking
import Derived.Test.YtahlicinchehhaaLawF
import Derived.Test.YtahlicinchehhaaRegs
import Derived.Test.YtahlicinchehhaaRegOf
import Derived.Test.YtahlicinchehhaaKit
import Derived.Test.YtahlicinchehhaaOwn2
import Derived.Deep.OwnRows
import Derived.RegionTactic
import Derived.BigRegion
namespace Go.Proofs.Ytahlicinchehhaa
open Go.RowKit
set_option linter.unusedVariables false
set_option linter.unusedSimpArgs false

theorem ix_inj {n a b c d : Nat} (hb : b < n) (hd : d < n) (h : a * n + b = c * n + d) : a = c ∧ b = d := by
  have hn : 0 < n := by omega
  have h1 : (a * n + b) / n = a := by rw [Nat.mul_comm, Nat.mul_add_div hn, Nat.div_eq_of_lt hb, Nat.add_zero]
  have h2 : (c * n + d) / n = c := by rw [Nat.mul_comm, Nat.mul_add_div hn, Nat.div_eq_of_lt hd, Nat.add_zero]
  have : a = c := by rw [← h1, h, h2]
  subst this
  exact ⟨rfl, by omega⟩
theorem ix_lt {n L k o : Nat} (hk : k < L) (ho : o < n) : k * n + o < L * n := by
  have : (k + 1) * n ≤ L * n := Nat.mul_le_mul_right n hk
  rw [Nat.succ_mul] at this
  omega
/-- the table of numbers in the block G -/
def TabI (w : World) (G n : Nat) (f : Nat → Nat → Int) : Prop := ∃ cs : Array Value, w.heap[G]? = some (.cells cs 3 (0, 0)) ∧ cs.size = n * n ∧ ∀ k o : Nat, k < n → o < n → cs[k * n + o]? = some (.int .i64 (f k o))
theorem TabI.cell {w : World} {G n : Nat} {f : Nat → Nat → Int} (h : TabI w G n f) {k o : Nat} (hk : k < n) (ho : o < n) : w.cell? ⟨G, k * n + o, none⟩ = some (.int .i64 (f k o)) := by
  obtain ⟨cs, h1, h2, h3⟩ := h
  unfold World.cell?
  simp [h1, h3 k o hk ho]
theorem TabI.free {w : World} {G n : Nat} {f : Nat → Nat → Int} (h : TabI w G n f) (i : Nat) : w.frozen? ⟨G, i, none⟩ = false := by
  obtain ⟨cs, h1, _⟩ := h
  exact frz h1 i
theorem TabI.keep {w w' : World} {G n : Nat} {f : Nat → Nat → Int} (h : TabI w G n f) (e : w'.heap[G]? = w.heap[G]?) : TabI w' G n f := by
  obtain ⟨cs, h1, h2⟩ := h
  exact ⟨cs, e.trans h1, h2⟩
theorem TabI.set {w : World} {G n : Nat} {f f' : Nat → Nat → Int} (h : TabI w G n f) {k o : Nat} (hk : k < n) (ho : o < n) (x : Int) (hf : ∀ a b, a < n → b < n → f' a b = if a = k ∧ b = o then x else f a b) :
    TabI (w.setCell ⟨G, k * n + o, none⟩ (.int .i64 x)) G n f' := by
  obtain ⟨cs, h1, h2, h3⟩ := h
  refine ⟨cs.setIfInBounds (k * n + o) (.int .i64 x), set_blk h1, by simpa using h2, fun a b ha hb => ?_⟩
  rw [hf a b ha hb]
  by_cases hab : a = k ∧ b = o
  · obtain ⟨rfl, rfl⟩ := hab
    rw [if_pos ⟨rfl, rfl⟩, Array.getElem?_setIfInBounds_self, if_pos (by rw [h2]; exact ix_lt ha hb)]
  · rw [if_neg hab, Array.getElem?_setIfInBounds_ne (fun e => hab (by have := ix_inj ho hb e; exact ⟨this.1.symm, this.2.symm⟩))]
    exact h3 a b ha hb

set_option maxRecDepth 100000 in
set_option maxHeartbeats 4000000 in
theorem MarkForged_any (A : Option Addr) (n c : Nat) (nums : List Int) (w : World) (hl : Ints w A n nums) (hn : n ≤ 9223372036854775807) :
    Calls Try.prog 14 #[.slice A n c] w fun e w' => e = .returned (.bool true) ∧ Below w.heap.size w w' := by
  go_enter Try.func14, Try.ntmps14
  go_wp2_with fail
  refine (newHand_any A n c nums _ hl hn).mono ?_
  rintro e w1 ⟨rfl, hh, hb1, hz1⟩
  clear hl
  go_wp2_with fail
  refine (registerOf_any w.heap.size 0 4 _ hh (by omega) (by omega)).mono ?_
  rintro e w2 ⟨t, l, A1, c1, rfl, hck, hl5, hown, hms, hlc, hcm, hd2⟩
  obtain ⟨ht0, ht2, _, _⟩ := check_ok hck
  obtain ⟨tn, rfl⟩ := Int.eq_ofNat_of_zero_le ht0
  have hHM := Lib.hid (And.intro hck (And.intro hlc hcm))
  have hB2 := hb1.trans ((hd2.below (Nat.le_refl _) (by omega)))
  have hhd := hd2.hd
  have hz2 := hd2.size
  have HZ := Lib.hid hz1
  have hz1l : w.heap.size < w1.heap.size := by omega
  clear hck hms hlc hcm hd2 hb1 hh hz1
  go_upto_region 3 with (fail)
  obtain ⟨W, hW⟩ : ∃ W, W = w2.alloc (Obj.cells #[Value.int .i64 (tn : Int), .slice A1 l.length c1] 24) := ⟨_, rfl⟩
  rw [← hW]
  have bW : W.heap[w2.heap.size]? = some (Obj.cells #[Value.int .i64 (tn : Int), .slice A1 l.length c1] 24 (0, 0)) := by rw [hW]; exact alloc_at rfl
  have hBW : Below w.heap.size w W := by rw [hW]; exact bal hB2 (Nat.le_refl _) _
  have hOW : OwnM W (w.heap.size + 1) (.slice A1 l.length c1) l := by rw [hW, ← HZ.out]; exact hown.alloc _
  have hHW : Hd W w.heap.size 100 := by rw [hW]; exact hhd.alloc _
  have hoff : OffH A1 w.heap.size := fun b off e => by
    have := hOW.lt b (by rw [e]; rfl)
    omega
  have hmsW := (hOW.sl lenMk).1
  have hlW := heap_lt bW
  obtain ⟨P, hP⟩ : ∃ P, P = l.length * l.length := ⟨_, rfl⟩
  have hP16 : P ≤ 16 := by rw [hP]; have : l.length * l.length ≤ 4 * 4 := Nat.mul_le_mul hl5 hl5; omega
  have hmul : (l.length : Int) * (l.length : Int) = (P : Int) := by rw [hP]; simp
  have HPe := Lib.hid hP
  have hmk : ∀ W : World, (Instr.makeSlice 29 (.int .i64 (P : Int)) (.int .i64 (P : Int))).run Try.prog W = .ok (.slice (some ⟨W.heap.size, 0, none⟩) P P) (W.alloc (.cells (madeCells #[.int .i64 0] P) 3)) :=
    run_make_row' (P := Try.prog) 29 3 (.int .i64 0) 8 Try.underlying29 (by kernel_rfl) rfl .i64 .i64 P (by omega) (by omega)
  obtain ⟨r0, r1⟩ := blk2 bW
  have HW0 := Lib.hid (And.intro bW (And.intro hmsW (And.intro hHW (And.intro hoff hBW))))
  clear hP hW hB2 hown hhd bW hOW hHW hoff hmsW hBW
  go_upto_region 5 with (fail)
  obtain ⟨Wm, hW⟩ : ∃ Wm, Wm = W.alloc (.cells (madeCells #[.int .i64 0] P) 3) := ⟨_, rfl⟩
  rw [← hW]
  have hbm : Below W.heap.size W Wm := by rw [hW]; exact bal0 W _
  obtain ⟨cost, hcost⟩ : ∃ f : Nat → Nat → Int, f = fun (a b : Nat) => costS (mkAt l (a : Int)) (mkAt l (b : Int)) := ⟨_, rfl⟩
  have HCOST := Lib.hid (show ∀ i k : Nat, cost i k = costS (mkAt l (i : Int)) (mkAt l (k : Int)) from fun i k => by rw [hcost])
  have ht0' : TabI Wm W.heap.size l.length (fun a b => if a * l.length + b < 0 then cost a b else 0) := by
    refine ⟨_, by rw [hW]; exact alloc_at rfl, by rw [size_madeCells]; exact HPe.out, fun k o hk ho => ?_⟩
    have hlt : k * l.length + o < P := by rw [HPe.out]; exact ix_lt hk ho
    simp [madeCells, hlt, Nat.mod_one]
  have HM := Lib.hid (And.intro ht0' hbm)
  have hGm : W.heap.size < Wm.heap.size := by obtain ⟨cs, h1, _⟩ := ht0'; exact heap_lt h1
  have HV := Lib.hid (show ∀ i, i < l.length → (0 ≤ (mkAt l (i : Int)).n ∧ (mkAt l (i : Int)).n ≤ 255) from fun i hi => by
    have h := List.getElem?_eq_getElem hi
    have : mkAt l (i : Int) = l[i] := by unfold mkAt; simp [h]
    rw [this]
    exact (check_marks hHM.out.1 _ (List.getElem_mem hi)).1)
  clear hW hbm ht0' hmk hmul r0 r1 hcost
  go_wp2_with fail
  -- the costs
  go_loopg [7] l.length (fun g x wr => ∃ i : Nat, i + g = l.length ∧ x = .int .i64 i ∧ TabI wr W.heap.size l.length (fun a b => if a * l.length + b < i * l.length then cost a b else 0) ∧ Below W.heap.size W wr)
  case atStart => exact ⟨0, by omega, rfl, by simpa using HM.out.1, HM.out.2⟩
  case round =>
    obtain ⟨i, hi, rfl, htab, hbr⟩ := hrel
    have HI := Lib.hid (And.intro hi (And.intro htab hbr))
    have hil : i ≤ l.length := by omega
    obtain ⟨g1, rfl⟩ : ∃ g1 : Nat, g1 = gk := ⟨_, rfl⟩
    clear hi htab hbr
    by_cases hlt : i < l.length
    · obtain ⟨pi, hpi⟩ : ∃ pi, pi = i * l.length := ⟨_, rfl⟩
      have hpiP : pi + l.length ≤ P := by
        rw [hpi, HPe.out]
        have : (i + 1) * l.length ≤ l.length * l.length := Nat.mul_le_mul_right _ hlt
        rw [Nat.succ_mul] at this; exact this
      have HPI := Lib.hid hpi
      have em : (i : Int) * (l.length : Int) = (pi : Int) := by rw [hpi]; simp
      have HEM := Lib.hid em
      clear em hpi
      go_wp2_with fail
      go_loopg [8] l.length (fun g x wr => ∃ k : Nat, k + g = l.length ∧ x = .int .i64 k ∧ TabI wr W.heap.size l.length (fun a b => if a * l.length + b < i * l.length + k then cost a b else 0) ∧ Below W.heap.size W wr)
      case atStart => exact ⟨0, by omega, rfl, HI.out.2.1, HI.out.2.2⟩
      case round =>
        obtain ⟨k, hk, rfl, htab, hbr⟩ := hrel
        have HK := Lib.hid (And.intro hk (And.intro htab hbr))
        have hkl : k ≤ l.length := by omega
        have hsr := hbr.size
        by_cases hlk : k < l.length
        · obtain ⟨r0, r1⟩ := blk2 (bheap HW0.out.1 hbr (Nat.le_refl _))
          have hx := HV.out i hlt
          have hy := HV.out k hlk
          obtain ⟨x, hxe⟩ : ∃ x, x = mkAt l (i : Int) := ⟨_, rfl⟩
          obtain ⟨y, hye⟩ : ∃ y, y = mkAt l (k : Int) := ⟨_, rfl⟩
          rw [← hxe] at hx
          rw [← hye] at hy
          have howE : ownerE [(i : Int), (k : Int)] l.length = 0 := ownerE_two.2 ⟨⟨by omega, by omega⟩, by omega, by omega⟩
          have hFE : forgeE tn l i k = if forgeS x y < 0 then 11 else 0 := by
            unfold forgeE
            rw [if_neg (by rw [hHM.out.1]; omega), if_neg (by rw [howE]; omega), ← hxe, ← hye]
          have hFV : forgeV tn l i k = if forgeS x y < 0 then 0 else forgeS x y := by
            unfold forgeV
            rw [hFE, ← hxe, ← hye]
            by_cases h : forgeS x y < 0
            · rw [if_pos h, if_pos h, if_neg (by omega)]
            · rw [if_neg h, if_neg h, if_pos rfl]
          have hFZ : (forgeS x y = 0) ↔ i = k := by
            rw [forge_zero hx hy]
            constructor
            · intro h
              have e1 : l[i]? = some x := by rw [hxe]; unfold mkAt; simp [hlt]
              have e2 : l[k]? = some y := by rw [hye]; unfold mkAt; simp [hlk]
              rcases Nat.lt_trichotomy i k with h3 | h3 | h3
              · exact absurd h (check_new hHM.out.1 e1 e2 h3)
              · exact h3
              · exact absurd h.symm (check_new hHM.out.1 e2 e1 h3)
            · rintro rfl; rw [hxe, hye]
          have C := Forge_any tn A1 l.length c1 l i k wr (HW0.out.2.1.below hbr (Nat.le_refl _)) hHM.out.2.1 hHM.out.2.2
          rw [hFE, hFV] at C
          have HCST := Lib.hid (show cost i k = costS x y by rw [HCOST.out i k, hxe, hye])
          obtain ⟨S, hS⟩ : ∃ S, S = forgeS x y := ⟨_, rfl⟩
          have hSl := forgeS_lo x y
          rw [← hS] at C hSl hFZ
          obtain ⟨hSa, hSb⟩ := hSl
          obtain ⟨ix, hix⟩ : ∃ ix, ix = pi + k := ⟨_, rfl⟩
          have hixP : ix < P := by omega
          have es : (pi : Int) + (k : Int) = (ix : Int) := by rw [hix]; simp
          have HIX := Lib.hid (show ix = i * l.length + k by rw [hix, HPI.out])
          have k0 : (0 : Int) ≤ (k : Int) := by omega
          have hGr : W.heap.size < wr.heap.size := by obtain ⟨cs, h1, _⟩ := HK.out.2.1; exact heap_lt h1
          clear hix hxe hye hx hy howE hFE hFV htab hbr hk
          by_cases hneg : S < 0
          · rw [if_pos hneg, if_pos hneg] at C
            have HC := Lib.hid C
            have HX := Lib.hid (show cost i k = 1000 by rw [HCST.out]; unfold costS; rw [if_pos (by rw [← hS]; exact hneg)])
            have HES := Lib.hid es
            clear C hS hFZ hneg es
            go_wp2_with fail
            (with_reducible refine HC.out.mono ?_)
            rintro e w5 ⟨rfl, hb5⟩
            have HB5 := Lib.hid (And.intro (HK.out.2.2.trans (hb5.mono hsr)) (HK.out.2.1.keep (hb5.block _ (by omega))))
            have fG := HB5.out.2.free ix
            have cG : ∃ bv, w5.cell? ⟨W.heap.size, ix, none⟩ = some (.int .i64 bv) := ⟨_, by rw [HIX.out]; exact HB5.out.2.cell hlt hlk⟩
            obtain ⟨bv, cG⟩ := cG
            have em := HEM.out
            have es := HES.out
            clear hb5 r0 r1
            go_wp2
            go_roundg (gk - 1)
            case measure => have := HK.out.1; omega
            case rel =>
              refine ⟨k + 1, by have := HK.out.1; omega, by go_num, ?_, HB5.out.1.setCell (Nat.le_refl W.heap.size : W.heap.size ≤ (⟨W.heap.size, ix, none⟩ : Addr).block) _⟩
              rw [HIX.out]
              refine TabI.set HB5.out.2 hlt hlk 1000 fun a b ha hb => ?_
              show (if a * l.length + b < i * l.length + (k + 1) then cost a b else 0) = if a = i ∧ b = k then 1000 else (if a * l.length + b < i * l.length + k then cost a b else 0)
              by_cases hab : a = i ∧ b = k
              · rw [if_pos hab, hab.1, hab.2, if_pos (by omega)]; exact HX.out
              · rw [if_neg hab]
                by_cases hll : a * l.length + b < i * l.length + k
                · rw [if_pos hll, if_pos (by omega)]
                · rw [if_neg hll, if_neg]
                  intro h9
                  exact hab (ix_inj hb hlk (by omega))
          · rw [if_neg hneg, if_neg hneg] at C
            have HC := Lib.hid C
            have HX := Lib.hid (show cost i k = S by rw [HCST.out]; unfold costS; rw [if_neg (by rw [← hS]; exact hneg), ← hS])
            have HES := Lib.hid es
            have d0 : decide (S < 0) = false := decide_eq_false hneg
            have d1 : decide (10 < S) = false := decide_eq_false (by omega)
            have hB : (S == 0) = ((i : Int) == (k : Int)) := by
              rw [Bool.eq_iff_iff, beq_iff_eq, beq_iff_eq, hFZ]; omega
            obtain ⟨Bq, hBq⟩ : ∃ Bq, Bq = ((i : Int) == (k : Int)) := ⟨_, rfl⟩
            rw [← hBq] at hB
            have HBQ := Lib.hid (And.intro hB hBq.symm)
            clear C hS hFZ es hB hBq
            cases Bq
            all_goals
              have q1 := HBQ.out.1
              have q2 := HBQ.out.2
              go_wp2_with fail
              (with_reducible refine HC.out.mono ?_)
              rintro e w5 ⟨rfl, hb5⟩
              have HB5 := Lib.hid (And.intro (HK.out.2.2.trans (hb5.mono hsr)) (HK.out.2.1.keep (hb5.block _ (by omega))))
              have fG := HB5.out.2.free ix
              have cG : ∃ bv, w5.cell? ⟨W.heap.size, ix, none⟩ = some (.int .i64 bv) := ⟨_, by rw [HIX.out]; exact HB5.out.2.cell hlt hlk⟩
              obtain ⟨bv, cG⟩ := cG
              have em := HEM.out
              have es := HES.out
              clear hb5 r0 r1
              go_wp2
              go_roundg (gk - 1)
              case measure => have := HK.out.1; omega
              case rel =>
                refine ⟨k + 1, by have := HK.out.1; omega, by go_num, ?_, HB5.out.1.setCell (Nat.le_refl W.heap.size : W.heap.size ≤ (⟨W.heap.size, ix, none⟩ : Addr).block) _⟩
                rw [HIX.out]
                refine TabI.set HB5.out.2 hlt hlk S fun a b ha hb => ?_
                show (if a * l.length + b < i * l.length + (k + 1) then cost a b else 0) = if a = i ∧ b = k then S else (if a * l.length + b < i * l.length + k then cost a b else 0)
                by_cases hab : a = i ∧ b = k
                · rw [if_pos hab, hab.1, hab.2, if_pos (by omega)]; exact HX.out
                · rw [if_neg hab]
                  by_cases hll : a * l.length + b < i * l.length + k
                  · rw [if_pos hll, if_pos (by omega)]
                  · rw [if_neg hll, if_neg]
                    intro h9
                    exact hab (ix_inj hb hlk (by omega))
        · obtain rfl : k = l.length := by omega
          go_wp2
          go_roundg (g1 - 1)
          case measure => have := HI.out.1; omega
          case rel =>
            refine ⟨i + 1, by have := HI.out.1; omega, by go_num, ?_, HK.out.2.2⟩
            have := HK.out.2.1
            rw [Nat.succ_mul]
            exact this
    · obtain rfl : i = l.length := by omega
      obtain ⟨wf, rfl⟩ : ∃ wf : World, wf = wr := ⟨_, rfl⟩
      have htf : TabI wf W.heap.size l.length cost := by
        obtain ⟨cs, h1, h2, h3⟩ := HI.out.2.1
        refine ⟨cs, h1, h2, fun k o hk ho => ?_⟩
        have := h3 k o hk ho
        dsimp only at this
        rwa [if_pos (ix_lt hk ho)] at this
      have hwf := HI.out.2.2
      have hHf : Hd wf w.heap.size 100 := HW0.out.2.2.1.below hwf HW0.out.2.2.1.lt
      have HF := Lib.hid (And.intro htf (And.intro hwf (And.intro hHf (And.intro (bheap HW0.out.1 hwf (Nat.le_refl _)) (HW0.out.2.1.below hwf (Nat.le_refl _))))))
      have hGf : W.heap.size < wf.heap.size := by obtain ⟨cs, h1, _⟩ := htf; exact heap_lt h1
      have hcl : ∀ i k, i < l.length → k < l.length → 0 ≤ cost i k ∧ cost i k ≤ 1000 := fun i k hi hk => by rw [HCOST.out i k]; exact cost_lo _ _ (HV.out i hi).2
      have HCL := Lib.hid hcl
      have hHw : w.heap.size < w2.heap.size := by omega
      have hsW := HW0.out.2.2.2.2.size
      clear htf hwf hHf hcl
      go_wp2_with fail
      go_loopg [11] l.length (fun g x wr => ∃ i : Nat, i + g = l.length ∧ x = .int .i64 i ∧ Hd wr w.heap.size (100 + i) ∧ wf.grownBy wr (some w.heap.size))
      case atStart => exact ⟨0, by omega, rfl, HF.out.2.2.1, World.grownBy.refl _ _⟩
      case round =>
        obtain ⟨i, hi, rfl, hhd, hgr⟩ := hrel
        have hil : i ≤ l.length := by omega
        obtain ⟨g1, rfl⟩ : ∃ g1 : Nat, g1 = gk := ⟨_, rfl⟩
        obtain ⟨wo, rfl⟩ : ∃ wo : World, wo = wr := ⟨_, rfl⟩
        have hso := hgr.size
        have hbo : wo.heap[w2.heap.size]? = some (Obj.cells #[Value.int .i64 (tn : Int), .slice A1 l.length c1] 24 (0, 0)) := gb_blk hgr (by omega) HF.out.2.2.2.1
        have hmo : Marks wo A1 l.length l := Sl.gb HF.out.2.2.2.2 hgr HW0.out.2.2.2.1
        have hto : TabI wo W.heap.size l.length cost := HF.out.1.keep (hgr.block _ hGf (fun e => by have := Option.some.inj e; omega))
        have HI3 := Lib.hid (And.intro hi (And.intro hhd (And.intro hgr (And.intro hbo (And.intro hmo hto)))))
        have hlo2 := heap_lt hbo
        have hGo : W.heap.size < wo.heap.size := by omega
        clear hi hhd hgr hbo hmo hto
        by_cases hlt : i < l.length
        · obtain ⟨pi, hpi⟩ : ∃ pi, pi = i * l.length := ⟨_, rfl⟩
          have hpiP : pi + l.length ≤ P := by
            rw [hpi, HPe.out]
            have : (i + 1) * l.length ≤ l.length * l.length := Nat.mul_le_mul_right _ hlt
            rw [Nat.succ_mul] at this; exact this
          have HPI := Lib.hid (And.intro hpi (show (i : Int) * (l.length : Int) = (pi : Int) by rw [hpi]; simp))
          clear hpi
          go_wp2_with fail
          go_loopg [12] l.length (fun g x wr => ∃ k : Nat, k + g = l.length ∧ x = .int .i64 k ∧ Below wo.heap.size wo wr)
          case atStart => exact ⟨0, by omega, rfl, Below.refl _ _⟩
          case round =>
            obtain ⟨k, hk, rfl, hbr⟩ := hrel
            have HK := Lib.hid (And.intro hk hbr)
            have hkl : k ≤ l.length := by omega
            have hsr := hbr.size
            obtain ⟨g2, rfl⟩ : ∃ g2 : Nat, g2 = gk := ⟨_, rfl⟩
            obtain ⟨wk, rfl⟩ : ∃ wk : World, wk = wr := ⟨_, rfl⟩
            clear hk
            by_cases hlk : k < l.length
            · obtain ⟨r0, r1⟩ := blk2 (bheap HI3.out.2.2.2.1 hbr (Nat.le_refl _))
              obtain ⟨b0, f0, x, hAx, hb0, hx, p0, p1, p2⟩ := Marks.get (HI3.out.2.2.2.2.1.below hbr (Nat.le_refl _)) hlt
              obtain ⟨b1, f1, y, hAy, hb1, hy, q0, q1, q2⟩ := Marks.get (HI3.out.2.2.2.2.1.below hbr (Nat.le_refl _)) hlk
              subst hAx
              obtain ⟨rfl, rfl⟩ : b1 = b0 ∧ f1 = f0 := by simpa [eq_comm] using hAy
              have hxv := (check_marks hHM.out.1 x (List.mem_of_getElem? hx)).1
              have hyv := (check_marks hHM.out.1 y (List.mem_of_getElem? hy)).1
              have hc1 : cost i k = costS x y := by rw [HCOST.out i k]; unfold mkAt; simp [hx, hy]
              have hc2 : cost k i = costS y x := by rw [HCOST.out k i]; unfold mkAt; simp [hx, hy]
              have HLAW := Lib.hid (show (decide (cost i k < 1000) && decide (cost k i < 1000)) = ((x.n == y.n) && (x.b == y.b)) by rw [hc1, hc2]; exact cost_both hxv hyv)
              have i0 : (0 : Int) ≤ (i : Int) := by omega
              have i1 : (i : Int) < (l.length : Int) := by omega
              have k0 : (0 : Int) ≤ (k : Int) := by omega
              have k1 : (k : Int) < (l.length : Int) := by omega
              have hl9 : w2.heap.size < wk.heap.size := by omega
              clear hAy hx hy hc1 hc2 hxv hyv hb0 hbr
              go_upto_region 23 with (fail)
              go_cut [13, 14] (fun u v wc => ∃ ga gb, u = .pointer (some ⟨ga, 0, none⟩) ∧ v = .pointer (some ⟨gb, 0, none⟩) ∧ wc.heap[ga]? = some (mkObj x) ∧ wc.heap[gb]? = some (mkObj y) ∧ Below wk.heap.size wk wc)
              case first =>
                go_region
                all_goals
                  go_wp2_with fail
                  go_meet
                  first
                    | exact ⟨_, _, rfl, rfl, alloc_at (by simp), hblk_alloc (alloc_at rfl) _, bdraw (bal (bal0 wk _) (Nat.le_refl _) _)⟩
                    | exact ⟨_, _, rfl, rfl, hblk_alloc (alloc_at rfl) _, alloc_at (by simp), bdraw (bal (bal0 wk _) (Nat.le_refl _) _)⟩
              case rest =>
                obtain ⟨ga, gb, rfl, rfl, hga, hgb, hbc⟩ := hcut
                obtain ⟨wx, rfl⟩ : ∃ wx : World, wx = wc := ⟨_, rfl⟩
                obtain ⟨pk, hpk⟩ : ∃ pk, pk = k * l.length := ⟨_, rfl⟩
                have hpkP : pk + l.length ≤ P := by
                  rw [hpk, HPe.out]
                  have : (k + 1) * l.length ≤ l.length * l.length := Nat.mul_le_mul_right _ hlk
                  rw [Nat.succ_mul] at this; exact this
                have HPK := Lib.hid (And.intro hpk (show (k : Int) * (l.length : Int) = (pk : Int) by rw [hpk]; simp))
                have hbx := HK.out.2.trans (hbc.mono hsr)
                have htx := HI3.out.2.2.2.2.2.keep (hbx.block W.heap.size hGo)
                obtain ⟨x1, hx1⟩ : ∃ x1, x1 = pi + k := ⟨_, rfl⟩
                obtain ⟨x2, hx2⟩ : ∃ x2, x2 = pk + i := ⟨_, rfl⟩
                have c1 : wx.cell? ⟨W.heap.size, x1, none⟩ = some (.int .i64 (cost i k)) := by rw [hx1, HPI.out.1]; exact htx.cell hlt hlk
                have c2 : wx.cell? ⟨W.heap.size, x2, none⟩ = some (.int .i64 (cost k i)) := by rw [hx2, HPK.out.1]; exact htx.cell hlk hlt
                have x1P : x1 < P := by omega
                have x2P : x2 < P := by omega
                have em1 := HPI.out.2
                have em2 := HPK.out.2
                have ew1 : IntKind.i64.wrap (pi : Int) = (pi : Int) := IntWalk.i64_in _ (by omega)
                have ew2 : IntKind.i64.wrap (pk : Int) = (pk : Int) := IntWalk.i64_in _ (by omega)
                have es1 : IntKind.i64.wrap ((pi : Int) + (k : Int)) = (x1 : Int) := by rw [IntWalk.i64_in _ (by omega), hx1]; simp
                have es2 : IntKind.i64.wrap ((pk : Int) + (i : Int)) = (x2 : Int) := by rw [IntWalk.i64_in _ (by omega), hx2]; simp
                have y1 : (0 : Int) ≤ (x1 : Int) := by omega
                have y2 : (x1 : Int) < (P : Int) := by omega
                have y3 : (0 : Int) ≤ (x2 : Int) := by omega
                have y4 : (x2 : Int) < (P : Int) := by omega
                obtain ⟨a0, a1, a2⟩ := blk3 hga
                obtain ⟨d0, d1, d2⟩ := blk3 hgb
                have HBX := Lib.hid hbx
                have hsx := hbx.size
                have HX1 := Lib.hid (And.intro hx1 c1)
                have HTX := Lib.hid htx
                have hlga := heap_lt hga
                have hlgb := heap_lt hgb
                clear hpk hx1 hx2 hbx htx r0 r1 p0 p1 p2 q0 q1 q2 hga hgb hbc
                go_upto_region 24 with (fail)
                go_cut [137] (fun q wc => q = .bool false ∧ ∃ nq, wx.drewN nq = wc)
                case first =>
                  cases e1 : decide (cost i k < 1000) <;> cases e2 : decide (cost k i < 1000) <;> cases e3 : (x.n == y.n) <;> cases e4 : (x.b == y.b)
                  all_goals
                    have hlw := HLAW.out
                    rw [e1, e2, e3, e4] at hlw
                    first
                      | (exact absurd hlw (by decide))
                      | (clear hlw
                         go_quiet (fail)
                         go_wp2
                         go_meet
                         exact ⟨rfl, _, rfl⟩)
                case rest =>
                  obtain ⟨rfl, nq, hwc⟩ := hcut
                  have hbc : Below wx.heap.size wx wc := by rw [← hwc]; exact below_drewN (Below.refl _ _) nq
                  have HBC := Lib.hid (HBX.out.trans (hbc.mono hsx))
                  have hsc := HBC.out.size
                  clear hwc hbc a0 a1 a2 d0 d1 d2 c1 c2 em1 em2 ew1 ew2 es1 es2
                  go_wp2_with fail
                  go_loopg [15] l.length (fun g z wr => ∃ m : Nat, m + g = l.length ∧ z = .int .i64 m ∧ Below wo.heap.size wo wr)
                  case atStart => exact ⟨0, by omega, rfl, HBC.out⟩
                  case round =>
                    obtain ⟨m, hm, rfl, hbm⟩ := hrel
                    have HMM := Lib.hid (And.intro hm hbm)
                    have hml : m ≤ l.length := by omega
                    have htm := HI3.out.2.2.2.2.2.keep (hbm.block W.heap.size hGo)
                    clear hm hbm
                    by_cases hlm : m < l.length
                    · obtain ⟨pm, hpm⟩ : ∃ pm, pm = m * l.length := ⟨_, rfl⟩
                      have hpmP : pm + l.length ≤ P := by
                        rw [hpm, HPe.out]
                        have : (m + 1) * l.length ≤ l.length * l.length := Nat.mul_le_mul_right _ hlm
                        rw [Nat.succ_mul] at this; exact this
                      obtain ⟨x2', hx2'⟩ : ∃ x2, x2 = pi + m := ⟨_, rfl⟩
                      obtain ⟨x3, hx3⟩ : ∃ x3, x3 = pm + k := ⟨_, rfl⟩
                      have c1 : wr.cell? ⟨W.heap.size, x1, none⟩ = some (.int .i64 (cost i k)) := by rw [HX1.out.1, HPI.out.1]; exact htm.cell hlt hlk
                      have c2 : wr.cell? ⟨W.heap.size, x2', none⟩ = some (.int .i64 (cost i m)) := by rw [hx2', HPI.out.1]; exact htm.cell hlt hlm
                      have c3 : wr.cell? ⟨W.heap.size, x3, none⟩ = some (.int .i64 (cost m k)) := by rw [hx3, hpm]; exact htm.cell hlm hlk
                      have em1 := HPI.out.2
                      have em3 : (m : Int) * (l.length : Int) = (pm : Int) := by rw [hpm]; simp
                      have ew1 : IntKind.i64.wrap (pi : Int) = (pi : Int) := IntWalk.i64_in _ (by omega)
                      have ew3 : IntKind.i64.wrap (pm : Int) = (pm : Int) := IntWalk.i64_in _ (by omega)
                      have es1 : IntKind.i64.wrap ((pi : Int) + (k : Int)) = (x1 : Int) := by rw [IntWalk.i64_in _ (by omega), HX1.out.1]; simp
                      have es2 : IntKind.i64.wrap ((pi : Int) + (m : Int)) = (x2' : Int) := by rw [IntWalk.i64_in _ (by omega), hx2']; simp
                      have es3 : IntKind.i64.wrap ((pm : Int) + (k : Int)) = (x3 : Int) := by rw [IntWalk.i64_in _ (by omega), hx3]; simp
                      have z1 : (0 : Int) ≤ (x2' : Int) := by omega
                      have z2 : (x2' : Int) < (P : Int) := by omega
                      have z3 : (0 : Int) ≤ (x3 : Int) := by omega
                      have z4 : (x3 : Int) < (P : Int) := by omega
                      have hcim := HCL.out i m hlt hlm
                      have hcmk := HCL.out m k hlm hlk
                      have htri : cost i k ≤ cost i m + cost m k := by rw [HCOST.out i k, HCOST.out i m, HCOST.out m k]; exact cost_tri (HV.out i hlt).2 (HV.out m hlm).2 (HV.out k hlk).2
                      have hw : IntKind.i64.wrap (cost i m + cost m k) = cost i m + cost m k := IntWalk.i64_in _ (by omega)
                      have hdt : decide (cost i m + cost m k < cost i k) = false := decide_eq_false (by omega)
                      clear hx2' hx3 hpm hcim hcmk htri htm
                      go_upto_region 29 with (fail)
                      go_quiet (fail)
                      go_wp2
                      go_roundg (gk - 1)
                      case measure => have := HMM.out.1; omega
                      case rel => exact ⟨m + 1, by have := HMM.out.1; omega, by go_num, below_drewN HMM.out.2 _⟩
                    · obtain rfl : m = l.length := by omega
                      go_wp2
                      go_roundg (g2 - 1)
                      case measure => have := HK.out.1; omega
                      case rel => exact ⟨k + 1, by have := HK.out.1; omega, by go_num, HMM.out.2⟩
            · obtain rfl : k = l.length := by omega
              have hhk : Hd wk w.heap.size (100 + i) := HI3.out.2.1.below hbr HI3.out.2.1.lt
              go_wp2_with fail
              refine (upto_any w.heap.size (100 + i) 6 _ hhk (by omega) (by omega)).mono ?_
              rintro e wd ⟨ch, rfl, hch, hdl⟩
              have hch6 : ch ≤ 6 := by omega
              have hgd : wo.grownBy wd (some w.heap.size) := (gb_below (World.grownBy.refl wo _) hbr).trans hdl.gr
              have hbd : wd.heap[w2.heap.size]? = some (Obj.cells #[Value.int .i64 (tn : Int), .slice A1 l.length c1] 24 (0, 0)) := gb_blk hgd (by omega) HI3.out.2.2.2.1
              have hmd : Marks wd A1 l.length l := Sl.gb HI3.out.2.2.2.2.1 hgd HW0.out.2.2.2.1
              have htd : TabI wd W.heap.size l.length cost := HI3.out.2.2.2.2.2.keep (hgd.block _ hGo (fun e => by have := Option.some.inj e; omega))
              have HD := Lib.hid (And.intro hgd (And.intro hbd (And.intro hmd (And.intro htd hdl.hd))))
              have hsd := hgd.size
              clear hhk hdl hgd hbd hmd htd hch hbr
              go_wp2_with fail
              go_loopg [17, 18] l.length (fun g v z wr => ∃ k : Nat, k + g = l.length ∧ z = .int .i64 k ∧ OwnI wr wd.heap.size v (preyTo l i ch k) ∧ Below wd.heap.size wd wr)
              case atStart => exact ⟨0, by omega, rfl, Own.nil_, Below.refl _ _⟩
              case round =>
                obtain ⟨k, hk, rfl, hown, hbk⟩ := hrel
                have HO := Lib.hid (And.intro hk (And.intro hown hbk))
                have hkl : k ≤ l.length := by omega
                have hsk := hbk.size
                clear hk hown
                by_cases hlk : k < l.length
                · obtain ⟨pk, hpk⟩ : ∃ pk, pk = k * l.length := ⟨_, rfl⟩
                  have hpkP : pk + l.length ≤ P := by
                    rw [hpk, HPe.out]
                    have : (k + 1) * l.length ≤ l.length * l.length := Nat.mul_le_mul_right _ hlk
                    rw [Nat.succ_mul] at this; exact this
                  obtain ⟨x2, hx2⟩ : ∃ x2, x2 = pk + i := ⟨_, rfl⟩
                  have c2 : wr.cell? ⟨W.heap.size, x2, none⟩ = some (.int .i64 (cost k i)) := by rw [hx2, hpk]; exact (HD.out.2.2.2.1.keep (hbk.block _ (by omega))).cell hlk hlt
                  have em2 : (k : Int) * (l.length : Int) = (pk : Int) := by rw [hpk]; simp
                  have es2 : (pk : Int) + (i : Int) = (x2 : Int) := by rw [hx2]; simp
                  have x2P : x2 < P := by omega
                  have hcl := HCL.out k i hlk hlt
                  have hpb := prey_cost (l := l) (i := i) (k := k) (ch := (ch : Int)) (by omega)
                  rw [show costS (mkAt l (k : Int)) (mkAt l (i : Int)) = cost k i from (HCOST.out k i).symm] at hpb
                  have HPB := Lib.hid (And.intro hpb (preyTo_succ l (i : Int) ch k))
                  have hll : (preyTo l (i : Int) ch k).length < 4294967296 := by have := preyTo_len l (i : Int) ch k; omega
                  obtain ⟨C, hC⟩ : ∃ C, C = cost k i := ⟨_, rfl⟩
                  rw [← hC] at c2 hcl
                  have HC := Lib.hid hC
                  have hGk : W.heap.size < wr.heap.size := by omega
                  clear hpk hx2 hpb hbk hC
                  cases e1 : ((k : Int) != (i : Int)) <;> cases e2 : decide (C ≤ (ch : Int))
                  all_goals
                    have HEE := Lib.hid (And.intro e1 e2)
                    go_wp2_with (at_builtin; refine wp_app okInt rfl (.tmp 191) (.tmp 193) rfl wd.heap.size _ (preyTo l (i : Int) ch k) (k : Int) _ rfl rfl rfl rfl (one_eInt _) HO.out.2.1 hll ?_ ?_ ?_; (omega); (omega); intro v' w4 hown4 hb4 _ _; have HO4 := Lib.hid (And.intro hown4 hb4); clear hown4 hb4)
                    go_roundg (gk - 1)
                    case measure => have := HO.out.1; omega
                    case rel =>
                      have hp := HPB.out.1
                      rw [← HC.out, HEE.out.1, HEE.out.2] at hp
                      first
                        | exact ⟨k + 1, by have := HO.out.1; omega, by go_num, by rw [HPB.out.2, hp]; exact HO4.out.1, HO.out.2.2.trans HO4.out.2⟩
                        | exact ⟨k + 1, by have := HO.out.1; omega, by go_num, by rw [HPB.out.2, hp]; simpa using HO.out.2.1, HO.out.2.2⟩
                · obtain rfl : k = l.length := by omega
                  have hpE : preyE (tn : Int) l i ch = 0 := by
                    unfold preyE
                    rw [if_neg (by rw [hHM.out.1]; omega), if_neg (by rw [ownerE_one.2 ⟨by omega, by omega⟩]; omega), if_neg (by omega)]
                  have C := Prey_any tn A1 l.length c1 l i ch wr (HD.out.2.2.1.below hbk (Nat.le_refl _)) hHM.out.2.1 hHM.out.2.2
                  rw [hpE, show preyR (tn : Int) l i ch = preyTo l i ch l.length by unfold preyR; rw [if_pos hpE]] at C
                  obtain ⟨r0, r1⟩ := blk2 (bheap HD.out.2.1 hbk (Nat.le_refl _))
                  obtain ⟨L, hL⟩ : ∃ L, L = preyTo l (i : Int) (ch : Int) l.length := ⟨_, rfl⟩
                  have hown := HO.out.2.1
                  rw [← hL] at C hown
                  obtain ⟨Ad, cd, rfl, hsd', hcd, hmd⟩ := hown.form lenInt
                  have HCC := Lib.hid C
                  have HSD := Lib.hid hsd'
                  clear C hL hown hsd' hpE hbk
                  go_wp2_with fail
                  (with_reducible refine HCC.out.mono ?_)
                  rintro e w7 ⟨v7, rfl, ho7, hb7⟩
                  obtain ⟨A7, c7, rfl, hs7, hc7, hm7⟩ := ho7.form lenInt
                  have C7 := sameInts_any A7 L.length c7 L Ad L.length cd L w7 hs7 (HSD.out.below hb7 (Nat.le_refl _)) (Nat.le_trans hc7 hm7) (Nat.le_trans hcd hmd)
                  rw [show sameL L L = true from decide_eq_true rfl] at C7
                  have HC7 := Lib.hid C7
                  have HB7 := Lib.hid hb7
                  clear C7 ho7 hs7 hb7 r0 r1
                  go_wp2_with fail
                  (with_reducible refine HC7.out.mono ?_)
                  rintro e w8 ⟨rfl, hb8⟩
                  have HB8 := Lib.hid (HO.out.2.2.trans ((HB7.out.trans (hb8.mono HB7.out.size)).mono hsk))
                  clear hb8
                  go_wp2
                  go_roundg (g1 - 1)
                  case measure => have := HI3.out.1; omega
                  case rel =>
                    refine ⟨i + 1, by have := HI3.out.1; omega, by go_num, (HD.out.2.2.2.2.below HB8.out HD.out.2.2.2.2.lt).mono (by omega), HI3.out.2.2.1.trans ((HD.out.1).trans (gb_below (World.grownBy.refl wd _) HB8.out))⟩
        · obtain rfl : i = l.length := by omega
          have hbW : Below w.heap.size w wo := HW0.out.2.2.2.2.trans ((HF.out.2.1.mono hsW).grown HI3.out.2.2.1 (by have := HF.out.2.1.size; omega) (fun k hk => by cases hk; exact Nat.le_refl _))
          go_wp2_with fail
          refine (marking_any _).mono ?_
          rintro e w9 ⟨rfl, hb9⟩
          go_wp2
          go_ret
          exact ⟨rfl, hbW.trans (hb9.mono hbW.size)⟩
end Go.Proofs.Ytahlicinchehhaa
