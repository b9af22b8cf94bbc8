/- mestalaw03.MarkTexts returns true. -/
import Derived.Test.YtoidaigiejilcaaDoorBlot
import Derived.Test.YtoidaigiejilcaaDoorRegOf
import Derived.Test.YtoidaigiejilcaaDoorCopyS
import Derived.Test.YtoidaigiejilcaaDoorMarking
import Derived.Test.YtoidaigiejilcaaDoorOwn2
import Derived.Test.YtoidaigiejilcaaDoorWritten
namespace Go.Proofs.YtoidaigiejilcaaDoor
open Go.RowKit
set_option linter.unusedVariables false
set_option linter.unusedSimpArgs false

theorem drw_size (w : World) : w.drew.heap.size = w.heap.size := rfl
theorem btr {a b c : World} (h : Below a.heap.size a b) (k : Below b.heap.size b c) : Below a.heap.size a c := h.trans (k.mono h.size)
theorem btd {a b c : World} {H N : Nat} (h : Below a.heap.size a b) (k : Dealt b c H N) (hH : a.heap.size ≤ H) : Below a.heap.size a c := h.trans (k.below hH h.size)
theorem keep2 {a b : World} {A0 A1 : Addr} {v0 v1 : Value} (h : Below a.heap.size a b) (h0 : a.cell? A0 = some v0) (h1 : a.cell? A1 = some v1) : b.cell? A0 = some v0 ∧ b.cell? A1 = some v1 := ⟨bcell h0 h (Nat.le_refl _), bcell h1 h (Nat.le_refl _)⟩
theorem Own.apart {α β : Type} {enc : α → List Value} {enc' : β → List Value} {e e' : TypeId} {sz sz' : Nat} {w : World} {b b' : Nat} {v v' : Value} {l : List α} {l' : List β} (h : Own enc e sz w b v l) (h' : Own enc' e' sz' w b' v' l') (hne : e ≠ e') : v.ownBlock = none ∨ v.ownBlock ≠ v'.ownBlock := by
  rcases h'.2 with ⟨hv, _⟩ | ⟨g', cap, cur, hv, hg, hh, _⟩
  · cases hb : v.ownBlock with
    | none => exact .inl rfl
    | some k => right; rw [hv]; simp [Value.ownBlock]
  · right
    have := Own.ne' h hh hne
    rw [hv]
    exact this
/-- what an append to one own slice leaves of another -/
theorem Own.stays {α β : Type} {enc : α → List Value} {enc' : β → List Value} {e e' : TypeId} {sz sz' : Nat} {w w' : World} {b b' B : Nat} {v v' : Value} {l : List α} {l' : List β} (h : Own enc e sz w b v l) (h' : Own enc' e' sz' w b' v' l') (hne : e ≠ e')
    (hb : Below B w w') (hk : ∀ k, k < w.heap.size → v'.ownBlock ≠ some k → w'.heap[k]? = w.heap[k]?) : Own enc e sz w' b v l :=
  h.kept (row := v'.ownBlock) ⟨hb.os, hb.tape, hb.output, hb.size, fun k hk' hne' => hk k hk' (fun e => hne' e.symm)⟩ (Own.apart h h' hne)

theorem wrS_le (t : Int) (l : List Mk) : (wrS t l).size ≤ 98 := by
  by_cases h : check t l = 0
  · exact wrS_size h
  · unfold wrS; rw [if_neg h]; exact Nat.zero_le _
theorem strs_at {w : World} {A : Option Addr} {n : Nat} {ps : List ByteArray} (h : Sl eStr 1 w A n ps) (hn : 0 < n) : ∃ b off, A = some ⟨b, off, none⟩ ∧ ∀ k (hk : k < ps.length), w.cell? ⟨b, off + k, none⟩ = some (.string (ps[k]'hk)) := by
  obtain ⟨bb, oo, hA, hc⟩ := h.2 hn
  refine ⟨bb, oo, hA, fun k hk => ?_⟩
  have := hc k (ps[k]'hk) (List.getElem?_eq_getElem hk) 0 (.string (ps[k]'hk)) rfl
  simpa using this

set_option maxRecDepth 100000 in
set_option maxHeartbeats 4000000 in
theorem MarkTexts_any (t : Int) (A : Option Addr) (n c : Nat) (l : List Mk) (text : ByteArray) (A0 : Option Addr) (n0 c0 : Nat) (nums : List Int) (a h : Int) (by_ : UInt8) (w : World) (hlm : Marks w A n l) (hnc : n ≤ c) (hcmx : c ≤ maxLen) (hzn : A = none → c = 0) (hl : Ints w A0 n0 nums) (hn0 : n0 ≤ 9223372036854775807)
    (hts : text.size ≤ 9223372036854775807) (ha : -9223372036854775808 ≤ a ∧ a ≤ 9223372036854775807) (hh : -9223372036854775808 ≤ h ∧ h ≤ 9223372036854775807) :
    Calls Tryd.prog 4 #[.agg #[.int .i64 t, .slice A n c], .string text, .slice A0 n0 c0, .int .i64 a, .int .i64 h, .int .u8 (by_.toNat : Int)] w fun e w' => e = .returned (.bool true) ∧ Below w.heap.size w w' := by
  have hg20 : n ≤ 9223372036854775807 := Nat.le_trans hnc hcmx
  have HG := Lib.hid (And.intro hlm (And.intro hnc (And.intro hcmx hzn)))
  have HN := Lib.hid hl
  have HAH := Lib.hid (And.intro ha hh)
  clear hlm hnc hcmx hzn hl ha hh
  go_enter Tryd.func4, Tryd.ntmps4
  go_upto_region 1 with (fail)
  obtain ⟨W0, hW⟩ : ∃ W0, W0 = w.alloc (Obj.cells #[Value.int .i64 t, .slice A n c] 26) := ⟨_, rfl⟩
  rw [← hW]
  have hB0 : Below w.heap.size w W0 := by rw [hW]; exact bal0 w _
  have a0 : W0.heap[w.heap.size]? = some (Obj.cells #[Value.int .i64 t, .slice A n c] 26 (0, 0)) := by rw [hW]; exact alloc_at rfl
  have hz0 : w.heap.size < W0.heap.size := heap_lt a0
  clear hW
  obtain ⟨r0, r1⟩ := blk2 a0
  by_cases hout : 20 < n ∨ (110 < text.size ∧ text.size ≤ 120)
  · have HB0 := Lib.hid hB0
    have hx : (decide ((20 : Int) < (n : Int)) || (decide ((110 : Int) < (text.size : Int)) && decide ((text.size : Int) ≤ 120))) = true := by
      rcases hout with h | ⟨h1, h2⟩
      · simp; left; omega
      · simp; right; omega
    clear hout hB0
    by_cases h1 : 20 < n
    · have e1 : decide ((20 : Int) < (n : Int)) = true := by simp; omega
      go_wp2_with (go_at_call 5; refine (marking_any _).mono ?_; rintro e w3 ⟨rfl, hb3⟩)
      go_ret
      exact ⟨rfl, HB0.out.trans (hb3.mono HB0.out.size)⟩
    · have e1 : decide ((20 : Int) < (n : Int)) = false := by simp; omega
      rw [e1, Bool.false_or, Bool.and_eq_true] at hx
      obtain ⟨e2, e3⟩ := hx
      go_wp2_with (go_at_call 5; refine (marking_any _).mono ?_; rintro e w3 ⟨rfl, hb3⟩)
      go_ret
      exact ⟨rfl, HB0.out.trans (hb3.mono HB0.out.size)⟩
  · have h20 : ¬ 20 < n := fun h => hout (.inl h)
    have e1 : decide ((20 : Int) < (n : Int)) = false := by simp; omega
    have HB0 := Lib.hid hB0
    have HA0 := Lib.hid a0
    have HNW := Lib.hid (HN.out.below hB0 (Nat.le_refl _))
    have HR := Lib.hid (And.intro r0 r1)
    by_cases h110 : 110 < text.size
    case' pos => have e2 : decide ((110 : Int) < (text.size : Int)) = true := by simp; omega
    case' pos => have e3 : decide ((text.size : Int) ≤ 120) = false := decide_eq_false (fun h => hout (.inr ⟨h110, by omega⟩))
    case' neg => have e2 : decide ((110 : Int) < (text.size : Int)) = false := by simp; omega
    all_goals
      clear hout h20 h110
      go_upto_region 3 with (fail)
      clear hB0 a0
      go_cut [13, 14] (fun v1 v2 wx => ∃ (b1 b2 : Nat) (t2 : Int) (l2 : List Mk) (A2 : Option Addr) (c2 : Nat), v1 = .slice (some ⟨b1, 0, none⟩) 2 2 ∧ v2 = .slice (some ⟨b2, 0, none⟩) 1 1 ∧
        wx.heap[b1]? = some (Obj.cells #[Value.int .i64 t, .slice A n c, .int .i64 t2, .slice A2 l2.length c2] 26 (0, 0)) ∧
        wx.heap[b2]? = some (Obj.cells #[Value.string text] 9 (0, 0)) ∧ W0.heap.size ≤ b2 ∧ (check t2 l2 = 0 ∧ l2.length ≤ 5) ∧ OwnM wx W0.heap.size (.slice A2 l2.length c2) l2 ∧ Below W0.heap.size W0 wx)
      case first =>
        go_region_held3 (fun w' => w'.cell? ⟨w.heap.size, 0, none⟩ = some (.int .i64 t) ∧ w'.cell? ⟨w.heap.size, 1, none⟩ = some (.slice A n c))
          ((refine keep2 (a := W0) ?_ HR.out.1 HR.out.2
            (repeat' (first
              | (with_reducible exact Below.refl _ _)
              | (with_reducible refine bdraw ?_)
              | (with_reducible refine bal ?_ (Nat.le_refl _) _)
              | (with_reducible refine btr ?_ hbN)
              | (with_reducible refine btd ?_ hdR (by omega))
              | fail))))
          (first
            | (go_at_call 7; refine (newHand_any A0 n0 c0 nums _ ?_ hn0).mono ?_; (repeat' (first | (with_reducible exact HNW.out) | (with_reducible refine Sl.drew ?_) | (with_reducible refine Sl.alloc ?_ _) | fail)); rintro e wN ⟨rfl, hhN, hbN, hzN⟩; (try simp only [drw_size, World.size_alloc] at hhN); (try simp only [drw_size, World.size_alloc] at hzN))
            | (go_at_call 6; refine (registerOf_any _ 0 5 _ ?_ (by omega) (by omega)).mono ?_; (repeat' (first | (with_reducible exact hhN) | (with_reducible refine Hd.drew ?_) | (with_reducible refine Hd.alloc ?_ _) | fail)); rintro e wR ⟨t2, l2, A2, c2, rfl, hck, hl5, hown, hms, hlc, hcm, hdR⟩)
            | fail)
        all_goals
          go_wp2_with fail
          go_meet
          have hrs := hdR.size
          refine ⟨_, _, t2, l2, A2, c2, rfl, rfl, ?_, ?_, ?_, ⟨hck, hl5⟩, ?_, ?_⟩
          · repeat' (first
              | (with_reducible refine alloc_at ?_; first | rfl | omega | (simp; done))
              | (with_reducible refine hblk_alloc ?_ _)
              | (with_reducible refine hb_drew ?_)
              | (with_reducible refine hdR.blk ?_ ?_)
              | (with_reducible refine bheap ?_ hbN (Nat.le_refl _))
              | omega
              | fail)
          · repeat' (first
              | (with_reducible refine alloc_at ?_; first | rfl | omega | (simp; done))
              | (with_reducible refine hblk_alloc ?_ _)
              | (with_reducible refine hb_drew ?_)
              | (with_reducible refine hdR.blk ?_ ?_)
              | (with_reducible refine bheap ?_ hbN (Nat.le_refl _))
              | omega
              | fail)
          · omega
          · repeat' (first
              | (with_reducible exact hown.mono (by first | omega | (simp only [World.size_alloc]; omega)))
              | (with_reducible refine Own.alloc ?_ _)
              | fail)
          · (repeat' (first
              | (with_reducible exact Below.refl _ _)
              | (with_reducible refine bdraw ?_)
              | (with_reducible refine bal ?_ (Nat.le_refl _) _)
              | (with_reducible refine btr ?_ hbN)
              | (with_reducible refine btd ?_ hdR (by omega))
              | fail))
      case rest =>
        obtain ⟨b1, b2, t2, l2, A2, c2, rfl, rfl, hrb, hsb, hb2, ⟨hck, hl5⟩, hown, hBx⟩ := hcut
        have hTx : OwnSt wc W0.heap.size (.slice (some ⟨b2, 0, none⟩) 1 1) [text] := ⟨rfl, .inr ⟨b2, 1, _, rfl, hb2, hsb, Nat.le_refl _, by simp [maxLen], rfl, rfl⟩⟩
        have HS := Lib.hid (And.intro hown (And.intro hTx (And.intro hrb hBx)))
        have HCK := Lib.hid hl5
        clear hown hTx hrb hsb hBx hck hb2 hl5
        go_wp2_with fail
        go_loopg [14, 15] 2 (fun g tv iv wr => ∃ (k : Nat) (ts : List ByteArray), k + g = 2 ∧ iv = .int .i64 k ∧ OwnSt wr W0.heap.size tv ts ∧ ts.length = k + 1 ∧ (∀ s ∈ ts, s.size ≤ 9223372036854775807) ∧ (∀ s, ts[2]? = some s → s.size ≤ 98) ∧
          wr.heap[b1]? = some (Obj.cells #[Value.int .i64 t, .slice A n c, .int .i64 t2, .slice A2 l2.length c2] 26 (0, 0)) ∧ OwnM wr W0.heap.size (.slice A2 l2.length c2) l2 ∧ Below W0.heap.size W0 wr)
        case atStart => exact ⟨0, [text], rfl, rfl, HS.out.2.1, rfl, fun s hs => by simp at hs; rw [hs]; exact hts, fun s hs => by simp at hs, HS.out.2.2.1, HS.out.1, HS.out.2.2.2⟩
        case round =>
          obtain ⟨k, ts, hk, rfl, hTx, hlen, hsz, hs2, hrb, hown, hBr⟩ := hrel
          have HK := Lib.hid (And.intro hk (And.intro hlen (And.intro hsz hs2)))
          by_cases hlt : k < 2
          · have hRs : Sl eRg 2 wr (some ⟨b1, 0, none⟩) 2 [⟨t, A, n, c, l⟩, ⟨t2, A2, l2.length, c2, l2⟩] := Sl.of_blk hrb rfl lenRg
            obtain ⟨bb, oo, g, h1, hbb, hg, g0, g1⟩ := Regs.get hRs hlt
            cases h1
            rw [Nat.zero_add] at g0 g1
            have hgo : Marks wr g.A g.n g.l ∧ g.n ≤ g.c ∧ g.c ≤ maxLen := by
              have hmem := List.mem_of_getElem? hg
              simp only [List.mem_cons, List.not_mem_nil, or_false] at hmem
              rcases hmem with rfl | rfl
              · exact ⟨(HG.out.1.below (HB0.out.trans (hBr.mono HB0.out.size)) (Nat.le_refl _)), HG.out.2.1, HG.out.2.2.1⟩
              · exact hown.sl lenMk
            have HGO := Lib.hid hgo
            have HT := Lib.hid (And.intro hTx (And.intro hrb (And.intro hown hBr)))
            have HG2 := Lib.hid hg
            have hll : ts.length < 4294967296 := by omega
            have hwb : W0.heap.size ≤ wr.heap.size := hBr.size
            clear hgo hTx hrb hown hBr hRs hlen hsz hs2 hk hg
            have i0 : (0 : Int) ≤ (k : Int) := by omega
            have i1 : (k : Int) < 2 := by omega
            go_upto_region 8 with (go_at_call 8; refine (write_any g.t g.A g.n g.c g.l _ HGO.out.1 HGO.out.2.1 HGO.out.2.2).mono ?_; rintro e w3 ⟨rfl, hb3⟩; replace g0 := bcell g0 hb3 (Nat.le_refl _); replace g1 := bcell g1 hb3 (Nat.le_refl _); have HB3 := Lib.hid hb3; clear hb3)
            go_upto_region 9 with (go_at_call 11; refine (rWrite g.t g.A g.n g.c g.l _ (HGO.out.1.below HB3.out (Nat.le_refl _)) HGO.out.2.1 HGO.out.2.2).mono ?_; rintro e w4 ⟨rfl, hb4⟩; have HB4 := Lib.hid (HB3.out.trans (hb4.mono HB3.out.size)); clear hb4)
            obtain ⟨T, hT⟩ : ∃ T, T = wrS g.t g.l := ⟨_, rfl⟩
            obtain ⟨E, hE⟩ : ∃ E, E = check g.t g.l := ⟨_, rfl⟩
            have hT98 : T.size ≤ 98 := by rw [hT]; exact wrS_le _ _
            rw [← hT, ← hE]
            clear hT hE g0 g1
            have hwb4 : W0.heap.size ≤ w4.heap.size := by have := HB4.out.size; omega
            have HO4 := Lib.hid (HT.out.1.below HB4.out (Nat.le_refl _))
            have HT98 := Lib.hid hT98
            clear hT98
            go_wp2_with (at_builtin; refine wp_app okStr rfl (.tmp 79) (.tmp 81) rfl W0.heap.size _ ts _ _ rfl rfl rfl rfl (one_eStr _) HO4.out hll ?_ ?_ ?_; (omega); (omega); intro v' w' hown' hb' hk' hz'; have H9 := Lib.hid (And.intro hown' (And.intro hb' (And.intro hk' hz'))); clear hown' hb' hk' hz')
            have hrb4 := bheap HT.out.2.1 HB4.out (Nat.le_refl _)
            have hown4 := HT.out.2.2.1.below HB4.out (Nat.le_refl _)
            have hb9 : Below W0.heap.size W0 w' := (HT.out.2.2.2.trans (HB4.out.mono HT.out.2.2.2.size)).trans H9.out.2.1
            have hrb9 := (H9.out.2.2.1 b1 (heap_lt hrb4) (Own.ne' HO4.out hrb4 (by decide))).trans hrb4
            have hown9 := Own.stays hown4 HO4.out (by decide) H9.out.2.1 H9.out.2.2.1
            go_roundg (gk - 1)
            case measure => have := HK.out.1; omega
            case rel =>
              refine ⟨k + 1, ts ++ [T], by have := HK.out.1; omega, by go_num, H9.out.1, by have := HK.out.2.1; simp; omega, fun s hs => ?_, fun s hs => ?_, hrb9, hown9, hb9⟩
              · rcases List.mem_append.1 hs with hs | hs
                · exact HK.out.2.2.1 s hs
                · simp at hs; rw [hs]; have := HT98.out; omega
              · by_cases h2 : 2 < ts.length
                · rw [List.getElem?_append_left h2] at hs; exact HK.out.2.2.2 s hs
                · rw [List.getElem?_append_right (by omega)] at hs
                  have hm := List.mem_of_getElem? hs
                  simp at hm
                  rw [hm]; exact HT98.out
          · obtain rfl : k = 2 := by omega
            obtain ⟨s0, s1, s2, rfl⟩ : ∃ s0 s1 s2, ts = [s0, s1, s2] := by
              match ts, hlen with
              | [a, b, c], _ => exact ⟨a, b, c, rfl⟩
            obtain ⟨A3, c3, rfl, hsl, hlc3, hcm3⟩ := hTx.form lenStr
            obtain ⟨bt, ot, hA3, hct⟩ := strs_at hsl (by simp)
            subst hA3
            have g2 := hct 2 (by simp)
            have hz2 := hs2 s2 rfl
            have HT := Lib.hid (And.intro hTx (And.intro hsz hBr))
            have hwb : W0.heap.size ≤ wr.heap.size := hBr.size
            clear hTx hrb hown hBr hlen hsz hs2 hk hct hsl HK
            simp only [List.getElem_cons_succ, List.getElem_cons_zero, List.length_cons, List.length_nil, Nat.reduceAdd] at g2 hlc3 ⊢
            obtain ⟨ah, hh⟩ := HAH.out
            go_upto_region 13 with (first
              | (go_at_call 12; refine (blotted_any s2 a h by_ _ (by omega) ah hh).mono ?_; rintro e w5 ⟨⟨T, rfl, hTz⟩, hb5⟩; have hT5 := HT.out.1.below hb5 (Nat.le_refl _); have hw5 : W0.heap.size ≤ w5.heap.size := (by have := hb5.size; omega); have HB5 := Lib.hid (And.intro hb5 hTz); clear hb5 hTz)
              | (at_builtin; refine wp_app okStr rfl (.tmp 83) (.tmp 91) rfl W0.heap.size _ [s0, s1, s2] T _ rfl rfl rfl rfl (one_eStr _) hT5 (by simp) ?_ ?_ ?_; (omega); (omega); intro v' w9 hown' hb' hk' hz'; have H9 := Lib.hid (And.intro hown' (And.intro hb' hz')); clear hown' hb' hk' hz'))
            have hb9 : Below W0.heap.size W0 w9 := (HT.out.2.2.trans (HB5.out.1.mono HT.out.2.2.size)).trans H9.out.2.1
            obtain ⟨TS, hTS⟩ : ∃ TS, TS = [s0, s1, s2] ++ [T] := ⟨_, rfl⟩
            have hlen4 : TS.length = 4 := by rw [hTS]; rfl
            have hszs : ∀ s ∈ TS, s.size ≤ 9223372036854775807 := by
              rw [hTS]
              intro s hs
              rcases List.mem_append.1 hs with hs | hs
              · exact HT.out.2.1 s hs
              · simp at hs; rw [hs]; have := HB5.out.2; omega
            have hown9 := H9.out.1
            rw [← hTS] at hown9
            obtain ⟨A4, c4, hv4, hsl4, hlc4, hcm4⟩ := hown9.form lenStr
            rw [hlen4] at hv4 hsl4
            subst hv4
            obtain ⟨bt4, ot4, hA4, hct4⟩ := strs_at hsl4 (by simp)
            subst hA4
            have HTS := Lib.hid (And.intro hlen4 (And.intro hszs (And.intro hct4 hb9)))
            clear hlen4 hszs hown9 hsl4 hct4 hb9 hlc4 hTS hT5 g2
            go_wp2_with fail
            go_loopg [20] 4 (fun g iv wr => ∃ k : Nat, k + g = 4 ∧ iv = .int .i64 k ∧ Below w9.heap.size w9 wr)
            case atStart => exact ⟨0, rfl, rfl, Below.refl _ _⟩
            case round =>
              obtain ⟨k, hk, rfl, hbr⟩ := hrel
              have HK := Lib.hid hk
              by_cases hlt : k < 4
              · have hkT : k < TS.length := by rw [HTS.out.1]; exact hlt
                obtain ⟨s, hs⟩ : ∃ s, s = TS[k]'hkT := ⟨_, rfl⟩
                have hcell : wr.cell? ⟨bt4, ot4 + k, none⟩ = some (.string s) := by rw [hs]; exact bcell (HTS.out.2.2.1 k hkT) hbr (Nat.le_refl _)
                have hsz : s.size ≤ 9223372036854775807 := by rw [hs]; exact HTS.out.2.1 _ (List.getElem_mem _)
                have HBR := Lib.hid hbr
                have i0 : (0 : Int) ≤ (k : Int) := by omega
                have i1 : (k : Int) < 4 := by omega
                clear hs hk hbr hkT
                obtain ⟨R, hR⟩ : ∃ R, R = readL s.data.toList := ⟨_, rfl⟩
                have HRR := Lib.hid hR
                clear hR
                go_upto_region 17 with (go_at_call 9; refine (Read_any s _ hsz).mono ?_; rintro e w4 ⟨hro, hb4⟩; rw [← HRR.out] at hro; obtain ⟨A5, c5, rfl, hm5, hlc5, hcm5⟩ := hro; have HM5 := Lib.hid (And.intro hm5 (And.intro hlc5 (And.intro hcm5 hb4))); clear hm5 hlc5 hcm5 hb4)
                obtain ⟨W4, hW⟩ : ∃ W4, W4 = w4.alloc (Obj.cells #[Value.int .i64 R.t, .slice A5 R.l.length c5] 26) := ⟨_, rfl⟩
                have hbW : Below wr.heap.size wr W4 := by rw [hW]; exact bal HM5.out.2.2.2 (Nat.le_refl _) _
                have b4 : W4.heap[w4.heap.size]? = some (Obj.cells #[Value.int .i64 R.t, .slice A5 R.l.length c5] 26 (0, 0)) := by rw [hW]; exact alloc_at rfl
                have hm4 := HM5.out.1.alloc (Obj.cells #[Value.int .i64 R.t, .slice A5 R.l.length c5] 26)
                rw [← hW] at hm4 ⊢
                clear hW
                replace hcell := bcell hcell hbW (Nat.le_refl _)
                have H4 := Lib.hid (And.intro hbW (And.intro b4 hm4))
                clear hbW b4 hm4
                obtain ⟨q4, hq4⟩ : ∃ q, q = w4.heap.size := ⟨_, rfl⟩
                rw [← hq4] at H4 ⊢
                clear hq4
                go_upto_region 18 with (go_at_call 13; refine (rRead s _ hsz).mono ?_; rintro e w6 ⟨hro, hb6⟩; rw [← HRR.out] at hro; obtain ⟨A6, c6, rfl, hm6, hlc6, hcm6⟩ := hro; have HM6 := Lib.hid (And.intro hm6 (And.intro hlc6 (And.intro hcm6 hb6))); clear hm6 hlc6 hcm6 hb6)
                obtain ⟨W6, hW⟩ : ∃ W6, W6 = w6.alloc (Obj.cells #[Value.int .i64 R.t, .slice A6 R.l.length c6] 26) := ⟨_, rfl⟩
                have hb46 : Below W4.heap.size W4 W6 := by rw [hW]; exact bal HM6.out.2.2.2 (Nat.le_refl _) _
                have b6 : W6.heap[w6.heap.size]? = some (Obj.cells #[Value.int .i64 R.t, .slice A6 R.l.length c6] 26 (0, 0)) := by rw [hW]; exact alloc_at rfl
                have hm6 := HM6.out.1.alloc (Obj.cells #[Value.int .i64 R.t, .slice A6 R.l.length c6] 26)
                rw [← hW] at hm6 ⊢
                clear hW hcell
                have b46 := bheap H4.out.2.1 hb46 (Nat.le_refl _)
                have hm46 := H4.out.2.2.below hb46 (Nat.le_refl _)
                have HB6 := Lib.hid (H4.out.1.trans (hb46.mono H4.out.1.size))
                obtain ⟨q6, hq6⟩ : ∃ q, q = w6.heap.size := ⟨_, rfl⟩
                rw [← hq6] at b6 ⊢
                clear hq6
                obtain ⟨p0, p1⟩ := blk2 b46
                obtain ⟨p2, p3⟩ := blk2 b6
                have hsm : (decide (R.t = R.t) && sameL R.l R.l) = true := by unfold sameL; simp
                have HM9 := Lib.hid (And.intro hm46 hm6)
                obtain ⟨Rt, hRt⟩ : ∃ x, x = R.t := ⟨_, rfl⟩
                clear hb46 b46 b6 hm46 hm6
                have hl5 := HM5.out.2.1
                have hl6 := HM6.out.2.1
                have hc5 := HM5.out.2.2.1
                have hc6 := HM6.out.2.2.1
                go_wp2_with (go_at_call 10; refine (sameRegisters_any R.t R.t A5 R.l.length c5 R.l A6 R.l.length c6 R.l _ HM9.out.1 HM9.out.2 (by omega) (by omega)).mono ?_; rintro e w8 ⟨rfl, hb8⟩; rw [hsm]; have HB8 := Lib.hid hb8; clear hb8)
                go_roundg (gk - 1)
                case measure => have := HK.out; omega
                case rel => exact ⟨k + 1, by have := HK.out; omega, by go_num, (HBR.out.trans (HB6.out.mono HBR.out.size)).trans (HB8.out.mono (Nat.le_trans HBR.out.size HB6.out.size))⟩
              · obtain rfl : k = 4 := by omega
                have HBR := Lib.hid hbr
                clear hbr
                go_wp2_with (go_at_call 5; refine (marking_any _).mono ?_; rintro e w8 ⟨rfl, hb8⟩)
                go_ret
                have h09 := HB0.out.trans (HTS.out.2.2.2.mono HB0.out.size)
                have h9r := h09.trans (HBR.out.mono h09.size)
                exact ⟨rfl, h9r.trans (hb8.mono h9r.size)⟩
end Go.Proofs.YtoidaigiejilcaaDoor
