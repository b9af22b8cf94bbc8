/- mestaref03: Wears, Losses, less, alike, Mixed. -/
import Derived.Test.YtahlicinchehhaaRefA
import Derived.Test.YtahlicinchehhaaGrid
namespace Go.Proofs.Ytahlicinchehhaa
open Go.RowKit
set_option linter.unusedVariables false
set_option linter.unusedSimpArgs false

def wearsL : List Sg := (List.range 16).map wearOf
def lossN (s : Sg) : Nat := (if s.l then 1 else 0) + (if s.r then 1 else 0) + (if s.b = -1 then 1 else 0) + (if s.p = -1 then 1 else 0)
def lessB (a b : Mk) (l r : Bool) (i : Nat) : Bool := !tornB l r i && (bit a.n i && !bit b.n i)
def lessN (a b : Mk) (l r : Bool) : Nat := cntTo (lessB a b l r) 8
theorem lessN_pop (a b : Mk) (l r : Bool) : lessN a b l r = popI (butI (onI a.n l r) (onI b.n l r)) := by
  unfold lessN popI
  show cnt _ = cnt _
  refine cnt_congr fun i hi => ?_
  rw [bit_but _ _ (onI_hi _ _ _) i hi, bit_on _ _ _ _ hi, bit_on _ _ _ _ hi]
  unfold lessB
  cases bit a.n i <;> cases bit b.n i <;> cases tornB l r i <;> rfl
theorem alikeW_less (a b : Mk) (t : Int) (s : Sg) : alikeW a b t s = (bpW a b s && (decide ((lessN a b s.l s.r : Int) ≤ t) && decide ((lessN b a s.l s.r : Int) ≤ t))) := by
  unfold alikeW; rw [lessN_pop, lessN_pop, Bool.and_assoc]
theorem worn_sorted : wornL.Pairwise (fun a b => a.1 ≤ b.1) := by decide +kernel
theorem worn_loss : ∀ y ∈ wornL, y.1 = lossN y.2 ∧ y.2 ∈ wearsL := by decide +kernel
theorem wears_worn : ∀ s ∈ wearsL, ((lossN s : Int), s) ∈ wornL := by decide +kernel
theorem mixed_any_iff (a b : Mk) (t los : Int) (h4 : los ≤ 4) : (wearsL.any fun s => decide ((lossN s : Int) ≤ los) && alikeW a b t s) = decide (mixedS a b t ≤ los) := by
  rw [Bool.eq_iff_iff, List.any_eq_true, decide_eq_true_eq]
  unfold mixedS
  constructor
  · rintro ⟨s, hs, h⟩
    simp only [Bool.and_eq_true, decide_eq_true_eq] at h
    have hm := wears_worn s hs
    cases hf : wornL.find? (fun y => alikeW a b t y.2) with
    | none => exact absurd h.2 (by have := List.find?_eq_none.1 hf _ hm; simpa using this)
    | some z =>
      obtain ⟨hz, l1, l2, hl, hn⟩ := List.find?_eq_some_iff_append.1 hf
      have hsort := worn_sorted
      rw [hl] at hm hsort
      rcases List.mem_append.1 hm with h1 | h1
      · have := hn _ h1; simp [h.2] at this
      · rcases List.mem_cons.1 h1 with h2 | h2
        · dsimp only; rw [← h2]; exact h.1
        · have := (List.pairwise_cons.1 (List.pairwise_append.1 hsort).2.1).1 _ h2
          dsimp only at this ⊢; omega
  · intro h
    cases hf : wornL.find? (fun y => alikeW a b t y.2) with
    | none => rw [hf] at h; dsimp only at h; omega
    | some z =>
      rw [hf] at h
      dsimp only at h
      have hz := List.mem_of_find?_eq_some hf
      have ha := List.find?_some hf
      refine ⟨z.2, (worn_loss z hz).2, ?_⟩
      rw [Bool.and_eq_true, decide_eq_true_eq]
      exact ⟨by rw [← (worn_loss z hz).1]; exact h, ha⟩
theorem mixedS_lo (a b : Mk) (t : Int) : 0 ≤ mixedS a b t ∧ mixedS a b t ≤ 5 := by
  unfold mixedS
  cases hf : wornL.find? (fun y => alikeW a b t y.2) with
  | none => exact ⟨by decide, by decide⟩
  | some z =>
    have hz := List.mem_of_find?_eq_some hf
    have h1 := (worn_loss z hz).1
    have h2 : ∀ y ∈ wornL, lossN y.2 ≤ 4 := by decide +kernel
    have h3 := h2 z hz
    dsimp only
    omega

theorem okSight : ElemOk Try.prog 38 28 5 32 := ElemOk.mk' (z := .agg #[.int .i64 0, .bool false, .bool false, .int .i64 0, .int .i64 0]) Try.underlying38 (by kernel_rfl) rfl (by decide)
abbrev OwnS (w : World) (base : Nat) (v : Value) (l : List Sg) : Prop := Own eSg 28 5 w base v l
theorem one_eSg (x : Sg) : ∀ u ∈ eSg x, u.oneCell' = true := by
  intro u hu; simp [eSg] at hu; rcases hu with rfl | rfl | rfl | rfl | rfl <;> rfl

theorem wears_next : ∀ k, k < 16 → (List.range (k + 1)).map wearOf = (List.range k).map wearOf ++ [wearOf k] := fun k _ => by rw [List.range_succ, List.map_append]; rfl

theorem wears_bits : ∀ k : Fin 16, ((k.1 : Int) % 2 == 1) = wb k.1 0 ∧ ((k.1 : Int) / 2 % 2 == 1) = wb k.1 1 ∧ ((k.1 : Int) / 4 % 2 == 1) = wb k.1 2 ∧ ((k.1 : Int) / 8 == 1) = wb k.1 3 := by decide +kernel

set_option maxRecDepth 100000 in
set_option maxHeartbeats 4000000 in
theorem rWears (w : World) :
    Calls Try.prog 33 #[] w fun e w' => ∃ v, e = .returned v ∧ OwnS w' w.heap.size v wearsL ∧ Below w.heap.size w w' := by
  go_enter Try.func33, Try.ntmps33
  go_wp2_with fail
  go_loopg [1, 2] 16 (fun g v i wr => ∃ k : Nat, k + g = 16 ∧ i = .int .i64 k ∧ OwnS wr w.heap.size v ((List.range k).map wearOf) ∧ Below w.heap.size w wr)
  case atStart => exact ⟨0, by omega, rfl, Own.nil_, Below.refl _ _⟩
  case round =>
    obtain ⟨k, hk, rfl, hown, hbl⟩ := hrel
    have hk16 : k ≤ 16 := by omega
    have hs := hbl.size
    have hlen : ((List.range k).map wearOf).length ≤ 16 := by simp; omega
    have HO := Lib.hid (And.intro hown (And.intro hbl hk))
    obtain ⟨L, hL⟩ : ∃ L, L = (List.range k).map wearOf := ⟨_, rfl⟩
    rw [← hL] at hown hlen
    have HL := Lib.hid hL
    have HW := Lib.hid hown
    clear hown hbl hk hL
    by_cases hlt : k < 16
    · obtain ⟨b0, b1, b2, b3⟩ := wears_bits ⟨k, hlt⟩
      dsimp only at b0 b1 b2 b3
      cases e2 : wb k 2 <;> cases e3 : wb k 3
      all_goals
        rw [e2] at b2
        rw [e3] at b3
        have HE := Lib.hid (And.intro e2 e3)
        clear e2 e3
        go_wp2_with (at_builtin; refine wp_app okSight rfl (.tmp 25) (.tmp 27) rfl w.heap.size _ L (wearOf k) _ rfl ?_ ?_ rfl (one_eSg _) (Own.below HW.out (B := wr.heap.size) ?_ (Nat.le_refl _)) (by omega) (by omega) ?_ ?_)
        · simp [go_sem]
        · simp [eSg, wearOf, HE.out.1, HE.out.2]
        · exact bal0 wr _
        · simp; omega
        intro v2 w2 hown2 hb2 _ hz2
        have HO2 := Lib.hid hown2
        clear hown2
        have hb2w := (HO.out.2.1.trans ((bal0 wr _).mono hs)).trans hb2
        go_wp2
        go_roundg (gk - 1)
        case measure => have := HO.out.2.2; omega
        case rel => exact ⟨k + 1, by have := HO.out.2.2; omega, by go_num, by rw [wears_next k hlt, ← HL.out]; exact HO2.out, hb2w⟩
    · obtain rfl : k = 16 := by omega
      go_wp2
      go_ret
      exact ⟨_, rfl, by have := HW.out; rwa [HL.out] at this, HO.out.2.1⟩

end Go.Proofs.Ytahlicinchehhaa
