/- Plain laws of MarkNew: the count of losses that make two marks alike; a register with a new mark. -/
import Derived.Test.YtahlicinchehhaaLawT
import Derived.Test.YtahlicinchehhaaRefN
import Derived.Test.YtahlicinchehhaaRegOf
namespace Go.Proofs.Ytahlicinchehhaa
set_option linter.unusedVariables false
set_option linter.unusedSimpArgs false

def earsN (a b : Mk) (t : Int) : Int :=
  if (popI (butI a.n b.n) : Int) ≤ t ∧ (popI (butI b.n a.n) : Int) ≤ t then 0
  else if ((popI (onI (butI a.n b.n) false true) : Int) ≤ t ∧ (popI (onI (butI b.n a.n) false true) : Int) ≤ t) ∨ ((popI (onI (butI a.n b.n) true false) : Int) ≤ t ∧ (popI (onI (butI b.n a.n) true false) : Int) ≤ t) then 1 else 2
def clashN (a b : Mk) (t : Int) : Int := (if a.b = b.b then 0 else 1) + (if a.p = b.p then 0 else 1) + earsN a b t
theorem but_on (a b : Int) (l r : Bool) (hb : b ≤ 255) : butI (onI a l r) (onI b l r) = onI (butI a b) l r :=
  bits_ext (butI_lo _ _) (butI_hi _ _) (onI_lo _ _ _) (onI_hi _ _ _) fun i hi => by
    rw [bit_but _ _ (onI_hi _ _ _) i hi, bit_on _ _ _ _ hi, bit_on _ _ _ _ hi, bit_on _ _ _ _ hi, bit_but _ _ hb i hi]
    cases bit a i <;> cases bit b i <;> cases tornB l r i <;> rfl
theorem pop_on_le (n : Int) (l r : Bool) : popI (onI n l r) ≤ popI n := by
  unfold popI
  exact cnt_mono fun i hi h => by rw [bit_on _ _ _ _ hi] at h; simp at h; exact h.1
theorem pop_on_tt (n : Int) : popI (onI n true true) = 0 := by
  have e : onI n true true = 0 := by unfold onI earMask; simp
  rw [e]; decide +kernel
theorem wears_list : wearsL = [⟨0, false, false, 0, 0⟩, ⟨0, true, false, 0, 0⟩, ⟨0, false, true, 0, 0⟩, ⟨0, true, true, 0, 0⟩, ⟨0, false, false, -1, 0⟩, ⟨0, true, false, -1, 0⟩, ⟨0, false, true, -1, 0⟩, ⟨0, true, true, -1, 0⟩,
    ⟨0, false, false, 0, -1⟩, ⟨0, true, false, 0, -1⟩, ⟨0, false, true, 0, -1⟩, ⟨0, true, true, 0, -1⟩, ⟨0, false, false, -1, -1⟩, ⟨0, true, false, -1, -1⟩, ⟨0, false, true, -1, -1⟩, ⟨0, true, true, -1, -1⟩] := by decide +kernel
/-- the ears are alike -/
def earsB (a b : Mk) (t : Int) (l r : Bool) : Bool := decide ((popI (onI (butI a.n b.n) l r) : Int) ≤ t) && decide ((popI (onI (butI b.n a.n) l r) : Int) ≤ t)
theorem alike_ears {a b : Mk} {t : Int} (ha : 0 ≤ a.n ∧ a.n ≤ 255) (hb : 0 ≤ b.n ∧ b.n ≤ 255) (s : Sg) : alikeW a b t s = ((decide (s.b = -1) || decide (a.b = b.b)) && (decide (s.p = -1) || decide (a.p = b.p)) && earsB a b t s.l s.r) := by
  unfold alikeW bpW earsB
  rw [but_on _ _ _ _ hb.2, but_on _ _ _ _ ha.2, Bool.and_assoc]
theorem clash_mixed {a b : Mk} {t los : Int} (ha : 0 ≤ a.n ∧ a.n ≤ 255) (hb : 0 ≤ b.n ∧ b.n ≤ 255) (ht : 0 ≤ t) (h4 : los ≤ 4) : decide (clashN a b t ≤ los) = decide (mixedS a b t ≤ los) := by
  rw [← mixed_any_iff a b t los h4, wears_list]
  simp only [List.any_cons, List.any_nil, alike_ears ha hb, lossN]
  have hff : earsB a b t false false = (decide ((popI (butI a.n b.n) : Int) ≤ t) && decide ((popI (butI b.n a.n) : Int) ≤ t)) := by
    unfold earsB
    rw [onI_ff _ (butI_lo _ _) (butI_hi _ _), onI_ff _ (butI_lo _ _) (butI_hi _ _)]
  have htt : earsB a b t true true = true := by
    unfold earsB
    rw [pop_on_tt, pop_on_tt]
    simp [ht]
  have hmono : ∀ l r, earsB a b t false false = true → earsB a b t l r = true := by
    intro l r h
    rw [hff] at h
    unfold earsB
    have h1 := pop_on_le (butI a.n b.n) l r
    have h2 := pop_on_le (butI b.n a.n) l r
    simp only [Bool.and_eq_true, decide_eq_true_eq] at h ⊢
    omega
  have h1 := hmono true false
  have h2 := hmono false true
  have hE : earsN a b t = if earsB a b t false false then 0 else if earsB a b t false true || earsB a b t true false then 1 else 2 := by
    rw [hff]
    unfold earsN earsB
    simp only [Bool.and_eq_true, Bool.or_eq_true, decide_eq_true_eq]
  unfold clashN
  rw [hE, htt]
  clear hE hff htt hmono
  revert h1 h2
  generalize earsB a b t false false = e0
  generalize earsB a b t true false = e1
  generalize earsB a b t false true = e2
  intro h1 h2
  by_cases k1 : a.b = b.b <;> by_cases k2 : a.p = b.p <;> cases e0 <;> cases e1 <;> cases e2 <;> simp_all <;> (first | omega | (rw [Bool.eq_iff_iff]; simp; omega))
/-- a new mark leaves the register valid, and the pairs as they were -/
theorem free_not_mem {l : List Mk} {t los : Int} {x : Mk} (h0 : 0 ≤ los) (ht : 0 ≤ t) (h : freeM l t los x = true) : x ∉ l := by
  intro hx
  unfold freeM at h
  have h1 := List.all_eq_true.1 h x hx
  have h2 : mixedS x x t ≤ 0 := by
    have h3 := mixed_any_iff x x t 0 (by omega)
    have h4 : (wearsL.any fun s => decide ((lossN s : Int) ≤ 0) && alikeW x x t s) = true := by
      refine List.any_eq_true.2 ⟨wearOf 0, by decide +kernel, ?_⟩
      have e1 : wearOf 0 = ⟨0, false, false, 0, 0⟩ := by decide +kernel
      have e3 : ∀ n, popI (butI n n) = 0 := fun n => by
        unfold popI
        have : cnt (bit (butI n n)) = cnt (fun _ => false) := cnt_congr fun i hi => by
          unfold bit butI
          rw [Int.toNat_natCast, Nat.testBit_and]
          by_cases hn : n.toNat ≤ 255
          · have h5 : 255 - n.toNat = 2 ^ 8 - (n.toNat + 1) := by omega
            rw [h5, Nat.testBit_two_pow_sub_succ (by omega)]
            cases n.toNat.testBit i <;> simp
          · have h5 : 255 - n.toNat = 0 := by omega
            rw [h5]; simp
        rw [this]; decide +kernel
      rw [e1]
      unfold alikeW bpW
      simp only [e3]
      simp [lossN, ht]
    rw [h4] at h3
    simpa using h3.symm
  simp at h1
  omega
theorem check_snoc {l : List Mk} {t los : Int} {x : Mk} (hck : check t l = 0) (hl : l.length ≤ 4) (hx : mkOk x = true) (h0 : 0 ≤ los) (hf : freeM l t los x = true) : check t (l ++ [x]) = 0 := by
  obtain ⟨h1, h2, h3, h4⟩ := check_ok hck
  refine check_zero ⟨h1, h2⟩ (by simp; omega) ?_ ?_
  · intro m hm
    rcases List.mem_append.1 hm with h | h
    · exact mkOk_iff.2 (check_marks hck m h)
    · rw [List.mem_singleton.1 h]; exact hx
  · rw [List.nodup_append]
    refine ⟨?_, by simp, fun a ha b hb => ?_⟩
    · rw [List.nodup_iff_pairwise_ne, List.pairwise_iff_getElem]
      intro i j hi hj hlt
      exact check_new hck (List.getElem?_eq_getElem hi) (List.getElem?_eq_getElem hj) hlt
    · rw [List.mem_singleton.1 hb]
      intro e
      exact free_not_mem h0 h1 hf (e ▸ ha)
theorem mixAt_app {l : List Mk} {x : Mk} {t : Int} {i j : Nat} (hi : i < l.length) (hj : j < l.length) : mixAt (l ++ [x]) t i j = mixAt l t i j := by
  have h1 : (l ++ [x])[i]? = some l[i] := by rw [List.getElem?_append_left hi]; exact List.getElem?_eq_getElem hi
  have h2 : (l ++ [x])[j]? = some l[j] := by rw [List.getElem?_append_left hj]; exact List.getElem?_eq_getElem hj
  rw [mixAt_of h1 h2, mixAt_of (List.getElem?_eq_getElem hi) (List.getElem?_eq_getElem hj)]
theorem mist_snoc {l : List Mk} {t los : Int} {x : Mk} (hf : freeM l t los x = true) : mistL (l ++ [x]) t los = mistL l t los := by
  unfold mistL
  rw [show (l ++ [x]).length = l.length + 1 by simp, mistTo_succ]
  have hrow : ∀ i, i < l.length → mistRow (l ++ [x]) t los i (l.length + 1) = mistRow l t los i l.length := by
    intro i hi
    rw [mistRow_succ _ _ _ hi]
    have hx : mixAt (l ++ [x]) t i l.length = mixedS l[i] x t := by
      refine mixAt_of ?_ ?_
      · rw [List.getElem?_append_left hi]; exact List.getElem?_eq_getElem hi
      · rw [List.getElem?_append_right (Nat.le_refl _)]; simp
    have hno : ¬ mixedS l[i] x t ≤ los := by
      unfold freeM at hf
      have := List.all_eq_true.1 hf l[i] (List.getElem_mem hi)
      rw [mixed_comm]
      simpa using this
    rw [if_neg (by rw [hx]; exact hno), List.append_nil]
    unfold mistRow
    congr 1
    refine List.filter_congr fun j hj => ?_
    rw [mixAt_app hi (by simpa using hj)]
  have hlast : mistRow (l ++ [x]) t los l.length (l ++ [x]).length = [] := by
    rw [show (l ++ [x]).length = l.length + 1 by simp]
    exact mistRow_start _ _ _ _
  rw [hlast, List.append_nil]
  unfold mistTo
  rw [List.flatMap_def, List.flatMap_def]
  congr 1
  refine List.map_congr_left fun i hi => ?_
  rw [show (l ++ [x]).length = l.length + 1 by simp]
  exact hrow i (by simpa using hi)
end Go.Proofs.Ytahlicinchehhaa
