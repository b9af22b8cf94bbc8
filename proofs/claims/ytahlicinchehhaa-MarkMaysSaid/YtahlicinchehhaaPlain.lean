/- Plain mathematics of marks and sights: what the functions of chapter 3 compute, said of numbers and lists alone. No program in sight. -/
import Derived.Laws.BitsLemmas
import Derived.Laws.BitsAllLaws
namespace Go.Proofs.Ytahlicinchehhaa
set_option linter.unusedVariables false
set_option linter.unusedSimpArgs false

/-- A mark: notches, brand, paint. -/
structure Mk where
  n : Int
  b : Int
  p : Int
  deriving DecidableEq
/-- A sight: notches, left ear torn, right ear torn, brand, paint. -/
structure Sg where
  n : Int
  l : Bool
  r : Bool
  b : Int
  p : Int
  deriving DecidableEq

def btw (n lo hi : Int) : Bool := decide (lo ≤ n) && decide (n ≤ hi)
theorem btw_iff {n lo hi : Int} : btw n lo hi = true ↔ lo ≤ n ∧ n ≤ hi := by simp [btw]
theorem btw_no {n lo hi : Int} : btw n lo hi = false ↔ ¬ (lo ≤ n ∧ n ≤ hi) := by
  rw [← Bool.not_eq_true, btw_iff]

def bit (n : Int) (i : Nat) : Bool := n.toNat.testBit i
def tornB (l r : Bool) (i : Nat) : Bool := (decide (i < 4) && l) || (decide (4 ≤ i) && r)
def cnt (p : Nat → Bool) : Nat := (List.range 8).countP p
theorem cnt_le (p : Nat → Bool) : cnt p ≤ 8 := by have := List.countP_le_length (p := p) (l := List.range 8); simpa [cnt] using this
theorem cnt_congr {p q : Nat → Bool} (h : ∀ i, i < 8 → p i = q i) : cnt p = cnt q :=
  List.countP_congr fun i hi => by rw [h i (by simpa using hi)]

/-- notches without those on torn ears; notches that are not among others; how many there are -/
def earMask (l r : Bool) : Nat := (if l then 0 else 15) + (if r then 0 else 240)
def onI (n : Int) (l r : Bool) : Int := ((n.toNat &&& earMask l r : Nat) : Int)
def butI (n m : Int) : Int := ((n.toNat &&& (255 - m.toNat) : Nat) : Int)
def orI (n m : Int) : Int := ((n.toNat ||| m.toNat : Nat) : Int)
def popI (n : Int) : Nat := cnt (bit n)

theorem tb_high {n i : Nat} (h : n < 256) (hi : 8 ≤ i) : n.testBit i = false :=
  Nat.testBit_lt_two_pow (Nat.lt_of_lt_of_le h (Nat.pow_le_pow_right (n := 2) (by decide) hi))
theorem mask_bit (l r : Bool) (i : Nat) (hi : i < 8) : (earMask l r).testBit i = !tornB l r i := by
  have : ∀ l r : Bool, ∀ i : Fin 8, (earMask l r).testBit i.1 = !tornB l r i.1 := by decide
  exact this l r ⟨i, hi⟩
theorem onI_lo (n : Int) (l r : Bool) : 0 ≤ onI n l r := by unfold onI; omega
theorem onI_hi (n : Int) (l r : Bool) : onI n l r ≤ 255 := by
  have h : n.toNat &&& earMask l r ≤ earMask l r := Nat.and_le_right
  have h2 : ∀ l r : Bool, earMask l r ≤ 255 := by decide
  have h3 := h2 l r
  unfold onI; omega
theorem butI_lo (n m : Int) : 0 ≤ butI n m := by unfold butI; omega
theorem butI_hi (n m : Int) : butI n m ≤ 255 := by
  have h : n.toNat &&& (255 - m.toNat) ≤ 255 - m.toNat := Nat.and_le_right
  unfold butI; omega
theorem orI_lo (n m : Int) : 0 ≤ orI n m := by unfold orI; omega
theorem orI_hi {n m : Int} (hn : n ≤ 255) (hm : m ≤ 255) : orI n m ≤ 255 := by
  have h : n.toNat ||| m.toNat < 2 ^ 8 := Nat.or_lt_two_pow (by omega) (by omega)
  unfold orI; omega
theorem bit_on (n : Int) (l r : Bool) (i : Nat) (hi : i < 8) : bit (onI n l r) i = (bit n i && !tornB l r i) := by
  unfold bit onI; rw [Int.toNat_natCast, Nat.testBit_and, mask_bit l r i hi]
theorem bit_but (n m : Int) (hm : m ≤ 255) (i : Nat) (hi : i < 8) : bit (butI n m) i = (bit n i && !bit m i) := by
  unfold bit butI
  rw [Int.toNat_natCast, Nat.testBit_and]
  have h : 255 - m.toNat = 2 ^ 8 - (m.toNat + 1) := by omega
  rw [h, Nat.testBit_two_pow_sub_succ (by omega)]
  simp [hi]
theorem bit_or (n m : Int) (i : Nat) : bit (orI n m) i = (bit n i || bit m i) := by
  unfold bit orI; rw [Int.toNat_natCast, Nat.testBit_or]
theorem bits_ext {n m : Int} (hn : 0 ≤ n) (hn' : n ≤ 255) (hm : 0 ≤ m) (hm' : m ≤ 255) (h : ∀ i, i < 8 → bit n i = bit m i) : n = m := by
  have : n.toNat = m.toNat := by
    apply Nat.eq_of_testBit_eq
    intro i
    by_cases hi : i < 8
    · exact h i hi
    · rw [tb_high (by omega) (by omega), tb_high (by omega) (by omega)]
  omega
theorem bit_zero (i : Nat) : bit 0 i = false := by simp [bit]
theorem eq_zero_iff {n : Int} (hn : 0 ≤ n) (hn' : n ≤ 255) : n = 0 ↔ ∀ i, i < 8 → bit n i = false := by
  refine ⟨fun h i _ => by rw [h, bit_zero], fun h => bits_ext hn hn' (by omega) (by omega) fun i hi => by rw [h i hi, bit_zero]⟩

/-! ### the sixteen losses, those of fewer first -/
def wb (s i : Nat) : Bool := s.testBit i
def wearOf (s : Nat) : Sg := { n := 0, l := wb s 0, r := wb s 1, b := if wb s 2 then -1 else 0, p := if wb s 3 then -1 else 0 }
def wornRow (m s : Nat) : List (Int × Sg) := ((List.range s).filter fun (x : Nat) => popI (x : Int) == m).map fun (x : Nat) => ((m : Int), wearOf x)
def wornTo (m s : Nat) : List (Int × Sg) := (List.range m).flatMap (fun k => wornRow k 16) ++ wornRow m s
def wornL : List (Int × Sg) := wornTo 5 0
theorem wornTo_next : ∀ m, m < 5 → wornTo m 16 = wornTo (m + 1) 0 := by decide +kernel
theorem wornTo_skip : ∀ m : Nat, m < 5 → ∀ s : Nat, s < 16 → popI (s : Int) ≠ m → wornTo m (s + 1) = wornTo m s := by decide +kernel
theorem wornTo_take : ∀ m : Nat, m < 5 → ∀ s : Nat, s < 16 → popI (s : Int) = m → wornTo m (s + 1) = wornTo m s ++ [((m : Int), wearOf s)] := by decide +kernel
theorem wornTo_len : ∀ m : Nat, m < 5 → ∀ s : Nat, s < 16 → popI (s : Int) = m → (wornTo m s).length < 16 := by decide +kernel
theorem wornTo_prefix : ∀ m, m < 5 → ∀ s, s < 17 → wornTo m s <+: wornL := by decide +kernel
theorem u64_bits : ∀ s : Nat, s < 16 → decide (0 < bits .and .u64 (s : Int) 1) = wb s 0 ∧ decide (0 < bits .and .u64 (s : Int) 2) = wb s 1 ∧ decide (0 < bits .and .u64 (s : Int) 4) = wb s 2 ∧ decide (0 < bits .and .u64 (s : Int) 8) = wb s 3 := by decide +kernel

/-- two marks are alike with such losses -/
def bpW (a b : Mk) (s : Sg) : Bool := (decide (s.b = -1) || decide (a.b = b.b)) && (decide (s.p = -1) || decide (a.p = b.p))
def alikeW (a b : Mk) (t : Int) (s : Sg) : Bool := bpW a b s &&
  decide ((popI (butI (onI a.n s.l s.r) (onI b.n s.l s.r)) : Int) ≤ t) && decide ((popI (butI (onI b.n s.l s.r) (onI a.n s.l s.r)) : Int) ≤ t)
def mixedS (a b : Mk) (t : Int) : Int := match wornL.find? (fun y => alikeW a b t y.2) with | some y => y.1 | none => 5
theorem mixedS_none {a b : Mk} {t : Int} (h : ∀ y ∈ wornL, alikeW a b t y.2 = false) : mixedS a b t = 5 := by
  unfold mixedS
  have : wornL.find? (fun y => alikeW a b t y.2) = none := List.find?_eq_none.2 fun y hy => by simp [h y hy]
  rw [this]
theorem mixedS_some {a b : Mk} {t : Int} {q : List (Int × Sg)} {y : Int × Sg} (hp : q ++ [y] <+: wornL) (hq : ∀ z ∈ q, alikeW a b t z.2 = false) (hy : alikeW a b t y.2 = true) : mixedS a b t = y.1 := by
  unfold mixedS
  obtain ⟨r, hr⟩ := hp
  have : wornL.find? (fun y => alikeW a b t y.2) = some y := by
    rw [← hr, List.append_assoc, List.find?_append, List.find?_eq_none.2 (fun z hz => by simp [hq z hz])]
    simp [hy]
  rw [this]

/-- a mark that can be mistaken for no mark of a list; all marks in their order; those that are so, of the first k -/
def freeM (l : List Mk) (t los : Int) (m : Mk) : Bool := l.all fun o => !decide (mixedS m o t ≤ los)
def mkIx (i : Nat) : Mk := ⟨(i / 70 : Nat), (i / 7 % 10 : Nat), (i % 7 : Nat)⟩
def freshTo (l : List Mk) (t los : Int) (k : Nat) : List Mk := ((List.range k).filter fun i => freeM l t los (mkIx i)).map mkIx
theorem freshTo_succ (l : List Mk) (t los : Int) (k : Nat) : freshTo l t los (k + 1) = freshTo l t los k ++ if freeM l t los (mkIx k) then [mkIx k] else [] := by
  unfold freshTo
  rw [List.range_succ, List.filter_append, List.map_append]
  congr 1
  by_cases h : freeM l t los (mkIx k) <;> simp [List.filter_cons, h]
theorem freshTo_len (l : List Mk) (t los : Int) (k : Nat) : (freshTo l t los k).length ≤ k := by
  unfold freshTo
  rw [List.length_map]
  have := List.length_filter_le (fun i => freeM l t los (mkIx i)) (List.range k)
  simpa using this
theorem mkIx_at {n b p : Nat} (hb : b < 10) (hp : p < 7) : mkIx (n * 70 + b * 7 + p) = ⟨n, b, p⟩ := by
  unfold mkIx
  rw [show (n * 70 + b * 7 + p) / 70 = n by omega, show (n * 70 + b * 7 + p) / 7 % 10 = b by omega, show (n * 70 + b * 7 + p) % 7 = p by omega]

/-! ### the machine's operations, on small numbers -/
theorem nat_mask_low {n m : Nat} (hn : n < 256) (hm : m < 256) : n &&& (18446744073709551615 - m) = n &&& (255 - m) := by
  apply Nat.eq_of_testBit_eq
  intro i
  have h1 : 18446744073709551615 - m = 2 ^ 64 - (m + 1) := by omega
  have h2 : 255 - m = 2 ^ 8 - (m + 1) := by omega
  rw [Nat.testBit_and, Nat.testBit_and, h1, h2, Nat.testBit_two_pow_sub_succ (by omega), Nat.testBit_two_pow_sub_succ (by omega)]
  by_cases hi : i < 8
  · simp [hi, show i < 64 by omega]
  · rw [tb_high hn (by omega)]; simp
theorem bits_andNot (a b : Int) (ha : 0 ≤ a) (ha' : a ≤ 255) (hb : 0 ≤ b) (hb' : b ≤ 255) : bits .andNot .i64 a b = butI a b := by
  obtain ⟨x, rfl⟩ := Int.eq_ofNat_of_zero_le ha
  obtain ⟨y, rfl⟩ := Int.eq_ofNat_of_zero_le hb
  show IntKind.i64.wrap ((BitVec.ofInt 64 (x : Int) &&& ~~~ BitVec.ofInt 64 (y : Int)).toNat : Int) = _
  have h1 : (BitVec.ofInt 64 (x : Int)).toNat = x := ofInt_u64 x (by omega)
  have h2 : (BitVec.ofInt 64 (y : Int)).toNat = y := ofInt_u64 y (by omega)
  rw [BitVec.toNat_and, BitVec.toNat_not, h1, h2, IntKind.wrap_i64]
  have h3 : (2 ^ 64 - 1 - y) = 18446744073709551615 - y := by omega
  rw [h3, nat_mask_low (by omega) (by omega)]
  have h4 : x &&& (255 - y) ≤ x := Nat.and_le_left
  unfold butI
  simp only [Int.toNat_natCast]
  omega
theorem bits_or (a b : Int) (ha : 0 ≤ a) (ha' : a ≤ 255) (hb : 0 ≤ b) (hb' : b ≤ 255) : bits .or .i64 a b = orI a b := by
  obtain ⟨x, rfl⟩ := Int.eq_ofNat_of_zero_le ha
  obtain ⟨y, rfl⟩ := Int.eq_ofNat_of_zero_le hb
  show IntKind.i64.wrap ((BitVec.ofInt 64 (x : Int) ||| BitVec.ofInt 64 (y : Int)).toNat : Int) = _
  have h1 : (BitVec.ofInt 64 (x : Int)).toNat = x := ofInt_u64 x (by omega)
  have h2 : (BitVec.ofInt 64 (y : Int)).toNat = y := ofInt_u64 y (by omega)
  rw [BitVec.toNat_or, h1, h2, IntKind.wrap_i64]
  have h4 : x ||| y < 2 ^ 8 := Nat.or_lt_two_pow (by omega) (by omega)
  unfold orI
  simp only [Int.toNat_natCast]
  omega
theorem onI_ff (n : Int) (h0 : 0 ≤ n) (h : n ≤ 255) : onI n false false = n :=
  bits_ext (onI_lo _ _ _) (onI_hi _ _ _) h0 h fun i hi => by rw [bit_on _ _ _ _ hi]; simp [tornB]
theorem onI_tf (n : Int) (h0 : 0 ≤ n) (h : n ≤ 255) : onI n true false = butI n 15 :=
  bits_ext (onI_lo _ _ _) (onI_hi _ _ _) (butI_lo _ _) (butI_hi _ _) fun i hi => by
    rw [bit_on _ _ _ _ hi, bit_but _ _ (by omega) _ hi]
    have : ∀ i : Fin 8, tornB true false i.1 = bit 15 i.1 := by decide
    rw [this ⟨i, hi⟩]
theorem onI_ft (n : Int) (h0 : 0 ≤ n) (h : n ≤ 255) : onI n false true = butI n 240 :=
  bits_ext (onI_lo _ _ _) (onI_hi _ _ _) (butI_lo _ _) (butI_hi _ _) fun i hi => by
    rw [bit_on _ _ _ _ hi, bit_but _ _ (by omega) _ hi]
    have : ∀ i : Fin 8, tornB false true i.1 = bit 240 i.1 := by decide
    rw [this ⟨i, hi⟩]
theorem onI_tt (n : Int) (h0 : 0 ≤ n) (h : n ≤ 255) : onI n true true = butI (butI n 15) 240 :=
  bits_ext (onI_lo _ _ _) (onI_hi _ _ _) (butI_lo _ _) (butI_hi _ _) fun i hi => by
    rw [bit_on _ _ _ _ hi, bit_but _ _ (by omega) _ hi, bit_but _ _ (by omega) _ hi]
    have : ∀ i : Fin 8, ∀ x : Bool, (x && !tornB true true i.1) = (x && !bit 15 i.1 && !bit 240 i.1) := by decide
    exact this ⟨i, hi⟩ _

/-! ### registers and sights -/
def mkOk (m : Mk) : Bool := btw m.n 0 255 && (btw m.b 0 9 && btw m.p 0 6)
/-- the marks from the k-th on, those before it being right -/
def chk (l : List Mk) : Nat → Nat → Int
  | 0, _ => 0
  | j + 1, k => match l[k]? with
    | none => 0
    | some m => if mkOk m = false then 1 else if (l.take k).contains m then 4 else chk l j (k + 1)
def check (t : Int) (l : List Mk) : Int := if btw t 0 2 = false then 1 else if 5 < l.length then 6 else chk l l.length 0
/-- the error of a sight whose brand and paint are at most some numbers -/
def seen (s : Sg) (b p : Int) : Int :=
  if btw s.n 0 255 = false then 1 else if onI s.n s.l s.r ≠ s.n then 8
  else if s.b ≠ -1 ∧ btw s.b 0 b = false then 1 else if s.p ≠ -1 ∧ btw s.p 0 p = false then 1 else 0
/-- the error of numbers that are to be owners' -/
def ownerE (L : List Int) (n : Nat) : Int := if L.all (fun x => btw x 0 ((n : Int) - 1)) then 0 else 3
def alikeBP (s : Sg) (m : Mk) : Bool := (decide (s.b = -1) || decide (s.b = m.b)) && (decide (s.p = -1) || decide (s.p = m.p))
def fits (s : Sg) (m : Mk) (t : Int) : Bool :=
  alikeBP s m &&
  decide (butI (onI m.n s.l s.r) s.n = 0) && decide ((popI (butI s.n (onI m.n s.l s.r)) : Int) ≤ t)
def mayTo (t : Int) (l : List Mk) (s : Sg) (k : Nat) : List Int := ((List.range k).filter fun i => (l[i]?).any fun m => fits s m t).map Int.ofNat
def mayL (t : Int) (l : List Mk) (s : Sg) : List Int := mayTo t l s l.length
theorem mayTo_succ {t : Int} {l : List Mk} {s : Sg} {k : Nat} {m : Mk} (hm : l[k]? = some m) : mayTo t l s (k + 1) = mayTo t l s k ++ if fits s m t then [(k : Int)] else [] := by
  unfold mayTo
  rw [List.range_succ, List.filter_append, List.map_append]
  congr 1
  by_cases h : fits s m t <;> simp [List.filter_cons, hm, h]
theorem mayTo_len (t : Int) (l : List Mk) (s : Sg) (k : Nat) : (mayTo t l s k).length ≤ k := by
  unfold mayTo
  rw [List.length_map]
  have := List.length_filter_le (fun i => (l[i]?).any fun m => fits s m t) (List.range k)
  simpa using this

def mayE (t : Int) (l : List Mk) (s : Sg) : Int := if check t l ≠ 0 then check t l else seen s 9 6
def mayR (t : Int) (l : List Mk) (s : Sg) : List Int := if mayE t l s = 0 then mayL t l s else []
def verE (t : Int) (l : List Mk) (s : Sg) (o : Int) : Int := if mayE t l s ≠ 0 then mayE t l s else ownerE [o] l.length
def verL (L : List Int) (o : Int) : Int := if L.contains o then (if L.length = 1 then 1 else 3) else 2
def verV (t : Int) (l : List Mk) (s : Sg) (o : Int) : Int := if verE t l s o ≠ 0 then 0 else verL (mayL t l s) o
theorem seen_ok {s : Sg} {b p : Int} (h : seen s b p = 0) : (0 ≤ s.n ∧ s.n ≤ 255) ∧ onI s.n s.l s.r = s.n ∧ (s.b = -1 ∨ 0 ≤ s.b ∧ s.b ≤ b) ∧ (s.p = -1 ∨ 0 ≤ s.p ∧ s.p ≤ p) := by
  unfold seen at h
  split at h
  · cases h
  · split at h
    · cases h
    · split at h
      · cases h
      · split at h
        · cases h
        · rename_i h1 h2 h3 h4
          rw [Bool.not_eq_false, btw_iff] at h1
          refine ⟨h1, Classical.not_not.1 h2, ?_, ?_⟩
          · by_cases hb : s.b = -1
            · exact .inl hb
            · right; rw [← btw_iff]; cases hc : btw s.b 0 b
              · exact absurd ⟨hb, hc⟩ h3
              · rfl
          · by_cases hb : s.p = -1
            · exact .inl hb
            · right; rw [← btw_iff]; cases hc : btw s.p 0 p
              · exact absurd ⟨hb, hc⟩ h4
              · rfl
theorem check_ok {t : Int} {l : List Mk} (h : check t l = 0) : 0 ≤ t ∧ t ≤ 2 ∧ l.length ≤ 5 ∧ chk l l.length 0 = 0 := by
  unfold check at h
  split at h
  · cases h
  · split at h
    · cases h
    · rename_i h1 h2
      rw [Bool.not_eq_false, btw_iff] at h1
      exact ⟨h1.1, h1.2, by omega, h⟩
theorem chk_ok {l : List Mk} : ∀ {j k : Nat}, k + j = l.length → chk l j k = 0 → ∀ i m, k ≤ i → l[i]? = some m → mkOk m = true ∧ (l.take i).contains m = false
  | 0, k, hk, _, i, m, hi, hm => by
    have := (List.getElem?_eq_some_iff.1 hm).1; omega
  | j + 1, k, hk, h, i, m, hi, hm => by
    have hlt : k < l.length := by omega
    unfold chk at h
    rw [List.getElem?_eq_getElem hlt] at h
    simp only at h
    split at h
    · cases h
    · split at h
      · cases h
      · rename_i h1 h2
        rcases Nat.lt_or_ge k i with hlt' | hge
        · exact chk_ok (by omega) h i m hlt' hm
        · obtain rfl : i = k := by omega
          rw [List.getElem?_eq_getElem hlt] at hm
          cases hm
          exact ⟨by simpa using h1, by simpa using h2⟩
theorem mkOk_iff {m : Mk} : mkOk m = true ↔ (0 ≤ m.n ∧ m.n ≤ 255) ∧ (0 ≤ m.b ∧ m.b ≤ 9) ∧ 0 ≤ m.p ∧ m.p ≤ 6 := by
  simp [mkOk, btw_iff, Bool.and_eq_true]
theorem check_marks {t : Int} {l : List Mk} (h : check t l = 0) : ∀ m ∈ l, (0 ≤ m.n ∧ m.n ≤ 255) ∧ (0 ≤ m.b ∧ m.b ≤ 9) ∧ 0 ≤ m.p ∧ m.p ≤ 6 := by
  intro m hm
  obtain ⟨i, hi⟩ := List.getElem?_of_mem hm
  exact mkOk_iff.1 (chk_ok (by omega) (check_ok h).2.2.2 i m (Nat.zero_le _) hi).1
theorem check_new {t : Int} {l : List Mk} (h : check t l = 0) {i k : Nat} {a b : Mk} (hi : l[i]? = some a) (hk : l[k]? = some b) (hlt : i < k) : a ≠ b := by
  have := (chk_ok (by omega) (check_ok h).2.2.2 k b (Nat.zero_le _) hk).2
  rw [List.contains_eq_mem, decide_eq_false_iff_not] at this
  exact fun e => this (e ▸ List.mem_of_getElem? (i := i) (by rw [List.getElem?_take, if_pos hlt]; exact hi))
end Go.Proofs.Ytahlicinchehhaa
