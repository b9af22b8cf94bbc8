/- TopCounted 1: Base. -/
import Derived.Laws.BitsLemmas
import Derived.Laws.BitsAllLaws
import Derived.Test.YtgnjknihgjdedaaProg
import Derived.Test.YtgnjknihgjdedaaChecked
import Derived.WalkKit
import Derived.ProofKit
import Derived.OpenShut
import Derived.OneCell
import Derived.WalkSpells
import Derived.WalkLawsBesides
import Derived.Deep.AppendLies
import Derived.Deep.Draws
import Derived.Deep.LoopGhost
import Derived.Deep.DeepCutAuto
import Derived.Deep.Light
import Derived.Deep.RegionWith
import Derived.Deep.QuietTactic
import Derived.BigQuiet
import Derived.Lib.Hide
import Derived.Lib.QuietBelow
import Derived.IntWalk
import Derived.Outline
namespace Go.Proofs.Ytgnjknihgjdedaa
set_option linter.unusedVariables false
set_option linter.unusedSimpArgs false

structure Mk where
  n : Int
  b : Int
  p : Int
  deriving DecidableEq
structure Sg where
  n : Int
  l : Bool
  r : Bool
  b : Int
  p : Int
  deriving DecidableEq

def btw (n lo hi : Int) : Bool := decide (lo ≤ n) && decide (n ≤ hi)
theorem btw_iff {n lo hi : Int} : btw n lo hi = true ↔ lo ≤ n ∧ n ≤ hi := by simp [btw]
def bit (n : Int) (i : Nat) : Bool := n.toNat.testBit i
def tornB (l r : Bool) (i : Nat) : Bool := (decide (i < 4) && l) || (decide (4 ≤ i) && r)
def cnt (p : Nat → Bool) : Nat := (List.range 8).countP p
def earMask (l r : Bool) : Nat := (if l then 0 else 15) + (if r then 0 else 240)
def onI (n : Int) (l r : Bool) : Int := ((n.toNat &&& earMask l r : Nat) : Int)
def butI (n m : Int) : Int := ((n.toNat &&& (255 - m.toNat) : Nat) : Int)
def popI (n : Int) : Nat := cnt (bit n)

theorem tb_high {n i : Nat} (h : n < 256) (hi : 8 ≤ i) : n.testBit i = false :=
  Nat.testBit_lt_two_pow (Nat.lt_of_lt_of_le h (Nat.pow_le_pow_right (n := 2) (by decide) hi))
theorem mask_bit (l r : Bool) (i : Nat) (hi : i < 8) : (earMask l r).testBit i = !tornB l r i := by
  have : ∀ l r : Bool, ∀ i : Fin 8, (earMask l r).testBit i.1 = !tornB l r i.1 := by decide
  exact this l r ⟨i, hi⟩
theorem onI_lo (n : Int) (l r : Bool) : 0 ≤ onI n l r := by unfold onI; omega
theorem onI_hi (n : Int) (l r : Bool) : onI n l r ≤ 255 := by
  have h : n.toNat &&& earMask l r ≤ earMask l r := Nat.and_le_right
  have h2 : ∀ l r : Bool, earMask l r ≤ 255 := by decide
  have h3 := h2 l r
  unfold onI; omega
theorem butI_lo (n m : Int) : 0 ≤ butI n m := by unfold butI; omega
theorem butI_hi (n m : Int) : butI n m ≤ 255 := by
  have h : n.toNat &&& (255 - m.toNat) ≤ 255 - m.toNat := Nat.and_le_right
  unfold butI; omega
theorem bit_on (n : Int) (l r : Bool) (i : Nat) (hi : i < 8) : bit (onI n l r) i = (bit n i && !tornB l r i) := by
  unfold bit onI; rw [Int.toNat_natCast, Nat.testBit_and, mask_bit l r i hi]
theorem bit_but (n m : Int) (hm : m ≤ 255) (i : Nat) (hi : i < 8) : bit (butI n m) i = (bit n i && !bit m i) := by
  unfold bit butI
  rw [Int.toNat_natCast, Nat.testBit_and]
  have h : 255 - m.toNat = 2 ^ 8 - (m.toNat + 1) := by omega
  rw [h, Nat.testBit_two_pow_sub_succ (by omega)]
  simp [hi]
theorem bits_ext {n m : Int} (hn : 0 ≤ n) (hn' : n ≤ 255) (hm : 0 ≤ m) (hm' : m ≤ 255) (h : ∀ i, i < 8 → bit n i = bit m i) : n = m := by
  have : n.toNat = m.toNat := by
    apply Nat.eq_of_testBit_eq
    intro i
    by_cases hi : i < 8
    · exact h i hi
    · rw [tb_high (by omega) (by omega), tb_high (by omega) (by omega)]
  omega
def wb (s i : Nat) : Bool := s.testBit i
theorem nat_mask_low {n m : Nat} (hn : n < 256) (hm : m < 256) : n &&& (18446744073709551615 - m) = n &&& (255 - m) := by
  apply Nat.eq_of_testBit_eq
  intro i
  have h1 : 18446744073709551615 - m = 2 ^ 64 - (m + 1) := by omega
  have h2 : 255 - m = 2 ^ 8 - (m + 1) := by omega
  rw [Nat.testBit_and, Nat.testBit_and, h1, h2, Nat.testBit_two_pow_sub_succ (by omega), Nat.testBit_two_pow_sub_succ (by omega)]
  by_cases hi : i < 8
  · simp [hi, show i < 64 by omega]
  · rw [tb_high hn (by omega)]; simp
theorem bits_andNot (a b : Int) (ha : 0 ≤ a) (ha' : a ≤ 255) (hb : 0 ≤ b) (hb' : b ≤ 255) : bits .andNot .i64 a b = butI a b := by
  obtain ⟨x, rfl⟩ := Int.eq_ofNat_of_zero_le ha
  obtain ⟨y, rfl⟩ := Int.eq_ofNat_of_zero_le hb
  show IntKind.i64.wrap ((BitVec.ofInt 64 (x : Int) &&& ~~~ BitVec.ofInt 64 (y : Int)).toNat : Int) = _
  have h1 : (BitVec.ofInt 64 (x : Int)).toNat = x := ofInt_u64 x (by omega)
  have h2 : (BitVec.ofInt 64 (y : Int)).toNat = y := ofInt_u64 y (by omega)
  rw [BitVec.toNat_and, BitVec.toNat_not, h1, h2, IntKind.wrap_i64]
  have h3 : (2 ^ 64 - 1 - y) = 18446744073709551615 - y := by omega
  rw [h3, nat_mask_low (by omega) (by omega)]
  have h4 : x &&& (255 - y) ≤ x := Nat.and_le_left
  unfold butI
  simp only [Int.toNat_natCast]
  omega
theorem onI_ff (n : Int) (h0 : 0 ≤ n) (h : n ≤ 255) : onI n false false = n :=
  bits_ext (onI_lo _ _ _) (onI_hi _ _ _) h0 h fun i hi => by rw [bit_on _ _ _ _ hi]; simp [tornB]
theorem onI_tf (n : Int) (h0 : 0 ≤ n) (h : n ≤ 255) : onI n true false = butI n 15 :=
  bits_ext (onI_lo _ _ _) (onI_hi _ _ _) (butI_lo _ _) (butI_hi _ _) fun i hi => by
    rw [bit_on _ _ _ _ hi, bit_but _ _ (by omega) _ hi]
    have : ∀ i : Fin 8, tornB true false i.1 = bit 15 i.1 := by decide
    rw [this ⟨i, hi⟩]
theorem onI_ft (n : Int) (h0 : 0 ≤ n) (h : n ≤ 255) : onI n false true = butI n 240 :=
  bits_ext (onI_lo _ _ _) (onI_hi _ _ _) (butI_lo _ _) (butI_hi _ _) fun i hi => by
    rw [bit_on _ _ _ _ hi, bit_but _ _ (by omega) _ hi]
    have : ∀ i : Fin 8, tornB false true i.1 = bit 240 i.1 := by decide
    rw [this ⟨i, hi⟩]
theorem onI_tt (n : Int) (h0 : 0 ≤ n) (h : n ≤ 255) : onI n true true = butI (butI n 15) 240 :=
  bits_ext (onI_lo _ _ _) (onI_hi _ _ _) (butI_lo _ _) (butI_hi _ _) fun i hi => by
    rw [bit_on _ _ _ _ hi, bit_but _ _ (by omega) _ hi, bit_but _ _ (by omega) _ hi]
    have : ∀ i : Fin 8, ∀ x : Bool, (x && !tornB true true i.1) = (x && !bit 15 i.1 && !bit 240 i.1) := by decide
    exact this ⟨i, hi⟩ _

def mkOk (m : Mk) : Bool := btw m.n 0 255 && (btw m.b 0 9 && btw m.p 0 6)
def chk (l : List Mk) : Nat → Nat → Int
  | 0, _ => 0
  | j + 1, k => match l[k]? with
    | none => 0
    | some m => if mkOk m = false then 1 else if (l.take k).contains m then 4 else chk l j (k + 1)
def check (t : Int) (l : List Mk) : Int := if btw t 0 2 = false then 1 else if 5 < l.length then 6 else chk l l.length 0
def seen (s : Sg) (b p : Int) : Int :=
  if btw s.n 0 255 = false then 1 else if onI s.n s.l s.r ≠ s.n then 8
  else if s.b ≠ -1 ∧ btw s.b 0 b = false then 1 else if s.p ≠ -1 ∧ btw s.p 0 p = false then 1 else 0
def alikeBP (s : Sg) (m : Mk) : Bool := (decide (s.b = -1) || decide (s.b = m.b)) && (decide (s.p = -1) || decide (s.p = m.p))
def fits (s : Sg) (m : Mk) (t : Int) : Bool :=
  alikeBP s m &&
  decide (butI (onI m.n s.l s.r) s.n = 0) && decide ((popI (butI s.n (onI m.n s.l s.r)) : Int) ≤ t)
def mayTo (t : Int) (l : List Mk) (s : Sg) (k : Nat) : List Int := ((List.range k).filter fun i => (l[i]?).any fun m => fits s m t).map Int.ofNat
def mayL (t : Int) (l : List Mk) (s : Sg) : List Int := mayTo t l s l.length
theorem mayTo_succ {t : Int} {l : List Mk} {s : Sg} {k : Nat} {m : Mk} (hm : l[k]? = some m) : mayTo t l s (k + 1) = mayTo t l s k ++ if fits s m t then [(k : Int)] else [] := by
  unfold mayTo
  rw [List.range_succ, List.filter_append, List.map_append]
  congr 1
  by_cases h : fits s m t <;> simp [List.filter_cons, hm, h]
theorem mayTo_len (t : Int) (l : List Mk) (s : Sg) (k : Nat) : (mayTo t l s k).length ≤ k := by
  unfold mayTo
  rw [List.length_map]
  have := List.length_filter_le (fun i => (l[i]?).any fun m => fits s m t) (List.range k)
  simpa using this

def mayE (t : Int) (l : List Mk) (s : Sg) : Int := if check t l ≠ 0 then check t l else seen s 9 6
def mayR (t : Int) (l : List Mk) (s : Sg) : List Int := if mayE t l s = 0 then mayL t l s else []
theorem seen_ok {s : Sg} {b p : Int} (h : seen s b p = 0) : (0 ≤ s.n ∧ s.n ≤ 255) ∧ onI s.n s.l s.r = s.n ∧ (s.b = -1 ∨ 0 ≤ s.b ∧ s.b ≤ b) ∧ (s.p = -1 ∨ 0 ≤ s.p ∧ s.p ≤ p) := by
  unfold seen at h
  split at h
  · cases h
  · split at h
    · cases h
    · split at h
      · cases h
      · split at h
        · cases h
        · rename_i h1 h2 h3 h4
          rw [Bool.not_eq_false, btw_iff] at h1
          refine ⟨h1, Classical.not_not.1 h2, ?_, ?_⟩
          · by_cases hb : s.b = -1
            · exact .inl hb
            · right; rw [← btw_iff]; cases hc : btw s.b 0 b
              · exact absurd ⟨hb, hc⟩ h3
              · rfl
          · by_cases hb : s.p = -1
            · exact .inl hb
            · right; rw [← btw_iff]; cases hc : btw s.p 0 p
              · exact absurd ⟨hb, hc⟩ h4
              · rfl
theorem check_ok {t : Int} {l : List Mk} (h : check t l = 0) : 0 ≤ t ∧ t ≤ 2 ∧ l.length ≤ 5 ∧ chk l l.length 0 = 0 := by
  unfold check at h
  split at h
  · cases h
  · split at h
    · cases h
    · rename_i h1 h2
      rw [Bool.not_eq_false, btw_iff] at h1
      exact ⟨h1.1, h1.2, by omega, h⟩
theorem chk_ok {l : List Mk} : ∀ {j k : Nat}, k + j = l.length → chk l j k = 0 → ∀ i m, k ≤ i → l[i]? = some m → mkOk m = true ∧ (l.take i).contains m = false
  | 0, k, hk, _, i, m, hi, hm => by
    have := (List.getElem?_eq_some_iff.1 hm).1; omega
  | j + 1, k, hk, h, i, m, hi, hm => by
    have hlt : k < l.length := by omega
    unfold chk at h
    rw [List.getElem?_eq_getElem hlt] at h
    simp only at h
    split at h
    · cases h
    · split at h
      · cases h
      · rename_i h1 h2
        rcases Nat.lt_or_ge k i with hlt' | hge
        · exact chk_ok (by omega) h i m hlt' hm
        · obtain rfl : i = k := by omega
          rw [List.getElem?_eq_getElem hlt] at hm
          cases hm
          exact ⟨by simpa using h1, by simpa using h2⟩
theorem mkOk_iff {m : Mk} : mkOk m = true ↔ (0 ≤ m.n ∧ m.n ≤ 255) ∧ (0 ≤ m.b ∧ m.b ≤ 9) ∧ 0 ≤ m.p ∧ m.p ≤ 6 := by
  simp [mkOk, btw_iff, Bool.and_eq_true]
theorem check_marks {t : Int} {l : List Mk} (h : check t l = 0) : ∀ m ∈ l, (0 ≤ m.n ∧ m.n ≤ 255) ∧ (0 ≤ m.b ∧ m.b ≤ 9) ∧ 0 ≤ m.p ∧ m.p ≤ 6 := by
  intro m hm
  obtain ⟨i, hi⟩ := List.getElem?_of_mem hm
  exact mkOk_iff.1 (chk_ok (by omega) (check_ok h).2.2.2 i m (Nat.zero_le _) hi).1
end Go.Proofs.Ytgnjknihgjdedaa

namespace Go.Proofs.Ytgnjknihgjdedaa
open Go.RowKit
set_option linter.unusedVariables false
set_option linter.unusedSimpArgs false

theorem cell_lt {w : World} {a : Addr} {v : Value} (h : w.cell? a = some v) : a.block < w.heap.size := by
  unfold World.cell? at h
  rcases Nat.lt_or_ge a.block w.heap.size with h' | h'
  · exact h'
  · rw [Array.getElem?_eq_none h'] at h; cases h
theorem heap_lt {w : World} {b : Nat} {o : Obj} (h : w.heap[b]? = some o) : b < w.heap.size := (Array.getElem?_eq_some_iff.1 h).1

theorem bcell {w w' : World} {B : Nat} {a : Addr} {v : Value} (h : w.cell? a = some v) (hb : Below B w w') (hB : w.heap.size ≤ B) : w'.cell? a = some v :=
  (hb.cell (Nat.lt_of_lt_of_le (cell_lt h) hB)).trans h
theorem bheap {w w' : World} {B : Nat} {b : Nat} {o : Obj} (h : w.heap[b]? = some o) (hb : Below B w w') (hB : w.heap.size ≤ B) : w'.heap[b]? = some o :=
  (hb.block b (Nat.lt_of_lt_of_le (heap_lt h) hB)).trans h

def eInt (x : Int) : List Value := [.int .i64 x]
def eVal (x : Value) : List Value := [x]
def eMk (m : Mk) : List Value := [.int .i64 m.n, .int .i64 m.b, .int .i64 m.p]
def vMk (m : Mk) : Value := .agg #[.int .i64 m.n, .int .i64 m.b, .int .i64 m.p]
def vSg (s : Sg) : Value := .agg #[.int .i64 s.n, .bool s.l, .bool s.r, .int .i64 s.b, .int .i64 s.p]

def Sl {α : Type} (enc : α → List Value) (sz : Nat) (w : World) (A : Option Addr) (n : Nat) (l : List α) : Prop :=
  l.length = n ∧ (0 < n → ∃ b off, A = some ⟨b, off, none⟩ ∧ ∀ (i : Nat) x, l[i]? = some x → ∀ (j : Nat) u, (enc x)[j]? = some u → w.cell? ⟨b, off + i * sz + j, none⟩ = some u)
section
variable {α : Type} {enc : α → List Value} {sz : Nat} {w w' : World} {A : Option Addr} {n : Nat} {l : List α}
theorem Sl.len (h : Sl enc sz w A n l) : l.length = n := h.1
theorem Sl.nil_ : Sl enc sz w A 0 [] := ⟨rfl, fun h => absurd h (by omega)⟩
theorem Sl.keep (h : Sl enc sz w A n l) (hk : ∀ p u, w.cell? p = some u → w'.cell? p = some u) : Sl enc sz w' A n l :=
  ⟨h.1, fun hn => by
    obtain ⟨b, off, hA, hc⟩ := h.2 hn
    exact ⟨b, off, hA, fun i x hx j u hu => hk _ _ (hc i x hx j u hu)⟩⟩
theorem Sl.below {B : Nat} (h : Sl enc sz w A n l) (hb : Below B w w') (hB : w.heap.size ≤ B) : Sl enc sz w' A n l :=
  h.keep fun _ _ hc => bcell hc hb hB
theorem Sl.alloc (h : Sl enc sz w A n l) (o : Obj) : Sl enc sz (w.alloc o) A n l :=
  h.below ((Below.refl w.heap.size w).alloc (Nat.le_refl _) o) (Nat.le_refl _)
theorem Sl.drewN (h : Sl enc sz w A n l) (k : Nat) : Sl enc sz (w.drewN k) A n l := h
theorem Sl.at_ (h : Sl enc sz w A n l) {k : Nat} (hk : k < n) :
    ∃ b off x, A = some ⟨b, off, none⟩ ∧ l[k]? = some x ∧ ∀ (j : Nat) u, (enc x)[j]? = some u → w.cell? ⟨b, off + k * sz + j, none⟩ = some u := by
  obtain ⟨b, off, hA, hc⟩ := h.2 (by omega)
  have hm : l[k]? = some (l[k]'(by have := h.1; omega)) := List.getElem?_eq_getElem (by have := h.1; omega)
  exact ⟨b, off, _, hA, hm, hc k _ hm⟩
theorem Sl.of_own {base : Nat} {e : TypeId} {c : Nat} (henc : ∀ x ∈ l, (enc x).length = sz) (h : w.ownsRow base e sz (.slice A n c) n (l.flatMap enc)) (hl : l.length = n) : Sl enc sz w A n l := by
  refine ⟨hl, fun hn => ?_⟩
  obtain ⟨g, cap, hv, _, _⟩ := h.form hn
  have hA : A = some ⟨g, 0, none⟩ := by injection hv
  subst hA
  refine ⟨g, 0, rfl, fun i x hx j u hu => ?_⟩
  have hc := h.cells (g := g) rfl (i * sz + j) u ?_
  · rw [show (0 : Nat) + i * sz + j = i * sz + j by omega]
    simpa [Addr.add_lit] using hc
  · clear hn h hv hl
    induction l generalizing i with
    | nil => simp at hx
    | cons y r ih =>
      have hy := henc y (by simp)
      have hj : j < sz := by
        have h1 := henc x (List.mem_of_getElem? hx)
        have := (List.getElem?_eq_some_iff.1 hu).1
        omega
      rw [List.flatMap_cons]
      cases i with
      | zero =>
        simp at hx
        subst hx
        rw [List.getElem?_append_left (by rw [hy]; omega)]
        simpa using hu
      | succ i =>
        rw [List.getElem?_append_right (by rw [hy, Nat.succ_mul]; omega), hy]
        have := ih (fun z hz => henc z (by simp [hz])) i (by simpa using hx)
        rw [show (i + 1) * sz + j - sz = i * sz + j by rw [Nat.succ_mul]; omega]
        exact this
end
theorem lenInt (x : Int) : (eInt x).length = 1 := rfl
theorem lenVal (x : Value) : (eVal x).length = 1 := rfl
theorem lenMk (x : Mk) : (eMk x).length = 3 := rfl
abbrev Ints (w : World) (A : Option Addr) (n : Nat) (l : List Int) : Prop := Sl eInt 1 w A n l
abbrev Marks (w : World) (A : Option Addr) (n : Nat) (l : List Mk) : Prop := Sl eMk 3 w A n l
theorem Ints.get {w : World} {A : Option Addr} {n : Nat} {l : List Int} (h : Ints w A n l) {k : Nat} (hk : k < n) :
    ∃ b off x, A = some ⟨b, off, none⟩ ∧ b < w.heap.size ∧ l[k]? = some x ∧ w.cell? ⟨b, off + k, none⟩ = some (.int .i64 x) := by
  obtain ⟨b, off, x, hA, hx, hc⟩ := h.at_ hk
  have h0 := hc 0 _ rfl
  rw [Nat.mul_one, Nat.add_zero] at h0
  exact ⟨b, off, x, hA, cell_lt h0, hx, h0⟩
theorem Vals.get {w : World} {A : Option Addr} {n : Nat} {l : List Value} (h : Sl eVal 1 w A n l) {k : Nat} (hk : k < n) :
    ∃ b off x, A = some ⟨b, off, none⟩ ∧ b < w.heap.size ∧ l[k]? = some x ∧ w.cell? ⟨b, off + k, none⟩ = some x := by
  obtain ⟨b, off, x, hA, hx, hc⟩ := h.at_ hk
  have h0 := hc 0 _ rfl
  rw [Nat.mul_one, Nat.add_zero] at h0
  exact ⟨b, off, x, hA, cell_lt h0, hx, h0⟩
theorem Marks.get {w : World} {A : Option Addr} {n : Nat} {l : List Mk} (h : Marks w A n l) {k : Nat} (hk : k < n) :
    ∃ b off m, A = some ⟨b, off, none⟩ ∧ b < w.heap.size ∧ l[k]? = some m ∧ w.cell? ⟨b, off + k * 3, none⟩ = some (.int .i64 m.n) ∧
      w.cell? ⟨b, off + k * 3 + 1, none⟩ = some (.int .i64 m.b) ∧ w.cell? ⟨b, off + k * 3 + 2, none⟩ = some (.int .i64 m.p) := by
  obtain ⟨b, off, x, hA, hx, hc⟩ := h.at_ hk
  have h0 := hc 0 _ rfl
  exact ⟨b, off, x, hA, cell_lt h0, hx, h0, hc 1 _ rfl, hc 2 _ rfl⟩
theorem bc {B : Nat} {W w1 : World} (hb : Below B W w1) : (∀ b o, b < B → w1.cell? ⟨b, o, none⟩ = W.cell? ⟨b, o, none⟩) ∧ (∀ b o, b < B → w1.frozen? ⟨b, o, none⟩ = W.frozen? ⟨b, o, none⟩) :=
  ⟨fun b o h => hb.cell (p := ⟨b, o, none⟩) h, fun b o h => hb.frozen (p := ⟨b, o, none⟩) h⟩
theorem blk1 {w : World} {b : Nat} {t : TypeId} {v0 : Value} (h : w.heap[b]? = some (.cells #[v0] t (0, 0))) : w.cell? ⟨b, 0, none⟩ = some v0 := by simp [World.cell?, h]
theorem blk2 {w : World} {b : Nat} {t : TypeId} {v0 v1 : Value} (h : w.heap[b]? = some (.cells #[v0, v1] t (0, 0))) : w.cell? ⟨b, 0, none⟩ = some v0 ∧ w.cell? ⟨b, 1, none⟩ = some v1 := by simp [World.cell?, h]
theorem blk3 {w : World} {b : Nat} {t : TypeId} {v0 v1 v2 : Value} (h : w.heap[b]? = some (.cells #[v0, v1, v2] t (0, 0))) :
    w.cell? ⟨b, 0, none⟩ = some v0 ∧ w.cell? ⟨b, 1, none⟩ = some v1 ∧ w.cell? ⟨b, 2, none⟩ = some v2 := by simp [World.cell?, h]
theorem blk5 {w : World} {b : Nat} {t : TypeId} {v0 v1 v2 v3 v4 : Value} (h : w.heap[b]? = some (.cells #[v0, v1, v2, v3, v4] t (0, 0))) :
    w.cell? ⟨b, 0, none⟩ = some v0 ∧ w.cell? ⟨b, 1, none⟩ = some v1 ∧ w.cell? ⟨b, 2, none⟩ = some v2 ∧ w.cell? ⟨b, 3, none⟩ = some v3 ∧ w.cell? ⟨b, 4, none⟩ = some v4 := by simp [World.cell?, h]
theorem alloc_at {w : World} {o : Obj} {n : Nat} (h : n = w.heap.size) : (w.alloc o).heap[n]? = some o := by subst h; exact heap_alloc_new w o
theorem hblk_alloc {w : World} {b : Nat} {o : Obj} (h : w.heap[b]? = some o) (o' : Obj) : (w.alloc o').heap[b]? = some o := (Below.heap_alloc w o' b (heap_lt h)).trans h
theorem quiet_left {P : Program} {f : FuncId} {args : Array Value} {w : World} {n : Nat} {v : Value}
    (h : Calls P f args (w.drewN n) fun e w' => e = .returned v ∧ w.drewN n = w') : Calls P f args (w.drewN n) fun e w'' => e = .returned v ∧ ∃ m, w'' = w.drewN m :=
  h.mono fun _ _ ⟨he, hm⟩ => ⟨he, n, hm.symm⟩
theorem below_drewN {B : Nat} {a w : World} (h : Below B a w) (n : Nat) : Below B a (w.drewN n) := ⟨h.os, h.tape, h.output, h.size, h.block⟩
theorem regrown_left {P : Program} {f : FuncId} {args : Array Value} {w : World} {d : Nat} {os : Array Obj} {v : Value}
    (h : Calls P f args (Sort.grow (redrawn w d) os) fun e w' => e = .returned v ∧ Sort.grow (redrawn w d) os = w') : Calls P f args (Sort.grow (redrawn w d) os) fun e w'' => e = .returned v ∧ ∃ p : Regrown, w'' = Sort.grow (redrawn w p.d) p.os :=
  h.mono fun _ _ ⟨he, hm⟩ => ⟨he, ⟨d, os⟩, hm.symm⟩
theorem ret_int {k : IntKind} {a b : Int} (h : a = b) : Ending.returned (.int k a) = .returned (.int k b) := by rw [h]
theorem ret_bool {a b : Bool} (h : a = b) : Ending.returned (.bool a) = .returned (.bool b) := by rw [h]
end Go.Proofs.Ytgnjknihgjdedaa

namespace Go.Proofs.Ytgnjknihgjdedaa
open Go.RowKit
set_option linter.unusedVariables false
set_option linter.unusedSimpArgs false

def Own {α : Type} (enc : α → List Value) (e : TypeId) (sz : Nat) (w : World) (base : Nat) (v : Value) (l : List α) : Prop :=
  w.ownsRow base e sz v l.length (l.flatMap enc)
section
variable {α : Type} {enc : α → List Value} {e : TypeId} {sz : Nat} {w w' : World} {base : Nat} {v : Value} {l : List α}
theorem Own.nil_ : Own enc e sz w base (.slice none 0 0) [] := World.ownsRow_nil _ _ _ _
theorem Own.kept {row : Option Nat} (h : Own enc e sz w base v l) (hg : w.grownBy w' row) (hne : v.ownBlock = none ∨ v.ownBlock ≠ row) : Own enc e sz w' base v l := World.ownsRow.kept h hg hne
theorem Own.below {B : Nat} (h : Own enc e sz w base v l) (hb : Below B w w') (hB : w.heap.size ≤ B) : Own enc e sz w' base v l :=
  World.ownsRow.kept (row := none) h ⟨hb.os, hb.tape, hb.output, hb.size, fun k hk _ => hb.block k (Nat.lt_of_lt_of_le hk hB)⟩ (by cases v.ownBlock <;> simp)
theorem Own.alloc (h : Own enc e sz w base v l) (o : Obj) : Own enc e sz (w.alloc o) base v l := World.ownsRow.alloc h o
theorem Own.mono {base' : Nat} (h : Own enc e sz w base v l) (hb : base' ≤ base) : Own enc e sz w base' v l := by
  refine ⟨h.1, ?_⟩
  rcases h.2 with h2 | ⟨g, cap, cur, hv, hg, r⟩
  · exact .inl h2
  · exact .inr ⟨g, cap, cur, hv, Nat.le_trans hb hg, r⟩
theorem Own.form (h : Own enc e sz w base v l) (henc : ∀ x, (enc x).length = sz) : ∃ A c, v = .slice A l.length c ∧ Sl enc sz w A l.length l ∧ l.length ≤ c ∧ c ≤ maxLen := by
  rcases h.2 with ⟨hv, h0⟩ | ⟨g, cap, cur, hv, hg, hh, hnc, hcm, r⟩
  · have hl : l = [] := List.eq_nil_of_length_eq_zero h0
    subst hl
    exact ⟨none, 0, hv, Sl.nil_, Nat.le_refl _, Nat.zero_le _⟩
  · subst hv
    exact ⟨_, cap, rfl, Sl.of_own (fun x _ => henc x) h rfl, hnc, hcm⟩
theorem Own.lt (h : Own enc e sz w base v l) : ∀ k, v.ownBlock = some k → base ≤ k ∧ k < w.heap.size := World.ownsRow.lt h
end

theorem Own.lit {α : Type} {enc : α → List Value} {e : TypeId} {sz : Nat} (w : World) (base : Nat) (cs : Array Value) (l : List α) (hcs : cs.toList = l.flatMap enc) (henc : ∀ x, (enc x).length = sz) (hb : base ≤ w.heap.size) (hm : l.length ≤ maxLen) :
    Own enc e sz (w.alloc (.cells cs e)) base (.slice (some ⟨w.heap.size, 0, none⟩) l.length l.length) l := by
  have hlen : (l.flatMap enc).length = l.length * sz := by
    clear hcs hm
    induction l with
    | nil => simp
    | cons x r ih => rw [List.flatMap_cons, List.length_append, henc, ih, List.length_cons, Nat.succ_mul]; omega
  have h := World.ownsRow_lit (base := base) (e := e) (size := sz) w cs l.length hb hm (by rw [← Array.length_toList, hcs, hlen])
  unfold Own
  rw [← hcs]
  exact h
theorem Sl.lit {α : Type} {enc : α → List Value} {sz : Nat} (w : World) (e : TypeId) (cs : Array Value) (l : List α) (hcs : cs.toList = l.flatMap enc) (henc : ∀ x, (enc x).length = sz) (hm : l.length ≤ maxLen) :
    Sl enc sz (w.alloc (.cells cs e)) (some ⟨w.heap.size, 0, none⟩) l.length l :=
  Sl.of_own (fun x _ => henc x) (Own.lit (e := e) w 0 cs l hcs henc (Nat.zero_le _) hm) rfl
theorem ints1 (w : World) (e : TypeId) (x : Int) : Ints (w.alloc (.cells #[.int .i64 x] e)) (some ⟨w.heap.size, 0, none⟩) 1 [x] := Sl.lit w e _ [x] rfl lenInt (by simp [maxLen])
theorem ints2 (w : World) (e : TypeId) (x y : Int) : Ints (w.alloc (.cells #[.int .i64 x, .int .i64 y] e)) (some ⟨w.heap.size, 0, none⟩) 2 [x, y] := Sl.lit w e _ [x, y] rfl lenInt (by simp [maxLen])
theorem ints3 (w : World) (e : TypeId) (x y z : Int) : Ints (w.alloc (.cells #[.int .i64 x, .int .i64 y, .int .i64 z] e)) (some ⟨w.heap.size, 0, none⟩) 3 [x, y, z] := Sl.lit w e _ [x, y, z] rfl lenInt (by simp [maxLen])

structure ElemOk (P : Program) (t e : TypeId) (size bytes : Nat) : Prop where
  sl : P.underlying t = some (.slice e)
  info : ∃ i z, P.info? e = some i ∧ i.zero = some z ∧ i.size = size ∧ i.bytes = bytes ∧ z.cells.size = size
  pos : 0 < size
theorem ElemOk.mk' {P : Program} {t e : TypeId} {size bytes : Nat} {z : Value} (h1 : P.underlying t = some (.slice e)) (h2 : (P.info? e).map (fun i => (i.zero, i.size, i.bytes)) = some (some z, size, bytes)) (h3 : z.cells.size = size) (h4 : 0 < size) : ElemOk P t e size bytes := by
  obtain ⟨i, hi, a, b, c⟩ := info_parts h2
  exact ⟨h1, ⟨i, z, hi, a, b, c, h3⟩, h4⟩

theorem wp_app {α : Type} {enc : α → List Value} {P : Program} {t e : TypeId} {sz bytes : Nat} (E : ElemOk P t e sz bytes) {ops : Array Oper} {rest : List Oper} {o : Oper} {a : Act} {Q : Exit → Act → World → Prop} {w : World}
    (hgd : o.guard = none) (s x : Operand) (ho : o.op = .call { callee := .builtin .append, args := #[s, x], argTypes := #[t, t] })
    (base : Nat) (v : Value) (l : List α) (y : α) (cs : Array Value) (hs : a.eval s = v) (hx : a.eval x = .slice (some ⟨w.heap.size, 0, none⟩) 1 1) (hcs : cs.toList = enc y)
    (hlen : (enc y).length = sz) (h1 : ∀ u ∈ enc y, u.oneCell' = true)
    (hown : Own enc e sz w base v l) (hll : l.length < 4294967296) (hby : bytes ≤ 4096) (hbase : base ≤ w.heap.size)
    (h : ∀ v' w', Own enc e sz w' base v' (l ++ [y]) → Below base w w' → (∀ k, k < w.heap.size → v.ownBlock ≠ some k → w'.heap[k]? = w.heap[k]?) → w.heap.size ≤ w'.heap.size → wpList P ops Q rest (a.put o.dst v') w') :
    wpList P ops Q (o :: rest) a (w.alloc (.cells cs e)) := by
  obtain ⟨i, z, hi, hz, hsize, hbytes, hzs⟩ := E.info
  refine wpList_append_own _ hgd s x t ho base e i z sz bytes E.sl hi hz hsize hbytes hzs E.pos v l.length (l.flatMap enc) hs (World.ownsRow.alloc hown _) ⟨w.heap.size, 0, none⟩ 1 1 (enc y) hx (by omega) ?_ h1 (by unfold maxLen; omega) ?_ (by simp; omega) ?_
  · intro j u hu
    rw [Addr.add_lit, Nat.zero_add, World.cell?_alloc_at _ _ _ _ rfl, ← Array.getElem?_toList, hcs]
    exact hu
  · calc (l.length + 1) * bytes ≤ 4294967296 * 4096 := Nat.mul_le_mul (by omega) hby
      _ ≤ 140737488355328 := by omega
  · intro v' w' hown' hg _
    have hg0 : w.grownBy w' v.ownBlock := ⟨hg.os, hg.tape, hg.output, Nat.le_trans (by simp) hg.size, fun k hk hne => (hg.block k (by simp; omega) hne).trans (Below.heap_alloc _ _ _ hk)⟩
    refine h v' w' ?_ ?_ (fun k hk hne => hg0.block k hk (fun e => hne e.symm)) hg0.size
    · have : (l ++ [y]).flatMap enc = l.flatMap enc ++ enc y := by simp
      unfold Own
      rw [this, List.length_append]
      exact hown'
    · exact (Below.refl _ _).grown hg0 hbase (fun k hk => (Own.lt hown k hk).1)

theorem okInt : ElemOk Try.prog 22 3 1 8 := ElemOk.mk' (z := .int .i64 0) Try.underlying22 (by kernel_rfl) rfl (by decide)
theorem okMark : ElemOk Try.prog 39 44 3 24 := ElemOk.mk' (z := .agg #[.int .i64 0, .int .i64 0, .int .i64 0]) Try.underlying39 (by kernel_rfl) rfl (by decide)
abbrev OwnI (w : World) (base : Nat) (v : Value) (l : List Int) : Prop := Own eInt 3 1 w base v l
abbrev OwnM (w : World) (base : Nat) (v : Value) (l : List Mk) : Prop := Own eMk 44 3 w base v l
theorem one_eInt (x : Int) : ∀ u ∈ eInt x, u.oneCell' = true := by intro u hu; simp [eInt] at hu; subst hu; rfl
theorem one_eMk (x : Mk) : ∀ u ∈ eMk x, u.oneCell' = true := by
  intro u hu; simp [eMk] at hu; rcases hu with rfl | rfl | rfl <;> rfl
end Go.Proofs.Ytgnjknihgjdedaa

namespace Go.Proofs.Ytgnjknihgjdedaa
open Go.RowKit
set_option linter.unusedVariables false

theorem bal {B : Nat} {w w' : World} (h : Below B w w') (hB : B ≤ w.heap.size) (o : Obj) : Below B w (w'.alloc o) := h.alloc (Nat.le_trans hB h.size) o
theorem bal0 (w : World) (o : Obj) : Below w.heap.size w (w.alloc o) := (Below.refl _ _).alloc (Nat.le_refl _) o
theorem bdraw {B : Nat} {w w' : World} (h : Below B w w') : Below B w w'.drew := below_drewN h 1
theorem blk4 {w : World} {b : Nat} {t : TypeId} {v0 v1 v2 v3 : Value} (h : w.heap[b]? = some (.cells #[v0, v1, v2, v3] t (0, 0))) :
    w.cell? ⟨b, 0, none⟩ = some v0 ∧ w.cell? ⟨b, 1, none⟩ = some v1 ∧ w.cell? ⟨b, 2, none⟩ = some v2 ∧ w.cell? ⟨b, 3, none⟩ = some v3 := by simp [World.cell?, h]
theorem frz {w : World} {b : Nat} {t : TypeId} {cs : Array Value} (h : w.heap[b]? = some (.cells cs t (0, 0))) (i : Nat) : w.frozen? ⟨b, i, none⟩ = false := by simp [World.frozen?, h]
theorem set3_0 {W : World} {g : Nat} {t : TypeId} {a b c z : Value} (h : W.heap[g]? = some (.cells #[a, b, c] t (0, 0))) : (W.setCell ⟨g, 0, none⟩ z).heap[g]? = some (.cells #[z, b, c] t (0, 0)) := by
  simp [World.setCell, Array.getElem?_modify, h]
theorem Own.upon {α : Type} {enc : α → List Value} {e : TypeId} {sz : Nat} {w w' : World} {base : Nat} {v : Value} {l : List α} (h : Own enc e sz w base v l) (k : ∀ j, base ≤ j → w'.heap[j]? = w.heap[j]?) : Own enc e sz w' base v l := by
  refine ⟨h.1, ?_⟩
  rcases h.2 with h2 | ⟨g, cap, cur, hv, hg, hh, r⟩
  · exact .inl h2
  · exact .inr ⟨g, cap, cur, hv, hg, (k g hg).trans hh, r⟩
theorem Own.sl {α : Type} {enc : α → List Value} {e : TypeId} {sz : Nat} {w : World} {base : Nat} {A : Option Addr} {n c : Nat} {l : List α} (h : Own enc e sz w base (.slice A n c) l) (henc : ∀ x, (enc x).length = sz) : Sl enc sz w A l.length l ∧ l.length ≤ c ∧ c ≤ maxLen := by
  obtain ⟨A', c', hv, hs, h1, h2⟩ := h.form henc
  cases hv
  exact ⟨hs, h1, h2⟩
end Go.Proofs.Ytgnjknihgjdedaa
