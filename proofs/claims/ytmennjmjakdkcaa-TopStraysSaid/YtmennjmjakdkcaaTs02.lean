/- TopStrays 2: HdL, HdV, HdX, Check, Show. -/
import Derived.Test.YtmennjmjakdkcaaTs01
namespace Go.Proofs.Ytmennjmjakdkcaa
set_option linter.unusedVariables false
set_option linter.unusedSimpArgs false

/-- a deed -/
structure De where
  kind : Int
  flock : Int
  owner : Int
  other : Int
  tof : Int
  many : Int
  err : Int
  s : Sg
  deriving DecidableEq

/-- heads: fifteen numbers, five for each of three flocks -/
def hget (h : List Int) (f o : Nat) : Int := h.getD (5 * f + o) 0
def hadd (h : List Int) (f o : Nat) (k : Int) : List Int := h.set (5 * f + o) (hget h f o + k)
/-- sheep moved into a flock, or out of it, if there are so many -/
def mvd (h : List Int) (f o : Nat) (k : Int) : Option (List Int) := if 0 ≤ hget h f o + k then some (hadd h f o k) else none
def hall (h : List Int) (f : Nat) : Int := hget h f 0 + hget h f 1 + hget h f 2 + hget h f 3 + hget h f 4
def howned (h : List Int) (o : Nat) : Int := hget h 0 o + hget h 1 o + hget h 2 o
/-- so many sheep lost, of the last j owners -/
def lostJ (n f : Nat) : Nat → List Int → Nat → List (List Int)
  | 0, h, m => if m = 0 then [h] else []
  | j + 1, h, m => if m = 0 then [h] else (List.range (m + 1)).flatMap fun (k : Nat) => match mvd h f (n - (j + 1)) (-(k : Int)) with
    | some x => lostJ n f j x (m - k)
    | none => []
def strayL (f g : Nat) (h : List Int) : List Int → List (List Int) := fun os => os.flatMap fun o => match mvd h f o.toNat (-1) with | some x => [hadd x g o.toNat 1] | none => []
def countB (d : De) (h : List Int) : Bool := btw (hall h d.flock.toNat) ((100 * d.many + 99 + d.err).tdiv (100 + d.err)) ((100 * d.many).tdiv (100 - d.err))
/-- what there can be after a deed; pass: whose the stray can be -/
def succ (t : Int) (l : List Mk) (pass : Int → Bool) (d : De) (h : List Int) : List (List Int) :=
  if d.kind = 1 then [hadd h d.flock.toNat d.owner.toNat d.many]
  else if d.kind = 2 then (match mvd h d.flock.toNat d.owner.toNat (-d.many) with | some x => [hadd x d.flock.toNat d.other.toNat d.many] | none => [])
  else if d.kind = 3 then (match mvd h d.flock.toNat d.owner.toNat (-d.many) with | some x => [x] | none => [])
  else if d.kind = 4 then lostJ l.length d.flock.toNat l.length h d.many.toNat
  else if d.kind = 5 then strayL d.flock.toNat d.tof.toNat h ((mayL t l d.s).filter pass)
  else if countB d h = true then [h] else []

/-- a list without repeats -/
def ddup : List (List Int) → List (List Int)
  | [] => []
  | x :: l => if x ∈ l then ddup l else x :: ddup l
theorem mem_ddup {x : List Int} : ∀ {l : List (List Int)}, x ∈ ddup l ↔ x ∈ l
  | [] => by simp [ddup]
  | y :: l => by
    have ih := mem_ddup (x := x) (l := l)
    unfold ddup
    split
    · rename_i hy
      rw [ih, List.mem_cons]
      exact ⟨.inr, fun h => h.elim (fun e => e ▸ hy) id⟩
    · rw [List.mem_cons, List.mem_cons, ih]
theorem nodup_ddup : ∀ l : List (List Int), (ddup l).Nodup
  | [] => by simp [ddup]
  | y :: l => by
    have ih := nodup_ddup l
    unfold ddup
    split
    · exact ih
    · rename_i hy
      exact List.nodup_cons.2 ⟨fun h => hy (mem_ddup.1 h), ih⟩
theorem perm_of_mem {l m : List (List Int)} (hl : l.Nodup) (hm : m.Nodup) (h : ∀ x, x ∈ l ↔ x ∈ m) : l.Perm m := by
  rw [List.perm_iff_count]
  intro a
  by_cases ha : a ∈ l
  · rw [hl.count, hm.count, if_pos ha, if_pos ((h a).1 ha)]
  · rw [List.count_eq_zero_of_not_mem ha, List.count_eq_zero_of_not_mem (fun h' => ha ((h a).2 h'))]

/-- the heads at first -/
def firstH (heads : List (List Int)) : List Int := (List.range 15).map fun i => (heads.getD (i / 5) []).getD (i % 5) 0
/-- whose the sheep can be that strays by a deed -/
def passB (deed owner : Int) (i : Nat) (o : Int) : Bool := !(decide ((i : Int) = deed) && decide (o ≠ owner))
/-- all ends after the first i deeds -/
def endsTo (t : Int) (l : List Mk) (heads : List (List Int)) (ds : List De) (deed owner : Int) : Nat → List (List Int)
  | 0 => [firstH heads]
  | i + 1 => ddup ((endsTo t l heads ds deed owner i).flatMap fun h => match ds[i]? with | some d => succ t l (passB deed owner i) d h | none => [])
def endsL (t : Int) (l : List Mk) (heads : List (List Int)) (ds : List De) (deed owner : Int) : List (List Int) := endsTo t l heads ds deed owner ds.length
theorem endsTo_nodup (t : Int) (l : List Mk) (heads : List (List Int)) (ds : List De) (deed owner : Int) : ∀ i, (endsTo t l heads ds deed owner i).Nodup
  | 0 => by simp [endsTo]
  | i + 1 => nodup_ddup _

/-- fifteen numbers from 0 to B -/
def HBd (B : Int) (h : List Int) : Prop := h.length = 15 ∧ ∀ x ∈ h, 0 ≤ x ∧ x ≤ B
theorem HBd.mono {B C : Int} {h : List Int} (hh : HBd B h) (hc : B ≤ C) : HBd C h := ⟨hh.1, fun x hx => by have := hh.2 x hx; omega⟩
theorem HBd.get {B : Int} {h : List Int} (hh : HBd B h) {f o : Nat} (hf : f < 3) (ho : o < 5) : 0 ≤ hget h f o ∧ hget h f o ≤ B := by
  unfold hget
  rw [List.getD_eq_getElem?_getD, List.getElem?_eq_getElem (by rw [hh.1]; omega), Option.getD_some]
  exact hh.2 _ (List.getElem_mem _)
theorem HBd.add {B C : Int} {h : List Int} (hh : HBd B h) {f o : Nat} {k : Int} (h0 : 0 ≤ hget h f o + k) (h1 : hget h f o + k ≤ C) (hc : B ≤ C) : HBd C (hadd h f o k) := by
  unfold hadd
  refine ⟨by rw [List.length_set]; exact hh.1, fun x hx => ?_⟩
  rcases List.mem_or_eq_of_mem_set hx with hx | rfl
  · have := hh.2 x hx; omega
  · exact ⟨h0, h1⟩
theorem hget_set {h : List Int} {f o f' o' : Nat} {v : Int} (hl : h.length = 15) (hf : f < 3) (ho : o < 5) (ho' : o' < 5) : (h.set (5 * f + o) v).getD (5 * f' + o') 0 = if f = f' ∧ o = o' then v else h.getD (5 * f' + o') 0 := by
  rw [List.getD_eq_getElem?_getD, List.getD_eq_getElem?_getD]
  by_cases e : f = f' ∧ o = o'
  · obtain ⟨rfl, rfl⟩ := e
    rw [if_pos ⟨rfl, rfl⟩, List.getElem?_set_self (by omega)]; rfl
  · rw [if_neg e, List.getElem?_set_ne (by omega)]
theorem hget_hadd {h : List Int} {f o f' o' : Nat} {k : Int} (hl : h.length = 15) (hf : f < 3) (ho : o < 5) (ho' : o' < 5) : hget (hadd h f o k) f' o' = if f = f' ∧ o = o' then hget h f o + k else hget h f' o' := hget_set hl hf ho ho'
theorem mvd_some {h x : List Int} {f o : Nat} {k : Int} (hm : mvd h f o k = some x) : 0 ≤ hget h f o + k ∧ x = hadd h f o k := by
  unfold mvd at hm
  split at hm
  · rename_i h0; injection hm with e; exact ⟨h0, e.symm⟩
  · cases hm
theorem lostJ_bd {B : Int} {n f : Nat} (hf : f < 3) (hn : n ≤ 5) : ∀ (j : Nat) (h : List Int) (m : Nat), j ≤ n → HBd B h → ∀ x ∈ lostJ n f j h m, HBd B x
  | 0, h, m, _, hh, x, hx => by
    unfold lostJ at hx
    split at hx
    · simp at hx; rw [hx]; exact hh
    · cases hx
  | j + 1, h, m, hj, hh, x, hx => by
    unfold lostJ at hx
    split at hx
    · simp at hx; rw [hx]; exact hh
    · obtain ⟨k, hk, hx⟩ := List.mem_flatMap.1 hx
      cases hm : mvd h f (n - (j + 1)) (-(k : Int)) with
      | none => rw [hm] at hx; cases hx
      | some y =>
        rw [hm] at hx
        obtain ⟨h0, rfl⟩ := mvd_some hm
        have hg := hh.get hf (show n - (j + 1) < 5 by omega)
        exact lostJ_bd hf hn j _ _ (by omega) (hh.add h0 (by omega) (Int.le_refl _)) x hx
/-- a deed whose numbers are those of owners, flocks and so on -/
structure DeIn (n nf : Nat) (d : De) : Prop where
  f : 0 ≤ d.flock ∧ d.flock < nf
  o : 0 ≤ d.owner ∧ d.owner < 5
  x : 0 ≤ d.other ∧ d.other < 5
  t : 0 ≤ d.tof ∧ d.tof < 3
  m : 0 ≤ d.many ∧ d.many ≤ 300
  s : d.kind ≠ 6 → d.many ≤ 20
  l : d.kind = 4 → d.many ≤ 3
  e : 0 ≤ d.err ∧ d.err ≤ 20
  k : 1 ≤ d.kind ∧ d.kind ≤ 6
  st : d.kind = 5 → seen d.s 9 6 = 0
theorem mayTo_lt {t : Int} {l : List Mk} {s : Sg} : ∀ o ∈ mayL t l s, 0 ≤ o ∧ o < l.length := by
  intro o ho
  unfold mayL mayTo at ho
  obtain ⟨i, hi, rfl⟩ := List.mem_map.1 ho
  have := List.mem_range.1 (List.mem_filter.1 hi).1
  simp; omega
theorem succ_bd {B : Int} {t : Int} {l : List Mk} {pass : Int → Bool} {d : De} {h : List Int} {nf : Nat} (hnf : nf ≤ 3) (hl : l.length ≤ 5) (hd : DeIn l.length nf d) (hh : HBd B h) (hB : 0 ≤ B) : ∀ x ∈ succ t l pass d h, HBd (B + 20) x := by
  intro x hx
  have hf := hd.f
  have ho := hd.o
  have hxo := hd.x
  have hm := hd.m
  have hs := hd.s
  have fl : d.flock.toNat < 3 := by omega
  unfold succ at hx
  split at hx
  · rename_i hk
    simp at hx
    subst hx
    have hg := hh.get fl (show d.owner.toNat < 5 by omega)
    have := hs (by omega)
    exact hh.add (by omega) (by omega) (by omega)
  split at hx
  · rename_i hk1 hk
    have h20 := hs (by omega)
    cases hmv : mvd h d.flock.toNat d.owner.toNat (-d.many) with
    | none => rw [hmv] at hx; cases hx
    | some y =>
      rw [hmv] at hx
      obtain ⟨h0, rfl⟩ := mvd_some hmv
      simp at hx
      subst hx
      have hg := hh.get fl (show d.owner.toNat < 5 by omega)
      have hy : HBd B (hadd h d.flock.toNat d.owner.toNat (-d.many)) := hh.add h0 (by omega) (Int.le_refl _)
      have hg2 := hy.get fl (show d.other.toNat < 5 by omega)
      exact hy.add (by omega) (by omega) (by omega)
  split at hx
  · have h20 := hs (by omega)
    cases hmv : mvd h d.flock.toNat d.owner.toNat (-d.many) with
    | none => rw [hmv] at hx; cases hx
    | some y =>
      rw [hmv] at hx
      obtain ⟨h0, rfl⟩ := mvd_some hmv
      simp at hx
      subst hx
      have hg := hh.get fl (show d.owner.toNat < 5 by omega)
      exact hh.add h0 (by omega) (by omega)
  split at hx
  · exact (lostJ_bd fl hl _ _ _ (Nat.le_refl _) hh x hx).mono (by omega)
  split at hx
  · unfold strayL at hx
    obtain ⟨o, ho', hx⟩ := List.mem_flatMap.1 hx
    have hol := mayTo_lt o (List.mem_filter.1 ho').1
    cases hmv : mvd h d.flock.toNat o.toNat (-1) with
    | none => rw [hmv] at hx; cases hx
    | some y =>
      rw [hmv] at hx
      obtain ⟨h0, rfl⟩ := mvd_some hmv
      simp at hx
      subst hx
      have hg := hh.get fl (show o.toNat < 5 by omega)
      have hy : HBd B (hadd h d.flock.toNat o.toNat (-1)) := hh.add h0 (by omega) (Int.le_refl _)
      have ht := hd.t
      have hg2 := hy.get (show d.tof.toNat < 3 by omega) (show o.toNat < 5 by omega)
      exact hy.add (by omega) (by omega) (by omega)
  split at hx
  · simp at hx; rw [hx]; exact hh.mono (by omega)
  · cases hx
theorem firstH_bd {heads : List (List Int)} (h : ∀ r ∈ heads, ∀ x ∈ r, 0 ≤ x ∧ x ≤ 20) : HBd 20 (firstH heads) := by
  refine ⟨by simp [firstH], fun x hx => ?_⟩
  obtain ⟨i, hi, rfl⟩ := List.mem_map.1 hx
  rw [List.getD_eq_getElem?_getD, List.getD_eq_getElem?_getD]
  cases h1 : heads[i / 5]? with
  | none => simp
  | some r =>
    rw [Option.getD_some]
    cases h2 : r[i % 5]? with
    | none => simp
    | some y => rw [Option.getD_some]; exact h r (List.mem_of_getElem? h1) y (List.mem_of_getElem? h2)
theorem endsTo_bd {t : Int} {l : List Mk} {heads : List (List Int)} {ds : List De} {deed owner : Int} {nf : Nat} (hnf : nf ≤ 3) (hl : l.length ≤ 5) (hh : ∀ r ∈ heads, ∀ x ∈ r, 0 ≤ x ∧ x ≤ 20) (hd : ∀ d ∈ ds, DeIn l.length nf d) :
    ∀ i, ∀ x ∈ endsTo t l heads ds deed owner i, HBd (20 + 20 * (i : Int)) x
  | 0, x, hx => by simp [endsTo] at hx; subst hx; exact (firstH_bd hh).mono (by omega)
  | i + 1, x, hx => by
    unfold endsTo at hx
    obtain ⟨h, hh', hx⟩ := List.mem_flatMap.1 (mem_ddup.1 hx)
    cases hi : ds[i]? with
    | none => rw [hi] at hx; cases hx
    | some d =>
      rw [hi] at hx
      have ih := endsTo_bd hnf hl hh hd i h hh'
      exact (succ_bd hnf hl (hd d (List.mem_of_getElem? hi)) ih (by omega) x hx).mono (by omega)
theorem endsTo_mem {t : Int} {l : List Mk} {heads : List (List Int)} {ds : List De} {deed owner : Int} {i : Nat} {d : De} (hd : ds[i]? = some d) (x : List Int) :
    x ∈ endsTo t l heads ds deed owner (i + 1) ↔ ∃ h ∈ endsTo t l heads ds deed owner i, x ∈ succ t l (passB deed owner i) d h := by
  conv => lhs; unfold endsTo
  rw [mem_ddup, List.mem_flatMap, hd]
end Go.Proofs.Ytmennjmjakdkcaa
namespace Go.Proofs.Ytmennjmjakdkcaa
set_option linter.unusedVariables false
set_option linter.unusedSimpArgs false

/-- a range: the least and the greatest -/
structure Rn where
  lo : Int
  hi : Int
  deriving DecidableEq
/-! ### which herd books are valid -/
/-- a deed without the fields that its kind does not name -/
def namD (d : De) : De :=
  if d.kind = 1 ∨ d.kind = 3 then ⟨d.kind, d.flock, d.owner, 0, 0, d.many, 0, ⟨0, false, false, 0, 0⟩⟩
  else if d.kind = 2 then ⟨d.kind, d.flock, d.owner, d.other, 0, d.many, 0, ⟨0, false, false, 0, 0⟩⟩
  else if d.kind = 4 then ⟨d.kind, d.flock, 0, 0, 0, d.many, 0, ⟨0, false, false, 0, 0⟩⟩
  else if d.kind = 5 then ⟨d.kind, d.flock, 0, 0, d.tof, 0, 0, d.s⟩
  else ⟨d.kind, d.flock, 0, 0, 0, d.many, d.err, ⟨0, false, false, 0, 0⟩⟩
def ownB (n : Nat) (x : Int) : Bool := btw x 0 ((n : Int) - 1)
/-- the error of the fields that the kind names -/
def fldE (n nf : Nat) (d : De) : Int :=
  if d.kind = 1 ∨ d.kind = 3 then (if ownB n d.owner = false then 3 else if btw d.many 1 20 = false then 1 else 0)
  else if d.kind = 2 then (if ownB n d.owner = false ∨ ownB n d.other = false then 3 else if d.owner = d.other then 4 else if btw d.many 1 20 = false then 1 else 0)
  else if d.kind = 4 then (if btw d.many 1 3 = false then 1 else 0)
  else if d.kind = 5 then (if ownB nf d.tof = false then 3 else if d.tof = d.flock then 4 else seen d.s 9 6)
  else (if btw d.many 0 300 = false ∨ btw d.err 0 20 = false then 1 else 0)
def deedE (n nf : Nat) (d : De) : Int :=
  if btw d.kind 1 6 = false then 8 else if ownB nf d.flock = false then 3 else if fldE n nf d ≠ 0 then fldE n nf d else if d ≠ namD d then 1 else 0
def flocksE (n : Nat) (ks : List Int) (hs : List (List Int)) : Int :=
  if ks.length = 0 then 7 else if 3 < ks.length then 6 else if ks.all (ownB n) = false then 3 else if hs.length ≠ ks.length then 2
  else if hs.all (fun r => decide (r.length = n)) = false then 2 else if hs.all (fun r => r.all fun x => btw x 0 20) = false then 1 else 0
/-- the first error of deeds from one on -/
def deedsE (n nf : Nat) : List De → Int
  | [] => 0
  | d :: l => if deedE n nf d ≠ 0 then deedE n nf d else deedsE n nf l
def checkH (t : Int) (l : List Mk) (ks : List Int) (hs : List (List Int)) (ds : List De) : Int :=
  if check t l ≠ 0 then check t l else if flocksE l.length ks hs ≠ 0 then flocksE l.length ks hs else if 6 < ds.length then 6 else deedsE l.length ks.length ds
theorem ownB_iff {n : Nat} {x : Int} : ownB n x = true ↔ 0 ≤ x ∧ x < n := by unfold ownB; rw [btw_iff]; omega
theorem ite0 {c : Prop} [Decidable c] {k x : Int} (hk : k ≠ 0) (h : (if c then k else x) = 0) : ¬ c ∧ x = 0 := by
  split at h
  · exact absurd h hk
  · exact ⟨by assumption, h⟩
theorem deedE_in {n nf : Nat} {d : De} (hn : n ≤ 5) (hf : nf ≤ 3) (hf0 : 0 < nf) (hn0 : 0 < n) (h : deedE n nf d = 0) : DeIn n nf d ∧ d = namD d := by
  unfold deedE at h
  split at h
  · cases h
  rename_i h1
  split at h
  · cases h
  rename_i h2
  split at h
  · exact absurd h (by assumption)
  rename_i h3
  split at h
  · cases h
  rename_i h4
  have h4 : d = namD d := Classical.not_not.1 h4
  refine ⟨?_, h4⟩
  have hk := btw_iff.1 ((Bool.not_eq_false _).mp h1)
  have hfl := ownB_iff.1 ((Bool.not_eq_false _).mp h2)
  have h3 : fldE n nf d = 0 := Classical.not_not.1 h3
  clear h1 h2
  unfold fldE at h3
  unfold namD at h4
  obtain ⟨kind, flock, owner, other, tof, many, err, s⟩ := d
  dsimp only at *
  obtain e | e | e | e | e | e : kind = 1 ∨ kind = 2 ∨ kind = 3 ∨ kind = 4 ∨ kind = 5 ∨ kind = 6 := by omega
  all_goals subst e
  · rw [if_pos (by decide)] at h3 h4
    obtain ⟨a1, h3⟩ := ite0 (by decide) h3
    obtain ⟨a2, -⟩ := ite0 (by decide) h3
    injection h4 with _ _ _ e1 e2 _ e3 e4
    subst e1 e2 e3 e4
    have a1 := ownB_iff.1 ((Bool.not_eq_false _).mp a1)
    have a2 := btw_iff.1 ((Bool.not_eq_false _).mp a2)
    exact ⟨by dsimp; omega, by dsimp; omega, by dsimp; omega, by dsimp; omega, by dsimp; omega, by dsimp; omega, by dsimp; omega, by dsimp; omega, by dsimp; omega, by dsimp; intro h; omega⟩
  · rw [if_neg (by decide), if_pos (by decide)] at h3 h4
    obtain ⟨a1, h3⟩ := ite0 (by decide) h3
    obtain ⟨a3, h3⟩ := ite0 (by decide) h3
    obtain ⟨a2, -⟩ := ite0 (by decide) h3
    injection h4 with _ _ _ _ e2 _ e3 e4
    subst e2 e3 e4
    have a0 := ownB_iff.1 ((Bool.not_eq_false _).mp (fun h => a1 (.inl h)))
    have a4 := ownB_iff.1 ((Bool.not_eq_false _).mp (fun h => a1 (.inr h)))
    have a2 := btw_iff.1 ((Bool.not_eq_false _).mp a2)
    exact ⟨by dsimp; omega, by dsimp; omega, by dsimp; omega, by dsimp; omega, by dsimp; omega, by dsimp; omega, by dsimp; omega, by dsimp; omega, by dsimp; omega, by dsimp; intro h; omega⟩
  · rw [if_pos (by decide)] at h3 h4
    obtain ⟨a1, h3⟩ := ite0 (by decide) h3
    obtain ⟨a2, -⟩ := ite0 (by decide) h3
    injection h4 with _ _ _ e1 e2 _ e3 e4
    subst e1 e2 e3 e4
    have a1 := ownB_iff.1 ((Bool.not_eq_false _).mp a1)
    have a2 := btw_iff.1 ((Bool.not_eq_false _).mp a2)
    exact ⟨by dsimp; omega, by dsimp; omega, by dsimp; omega, by dsimp; omega, by dsimp; omega, by dsimp; omega, by dsimp; omega, by dsimp; omega, by dsimp; omega, by dsimp; intro h; omega⟩
  · rw [if_neg (by decide), if_neg (by decide), if_pos (by decide)] at h3 h4
    obtain ⟨a2, -⟩ := ite0 (by decide) h3
    injection h4 with _ _ e0 e1 e2 _ e3 e4
    subst e0 e1 e2 e3 e4
    have a2 := btw_iff.1 ((Bool.not_eq_false _).mp a2)
    exact ⟨by dsimp; omega, by dsimp; omega, by dsimp; omega, by dsimp; omega, by dsimp; omega, by dsimp; omega, by dsimp; omega, by dsimp; omega, by dsimp; omega, by dsimp; intro h; omega⟩
  · rw [if_neg (by decide), if_neg (by decide), if_neg (by decide), if_pos (by decide)] at h3 h4
    obtain ⟨a1, h3⟩ := ite0 (by decide) h3
    have hst := (ite0 (by decide) h3).2
    injection h4 with _ _ e0 e1 _ e2 e3 _
    subst e0 e1 e2 e3
    have a1 := ownB_iff.1 ((Bool.not_eq_false _).mp a1)
    exact ⟨by dsimp; omega, by dsimp; omega, by dsimp; omega, by dsimp; omega, by dsimp; omega, by dsimp; omega, by dsimp; omega, by dsimp; omega, by dsimp; omega, fun _ => hst⟩
  · rw [if_neg (by decide), if_neg (by decide), if_neg (by decide), if_neg (by decide)] at h3 h4
    obtain ⟨a1, -⟩ := ite0 (by decide) h3
    injection h4 with _ _ e0 e1 e2 _ _ e4
    subst e0 e1 e2 e4
    have a0 := btw_iff.1 ((Bool.not_eq_false _).mp (fun h => a1 (.inl h)))
    have a4 := btw_iff.1 ((Bool.not_eq_false _).mp (fun h => a1 (.inr h)))
    exact ⟨by dsimp; omega, by dsimp; omega, by dsimp; omega, by dsimp; omega, by dsimp; omega, by dsimp; omega, by dsimp; omega, by dsimp; omega, by dsimp; omega, by dsimp; intro h; omega⟩
theorem deedsE_all {n nf : Nat} : ∀ {l : List De}, deedsE n nf l = 0 ↔ ∀ d ∈ l, deedE n nf d = 0
  | [] => by simp [deedsE]
  | d :: l => by
    unfold deedsE
    by_cases h : deedE n nf d = 0
    · rw [if_neg (by simpa using h), deedsE_all]; simp [h]
    · rw [if_pos h]; simp [h]
/-- what is known of a valid herd book -/
structure HeOk (t : Int) (l : List Mk) (ks : List Int) (hs : List (List Int)) (ds : List De) : Prop where
  ck : check t l = 0
  n5 : l.length ≤ 5
  n0 : 0 < l.length
  f0 : 0 < ks.length
  f3 : ks.length ≤ 3
  kk : ∀ k ∈ ks, 0 ≤ k ∧ k < l.length
  hl : hs.length = ks.length
  rl : ∀ r ∈ hs, r.length = l.length
  rb : ∀ r ∈ hs, ∀ x ∈ r, 0 ≤ x ∧ x ≤ 20
  d6 : ds.length ≤ 6
  dE : ∀ d ∈ ds, deedE l.length ks.length d = 0
  dI : ∀ d ∈ ds, DeIn l.length ks.length d
theorem checkH_ok {t : Int} {l : List Mk} {ks : List Int} {hs : List (List Int)} {ds : List De} (h : checkH t l ks hs ds = 0) : HeOk t l ks hs ds := by
  unfold checkH at h
  split at h
  · exact absurd h (by assumption)
  rename_i h1
  split at h
  · exact absurd h (by assumption)
  rename_i h2
  split at h
  · cases h
  rename_i h3
  have h1 : check t l = 0 := Classical.not_not.1 h1
  have h2 : flocksE l.length ks hs = 0 := Classical.not_not.1 h2
  have h5 := (check_ok h1).2.2.1
  unfold flocksE at h2
  split at h2
  · cases h2
  rename_i f0
  split at h2
  · cases h2
  rename_i f3
  split at h2
  · cases h2
  rename_i fk
  split at h2
  · cases h2
  rename_i fl
  split at h2
  · cases h2
  rename_i fr
  split at h2
  · cases h2
  rename_i fb
  have fk := List.all_eq_true.1 ((Bool.not_eq_false _).mp fk)
  have fr := List.all_eq_true.1 ((Bool.not_eq_false _).mp fr)
  have fb := List.all_eq_true.1 ((Bool.not_eq_false _).mp fb)
  have kk : ∀ k ∈ ks, 0 ≤ k ∧ k < l.length := fun k hk => ownB_iff.1 (fk k hk)
  have n0 : 0 < l.length := by
    cases ks with
    | nil => exact absurd rfl f0
    | cons k ks => have := kk k List.mem_cons_self; omega
  have dE := deedsE_all.1 h
  exact ⟨h1, h5, n0, by omega, by omega, kk, by omega, fun r hr => by simpa using fr r hr, fun r hr x hx => btw_iff.1 (List.all_eq_true.1 (fb r hr) x hx), by omega, dE, fun d hd => (deedE_in h5 (by omega) (by omega) n0 (dE d hd)).1⟩
end Go.Proofs.Ytmennjmjakdkcaa
namespace Go.Proofs.Ytmennjmjakdkcaa
set_option linter.unusedVariables false
set_option linter.unusedSimpArgs false

structure Sm where
  first : Int
  born : Int
  bought : Int
  sold : Int
  eaten : Int
  deriving DecidableEq
def stepS (o : Int) (s : Sm) (d : De) : Sm :=
  if d.owner = o ∧ d.kind = 1 then { s with born := s.born + d.many }
  else if d.owner = o ∧ d.kind = 2 then { s with sold := s.sold + d.many }
  else if d.owner = o ∧ d.kind = 3 then { s with eaten := s.eaten + d.many }
  else if d.kind = 2 ∧ d.other = o then { s with bought := s.bought + d.many } else s
def sumS (hs : List (List Int)) (o : Nat) (ds : List De) : Sm := ds.foldl (stepS o) ⟨howned (firstH hs) o, 0, 0, 0, 0⟩
def hasS (s : Sm) : Int := s.first + s.born + s.bought - s.sold - s.eaten
def delta (o : Int) (d : De) : Int := (if d.kind = 1 ∧ d.owner = o then d.many else 0) + (if d.kind = 2 ∧ d.other = o then d.many else 0) - (if d.kind = 2 ∧ d.owner = o then d.many else 0) - (if d.kind = 3 ∧ d.owner = o then d.many else 0)
theorem hasS_step (o : Int) (s : Sm) (d : De) (h : d.kind = 2 → d.owner ≠ d.other) : hasS (stepS o s d) = hasS s + delta o d := by
  unfold stepS delta hasS
  by_cases h1 : d.kind = 1
  · by_cases h2 : d.owner = o <;> simp [h1, h2] <;> omega
  · by_cases h3 : d.kind = 2
    · have hne := h h3
      by_cases h2 : d.owner = o
      · have : d.other ≠ o := fun e => hne (h2.trans e.symm)
        simp [h3, h2, this]; omega
      · by_cases h4 : d.other = o <;> simp [h3, h2, h4] <;> omega
    · by_cases h4 : d.kind = 3
      · by_cases h2 : d.owner = o <;> simp [h4, h2] <;> omega
      · simp [h1, h3, h4]
def htot (h : List Int) : Int := hall h 0 + hall h 1 + hall h 2
theorem lt3 {f : Nat} (h : f < 3) : f = 0 ∨ f = 1 ∨ f = 2 := by omega
theorem lt5 {f : Nat} (h : f < 5) : f = 0 ∨ f = 1 ∨ f = 2 ∨ f = 3 ∨ f = 4 := by omega
theorem howned_hadd {h : List Int} (hl : h.length = 15) {f o o' : Nat} {k : Int} (hf : f < 3) (ho : o < 5) (ho' : o' < 5) : howned (hadd h f o k) o' = howned h o' + if o = o' then k else 0 := by
  unfold howned
  rw [hget_hadd hl hf ho ho', hget_hadd hl hf ho ho', hget_hadd hl hf ho ho']
  by_cases e : o = o'
  · subst e
    rcases lt3 hf with rfl | rfl | rfl <;> simp <;> omega
  · simp [e]
theorem hall_hadd {h : List Int} (hl : h.length = 15) {f o f' : Nat} {k : Int} (hf : f < 3) (ho : o < 5) : hall (hadd h f o k) f' = hall h f' + if f = f' then k else 0 := by
  unfold hall
  rw [hget_hadd hl hf ho (by omega), hget_hadd hl hf ho (by omega), hget_hadd hl hf ho (by omega), hget_hadd hl hf ho (by omega), hget_hadd hl hf ho (by omega)]
  by_cases e : f = f'
  · subst e
    rcases lt5 ho with rfl | rfl | rfl | rfl | rfl <;> simp <;> omega
  · simp [e]
theorem htot_hadd {h : List Int} (hl : h.length = 15) {f o : Nat} {k : Int} (hf : f < 3) (ho : o < 5) : htot (hadd h f o k) = htot h + k := by
  unfold htot
  rw [hall_hadd hl hf ho, hall_hadd hl hf ho, hall_hadd hl hf ho]
  rcases lt3 hf with rfl | rfl | rfl <;> simp <;> omega
theorem hadd_l {h : List Int} {f o : Nat} {k : Int} (hl : h.length = 15) : (hadd h f o k).length = 15 := by unfold hadd; rw [List.length_set]; exact hl
/-! ### how many ends there are at most -/
end Go.Proofs.Ytmennjmjakdkcaa
namespace Go.Proofs.Ytmennjmjakdkcaa
open Go.RowKit
set_option linter.unusedVariables false
set_option linter.unusedSimpArgs false

theorem between_any (n lo hi : Int) (w : World) :
    Calls Try.prog 95 #[.int .i64 n, .int .i64 lo, .int .i64 hi] w fun e w' => e = .returned (.bool (btw n lo hi)) ∧ w = w' := by
  by_cases h1 : lo ≤ n <;> by_cases h2 : n ≤ hi
  all_goals
    go_enter Try.func95, Try.ntmps95
    go_wp2
    go_ret
    exact ⟨by simp [btw, h1, h2], rfl⟩

theorem but_any (n m : Int) (w : World) (hn : 0 ≤ n) (hn' : n ≤ 255) (hm : 0 ≤ m) (hm' : m ≤ 255) :
    Calls Try.prog 114 #[.int .i64 n, .int .i64 m] w fun e w' => e = .returned (.int .i64 (butI n m)) ∧ w = w' := by
  go_enter Try.func114, Try.ntmps114
  go_wp2
  go_ret
  exact ⟨ret_int (bits_andNot n m hn hn' hm hm'), rfl⟩

theorem ones64 (x : Int) (w : World) (h0 : 0 ≤ x) (h1 : x ≤ 255) :
    Calls Try.prog 127 #[.int .u64 x] w fun e w' => e = .returned (.int .i64 (popI x)) ∧ w = w' := by
  go_enter Try.func127, Try.ntmps127
  go_wp2
  go_ret
  refine ⟨ret_int ?_, rfl⟩
  obtain ⟨y, rfl⟩ := Int.eq_ofNat_of_zero_le h0
  have h : y < 256 := by omega
  clear h0 h1
  revert y
  decide +kernel
theorem count_any (n : Int) (w : World) (hn : 0 ≤ n) (hn' : n ≤ 255) :
    Calls Try.prog 115 #[.int .i64 n] w fun e w' => e = .returned (.int .i64 (popI n)) ∧ w = w' := by
  have hw : IntKind.u64.wrap n = n := IntWalk.u64_in _ (by omega)
  go_enter Try.func115, Try.ntmps115
  go_wp2_with (first | (go_at_call 127; refine (ones64 n _ hn hn').mono ?_; rintro e w' ⟨rfl, rfl⟩) | go_in)
  go_ret
  exact ⟨rfl, rfl⟩
theorem on_any (n : Int) (s : Sg) (w : World) (hn : 0 ≤ n) (hn' : n ≤ 255) :
    Calls Try.prog 113 #[.int .i64 n, vSg s] w fun e w' => e = .returned (.int .i64 (onI n s.l s.r)) ∧ Below w.heap.size w w' := by
  obtain ⟨sn, l, r, sb, sp⟩ := s
  unfold vSg
  have h1 := bits_andNot n 15 hn hn' (by omega) (by omega)
  have h2 := bits_andNot n 240 hn hn' (by omega) (by omega)
  have h3 := bits_andNot (butI n 15) 240 (butI_lo _ _) (butI_hi _ _) (by omega) (by omega)
  have H := Lib.hid (And.intro h1 (And.intro h2 h3))
  clear h1 h2 h3
  cases l <;> cases r
  all_goals
    go_enter Try.func113, Try.ntmps113
    go_wp2
    go_ret
    refine ⟨ret_int ?_, (Below.refl _ _).alloc (Nat.le_refl _) _⟩
  · exact (onI_ff n hn hn').symm
  · exact H.out.2.1.trans (onI_ft n hn hn').symm
  · exact H.out.1.trans (onI_tf n hn hn').symm
  · refine Eq.trans ?_ (onI_tt n hn hn').symm
    show bits .andNot .i64 (bits .andNot .i64 n 15) 240 = _
    rw [H.out.1, H.out.2.2]
end Go.Proofs.Ytmennjmjakdkcaa

namespace Go.Proofs.Ytmennjmjakdkcaa
open Go.RowKit
set_option linter.unusedVariables false
set_option linter.unusedSimpArgs false

theorem seen_any (s : Sg) (b p : Int) (w : World) :
    Calls Try.prog 96 #[vSg s, .int .i64 b, .int .i64 p] w fun e w' => e = .returned (.int .i64 (seen s b p)) ∧ Below w.heap.size w w' := by
  by_cases h1 : btw s.n 0 255 = true
  · have h1' := btw_iff.1 h1
    go_enter Try.func96, Try.ntmps96
    unfold vSg
    go_wp2_with (first
      | (go_at_call 95; refine (between_any _ _ _ _).mono ?_; rintro e w' ⟨rfl, rfl⟩)
      | (go_at_call 113; refine (on_any s.n s _ h1'.1 h1'.2).mono ?_; rintro e w1 ⟨rfl, hb1⟩; obtain ⟨hc1, hf1⟩ := bc hb1; have hz1 := hb1.size))
    all_goals
      go_ret
      refine ⟨ret_int ?_, ?_⟩
      · simp_all [seen]
      · exact ((Below.refl _ _).alloc (Nat.le_refl _) _).trans (hb1.mono (by simp))
  · have h1' : btw s.n 0 255 = false := by simpa using h1
    go_enter Try.func96, Try.ntmps96
    unfold vSg
    go_wp2_with (go_at_call 95; refine (between_any _ _ _ _).mono ?_; rintro e w' ⟨rfl, rfl⟩)
    go_ret
    exact ⟨ret_int (by simp [seen, h1']), (Below.refl _ _).alloc (Nat.le_refl _) _⟩
theorem sight_any (s : Sg) (w : World) :
    Calls Try.prog 59 #[vSg s] w fun e w' => e = .returned (.int .i64 (seen s 9 6)) ∧ Below w.heap.size w w' := by
  go_enter Try.func59, Try.ntmps59
  unfold vSg
  go_wp2_with (go_at_call 96; refine (seen_any s 9 6 _).mono ?_; rintro e w1 ⟨rfl, hb1⟩)
  go_ret
  exact ⟨rfl, ((Below.refl _ _).alloc (Nat.le_refl _) _).trans (hb1.mono (by simp))⟩

/-- owner: all numbers are those of owners -/
theorem all_step {L : List Int} {q : Nat} {x : Int} {f : Int → Bool} (h : (L.take q).all f = true) (hx : L[q]? = some x) (hf : f x = true) : (L.take (q + 1)).all f = true := by
  rw [List.take_add_one, hx, List.all_append, h]; simp [hf]
theorem all_not {L : List Int} {q : Nat} {x : Int} {f : Int → Bool} (hx : L[q]? = some x) (hf : f x = false) : L.all f = false := by
  rw [List.all_eq_false]; exact ⟨x, List.mem_of_getElem? hx, by simp [hf]⟩
set_option maxHeartbeats 1000000 in
theorem owner_any (t : Int) (A : Option Addr) (n c : Nat) (L : List Int) (B : Option Addr) (m d : Nat) (w : World) (hL : Ints w B m L) (hn : n ≤ maxLen) (hm : m ≤ maxLen) :
    Calls Try.prog 61 #[.agg #[.int .i64 t, .slice A n c], .slice B m d] w fun e w' =>
      e = .returned (.int .i64 (ownerE L n)) ∧ Below w.heap.size w w' := by
  unfold maxLen at hn hm
  have HL := Lib.hid hL
  have hb0 : Below w.heap.size w (w.alloc (Obj.cells #[Value.int IntKind.i64 t, Value.slice A n c] 112)) := (Below.refl _ _).alloc (Nat.le_refl _) _
  have hz0 : (w.alloc (Obj.cells #[Value.int IntKind.i64 t, Value.slice A n c] 112)).heap.size = w.heap.size + 1 := by simp
  have hL0 := hL.alloc (Obj.cells #[Value.int IntKind.i64 t, Value.slice A n c] 112)
  have hblk : (w.alloc (Obj.cells #[Value.int IntKind.i64 t, Value.slice A n c] 112)).heap[w.heap.size]? = some (Obj.cells #[Value.int IntKind.i64 t, Value.slice A n c] 112 (0, 0)) := heap_alloc_new w _
  clear hL
  go_enter Try.func61, Try.ntmps61
  go_wp2
  generalize (w.alloc (Obj.cells #[Value.int IntKind.i64 t, Value.slice A n c] 112)) = W0 at hL0 hblk hb0 hz0 ⊢
  go_loopg [9] m (fun g i wr => ∃ q : Nat, q + g = m ∧ i = .int .i64 q ∧ (L.take q).all (fun x => btw x 0 (n - 1)) = true ∧ W0 = wr)
  case atStart => exact ⟨0, by omega, rfl, by simp, rfl⟩
  case round =>
    obtain ⟨q, hq, rfl, hall, rfl⟩ := hrel
    have HQ := Lib.hid hq
    have HA := Lib.hid hall
    have hqm : q ≤ m := by omega
    clear hq hall
    have r1 : W0.cell? ⟨w.heap.size, 1, none⟩ = some (.slice A n c) := by simp [World.cell?, hblk]
    have hwr := heap_lt hblk
    by_cases hlt : q < m
    · obtain ⟨b, off, x, rfl, hb, hx, d0⟩ := Ints.get hL0 hlt
      have HX := Lib.hid hx
      clear hx
      go_wp2_with (go_at_call 95; refine (between_any _ _ _ _).mono ?_; rintro e w' ⟨rfl, rfl⟩)
      · have hin : btw x 0 (n - 1) = false := by simpa using ‹(!btw x 0 (↑n - 1)) = true›
        go_ret
        exact ⟨ret_int (by unfold ownerE; rw [all_not HX.out hin]; rfl), hb0⟩
      · have hin : btw x 0 (n - 1) = true := by simpa using ‹(!btw x 0 (↑n - 1)) = false›
        go_roundg (gk - 1)
        case measure => have := HQ.out; omega
        case rel => exact ⟨q + 1, by have := HQ.out; omega, by go_num, all_step HA.out HX.out hin, rfl⟩
    · obtain rfl : q = m := by omega
      go_wp2
      go_ret
      refine ⟨ret_int ?_, hb0⟩
      have := HA.out
      rw [List.take_of_length_le (by have := HL.out.len; omega)] at this
      unfold ownerE; rw [this]; rfl
end Go.Proofs.Ytmennjmjakdkcaa

namespace Go.Proofs.Ytmennjmjakdkcaa
open Go.RowKit
set_option linter.unusedVariables false
set_option linter.unusedSimpArgs false

theorem chk_step {l : List Mk} {n k : Nat} {m : Mk} (hl : l.length = n) (hk : k < n) (hm : l[k]? = some m) :
    chk l (n - k) k = if mkOk m = false then 1 else if (l.take k).contains m then 4 else chk l (n - (k + 1)) (k + 1) := by
  obtain ⟨j, hj⟩ : ∃ j, n - k = j + 1 := ⟨n - k - 1, by omega⟩
  rw [hj, show n - (k + 1) = j by omega]
  simp only [chk, hm]
theorem take_no {l : List Mk} {q : Nat} {x m : Mk} (h : (l.take q).contains m = false) (hx : l[q]? = some x) (hne : ¬ x = m) : (l.take (q + 1)).contains m = false := by
  have hlt : q < l.length := (List.getElem?_eq_some_iff.1 hx).1
  rw [List.take_add_one, hx]
  simp only [Option.toList, List.contains_eq_mem, decide_eq_false_iff_not, List.mem_append, List.mem_singleton, not_or] at h ⊢
  exact ⟨h, fun e => hne e.symm⟩
theorem take_yes {l : List Mk} {q k : Nat} {m : Mk} (hx : l[q]? = some m) (hq : q < k) : (l.take k).contains m = true := by
  simp only [List.contains_eq_mem, decide_eq_true_eq]
  exact List.mem_of_getElem? (i := q) (by rw [List.getElem?_take, if_pos hq]; exact hx)

set_option maxHeartbeats 1000000 in
theorem check_any (t : Int) (A : Option Addr) (n c : Nat) (l : List Mk) (w : World) (hc : Marks w A n l) (hlc : n ≤ c) (hcm : c ≤ maxLen) :
    Calls Try.prog 58 #[.agg #[.int .i64 t, .slice A n c]] w fun e w' => e = .returned (.int .i64 (check t l)) ∧ Below w.heap.size w w' := by
  have hl := hc.len
  have HL := Lib.hid hl
  unfold maxLen at hcm
  have hb0 : Below w.heap.size w (w.alloc (Obj.cells #[Value.int IntKind.i64 t, Value.slice A n c] 25)) := (Below.refl _ _).alloc (Nat.le_refl _) _
  by_cases h1 : btw t 0 2 = true
  · by_cases h2 : n ≤ 5
    · have hck : check t l = chk l (n - 0) 0 := by
        unfold check; rw [if_neg (by simp [h1]), if_neg (by omega), hl]; rfl
      have HC := Lib.hid hck
      clear hl hck
      have h3 : decide ((5 : Int) < (n : Int)) = false := by simp; omega
      have hc0 := hc.alloc (Obj.cells #[Value.int IntKind.i64 t, Value.slice A n c] 25)
      have hblk : (w.alloc (Obj.cells #[Value.int IntKind.i64 t, Value.slice A n c] 25)).heap[w.heap.size]? = some (Obj.cells #[Value.int IntKind.i64 t, Value.slice A n c] 25 (0, 0)) := heap_alloc_new w _
      go_enter Try.func58, Try.ntmps58
      go_wp2_with (go_at_call 95; refine (between_any _ _ _ _).mono ?_; rintro e w' ⟨rfl, rfl⟩)
      generalize hW : (w.alloc (Obj.cells #[Value.int IntKind.i64 t, Value.slice A n c] 25)) = W0 at hc0 hblk hb0 ⊢
      clear hW
      have hw0 := heap_lt hblk
      go_loopg [18] n (fun g i wr => ∃ k : Nat, k + g = n ∧ i = .int .i64 k ∧ chk l (n - 0) 0 = chk l (n - k) k ∧ Below W0.heap.size W0 wr)
      case atStart => exact ⟨0, by omega, rfl, rfl, Below.refl _ _⟩
      case round =>
        obtain ⟨k, hk, rfl, hchk, hbl⟩ := hrel
        obtain ⟨wo, rfl⟩ : ∃ wo : World, wo = wr := ⟨_, rfl⟩
        obtain ⟨g1, rfl⟩ : ∃ g1 : Nat, g1 = gk := ⟨_, rfl⟩
        have HK := Lib.hid hchk
        have HKG := Lib.hid hk
        have hk' : k ≤ n := by omega
        clear hchk hk
        have hs0 := hbl.size
        by_cases hlt : k < n
        · obtain ⟨b, off, m, rfl, hb, hm, c0, c1, c2⟩ := Marks.get (hc0.below hbl (Nat.le_refl _)) hlt
          have HM := Lib.hid hm
          have HS := Lib.hid (chk_step HL.out hlt hm)
          clear hm
          have r1 : wo.cell? ⟨w.heap.size, 1, none⟩ = some (.slice (some ⟨b, off, none⟩) n c) := by
            have := bheap hblk hbl (Nat.le_refl _); simp [World.cell?, this]
          have hmarks := (hc0.below hbl (Nat.le_refl _)).alloc (Obj.cells #[Value.int IntKind.i64 m.n, Value.int IntKind.i64 m.b, Value.int IntKind.i64 m.p] 62)
          have hwr : w.heap.size < wo.heap.size := by omega
          by_cases hmk : mkOk m = true
          · have h4 : btw m.n 0 255 = true := by simp [mkOk] at hmk; exact hmk.1
            have h5 : btw m.b 0 9 = true := by simp [mkOk] at hmk; exact hmk.2.1
            have h6 : btw m.p 0 6 = true := by simp [mkOk] at hmk; exact hmk.2.2
            go_wp2_with (go_at_call 95; refine (between_any _ _ _ _).mono ?_; rintro e w' ⟨rfl, rfl⟩)
            generalize hW1 : (wo.alloc (Obj.cells #[Value.int IntKind.i64 m.n, Value.int IntKind.i64 m.b, Value.int IntKind.i64 m.p] 62)) = W1 at hmarks ⊢
            have hblk1 : W1.heap[wo.heap.size]? = some (Obj.cells #[Value.int IntKind.i64 m.n, Value.int IntKind.i64 m.b, Value.int IntKind.i64 m.p] 62 (0, 0)) := by rw [← hW1]; exact heap_alloc_new wo _
            have hb1 : Below W0.heap.size W0 W1 := by rw [← hW1]; exact hbl.alloc hbl.size _
            clear hW1
            have hw1 := heap_lt hblk1
            go_loopg [44] k (fun g i wr => ∃ q : Nat, q + g = k ∧ i = .int .i64 q ∧ (l.take q).contains m = false ∧ Below W1.heap.size W1 wr)
            case atStart => exact ⟨0, by omega, rfl, by simp, Below.refl _ _⟩
            case round =>
              obtain ⟨q, hq, rfl, hno, hbi⟩ := hrel
              have HN := Lib.hid hno
              have HQ := Lib.hid hq
              have hq' : q ≤ k := by omega
              clear hno hq
              have hs1 := hbi.size
              by_cases hqk : q < k
              · obtain ⟨b', off', x, hA, hb', hx, d0, d1, d2⟩ := Marks.get (hmarks.below hbi (Nat.le_refl _)) (show q < n by omega)
                obtain ⟨rfl, rfl⟩ : b' = b ∧ off' = off := by simpa [eq_comm] using hA
                have HX := Lib.hid hx
                clear hx hA
                have e0 : wr.cell? ⟨wo.heap.size, 0, none⟩ = some (.int .i64 m.n) := by have := bheap hblk1 hbi (Nat.le_refl _); simp [World.cell?, this]
                have e1 : wr.cell? ⟨wo.heap.size, 1, none⟩ = some (.int .i64 m.b) := by have := bheap hblk1 hbi (Nat.le_refl _); simp [World.cell?, this]
                have e2 : wr.cell? ⟨wo.heap.size, 2, none⟩ = some (.int .i64 m.p) := by have := bheap hblk1 hbi (Nat.le_refl _); simp [World.cell?, this]
                have hwi : wo.heap.size < wr.heap.size := by omega
                by_cases hxm : x = m
                · subst hxm
                  go_wp2
                  go_ret
                  refine ⟨ret_int ?_, ?_⟩
                  · rw [HC.out, HK.out, HS.out, if_neg (by simp [hmk]), if_pos (take_yes HX.out hqk)]
                  · exact hb0.trans ((hb1.trans (hbi.mono hb1.size)).mono hb0.size |>.alloc (by omega) _)
                · have hne : ¬ (x.n = m.n ∧ x.b = m.b ∧ x.p = m.p) := fun h => hxm (by cases x; cases m; simp_all)
                  have HNE := Lib.hid hne
                  clear hne hxm
                  go_wp2
                  · exact absurd ⟨‹_›, ‹_›, ‹_›⟩ HNE.out
                  all_goals
                    go_roundg (gk - 1)
                    case measure => have := HQ.out; omega
                    case rel => exact ⟨q + 1, by have := HQ.out; omega, by go_num, take_no HN.out HX.out (fun e => HNE.out (by rw [e]; exact ⟨rfl, rfl, rfl⟩)), hbi.alloc hbi.size _⟩
              · obtain rfl : q = k := by omega
                go_wp2
                go_roundg (g1 - 1)
                case measure => have := HKG.out; omega
                case rel =>
                  refine ⟨q + 1, by have := HKG.out; omega, by go_num, ?_, (hb1.trans (hbi.mono hb1.size))⟩
                  rw [HK.out, HS.out, if_neg (by simp [hmk]), if_neg (by rw [HN.out]; simp)]
          · have hmk' : mkOk m = false := by simpa using hmk
            have hsp : ¬ (btw m.n 0 255 = true ∧ btw m.b 0 9 = true ∧ btw m.p 0 6 = true) := by simpa [mkOk] using hmk
            have HSP := Lib.hid hsp
            clear hsp hmk
            go_wp2_with (go_at_call 95; refine (between_any _ _ _ _).mono ?_; rintro e w' ⟨rfl, rfl⟩)
            all_goals first
              | (go_ret
                 exact ⟨ret_int (by rw [HC.out, HK.out, HS.out, if_pos hmk']), hb0.trans ((hbl.alloc hbl.size _).mono hb0.size)⟩)
              | (exfalso; exact HSP.out ⟨‹_›, ‹_›, by simpa using ‹(!btw m.p 0 6) = false›⟩)
        · obtain rfl : k = n := by omega
          go_wp2
          go_ret
          exact ⟨ret_int (by rw [HC.out, HK.out, Nat.sub_self]; rfl), hb0.trans (hbl.mono hb0.size)⟩
    · have h3 : decide ((5 : Int) < (n : Int)) = true := by simp; omega
      have hck : check t l = 6 := by
        unfold check; rw [if_neg (by simp [h1]), if_pos (by omega)]
      have HC := Lib.hid hck
      clear hl hck
      go_enter Try.func58, Try.ntmps58
      go_wp2_with (go_at_call 95; refine (between_any _ _ _ _).mono ?_; rintro e w' ⟨rfl, rfl⟩)
      go_ret
      exact ⟨ret_int HC.out.symm, hb0⟩
  · have h1' : btw t 0 2 = false := by simpa using h1
    have hck : check t l = 1 := by
      unfold check; rw [if_pos h1']
    have HC := Lib.hid hck
    clear hl hck h1
    go_enter Try.func58, Try.ntmps58
    go_wp2_with (go_at_call 95; refine (between_any _ _ _ _).mono ?_; rintro e w' ⟨rfl, rfl⟩)
    go_ret
    exact ⟨ret_int HC.out.symm, hb0⟩
end Go.Proofs.Ytmennjmjakdkcaa
namespace Go.Proofs.Ytmennjmjakdkcaa
open Go.RowKit
set_option linter.unusedVariables false
set_option linter.unusedSimpArgs false

def mkAt (l : List Mk) (o : Int) : Mk := (l[o.toNat]?).getD ⟨0, 0, 0⟩
def wornS (m : Mk) (s : Sg) : Sg := ⟨onI (orI m.n s.n) s.l s.r, s.l, s.r, if s.b = -1 then -1 else m.b, if s.p = -1 then -1 else m.p⟩
end Go.Proofs.Ytmennjmjakdkcaa
