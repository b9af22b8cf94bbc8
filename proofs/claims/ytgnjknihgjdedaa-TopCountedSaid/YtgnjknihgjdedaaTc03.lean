/- TopCounted 3: HdV, HdX, Check, Fits, May. -/
import Derived.Test.YtgnjknihgjdedaaTc02
import Derived.Test.YtgnjknihgjdedaaTc01
namespace Go.Proofs.Ytgnjknihgjdedaa
set_option linter.unusedVariables false
set_option linter.unusedSimpArgs false

def minL : List Int → Int
  | [] => 0
  | x :: l => l.foldl min x
def maxL : List Int → Int
  | [] => 0
  | x :: l => l.foldl max x
theorem foldl_min (l : List Int) : ∀ a, (l.foldl min a = a ∨ l.foldl min a ∈ l) ∧ l.foldl min a ≤ a ∧ ∀ y ∈ l, l.foldl min a ≤ y := by
  induction l with
  | nil => intro a; simp
  | cons x l ih =>
    intro a
    rw [List.foldl_cons]
    obtain ⟨h1, h2, h3⟩ := ih (min a x)
    refine ⟨?_, by omega, fun y hy => ?_⟩
    · rcases h1 with h1 | h1
      · rw [h1]
        by_cases hax : a ≤ x
        · left; omega
        · right; rw [show min a x = x by omega]; exact List.mem_cons_self
      · exact .inr (List.mem_cons_of_mem _ h1)
    · rcases List.mem_cons.1 hy with rfl | hy
      · omega
      · exact h3 y hy
theorem foldl_max (l : List Int) : ∀ a, (l.foldl max a = a ∨ l.foldl max a ∈ l) ∧ a ≤ l.foldl max a ∧ ∀ y ∈ l, y ≤ l.foldl max a := by
  induction l with
  | nil => intro a; simp
  | cons x l ih =>
    intro a
    rw [List.foldl_cons]
    obtain ⟨h1, h2, h3⟩ := ih (max a x)
    refine ⟨?_, by omega, fun y hy => ?_⟩
    · rcases h1 with h1 | h1
      · rw [h1]
        by_cases hax : x ≤ a
        · left; omega
        · right; rw [show max a x = x by omega]; exact List.mem_cons_self
      · exact .inr (List.mem_cons_of_mem _ h1)
    · rcases List.mem_cons.1 hy with rfl | hy
      · omega
      · exact h3 y hy
theorem minL_spec {l : List Int} (h : l ≠ []) : minL l ∈ l ∧ ∀ y ∈ l, minL l ≤ y := by
  cases l with
  | nil => exact absurd rfl h
  | cons x l =>
    obtain ⟨h1, h2, h3⟩ := foldl_min l x
    refine ⟨?_, fun y hy => ?_⟩
    · show l.foldl min x ∈ x :: l
      rcases h1 with h1 | h1
      · rw [h1]; exact List.mem_cons_self
      · exact List.mem_cons_of_mem _ h1
    · rcases List.mem_cons.1 hy with rfl | hy
      · exact h2
      · exact h3 y hy
theorem maxL_spec {l : List Int} (h : l ≠ []) : maxL l ∈ l ∧ ∀ y ∈ l, y ≤ maxL l := by
  cases l with
  | nil => exact absurd rfl h
  | cons x l =>
    obtain ⟨h1, h2, h3⟩ := foldl_max l x
    refine ⟨?_, fun y hy => ?_⟩
    · show l.foldl max x ∈ x :: l
      rcases h1 with h1 | h1
      · rw [h1]; exact List.mem_cons_self
      · exact List.mem_cons_of_mem _ h1
    · rcases List.mem_cons.1 hy with rfl | hy
      · exact h2
      · exact h3 y hy
theorem minL_eq {l : List Int} {m : Int} (hm : m ∈ l) (h : ∀ y ∈ l, m ≤ y) : minL l = m := by
  obtain ⟨h1, h2⟩ := minL_spec (List.ne_nil_of_mem hm)
  have := h _ h1
  have := h2 _ hm
  omega
theorem maxL_eq {l : List Int} {m : Int} (hm : m ∈ l) (h : ∀ y ∈ l, y ≤ m) : maxL l = m := by
  obtain ⟨h1, h2⟩ := maxL_spec (List.ne_nil_of_mem hm)
  have := h _ h1
  have := h2 _ hm
  omega
theorem minL_congr {l m : List Int} (h : ∀ x, x ∈ l ↔ x ∈ m) : minL l = minL m := by
  by_cases hm : m = []
  · subst hm
    have : l = [] := List.eq_nil_iff_forall_not_mem.2 fun x hx => by have := (h x).1 hx; cases this
    rw [this]
  · obtain ⟨h1, h2⟩ := minL_spec hm
    exact minL_eq ((h _).2 h1) fun y hy => h2 y ((h y).1 hy)
theorem maxL_congr {l m : List Int} (h : ∀ x, x ∈ l ↔ x ∈ m) : maxL l = maxL m := by
  by_cases hm : m = []
  · subst hm
    have : l = [] := List.eq_nil_iff_forall_not_mem.2 fun x hx => by have := (h x).1 hx; cases this
    rw [this]
  · obtain ⟨h1, h2⟩ := maxL_spec hm
    exact maxL_eq ((h _).2 h1) fun y hy => h2 y ((h y).1 hy)
theorem minL_snoc (l : List Int) (x : Int) : minL (l ++ [x]) = if l = [] then x else min (minL l) x := by
  cases l with
  | nil => rfl
  | cons y l => rw [if_neg (by simp)]; simp [minL, List.foldl_append]
theorem maxL_snoc (l : List Int) (x : Int) : maxL (l ++ [x]) = if l = [] then x else max (maxL l) x := by
  cases l with
  | nil => rfl
  | cons y l => rw [if_neg (by simp)]; simp [maxL, List.foldl_append]

structure Rn where
  lo : Int
  hi : Int
  deriving DecidableEq
def rangeE (E : List (List Int)) (of : List Int → Int) : Rn := ⟨minL (E.map of), maxL (E.map of)⟩
theorem rangeE_congr {E E' : List (List Int)} {f g : List Int → Int} (h : ∀ x, x ∈ E ↔ x ∈ E') (hfg : ∀ x ∈ E', f x = g x) : rangeE E f = rangeE E' g := by
  have : ∀ y, y ∈ E.map f ↔ y ∈ E'.map g := fun y => by
    simp only [List.mem_map]
    exact ⟨fun ⟨x, hx, e⟩ => ⟨x, (h x).1 hx, by rw [← hfg x ((h x).1 hx), e]⟩, fun ⟨x, hx, e⟩ => ⟨x, (h x).2 hx, by rw [hfg x hx, e]⟩⟩
  unfold rangeE
  rw [minL_congr this, maxL_congr this]
theorem rangeE_perm {E E' : List (List Int)} {f : List Int → Int} (h : E.Perm E') : rangeE E f = rangeE E' f := rangeE_congr (fun x => h.mem_iff) fun _ _ => rfl
theorem rangeE_snoc (E : List (List Int)) (x : List Int) (f : List Int → Int) : rangeE (E ++ [x]) f = if E = [] then ⟨f x, f x⟩ else ⟨min (rangeE E f).lo (f x), max (rangeE E f).hi (f x)⟩ := by
  unfold rangeE
  rw [List.map_append, List.map_singleton, minL_snoc, maxL_snoc]
  by_cases h : E = []
  · simp [h]
  · simp [h]
def totalL (E : List (List Int)) (nf : Nat) : List Rn := (List.range nf).map fun f => rangeE E fun h => hall h f
def namD (d : De) : De :=
  if d.kind = 1 ∨ d.kind = 3 then ⟨d.kind, d.flock, d.owner, 0, 0, d.many, 0, ⟨0, false, false, 0, 0⟩⟩
  else if d.kind = 2 then ⟨d.kind, d.flock, d.owner, d.other, 0, d.many, 0, ⟨0, false, false, 0, 0⟩⟩
  else if d.kind = 4 then ⟨d.kind, d.flock, 0, 0, 0, d.many, 0, ⟨0, false, false, 0, 0⟩⟩
  else if d.kind = 5 then ⟨d.kind, d.flock, 0, 0, d.tof, 0, 0, d.s⟩
  else ⟨d.kind, d.flock, 0, 0, 0, d.many, d.err, ⟨0, false, false, 0, 0⟩⟩
def ownB (n : Nat) (x : Int) : Bool := btw x 0 ((n : Int) - 1)
def fldE (n nf : Nat) (d : De) : Int :=
  if d.kind = 1 ∨ d.kind = 3 then (if ownB n d.owner = false then 3 else if btw d.many 1 20 = false then 1 else 0)
  else if d.kind = 2 then (if ownB n d.owner = false ∨ ownB n d.other = false then 3 else if d.owner = d.other then 4 else if btw d.many 1 20 = false then 1 else 0)
  else if d.kind = 4 then (if btw d.many 1 3 = false then 1 else 0)
  else if d.kind = 5 then (if ownB nf d.tof = false then 3 else if d.tof = d.flock then 4 else seen d.s 9 6)
  else (if btw d.many 0 300 = false ∨ btw d.err 0 20 = false then 1 else 0)
def deedE (n nf : Nat) (d : De) : Int :=
  if btw d.kind 1 6 = false then 8 else if ownB nf d.flock = false then 3 else if fldE n nf d ≠ 0 then fldE n nf d else if d ≠ namD d then 1 else 0
def flocksE (n : Nat) (ks : List Int) (hs : List (List Int)) : Int :=
  if ks.length = 0 then 7 else if 3 < ks.length then 6 else if ks.all (ownB n) = false then 3 else if hs.length ≠ ks.length then 2
  else if hs.all (fun r => decide (r.length = n)) = false then 2 else if hs.all (fun r => r.all fun x => btw x 0 20) = false then 1 else 0
def deedsE (n nf : Nat) : List De → Int
  | [] => 0
  | d :: l => if deedE n nf d ≠ 0 then deedE n nf d else deedsE n nf l
def checkH (t : Int) (l : List Mk) (ks : List Int) (hs : List (List Int)) (ds : List De) : Int :=
  if check t l ≠ 0 then check t l else if flocksE l.length ks hs ≠ 0 then flocksE l.length ks hs else if 6 < ds.length then 6 else deedsE l.length ks.length ds
theorem ownB_iff {n : Nat} {x : Int} : ownB n x = true ↔ 0 ≤ x ∧ x < n := by unfold ownB; rw [btw_iff]; omega
theorem ite0 {c : Prop} [Decidable c] {k x : Int} (hk : k ≠ 0) (h : (if c then k else x) = 0) : ¬ c ∧ x = 0 := by
  split at h
  · exact absurd h hk
  · exact ⟨by assumption, h⟩
theorem deedE_in {n nf : Nat} {d : De} (hn : n ≤ 5) (hf : nf ≤ 3) (hf0 : 0 < nf) (hn0 : 0 < n) (h : deedE n nf d = 0) : DeIn n nf d ∧ d = namD d := by
  unfold deedE at h
  split at h
  · cases h
  rename_i h1
  split at h
  · cases h
  rename_i h2
  split at h
  · exact absurd h (by assumption)
  rename_i h3
  split at h
  · cases h
  rename_i h4
  have h4 : d = namD d := Classical.not_not.1 h4
  refine ⟨?_, h4⟩
  have hk := btw_iff.1 ((Bool.not_eq_false _).mp h1)
  have hfl := ownB_iff.1 ((Bool.not_eq_false _).mp h2)
  have h3 : fldE n nf d = 0 := Classical.not_not.1 h3
  clear h1 h2
  unfold fldE at h3
  unfold namD at h4
  obtain ⟨kind, flock, owner, other, tof, many, err, s⟩ := d
  dsimp only at *
  obtain e | e | e | e | e | e : kind = 1 ∨ kind = 2 ∨ kind = 3 ∨ kind = 4 ∨ kind = 5 ∨ kind = 6 := by omega
  all_goals subst e
  · rw [if_pos (by decide)] at h3 h4
    obtain ⟨a1, h3⟩ := ite0 (by decide) h3
    obtain ⟨a2, -⟩ := ite0 (by decide) h3
    injection h4 with _ _ _ e1 e2 _ e3 e4
    subst e1 e2 e3 e4
    have a1 := ownB_iff.1 ((Bool.not_eq_false _).mp a1)
    have a2 := btw_iff.1 ((Bool.not_eq_false _).mp a2)
    exact ⟨by dsimp; omega, by dsimp; omega, by dsimp; omega, by dsimp; omega, by dsimp; omega, by dsimp; omega, by dsimp; omega, by dsimp; omega, by dsimp; omega, by dsimp; intro h; omega⟩
  · rw [if_neg (by decide), if_pos (by decide)] at h3 h4
    obtain ⟨a1, h3⟩ := ite0 (by decide) h3
    obtain ⟨a3, h3⟩ := ite0 (by decide) h3
    obtain ⟨a2, -⟩ := ite0 (by decide) h3
    injection h4 with _ _ _ _ e2 _ e3 e4
    subst e2 e3 e4
    have a0 := ownB_iff.1 ((Bool.not_eq_false _).mp (fun h => a1 (.inl h)))
    have a4 := ownB_iff.1 ((Bool.not_eq_false _).mp (fun h => a1 (.inr h)))
    have a2 := btw_iff.1 ((Bool.not_eq_false _).mp a2)
    exact ⟨by dsimp; omega, by dsimp; omega, by dsimp; omega, by dsimp; omega, by dsimp; omega, by dsimp; omega, by dsimp; omega, by dsimp; omega, by dsimp; omega, by dsimp; intro h; omega⟩
  · rw [if_pos (by decide)] at h3 h4
    obtain ⟨a1, h3⟩ := ite0 (by decide) h3
    obtain ⟨a2, -⟩ := ite0 (by decide) h3
    injection h4 with _ _ _ e1 e2 _ e3 e4
    subst e1 e2 e3 e4
    have a1 := ownB_iff.1 ((Bool.not_eq_false _).mp a1)
    have a2 := btw_iff.1 ((Bool.not_eq_false _).mp a2)
    exact ⟨by dsimp; omega, by dsimp; omega, by dsimp; omega, by dsimp; omega, by dsimp; omega, by dsimp; omega, by dsimp; omega, by dsimp; omega, by dsimp; omega, by dsimp; intro h; omega⟩
  · rw [if_neg (by decide), if_neg (by decide), if_pos (by decide)] at h3 h4
    obtain ⟨a2, -⟩ := ite0 (by decide) h3
    injection h4 with _ _ e0 e1 e2 _ e3 e4
    subst e0 e1 e2 e3 e4
    have a2 := btw_iff.1 ((Bool.not_eq_false _).mp a2)
    exact ⟨by dsimp; omega, by dsimp; omega, by dsimp; omega, by dsimp; omega, by dsimp; omega, by dsimp; omega, by dsimp; omega, by dsimp; omega, by dsimp; omega, by dsimp; intro h; omega⟩
  · rw [if_neg (by decide), if_neg (by decide), if_neg (by decide), if_pos (by decide)] at h3 h4
    obtain ⟨a1, h3⟩ := ite0 (by decide) h3
    have hst := (ite0 (by decide) h3).2
    injection h4 with _ _ e0 e1 _ e2 e3 _
    subst e0 e1 e2 e3
    have a1 := ownB_iff.1 ((Bool.not_eq_false _).mp a1)
    exact ⟨by dsimp; omega, by dsimp; omega, by dsimp; omega, by dsimp; omega, by dsimp; omega, by dsimp; omega, by dsimp; omega, by dsimp; omega, by dsimp; omega, fun _ => hst⟩
  · rw [if_neg (by decide), if_neg (by decide), if_neg (by decide), if_neg (by decide)] at h3 h4
    obtain ⟨a1, -⟩ := ite0 (by decide) h3
    injection h4 with _ _ e0 e1 e2 _ _ e4
    subst e0 e1 e2 e4
    have a0 := btw_iff.1 ((Bool.not_eq_false _).mp (fun h => a1 (.inl h)))
    have a4 := btw_iff.1 ((Bool.not_eq_false _).mp (fun h => a1 (.inr h)))
    exact ⟨by dsimp; omega, by dsimp; omega, by dsimp; omega, by dsimp; omega, by dsimp; omega, by dsimp; omega, by dsimp; omega, by dsimp; omega, by dsimp; omega, by dsimp; intro h; omega⟩
theorem deedsE_all {n nf : Nat} : ∀ {l : List De}, deedsE n nf l = 0 ↔ ∀ d ∈ l, deedE n nf d = 0
  | [] => by simp [deedsE]
  | d :: l => by
    unfold deedsE
    by_cases h : deedE n nf d = 0
    · rw [if_neg (by simpa using h), deedsE_all]; simp [h]
    · rw [if_pos h]; simp [h]
structure HeOk (t : Int) (l : List Mk) (ks : List Int) (hs : List (List Int)) (ds : List De) : Prop where
  ck : check t l = 0
  n5 : l.length ≤ 5
  n0 : 0 < l.length
  f0 : 0 < ks.length
  f3 : ks.length ≤ 3
  kk : ∀ k ∈ ks, 0 ≤ k ∧ k < l.length
  hl : hs.length = ks.length
  rl : ∀ r ∈ hs, r.length = l.length
  rb : ∀ r ∈ hs, ∀ x ∈ r, 0 ≤ x ∧ x ≤ 20
  d6 : ds.length ≤ 6
  dE : ∀ d ∈ ds, deedE l.length ks.length d = 0
  dI : ∀ d ∈ ds, DeIn l.length ks.length d
theorem checkH_ok {t : Int} {l : List Mk} {ks : List Int} {hs : List (List Int)} {ds : List De} (h : checkH t l ks hs ds = 0) : HeOk t l ks hs ds := by
  unfold checkH at h
  split at h
  · exact absurd h (by assumption)
  rename_i h1
  split at h
  · exact absurd h (by assumption)
  rename_i h2
  split at h
  · cases h
  rename_i h3
  have h1 : check t l = 0 := Classical.not_not.1 h1
  have h2 : flocksE l.length ks hs = 0 := Classical.not_not.1 h2
  have h5 := (check_ok h1).2.2.1
  unfold flocksE at h2
  split at h2
  · cases h2
  rename_i f0
  split at h2
  · cases h2
  rename_i f3
  split at h2
  · cases h2
  rename_i fk
  split at h2
  · cases h2
  rename_i fl
  split at h2
  · cases h2
  rename_i fr
  split at h2
  · cases h2
  rename_i fb
  have fk := List.all_eq_true.1 ((Bool.not_eq_false _).mp fk)
  have fr := List.all_eq_true.1 ((Bool.not_eq_false _).mp fr)
  have fb := List.all_eq_true.1 ((Bool.not_eq_false _).mp fb)
  have kk : ∀ k ∈ ks, 0 ≤ k ∧ k < l.length := fun k hk => ownB_iff.1 (fk k hk)
  have n0 : 0 < l.length := by
    cases ks with
    | nil => exact absurd rfl f0
    | cons k ks => have := kk k List.mem_cons_self; omega
  have dE := deedsE_all.1 h
  exact ⟨h1, h5, n0, by omega, by omega, kk, by omega, fun r hr => by simpa using fr r hr, fun r hr x hx => btw_iff.1 (List.all_eq_true.1 (fb r hr) x hx), by omega, dE, fun d hd => (deedE_in h5 (by omega) (by omega) n0 (dE d hd)).1⟩
end Go.Proofs.Ytgnjknihgjdedaa
namespace Go.Proofs.Ytgnjknihgjdedaa
set_option linter.unusedVariables false
set_option linter.unusedSimpArgs false

structure Sm where
  first : Int
  born : Int
  bought : Int
  sold : Int
  eaten : Int
  deriving DecidableEq
def stepS (o : Int) (s : Sm) (d : De) : Sm :=
  if d.owner = o ∧ d.kind = 1 then { s with born := s.born + d.many }
  else if d.owner = o ∧ d.kind = 2 then { s with sold := s.sold + d.many }
  else if d.owner = o ∧ d.kind = 3 then { s with eaten := s.eaten + d.many }
  else if d.kind = 2 ∧ d.other = o then { s with bought := s.bought + d.many } else s
def sumS (hs : List (List Int)) (o : Nat) (ds : List De) : Sm := ds.foldl (stepS o) ⟨howned (firstH hs) o, 0, 0, 0, 0⟩
def hasS (s : Sm) : Int := s.first + s.born + s.bought - s.sold - s.eaten
theorem sumS_snoc (hs : List (List Int)) (o : Nat) (ds : List De) {k : Nat} {d : De} (h : ds[k]? = some d) : sumS hs o (ds.take (k + 1)) = stepS o (sumS hs o (ds.take k)) d := by
  unfold sumS
  rw [List.take_add_one, h, List.foldl_append]
  rfl
def delta (o : Int) (d : De) : Int := (if d.kind = 1 ∧ d.owner = o then d.many else 0) + (if d.kind = 2 ∧ d.other = o then d.many else 0) - (if d.kind = 2 ∧ d.owner = o then d.many else 0) - (if d.kind = 3 ∧ d.owner = o then d.many else 0)
theorem hasS_step (o : Int) (s : Sm) (d : De) (h : d.kind = 2 → d.owner ≠ d.other) : hasS (stepS o s d) = hasS s + delta o d := by
  unfold stepS delta hasS
  by_cases h1 : d.kind = 1
  · by_cases h2 : d.owner = o <;> simp [h1, h2] <;> omega
  · by_cases h3 : d.kind = 2
    · have hne := h h3
      by_cases h2 : d.owner = o
      · have : d.other ≠ o := fun e => hne (h2.trans e.symm)
        simp [h3, h2, this]; omega
      · by_cases h4 : d.other = o <;> simp [h3, h2, h4] <;> omega
    · by_cases h4 : d.kind = 3
      · by_cases h2 : d.owner = o <;> simp [h4, h2] <;> omega
      · simp [h1, h3, h4]
end Go.Proofs.Ytgnjknihgjdedaa
namespace Go.Proofs.Ytgnjknihgjdedaa
open Go.RowKit
set_option linter.unusedVariables false
set_option linter.unusedSimpArgs false

theorem between_any (n lo hi : Int) (w : World) :
    Calls Try.prog 80 #[.int .i64 n, .int .i64 lo, .int .i64 hi] w fun e w' => e = .returned (.bool (btw n lo hi)) ∧ w = w' := by
  by_cases h1 : lo ≤ n <;> by_cases h2 : n ≤ hi
  all_goals
    go_enter Try.func80, Try.ntmps80
    go_wp2
    go_ret
    exact ⟨by simp [btw, h1, h2], rfl⟩

theorem but_any (n m : Int) (w : World) (hn : 0 ≤ n) (hn' : n ≤ 255) (hm : 0 ≤ m) (hm' : m ≤ 255) :
    Calls Try.prog 42 #[.int .i64 n, .int .i64 m] w fun e w' => e = .returned (.int .i64 (butI n m)) ∧ w = w' := by
  go_enter Try.func42, Try.ntmps42
  go_wp2
  go_ret
  exact ⟨ret_int (bits_andNot n m hn hn' hm hm'), rfl⟩

theorem ones64 (x : Int) (w : World) (h0 : 0 ≤ x) (h1 : x ≤ 255) :
    Calls Try.prog 88 #[.int .u64 x] w fun e w' => e = .returned (.int .i64 (popI x)) ∧ w = w' := by
  go_enter Try.func88, Try.ntmps88
  go_wp2
  go_ret
  refine ⟨ret_int ?_, rfl⟩
  obtain ⟨y, rfl⟩ := Int.eq_ofNat_of_zero_le h0
  have h : y < 256 := by omega
  clear h0 h1
  revert y
  decide +kernel
theorem count_any (n : Int) (w : World) (hn : 0 ≤ n) (hn' : n ≤ 255) :
    Calls Try.prog 43 #[.int .i64 n] w fun e w' => e = .returned (.int .i64 (popI n)) ∧ w = w' := by
  have hw : IntKind.u64.wrap n = n := IntWalk.u64_in _ (by omega)
  go_enter Try.func43, Try.ntmps43
  go_wp2_with (first | (go_at_call 88; refine (ones64 n _ hn hn').mono ?_; rintro e w' ⟨rfl, rfl⟩) | go_in)
  go_ret
  exact ⟨rfl, rfl⟩
theorem on_any (n : Int) (s : Sg) (w : World) (hn : 0 ≤ n) (hn' : n ≤ 255) :
    Calls Try.prog 44 #[.int .i64 n, vSg s] w fun e w' => e = .returned (.int .i64 (onI n s.l s.r)) ∧ Below w.heap.size w w' := by
  obtain ⟨sn, l, r, sb, sp⟩ := s
  unfold vSg
  have h1 := bits_andNot n 15 hn hn' (by omega) (by omega)
  have h2 := bits_andNot n 240 hn hn' (by omega) (by omega)
  have h3 := bits_andNot (butI n 15) 240 (butI_lo _ _) (butI_hi _ _) (by omega) (by omega)
  have H := Lib.hid (And.intro h1 (And.intro h2 h3))
  clear h1 h2 h3
  cases l <;> cases r
  all_goals
    go_enter Try.func44, Try.ntmps44
    go_wp2
    go_ret
    refine ⟨ret_int ?_, (Below.refl _ _).alloc (Nat.le_refl _) _⟩
  · exact (onI_ff n hn hn').symm
  · exact H.out.2.1.trans (onI_ft n hn hn').symm
  · exact H.out.1.trans (onI_tf n hn hn').symm
  · refine Eq.trans ?_ (onI_tt n hn hn').symm
    show bits .andNot .i64 (bits .andNot .i64 n 15) 240 = _
    rw [H.out.1, H.out.2.2]
end Go.Proofs.Ytgnjknihgjdedaa

namespace Go.Proofs.Ytgnjknihgjdedaa
open Go.RowKit
set_option linter.unusedVariables false
set_option linter.unusedSimpArgs false

theorem seen_any (s : Sg) (b p : Int) (w : World) :
    Calls Try.prog 41 #[vSg s, .int .i64 b, .int .i64 p] w fun e w' => e = .returned (.int .i64 (seen s b p)) ∧ Below w.heap.size w w' := by
  by_cases h1 : btw s.n 0 255 = true
  · have h1' := btw_iff.1 h1
    go_enter Try.func41, Try.ntmps41
    unfold vSg
    go_wp2_with (first
      | (go_at_call 80; refine (between_any _ _ _ _).mono ?_; rintro e w' ⟨rfl, rfl⟩)
      | (go_at_call 44; refine (on_any s.n s _ h1'.1 h1'.2).mono ?_; rintro e w1 ⟨rfl, hb1⟩; obtain ⟨hc1, hf1⟩ := bc hb1; have hz1 := hb1.size))
    all_goals
      go_ret
      refine ⟨ret_int ?_, ?_⟩
      · simp_all [seen]
      · exact ((Below.refl _ _).alloc (Nat.le_refl _) _).trans (hb1.mono (by simp))
  · have h1' : btw s.n 0 255 = false := by simpa using h1
    go_enter Try.func41, Try.ntmps41
    unfold vSg
    go_wp2_with (go_at_call 80; refine (between_any _ _ _ _).mono ?_; rintro e w' ⟨rfl, rfl⟩)
    go_ret
    exact ⟨ret_int (by simp [seen, h1']), (Below.refl _ _).alloc (Nat.le_refl _) _⟩
theorem sight_any (s : Sg) (w : World) :
    Calls Try.prog 81 #[vSg s] w fun e w' => e = .returned (.int .i64 (seen s 9 6)) ∧ Below w.heap.size w w' := by
  go_enter Try.func81, Try.ntmps81
  unfold vSg
  go_wp2_with (go_at_call 41; refine (seen_any s 9 6 _).mono ?_; rintro e w1 ⟨rfl, hb1⟩)
  go_ret
  exact ⟨rfl, ((Below.refl _ _).alloc (Nat.le_refl _) _).trans (hb1.mono (by simp))⟩

theorem all_step {L : List Int} {q : Nat} {x : Int} {f : Int → Bool} (h : (L.take q).all f = true) (hx : L[q]? = some x) (hf : f x = true) : (L.take (q + 1)).all f = true := by
  rw [List.take_add_one, hx, List.all_append, h]; simp [hf]
theorem all_not {L : List Int} {q : Nat} {x : Int} {f : Int → Bool} (hx : L[q]? = some x) (hf : f x = false) : L.all f = false := by
  rw [List.all_eq_false]; exact ⟨x, List.mem_of_getElem? hx, by simp [hf]⟩
end Go.Proofs.Ytgnjknihgjdedaa

namespace Go.Proofs.Ytgnjknihgjdedaa
open Go.RowKit
set_option linter.unusedVariables false
set_option linter.unusedSimpArgs false

theorem chk_step {l : List Mk} {n k : Nat} {m : Mk} (hl : l.length = n) (hk : k < n) (hm : l[k]? = some m) :
    chk l (n - k) k = if mkOk m = false then 1 else if (l.take k).contains m then 4 else chk l (n - (k + 1)) (k + 1) := by
  obtain ⟨j, hj⟩ : ∃ j, n - k = j + 1 := ⟨n - k - 1, by omega⟩
  rw [hj, show n - (k + 1) = j by omega]
  simp only [chk, hm]
theorem take_no {l : List Mk} {q : Nat} {x m : Mk} (h : (l.take q).contains m = false) (hx : l[q]? = some x) (hne : ¬ x = m) : (l.take (q + 1)).contains m = false := by
  have hlt : q < l.length := (List.getElem?_eq_some_iff.1 hx).1
  rw [List.take_add_one, hx]
  simp only [Option.toList, List.contains_eq_mem, decide_eq_false_iff_not, List.mem_append, List.mem_singleton, not_or] at h ⊢
  exact ⟨h, fun e => hne e.symm⟩
theorem take_yes {l : List Mk} {q k : Nat} {m : Mk} (hx : l[q]? = some m) (hq : q < k) : (l.take k).contains m = true := by
  simp only [List.contains_eq_mem, decide_eq_true_eq]
  exact List.mem_of_getElem? (i := q) (by rw [List.getElem?_take, if_pos hq]; exact hx)

set_option maxHeartbeats 1000000 in
theorem check_any (t : Int) (A : Option Addr) (n c : Nat) (l : List Mk) (w : World) (hc : Marks w A n l) (hlc : n ≤ c) (hcm : c ≤ maxLen) :
    Calls Try.prog 39 #[.agg #[.int .i64 t, .slice A n c]] w fun e w' => e = .returned (.int .i64 (check t l)) ∧ Below w.heap.size w w' := by
  have hl := hc.len
  have HL := Lib.hid hl
  unfold maxLen at hcm
  have hb0 : Below w.heap.size w (w.alloc (Obj.cells #[Value.int IntKind.i64 t, Value.slice A n c] 41)) := (Below.refl _ _).alloc (Nat.le_refl _) _
  by_cases h1 : btw t 0 2 = true
  · by_cases h2 : n ≤ 5
    · have hck : check t l = chk l (n - 0) 0 := by
        unfold check; rw [if_neg (by simp [h1]), if_neg (by omega), hl]; rfl
      have HC := Lib.hid hck
      clear hl hck
      have h3 : decide ((5 : Int) < (n : Int)) = false := by simp; omega
      have hc0 := hc.alloc (Obj.cells #[Value.int IntKind.i64 t, Value.slice A n c] 41)
      have hblk : (w.alloc (Obj.cells #[Value.int IntKind.i64 t, Value.slice A n c] 41)).heap[w.heap.size]? = some (Obj.cells #[Value.int IntKind.i64 t, Value.slice A n c] 41 (0, 0)) := heap_alloc_new w _
      go_enter Try.func39, Try.ntmps39
      go_wp2_with (go_at_call 80; refine (between_any _ _ _ _).mono ?_; rintro e w' ⟨rfl, rfl⟩)
      generalize hW : (w.alloc (Obj.cells #[Value.int IntKind.i64 t, Value.slice A n c] 41)) = W0 at hc0 hblk hb0 ⊢
      clear hW
      have hw0 := heap_lt hblk
      go_loopg [18] n (fun g i wr => ∃ k : Nat, k + g = n ∧ i = .int .i64 k ∧ chk l (n - 0) 0 = chk l (n - k) k ∧ Below W0.heap.size W0 wr)
      case atStart => exact ⟨0, by omega, rfl, rfl, Below.refl _ _⟩
      case round =>
        obtain ⟨k, hk, rfl, hchk, hbl⟩ := hrel
        obtain ⟨wo, rfl⟩ : ∃ wo : World, wo = wr := ⟨_, rfl⟩
        obtain ⟨g1, rfl⟩ : ∃ g1 : Nat, g1 = gk := ⟨_, rfl⟩
        have HK := Lib.hid hchk
        have HKG := Lib.hid hk
        have hk' : k ≤ n := by omega
        clear hchk hk
        have hs0 := hbl.size
        by_cases hlt : k < n
        · obtain ⟨b, off, m, rfl, hb, hm, c0, c1, c2⟩ := Marks.get (hc0.below hbl (Nat.le_refl _)) hlt
          have HM := Lib.hid hm
          have HS := Lib.hid (chk_step HL.out hlt hm)
          clear hm
          have r1 : wo.cell? ⟨w.heap.size, 1, none⟩ = some (.slice (some ⟨b, off, none⟩) n c) := by
            have := bheap hblk hbl (Nat.le_refl _); simp [World.cell?, this]
          have hmarks := (hc0.below hbl (Nat.le_refl _)).alloc (Obj.cells #[Value.int IntKind.i64 m.n, Value.int IntKind.i64 m.b, Value.int IntKind.i64 m.p] 44)
          have hwr : w.heap.size < wo.heap.size := by omega
          by_cases hmk : mkOk m = true
          · have h4 : btw m.n 0 255 = true := by simp [mkOk] at hmk; exact hmk.1
            have h5 : btw m.b 0 9 = true := by simp [mkOk] at hmk; exact hmk.2.1
            have h6 : btw m.p 0 6 = true := by simp [mkOk] at hmk; exact hmk.2.2
            go_wp2_with (go_at_call 80; refine (between_any _ _ _ _).mono ?_; rintro e w' ⟨rfl, rfl⟩)
            generalize hW1 : (wo.alloc (Obj.cells #[Value.int IntKind.i64 m.n, Value.int IntKind.i64 m.b, Value.int IntKind.i64 m.p] 44)) = W1 at hmarks ⊢
            have hblk1 : W1.heap[wo.heap.size]? = some (Obj.cells #[Value.int IntKind.i64 m.n, Value.int IntKind.i64 m.b, Value.int IntKind.i64 m.p] 44 (0, 0)) := by rw [← hW1]; exact heap_alloc_new wo _
            have hb1 : Below W0.heap.size W0 W1 := by rw [← hW1]; exact hbl.alloc hbl.size _
            clear hW1
            have hw1 := heap_lt hblk1
            go_loopg [44] k (fun g i wr => ∃ q : Nat, q + g = k ∧ i = .int .i64 q ∧ (l.take q).contains m = false ∧ Below W1.heap.size W1 wr)
            case atStart => exact ⟨0, by omega, rfl, by simp, Below.refl _ _⟩
            case round =>
              obtain ⟨q, hq, rfl, hno, hbi⟩ := hrel
              have HN := Lib.hid hno
              have HQ := Lib.hid hq
              have hq' : q ≤ k := by omega
              clear hno hq
              have hs1 := hbi.size
              by_cases hqk : q < k
              · obtain ⟨b', off', x, hA, hb', hx, d0, d1, d2⟩ := Marks.get (hmarks.below hbi (Nat.le_refl _)) (show q < n by omega)
                obtain ⟨rfl, rfl⟩ : b' = b ∧ off' = off := by simpa [eq_comm] using hA
                have HX := Lib.hid hx
                clear hx hA
                have e0 : wr.cell? ⟨wo.heap.size, 0, none⟩ = some (.int .i64 m.n) := by have := bheap hblk1 hbi (Nat.le_refl _); simp [World.cell?, this]
                have e1 : wr.cell? ⟨wo.heap.size, 1, none⟩ = some (.int .i64 m.b) := by have := bheap hblk1 hbi (Nat.le_refl _); simp [World.cell?, this]
                have e2 : wr.cell? ⟨wo.heap.size, 2, none⟩ = some (.int .i64 m.p) := by have := bheap hblk1 hbi (Nat.le_refl _); simp [World.cell?, this]
                have hwi : wo.heap.size < wr.heap.size := by omega
                by_cases hxm : x = m
                · subst hxm
                  go_wp2
                  go_ret
                  refine ⟨ret_int ?_, ?_⟩
                  · rw [HC.out, HK.out, HS.out, if_neg (by simp [hmk]), if_pos (take_yes HX.out hqk)]
                  · exact hb0.trans ((hb1.trans (hbi.mono hb1.size)).mono hb0.size |>.alloc (by omega) _)
                · have hne : ¬ (x.n = m.n ∧ x.b = m.b ∧ x.p = m.p) := fun h => hxm (by cases x; cases m; simp_all)
                  have HNE := Lib.hid hne
                  clear hne hxm
                  go_wp2
                  · exact absurd ⟨‹_›, ‹_›, ‹_›⟩ HNE.out
                  all_goals
                    go_roundg (gk - 1)
                    case measure => have := HQ.out; omega
                    case rel => exact ⟨q + 1, by have := HQ.out; omega, by go_num, take_no HN.out HX.out (fun e => HNE.out (by rw [e]; exact ⟨rfl, rfl, rfl⟩)), hbi.alloc hbi.size _⟩
              · obtain rfl : q = k := by omega
                go_wp2
                go_roundg (g1 - 1)
                case measure => have := HKG.out; omega
                case rel =>
                  refine ⟨q + 1, by have := HKG.out; omega, by go_num, ?_, (hb1.trans (hbi.mono hb1.size))⟩
                  rw [HK.out, HS.out, if_neg (by simp [hmk]), if_neg (by rw [HN.out]; simp)]
          · have hmk' : mkOk m = false := by simpa using hmk
            have hsp : ¬ (btw m.n 0 255 = true ∧ btw m.b 0 9 = true ∧ btw m.p 0 6 = true) := by simpa [mkOk] using hmk
            have HSP := Lib.hid hsp
            clear hsp hmk
            go_wp2_with (go_at_call 80; refine (between_any _ _ _ _).mono ?_; rintro e w' ⟨rfl, rfl⟩)
            all_goals first
              | (go_ret
                 exact ⟨ret_int (by rw [HC.out, HK.out, HS.out, if_pos hmk']), hb0.trans ((hbl.alloc hbl.size _).mono hb0.size)⟩)
              | (exfalso; exact HSP.out ⟨‹_›, ‹_›, by simpa using ‹(!btw m.p 0 6) = false›⟩)
        · obtain rfl : k = n := by omega
          go_wp2
          go_ret
          exact ⟨ret_int (by rw [HC.out, HK.out, Nat.sub_self]; rfl), hb0.trans (hbl.mono hb0.size)⟩
    · have h3 : decide ((5 : Int) < (n : Int)) = true := by simp; omega
      have hck : check t l = 6 := by
        unfold check; rw [if_neg (by simp [h1]), if_pos (by omega)]
      have HC := Lib.hid hck
      clear hl hck
      go_enter Try.func39, Try.ntmps39
      go_wp2_with (go_at_call 80; refine (between_any _ _ _ _).mono ?_; rintro e w' ⟨rfl, rfl⟩)
      go_ret
      exact ⟨ret_int HC.out.symm, hb0⟩
  · have h1' : btw t 0 2 = false := by simpa using h1
    have hck : check t l = 1 := by
      unfold check; rw [if_pos h1']
    have HC := Lib.hid hck
    clear hl hck h1
    go_enter Try.func39, Try.ntmps39
    go_wp2_with (go_at_call 80; refine (between_any _ _ _ _).mono ?_; rintro e w' ⟨rfl, rfl⟩)
    go_ret
    exact ⟨ret_int HC.out.symm, hb0⟩
end Go.Proofs.Ytgnjknihgjdedaa
namespace Go.Proofs.Ytgnjknihgjdedaa
open Go.RowKit
set_option linter.unusedVariables false
set_option linter.unusedSimpArgs false

set_option maxHeartbeats 1000000 in
theorem fits_any (t : Int) (v : Value) (s : Sg) (m : Mk) (w : World) (hs : 0 ≤ s.n) (hs' : s.n ≤ 255) (hm : 0 ≤ m.n) (hm' : m.n ≤ 255) :
    Calls Try.prog 104 #[.agg #[.int .i64 t, v], vSg s, vMk m] w fun e w' => e = .returned (.bool (fits s m t)) ∧ Below w.heap.size w w' := by
  have ho := onI_lo m.n s.l s.r
  have ho' := onI_hi m.n s.l s.r
  have hb := butI_lo s.n (onI m.n s.l s.r)
  have hb' := butI_hi s.n (onI m.n s.l s.r)
  go_enter Try.func104, Try.ntmps104
  unfold vSg vMk
  go_upto_region 1 with (fail)
  go_cut [30] (fun q wc => q = .bool (!alikeBP s m) ∧ (((w.alloc (Obj.cells #[Value.int .i64 t, v] 98)).alloc (Obj.cells #[Value.int .i64 s.n, .bool s.l, .bool s.r, .int .i64 s.b, .int .i64 s.p] 52)).alloc (Obj.cells #[Value.int .i64 m.n, .int .i64 m.b, .int .i64 m.p] 44)) = wc)
  case first =>
    cases e1 : (s.b != -1) <;> cases e2 : (s.b != m.b) <;> cases e3 : (s.p != -1) <;> cases e4 : (s.p != m.p)
    all_goals
      go_wp2
      go_meet
      exact ⟨by simp_all [alikeBP], rfl⟩
  case rest =>
    obtain ⟨rfl, rfl⟩ := hcut
    cases hal : alikeBP s m
    · have HF := Lib.hid (show fits s m t = false by simp [fits, hal])
      go_wp2_with fail
      go_ret
      exact ⟨ret_bool HF.out.symm, (((Below.refl _ _).alloc (Nat.le_refl _) _).alloc (by simp) _).alloc (by simp; omega) _⟩
    · have HF := Lib.hid hal
      clear hal
      go_wp2_with fail
      obtain ⟨W2, hW2⟩ : ∃ W2, W2 = ((w.alloc (Obj.cells #[Value.int .i64 t, v] 98)).alloc (Obj.cells #[Value.int .i64 s.n, .bool s.l, .bool s.r, .int .i64 s.b, .int .i64 s.p] 52)).alloc (Obj.cells #[Value.int .i64 m.n, .int .i64 m.b, .int .i64 m.p] 44) := ⟨_, rfl⟩
      rw [← hW2]
      have hB : Below w.heap.size w W2 := by rw [hW2]; exact (((Below.refl _ _).alloc (Nat.le_refl _) _).alloc (by simp) _).alloc (by simp; omega) _
      have b3 : W2.heap[w.heap.size]? = some (Obj.cells #[Value.int .i64 t, v] 98 (0, 0)) := by rw [hW2]; exact hblk_alloc (hblk_alloc (alloc_at rfl) _) _
      have b4 : W2.heap[w.heap.size + 1]? = some (Obj.cells #[Value.int .i64 s.n, .bool s.l, .bool s.r, .int .i64 s.b, .int .i64 s.p] 52 (0, 0)) := by rw [hW2]; exact hblk_alloc (alloc_at (by simp)) _
      have b5 : W2.heap[w.heap.size + 1 + 1]? = some (Obj.cells #[Value.int .i64 m.n, .int .i64 m.b, .int .i64 m.p] 44 (0, 0)) := by rw [hW2]; exact alloc_at (by simp)
      clear hW2
      obtain ⟨c0, c1, c2, c3, c4⟩ := blk5 b4
      have k0 := cell_regrown c0
      have k1 := cell_regrown c1
      have k2 := cell_regrown c2
      have k3 := cell_regrown c3
      have k4 := cell_regrown c4
      have k5 := cell_regrown (blk3 b5).1
      have cOn : ∀ d os, Calls Try.prog 44 #[.int .i64 m.n, vSg s] (Sort.grow (redrawn W2 d) os) (fun e w'' => e = .returned (.int .i64 (onI m.n s.l s.r)) ∧ ∃ p : Regrown, w'' = Sort.grow (redrawn W2 p.d) p.os) := fun d os => Calls.regrown_of (on_any m.n s _ hm hm')
      have HCon := Lib.hid cOn
      clear cOn c0 c1 c2 c3 c4
      refine wp_region_quiet_below (by kernel_rfl) (by kernel_rfl) ?_
      repeat (quiet_step (exact HCon.out _ _))
      refine wpQuiet_nil ?_
      intro _ hw'
      obtain ⟨⟨dq, osq⟩, hw''⟩ := hw'
      subst hw''
      obtain ⟨W3, hW3⟩ : ∃ W3, W3 = Sort.grow (redrawn W2 dq) osq := ⟨_, rfl⟩
      have hB3 : Below W2.heap.size W2 W3 := by rw [hW3]; exact below_regrown W2 dq osq
      rw [← hW3]
      have hs2 : w.heap.size + 2 < W2.heap.size := by have := heap_lt b5; omega
      have q0 : W3.cell? ⟨w.heap.size, 0, none⟩ = some (.int .i64 t) := bcell (blk2 b3).1 hB3 (Nat.le_refl _)
      clear hW3 k0 k1 k2 k3 k4 k5 HCon
      cases hg : (butI (onI m.n s.l s.r) s.n == 0)
      all_goals
        go_wp2_with fail
        go_quiet (first
          | (go_at_call 42; exact quiet_left (but_any _ _ _ (by assumption) (by assumption) (by assumption) (by assumption)))
          | (go_at_call 43; exact quiet_left (count_any _ _ hb hb')))
        go_wp2
        go_ret
        refine ⟨ret_bool ?_, hB.trans (((hB3.mono (by omega)).trans (below_drewN (Below.refl _ _) _)))⟩
      · have h0 : ¬ butI (onI m.n s.l s.r) s.n = 0 := by simpa using hg
        simp [fits, HF.out, h0]
      · have h0 : butI (onI m.n s.l s.r) s.n = 0 := by simpa using hg
        simp [fits, HF.out, h0]
end Go.Proofs.Ytgnjknihgjdedaa
namespace Go.Proofs.Ytgnjknihgjdedaa
open Go.RowKit
set_option linter.unusedVariables false
set_option linter.unusedSimpArgs false

set_option maxHeartbeats 1000000 in
theorem mayB_any (t : Int) (A : Option Addr) (n c : Nat) (l : List Mk) (s : Sg) (w : World) (hl : Marks w A n l) (hn : n ≤ 4294967295) (hs : 0 ≤ s.n) (hs' : s.n ≤ 255) (hv : ∀ m ∈ l, 0 ≤ m.n ∧ m.n ≤ 255) :
    Calls Try.prog 82 #[.agg #[.int .i64 t, .slice A n c], vSg s] w fun e w' => ∃ v, e = .returned v ∧ OwnI w' w.heap.size v (mayL t l s) ∧ Below w.heap.size w w' := by
  have HV := Lib.hid hv
  have HL := Lib.hid hl
  have hB0 : Below w.heap.size w ((w.alloc (Obj.cells #[Value.int .i64 t, .slice A n c] 98)).alloc (Obj.cells #[Value.int .i64 s.n, .bool s.l, .bool s.r, .int .i64 s.b, .int .i64 s.p] 52)) := ((Below.refl _ _).alloc (Nat.le_refl _) _).alloc (by simp) _
  have b2 : ((w.alloc (Obj.cells #[Value.int .i64 t, .slice A n c] 98)).alloc (Obj.cells #[Value.int .i64 s.n, .bool s.l, .bool s.r, .int .i64 s.b, .int .i64 s.p] 52)).heap[w.heap.size]? = some (Obj.cells #[Value.int .i64 t, .slice A n c] 98 (0, 0)) := hblk_alloc (alloc_at rfl) _
  have b3 : ((w.alloc (Obj.cells #[Value.int .i64 t, .slice A n c] 98)).alloc (Obj.cells #[Value.int .i64 s.n, .bool s.l, .bool s.r, .int .i64 s.b, .int .i64 s.p] 52)).heap[w.heap.size + 1]? = some (Obj.cells #[Value.int .i64 s.n, .bool s.l, .bool s.r, .int .i64 s.b, .int .i64 s.p] 52 (0, 0)) := alloc_at (by simp)
  have hl0 := (hl.alloc (Obj.cells #[Value.int .i64 t, .slice A n c] 98)).alloc (Obj.cells #[Value.int .i64 s.n, .bool s.l, .bool s.r, .int .i64 s.b, .int .i64 s.p] 52)
  clear hv hl
  go_enter Try.func82, Try.ntmps82
  unfold vSg
  go_wp2_with fail
  generalize ((w.alloc (Obj.cells #[Value.int .i64 t, .slice A n c] 98)).alloc (Obj.cells #[Value.int .i64 s.n, .bool s.l, .bool s.r, .int .i64 s.b, .int .i64 s.p] 52)) = W0 at hB0 b2 b3 hl0 ⊢
  have hw0 : w.heap.size + 1 < W0.heap.size := heap_lt b3
  have HB := Lib.hid (And.intro b2 b3)
  clear b2 b3
  go_loopg [5, 12] n (fun g v i wr => ∃ k : Nat, k + g = n ∧ i = .int .i64 k ∧ OwnI wr W0.heap.size v (mayTo t l s k) ∧ Below W0.heap.size W0 wr)
  case atStart => exact ⟨0, by omega, rfl, Own.nil_, Below.refl _ _⟩
  case round =>
    obtain ⟨k, hk, rfl, hown, hbl⟩ := hrel
    have HK := Lib.hid hk
    have HO := Lib.hid hown
    have hkn : k ≤ n := by omega
    clear hk hown
    have hz := hbl.size
    have g0 : w.heap.size < wr.heap.size := by omega
    have g1 : w.heap.size + 1 < wr.heap.size := by omega
    by_cases hlt : k < n
    · obtain ⟨b, off, m, rfl, hb, hm, c0, c1, c2⟩ := Marks.get (hl0.below hbl (Nat.le_refl _)) hlt
      have HM := Lib.hid hm
      have hmv := HV.out m (List.mem_of_getElem? hm)
      clear hm
      obtain ⟨r0, r1⟩ := blk2 (bheap HB.out.1 hbl (Nat.le_refl _))
      obtain ⟨s0, s1, s2, s3, s4⟩ := blk5 (bheap HB.out.2 hbl (Nat.le_refl _))
      go_wp2_with fail
      refine (fits_any t _ s m _ hs hs' hmv.1 hmv.2).mono ?_
      rintro e w1 ⟨rfl, hb1⟩
      have hz1 := hb1.size
      have hbl1 : Below W0.heap.size W0 w1 := (hbl.alloc hz _).trans (hb1.mono (by simp; omega))
      have hown1 := Lib.hid ((HO.out.alloc (Obj.cells #[Value.int .i64 m.n, .int .i64 m.b, .int .i64 m.p] 44)).below hb1 (Nat.le_refl _))
      have hlen := mayTo_len t l s k
      have HS := Lib.hid (mayTo_succ (t := t) (s := s) HM.out)
      have hz1' := hbl1.size
      cases hf : fits s m t
      all_goals
        go_wp2_with (at_builtin; refine wp_app okInt rfl (.tmp 21) (.tmp 23) rfl W0.heap.size _ (mayTo t l s k) (k : Int) _ rfl rfl rfl rfl (one_eInt _) hown1.out ?_ ?_ ?_ ?_; (omega); (omega); (omega); intro v' w2 hown2 hb2 _ hz2; have HO2 := Lib.hid hown2; clear hown2)
        go_roundg (gk - 1)
        case measure => have := HK.out; omega
      · exact ⟨k + 1, by have := HK.out; omega, by go_num, by rw [HS.out, hf]; simpa using hown1.out, hbl1⟩
      · exact ⟨k + 1, by have := HK.out; omega, by go_num, by rw [HS.out, hf]; simpa using HO2.out, hbl1.trans hb2⟩
    · obtain rfl : k = n := by omega
      go_wp2
      go_ret
      exact ⟨_, rfl, by have := HL.out.len; unfold mayL; rw [this]; exact HO.out.mono (by omega), hB0.trans (hbl.mono (by omega))⟩
end Go.Proofs.Ytgnjknihgjdedaa

namespace Go.Proofs.Ytgnjknihgjdedaa
open Go.RowKit
set_option linter.unusedVariables false
set_option linter.unusedSimpArgs false

set_option maxHeartbeats 1000000 in
theorem May_any (t : Int) (A : Option Addr) (n c : Nat) (l : List Mk) (s : Sg) (w : World) (hl : Marks w A n l) (hlc : n ≤ c) (hcm : c ≤ maxLen) :
    Calls Try.prog 106 #[.agg #[.int .i64 t, .slice A n c], vSg s] w fun e w' => ∃ v, e = .returned (.tuple #[v, .int .i64 (mayE t l s)]) ∧ OwnI w' w.heap.size v (mayR t l s) ∧ Below w.heap.size w w' := by
  have HL := Lib.hid hl
  have hb0 : Below w.heap.size w ((w.alloc (Obj.cells #[Value.int .i64 t, .slice A n c] 41)).alloc (Obj.cells #[Value.int .i64 s.n, .bool s.l, .bool s.r, .int .i64 s.b, .int .i64 s.p] 52)) := ((Below.refl _ _).alloc (Nat.le_refl _) _).alloc (by simp) _
  clear hl
  by_cases hck : check t l = 0
  · have h0 : (check t l != 0) = false := by simp [hck]
    have HC := Lib.hid hck
    clear hck
    by_cases hse : seen s 9 6 = 0
    · have h1 : (seen s 9 6 != 0) = false := by simp [hse]
      have HS := Lib.hid hse
      have hv := (seen_ok hse).1
      have hm : ∀ m ∈ l, 0 ≤ m.n ∧ m.n ≤ 255 := fun m hm => (check_marks HC.out m hm).1
      have HM := Lib.hid hm
      have hn5 : n ≤ 5 := by have := (check_ok HC.out).2.2.1; have := HL.out.len; omega
      clear hse hm
      go_enter Try.func106, Try.ntmps106
      unfold vSg
      go_wp2_with (first
        | (go_at_call 39; refine (check_any t A n c l _ ((HL.out.alloc _).alloc _) hlc hcm).mono ?_; rintro e w1 ⟨rfl, hb1⟩; obtain ⟨hc1, hf1⟩ := bc hb1; have hz1 := hb1.size; simp at hz1; have g1 : w.heap.size < w1.heap.size := (by omega); have g2 : w.heap.size + 1 < w1.heap.size := (by omega); have HB1 := Lib.hid hb1; clear hb1)
        | (go_at_call 81; refine (sight_any s _).mono ?_; rintro e w2 ⟨rfl, hb2⟩; obtain ⟨hc2, hf2⟩ := bc hb2; have hz2 := hb2.size; have g3 : w.heap.size < w2.heap.size := (by omega); have g4 : w.heap.size + 1 < w2.heap.size := (by omega); have HB2 := Lib.hid hb2; clear hb2)
        | (go_at_call 82; refine (mayB_any t A n c l s _ ((((HL.out.alloc _).alloc _).below HB1.out (Nat.le_refl _)).below HB2.out (Nat.le_refl _)) (by omega) hv.1 hv.2 HM.out).mono ?_; rintro e w3 ⟨v, rfl, ho3, hb3⟩; have HB3 := Lib.hid (And.intro ho3 hb3); clear ho3 hb3))
      go_ret2
      exact ⟨v, by simp [mayE, HC.out, HS.out], by simpa [mayR, mayE, HC.out, HS.out] using HB3.out.1.mono (by omega), hb0.trans ((HB1.out.mono (by simp; omega)).trans ((HB2.out.mono (by omega)).trans (HB3.out.2.mono (by omega))))⟩
    · have h1 : (seen s 9 6 != 0) = true := by simp [hse]
      have HS := Lib.hid hse
      clear hse
      go_enter Try.func106, Try.ntmps106
      unfold vSg
      go_wp2_with (first
        | (go_at_call 39; refine (check_any t A n c l _ ((HL.out.alloc _).alloc _) hlc hcm).mono ?_; rintro e w1 ⟨rfl, hb1⟩; obtain ⟨hc1, hf1⟩ := bc hb1; have hz1 := hb1.size; simp at hz1; have g1 : w.heap.size < w1.heap.size := (by omega); have g2 : w.heap.size + 1 < w1.heap.size := (by omega); have HB1 := Lib.hid hb1; clear hb1)
        | (go_at_call 81; refine (sight_any s _).mono ?_; rintro e w2 ⟨rfl, hb2⟩; have hz2 := hb2.size; have g3 : w.heap.size < w2.heap.size := (by omega); have g4 : w.heap.size + 1 < w2.heap.size := (by omega); have HB2 := Lib.hid hb2; clear hb2))
      go_ret2
      exact ⟨.slice none 0 0, by simp [mayE, HC.out], by simpa [mayR, mayE, HC.out, HS.out] using Own.nil_, hb0.trans ((HB1.out.mono (by simp; omega)).trans (HB2.out.mono (by omega)))⟩
  · have h0 : (check t l != 0) = true := by simp [hck]
    have HC := Lib.hid hck
    clear hck
    go_enter Try.func106, Try.ntmps106
    unfold vSg
    go_wp2_with (go_at_call 39; refine (check_any t A n c l _ ((HL.out.alloc _).alloc _) hlc hcm).mono ?_; rintro e w1 ⟨rfl, hb1⟩; have HB1 := Lib.hid hb1; clear hb1)
    go_ret2
    exact ⟨.slice none 0 0, by simp [mayE, HC.out], by simpa [mayR, mayE, HC.out] using Own.nil_, hb0.trans (HB1.out.mono (by simp; omega))⟩
end Go.Proofs.Ytgnjknihgjdedaa

namespace Go.Proofs.Ytgnjknihgjdedaa
open Go.RowKit
set_option linter.unusedVariables false
set_option linter.unusedSimpArgs false

end Go.Proofs.Ytgnjknihgjdedaa
