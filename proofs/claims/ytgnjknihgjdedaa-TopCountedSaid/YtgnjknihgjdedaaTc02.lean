/- TopCounted 2: TyP, Grid, TyA, HdL. -/
import Derived.Test.YtgnjknihgjdedaaTc01
import Derived.Deep.AppendLies
import Derived.Deep.RegionHeld3
namespace Go.Proofs.Ytgnjknihgjdedaa
set_option linter.unusedVariables false
set_option linter.unusedSimpArgs false

structure Sp where
  lo : Int
  hi : Int
  deriving DecidableEq
structure Ct where
  g : Int
  m : Int
  n : Int
  e : Int
structure Ty where
  g : Int
  f : Sp
  ch : List Sp
  m : Int
  cs : List Ct
def Sp.meet (a b : Sp) : Sp := ⟨max a.lo b.lo, min a.hi b.hi⟩
def Sp.add (a b : Sp) : Sp := ⟨a.lo + b.lo, a.hi + b.hi⟩
def Sp.turn (a : Sp) : Sp := ⟨-a.hi, -a.lo⟩
def Sp.emp (a : Sp) : Bool := decide (a.hi < a.lo)
def Sp.has (a : Sp) (x : Int) : Prop := a.lo ≤ x ∧ x ≤ a.hi
def Sp.bd (B : Int) (a : Sp) : Prop := -B ≤ a.lo ∧ a.lo ≤ B ∧ -B ≤ a.hi ∧ a.hi ≤ B
def readsS (c : Ct) : Sp := ⟨(100 * c.n + 99 + c.e).tdiv (100 + c.e), (100 * c.n).tdiv (100 - c.e)⟩
def sp0 : Sp := ⟨0, 0⟩
def spW : Sp := ⟨0, 600⟩
def limStep (l : List Sp) (c : Ct) : List Sp := l.set c.g.toNat ((l.getD c.g.toNat sp0).meet (readsS c))
def limL (cs : List Ct) : List Sp := cs.foldl limStep [spW, spW, spW, spW, spW]
def Ty.lim (T : Ty) (g : Nat) : Sp := (limL T.cs).getD g sp0
def Ty.str (T : Ty) (g : Nat) : Sp := (T.ch.getD g sp0).add ⟨-T.m, 0⟩
def Ty.now (T : Ty) : Nat → Sp
  | 0 => T.f.meet (T.lim 0)
  | g + 1 => ((T.now g).add (T.str g)).meet (T.lim (g + 1))
structure CtOk (g : Int) (c : Ct) : Prop where
  g0 : 0 ≤ c.g ∧ c.g ≤ g - 1
  m0 : 1 ≤ c.m ∧ c.m ≤ 9
  n0 : 0 ≤ c.n ∧ c.n ≤ 300
  e0 : 0 ≤ c.e ∧ c.e ≤ 20
structure SpOk (lo hi : Int) (s : Sp) : Prop where
  a : lo ≤ s.lo ∧ s.lo ≤ hi
  b : lo ≤ s.hi ∧ s.hi ≤ hi
  o : s.lo ≤ s.hi
structure TyOk (T : Ty) : Prop where
  g : 1 ≤ T.g ∧ T.g ≤ 5
  f : SpOk 0 300 T.f
  cn : (T.ch.length : Int) = T.g - 1
  ch : ∀ s ∈ T.ch, SpOk (-60) 60 s
  m : 0 ≤ T.m ∧ T.m ≤ 60
  sn : T.cs.length ≤ 7
  cs : ∀ c ∈ T.cs, CtOk T.g c
theorem meet_has {a b : Sp} {x : Int} : (a.meet b).has x ↔ a.has x ∧ b.has x := by
  unfold Sp.has Sp.meet; dsimp only; omega
theorem add_has {a b : Sp} {x y : Int} (h1 : a.has x) (h2 : b.has y) : (a.add b).has (x + y) := by
  unfold Sp.has Sp.add at *; dsimp only; omega
theorem turn_has {a : Sp} {x : Int} (h : a.has x) : a.turn.has (-x) := by
  unfold Sp.has Sp.turn at *; dsimp only; omega
theorem has_emp {a : Sp} {x : Int} (h : a.has x) : a.emp = false := by
  unfold Sp.has at h; unfold Sp.emp; exact decide_eq_false (by omega)
theorem emp_le {a : Sp} (h : a.emp = false) : a.lo ≤ a.hi := by
  unfold Sp.emp at h; have := of_decide_eq_false h; omega
theorem reads_bd {g : Int} {c : Ct} (h : CtOk g c) : 0 ≤ (readsS c).lo ∧ (readsS c).lo ≤ 400 ∧ 0 ≤ (readsS c).hi ∧ (readsS c).hi ≤ 400 := by
  obtain ⟨-, -, h1, h2⟩ := h
  unfold readsS
  dsimp only
  rw [Int.tdiv_eq_ediv_of_nonneg (by omega), Int.tdiv_eq_ediv_of_nonneg (by omega)]
  refine ⟨Int.ediv_nonneg (by omega) (by omega), ?_, Int.ediv_nonneg (by omega) (by omega), ?_⟩
  · exact Int.le_of_lt_add_one (Int.ediv_lt_of_lt_mul (by omega) (by
      have : (400 + 1) * (100 + 0) ≤ (400 + 1) * (100 + c.e) := Int.mul_le_mul_of_nonneg_left (by omega) (by omega)
      omega))
  · exact Int.le_of_lt_add_one (Int.ediv_lt_of_lt_mul (by omega) (by
      have : (400 + 1) * 80 ≤ (400 + 1) * (100 - c.e) := Int.mul_le_mul_of_nonneg_left (by omega) (by omega)
      omega))
theorem reads_has {g : Int} {c : Ct} (h : CtOk g c) {x : Int} (h1 : 100 * (c.n - x) ≤ c.e * x) (h2 : -(c.e * x) ≤ 100 * (c.n - x)) : (readsS c).has x := by
  obtain ⟨-, -, h3, h4⟩ := h
  unfold readsS Sp.has
  dsimp only
  rw [Int.tdiv_eq_ediv_of_nonneg (by omega), Int.tdiv_eq_ediv_of_nonneg (by omega)]
  have e1 : (x + 1) * (100 + c.e) = 100 * x + c.e * x + 100 + c.e := by rw [Int.add_mul, Int.mul_add, Int.mul_comm x 100, Int.mul_comm x c.e]; omega
  have e2 : x * (100 - c.e) = 100 * x - c.e * x := by rw [Int.mul_sub, Int.mul_comm x 100, Int.mul_comm x c.e]
  constructor
  · exact Int.le_of_lt_add_one (Int.ediv_lt_of_lt_mul (by omega) (by omega))
  · exact (Int.le_ediv_iff_mul_le (by omega)).2 (by omega)
theorem limStep_len (l : List Sp) (c : Ct) : (limStep l c).length = l.length := by unfold limStep; simp
theorem limF_len (cs : List Ct) : ∀ l : List Sp, (cs.foldl limStep l).length = l.length := by
  induction cs with
  | nil => intro l; rfl
  | cons c cs ih => intro l; rw [List.foldl_cons, ih, limStep_len]
theorem limL_len (cs : List Ct) : (limL cs).length = 5 := limF_len cs _
def LimBd (l : List Sp) : Prop := ∀ s ∈ l, s.bd 600 ∧ 0 ≤ s.lo
theorem limStep_bd {g : Int} {l : List Sp} {c : Ct} (h : CtOk g c) (hl : LimBd l) : LimBd (limStep l c) := by
  intro s hs
  unfold limStep at hs
  rcases List.mem_or_eq_of_mem_set hs with h1 | h1
  · exact hl s h1
  · rw [h1]
    have hr := reads_bd h
    have hd : (l.getD c.g.toNat sp0).bd 600 ∧ 0 ≤ (l.getD c.g.toNat sp0).lo := by
      rw [List.getD_eq_getElem?_getD]
      cases he : l[c.g.toNat]? with
      | none => simp [sp0, Sp.bd]
      | some x => exact hl x (List.mem_of_getElem? he)
    obtain ⟨⟨a1, a2, a3, a4⟩, a5⟩ := hd
    unfold Sp.bd Sp.meet
    dsimp only
    omega
theorem limF_bd {g : Int} {cs : List Ct} (h : ∀ c ∈ cs, CtOk g c) : ∀ l, LimBd l → LimBd (cs.foldl limStep l) := by
  induction cs with
  | nil => intro l hl; exact hl
  | cons c cs ih => intro l hl; rw [List.foldl_cons]; exact ih (fun d hd => h d (List.mem_cons_of_mem _ hd)) _ (limStep_bd (h c List.mem_cons_self) hl)
theorem limW_bd : LimBd [spW, spW, spW, spW, spW] := by
  intro s hs
  have : s = spW := by simpa using hs
  rw [this]; unfold spW Sp.bd; decide
theorem limL_bd {g : Int} {cs : List Ct} (h : ∀ c ∈ cs, CtOk g c) : LimBd (limL cs) := limF_bd h _ limW_bd
theorem limF_has {g : Int} {cs : List Ct} (h : ∀ c ∈ cs, CtOk g c) (hg : g ≤ 5) {ns : Nat → Int} (hn : ∀ c ∈ cs, (readsS c).has (ns c.g.toNat)) : ∀ l : List Sp, l.length = 5 → (∀ k, k < 5 → (l.getD k sp0).has (ns k)) → ∀ k, k < 5 → ((cs.foldl limStep l).getD k sp0).has (ns k) := by
  induction cs with
  | nil => intro l _ hl; exact hl
  | cons c cs ih =>
    intro l hl5 hl
    rw [List.foldl_cons]
    refine ih (fun d hd => h d (List.mem_cons_of_mem _ hd)) (fun d hd => hn d (List.mem_cons_of_mem _ hd)) _ (by rw [limStep_len]; exact hl5) fun k hk => ?_
    unfold limStep
    have hc := h c List.mem_cons_self
    have hcn := hn c List.mem_cons_self
    rw [List.getD_eq_getElem?_getD]
    by_cases hkc : c.g.toNat = k
    · subst hkc
      rw [List.getElem?_set_self (by omega)]
      exact meet_has.2 ⟨hl _ hk, hcn⟩
    · rw [List.getElem?_set_ne hkc, ← List.getD_eq_getElem?_getD]
      exact hl k hk
structure TrueN (T : Ty) (ns : Nat → Int) : Prop where
  f : T.f.has (ns 0)
  st : ∀ g : Nat, (g : Int) + 1 < T.g → (T.str g).has (ns (g + 1) - ns g)
  bd : ∀ k, k < 5 → 0 ≤ ns k ∧ ns k ≤ 600
  cs : ∀ c ∈ T.cs, (readsS c).has (ns c.g.toNat)
theorem TrueN.lim {T : Ty} {ns : Nat → Int} (hk : TyOk T) (h : TrueN T ns) {g : Nat} (hg : (g : Int) < T.g) : (T.lim g).has (ns g) := by
  have hg5 := hk.g.2
  refine limF_has hk.cs hk.g.2 h.cs _ rfl (fun k hk => ?_) g (by omega)
  have := h.bd k hk
  match k, hk with
  | 0, _ | 1, _ | 2, _ | 3, _ | 4, _ => exact this
theorem TrueN.now {T : Ty} {ns : Nat → Int} (hk : TyOk T) (h : TrueN T ns) : ∀ {g : Nat}, (g : Int) < T.g → (T.now g).has (ns g) := by
  intro g
  induction g with
  | zero => intro hg; exact meet_has.2 ⟨h.f, h.lim hk hg⟩
  | succ g ih =>
    intro hg
    have h1 := ih (by omega)
    have h2 := add_has h1 (h.st g (by omega))
    rw [show ns g + (ns (g + 1) - ns g) = ns (g + 1) by omega] at h2
    exact meet_has.2 ⟨h2, h.lim hk hg⟩
def Ty.nows (T : Ty) : List Sp := (List.range T.g.toNat).map T.now
def Ty.back (T : Ty) (L : List Sp) : Nat → List Sp
  | 0 => L
  | n + 1 => T.back (L.set n ((L.getD n sp0).meet ((L.getD (n + 1) sp0).add (T.str n).turn))) n
def Ty.outs (T : Ty) : List Sp := T.back T.nows (T.g - 1).toNat
theorem back_len (T : Ty) : ∀ n L, (T.back L n).length = L.length := by
  intro n
  induction n with
  | zero => intro L; rfl
  | succ n ih => intro L; show (T.back _ n).length = _; rw [ih]; simp
theorem nows_len (T : Ty) : T.nows.length = T.g.toNat := by unfold Ty.nows; simp
theorem outs_len (T : Ty) : T.outs.length = T.g.toNat := by unfold Ty.outs; rw [back_len, nows_len]
theorem nows_get {T : Ty} {g : Nat} (hg : g < T.g.toNat) : T.nows.getD g sp0 = T.now g := by
  unfold Ty.nows
  rw [List.getD_eq_getElem?_getD, List.getElem?_map, List.getElem?_range hg]
  rfl
theorem back_has {T : Ty} {ns : Nat → Int} (h : TrueN T ns) : ∀ (n : Nat) (L : List Sp), (n : Int) + 1 ≤ T.g → L.length = T.g.toNat → (∀ g, g < T.g.toNat → (L.getD g sp0).has (ns g)) → ∀ g, g < T.g.toNat → ((T.back L n).getD g sp0).has (ns g) := by
  intro n
  induction n with
  | zero => intro L _ _ hL; exact hL
  | succ n ih =>
    intro L hn hl hL
    refine ih _ (by omega) (by simpa using hl) fun g hg => ?_
    rw [List.getD_eq_getElem?_getD]
    by_cases hgn : n = g
    · subst hgn
      rw [List.getElem?_set_self (by omega)]
      refine meet_has.2 ⟨hL _ hg, ?_⟩
      have h1 := hL (n + 1) (by omega)
      have h2 := add_has h1 (turn_has (h.st n (by omega)))
      rwa [show ns (n + 1) + -(ns (n + 1) - ns n) = ns n by omega] at h2
    · rw [List.getElem?_set_ne hgn, ← List.getD_eq_getElem?_getD]
      exact hL g hg
theorem TrueN.outs {T : Ty} {ns : Nat → Int} (hk : TyOk T) (h : TrueN T ns) {g : Nat} (hg : g < T.g.toNat) : (T.outs.getD g sp0).has (ns g) := by
  have := hk.g.1
  exact back_has h (T.g - 1).toNat _ (by omega) (nows_len T) (fun g hg => by rw [nows_get hg]; exact h.now hk (by omega)) g hg
theorem getD_inP {α : Type} {P : α → Prop} {l : List α} {d : α} (h : ∀ x ∈ l, P x) (hd : P d) (k : Nat) : P (l.getD k d) := by
  rw [List.getD_eq_getElem?_getD]
  cases he : l[k]? with
  | none => exact hd
  | some x => exact h x (List.mem_of_getElem? he)
theorem str_bd {T : Ty} (hk : TyOk T) (g : Nat) : (T.str g).bd 120 := by
  have h : ∀ s ∈ T.ch, s.bd 60 := fun s hs => by have := hk.ch s hs; obtain ⟨a, b, c⟩ := this; unfold Sp.bd; omega
  have h2 := getD_inP (d := sp0) h (by unfold sp0 Sp.bd; decide) g
  have := hk.m
  unfold Ty.str Sp.add
  unfold Sp.bd at h2 ⊢
  dsimp only
  omega
theorem lim_bd {T : Ty} (hk : TyOk T) (g : Nat) : (T.lim g).bd 600 ∧ 0 ≤ (T.lim g).lo := getD_inP (d := sp0) (limL_bd hk.cs) (by unfold sp0 Sp.bd; decide) g
theorem now_bd {T : Ty} (hk : TyOk T) : ∀ g : Nat, (T.now g).bd (600 + 120 * (g : Int)) := by
  intro g
  induction g with
  | zero =>
    have h1 := hk.f
    have h2 := (lim_bd hk 0).1
    obtain ⟨a, b, c⟩ := h1
    show (T.f.meet (T.lim 0)).bd _
    unfold Sp.bd Sp.meet at *
    dsimp only
    omega
  | succ g ih =>
    have h1 := str_bd hk g
    have h2 := (lim_bd hk (g + 1)).1
    show (((T.now g).add (T.str g)).meet (T.lim (g + 1))).bd _
    unfold Sp.bd Sp.meet Sp.add at *
    dsimp only
    omega
theorem now_lo {T : Ty} (hk : TyOk T) (g : Nat) : 0 ≤ (T.now g).lo ∧ (T.now g).hi ≤ 600 := by
  cases g with
  | zero =>
    have h2 := (lim_bd hk 0)
    show 0 ≤ (T.f.meet (T.lim 0)).lo ∧ (T.f.meet (T.lim 0)).hi ≤ 600
    unfold Sp.bd Sp.meet at *
    dsimp only
    omega
  | succ g =>
    have h2 := (lim_bd hk (g + 1))
    show 0 ≤ (((T.now g).add (T.str g)).meet (T.lim (g + 1))).lo ∧ _
    unfold Ty.now Sp.bd Sp.meet Sp.add at *
    dsimp only at *
    omega
theorem back_bd {T : Ty} (hk : TyOk T) : ∀ n (L : List Sp), (∀ s ∈ L, 0 ≤ s.lo ∧ s.hi ≤ 600) → ∀ s ∈ T.back L n, 0 ≤ s.lo ∧ s.hi ≤ 600 := by
  intro n
  induction n with
  | zero => intro L hL; exact hL
  | succ n ih =>
    intro L hL
    refine ih _ fun s hs => ?_
    rcases List.mem_or_eq_of_mem_set hs with h1 | h1
    · exact hL s h1
    · rw [h1]
      have := getD_inP (d := sp0) hL (by unfold sp0; decide) n
      unfold Sp.meet
      dsimp only
      omega
theorem outs_bd {T : Ty} (hk : TyOk T) : ∀ s ∈ T.outs, 0 ≤ s.lo ∧ s.hi ≤ 600 := by
  refine back_bd hk _ _ fun s hs => ?_
  obtain ⟨g, -, rfl⟩ := List.mem_map.1 hs
  exact now_lo hk g
def lossOwn (r : Sp) (M n m : Int) : Sp := ⟨max 0 (n + r.lo - m), min M (n + r.hi - m)⟩
def lossStep (r : Sp) (M n m : Int) (acc s : Sp) : Sp :=
  if s.emp = false ∧ (lossOwn r M n m).emp = false then ⟨min acc.lo (s.lo + (lossOwn r M n m).lo), max acc.hi (s.hi + (lossOwn r M n m).hi)⟩ else acc
def spE : Sp := ⟨1048576, -1⟩
def lossCell (r : Sp) (M lo m : Int) (now : List Sp) : Nat → Sp
  | 0 => spE
  | i + 1 => lossStep r M (lo + (i : Int)) m (lossCell r M lo m now i) (now.getD i sp0)
def Sp.wid (s : Sp) : Nat := (s.hi - s.lo + 1).toNat
def lossRow (r : Sp) (M lo lo' : Int) (now : List Sp) (n : Nat) : List Sp := (List.range n).map fun (k : Nat) => lossCell r M lo (lo' + (k : Int)) now now.length
def lossTo (T : Ty) (L : List Sp) (a : Nat) : Nat → List Sp
  | 0 => List.replicate (L.getD a sp0).wid sp0
  | j + 1 => lossRow (T.ch.getD (a + j) sp0) T.m (L.getD (a + j) sp0).lo (L.getD (a + j + 1) sp0).lo (lossTo T L a j) (L.getD (a + j + 1) sp0).wid
def minmax (a s : Sp) : Sp := ⟨min a.lo s.lo, max a.hi s.hi⟩
def lostF (T : Ty) (L : List Sp) (a b : Nat) : Sp := (lossTo T L a (b - a)).foldl minmax ((lossTo T L a (b - a)).getD 0 sp0)
theorem lossTo_len (T : Ty) (L : List Sp) (a j : Nat) : (lossTo T L a j).length = (L.getD (a + j) sp0).wid := by
  cases j with
  | zero => simp [lossTo]
  | succ j => simp [lossTo, lossRow]; rfl
def LossBd (B : Int) (s : Sp) : Prop := s = spE ∨ (0 ≤ s.lo ∧ s.lo ≤ B ∧ 0 ≤ s.hi ∧ s.hi ≤ B)
theorem lossStep_bd {r : Sp} {M n m B : Int} {acc s : Sp} (hM : 0 ≤ M ∧ M ≤ 60) (hB : B ≤ 1000) (ha : LossBd (B + 60) acc) (hs : LossBd B s) : LossBd (B + 60) (lossStep r M n m acc s) := by
  unfold lossStep
  split
  · rename_i h
    have h1 := emp_le h.1
    have h2 := emp_le h.2
    unfold lossOwn at h2 ⊢
    dsimp only at h2 ⊢
    rcases hs with rfl | hs
    · unfold spE at h1; dsimp only at h1; omega
    · right
      rcases ha with rfl | ha
      · unfold spE; dsimp only; omega
      · dsimp only; omega
  · exact ha
theorem lossCell_bd {r : Sp} {M lo m B : Int} {now : List Sp} (hM : 0 ≤ M ∧ M ≤ 60) (hB : 0 ≤ B ∧ B ≤ 1000) (hn : ∀ s ∈ now, LossBd B s) : ∀ i, LossBd (B + 60) (lossCell r M lo m now i) := by
  intro i
  induction i with
  | zero => exact .inl rfl
  | succ i ih => exact lossStep_bd hM hB.2 ih (getD_inP hn (by right; unfold sp0; dsimp only; omega) i)
theorem lossTo_bd {T : Ty} (hk : TyOk T) (L : List Sp) (a : Nat) : ∀ j : Nat, j ≤ 5 → ∀ s ∈ lossTo T L a j, LossBd (60 * (j : Int)) s := by
  intro j
  induction j with
  | zero =>
    intro _ s hs
    have : s = sp0 := (List.mem_replicate.1 hs).2
    rw [this]; right; unfold sp0; dsimp only; omega
  | succ j ih =>
    intro hj s hs
    obtain ⟨k, -, rfl⟩ := List.mem_map.1 hs
    have h := lossCell_bd (r := T.ch.getD (a + j) sp0) (lo := (L.getD (a + j) sp0).lo) (m := (L.getD (a + j + 1) sp0).lo + (k : Int)) hk.m (B := 60 * (j : Int)) (by omega) (ih (by omega)) (lossTo T L a j).length
    rwa [show 60 * (j : Int) + 60 = 60 * ((j + 1 : Nat) : Int) by omega] at h
end Go.Proofs.Ytgnjknihgjdedaa
namespace Go.Proofs.Ytgnjknihgjdedaa
open Go.RowKit
set_option linter.unusedVariables false
set_option linter.unusedSimpArgs false

def Rws (w : World) (base : Nat) (mv : List Value) (ls : List (List Int)) : Prop :=
  mv.length = ls.length ∧ ∀ (i : Nat) v, mv[i]? = some v → ∃ l, ls[i]? = some l ∧ OwnI w base v l
def OwnG (w : World) (base : Nat) (v : Value) (ls : List (List Int)) : Prop := ∃ mv, Own eVal 22 1 w base v mv ∧ Rws w base mv ls

theorem lenFlatVal (l : List Value) : (l.flatMap eVal).length = l.length := by
  induction l with
  | nil => rfl
  | cons a r ih => rw [List.flatMap_cons, List.length_append, ih]; simp [eVal]; omega
theorem own_ne {α β : Type} {ea : α → List Value} {eb : β → List Value} {t u : TypeId} {s r : Nat} {w : World} {b c : Nat} {x y : Value} {l : List α} {m : List β} (h : Own ea t s w b x l) (k : Own eb u r w c y m) (hne : t ≠ u) :
    x.ownBlock = none ∨ x.ownBlock ≠ y.ownBlock := by
  rcases h.2 with ⟨rfl, _⟩ | ⟨g, cap, cur, rfl, _, h2, _⟩
  · exact .inl rfl
  · refine .inr ?_
    rcases k.2 with ⟨rfl, _⟩ | ⟨g', cap', cur', rfl, _, k2, _⟩
    · simp [Value.ownBlock]
    · intro e
      simp only [Value.ownBlock, Option.some.injEq] at e
      subst e
      rw [h2] at k2
      cases k2
      exact hne rfl
theorem OwnG.below {w w' : World} {base B : Nat} {v : Value} {ls : List (List Int)} (h : OwnG w base v ls) (hb : Below B w w') (hB : w.heap.size ≤ B) : OwnG w' base v ls := by
  obtain ⟨mv, h1, h2, h3⟩ := h
  exact ⟨mv, h1.below hb hB, h2, fun i v hv => by
    obtain ⟨l, hl, ho⟩ := h3 i v hv
    exact ⟨l, hl, ho.below hb hB⟩⟩
theorem OwnG.mono {w : World} {base b : Nat} {v : Value} {ls : List (List Int)} (h : OwnG w base v ls) (hb : b ≤ base) : OwnG w b v ls := by
  obtain ⟨mv, h1, h2, h3⟩ := h
  exact ⟨mv, h1.mono hb, h2, fun i v hv => by
    obtain ⟨l, hl, ho⟩ := h3 i v hv
    exact ⟨l, hl, ho.mono hb⟩⟩
def Grid (w : World) (A : Option Addr) (n : Nat) (ls : List (List Int)) : Prop :=
  ∃ mv, Sl eVal 1 w A n mv ∧ mv.length = ls.length ∧ ∀ (i : Nat) v, mv[i]? = some v → ∃ B l c, ls[i]? = some l ∧ v = .slice B l.length c ∧ Ints w B l.length l ∧ l.length ≤ c ∧ c ≤ maxLen
theorem OwnG.form {w : World} {base : Nat} {v : Value} {ls : List (List Int)} (h : OwnG w base v ls) : ∃ A c, v = .slice A ls.length c ∧ Grid w A ls.length ls ∧ ls.length ≤ c ∧ c ≤ maxLen := by
  obtain ⟨mv, h1, h2, h3⟩ := h
  obtain ⟨A, c, hv, hs, hc, hm⟩ := h1.form lenVal
  rw [h2] at hv hs hc
  refine ⟨A, c, hv, ⟨mv, hs, h2, fun i v hv => ?_⟩, hc, hm⟩
  obtain ⟨l, hl, ho⟩ := h3 i v hv
  obtain ⟨B, c', hv', hs', hc', hm'⟩ := ho.form lenInt
  exact ⟨B, l, c', hl, hv', hs', hc', hm'⟩
theorem Grid.below {w w' : World} {B : Nat} {A : Option Addr} {n : Nat} {ls : List (List Int)} (h : Grid w A n ls) (hb : Below B w w') (hB : w.heap.size ≤ B) : Grid w' A n ls := by
  obtain ⟨mv, h1, h2, h3⟩ := h
  exact ⟨mv, h1.below hb hB, h2, fun i v hv => by
    obtain ⟨C, l, c, a1, a2, a3, a4, a5⟩ := h3 i v hv
    exact ⟨C, l, c, a1, a2, a3.below hb hB, a4, a5⟩⟩
theorem Grid.get {w : World} {A : Option Addr} {n : Nat} {ls : List (List Int)} (h : Grid w A n ls) {k : Nat} (hk : k < n) :
    ∃ b off B l c, A = some ⟨b, off, none⟩ ∧ b < w.heap.size ∧ ls[k]? = some l ∧ w.cell? ⟨b, off + k, none⟩ = some (.slice B l.length c) ∧ Ints w B l.length l ∧ l.length ≤ c ∧ c ≤ maxLen := by
  obtain ⟨mv, h1, h2, h3⟩ := h
  obtain ⟨b, off, x, hA, hb, hx, hc⟩ := Vals.get h1 hk
  obtain ⟨B, l, c, a1, a2, a3, a4, a5⟩ := h3 k x hx
  subst a2
  exact ⟨b, off, B, l, c, hA, hb, a1, hc, a3, a4, a5⟩

theorem wp_appx {α : Type} {enc : α → List Value} {P : Program} {t e : TypeId} {sz bytes : Nat} (E : ElemOk P t e sz bytes) {ops : Array Oper} {rest : List Oper} {o : Oper} {a : Act} {Q : Exit → Act → World → Prop} {w : World}
    (hgd : o.guard = none) (s x : Operand) (ho : o.op = .call { callee := .builtin .append, args := #[s, x], argTypes := #[t, t] })
    (base : Nat) (v : Value) (l : List α) (y : α) (cs : Array Value) (hs : a.eval s = v) (hx : a.eval x = .slice (some ⟨w.heap.size, 0, none⟩) 1 1) (hcs : cs.toList = enc y)
    (hlen : (enc y).length = sz) (h1 : ∀ u ∈ enc y, u.oneCell' = true)
    (hown : Own enc e sz w base v l) (hll : l.length < 4294967296) (hby : bytes ≤ 4096) (hbase : base ≤ w.heap.size)
    (h : ∀ g' cap w', Own enc e sz w' base (.slice (some ⟨g', 0, none⟩) (l.length + 1) cap) (l ++ [y]) → w.grownBy w' v.ownBlock → Below base w w' → wpList P ops Q rest (a.put o.dst (.slice (some ⟨g', 0, none⟩) (l.length + 1) cap)) w') :
    wpList P ops Q (o :: rest) a (w.alloc (.cells cs e)) := by
  obtain ⟨i, z, hi, hz, hsize, hbytes, hzs⟩ := E.info
  refine wpList_append_lies _ hgd s x t ho base e i z sz bytes E.sl hi hz hsize hbytes hzs E.pos v l.length (l.flatMap enc) hs (World.ownsRow.alloc hown _) ⟨w.heap.size, 0, none⟩ 1 1 (enc y) hx (by omega) ?_ h1 (by omega) (by unfold maxLen; omega) ?_ (by simp; omega) (w.heap.size + 1) (by simp) ?_
  · rw [← hcs]; exact World.news_of_block (heap_alloc_new w _)
  · calc (l.length + 1) * bytes ≤ 4294967296 * 4096 := Nat.mul_le_mul (by omega) hby
      _ ≤ 140737488355328 := by omega
  · intro g' cap w' hown' hgr _ _
    have hg0 : w.grownBy w' v.ownBlock := ⟨hgr.os, hgr.tape, hgr.output, Nat.le_trans (by simp) hgr.size, fun k hk hne => (hgr.block k (by simp; omega) hne).trans (Below.heap_alloc _ _ _ hk)⟩
    refine h g' cap w' ?_ hg0 ((Below.refl _ _).grown hg0 hbase (fun k hk => (Own.lt hown k hk).1))
    have e2 : (l ++ [y]).flatMap enc = l.flatMap enc ++ enc y := by simp
    unfold Own
    rw [e2, List.length_append]
    exact hown'
end Go.Proofs.Ytgnjknihgjdedaa
namespace Go.Proofs.Ytgnjknihgjdedaa
open Go.RowKit
set_option linter.unusedVariables false
set_option linter.unusedSimpArgs false

def eSp (s : Sp) : List Value := [.int .i64 s.lo, .int .i64 s.hi]
def eCt (c : Ct) : List Value := [.int .i64 c.g, .int .i64 c.m, .int .i64 c.n, .int .i64 c.e]
theorem lenSp (s : Sp) : (eSp s).length = 2 := rfl
theorem lenCt (c : Ct) : (eCt c).length = 4 := rfl
abbrev Sps (w : World) (A : Option Addr) (n : Nat) (l : List Sp) : Prop := Sl eSp 2 w A n l
abbrev Cts (w : World) (A : Option Addr) (n : Nat) (l : List Ct) : Prop := Sl eCt 4 w A n l
theorem Sps.get {w : World} {A : Option Addr} {n : Nat} {l : List Sp} (h : Sps w A n l) {k : Nat} (hk : k < n) :
    ∃ b off s, A = some ⟨b, off, none⟩ ∧ b < w.heap.size ∧ l[k]? = some s ∧ w.cell? ⟨b, off + k * 2, none⟩ = some (.int .i64 s.lo) ∧ w.cell? ⟨b, off + k * 2 + 1, none⟩ = some (.int .i64 s.hi) := by
  obtain ⟨b, off, x, hA, hx, hc⟩ := h.at_ hk
  have h0 := hc 0 _ rfl
  exact ⟨b, off, x, hA, cell_lt h0, hx, h0, hc 1 _ rfl⟩
theorem Cts.get {w : World} {A : Option Addr} {n : Nat} {l : List Ct} (h : Cts w A n l) {k : Nat} (hk : k < n) :
    ∃ b off c, A = some ⟨b, off, none⟩ ∧ b < w.heap.size ∧ l[k]? = some c ∧ w.cell? ⟨b, off + k * 4, none⟩ = some (.int .i64 c.g) ∧ w.cell? ⟨b, off + k * 4 + 1, none⟩ = some (.int .i64 c.m) ∧
      w.cell? ⟨b, off + k * 4 + 2, none⟩ = some (.int .i64 c.n) ∧ w.cell? ⟨b, off + k * 4 + 3, none⟩ = some (.int .i64 c.e) := by
  obtain ⟨b, off, x, hA, hx, hc⟩ := h.at_ hk
  have h0 := hc 0 _ rfl
  exact ⟨b, off, x, hA, cell_lt h0, hx, h0, hc 1 _ rfl, hc 2 _ rfl, hc 3 _ rfl⟩
structure Tp where
  A : Option Addr
  c : Nat
  B : Option Addr
  d : Nat
abbrev tyV (T : Ty) (p : Tp) : Value := .agg #[.int .i64 T.g, .int .i64 T.f.lo, .int .i64 T.f.hi, .slice p.A T.ch.length p.c, .int .i64 T.m, .slice p.B T.cs.length p.d]
abbrev tyO (T : Ty) (p : Tp) : Obj := .cells #[.int .i64 T.g, .int .i64 T.f.lo, .int .i64 T.f.hi, .slice p.A T.ch.length p.c, .int .i64 T.m, .slice p.B T.cs.length p.d] 30 (0, 0)
structure TyIn (w : World) (T : Ty) (p : Tp) : Prop where
  a : Sps w p.A T.ch.length T.ch
  ac : T.ch.length ≤ p.c
  am : p.c ≤ maxLen
  b : Cts w p.B T.cs.length T.cs
  bc : T.cs.length ≤ p.d
  bm : p.d ≤ maxLen
theorem TyIn.below {w w' : World} {T : Ty} {p : Tp} {B : Nat} (h : TyIn w T p) (hb : Below B w w') (hB : w.heap.size ≤ B) : TyIn w' T p := ⟨h.a.below hb hB, h.ac, h.am, h.b.below hb hB, h.bc, h.bm⟩
theorem blk6 {w : World} {k : Nat} {a b c d e f : Value} {t : TypeId} {z : Nat × Nat} (h : w.heap[k]? = some (.cells #[a, b, c, d, e, f] t z)) :
    w.cell? ⟨k, 0, none⟩ = some a ∧ w.cell? ⟨k, 1, none⟩ = some b ∧ w.cell? ⟨k, 2, none⟩ = some c ∧ w.cell? ⟨k, 3, none⟩ = some d ∧ w.cell? ⟨k, 4, none⟩ = some e ∧ w.cell? ⟨k, 5, none⟩ = some f := by
  refine ⟨?_, ?_, ?_, ?_, ?_, ?_⟩ <;> simp [World.cell?, h]
theorem tbt_any (n lo hi : Int) (w : World) :
    Calls Try.prog 33 #[.int .i64 n, .int .i64 lo, .int .i64 hi] w fun e w' => e = .returned (.bool (btw n lo hi)) ∧ w = w' := by
  by_cases h1 : lo ≤ n <;> by_cases h2 : n ≤ hi
  all_goals
    go_enter Try.func33, Try.ntmps33
    go_wp2
    go_ret
    exact ⟨by simp [btw, h1, h2], rfl⟩
theorem tbt_ok {n lo hi : Int} (h : lo ≤ n ∧ n ≤ hi) (w : World) :
    Calls Try.prog 33 #[.int .i64 n, .int .i64 lo, .int .i64 hi] w fun e w' => e = .returned (.bool true) ∧ w = w' := by
  have := tbt_any n lo hi w
  rwa [btw_iff.2 h] at this
theorem tord_any (s : Sp) (lo hi : Int) (w : World) (h : SpOk lo hi s) :
    Calls Try.prog 98 #[.agg #[.int .i64 s.lo, .int .i64 s.hi], .int .i64 lo, .int .i64 hi] w fun e w' => e = .returned (.int .i64 0) ∧ Below w.heap.size w w' := by
  obtain ⟨h1, h2, h3⟩ := h
  have c1 := fun w => tbt_ok h1 w
  have c2 := fun w => tbt_ok h2 w
  have h4 : ¬ s.hi < s.lo := by omega
  clear h1 h2 h3
  go_enter Try.func98, Try.ntmps98
  go_wp2_with (go_at_call 33; (first | (with_reducible refine (c1 _).mono ?_) | (with_reducible refine (c2 _).mono ?_)); rintro e w' ⟨rfl, rfl⟩)
  go_ret
  exact ⟨rfl, bal0 w _⟩
theorem tcnt_any (c : Ct) (g : Int) (w : World) (h : CtOk g c) (hg : 1 ≤ g ∧ g ≤ 5) :
    Calls Try.prog 62 #[.agg #[.int .i64 c.g, .int .i64 c.m, .int .i64 c.n, .int .i64 c.e], .int .i64 g] w fun e w' => e = .returned (.int .i64 0) ∧ Below w.heap.size w w' := by
  obtain ⟨h1, h2, h3, h4⟩ := h
  have c1 := fun w => tbt_ok h1 w
  have c2 := fun w => tbt_ok h2 w
  have c3 := fun w => tbt_ok h3 w
  have c4 := fun w => tbt_ok h4 w
  clear h1 h2 h3 h4
  go_enter Try.func62, Try.ntmps62
  go_wp2_with (go_at_call 33; (first | (with_reducible refine (c1 _).mono ?_) | (with_reducible refine (c2 _).mono ?_) | (with_reducible refine (c3 _).mono ?_) | (with_reducible refine (c4 _).mono ?_)); rintro e w' ⟨rfl, rfl⟩)
  go_ret
  exact ⟨rfl, bal0 w _⟩
set_option maxRecDepth 100000 in
theorem tchk_any (T : Ty) (p : Tp) (w : World) (hk : TyOk T) (hi : TyIn w T p) :
    Calls Try.prog 61 #[tyV T p] w fun e w' => e = .returned (.int .i64 0) ∧ Below w.heap.size w w' := by
  obtain ⟨PA, pc, PB, pd⟩ := p
  obtain ⟨h1, h2, h3, h4, h5, h6, h7⟩ := hk
  have c1 := fun w => tbt_ok h1 w
  have c2 := fun w => tord_any T.f 0 300 w h2
  have c3 := fun w => tbt_ok h5 w
  have t1 : ¬ (T.ch.length : Int) < T.g - 1 := by omega
  have t2 : ¬ T.g - 1 < (T.ch.length : Int) := by omega
  have t3 : ¬ (7 : Int) < (T.cs.length : Int) := by omega
  have hg1 := h1.1
  have hg5 := h1.2
  obtain ⟨q, hq⟩ : ∃ q, q = w.heap.size := ⟨_, rfl⟩
  obtain ⟨W, hW⟩ : ∃ W, W = w.alloc (tyO T ⟨PA, pc, PB, pd⟩) := ⟨_, rfl⟩
  have bW : W.heap[q]? = some (tyO T ⟨PA, pc, PB, pd⟩) := by rw [hW, hq]; exact alloc_at rfl
  have hBW : Below w.heap.size w W := by rw [hW]; exact bal0 w _
  have hiW := hi.below hBW (Nat.le_refl _)
  have HI := Lib.hid (And.intro bW (And.intro hBW hiW))
  have H4 := Lib.hid (And.intro h4 (And.intro h7 h1))
  have hnm : T.ch.length ≤ maxLen := by unfold maxLen; omega
  have hsm : T.cs.length ≤ maxLen := by unfold maxLen; omega
  obtain ⟨nc, hnc⟩ : ∃ n, n = T.ch.length := ⟨_, rfl⟩
  obtain ⟨ns, hns⟩ : ∃ n, n = T.cs.length := ⟨_, rfl⟩
  have hac : nc ≤ pc ∧ pc ≤ maxLen := ⟨by rw [hnc]; exact hi.ac, hi.am⟩
  have hbc : ns ≤ pd ∧ pd ≤ maxLen := ⟨by rw [hns]; exact hi.bc, hi.bm⟩
  unfold tyV
  dsimp only
  rw [← hnc] at t1 t2 hnm ⊢
  rw [← hns] at t3 hsm ⊢
  have HN := Lib.hid (And.intro hnc hns)
  unfold tyO at bW
  dsimp only at bW
  rw [← hnc, ← hns] at bW
  obtain ⟨b0, b1, b2, b3, b4, b5⟩ := blk6 bW
  have hql := heap_lt bW
  have HW := Lib.hid (And.intro hq hW)
  clear hq hW hnc hns h1 h2 h3 h4 h5 h6 h7 hiW hBW hi bW
  go_enter Try.func61, Try.ntmps61
  go_upto_region 1 with (fail)
  rw [show w.alloc (Obj.cells #[Value.int .i64 T.g, .int .i64 T.f.lo, .int .i64 T.f.hi, .slice PA nc pc, .int .i64 T.m, .slice PB ns pd] 30) = W by rw [HW.out.2, HN.out.1, HN.out.2], ← HW.out.1]
  go_upto_region 11 with (first
    | (go_at_call 33; (with_reducible refine (c1 _).mono ?_); rintro e w' ⟨rfl, rfl⟩)
    | (go_at_call 98; (with_reducible refine (c2 _).mono ?_); rintro e w2 ⟨rfl, hb2⟩; have k0 := bheap HI.out.1 hb2 (Nat.le_refl _); unfold tyO at k0; dsimp only at k0; rw [← HN.out.1, ← HN.out.2] at k0; obtain ⟨e0, e1, e2, e3, e4, e5⟩ := blk6 k0; have HB2 := Lib.hid hb2; have hq2 := heap_lt k0; clear hb2 k0 b0 b1 b2 b3 b4 b5 hql))
  clear c1 c2
  have H2 := Lib.hid (HI.out.2.2.below HB2.out (Nat.le_refl _))
  go_upto_region 12 with (fail)
  go_loopg [6, 7, 39, 40, 41, 42, 43, 44, 45, 46, 48] nc (fun g _ _ v _ _ _ _ _ _ _ _ wr => ∃ k : Nat, k + g = nc ∧ v = .int .i64 k ∧ Below w2.heap.size w2 wr)
  case atStart => exact ⟨0, by omega, rfl, Below.refl _ _⟩
  case round =>
    obtain ⟨k, hk, rfl, hbr⟩ := hrel
    have HK := Lib.hid (And.intro hk hbr)
    by_cases hlt : k < nc
    · obtain ⟨bi, oi, s, hA, hbi, hs, d0, d1⟩ := Sps.get (H2.out.a.below hbr (Nat.le_refl _)) (show k < T.ch.length by rw [← HN.out.1]; exact hlt)
      have cs := fun w => tord_any s (-60) 60 w (H4.out.1 s (List.mem_of_getElem? hs))
      have hz := hbr.size
      clear hs hk hbr
      subst hA
      go_wp2_with (go_at_call 98; (with_reducible refine (cs _).mono ?_); rintro e w3 ⟨rfl, hb3⟩; have HB3 := Lib.hid hb3; clear hb3)
      go_roundg (gk - 1)
      case measure => have := HK.out.1; omega
      case rel => exact ⟨k + 1, by have := HK.out.1; omega, by go_num, HK.out.2.trans (((bal0 wr _).trans (HB3.out.mono (by simp))).mono HK.out.2.size)⟩
    · obtain rfl : k = nc := by omega
      have k0 := bheap HI.out.1 (HB2.out.trans (hbr.mono HB2.out.size)) (Nat.le_refl _)
      unfold tyO at k0
      dsimp only at k0
      rw [← HN.out.1, ← HN.out.2] at k0
      have hz := hbr.size
      have H3 := Lib.hid (H2.out.below hbr (Nat.le_refl _))
      have hqr := heap_lt k0
      obtain ⟨wr0, hwr⟩ : ∃ W : World, W = wr := ⟨_, rfl⟩
      rw [← hwr] at k0 H3 hqr HK ⊢
      clear hwr e0 e1 e2 e3 e4 e5 hk hbr hz
      have HK0 := Lib.hid k0
      obtain ⟨e0, e1, e2, e3, e4, e5⟩ := blk6 k0
      clear k0
      go_upto_region 23 with (go_at_call 33; (with_reducible refine (c3 _).mono ?_); rintro e w' ⟨rfl, rfl⟩)
      clear c3 t1 t2 t3
      go_loopg [9, 10, 60, 61, 62, 63, 64, 65, 66, 67, 68, 69, 71] ns (fun g _ _ v _ _ _ _ _ _ _ _ _ _ wr => ∃ i : Nat, i + g = ns ∧ v = .int .i64 i ∧ Below wr0.heap.size wr0 wr)
      case atStart => exact ⟨0, by omega, rfl, Below.refl _ _⟩
      case round =>
        obtain ⟨i, hi, rfl, hbr⟩ := hrel
        have HK2 := Lib.hid (And.intro hi hbr)
        by_cases hlt2 : i < ns
        · obtain ⟨bi, oi, c, hB, hbi, hc, d0, d1, d2, d3⟩ := Cts.get (H3.out.b.below hbr (Nat.le_refl _)) (show i < T.cs.length by rw [← HN.out.2]; exact hlt2)
          have cc := fun w => tcnt_any c T.g w (H4.out.2.1 c (List.mem_of_getElem? hc)) H4.out.2.2
          have hz := hbr.size
          have k0 := bheap HK0.out hbr (Nat.le_refl _)
          have HK1 := Lib.hid (bheap k0 (bal0 wr (Obj.cells #[.int .i64 c.g, .int .i64 c.m, .int .i64 c.n, .int .i64 c.e] 76)) (Nat.le_refl _))
          obtain ⟨f0, f1, f2, f3, f4, f5⟩ := blk6 k0
          have hqz := heap_lt k0
          clear hc hi hbr k0 e0 e1 e2 e3 e4 e5 f1 f2 f3 f4 f5
          subst hB
          go_wp2_with (go_at_call 62; (with_reducible refine (cc _).mono ?_); rintro e w3 ⟨rfl, hb3⟩; have HB3 := Lib.hid hb3; clear hb3)
          go_roundg (gk - 1)
          case measure => have := HK2.out.1; omega
          case rel => exact ⟨i + 1, by have := HK2.out.1; omega, by go_num, HK2.out.2.trans (((bal0 wr _).trans (HB3.out.mono (by simp))).mono HK2.out.2.size)⟩
        · obtain rfl : i = ns := by omega
          go_wp2_with fail
          go_ret
          have h1 := HI.out.2.1.trans (HB2.out.mono HI.out.2.1.size)
          have h2 := h1.trans (HK.out.2.mono h1.size)
          exact ⟨rfl, h2.trans (HK2.out.2.mono h2.size)⟩
end Go.Proofs.Ytgnjknihgjdedaa
namespace Go.Proofs.Ytgnjknihgjdedaa
set_option linter.unusedVariables false
set_option linter.unusedSimpArgs false

structure De where
  kind : Int
  flock : Int
  owner : Int
  other : Int
  tof : Int
  many : Int
  err : Int
  s : Sg
  deriving DecidableEq

def hget (h : List Int) (f o : Nat) : Int := h.getD (5 * f + o) 0
def hadd (h : List Int) (f o : Nat) (k : Int) : List Int := h.set (5 * f + o) (hget h f o + k)
def mvd (h : List Int) (f o : Nat) (k : Int) : Option (List Int) := if 0 ≤ hget h f o + k then some (hadd h f o k) else none
def hall (h : List Int) (f : Nat) : Int := hget h f 0 + hget h f 1 + hget h f 2 + hget h f 3 + hget h f 4
def howned (h : List Int) (o : Nat) : Int := hget h 0 o + hget h 1 o + hget h 2 o
def lostJ (n f : Nat) : Nat → List Int → Nat → List (List Int)
  | 0, h, m => if m = 0 then [h] else []
  | j + 1, h, m => if m = 0 then [h] else (List.range (m + 1)).flatMap fun (k : Nat) => match mvd h f (n - (j + 1)) (-(k : Int)) with
    | some x => lostJ n f j x (m - k)
    | none => []
def strayL (f g : Nat) (h : List Int) : List Int → List (List Int) := fun os => os.flatMap fun o => match mvd h f o.toNat (-1) with | some x => [hadd x g o.toNat 1] | none => []
def countB (d : De) (h : List Int) : Bool := btw (hall h d.flock.toNat) ((100 * d.many + 99 + d.err).tdiv (100 + d.err)) ((100 * d.many).tdiv (100 - d.err))
def succ (t : Int) (l : List Mk) (pass : Int → Bool) (d : De) (h : List Int) : List (List Int) :=
  if d.kind = 1 then [hadd h d.flock.toNat d.owner.toNat d.many]
  else if d.kind = 2 then (match mvd h d.flock.toNat d.owner.toNat (-d.many) with | some x => [hadd x d.flock.toNat d.other.toNat d.many] | none => [])
  else if d.kind = 3 then (match mvd h d.flock.toNat d.owner.toNat (-d.many) with | some x => [x] | none => [])
  else if d.kind = 4 then lostJ l.length d.flock.toNat l.length h d.many.toNat
  else if d.kind = 5 then strayL d.flock.toNat d.tof.toNat h ((mayL t l d.s).filter pass)
  else if countB d h = true then [h] else []

def ddup : List (List Int) → List (List Int)
  | [] => []
  | x :: l => if x ∈ l then ddup l else x :: ddup l
theorem mem_ddup {x : List Int} : ∀ {l : List (List Int)}, x ∈ ddup l ↔ x ∈ l
  | [] => by simp [ddup]
  | y :: l => by
    have ih := mem_ddup (x := x) (l := l)
    unfold ddup
    split
    · rename_i hy
      rw [ih, List.mem_cons]
      exact ⟨.inr, fun h => h.elim (fun e => e ▸ hy) id⟩
    · rw [List.mem_cons, List.mem_cons, ih]
theorem nodup_ddup : ∀ l : List (List Int), (ddup l).Nodup
  | [] => by simp [ddup]
  | y :: l => by
    have ih := nodup_ddup l
    unfold ddup
    split
    · exact ih
    · rename_i hy
      exact List.nodup_cons.2 ⟨fun h => hy (mem_ddup.1 h), ih⟩
theorem perm_of_mem {l m : List (List Int)} (hl : l.Nodup) (hm : m.Nodup) (h : ∀ x, x ∈ l ↔ x ∈ m) : l.Perm m := by
  rw [List.perm_iff_count]
  intro a
  by_cases ha : a ∈ l
  · rw [hl.count, hm.count, if_pos ha, if_pos ((h a).1 ha)]
  · rw [List.count_eq_zero_of_not_mem ha, List.count_eq_zero_of_not_mem (fun h' => ha ((h a).2 h'))]

def firstH (heads : List (List Int)) : List Int := (List.range 15).map fun i => (heads.getD (i / 5) []).getD (i % 5) 0
def passB (deed owner : Int) (i : Nat) (o : Int) : Bool := !(decide ((i : Int) = deed) && decide (o ≠ owner))
def endsTo (t : Int) (l : List Mk) (heads : List (List Int)) (ds : List De) (deed owner : Int) : Nat → List (List Int)
  | 0 => [firstH heads]
  | i + 1 => ddup ((endsTo t l heads ds deed owner i).flatMap fun h => match ds[i]? with | some d => succ t l (passB deed owner i) d h | none => [])
def endsL (t : Int) (l : List Mk) (heads : List (List Int)) (ds : List De) (deed owner : Int) : List (List Int) := endsTo t l heads ds deed owner ds.length
theorem endsTo_nodup (t : Int) (l : List Mk) (heads : List (List Int)) (ds : List De) (deed owner : Int) : ∀ i, (endsTo t l heads ds deed owner i).Nodup
  | 0 => by simp [endsTo]
  | i + 1 => nodup_ddup _

def HBd (B : Int) (h : List Int) : Prop := h.length = 15 ∧ ∀ x ∈ h, 0 ≤ x ∧ x ≤ B
theorem HBd.mono {B C : Int} {h : List Int} (hh : HBd B h) (hc : B ≤ C) : HBd C h := ⟨hh.1, fun x hx => by have := hh.2 x hx; omega⟩
theorem HBd.get {B : Int} {h : List Int} (hh : HBd B h) {f o : Nat} (hf : f < 3) (ho : o < 5) : 0 ≤ hget h f o ∧ hget h f o ≤ B := by
  unfold hget
  rw [List.getD_eq_getElem?_getD, List.getElem?_eq_getElem (by rw [hh.1]; omega), Option.getD_some]
  exact hh.2 _ (List.getElem_mem _)
theorem HBd.add {B C : Int} {h : List Int} (hh : HBd B h) {f o : Nat} {k : Int} (h0 : 0 ≤ hget h f o + k) (h1 : hget h f o + k ≤ C) (hc : B ≤ C) : HBd C (hadd h f o k) := by
  unfold hadd
  refine ⟨by rw [List.length_set]; exact hh.1, fun x hx => ?_⟩
  rcases List.mem_or_eq_of_mem_set hx with hx | rfl
  · have := hh.2 x hx; omega
  · exact ⟨h0, h1⟩
theorem hget_set {h : List Int} {f o f' o' : Nat} {v : Int} (hl : h.length = 15) (hf : f < 3) (ho : o < 5) (ho' : o' < 5) : (h.set (5 * f + o) v).getD (5 * f' + o') 0 = if f = f' ∧ o = o' then v else h.getD (5 * f' + o') 0 := by
  rw [List.getD_eq_getElem?_getD, List.getD_eq_getElem?_getD]
  by_cases e : f = f' ∧ o = o'
  · obtain ⟨rfl, rfl⟩ := e
    rw [if_pos ⟨rfl, rfl⟩, List.getElem?_set_self (by omega)]; rfl
  · rw [if_neg e, List.getElem?_set_ne (by omega)]
theorem hget_hadd {h : List Int} {f o f' o' : Nat} {k : Int} (hl : h.length = 15) (hf : f < 3) (ho : o < 5) (ho' : o' < 5) : hget (hadd h f o k) f' o' = if f = f' ∧ o = o' then hget h f o + k else hget h f' o' := hget_set hl hf ho ho'
theorem mvd_some {h x : List Int} {f o : Nat} {k : Int} (hm : mvd h f o k = some x) : 0 ≤ hget h f o + k ∧ x = hadd h f o k := by
  unfold mvd at hm
  split at hm
  · rename_i h0; injection hm with e; exact ⟨h0, e.symm⟩
  · cases hm
theorem lostJ_bd {B : Int} {n f : Nat} (hf : f < 3) (hn : n ≤ 5) : ∀ (j : Nat) (h : List Int) (m : Nat), j ≤ n → HBd B h → ∀ x ∈ lostJ n f j h m, HBd B x
  | 0, h, m, _, hh, x, hx => by
    unfold lostJ at hx
    split at hx
    · simp at hx; rw [hx]; exact hh
    · cases hx
  | j + 1, h, m, hj, hh, x, hx => by
    unfold lostJ at hx
    split at hx
    · simp at hx; rw [hx]; exact hh
    · obtain ⟨k, hk, hx⟩ := List.mem_flatMap.1 hx
      cases hm : mvd h f (n - (j + 1)) (-(k : Int)) with
      | none => rw [hm] at hx; cases hx
      | some y =>
        rw [hm] at hx
        obtain ⟨h0, rfl⟩ := mvd_some hm
        have hg := hh.get hf (show n - (j + 1) < 5 by omega)
        exact lostJ_bd hf hn j _ _ (by omega) (hh.add h0 (by omega) (Int.le_refl _)) x hx
structure DeIn (n nf : Nat) (d : De) : Prop where
  f : 0 ≤ d.flock ∧ d.flock < nf
  o : 0 ≤ d.owner ∧ d.owner < 5
  x : 0 ≤ d.other ∧ d.other < 5
  t : 0 ≤ d.tof ∧ d.tof < 3
  m : 0 ≤ d.many ∧ d.many ≤ 300
  s : d.kind ≠ 6 → d.many ≤ 20
  l : d.kind = 4 → d.many ≤ 3
  e : 0 ≤ d.err ∧ d.err ≤ 20
  k : 1 ≤ d.kind ∧ d.kind ≤ 6
  st : d.kind = 5 → seen d.s 9 6 = 0
theorem mayTo_lt {t : Int} {l : List Mk} {s : Sg} : ∀ o ∈ mayL t l s, 0 ≤ o ∧ o < l.length := by
  intro o ho
  unfold mayL mayTo at ho
  obtain ⟨i, hi, rfl⟩ := List.mem_map.1 ho
  have := List.mem_range.1 (List.mem_filter.1 hi).1
  simp; omega
theorem succ_bd {B : Int} {t : Int} {l : List Mk} {pass : Int → Bool} {d : De} {h : List Int} {nf : Nat} (hnf : nf ≤ 3) (hl : l.length ≤ 5) (hd : DeIn l.length nf d) (hh : HBd B h) (hB : 0 ≤ B) : ∀ x ∈ succ t l pass d h, HBd (B + 20) x := by
  intro x hx
  have hf := hd.f
  have ho := hd.o
  have hxo := hd.x
  have hm := hd.m
  have hs := hd.s
  have fl : d.flock.toNat < 3 := by omega
  unfold succ at hx
  split at hx
  · rename_i hk
    simp at hx
    subst hx
    have hg := hh.get fl (show d.owner.toNat < 5 by omega)
    have := hs (by omega)
    exact hh.add (by omega) (by omega) (by omega)
  split at hx
  · rename_i hk1 hk
    have h20 := hs (by omega)
    cases hmv : mvd h d.flock.toNat d.owner.toNat (-d.many) with
    | none => rw [hmv] at hx; cases hx
    | some y =>
      rw [hmv] at hx
      obtain ⟨h0, rfl⟩ := mvd_some hmv
      simp at hx
      subst hx
      have hg := hh.get fl (show d.owner.toNat < 5 by omega)
      have hy : HBd B (hadd h d.flock.toNat d.owner.toNat (-d.many)) := hh.add h0 (by omega) (Int.le_refl _)
      have hg2 := hy.get fl (show d.other.toNat < 5 by omega)
      exact hy.add (by omega) (by omega) (by omega)
  split at hx
  · have h20 := hs (by omega)
    cases hmv : mvd h d.flock.toNat d.owner.toNat (-d.many) with
    | none => rw [hmv] at hx; cases hx
    | some y =>
      rw [hmv] at hx
      obtain ⟨h0, rfl⟩ := mvd_some hmv
      simp at hx
      subst hx
      have hg := hh.get fl (show d.owner.toNat < 5 by omega)
      exact hh.add h0 (by omega) (by omega)
  split at hx
  · exact (lostJ_bd fl hl _ _ _ (Nat.le_refl _) hh x hx).mono (by omega)
  split at hx
  · unfold strayL at hx
    obtain ⟨o, ho', hx⟩ := List.mem_flatMap.1 hx
    have hol := mayTo_lt o (List.mem_filter.1 ho').1
    cases hmv : mvd h d.flock.toNat o.toNat (-1) with
    | none => rw [hmv] at hx; cases hx
    | some y =>
      rw [hmv] at hx
      obtain ⟨h0, rfl⟩ := mvd_some hmv
      simp at hx
      subst hx
      have hg := hh.get fl (show o.toNat < 5 by omega)
      have hy : HBd B (hadd h d.flock.toNat o.toNat (-1)) := hh.add h0 (by omega) (Int.le_refl _)
      have ht := hd.t
      have hg2 := hy.get (show d.tof.toNat < 3 by omega) (show o.toNat < 5 by omega)
      exact hy.add (by omega) (by omega) (by omega)
  split at hx
  · simp at hx; rw [hx]; exact hh.mono (by omega)
  · cases hx
theorem firstH_bd {heads : List (List Int)} (h : ∀ r ∈ heads, ∀ x ∈ r, 0 ≤ x ∧ x ≤ 20) : HBd 20 (firstH heads) := by
  refine ⟨by simp [firstH], fun x hx => ?_⟩
  obtain ⟨i, hi, rfl⟩ := List.mem_map.1 hx
  rw [List.getD_eq_getElem?_getD, List.getD_eq_getElem?_getD]
  cases h1 : heads[i / 5]? with
  | none => simp
  | some r =>
    rw [Option.getD_some]
    cases h2 : r[i % 5]? with
    | none => simp
    | some y => rw [Option.getD_some]; exact h r (List.mem_of_getElem? h1) y (List.mem_of_getElem? h2)
theorem endsTo_bd {t : Int} {l : List Mk} {heads : List (List Int)} {ds : List De} {deed owner : Int} {nf : Nat} (hnf : nf ≤ 3) (hl : l.length ≤ 5) (hh : ∀ r ∈ heads, ∀ x ∈ r, 0 ≤ x ∧ x ≤ 20) (hd : ∀ d ∈ ds, DeIn l.length nf d) :
    ∀ i, ∀ x ∈ endsTo t l heads ds deed owner i, HBd (20 + 20 * (i : Int)) x
  | 0, x, hx => by simp [endsTo] at hx; subst hx; exact (firstH_bd hh).mono (by omega)
  | i + 1, x, hx => by
    unfold endsTo at hx
    obtain ⟨h, hh', hx⟩ := List.mem_flatMap.1 (mem_ddup.1 hx)
    cases hi : ds[i]? with
    | none => rw [hi] at hx; cases hx
    | some d =>
      rw [hi] at hx
      have ih := endsTo_bd hnf hl hh hd i h hh'
      exact (succ_bd hnf hl (hd d (List.mem_of_getElem? hi)) ih (by omega) x hx).mono (by omega)
theorem endsTo_mem {t : Int} {l : List Mk} {heads : List (List Int)} {ds : List De} {deed owner : Int} {i : Nat} {d : De} (hd : ds[i]? = some d) (x : List Int) :
    x ∈ endsTo t l heads ds deed owner (i + 1) ↔ ∃ h ∈ endsTo t l heads ds deed owner i, x ∈ succ t l (passB deed owner i) d h := by
  conv => lhs; unfold endsTo
  rw [mem_ddup, List.mem_flatMap, hd]
end Go.Proofs.Ytgnjknihgjdedaa
