/- HerdEntered 11: HdT, HdE, HdA, CopyN. -/
import Derived.Test.YtmennjmjakdkcaaEn10
import Derived.Test.YtmennjmjakdkcaaEn01
import Derived.RangeFuncNested
import Derived.Test.YtmennjmjakdkcaaEn02
import Derived.Test.YtmennjmjakdkcaaEn04
namespace Go.Proofs.Ytmennjmjakdkcaa
open Go.RowKit Go.MapKept
set_option linter.unusedVariables false
set_option linter.unusedSimpArgs false

def kf (k : Int) : FuncId := if k = 1 then 116 else if k = 2 then 117 else if k = 3 then 118 else if k = 4 then 119 else if k = 5 then 120 else 121
theorem deed_any (p : Nat) (t : Int) (A : Option Addr) (c : Nat) (l : List Mk) (ks hs ds : Value) (deed owner now : Int) (h : List Int) (d : De) (nf : Nat) (B M : Nat) (K : List (List Int)) (w : World) (hA : Ask l.length nf B M K h d w) (hB : Book w p t A l.length c l ks hs ds deed owner now) :
    Calls Try.prog (kf d.kind) #[.pointer (some ⟨p, 0, none⟩), .agg (hcs h), dv d, .func (.func 106) #[] #[.pointer (some ⟨B, 0, none⟩)]] w fun e w' => e = .returned (.tuple #[]) ∧ PutsH w w' M (succ t l (passI deed owner now) d h) := by
  have hk := hA.hd.k
  obtain h1 | h1 | h1 | h1 | h1 | h1 : d.kind = 1 ∨ d.kind = 2 ∨ d.kind = 3 ∨ d.kind = 4 ∨ d.kind = 5 ∨ d.kind = 6 := by omega
  · rw [show succ t l (passI deed owner now) d h = [hadd h d.flock.toNat d.owner.toNat d.many] by unfold succ; rw [if_pos h1], show kf d.kind = 116 by rw [h1]; rfl]
    exact born_any _ h d _ _ B M K w hA h1
  · rw [show succ t l (passI deed owner now) d h = (match mvd h d.flock.toNat d.owner.toNat (-d.many) with | some x => [hadd x d.flock.toNat d.other.toNat d.many] | none => []) by unfold succ; rw [if_neg (by omega), if_pos h1]; cases mvd h d.flock.toNat d.owner.toNat (-d.many) <;> rfl, show kf d.kind = 117 by rw [h1]; rfl]
    exact sold_any _ h d _ _ B M K w hA h1
  · rw [show succ t l (passI deed owner now) d h = (match mvd h d.flock.toNat d.owner.toNat (-d.many) with | some x => [x] | none => []) by unfold succ; rw [if_neg (by omega), if_neg (by omega), if_pos h1]; cases mvd h d.flock.toNat d.owner.toNat (-d.many) <;> rfl, show kf d.kind = 118 by rw [h1]; rfl]
    exact eaten_any _ h d _ _ B M K w hA h1
  · rw [show succ t l (passI deed owner now) d h = lostJ l.length d.flock.toNat l.length h d.many.toNat by unfold succ; rw [if_neg (by omega), if_neg (by omega), if_neg (by omega), if_pos h1], show kf d.kind = 119 by rw [h1]; rfl]
    exact lost_any p t A c l ks hs ds deed owner now h d nf B M K w hA hB h1
  · rw [show succ t l (passI deed owner now) d h = strayL d.flock.toNat d.tof.toNat h ((mayL t l d.s).filter (passI deed owner now)) by unfold succ; rw [if_neg (by omega), if_neg (by omega), if_neg (by omega), if_neg (by omega), if_pos h1], show kf d.kind = 120 by rw [h1]; rfl]
    exact strayed_any p t A _ c l ks hs ds deed owner now h d nf B M K w hA hB h1
  · rw [show succ t l (passI deed owner now) d h = (if countB d h = true then [h] else []) by unfold succ; rw [if_neg (by omega), if_neg (by omega), if_neg (by omega), if_neg (by omega), if_neg (by omega)], show kf d.kind = 121 by rw [h1]; rfl]
    exact counted_any _ h d _ _ B M K w hA h1
/-- the look-up of a kind in the map of the methods -/
theorem look_kind {w : World} {D clock p : Nat} {k : Int} (h : w.heap[D]? = some (.map (doesM p) clock)) (h1 : 1 ≤ k) (h6 : k ≤ 6) :
    (Instr.lookup 164 (.map (some D)) (.int .i64 k) false).run Try.prog w = .ok (.func (.func (kf k)) #[.pointer (some ⟨p, 0, none⟩)] #[]) w := by
  obtain rfl | rfl | rfl | rfl | rfl | rfl : k = 1 ∨ k = 2 ∨ k = 3 ∨ k = 4 ∨ k = 5 ∨ k = 6 := by omega
  · exact run_does (k := 0) h (e := _) rfl (by decide)
  · exact run_does (k := 1) h (e := _) rfl (by decide)
  · exact run_does (k := 2) h (e := _) rfl (by decide)
  · exact run_does (k := 3) h (e := _) rfl (by decide)
  · exact run_does (k := 4) h (e := _) rfl (by decide)
  · exact run_does (k := 5) h (e := _) rfl (by decide)
end Go.Proofs.Ytmennjmjakdkcaa
namespace Go.Proofs.Ytmennjmjakdkcaa
open Go.RowKit
set_option linter.unusedVariables false
set_option linter.unusedSimpArgs false

/-- the iterator's contract: it goes through the list; each round is asked for at a part that Sp lets; it returns when all has come (S) or when a round has said so -/
def SeqE {α : Type} (F : Fence) (n : Nat) (P : Program) (g : Nat) (lb : Array Value) (enc : α → Array Value) (Ex : World → World → Prop) (S Sp : List α → Prop) (w : World) : Prop :=
  ∀ (l : Nat) (J Jx : List α → World → Prop) (W : World), Below w.heap.size w W → AbidesFrom W.heap.size J → AbidesFrom W.heap.size Jx → (∀ s A B, J s A → Ex A B → J s B) →
    (∀ pre x V, J pre V → Sp (pre ++ [x]) → YieldAt F (n - 1) P l (enc x) V fun e V' => (e = .returned (.bool true) ∧ J (pre ++ [x]) V' ∧ KeepsWalks V V') ∨ (e = .returned (.bool false) ∧ Jx (pre ++ [x]) V')) →
    J [] W → CallsIn F n P g (#[.func (.yield l) #[] #[]] ++ lb) W fun e W' => (∃ v, e = .returned v) ∧ ((∃ xs, S xs ∧ J xs W') ∨ ∃ pre, Sp pre ∧ Jx pre W')

/-- the loop's record and the block of its deferred calls, as they lie -/
def Rec (D : Nat) (r : Loop) (W : World) : Prop := W.heap[D + 1]? = some (.loop r) ∧ W.heap[D]? = some (.deferred (some []))
theorem Rec.ab {D : Nat} {r : Loop} {A B : World} {row : Option Nat} (h : Rec D r A) (hg : A.grownBy B row) (hr : ∀ i, row = some i → ∃ o : Obj, A.heap[i]? = some o ∧ o.isWalk = true) : Rec D r B :=
  ⟨(grownBy_keeps hg hr h.1 rfl).trans h.1, (grownBy_keeps hg hr h.2 rfl).trans h.2⟩
theorem Rec.others {D : Nat} {r : Loop} {A B : World} (h : Rec D r A) (hk : KeepsOthers A B) : Rec D r B := ⟨hk.same _ _ h.1 rfl, hk.same _ _ h.2 rfl⟩
theorem Rec.keeps {D B0 : Nat} {r : Loop} {A B : World} (h : Rec D r A) (hk : KeepsFrom B0 A B) (hB : B0 ≤ D) : Rec D r B := ⟨hk.same _ _ (by omega) h.1 rfl, hk.same _ _ hB h.2 rfl⟩
theorem Rec.turn {D : Nat} {r r' : Loop} {A : World} (h : Rec D r A) : Rec D r' (A.putObj (D + 1) (.loop r')) :=
  ⟨World.putObj_heap_same (Array.getElem?_eq_some_iff.1 h.1).1, (World.putObj_heap_other (by omega)).trans h.2⟩
theorem walks_put {W : World} {l : Nat} {r r' : Loop} (h : W.heap[l]? = some (.loop r)) : KeepsWalks W (W.putObj l (.loop r')) := by
  refine ⟨by simp, fun k o hk ho => ?_⟩
  by_cases e : k = l
  · rw [e, h] at hk
    cases hk
    cases ho
  · exact (World.putObj_heap_other e).trans hk

variable {F : Fence} {n : Nat} {P : Program}
/-- how a round may end: as it should, with the invariant carried on; or by a jump -/
def roundOut {α : Type} (B : Nat) (I : List α → World → Prop) (Ix : Code → List α → World → Prop) (xs : List α) (W : World) : Exit → Act → World → Prop
  | .normal, _, W' => KeepsFrom B W W' ∧ KeepsWalks W W' ∧ I xs W'
  | .ret, _, W' => KeepsFrom B W W' ∧ Ix .ret xs W'
  | .exit id, _, W' => KeepsFrom B W W' ∧ Ix (.exit id) xs W'
  | .goto t, _, W' => KeepsFrom B W W' ∧ Ix (.goto t) xs W'
  | _, _, _ => False

theorem wpIn_rangeE {α : Type} {g : Operand} {ps : Array Tmp} {assign body : Code} {Q : Exit → Act → World → Prop} {a : Act} {w : World}
    (hro : F.round = none) (h1 : 1 ≤ n) {gf : Nat} {lb : Array Value} (hg : a.eval g = .func (.func gf) #[] lb) (hFg : F.fn gf) (eg : ∀ args w, (callFunc gf args).run P w = .ok (.enter gf args) w)
    {enc : α → Array Value} {Ex : World → World → Prop} {S Sp : List α → Prop} (hseq : SeqE F (n - 1) P gf lb enc Ex S Sp w) (hEx : ∀ A B, Ex A B → KeepsOthers A B) (hps : ∀ x, (enc x).size = ps.size)
    (I : List α → World → Prop) (Ix : Code → List α → World → Prop) (hI : OwnFrom w.heap.size I) (hIx : ∀ c, OwnFrom w.heap.size (Ix c)) (hIE : ∀ s A B, I s A → Ex A B → I s B) (h0 : I [] w)
    (Ax : α → Act → World → Prop) (hAx : ∀ x a', OwnFrom w.heap.size (fun (_ : Unit) W => Ax x a' W))
    (hassign : ∀ (l : Nat) (pre : List α) (x : α) (W : World) (K : Act → World → Prop), I pre W → Sp (pre ++ [x]) → (∀ a' W', KeepsFrom w.heap.size W W' → KeepsWalks W W' → I pre W' → Ax x a' W' → K a' W') →
      assign.wpIn (F.inRound l) (n - 1 - 1) P (Exit.then K (fun _ _ _ => False)) { tmps := (ps.zip (enc x)).foldl (fun t (p, v) => t.setIfInBounds p v) a.tmps, defers := [] } W)
    (hbody : ∀ (l : Nat) (pre : List α) (x : α) (a' : Act) (W : World), I pre W → Ax x a' W → Sp (pre ++ [x]) → body.wpIn (F.inRound l) (n - 1 - 1) P (roundOut w.heap.size I Ix (pre ++ [x]) W) a' W)
    (hdone : ∀ (D : Nat) (xs : List α) (W : World), w.heap.size ≤ D → S xs → I xs W → W.heap[D]? = some (.deferred (some [])) → Q .normal { a with defers := { target := .collected D, args := #[] } :: a.defers } W)
    (hstop : ∀ (D : Nat) (c : Code) (pre : List α) (W : World), w.heap.size ≤ D → Sp pre → Ix c pre W → W.heap[D]? = some (.deferred (some [])) → c.wpIn F n P Q { a with defers := { target := .collected D, args := #[] } :: a.defers } W) :
    (Code.rangeFunc g ps assign body).wpIn F n P Q a w := by
  refine wpIn_rangeFunc fun fn hfn => ?_
  rw [hro]
  obtain ⟨D, hD⟩ : ∃ D, D = w.heap.size := ⟨_, rfl⟩
  obtain ⟨rec, hrec⟩ : ∃ rec : LoopState → Option Code → Loop, rec = fun st pe => { state := st, pending := pe, fn, tmps := a.tmps, params := ps, assign, body, defers := D } := ⟨_, rfl⟩
  have rst : ∀ st pe, (rec st pe).state = st := fun st pe => by rw [hrec]
  have rpe : ∀ st pe, (rec st pe).pending = pe := fun st pe => by rw [hrec]
  have rup : ∀ st pe st' pe', { rec st pe with state := st', pending := pe' } = rec st' pe' := fun _ _ _ _ => by rw [hrec]
  have rup1 : ∀ st pe st', { rec st pe with state := st' } = rec st' pe := fun _ _ _ => by rw [hrec]
  obtain ⟨W1, hW1⟩ : ∃ W1, (w.alloc (.deferred (some []))).alloc (.loop (rec .ready none)) = W1 := ⟨_, rfl⟩
  have hz1 : W1.heap.size = D + 2 := by rw [← hW1, hD]; simp
  have hR1 : Rec D (rec .ready none) W1 := by
    have e1 : (w.alloc (.deferred (some []))).heap.size = D + 1 := by rw [hD]; simp
    refine ⟨?_, ?_⟩
    · have := World.alloc_heap_new (w.alloc (.deferred (some []))) (.loop (rec .ready none)); rw [e1] at this; rwa [← hW1]
    · rw [← hW1, Below.heap_alloc _ _ _ (by omega), hD]; exact World.alloc_heap_new w _
  have hI1 : I [] W1 := by rw [← hW1]; exact hI.alloc _ (hI.alloc _ h0)
  have hb1 : Below w.heap.size w W1 := by rw [← hW1]; exact ((Below.refl _ w).alloc (Nat.le_refl _) _).alloc (by simp) _
  refine ⟨D + 1, [{ target := .collected D, args := #[] }], W1, { target := .fn (.func gf) lb, args := #[.func (.yield (D + 1)) #[] #[]] }, W1, gf, #[.func (.yield (D + 1)) #[] #[]] ++ lb, W1, ?_, ?_, ?_, ?_, fun _ => h1, ?_⟩
  · rw [← hW1, hrec, hD]; exact run_enterLoop_outer _ _ _ _ _
  · simp only [resolve, hg]; simp [go_sem]
  · intro f' hf'; simp [Target.leads] at hf'; subst hf'; exact hFg
  · simp [invoke, go_sem, eg]
  -- what is no cells and lies at or behind w's end: it is asked of the iterator's steps
  have nw : ∀ {A B : World} {row : Option Nat}, A.grownBy B row → (∀ r, row = some r → W1.heap.size ≤ r ∧ ∃ o : Obj, A.heap[r]? = some o ∧ o.isWalk = true) → ∀ r, row = some r → w.heap.size ≤ r ∧ ∃ o : Obj, A.heap[r]? = some o ∧ o.isCells = false :=
    fun _ hr r e => by obtain ⟨hB, o, ho, hw⟩ := hr r e; exact ⟨by omega, o, ho, Obj.not_cells_of_walk hw⟩
  refine (hseq (D + 1) (fun pre W => I pre W ∧ Rec D (rec .ready none) W) (fun pre W => ∃ c, Ix c pre W ∧ Rec D (rec .done (some c)) W) W1 hb1
    (fun s A B row hs hg' hr => ⟨hI s A B row hs.1 hg' (nw hg' hr), hs.2.ab hg' fun r e => (hr r e).2⟩)
    (fun s A B row hs hg' hr => by obtain ⟨c, hc, hl⟩ := hs; exact ⟨c, hIx c s A B row hc hg' (nw hg' hr), hl.ab hg' fun r e => (hr r e).2⟩)
    (fun s A B hs hx => ⟨hIE s A B hs.1 hx, hs.2.others (hEx A B hx)⟩) ?round ⟨hI1, hR1⟩).mono ?behind
  case round =>
    rintro pre x V ⟨hi, hR⟩ hsp
    have hy := run_yield (P := P) (args := enc x) hR.1 (by rw [hrec]; exact hps x)
    have e1 : (rec .ready none).fn = fn := by rw [hrec]
    have e2 : (rec .ready none).params = ps := by rw [hrec]
    have e3 : (rec .ready none).tmps = a.tmps := by rw [hrec]
    have e4 : (rec .ready none).assign = assign := by rw [hrec]
    have e5 : (rec .ready none).body = body := by rw [hrec]
    rw [e1, e2, e3, e4, e5] at hy
    refine ⟨fn, _, assign, body, hy, roundIn_of_wpIn hfn (hassign _ pre x V _ hi hsp ?_)⟩
    intro a' U hkf hkw hi2 hax
    have hR2 := hR.keeps hkf (by omega)
    refine ⟨_, run_beginRound hR2.1 (rst _ _), ?_⟩
    rw [rup1]
    have hR3 : Rec D (rec .busy none) (U.putObj (D + 1) (.loop (rec .busy none))) := hR2.turn
    have hk3 := walks_put (r' := rec .busy none) hR2.1
    refine wpIn_mono (hbody _ pre x a' _ (hI.putObj _ hi2 (by omega) hR2.1 rfl) ((hAx x a').putObj (s := ()) _ hax (by omega) hR2.1 rfl) hsp) ?_
    have fin : ∀ (jump : Option Code) (Z : World), KeepsFrom w.heap.size (U.putObj (D + 1) (.loop (rec .busy none))) Z →
        (Instr.endRound (D + 1) jump).run P Z = .ok (.bool jump.isNone) (Z.putObj (D + 1) (.loop (rec (if jump.isNone then .ready else .done) jump))) ∧ Rec D (rec .busy none) Z := fun jump Z hk => by
      have hR4 := hR3.keeps hk (by omega)
      have := run_endRound (P := P) jump hR4.1
      rw [rup] at this
      exact ⟨this, hR4⟩
    intro e a3 Z hp
    cases e with
    | normal =>
      obtain ⟨k1, k2, k3⟩ := hp
      obtain ⟨hr, hR4⟩ := fin none Z k1
      exact ⟨_, _, hr, .inl ⟨rfl, ⟨hI.putObj _ k3 (by omega) hR4.1 rfl, hR4.turn⟩, hkw.trans (hk3.trans (k2.trans (walks_put hR4.1)))⟩⟩
    | ret =>
      obtain ⟨hr, hR4⟩ := fin (some .ret) Z hp.1
      exact ⟨_, _, hr, .inr ⟨rfl, _, (hIx _).putObj _ hp.2 (by omega) hR4.1 rfl, hR4.turn⟩⟩
    | exit id =>
      obtain ⟨hr, hR4⟩ := fin (some (.exit id)) Z hp.1
      exact ⟨_, _, hr, .inr ⟨rfl, _, (hIx _).putObj _ hp.2 (by omega) hR4.1 rfl, hR4.turn⟩⟩
    | goto t =>
      obtain ⟨hr, hR4⟩ := fin (some (.goto t)) Z hp.1
      exact ⟨_, _, hr, .inr ⟨rfl, _, (hIx _).putObj _ hp.2 (by omega) hR4.1 rfl, hR4.turn⟩⟩
    | panic ch => exact hp.elim
    | outgrown => exact hp.elim
  case behind =>
    rintro e Z ⟨⟨v, rfl⟩, (⟨xs, hS, hi, hR⟩ | ⟨pre, hSp, c, hi, hR⟩)⟩
    · have := run_endLoop (P := P) hR.1 (by rw [rst]; simp)
      rw [rup1, rpe] at this
      exact ⟨none, _, this, hdone D xs _ (by omega) hS (hI.putObj _ hi (by omega) hR.1 rfl) hR.turn.2⟩
    · have := run_endLoop (P := P) hR.1 (by rw [rst]; simp)
      rw [rup1, rpe] at this
      exact ⟨some c, _, this, hstop D c pre _ (by omega) hSp ((hIx c).putObj _ hi (by omega) hR.1 rfl) hR.turn.2⟩
end Go.Proofs.Ytmennjmjakdkcaa
namespace Go.Proofs.Ytmennjmjakdkcaa
open Go.RowKit Go.MapKept
set_option linter.unusedVariables false
set_option linter.unusedSimpArgs false

def eDe (d : De) : List Value := [.int .i64 d.kind, .int .i64 d.flock, .int .i64 d.owner, .int .i64 d.other, .int .i64 d.tof, .int .i64 d.many, .int .i64 d.err, .int .i64 d.s.n, .bool d.s.l, .bool d.s.r, .int .i64 d.s.b, .int .i64 d.s.p]
theorem lenDe (d : De) : (eDe d).length = 12 := rfl
abbrev Deeds (w : World) (A : Option Addr) (n : Nat) (l : List De) : Prop := Sl eDe 12 w A n l
theorem Deeds.get {w : World} {A : Option Addr} {n : Nat} {l : List De} (h : Deeds w A n l) {k : Nat} (hk : k < n) :
    ∃ b off d, A = some ⟨b, off, none⟩ ∧ b < w.heap.size ∧ l[k]? = some d ∧ w.cell? ⟨b, off + k * 12, none⟩ = some (.int .i64 d.kind) ∧
      w.cell? ⟨b, off + k * 12 + 1, none⟩ = some (.int .i64 d.flock) ∧ w.cell? ⟨b, off + k * 12 + 2, none⟩ = some (.int .i64 d.owner) ∧ w.cell? ⟨b, off + k * 12 + 3, none⟩ = some (.int .i64 d.other) ∧
      w.cell? ⟨b, off + k * 12 + 4, none⟩ = some (.int .i64 d.tof) ∧ w.cell? ⟨b, off + k * 12 + 5, none⟩ = some (.int .i64 d.many) ∧ w.cell? ⟨b, off + k * 12 + 6, none⟩ = some (.int .i64 d.err) ∧
      w.cell? ⟨b, off + k * 12 + 7, none⟩ = some (.int .i64 d.s.n) ∧ w.cell? ⟨b, off + k * 12 + 8, none⟩ = some (.bool d.s.l) ∧ w.cell? ⟨b, off + k * 12 + 9, none⟩ = some (.bool d.s.r) ∧
      w.cell? ⟨b, off + k * 12 + 10, none⟩ = some (.int .i64 d.s.b) ∧ w.cell? ⟨b, off + k * 12 + 11, none⟩ = some (.int .i64 d.s.p) := by
  obtain ⟨b, off, x, hA, hx, hc⟩ := h.at_ hk
  have h0 := hc 0 _ rfl
  exact ⟨b, off, x, hA, cell_lt h0, hx, h0, hc 1 _ rfl, hc 2 _ rfl, hc 3 _ rfl, hc 4 _ rfl, hc 5 _ rfl, hc 6 _ rfl, hc 7 _ rfl, hc 8 _ rfl, hc 9 _ rfl, hc 10 _ rfl, hc 11 _ rfl⟩

theorem info_deed : (Try.prog.info? 38).map (·.size) = some 12 := by kernel_rfl
abbrev dZ : Obj := .cells #[.int .i64 0, .int .i64 0, .int .i64 0, .int .i64 0, .int .i64 0, .int .i64 0, .int .i64 0, .int .i64 0, .bool false, .bool false, .int .i64 0, .int .i64 0] 38 (0, 0)
/-- a deed into a block -/
theorem wp_storeD {ops : Array Oper} {rest : List Oper} {o : Oper} {a : Act} {w : World} {Q : Exit → Act → World → Prop} {b : Nat} {d : De} {old : Array Value} (hb : w.heap[b]? = some (.cells old 38 (0, 0))) (hold : old.size = 12)
    (hg : o.guard = none) (x y : Operand) (ho : o.op = .store 38 x y) (hx : a.eval x = .pointer (some ⟨b, 0, none⟩)) (hy : a.eval y = dv d)
    (hK : ∀ w2, w2.heap[b]? = some (dObj d) → w.grownBy w2 (some b) → w2.heap.size = w.heap.size → wpList Try.prog ops Q rest (a.put o.dst undef) w2) : wpList Try.prog ops Q (o :: rest) a w := by
  refine wpList_store_row hg 38 x y ho b _ hx hy _ old hb (by rw [info_deed]; rfl) (by rw [hold]; rfl) (by simp [Value.oneCell']) (hK _ (setRow_heap _ _ _ _ _ _ hb) ⟨rfl, rfl, rfl, by simp [World.setRow], fun k hk hne => ?_⟩ (by simp [World.setRow]))
  unfold World.setRow
  rw [Array.getElem?_modify, if_neg (fun e => hne (by rw [e]))]

/-- a herd book: what it says, and where its lists lie -/
structure Hb where
  t : Int
  A : Option Addr
  c : Nat
  l : List Mk
  Ak : Option Addr
  ck : Nat
  ks : List Int
  Ah : Option Addr
  ch : Nat
  hs : List (List Int)
  Ad : Option Addr
  cd : Nat
  ds : List De
namespace Hb
variable (b : Hb)
abbrev vm : Value := .slice b.A b.l.length b.c
abbrev vk : Value := .slice b.Ak b.ks.length b.ck
abbrev vh : Value := .slice b.Ah b.hs.length b.ch
abbrev vd : Value := .slice b.Ad b.ds.length b.cd
/-- the book as a value -/
abbrev v : Value := .agg #[.int .i64 b.t, .slice b.A b.l.length b.c, .slice b.Ak b.ks.length b.ck, .slice b.Ah b.hs.length b.ch, .slice b.Ad b.ds.length b.cd]
/-- the block of a book at work -/
abbrev bk (deed owner now : Int) : Obj := bkObj b.t b.A b.l.length b.c b.vk b.vh b.vd deed owner now
/-- the first error -/
def chk : Int := checkH b.t b.l b.ks b.hs b.ds
/-- the ends of all truths -/
def ends (deed owner : Int) : List (List Int) := endsL b.t b.l b.hs b.ds deed owner
end Hb
/-- its lists read as they should -/
structure HbIn (w : World) (b : Hb) : Prop where
  m : Marks w b.A b.l.length b.l
  mc : b.l.length ≤ b.c
  mm : b.c ≤ maxLen
  k : Ints w b.Ak b.ks.length b.ks
  kc : b.ks.length ≤ b.ck
  km : b.ck ≤ maxLen
  h : Grid w b.Ah b.hs.length b.hs
  hc : b.hs.length ≤ b.ch
  hm : b.ch ≤ maxLen
  d : Deeds w b.Ad b.ds.length b.ds
  dc : b.ds.length ≤ b.cd
  dm : b.cd ≤ maxLen
theorem HbIn.below {w w' : World} {b : Hb} {B : Nat} (h : HbIn w b) (hb : Below B w w') (hB : w.heap.size ≤ B) : HbIn w' b :=
  ⟨h.m.below hb hB, h.mc, h.mm, h.k.below hb hB, h.kc, h.km, h.h.below hb hB, h.hc, h.hm, h.d.below hb hB, h.dc, h.dm⟩

/-- from w to w' nothing that was there has changed but, in the book's block p, the number of the deed at hand -/
structure NowIn (p : Nat) (O : Int → Obj) (w w' : World) : Prop where
  os : w'.os = w.os
  tape : w'.tape = w.tape
  output : w'.output = w.output
  size : w.heap.size ≤ w'.heap.size
  block : ∀ k, k < w.heap.size → k ≠ p → w'.heap[k]? = w.heap[k]?
  hp : ∃ now, w'.heap[p]? = some (O now)
section
variable {p : Nat} {O : Int → Obj} {a b c w w' : World}
theorem NowIn.refl (h : ∃ now, w.heap[p]? = some (O now)) : NowIn p O w w := ⟨rfl, rfl, rfl, Nat.le_refl _, fun _ _ _ => rfl, h⟩
theorem NowIn.trans (h : NowIn p O a b) (k : NowIn p O b c) : NowIn p O a c :=
  ⟨k.os.trans h.os, k.tape.trans h.tape, k.output.trans h.output, Nat.le_trans h.size k.size, fun i hi hne => (k.block i (Nat.lt_of_lt_of_le hi h.size) hne).trans (h.block i hi hne), k.hp⟩
theorem NowIn.lt (h : NowIn p O a b) : p < b.heap.size := by obtain ⟨n, hn⟩ := h.hp; exact heap_lt hn
/-- a step that leaves what was there at the start -/
theorem NowIn.then (h : NowIn p O a b) (hp : p < a.heap.size) (os : c.os = b.os) (tape : c.tape = b.tape) (output : c.output = b.output) (size : a.heap.size ≤ c.heap.size) (block : ∀ k, k < a.heap.size → c.heap[k]? = b.heap[k]?) : NowIn p O a c :=
  ⟨os.trans h.os, tape.trans h.tape, output.trans h.output, size, fun i hi hne => (block i hi).trans (h.block i hi hne), by obtain ⟨n, hn⟩ := h.hp; exact ⟨n, (block p hp).trans hn⟩⟩
theorem NowIn.below {B : Nat} (h : NowIn p O a b) (hp : p < a.heap.size) (k : Below B b c) (hB : a.heap.size ≤ B) : NowIn p O a c :=
  h.then hp k.os k.tape k.output (Nat.le_trans h.size k.size) fun i hi => k.block i (by omega)
theorem NowIn.grown {row : Option Nat} (h : NowIn p O a b) (hp : p < a.heap.size) (k : b.grownBy c row) (hr : ∀ i, row = some i → a.heap.size ≤ i) : NowIn p O a c :=
  h.then hp k.os k.tape k.output (Nat.le_trans h.size k.size) fun i hi => k.block i (by have := h.size; omega) (fun e => by have := hr i e.symm; omega)
theorem NowIn.drew (h : NowIn p O a b) : NowIn p O a b.drew := ⟨h.os, h.tape, h.output, h.size, h.block, h.hp⟩
/-- below the book's block all is as it was -/
theorem NowIn.less {B : Nat} (h : NowIn p O a b) (hB : B ≤ p) (hw : B ≤ a.heap.size) : Below B a b := ⟨h.os, h.tape, h.output, h.size, fun k hk => h.block k (by omega) (by omega)⟩
theorem NowIn.of_below {B : Nat} (h : Below B a b) (hp : ∃ now, a.heap[p]? = some (O now)) (hB : a.heap.size ≤ B) : NowIn p O a b :=
  (NowIn.refl hp).below (by obtain ⟨n, hn⟩ := hp; exact heap_lt hn) h hB
theorem NowIn.blk {k : Nat} {o : Obj} (h : NowIn p O a b) (hk : a.heap[k]? = some o) (hne : k ≠ p) : b.heap[k]? = some o := (h.block k (heap_lt hk) hne).trans hk
theorem NowIn.puts {M : Nat} {L : List (List Int)} (h : NowIn p O a b) (hp : p < a.heap.size) (k : PutsH b c M L) (hM : a.heap.size ≤ M) : NowIn p O a c := h.grown hp k.gr (fun i e => by cases e; exact hM)
end

/-- a book at work: its lists lie in w0, its block p behind them -/
structure Work (w0 : World) (p : Nat) (b : Hb) (deed owner : Int) (w : World) : Prop where
  hin : HbIn w0 b
  hz : w0.heap.size ≤ p
  bel : Below w0.heap.size w0 w
  hp : ∃ now, w.heap[p]? = some (b.bk deed owner now)
  ck : b.chk = 0
section
variable {w0 w w' : World} {p : Nat} {b : Hb} {deed owner : Int}
theorem Work.lt (h : Work w0 p b deed owner w) : p < w.heap.size := by obtain ⟨n, hn⟩ := h.hp; exact heap_lt hn
theorem Work.now (h : Work w0 p b deed owner w) (k : NowIn p (b.bk deed owner) w w') : Work w0 p b deed owner w' := ⟨h.hin, h.hz, h.bel.trans (k.less h.hz h.bel.size), k.hp, h.ck⟩
theorem Work.below {B : Nat} (h : Work w0 p b deed owner w) (k : Below B w w') (hB : w.heap.size ≤ B) : Work w0 p b deed owner w' := h.now (NowIn.of_below k h.hp hB)
theorem Work.inn (h : Work w0 p b deed owner w) : HbIn w b := h.hin.below h.bel (Nat.le_refl _)
theorem Work.ok (h : Work w0 p b deed owner w) : HeOk b.t b.l b.ks b.hs b.ds := checkH_ok h.ck
theorem Work.book (h : Work w0 p b deed owner w) {now : Int} (hp : w.heap[p]? = some (b.bk deed owner now)) : Book w p b.t b.A b.l.length b.c b.l b.vk b.vh b.vd deed owner now :=
  ⟨hp, h.inn.m, h.inn.mc, h.inn.mm, h.ok.ck⟩
theorem Work.refl (h : Work w0 p b deed owner w) : NowIn p (b.bk deed owner) w w := NowIn.refl h.hp
end
/-- the iterator's store -/
def ExN (p : Nat) (A B : World) : Prop := ∃ i : Int, B = A.setCell ⟨p, 7, none⟩ (.int .i64 i)
theorem ExN.others {p : Nat} (A B : World) (h : ExN p A B) : KeepsOthers A B := by obtain ⟨i, rfl⟩ := h; exact KeepsOthers.setCell _ _ _
theorem bk_set {w : World} {p : Nat} {b : Hb} {deed owner now : Int} (h : w.heap[p]? = some (b.bk deed owner now)) (i : Int) : (w.setCell ⟨p, 7, none⟩ (.int .i64 i)).heap[p]? = some (b.bk deed owner i) := by
  rw [set_blk h]; rfl
theorem NowIn.set {p : Nat} {b : Hb} {deed owner : Int} {w w' : World} (h : NowIn p (b.bk deed owner) w w') (i : Int) : NowIn p (b.bk deed owner) w (w'.setCell ⟨p, 7, none⟩ (.int .i64 i)) := by
  obtain ⟨n, hn⟩ := h.hp
  exact ⟨h.os, h.tape, h.output, by simpa using h.size, fun k hk hne => (Below.heap_setCell _ ⟨p, 7, none⟩ _ _ hne).trans (h.block k hk hne), ⟨i, bk_set hn i⟩⟩
/-- what abides the iterator's store and new blocks abides all that it does ahead of the first round -/
theorem now_abides {p : Nat} {b : Hb} {deed owner : Int} {w w' : World} {β : Type} {J : β → World → Prop} {s : β} (hJ : AbidesFrom w.heap.size J) (hE : ∀ s A B, J s A → ExN p A B → J s B) (h : NowIn p (b.bk deed owner) w w') (h0 : ∃ now, w.heap[p]? = some (b.bk deed owner now)) (hs : J s w) : J s w' := by
  obtain ⟨n, hn⟩ := h.hp
  obtain ⟨n0, hn0⟩ := h0
  refine hJ s (w.setCell ⟨p, 7, none⟩ (.int .i64 n)) w' none (hE _ _ _ hs ⟨n, rfl⟩) ⟨h.os, h.tape, h.output, by simpa using h.size, fun k hk _ => ?_⟩ (fun r e => by cases e)
  by_cases e : k = p
  · subst e; rw [hn, bk_set hn0]
  · rw [Below.heap_setCell _ ⟨p, 7, none⟩ _ _ e]
    exact h.block k (by simpa using hk) e
end Go.Proofs.Ytmennjmjakdkcaa
namespace Go.Proofs.Ytmennjmjakdkcaa
open Go.RowKit
set_option linter.unusedVariables false
set_option linter.unusedSimpArgs false

set_option maxHeartbeats 1000000 in
theorem copyInts_any (A : Option Addr) (n c : Nat) (l : List Int) (w : World) (hl : Ints w A n l) (hz : A = none → c = 0) (hn : n ≤ 4294967295) :
    Calls Try.prog 47 #[.slice A n c] w fun e w' => ∃ v, e = .returned v ∧ Own eInt 3 1 w' w.heap.size v l ∧ Below w.heap.size w w' := by
  have HL := Lib.hid (And.intro hl hz)
  have HB := Lib.hid (bal0 w (Obj.cells #[] 3))
  have HLW := Lib.hid (HL.out.1.below HB.out (Nat.le_refl _))
  have HOWN := Lib.hid (show Own eInt 3 1 (w.alloc (Obj.cells #[] 3)) w.heap.size (.slice (some ⟨w.heap.size, 0, none⟩) 0 0) [] from Own.lit (enc := eInt) w w.heap.size #[] [] rfl lenInt (by omega) (by simp [maxLen]))
  clear hl hz
  go_enter Try.func47, Try.ntmps47
  go_wp2_with (at_builtin; refine wp_apps okInt rfl (.tmp 3) (.tmp 4) rfl w.heap.size (.slice (some ⟨w.heap.size, 0, none⟩) 0 0) [] A n c l rfl rfl HLW.out HL.out.2 lenInt one_eInt HOWN.out ?_ ?_ ?_ ?_; (simp; omega); (omega); (simp); intro v' w5 hown5 hgr5 hb5; have HH := Lib.hid (And.intro hown5 hb5); clear hown5 hgr5 hb5)
  go_ret
  have h := HH.out.1
  rw [List.nil_append] at h
  exact ⟨_, rfl, h, HB.out.trans HH.out.2⟩
end Go.Proofs.Ytmennjmjakdkcaa
