/- HerdRenamed 12: HdA, HdG. -/
import Derived.Test.YtmennjmjakdkcaaRn11
import Derived.Test.YtmennjmjakdkcaaRn02
namespace Go.Proofs.Ytmennjmjakdkcaa
open Go.RowKit Go.MapKept
set_option linter.unusedVariables false
set_option linter.unusedSimpArgs false

def eDe (d : De) : List Value := [.int .i64 d.kind, .int .i64 d.flock, .int .i64 d.owner, .int .i64 d.other, .int .i64 d.tof, .int .i64 d.many, .int .i64 d.err, .int .i64 d.s.n, .bool d.s.l, .bool d.s.r, .int .i64 d.s.b, .int .i64 d.s.p]
theorem lenDe (d : De) : (eDe d).length = 12 := rfl
abbrev Deeds (w : World) (A : Option Addr) (n : Nat) (l : List De) : Prop := Sl eDe 12 w A n l
theorem Deeds.get {w : World} {A : Option Addr} {n : Nat} {l : List De} (h : Deeds w A n l) {k : Nat} (hk : k < n) :
    ∃ b off d, A = some ⟨b, off, none⟩ ∧ b < w.heap.size ∧ l[k]? = some d ∧ w.cell? ⟨b, off + k * 12, none⟩ = some (.int .i64 d.kind) ∧
      w.cell? ⟨b, off + k * 12 + 1, none⟩ = some (.int .i64 d.flock) ∧ w.cell? ⟨b, off + k * 12 + 2, none⟩ = some (.int .i64 d.owner) ∧ w.cell? ⟨b, off + k * 12 + 3, none⟩ = some (.int .i64 d.other) ∧
      w.cell? ⟨b, off + k * 12 + 4, none⟩ = some (.int .i64 d.tof) ∧ w.cell? ⟨b, off + k * 12 + 5, none⟩ = some (.int .i64 d.many) ∧ w.cell? ⟨b, off + k * 12 + 6, none⟩ = some (.int .i64 d.err) ∧
      w.cell? ⟨b, off + k * 12 + 7, none⟩ = some (.int .i64 d.s.n) ∧ w.cell? ⟨b, off + k * 12 + 8, none⟩ = some (.bool d.s.l) ∧ w.cell? ⟨b, off + k * 12 + 9, none⟩ = some (.bool d.s.r) ∧
      w.cell? ⟨b, off + k * 12 + 10, none⟩ = some (.int .i64 d.s.b) ∧ w.cell? ⟨b, off + k * 12 + 11, none⟩ = some (.int .i64 d.s.p) := by
  obtain ⟨b, off, x, hA, hx, hc⟩ := h.at_ hk
  have h0 := hc 0 _ rfl
  exact ⟨b, off, x, hA, cell_lt h0, hx, h0, hc 1 _ rfl, hc 2 _ rfl, hc 3 _ rfl, hc 4 _ rfl, hc 5 _ rfl, hc 6 _ rfl, hc 7 _ rfl, hc 8 _ rfl, hc 9 _ rfl, hc 10 _ rfl, hc 11 _ rfl⟩

theorem info_deed : (Try.prog.info? 38).map (·.size) = some 12 := by kernel_rfl
abbrev dZ : Obj := .cells #[.int .i64 0, .int .i64 0, .int .i64 0, .int .i64 0, .int .i64 0, .int .i64 0, .int .i64 0, .int .i64 0, .bool false, .bool false, .int .i64 0, .int .i64 0] 38 (0, 0)
/-- a deed into a block -/
theorem wp_storeD {ops : Array Oper} {rest : List Oper} {o : Oper} {a : Act} {w : World} {Q : Exit → Act → World → Prop} {b : Nat} {d : De} {old : Array Value} (hb : w.heap[b]? = some (.cells old 38 (0, 0))) (hold : old.size = 12)
    (hg : o.guard = none) (x y : Operand) (ho : o.op = .store 38 x y) (hx : a.eval x = .pointer (some ⟨b, 0, none⟩)) (hy : a.eval y = dv d)
    (hK : ∀ w2, w2.heap[b]? = some (dObj d) → w.grownBy w2 (some b) → w2.heap.size = w.heap.size → wpList Try.prog ops Q rest (a.put o.dst undef) w2) : wpList Try.prog ops Q (o :: rest) a w := by
  refine wpList_store_row hg 38 x y ho b _ hx hy _ old hb (by rw [info_deed]; rfl) (by rw [hold]; rfl) (by simp [Value.oneCell']) (hK _ (setRow_heap _ _ _ _ _ _ hb) ⟨rfl, rfl, rfl, by simp [World.setRow], fun k hk hne => ?_⟩ (by simp [World.setRow]))
  unfold World.setRow
  rw [Array.getElem?_modify, if_neg (fun e => hne (by rw [e]))]

/-- a herd book: what it says, and where its lists lie -/
structure Hb where
  t : Int
  A : Option Addr
  c : Nat
  l : List Mk
  Ak : Option Addr
  ck : Nat
  ks : List Int
  Ah : Option Addr
  ch : Nat
  hs : List (List Int)
  Ad : Option Addr
  cd : Nat
  ds : List De
namespace Hb
variable (b : Hb)
abbrev vm : Value := .slice b.A b.l.length b.c
abbrev vk : Value := .slice b.Ak b.ks.length b.ck
abbrev vh : Value := .slice b.Ah b.hs.length b.ch
abbrev vd : Value := .slice b.Ad b.ds.length b.cd
/-- the book as a value -/
abbrev v : Value := .agg #[.int .i64 b.t, .slice b.A b.l.length b.c, .slice b.Ak b.ks.length b.ck, .slice b.Ah b.hs.length b.ch, .slice b.Ad b.ds.length b.cd]
/-- the block of a book at work -/
abbrev bk (deed owner now : Int) : Obj := bkObj b.t b.A b.l.length b.c b.vk b.vh b.vd deed owner now
/-- the first error -/
def chk : Int := checkH b.t b.l b.ks b.hs b.ds
/-- the ends of all truths -/
def ends (deed owner : Int) : List (List Int) := endsL b.t b.l b.hs b.ds deed owner
end Hb
/-- its lists read as they should -/
structure HbIn (w : World) (b : Hb) : Prop where
  m : Marks w b.A b.l.length b.l
  mc : b.l.length ≤ b.c
  mm : b.c ≤ maxLen
  k : Ints w b.Ak b.ks.length b.ks
  kc : b.ks.length ≤ b.ck
  km : b.ck ≤ maxLen
  h : Grid w b.Ah b.hs.length b.hs
  hc : b.hs.length ≤ b.ch
  hm : b.ch ≤ maxLen
  d : Deeds w b.Ad b.ds.length b.ds
  dc : b.ds.length ≤ b.cd
  dm : b.cd ≤ maxLen
theorem HbIn.below {w w' : World} {b : Hb} {B : Nat} (h : HbIn w b) (hb : Below B w w') (hB : w.heap.size ≤ B) : HbIn w' b :=
  ⟨h.m.below hb hB, h.mc, h.mm, h.k.below hb hB, h.kc, h.km, h.h.below hb hB, h.hc, h.hm, h.d.below hb hB, h.dc, h.dm⟩

/-- from w to w' nothing that was there has changed but, in the book's block p, the number of the deed at hand -/
structure NowIn (p : Nat) (O : Int → Obj) (w w' : World) : Prop where
  os : w'.os = w.os
  tape : w'.tape = w.tape
  output : w'.output = w.output
  size : w.heap.size ≤ w'.heap.size
  block : ∀ k, k < w.heap.size → k ≠ p → w'.heap[k]? = w.heap[k]?
  hp : ∃ now, w'.heap[p]? = some (O now)
section
variable {p : Nat} {O : Int → Obj} {a b c w w' : World}
theorem NowIn.refl (h : ∃ now, w.heap[p]? = some (O now)) : NowIn p O w w := ⟨rfl, rfl, rfl, Nat.le_refl _, fun _ _ _ => rfl, h⟩
theorem NowIn.trans (h : NowIn p O a b) (k : NowIn p O b c) : NowIn p O a c :=
  ⟨k.os.trans h.os, k.tape.trans h.tape, k.output.trans h.output, Nat.le_trans h.size k.size, fun i hi hne => (k.block i (Nat.lt_of_lt_of_le hi h.size) hne).trans (h.block i hi hne), k.hp⟩
theorem NowIn.lt (h : NowIn p O a b) : p < b.heap.size := by obtain ⟨n, hn⟩ := h.hp; exact heap_lt hn
/-- a step that leaves what was there at the start -/
theorem NowIn.then (h : NowIn p O a b) (hp : p < a.heap.size) (os : c.os = b.os) (tape : c.tape = b.tape) (output : c.output = b.output) (size : a.heap.size ≤ c.heap.size) (block : ∀ k, k < a.heap.size → c.heap[k]? = b.heap[k]?) : NowIn p O a c :=
  ⟨os.trans h.os, tape.trans h.tape, output.trans h.output, size, fun i hi hne => (block i hi).trans (h.block i hi hne), by obtain ⟨n, hn⟩ := h.hp; exact ⟨n, (block p hp).trans hn⟩⟩
theorem NowIn.below {B : Nat} (h : NowIn p O a b) (hp : p < a.heap.size) (k : Below B b c) (hB : a.heap.size ≤ B) : NowIn p O a c :=
  h.then hp k.os k.tape k.output (Nat.le_trans h.size k.size) fun i hi => k.block i (by omega)
theorem NowIn.grown {row : Option Nat} (h : NowIn p O a b) (hp : p < a.heap.size) (k : b.grownBy c row) (hr : ∀ i, row = some i → a.heap.size ≤ i) : NowIn p O a c :=
  h.then hp k.os k.tape k.output (Nat.le_trans h.size k.size) fun i hi => k.block i (by have := h.size; omega) (fun e => by have := hr i e.symm; omega)
theorem NowIn.drew (h : NowIn p O a b) : NowIn p O a b.drew := ⟨h.os, h.tape, h.output, h.size, h.block, h.hp⟩
/-- below the book's block all is as it was -/
theorem NowIn.less {B : Nat} (h : NowIn p O a b) (hB : B ≤ p) (hw : B ≤ a.heap.size) : Below B a b := ⟨h.os, h.tape, h.output, h.size, fun k hk => h.block k (by omega) (by omega)⟩
theorem NowIn.of_below {B : Nat} (h : Below B a b) (hp : ∃ now, a.heap[p]? = some (O now)) (hB : a.heap.size ≤ B) : NowIn p O a b :=
  (NowIn.refl hp).below (by obtain ⟨n, hn⟩ := hp; exact heap_lt hn) h hB
theorem NowIn.blk {k : Nat} {o : Obj} (h : NowIn p O a b) (hk : a.heap[k]? = some o) (hne : k ≠ p) : b.heap[k]? = some o := (h.block k (heap_lt hk) hne).trans hk
theorem NowIn.puts {M : Nat} {L : List (List Int)} (h : NowIn p O a b) (hp : p < a.heap.size) (k : PutsH b c M L) (hM : a.heap.size ≤ M) : NowIn p O a c := h.grown hp k.gr (fun i e => by cases e; exact hM)
end

/-- a book at work: its lists lie in w0, its block p behind them -/
structure Work (w0 : World) (p : Nat) (b : Hb) (deed owner : Int) (w : World) : Prop where
  hin : HbIn w0 b
  hz : w0.heap.size ≤ p
  bel : Below w0.heap.size w0 w
  hp : ∃ now, w.heap[p]? = some (b.bk deed owner now)
  ck : b.chk = 0
section
variable {w0 w w' : World} {p : Nat} {b : Hb} {deed owner : Int}
theorem Work.lt (h : Work w0 p b deed owner w) : p < w.heap.size := by obtain ⟨n, hn⟩ := h.hp; exact heap_lt hn
theorem Work.now (h : Work w0 p b deed owner w) (k : NowIn p (b.bk deed owner) w w') : Work w0 p b deed owner w' := ⟨h.hin, h.hz, h.bel.trans (k.less h.hz h.bel.size), k.hp, h.ck⟩
theorem Work.below {B : Nat} (h : Work w0 p b deed owner w) (k : Below B w w') (hB : w.heap.size ≤ B) : Work w0 p b deed owner w' := h.now (NowIn.of_below k h.hp hB)
theorem Work.inn (h : Work w0 p b deed owner w) : HbIn w b := h.hin.below h.bel (Nat.le_refl _)
theorem Work.ok (h : Work w0 p b deed owner w) : HeOk b.t b.l b.ks b.hs b.ds := checkH_ok h.ck
theorem Work.book (h : Work w0 p b deed owner w) {now : Int} (hp : w.heap[p]? = some (b.bk deed owner now)) : Book w p b.t b.A b.l.length b.c b.l b.vk b.vh b.vd deed owner now :=
  ⟨hp, h.inn.m, h.inn.mc, h.inn.mm, h.ok.ck⟩
theorem Work.refl (h : Work w0 p b deed owner w) : NowIn p (b.bk deed owner) w w := NowIn.refl h.hp
end
/-- the iterator's store -/
def ExN (p : Nat) (A B : World) : Prop := ∃ i : Int, B = A.setCell ⟨p, 7, none⟩ (.int .i64 i)
theorem ExN.others {p : Nat} (A B : World) (h : ExN p A B) : KeepsOthers A B := by obtain ⟨i, rfl⟩ := h; exact KeepsOthers.setCell _ _ _
theorem bk_set {w : World} {p : Nat} {b : Hb} {deed owner now : Int} (h : w.heap[p]? = some (b.bk deed owner now)) (i : Int) : (w.setCell ⟨p, 7, none⟩ (.int .i64 i)).heap[p]? = some (b.bk deed owner i) := by
  rw [set_blk h]; rfl
theorem NowIn.set {p : Nat} {b : Hb} {deed owner : Int} {w w' : World} (h : NowIn p (b.bk deed owner) w w') (i : Int) : NowIn p (b.bk deed owner) w (w'.setCell ⟨p, 7, none⟩ (.int .i64 i)) := by
  obtain ⟨n, hn⟩ := h.hp
  exact ⟨h.os, h.tape, h.output, by simpa using h.size, fun k hk hne => (Below.heap_setCell _ ⟨p, 7, none⟩ _ _ hne).trans (h.block k hk hne), ⟨i, bk_set hn i⟩⟩
/-- what abides the iterator's store and new blocks abides all that it does ahead of the first round -/
theorem now_abides {p : Nat} {b : Hb} {deed owner : Int} {w w' : World} {β : Type} {J : β → World → Prop} {s : β} (hJ : AbidesFrom w.heap.size J) (hE : ∀ s A B, J s A → ExN p A B → J s B) (h : NowIn p (b.bk deed owner) w w') (h0 : ∃ now, w.heap[p]? = some (b.bk deed owner now)) (hs : J s w) : J s w' := by
  obtain ⟨n, hn⟩ := h.hp
  obtain ⟨n0, hn0⟩ := h0
  refine hJ s (w.setCell ⟨p, 7, none⟩ (.int .i64 n)) w' none (hE _ _ _ hs ⟨n, rfl⟩) ⟨h.os, h.tape, h.output, by simpa using h.size, fun k hk _ => ?_⟩ (fun r e => by cases e)
  by_cases e : k = p
  · subst e; rw [hn, bk_set hn0]
  · rw [Below.heap_setCell _ ⟨p, 7, none⟩ _ _ e]
    exact h.block k (by simpa using hk) e
end Go.Proofs.Ytmennjmjakdkcaa
namespace Go.Proofs.Ytmennjmjakdkcaa
open Go.RowKit Go.MapKept
set_option linter.unusedVariables false
set_option linter.unusedSimpArgs false

theorem isOwner_any (p : Nat) (O : Value) (t : Int) (A : Option Addr) (n c : Nat) (ks hs ds : Value) (deed owner now : Int) (AL : Option Addr) (m cl : Nat) (L : List Int) (w : World) (hp : w.heap[p]? = some (bkObj t A n c ks hs ds deed owner now)) (hL : Ints w AL m L) (hn : n ≤ maxLen) (hm : m ≤ maxLen) :
    Calls Try.prog 89 #[.pointer (some ⟨p, 0, none⟩), .slice AL m cl] w fun e w' => e = .returned (.bool (L.all (ownB n))) ∧ w = w' := by
  unfold maxLen at hn hm
  have HL := Lib.hid hL.len
  obtain ⟨p0, p1, p2, p3, p4, p5, p6, p7⟩ := blkB hp
  have hpl := heap_lt hp
  clear hp
  go_enter Try.func89, Try.ntmps89
  go_wp2
  go_loopg [9] m (fun g i wr => ∃ q : Nat, q + g = m ∧ i = .int .i64 q ∧ (L.take q).all (ownB n) = true ∧ w = wr)
  case atStart => exact ⟨0, by omega, rfl, by simp, rfl⟩
  case round =>
    obtain ⟨q, hq, rfl, hall, rfl⟩ := hrel
    have HQ := Lib.hid hq
    have HA := Lib.hid hall
    have hqm : q ≤ m := by omega
    clear hq hall
    by_cases hlt : q < m
    · obtain ⟨b, off, x, rfl, hb, hx, d0⟩ := Ints.get hL hlt
      have HX := Lib.hid hx
      clear hx
      go_wp2_with (go_at_call 56; refine (betweenH_any _ _ _ _).mono ?_; rintro e w' ⟨rfl, rfl⟩)
      · have hin : ownB n x = false := by simpa [ownB] using ‹(!btw x 0 (↑n - 1)) = true›
        go_ret
        exact ⟨ret_bool (by rw [all_not HX.out hin]), rfl⟩
      · have hin : ownB n x = true := by simpa [ownB] using ‹(!btw x 0 (↑n - 1)) = false›
        go_roundg (gk - 1)
        case measure => have := HQ.out; omega
        case rel => exact ⟨q + 1, by have := HQ.out; omega, by go_num, all_step HA.out HX.out hin, rfl⟩
    · obtain rfl : q = m := by omega
      go_wp2
      go_ret
      exact ⟨ret_bool (by have := HA.out; rw [← HL.out, List.take_length] at this; exact this.symm), rfl⟩
theorem isFlock_any (p : Nat) (t : Int) (A : Option Addr) (n c : Nat) (Ak : Option Addr) (nk ck : Nat) (hs ds : Value) (deed owner now : Int) (x : Int) (w : World) (hp : w.heap[p]? = some (bkObj t A n c (.slice Ak nk ck) hs ds deed owner now)) (hn : nk ≤ maxLen) :
    Calls Try.prog 75 #[.pointer (some ⟨p, 0, none⟩), .int .i64 x] w fun e w' => e = .returned (.bool (ownB nk x)) ∧ w = w' := by
  unfold maxLen at hn
  obtain ⟨p0, p1, p2, p3, p4, p5, p6, p7⟩ := blkB hp
  have hpl := heap_lt hp
  clear hp
  go_enter Try.func75, Try.ntmps75
  go_wp2_with (go_at_call 56; refine (betweenH_any _ _ _ _).mono ?_; rintro e w' ⟨rfl, rfl⟩)
  go_ret
  exact ⟨rfl, rfl⟩

set_option maxRecDepth 100000 in
set_option maxHeartbeats 1000000 in
theorem flocks_any (p : Nat) (b : Hb) (deed owner now : Int) (w : World) (hp : w.heap[p]? = some (b.bk deed owner now)) (hin : HbIn w b) :
    Calls Try.prog 112 #[.pointer (some ⟨p, 0, none⟩)] w fun e w' => e = .returned (.int .i64 (flocksE b.l.length b.ks b.hs)) ∧ w = w' := by
  have hk := hin.k
  have hkm : b.ks.length ≤ maxLen := Nat.le_trans hin.kc hin.km
  have hnm : b.l.length ≤ maxLen := Nat.le_trans hin.mc hin.mm
  have hhm : b.hs.length ≤ maxLen := Nat.le_trans hin.hc hin.hm
  have hG := hin.h
  have HO := Lib.hid (isOwner_any p .nilFunc b.t b.A b.l.length b.c b.vk b.vh b.vd deed owner now b.Ak b.ks.length b.ck b.ks w hp hk hnm hkm)
  obtain ⟨p0, p1, p2, p3, p4, p5, p6, p7⟩ := blkB hp
  have hpl := heap_lt hp
  replace p2 : w.cell? ⟨p, 2, none⟩ = some (.slice b.Ak b.ks.length b.ck) := p2
  obtain ⟨Ah, hAh⟩ : ∃ Ah, Ah = b.Ah := ⟨_, rfl⟩
  replace p3 : w.cell? ⟨p, 3, none⟩ = some (.slice Ah b.hs.length b.ch) := by rw [hAh]; exact p3
  rw [← hAh] at hG
  obtain ⟨nk, hnk⟩ : ∃ nk, nk = b.ks.length := ⟨_, rfl⟩
  obtain ⟨nh, hnh⟩ : ∃ nh, nh = b.hs.length := ⟨_, rfl⟩
  obtain ⟨n, hnn⟩ : ∃ n, n = b.l.length := ⟨_, rfl⟩
  rw [← hnk] at p2 hkm
  rw [← hnh] at p3 hG hhm
  rw [← hnn] at p1 hnm
  have HN := Lib.hid (And.intro hnk (And.intro hnh hnn))
  unfold maxLen at hkm hnm hhm
  clear hp hin hk hAh hnk hnh hnn p0 p4 p5 p6 p7
  go_enter Try.func112, Try.ntmps112
  obtain ⟨ab, hab⟩ : ∃ ab, ab = b.ks.all (ownB b.l.length) := ⟨_, rfl⟩
  rw [← hab, ← HN.out.1] at HO
  have HAB := Lib.hid hab
  clear hab
  by_cases h0 : nk = 0
  · have x0 : ((nk : Int) == 0) = true := by simp [h0]
    have H0 := Lib.hid h0
    clear h0
    go_wp2_with fail
    go_ret
    exact ⟨ret_int (by unfold flocksE; rw [if_pos (by rw [← HN.out.1]; exact H0.out)]), rfl⟩
  have x0 : ((nk : Int) == 0) = false := by simp [h0]
  have H0 := Lib.hid h0
  clear h0
  by_cases h3 : 3 < nk
  · have x3 : decide (3 < (nk : Int)) = true := by simp; omega
    have H3 := Lib.hid h3
    clear h3
    go_wp2_with fail
    go_ret
    exact ⟨ret_int (by unfold flocksE; rw [if_neg (by rw [← HN.out.1]; exact H0.out), if_pos (by rw [← HN.out.1]; exact H3.out)]), rfl⟩
  have x3 : decide (3 < (nk : Int)) = false := by simp; omega
  have H3 := Lib.hid h3
  clear h3
  cases ab with
  | false =>
    go_wp2_with (go_at_call 89; refine HO.out.mono ?_; rintro e w' ⟨rfl, rfl⟩)
    go_ret
    exact ⟨ret_int (by unfold flocksE; rw [if_neg (by rw [← HN.out.1]; exact H0.out), if_neg (by rw [← HN.out.1]; exact H3.out), if_pos HAB.out.symm]), rfl⟩
  | true =>
  by_cases hh : nh = nk
  · have x4 : ((nh : Int) != (nk : Int)) = false := by simp [hh]
    have HE := Lib.hid (show flocksE b.l.length b.ks b.hs = if b.hs.all (fun r => decide (r.length = b.l.length)) = false then 2 else if b.hs.all (fun r => r.all fun x => btw x 0 20) = false then 1 else 0 by
      unfold flocksE; rw [if_neg (by rw [← HN.out.1]; exact H0.out), if_neg (by rw [← HN.out.1]; exact H3.out), if_neg (by rw [← HAB.out]; simp), if_neg (by rw [← HN.out.1, ← HN.out.2.1]; simpa using hh)])
    clear hh H0 H3 HAB
    go_wp2_with (go_at_call 89; refine HO.out.mono ?_; rintro e w' ⟨rfl, rfl⟩)
    clear x0 x3 x4 HO
    go_loopg [46] nh (fun g v wr => ∃ k : Nat, k + g = nh ∧ v = .int .i64 k ∧ (b.hs.take k).all (fun r => decide (r.length = b.l.length)) = true ∧ w = wr)
    case atStart => exact ⟨0, by omega, rfl, by simp, rfl⟩
    case round =>
      obtain ⟨k, hk, rfl, hall, rfl⟩ := hrel
      have HK := Lib.hid (And.intro hk hall)
      clear hk hall
      by_cases hlt : k < nh
      · obtain ⟨bi, off, B, row, cx, hA, hb, hr, d0, hin, hlc, hcm⟩ := hG.get hlt
        subst hA
        unfold maxLen at hcm
        have HR := Lib.hid (And.intro hr hin)
        clear hr hin
        by_cases hrl : row.length = n
        · have y0 : ((row.length : Int) != (n : Int)) = false := by simp [hrl]
          have HL := Lib.hid hrl
          clear hrl
          go_wp2_with fail
          go_roundg (gk - 1)
          case measure => have := HK.out; omega
          case rel => exact ⟨k + 1, by have := HK.out; omega, by go_num, by rw [List.take_add_one, HR.out.1, List.all_append, HK.out.2]; simp [HL.out, ← HN.out.2.2], rfl⟩
        · have y0 : ((row.length : Int) != (n : Int)) = true := by simp; omega
          have HL := Lib.hid hrl
          clear hrl
          go_wp2_with fail
          go_ret
          have h2 : b.hs.all (fun r => decide (r.length = b.l.length)) = false := by
            rw [List.all_eq_false]
            exact ⟨row, List.mem_of_getElem? HR.out.1, by have := HL.out; rw [HN.out.2.2] at this; simpa using this⟩
          exact ⟨ret_int (by rw [HE.out, if_pos h2]), rfl⟩
      · obtain rfl : k = nh := by have := HK.out.1; omega
        have HAL := Lib.hid (show b.hs.all (fun r => decide (r.length = b.l.length)) = true by have := HK.out.2; rw [HN.out.2.1, List.take_length] at this; exact this)
        clear hlt
        go_wp2_with fail
        go_loopg [67] k (fun g v wr => ∃ q : Nat, q + g = k ∧ v = .int .i64 q ∧ (b.hs.take q).all (fun r => r.all fun x => btw x 0 20) = true ∧ w = wr)
        case atStart => exact ⟨0, by omega, rfl, by simp, rfl⟩
        case round =>
          obtain ⟨q, hq, rfl, hall, rfl⟩ := hrel
          have HQ := Lib.hid (And.intro hq hall)
          clear hq hall
          by_cases hlt : q < k
          · obtain ⟨bi, off, B, row, cx, hA, hb, hr, d0, hin, hlc, hcm⟩ := hG.get hlt
            subst hA
            unfold maxLen at hcm
            have HR := Lib.hid hr
            clear hr
            go_wp2_with fail
            obtain ⟨go, rfl⟩ : ∃ go : Nat, go = gk := ⟨_, rfl⟩
            go_loopg [73] row.length (fun g v wr => ∃ j : Nat, j + g = row.length ∧ v = .int .i64 j ∧ (row.take j).all (fun x => btw x 0 20) = true ∧ w = wr)
            case atStart => exact ⟨0, by omega, rfl, by simp, rfl⟩
            case round =>
              obtain ⟨j, hj, rfl, hall, rfl⟩ := hrel
              have HJ := Lib.hid (And.intro hj hall)
              clear hj hall
              by_cases hjl : j < row.length
              · obtain ⟨bx, ofx, x, rfl, hbx, hx, dx⟩ := Ints.get hin hjl
                have HX := Lib.hid hx
                clear hx
                go_wp2_with (go_at_call 56; refine (betweenH_any _ _ _ _).mono ?_; rintro e w' ⟨rfl, rfl⟩)
                · have hb : btw x 0 20 = false := by simpa using ‹(!btw x 0 20) = true›
                  go_ret
                  have h2 : b.hs.all (fun r => r.all fun x => btw x 0 20) = false := List.all_eq_false.2 ⟨row, List.mem_of_getElem? HR.out, by rw [all_not (f := fun x => btw x 0 20) HX.out hb]; simp⟩
                  exact ⟨ret_int (by rw [HE.out, if_neg (by rw [HAL.out]; simp), if_pos h2]), rfl⟩
                · have hb : btw x 0 20 = true := by simpa using ‹(!btw x 0 20) = false›
                  go_roundg (gk - 1)
                  case measure => have := HJ.out; omega
                  case rel => exact ⟨j + 1, by have := HJ.out; omega, by go_num, all_step HJ.out.2 HX.out hb, rfl⟩
              · obtain rfl : j = row.length := by have := HJ.out.1; omega
                go_wp2_with fail
                go_roundg (go - 1)
                case measure => have := HQ.out; omega
                case rel => exact ⟨q + 1, by have := HQ.out; omega, by go_num, by have := HJ.out.2; rw [List.take_length] at this; rw [List.take_add_one, HR.out, List.all_append, HQ.out.2]; simp only [Option.toList, List.all_cons, List.all_nil, Bool.and_true, Bool.true_and]; exact this, rfl⟩
          · obtain rfl : q = k := by have := HQ.out.1; omega
            go_wp2_with fail
            go_ret
            have h2 : b.hs.all (fun r => r.all fun x => btw x 0 20) = true := by have := HQ.out.2; rw [HN.out.2.1, List.take_length] at this; exact this
            exact ⟨ret_int (by rw [HE.out, if_neg (by rw [HAL.out]; simp), if_neg (by rw [h2]; simp)]), rfl⟩
  · have x4 : ((nh : Int) != (nk : Int)) = true := by simp; omega
    have HH := Lib.hid hh
    clear hh
    go_wp2_with (go_at_call 89; refine HO.out.mono ?_; rintro e w' ⟨rfl, rfl⟩)
    go_ret
    exact ⟨ret_int (by unfold flocksE; rw [if_neg (by rw [← HN.out.1]; exact H0.out), if_neg (by rw [← HN.out.1]; exact H3.out), if_neg (by rw [← HAB.out]; simp), if_pos (by rw [← HN.out.1, ← HN.out.2.1]; exact HH.out)]), rfl⟩
end Go.Proofs.Ytmennjmjakdkcaa
