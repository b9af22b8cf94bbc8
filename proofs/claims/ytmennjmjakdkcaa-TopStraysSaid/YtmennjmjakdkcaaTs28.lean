/- TopStrays 28: HdB, HdF, HdY, HdW, FreshIt, Least, Fresh. -/
import Derived.Test.YtmennjmjakdkcaaTs27
import Derived.Test.YtmennjmjakdkcaaTs02
import Derived.Test.YtmennjmjakdkcaaTs26
import Derived.Test.YtmennjmjakdkcaaTs11
namespace Go.Proofs.Ytmennjmjakdkcaa
open Go.RowKit Go.MapKept
set_option linter.unusedVariables false
set_option linter.unusedSimpArgs false
attribute [local go_sem] Oper.semAt_some

theorem nowIn_own {β : Type} {p : Nat} {O : Int → Obj} {w : World} {B : Nat} (hp : p < w.heap.size) (hB : w.heap.size ≤ B) : OwnFrom B (fun (_ : β) W => NowIn p O w W) :=
  fun _ _ _ _ hs hg hr => hs.grown hp hg fun i e => Nat.le_trans hB (hr i e).1
/-- the range over the ends: the caller's invariant I beside 'nothing has changed but the number of the deed at hand' -/
theorem wp_ends {ps : Array Tmp} {assign body : Code} {Q : Exit → Act → World → Prop} {a : Act} {g : Operand} {w w0 wb : World} {p q : Nat} {b : Hb} {deed owner : Int} (hW : Work w0 p b deed owner w) (hb : NowIn p (b.bk deed owner) wb w) (hpb : p < wb.heap.size)
    (hq : w.heap[q]? = some (Obj.cells #[.pointer (some ⟨p, 0, none⟩)] 103 (0, 0))) (hg : a.eval g = .func (.func 103) #[] #[.pointer (some ⟨q, 0, none⟩)]) (hps : ps.size = 1)
    (I : List (List Int) → World → Prop) (Ix : Code → List (List Int) → World → Prop) (hI : OwnFrom w.heap.size I) (hIx : ∀ c, OwnFrom w.heap.size (Ix c)) (hIE : ∀ s A B, I s A → ExN p A B → I s B) (h0 : I [] w)
    (Ax : List Int → Act → World → Prop) (hAx : ∀ x a', OwnFrom w.heap.size (fun (_ : Unit) W => Ax x a' W))
    (hassign : ∀ (l : Nat) (pre : List (List Int)) (x : List Int) (W : World) (K : Act → World → Prop), NowIn p (b.bk deed owner) wb W → I pre W → (∃ r, (pre ++ [x] ++ r).Perm (b.ends deed owner)) →
      (∀ a' W', KeepsFrom w.heap.size W W' → KeepsWalks W W' → NowIn p (b.bk deed owner) wb W' → I pre W' → Ax x a' W' → K a' W') →
      assign.wpIn (Fence.wide.inRound l) 7 Try.prog (Exit.then K (fun _ _ _ => False)) { tmps := (ps.zip #[.agg (hcs x)]).foldl (fun t (p, v) => t.setIfInBounds p v) a.tmps, defers := [] } W)
    (hbody : ∀ (l : Nat) (pre : List (List Int)) (x : List Int) (a' : Act) (W : World), NowIn p (b.bk deed owner) wb W → I pre W → Ax x a' W → (∃ r, (pre ++ [x] ++ r).Perm (b.ends deed owner)) →
      body.wpIn (Fence.wide.inRound l) 7 Try.prog (roundOut w.heap.size (fun s W => NowIn p (b.bk deed owner) wb W ∧ I s W) (fun c s W => NowIn p (b.bk deed owner) wb W ∧ Ix c s W) (pre ++ [x]) W) a' W)
    (hdone : ∀ (D : Nat) (xs : List (List Int)) (W : World), w.heap.size ≤ D → xs.Perm (b.ends deed owner) → NowIn p (b.bk deed owner) wb W → I xs W → W.heap[D]? = some (.deferred (some [])) → Q .normal { a with defers := { target := .collected D, args := #[] } :: a.defers } W)
    (hstop : ∀ (D : Nat) (c : Code) (pre : List (List Int)) (W : World), w.heap.size ≤ D → (∃ r, (pre ++ r).Perm (b.ends deed owner)) → NowIn p (b.bk deed owner) wb W → Ix c pre W → W.heap[D]? = some (.deferred (some [])) → c.wp Try.prog Q { a with defers := { target := .collected D, args := #[] } :: a.defers } W) :
    (Code.rangeFunc g ps assign body).wp Try.prog Q a w := by
  have hpl := hW.lt
  refine (wpIn_wide (n := 9)).1 ?_
  refine wpIn_rangeE rfl (by omega) (gf := 103) (lb := #[.pointer (some ⟨q, 0, none⟩)]) hg trivial (enters_of Try.func103 (by kernel_rfl) rfl)
    (ends_it 8 (by omega) w0 p q b deed owner w hW hq) ExN.others (fun _ => hps.symm)
    (fun s W => NowIn p (b.bk deed owner) wb W ∧ I s W) (fun c s W => NowIn p (b.bk deed owner) wb W ∧ Ix c s W)
    (OwnFrom.and (nowIn_own hpb hb.size) hI) (fun c => OwnFrom.and (nowIn_own hpb hb.size) (hIx c)) (fun s A B h hx => ⟨by obtain ⟨i, rfl⟩ := hx; exact h.1.set i, hIE s A B h.2 hx⟩)
    ⟨hb, h0⟩ Ax hAx
    (fun l pre x W K hi hsp hK => hassign l pre x W K hi.1 hi.2 hsp fun a' W' k1 k2 k3 k4 k5 => hK a' W' k1 k2 ⟨k3, k4⟩ k5)
    (fun l pre x a' W hi hax hsp => hbody l pre x a' W hi.1 hi.2 hax hsp)
    (fun D xs W hD hS hi hd => hdone D xs W hD hS hi.1 hi.2 hd)
    (fun D c pre W hD hS hi hd => wpIn_wide.2 (hstop D c pre W hD hS hi.1 hi.2 hd))
/-- the block of deferred calls is let go -/
theorem NowIn.undo {p : Nat} {O : Int → Obj} {w W : World} {D : Nat} (h : NowIn p O w W) (hp : p < w.heap.size) (hD : w.heap.size ≤ D) (o : Obj) : NowIn p O w (W.putObj D o) :=
  h.grown hp (grownBy_putObj' W D o) (fun i e => by cases e; exact hD)
set_option maxRecDepth 100000 in
theorem ends_any (p : Nat) (w : World) :
    Calls Try.prog 76 #[.pointer (some ⟨p, 0, none⟩)] w fun e w' => e = .returned (.func (.func 103) #[] #[.pointer (some ⟨w.heap.size, 0, none⟩)]) ∧ w' = w.alloc (.cells #[.pointer (some ⟨p, 0, none⟩)] 103) := by
  go_enter Try.func76, Try.ntmps76
  go_wp2
  go_ret
  exact ⟨rfl, rfl⟩

set_option maxRecDepth 100000 in
set_option maxHeartbeats 1000000 in
theorem truth_any (w0 : World) (p : Nat) (b : Hb) (deed owner : Int) (w : World) (hW : Work w0 p b deed owner w) :
    Calls Try.prog 57 #[.pointer (some ⟨p, 0, none⟩)] w fun e w' => e = .returned (.bool (!decide (b.ends deed owner = []))) ∧ NowIn p (b.bk deed owner) w w' := by
  have hpl := hW.lt
  refine (callsIn_wide (n := 9)).1 ?_
  refine callsIn_of_wp_marks Try.func57 rfl trivial ?_ rfl
  simp only [Try.ntmps57, List.size_toArray, List.length_cons, List.length_nil, Nat.reduceAdd, Nat.reduceSub, Array.replicate_succ, Array.replicate_zero, List.push_toArray, List.append_toArray, List.nil_append, List.cons_append]
  refine wpIn_wide.2 ?_
  go_wp2_with (go_at_call 76; refine (ends_any p _).mono ?_; rintro e w' ⟨rfl, rfl⟩)
  try go_step3
  go_wp2_with (go_at_call 76; refine (ends_any p _).mono ?_; rintro e w' ⟨rfl, rfl⟩)
  try go_step3
  go_wp2_with (go_at_call 76; refine (ends_any p _).mono ?_; rintro e w' ⟨rfl, rfl⟩)
  obtain ⟨r, hr⟩ : ∃ r, r = w.heap.size := ⟨_, rfl⟩
  obtain ⟨w1, hw1⟩ : ∃ w1, w1 = (w.alloc (Obj.cells #[Value.bool false] 4)).alloc (Obj.cells #[Value.pointer (some ⟨p, 0, none⟩)] 103) := ⟨_, rfl⟩
  have br : w1.heap[r]? = some (Obj.cells #[Value.bool false] 4 (0, 0)) := by rw [hw1, hr]; exact hblk_alloc (alloc_at rfl) _
  have bq : w1.heap[r + 1]? = some (Obj.cells #[Value.pointer (some ⟨p, 0, none⟩)] 103 (0, 0)) := by rw [hw1, hr]; exact alloc_at (by simp)
  have hB1 : Below w.heap.size w w1 := by rw [hw1]; exact bal (bal0 w _) (Nat.le_refl _) _
  have hz1 : r + 1 < w1.heap.size := heap_lt bq
  have hpr : p < r := by omega
  have HW := Lib.hid (And.intro hW hB1)
  rw [← hw1, ← hr]
  have HR := Lib.hid hr
  clear hw1 hr hW hB1
  refine wp_ends (HW.out.1.below HW.out.2 (Nat.le_refl _)) (NowIn.of_below HW.out.2 HW.out.1.hp (Nat.le_refl _)) hpl bq rfl rfl
    (fun pre W => pre = [] ∧ W.heap[r]? = some (Obj.cells #[Value.bool false] 4 (0, 0))) (fun c pre W => c = .exit 0 ∧ pre ≠ [] ∧ W.heap[r]? = some (Obj.cells #[Value.bool true] 4 (0, 0)))
    (fun s A B row hs hg hr => ⟨hs.1, blk_kept hs.2 rfl hg (fun i e => (hr i e).2)⟩) (fun c s A B row hs hg hr => ⟨hs.1, hs.2.1, blk_kept hs.2.2 rfl hg (fun i e => (hr i e).2)⟩) (fun s A B hs hx => ⟨hs.1, by obtain ⟨i, rfl⟩ := hx; exact (Below.heap_setCell _ ⟨p, 7, none⟩ _ _ (show r ≠ p by omega)).trans hs.2⟩) ⟨rfl, br⟩
    (fun x a' W => a' = { tmps := #[.pointer (some ⟨p, 0, none⟩), undef, .bool false, .pointer (some ⟨r, 0, none⟩), .pointer (some ⟨p, 0, none⟩), .func (.func 103) #[] #[.pointer (some ⟨r + 1, 0, none⟩)], .agg (hcs x), undef], defers := [] })
    (fun x a' s A B row hs hg hr => hs) ?assign ?body ?done ?stop
  case assign =>
    intro l pre x W K hN hI hx hK
    gi_wp2
    exact hK _ W (KeepsFrom.refl _ _) (KeepsWalks.refl _) hN hI (by simp)
  case body =>
    rintro l pre x a' W hN hI rfl hx
    have c0 := blk1 hI.2
    have f0 := frz hI.2 0
    have HN := Lib.hid (And.intro hN hI)
    clear hN hI hx
    gi_wp2
    have hpp := heap_lt HN.out.2.2
    refine ⟨(KeepsOthers.setCell _ _ _).from _, ?_, rfl, by simp, ?_⟩
    · have hrr := HR.out
      exact HN.out.1.then hpl rfl rfl rfl (by simpa using HN.out.1.size) (fun k hk => Below.heap_setCell _ ⟨r, 0, none⟩ _ _ (show k ≠ r by omega))
    · show (W.setCell ⟨r, 0, none⟩ _).heap[r]? = _
      rw [set_blk HN.out.2.2]
      simp
  case done =>
    rintro D xs W hD hS hN hI hd
    have c0 := blk1 hI.2
    have HN := Lib.hid (And.intro hN (And.intro hS hI.1))
    clear hN hS hI
    go_wp2
    rw [Exit.noGoto_ret]
    refine ⟨by simp, .inl ⟨_, _, rfl, run_takeDeferred hd, ?_⟩⟩
    refine ⟨_, results_tmp rfl _ _ _, ?_, ?_⟩
    · have h := HN.out.2.1
      rw [HN.out.2.2] at h
      rw [h.nil_eq.symm]
      rfl
    · exact HN.out.1.undo hpl (by have := HW.out.2.size; omega) _
  case stop =>
    rintro D c pre W hD hS hN ⟨rfl, hne, hI⟩ hd
    have c0 := blk1 hI
    have HN := Lib.hid (And.intro hN (And.intro hS hne))
    clear hN hS hI hne
    go_wp2
    rw [Exit.noGoto_ret]
    refine ⟨by simp, .inl ⟨_, _, rfl, run_takeDeferred hd, ?_⟩⟩
    refine ⟨_, results_tmp rfl _ _ _, ?_, ?_⟩
    · obtain ⟨r, hr⟩ := HN.out.2.1
      have : b.ends deed owner ≠ [] := fun e => by
        rw [e] at hr
        have := hr.length_eq
        simp at this
        exact HN.out.2.2 this.1
      rw [decide_eq_false this]
      rfl
    · exact HN.out.1.undo hpl (by have := HW.out.2.size; omega) _
end Go.Proofs.Ytmennjmjakdkcaa
namespace Go.Proofs.Ytmennjmjakdkcaa
open Go.RowKit Go.MapKept
set_option linter.unusedVariables false
set_option linter.unusedSimpArgs false

def eRn (x : Rn) : List Value := [.int .i64 x.lo, .int .i64 x.hi]
theorem Own.now {α : Type} {enc : α → List Value} {e : TypeId} {sz : Nat} {a c : World} {base p : Nat} {v : Value} {l : List α} {O : Int → Obj} (h : Own enc e sz a base v l) (k : NowIn p O a c) (hp : p < base) : Own enc e sz c base v l :=
  h.kept (row := some p) ⟨k.os, k.tape, k.output, k.size, fun j hj hne => k.block j hj (fun e => hne (by rw [e]))⟩ (by
    cases e : v.ownBlock with
    | none => exact .inl rfl
    | some b => right; intro e'; cases e'; have := (Own.lt h _ e).1; omega)

end Go.Proofs.Ytmennjmjakdkcaa
namespace Go.Proofs.Ytmennjmjakdkcaa
open Go.RowKit Go.MapKept
set_option linter.unusedVariables false
set_option linter.unusedSimpArgs false

abbrev OwnT (w : World) (base : Nat) (v : Value) (ls : List (List Rn)) : Prop := OwnA eRn 64 56 2 w base v ls
theorem OwnT.now {a c : World} {base p : Nat} {v : Value} {l : List (List Rn)} {O : Int → Obj} (h : OwnT a base v l) (k : NowIn p O a c) (hp : p < base) : OwnT c base v l :=
  h.map (fun _ h => Own.now h k hp) (fun _ _ h => Own.now h k hp)

end Go.Proofs.Ytmennjmjakdkcaa
namespace Go.Proofs.Ytmennjmjakdkcaa
open Go.RowKit Go.MapKept
set_option linter.unusedVariables false
set_option linter.unusedSimpArgs false

/-- the book is turned to another deed and owner -/
theorem NowIn.turn {p : Nat} {b : Hb} {d o d' o' : Int} {w w' : World} (h : NowIn p (b.bk d o) w w') : NowIn p (b.bk d' o') w ((w'.setCell ⟨p, 5, none⟩ (.int .i64 d')).setCell ⟨p, 6, none⟩ (.int .i64 o')) := by
  obtain ⟨n, hn⟩ := h.hp
  refine ⟨h.os, h.tape, h.output, by simpa using h.size, fun k hk hne => ((Below.heap_setCell _ ⟨p, 6, none⟩ _ _ hne).trans (Below.heap_setCell _ ⟨p, 5, none⟩ _ _ hne)).trans (h.block k hk hne), ⟨n, ?_⟩⟩
  exact (set_blk (set_blk hn)).trans (by simp)
theorem Work.turn {w0 w w' : World} {p : Nat} {b : Hb} {d o d' o' : Int} (h : Work w0 p b d o w) (k : NowIn p (b.bk d' o') w w') : Work w0 p b d' o' w' := ⟨h.hin, h.hz, h.bel.trans (k.less h.hz h.bel.size), k.hp, h.ck⟩
theorem NowIn.other {p : Nat} {O O' : Int → Obj} {a b c : World} (h : NowIn p O a b) (k : NowIn p O' b c) : NowIn p O' a c :=
  ⟨k.os.trans h.os, k.tape.trans h.tape, k.output.trans h.output, Nat.le_trans h.size k.size, fun i hi hne => (k.block i (Nat.lt_of_lt_of_le hi h.size) hne).trans (h.block i hi hne), k.hp⟩

def whoseTo (b : Hb) (deed : Int) (k : Nat) : List Int := ((List.range k).filter fun (o : Nat) => !decide (b.ends deed (o : Int) = [])).map Int.ofNat
theorem whoseTo_succ (b : Hb) (deed : Int) (k : Nat) : whoseTo b deed (k + 1) = whoseTo b deed k ++ if (!decide (b.ends deed (k : Int) = [])) = true then [(k : Int)] else [] := by
  unfold whoseTo
  rw [List.range_succ, List.filter_append, List.map_append]
  congr 1
  by_cases h : b.ends deed (k : Int) = [] <;> simp [h]
theorem whoseTo_len (b : Hb) (deed : Int) (k : Nat) : (whoseTo b deed k).length ≤ k := by
  unfold whoseTo
  rw [List.length_map]
  have := List.length_filter_le (fun (o : Nat) => !decide (b.ends deed (o : Int) = [])) (List.range k)
  simpa using this
def whoseE (b : Hb) (deed : Int) : Int :=
  if b.chk ≠ 0 then b.chk else if ownB b.ds.length deed = false then 3 else if (b.ds[deed.toNat]?.map De.kind) ≠ some 5 then 8 else if whoseTo b deed b.l.length = [] then 11 else 0
def whoseR (b : Hb) (deed : Int) : List Int := if whoseE b deed = 0 then whoseTo b deed b.l.length else []
def WhoseR (b : Hb) (deed : Int) (w : World) (e : Ending) (w' : World) : Prop := (∃ v, e = .returned (.tuple #[v, .int .i64 (whoseE b deed)]) ∧ OwnI w' w.heap.size v (whoseR b deed)) ∧ Below w.heap.size w w'
theorem whose_nil {b : Hb} {deed : Int} {w w' : World} {e : Int} (he : whoseE b deed = e) (h0 : e ≠ 0) (hb : Below w.heap.size w w') : WhoseR b deed w (.returned (.tuple #[.slice none 0 0, .int .i64 e])) w' := by
  refine ⟨⟨_, by rw [he], ?_⟩, hb⟩
  unfold whoseR
  rw [he, if_neg h0]
  exact Own.nil_
set_option maxRecDepth 100000 in
set_option maxHeartbeats 1000000 in
theorem Whose_any (b : Hb) (deed : Int) (w : World) (hin : HbIn w b) : Calls Try.prog 12 #[b.v, .int .i64 deed] w (WhoseR b deed w) := by
  obtain ⟨V, hV⟩ : ∃ V, V = w.alloc b.obj := ⟨_, rfl⟩
  obtain ⟨g, hg⟩ : ∃ g, g = w.heap.size := ⟨_, rfl⟩
  have b0 : V.heap[g]? = some b.obj := by rw [hV, hg]; exact alloc_at rfl
  have hBV : Below w.heap.size w V := by rw [hV]; exact bal0 w _
  have hiV := hin.below hBV (Nat.le_refl _)
  obtain ⟨c0, c1, c2, c3, c4⟩ := blk5c b0
  have hak := asked_any b V hiV
  unfold Hb.v at hak
  have HV := Lib.hid (And.intro hBV (And.intro b0 (And.intro hiV hg)))
  unfold Hb.v
  go_enter Try.func12, Try.ntmps12
  go_upto_region 1 with (fail)
  rw [← hV, ← hg]
  clear hV hg hin hBV hiV b0
  obtain ⟨R, hR⟩ : ∃ R, R = AskedR b b.chk V := ⟨_, rfl⟩
  rw [← hR] at hak
  have HR := Lib.hid hR
  clear hR
  go_upto_region 2 with (go_at_call 55; refine hak.mono ?_; rintro e w2 hRR; rw [HR.out] at hRR; unfold AskedR at hRR; rcases hRR with ⟨h0, rfl, hb2⟩ | ⟨h0, p, rfl, hWk, hb2⟩)
  · have xf : (b.chk != 0) = true := by simp [h0]
    go_wp2_with fail
    go_ret2
    exact whose_nil (by unfold whoseE; rw [if_pos h0]) h0 (HV.out.1.trans (hb2.mono HV.out.1.size))
  have x0 := bheap HV.out.2.1 hb2 (Nat.le_refl _)
  have hok := hWk.ok
  have hgp : g ≠ p := by have := hWk.hz; have := heap_lt HV.out.2.1; omega
  clear c0 c1 c2 c3 c4 hak
  obtain ⟨c0, c1, c2, c3, c4⟩ := blk5c x0
  have hpl := hWk.lt
  have hdw := hWk.inn.d
  obtain ⟨n, hn⟩ : ∃ n, n = b.l.length := ⟨_, rfl⟩
  obtain ⟨nd, hnd⟩ : ∃ nd, nd = b.ds.length := ⟨_, rfl⟩
  obtain ⟨Ad, hAd⟩ : ∃ Ad, Ad = b.Ad := ⟨_, rfl⟩
  rw [← hn] at c1
  rw [← hnd, ← hAd] at c4 hdw
  have hn0 : 0 < n ∧ n ≤ 5 := by rw [hn]; exact ⟨hok.n0, hok.n5⟩
  have hd6 : nd ≤ 6 := by rw [hnd]; exact hok.d6
  have H2 := Lib.hid (And.intro hb2 (And.intro hWk (And.intro h0 (And.intro hn (And.intro hnd (And.intro hok (And.intro hgp (And.intro x0 (HV.out.1.trans (hb2.mono HV.out.1.size))))))))))
  clear hb2 hWk h0 hn hnd hok hgp x0 hAd
  obtain ⟨ob, hob⟩ : ∃ ob, ob = ownB nd deed := ⟨_, rfl⟩
  have hbt := betweenH_any deed 0 ((nd : Int) - 1) w2
  rw [show btw deed 0 ((nd : Int) - 1) = ob from hob.symm] at hbt
  have HOB := Lib.hid hob
  clear hob
  cases ob with
  | false =>
    go_wp2_with (go_at_call 56; refine hbt.mono ?_; rintro e w' ⟨rfl, rfl⟩)
    go_ret2
    exact whose_nil (by unfold whoseE; rw [if_neg (by rw [H2.out.2.2.1]; simp), ← H2.out.2.2.2.2.1, ← HOB.out, if_pos rfl]) (by decide) H2.out.2.2.2.2.2.2.2.2
  | true =>
  obtain ⟨hd0, hdl⟩ := ownB_iff.1 HOB.out.symm
  obtain ⟨dn, rfl⟩ := Int.eq_ofNat_of_zero_le hd0
  have hdn : dn < nd := by omega
  obtain ⟨bi, oi, d, hA, hbi, hdk, d0, d1, d2, d3, d4, d5, d6, d7, d8, d9, d10, d11⟩ := Deeds.get hdw hdn
  subst hA
  have HD := Lib.hid hdk
  clear hdk hdw hbi d1 d2 d3 d4 d5 d6 d7 d8 d9 d10 d11
  by_cases hk5 : d.kind = 5
  · rw [hk5] at d0
    have hwe : whoseE b dn = if whoseTo b dn b.l.length = [] then 11 else 0 := by
      unfold whoseE
      rw [if_neg (by rw [H2.out.2.2.1]; simp), ← H2.out.2.2.2.2.1, ← HOB.out, if_neg (by simp), if_neg (by rw [Int.toNat_natCast, HD.out]; simp [hk5])]
    have HWE := Lib.hid hwe
    clear hwe hk5
    go_wp2_with (go_at_call 56; refine hbt.mono ?_; rintro e w' ⟨rfl, rfl⟩)
    go_loopg [8, 36] n (fun g' v8 v36 wr => ∃ k : Nat, k + g' = n ∧ v36 = .int .i64 k ∧ OwnI wr w2.heap.size v8 (whoseTo b dn k) ∧ ∃ dd oo, NowIn p (b.bk dd oo) w2 wr)
    case atStart => exact ⟨0, by omega, rfl, Own.nil_, _, _, H2.out.2.1.refl⟩
    case round =>
      obtain ⟨k, hk, rfl, hown, dd, oo, hN⟩ := hrel
      by_cases hlt : k < n
      · have i1 : (k : Int) < (n : Int) := by omega
        obtain ⟨nw, hpb⟩ := hN.hp
        obtain ⟨p0, p1, p2, p3, p4, p5, p6, p7⟩ := blkB hpb
        have fz5 := frz hpb 5
        have fz6 := frz hpb 6
        have hpr := heap_lt hpb
        have HK := Lib.hid (And.intro hk (And.intro hown hN))
        clear hk hown hN hpb p0 p1 p2 p3 p4 p7
        go_upto_region 13 with (fail)
        have hN3 := HK.out.2.2.turn (d' := (dn : Int)) (o' := (k : Int))
        have hown3 : OwnI ((wr.setCell ⟨p, 5, none⟩ (Value.int .i64 (dn : Int))).setCell ⟨p, 6, none⟩ (Value.int .i64 (k : Int))) w2.heap.size u8 (whoseTo b dn k) :=
          Own.now (O := b.bk dn k) HK.out.2.1 (a := wr) ⟨rfl, rfl, rfl, by simp, fun j _ hne => (Below.heap_setCell _ ⟨p, 6, none⟩ _ _ hne).trans (Below.heap_setCell _ ⟨p, 5, none⟩ _ _ hne), hN3.hp⟩ hpl
        generalize ((wr.setCell ⟨p, 5, none⟩ (Value.int .i64 (dn : Int))).setCell ⟨p, 6, none⟩ (Value.int .i64 (k : Int))) = w3 at hN3 hown3 ⊢
        have htr := truth_any V p b dn k w3 (H2.out.2.1.turn hN3)
        obtain ⟨tb, htb⟩ : ∃ tb, tb = !decide (b.ends (dn : Int) (k : Int) = []) := ⟨_, rfl⟩
        rw [← htb] at htr
        have HTB := Lib.hid htb
        have H3 := Lib.hid (And.intro hN3 hown3)
        clear htb hN3 hown3 p5 p6 fz5 fz6
        have hstp := whoseTo_succ b dn k
        rw [← HTB.out] at hstp
        have HST := Lib.hid hstp
        have hll := whoseTo_len b dn k
        clear hstp
        cases tb with
        | false =>
          go_wp2_with (go_at_call 57; refine htr.mono ?_; rintro e w4 ⟨rfl, hN4⟩)
          go_roundg (gk - 1)
          case measure => have := HK.out.1; omega
          case rel => exact ⟨k + 1, by have := HK.out.1; omega, by go_num, by rw [HST.out]; simpa using Own.now H3.out.2 hN4 hpl, dn, k, H3.out.1.other hN4⟩
        | true =>
          go_upto_region 14 with (go_at_call 57; refine htr.mono ?_; rintro e w4 ⟨rfl, hN4⟩)
          have hown4 := Own.now H3.out.2 hN4 hpl
          have hN4' := H3.out.1.other hN4
          have hz4 := hN4'.size
          have H4 := Lib.hid (And.intro hN4' hown4)
          clear hN4 hN4' hown4
          go_wp2_with (at_builtin; refine wp_app okInt rfl (.tmp 49) (.tmp 51) rfl w2.heap.size _ (whoseTo b dn k) (k : Int) _ rfl rfl rfl rfl (one_eInt _) H4.out.2 ?_ ?_ ?_ ?_; (omega); (omega); (omega); intro v' w5 hown5 hb5 _ hz5; have H5 := Lib.hid (And.intro hown5 hb5); clear hown5 hb5)
          go_roundg (gk - 1)
          case measure => have := HK.out.1; omega
          case rel => exact ⟨k + 1, by have := HK.out.1; omega, by go_num, by rw [HST.out]; simpa using H5.out.1, dn, k, H4.out.1.below hpl H5.out.2 (Nat.le_refl _)⟩
      · obtain rfl : k = n := by omega
        obtain ⟨Av, cv, hve, hsl, hlc, hcm⟩ := hown.form lenInt
        have hbw : Below w.heap.size w wr := H2.out.2.2.2.2.2.2.2.2.trans (hN.less (Nat.le_trans HV.out.1.size H2.out.2.1.hz) (Nat.le_trans HV.out.1.size H2.out.1.size))
        obtain ⟨L, hL⟩ : ∃ L, L = whoseTo b dn k := ⟨_, rfl⟩
        rw [← hL] at hve
        have hLl : L.length ≤ 5 := by rw [hL]; have := whoseTo_len b dn k; omega
        have HF := Lib.hid (And.intro hown (And.intro hbw hL))
        subst hve
        clear hown hN hk hsl hlc hcm hbw hL
        by_cases hLn : L.length = 0
        · have x0 : ((L.length : Int) == 0) = true := by simp [hLn]
          have HLN := Lib.hid hLn
          clear hLn
          go_wp2_with fail
          go_ret2
          refine whose_nil ?_ (by decide) HF.out.2.1
          rw [HWE.out, ← H2.out.2.2.2.1, ← HF.out.2.2, if_pos (List.eq_nil_of_length_eq_zero HLN.out)]
        · have x0 : ((L.length : Int) == 0) = false := by simp; exact fun e => hLn (by rw [e]; rfl)
          have HLN := Lib.hid hLn
          clear hLn
          go_wp2_with fail
          go_ret2
          have h0 : whoseE b dn = 0 := by
            rw [HWE.out, ← H2.out.2.2.2.1, ← HF.out.2.2, if_neg (fun e => HLN.out (by rw [e]; rfl))]
          unfold WhoseR whoseR
          rw [h0, if_pos rfl]
          refine ⟨⟨_, rfl, ?_⟩, HF.out.2.1⟩
          have := HF.out.1
          rw [← HF.out.2.2] at this
          rw [← H2.out.2.2.2.1, ← HF.out.2.2]
          exact this.mono (Nat.le_trans HV.out.1.size H2.out.1.size)
  · have x5 : (d.kind != 5) = true := by simp [hk5]
    have HK5 := Lib.hid hk5
    clear hk5
    go_wp2_with (go_at_call 56; refine hbt.mono ?_; rintro e w' ⟨rfl, rfl⟩)
    go_ret2
    refine whose_nil ?_ (by decide) H2.out.2.2.2.2.2.2.2.2
    unfold whoseE
    rw [if_neg (by rw [H2.out.2.2.1]; simp), ← H2.out.2.2.2.2.1, ← HOB.out, if_neg (by simp), if_pos]
    rw [Int.toNat_natCast, HD.out]
    simpa using HK5.out
end Go.Proofs.Ytmennjmjakdkcaa
namespace Go.Proofs.Ytmennjmjakdkcaa
open Go.RowKit Go.Shelf
set_option linter.unusedVariables false
set_option linter.unusedSimpArgs false
attribute [local go_sem] Oper.semAt_some

abbrev Ix := Fin 17920
end Go.Proofs.Ytmennjmjakdkcaa
namespace Go.Proofs.Ytmennjmjakdkcaa
open Go.RowKit Go.Shelf
set_option linter.unusedVariables false
set_option linter.unusedSimpArgs false
attribute [local go_sem] Oper.semAt_some

theorem set3 {W : World} {g : Nat} {t : TypeId} {a b c x y z : Value} (h : W.heap[g]? = some (.cells #[a, b, c] t (0, 0))) :
    (((W.setCell ⟨g, 0, none⟩ x).setCell ⟨g, 1, none⟩ y).setCell ⟨g, 2, none⟩ z).heap[g]? = some (.cells #[x, y, z] t (0, 0)) := by simp [World.setCell, Array.getElem?_modify, h]
end Go.Proofs.Ytmennjmjakdkcaa
namespace Go.Proofs.Ytmennjmjakdkcaa
open Go.RowKit Go.Shelf
set_option linter.unusedVariables false
set_option linter.unusedSimpArgs false

end Go.Proofs.Ytmennjmjakdkcaa

namespace Go.Proofs.Ytmennjmjakdkcaa
set_option linter.unusedVariables false
set_option linter.unusedSimpArgs false

theorem key2 {p q N k x : Nat} (hpq : q ≤ p) (hx : x < k) : q * N + x ≤ p * N + k := by
  have h3 : q * N ≤ p * N := Nat.mul_le_mul_right N hpq
  generalize p * N = P at *
  generalize q * N = Q at *
  omega
end Go.Proofs.Ytmennjmjakdkcaa
