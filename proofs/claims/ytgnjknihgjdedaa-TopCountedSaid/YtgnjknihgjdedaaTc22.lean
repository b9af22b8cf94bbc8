/- TopCounted 22: HdI, HdB. -/
import Derived.Test.YtgnjknihgjdedaaTc10
import Derived.Deep.RegionHeld3
import Derived.Laws.EntriesVeiled
import Derived.Shelf.Abstract
import Derived.Test.YtgnjknihgjdedaaTc03
namespace Go.Proofs.Ytgnjknihgjdedaa
open Go.RowKit Go.MapKept
set_option linter.unusedVariables false
set_option linter.unusedSimpArgs false
attribute [local go_sem] Oper.semAt_some

theorem kf_enters (k : Int) (hk : 1 ≤ k ∧ k ≤ 6) : Enters Try.prog (kf k) := by
  obtain rfl | rfl | rfl | rfl | rfl | rfl : k = 1 ∨ k = 2 ∨ k = 3 ∨ k = 4 ∨ k = 5 ∨ k = 6 := by omega
  · exact enters_of Try.func111 (by kernel_rfl) rfl
  · exact enters_of Try.func112 (by kernel_rfl) rfl
  · exact enters_of Try.func113 (by kernel_rfl) rfl
  · exact enters_of Try.func114 (by kernel_rfl) rfl
  · exact enters_of Try.func115 (by kernel_rfl) rfl
  · exact enters_of Try.func116 (by kernel_rfl) rfl
def Keys (b : Hb) (deed owner : Int) (i : Nat) (K : List (List Int)) : Prop := ∀ x, x ∈ K ↔ x ∈ endsTo b.t b.l b.hs b.ds deed owner i
def InnR (w4 wi : World) (S2 M r : Nat) (K : List (List Int)) (sc : List Int → List (List Int)) (g : Nat) : Prop :=
  ∃ L done K2, g = L.length ∧ K.Perm (done ++ L) ∧ IterH wi M r K L ∧ MetH wi S2 K2 ∧ (∀ x, x ∈ K2 ↔ ∃ h ∈ done, x ∈ sc h) ∧ wi.os = w4.os ∧ wi.tape = w4.tape ∧ wi.output = w4.output ∧ w4.heap.size + 1 ≤ wi.heap.size ∧ ∀ j, j < w4.heap.size → j ≠ S2 → wi.heap[j]? = w4.heap[j]?
theorem InnR.next {w4 w5 w6 : World} {S2 M r : Nat} {K K2 L L' done : List (List Int)} {x : List Int} {sc : List Int → List (List Int)} (hperm : K.Perm (done ++ L)) (hp : L.Perm (x :: L')) (hP : PutsH w5 w6 S2 (sc x)) (hm : MetH w5 S2 K2) (hi : IterH w5 M r K L')
    (hk : ∀ y, y ∈ K2 ↔ ∃ h ∈ done, y ∈ sc h) (hM : M ≠ S2) (hr : r ≠ S2) (ho : w5.os = w4.os) (ht : w5.tape = w4.tape) (hu : w5.output = w4.output) (hz : w4.heap.size + 1 ≤ w5.heap.size) (hf : ∀ j, j < w4.heap.size → j ≠ S2 → w5.heap[j]? = w4.heap[j]?) :
    InnR w4 w6 S2 M r K sc L'.length := by
  obtain ⟨K', h1, h2⟩ := hP.met K2 hm
  have hg := hP.gr
  refine ⟨L', done ++ [x], K', rfl, ?_, ?_, h1, fun y => ?_, hg.os.trans ho, hg.tape.trans ht, hg.output.trans hu, Nat.le_trans hz hg.size, fun j hj hne => ?_⟩
  · refine hperm.trans ?_
    rw [List.append_assoc]
    exact (hp.append_left done)
  · have hlM := hi.met.lt
    have hlr := hi.lt
    exact hi.keep (hg.block M hlM (fun e => by cases e; exact hM rfl)) (hg.block r hlr (fun e => by cases e; exact hr rfl))
  · rw [h2, hk]
    constructor
    · rintro (⟨h, hh, hy⟩ | hy)
      · exact ⟨h, List.mem_append.2 (.inl hh), hy⟩
      · exact ⟨x, by simp, hy⟩
    · rintro ⟨h, hh, hy⟩
      rcases List.mem_append.1 hh with hh | hh
      · exact .inl ⟨h, hh, hy⟩
      · simp at hh; subst hh; exact .inr hy
  · exact (hg.block j (by omega) (fun e => by cases e; exact hne rfl)).trans (hf j hj hne)
structure TE (S : Nat) (x : List Int) (p : Nat) (n : Nat) (a b : World) : Prop where
  os : b.os = a.os
  tape : b.tape = a.tape
  output : b.output = a.output
  size : a.heap.size ≤ b.heap.size
  block : ∀ k, k < S → b.heap[k]? = a.heap[k]?
  mp : ∀ M K, MetH a M K → S ≤ M → (∀ k ∈ K, k = x) → ∃ K', MetH b M K' ∧ (∀ k ∈ K', k = x) ∧ (x ∈ K → x ∈ K')
  dm : ∀ D, S ≤ D → a.heap[D]? = some (.map (doesM p) 6) → b.heap[D]? = some (.map (doesM p) 6)
section
variable {S : Nat} {x : List Int} {p : Nat}
theorem TE.rf (w : World) : TE S x p 1 w w := ⟨rfl, rfl, rfl, Nat.le_refl _, fun _ _ => rfl, fun M K h _ hk => ⟨K, h, hk, id⟩, fun _ _ h => h⟩
theorem TE.tr : ∀ n a b c, TE S x p n a b → TE S x p 1 b c → TE S x p (n + 1) a c := fun n a b c h k =>
  ⟨k.os.trans h.os, k.tape.trans h.tape, k.output.trans h.output, Nat.le_trans h.size k.size, fun i hi => (k.block i hi).trans (h.block i hi), fun M K hM hS hK => by
    obtain ⟨K1, a1, a2, a3⟩ := h.mp M K hM hS hK
    obtain ⟨K2, b1, b2, b3⟩ := k.mp M K1 a1 hS a2
    exact ⟨K2, b1, b2, fun e => b3 (a3 e)⟩, fun D hD hd => k.dm D hD (h.dm D hD hd)⟩
theorem TE.draw (w : World) : TE S x p 0 w { w with drawn := w.drawn + 1 } := ⟨rfl, rfl, rfl, Nat.le_refl _, fun _ _ => rfl, fun M K h _ hk => ⟨K, h, hk, id⟩, fun _ _ h => h⟩
theorem TE.of {a b : World} {B : Nat} (h : Below B a b) (hB : a.heap.size ≤ B) (hS : S ≤ a.heap.size) : TE S x p 1 a b :=
  ⟨h.os, h.tape, h.output, h.size, fun k hk => h.block k (by omega), fun M K hM _ hK => ⟨K, hM.keep (h.block M (by have := hM.lt; omega)), hK, id⟩, fun D _ hd => bheap hd h hB⟩
theorem does_no {w : World} {M : Nat} {K : List (List Int)} (h : MetH w M K) : w.heap[M]? ≠ some (.map (doesM p) 6) := by
  obtain ⟨es, c, h1, h2, h3, h4⟩ := h
  intro e
  rw [h1] at e
  injection e with e
  injection e with e1 e2
  have hm : (⟨.int .i64 1, (.func (.func 111) #[.pointer (some ⟨p, 0, none⟩)] #[]), 0⟩ : MapEntry) ∈ es.toList := by rw [e1]; simp [doesM]
  obtain ⟨k, _, hk, _⟩ := entry_key h3 hm
  cases hk
theorem TE.put {a : World} {M : Nat} {K K' : List (List Int)} {ob : Obj} (h : MetH a M K) (hS : S ≤ M) (hK : ∀ k ∈ K, k = x) (h1 : ∀ w' : World, w'.heap[M]? = some ob → MetH w' M K') (h2 : ∀ q, q ∈ K' ↔ q ∈ K ∨ q = x) : TE S x p 1 a { a with heap := a.heap.setIfInBounds M ob } := by
  have hlt := h.lt
  have hoff : ∀ k, k ≠ M → ({ a with heap := a.heap.setIfInBounds M ob } : World).heap[k]? = a.heap[k]? := fun k hk => Array.getElem?_setIfInBounds_ne (fun e => hk e.symm)
  refine ⟨rfl, rfl, rfl, by simp, fun k hk => hoff k (by omega), fun N L hN _ hL => ?_, fun D _ hd => ?_⟩
  · by_cases e : N = M
    · subst e
      obtain rfl := h.uniq hN
      refine ⟨K', h1 _ (Array.getElem?_setIfInBounds_self_of_lt hlt), fun k hk => ?_, fun _ => (h2 _).2 (.inr rfl)⟩
      rcases (h2 k).1 hk with hk | hk
      · exact hK k hk
      · exact hk
    · exact ⟨L, hN.keep (hoff N e), hL, id⟩
  · rw [hoff D (fun e => does_no h (e ▸ hd))]
    exact hd
def FM (S : Nat) (x : List Int) : VF := fun v w => ∃ M, S ≤ M ∧ v = .map (some M) ∧ ∃ K, MetH w M K ∧ ∀ k ∈ K, k = x
def FMx (S : Nat) (x : List Int) : VF := fun v w => ∃ M, S ≤ M ∧ v = .map (some M) ∧ ∃ K, MetH w M K ∧ (∀ k ∈ K, k = x) ∧ x ∈ K
def FD (S p : Nat) : VF := fun v w => ∃ D, S ≤ D ∧ v = .map (some D) ∧ w.heap[D]? = some (.map (doesM p) 6)
theorem FM.st : ∀ n v w w', TE S x p n w w' → FM S x v w → FM S x v w' := fun n v w w' h ⟨M, h1, h2, K, h3, h4⟩ => by
  obtain ⟨K', a1, a2, _⟩ := h.mp M K h3 h1 h4
  exact ⟨M, h1, h2, K', a1, a2⟩
theorem FMx.st : ∀ n v w w', TE S x p n w w' → FMx S x v w → FMx S x v w' := fun n v w w' h ⟨M, h1, h2, K, h3, h4, h5⟩ => by
  obtain ⟨K', a1, a2, a3⟩ := h.mp M K h3 h1 h4
  exact ⟨M, h1, h2, K', a1, a2, a3 h5⟩
theorem FD.st : ∀ n v w w', TE S x p n w w' → FD S p v w → FD S p v w' := fun n v w w' h ⟨D, h1, h2, h3⟩ => ⟨D, h1, h2, h.dm D h1 h3⟩
theorem one_key {K : List (List Int)} (hn : K.Nodup) (h : ∀ k ∈ K, k = x) (hx : x ∈ K) : K = [x] := by
  cases K with
  | nil => cases hx
  | cons a K =>
    obtain rfl := h a List.mem_cons_self
    cases K with
    | nil => rfl
    | cons c K =>
      have := h c (by simp)
      subst this
      simp at hn
end
def EqF' (c : Value) : VF := fun v _ => v = c

set_option maxRecDepth 100000 in
theorem ends_it (n : Nat) (hn : 1 ≤ n) (w0 : World) (p q : Nat) (b : Hb) (deed owner : Int) (w : World) (hW : Work w0 p b deed owner w) (hq : w.heap[q]? = some (Obj.cells #[.pointer (some ⟨p, 0, none⟩)] 116 (0, 0))) :
    SeqE Fence.wide n Try.prog 107 #[.pointer (some ⟨q, 0, none⟩)] (fun x => #[.agg (hcs x)]) (ExN p) (fun xs => xs.Perm (b.ends deed owner)) (fun pre => ∃ r, (pre ++ r).Perm (b.ends deed owner)) w := fun l J Jx W hBW hJ hJx hJE hY h0 => by
  have hWk := hW.below hBW (Nat.le_refl _)
  have hqW := bheap hq hBW (Nat.le_refl _)
  have hqp : q ≠ p := by
    intro e
    obtain ⟨now, hp⟩ := hW.hp
    rw [e, hp] at hq
    cases hq
  have hpl := hWk.lt
  have hql := heap_lt hqW
  have hok := hWk.ok
  obtain ⟨now, hp⟩ := hWk.hp
  have hBk := hWk.book hp
  have hG := hWk.inn.h
  have cq := blk1 hqW
  have h3 : b.hs.length ≤ 3 := by have := hok.hl; have := hok.f3; omega
  have h5 : ∀ r ∈ b.hs, r.length ≤ 5 := fun r hr => by have := hok.rl r hr; have := hok.n5; omega
  have hfb := firstH_bd hok.rb
  obtain ⟨fh, hfh⟩ : ∃ fh, fh = firstH b.hs := ⟨_, rfl⟩
  rw [← hfh] at hfb
  have hfo : HOk fh := HOk.of hfb (by omega)
  have hfl := hfb.1
  have HC := Lib.hid (And.intro hBk (And.intro hG (And.intro h3 h5)))
  have HF := Lib.hid hfh
  have HY := Lib.hid hY
  have HJ := Lib.hid (And.intro hJ (And.intro hJx hJE))
  have H0 := Lib.hid h0
  have HW := Lib.hid (And.intro hWk (And.intro hok hBW))
  have HQ := Lib.hid (And.intro hqW hp)
  clear hY hJ hJx hJE h0 hWk hok hBW hBk hG h3 h5 hfh hqW hp hW hq hfb
  refine callsIn_of_wp Try.func107 rfl trivial ?_ rfl
  simp only [Try.ntmps107, List.size_toArray, List.length_cons, List.length_nil, Nat.reduceAdd, Nat.reduceSub, Array.replicate_succ, Array.replicate_zero, List.push_toArray, List.append_toArray, List.nil_append, List.cons_append]
  refine wpIn_wide.2 ?_
  go_upto_region 0 with (fail)
  go_cut [3, 4] (fun v3 v4 wx => ∃ M D : Nat, v3 = .map (some M) ∧ v4 = .map (some D) ∧ MetH wx M [fh] ∧ wx.heap[D]? = some (.map (doesM p) 6) ∧ W.grownBy wx none ∧ W.heap.size ≤ M ∧ W.heap.size ≤ D)
  case first =>
    obtain ⟨S, hS⟩ : ∃ S, S = W.heap.size := ⟨_, rfl⟩
    have HH : Hid (∀ n' w', TE S fh p n' W w' → Below S W w') := Lib.hid fun n' w' h => ⟨h.os, h.tape, h.output, h.size, h.block⟩
    have HCQ : Hid (∀ n' w', TE S fh p n' W w' → w'.cell? ⟨q, 0, none⟩ = some (.pointer (some ⟨p, 0, none⟩))) := Lib.hid fun n' w' h => bcell cq (HH.out n' w' h) (Nat.le_of_eq hS.symm)
    have HBS : Hid (∀ n' w', TE S fh p n' W w' → S ≤ w'.heap.size) := Lib.hid fun n' w' h => by have := h.size; omega
    have HS := Lib.hid hS
    have HFI : Hid (∀ n' w', TE S fh p n' W w' → Calls Try.prog 108 #[.pointer (some ⟨p, 0, none⟩)] w' fun e w'' => e = .returned (.agg (hcs fh)) ∧ Below w'.heap.size w' w'') := Lib.hid fun n' w' h => by
      have hb := HH.out n' w' h
      have hB := HC.out.1
      have := first_any p b.t b.A b.l.length b.c b.l b.vk b.vd b.Ah b.ch b.hs deed owner now w' ⟨bheap hB.hp hb (Nat.le_of_eq hS.symm), hB.hl.below hb (Nat.le_of_eq hS.symm), hB.nc, hB.cm, hB.ck⟩ (HC.out.2.1.below hb (Nat.le_of_eq hS.symm)) HC.out.2.2.1 HC.out.2.2.2
      rw [← HF.out] at this
      exact this
    clear hS cq
    refine wp_region_inv (TE S fh p) (by kernel_rfl) (by kernel_rfl) TE.tr (TE.draw _) ?_
    apply Exists.intro
    refine ⟨fun ys => ?_, fun ops K hK => ?_⟩
    · simp only [dstsOf, List.filterMap_cons, List.filterMap_nil, putAll]
      go_simp
      rfl
    have hmm := @run_makeMap Try.prog
    refine LexI.some (FM S fh) (FM.st) (fun n' ys w' hn' hT hd => ?_) ?_
    · try simp [DepsOf, depsGo, DF.holds, Region.binds, EqF] at hd
      try simp only [hd]
      have hsz := HBS.out n' w' hT
      intro Q2 hQ2
      go_wp2_with fail
      exact ⟨TE.of (bal0 w' _) (Nat.le_refl _) hsz, _, hsz, rfl, [], metH_empty (alloc_at rfl), fun k hk => by cases hk⟩
    try simp only [List.nil_append, List.cons_append]
    clear hmm
    refine LexI.const TE.rf ?_
    refine ⟨.pointer (some ⟨p, 0, none⟩), fun n' ys w' hn' hT hd => ?_, ?_⟩
    · try simp [DepsOf, depsGo, DF.holds, Region.binds, EqF] at hd
      try simp only [hd]
      obtain cq := HCQ.out n' w' hT
      intro Q2 hQ2
      go_wp2_with fail
      try rfl
    try simp only [List.nil_append, List.cons_append]
    refine LexI.some (EqF' (.agg (hcs fh))) (fun _ _ _ _ _ h => h) (fun n' ys w' hn' hT hd => ?_) ?_
    · try simp [DepsOf, depsGo, DF.holds, Region.binds, EqF] at hd
      try simp only [hd]
      have hbw := HH.out n' w' hT
      have hsz := HBS.out n' w' hT
      intro Q2 hQ2
      go_wp2_with (go_at_call 108; refine (HFI.out n' w' hT).mono ?_; rintro e w2 ⟨rfl, hb2⟩)
      exact ⟨_, rfl, TE.of hb2 (Nat.le_refl _) hsz, rfl⟩
    try simp only [List.nil_append, List.cons_append]
    refine LexI.ref 10 (FMx S fh) (FMx.st) rfl rfl (fun n' ys w' hn' hT hd => ?_) ?_
    · try simp [DepsOf, depsGo, DF.holds, Region.binds, EqF] at hd
      try simp only [hd]
      obtain ⟨⟨M, hSM, h10, K, hK1, hK2⟩, h12⟩ := hd
      unfold EqF' at h12
      obtain ⟨ob, hrun, hlt, K', hK3, hK4⟩ := run_putH fh hfo w' M K hK1
      rw [show hv fh = .agg (hcs fh) from rfl] at hrun
      have hTE := TE.put (p := p) (a := w') hK1 hSM hK2 hK3 hK4
      have hF : FMx S fh (.map (some M)) { w' with heap := w'.heap.setIfInBounds M ob } := ⟨M, hSM, rfl, K', hK3 _ (Array.getElem?_setIfInBounds_self_of_lt hlt), fun k hk => ((hK4 k).1 hk).elim (hK2 k) id, (hK4 _).2 (.inr rfl)⟩
      have HTF := Lib.hid (And.intro hTE hF)
      clear hTE hF hK1 hK2 hK3 hK4 hlt
      intro Q2 hQ2
      simp only [h10, h12]
      go_wp2_with fail
      exact HTF.out
    try simp only [List.nil_append, List.cons_append]
    refine LexI.some (FMx S fh) (FMx.st) (fun n' ys w' hn' hT hd => ?_) ?_
    · simp [DepsOf, depsGo, DF.holds, Region.binds, EqF] at hd
      have HM := Lib.hid hd.2.2.2
      clear hd
      intro Q2 hQ2
      go_wp2_with fail
      exact ⟨TE.rf _, HM.out⟩
    try simp only [List.nil_append, List.cons_append]
    refine LexI.const TE.rf ?_
    refine ⟨.pointer (some ⟨p, 0, none⟩), fun n' ys w' hn' hT hd => ?_, ?_⟩
    · try simp [DepsOf, depsGo, DF.holds, Region.binds, EqF] at hd
      try simp only [hd]
      obtain cq := HCQ.out n' w' hT
      intro Q2 hQ2
      go_wp2_with fail
      try rfl
    try simp only [List.nil_append, List.cons_append]
    refine LexI.some (FD S p) (FD.st) (fun n' ys w' hn' hT hd => ?_) ?_
    · try simp [DepsOf, depsGo, DF.holds, Region.binds, EqF] at hd
      try simp only [hd]
      have hsz := HBS.out n' w' hT
      intro Q2 hQ2
      go_wp2_with (go_at_call 109; refine (does_any p _).mono ?_; rintro e w2 ⟨rfl, rfl⟩)
      exact ⟨_, rfl, TE.of (bal0 w' _) (Nat.le_refl _) hsz, w'.heap.size, hsz, rfl, alloc_at rfl⟩
    try simp only [List.nil_append, List.cons_append]
    refine LexI.some (FMx S fh) (FMx.st) (fun n' ys w' hn' hT hd => ?_) ?_
    · simp [DepsOf, depsGo, DF.holds, Region.binds, EqF] at hd
      have HM := Lib.hid hd.1
      clear hd
      intro Q2 hQ2
      go_wp2_with fail
      exact ⟨TE.rf _, HM.out⟩
    try simp only [List.nil_append, List.cons_append]
    refine LexI.some (FD S p) (FD.st) (fun n' ys w' hn' hT hd => ?_) ?_
    · simp [DepsOf, depsGo, DF.holds, Region.binds, EqF] at hd
      have HM := Lib.hid hd.1
      clear hd
      intro Q2 hQ2
      go_wp2_with fail
      exact ⟨TE.rf _, HM.out⟩
    try simp only [List.nil_append, List.cons_append]
    refine hK _ (fun n' ys w5 hn' hT hF => ?_)
    simp only [AllF, DF.holds] at hF
    obtain ⟨-, -, -, -, -, -, -, ⟨M, hM1, hM2, K1, hM3, hM4, hM5⟩, ⟨D, hD1, hD2, hD3⟩, -⟩ := hF
    have HT := Lib.hid hT
    have HMD := Lib.hid (And.intro hM1 (And.intro hM3 (And.intro hM4 (And.intro hM5 (And.intro hD1 hD3)))))
    clear hT hM1 hM3 hM4 hM5 hD1 hD3
    go_wp2_with fail
    go_meet
    have hk : K1 = [fh] := one_key HMD.out.2.1.nodup HMD.out.2.2.1 HMD.out.2.2.2.1
    refine ⟨M, D, rfl, rfl, by rw [← hk]; exact HMD.out.2.1, HMD.out.2.2.2.2.2, ?_, ?_, ?_⟩
    · have h := HH.out n' w5 HT.out
      exact ⟨h.os, h.tape, h.output, h.size, fun k hk _ => h.block k (by rw [HS.out]; exact hk)⟩
    · rw [← HS.out]; exact HMD.out.1
    · rw [← HS.out]; exact HMD.out.2.2.2.2.1
  case rest =>
    obtain ⟨M0, D, rfl, rfl, hm0, hd0, hgr, hSM, hSD⟩ := hcut
    have hNW : NowIn p (b.bk deed owner) W wc := (NowIn.refl ⟨now, HQ.out.2⟩).grown hpl hgr (fun i e => by cases e)
    have cq' := blk1 (hNW.blk HQ.out.1 hqp)
    obtain ⟨p0, p1, p2, p3, p4, p5, p6, p7⟩ := blkB ((hgr.block p hpl (fun e => by cases e)).trans HQ.out.2)
    obtain ⟨Ad, hAd⟩ : ∃ Ad, Ad = b.Ad := ⟨_, rfl⟩
    replace p4 : wc.cell? ⟨p, 4, none⟩ = some (.slice Ad b.ds.length b.cd) := by rw [hAd]; exact p4
    have HAD := Lib.hid hAd
    clear hAd
    have HM0 := Lib.hid (And.intro hm0 (And.intro hd0 (And.intro hNW (And.intro hSM hSD))))
    clear hm0 hd0 hgr hNW cq p0 p1 p2 p3 p5 p6 p7
    go_wp2_with fail
    go_loopg [3, 22] b.ds.length (fun g v3 v22 wr => ∃ (k M : Nat) (K : List (List Int)), k + g = b.ds.length ∧ v22 = .int .i64 k ∧ v3 = .map (some M) ∧ W.heap.size ≤ M ∧ MetH wr M K ∧ Keys b deed owner k K ∧ NowIn p (b.bk deed owner) W wr ∧ wr.heap[D]? = some (.map (doesM p) 6))
    case atStart => exact ⟨0, M0, [fh], by omega, rfl, rfl, HM0.out.2.2.2.1, HM0.out.1, fun x => by rw [HF.out]; rfl, HM0.out.2.2.1, HM0.out.2.1⟩
    case round =>
      obtain ⟨k, M, K, hk', rfl, rfl, hSM, hmet, hkeys, hN, hD⟩ := hrel
      clear p4 cq'
      have hWr := HW.out.1.now hN
      by_cases hlt : k < b.ds.length
      · obtain ⟨bi, oi, d, hA, hbi, hdk, c0, c1, c2, c3, c4, c5, c6, c7, c8, c9, c10, c11⟩ := hWr.inn.d.get hlt
        have hA' := HAD.out.trans hA
        clear HAD hA
        subst hA'
        have hdi := HW.out.2.1.dI d (List.mem_of_getElem? hdk)
        obtain ⟨now', hp'⟩ := hN.hp
        have cq := blk1 (hN.blk HQ.out.1 hqp)
        have hplr := hN.lt
        have f7 := frz hp' 7
        obtain ⟨-, -, -, -, -, -, -, p7⟩ := blkB hp'
        have i0 : (0 : Int) ≤ (k : Int) := by omega
        have i1 : (k : Int) < (b.ds.length : Int) := by omega
        have bz : (wr.alloc dZ).heap[wr.heap.size]? = some dZ := alloc_at rfl
        have HN := Lib.hid hN
        have HK := Lib.hid (And.intro hk' (And.intro hkeys (And.intro hmet (And.intro hD hp'))))
        have HWr := Lib.hid hWr
        clear hN hk' hkeys hmet hD hp' hWr hbi
        go_upto_region 4 with ((with_reducible apply wp_storeD bz rfl); (rfl); (rfl); (rfl); (rfl); intro w2 b02 g2 z2)
        have hmm := @run_makeMap Try.prog
        have hN2 := (HN.out.below hpl (bal0 wr dZ) HN.out.size).grown hpl g2 (fun i e => by cases e; exact HN.out.size)
        obtain ⟨g6, hg6⟩ : ∃ g6, g6 = wr.heap.size := ⟨_, rfl⟩
        have hz6 : w2.heap.size = g6 + 1 := by rw [z2, hg6]; simp
        have hoff : ∀ j, j < g6 → w2.heap[j]? = wr.heap[j]? := fun j hj => (g2.block j (by simp; omega) (fun e => by cases e; omega)).trans (Below.heap_alloc _ _ _ (by omega))
        have hp2 : w2.heap[p]? = some (b.bk deed owner now') := (hoff p (by omega)).trans HK.out.2.2.2.2
        have hqr : q < g6 := by have := HN.out.size; omega
        have cq2 : w2.cell? ⟨q, 0, none⟩ = some (.pointer (some ⟨p, 0, none⟩)) := blk1 ((hoff q hqr).trans (HN.out.blk HQ.out.1 hqp))
        obtain ⟨-, -, -, -, -, -, -, p72⟩ := blkB hp2
        have f72 := frz hp2 7
        have hN3 := hN2.set (k : Int)
        have hp3 := bk_set hp2 (k : Int)
        have HZ := Lib.hid (And.intro hg6 hz6)
        have HO := Lib.hid hoff
        rw [← hg6] at b02 ⊢
        have hpg : p < g6 := by rw [hg6]; exact hplr
        clear hoff hz6 hg6 z2 g2 bz cq f7 p7 hN2 c0 c1 c2 c3 c4 c5 c6 c7 c8 c9 c10 c11 hplr hp2
        go_upto_region 5 with (fail)
        obtain ⟨w3, hw3⟩ : ∃ w3, w3 = w2.setCell ⟨p, 7, none⟩ (Value.int IntKind.i64 (k : Int)) := ⟨_, rfl⟩
        have hz3 : w3.heap.size = g6 + 1 := by rw [hw3, World.size_setCell]; exact HZ.out.2
        have hoff3 : ∀ j, j < g6 → j ≠ p → w3.heap[j]? = wr.heap[j]? := fun j hj hjp => by rw [hw3, Below.heap_setCell _ ⟨p, 7, none⟩ _ _ hjp]; exact HO.out j hj
        have b03 : w3.heap[g6]? = some (dObj d) := by rw [hw3, Below.heap_setCell _ ⟨p, 7, none⟩ _ _ (show g6 ≠ p by omega)]; exact b02
        rw [← hw3] at hN3 hp3 ⊢
        have HW3 := Lib.hid (And.intro hN3 (And.intro hp3 (And.intro hoff3 (And.intro b03 hz3))))
        clear hw3 hN3 hp3 hoff3 b03 hz3 cq2 p72 f72 b02
        go_upto_region 6 with (fail)
        obtain ⟨w4, hw4⟩ : ∃ w4, w4 = (w3.alloc (Obj.map #[] 0)).alloc (Obj.cells #[Value.map (some w3.heap.size)] 187) := ⟨_, rfl⟩
        have hz4 : w4.heap.size = g6 + 3 := by rw [hw4]; simp [HW3.out.2.2.2.2]
        have hoff4 : ∀ j, j < g6 + 1 → w4.heap[j]? = w3.heap[j]? := fun j hj => by
          have := HW3.out.2.2.2.2
          rw [hw4, Below.heap_alloc _ _ _ (by simp; omega), Below.heap_alloc _ _ _ (by omega)]
        have hM2 : MetH w4 (g6 + 1) [] := metH_empty (clock := 0) (by rw [hw4, ← HW3.out.2.2.2.2]; exact hblk_alloc (alloc_at rfl) _)
        have b7 : w4.heap[g6 + 2]? = some (Obj.cells #[.map (some (g6 + 1))] 187 (0, 0)) := by rw [hw4, ← HW3.out.2.2.2.2]; exact alloc_at (by simp [HW3.out.2.2.2.2])
        have hN4 : NowIn p (b.bk deed owner) W w4 := HW3.out.1.then hpl (by rw [hw4]; rfl) (by rw [hw4]; rfl) (by rw [hw4]; rfl) (by rw [hz4]; have := HN.out.size; have := HZ.out.1; omega) (fun j hj => hoff4 j (by have := HN.out.size; have := HZ.out.1; omega))
        have hMg : M < g6 := by have := HK.out.2.2.1.lt; have := HZ.out.1; omega
        have hMp : M ≠ p := fun e => by obtain ⟨es, c, h1, _⟩ := HK.out.2.2.1; rw [e, HK.out.2.2.2.2] at h1; cases h1
        have hDg : D < g6 := by have := heap_lt HK.out.2.2.2.1; have := HZ.out.1; omega
        have hDp : D ≠ p := fun e => by have h1 := HK.out.2.2.2.1; rw [e, HK.out.2.2.2.2] at h1; cases h1
        have hm4 : MetH w4 M K := HK.out.2.2.1.keep ((hoff4 M (by omega)).trans (HW3.out.2.2.1 M hMg hMp))
        have hD4 : w4.heap[D]? = some (.map (doesM p) 6) := ((hoff4 D (by omega)).trans (HW3.out.2.2.1 D hDg hDp)).trans HK.out.2.2.2.1
        have hd4 : w4.heap[g6]? = some (dObj d) := (hoff4 g6 (by omega)).trans HW3.out.2.2.2.1
        have hp4 : w4.heap[p]? = some (b.bk deed owner k) := (hoff4 p (by omega)).trans HW3.out.2.1
        have hz34 := HW3.out.2.2.2.2
        rw [← hw4, hz34]
        have HM4 := Lib.hid (And.intro hM2 (And.intro b7 (And.intro hN4 (And.intro hm4 (And.intro hD4 (And.intro hd4 (And.intro hp4 (And.intro hz4 (And.intro hMg (And.intro hDg (And.intro hMp hDp)))))))))))
        clear hw4 hz4 hoff4 hM2 b7 hN4 hD4 hd4 hp4 hz34 hMg hMp hDg hDp hmm HW3
        go_wp2_with (refine wp_rangeH rfl _ rfl M K rfl hm4 ?_; intro wI hI hgI hzI)
        obtain ⟨r, hr⟩ : ∃ r, r = w4.heap.size := ⟨_, rfl⟩
        rw [← hr] at hI ⊢
        have HI0 := Lib.hid (And.intro hr (And.intro hI (And.intro hgI hzI)))
        clear hI hgI hzI hr hm4
        go_simp
        obtain ⟨wo, rfl⟩ : ∃ wo : World, wo = wr := ⟨_, rfl⟩
        obtain ⟨go, rfl⟩ : ∃ go : Nat, go = gk := ⟨_, rfl⟩
        go_loopg [] K.length (fun g wi => InnR w4 wi (g6 + 1) M r K (succ b.t b.l (passI deed owner k) d) g)
        case atStart =>
          refine ⟨K, [], [], rfl, by simp, HI0.out.2.1, HM4.out.1.keep (HI0.out.2.2.1.block _ (by have := HM4.out.2.2.2.2.2.2.2.1; omega) (fun e => by cases e)), fun x => by simp, HI0.out.2.2.1.os, HI0.out.2.2.1.tape, HI0.out.2.2.1.output, Nat.le_of_eq HI0.out.2.2.2.symm, fun j hj _ => HI0.out.2.2.1.block j hj (fun e => by cases e)⟩
        case round =>
          obtain ⟨L, done, K2, rfl, hperm, hI, hm2, hk2, ho, ht, hu, hsz, hfar⟩ := hrel
          have HR := Lib.hid (And.intro hperm (And.intro hI (And.intro hm2 (And.intro hk2 (And.intro ho (And.intro ht (And.intro hu (And.intro hsz hfar))))))))
          clear hperm hm2 hk2 ho ht hu hsz hfar
          rcases run_nextH hI 0 with ⟨hL, hrun⟩ | ⟨x, L', wn, hp, hx, hrun, hi, hgn, hzn, hen⟩
          · have HL := Lib.hid hL
            clear hL hI
            have hS2 := HM4.out.2.2.2.2.2.2.2.1
            have b7r := blk1 ((HR.out.2.2.2.2.2.2.2.2 (g6 + 1 + 1) (by omega) (by omega)).trans HM4.out.2.1)
            clear hS2
            go_wp2_with fail
            go_roundg (go - 1)
            case measure => have := HK.out.1; omega
            case rel =>
              have hS2 := HM4.out.2.2.2.2.2.2.2.1
              have hgw := HZ.out.1
              have hNs := HN.out.size
              have hpe := HR.out.1
              rw [HL.out, List.append_nil] at hpe
              refine ⟨k + 1, g6 + 1, K2, by have := HK.out.1; omega, by have := HW.out.2.1.d6; rw [IntWalk.wrap64_in _ (by omega)]; push_cast; rfl, rfl, by omega, HR.out.2.2.1, fun y => ?_, ?_, ?_⟩
              · rw [HR.out.2.2.2.1 y, endsTo_mem hdk]
                constructor
                · rintro ⟨h, hh, hy⟩
                  exact ⟨h, (HK.out.2.1 h).1 (hpe.mem_iff.2 hh), hy⟩
                · rintro ⟨h, hh, hy⟩
                  exact ⟨h, hpe.mem_iff.1 ((HK.out.2.1 h).2 hh), hy⟩
              · exact HM4.out.2.2.1.then hpl HR.out.2.2.2.2.1 HR.out.2.2.2.2.2.1 HR.out.2.2.2.2.2.2.1 (by have := HR.out.2.2.2.2.2.2.2.1; omega) (fun j hj => HR.out.2.2.2.2.2.2.2.2 j (by omega) (by omega))
              · exact (HR.out.2.2.2.2.2.2.2.2 D (by have := HM4.out.2.2.2.2.2.2.2.2.2.1; omega) (by have := HM4.out.2.2.2.2.2.2.2.2.2.1; omega)).trans HM4.out.2.2.2.2.1
          · have HNX := Lib.hid (And.intro hp (And.intro hi (And.intro hgn hzn)))
            have hxl := hx.1
            have hkd := hdi.k
            have hlk0 := fun (w : World) (h : w.heap[D]? = some (.map (doesM p) 6)) => look_kind (p := p) h hkd.1 hkd.2
            have hent : ∀ (args : Array Value) (w : World), (callFunc (kf d.kind) args).run Try.prog w = .ok (.enter (kf d.kind) args) w := kf_enters d.kind hkd
            clear hp hi hgn hI hzn
            obtain ⟨gx, hgx⟩ : ∃ gx, gx = wn.heap.size := ⟨_, rfl⟩
            have bz : (wn.alloc (.cells #[.int .i64 0, .int .i64 0, .int .i64 0, .int .i64 0, .int .i64 0, .int .i64 0, .int .i64 0, .int .i64 0, .int .i64 0, .int .i64 0, .int .i64 0, .int .i64 0, .int .i64 0, .int .i64 0, .int .i64 0] 126)).heap[wn.heap.size]? = _ := alloc_at rfl
            rw [show hv x = Value.agg (hcs x) from rfl] at hrun hen
            go_upto_region 9 with ((with_reducible apply wp_storeH bz rfl hxl); (rfl); (rfl); (rfl); (rfl); intro w5 b05 g5 z5)
            rw [← hgx] at b05 ⊢
            have HGX := Lib.hid hgx
            clear hgx
            go_simp
            have hgx := HGX.out
            have hgx4 : w4.heap.size + 1 ≤ gx := by rw [hgx, HNX.out.2.2.2]; exact HR.out.2.2.2.2.2.2.2.1
            have hrr := HI0.out.1
            have h4z := HM4.out.2.2.2.2.2.2.2.1
            have hf5n : ∀ j, j < gx → w5.heap[j]? = wn.heap[j]? := fun j hj => (g5.block j (by simp; omega) (fun e => by cases e; omega)).trans (Below.heap_alloc _ _ _ (by omega))
            have hf5 : ∀ j, j < w4.heap.size → j ≠ g6 + 1 → w5.heap[j]? = w4.heap[j]? := fun j hj hne =>
              ((hf5n j (by omega)).trans (HNX.out.2.2.1.block j (by have := HR.out.2.2.2.2.2.2.2.1; omega) (fun e => by cases e; omega))).trans (HR.out.2.2.2.2.2.2.2.2 j hj hne)
            have hd5 : w5.heap[g6]? = some (dObj d) := (hf5 g6 (by omega) (by omega)).trans HM4.out.2.2.2.2.2.1
            have hD5 : w5.heap[D]? = some (.map (doesM p) 6) := (hf5 D (by have := HM4.out.2.2.2.2.2.2.2.2.2.1; omega) (by have := HM4.out.2.2.2.2.2.2.2.2.2.1; omega)).trans HM4.out.2.2.2.2.1
            have hp5 : w5.heap[p]? = some (b.bk deed owner k) := (hf5 p (by omega) (by omega)).trans HM4.out.2.2.2.2.2.2.1
            have b75 : w5.heap[g6 + 1 + 1]? = some (Obj.cells #[.map (some (g6 + 1))] 187 (0, 0)) := (hf5 (g6 + 2) (by omega) (by omega)).trans HM4.out.2.1
            have hm5 : MetH w5 (g6 + 1) K2 := HR.out.2.2.1.keep ((hf5n _ (by omega)).trans (HNX.out.2.2.1.block _ (by have := HR.out.2.2.2.2.2.2.2.1; omega) (fun e => by cases e; omega)))
            have hi5 : IterH w5 M r K L' := HNX.out.2.1.keep (hf5n M (by have := HM4.out.2.2.2.2.2.2.2.2.1; omega)) (hf5n r (by omega))
            have hxK : x ∈ K := HR.out.1.mem_iff.2 (List.mem_append.2 (.inr (HNX.out.1.mem_iff.2 List.mem_cons_self)))
            have hok := HW.out.2.1
            have hxB : HBd 1000 x := (endsTo_bd hok.f3 hok.n5 hok.rb hok.dI k x ((HK.out.2.1 x).1 hxK)).mono (by have := hok.d6; omega)
            have hN5 : NowIn p (b.bk deed owner) W w5 := HM4.out.2.2.1.then hpl
              (by rw [g5.os]; exact HNX.out.2.2.1.os.trans HR.out.2.2.2.2.1) (by rw [g5.tape]; exact HNX.out.2.2.1.tape.trans HR.out.2.2.2.2.2.1) (by rw [g5.output]; exact HNX.out.2.2.1.output.trans HR.out.2.2.2.2.2.2.1)
              (by rw [z5]; simp; have := HN.out.size; have := HZ.out.1; omega) (fun j hj => hf5 j (by have := HN.out.size; have := HZ.out.1; omega) (by have := HN.out.size; have := HZ.out.1; omega))
            have hB5 := (HW.out.1.now hN5).book hp5
            have hlk := hlk0 w5 hD5
            obtain ⟨d0, d1, d2, d3, d4, d5, d6, d7, d8, d9, d10, d11⟩ := blkD hd5
            have hos5 : w5.os = w4.os := by rw [g5.os]; exact HNX.out.2.2.1.os.trans HR.out.2.2.2.2.1
            have htp5 : w5.tape = w4.tape := by rw [g5.tape]; exact HNX.out.2.2.1.tape.trans HR.out.2.2.2.2.2.1
            have hou5 : w5.output = w4.output := by rw [g5.output]; exact HNX.out.2.2.1.output.trans HR.out.2.2.2.2.2.2.1
            have hz5 : w4.heap.size + 1 ≤ w5.heap.size := by rw [z5]; simp; omega
            have hMS : M ≠ g6 + 1 := by have := HM4.out.2.2.2.2.2.2.2.2.1; omega
            have hrS : r ≠ g6 + 1 := by omega
            have HX5 := Lib.hid (And.intro (Ask.mk b75 hm5 hxB hdi hok.f3) (And.intro hB5 (And.intro hi5 (And.intro hf5 (And.intro hN5 (And.intro hgx4 (And.intro trivial (And.intro hMS (And.intro hrS (And.intro hos5 (And.intro htp5 (And.intro hou5 hz5))))))))))))
            clear hos5 htp5 hou5 hz5 hMS hrS hlk0 hD5 hd5 hp5 b75 hm5 hi5 hxB hN5 hB5 hf5 hf5n hxK g5 z5 hgx4 hrr h4z hok bz hrun hen hgx
            go_wp2_with (first
              | ((with_reducible apply wp_loadH b05 hxl); (rfl); (rfl); (rfl))
              | (go_at_fn (kf d.kind); refine (deed_any p b.t b.A b.c b.l b.vk b.vh b.vd deed owner k x d b.ks.length (g6 + 1 + 1) (g6 + 1) K2 _ HX5.out.1 HX5.out.2.1).mono ?_; rintro e w6 ⟨rfl, hP6⟩))
            go_roundg L'.length
            case measure => rw [HNX.out.1.length_eq]; simp
            case rel =>
              have hne := HX5.out.2.2.2.2.2.2.2
              exact InnR.next HR.out.1 HNX.out.1 hP6 HX5.out.1.hm HX5.out.2.2.1 HR.out.2.2.2.1 hne.1 hne.2.1 hne.2.2.1 hne.2.2.2.1 hne.2.2.2.2.1 hne.2.2.2.2.2 HX5.out.2.2.2.1
      · obtain rfl : k = b.ds.length := by omega
        have hpm : K.Perm (b.ends deed owner) := perm_of_mem hmet.nodup (endsTo_nodup _ _ _ _ _ _ _) hkeys
        have HK := Lib.hid (And.intro hpm (And.intro hmet (And.intro hN hSM)))
        clear hkeys hD hWr hlt hk' hSM HM0 HAD
        go_wp2_with (refine wp_rangeH rfl _ rfl M K rfl hmet ?_; intro wI hI hgI hzI)
        obtain ⟨r, hr⟩ : ∃ r, r = wr.heap.size := ⟨_, rfl⟩
        rw [← hr] at hI ⊢
        have hrW : W.heap.size ≤ r := by rw [hr]; exact HK.out.2.2.1.size
        have hJ0 : J [] wI := now_abides HJ.out.1 HJ.out.2.2 (HK.out.2.2.1.grown hpl hgI (fun i e => by cases e)) ⟨now, HQ.out.2⟩ H0.out
        have HI0 := Lib.hid (And.intro hI (And.intro hrW hJ0))
        clear hI hgI hzI hr hmet hN hJ0 hrW
        go_simp
        obtain ⟨wo, rfl⟩ : ∃ wo : World, wo = wr := ⟨_, rfl⟩
        obtain ⟨go, rfl⟩ : ∃ go : Nat, go = gk := ⟨_, rfl⟩
        go_loopg [] K.length (fun g wi => ∃ L done, g = L.length ∧ K.Perm (done ++ L) ∧ IterH wi M r K L ∧ J done wi)
        case atStart => exact ⟨K, [], rfl, by simp, HI0.out.1, HI0.out.2.2⟩
        case round =>
          obtain ⟨L, done, rfl, hperm, hI, hJd⟩ := hrel
          have HR := Lib.hid (And.intro hperm hJd)
          clear hperm hJd
          rcases run_nextH hI 0 with ⟨hL, hrun⟩ | ⟨x, L', wn, hp, hx, hrun, hi, hgn, hzn, hen⟩
          · have HL := Lib.hid hL
            clear hL hI
            go_wp2_with fail
            go_end0
            have hpe := HR.out.1
            rw [HL.out, List.append_nil] at hpe
            exact ⟨⟨_, rfl⟩, .inl ⟨done, hpe.symm.trans HK.out.1, HR.out.2⟩⟩
          · have hJn : J done wn := HJ.out.1 _ _ _ (some r) HR.out.2 hgn (fun i e => by cases e; exact ⟨HI0.out.2.1, by obtain ⟨es, cl, si, se, c0, h1, h2, h3, h4, h5, _⟩ := hI; exact ⟨_, h5, rfl⟩⟩)
            have hpx : K.Perm (done ++ [x] ++ L') := by rw [List.append_assoc]; exact HR.out.1.trans (hp.append_left done)
            have HNX := Lib.hid (And.intro hp (And.intro hi (And.intro hpx hJn)))
            have hxl := hx.1
            clear hp hi hgn hI hzn hJn hpx
            have bz : (wn.alloc (.cells #[.int .i64 0, .int .i64 0, .int .i64 0, .int .i64 0, .int .i64 0, .int .i64 0, .int .i64 0, .int .i64 0, .int .i64 0, .int .i64 0, .int .i64 0, .int .i64 0, .int .i64 0, .int .i64 0, .int .i64 0] 126)).heap[wn.heap.size]? = _ := alloc_at rfl
            rw [show hv x = Value.agg (hcs x) from rfl] at hrun hen
            go_upto_region 15 with ((with_reducible apply wp_storeH bz rfl hxl); (rfl); (rfl); (rfl); (rfl); intro w5 b05 g5 z5)
            go_simp
            have hg5 : wn.grownBy w5 none := ⟨g5.os, g5.tape, g5.output, by rw [z5]; simp, fun j hj _ => (g5.block j (by simp; omega) (fun e => by cases e; omega)).trans (Below.heap_alloc _ _ _ hj)⟩
            have hJ5 : J done w5 := HJ.out.1 _ _ _ none HNX.out.2.2.2 hg5 (fun i e => by cases e)
            have hi5 : IterH w5 M r K L' := HNX.out.2.1.keep (hg5.block M HNX.out.2.1.met.lt (fun e => by cases e)) (hg5.block r HNX.out.2.1.lt (fun e => by cases e))
            have hsp : ∃ r, (done ++ [x] ++ r).Perm (b.ends deed owner) := ⟨L', HNX.out.2.2.1.symm.trans HK.out.1⟩
            obtain ⟨fn, tmps, assign, body, hy, hRd⟩ := HY.out done x w5 hJ5 hsp
            have HX5 := Lib.hid (And.intro hi5 hsp)
            clear hJ5 hi5 hsp g5 z5 hg5 bz hrun hen
            obtain ⟨a0, a1, a2, a3, a4, a5, a6, a7, a8, a9, a10, a11, a12, a13, a14, hc15, hcell⟩ := split15 hxl
            obtain ⟨y0, y1, y2, y3, y4, y5, y6, y7, y8, y9, y10, y11, y12, y13, y14⟩ := hcell _ _ b05
            rw [← hc15] at hy
            have HC15 := Lib.hid hc15
            clear hc15 hcell b05
            generalize wn.heap.size = gx at *
            refine (wpIn_wide (n := n)).1 ?_
            gi_wp2
            refine hRd.mono ?_
            rintro e W3 (⟨rfl, hJ3, hk3⟩ | ⟨rfl, hJx3⟩)
            · have hi3 : IterH W3 M r K L' := by
                obtain ⟨es, cl, si, se, c0, h1, h2, h3, h4, h5, h6⟩ := HX5.out.1
                exact ⟨es, cl, si, se, c0, hk3.same _ _ h1 rfl, h2, h3, h4, hk3.same _ _ h5 rfl, h6⟩
              have H3 := Lib.hid (And.intro hi3 hJ3)
              clear hi3 hJ3 hk3
              gi_wp2
              go_wp2
              go_roundg L'.length
              case measure => rw [HNX.out.1.length_eq]; simp
              case rel => exact ⟨L', done ++ [x], rfl, HNX.out.2.2.1, H3.out.1, H3.out.2⟩
            · have H3 := Lib.hid hJx3
              clear hJx3
              gi_wp2
              go_wp2
              refine bodyPost_ret (results_none rfl _ _ _) rfl ?_
              exact ⟨⟨_, rfl⟩, .inr ⟨_, HX5.out.2, H3.out⟩⟩
end Go.Proofs.Ytgnjknihgjdedaa
namespace Go.Proofs.Ytgnjknihgjdedaa
open Go.RowKit Go.MapKept
set_option linter.unusedVariables false
set_option linter.unusedSimpArgs false
attribute [local go_sem] Oper.semAt_some

theorem below_walks {W W' : World} (h : Below W.heap.size W W') : KeepsWalks W W' := ⟨h.size, fun k o hk _ => (h.block k (heap_lt hk)).trans hk⟩
theorem nowIn_own {β : Type} {p : Nat} {O : Int → Obj} {w : World} {B : Nat} (hp : p < w.heap.size) (hB : w.heap.size ≤ B) : OwnFrom B (fun (_ : β) W => NowIn p O w W) :=
  fun _ _ _ _ hs hg hr => hs.grown hp hg fun i e => Nat.le_trans hB (hr i e).1
theorem sp_mem {E pre : List (List Int)} {x : List Int} (h : ∃ r, (pre ++ [x] ++ r).Perm E) : x ∈ E := by obtain ⟨r, hr⟩ := h; exact hr.mem_iff.1 (by simp)
theorem wp_ends {ps : Array Tmp} {assign body : Code} {Q : Exit → Act → World → Prop} {a : Act} {g : Operand} {w w0 wb : World} {p q : Nat} {b : Hb} {deed owner : Int} (hW : Work w0 p b deed owner w) (hb : NowIn p (b.bk deed owner) wb w) (hpb : p < wb.heap.size)
    (hq : w.heap[q]? = some (Obj.cells #[.pointer (some ⟨p, 0, none⟩)] 116 (0, 0))) (hg : a.eval g = .func (.func 107) #[] #[.pointer (some ⟨q, 0, none⟩)]) (hps : ps.size = 1)
    (I : List (List Int) → World → Prop) (Ix : Code → List (List Int) → World → Prop) (hI : OwnFrom w.heap.size I) (hIx : ∀ c, OwnFrom w.heap.size (Ix c)) (hIE : ∀ s A B, I s A → ExN p A B → I s B) (h0 : I [] w)
    (Ax : List Int → Act → World → Prop) (hAx : ∀ x a', OwnFrom w.heap.size (fun (_ : Unit) W => Ax x a' W))
    (hassign : ∀ (l : Nat) (pre : List (List Int)) (x : List Int) (W : World) (K : Act → World → Prop), NowIn p (b.bk deed owner) wb W → I pre W → (∃ r, (pre ++ [x] ++ r).Perm (b.ends deed owner)) →
      (∀ a' W', KeepsFrom w.heap.size W W' → KeepsWalks W W' → NowIn p (b.bk deed owner) wb W' → I pre W' → Ax x a' W' → K a' W') →
      assign.wpIn (Fence.wide.inRound l) 7 Try.prog (Exit.then K (fun _ _ _ => False)) { tmps := (ps.zip #[.agg (hcs x)]).foldl (fun t (p, v) => t.setIfInBounds p v) a.tmps, defers := [] } W)
    (hbody : ∀ (l : Nat) (pre : List (List Int)) (x : List Int) (a' : Act) (W : World), NowIn p (b.bk deed owner) wb W → I pre W → Ax x a' W → (∃ r, (pre ++ [x] ++ r).Perm (b.ends deed owner)) →
      body.wpIn (Fence.wide.inRound l) 7 Try.prog (roundOut w.heap.size (fun s W => NowIn p (b.bk deed owner) wb W ∧ I s W) (fun c s W => NowIn p (b.bk deed owner) wb W ∧ Ix c s W) (pre ++ [x]) W) a' W)
    (hdone : ∀ (D : Nat) (xs : List (List Int)) (W : World), w.heap.size ≤ D → xs.Perm (b.ends deed owner) → NowIn p (b.bk deed owner) wb W → I xs W → W.heap[D]? = some (.deferred (some [])) → Q .normal { a with defers := { target := .collected D, args := #[] } :: a.defers } W)
    (hstop : ∀ (D : Nat) (c : Code) (pre : List (List Int)) (W : World), w.heap.size ≤ D → (∃ r, (pre ++ r).Perm (b.ends deed owner)) → NowIn p (b.bk deed owner) wb W → Ix c pre W → W.heap[D]? = some (.deferred (some [])) → c.wp Try.prog Q { a with defers := { target := .collected D, args := #[] } :: a.defers } W) :
    (Code.rangeFunc g ps assign body).wp Try.prog Q a w := by
  have hpl := hW.lt
  refine (wpIn_wide (n := 9)).1 ?_
  refine wpIn_rangeE rfl (by omega) (gf := 107) (lb := #[.pointer (some ⟨q, 0, none⟩)]) hg trivial (enters_of Try.func107 (by kernel_rfl) rfl)
    (ends_it 8 (by omega) w0 p q b deed owner w hW hq) ExN.others (fun _ => hps.symm)
    (fun s W => NowIn p (b.bk deed owner) wb W ∧ I s W) (fun c s W => NowIn p (b.bk deed owner) wb W ∧ Ix c s W)
    (OwnFrom.and (nowIn_own hpb hb.size) hI) (fun c => OwnFrom.and (nowIn_own hpb hb.size) (hIx c)) (fun s A B h hx => ⟨by obtain ⟨i, rfl⟩ := hx; exact h.1.set i, hIE s A B h.2 hx⟩)
    ⟨hb, h0⟩ Ax hAx
    (fun l pre x W K hi hsp hK => hassign l pre x W K hi.1 hi.2 hsp fun a' W' k1 k2 k3 k4 k5 => hK a' W' k1 k2 ⟨k3, k4⟩ k5)
    (fun l pre x a' W hi hax hsp => hbody l pre x a' W hi.1 hi.2 hax hsp)
    (fun D xs W hD hS hi hd => hdone D xs W hD hS hi.1 hi.2 hd)
    (fun D c pre W hD hS hi hd => wpIn_wide.2 (hstop D c pre W hD hS hi.1 hi.2 hd))
theorem NowIn.undo {p : Nat} {O : Int → Obj} {w W : World} {D : Nat} (h : NowIn p O w W) (hp : p < w.heap.size) (hD : w.heap.size ≤ D) (o : Obj) : NowIn p O w (W.putObj D o) :=
  h.grown hp (grownBy_putObj' W D o) (fun i e => by cases e; exact hD)
set_option maxRecDepth 100000 in
theorem ends_any (p : Nat) (w : World) :
    Calls Try.prog 96 #[.pointer (some ⟨p, 0, none⟩)] w fun e w' => e = .returned (.func (.func 107) #[] #[.pointer (some ⟨w.heap.size, 0, none⟩)]) ∧ w' = w.alloc (.cells #[.pointer (some ⟨p, 0, none⟩)] 116) := by
  go_enter Try.func96, Try.ntmps96
  go_wp2
  go_ret
  exact ⟨rfl, rfl⟩

set_option maxRecDepth 100000 in
set_option maxHeartbeats 1000000 in
theorem truth_any (w0 : World) (p : Nat) (b : Hb) (deed owner : Int) (w : World) (hW : Work w0 p b deed owner w) :
    Calls Try.prog 57 #[.pointer (some ⟨p, 0, none⟩)] w fun e w' => e = .returned (.bool (!decide (b.ends deed owner = []))) ∧ NowIn p (b.bk deed owner) w w' := by
  have hpl := hW.lt
  refine (callsIn_wide (n := 9)).1 ?_
  refine callsIn_of_wp_marks Try.func57 rfl trivial ?_ rfl
  simp only [Try.ntmps57, List.size_toArray, List.length_cons, List.length_nil, Nat.reduceAdd, Nat.reduceSub, Array.replicate_succ, Array.replicate_zero, List.push_toArray, List.append_toArray, List.nil_append, List.cons_append]
  refine wpIn_wide.2 ?_
  go_wp2_with (go_at_call 96; refine (ends_any p _).mono ?_; rintro e w' ⟨rfl, rfl⟩)
  try go_step3
  go_wp2_with (go_at_call 96; refine (ends_any p _).mono ?_; rintro e w' ⟨rfl, rfl⟩)
  try go_step3
  go_wp2_with (go_at_call 96; refine (ends_any p _).mono ?_; rintro e w' ⟨rfl, rfl⟩)
  obtain ⟨r, hr⟩ : ∃ r, r = w.heap.size := ⟨_, rfl⟩
  obtain ⟨w1, hw1⟩ : ∃ w1, w1 = (w.alloc (Obj.cells #[Value.bool false] 4)).alloc (Obj.cells #[Value.pointer (some ⟨p, 0, none⟩)] 116) := ⟨_, rfl⟩
  have br : w1.heap[r]? = some (Obj.cells #[Value.bool false] 4 (0, 0)) := by rw [hw1, hr]; exact hblk_alloc (alloc_at rfl) _
  have bq : w1.heap[r + 1]? = some (Obj.cells #[Value.pointer (some ⟨p, 0, none⟩)] 116 (0, 0)) := by rw [hw1, hr]; exact alloc_at (by simp)
  have hB1 : Below w.heap.size w w1 := by rw [hw1]; exact bal (bal0 w _) (Nat.le_refl _) _
  have hz1 : r + 1 < w1.heap.size := heap_lt bq
  have hpr : p < r := by omega
  have HW := Lib.hid (And.intro hW hB1)
  rw [← hw1, ← hr]
  have HR := Lib.hid hr
  clear hw1 hr hW hB1
  refine wp_ends (HW.out.1.below HW.out.2 (Nat.le_refl _)) (NowIn.of_below HW.out.2 HW.out.1.hp (Nat.le_refl _)) hpl bq rfl rfl
    (fun pre W => pre = [] ∧ W.heap[r]? = some (Obj.cells #[Value.bool false] 4 (0, 0))) (fun c pre W => c = .exit 0 ∧ pre ≠ [] ∧ W.heap[r]? = some (Obj.cells #[Value.bool true] 4 (0, 0)))
    (fun s A B row hs hg hr => ⟨hs.1, blk_kept hs.2 rfl hg (fun i e => (hr i e).2)⟩) (fun c s A B row hs hg hr => ⟨hs.1, hs.2.1, blk_kept hs.2.2 rfl hg (fun i e => (hr i e).2)⟩) (fun s A B hs hx => ⟨hs.1, by obtain ⟨i, rfl⟩ := hx; exact (Below.heap_setCell _ ⟨p, 7, none⟩ _ _ (show r ≠ p by omega)).trans hs.2⟩) ⟨rfl, br⟩
    (fun x a' W => a' = { tmps := #[.pointer (some ⟨p, 0, none⟩), undef, .bool false, .pointer (some ⟨r, 0, none⟩), .pointer (some ⟨p, 0, none⟩), .func (.func 107) #[] #[.pointer (some ⟨r + 1, 0, none⟩)], .agg (hcs x), undef], defers := [] })
    (fun x a' s A B row hs hg hr => hs) ?assign ?body ?done ?stop
  case assign =>
    intro l pre x W K hN hI hx hK
    gi_wp2
    exact hK _ W (KeepsFrom.refl _ _) (KeepsWalks.refl _) hN hI (by simp)
  case body =>
    rintro l pre x a' W hN hI rfl hx
    have c0 := blk1 hI.2
    have f0 := frz hI.2 0
    have HN := Lib.hid (And.intro hN hI)
    clear hN hI hx
    gi_wp2
    have hpp := heap_lt HN.out.2.2
    refine ⟨(KeepsOthers.setCell _ _ _).from _, ?_, rfl, by simp, ?_⟩
    · have hrr := HR.out
      exact HN.out.1.then hpl rfl rfl rfl (by simpa using HN.out.1.size) (fun k hk => Below.heap_setCell _ ⟨r, 0, none⟩ _ _ (show k ≠ r by omega))
    · show (W.setCell ⟨r, 0, none⟩ _).heap[r]? = _
      rw [set_blk HN.out.2.2]
      simp
  case done =>
    rintro D xs W hD hS hN hI hd
    have c0 := blk1 hI.2
    have HN := Lib.hid (And.intro hN (And.intro hS hI.1))
    clear hN hS hI
    go_wp2
    rw [Exit.noGoto_ret]
    refine ⟨by simp, .inl ⟨_, _, rfl, run_takeDeferred hd, ?_⟩⟩
    refine ⟨_, results_tmp rfl _ _ _, ?_, ?_⟩
    · have h := HN.out.2.1
      rw [HN.out.2.2] at h
      rw [h.nil_eq.symm]
      rfl
    · exact HN.out.1.undo hpl (by have := HW.out.2.size; omega) _
  case stop =>
    rintro D c pre W hD hS hN ⟨rfl, hne, hI⟩ hd
    have c0 := blk1 hI
    have HN := Lib.hid (And.intro hN (And.intro hS hne))
    clear hN hS hI hne
    go_wp2
    rw [Exit.noGoto_ret]
    refine ⟨by simp, .inl ⟨_, _, rfl, run_takeDeferred hd, ?_⟩⟩
    refine ⟨_, results_tmp rfl _ _ _, ?_, ?_⟩
    · obtain ⟨r, hr⟩ := HN.out.2.1
      have : b.ends deed owner ≠ [] := fun e => by
        rw [e] at hr
        have := hr.length_eq
        simp at this
        exact HN.out.2.2 this.1
      rw [decide_eq_false this]
      rfl
    · exact HN.out.1.undo hpl (by have := HW.out.2.size; omega) _
end Go.Proofs.Ytgnjknihgjdedaa
