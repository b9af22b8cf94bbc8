/- TopCounted 7: HdN, HdC, HdO. -/
import Derived.Test.YtgnjknihgjdedaaTc06
import Derived.RangeFuncKeeps
namespace Go.Proofs.Ytgnjknihgjdedaa
open Go.RowKit Go.MapKept
set_option linter.unusedVariables false
set_option linter.unusedSimpArgs false

structure PutsH (w w' : World) (M : Nat) (L : List (List Int)) : Prop where
  gr : w.grownBy w' (some M)
  met : ∀ K, MetH w M K → ∃ K', MetH w' M K' ∧ ∀ q, q ∈ K' ↔ q ∈ K ∨ q ∈ L
theorem PutsH.refl (w : World) (M : Nat) : PutsH w w M [] := ⟨World.grownBy.refl w _, fun K h => ⟨K, h, fun q => by simp⟩⟩
theorem PutsH.trans {a b c : World} {M : Nat} {L L' : List (List Int)} (h : PutsH a b M L) (k : PutsH b c M L') : PutsH a c M (L ++ L') :=
  ⟨h.gr.trans k.gr, fun K hK => by
    obtain ⟨K1, h1, h2⟩ := h.met K hK
    obtain ⟨K2, h3, h4⟩ := k.met K1 h1
    exact ⟨K2, h3, fun q => by rw [h4, h2, List.mem_append, or_assoc]⟩⟩
theorem PutsH.quiet {a b c : World} {M : Nat} {L : List (List Int)} (h : PutsH a b M L) (hM : M < a.heap.size) (hs : a.heap.size ≤ c.heap.size) (ho : c.os = b.os) (ht : c.tape = b.tape) (hu : c.output = b.output)
    (hk : ∀ k, k < a.heap.size → c.heap[k]? = b.heap[k]?) : PutsH a c M L :=
  ⟨⟨ho.trans h.gr.os, ht.trans h.gr.tape, hu.trans h.gr.output, hs, fun k hlt hne => (hk k hlt).trans (h.gr.block k hlt hne)⟩, fun K hK => by
    obtain ⟨K1, h1, h2⟩ := h.met K hK
    exact ⟨K1, h1.keep (hk M hM), h2⟩⟩
theorem PutsH.size {a b : World} {M : Nat} {L : List (List Int)} (h : PutsH a b M L) : a.heap.size ≤ b.heap.size := h.gr.size
theorem PutsH.below {a b c : World} {M B : Nat} {L : List (List Int)} (h : PutsH a b M L) (hM : M < a.heap.size) (hb : Below B b c) (hB : a.heap.size ≤ B) : PutsH a c M L :=
  h.quiet hM (Nat.le_trans h.size hb.size) hb.os hb.tape hb.output (fun k hk => hb.block k (by omega))
theorem PutsH.grown {a b c : World} {M g : Nat} {L : List (List Int)} (h : PutsH a b M L) (hM : M < a.heap.size) (hb : b.grownBy c (some g)) (hg : a.heap.size ≤ g) : PutsH a c M L :=
  h.quiet hM (Nat.le_trans h.size hb.size) hb.os hb.tape hb.output (fun k hk => hb.block k (by have := h.size; omega) (fun e => by cases e; omega))
theorem PutsH.blk {a b : World} {M k : Nat} {L : List (List Int)} {o : Obj} (h : PutsH a b M L) (hk : a.heap[k]? = some o) (hne : k ≠ M) : b.heap[k]? = some o := (h.gr.block k (heap_lt hk) (fun e => hne (by cases e; rfl))).trans hk
theorem map_hv_inj : ∀ {K K0 : List (List Int)}, K.map hv = K0.map hv → K = K0
  | [], [], _ => rfl
  | [], _ :: _, h => by simp at h
  | _ :: _, [], h => by simp at h
  | x :: K, y :: K0, h => by
    simp only [List.map_cons, List.cons.injEq] at h
    rw [hv_inj h.1, map_hv_inj h.2]
theorem MetH.uniq {w : World} {M : Nat} {K K0 : List (List Int)} (h : MetH w M K) (h0 : MetH w M K0) : K = K0 := by
  obtain ⟨es, c, h1, h2, h3, h4⟩ := h
  obtain ⟨es', c', h1', h2', h3', h4'⟩ := h0
  rw [h1] at h1'
  cases h1'
  exact map_hv_inj ((keys_of h3).symm.trans (keys_of h3'))
theorem MetH.ne {w : World} {M k : Nat} {K : List (List Int)} {cs : Array Value} {t : TypeId} {x : Nat × Nat} (h : MetH w M K) (hk : w.heap[k]? = some (.cells cs t x)) : k ≠ M := by
  obtain ⟨es, c, h1, _⟩ := h
  intro e
  rw [e, h1] at hk
  cases hk
theorem MetH.ne' {w : World} {M : Nat} {a : Addr} {v : Value} {K : List (List Int)} (h : MetH w M K) (hk : w.cell? a = some v) : a.block ≠ M := by
  obtain ⟨es, c, h1, _⟩ := h
  intro e
  unfold World.cell? at hk
  rw [e, h1] at hk
  cases hk
theorem PutsH.cell {a b : World} {M : Nat} {L K : List (List Int)} {p : Addr} {v : Value} (h : PutsH a b M L) (hm : MetH a M K) (hk : a.cell? p = some v) : b.cell? p = some v := by
  have hne := hm.ne' hk
  unfold World.cell? at hk ⊢
  rw [h.gr.block p.block (by
    rcases Nat.lt_or_ge p.block a.heap.size with h' | h'
    · exact h'
    · rw [Array.getElem?_eq_none h'] at hk; cases hk) (fun e => hne (by cases e; rfl))]
  exact hk
theorem PutsH.sl {α : Type} {enc : α → List Value} {sz n : Nat} {A : Option Addr} {l : List α} {a b : World} {M : Nat} {L K : List (List Int)} (h : PutsH a b M L) (hm : MetH a M K) (hs : Sl enc sz a A n l) : Sl enc sz b A n l :=
  hs.keep fun p u hu => h.cell hm hu

theorem wp_loadH {ops : Array Oper} {rest : List Oper} {o : Oper} {a : Act} {w : World} {Q : Exit → Act → World → Prop} {b : Nat} {h : List Int} (hb : w.heap[b]? = some (hObj h)) (hl : h.length = 15)
    (hg : o.guard = none) (x : Operand) (ho : o.op = .load 126 x) (hx : a.eval x = .pointer (some ⟨b, 0, none⟩))
    (hK : wpList Try.prog ops Q rest (a.put o.dst (.agg (hcs h))) w) : wpList Try.prog ops Q (o :: rest) a w :=
  wpList_load_row hg 126 x ho b hx _ (hcs h) _ _ hb Try.underlying126 rfl (by rw [info_hds, hcs_size, hl]) hK
theorem wp_storeH {ops : Array Oper} {rest : List Oper} {o : Oper} {a : Act} {w : World} {Q : Exit → Act → World → Prop} {b : Nat} {h : List Int} {old : Array Value} (hb : w.heap[b]? = some (.cells old 126 (0, 0))) (hold : old.size = 15) (hl : h.length = 15)
    (hg : o.guard = none) (x y : Operand) (ho : o.op = .store 126 x y) (hx : a.eval x = .pointer (some ⟨b, 0, none⟩)) (hy : a.eval y = .agg (hcs h))
    (hK : ∀ w2, w2.heap[b]? = some (hObj h) → w.grownBy w2 (some b) → w2.heap.size = w.heap.size → wpList Try.prog ops Q rest (a.put o.dst undef) w2) : wpList Try.prog ops Q (o :: rest) a w := by
  refine wpList_store_row hg 126 x y ho b (hcs h) hx hy _ old hb (by rw [info_hds, hcs_size, hl]) (by rw [hold, hcs_size, hl]) (hcs_one h) (hK _ (setRow_heap _ _ _ _ _ _ hb) ⟨rfl, rfl, rfl, by simp [World.setRow], fun k hk hne => ?_⟩ (by simp [World.setRow]))
  unfold World.setRow
  rw [Array.getElem?_modify, if_neg (fun e => hne (by rw [e]))]

def dv (d : De) : Value := .agg #[.int .i64 d.kind, .int .i64 d.flock, .int .i64 d.owner, .int .i64 d.other, .int .i64 d.tof, .int .i64 d.many, .int .i64 d.err, .int .i64 d.s.n, .bool d.s.l, .bool d.s.r, .int .i64 d.s.b, .int .i64 d.s.p]
abbrev dObj (d : De) : Obj := .cells #[.int .i64 d.kind, .int .i64 d.flock, .int .i64 d.owner, .int .i64 d.other, .int .i64 d.tof, .int .i64 d.many, .int .i64 d.err, .int .i64 d.s.n, .bool d.s.l, .bool d.s.r, .int .i64 d.s.b, .int .i64 d.s.p] 67 (0, 0)
theorem blkD {w : World} {b : Nat} {d : De} (h : w.heap[b]? = some (dObj d)) : w.cell? ⟨b, 0, none⟩ = some (.int .i64 d.kind) ∧ w.cell? ⟨b, 1, none⟩ = some (.int .i64 d.flock) ∧ w.cell? ⟨b, 2, none⟩ = some (.int .i64 d.owner) ∧ w.cell? ⟨b, 3, none⟩ = some (.int .i64 d.other) ∧
    w.cell? ⟨b, 4, none⟩ = some (.int .i64 d.tof) ∧ w.cell? ⟨b, 5, none⟩ = some (.int .i64 d.many) ∧ w.cell? ⟨b, 6, none⟩ = some (.int .i64 d.err) ∧ w.cell? ⟨b, 7, none⟩ = some (.int .i64 d.s.n) ∧ w.cell? ⟨b, 8, none⟩ = some (.bool d.s.l) ∧
    w.cell? ⟨b, 9, none⟩ = some (.bool d.s.r) ∧ w.cell? ⟨b, 10, none⟩ = some (.int .i64 d.s.b) ∧ w.cell? ⟨b, 11, none⟩ = some (.int .i64 d.s.p) := by simp [World.cell?, h]

set_option maxRecDepth 100000 in
theorem then_any (x : List Int) (hx : HOk x) (B M : Nat) (K : List (List Int)) (w : World) (hb : w.heap[B]? = some (.cells #[.map (some M)] 187 (0, 0))) (hm : MetH w M K) :
    Calls Try.prog 110 #[.agg (hcs x), .pointer (some ⟨B, 0, none⟩)] w fun e w' => e = .returned (.tuple #[]) ∧ PutsH w w' M [x] := by
  have hB := heap_lt hb
  have hM := hm.lt
  have hl := hx.1
  go_enter Try.func110, Try.ntmps110
  go_upto_region 1 with (fail)
  have b0 : (w.alloc (Obj.cells (hcs x) 126)).heap[w.heap.size]? = some (hObj x) := alloc_at rfl
  have hm1 : MetH (w.alloc (Obj.cells (hcs x) 126)) M K := hm.keep (Below.heap_alloc _ _ _ hM)
  have b1 := blk1 (hblk_alloc hb (Obj.cells (hcs x) 126))
  go_wp2_with (first
    | ((with_reducible apply wp_loadH b0 hl); (rfl); (rfl); (rfl))
    | (at_mapUpdate; refine wp_putH rfl _ _ _ rfl M K x hx rfl rfl rfl hm1 ?_; intro ob K' hlt h1 h2))
  go_end0
  refine ⟨rfl, ⟨rfl, rfl, rfl, by simp, fun k hk hne => ?_⟩, fun K0 hK0 => ?_⟩
  · show ((w.alloc (Obj.cells (hcs x) 126)).heap.setIfInBounds M ob)[k]? = w.heap[k]?
    rw [Array.getElem?_setIfInBounds_ne (fun e => hne (by rw [e]))]
    exact Below.heap_alloc _ _ _ hk
  · obtain rfl := hm.uniq hK0
    exact ⟨K', h1 _ (by show ((w.alloc (Obj.cells (hcs x) 126)).heap.setIfInBounds M ob)[M]? = _; rw [Array.getElem?_setIfInBounds_self_of_lt hlt]), fun q => by rw [h2]; simp⟩

theorem moved_c {h x : List Int} {f o : Nat} {k : Int} {b : Bool} (w : World) (hx : x = hadd h f o k) (hb : b = decide (0 ≤ hget h f o + k)) (hl : h.length = 15) (hf : f < 3) (ho : o < 5) (hg : -1000000 ≤ hget h f o ∧ hget h f o ≤ 1000000) (hk : -1000000 ≤ k ∧ k ≤ 1000000) :
    Calls Try.prog 117 #[.agg (hcs h), .int .i64 f, .int .i64 o, .int .i64 k] w fun e w' => e = .returned (.tuple #[.agg (hcs x), .bool b]) ∧ Below w.heap.size w w' := by
  rw [hx, hb]; exact moved_any h f o k w hl hf ho hg hk
theorem hadd_len {h : List Int} {f o : Nat} {k : Int} (hl : h.length = 15) : (hadd h f o k).length = 15 := by unfold hadd; rw [List.length_set]; exact hl
theorem HOk.of {B : Int} {h : List Int} (hh : HBd B h) (hB : B ≤ 1000000) : HOk h := hh.ok (by omega)
theorem hOk_add {B : Int} {h : List Int} {f o : Nat} {k : Int} (hh : HBd B h) (hB : B ≤ 1000000) (hf : f < 3) (ho : o < 5) (hk : -1000000 ≤ k ∧ k ≤ 1000000) : HOk (hadd h f o k) := by
  have hg := hh.get hf ho
  refine ⟨hadd_len hh.1, fun x hx => ?_⟩
  unfold hadd at hx
  rcases List.mem_or_eq_of_mem_set hx with hx | rfl
  · have := hh.2 x hx; omega
  · omega

theorem then_p {a w : World} {M B : Nat} {L K : List (List Int)} {x : List Int} (hP : PutsH a w M L) (hb : a.heap[B]? = some (.cells #[.map (some M)] 187 (0, 0))) (hm : MetH a M K) (hx : HOk x) :
    Calls Try.prog 110 #[.agg (hcs x), .pointer (some ⟨B, 0, none⟩)] w fun e w' => e = .returned (.tuple #[]) ∧ PutsH a w' M (L ++ [x]) := by
  obtain ⟨K1, h1, h2⟩ := hP.met K hm
  exact (then_any x hx B M K1 w (hP.blk hb (hm.ne hb)) h1).mono fun e w' ⟨he, h⟩ => ⟨he, hP.trans h⟩
theorem gblk {w w' : World} {b k : Nat} {o : Obj} (g : w.grownBy w' (some b)) (h : w.heap[k]? = some o) (hne : k ≠ b) : w'.heap[k]? = some o := (g.block k (heap_lt h) (fun e => hne (by cases e; rfl))).trans h
structure Ask (n nf : Nat) (B M : Nat) (K : List (List Int)) (h : List Int) (d : De) (w : World) : Prop where
  hb : w.heap[B]? = some (.cells #[.map (some M)] 187 (0, 0))
  hm : MetH w M K
  hh : HBd 1000 h
  hd : DeIn n nf d
  hnf : nf ≤ 3

set_option maxRecDepth 100000 in
theorem born_any (p : Value) (h : List Int) (d : De) (n nf : Nat) (B M : Nat) (K : List (List Int)) (w : World) (hA : Ask n nf B M K h d w) (hk : d.kind = 1) :
    Calls Try.prog 111 #[p, .agg (hcs h), dv d, .func (.func 110) #[] #[.pointer (some ⟨B, 0, none⟩)]] w fun e w' => e = .returned (.tuple #[]) ∧ PutsH w w' M [hadd h d.flock.toNat d.owner.toNat d.many] := by
  obtain ⟨hb, hm, hh, hd, hnf⟩ := hA
  have hM := hm.lt
  have hl := hh.1
  obtain ⟨kind, flock, owner, other, tof, many, err, s⟩ := d
  obtain ⟨f, rfl⟩ := Int.eq_ofNat_of_zero_le hd.f.1
  obtain ⟨o, rfl⟩ := Int.eq_ofNat_of_zero_le hd.o.1
  have hf : f < 3 := by have := hd.f.2; dsimp at this; omega
  have ho : o < 5 := by have := hd.o.2; dsimp at this; omega
  have hmy : -1000000 ≤ many ∧ many ≤ 1000000 := by have := hd.m; dsimp at this; omega
  simp only [Int.toNat_natCast]
  obtain ⟨x, hx⟩ : ∃ x, x = hadd h f o many := ⟨_, rfl⟩
  have hxo : HOk x := by rw [hx]; exact hOk_add hh (by omega) hf ho hmy
  have hlx := hxo.1
  have hmv := fun w => moved_c (x := x) w hx rfl hl hf ho (by have := hh.get hf ho; omega) hmy
  rw [← hx]
  have HX := Lib.hid (And.intro hb hm)
  clear hx hd hk hmy hh hb hm
  unfold dv
  go_enter Try.func111, Try.ntmps111
  go_upto_region 1 with (fail)
  obtain ⟨W, hW⟩ : ∃ W, W = (w.alloc (Obj.cells (hcs h) 126)).alloc (dObj ⟨kind, f, o, other, tof, many, err, s⟩) := ⟨_, rfl⟩
  have b0 : W.heap[w.heap.size]? = some (hObj h) := by rw [hW]; exact hblk_alloc (alloc_at rfl) _
  have b1 : W.heap[w.heap.size + 1]? = some (dObj ⟨kind, f, o, other, tof, many, err, s⟩) := by rw [hW]; exact alloc_at (by simp)
  have hP : PutsH w W M [] := by rw [hW]; exact (PutsH.refl w M).below hM (bal (bal0 w _) (Nat.le_refl _) _) (Nat.le_refl _)
  rw [← hW]
  clear hW
  obtain ⟨r, hr⟩ : ∃ r, r = w.heap.size := ⟨_, rfl⟩
  have HR := Lib.hid (show w.heap.size ≤ r by omega)
  rw [← hr] at b0 b1 ⊢
  clear hr
  obtain ⟨d0, d1, d2, d3, d4, d5, d6, d7⟩ := blkD b1
  have h15 := hcs_size h
  go_upto_region 2 with (first
    | ((with_reducible apply wp_loadH b0 hl); (rfl); (rfl); (rfl))
    | (go_at_call 117; refine (hmv _).mono ?_; rintro e w1 ⟨rfl, hb1⟩; have hP1 := hP.below hM hb1 hP.size; have b01 := bheap b0 hb1 (Nat.le_refl _); clear hb1)
    | ((with_reducible apply wp_storeH b01 (h15.trans hl) hlx); (rfl); (rfl); (rfl); (rfl); intro w2 b02 g2 z2; have hP2 := hP1.grown hM g2 HR.out))
  go_wp2_with (first
    | ((with_reducible apply wp_loadH b02 hlx); (rfl); (rfl); (rfl))
    | (go_at_call 110; refine (then_p hP2 HX.out.1 HX.out.2 hxo).mono ?_; rintro e w3 ⟨rfl, hP3⟩))
  go_end0
  exact ⟨rfl, hP3⟩

set_option maxRecDepth 100000 in
theorem sold_any (p : Value) (h : List Int) (d : De) (n nf : Nat) (B M : Nat) (K : List (List Int)) (w : World) (hA : Ask n nf B M K h d w) (hk : d.kind = 2) :
    Calls Try.prog 112 #[p, .agg (hcs h), dv d, .func (.func 110) #[] #[.pointer (some ⟨B, 0, none⟩)]] w fun e w' => e = .returned (.tuple #[]) ∧ PutsH w w' M (match mvd h d.flock.toNat d.owner.toNat (-d.many) with | some x => [hadd x d.flock.toNat d.other.toNat d.many] | none => []) := by
  obtain ⟨hb, hm, hh, hd, hnf⟩ := hA
  have hM := hm.lt
  have hl := hh.1
  obtain ⟨kind, flock, owner, other, tof, many, err, s⟩ := d
  obtain ⟨f, rfl⟩ := Int.eq_ofNat_of_zero_le hd.f.1
  obtain ⟨o, rfl⟩ := Int.eq_ofNat_of_zero_le hd.o.1
  obtain ⟨q, rfl⟩ := Int.eq_ofNat_of_zero_le hd.x.1
  have hf : f < 3 := by have := hd.f.2; dsimp at this; omega
  have ho : o < 5 := by have := hd.o.2; dsimp at this; omega
  have hq : q < 5 := by have := hd.x.2; dsimp at this; omega
  have hmy : 0 ≤ many ∧ many ≤ 1000 := by have := hd.m; dsimp at this; omega
  have hmn : -1000000 ≤ -many ∧ -many ≤ 1000000 := by omega
  simp only [Int.toNat_natCast]
  have hg := hh.get hf ho
  obtain ⟨x, hx⟩ : ∃ x, x = hadd h f o (-many) := ⟨_, rfl⟩
  have hxo : HOk x := by rw [hx]; exact hOk_add hh (by omega) hf ho hmn
  have hlx := hxo.1
  obtain ⟨b, hbb⟩ : ∃ b, b = decide (0 ≤ hget h f o + -many) := ⟨_, rfl⟩
  have hmv := fun w => moved_c (x := x) (b := b) w hx hbb hl hf ho (by omega) hmn
  have hres : mvd h f o (-many) = if b = true then some x else none := by unfold mvd; rw [hbb, hx]; by_cases h0 : 0 ≤ hget h f o + -many <;> simp [h0]
  rw [hres]
  have hxb : b = true → HBd 1000 x := fun e => by rw [hx]; rw [hbb, decide_eq_true_eq] at e; exact hh.add e (by omega) (Int.le_refl _)
  have HX := Lib.hid (And.intro hb (And.intro hm hxb))
  clear hx hd hk hh hb hm hbb hres hxb hg
  unfold dv
  go_enter Try.func112, Try.ntmps112
  go_upto_region 1 with (fail)
  obtain ⟨W, hW⟩ : ∃ W, W = (w.alloc (Obj.cells (hcs h) 126)).alloc (dObj ⟨kind, f, o, q, tof, many, err, s⟩) := ⟨_, rfl⟩
  have b0 : W.heap[w.heap.size]? = some (hObj h) := by rw [hW]; exact hblk_alloc (alloc_at rfl) _
  have b1 : W.heap[w.heap.size + 1]? = some (dObj ⟨kind, f, o, q, tof, many, err, s⟩) := by rw [hW]; exact alloc_at (by simp)
  have hP : PutsH w W M [] := by rw [hW]; exact (PutsH.refl w M).below hM (bal (bal0 w _) (Nat.le_refl _) _) (Nat.le_refl _)
  rw [← hW]
  clear hW
  obtain ⟨r, hr⟩ : ∃ r, r = w.heap.size := ⟨_, rfl⟩
  have HR := Lib.hid (show w.heap.size ≤ r by omega)
  rw [← hr] at b0 b1 ⊢
  clear hr
  obtain ⟨d0, d1, d2, d3, d4, d5, d6, d7⟩ := blkD b1
  go_upto_region 2 with (first
    | ((with_reducible apply wp_loadH b0 hl); (rfl); (rfl); (rfl))
    | (go_at_call 117; refine (hmv _).mono ?_; rintro e w1 ⟨rfl, hb1⟩; have hP1 := hP.below hM hb1 hP.size; have b11 := bheap b1 hb1 (Nat.le_refl _); have bz : (w1.alloc (.cells #[.int .i64 0, .int .i64 0, .int .i64 0, .int .i64 0, .int .i64 0, .int .i64 0, .int .i64 0, .int .i64 0, .int .i64 0, .int .i64 0, .int .i64 0, .int .i64 0, .int .i64 0, .int .i64 0, .int .i64 0] 126)).heap[w1.heap.size]? = _ := alloc_at rfl; clear hb1)
    | ((with_reducible apply wp_storeH bz rfl hlx); (rfl); (rfl); (rfl); (rfl); intro w2 b02 g2 z2; have hP2 := (hP1.below hM (bal0 w1 _) hP1.size).grown hM g2 hP1.size; have b12 := gblk g2 (hblk_alloc b11 _) (Nat.ne_of_lt (heap_lt b11)); have hrr := Nat.le_trans HR.out (Nat.le_of_lt (Nat.lt_of_succ_lt (heap_lt b11)))))
  clear d0 d1 d2 d3 d4 d5 d6 d7 b0 b1 b11 bz
  obtain ⟨g, hg⟩ : ∃ g, g = w1.heap.size := ⟨_, rfl⟩
  rw [← hg] at b02 hrr ⊢
  clear hg g2 z2 hP1
  cases b with
  | false =>
    go_wp2_with fail
    go_end0
    exact ⟨rfl, hP2⟩
  | true =>
    have hxy := HX.out.2.2 rfl
    obtain ⟨y, hy⟩ : ∃ y, y = hadd x f q many := ⟨_, rfl⟩
    have hyo : HOk y := by rw [hy]; exact hOk_add hxy (by omega) hf hq (by omega)
    have hly := hyo.1
    have hmv2 := fun w => moved_c (x := y) w hy rfl hlx hf hq (by have := hxy.get hf hq; omega) (by omega)
    have HY := Lib.hid hy
    clear hy hxy
    obtain ⟨d0, d1, d2, d3, d4, d5, d6, d7⟩ := blkD b12
    have h15 := hcs_size x
    go_upto_region 4 with (first
      | ((with_reducible apply wp_loadH b02 hlx); (rfl); (rfl); (rfl))
      | (go_at_call 117; refine (hmv2 _).mono ?_; rintro e w3 ⟨rfl, hb3⟩; have hP3 := hP2.below hM hb3 hP2.size; have b03 := bheap b02 hb3 (Nat.le_refl _); clear hb3)
      | ((with_reducible apply wp_storeH b03 (h15.trans hlx) hly); (rfl); (rfl); (rfl); (rfl); intro w4 b04 g4 z4; have hP4 := hP3.grown hM g4 hrr))
    go_wp2_with (first
      | ((with_reducible apply wp_loadH b04 hly); (rfl); (rfl); (rfl))
      | (go_at_call 110; refine (then_p hP4 HX.out.1 HX.out.2.1 hyo).mono ?_; rintro e w5 ⟨rfl, hP5⟩))
    go_end0
    exact ⟨rfl, by rw [← HY.out]; exact hP5⟩
set_option maxRecDepth 100000 in
theorem eaten_any (p : Value) (h : List Int) (d : De) (n nf : Nat) (B M : Nat) (K : List (List Int)) (w : World) (hA : Ask n nf B M K h d w) (hk : d.kind = 3) :
    Calls Try.prog 113 #[p, .agg (hcs h), dv d, .func (.func 110) #[] #[.pointer (some ⟨B, 0, none⟩)]] w fun e w' => e = .returned (.tuple #[]) ∧ PutsH w w' M (match mvd h d.flock.toNat d.owner.toNat (-d.many) with | some x => [x] | none => []) := by
  obtain ⟨hb, hm, hh, hd, hnf⟩ := hA
  have hM := hm.lt
  have hl := hh.1
  obtain ⟨kind, flock, owner, other, tof, many, err, s⟩ := d
  obtain ⟨f, rfl⟩ := Int.eq_ofNat_of_zero_le hd.f.1
  obtain ⟨o, rfl⟩ := Int.eq_ofNat_of_zero_le hd.o.1
  obtain ⟨q, rfl⟩ := Int.eq_ofNat_of_zero_le hd.x.1
  have hf : f < 3 := by have := hd.f.2; dsimp at this; omega
  have ho : o < 5 := by have := hd.o.2; dsimp at this; omega
  have hq : q < 5 := by have := hd.x.2; dsimp at this; omega
  have hmy : 0 ≤ many ∧ many ≤ 1000 := by have := hd.m; dsimp at this; omega
  have hmn : -1000000 ≤ -many ∧ -many ≤ 1000000 := by omega
  simp only [Int.toNat_natCast]
  have hg := hh.get hf ho
  obtain ⟨x, hx⟩ : ∃ x, x = hadd h f o (-many) := ⟨_, rfl⟩
  have hxo : HOk x := by rw [hx]; exact hOk_add hh (by omega) hf ho hmn
  have hlx := hxo.1
  obtain ⟨b, hbb⟩ : ∃ b, b = decide (0 ≤ hget h f o + -many) := ⟨_, rfl⟩
  have hmv := fun w => moved_c (x := x) (b := b) w hx hbb hl hf ho (by omega) hmn
  have hres : mvd h f o (-many) = if b = true then some x else none := by unfold mvd; rw [hbb, hx]; by_cases h0 : 0 ≤ hget h f o + -many <;> simp [h0]
  rw [hres]
  have hxb : b = true → HBd 1000 x := fun e => by rw [hx]; rw [hbb, decide_eq_true_eq] at e; exact hh.add e (by omega) (Int.le_refl _)
  have HX := Lib.hid (And.intro hb (And.intro hm hxb))
  clear hx hd hk hh hb hm hbb hres hxb hg
  unfold dv
  go_enter Try.func113, Try.ntmps113
  go_upto_region 1 with (fail)
  obtain ⟨W, hW⟩ : ∃ W, W = (w.alloc (Obj.cells (hcs h) 126)).alloc (dObj ⟨kind, f, o, q, tof, many, err, s⟩) := ⟨_, rfl⟩
  have b0 : W.heap[w.heap.size]? = some (hObj h) := by rw [hW]; exact hblk_alloc (alloc_at rfl) _
  have b1 : W.heap[w.heap.size + 1]? = some (dObj ⟨kind, f, o, q, tof, many, err, s⟩) := by rw [hW]; exact alloc_at (by simp)
  have hP : PutsH w W M [] := by rw [hW]; exact (PutsH.refl w M).below hM (bal (bal0 w _) (Nat.le_refl _) _) (Nat.le_refl _)
  rw [← hW]
  clear hW
  obtain ⟨r, hr⟩ : ∃ r, r = w.heap.size := ⟨_, rfl⟩
  have HR := Lib.hid (show w.heap.size ≤ r by omega)
  rw [← hr] at b0 b1 ⊢
  clear hr
  obtain ⟨d0, d1, d2, d3, d4, d5, d6, d7⟩ := blkD b1
  go_upto_region 2 with (first
    | ((with_reducible apply wp_loadH b0 hl); (rfl); (rfl); (rfl))
    | (go_at_call 117; refine (hmv _).mono ?_; rintro e w1 ⟨rfl, hb1⟩; have hP1 := hP.below hM hb1 hP.size; have b11 := bheap b1 hb1 (Nat.le_refl _); have bz : (w1.alloc (.cells #[.int .i64 0, .int .i64 0, .int .i64 0, .int .i64 0, .int .i64 0, .int .i64 0, .int .i64 0, .int .i64 0, .int .i64 0, .int .i64 0, .int .i64 0, .int .i64 0, .int .i64 0, .int .i64 0, .int .i64 0] 126)).heap[w1.heap.size]? = _ := alloc_at rfl; clear hb1)
    | ((with_reducible apply wp_storeH bz rfl hlx); (rfl); (rfl); (rfl); (rfl); intro w2 b02 g2 z2; have hP2 := (hP1.below hM (bal0 w1 _) hP1.size).grown hM g2 hP1.size; have b12 := gblk g2 (hblk_alloc b11 _) (Nat.ne_of_lt (heap_lt b11)); have hrr := Nat.le_trans HR.out (Nat.le_of_lt (Nat.lt_of_succ_lt (heap_lt b11)))))
  clear d0 d1 d2 d3 d4 d5 d6 d7 b0 b1 b11 bz
  obtain ⟨g, hg⟩ : ∃ g, g = w1.heap.size := ⟨_, rfl⟩
  rw [← hg] at b02 hrr ⊢
  clear hg g2 z2 hP1
  cases b with
  | false =>
    go_wp2_with fail
    go_end0
    exact ⟨rfl, hP2⟩
  | true =>
    go_wp2_with (first
      | ((with_reducible apply wp_loadH b02 hlx); (rfl); (rfl); (rfl))
      | (go_at_call 110; refine (then_p hP2 HX.out.1 HX.out.2.1 hxo).mono ?_; rintro e w5 ⟨rfl, hP5⟩))
    go_end0
    exact ⟨rfl, hP5⟩
end Go.Proofs.Ytgnjknihgjdedaa
namespace Go.Proofs.Ytgnjknihgjdedaa
open Go.RowKit Go.MapKept
set_option linter.unusedVariables false
set_option linter.unusedSimpArgs false

theorem betweenH_any (n lo hi : Int) (w : World) :
    Calls Try.prog 90 #[.int .i64 n, .int .i64 lo, .int .i64 hi] w fun e w' => e = .returned (.bool (btw n lo hi)) ∧ w = w' := by
  by_cases h1 : lo ≤ n <;> by_cases h2 : n ≤ hi
  all_goals
    go_enter Try.func90, Try.ntmps90
    go_wp2
    go_ret
    exact ⟨by simp [btw, h1, h2], rfl⟩
theorem betweenT_any (n lo hi : Int) (w : World) :
    Calls Try.prog 33 #[.int .i64 n, .int .i64 lo, .int .i64 hi] w fun e w' => e = .returned (.bool (btw n lo hi)) ∧ w = w' := by
  by_cases h1 : lo ≤ n <;> by_cases h2 : n ≤ hi
  all_goals
    go_enter Try.func33, Try.ntmps33
    go_wp2
    go_ret
    exact ⟨by simp [btw, h1, h2], rfl⟩
theorem countedT_any (N E : Int) (w : World) (hN : 0 ≤ N ∧ N ≤ 300) (hE : 0 ≤ E ∧ E ≤ 20) :
    Calls Try.prog 62 #[.agg #[.int .i64 0, .int .i64 1, .int .i64 N, .int .i64 E], .int .i64 5] w fun e w' => e = .returned (.int .i64 0) ∧ Below w.heap.size w w' := by
  have e1 : btw N 0 300 = true := btw_iff.2 hN
  have e2 : btw E 0 20 = true := btw_iff.2 hE
  have c0 := fun w => betweenT_any 0 0 4 w
  have c1 := fun w => betweenT_any 1 1 9 w
  have c2 := fun w => betweenT_any N 0 300 w
  have c3 := fun w => betweenT_any E 0 20 w
  rw [show btw 0 0 4 = true from rfl] at c0
  rw [show btw 1 1 9 = true from rfl] at c1
  rw [e1] at c2
  rw [e2] at c3
  clear e1 e2
  go_enter Try.func62, Try.ntmps62
  go_wp2_with (go_at_call 33; (first | (with_reducible refine (c0 _).mono ?_) | (with_reducible refine (c1 _).mono ?_) | (with_reducible refine (c2 _).mono ?_) | (with_reducible refine (c3 _).mono ?_)); rintro e w' ⟨rfl, rfl⟩)
  go_ret
  exact ⟨rfl, bal0 w _⟩
def loC (N E : Int) : Int := (100 * N + 99 + E).tdiv (100 + E)
def hiC (N E : Int) : Int := (100 * N).tdiv (100 - E)
set_option maxRecDepth 100000 in
theorem readsT_any (N E : Int) (w : World) (hN : 0 ≤ N ∧ N ≤ 300) (hE : 0 ≤ E ∧ E ≤ 20) :
    Calls Try.prog 103 #[.agg #[.int .i64 0, .int .i64 1, .int .i64 N, .int .i64 E]] w fun e w' => e = .returned (.agg #[.int .i64 (loC N E), .int .i64 (hiC N E)]) ∧ Below w.heap.size w w' := by
  obtain ⟨hN0, hN1⟩ := hN
  obtain ⟨hE0, hE1⟩ := hE
  have q1 : wrap64 (100 * N) = 100 * N := IntWalk.wrap64_in _ (by omega)
  have q2 : wrap64 (100 * N + 99) = 100 * N + 99 := IntWalk.wrap64_in _ (by omega)
  have q3 : wrap64 (100 * N + 99 + E) = 100 * N + 99 + E := IntWalk.wrap64_in _ (by omega)
  have q4 : wrap64 (100 + E) = 100 + E := IntWalk.wrap64_in _ (by omega)
  have q5 : wrap64 (100 - E) = 100 - E := IntWalk.wrap64_in _ (by omega)
  have z1 : ((100 + E : Int) == 0) = false := beq_eq_false_iff_ne.2 (by omega)
  have z2 : ((100 - E : Int) == 0) = false := beq_eq_false_iff_ne.2 (by omega)
  have l1 : 0 ≤ loC N E ∧ loC N E ≤ 100 * N + 99 + E := ⟨Int.tdiv_nonneg (by omega) (by omega), Int.tdiv_le_self _ (by omega)⟩
  have l2 : 0 ≤ hiC N E ∧ hiC N E ≤ 100 * N := ⟨Int.tdiv_nonneg (by omega) (by omega), Int.tdiv_le_self _ (by omega)⟩
  have d1 : (100 * N + 99 + E).tdiv (100 + E) = loC N E := rfl
  have d2 : (100 * N).tdiv (100 - E) = hiC N E := rfl
  have w1 : wrap64 (loC N E) = loC N E := IntWalk.wrap64_in _ (by omega)
  have w2 : wrap64 (hiC N E) = hiC N E := IntWalk.wrap64_in _ (by omega)
  generalize loC N E = LO at d1 l1 w1 ⊢
  generalize hiC N E = HI at d2 l2 w2 ⊢
  go_enter Try.func103, Try.ntmps103
  go_upto_region 1 with (fail)
  go_region
  go_wp2
  refine bodyPost_ret (v := .agg #[.int .i64 LO, .int .i64 HI]) (by simp [results, Try.f103, go_sem]) rfl ?_
  exact ⟨rfl, bdraw (bal (bal0 w _) (Nat.le_refl _) _)⟩

set_option maxRecDepth 100000 in
theorem Reads_any (N E : Int) (w : World) (hN : 0 ≤ N ∧ N ≤ 300) (hE : 0 ≤ E ∧ E ≤ 20) :
    Calls Try.prog 119 #[.agg #[.int .i64 0, .int .i64 1, .int .i64 N, .int .i64 E]] w fun e w' => e = .returned (.tuple #[.agg #[.int .i64 (loC N E), .int .i64 (hiC N E)], .int .i64 0]) ∧ Below w.heap.size w w' := by
  have c1 := fun w => countedT_any N E w hN hE
  have c2 := fun w => readsT_any N E w hN hE
  generalize loC N E = LO at c2 ⊢
  generalize hiC N E = HI at c2 ⊢
  clear hN hE
  go_enter Try.func119, Try.ntmps119
  go_upto_region 1 with (fail)
  obtain ⟨W, hW⟩ : ∃ W, W = (w.alloc (Obj.cells #[Value.int .i64 0, .int .i64 1, .int .i64 N, .int .i64 E] 76)).alloc (Obj.cells #[.int .i64 0, .int .i64 0] 26) := ⟨_, rfl⟩
  have b0 : W.heap[w.heap.size]? = some (Obj.cells #[Value.int .i64 0, .int .i64 1, .int .i64 N, .int .i64 E] 76 (0, 0)) := by rw [hW]; exact hblk_alloc (alloc_at rfl) _
  have b1 : W.heap[w.heap.size + 1]? = some (Obj.cells #[Value.int .i64 0, .int .i64 0] 26 (0, 0)) := by rw [hW]; exact alloc_at (by simp)
  have hB : Below w.heap.size w W := by rw [hW]; exact bal (bal0 w _) (Nat.le_refl _) _
  rw [← hW]
  clear hW
  obtain ⟨r, hr⟩ : ∃ r, r = w.heap.size := ⟨_, rfl⟩
  have HR := Lib.hid hr
  rw [← hr] at b0 b1 hB ⊢
  clear hr
  obtain ⟨p0, p1, p2, p3⟩ := blk4 b0
  go_upto_region 2 with (go_at_call 62; refine (c1 _).mono ?_; rintro e w1 ⟨rfl, hb1⟩)
  replace b0 := bheap b0 hb1 (Nat.le_refl _)
  replace b1 := bheap b1 hb1 (Nat.le_refl _)
  replace hB := hB.trans (hb1.mono (by have := heap_lt b1; have := hB.size; have := hb1.size; exact Nat.le_trans (Nat.le_of_eq HR.out) hB.size))
  clear p0 p1 p2 p3 hb1
  obtain ⟨p0, p1, p2, p3⟩ := blk4 b0
  go_wp2_with (go_at_call 103; refine (c2 _).mono ?_; rintro e w2 ⟨rfl, hb2⟩; have b12 := bheap b1 hb2 (Nat.le_refl _); obtain ⟨q0, q1⟩ := blk2 b12; have f0 := frz b12 0; have f1 := frz b12 1; have HB2 := Lib.hid (hB.trans (hb2.mono (Nat.le_trans (Nat.le_of_eq HR.out) hB.size))))
  have hz : ((w2.setCell ⟨r + 1, 0, none⟩ (.int .i64 LO)).setCell ⟨r + 1, 1, none⟩ (.int .i64 HI)).heap[r + 1]? = some (Obj.cells #[Value.int .i64 LO, .int .i64 HI] 26 (0, 0)) := set_blk (set_blk b12)
  have hbz : Below r w ((w2.setCell ⟨r + 1, 0, none⟩ (.int .i64 LO)).setCell ⟨r + 1, 1, none⟩ (.int .i64 HI)) := Below.setCell (Below.setCell HB2.out (p := ⟨r + 1, 0, none⟩) (by dsimp; omega) _) (p := ⟨r + 1, 1, none⟩) (by dsimp; omega) _
  have HBZ := Lib.hid hbz
  generalize (w2.setCell ⟨r + 1, 0, none⟩ (.int .i64 LO)).setCell ⟨r + 1, 1, none⟩ (.int .i64 HI) = Z at hz HBZ ⊢
  clear hbz q0 q1 f0 f1
  obtain ⟨q0, q1⟩ := blk2 hz
  exact bodyPost_ret (v := .tuple #[.agg #[.int .i64 LO, .int .i64 HI], .int .i64 0]) (by simp [results, Try.f119, go_sem, q0, q1]) rfl ⟨rfl, by rw [← HR.out]; exact HBZ.out⟩

set_option maxRecDepth 100000 in
theorem run_index5 (x0 x1 x2 x3 x4 : Int) (w : World) :
    (Instr.index 124 (.agg #[.int .i64 x0, .int .i64 x1, .int .i64 x2, .int .i64 x3, .int .i64 x4]) (.int .i64 0)).run Try.prog w = .ok (.int .i64 x0) w ∧
    (Instr.index 124 (.agg #[.int .i64 x0, .int .i64 x1, .int .i64 x2, .int .i64 x3, .int .i64 x4]) (.int .i64 1)).run Try.prog w = .ok (.int .i64 x1) w ∧
    (Instr.index 124 (.agg #[.int .i64 x0, .int .i64 x1, .int .i64 x2, .int .i64 x3, .int .i64 x4]) (.int .i64 2)).run Try.prog w = .ok (.int .i64 x2) w ∧
    (Instr.index 124 (.agg #[.int .i64 x0, .int .i64 x1, .int .i64 x2, .int .i64 x3, .int .i64 x4]) (.int .i64 3)).run Try.prog w = .ok (.int .i64 x3) w ∧
    (Instr.index 124 (.agg #[.int .i64 x0, .int .i64 x1, .int .i64 x2, .int .i64 x3, .int .i64 x4]) (.int .i64 4)).run Try.prog w = .ok (.int .i64 x4) w := ⟨by kernel_rfl, by kernel_rfl, by kernel_rfl, by kernel_rfl, by kernel_rfl⟩
def sumTo (r : List Int) : Nat → Int
  | 0 => 0
  | k + 1 => sumTo r k + r.getD k 0
theorem sumTo_bd {r : List Int} (h : ∀ x ∈ r, 0 ≤ x ∧ x ≤ 1000) : ∀ k, 0 ≤ sumTo r k ∧ sumTo r k ≤ 1000 * k
  | 0 => by simp [sumTo]
  | k + 1 => by
    have ih := sumTo_bd h k
    unfold sumTo
    have : 0 ≤ r.getD k 0 ∧ r.getD k 0 ≤ 1000 := by
      rw [List.getD_eq_getElem?_getD]
      cases e : r[k]? with
      | none => simp
      | some x => exact h x (List.mem_of_getElem? e)
    push_cast
    omega
set_option maxRecDepth 100000 in
set_option maxHeartbeats 2000000 in
theorem all_any (h : List Int) (f : Nat) (w : World) (hh : HBd 1000 h) (hf : f < 3) :
    Calls Try.prog 60 #[.agg (hcs h), .int .i64 f] w fun e w' => e = .returned (.int .i64 (hall h f)) ∧ Below w.heap.size w w' := by
  have hl := hh.1
  obtain ⟨x0, h0⟩ : ∃ x, x = hget h f 0 := ⟨_, rfl⟩
  obtain ⟨x1, h1⟩ : ∃ x, x = hget h f 1 := ⟨_, rfl⟩
  obtain ⟨x2, h2⟩ : ∃ x, x = hget h f 2 := ⟨_, rfl⟩
  obtain ⟨x3, h3⟩ : ∃ x, x = hget h f 3 := ⟨_, rfl⟩
  obtain ⟨x4, h4⟩ : ∃ x, x = hget h f 4 := ⟨_, rfl⟩
  obtain ⟨R, hR⟩ : ∃ R, R = [x0, x1, x2, x3, x4] := ⟨_, rfl⟩
  have hbd : ∀ x ∈ R, 0 ≤ x ∧ x ≤ 1000 := by
    rw [hR, h0, h1, h2, h3, h4]
    intro x hx
    simp only [List.mem_cons, List.not_mem_nil, or_false] at hx
    rcases hx with rfl | rfl | rfl | rfl | rfl
    · exact hh.get hf (by decide)
    · exact hh.get hf (by decide)
    · exact hh.get hf (by decide)
    · exact hh.get hf (by decide)
    · exact hh.get hf (by decide)
  have hs5 : sumTo R 5 = hall h f := by rw [hR]; unfold hall; rw [← h0, ← h1, ← h2, ← h3, ← h4]; simp [sumTo]
  have HS := Lib.hid (And.intro hbd (And.intro hs5 hR))
  have hb : (w.alloc (Obj.cells (hcs h) 126)).heap[w.heap.size]? = some (hObj h) := alloc_at rfl
  have hB : Below w.heap.size w (w.alloc (Obj.cells (hcs h) 126)) := bal0 w _
  have c0 : (w.alloc (Obj.cells (hcs h) 126)).cell? ⟨w.heap.size, f * 5, none⟩ = some (.int .i64 x0) := by rw [h0, Nat.mul_comm f 5]; exact blkH hb (by omega)
  have c1 : (w.alloc (Obj.cells (hcs h) 126)).cell? ⟨w.heap.size, f * 5 + 1, none⟩ = some (.int .i64 x1) := by rw [h1, Nat.mul_comm f 5]; exact blkH hb (by omega)
  have c2 : (w.alloc (Obj.cells (hcs h) 126)).cell? ⟨w.heap.size, f * 5 + 2, none⟩ = some (.int .i64 x2) := by rw [h2, Nat.mul_comm f 5]; exact blkH hb (by omega)
  have c3 : (w.alloc (Obj.cells (hcs h) 126)).cell? ⟨w.heap.size, f * 5 + 3, none⟩ = some (.int .i64 x3) := by rw [h3, Nat.mul_comm f 5]; exact blkH hb (by omega)
  have c4 : (w.alloc (Obj.cells (hcs h) 126)).cell? ⟨w.heap.size, f * 5 + 4, none⟩ = some (.int .i64 x4) := by rw [h4, Nat.mul_comm f 5]; exact blkH hb (by omega)
  have HB := Lib.hid hB
  have i0 : (0 : Int) ≤ (f : Int) := by omega
  have i1 : (f : Int) < 3 := by omega
  clear h0 h1 h2 h3 h4 hR hbd hs5 hB hb hl hh
  go_enter Try.func60, Try.ntmps60
  go_upto_region 1 with (fail)
  obtain ⟨W, hW⟩ : ∃ W, W = w.alloc (Obj.cells (hcs h) 126) := ⟨_, rfl⟩
  rw [← hW] at c0 c1 c2 c3 c4 HB ⊢
  clear hW
  go_wp2_with fail
  go_loopg [5, 11] 5 (fun g sv iv wr => ∃ k : Nat, k + g = 5 ∧ iv = .int .i64 k ∧ sv = .int .i64 (sumTo R k) ∧ wr = W)
  case atStart => exact ⟨0, rfl, rfl, rfl, rfl⟩
  case round =>
    obtain ⟨k, hk, rfl, rfl, rfl⟩ := hrel
    have HK := Lib.hid hk
    by_cases hlt : k < 5
    · have hsb := sumTo_bd HS.out.1 k
      have hnx : sumTo R (k + 1) = sumTo R k + R.getD k 0 := rfl
      have hrb : 0 ≤ R.getD k 0 ∧ R.getD k 0 ≤ 1000 := by
        rw [HS.out.2.2]
        have hb5 := HS.out.1
        rw [HS.out.2.2] at hb5
        rw [List.getD_eq_getElem?_getD, List.getElem?_eq_getElem (by simpa using hlt)]
        exact hb5 _ (List.getElem_mem _)
      have hgd : R.getD k 0 = [x0, x1, x2, x3, x4].getD k 0 := by rw [HS.out.2.2]
      rw [hgd] at hnx hrb
      obtain ⟨S, hS⟩ : ∃ S, S = sumTo R k := ⟨_, rfl⟩
      rw [← hS] at hsb hnx ⊢
      have HN := Lib.hid hnx
      clear hS hgd hnx hk
      obtain rfl | rfl | rfl | rfl | rfl : k = 0 ∨ k = 1 ∨ k = 2 ∨ k = 3 ∨ k = 4 := by omega
      all_goals
        simp only [List.getD_cons_zero, List.getD_cons_succ] at hrb
        have hix := run_index5 x0 x1 x2 x3 x4 wr
        obtain ⟨e0, e1, e2, e3, e4⟩ := hix
        go_wp2
        go_roundg (gk - 1)
        case measure => have := HK.out; omega
        case rel => first | exact ⟨1, by have := HK.out; omega, by go_num, by rw [HN.out]; rfl, rfl⟩ | exact ⟨2, by have := HK.out; omega, by go_num, by rw [HN.out]; rfl, rfl⟩ | exact ⟨3, by have := HK.out; omega, by go_num, by rw [HN.out]; rfl, rfl⟩ | exact ⟨4, by have := HK.out; omega, by go_num, by rw [HN.out]; rfl, rfl⟩ | exact ⟨5, by have := HK.out; omega, by go_num, by rw [HN.out]; rfl, rfl⟩
    · obtain rfl : k = 5 := by omega
      clear hk
      go_wp2
      go_ret
      exact ⟨ret_int HS.out.2.1, HB.out⟩
end Go.Proofs.Ytgnjknihgjdedaa
namespace Go.Proofs.Ytgnjknihgjdedaa
open Go.RowKit Go.MapKept
set_option linter.unusedVariables false
set_option linter.unusedSimpArgs false

set_option maxRecDepth 100000 in
set_option maxHeartbeats 2000000 in
theorem counted_any (p : Value) (h : List Int) (d : De) (n nf : Nat) (B M : Nat) (K : List (List Int)) (w : World) (hA : Ask n nf B M K h d w) (hk : d.kind = 6) :
    Calls Try.prog 116 #[p, .agg (hcs h), dv d, .func (.func 110) #[] #[.pointer (some ⟨B, 0, none⟩)]] w fun e w' => e = .returned (.tuple #[]) ∧ PutsH w w' M (if countB d h = true then [h] else []) := by
  obtain ⟨hb, hm, hh, hd, hnf⟩ := hA
  have hM := hm.lt
  have hl := hh.1
  obtain ⟨kind, flock, owner, other, tof, many, err, s⟩ := d
  obtain ⟨f, rfl⟩ := Int.eq_ofNat_of_zero_le hd.f.1
  have hf : f < 3 := by have := hd.f.2; dsimp at this; omega
  have hmy : 0 ≤ many ∧ many ≤ 300 := hd.m
  have hey : 0 ≤ err ∧ err ≤ 20 := hd.e
  obtain ⟨b, hbb⟩ : ∃ b, b = btw (hall h f) (loC many err) (hiC many err) := ⟨_, rfl⟩
  have hcb : countB ⟨kind, f, owner, other, tof, many, err, s⟩ h = b := by rw [hbb]; rfl
  rw [hcb]
  have c1 := fun w => Reads_any many err w hmy hey
  have c2 := fun w => all_any h f w hh hf
  have c3 := fun w => betweenH_any (hall h f) (loC many err) (hiC many err) w
  rw [← hbb] at c3
  have hxo : HOk h := HOk.of hh (by omega)
  obtain ⟨LO, hLO⟩ : ∃ x, x = loC many err := ⟨_, rfl⟩
  obtain ⟨HI, hHI⟩ : ∃ x, x = hiC many err := ⟨_, rfl⟩
  obtain ⟨AL, hAL⟩ : ∃ x, x = hall h f := ⟨_, rfl⟩
  rw [← hLO, ← hHI] at c1 c3
  rw [← hAL] at c2 c3
  have HX := Lib.hid (And.intro hb hm)
  clear hd hk hh hb hm hbb hcb hLO hHI hAL hmy hey
  unfold dv
  go_enter Try.func116, Try.ntmps116
  go_upto_region 1 with (fail)
  obtain ⟨W, hW⟩ : ∃ W, W = (w.alloc (Obj.cells (hcs h) 126)).alloc (dObj ⟨kind, f, owner, other, tof, many, err, s⟩) := ⟨_, rfl⟩
  have b0 : W.heap[w.heap.size]? = some (hObj h) := by rw [hW]; exact hblk_alloc (alloc_at rfl) _
  have b1 : W.heap[w.heap.size + 1]? = some (dObj ⟨kind, f, owner, other, tof, many, err, s⟩) := by rw [hW]; exact alloc_at (by simp)
  have hP : PutsH w W M [] := by rw [hW]; exact (PutsH.refl w M).below hM (bal (bal0 w _) (Nat.le_refl _) _) (Nat.le_refl _)
  rw [← hW]
  clear hW
  obtain ⟨r, hr⟩ : ∃ r, r = w.heap.size := ⟨_, rfl⟩
  have HR := Lib.hid (show w.heap.size ≤ r by omega)
  rw [← hr] at b0 b1 ⊢
  clear hr
  obtain ⟨d0, d1, d2, d3, d4, d5, d6, d7⟩ := blkD b1
  go_upto_region 2 with (go_at_call 119; refine (c1 _).mono ?_; rintro e w1 ⟨rfl, hb1⟩)
  obtain ⟨W2, hW⟩ : ∃ W2, W2 = w1.alloc (Obj.cells #[Value.int .i64 LO, .int .i64 HI] 26) := ⟨_, rfl⟩
  have e0 : W2.heap[r]? = some (hObj h) := by rw [hW]; exact hblk_alloc (bheap b0 hb1 (Nat.le_refl _)) _
  have e1 : W2.heap[r + 1]? = some (dObj ⟨kind, f, owner, other, tof, many, err, s⟩) := by rw [hW]; exact hblk_alloc (bheap b1 hb1 (Nat.le_refl _)) _
  have e2 : W2.heap[w1.heap.size]? = some (Obj.cells #[Value.int .i64 LO, .int .i64 HI] 26 (0, 0)) := by rw [hW]; exact alloc_at rfl
  have hP2 : PutsH w W2 M [] := by rw [hW]; exact (hP.below hM hb1 hP.size).below hM (bal0 w1 _) (hP.below hM hb1 hP.size).size
  rw [← hW]
  clear hW hb1 b0 b1 d0 d1 d2 d3 d4 d5 d6 d7 hP
  obtain ⟨g, hg⟩ : ∃ g, g = w1.heap.size := ⟨_, rfl⟩
  rw [← hg] at e2 ⊢
  clear hg
  obtain ⟨-, d1, -⟩ := blkD e1
  obtain ⟨q0, q1⟩ := blk2 e2
  obtain ⟨a0, a1, a2, a3, a4, a5, a6, a7, a8, a9, a10, a11, a12, a13, a14, hc15, hcell⟩ := split15 hl
  obtain ⟨y0, y1, y2, y3, y4, y5, y6, y7, y8, y9, y10, y11, y12, y13, y14⟩ := hcell _ _ e0
  have z0 := cell_regrown y0
  have z1 := cell_regrown y1
  have z2 := cell_regrown y2
  have z3 := cell_regrown y3
  have z4 := cell_regrown y4
  have z5 := cell_regrown y5
  have z6 := cell_regrown y6
  have z7 := cell_regrown y7
  have z8 := cell_regrown y8
  have z9 := cell_regrown y9
  have z10 := cell_regrown y10
  have z11 := cell_regrown y11
  have z12 := cell_regrown y12
  have z13 := cell_regrown y13
  have z14 := cell_regrown y14
  have v1 := cell_regrown d1
  have v2 := cell_regrown q0
  have v3 := cell_regrown q1
  have cA : ∀ dd os, Calls Try.prog 60 #[.agg (hcs h), .int .i64 f] (Sort.grow (redrawn W2 dd) os) (fun e w'' => e = .returned (.int .i64 AL) ∧ ∃ p : Regrown, w'' = Sort.grow (redrawn W2 p.d) p.os) := fun dd os => Calls.regrown_of (c2 _)
  have cB : ∀ dd os, Calls Try.prog 90 #[.int .i64 AL, .int .i64 LO, .int .i64 HI] (Sort.grow (redrawn W2 dd) os) (fun e w'' => e = .returned (.bool b) ∧ ∃ p : Regrown, w'' = Sort.grow (redrawn W2 p.d) p.os) := fun dd os => regrown_left (c3 _)
  have HCC := Lib.hid (And.intro cA cB)
  clear cA cB c1 c2 c3
  refine wp_region_quiet_below (by kernel_rfl) (by kernel_rfl) ?_
  repeat (quiet_step (with_reducible first | exact HCC.out.1 _ _ | exact HCC.out.2 _ _))
  refine wpQuiet_nil ?_
  intro _ hw'
  obtain ⟨⟨dq, osq⟩, hw''⟩ := hw'
  subst hw''
  obtain ⟨W9, hW9⟩ : ∃ W9, W9 = Sort.grow (redrawn W2 dq) osq := ⟨_, rfl⟩
  have hB9 : Below W2.heap.size W2 W9 := by rw [hW9]; exact below_regrown W2 dq osq
  have hP9 := hP2.below hM hB9 hP2.size
  have e9 := bheap e0 hB9 (Nat.le_refl _)
  rw [← hW9]
  clear hW9 hB9 y0 y1 y2 y3 y4 y5 y6 y7 y8 y9 y10 y11 y12 y13 y14 z0 z1 z2 z3 z4 z5 z6 z7 z8 z9 z10 z11 z12 z13 z14 v1 v2 v3 hcell hc15
  cases b with
  | false =>
    go_wp2_with fail
    go_end0
    exact ⟨rfl, hP9⟩
  | true =>
    go_wp2_with (first
      | ((with_reducible apply wp_loadH e9 hl); (rfl); (rfl); (rfl))
      | (go_at_call 110; refine (then_p hP9 HX.out.1 HX.out.2 hxo).mono ?_; rintro e w5 ⟨rfl, hP5⟩))
    go_end0
    exact ⟨rfl, hP5⟩
end Go.Proofs.Ytgnjknihgjdedaa
