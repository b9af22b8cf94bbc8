/- TopFold 13: TyQ, TyR. -/
import Derived.Test.YtgnjknihgjdedaaTf02
import Derived.Test.YtgnjknihgjdedaaTf08
import Derived.Test.YtgnjknihgjdedaaTf12
namespace Go.Proofs.Ytgnjknihgjdedaa
open Go.RowKit
set_option linter.unusedVariables false
set_option linter.unusedSimpArgs false

theorem okSp : ElemOk Try.prog 27 26 2 16 := ElemOk.mk' (z := .agg #[.int .i64 0, .int .i64 0]) Try.underlying27 (by kernel_rfl) rfl (by decide)
theorem okCt : ElemOk Try.prog 28 76 4 32 := ElemOk.mk' (z := .agg #[.int .i64 0, .int .i64 0, .int .i64 0, .int .i64 0]) Try.underlying28 (by kernel_rfl) rfl (by decide)
theorem one_eSp (x : Sp) : ∀ u ∈ eSp x, u.oneCell' = true := by intro u hu; simp [eSp] at hu; rcases hu with rfl | rfl <;> rfl
theorem one_eCt (x : Ct) : ∀ u ∈ eCt x, u.oneCell' = true := by intro u hu; simp [eCt] at hu; rcases hu with rfl | rfl | rfl | rfl <;> rfl
abbrev tyC (g lo hi : Int) (vC : Value) (m : Int) (vK : Value) : Obj := .cells #[.int .i64 g, .int .i64 lo, .int .i64 hi, vC, .int .i64 m, vK] 30 (0, 0)
theorem tyC_set2 {w : World} {q : Nat} {g lo hi m x : Int} {vC vK : Value} (h : w.heap[q]? = some (tyC g lo hi vC m vK)) : (w.setCell ⟨q, 2, none⟩ (.int .i64 x)).heap[q]? = some (tyC g lo x vC m vK) := set_blk h
theorem rn_set1 {w : World} {q : Nat} {a b x : Int} (h : w.heap[q]? = some (.cells #[.int .i64 a, .int .i64 b] 26 (0, 0))) : (w.setCell ⟨q, 1, none⟩ (.int .i64 x)).heap[q]? = some (.cells #[.int .i64 a, .int .i64 x] 26 (0, 0)) := set_blk h
theorem ct_set2 {w : World} {q : Nat} {a b c d x : Int} (h : w.heap[q]? = some (.cells #[.int .i64 a, .int .i64 b, .int .i64 c, .int .i64 d] 76 (0, 0))) : (w.setCell ⟨q, 2, none⟩ (.int .i64 x)).heap[q]? = some (.cells #[.int .i64 a, .int .i64 b, .int .i64 x, .int .i64 d] 76 (0, 0)) := set_blk h
theorem cell_far {w : World} {b o p i : Nat} {u v : Value} (h : w.cell? ⟨b, o, none⟩ = some v) (hne : b ≠ p) : (w.setCell ⟨p, i, none⟩ u).cell? ⟨b, o, none⟩ = some v := by
  unfold World.cell? at h ⊢
  rw [Below.heap_setCell w ⟨p, i, none⟩ u b hne]
  exact h
structure TrS (w : World) (H z q : Nat) (O : Obj) (vC : Value) (ch : List Sp) (vK : Value) (cs : List Ct) (vN : Value) (ns : List Int) (vL : Value) (ls : List Int) (M : Nat) (w' : World) : Prop where
  dl : Dealt w w' H M
  hH : H < w.heap.size
  hz : w.heap.size ≤ z
  zq : z < q
  rb : w'.heap[z]? = some (tyC 0 0 0 (.slice none 0 0) 0 (.slice none 0 0))
  bx : w'.heap[q]? = some O
  oC : Own eSp 26 2 w' (q + 1) vC ch
  oK : Own eCt 76 4 w' (q + 1) vK cs
  oN : OwnI w' (q + 1) vN ns
  oL : OwnI w' (q + 1) vL ls
  ap : ApartV vN vL
section
variable {w w' w'' : World} {H z q : Nat} {O : Obj} {vC : Value} {ch : List Sp} {vK : Value} {cs : List Ct} {vN : Value} {ns : List Int} {vL : Value} {ls : List Int} {M M' : Nat}
theorem TrS.mono (h : TrS w H z q O vC ch vK cs vN ns vL ls M w') (hM : M ≤ M') : TrS w H z q O vC ch vK cs vN ns vL ls M' w' := ⟨h.dl.mono hM, h.hH, h.hz, h.zq, h.rb, h.bx, h.oC, h.oK, h.oN, h.oL, h.ap⟩
theorem TrS.deal (h : TrS w H z q O vC ch vK cs vN ns vL ls M w') (hd : Dealt w' w'' H M') : TrS w H z q O vC ch vK cs vN ns vL ls M' w'' := by
  have h1 := h.hH
  have h2 := h.hz
  have h3 := h.zq
  exact ⟨h.dl.trans hd, h.hH, h.hz, h.zq, hd.blk h.rb (by omega), hd.blk h.bx (by omega), h.oC.kept hd.gr (.inr (h.oC.nb (show H < q + 1 by omega))), h.oK.kept hd.gr (.inr (h.oK.nb (show H < q + 1 by omega))), h.oN.kept hd.gr (.inr (h.oN.nb (show H < q + 1 by omega))), h.oL.kept hd.gr (.inr (h.oL.nb (show H < q + 1 by omega))), h.ap⟩
theorem TrS.alloc (h : TrS w H z q O vC ch vK cs vN ns vL ls M w') (o : Obj) : TrS w H z q O vC ch vK cs vN ns vL ls M (w'.alloc o) :=
  ⟨h.dl.alloc o, h.hH, h.hz, h.zq, hblk_alloc h.rb o, hblk_alloc h.bx o, h.oC.alloc o, h.oK.alloc o, h.oN.alloc o, h.oL.alloc o, h.ap⟩
theorem TrS.put {cells : Array Value} {i : Nat} {v : Value} (h : TrS w H z q (.cells cells 30 (0, 0)) vC ch vK cs vN ns vL ls M w') : TrS w H z q (.cells (cells.setIfInBounds i v) 30 (0, 0)) vC ch vK cs vN ns vL ls M (w'.setCell ⟨q, i, none⟩ v) := by
  have h1 := h.hH
  have h2 := h.hz
  have h3 := h.zq
  have hg := grownBy_cell w' q i v
  exact ⟨h.dl.set (by show H < q; omega) (by show w.heap.size ≤ q; omega) v, h.hH, h.hz, h.zq, (Below.heap_setCell _ ⟨q, i, none⟩ _ _ (by show z ≠ q; omega)).trans h.rb, set_blk h.bx, h.oC.kept hg (.inr (h.oC.ne' h.bx (by decide))), h.oK.kept hg (.inr (h.oK.ne' h.bx (by decide))), h.oN.kept hg (.inr (h.oN.ne' h.bx (by decide))), h.oL.kept hg (.inr (h.oL.ne' h.bx (by decide))), h.ap⟩
theorem TrS.far {b i : Nat} {v : Value} (h : TrS w H z q O vC ch vK cs vN ns vL ls M w') (hb : q < b) (hC : vC.ownBlock ≠ some b) (hK : vK.ownBlock ≠ some b) (hN : vN.ownBlock ≠ some b) (hL : vL.ownBlock ≠ some b) : TrS w H z q O vC ch vK cs vN ns vL ls M (w'.setCell ⟨b, i, none⟩ v) := by
  have h1 := h.hH
  have h2 := h.hz
  have h3 := h.zq
  have hg := grownBy_cell w' b i v
  exact ⟨h.dl.set (by show H < b; omega) (by show w.heap.size ≤ b; omega) v, h.hH, h.hz, h.zq, (Below.heap_setCell _ ⟨b, i, none⟩ _ _ (by show z ≠ b; omega)).trans h.rb, (Below.heap_setCell _ ⟨b, i, none⟩ _ _ (by show q ≠ b; omega)).trans h.bx, h.oC.kept hg (.inr hC), h.oK.kept hg (.inr hK), h.oN.kept hg (.inr hN), h.oL.kept hg (.inr hL), h.ap⟩
theorem TrS.appC {v : Value} {l : List Sp} (h : TrS w H z q O vC ch vK cs vN ns vL ls M w') (ho : Own eSp 26 2 w'' (q + 1) v l) (hg : w'.grownBy w'' vC.ownBlock) : TrS w H z q O v l vK cs vN ns vL ls M w'' := by
  have h1 := h.hH
  have h2 := h.hz
  have h3 := h.zq
  have hl : ∀ k, vC.ownBlock = some k → q + 1 ≤ k := fun k e => (h.oC.lt k e).1
  exact ⟨h.dl.ownG hg (fun k e => ⟨by have := hl k e; omega, by have := hl k e; omega⟩), h.hH, h.hz, h.zq, gblkF hg h.rb hl (by omega), gblkF hg h.bx hl (by omega), ho, h.oK.kept hg (own_ne h.oK h.oC (by decide)), h.oN.kept hg (own_ne h.oN h.oC (by decide)), h.oL.kept hg (own_ne h.oL h.oC (by decide)), h.ap⟩
theorem TrS.appK {v : Value} {l : List Ct} (h : TrS w H z q O vC ch vK cs vN ns vL ls M w') (ho : Own eCt 76 4 w'' (q + 1) v l) (hg : w'.grownBy w'' vK.ownBlock) : TrS w H z q O vC ch v l vN ns vL ls M w'' := by
  have h1 := h.hH
  have h2 := h.hz
  have h3 := h.zq
  have hl : ∀ k, vK.ownBlock = some k → q + 1 ≤ k := fun k e => (h.oK.lt k e).1
  exact ⟨h.dl.ownG hg (fun k e => ⟨by have := hl k e; omega, by have := hl k e; omega⟩), h.hH, h.hz, h.zq, gblkF hg h.rb hl (by omega), gblkF hg h.bx hl (by omega), h.oC.kept hg (own_ne h.oC h.oK (by decide)), ho, h.oN.kept hg (own_ne h.oN h.oK (by decide)), h.oL.kept hg (own_ne h.oL h.oK (by decide)), h.ap⟩
theorem TrS.appN {g' n c : Nat} {l : List Int} (h : TrS w H z q O vC ch vK cs vN ns vL ls M w') (ho : OwnI w'' (q + 1) (.slice (some ⟨g', 0, none⟩) n c) l) (hg : w'.grownBy w'' vN.ownBlock) (hn : vN.ownBlock = some g' ∨ g' = w'.heap.size) : TrS w H z q O vC ch vK cs (.slice (some ⟨g', 0, none⟩) n c) l vL ls M w'' := by
  have h1 := h.hH
  have h2 := h.hz
  have h3 := h.zq
  have hl : ∀ k, vN.ownBlock = some k → q + 1 ≤ k := fun k e => (h.oN.lt k e).1
  refine ⟨h.dl.ownG hg (fun k e => ⟨by have := hl k e; omega, by have := hl k e; omega⟩), h.hH, h.hz, h.zq, gblkF hg h.rb hl (by omega), gblkF hg h.bx hl (by omega), h.oC.kept hg (own_ne h.oC h.oN (by decide)), h.oK.kept hg (own_ne h.oK h.oN (by decide)), ho, h.oL.kept hg h.ap.ne', fun k e => ?_⟩
  have e2 : g' = k := by simpa [Value.ownBlock] using e
  subst e2
  rcases hn with hn | hn
  · exact h.ap _ hn
  · intro e3
    have := (h.oL.lt _ e3).2
    omega
theorem TrS.appL {g' n c : Nat} {l : List Int} (h : TrS w H z q O vC ch vK cs vN ns vL ls M w') (ho : OwnI w'' (q + 1) (.slice (some ⟨g', 0, none⟩) n c) l) (hg : w'.grownBy w'' vL.ownBlock) (hn : vL.ownBlock = some g' ∨ g' = w'.heap.size) : TrS w H z q O vC ch vK cs vN ns (.slice (some ⟨g', 0, none⟩) n c) l M w'' := by
  have h1 := h.hH
  have h2 := h.hz
  have h3 := h.zq
  have hl : ∀ k, vL.ownBlock = some k → q + 1 ≤ k := fun k e => (h.oL.lt k e).1
  refine ⟨h.dl.ownG hg (fun k e => ⟨by have := hl k e; omega, by have := hl k e; omega⟩), h.hH, h.hz, h.zq, gblkF hg h.rb hl (by omega), gblkF hg h.bx hl (by omega), h.oC.kept hg (own_ne h.oC h.oL (by decide)), h.oK.kept hg (own_ne h.oK h.oL (by decide)), h.oN.kept hg h.ap.ne, ho, fun k e e2 => ?_⟩
  have e3 : g' = k := by simpa [Value.ownBlock] using e2
  subst e3
  rcases hn with hn | hn
  · exact h.ap _ e hn
  · have := (h.oN.lt _ e).2
    omega
theorem TrS.off (h : TrS w H z q O vC ch vK cs vN ns vL ls M w') : q < w'.heap.size ∧ vC.ownBlock ≠ some w'.heap.size ∧ vK.ownBlock ≠ some w'.heap.size ∧ vN.ownBlock ≠ some w'.heap.size ∧ vL.ownBlock ≠ some w'.heap.size :=
  ⟨heap_lt h.bx, fun e => absurd (h.oC.lt _ e).2 (Nat.lt_irrefl _), fun e => absurd (h.oK.lt _ e).2 (Nat.lt_irrefl _), fun e => absurd (h.oN.lt _ e).2 (Nat.lt_irrefl _), fun e => absurd (h.oL.lt _ e).2 (Nat.lt_irrefl _)⟩
theorem TrS.fin {Z : World} (h : TrS w H z q O vC ch vK cs vN ns vL ls M w') (hg : w'.grownBy Z (some z)) : Own eSp 26 2 Z w.heap.size vC ch ∧ Own eCt 76 4 Z w.heap.size vK cs ∧ Dealt w Z H M := by
  have h1 := h.hH
  have h2 := h.hz
  have h3 := h.zq
  exact ⟨(h.oC.kept hg (.inr (h.oC.nb (show z < q + 1 by omega)))).mono (by omega), (h.oK.kept hg (.inr (h.oK.nb (show z < q + 1 by omega)))).mono (by omega), h.dl.ownG hg (fun k e => by injection e with e; omega)⟩
end
theorem tru_put {w : World} {z : Nat} {g lo hi m : Int} {vC vK : Value} {g' lo' hi' m' : Int} {vC' vK' : Value} (h : w.heap[z]? = some (tyC g' lo' hi' vC' m' vK')) :
    ((((((w.setCell ⟨z, 0, none⟩ (.int .i64 g)).setCell ⟨z, 1, none⟩ (.int .i64 lo)).setCell ⟨z, 2, none⟩ (.int .i64 hi)).setCell ⟨z, 3, none⟩ vC).setCell ⟨z, 4, none⟩ (.int .i64 m)).setCell ⟨z, 5, none⟩ vK).heap[z]? = some (tyC g lo hi vC m vK) ∧
    w.grownBy ((((((w.setCell ⟨z, 0, none⟩ (.int .i64 g)).setCell ⟨z, 1, none⟩ (.int .i64 lo)).setCell ⟨z, 2, none⟩ (.int .i64 hi)).setCell ⟨z, 3, none⟩ vC).setCell ⟨z, 4, none⟩ (.int .i64 m)).setCell ⟨z, 5, none⟩ vK) (some z) :=
  ⟨set_blk (set_blk (set_blk (set_blk (set_blk (set_blk h))))), (((((grownBy_cell _ _ _ _).trans (grownBy_cell _ _ _ _)).trans (grownBy_cell _ _ _ _)).trans (grownBy_cell _ _ _ _)).trans (grownBy_cell _ _ _ _)).trans (grownBy_cell _ _ _ _)⟩
structure TruP (lo hi m : Int) (ch : List Sp) (ns ls : List Int) : Prop where
  n : ns.length = ch.length + 1
  l : ls.length = ch.length
  c : ∀ s ∈ ch, SpOk (-60) 60 s
  f : lo ≤ ns.getD 0 0 ∧ ns.getD 0 0 ≤ hi
  s : ∀ k, k < ch.length → ((ch.getD k sp0).add ⟨-m, 0⟩).has (ns.getD (k + 1) 0 - ns.getD k 0)
  b : ∀ k : Nat, k ≤ ch.length → 30 - 7 * (k : Int) ≤ ns.getD k 0 ∧ ns.getD k 0 ≤ 66 + 4 * (k : Int)
theorem getD_app1 {α : Type} {l : List α} {x d : α} {k : Nat} (h : k < l.length) : (l ++ [x]).getD k d = l.getD k d := by
  rw [List.getD_eq_getElem?_getD, List.getD_eq_getElem?_getD, List.getElem?_append_left h]
theorem getD_app2 {α : Type} {l : List α} {x d : α} {k : Nat} (h : k = l.length) : (l ++ [x]).getD k d = x := by
  subst h
  rw [List.getD_eq_getElem?_getD, List.getElem?_append_right (Nat.le_refl _)]; simp
theorem TruP.snoc {lo hi m : Int} {ch : List Sp} {ns ls : List Int} (h : TruP lo hi m ch ns ls) {s : Sp} {x l : Int} (h1 : -3 ≤ s.lo) (h2 : s.lo ≤ 2) (h3 : s.lo ≤ s.hi) (h4 : s.hi ≤ s.lo + 2) (h5 : s.lo ≤ x) (h6 : x ≤ s.hi) (h7 : 0 ≤ l) (h8 : l ≤ m) (h9 : m ≤ 4) :
    TruP lo hi m (ch ++ [s]) (ns ++ [ns.getD ch.length 0 + x - l]) (ls ++ [l]) := by
  have hn := h.n
  have hb := h.b ch.length (Nat.le_refl _)
  refine ⟨by simp [h.n], by simp [h.l], fun t ht => ?_, ?_, fun k hk => ?_, fun k hk => ?_⟩
  · rcases List.mem_append.1 ht with ht | ht
    · exact h.c t ht
    · rw [List.mem_singleton.1 ht]; exact ⟨⟨by omega, by omega⟩, ⟨by omega, by omega⟩, h3⟩
  · rw [getD_app1 (by omega)]; exact h.f
  · simp only [List.length_append, List.length_singleton] at hk
    rcases Nat.lt_or_ge k ch.length with hlt | hge
    · rw [getD_app1 hlt, getD_app1 (by omega), getD_app1 (by omega)]; exact h.s k hlt
    · have hk2 : k = ch.length := by omega
      subst hk2
      rw [getD_app2 rfl, getD_app2 hn.symm, getD_app1 (by omega)]
      unfold Sp.has Sp.add
      dsimp only
      omega
  · simp only [List.length_append, List.length_singleton] at hk
    rcases Nat.lt_or_ge k (ch.length + 1) with hlt | hge
    · rw [getD_app1 (by omega)]; exact h.b k (by omega)
    · have hk2 : k = ch.length + 1 := by omega
      subst hk2
      rw [getD_app2 hn.symm]
      omega
theorem TruP.ok {lo hi m : Int} {ch : List Sp} {ns ls : List Int} {cs : List Ct} {Gn : Nat} (h : TruP lo hi m ch ns ls) (hG : ch.length + 1 = Gn) (hG5 : Gn ≤ 5) (hl : 30 ≤ lo ∧ lo ≤ 60) (hi1 : lo ≤ hi) (hi2 : hi ≤ lo + 6) (hm : 0 ≤ m ∧ m ≤ 4) (hc : cs.length ≤ 7)
    (hcs : ∀ c ∈ cs, CtOk (Gn : Int) c ∧ (readsS c).has (ns.getD c.g.toNat 0)) : TyOk ⟨Gn, ⟨lo, hi⟩, ch, m, cs⟩ ∧ TrueN ⟨Gn, ⟨lo, hi⟩, ch, m, cs⟩ (fun k => ns.getD k 0) ∧ (ns.length : Int) = Gn := by
  refine ⟨⟨by dsimp only; omega, ⟨by dsimp only; omega, by dsimp only; omega, hi1⟩, by dsimp only; omega, h.c, by dsimp only; omega, hc, fun c hx => (hcs c hx).1⟩, ⟨h.f, fun g hg => h.s g (by dsimp only at hg; omega), fun k hk => ?_, fun c hx => (hcs c hx).2⟩, by have := h.n; omega⟩
  rcases Nat.lt_or_ge ch.length k with h1 | h1
  · rw [List.getD_eq_getElem?_getD, List.getElem?_eq_none (by have := h.n; omega)]; decide
  · have := h.b k h1; omega
theorem ct_has {g : Int} {c : Ct} (hc : CtOk g c) {x d y : Int} (hx : 0 ≤ x) (hd : d = (c.e * x).tdiv 100) (h1 : -d ≤ y) (h2 : y ≤ d ∨ y = -d) (hn : c.n = x + y) : (readsS c).has x := by
  have he := hc.e0
  have hp : 0 ≤ c.e * x := Int.mul_nonneg he.1 hx
  rw [Int.tdiv_eq_ediv_of_nonneg hp] at hd
  refine reads_has hc ?_ ?_ <;> omega
end Go.Proofs.Ytgnjknihgjdedaa
namespace Go.Proofs.Ytgnjknihgjdedaa
open Go.RowKit
set_option linter.unusedVariables false
set_option linter.unusedSimpArgs false

def TruR (w : World) (H M : Nat) (gates : Int) (e : Ending) (w' : World) : Prop :=
  ∃ (T : Ty) (p : Tp) (vN vL : Value) (ns ls : List Int), e = .returned (.tuple #[tyV T p, vN, vL]) ∧ TyOk T ∧ TrueN T (fun k => ns.getD k 0) ∧ T.g ≤ gates ∧ (ns.length : Int) = T.g ∧
    Own eSp 26 2 w' w.heap.size (.slice p.A T.ch.length p.c) T.ch ∧ Own eCt 76 4 w' w.heap.size (.slice p.B T.cs.length p.d) T.cs ∧ Dealt w w' H M
set_option maxRecDepth 100000 in
set_option maxHeartbeats 4000000 in
theorem truthOf_any (H N : Nat) (gates counts : Int) (w : World) (h : Hd w H N) (hN : N ≤ 4611686018000000000) (hg : 1 ≤ gates ∧ gates ≤ 5) (hc : 0 ≤ counts ∧ counts ≤ 7) :
    Calls Try.prog 6 #[.pointer (some ⟨H, 0, none⟩), .int .i64 gates, .int .i64 counts] w (TruR w H (N + 200) gates) := by
  have hHl := h.lt
  obtain ⟨hg1, hg5⟩ := hg
  obtain ⟨hc0, hc7⟩ := hc
  obtain ⟨R, hR⟩ : ∃ R, R = TruR w H (N + 200) gates := ⟨_, rfl⟩
  rw [← hR]
  obtain ⟨w0, hw0⟩ : ∃ W, W = w.alloc (tyC 0 0 0 (.slice none 0 0) 0 (.slice none 0 0)) := ⟨_, rfl⟩
  obtain ⟨z, hz⟩ : ∃ z, z = w.heap.size := ⟨_, rfl⟩
  have hh0 : Hd w0 H N := by rw [hw0]; exact h.alloc _
  have hz0 : w0.heap[z]? = some (tyC 0 0 0 (.slice none 0 0) 0 (.slice none 0 0)) := by rw [hw0, hz]; exact alloc_at rfl
  have hd0 : Dealt w w0 H N := by rw [hw0]; exact (Dealt.refl h).alloc _
  have HR := Lib.hid hR
  have HW := Lib.hid hw0
  have HZ := Lib.hid hz
  clear hR
  go_enter Try.func6, Try.ntmps6
  go_upto_region 1 with (fail)
  rw [← HW.out, ← HZ.out]
  have H0 := Lib.hid (And.intro hh0 (And.intro hz0 hd0))
  clear hw0 hz hh0 hz0 hd0
  go_wp2_with fail
  refine (among_any H N 1 gates _ H0.out.1 (by omega) (by omega) (by omega)).mono ?_
  rintro e w1 ⟨G, rfl, hG1, hG2, hd1⟩
  go_wp2_with fail
  refine (upto_any H (N + 1) 4 _ hd1.hd (by omega) (by omega)).mono ?_
  rintro e w2 ⟨u, rfl, hu, hd2⟩
  go_wp2_with fail
  refine (of_any H (N + 2) 0 (some ⟨w2.heap.size, 0, none⟩) 3 3 [1, 2, (u : Int)] _ (hd2.hd.alloc _) (by omega) (ints3 w2 3 _ _ _) (fun b off e => by cases e; have := hd2.hd.lt; omega) (by omega)).mono ?_
  rintro e w3 ⟨m, rfl, hm, hd3⟩
  have hmb : 0 ≤ m ∧ m ≤ 4 := by
    simp only [List.mem_cons, List.not_mem_nil, or_false] at hm
    omega
  have HD3 := Lib.hid (And.intro hmb (And.intro ((((H0.out.2.2.trans hd1).trans hd2).alloc _).trans hd3) (hd3.blk (hblk_alloc (hd2.blk (hd1.blk H0.out.2.1 (by rw [HZ.out]; omega)) (by rw [HZ.out]; omega)) _) (by rw [HZ.out]; omega))))
  obtain ⟨Gn, rfl⟩ := Int.eq_ofNat_of_zero_le (show 0 ≤ G by omega)
  have HG := Lib.hid (And.intro hG1 hG2)
  clear hm hmb hd1 hd2 hd3 hu hG1 hG2
  go_upto_region 2 with (fail)
  obtain ⟨W4, hW4⟩ : ∃ W, W = w3.alloc (tyC Gn 0 0 (.slice none 0 0) m (.slice none 0 0)) := ⟨_, rfl⟩
  obtain ⟨q, hq⟩ : ∃ q, q = w3.heap.size := ⟨_, rfl⟩
  rw [← hW4, ← hq]
  have hS4 : TrS w H z q (tyC Gn 0 0 (.slice none 0 0) m (.slice none 0 0)) (.slice none 0 0) [] (.slice none 0 0) [] (.slice none 0 0) [] (.slice none 0 0) [] (N + 3) W4 := by
    have hzq := heap_lt HD3.out.2.2
    rw [hW4, hq]
    exact ⟨HD3.out.2.1.alloc _, hHl, by rw [HZ.out]; exact Nat.le_refl _, hzq, hblk_alloc HD3.out.2.2 _, alloc_at rfl, Own.nil_, Own.nil_, Own.nil_, Own.nil_, ApartV.nilL⟩
  have HS4 := Lib.hid hS4
  have HM := Lib.hid HD3.out.1
  clear hW4 hq hS4
  go_wp2_with fail
  refine (among_any H (N + 3) 30 60 _ HS4.out.dl.hd (by omega) (by omega) (by omega)).mono ?_
  rintro e w5 ⟨lo, rfl, hl1, hl2, hd5⟩
  have hlo : 30 ≤ lo ∧ lo ≤ 60 := by omega
  have hS5 := HS4.out.deal hd5
  obtain ⟨c0, c1, c2, c3, c4, c5⟩ := blk6 hS5.bx
  have f1 := frz hS5.bx 1
  have hql := heap_lt hS5.bx
  have HS5 := Lib.hid (show TrS w H z q (tyC Gn lo 0 (.slice none 0 0) m (.slice none 0 0)) (.slice none 0 0) [] (.slice none 0 0) [] (.slice none 0 0) [] (.slice none 0 0) [] (N + 3 + 1) (w5.setCell ⟨q, 1, none⟩ (.int .i64 lo)) from hS5.put (i := 1) (v := .int .i64 lo))
  clear hl1 hl2 hd5 hS5
  go_upto_region 3 with (fail)
  obtain ⟨W5, hW5⟩ : ∃ W, W = w5.setCell ⟨q, 1, none⟩ (.int .i64 lo) := ⟨_, rfl⟩
  rw [← hW5] at HS5 ⊢
  clear hW5 c0 c1 c2 c3 c4 c5 f1 hql
  go_cut [33] from 34 to 45 (fun _ wx => ∃ hi : Int, lo ≤ hi ∧ hi ≤ lo + 6 ∧ TrS w H z q (tyC Gn lo hi (.slice none 0 0) m (.slice none 0 0)) (.slice none 0 0) [] (.slice none 0 0) [] (.slice none 0 0) [] (.slice none 0 0) [] (N + 7) wx)
  case first =>
    have hd1 : Dealt W5 W5.drew H (N + 3 + 1) := (Dealt.refl HS5.out.dl.hd).drewN 1
    obtain ⟨c0, c1, c2, c3, c4, c5⟩ := blk6 (show W5.drew.heap[q]? = _ from HS5.out.bx)
    have hqH : q ≠ H := by have := HS5.out.hH; have := HS5.out.hz; have := HS5.out.zq; omega
    have bq : W5.drew.heap[q]? = some (tyC Gn lo 0 (.slice none 0 0) m (.slice none 0 0)) := HS5.out.bx
    have hlo1 := hlo.1
    have hlo2 := hlo.2
    clear c0 c2 c3 c4 c5
    go_region_held3 (fun w' => w'.cell? ⟨q, 1, none⟩ = some (.int .i64 lo))
      ((first
        | (with_reducible exact c1)
        | (with_reducible exact bcell c1 (bal0 _ _) (Nat.le_refl _))
        | (with_reducible exact (blk6 (tyC_set2 bq)).2.1)
        | fail))
      (first
        | (go_at_call 12; refine (upto_any H _ _ _ hd1.hd (by omega) (by omega)).mono ?_; rintro e w6 ⟨u, rfl, hu, hd6⟩; have hd1 := hd1.trans hd6; have c1 := hd6.cell c1 hqH; have bq := hd6.blk bq hqH)
        | (go_at_call 23; refine (of_any H _ 0 (some ⟨w6.heap.size, 0, none⟩) 2 2 [_, _] _ (hd1.hd.alloc _) (by omega) (ints2 w6 3 _ _) (fun b off e => by cases e; have := hd1.hd.lt; omega) (by omega)).mono ?_; rintro e w7 ⟨x, rfl, hx, hd7⟩; have hd1 := (hd1.alloc _).trans hd7; have c1 := hd7.cell (bcell c1 (bal0 _ _) (Nat.le_refl _)) hqH; have bq := hd7.blk (hblk_alloc bq _) hqH; obtain ⟨-, y1, y2, y3, y4, y5⟩ := blk6 bq; have f2 := frz bq 2; have hql := heap_lt bq; simp only [List.mem_cons, List.not_mem_nil, or_false] at hx; have hxa : 0 ≤ x := (by omega); have hxb : x ≤ 6 := (by omega); clear hx; have hwr : IntKind.i64.wrap (lo + x) = lo + x := IntWalk.i64_in _ (by omega); have HF := Lib.hid (And.intro hxa (And.intro hxb hd1)))
        | fail)
    all_goals
      go_wp2_with fail
      go_meet
      obtain ⟨hxa, hxb, hd⟩ := HF.out
      exact ⟨lo + x, by omega, by omega, (HS5.out.deal (hd.mono (by omega))).put (i := 2) (v := .int .i64 (lo + x))⟩
  case rest =>
    obtain ⟨hi, hi1, hi2, hS⟩ := hcut
    obtain ⟨c0, c1, c2, c3, c4, c5⟩ := blk6 hS.bx
    have hlo1 := hlo.1
    have hlo2 := hlo.2
    have HS6 := Lib.hid hS
    clear hS
    go_wp2_with fail
    refine (among_any H (N + 7) lo hi _ HS6.out.dl.hd (by omega) (by omega) (by omega)).mono ?_
    rintro e w7 ⟨now, rfl, hw1, hw2, hd7⟩
    have hS7 := HS6.out.deal hd7
    have HS7 := Lib.hid hS7
    have HNW := Lib.hid (show lo ≤ now ∧ now ≤ hi from ⟨hw1, by omega⟩)
    clear hS7 hd7 hw1 hw2 c0 c1 c2 c3 c4 c5
    go_upto_region 8 with (fail)
    have hS8 : TrS w H z q (tyC Gn lo hi (.slice none 0 0) m (.slice none 0 0)) (.slice none 0 0) [] (.slice none 0 0) [] (.slice (some ⟨w7.heap.size, 0, none⟩) 1 1) [now] (.slice none 0 0) [] (N + 8) (w7.alloc (.cells #[.int .i64 now] 3 (0, 0))) := by
      have h := HS7.out.alloc (.cells #[.int .i64 now] 3 (0, 0))
      exact ⟨h.dl, h.hH, h.hz, h.zq, h.rb, h.bx, h.oC, h.oK, Own.lit w7 (q + 1) #[.int .i64 now] [now] rfl lenInt (heap_lt HS7.out.bx) (by simp [maxLen]), h.oL, ApartV.nilR⟩
    obtain ⟨W8, hW8⟩ : ∃ W, W = w7.alloc (.cells #[.int .i64 now] 3 (0, 0)) := ⟨_, rfl⟩
    obtain ⟨v0, hv0⟩ : ∃ v, v = Value.slice (some ⟨w7.heap.size, 0, none⟩) 1 1 := ⟨_, rfl⟩
    rw [← hW8, ← hv0]
    rw [← hW8, ← hv0] at hS8
    have HS8 := Lib.hid hS8
    clear hS8 hW8 hv0
    go_loopg [10, 11, 12, 13, 14, 15] (Gn - 1) (fun gg v10 v11 v12 v13 _ _ wr => ∃ (k : Nat) (ch : List Sp) (ns ls : List Int) (vC : Value), k + 1 + gg = Gn ∧ v13 = .int .i64 ((k : Int) + 1) ∧ v10 = .int .i64 (ns.getD k 0) ∧ k = ch.length ∧ TruP lo hi m ch ns ls ∧ TrS w H z q (tyC Gn lo hi vC m (.slice none 0 0)) vC ch (.slice none 0 0) [] v11 ns v12 ls (N + 8 + 10 * k) wr)
    case atStart =>
      have := HG.out.1
      refine ⟨0, [], [now], [], _, by omega, rfl, rfl, rfl, ⟨rfl, rfl, (fun _ h => nomatch h), HNW.out, (fun k hk => nomatch hk), fun k hk => ?_⟩, HS8.out⟩
      have hk0 : k = 0 := Nat.le_zero.1 hk
      subst hk0
      have := HNW.out
      show 30 - 7 * ((0 : Nat) : Int) ≤ now ∧ now ≤ 66 + 4 * ((0 : Nat) : Int)
      omega
    case round =>
      obtain ⟨k, ch, ns, ls, vC, hk, rfl, rfl, rfl, hP, hS⟩ := hrel
      obtain ⟨c0, c1, c2, c3, c4, c5⟩ := blk6 hS.bx
      have HK := Lib.hid (And.intro hk (And.intro hP hS))
      obtain ⟨x, hx⟩ : ∃ x, x = ns.getD ch.length 0 := ⟨_, rfl⟩
      have hxb := hP.b ch.length (Nat.le_refl _)
      rw [← hx] at hxb ⊢
      have HX := Lib.hid hx
      have hG5 := HG.out
      have hch : ch.length ≤ 4 := by omega
      clear hx hP hS hk
      by_cases hlt : ch.length + 1 < Gn
      · have hlt' : (ch.length : Int) + 1 < (Gn : Int) := by omega
        go_wp2_with fail
        refine (among_any H (N + 8 + 10 * ch.length) (-3) 2 _ HK.out.2.2.dl.hd (by omega) (by omega) (by omega)).mono ?_
        rintro e w1 ⟨a, rfl, ha1, ha2, hd1⟩
        have hS1 := HK.out.2.2.deal hd1
        have ha2 : a ≤ 2 := by omega
        have HS1 := Lib.hid (And.intro hS1.off (hS1.alloc (.cells #[.int .i64 a, .int .i64 0] 26 (0, 0))))
        clear hd1 hS1 c0 c1 c2 c3 c4 c5
        go_upto_region 11 with (fail)
        obtain ⟨p, hp⟩ : ∃ p, p = w1.heap.size := ⟨_, rfl⟩
        obtain ⟨W1, hW1⟩ : ∃ W, W = w1.alloc (.cells #[.int .i64 a, .int .i64 0] 26 (0, 0)) := ⟨_, rfl⟩
        have bp1 : W1.heap[p]? = some (.cells #[.int .i64 a, .int .i64 0] 26 (0, 0)) := by rw [hW1, hp]; exact alloc_at rfl
        rw [← hp, ← hW1]
        rw [← hp, ← hW1] at HS1
        have HBP := Lib.hid bp1
        clear hp hW1 bp1
        go_cut [65] from 66 to 70 (fun _ wx => ∃ b : Int, a ≤ b ∧ b ≤ a + 2 ∧ wx.heap[p]? = some (.cells #[.int .i64 a, .int .i64 b] 26 (0, 0)) ∧ TrS w H z q (tyC Gn lo hi vC m (.slice none 0 0)) vC ch (.slice none 0 0) [] u11 ns u12 ls (N + 8 + 10 * ch.length + 2) wx)
        case first =>
          have hd1 : Dealt W1 W1.drew H (N + 8 + 10 * ch.length + 1) := (Dealt.refl HS1.out.2.dl.hd).drewN 1
          have bp : W1.drew.heap[p]? = some (.cells #[.int .i64 a, .int .i64 0] 26 (0, 0)) := HBP.out
          obtain ⟨c1, -⟩ := blk2 bp
          have hpH : p ≠ H := by have := HS1.out.1.1; have := HS1.out.2.hH; have := HS1.out.2.hz; have := HS1.out.2.zq; omega
          go_region_held3 (fun w' => w'.cell? ⟨p, 0, none⟩ = some (.int .i64 a))
            ((first
              | (with_reducible exact c1)
              | (with_reducible exact (blk2 (rn_set1 bp)).1)
              | fail))
            (first
              | (go_at_call 12; refine (upto_any H _ _ _ hd1.hd (by omega) (by omega)).mono ?_; rintro e w6 ⟨b, rfl, hu, hd6⟩; have c1 := hd6.cell c1 hpH; have bp := hd6.blk bp hpH; have ⟨y0, y1⟩ := blk2 bp; have f1 := frz bp 1; have hpl := heap_lt bp; have hu2 : (b : Int) ≤ 2 := (by omega); clear hu; have hwr : IntKind.i64.wrap (a + b) = a + b := IntWalk.i64_in _ (by omega); have HF := Lib.hid (And.intro hu2 (And.intro bp (hd1.trans hd6))))
              | fail)
          all_goals
            go_wp2_with fail
            go_meet
            obtain ⟨hu2, bp, hd⟩ := HF.out
            exact ⟨a + b, by omega, by omega, rn_set1 bp, (HS1.out.2.deal hd).far HS1.out.1.1 HS1.out.1.2.1 HS1.out.1.2.2.1 HS1.out.1.2.2.2.1 HS1.out.1.2.2.2.2⟩
        case rest =>
          obtain ⟨b, hb1, hb2, bp, hS2⟩ := hcut
          obtain ⟨c0, c1, c2, c3, c4, c5⟩ := blk6 hS2.bx
          have hpH : p ≠ H := by have := HS1.out.1.1; have := hS2.hH; have := hS2.hz; have := hS2.zq; omega
          have hm2 := HM.out.2
          have HS2 := Lib.hid (And.intro bp hS2)
          clear bp hS2
          go_wp2_with fail
          refine (upto_any H (N + 8 + 10 * ch.length + 2) m _ HS2.out.2.dl.hd (by omega) (by omega)).mono ?_
          rintro e w3 ⟨l, rfl, hl, hd3⟩
          have hl2 : (l : Int) ≤ m := by have := HM.out.1; omega
          have hl4 : (l : Int) ≤ 4 := by omega
          have bp3 := hd3.blk HS2.out.1 hpH
          obtain ⟨y0, y1⟩ := blk2 bp3
          have HS3 := Lib.hid (And.intro bp3 (HS2.out.2.deal hd3))
          clear hl hd3 bp3 c0 c1 c2 c3 c4 c5
          go_wp2_with fail
          refine (among_any H (N + 8 + 10 * ch.length + 3) a b _ HS3.out.2.dl.hd (by omega) (by omega) (by omega)).mono ?_
          rintro e w4 ⟨y, rfl, hy1, hy2, hd4⟩
          have hyb : y ≤ b := by omega
          have hS4 := HS3.out.2.deal hd4
          have bp4 := hd4.blk HS3.out.1 hpH
          clear y0 y1 hy2
          obtain ⟨y0, y1⟩ := blk2 bp4
          obtain ⟨c0, c1, c2, c3, c4, c5⟩ := blk6 hS4.bx
          have hxy : IntKind.i64.wrap (x + y) = x + y := IntWalk.i64_in _ (by omega)
          have hxl : IntKind.i64.wrap (x + y - l) = x + y - l := IntWalk.i64_in _ (by omega)
          have HS4 := Lib.hid (And.intro hS4 (And.intro (heap_lt hS4.bx) (And.intro hxb (And.intro hl2 (And.intro hb1 (And.intro hb2 (And.intro hy1 hyb)))))))
          have hcl : ch.length < 4294967296 := by omega
          have hnl : ns.length < 4294967296 := by have := HK.out.2.1.n; omega
          have hll : ls.length < 4294967296 := by have := HK.out.2.1.l; omega
          have hqw4 : q + 1 ≤ w4.heap.size := heap_lt hS4.bx
          clear hS4 hd4 bp4
          go_wp2_with (first
            | (at_builtin; refine wp_appL okSp rfl _ _ rfl (q + 1) vC ch ⟨a, b⟩ #[.int .i64 a, .int .i64 b] w4.heap.size rfl rfl (heap_alloc_new w4 _) rfl rfl (one_eSp _) (HS4.out.1.alloc _).oC hcl (by decide) (by simp; omega) ?_; intro g5 cap5 w5 ho5 hgr5 hl5; have hS5 := (HS4.out.1.alloc (.cells #[.int .i64 a, .int .i64 b] 26 (0, 0))).appC ho5 hgr5; have hqw5 : q + 1 ≤ w5.heap.size := heap_lt hS5.bx; have HS5 := Lib.hid hS5; clear hS5 ho5 hgr5 hl5)
            | (at_builtin; refine wp_appL okInt rfl _ _ rfl (q + 1) u11 ns (x + y - l) #[.int .i64 (x + y - l)] w5.heap.size rfl rfl (heap_alloc_new w5 _) rfl rfl (one_eInt _) (HS5.out.alloc _).oN hnl (by decide) (by simp; omega) ?_; intro g6 cap6 w6 ho6 hgr6 hl6; have hS6 := (HS5.out.alloc (.cells #[.int .i64 (x + y - l)] 3 (0, 0))).appN ho6 hgr6 hl6; have hqw6 : q + 1 ≤ w6.heap.size := heap_lt hS6.bx; have HS6 := Lib.hid hS6; clear hS6 ho6 hgr6 hl6)
            | (at_builtin; refine wp_appL okInt rfl _ _ rfl (q + 1) u12 ls (l : Int) #[.int .i64 l] w6.heap.size rfl rfl (heap_alloc_new w6 _) rfl rfl (one_eInt _) (HS6.out.alloc _).oL hll (by decide) (by simp; omega) ?_; intro g7 cap7 w7 ho7 hgr7 hl7; have hS7 := (HS6.out.alloc (.cells #[.int .i64 (l : Int)] 3 (0, 0))).appL ho7 hgr7 hl7; have ⟨q0, q1, q2, q3, q4, q5⟩ := blk6 hS7.bx; have fq := frz hS7.bx 3; have hql := heap_lt hS7.bx; have HS7 := Lib.hid hS7; clear hS7 ho7 hgr7 hl7)
            | fail)
          go_roundg (gk - 1)
          case measure => have := HK.out.1; omega
          case rel =>
            obtain ⟨-, -, hxb, hl2, hb1, hb2, hy1, hyb⟩ := HS4.out
            have hP := HK.out.2.1
            refine ⟨ch.length + 1, ch ++ [Sp.mk a b], ns ++ [x + y - l], ls ++ [(l : Int)], .slice (some ⟨g5, 0, none⟩) (ch.length + 1) cap5, by have := HK.out.1; omega, by go_num, ?_, by simp, ?_, TrS.mono (M := N + 8 + 10 * ch.length + 3 + 1) (HS7.out.put (i := 3) (v := .slice (some ⟨g5, 0, none⟩) (ch.length + 1) cap5)) (by omega)⟩
            · rw [getD_app2 hP.n.symm]
            · have h := hP.snoc (s := ⟨a, b⟩) (x := y) (l := l) ha1 ha2 hb1 hb2 hy1 hyb (by omega) hl2 HM.out.2
              rw [← HX.out] at h
              exact h
      · have HKG := Lib.hid (show ch.length + 1 = Gn by have := HK.out.1; omega)
        have hnl : ¬ (ch.length : Int) + 1 < (Gn : Int) := by omega
        have HS9 := Lib.hid (HK.out.2.2.mono (show N + 8 + 10 * ch.length ≤ N + 50 by omega))
        have HP := Lib.hid HK.out.2.1
        obtain ⟨A, cN, rfl, -, hcn, hcm⟩ := HS9.out.oN.form lenInt
        clear HK hlt hG5
        go_wp2_with fail
        refine (upto_any H (N + 50) counts _ HS9.out.dl.hd (by omega) (by omega)).mono ?_
        rintro e w8 ⟨i0, rfl, hi, hd8⟩
        have HI := Lib.hid (show (i0 : Int) ≤ 7 by omega)
        have HS10 := Lib.hid (HS9.out.deal hd8)
        clear hi hd8 c0 c1 c2 c3 c4 c5
        go_wp2_with fail
        go_loopg [16, 17, 18] i0 (fun gg v16 _ _ wr => ∃ (cs : List Ct) (vK : Value), v16 = .int .i64 (gg : Int) ∧ cs.length + gg = i0 ∧ TrS w H z q (tyC Gn lo hi vC m vK) vC ch vK cs (.slice A ns.length cN) ns u12 ls (N + 60 + 10 * cs.length) wr ∧ ∀ c ∈ cs, CtOk (Gn : Int) c ∧ (readsS c).has (ns.getD c.g.toNat 0))
        case atStart => exact ⟨[], _, rfl, by simp, HS10.out.mono (by omega), fun _ h => nomatch h⟩
        case round =>
          obtain ⟨cs, vK, rfl, hcl, hS, hcs⟩ := hrel
          by_cases hpos : 0 < gk
          · have hpos' : (0 : Int) < (gk : Int) := by omega
            have hi7 := HI.out
            have HK := Lib.hid (And.intro hcl (And.intro hS hcs))
            obtain ⟨c0, c1, c2, c3, c4, c5⟩ := blk6 hS.bx
            have hG5 := HG.out
            clear hcl hcs hS
            obtain ⟨M, hM⟩ : ∃ M, M = N + 60 + 10 * cs.length := ⟨_, rfl⟩
            have hMN : M ≤ N + 130 := by have := HK.out.1; omega
            rw [← hM] at HK
            have HMM := Lib.hid hM
            clear hM
            go_wp2_with fail
            refine (upto_any H M ((Gn : Int) - 1) _ HK.out.2.1.dl.hd (by omega) (by omega)).mono ?_
            rintro e w1 ⟨g0, rfl, hg0, hd1⟩
            have hg0 : g0 < Gn := by omega
            go_wp2_with fail
            refine (among_any H (M + 1) 1 4 _ hd1.hd (by omega) (by omega) (by omega)).mono ?_
            rintro e w2 ⟨mm, rfl, hm1, hm2, hd2⟩
            have hm2 : mm ≤ 4 := by omega
            go_wp2_with fail
            refine (upto_any H (M + 2) 10 _ hd2.hd (by omega) (by omega)).mono ?_
            rintro e w3 ⟨u1, rfl, hu1, hd3⟩
            go_wp2_with fail
            refine (upto_any H (M + 3) 20 _ hd3.hd (by omega) (by omega)).mono ?_
            rintro e w4 ⟨u2, rfl, hu2, hd4⟩
            go_wp2_with fail
            refine (of_any H (M + 4) 0 (some ⟨w4.heap.size, 0, none⟩) 4 4 [0, 3, (u1 : Int), (u2 : Int)] _ (hd4.hd.alloc _) (by omega) (Sl.lit w4 3 _ [0, 3, (u1 : Int), (u2 : Int)] rfl lenInt (by simp [maxLen])) (fun b off e => by cases e; have := hd4.hd.lt; omega) (by omega)).mono ?_
            rintro e w5 ⟨er, rfl, he, hd5⟩
            have heb : 0 ≤ er ∧ er ≤ 20 := by
              simp only [List.mem_cons, List.not_mem_nil, or_false] at he
              omega
            have hS5 := (((((HK.out.2.1.deal hd1).deal hd2).deal hd3).deal hd4).alloc (.cells #[.int .i64 0, .int .i64 3, .int .i64 (u1 : Int), .int .i64 (u2 : Int)] 3 (0, 0))).deal hd5
            have HS5 := Lib.hid (And.intro hS5.off (hS5.alloc (.cells #[.int .i64 (g0 : Int), .int .i64 mm, .int .i64 0, .int .i64 er] 76 (0, 0))))
            clear he hd1 hd2 hd3 hd4 hd5 hS5 hu1 hu2 c0 c1 c2 c3 c4 c5
            go_upto_region 19 with (fail)
            obtain ⟨p, hp⟩ : ∃ p, p = w5.heap.size := ⟨_, rfl⟩
            obtain ⟨W5, hW5⟩ : ∃ W, W = w5.alloc (.cells #[.int .i64 (g0 : Int), .int .i64 mm, .int .i64 0, .int .i64 er] 76 (0, 0)) := ⟨_, rfl⟩
            have bp : W5.heap[p]? = some (.cells #[.int .i64 (g0 : Int), .int .i64 mm, .int .i64 0, .int .i64 er] 76 (0, 0)) := by rw [hW5, hp]; exact alloc_at rfl
            rw [← hp, ← hW5]
            rw [← hp, ← hW5] at HS5
            clear hp hW5
            obtain ⟨p0, p1, p2, p3⟩ := blk4 bp
            obtain ⟨b, off, y, rfl, hbl, hy, n0⟩ := Ints.get (HS5.out.2.oN.sl lenInt).1 (show g0 < ns.length by have := HP.out.n; have := HKG.out; omega)
            have hyb : 0 ≤ y ∧ y ≤ 100 := by
              have h := HP.out.b g0 (by have := HKG.out; omega)
              have h2 : ns.getD g0 0 = y := by rw [List.getD_eq_getElem?_getD, hy]; rfl
              rw [h2] at h
              omega
            have HY := Lib.hid hy
            obtain ⟨d, hd⟩ : ∃ d, d = (er * y).tdiv 100 := ⟨_, rfl⟩
            have hp0 : 0 ≤ er * y := Int.mul_nonneg heb.1 hyb.1
            have hp1 : er * y ≤ 2000 := by
              have : er * y ≤ 20 * 100 := Int.mul_le_mul heb.2 hyb.2 hyb.1 (by omega)
              omega
            have hd2 : 0 ≤ d ∧ d ≤ 20 := by
              rw [hd, Int.tdiv_eq_ediv_of_nonneg hp0]
              omega
            have hw1 : IntKind.i64.wrap (er * y) = er * y := IntWalk.i64_in _ (by omega)
            have hw2 : IntKind.i64.wrap ((er * y).tdiv 100) = d := by rw [← hd]; exact IntWalk.i64_in _ (by omega)
            have HBP := Lib.hid bp
            have HD := Lib.hid hd
            have hpl := heap_lt bp
            have hgn : g0 < ns.length := by have := HP.out.n; have := HKG.out; omega
            have hgi : (g0 : Int) < (ns.length : Int) := by omega
            have hg0' : (0 : Int) ≤ (g0 : Int) := by omega
            clear bp hy hd
            go_quiet (fail)
            obtain ⟨W6, hW6⟩ : ∃ W, W = W5.drewN nq := ⟨_, rfl⟩
            have hd6 : Dealt W5 W6 H (M + 4 + 1) := by rw [hW6]; exact (Dealt.refl HS5.out.2.dl.hd).drewN nq
            have bp6 : W6.heap[p]? = some (.cells #[.int .i64 (g0 : Int), .int .i64 mm, .int .i64 0, .int .i64 er] 76 (0, 0)) := by rw [hW6]; exact HBP.out
            have n6 : W6.cell? ⟨b, off + g0, none⟩ = some (.int .i64 y) := by rw [hW6]; exact n0
            rw [← hW6]
            have HS6 := Lib.hid (HS5.out.2.deal hd6)
            have HP6 := Lib.hid (And.intro HS5.out.1 (And.intro bp6 n6))
            have hbo := HS6.out.oN.lt b rfl
            have hbq : q + 1 ≤ b := hbo.1
            clear hW6 hd6 bp6 n6 n0 p0 p1 p2 p3 HBP hw1 hw2 hpl hbo
            go_upto_region 20 with (fail)
            go_cut [131] from 132 to 142 (fun _ wx => ∃ v : Int, -d ≤ v ∧ (v ≤ d ∨ v = -d) ∧ wx.heap[p]? = some (.cells #[.int .i64 (g0 : Int), .int .i64 mm, .int .i64 (y + v), .int .i64 er] 76 (0, 0)) ∧ TrS w H z q (tyC Gn lo hi vC m vK) vC ch vK cs (.slice (some ⟨b, off, none⟩) ns.length cN) ns u12 ls (M + 6) wx)
            case first =>
              have hd1 : Dealt W6 W6.drew H (M + 4 + 1) := (Dealt.refl HS6.out.dl.hd).drewN 1
              have bp : W6.drew.heap[p]? = some (.cells #[.int .i64 (g0 : Int), .int .i64 mm, .int .i64 0, .int .i64 er] 76 (0, 0)) := HP6.out.2.1
              have n1 : W6.drew.cell? ⟨b, off + g0, none⟩ = some (.int .i64 y) := HP6.out.2.2
              obtain ⟨c1, -⟩ := blk4 bp
              have hbH : b ≠ H := by have := HS6.out.hH; have := HS6.out.hz; have := HS6.out.zq; omega
              have hbp : b ≠ p := fun e => HP6.out.1.2.2.2.1 (by rw [← e]; rfl)
              have hpH : p ≠ H := by have := HP6.out.1.1; have := HS6.out.hH; have := HS6.out.hz; have := HS6.out.zq; omega
              have hneg : IntKind.i64.wrap (-d) = -d := IntWalk.i64_in _ (by omega)
              go_region_held3 (fun w' => w'.cell? ⟨p, 0, none⟩ = some (.int .i64 (g0 : Int)) ∧ w'.cell? ⟨b, off + g0, none⟩ = some (.int .i64 y))
                ((go_split_ands
                  refine ⟨?_, ?_⟩
                  all_goals first
                    | (with_reducible exact c1)
                    | (with_reducible exact n1)
                    | (with_reducible exact (blk4 (ct_set2 bp)).1)
                    | (with_reducible exact cell_far n1 hbp)
                    | fail))
                (first
                  | (go_at_call 22; (try rw [hneg]); refine (among_any H _ (-d) d _ hd1.hd (by omega) (by omega) (by omega)).mono ?_; rintro e w6 ⟨v, rfl, hv1, hv2, hd6⟩; have c1 := hd6.cell c1 hpH; have n1 := hd6.cell n1 hbH; have bp := hd6.blk bp hpH; have ⟨y0, y1, y2, y3⟩ := blk4 bp; have f1 := frz bp 2; have hpl := heap_lt bp; have hwr : IntKind.i64.wrap (y + v) = y + v := IntWalk.i64_in _ (by omega); have HF := Lib.hid (And.intro hv1 (And.intro hv2 (And.intro bp (hd1.trans hd6)))))
                  | fail)
              all_goals
                go_wp2_with fail
                go_meet
                obtain ⟨hv1, hv2, bp, hd⟩ := HF.out
                exact ⟨v, hv1, hv2, ct_set2 bp, (HS6.out.deal hd).far HP6.out.1.1 HP6.out.1.2.1 HP6.out.1.2.2.1 HP6.out.1.2.2.2.1 HP6.out.1.2.2.2.2⟩
            case rest =>
              obtain ⟨v, hv1, hv2, bp, hS7⟩ := hcut
              obtain ⟨c0, c1, c2, c3, c4, c5⟩ := blk6 hS7.bx
              obtain ⟨p0, p1, p2, p3⟩ := blk4 bp
              have hqw : q + 1 ≤ wc.heap.size := heap_lt hS7.bx
              have hcl2 : cs.length < 4294967296 := by have := HK.out.1; omega
              have HS7 := Lib.hid hS7
              have HV := Lib.hid (And.intro hv1 hv2)
              clear hS7 bp hv1 hv2
              go_wp2_with (first
                | (at_builtin; refine wp_appL okCt rfl _ _ rfl (q + 1) vK cs ⟨(g0 : Int), mm, y + v, er⟩ #[.int .i64 (g0 : Int), .int .i64 mm, .int .i64 (y + v), .int .i64 er] wc.heap.size rfl rfl (heap_alloc_new wc _) rfl rfl (one_eCt _) (HS7.out.alloc _).oK hcl2 (by decide) (by simp; omega) ?_; intro g5 cap5 w5 ho5 hgr5 hl5; have hS8 := (HS7.out.alloc (.cells #[.int .i64 (g0 : Int), .int .i64 mm, .int .i64 (y + v), .int .i64 er] 76 (0, 0))).appK ho5 hgr5; have ⟨q0, q1, q2, q3, q4, q5⟩ := blk6 hS8.bx; have fq := frz hS8.bx 5; have hql := heap_lt hS8.bx; have HS8 := Lib.hid hS8; clear hS8 ho5 hgr5 hl5)
                | fail)
              go_roundg (gk - 1)
              case measure => omega
              case rel =>
                have hcs := HK.out.2.2
                have hgk7 : gk ≤ 7 := by have := HK.out.1; omega
                have hy2 : ns.getD g0 0 = y := by rw [List.getD_eq_getElem?_getD, HY.out]; rfl
                have hdy : d ≤ y := by
                  have h1 : er * y ≤ 20 * y := Int.mul_le_mul_of_nonneg_right heb.2 hyb.1
                  have h2 := HD.out
                  rw [Int.tdiv_eq_ediv_of_nonneg hp0] at h2
                  omega
                obtain ⟨hv1, hv2⟩ := HV.out
                have hok : CtOk (Gn : Int) ⟨(g0 : Int), mm, y + v, er⟩ := ⟨by dsimp only; omega, by dsimp only; omega, by dsimp only; omega, heb⟩
                refine ⟨cs ++ [Ct.mk (g0 : Int) mm (y + v) er], .slice (some ⟨g5, 0, none⟩) (cs.length + 1) cap5, by rw [show wrap64 ((gk : Int) - 1) = ((gk - 1 : Nat) : Int) from (IntWalk.wrap64_in _ (by omega)).trans (by omega)], by have := HK.out.1; rw [List.length_append, List.length_singleton]; omega, TrS.mono (M := M + 6) (HS8.out.put (i := 5) (v := .slice (some ⟨g5, 0, none⟩) (cs.length + 1) cap5)) (by have := HMM.out; rw [List.length_append, List.length_singleton]; omega), fun c hc => ?_⟩
                rcases List.mem_append.1 hc with h | h
                · exact hcs c h
                · rw [List.mem_singleton.1 h]
                  refine ⟨hok, ?_⟩
                  show (readsS _).has (ns.getD (Int.toNat (g0 : Int)) 0)
                  rw [Int.toNat_natCast, hy2]
                  exact ct_has hok hyb.1 HD.out hv1 hv2 rfl
          · have hk0 : gk = 0 := by omega
            subst hk0
            have HK := Lib.hid (And.intro hcl (And.intro hS hcs))
            obtain ⟨AC, cC, rfl, -, -, -⟩ := hS.oC.form lenSp
            obtain ⟨AK, cK, rfl, -, -, -⟩ := hS.oK.form lenCt
            obtain ⟨c0, c1, c2, c3, c4, c5⟩ := blk6 hS.bx
            obtain ⟨z0, z1, z2, z3, z4, z5⟩ := blk6 hS.rb
            obtain ⟨f0, f1, f2, f3, f4, f5⟩ := And.intro (frz hS.rb 0) (And.intro (frz hS.rb 1) (And.intro (frz hS.rb 2) (And.intro (frz hS.rb 3) (And.intro (frz hS.rb 4) (frz hS.rb 5)))))
            have hql := heap_lt hS.bx
            have hzl := heap_lt hS.rb
            clear hcl hcs hS
            go_wp2_with fail
            obtain ⟨hz, hg⟩ := tru_put (g := (Gn : Int)) (lo := lo) (hi := hi) (vC := .slice AC ch.length cC) (m := m) (vK := .slice AK cs.length cK) HK.out.2.1.rb
            obtain ⟨Z, hZ⟩ : ∃ Z, Z = ((((((wr.setCell ⟨z, 0, none⟩ (.int .i64 (Gn : Int))).setCell ⟨z, 1, none⟩ (.int .i64 lo)).setCell ⟨z, 2, none⟩ (.int .i64 hi)).setCell ⟨z, 3, none⟩ (.slice AC ch.length cC)).setCell ⟨z, 4, none⟩ (.int .i64 m)).setCell ⟨z, 5, none⟩ (.slice AK cs.length cK)) := ⟨_, rfl⟩
            rw [← hZ] at hz hg ⊢
            clear hZ c0 c1 c2 c3 c4 c5 z0 z1 z2 z3 z4 z5 f0 f1 f2 f3 f4 f5 hql hzl
            obtain ⟨z0, z1, z2, z3, z4, z5⟩ := blk6 hz
            have hzl := heap_lt hz
            have hcs7 : cs.length ≤ 7 := by have := HK.out.1; have := HI.out; omega
            have hG5 := HG.out
            obtain ⟨k1, k2, k3⟩ := HP.out.ok (cs := cs) HKG.out (by omega) hlo hi1 hi2 HM.out hcs7 HK.out.2.2
            obtain ⟨o1, o2, o3⟩ := HK.out.2.1.fin hg
            have HF := Lib.hid (show TruR w H (N + 200) gates (.returned (.tuple #[tyV ⟨Gn, ⟨lo, hi⟩, ch, m, cs⟩ ⟨AC, cC, AK, cK⟩, .slice A ns.length cN, u12])) Z from ⟨⟨Gn, ⟨lo, hi⟩, ch, m, cs⟩, ⟨AC, cC, AK, cK⟩, _, _, ns, ls, rfl, k1, k2, by dsimp only; omega, k3, o1, o2, o3.mono (by omega)⟩)
            clear k1 k2 k3 o1 o2 o3 hg hz hG5
            exact bodyPost_ret (v := .tuple #[tyV ⟨Gn, ⟨lo, hi⟩, ch, m, cs⟩ ⟨AC, cC, AK, cK⟩, .slice A ns.length cN, u12]) (by simp [results, Try.f6, go_sem, z0, z1, z2, z3, z4, z5, hzl]) rfl (by rw [HR.out]; exact HF.out)
end Go.Proofs.Ytgnjknihgjdedaa
