/- TopFold 20: TyK, TyS. -/
import Derived.Test.YtgnjknihgjdedaaTf19
import Derived.Test.YtgnjknihgjdedaaTf12
namespace Go.Proofs.Ytgnjknihgjdedaa
open Go.RowKit Go.MapKept Go.ChangeMaps
set_option linter.unusedVariables false
set_option linter.unusedSimpArgs false

theorem KpX.gb {A B : World} {q : Nat} (h : A.grownBy B (some q)) : KpX q A B := ⟨h.size, fun j o hj ho _ => (h.block j (heap_lt ho) (fun e => hj (by injection e))).trans ho⟩
theorem gb_belowT {A B : World} {q n : Nat} (h : A.grownBy B (some q)) (hq : n ≤ q) (hn : n ≤ A.heap.size) : Below n A B := ⟨h.os, h.tape, h.output, h.size, fun j hj => h.block j (by omega) (fun e => by injection e with e; omega)⟩
set_option maxRecDepth 100000 in
set_option maxHeartbeats 2000000 in
theorem tLost_any (T : Ty) (p : Tp) (a b : Nat) (w : World) (hk : TyOk T) (hi : TyIn w T p) (ht : TyT T) (hL : LsOk T T.outs) (hab : a < b) (hb : (b : Int) < T.g) :
    Calls Try.prog 8 #[tyV T p, .int .i64 a, .int .i64 b] w fun e w' => e = .returned (.tuple #[spV (lostF T T.outs a b), .int .i64 0]) ∧ Below w.heap.size w w' := by
  obtain ⟨G, hG⟩ := Int.eq_ofNat_of_zero_le (show 0 ≤ T.g by have := hk.g; omega)
  have hG5 : G ≤ 5 := by have := hk.g; omega
  have hGn : T.outs.length = G := by rw [outs_len]; omega
  have hg1 : T.g.toNat = G := by omega
  obtain ⟨W, hW⟩ : ∃ W, W = (w.alloc (tyO T p)).alloc (.cells #[.int .i64 0, .int .i64 0] 26) := ⟨_, rfl⟩
  obtain ⟨r, hr⟩ : ∃ r, r = w.heap.size := ⟨_, rfl⟩
  have b0 : W.heap[r]? = some (tyO T p) := by rw [hW, hr]; exact hblk_alloc (alloc_at rfl) _
  have b1 : W.heap[r + 1]? = some (.cells #[.int .i64 0, .int .i64 0] 26 (0, 0)) := by rw [hW, hr]; exact alloc_at (by simp)
  have hbW : Below w.heap.size w W := by rw [hW]; exact bal (bal0 w _) (Nat.le_refl _) _
  have hiW := hi.below hbW (Nat.le_refl _)
  have has := tasked_any T p W hk hiW
  unfold tyV at has
  have c1 := fun w => tbt_ok (n := (a : Int)) (lo := 0) (hi := T.g - 1) (by omega) w
  have c2 := fun w => tbt_ok (n := (b : Int)) (lo := 0) (hi := T.g - 1) (by omega) w
  have hbG : b < G := by omega
  have hab' : ¬ (b : Int) ≤ (a : Int) := by omega
  have HI := Lib.hid (And.intro hk (And.intro hiW (And.intro b0 (And.intro b1 (And.intro hbW (And.intro ht (And.intro hL (And.intro hGn hg1))))))))
  have HW := Lib.hid (And.intro hW hr)
  obtain ⟨p0, p1, p2, p3, p4, p5⟩ := blk6 b0
  have hrl := heap_lt b0
  have hG1 := hk.g
  have HG := Lib.hid hG
  clear hk hi ht hL hb hW hr b0 b1 hbW hiW hGn hg1 hG
  unfold tyV
  go_enter Try.func8, Try.ntmps8
  go_upto_region 1 with (fail)
  rw [show (w.alloc (Obj.cells #[Value.int .i64 T.g, .int .i64 T.f.lo, .int .i64 T.f.hi, .slice p.A T.ch.length p.c, .int .i64 T.m, .slice p.B T.cs.length p.d] 30)).alloc (Obj.cells #[Value.int .i64 0, .int .i64 0] 26) = W from HW.out.1.symm, ← HW.out.2]
  go_upto_region 2 with (go_at_call 32; (with_reducible refine has.mono ?_); rintro e w1 ⟨⟨k, M, rfl, hk1, hM1, hkM, bk, bM⟩, hb1⟩; have H1 := Lib.hid (And.intro hk1 (And.intro hM1 (And.intro hkM (And.intro bk (And.intro bM hb1))))); have b01 := bheap HI.out.2.2.1 hb1 (Nat.le_refl _); clear hk1 hM1 hkM bk bM hb1)
  obtain ⟨q0, q1, q2, q3, q4, q5⟩ := blk6 b01
  have hrl1 := heap_lt b01
  clear has p0 p1 p2 p3 p4 p5 hrl b01
  have hi1 := HI.out.2.1.below H1.out.2.2.2.2.2 (Nat.le_refl _)
  have hat1 : TyAt w1 T p k M := ⟨H1.out.2.2.2.1, hi1⟩
  have htr := ttruly_any T p k M 0 w1 HI.out.1 hat1 H1.out.2.2.2.2.1 HI.out.2.2.2.2.2.1
  rw [HI.out.2.2.2.2.2.2.2.2] at htr
  have HT := Lib.hid hat1
  clear hat1 hi1
  go_upto_region 9 with (first
    | (go_at_call 33; (first | (with_reducible refine (c1 _).mono ?_) | (with_reducible refine (c2 _).mono ?_)); rintro e w' ⟨rfl, rfl⟩)
    | (go_at_call 34; (with_reducible refine htr.mono ?_); rintro e w2 ⟨⟨g, rfl, hg, sg⟩, hgb⟩; have H2 := Lib.hid (And.intro hg (And.intro sg hgb)); clear hg sg hgb))
  clear c1 c2 htr q0 q1 q2 q3 q4 q5
  have hWM : W.heap.size ≤ M := H1.out.2.1
  have hb12 : Below W.heap.size w1 w2 := gb_belowT H2.out.2.2 hWM (H1.out.2.2.2.2.2.size)
  have hof : OffT T p k M := by
    have h := (TyAt.off (p := p) (T := T) (k := k) (M := M) (w := w1) HT.out (Nat.le_refl _))
    exact ⟨H1.out.2.2.1, fun hn bb o e => by have := sl_lt HI.out.2.1.a (by decide) lenSp hn bb o e; omega, fun hn bb o e => by have := sl_lt HI.out.2.1.b (by decide) lenCt hn bb o e; omega⟩
  have hat2 := HT.out.kpx (KpX.gb H2.out.2.2) hof
  have hls := tlost_any T p k M g G G a b T.outs w2 HI.out.1 hat2 H2.out.2.1 HI.out.2.2.2.2.2.2.2.1 HI.out.2.2.2.2.2.2.1 (by omega) hbG ⟨Nat.le_refl _, by unfold maxLen; omega⟩
  obtain ⟨R, hR⟩ : ∃ R, R = lostF T T.outs a b := ⟨_, rfl⟩
  rw [← hR] at hls
  have b12 := bheap HI.out.2.2.2.1 (H1.out.2.2.2.2.2.trans hb12) (Nat.le_refl _)
  have hbw2 : Below w.heap.size w w2 := HI.out.2.2.2.2.1.trans ((H1.out.2.2.2.2.2.trans hb12).mono HI.out.2.2.2.2.1.size)
  have HF := Lib.hid (And.intro hR (And.intro b12 hbw2))
  clear hR b12 hbw2 hb12 hat2
  go_wp2_with (go_at_call 35; (with_reducible refine hls.mono ?_); rintro e w3 ⟨rfl, hb3⟩; have b3 := bheap HF.out.2.1 hb3 (Nat.le_refl _); have f0 := frz b3 0; have f1 := frz b3 1; obtain ⟨x0, x1⟩ := blk2 b3; have hl3 := heap_lt b3; have H3 := Lib.hid (And.intro b3 hb3); clear hb3 b3)
  have hz := set_blk (set_blk H3.out.1 (i := 0) (v := .int .i64 R.lo)) (i := 1) (v := .int .i64 R.hi)
  refine bodyPost_ret (v := .tuple #[spV R, .int .i64 0]) ?_ rfl ⟨by rw [HF.out.1], ?_⟩
  · obtain ⟨g0, g1⟩ := blk2 hz
    simp [results, Try.f8, go_sem, g0, g1]
  · have h1 := HW.out.2
    exact Below.setCell (Below.setCell (HF.out.2.2.trans (H3.out.2.mono HF.out.2.2.size)) (p := ⟨r + 1, 0, none⟩) (by dsimp; omega) _) (p := ⟨r + 1, 1, none⟩) (by dsimp; omega) _
theorem run_lo (x y : Int) (w : World) : (Instr.field 91 (.agg #[.int .i64 x, .int .i64 y]) 0).run Try.prog w = .ok (.int .i64 x) w := by kernel_rfl
set_option maxRecDepth 100000 in
set_option maxHeartbeats 2000000 in
theorem tSince_any (T : Ty) (p : Tp) (many : Int) (w : World) (hk : TyOk T) (hi : TyIn w T p) (ht : TyT T) (hL : LsOk T T.outs) (hm : 0 ≤ many) (he : many ≤ (lostF T T.outs 0 (T.g - 1).toNat).lo) :
    Calls Try.prog 9 #[tyV T p, .int .i64 many] w fun e w' => (∃ g0 : Nat, e = .returned (.tuple #[.int .i64 (g0 : Int), .int .i64 0]) ∧ (g0 : Int) < T.g) ∧ Below w.heap.size w w' := by
  obtain ⟨G, hG⟩ := Int.eq_ofNat_of_zero_le (show 0 ≤ T.g by have := hk.g; omega)
  have hG5 : 1 ≤ G ∧ G ≤ 5 := by have := hk.g; omega
  have hGn : T.outs.length = G := by rw [outs_len]; omega
  have hg1 : T.g.toNat = G := by omega
  rw [show (T.g - 1).toNat = G - 1 by omega] at he
  obtain ⟨W, hW⟩ : ∃ W, W = w.alloc (tyO T p) := ⟨_, rfl⟩
  obtain ⟨r, hr⟩ : ∃ r, r = w.heap.size := ⟨_, rfl⟩
  have b0 : W.heap[r]? = some (tyO T p) := by rw [hW, hr]; exact alloc_at rfl
  have hbW : Below w.heap.size w W := by rw [hW]; exact bal0 w _
  have hiW := hi.below hbW (Nat.le_refl _)
  have has := tasked_any T p W hk hiW
  unfold tyV at has
  have HI := Lib.hid (And.intro hk (And.intro hiW (And.intro b0 (And.intro hbW (And.intro ht (And.intro hL (And.intro hGn (And.intro hg1 he))))))))
  have HW := Lib.hid (And.intro hW hr)
  have HG := Lib.hid hG
  obtain ⟨p0, p1, p2, p3, p4, p5⟩ := blk6 b0
  have hrl := heap_lt b0
  have hmn : ¬ many < 0 := by omega
  clear hk hi ht hL hW hr b0 hbW hiW hGn hg1 hG he
  unfold tyV
  go_enter Try.func9, Try.ntmps9
  go_upto_region 1 with (fail)
  rw [show w.alloc (Obj.cells #[Value.int .i64 T.g, .int .i64 T.f.lo, .int .i64 T.f.hi, .slice p.A T.ch.length p.c, .int .i64 T.m, .slice p.B T.cs.length p.d] 30) = W from HW.out.1.symm, ← HW.out.2]
  go_upto_region 2 with (go_at_call 32; (with_reducible refine has.mono ?_); rintro e w1 ⟨⟨k, M, rfl, hk1, hM1, hkM, bk, bM⟩, hb1⟩; have H1 := Lib.hid (And.intro hk1 (And.intro hM1 (And.intro hkM (And.intro bk (And.intro bM hb1))))); have b01 := bheap HI.out.2.2.1 hb1 (Nat.le_refl _); clear hk1 hM1 hkM bk bM hb1)
  have hrl1 := heap_lt b01
  have HB01 := Lib.hid b01
  clear has p0 p1 p2 p3 p4 p5 hrl b01
  have hi1 := HI.out.2.1.below H1.out.2.2.2.2.2 (Nat.le_refl _)
  have hat1 : TyAt w1 T p k M := ⟨H1.out.2.2.2.1, hi1⟩
  have htr := ttruly_any T p k M 0 w1 HI.out.1 hat1 H1.out.2.2.2.2.1 HI.out.2.2.2.2.1
  rw [HI.out.2.2.2.2.2.2.2.1] at htr
  have HT := Lib.hid hat1
  clear hat1 hi1
  go_upto_region 8 with (go_at_call 34; (with_reducible refine htr.mono ?_); rintro e w2 ⟨⟨g, rfl, hg, sg⟩, hgb⟩; have H2 := Lib.hid (And.intro hg (And.intro sg hgb)); clear hg sg hgb)
  clear htr
  have hWM : W.heap.size ≤ M := H1.out.2.1
  have hb12 : Below W.heap.size w1 w2 := gb_belowT H2.out.2.2 hWM (H1.out.2.2.2.2.2.size)
  have hof : OffT T p k M := ⟨H1.out.2.2.1, fun hn bb o e => by have := sl_lt HI.out.2.1.a (by decide) lenSp hn bb o e; omega, fun hn bb o e => by have := sl_lt HI.out.2.1.b (by decide) lenCt hn bb o e; omega⟩
  have hat2 := HT.out.kpx (KpX.gb H2.out.2.2) hof
  have b02 := bheap HI.out.2.2.1 (H1.out.2.2.2.2.2.trans hb12) (Nat.le_refl _)
  have hbw2 : Below w.heap.size w w2 := HI.out.2.2.2.1.trans ((H1.out.2.2.2.2.2.trans hb12).mono HI.out.2.2.2.1.size)
  have HF := Lib.hid (And.intro hat2 hbw2)
  obtain ⟨q0, q1, q2, q3, q4, q5⟩ := blk6 b02
  rw [HG.out] at q0
  have hrl2 := heap_lt b02
  clear hbw2 hb12 hat2 b02
  have hrunlo := run_lo
  go_wp2_with fail
  go_loopg [10, 29, 30, 31, 32, 33, 34, 35, 36, 37, 38, 39, 40] G (fun gh _ v29 _ _ _ _ _ _ _ _ _ _ _ wr => ∃ j : Nat, j + gh = G ∧ v29 = .int .i64 (j : Int) ∧ Below w2.heap.size w2 wr ∧ (j = G → (lostF T T.outs 0 (G - 1)).lo < many))
  case atStart => exact ⟨0, by omega, rfl, Below.refl _ _, fun h => by omega⟩
  case round =>
    obtain ⟨j, hj, rfl, hbr, hlast⟩ := hrel
    have HJ := Lib.hid (And.intro hj (And.intro hbr hlast))
    by_cases hlt : j < G
    · have hat := HF.out.1.below hbr (Nat.le_refl _)
      have hls := tlost_any T p k M g G G 0 j T.outs wr HI.out.1 hat (H2.out.2.1.below hbr (Nat.le_refl _)) HI.out.2.2.2.2.2.2.1 HI.out.2.2.2.2.2.1 (Nat.zero_le _) hlt ⟨Nat.le_refl _, by unfold maxLen; omega⟩
      obtain ⟨R, hR⟩ : ∃ R, R = lostF T T.outs 0 j := ⟨_, rfl⟩
      rw [← hR, show ((0 : Nat) : Int) = 0 from rfl] at hls
      have HR := Lib.hid hR
      clear hat hR hj hbr hlast
      by_cases hge : many ≤ R.lo
      · go_wp2_with (go_at_call 35; (with_reducible refine hls.mono ?_); rintro e w3 ⟨rfl, hb3⟩; have H3 := Lib.hid hb3; clear hb3)
        refine bodyPost_ret (v := .tuple #[.int .i64 (j : Int), .int .i64 0]) (by simp [results, Try.f9, go_sem]) rfl ⟨⟨j, rfl, by have := HG.out; omega⟩, ?_⟩
        have h1 := HF.out.2.trans (HJ.out.2.1.mono HF.out.2.size)
        exact h1.trans (H3.out.mono h1.size)
      · have hge' : R.lo < many := by omega
        have HGE := Lib.hid hge'
        go_wp2_with (go_at_call 35; (with_reducible refine hls.mono ?_); rintro e w3 ⟨rfl, hb3⟩; have H3 := Lib.hid hb3; clear hb3)
        go_roundg (gk - 1)
        case measure => have := HJ.out.1; omega
        case rel => exact ⟨j + 1, by have := HJ.out.1; omega, by go_num, HJ.out.2.1.trans (H3.out.mono HJ.out.2.1.size), fun h => by rw [show G - 1 = j by omega, ← HR.out]; exact HGE.out⟩
    · exfalso
      obtain rfl : j = G := by omega
      have h1 := hlast rfl
      have h2 := HI.out.2.2.2.2.2.2.2.2
      omega
end Go.Proofs.Ytgnjknihgjdedaa
namespace Go.Proofs.Ytgnjknihgjdedaa
open Go.RowKit Go.MapKept Go.ChangeMaps
set_option linter.unusedVariables false
set_option linter.unusedSimpArgs false

theorem info_itS : (Try.prog.info? 3).map (fun i => (i.size, i.zero.map Value.cells, i.bytes)) = some (1, some #[.int .i64 0], 8) := by kernel_rfl
theorem run_mkJ (W : World) {n : Nat} (h : n ≤ 100000) : (Instr.makeSlice 22 (.int .i64 (n : Int)) (.int .i64 (n : Int))).run Try.prog W = .ok (.slice (some ⟨W.heap.size, 0, none⟩) n n) (W.alloc (.cells (Array.replicate n (Value.int .i64 0)) 3)) := by
  have hh := info_itS
  cases hi : Try.prog.info? 3 with
  | none => rw [hi] at hh; simp at hh
  | some i =>
    rw [hi] at hh
    simp only [Option.map_some, Option.some.injEq, Prod.mk.injEq] at hh
    obtain ⟨h1, h2, h3⟩ := hh
    cases hz : i.zero with
    | none => rw [hz] at h2; simp at h2
    | some z =>
      rw [hz] at h2
      simp only [Option.map_some, Option.some.injEq] at h2
      have := run_make (P := Try.prog) W 22 3 i z Try.underlying22 hi hz .i64 .i64 (n : Int) (n : Int) (by omega) (Int.le_refl _) (by rw [h3]; omega) (by omega)
      rw [Int.toNat_natCast, h1, h2, Nat.mul_one, made_zero, List.map_replicate, List.toArray_replicate] at this
      exact this
theorem sum_set {l : List Int} : ∀ {k : Nat}, k < l.length → (l.set k (l.getD k 0 + 1)).sum = l.sum + 1 := by
  induction l with
  | nil => intro k hk; simp at hk
  | cons a l ih =>
    intro k hk
    cases k with
    | zero => simp; omega
    | succ k => have := ih (k := k) (by simpa using hk); simp at this ⊢; omega
theorem sum_bdS {l : List Int} {n : Nat} (h : ∀ x ∈ l, 0 ≤ x ∧ x ≤ 300) (hn : l.length ≤ n) : 0 ≤ l.sum ∧ l.sum ≤ 300 * (n : Int) := by
  have : 0 ≤ l.sum ∧ l.sum ≤ 300 * (l.length : Int) := by
    clear hn
    induction l with
    | nil => simp
    | cons a l ih =>
      have h1 := h a List.mem_cons_self
      have h2 := ih fun x hx => h x (List.mem_cons_of_mem _ hx)
      simp only [List.sum_cons, List.length_cons]
      omega
  omega
theorem own_mis {w : World} {g n base : Nat} {S : List Int} (h : MisB w g S) (hb : base ≤ g) (hm : S.length ≤ maxLen) (hn : S.length = n) : OwnI w base (.slice (some ⟨g, 0, none⟩) n n) S := by
  subst hn
  refine ⟨by rw [flat_map_int, List.length_map, Nat.mul_one], .inr ⟨g, S.length, _, rfl, hb, h, Nat.le_refl _, hm, by simp, ?_⟩⟩
  rw [flat_map_int]
  exact List.take_of_length_le (by simp)
def whoS (hs S : List Int) : Nat → Nat
  | 0 => 0
  | i + 1 => if hs.getD (whoS hs S i) 0 * (S.getD i 0 + 1) < hs.getD i 0 * (S.getD (whoS hs S i) 0 + 1) then i else whoS hs S i
def shS (hs : List Int) (n : Nat) : Nat → List Int
  | 0 => List.replicate n 0
  | j + 1 => (shS hs n j).set (whoS hs (shS hs n j) n) ((shS hs n j).getD (whoS hs (shS hs n j) n) 0 + 1)
def ShR (hs : List Int) (n : Nat) (loss : Nat) (w : World) (e : Ending) (w' : World) : Prop :=
  ∃ v S, e = .returned (.tuple #[v, .int .i64 0]) ∧ OwnI w' w.heap.size v S ∧ S.length = n ∧ (∀ x ∈ S, 0 ≤ x) ∧ S.sum = (loss : Int) ∧ Below w.heap.size w w' ∧ S = shS hs n loss
set_option maxRecDepth 100000 in
set_option maxHeartbeats 4000000 in
theorem tShares_any (A : Option Addr) (n c loss : Nat) (hs : List Int) (w : World) (hi : Ints w A n hs) (hn : 1 ≤ n ∧ n ≤ 5) (hb : ∀ x ∈ hs, 0 ≤ x ∧ x ≤ 300) (hl : (loss : Int) ≤ hs.sum) (h5 : loss ≤ 1000) (hnc : n ≤ c ∧ c ≤ maxLen) :
    Calls Try.prog 13 #[.int .i64 loss, .slice A n c] w (ShR hs n loss w) := by
  have hlen := hi.len
  have HI := Lib.hid (And.intro hi (And.intro hlen (And.intro hb hl)))
  obtain ⟨R, hR⟩ : ∃ R, R = ShR hs n loss w := ⟨_, rfl⟩
  rw [← hR]
  have HR := Lib.hid hR
  have hn1 := hn.1
  have hn5 := hn.2
  have e1 : ((n : Int) == 0) = false := beq_eq_false_iff_ne.2 (by omega)
  have e2 : ¬ (5 : Int) < (n : Int) := by omega
  clear hi hlen hb hl hR
  go_enter Try.func13, Try.ntmps13
  go_wp2_with fail
  go_loopg [6, 8, 23, 24, 25, 26, 27, 28, 29, 30, 31, 32, 33] n (fun g v6 _ v23 _ _ _ _ _ _ _ _ _ _ wr => ∃ k : Nat, k + g = n ∧ v23 = .int .i64 (k : Int) ∧ v6 = .int .i64 (hs.take k).sum ∧ w = wr)
  case atStart => exact ⟨0, by omega, rfl, rfl, rfl⟩
  case round =>
    obtain ⟨k, hk, rfl, rfl, rfl⟩ := hrel
    have HK := Lib.hid hk
    by_cases hlt : k < n
    · obtain ⟨b, off, x, rfl, hbl, hx, c0⟩ := Ints.get HI.out.1 hlt
      have hxb := HI.out.2.2.1 x (List.mem_of_getElem? hx)
      have hsum : (hs.take (k + 1)).sum = (hs.take k).sum + x := by rw [List.take_add_one, hx]; simp
      have hS1 : 0 ≤ (hs.take k).sum ∧ (hs.take k).sum ≤ 300 * (k : Int) := sum_bdS (fun y hy => HI.out.2.2.1 y (List.mem_of_mem_take hy)) (List.length_take_le _ _)
      obtain ⟨S1, hS⟩ : ∃ s, s = (hs.take k).sum := ⟨_, rfl⟩
      rw [← hS] at hsum hS1 ⊢
      have hwr : IntKind.i64.wrap (S1 + x) = S1 + x := IntWalk.i64_in _ (by omega)
      have HS := Lib.hid hsum
      have cb := fun w => tbt_ok (n := x) (lo := 0) (hi := 300) hxb w
      clear hx hsum hS hk
      go_wp2_with (go_at_call 33; (with_reducible refine (cb _).mono ?_); rintro e w' ⟨rfl, rfl⟩)
      go_roundg (gk - 1)
      case measure => have := HK.out; omega
      case rel => exact ⟨k + 1, by have := HK.out; omega, by go_num, by rw [HS.out], rfl⟩
    · obtain rfl : k = n := by omega
      rw [List.take_of_length_le (by rw [HI.out.2.1]; exact Nat.le_refl _)]
      have hsb := sum_bdS HI.out.2.2.1 (Nat.le_of_eq HI.out.2.1)
      obtain ⟨S1, hS⟩ : ∃ s, s = hs.sum := ⟨_, rfl⟩
      have hl2 := HI.out.2.2.2
      rw [← hS] at hsb hl2 ⊢
      have cb := fun w => tbt_ok (n := (loss : Int)) (lo := 0) (hi := S1) (by omega) w
      have hmk := fun W => run_mkJ W (show k ≤ 100000 by omega)
      clear hS hk hlt
      go_wp2_with (go_at_call 33; (with_reducible refine (cb _).mono ?_); rintro e w' ⟨rfl, rfl⟩)
      clear cb hmk
      obtain ⟨W, hW⟩ : ∃ W, W = w.alloc (Obj.cells (Array.replicate k (Value.int .i64 0)) 3) := ⟨_, rfl⟩
      obtain ⟨g, hg⟩ : ∃ g, g = w.heap.size := ⟨_, rfl⟩
      have hW' : w.alloc (Obj.cells (Array.replicate k (Value.int .i64 0)) 3) = W := hW.symm
      have bW : MisB W g (List.replicate k 0) := by unfold MisB; rw [hW, hg, List.map_replicate, List.toArray_replicate]; exact alloc_at rfl
      have hbW : Below w.heap.size w W := by rw [hW]; exact bal0 w _
      have HW := Lib.hid (And.intro bW (And.intro hbW hg))
      rw [hW', ← hg]
      have hgW : g < W.heap.size := heap_lt bW
      have hgw : w.heap.size ≤ g := Nat.le_of_eq hg.symm
      clear hW hW' bW hbW hg
      go_loopg [10, 11, 12, 42, 43, 44, 45, 46, 47, 48, 49, 50, 51, 52, 53, 54, 55, 56, 57, 58, 59, 60, 61, 62, 63, 64, 65, 66, 67, 68, 69, 70, 71, 72, 73, 74, 75, 76, 77] loss (fun gh _ _ _ v42 _ _ _ _ _ _ _ _ _ _ _ _ _ _ _ _ _ _ _ _ _ _ _ _ _ _ _ _ _ _ _ _ _ _ _ wr => ∃ (j : Nat) (S : List Int), j + gh = loss ∧ v42 = .int .i64 (j : Int) ∧ MisB wr g S ∧ S.length = k ∧ S.sum = (j : Int) ∧ (∀ x ∈ S, 0 ≤ x ∧ x ≤ (j : Int)) ∧ Below w.heap.size w wr ∧ S = shS hs k j)
      case atStart => exact ⟨0, _, by omega, rfl, HW.out.1, by simp, by simp, fun x hx => by rw [(List.mem_replicate.1 hx).2]; omega, HW.out.2.1, rfl⟩
      case round =>
        obtain ⟨ga, rfl⟩ : ∃ x : Nat, x = gk := ⟨_, rfl⟩
        obtain ⟨j, S, hj, rfl, hm, hSl, hSs, hSb, hbr, hSe⟩ := hrel
        have HSE := Lib.hid hSe
        clear hSe
        have HJ := Lib.hid (And.intro hj (And.intro hm (And.intro hSl (And.intro hSs (And.intro hSb hbr)))))
        obtain ⟨wj, hwj⟩ : ∃ X : World, X = wr := ⟨_, rfl⟩
        rw [← hwj] at HJ ⊢
        clear hwj hm hSs hSb hbr
        by_cases hlt : j < loss
        · clear hj hSl
          go_wp2_with fail
          go_loopg [10, 11, 12, 46, 47, 48, 49, 50, 51, 52, 53, 54, 55, 56, 57, 58, 59, 60, 61, 62, 63, 64, 65, 66, 67, 68, 69, 70] k (fun gh v10 _ _ v46 _ _ _ _ _ _ _ _ _ _ _ _ _ _ _ _ _ _ _ _ _ _ _ _ wr => ∃ (i who : Nat), i + gh = k ∧ v46 = .int .i64 (i : Int) ∧ v10 = .int .i64 (who : Int) ∧ who < k ∧ Below wj.heap.size wj wr ∧ who = whoS hs S i)
          case atStart => exact ⟨0, 0, by omega, rfl, rfl, by omega, Below.refl _ _, rfl⟩
          case round =>
            obtain ⟨i, who, hi, rfl, rfl, hwho, hbi, hwe⟩ := hrel
            have HWE := Lib.hid hwe
            clear hwe
            have HK := Lib.hid (And.intro hi (And.intro hwho hbi))
            by_cases hlt2 : i < k
            · have hmi := HJ.out.2.1.keep (hbi.block g (heap_lt HJ.out.2.1))
              have hii := HI.out.1.below (HJ.out.2.2.2.2.2.trans (hbi.mono HJ.out.2.2.2.2.2.size)) (Nat.le_refl _)
              obtain ⟨b, off, x, rfl, hbl, hx, c0⟩ := Ints.get hii hlt2
              obtain ⟨b', off', y, hA', -, hy, c1⟩ := Ints.get hii hwho
              cases hA'
              have hxb := HI.out.2.2.1 x (List.mem_of_getElem? hx)
              have hyb := HI.out.2.2.1 y (List.mem_of_getElem? hy)
              have m0 := hmi.cell (show i < S.length by rw [HJ.out.2.2.1]; exact hlt2)
              have m1 := hmi.cell (show who < S.length by rw [HJ.out.2.2.1]; exact hwho)
              obtain ⟨p0, hp0⟩ : ∃ p, p = S.getD i 0 := ⟨_, rfl⟩
              obtain ⟨p1, hp1⟩ : ∃ p, p = S.getD who 0 := ⟨_, rfl⟩
              have hb0 : 0 ≤ p0 ∧ p0 ≤ 1000 := by
                have := getD_inP (P := fun z : Int => 0 ≤ z ∧ z ≤ 1000) (fun z hz => by have := HJ.out.2.2.2.2.1 z hz; omega) (show (0 : Int) ≤ 0 ∧ (0 : Int) ≤ 1000 by omega) i (l := S) (d := 0)
                rw [← hp0] at this; exact this
              have hb1 : 0 ≤ p1 ∧ p1 ≤ 1000 := by
                have := getD_inP (P := fun z : Int => 0 ≤ z ∧ z ≤ 1000) (fun z hz => by have := HJ.out.2.2.2.2.1 z hz; omega) (show (0 : Int) ≤ 0 ∧ (0 : Int) ≤ 1000 by omega) who (l := S) (d := 0)
                rw [← hp1] at this; exact this
              rw [← hp0] at m0
              rw [← hp1] at m1
              have HST := Lib.hid (show whoS hs S (i + 1) = if y * (p0 + 1) < x * (p1 + 1) then i else who by
                have e1 : hs.getD i 0 = x := by rw [List.getD_eq_getElem?_getD, hx]; rfl
                have e2 : hs.getD who 0 = y := by rw [List.getD_eq_getElem?_getD, hy]; rfl
                show (if hs.getD (whoS hs S i) 0 * (S.getD i 0 + 1) < hs.getD i 0 * (S.getD (whoS hs S i) 0 + 1) then i else whoS hs S i) = _
                rw [← HWE.out, e1, e2, hp0, hp1])
              have q1 : 0 ≤ x * (p1 + 1) ∧ x * (p1 + 1) ≤ 300 * 1001 := ⟨Int.mul_nonneg (by omega) (by omega), Int.mul_le_mul (by omega) (by omega) (by omega) (by omega)⟩
              have q2 : 0 ≤ y * (p0 + 1) ∧ y * (p0 + 1) ≤ 300 * 1001 := ⟨Int.mul_nonneg (by omega) (by omega), Int.mul_le_mul (by omega) (by omega) (by omega) (by omega)⟩
              have r1 : IntKind.i64.wrap (x * (p1 + 1)) = x * (p1 + 1) := IntWalk.i64_in _ (by omega)
              have r2 : IntKind.i64.wrap (y * (p0 + 1)) = y * (p0 + 1) := IntWalk.i64_in _ (by omega)
              have r3 : IntKind.i64.wrap (p1 + 1) = p1 + 1 := IntWalk.i64_in _ (by omega)
              have r4 : IntKind.i64.wrap (p0 + 1) = p0 + 1 := IntWalk.i64_in _ (by omega)
              have hgi := heap_lt hmi
              have hwk : (who : Int) < (k : Int) := by omega
              have hw0 : (0 : Int) ≤ (who : Int) := by omega
              clear hmi hii hx hy hp0 hp1 hi hbi hxb hyb hb0 hb1
              by_cases hgt : y * (p0 + 1) < x * (p1 + 1)
              · go_upto_region 22 with (fail)
                go_region
                go_wp2
                go_roundg (gk - 1)
                case measure => have := HK.out.1; omega
                case rel => exact ⟨i + 1, i, by have := HK.out.1; omega, by go_num, rfl, hlt2, bdraw HK.out.2.2, by rw [HST.out, if_pos hgt]⟩
              · go_upto_region 22 with (fail)
                go_region
                go_wp2
                go_roundg (gk - 1)
                case measure => have := HK.out.1; omega
                case rel => exact ⟨i + 1, who, by have := HK.out.1; omega, by go_num, rfl, HK.out.2.1, bdraw HK.out.2.2, by rw [HST.out, if_neg (show ¬ y * (p0 + 1) < x * (p1 + 1) by omega)]⟩
            · have hmi := HJ.out.2.1.keep (hbi.block g (heap_lt HJ.out.2.1))
              have c1 := hmi.cell (show who < S.length by rw [HJ.out.2.2.1]; exact hwho)
              have f1 := hmi.free who
              obtain ⟨p1, hp1⟩ : ∃ p, p = S.getD who 0 := ⟨_, rfl⟩
              have hb1 : 0 ≤ p1 ∧ p1 ≤ 1000 := by
                have := getD_inP (P := fun z : Int => 0 ≤ z ∧ z ≤ 1000) (fun z hz => by have := HJ.out.2.2.2.2.1 z hz; omega) (show (0 : Int) ≤ 0 ∧ (0 : Int) ≤ 1000 by omega) who (l := S) (d := 0)
                rw [← hp1] at this; exact this
              rw [← hp1] at c1
              have hgi := heap_lt hmi
              have hwk : (who : Int) < (k : Int) := by omega
              have hw0 : (0 : Int) ≤ (who : Int) := by omega
              have r3 : IntKind.i64.wrap (p1 + 1) = p1 + 1 := IntWalk.i64_in _ (by omega)
              have HM := Lib.hid (And.intro hmi hp1)
              clear hmi hp1 hi hbi
              go_wp2_with fail
              go_roundg (ga - 1)
              case measure => have := HJ.out.1; omega
              case rel =>
                have hwS : who < S.length := by rw [HJ.out.2.2.1]; exact HK.out.2.1
                refine ⟨j + 1, S.set who (p1 + 1), by have := HJ.out.1; omega, by go_num, HM.out.1.set (p1 + 1), by rw [List.length_set]; exact HJ.out.2.2.1, ?_, fun z hz => ?_, ?_, ?_⟩
                · rw [HM.out.2, sum_set hwS, HJ.out.2.2.2.1]; omega
                · rcases List.mem_or_eq_of_mem_set hz with h1 | h1
                  · have := HJ.out.2.2.2.2.1 z h1; omega
                  · have h2 : p1 ∈ S := by rw [HM.out.2, List.getD_eq_getElem?_getD, List.getElem?_eq_getElem hwS]; exact List.getElem_mem hwS
                    have := HJ.out.2.2.2.2.1 p1 h2; omega
                · exact Below.setCell (HJ.out.2.2.2.2.2.trans (HK.out.2.2.mono HJ.out.2.2.2.2.2.size)) (p := ⟨g, who, none⟩) hgw _
                · have e1 : i = k := by have := HK.out.1; omega
                  have e2 := HWE.out
                  rw [e1, HSE.out] at e2
                  rw [HM.out.2, e2, HSE.out]
                  rfl
        · obtain rfl : j = loss := by omega
          clear hj hSl
          go_wp2_with fail
          rw [HR.out]
          refine ⟨_, S, rfl, ?_, HJ.out.2.2.1, fun x hx => (HJ.out.2.2.2.2.1 x hx).1, HJ.out.2.2.2.1, HJ.out.2.2.2.2.2, HSE.out⟩
          exact own_mis HJ.out.2.1 hgw (by rw [HJ.out.2.2.1]; unfold maxLen; omega) HJ.out.2.2.1
end Go.Proofs.Ytgnjknihgjdedaa
