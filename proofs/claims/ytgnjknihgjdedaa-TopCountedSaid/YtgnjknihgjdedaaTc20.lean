/- TopCounted 20: TyK, TcD, TcP. -/
import Derived.Test.YtgnjknihgjdedaaTc19
import Derived.Test.YtgnjknihgjdedaaTc14
import Derived.Test.YtgnjknihgjdedaaTc10
import Derived.Test.YtgnjknihgjdedaaTc03
import Derived.Test.YtgnjknihgjdedaaTc01
import Derived.Test.YtgnjknihgjdedaaTc04
import Derived.Maps.Own
import Derived.Defers
import Derived.Test.YtgnjknihgjdedaaTc05
import Derived.Laws.EntriesVeiled
import Derived.Test.YtgnjknihgjdedaaTc02
import Derived.Deep.RegionLaw
import Derived.Test.YtgnjknihgjdedaaTc06
import Derived.Deep.OwnRows
import Derived.ArgAppend
import Derived.Deep.CutBlock
import Derived.Deep.RegionHeld3
import Derived.Deep.Upon
import Derived.Test.YtgnjknihgjdedaaTc13
import Derived.BigRegion
namespace Go.Proofs.Ytgnjknihgjdedaa
open Go.RowKit Go.MapKept Go.ChangeMaps
set_option linter.unusedVariables false
set_option linter.unusedSimpArgs false

theorem KpX.gb {A B : World} {q : Nat} (h : A.grownBy B (some q)) : KpX q A B := ⟨h.size, fun j o hj ho _ => (h.block j (heap_lt ho) (fun e => hj (by injection e))).trans ho⟩
theorem gb_belowT {A B : World} {q n : Nat} (h : A.grownBy B (some q)) (hq : n ≤ q) (hn : n ≤ A.heap.size) : Below n A B := ⟨h.os, h.tape, h.output, h.size, fun j hj => h.block j (by omega) (fun e => by injection e with e; omega)⟩
set_option maxRecDepth 100000 in
set_option maxHeartbeats 2000000 in
theorem tLost_any (T : Ty) (p : Tp) (a b : Nat) (w : World) (hk : TyOk T) (hi : TyIn w T p) (ht : TyT T) (hL : LsOk T T.outs) (hab : a < b) (hb : (b : Int) < T.g) :
    Calls Try.prog 8 #[tyV T p, .int .i64 a, .int .i64 b] w fun e w' => e = .returned (.tuple #[spV (lostF T T.outs a b), .int .i64 0]) ∧ Below w.heap.size w w' := by
  obtain ⟨G, hG⟩ := Int.eq_ofNat_of_zero_le (show 0 ≤ T.g by have := hk.g; omega)
  have hG5 : G ≤ 5 := by have := hk.g; omega
  have hGn : T.outs.length = G := by rw [outs_len]; omega
  have hg1 : T.g.toNat = G := by omega
  obtain ⟨W, hW⟩ : ∃ W, W = (w.alloc (tyO T p)).alloc (.cells #[.int .i64 0, .int .i64 0] 26) := ⟨_, rfl⟩
  obtain ⟨r, hr⟩ : ∃ r, r = w.heap.size := ⟨_, rfl⟩
  have b0 : W.heap[r]? = some (tyO T p) := by rw [hW, hr]; exact hblk_alloc (alloc_at rfl) _
  have b1 : W.heap[r + 1]? = some (.cells #[.int .i64 0, .int .i64 0] 26 (0, 0)) := by rw [hW, hr]; exact alloc_at (by simp)
  have hbW : Below w.heap.size w W := by rw [hW]; exact bal (bal0 w _) (Nat.le_refl _) _
  have hiW := hi.below hbW (Nat.le_refl _)
  have has := tasked_any T p W hk hiW
  unfold tyV at has
  have c1 := fun w => tbt_ok (n := (a : Int)) (lo := 0) (hi := T.g - 1) (by omega) w
  have c2 := fun w => tbt_ok (n := (b : Int)) (lo := 0) (hi := T.g - 1) (by omega) w
  have hbG : b < G := by omega
  have hab' : ¬ (b : Int) ≤ (a : Int) := by omega
  have HI := Lib.hid (And.intro hk (And.intro hiW (And.intro b0 (And.intro b1 (And.intro hbW (And.intro ht (And.intro hL (And.intro hGn hg1))))))))
  have HW := Lib.hid (And.intro hW hr)
  obtain ⟨p0, p1, p2, p3, p4, p5⟩ := blk6 b0
  have hrl := heap_lt b0
  have hG1 := hk.g
  have HG := Lib.hid hG
  clear hk hi ht hL hb hW hr b0 b1 hbW hiW hGn hg1 hG
  unfold tyV
  go_enter Try.func8, Try.ntmps8
  go_upto_region 1 with (fail)
  rw [show (w.alloc (Obj.cells #[Value.int .i64 T.g, .int .i64 T.f.lo, .int .i64 T.f.hi, .slice p.A T.ch.length p.c, .int .i64 T.m, .slice p.B T.cs.length p.d] 30)).alloc (Obj.cells #[Value.int .i64 0, .int .i64 0] 26) = W from HW.out.1.symm, ← HW.out.2]
  go_upto_region 2 with (go_at_call 32; (with_reducible refine has.mono ?_); rintro e w1 ⟨⟨k, M, rfl, hk1, hM1, hkM, bk, bM⟩, hb1⟩; have H1 := Lib.hid (And.intro hk1 (And.intro hM1 (And.intro hkM (And.intro bk (And.intro bM hb1))))); have b01 := bheap HI.out.2.2.1 hb1 (Nat.le_refl _); clear hk1 hM1 hkM bk bM hb1)
  obtain ⟨q0, q1, q2, q3, q4, q5⟩ := blk6 b01
  have hrl1 := heap_lt b01
  clear has p0 p1 p2 p3 p4 p5 hrl b01
  have hi1 := HI.out.2.1.below H1.out.2.2.2.2.2 (Nat.le_refl _)
  have hat1 : TyAt w1 T p k M := ⟨H1.out.2.2.2.1, hi1⟩
  have htr := ttruly_any T p k M 0 w1 HI.out.1 hat1 H1.out.2.2.2.2.1 HI.out.2.2.2.2.2.1
  rw [HI.out.2.2.2.2.2.2.2.2] at htr
  have HT := Lib.hid hat1
  clear hat1 hi1
  go_upto_region 9 with (first
    | (go_at_call 33; (first | (with_reducible refine (c1 _).mono ?_) | (with_reducible refine (c2 _).mono ?_)); rintro e w' ⟨rfl, rfl⟩)
    | (go_at_call 34; (with_reducible refine htr.mono ?_); rintro e w2 ⟨⟨g, rfl, hg, sg⟩, hgb⟩; have H2 := Lib.hid (And.intro hg (And.intro sg hgb)); clear hg sg hgb))
  clear c1 c2 htr q0 q1 q2 q3 q4 q5
  have hWM : W.heap.size ≤ M := H1.out.2.1
  have hb12 : Below W.heap.size w1 w2 := gb_belowT H2.out.2.2 hWM (H1.out.2.2.2.2.2.size)
  have hof : OffT T p k M := by
    have h := (TyAt.off (p := p) (T := T) (k := k) (M := M) (w := w1) HT.out (Nat.le_refl _))
    exact ⟨H1.out.2.2.1, fun hn bb o e => by have := sl_lt HI.out.2.1.a (by decide) lenSp hn bb o e; omega, fun hn bb o e => by have := sl_lt HI.out.2.1.b (by decide) lenCt hn bb o e; omega⟩
  have hat2 := HT.out.kpx (KpX.gb H2.out.2.2) hof
  have hls := tlost_any T p k M g G G a b T.outs w2 HI.out.1 hat2 H2.out.2.1 HI.out.2.2.2.2.2.2.2.1 HI.out.2.2.2.2.2.2.1 (by omega) hbG ⟨Nat.le_refl _, by unfold maxLen; omega⟩
  obtain ⟨R, hR⟩ : ∃ R, R = lostF T T.outs a b := ⟨_, rfl⟩
  rw [← hR] at hls
  have b12 := bheap HI.out.2.2.2.1 (H1.out.2.2.2.2.2.trans hb12) (Nat.le_refl _)
  have hbw2 : Below w.heap.size w w2 := HI.out.2.2.2.2.1.trans ((H1.out.2.2.2.2.2.trans hb12).mono HI.out.2.2.2.2.1.size)
  have HF := Lib.hid (And.intro hR (And.intro b12 hbw2))
  clear hR b12 hbw2 hb12 hat2
  go_wp2_with (go_at_call 35; (with_reducible refine hls.mono ?_); rintro e w3 ⟨rfl, hb3⟩; have b3 := bheap HF.out.2.1 hb3 (Nat.le_refl _); have f0 := frz b3 0; have f1 := frz b3 1; obtain ⟨x0, x1⟩ := blk2 b3; have hl3 := heap_lt b3; have H3 := Lib.hid (And.intro b3 hb3); clear hb3 b3)
  have hz := set_blk (set_blk H3.out.1 (i := 0) (v := .int .i64 R.lo)) (i := 1) (v := .int .i64 R.hi)
  refine bodyPost_ret (v := .tuple #[spV R, .int .i64 0]) ?_ rfl ⟨by rw [HF.out.1], ?_⟩
  · obtain ⟨g0, g1⟩ := blk2 hz
    simp [results, Try.f8, go_sem, g0, g1]
  · have h1 := HW.out.2
    exact Below.setCell (Below.setCell (HF.out.2.2.trans (H3.out.2.mono HF.out.2.2.size)) (p := ⟨r + 1, 0, none⟩) (by dsimp; omega) _) (p := ⟨r + 1, 1, none⟩) (by dsimp; omega) _
end Go.Proofs.Ytgnjknihgjdedaa
namespace Go.Proofs.Ytgnjknihgjdedaa
open Go.RowKit
set_option linter.unusedVariables false
set_option linter.unusedSimpArgs false
set_option maxRecDepth 1000000
structure GE (E : Nat → Prop) (w w' : World) : Prop where
  os : w'.os = w.os
  tape : w'.tape = w.tape
  output : w'.output = w.output
  size : w.heap.size ≤ w'.heap.size
  blk : ∀ j, j < w.heap.size → ¬ E j → w'.heap[j]? = w.heap[j]?
theorem GE.rf (E : Nat → Prop) (w : World) : GE E w w := ⟨rfl, rfl, rfl, Nat.le_refl _, fun _ _ _ => rfl⟩
theorem GE.tr {E : Nat → Prop} {a b c : World} (h : GE E a b) (k : GE E b c) : GE E a c := ⟨k.os.trans h.os, k.tape.trans h.tape, k.output.trans h.output, Nat.le_trans h.size k.size, fun j hj he => (k.blk j (Nat.lt_of_lt_of_le hj h.size) he).trans (h.blk j hj he)⟩
theorem GE.of {E : Nat → Prop} {w w' : World} {row : Option Nat} (h : w.grownBy w' row) (hr : ∀ k, row = some k → k < w.heap.size → E k) : GE E w w' := ⟨h.os, h.tape, h.output, h.size, fun j hj he => h.block j hj (fun e => he (hr j e.symm hj))⟩
theorem GE.ofB {E : Nat → Prop} {w w' : World} (h : Below w.heap.size w w') : GE E w w' := ⟨h.os, h.tape, h.output, h.size, fun j hj _ => h.block j hj⟩
theorem GE.mono {E F : Nat → Prop} {w w' : World} (h : GE E w w') (hf : ∀ j, j < w.heap.size → E j → F j) : GE F w w' := ⟨h.os, h.tape, h.output, h.size, fun j hj he => h.blk j hj (fun e => he (hf j hj e))⟩
def T25 (V7 V8 : Value) (j : Nat) (w w' : World) : Prop := match j with
  | 1 => w.grownBy w' V7.ownBlock
  | 2 => w.grownBy w' V8.ownBlock
  | _ => Below w.heap.size w w'
def E25 (V7 V8 : Value) (j : Nat) : Prop := V7.ownBlock = some j ∨ V8.ownBlock = some j
def P25 (W : World) (B : Nat) (V7 V8 : Value) (ls ns : List Int) (k : Nat) (w : World) : Prop := GE (E25 V7 V8) W w ∧ (k = 1 → OwnI w B V7 ls) ∧ (k = 2 → OwnI w B V8 ns)
section
variable {W : World} {B : Nat} {V7 V8 : Value} {ls ns : List Int}
theorem T25.rf (w : World) : T25 V7 V8 0 w w := Below.refl _ _
theorem T25.ge {j : Nat} {w w' : World} (h : T25 V7 V8 j w w') : GE (E25 V7 V8) w w' := by
  unfold T25 at h
  split at h
  · exact GE.of h fun k e _ => .inl e
  · exact GE.of h fun k e _ => .inr e
  · exact GE.ofB h
theorem P25.start (h7 : OwnI W B V7 ls) (h8 : OwnI W B V8 ns) (k : Nat) : P25 W B V7 V8 ls ns k W.drew := ⟨GE.ofB (bdraw (Below.refl _ _)), fun _ => Own.below h7 (bdraw (Below.refl _ _)) (Nat.le_refl _), fun _ => Own.below h8 (bdraw (Below.refl _ _)) (Nat.le_refl _)⟩
theorem P25.st (hap : ApartV V7 V8) (k j : Nat) (w w' : World) (hc : j ≠ k ∨ k = 0) (hT : T25 V7 V8 j w w') (hp : P25 W B V7 V8 ls ns k w) : P25 W B V7 V8 ls ns k w' := by
  refine ⟨hp.1.tr hT.ge, fun e => ?_, fun e => ?_⟩
  · have h := hp.2.1 e
    have hj : j ≠ 1 := by omega
    unfold T25 at hT
    split at hT
    · exact absurd rfl hj
    · exact Own.kept h hT hap.ne
    · exact Own.below h hT (Nat.le_refl _)
  · have h := hp.2.2 e
    have hj : j ≠ 2 := by omega
    unfold T25 at hT
    split at hT
    · exact Own.kept h hT hap.ne'
    · exact absurd rfl hj
    · exact Own.below h hT (Nat.le_refl _)
def FI1 (S : Nat) (x : Int) : VF := fun v w => ∃ r, v = .slice (some ⟨r, 0, none⟩) 1 1 ∧ S ≤ r ∧ w.heap[r]? = some (.cells #[.int .i64 x] 3 (0, 0))
theorem FI1.st {S : Nat} {x : Int} (h7 : ∀ k, V7.ownBlock = some k → k < S) (h8 : ∀ k, V8.ownBlock = some k → k < S) (j : Nat) (v : Value) (w w' : World) (hT : T25 V7 V8 j w w') (h : FI1 S x v w) : FI1 S x v w' := by
  obtain ⟨r, h1, h2, h3⟩ := h
  refine ⟨r, h1, h2, (hT.ge.blk r (heap_lt h3) fun e => ?_).trans h3⟩
  rcases e with e | e
  · have := h7 r e; omega
  · have := h8 r e; omega
def FA1 (S B n : Nat) (V : Value) (l : List Int) : VF := fun v w => ∃ g c, v = .slice (some ⟨g, 0, none⟩) n c ∧ OwnI w B v l ∧ (V.ownBlock = some g ∨ S ≤ g)
theorem FA7.st {S n : Nat} {l : List Int} (hap : ApartV V7 V8) (h8 : ∀ k, V8.ownBlock = some k → k < S) (j : Nat) (v : Value) (w w' : World) (hj : j ≠ 1) (hT : T25 V7 V8 j w w') (h : FA1 S B n V7 l v w) : FA1 S B n V7 l v w' := by
  obtain ⟨g, c, h1, h2, h3⟩ := h
  refine ⟨g, c, h1, ?_, h3⟩
  unfold T25 at hT
  split at hT
  · exact absurd rfl hj
  · refine Own.kept h2 hT (.inr fun e => ?_)
    rw [h1] at e
    have e' : V8.ownBlock = some g := e.symm
    rcases h3 with h3 | h3
    · exact hap g h3 e'
    · have := h8 g e'; omega
  · exact Own.below h2 hT (Nat.le_refl _)
theorem FA8.st {S n : Nat} {l : List Int} (hap : ApartV V7 V8) (h7 : ∀ k, V7.ownBlock = some k → k < S) (j : Nat) (v : Value) (w w' : World) (hj : j ≠ 2) (hT : T25 V7 V8 j w w') (h : FA1 S B n V8 l v w) : FA1 S B n V8 l v w' := by
  obtain ⟨g, c, h1, h2, h3⟩ := h
  refine ⟨g, c, h1, ?_, h3⟩
  unfold T25 at hT
  split at hT
  · refine Own.kept h2 hT (.inr fun e => ?_)
    rw [h1] at e
    have e' : V7.ownBlock = some g := e.symm
    rcases h3 with h3 | h3
    · exact hap g e' h3
    · have := h7 g e'; omega
  · exact absurd rfl hj
  · exact Own.below h2 hT (Nat.le_refl _)
end
theorem ownI_apart {w : World} {B B' g g' n n' c c' : Nat} {l l' : List Int} {x x' : Int} (h : OwnI w B (.slice (some ⟨g, 0, none⟩) n c) (x :: l)) (h' : OwnI w B' (.slice (some ⟨g', 0, none⟩) n' c') (x' :: l')) (hne : x ≠ x') : g ≠ g' := by
  intro e
  subst e
  obtain ⟨hs, -, -⟩ := h.sl lenInt
  obtain ⟨hs', -, -⟩ := h'.sl lenInt
  obtain ⟨b, o, y, hA, -, hy, hc⟩ := Ints.get hs (k := 0) (by simp)
  obtain ⟨b', o', y', hA', -, hy', hc'⟩ := Ints.get hs' (k := 0) (by simp)
  cases hA; cases hA'
  rw [hc] at hc'
  simp at hy hy'
  injection hc' with hc'
  injection hc' with _ hc'
  omega
noncomputable def rgC25 : Code := ((Try.f4.body.bind (findRgn 25)).getD .skip)
def RgC25 (W : World) (B p5 p11 : Nat) (x y : Int) (V7 V8 : Value) (ls ns : List Int) (O : Obj) (v0 v1 v2 v3 v6 v9 Z0 Z1 Z2 Z3 Z4 Z5 Z6 Z7 Z8 Z9 ZA ZB ZC ZD ZE ZF ZG ZH ZI ZJ ZK ZL ZM ZN ZO ZP ZQ ZR ZS ZT ZU ZV ZW ZX ZY ZZ Za Zb Zc Zd Ze Zf Zg Zh Zi Zj Zk Zl Zm Zn Zo Zp Zq Zr Zs Zt Zu Zv Zw Zx Zy Zz Y0 Y1 Y2 Y3 Y4 Y5 Y6 Y7 Y8 Y9 YA YB YC YD YE YF YG YH YI YJ YK YL YM YN YO YP YQ YR YS YT YU YV YW YX YY YZ Ya Yb Yc Yd Ye Yf Yg Yh Yi Yj Yk Yl Ym Yn Yo Yp Yq Yr Ys Yt Yu Yv Yw Yx Yy Yz X0 X1 X2 X3 X4 X5 X6 X7 X8 X9 XA XB XC XD XE XF XG XH XI XJ XK XL XM XN XO XP XQ XR XS XT XU XV XW XX XY XZ Xa Xb Xc Xd Xe Xf Xg Xh Xi Xj Xk Xl Xm Xn Xo Xp Xq Xr Xs Xt Xu Xv Xw Xx Xy Xz K0 K1 K2 K3 K4 K5 K6 K7 K8 K9 KA KB KC KD KE KF KG KH KI KJ KK KL KM KN KO KP KQ KR KS KT KU KV KW KX KY KZ Ka Kb Kc Kd Ke Kf Kg Kh Ki Kj Kk Kl Km Kn Ko Kp Kq Kr Ks Kt Ku Kv Kw Kx Ky Kz J0 J1 J2 J3 J4 J5 J6 J7 J8 J9 JA JB JC JD JE JF JG JH JI JJ JK JL JM JN JO JP JQ JR JS JT JU JV JW JX JY JZ Ja Jb Jc Jd Je Jf Jg Jh Ji Jj Jk Jl Jm Jn Jo Jp Jq Jr Js Jt Ju Jv Jw : Value) (Q : Exit → Act → World → Prop) : Prop := ∀ (Jx Jy Jz G0 G1 G2 G3 G4 G5 : Value) (g7 c7 g8 c8 : Nat) (w' : World), OwnI w' B (.slice (some ⟨g7, 0, none⟩) (ls.length + 1) c7) (ls ++ [x]) → OwnI w' B (.slice (some ⟨g8, 0, none⟩) (ns.length + 1) c8) (ns ++ [y]) → g7 ≠ g8 → (V7.ownBlock = some g7 ∨ W.heap.size ≤ g7) → (V8.ownBlock = some g8 ∨ W.heap.size ≤ g8) → w'.heap[p5]? = some O → GE (fun j => j = p5 ∨ E25 V7 V8 j) W w' → Q .normal ⟨#[v0, v1, v2, v3, (Value.int .i64 y), (Value.pointer (some ⟨p5, 0, none⟩)), v6, (.slice (some ⟨g7, 0, none⟩) (ls.length + 1) c7), (.slice (some ⟨g8, 0, none⟩) (ns.length + 1) c8), v9, Z0, (Value.pointer (some ⟨p11, 0, none⟩)), Z1, Z2, (Value.int .i64 x), Z3, Z4, Z5, Z6, Z7, Z8, Z9, ZA, ZB, ZC, ZD, ZE, ZF, ZG, ZH, ZI, ZJ, ZK, ZL, ZM, ZN, ZO, ZP, ZQ, ZR, ZS, ZT, ZU, ZV, ZW, ZX, ZY, ZZ, Za, Zb, Zc, Zd, Ze, Zf, Zg, Zh, Zi, Zj, Zk, Zl, Zm, Zn, Zo, Zp, Zq, Zr, Zs, Zt, Zu, Zv, Zw, Zx, Zy, Zz, Y0, Y1, Y2, Y3, Y4, Y5, Y6, Y7, Y8, Y9, YA, YB, YC, YD, YE, YF, YG, YH, YI, YJ, YK, YL, YM, YN, YO, YP, YQ, YR, YS, YT, YU, YV, YW, YX, YY, Jx, Jy, Jz, G0, G1, G2, G3, G4, G5, Yi, Yj, Yk, Yl, Ym, Yn, Yo, Yp, Yq, Yr, Ys, Yt, Yu, Yv, Yw, Yx, Yy, Yz, X0, X1, X2, X3, X4, X5, X6, X7, X8, X9, XA, XB, XC, XD, XE, XF, XG, XH, XI, XJ, XK, XL, XM, XN, XO, XP, XQ, XR, XS, XT, XU, XV, XW, XX, XY, XZ, Xa, Xb, Xc, Xd, Xe, Xf, Xg, Xh, Xi, Xj, Xk, Xl, Xm, Xn, Xo, Xp, Xq, Xr, Xs, Xt, Xu, Xv, Xw, Xx, Xy, Xz, K0, K1, K2, K3, K4, K5, K6, K7, K8, K9, KA, KB, KC, KD, KE, KF, KG, KH, KI, KJ, KK, KL, KM, KN, KO, KP, KQ, KR, KS, KT, KU, KV, KW, KX, KY, KZ, Ka, Kb, Kc, Kd, Ke, Kf, Kg, Kh, Ki, Kj, Kk, Kl, Km, Kn, Ko, Kp, Kq, Kr, Ks, Kt, Ku, Kv, Kw, Kx, Ky, Kz, J0, J1, J2, J3, J4, J5, J6, J7, J8, J9, JA, JB, JC, JD, JE, JF, JG, JH, JI, JJ, JK, JL, JM, JN, JO, JP, JQ, JR, JS, JT, JU, JV, JW, JX, JY, JZ, Ja, Jb, Jc, Jd, Je, Jf, Jg, Jh, Ji, Jj, Jk, Jl, Jm, Jn, Jo, Jp, Jq, Jr, Js, Jt, Ju, Jv, Jw], []⟩ w'
set_option maxHeartbeats 8000000 in
theorem cnt_more (W : World) (B p5 p11 : Nat) (x y : Int) (V7 V8 : Value) (ls ns : List Int) (t : Int) (A1 A2 A3 A4 : Option Addr) (n1 n2 n3 n4 c1 c2 c3 c4 : Nat) (t1 t2 t3 t4 : Value) (t0 : Int) (v0 v1 v2 v3 v6 v9 Z0 Z1 Z2 Z3 Z4 Z5 Z6 Z7 Z8 Z9 ZA ZB ZC ZD ZE ZF ZG ZH ZI ZJ ZK ZL ZM ZN ZO ZP ZQ ZR ZS ZT ZU ZV ZW ZX ZY ZZ Za Zb Zc Zd Ze Zf Zg Zh Zi Zj Zk Zl Zm Zn Zo Zp Zq Zr Zs Zt Zu Zv Zw Zx Zy Zz Y0 Y1 Y2 Y3 Y4 Y5 Y6 Y7 Y8 Y9 YA YB YC YD YE YF YG YH YI YJ YK YL YM YN YO YP YQ YR YS YT YU YV YW YX YY YZ Ya Yb Yc Yd Ye Yf Yg Yh Yi Yj Yk Yl Ym Yn Yo Yp Yq Yr Ys Yt Yu Yv Yw Yx Yy Yz X0 X1 X2 X3 X4 X5 X6 X7 X8 X9 XA XB XC XD XE XF XG XH XI XJ XK XL XM XN XO XP XQ XR XS XT XU XV XW XX XY XZ Xa Xb Xc Xd Xe Xf Xg Xh Xi Xj Xk Xl Xm Xn Xo Xp Xq Xr Xs Xt Xu Xv Xw Xx Xy Xz K0 K1 K2 K3 K4 K5 K6 K7 K8 K9 KA KB KC KD KE KF KG KH KI KJ KK KL KM KN KO KP KQ KR KS KT KU KV KW KX KY KZ Ka Kb Kc Kd Ke Kf Kg Kh Ki Kj Kk Kl Km Kn Ko Kp Kq Kr Ks Kt Ku Kv Kw Kx Ky Kz J0 J1 J2 J3 J4 J5 J6 J7 J8 J9 JA JB JC JD JE JF JG JH JI JJ JK JL JM JN JO JP JQ JR JS JT JU JV JW JX JY JZ Ja Jb Jc Jd Je Jf Jg Jh Ji Jj Jk Jl Jm Jn Jo Jp Jq Jr Js Jt Ju Jv Jw : Value) (Q : Exit → Act → World → Prop)
    (H5 : Hid (W.heap[p5]? = some (boxO t0 t1 t2 t3 t4))) (H11 : Hid (W.heap[p11]? = some (boxO t (.slice A1 n1 c1) (.slice A2 n2 c2) (.slice A3 n3 c3) (.slice A4 n4 c4)))) (hp : p5 ≠ p11) (hpB : p5 < B) (hp11 : ∀ k, V7.ownBlock = some k ∨ V8.ownBlock = some k → k ≠ p11)
    (HO : Hid (OwnI W B V7 ls ∧ OwnI W B V8 ns ∧ ApartV V7 V8)) (hl : ls.length ≤ 100) (hn : ns.length ≤ 100) (hne : (ls ++ [x]).getD 0 0 ≠ (ns ++ [y]).getD 0 0) (hBW : B ≤ W.heap.size)
    (HQ : RgC25 W B p5 p11 x y V7 V8 ls ns (boxO t (.slice A1 n1 c1) (.slice A2 n2 c2) (.slice A3 n3 c3) (.slice A4 n4 c4)) v0 v1 v2 v3 v6 v9 Z0 Z1 Z2 Z3 Z4 Z5 Z6 Z7 Z8 Z9 ZA ZB ZC ZD ZE ZF ZG ZH ZI ZJ ZK ZL ZM ZN ZO ZP ZQ ZR ZS ZT ZU ZV ZW ZX ZY ZZ Za Zb Zc Zd Ze Zf Zg Zh Zi Zj Zk Zl Zm Zn Zo Zp Zq Zr Zs Zt Zu Zv Zw Zx Zy Zz Y0 Y1 Y2 Y3 Y4 Y5 Y6 Y7 Y8 Y9 YA YB YC YD YE YF YG YH YI YJ YK YL YM YN YO YP YQ YR YS YT YU YV YW YX YY YZ Ya Yb Yc Yd Ye Yf Yg Yh Yi Yj Yk Yl Ym Yn Yo Yp Yq Yr Ys Yt Yu Yv Yw Yx Yy Yz X0 X1 X2 X3 X4 X5 X6 X7 X8 X9 XA XB XC XD XE XF XG XH XI XJ XK XL XM XN XO XP XQ XR XS XT XU XV XW XX XY XZ Xa Xb Xc Xd Xe Xf Xg Xh Xi Xj Xk Xl Xm Xn Xo Xp Xq Xr Xs Xt Xu Xv Xw Xx Xy Xz K0 K1 K2 K3 K4 K5 K6 K7 K8 K9 KA KB KC KD KE KF KG KH KI KJ KK KL KM KN KO KP KQ KR KS KT KU KV KW KX KY KZ Ka Kb Kc Kd Ke Kf Kg Kh Ki Kj Kk Kl Km Kn Ko Kp Kq Kr Ks Kt Ku Kv Kw Kx Ky Kz J0 J1 J2 J3 J4 J5 J6 J7 J8 J9 JA JB JC JD JE JF JG JH JI JJ JK JL JM JN JO JP JQ JR JS JT JU JV JW JX JY JZ Ja Jb Jc Jd Je Jf Jg Jh Ji Jj Jk Jl Jm Jn Jo Jp Jq Jr Js Jt Ju Jv Jw Q) :
    Code.wp Try.prog rgC25 Q ⟨#[v0, v1, v2, v3, (Value.int .i64 y), (Value.pointer (some ⟨p5, 0, none⟩)), v6, V7, V8, v9, Z0, (Value.pointer (some ⟨p11, 0, none⟩)), Z1, Z2, (Value.int .i64 x), Z3, Z4, Z5, Z6, Z7, Z8, Z9, ZA, ZB, ZC, ZD, ZE, ZF, ZG, ZH, ZI, ZJ, ZK, ZL, ZM, ZN, ZO, ZP, ZQ, ZR, ZS, ZT, ZU, ZV, ZW, ZX, ZY, ZZ, Za, Zb, Zc, Zd, Ze, Zf, Zg, Zh, Zi, Zj, Zk, Zl, Zm, Zn, Zo, Zp, Zq, Zr, Zs, Zt, Zu, Zv, Zw, Zx, Zy, Zz, Y0, Y1, Y2, Y3, Y4, Y5, Y6, Y7, Y8, Y9, YA, YB, YC, YD, YE, YF, YG, YH, YI, YJ, YK, YL, YM, YN, YO, YP, YQ, YR, YS, YT, YU, YV, YW, YX, YY, YZ, Ya, Yb, Yc, Yd, Ye, Yf, Yg, Yh, Yi, Yj, Yk, Yl, Ym, Yn, Yo, Yp, Yq, Yr, Ys, Yt, Yu, Yv, Yw, Yx, Yy, Yz, X0, X1, X2, X3, X4, X5, X6, X7, X8, X9, XA, XB, XC, XD, XE, XF, XG, XH, XI, XJ, XK, XL, XM, XN, XO, XP, XQ, XR, XS, XT, XU, XV, XW, XX, XY, XZ, Xa, Xb, Xc, Xd, Xe, Xf, Xg, Xh, Xi, Xj, Xk, Xl, Xm, Xn, Xo, Xp, Xq, Xr, Xs, Xt, Xu, Xv, Xw, Xx, Xy, Xz, K0, K1, K2, K3, K4, K5, K6, K7, K8, K9, KA, KB, KC, KD, KE, KF, KG, KH, KI, KJ, KK, KL, KM, KN, KO, KP, KQ, KR, KS, KT, KU, KV, KW, KX, KY, KZ, Ka, Kb, Kc, Kd, Ke, Kf, Kg, Kh, Ki, Kj, Kk, Kl, Km, Kn, Ko, Kp, Kq, Kr, Ks, Kt, Ku, Kv, Kw, Kx, Ky, Kz, J0, J1, J2, J3, J4, J5, J6, J7, J8, J9, JA, JB, JC, JD, JE, JF, JG, JH, JI, JJ, JK, JL, JM, JN, JO, JP, JQ, JR, JS, JT, JU, JV, JW, JX, JY, JZ, Ja, Jb, Jc, Jd, Je, Jf, Jg, Jh, Ji, Jj, Jk, Jl, Jm, Jn, Jo, Jp, Jq, Jr, Js, Jt, Ju, Jv, Jw], []⟩ W := by
  dsimp only
  conv => arg 2; whnf
  have h7S : ∀ k, V7.ownBlock = some k → k < W.heap.size := fun k e => (HO.out.1.lt k e).2
  have h8S : ∀ k, V8.ownBlock = some k → k < W.heap.size := fun k e => (HO.out.2.1.lt k e).2
  have HC := Lib.hid (fun (w' : World) (hp : P25 W B V7 V8 ls ns 0 w') => show _ ∧ p11 < w'.heap.size from by
    have hb := (hp.1.blk p11 (heap_lt H11.out) (fun e => hp11 p11 e rfl)).trans H11.out
    exact ⟨blk5c hb, heap_lt hb⟩)
  refine wp_region_tag 9 0 0 [] [] 0 (T25 V7 V8) (P25 W B V7 V8 ls ns) [0, 0, 0, 0, 1, 0, 0, 0, 2] (by as_aux_lemma => kernel_rfl) (by as_aux_lemma => kernel_rfl) (by as_aux_lemma => kernel_rfl) (by as_aux_lemma => kernel_rfl) (by omega) (.inl rfl) rfl rfl (fun k i w1 w2 hc _ hT hp => P25.st HO.out.2.2 k i w1 w2 hc hT hp) (fun k => P25.start HO.out.1 HO.out.2.1 k) ?_
  apply Exists.intro
  refine ⟨fun ys => ?_, fun ops K hK => ?_⟩
  · simp only [List.take_succ_cons, List.take_zero, dstsOf, List.filterMap_cons, List.filterMap_nil, putAll]
    go_simp
    rfl
  simp only [List.take_succ_cons, List.take_zero, List.drop_succ_cons, List.drop_zero] at hK ⊢
  repeat
    refine LexT.const T25.rf ?_
    apply Exists.intro
    refine ⟨fun ys w' hp hpk hq hd => ?_, ?_⟩
    · try simp [DepsOf, depsGo, DF.holds, Region.binds, EqF] at hd
      try simp only [hd]
      obtain ⟨⟨k0, k1, k2, k3, k4⟩, hl1⟩ := HC.out w' hp
      intro Q2 hQ2
      go_wp2_with fail
      rfl
    try simp only [List.nil_append, List.cons_append]
  refine LexT.some (FI1 W.heap.size x) (fun i v w1 w2 hc _ hT h => FI1.st h7S h8S i v w1 w2 hT h) (fun ys w' hp hpk hq hd => ?_) ?_
  · try simp [DepsOf, depsGo, DF.holds, Region.binds, EqF] at hd
    try simp only [hd]
    have hpz : W.heap.size ≤ w'.heap.size := hp.1.size
    have HX := Lib.hid (show T25 V7 V8 0 w' (w'.alloc (.cells #[.int .i64 x] 3 (0, 0))) ∧ FI1 W.heap.size x (.slice (some ⟨w'.heap.size, 0, none⟩) 1 1) (w'.alloc (.cells #[.int .i64 x] 3 (0, 0))) from ⟨bal0 _ _, w'.heap.size, rfl, hpz, alloc_at rfl⟩)
    clear hp hpk
    intro Q2 hQ2
    go_wp2_with fail
    exact HX.out
  try simp only [List.nil_append, List.cons_append]
  refine LexT.some (FA1 W.heap.size B (ls.length + 1) V7 (ls ++ [x])) (fun i v w1 w2 hc _ hT h => FA7.st HO.out.2.2 h8S i v w1 w2 (by simpa using hc) hT h) (fun ys w' hp hpk hq hd => ?_) ?_
  · try simp [DepsOf, depsGo, DF.holds, Region.binds, EqF] at hd
    try simp only [hd]
    obtain ⟨-, ⟨r, e112, hrS, hr⟩⟩ := hd
    simp only [e112]
    have hpz : W.heap.size ≤ w'.heap.size := hp.1.size
    have hbz : B ≤ w'.heap.size := Nat.le_trans hBW hpz
    have hnsl : ls.length < 4294967296 := by omega
    have HX0 := Lib.hid (And.intro (hpk.2.1 rfl) hr)
    clear hp hpk e112 hrS hr
    intro Q2 hQ2
    go_wp2_with (at_builtin; refine wp_appL okInt rfl (.tmp 110) (.tmp 112) rfl B V7 ls x #[.int .i64 x] r rfl rfl HX0.out.2 rfl rfl (one_eInt _) HX0.out.1 hnsl (by decide) hbz ?_; intro g7 c7 w7 ho7 hgr7 hl7; have HX := Lib.hid (And.intro ho7 (And.intro hgr7 hl7)); clear ho7 hgr7 hl7)
    exact ⟨HX.out.2.1, g7, c7, rfl, HX.out.1, HX.out.2.2.imp id (fun e => by omega)⟩
  try simp only [List.nil_append, List.cons_append]
  repeat
    refine LexT.const T25.rf ?_
    apply Exists.intro
    refine ⟨fun ys w' hp hpk hq hd => ?_, ?_⟩
    · try simp [DepsOf, depsGo, DF.holds, Region.binds, EqF] at hd
      try simp only [hd]
      obtain ⟨⟨k0, k1, k2, k3, k4⟩, hl1⟩ := HC.out w' hp
      intro Q2 hQ2
      go_wp2_with fail
      rfl
    try simp only [List.nil_append, List.cons_append]
  refine LexT.some (FI1 W.heap.size y) (fun i v w1 w2 hc _ hT h => FI1.st h7S h8S i v w1 w2 hT h) (fun ys w' hp hpk hq hd => ?_) ?_
  · try simp [DepsOf, depsGo, DF.holds, Region.binds, EqF] at hd
    try simp only [hd]
    have hpz : W.heap.size ≤ w'.heap.size := hp.1.size
    have HX := Lib.hid (show T25 V7 V8 0 w' (w'.alloc (.cells #[.int .i64 y] 3 (0, 0))) ∧ FI1 W.heap.size y (.slice (some ⟨w'.heap.size, 0, none⟩) 1 1) (w'.alloc (.cells #[.int .i64 y] 3 (0, 0))) from ⟨bal0 _ _, w'.heap.size, rfl, hpz, alloc_at rfl⟩)
    clear hp hpk
    intro Q2 hQ2
    go_wp2_with fail
    exact HX.out
  try simp only [List.nil_append, List.cons_append]
  refine LexT.some (FA1 W.heap.size B (ns.length + 1) V8 (ns ++ [y])) (fun i v w1 w2 hc _ hT h => FA8.st HO.out.2.2 h7S i v w1 w2 (by simpa using hc) hT h) (fun ys w' hp hpk hq hd => ?_) ?_
  · try simp [DepsOf, depsGo, DF.holds, Region.binds, EqF] at hd
    try simp only [hd]
    obtain ⟨-, ⟨r, e116, hrS, hr⟩, -⟩ := hd
    simp only [e116]
    have hpz : W.heap.size ≤ w'.heap.size := hp.1.size
    have hbz : B ≤ w'.heap.size := Nat.le_trans hBW hpz
    have hnsl : ns.length < 4294967296 := by omega
    have HX0 := Lib.hid (And.intro (hpk.2.2 rfl) hr)
    clear hp hpk e116 hrS hr
    intro Q2 hQ2
    go_wp2_with (at_builtin; refine wp_appL okInt rfl (.tmp 114) (.tmp 116) rfl B V8 ns y #[.int .i64 y] r rfl rfl HX0.out.2 rfl rfl (one_eInt _) HX0.out.1 hnsl (by decide) hbz ?_; intro g7 c7 w7 ho7 hgr7 hl7; have HX := Lib.hid (And.intro ho7 (And.intro hgr7 hl7)); clear ho7 hgr7 hl7)
    exact ⟨HX.out.2.1, g7, c7, rfl, HX.out.1, HX.out.2.2.imp id (fun e => by omega)⟩
  try simp only [List.nil_append, List.cons_append]
  refine hK _ fun ys w' hp hF => ?_
  simp [AllF, DF.holds] at hF
  obtain ⟨e109, -, -, -, ⟨g7, c7, e113, o7, l7⟩, -, -, -, g8, c8, e117, o8, l8⟩ := hF
  rw [e113] at o7
  rw [e117] at o8
  have hbx := (hp.1.blk p5 (heap_lt H5.out) (fun e => by
    rcases e with e | e
    · have := (HO.out.1.lt p5 e).1; omega
    · have := (HO.out.2.1.lt p5 e).1; omega)).trans H5.out
  have hgg : g7 ≠ g8 := by
    have a1 : (ls ++ [x]).length = ls.length + 1 := by simp
    have a2 : (ns ++ [y]).length = ns.length + 1 := by simp
    revert o7 o8 hne
    generalize ls ++ [x] = L at *
    generalize ns ++ [y] = L' at *
    intro hne o7 o8
    cases L with
    | nil => simp at a1
    | cons z L =>
      cases L' with
      | nil => simp at a2
      | cons z' L' => exact ownI_apart o7 o8 hne
  simp only [e109, e113, e117]
  obtain ⟨k0, k1, k2, k3, k4⟩ := blk5c hbx
  obtain ⟨f0, f1, f2, f3, f4⟩ := And.intro (frz hbx 0) (And.intro (frz hbx 1) (And.intro (frz hbx 2) (And.intro (frz hbx 3) (frz hbx 4))))
  have hl5 := heap_lt hbx
  have HX := Lib.hid (And.intro o7 (And.intro o8 (And.intro hbx hp.1)))
  clear hK hp e109 e113 e117 o7 o8 hbx
  go_wp2_with fail
  obtain ⟨Z, hZ⟩ : ∃ Z, Z = (((((w'.setCell ⟨p5, 0, none⟩ (.int .i64 t)).setCell ⟨p5, 1, none⟩ (.slice A1 n1 c1)).setCell ⟨p5, 2, none⟩ (.slice A2 n2 c2)).setCell ⟨p5, 3, none⟩ (.slice A3 n3 c3)).setCell ⟨p5, 4, none⟩ (.slice A4 n4 c4)) := ⟨_, rfl⟩
  rw [← hZ]
  have hz : Z.heap[p5]? = some (boxO t (.slice A1 n1 c1) (.slice A2 n2 c2) (.slice A3 n3 c3) (.slice A4 n4 c4)) := by rw [hZ]; exact (set_blk (set_blk (set_blk (set_blk (set_blk HX.out.2.2.1))))).trans rfl
  have hg : w'.grownBy Z (some p5) := by rw [hZ]; exact ((((grownBy_cell _ _ _ _).trans (grownBy_cell _ _ _ _)).trans (grownBy_cell _ _ _ _)).trans (grownBy_cell _ _ _ _)).trans (grownBy_cell _ _ _ _)
  refine HQ _ _ _ _ _ _ _ _ _ g7 c7 g8 c8 Z (Own.kept HX.out.1 hg (.inr (Own.nb HX.out.1 hpB))) (Own.kept HX.out.2.1 hg (.inr (Own.nb HX.out.2.1 hpB))) hgg l7 l8 hz ((HX.out.2.2.2.mono fun j _ e => .inr e).tr (GE.of hg fun k e _ => .inl (by injection e with e; exact e.symm)))
end Go.Proofs.Ytgnjknihgjdedaa
namespace Go.Proofs.Ytgnjknihgjdedaa
open Go.RowKit
set_option linter.unusedVariables false
set_option linter.unusedSimpArgs false
theorem tc_tru {T : Ty} {ns : Nat → Int} (hk : TyOk T) (h : TrueN T ns) : TyT T ∧ LsOk T T.outs := by
  have hg := hk.g
  have hl := outs_len T
  refine ⟨fun g hg => has_emp (h.now hk hg), ⟨by rw [hl]; omega, fun s hs => ?_⟩⟩
  obtain ⟨i, hi⟩ := List.getElem?_of_mem hs
  have hil := (List.getElem?_eq_some_iff.1 hi).1
  have h1 := h.outs hk (g := i) (by omega)
  rw [List.getD_eq_getElem?_getD, hi] at h1
  have h2 := outs_bd hk s hs
  unfold Sp.has at h1
  dsimp only [Option.getD_some] at h1
  omega
def SubS (a b : Sp) : Prop := b.lo ≤ a.lo ∧ a.hi ≤ b.hi
theorem SubS.rf (a : Sp) : SubS a a := ⟨Int.le_refl _, Int.le_refl _⟩
theorem SubS.tr {a b c : Sp} (h : SubS a b) (k : SubS b c) : SubS a c := ⟨Int.le_trans k.1 h.1, Int.le_trans h.2 k.2⟩
theorem meet_sub1 (a b : Sp) : SubS (a.meet b) a := by unfold SubS Sp.meet; dsimp only; omega
theorem meet_sub2 (a b : Sp) : SubS (a.meet b) b := by unfold SubS Sp.meet; dsimp only; omega
theorem limStep_sub (l : List Sp) (c : Ct) (k : Nat) : SubS ((limStep l c).getD k sp0) (l.getD k sp0) := by
  unfold limStep
  rw [List.getD_eq_getElem?_getD, List.getElem?_set]
  split
  · rename_i h
    subst h
    split
    · exact meet_sub1 _ _
    · rename_i h1
      rw [List.getD_eq_getElem?_getD, List.getElem?_eq_none (by omega)]; exact SubS.rf _
  · rw [List.getD_eq_getElem?_getD]; exact SubS.rf _
theorem limF_sub (cs : List Ct) : ∀ (l : List Sp) (k : Nat), SubS ((cs.foldl limStep l).getD k sp0) (l.getD k sp0) := by
  induction cs with
  | nil => intro l k; exact SubS.rf _
  | cons c cs ih => intro l k; exact (ih _ k).tr (limStep_sub l c k)
theorem limF_read {cs : List Ct} {c : Ct} (hc : c ∈ cs) : ∀ (l : List Sp), c.g.toNat < l.length → SubS ((cs.foldl limStep l).getD c.g.toNat sp0) (readsS c) := by
  induction cs with
  | nil => cases hc
  | cons d cs ih =>
    intro l hl
    rcases List.mem_cons.1 hc with rfl | h
    · refine (limF_sub cs _ _).tr ?_
      unfold limStep
      rw [List.getD_eq_getElem?_getD, List.getElem?_set_self hl]
      exact meet_sub2 _ _
    · exact ih h _ (by rw [limStep_len]; exact hl)
theorem now_sub (T : Ty) (g : Nat) : SubS (T.now g) (T.lim g) := by
  cases g with
  | zero => exact meet_sub2 _ _
  | succ g => exact meet_sub2 _ _
theorem back_sub (T : Ty) : ∀ (n : Nat) (L : List Sp) (k : Nat), SubS ((T.back L n).getD k sp0) (L.getD k sp0)
  | 0, L, k => SubS.rf _
  | n + 1, L, k => by
    refine (back_sub T n _ k).tr ?_
    rw [List.getD_eq_getElem?_getD, List.getElem?_set]
    split
    · rename_i h
      subst h
      split
      · exact meet_sub1 _ _
      · rename_i h1
        rw [List.getD_eq_getElem?_getD, List.getElem?_eq_none (by omega)]; exact SubS.rf _
    · rw [List.getD_eq_getElem?_getD]; exact SubS.rf _
theorem outs_sub (T : Ty) {g : Nat} (hg : g < T.g.toNat) : SubS (T.outs.getD g sp0) (T.lim g) := by
  refine (back_sub T _ _ g).tr ?_
  rw [nows_get hg]
  exact now_sub T g
theorem reads_one {g m n : Int} (h : 0 ≤ n) : readsS ⟨g, m, n, 0⟩ = ⟨n, n⟩ := by
  unfold readsS
  dsimp only
  rw [Int.tdiv_eq_ediv_of_nonneg (by omega), Int.tdiv_eq_ediv_of_nonneg (by omega)]
  congr 1 <;> omega
theorem outs_one {T : Ty} {ns : Nat → Int} (hk : TyOk T) (h : TrueN T ns) {g : Nat} (hg : g < T.g.toNat) (hc : (⟨g, 1, ns g, 0⟩ : Ct) ∈ T.cs) : T.outs.getD g sp0 = ⟨ns g, ns g⟩ := by
  have h1 := h.outs hk hg
  have h2 := outs_sub T hg
  have h3 : SubS (T.lim g) (readsS ⟨g, 1, ns g, 0⟩) := limF_read hc [spW, spW, spW, spW, spW] (by show (g : Int).toNat < 5; have := hk.g; omega)
  have h4 := (h.bd g (by have := hk.g; omega)).1
  rw [reads_one h4] at h3
  have h5 := h2.tr h3
  clear h2 h3
  generalize T.outs.getD g sp0 = s at *
  obtain ⟨lo, hi⟩ := s
  unfold SubS Sp.has at *
  dsimp only at *
  have a : lo = ns g := by omega
  have b : hi = ns g := by omega
  rw [a, b]
def sumL (ls : Nat → Int) : Nat → Int
  | 0 => 0
  | n + 1 => sumL ls n + ls n
theorem sumL_bd {ls : Nat → Int} {n : Nat} (h : ∀ k, k < n → 0 ≤ ls k ∧ ls k ≤ 3) : ∀ j, j ≤ n → 0 ≤ sumL ls j ∧ sumL ls j ≤ 3 * (j : Int)
  | 0, _ => ⟨Int.le_refl _, by show (0 : Int) ≤ _; omega⟩
  | j + 1, hj => by
    have h1 := sumL_bd h j (by omega)
    have h2 := h j (by omega)
    show 0 ≤ sumL ls j + ls j ∧ sumL ls j + ls j ≤ _
    omega
structure TcN (T : Ty) (ns ls : Nat → Int) (G : Nat) : Prop where
  ch : ∀ k, k < G → ∃ c, T.ch.getD k sp0 = ⟨c, c⟩ ∧ ns (k + 1) = ns k + c - ls k
  ls : ∀ k, k < G → 0 ≤ ls k ∧ ls k ≤ 3
  m : T.m = 3
  G : G ≤ 4
theorem lossTo_one {T : Ty} {L : List Sp} {ns ls : Nat → Int} {G : Nat} (h : TcN T ns ls G) (hL : ∀ g, g ≤ G → L.getD g sp0 = ⟨ns g, ns g⟩) : ∀ j, j ≤ G → lossTo T L 0 j = [⟨sumL ls j, sumL ls j⟩]
  | 0, _ => by
    unfold lossTo
    rw [hL 0 (by omega)]
    unfold Sp.wid
    dsimp only
    rw [show (ns 0 - ns 0 + 1).toNat = 1 by omega]
    rfl
  | j + 1, hj => by
    have ih := lossTo_one h hL j (by omega)
    obtain ⟨c, hc, hn⟩ := h.ch j (by omega)
    have hl := h.ls j (by omega)
    have hb := sumL_bd h.ls j (by omega)
    have hG := h.G
    unfold lossTo
    rw [ih, Nat.zero_add, hL j (by omega), hL (j + 1) hj, hc]
    unfold lossRow Sp.wid
    dsimp only
    rw [show (ns (j + 1) - ns (j + 1) + 1).toNat = 1 by omega]
    show [lossCell ⟨c, c⟩ T.m (ns j) (ns (j + 1) + ((0 : Nat) : Int)) [⟨sumL ls j, sumL ls j⟩] 1] = _
    congr 1
    unfold lossCell lossCell lossStep
    have e1 : lossOwn ⟨c, c⟩ T.m (ns j + ((0 : Nat) : Int)) (ns (j + 1) + ((0 : Nat) : Int)) = ⟨ls j, ls j⟩ := by
      unfold lossOwn
      dsimp only
      rw [h.m]
      congr 1 <;> omega
    rw [e1, if_pos]
    · show (⟨min 1048576 (sumL ls j + ls j), max (-1) (sumL ls j + ls j)⟩ : Sp) = ⟨sumL ls j + ls j, sumL ls j + ls j⟩
      congr 1 <;> omega
    · constructor
      · show Sp.emp ⟨sumL ls j, sumL ls j⟩ = false
        unfold Sp.emp; simp
      · unfold Sp.emp; simp
theorem tc_lost_one {T : Ty} {L : List Sp} {ns ls : Nat → Int} {G : Nat} (h : TcN T ns ls G) (hL : ∀ g, g ≤ G → L.getD g sp0 = ⟨ns g, ns g⟩) {j : Nat} (hj : j ≤ G) : lostF T L 0 j = ⟨sumL ls j, sumL ls j⟩ := by
  unfold lostF
  rw [Nat.sub_zero, lossTo_one h hL j hj]
  show minmax ⟨sumL ls j, sumL ls j⟩ ⟨sumL ls j, sumL ls j⟩ = _
  unfold minmax
  dsimp only
  congr 1 <;> omega
theorem lossStep_wide (r : Sp) (M n m : Int) (acc s : Sp) : SubS acc (lossStep r M n m acc s) := by
  unfold lossStep
  split
  · unfold SubS; dsimp only; omega
  · exact SubS.rf _
theorem sub_has {a b : Sp} {x : Int} (h : SubS a b) (k : a.has x) : b.has x := by unfold SubS Sp.has at *; omega
theorem lossCell_has {r : Sp} {M lo m S l : Int} {now : List Sp} {i0 : Nat} (hS : (now.getD i0 sp0).has S) (hl : (lossOwn r M (lo + (i0 : Int)) m).has l) : ∀ i, i0 < i → (lossCell r M lo m now i).has (S + l)
  | 0, hi => by omega
  | i + 1, hi => by
    unfold lossCell
    by_cases he : i = i0
    · subst he
      unfold lossStep
      rw [if_pos ⟨has_emp hS, has_emp hl⟩]
      unfold Sp.has at *
      dsimp only
      omega
    · exact sub_has (lossStep_wide _ _ _ _ _ _) (lossCell_has hS hl i (by omega))
theorem lossTo_has {T : Ty} {L : List Sp} {ns ls : Nat → Int} {G : Nat} (h : TcN T ns ls G) (hL : ∀ g, g ≤ G → (L.getD g sp0).has (ns g)) : ∀ j, j ≤ G → ∃ i : Nat, (i : Int) = ns j - (L.getD j sp0).lo ∧ i < (lossTo T L 0 j).length ∧ ((lossTo T L 0 j).getD i sp0).has (sumL ls j)
  | 0, _ => by
    have h0 := hL 0 (by omega)
    obtain ⟨i, hi⟩ := Int.eq_ofNat_of_zero_le (show 0 ≤ ns 0 - (L.getD 0 sp0).lo by unfold Sp.has at h0; omega)
    have hw : i < (L.getD 0 sp0).wid := by unfold Sp.wid; unfold Sp.has at h0; omega
    refine ⟨i, hi.symm, by rw [lossTo_len]; exact hw, ?_⟩
    unfold lossTo
    rw [List.getD_eq_getElem?_getD, List.getElem?_replicate, if_pos hw]
    show Sp.has sp0 0
    unfold Sp.has sp0; dsimp only; omega
  | j + 1, hj => by
    obtain ⟨i, hi, hil, hs⟩ := lossTo_has h hL j (by omega)
    obtain ⟨c, hc, hn⟩ := h.ch j (by omega)
    have hl := h.ls j (by omega)
    have h0 := hL (j + 1) hj
    obtain ⟨k, hk⟩ := Int.eq_ofNat_of_zero_le (show 0 ≤ ns (j + 1) - (L.getD (j + 1) sp0).lo by unfold Sp.has at h0; omega)
    have hw : k < (L.getD (j + 1) sp0).wid := by unfold Sp.wid; unfold Sp.has at h0; omega
    refine ⟨k, hk.symm, by rw [lossTo_len, Nat.zero_add]; exact hw, ?_⟩
    unfold lossTo
    unfold lossRow
    rw [Nat.zero_add, List.getD_eq_getElem?_getD, List.getElem?_map, List.getElem?_range hw]
    show Sp.has (lossCell _ _ _ _ _ _) (sumL ls j + ls j)
    refine lossCell_has (i0 := i) hs ?_ _ hil
    rw [hc]
    unfold lossOwn Sp.has
    dsimp only
    rw [h.m]
    omega
theorem minmax_wide : ∀ (l : List Sp) (a : Sp), SubS a (l.foldl minmax a) ∧ ∀ s ∈ l, SubS s (l.foldl minmax a)
  | [], a => ⟨SubS.rf _, fun _ h => nomatch h⟩
  | x :: l, a => by
    obtain ⟨h1, h2⟩ := minmax_wide l (minmax a x)
    have e1 : SubS a (minmax a x) := by unfold SubS minmax; dsimp only; omega
    have e2 : SubS x (minmax a x) := by unfold SubS minmax; dsimp only; omega
    refine ⟨e1.tr h1, fun s hs => ?_⟩
    rcases List.mem_cons.1 hs with rfl | hs
    · exact e2.tr h1
    · exact h2 s hs
theorem tc_lost_has {T : Ty} {L : List Sp} {ns ls : Nat → Int} {G : Nat} (h : TcN T ns ls G) (hL : ∀ g, g ≤ G → (L.getD g sp0).has (ns g)) {j : Nat} (hj : j ≤ G) : (lostF T L 0 j).has (sumL ls j) := by
  obtain ⟨i, -, hil, hs⟩ := lossTo_has h hL j hj
  unfold lostF
  rw [Nat.sub_zero]
  refine sub_has ((minmax_wide _ _).2 _ ?_) hs
  rw [List.getD_eq_getElem?_getD, List.getElem?_eq_getElem hil, Option.getD_some]
  exact List.getElem_mem hil
structure TcL (a : Int) (ch ns ls : List Int) : Prop where
  n : ns.length = ch.length + 1
  l : ls.length = ch.length
  c4 : ch.length ≤ 4
  f : ns.getD 0 0 = a
  a0 : 5 ≤ a ∧ a ≤ 20
  s : ∀ k, k < ch.length → ns.getD (k + 1) 0 = ns.getD k 0 + ch.getD k 0 - ls.getD k 0 ∧ 0 ≤ ls.getD k 0 ∧ ls.getD k 0 ≤ 3 ∧ -3 ≤ ch.getD k 0 ∧ ch.getD k 0 ≤ 3
  b : ∀ k : Nat, k ≤ ch.length → 0 ≤ ns.getD k 0 ∧ ns.getD k 0 ≤ 20 + 3 * (k : Int)
def oneS (c : Int) : Sp := ⟨c, c⟩
def tcT (a : Int) (ch : List Int) (cs : List Ct) : Ty := ⟨(ch.length : Int) + 1, ⟨a, a⟩, ch.map oneS, 3, cs⟩
theorem oneS_getD (ch : List Int) {k : Nat} (hk : k < ch.length) : (ch.map oneS).getD k sp0 = ⟨ch.getD k 0, ch.getD k 0⟩ := by
  rw [List.getD_eq_getElem?_getD, List.getElem?_map, List.getD_eq_getElem?_getD, List.getElem?_eq_getElem hk]
  rfl
theorem TcL.ok {a : Int} {ch ns ls : List Int} {cs : List Ct} (h : TcL a ch ns ls) (h7 : cs.length ≤ 7) (hcs : ∀ c ∈ cs, CtOk ((ch.length : Int) + 1) c) : TyOk (tcT a ch cs) := by
  have := h.c4
  have := h.a0
  refine ⟨by unfold tcT; dsimp only; omega, ⟨by unfold tcT; dsimp only; omega, by unfold tcT; dsimp only; omega, Int.le_refl _⟩, by unfold tcT; simp, fun s hs => ?_, by unfold tcT; dsimp only; omega, h7, hcs⟩
  unfold tcT at hs
  obtain ⟨c, hc, rfl⟩ := List.mem_map.1 hs
  obtain ⟨k, hk⟩ := List.getElem?_of_mem hc
  have hkl := (List.getElem?_eq_some_iff.1 hk).1
  have h1 := (h.s k hkl).2.2.2
  rw [List.getD_eq_getElem?_getD, hk] at h1
  simp only [Option.getD_some] at h1
  unfold oneS
  exact ⟨by dsimp only; omega, by dsimp only; omega, Int.le_refl _⟩
theorem TcL.tru {a : Int} {ch ns ls : List Int} {cs : List Ct} (h : TcL a ch ns ls) (hcs : ∀ c ∈ cs, (readsS c).has (ns.getD c.g.toNat 0)) : TrueN (tcT a ch cs) (fun k => ns.getD k 0) := by
  refine ⟨?_, fun g hg => ?_, fun k hk => ?_, hcs⟩
  · unfold tcT Sp.has; dsimp only; have := h.f; omega
  · have hgl : g < ch.length := by unfold tcT at hg; dsimp only at hg; omega
    have h1 := h.s g hgl
    unfold Ty.str tcT Sp.has Sp.add
    dsimp only
    rw [oneS_getD ch hgl]
    dsimp only
    omega
  · rcases Nat.lt_or_ge ch.length k with h1 | h1
    · rw [List.getD_eq_getElem?_getD, List.getElem?_eq_none (by have := h.n; omega)]; decide
    · have := h.b k h1; omega
theorem TcL.tcN {a : Int} {ch ns ls : List Int} {cs : List Ct} (h : TcL a ch ns ls) : TcN (tcT a ch cs) (fun k => ns.getD k 0) (fun k => ls.getD k 0) ch.length :=
  ⟨fun k hk => ⟨ch.getD k 0, oneS_getD ch hk, (h.s k hk).1⟩, fun k hk => ⟨(h.s k hk).2.1, (h.s k hk).2.2.1⟩, rfl, h.c4⟩
theorem TcL.start {a : Int} (h : 5 ≤ a ∧ a ≤ 20) : TcL a [] [a] [] := ⟨rfl, rfl, Nat.zero_le _, rfl, h, fun k hk => by simp at hk, fun k hk => by
  have : k = 0 := by simpa using hk
  subst this
  show 0 ≤ a ∧ a ≤ _
  omega⟩
theorem TcL.snoc {a : Int} {ch ns ls : List Int} (h : TcL a ch ns ls) {c l : Int} (h4 : ch.length < 4) (hc : -3 ≤ c ∧ c ≤ 3) (hl : 0 ≤ l ∧ l ≤ 3) (hp : 0 ≤ ns.getD ch.length 0 + c - l) : TcL a (ch ++ [c]) (ns ++ [ns.getD ch.length 0 + c - l]) (ls ++ [l]) := by
  have hn := h.n
  have hll := h.l
  have hb := h.b ch.length (Nat.le_refl _)
  refine ⟨by simp [hn], by simp [hll], by simp; omega, by rw [getD_app1 (by omega)]; exact h.f, h.a0, fun k hk => ?_, fun k hk => ?_⟩
  · simp only [List.length_append, List.length_singleton] at hk
    rcases Nat.lt_or_ge k ch.length with hlt | hge
    · rw [getD_app1 (by omega), getD_app1 (by omega), getD_app1 hlt, getD_app1 (by omega)]; exact h.s k hlt
    · have hk2 : k = ch.length := by omega
      subst hk2
      rw [getD_app2 hn.symm, getD_app1 (by omega), getD_app2 rfl, getD_app2 hll.symm]
      exact ⟨rfl, hl.1, hl.2, hc.1, hc.2⟩
  · simp only [List.length_append, List.length_singleton] at hk
    rcases Nat.lt_or_ge k (ch.length + 1) with hlt | hge
    · rw [getD_app1 (by omega)]; exact h.b k (by omega)
    · have hk2 : k = ch.length + 1 := by omega
      subst hk2
      rw [getD_app2 hn.symm]
      omega
end Go.Proofs.Ytgnjknihgjdedaa
