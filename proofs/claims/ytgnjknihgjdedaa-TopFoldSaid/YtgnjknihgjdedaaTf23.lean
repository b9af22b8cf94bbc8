/- TopFold 23: TalV, TalW, SwA, SwR, TyX, Row, TyO. -/
import Derived.Test.YtgnjknihgjdedaaTf04
import Derived.Test.YtgnjknihgjdedaaTf03
import Derived.Test.YtgnjknihgjdedaaTf22
import Derived.Test.YtgnjknihgjdedaaTf07
import Derived.BigQuiet
import Derived.Deep.CutBlock
import Derived.Deep.RegionHeld3
import Derived.Test.YtgnjknihgjdedaaTf06
import Derived.Test.YtgnjknihgjdedaaTf05
import Derived.BigRegion
namespace Go.Proofs.Ytgnjknihgjdedaa
set_option linter.unusedVariables false
set_option linter.unusedSimpArgs false

structure R3 (t : Int) (l : List Mk) (ks : List Int) (hs : List (List Int)) (ds : List De) (gs : List (List Int)) (gone whose : List Int) : Prop where
  n5 : l.length ≤ 5
  n0 : 0 < l.length
  f3 : ks.length ≤ 3
  f0 : 0 < ks.length
  sh : GSh l.length ks.length gs
  ti : TaleI t l hs ds gs gone whose
  de : ∀ d ∈ ds, deedE l.length ks.length d = 0
  gn : ∀ o : Nat, 0 ≤ gone.getD o 0 ∧ gone.getD o 0 ≤ 3 * ds.length
section
variable {t : Int} {l : List Mk} {ks : List Int} {hs : List (List Int)} {ds : List De} {gs : List (List Int)} {gone whose : List Int}
structure L3 (t : Int) (l : List Mk) (ks : List Int) (gs0 : List (List Int)) (gone0 : List Int) (f m k : Nat) (gs : List (List Int)) (gone : List Int) : Prop where
  km : k ≤ m
  sh : GSh l.length ks.length gs
  nn : ∀ f o, f < 3 → o < 5 → 0 ≤ hget (firstH gs) f o
  tot : htot (firstH gs) = htot (firstH gs0) - k
  al : hall (firstH gs) f = hall (firstH gs0) f - k
  ls : ∀ x, x ∈ lostJ l.length f l.length (firstH gs) (m - k) → x ∈ lostJ l.length f l.length (firstH gs0) m
  g : ∀ o : Nat, o < l.length → gone.getD o 0 + howned (firstH gs) o = gone0.getD o 0 + howned (firstH gs0) o
  gl : gone.length = l.length
  gn : ∀ o : Nat, gone0.getD o 0 ≤ gone.getD o 0 ∧ gone.getD o 0 ≤ gone0.getD o 0 + k
end
end Go.Proofs.Ytgnjknihgjdedaa
namespace Go.Proofs.Ytgnjknihgjdedaa
open Go.RowKit
set_option linter.unusedVariables false
set_option linter.unusedSimpArgs false

structure RD (w0 w1 : World) (H q : Nat) (t : Int) (vm vk vh bd vd : Value) (ds : List De) (vE : Value) (gs : List (List Int)) (vG : Value) (gone : List Int) (vW : Value) (whose : List Int) (ze1 ze2 zg1 zg2 z3 zr N p : Nat) (d : De) (w : World) : Prop where
  td : TDe w0 w1 H q t vm vk vh bd vd ds vE gs vG gone vW whose ze1 ze2 zg1 zg2 z3 zr N w
  bx : w.heap[p]? = some (dObj d)
  pz : zr ≤ p
section
variable {w0 w1 w w' : World} {H q N N' ze1 ze2 zg1 zg2 z3 zr p : Nat} {t : Int} {vm vk vh bd vd vE vG vW : Value} {ds : List De} {gs : List (List Int)} {gone whose : List Int} {d : De}
end
section
variable {w0 w1 w w' : World} {H q N N' ze1 ze2 zg1 zg2 z3 zr p n nh ce : Nat} {t : Int} {vm vk vh bd vd vG vW : Value} {Ae : Option Addr} {ds : List De} {gs : List (List Int)} {gone whose : List Int} {d : De}
end
end Go.Proofs.Ytgnjknihgjdedaa
namespace Go.Proofs.Ytgnjknihgjdedaa
open Go.RowKit
set_option linter.unusedVariables false
set_option linter.unusedSimpArgs false
set_option maxRecDepth 1000000
def findBlk (n : Nat) : Code → Option Code
  | .block m c => if m = n then some (.block m c) else findBlk n c
  | .seq a b => match findBlk n a with
    | some x => some x
    | none => findBlk n b
  | .cond _ a b => match findBlk n a with
    | some x => some x
    | none => findBlk n b
  | .loop c => findBlk n c
  | .scope c => findBlk n c
  | _ => none
structure SwC (t : Int) (al nh f : Nat) (ho sm : Int) (l : List Mk) (ks : List Int) (hs : List (List Int)) (ds : List De) (gs : List (List Int)) (gone whose : List Int) : Prop where
  r : R3 t l ks hs ds gs gone whose
  d6 : ds.length ≤ 6
  nk : ks.length = nh
  nl : l.length = al
  fk : f < ks.length
  sh : GSh al nh gs
  rb : ∀ r ∈ gs, r.length ≤ 1000 ∧ ∀ x ∈ r, -100000 ≤ x ∧ x ≤ 100000
  gb : ∀ o : Nat, o < al → 0 ≤ getG gs f o ∧ getG gs f o ≤ 80
  su : sm = (gs.getD f []).sum
  h : ho = -1 ∨ ∃ o : Nat, ho = o ∧ o < al ∧ 0 < getG gs f o ∧ 1 ≤ sm
  gl : gone.length = al
end Go.Proofs.Ytgnjknihgjdedaa
namespace Go.Proofs.Ytgnjknihgjdedaa
open Go.RowKit
set_option linter.unusedVariables false
set_option linter.unusedSimpArgs false
set_option maxRecDepth 1000000
def findRgn (n : Nat) : Code → Option Code
  | .region m ops b => if m = n then some (.region m ops b) else none
  | .block _ c => findRgn n c
  | .seq a b => match findRgn n a with
    | some x => some x
    | none => findRgn n b
  | .cond _ a b => match findRgn n a with
    | some x => some x
    | none => findRgn n b
  | .loop c => findRgn n c
  | .scope c => findRgn n c
  | _ => none
end Go.Proofs.Ytgnjknihgjdedaa
namespace Go.Proofs.Ytgnjknihgjdedaa
open Go.RowKit
set_option linter.unusedVariables false
set_option linter.unusedSimpArgs false
set_option maxRecDepth 1000000
-- DEFS
def TPf (H : Nat) (j : Nat) (w w' : World) : Prop := match j with
  | 1 => w.grownBy w' (some H)
  | _ => Below w.heap.size w w'
theorem gb_ofB {w w' : World} {o : Option Nat} (h : Below w.heap.size w w') : w.grownBy w' o := ⟨h.os, h.tape, h.output, h.size, fun j hj _ => h.block j hj⟩
theorem TPf.rf {H : Nat} (w : World) : TPf H 0 w w := Below.refl _ _
theorem TPf.gr {H j : Nat} {w w' : World} (h : TPf H j w w') : w.grownBy w' (some H) := by
  unfold TPf at h
  split at h
  · exact h
  · exact gb_ofB h
def PPf (ws : World) (H k : Nat) (w : World) : Prop := match k with
  | 1 => Below ws.heap.size ws w
  | _ => ws.grownBy w (some H)
theorem PPf.start {ws : World} {H : Nat} (k : Nat) : PPf ws H k ws := by
  unfold PPf
  split
  · exact Below.refl _ _
  · exact World.grownBy.refl _ _
theorem PPf.st {ws : World} {H : Nat} (k j : Nat) (w w' : World) (hc : j ≠ k ∨ k = 0) (hT : TPf H j w w') (hp : PPf ws H k w) : PPf ws H k w' := by
  unfold PPf at hp ⊢
  split at hp
  · have hj : j ≠ 1 := by rcases hc with h | h <;> omega
    unfold TPf at hT
    split at hT
    · exact absurd rfl hj
    · exact Below.trans hp (hT.mono hp.size)
  · exact hp.trans hT.gr
def FMk (H N : Nat) : VF := fun v w => ∃ mk : Mk, v = vMk mk ∧ mkOk mk = true ∧ Hd w H (N + 16)
theorem FMk.st {H N : Nat} (j : Nat) (v : Value) (w w' : World) (hc : j ≠ 1 ∨ 1 = 0) (hT : TPf H j w w') (h : FMk H N v w) : FMk H N v w' := by
  obtain ⟨mk, h1, h2, h3⟩ := h
  refine ⟨mk, h1, h2, ?_⟩
  have hj : j ≠ 1 := by omega
  unfold TPf at hT
  split at hT
  · exact absurd rfl hj
  · exact h3.below hT h3.lt
def FMs (base : Nat) : VF := fun v w => ∃ (mk : Mk) (r : Nat), v = .slice (some ⟨r, 0, none⟩) 1 1 ∧ mkOk mk = true ∧ base ≤ r ∧ w.heap[r]? = some (.cells #[.int .i64 mk.n, .int .i64 mk.b, .int .i64 mk.p] 44 (0, 0))
theorem FMs.st {base H : Nat} (hH : H < base) (j : Nat) (v : Value) (w w' : World) (hT : TPf H j w w') (h : FMs base v w) : FMs base v w' := by
  obtain ⟨mk, r, h1, h2, h3, h4⟩ := h
  exact ⟨mk, r, h1, h2, h3, (hT.gr.block r (heap_lt h4) (fun e => by injection e with e; omega)).trans h4⟩
-- DEFS
structure LowK (B H : Nat) (w w' : World) : Prop where
  os : w'.os = w.os
  tape : w'.tape = w.tape
  output : w'.output = w.output
  size : w.heap.size ≤ w'.heap.size
  blk : ∀ j, j < B → j ≠ H → w'.heap[j]? = w.heap[j]?
abbrev rgO (tn : Int) (A : Option Addr) (n c : Nat) : Obj := .cells #[.int .i64 tn, .slice A n c] 41 (0, 0)
noncomputable def rgF14 : Code := ((Try.f3.body.bind (findRgn 14)).getD .skip)
def RgFQ14 (W : World) (H x N base : Nat) (tn : Int) (v0 v1 v2 v4 v5 v6 v7 v8 v9 Z0 Z1 Z2 Z3 Z4 Z5 Z6 Z7 Z8 Z9 ZA ZB ZC ZD ZE ZF ZG ZH ZI ZJ ZK ZL ZM ZN ZO ZP ZQ ZR ZS ZT ZU ZV ZW ZX ZY ZZ Za Zb Zc Zd Ze Zf Zg Zh Zi Zj Zk Zl Zm Zn Zo Zp Zq Zr Zs Zt Zu Zv Zw Zx Zy Zz Y0 Y1 Y2 Y3 Y4 Y5 Y6 Y7 Y8 Y9 YA YB YC YD YE YF YG YH YI YJ YK YL YM YN YO YP YQ YR YS YT YU YV YW YX YY YZ Ya Yb Yc Yd Ye Yf Yg Yh Yi Yj Yk Yl Ym Yn Yo Yp Yq Yr Ys Yt Yu Yv Yw Yx Yy Yz X0 X1 X2 X3 X4 X5 X6 X7 X8 X9 XA XB XC XD XE XF XG XH XI XJ XK XL XM XN XO XP XQ XR XS XT XU XV XW XX XY XZ Xa Xb Xc Xd Xe Xf Xg Xh Xi Xj Xk Xl Xm Xn Xo Xp Xq Xr Xs Xt Xu Xv Xw Xx Xy Xz K0 K1 K2 K3 K4 K5 K6 K7 K8 K9 KA KB KC KD KE KF KG KH KI KJ KK KL KM KN KO KP KQ KR KS KT KU KV KW KX KY KZ Ka Kb Kc Kd Ke Kf Kg Kh Ki Kj Kk Kl Km Kn Ko Kp Kq Kr Ks Kt Ku Kv Kw Kx Ky Kz J0 J1 J2 J3 J4 J5 J6 J7 J8 J9 JA JB JC JD JE JF JG JH JI JJ JK JL JM JN JO JP JQ JR JS JT JU JV JW JX JY JZ Ja Jb Jc : Value) (Q : Exit → Act → World → Prop) : Prop := ∀ (Jd Je Jf Jg Jh Ji Jj : Value) (mk : Mk) (g c : Nat) (w' : World), mkOk mk = true → OwnM w' base (.slice (some ⟨g, 0, none⟩) 1 c) [mk] → w'.heap[x]? = some (rgO tn (some ⟨g, 0, none⟩) 1 c) → Hd w' H (N + 16) → LowK base H W w' → Q .normal ⟨#[v0, v1, v2, (Value.pointer (some ⟨H, 0, none⟩)), v4, v5, v6, v7, v8, v9, Z0, Z1, (Value.pointer (some ⟨x, 0, none⟩)), Z2, Z3, Z4, Z5, Z6, Z7, Z8, Z9, ZA, ZB, ZC, ZD, ZE, ZF, ZG, ZH, ZI, ZJ, ZK, ZL, ZM, ZN, ZO, ZP, ZQ, ZR, ZS, ZT, ZU, ZV, ZW, ZX, ZY, ZZ, Za, Zb, Zc, Zd, Ze, Zf, Zg, Zh, Zi, Zj, Zk, Zl, Zm, Zn, Zo, Zp, Zq, Zr, Zs, Zt, Zu, Zv, Zw, Zx, Zy, Zz, Y0, Y1, Y2, Y3, Y4, Y5, Y6, Y7, Y8, Y9, Jd, Je, Jf, Jg, Jh, Ji, Jj, YH, YI, YJ, YK, YL, YM, YN, YO, YP, YQ, YR, YS, YT, YU, YV, YW, YX, YY, YZ, Ya, Yb, Yc, Yd, Ye, Yf, Yg, Yh, Yi, Yj, Yk, Yl, Ym, Yn, Yo, Yp, Yq, Yr, Ys, Yt, Yu, Yv, Yw, Yx, Yy, Yz, X0, X1, X2, X3, X4, X5, X6, X7, X8, X9, XA, XB, XC, XD, XE, XF, XG, XH, XI, XJ, XK, XL, XM, XN, XO, XP, XQ, XR, XS, XT, XU, XV, XW, XX, XY, XZ, Xa, Xb, Xc, Xd, Xe, Xf, Xg, Xh, Xi, Xj, Xk, Xl, Xm, Xn, Xo, Xp, Xq, Xr, Xs, Xt, Xu, Xv, Xw, Xx, Xy, Xz, K0, K1, K2, K3, K4, K5, K6, K7, K8, K9, KA, KB, KC, KD, KE, KF, KG, KH, KI, KJ, KK, KL, KM, KN, KO, KP, KQ, KR, KS, KT, KU, KV, KW, KX, KY, KZ, Ka, Kb, Kc, Kd, Ke, Kf, Kg, Kh, Ki, Kj, Kk, Kl, Km, Kn, Ko, Kp, Kq, Kr, Ks, Kt, Ku, Kv, Kw, Kx, Ky, Kz, J0, J1, J2, J3, J4, J5, J6, J7, J8, J9, JA, JB, JC, JD, JE, JF, JG, JH, JI, JJ, JK, JL, JM, JN, JO, JP, JQ, JR, JS, JT, JU, JV, JW, JX, JY, JZ, Ja, Jb, Jc], []⟩ w'
set_option maxHeartbeats 8000000 in
theorem fold_mark (W : World) (H x N base : Nat) (tn : Int) (A1 : Option Addr) (cA : Nat) (v0 v1 v2 v4 v5 v6 v7 v8 v9 Z0 Z1 Z2 Z3 Z4 Z5 Z6 Z7 Z8 Z9 ZA ZB ZC ZD ZE ZF ZG ZH ZI ZJ ZK ZL ZM ZN ZO ZP ZQ ZR ZS ZT ZU ZV ZW ZX ZY ZZ Za Zb Zc Zd Ze Zf Zg Zh Zi Zj Zk Zl Zm Zn Zo Zp Zq Zr Zs Zt Zu Zv Zw Zx Zy Zz Y0 Y1 Y2 Y3 Y4 Y5 Y6 Y7 Y8 Y9 YA YB YC YD YE YF YG YH YI YJ YK YL YM YN YO YP YQ YR YS YT YU YV YW YX YY YZ Ya Yb Yc Yd Ye Yf Yg Yh Yi Yj Yk Yl Ym Yn Yo Yp Yq Yr Ys Yt Yu Yv Yw Yx Yy Yz X0 X1 X2 X3 X4 X5 X6 X7 X8 X9 XA XB XC XD XE XF XG XH XI XJ XK XL XM XN XO XP XQ XR XS XT XU XV XW XX XY XZ Xa Xb Xc Xd Xe Xf Xg Xh Xi Xj Xk Xl Xm Xn Xo Xp Xq Xr Xs Xt Xu Xv Xw Xx Xy Xz K0 K1 K2 K3 K4 K5 K6 K7 K8 K9 KA KB KC KD KE KF KG KH KI KJ KK KL KM KN KO KP KQ KR KS KT KU KV KW KX KY KZ Ka Kb Kc Kd Ke Kf Kg Kh Ki Kj Kk Kl Km Kn Ko Kp Kq Kr Ks Kt Ku Kv Kw Kx Ky Kz J0 J1 J2 J3 J4 J5 J6 J7 J8 J9 JA JB JC JD JE JF JG JH JI JJ JK JL JM JN JO JP JQ JR JS JT JU JV JW JX JY JZ Ja Jb Jc : Value) (Q : Exit → Act → World → Prop)
    (HB : Hid (W.heap[x]? = some (rgO tn A1 0 cA))) (HH : Hid (Hd W H N)) (hN : N ≤ 4611686018000000000) (HO : Hid (OwnM W base (.slice A1 0 cA) [])) (hHb : H < base) (hbx : base ≤ x) (hxl0 : x < W.heap.size)
    (HQ : RgFQ14 W H x N base tn v0 v1 v2 v4 v5 v6 v7 v8 v9 Z0 Z1 Z2 Z3 Z4 Z5 Z6 Z7 Z8 Z9 ZA ZB ZC ZD ZE ZF ZG ZH ZI ZJ ZK ZL ZM ZN ZO ZP ZQ ZR ZS ZT ZU ZV ZW ZX ZY ZZ Za Zb Zc Zd Ze Zf Zg Zh Zi Zj Zk Zl Zm Zn Zo Zp Zq Zr Zs Zt Zu Zv Zw Zx Zy Zz Y0 Y1 Y2 Y3 Y4 Y5 Y6 Y7 Y8 Y9 YA YB YC YD YE YF YG YH YI YJ YK YL YM YN YO YP YQ YR YS YT YU YV YW YX YY YZ Ya Yb Yc Yd Ye Yf Yg Yh Yi Yj Yk Yl Ym Yn Yo Yp Yq Yr Ys Yt Yu Yv Yw Yx Yy Yz X0 X1 X2 X3 X4 X5 X6 X7 X8 X9 XA XB XC XD XE XF XG XH XI XJ XK XL XM XN XO XP XQ XR XS XT XU XV XW XX XY XZ Xa Xb Xc Xd Xe Xf Xg Xh Xi Xj Xk Xl Xm Xn Xo Xp Xq Xr Xs Xt Xu Xv Xw Xx Xy Xz K0 K1 K2 K3 K4 K5 K6 K7 K8 K9 KA KB KC KD KE KF KG KH KI KJ KK KL KM KN KO KP KQ KR KS KT KU KV KW KX KY KZ Ka Kb Kc Kd Ke Kf Kg Kh Ki Kj Kk Kl Km Kn Ko Kp Kq Kr Ks Kt Ku Kv Kw Kx Ky Kz J0 J1 J2 J3 J4 J5 J6 J7 J8 J9 JA JB JC JD JE JF JG JH JI JJ JK JL JM JN JO JP JQ JR JS JT JU JV JW JX JY JZ Ja Jb Jc Q) :
    Code.wp Try.prog rgF14 Q ⟨#[v0, v1, v2, (Value.pointer (some ⟨H, 0, none⟩)), v4, v5, v6, v7, v8, v9, Z0, Z1, (Value.pointer (some ⟨x, 0, none⟩)), Z2, Z3, Z4, Z5, Z6, Z7, Z8, Z9, ZA, ZB, ZC, ZD, ZE, ZF, ZG, ZH, ZI, ZJ, ZK, ZL, ZM, ZN, ZO, ZP, ZQ, ZR, ZS, ZT, ZU, ZV, ZW, ZX, ZY, ZZ, Za, Zb, Zc, Zd, Ze, Zf, Zg, Zh, Zi, Zj, Zk, Zl, Zm, Zn, Zo, Zp, Zq, Zr, Zs, Zt, Zu, Zv, Zw, Zx, Zy, Zz, Y0, Y1, Y2, Y3, Y4, Y5, Y6, Y7, Y8, Y9, YA, YB, YC, YD, YE, YF, YG, YH, YI, YJ, YK, YL, YM, YN, YO, YP, YQ, YR, YS, YT, YU, YV, YW, YX, YY, YZ, Ya, Yb, Yc, Yd, Ye, Yf, Yg, Yh, Yi, Yj, Yk, Yl, Ym, Yn, Yo, Yp, Yq, Yr, Ys, Yt, Yu, Yv, Yw, Yx, Yy, Yz, X0, X1, X2, X3, X4, X5, X6, X7, X8, X9, XA, XB, XC, XD, XE, XF, XG, XH, XI, XJ, XK, XL, XM, XN, XO, XP, XQ, XR, XS, XT, XU, XV, XW, XX, XY, XZ, Xa, Xb, Xc, Xd, Xe, Xf, Xg, Xh, Xi, Xj, Xk, Xl, Xm, Xn, Xo, Xp, Xq, Xr, Xs, Xt, Xu, Xv, Xw, Xx, Xy, Xz, K0, K1, K2, K3, K4, K5, K6, K7, K8, K9, KA, KB, KC, KD, KE, KF, KG, KH, KI, KJ, KK, KL, KM, KN, KO, KP, KQ, KR, KS, KT, KU, KV, KW, KX, KY, KZ, Ka, Kb, Kc, Kd, Ke, Kf, Kg, Kh, Ki, Kj, Kk, Kl, Km, Kn, Ko, Kp, Kq, Kr, Ks, Kt, Ku, Kv, Kw, Kx, Ky, Kz, J0, J1, J2, J3, J4, J5, J6, J7, J8, J9, JA, JB, JC, JD, JE, JF, JG, JH, JI, JJ, JK, JL, JM, JN, JO, JP, JQ, JR, JS, JT, JU, JV, JW, JX, JY, JZ, Ja, Jb, Jc], []⟩ W := by
  dsimp only
  conv => arg 2; whnf
  have hHW : H < W.heap.size := by omega
  have HC := Lib.hid (fun (w' : World) (hp : PPf W.drew H 0 w') => show _ ∧ _ ∧ x < w'.heap.size from by
    have hg : W.drew.grownBy w' (some H) := hp
    have hb := (hg.block x (heap_lt (show W.drew.heap[x]? = _ from HB.out)) (fun e => by injection e with e; omega)).trans HB.out
    exact ⟨(blk2 hb).1, (blk2 hb).2, heap_lt hb⟩)
  refine wp_region_tag 5 0 0 [] [] 0 (TPf H) (PPf W.drew H) [0, 0, 0, 1, 0] (by as_aux_lemma => kernel_rfl) (by as_aux_lemma => kernel_rfl) (by as_aux_lemma => kernel_rfl) (by as_aux_lemma => kernel_rfl) (by omega) (.inl rfl) rfl rfl (fun k i w1 w2 hc _ hT hp => PPf.st k i w1 w2 hc hT hp) (fun k => PPf.start k) ?_
  apply Exists.intro
  refine ⟨fun ys => ?_, fun ops K hK => ?_⟩
  · simp only [List.take_succ_cons, List.take_zero, dstsOf, List.filterMap_cons, List.filterMap_nil, putAll]
    go_simp
    rfl
  simp only [List.take_succ_cons, List.take_zero, List.drop_succ_cons, List.drop_zero] at hK ⊢
  repeat
    refine LexT.const TPf.rf ?_
    apply Exists.intro
    refine ⟨fun ys w' hp hpk hq hd => ?_, ?_⟩
    · try simp [DepsOf, depsGo, DF.holds, Region.binds, EqF] at hd
      try simp only [hd]
      obtain ⟨x0, x1, hxl⟩ := HC.out w' hp
      intro Q2 hQ2
      go_wp2_with fail
      rfl
    try simp only [List.nil_append, List.cons_append]
  refine LexT.some (FMk H N) (fun i v w1 w2 hc _ hT h => FMk.st i v w1 w2 hc hT h) (fun ys w' hp hpk hq hd => ?_) ?_
  · try simp [DepsOf, depsGo, DF.holds, Region.binds, EqF] at hd
    try simp only [hd]
    have hh6 := HH.out.kept (w' := w') fun j hj => (show Below W.drew.heap.size W.drew w' from hpk).block j (by show j < W.heap.size; omega)
    clear hp hpk
    intro Q2 hQ2
    go_wp2_with fail
    refine (markOf_any H N _ hh6 (by omega)).mono ?_
    rintro e w6 ⟨mk, rfl, hmk, hd6⟩
    have HX := Lib.hid (show TPf H 1 w' w6 ∧ FMk H N (vMk mk) w6 from ⟨hd6.gr, mk, rfl, hmk, hd6.hd⟩)
    clear hmk hd6 hh6
    go_wp2
    exact ⟨_, rfl, HX.out⟩
  try simp only [List.nil_append, List.cons_append]
  refine LexT.some (FMs W.heap.size) (fun i v w1 w2 hc _ hT h => FMs.st hHW i v w1 w2 hT h) (fun ys w' hp hpk hq hd => ?_) ?_
  · try simp [DepsOf, depsGo, DF.holds, Region.binds, EqF] at hd
    try simp only [hd]
    obtain ⟨mk, h86, hmk, -⟩ := hd
    simp only [h86]
    unfold vMk
    have hpz : W.heap.size ≤ w'.heap.size := (show W.drew.grownBy w' (some H) from hp).size
    have HX := Lib.hid (show TPf H 0 w' (w'.alloc (.cells #[.int .i64 mk.n, .int .i64 mk.b, .int .i64 mk.p] 44 (0, 0))) ∧ FMs W.heap.size (.slice (some ⟨w'.heap.size, 0, none⟩) 1 1) (w'.alloc (.cells #[.int .i64 mk.n, .int .i64 mk.b, .int .i64 mk.p] 44 (0, 0))) from ⟨bal0 _ _, mk, w'.heap.size, rfl, hmk, hpz, alloc_at rfl⟩)
    clear hp hpk hmk h86
    intro Q2 hQ2
    go_wp2_with fail
    exact HX.out
  try simp only [List.nil_append, List.cons_append]
  refine hK _ fun ys w' hp hF => ?_
  simp [AllF, DF.holds] at hF
  obtain ⟨e83, e84, e85, ⟨mk0, -, -, hhd⟩, mk, r, e87, hmk, hr, br⟩ := hF
  have hg : W.grownBy w' (some H) := (gb_drew W (some H)).trans (show W.drew.grownBy w' (some H) from hp)
  simp only [e83, e84, e85, e87]
  have hO := HO.out.kept hg (.inr (HO.out.nb hHb))
  have hxb : w'.heap[x]? = _ := (hg.block x (heap_lt HB.out) (fun e => by injection e with e; omega)).trans HB.out
  have hsz := hg.size
  have hxn : (Value.slice A1 0 cA).ownBlock ≠ some x := hO.ne' hxb (by decide)
  have HX := Lib.hid (And.intro hO (And.intro hxb (And.intro hg (And.intro hhd hmk))))
  have hbw : base ≤ w'.heap.size := by omega
  clear hK hp e83 e84 e85 e87 hxb hg hhd hmk hO
  go_wp2_with (first
    | (at_builtin; refine wp_appL okMark rfl _ _ rfl base (.slice A1 0 cA) [] mk #[.int .i64 mk.n, .int .i64 mk.b, .int .i64 mk.p] r rfl rfl br rfl rfl (one_eMk _) HX.out.1 (by decide) (by decide) hbw ?_; intro g7 c7 w7 ho7 hgr7 hl7; have bx7 := (hgr7.block x (heap_lt HX.out.2.1) (fun e => hxn e.symm)).trans HX.out.2.1; have ⟨x0, x1⟩ := blk2 bx7; have f1 := frz bx7 1; have hxl := heap_lt bx7; have HY := Lib.hid (And.intro ho7 (And.intro hgr7 bx7)); clear ho7 hgr7 bx7)
    | fail)
  obtain ⟨hO, hxb, hg, hhd, hmk⟩ := HX.out
  obtain ⟨ho7, hgr7, bx7⟩ := HY.out
  have hob : ∀ k, (Value.slice A1 0 cA).ownBlock = some k → base ≤ k := fun k e => (hO.lt k e).1
  have hlow : ∀ j, j < base → (w7.setCell ⟨x, 1, none⟩ (.slice (some ⟨g7, 0, none⟩) 1 c7)).heap[j]? = w'.heap[j]? := fun j hj =>
    (Below.heap_setCell w7 ⟨x, 1, none⟩ _ j (by show j ≠ x; omega)).trans (hgr7.block j (by omega) (fun e => by have := hob j e.symm; omega))
  exact HQ _ _ _ _ _ _ _ mk g7 c7 _ hmk (Own.kept (show OwnM w7 base (.slice (some ⟨g7, 0, none⟩) 1 c7) [mk] from ho7) (grownBy_cell _ _ _ _) (.inr (Own.ne' (show OwnM w7 base (.slice (some ⟨g7, 0, none⟩) 1 c7) [mk] from ho7) bx7 (by decide)))) ((set_blk bx7).trans rfl)
    (hhd.kept fun j hj => hlow j (by omega))
    ⟨hgr7.os.trans hg.os, hgr7.tape.trans hg.tape, hgr7.output.trans hg.output, Nat.le_trans hsz (by have := hgr7.size; simpa [World.setCell] using this), fun j hj hne => (hlow j hj).trans (hg.block j (by omega) (fun e => hne (by injection e with e)))⟩
end Go.Proofs.Ytgnjknihgjdedaa
namespace Go.Proofs.Ytgnjknihgjdedaa
open Go.RowKit
set_option linter.unusedVariables false
set_option linter.unusedSimpArgs false

def upI (n : Nat) : List Int := (List.range n).map Int.ofNat
theorem upI_len (n : Nat) : (upI n).length = n := by simp [upI]
theorem upI_succ (n : Nat) : upI (n + 1) = upI n ++ [(n : Int)] := by unfold upI; rw [List.range_succ, List.map_append]; rfl
theorem swap_perm {L : List Int} {i k : Nat} (hi : i < L.length) (hk : k < L.length) : ((L.set i (L.getD k 0)).set k (L.getD i 0)).Perm L := by
  rw [List.getD_eq_getElem?_getD, List.getD_eq_getElem?_getD, List.getElem?_eq_getElem hi, List.getElem?_eq_getElem hk]
  exact List.set_set_perm hi hk
def RowR (H N n : Nat) (w : World) (e : Ending) (w' : World) : Prop := ∃ A c L, e = .returned (.slice A n c) ∧ OwnI w' w.heap.size (.slice A n c) L ∧ L.Perm (upI n) ∧ Dealt w w' H N
set_option maxHeartbeats 1000000 in
theorem row_any (H N n : Nat) (w : World) (h : Hd w H N) (hN : N ≤ 4611686018427000000) (hn : n ≤ 1000) :
    Calls Try.prog 17 #[.pointer (some ⟨H, 0, none⟩), .int .i64 n] w (RowR H (N + n) n w) := by
  have hHl := h.lt
  have HH := Lib.hid h
  clear h
  go_enter Try.func17, Try.ntmps17
  go_wp2_with fail
  go_loopg [5, 6] n (fun g v5 v6 wr => ∃ k : Nat, k + g = n ∧ v6 = .int .i64 k ∧ OwnI wr w.heap.size v5 (upI k) ∧ Below w.heap.size w wr)
  case atStart => exact ⟨0, by omega, rfl, Own.nil_, Below.refl _ _⟩
  case round =>
    obtain ⟨k, hk, rfl, hown, hB⟩ := hrel
    have hBz := hB.size
    by_cases hlt : k < n
    · have hll : (upI k).length < 4294967296 := by rw [upI_len]; omega
      have h3 : (k : Int) < (n : Int) := by omega
      have HK := Lib.hid (And.intro hk (And.intro hown hB))
      clear hk hown hB
      go_wp2_with (at_builtin; refine wp_app okInt rfl (.tmp 15) (.tmp 17) rfl w.heap.size _ (upI k) (k : Int) _ rfl rfl rfl rfl (one_eInt _) HK.out.2.1 ?_ ?_ ?_ ?_; (omega); (omega); (omega); intro v' w4 hown4 hb4 _ hz4; have H4 := Lib.hid (And.intro hown4 hb4); clear hown4 hb4)
      go_roundg (gk - 1)
      case measure => have := HK.out.1; omega
      case rel => exact ⟨k + 1, by have := HK.out.1; omega, by go_num, by rw [upI_succ]; exact H4.out.1, HK.out.2.2.trans H4.out.2⟩
    · obtain rfl : k = n := by omega
      have hhd : Hd wr H N := HH.out.below hB hHl
      have hD : Dealt w wr H N := ⟨hhd, ⟨hB.os, hB.tape, hB.output, hB.size, fun j hj _ => hB.block j hj⟩⟩
      obtain ⟨A5, c5, rfl, -, -, -⟩ := hown.form lenInt
      rw [upI_len] at hown ⊢
      have HK := Lib.hid (And.intro hown hD)
      clear hown hD hk hB hlt hhd
      go_wp2_with fail
      go_loopg [7] k (fun g v7 wx => (g = 0 ∧ v7 = .int .i64 (-1) ∨ ∃ i : Nat, i + 1 = g ∧ v7 = .int .i64 i) ∧ g ≤ k ∧ ∃ L : List Int, OwnI wx w.heap.size (.slice A5 k c5) L ∧ L.Perm (upI k) ∧ Dealt w wx H (N + (k - g)))
      case atStart =>
        refine ⟨?_, Nat.le_refl _, upI k, HK.out.1, List.Perm.refl _, HK.out.2.mono (by omega)⟩
        rcases Nat.eq_zero_or_pos k with h0 | h0
        · exact .inl ⟨h0, by rw [h0]; rfl⟩
        · exact .inr ⟨k - 1, by omega, by congr 1; omega⟩
      case round =>
        obtain ⟨hv7, hg, L, hown, hp, hD⟩ := hrel
        have hL : L.length = k := by rw [hp.length_eq, upI_len]
        rcases hv7 with ⟨h0, rfl⟩ | ⟨i, hi, rfl⟩
        · have HE := Lib.hid (And.intro hown (And.intro hp hD))
          clear hown hp hD hL hg
          go_wp2_with fail
          go_ret
          exact ⟨A5, c5, L, rfl, HE.out.1, HE.out.2.1, HE.out.2.2.mono (by omega)⟩
        by_cases h2 : 0 < i
        · have i1 : (0 : Int) < (i : Int) := by omega
          have hup := upto_any H (N + (k - gk)) (i : Int) wr hD.hd (by omega) (by omega)
          have HU := Lib.hid hup
          have HG := Lib.hid (And.intro hown (And.intro hp (And.intro hD (And.intro hL (And.intro hi hg)))))
          clear hown hp hD hL hup hi hg
          go_upto_region 10 with (go_at_call 12; refine HU.out.mono ?_; rintro e w4 ⟨x, rfl, hx, hd4⟩)
          have ho4 := HG.out.1.row hd4.gr (fun k e => by cases e; exact hHl)
          have hxk : x < L.length ∧ i < L.length := by have := HG.out.2.2.2.1; have := HG.out.2.2.2.2; omega
          obtain ⟨g5, rfl, hb5, hl5, hc1, -, -⟩ := Own.put1 ho4 hxk.1 0
          obtain ⟨g5', e5, -, -, hc2, hf2, ho5⟩ := Own.put1 ho4 hxk.2 (L.getD x 0)
          cases e5
          have hxk' : x < (L.set i (L.getD x 0)).length := by rw [List.length_set]; exact hxk.1
          obtain ⟨g5', e5, -, -, hc3, hf3, ho6⟩ := Own.put1 ho5 hxk' (L.getD i 0)
          cases e5
          have i3 : (i : Int) < (k : Int) := by have := HG.out.2.2.2.1; omega
          have i4 : (x : Int) < (k : Int) := by have := HG.out.2.2.2.1; omega
          obtain ⟨y, hy⟩ : ∃ y, y = L.getD x 0 := ⟨_, rfl⟩
          obtain ⟨z, hz⟩ : ∃ z, z = L.getD i 0 := ⟨_, rfl⟩
          have hpm := swap_perm hxk.2 hxk.1
          rw [← hy, ← hz] at hpm
          rw [← hy] at hc1 ho5 hc3 hf3 ho6
          rw [← hz] at hc2 ho6
          have hgr := (grownBy_cell w4 g5 i (.int .i64 y)).trans (grownBy_cell _ g5 x (.int .i64 z))
          have hdd := hd4
          have hs6 : g5 < (w4.setCell ⟨g5, i, none⟩ (.int .i64 y)).heap.size := by simpa [World.setCell] using hl5
          have HO := Lib.hid (And.intro ho6 (And.intro hpm (And.intro hdd hgr)))
          clear ho4 ho5 ho6 hpm hdd hgr hd4 hxk hxk' hy hz hx
          go_wp2_with fail
          go_roundg (gk - 1)
          case measure => have := HG.out.2.2.2.2; omega
          case rel =>
            have hH5 : H < g5 := by omega
            refine ⟨.inr ⟨i - 1, by have := HG.out.2.2.2.2; omega, by congr 1; omega⟩, by have := HG.out.2.2.2.2; omega, _, HO.out.1, HO.out.2.1.trans HG.out.2.1, ?_⟩
            have hD := HG.out.2.2.1.trans HO.out.2.2.1
            refine Dealt.mono (M := N + (k - (gk - 1))) (N := N + (k - gk) + 1) ?_ (by have := HG.out.2.2.2.2; omega)
            exact Dealt.set (Dealt.set hD (by omega) (by omega) _) (by omega) (by omega) _
        · obtain rfl : i = 0 := by omega
          have HE := Lib.hid (And.intro hown (And.intro hp hD))
          clear hown hp hD hL
          go_wp2_with fail
          go_ret
          exact ⟨A5, c5, L, rfl, HE.out.1, HE.out.2.1, HE.out.2.2.mono (by omega)⟩
end Go.Proofs.Ytgnjknihgjdedaa
namespace Go.Proofs.Ytgnjknihgjdedaa
open Go.RowKit
set_option linter.unusedVariables false
set_option linter.unusedSimpArgs false
theorem upI_map {α : Type} {l : List α} {d : α} {n : Nat} (h : l.length = n) : (upI n).map (fun i : Int => l.getD i.toNat d) = l := by
  subst h
  apply List.ext_getElem
  · simp [upI]
  · intro i h1 h2
    simp only [upI, List.getElem_map, List.getElem_range]
    rw [List.getD_eq_getElem?_getD]
    simp [h2]
theorem turn_cnt {L os : List Int} {n : Nat} (hL : L.Perm (upI n)) (h : os.length = n) (o : Int) : cntI (L.map fun i : Int => os.getD i.toNat 0) o = cntI os o := by
  unfold cntI
  rw [(hL.map _).countP_eq, upI_map h]
theorem turn_fit {t : Int} {l : List Mk} {ss : List Sg} {os L : List Int} {n : Nat} (hL : L.Perm (upI n)) (hs : ss.length = n) (ho : os.length = n) (h : FitL t l ss os) :
    FitL t l (L.map fun i : Int => ss.getD i.toNat ⟨0, false, false, 0, 0⟩) (L.map fun i : Int => os.getD i.toNat 0) := by
  intro k s o hk1 hk2
  rw [List.getElem?_map] at hk1 hk2
  cases hi : L[k]? with
  | none => rw [hi] at hk1; cases hk1
  | some i =>
    rw [hi] at hk1 hk2
    simp only [Option.map_some, Option.some.injEq] at hk1 hk2
    have hm : i ∈ upI n := hL.mem_iff.1 (List.mem_of_getElem? hi)
    have hib : i.toNat < n := by
      simp only [upI, List.mem_map, List.mem_range] at hm
      obtain ⟨a, ha, rfl⟩ := hm
      exact ha
    have e1 := List.getElem?_eq_getElem (show i.toNat < ss.length by omega)
    have e2 := List.getElem?_eq_getElem (show i.toNat < os.length by omega)
    rw [List.getD_eq_getElem?_getD, e1] at hk1
    rw [List.getD_eq_getElem?_getD, e2] at hk2
    simp only [Option.getD_some] at hk1 hk2
    rw [hk1] at e1
    rw [hk2] at e2
    exact h i.toNat s o e1 e2
theorem show_law {t : Int} {l : List Mk} {o : Nat} {m : Mk} {s : Sg} (hck : check t l = 0) (ho : l[o]? = some m) (hs : seen s 0 0 = 0) (hp : (popI s.n : Int) ≤ t) :
    showE t l (o : Int) s = 0 ∧ showS t l (o : Int) s = wornS m s ∧ seen (wornS m s) 9 6 = 0 ∧ fits (wornS m s) m t = true := by
  have hol := (List.getElem?_eq_some_iff.1 ho).1
  have hmv := check_marks hck m (List.mem_of_getElem? ho)
  have hsv := (seen_ok hs).1
  have hmk : mkAt l (o : Int) = m := by unfold mkAt; simp [ho]
  have hE : showE t l (o : Int) s = 0 := by
    unfold showE
    have hpb := popI_but s.n m.n (by omega)
    rw [if_neg (by omega), if_neg (by rw [ownerE_one.2 ⟨by omega, by omega⟩]; simp), if_neg (by omega), hmk, if_neg (by omega)]
  refine ⟨hE, by unfold showS; rw [if_pos hE, hmk], seen_worn ?_, fits_worn ?_ hsv hp⟩
  · exact hmv
  · exact hmv.1
end Go.Proofs.Ytgnjknihgjdedaa
