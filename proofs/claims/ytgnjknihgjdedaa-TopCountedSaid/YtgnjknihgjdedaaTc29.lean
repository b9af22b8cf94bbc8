/- TopCounted 29: TcG, TcM. -/
import Derived.Test.YtgnjknihgjdedaaTc28
namespace Go.Proofs.Ytgnjknihgjdedaa
open Go.RowKit
set_option linter.unusedVariables false
set_option linter.unusedSimpArgs false
set_option maxRecDepth 1000000
def CtL (g : Nat) (er y d : Int) (c : Ct) : Prop := ∃ v, -d ≤ v ∧ (v ≤ d ∨ v = -d) ∧ c = ⟨(g : Int), 2, y + v, er⟩
def FRg (d : Int) (f : Int → Value) : VF := fun v _ => ∃ x : Int, v = f x ∧ -d ≤ x ∧ (x ≤ d ∨ x = -d)
theorem FRg.st {T : Nat → World → World → Prop} {d : Int} {f : Int → Value} : ∀ (m : Nat) v w w', T m w w' → FRg d f v w → FRg d f v w' := fun _ _ _ _ _ h => h
noncomputable def rgC36 : Code := ((Try.f4.body.bind (findRgn 36)).getD .skip)
def RgC36 (W : World) (H N p6 g n8 c8 : Nat) (A8 : Option Addr) (er : Int) (T : Ty) (P : Ct → Prop) (v0 v1 v2 v4 v5 v6 v7 v9 Z0 Z1 Z2 Z3 Z4 Z5 Z6 Z7 Z8 Z9 ZA ZB ZC ZD ZE ZF ZG ZH ZI ZJ ZK ZL ZM ZN ZO ZP ZQ ZR ZS ZT ZU ZV ZW ZX ZY ZZ Za Zb Zc Zd Ze Zf Zg Zh Zi Zj Zk Zl Zm Zn Zo Zp Zq Zr Zs Zt Zu Zv Zw Zx Zy Zz Y0 Y1 Y2 Y3 Y4 Y5 Y6 Y7 Y8 Y9 YA YB YC YD YE YF YG YH YI YJ YK YL YM YN YO YP YQ YR YS YT YU YV YW YX YY YZ Ya Yb Yc Yd Ye Yf Yg Yh Yi Yj Yk Yl Ym Yn Yo Yp Yq Yr Ys Yt Yu Yv Yw Yx Yy Yz X0 X1 X2 X3 X4 X5 X6 X7 X8 X9 XA XB XC XD XE XF XG XH XI XJ XK XL XM XN XO XP XQ XR XS XT XU XV XW XX XY XZ Xa Xb Xc Xd Xe Xf Xg Xh Xi Xj Xk Xl Xm Xn Xo Xp Xq Xr Xs Xt Xu Xv Xw Xx Xy Xz K0 K1 K2 K3 K4 K5 K6 K7 K8 K9 KA KB KC KD KE KF KG KH KI KJ KK KL KM KN KO KP KQ KR KS KT KU KV KW KX KY KZ Ka Kb Kc Kd Ke Kf Kg Kh Ki Kj Kk Kl Km Kn Ko Kp Kq Kr Ks Kt Ku Kv Kw Kx Ky Kz J0 J1 J2 J3 J4 J5 J6 J7 J8 J9 JA JB JC JD JE JF JG JH JI JJ JK JL JM JN JO JP JQ JR JS JT JU JV JW JX JY JZ Ja Jb Jc Jd Je Jf Jg Jh Ji Jj Jk Jl Jm Jn Jo Jp Jq Jr Js Jt Ju Jv : Value) (Q : Exit → Act → World → Prop) : Prop := ∀ (Jw Jx Jy Jz G0 G1 G2 G3 G4 G5 G6 G7 G8 G9 GA GB GC GD GF GG GH GI GJ GK GL GM GN GO GP GQ : Value) (k : Nat) (c : Ct) (p : Tp) (w' : World), P c → W.heap.size ≤ k → w'.heap[k]? = some (tyO (TyA T c) p) → TyO w' W.heap.size (TyA T c) p → Dealt W w' H (N + 30000) → Q .normal ⟨#[v0, v1, v2, (Value.pointer (some ⟨H, 0, none⟩)), v4, v5, v6, v7, (Value.slice A8 n8 c8), v9, Z0, Z1, Z2, Z3, Z4, Z5, Z6, (Value.pointer (some ⟨p6, 0, none⟩)), (Value.int .i64 (g : Int)), (Value.int .i64 er), Z7, Z8, (Value.pointer (some ⟨k, 0, none⟩)), (Value.int .i64 0), ZB, ZC, ZD, ZE, ZF, ZG, ZH, ZI, ZJ, ZK, ZL, ZM, ZN, ZO, ZP, ZQ, ZR, ZS, ZT, ZU, ZV, ZW, ZX, ZY, ZZ, Za, Zb, Zc, Zd, Ze, Zf, Zg, Zh, Zi, Zj, Zk, Zl, Zm, Zn, Zo, Zp, Zq, Zr, Zs, Zt, Zu, Zv, Zw, Zx, Zy, Zz, Y0, Y1, Y2, Y3, Y4, Y5, Y6, Y7, Y8, Y9, YA, YB, YC, YD, YE, YF, YG, YH, YI, YJ, YK, YL, YM, YN, YO, YP, YQ, YR, YS, YT, YU, YV, YW, YX, YY, YZ, Ya, Yb, Yc, Yd, Ye, Yf, Yg, Yh, Yi, Yj, Yk, Yl, Ym, Yn, Yo, Yp, Yq, Yr, Ys, Yt, Yu, Yv, Yw, Yx, Yy, Yz, X0, X1, X2, X3, X4, X5, X6, X7, X8, X9, XA, XB, XC, XD, XE, XF, XG, XH, XI, XJ, XK, XL, XM, XN, XO, XP, XQ, XR, XS, XT, XU, XV, XW, XX, XY, XZ, Jw, Jx, Jy, Jz, G0, G1, G2, G3, G4, G5, G6, G7, G8, G9, GA, GB, GC, GD, GF, GG, GH, GI, GJ, GK, GL, GM, GN, GO, GP, GQ, K4, K5, K6, K7, K8, K9, KA, KB, KC, KD, KE, KF, KG, KH, KI, KJ, KK, KL, KM, KN, KO, KP, KQ, KR, KS, KT, KU, KV, KW, KX, KY, KZ, Ka, Kb, Kc, Kd, Ke, Kf, Kg, Kh, Ki, Kj, Kk, Kl, Km, Kn, Ko, Kp, Kq, Kr, Ks, Kt, Ku, Kv, Kw, Kx, Ky, Kz, J0, J1, J2, J3, J4, J5, J6, J7, J8, J9, JA, JB, JC, JD, JE, JF, JG, JH, JI, JJ, JK, JL, JM, JN, JO, JP, JQ, JR, JS, JT, JU, JV, JW, JX, JY, JZ, Ja, Jb, Jc, Jd, Je, Jf, Jg, Jh, Ji, Jj, Jk, Jl, Jm, Jn, Jo, Jp, Jq, Jr, Js, Jt, Ju, Jv], []⟩ w'
set_option maxHeartbeats 8000000 in
theorem cnt_add2 (W : World) (H N p6 g n8 c8 : Nat) (A8 : Option Addr) (er : Int) (T : Ty) (p : Tp) (ns : List Int) (P : Ct → Prop) (v0 v1 v2 v4 v5 v6 v7 v9 Z0 Z1 Z2 Z3 Z4 Z5 Z6 Z7 Z8 Z9 ZA ZB ZC ZD ZE ZF ZG ZH ZI ZJ ZK ZL ZM ZN ZO ZP ZQ ZR ZS ZT ZU ZV ZW ZX ZY ZZ Za Zb Zc Zd Ze Zf Zg Zh Zi Zj Zk Zl Zm Zn Zo Zp Zq Zr Zs Zt Zu Zv Zw Zx Zy Zz Y0 Y1 Y2 Y3 Y4 Y5 Y6 Y7 Y8 Y9 YA YB YC YD YE YF YG YH YI YJ YK YL YM YN YO YP YQ YR YS YT YU YV YW YX YY YZ Ya Yb Yc Yd Ye Yf Yg Yh Yi Yj Yk Yl Ym Yn Yo Yp Yq Yr Ys Yt Yu Yv Yw Yx Yy Yz X0 X1 X2 X3 X4 X5 X6 X7 X8 X9 XA XB XC XD XE XF XG XH XI XJ XK XL XM XN XO XP XQ XR XS XT XU XV XW XX XY XZ Xa Xb Xc Xd Xe Xf Xg Xh Xi Xj Xk Xl Xm Xn Xo Xp Xq Xr Xs Xt Xu Xv Xw Xx Xy Xz K0 K1 K2 K3 K4 K5 K6 K7 K8 K9 KA KB KC KD KE KF KG KH KI KJ KK KL KM KN KO KP KQ KR KS KT KU KV KW KX KY KZ Ka Kb Kc Kd Ke Kf Kg Kh Ki Kj Kk Kl Km Kn Ko Kp Kq Kr Ks Kt Ku Kv Kw Kx Ky Kz J0 J1 J2 J3 J4 J5 J6 J7 J8 J9 JA JB JC JD JE JF JG JH JI JJ JK JL JM JN JO JP JQ JR JS JT JU JV JW JX JY JZ Ja Jb Jc Jd Je Jf Jg Jh Ji Jj Jk Jl Jm Jn Jo Jp Jq Jr Js Jt Ju Jv : Value) (Q : Exit → Act → World → Prop)
    (H6 : Hid (W.heap[p6]? = some (tyO T p))) (HH : Hid (Hd W H N)) (hN : N ≤ 4611686018000000000) (h6H : p6 ≠ H) (HT : Hid (TyOk T ∧ TyIn W T p ∧ OffH p.A H ∧ OffH p.B H)) (h7 : T.cs.length < 7) (HN : Hid (Ints W A8 n8 ns ∧ OffH A8 H)) (hg8 : g < n8) (her : 0 ≤ er ∧ er ≤ 20) (hyb : 0 ≤ ns.getD g 0 ∧ ns.getD g 0 ≤ 100) (hP : Hid (∀ c, CtL g er (ns.getD g 0) ((er * ns.getD g 0).tdiv 100) c → CtOk T.g c ∧ P c))
    (HQ : RgC36 W H N p6 g n8 c8 A8 er T P v0 v1 v2 v4 v5 v6 v7 v9 Z0 Z1 Z2 Z3 Z4 Z5 Z6 Z7 Z8 Z9 ZA ZB ZC ZD ZE ZF ZG ZH ZI ZJ ZK ZL ZM ZN ZO ZP ZQ ZR ZS ZT ZU ZV ZW ZX ZY ZZ Za Zb Zc Zd Ze Zf Zg Zh Zi Zj Zk Zl Zm Zn Zo Zp Zq Zr Zs Zt Zu Zv Zw Zx Zy Zz Y0 Y1 Y2 Y3 Y4 Y5 Y6 Y7 Y8 Y9 YA YB YC YD YE YF YG YH YI YJ YK YL YM YN YO YP YQ YR YS YT YU YV YW YX YY YZ Ya Yb Yc Yd Ye Yf Yg Yh Yi Yj Yk Yl Ym Yn Yo Yp Yq Yr Ys Yt Yu Yv Yw Yx Yy Yz X0 X1 X2 X3 X4 X5 X6 X7 X8 X9 XA XB XC XD XE XF XG XH XI XJ XK XL XM XN XO XP XQ XR XS XT XU XV XW XX XY XZ Xa Xb Xc Xd Xe Xf Xg Xh Xi Xj Xk Xl Xm Xn Xo Xp Xq Xr Xs Xt Xu Xv Xw Xx Xy Xz K0 K1 K2 K3 K4 K5 K6 K7 K8 K9 KA KB KC KD KE KF KG KH KI KJ KK KL KM KN KO KP KQ KR KS KT KU KV KW KX KY KZ Ka Kb Kc Kd Ke Kf Kg Kh Ki Kj Kk Kl Km Kn Ko Kp Kq Kr Ks Kt Ku Kv Kw Kx Ky Kz J0 J1 J2 J3 J4 J5 J6 J7 J8 J9 JA JB JC JD JE JF JG JH JI JJ JK JL JM JN JO JP JQ JR JS JT JU JV JW JX JY JZ Ja Jb Jc Jd Je Jf Jg Jh Ji Jj Jk Jl Jm Jn Jo Jp Jq Jr Js Jt Ju Jv Q) :
    Code.wp Try.prog rgC36 Q ⟨#[v0, v1, v2, (Value.pointer (some ⟨H, 0, none⟩)), v4, v5, v6, v7, (Value.slice A8 n8 c8), v9, Z0, Z1, Z2, Z3, Z4, Z5, Z6, (Value.pointer (some ⟨p6, 0, none⟩)), (Value.int .i64 (g : Int)), (Value.int .i64 er), Z7, Z8, Z9, ZA, ZB, ZC, ZD, ZE, ZF, ZG, ZH, ZI, ZJ, ZK, ZL, ZM, ZN, ZO, ZP, ZQ, ZR, ZS, ZT, ZU, ZV, ZW, ZX, ZY, ZZ, Za, Zb, Zc, Zd, Ze, Zf, Zg, Zh, Zi, Zj, Zk, Zl, Zm, Zn, Zo, Zp, Zq, Zr, Zs, Zt, Zu, Zv, Zw, Zx, Zy, Zz, Y0, Y1, Y2, Y3, Y4, Y5, Y6, Y7, Y8, Y9, YA, YB, YC, YD, YE, YF, YG, YH, YI, YJ, YK, YL, YM, YN, YO, YP, YQ, YR, YS, YT, YU, YV, YW, YX, YY, YZ, Ya, Yb, Yc, Yd, Ye, Yf, Yg, Yh, Yi, Yj, Yk, Yl, Ym, Yn, Yo, Yp, Yq, Yr, Ys, Yt, Yu, Yv, Yw, Yx, Yy, Yz, X0, X1, X2, X3, X4, X5, X6, X7, X8, X9, XA, XB, XC, XD, XE, XF, XG, XH, XI, XJ, XK, XL, XM, XN, XO, XP, XQ, XR, XS, XT, XU, XV, XW, XX, XY, XZ, Xa, Xb, Xc, Xd, Xe, Xf, Xg, Xh, Xi, Xj, Xk, Xl, Xm, Xn, Xo, Xp, Xq, Xr, Xs, Xt, Xu, Xv, Xw, Xx, Xy, Xz, K0, K1, K2, K3, K4, K5, K6, K7, K8, K9, KA, KB, KC, KD, KE, KF, KG, KH, KI, KJ, KK, KL, KM, KN, KO, KP, KQ, KR, KS, KT, KU, KV, KW, KX, KY, KZ, Ka, Kb, Kc, Kd, Ke, Kf, Kg, Kh, Ki, Kj, Kk, Kl, Km, Kn, Ko, Kp, Kq, Kr, Ks, Kt, Ku, Kv, Kw, Kx, Ky, Kz, J0, J1, J2, J3, J4, J5, J6, J7, J8, J9, JA, JB, JC, JD, JE, JF, JG, JH, JI, JJ, JK, JL, JM, JN, JO, JP, JQ, JR, JS, JT, JU, JV, JW, JX, JY, JZ, Ja, Jb, Jc, Jd, Je, Jf, Jg, Jh, Ji, Jj, Jk, Jl, Jm, Jn, Jo, Jp, Jq, Jr, Js, Jt, Ju, Jv], []⟩ W := by
  dsimp only
  conv => arg 2; whnf
  have hHW : H < W.heap.size := HH.out.lt
  obtain ⟨b8, o8, y, hA8, hb8, hy, cy⟩ := Ints.get HN.out.1 hg8
  have hy' : ns.getD g 0 = y := by rw [List.getD_eq_getElem?_getD, hy]; rfl
  rw [hy'] at hP hyb
  have hb8H : b8 ≠ H := HN.out.2 b8 o8 hA8
  subst hA8
  obtain ⟨B, hB⟩ : ∃ B, B = W.heap.size := ⟨_, rfl⟩
  have hHB : H < B := by omega
  have HBW := Lib.hid hB
  have HCY := Lib.hid cy
  clear hy hy' hB cy
  have HC : Hid (∀ k' w', TVc H B (GTy B T P) k' W w' → Dealt W w' H (N + 300 * k') ∧ (w'.cell? ⟨p6, 0, none⟩ = some (.int .i64 T.g) ∧ w'.cell? ⟨p6, 1, none⟩ = some (.int .i64 T.f.lo) ∧ w'.cell? ⟨p6, 2, none⟩ = some (.int .i64 T.f.hi) ∧ w'.cell? ⟨p6, 3, none⟩ = some (.slice p.A T.ch.length p.c) ∧ w'.cell? ⟨p6, 4, none⟩ = some (.int .i64 T.m) ∧ w'.cell? ⟨p6, 5, none⟩ = some (.slice p.B T.cs.length p.d)) ∧ p6 < w'.heap.size ∧ w'.cell? ⟨b8, o8 + g, none⟩ = some (.int .i64 y)) :=
    Lib.hid fun k' w' h => by
      rw [HBW.out] at h
      have hd := h.dealt HH.out
      have hb := hd.blk H6.out h6H
      exact ⟨hd, blk6 hb, heap_lt hb, hd.cell HCY.out hb8H⟩
  have hm0 : 0 ≤ er * y := Int.mul_nonneg her.1 hyb.1
  have hm1 : er * y ≤ 2000 := by
    calc er * y ≤ 20 * y := Int.mul_le_mul_of_nonneg_right her.2 hyb.1
      _ ≤ 20 * 100 := by omega
      _ = 2000 := by decide
  obtain ⟨d, hd⟩ : ∃ d, d = (er * y).tdiv 100 := ⟨_, rfl⟩
  rw [← hd] at hP
  have hdb : 0 ≤ d ∧ d ≤ 20 := by
    rw [hd, Int.tdiv_eq_ediv_of_nonneg hm0]
    omega
  have hw1 : IntKind.i64.wrap (er * y) = er * y := IntWalk.i64_in _ (by omega)
  have hw2 : IntKind.i64.wrap ((er * y).tdiv 100) = d := by rw [← hd]; exact IntWalk.i64_in _ (by omega)
  have hn1 : -er * y = -(er * y) := Int.neg_mul _ _
  have hw3 : IntKind.i64.wrap (-er * y) = -er * y := by rw [hn1]; exact IntWalk.i64_in _ (by omega)
  have hw4 : IntKind.i64.wrap ((-er * y).tdiv 100) = -d := by rw [hn1, Int.neg_tdiv, ← hd]; exact IntWalk.i64_in _ (by omega)
  have hw0 : IntKind.i64.wrap (-er) = -er := IntWalk.i64_in _ (by omega)
  have HD := Lib.hid hd
  clear hd hn1
  refine wp_region_inv (TVc H B (GTy B T P)) (by kernel_rfl) (by kernel_rfl) (TVc.tr hHB) (TVc.draw _) ?_
  apply Exists.intro
  refine ⟨fun ys => ?_, fun ops K hK => ?_⟩
  · simp only [dstsOf, List.filterMap_cons, List.filterMap_nil, putAll]
    go_simp
    rfl
  repeat
    refine LexI.const TVc.rf ?_
    apply Exists.intro
    refine ⟨fun n' ys w' hn' hT hd => ?_, ?_⟩
    · try simp [DepsOf, depsGo, DF.holds, Region.binds, EqF] at hd
      obtain ⟨_, ⟨k0, k1, k2, k3, k4, k5⟩, hl6, ky⟩ := HC.out n' w' hT
      intro Q2 hQ2
      go_wp2_with fail
      rfl
    try simp only [List.nil_append, List.cons_append]
  clear hw0 hw1 hw2 hw3 hw4
  refine LexI.some (FRg d (fun x => .int .i64 x)) (FRg.st) (fun n' ys w' hn' hT hd => ?_) ?_
  · try simp [DepsOf, depsGo, DF.holds, Region.binds, EqF] at hd
    try simp only [hd]
    have hdw := (HC.out n' w' hT).1
    intro Q2 hQ2
    go_wp2_with fail
    obtain ⟨N0, hle, hd0, hmin⟩ := hdw.hd.least
    refine (among_any H N0 (-d) d _ hd0 (by omega) (by omega) (by omega)).mono ?_
    rintro e w5 ⟨x, rfl, hx1, hx2, hd5⟩
    have HX := Lib.hid (show TVc H B (GTy B T P) 1 w' w5 from TVc.deal hmin hd5 (by decide))
    clear hd5 hdw hT hd0 hmin
    go_wp2
    exact ⟨_, rfl, HX.out, x, rfl, hx1, hx2⟩
  try simp only [List.nil_append, List.cons_append]
  refine LexI.some (FRg d (fun x => .int .i64 (y + x))) (FRg.st) (fun n' ys w' hn' hT hd => ?_) ?_
  · try simp [DepsOf, depsGo, DF.holds, Region.binds, EqF] at hd
    try simp only [hd]
    obtain ⟨-, x, e196, hx1, hx2⟩ := hd
    simp only [e196]
    have hwr : IntKind.i64.wrap (y + x) = y + x := IntWalk.i64_in _ (by omega)
    clear hT e196
    intro Q2 hQ2
    go_wp2_with fail
    exact ⟨TVc.rf _, x, rfl, hx1, hx2⟩
  try simp only [List.nil_append, List.cons_append]
  repeat
    refine LexI.const TVc.rf ?_
    apply Exists.intro
    refine ⟨fun n' ys w' hn' hT hd => ?_, ?_⟩
    · try simp [DepsOf, depsGo, DF.holds, Region.binds, EqF] at hd
      obtain ⟨_, ⟨k0, k1, k2, k3, k4, k5⟩, hl6, ky⟩ := HC.out n' w' hT
      intro Q2 hQ2
      go_wp2_with fail
      rfl
    try simp only [List.nil_append, List.cons_append]
  refine LexI.some (FRg d (fun x => .agg #[.int .i64 (g : Int), .int .i64 2, .int .i64 (y + x), .int .i64 er])) (FRg.st) (fun n' ys w' hn' hT hd => ?_) ?_
  · try simp [DepsOf, depsGo, DF.holds, Region.binds, EqF] at hd
    try simp only [hd]
    obtain ⟨-, ⟨x, e197, hx1, hx2⟩, -⟩ := hd
    simp only [e197]
    clear hT e197
    intro Q2 hQ2
    go_wp2_with fail
    exact ⟨TVc.rf _, x, rfl, hx1, hx2⟩
  try simp only [List.nil_append, List.cons_append]
  refine LexI.some (FAd B T P (fun v => .tuple #[v, .int .i64 0])) (FAd.st hHB) (fun n' ys w' hn' hT hd => ?_) ?_
  · try simp [DepsOf, depsGo, DF.holds, Region.binds, EqF] at hd
    try simp only [hd]
    obtain ⟨-, ⟨x, e199, hx1, hx2⟩, -⟩ := hd
    simp only [e199]
    have hdw := (HC.out n' w' hT).1
    have hiw : TyIn w' T p := ⟨HT.out.2.1.a.dealt hdw HT.out.2.2.1, HT.out.2.1.ac, HT.out.2.1.am, HT.out.2.1.b.dealt hdw HT.out.2.2.2, HT.out.2.1.bc, HT.out.2.1.bm⟩
    have hbw : B ≤ w'.heap.size := by rw [HBW.out]; exact hdw.size
    have hcp := hP.out ⟨(g : Int), 2, y + x, er⟩ ⟨x, hx1, hx2, rfl⟩
    have had := tAdd_any T p ⟨(g : Int), 2, y + x, er⟩ w' HT.out.1 hiw hcp.1 h7
    unfold tyV ctV at had
    have HCP := Lib.hid hcp.2
    clear hT hdw hiw hcp e199
    intro Q2 hQ2
    go_wp2_with fail
    refine had.mono ?_
    rintro e w5 ⟨⟨p', rfl, ho⟩, hb5⟩
    have HX := Lib.hid (show TVc H B (GTy B T P) 1 w' w5 ∧ FAd B T P (fun v => .tuple #[v, .int .i64 0]) (.tuple #[tyV (TyA T ⟨(g : Int), 2, y + x, er⟩) p', .int .i64 0]) w5 from ⟨TVc.of hb5, _, p', HCP.out, rfl, ho.1.mono hbw, ho.2.mono hbw⟩)
    clear hb5 ho had
    go_wp2
    exact ⟨_, rfl, HX.out⟩
  try simp only [List.nil_append, List.cons_append]
  refine LexI.some (FAd B T P (fun v => .tuple #[v, .int .i64 0])) (FAd.st hHB) (fun n' ys w' hn' hT hd => ?_) ?_
  · try simp [DepsOf, depsGo, DF.holds, Region.binds, EqF] at hd
    try simp only [hd]
    obtain ⟨c, p', hc, e200, ho⟩ := hd
    simp only [e200]
    have HX := Lib.hid ho
    clear hT ho e200
    intro Q2 hQ2
    go_wp2_with fail
    exact ⟨TVc.rf _, c, p', hc, rfl, HX.out⟩
  try simp only [List.nil_append, List.cons_append]
  refine LexI.some (FAd B T P (fun v => v)) (FAd.st hHB) (fun n' ys w' hn' hT hd => ?_) ?_
  · try simp [DepsOf, depsGo, DF.holds, Region.binds, EqF] at hd
    try simp only [hd]
    obtain ⟨c, p', hc, e173, ho⟩ := hd
    simp only [e173]
    have HX := Lib.hid ho
    clear hT ho e173
    intro Q2 hQ2
    go_wp2_with fail
    exact ⟨TVc.rf _, c, p', hc, rfl, HX.out⟩
  try simp only [List.nil_append, List.cons_append]
  refine LexI.some (EqF (.int .i64 0)) (EqF.st) (fun n' ys w' hn' hT hd => ?_) ?_
  · try simp [DepsOf, depsGo, DF.holds, Region.binds, EqF] at hd
    try simp only [hd]
    obtain ⟨c, p', hc, e173, ho⟩ := hd
    simp only [e173]
    clear hT ho e173
    intro Q2 hQ2
    go_wp2_with fail
    exact ⟨TVc.rf _, rfl⟩
  try simp only [List.nil_append, List.cons_append]
  refine LexI.some (PzV H B T P) (PzV.st hHB) (fun n' ys w' hn' hT hd => ?_) ?_
  · try simp [DepsOf, depsGo, DF.holds, Region.binds, EqF] at hd
    try simp only [hd]
    have hbw : B ≤ w'.heap.size := by rw [HBW.out]; exact (HC.out n' w' hT).1.size
    have HX := Lib.hid (PzV.new (T := T) (P := P) w' hbw hHB)
    clear hT hbw
    intro Q2 hQ2
    go_wp2_with fail
    exact HX.out
  try simp only [List.nil_append, List.cons_append]
  refine LexI.ref 22 (PtV H B T P) (PtV.st hHB) rfl rfl (fun n' ys w' hn' hT hd => ?_) ?_
  · try simp [DepsOf, depsGo, DF.holds, Region.binds, EqF] at hd
    try simp only [hd]
    obtain ⟨⟨k, e22, hkB, hkH, hk⟩, ⟨c, p', hc, e201, ho⟩, -⟩ := hd
    simp only [e22, e201]
    obtain ⟨g', lo', hi', vC', m', vK', hb⟩ : ∃ (g' lo' hi' : Int) (vC' : Value) (m' : Int) (vK' : Value), w'.heap[k]? = some (tyC g' lo' hi' vC' m' vK') := by
      rcases hk with hk | ⟨t, ⟨c2, p2, -, rfl, -⟩, hk⟩
      · exact ⟨_, _, _, _, _, _, hk⟩
      · exact ⟨_, _, _, _, _, _, hk⟩
    unfold tyV
    have hk0 := blk6 hb
    obtain ⟨z0, z1, z2, z3, z4, z5⟩ := hk0
    obtain ⟨f0, f1, f2, f3, f4, f5⟩ := And.intro (frz hb 0) (And.intro (frz hb 1) (And.intro (frz hb 2) (And.intro (frz hb 3) (And.intro (frz hb 4) (frz hb 5)))))
    have hkl := heap_lt hb
    have hX := ty_put hHB hkB hkH hc ho hb
    unfold TyA
    dsimp only
    generalize (T.cs ++ [c]).length = nn at hX ⊢
    have HX := Lib.hid hX
    clear hT ho e22 e201 hb hk hX
    intro Q2 hQ2
    go_wp2_with fail
    exact HX.out
  try simp only [List.nil_append, List.cons_append]
  repeat
    refine LexI.const TVc.rf ?_
    apply Exists.intro
    refine ⟨fun n' ys w' hn' hT hd => ?_, ?_⟩
    · try simp [DepsOf, depsGo, DF.holds, Region.binds, EqF] at hd
      obtain ⟨_, ⟨k0, k1, k2, k3, k4, k5⟩, hl6, ky⟩ := HC.out n' w' hT
      intro Q2 hQ2
      go_wp2_with fail
      rfl
    try simp only [List.nil_append, List.cons_append]
  refine hK _ fun n' ys w' hn' hT hF => ?_
  simp only [AllF, DF.holds] at hF
  obtain ⟨-, -, -, -, -, -, -, -, -, -, -, -, -, -, -, -, -, -, -, -, -, -, -, -, -, -, -, -, -, -, -, ⟨k, e22, hkB, hkH, t, ⟨c, p', hc, rfl, ho⟩, hb⟩, e23, -⟩ := hF
  simp only [e22, e23]
  rw [HBW.out] at hT hkB ho
  exact HQ _ _ _ _ _ _ _ _ _ _ _ _ _ _ _ _ _ _ _ _ _ _ _ _ _ _ _ _ _ _ k c p' w' hc hkB hb ho ((hT.dealt HH.out).mono (by omega))
end Go.Proofs.Ytgnjknihgjdedaa
namespace Go.Proofs.Ytgnjknihgjdedaa
open Go.RowKit
set_option linter.unusedVariables false
set_option linter.unusedSimpArgs false
set_option maxRecDepth 1000000
def T39 (p6 : Nat) (j : Nat) (w w' : World) : Prop := match j with
  | 1 => w.grownBy w' (some p6)
  | _ => w' = w
def P39 (W : World) (p6 : Nat) (O : Obj) (k : Nat) (w : World) : Prop := W.grownBy w (some p6) ∧ (k = 1 → w.heap[p6]? = some O)
theorem T39.rf {p6 : Nat} (w : World) : T39 p6 0 w w := rfl
theorem T39.gr {p6 j : Nat} {w w' : World} (h : T39 p6 j w w') : w.grownBy w' (some p6) := by
  unfold T39 at h
  split at h
  · exact h
  · rw [h]; exact World.grownBy.refl _ _
theorem P39.st {W : World} {p6 : Nat} {O : Obj} (k j : Nat) (w w' : World) (hc : j ≠ k ∨ k = 0) (hT : T39 p6 j w w') (hp : P39 W p6 O k w) : P39 W p6 O k w' := by
  refine ⟨hp.1.trans hT.gr, fun e => ?_⟩
  have hj : j ≠ 1 := by omega
  unfold T39 at hT
  split at hT
  · exact absurd rfl hj
  · rw [hT]; exact hp.2 e
def F39 (p6 : Nat) (o : Obj) : VF := fun _ w => w.heap[p6]? = some o
theorem F39.st {p6 : Nat} {o : Obj} (j : Nat) (v : Value) (w w' : World) (hj : j ≠ 1) (hT : T39 p6 j w w') (h : F39 p6 o v w) : F39 p6 o v w' := by
  unfold T39 at hT
  split at hT
  · exact absurd rfl hj
  · rw [hT]; exact h
theorem ge39 {W V w Z : World} {p6 p17 : Nat} {o : Obj} (h0 : GE (fun j => j = p6 ∨ j = p17) W V) (hne : p6 ≠ p17) (h1 : V.grownBy w (some p6)) (h2 : w.grownBy Z (some p17)) (ho : w.heap[p6]? = some o) : Z.heap[p6]? = some o ∧ GE (fun j => j = p6 ∨ j = p17) W Z :=
  ⟨(h2.block p6 (heap_lt ho) (fun e => hne (by injection e))).trans ho, (h0.tr (GE.of h1 fun k e _ => .inl (by injection e with e; exact e.symm))).tr (GE.of h2 fun k e _ => .inr (by injection e with e; exact e.symm))⟩
noncomputable def rgC39 : Code := ((Try.f4.body.bind (findRgn 39)).getD .skip)
def RgC39 (W : World) (p6 p17 k20 k22 : Nat) (T U : Ty) (p pl : Tp) (v0 v1 v2 v3 v4 v5 v7 v8 v9 Z0 Z1 Z2 Z3 Z4 Z5 Z6 GR GS Z8 ZA ZB ZC ZD ZE ZF ZG ZH ZI ZJ ZK ZL ZM ZN ZO ZP ZQ ZR ZS ZT ZU ZV ZW ZX ZY ZZ Za Zb Zc Zd Ze Zf Zg Zh Zi Zj Zk Zl Zm Zn Zo Zp Zq Zr Zs Zt Zu Zv Zw Zx Zy Zz Y0 Y1 Y2 Y3 Y4 Y5 Y6 Y7 Y8 Y9 YA YB YC YD YE YF YG YH YI YJ YK YL YM YN YO YP YQ YR YS YT YU YV YW YX YY YZ Ya Yb Yc Yd Ye Yf Yg Yh Yi Yj Yk Yl Ym Yn Yo Yp Yq Yr Ys Yt Yu Yv Yw Yx Yy Yz X0 X1 X2 X3 X4 X5 X6 X7 X8 X9 XA XB XC XD XE XF XG XH XI XJ XK XL XM XN XO XP XQ XR XS XT XU XV XW XX XY XZ Xa Xb Xc Xd Xe Xf Xg Xh Xi Xj Xk Xl Xm Xn Xo Xp Xq Xr Xs Xt Xu Xv Xw Xx Xy Xz K0 K1 K2 K3 K4 K5 K6 K7 K8 K9 KA KB KC KD KE KF KG KH KI KJ KK KL KM KN KO KP KQ KR KS KT KU KV KW KX KY KZ Ka Kb Kc Kd Ke Kf Kg Kh Ki Kj Kk Kl Km Kn Ko Kp Kq Kr Ks Kt Ku Kv Kw Kx Ky Kz J0 J1 J2 J3 J4 J5 J6 J7 J8 J9 JA JB JC JD JE JF JG JH JI JJ JK JL JM JN JO JP JQ JR JS JT JU JV JW JX JY JZ Ja Jb Jc Jd Je Jf Jg Jh Ji Jj Jk Jl Jm Jn Jo Jp Jq Jr Js Jt Ju Jv : Value) (Q : Exit → Act → World → Prop) : Prop := ∀ (GT GU : Value) (w' : World), w'.heap[p6]? = some (tyO T p) → w'.heap[p17]? = some (tyO U pl) → GE (fun j => j = p6 ∨ j = p17) W w' → Q .normal ⟨#[v0, v1, v2, v3, v4, v5, (Value.pointer (some ⟨p6, 0, none⟩)), v7, v8, v9, Z0, Z1, Z2, Z3, Z4, Z5, Z6, (Value.pointer (some ⟨p17, 0, none⟩)), GR, GS, (Value.pointer (some ⟨k20, 0, none⟩)), Z8, (Value.pointer (some ⟨k22, 0, none⟩)), ZA, ZB, ZC, ZD, ZE, ZF, ZG, ZH, ZI, ZJ, ZK, ZL, ZM, ZN, ZO, ZP, ZQ, ZR, ZS, ZT, ZU, ZV, ZW, ZX, ZY, ZZ, Za, Zb, Zc, Zd, Ze, Zf, Zg, Zh, Zi, Zj, Zk, Zl, Zm, Zn, Zo, Zp, Zq, Zr, Zs, Zt, Zu, Zv, Zw, Zx, Zy, Zz, Y0, Y1, Y2, Y3, Y4, Y5, Y6, Y7, Y8, Y9, YA, YB, YC, YD, YE, YF, YG, YH, YI, YJ, YK, YL, YM, YN, YO, YP, YQ, YR, YS, YT, YU, YV, YW, YX, YY, YZ, Ya, Yb, Yc, Yd, Ye, Yf, Yg, Yh, Yi, Yj, Yk, Yl, Ym, Yn, Yo, Yp, Yq, Yr, Ys, Yt, Yu, Yv, Yw, Yx, Yy, Yz, X0, X1, X2, X3, X4, X5, X6, X7, X8, X9, XA, XB, XC, XD, XE, XF, XG, XH, XI, XJ, XK, XL, XM, XN, XO, XP, XQ, XR, XS, XT, XU, XV, XW, XX, XY, XZ, Xa, Xb, Xc, Xd, Xe, Xf, Xg, Xh, Xi, Xj, Xk, Xl, Xm, Xn, Xo, Xp, Xq, Xr, Xs, Xt, Xu, Xv, Xw, Xx, Xy, Xz, K0, K1, K2, K3, K4, K5, K6, K7, K8, K9, GT, GU, KC, KD, KE, KF, KG, KH, KI, KJ, KK, KL, KM, KN, KO, KP, KQ, KR, KS, KT, KU, KV, KW, KX, KY, KZ, Ka, Kb, Kc, Kd, Ke, Kf, Kg, Kh, Ki, Kj, Kk, Kl, Km, Kn, Ko, Kp, Kq, Kr, Ks, Kt, Ku, Kv, Kw, Kx, Ky, Kz, J0, J1, J2, J3, J4, J5, J6, J7, J8, J9, JA, JB, JC, JD, JE, JF, JG, JH, JI, JJ, JK, JL, JM, JN, JO, JP, JQ, JR, JS, JT, JU, JV, JW, JX, JY, JZ, Ja, Jb, Jc, Jd, Je, Jf, Jg, Jh, Ji, Jj, Jk, Jl, Jm, Jn, Jo, Jp, Jq, Jr, Js, Jt, Ju, Jv], []⟩ w'
set_option maxHeartbeats 8000000 in
theorem cnt_put (W : World) (p6 p17 k20 k22 : Nat) (T U T0 U0 : Ty) (p pl p0 pl0 : Tp) (v0 v1 v2 v3 v4 v5 v7 v8 v9 Z0 Z1 Z2 Z3 Z4 Z5 Z6 GR GS Z8 ZA ZB ZC ZD ZE ZF ZG ZH ZI ZJ ZK ZL ZM ZN ZO ZP ZQ ZR ZS ZT ZU ZV ZW ZX ZY ZZ Za Zb Zc Zd Ze Zf Zg Zh Zi Zj Zk Zl Zm Zn Zo Zp Zq Zr Zs Zt Zu Zv Zw Zx Zy Zz Y0 Y1 Y2 Y3 Y4 Y5 Y6 Y7 Y8 Y9 YA YB YC YD YE YF YG YH YI YJ YK YL YM YN YO YP YQ YR YS YT YU YV YW YX YY YZ Ya Yb Yc Yd Ye Yf Yg Yh Yi Yj Yk Yl Ym Yn Yo Yp Yq Yr Ys Yt Yu Yv Yw Yx Yy Yz X0 X1 X2 X3 X4 X5 X6 X7 X8 X9 XA XB XC XD XE XF XG XH XI XJ XK XL XM XN XO XP XQ XR XS XT XU XV XW XX XY XZ Xa Xb Xc Xd Xe Xf Xg Xh Xi Xj Xk Xl Xm Xn Xo Xp Xq Xr Xs Xt Xu Xv Xw Xx Xy Xz K0 K1 K2 K3 K4 K5 K6 K7 K8 K9 KA KB KC KD KE KF KG KH KI KJ KK KL KM KN KO KP KQ KR KS KT KU KV KW KX KY KZ Ka Kb Kc Kd Ke Kf Kg Kh Ki Kj Kk Kl Km Kn Ko Kp Kq Kr Ks Kt Ku Kv Kw Kx Ky Kz J0 J1 J2 J3 J4 J5 J6 J7 J8 J9 JA JB JC JD JE JF JG JH JI JJ JK JL JM JN JO JP JQ JR JS JT JU JV JW JX JY JZ Ja Jb Jc Jd Je Jf Jg Jh Ji Jj Jk Jl Jm Jn Jo Jp Jq Jr Js Jt Ju Jv : Value) (Q : Exit → Act → World → Prop)
    (H : Hid (W.heap[p6]? = some (tyO T0 p0) ∧ W.heap[p17]? = some (tyO U0 pl0) ∧ W.heap[k20]? = some (tyO T p) ∧ W.heap[k22]? = some (tyO U pl))) (hne : p6 ≠ p17) (h20 : k20 ≠ p6) (h22 : k22 ≠ p6)
    (HQ : RgC39 W p6 p17 k20 k22 T U p pl v0 v1 v2 v3 v4 v5 v7 v8 v9 Z0 Z1 Z2 Z3 Z4 Z5 Z6 GR GS Z8 ZA ZB ZC ZD ZE ZF ZG ZH ZI ZJ ZK ZL ZM ZN ZO ZP ZQ ZR ZS ZT ZU ZV ZW ZX ZY ZZ Za Zb Zc Zd Ze Zf Zg Zh Zi Zj Zk Zl Zm Zn Zo Zp Zq Zr Zs Zt Zu Zv Zw Zx Zy Zz Y0 Y1 Y2 Y3 Y4 Y5 Y6 Y7 Y8 Y9 YA YB YC YD YE YF YG YH YI YJ YK YL YM YN YO YP YQ YR YS YT YU YV YW YX YY YZ Ya Yb Yc Yd Ye Yf Yg Yh Yi Yj Yk Yl Ym Yn Yo Yp Yq Yr Ys Yt Yu Yv Yw Yx Yy Yz X0 X1 X2 X3 X4 X5 X6 X7 X8 X9 XA XB XC XD XE XF XG XH XI XJ XK XL XM XN XO XP XQ XR XS XT XU XV XW XX XY XZ Xa Xb Xc Xd Xe Xf Xg Xh Xi Xj Xk Xl Xm Xn Xo Xp Xq Xr Xs Xt Xu Xv Xw Xx Xy Xz K0 K1 K2 K3 K4 K5 K6 K7 K8 K9 KA KB KC KD KE KF KG KH KI KJ KK KL KM KN KO KP KQ KR KS KT KU KV KW KX KY KZ Ka Kb Kc Kd Ke Kf Kg Kh Ki Kj Kk Kl Km Kn Ko Kp Kq Kr Ks Kt Ku Kv Kw Kx Ky Kz J0 J1 J2 J3 J4 J5 J6 J7 J8 J9 JA JB JC JD JE JF JG JH JI JJ JK JL JM JN JO JP JQ JR JS JT JU JV JW JX JY JZ Ja Jb Jc Jd Je Jf Jg Jh Ji Jj Jk Jl Jm Jn Jo Jp Jq Jr Js Jt Ju Jv Q) :
    Code.wp Try.prog rgC39 Q ⟨#[v0, v1, v2, v3, v4, v5, (Value.pointer (some ⟨p6, 0, none⟩)), v7, v8, v9, Z0, Z1, Z2, Z3, Z4, Z5, Z6, (Value.pointer (some ⟨p17, 0, none⟩)), GR, GS, (Value.pointer (some ⟨k20, 0, none⟩)), Z8, (Value.pointer (some ⟨k22, 0, none⟩)), ZA, ZB, ZC, ZD, ZE, ZF, ZG, ZH, ZI, ZJ, ZK, ZL, ZM, ZN, ZO, ZP, ZQ, ZR, ZS, ZT, ZU, ZV, ZW, ZX, ZY, ZZ, Za, Zb, Zc, Zd, Ze, Zf, Zg, Zh, Zi, Zj, Zk, Zl, Zm, Zn, Zo, Zp, Zq, Zr, Zs, Zt, Zu, Zv, Zw, Zx, Zy, Zz, Y0, Y1, Y2, Y3, Y4, Y5, Y6, Y7, Y8, Y9, YA, YB, YC, YD, YE, YF, YG, YH, YI, YJ, YK, YL, YM, YN, YO, YP, YQ, YR, YS, YT, YU, YV, YW, YX, YY, YZ, Ya, Yb, Yc, Yd, Ye, Yf, Yg, Yh, Yi, Yj, Yk, Yl, Ym, Yn, Yo, Yp, Yq, Yr, Ys, Yt, Yu, Yv, Yw, Yx, Yy, Yz, X0, X1, X2, X3, X4, X5, X6, X7, X8, X9, XA, XB, XC, XD, XE, XF, XG, XH, XI, XJ, XK, XL, XM, XN, XO, XP, XQ, XR, XS, XT, XU, XV, XW, XX, XY, XZ, Xa, Xb, Xc, Xd, Xe, Xf, Xg, Xh, Xi, Xj, Xk, Xl, Xm, Xn, Xo, Xp, Xq, Xr, Xs, Xt, Xu, Xv, Xw, Xx, Xy, Xz, K0, K1, K2, K3, K4, K5, K6, K7, K8, K9, KA, KB, KC, KD, KE, KF, KG, KH, KI, KJ, KK, KL, KM, KN, KO, KP, KQ, KR, KS, KT, KU, KV, KW, KX, KY, KZ, Ka, Kb, Kc, Kd, Ke, Kf, Kg, Kh, Ki, Kj, Kk, Kl, Km, Kn, Ko, Kp, Kq, Kr, Ks, Kt, Ku, Kv, Kw, Kx, Ky, Kz, J0, J1, J2, J3, J4, J5, J6, J7, J8, J9, JA, JB, JC, JD, JE, JF, JG, JH, JI, JJ, JK, JL, JM, JN, JO, JP, JQ, JR, JS, JT, JU, JV, JW, JX, JY, JZ, Ja, Jb, Jc, Jd, Je, Jf, Jg, Jh, Ji, Jj, Jk, Jl, Jm, Jn, Jo, Jp, Jq, Jr, Js, Jt, Ju, Jv], []⟩ W := by
  dsimp only
  conv => arg 2; whnf
  have HC := Lib.hid (fun (w' : World) (hp : P39 W.drew p6 (tyO T0 p0) 0 w') => show _ ∧ _ ∧ _ ∧ _ from by
    have b1 := (hp.1.block k20 (heap_lt (show W.drew.heap[k20]? = _ from H.out.2.2.1)) (fun e => h20 (by injection e))).trans H.out.2.2.1
    have b2 := (hp.1.block k22 (heap_lt (show W.drew.heap[k22]? = _ from H.out.2.2.2)) (fun e => h22 (by injection e))).trans H.out.2.2.2
    exact ⟨blk6 b1, heap_lt b1, blk6 b2, heap_lt b2⟩)
  generalize hA : T.ch.length = nT at *
  generalize hB : T.cs.length = mT at *
  generalize hC : U.ch.length = nU at *
  generalize hD : U.cs.length = mU at *
  have HL := Lib.hid (And.intro hA (And.intro hB (And.intro hC hD)))
  clear hA hB hC hD
  refine wp_region_tag 3 0 0 [] [] 0 (T39 p6) (P39 W.drew p6 (tyO T0 p0)) [0, 0, 1] (by as_aux_lemma => kernel_rfl) (by as_aux_lemma => kernel_rfl) (by as_aux_lemma => kernel_rfl) (by as_aux_lemma => kernel_rfl) (by omega) (.inl rfl) rfl rfl (fun k i w1 w2 hc _ hT hp => P39.st k i w1 w2 hc hT hp) (fun k => ⟨World.grownBy.refl _ _, fun _ => H.out.1⟩) ?_
  apply Exists.intro
  refine ⟨fun ys => ?_, fun ops K hK => ?_⟩
  · simp only [List.take_succ_cons, List.take_zero, dstsOf, List.filterMap_cons, List.filterMap_nil, putAll]
    go_simp
    rfl
  simp only [List.take_succ_cons, List.take_zero, List.drop_succ_cons, List.drop_zero] at hK ⊢
  repeat
    refine LexT.const T39.rf ?_
    apply Exists.intro
    refine ⟨fun ys w' hp hpk hq hd => ?_, ?_⟩
    · try simp [DepsOf, depsGo, DF.holds, Region.binds, EqF] at hd
      try simp only [hd]
      obtain ⟨⟨k0, k1, k2, k3, k4, k5⟩, hl1, ⟨j0, j1, j2, j3, j4, j5⟩, hl2⟩ := HC.out w' hp
      intro Q2 hQ2
      go_wp2_with fail
      rfl
    try simp only [List.nil_append, List.cons_append]
  refine LexT.some (F39 p6 (tyC T.g T.f.lo T.f.hi (.slice p.A nT p.c) T.m (.slice p.B mT p.d))) (fun i v w1 w2 hc _ hT h => F39.st i v w1 w2 (by simpa using hc) hT h) (fun ys w' hp hpk hq hd => ?_) ?_
  · try simp [DepsOf, depsGo, DF.holds, Region.binds, EqF] at hd
    try simp only [hd]
    have hb := hpk.2 rfl
    have HPt := Lib.hid (tru_put (g := T.g) (lo := T.f.lo) (hi := T.f.hi) (vC := .slice p.A nT p.c) (m := T.m) (vK := .slice p.B mT p.d) hb)
    obtain ⟨k0, k1, k2, k3, k4, k5⟩ := blk6 hb
    obtain ⟨f0, f1, f2, f3, f4, f5⟩ := And.intro (frz hb 0) (And.intro (frz hb 1) (And.intro (frz hb 2) (And.intro (frz hb 3) (And.intro (frz hb 4) (frz hb 5)))))
    have hl := heap_lt hb
    clear hp hpk hb
    intro Q2 hQ2
    go_wp2_with fail
    exact ⟨HPt.out.2, .int .i64 0, HPt.out.1⟩
  try simp only [List.nil_append, List.cons_append]
  refine hK _ fun ys w' hp hF => ?_
  simp [AllF, DF.holds] at hF
  obtain ⟨-, e210, v6x, f6⟩ := hF
  replace f6 : w'.heap[p6]? = some (tyC T.g T.f.lo T.f.hi (.slice p.A nT p.c) T.m (.slice p.B mT p.d)) := f6
  have hg := hp.1
  have hb := (hg.block p17 (heap_lt (show W.drew.heap[p17]? = _ from H.out.2.1)) (fun e => hne (by injection e with e; exact e.symm))).trans H.out.2.1
  simp only [e210]
  have HPt := Lib.hid (tru_put (g := U.g) (lo := U.f.lo) (hi := U.f.hi) (vC := .slice pl.A nU pl.c) (m := U.m) (vK := .slice pl.B mU pl.d) hb)
  obtain ⟨k0, k1, k2, k3, k4, k5⟩ := blk6 hb
  obtain ⟨f0, f1, f2, f3, f4, f5⟩ := And.intro (frz hb 0) (And.intro (frz hb 1) (And.intro (frz hb 2) (And.intro (frz hb 3) (And.intro (frz hb 4) (frz hb 5)))))
  have hl := heap_lt hb
  have HX := Lib.hid (And.intro f6 hg)
  clear hK hp hb hg f6 e210
  go_wp2_with fail
  obtain ⟨h1, h2⟩ := HPt.out
  obtain ⟨hA, hB, hC, hD⟩ := HL.out
  subst hA; subst hB; subst hC; subst hD
  have hge1 : GE (fun j => j = p6 ∨ j = p17) W W.drew := ⟨rfl, rfl, rfl, Nat.le_refl _, fun _ _ _ => rfl⟩
  exact HQ _ _ _ (ge39 hge1 hne HX.out.2 h2 HX.out.1).1 h1 (ge39 hge1 hne HX.out.2 h2 HX.out.1).2

end Go.Proofs.Ytgnjknihgjdedaa
