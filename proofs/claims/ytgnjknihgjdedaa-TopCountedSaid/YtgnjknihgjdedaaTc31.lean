/- TopCounted 31: TcL, TcW. -/
import Derived.Test.YtgnjknihgjdedaaTc30
import Derived.Test.YtgnjknihgjdedaaTc13
import Derived.Test.YtgnjknihgjdedaaTc27
import Derived.Test.YtgnjknihgjdedaaTc06
namespace Go.Proofs.Ytgnjknihgjdedaa
open Go.RowKit
set_option linter.unusedVariables false
set_option linter.unusedSimpArgs false
set_option maxRecDepth 1000000
noncomputable def lpC3 : Code := ((Try.f4.body.bind (findBlk 5)).getD .skip)
def RgCL3 (W : World) (p6 p17 n7 c7 n8 c8 : Nat) (A7 A8 : Option Addr) (S : Nat → Int) (v0 v1 v2 v3 v4 v5 v9 Z0 Z1 Z2 Z3 Z4 Z5 Z6 Z7 Z8 Z9 ZA ZB ZC ZD ZE ZF ZG ZH ZI ZJ ZK ZL ZM ZN ZO ZP ZQ ZR ZS ZT ZU ZV ZW ZX ZY ZZ Za Zb Zc Zd Ze Zf Zg Zh Zi Zj Zk Zl Zm Zn Zo Zp Zq Zr Zs Zt Zu Zv Zw Zx Zy Zz Y0 Y1 Y2 Y3 Y4 Y5 Y6 Y7 Y8 Y9 YA YB YC YD YE YF YG YH YI YJ YK YL YM YN YO YP YQ YR YS YT YU YV YW YX YY YZ Ya Yb Yc Yd Ye Yf Yg Yh Yi Yj Yk Yl Ym Yn Yo Yp Yq Yr Ys Yt Yu Yv Yw Yx Yy Yz X1 X2 X3 X4 X5 X6 X7 X8 X9 XA XB XC XD XE XF XG XH XI XJ XK XL XM XN XO XP XQ XR XS XT XU XV XW XX XY XZ Xa Xb Xc Xd Xe Xf Xg Xh Xi Xj Xk Xl Xm Xn Xo Xp Xq Xr Xs Xt Xu Xv Xw Xx Xy Xz K0 K1 K2 K3 K4 K5 K6 K7 K8 K9 KA KB KC KD KE KF KG KH KI KJ KK KL KM KN KO KP KQ KR KS KT KU KV KW KX KY KZ Ka Kb Kc Kd Ke Kf Kg Kh Ki Kj Kk Kl Km Kn Ko Kp Kq Kr Ks Kt Ku Kv Kw Kx Ky Kz J0 J1 J2 J3 J4 J5 J6 J7 J8 J9 JA JB JC JD JE JF JG JH JI JJ JK JL JM JN JO JP JQ JR JS JT JU JV JW JX JY JZ Ja Jb Jc Jd Je Jf Jg Jh Ji Jj Jk Jl Jm Jn Jo Jp Jq Jr Js Jt Ju Jv Jw : Value) (Q : Exit → Act → World → Prop) : Prop := ∀ (x2 Jx Jy Jz G0 G1 G2 G3 G4 G5 G6 G7 G8 G9 GA GB GC GD GF GG GH GI GJ GK GL GM GN GO GP GQ GR GS GT GU GV GW GX GY GZ Ga Gb Gc Gd Ge Gf Gg Gh Gi Gj Gk Gl Gm Gn Gp Gq : Value) (w' : World), Below W.heap.size W w' → Q .normal ⟨#[v0, v1, x2, v3, v4, v5, (Value.pointer (some ⟨p6, 0, none⟩)), (Value.slice A7 n7 c7), (Value.slice A8 n8 c8), v9, Z0, Z1, Z2, Z3, Z4, Z5, Z6, (Value.pointer (some ⟨p17, 0, none⟩)), Z7, Z8, Z9, ZA, ZB, ZC, (Value.int .i64 (S (n8 - 1))), (Value.int .i64 (n8 : Int)), Jx, Jy, Jz, G0, ZH, ZI, ZJ, ZK, ZL, ZM, ZN, ZO, ZP, ZQ, ZR, ZS, ZT, ZU, ZV, ZW, ZX, ZY, ZZ, Za, Zb, Zc, Zd, Ze, Zf, Zg, Zh, Zi, Zj, Zk, Zl, Zm, Zn, Zo, Zp, Zq, Zr, Zs, Zt, Zu, Zv, Zw, Zx, Zy, Zz, Y0, Y1, Y2, Y3, Y4, Y5, Y6, Y7, Y8, Y9, YA, YB, YC, YD, YE, YF, YG, YH, YI, YJ, YK, YL, YM, YN, YO, YP, YQ, YR, YS, YT, YU, YV, YW, YX, YY, YZ, Ya, Yb, Yc, Yd, Ye, Yf, Yg, Yh, Yi, Yj, Yk, Yl, Ym, Yn, Yo, Yp, Yq, Yr, Ys, Yt, Yu, Yv, Yw, Yx, Yy, Yz, X1, X2, X3, X4, X5, X6, X7, X8, X9, XA, XB, XC, XD, XE, XF, XG, XH, XI, XJ, XK, XL, XM, XN, XO, XP, XQ, XR, XS, XT, XU, XV, XW, XX, XY, XZ, Xa, Xb, Xc, Xd, Xe, Xf, Xg, Xh, Xi, Xj, Xk, Xl, Xm, Xn, Xo, Xp, Xq, Xr, Xs, Xt, Xu, Xv, Xw, Xx, Xy, Xz, K0, K1, K2, K3, K4, K5, K6, K7, K8, K9, KA, KB, KC, G1, G2, G3, G4, G5, G6, G7, G8, G9, GA, GB, GC, GD, GF, GG, GH, GI, GJ, GK, GL, GM, GN, GO, GP, GQ, GR, GS, GT, GU, GV, GW, GX, GY, GZ, Ga, Gb, Gc, Gd, Ge, Gf, Gg, Gh, Gi, Gj, Gk, Gl, Gm, Gn, Gp, Gq, J1, J2, J3, J4, J5, J6, J7, J8, J9, JA, JB, JC, JD, JE, JF, JG, JH, JI, JJ, JK, JL, JM, JN, JO, JP, JQ, JR, JS, JT, JU, JV, JW, JX, JY, JZ, Ja, Jb, Jc, Jd, Je, Jf, Jg, Jh, Ji, Jj, Jk, Jl, Jm, Jn, Jo, Jp, Jq, Jr, Js, Jt, Ju, Jv, Jw], []⟩ w'
set_option maxHeartbeats 8000000 in
theorem cnt_loop3 (W : World) (p6 p17 n7 c7 n8 c8 : Nat) (A7 A8 : Option Addr) (T U : Ty) (p pl : Tp) (ls : List Int) (S : Nat → Int) (v0 v1 v2 v3 v4 v5 v9 Z0 Z1 Z2 Z3 Z4 Z5 Z6 Z7 Z8 Z9 ZA ZB ZC ZD ZE ZF ZG ZH ZI ZJ ZK ZL ZM ZN ZO ZP ZQ ZR ZS ZT ZU ZV ZW ZX ZY ZZ Za Zb Zc Zd Ze Zf Zg Zh Zi Zj Zk Zl Zm Zn Zo Zp Zq Zr Zs Zt Zu Zv Zw Zx Zy Zz Y0 Y1 Y2 Y3 Y4 Y5 Y6 Y7 Y8 Y9 YA YB YC YD YE YF YG YH YI YJ YK YL YM YN YO YP YQ YR YS YT YU YV YW YX YY YZ Ya Yb Yc Yd Ye Yf Yg Yh Yi Yj Yk Yl Ym Yn Yo Yp Yq Yr Ys Yt Yu Yv Yw Yx Yy Yz X1 X2 X3 X4 X5 X6 X7 X8 X9 XA XB XC XD XE XF XG XH XI XJ XK XL XM XN XO XP XQ XR XS XT XU XV XW XX XY XZ Xa Xb Xc Xd Xe Xf Xg Xh Xi Xj Xk Xl Xm Xn Xo Xp Xq Xr Xs Xt Xu Xv Xw Xx Xy Xz K0 K1 K2 K3 K4 K5 K6 K7 K8 K9 KA KB KC KD KE KF KG KH KI KJ KK KL KM KN KO KP KQ KR KS KT KU KV KW KX KY KZ Ka Kb Kc Kd Ke Kf Kg Kh Ki Kj Kk Kl Km Kn Ko Kp Kq Kr Ks Kt Ku Kv Kw Kx Ky Kz J0 J1 J2 J3 J4 J5 J6 J7 J8 J9 JA JB JC JD JE JF JG JH JI JJ JK JL JM JN JO JP JQ JR JS JT JU JV JW JX JY JZ Ja Jb Jc Jd Je Jf Jg Jh Ji Jj Jk Jl Jm Jn Jo Jp Jq Jr Js Jt Ju Jv Jw : Value) (Q : Exit → Act → World → Prop)
    (HB : Hid (W.heap[p6]? = some (tyO T p) ∧ W.heap[p17]? = some (tyO U pl) ∧ TyIn W T p ∧ TyIn W U pl ∧ Ints W A7 n7 ls)) (HT : Hid (TyOk T ∧ TyT T ∧ LsOk T T.outs ∧ TyOk U ∧ TyT U ∧ LsOk U U.outs ∧ T.g = n8 ∧ U.g = n8)) (h8 : 1 ≤ n8 ∧ n8 ≤ 5) (h7 : n7 + 1 = n8)
    (HL : Hid ((∀ j, j + 1 ≤ n8 → lostF T T.outs 0 j = ⟨S j, S j⟩) ∧ (∀ j, j + 1 ≤ n8 → (lostF U U.outs 0 j).has (S j)) ∧ S 0 = 0 ∧ (∀ j, j < n7 → S (j + 1) = S j + ls.getD j 0) ∧ ∀ j, j + 1 ≤ n8 → 0 ≤ S j ∧ S j ≤ 100))
    (HQ : RgCL3 W p6 p17 n7 c7 n8 c8 A7 A8 S v0 v1 v2 v3 v4 v5 v9 Z0 Z1 Z2 Z3 Z4 Z5 Z6 Z7 Z8 Z9 ZA ZB ZC ZD ZE ZF ZG ZH ZI ZJ ZK ZL ZM ZN ZO ZP ZQ ZR ZS ZT ZU ZV ZW ZX ZY ZZ Za Zb Zc Zd Ze Zf Zg Zh Zi Zj Zk Zl Zm Zn Zo Zp Zq Zr Zs Zt Zu Zv Zw Zx Zy Zz Y0 Y1 Y2 Y3 Y4 Y5 Y6 Y7 Y8 Y9 YA YB YC YD YE YF YG YH YI YJ YK YL YM YN YO YP YQ YR YS YT YU YV YW YX YY YZ Ya Yb Yc Yd Ye Yf Yg Yh Yi Yj Yk Yl Ym Yn Yo Yp Yq Yr Ys Yt Yu Yv Yw Yx Yy Yz X1 X2 X3 X4 X5 X6 X7 X8 X9 XA XB XC XD XE XF XG XH XI XJ XK XL XM XN XO XP XQ XR XS XT XU XV XW XX XY XZ Xa Xb Xc Xd Xe Xf Xg Xh Xi Xj Xk Xl Xm Xn Xo Xp Xq Xr Xs Xt Xu Xv Xw Xx Xy Xz K0 K1 K2 K3 K4 K5 K6 K7 K8 K9 KA KB KC KD KE KF KG KH KI KJ KK KL KM KN KO KP KQ KR KS KT KU KV KW KX KY KZ Ka Kb Kc Kd Ke Kf Kg Kh Ki Kj Kk Kl Km Kn Ko Kp Kq Kr Ks Kt Ku Kv Kw Kx Ky Kz J0 J1 J2 J3 J4 J5 J6 J7 J8 J9 JA JB JC JD JE JF JG JH JI JJ JK JL JM JN JO JP JQ JR JS JT JU JV JW JX JY JZ Ja Jb Jc Jd Je Jf Jg Jh Ji Jj Jk Jl Jm Jn Jo Jp Jq Jr Js Jt Ju Jv Jw Q) :
    Code.wp Try.prog lpC3 Q ⟨#[v0, v1, v2, v3, v4, v5, (Value.pointer (some ⟨p6, 0, none⟩)), (Value.slice A7 n7 c7), (Value.slice A8 n8 c8), v9, Z0, Z1, Z2, Z3, Z4, Z5, Z6, (Value.pointer (some ⟨p17, 0, none⟩)), Z7, Z8, Z9, ZA, ZB, ZC, (Value.int .i64 0), (Value.int .i64 1), ZD, ZE, ZF, ZG, ZH, ZI, ZJ, ZK, ZL, ZM, ZN, ZO, ZP, ZQ, ZR, ZS, ZT, ZU, ZV, ZW, ZX, ZY, ZZ, Za, Zb, Zc, Zd, Ze, Zf, Zg, Zh, Zi, Zj, Zk, Zl, Zm, Zn, Zo, Zp, Zq, Zr, Zs, Zt, Zu, Zv, Zw, Zx, Zy, Zz, Y0, Y1, Y2, Y3, Y4, Y5, Y6, Y7, Y8, Y9, YA, YB, YC, YD, YE, YF, YG, YH, YI, YJ, YK, YL, YM, YN, YO, YP, YQ, YR, YS, YT, YU, YV, YW, YX, YY, YZ, Ya, Yb, Yc, Yd, Ye, Yf, Yg, Yh, Yi, Yj, Yk, Yl, Ym, Yn, Yo, Yp, Yq, Yr, Ys, Yt, Yu, Yv, Yw, Yx, Yy, Yz, X1, X2, X3, X4, X5, X6, X7, X8, X9, XA, XB, XC, XD, XE, XF, XG, XH, XI, XJ, XK, XL, XM, XN, XO, XP, XQ, XR, XS, XT, XU, XV, XW, XX, XY, XZ, Xa, Xb, Xc, Xd, Xe, Xf, Xg, Xh, Xi, Xj, Xk, Xl, Xm, Xn, Xo, Xp, Xq, Xr, Xs, Xt, Xu, Xv, Xw, Xx, Xy, Xz, K0, K1, K2, K3, K4, K5, K6, K7, K8, K9, KA, KB, KC, KD, KE, KF, KG, KH, KI, KJ, KK, KL, KM, KN, KO, KP, KQ, KR, KS, KT, KU, KV, KW, KX, KY, KZ, Ka, Kb, Kc, Kd, Ke, Kf, Kg, Kh, Ki, Kj, Kk, Kl, Km, Kn, Ko, Kp, Kq, Kr, Ks, Kt, Ku, Kv, Kw, Kx, Ky, Kz, J0, J1, J2, J3, J4, J5, J6, J7, J8, J9, JA, JB, JC, JD, JE, JF, JG, JH, JI, JJ, JK, JL, JM, JN, JO, JP, JQ, JR, JS, JT, JU, JV, JW, JX, JY, JZ, Ja, Jb, Jc, Jd, Je, Jf, Jg, Jh, Ji, Jj, Jk, Jl, Jm, Jn, Jo, Jp, Jq, Jr, Js, Jt, Ju, Jv, Jw], []⟩ W := by
  dsimp only
  conv => arg 2; whnf
  go_upto_region 42 with (fail)
  go_loopg [24, 25] (n8 - 1) (fun gg Gr Gs wr => ∃ j : Nat, j + 1 + gg = n8 ∧ Gr = .int .i64 (S j) ∧ Gs = .int .i64 ((j : Int) + 1) ∧ Below W.heap.size W wr)
  case atStart => exact ⟨0, by omega, by rw [HL.out.2.2.1], rfl, Below.refl _ _⟩
  case round =>
    obtain ⟨j, hj, rfl, rfl, hb⟩ := hrel
    have hsb := HL.out.2.2.2.2 j (by omega)
    obtain ⟨s, hs⟩ : ∃ s, s = S j := ⟨_, rfl⟩
    rw [← hs] at hsb ⊢
    have HS := Lib.hid hs
    clear hs
    by_cases hlt : j < n7
    · have hlt' : (j : Int) + 1 < (n8 : Int) := by omega
      have hj7 : (j : Int) < (n7 : Int) := by omega
      have b6 := bheap HB.out.1 hb (Nat.le_refl _)
      have b17 := bheap HB.out.2.1 hb (Nat.le_refl _)
      obtain ⟨b, o, y, hA7, -, hy, cy⟩ := Ints.get (HB.out.2.2.2.2.below hb (Nat.le_refl _)) hlt
      have hy' : ls.getD j 0 = y := by rw [List.getD_eq_getElem?_getD, hy]; rfl
      have hS1 : S (j + 1) = s + y := by rw [HL.out.2.2.2.1 j hlt, hy', HS.out]
      have hsb1 := HL.out.2.2.2.2 (j + 1) (by omega)
      rw [hS1] at hsb1
      have hT1 := HL.out.1 (j + 1) (by omega)
      have hU1 := HL.out.2.1 (j + 1) (by omega)
      rw [hS1] at hT1 hU1
      obtain ⟨R, hR⟩ : ∃ R, R = lostF U U.outs 0 (j + 1) := ⟨_, rfl⟩
      rw [← hR] at hU1
      have c1 := fun (w' : World) (hb' : Below W.heap.size W w') => tLost_any T p 0 (j + 1) w' HT.out.1 (HB.out.2.2.1.below hb' (Nat.le_refl _)) HT.out.2.1 HT.out.2.2.1 (by omega) (by have := HT.out.2.2.2.2.2.2.1; push_cast; omega)
      have c2 := fun (w' : World) (hb' : Below W.heap.size W w') => tLost_any U pl 0 (j + 1) w' HT.out.2.2.2.1 (HB.out.2.2.2.1.below hb' (Nat.le_refl _)) HT.out.2.2.2.2.1 HT.out.2.2.2.2.2.1 (by omega) (by have := HT.out.2.2.2.2.2.2.2; push_cast; omega)
      rw [hT1] at c1
      rw [← hR] at c2
      simp only [show ((0 : Nat) : Int) = 0 from rfl, show ((j + 1 : Nat) : Int) = (j : Int) + 1 from by push_cast; rfl] at c1 c2
      have HC := Lib.hid (And.intro c1 c2)
      have HBr := Lib.hid (And.intro hb (And.intro b6 b17))
      have HSS := Lib.hid hS1
      subst hA7
      obtain ⟨k0, k1, k2, k3, k4, k5⟩ := blk6 b6
      have hl6 := heap_lt b6
      have hlb := cell_lt cy
      clear c1 c2 hT1 hR hy hy' hS1 hb b6 b17
      unfold Sp.has at hU1
      go_upto_region 45 with (fail)
      go_wp2_with fail
      refine (HC.out.1 _ HBr.out.1).mono ?_
      rintro e w11 ⟨rfl, hb11⟩
      have H11 := Lib.hid (HBr.out.1.trans (hb11.mono HBr.out.1.size))
      clear hb11 k0 k1 k2 k3 k4 k5 hl6 cy hlb
      obtain ⟨W11, hW11⟩ : ∃ W11, W11 = w11.alloc (.cells #[.int .i64 (s + y), .int .i64 (s + y)] 26 (0, 0)) := ⟨_, rfl⟩
      obtain ⟨q, hq⟩ : ∃ q, q = w11.heap.size := ⟨_, rfl⟩
      have bq : W11.heap[q]? = some (.cells #[.int .i64 (s + y), .int .i64 (s + y)] 26 (0, 0)) := by rw [hW11, hq]; exact alloc_at rfl
      have hbW : Below W.heap.size W W11 := by rw [hW11]; exact H11.out.trans ((bal0 w11 _).mono H11.out.size)
      have b17 := bheap HB.out.2.1 hbW (Nat.le_refl _)
      have HW := Lib.hid (And.intro hbW bq)
      obtain ⟨k0, k1, k2, k3, k4, k5⟩ := blk6 b17
      have hl17 := heap_lt b17
      clear bq hbW b17
      go_upto_region 46 with (fail)
      rw [← hW11, ← hq]
      clear hW11 hq
      go_wp2_with fail
      refine (HC.out.2 _ HW.out.1).mono ?_
      rintro e w12 ⟨rfl, hb12⟩
      have bq := bheap HW.out.2 hb12 (Nat.le_refl _)
      have H12 := Lib.hid (HW.out.1.trans (hb12.mono HW.out.1.size))
      clear hb12 k0 k1 k2 k3 k4 k5 hl17
      obtain ⟨W12, hW12⟩ : ∃ W12, W12 = w12.alloc (.cells #[.int .i64 R.lo, .int .i64 R.hi] 26 (0, 0)) := ⟨_, rfl⟩
      obtain ⟨q2, hq2⟩ : ∃ q2, q2 = w12.heap.size := ⟨_, rfl⟩
      have bq2 : W12.heap[q2]? = some (.cells #[.int .i64 R.lo, .int .i64 R.hi] 26 (0, 0)) := by rw [hW12, hq2]; exact alloc_at rfl
      have bq1 : W12.heap[q]? = some (.cells #[.int .i64 (s + y), .int .i64 (s + y)] 26 (0, 0)) := by rw [hW12]; exact hblk_alloc bq _
      have HW2 := Lib.hid (show Below W.heap.size W W12 from by rw [hW12]; exact H12.out.trans ((bal0 w12 _).mono H12.out.size))
      obtain ⟨r0, r1⟩ := blk2 bq1
      obtain ⟨r2, r3⟩ := blk2 bq2
      have hlq := heap_lt bq1
      have hlq2 := heap_lt bq2
      clear bq bq1 bq2
      go_upto_region 47 with (fail)
      rw [← hW12, ← hq2]
      clear hW12 hq2
      have hlo : ¬ s + y < R.lo := by omega
      have hhi : ¬ R.hi < s + y := by omega
      go_wp2_with fail
      go_roundg (gk - 1)
      case measure => omega
      case rel => exact ⟨j + 1, by omega, by rw [HSS.out], by push_cast; rfl, HW2.out⟩
    · obtain rfl : j = n7 := by omega
      have hnl : ¬ (j : Int) + 1 < (n8 : Int) := by omega
      have HE := Lib.hid (And.intro (show (j : Int) + 1 = (n8 : Int) by omega) (show n8 - 1 = j by omega))
      go_wp2_with fail
      have e1 : s = S (n8 - 1) := by rw [HE.out.2]; exact HS.out
      rw [e1, HE.out.1]
      exact HQ _ _ _ _ _ _ _ _ _ _ _ _ _ _ _ _ _ _ _ _ _ _ _ _ _ _ _ _ _ _ _ _ _ _ _ _ _ _ _ _ _ _ _ _ _ _ _ _ _ _ _ _ _ _ _ _ hb
end Go.Proofs.Ytgnjknihgjdedaa
namespace Go.Proofs.Ytgnjknihgjdedaa
open Go.RowKit
set_option linter.unusedVariables false
set_option linter.unusedSimpArgs false
theorem tcb_ask {mk : Mk} {a now gone : Int} {ds : List De} {X : Hb} (h : TcB mk a ds now gone) (hX : X.t = 0 ∧ X.l = [mk] ∧ X.ks = [0] ∧ X.hs = [[a]] ∧ X.ds = ds) (hm : mkOk mk = true) (ha : 0 ≤ a ∧ a ≤ 20) (h6 : ds.length ≤ 6) :
    askE X = 0 ∧ totalR X = [⟨now, now⟩] ∧ goneE X 0 = 0 ∧ goneR X 0 = ⟨gone, gone⟩ := by
  obtain ⟨x1, x2, x3, x4, x5⟩ := hX
  have hc : X.chk = 0 := by unfold Hb.chk; rw [x1, x2, x3, x4, x5]; exact h.chk hm ha h6
  have he : X.ends (-1) 0 = [hvT now] := by unfold Hb.ends; rw [x1, x2, x4, x5]; exact h.e
  have h1 : askE X = 0 := by unfold askE; rw [if_neg (by rw [hc]; simp), he, if_neg (by simp)]
  have hsm : sumE X 0 = 0 := by unfold sumE; rw [if_neg (by rw [hc]; simp), x2, if_neg]; show ¬ ownB 1 0 = false; decide
  have h3 : goneE X 0 = 0 := by unfold goneE; rw [if_neg (by rw [hsm]; simp), he, if_neg (by simp)]
  refine ⟨h1, ?_, h3, ?_⟩
  · unfold totalR
    rw [if_pos h1, he, x3]
    show [rangeE [hvT now] fun h => hall h 0] = _
    unfold rangeE
    show [(⟨hall (hvT now) 0, hall (hvT now) 0⟩ : Rn)] = _
    rw [show hall (hvT now) 0 = now by show now + 0 + 0 + 0 + 0 = now; omega]
  · unfold goneR
    rw [if_pos h3, he, x4, x5]
    show rangeE [hvT now] (fun h' => hasS (sumS [[a]] 0 ds) - howned h' 0) = _
    unfold rangeE
    show (⟨hasS (sumS [[a]] 0 ds) - howned (hvT now) 0, hasS (sumS [[a]] 0 ds) - howned (hvT now) 0⟩ : Rn) = _
    rw [h.s, show howned (hvT now) 0 = now by show now + 0 + 0 = now; omega, show now + gone - now = gone by omega]
theorem book0 (w : World) (mk : Mk) (a : Int) : HbO ((((w.alloc (.cells #[.int .i64 mk.n, .int .i64 mk.b, .int .i64 mk.p] 44)).alloc (.cells #[.int .i64 0] 3)).alloc (.cells #[.int .i64 a] 3)).alloc (.cells #[.slice (some ⟨w.heap.size + 1 + 1, 0, none⟩) 1 1] 22)) w.heap.size
    ⟨0, some ⟨w.heap.size, 0, none⟩, 1, [mk], some ⟨w.heap.size + 1, 0, none⟩, 1, [0], some ⟨w.heap.size + 1 + 1 + 1, 0, none⟩, 1, [[a]], none, 0, []⟩ := by
  have h1 : OwnM (w.alloc (.cells #[.int .i64 mk.n, .int .i64 mk.b, .int .i64 mk.p] 44)) w.heap.size (.slice (some ⟨w.heap.size, 0, none⟩) 1 1) [mk] := Own.lit (enc := eMk) w w.heap.size _ [mk] rfl lenMk (Nat.le_refl _) (by simp [maxLen])
  generalize hA : w.alloc (.cells #[.int .i64 mk.n, .int .i64 mk.b, .int .i64 mk.p] 44) = A at *
  have sA : A.heap.size = w.heap.size + 1 := by rw [← hA]; simp
  have h2 : OwnI (A.alloc (.cells #[.int .i64 0] 3)) w.heap.size (.slice (some ⟨w.heap.size + 1, 0, none⟩) 1 1) [0] := by
    have := Own.lit (enc := eInt) (e := 3) A w.heap.size #[.int .i64 0] [0] rfl lenInt (by omega) (by simp [maxLen])
    rw [sA] at this; exact this
  have h1' := h1.alloc (.cells #[.int .i64 0] 3)
  generalize hB : A.alloc (.cells #[.int .i64 0] 3) = B at *
  have sB : B.heap.size = w.heap.size + 1 + 1 := by rw [← hB]; simp [sA]
  have h3 : OwnI (B.alloc (.cells #[.int .i64 a] 3)) w.heap.size (.slice (some ⟨w.heap.size + 1 + 1, 0, none⟩) 1 1) [a] := by
    have := Own.lit (enc := eInt) (e := 3) B w.heap.size #[.int .i64 a] [a] rfl lenInt (by omega) (by simp [maxLen])
    rw [sB] at this; exact this
  have h1'' := h1'.alloc (.cells #[.int .i64 a] 3)
  have h2' := h2.alloc (.cells #[.int .i64 a] 3)
  generalize hC : B.alloc (.cells #[.int .i64 a] 3) = C at *
  have sC : C.heap.size = w.heap.size + 1 + 1 + 1 := by rw [← hC]; simp [sB]
  have h4 : Own eVal 22 1 (C.alloc (.cells #[.slice (some ⟨w.heap.size + 1 + 1, 0, none⟩) 1 1] 22)) w.heap.size (.slice (some ⟨w.heap.size + 1 + 1 + 1, 0, none⟩) 1 1) [.slice (some ⟨w.heap.size + 1 + 1, 0, none⟩) 1 1] := by
    have := Own.lit (enc := eVal) (e := 22) C w.heap.size #[.slice (some ⟨w.heap.size + 1 + 1, 0, none⟩) 1 1] [.slice (some ⟨w.heap.size + 1 + 1, 0, none⟩) 1 1] rfl lenVal (by omega) (by simp [maxLen])
    rw [sC] at this; exact this
  refine ⟨h1''.alloc _, h2'.alloc _, ⟨_, h4, rfl, fun i v hv => ?_⟩, Own.nil_⟩
  cases i with
  | zero =>
    simp at hv
    subst hv
    exact ⟨[a], rfl, h3.alloc _⟩
  | succ i => simp at hv
theorem tc_init {w1 w3 : World} {H N : Nat} (hd : Dealt w1 w3 H N) (hH : H < w1.heap.size) (mk : Mk) (a : Int) : ∀ W6, W6 = ((((((w3.alloc (.cells #[.int .i64 mk.n, .int .i64 mk.b, .int .i64 mk.p] 44)).alloc (.cells #[.int .i64 0] 3)).alloc (.cells #[.int .i64 a] 3)).alloc (.cells #[.slice (some ⟨w3.heap.size + 1 + 1, 0, none⟩) 1 1] 22)).alloc
      (.cells #[.int .i64 0, .slice (some ⟨w3.heap.size, 0, none⟩) 1 1, .slice (some ⟨w3.heap.size + 1, 0, none⟩) 1 1, .slice (some ⟨w3.heap.size + 1 + 1 + 1, 0, none⟩) 1 1, .slice none 0 0] 64)).alloc (tyC 1 a a (.slice none 0 0) 3 (.slice none 0 0))) →
    ∃ X0 : Hb, w1.heap.size ≤ w3.heap.size + 1 + 1 + 1 + 1 ∧ W6.heap.size = w3.heap.size + 1 + 1 + 1 + 1 + 1 + 1 ∧ W6.heap[w3.heap.size + 1 + 1 + 1 + 1]? = some X0.obj ∧ (X0.t = 0 ∧ X0.l = [mk] ∧ X0.ks = [0] ∧ X0.hs = [[a]] ∧ X0.ds = []) ∧ W6.heap[w3.heap.size + 1 + 1 + 1 + 1 + 1]? = some (tyC 1 a a (.slice none 0 0) 3 (.slice none 0 0)) ∧ Dealt w1 W6 H N ∧ StE (fun j => j = H ∨ j = w3.heap.size + 1 + 1 + 1 + 1 ∨ j = w3.heap.size + 1 + 1 + 1 + 1 + 1) W6 (fun w => HbIn w X0) := by
  intro W6 hW6
  have hb := book0 w3 mk a
  have hd4 := ((((hd.alloc (.cells #[.int .i64 mk.n, .int .i64 mk.b, .int .i64 mk.p] 44)).alloc (.cells #[.int .i64 0] 3)).alloc (.cells #[.int .i64 a] 3)).alloc (.cells #[.slice (some ⟨w3.heap.size + 1 + 1, 0, none⟩) 1 1] 22))
  generalize hP : ((((w3.alloc (.cells #[.int .i64 mk.n, .int .i64 mk.b, .int .i64 mk.p] 44)).alloc (.cells #[.int .i64 0] 3)).alloc (.cells #[.int .i64 a] 3)).alloc (.cells #[.slice (some ⟨w3.heap.size + 1 + 1, 0, none⟩) 1 1] 22)) = P at *
  have sP : P.heap.size = w3.heap.size + 1 + 1 + 1 + 1 := by rw [← hP]; simp
  have hw3 := hd.size
  have hHl := hd.hd.lt
  have hst : StE (fun j => j = H) P (fun w => HbIn w _) := hbO_st hb fun j e => by subst e; exact hHl
  have hbl : Below P.heap.size P W6 := by rw [hW6]; exact bal (bal0 P _) (Nat.le_refl _) _
  refine ⟨_, by omega, by rw [hW6]; simp [sP], ?_, ⟨rfl, rfl, rfl, rfl, rfl⟩, ?_, hd4.less hbl (Nat.le_refl _), hst.step hbl.size (fun j hj _ => hbl.block j hj) fun j hj e => ?_⟩
  · rw [hW6]; exact hblk_alloc (alloc_at sP.symm) _
  · rw [hW6]; exact alloc_at (by simp [sP])
  · rcases e with e | e | e
    · exact e
    · omega
    · omega
theorem tc_init2 {w1 W6 w7 : World} {H p5 p6 N : Nat} {mk : Mk} {a : Int} {X0 : Hb} {o : Obj} {g7 c7 : Nat} (h : w1.heap.size ≤ p5 ∧ W6.heap.size = p6 + 1 ∧ W6.heap[p5]? = some X0.obj ∧ (X0.t = 0 ∧ X0.l = [mk] ∧ X0.ks = [0] ∧ X0.hs = [[a]] ∧ X0.ds = []) ∧ W6.heap[p6]? = some (tyC 1 a a (.slice none 0 0) 3 (.slice none 0 0)) ∧ Dealt w1 W6 H N ∧ StE (fun j => j = H ∨ j = p5 ∨ j = p6) W6 (fun w => HbIn w X0)) (h56 : p5 < p6) (hH : H < w1.heap.size)
    (ho : OwnI w7 (p6 + 1) (.slice (some ⟨g7, 0, none⟩) 1 c7) [a]) (hg : (W6.alloc o).grownBy w7 none) (hl : W6.heap.size ≤ g7) : TcI w1 H (p6 + 1) p5 p6 mk a [] [a] [] [] (.slice none 0 0) (.slice (some ⟨g7, 0, none⟩) 1 c7) N X0 none 0 H w7 := by
  obtain ⟨i1, i2, i3, i4, i5, i6, i7⟩ := h
  have hw : ∀ j, j < W6.heap.size → w7.heap[j]? = W6.heap[j]? := fun j hj => (hg.block j (by simp; omega) (fun e => nomatch e)).trans ((bal0 W6 o).block j hj)
  have hs : W6.heap.size ≤ w7.heap.size := Nat.le_trans (bal0 W6 o).size hg.size
  refine ⟨(i6.alloc o).ownG hg (fun k e => nomatch e), hH, i1, h56, Nat.lt_succ_self _, (hw p5 (heap_lt i3)).trans i3, i4, (hw p6 (heap_lt i5)).trans i5, Own.nil_, ho, Own.nil_, ApartV.nilL, i7.step hs (fun j hj _ => hw j hj) fun j hj e => ?_⟩
  rcases e with e | e | e | e | e | e | e
  · exact .inl e
  · exact .inr (.inl e)
  · exact .inr (.inr e)
  · cases e
  · have e' : some g7 = some j := e
    injection e' with e'
    omega
  · cases e
  · exact .inl e
theorem below_ge {w W w' : World} {H p6 p17 : Nat} (h : Below H w W) (hg : GE (EK H p6 p17) W w') (h1 : H < p6) (h2 : p6 < p17) (hz : H ≤ W.heap.size) : Below H w w' :=
  ⟨hg.os.trans h.os, hg.tape.trans h.tape, hg.output.trans h.output, Nat.le_trans h.size hg.size, fun j hj => (hg.blk j (by omega) (fun e => by
    rcases e with e | e | e
    · omega
    · omega
    · omega)).trans (h.block j hj)⟩
theorem tc_facts {a : Int} {ch ns ls : List Int} {LC : List Ct} (hL : TcL a ch ns ls) (hct : ∀ c ∈ LC, CtP ((ch.length : Int) + 1) ns c) (hlen : LC.length = ns.length) :
    (TyOk (tcT a ch (exC ns ns.length)) ∧ TyT (tcT a ch (exC ns ns.length)) ∧ LsOk (tcT a ch (exC ns ns.length)) (tcT a ch (exC ns ns.length)).outs ∧ TyOk (tcT a ch LC) ∧ TyT (tcT a ch LC) ∧ LsOk (tcT a ch LC) (tcT a ch LC).outs ∧ (tcT a ch (exC ns ns.length)).g = (ns.length : Int) ∧ (tcT a ch LC).g = (ns.length : Int)) ∧
    ((∀ j, j + 1 ≤ ns.length → lostF (tcT a ch (exC ns ns.length)) (tcT a ch (exC ns ns.length)).outs 0 j = ⟨sumL (fun k => ls.getD k 0) j, sumL (fun k => ls.getD k 0) j⟩) ∧ (∀ j, j + 1 ≤ ns.length → (lostF (tcT a ch LC) (tcT a ch LC).outs 0 j).has (sumL (fun k => ls.getD k 0) j)) ∧ sumL (fun k => ls.getD k 0) 0 = 0 ∧ (∀ j, j < ls.length → sumL (fun k => ls.getD k 0) (j + 1) = sumL (fun k => ls.getD k 0) j + ls.getD j 0) ∧ ∀ j, j + 1 ≤ ns.length → 0 ≤ sumL (fun k => ls.getD k 0) j ∧ sumL (fun k => ls.getD k 0) j ≤ 100) ∧
    (tcT a ch (exC ns ns.length)).outs.getD ch.length sp0 = ⟨ns.getD ch.length 0, ns.getD ch.length 0⟩ ∧ ((tcT a ch LC).outs.getD ch.length sp0).has (ns.getD ch.length 0) := by
  have hn := hL.n
  have h4 := hL.c4
  have hex := exC_all hL (Nat.le_refl ns.length)
  have hT := hL.ok (cs := exC ns ns.length) (by rw [exC_len]; omega) fun c hc => (hex c hc).1
  have hU := hL.ok (cs := LC) (by omega) fun c hc => (hct c hc).1
  have hTn := hL.tru (cs := exC ns ns.length) fun c hc => (hex c hc).2
  have hUn := hL.tru (cs := LC) fun c hc => (hct c hc).2
  have gT : (tcT a ch (exC ns ns.length)).g = (ns.length : Int) := by show (ch.length : Int) + 1 = _; omega
  have gU : (tcT a ch LC).g = (ns.length : Int) := by show (ch.length : Int) + 1 = _; omega
  have h1 : ∀ g, g ≤ ch.length → (tcT a ch (exC ns ns.length)).outs.getD g sp0 = ⟨ns.getD g 0, ns.getD g 0⟩ := fun g hg => outs_one hT hTn (by rw [gT]; omega) (List.mem_map.2 ⟨g, List.mem_range.2 (by omega), rfl⟩)
  have h2 : ∀ g, g ≤ ch.length → ((tcT a ch LC).outs.getD g sp0).has (ns.getD g 0) := fun g hg => hUn.outs hU (by rw [gU]; omega)
  obtain ⟨t1, t2⟩ := tc_tru hT hTn
  obtain ⟨u1, u2⟩ := tc_tru hU hUn
  refine ⟨⟨hT, t1, t2, hU, u1, u2, gT, gU⟩, ⟨fun j hj => tc_lost_one (hL.tcN) h1 (by omega), fun j hj => tc_lost_has (hL.tcN) h2 (by omega), rfl, fun j hj => rfl, fun j hj => ?_⟩, h1 _ (Nat.le_refl _), h2 _ (Nat.le_refl _)⟩
  have := sumL_bd (ls := fun k => ls.getD k 0) (n := ch.length) (fun k hk => ⟨(hL.s k hk).2.1, (hL.s k hk).2.2.1⟩) j (by omega)
  omega
theorem tc_start2 {w1 w : World} {H B p5 p6 p17 : Nat} {mk : Mk} {a : Int} {ch ns ls : List Int} {ds : List De} {V7 V8 : Value} {N : Nat} {X : Hb} {AC : Option Addr} {cC : Nat} {pl : Tp} (h : TcI w1 H B p5 p6 mk a (ch.map oneS) ns ls ds V7 V8 N X AC cC p17 w) (hb6 : w.heap[p6]? = some (tyO (tcT a ch []) ⟨AC, cC, none, 0⟩)) (h17 : w.heap[p17]? = some (tyO (tcT a ch []) pl)) (ho : TyO w B (tcT a ch []) pl) (hp : p6 < p17) (hz : B ≤ w.heap.size) : L2 w H B p5 p6 p17 X a ch ns ls V7 V8 N 0 w := by
  have h5 := h.h5
  have hH := h.hH
  have hB := h.hB
  have h6 := h.h6
  refine ⟨⟨AC, cC, none, 0⟩, pl, [], rfl, (fun c hc => nomatch hc), h.dl.hd.mono (by omega), GE.rf _ _, ⟨by omega, by omega, h6, hB, hp⟩, hz, h.b5, hb6, h17, ⟨h.oc, Own.nil_⟩, ho, h.o7, h.o8, ?_⟩
  intro w' hs hw
  refine h.st w' hs fun j hj he => hw j hj (fun e => he ?_)
  rcases e with e | e | e
  · exact .inl e
  · exact .inr (.inr (.inl e))
  · exact .inr (.inr (.inr (.inr (.inr (.inr e)))))
set_option maxRecDepth 1000000 in
set_option maxHeartbeats 16000000 in
theorem TopCounted_any (A : Option Addr) (n c : Nat) (nums : List Int) (w : World) (hl : Ints w A n nums) (hn : n ≤ 9223372036854775807) :
    Calls Try.prog 4 #[.slice A n c] w fun e w' => e = .returned (.bool true) ∧ Below w.heap.size w w' := by
  obtain ⟨R, hR⟩ : ∃ R, R = (fun (e : Ending) (w' : World) => e = .returned (.bool true) ∧ Below w.heap.size w w') := ⟨_, rfl⟩
  show Calls _ _ _ _ (fun e w' => (fun (e : Ending) (w' : World) => e = .returned (.bool true) ∧ Below w.heap.size w w') e w')
  rw [← hR]
  have HR := Lib.hid hR
  clear hR
  go_enter Try.func4, Try.ntmps4
  go_wp2_with fail
  refine (newHand_any A n c nums _ hl hn).mono ?_
  rintro e w1 ⟨rfl, hh, hb1, hz1⟩
  obtain ⟨H, hH⟩ : ∃ H, H = w.heap.size := ⟨_, rfl⟩
  rw [← hH] at hh hb1 hz1 ⊢
  have HB1 := Lib.hid (And.intro hb1 (And.intro hz1 hH))
  clear hl hb1 hz1 hH
  go_wp2_with fail
  refine (among_any H 0 5 20 _ hh (by omega) (by omega) (by omega)).mono ?_
  rintro e w2 ⟨a, rfl, ha1, ha2, hd2⟩
  have ha : 5 ≤ a ∧ a ≤ 20 := by omega
  go_wp2_with fail
  refine (markOf_any H 1 _ hd2.hd (by omega)).mono ?_
  rintro e w3 ⟨mk, rfl, hmk, hd3⟩
  have HD3 := Lib.hid (hd2.trans hd3)
  clear hd2 hd3 hh ha1 ha2
  unfold vMk
  go_upto_region 5 with (fail)
  obtain ⟨W6, hW6⟩ : ∃ W6, W6 = ((((((w3.alloc (.cells #[.int .i64 mk.n, .int .i64 mk.b, .int .i64 mk.p] 44)).alloc (.cells #[.int .i64 0] 3)).alloc (.cells #[.int .i64 a] 3)).alloc (.cells #[.slice (some ⟨w3.heap.size + 1 + 1, 0, none⟩) 1 1] 22)).alloc
      (.cells #[.int .i64 0, .slice (some ⟨w3.heap.size, 0, none⟩) 1 1, .slice (some ⟨w3.heap.size + 1, 0, none⟩) 1 1, .slice (some ⟨w3.heap.size + 1 + 1 + 1, 0, none⟩) 1 1, .slice none 0 0] 64)).alloc (tyC 1 a a (.slice none 0 0) 3 (.slice none 0 0))) := ⟨_, rfl⟩
  rw [← hW6]
  obtain ⟨X0, i1, i2, i3, i4, i5, i6, i7⟩ := tc_init HD3.out (by have := HB1.out; omega) mk a W6 hW6
  obtain ⟨p5, hp5⟩ : ∃ p5, p5 = w3.heap.size + 1 + 1 + 1 + 1 := ⟨_, rfl⟩
  rw [← hp5] at i1 i2 i3 i5 i7 ⊢
  obtain ⟨p6, hp6⟩ : ∃ p6, p6 = p5 + 1 := ⟨_, rfl⟩
  rw [← hp6] at i2 i5 i7 ⊢
  have HI := Lib.hid (And.intro i1 (And.intro i2 (And.intro i3 (And.intro i4 (And.intro i5 (And.intro i6 i7))))))
  have h56 : p5 < p6 := by omega
  clear i1 i2 i3 i4 i5 i6 i7 hW6 hp5 hp6
  have hz6 : W6.heap.size = p6 + 1 := by have := HI.out.2.1; omega
  have HH1 := Lib.hid (show H < w1.heap.size by have := HB1.out; omega)
  have HZ6 := Lib.hid hz6
  clear hz6
  go_upto_region 7 with (first
    | (at_builtin; refine wp_appL okInt rfl (.tmp 55) (.tmp 57) rfl (p6 + 1) (.slice none 0 0) [] a #[.int .i64 a] W6.heap.size rfl rfl (heap_alloc_new W6 _) rfl rfl (one_eInt _) Own.nil_ (by decide) (by decide) (by have := HZ6.out; simp; omega) ?_; go_loud (intro g7 c7 w7 ho7 hgr7 hl7; have hl8 : W6.heap.size ≤ g7 := hl7.elim (fun e => nomatch e) (fun e => Nat.le_trans (bal0 W6 _).size (Nat.le_of_eq e.symm)); have HS7 := Lib.hid (tc_init2 (mk := mk) (a := a) ⟨HI.out.1, HZ6.out, HI.out.2.2⟩ h56 HH1.out ho7 hgr7 hl8); have HZ7 := Lib.hid (show p6 + 1 ≤ w7.heap.size from Nat.le_trans (Nat.le_of_eq HZ6.out.symm) (Nat.le_trans (bal0 W6 _).size hgr7.size)); clear ho7 hgr7 hl7 hl8))
    | fail)
  go_wp2_with fail
  refine (upto_any H (1 + 16) 4 _ HS7.out.dl.hd (by omega) (by omega)).mono ?_
  rintro e w8 ⟨m0, rfl, hm0, hd8⟩
  have hm4 : m0 ≤ 4 := by omega
  have HS8 := Lib.hid (HS7.out.deal hd8)
  have hz8 : p6 + 1 ≤ w8.heap.size := Nat.le_trans HZ7.out hd8.size
  clear hd8 hm0
  go_upto_block 0 with (fail)
  refine cnt_loop1 w1 w8 H (p6 + 1) p5 p6 m0 (1 + 16 + 1) mk a _ X0 _ _ _ _ _ _ _ _ _ _ _ _ _ _ _ _ _ _ _ _ _ _ _ _ _ _ _ _ _ _ _ _ _ _ _ _ _ _ _ _ _ _ _ _ _ _ _ _ _ _ _ _ _ _ _ _ _ _ _ _ _ _ _ _ _ _ _ _ _ _ _ _ _ _ _ _ _ _ _ _ _ _ _ _ _ _ _ _ _ _ _ _ _ _ _ _ _ _ _ _ _ _ _ _ _ _ _ _ _ _ _ _ _ _ _ _ _ _ _ _ _ _ _ _ _ _ _ _ _ _ _ _ _ _ _ _ _ _ _ _ _ _ _ _ _ _ _ _ _ _ _ _ _ _ _ _ _ _ _ _ _ _ _ _ _ _ _ _ _ _ _ _ _ _ _ _ _ _ _ _ _ _ _ _ _ _ _ _ _ _ _ _ _ _ _ _ _ _ _ _ _ _ _ _ _ _ _ _ _ _ _ _ _ _ _ _ _ _ _ _ _ _ _ _ _ _ _ _ _ _ _ _ _ _ _ _ _ _ _ _ _ _ _ _ _ _ _ _ _ _ _ _ _ _ _ _ _ _ _ _ _ _ _ _ _ _ _ _ _ _ _ _ _ _ _ _ _ _ _ _ _ _ _ _ _ _ _ _ _ _ _ _ _ _ _ _ _ _ _ _ _ _ _ _ _ _ _ _ _ _ _ _ _ HS8 ha hmk hm4 (by omega) hz8 ?_
  intro x2 x4 x7 x8 Gt Gu Gv Gw Gx Gy Gz F0 F1 F2 F3 F4 F5 F6 F7 F8 F9 FA FB FC FD FE FF FG FH FI FJ FK FL FM FN FO FP FQ FR FS FT FU FV FW FX FY FZ Fa Fb Fc Fd Fe Ff Fg Fh Fi Fj Fk Fl Fm Fn Fo Fp Fq Fr Fs Ft Fu Fv Fw Fx Fy Fz U0 U1 U2 U3 U4 w9 hLI
  obtain ⟨ch, ns, ls, ds, now, X, AC, cC, rfl, hcl, hdl, hL, hTB, hnow, hS⟩ := hLI
  have hds6 : ds.length ≤ 6 := by omega
  have hask := tcb_ask hTB hS.x hmk (by omega) hds6
  have htot := Total_any X w9 hS.st.now
  unfold TotalR at htot
  rw [hask.1, hask.2.1] at htot
  unfold Hb.v at htot
  obtain ⟨k0, k1, k2, k3, k4⟩ := blk5c hS.b5
  have hl5 := heap_lt hS.b5
  have hnb : 0 ≤ now ∧ now ≤ 40 := by
    have h1 := hTB.n
    have h2 := hL.b m0 (by omega)
    omega
  have HP := Lib.hid (And.intro hL (And.intro hTB (And.intro hcl (And.intro hdl (And.intro hnow hask)))))
  have HS9 := Lib.hid hS
  clear hL hTB hcl hdl hnow hask hS
  dsimp only
  go_wp2_with fail
  refine htot.mono ?_
  rintro e w10 ⟨⟨v, rfl, hO⟩, hb10⟩
  obtain ⟨A1, c1, rfl, hsl, -, -⟩ := hO.form lenRn
  obtain ⟨b1, o1, r, hA1, hr, hcell⟩ := hsl.at_ (k := 0) (by simp)
  have hr' : r = ⟨now, now⟩ := by simp at hr; exact hr.symm
  subst hr'
  have r0 := hcell 0 _ rfl
  have r1 := hcell 1 _ rfl
  simp only [Nat.zero_mul, Nat.add_zero] at r0 r1
  subst hA1
  have hlb := cell_lt r0
  have HS10 := Lib.hid (HS9.out.bel hb10)
  have hz10 : p6 + 1 ≤ w10.heap.size := by have := heap_lt HS10.out.b6; omega
  clear htot k0 k1 k2 k3 k4 hl5 hO hsl hcell hr hb10
  simp only [List.length_cons, List.length_nil]
  go_upto_region 30 with (fail)
  have hb6 : w10.heap[p6]? = some (tyO (tcT a ch []) ⟨AC, cC, none, 0⟩) := by
    have h6 := HS10.out.b6
    have e : ((ch.map oneS).length : Int) = (ch.length : Int) := by simp
    rw [e] at h6
    exact h6
  have hcn : (tcT a ch []).ch.length ≤ 1000 := by show (ch.map oneS).length ≤ 1000; rw [List.length_map]; have := HP.out.1.c4; omega
  obtain ⟨A9, c9, e9, s1, s2, s3, s4⟩ := HS10.out.oc.formZ lenSp
  have e9' : AC = A9 ∧ cC = c9 := by injection e9 with h1 _ h3; exact ⟨h1, h3⟩
  obtain ⟨rfl, rfl⟩ := e9'
  have hcop := copT_any (tcT a ch []) ⟨AC, cC, none, 0⟩ w10 ⟨⟨s1, s2, s3, Sl.nil_, Nat.zero_le _, Nat.zero_le _⟩, s4, fun _ => rfl⟩ hcn (Nat.zero_le _)
  obtain ⟨T0, hT0⟩ : ∃ T0, T0 = tcT a ch [] := ⟨_, rfl⟩
  rw [← hT0] at hb6 hcop
  unfold tyV at hcop
  dsimp only at hcop
  obtain ⟨j0, j1, j2, j3, j4, j5⟩ := blk6 hb6
  have hl6 := heap_lt hb6
  have HB6 := Lib.hid hb6
  have HT0 := Lib.hid hT0
  clear e9 s1 s2 s3 s4 hb6 hT0 r0 r1 hlb
  dsimp only at j0 j1 j2 j3 j4 j5
  go_wp2_with fail
  refine hcop.mono ?_
  rintro e w11 ⟨⟨pl, rfl, ho11⟩, hb11⟩
  have H11 := Lib.hid (And.intro ho11 hb11)
  clear ho11 hb11 hcop j0 j1 j2 j3 j4 j5 hl6
  unfold tyV
  go_upto_region 31 with (fail)
  obtain ⟨ho11, hb11⟩ := H11.out
  obtain ⟨p17, hp17⟩ : ∃ p17, p17 = w11.heap.size := ⟨_, rfl⟩
  obtain ⟨W12, hW12⟩ : ∃ W12, W12 = w11.alloc (tyO T0 pl) := ⟨_, rfl⟩
  have hbl : Below w11.heap.size w11 W12 := by rw [hW12]; exact bal0 w11 _
  have hS12 := (HS10.out.bel hb11).newq (tyO T0 pl)
  rw [← hW12, ← hp17] at hS12
  have b6' := bheap (bheap HB6.out hb11 (Nat.le_refl _)) hbl (Nat.le_refl _)
  have b17 : W12.heap[p17]? = some (tyO T0 pl) := by rw [hW12, hp17]; exact alloc_at rfl
  have ho12 : TyO W12 (p6 + 1) T0 pl := ⟨(ho11.1.below hbl (Nat.le_refl _)).mono hz10, (ho11.2.below hbl (Nat.le_refl _)).mono hz10⟩
  have hz12 : p6 + 1 ≤ W12.heap.size := by have := hb11.size; have := hbl.size; omega
  have hp617 : p6 < p17 := by have := hb11.size; omega
  rw [HT0.out] at b6' b17 ho12
  have HL2 := Lib.hid (tc_start2 hS12 b6' b17 ho12 hp617 hz12)
  have HB12 := Lib.hid (show Below H w W12 from HB1.out.1.trans (hS12.dl.below (Nat.le_refl _) (by have := HB1.out.2.1; omega)))
  obtain ⟨A8, c8, rfl, -, -, -⟩ := hS12.o8.form lenInt
  obtain ⟨A7, c7', rfl, -, -, -⟩ := hS12.o7.form lenInt
  rw [show w11.alloc (Obj.cells #[.int .i64 T0.g, .int .i64 T0.f.lo, .int .i64 T0.f.hi, .slice pl.A T0.ch.length pl.c, .int .i64 T0.m, .slice pl.B T0.cs.length pl.d] 30) = W12 from hW12.symm, ← hp17]
  have hnl : ns.length = m0 + 1 ∧ ls.length = m0 := by have h1 := HP.out.1.n; have h2 := HP.out.1.l; have h3 := HP.out.2.2.1; omega
  have HLN := Lib.hid (And.intro HP.out.1 (show ns.length = ns.length from rfl))
  have hz17 := Lib.hid (And.intro hp617 (And.intro hz12 hnl))
  clear hW12 hp17 hbl hS12 b6' b17 ho12 hz12 hp617 ho11 hb11 H11
  go_upto_block 3 with (fail)
  refine cnt_loop2 W12 W12 H (p6 + 1) p5 p6 p17 ns.length c8 (1 + 16 + 1 + 1000 * m0) A8 X a ch ns ls (.slice A7 ls.length c7') _ _ _ _ _ _ _ _ _ _ _ _ _ _ _ _ _ _ _ _ _ _ _ _ _ _ _ _ _ _ _ _ _ _ _ _ _ _ _ _ _ _ _ _ _ _ _ _ _ _ _ _ _ _ _ _ _ _ _ _ _ _ _ _ _ _ _ _ _ _ _ _ _ _ _ _ _ _ _ _ _ _ _ _ _ _ _ _ _ _ _ _ _ _ _ _ _ _ _ _ _ _ _ _ _ _ _ _ _ _ _ _ _ _ _ _ _ _ _ _ _ _ _ _ _ _ _ _ _ _ _ _ _ _ _ _ _ _ _ _ _ _ _ _ _ _ _ _ _ _ _ _ _ _ _ _ _ _ _ _ _ _ _ _ _ _ _ _ _ _ _ _ _ _ _ _ _ _ _ _ _ _ _ _ _ _ _ _ _ _ _ _ _ _ _ _ _ _ _ _ _ _ _ _ _ _ _ _ _ _ _ _ _ _ _ _ _ _ _ _ _ _ _ _ _ _ _ _ _ _ _ _ _ _ _ _ _ _ _ _ _ _ _ _ _ _ _ _ _ _ _ _ _ _ _ _ _ _ _ _ _ _ _ _ _ _ _ _ _ _ _ _ _ _ _ _ _ _ _ _ _ _ _ _ _ _ _ _ _ _ _ _ _ _ _ _ _ _ _ _ _ _ _ _ _ _ _ _ _ _ _ _ _ _ _ HL2 HLN (by have := hz17.out.2.2; omega) (by omega) ?_
  intro y2 y19 y20 y21 y22 y23 y153 y154 y155 y156 y157 y158 y159 y160 y161 y162 y163 y164 y165 y166 y167 y168 y169 y170 y171 y172 y173 y174 y175 y176 y177 y178 y179 y180 y181 y182 y183 y184 y185 y186 y187 y188 y189 y190 y191 y192 y193 y194 y195 y196 y197 y198 y199 y200 y201 y202 y203 y204 y205 y206 y207 y208 y209 y210 w13 hL2
  obtain ⟨p, pl2, LC, hLC, hct, hK⟩ := hL2
  have HF := Lib.hid (tc_facts HP.out.1 hct hLC)
  have HK := Lib.hid hK
  have h7i := (Own.sl hK.o7 lenInt).1
  have hLCn := Lib.hid (And.intro hLC hct)
  obtain ⟨T, hT⟩ : ∃ T, T = tcT a ch (exC ns ns.length) := ⟨_, rfl⟩
  obtain ⟨U, hU⟩ : ∃ U, U = tcT a ch LC := ⟨_, rfl⟩
  have hF := HF.out
  rw [← hT, ← hU] at hF hK
  have HF2 := Lib.hid hF
  have HB13 := Lib.hid (And.intro hK.b6 (And.intro hK.b17 (And.intro (tyO_in hK.oT) (And.intro (tyO_in hK.oU) h7i))))
  have HTU := Lib.hid (And.intro hT hU)
  have HTT := Lib.hid hF.1
  have HLL := Lib.hid hF.2.1
  have hnl2 : ns.length = m0 + 1 ∧ ls.length = m0 := hz17.out.2.2
  clear hLC hct hK h7i hT hU hF
  dsimp only
  go_upto_block 5 with (fail)
  refine cnt_loop3 w13 p6 p17 ls.length c7' ns.length c8 A7 A8 T U p pl2 ls (sumL fun k => ls.getD k 0) _ _ _ _ _ _ _ _ _ _ _ _ _ _ _ _ _ _ _ _ _ _ _ _ _ _ _ _ _ _ _ _ _ _ _ _ _ _ _ _ _ _ _ _ _ _ _ _ _ _ _ _ _ _ _ _ _ _ _ _ _ _ _ _ _ _ _ _ _ _ _ _ _ _ _ _ _ _ _ _ _ _ _ _ _ _ _ _ _ _ _ _ _ _ _ _ _ _ _ _ _ _ _ _ _ _ _ _ _ _ _ _ _ _ _ _ _ _ _ _ _ _ _ _ _ _ _ _ _ _ _ _ _ _ _ _ _ _ _ _ _ _ _ _ _ _ _ _ _ _ _ _ _ _ _ _ _ _ _ _ _ _ _ _ _ _ _ _ _ _ _ _ _ _ _ _ _ _ _ _ _ _ _ _ _ _ _ _ _ _ _ _ _ _ _ _ _ _ _ _ _ _ _ _ _ _ _ _ _ _ _ _ _ _ _ _ _ _ _ _ _ _ _ _ _ _ _ _ _ _ _ _ _ _ _ _ _ _ _ _ _ _ _ _ _ _ _ _ _ _ _ _ _ _ _ _ _ _ _ _ _ _ _ _ _ _ _ _ _ _ _ _ _ _ _ _ _ _ _ _ _ _ _ _ _ _ _ _ _ _ _ _ _ _ _ _ _ _ _ _ _ _ _ _ _ _ _ _ _ _ _ _ _ _ HB13 HTT (by omega) (by omega) HLL ?_
  intro z2 z26 z27 z28 z29 z211 z212 z213 z214 z215 z216 z217 z218 z219 z220 z221 z222 z223 z224 z225 z226 z227 z228 z229 z230 z231 z232 z233 z234 z235 z236 z237 z238 z239 z240 z241 z242 z243 z244 z245 z246 z247 z248 z249 z250 z251 z252 z253 z254 z255 z256 z257 z258 z259 z260 w14 hb14
  dsimp only
  obtain ⟨gone, hgone⟩ : ∃ gone, gone = sumL (fun k => ls.getD k 0) (ns.length - 1) := ⟨_, rfl⟩
  rw [← hgone]
  have hm0 : ns.length - 1 = m0 := by omega
  rw [hm0] at hgone
  have hTB := HP.out.2.1
  rw [← hgone] at hTB
  have hTB2 := hTB.cnt (by omega)
  have hxx := HS9.out.x
  have hent := tcb_enter hTB hTB2 hxx hmk (by omega) (by have := HP.out.2.2.2.1; omega)
  have hcm : ch.length = m0 := HP.out.2.2.1
  have h30 : (ns.length : Int) - 1 = (m0 : Int) := by omega
  have h30b : (m0 : Int) < T.g := by have := HTT.out.2.2.2.2.2.2.1; omega
  have h30c : (m0 : Int) < U.g := by have := HTT.out.2.2.2.2.2.2.2; omega
  have hnow := HP.out.2.2.2.2.1
  have hoT := HF2.out.2.2.1
  have hoU := HF2.out.2.2.2
  rw [hcm, ← hnow] at hoT hoU
  have ct := fun (w' : World) (hb : Below w13.heap.size w13 w') => tTold_any T p m0 now w' HTT.out.1 (HB13.out.2.2.1.below hb (Nat.le_refl _)) HTT.out.2.1 h30b hnb.1 (by rw [hoT]; exact ⟨Int.le_refl _, Int.le_refl _⟩)
  have cu := fun (w' : World) (hb : Below w13.heap.size w13 w') => tTold_any U pl2 m0 now w' HTT.out.2.2.2.1 (HB13.out.2.2.2.1.below hb (Nat.le_refl _)) HTT.out.2.2.2.2.1 h30c hnb.1 hoU
  obtain ⟨z, hz⟩ : ∃ z : Int, z = (if (U.outs.getD m0 sp0).lo = (U.outs.getD m0 sp0).hi then 1 else 3) := ⟨_, rfl⟩
  rw [hoT] at ct
  rw [← hz] at cu
  simp only [if_true] at ct
  have hz2 : (z != 2) = true := by rw [hz]; split <;> decide
  have HC := Lib.hid (And.intro ct cu)
  have HE := Lib.hid (And.intro hTB2 (And.intro hent hxx))
  have H30 := Lib.hid h30
  have b6 := bheap HB13.out.1 hb14 (Nat.le_refl _)
  obtain ⟨k0, k1, k2, k3, k4, k5⟩ := blk6 b6
  have hl6 := heap_lt b6
  have HB14 := Lib.hid hb14
  clear hgone hm0 hTB hTB2 hxx hent hcm hnow hoT hoU ct cu hz b6 hb14 h30 h30b h30c
  go_upto_region 50 with (fail)
  go_wp2_with fail
  refine (HC.out.1 _ HB14.out).mono ?_
  rintro e w15 ⟨rfl, hb15⟩
  have HB15 := Lib.hid (HB14.out.trans (hb15.mono HB14.out.size))
  have b17 := bheap HB13.out.2.1 HB15.out (Nat.le_refl _)
  clear hb15 k0 k1 k2 k3 k4 k5 hl6
  obtain ⟨k0, k1, k2, k3, k4, k5⟩ := blk6 b17
  have hl17 := heap_lt b17
  clear b17
  go_wp2_with fail
  refine (HC.out.2 _ HB15.out).mono ?_
  rintro e w16 ⟨rfl, hb16⟩
  have HB16 := Lib.hid (HB15.out.trans (hb16.mono HB15.out.size))
  have b5 := bheap HK.out.b5 HB16.out (Nat.le_refl _)
  have hin : HbIn w16 X := (HK.out.st.step (E' := EK H p6 p17) HB16.out.size (fun j hj _ => HB16.out.block j hj) (fun j _ e => e)).now
  have hen := Enter_any X (tcD 6 now) w16 hin
  unfold dv tcD Hb.v at hen
  dsimp only at hen
  clear hb16 k0 k1 k2 k3 k4 k5 hl17 hin
  obtain ⟨k0, k1, k2, k3, k4⟩ := blk5c b5
  have hl5 := heap_lt b5
  clear b5
  go_wp2_with fail
  refine hen.mono ?_
  rintro e w17 hE
  obtain ⟨⟨Y, rfl, hM, hO⟩, hb17⟩ := enter_ok hE HE.out.2.1
  have hYx : Y.t = 0 ∧ Y.l = [mk] ∧ Y.ks = [0] ∧ Y.hs = [[a]] ∧ Y.ds = ds ++ [tcD 6 now] := by
    obtain ⟨x1, x2, x3, x4, x5⟩ := HE.out.2.2
    obtain ⟨y1, y2, y3, y4, y5⟩ := hM
    exact ⟨y1.trans x1, y2.trans x2, y3.trans x3, y4.trans x4, y5.trans (by rw [x5]; rfl)⟩
  have hyn : (ds ++ [tcD 6 now]).length ≤ 6 := by have := HP.out.2.2.2.1; simp; omega
  have hasy := tcb_ask HE.out.1 hYx hmk (by omega) hyn
  have HB17 := Lib.hid (HB16.out.trans (hb17.mono HB16.out.size))
  have HY := Lib.hid (And.intro hasy hO.inn)
  clear hE hM hO hb17 hYx hyn hasy hen k0 k1 k2 k3 k4 hl5
  go_upto_region 53 with (fail)
  obtain ⟨W17, hW17⟩ : ∃ W17, W17 = w17.alloc Y.obj := ⟨_, rfl⟩
  obtain ⟨p34, hp34⟩ : ∃ p34, p34 = w17.heap.size := ⟨_, rfl⟩
  have b34 : W17.heap[p34]? = some Y.obj := by rw [hW17, hp34]; exact alloc_at rfl
  have hbw : Below w17.heap.size w17 W17 := by rw [hW17]; exact bal0 w17 _
  have hgo := Gone_any Y 0 W17 (HY.out.2.below hbw (Nat.le_refl _))
  unfold GoneR Hb.v at hgo
  rw [HY.out.1.2.2.1, HY.out.1.2.2.2] at hgo
  dsimp only at hgo
  have HBW := Lib.hid (HB17.out.trans (hbw.mono HB17.out.size))
  obtain ⟨k0, k1, k2, k3, k4⟩ := blk5c b34
  have hl34 := heap_lt b34
  rw [show w17.alloc (Obj.cells #[.int .i64 Y.t, .slice Y.A Y.l.length Y.c, .slice Y.Ak Y.ks.length Y.ck, .slice Y.Ah Y.hs.length Y.ch, .slice Y.Ad Y.ds.length Y.cd] 64) = W17 from hW17.symm, ← hp34]
  clear hW17 hp34 b34 hbw
  go_wp2_with fail
  refine hgo.mono ?_
  rintro e w18 ⟨rfl, hb18⟩
  have HB18 := Lib.hid (HBW.out.trans (hb18.mono HBW.out.size))
  clear hb18 hgo k0 k1 k2 k3 k4 hl34
  go_upto_region 54 with (fail)
  obtain ⟨W18, hW18⟩ : ∃ W18, W18 = w18.alloc (.cells #[.int .i64 gone, .int .i64 gone] 26 (0, 0)) := ⟨_, rfl⟩
  obtain ⟨p36, hp36⟩ : ∃ p36, p36 = w18.heap.size := ⟨_, rfl⟩
  have b36 : W18.heap[p36]? = some (.cells #[.int .i64 gone, .int .i64 gone] 26 (0, 0)) := by rw [hW18, hp36]; exact alloc_at rfl
  have hfin : Below H w W18 := by
    have h1 := HB18.out
    have hl := HK.out.lt
    have h2 := below_ge HB12.out HK.out.ge (by omega) hl.2.2.2.2 (by have := hz17.out.2.1; omega)
    rw [hW18]
    exact h2.trans ((h1.trans ((bal0 w18 _).mono h1.size)).mono (by have := HK.out.hd.lt; omega))
  have HFIN := Lib.hid hfin
  obtain ⟨r0, r1⟩ := blk2 b36
  have hl36 := heap_lt b36
  rw [← hW18, ← hp36]
  clear hW18 hp36 b36 hfin
  go_wp2_with fail
  rw [HR.out]
  have h := HFIN.out
  rw [HB1.out.2.2] at h
  exact ⟨rfl, h⟩
end Go.Proofs.Ytgnjknihgjdedaa
