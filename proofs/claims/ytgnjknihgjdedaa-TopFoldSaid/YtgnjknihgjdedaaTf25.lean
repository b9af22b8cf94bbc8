/- TopFold 25: FldD, FldE, App0, FldC. -/
import Derived.Test.YtgnjknihgjdedaaTf24
import Derived.Test.YtgnjknihgjdedaaTf04
import Derived.Test.YtgnjknihgjdedaaTf07
namespace Go.Proofs.Ytgnjknihgjdedaa
open Go.RowKit
set_option linter.unusedVariables false
set_option linter.unusedSimpArgs false
set_option maxRecDepth 1000000
def FTr (W : World) (ss : List Sg) (L : List Int) (i : Nat) (Z0 : Value) (w' : World) : Prop := OwnS w' W.heap.size Z0 ((L.take i).map fun i : Int => ss.getD i.toNat ⟨0, false, false, 0, 0⟩) ∧ Below W.heap.size W w'
noncomputable def lpF4 : Code := ((Try.f3.body.bind (findBlk 6)).getD .skip)
def RgFQL4 (W : World) (m c8 cR : Nat) (A8 AR : Option Addr) (ss : List Sg) (L : List Int) (v0 v1 v2 v3 v4 v5 v6 v7 v8 v9 Z1 Z2 Z3 Z4 Z5 Z6 Z7 Z8 Z9 ZA ZB ZC ZD ZE ZF ZG ZH ZI ZJ ZK ZL ZM ZN ZO ZP ZQ ZR ZS ZT ZU ZV ZW ZX ZY ZZ Za Zb Zc Zd Ze Zf Zg Zh Zi Zj Zk Zl Zm Zn Zo Zp Zq Zr Zs Zt Zu Zv Zw Zx Zy Zz Y0 Y1 Y2 Y3 Y4 Y5 Y6 Y7 Y8 Y9 YA YB YC YD YE YF YG YH YI YJ YK YL YM YN YO YP YQ YR YS YT YU YV YW YX YY YZ Ya Yb Yc Yd Ye Yf Yg Yh Yi Yj Yk Yl Ym Yn Yo Yp Yq Yr Ys Yt Yu Yv Yw Yx Yy Yz X0 X1 X2 X3 X4 X5 X6 X7 X8 X9 XA XB XC XD XE XF XG XH XI XJ XK XL XM XN XO XP XQ XR XS XT XU XV XW XX XY XZ Xa Xb Xc Xd Xe Xf Xg Xh Xi Xj Xk Xl Xm Xn Xo Xp Xq Xr Xs Xt Xu Xv Xw Xx Xy Xz K0 K1 K2 K3 K4 K5 K6 K7 K8 K9 KA KB KC KD KE KF KG KH KI KJ KK KL KM KN KO KP KQ KR KS KT KU KV KW KX KY KZ Ka Kb Kc Kd Ke Kf Kg Kh Ki Kj Kk Kl Km Kn Ko Kp Kq Kr Ks Kt Ku Kv Kw Kx Ky Kz J0 J1 J2 J3 J4 J5 J6 J7 J8 J9 JA JB JC JD JE JF JG JH JI JJ JK JL JM JN JO JP JQ JR JS JT JU JV JW JX JY JZ Ja : Value) (Q : Exit → Act → World → Prop) : Prop := ∀ (Jb Jc Jd Je Jf Jg Jh Ji Jj Jk Jl Jm Jn Jo Jp Jq Jr : Value) (w' : World), FTr W ss L m Jb w' → Q .normal ⟨#[v0, v1, v2, v3, v4, v5, v6, v7, v8, v9, Z1, Z2, Z3, Z4, Z5, Z6, (Value.slice A8 m c8), Z7, Z8, Z9, ZA, (Value.slice AR m cR), Jb, (Value.int .i64 (m : Int)), ZB, ZC, ZD, ZE, ZF, ZG, ZH, ZI, ZJ, ZK, ZL, ZM, ZN, ZO, ZP, ZQ, ZR, ZS, ZT, ZU, ZV, ZW, ZX, ZY, ZZ, Za, Zb, Zc, Zd, Ze, Zf, Zg, Zh, Zi, Zj, Zk, Zl, Zm, Zn, Zo, Zp, Zq, Zr, Zs, Zt, Zu, Zv, Zw, Zx, Zy, Zz, Y0, Y1, Y2, Y3, Y4, Y5, Y6, Y7, Y8, Y9, YA, YB, YC, YD, YE, YF, YG, YH, YI, YJ, YK, YL, YM, YN, YO, YP, YQ, YR, YS, YT, YU, YV, YW, YX, YY, YZ, Ya, Yb, Yc, Yd, Ye, Yf, Yg, Yh, Yi, Yj, Yk, Yl, Ym, Yn, Yo, Yp, Yq, Yr, Ys, Yt, Yu, Yv, Yw, Yx, Yy, Yz, X0, X1, X2, X3, X4, X5, X6, X7, X8, X9, XA, XB, XC, XD, XE, XF, XG, XH, XI, XJ, XK, XL, XM, XN, XO, XP, XQ, XR, XS, XT, Jc, Jd, Je, Jf, Jg, Jh, Ji, Jj, Jk, Jl, Jm, Jn, Jo, Jp, Jq, Jr, Xk, Xl, Xm, Xn, Xo, Xp, Xq, Xr, Xs, Xt, Xu, Xv, Xw, Xx, Xy, Xz, K0, K1, K2, K3, K4, K5, K6, K7, K8, K9, KA, KB, KC, KD, KE, KF, KG, KH, KI, KJ, KK, KL, KM, KN, KO, KP, KQ, KR, KS, KT, KU, KV, KW, KX, KY, KZ, Ka, Kb, Kc, Kd, Ke, Kf, Kg, Kh, Ki, Kj, Kk, Kl, Km, Kn, Ko, Kp, Kq, Kr, Ks, Kt, Ku, Kv, Kw, Kx, Ky, Kz, J0, J1, J2, J3, J4, J5, J6, J7, J8, J9, JA, JB, JC, JD, JE, JF, JG, JH, JI, JJ, JK, JL, JM, JN, JO, JP, JQ, JR, JS, JT, JU, JV, JW, JX, JY, JZ, Ja], []⟩ w'
set_option maxHeartbeats 8000000 in
theorem fold_turn (W : World) (A8 : Option Addr) (m c8 : Nat) (ss : List Sg) (AR : Option Addr) (cR : Nat) (L : List Int) (v0 v1 v2 v3 v4 v5 v6 v7 v8 v9 Z1 Z2 Z3 Z4 Z5 Z6 Z7 Z8 Z9 ZA ZB ZC ZD ZE ZF ZG ZH ZI ZJ ZK ZL ZM ZN ZO ZP ZQ ZR ZS ZT ZU ZV ZW ZX ZY ZZ Za Zb Zc Zd Ze Zf Zg Zh Zi Zj Zk Zl Zm Zn Zo Zp Zq Zr Zs Zt Zu Zv Zw Zx Zy Zz Y0 Y1 Y2 Y3 Y4 Y5 Y6 Y7 Y8 Y9 YA YB YC YD YE YF YG YH YI YJ YK YL YM YN YO YP YQ YR YS YT YU YV YW YX YY YZ Ya Yb Yc Yd Ye Yf Yg Yh Yi Yj Yk Yl Ym Yn Yo Yp Yq Yr Ys Yt Yu Yv Yw Yx Yy Yz X0 X1 X2 X3 X4 X5 X6 X7 X8 X9 XA XB XC XD XE XF XG XH XI XJ XK XL XM XN XO XP XQ XR XS XT XU XV XW XX XY XZ Xa Xb Xc Xd Xe Xf Xg Xh Xi Xj Xk Xl Xm Xn Xo Xp Xq Xr Xs Xt Xu Xv Xw Xx Xy Xz K0 K1 K2 K3 K4 K5 K6 K7 K8 K9 KA KB KC KD KE KF KG KH KI KJ KK KL KM KN KO KP KQ KR KS KT KU KV KW KX KY KZ Ka Kb Kc Kd Ke Kf Kg Kh Ki Kj Kk Kl Km Kn Ko Kp Kq Kr Ks Kt Ku Kv Kw Kx Ky Kz J0 J1 J2 J3 J4 J5 J6 J7 J8 J9 JA JB JC JD JE JF JG JH JI JJ JK JL JM JN JO JP JQ JR JS JT JU JV JW JX JY JZ Ja : Value) (Q : Exit → Act → World → Prop)
    (HS : Hid (Sights W A8 m ss ∧ Ints W AR m L ∧ ∀ y ∈ L, 0 ≤ y ∧ y < m)) (hm : m ≤ 100)
    (HQ : RgFQL4 W m c8 cR A8 AR ss L v0 v1 v2 v3 v4 v5 v6 v7 v8 v9 Z1 Z2 Z3 Z4 Z5 Z6 Z7 Z8 Z9 ZA ZB ZC ZD ZE ZF ZG ZH ZI ZJ ZK ZL ZM ZN ZO ZP ZQ ZR ZS ZT ZU ZV ZW ZX ZY ZZ Za Zb Zc Zd Ze Zf Zg Zh Zi Zj Zk Zl Zm Zn Zo Zp Zq Zr Zs Zt Zu Zv Zw Zx Zy Zz Y0 Y1 Y2 Y3 Y4 Y5 Y6 Y7 Y8 Y9 YA YB YC YD YE YF YG YH YI YJ YK YL YM YN YO YP YQ YR YS YT YU YV YW YX YY YZ Ya Yb Yc Yd Ye Yf Yg Yh Yi Yj Yk Yl Ym Yn Yo Yp Yq Yr Ys Yt Yu Yv Yw Yx Yy Yz X0 X1 X2 X3 X4 X5 X6 X7 X8 X9 XA XB XC XD XE XF XG XH XI XJ XK XL XM XN XO XP XQ XR XS XT XU XV XW XX XY XZ Xa Xb Xc Xd Xe Xf Xg Xh Xi Xj Xk Xl Xm Xn Xo Xp Xq Xr Xs Xt Xu Xv Xw Xx Xy Xz K0 K1 K2 K3 K4 K5 K6 K7 K8 K9 KA KB KC KD KE KF KG KH KI KJ KK KL KM KN KO KP KQ KR KS KT KU KV KW KX KY KZ Ka Kb Kc Kd Ke Kf Kg Kh Ki Kj Kk Kl Km Kn Ko Kp Kq Kr Ks Kt Ku Kv Kw Kx Ky Kz J0 J1 J2 J3 J4 J5 J6 J7 J8 J9 JA JB JC JD JE JF JG JH JI JJ JK JL JM JN JO JP JQ JR JS JT JU JV JW JX JY JZ Ja Q) :
    Code.wp Try.prog lpF4 Q ⟨#[v0, v1, v2, v3, v4, v5, v6, v7, v8, v9, Z1, Z2, Z3, Z4, Z5, Z6, (Value.slice A8 m c8), Z7, Z8, Z9, ZA, (Value.slice AR m cR), (Value.slice none 0 0), (Value.int .i64 0), ZB, ZC, ZD, ZE, ZF, ZG, ZH, ZI, ZJ, ZK, ZL, ZM, ZN, ZO, ZP, ZQ, ZR, ZS, ZT, ZU, ZV, ZW, ZX, ZY, ZZ, Za, Zb, Zc, Zd, Ze, Zf, Zg, Zh, Zi, Zj, Zk, Zl, Zm, Zn, Zo, Zp, Zq, Zr, Zs, Zt, Zu, Zv, Zw, Zx, Zy, Zz, Y0, Y1, Y2, Y3, Y4, Y5, Y6, Y7, Y8, Y9, YA, YB, YC, YD, YE, YF, YG, YH, YI, YJ, YK, YL, YM, YN, YO, YP, YQ, YR, YS, YT, YU, YV, YW, YX, YY, YZ, Ya, Yb, Yc, Yd, Ye, Yf, Yg, Yh, Yi, Yj, Yk, Yl, Ym, Yn, Yo, Yp, Yq, Yr, Ys, Yt, Yu, Yv, Yw, Yx, Yy, Yz, X0, X1, X2, X3, X4, X5, X6, X7, X8, X9, XA, XB, XC, XD, XE, XF, XG, XH, XI, XJ, XK, XL, XM, XN, XO, XP, XQ, XR, XS, XT, XU, XV, XW, XX, XY, XZ, Xa, Xb, Xc, Xd, Xe, Xf, Xg, Xh, Xi, Xj, Xk, Xl, Xm, Xn, Xo, Xp, Xq, Xr, Xs, Xt, Xu, Xv, Xw, Xx, Xy, Xz, K0, K1, K2, K3, K4, K5, K6, K7, K8, K9, KA, KB, KC, KD, KE, KF, KG, KH, KI, KJ, KK, KL, KM, KN, KO, KP, KQ, KR, KS, KT, KU, KV, KW, KX, KY, KZ, Ka, Kb, Kc, Kd, Ke, Kf, Kg, Kh, Ki, Kj, Kk, Kl, Km, Kn, Ko, Kp, Kq, Kr, Ks, Kt, Ku, Kv, Kw, Kx, Ky, Kz, J0, J1, J2, J3, J4, J5, J6, J7, J8, J9, JA, JB, JC, JD, JE, JF, JG, JH, JI, JJ, JK, JL, JM, JN, JO, JP, JQ, JR, JS, JT, JU, JV, JW, JX, JY, JZ, Ja], []⟩ W := by
  dsimp only
  conv => arg 2; whnf
  go_upto_region 38 with (fail)
  go_loopg [22, 23] m (fun gg Z0 Js wr => ∃ i : Nat, i + gg = m ∧ Js = .int .i64 (i : Int) ∧ FTr W ss L i Z0 wr)
  case atStart => exact ⟨0, by omega, rfl, Own.nil_, Below.refl _ _⟩
  case round =>
    obtain ⟨i, hi, rfl, hos, hb⟩ := hrel
    have HF := Lib.hid (And.intro hi (And.intro hos hb))
    have hbz := hb.size
    clear hos hb
    by_cases hlt : i < m
    · have hlt' : (i : Int) < (m : Int) := by omega
      have hi0 : (0 : Int) ≤ (i : Int) := by omega
      obtain ⟨bR, oR, z, hAR, -, hz, cz⟩ := Ints.get (HS.out.2.1.below HF.out.2.2 (Nat.le_refl _)) hlt
      obtain ⟨hz0, hz1⟩ := HS.out.2.2 z (List.mem_of_getElem? hz)
      obtain ⟨zn, rfl⟩ := Int.eq_ofNat_of_zero_le hz0
      have hzm : zn < m := by omega
      obtain ⟨b8, o8, s, hA8, -, hs, s0, s1, s2, s3, s4⟩ := Sights.get (HS.out.1.below HF.out.2.2 (Nat.le_refl _)) hzm
      have HZ := Lib.hid (And.intro hz hs)
      subst hAR
      subst hA8
      have hcl := cell_lt cz
      have hsl := cell_lt s0
      have hlen : ((L.take i).map fun i : Int => ss.getD i.toNat ⟨0, false, false, 0, 0⟩).length < 4294967296 := by simp; omega
      obtain ⟨M, hM⟩ : ∃ M, M = ((L.take i).map fun i : Int => ss.getD i.toNat ⟨0, false, false, 0, 0⟩) := ⟨_, rfl⟩
      rw [← hM] at hlen
      have HM := Lib.hid hM
      have hos := HF.out.2.1
      rw [← hM] at hos
      have HO := Lib.hid hos
      clear hz hs hM hos
      go_wp2_with (first
        | (at_builtin; refine wp_appL okSight rfl _ _ rfl W.heap.size u22 M s #[.int .i64 s.n, .bool s.l, .bool s.r, .int .i64 s.b, .int .i64 s.p] wr.heap.size rfl rfl (alloc_at rfl) rfl rfl (one_eSg _) (HO.out.alloc _) hlen (by decide) (by simp; omega) ?_; intro g7 c7 w7 ho7 hgr7 hl7; have HY := Lib.hid (And.intro ho7 hgr7); clear ho7 hgr7 hl7)
        | fail)
      go_roundg (gk - 1)
      case measure => omega
      case rel =>
        refine ⟨i + 1, by have := HF.out.1; omega, by go_num, ?_, ?_⟩
        · have h := HY.out.1
          have e : ((L.take (i + 1)).map fun i : Int => ss.getD i.toNat ⟨0, false, false, 0, 0⟩) = M ++ [s] := by
            rw [HM.out, List.take_add_one, HZ.out.1, List.map_append]
            congr 1
            show [ss.getD (zn : Int).toNat _] = [s]
            rw [Int.toNat_natCast, List.getD_eq_getElem?_getD, HZ.out.2]; rfl
          rw [show M.length + 1 = (M ++ [s]).length by simp] at h
          show OwnS w7 W.heap.size _ ((L.take (i + 1)).map fun i : Int => ss.getD i.toNat ⟨0, false, false, 0, 0⟩)
          rw [e]
          simpa using h
        · have hal := HF.out.2.2.trans ((bal0 wr (.cells #[.int .i64 s.n, .bool s.l, .bool s.r, .int .i64 s.b, .int .i64 s.p] 52)).mono hbz)
          exact hal.grown HY.out.2 (by simp; omega) (fun k e => (HO.out.lt k e).1)
    · obtain rfl : i = m := by omega
      have hnl : ¬ (i : Int) < (i : Int) := by omega
      go_wp2_with fail
      exact HQ _ _ _ _ _ _ _ _ _ _ _ _ _ _ _ _ _ _ HF.out.2
end Go.Proofs.Ytgnjknihgjdedaa
namespace Go.Proofs.Ytgnjknihgjdedaa
open Go.RowKit
set_option linter.unusedVariables false
set_option linter.unusedSimpArgs false
set_option maxRecDepth 1000000
noncomputable def lpF5 : Code := ((Try.f3.body.bind (findBlk 8)).getD .skip)
def RgFQL5 (W : World) (nS cS m cH : Nat) (AS AH : Option Addr) (v0 v1 v2 v3 v4 v5 v6 v7 v8 v9 Z1 Z2 Z3 Z4 Z5 Jt Z7 Z8 Z9 ZA Ju Z0 Js ZC ZD ZE ZF ZH ZI ZJ ZK ZL ZM ZN ZO ZP ZQ ZR ZS ZT ZU ZV ZW ZX ZY ZZ Za Zb Zc Zd Ze Zf Zg Zh Zi Zj Zk Zl Zm Zn Zo Zp Zq Zr Zs Zt Zu Zv Zw Zx Zy Zz Y0 Y1 Y2 Y3 Y4 Y5 Y6 Y7 Y8 Y9 YA YB YC YD YE YF YG YH YI YJ YK YL YM YN YO YP YQ YR YS YT YU YV YW YX YY YZ Ya Yb Yc Yd Ye Yf Yg Yh Yi Yj Yk Yl Ym Yn Yo Yp Yq Yr Ys Yt Yu Yv Yw Yx Yy Yz X0 X1 X2 X3 X4 X5 X6 X7 X8 X9 XA XB XC XD XE XF XG XH XI XJ XK XL XM XN XO XP XQ XR XS XT XU XV XW XX XY XZ Xa Xb Xc Xd Xe Xf Xg Xh Xi Xj Xk Xl Xm Xn Xo Xp Xq Xr Xs Xt Xu Xv Xw Xx Xy Xz K0 K1 K2 K3 K4 K5 K6 K7 K8 K9 KA KB KC KD KE KF KG KH KI KJ KK KL KM KN KO KP KQ KR KS KT KU KV KW KX KY KZ Ka Kb Kc Kd Ke Kf Kg Kh Ki Kj Kk Kl Km Kn Ko Kp Kq Kr Ks Kt Ku Kv Kw Kx Ky Kz J0 J1 J2 J3 J4 J5 J6 J7 J8 J9 JA JB JC JD JE JF JG JH JI JJ JK JL JM JN JO JP JQ JR JS JT JU JV JW JX JY JZ Ja : Value) (Q : Exit → Act → World → Prop) : Prop := ∀ (x2 Jv Jw Jx Jy Jz G0 G1 G2 G3 G4 G5 G6 G7 G8 G9 GA GB GC GD GE GF GG GH GI GJ GK GL GM : Value), Q .normal ⟨#[v0, v1, x2, v3, v4, v5, v6, v7, v8, v9, Z1, Z2, Z3, Z4, Z5, (Value.slice AS nS cS), Jt, Z7, Z8, Z9, ZA, Ju, Z0, Js, (Value.slice AH m cH), ZC, ZD, ZE, ZF, (Value.int .i64 (nS : Int)), Jv, Jw, ZJ, ZK, ZL, ZM, ZN, ZO, ZP, ZQ, ZR, ZS, ZT, ZU, ZV, ZW, ZX, ZY, ZZ, Za, Zb, Zc, Zd, Ze, Zf, Zg, Zh, Zi, Zj, Zk, Zl, Zm, Zn, Zo, Zp, Zq, Zr, Zs, Zt, Zu, Zv, Zw, Zx, Zy, Zz, Y0, Y1, Y2, Y3, Y4, Y5, Y6, Y7, Y8, Y9, YA, YB, YC, YD, YE, YF, YG, YH, YI, YJ, YK, YL, YM, YN, YO, YP, YQ, YR, YS, YT, YU, YV, YW, YX, YY, YZ, Ya, Yb, Yc, Yd, Ye, Yf, Yg, Yh, Yi, Yj, Yk, Yl, Ym, Yn, Yo, Yp, Yq, Yr, Ys, Yt, Yu, Yv, Yw, Yx, Yy, Yz, X0, X1, X2, X3, X4, X5, X6, X7, X8, X9, XA, XB, XC, XD, XE, XF, XG, XH, XI, XJ, XK, XL, XM, XN, XO, XP, XQ, XR, XS, XT, XU, XV, XW, XX, XY, XZ, Xa, Xb, Xc, Xd, Xe, Xf, Xg, Xh, Xi, Xj, Xk, Xl, Xm, Xn, Xo, Xp, Xq, Xr, Xs, Xt, Xu, Xv, Xw, Xx, Xy, Xz, K0, K1, K2, K3, K4, K5, K6, K7, K8, K9, KA, KB, KC, KD, KE, KF, KG, KH, KI, KJ, KK, KL, KM, KN, KO, KP, Jx, Jy, Jz, G0, G1, G2, G3, G4, G5, G6, G7, G8, G9, GA, GB, GC, GD, GE, GF, GG, GH, GI, GJ, GK, GL, GM, Kq, Kr, Ks, Kt, Ku, Kv, Kw, Kx, Ky, Kz, J0, J1, J2, J3, J4, J5, J6, J7, J8, J9, JA, JB, JC, JD, JE, JF, JG, JH, JI, JJ, JK, JL, JM, JN, JO, JP, JQ, JR, JS, JT, JU, JV, JW, JX, JY, JZ, Ja], []⟩ W
theorem cntI_takeF {l : List Int} {i : Nat} {y o : Int} (h : l[i]? = some y) : (cntI (l.take (i + 1)) o : Int) = cntI (l.take i) o + if y = o then 1 else 0 := by
  rw [List.take_add_one, h]
  show (cntI (l.take i ++ [y]) o : Int) = _
  rw [cntI_snoc]
  split <;> rfl
set_option maxHeartbeats 8000000 in
theorem fold_own (W : World) (AS : Option Addr) (nS cS : Nat) (S : List Int) (AH : Option Addr) (m cH : Nat) (hl : List Int) (v0 v1 v2 v3 v4 v5 v6 v7 v8 v9 Z1 Z2 Z3 Z4 Z5 Jt Z7 Z8 Z9 ZA Ju Z0 Js ZC ZD ZE ZF ZH ZI ZJ ZK ZL ZM ZN ZO ZP ZQ ZR ZS ZT ZU ZV ZW ZX ZY ZZ Za Zb Zc Zd Ze Zf Zg Zh Zi Zj Zk Zl Zm Zn Zo Zp Zq Zr Zs Zt Zu Zv Zw Zx Zy Zz Y0 Y1 Y2 Y3 Y4 Y5 Y6 Y7 Y8 Y9 YA YB YC YD YE YF YG YH YI YJ YK YL YM YN YO YP YQ YR YS YT YU YV YW YX YY YZ Ya Yb Yc Yd Ye Yf Yg Yh Yi Yj Yk Yl Ym Yn Yo Yp Yq Yr Ys Yt Yu Yv Yw Yx Yy Yz X0 X1 X2 X3 X4 X5 X6 X7 X8 X9 XA XB XC XD XE XF XG XH XI XJ XK XL XM XN XO XP XQ XR XS XT XU XV XW XX XY XZ Xa Xb Xc Xd Xe Xf Xg Xh Xi Xj Xk Xl Xm Xn Xo Xp Xq Xr Xs Xt Xu Xv Xw Xx Xy Xz K0 K1 K2 K3 K4 K5 K6 K7 K8 K9 KA KB KC KD KE KF KG KH KI KJ KK KL KM KN KO KP KQ KR KS KT KU KV KW KX KY KZ Ka Kb Kc Kd Ke Kf Kg Kh Ki Kj Kk Kl Km Kn Ko Kp Kq Kr Ks Kt Ku Kv Kw Kx Ky Kz J0 J1 J2 J3 J4 J5 J6 J7 J8 J9 JA JB JC JD JE JF JG JH JI JJ JK JL JM JN JO JP JQ JR JS JT JU JV JW JX JY JZ Ja : Value) (Q : Exit → Act → World → Prop)
    (HS : Hid (Ints W AS nS S ∧ Ints W AH m hl ∧ ∀ o : Nat, o < nS → (cntI hl (o : Int) : Int) = S.getD o 0)) (hm : m ≤ 100) (hnS : nS ≤ 100)
    (HQ : RgFQL5 W nS cS m cH AS AH v0 v1 v2 v3 v4 v5 v6 v7 v8 v9 Z1 Z2 Z3 Z4 Z5 Jt Z7 Z8 Z9 ZA Ju Z0 Js ZC ZD ZE ZF ZH ZI ZJ ZK ZL ZM ZN ZO ZP ZQ ZR ZS ZT ZU ZV ZW ZX ZY ZZ Za Zb Zc Zd Ze Zf Zg Zh Zi Zj Zk Zl Zm Zn Zo Zp Zq Zr Zs Zt Zu Zv Zw Zx Zy Zz Y0 Y1 Y2 Y3 Y4 Y5 Y6 Y7 Y8 Y9 YA YB YC YD YE YF YG YH YI YJ YK YL YM YN YO YP YQ YR YS YT YU YV YW YX YY YZ Ya Yb Yc Yd Ye Yf Yg Yh Yi Yj Yk Yl Ym Yn Yo Yp Yq Yr Ys Yt Yu Yv Yw Yx Yy Yz X0 X1 X2 X3 X4 X5 X6 X7 X8 X9 XA XB XC XD XE XF XG XH XI XJ XK XL XM XN XO XP XQ XR XS XT XU XV XW XX XY XZ Xa Xb Xc Xd Xe Xf Xg Xh Xi Xj Xk Xl Xm Xn Xo Xp Xq Xr Xs Xt Xu Xv Xw Xx Xy Xz K0 K1 K2 K3 K4 K5 K6 K7 K8 K9 KA KB KC KD KE KF KG KH KI KJ KK KL KM KN KO KP KQ KR KS KT KU KV KW KX KY KZ Ka Kb Kc Kd Ke Kf Kg Kh Ki Kj Kk Kl Km Kn Ko Kp Kq Kr Ks Kt Ku Kv Kw Kx Ky Kz J0 J1 J2 J3 J4 J5 J6 J7 J8 J9 JA JB JC JD JE JF JG JH JI JJ JK JL JM JN JO JP JQ JR JS JT JU JV JW JX JY JZ Ja Q) :
    Code.wp Try.prog lpF5 Q ⟨#[v0, v1, v2, v3, v4, v5, v6, v7, v8, v9, Z1, Z2, Z3, Z4, Z5, (Value.slice AS nS cS), Jt, Z7, Z8, Z9, ZA, Ju, Z0, Js, (Value.slice AH m cH), ZC, ZD, ZE, ZF, (Value.int .i64 0), ZH, ZI, ZJ, ZK, ZL, ZM, ZN, ZO, ZP, ZQ, ZR, ZS, ZT, ZU, ZV, ZW, ZX, ZY, ZZ, Za, Zb, Zc, Zd, Ze, Zf, Zg, Zh, Zi, Zj, Zk, Zl, Zm, Zn, Zo, Zp, Zq, Zr, Zs, Zt, Zu, Zv, Zw, Zx, Zy, Zz, Y0, Y1, Y2, Y3, Y4, Y5, Y6, Y7, Y8, Y9, YA, YB, YC, YD, YE, YF, YG, YH, YI, YJ, YK, YL, YM, YN, YO, YP, YQ, YR, YS, YT, YU, YV, YW, YX, YY, YZ, Ya, Yb, Yc, Yd, Ye, Yf, Yg, Yh, Yi, Yj, Yk, Yl, Ym, Yn, Yo, Yp, Yq, Yr, Ys, Yt, Yu, Yv, Yw, Yx, Yy, Yz, X0, X1, X2, X3, X4, X5, X6, X7, X8, X9, XA, XB, XC, XD, XE, XF, XG, XH, XI, XJ, XK, XL, XM, XN, XO, XP, XQ, XR, XS, XT, XU, XV, XW, XX, XY, XZ, Xa, Xb, Xc, Xd, Xe, Xf, Xg, Xh, Xi, Xj, Xk, Xl, Xm, Xn, Xo, Xp, Xq, Xr, Xs, Xt, Xu, Xv, Xw, Xx, Xy, Xz, K0, K1, K2, K3, K4, K5, K6, K7, K8, K9, KA, KB, KC, KD, KE, KF, KG, KH, KI, KJ, KK, KL, KM, KN, KO, KP, KQ, KR, KS, KT, KU, KV, KW, KX, KY, KZ, Ka, Kb, Kc, Kd, Ke, Kf, Kg, Kh, Ki, Kj, Kk, Kl, Km, Kn, Ko, Kp, Kq, Kr, Ks, Kt, Ku, Kv, Kw, Kx, Ky, Kz, J0, J1, J2, J3, J4, J5, J6, J7, J8, J9, JA, JB, JC, JD, JE, JF, JG, JH, JI, JJ, JK, JL, JM, JN, JO, JP, JQ, JR, JS, JT, JU, JV, JW, JX, JY, JZ, Ja], []⟩ W := by
  dsimp only
  conv => arg 2; whnf
  go_upto_region 47 with (fail)
  go_loopg [29] nS (fun gg ZG wr => ∃ o : Nat, o + gg = nS ∧ ZG = .int .i64 (o : Int) ∧ wr = W)
  case atStart => exact ⟨0, by omega, rfl, rfl⟩
  case round =>
    obtain ⟨o, ho, rfl, hw⟩ := hrel
    rw [hw]
    clear hw
    by_cases hlt : o < nS
    · have hlt' : (o : Int) < (nS : Int) := by omega
      have ho0 : (0 : Int) ≤ (o : Int) := by omega
      obtain ⟨bS, oS, y, hAS, -, hy, cy⟩ := Ints.get HS.out.1 hlt
      have hcn := HS.out.2.2 o hlt
      have hml := HS.out.2.1.len
      rw [List.getD_eq_getElem?_getD, hy] at hcn
      simp only [Option.getD_some] at hcn
      have HC := Lib.hid (And.intro hcn hml)
      obtain ⟨go, hgo⟩ : ∃ go, go = gk := ⟨_, rfl⟩
      have HO := Lib.hid (show o + go = nS by omega)
      subst hAS
      clear hcn hml hy hgo
      have hbl := cell_lt cy
      go_wp2_with fail
      go_loopg [30, 31] m (fun gg ZH ZI wq => ∃ i : Nat, i + gg = m ∧ ZI = .int .i64 (i : Int) ∧ ZH = .int .i64 (cntI (hl.take i) (o : Int) : Nat) ∧ wq = W)
      case atStart => exact ⟨0, by omega, rfl, by simp [cntI], rfl⟩
      case round =>
        obtain ⟨i, hi, rfl, h30, hw⟩ := hrel
        rw [hw]
        rw [h30]
        clear hw h30
        by_cases hil : i < m
        · have hil' : (i : Int) < (m : Int) := by omega
          have hi0 : (0 : Int) ≤ (i : Int) := by omega
          obtain ⟨bH, oH, z, hAH, -, hz, cz⟩ := Ints.get HS.out.2.1 hil
          have hct := cntI_takeF (o := (o : Int)) hz
          have hcl := cntI_le (hl.take i) (o : Int)
          have hcl2 : (hl.take i).length ≤ 100 := by simp; omega
          obtain ⟨q, hq⟩ : ∃ q, q = cntI (hl.take i) (o : Int) := ⟨_, rfl⟩
          rw [← hq] at hct hcl ⊢
          have HT := Lib.hid hct
          subst hAH
          have hqb : q ≤ 100 := by omega
          have hbh := cell_lt cz
          clear hct hz hq hcl hcl2
          by_cases heq : z = (o : Int)
          · have hb : (z == (o : Int)) = true := beq_iff_eq.2 heq
            have HE := Lib.hid heq
            clear heq
            go_wp2_with fail
            go_roundg (gk - 1)
            case measure => omega
            case rel =>
              refine ⟨i + 1, by omega, by go_num, ?_, rfl⟩
              have := HT.out
              rw [if_pos HE.out] at this
              rw [this]
          · have hb : (z == (o : Int)) = false := beq_eq_false_iff_ne.2 heq
            have HE := Lib.hid heq
            clear heq
            go_wp2_with fail
            go_roundg (gk - 1)
            case measure => omega
            case rel =>
              refine ⟨i + 1, by omega, by go_num, ?_, rfl⟩
              have := HT.out
              rw [if_neg HE.out] at this
              rw [this]
              simp
        · obtain rfl : i = m := by omega
          have hnl : ¬ (i : Int) < (i : Int) := by omega
          have hcy : ((cntI (hl.take i) (o : Int) : Int)) = y := by
            rw [List.take_of_length_le (by have := HC.out.2; omega)]; exact HC.out.1
          have hne : (((cntI (hl.take i) (o : Int) : Nat) : Int) != y) = false := by rw [hcy]; simp
          rw [hcy] at *
          go_wp2_with fail
          go_roundg (go - 1)
          case measure => have := HO.out; omega
          case rel => exact ⟨o + 1, by have := HO.out; omega, by go_num, rfl⟩
    · obtain rfl : o = nS := by omega
      have hnl : ¬ (o : Int) < (o : Int) := by omega
      go_wp2_with fail
      exact HQ _ _ _ _ _ _ _ _ _ _ _ _ _ _ _ _ _ _ _ _ _ _ _ _ _ _ _ _ _
end Go.Proofs.Ytgnjknihgjdedaa
namespace Go.Proofs.Ytgnjknihgjdedaa
open Go.RowKit
set_option linter.unusedVariables false
set_option linter.unusedSimpArgs false

theorem wp_apps0 {α : Type} {enc : α → List Value} {P : Program} {t e : TypeId} {sz bytes : Nat} (E : ElemOk P t e sz bytes) {ops : Array Oper} {rest : List Oper} {o : Oper} {a : Act} {Q : Exit → Act → World → Prop} {w : World}
    (hgd : o.guard = none) (s x : Operand) (ho : o.op = .call { callee := .builtin .append, args := #[s, x], argTypes := #[t, t] })
    (base q : Nat) (A : Option Addr) (m c : Nat) (l2 : List α) (hs : a.eval s = .slice (some ⟨q, 0, none⟩) 0 0) (hq : w.heap[q]? = some (.cells #[] e (0, 0))) (hx : a.eval x = .slice A m c) (hl2 : Sl enc sz w A m l2) (hz : A = none → c = 0)
    (hlen : ∀ x, (enc x).length = sz) (h1 : ∀ x, ∀ u ∈ enc x, u.oneCell' = true) (hll : m < 4294967296) (hby : bytes ≤ 4096) (hbase : base ≤ q)
    (h : ∀ v' w', Own enc e sz w' base v' l2 → Below w.heap.size w w' → wpList P ops Q rest (a.put o.dst v') w') :
    wpList P ops Q (o :: rest) a w := by
  obtain ⟨i, z, hi, hzz, hsize, hbytes, hzs⟩ := E.info
  have hql := heap_lt hq
  have hown0 : Own enc e sz w base (.slice (some ⟨q, 0, none⟩) 0 0) ([] : List α) := ⟨by simp, .inr ⟨q, 0, #[], rfl, hbase, hq, Nat.le_refl _, by simp [maxLen], by simp, by simp⟩⟩
  cases A with
  | none =>
    have hc := hz rfl
    subst hc
    have hm : m = 0 := by
      rcases Nat.eq_zero_or_pos m with h0 | h0
      · exact h0
      · obtain ⟨b, off, hA, _⟩ := hl2.2 h0; cases hA
    subst hm
    have hl0 : l2 = [] := List.eq_nil_of_length_eq_zero hl2.1
    subst hl0
    refine wpList_append_own_none hgd s x t ho base e i sz E.sl hi (.slice (some ⟨q, 0, none⟩) 0 0) 0 [] hs hown0 hx ?_
    exact h _ w hown0 (Below.refl _ _)
  | some ad =>
    have hnews : ∀ j u, (l2.flatMap enc)[j]? = some u → w.cell? (ad.add j) = some u := by
      intro j u hu
      obtain ⟨y, hy, hu2⟩ := flat_at E.pos hlen l2 j u hu
      have hlt := (List.getElem?_eq_some_iff.1 hy).1
      obtain ⟨b, off, hA, hc⟩ := hl2.2 (hl2.1 ▸ Nat.lt_of_le_of_lt (Nat.zero_le _) hlt)
      cases hA
      have := hc _ y hy _ u hu2
      rw [Addr.add_lit]
      have e1 : off + j / sz * sz + j % sz = off + j := by rw [Nat.add_assoc, Nat.div_add_mod']
      rw [e1] at this
      exact this
    have h1' : ∀ u ∈ l2.flatMap enc, u.oneCell' = true := by
      intro u hu
      obtain ⟨y, hy, hu2⟩ := List.mem_flatMap.1 hu
      exact h1 y u hu2
    have hll2 : (l2.flatMap enc).length = m * sz := by rw [flat_len hlen, hl2.1]
    subst hsize
    subst hbytes
    rcases Nat.eq_zero_or_pos m with hm | hm
    · subst hm
      have hl0 : l2 = [] := List.eq_nil_of_length_eq_zero hl2.1
      subst hl0
      refine wpList_plain hgd fun _ hK => ?_
      have hr := run_append_room (P := P) w t o.type e i E.sl hi q 0 0 #[] hq ad 0 c [] (by simp) (by simp) (by simp) (Nat.le_refl _) (by simp)
      unfold Oper.wp execOp
      simp only [ho, resolve, invoke, builtin, Sem.run_bind, Sem.run_pure, Result.andThen_ok, List.map_toArray, List.map_cons, List.map_nil, hs, hx, hr]
      refine hK _ _ (h _ _ ?_ ?_)
      · exact ⟨by simp, .inr ⟨q, 0, #[], rfl, hbase, (setRow_heap w q #[] _ e _ hq).trans (by simp), Nat.le_refl _, by simp [maxLen], by simp, by simp⟩⟩
      · refine ⟨rfl, rfl, rfl, by simp, fun j hj => ?_⟩
        by_cases hjq : j = q
        · subst hjq; rw [hq]; exact (setRow_heap w j #[] _ e _ hq).trans (by simp)
        · exact setRow_other w q j _ hjq
    · refine wpList_plain hgd fun _ hK => ?_
      have hr := run_append_grow (P := P) w t o.type e i z E.sl hi hzz ⟨q, 0, none⟩ 0 0 [] (by simp) (by simp) ad m c (l2.flatMap enc) hll2 hnews (by omega) (by omega) (growslice_fits (by omega) (by
        calc (0 + m) * i.bytes ≤ 4294967296 * 4096 := Nat.mul_le_mul (by omega) hby
          _ ≤ 140737488355328 := by omega))
      simp only [Nat.zero_add] at hr
      unfold Oper.wp execOp
      simp only [ho, resolve, invoke, builtin, Sem.run_bind, Sem.run_pure, Result.andThen_ok, List.map_toArray, List.map_cons, List.map_nil, hs, hx, hr]
      have hge := grownCap_ge w m 0 e
      have hcm : grownCap w m 0 e ≤ maxLen := grownCap_le_maxLen w m 0 e (by unfold maxLen; omega)
      refine hK _ _ (h _ _ ?_ ?_)
      · refine ⟨hll2.trans (by rw [hl2.1]), .inr ⟨w.heap.size, _, _, by rw [hl2.1], by omega, heap_alloc_new w.drew _, by rw [hl2.1]; omega, hcm, ?_, ?_⟩⟩
        · simp only [Array.size_append, List.size_toArray, size_zeroCells, hzs, hll2, List.length_nil, Nat.zero_add, Nat.zero_mul, ← Nat.add_mul]
          congr 1
          omega
        · simp only [Array.toList_append, List.nil_append, hl2.1, ← hll2]
          exact List.take_left
      · refine ⟨rfl, rfl, rfl, by simp, fun j hj => heap_alloc_old w.drew _ hj⟩
end Go.Proofs.Ytgnjknihgjdedaa
namespace Go.Proofs.Ytgnjknihgjdedaa
open Go.RowKit
set_option linter.unusedVariables false
set_option linter.unusedSimpArgs false
set_option maxRecDepth 1000000
def FE0T (B : Nat) : VF := fun v w => ∃ q, v = .slice (some ⟨q, 0, none⟩) 0 0 ∧ B ≤ q ∧ w.heap[q]? = some (.cells #[] 52 (0, 0))
theorem FE0T.st {B H : Nat} (hH : H < B) (j : Nat) (v : Value) (w w' : World) (hT : TPf H j w w') (h : FE0T B v w) : FE0T B v w' := by
  obtain ⟨q, h1, h2, h3⟩ := h
  exact ⟨q, h1, h2, (hT.gr.block q (heap_lt h3) (fun e => by injection e with e; omega)).trans h3⟩
def FOT (B : Nat) (ss : List Sg) : VF := fun v w => OwnS w B v ss
theorem FOT.st {B H : Nat} {ss : List Sg} (hH : H < B) (j : Nat) (v : Value) (w w' : World) (hT : TPf H j w w') (h : FOT B ss v w) : FOT B ss v w' := Own.kept (show OwnS w B v ss from h) hT.gr (.inr (Own.nb (show OwnS w B v ss from h) hH))
def FSg (H N : Nat) : VF := fun v w => ∃ s : Sg, v = vSg s ∧ seen s 9 6 = 0 ∧ Hd w H N
theorem FSg.st {H N : Nat} (j : Nat) (v : Value) (w w' : World) (hc : j ≠ 1 ∨ 1 = 0) (hT : TPf H j w w') (h : FSg H N v w) : FSg H N v w' := by
  obtain ⟨s, h1, h2, h3⟩ := h
  refine ⟨s, h1, h2, ?_⟩
  have hj : j ≠ 1 := by omega
  unfold TPf at hT
  split at hT
  · exact absurd rfl hj
  · exact h3.below hT h3.lt
noncomputable def rgF57 : Code := ((Try.f3.body.bind (findRgn 57)).getD .skip)
def RgFQ57 (W : World) (H x N m2 c2 : Nat) (A2 : Option Addr) (ss : List Sg) (v0 v1 v2 v4 v5 v6 v7 v8 v9 Z1 Z2 Z4 Z5 Z6 Jt Z7 Z8 Z9 ZA Ju Js ZB ZC ZD ZE ZF ZG ZH ZI ZJ ZK ZL ZM ZN ZO ZP ZQ ZR ZS ZT ZU ZV ZW ZX ZY ZZ Za Zb Zc Zd Ze Zf Zg Zh Zi Zj Zk Zl Zm Zn Zo Zp Zq Zr Zs Zt Zu Zv Zw Zx Zy Zz Y0 Y1 Y2 Y3 Y4 Y5 Y6 Y7 Y8 Y9 YA YB YC YD YE YF YG YH YI YJ YK YL YM YN YO YP YQ YR YS YT YU YV YW YX YY YZ Ya Yb Yc Yd Ye Yf Yg Yh Yi Yj Yk Yl Ym Yn Yo Yp Yq Yr Ys Yt Yu Yv Yw Yx Yy Yz X0 X1 X2 X3 X4 X5 X6 X7 X8 X9 XA XB XC XD XE XF XG XH XI XJ XK XL XM XN XO XP XQ XR XS XT XU XV XW XX XY XZ Xa Xb Xc Xd Xe Xf Xg Xh Xi Xj Xk Xl Xm Xn Xo Xp Xq Xr Xs Xt Xu Xv Xw Xx Xy Xz K0 K1 K2 K3 K4 K5 K6 K7 K8 K9 KA KB KC KD KE KF KG KH KI KJ KK KL KM KN KO KP KQ KR KS KT KU KV KW KX KY KZ Ka Kb Kc Kd Ke Kf Kg Kh Ki Kj Kk Kl Km Kn Ko Kp Kq Kr Ks Kt Ku Kv Kw Kx Ky Kz J0 J1 J2 J3 J4 J5 J6 J7 J8 J9 JA JB JC JD JE JF JG JH JI JJ JK JL JM JN JO JP JQ JR JS JT JU JV JW JX JY JZ Ja : Value) (Q : Exit → Act → World → Prop) : Prop := ∀ (GN GO GP GQ GR GS GT GU : Value) (g c : Nat) (s : Sg) (w' : World), seen s 9 6 = 0 → OwnS w' W.heap.size (.slice (some ⟨g, 0, none⟩) (m2 + 1) c) (ss ++ [s]) → Dealt W w' H (N + 250) → Q .normal ⟨#[v0, v1, v2, (Value.pointer (some ⟨H, 0, none⟩)), v4, v5, v6, v7, v8, v9, Z1, Z2, (Value.pointer (some ⟨x, 0, none⟩)), Z4, Z5, Z6, Jt, Z7, Z8, Z9, ZA, Ju, (Value.slice A2 m2 c2), Js, ZB, ZC, ZD, ZE, ZF, ZG, ZH, ZI, (Value.slice (some ⟨g, 0, none⟩) (m2 + 1) c), ZK, ZL, ZM, ZN, ZO, ZP, ZQ, ZR, ZS, ZT, ZU, ZV, ZW, ZX, ZY, ZZ, Za, Zb, Zc, Zd, Ze, Zf, Zg, Zh, Zi, Zj, Zk, Zl, Zm, Zn, Zo, Zp, Zq, Zr, Zs, Zt, Zu, Zv, Zw, Zx, Zy, Zz, Y0, Y1, Y2, Y3, Y4, Y5, Y6, Y7, Y8, Y9, YA, YB, YC, YD, YE, YF, YG, YH, YI, YJ, YK, YL, YM, YN, YO, YP, YQ, YR, YS, YT, YU, YV, YW, YX, YY, YZ, Ya, Yb, Yc, Yd, Ye, Yf, Yg, Yh, Yi, Yj, Yk, Yl, Ym, Yn, Yo, Yp, Yq, Yr, Ys, Yt, Yu, Yv, Yw, Yx, Yy, Yz, X0, X1, X2, X3, X4, X5, X6, X7, X8, X9, XA, XB, XC, XD, XE, XF, XG, XH, XI, XJ, XK, XL, XM, XN, XO, XP, XQ, XR, XS, XT, XU, XV, XW, XX, XY, XZ, Xa, Xb, Xc, Xd, Xe, Xf, Xg, Xh, Xi, Xj, Xk, Xl, Xm, Xn, Xo, Xp, Xq, Xr, Xs, Xt, Xu, Xv, Xw, Xx, Xy, Xz, K0, K1, K2, K3, K4, K5, K6, K7, K8, K9, KA, KB, KC, KD, KE, KF, KG, KH, KI, KJ, KK, KL, KM, KN, KO, KP, KQ, KR, KS, KT, KU, KV, KW, KX, KY, KZ, Ka, Kb, Kc, Kd, Ke, Kf, Kg, Kh, Ki, Kj, Kk, Kl, Km, Kn, Ko, Kp, GN, GO, GP, GQ, GR, GS, GT, GU, Ky, Kz, J0, J1, J2, J3, J4, J5, J6, J7, J8, J9, JA, JB, JC, JD, JE, JF, JG, JH, JI, JJ, JK, JL, JM, JN, JO, JP, JQ, JR, JS, JT, JU, JV, JW, JX, JY, JZ, Ja], []⟩ w'
set_option maxHeartbeats 8000000 in
theorem fold_more (W : World) (H x N tn : Nat) (A1 : Option Addr) (n1 c1 : Nat) (l : List Mk) (A2 : Option Addr) (m2 c2 : Nat) (ss : List Sg) (v0 v1 v2 v4 v5 v6 v7 v8 v9 Z1 Z2 Z4 Z5 Z6 Jt Z7 Z8 Z9 ZA Ju Js ZB ZC ZD ZE ZF ZG ZH ZI ZJ ZK ZL ZM ZN ZO ZP ZQ ZR ZS ZT ZU ZV ZW ZX ZY ZZ Za Zb Zc Zd Ze Zf Zg Zh Zi Zj Zk Zl Zm Zn Zo Zp Zq Zr Zs Zt Zu Zv Zw Zx Zy Zz Y0 Y1 Y2 Y3 Y4 Y5 Y6 Y7 Y8 Y9 YA YB YC YD YE YF YG YH YI YJ YK YL YM YN YO YP YQ YR YS YT YU YV YW YX YY YZ Ya Yb Yc Yd Ye Yf Yg Yh Yi Yj Yk Yl Ym Yn Yo Yp Yq Yr Ys Yt Yu Yv Yw Yx Yy Yz X0 X1 X2 X3 X4 X5 X6 X7 X8 X9 XA XB XC XD XE XF XG XH XI XJ XK XL XM XN XO XP XQ XR XS XT XU XV XW XX XY XZ Xa Xb Xc Xd Xe Xf Xg Xh Xi Xj Xk Xl Xm Xn Xo Xp Xq Xr Xs Xt Xu Xv Xw Xx Xy Xz K0 K1 K2 K3 K4 K5 K6 K7 K8 K9 KA KB KC KD KE KF KG KH KI KJ KK KL KM KN KO KP KQ KR KS KT KU KV KW KX KY KZ Ka Kb Kc Kd Ke Kf Kg Kh Ki Kj Kk Kl Km Kn Ko Kp Kq Kr Ks Kt Ku Kv Kw Kx Ky Kz J0 J1 J2 J3 J4 J5 J6 J7 J8 J9 JA JB JC JD JE JF JG JH JI JJ JK JL JM JN JO JP JQ JR JS JT JU JV JW JX JY JZ Ja : Value) (Q : Exit → Act → World → Prop)
    (HB : Hid (W.heap[x]? = some (rgO (tn : Int) A1 n1 c1))) (HH : Hid (Hd W H N)) (hN : N ≤ 4611686018000000000) (HM : Hid (Marks W A1 n1 l ∧ check (tn : Int) l = 0)) (hn5 : n1 ≤ 5) (hHx : x ≠ H) (hA : Hid (OffH A1 H))
    (HS : Hid (Sights W A2 m2 ss ∧ (A2 = none → c2 = 0) ∧ OffH A2 H)) (hm : m2 ≤ 100)
    (HQ : RgFQ57 W H x N m2 c2 A2 ss v0 v1 v2 v4 v5 v6 v7 v8 v9 Z1 Z2 Z4 Z5 Z6 Jt Z7 Z8 Z9 ZA Ju Js ZB ZC ZD ZE ZF ZG ZH ZI ZJ ZK ZL ZM ZN ZO ZP ZQ ZR ZS ZT ZU ZV ZW ZX ZY ZZ Za Zb Zc Zd Ze Zf Zg Zh Zi Zj Zk Zl Zm Zn Zo Zp Zq Zr Zs Zt Zu Zv Zw Zx Zy Zz Y0 Y1 Y2 Y3 Y4 Y5 Y6 Y7 Y8 Y9 YA YB YC YD YE YF YG YH YI YJ YK YL YM YN YO YP YQ YR YS YT YU YV YW YX YY YZ Ya Yb Yc Yd Ye Yf Yg Yh Yi Yj Yk Yl Ym Yn Yo Yp Yq Yr Ys Yt Yu Yv Yw Yx Yy Yz X0 X1 X2 X3 X4 X5 X6 X7 X8 X9 XA XB XC XD XE XF XG XH XI XJ XK XL XM XN XO XP XQ XR XS XT XU XV XW XX XY XZ Xa Xb Xc Xd Xe Xf Xg Xh Xi Xj Xk Xl Xm Xn Xo Xp Xq Xr Xs Xt Xu Xv Xw Xx Xy Xz K0 K1 K2 K3 K4 K5 K6 K7 K8 K9 KA KB KC KD KE KF KG KH KI KJ KK KL KM KN KO KP KQ KR KS KT KU KV KW KX KY KZ Ka Kb Kc Kd Ke Kf Kg Kh Ki Kj Kk Kl Km Kn Ko Kp Kq Kr Ks Kt Ku Kv Kw Kx Ky Kz J0 J1 J2 J3 J4 J5 J6 J7 J8 J9 JA JB JC JD JE JF JG JH JI JJ JK JL JM JN JO JP JQ JR JS JT JU JV JW JX JY JZ Ja Q) :
    Code.wp Try.prog rgF57 Q ⟨#[v0, v1, v2, (Value.pointer (some ⟨H, 0, none⟩)), v4, v5, v6, v7, v8, v9, Z1, Z2, (Value.pointer (some ⟨x, 0, none⟩)), Z4, Z5, Z6, Jt, Z7, Z8, Z9, ZA, Ju, (Value.slice A2 m2 c2), Js, ZB, ZC, ZD, ZE, ZF, ZG, ZH, ZI, ZJ, ZK, ZL, ZM, ZN, ZO, ZP, ZQ, ZR, ZS, ZT, ZU, ZV, ZW, ZX, ZY, ZZ, Za, Zb, Zc, Zd, Ze, Zf, Zg, Zh, Zi, Zj, Zk, Zl, Zm, Zn, Zo, Zp, Zq, Zr, Zs, Zt, Zu, Zv, Zw, Zx, Zy, Zz, Y0, Y1, Y2, Y3, Y4, Y5, Y6, Y7, Y8, Y9, YA, YB, YC, YD, YE, YF, YG, YH, YI, YJ, YK, YL, YM, YN, YO, YP, YQ, YR, YS, YT, YU, YV, YW, YX, YY, YZ, Ya, Yb, Yc, Yd, Ye, Yf, Yg, Yh, Yi, Yj, Yk, Yl, Ym, Yn, Yo, Yp, Yq, Yr, Ys, Yt, Yu, Yv, Yw, Yx, Yy, Yz, X0, X1, X2, X3, X4, X5, X6, X7, X8, X9, XA, XB, XC, XD, XE, XF, XG, XH, XI, XJ, XK, XL, XM, XN, XO, XP, XQ, XR, XS, XT, XU, XV, XW, XX, XY, XZ, Xa, Xb, Xc, Xd, Xe, Xf, Xg, Xh, Xi, Xj, Xk, Xl, Xm, Xn, Xo, Xp, Xq, Xr, Xs, Xt, Xu, Xv, Xw, Xx, Xy, Xz, K0, K1, K2, K3, K4, K5, K6, K7, K8, K9, KA, KB, KC, KD, KE, KF, KG, KH, KI, KJ, KK, KL, KM, KN, KO, KP, KQ, KR, KS, KT, KU, KV, KW, KX, KY, KZ, Ka, Kb, Kc, Kd, Ke, Kf, Kg, Kh, Ki, Kj, Kk, Kl, Km, Kn, Ko, Kp, Kq, Kr, Ks, Kt, Ku, Kv, Kw, Kx, Ky, Kz, J0, J1, J2, J3, J4, J5, J6, J7, J8, J9, JA, JB, JC, JD, JE, JF, JG, JH, JI, JJ, JK, JL, JM, JN, JO, JP, JQ, JR, JS, JT, JU, JV, JW, JX, JY, JZ, Ja], []⟩ W := by
  dsimp only
  conv => arg 2; whnf
  have hHW : H < W.heap.size := HH.out.lt
  have hml : ss.length = m2 := HS.out.1.len
  have HC := Lib.hid (fun (w' : World) (hp : PPf W.drew H 0 w') => show _ ∧ _ ∧ x < w'.heap.size from by
    have hg : W.drew.grownBy w' (some H) := hp
    have hb := (hg.block x (heap_lt (show W.drew.heap[x]? = _ from HB.out)) (fun e => by injection e with e; omega)).trans HB.out
    exact ⟨(blk2 hb).1, (blk2 hb).2, heap_lt hb⟩)
  have HML := Lib.hid hml
  clear hml
  refine wp_region_tag 6 0 0 [] [] 0 (TPf H) (PPf W.drew H) [0, 0, 0, 0, 0, 1] (by as_aux_lemma => kernel_rfl) (by as_aux_lemma => kernel_rfl) (by as_aux_lemma => kernel_rfl) (by as_aux_lemma => kernel_rfl) (by omega) (.inl rfl) rfl rfl (fun k i w1 w2 hc _ hT hp => PPf.st k i w1 w2 hc hT hp) (fun k => PPf.start k) ?_
  apply Exists.intro
  refine ⟨fun ys => ?_, fun ops K hK => ?_⟩
  · simp only [List.take_succ_cons, List.take_zero, dstsOf, List.filterMap_cons, List.filterMap_nil, putAll]
    go_simp
    rfl
  simp only [List.take_succ_cons, List.take_zero, List.drop_succ_cons, List.drop_zero] at hK ⊢
  refine LexT.some (FE0T W.heap.size) (fun i v w1 w2 hc _ hT h => FE0T.st hHW i v w1 w2 hT h) (fun ys w' hp hpk hq hd => ?_) ?_
  · try simp [DepsOf, depsGo, DF.holds, Region.binds, EqF] at hd
    try simp only [hd]
    have hpz : W.heap.size ≤ w'.heap.size := (show W.drew.grownBy w' (some H) from hp).size
    have HX := Lib.hid (show TPf H 0 w' (w'.alloc (Obj.cells #[] 52)) ∧ FE0T W.heap.size (.slice (some ⟨w'.heap.size, 0, none⟩) 0 0) (w'.alloc (Obj.cells #[] 52)) from ⟨bal0 _ _, w'.heap.size, rfl, by omega, alloc_at rfl⟩)
    clear hp hpk
    intro Q2 hQ2
    go_wp2_with fail
    exact HX.out
  try simp only [List.nil_append, List.cons_append]
  repeat
    refine LexT.const TPf.rf ?_
    apply Exists.intro
    refine ⟨fun ys w' hp hpk hq hd => ?_, ?_⟩
    · try simp [DepsOf, depsGo, DF.holds, Region.binds, EqF] at hd
      try simp only [hd]
      obtain ⟨x0, x1, hxl⟩ := HC.out w' hp
      intro Q2 hQ2
      go_wp2_with fail
      rfl
    try simp only [List.nil_append, List.cons_append]
  refine LexT.some (FOT W.heap.size ss) (fun i v w1 w2 hc _ hT h => FOT.st hHW i v w1 w2 hT h) (fun ys w' hp hpk hq hd => ?_) ?_
  · try simp [DepsOf, depsGo, DF.holds, Region.binds, EqF] at hd
    try simp only [hd]
    obtain ⟨⟨q, e251, hq1, hq2⟩, e252⟩ := hd
    have hS2 : Sights w' A2 m2 ss := HS.out.1.gb ((gb_drew W (some H)).trans (show W.drew.grownBy w' (some H) from hp)) HS.out.2.2
    simp only [e251, e252]
    have HX0 := Lib.hid (And.intro hq1 (And.intro hq2 hS2))
    clear hp hpk e251 e252 hq1 hq2 hS2
    intro Q2 hQ2
    go_wp2_with (at_builtin; refine wp_apps0 okSight rfl (.tmp 251) (.tmp 252) rfl W.heap.size q A2 m2 c2 ss rfl HX0.out.2.1 rfl HX0.out.2.2 HS.out.2.1 lenSg one_eSg (by omega) (by decide) HX0.out.1 ?_; intro v' w5 hown5 hb5; have HX := Lib.hid (show TPf H 0 w' w5 ∧ FOT W.heap.size ss v' w5 from ⟨hb5, hown5⟩); clear hown5 hb5)
    exact HX.out
  try simp only [List.nil_append, List.cons_append]
  repeat
    refine LexT.const TPf.rf ?_
    apply Exists.intro
    refine ⟨fun ys w' hp hpk hq hd => ?_, ?_⟩
    · try simp [DepsOf, depsGo, DF.holds, Region.binds, EqF] at hd
      try simp only [hd]
      obtain ⟨x0, x1, hxl⟩ := HC.out w' hp
      intro Q2 hQ2
      go_wp2_with fail
      rfl
    try simp only [List.nil_append, List.cons_append]
  refine LexT.some (FSg H (N + 250)) (fun i v w1 w2 hc _ hT h => FSg.st i v w1 w2 hc hT h) (fun ys w' hp hpk hq hd => ?_) ?_
  · try simp [DepsOf, depsGo, DF.holds, Region.binds, EqF] at hd
    try simp only [hd]
    have hh6 := HH.out.kept (w' := w') fun j hj => (show Below W.drew.heap.size W.drew w' from hpk).block j (by show j < W.heap.size; omega)
    have hm6 := HM.out.1.gb ((gb_drew W (some H)).trans (show W.drew.grownBy w' (some H) from hp)) hA.out
    clear hp hpk
    intro Q2 hQ2
    go_wp2_with fail
    refine (sightOf_any H N tn A1 n1 c1 l _ hh6 (by omega) HM.out.2 hm6 hA.out hn5).mono ?_
    rintro e w6 ⟨s, rfl, hs, hd6⟩
    have HX := Lib.hid (show TPf H 1 w' w6 ∧ FSg H (N + 250) (vSg s) w6 from ⟨hd6.gr, s, rfl, hs, hd6.hd⟩)
    clear hd6 hh6 hm6
    go_wp2
    exact ⟨_, rfl, HX.out⟩
  try simp only [List.nil_append, List.cons_append]
  refine hK _ fun ys w' hp hF => ?_
  simp [AllF, DF.holds] at hF
  obtain ⟨-, -, f253, -, -, s, e256, hs, hhd⟩ := hF
  have hg : W.grownBy w' (some H) := (gb_drew W (some H)).trans (show W.drew.grownBy w' (some H) from hp)
  replace f253 : OwnS w' W.heap.size (ys 253) ss := f253
  obtain ⟨A5, c5, e253, -, -, -⟩ := Own.form f253 lenSg
  rw [e253] at f253
  simp only [e253, e256]
  unfold vSg
  have hsz := hg.size
  have hml := HML.out
  have HX := Lib.hid (And.intro f253 (And.intro hg hhd))
  clear hK hp e253 e256 hg hhd f253
  rw [hml] at HX ⊢
  go_wp2_with (first
    | (at_builtin; refine wp_appL okSight rfl _ _ rfl W.heap.size (.slice A5 m2 c5) ss s #[.int .i64 s.n, .bool s.l, .bool s.r, .int .i64 s.b, .int .i64 s.p] w'.heap.size rfl rfl (alloc_at rfl) rfl rfl (one_eSg _) (HX.out.1.alloc _) (by omega) (by decide) (by simp; omega) ?_; intro g7 c7 w7 ho7 hgr7 hl7; have HY := Lib.hid (And.intro ho7 hgr7); clear ho7 hgr7)
    | fail)
  refine HQ _ _ _ _ _ _ _ _ g7 c7 s w7 hs (by have := HY.out.1; rwa [hml] at this) ?_
  have hd0 : Dealt W w' H (N + 250) := ⟨HX.out.2.2, HX.out.2.1⟩
  exact (hd0.alloc _).ownG HY.out.2 fun k e => by
    have := (HX.out.1.lt k e).1
    exact ⟨by omega, this⟩
end Go.Proofs.Ytgnjknihgjdedaa
