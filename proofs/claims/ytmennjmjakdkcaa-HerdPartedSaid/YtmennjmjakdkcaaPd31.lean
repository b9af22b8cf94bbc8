/- HerdParted 31: TruU, RefA. -/
import Derived.Test.YtmennjmjakdkcaaPd29
import Derived.Test.YtmennjmjakdkcaaPd26
import Derived.BigRegion
import Derived.Test.YtmennjmjakdkcaaPd03
import Derived.Test.YtmennjmjakdkcaaPd01
import Derived.Test.YtmennjmjakdkcaaPd04
namespace Go.Proofs.Ytmennjmjakdkcaa
open Go.RowKit
set_option linter.unusedVariables false
set_option linter.unusedSimpArgs false
set_option maxRecDepth 1000000
noncomputable def rgTru48 : Code:=((Try.f22.body.bind (findRgn 48)).getD .skip)
def RgTruQ48 (w2 : World) (b2 o2 lw cw q j : Nat) (sb' : Bool) (v0 v1 v2 v3 v4 v5 v6 v7 v8 v9 Z0 Z1 Z2 Z3 Z4 Z5 Z6 Z7 Z8 Z9 ZA ZB ZC ZD ZE ZF ZG ZH ZI ZJ ZK ZL ZM ZN ZO ZP ZQ ZR ZS ZT ZU ZV ZW ZX ZY ZZ Za Zb Zc Zd Ze Zf Zg Zh Zi Zj Zk Zl Zm Zn Zo Zp Zq Zr Zs Zt Zu Zv Zw Zx Zy Zz Y0 Y1 Y2 Y3 Y4 Y5 Y6 Y7 Y8 Y9 YA YB YC YD YE YF YG YH YI YJ YK YL YM YN YO YP YQ YR YS YT YU YV YW YX YY YZ Ya Yb Yc Yd Ye Yf Yg Yh Yi Yj Yk Yl Ym Yn Yo Yp Yq Yr Ys Yt Yu Yv Yw Yx Yy Yz X0 X1 X2 X3 X4 X5 X6 X7 X8 X9 XA XB XC XD XE XF XG XH XI XJ XK XL XM XN XO XP XQ XR XS XT XU XV XW XX XY XZ Xa Xb Xc Xd Xe Xf Xg Xh Xi Xj Xk Xl Xm Xn Xo Xp Xq Xr Xs Xt Xu Xv Xw Xx Xy Xz K0 K1 K2 K3 K4 K5 K6 K7 K8 K9 KA KB KC KD KE KF KG KH KI KJ KK KL KM KN KO KP KQ KR KS KT KU KV KW KX KY KZ Ka Kb Kc Kd Ke Kf Kg Kh Ki Kj Kk Kl Km Kn Ko Kp Kq Kr Ks Kt Ku Kv Kw Kx Ky Kz J0 J1 J2 J3 J4 J5 J6 J7 J8 J9 JA JB JC JD JE JF JG JH JI JJ JK JL JM JN JO JP JQ JR JS JT JU JV JW JX JY JZ Ja Jb Jc Jd Je Jf Jg Jh Ji Jj Jk Jl Jm Jn Jo Jp Jq Jr Js Jt Ju Jv Jw Jx Jy Jz G0 G1 G2 G3 G4 G5 G6 G7 G8 G9 GA GB GC GD GE GF GG GH GI GJ GK GL GM GN GO GP GQ GR GS GT GU GV GW GX GY GZ Ga Gb Gc Gd Ge Gf Gg Gh Gi Gj Gk Gl Gm Gn Gp Gq Gr Gs Gt Gu Gv Gw Gx Gy Gz F0 F1 F2 F3 F4 F5 F6 F7 F8 F9 : Value) (Q : Exit → Act → World → Prop) : Prop:=∀ (FA FB FC FD FE FF FG FH FI FJ FK FL FM FN FO FP FQ FR FS FT FU FV FW : Value) (nq : Nat),Q .normal ⟨#[v0,v1,v2,v3,v4,v5,v6,v7,v8,v9,Z0,Z1,Z2,Z3,Z4,Z5,Z6,Z7,Z8,Z9,ZA,Value.slice (some ⟨b2,o2,none⟩) lw cw,Value.int .i64 (q : Int),Value.bool sb',Value.int .i64 (j : Int),ZB,ZC,ZD,ZE,ZF,ZG,ZH,ZI,ZJ,ZK,ZL,ZM,ZN,ZO,ZP,ZQ,ZR,ZS,ZT,ZU,ZV,ZW,ZX,ZY,ZZ,Za,Zb,Zc,Zd,Ze,Zf,Zg,Zh,Zi,Zj,Zk,Zl,Zm,Zn,Zo,Zp,Zq,Zr,Zs,Zt,Zu,Zv,Zw,Zx,Zy,Zz,Y0,Y1,Y2,Y3,Y4,Y5,Y6,Y7,Y8,Y9,YA,YB,YC,YD,YE,YF,YG,YH,YI,YJ,YK,YL,YM,YN,YO,YP,YQ,YR,YS,YT,YU,YV,YW,YX,YY,YZ,Ya,Yb,Yc,Yd,Ye,Yf,Yg,Yh,Yi,Yj,Yk,Yl,Ym,Yn,Yo,Yp,Yq,Yr,Ys,Yt,Yu,Yv,Yw,Yx,Yy,Yz,X0,X1,X2,X3,X4,X5,X6,X7,X8,X9,XA,XB,XC,XD,XE,XF,XG,XH,XI,XJ,XK,XL,XM,XN,XO,XP,XQ,XR,XS,XT,XU,XV,XW,XX,XY,XZ,Xa,Xb,Xc,Xd,Xe,Xf,Xg,Xh,Xi,Xj,Xk,Xl,Xm,Xn,Xo,Xp,Xq,Xr,Xs,Xt,Xu,Xv,Xw,Xx,Xy,Xz,K0,K1,K2,K3,K4,K5,K6,K7,K8,K9,KA,KB,KC,KD,KE,KF,KG,KH,KI,KJ,KK,KL,KM,KN,KO,KP,KQ,KR,KS,KT,KU,KV,KW,KX,KY,KZ,Ka,Kb,Kc,Kd,Ke,Kf,Kg,Kh,Ki,Kj,Kk,Kl,Km,Kn,Ko,Kp,Kq,Kr,Ks,Kt,Ku,Kv,Kw,Kx,Ky,Kz,J0,J1,J2,J3,J4,J5,J6,J7,FA,FB,FC,FD,FE,FF,FG,FH,FI,FJ,FK,FL,FM,FN,FO,FP,FQ,FR,FS,FT,FU,FV,FW,JV,JW,JX,JY,JZ,Ja,Jb,Jc,Jd,Je,Jf,Jg,Jh,Ji,Jj,Jk,Jl,Jm,Jn,Jo,Jp,Jq,Jr,Js,Jt,Ju,Jv,Jw,Jx,Jy,Jz,G0,G1,G2,G3,G4,G5,G6,G7,G8,G9,GA,GB,GC,GD,GE,GF,GG,GH,GI,GJ,GK,GL,GM,GN,GO,GP,GQ,GR,GS,GT,GU,GV,GW,GX,GY,GZ,Ga,Gb,Gc,Gd,Ge,Gf,Gg,Gh,Gi,Gj,Gk,Gl,Gm,Gn,Gp,Gq,Gr,Gs,Gt,Gu,Gv,Gw,Gx,Gy,Gz,F0,F1,F2,F3,F4,F5,F6,F7,F8,F9],[]⟩ (w2.drewN nq)
set_option maxHeartbeats 8000000 in
theorem tru_srt (w2 : World) (b2 o2 lw cw q j b3 o3 nl c2 : Nat) (wd : List Int) (sb sb' : Bool) (v0 v1 v2 v3 v4 v5 v6 v7 v8 v9 Z0 Z1 Z2 Z3 Z4 Z5 Z6 Z7 Z8 Z9 ZA ZB ZC ZD ZE ZF ZG ZH ZI ZJ ZK ZL ZM ZN ZO ZP ZQ ZR ZS ZT ZU ZV ZW ZX ZY ZZ Za Zb Zc Zd Ze Zf Zg Zh Zi Zj Zk Zl Zm Zn Zo Zp Zq Zr Zs Zt Zu Zv Zw Zx Zy Zz Y0 Y1 Y2 Y3 Y4 Y5 Y6 Y7 Y8 Y9 YA YB YC YD YE YF YG YH YI YJ YK YL YM YN YO YP YQ YR YS YT YU YV YW YX YY YZ Ya Yb Yc Yd Ye Yf Yg Yh Yi Yj Yk Yl Ym Yn Yo Yp Yq Yr Ys Yt Yu Yv Yw Yx Yy Yz X0 X1 X2 X3 X4 X5 X6 X7 X8 X9 XA XB XC XD XE XF XG XH XI XJ XK XL XM XN XO XP XQ XR XS XT XU XV XW XX XY XZ Xa Xb Xc Xd Xe Xf Xg Xh Xi Xj Xk Xl Xm Xn Xo Xp Xq Xr Xs Xt Xu Xv Xw Xx Xy Xz K0 K1 K2 K3 K4 K5 K6 K7 K8 K9 KA KB KC KD KE KF KG KH KI KJ KK KL KM KN KO KP KQ KR KS KT KU KV KW KX KY KZ Ka Kb Kc Kd Ke Kf Kg Kh Ki Kj Kk Kl Km Kn Ko Kp Kq Kr Ks Kt Ku Kv Kw Kx Ky Kz J0 J1 J2 J3 J4 J5 J6 J7 J8 J9 JA JB JC JD JE JF JG JH JI JJ JK JL JM JN JO JP JQ JR JS JT JU JV JW JX JY JZ Ja Jb Jc Jd Je Jf Jg Jh Ji Jj Jk Jl Jm Jn Jo Jp Jq Jr Js Jt Ju Jv Jw Jx Jy Jz G0 G1 G2 G3 G4 G5 G6 G7 G8 G9 GA GB GC GD GE GF GG GH GI GJ GK GL GM GN GO GP GQ GR GS GT GU GV GW GX GY GZ Ga Gb Gc Gd Ge Gf Gg Gh Gi Gj Gk Gl Gm Gn Gp Gq Gr Gs Gt Gu Gv Gw Gx Gy Gz F0 F1 F2 F3 F4 F5 F6 F7 F8 F9 : Value) (Q : Exit → Act → World → Prop)
 (y2 : w2.cell? ⟨b2,o2 + q,none⟩ = some (.slice (some ⟨b3,o3,none⟩) nl c2)) (HI : Hid (Ints w2 (some ⟨b3,o3,none⟩) nl wd)) (hjn : j < nl) (i1 : (q : Int) < (lw : Int)) (hbl : b2 < w2.heap.size) (hb3 : b3 < w2.heap.size) (hcw : lw ≤ cw) (hcm : cw ≤ maxLen) (hc2 : nl ≤ c2) (hm2 : c2 ≤ maxLen) (hn3 : nl ≤ 3)
 (H0 : Hid (sb = false → sb' = false)) (H1 : Hid (sb = true → j = 0 → sb' = true)) (H2 : Hid (∀ j' a b,sb = true → j = j' + 1 → wd[j']? = some a → wd[j]? = some b → sb' = decide (a ≤ b)))
 (HQ : RgTruQ48 w2 b2 o2 lw cw q j sb' v0 v1 v2 v3 v4 v5 v6 v7 v8 v9 Z0 Z1 Z2 Z3 Z4 Z5 Z6 Z7 Z8 Z9 ZA ZB ZC ZD ZE ZF ZG ZH ZI ZJ ZK ZL ZM ZN ZO ZP ZQ ZR ZS ZT ZU ZV ZW ZX ZY ZZ Za Zb Zc Zd Ze Zf Zg Zh Zi Zj Zk Zl Zm Zn Zo Zp Zq Zr Zs Zt Zu Zv Zw Zx Zy Zz Y0 Y1 Y2 Y3 Y4 Y5 Y6 Y7 Y8 Y9 YA YB YC YD YE YF YG YH YI YJ YK YL YM YN YO YP YQ YR YS YT YU YV YW YX YY YZ Ya Yb Yc Yd Ye Yf Yg Yh Yi Yj Yk Yl Ym Yn Yo Yp Yq Yr Ys Yt Yu Yv Yw Yx Yy Yz X0 X1 X2 X3 X4 X5 X6 X7 X8 X9 XA XB XC XD XE XF XG XH XI XJ XK XL XM XN XO XP XQ XR XS XT XU XV XW XX XY XZ Xa Xb Xc Xd Xe Xf Xg Xh Xi Xj Xk Xl Xm Xn Xo Xp Xq Xr Xs Xt Xu Xv Xw Xx Xy Xz K0 K1 K2 K3 K4 K5 K6 K7 K8 K9 KA KB KC KD KE KF KG KH KI KJ KK KL KM KN KO KP KQ KR KS KT KU KV KW KX KY KZ Ka Kb Kc Kd Ke Kf Kg Kh Ki Kj Kk Kl Km Kn Ko Kp Kq Kr Ks Kt Ku Kv Kw Kx Ky Kz J0 J1 J2 J3 J4 J5 J6 J7 J8 J9 JA JB JC JD JE JF JG JH JI JJ JK JL JM JN JO JP JQ JR JS JT JU JV JW JX JY JZ Ja Jb Jc Jd Je Jf Jg Jh Ji Jj Jk Jl Jm Jn Jo Jp Jq Jr Js Jt Ju Jv Jw Jx Jy Jz G0 G1 G2 G3 G4 G5 G6 G7 G8 G9 GA GB GC GD GE GF GG GH GI GJ GK GL GM GN GO GP GQ GR GS GT GU GV GW GX GY GZ Ga Gb Gc Gd Ge Gf Gg Gh Gi Gj Gk Gl Gm Gn Gp Gq Gr Gs Gt Gu Gv Gw Gx Gy Gz F0 F1 F2 F3 F4 F5 F6 F7 F8 F9 Q) :
 Code.wp Try.prog rgTru48 Q ⟨#[v0,v1,v2,v3,v4,v5,v6,v7,v8,v9,Z0,Z1,Z2,Z3,Z4,Z5,Z6,Z7,Z8,Z9,ZA,Value.slice (some ⟨b2,o2,none⟩) lw cw,Value.int .i64 (q : Int),Value.bool sb,Value.int .i64 (j : Int),ZB,ZC,ZD,ZE,ZF,ZG,ZH,ZI,ZJ,ZK,ZL,ZM,ZN,ZO,ZP,ZQ,ZR,ZS,ZT,ZU,ZV,ZW,ZX,ZY,ZZ,Za,Zb,Zc,Zd,Ze,Zf,Zg,Zh,Zi,Zj,Zk,Zl,Zm,Zn,Zo,Zp,Zq,Zr,Zs,Zt,Zu,Zv,Zw,Zx,Zy,Zz,Y0,Y1,Y2,Y3,Y4,Y5,Y6,Y7,Y8,Y9,YA,YB,YC,YD,YE,YF,YG,YH,YI,YJ,YK,YL,YM,YN,YO,YP,YQ,YR,YS,YT,YU,YV,YW,YX,YY,YZ,Ya,Yb,Yc,Yd,Ye,Yf,Yg,Yh,Yi,Yj,Yk,Yl,Ym,Yn,Yo,Yp,Yq,Yr,Ys,Yt,Yu,Yv,Yw,Yx,Yy,Yz,X0,X1,X2,X3,X4,X5,X6,X7,X8,X9,XA,XB,XC,XD,XE,XF,XG,XH,XI,XJ,XK,XL,XM,XN,XO,XP,XQ,XR,XS,XT,XU,XV,XW,XX,XY,XZ,Xa,Xb,Xc,Xd,Xe,Xf,Xg,Xh,Xi,Xj,Xk,Xl,Xm,Xn,Xo,Xp,Xq,Xr,Xs,Xt,Xu,Xv,Xw,Xx,Xy,Xz,K0,K1,K2,K3,K4,K5,K6,K7,K8,K9,KA,KB,KC,KD,KE,KF,KG,KH,KI,KJ,KK,KL,KM,KN,KO,KP,KQ,KR,KS,KT,KU,KV,KW,KX,KY,KZ,Ka,Kb,Kc,Kd,Ke,Kf,Kg,Kh,Ki,Kj,Kk,Kl,Km,Kn,Ko,Kp,Kq,Kr,Ks,Kt,Ku,Kv,Kw,Kx,Ky,Kz,J0,J1,J2,J3,J4,J5,J6,J7,J8,J9,JA,JB,JC,JD,JE,JF,JG,JH,JI,JJ,JK,JL,JM,JN,JO,JP,JQ,JR,JS,JT,JU,JV,JW,JX,JY,JZ,Ja,Jb,Jc,Jd,Je,Jf,Jg,Jh,Ji,Jj,Jk,Jl,Jm,Jn,Jo,Jp,Jq,Jr,Js,Jt,Ju,Jv,Jw,Jx,Jy,Jz,G0,G1,G2,G3,G4,G5,G6,G7,G8,G9,GA,GB,GC,GD,GE,GF,GG,GH,GI,GJ,GK,GL,GM,GN,GO,GP,GQ,GR,GS,GT,GU,GV,GW,GX,GY,GZ,Ga,Gb,Gc,Gd,Ge,Gf,Gg,Gh,Gi,Gj,Gk,Gl,Gm,Gn,Gp,Gq,Gr,Gs,Gt,Gu,Gv,Gw,Gx,Gy,Gz,F0,F1,F2,F3,F4,F5,F6,F7,F8,F9],[]⟩ w2:=by
 dsimp only
 conv => arg 2;whnf
 cases sb
 ·obtain rfl:=H0.out rfl
  go_quiet (fail)
  go_wp2_with fail
  exact HQ _ _ _ _ _ _ _ _ _ _ _ _ _ _ _ _ _ _ _ _ _ _ _ _
 ·rcases Nat.eq_zero_or_pos j with hj | hj
  ·obtain rfl:=H1.out rfl hj
   subst hj
   go_quiet (fail)
   go_wp2_with fail
   exact HQ _ _ _ _ _ _ _ _ _ _ _ _ _ _ _ _ _ _ _ _ _ _ _ _
  ·obtain ⟨j',hjj⟩ : ∃ j',j = j' + 1:=⟨j - 1,by omega⟩
   obtain ⟨bb,ob,x,e,hbb,hx,y3⟩:=Ints.get HI.out hjn
   cases e
   obtain ⟨bb,ob,y,e,hbb',hy,y4⟩:=Ints.get HI.out (show j' < nl by omega)
   cases e
   have hs:=H2.out j' y x rfl hjj hy hx
   have hj1 : (j : Int) - 1 = (j' : Int):=by omega
   have i2 : (j : Int) < (nl : Int):=by omega
   have i3 : (j' : Int) < (nl : Int):=by omega
   have e0 : ((j : Int) == 0) = false:=beq_eq_false_iff_ne.2 (by omega)
   have HJ:=Lib.hid hjj
   by_cases hge : y ≤ x
   ·obtain rfl : sb' = true:=by rw [hs,decide_eq_true hge]
    clear hjj hx hy hs
    go_quiet (fail)
    go_wp2_with fail
    exact HQ _ _ _ _ _ _ _ _ _ _ _ _ _ _ _ _ _ _ _ _ _ _ _ _
   ·obtain rfl : sb' = false:=by rw [hs,decide_eq_false hge]
    clear hjj hx hy hs
    go_quiet (fail)
    go_wp2_with fail
    exact HQ _ _ _ _ _ _ _ _ _ _ _ _ _ _ _ _ _ _ _ _ _ _ _ _
noncomputable def rgTru49 : Code:=((Try.f22.body.bind (findRgn 49)).getD .skip)
def RgTruQ49 (w2 : World) (DK bn on0 k cn b2 o2 lw cw q j g on : Nat) (x : Int) (v0 v1 v2 v3 v4 v5 v6 v7 v8 v9 Z0 Z1 Z2 Z3 Z4 Z5 Z6 Z7 ZA FX ZB ZC ZD ZE ZF ZG ZH ZI ZJ ZK ZL ZM ZN ZO ZP ZQ ZR ZS ZT ZU ZV ZW ZX ZY ZZ Za Zb Zc Zd Ze Zf Zg Zh Zi Zj Zk Zl Zm Zn Zo Zp Zq Zr Zs Zt Zu Zv Zw Zx Zy Zz Y0 Y1 Y2 Y3 Y4 Y5 Y6 Y7 Y8 Y9 YA YB YC YD YE YF YG YH YI YJ YK YL YM YN YO YP YQ YR YS YT YU YV YW YX YY YZ Ya Yb Yc Yd Ye Yf Yg Yh Yi Yj Yk Yl Ym Yn Yo Yp Yq Yr Ys Yt Yu Yv Yw Yx Yy Yz X0 X1 X2 X3 X4 X5 X6 X7 X8 X9 XA XB XC XD XE XF XG XH XI XJ XK XL XM XN XO XP XQ XR XS XT XU XV XW XX XY XZ Xa Xb Xc Xd Xe Xf Xg Xh Xi Xj Xk Xl Xm Xn Xo Xp Xq Xr Xs Xt Xu Xv Xw Xx Xy Xz K0 K1 K2 K3 K4 K5 K6 K7 K8 K9 KA KB KC KD KE KF KG KH KI KJ KK KL KM KN KO KP KQ KR KS KT KU KV KW KX KY KZ Ka Kb Kc Kd Ke Kf Kg Kh Ki Kj Kk Kl Km Kn Ko Kp Kq Kr Ks Kt Ku Kv Kw Kx Ky Kz J0 J1 J2 J3 J4 J5 J6 J7 J8 J9 JA JB JC JD JE JF JG JH JI JJ JK JL JM JN JO JP JQ JR JS JT JU JV JW JX JY JZ Ja Jb Jc Jd Je Jf Jg Jh Ji Jj Jk Jl Jm Jn Jo Jp Jq Jr Js Jt Ju Jv Jw Jx Jy Jz G0 G1 G2 G3 G4 G5 G6 G7 G8 G9 GA GB GC GD GE GF GG GH GI GJ GK GL GM GN GO GP GQ GR GS GT GU GV GW GX GY GZ Ga Gb Gc Gd Ge Gf Gg Gh Gi Gj Gk Gl Gm Gn Gp Gq Gr Gs Gt Gu Gv Gw Gx Gy Gz F0 F1 F2 F3 F4 F5 F6 F7 F8 F9 : Value) (Q : Exit → Act → World → Prop) : Prop:=∀ (FY FZ Fa Fb Fc Fd Fe Ff Fg Fh Fi Fj Fk Fl Fm Fn : Value) (nq : Nat),Q .normal ⟨#[v0,v1,v2,v3,v4,v5,v6,v7,v8,v9,Z0,Z1,Z2,Z3,Z4,Z5,Z6,Z7,Value.pointer (some ⟨DK,0,none⟩),Value.slice (some ⟨bn,on0,none⟩) k cn,ZA,Value.slice (some ⟨b2,o2,none⟩) lw cw,Value.int .i64 (q : Int),FX,Value.int .i64 (j : Int),ZB,ZC,ZD,ZE,ZF,ZG,ZH,ZI,ZJ,ZK,ZL,ZM,ZN,ZO,ZP,ZQ,ZR,ZS,ZT,ZU,ZV,ZW,ZX,ZY,ZZ,Za,Zb,Zc,Zd,Ze,Zf,Zg,Zh,Zi,Zj,Zk,Zl,Zm,Zn,Zo,Zp,Zq,Zr,Zs,Zt,Zu,Zv,Zw,Zx,Zy,Zz,Y0,Y1,Y2,Y3,Y4,Y5,Y6,Y7,Y8,Y9,YA,YB,YC,YD,YE,YF,YG,YH,YI,YJ,YK,YL,YM,YN,YO,YP,YQ,YR,YS,YT,YU,YV,YW,YX,YY,YZ,Ya,Yb,Yc,Yd,Ye,Yf,Yg,Yh,Yi,Yj,Yk,Yl,Ym,Yn,Yo,Yp,Yq,Yr,Ys,Yt,Yu,Yv,Yw,Yx,Yy,Yz,X0,X1,X2,X3,X4,X5,X6,X7,X8,X9,XA,XB,XC,XD,XE,XF,XG,XH,XI,XJ,XK,XL,XM,XN,XO,XP,XQ,XR,XS,XT,XU,XV,XW,XX,XY,XZ,Xa,Xb,Xc,Xd,Xe,Xf,Xg,Xh,Xi,Xj,Xk,Xl,Xm,Xn,Xo,Xp,Xq,Xr,Xs,Xt,Xu,Xv,Xw,Xx,Xy,Xz,K0,K1,K2,K3,K4,K5,K6,K7,K8,K9,KA,KB,KC,KD,KE,KF,KG,KH,KI,KJ,KK,KL,KM,KN,KO,KP,KQ,KR,KS,KT,KU,KV,KW,KX,KY,KZ,Ka,Kb,Kc,Kd,Ke,Kf,Kg,Kh,Ki,Kj,Kk,Kl,Km,Kn,Ko,Kp,Kq,Kr,Ks,Kt,Ku,Kv,Kw,Kx,Ky,Kz,J0,J1,J2,J3,J4,J5,J6,J7,J8,J9,JA,JB,JC,JD,JE,JF,JG,JH,JI,JJ,JK,JL,JM,JN,JO,JP,JQ,JR,JS,JT,JU,FY,FZ,Fa,Fb,Fc,Fd,Fe,Ff,Fg,Fh,Fi,Fj,Fk,Fl,Fm,Fn,Jl,Jm,Jn,Jo,Jp,Jq,Jr,Js,Jt,Ju,Jv,Jw,Jx,Jy,Jz,G0,G1,G2,G3,G4,G5,G6,G7,G8,G9,GA,GB,GC,GD,GE,GF,GG,GH,GI,GJ,GK,GL,GM,GN,GO,GP,GQ,GR,GS,GT,GU,GV,GW,GX,GY,GZ,Ga,Gb,Gc,Gd,Ge,Gf,Gg,Gh,Gi,Gj,Gk,Gl,Gm,Gn,Gp,Gq,Gr,Gs,Gt,Gu,Gv,Gw,Gx,Gy,Gz,F0,F1,F2,F3,F4,F5,F6,F7,F8,F9],[]⟩ ((w2.drewN nq).setCell ⟨g,on,none⟩ (.int .i64 (x - 1)))
set_option maxHeartbeats 8000000 in
theorem tru_dec (w2 : World) (DK bn on0 k cn b2 o2 lw cw q j b3 o3 nw c2 g nl cg fn on : Nat) (x : Int) (v0 v1 v2 v3 v4 v5 v6 v7 v8 v9 Z0 Z1 Z2 Z3 Z4 Z5 Z6 Z7 ZA FX ZB ZC ZD ZE ZF ZG ZH ZI ZJ ZK ZL ZM ZN ZO ZP ZQ ZR ZS ZT ZU ZV ZW ZX ZY ZZ Za Zb Zc Zd Ze Zf Zg Zh Zi Zj Zk Zl Zm Zn Zo Zp Zq Zr Zs Zt Zu Zv Zw Zx Zy Zz Y0 Y1 Y2 Y3 Y4 Y5 Y6 Y7 Y8 Y9 YA YB YC YD YE YF YG YH YI YJ YK YL YM YN YO YP YQ YR YS YT YU YV YW YX YY YZ Ya Yb Yc Yd Ye Yf Yg Yh Yi Yj Yk Yl Ym Yn Yo Yp Yq Yr Ys Yt Yu Yv Yw Yx Yy Yz X0 X1 X2 X3 X4 X5 X6 X7 X8 X9 XA XB XC XD XE XF XG XH XI XJ XK XL XM XN XO XP XQ XR XS XT XU XV XW XX XY XZ Xa Xb Xc Xd Xe Xf Xg Xh Xi Xj Xk Xl Xm Xn Xo Xp Xq Xr Xs Xt Xu Xv Xw Xx Xy Xz K0 K1 K2 K3 K4 K5 K6 K7 K8 K9 KA KB KC KD KE KF KG KH KI KJ KK KL KM KN KO KP KQ KR KS KT KU KV KW KX KY KZ Ka Kb Kc Kd Ke Kf Kg Kh Ki Kj Kk Kl Km Kn Ko Kp Kq Kr Ks Kt Ku Kv Kw Kx Ky Kz J0 J1 J2 J3 J4 J5 J6 J7 J8 J9 JA JB JC JD JE JF JG JH JI JJ JK JL JM JN JO JP JQ JR JS JT JU JV JW JX JY JZ Ja Jb Jc Jd Je Jf Jg Jh Ji Jj Jk Jl Jm Jn Jo Jp Jq Jr Js Jt Ju Jv Jw Jx Jy Jz G0 G1 G2 G3 G4 G5 G6 G7 G8 G9 GA GB GC GD GE GF GG GH GI GJ GK GL GM GN GO GP GQ GR GS GT GU GV GW GX GY GZ Ga Gb Gc Gd Ge Gf Gg Gh Gi Gj Gk Gl Gm Gn Gp Gq Gr Gs Gt Gu Gv Gw Gx Gy Gz F0 F1 F2 F3 F4 F5 F6 F7 F8 F9 : Value) (Q : Exit → Act → World → Prop)
 (z1 : w2.cell? ⟨DK,1,none⟩ = some (.int .i64 (fn : Int))) (hlD : DK < w2.heap.size)
 (y2 : w2.cell? ⟨b2,o2 + q,none⟩ = some (.slice (some ⟨b3,o3,none⟩) nw c2)) (y3 : w2.cell? ⟨b3,o3 + j,none⟩ = some (.int .i64 (on : Int)))
 (yr : w2.cell? ⟨bn,on0 + fn,none⟩ = some (.slice (some ⟨g,0,none⟩) nl cg)) (yc : w2.cell? ⟨g,on,none⟩ = some (.int .i64 x)) (fz : w2.frozen? ⟨g,on,none⟩ = false)
 (hxb : -200 ≤ x ∧ x ≤ 200) (i1 : (q : Int) < (lw : Int)) (i2 : (fn : Int) < (k : Int)) (i3 : (on : Int) < (nl : Int)) (i4 : (j : Int) < (nw : Int)) (hbl : b2 < w2.heap.size) (hb3 : b3 < w2.heap.size) (hbn : bn < w2.heap.size) (hgl : g < w2.heap.size) (hcw : lw ≤ cw) (hcm : cw ≤ maxLen) (hc2 : nw ≤ c2) (hm2 : c2 ≤ maxLen) (hgc : nl ≤ cg) (hgm : cg ≤ maxLen) (hcn : cn ≤ maxLen)
 (HQ : RgTruQ49 w2 DK bn on0 k cn b2 o2 lw cw q j g on x v0 v1 v2 v3 v4 v5 v6 v7 v8 v9 Z0 Z1 Z2 Z3 Z4 Z5 Z6 Z7 ZA FX ZB ZC ZD ZE ZF ZG ZH ZI ZJ ZK ZL ZM ZN ZO ZP ZQ ZR ZS ZT ZU ZV ZW ZX ZY ZZ Za Zb Zc Zd Ze Zf Zg Zh Zi Zj Zk Zl Zm Zn Zo Zp Zq Zr Zs Zt Zu Zv Zw Zx Zy Zz Y0 Y1 Y2 Y3 Y4 Y5 Y6 Y7 Y8 Y9 YA YB YC YD YE YF YG YH YI YJ YK YL YM YN YO YP YQ YR YS YT YU YV YW YX YY YZ Ya Yb Yc Yd Ye Yf Yg Yh Yi Yj Yk Yl Ym Yn Yo Yp Yq Yr Ys Yt Yu Yv Yw Yx Yy Yz X0 X1 X2 X3 X4 X5 X6 X7 X8 X9 XA XB XC XD XE XF XG XH XI XJ XK XL XM XN XO XP XQ XR XS XT XU XV XW XX XY XZ Xa Xb Xc Xd Xe Xf Xg Xh Xi Xj Xk Xl Xm Xn Xo Xp Xq Xr Xs Xt Xu Xv Xw Xx Xy Xz K0 K1 K2 K3 K4 K5 K6 K7 K8 K9 KA KB KC KD KE KF KG KH KI KJ KK KL KM KN KO KP KQ KR KS KT KU KV KW KX KY KZ Ka Kb Kc Kd Ke Kf Kg Kh Ki Kj Kk Kl Km Kn Ko Kp Kq Kr Ks Kt Ku Kv Kw Kx Ky Kz J0 J1 J2 J3 J4 J5 J6 J7 J8 J9 JA JB JC JD JE JF JG JH JI JJ JK JL JM JN JO JP JQ JR JS JT JU JV JW JX JY JZ Ja Jb Jc Jd Je Jf Jg Jh Ji Jj Jk Jl Jm Jn Jo Jp Jq Jr Js Jt Ju Jv Jw Jx Jy Jz G0 G1 G2 G3 G4 G5 G6 G7 G8 G9 GA GB GC GD GE GF GG GH GI GJ GK GL GM GN GO GP GQ GR GS GT GU GV GW GX GY GZ Ga Gb Gc Gd Ge Gf Gg Gh Gi Gj Gk Gl Gm Gn Gp Gq Gr Gs Gt Gu Gv Gw Gx Gy Gz F0 F1 F2 F3 F4 F5 F6 F7 F8 F9 Q) :
 Code.wp Try.prog rgTru49 Q ⟨#[v0,v1,v2,v3,v4,v5,v6,v7,v8,v9,Z0,Z1,Z2,Z3,Z4,Z5,Z6,Z7,Value.pointer (some ⟨DK,0,none⟩),Value.slice (some ⟨bn,on0,none⟩) k cn,ZA,Value.slice (some ⟨b2,o2,none⟩) lw cw,Value.int .i64 (q : Int),FX,Value.int .i64 (j : Int),ZB,ZC,ZD,ZE,ZF,ZG,ZH,ZI,ZJ,ZK,ZL,ZM,ZN,ZO,ZP,ZQ,ZR,ZS,ZT,ZU,ZV,ZW,ZX,ZY,ZZ,Za,Zb,Zc,Zd,Ze,Zf,Zg,Zh,Zi,Zj,Zk,Zl,Zm,Zn,Zo,Zp,Zq,Zr,Zs,Zt,Zu,Zv,Zw,Zx,Zy,Zz,Y0,Y1,Y2,Y3,Y4,Y5,Y6,Y7,Y8,Y9,YA,YB,YC,YD,YE,YF,YG,YH,YI,YJ,YK,YL,YM,YN,YO,YP,YQ,YR,YS,YT,YU,YV,YW,YX,YY,YZ,Ya,Yb,Yc,Yd,Ye,Yf,Yg,Yh,Yi,Yj,Yk,Yl,Ym,Yn,Yo,Yp,Yq,Yr,Ys,Yt,Yu,Yv,Yw,Yx,Yy,Yz,X0,X1,X2,X3,X4,X5,X6,X7,X8,X9,XA,XB,XC,XD,XE,XF,XG,XH,XI,XJ,XK,XL,XM,XN,XO,XP,XQ,XR,XS,XT,XU,XV,XW,XX,XY,XZ,Xa,Xb,Xc,Xd,Xe,Xf,Xg,Xh,Xi,Xj,Xk,Xl,Xm,Xn,Xo,Xp,Xq,Xr,Xs,Xt,Xu,Xv,Xw,Xx,Xy,Xz,K0,K1,K2,K3,K4,K5,K6,K7,K8,K9,KA,KB,KC,KD,KE,KF,KG,KH,KI,KJ,KK,KL,KM,KN,KO,KP,KQ,KR,KS,KT,KU,KV,KW,KX,KY,KZ,Ka,Kb,Kc,Kd,Ke,Kf,Kg,Kh,Ki,Kj,Kk,Kl,Km,Kn,Ko,Kp,Kq,Kr,Ks,Kt,Ku,Kv,Kw,Kx,Ky,Kz,J0,J1,J2,J3,J4,J5,J6,J7,J8,J9,JA,JB,JC,JD,JE,JF,JG,JH,JI,JJ,JK,JL,JM,JN,JO,JP,JQ,JR,JS,JT,JU,JV,JW,JX,JY,JZ,Ja,Jb,Jc,Jd,Je,Jf,Jg,Jh,Ji,Jj,Jk,Jl,Jm,Jn,Jo,Jp,Jq,Jr,Js,Jt,Ju,Jv,Jw,Jx,Jy,Jz,G0,G1,G2,G3,G4,G5,G6,G7,G8,G9,GA,GB,GC,GD,GE,GF,GG,GH,GI,GJ,GK,GL,GM,GN,GO,GP,GQ,GR,GS,GT,GU,GV,GW,GX,GY,GZ,Ga,Gb,Gc,Gd,Ge,Gf,Gg,Gh,Gi,Gj,Gk,Gl,Gm,Gn,Gp,Gq,Gr,Gs,Gt,Gu,Gv,Gw,Gx,Gy,Gz,F0,F1,F2,F3,F4,F5,F6,F7,F8,F9],[]⟩ w2:=by
 dsimp only
 conv => arg 2;whnf
 refine wp_region_quiet_tail (C:=fun w' => ∃ n,w' = w2.drewN n) 16 (by kernel_rfl) (by kernel_rfl) ⟨1,rfl⟩ ?_
 simp only [List.take_succ_cons,List.take_zero,List.drop_succ_cons,List.drop_zero]
 repeat (quiet_step (fail))
 refine wpQuiet_nil ?_
 intro _ hw'
 obtain ⟨nq,hw''⟩:=hw'
 subst hw''
 go_wp2_with fail
 exact HQ _ _ _ _ _ _ _ _ _ _ _ _ _ _ _ _ nq
end Go.Proofs.Ytmennjmjakdkcaa
namespace Go.Proofs.Ytmennjmjakdkcaa
open Go.RowKit
set_option linter.unusedVariables false
set_option linter.unusedSimpArgs false
theorem rHas (n : Int) (b : Nat) (w : World) (hn : 0 ≤ n) (hn' : n ≤ 255) (hb : b ≤ 8) :
 Calls Try.prog 80 #[.int .i64 n,.int .i64 b] w fun e w' => e = .returned (.bool (bit n b)) ∧ w = w':=by
 obtain ⟨l,rfl⟩:=Int.eq_ofNat_of_zero_le hn
 have hl : l ≤ 255:=by omega
 go_enter Try.func80,Try.ntmps80
 go_wp2_with fail
 go_loopg [0,5] b (fun g x i wr => ∃ k : Nat,k + g = b ∧ i = .int .i64 k ∧ ∃ q : Nat,x = .int .i64 q ∧ q = l / 2 ^ k ∧ w = wr)
 case atStart => exact ⟨0,by omega,rfl,l,rfl,by simp,rfl⟩
 case round =>
  obtain ⟨k,hk,rfl,q,rfl,hq,rfl⟩:=hrel
  have HK:=Lib.hid (And.intro hk hq)
  have hkb : k ≤ b:=by omega
  have hql : q ≤ 255:=by have:=Nat.div_le_self l (2 ^ k);omega
  clear hk hq
  by_cases hlt : k < b
  ·go_wp2
   go_roundg (gk - 1)
   case measure => have:=HK.out.1;omega
   case rel =>
    refine ⟨k + 1,by have:=HK.out.1;omega,by go_num,q / 2,?_,by rw [HK.out.2,Nat.pow_succ,Nat.div_div_eq_div_mul],rfl⟩
    congr 1
  ·obtain rfl : k = b:=by omega
   go_wp2
   go_ret
   refine ⟨ret_bool ?_,rfl⟩
   unfold bit
   rw [Int.toNat_natCast,Nat.testBit_eq_decide_div_mod_eq,← HK.out.2,Bool.eq_iff_iff]
   simp only [beq_iff_eq,decide_eq_true_eq]
   omega
theorem rTorn (s : Sg) (b : Nat) (w : World) (hb : b ≤ 8) :
 Calls Try.prog 79 #[vSg s,.int .i64 b] w fun e w' => e = .returned (.bool (tornB s.l s.r b)) ∧ Below w.heap.size w w':=by
 obtain ⟨sn,l,r,sb,sp⟩:=s
 unfold vSg
 by_cases h4 : b < 4
 ·have h4' : (b : Int) < 4:=by omega
  have h4c : ¬ (4 : Int) ≤ (b : Int):=by omega
  have h4n : ¬ 4 ≤ b:=by omega
  cases l
  all_goals
   go_enter Try.func79,Try.ntmps79
   go_wp2
   go_ret
   exact ⟨ret_bool (by simp [tornB,h4,h4n]),bal0 _ _⟩
 ·have h4' : ¬ (b : Int) < 4:=by omega
  have h4c : (4 : Int) ≤ (b : Int):=by omega
  have h4n : 4 ≤ b:=by omega
  cases r
  all_goals
   go_enter Try.func79,Try.ntmps79
   go_wp2
   go_ret
   exact ⟨ret_bool (by simp [tornB,h4,h4n]),bal0 _ _⟩
end Go.Proofs.Ytmennjmjakdkcaa
namespace Go.Proofs.Ytmennjmjakdkcaa
open Go.RowKit
set_option linter.unusedVariables false
set_option linter.unusedSimpArgs false
end Go.Proofs.Ytmennjmjakdkcaa
namespace Go.Proofs.Ytmennjmjakdkcaa
open Go.RowKit
set_option linter.unusedVariables false
set_option linter.unusedSimpArgs false
def missB (s : Sg) (m : Mk) (i : Nat) : Bool:=!tornB s.l s.r i && (bit m.n i && !bit s.n i)
def moreB (s : Sg) (m : Mk) (i : Nat) : Bool:=!tornB s.l s.r i && (!bit m.n i && bit s.n i)
def anyTo (p : Nat → Bool) (k : Nat) : Bool:=(List.range k).any p
def cntTo (p : Nat → Bool) (k : Nat) : Nat:=(List.range k).countP p
theorem anyTo_succ (p : Nat → Bool) (k : Nat) : anyTo p (k + 1) = (anyTo p k || p k):=by unfold anyTo;rw [List.range_succ,List.any_append];simp
theorem cntTo_succ (p : Nat → Bool) (k : Nat) : cntTo p (k + 1) = cntTo p k + if p k then 1 else 0:=by
 unfold cntTo;rw [List.range_succ,List.countP_append];cases h : p k <;> simp [h]
theorem cntTo_le (p : Nat → Bool) (k : Nat) : cntTo p k ≤ k:=by have:=List.countP_le_length (p:=p) (l:=List.range k);simpa [cntTo] using this
theorem anyTo_at {p : Nat → Bool} {k : Nat} (hk : k < 8) (h : p k = true) : anyTo p 8 = true:=List.any_eq_true.2 ⟨k,by simpa using hk,h⟩
theorem fits_ref {s : Sg} {m : Mk} {t : Int} (hm : m.n ≤ 255) (hs0 : 0 ≤ s.n) (hs1 : s.n ≤ 255) (ho : onI s.n s.l s.r = s.n) :
 fits s m t = (alikeBP s m && (!anyTo (missB s m) 8 && decide ((cntTo (moreB s m) 8 : Int) ≤ t))):=by
 have htorn : ∀ i,i < 8 → tornB s.l s.r i = true → bit s.n i = false:=fun i hi h => by
  have:=bit_on s.n s.l s.r i hi
  rw [ho,h] at this
  simpa using this
 have e1 : decide (butI (onI m.n s.l s.r) s.n = 0) = !anyTo (missB s m) 8:=by
  rw [Bool.eq_iff_iff,decide_eq_true_eq,eq_zero_iff (butI_lo _ _) (butI_hi _ _)]
  simp only [Bool.not_eq_true']
  constructor
  ·intro h
   refine List.any_eq_false.2 fun i hi => ?_
   have hi' : i < 8:=by simpa using hi
   have:=h i hi'
   rw [bit_but _ _ hs1 i hi',bit_on _ _ _ _ hi'] at this
   unfold missB
   revert this
   cases bit m.n i <;> cases bit s.n i <;> cases tornB s.l s.r i <;> simp
  ·intro h i hi
   have:=(List.any_eq_false.1 h) i (by simpa using hi)
   rw [bit_but _ _ hs1 i hi,bit_on _ _ _ _ hi]
   unfold missB at this
   revert this
   cases bit m.n i <;> cases bit s.n i <;> cases tornB s.l s.r i <;> simp
 have e2 : popI (butI s.n (onI m.n s.l s.r)) = cntTo (moreB s m) 8:=by
  unfold popI
  show cnt _ = cnt _
  refine cnt_congr fun i hi => ?_
  rw [bit_but _ _ (onI_hi _ _ _) i hi,bit_on _ _ _ _ hi]
  unfold moreB
  have:=htorn i hi
  revert this
  cases bit m.n i <;> cases bit s.n i <;> cases tornB s.l s.r i <;> simp
 unfold fits
 rw [e1,e2,Bool.and_assoc]
set_option maxRecDepth 100000 in
set_option maxHeartbeats 2000000 in
theorem rFits (s : Sg) (m : Mk) (t : Int) (w : World) (hm0 : 0 ≤ m.n) (hm1 : m.n ≤ 255) (hs0 : 0 ≤ s.n) (hs1 : s.n ≤ 255) (ho : onI s.n s.l s.r = s.n) :
 Calls Try.prog 28 #[vSg s,vMk m,.int .i64 t] w fun e w' => e = .returned (.bool (fits s m t)) ∧ Below w.heap.size w w':=by
 have HF:=Lib.hid (fits_ref (t:=t) hm1 hs0 hs1 ho)
 obtain ⟨R,hR⟩ : ∃ R,R = fits s m t:=⟨_,rfl⟩
 rw [← hR]
 have HRR:=Lib.hid hR
 clear hR ho
 go_enter Try.func28,Try.ntmps28
 unfold vSg vMk
 go_upto_region 1 with (fail)
 go_cut [30] (fun q wc => q = .bool (!alikeBP s m) ∧ ((w.alloc (Obj.cells #[Value.int .i64 s.n,.bool s.l,.bool s.r,.int .i64 s.b,.int .i64 s.p] 36)).alloc (Obj.cells #[Value.int .i64 m.n,.int .i64 m.b,.int .i64 m.p] 62)) = wc)
 case first =>
  cases e1 : (s.b != -1) <;> cases e2 : (s.b != m.b) <;> cases e3 : (s.p != -1) <;> cases e4 : (s.p != m.p)
  all_goals
   go_wp2
   go_meet
   exact ⟨by simp_all [alikeBP],rfl⟩
 case rest =>
  obtain ⟨rfl,rfl⟩:=hcut
  obtain ⟨W0,hW⟩ : ∃ W0,W0 = (w.alloc (Obj.cells #[Value.int .i64 s.n,.bool s.l,.bool s.r,.int .i64 s.b,.int .i64 s.p] 36)).alloc (Obj.cells #[Value.int .i64 m.n,.int .i64 m.b,.int .i64 m.p] 62):=⟨_,rfl⟩
  rw [← hW]
  have hB0 : Below w.heap.size w W0:=by rw [hW];exact bal (bal0 w _) (Nat.le_refl _) _
  have b0 : W0.heap[w.heap.size]? = some (Obj.cells #[Value.int .i64 s.n,.bool s.l,.bool s.r,.int .i64 s.b,.int .i64 s.p] 36 (0,0)):=by rw [hW];exact hblk_alloc (alloc_at rfl) _
  have b1 : W0.heap[w.heap.size + 1]? = some (Obj.cells #[Value.int .i64 m.n,.int .i64 m.b,.int .i64 m.p] 62 (0,0)):=by rw [hW];exact alloc_at (by simp)
  clear hW
  have HB:=Lib.hid (And.intro b0 (And.intro b1 hB0))
  clear b0 b1 hB0
  cases hal : alikeBP s m
  ·have HE:=Lib.hid hal
   go_wp2
   go_ret
   exact ⟨ret_bool (by rw [HRR.out,HF.out,HE.out];rfl),HB.out.2.2⟩
  ·have HE:=Lib.hid hal
   clear hal
   simp only [Bool.not_true]
   go_wp2_with fail
   go_loopg [7,8] 8 (fun g x i wr => ∃ k : Nat,k + g = 8 ∧ i = .int .i64 k ∧ ∃ q : Nat,x = .int .i64 q ∧ q = cntTo (moreB s m) k ∧ anyTo (missB s m) k = false ∧ Below W0.heap.size W0 wr)
   case atStart => exact ⟨0,by omega,rfl,0,rfl,rfl,rfl,Below.refl _ _⟩
   case round =>
    obtain ⟨k,hk,rfl,q,rfl,hq,hno,hbl⟩:=hrel
    have hqk : q ≤ k:=by rw [hq];exact cntTo_le _ _
    have HK:=Lib.hid (And.intro hk (And.intro hq hno))
    have hk8 : k ≤ 8:=by omega
    clear hk hq hno
    obtain ⟨s0,s1,s2,s3,s4⟩:=blk5 (bheap HB.out.1 hbl (Nat.le_refl _))
    by_cases hlt : k < 8
    ·have hlt' : (k : Int) < 8:=by omega
     go_wp2_with fail
     refine (rTorn s k _ hk8).mono ?_
     rintro e w2 ⟨rfl,hb2⟩
     have hbl2:=hbl.trans (hb2.mono hbl.size)
     clear s0 s1 s2 s3 s4 hb2
     obtain ⟨s0,s1,s2,s3,s4⟩:=blk5 (bheap HB.out.1 hbl2 (Nat.le_refl _))
     obtain ⟨m0,m1,m2⟩:=blk3 (bheap HB.out.2.1 hbl2 (Nat.le_refl _))
     cases ht : tornB s.l s.r k
     ·cases hbm : bit m.n k <;> cases hbs : bit s.n k
      ·have HT:=Lib.hid (And.intro ht (And.intro hbm hbs))
       go_wp2_with (go_at_call 80;refine (rHas _ k _ (by assumption) (by assumption) hk8).mono ?_;rintro e w3 ⟨rfl,rfl⟩)
       go_roundg (gk - 1)
       case measure => have:=HK.out.1;omega
       case rel => exact ⟨k + 1,by have:=HK.out.1;omega,by go_num,q,rfl,by rw [cntTo_succ,HK.out.2.1];simp [moreB,HT.out.1,HT.out.2.1,HT.out.2.2],by rw [anyTo_succ,HK.out.2.2];simp [missB,HT.out.1,HT.out.2.1,HT.out.2.2],hbl2⟩
      ·have HT:=Lib.hid (And.intro ht (And.intro hbm hbs))
       go_wp2_with (go_at_call 80;refine (rHas _ k _ (by assumption) (by assumption) hk8).mono ?_;rintro e w3 ⟨rfl,rfl⟩)
       go_roundg (gk - 1)
       case measure => have:=HK.out.1;omega
       case rel => exact ⟨k + 1,by have:=HK.out.1;omega,by go_num,q + 1,by go_num,by rw [cntTo_succ,HK.out.2.1];simp [moreB,HT.out.1,HT.out.2.1,HT.out.2.2],by rw [anyTo_succ,HK.out.2.2];simp [missB,HT.out.1,HT.out.2.1,HT.out.2.2],hbl2⟩
      ·have HT:=Lib.hid (And.intro ht (And.intro hbm hbs))
       go_wp2_with (go_at_call 80;refine (rHas _ k _ (by assumption) (by assumption) hk8).mono ?_;rintro e w3 ⟨rfl,rfl⟩)
       go_ret
       have h8:=anyTo_at (p:=missB s m) hlt (by simp [missB,HT.out.1,HT.out.2.1,HT.out.2.2])
       exact ⟨ret_bool (by rw [HRR.out,HF.out,h8];simp),HB.out.2.2.trans (hbl2.mono HB.out.2.2.size)⟩
      ·have HT:=Lib.hid (And.intro ht (And.intro hbm hbs))
       go_wp2_with (go_at_call 80;refine (rHas _ k _ (by assumption) (by assumption) hk8).mono ?_;rintro e w3 ⟨rfl,rfl⟩)
       go_roundg (gk - 1)
       case measure => have:=HK.out.1;omega
       case rel => exact ⟨k + 1,by have:=HK.out.1;omega,by go_num,q,rfl,by rw [cntTo_succ,HK.out.2.1];simp [moreB,HT.out.1,HT.out.2.1,HT.out.2.2],by rw [anyTo_succ,HK.out.2.2];simp [missB,HT.out.1,HT.out.2.1,HT.out.2.2],hbl2⟩
     ·have HT:=Lib.hid ht
      go_wp2
      go_roundg (gk - 1)
      case measure => have:=HK.out.1;omega
      case rel => exact ⟨k + 1,by have:=HK.out.1;omega,by go_num,q,rfl,by rw [cntTo_succ,HK.out.2.1];simp [moreB,HT.out],by rw [anyTo_succ,HK.out.2.2];simp [missB,HT.out],hbl2⟩
    ·obtain rfl : k = 8:=by omega
     go_wp2
     go_ret
     exact ⟨ret_bool (by rw [HRR.out,HF.out,HE.out,HK.out.2.2,← HK.out.2.1];simp),HB.out.2.2.trans (hbl.mono HB.out.2.2.size)⟩
end Go.Proofs.Ytmennjmjakdkcaa
