/- HerdAll 30: TruS, TruO, TruP, TruX. -/
import Derived.Test.YtmennjmjakdkcaaGreatAl29
import Derived.Test.YtmennjmjakdkcaaGreatAl26
import Derived.BigRegion
namespace Go.Proofs.YtmennjmjakdkcaaGreat
open Go.RowKit
set_option linter.unusedVariables false
set_option linter.unusedSimpArgs false
set_option maxRecDepth 1000000
noncomputable def rgTru31:Code:=((Tryz.f28.body.bind (findRgn 31)).getD .skip)
def RgTruQ31 (DK bn on0 k cn:Nat) (v0 v1 v2 v3 v4 v5 v6 v7 v8 v9 Z0 Z1 Z2 Z3 Z4 Z5 Z6 Z7 Z8 Z9 ZA ZB ZC ZD ZE ZF ZG ZH ZI ZJ ZK ZL ZM ZN ZO ZP ZQ ZR ZS ZT ZU ZV ZW ZX ZY ZZ Za Zb Zc Zd Ze Zf Zg Zh Zi Zj Zk Zl Zm Zn Zo Zp Zq Zr Zs Zt Zu Zv Zw Zx Zy Zz Y0 Y1 Y2 Y3 Y4 Y5 Y6 Y7 Y8 Y9 YA YB YC YD YE YF YG YH YI YJ YK YL YM YN YO YP YQ YR YS YT YU YV YW YX YY YZ Ya Yb Yc Yd Ye Yf Yg Yh Yi Yj Yk Yl Ym Yn Yo Yp Yq Yr Ys Yt Yu Yv Yw Yx Yy Yz X0 X1 X2 X3 X4 X5 X6 X7 X8 X9 XA XB XC XD XE XF XG XH XI XJ XK XL XM XN XO XP XQ XR XS XT XU XV XW XX XY XZ Xa Xb Xc Xd Xe Xf Xg Xh Xi Xj Xk Xl Xm Xn Xo Xp Xq Xr Xs Xt Xu Xv Xw Xx Xy Xz K0 K1 K2 K3 K4 K5 K6 K7 K8 K9 KA KB KC KD KE KF KG KH KI KJ KK KL KM KN KO KP KQ KR KS KT KU KV KW KX KY KZ Ka Kb Kc Kd Ke Kf Kg Kh Ki Kj Kk Kl Km Kn Ko Kp Kq Kr Ks Kt Ku Kv Kw Kx Ky Kz J0 J1 J2 J3 J4 J5 J6 J7 J8 J9 JA JB JC JD JE JF JG JH JI JJ JK JL JM JN JO JP JQ JR JS JT JU JV JW JX JY JZ Ja Jb Jc Jd Je Jf Jg Jh Ji Jj Jk Jl Jm Jn Jo Jp Jq Jr Js Jt Ju Jv Jw Jx Jy Jz G0 G1 G2 G3 G4 G5 G6 G7 G8 G9 GA GB GC GD GE GF GG GH GI GJ GK GL GM GN GO GP GQ GR GS GT GU GV GW GX GY GZ Ga Gb Gc Gd Ge Gf Gg Gh Gi Gj Gk Gl Gm Gn Gp Gq Gr Gs Gt Gu Gv Gw Gx Gy Gz F0 F1 F2 F3 F4 F5 F6 F7 F8 F9 FA FB:Value) (Q:Exit→Act→World→Prop) (w':World):Prop:=∀ (FC FD FE FF FG FH FI FJ FK FL FM FN FO FP FQ FR FS FT FU FV FW FX FY FZ Fa Fb Fc Fd Fe Ff Fg Fh Fi Fj Fk Fl Fm Fn Fo Fp:Value),Q .normal ⟨#[v0,v1,v2,v3,v4,v5,v6,v7,v8,v9,Z0,Z1,Z2,Z3,Z4,Z5,Z6,Z7,Value.pointer (some ⟨DK,0,none⟩),Value.slice (some ⟨bn,on0,none⟩) k cn,Z8,Z9,ZA,ZB,ZC,ZD,ZE,ZF,ZG,ZH,ZI,ZJ,ZK,ZL,ZM,ZN,ZO,ZP,ZQ,ZR,ZS,ZT,ZU,ZV,ZW,ZX,ZY,ZZ,Za,Zb,Zc,Zd,Ze,Zf,Zg,Zh,Zi,Zj,Zk,Zl,Zm,Zn,Zo,Zp,Zq,Zr,Zs,Zt,Zu,Zv,Zw,Zx,Zy,Zz,Y0,Y1,Y2,Y3,Y4,Y5,Y6,Y7,Y8,Y9,YA,YB,YC,YD,YE,YF,YG,YH,YI,YJ,YK,YL,YM,YN,YO,YP,YQ,YR,YS,YT,YU,YV,YW,YX,YY,YZ,Ya,Yb,Yc,Yd,Ye,Yf,Yg,Yh,Yi,Yj,Yk,Yl,Ym,Yn,Yo,Yp,Yq,Yr,Ys,Yt,Yu,Yv,Yw,Yx,Yy,Yz,X0,X1,X2,X3,X4,X5,X6,X7,X8,X9,XA,XB,XC,XD,XE,XF,XG,XH,XI,FC,FD,FE,FF,FG,FH,FI,FJ,FK,FL,FM,FN,FO,FP,FQ,FR,FS,FT,FU,FV,FW,FX,FY,FZ,Fa,Fb,Fc,Fd,Fe,Ff,Fg,Fh,Fi,Fj,Fk,Fl,Fm,Fn,Fo,Fp,Xx,Xy,Xz,K0,K1,K2,K3,K4,K5,K6,K7,K8,K9,KA,KB,KC,KD,KE,KF,KG,KH,KI,KJ,KK,KL,KM,KN,KO,KP,KQ,KR,KS,KT,KU,KV,KW,KX,KY,KZ,Ka,Kb,Kc,Kd,Ke,Kf,Kg,Kh,Ki,Kj,Kk,Kl,Km,Kn,Ko,Kp,Kq,Kr,Ks,Kt,Ku,Kv,Kw,Kx,Ky,Kz,J0,J1,J2,J3,J4,J5,J6,J7,J8,J9,JA,JB,JC,JD,JE,JF,JG,JH,JI,JJ,JK,JL,JM,JN,JO,JP,JQ,JR,JS,JT,JU,JV,JW,JX,JY,JZ,Ja,Jb,Jc,Jd,Je,Jf,Jg,Jh,Ji,Jj,Jk,Jl,Jm,Jn,Jo,Jp,Jq,Jr,Js,Jt,Ju,Jv,Jw,Jx,Jy,Jz,G0,G1,G2,G3,G4,G5,G6,G7,G8,G9,GA,GB,GC,GD,GE,GF,GG,GH,GI,GJ,GK,GL,GM,GN,GO,GP,GQ,GR,GS,GT,GU,GV,GW,GX,GY,GZ,Ga,Gb,Gc,Gd,Ge,Gf,Gg,Gh,Gi,Gj,Gk,Gl,Gm,Gn,Gp,Gq,Gr,Gs,Gt,Gu,Gv,Gw,Gx,Gy,Gz,F0,F1,F2,F3,F4,F5,F6,F7,F8,F9,FA,FB],[]⟩ w'
set_option maxHeartbeats 8000000 in
theorem tru_sold (DK bn on0 k cn:Nat) (w2 V1:World) (g cg nl fn on xn:Nat) (x y many:Int) (v0 v1 v2 v3 v4 v5 v6 v7 v8 v9 Z0 Z1 Z2 Z3 Z4 Z5 Z6 Z7 Z8 Z9 ZA ZB ZC ZD ZE ZF ZG ZH ZI ZJ ZK ZL ZM ZN ZO ZP ZQ ZR ZS ZT ZU ZV ZW ZX ZY ZZ Za Zb Zc Zd Ze Zf Zg Zh Zi Zj Zk Zl Zm Zn Zo Zp Zq Zr Zs Zt Zu Zv Zw Zx Zy Zz Y0 Y1 Y2 Y3 Y4 Y5 Y6 Y7 Y8 Y9 YA YB YC YD YE YF YG YH YI YJ YK YL YM YN YO YP YQ YR YS YT YU YV YW YX YY YZ Ya Yb Yc Yd Ye Yf Yg Yh Yi Yj Yk Yl Ym Yn Yo Yp Yq Yr Ys Yt Yu Yv Yw Yx Yy Yz X0 X1 X2 X3 X4 X5 X6 X7 X8 X9 XA XB XC XD XE XF XG XH XI XJ XK XL XM XN XO XP XQ XR XS XT XU XV XW XX XY XZ Xa Xb Xc Xd Xe Xf Xg Xh Xi Xj Xk Xl Xm Xn Xo Xp Xq Xr Xs Xt Xu Xv Xw Xx Xy Xz K0 K1 K2 K3 K4 K5 K6 K7 K8 K9 KA KB KC KD KE KF KG KH KI KJ KK KL KM KN KO KP KQ KR KS KT KU KV KW KX KY KZ Ka Kb Kc Kd Ke Kf Kg Kh Ki Kj Kk Kl Km Kn Ko Kp Kq Kr Ks Kt Ku Kv Kw Kx Ky Kz J0 J1 J2 J3 J4 J5 J6 J7 J8 J9 JA JB JC JD JE JF JG JH JI JJ JK JL JM JN JO JP JQ JR JS JT JU JV JW JX JY JZ Ja Jb Jc Jd Je Jf Jg Jh Ji Jj Jk Jl Jm Jn Jo Jp Jq Jr Js Jt Ju Jv Jw Jx Jy Jz G0 G1 G2 G3 G4 G5 G6 G7 G8 G9 GA GB GC GD GE GF GG GH GI GJ GK GL GM GN GO GP GQ GR GS GT GU GV GW GX GY GZ Ga Gb Gc Gd Ge Gf Gg Gh Gi Gj Gk Gl Gm Gn Gp Gq Gr Gs Gt Gu Gv Gw Gx Gy Gz F0 F1 F2 F3 F4 F5 F6 F7 F8 F9 FA FB:Value) (Q:Exit→Act→World→Prop)
 (HCD:Hid (∀ w',PS1 w2.drew V1 0 w'→w'.cell? ⟨DK,1,none⟩ = some (.int .i64 (fn:Int))∧w'.cell? ⟨DK,2,none⟩ = some (.int .i64 (on:Int))∧w'.cell? ⟨DK,3,none⟩ = some (.int .i64 (xn:Int))∧w'.cell? ⟨DK,5,none⟩ = some (.int .i64 many)∧DK < w'.heap.size))
 (HV1:Hid (V1 = w2.drew.setCell ⟨g,on,none⟩ (.int .i64 (x - many))))
 (z1:w2.cell? ⟨DK,1,none⟩ = some (.int .i64 (fn:Int))) (z2:w2.cell? ⟨DK,2,none⟩ = some (.int .i64 (on:Int))) (z3:w2.cell? ⟨DK,3,none⟩ = some (.int .i64 (xn:Int))) (z5:w2.cell? ⟨DK,5,none⟩ = some (.int .i64 many)) (hlD:DK < w2.heap.size)
 (yr:w2.cell? ⟨bn,on0 + fn,none⟩ = some (.slice (some ⟨g,0,none⟩) nl cg)) (yc:w2.cell? ⟨g,on,none⟩ = some (.int .i64 x)) (yc':w2.cell? ⟨g,xn,none⟩ = some (.int .i64 y)) (fz:w2.frozen? ⟨g,on,none⟩ = false)
 (ux:V1.cell? ⟨g,xn,none⟩ = some (.int .i64 y)) (uf:V1.frozen? ⟨g,xn,none⟩ = false) (ul:g < V1.heap.size)
 (hxb:-140 ≤ x∧x ≤ 140) (hyb:-140 ≤ y∧y ≤ 140) (hm:0 ≤ many∧many ≤ 20) (i2:(fn:Int) < (k:Int)) (i3:(on:Int) < (nl:Int)) (i4:(xn:Int) < (nl:Int)) (hbn:bn < w2.heap.size) (hgl:g < w2.heap.size) (hgc:nl ≤ cg) (hgm:cg ≤ maxLen) (hcn:cn ≤ maxLen)
 (HQ:RgTruQ31 DK bn on0 k cn v0 v1 v2 v3 v4 v5 v6 v7 v8 v9 Z0 Z1 Z2 Z3 Z4 Z5 Z6 Z7 Z8 Z9 ZA ZB ZC ZD ZE ZF ZG ZH ZI ZJ ZK ZL ZM ZN ZO ZP ZQ ZR ZS ZT ZU ZV ZW ZX ZY ZZ Za Zb Zc Zd Ze Zf Zg Zh Zi Zj Zk Zl Zm Zn Zo Zp Zq Zr Zs Zt Zu Zv Zw Zx Zy Zz Y0 Y1 Y2 Y3 Y4 Y5 Y6 Y7 Y8 Y9 YA YB YC YD YE YF YG YH YI YJ YK YL YM YN YO YP YQ YR YS YT YU YV YW YX YY YZ Ya Yb Yc Yd Ye Yf Yg Yh Yi Yj Yk Yl Ym Yn Yo Yp Yq Yr Ys Yt Yu Yv Yw Yx Yy Yz X0 X1 X2 X3 X4 X5 X6 X7 X8 X9 XA XB XC XD XE XF XG XH XI XJ XK XL XM XN XO XP XQ XR XS XT XU XV XW XX XY XZ Xa Xb Xc Xd Xe Xf Xg Xh Xi Xj Xk Xl Xm Xn Xo Xp Xq Xr Xs Xt Xu Xv Xw Xx Xy Xz K0 K1 K2 K3 K4 K5 K6 K7 K8 K9 KA KB KC KD KE KF KG KH KI KJ KK KL KM KN KO KP KQ KR KS KT KU KV KW KX KY KZ Ka Kb Kc Kd Ke Kf Kg Kh Ki Kj Kk Kl Km Kn Ko Kp Kq Kr Ks Kt Ku Kv Kw Kx Ky Kz J0 J1 J2 J3 J4 J5 J6 J7 J8 J9 JA JB JC JD JE JF JG JH JI JJ JK JL JM JN JO JP JQ JR JS JT JU JV JW JX JY JZ Ja Jb Jc Jd Je Jf Jg Jh Ji Jj Jk Jl Jm Jn Jo Jp Jq Jr Js Jt Ju Jv Jw Jx Jy Jz G0 G1 G2 G3 G4 G5 G6 G7 G8 G9 GA GB GC GD GE GF GG GH GI GJ GK GL GM GN GO GP GQ GR GS GT GU GV GW GX GY GZ Ga Gb Gc Gd Ge Gf Gg Gh Gi Gj Gk Gl Gm Gn Gp Gq Gr Gs Gt Gu Gv Gw Gx Gy Gz F0 F1 F2 F3 F4 F5 F6 F7 F8 F9 FA FB Q (V1.setCell ⟨g,xn,none⟩ (.int .i64 (y + many)))) :
 Code.wp Tryz.prog rgTru31 Q ⟨#[v0,v1,v2,v3,v4,v5,v6,v7,v8,v9,Z0,Z1,Z2,Z3,Z4,Z5,Z6,Z7,Value.pointer (some ⟨DK,0,none⟩),Value.slice (some ⟨bn,on0,none⟩) k cn,Z8,Z9,ZA,ZB,ZC,ZD,ZE,ZF,ZG,ZH,ZI,ZJ,ZK,ZL,ZM,ZN,ZO,ZP,ZQ,ZR,ZS,ZT,ZU,ZV,ZW,ZX,ZY,ZZ,Za,Zb,Zc,Zd,Ze,Zf,Zg,Zh,Zi,Zj,Zk,Zl,Zm,Zn,Zo,Zp,Zq,Zr,Zs,Zt,Zu,Zv,Zw,Zx,Zy,Zz,Y0,Y1,Y2,Y3,Y4,Y5,Y6,Y7,Y8,Y9,YA,YB,YC,YD,YE,YF,YG,YH,YI,YJ,YK,YL,YM,YN,YO,YP,YQ,YR,YS,YT,YU,YV,YW,YX,YY,YZ,Ya,Yb,Yc,Yd,Ye,Yf,Yg,Yh,Yi,Yj,Yk,Yl,Ym,Yn,Yo,Yp,Yq,Yr,Ys,Yt,Yu,Yv,Yw,Yx,Yy,Yz,X0,X1,X2,X3,X4,X5,X6,X7,X8,X9,XA,XB,XC,XD,XE,XF,XG,XH,XI,XJ,XK,XL,XM,XN,XO,XP,XQ,XR,XS,XT,XU,XV,XW,XX,XY,XZ,Xa,Xb,Xc,Xd,Xe,Xf,Xg,Xh,Xi,Xj,Xk,Xl,Xm,Xn,Xo,Xp,Xq,Xr,Xs,Xt,Xu,Xv,Xw,Xx,Xy,Xz,K0,K1,K2,K3,K4,K5,K6,K7,K8,K9,KA,KB,KC,KD,KE,KF,KG,KH,KI,KJ,KK,KL,KM,KN,KO,KP,KQ,KR,KS,KT,KU,KV,KW,KX,KY,KZ,Ka,Kb,Kc,Kd,Ke,Kf,Kg,Kh,Ki,Kj,Kk,Kl,Km,Kn,Ko,Kp,Kq,Kr,Ks,Kt,Ku,Kv,Kw,Kx,Ky,Kz,J0,J1,J2,J3,J4,J5,J6,J7,J8,J9,JA,JB,JC,JD,JE,JF,JG,JH,JI,JJ,JK,JL,JM,JN,JO,JP,JQ,JR,JS,JT,JU,JV,JW,JX,JY,JZ,Ja,Jb,Jc,Jd,Je,Jf,Jg,Jh,Ji,Jj,Jk,Jl,Jm,Jn,Jo,Jp,Jq,Jr,Js,Jt,Ju,Jv,Jw,Jx,Jy,Jz,G0,G1,G2,G3,G4,G5,G6,G7,G8,G9,GA,GB,GC,GD,GE,GF,GG,GH,GI,GJ,GK,GL,GM,GN,GO,GP,GQ,GR,GS,GT,GU,GV,GW,GX,GY,GZ,Ga,Gb,Gc,Gd,Ge,Gf,Gg,Gh,Gi,Gj,Gk,Gl,Gm,Gn,Gp,Gq,Gr,Gs,Gt,Gu,Gv,Gw,Gx,Gy,Gz,F0,F1,F2,F3,F4,F5,F6,F7,F8,F9,FA,FB],[]⟩ w2:=by
 dsimp only
 conv => arg 2;whnf
 refine wp_region_tag 40 39 1 [0,1,2,3,4,5,6,11,14,15,16,17,18,19,20,21,22,23,24,25,30,34,38] [] 0 (TS1 w2.drew V1) (PS1 w2.drew V1) [0,0,0,0,0,0,0,0,0,0,0,0,0,0,0,0,0,0,0,0,0,0,0,0,0,0,0,0,0,0,0,0,0,0,0,0,0,0,0,1] (by as_aux_lemma => kernel_rfl) (by as_aux_lemma => kernel_rfl) (by as_aux_lemma => kernel_rfl) (by as_aux_lemma => kernel_rfl) (by omega) (.inr rfl) (by as_aux_lemma => kernel_rfl) rfl (fun k j w1 w2 hc _ hT hp => PS1.st k j w1 w2 hc hT hp) (fun k => PS1.start k) ?_
 apply Exists.intro
 refine ⟨fun ys => ?_,fun ops K hK => ?_⟩
 ·simp only [List.take_succ_cons,List.take_zero,dstsOf,List.filterMap_cons,List.filterMap_nil,putAll]
  go_simp
  rfl
 simp only [List.take_succ_cons,List.take_zero,List.drop_succ_cons,List.drop_zero] at hK ⊢
 iterate 7
  refine LexT.const (fun _ => rfl) ?_
  apply Exists.intro
  refine ⟨fun ys w' hp hpk hq hd => ?_,?_⟩
  ·try simp [DepsOf,depsGo,DF.holds,Region.binds,EqF] at hd
   try simp only [hd]
   replace hq:w' = w2.drew:=hq (by simp)
   subst hq
   clear hpk hp
   intro Q2 hQ2
   go_wp2_with fail
   rfl
  try simp only [List.nil_append,List.cons_append]
 iterate 4
  refine LexT.const (fun _ => rfl) ?_
  apply Exists.intro
  refine ⟨fun ys w' hp hpk hq hd => ?_,?_⟩
  ·try simp [DepsOf,depsGo,DF.holds,Region.binds,EqF] at hd
   try simp only [hd]
   obtain ⟨d1,d2,d3,d5,dl⟩:=HCD.out w' hp
   clear hp hpk hq
   intro Q2 hQ2
   go_wp2_with fail
   rfl
  try simp only [List.nil_append,List.cons_append]
 iterate 1
  refine LexT.const (fun _ => rfl) ?_
  apply Exists.intro
  refine ⟨fun ys w' hp hpk hq hd => ?_,?_⟩
  ·try simp [DepsOf,depsGo,DF.holds,Region.binds,EqF] at hd
   try simp only [hd]
   replace hq:w' = w2.drew:=hq (by simp)
   subst hq
   clear hpk hp
   intro Q2 hQ2
   go_wp2_with fail
   rfl
  try simp only [List.nil_append,List.cons_append]
 iterate 2
  refine LexT.const (fun _ => rfl) ?_
  apply Exists.intro
  refine ⟨fun ys w' hp hpk hq hd => ?_,?_⟩
  ·try simp [DepsOf,depsGo,DF.holds,Region.binds,EqF] at hd
   try simp only [hd]
   obtain ⟨d1,d2,d3,d5,dl⟩:=HCD.out w' hp
   clear hp hpk hq
   intro Q2 hQ2
   go_wp2_with fail
   rfl
  try simp only [List.nil_append,List.cons_append]
 iterate 12
  refine LexT.const (fun _ => rfl) ?_
  apply Exists.intro
  refine ⟨fun ys w' hp hpk hq hd => ?_,?_⟩
  ·try simp [DepsOf,depsGo,DF.holds,Region.binds,EqF] at hd
   try simp only [hd]
   replace hq:w' = w2.drew:=hq (by simp)
   subst hq
   clear hpk hp
   intro Q2 hQ2
   go_wp2_with fail
   rfl
  try simp only [List.nil_append,List.cons_append]
 iterate 4
  refine LexT.const (fun _ => rfl) ?_
  apply Exists.intro
  refine ⟨fun ys w' hp hpk hq hd => ?_,?_⟩
  ·try simp [DepsOf,depsGo,DF.holds,Region.binds,EqF] at hd
   try simp only [hd]
   obtain ⟨d1,d2,d3,d5,dl⟩:=HCD.out w' hp
   clear hp hpk hq
   intro Q2 hQ2
   go_wp2_with fail
   rfl
  try simp only [List.nil_append,List.cons_append]
 iterate 1
  refine LexT.const (fun _ => rfl) ?_
  apply Exists.intro
  refine ⟨fun ys w' hp hpk hq hd => ?_,?_⟩
  ·try simp [DepsOf,depsGo,DF.holds,Region.binds,EqF] at hd
   try simp only [hd]
   replace hq:w' = w2.drew:=hq (by simp)
   subst hq
   clear hpk hp
   intro Q2 hQ2
   go_wp2_with fail
   rfl
  try simp only [List.nil_append,List.cons_append]
 iterate 3
  refine LexT.const (fun _ => rfl) ?_
  apply Exists.intro
  refine ⟨fun ys w' hp hpk hq hd => ?_,?_⟩
  ·try simp [DepsOf,depsGo,DF.holds,Region.binds,EqF] at hd
   try simp only [hd]
   obtain ⟨d1,d2,d3,d5,dl⟩:=HCD.out w' hp
   clear hp hpk hq
   intro Q2 hQ2
   go_wp2_with fail
   rfl
  try simp only [List.nil_append,List.cons_append]
 iterate 1
  refine LexT.const (fun _ => rfl) ?_
  apply Exists.intro
  refine ⟨fun ys w' hp hpk hq hd => ?_,?_⟩
  ·try simp [DepsOf,depsGo,DF.holds,Region.binds,EqF] at hd
   try simp only [hd]
   replace hq:w' = w2.drew:=hq (by simp)
   subst hq
   clear hpk hp
   intro Q2 hQ2
   go_wp2_with fail
   rfl
  try simp only [List.nil_append,List.cons_append]
 iterate 3
  refine LexT.const (fun _ => rfl) ?_
  apply Exists.intro
  refine ⟨fun ys w' hp hpk hq hd => ?_,?_⟩
  ·try simp [DepsOf,depsGo,DF.holds,Region.binds,EqF] at hd
   try simp only [hd]
   obtain ⟨d1,d2,d3,d5,dl⟩:=HCD.out w' hp
   clear hp hpk hq
   intro Q2 hQ2
   go_wp2_with fail
   rfl
  try simp only [List.nil_append,List.cons_append]
 iterate 1
  refine LexT.const (fun _ => rfl) ?_
  apply Exists.intro
  refine ⟨fun ys w' hp hpk hq hd => ?_,?_⟩
  ·try simp [DepsOf,depsGo,DF.holds,Region.binds,EqF] at hd
   try simp only [hd]
   replace hq:w' = w2.drew:=hq (by simp)
   subst hq
   clear hpk hp
   intro Q2 hQ2
   go_wp2_with fail
   rfl
  try simp only [List.nil_append,List.cons_append]
 refine LexT.some (fun _ w => w = V1) (fun j v w1 w2 hc _ hT h => TS1.keep j v w1 w2 hc hT h) (fun ys w' hp hpk hq hd => ?_) ?_
 ·try simp [DepsOf,depsGo,DF.holds,Region.binds,EqF] at hd
  try simp only [hd]
  replace hpk:w' = w2.drew:=hpk
  subst hpk
  intro Q2 hQ2
  go_wp2_with fail
  exact ⟨⟨rfl,HV1.out.symm⟩,HV1.out.symm⟩
 try simp only [List.nil_append,List.cons_append]
 refine hK _ fun ys w' hp hF => ?_
 simp [AllF,DF.holds] at hF
 obtain ⟨q0,q1,q2,q3,q4,q5,q6,q7,q8,q9,q10,q11,q12,q13,q14,q15,q16,q17,q18,q19,q20,q21,q22,q23,q24,q25,q26,q27,q28,q29,q30,q31,q32,q33,q34,q35,q36,q37,q38,hw⟩:=hF
 subst hw
 simp only [q0,q1,q2,q3,q4,q5,q6,q7,q8,q9,q10,q11,q12,q13,q14,q15,q16,q17,q18,q19,q20,q21,q22,q23,q24,q25,q26,q27,q28,q29,q30,q31,q32,q33,q34,q35,q36,q37,q38]
 clear q0 q1 q2 q3 q4 q5 q6 q7 q8 q9 q10 q11 q12 q13 q14 q15 q16 q17 q18 q19 q20 q21 q22 q23 q24 q25 q26 q27 q28 q29 q30 q31 q32 q33 q34 q35 q36 q37 q38 hp hK
 go_wp2_with fail
 exact HQ _ _ _ _ _ _ _ _ _ _ _ _ _ _ _ _ _ _ _ _ _ _ _ _ _ _ _ _ _ _ _ _ _ _ _ _ _ _ _ _
end Go.Proofs.YtmennjmjakdkcaaGreat
namespace Go.Proofs.YtmennjmjakdkcaaGreat
set_option linter.unusedVariables false
set_option linter.unusedSimpArgs false
theorem srt_len {n m:Nat} (hn:n ≤ 5) (hm:m ≤ 3):((wordsL n m).filter sortB).length ≤ 35:=by
 have h:∀ n,n < 6→∀ m,m < 4→((wordsL n m).filter sortB).length ≤ 35:=by decide +kernel
 exact h n (by omega) m (by omega)
theorem step_len {t:Int} {l:List Mk} {deed owner:Int} {i:Nat} {d:De} {gs:List (List Int)} {nf:Nat} (hn:l.length ≤ 5) (hd:DeIn l.length nf d):(stepG t l deed owner i d gs).length ≤ 35:=by
 unfold stepG
 split
 ·simp
 split
 ·simp
 split
 ·simp
 split
 ·split <;> simp
 split
 ·rename_i h4
  unfold lostG
  rw [List.length_map]
  exact srt_len hn (by have:=hd.l h4;omega)
 ·unfold strG
  rw [List.length_map]
  refine Nat.le_trans (List.length_filter_le _ _) ?_
  rw [List.length_range]
  omega
theorem addsE_len:∀ (G:List (List (List Int))) (E:List (List Int)),(addsE E G).length ≤ E.length + G.length
 | [],E => Nat.le_refl _
 | g :: G,E => by
   have h:=addsE_len G (addE E g)
   have h2:(addE E g).length ≤ E.length + 1:=by
    unfold addE
    split
    ·omega
    ·simp
   show (addsE (addE E g) G).length ≤ _
   rw [List.length_cons]
   omega
theorem trG_len {t:Int} {l:List Mk} {deed owner:Int} {nf:Nat} (hn:l.length ≤ 5):∀ (ds:List De) (i:Nat) (gs:List (List Int)),(∀ d ∈ ds,DeIn l.length nf d)→(trG t l deed owner ds i gs).length ≤ 35 ^ ds.length
 | [],i,gs,_ => by
   unfold trG
   split <;> simp
 | d :: ds,i,gs,hd => by
   unfold trG
   split
   ·refine Nat.le_trans (flatMap_len (c:=35 ^ ds.length) fun g _ => trG_len hn ds (i + 1) g fun d hd' => hd d (List.mem_cons_of_mem _ hd')) ?_
    rw [List.length_cons,Nat.pow_succ,Nat.mul_comm (35 ^ ds.length)]
    exact Nat.mul_le_mul_right _ (step_len hn (hd d List.mem_cons_self))
   ·simp
end Go.Proofs.YtmennjmjakdkcaaGreat
namespace Go.Proofs.YtmennjmjakdkcaaGreat
set_option linter.unusedVariables false
set_option linter.unusedSimpArgs false
section
variable {α:Type}
def trE (E:List (List Int)) (P:α→Bool) (F:α→List (List (List Int))) (L:List α):List (List Int):=addsE E ((L.filter P).flatMap F)
theorem trE_yes {E:List (List Int)} {P:α→Bool} {F:α→List (List (List Int))} {L:List α} {k:Nat} {w:α} (h:L[k]? = some w) (hp:P w = true):trE E P F (L.take (k + 1)) = addsE (trE E P F (L.take k)) (F w):=by
 unfold trE
 rw [List.take_add_one,h,List.filter_append,List.flatMap_append,addsE_append]
 simp [hp]
theorem trE_no {E:List (List Int)} {P:α→Bool} {F:α→List (List (List Int))} {L:List α} {k:Nat} {w:α} (h:L[k]? = some w) (hp:P w = false):trE E P F (L.take (k + 1)) = trE E P F (L.take k):=by
 unfold trE
 rw [List.take_add_one,h,List.filter_append,List.flatMap_append,addsE_append]
 simp [hp,addsE]
theorem trE_len {E:List (List Int)} {P:α→Bool} {F:α→List (List (List Int))} {L:List α} {c:Nat} (hF:∀ w ∈ L,(F w).length ≤ c):(trE E P F L).length ≤ E.length + (L.filter P).length * c:=by
 refine Nat.le_trans (addsE_len _ _) (Nat.add_le_add_left ?_ _)
 exact flatMap_len fun w hw => hF w (List.mem_filter.1 hw).1
theorem trE_room {E:List (List Int)} {P:α→Bool} {F:α→List (List (List Int))} {L:List α} {c K k:Nat} {w:α} (hF:∀ w ∈ L,(F w).length ≤ c) (h:L[k]? = some w) (hp:P w = true) (hK:(L.filter P).length ≤ K):(trE E P F (L.take k)).length + c ≤ E.length + c * K:=by
 have h1:=trE_len (E:=E) (P:=P) (L:=L.take k) (F:=F) fun w hw => hF w (List.mem_of_mem_take hw)
 have h2:((L.take k).filter P).length + 1 ≤ (L.filter P).length:=by
  have h3:((L.take (k + 1)).filter P).length ≤ (L.filter P).length:=((List.take_sublist (k + 1) L).filter P).length_le
  rw [List.take_add_one,h,List.filter_append,List.length_append] at h3
  simpa [hp] using h3
 have h4:=Nat.mul_le_mul_right c (Nat.le_trans h2 hK)
 rw [Nat.succ_mul,Nat.mul_comm K] at h4
 omega
end
theorem sortB_snoc (a b:Int):∀ l:List Int,sortB (l ++ [a,b]) = (sortB (l ++ [a]) && decide (a ≤ b))
 | [] => by simp [sortB]
 | [x] => by simp [sortB]
 | x :: y :: l => by
   have h:=sortB_snoc a b (y :: l)
   show (decide (x ≤ y) && sortB ((y :: l) ++ [a,b])) = ((decide (x ≤ y) && sortB ((y :: l) ++ [a])) && decide (a ≤ b))
   rw [h,Bool.and_assoc]
theorem sortB_take {w:List Int} {k:Nat} {a b:Int} (ha:w[k]? = some a) (hb:w[k + 1]? = some b):sortB (w.take (k + 1 + 1)) = (sortB (w.take (k + 1)) && decide (a ≤ b)):=by
 have e1:w.take (k + 1) = w.take k ++ [a]:=by rw [List.take_add_one,ha];rfl
 have e2:w.take (k + 1 + 1) = w.take k ++ [a,b]:=by rw [List.take_add_one,hb,e1,List.append_assoc];rfl
 rw [e2,e1,sortB_snoc]
theorem subG_take {w:List Int} {k f:Nat} {b:Int} {gs:List (List Int)} (hb:w[k]? = some b):subG f (w.take (k + 1)) gs = addG (subG f (w.take k) gs) f b.toNat (-1):=by
 unfold subG
 rw [List.take_add_one,hb,List.foldl_append]
 rfl
theorem flatMap_map' {α β γ:Type} (l:List α) (f:α→β) (g:β→List γ):(l.map f).flatMap g = l.flatMap fun x => g (f x):=by
 induction l with
 | nil => rfl
 | cons x l ih => rw [List.map_cons,List.flatMap_cons,List.flatMap_cons,ih]
end Go.Proofs.YtmennjmjakdkcaaGreat
namespace Go.Proofs.YtmennjmjakdkcaaGreat
open Go.RowKit
set_option linter.unusedVariables false
set_option linter.unusedSimpArgs false
theorem EndG.two {w:World} {base bn off k cn n f o f' o':Nat} {gs:List (List Int)} (h:EndG w base (.slice (some ⟨bn,off,none⟩) k cn) gs) (hl:∀ r ∈ gs,r.length = n) (hf:f < gs.length) (ho:o < n) (hf':f' < gs.length) (ho':o' < n) (hne:f ≠ f' ∨ o ≠ o') :
 ∃ g cg g' cg',w.cell? ⟨bn,off + f,none⟩ = some (.slice (some ⟨g,0,none⟩) n cg)∧w.cell? ⟨bn,off + f',none⟩ = some (.slice (some ⟨g',0,none⟩) n cg') ∧
  (n ≤ cg∧cg ≤ maxLen∧n ≤ cg'∧cg' ≤ maxLen∧base ≤ g∧base ≤ g'∧g < w.heap.size∧g' < w.heap.size∧bn < w.heap.size∧(f = f'→g = g')) ∧
  w.cell? ⟨g,o,none⟩ = some (.int .i64 (getG gs f o))∧w.frozen? ⟨g,o,none⟩ = false∧w.cell? ⟨g',o',none⟩ = some (.int .i64 (getG gs f' o')) ∧
  ∀ x p,x = getG gs f o + p→((w.setCell ⟨g,o,none⟩ (.int .i64 x)).frozen? ⟨g',o',none⟩ = false∧(w.setCell ⟨g,o,none⟩ (.int .i64 x)).cell? ⟨g',o',none⟩ = some (.int .i64 (getG gs f' o'))∧g' < (w.setCell ⟨g,o,none⟩ (.int .i64 x)).heap.size) ∧
   ∀ y q,y = getG gs f' o' + q→EndG ((w.setCell ⟨g,o,none⟩ (.int .i64 x)).setCell ⟨g',o',none⟩ (.int .i64 y)) base (.slice (some ⟨bn,off,none⟩) k cn) (addG (addG gs f o p) f' o' q):=by
 have row:∀ {j},j < gs.length→(gs.getD j []).length = n:=fun {j} hj => hl _ (by rw [List.getD_eq_getElem?_getD,List.getElem?_eq_getElem hj];exact List.getElem_mem hj)
 obtain ⟨b,off1,c,g,cg,e1,e2,e3,e4,e5,e6,e7,e8,e9⟩:=h.at (f:=f) (o:=o) hf (by rw [row hf];exact ho)
 obtain ⟨b',off2,c',g',cg',i1,i2,i3,i4,i5,i6,i7,i8,i9⟩:=h.at (f:=f') (o:=o') hf' (by rw [row hf'];exact ho')
 injection e1 with a1 a2 a3
 injection a1 with a1
 injection a1 with a1 a4 _
 subst a1 a4 a3
 injection i1 with b1 b2 b3
 injection b1 with b1
 injection b1 with b1 b4 _
 subst b1 b4 b3
 rw [row hf] at e2 e3
 rw [row hf'] at i2 i3
 refine ⟨g,cg,g',cg',e2,i2,⟨e3,e4,i3,i4,e5,i5,e6,i6,cell_lt e2,fun e => ?_⟩,e7,e8,i7,fun x p hx => ?_⟩
 ·subst e
  rw [e2] at i2
  cases i2
  rfl
 ·have h2:=e9 x
  rw [hx,show gs.set f ((gs.getD f []).set o (getG gs f o + p)) = addG gs f o p from rfl,← hx] at h2
  obtain ⟨b2,off3,c2,g2,cg2,j1,j2,j3,j4,j5,j6,j7,j8,j9⟩:=h2.at (f:=f') (o:=o') (by rw [addG_len];exact hf') (by rw [addG_row,row hf'];exact ho')
  injection j1 with a1 a2' a3
  injection a1 with a1
  injection a1 with a1 a4 _
  subst a1 a4 a3
  have hcell:(w.setCell ⟨g,o,none⟩ (.int .i64 x)).cell? ⟨bn,off + f',none⟩ = w.cell? ⟨bn,off + f',none⟩:=by
   by_cases hab:(⟨g,o,none⟩:Addr) = ⟨bn,off + f',none⟩
   ·rw [← hab,e7] at i2
    cases i2
   ·exact World.cell?_setCell_other _ _ _ _ hab
  rw [hcell,i2,addG_row,row hf'] at j2
  cases j2
  have hge:((addG gs f o p).getD f' []).getD o' 0 = getG gs f' o':=addG_get hne
  rw [hge] at j7
  refine ⟨⟨j8,j7,j6⟩,fun y q hy => ?_⟩
  have h3:=j9 y
  rw [show (addG gs f o p).set f' (((addG gs f o p).getD f' []).set o' y) = addG (addG gs f o p) f' o' q by unfold addG;rw [hy,← hge];rfl] at h3
  exact h3
theorem EndG.place {w:World} {base k cn f o:Nat} {An:Option Addr} {gs:List (List Int)} (h:EndG w base (.slice An k cn) gs) (hf:f < gs.length) (ho:o < (gs.getD f []).length):∃ bn off,An = some ⟨bn,off,none⟩:=by
 obtain ⟨b,off1,c,g,cg,e1,-⟩:=h.at (f:=f) (o:=o) hf ho
 injection e1 with a1 _ _
 exact ⟨b,off1,a1⟩
theorem addG_same {gs:List (List Int)} {f o:Nat} {k:Int} (hf:f < gs.length) (ho:o < (gs.getD f []).length):getG (addG gs f o k) f o = getG gs f o + k:=by
 unfold getG addG
 rw [List.getD_eq_getElem?_getD (l:=gs.set _ _),List.getElem?_set_self hf,Option.getD_some,List.getD_eq_getElem?_getD (l:=List.set _ _ _),List.getElem?_set_self ho,Option.getD_some]
 rfl
theorem BdG.of {B:Int} {gs:List (List Int)} (h:∀ f o,f < gs.length→o < (gs.getD f []).length→-B ≤ getG gs f o∧getG gs f o ≤ B):BdG B gs:=by
 intro r hr x hx
 obtain ⟨f,hf,e⟩:=List.mem_iff_getElem.1 hr
 obtain ⟨o,ho,e2⟩:=List.mem_iff_getElem.1 hx
 have hg:gs.getD f [] = r:=by rw [List.getD_eq_getElem?_getD,List.getElem?_eq_getElem hf,Option.getD_some,e]
 have:=h f o hf (by rw [hg];exact ho)
 unfold getG at this
 rw [hg,List.getD_eq_getElem?_getD,List.getElem?_eq_getElem ho,Option.getD_some,e2] at this
 exact this
theorem BdG.add2 {B K:Int} {gs:List (List Int)} {f o f' o':Nat} {k k':Int} (h:BdG B gs) (hne:f ≠ f' ∨ o ≠ o') (hk:-K ≤ k∧k ≤ K) (hk':-K ≤ k'∧k' ≤ K) (hK:0 ≤ K) (hB:0 ≤ B):BdG (B + K) (addG (addG gs f o k) f' o' k'):=by
 refine BdG.of fun f1 o1 h1 h2 => ?_
 rw [addG_len,addG_len] at h1
 rw [addG_row,addG_row] at h2
 have hg:=getG_bd h hB f1 o1
 by_cases e:f' = f1∧o' = o1
 ·obtain ⟨rfl,rfl⟩:=e
  rw [addG_same (by rw [addG_len];exact h1) (by rw [addG_row];exact h2),addG_get hne]
  omega
 ·rw [addG_get (by omega)]
  by_cases e2:f = f1∧o = o1
  ·obtain ⟨rfl,rfl⟩:=e2
   rw [addG_same h1 h2]
   omega
  ·rw [addG_get (by omega)]
   omega
theorem OwnG.rowG {w w':World} {base:Nat} {v:Value} {ls:List (List Int)} {row:Option Nat} (h:OwnG w base v ls) (hg:w.grownBy w' row) (hr:∀ k,row = some k→k < base):OwnG w' base v ls:=by
 obtain ⟨mv,h1,h2,h3⟩:=h
 refine ⟨mv,h1.row hg hr,h2,fun i v hv => ?_⟩
 obtain ⟨l,a,b⟩:=h3 i v hv
 exact ⟨l,a,b.row hg hr⟩
section
variable {b:Hb} {z:Nat} {gs:List (List Int)} {Ag:Option Addr} {v v':Value} {E E':List (List Int)} {w w':World}
theorem TruI.lt (h:TruI b z gs Ag v E w):∀ k,v.ownBlock = some k→k < w.heap.size:=fun k e => by
 obtain ⟨mv,ho,-⟩:=h.own
 exact (ho.lt k e).2
theorem TruE.block (h:TruE z v w v' E' w') {j:Nat} (hj:j < w.heap.size) (hne:∀ k,v.ownBlock = some k→k ≠ j):w'.heap[j]? = w.heap[j]?:=h.gr.block j hj (fun e => hne j e.symm rfl)
end
theorem subG_len {f:Nat}:∀ {w:List Int} {gs:List (List Int)},(subG f w gs).length = gs.length
 | [],gs => rfl
 | o :: w,gs => (subG_len (w:=w)).trans (addG_len _ _ _ _)
theorem BdG.sub {f:Nat}:∀ {w:List Int} {B:Int} {gs:List (List Int)},0 ≤ B→BdG B gs→BdG (B + w.length) (subG f w gs)
 | [],B,gs,_,h => by
   show BdG (B + ((0:Nat):Int)) gs
   exact h.mono (by omega)
 | o :: w,B,gs,hB,h => by
   have h1:=BdG.sub (f:=f) (w:=w) (B:=B + 1) (by omega) (h.add (f:=f) (o:=o.toNat) (k:=-1) (K:=1) (by omega) (by omega) hB)
   refine BdG.mono (show BdG (B + 1 + w.length) (subG f (o :: w) gs) from h1) ?_
   rw [List.length_cons]
   omega
def lostE (b:Hb) (deed owner:Int) (i fn:Nat) (gs E L:List (List Int)):List (List Int):=trE E sortB (fun w => trG b.t b.l deed owner (b.ds.drop (i + 1)) (i + 1) (subG fn w gs)) L
theorem lost_all {b:Hb} {deed owner:Int} {i fn mn:Nat} {gs E:List (List Int)} {d:De} (hn:nnG gs = true) (hd:b.ds[i]? = some d) (h4:d.kind = 4) (hf:d.flock = fn) (hm:d.many = mn) :
 addsE E (trG b.t b.l deed owner (b.ds.drop i) i gs) = lostE b deed owner i fn gs E (wordsL b.l.length mn):=by
 rw [trG_gen hn hd]
 unfold stepG
 rw [if_neg (by omega),if_neg (by omega),if_neg (by omega),if_neg (by omega),if_pos h4,hf,hm]
 unfold lostG lostE trE
 rw [flatMap_map']
 rfl
def strE (b:Hb) (deed owner:Int) (i fn tn:Nat) (s:Sg) (gs E:List (List Int)) (L:List Nat):List (List Int):=trE E (mayB b.t b.l deed owner i s) (fun o => trG b.t b.l deed owner (b.ds.drop (i + 1)) (i + 1) (addG (addG gs fn o (-1)) tn o 1)) L
theorem str_all {b:Hb} {deed owner:Int} {i fn tn:Nat} {gs E:List (List Int)} {d:De} (hn:nnG gs = true) (hd:b.ds[i]? = some d) (h5:d.kind = 5) (hf:d.flock = fn) (ht:d.tof = tn) :
 addsE E (trG b.t b.l deed owner (b.ds.drop i) i gs) = strE b deed owner i fn tn d.s gs E (List.range b.l.length):=by
 rw [trG_gen hn hd]
 unfold stepG
 rw [if_neg (by omega),if_neg (by omega),if_neg (by omega),if_neg (by omega),if_neg (by omega)]
 unfold strG strE trE
 rw [flatMap_map',hf,ht]
 rfl
theorem trG_c {b:Hb} {deed owner:Int} {ks:List Int} {hs:List (List Int)} {i m:Nat} (hok:HeOk b.t b.l ks hs b.ds) (him:i + (m + 1) = b.ds.length) (g:List (List Int)):(trG b.t b.l deed owner (b.ds.drop (i + 1)) (i + 1) g).length ≤ 35 ^ m:=by
 have h:=trG_len (t:=b.t) (deed:=deed) (owner:=owner) hok.n5 (b.ds.drop (i + 1)) (i + 1) g (nf:=ks.length) fun d hd => hok.dI d (List.mem_of_mem_drop hd)
 rw [List.length_drop,show b.ds.length - (i + 1) = m by omega] at h
 exact h
end Go.Proofs.YtmennjmjakdkcaaGreat
