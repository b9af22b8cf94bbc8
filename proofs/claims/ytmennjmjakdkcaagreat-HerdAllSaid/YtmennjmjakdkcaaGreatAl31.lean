/- HerdAll 31: TruT, TruU. -/
import Derived.Test.YtmennjmjakdkcaaGreatAl29
import Derived.Test.YtmennjmjakdkcaaGreatAl26
import Derived.BigRegion
namespace Go.Proofs.YtmennjmjakdkcaaGreat
open Go.RowKit
set_option linter.unusedVariables false
set_option linter.unusedSimpArgs false
set_option maxRecDepth 1000000
noncomputable def rgTru58:Code:=((Tryz.f28.body.bind (findRgn 58)).getD .skip)
def RgTruQ58 (DK bn on0 k cn on:Nat) (v0 v1 v2 v3 v4 v5 v6 v7 v8 v9 Z0 Z1 Z2 Z3 Z4 Z5 Z6 Z7 Z8 Z9 ZA ZB ZC ZD ZE ZF ZG ZH ZI ZJ ZK ZL ZM ZN ZO ZP ZQ ZR ZS ZT ZU ZV ZW ZX ZY ZZ Za Zb Zc Zd Ze Zf Zg Zh Zi Zj Zk Zl Zm Zn Zo Zp Zq Zr Zs Zt Zu Zv Zw Zx Zy Zz Y0 Y1 Y2 Y3 Y4 Y5 Y6 Y7 Y8 Y9 YA YB YC YD YE YF YG YH YI YJ YK YL YM YN YO YP YQ YR YS YT YU YV YW YX YY YZ Ya Yb Yc Yd Ye Yf Yg Yh Yi Yj Yk Yl Ym Yn Yo Yp Yq Yr Ys Yt Yu Yv Yw Yx Yy Yz X0 X1 X2 X3 X4 X5 X6 X7 X8 X9 XA XB XC XD XE XF XG XH XI XJ XK XL XM XN XO XP XQ XR XS XT XU XV XW XX XY XZ Xa Xb Xc Xd Xe Xf Xg Xh Xi Xj Xk Xl Xm Xn Xo Xp Xq Xr Xs Xt Xu Xv Xw Xx Xy Xz K0 K1 K2 K3 K4 K5 K6 K7 K8 K9 KA KB KC KD KE KF KG KH KI KJ KK KL KM KN KO KP KQ KR KS KT KU KV KW KX KY KZ Ka Kb Kc Kd Ke Kf Kg Kh Ki Kj Kk Kl Km Kn Ko Kp Kq Kr Ks Kt Ku Kv Kw Kx Ky Kz J0 J1 J2 J3 J4 J5 J6 J7 J8 J9 JA JB JC JD JE JF JG JH JI JJ JK JL JM JN JO JP JQ JR JS JT JU JV JW JX JY JZ Ja Jb Jc Jd Je Jf Jg Jh Ji Jj Jk Jl Jm Jn Jo Jp Jq Jr Js Jt Ju Jv Jw Jx Jy Jz G0 G1 G2 G3 G4 G5 G6 G7 G8 G9 GA GB GC GD GE GF GG GH GI GJ GK GL GM GN GO GP GQ GR GS GT GU GV GW GX GY GZ Ga Gb Gc Gd Ge Gf Gg Gh Gi Gj Gk Gl Gm Gn Gp Gq Gr Gs Gt Gu Gv Gw Gx Gy Gz F0 F1 F2 F3 F4 F5 F6 F7 F8 F9 FA:Value) (Q:Exit→Act→World→Prop) (w':World):Prop:=∀ (FB FC FD FE FF FG FH FI FJ FK FL FM FN FO FP FQ FR FS FT FU FV FW FX FY FZ Fa Fb Fc Fd Fe Ff Fg:Value),Q .normal ⟨#[v0,v1,v2,v3,v4,v5,v6,v7,v8,v9,Z0,Z1,Z2,Z3,Z4,Z5,Z6,Z7,Value.pointer (some ⟨DK,0,none⟩),Value.slice (some ⟨bn,on0,none⟩) k cn,Z8,Z9,ZA,ZB,ZC,Value.int .i64 (on:Int),ZD,ZE,ZF,ZG,ZH,ZI,ZJ,ZK,ZL,ZM,ZN,ZO,ZP,ZQ,ZR,ZS,ZT,ZU,ZV,ZW,ZX,ZY,ZZ,Za,Zb,Zc,Zd,Ze,Zf,Zg,Zh,Zi,Zj,Zk,Zl,Zm,Zn,Zo,Zp,Zq,Zr,Zs,Zt,Zu,Zv,Zw,Zx,Zy,Zz,Y0,Y1,Y2,Y3,Y4,Y5,Y6,Y7,Y8,Y9,YA,YB,YC,YD,YE,YF,YG,YH,YI,YJ,YK,YL,YM,YN,YO,YP,YQ,YR,YS,YT,YU,YV,YW,YX,YY,YZ,Ya,Yb,Yc,Yd,Ye,Yf,Yg,Yh,Yi,Yj,Yk,Yl,Ym,Yn,Yo,Yp,Yq,Yr,Ys,Yt,Yu,Yv,Yw,Yx,Yy,Yz,X0,X1,X2,X3,X4,X5,X6,X7,X8,X9,XA,XB,XC,XD,XE,XF,XG,XH,XI,XJ,XK,XL,XM,XN,XO,XP,XQ,XR,XS,XT,XU,XV,XW,XX,XY,XZ,Xa,Xb,Xc,Xd,Xe,Xf,Xg,Xh,Xi,Xj,Xk,Xl,Xm,Xn,Xo,Xp,Xq,Xr,Xs,Xt,Xu,Xv,Xw,Xx,Xy,Xz,K0,K1,K2,K3,K4,K5,K6,K7,K8,K9,KA,KB,KC,KD,KE,KF,KG,KH,KI,KJ,KK,KL,KM,KN,KO,KP,KQ,KR,KS,KT,KU,KV,KW,KX,KY,KZ,Ka,Kb,Kc,Kd,Ke,Kf,Kg,Kh,Ki,Kj,Kk,Kl,Km,Kn,Ko,Kp,Kq,Kr,Ks,Kt,Ku,Kv,Kw,Kx,Ky,Kz,J0,J1,J2,J3,J4,J5,J6,J7,J8,J9,JA,JB,JC,JD,JE,JF,JG,JH,JI,JJ,JK,JL,JM,JN,JO,JP,JQ,JR,JS,JT,JU,JV,JW,JX,JY,JZ,Ja,Jb,Jc,Jd,Je,Jf,Jg,Jh,Ji,Jj,Jk,Jl,Jm,Jn,Jo,Jp,Jq,Jr,Js,Jt,Ju,Jv,Jw,Jx,Jy,Jz,G0,G1,G2,G3,G4,G5,G6,G7,G8,G9,GA,GB,GC,GD,GE,GF,GG,GH,GI,GJ,GK,GL,GM,GN,GO,GP,GQ,GR,GS,GT,GU,FB,FC,FD,FE,FF,FG,FH,FI,FJ,FK,FL,FM,FN,FO,FP,FQ,FR,FS,FT,FU,FV,FW,FX,FY,FZ,Fa,Fb,Fc,Fd,Fe,Ff,Fg,F2,F3,F4,F5,F6,F7,F8,F9,FA],[]⟩ w'
set_option maxHeartbeats 8000000 in
theorem tru_stray (DK bn on0 k cn on:Nat) (w2 V1:World) (g cg g2 cg2 nl fn tn:Nat) (x y:Int) (v0 v1 v2 v3 v4 v5 v6 v7 v8 v9 Z0 Z1 Z2 Z3 Z4 Z5 Z6 Z7 Z8 Z9 ZA ZB ZC ZD ZE ZF ZG ZH ZI ZJ ZK ZL ZM ZN ZO ZP ZQ ZR ZS ZT ZU ZV ZW ZX ZY ZZ Za Zb Zc Zd Ze Zf Zg Zh Zi Zj Zk Zl Zm Zn Zo Zp Zq Zr Zs Zt Zu Zv Zw Zx Zy Zz Y0 Y1 Y2 Y3 Y4 Y5 Y6 Y7 Y8 Y9 YA YB YC YD YE YF YG YH YI YJ YK YL YM YN YO YP YQ YR YS YT YU YV YW YX YY YZ Ya Yb Yc Yd Ye Yf Yg Yh Yi Yj Yk Yl Ym Yn Yo Yp Yq Yr Ys Yt Yu Yv Yw Yx Yy Yz X0 X1 X2 X3 X4 X5 X6 X7 X8 X9 XA XB XC XD XE XF XG XH XI XJ XK XL XM XN XO XP XQ XR XS XT XU XV XW XX XY XZ Xa Xb Xc Xd Xe Xf Xg Xh Xi Xj Xk Xl Xm Xn Xo Xp Xq Xr Xs Xt Xu Xv Xw Xx Xy Xz K0 K1 K2 K3 K4 K5 K6 K7 K8 K9 KA KB KC KD KE KF KG KH KI KJ KK KL KM KN KO KP KQ KR KS KT KU KV KW KX KY KZ Ka Kb Kc Kd Ke Kf Kg Kh Ki Kj Kk Kl Km Kn Ko Kp Kq Kr Ks Kt Ku Kv Kw Kx Ky Kz J0 J1 J2 J3 J4 J5 J6 J7 J8 J9 JA JB JC JD JE JF JG JH JI JJ JK JL JM JN JO JP JQ JR JS JT JU JV JW JX JY JZ Ja Jb Jc Jd Je Jf Jg Jh Ji Jj Jk Jl Jm Jn Jo Jp Jq Jr Js Jt Ju Jv Jw Jx Jy Jz G0 G1 G2 G3 G4 G5 G6 G7 G8 G9 GA GB GC GD GE GF GG GH GI GJ GK GL GM GN GO GP GQ GR GS GT GU GV GW GX GY GZ Ga Gb Gc Gd Ge Gf Gg Gh Gi Gj Gk Gl Gm Gn Gp Gq Gr Gs Gt Gu Gv Gw Gx Gy Gz F0 F1 F2 F3 F4 F5 F6 F7 F8 F9 FA:Value) (Q:Exit→Act→World→Prop)
 (HCD:Hid (∀ w',PS1 w2.drew V1 0 w'→w'.cell? ⟨DK,1,none⟩ = some (.int .i64 (fn:Int))∧w'.cell? ⟨DK,4,none⟩ = some (.int .i64 (tn:Int))∧DK < w'.heap.size))
 (HV1:Hid (V1 = w2.drew.setCell ⟨g,on,none⟩ (.int .i64 (x - 1))))
 (z1:w2.cell? ⟨DK,1,none⟩ = some (.int .i64 (fn:Int))) (z4:w2.cell? ⟨DK,4,none⟩ = some (.int .i64 (tn:Int))) (hlD:DK < w2.heap.size)
 (yr:w2.cell? ⟨bn,on0 + fn,none⟩ = some (.slice (some ⟨g,0,none⟩) nl cg)) (yr2:w2.cell? ⟨bn,on0 + tn,none⟩ = some (.slice (some ⟨g2,0,none⟩) nl cg2)) (yc:w2.cell? ⟨g,on,none⟩ = some (.int .i64 x)) (yc':w2.cell? ⟨g2,on,none⟩ = some (.int .i64 y)) (fz:w2.frozen? ⟨g,on,none⟩ = false)
 (ux:V1.cell? ⟨g2,on,none⟩ = some (.int .i64 y)) (uf:V1.frozen? ⟨g2,on,none⟩ = false) (ul:g2 < V1.heap.size)
 (hxb:-140 ≤ x∧x ≤ 140) (hyb:-140 ≤ y∧y ≤ 140) (i2:(fn:Int) < (k:Int)) (i5:(tn:Int) < (k:Int)) (i3:(on:Int) < (nl:Int)) (hbn:bn < w2.heap.size) (hgl:g < w2.heap.size) (hgl2:g2 < w2.heap.size) (hgc:nl ≤ cg) (hgm:cg ≤ maxLen) (hgc2:nl ≤ cg2) (hgm2:cg2 ≤ maxLen) (hcn:cn ≤ maxLen)
 (HQ:RgTruQ58 DK bn on0 k cn on v0 v1 v2 v3 v4 v5 v6 v7 v8 v9 Z0 Z1 Z2 Z3 Z4 Z5 Z6 Z7 Z8 Z9 ZA ZB ZC ZD ZE ZF ZG ZH ZI ZJ ZK ZL ZM ZN ZO ZP ZQ ZR ZS ZT ZU ZV ZW ZX ZY ZZ Za Zb Zc Zd Ze Zf Zg Zh Zi Zj Zk Zl Zm Zn Zo Zp Zq Zr Zs Zt Zu Zv Zw Zx Zy Zz Y0 Y1 Y2 Y3 Y4 Y5 Y6 Y7 Y8 Y9 YA YB YC YD YE YF YG YH YI YJ YK YL YM YN YO YP YQ YR YS YT YU YV YW YX YY YZ Ya Yb Yc Yd Ye Yf Yg Yh Yi Yj Yk Yl Ym Yn Yo Yp Yq Yr Ys Yt Yu Yv Yw Yx Yy Yz X0 X1 X2 X3 X4 X5 X6 X7 X8 X9 XA XB XC XD XE XF XG XH XI XJ XK XL XM XN XO XP XQ XR XS XT XU XV XW XX XY XZ Xa Xb Xc Xd Xe Xf Xg Xh Xi Xj Xk Xl Xm Xn Xo Xp Xq Xr Xs Xt Xu Xv Xw Xx Xy Xz K0 K1 K2 K3 K4 K5 K6 K7 K8 K9 KA KB KC KD KE KF KG KH KI KJ KK KL KM KN KO KP KQ KR KS KT KU KV KW KX KY KZ Ka Kb Kc Kd Ke Kf Kg Kh Ki Kj Kk Kl Km Kn Ko Kp Kq Kr Ks Kt Ku Kv Kw Kx Ky Kz J0 J1 J2 J3 J4 J5 J6 J7 J8 J9 JA JB JC JD JE JF JG JH JI JJ JK JL JM JN JO JP JQ JR JS JT JU JV JW JX JY JZ Ja Jb Jc Jd Je Jf Jg Jh Ji Jj Jk Jl Jm Jn Jo Jp Jq Jr Js Jt Ju Jv Jw Jx Jy Jz G0 G1 G2 G3 G4 G5 G6 G7 G8 G9 GA GB GC GD GE GF GG GH GI GJ GK GL GM GN GO GP GQ GR GS GT GU GV GW GX GY GZ Ga Gb Gc Gd Ge Gf Gg Gh Gi Gj Gk Gl Gm Gn Gp Gq Gr Gs Gt Gu Gv Gw Gx Gy Gz F0 F1 F2 F3 F4 F5 F6 F7 F8 F9 FA Q (V1.setCell ⟨g2,on,none⟩ (.int .i64 (y + 1)))) :
 Code.wp Tryz.prog rgTru58 Q ⟨#[v0,v1,v2,v3,v4,v5,v6,v7,v8,v9,Z0,Z1,Z2,Z3,Z4,Z5,Z6,Z7,Value.pointer (some ⟨DK,0,none⟩),Value.slice (some ⟨bn,on0,none⟩) k cn,Z8,Z9,ZA,ZB,ZC,Value.int .i64 (on:Int),ZD,ZE,ZF,ZG,ZH,ZI,ZJ,ZK,ZL,ZM,ZN,ZO,ZP,ZQ,ZR,ZS,ZT,ZU,ZV,ZW,ZX,ZY,ZZ,Za,Zb,Zc,Zd,Ze,Zf,Zg,Zh,Zi,Zj,Zk,Zl,Zm,Zn,Zo,Zp,Zq,Zr,Zs,Zt,Zu,Zv,Zw,Zx,Zy,Zz,Y0,Y1,Y2,Y3,Y4,Y5,Y6,Y7,Y8,Y9,YA,YB,YC,YD,YE,YF,YG,YH,YI,YJ,YK,YL,YM,YN,YO,YP,YQ,YR,YS,YT,YU,YV,YW,YX,YY,YZ,Ya,Yb,Yc,Yd,Ye,Yf,Yg,Yh,Yi,Yj,Yk,Yl,Ym,Yn,Yo,Yp,Yq,Yr,Ys,Yt,Yu,Yv,Yw,Yx,Yy,Yz,X0,X1,X2,X3,X4,X5,X6,X7,X8,X9,XA,XB,XC,XD,XE,XF,XG,XH,XI,XJ,XK,XL,XM,XN,XO,XP,XQ,XR,XS,XT,XU,XV,XW,XX,XY,XZ,Xa,Xb,Xc,Xd,Xe,Xf,Xg,Xh,Xi,Xj,Xk,Xl,Xm,Xn,Xo,Xp,Xq,Xr,Xs,Xt,Xu,Xv,Xw,Xx,Xy,Xz,K0,K1,K2,K3,K4,K5,K6,K7,K8,K9,KA,KB,KC,KD,KE,KF,KG,KH,KI,KJ,KK,KL,KM,KN,KO,KP,KQ,KR,KS,KT,KU,KV,KW,KX,KY,KZ,Ka,Kb,Kc,Kd,Ke,Kf,Kg,Kh,Ki,Kj,Kk,Kl,Km,Kn,Ko,Kp,Kq,Kr,Ks,Kt,Ku,Kv,Kw,Kx,Ky,Kz,J0,J1,J2,J3,J4,J5,J6,J7,J8,J9,JA,JB,JC,JD,JE,JF,JG,JH,JI,JJ,JK,JL,JM,JN,JO,JP,JQ,JR,JS,JT,JU,JV,JW,JX,JY,JZ,Ja,Jb,Jc,Jd,Je,Jf,Jg,Jh,Ji,Jj,Jk,Jl,Jm,Jn,Jo,Jp,Jq,Jr,Js,Jt,Ju,Jv,Jw,Jx,Jy,Jz,G0,G1,G2,G3,G4,G5,G6,G7,G8,G9,GA,GB,GC,GD,GE,GF,GG,GH,GI,GJ,GK,GL,GM,GN,GO,GP,GQ,GR,GS,GT,GU,GV,GW,GX,GY,GZ,Ga,Gb,Gc,Gd,Ge,Gf,Gg,Gh,Gi,Gj,Gk,Gl,Gm,Gn,Gp,Gq,Gr,Gs,Gt,Gu,Gv,Gw,Gx,Gy,Gz,F0,F1,F2,F3,F4,F5,F6,F7,F8,F9,FA],[]⟩ w2:=by
 dsimp only
 conv => arg 2;whnf
 refine wp_region_tag 32 31 1 [0,1,2,3,4,5,10,12,13,14,15,16,17,18,19,20,25,28,30] [] 0 (TS1 w2.drew V1) (PS1 w2.drew V1) [0,0,0,0,0,0,0,0,0,0,0,0,0,0,0,0,0,0,0,0,0,0,0,0,0,0,0,0,0,0,0,1] (by as_aux_lemma => kernel_rfl) (by as_aux_lemma => kernel_rfl) (by as_aux_lemma => kernel_rfl) (by as_aux_lemma => kernel_rfl) (by omega) (.inr rfl) (by as_aux_lemma => kernel_rfl) rfl (fun k j w1 w2 hc _ hT hp => PS1.st k j w1 w2 hc hT hp) (fun k => PS1.start k) ?_
 apply Exists.intro
 refine ⟨fun ys => ?_,fun ops K hK => ?_⟩
 ·simp only [List.take_succ_cons,List.take_zero,dstsOf,List.filterMap_cons,List.filterMap_nil,putAll]
  go_simp
  rfl
 simp only [List.take_succ_cons,List.take_zero,List.drop_succ_cons,List.drop_zero] at hK ⊢
 iterate 6
  refine LexT.const (fun _ => rfl) ?_
  apply Exists.intro
  refine ⟨fun ys w' hp hpk hq hd => ?_,?_⟩
  ·try simp [DepsOf,depsGo,DF.holds,Region.binds,EqF] at hd
   try simp only [hd]
   replace hq:w' = w2.drew:=hq (by simp)
   subst hq
   clear hpk hp
   intro Q2 hQ2
   go_wp2_with fail
   rfl
  try simp only [List.nil_append,List.cons_append]
 iterate 4
  refine LexT.const (fun _ => rfl) ?_
  apply Exists.intro
  refine ⟨fun ys w' hp hpk hq hd => ?_,?_⟩
  ·try simp [DepsOf,depsGo,DF.holds,Region.binds,EqF] at hd
   try simp only [hd]
   obtain ⟨d1,d4,dl⟩:=HCD.out w' hp
   clear hp hpk hq
   intro Q2 hQ2
   go_wp2_with fail
   rfl
  try simp only [List.nil_append,List.cons_append]
 iterate 1
  refine LexT.const (fun _ => rfl) ?_
  apply Exists.intro
  refine ⟨fun ys w' hp hpk hq hd => ?_,?_⟩
  ·try simp [DepsOf,depsGo,DF.holds,Region.binds,EqF] at hd
   try simp only [hd]
   replace hq:w' = w2.drew:=hq (by simp)
   subst hq
   clear hpk hp
   intro Q2 hQ2
   go_wp2_with fail
   rfl
  try simp only [List.nil_append,List.cons_append]
 iterate 1
  refine LexT.const (fun _ => rfl) ?_
  apply Exists.intro
  refine ⟨fun ys w' hp hpk hq hd => ?_,?_⟩
  ·try simp [DepsOf,depsGo,DF.holds,Region.binds,EqF] at hd
   try simp only [hd]
   obtain ⟨d1,d4,dl⟩:=HCD.out w' hp
   clear hp hpk hq
   intro Q2 hQ2
   go_wp2_with fail
   rfl
  try simp only [List.nil_append,List.cons_append]
 iterate 9
  refine LexT.const (fun _ => rfl) ?_
  apply Exists.intro
  refine ⟨fun ys w' hp hpk hq hd => ?_,?_⟩
  ·try simp [DepsOf,depsGo,DF.holds,Region.binds,EqF] at hd
   try simp only [hd]
   replace hq:w' = w2.drew:=hq (by simp)
   subst hq
   clear hpk hp
   intro Q2 hQ2
   go_wp2_with fail
   rfl
  try simp only [List.nil_append,List.cons_append]
 iterate 4
  refine LexT.const (fun _ => rfl) ?_
  apply Exists.intro
  refine ⟨fun ys w' hp hpk hq hd => ?_,?_⟩
  ·try simp [DepsOf,depsGo,DF.holds,Region.binds,EqF] at hd
   try simp only [hd]
   obtain ⟨d1,d4,dl⟩:=HCD.out w' hp
   clear hp hpk hq
   intro Q2 hQ2
   go_wp2_with fail
   rfl
  try simp only [List.nil_append,List.cons_append]
 iterate 1
  refine LexT.const (fun _ => rfl) ?_
  apply Exists.intro
  refine ⟨fun ys w' hp hpk hq hd => ?_,?_⟩
  ·try simp [DepsOf,depsGo,DF.holds,Region.binds,EqF] at hd
   try simp only [hd]
   replace hq:w' = w2.drew:=hq (by simp)
   subst hq
   clear hpk hp
   intro Q2 hQ2
   go_wp2_with fail
   rfl
  try simp only [List.nil_append,List.cons_append]
 iterate 2
  refine LexT.const (fun _ => rfl) ?_
  apply Exists.intro
  refine ⟨fun ys w' hp hpk hq hd => ?_,?_⟩
  ·try simp [DepsOf,depsGo,DF.holds,Region.binds,EqF] at hd
   try simp only [hd]
   obtain ⟨d1,d4,dl⟩:=HCD.out w' hp
   clear hp hpk hq
   intro Q2 hQ2
   go_wp2_with fail
   rfl
  try simp only [List.nil_append,List.cons_append]
 iterate 1
  refine LexT.const (fun _ => rfl) ?_
  apply Exists.intro
  refine ⟨fun ys w' hp hpk hq hd => ?_,?_⟩
  ·try simp [DepsOf,depsGo,DF.holds,Region.binds,EqF] at hd
   try simp only [hd]
   replace hq:w' = w2.drew:=hq (by simp)
   subst hq
   clear hpk hp
   intro Q2 hQ2
   go_wp2_with fail
   rfl
  try simp only [List.nil_append,List.cons_append]
 iterate 1
  refine LexT.const (fun _ => rfl) ?_
  apply Exists.intro
  refine ⟨fun ys w' hp hpk hq hd => ?_,?_⟩
  ·try simp [DepsOf,depsGo,DF.holds,Region.binds,EqF] at hd
   try simp only [hd]
   obtain ⟨d1,d4,dl⟩:=HCD.out w' hp
   clear hp hpk hq
   intro Q2 hQ2
   go_wp2_with fail
   rfl
  try simp only [List.nil_append,List.cons_append]
 iterate 1
  refine LexT.const (fun _ => rfl) ?_
  apply Exists.intro
  refine ⟨fun ys w' hp hpk hq hd => ?_,?_⟩
  ·try simp [DepsOf,depsGo,DF.holds,Region.binds,EqF] at hd
   try simp only [hd]
   replace hq:w' = w2.drew:=hq (by simp)
   subst hq
   clear hpk hp
   intro Q2 hQ2
   go_wp2_with fail
   rfl
  try simp only [List.nil_append,List.cons_append]
 refine LexT.some (fun _ w => w = V1) (fun j v w1 w2 hc _ hT h => TS1.keep j v w1 w2 hc hT h) (fun ys w' hp hpk hq hd => ?_) ?_
 ·try simp [DepsOf,depsGo,DF.holds,Region.binds,EqF] at hd
  try simp only [hd]
  replace hpk:w' = w2.drew:=hpk
  subst hpk
  intro Q2 hQ2
  go_wp2_with fail
  exact ⟨⟨rfl,HV1.out.symm⟩,HV1.out.symm⟩
 try simp only [List.nil_append,List.cons_append]
 refine hK _ fun ys w' hp hF => ?_
 simp [AllF,DF.holds] at hF
 obtain ⟨q0,q1,q2,q3,q4,q5,q6,q7,q8,q9,q10,q11,q12,q13,q14,q15,q16,q17,q18,q19,q20,q21,q22,q23,q24,q25,q26,q27,q28,q29,q30,hw⟩:=hF
 subst hw
 simp only [q0,q1,q2,q3,q4,q5,q6,q7,q8,q9,q10,q11,q12,q13,q14,q15,q16,q17,q18,q19,q20,q21,q22,q23,q24,q25,q26,q27,q28,q29,q30]
 clear q0 q1 q2 q3 q4 q5 q6 q7 q8 q9 q10 q11 q12 q13 q14 q15 q16 q17 q18 q19 q20 q21 q22 q23 q24 q25 q26 q27 q28 q29 q30 hp hK
 go_wp2_with fail
 exact HQ _ _ _ _ _ _ _ _ _ _ _ _ _ _ _ _ _ _ _ _ _ _ _ _ _ _ _ _ _ _ _ _
end Go.Proofs.YtmennjmjakdkcaaGreat
namespace Go.Proofs.YtmennjmjakdkcaaGreat
open Go.RowKit
set_option linter.unusedVariables false
set_option linter.unusedSimpArgs false
set_option maxRecDepth 1000000
noncomputable def rgTru48:Code:=((Tryz.f28.body.bind (findRgn 48)).getD .skip)
def RgTruQ48 (w2:World) (b2 o2 lw cw q j:Nat) (sb':Bool) (v0 v1 v2 v3 v4 v5 v6 v7 v8 v9 Z0 Z1 Z2 Z3 Z4 Z5 Z6 Z7 Fh Fi Z8 Fj ZD ZE ZF ZG ZH ZI ZJ ZK ZL ZM ZN ZO ZP ZQ ZR ZS ZT ZU ZV ZW ZX ZY ZZ Za Zb Zc Zd Ze Zf Zg Zh Zi Zj Zk Zl Zm Zn Zo Zp Zq Zr Zs Zt Zu Zv Zw Zx Zy Zz Y0 Y1 Y2 Y3 Y4 Y5 Y6 Y7 Y8 Y9 YA YB YC YD YE YF YG YH YI YJ YK YL YM YN YO YP YQ YR YS YT YU YV YW YX YY YZ Ya Yb Yc Yd Ye Yf Yg Yh Yi Yj Yk Yl Ym Yn Yo Yp Yq Yr Ys Yt Yu Yv Yw Yx Yy Yz X0 X1 X2 X3 X4 X5 X6 X7 X8 X9 XA XB XC XD XE XF XG XH XI XJ XK XL XM XN XO XP XQ XR XS XT XU XV XW XX XY XZ Xa Xb Xc Xd Xe Xf Xg Xh Xi Xj Xk Xl Xm Xn Xo Xp Xq Xr Xs Xt Xu Xv Xw Xx Xy Xz K0 K1 K2 K3 K4 K5 K6 K7 K8 K9 KA KB KC KD KE KF KG KH KI KJ KK KL KM KN KO KP KQ KR KS KT KU KV KW KX KY KZ Ka Kb Kc Kd Ke Kf Kg Kh Ki Kj Kk Kl Km Kn Ko Kp Kq Kr Ks Kt Ku Kv Kw Kx Ky Kz J0 J1 J2 J3 J4 J5 J6 J7 J8 J9 JA JB JC JD JE JF JG JH JI JJ JK JL JM JN JO JP JQ JR JS JT JU JV JW JX JY JZ Ja Jb Jc Jd Je Jf Jg Jh Ji Jj Jk Jl Jm Jn Jo Jp Jq Jr Js Jt Ju Jv Jw Jx Jy Jz G0 G1 G2 G3 G4 G5 G6 G7 G8 G9 GA GB GC GD GE GF GG GH GI GJ GK GL GM GN GO GP GQ GR GS GT GU GV GW GX GY GZ Ga Gb Gc Gd Ge Gf Gg Gh Gi Gj Gk Gl Gm Gn Gp Gq Gr Gs Gt Gu Gv Gw Gx Gy Gz F0 F1 F2 F3 F4 F5 F6 F7 F8 F9 FA:Value) (Q:Exit→Act→World→Prop):Prop:=∀ (Fk Fl Fm Fn Fo Fp Fq Fr Fs Ft Fu Fv Fw Fx Fy Fz U0 U1 U2 U3 U4 U5 U6:Value) (nq:Nat),Q .normal ⟨#[v0,v1,v2,v3,v4,v5,v6,v7,v8,v9,Z0,Z1,Z2,Z3,Z4,Z5,Z6,Z7,Fh,Fi,Z8,Value.slice (some ⟨b2,o2,none⟩) lw cw,Value.int .i64 (q:Int),Value.bool sb',Value.int .i64 (j:Int),Fj,ZD,ZE,ZF,ZG,ZH,ZI,ZJ,ZK,ZL,ZM,ZN,ZO,ZP,ZQ,ZR,ZS,ZT,ZU,ZV,ZW,ZX,ZY,ZZ,Za,Zb,Zc,Zd,Ze,Zf,Zg,Zh,Zi,Zj,Zk,Zl,Zm,Zn,Zo,Zp,Zq,Zr,Zs,Zt,Zu,Zv,Zw,Zx,Zy,Zz,Y0,Y1,Y2,Y3,Y4,Y5,Y6,Y7,Y8,Y9,YA,YB,YC,YD,YE,YF,YG,YH,YI,YJ,YK,YL,YM,YN,YO,YP,YQ,YR,YS,YT,YU,YV,YW,YX,YY,YZ,Ya,Yb,Yc,Yd,Ye,Yf,Yg,Yh,Yi,Yj,Yk,Yl,Ym,Yn,Yo,Yp,Yq,Yr,Ys,Yt,Yu,Yv,Yw,Yx,Yy,Yz,X0,X1,X2,X3,X4,X5,X6,X7,X8,X9,XA,XB,XC,XD,XE,XF,XG,XH,XI,XJ,XK,XL,XM,XN,XO,XP,XQ,XR,XS,XT,XU,XV,XW,XX,XY,XZ,Xa,Xb,Xc,Xd,Xe,Xf,Xg,Xh,Xi,Xj,Xk,Xl,Xm,Xn,Xo,Xp,Xq,Xr,Xs,Xt,Xu,Xv,Xw,Xx,Xy,Xz,K0,K1,K2,K3,K4,K5,K6,K7,K8,K9,KA,KB,KC,KD,KE,KF,KG,KH,KI,KJ,KK,KL,KM,KN,KO,KP,KQ,KR,KS,KT,KU,KV,KW,KX,KY,KZ,Ka,Kb,Kc,Kd,Ke,Kf,Kg,Kh,Ki,Kj,Kk,Kl,Km,Kn,Ko,Kp,Kq,Kr,Ks,Kt,Ku,Kv,Kw,Kx,Ky,Kz,J0,J1,J2,J3,J4,J5,J6,J7,J8,Fk,Fl,Fm,Fn,Fo,Fp,Fq,Fr,Fs,Ft,Fu,Fv,Fw,Fx,Fy,Fz,U0,U1,U2,U3,U4,U5,U6,JW,JX,JY,JZ,Ja,Jb,Jc,Jd,Je,Jf,Jg,Jh,Ji,Jj,Jk,Jl,Jm,Jn,Jo,Jp,Jq,Jr,Js,Jt,Ju,Jv,Jw,Jx,Jy,Jz,G0,G1,G2,G3,G4,G5,G6,G7,G8,G9,GA,GB,GC,GD,GE,GF,GG,GH,GI,GJ,GK,GL,GM,GN,GO,GP,GQ,GR,GS,GT,GU,GV,GW,GX,GY,GZ,Ga,Gb,Gc,Gd,Ge,Gf,Gg,Gh,Gi,Gj,Gk,Gl,Gm,Gn,Gp,Gq,Gr,Gs,Gt,Gu,Gv,Gw,Gx,Gy,Gz,F0,F1,F2,F3,F4,F5,F6,F7,F8,F9,FA],[]⟩ (w2.drewN nq)
set_option maxHeartbeats 8000000 in
theorem tru_srt (w2:World) (b2 o2 lw cw q j b3 o3 nl c2:Nat) (wd:List Int) (sb sb':Bool) (v0 v1 v2 v3 v4 v5 v6 v7 v8 v9 Z0 Z1 Z2 Z3 Z4 Z5 Z6 Z7 Fh Fi Z8 Fj ZD ZE ZF ZG ZH ZI ZJ ZK ZL ZM ZN ZO ZP ZQ ZR ZS ZT ZU ZV ZW ZX ZY ZZ Za Zb Zc Zd Ze Zf Zg Zh Zi Zj Zk Zl Zm Zn Zo Zp Zq Zr Zs Zt Zu Zv Zw Zx Zy Zz Y0 Y1 Y2 Y3 Y4 Y5 Y6 Y7 Y8 Y9 YA YB YC YD YE YF YG YH YI YJ YK YL YM YN YO YP YQ YR YS YT YU YV YW YX YY YZ Ya Yb Yc Yd Ye Yf Yg Yh Yi Yj Yk Yl Ym Yn Yo Yp Yq Yr Ys Yt Yu Yv Yw Yx Yy Yz X0 X1 X2 X3 X4 X5 X6 X7 X8 X9 XA XB XC XD XE XF XG XH XI XJ XK XL XM XN XO XP XQ XR XS XT XU XV XW XX XY XZ Xa Xb Xc Xd Xe Xf Xg Xh Xi Xj Xk Xl Xm Xn Xo Xp Xq Xr Xs Xt Xu Xv Xw Xx Xy Xz K0 K1 K2 K3 K4 K5 K6 K7 K8 K9 KA KB KC KD KE KF KG KH KI KJ KK KL KM KN KO KP KQ KR KS KT KU KV KW KX KY KZ Ka Kb Kc Kd Ke Kf Kg Kh Ki Kj Kk Kl Km Kn Ko Kp Kq Kr Ks Kt Ku Kv Kw Kx Ky Kz J0 J1 J2 J3 J4 J5 J6 J7 J8 J9 JA JB JC JD JE JF JG JH JI JJ JK JL JM JN JO JP JQ JR JS JT JU JV JW JX JY JZ Ja Jb Jc Jd Je Jf Jg Jh Ji Jj Jk Jl Jm Jn Jo Jp Jq Jr Js Jt Ju Jv Jw Jx Jy Jz G0 G1 G2 G3 G4 G5 G6 G7 G8 G9 GA GB GC GD GE GF GG GH GI GJ GK GL GM GN GO GP GQ GR GS GT GU GV GW GX GY GZ Ga Gb Gc Gd Ge Gf Gg Gh Gi Gj Gk Gl Gm Gn Gp Gq Gr Gs Gt Gu Gv Gw Gx Gy Gz F0 F1 F2 F3 F4 F5 F6 F7 F8 F9 FA:Value) (Q:Exit→Act→World→Prop)
 (y2:w2.cell? ⟨b2,o2 + q,none⟩ = some (.slice (some ⟨b3,o3,none⟩) nl c2)) (HI:Hid (Ints w2 (some ⟨b3,o3,none⟩) nl wd)) (hjn:j < nl) (i1:(q:Int) < (lw:Int)) (hbl:b2 < w2.heap.size) (hb3:b3 < w2.heap.size) (hcw:lw ≤ cw) (hcm:cw ≤ maxLen) (hc2:nl ≤ c2) (hm2:c2 ≤ maxLen) (hn3:nl ≤ 3)
 (H0:Hid (sb = false→sb' = false)) (H1:Hid (sb = true→j = 0→sb' = true)) (H2:Hid (∀ j' a b,sb = true→j = j' + 1→wd[j']? = some a→wd[j]? = some b→sb' = decide (a ≤ b)))
 (HQ:RgTruQ48 w2 b2 o2 lw cw q j sb' v0 v1 v2 v3 v4 v5 v6 v7 v8 v9 Z0 Z1 Z2 Z3 Z4 Z5 Z6 Z7 Fh Fi Z8 Fj ZD ZE ZF ZG ZH ZI ZJ ZK ZL ZM ZN ZO ZP ZQ ZR ZS ZT ZU ZV ZW ZX ZY ZZ Za Zb Zc Zd Ze Zf Zg Zh Zi Zj Zk Zl Zm Zn Zo Zp Zq Zr Zs Zt Zu Zv Zw Zx Zy Zz Y0 Y1 Y2 Y3 Y4 Y5 Y6 Y7 Y8 Y9 YA YB YC YD YE YF YG YH YI YJ YK YL YM YN YO YP YQ YR YS YT YU YV YW YX YY YZ Ya Yb Yc Yd Ye Yf Yg Yh Yi Yj Yk Yl Ym Yn Yo Yp Yq Yr Ys Yt Yu Yv Yw Yx Yy Yz X0 X1 X2 X3 X4 X5 X6 X7 X8 X9 XA XB XC XD XE XF XG XH XI XJ XK XL XM XN XO XP XQ XR XS XT XU XV XW XX XY XZ Xa Xb Xc Xd Xe Xf Xg Xh Xi Xj Xk Xl Xm Xn Xo Xp Xq Xr Xs Xt Xu Xv Xw Xx Xy Xz K0 K1 K2 K3 K4 K5 K6 K7 K8 K9 KA KB KC KD KE KF KG KH KI KJ KK KL KM KN KO KP KQ KR KS KT KU KV KW KX KY KZ Ka Kb Kc Kd Ke Kf Kg Kh Ki Kj Kk Kl Km Kn Ko Kp Kq Kr Ks Kt Ku Kv Kw Kx Ky Kz J0 J1 J2 J3 J4 J5 J6 J7 J8 J9 JA JB JC JD JE JF JG JH JI JJ JK JL JM JN JO JP JQ JR JS JT JU JV JW JX JY JZ Ja Jb Jc Jd Je Jf Jg Jh Ji Jj Jk Jl Jm Jn Jo Jp Jq Jr Js Jt Ju Jv Jw Jx Jy Jz G0 G1 G2 G3 G4 G5 G6 G7 G8 G9 GA GB GC GD GE GF GG GH GI GJ GK GL GM GN GO GP GQ GR GS GT GU GV GW GX GY GZ Ga Gb Gc Gd Ge Gf Gg Gh Gi Gj Gk Gl Gm Gn Gp Gq Gr Gs Gt Gu Gv Gw Gx Gy Gz F0 F1 F2 F3 F4 F5 F6 F7 F8 F9 FA Q) :
 Code.wp Tryz.prog rgTru48 Q ⟨#[v0,v1,v2,v3,v4,v5,v6,v7,v8,v9,Z0,Z1,Z2,Z3,Z4,Z5,Z6,Z7,Fh,Fi,Z8,Value.slice (some ⟨b2,o2,none⟩) lw cw,Value.int .i64 (q:Int),Value.bool sb,Value.int .i64 (j:Int),Fj,ZD,ZE,ZF,ZG,ZH,ZI,ZJ,ZK,ZL,ZM,ZN,ZO,ZP,ZQ,ZR,ZS,ZT,ZU,ZV,ZW,ZX,ZY,ZZ,Za,Zb,Zc,Zd,Ze,Zf,Zg,Zh,Zi,Zj,Zk,Zl,Zm,Zn,Zo,Zp,Zq,Zr,Zs,Zt,Zu,Zv,Zw,Zx,Zy,Zz,Y0,Y1,Y2,Y3,Y4,Y5,Y6,Y7,Y8,Y9,YA,YB,YC,YD,YE,YF,YG,YH,YI,YJ,YK,YL,YM,YN,YO,YP,YQ,YR,YS,YT,YU,YV,YW,YX,YY,YZ,Ya,Yb,Yc,Yd,Ye,Yf,Yg,Yh,Yi,Yj,Yk,Yl,Ym,Yn,Yo,Yp,Yq,Yr,Ys,Yt,Yu,Yv,Yw,Yx,Yy,Yz,X0,X1,X2,X3,X4,X5,X6,X7,X8,X9,XA,XB,XC,XD,XE,XF,XG,XH,XI,XJ,XK,XL,XM,XN,XO,XP,XQ,XR,XS,XT,XU,XV,XW,XX,XY,XZ,Xa,Xb,Xc,Xd,Xe,Xf,Xg,Xh,Xi,Xj,Xk,Xl,Xm,Xn,Xo,Xp,Xq,Xr,Xs,Xt,Xu,Xv,Xw,Xx,Xy,Xz,K0,K1,K2,K3,K4,K5,K6,K7,K8,K9,KA,KB,KC,KD,KE,KF,KG,KH,KI,KJ,KK,KL,KM,KN,KO,KP,KQ,KR,KS,KT,KU,KV,KW,KX,KY,KZ,Ka,Kb,Kc,Kd,Ke,Kf,Kg,Kh,Ki,Kj,Kk,Kl,Km,Kn,Ko,Kp,Kq,Kr,Ks,Kt,Ku,Kv,Kw,Kx,Ky,Kz,J0,J1,J2,J3,J4,J5,J6,J7,J8,J9,JA,JB,JC,JD,JE,JF,JG,JH,JI,JJ,JK,JL,JM,JN,JO,JP,JQ,JR,JS,JT,JU,JV,JW,JX,JY,JZ,Ja,Jb,Jc,Jd,Je,Jf,Jg,Jh,Ji,Jj,Jk,Jl,Jm,Jn,Jo,Jp,Jq,Jr,Js,Jt,Ju,Jv,Jw,Jx,Jy,Jz,G0,G1,G2,G3,G4,G5,G6,G7,G8,G9,GA,GB,GC,GD,GE,GF,GG,GH,GI,GJ,GK,GL,GM,GN,GO,GP,GQ,GR,GS,GT,GU,GV,GW,GX,GY,GZ,Ga,Gb,Gc,Gd,Ge,Gf,Gg,Gh,Gi,Gj,Gk,Gl,Gm,Gn,Gp,Gq,Gr,Gs,Gt,Gu,Gv,Gw,Gx,Gy,Gz,F0,F1,F2,F3,F4,F5,F6,F7,F8,F9,FA],[]⟩ w2:=by
 dsimp only
 conv => arg 2;whnf
 cases sb
 ·obtain rfl:=H0.out rfl
  go_quiet (fail)
  go_wp2_with fail
  exact HQ _ _ _ _ _ _ _ _ _ _ _ _ _ _ _ _ _ _ _ _ _ _ _ _
 ·rcases Nat.eq_zero_or_pos j with hj | hj
  ·obtain rfl:=H1.out rfl hj
   subst hj
   go_quiet (fail)
   go_wp2_with fail
   exact HQ _ _ _ _ _ _ _ _ _ _ _ _ _ _ _ _ _ _ _ _ _ _ _ _
  ·obtain ⟨j',hjj⟩:∃ j',j = j' + 1:=⟨j - 1,by omega⟩
   obtain ⟨bb,ob,x,e,hbb,hx,y3⟩:=Ints.get HI.out hjn
   cases e
   obtain ⟨bb,ob,y,e,hbb',hy,y4⟩:=Ints.get HI.out (show j' < nl by omega)
   cases e
   have hs:=H2.out j' y x rfl hjj hy hx
   have hj1:(j:Int) - 1 = (j':Int):=by omega
   have i2:(j:Int) < (nl:Int):=by omega
   have i3:(j':Int) < (nl:Int):=by omega
   have e0:((j:Int) == 0) = false:=beq_eq_false_iff_ne.2 (by omega)
   have HJ:=Lib.hid hjj
   by_cases hge:y ≤ x
   ·obtain rfl:sb' = true:=by rw [hs,decide_eq_true hge]
    clear hjj hx hy hs
    go_quiet (fail)
    go_wp2_with fail
    exact HQ _ _ _ _ _ _ _ _ _ _ _ _ _ _ _ _ _ _ _ _ _ _ _ _
   ·obtain rfl:sb' = false:=by rw [hs,decide_eq_false hge]
    clear hjj hx hy hs
    go_quiet (fail)
    go_wp2_with fail
    exact HQ _ _ _ _ _ _ _ _ _ _ _ _ _ _ _ _ _ _ _ _ _ _ _ _
noncomputable def rgTru49:Code:=((Tryz.f28.body.bind (findRgn 49)).getD .skip)
def RgTruQ49 (w2:World) (DK bn on0 k cn b2 o2 lw cw q j g on:Nat) (x:Int) (v0 v1 v2 v3 v4 v5 v6 v7 v8 v9 Z0 Z1 Z2 Z3 Z4 Z5 Z6 Z7 Z8 ZB Fj ZD ZE ZF ZG ZH ZI ZJ ZK ZL ZM ZN ZO ZP ZQ ZR ZS ZT ZU ZV ZW ZX ZY ZZ Za Zb Zc Zd Ze Zf Zg Zh Zi Zj Zk Zl Zm Zn Zo Zp Zq Zr Zs Zt Zu Zv Zw Zx Zy Zz Y0 Y1 Y2 Y3 Y4 Y5 Y6 Y7 Y8 Y9 YA YB YC YD YE YF YG YH YI YJ YK YL YM YN YO YP YQ YR YS YT YU YV YW YX YY YZ Ya Yb Yc Yd Ye Yf Yg Yh Yi Yj Yk Yl Ym Yn Yo Yp Yq Yr Ys Yt Yu Yv Yw Yx Yy Yz X0 X1 X2 X3 X4 X5 X6 X7 X8 X9 XA XB XC XD XE XF XG XH XI XJ XK XL XM XN XO XP XQ XR XS XT XU XV XW XX XY XZ Xa Xb Xc Xd Xe Xf Xg Xh Xi Xj Xk Xl Xm Xn Xo Xp Xq Xr Xs Xt Xu Xv Xw Xx Xy Xz K0 K1 K2 K3 K4 K5 K6 K7 K8 K9 KA KB KC KD KE KF KG KH KI KJ KK KL KM KN KO KP KQ KR KS KT KU KV KW KX KY KZ Ka Kb Kc Kd Ke Kf Kg Kh Ki Kj Kk Kl Km Kn Ko Kp Kq Kr Ks Kt Ku Kv Kw Kx Ky Kz J0 J1 J2 J3 J4 J5 J6 J7 J8 J9 JA JB JC JD JE JF JG JH JI JJ JK JL JM JN JO JP JQ JR JS JT JU JV JW JX JY JZ Ja Jb Jc Jd Je Jf Jg Jh Ji Jj Jk Jl Jm Jn Jo Jp Jq Jr Js Jt Ju Jv Jw Jx Jy Jz G0 G1 G2 G3 G4 G5 G6 G7 G8 G9 GA GB GC GD GE GF GG GH GI GJ GK GL GM GN GO GP GQ GR GS GT GU GV GW GX GY GZ Ga Gb Gc Gd Ge Gf Gg Gh Gi Gj Gk Gl Gm Gn Gp Gq Gr Gs Gt Gu Gv Gw Gx Gy Gz F0 F1 F2 F3 F4 F5 F6 F7 F8 F9 FA:Value) (Q:Exit→Act→World→Prop):Prop:=∀ (U7 U8 U9 UA UB UC UD UE UF UG UH UI UJ UK UL UM:Value) (nq:Nat),Q .normal ⟨#[v0,v1,v2,v3,v4,v5,v6,v7,v8,v9,Z0,Z1,Z2,Z3,Z4,Z5,Z6,Z7,Value.pointer (some ⟨DK,0,none⟩),Value.slice (some ⟨bn,on0,none⟩) k cn,Z8,Value.slice (some ⟨b2,o2,none⟩) lw cw,Value.int .i64 (q:Int),ZB,Value.int .i64 (j:Int),Fj,ZD,ZE,ZF,ZG,ZH,ZI,ZJ,ZK,ZL,ZM,ZN,ZO,ZP,ZQ,ZR,ZS,ZT,ZU,ZV,ZW,ZX,ZY,ZZ,Za,Zb,Zc,Zd,Ze,Zf,Zg,Zh,Zi,Zj,Zk,Zl,Zm,Zn,Zo,Zp,Zq,Zr,Zs,Zt,Zu,Zv,Zw,Zx,Zy,Zz,Y0,Y1,Y2,Y3,Y4,Y5,Y6,Y7,Y8,Y9,YA,YB,YC,YD,YE,YF,YG,YH,YI,YJ,YK,YL,YM,YN,YO,YP,YQ,YR,YS,YT,YU,YV,YW,YX,YY,YZ,Ya,Yb,Yc,Yd,Ye,Yf,Yg,Yh,Yi,Yj,Yk,Yl,Ym,Yn,Yo,Yp,Yq,Yr,Ys,Yt,Yu,Yv,Yw,Yx,Yy,Yz,X0,X1,X2,X3,X4,X5,X6,X7,X8,X9,XA,XB,XC,XD,XE,XF,XG,XH,XI,XJ,XK,XL,XM,XN,XO,XP,XQ,XR,XS,XT,XU,XV,XW,XX,XY,XZ,Xa,Xb,Xc,Xd,Xe,Xf,Xg,Xh,Xi,Xj,Xk,Xl,Xm,Xn,Xo,Xp,Xq,Xr,Xs,Xt,Xu,Xv,Xw,Xx,Xy,Xz,K0,K1,K2,K3,K4,K5,K6,K7,K8,K9,KA,KB,KC,KD,KE,KF,KG,KH,KI,KJ,KK,KL,KM,KN,KO,KP,KQ,KR,KS,KT,KU,KV,KW,KX,KY,KZ,Ka,Kb,Kc,Kd,Ke,Kf,Kg,Kh,Ki,Kj,Kk,Kl,Km,Kn,Ko,Kp,Kq,Kr,Ks,Kt,Ku,Kv,Kw,Kx,Ky,Kz,J0,J1,J2,J3,J4,J5,J6,J7,J8,J9,JA,JB,JC,JD,JE,JF,JG,JH,JI,JJ,JK,JL,JM,JN,JO,JP,JQ,JR,JS,JT,JU,JV,U7,U8,U9,UA,UB,UC,UD,UE,UF,UG,UH,UI,UJ,UK,UL,UM,Jm,Jn,Jo,Jp,Jq,Jr,Js,Jt,Ju,Jv,Jw,Jx,Jy,Jz,G0,G1,G2,G3,G4,G5,G6,G7,G8,G9,GA,GB,GC,GD,GE,GF,GG,GH,GI,GJ,GK,GL,GM,GN,GO,GP,GQ,GR,GS,GT,GU,GV,GW,GX,GY,GZ,Ga,Gb,Gc,Gd,Ge,Gf,Gg,Gh,Gi,Gj,Gk,Gl,Gm,Gn,Gp,Gq,Gr,Gs,Gt,Gu,Gv,Gw,Gx,Gy,Gz,F0,F1,F2,F3,F4,F5,F6,F7,F8,F9,FA],[]⟩ ((w2.drewN nq).setCell ⟨g,on,none⟩ (.int .i64 (x - 1)))
set_option maxHeartbeats 8000000 in
theorem tru_dec (w2:World) (DK bn on0 k cn b2 o2 lw cw q j b3 o3 nw c2 g nl cg fn on:Nat) (x:Int) (v0 v1 v2 v3 v4 v5 v6 v7 v8 v9 Z0 Z1 Z2 Z3 Z4 Z5 Z6 Z7 Z8 ZB Fj ZD ZE ZF ZG ZH ZI ZJ ZK ZL ZM ZN ZO ZP ZQ ZR ZS ZT ZU ZV ZW ZX ZY ZZ Za Zb Zc Zd Ze Zf Zg Zh Zi Zj Zk Zl Zm Zn Zo Zp Zq Zr Zs Zt Zu Zv Zw Zx Zy Zz Y0 Y1 Y2 Y3 Y4 Y5 Y6 Y7 Y8 Y9 YA YB YC YD YE YF YG YH YI YJ YK YL YM YN YO YP YQ YR YS YT YU YV YW YX YY YZ Ya Yb Yc Yd Ye Yf Yg Yh Yi Yj Yk Yl Ym Yn Yo Yp Yq Yr Ys Yt Yu Yv Yw Yx Yy Yz X0 X1 X2 X3 X4 X5 X6 X7 X8 X9 XA XB XC XD XE XF XG XH XI XJ XK XL XM XN XO XP XQ XR XS XT XU XV XW XX XY XZ Xa Xb Xc Xd Xe Xf Xg Xh Xi Xj Xk Xl Xm Xn Xo Xp Xq Xr Xs Xt Xu Xv Xw Xx Xy Xz K0 K1 K2 K3 K4 K5 K6 K7 K8 K9 KA KB KC KD KE KF KG KH KI KJ KK KL KM KN KO KP KQ KR KS KT KU KV KW KX KY KZ Ka Kb Kc Kd Ke Kf Kg Kh Ki Kj Kk Kl Km Kn Ko Kp Kq Kr Ks Kt Ku Kv Kw Kx Ky Kz J0 J1 J2 J3 J4 J5 J6 J7 J8 J9 JA JB JC JD JE JF JG JH JI JJ JK JL JM JN JO JP JQ JR JS JT JU JV JW JX JY JZ Ja Jb Jc Jd Je Jf Jg Jh Ji Jj Jk Jl Jm Jn Jo Jp Jq Jr Js Jt Ju Jv Jw Jx Jy Jz G0 G1 G2 G3 G4 G5 G6 G7 G8 G9 GA GB GC GD GE GF GG GH GI GJ GK GL GM GN GO GP GQ GR GS GT GU GV GW GX GY GZ Ga Gb Gc Gd Ge Gf Gg Gh Gi Gj Gk Gl Gm Gn Gp Gq Gr Gs Gt Gu Gv Gw Gx Gy Gz F0 F1 F2 F3 F4 F5 F6 F7 F8 F9 FA:Value) (Q:Exit→Act→World→Prop)
 (z1:w2.cell? ⟨DK,1,none⟩ = some (.int .i64 (fn:Int))) (hlD:DK < w2.heap.size)
 (y2:w2.cell? ⟨b2,o2 + q,none⟩ = some (.slice (some ⟨b3,o3,none⟩) nw c2)) (y3:w2.cell? ⟨b3,o3 + j,none⟩ = some (.int .i64 (on:Int)))
 (yr:w2.cell? ⟨bn,on0 + fn,none⟩ = some (.slice (some ⟨g,0,none⟩) nl cg)) (yc:w2.cell? ⟨g,on,none⟩ = some (.int .i64 x)) (fz:w2.frozen? ⟨g,on,none⟩ = false)
 (hxb:-200 ≤ x∧x ≤ 200) (i1:(q:Int) < (lw:Int)) (i2:(fn:Int) < (k:Int)) (i3:(on:Int) < (nl:Int)) (i4:(j:Int) < (nw:Int)) (hbl:b2 < w2.heap.size) (hb3:b3 < w2.heap.size) (hbn:bn < w2.heap.size) (hgl:g < w2.heap.size) (hcw:lw ≤ cw) (hcm:cw ≤ maxLen) (hc2:nw ≤ c2) (hm2:c2 ≤ maxLen) (hgc:nl ≤ cg) (hgm:cg ≤ maxLen) (hcn:cn ≤ maxLen)
 (HQ:RgTruQ49 w2 DK bn on0 k cn b2 o2 lw cw q j g on x v0 v1 v2 v3 v4 v5 v6 v7 v8 v9 Z0 Z1 Z2 Z3 Z4 Z5 Z6 Z7 Z8 ZB Fj ZD ZE ZF ZG ZH ZI ZJ ZK ZL ZM ZN ZO ZP ZQ ZR ZS ZT ZU ZV ZW ZX ZY ZZ Za Zb Zc Zd Ze Zf Zg Zh Zi Zj Zk Zl Zm Zn Zo Zp Zq Zr Zs Zt Zu Zv Zw Zx Zy Zz Y0 Y1 Y2 Y3 Y4 Y5 Y6 Y7 Y8 Y9 YA YB YC YD YE YF YG YH YI YJ YK YL YM YN YO YP YQ YR YS YT YU YV YW YX YY YZ Ya Yb Yc Yd Ye Yf Yg Yh Yi Yj Yk Yl Ym Yn Yo Yp Yq Yr Ys Yt Yu Yv Yw Yx Yy Yz X0 X1 X2 X3 X4 X5 X6 X7 X8 X9 XA XB XC XD XE XF XG XH XI XJ XK XL XM XN XO XP XQ XR XS XT XU XV XW XX XY XZ Xa Xb Xc Xd Xe Xf Xg Xh Xi Xj Xk Xl Xm Xn Xo Xp Xq Xr Xs Xt Xu Xv Xw Xx Xy Xz K0 K1 K2 K3 K4 K5 K6 K7 K8 K9 KA KB KC KD KE KF KG KH KI KJ KK KL KM KN KO KP KQ KR KS KT KU KV KW KX KY KZ Ka Kb Kc Kd Ke Kf Kg Kh Ki Kj Kk Kl Km Kn Ko Kp Kq Kr Ks Kt Ku Kv Kw Kx Ky Kz J0 J1 J2 J3 J4 J5 J6 J7 J8 J9 JA JB JC JD JE JF JG JH JI JJ JK JL JM JN JO JP JQ JR JS JT JU JV JW JX JY JZ Ja Jb Jc Jd Je Jf Jg Jh Ji Jj Jk Jl Jm Jn Jo Jp Jq Jr Js Jt Ju Jv Jw Jx Jy Jz G0 G1 G2 G3 G4 G5 G6 G7 G8 G9 GA GB GC GD GE GF GG GH GI GJ GK GL GM GN GO GP GQ GR GS GT GU GV GW GX GY GZ Ga Gb Gc Gd Ge Gf Gg Gh Gi Gj Gk Gl Gm Gn Gp Gq Gr Gs Gt Gu Gv Gw Gx Gy Gz F0 F1 F2 F3 F4 F5 F6 F7 F8 F9 FA Q) :
 Code.wp Tryz.prog rgTru49 Q ⟨#[v0,v1,v2,v3,v4,v5,v6,v7,v8,v9,Z0,Z1,Z2,Z3,Z4,Z5,Z6,Z7,Value.pointer (some ⟨DK,0,none⟩),Value.slice (some ⟨bn,on0,none⟩) k cn,Z8,Value.slice (some ⟨b2,o2,none⟩) lw cw,Value.int .i64 (q:Int),ZB,Value.int .i64 (j:Int),Fj,ZD,ZE,ZF,ZG,ZH,ZI,ZJ,ZK,ZL,ZM,ZN,ZO,ZP,ZQ,ZR,ZS,ZT,ZU,ZV,ZW,ZX,ZY,ZZ,Za,Zb,Zc,Zd,Ze,Zf,Zg,Zh,Zi,Zj,Zk,Zl,Zm,Zn,Zo,Zp,Zq,Zr,Zs,Zt,Zu,Zv,Zw,Zx,Zy,Zz,Y0,Y1,Y2,Y3,Y4,Y5,Y6,Y7,Y8,Y9,YA,YB,YC,YD,YE,YF,YG,YH,YI,YJ,YK,YL,YM,YN,YO,YP,YQ,YR,YS,YT,YU,YV,YW,YX,YY,YZ,Ya,Yb,Yc,Yd,Ye,Yf,Yg,Yh,Yi,Yj,Yk,Yl,Ym,Yn,Yo,Yp,Yq,Yr,Ys,Yt,Yu,Yv,Yw,Yx,Yy,Yz,X0,X1,X2,X3,X4,X5,X6,X7,X8,X9,XA,XB,XC,XD,XE,XF,XG,XH,XI,XJ,XK,XL,XM,XN,XO,XP,XQ,XR,XS,XT,XU,XV,XW,XX,XY,XZ,Xa,Xb,Xc,Xd,Xe,Xf,Xg,Xh,Xi,Xj,Xk,Xl,Xm,Xn,Xo,Xp,Xq,Xr,Xs,Xt,Xu,Xv,Xw,Xx,Xy,Xz,K0,K1,K2,K3,K4,K5,K6,K7,K8,K9,KA,KB,KC,KD,KE,KF,KG,KH,KI,KJ,KK,KL,KM,KN,KO,KP,KQ,KR,KS,KT,KU,KV,KW,KX,KY,KZ,Ka,Kb,Kc,Kd,Ke,Kf,Kg,Kh,Ki,Kj,Kk,Kl,Km,Kn,Ko,Kp,Kq,Kr,Ks,Kt,Ku,Kv,Kw,Kx,Ky,Kz,J0,J1,J2,J3,J4,J5,J6,J7,J8,J9,JA,JB,JC,JD,JE,JF,JG,JH,JI,JJ,JK,JL,JM,JN,JO,JP,JQ,JR,JS,JT,JU,JV,JW,JX,JY,JZ,Ja,Jb,Jc,Jd,Je,Jf,Jg,Jh,Ji,Jj,Jk,Jl,Jm,Jn,Jo,Jp,Jq,Jr,Js,Jt,Ju,Jv,Jw,Jx,Jy,Jz,G0,G1,G2,G3,G4,G5,G6,G7,G8,G9,GA,GB,GC,GD,GE,GF,GG,GH,GI,GJ,GK,GL,GM,GN,GO,GP,GQ,GR,GS,GT,GU,GV,GW,GX,GY,GZ,Ga,Gb,Gc,Gd,Ge,Gf,Gg,Gh,Gi,Gj,Gk,Gl,Gm,Gn,Gp,Gq,Gr,Gs,Gt,Gu,Gv,Gw,Gx,Gy,Gz,F0,F1,F2,F3,F4,F5,F6,F7,F8,F9,FA],[]⟩ w2:=by
 dsimp only
 conv => arg 2;whnf
 refine wp_region_quiet_tail (C:=fun w' => ∃ n,w' = w2.drewN n) 16 (by kernel_rfl) (by kernel_rfl) ⟨1,rfl⟩ ?_
 simp only [List.take_succ_cons,List.take_zero,List.drop_succ_cons,List.drop_zero]
 repeat (quiet_step (fail))
 refine wpQuiet_nil ?_
 intro _ hw'
 obtain ⟨nq,hw''⟩:=hw'
 subst hw''
 go_wp2_with fail
 exact HQ _ _ _ _ _ _ _ _ _ _ _ _ _ _ _ _ nq
end Go.Proofs.YtmennjmjakdkcaaGreat
