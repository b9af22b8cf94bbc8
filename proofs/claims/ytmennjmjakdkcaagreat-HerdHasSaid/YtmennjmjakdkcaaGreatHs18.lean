/- HerdHas. -/
import Derived.Test.YtmennjmjakdkcaaGreatHs16
import Derived.BigRegion
set_option linter.unusedVariables false
set_option linter.unusedSimpArgs false
set_option maxRecDepth 1000000
set_option maxHeartbeats 8000000
namespace Go.Proofs.YtmennjmjakdkcaaGreat
open Go.RowKit
theorem sw_cnt5 (w w1 W:World) (H q p f al nh be off ce g18 ze1 ze2 zg1 zg2 z3 zr M3:Nat) (t ho kd sm:Int) (vd:Value) (A Ak Ah:Option Addr) (c ck ch:Nat) (l:List Mk) (ks:List Int) (hs gs:List (List Int)) (ds:List De) (gone whose:List Int) (v1 v2 v3 v4 v5 v6 v7 v8 v9 Z0 Z1 Z2 Z3 Z4 Z5 Z6 Z7 Z8 Z9 ZA ZB ZC ZD ZE ZF ZG ZH ZI ZJ ZK ZL ZM ZN ZO ZP ZQ ZR ZS ZT ZU ZV ZW ZX ZY ZZ Za Zb Zc Zd Ze Zf Zg Zh Zi Zj Zk Zl Zm Zn Zo Zp Zq Zr Zs Zt Zu Zv Zw Zx Zy Zz Y0 Y1 Y2 Y3 Y4 Y5 Y6 Y7 Y8 Y9 YA YB YC YD YE YF YG YH YI YJ YK YL YM YN YO YP YQ YR YS YT YU YV YW YX YY YZ Ya Yb Yc Yd Ye Yf Yg Yh Yi Yj Yk Yl Ym Yn Yo Yp Yq Yr Ys Yt Yu Yv Yw Yx Yy Yz X0 X1 X2 X3 X4 X5 X6 X7 X8 X9 XA XB XC XD XE XF XG XH XI XJ XK XL XM XN XO XP XQ XR XS XT XU XV XW XX XY XZ Xa Xb Xc Xd Xe Xf Xg Xh Xi Xj Xk Xl Xm Xn Xo Xp Xq Xr Xs Xt Xu Xv Xw Xx Xy Xz K0 K1 K2 K3 K4 K5 K6 K7 K8 K9 KA KB KC KD KE KF KG KH KI KJ KK KL KM KN KO KP KQ KR KS KT KU KV KW KX KY KZ Ka Kb Kc Kd Ke Kf Kg Kh Ki Kj Kk Kl Km Kn Ko Kp Kq Kr Ks Kt Ku Kv Kw Kx Ky Kz J0 J1 J2 J3 J4 J5 J6 J7 J8 J9 JA JB JC JD JE JF JG JH JI JJ JK JL JM JN JO JP JQ JR JS JT JU JV JW JX JY JZ Ja Jb Jc Jd Je Jf Jg Jh Ji Jj Jk Jl Jm Jn Jo Jp Jq Jr Js Jt Ju Jv Jw Jx Jy Jz G0 G1 G2 G3 G4 G5 G6 G7 G8 G9 GA GB GC GD GE GF GG GH GI GJ GK GL GM GN GO GP GQ GR GS GT GU GV GW GX GY GZ Ga Gb Gc Gd Ge Gf Gg Gh Gi Gj Gk Gl Gm Gn Gp Gq Gr Gs Gt Gu Gv Gw Gx Gy Gz F0 F1 F2 F3 F4 F5 F6 F7 F8 F9 FA:Value) (Q:Exit→Act→World→Prop)
 (HRD:Hid (SwD w w1 H q t al nh be off ce g18 ze1 ze2 zg1 zg2 z3 zr p A Ak Ah c ck ch vd ds gs gone Z5 whose (M3+1+1+1) ⟨6,f,0,0,0,0,0,sZ⟩ W)) (HC:Hid (SwC t al nh f ho sm l ks hs ds gs gone whose)) (hfn:f<nh) (hnh3:nh≤3) (hal5:al≤5) (hal0:0<al) (hMN3:M3≤4611686018000030000) (hHW:Hd W H (M3+1+1+1)) (hsb:0≤sm∧sm≤80)
 (hk:kd=5)
 (HQ:SwQ w w1 H q p f al nh be off ce g18 ze1 ze2 zg1 zg2 z3 zr M3 t ho kd vd A Ak Ah c ck ch l ks hs ds whose v1 v2 v3 v4 v5 v6 v7 v8 v9 Z0 Z1 Z2 Z3 Z4 Z5 Z6 ZA ZB ZC ZD ZE ZF ZG ZH ZI ZJ ZK ZL ZM ZN ZO ZP ZQ ZR ZS ZT ZU ZV ZW ZX ZY ZZ Za Zb Zc Zd Ze Zf Zg Zh Zi Zj Zk Zl Zm Zn Zo Zp Zq Zr Zs Zt Zu Zv Zw Zx Zy Zz Y0 Y1 Y2 Y3 Y4 Y5 Y6 Y7 Y8 Y9 YA YB YC YD YE YF YG Gx Gy Gz F0 F1 F2 F3 F4 F5 F6 F7 F8 F9 FA Q) :
 Code.wp Tryz.prog j2x Q ⟨#[Value.pointer (some ⟨H,0,none⟩),v1,v2,v3,v4,v5,v6,v7,v8,v9,Z0,Z1,Value.pointer (some ⟨q,0,none⟩),Value.int .i64 (al:Int),Z2,Z3,Z4,Value.slice (some ⟨be,off,none⟩) nh ce,Value.slice (some ⟨g18,0,none⟩) al al,Z5,Z6,Value.int .i64 (f:Int),Value.int .i64 ho,Value.int .i64 (-1),Value.int .i64 kd,Value.pointer (some ⟨p,0,none⟩),Z7,Z8,Z9,ZA,ZB,ZC,ZD,ZE,ZF,ZG,ZH,ZI,ZJ,ZK,ZL,ZM,ZN,ZO,ZP,ZQ,ZR,ZS,ZT,ZU,ZV,ZW,ZX,ZY,ZZ,Za,Zb,Zc,Zd,Ze,Zf,Zg,Zh,Zi,Zj,Zk,Zl,Zm,Zn,Zo,Zp,Zq,Zr,Zs,Zt,Zu,Zv,Zw,Zx,Zy,Zz,Y0,Y1,Y2,Y3,Y4,Y5,Y6,Y7,Y8,Y9,YA,YB,YC,YD,YE,YF,YG,YH,YI,YJ,YK,YL,YM,YN,YO,YP,YQ,YR,YS,YT,YU,YV,YW,YX,YY,YZ,Ya,Yb,Yc,Yd,Ye,Yf,Yg,Yh,Yi,Yj,Yk,Yl,Ym,Yn,Yo,Yp,Yq,Yr,Ys,Yt,Yu,Yv,Yw,Yx,Yy,Yz,X0,X1,X2,X3,X4,X5,X6,X7,X8,X9,XA,XB,XC,XD,XE,XF,XG,XH,XI,XJ,XK,XL,XM,XN,XO,XP,XQ,XR,XS,XT,XU,XV,XW,XX,XY,XZ,Xa,Xb,Xc,Xd,Xe,Xf,Xg,Xh,Xi,Xj,Xk,Xl,Xm,Xn,Xo,Xp,Xq,Xr,Xs,Xt,Xu,Xv,Xw,Xx,Xy,Xz,K0,K1,K2,K3,K4,K5,K6,K7,K8,K9,KA,KB,KC,KD,KE,KF,KG,KH,KI,KJ,KK,KL,KM,KN,KO,KP,KQ,KR,KS,KT,KU,KV,KW,KX,KY,KZ,Ka,Kb,Kc,Kd,Ke,Kf,Kg,Kh,Ki,Kj,Kk,Kl,Km,Kn,Ko,Kp,Kq,Kr,Ks,Kt,Ku,Kv,Kw,Kx,Ky,Kz,J0,J1,J2,J3,J4,J5,J6,J7,J8,J9,JA,JB,JC,JD,JE,JF,JG,JH,JI,JJ,JK,JL,JM,JN,JO,JP,JQ,JR,JS,JT,JU,JV,JW,JX,JY,JZ,Ja,Jb,Jc,Jd,Je,Jf,Jg,Jh,Ji,Jj,Jk,Jl,Jm,Jn,Jo,Jp,Jq,Jr,Js,Jt,Ju,Jv,Jw,Jx,Jy,Jz,G0,G1,G2,G3,G4,G5,G6,G7,G8,G9,GA,GB,GC,GD,GE,GF,GG,GH,GI,GJ,GK,GL,GM,GN,GO,GP,GQ,GR,GS,GT,GU,GV,GW,GX,GY,GZ,Ga,Gb,Gc,Gd,Ge,Gf,Gg,Gh,Gi,Gj,Gk,Gl,Gm,Gn,Gp,Gq,Gr,Gs,Gt,Gu,Gv,Gw,Gx,Gy,Gz,F0,F1,F2,F3,F4,F5,F6,F7,F8,F9,FA],[]⟩ W:=by
 conv=>arg 2;whnf
 subst hk
 have hfs:=j1w (some ⟨be,off,none⟩) nh ce f gs W (TDe.grid (RD.td HRD.out)).1 hfn (by omega) HC.out.rb
 rw[←HC.out.su] at hfs
 go_upto_region 24 with (go_at_call 75;refine hfs.mono ?_;rintro e w' ⟨rfl,rfl⟩)
 clear hfs
 have hof:=j4a H (M3+1+1+1) 0 (some ⟨W.heap.size,0,none⟩) 3 3 [0,5,20] _ (hHW.alloc _) (by omega) (j7f W 3 0 5 20) (j3n hHW (zL9 _) 0) (by omega)
 go_upto_region 25 with (go_at_call 72;refine hof.mono ?_;rintro e w5 ⟨er,rfl,her,hd5⟩;have hR5:=((RD.alloc HRD.out _).dealt hd5);obtain⟨e0,e1,e2,e3,e4,e5,e6,-⟩:=blkD hR5.bx;have z6:=frz hR5.bx 6;have HR5:=zQ9 hR5;clear hR5 hd5)
 have her':er=0∨er=5∨er=20:=by
  simp only[List.mem_cons,List.not_mem_nil,or_false] at her
  omega
 have HER:=zQ9 her'
 obtain⟨V5,hV5⟩:∃ V5,V5=w5.setCell ⟨p,6,none⟩ (.int .i64 er):=⟨_,rfl⟩
 have hR6:=HR5.out.put 6 (.int .i64 er) (d':=⟨6,f,0,0,0,0,er,sZ⟩) ((j0d HR5.out.bx).trans (by simp))
 rw[←hV5] at hR6 ⊢
 obtain⟨e0,e1,e2,e3,e4,e5,e6,-⟩:=blkD hR6.bx
 have hH6:=hR6.td.dl.hd
 have HR6:=zQ9 hR6
 have hp1:-1600≤-er*sm∧-er*sm≤1600:=by rcases HER.out with rfl|rfl|rfl<;>omega
 have hp2:-1600≤er*sm∧er*sm≤1600:=by rcases HER.out with rfl|rfl|rfl<;>omega
 have heb:0≤er∧er≤20:=by omega
 clear hR6 hV5 her her' hof z6
 go_wp2_with (go_at_call 50;refine(j1c H (M3+1+1+1+1) _ _ V5 hH6 (by omega) (by rcases HER.out with rfl|rfl|rfl<;>exact j2n (by omega)) (by rcases HER.out with rfl|rfl|rfl<;>exact j2n (by omega))).mono ?_;rintro e w6 ⟨a,rfl,ha1,ha2,hd6⟩;have hR7:=HR6.out.dealt hd6;have hab:=j7x HER.out hsb ha1 ha2;obtain⟨y0,y1,y2,y3,y4,y5,y6,-⟩:=blkD hR7.bx;have z5:=frz hR7.bx 5;have HR7:=zQ9 (zA9 hR7 hab.1);have ha:=hab.2;clear hR7 hd6 ha1 ha2 hab)
 have hR8:=HR7.out.1.put 5 (.int .i64 (sm+a)) (d':=⟨6,f,0,0,0,sm+a,er,sZ⟩) ((j0d HR7.out.1.bx).trans (by simp))
 refine HQ _ _ _ _ _ _ _ _ _ _ _ _ _ _ _ _ _ _ _ _ _ _ _ _ _ _ _ _ _ _ _ _ _ _ _ _ _ _ _ _ _ _ _ _ _ _ _ _ _ _ _ _ _ _ _ _ _ _ _ _ _ _ _ _ _ _ _ _ _ _ _ _ _ _ _ _ _ _ _ _ _ _ _ _ _ _ _ _ _ _ _ _ _ _ _ _ _ _ _ _ _ _ _ _ _ _ _ _ _ _ _ _ _ _ _ _ _ _ _ _ _ _ _ _ _ _ _ _ _ _ _ _ _ _ _ _ _ _ _ _ _ _ _ _ _ _ _ _ _ _ _ _ _ _ _ _ _ _ _ _ _ _ _ _ _ _ _ _ _ _ _ _ _ _ _ _ _ _ _ _ _ _ _ _ _ _ _ _ _ _ _ _ _ _ _ _ _ _ _ _ _ _ _ _ _ _ _ _ _ _ _ _ _ _ _ _ _ _ _ _ _ _ _ _ _ _ _ _ _ _ _ _ _ _ _ _ _ _ _ _ _ _ _ _ _ _ _ _ _ _ _ _ _ _ _ _ _ _ _ _ _ _ _ _ _ _ _ _ _ _ _ _ _ _ _ _ _ _ _ _ _ _ _ _ _ _ _ _ _ _ _ _ _ _ ?_
 exact⟨-1,_,gs,gone,rfl,hR8.mono (by omega),HC.out.r.counted HC.out.fk (by rw[HC.out.su];exact(HC.out.r.sum HC.out.fk).1) HER.out HR7.out.2.1 HR7.out.2.2 HC.out.d6⟩
theorem sw_cnt6 (w w1 W:World) (H q p f al nh be off ce g18 ze1 ze2 zg1 zg2 z3 zr M3:Nat) (t ho kd sm:Int) (vd:Value) (A Ak Ah:Option Addr) (c ck ch:Nat) (l:List Mk) (ks:List Int) (hs gs:List (List Int)) (ds:List De) (gone whose:List Int) (v1 v2 v3 v4 v5 v6 v7 v8 v9 Z0 Z1 Z2 Z3 Z4 Z5 Z6 Z7 Z8 Z9 ZA ZB ZC ZD ZE ZF ZG ZH ZI ZJ ZK ZL ZM ZN ZO ZP ZQ ZR ZS ZT ZU ZV ZW ZX ZY ZZ Za Zb Zc Zd Ze Zf Zg Zh Zi Zj Zk Zl Zm Zn Zo Zp Zq Zr Zs Zt Zu Zv Zw Zx Zy Zz Y0 Y1 Y2 Y3 Y4 Y5 Y6 Y7 Y8 Y9 YA YB YC YD YE YF YG YH YI YJ YK YL YM YN YO YP YQ YR YS YT YU YV YW YX YY YZ Ya Yb Yc Yd Ye Yf Yg Yh Yi Yj Yk Yl Ym Yn Yo Yp Yq Yr Ys Yt Yu Yv Yw Yx Yy Yz X0 X1 X2 X3 X4 X5 X6 X7 X8 X9 XA XB XC XD XE XF XG XH XI XJ XK XL XM XN XO XP XQ XR XS XT XU XV XW XX XY XZ Xa Xb Xc Xd Xe Xf Xg Xh Xi Xj Xk Xl Xm Xn Xo Xp Xq Xr Xs Xt Xu Xv Xw Xx Xy Xz K0 K1 K2 K3 K4 K5 K6 K7 K8 K9 KA KB KC KD KE KF KG KH KI KJ KK KL KM KN KO KP KQ KR KS KT KU KV KW KX KY KZ Ka Kb Kc Kd Ke Kf Kg Kh Ki Kj Kk Kl Km Kn Ko Kp Kq Kr Ks Kt Ku Kv Kw Kx Ky Kz J0 J1 J2 J3 J4 J5 J6 J7 J8 J9 JA JB JC JD JE JF JG JH JI JJ JK JL JM JN JO JP JQ JR JS JT JU JV JW JX JY JZ Ja Jb Jc Jd Je Jf Jg Jh Ji Jj Jk Jl Jm Jn Jo Jp Jq Jr Js Jt Ju Jv Jw Jx Jy Jz G0 G1 G2 G3 G4 G5 G6 G7 G8 G9 GA GB GC GD GE GF GG GH GI GJ GK GL GM GN GO GP GQ GR GS GT GU GV GW GX GY GZ Ga Gb Gc Gd Ge Gf Gg Gh Gi Gj Gk Gl Gm Gn Gp Gq Gr Gs Gt Gu Gv Gw Gx Gy Gz F0 F1 F2 F3 F4 F5 F6 F7 F8 F9 FA:Value) (Q:Exit→Act→World→Prop)
 (HRD:Hid (SwD w w1 H q t al nh be off ce g18 ze1 ze2 zg1 zg2 z3 zr p A Ak Ah c ck ch vd ds gs gone Z5 whose (M3+1+1+1) ⟨6,f,0,0,0,0,0,sZ⟩ W)) (HC:Hid (SwC t al nh f ho sm l ks hs ds gs gone whose)) (hfn:f<nh) (hnh3:nh≤3) (hal5:al≤5) (hal0:0<al) (hMN3:M3≤4611686018000030000) (hHW:Hd W H (M3+1+1+1)) (hsb:0≤sm∧sm≤80)
 (hk:6≤kd) (hoe:ho=-1)
 (HQ:SwQ w w1 H q p f al nh be off ce g18 ze1 ze2 zg1 zg2 z3 zr M3 t ho kd vd A Ak Ah c ck ch l ks hs ds whose v1 v2 v3 v4 v5 v6 v7 v8 v9 Z0 Z1 Z2 Z3 Z4 Z5 Z6 ZA ZB ZC ZD ZE ZF ZG ZH ZI ZJ ZK ZL ZM ZN ZO ZP ZQ ZR ZS ZT ZU ZV ZW ZX ZY ZZ Za Zb Zc Zd Ze Zf Zg Zh Zi Zj Zk Zl Zm Zn Zo Zp Zq Zr Zs Zt Zu Zv Zw Zx Zy Zz Y0 Y1 Y2 Y3 Y4 Y5 Y6 Y7 Y8 Y9 YA YB YC YD YE YF YG Gx Gy Gz F0 F1 F2 F3 F4 F5 F6 F7 F8 F9 FA Q) :
 Code.wp Tryz.prog j2x Q ⟨#[Value.pointer (some ⟨H,0,none⟩),v1,v2,v3,v4,v5,v6,v7,v8,v9,Z0,Z1,Value.pointer (some ⟨q,0,none⟩),Value.int .i64 (al:Int),Z2,Z3,Z4,Value.slice (some ⟨be,off,none⟩) nh ce,Value.slice (some ⟨g18,0,none⟩) al al,Z5,Z6,Value.int .i64 (f:Int),Value.int .i64 ho,Value.int .i64 (-1),Value.int .i64 kd,Value.pointer (some ⟨p,0,none⟩),Z7,Z8,Z9,ZA,ZB,ZC,ZD,ZE,ZF,ZG,ZH,ZI,ZJ,ZK,ZL,ZM,ZN,ZO,ZP,ZQ,ZR,ZS,ZT,ZU,ZV,ZW,ZX,ZY,ZZ,Za,Zb,Zc,Zd,Ze,Zf,Zg,Zh,Zi,Zj,Zk,Zl,Zm,Zn,Zo,Zp,Zq,Zr,Zs,Zt,Zu,Zv,Zw,Zx,Zy,Zz,Y0,Y1,Y2,Y3,Y4,Y5,Y6,Y7,Y8,Y9,YA,YB,YC,YD,YE,YF,YG,YH,YI,YJ,YK,YL,YM,YN,YO,YP,YQ,YR,YS,YT,YU,YV,YW,YX,YY,YZ,Ya,Yb,Yc,Yd,Ye,Yf,Yg,Yh,Yi,Yj,Yk,Yl,Ym,Yn,Yo,Yp,Yq,Yr,Ys,Yt,Yu,Yv,Yw,Yx,Yy,Yz,X0,X1,X2,X3,X4,X5,X6,X7,X8,X9,XA,XB,XC,XD,XE,XF,XG,XH,XI,XJ,XK,XL,XM,XN,XO,XP,XQ,XR,XS,XT,XU,XV,XW,XX,XY,XZ,Xa,Xb,Xc,Xd,Xe,Xf,Xg,Xh,Xi,Xj,Xk,Xl,Xm,Xn,Xo,Xp,Xq,Xr,Xs,Xt,Xu,Xv,Xw,Xx,Xy,Xz,K0,K1,K2,K3,K4,K5,K6,K7,K8,K9,KA,KB,KC,KD,KE,KF,KG,KH,KI,KJ,KK,KL,KM,KN,KO,KP,KQ,KR,KS,KT,KU,KV,KW,KX,KY,KZ,Ka,Kb,Kc,Kd,Ke,Kf,Kg,Kh,Ki,Kj,Kk,Kl,Km,Kn,Ko,Kp,Kq,Kr,Ks,Kt,Ku,Kv,Kw,Kx,Ky,Kz,J0,J1,J2,J3,J4,J5,J6,J7,J8,J9,JA,JB,JC,JD,JE,JF,JG,JH,JI,JJ,JK,JL,JM,JN,JO,JP,JQ,JR,JS,JT,JU,JV,JW,JX,JY,JZ,Ja,Jb,Jc,Jd,Je,Jf,Jg,Jh,Ji,Jj,Jk,Jl,Jm,Jn,Jo,Jp,Jq,Jr,Js,Jt,Ju,Jv,Jw,Jx,Jy,Jz,G0,G1,G2,G3,G4,G5,G6,G7,G8,G9,GA,GB,GC,GD,GE,GF,GG,GH,GI,GJ,GK,GL,GM,GN,GO,GP,GQ,GR,GS,GT,GU,GV,GW,GX,GY,GZ,Ga,Gb,Gc,Gd,Ge,Gf,Gg,Gh,Gi,Gj,Gk,Gl,Gm,Gn,Gp,Gq,Gr,Gs,Gt,Gu,Gv,Gw,Gx,Gy,Gz,F0,F1,F2,F3,F4,F5,F6,F7,F8,F9,FA],[]⟩ W:=by
 conv=>arg 2;whnf
 subst hoe
 have x1:(kd==1)=false:=beq_eq_false_iff_ne.2 (by omega)
 have x2:(kd==2)=false:=beq_eq_false_iff_ne.2 (by omega)
 have x3:(kd==3)=false:=beq_eq_false_iff_ne.2 (by omega)
 have x4:(kd==4)=false:=beq_eq_false_iff_ne.2 (by omega)
 have hfs:=j1w (some ⟨be,off,none⟩) nh ce f gs W (TDe.grid (RD.td HRD.out)).1 hfn (by omega) HC.out.rb
 rw[←HC.out.su] at hfs
 go_upto_region 24 with (go_at_call 75;refine hfs.mono ?_;rintro e w' ⟨rfl,rfl⟩)
 clear hfs
 have hof:=j4a H (M3+1+1+1) 0 (some ⟨W.heap.size,0,none⟩) 3 3 [0,5,20] _ (hHW.alloc _) (by omega) (j7f W 3 0 5 20) (j3n hHW (zL9 _) 0) (by omega)
 go_upto_region 25 with (go_at_call 72;refine hof.mono ?_;rintro e w5 ⟨er,rfl,her,hd5⟩;have hR5:=((RD.alloc HRD.out _).dealt hd5);obtain⟨e0,e1,e2,e3,e4,e5,e6,-⟩:=blkD hR5.bx;have z6:=frz hR5.bx 6;have HR5:=zQ9 hR5;clear hR5 hd5)
 have her':er=0∨er=5∨er=20:=by
  simp only[List.mem_cons,List.not_mem_nil,or_false] at her
  omega
 have HER:=zQ9 her'
 obtain⟨V5,hV5⟩:∃ V5,V5=w5.setCell ⟨p,6,none⟩ (.int .i64 er):=⟨_,rfl⟩
 have hR6:=HR5.out.put 6 (.int .i64 er) (d':=⟨6,f,0,0,0,0,er,sZ⟩) ((j0d HR5.out.bx).trans (by simp))
 rw[←hV5] at hR6 ⊢
 obtain⟨e0,e1,e2,e3,e4,e5,e6,-⟩:=blkD hR6.bx
 have hH6:=hR6.td.dl.hd
 have HR6:=zQ9 hR6
 have hp1:-1600≤-er*sm∧-er*sm≤1600:=by rcases HER.out with rfl|rfl|rfl<;>omega
 have hp2:-1600≤er*sm∧er*sm≤1600:=by rcases HER.out with rfl|rfl|rfl<;>omega
 have heb:0≤er∧er≤20:=by omega
 clear hR6 hV5 her her' hof z6
 go_wp2_with (go_at_call 50;refine(j1c H (M3+1+1+1+1) _ _ V5 hH6 (by omega) (by rcases HER.out with rfl|rfl|rfl<;>exact j2n (by omega)) (by rcases HER.out with rfl|rfl|rfl<;>exact j2n (by omega))).mono ?_;rintro e w6 ⟨a,rfl,ha1,ha2,hd6⟩;have hR7:=HR6.out.dealt hd6;have hab:=j7x HER.out hsb ha1 ha2;obtain⟨y0,y1,y2,y3,y4,y5,y6,-⟩:=blkD hR7.bx;have z5:=frz hR7.bx 5;have HR7:=zQ9 (zA9 hR7 hab.1);have ha:=hab.2;clear hR7 hd6 ha1 ha2 hab)
 have hR8:=HR7.out.1.put 5 (.int .i64 (sm+a)) (d':=⟨6,f,0,0,0,sm+a,er,sZ⟩) ((j0d HR7.out.1.bx).trans (by simp))
 refine HQ _ _ _ _ _ _ _ _ _ _ _ _ _ _ _ _ _ _ _ _ _ _ _ _ _ _ _ _ _ _ _ _ _ _ _ _ _ _ _ _ _ _ _ _ _ _ _ _ _ _ _ _ _ _ _ _ _ _ _ _ _ _ _ _ _ _ _ _ _ _ _ _ _ _ _ _ _ _ _ _ _ _ _ _ _ _ _ _ _ _ _ _ _ _ _ _ _ _ _ _ _ _ _ _ _ _ _ _ _ _ _ _ _ _ _ _ _ _ _ _ _ _ _ _ _ _ _ _ _ _ _ _ _ _ _ _ _ _ _ _ _ _ _ _ _ _ _ _ _ _ _ _ _ _ _ _ _ _ _ _ _ _ _ _ _ _ _ _ _ _ _ _ _ _ _ _ _ _ _ _ _ _ _ _ _ _ _ _ _ _ _ _ _ _ _ _ _ _ _ _ _ _ _ _ _ _ _ _ _ _ _ _ _ _ _ _ _ _ _ _ _ _ _ _ _ _ _ _ _ _ _ _ _ _ _ _ _ _ _ _ _ _ _ _ _ _ _ _ _ _ _ _ _ _ _ _ _ _ _ _ _ _ _ _ _ _ _ _ _ _ _ _ _ _ _ _ _ _ _ _ _ _ _ _ _ _ _ _ _ _ _ _ _ _ ?_
 exact⟨-1,_,gs,gone,rfl,hR8.mono (by omega),HC.out.r.counted HC.out.fk (by rw[HC.out.su];exact(HC.out.r.sum HC.out.fk).1) HER.out HR7.out.2.1 HR7.out.2.2 HC.out.d6⟩
theorem sw_cnt2b (w w1 W:World) (H q p f al nh be off ce g18 ze1 ze2 zg1 zg2 z3 zr M3:Nat) (t ho kd sm:Int) (vd:Value) (A Ak Ah:Option Addr) (c ck ch:Nat) (l:List Mk) (ks:List Int) (hs gs:List (List Int)) (ds:List De) (gone whose:List Int) (v1 v2 v3 v4 v5 v6 v7 v8 v9 Z0 Z1 Z2 Z3 Z4 Z5 Z6 Z7 Z8 Z9 ZA ZB ZC ZD ZE ZF ZG ZH ZI ZJ ZK ZL ZM ZN ZO ZP ZQ ZR ZS ZT ZU ZV ZW ZX ZY ZZ Za Zb Zc Zd Ze Zf Zg Zh Zi Zj Zk Zl Zm Zn Zo Zp Zq Zr Zs Zt Zu Zv Zw Zx Zy Zz Y0 Y1 Y2 Y3 Y4 Y5 Y6 Y7 Y8 Y9 YA YB YC YD YE YF YG YH YI YJ YK YL YM YN YO YP YQ YR YS YT YU YV YW YX YY YZ Ya Yb Yc Yd Ye Yf Yg Yh Yi Yj Yk Yl Ym Yn Yo Yp Yq Yr Ys Yt Yu Yv Yw Yx Yy Yz X0 X1 X2 X3 X4 X5 X6 X7 X8 X9 XA XB XC XD XE XF XG XH XI XJ XK XL XM XN XO XP XQ XR XS XT XU XV XW XX XY XZ Xa Xb Xc Xd Xe Xf Xg Xh Xi Xj Xk Xl Xm Xn Xo Xp Xq Xr Xs Xt Xu Xv Xw Xx Xy Xz K0 K1 K2 K3 K4 K5 K6 K7 K8 K9 KA KB KC KD KE KF KG KH KI KJ KK KL KM KN KO KP KQ KR KS KT KU KV KW KX KY KZ Ka Kb Kc Kd Ke Kf Kg Kh Ki Kj Kk Kl Km Kn Ko Kp Kq Kr Ks Kt Ku Kv Kw Kx Ky Kz J0 J1 J2 J3 J4 J5 J6 J7 J8 J9 JA JB JC JD JE JF JG JH JI JJ JK JL JM JN JO JP JQ JR JS JT JU JV JW JX JY JZ Ja Jb Jc Jd Je Jf Jg Jh Ji Jj Jk Jl Jm Jn Jo Jp Jq Jr Js Jt Ju Jv Jw Jx Jy Jz G0 G1 G2 G3 G4 G5 G6 G7 G8 G9 GA GB GC GD GE GF GG GH GI GJ GK GL GM GN GO GP GQ GR GS GT GU GV GW GX GY GZ Ga Gb Gc Gd Ge Gf Gg Gh Gi Gj Gk Gl Gm Gn Gp Gq Gr Gs Gt Gu Gv Gw Gx Gy Gz F0 F1 F2 F3 F4 F5 F6 F7 F8 F9 FA:Value) (Q:Exit→Act→World→Prop)
 (HRD:Hid (SwD w w1 H q t al nh be off ce g18 ze1 ze2 zg1 zg2 z3 zr p A Ak Ah c ck ch vd ds gs gone Z5 whose (M3+1+1+1) ⟨6,f,0,0,0,0,0,sZ⟩ W)) (HC:Hid (SwC t al nh f ho sm l ks hs ds gs gone whose)) (hfn:f<nh) (hnh3:nh≤3) (hal5:al≤5) (hal0:0<al) (hMN3:M3≤4611686018000030000) (hHW:Hd W H (M3+1+1+1)) (hsb:0≤sm∧sm≤80)
 (hk:kd=2) (o:Nat) (hoe:ho=o) (hal1:¬(1:Int)<al)
 (HQ:SwQ w w1 H q p f al nh be off ce g18 ze1 ze2 zg1 zg2 z3 zr M3 t ho kd vd A Ak Ah c ck ch l ks hs ds whose v1 v2 v3 v4 v5 v6 v7 v8 v9 Z0 Z1 Z2 Z3 Z4 Z5 Z6 ZA ZB ZC ZD ZE ZF ZG ZH ZI ZJ ZK ZL ZM ZN ZO ZP ZQ ZR ZS ZT ZU ZV ZW ZX ZY ZZ Za Zb Zc Zd Ze Zf Zg Zh Zi Zj Zk Zl Zm Zn Zo Zp Zq Zr Zs Zt Zu Zv Zw Zx Zy Zz Y0 Y1 Y2 Y3 Y4 Y5 Y6 Y7 Y8 Y9 YA YB YC YD YE YF YG Gx Gy Gz F0 F1 F2 F3 F4 F5 F6 F7 F8 F9 FA Q) :
 Code.wp Tryz.prog j2x Q ⟨#[Value.pointer (some ⟨H,0,none⟩),v1,v2,v3,v4,v5,v6,v7,v8,v9,Z0,Z1,Value.pointer (some ⟨q,0,none⟩),Value.int .i64 (al:Int),Z2,Z3,Z4,Value.slice (some ⟨be,off,none⟩) nh ce,Value.slice (some ⟨g18,0,none⟩) al al,Z5,Z6,Value.int .i64 (f:Int),Value.int .i64 ho,Value.int .i64 (-1),Value.int .i64 kd,Value.pointer (some ⟨p,0,none⟩),Z7,Z8,Z9,ZA,ZB,ZC,ZD,ZE,ZF,ZG,ZH,ZI,ZJ,ZK,ZL,ZM,ZN,ZO,ZP,ZQ,ZR,ZS,ZT,ZU,ZV,ZW,ZX,ZY,ZZ,Za,Zb,Zc,Zd,Ze,Zf,Zg,Zh,Zi,Zj,Zk,Zl,Zm,Zn,Zo,Zp,Zq,Zr,Zs,Zt,Zu,Zv,Zw,Zx,Zy,Zz,Y0,Y1,Y2,Y3,Y4,Y5,Y6,Y7,Y8,Y9,YA,YB,YC,YD,YE,YF,YG,YH,YI,YJ,YK,YL,YM,YN,YO,YP,YQ,YR,YS,YT,YU,YV,YW,YX,YY,YZ,Ya,Yb,Yc,Yd,Ye,Yf,Yg,Yh,Yi,Yj,Yk,Yl,Ym,Yn,Yo,Yp,Yq,Yr,Ys,Yt,Yu,Yv,Yw,Yx,Yy,Yz,X0,X1,X2,X3,X4,X5,X6,X7,X8,X9,XA,XB,XC,XD,XE,XF,XG,XH,XI,XJ,XK,XL,XM,XN,XO,XP,XQ,XR,XS,XT,XU,XV,XW,XX,XY,XZ,Xa,Xb,Xc,Xd,Xe,Xf,Xg,Xh,Xi,Xj,Xk,Xl,Xm,Xn,Xo,Xp,Xq,Xr,Xs,Xt,Xu,Xv,Xw,Xx,Xy,Xz,K0,K1,K2,K3,K4,K5,K6,K7,K8,K9,KA,KB,KC,KD,KE,KF,KG,KH,KI,KJ,KK,KL,KM,KN,KO,KP,KQ,KR,KS,KT,KU,KV,KW,KX,KY,KZ,Ka,Kb,Kc,Kd,Ke,Kf,Kg,Kh,Ki,Kj,Kk,Kl,Km,Kn,Ko,Kp,Kq,Kr,Ks,Kt,Ku,Kv,Kw,Kx,Ky,Kz,J0,J1,J2,J3,J4,J5,J6,J7,J8,J9,JA,JB,JC,JD,JE,JF,JG,JH,JI,JJ,JK,JL,JM,JN,JO,JP,JQ,JR,JS,JT,JU,JV,JW,JX,JY,JZ,Ja,Jb,Jc,Jd,Je,Jf,Jg,Jh,Ji,Jj,Jk,Jl,Jm,Jn,Jo,Jp,Jq,Jr,Js,Jt,Ju,Jv,Jw,Jx,Jy,Jz,G0,G1,G2,G3,G4,G5,G6,G7,G8,G9,GA,GB,GC,GD,GE,GF,GG,GH,GI,GJ,GK,GL,GM,GN,GO,GP,GQ,GR,GS,GT,GU,GV,GW,GX,GY,GZ,Ga,Gb,Gc,Gd,Ge,Gf,Gg,Gh,Gi,Gj,Gk,Gl,Gm,Gn,Gp,Gq,Gr,Gs,Gt,Gu,Gv,Gw,Gx,Gy,Gz,F0,F1,F2,F3,F4,F5,F6,F7,F8,F9,FA],[]⟩ W:=by
 conv=>arg 2;whnf
 subst hk hoe
 have hfs:=j1w (some ⟨be,off,none⟩) nh ce f gs W (TDe.grid (RD.td HRD.out)).1 hfn (by omega) HC.out.rb
 rw[←HC.out.su] at hfs
 go_upto_region 24 with (go_at_call 75;refine hfs.mono ?_;rintro e w' ⟨rfl,rfl⟩)
 clear hfs
 have hof:=j4a H (M3+1+1+1) 0 (some ⟨W.heap.size,0,none⟩) 3 3 [0,5,20] _ (hHW.alloc _) (by omega) (j7f W 3 0 5 20) (j3n hHW (zL9 _) 0) (by omega)
 go_upto_region 25 with (go_at_call 72;refine hof.mono ?_;rintro e w5 ⟨er,rfl,her,hd5⟩;have hR5:=((RD.alloc HRD.out _).dealt hd5);obtain⟨e0,e1,e2,e3,e4,e5,e6,-⟩:=blkD hR5.bx;have z6:=frz hR5.bx 6;have HR5:=zQ9 hR5;clear hR5 hd5)
 have her':er=0∨er=5∨er=20:=by
  simp only[List.mem_cons,List.not_mem_nil,or_false] at her
  omega
 have HER:=zQ9 her'
 obtain⟨V5,hV5⟩:∃ V5,V5=w5.setCell ⟨p,6,none⟩ (.int .i64 er):=⟨_,rfl⟩
 have hR6:=HR5.out.put 6 (.int .i64 er) (d':=⟨6,f,0,0,0,0,er,sZ⟩) ((j0d HR5.out.bx).trans (by simp))
 rw[←hV5] at hR6 ⊢
 obtain⟨e0,e1,e2,e3,e4,e5,e6,-⟩:=blkD hR6.bx
 have hH6:=hR6.td.dl.hd
 have HR6:=zQ9 hR6
 have hp1:-1600≤-er*sm∧-er*sm≤1600:=by rcases HER.out with rfl|rfl|rfl<;>omega
 have hp2:-1600≤er*sm∧er*sm≤1600:=by rcases HER.out with rfl|rfl|rfl<;>omega
 have heb:0≤er∧er≤20:=by omega
 clear hR6 hV5 her her' hof z6
 go_wp2_with (go_at_call 50;refine(j1c H (M3+1+1+1+1) _ _ V5 hH6 (by omega) (by rcases HER.out with rfl|rfl|rfl<;>exact j2n (by omega)) (by rcases HER.out with rfl|rfl|rfl<;>exact j2n (by omega))).mono ?_;rintro e w6 ⟨a,rfl,ha1,ha2,hd6⟩;have hR7:=HR6.out.dealt hd6;have hab:=j7x HER.out hsb ha1 ha2;obtain⟨y0,y1,y2,y3,y4,y5,y6,-⟩:=blkD hR7.bx;have z5:=frz hR7.bx 5;have HR7:=zQ9 (zA9 hR7 hab.1);have ha:=hab.2;clear hR7 hd6 ha1 ha2 hab)
 have hR8:=HR7.out.1.put 5 (.int .i64 (sm+a)) (d':=⟨6,f,0,0,0,sm+a,er,sZ⟩) ((j0d HR7.out.1.bx).trans (by simp))
 refine HQ _ _ _ _ _ _ _ _ _ _ _ _ _ _ _ _ _ _ _ _ _ _ _ _ _ _ _ _ _ _ _ _ _ _ _ _ _ _ _ _ _ _ _ _ _ _ _ _ _ _ _ _ _ _ _ _ _ _ _ _ _ _ _ _ _ _ _ _ _ _ _ _ _ _ _ _ _ _ _ _ _ _ _ _ _ _ _ _ _ _ _ _ _ _ _ _ _ _ _ _ _ _ _ _ _ _ _ _ _ _ _ _ _ _ _ _ _ _ _ _ _ _ _ _ _ _ _ _ _ _ _ _ _ _ _ _ _ _ _ _ _ _ _ _ _ _ _ _ _ _ _ _ _ _ _ _ _ _ _ _ _ _ _ _ _ _ _ _ _ _ _ _ _ _ _ _ _ _ _ _ _ _ _ _ _ _ _ _ _ _ _ _ _ _ _ _ _ _ _ _ _ _ _ _ _ _ _ _ _ _ _ _ _ _ _ _ _ _ _ _ _ _ _ _ _ _ _ _ _ _ _ _ _ _ _ _ _ _ _ _ _ _ _ _ _ _ _ _ _ _ _ _ _ _ _ _ _ _ _ _ _ _ _ _ _ _ _ _ _ _ _ _ _ _ _ _ _ _ _ _ _ _ _ _ _ _ _ _ _ _ _ _ _ _ ?_
 exact⟨-1,_,gs,gone,rfl,hR8.mono (by omega),HC.out.r.counted HC.out.fk (by rw[HC.out.su];exact(HC.out.r.sum HC.out.fk).1) HER.out HR7.out.2.1 HR7.out.2.2 HC.out.d6⟩
theorem sw_cnt6b (w w1 W:World) (H q p f al nh be off ce g18 ze1 ze2 zg1 zg2 z3 zr M3:Nat) (t ho kd sm:Int) (vd:Value) (A Ak Ah:Option Addr) (c ck ch:Nat) (l:List Mk) (ks:List Int) (hs gs:List (List Int)) (ds:List De) (gone whose:List Int) (v1 v2 v3 v4 v5 v6 v7 v8 v9 Z0 Z1 Z2 Z3 Z4 Z5 Z6 Z7 Z8 Z9 ZA ZB ZC ZD ZE ZF ZG ZH ZI ZJ ZK ZL ZM ZN ZO ZP ZQ ZR ZS ZT ZU ZV ZW ZX ZY ZZ Za Zb Zc Zd Ze Zf Zg Zh Zi Zj Zk Zl Zm Zn Zo Zp Zq Zr Zs Zt Zu Zv Zw Zx Zy Zz Y0 Y1 Y2 Y3 Y4 Y5 Y6 Y7 Y8 Y9 YA YB YC YD YE YF YG YH YI YJ YK YL YM YN YO YP YQ YR YS YT YU YV YW YX YY YZ Ya Yb Yc Yd Ye Yf Yg Yh Yi Yj Yk Yl Ym Yn Yo Yp Yq Yr Ys Yt Yu Yv Yw Yx Yy Yz X0 X1 X2 X3 X4 X5 X6 X7 X8 X9 XA XB XC XD XE XF XG XH XI XJ XK XL XM XN XO XP XQ XR XS XT XU XV XW XX XY XZ Xa Xb Xc Xd Xe Xf Xg Xh Xi Xj Xk Xl Xm Xn Xo Xp Xq Xr Xs Xt Xu Xv Xw Xx Xy Xz K0 K1 K2 K3 K4 K5 K6 K7 K8 K9 KA KB KC KD KE KF KG KH KI KJ KK KL KM KN KO KP KQ KR KS KT KU KV KW KX KY KZ Ka Kb Kc Kd Ke Kf Kg Kh Ki Kj Kk Kl Km Kn Ko Kp Kq Kr Ks Kt Ku Kv Kw Kx Ky Kz J0 J1 J2 J3 J4 J5 J6 J7 J8 J9 JA JB JC JD JE JF JG JH JI JJ JK JL JM JN JO JP JQ JR JS JT JU JV JW JX JY JZ Ja Jb Jc Jd Je Jf Jg Jh Ji Jj Jk Jl Jm Jn Jo Jp Jq Jr Js Jt Ju Jv Jw Jx Jy Jz G0 G1 G2 G3 G4 G5 G6 G7 G8 G9 GA GB GC GD GE GF GG GH GI GJ GK GL GM GN GO GP GQ GR GS GT GU GV GW GX GY GZ Ga Gb Gc Gd Ge Gf Gg Gh Gi Gj Gk Gl Gm Gn Gp Gq Gr Gs Gt Gu Gv Gw Gx Gy Gz F0 F1 F2 F3 F4 F5 F6 F7 F8 F9 FA:Value) (Q:Exit→Act→World→Prop)
 (HRD:Hid (SwD w w1 H q t al nh be off ce g18 ze1 ze2 zg1 zg2 z3 zr p A Ak Ah c ck ch vd ds gs gone Z5 whose (M3+1+1+1) ⟨6,f,0,0,0,0,0,sZ⟩ W)) (HC:Hid (SwC t al nh f ho sm l ks hs ds gs gone whose)) (hfn:f<nh) (hnh3:nh≤3) (hal5:al≤5) (hal0:0<al) (hMN3:M3≤4611686018000030000) (hHW:Hd W H (M3+1+1+1)) (hsb:0≤sm∧sm≤80)
 (hk:6≤kd) (o:Nat) (hoe:ho=o) (hnh1:¬(1:Int)<nh)
 (HQ:SwQ w w1 H q p f al nh be off ce g18 ze1 ze2 zg1 zg2 z3 zr M3 t ho kd vd A Ak Ah c ck ch l ks hs ds whose v1 v2 v3 v4 v5 v6 v7 v8 v9 Z0 Z1 Z2 Z3 Z4 Z5 Z6 ZA ZB ZC ZD ZE ZF ZG ZH ZI ZJ ZK ZL ZM ZN ZO ZP ZQ ZR ZS ZT ZU ZV ZW ZX ZY ZZ Za Zb Zc Zd Ze Zf Zg Zh Zi Zj Zk Zl Zm Zn Zo Zp Zq Zr Zs Zt Zu Zv Zw Zx Zy Zz Y0 Y1 Y2 Y3 Y4 Y5 Y6 Y7 Y8 Y9 YA YB YC YD YE YF YG Gx Gy Gz F0 F1 F2 F3 F4 F5 F6 F7 F8 F9 FA Q) :
 Code.wp Tryz.prog j2x Q ⟨#[Value.pointer (some ⟨H,0,none⟩),v1,v2,v3,v4,v5,v6,v7,v8,v9,Z0,Z1,Value.pointer (some ⟨q,0,none⟩),Value.int .i64 (al:Int),Z2,Z3,Z4,Value.slice (some ⟨be,off,none⟩) nh ce,Value.slice (some ⟨g18,0,none⟩) al al,Z5,Z6,Value.int .i64 (f:Int),Value.int .i64 ho,Value.int .i64 (-1),Value.int .i64 kd,Value.pointer (some ⟨p,0,none⟩),Z7,Z8,Z9,ZA,ZB,ZC,ZD,ZE,ZF,ZG,ZH,ZI,ZJ,ZK,ZL,ZM,ZN,ZO,ZP,ZQ,ZR,ZS,ZT,ZU,ZV,ZW,ZX,ZY,ZZ,Za,Zb,Zc,Zd,Ze,Zf,Zg,Zh,Zi,Zj,Zk,Zl,Zm,Zn,Zo,Zp,Zq,Zr,Zs,Zt,Zu,Zv,Zw,Zx,Zy,Zz,Y0,Y1,Y2,Y3,Y4,Y5,Y6,Y7,Y8,Y9,YA,YB,YC,YD,YE,YF,YG,YH,YI,YJ,YK,YL,YM,YN,YO,YP,YQ,YR,YS,YT,YU,YV,YW,YX,YY,YZ,Ya,Yb,Yc,Yd,Ye,Yf,Yg,Yh,Yi,Yj,Yk,Yl,Ym,Yn,Yo,Yp,Yq,Yr,Ys,Yt,Yu,Yv,Yw,Yx,Yy,Yz,X0,X1,X2,X3,X4,X5,X6,X7,X8,X9,XA,XB,XC,XD,XE,XF,XG,XH,XI,XJ,XK,XL,XM,XN,XO,XP,XQ,XR,XS,XT,XU,XV,XW,XX,XY,XZ,Xa,Xb,Xc,Xd,Xe,Xf,Xg,Xh,Xi,Xj,Xk,Xl,Xm,Xn,Xo,Xp,Xq,Xr,Xs,Xt,Xu,Xv,Xw,Xx,Xy,Xz,K0,K1,K2,K3,K4,K5,K6,K7,K8,K9,KA,KB,KC,KD,KE,KF,KG,KH,KI,KJ,KK,KL,KM,KN,KO,KP,KQ,KR,KS,KT,KU,KV,KW,KX,KY,KZ,Ka,Kb,Kc,Kd,Ke,Kf,Kg,Kh,Ki,Kj,Kk,Kl,Km,Kn,Ko,Kp,Kq,Kr,Ks,Kt,Ku,Kv,Kw,Kx,Ky,Kz,J0,J1,J2,J3,J4,J5,J6,J7,J8,J9,JA,JB,JC,JD,JE,JF,JG,JH,JI,JJ,JK,JL,JM,JN,JO,JP,JQ,JR,JS,JT,JU,JV,JW,JX,JY,JZ,Ja,Jb,Jc,Jd,Je,Jf,Jg,Jh,Ji,Jj,Jk,Jl,Jm,Jn,Jo,Jp,Jq,Jr,Js,Jt,Ju,Jv,Jw,Jx,Jy,Jz,G0,G1,G2,G3,G4,G5,G6,G7,G8,G9,GA,GB,GC,GD,GE,GF,GG,GH,GI,GJ,GK,GL,GM,GN,GO,GP,GQ,GR,GS,GT,GU,GV,GW,GX,GY,GZ,Ga,Gb,Gc,Gd,Ge,Gf,Gg,Gh,Gi,Gj,Gk,Gl,Gm,Gn,Gp,Gq,Gr,Gs,Gt,Gu,Gv,Gw,Gx,Gy,Gz,F0,F1,F2,F3,F4,F5,F6,F7,F8,F9,FA],[]⟩ W:=by
 conv=>arg 2;whnf
 subst hoe
 obtain⟨b0,b1,b2,b3,b4⟩:=blk5 (TDe.box (RD.td HRD.out))
 have x1:(kd==1)=false:=beq_eq_false_iff_ne.2 (by omega)
 have x2:(kd==2)=false:=beq_eq_false_iff_ne.2 (by omega)
 have x3:(kd==3)=false:=beq_eq_false_iff_ne.2 (by omega)
 have x4:(kd==4)=false:=beq_eq_false_iff_ne.2 (by omega)
 have hfs:=j1w (some ⟨be,off,none⟩) nh ce f gs W (TDe.grid (RD.td HRD.out)).1 hfn (by omega) HC.out.rb
 rw[←HC.out.su] at hfs
 go_upto_region 24 with (go_at_call 75;refine hfs.mono ?_;rintro e w' ⟨rfl,rfl⟩)
 clear hfs
 have hof:=j4a H (M3+1+1+1) 0 (some ⟨W.heap.size,0,none⟩) 3 3 [0,5,20] _ (hHW.alloc _) (by omega) (j7f W 3 0 5 20) (j3n hHW (zL9 _) 0) (by omega)
 go_upto_region 25 with (go_at_call 72;refine hof.mono ?_;rintro e w5 ⟨er,rfl,her,hd5⟩;have hR5:=((RD.alloc HRD.out _).dealt hd5);obtain⟨e0,e1,e2,e3,e4,e5,e6,-⟩:=blkD hR5.bx;have z6:=frz hR5.bx 6;have HR5:=zQ9 hR5;clear hR5 hd5)
 have her':er=0∨er=5∨er=20:=by
  simp only[List.mem_cons,List.not_mem_nil,or_false] at her
  omega
 have HER:=zQ9 her'
 obtain⟨V5,hV5⟩:∃ V5,V5=w5.setCell ⟨p,6,none⟩ (.int .i64 er):=⟨_,rfl⟩
 have hR6:=HR5.out.put 6 (.int .i64 er) (d':=⟨6,f,0,0,0,0,er,sZ⟩) ((j0d HR5.out.bx).trans (by simp))
 rw[←hV5] at hR6 ⊢
 obtain⟨e0,e1,e2,e3,e4,e5,e6,-⟩:=blkD hR6.bx
 have hH6:=hR6.td.dl.hd
 have HR6:=zQ9 hR6
 have hp1:-1600≤-er*sm∧-er*sm≤1600:=by rcases HER.out with rfl|rfl|rfl<;>omega
 have hp2:-1600≤er*sm∧er*sm≤1600:=by rcases HER.out with rfl|rfl|rfl<;>omega
 have heb:0≤er∧er≤20:=by omega
 clear hR6 hV5 her her' hof z6
 go_wp2_with (go_at_call 50;refine(j1c H (M3+1+1+1+1) _ _ V5 hH6 (by omega) (by rcases HER.out with rfl|rfl|rfl<;>exact j2n (by omega)) (by rcases HER.out with rfl|rfl|rfl<;>exact j2n (by omega))).mono ?_;rintro e w6 ⟨a,rfl,ha1,ha2,hd6⟩;have hR7:=HR6.out.dealt hd6;have hab:=j7x HER.out hsb ha1 ha2;obtain⟨y0,y1,y2,y3,y4,y5,y6,-⟩:=blkD hR7.bx;have z5:=frz hR7.bx 5;have HR7:=zQ9 (zA9 hR7 hab.1);have ha:=hab.2;clear hR7 hd6 ha1 ha2 hab)
 have hR8:=HR7.out.1.put 5 (.int .i64 (sm+a)) (d':=⟨6,f,0,0,0,sm+a,er,sZ⟩) ((j0d HR7.out.1.bx).trans (by simp))
 refine HQ _ _ _ _ _ _ _ _ _ _ _ _ _ _ _ _ _ _ _ _ _ _ _ _ _ _ _ _ _ _ _ _ _ _ _ _ _ _ _ _ _ _ _ _ _ _ _ _ _ _ _ _ _ _ _ _ _ _ _ _ _ _ _ _ _ _ _ _ _ _ _ _ _ _ _ _ _ _ _ _ _ _ _ _ _ _ _ _ _ _ _ _ _ _ _ _ _ _ _ _ _ _ _ _ _ _ _ _ _ _ _ _ _ _ _ _ _ _ _ _ _ _ _ _ _ _ _ _ _ _ _ _ _ _ _ _ _ _ _ _ _ _ _ _ _ _ _ _ _ _ _ _ _ _ _ _ _ _ _ _ _ _ _ _ _ _ _ _ _ _ _ _ _ _ _ _ _ _ _ _ _ _ _ _ _ _ _ _ _ _ _ _ _ _ _ _ _ _ _ _ _ _ _ _ _ _ _ _ _ _ _ _ _ _ _ _ _ _ _ _ _ _ _ _ _ _ _ _ _ _ _ _ _ _ _ _ _ _ _ _ _ _ _ _ _ _ _ _ _ _ _ _ _ _ _ _ _ _ _ _ _ _ _ _ _ _ _ _ _ _ _ _ _ _ _ _ _ _ _ _ _ _ _ _ _ _ _ _ _ _ _ _ _ _ ?_
 exact⟨-1,_,gs,gone,rfl,hR8.mono (by omega),HC.out.r.counted HC.out.fk (by rw[HC.out.su];exact(HC.out.r.sum HC.out.fk).1) HER.out HR7.out.2.1 HR7.out.2.2 HC.out.d6⟩
theorem sw_sold (w w1 W:World) (H q p f al nh be off ce g18 ze1 ze2 zg1 zg2 z3 zr M3:Nat) (t ho kd sm:Int) (vd:Value) (A Ak Ah:Option Addr) (c ck ch:Nat) (l:List Mk) (ks:List Int) (hs gs:List (List Int)) (ds:List De) (gone whose:List Int) (v1 v2 v3 v4 v5 v6 v7 v8 v9 Z0 Z1 Z2 Z3 Z4 Z5 Z6 Z7 Z8 Z9 ZA ZB ZC ZD ZE ZF ZG ZH ZI ZJ ZK ZL ZM ZN ZO ZP ZQ ZR ZS ZT ZU ZV ZW ZX ZY ZZ Za Zb Zc Zd Ze Zf Zg Zh Zi Zj Zk Zl Zm Zn Zo Zp Zq Zr Zs Zt Zu Zv Zw Zx Zy Zz Y0 Y1 Y2 Y3 Y4 Y5 Y6 Y7 Y8 Y9 YA YB YC YD YE YF YG YH YI YJ YK YL YM YN YO YP YQ YR YS YT YU YV YW YX YY YZ Ya Yb Yc Yd Ye Yf Yg Yh Yi Yj Yk Yl Ym Yn Yo Yp Yq Yr Ys Yt Yu Yv Yw Yx Yy Yz X0 X1 X2 X3 X4 X5 X6 X7 X8 X9 XA XB XC XD XE XF XG XH XI XJ XK XL XM XN XO XP XQ XR XS XT XU XV XW XX XY XZ Xa Xb Xc Xd Xe Xf Xg Xh Xi Xj Xk Xl Xm Xn Xo Xp Xq Xr Xs Xt Xu Xv Xw Xx Xy Xz K0 K1 K2 K3 K4 K5 K6 K7 K8 K9 KA KB KC KD KE KF KG KH KI KJ KK KL KM KN KO KP KQ KR KS KT KU KV KW KX KY KZ Ka Kb Kc Kd Ke Kf Kg Kh Ki Kj Kk Kl Km Kn Ko Kp Kq Kr Ks Kt Ku Kv Kw Kx Ky Kz J0 J1 J2 J3 J4 J5 J6 J7 J8 J9 JA JB JC JD JE JF JG JH JI JJ JK JL JM JN JO JP JQ JR JS JT JU JV JW JX JY JZ Ja Jb Jc Jd Je Jf Jg Jh Ji Jj Jk Jl Jm Jn Jo Jp Jq Jr Js Jt Ju Jv Jw Jx Jy Jz G0 G1 G2 G3 G4 G5 G6 G7 G8 G9 GA GB GC GD GE GF GG GH GI GJ GK GL GM GN GO GP GQ GR GS GT GU GV GW GX GY GZ Ga Gb Gc Gd Ge Gf Gg Gh Gi Gj Gk Gl Gm Gn Gp Gq Gr Gs Gt Gu Gv Gw Gx Gy Gz F0 F1 F2 F3 F4 F5 F6 F7 F8 F9 FA:Value) (Q:Exit→Act→World→Prop)
 (HRD:Hid (SwD w w1 H q t al nh be off ce g18 ze1 ze2 zg1 zg2 z3 zr p A Ak Ah c ck ch vd ds gs gone Z5 whose (M3+1+1+1) ⟨6,f,0,0,0,0,0,sZ⟩ W)) (HC:Hid (SwC t al nh f ho sm l ks hs ds gs gone whose)) (hfn:f<nh) (hnh3:nh≤3) (hal5:al≤5) (hal0:0<al) (hMN3:M3≤4611686018000030000) (hHW:Hd W H (M3+1+1+1)) (hsb:0≤sm∧sm≤80)
 (hk:kd=2) (o:Nat) (hoe:ho=o) (hol:o<al) (hop:0<getG gs f o) (hal1:(1:Int)<al)
 (HQ:SwQ w w1 H q p f al nh be off ce g18 ze1 ze2 zg1 zg2 z3 zr M3 t ho kd vd A Ak Ah c ck ch l ks hs ds whose v1 v2 v3 v4 v5 v6 v7 v8 v9 Z0 Z1 Z2 Z3 Z4 Z5 Z6 ZA ZB ZC ZD ZE ZF ZG ZH ZI ZJ ZK ZL ZM ZN ZO ZP ZQ ZR ZS ZT ZU ZV ZW ZX ZY ZZ Za Zb Zc Zd Ze Zf Zg Zh Zi Zj Zk Zl Zm Zn Zo Zp Zq Zr Zs Zt Zu Zv Zw Zx Zy Zz Y0 Y1 Y2 Y3 Y4 Y5 Y6 Y7 Y8 Y9 YA YB YC YD YE YF YG Gx Gy Gz F0 F1 F2 F3 F4 F5 F6 F7 F8 F9 FA Q) :
 Code.wp Tryz.prog j2x Q ⟨#[Value.pointer (some ⟨H,0,none⟩),v1,v2,v3,v4,v5,v6,v7,v8,v9,Z0,Z1,Value.pointer (some ⟨q,0,none⟩),Value.int .i64 (al:Int),Z2,Z3,Z4,Value.slice (some ⟨be,off,none⟩) nh ce,Value.slice (some ⟨g18,0,none⟩) al al,Z5,Z6,Value.int .i64 (f:Int),Value.int .i64 ho,Value.int .i64 (-1),Value.int .i64 kd,Value.pointer (some ⟨p,0,none⟩),Z7,Z8,Z9,ZA,ZB,ZC,ZD,ZE,ZF,ZG,ZH,ZI,ZJ,ZK,ZL,ZM,ZN,ZO,ZP,ZQ,ZR,ZS,ZT,ZU,ZV,ZW,ZX,ZY,ZZ,Za,Zb,Zc,Zd,Ze,Zf,Zg,Zh,Zi,Zj,Zk,Zl,Zm,Zn,Zo,Zp,Zq,Zr,Zs,Zt,Zu,Zv,Zw,Zx,Zy,Zz,Y0,Y1,Y2,Y3,Y4,Y5,Y6,Y7,Y8,Y9,YA,YB,YC,YD,YE,YF,YG,YH,YI,YJ,YK,YL,YM,YN,YO,YP,YQ,YR,YS,YT,YU,YV,YW,YX,YY,YZ,Ya,Yb,Yc,Yd,Ye,Yf,Yg,Yh,Yi,Yj,Yk,Yl,Ym,Yn,Yo,Yp,Yq,Yr,Ys,Yt,Yu,Yv,Yw,Yx,Yy,Yz,X0,X1,X2,X3,X4,X5,X6,X7,X8,X9,XA,XB,XC,XD,XE,XF,XG,XH,XI,XJ,XK,XL,XM,XN,XO,XP,XQ,XR,XS,XT,XU,XV,XW,XX,XY,XZ,Xa,Xb,Xc,Xd,Xe,Xf,Xg,Xh,Xi,Xj,Xk,Xl,Xm,Xn,Xo,Xp,Xq,Xr,Xs,Xt,Xu,Xv,Xw,Xx,Xy,Xz,K0,K1,K2,K3,K4,K5,K6,K7,K8,K9,KA,KB,KC,KD,KE,KF,KG,KH,KI,KJ,KK,KL,KM,KN,KO,KP,KQ,KR,KS,KT,KU,KV,KW,KX,KY,KZ,Ka,Kb,Kc,Kd,Ke,Kf,Kg,Kh,Ki,Kj,Kk,Kl,Km,Kn,Ko,Kp,Kq,Kr,Ks,Kt,Ku,Kv,Kw,Kx,Ky,Kz,J0,J1,J2,J3,J4,J5,J6,J7,J8,J9,JA,JB,JC,JD,JE,JF,JG,JH,JI,JJ,JK,JL,JM,JN,JO,JP,JQ,JR,JS,JT,JU,JV,JW,JX,JY,JZ,Ja,Jb,Jc,Jd,Je,Jf,Jg,Jh,Ji,Jj,Jk,Jl,Jm,Jn,Jo,Jp,Jq,Jr,Js,Jt,Ju,Jv,Jw,Jx,Jy,Jz,G0,G1,G2,G3,G4,G5,G6,G7,G8,G9,GA,GB,GC,GD,GE,GF,GG,GH,GI,GJ,GK,GL,GM,GN,GO,GP,GQ,GR,GS,GT,GU,GV,GW,GX,GY,GZ,Ga,Gb,Gc,Gd,Ge,Gf,Gg,Gh,Gi,Gj,Gk,Gl,Gm,Gn,Gp,Gq,Gr,Gs,Gt,Gu,Gv,Gw,Gx,Gy,Gz,F0,F1,F2,F3,F4,F5,F6,F7,F8,F9,FA],[]⟩ W:=by
 conv=>arg 2;whnf
 subst hk hoe
 have hgb:=HC.out.gb o hol
 have hRW:=RD.drew1 HRD.out
 obtain⟨be',off',g1,cg,e1',g2,g3,g4,g5,g6,g7,g8,g9,-⟩:=RD.c1 hRW HC.out.sh hfn hol
 cases e1'
 go_upto_region 30 with fail
 have hal2:2≤al:=by omega
 clear hal1
 have HRW:=zQ9 hRW
 have HG4:=zQ9 g4
 have HC2:=zQ9 (fun(w':World) (hp:W.drew.grownBy w' (some H))=>RD.c1k HRW.out HC.out.sh hfn hol hp HG4.out)
 clear hRW g4 g6 g7 g8 g9
 refine j0y 21 0 0 [] [(19,6)] 10 (THd H (M3+1+1+1)) (PHd W.drew H (M3+1+1+1)) [0,0,0,0,0,0,1,0,0,0,0,0,0,0,0,0,0,0,0,2,0] (by as_aux_lemma=>kernel_rfl) (by as_aux_lemma=>kernel_rfl) (by as_aux_lemma=>kernel_rfl) (by as_aux_lemma=>kernel_rfl) (by omega) (.inl rfl) rfl (by as_aux_lemma=>kernel_rfl) (PHd.st ⟨by decide,by decide,(19,6),by decide,rfl,rfl⟩) (PHd.start (hHW.kept fun _ _=>rfl)) ?_
 apply Exists.intro
 refine⟨fun ys=>?_,fun ops K hK=>?_⟩
 ·simp only[List.take_succ_cons,List.take_zero,j0q,List.filterMap_cons,List.filterMap_nil,j0r]
  go_simp
  rfl
 simp only[List.take_succ_cons,List.take_zero,List.drop_succ_cons,List.drop_zero] at hK ⊢
 iterate 6
  refine LexT.const THd.rf ?_
  apply Exists.intro
  refine⟨fun ys w' hp hpk hq hd=>?_,?_⟩
  ·try simp[j0f,j0g,DF.holds,Region.binds,EqF] at hd
   try simp only[hd]
   obtain⟨c2,c3⟩:=HC2.out w' hp
   clear hp hpk hq
   intro Q2 hQ2
   go_wp2_with fail
   rfl
  try simp only[List.nil_append,List.cons_append]
 refine LexT.some (fun v _=>∃ x:Nat,v=.int .i64 (x:Int)∧1≤x∧x<al) (fun _ _ _ _ _ _ _ h=>h) (fun ys w' hp hpk hq hd=>?_) ?_
 ·try simp[j0f,j0g,DF.holds,Region.binds,EqF] at hd
  try simp only[hd]
  intro Q2 hQ2
  go_wp2_with fail
  refine(j1c H (M3+1+1+1) 1 ((al:Int)-1) _ hpk (by omega) (by omega) (by omega)).mono ?_
  rintro e w2 ⟨xi,rfl,hx1,hx2,hd2⟩
  obtain⟨x,rfl⟩:=Int.eq_ofNat_of_zero_le (show 0≤xi by omega)
  have HX:=zQ9 (show THd H (M3+1+1+1) 1 w' w2∧1≤x∧x<al from⟨hd2,by omega,by omega⟩)
  clear hd2 hx1 hx2
  go_wp2
  exact⟨_,rfl,HX.out.1,x,rfl,HX.out.2⟩
 try simp only[List.nil_append,List.cons_append]
 refine LexT.some (fun v _=>∃ x:Nat,v=.int .i64 ((o:Int)+(x:Int))∧1≤x∧x<al) (fun _ _ _ _ _ _ _ h=>h) (fun ys w' hp hpk hq hd=>?_) ?_
 ·try simp[j0f,j0g,DF.holds,Region.binds,EqF] at hd
  try simp only[hd]
  obtain⟨h181,x,h185,hx1,hx2⟩:=hd
  simp only[h181,h185]
  intro Q2 hQ2
  go_wp2_with fail
  exact⟨rfl,x,rfl,hx1,hx2⟩
 try simp only[List.nil_append,List.cons_append]
 iterate 1
  refine LexT.const THd.rf ?_
  apply Exists.intro
  refine⟨fun ys w' hp hpk hq hd=>?_,?_⟩
  ·try simp[j0f,j0g,DF.holds,Region.binds,EqF] at hd
   try simp only[hd]
   obtain⟨c2,c3⟩:=HC2.out w' hp
   clear hp hpk hq
   intro Q2 hQ2
   go_wp2_with fail
   rfl
  try simp only[List.nil_append,List.cons_append]
 refine LexT.some (fun v _=>∃ pp:Nat,v=.int .i64 (pp:Int)∧pp<al∧o≠pp) (fun _ _ _ _ _ _ _ h=>h) (fun ys w' hp hpk hq hd=>?_) ?_
 ·try simp[j0f,j0g,DF.holds,Region.binds,EqF] at hd
  try simp only[hd]
  obtain⟨⟨x,h186,hx1,hx2⟩,h187,-⟩:=hd
  simp only[h186,h187]
  intro Q2 hQ2
  go_wp2_with fail
  refine(k9u o x al _ hol (by omega) (by omega) (by omega)).mono ?_
  rintro e w2 ⟨pp,rfl,hp1,hp2,rfl⟩
  have HX:=zQ9 (zA9 hp1 hp2)
  clear hp1 hp2
  go_wp2
  exact⟨_,rfl,rfl,pp,rfl,HX.out⟩
 try simp only[List.nil_append,List.cons_append]
 iterate 8
  refine LexT.const THd.rf ?_
  apply Exists.intro
  refine⟨fun ys w' hp hpk hq hd=>?_,?_⟩
  ·try simp[j0f,j0g,DF.holds,Region.binds,EqF] at hd
   try simp only[hd]
   obtain⟨c2,c3⟩:=HC2.out w' hp
   clear hp hpk hq
   intro Q2 hQ2
   go_wp2_with fail
   rfl
  try simp only[List.nil_append,List.cons_append]
 refine LexT.some (fun v _=>∃ m:Int,v=.int .i64 m∧m≤getG gs f o∧m≤20∧1≤m) (fun _ _ _ _ _ _ _ h=>h) (fun ys w' hp hpk hq hd=>?_) ?_
 ·try simp[j0f,j0g,DF.holds,Region.binds,EqF] at hd
  simp only[hd]
  clear hp hpk hq
  intro Q2 hQ2
  rcases Int.lt_or_le 20 (getG gs f o) with hm|hm
  ·go_wp2_with fail
   refine⟨rfl,?_⟩
   first
    | omega
    | exact⟨20,rfl,by omega,by omega,by omega⟩
  ·have hm':¬(20:Int)<getG gs f o:=by omega
   go_wp2_with fail
   refine⟨rfl,?_⟩
   first
    | omega
    | exact⟨_,rfl,Int.le_refl _,hm,by omega⟩
 try simp only[List.nil_append,List.cons_append]
 refine LexT.some (fun v w=>∃ k:Int,v=.int .i64 k∧((1≤k∧k≤20)∧k≤getG gs f o)∧Hd w H (M3+1+1+1+2)) (THd.keep2 ⟨by decide,by decide,(19,6),by decide,rfl,rfl⟩) (fun ys w' hp hpk hq hd=>?_) ?_
 ·try simp[j0f,j0g,DF.holds,Region.binds,EqF] at hd
  obtain⟨h189,⟨mm,h197,hmm⟩,-⟩:=hd
  simp only[h189,h197]
  intro Q2 hQ2
  go_wp2_with fail
  refine(j1c H (M3+1+1+1+1) 1 _ _ hpk (by omega) (by omega) (by omega)).mono ?_
  rintro e w2 ⟨k,rfl,hx1,hx2,hd2⟩
  have HX:=zQ9 (show THd H (M3+1+1+1) 2 w' w2∧((1≤k∧k≤20)∧k≤getG gs f o)∧Hd w2 H (M3+1+1+1+2) from⟨hd2,by omega,hd2.hd⟩)
  clear hd2 hx1 hx2
  go_wp2
  exact⟨_,rfl,HX.out.1,k,rfl,HX.out.2⟩
 try simp only[List.nil_append,List.cons_append]
 refine LexT.some (fun v _=>∃ (pp:Nat) (k:Int),v=dv ⟨2,f,o,pp,0,k,0,sZ⟩∧(pp<al∧o≠pp)∧((1≤k∧k≤20)∧k≤getG gs f o)) (fun _ _ _ _ _ _ _ h=>h) (fun ys w' hp hpk hq hd=>?_) ?_
 ·try simp[j0f,j0g,DF.holds,Region.binds,EqF] at hd
  obtain⟨h179,h180,⟨pp,h188,hp1⟩,k,h198,hk1,-⟩:=hd
  simp only[h179,h180,h188,h198]
  have HX:=zQ9 (zA9 hp1 hk1)
  clear hp1 hk1
  intro Q2 hQ2
  go_wp2_with fail
  exact⟨rfl,pp,k,rfl,HX.out.1,HX.out.2⟩
 try simp only[List.nil_append,List.cons_append]
 refine hK _ fun ys w6 hp hF=>?_
 simp[AllF,DF.holds] at hF
 obtain⟨-,-,-,-,-,-,-,-,-,-,-,-,-,-,-,-,-,-,-,⟨-,-,-,hH6⟩,pp,k,h199,hpp,hkb⟩:=hF
 simp only[h199]
 unfold dv
 have hR6:=HRW.out.dealt ⟨hH6,hp⟩
 have HR6:=zQ9 hR6
 obtain⟨e0,e1,e2,e3,e4,e5,e6,e7,e8,e9,e10,e11⟩:=blkD hR6.bx;obtain⟨z0,z1,z2,z3a,z4,z5,z6,z7,z8,z9,z10,z11⟩:=zA9 (frz hR6.bx 0) (zA9 (frz hR6.bx 1) (zA9 (frz hR6.bx 2) (zA9 (frz hR6.bx 3) (zA9 (frz hR6.bx 4) (zA9 (frz hR6.bx 5) (zA9 (frz hR6.bx 6) (zA9 (frz hR6.bx 7) (zA9 (frz hR6.bx 8) (zA9 (frz hR6.bx 9) (zA9 (frz hR6.bx 10) (frz hR6.bx 11)))))))))))
 clear hR6 h199 hH6 hp
 go_upto_region 31 with fail
 have hR7:=HR6.out.deed ⟨2,f,o,pp,0,k,0,sZ⟩
 obtain⟨V,hV⟩:∃ V,V=setL w6 p (l12 ⟨2,f,o,pp,0,k,0,sZ⟩):=⟨_,rfl⟩
 rw[←hV] at hR7
 simp only[setL,l12] at hV
 rw[←hV]
 clear e0 e1 e2 e3 e4 e5 e6 e7 e8 e9 e10 e11 z0 z1 z2 z3a z4 z5 z6 z7 z8 z9 z10 z11
 clear hV
 obtain⟨hpp1,hpp2⟩:=hpp
 have hR8:=hR7.drew1
 obtain⟨be',off',g1,cg,g2x,cg2,e1',g2,g3,g4,g4x,g5,g6,g7,g7x,g8,hKK⟩:=hR8.c2 HC.out.sh hfn hol hfn hpp1 (.inr hpp2)
 obtain⟨g7a,g7b⟩:=g8
 cases e1'
 obtain rfl:g1=g2x:=by
  rw[g4] at g4x
  cases g4x
  rfl
 obtain⟨V1,hV1⟩:∃ V1,V1=V.drew.setCell ⟨g1,o,none⟩ (.int .i64 (getG gs f o-k)):=⟨_,rfl⟩
 obtain⟨g8c,g8d⟩:=g7b (getG gs f o-k)
 rw[←hV1] at g8c g8d
 obtain⟨hh1,hh2,hh3,hh4,hh5,hh6⟩:=g5
 have hbp:V1.heap[p]?=some (dObj ⟨2,f,o,pp,0,k,0,sZ⟩):=by rw[hV1];exact(Below.heap_setCell _ ⟨g1,o,none⟩ _ _ (by show p≠g1;omega)).trans hR8.bx
 have HCD:=zQ9 (fun(w':World) (hp:PS1 V.drew V1 0 w')=>(show w'.cell? ⟨p,3,none⟩=some (.int .i64 (pp:Int))∧w'.cell? ⟨p,5,none⟩=some (.int .i64 k) from by
  have hb:w'.heap[p]?=some (dObj ⟨2,f,o,pp,0,k,0,sZ⟩):=by
   rcases hp with h|h
   ·rw[h];exact hR8.bx
   ·rw[h];exact hbp
  obtain⟨-,-,-,h3,-,h5,-⟩:=blkD hb
  exact⟨h3,h5⟩))
 obtain⟨d0,d1,d2,d3,d4,d5,-⟩:=blkD hR8.bx
 have hgb2:=HC.out.gb pp hpp1
 have HV1:=zQ9 hV1
 have HK:=zQ9 hKK
 have HKB:=zQ9 hkb
 clear hR7 hR8 hKK g4x g7a g7b hV1 hbp
 refine j0y 34 33 1 [32,20,0,1,2,3,4,8,11,12,13,14,15,16,17,18,19,24,28] [] 0 (TS1 V.drew V1) (PS1 V.drew V1) [0,0,0,0,0,0,0,0,0,0,0,0,0,0,0,0,0,0,0,0,0,0,0,0,0,0,0,0,0,0,0,0,0,1] (by as_aux_lemma=>kernel_rfl) (by as_aux_lemma=>kernel_rfl) (by as_aux_lemma=>kernel_rfl) (by as_aux_lemma=>kernel_rfl) (by omega) (.inr rfl) (by as_aux_lemma=>kernel_rfl) rfl (fun k j w1 w2 hc _ hT hp=>PS1.st k j w1 w2 hc hT hp) (fun k=>PS1.start k) ?_
 apply Exists.intro
 refine⟨fun ys=>?_,fun ops K hK=>?_⟩
 ·simp only[List.take_succ_cons,List.take_zero,j0q,List.filterMap_cons,List.filterMap_nil,j0r]
  go_simp
  rfl
 simp only[List.take_succ_cons,List.take_zero,List.drop_succ_cons,List.drop_zero] at hK ⊢
 iterate 5
  refine LexT.const (fun _=>rfl) ?_
  apply Exists.intro
  refine⟨fun ys w' hp hpk hq hd=>?_,?_⟩
  ·try simp[j0f,j0g,DF.holds,Region.binds,EqF] at hd
   try simp only[hd]
   replace hq:w'=V.drew:=hq (by simp)
   subst hq
   clear hpk hp
   intro Q2 hQ2
   go_wp2_with fail
   rfl
  try simp only[List.nil_append,List.cons_append]
 iterate 3
  refine LexT.const (fun _=>rfl) ?_
  apply Exists.intro
  refine⟨fun ys w' hp hpk hq hd=>?_,?_⟩
  ·try simp[j0f,j0g,DF.holds,Region.binds,EqF] at hd
   try simp only[hd]
   clear hp hpk hq
   intro Q2 hQ2
   go_wp2_with fail
   rfl
  try simp only[List.nil_append,List.cons_append]
 iterate 1
  refine LexT.const (fun _=>rfl) ?_
  apply Exists.intro
  refine⟨fun ys w' hp hpk hq hd=>?_,?_⟩
  ·try simp[j0f,j0g,DF.holds,Region.binds,EqF] at hd
   try simp only[hd]
   replace hq:w'=V.drew:=hq (by simp)
   subst hq
   clear hpk hp
   intro Q2 hQ2
   go_wp2_with fail
   rfl
  try simp only[List.nil_append,List.cons_append]
 iterate 2
  refine LexT.const (fun _=>rfl) ?_
  apply Exists.intro
  refine⟨fun ys w' hp hpk hq hd=>?_,?_⟩
  ·try simp[j0f,j0g,DF.holds,Region.binds,EqF] at hd
   try simp only[hd]
   obtain⟨d3,d5⟩:=HCD.out w' hp
   clear hp hpk hq
   intro Q2 hQ2
   go_wp2_with fail
   rfl
  try simp only[List.nil_append,List.cons_append]
 iterate 10
  refine LexT.const (fun _=>rfl) ?_
  apply Exists.intro
  refine⟨fun ys w' hp hpk hq hd=>?_,?_⟩
  ·try simp[j0f,j0g,DF.holds,Region.binds,EqF] at hd
   try simp only[hd]
   replace hq:w'=V.drew:=hq (by simp)
   subst hq
   clear hpk hp
   intro Q2 hQ2
   go_wp2_with fail
   rfl
  try simp only[List.nil_append,List.cons_append]
 iterate 3
  refine LexT.const (fun _=>rfl) ?_
  apply Exists.intro
  refine⟨fun ys w' hp hpk hq hd=>?_,?_⟩
  ·try simp[j0f,j0g,DF.holds,Region.binds,EqF] at hd
   try simp only[hd]
   clear hp hpk hq
   intro Q2 hQ2
   go_wp2_with fail
   rfl
  try simp only[List.nil_append,List.cons_append]
 iterate 1
  refine LexT.const (fun _=>rfl) ?_
  apply Exists.intro
  refine⟨fun ys w' hp hpk hq hd=>?_,?_⟩
  ·try simp[j0f,j0g,DF.holds,Region.binds,EqF] at hd
   try simp only[hd]
   replace hq:w'=V.drew:=hq (by simp)
   subst hq
   clear hpk hp
   intro Q2 hQ2
   go_wp2_with fail
   rfl
  try simp only[List.nil_append,List.cons_append]
 iterate 3
  refine LexT.const (fun _=>rfl) ?_
  apply Exists.intro
  refine⟨fun ys w' hp hpk hq hd=>?_,?_⟩
  ·try simp[j0f,j0g,DF.holds,Region.binds,EqF] at hd
   try simp only[hd]
   obtain⟨d3,d5⟩:=HCD.out w' hp
   clear hp hpk hq
   intro Q2 hQ2
   go_wp2_with fail
   rfl
  try simp only[List.nil_append,List.cons_append]
 iterate 1
  refine LexT.const (fun _=>rfl) ?_
  apply Exists.intro
  refine⟨fun ys w' hp hpk hq hd=>?_,?_⟩
  ·try simp[j0f,j0g,DF.holds,Region.binds,EqF] at hd
   try simp only[hd]
   replace hq:w'=V.drew:=hq (by simp)
   subst hq
   clear hpk hp
   intro Q2 hQ2
   go_wp2_with fail
   rfl
  try simp only[List.nil_append,List.cons_append]
 iterate 3
  refine LexT.const (fun _=>rfl) ?_
  apply Exists.intro
  refine⟨fun ys w' hp hpk hq hd=>?_,?_⟩
  ·try simp[j0f,j0g,DF.holds,Region.binds,EqF] at hd
   try simp only[hd]
   obtain⟨d3,d5⟩:=HCD.out w' hp
   clear hp hpk hq
   intro Q2 hQ2
   go_wp2_with fail
   rfl
  try simp only[List.nil_append,List.cons_append]
 iterate 1
  refine LexT.const (fun _=>rfl) ?_
  apply Exists.intro
  refine⟨fun ys w' hp hpk hq hd=>?_,?_⟩
  ·try simp[j0f,j0g,DF.holds,Region.binds,EqF] at hd
   try simp only[hd]
   replace hq:w'=V.drew:=hq (by simp)
   subst hq
   clear hpk hp
   intro Q2 hQ2
   go_wp2_with fail
   rfl
  try simp only[List.nil_append,List.cons_append]
 refine LexT.some (fun _ w=>w=V1) (fun j v w1 w2 hc _ hT h=>TS1.keep j v w1 w2 hc hT h) (fun ys w' hp hpk hq hd=>?_) ?_
 ·try simp[j0f,j0g,DF.holds,Region.binds,EqF] at hd
  try simp only[hd]
  replace hpk:w'=V.drew:=hpk
  subst hpk
  intro Q2 hQ2
  go_wp2_with fail
  exact⟨⟨rfl,HV1.out.symm⟩,HV1.out.symm⟩
 try simp only[List.nil_append,List.cons_append]
 refine hK _ fun ys w' hp hF=>?_
 simp[AllF,DF.holds] at hF
 obtain⟨q0,q1,q2,q3,q4,q5,q6,q7,q8,q9,q10,q11,q12,q13,q14,q15,q16,q17,q18,q19,q20,q21,q22,q23,q24,q25,q26,q27,q28,q29,q30,q31,q32,hw⟩:=hF
 subst hw
 simp only[q0,q1,q2,q3,q4,q5,q6,q7,q8,q9,q10,q11,q12,q13,q14,q15,q16,q17,q18,q19,q20,q21,q22,q23,q24,q25,q26,q27,q28,q29,q30,q31,q32]
 clear q0 q1 q2 q3 q4 q5 q6 q7 q8 q9 q10 q11 q12 q13 q14 q15 q16 q17 q18 q19 q20 q21 q22 q23 q24 q25 q26 q27 q28 q29 q30 q31 q32 hp hK
 go_wp2_with fail
 have hz:=HK.out (getG gs f o-k) (-k) (getG gs f pp+k) k (by omega) rfl
 rw[←HV1.out] at hz
 refine HQ _ _ _ _ _ _ _ _ _ _ _ _ _ _ _ _ _ _ _ _ _ _ _ _ _ _ _ _ _ _ _ _ _ _ _ _ _ _ _ _ _ _ _ _ _ _ _ _ _ _ _ _ _ _ _ _ _ _ _ _ _ _ _ _ _ _ _ _ _ _ _ _ _ _ _ _ _ _ _ _ _ _ _ _ _ _ _ _ _ _ _ _ _ _ _ _ _ _ _ _ _ _ _ _ _ _ _ _ _ _ _ _ _ _ _ _ _ _ _ _ _ _ _ _ _ _ _ _ _ _ _ _ _ _ _ _ _ _ _ _ _ _ _ _ _ _ _ _ _ _ _ _ _ _ _ _ _ _ _ _ _ _ _ _ _ _ _ _ _ _ _ _ _ _ _ _ _ _ _ _ _ _ _ _ _ _ _ _ _ _ _ _ _ _ _ _ _ _ _ _ _ _ _ _ _ _ _ _ _ _ _ _ _ _ _ _ _ _ _ _ _ _ _ _ _ _ _ _ _ _ _ _ _ _ _ _ _ _ _ _ _ _ _ _ _ _ _ _ _ _ _ _ _ _ _ _ _ _ _ _ _ _ _ _ _ _ _ _ _ _ _ _ _ _ _ _ _ _ _ _ _ _ _ _ _ _ _ _ _ _ _ _ _ _ ?_
 exact⟨-1,_,_,_,rfl,RD.mono hz (by omega),HC.out.r.sold HC.out.fk (by rw[HC.out.nl];exact hol) (by rw[HC.out.nl];exact hpp1) hpp2 HKB.out.1 HKB.out.2⟩
end Go.Proofs.YtmennjmjakdkcaaGreat
