/- HerdChecks 22: SwE. -/
import Derived.Test.YtmennjmjakdkcaaGreatCk01
import Derived.Test.YtmennjmjakdkcaaGreatCk21
set_option linter.unusedVariables false
set_option linter.unusedSimpArgs false
namespace Go.Proofs.YtmennjmjakdkcaaGreat
open Go.RowKit
set_option maxRecDepth 1000000 in
set_option maxHeartbeats 8000000 in
theorem q2s (w w1 W:World) (H q p f al nh be off ce g18 ze1 ze2 zg1 zg2 z3 zr M3:Nat) (t ho kd sm:Int) (vd:Value) (A Ak Ah:Option Addr) (c ck ch:Nat) (l:List Mk) (ks:List Int) (hs gs:List (List Int)) (ds:List De) (gone whose:List Int) (v1 v2 v3 v4 v5 v6 v7 v8 v9 Z0 Z1 Z2 Z3 Z4 Z5 Z6 Z7 Z8 Z9 ZA ZB ZC ZD ZE ZF ZG ZH ZI ZJ ZK ZL ZM ZN ZO ZP ZQ ZR ZS ZT ZU ZV ZW ZX ZY ZZ Za Zb Zc Zd Ze Zf Zg Zh Zi Zj Zk Zl Zm Zn Zo Zp Zq Zr Zs Zt Zu Zv Zw Zx Zy Zz Y0 Y1 Y2 Y3 Y4 Y5 Y6 Y7 Y8 Y9 YA YB YC YD YE YF YG YH YI YJ YK YL YM YN YO YP YQ YR YS YT YU YV YW YX YY YZ Ya Yb Yc Yd Ye Yf Yg Yh Yi Yj Yk Yl Ym Yn Yo Yp Yq Yr Ys Yt Yu Yv Yw Yx Yy Yz X0 X1 X2 X3 X4 X5 X6 X7 X8 X9 XA XB XC XD XE XF XG XH XI XJ XK XL XM XN XO XP XQ XR XS XT XU XV XW XX XY XZ Xa Xb Xc Xd Xe Xf Xg Xh Xi Xj Xk Xl Xm Xn Xo Xp Xq Xr Xs Xt Xu Xv Xw Xx Xy Xz K0 K1 K2 K3 K4 K5 K6 K7 K8 K9 KA KB KC KD KE KF KG KH KI KJ KK KL KM KN KO KP KQ KR KS KT KU KV KW KX KY KZ Ka Kb Kc Kd Ke Kf Kg Kh Ki Kj Kk Kl Km Kn Ko Kp Kq Kr Ks Kt Ku Kv Kw Kx Ky Kz J0 J1 J2 J3 J4 J5 J6 J7 J8 J9 JA JB JC JD JE JF JG JH JI JJ JK JL JM JN JO JP JQ JR JS JT JU JV JW JX JY JZ Ja Jb Jc Jd Je Jf Jg Jh Ji Jj Jk Jl Jm Jn Jo Jp Jq Jr Js Jt Ju Jv Jw Jx Jy Jz G0 G1 G2 G3 G4 G5 G6 G7 G8 G9 GA GB GC GD GE GF GG GH GI GJ GK GL GM GN GO GP GQ GR GS GT GU GV GW GX GY GZ Ga Gb Gc Gd Ge Gf Gg Gh Gi Gj Gk Gl Gm Gn Gp Gq Gr Gs Gt Gu Gv Gw Gx Gy Gz F0 F1 F2 F3 F4 F5 F6 F7 F8 F9 FA:Value) (Q:Exit→Act→World→Prop)
 (HRD:Hid (SwD w w1 H q t al nh be off ce g18 ze1 ze2 zg1 zg2 z3 zr p A Ak Ah c ck ch vd ds gs gone Z5 whose (M3 + 1 + 1 + 1) ⟨6,f,0,0,0,0,0,sZ⟩ W)) (HC:Hid (SwC t al nh f ho sm l ks hs ds gs gone whose)) (hfn:f < nh) (hnh3:nh ≤ 3) (hal5:al ≤ 5) (hal0:0 < al) (hMN3:M3 ≤ 4611686018000030000) (hHW:Hd W H (M3 + 1 + 1 + 1)) (hsb:0 ≤ sm∧sm ≤ 80)
 (hk:kd = 3) (o:Nat) (hoe:ho = o) (hol:o < al) (hop:0 < getG gs f o) (hm:20 < getG gs f o)
 (HQ:SwQ w w1 H q p f al nh be off ce g18 ze1 ze2 zg1 zg2 z3 zr M3 t ho kd vd A Ak Ah c ck ch l ks hs ds whose v1 v2 v3 v4 v5 v6 v7 v8 v9 Z0 Z1 Z2 Z3 Z4 Z5 Z6 ZA ZB ZC ZD ZE ZF ZG ZH ZI ZJ ZK ZL ZM ZN ZO ZP ZQ ZR ZS ZT ZU ZV ZW ZX ZY ZZ Za Zb Zc Zd Ze Zf Zg Zh Zi Zj Zk Zl Zm Zn Zo Zp Zq Zr Zs Zt Zu Zv Zw Zx Zy Zz Y0 Y1 Y2 Y3 Y4 Y5 Y6 Y7 Y8 Y9 YA YB YC YD YE YF YG Gx Gy Gz F0 F1 F2 F3 F4 F5 F6 F7 F8 F9 FA Q) :
 Code.wp Tryz.prog j2p Q ⟨#[Value.pointer (some ⟨H,0,none⟩),v1,v2,v3,v4,v5,v6,v7,v8,v9,Z0,Z1,Value.pointer (some ⟨q,0,none⟩),Value.int .i64 (al:Int),Z2,Z3,Z4,Value.slice (some ⟨be,off,none⟩) nh ce,Value.slice (some ⟨g18,0,none⟩) al al,Z5,Z6,Value.int .i64 (f:Int),Value.int .i64 ho,Value.int .i64 (-1),Value.int .i64 kd,Value.pointer (some ⟨p,0,none⟩),Z7,Z8,Z9,ZA,ZB,ZC,ZD,ZE,ZF,ZG,ZH,ZI,ZJ,ZK,ZL,ZM,ZN,ZO,ZP,ZQ,ZR,ZS,ZT,ZU,ZV,ZW,ZX,ZY,ZZ,Za,Zb,Zc,Zd,Ze,Zf,Zg,Zh,Zi,Zj,Zk,Zl,Zm,Zn,Zo,Zp,Zq,Zr,Zs,Zt,Zu,Zv,Zw,Zx,Zy,Zz,Y0,Y1,Y2,Y3,Y4,Y5,Y6,Y7,Y8,Y9,YA,YB,YC,YD,YE,YF,YG,YH,YI,YJ,YK,YL,YM,YN,YO,YP,YQ,YR,YS,YT,YU,YV,YW,YX,YY,YZ,Ya,Yb,Yc,Yd,Ye,Yf,Yg,Yh,Yi,Yj,Yk,Yl,Ym,Yn,Yo,Yp,Yq,Yr,Ys,Yt,Yu,Yv,Yw,Yx,Yy,Yz,X0,X1,X2,X3,X4,X5,X6,X7,X8,X9,XA,XB,XC,XD,XE,XF,XG,XH,XI,XJ,XK,XL,XM,XN,XO,XP,XQ,XR,XS,XT,XU,XV,XW,XX,XY,XZ,Xa,Xb,Xc,Xd,Xe,Xf,Xg,Xh,Xi,Xj,Xk,Xl,Xm,Xn,Xo,Xp,Xq,Xr,Xs,Xt,Xu,Xv,Xw,Xx,Xy,Xz,K0,K1,K2,K3,K4,K5,K6,K7,K8,K9,KA,KB,KC,KD,KE,KF,KG,KH,KI,KJ,KK,KL,KM,KN,KO,KP,KQ,KR,KS,KT,KU,KV,KW,KX,KY,KZ,Ka,Kb,Kc,Kd,Ke,Kf,Kg,Kh,Ki,Kj,Kk,Kl,Km,Kn,Ko,Kp,Kq,Kr,Ks,Kt,Ku,Kv,Kw,Kx,Ky,Kz,J0,J1,J2,J3,J4,J5,J6,J7,J8,J9,JA,JB,JC,JD,JE,JF,JG,JH,JI,JJ,JK,JL,JM,JN,JO,JP,JQ,JR,JS,JT,JU,JV,JW,JX,JY,JZ,Ja,Jb,Jc,Jd,Je,Jf,Jg,Jh,Ji,Jj,Jk,Jl,Jm,Jn,Jo,Jp,Jq,Jr,Js,Jt,Ju,Jv,Jw,Jx,Jy,Jz,G0,G1,G2,G3,G4,G5,G6,G7,G8,G9,GA,GB,GC,GD,GE,GF,GG,GH,GI,GJ,GK,GL,GM,GN,GO,GP,GQ,GR,GS,GT,GU,GV,GW,GX,GY,GZ,Ga,Gb,Gc,Gd,Ge,Gf,Gg,Gh,Gi,Gj,Gk,Gl,Gm,Gn,Gp,Gq,Gr,Gs,Gt,Gu,Gv,Gw,Gx,Gy,Gz,F0,F1,F2,F3,F4,F5,F6,F7,F8,F9,FA],[]⟩ W:=by
 conv => arg 2;whnf
 subst hk hoe
 have hgb:=HC.out.gb o hol
 obtain ⟨be',off',g1,cg,e1',g2,g3,g4,g5,g6,g7,g8,g9,-⟩:=RD.c1 HRD.out HC.out.sh hfn hol
 cases e1'
 go_upto_region 34 with (go_at_call 50;refine (j0z H (M3 + 1 + 1 + 1) 1 _ W hHW (by omega) (by omega) (by omega)).mono ?_;rintro e w6 ⟨k,rfl,hk1,hk2,hd6⟩;have hR6:=RD.dealt HRD.out hd6;have HR6:=zQ9 hR6;obtain ⟨e0,e1,e2,e3,e4,e5,e6,e7,e8,e9,e10,e11⟩:=blkD hR6.bx;obtain ⟨z0,z1,z2,z3a,z4,z5,z6,z7,z8,z9,z10,z11⟩:=zA9 (frz hR6.bx 0) (zA9 (frz hR6.bx 1) (zA9 (frz hR6.bx 2) (zA9 (frz hR6.bx 3) (zA9 (frz hR6.bx 4) (zA9 (frz hR6.bx 5) (zA9 (frz hR6.bx 6) (zA9 (frz hR6.bx 7) (zA9 (frz hR6.bx 8) (zA9 (frz hR6.bx 9) (zA9 (frz hR6.bx 10) (frz hR6.bx 11)))))))))));clear hR6 hd6)
 have hR7:=HR6.out.deed ⟨3,f,o,0,0,k,0,sZ⟩
 obtain ⟨V,hV⟩:∃ V,V = setL w6 p (l12 ⟨3,f,o,0,0,k,0,sZ⟩):=⟨_,rfl⟩
 rw [← hV] at hR7
 simp only [setL,l12] at hV
 rw [← hV]
 clear e0 e1 e2 e3 e4 e5 e6 e7 e8 e9 e10 e11 z0 z1 z2 z3a z4 z5 z6 z7 z8 z9 z10 z11
 clear hV
 have hR8:=hR7.drew1
 have hkb:(1 ≤ k∧k ≤ 20)∧k ≤ getG gs f o:=by omega
 clear g2 g3 g4 g5 g6 g7 g8 g9
 obtain ⟨be',off',g1,cg,e1',g2,g3,g4,g5,g6,g7,g8,g9,hKK⟩:=hR8.c1 HC.out.sh hfn hol
 cases e1'
 obtain ⟨d0,d1,d2,d3,d4,d5,-⟩:=blkD hR8.bx
 have HK:=zQ9 hKK
 have HKB:=zQ9 hkb
 clear hR7 hR8 hKK hk1 hk2
 refine j0w 16 0 0 [] [] 0 (fun _ w1 w2 => w1 = w2) (fun _ w1 => w1 = V.drew) [0,0,0,0,0,0,0,0,0,0,0,0,0,0,0,0] (by as_aux_lemma => kernel_rfl) (by as_aux_lemma => kernel_rfl) (by as_aux_lemma => kernel_rfl) (by as_aux_lemma => kernel_rfl) (by omega) (.inl rfl) rfl rfl (fun _ _ _ _ _ _ hT hp => hT ▸ hp) (fun _ => rfl) ?_
 apply Exists.intro
 refine ⟨fun ys => ?_,fun ops K hK => ?_⟩
 ·simp only [List.take_succ_cons,List.take_zero,j0p,List.filterMap_cons,List.filterMap_nil,j0q]
  go_simp
  rfl
 simp only [List.take_succ_cons,List.take_zero,List.drop_succ_cons,List.drop_zero] at hK ⊢
 repeat
  refine LexT.const (fun _ => rfl) ?_
  apply Exists.intro
  refine ⟨fun ys w' hp hpk hq hd => ?_,?_⟩
  ·try simp [j0e,j0g,DF.holds,Region.binds,EqF] at hd
   try simp only [hd]
   replace hp:w' = V.drew:=hp
   subst hp
   clear hpk hq
   intro Q2 hQ2
   go_wp2_with fail
   rfl
  try simp only [List.nil_append,List.cons_append]
 refine hK _ fun ys w' hp hF => ?_
 simp [AllF,DF.holds] at hF
 replace hp:w' = V.drew:=hp
 subst hp
 simp only [hF]
 go_wp2_with fail
 refine HQ _ _ _ _ _ _ _ _ _ _ _ _ _ _ _ _ _ _ _ _ _ _ _ _ _ _ _ _ _ _ _ _ _ _ _ _ _ _ _ _ _ _ _ _ _ _ _ _ _ _ _ _ _ _ _ _ _ _ _ _ _ _ _ _ _ _ _ _ _ _ _ _ _ _ _ _ _ _ _ _ _ _ _ _ _ _ _ _ _ _ _ _ _ _ _ _ _ _ _ _ _ _ _ _ _ _ _ _ _ _ _ _ _ _ _ _ _ _ _ _ _ _ _ _ _ _ _ _ _ _ _ _ _ _ _ _ _ _ _ _ _ _ _ _ _ _ _ _ _ _ _ _ _ _ _ _ _ _ _ _ _ _ _ _ _ _ _ _ _ _ _ _ _ _ _ _ _ _ _ _ _ _ _ _ _ _ _ _ _ _ _ _ _ _ _ _ _ _ _ _ _ _ _ _ _ _ _ _ _ _ _ _ _ _ _ _ _ _ _ _ _ _ _ _ _ _ _ _ _ _ _ _ _ _ _ _ _ _ _ _ _ _ _ _ _ _ _ _ _ _ _ _ _ _ _ _ _ _ _ _ _ _ _ _ _ _ _ _ _ _ _ _ _ _ _ _ _ _ _ _ _ _ _ _ _ _ _ _ _ _ _ _ _ _ ?_
 exact ⟨-1,_,_,_,rfl,(HK.out _ (-k) (by omega)).mono (by omega),HC.out.r.eaten HC.out.fk (by rw [HC.out.nl];exact hol) HKB.out.1 HKB.out.2⟩
set_option maxRecDepth 1000000 in
set_option maxHeartbeats 8000000 in
theorem q2t (w w1 W:World) (H q p f al nh be off ce g18 ze1 ze2 zg1 zg2 z3 zr M3:Nat) (t ho kd sm:Int) (vd:Value) (A Ak Ah:Option Addr) (c ck ch:Nat) (l:List Mk) (ks:List Int) (hs gs:List (List Int)) (ds:List De) (gone whose:List Int) (v1 v2 v3 v4 v5 v6 v7 v8 v9 Z0 Z1 Z2 Z3 Z4 Z5 Z6 Z7 Z8 Z9 ZA ZB ZC ZD ZE ZF ZG ZH ZI ZJ ZK ZL ZM ZN ZO ZP ZQ ZR ZS ZT ZU ZV ZW ZX ZY ZZ Za Zb Zc Zd Ze Zf Zg Zh Zi Zj Zk Zl Zm Zn Zo Zp Zq Zr Zs Zt Zu Zv Zw Zx Zy Zz Y0 Y1 Y2 Y3 Y4 Y5 Y6 Y7 Y8 Y9 YA YB YC YD YE YF YG YH YI YJ YK YL YM YN YO YP YQ YR YS YT YU YV YW YX YY YZ Ya Yb Yc Yd Ye Yf Yg Yh Yi Yj Yk Yl Ym Yn Yo Yp Yq Yr Ys Yt Yu Yv Yw Yx Yy Yz X0 X1 X2 X3 X4 X5 X6 X7 X8 X9 XA XB XC XD XE XF XG XH XI XJ XK XL XM XN XO XP XQ XR XS XT XU XV XW XX XY XZ Xa Xb Xc Xd Xe Xf Xg Xh Xi Xj Xk Xl Xm Xn Xo Xp Xq Xr Xs Xt Xu Xv Xw Xx Xy Xz K0 K1 K2 K3 K4 K5 K6 K7 K8 K9 KA KB KC KD KE KF KG KH KI KJ KK KL KM KN KO KP KQ KR KS KT KU KV KW KX KY KZ Ka Kb Kc Kd Ke Kf Kg Kh Ki Kj Kk Kl Km Kn Ko Kp Kq Kr Ks Kt Ku Kv Kw Kx Ky Kz J0 J1 J2 J3 J4 J5 J6 J7 J8 J9 JA JB JC JD JE JF JG JH JI JJ JK JL JM JN JO JP JQ JR JS JT JU JV JW JX JY JZ Ja Jb Jc Jd Je Jf Jg Jh Ji Jj Jk Jl Jm Jn Jo Jp Jq Jr Js Jt Ju Jv Jw Jx Jy Jz G0 G1 G2 G3 G4 G5 G6 G7 G8 G9 GA GB GC GD GE GF GG GH GI GJ GK GL GM GN GO GP GQ GR GS GT GU GV GW GX GY GZ Ga Gb Gc Gd Ge Gf Gg Gh Gi Gj Gk Gl Gm Gn Gp Gq Gr Gs Gt Gu Gv Gw Gx Gy Gz F0 F1 F2 F3 F4 F5 F6 F7 F8 F9 FA:Value) (Q:Exit→Act→World→Prop)
 (HRD:Hid (SwD w w1 H q t al nh be off ce g18 ze1 ze2 zg1 zg2 z3 zr p A Ak Ah c ck ch vd ds gs gone Z5 whose (M3 + 1 + 1 + 1) ⟨6,f,0,0,0,0,0,sZ⟩ W)) (HC:Hid (SwC t al nh f ho sm l ks hs ds gs gone whose)) (hfn:f < nh) (hnh3:nh ≤ 3) (hal5:al ≤ 5) (hal0:0 < al) (hMN3:M3 ≤ 4611686018000030000) (hHW:Hd W H (M3 + 1 + 1 + 1)) (hsb:0 ≤ sm∧sm ≤ 80)
 (hk:kd = 3) (o:Nat) (hoe:ho = o) (hol:o < al) (hop:0 < getG gs f o) (hm:¬ 20 < getG gs f o)
 (HQ:SwQ w w1 H q p f al nh be off ce g18 ze1 ze2 zg1 zg2 z3 zr M3 t ho kd vd A Ak Ah c ck ch l ks hs ds whose v1 v2 v3 v4 v5 v6 v7 v8 v9 Z0 Z1 Z2 Z3 Z4 Z5 Z6 ZA ZB ZC ZD ZE ZF ZG ZH ZI ZJ ZK ZL ZM ZN ZO ZP ZQ ZR ZS ZT ZU ZV ZW ZX ZY ZZ Za Zb Zc Zd Ze Zf Zg Zh Zi Zj Zk Zl Zm Zn Zo Zp Zq Zr Zs Zt Zu Zv Zw Zx Zy Zz Y0 Y1 Y2 Y3 Y4 Y5 Y6 Y7 Y8 Y9 YA YB YC YD YE YF YG Gx Gy Gz F0 F1 F2 F3 F4 F5 F6 F7 F8 F9 FA Q) :
 Code.wp Tryz.prog j2p Q ⟨#[Value.pointer (some ⟨H,0,none⟩),v1,v2,v3,v4,v5,v6,v7,v8,v9,Z0,Z1,Value.pointer (some ⟨q,0,none⟩),Value.int .i64 (al:Int),Z2,Z3,Z4,Value.slice (some ⟨be,off,none⟩) nh ce,Value.slice (some ⟨g18,0,none⟩) al al,Z5,Z6,Value.int .i64 (f:Int),Value.int .i64 ho,Value.int .i64 (-1),Value.int .i64 kd,Value.pointer (some ⟨p,0,none⟩),Z7,Z8,Z9,ZA,ZB,ZC,ZD,ZE,ZF,ZG,ZH,ZI,ZJ,ZK,ZL,ZM,ZN,ZO,ZP,ZQ,ZR,ZS,ZT,ZU,ZV,ZW,ZX,ZY,ZZ,Za,Zb,Zc,Zd,Ze,Zf,Zg,Zh,Zi,Zj,Zk,Zl,Zm,Zn,Zo,Zp,Zq,Zr,Zs,Zt,Zu,Zv,Zw,Zx,Zy,Zz,Y0,Y1,Y2,Y3,Y4,Y5,Y6,Y7,Y8,Y9,YA,YB,YC,YD,YE,YF,YG,YH,YI,YJ,YK,YL,YM,YN,YO,YP,YQ,YR,YS,YT,YU,YV,YW,YX,YY,YZ,Ya,Yb,Yc,Yd,Ye,Yf,Yg,Yh,Yi,Yj,Yk,Yl,Ym,Yn,Yo,Yp,Yq,Yr,Ys,Yt,Yu,Yv,Yw,Yx,Yy,Yz,X0,X1,X2,X3,X4,X5,X6,X7,X8,X9,XA,XB,XC,XD,XE,XF,XG,XH,XI,XJ,XK,XL,XM,XN,XO,XP,XQ,XR,XS,XT,XU,XV,XW,XX,XY,XZ,Xa,Xb,Xc,Xd,Xe,Xf,Xg,Xh,Xi,Xj,Xk,Xl,Xm,Xn,Xo,Xp,Xq,Xr,Xs,Xt,Xu,Xv,Xw,Xx,Xy,Xz,K0,K1,K2,K3,K4,K5,K6,K7,K8,K9,KA,KB,KC,KD,KE,KF,KG,KH,KI,KJ,KK,KL,KM,KN,KO,KP,KQ,KR,KS,KT,KU,KV,KW,KX,KY,KZ,Ka,Kb,Kc,Kd,Ke,Kf,Kg,Kh,Ki,Kj,Kk,Kl,Km,Kn,Ko,Kp,Kq,Kr,Ks,Kt,Ku,Kv,Kw,Kx,Ky,Kz,J0,J1,J2,J3,J4,J5,J6,J7,J8,J9,JA,JB,JC,JD,JE,JF,JG,JH,JI,JJ,JK,JL,JM,JN,JO,JP,JQ,JR,JS,JT,JU,JV,JW,JX,JY,JZ,Ja,Jb,Jc,Jd,Je,Jf,Jg,Jh,Ji,Jj,Jk,Jl,Jm,Jn,Jo,Jp,Jq,Jr,Js,Jt,Ju,Jv,Jw,Jx,Jy,Jz,G0,G1,G2,G3,G4,G5,G6,G7,G8,G9,GA,GB,GC,GD,GE,GF,GG,GH,GI,GJ,GK,GL,GM,GN,GO,GP,GQ,GR,GS,GT,GU,GV,GW,GX,GY,GZ,Ga,Gb,Gc,Gd,Ge,Gf,Gg,Gh,Gi,Gj,Gk,Gl,Gm,Gn,Gp,Gq,Gr,Gs,Gt,Gu,Gv,Gw,Gx,Gy,Gz,F0,F1,F2,F3,F4,F5,F6,F7,F8,F9,FA],[]⟩ W:=by
 conv => arg 2;whnf
 subst hk hoe
 have hgb:=HC.out.gb o hol
 obtain ⟨be',off',g1,cg,e1',g2,g3,g4,g5,g6,g7,g8,g9,-⟩:=RD.c1 HRD.out HC.out.sh hfn hol
 cases e1'
 go_upto_region 34 with (go_at_call 50;refine (j0z H (M3 + 1 + 1 + 1) 1 _ W hHW (by omega) (by omega) (by omega)).mono ?_;rintro e w6 ⟨k,rfl,hk1,hk2,hd6⟩;have hR6:=RD.dealt HRD.out hd6;have HR6:=zQ9 hR6;obtain ⟨e0,e1,e2,e3,e4,e5,e6,e7,e8,e9,e10,e11⟩:=blkD hR6.bx;obtain ⟨z0,z1,z2,z3a,z4,z5,z6,z7,z8,z9,z10,z11⟩:=zA9 (frz hR6.bx 0) (zA9 (frz hR6.bx 1) (zA9 (frz hR6.bx 2) (zA9 (frz hR6.bx 3) (zA9 (frz hR6.bx 4) (zA9 (frz hR6.bx 5) (zA9 (frz hR6.bx 6) (zA9 (frz hR6.bx 7) (zA9 (frz hR6.bx 8) (zA9 (frz hR6.bx 9) (zA9 (frz hR6.bx 10) (frz hR6.bx 11)))))))))));clear hR6 hd6)
 have hR7:=HR6.out.deed ⟨3,f,o,0,0,k,0,sZ⟩
 obtain ⟨V,hV⟩:∃ V,V = setL w6 p (l12 ⟨3,f,o,0,0,k,0,sZ⟩):=⟨_,rfl⟩
 rw [← hV] at hR7
 simp only [setL,l12] at hV
 rw [← hV]
 clear e0 e1 e2 e3 e4 e5 e6 e7 e8 e9 e10 e11 z0 z1 z2 z3a z4 z5 z6 z7 z8 z9 z10 z11
 clear hV
 have hR8:=hR7.drew1
 have hkb:(1 ≤ k∧k ≤ 20)∧k ≤ getG gs f o:=by omega
 clear g2 g3 g4 g5 g6 g7 g8 g9
 obtain ⟨be',off',g1,cg,e1',g2,g3,g4,g5,g6,g7,g8,g9,hKK⟩:=hR8.c1 HC.out.sh hfn hol
 cases e1'
 obtain ⟨d0,d1,d2,d3,d4,d5,-⟩:=blkD hR8.bx
 have HK:=zQ9 hKK
 have HKB:=zQ9 hkb
 clear hR7 hR8 hKK hk1 hk2
 refine j0w 16 0 0 [] [] 0 (fun _ w1 w2 => w1 = w2) (fun _ w1 => w1 = V.drew) [0,0,0,0,0,0,0,0,0,0,0,0,0,0,0,0] (by as_aux_lemma => kernel_rfl) (by as_aux_lemma => kernel_rfl) (by as_aux_lemma => kernel_rfl) (by as_aux_lemma => kernel_rfl) (by omega) (.inl rfl) rfl rfl (fun _ _ _ _ _ _ hT hp => hT ▸ hp) (fun _ => rfl) ?_
 apply Exists.intro
 refine ⟨fun ys => ?_,fun ops K hK => ?_⟩
 ·simp only [List.take_succ_cons,List.take_zero,j0p,List.filterMap_cons,List.filterMap_nil,j0q]
  go_simp
  rfl
 simp only [List.take_succ_cons,List.take_zero,List.drop_succ_cons,List.drop_zero] at hK ⊢
 repeat
  refine LexT.const (fun _ => rfl) ?_
  apply Exists.intro
  refine ⟨fun ys w' hp hpk hq hd => ?_,?_⟩
  ·try simp [j0e,j0g,DF.holds,Region.binds,EqF] at hd
   try simp only [hd]
   replace hp:w' = V.drew:=hp
   subst hp
   clear hpk hq
   intro Q2 hQ2
   go_wp2_with fail
   rfl
  try simp only [List.nil_append,List.cons_append]
 refine hK _ fun ys w' hp hF => ?_
 simp [AllF,DF.holds] at hF
 replace hp:w' = V.drew:=hp
 subst hp
 simp only [hF]
 go_wp2_with fail
 refine HQ _ _ _ _ _ _ _ _ _ _ _ _ _ _ _ _ _ _ _ _ _ _ _ _ _ _ _ _ _ _ _ _ _ _ _ _ _ _ _ _ _ _ _ _ _ _ _ _ _ _ _ _ _ _ _ _ _ _ _ _ _ _ _ _ _ _ _ _ _ _ _ _ _ _ _ _ _ _ _ _ _ _ _ _ _ _ _ _ _ _ _ _ _ _ _ _ _ _ _ _ _ _ _ _ _ _ _ _ _ _ _ _ _ _ _ _ _ _ _ _ _ _ _ _ _ _ _ _ _ _ _ _ _ _ _ _ _ _ _ _ _ _ _ _ _ _ _ _ _ _ _ _ _ _ _ _ _ _ _ _ _ _ _ _ _ _ _ _ _ _ _ _ _ _ _ _ _ _ _ _ _ _ _ _ _ _ _ _ _ _ _ _ _ _ _ _ _ _ _ _ _ _ _ _ _ _ _ _ _ _ _ _ _ _ _ _ _ _ _ _ _ _ _ _ _ _ _ _ _ _ _ _ _ _ _ _ _ _ _ _ _ _ _ _ _ _ _ _ _ _ _ _ _ _ _ _ _ _ _ _ _ _ _ _ _ _ _ _ _ _ _ _ _ _ _ _ _ _ _ _ _ _ _ _ _ _ _ _ _ _ _ _ _ _ ?_
 exact ⟨-1,_,_,_,rfl,(HK.out _ (-k) (by omega)).mono (by omega),HC.out.r.eaten HC.out.fk (by rw [HC.out.nl];exact hol) HKB.out.1 HKB.out.2⟩
end Go.Proofs.YtmennjmjakdkcaaGreat
