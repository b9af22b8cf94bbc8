/- HerdHas. -/
import Derived.Test.YtmennjmjakdkcaaGreatHs16
import Derived.BigRegion
set_option linter.unusedVariables false
set_option linter.unusedSimpArgs false
set_option maxRecDepth 1000000
set_option maxHeartbeats 8000000
namespace Go.Proofs.YtmennjmjakdkcaaGreat
open Go.RowKit
theorem q2m (w w1 W:World) (H q p f al nh be off ce g18 ze1 ze2 zg1 zg2 z3 zr M3:Nat) (t ho kd sm:Int) (vd:Value) (A Ak Ah:Option Addr) (c ck ch:Nat) (l:List Mk) (ks:List Int) (hs gs:List (List Int)) (ds:List De) (gone whose:List Int) (v1 v2 v3 v4 v5 v6 v7 v8 v9 Z0 Z1 Z2 Z3 Z4 Z5 Z6 Z7 Z8 Z9 ZA ZB ZC ZD ZE ZF ZG ZH ZI ZJ ZK ZL ZM ZN ZO ZP ZQ ZR ZS ZT ZU ZV ZW ZX ZY ZZ Za Zb Zc Zd Ze Zf Zg Zh Zi Zj Zk Zl Zm Zn Zo Zp Zq Zr Zs Zt Zu Zv Zw Zx Zy Zz Y0 Y1 Y2 Y3 Y4 Y5 Y6 Y7 Y8 Y9 YA YB YC YD YE YF YG YH YI YJ YK YL YM YN YO YP YQ YR YS YT YU YV YW YX YY YZ Ya Yb Yc Yd Ye Yf Yg Yh Yi Yj Yk Yl Ym Yn Yo Yp Yq Yr Ys Yt Yu Yv Yw Yx Yy Yz X0 X1 X2 X3 X4 X5 X6 X7 X8 X9 XA XB XC XD XE XF XG XH XI XJ XK XL XM XN XO XP XQ XR XS XT XU XV XW XX XY XZ Xa Xb Xc Xd Xe Xf Xg Xh Xi Xj Xk Xl Xm Xn Xo Xp Xq Xr Xs Xt Xu Xv Xw Xx Xy Xz K0 K1 K2 K3 K4 K5 K6 K7 K8 K9 KA KB KC KD KE KF KG KH KI KJ KK KL KM KN KO KP KQ KR KS KT KU KV KW KX KY KZ Ka Kb Kc Kd Ke Kf Kg Kh Ki Kj Kk Kl Km Kn Ko Kp Kq Kr Ks Kt Ku Kv Kw Kx Ky Kz J0 J1 J2 J3 J4 J5 J6 J7 J8 J9 JA JB JC JD JE JF JG JH JI JJ JK JL JM JN JO JP JQ JR JS JT JU JV JW JX JY JZ Ja Jb Jc Jd Je Jf Jg Jh Ji Jj Jk Jl Jm Jn Jo Jp Jq Jr Js Jt Ju Jv Jw Jx Jy Jz G0 G1 G2 G3 G4 G5 G6 G7 G8 G9 GA GB GC GD GE GF GG GH GI GJ GK GL GM GN GO GP GQ GR GS GT GU GV GW GX GY GZ Ga Gb Gc Gd Ge Gf Gg Gh Gi Gj Gk Gl Gm Gn Gp Gq Gr Gs Gt Gu Gv Gw Gx Gy Gz F0 F1 F2 F3 F4 F5 F6 F7 F8 F9 FA:Value) (Q:Exit→Act→World→Prop)
 (HRD:Hid (SwD w w1 H q t al nh be off ce g18 ze1 ze2 zg1 zg2 z3 zr p A Ak Ah c ck ch vd ds gs gone Z5 whose (M3+1+1+1) ⟨6,f,0,0,0,0,0,sZ⟩ W)) (HC:Hid (SwC t al nh f ho sm l ks hs ds gs gone whose)) (hfn:f<nh) (hnh3:nh≤3) (hal5:al≤5) (hal0:0<al) (hMN3:M3≤4611686018000030000) (hHW:Hd W H (M3+1+1+1)) (hsb:0≤sm∧sm≤80)
 (hk:6≤kd) (o gg:Nat) (hoe:ho=o) (hol:o<al) (hop:0<getG gs f o) (hnh1:(1:Int)<nh) (hg0:w.heap.size≤gg) (hm:OwnM w1 (gg+1) (.slice A al c) l) (hbq:∃ o,w1.heap[q]?=some (Obj.cells o 29 (0,0))) (hck:check t l=0)
 (HQ:SwQ w w1 H q p f al nh be off ce g18 ze1 ze2 zg1 zg2 z3 zr M3 t ho kd vd A Ak Ah c ck ch l ks hs ds whose v1 v2 v3 v4 v5 v6 v7 v8 v9 Z0 Z1 Z2 Z3 Z4 Z5 Z6 ZA ZB ZC ZD ZE ZF ZG ZH ZI ZJ ZK ZL ZM ZN ZO ZP ZQ ZR ZS ZT ZU ZV ZW ZX ZY ZZ Za Zb Zc Zd Ze Zf Zg Zh Zi Zj Zk Zl Zm Zn Zo Zp Zq Zr Zs Zt Zu Zv Zw Zx Zy Zz Y0 Y1 Y2 Y3 Y4 Y5 Y6 Y7 Y8 Y9 YA YB YC YD YE YF YG Gx Gy Gz F0 F1 F2 F3 F4 F5 F6 F7 F8 F9 FA Q) :
 Code.wp Tryz.prog j2x Q ⟨#[Value.pointer (some ⟨H,0,none⟩),v1,v2,v3,v4,v5,v6,v7,v8,v9,Z0,Z1,Value.pointer (some ⟨q,0,none⟩),Value.int .i64 (al:Int),Z2,Z3,Z4,Value.slice (some ⟨be,off,none⟩) nh ce,Value.slice (some ⟨g18,0,none⟩) al al,Z5,Z6,Value.int .i64 (f:Int),Value.int .i64 ho,Value.int .i64 (-1),Value.int .i64 kd,Value.pointer (some ⟨p,0,none⟩),Z7,Z8,Z9,ZA,ZB,ZC,ZD,ZE,ZF,ZG,ZH,ZI,ZJ,ZK,ZL,ZM,ZN,ZO,ZP,ZQ,ZR,ZS,ZT,ZU,ZV,ZW,ZX,ZY,ZZ,Za,Zb,Zc,Zd,Ze,Zf,Zg,Zh,Zi,Zj,Zk,Zl,Zm,Zn,Zo,Zp,Zq,Zr,Zs,Zt,Zu,Zv,Zw,Zx,Zy,Zz,Y0,Y1,Y2,Y3,Y4,Y5,Y6,Y7,Y8,Y9,YA,YB,YC,YD,YE,YF,YG,YH,YI,YJ,YK,YL,YM,YN,YO,YP,YQ,YR,YS,YT,YU,YV,YW,YX,YY,YZ,Ya,Yb,Yc,Yd,Ye,Yf,Yg,Yh,Yi,Yj,Yk,Yl,Ym,Yn,Yo,Yp,Yq,Yr,Ys,Yt,Yu,Yv,Yw,Yx,Yy,Yz,X0,X1,X2,X3,X4,X5,X6,X7,X8,X9,XA,XB,XC,XD,XE,XF,XG,XH,XI,XJ,XK,XL,XM,XN,XO,XP,XQ,XR,XS,XT,XU,XV,XW,XX,XY,XZ,Xa,Xb,Xc,Xd,Xe,Xf,Xg,Xh,Xi,Xj,Xk,Xl,Xm,Xn,Xo,Xp,Xq,Xr,Xs,Xt,Xu,Xv,Xw,Xx,Xy,Xz,K0,K1,K2,K3,K4,K5,K6,K7,K8,K9,KA,KB,KC,KD,KE,KF,KG,KH,KI,KJ,KK,KL,KM,KN,KO,KP,KQ,KR,KS,KT,KU,KV,KW,KX,KY,KZ,Ka,Kb,Kc,Kd,Ke,Kf,Kg,Kh,Ki,Kj,Kk,Kl,Km,Kn,Ko,Kp,Kq,Kr,Ks,Kt,Ku,Kv,Kw,Kx,Ky,Kz,J0,J1,J2,J3,J4,J5,J6,J7,J8,J9,JA,JB,JC,JD,JE,JF,JG,JH,JI,JJ,JK,JL,JM,JN,JO,JP,JQ,JR,JS,JT,JU,JV,JW,JX,JY,JZ,Ja,Jb,Jc,Jd,Je,Jf,Jg,Jh,Ji,Jj,Jk,Jl,Jm,Jn,Jo,Jp,Jq,Jr,Js,Jt,Ju,Jv,Jw,Jx,Jy,Jz,G0,G1,G2,G3,G4,G5,G6,G7,G8,G9,GA,GB,GC,GD,GE,GF,GG,GH,GI,GJ,GK,GL,GM,GN,GO,GP,GQ,GR,GS,GT,GU,GV,GW,GX,GY,GZ,Ga,Gb,Gc,Gd,Ge,Gf,Gg,Gh,Gi,Gj,Gk,Gl,Gm,Gn,Gp,Gq,Gr,Gs,Gt,Gu,Gv,Gw,Gx,Gy,Gz,F0,F1,F2,F3,F4,F5,F6,F7,F8,F9,FA],[]⟩ W:=by
 conv=>arg 2;whnf
 subst hoe
 have x1:(kd==1)=false:=beq_eq_false_iff_ne.2 (by omega)
 have x2:(kd==2)=false:=beq_eq_false_iff_ne.2 (by omega)
 have x3:(kd==3)=false:=beq_eq_false_iff_ne.2 (by omega)
 have x4:(kd==4)=false:=beq_eq_false_iff_ne.2 (by omega)
 obtain⟨tn,rfl⟩:=Int.eq_ofNat_of_zero_le (j3f hck).1
 have htn:tn≤2:=by have:=(j3f hck).2.1;omega
 have hgb:=HC.out.gb o hol
 have hRW:=RD.drew1 HRD.out
 have hHb:=hRW.td.h1.2.2
 have hmW:=TDe.old hRW.td hg0 hbq (by decide) hm
 obtain⟨A',c',hv,hsl,-,-⟩:=hmW.form j3l
 cases hv
 skip
 obtain⟨mb,mo,mk,hA,hmb,hmk,m0,m1,m2⟩:=Marks.get (k:=o) (by rw[HC.out.nl] at hsl;exact hsl) hol
 subst hA
 have hmbH:mb≠H:=by have:=(hmW.lt mb rfl).1;omega
 obtain⟨y0,y1,y2,y3,y4⟩:=blk5 hRW.td.box
 have hql:=j0a hRW.td.box
 have hqH:q≠H:=by have:=hRW.td.h1.1;omega
 obtain⟨b0,b1,b2,b3,b4⟩:=blk5 (TDe.box (RD.td HRD.out))
 go_upto_region 43 with fail
 have HRW:=zQ9 hRW
 have HMK:=zQ9 hmk
 have hnh2:2≤nh:=by omega
 have HCY:=zQ9 (fun(w':World) (hp:W.drew.grownBy w' (some H))=>zA9 ((World.cell?_of_block (hp.block q hql (fun e=>by cases e;exact hqH rfl))).trans y0) (zA9 ((World.cell?_of_block (hp.block q hql (fun e=>by cases e;exact hqH rfl))).trans y1) (zA9 ((World.cell?_of_block (hp.block q hql (fun e=>by cases e;exact hqH rfl))).trans y2)
  (zA9 ((World.cell?_of_block (hp.block mb hmb (fun e=>by cases e;exact hmbH rfl))).trans m0) (zA9 ((World.cell?_of_block (hp.block mb hmb (fun e=>by cases e;exact hmbH rfl))).trans m1) ((World.cell?_of_block (hp.block mb hmb (fun e=>by cases e;exact hmbH rfl))).trans m2))))))
 clear hRW hnh1 y0 y1 y2 y3 y4 b0 b1 b2 b3 b4 m0 m1 m2 hmW hsl hk x1 x2 x3 x4 hmk
 refine j0y 26 0 0 [] [(23,7)] 10 (THw H (M3+1+1+1)) (PHw W.drew H (M3+1+1+1)) [0,0,0,0,0,0,0,1,0,0,0,0,0,0,0,0,0,0,0,0,0,0,0,2,3,0] (by as_aux_lemma=>kernel_rfl) (by as_aux_lemma=>kernel_rfl) (by as_aux_lemma=>kernel_rfl) (by as_aux_lemma=>kernel_rfl) (by omega) (.inl rfl) rfl (by as_aux_lemma=>kernel_rfl) (PHw.st ⟨by decide,by decide,(23,7),by decide,rfl,rfl⟩) (PHw.start (hHW.kept fun _ _=>rfl)) ?_
 apply Exists.intro
 refine⟨fun ys=>?_,fun ops K hK=>?_⟩
 ·simp only[List.take_succ_cons,List.take_zero,j0q,List.filterMap_cons,List.filterMap_nil,j0r]
  go_simp
  rfl
 simp only[List.take_succ_cons,List.take_zero,List.drop_succ_cons,List.drop_zero] at hK ⊢
 iterate 7
  refine LexT.const THw.rf ?_
  apply Exists.intro
  refine⟨fun ys w' hp hpk hq hd=>?_,?_⟩
  ·try simp[j0f,j0g,DF.holds,Region.binds,EqF] at hd
   try simp only[hd]
   obtain⟨c0,c1,c2,c3,c4,c5⟩:=HCY.out w' hp
   clear hp hpk hq
   intro Q2 hQ2
   go_wp2_with fail
   rfl
  try simp only[List.nil_append,List.cons_append]
 refine LexT.some (fun v _=>∃ x:Nat,v=.int .i64 (x:Int)∧1≤x∧x<nh) (fun _ _ _ _ _ _ _ h=>h) (fun ys w' hp hpk hq hd=>?_) ?_
 ·try simp[j0f,j0g,DF.holds,Region.binds,EqF] at hd
  try simp only[hd]
  intro Q2 hQ2
  go_wp2_with fail
  refine(j1c H (M3+1+1+1) 1 ((nh:Int)-1) _ hpk (by omega) (by omega) (by omega)).mono ?_
  rintro e w2 ⟨xi,rfl,hx1,hx2,hd2⟩
  obtain⟨x,rfl⟩:=Int.eq_ofNat_of_zero_le (show 0≤xi by omega)
  have HX:=zQ9 (show THw H (M3+1+1+1) 1 w' w2∧1≤x∧x<nh from⟨hd2,by omega,by omega⟩)
  clear hd2 hx1 hx2
  go_wp2
  exact⟨_,rfl,HX.out.1,x,rfl,HX.out.2⟩
 try simp only[List.nil_append,List.cons_append]
 refine LexT.some (fun v _=>∃ x:Nat,v=.int .i64 ((f:Int)+(x:Int))∧1≤x∧x<nh) (fun _ _ _ _ _ _ _ h=>h) (fun ys w' hp hpk hq hd=>?_) ?_
 ·try simp[j0f,j0g,DF.holds,Region.binds,EqF] at hd
  try simp only[hd]
  obtain⟨h331,x,h337,hx1,hx2⟩:=hd
  simp only[h331,h337]
  intro Q2 hQ2
  go_wp2_with fail
  exact⟨rfl,x,rfl,hx1,hx2⟩
 try simp only[List.nil_append,List.cons_append]
 iterate 3
  refine LexT.const THw.rf ?_
  apply Exists.intro
  refine⟨fun ys w' hp hpk hq hd=>?_,?_⟩
  ·try simp[j0f,j0g,DF.holds,Region.binds,EqF] at hd
   try simp only[hd]
   obtain⟨c0,c1,c2,c3,c4,c5⟩:=HCY.out w' hp
   clear hp hpk hq
   intro Q2 hQ2
   go_wp2_with fail
   rfl
  try simp only[List.nil_append,List.cons_append]
 refine LexT.some (fun v _=>∃ pp:Nat,v=.int .i64 (pp:Int)∧pp<nh∧f≠pp) (fun _ _ _ _ _ _ _ h=>h) (fun ys w' hp hpk hq hd=>?_) ?_
 ·try simp[j0f,j0g,DF.holds,Region.binds,EqF] at hd
  try simp only[hd]
  obtain⟨⟨x,h338,hx1,hx2⟩,h341,-⟩:=hd
  simp only[h338,h341]
  intro Q2 hQ2
  go_wp2_with fail
  refine(k9u f x nh _ hfn (by omega) (by omega) (by omega)).mono ?_
  rintro e w2 ⟨pp,rfl,hp1,hp2,rfl⟩
  have HX:=zQ9 (zA9 hp1 hp2)
  clear hp1 hp2
  go_wp2
  exact⟨_,rfl,rfl,pp,rfl,HX.out⟩
 try simp only[List.nil_append,List.cons_append]
 iterate 10
  refine LexT.const THw.rf ?_
  apply Exists.intro
  refine⟨fun ys w' hp hpk hq hd=>?_,?_⟩
  ·try simp[j0f,j0g,DF.holds,Region.binds,EqF] at hd
   try simp only[hd]
   obtain⟨c0,c1,c2,c3,c4,c5⟩:=HCY.out w' hp
   clear hp hpk hq
   intro Q2 hQ2
   go_wp2_with fail
   rfl
  try simp only[List.nil_append,List.cons_append]
 refine LexT.some (fun v w=>∃ s:Sg,v=vSg s∧(seen s 0 0=0∧popI s.n≤tn)∧Hd w H (M3+1+1+1+111)) (THw.keep2 ⟨by decide,by decide,(23,7),by decide,rfl,rfl⟩) (fun ys w' hp hpk hq hd=>?_) ?_
 ·try simp[j0f,j0g,DF.holds,Region.binds,EqF] at hd
  obtain⟨h349,h352,-⟩:=hd
  simp only[h349,h352]
  intro Q2 hQ2
  go_wp2_with fail
  refine(q2o H (M3+1+1+1+1) tn _ hpk (by omega) (by omega)).mono ?_
  rintro e w2 ⟨s,rfl,hs1,hs2,hd2⟩
  have hd3:Dealt w' w2 H (M3+1+1+1+111):=hd2.mono (by omega)
  have HX:=zQ9 (show THw H (M3+1+1+1) 2 w' w2∧(seen s 0 0=0∧popI s.n≤tn)∧Hd w2 H (M3+1+1+1+111) from⟨hd3,⟨hs1,hs2⟩,hd3.hd⟩)
  clear hd2 hd3 hs1 hs2
  go_wp2
  exact⟨_,rfl,HX.out.1,s,rfl,HX.out.2⟩
 try simp only[List.nil_append,List.cons_append]
 refine LexT.some (fun v _=>∃ s:Sg,v=vSg (j2s mk s)∧(seen s 0 0=0∧popI s.n≤tn)) (fun _ _ _ _ _ _ _ h=>h) (fun ys w' hp hpk hq hd=>?_) ?_
 ·try simp[j0f,j0g,DF.holds,Region.binds,EqF] at hd
  obtain⟨h348,s,h353,hs1,-⟩:=hd
  simp only[h348,h353]
  have hmv:=(j4t hck mk (List.mem_of_getElem? HMK.out)).1
  have hsv:=j9m hs1.1
  intro Q2 hQ2
  go_wp2_with fail
  refine(q5a mk s _ hmv.1 hmv.2 hsv.1.1 hsv.1.2).mono ?_
  rintro e w2 ⟨rfl,hb2⟩
  have HX:=zQ9 (show THw H (M3+1+1+1) 3 w' w2∧(seen s 0 0=0∧popI s.n≤tn) from⟨hb2,hs1⟩)
  clear hb2 hs1 hmv hsv
  go_wp2
  exact⟨_,rfl,HX.out.1,s,rfl,HX.out.2⟩
 try simp only[List.nil_append,List.cons_append]
 refine LexT.some (fun v _=>∃ (pp:Nat) (s:Sg),v=dv ⟨5,f,0,0,pp,0,0,j2s mk s⟩∧(pp<nh∧f≠pp)∧(seen s 0 0=0∧popI s.n≤tn)) (fun _ _ _ _ _ _ _ h=>h) (fun ys w' hp hpk hq hd=>?_) ?_
 ·try simp[j0f,j0g,DF.holds,Region.binds,EqF] at hd
  obtain⟨h330,⟨pp,h342,hp1⟩,s,h354,hk1⟩:=hd
  simp only[h330,h342,h354]
  have HX:=zQ9 (zA9 hp1 hk1)
  clear hp1 hk1
  unfold vSg
  intro Q2 hQ2
  go_wp2_with fail
  exact⟨rfl,pp,s,rfl,HX.out.1,HX.out.2⟩
 try simp only[List.nil_append,List.cons_append]
 refine hK _ fun ys w6 hp hF=>?_
 simp[AllF,DF.holds] at hF
 obtain⟨-,-,-,-,-,-,-,-,-,-,-,-,-,-,-,-,-,-,-,-,-,-,-,⟨-,-,-,hH6⟩,-,pp,s,h355,hpp,hss⟩:=hF
 simp only[h355]
 unfold dv
 have hR6:=HRW.out.dealt ⟨hH6,hp⟩
 obtain⟨sw,hsw⟩:∃ sw,sw=j2s mk s:=⟨_,rfl⟩
 rw[←hsw]
 have HSW:=zQ9 (zA9 hsw hss)
 have HR6:=zQ9 hR6
 obtain⟨e0,e1,e2,e3,e4,e5,e6,e7,e8,e9,e10,e11⟩:=blkD hR6.bx;obtain⟨z0,z1,z2,z3a,z4,z5,z6,z7,z8,z9,z10,z11⟩:=zA9 (frz hR6.bx 0) (zA9 (frz hR6.bx 1) (zA9 (frz hR6.bx 2) (zA9 (frz hR6.bx 3) (zA9 (frz hR6.bx 4) (zA9 (frz hR6.bx 5) (zA9 (frz hR6.bx 6) (zA9 (frz hR6.bx 7) (zA9 (frz hR6.bx 8) (zA9 (frz hR6.bx 9) (zA9 (frz hR6.bx 10) (frz hR6.bx 11)))))))))))
 clear hR6 h355 hH6 hp hsw hss
 go_upto_region 44 with fail
 have hR7:=HR6.out.deed ⟨5,f,0,0,pp,0,0,sw⟩
 obtain⟨V,hV⟩:∃ V,V=setL w6 p (l12 ⟨5,f,0,0,pp,0,0,sw⟩):=⟨_,rfl⟩
 rw[←hV] at hR7
 simp only[setL,l12] at hV
 rw[←hV]
 clear e0 e1 e2 e3 e4 e5 e6 e7 e8 e9 e10 e11 z0 z1 z2 z3a z4 z5 z6 z7 z8 z9 z10 z11
 clear hV
 obtain⟨hpp1,hpp2⟩:=hpp
 have hR8:=hR7.drew1
 obtain⟨be',off',g1,cg,g2x,cg2,e1',g2,g3,g4,g4x,g5,g6,g7,g7x,g8,hKK⟩:=hR8.c2 HC.out.sh hfn hol hpp1 hol (.inl hpp2)
 obtain⟨g7a,g7b⟩:=g8
 cases e1'
 obtain⟨V1,hV1⟩:∃ V1,V1=V.drew.setCell ⟨g1,o,none⟩ (.int .i64 (getG gs f o-1)):=⟨_,rfl⟩
 obtain⟨g8c,g8d⟩:=g7b (getG gs f o-1)
 rw[←hV1] at g8c g8d
 obtain⟨V2,hV2⟩:∃ V2,V2=V1.setCell ⟨g2x,o,none⟩ (.int .i64 (getG gs pp o+1)):=⟨_,rfl⟩
 obtain⟨hh1,hh2,hh3,hh4,hh5,hh6⟩:=g5
 have hbp:V1.heap[p]?=some (dObj ⟨5,f,0,0,pp,0,0,sw⟩):=by rw[hV1];exact(Below.heap_setCell _ ⟨g1,o,none⟩ _ _ (by show p≠g1;omega)).trans hR8.bx
 have hbp2:V2.heap[p]?=some (dObj ⟨5,f,0,0,pp,0,0,sw⟩):=by rw[hV2];exact(Below.heap_setCell _ ⟨g2x,o,none⟩ _ _ (by show p≠g2x;omega)).trans hbp
 have hne1:V1≠V.drew:=fun e=>by
  have h1:=World.cell?_setCell_same' V.drew ⟨g1,o,none⟩ (.int .i64 (getG gs f o-1)) (by rw[g6];rfl)
  rw[←hV1,e,g6] at h1
  injection h1 with h1
  injection h1 with _ h1
  omega
 have hne2:V2≠V.drew:=fun e=>by
  have h1:=World.cell?_setCell_same' V1 ⟨g2x,o,none⟩ (.int .i64 (getG gs pp o+1)) (by rw[g8d];rfl)
  rw[←hV2,e,g7x] at h1
  injection h1 with h1
  injection h1 with _ h1
  omega
 have HCD:=zQ9 (fun(w':World) (hp:PS2 V.drew V1 V2 0 w')=>(show w'.cell? ⟨p,4,none⟩=some (.int .i64 (pp:Int)) from by
  have hb:w'.heap[p]?=some (dObj ⟨5,f,0,0,pp,0,0,sw⟩):=by
   rcases hp with h|h|h
   ·rw[h];exact hR8.bx
   ·rw[h];exact hbp
   ·rw[h];exact hbp2
  exact(blkD hb).2.2.2.2.1))
 obtain⟨d0,d1,d2,d3,d4,d5,-⟩:=blkD hR8.bx
 have hgb2:0≤getG gs pp o∧getG gs pp o≤80:=by
  have:=HC.out.r.bd (f:=pp) (o:=o) (by rw[HC.out.nk];exact hpp1) (by rw[HC.out.nl];exact hol)
  have:=HC.out.d6
  omega
 have HV1:=zQ9 (zA9 hV1 (zA9 hV2 (zA9 hne1 hne2)))
 have HK:=zQ9 hKK
 clear hR7 hR8 hKK g7a g7b hV1 hV2 hbp hbp2 hne1 hne2
 refine j0y 33 30 1 [29,18,0,1,2,3,4,9,11,12,13,14,15,16,17,23,26] [(32,30)] 10 (TS2 V.drew V1 V2) (PS2 V.drew V1 V2) [0,0,0,0,0,0,0,0,0,0,0,0,0,0,0,0,0,0,0,0,0,0,0,0,0,0,0,0,0,0,1,0,2] (by as_aux_lemma=>kernel_rfl) (by as_aux_lemma=>kernel_rfl) (by as_aux_lemma=>kernel_rfl) (by as_aux_lemma=>kernel_rfl) (by omega) (.inr rfl) (by as_aux_lemma=>kernel_rfl) (by as_aux_lemma=>kernel_rfl) (PS2.st ⟨by decide,by decide,(32,30),by decide,rfl,rfl⟩) (fun k=>PS2.start k) ?_
 apply Exists.intro
 refine⟨fun ys=>?_,fun ops K hK=>?_⟩
 ·simp only[List.take_succ_cons,List.take_zero,j0q,List.filterMap_cons,List.filterMap_nil,j0r]
  go_simp
  rfl
 simp only[List.take_succ_cons,List.take_zero,List.drop_succ_cons,List.drop_zero] at hK ⊢
 iterate 5
  refine LexT.const (fun _=>rfl) ?_
  apply Exists.intro
  refine⟨fun ys w' hp hpk hq hd=>?_,?_⟩
  ·try simp[j0f,j0g,DF.holds,Region.binds,EqF] at hd
   try simp only[hd]
   replace hq:w'=V.drew:=hq (by simp)
   subst hq
   clear hpk hp
   intro Q2 hQ2
   go_wp2_with fail
   rfl
  try simp only[List.nil_append,List.cons_append]
 iterate 2
  refine LexT.const (fun _=>rfl) ?_
  apply Exists.intro
  refine⟨fun ys w' hp hpk hq hd=>?_,?_⟩
  ·try simp[j0f,j0g,DF.holds,Region.binds,EqF] at hd
   try simp only[hd]
   clear hp hpk hq
   intro Q2 hQ2
   go_wp2_with fail
   rfl
  try simp only[List.nil_append,List.cons_append]
 iterate 1
  refine LexT.const (fun _=>rfl) ?_
  apply Exists.intro
  refine⟨fun ys w' hp hpk hq hd=>?_,?_⟩
  ·try simp[j0f,j0g,DF.holds,Region.binds,EqF] at hd
   try simp only[hd]
   obtain d4:=HCD.out w' hp
   clear hp hpk hq
   intro Q2 hQ2
   go_wp2_with fail
   rfl
  try simp only[List.nil_append,List.cons_append]
 iterate 1
  refine LexT.const (fun _=>rfl) ?_
  apply Exists.intro
  refine⟨fun ys w' hp hpk hq hd=>?_,?_⟩
  ·try simp[j0f,j0g,DF.holds,Region.binds,EqF] at hd
   try simp only[hd]
   clear hp hpk hq
   intro Q2 hQ2
   go_wp2_with fail
   rfl
  try simp only[List.nil_append,List.cons_append]
 iterate 1
  refine LexT.const (fun _=>rfl) ?_
  apply Exists.intro
  refine⟨fun ys w' hp hpk hq hd=>?_,?_⟩
  ·try simp[j0f,j0g,DF.holds,Region.binds,EqF] at hd
   try simp only[hd]
   replace hq:w'=V.drew:=hq (by simp)
   subst hq
   clear hpk hp
   intro Q2 hQ2
   go_wp2_with fail
   rfl
  try simp only[List.nil_append,List.cons_append]
 iterate 1
  refine LexT.const (fun _=>rfl) ?_
  apply Exists.intro
  refine⟨fun ys w' hp hpk hq hd=>?_,?_⟩
  ·try simp[j0f,j0g,DF.holds,Region.binds,EqF] at hd
   try simp only[hd]
   clear hp hpk hq
   intro Q2 hQ2
   go_wp2_with fail
   rfl
  try simp only[List.nil_append,List.cons_append]
 iterate 8
  refine LexT.const (fun _=>rfl) ?_
  apply Exists.intro
  refine⟨fun ys w' hp hpk hq hd=>?_,?_⟩
  ·try simp[j0f,j0g,DF.holds,Region.binds,EqF] at hd
   try simp only[hd]
   replace hq:w'=V.drew:=hq (by simp)
   subst hq
   clear hpk hp
   intro Q2 hQ2
   go_wp2_with fail
   rfl
  try simp only[List.nil_append,List.cons_append]
 iterate 2
  refine LexT.const (fun _=>rfl) ?_
  apply Exists.intro
  refine⟨fun ys w' hp hpk hq hd=>?_,?_⟩
  ·try simp[j0f,j0g,DF.holds,Region.binds,EqF] at hd
   try simp only[hd]
   clear hp hpk hq
   intro Q2 hQ2
   go_wp2_with fail
   rfl
  try simp only[List.nil_append,List.cons_append]
 iterate 1
  refine LexT.const (fun _=>rfl) ?_
  apply Exists.intro
  refine⟨fun ys w' hp hpk hq hd=>?_,?_⟩
  ·try simp[j0f,j0g,DF.holds,Region.binds,EqF] at hd
   try simp only[hd]
   obtain d4:=HCD.out w' hp
   clear hp hpk hq
   intro Q2 hQ2
   go_wp2_with fail
   rfl
  try simp only[List.nil_append,List.cons_append]
 iterate 1
  refine LexT.const (fun _=>rfl) ?_
  apply Exists.intro
  refine⟨fun ys w' hp hpk hq hd=>?_,?_⟩
  ·try simp[j0f,j0g,DF.holds,Region.binds,EqF] at hd
   try simp only[hd]
   clear hp hpk hq
   intro Q2 hQ2
   go_wp2_with fail
   rfl
  try simp only[List.nil_append,List.cons_append]
 iterate 1
  refine LexT.const (fun _=>rfl) ?_
  apply Exists.intro
  refine⟨fun ys w' hp hpk hq hd=>?_,?_⟩
  ·try simp[j0f,j0g,DF.holds,Region.binds,EqF] at hd
   try simp only[hd]
   replace hq:w'=V.drew:=hq (by simp)
   subst hq
   clear hpk hp
   intro Q2 hQ2
   go_wp2_with fail
   rfl
  try simp only[List.nil_append,List.cons_append]
 iterate 2
  refine LexT.const (fun _=>rfl) ?_
  apply Exists.intro
  refine⟨fun ys w' hp hpk hq hd=>?_,?_⟩
  ·try simp[j0f,j0g,DF.holds,Region.binds,EqF] at hd
   try simp only[hd]
   clear hp hpk hq
   intro Q2 hQ2
   go_wp2_with fail
   rfl
  try simp only[List.nil_append,List.cons_append]
 iterate 1
  refine LexT.const (fun _=>rfl) ?_
  apply Exists.intro
  refine⟨fun ys w' hp hpk hq hd=>?_,?_⟩
  ·try simp[j0f,j0g,DF.holds,Region.binds,EqF] at hd
   try simp only[hd]
   replace hq:w'=V.drew:=hq (by simp)
   subst hq
   clear hpk hp
   intro Q2 hQ2
   go_wp2_with fail
   rfl
  try simp only[List.nil_append,List.cons_append]
 iterate 2
  refine LexT.const (fun _=>rfl) ?_
  apply Exists.intro
  refine⟨fun ys w' hp hpk hq hd=>?_,?_⟩
  ·try simp[j0f,j0g,DF.holds,Region.binds,EqF] at hd
   try simp only[hd]
   clear hp hpk hq
   intro Q2 hQ2
   go_wp2_with fail
   rfl
  try simp only[List.nil_append,List.cons_append]
 iterate 1
  refine LexT.const (fun _=>rfl) ?_
  apply Exists.intro
  refine⟨fun ys w' hp hpk hq hd=>?_,?_⟩
  ·try simp[j0f,j0g,DF.holds,Region.binds,EqF] at hd
   try simp only[hd]
   replace hq:w'=V.drew:=hq (by simp)
   subst hq
   clear hpk hp
   intro Q2 hQ2
   go_wp2_with fail
   rfl
  try simp only[List.nil_append,List.cons_append]
 refine LexT.some (fun _ w=>w≠V.drew) (fun j v w1 w2 hc _ hT h=>TS2.keep1 HV1.out.2.2.2 j v w1 w2 hc hT h) (fun ys w' hp hpk hq hd=>?_) ?_
 ·try simp[j0f,j0g,DF.holds,Region.binds,EqF] at hd
  try simp only[hd]
  replace hpk:w'=V.drew:=hpk
  subst hpk
  intro Q2 hQ2
  go_wp2_with fail
  exact⟨⟨rfl,HV1.out.1.symm⟩,fun e=>HV1.out.2.2.1 (HV1.out.1.trans e)⟩
 try simp only[List.nil_append,List.cons_append]
 iterate 1
  refine LexT.const (fun _=>rfl) ?_
  apply Exists.intro
  refine⟨fun ys w' hp hpk hq hd=>?_,?_⟩
  ·try simp[j0f,j0g,DF.holds,Region.binds,EqF] at hd
   try simp only[hd]
   clear hp hpk hq
   intro Q2 hQ2
   go_wp2_with fail
   rfl
  try simp only[List.nil_append,List.cons_append]
 refine LexT.some (fun _ w=>w=V2) (TS2.keep2 ⟨by decide,by decide,(32,30),by decide,rfl,rfl⟩) (fun ys w' hp hpk hq hd=>?_) ?_
 ·try simp[j0f,j0g,DF.holds,Region.binds,EqF] at hd
  have hne:=hd.2.2.1
  simp only[hd.1,hd.2.1]
  clear hd
  replace hpk:w'=V1:=by
   rcases(show w'=V.drew∨w'=V1 from hpk) with h|h
   ·exact absurd h hne
   ·exact h
  subst hpk
  clear hne hq hp
  intro Q2 hQ2
  go_wp2_with fail
  exact⟨⟨rfl,HV1.out.2.1.symm⟩,HV1.out.2.1.symm⟩
 try simp only[List.nil_append,List.cons_append]
 refine hK _ fun ys w' hp hF=>?_
 simp[AllF,DF.holds] at hF
 obtain⟨q0,q1,q2,q3,q4,q5,q6,q7,q8,q9,q10,q11,q12,q13,q14,q15,q16,q17,q18,q19,q20,q21,q22,q23,q24,q25,q26,q27,q28,q29,-,q31,hw⟩:=hF
 subst hw
 simp only[q0,q1,q2,q3,q4,q5,q6,q7,q8,q9,q10,q11,q12,q13,q14,q15,q16,q17,q18,q19,q20,q21,q22,q23,q24,q25,q26,q27,q28,q29,q31]
 clear q0 q1 q2 q3 q4 q5 q6 q7 q8 q9 q10 q11 q12 q13 q14 q15 q16 q17 q18 q19 q20 q21 q22 q23 q24 q25 q26 q27 q28 q29 q31 hp hK
 go_wp2_with fail
 have hz:=HK.out (getG gs f o-1) (-1) (getG gs pp o+1) 1 (by omega) rfl
 rw[←HV1.out.1,←HV1.out.2.1] at hz
 have hmk2:=j4t hck mk (List.mem_of_getElem? HMK.out)
 refine HQ _ _ _ _ _ _ _ _ _ _ _ _ _ _ _ _ _ _ _ _ _ _ _ _ _ _ _ _ _ _ _ _ _ _ _ _ _ _ _ _ _ _ _ _ _ _ _ _ _ _ _ _ _ _ _ _ _ _ _ _ _ _ _ _ _ _ _ _ _ _ _ _ _ _ _ _ _ _ _ _ _ _ _ _ _ _ _ _ _ _ _ _ _ _ _ _ _ _ _ _ _ _ _ _ _ _ _ _ _ _ _ _ _ _ _ _ _ _ _ _ _ _ _ _ _ _ _ _ _ _ _ _ _ _ _ _ _ _ _ _ _ _ _ _ _ _ _ _ _ _ _ _ _ _ _ _ _ _ _ _ _ _ _ _ _ _ _ _ _ _ _ _ _ _ _ _ _ _ _ _ _ _ _ _ _ _ _ _ _ _ _ _ _ _ _ _ _ _ _ _ _ _ _ _ _ _ _ _ _ _ _ _ _ _ _ _ _ _ _ _ _ _ _ _ _ _ _ _ _ _ _ _ _ _ _ _ _ _ _ _ _ _ _ _ _ _ _ _ _ _ _ _ _ _ _ _ _ _ _ _ _ _ _ _ _ _ _ _ _ _ _ _ _ _ _ _ _ _ _ _ _ _ _ _ _ _ _ _ _ _ _ _ _ _ ?_
 refine⟨o,_,_,_,rfl,RD.mono hz (by omega),HC.out.r.strayed HC.out.fk (by rw[HC.out.nk];exact hpp1) hpp2 (by rw[HC.out.nl];exact hol) hop ?_ ?_⟩
 ·rw[HSW.out.1];exact k8n HMK.out (q3n hmk2.1 (j9m HSW.out.2.1).1 (by have:=HSW.out.2.2;omega))
 ·rw[HSW.out.1];exact q4u hmk2
end Go.Proofs.YtmennjmjakdkcaaGreat
