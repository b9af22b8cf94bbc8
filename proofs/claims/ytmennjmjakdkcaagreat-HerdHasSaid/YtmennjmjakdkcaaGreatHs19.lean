/- HerdHas. -/
import Derived.Test.YtmennjmjakdkcaaGreatHs16
import Derived.BigRegion
set_option linter.unusedVariables false
set_option linter.unusedSimpArgs false
set_option maxRecDepth 1000000
set_option maxHeartbeats 8000000
namespace Go.Proofs.YtmennjmjakdkcaaGreat
open Go.RowKit
theorem sw_lost1 (w w1 W:World) (H q p f al nh be off ce g18 ze1 ze2 zg1 zg2 z3 zr M3:Nat) (t ho kd sm:Int) (vd:Value) (A Ak Ah:Option Addr) (c ck ch:Nat) (l:List Mk) (ks:List Int) (hs gs:List (List Int)) (ds:List De) (gone whose:List Int) (v1 v2 v3 v4 v5 v6 v7 v8 v9 Z0 Z1 Z2 Z3 Z4 Z5 Z6 Z7 Z8 Z9 ZA ZB ZC ZD ZE ZF ZG ZH ZI ZJ ZK ZL ZM ZN ZO ZP ZQ ZR ZS ZT ZU ZV ZW ZX ZY ZZ Za Zb Zc Zd Ze Zf Zg Zh Zi Zj Zk Zl Zm Zn Zo Zp Zq Zr Zs Zt Zu Zv Zw Zx Zy Zz Y0 Y1 Y2 Y3 Y4 Y5 Y6 Y7 Y8 Y9 YA YB YC YD YE YF YG YH YI YJ YK YL YM YN YO YP YQ YR YS YT YU YV YW YX YY YZ Ya Yb Yc Yd Ye Yf Yg Yh Yi Yj Yk Yl Ym Yn Yo Yp Yq Yr Ys Yt Yu Yv Yw Yx Yy Yz X0 X1 X2 X3 X4 X5 X6 X7 X8 X9 XA XB XC XD XE XF XG XH XI XJ XK XL XM XN XO XP XQ XR XS XT XU XV XW XX XY XZ Xa Xb Xc Xd Xe Xf Xg Xh Xi Xj Xk Xl Xm Xn Xo Xp Xq Xr Xs Xt Xu Xv Xw Xx Xy Xz K0 K1 K2 K3 K4 K5 K6 K7 K8 K9 KA KB KC KD KE KF KG KH KI KJ KK KL KM KN KO KP KQ KR KS KT KU KV KW KX KY KZ Ka Kb Kc Kd Ke Kf Kg Kh Ki Kj Kk Kl Km Kn Ko Kp Kq Kr Ks Kt Ku Kv Kw Kx Ky Kz J0 J1 J2 J3 J4 J5 J6 J7 J8 J9 JA JB JC JD JE JF JG JH JI JJ JK JL JM JN JO JP JQ JR JS JT JU JV JW JX JY JZ Ja Jb Jc Jd Je Jf Jg Jh Ji Jj Jk Jl Jm Jn Jo Jp Jq Jr Js Jt Ju Jv Jw Jx Jy Jz G0 G1 G2 G3 G4 G5 G6 G7 G8 G9 GA GB GC GD GE GF GG GH GI GJ GK GL GM GN GO GP GQ GR GS GT GU GV GW GX GY GZ Ga Gb Gc Gd Ge Gf Gg Gh Gi Gj Gk Gl Gm Gn Gp Gq Gr Gs Gt Gu Gv Gw Gx Gy Gz F0 F1 F2 F3 F4 F5 F6 F7 F8 F9 FA:Value) (Q:Exit→Act→World→Prop)
 (HRD:Hid (SwD w w1 H q t al nh be off ce g18 ze1 ze2 zg1 zg2 z3 zr p A Ak Ah c ck ch vd ds gs gone Z5 whose (M3+1+1+1) ⟨6,f,0,0,0,0,0,sZ⟩ W)) (HC:Hid (SwC t al nh f ho sm l ks hs ds gs gone whose)) (hfn:f<nh) (hnh3:nh≤3) (hal5:al≤5) (hal0:0<al) (hMN3:M3≤4611686018000030000) (hHW:Hd W H (M3+1+1+1)) (hsb:0≤sm∧sm≤80)
 (hk:kd=4) (o:Nat) (hoe:ho=o) (hol:o<al) (hs1:1≤sm) (HM:LaidP (2<sm))
 (HQ:SwQ w w1 H q p f al nh be off ce g18 ze1 ze2 zg1 zg2 z3 zr M3 t ho kd vd A Ak Ah c ck ch l ks hs ds whose v1 v2 v3 v4 v5 v6 v7 v8 v9 Z0 Z1 Z2 Z3 Z4 Z5 Z6 ZA ZB ZC ZD ZE ZF ZG ZH ZI ZJ ZK ZL ZM ZN ZO ZP ZQ ZR ZS ZT ZU ZV ZW ZX ZY ZZ Za Zb Zc Zd Ze Zf Zg Zh Zi Zj Zk Zl Zm Zn Zo Zp Zq Zr Zs Zt Zu Zv Zw Zx Zy Zz Y0 Y1 Y2 Y3 Y4 Y5 Y6 Y7 Y8 Y9 YA YB YC YD YE YF YG Gx Gy Gz F0 F1 F2 F3 F4 F5 F6 F7 F8 F9 FA Q) :
 Code.wp Tryz.prog j2x Q ⟨#[Value.pointer (some ⟨H,0,none⟩),v1,v2,v3,v4,v5,v6,v7,v8,v9,Z0,Z1,Value.pointer (some ⟨q,0,none⟩),Value.int .i64 (al:Int),Z2,Z3,Z4,Value.slice (some ⟨be,off,none⟩) nh ce,Value.slice (some ⟨g18,0,none⟩) al al,Z5,Z6,Value.int .i64 (f:Int),Value.int .i64 ho,Value.int .i64 (-1),Value.int .i64 kd,Value.pointer (some ⟨p,0,none⟩),Z7,Z8,Z9,ZA,ZB,ZC,ZD,ZE,ZF,ZG,ZH,ZI,ZJ,ZK,ZL,ZM,ZN,ZO,ZP,ZQ,ZR,ZS,ZT,ZU,ZV,ZW,ZX,ZY,ZZ,Za,Zb,Zc,Zd,Ze,Zf,Zg,Zh,Zi,Zj,Zk,Zl,Zm,Zn,Zo,Zp,Zq,Zr,Zs,Zt,Zu,Zv,Zw,Zx,Zy,Zz,Y0,Y1,Y2,Y3,Y4,Y5,Y6,Y7,Y8,Y9,YA,YB,YC,YD,YE,YF,YG,YH,YI,YJ,YK,YL,YM,YN,YO,YP,YQ,YR,YS,YT,YU,YV,YW,YX,YY,YZ,Ya,Yb,Yc,Yd,Ye,Yf,Yg,Yh,Yi,Yj,Yk,Yl,Ym,Yn,Yo,Yp,Yq,Yr,Ys,Yt,Yu,Yv,Yw,Yx,Yy,Yz,X0,X1,X2,X3,X4,X5,X6,X7,X8,X9,XA,XB,XC,XD,XE,XF,XG,XH,XI,XJ,XK,XL,XM,XN,XO,XP,XQ,XR,XS,XT,XU,XV,XW,XX,XY,XZ,Xa,Xb,Xc,Xd,Xe,Xf,Xg,Xh,Xi,Xj,Xk,Xl,Xm,Xn,Xo,Xp,Xq,Xr,Xs,Xt,Xu,Xv,Xw,Xx,Xy,Xz,K0,K1,K2,K3,K4,K5,K6,K7,K8,K9,KA,KB,KC,KD,KE,KF,KG,KH,KI,KJ,KK,KL,KM,KN,KO,KP,KQ,KR,KS,KT,KU,KV,KW,KX,KY,KZ,Ka,Kb,Kc,Kd,Ke,Kf,Kg,Kh,Ki,Kj,Kk,Kl,Km,Kn,Ko,Kp,Kq,Kr,Ks,Kt,Ku,Kv,Kw,Kx,Ky,Kz,J0,J1,J2,J3,J4,J5,J6,J7,J8,J9,JA,JB,JC,JD,JE,JF,JG,JH,JI,JJ,JK,JL,JM,JN,JO,JP,JQ,JR,JS,JT,JU,JV,JW,JX,JY,JZ,Ja,Jb,Jc,Jd,Je,Jf,Jg,Jh,Ji,Jj,Jk,Jl,Jm,Jn,Jo,Jp,Jq,Jr,Js,Jt,Ju,Jv,Jw,Jx,Jy,Jz,G0,G1,G2,G3,G4,G5,G6,G7,G8,G9,GA,GB,GC,GD,GE,GF,GG,GH,GI,GJ,GK,GL,GM,GN,GO,GP,GQ,GR,GS,GT,GU,GV,GW,GX,GY,GZ,Ga,Gb,Gc,Gd,Ge,Gf,Gg,Gh,Gi,Gj,Gk,Gl,Gm,Gn,Gp,Gq,Gr,Gs,Gt,Gu,Gv,Gw,Gx,Gy,Gz,F0,F1,F2,F3,F4,F5,F6,F7,F8,F9,FA],[]⟩ W:=by
 conv=>arg 2;whnf
 subst hk hoe
 have hm:=HM
 unfold LaidP at hm
 have hfs:=j1w (some ⟨be,off,none⟩) nh ce f gs W (TDe.grid (RD.td HRD.out)).1 hfn (by omega) HC.out.rb
 rw[←HC.out.su] at hfs
 go_upto_region 37 with (first
  | (go_at_call 75;refine hfs.mono ?_;rintro e w' ⟨rfl,rfl⟩)
  | (go_at_call 50;refine(j1c H (M3+1+1+1) 1 _ W hHW (by omega) (by omega) (by omega)).mono ?_;rintro e w6 ⟨ki,rfl,hk1,hk2,hd6⟩;have hR6:=RD.dealt HRD.out hd6;have HR6:=zQ9 hR6;obtain⟨e0,e1,e2,e3,e4,e5,e6,e7,e8,e9,e10,e11⟩:=blkD hR6.bx;obtain⟨z0,z1,z2,z3a,z4,z5,z6,z7,z8,z9,z10,z11⟩:=zA9 (frz hR6.bx 0) (zA9 (frz hR6.bx 1) (zA9 (frz hR6.bx 2) (zA9 (frz hR6.bx 3) (zA9 (frz hR6.bx 4) (zA9 (frz hR6.bx 5) (zA9 (frz hR6.bx 6) (zA9 (frz hR6.bx 7) (zA9 (frz hR6.bx 8) (zA9 (frz hR6.bx 9) (zA9 (frz hR6.bx 10) (frz hR6.bx 11)))))))))));clear hR6 hd6))
 obtain⟨m,rfl⟩:=Int.eq_ofNat_of_zero_le (show 0≤ki by omega)
 have hm3:1≤m∧m≤2:=by omega
 have HM3:=zQ9 hm3
 have hms:(m:Int)≤sm:=by omega
 have hR7:=HR6.out.deed ⟨4,f,0,0,0,(m:Int),0,sZ⟩
 obtain⟨V,hV⟩:∃ V,V=setL w6 p (l12 ⟨4,f,0,0,0,(m:Int),0,sZ⟩):=⟨_,rfl⟩
 rw[←hV] at hR7
 simp only[setL,l12] at hV
 rw[←hV]
 clear e0 e1 e2 e3 e4 e5 e6 e7 e8 e9 e10 e11 z0 z1 z2 z3a z4 z5 z6 z7 z8 z9 z10 z11
 clear hV
 have HR8:=zQ9 hR7
 have HMS:=zQ9 hms
 have hht:htot (j0j gs)≤80:=by have:=HC.out.r.ti.tot;have:=HC.out.d6;omega
 have HHT:=zQ9 hht
 clear hfs hR7 hk1 hk2 hht hms hm HM
 go_upto_region 38 with fail
 go_loopg [26] m (fun gg Z7 wr=>∃ (kk:Nat) (gs2:List (List Int)) (gone2:List Int),kk+gg=m∧Z7=.int .i64 kk∧SwD w w1 H q t al nh be off ce g18 ze1 ze2 zg1 zg2 z3 zr p A Ak Ah c ck ch vd ds gs2 gone2 Z5 whose (M3+10+kk) ⟨4,f,0,0,0,(m:Int),0,sZ⟩ wr∧L3 t l ks gs gone f m kk gs2 gone2)
 case atStart=>exact⟨0,gs,gone,by omega,rfl,RD.mono HR8.out (by omega),L3.start HC.out.r f m⟩
 case round =>
  obtain⟨kk,gs2,gone2,hkg,rfl,hR,hL⟩:=hrel
  have hR':RD w w1 H q t (.slice A al c) (.slice Ak nh ck) (.slice Ah nh ch) vd vd ds (.slice (some ⟨be,off,none⟩) nh ce) gs2 (.slice (some ⟨g18,0,none⟩) al al) gone2 Z5 whose ze1 ze2 zg1 zg2 z3 zr (M3+10+kk) p ⟨4,f,0,0,0,(m:Int),0,sZ⟩ wr:=hR
  obtain⟨d0,d1,d2,d3,d4,d5,-⟩:=blkD hR'.bx
  have HR9:=zQ9 (zA9 hR' (zA9 hL hkg))
  by_cases hlt:kk<m
  ·have hlt':(kk:Int)<(m:Int):=by omega
   have hel:=hL.elt HC.out.r.n5 HC.out.r.f3 HHT.out
   have hgs2:GSh al nh gs2:=by have:=hL.sh;rwa [HC.out.nl,HC.out.nk] at this
   have HGS2:=zQ9 hgs2
   have HEL:=zQ9 hel.1
   have hho:=k0f H (M3+10+kk) (some ⟨be,off,none⟩) nh ce f gs2 wr hR'.td.dl.hd (by omega) hR'.td.grid.1 hfn (by omega) hel.2
   clear hR hR' hL hkg hel hgs2
   go_upto_region 41 with (go_at_call 73;refine hho.mono ?_;rintro e w7 ⟨h2,rfl,hh2,hd7⟩)
   have hsum:0<(gs2.getD f []).sum:=by
    have h1:=HR9.out.2.1.al
    have h5:=HC.out.r.n5;have h3:=HC.out.r.f3;have hfk:=HC.out.fk
    rw[j9k (by omega) (by rw[HGS2.out.row hfn];exact hal5),h1,←(HC.out.r.sum HC.out.fk).1,←HC.out.su]
    have:=HMS.out
    omega
   obtain⟨o2,rfl,ho2,hp2⟩:=k6f hh2 hsum
   rw[HGS2.out.row hfn] at ho2
   have hp2':0<getG gs2 f o2:=hp2
   have hR10:=(HR9.out.1.dealt hd7).drew1
   have hgb2:=HEL.out f o2 HC.out.fk (by rw[HC.out.nl];exact ho2)
   have hgn:-1000≤gone2.getD o2 0∧gone2.getD o2 0≤1000:=by
    have:=HR9.out.2.1.gn o2;have:=HC.out.r.gn o2;have:=HC.out.d6
    omega
   obtain⟨be',off',g1,cg,gq,e1',e2',hgl,hc18,hc18m,g2,g3,g4,g5,g6,g7,g7x,g8,hKK⟩:=hR10.c3 HGS2.out hfn ho2
   cases e1'
   cases e2'
   obtain⟨hh1,hh2',hh3,hh4⟩:=g5
   obtain⟨yv,hyv⟩:∃ yv,yv=gone2.getD o2 0:=⟨_,rfl⟩
   rw[←hyv] at g7x g8 hgn
   have HYV:=zQ9 hyv
   obtain⟨V1,hV1⟩:∃ V1,V1=w7.drew.setCell ⟨g1,o2,none⟩ (.int .i64 (getG gs2 f o2-1)):=⟨_,rfl⟩
   obtain⟨g8a,g8b⟩:=g8
   obtain⟨g8c,g8d⟩:=g8b (getG gs2 f o2-1)
   rw[←hV1] at g8c g8d
   have HV1:=zQ9 hV1
   have HK:=zQ9 (zA9 hKK (zA9 hp2' ho2))
   clear hlt' hs1 hsb hm3 hgl hyv g8a g8b hKK hho hh2 hd7 hR10 hsum hp2 hp2' d0 d1 d2 d3 d4 d5 hV1
   refine j0y 22 21 1 [0,1,2,3,4,7,8,9,10,11,12,13,14,18,20] [] 0 (TS1 w7.drew V1) (PS1 w7.drew V1) [0,0,0,0,0,0,0,0,0,0,0,0,0,0,0,0,0,0,0,0,0,1] (by as_aux_lemma=>kernel_rfl) (by as_aux_lemma=>kernel_rfl) (by as_aux_lemma=>kernel_rfl) (by as_aux_lemma=>kernel_rfl) (by omega) (.inr rfl) (by as_aux_lemma=>kernel_rfl) rfl (fun k j w1 w2 hc _ hT hp=>PS1.st k j w1 w2 hc hT hp) (fun k=>PS1.start k) ?_
   apply Exists.intro
   refine⟨fun ys=>?_,fun ops K hK=>?_⟩
   ·simp only[List.take_succ_cons,List.take_zero,j0q,List.filterMap_cons,List.filterMap_nil,j0r]
    go_simp
    rfl
   simp only[List.take_succ_cons,List.take_zero,List.drop_succ_cons,List.drop_zero] at hK ⊢
   iterate 5
    refine LexT.const (fun _=>rfl) ?_
    apply Exists.intro
    refine⟨fun ys w' hp hpk hq hd=>?_,?_⟩
    ·try simp[j0f,j0g,DF.holds,Region.binds,EqF] at hd
     try simp only[hd]
     replace hq:w'=w7.drew:=hq (by simp)
     subst hq
     clear hpk hp
     intro Q2 hQ2
     go_wp2_with fail
     rfl
    try simp only[List.nil_append,List.cons_append]
   iterate 2
    refine LexT.const (fun _=>rfl) ?_
    apply Exists.intro
    refine⟨fun ys w' hp hpk hq hd=>?_,?_⟩
    ·try simp[j0f,j0g,DF.holds,Region.binds,EqF] at hd
     try simp only[hd]
     clear hp hpk hq
     intro Q2 hQ2
     go_wp2_with fail
     rfl
    try simp only[List.nil_append,List.cons_append]
   iterate 8
    refine LexT.const (fun _=>rfl) ?_
    apply Exists.intro
    refine⟨fun ys w' hp hpk hq hd=>?_,?_⟩
    ·try simp[j0f,j0g,DF.holds,Region.binds,EqF] at hd
     try simp only[hd]
     replace hq:w'=w7.drew:=hq (by simp)
     subst hq
     clear hpk hp
     intro Q2 hQ2
     go_wp2_with fail
     rfl
    try simp only[List.nil_append,List.cons_append]
   iterate 3
    refine LexT.const (fun _=>rfl) ?_
    apply Exists.intro
    refine⟨fun ys w' hp hpk hq hd=>?_,?_⟩
    ·try simp[j0f,j0g,DF.holds,Region.binds,EqF] at hd
     try simp only[hd]
     clear hp hpk hq
     intro Q2 hQ2
     go_wp2_with fail
     rfl
    try simp only[List.nil_append,List.cons_append]
   iterate 1
    refine LexT.const (fun _=>rfl) ?_
    apply Exists.intro
    refine⟨fun ys w' hp hpk hq hd=>?_,?_⟩
    ·try simp[j0f,j0g,DF.holds,Region.binds,EqF] at hd
     try simp only[hd]
     replace hq:w'=w7.drew:=hq (by simp)
     subst hq
     clear hpk hp
     intro Q2 hQ2
     go_wp2_with fail
     rfl
    try simp only[List.nil_append,List.cons_append]
   iterate 1
    refine LexT.const (fun _=>rfl) ?_
    apply Exists.intro
    refine⟨fun ys w' hp hpk hq hd=>?_,?_⟩
    ·try simp[j0f,j0g,DF.holds,Region.binds,EqF] at hd
     try simp only[hd]
     clear hp hpk hq
     intro Q2 hQ2
     go_wp2_with fail
     rfl
    try simp only[List.nil_append,List.cons_append]
   iterate 1
    refine LexT.const (fun _=>rfl) ?_
    apply Exists.intro
    refine⟨fun ys w' hp hpk hq hd=>?_,?_⟩
    ·try simp[j0f,j0g,DF.holds,Region.binds,EqF] at hd
     try simp only[hd]
     replace hq:w'=w7.drew:=hq (by simp)
     subst hq
     clear hpk hp
     intro Q2 hQ2
     go_wp2_with fail
     rfl
    try simp only[List.nil_append,List.cons_append]
   refine LexT.some (fun _ w=>w=V1) (fun j v w1 w2 hc _ hT h=>TS1.keep j v w1 w2 hc hT h) (fun ys w' hp hpk hq hd=>?_) ?_
   ·try simp[j0f,j0g,DF.holds,Region.binds,EqF] at hd
    try simp only[hd]
    replace hpk:w'=w7.drew:=hpk
    subst hpk
    intro Q2 hQ2
    go_wp2_with fail
    exact⟨⟨rfl,HV1.out.symm⟩,HV1.out.symm⟩
   try simp only[List.nil_append,List.cons_append]
   refine hK _ fun ys w' hp hF=>?_
   simp[AllF,DF.holds] at hF
   obtain⟨q0,q1,q2,q3,q4,q5,q6,q7,q8,q9,q10,q11,q12,q13,q14,q15,q16,q17,q18,q19,q20,hw⟩:=hF
   subst hw
   simp only[q0,q1,q2,q3,q4,q5,q6,q7,q8,q9,q10,q11,q12,q13,q14,q15,q16,q17,q18,q19,q20]
   clear q0 q1 q2 q3 q4 q5 q6 q7 q8 q9 q10 q11 q12 q13 q14 q15 q16 q17 q18 q19 q20 hp hK
   have hkk2:kk≤2:=by have:=HM3.out;omega
   go_wp2_with fail
   go_roundg (gk-1)
   case measure=>have:=HR9.out.2.2;omega
   case rel =>
    have hz:=HK.out.1 (getG gs2 f o2-1) (-1) (yv+1) (by omega)
    rw[←HV1.out] at hz
    refine⟨kk+1,_,_,by have:=HR9.out.2.2;omega,by go_num,RD.mono hz (by omega),?_⟩
    rw[HYV.out]
    exact HR9.out.2.1.step HC.out.r.n5 HC.out.r.f3 HC.out.fk (by rw[HC.out.nl];exact HK.out.2.2) HK.out.2.1 hlt
  ·obtain rfl:kk=m:=by have:=HR9.out.2.2;omega
   go_wp2_with fail
   refine HQ _ _ _ _ _ _ _ _ _ _ _ _ _ _ _ _ _ _ _ _ _ _ _ _ _ _ _ _ _ _ _ _ _ _ _ _ _ _ _ _ _ _ _ _ _ _ _ _ _ _ _ _ _ _ _ _ _ _ _ _ _ _ _ _ _ _ _ _ _ _ _ _ _ _ _ _ _ _ _ _ _ _ _ _ _ _ _ _ _ _ _ _ _ _ _ _ _ _ _ _ _ _ _ _ _ _ _ _ _ _ _ _ _ _ _ _ _ _ _ _ _ _ _ _ _ _ _ _ _ _ _ _ _ _ _ _ _ _ _ _ _ _ _ _ _ _ _ _ _ _ _ _ _ _ _ _ _ _ _ _ _ _ _ _ _ _ _ _ _ _ _ _ _ _ _ _ _ _ _ _ _ _ _ _ _ _ _ _ _ _ _ _ _ _ _ _ _ _ _ _ _ _ _ _ _ _ _ _ _ _ _ _ _ _ _ _ _ _ _ _ _ _ _ _ _ _ _ _ _ _ _ _ _ _ _ _ _ _ _ _ _ _ _ _ _ _ _ _ _ _ _ _ _ _ _ _ _ _ _ _ _ _ _ _ _ _ _ _ _ _ _ _ _ _ _ _ _ _ _ _ _ _ _ _ _ _ _ _ _ _ _ _ _ _ ?_
   exact⟨-1,_,gs2,gone2,rfl,RD.mono HR9.out.1 (by omega),HC.out.r.lost HC.out.fk (by have:=HM3.out;omega) HR9.out.2.1⟩
theorem sw_lost2 (w w1 W:World) (H q p f al nh be off ce g18 ze1 ze2 zg1 zg2 z3 zr M3:Nat) (t ho kd sm:Int) (vd:Value) (A Ak Ah:Option Addr) (c ck ch:Nat) (l:List Mk) (ks:List Int) (hs gs:List (List Int)) (ds:List De) (gone whose:List Int) (v1 v2 v3 v4 v5 v6 v7 v8 v9 Z0 Z1 Z2 Z3 Z4 Z5 Z6 Z7 Z8 Z9 ZA ZB ZC ZD ZE ZF ZG ZH ZI ZJ ZK ZL ZM ZN ZO ZP ZQ ZR ZS ZT ZU ZV ZW ZX ZY ZZ Za Zb Zc Zd Ze Zf Zg Zh Zi Zj Zk Zl Zm Zn Zo Zp Zq Zr Zs Zt Zu Zv Zw Zx Zy Zz Y0 Y1 Y2 Y3 Y4 Y5 Y6 Y7 Y8 Y9 YA YB YC YD YE YF YG YH YI YJ YK YL YM YN YO YP YQ YR YS YT YU YV YW YX YY YZ Ya Yb Yc Yd Ye Yf Yg Yh Yi Yj Yk Yl Ym Yn Yo Yp Yq Yr Ys Yt Yu Yv Yw Yx Yy Yz X0 X1 X2 X3 X4 X5 X6 X7 X8 X9 XA XB XC XD XE XF XG XH XI XJ XK XL XM XN XO XP XQ XR XS XT XU XV XW XX XY XZ Xa Xb Xc Xd Xe Xf Xg Xh Xi Xj Xk Xl Xm Xn Xo Xp Xq Xr Xs Xt Xu Xv Xw Xx Xy Xz K0 K1 K2 K3 K4 K5 K6 K7 K8 K9 KA KB KC KD KE KF KG KH KI KJ KK KL KM KN KO KP KQ KR KS KT KU KV KW KX KY KZ Ka Kb Kc Kd Ke Kf Kg Kh Ki Kj Kk Kl Km Kn Ko Kp Kq Kr Ks Kt Ku Kv Kw Kx Ky Kz J0 J1 J2 J3 J4 J5 J6 J7 J8 J9 JA JB JC JD JE JF JG JH JI JJ JK JL JM JN JO JP JQ JR JS JT JU JV JW JX JY JZ Ja Jb Jc Jd Je Jf Jg Jh Ji Jj Jk Jl Jm Jn Jo Jp Jq Jr Js Jt Ju Jv Jw Jx Jy Jz G0 G1 G2 G3 G4 G5 G6 G7 G8 G9 GA GB GC GD GE GF GG GH GI GJ GK GL GM GN GO GP GQ GR GS GT GU GV GW GX GY GZ Ga Gb Gc Gd Ge Gf Gg Gh Gi Gj Gk Gl Gm Gn Gp Gq Gr Gs Gt Gu Gv Gw Gx Gy Gz F0 F1 F2 F3 F4 F5 F6 F7 F8 F9 FA:Value) (Q:Exit→Act→World→Prop)
 (HRD:Hid (SwD w w1 H q t al nh be off ce g18 ze1 ze2 zg1 zg2 z3 zr p A Ak Ah c ck ch vd ds gs gone Z5 whose (M3+1+1+1) ⟨6,f,0,0,0,0,0,sZ⟩ W)) (HC:Hid (SwC t al nh f ho sm l ks hs ds gs gone whose)) (hfn:f<nh) (hnh3:nh≤3) (hal5:al≤5) (hal0:0<al) (hMN3:M3≤4611686018000030000) (hHW:Hd W H (M3+1+1+1)) (hsb:0≤sm∧sm≤80)
 (hk:kd=4) (o:Nat) (hoe:ho=o) (hol:o<al) (hs1:1≤sm) (HM:LaidP (¬2<sm))
 (HQ:SwQ w w1 H q p f al nh be off ce g18 ze1 ze2 zg1 zg2 z3 zr M3 t ho kd vd A Ak Ah c ck ch l ks hs ds whose v1 v2 v3 v4 v5 v6 v7 v8 v9 Z0 Z1 Z2 Z3 Z4 Z5 Z6 ZA ZB ZC ZD ZE ZF ZG ZH ZI ZJ ZK ZL ZM ZN ZO ZP ZQ ZR ZS ZT ZU ZV ZW ZX ZY ZZ Za Zb Zc Zd Ze Zf Zg Zh Zi Zj Zk Zl Zm Zn Zo Zp Zq Zr Zs Zt Zu Zv Zw Zx Zy Zz Y0 Y1 Y2 Y3 Y4 Y5 Y6 Y7 Y8 Y9 YA YB YC YD YE YF YG Gx Gy Gz F0 F1 F2 F3 F4 F5 F6 F7 F8 F9 FA Q) :
 Code.wp Tryz.prog j2x Q ⟨#[Value.pointer (some ⟨H,0,none⟩),v1,v2,v3,v4,v5,v6,v7,v8,v9,Z0,Z1,Value.pointer (some ⟨q,0,none⟩),Value.int .i64 (al:Int),Z2,Z3,Z4,Value.slice (some ⟨be,off,none⟩) nh ce,Value.slice (some ⟨g18,0,none⟩) al al,Z5,Z6,Value.int .i64 (f:Int),Value.int .i64 ho,Value.int .i64 (-1),Value.int .i64 kd,Value.pointer (some ⟨p,0,none⟩),Z7,Z8,Z9,ZA,ZB,ZC,ZD,ZE,ZF,ZG,ZH,ZI,ZJ,ZK,ZL,ZM,ZN,ZO,ZP,ZQ,ZR,ZS,ZT,ZU,ZV,ZW,ZX,ZY,ZZ,Za,Zb,Zc,Zd,Ze,Zf,Zg,Zh,Zi,Zj,Zk,Zl,Zm,Zn,Zo,Zp,Zq,Zr,Zs,Zt,Zu,Zv,Zw,Zx,Zy,Zz,Y0,Y1,Y2,Y3,Y4,Y5,Y6,Y7,Y8,Y9,YA,YB,YC,YD,YE,YF,YG,YH,YI,YJ,YK,YL,YM,YN,YO,YP,YQ,YR,YS,YT,YU,YV,YW,YX,YY,YZ,Ya,Yb,Yc,Yd,Ye,Yf,Yg,Yh,Yi,Yj,Yk,Yl,Ym,Yn,Yo,Yp,Yq,Yr,Ys,Yt,Yu,Yv,Yw,Yx,Yy,Yz,X0,X1,X2,X3,X4,X5,X6,X7,X8,X9,XA,XB,XC,XD,XE,XF,XG,XH,XI,XJ,XK,XL,XM,XN,XO,XP,XQ,XR,XS,XT,XU,XV,XW,XX,XY,XZ,Xa,Xb,Xc,Xd,Xe,Xf,Xg,Xh,Xi,Xj,Xk,Xl,Xm,Xn,Xo,Xp,Xq,Xr,Xs,Xt,Xu,Xv,Xw,Xx,Xy,Xz,K0,K1,K2,K3,K4,K5,K6,K7,K8,K9,KA,KB,KC,KD,KE,KF,KG,KH,KI,KJ,KK,KL,KM,KN,KO,KP,KQ,KR,KS,KT,KU,KV,KW,KX,KY,KZ,Ka,Kb,Kc,Kd,Ke,Kf,Kg,Kh,Ki,Kj,Kk,Kl,Km,Kn,Ko,Kp,Kq,Kr,Ks,Kt,Ku,Kv,Kw,Kx,Ky,Kz,J0,J1,J2,J3,J4,J5,J6,J7,J8,J9,JA,JB,JC,JD,JE,JF,JG,JH,JI,JJ,JK,JL,JM,JN,JO,JP,JQ,JR,JS,JT,JU,JV,JW,JX,JY,JZ,Ja,Jb,Jc,Jd,Je,Jf,Jg,Jh,Ji,Jj,Jk,Jl,Jm,Jn,Jo,Jp,Jq,Jr,Js,Jt,Ju,Jv,Jw,Jx,Jy,Jz,G0,G1,G2,G3,G4,G5,G6,G7,G8,G9,GA,GB,GC,GD,GE,GF,GG,GH,GI,GJ,GK,GL,GM,GN,GO,GP,GQ,GR,GS,GT,GU,GV,GW,GX,GY,GZ,Ga,Gb,Gc,Gd,Ge,Gf,Gg,Gh,Gi,Gj,Gk,Gl,Gm,Gn,Gp,Gq,Gr,Gs,Gt,Gu,Gv,Gw,Gx,Gy,Gz,F0,F1,F2,F3,F4,F5,F6,F7,F8,F9,FA],[]⟩ W:=by
 conv=>arg 2;whnf
 subst hk hoe
 have hm:=HM
 unfold LaidP at hm
 have hfs:=j1w (some ⟨be,off,none⟩) nh ce f gs W (TDe.grid (RD.td HRD.out)).1 hfn (by omega) HC.out.rb
 rw[←HC.out.su] at hfs
 go_upto_region 37 with (first
  | (go_at_call 75;refine hfs.mono ?_;rintro e w' ⟨rfl,rfl⟩)
  | (go_at_call 50;refine(j1c H (M3+1+1+1) 1 _ W hHW (by omega) (by omega) (by omega)).mono ?_;rintro e w6 ⟨ki,rfl,hk1,hk2,hd6⟩;have hR6:=RD.dealt HRD.out hd6;have HR6:=zQ9 hR6;obtain⟨e0,e1,e2,e3,e4,e5,e6,e7,e8,e9,e10,e11⟩:=blkD hR6.bx;obtain⟨z0,z1,z2,z3a,z4,z5,z6,z7,z8,z9,z10,z11⟩:=zA9 (frz hR6.bx 0) (zA9 (frz hR6.bx 1) (zA9 (frz hR6.bx 2) (zA9 (frz hR6.bx 3) (zA9 (frz hR6.bx 4) (zA9 (frz hR6.bx 5) (zA9 (frz hR6.bx 6) (zA9 (frz hR6.bx 7) (zA9 (frz hR6.bx 8) (zA9 (frz hR6.bx 9) (zA9 (frz hR6.bx 10) (frz hR6.bx 11)))))))))));clear hR6 hd6))
 obtain⟨m,rfl⟩:=Int.eq_ofNat_of_zero_le (show 0≤ki by omega)
 have hm3:1≤m∧m≤2:=by omega
 have HM3:=zQ9 hm3
 have hms:(m:Int)≤sm:=by omega
 have hR7:=HR6.out.deed ⟨4,f,0,0,0,(m:Int),0,sZ⟩
 obtain⟨V,hV⟩:∃ V,V=setL w6 p (l12 ⟨4,f,0,0,0,(m:Int),0,sZ⟩):=⟨_,rfl⟩
 rw[←hV] at hR7
 simp only[setL,l12] at hV
 rw[←hV]
 clear e0 e1 e2 e3 e4 e5 e6 e7 e8 e9 e10 e11 z0 z1 z2 z3a z4 z5 z6 z7 z8 z9 z10 z11
 clear hV
 have HR8:=zQ9 hR7
 have HMS:=zQ9 hms
 have hht:htot (j0j gs)≤80:=by have:=HC.out.r.ti.tot;have:=HC.out.d6;omega
 have HHT:=zQ9 hht
 clear hfs hR7 hk1 hk2 hht hms hm HM
 go_upto_region 38 with fail
 go_loopg [26] m (fun gg Z7 wr=>∃ (kk:Nat) (gs2:List (List Int)) (gone2:List Int),kk+gg=m∧Z7=.int .i64 kk∧SwD w w1 H q t al nh be off ce g18 ze1 ze2 zg1 zg2 z3 zr p A Ak Ah c ck ch vd ds gs2 gone2 Z5 whose (M3+10+kk) ⟨4,f,0,0,0,(m:Int),0,sZ⟩ wr∧L3 t l ks gs gone f m kk gs2 gone2)
 case atStart=>exact⟨0,gs,gone,by omega,rfl,RD.mono HR8.out (by omega),L3.start HC.out.r f m⟩
 case round =>
  obtain⟨kk,gs2,gone2,hkg,rfl,hR,hL⟩:=hrel
  have hR':RD w w1 H q t (.slice A al c) (.slice Ak nh ck) (.slice Ah nh ch) vd vd ds (.slice (some ⟨be,off,none⟩) nh ce) gs2 (.slice (some ⟨g18,0,none⟩) al al) gone2 Z5 whose ze1 ze2 zg1 zg2 z3 zr (M3+10+kk) p ⟨4,f,0,0,0,(m:Int),0,sZ⟩ wr:=hR
  obtain⟨d0,d1,d2,d3,d4,d5,-⟩:=blkD hR'.bx
  have HR9:=zQ9 (zA9 hR' (zA9 hL hkg))
  by_cases hlt:kk<m
  ·have hlt':(kk:Int)<(m:Int):=by omega
   have hel:=hL.elt HC.out.r.n5 HC.out.r.f3 HHT.out
   have hgs2:GSh al nh gs2:=by have:=hL.sh;rwa [HC.out.nl,HC.out.nk] at this
   have HGS2:=zQ9 hgs2
   have HEL:=zQ9 hel.1
   have hho:=k0f H (M3+10+kk) (some ⟨be,off,none⟩) nh ce f gs2 wr hR'.td.dl.hd (by omega) hR'.td.grid.1 hfn (by omega) hel.2
   clear hR hR' hL hkg hel hgs2
   go_upto_region 41 with (go_at_call 73;refine hho.mono ?_;rintro e w7 ⟨h2,rfl,hh2,hd7⟩)
   have hsum:0<(gs2.getD f []).sum:=by
    have h1:=HR9.out.2.1.al
    have h5:=HC.out.r.n5;have h3:=HC.out.r.f3;have hfk:=HC.out.fk
    rw[j9k (by omega) (by rw[HGS2.out.row hfn];exact hal5),h1,←(HC.out.r.sum HC.out.fk).1,←HC.out.su]
    have:=HMS.out
    omega
   obtain⟨o2,rfl,ho2,hp2⟩:=k6f hh2 hsum
   rw[HGS2.out.row hfn] at ho2
   have hp2':0<getG gs2 f o2:=hp2
   have hR10:=(HR9.out.1.dealt hd7).drew1
   have hgb2:=HEL.out f o2 HC.out.fk (by rw[HC.out.nl];exact ho2)
   have hgn:-1000≤gone2.getD o2 0∧gone2.getD o2 0≤1000:=by
    have:=HR9.out.2.1.gn o2;have:=HC.out.r.gn o2;have:=HC.out.d6
    omega
   obtain⟨be',off',g1,cg,gq,e1',e2',hgl,hc18,hc18m,g2,g3,g4,g5,g6,g7,g7x,g8,hKK⟩:=hR10.c3 HGS2.out hfn ho2
   cases e1'
   cases e2'
   obtain⟨hh1,hh2',hh3,hh4⟩:=g5
   obtain⟨yv,hyv⟩:∃ yv,yv=gone2.getD o2 0:=⟨_,rfl⟩
   rw[←hyv] at g7x g8 hgn
   have HYV:=zQ9 hyv
   obtain⟨V1,hV1⟩:∃ V1,V1=w7.drew.setCell ⟨g1,o2,none⟩ (.int .i64 (getG gs2 f o2-1)):=⟨_,rfl⟩
   obtain⟨g8a,g8b⟩:=g8
   obtain⟨g8c,g8d⟩:=g8b (getG gs2 f o2-1)
   rw[←hV1] at g8c g8d
   have HV1:=zQ9 hV1
   have HK:=zQ9 (zA9 hKK (zA9 hp2' ho2))
   clear hlt' hs1 hsb hm3 hgl hyv g8a g8b hKK hho hh2 hd7 hR10 hsum hp2 hp2' d0 d1 d2 d3 d4 d5 hV1
   refine j0y 22 21 1 [0,1,2,3,4,7,8,9,10,11,12,13,14,18,20] [] 0 (TS1 w7.drew V1) (PS1 w7.drew V1) [0,0,0,0,0,0,0,0,0,0,0,0,0,0,0,0,0,0,0,0,0,1] (by as_aux_lemma=>kernel_rfl) (by as_aux_lemma=>kernel_rfl) (by as_aux_lemma=>kernel_rfl) (by as_aux_lemma=>kernel_rfl) (by omega) (.inr rfl) (by as_aux_lemma=>kernel_rfl) rfl (fun k j w1 w2 hc _ hT hp=>PS1.st k j w1 w2 hc hT hp) (fun k=>PS1.start k) ?_
   apply Exists.intro
   refine⟨fun ys=>?_,fun ops K hK=>?_⟩
   ·simp only[List.take_succ_cons,List.take_zero,j0q,List.filterMap_cons,List.filterMap_nil,j0r]
    go_simp
    rfl
   simp only[List.take_succ_cons,List.take_zero,List.drop_succ_cons,List.drop_zero] at hK ⊢
   iterate 5
    refine LexT.const (fun _=>rfl) ?_
    apply Exists.intro
    refine⟨fun ys w' hp hpk hq hd=>?_,?_⟩
    ·try simp[j0f,j0g,DF.holds,Region.binds,EqF] at hd
     try simp only[hd]
     replace hq:w'=w7.drew:=hq (by simp)
     subst hq
     clear hpk hp
     intro Q2 hQ2
     go_wp2_with fail
     rfl
    try simp only[List.nil_append,List.cons_append]
   iterate 2
    refine LexT.const (fun _=>rfl) ?_
    apply Exists.intro
    refine⟨fun ys w' hp hpk hq hd=>?_,?_⟩
    ·try simp[j0f,j0g,DF.holds,Region.binds,EqF] at hd
     try simp only[hd]
     clear hp hpk hq
     intro Q2 hQ2
     go_wp2_with fail
     rfl
    try simp only[List.nil_append,List.cons_append]
   iterate 8
    refine LexT.const (fun _=>rfl) ?_
    apply Exists.intro
    refine⟨fun ys w' hp hpk hq hd=>?_,?_⟩
    ·try simp[j0f,j0g,DF.holds,Region.binds,EqF] at hd
     try simp only[hd]
     replace hq:w'=w7.drew:=hq (by simp)
     subst hq
     clear hpk hp
     intro Q2 hQ2
     go_wp2_with fail
     rfl
    try simp only[List.nil_append,List.cons_append]
   iterate 3
    refine LexT.const (fun _=>rfl) ?_
    apply Exists.intro
    refine⟨fun ys w' hp hpk hq hd=>?_,?_⟩
    ·try simp[j0f,j0g,DF.holds,Region.binds,EqF] at hd
     try simp only[hd]
     clear hp hpk hq
     intro Q2 hQ2
     go_wp2_with fail
     rfl
    try simp only[List.nil_append,List.cons_append]
   iterate 1
    refine LexT.const (fun _=>rfl) ?_
    apply Exists.intro
    refine⟨fun ys w' hp hpk hq hd=>?_,?_⟩
    ·try simp[j0f,j0g,DF.holds,Region.binds,EqF] at hd
     try simp only[hd]
     replace hq:w'=w7.drew:=hq (by simp)
     subst hq
     clear hpk hp
     intro Q2 hQ2
     go_wp2_with fail
     rfl
    try simp only[List.nil_append,List.cons_append]
   iterate 1
    refine LexT.const (fun _=>rfl) ?_
    apply Exists.intro
    refine⟨fun ys w' hp hpk hq hd=>?_,?_⟩
    ·try simp[j0f,j0g,DF.holds,Region.binds,EqF] at hd
     try simp only[hd]
     clear hp hpk hq
     intro Q2 hQ2
     go_wp2_with fail
     rfl
    try simp only[List.nil_append,List.cons_append]
   iterate 1
    refine LexT.const (fun _=>rfl) ?_
    apply Exists.intro
    refine⟨fun ys w' hp hpk hq hd=>?_,?_⟩
    ·try simp[j0f,j0g,DF.holds,Region.binds,EqF] at hd
     try simp only[hd]
     replace hq:w'=w7.drew:=hq (by simp)
     subst hq
     clear hpk hp
     intro Q2 hQ2
     go_wp2_with fail
     rfl
    try simp only[List.nil_append,List.cons_append]
   refine LexT.some (fun _ w=>w=V1) (fun j v w1 w2 hc _ hT h=>TS1.keep j v w1 w2 hc hT h) (fun ys w' hp hpk hq hd=>?_) ?_
   ·try simp[j0f,j0g,DF.holds,Region.binds,EqF] at hd
    try simp only[hd]
    replace hpk:w'=w7.drew:=hpk
    subst hpk
    intro Q2 hQ2
    go_wp2_with fail
    exact⟨⟨rfl,HV1.out.symm⟩,HV1.out.symm⟩
   try simp only[List.nil_append,List.cons_append]
   refine hK _ fun ys w' hp hF=>?_
   simp[AllF,DF.holds] at hF
   obtain⟨q0,q1,q2,q3,q4,q5,q6,q7,q8,q9,q10,q11,q12,q13,q14,q15,q16,q17,q18,q19,q20,hw⟩:=hF
   subst hw
   simp only[q0,q1,q2,q3,q4,q5,q6,q7,q8,q9,q10,q11,q12,q13,q14,q15,q16,q17,q18,q19,q20]
   clear q0 q1 q2 q3 q4 q5 q6 q7 q8 q9 q10 q11 q12 q13 q14 q15 q16 q17 q18 q19 q20 hp hK
   have hkk2:kk≤2:=by have:=HM3.out;omega
   go_wp2_with fail
   go_roundg (gk-1)
   case measure=>have:=HR9.out.2.2;omega
   case rel =>
    have hz:=HK.out.1 (getG gs2 f o2-1) (-1) (yv+1) (by omega)
    rw[←HV1.out] at hz
    refine⟨kk+1,_,_,by have:=HR9.out.2.2;omega,by go_num,RD.mono hz (by omega),?_⟩
    rw[HYV.out]
    exact HR9.out.2.1.step HC.out.r.n5 HC.out.r.f3 HC.out.fk (by rw[HC.out.nl];exact HK.out.2.2) HK.out.2.1 hlt
  ·obtain rfl:kk=m:=by have:=HR9.out.2.2;omega
   go_wp2_with fail
   refine HQ _ _ _ _ _ _ _ _ _ _ _ _ _ _ _ _ _ _ _ _ _ _ _ _ _ _ _ _ _ _ _ _ _ _ _ _ _ _ _ _ _ _ _ _ _ _ _ _ _ _ _ _ _ _ _ _ _ _ _ _ _ _ _ _ _ _ _ _ _ _ _ _ _ _ _ _ _ _ _ _ _ _ _ _ _ _ _ _ _ _ _ _ _ _ _ _ _ _ _ _ _ _ _ _ _ _ _ _ _ _ _ _ _ _ _ _ _ _ _ _ _ _ _ _ _ _ _ _ _ _ _ _ _ _ _ _ _ _ _ _ _ _ _ _ _ _ _ _ _ _ _ _ _ _ _ _ _ _ _ _ _ _ _ _ _ _ _ _ _ _ _ _ _ _ _ _ _ _ _ _ _ _ _ _ _ _ _ _ _ _ _ _ _ _ _ _ _ _ _ _ _ _ _ _ _ _ _ _ _ _ _ _ _ _ _ _ _ _ _ _ _ _ _ _ _ _ _ _ _ _ _ _ _ _ _ _ _ _ _ _ _ _ _ _ _ _ _ _ _ _ _ _ _ _ _ _ _ _ _ _ _ _ _ _ _ _ _ _ _ _ _ _ _ _ _ _ _ _ _ _ _ _ _ _ _ _ _ _ _ _ _ _ _ _ ?_
   exact⟨-1,_,gs2,gone2,rfl,RD.mono HR9.out.1 (by omega),HC.out.r.lost HC.out.fk (by have:=HM3.out;omega) HR9.out.2.1⟩
end Go.Proofs.YtmennjmjakdkcaaGreat
