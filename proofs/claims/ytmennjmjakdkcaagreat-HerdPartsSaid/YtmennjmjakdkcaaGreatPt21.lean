/- HerdParts. -/
import Derived.Test.YtmennjmjakdkcaaGreatPt20
import Derived.Deep.RegionLaw
import Derived.Test.YtmennjmjakdkcaaGreatPt10
set_option linter.unusedVariables false
set_option linter.unusedSimpArgs false
set_option maxRecDepth 1000000
set_option maxHeartbeats 8000000
namespace Go.Proofs.YtmennjmjakdkcaaGreat
open Go.RowKit
noncomputable def lpCode:Code:=((Tryz.f20.body.bind (j4p 4)).getD .skip)
def LpRel (w w1:World) (H q al nh be off ce g18 ze1 ze2 zg1 zg2 z3 M m0:Nat) (t:Int) (A Ak Ah:Option Addr) (c ck ch:Nat) (l:List Mk) (ks:List Int) (hs:List (List Int)) (vW:Value) (w':World):Prop :=
 ∃ vd ds gs gone whose zr,TDe w w1 H q t (.slice A al c) (.slice Ak nh ck) (.slice Ah nh ch) vd vd ds (.slice (some ⟨be,off,none⟩) nh ce) gs (.slice (some ⟨g18,0,none⟩) al al) gone vW whose ze1 ze2 zg1 zg2 z3 zr (M+1+1000*m0) w'∧R3 t l ks hs ds gs gone whose∧ds.length=m0
def LpQ (w w1:World) (H q al nh be off ce g18 ze1 ze2 zg1 zg2 z3 M m0:Nat) (t:Int) (A Ak Ah:Option Addr) (c ck ch:Nat) (l:List Mk) (ks:List Int) (hs:List (List Int)) (v1 v2 v3 v4 v5 v6 v7 v8 v9 Z0 Z1 Z2 Z3 Z4 Z5 Z6 Z7 Z8 Z9 ZA ZB ZC ZD ZE ZF ZG ZH ZI ZJ ZK ZL ZM ZN ZO ZP ZQ ZR ZS ZT ZU ZV ZW ZX ZY ZZ Za Zb Zc Zd Ze Zf Zg Zh Zi Zj Zk Zl Zm Zn Zo Zp Zq Zr Zs Zt Zu Zv Zw Zx Zy Zz Y0 Y1 Y2 Y3 Y4 Y5 Y6 Y7 Y8 Y9 YA YB YC YD YE YF:Value) (Q:Exit->Act->World->Prop):Prop :=
 ∀ (YG YH YI YJ YK YL YM YN YO YP YQ YR YS YT YU YV YW YX YY YZ Ya Yb Yc Yd Ye Yf Yg Yh Yi Yj Yk Yl Ym Yn Yo Yp Yq Yr Ys Yt Yu Yv Yw Yx Yy Yz X0 X1 X2 X3 X4 X5 X6 X7 X8 X9 XA XB XC XD XE XF XG XH XI XJ XK XL XM XN XO XP XQ XR XS XT XU XV XW XX XY XZ Xa Xb Xc Xd Xe Xf Xg Xh Xi Xj Xk Xl Xm Xn Xo Xp Xq Xr Xs Xt Xu Xv Xw Xx Xy Xz K0 K1 K2 K3 K4 K5 K6 K7 K8 K9 KA KB KC KD KE KF KG KH KI KJ KK KL KM KN KO KP KQ KR KS KT KU KV KW KX KY KZ Ka Kb Kc Kd Ke Kf Kg Kh Ki Kj Kk Kl Km Kn Ko Kp Kq Kr Ks Kt Ku Kv Kw Kx Ky Kz J0 J1 J2 J3 J4 J5 J6 J7 J8 J9 JA JB JC JD JE JF JG JH JI JJ JK JL JM JN JO JP JQ JR JS JT JU JV JW JX JY JZ Ja Jb Jc Jd Je Jf Jg Jh Ji Jj Jk Jl Jm Jn Jo Jp Jq Jr Js Jt Ju Jv Jw Jx Jy Jz G0 G1 G2 G3 G4 G5 G6 G7 G8 G9 GA GB GC GD GE GF GG GH GI GJ GK GL GM GN GO GP GQ GR GS GT GU GV GW GX GY GZ Ga Gb Gc Gd Ge Gf Gg Gh Gi Gj Gk Gl Gm Gn Gp Gq Gr Gs Gt Gu Gv Gw Gx Gy Gz F0 F1 F2 F3 F4 F5 F6 F7 F8 F9 FA FB FC FD FE:Value) (w':World),LpRel w w1 H q al nh be off ce g18 ze1 ze2 zg1 zg2 z3 M m0 t A Ak Ah c ck ch l ks hs YG w'->Q .normal ⟨#[Value.pointer (some ⟨H,0,none⟩),v1,v2,v3,v4,v5,v6,v7,v8,v9,Z0,Z1,Value.pointer (some ⟨q,0,none⟩),Value.int .i64 (al:Int),Z2,Z3,Z4,Value.slice (some ⟨be,off,none⟩) nh ce,Value.slice (some ⟨g18,0,none⟩) al al,YG,Value.int .i64 0,YH,YI,YJ,YK,YL,YM,YN,YO,Z5,Z6,Z7,Z8,Z9,ZA,ZB,ZC,ZD,ZE,ZF,ZG,ZH,ZI,ZJ,ZK,ZL,ZM,ZN,ZO,ZP,ZQ,ZR,ZS,ZT,ZU,ZV,ZW,ZX,ZY,ZZ,Za,Zb,Zc,Zd,Ze,Zf,Zg,Zh,Zi,Zj,Zk,Zl,Zm,Zn,Zo,Zp,Zq,Zr,Zs,Zt,Zu,Zv,Zw,Zx,Zy,Zz,Y0,Y1,Y2,Y3,Y4,Y5,Y6,Y7,Y8,Y9,YA,YB,YP,YQ,YR,YS,YT,YU,YV,YW,YX,YY,YZ,Ya,Yb,Yc,Yd,Ye,Yf,Yg,Yh,Yi,Yj,Yk,Yl,Ym,Yn,Yo,Yp,Yq,Yr,Ys,Yt,Yu,Yv,Yw,Yx,Yy,Yz,X0,X1,X2,X3,X4,X5,X6,X7,X8,X9,XA,XB,XC,XD,XE,XF,XG,XH,XI,XJ,XK,XL,XM,XN,XO,XP,XQ,XR,XS,XT,XU,XV,XW,XX,XY,XZ,Xa,Xb,Xc,Xd,Xe,Xf,Xg,Xh,Xi,Xj,Xk,Xl,Xm,Xn,Xo,Xp,Xq,Xr,Xs,Xt,Xu,Xv,Xw,Xx,Xy,Xz,K0,K1,K2,K3,K4,K5,K6,K7,K8,K9,KA,KB,KC,KD,KE,KF,KG,KH,KI,KJ,KK,KL,KM,KN,KO,KP,KQ,KR,KS,KT,KU,KV,KW,KX,KY,KZ,Ka,Kb,Kc,Kd,Ke,Kf,Kg,Kh,Ki,Kj,Kk,Kl,Km,Kn,Ko,Kp,Kq,Kr,Ks,Kt,Ku,Kv,Kw,Kx,Ky,Kz,J0,J1,J2,J3,J4,J5,J6,J7,J8,J9,JA,JB,JC,JD,JE,JF,JG,JH,JI,JJ,JK,JL,JM,JN,JO,JP,JQ,JR,JS,JT,JU,JV,JW,JX,JY,JZ,Ja,Jb,Jc,Jd,Je,Jf,Jg,Jh,Ji,Jj,Jk,Jl,Jm,Jn,Jo,Jp,Jq,Jr,Js,Jt,Ju,Jv,Jw,Jx,Jy,Jz,G0,G1,G2,G3,G4,G5,G6,G7,G8,G9,GA,GB,GC,GD,GE,GF,GG,GH,GI,GJ,GK,GL,GM,GN,GO,GP,GQ,GR,GS,GT,GU,GV,GW,GX,GY,GZ,Ga,Gb,Gc,Gd,Ge,Gf,Gg,Gh,Gi,Gj,Gk,Gl,Gm,Gn,Gp,Gq,Gr,Gs,Gt,Gu,Gv,Gw,Gx,Gy,Gz,F0,F1,F2,F3,F4,F5,F6,F7,F8,F9,FA,FB,FC,FD,FE,YC,YD,YE,YF],[]⟩ w'
theorem sw_loop (w w1:World) (H q al nh be off ce a5 a4 a6 a2 a3 z3 M m0:Nat) (t:Int) (A Ak Ah:Option Addr) (c ck ch:Nat) (l:List Mk) (ks:List Int) (hs:List (List Int)) (sd:Nat) (W:World) {v1 v2 v3 v4 v5 v6 v7 v8 v9 mA me n6 o0 mv sr pp gw oo oA mu mg o1 mB mH nC mf mD o2 n4 m5 nG n7 ni ny m6 mi nj m4 kt kA m7 nD mo nz o3 mE kG kB mz kE mw mh nw o4 mG mq m9 mF m2 ky na nE ns kw n1 ng mb kC nF m8 kD mr my kH nt ku nq nx nu mj np nH nB n2 n9 nf ms m1 mn mx o5 y8 pG hf bs ct fA ga i6 gx br jm cj iz kq hu cn jD jr jB gd jt ia d8 kr dx cB d0 dG gy bC k0 h7 bA fg j3 j9 ko jq dH im hH cA g9 iC ai fh hy aj h3 ji cx cv dn jz gH h9 gF fC ah h2 cC co c8 g7 k3 hw aA c7 ki bu du jE cp h5 av dd jn cf dz fe i9 aD az aH cr f7 ge gA ba kg ip j4 fi dg ih ht gB j0 j6 b9 iD g0 dB ju ha ix k4 fD cq fF b3 fd dh dr bB d1 gv cD ar d5 jy b8 fa d3 f8 iq bt je gp fv f1 dA ay jo ij fb hA dj iu hq cF f9 fy bG jg jv bp jf fq bh gt aq cE k1 cb dk iB bi k8 j7 iy bv aC k9 b5 jc hE iA da kh jG io dF jd bF ic ff i5 gC ka f2 jx ja gD jj an gj g2 ib j1 gm cu ie hG gc fp bj g3 d7 jC hj di ke ft fB h0 kj iH d9 bE iw ii ax f5 b0 bn cw j2 kp bf jp i2 ir k7 fw jH aw jw dy bw fx k2 d4 gE jh i8 dD i1 i4 d2 kn gu bD dq h8 bz k5 fH hF cc cy h6 aG bq h4 iF b4 jA ao c6 hh g1 ca jb js bm b6 cz c9 ik j5 b7 hn ig i3 dC it g6 jF fc g8 iE iG fE dw i7 iv cG fj c0 f6 kb he bo ak j8 cg cH aE a9 ac af ad:Value} (Q:Exit->Act->World->Prop)
 (HE:Q9 (TDe w w1 H q t (.slice A al c) (.slice Ak nh ck) (.slice Ah nh ch) (.slice none 0 0) (.slice none 0 0) [] (.slice (some ⟨be,off,none⟩) nh ce) hs (.slice (some ⟨a5,0,none⟩) al al) (List.replicate al 0) (.slice none 0 0) [] a4 a6 a2 a3 z3 sd (M+1) W∧R3 t l ks hs [] hs (List.replicate al 0) []))
 (gg:Nat) (HM:Q9 (w.heap.size<=gg∧OwnM w1 (gg+1) (.slice A al c) l∧(∃ o,w1.heap[q]?=some (Obj.cells o 29 (0,0)))∧check t l=0∧al=l.length∧ks.length=nh))
 (gG:nh<=3) (gh:al<=5) (k6:0<al) (yA:0<nh) (oh:m0<=6) (yB:M<=4611686018000010000)
 (HQ:LpQ w w1 H q al nh be off ce a5 a4 a6 a2 a3 z3 M m0 t A Ak Ah c ck ch l ks hs v1 v2 v3 v4 v5 v6 v7 v8 v9 mA me n6 o0 mv mB mH nC mf mD o2 n4 m5 nG n7 ni ny m6 mi nj m4 kt kA m7 nD mo nz o3 mE kG kB mz kE mw mh nw o4 mG mq m9 mF m2 ky na nE ns kw n1 ng mb kC nF m8 kD mr my kH nt ku nq nx nu mj np nH nB n2 n9 nf ms m1 mn mx o5 a9 ac af ad Q):Code.wp Tryz.prog lpCode Q ⟨#[Value.pointer (some ⟨H,0,none⟩),v1,v2,v3,v4,v5,v6,v7,v8,v9,mA,me,Value.pointer (some ⟨q,0,none⟩),Value.int .i64 (al:Int),n6,o0,mv,Value.slice (some ⟨be,off,none⟩) nh ce,Value.slice (some ⟨a5,0,none⟩) al al,Value.slice none 0 0,Value.int .i64 (m0:Int),sr,pp,gw,oo,oA,mu,mg,o1,mB,mH,nC,mf,mD,o2,n4,m5,nG,n7,ni,ny,m6,mi,nj,m4,kt,kA,m7,nD,mo,nz,o3,mE,kG,kB,mz,kE,mw,mh,nw,o4,mG,mq,m9,mF,m2,ky,na,nE,ns,kw,n1,ng,mb,kC,nF,m8,kD,mr,my,kH,nt,ku,nq,nx,nu,mj,np,nH,nB,n2,n9,nf,ms,m1,mn,mx,o5,y8,pG,hf,bs,ct,fA,ga,i6,gx,br,jm,cj,iz,kq,hu,cn,jD,jr,jB,gd,jt,ia,d8,kr,dx,cB,d0,dG,gy,bC,k0,h7,bA,fg,j3,j9,ko,jq,dH,im,hH,cA,g9,iC,ai,fh,hy,aj,h3,ji,cx,cv,dn,jz,gH,h9,gF,fC,ah,h2,cC,co,c8,g7,k3,hw,aA,c7,ki,bu,du,jE,cp,h5,av,dd,jn,cf,dz,fe,i9,aD,az,aH,cr,f7,ge,gA,ba,kg,ip,j4,fi,dg,ih,ht,gB,j0,j6,b9,iD,g0,dB,ju,ha,ix,k4,fD,cq,fF,b3,fd,dh,dr,bB,d1,gv,cD,ar,d5,jy,b8,fa,d3,f8,iq,bt,je,gp,fv,f1,dA,ay,jo,ij,fb,hA,dj,iu,hq,cF,f9,fy,bG,jg,jv,bp,jf,fq,bh,gt,aq,cE,k1,cb,dk,iB,bi,k8,j7,iy,bv,aC,k9,b5,jc,hE,iA,da,kh,jG,io,dF,jd,bF,ic,ff,i5,gC,ka,f2,jx,ja,gD,jj,an,gj,g2,ib,j1,gm,cu,ie,hG,gc,fp,bj,g3,d7,jC,hj,di,ke,ft,fB,h0,kj,iH,d9,bE,iw,ii,ax,f5,b0,bn,cw,j2,kp,bf,jp,i2,ir,k7,fw,jH,aw,jw,dy,bw,fx,k2,d4,gE,jh,i8,dD,i1,i4,d2,kn,gu,bD,dq,h8,bz,k5,fH,hF,cc,cy,h6,aG,bq,h4,iF,b4,jA,ao,c6,hh,g1,ca,jb,js,bm,b6,cz,c9,ik,j5,b7,hn,ig,i3,dC,it,g6,jF,fc,g8,iE,iG,fE,dw,i7,iv,cG,fj,c0,f6,kb,he,bo,ak,j8,cg,cH,aE,a9,ac,af,ad],[]⟩ W:=by
 conv=>arg 2;whnf
 go_upto_region 17 with (fail)
 go_loopg [19,20] m0 (fun gg FF FG wr=>FG=.int .i64 gg∧gg<=m0∧∃ vd ds gs a1 whose zr,TDe w w1 H q t (.slice A al c) (.slice Ak nh ck) (.slice Ah nh ch) vd vd ds (.slice (some ⟨be,off,none⟩) nh ce) gs (.slice (some ⟨a5,0,none⟩) al al) a1 FF whose a4 a6 a2 a3 z3 zr (M+1+1000*(m0-gg)) wr∧R3 t l ks hs ds gs a1 whose∧ds.length+gg=m0)
 case atStart=>exact⟨rfl,zL9 _,.slice none 0 0,[],hs,_,[],_,HE.o.1.mono (by omega),HE.o.2,by simp⟩
 case round =>
  obtain⟨rfl,yD,vd,ds,gs,a1,whose,zr,hT,hR,fG⟩:=hrel;by_cases hpos:0<gk
  ·have kF:(0:Int)<(gk:Int):=by omega
   obtain⟨M3,fo⟩:∃ M3,M3=M+1+1000*(m0-gk):=⟨_,rfl⟩;rw[<-fo] at hT;have i0:M3<=4611686018000030000:=by omega
   have nm:=hT.dl.hd;obtain⟨y0,y1,y2,y3,y4⟩:=blk5 hT.box;have am:=hT.grid;have kx:∀ r∈gs,r.length<=1000∧∀ x∈r,-100000<=x∧x<=100000:=fun r hr=>⟨(hR.elt r hr).1,fun x hx=>⟨((hR.elt r hr).2 x hx).1,by have:=((hR.elt r hr).2 x hx).2;omega⟩⟩
   have ua:=zQ9 (zA9 am.1 (zA9 kx am.2.2.2));have HR:=zQ9 (zA9 hT (zA9 hR (zA9 fG fo)));have mC:=j1l H M3 ((nh:Int)-1) wr nm (by omega) (by omega)
   clear hT hR fG fo am kx;go_upto_region 20 with (go_at_call 12;refine mC.mono ?_;rintro e w2 ⟨f,rfl,tx,jk⟩)
   have aF:f<nh:=by omega
   have ag:=HR.o.1.dealt jk;have ae:=jk.hd;have n8:=ag.grid.1;obtain⟨x0,x1,x2,x3,x4⟩:=blk5 ag.box;have uh:=zQ9 ag;clear ag jk mC y0 y1 y2 y3 y4 nm tx;have nA:=k0q H (M3+1) (some ⟨be,off,none⟩) nh ce f gs w2 ae (by omega) n8 aF (by omega) ua.o.2.1
   go_upto_region 21 with (go_at_call 73;refine nA.mono ?_;rintro e w3 ⟨ho,rfl,kz,aB⟩)
   have n3:=uh.o.dealt aB;have aa:=aB.hd;have vs:=zQ9 kz;have y5:=zQ9 n3;clear n3 aB nA x0 x1 x2 x3 x4 ae n8 kz;have m3:=j1f H (M3+1+1) 1 7 w3 aa (by omega) (by omega) (by omega)
   go_upto_region 22 with (go_at_call 50;refine m3.mono ?_;rintro e w4 ⟨kd,rfl,ug,sp,nv⟩)
   have mt:=y5.o.dealt nv;have ma:=zQ9 mt;have t3:1<=kd∧kd<=7:=by omega
   clear mt nv m3 aa ug sp;go_upto_block 6 with fail
   obtain⟨p,hp⟩:∃ p,p=w4.heap.size:=⟨_,rfl⟩;obtain⟨W4,hW⟩:∃ W4,W4=w4.alloc (.cells #[.int .i64 6,.int .i64 (f:Int),.int .i64 0,.int .i64 0,.int .i64 0,.int .i64 0,.int .i64 0,.int .i64 0,.bool false,.bool false,.int .i64 0,.int .i64 0] 33):=⟨_,rfl⟩;have a7:RD w w1 H q t (.slice A al c) (.slice Ak nh ck) (.slice Ah nh ch) vd vd ds (.slice (some ⟨be,off,none⟩) nh ce) gs (.slice (some ⟨a5,0,none⟩) al al) a1 u19 whose a4 a6 a2 a3 z3 zr (M3+1+1+1) p ⟨6,f,0,0,0,0,0,sZ⟩ W4:=by
    rw[hW,hp];exact⟨ma.o.alloc _,j0c rfl,by have:=ma.o.zz;omega⟩
   rw[<-hW,<-hp];have pt:=zQ9 a7;have ts:=a7.td.dl.hd;clear hW hp a7;go_cut [23,26,27,28] from 98 to 386 (fun gw mu mg o1 wx=>∃ (ow:Int) (d:De) (a8:List (List Int)) (a0:List Int),gw=.int .i64 ow∧RD w w1 H q t (.slice A al c) (.slice Ak nh ck) (.slice Ah nh ch) vd vd ds (.slice (some ⟨be,off,none⟩) nh ce) a8 (.slice (some ⟨a5,0,none⟩) al al) a0 u19 whose a4 a6 a2 a3 z3 zr (M3+500) p d wx∧R3 t l ks hs (ds++[d]) a8 a0 (whose++[ow]))
   case first=>as_aux_lemma =>
    have HC:=zQ9 (SwC.mk' (al:=al) (nh:=nh) (f:=f) HR.o.2.1 (by have:=HR.o.2.2.1;omega) HM.o.2.2.2.2.2 HM.o.2.2.2.2.1.symm aF vs.o)
    have oq:=HC.o.sb;refine sw_all w w1 W4 H q p f al nh be off ce a5 a4 a6 a2 a3 z3 zr M3 t ho kd _ vd A Ak Ah c ck ch l ks hs gs ds a1 whose _ pt HC aF gG gh k6 i0 ts oq t3 gg HM.o.1 HM.o.2.1 HM.o.2.2.1 HM.o.2.2.2.1 ?_;intro yC yE z1 z2 yF yH th s4 uB yf p9 p1 uC qq oe uc t5 pg rz rv pm tB yc ou vy t4 vc qp rn rk ut tt oD od sy oB qk rr pb oE rC qi oH u8 p8 qt qy sH oj qA qf uE vq sD rg so tG rj rE pD re p7 qm pC u3 tb ps tu vf uG s3 uw oy oG yn ym sG ov sm sw qG sA tC sF sC qb sq q1 q7 se y7 tH uu q5 rs yi yt r2 qF u5 o6 tE vi ve rB p4 sj tn yh vG pd p6 yp uf yb s5 vD vu pv r6 u7 vb ox pj pf tD t9 rD ta vn o8 q4 ru ub tj uD rd y6 yo t2 uF qz yk qH r7 yg t6 qC tc t8 pE qg o7 yv s6 rq sE ui q8 q3 pA ys tm pn o9 po vH uq qs vt rc rx vA q0 pw q6 sk pr r1 qe om qD vv u4 tz pa u9 r8 qu rG tA yu qd vg uv u0 vx p2 uH tw r0 r4 vw qn py vF rF t1 p3 rm si sB s9 rA qE r3 sf tp qh yw s7 yz qo ya qr sv rH ux yj r9 vE r5 ur ri vp tk vr tF un oF ud te t0 vj ro rh vB oi yd rt ra yr vz tq t7 vC sn u6 qj ye yx va ry pF pq pc uo s8 tf q9 sa pB s2 yy oa uj um pi qw uz oc ph ot qv p5 yq u2 u1 q2 sg sc rp ue w' hrel;go_wp2_with fail
    go_meet
    case rel=>exact hrel
   case rest =>
    obtain⟨ow,d,a8,a0,rfl,a7,nr⟩:=hcut;have oC:ds.length<4294967296:=by have:=HR.o.2.2.1;omega
    have oz:whose.length<4294967296:=by have:=HR.o.2.1.ti.wn;omega
    have HD:=zQ9 a7;have qx:=zQ9 nr;have HN:=zQ9 (zA9 (show gk-1<=m0 by omega) (zA9 (show M3+500<=M+1+1000*(m0-(gk-1)) by have:=HR.o.2.2.2;omega) (show ds.length+1+(gk-1)=m0 by have:=HR.o.2.2.1;omega)))
    clear a7 nr;go_upto_region 45 with fail
    refine sw_rest w w1 wc H q p a4 a6 a2 a3 z3 zr (M3+500) t ow _ _ _ vd _ _ ds d a8 a0 whose _ HD oC oz ?_;intro g4 c4 g5 c5 pu vo uy uA sx us qB qa y9 v0 qc w' nb;have px:=zQ9 nb;clear nb;go_wp2_with fail
    go_roundg (gk-1)
    case measure=>clear HD HR HE;omega
    case rel=>exact⟨by go_num,HN.o.1,.slice (some ⟨g4,0,none⟩) (ds.length+1) c4,ds++[d],a8,a0,whose++[ow],pu,px.o.mono HN.o.2.1,qx.o,by rw[List.length_append,List.length_singleton];exact HN.o.2.2⟩
  ·obtain rfl:gk=0:=by omega
   have yG:¬(0:Int)<((0:Nat):Int):=by omega
   have pe:=zQ9 (show LpRel w w1 H q al nh be off ce a5 a4 a6 a2 a3 z3 M m0 t A Ak Ah c ck ch l ks hs u19 wr from⟨vd,ds,gs,a1,whose,zr,hT,hR,by omega⟩)
   clear hT hR fG;go_wp2_with fail
   exact HQ _ _ _ _ _ _ _ _ _ _ _ _ _ _ _ _ _ _ _ _ _ _ _ _ _ _ _ _ _ _ _ _ _ _ _ _ _ _ _ _ _ _ _ _ _ _ _ _ _ _ _ _ _ _ _ _ _ _ _ _ _ _ _ _ _ _ _ _ _ _ _ _ _ _ _ _ _ _ _ _ _ _ _ _ _ _ _ _ _ _ _ _ _ _ _ _ _ _ _ _ _ _ _ _ _ _ _ _ _ _ _ _ _ _ _ _ _ _ _ _ _ _ _ _ _ _ _ _ _ _ _ _ _ _ _ _ _ _ _ _ _ _ _ _ _ _ _ _ _ _ _ _ _ _ _ _ _ _ _ _ _ _ _ _ _ _ _ _ _ _ _ _ _ _ _ _ _ _ _ _ _ _ _ _ _ _ _ _ _ _ _ _ _ _ _ _ _ _ _ _ _ _ _ _ _ _ _ _ _ _ _ _ _ _ _ _ _ _ _ _ _ _ _ _ _ _ _ _ _ _ _ _ _ _ _ _ _ _ _ _ _ _ _ _ _ _ _ _ _ _ _ _ _ _ _ _ _ _ _ _ _ _ _ _ _ _ _ _ _ _ _ _ _ _ _ _ _ _ _ _ _ _ _ _ _ _ _ _ _ _ _ _ _ _ _ _ _ _ _ _ _ _ _ _ _ _ _ _ _ pe.o
theorem q4d {t:Int} {mk:Mk} (h:check t []=0) (hm:mkOk mk=true):check t [mk]=0:=by
 unfold check at h ⊢
 split at h
 ·cases h
 ·rename_i h1;rw[if_neg h1,if_neg (by simp)]
  simp[chk,hm]
theorem k5l (H N n nf nd:Nat) (w:World) (h:Hd w H N) (hN:N<=4611686018000000000) (hn:n<=5) (qb:nf<=3) (gu:nd<=6) :
 Calls Tryz.prog 20 #[.pointer (some ⟨H,0,none⟩),.int .i64 n,.int .i64 nf,.int .i64 nd] w (TaleR w H (N+100000) n nf nd):=by
 have om:=h.lt;obtain⟨g,hg⟩:∃ g,g=w.heap.size:=⟨_,rfl⟩;obtain⟨V,hV⟩:∃ V,V=w.alloc (Obj.cells #[.int .i64 0,.slice none 0 0,.slice none 0 0,.slice none 0 0,.slice none 0 0] 29):=⟨_,rfl⟩;have cn:Dealt w V H N:=by rw[hV];exact(Dealt.refl h).alloc _
 have b0:V.heap[g]?=some (boxO 0 (.slice none 0 0) (.slice none 0 0) (.slice none 0 0) (.slice none 0 0)):=by rw[hV,hg];exact j0c rfl
 have d8:V.heap.size=g+1:=by rw[hV,hg];simp
 have HV:=zQ9 (zA9 cn (zA9 b0 (zA9 d8 hg)));have aH:=k5x H N n V cn.hd (by omega) hn
 go_enter Tryz.func20,Tryz.ntmps20
 go_upto_region 1 with (fail)
 rw[<-hV,<-hg];clear hV cn b0 d8;rw[<-hg] at om;clear hg;go_upto_region 2 with (go_at_call 70;refine aH.mono ?_;rintro e w1 ⟨t,l,A,c,rfl,aA,aF,az,bn,b3,b6,ad⟩)
 obtain⟨q,hq⟩:∃ q,q=w1.heap.size:=⟨_,rfl⟩;obtain⟨w2,ax⟩:∃ w2,w2=w1.alloc (.cells #[.int .i64 t,.slice A l.length c,.slice none 0 0,.slice none 0 0,.slice none 0 0] 29):=⟨_,rfl⟩;have cf:Dealt w w2 H (N+100):=by rw[ax];exact(HV.o.1.trans ad).alloc _
 have d0:w2.heap[g]?=some (boxO 0 (.slice none 0 0) (.slice none 0 0) (.slice none 0 0) (.slice none 0 0)):=by rw[ax];exact j0b (ad.blk HV.o.2.1 (by omega)) _
 have c4:w2.heap[q]?=some (boxO t (.slice A l.length c) (.slice none 0 0) (.slice none 0 0) (.slice none 0 0)):=by rw[ax,hq];exact j0c rfl
 have aE:OwnM w2 (g+1) (.slice A l.length c) l:=by rw[ax,<-HV.o.2.2.1];exact az.alloc _
 have d4:g<q:=by have:=ad.size;have:=HV.o.2.2.1;omega
 rw[<-ax,<-hq];have H2:=zQ9 (zA9 cf (zA9 d0 (zA9 c4 (zA9 aE (zA9 aA (zA9 aF (zA9 b3 b6)))))));obtain⟨y0,y1,y2,y3,y4⟩:=blk5 c4;have aq:=cf.hd;clear ax hq cf d0 c4 aE aA aF b3 b6 bn az ad aH;obtain⟨m,hm⟩:∃ m,m=l.length:=⟨_,rfl⟩;rw[<-hm] at y1 ⊢;have HM:=zQ9 hm;clear hm;go_upto_if 37 with (fail)
 go_cut [] from 29 to 46 (fun wx=>∃ l' c9,wx.heap[q]?=some (boxO t c9 (.slice none 0 0) (.slice none 0 0) (.slice none 0 0))∧OwnM wx (g+1) c9 l'∧check t l'=0∧0<l'.length∧(l'.length<=n∨l'.length=1)∧wx.heap[g]?=some (boxO 0 (.slice none 0 0) (.slice none 0 0) (.slice none 0 0) (.slice none 0 0))∧Dealt w wx H (N+120))
 case first =>
  by_cases h0:m=0
  ·have x0:((m:Int)==0)=true:=by simp[h0]
   subst h0;have bu:l=[]:=zC1 HM.o.symm;have b4:OwnM w2.drew (g+1) (.slice A 0 c) []:=by
    have:=H2.o.2.2.2.1;rw[bu] at this;exact this.below (j0w (zB2 _ _)) (zL9 _)
   have d7:=zQ9 b4;have ij:=zQ9 (show Hd w2.drew H (N+100) from aq.kept fun _ _=>rfl)
   have pw:=zQ9 d4;have mB:=j0a H2.o.2.2.1;have pt:=zQ9 mB;have cx:w2.drew.heap[q]?=some (boxO t (.slice A 0 c) (.slice none 0 0) (.slice none 0 0) (.slice none 0 0)):=by
    have:=H2.o.2.2.1;rw[<-HM.o] at this;exact this
   have ph:=zQ9 cx;clear b4 bu cx aq;go_wp2_with fail
   go_region_law (first
    | (go_simp;go_at_call 71;refine(k4s H (N+100) _ ij.o (by omega)).mono ?_;rintro e w3 ⟨mk,rfl,av,a4⟩;unfold vMk;have a5:=a4.blk ph.o (by omega);obtain⟨y0,y1,y2,y3,y4⟩:=blk5 a5;have o5:=j0a a5;have pB:g+1<=w3.heap.size:=(by have:=a4.size;have:w2.drew.heap.size=w2.heap.size:=rfl;omega);have a3:=d7.o.kept a4.gr (.inr (fun e=>by have:=d7.o.lt _ e;omega)))
    | (refine k3x k1q (by rfl) _ _ (by rfl) (g+1) (.slice A 0 c) [] mk #[.int .i64 mk.n,.int .i64 mk.b,.int .i64 mk.p] w3.heap.size (by rfl) (by rfl) (heap_alloc_new w3 _) rfl rfl (j9r _) (a3.alloc _) (by decide) (by decide) (by simp;omega) ?_;intro g4 ou w4 a0 a7 bp;have a6:=(a7.block q (j0a (j0b a5 _)) (fun e=>(a3.alloc (Obj.cells #[.int .i64 mk.n,.int .i64 mk.b,.int .i64 mk.p] 117)).ne' (j0b a5 _) (by decide) e.symm)).trans (j0b a5 _);have kF:=frz a6 1;clear y0 y1 y2 y3 y4;obtain⟨y0,y1,y2,y3,y4⟩:=blk5 a6))
   all_goals
    have HZ:=zQ9 (zA9 av (zA9 a4 (zA9 a5 (zA9 a3 (zA9 a0 (zA9 a7 a6))))));clear av a4 a5 a3 a0 a7 a6 bp kF y0 y1 y2 y3 y4;go_wp2_with fail
    go_meet
    case rel =>
     obtain⟨av,a4,a5,a3,a0,a7,a6⟩:=HZ.o;have pv:=HV.o.2.2.2;have c8:∀ k,(Value.slice A 0 c).ownBlock=some k->g+1<=k:=fun k e=>(a3.lt k e).1
     refine⟨[mk],_,(j0g a6).trans rfl,a0.kept (j0l _ _ _ _) (.inr (a0.ne' a6 (by decide))),q4d ?_ av,by simp,.inr rfl,?_,?_⟩
     ·have:=H2.o.2.2.2.2.1
      rwa [zC1 HM.o.symm] at this
     ·have h3:=a4.blk (show w2.drew.heap[g]?=_ from H2.o.2.1) (by omega)
      have h4:=(a7.block g (j0a (j0b h3 _)) (fun e=>by have:=c8 g e.symm;omega)).trans (j0b h3 _)
      exact(zB1 _ ⟨q,1,none⟩ _ _ (by show g≠q;omega)).trans h4
     ·refine Dealt.set (Dealt.ownG (((H2.o.1.drewN 1).trans a4).alloc _) a7 fun k e=>⟨by have:=c8 k e;omega,by have:=c8 k e;omega⟩) (by show H<q;omega) (by show w.heap.size<=q;omega) _ |>.mono (by omega)
  ·have x0:((m:Int)==0)=false:=beq_eq_false_iff_ne.2 (by omega)
   go_wp2_with fail
   go_meet
   case rel =>
    exact⟨l,.slice A l.length c,H2.o.2.2.1,H2.o.2.2.2.1,H2.o.2.2.2.2.1,by have:=HM.o;omega,.inl H2.o.2.2.2.2.2.1,H2.o.2.1,H2.o.1.mono (by omega)⟩
 case rest =>
  clear H2 y0 y1 y2 y3 y4 HM aq;obtain⟨l',c9,bj,az,aA,bu,aF,cB,hD⟩:=hcut;clear l A c m;obtain⟨A,c,rfl,bn,b3,b6,cH⟩:=az.formZ j2h;obtain⟨al,bs⟩:∃ al,al=l'.length:=⟨_,rfl⟩;rw[<-bs] at bj;have ac:al<=5:=by rw[bs];exact(j2d aA).2.2.1
  have b8:0<al:=by omega
  obtain⟨y0,y1,y2,y3,y4⟩:=blk5 bj;have b9:=hD.hd;have H3:=zQ9 (zA9 bj (zA9 az (zA9 aA (zA9 bs (zA9 aF (zA9 cB (zA9 hD (zA9 bn (zA9 b3 (zA9 b6 cH))))))))));clear bj az aA bu bs aF cB hD bn b3 b6 cH;have cg:(nf:Int)<=3:=by omega
  have aD:¬(3:Int)<(nf:Int):=by omega
  have cA:=j1f H (N+120) 1 nf wc b9 (by omega) (by omega) (by omega)
  go_upto_region 6 with (go_at_call 50;refine cA.mono ?_;rintro e w3 ⟨x,rfl,dr,kB,a4⟩)
  obtain⟨k0,rfl⟩:=zB7 (show 0<=x by omega)
  have q6:1<=k0:=by omega
  have py:k0<=nf∨k0=1:=by omega
  clear cA dr kB;have dj:Dealt w w3 H (N+121):=H3.o.2.2.2.2.2.2.1.trans a4;have ay:=a4.blk H3.o.1 (by omega)
  have cz:=a4.blk H3.o.2.2.2.2.2.1 (by omega)
  have d2:=H3.o.2.1.kept a4.gr (.inr (fun e=>by have:=H3.o.2.1.lt _ e;omega))
  have H4:=zQ9 (zA9 dj (zA9 ay (zA9 cz d2)));have bm:=zQ9 HV.o.2.2.2;clear a4 dj ay cz d2 y0 y1 y2 y3 y4 b9 cg aD;have cC:(al:Int)<=5:=by omega
  go_loopg [14] k0 (fun gg Z2 wr=>Z2=.int .i64 gg∧gg<=k0∧∃ vk vh ks mv hs,TFl w H g q t (.slice A al c) vk vh (.slice none 0 0) (.slice A l'.length c) l' vk ks vh mv hs (.slice none 0 0) [] (N+200+100*(k0-gg)) wr∧ks.length+gg=k0∧hs.length=ks.length ∧
   (∀ k∈ks,0<=k∧k<al)∧(∀ r∈hs,r.length=al∧∀ x∈r,0<=x∧x<=4))
  case atStart =>
   exact⟨rfl,zL9 _,.slice none 0 0,.slice none 0 0,[],[],[],⟨by have:=bm.o;omega,d4,by have:=bm.o;omega,H4.o.2.1,H4.o.2.2.1,H4.o.2.2.2,Own.nil_,Own.nil_,⟨rfl,fun i v h=>by simp at h⟩,Own.nil_,(fun _ h=>nomatch h),(fun _ h=>nomatch h),j1y.nilL,H4.o.1.mono (by omega)⟩,
    by simp,rfl,(fun _ h=>nomatch h),(fun _ h=>nomatch h)⟩
  case round =>
   obtain⟨rfl,pA,vk,vh,ks,mv,hs,hT,bt,bh,ba,b5⟩:=hrel;by_cases hpos:0<gk
   ·have cw:(0:Int)<(gk:Int):=by omega
    obtain⟨M,hM⟩:∃ M,M=N+200+100*(k0-gk):=⟨_,rfl⟩;rw[<-hM] at hT;have HR:=zQ9 (zA9 hT (zA9 bt (zA9 bh (zA9 ba b5))));have b9:=hT.dl.hd;have bi:=b9.lt;have nE:k0<=3:=by omega
    have gy:M<=4611686018000010000:=by omega
    have bD:=zQ9 hM;clear hT bt bh ba b5 hM;go_wp2_with fail
    obtain⟨wo,ga⟩:∃ wo,wo=wr:=⟨_,rfl⟩;obtain⟨go,fc⟩:∃ go,go=gk:=⟨_,rfl⟩;subst ga fc;go_loopg [15,16] al (fun g2 Z3 Z4 wr=>∃ j:Nat,j+g2=al∧Z4=.int .i64 j∧(∃ row:List Int,OwnI wr wo.heap.size Z3 row∧row.length=j∧∀ x∈row,0<=x∧x<=4)∧Dealt wo wr H (M+3*j))
    case atStart=>exact⟨0,by omega,rfl,⟨[],Own.nil_,rfl,fun _ h=>nomatch h⟩,Dealt.refl b9⟩
    case round =>
     obtain⟨j,hj,rfl,⟨row,a8,aw,bf⟩,hD⟩:=hrel;by_cases hlt:j<al
     ·have p3:(j:Int)<(al:Int):=by omega
      have HJ:=zQ9 (zA9 hj (zA9 a8 (zA9 aw (zA9 bf hD))));have da:=hD.hd;clear hj a8 aw bf hD;go_wp2_with fail
      refine(j1l H _ 2 _ da (by omega) (by omega)).mono ?_
      rintro e w1 ⟨a1,rfl,nz,ad⟩;have cp:=ad.hd;go_wp2_with fail
      refine(j1l H _ 4 _ cp (by omega) (by omega)).mono ?_
      rintro e w2 ⟨a2,rfl,iw,ao⟩;have co:=ao.hd;go_wp2_with fail
      refine(j4g H _ 0 (some ⟨w2.heap.size,0,none⟩) 2 2 [(a1:Int),(a2:Int)] _ (co.alloc _) (by omega) (ints2 w2 3 _ _) (fun b off e=>by cases e;have:=co.lt;omega) (by omega)).mono ?_
      rintro e w3 ⟨x,rfl,hx,a4⟩;have d3:0<=x∧x<=4:=by
       simp only[List.mem_cons,List.not_mem_nil,or_false] at hx;omega
      have aa:Dealt wo w3 H (M+3*(j+1)):=((((HJ.o.2.2.2.2.trans ad).trans ao).alloc _).trans a4).mono (by omega)
      have ae:OwnI w3 wo.heap.size u15 row:=((((HJ.o.2.1.row ad.gr (fun k e=>by cases e;exact bi)).row ao.gr (fun k e=>by cases e;exact bi)).alloc _).row a4.gr (fun k e=>by cases e;exact bi))
      have ca:wo.heap.size<=w3.heap.size:=aa.size;have cG:row.length<4294967296:=by have:=HJ.o.2.2.1;omega
      have HX:=zQ9 (zA9 d3 (zA9 aa ae));clear hx d3 aa ae ad ao a4 da cp co nz iw;go_wp2_with (at_builtin;refine j6b j3b rfl (.tmp 64) (.tmp 72) rfl wo.heap.size _ row x _ rfl rfl rfl rfl (j1x _) HX.o.2.2 ?_ ?_ ?_ ?_;(omega);(omega);(omega);intro v' w4 a0 bp cy kz;have bG:=zQ9 (zA9 a0 (zA9 bp (zA9 cy kz)));clear a0 bp cy)
      go_roundg (gk-1)
      case measure=>have:=HJ.o.1;omega
      case rel =>
       refine⟨j+1,by have:=HJ.o.1;omega,by go_num,⟨row++[x],bG.o.1,by simp[HJ.o.2.2.1],fun y hy=>?_⟩,?_⟩
       ·rcases List.mem_append.1 hy with h|h
        ·exact HJ.o.2.2.2.1 y h
        ·rw[List.mem_singleton.1 h];exact HX.o.1
       ·have hb:=bG.o.2.1;have aa:=HX.o.2.1;exact⟨aa.hd.below hb bi,⟨hb.os.trans aa.gr.os,hb.tape.trans aa.gr.tape,hb.output.trans aa.gr.output,zB6 ca bG.o.2.2.2,fun i hi hne=>(hb.block i hi).trans (aa.gr.block i hi hne)⟩⟩
     ·obtain rfl:j=al:=by omega
      obtain⟨am,aj,rfl,bB,cc,fy,j7⟩:=a8.formZ j0n;have hT:=(HR.o.1.rowIn hD a8).drew1;rw[aw] at hT;have cG:ks.length<4294967296:=by have:=HR.o.2.1;omega
      have bE:mv.length<4294967296:=by have:=HR.o.2.1;have:=HR.o.2.2.1;have:=hT.rw.1;omega
      obtain⟨y0,y1,y2,y3,y4⟩:=blk5 (HR.o.1.dealt hD).box;have HT:=zQ9 hT;have fh:=zQ9 (zA9 aw bf);clear hj a8 bf hD bB hT cc;rw[aw];clear aw;go_wp2_with fail
      have bq:H<wr.drew.heap.size:=HT.o.dl.hd.lt;have j5:M+3*j<=4611686018427387904:=by omega
      have HC:=zQ9 (fun(w':World) (hp:P13Z w wr.drew.heap.size H g q t (.slice A j c) vk vh (.slice none 0 0) (.slice A l'.length c) l' mv hs (.slice am j aj) row w')=>zA9 (box23 hp.box).1 (zA9 (box23 hp.box).2 (j0a hp.box)))
      refine j0q 14 0 0 [] [] 0 (T13 H vk vh) (P13 w wr.drew.heap.size H g q t (.slice A j c) vk vh (.slice none 0 0) (.slice A l'.length c) l' vk ks vh mv hs (.slice am j aj) row (M+3*j)) [0,0,0,0,0,1,0,2,0,0,0,0,3,0] (by as_aux_lemma=>kernel_rfl) (by as_aux_lemma=>kernel_rfl) (by as_aux_lemma=>kernel_rfl) (by as_aux_lemma=>kernel_rfl) (by omega) (.inl rfl) rfl rfl (fun k i w1 w2 hc _ hT hp=>P13.st HT.o k i w1 w2 hc hT hp) (fun k=>P13.start HT.o k) ?_
      apply zC2;refine⟨fun ys=>?_,fun ops K hK=>?_⟩
      ·simp only[List.take_succ_cons,List.take_zero,j0p,List.filterMap_cons,List.filterMap_nil,j0r];go_simp
       rfl
      simp only[List.take_succ_cons,List.take_zero,List.drop_succ_cons,List.drop_zero] at hK ⊢
      repeat
       refine LexT.const T13.rf ?_;apply zC2;refine⟨fun ys w' hp hpk hq hd=>?_,?_⟩
       ·try simp[j0d,j0f,DF.holds,Region.binds,EqF] at hd
        try simp only[hd]
        obtain⟨c2,c3,aB⟩:=HC.o w' hp;intro Q2 ak;go_wp2_with fail
        rfl
       try simp only[nl9]
      refine LexT.some (F13U H j (M+3*j+1)) (fun i v w1 w2 hc _ hT h=>F13U.st HT.o i v w1 w2 hc hT h) (fun ys w' hp hpk hq hd=>?_) ?_
      ·try simp[j0d,j0f,DF.holds,Region.binds,EqF] at hd
       try simp only[hd]
       intro Q2 ak;go_wp2_with fail
       refine(j1l H (M+3*j) ((j:Int)-1) _ hpk (by omega) (by omega)).mono ?_
       rintro e w2 ⟨x,rfl,hx,ao⟩;go_wp2
       exact⟨_,rfl,ao.gr,x,rfl,hx,ao.hd⟩
      try simp only[nl9]
      refine LexT.some (F13B H j vk vh) (fun i v w1 w2 hc _ hT h=>F13B.st i 0 v w1 w2 hc hT h) (fun ys w' hp hpk hq hd=>?_) ?_
      ·try simp[j0d,j0f,DF.holds,Region.binds,EqF] at hd
       try simp only[hd]
       obtain⟨x,g8,hx,-⟩:=hd;simp only[g8];have hz:wr.drew.heap.size<=w'.heap.size:=P13Z.sz hp;have HZ:=zQ9 (F13B.new (w:=w') (j:=j) HT.o hz hx);clear hx hz hp hpk;intro Q2 ak;go_wp2_with fail
       exact HZ.o
      try simp only[nl9]
      refine LexT.some (F13K H g j vh ks mv (.slice am j aj)) (fun i v w1 w2 hc _ hT h=>F13K.st i v w1 w2 hc hT h) (fun ys w' hp hpk hq hd=>?_) ?_
      ·try simp[j0d,j0f,DF.holds,Region.binds,EqF] at hd
       try simp only[hd]
       obtain⟨f8,hB,-⟩:=hd;obtain⟨k1,x,ky,hx,c0,-⟩:=hB;simp only[f8,ky];have hz:g+1<=w'.heap.size:=j0a (P13Z.bg hp);intro Q2 ak;refine j7t j3b rfl _ _ rfl (g+1) vk ks (x:Int) #[.int .i64 (x:Int)] k1 rfl rfl c0 rfl rfl (j1x _) hpk cG (by decide) hz ?_
       intro g' c' w4 ho af hl;have HZ:=zQ9 (F13K.new (j:=j) HT.o hp hx ho af hl);clear ho af hl hx hz hp hpk;go_wp2
       exact HZ.o
      try simp only[nl9]
      repeat
       refine LexT.const T13.rf ?_;apply zC2;refine⟨fun ys w' hp hpk hq hd=>?_,?_⟩
       ·try simp[j0d,j0f,DF.holds,Region.binds,EqF] at hd
        try simp only[hd]
        obtain⟨c2,c3,aB⟩:=HC.o w' hp;intro Q2 ak;go_wp2_with fail
        rfl
       try simp only[nl9]
      refine LexT.some (F13R H vk vh (.slice am j aj)) (fun i v w1 w2 hc _ hT h=>F13R.st i 0 v w1 w2 hc hT h) (fun ys w' hp hpk hq hd=>?_) ?_
      ·try simp[j0d,j0f,DF.holds,Region.binds,EqF] at hd
       try simp only[hd]
       have hz:wr.drew.heap.size<=w'.heap.size:=P13Z.sz hp;have HZ:=zQ9 (F13R.new (w:=w') HT.o hz);clear hz hp hpk;intro Q2 ak;go_wp2_with fail
       exact HZ.o
      try simp only[nl9]
      refine LexT.some (F13H H g vk mv (.slice am j aj)) (fun i v w1 w2 hc _ hT h=>F13H.st i v w1 w2 hc hT h) (fun ys w' hp hpk hq hd=>?_) ?_
      ·try simp[j0d,j0f,DF.holds,Region.binds,EqF] at hd
       try simp only[hd]
       obtain⟨f6,hB,-⟩:=hd;obtain⟨k1,fA,c0,-⟩:=hB;simp only[f6,fA];have hz:g+1<=w'.heap.size:=j0a (P13Z.bg hp);intro Q2 ak;refine j7t j8g rfl _ _ rfl (g+1) vh mv (.slice am j aj) #[.slice am j aj] k1 rfl rfl c0 rfl rfl (j6i rfl) hpk bE (by decide) hz ?_
       intro g' c' w4 ho af hl;have HZ:=zQ9 (F13H.new HT.o hp ho af hl);clear ho af hl hz hp hpk;go_wp2
       exact HZ.o
      try simp only[nl9]
      repeat
       refine LexT.const T13.rf ?_;apply zC2;refine⟨fun ys w' hp hpk hq hd=>?_,?_⟩
       ·try simp[j0d,j0f,DF.holds,Region.binds,EqF] at hd
        try simp only[hd]
        obtain⟨c2,c3,aB⟩:=HC.o w' hp;intro Q2 ak;go_wp2_with fail
        rfl
       try simp only[nl9]
      refine hK _ fun ys w' hp hF=>?_
      simp[AllF,DF.holds] at hF;obtain⟨-,-,-,-,-,f1,-,f2,-,-,-,-,f3,cr⟩:=hF;obtain⟨x,hx,an⟩:=P13.fin HT.o hp f1 f2 f3;obtain⟨g1,n1,c1,_,e1,_⟩:=f2;obtain⟨g2,n2,c2,e2,_⟩:=f3;rw[e1,e2] at an;simp only[cr,e1,e2];obtain⟨y0,y1,y2,y3,y4⟩:=blk5 an.box;obtain⟨z2,z3⟩:=zA9 (frz an.box 2) (frz an.box 3);have ct:=j0a an.box;have d9:=zQ9 (zA9 hx an);clear hx an e1 e2 cr f1 hp hK bq j5;go_wp2_with fail
      go_roundg (go-1)
      case measure=>omega
      case rel =>
       have pC:=bD.o;have bC:=HR.o;have ht:=((d9.o.2.set2 (.slice (some ⟨g1,0,none⟩) n1 c1)).set3 (.slice (some ⟨g2,0,none⟩) n2 c2)).mono (show M+3*j+1<=N+200+100*(k0-(go-1)) by omega)
       refine⟨by go_num,by omega,_,_,_,_,_,ht,by rw[List.length_append,List.length_singleton];omega,by rw[List.length_append,List.length_append,bC.2.2.1];rfl,fun k hk=>?_,fun r hr=>?_⟩
       ·rcases List.mem_append.1 hk with h|h
        ·exact bC.2.2.2.1 k h
        ·rw[List.mem_singleton.1 h];have:=d9.o.1;omega
       ·rcases List.mem_append.1 hr with h|h
        ·exact bC.2.2.2.2 r h
        ·rw[List.mem_singleton.1 h];exact fh.o
   ·obtain rfl:gk=0:=by omega
    have pF:¬(0:Int)<((0:Nat):Int):=by omega
    obtain⟨M,hM⟩:∃ M,M=N+200+100*(k0-0):=⟨_,rfl⟩;rw[<-hM] at hT;have gy:M<=4611686018000010000:=by omega
    obtain⟨Ah,ch,rfl,cj,bz,cq,gm⟩:=OwnG.formZ ⟨mv,hT.h,hT.rw⟩;obtain⟨Ak,ck,rfl,cE,d5,di,cb⟩:=Own.formZ hT.k j0n;obtain⟨nh,bo⟩:∃ nh,nh=hs.length:=⟨_,rfl⟩;have bw:ks.length=nh:=by omega
    rw[<-bo,bw] at hT;rw[<-bo] at cj bz;have c5:nh<=3:=by omega
    have bA:=fun w' (hb:Below wr.heap.size wr w')=>k1h Ah nh ch hs w' (cj.below hb (zL9 _)) (by omega) (fun r hr=>by have:=(b5 r hr).1;omega)
    have av:=fun W=>run_mkI W ac
    have dg:Below wr.heap.size wr wr.drew:=j0w (zB2 _ _);have b7:=bA wr.drew dg;have aG:=bA (wr.alloc (.cells (Array.replicate al (Value.int .i64 0)) 3)).drew (j0w (bal0 wr _));obtain⟨y0,y1,y2,y3,y4⟩:=blk5 hT.box;have ct:=j0a hT.box;have HT:=zQ9 (zA9 hT (zA9 bt (zA9 bh (zA9 ba (zA9 b5 (zA9 bo (zA9 bw (zA9 cE (zA9 d5 (zA9 di (zA9 bz cq)))))))))));have bD:=zQ9 hM;clear hT bt bh ba b5 hM bA dg cj bz cq gm bo bw cE d5 di cb;go_wp2_with fail
    go_cut [17,18] from 89 to 93 (fun bF FH wx=>∃ br ai ar ag ah z3,FH=.slice (some ⟨br,0,none⟩) al al∧TDe w wr H q t (.slice A al c) (.slice Ak nh ck) (.slice Ah nh ch) (.slice none 0 0) (.slice none 0 0) [] bF hs FH (List.replicate al 0) (.slice none 0 0) [] ai ar ag ah z3 wx.heap.size M wx)
    case first =>
     go_region_law (first
      | (go_simp;go_at_call 53;refine b7.mono ?_;rintro e w3 ⟨⟨bF,rfl,hE⟩,ay⟩)
      | (go_simp;go_at_call 53;refine aG.mono ?_;rintro e w3 ⟨⟨bF,rfl,hE⟩,ay⟩))
     all_goals
      have HE:=zQ9 hE;have cD:=zQ9 ay;clear hE ay;go_wp2_with fail
      go_meet
      case rel =>
       have h1:=bm.o;have bq:H<w.heap.size:=by omega
       first
        | (obtain⟨ai,ar,ag,ah,z3,h2⟩:=TDe.start1 HT.o.1 bq ((j0w (zB2 _ _)).trans cD.o) HE.o ac;exact⟨_,ai,ar,ag,ah,z3,rfl,h2⟩)
        | (obtain⟨ai,ar,ag,ah,z3,h2⟩:=TDe.start2 HT.o.1 bq ac cD.o HE.o;exact⟨_,ai,ar,ag,ah,z3,rfl,h2⟩)
    case rest =>
     obtain⟨br,ai,ar,ag,ah,z3,rfl,hE⟩:=hcut;obtain⟨w1,h9⟩:∃ w1,w1=wr:=⟨_,rfl⟩;subst h9;have cv:0<nh:=by have:=HT.o.2.1;have:=HT.o.2.2.2.2.2.2.1;omega
     have c7:R3 t l' ks hs [] hs (List.replicate al 0) []:=by
      have h1:=H3.o.2.2.2.1;rw[h1];have h2:=HT.o;exact R3.start (by omega) (by omega) (by omega) (by omega) h2.2.2.1 fun r hr=>⟨(h2.2.2.2.2.1 r hr).1.trans h1,(h2.2.2.2.2.1 r hr).2⟩
     obtain⟨be,off,ce,rfl⟩:=hE.place (show GSh al nh hs by have h1:=c7.sh;rwa [<-H3.o.2.2.2.1,HT.o.2.2.2.2.2.2.1] at h1) b8 cv
     have HE:=zQ9 (zA9 hE c7);have dd:=hE.dl.hd;have c6:(nd:Int)<=6:=by omega
     have aC:¬(6:Int)<(nd:Int):=by omega
     have d1:=j1l H M nd wc dd (by omega) (by omega)
     clear hE c7 b7 aG av y0 y1 y2 y3 y4 ct;go_upto_block 4 with (go_at_call 12;refine d1.mono ?_;rintro e w4 ⟨m0,rfl,hG,dh⟩)
     have bv:m0<=6:=by omega
     have ow:m0<=nd:=by omega
     have pe:=zQ9 (zA9 (HE.o.1.dealt dh) HE.o.2);clear dh d1 dd hG c6 aC;refine sw_loop w w1 H q al nh be off ce br ai ar ag ah z3 M m0 t A Ak Ah c ck ch l' ks hs _ w4 _ pe g (zQ9 ⟨by have:=bm.o;omega,by rw[H3.o.2.2.2.1];exact HT.o.1.m,⟨_,HT.o.1.box⟩,H3.o.2.2.1,H3.o.2.2.2.1,HT.o.2.2.2.2.2.2.1⟩) c5 ac b8 cv bv (by omega) ?_
     intro o9 pr ps pu q9 qa pD q5 q8 pE pG m1 jv ns p1 fv fe nt i5 dz mD kt fE jj jg g0 mf oF dF oh kr nD i4 j8 j4 nb m8 f9 dy ka f7 i0 jc fx fa jn hA ff mz ft i8 ie kn dB ih hh nv o6 kg j0 k5 mn j3 jp gt iH fq i1 gp mt kD g9 m9 nG nx ju nj f5 fd p9 p8 kj dG k3 k8 iq kb mg ki ke h8 k6 gB gH jD oB mo ng gF jd p5 pi iv ip mw dk mi nH nF jm fj jH m5 p4 oy fC fp pc mG oE jw ot oa gc iA my nC dH fH fD mh kA jo kC o2 dq gE jf mC m2 nu iG oA pa kq nw ig p7 ir iB p2 ku ik kE kx gv hu dn pm jx jb kh mH h5 gD gh pg m4 g3 du g5 oz n8 i7 o8 iF jh oj gx gd gG k2 g7 iu hf dC im oc mu mb fw mA iC i9 jr me pj he o0 ni mq oe fg ny ma it iy od i2 ge ox jq kp fi j6 jG kd jA jk io ix jE m6 hw pn jy pq i3 oD i6 k7 js nm p6 iD ov iz n9 j2 o4 m3 o7 mj n6 fb mE kG ko o1 j9 j1 oo dA oG je iE pf oi m7 kw oq k4 mx hH oH po nB ji gw g6 fB n7 jz kH h6 jB gj jt pp dw n3 n4 fG ic nq dx fF dD ib fo pd ms mr gC jF jC ja mF o3 np nr k9 na ii h7 oC nA ha wr hrel;obtain⟨vd,ds,gs,ia,whose,zr,hT,hR,cF⟩:=hrel;have a9:=hT.bg HT.o.1;obtain⟨Ad,cd,pb,-⟩:=hT.d.form j3k;subst pb;obtain⟨x0,x1,x2,x3,x4⟩:=blk5 hT.box;obtain⟨z0,z1,z2,q7,z4⟩:=blk5 a9;obtain⟨f0,f1,f2,f3,f4⟩:=zA9 (frz a9 0) (zA9 (frz a9 1) (zA9 (frz a9 2) (zA9 (frz a9 3) (frz a9 4))));have px:=j0a a9;have cu:=zQ9 (zA9 hT (zA9 hR (zA9 cF a9)));clear hT hR cF a9;go_wp2_with fail
     obtain⟨W,hW⟩:∃ W,W=(((((wr.setCell ⟨g,0,none⟩ (.int .i64 t)).setCell ⟨g,1,none⟩ (.slice A al c)).setCell ⟨g,2,none⟩ (.slice Ak nh ck)).setCell ⟨g,3,none⟩ (.slice Ah nh ch)).setCell ⟨g,4,none⟩ (.slice Ad ds.length cd)):=⟨_,rfl⟩;rw[<-hW];have gA:W.heap[g]?=some (boxO t (.slice A al c) (.slice Ak nh ck) (.slice Ah nh ch) (.slice Ad ds.length cd)):=by rw[hW];exact(j0g (j0g (j0g (j0g (j0g cu.o.2.2.2))))).trans (by simp;rfl)
     have af:wr.grownBy W (some g):=by rw[hW];exact((((j0l _ g _ _).trans (j0l _ g _ _)).trans (j0l _ g _ _)).trans (j0l _ g _ _)).trans (j0l _ g _ _)
     clear hW;obtain⟨q0,q1,q2,q3,q4⟩:=blk5 gA;have h2:=HT.o;have h4:=cu.o;refine bodyPost_ret (v:=.tuple #[.agg #[.int .i64 t,.slice A al c,.slice Ak nh ck,.slice Ah nh ch,.slice Ad ds.length cd],.slice (some ⟨be,off,none⟩) nh ce,.slice (some ⟨br,0,none⟩) al al,o9]) (by simp[results,Tryz.f20,go_sem,q0,q1,q2,q3,q4]) rfl ?_
     exact tale_end H3.o.2.2.2.1 h2.2.2.2.2.2.2.1.symm h2.2.2.2.2.2.1 h4.1 h4.2.1 h2.1 af H3.o.2.2.1 h2.2.2.2.1 h2.2.2.2.2.1 (by omega) H3.o.2.2.2.2.1 (by have:=h2.2.1;omega) (by omega) gu (by have:=bD.o;omega)
def j1r (n:Nat):Nat->List (List Int)
 | 0=>[[]]
 | m+1=>(List.range n).flatMap fun(i:Nat)=>(j1r n m).map fun r=>(i:Int)::r
def j9w (n m i:Nat):List (List Int):=(List.range i).flatMap fun(i:Nat)=>(j1r n m).map fun r=>(i:Int)::r
theorem q0o (n m i:Nat):j9w n m (i+1)=j9w n m i++(j1r n m).map fun r=>(i:Int)::r:=by
 unfold j9w;rw[List.range_succ,List.flatMap_append];simp
theorem k3h (n m:Nat):∀ i,(j9w n m i).length=i*(j1r n m).length
 | 0=>by simp[j9w]
 | i+1=>by rw[q0o,List.length_append,k3h n m i,List.length_map,Nat.succ_mul]
theorem k5n (n:Nat) (hn:n<=5):∀ m,(j1r n m).length<=5 ^ m
 | 0=>by simp[j1r]
 | m+1=>by
   have h1:(j1r n (m+1)).length=n*(j1r n m).length:=k3h n m n;have h2:=k5n n hn m;rw[h1,Nat.pow_succ,Nat.mul_comm (5 ^ m)];exact Nat.mul_le_mul hn h2
theorem q2d {m:Nat} (hm:m<=5):5 ^ m<=3125:=by
 have:=Nat.pow_le_pow_right (n:=5) (by omega) hm
 simpa using this
theorem j3t {n:Nat}:∀ {m:Nat} {r:List Int},r∈j1r n m->r.length=m∧∀ x∈r,0<=x∧x<n
 | 0,r,h=>by simp[j1r] at h;subst h;simp
 | m+1,r,h=>by
   obtain⟨i,hi,h2⟩:=List.mem_flatMap.1 h;obtain⟨q,hq,rfl⟩:=List.mem_map.1 h2;obtain⟨h3,h4⟩:=j3t hq;refine⟨by simp[h3],fun x hx=>?_⟩
   rcases List.mem_cons.1 hx with rfl|hx
   ·have:=List.mem_range.1 hi;omega
   ·exact h4 x hx
theorem OwnG.get {w:World} {base:Nat} {v:Value} {ls:List (List Int)} (h:OwnG w base v ls) {k:Nat} (hk:k<ls.length) :
 ∃ b off cap B l c,v=.slice (some ⟨b,off,none⟩) ls.length cap∧ls[k]?=some l∧w.cell? ⟨b,off+k,none⟩=some (.slice B l.length c)∧Ints w B l.length l∧l.length<=c∧c<=maxLen∧(B=none->c=0):=by
 obtain⟨mv,h1,h2,h3⟩:=h;obtain⟨A,c0,hv,hs,_,_⟩:=h1.form j2t;rw[h2] at hs hv;obtain⟨b,off,x,hA,hb,hx,hc⟩:=Vals.get hs hk;subst hA;obtain⟨l,hl,ho⟩:=h3 k x hx;obtain⟨B,c,a0,hi,h5,h6,h7⟩:=k1r ho j0n;subst a0;exact⟨b,off,c0,B,l,c,hv,hl,hc,hi,h5,h6,h7⟩
theorem OwnG.one (w:World) (base:Nat) (hb:base<=w.heap.size):OwnG (w.alloc (.cells #[.slice none 0 0] 25)) base (.slice (some ⟨w.heap.size,0,none⟩) 1 1) [[]]:=by
 refine⟨[.slice none 0 0],Own.lit w base _ [.slice none 0 0] rfl j2t hb (by simp[maxLen]),rfl,fun i v hv=>?_⟩
 cases i with
 | zero=>simp at hv;subst hv;exact⟨[],rfl,Own.nil_⟩
 | succ i=>simp at hv
def cntI (x:List Int) (o:Int):Nat:=x.countP (·==o)
end Go.Proofs.YtmennjmjakdkcaaGreat
