/- HerdParts. -/
import Derived.Test.YtmennjmjakdkcaaGreatPt15
import Derived.BigRegion
set_option linter.unusedVariables false
set_option linter.unusedSimpArgs false
set_option maxRecDepth 1000000
set_option maxHeartbeats 8000000
namespace Go.Proofs.YtmennjmjakdkcaaGreat
open Go.RowKit
theorem sw_lost1 (w w1 W:World) (H q p f al nh be off ce av aB aD az aA z3 zr M3:Nat) (t ho kd sm:Int) (vd:Value) (A Ak Ah:Option Addr) (c ck ch:Nat) (l:List Mk) (ks:List Int) (hs gs:List (List Int)) (ds:List De) (a3 whose:List Int) {v1 v2 v3 v4 v5 v6 v7 v8 v9 nu n1 nG oF np an nH gC pe pF nv nC oy n2 nx oG nF mA oC o3 oc ou mB n6 od mz m9 mi mC oz n9 ov oH nz mu mj nt mr nq n4 oq p1 nB na mG nA my mf o7 oA oi mb nD o9 mH mo oB mD mq ni ns mw oj ma oh ot oo n7 oe oE ox nE o5 o8 nm mx n8 nr p2 pC p6 i9 bG cC gj gH ix hn bF jH cw jd m6 ih cx kn k4 kh h4 k6 iB dy m7 f8 da dk fg ht ca kt i5 c8 fD jr jw m3 k3 fh j2 iq d9 gG jg aF fE ij aG i1 jF cG cE f1 ke hG i7 hE gp aE i0 dd cy cp gE kx ii ba co m0 c4 f6 ko cz i3 b5 dB k0 cv fa fB iA bh b9 bj cB fp h6 hr bu kG j4 js fF dC iG ig hu jo ju bt ji gx fc k7 i8 jb ky gt cA gv bn fy dD f5 c9 dn hh dg b4 dw kb bs fv dr fq j5 c0 jB ha ga fi fb b8 k1 j0 fw ik dG j8 ie di ft gh cj jD k8 bD jC g0 bw he b3 dh ku ct dH jf bz kB jv jc c5 bf kD br jz im je dA kH kr j3 ff jA cf iD fC iw hx kE fj ka jx hy jG aH h8 gA iC jp h9 cD iE ip h0 fH bB gB dx kj ib dF kF g9 gm hH m1 jn dz cc ja iH b7 fo bm bC cF jq m5 bv k2 it j6 kA gc kq b6 k9 f9 c6 ge kw du hA jE iz fe ir iv dq m2 hf cb f2 i6 c7 kz gw io cu cH i4 bi bE i2 jk bo kg b0 cn ia gy cr jy k5 bA bp d7 cq j1 jt bq ic iF iu fd j7 gD kp fx gF jj jm gu f7 iy j9 dj fG af aj ay ar ae a7 aw ah ai a9 ad ak ax am:Value} (Q:Exit->Act->World->Prop)
 (mn:Q9 (SwD w w1 H q t al nh be off ce av aB aD az aA z3 zr p A Ak Ah c ck ch vd ds gs a3 an whose (M3+1+1+1) ⟨6,f,0,0,0,0,0,sZ⟩ W)) (HC:Q9 (SwC t al nh f ho sm l ks hs ds gs a3 whose)) (aa:f<nh) (pn:nh<=3) (h7:al<=5) (pE:0<al) (po:M3<=4611686018000030000) (pp:Hd W H (M3+1+1+1)) (p4:0<=sm∧sm<=80)
 (hk:kd=4) (o:Nat) (pG:ho=o) (qc:o<al) (pA:1<=sm) (HM:LaidP (2<sm))
 (HQ:SwQ w w1 H q p f al nh be off ce av aB aD az aA z3 zr M3 t ho kd vd A Ak Ah c ck ch l ks hs ds whose v1 v2 v3 v4 v5 v6 v7 v8 v9 nu n1 nG oF np an nH nv nC oy n2 nx oG nF mA oC o3 oc ou mB n6 od mz m9 mi mC oz n9 ov oH nz mu mj nt mr nq n4 oq p1 nB na mG nA my mf o7 oA oi mb nD o9 mH mo oB mD mq ni ns mw oj ma oh ot oo n7 oe oE ox nE o5 o8 nm mx n8 nr p2 af aj ay ar ae a7 aw ah ai a9 ad ak ax am Q) :
 Code.wp Tryz.prog j3a Q ⟨#[Value.pointer (some ⟨H,0,none⟩),v1,v2,v3,v4,v5,v6,v7,v8,v9,nu,n1,Value.pointer (some ⟨q,0,none⟩),Value.int .i64 (al:Int),nG,oF,np,Value.slice (some ⟨be,off,none⟩) nh ce,Value.slice (some ⟨av,0,none⟩) al al,an,nH,Value.int .i64 (f:Int),Value.int .i64 ho,Value.int .i64 (-1),Value.int .i64 kd,Value.pointer (some ⟨p,0,none⟩),gC,pe,pF,nv,nC,oy,n2,nx,oG,nF,mA,oC,o3,oc,ou,mB,n6,od,mz,m9,mi,mC,oz,n9,ov,oH,nz,mu,mj,nt,mr,nq,n4,oq,p1,nB,na,mG,nA,my,mf,o7,oA,oi,mb,nD,o9,mH,mo,oB,mD,mq,ni,ns,mw,oj,ma,oh,ot,oo,n7,oe,oE,ox,nE,o5,o8,nm,mx,n8,nr,p2,pC,p6,i9,bG,cC,gj,gH,ix,hn,bF,jH,cw,jd,m6,ih,cx,kn,k4,kh,h4,k6,iB,dy,m7,f8,da,dk,fg,ht,ca,kt,i5,c8,fD,jr,jw,m3,k3,fh,j2,iq,d9,gG,jg,aF,fE,ij,aG,i1,jF,cG,cE,f1,ke,hG,i7,hE,gp,aE,i0,dd,cy,cp,gE,kx,ii,ba,co,m0,c4,f6,ko,cz,i3,b5,dB,k0,cv,fa,fB,iA,bh,b9,bj,cB,fp,h6,hr,bu,kG,j4,js,fF,dC,iG,ig,hu,jo,ju,bt,ji,gx,fc,k7,i8,jb,ky,gt,cA,gv,bn,fy,dD,f5,c9,dn,hh,dg,b4,dw,kb,bs,fv,dr,fq,j5,c0,jB,ha,ga,fi,fb,b8,k1,j0,fw,ik,dG,j8,ie,di,ft,gh,cj,jD,k8,bD,jC,g0,bw,he,b3,dh,ku,ct,dH,jf,bz,kB,jv,jc,c5,bf,kD,br,jz,im,je,dA,kH,kr,j3,ff,jA,cf,iD,fC,iw,hx,kE,fj,ka,jx,hy,jG,aH,h8,gA,iC,jp,h9,cD,iE,ip,h0,fH,bB,gB,dx,kj,ib,dF,kF,g9,gm,hH,m1,jn,dz,cc,ja,iH,b7,fo,bm,bC,cF,jq,m5,bv,k2,it,j6,kA,gc,kq,b6,k9,f9,c6,ge,kw,du,hA,jE,iz,fe,ir,iv,dq,m2,hf,cb,f2,i6,c7,kz,gw,io,cu,cH,i4,bi,bE,i2,jk,bo,kg,b0,cn,ia,gy,cr,jy,k5,bA,bp,d7,cq,j1,jt,bq,ic,iF,iu,fd,j7,gD,kp,fx,gF,jj,jm,gu,f7,iy,j9,dj,fG,af,aj,ay,ar,ae,a7,aw,ah,ai,a9,ad,ak,ax,am],[]⟩ W:=by
 conv=>arg 2;whnf
 subst hk pG;have hm:=HM;unfold LaidP at hm;have d8:=j1z (some ⟨be,off,none⟩) nh ce f gs W (TDe.grid (RD.td mn.o)).1 aa (by omega) HC.o.rb
 rw[<-HC.o.su] at d8;go_upto_region 37 with (first
  | (go_at_call 75;refine d8.mono ?_;rintro e w' ⟨rfl,rfl⟩)
  | (go_at_call 50;refine(j1f H (M3+1+1+1) 1 _ W pp (by omega) (by omega) (by omega)).mono ?_;rintro e w6 ⟨ki,rfl,ps,pj,oa⟩;have a1:=RD.dealt mn.o oa;have pa:=zQ9 a1;obtain⟨e0,e1,e2,e3,e4,e5,e6,e7,e8,e9,pb,pf⟩:=blkD a1.bx;obtain⟨z0,z1,z2,pg,z4,z5,z6,z7,z8,z9,pc,pu⟩:=zA9 (frz a1.bx 0) (zA9 (frz a1.bx 1) (zA9 (frz a1.bx 2) (zA9 (frz a1.bx 3) (zA9 (frz a1.bx 4) (zA9 (frz a1.bx 5) (zA9 (frz a1.bx 6) (zA9 (frz a1.bx 7) (zA9 (frz a1.bx 8) (zA9 (frz a1.bx 9) (zA9 (frz a1.bx 10) (frz a1.bx 11)))))))))));clear a1 oa))
 obtain⟨m,rfl⟩:=zB7 (show 0<=ki by omega)
 have nw:1<=m∧m<=2:=by omega
 have mh:=zQ9 nw;have ng:(m:Int)<=sm:=by omega
 have hj:=pa.o.deed ⟨4,f,0,0,0,(m:Int),0,sZ⟩;obtain⟨V,hV⟩:∃ V,V=setL w6 p (l12 ⟨4,f,0,0,0,(m:Int),0,sZ⟩):=⟨_,rfl⟩;rw[<-hV] at hj;simp only[setL,l12] at hV;rw[<-hV];clear e0 e1 e2 e3 e4 e5 e6 e7 e8 e9 pb pf z0 z1 z2 pg z4 z5 z6 z7 z8 z9 pc pu;clear hV;have pr:=zQ9 hj;have px:=zQ9 ng;have nf:htot (j0i gs)<=80:=by have:=HC.o.r.ti.tot;have:=HC.o.d6;omega
 have pw:=zQ9 nf;clear d8 hj ps pj nf ng hm HM;go_upto_region 38 with fail
 go_loopg [26] m (fun gg gC wr=>∃ (kk:Nat) (a2:List (List Int)) (a0:List Int),kk+gg=m∧gC=.int .i64 kk∧SwD w w1 H q t al nh be off ce av aB aD az aA z3 zr p A Ak Ah c ck ch vd ds a2 a0 an whose (M3+10+kk) ⟨4,f,0,0,0,(m:Int),0,sZ⟩ wr∧L3 t l ks gs a3 f m kk a2 a0)
 case atStart=>exact⟨0,gs,a3,by omega,rfl,RD.mono pr.o (by omega),L3.start HC.o.r f m⟩
 case round =>
  obtain⟨kk,a2,a0,nb,rfl,hR,hL⟩:=hrel;have aq:RD w w1 H q t (.slice A al c) (.slice Ak nh ck) (.slice Ah nh ch) vd vd ds (.slice (some ⟨be,off,none⟩) nh ce) a2 (.slice (some ⟨av,0,none⟩) al al) a0 an whose aB aD az aA z3 zr (M3+10+kk) p ⟨4,f,0,0,0,(m:Int),0,sZ⟩ wr:=hR;obtain⟨d0,d1,d2,d3,d4,d5,-⟩:=blkD aq.bx;have a4:=zQ9 (zA9 aq (zA9 hL nb));by_cases hlt:kk<m
  ·have kC:(kk:Int)<(m:Int):=by omega
   have gd:=hL.elt HC.o.r.n5 HC.o.r.f3 pw.o;have ag:GSh al nh a2:=by have:=hL.sh;rwa [HC.o.nl,HC.o.nk] at this
   have a5:=zQ9 ag;have p7:=zQ9 gd.1;have ow:=k0q H (M3+10+kk) (some ⟨be,off,none⟩) nh ce f a2 wr aq.td.dl.hd (by omega) aq.td.grid.1 aa (by omega) gd.2
   clear hR aq hL nb gd ag;go_upto_region 41 with (go_at_call 73;refine ow.mono ?_;rintro e w7 ⟨h2,rfl,oD,n3⟩)
   have a8:0<(a2.getD f []).sum:=by
    have h1:=a4.o.2.1.al;have h5:=HC.o.r.n5;have h3:=HC.o.r.f3;have qe:=HC.o.fk;rw[j9u (by omega) (by rw[a5.o.row aa];exact h7),h1,<-(HC.o.r.sum HC.o.fk).1,<-HC.o.su]
    have:=px.o;omega
   obtain⟨o2,rfl,aC,mF⟩:=k6u oD a8;rw[a5.o.row aa] at aC;have ao:0<getG a2 f o2:=mF;have ac:=(a4.o.1.dealt n3).drew1;have pq:=p7.o f o2 HC.o.fk (by rw[HC.o.nl];exact aC)
   have pD:-1000<=a0.getD o2 0∧a0.getD o2 0<=1000:=by
    have:=a4.o.2.1.gn o2;have:=HC.o.r.gn o2;have:=HC.o.d6;omega
   obtain⟨qf,pB,g1,cg,gq,p9,pm,pi,p8,mE,g2,g3,g4,g5,g6,g7,p5,g8,ms⟩:=ac.c3 a5.o aa aC;cases p9;cases pm;obtain⟨qa,pd,qb,qd⟩:=g5;obtain⟨yv,m4⟩:∃ yv,yv=a0.getD o2 0:=⟨_,rfl⟩;rw[<-m4] at p5 g8 pD;have ph:=zQ9 m4;obtain⟨V1,jh⟩:∃ V1,V1=w7.drew.setCell ⟨g1,o2,none⟩ (.int .i64 (getG a2 f o2-1)):=⟨_,rfl⟩;obtain⟨pv,o0⟩:=g8;obtain⟨pt,p3⟩:=o0 (getG a2 f o2-1);rw[<-jh] at pt p3;have fA:=zQ9 jh;have HK:=zQ9 (zA9 ms (zA9 ao aC));clear kC pA p4 nw pi m4 pv o0 ms ow oD n3 ac a8 mF ao d0 d1 d2 d3 d4 d5 jh;refine j0q 22 21 1 [0,1,2,3,4,7,8,9,10,11,12,13,14,18,20] [] 0 (TS1 w7.drew V1) (PS1 w7.drew V1) [0,0,0,0,0,0,0,0,0,0,0,0,0,0,0,0,0,0,0,0,0,1] (by as_aux_lemma=>kernel_rfl) (by as_aux_lemma=>kernel_rfl) (by as_aux_lemma=>kernel_rfl) (by as_aux_lemma=>kernel_rfl) (by omega) (.inr rfl) (by as_aux_lemma=>kernel_rfl) rfl (fun k j w1 w2 hc _ hT hp=>PS1.st k j w1 w2 hc hT hp) (fun k=>PS1.start k) ?_
   apply zC2;refine⟨fun ys=>?_,fun ops K hK=>?_⟩
   ·simp only[List.take_succ_cons,List.take_zero,j0p,List.filterMap_cons,List.filterMap_nil,j0r];go_simp
    rfl
   simp only[List.take_succ_cons,List.take_zero,List.drop_succ_cons,List.drop_zero] at hK ⊢
   iterate 5
    refine LexT.const (fun _=>rfl) ?_
    apply zC2;refine⟨fun ys w' hp hpk hq hd=>?_,?_⟩
    ·try simp[j0d,j0f,DF.holds,Region.binds,EqF] at hd
     try simp only[hd]
     replace hq:w'=w7.drew:=hq (by simp)
     subst hq;clear hpk hp;intro Q2 a6;go_wp2_with fail
     rfl
    try simp only[nl9]
   iterate 2
    refine LexT.const (fun _=>rfl) ?_
    apply zC2;refine⟨fun ys w' hp hpk hq hd=>?_,?_⟩
    ·try simp[j0d,j0f,DF.holds,Region.binds,EqF] at hd
     try simp only[hd]
     clear hp hpk hq;intro Q2 a6;go_wp2_with fail
     rfl
    try simp only[nl9]
   iterate 8
    refine LexT.const (fun _=>rfl) ?_
    apply zC2;refine⟨fun ys w' hp hpk hq hd=>?_,?_⟩
    ·try simp[j0d,j0f,DF.holds,Region.binds,EqF] at hd
     try simp only[hd]
     replace hq:w'=w7.drew:=hq (by simp)
     subst hq;clear hpk hp;intro Q2 a6;go_wp2_with fail
     rfl
    try simp only[nl9]
   iterate 3
    refine LexT.const (fun _=>rfl) ?_
    apply zC2;refine⟨fun ys w' hp hpk hq hd=>?_,?_⟩
    ·try simp[j0d,j0f,DF.holds,Region.binds,EqF] at hd
     try simp only[hd]
     clear hp hpk hq;intro Q2 a6;go_wp2_with fail
     rfl
    try simp only[nl9]
   iterate 1
    refine LexT.const (fun _=>rfl) ?_
    apply zC2;refine⟨fun ys w' hp hpk hq hd=>?_,?_⟩
    ·try simp[j0d,j0f,DF.holds,Region.binds,EqF] at hd
     try simp only[hd]
     replace hq:w'=w7.drew:=hq (by simp)
     subst hq;clear hpk hp;intro Q2 a6;go_wp2_with fail
     rfl
    try simp only[nl9]
   iterate 1
    refine LexT.const (fun _=>rfl) ?_
    apply zC2;refine⟨fun ys w' hp hpk hq hd=>?_,?_⟩
    ·try simp[j0d,j0f,DF.holds,Region.binds,EqF] at hd
     try simp only[hd]
     clear hp hpk hq;intro Q2 a6;go_wp2_with fail
     rfl
    try simp only[nl9]
   iterate 1
    refine LexT.const (fun _=>rfl) ?_
    apply zC2;refine⟨fun ys w' hp hpk hq hd=>?_,?_⟩
    ·try simp[j0d,j0f,DF.holds,Region.binds,EqF] at hd
     try simp only[hd]
     replace hq:w'=w7.drew:=hq (by simp)
     subst hq;clear hpk hp;intro Q2 a6;go_wp2_with fail
     rfl
    try simp only[nl9]
   refine LexT.some (fun _ w=>w=V1) (fun j v w1 w2 hc _ hT h=>TS1.keep j v w1 w2 hc hT h) (fun ys w' hp hpk hq hd=>?_) ?_
   ·try simp[j0d,j0f,DF.holds,Region.binds,EqF] at hd
    try simp only[hd]
    replace hpk:w'=w7.drew:=hpk;subst hpk;intro Q2 a6;go_wp2_with fail
    exact⟨⟨rfl,fA.o.symm⟩,fA.o.symm⟩
   try simp only[nl9]
   refine hK _ fun ys w' hp hF=>?_
   simp[AllF,DF.holds] at hF;obtain⟨q0,q1,q2,q3,q4,q5,q6,q7,q8,q9,om,nj,o6,mv,me,m8,o4,mg,o1,mt,ny,hw⟩:=hF;subst hw;simp only[q0,q1,q2,q3,q4,q5,q6,q7,q8,q9,om,nj,o6,mv,me,m8,o4,mg,o1,mt,ny];clear q0 q1 q2 q3 q4 q5 q6 q7 q8 q9 om nj o6 mv me m8 o4 mg o1 mt ny hp hK;have py:kk<=2:=by have:=mh.o;omega
   go_wp2_with fail
   go_roundg (gk-1)
   case measure=>have:=a4.o.2.2;omega
   case rel =>
    have hz:=HK.o.1 (getG a2 f o2-1) (-1) (yv+1) (by omega)
    rw[<-fA.o] at hz;refine⟨kk+1,_,_,by have:=a4.o.2.2;omega,by go_num,RD.mono hz (by omega),?_⟩
    rw[ph.o];exact a4.o.2.1.step HC.o.r.n5 HC.o.r.f3 HC.o.fk (by rw[HC.o.nl];exact HK.o.2.2) HK.o.2.1 hlt
  ·obtain rfl:kk=m:=by have:=a4.o.2.2;omega
   go_wp2_with fail
   refine HQ _ _ _ _ _ _ _ _ _ _ _ _ _ _ _ _ _ _ _ _ _ _ _ _ _ _ _ _ _ _ _ _ _ _ _ _ _ _ _ _ _ _ _ _ _ _ _ _ _ _ _ _ _ _ _ _ _ _ _ _ _ _ _ _ _ _ _ _ _ _ _ _ _ _ _ _ _ _ _ _ _ _ _ _ _ _ _ _ _ _ _ _ _ _ _ _ _ _ _ _ _ _ _ _ _ _ _ _ _ _ _ _ _ _ _ _ _ _ _ _ _ _ _ _ _ _ _ _ _ _ _ _ _ _ _ _ _ _ _ _ _ _ _ _ _ _ _ _ _ _ _ _ _ _ _ _ _ _ _ _ _ _ _ _ _ _ _ _ _ _ _ _ _ _ _ _ _ _ _ _ _ _ _ _ _ _ _ _ _ _ _ _ _ _ _ _ _ _ _ _ _ _ _ _ _ _ _ _ _ _ _ _ _ _ _ _ _ _ _ _ _ _ _ _ _ _ _ _ _ _ _ _ _ _ _ _ _ _ _ _ _ _ _ _ _ _ _ _ _ _ _ _ _ _ _ _ _ _ _ _ _ _ _ _ _ _ _ _ _ _ _ _ _ _ _ _ _ _ _ _ _ _ _ _ _ _ _ _ _ _ _ _ _ _ ?_;exact⟨-1,_,a2,a0,rfl,RD.mono a4.o.1 (by omega),HC.o.r.lost HC.o.fk (by have:=mh.o;omega) a4.o.2.1⟩
theorem sw_lost2 (w w1 W:World) (H q p f al nh be off ce av aB aD az aA z3 zr M3:Nat) (t ho kd sm:Int) (vd:Value) (A Ak Ah:Option Addr) (c ck ch:Nat) (l:List Mk) (ks:List Int) (hs gs:List (List Int)) (ds:List De) (a3 whose:List Int) {v1 v2 v3 v4 v5 v6 v7 v8 v9 nu n1 nG oF np an nH gC pe pF nv nC oy n2 nx oG nF mA oC o3 oc ou mB n6 od mz m9 mi mC oz n9 ov oH nz mu mj nt mr nq n4 oq p1 nB na mG nA my mf o7 oA oi mb nD o9 mH mo oB mD mq ni ns mw oj ma oh ot oo n7 oe oE ox nE o5 o8 nm mx n8 nr p2 pC p6 i9 bG cC gj gH ix hn bF jH cw jd m6 ih cx kn k4 kh h4 k6 iB dy m7 f8 da dk fg ht ca kt i5 c8 fD jr jw m3 k3 fh j2 iq d9 gG jg aF fE ij aG i1 jF cG cE f1 ke hG i7 hE gp aE i0 dd cy cp gE kx ii ba co m0 c4 f6 ko cz i3 b5 dB k0 cv fa fB iA bh b9 bj cB fp h6 hr bu kG j4 js fF dC iG ig hu jo ju bt ji gx fc k7 i8 jb ky gt cA gv bn fy dD f5 c9 dn hh dg b4 dw kb bs fv dr fq j5 c0 jB ha ga fi fb b8 k1 j0 fw ik dG j8 ie di ft gh cj jD k8 bD jC g0 bw he b3 dh ku ct dH jf bz kB jv jc c5 bf kD br jz im je dA kH kr j3 ff jA cf iD fC iw hx kE fj ka jx hy jG aH h8 gA iC jp h9 cD iE ip h0 fH bB gB dx kj ib dF kF g9 gm hH m1 jn dz cc ja iH b7 fo bm bC cF jq m5 bv k2 it j6 kA gc kq b6 k9 f9 c6 ge kw du hA jE iz fe ir iv dq m2 hf cb f2 i6 c7 kz gw io cu cH i4 bi bE i2 jk bo kg b0 cn ia gy cr jy k5 bA bp d7 cq j1 jt bq ic iF iu fd j7 gD kp fx gF jj jm gu f7 iy j9 dj fG af aj ay ar ae a7 aw ah ai a9 ad ak ax am:Value} (Q:Exit->Act->World->Prop)
 (mn:Q9 (SwD w w1 H q t al nh be off ce av aB aD az aA z3 zr p A Ak Ah c ck ch vd ds gs a3 an whose (M3+1+1+1) ⟨6,f,0,0,0,0,0,sZ⟩ W)) (HC:Q9 (SwC t al nh f ho sm l ks hs ds gs a3 whose)) (aa:f<nh) (pn:nh<=3) (h7:al<=5) (pE:0<al) (po:M3<=4611686018000030000) (pp:Hd W H (M3+1+1+1)) (p4:0<=sm∧sm<=80)
 (hk:kd=4) (o:Nat) (pG:ho=o) (qc:o<al) (pA:1<=sm) (HM:LaidP (¬2<sm))
 (HQ:SwQ w w1 H q p f al nh be off ce av aB aD az aA z3 zr M3 t ho kd vd A Ak Ah c ck ch l ks hs ds whose v1 v2 v3 v4 v5 v6 v7 v8 v9 nu n1 nG oF np an nH nv nC oy n2 nx oG nF mA oC o3 oc ou mB n6 od mz m9 mi mC oz n9 ov oH nz mu mj nt mr nq n4 oq p1 nB na mG nA my mf o7 oA oi mb nD o9 mH mo oB mD mq ni ns mw oj ma oh ot oo n7 oe oE ox nE o5 o8 nm mx n8 nr p2 af aj ay ar ae a7 aw ah ai a9 ad ak ax am Q) :
 Code.wp Tryz.prog j3a Q ⟨#[Value.pointer (some ⟨H,0,none⟩),v1,v2,v3,v4,v5,v6,v7,v8,v9,nu,n1,Value.pointer (some ⟨q,0,none⟩),Value.int .i64 (al:Int),nG,oF,np,Value.slice (some ⟨be,off,none⟩) nh ce,Value.slice (some ⟨av,0,none⟩) al al,an,nH,Value.int .i64 (f:Int),Value.int .i64 ho,Value.int .i64 (-1),Value.int .i64 kd,Value.pointer (some ⟨p,0,none⟩),gC,pe,pF,nv,nC,oy,n2,nx,oG,nF,mA,oC,o3,oc,ou,mB,n6,od,mz,m9,mi,mC,oz,n9,ov,oH,nz,mu,mj,nt,mr,nq,n4,oq,p1,nB,na,mG,nA,my,mf,o7,oA,oi,mb,nD,o9,mH,mo,oB,mD,mq,ni,ns,mw,oj,ma,oh,ot,oo,n7,oe,oE,ox,nE,o5,o8,nm,mx,n8,nr,p2,pC,p6,i9,bG,cC,gj,gH,ix,hn,bF,jH,cw,jd,m6,ih,cx,kn,k4,kh,h4,k6,iB,dy,m7,f8,da,dk,fg,ht,ca,kt,i5,c8,fD,jr,jw,m3,k3,fh,j2,iq,d9,gG,jg,aF,fE,ij,aG,i1,jF,cG,cE,f1,ke,hG,i7,hE,gp,aE,i0,dd,cy,cp,gE,kx,ii,ba,co,m0,c4,f6,ko,cz,i3,b5,dB,k0,cv,fa,fB,iA,bh,b9,bj,cB,fp,h6,hr,bu,kG,j4,js,fF,dC,iG,ig,hu,jo,ju,bt,ji,gx,fc,k7,i8,jb,ky,gt,cA,gv,bn,fy,dD,f5,c9,dn,hh,dg,b4,dw,kb,bs,fv,dr,fq,j5,c0,jB,ha,ga,fi,fb,b8,k1,j0,fw,ik,dG,j8,ie,di,ft,gh,cj,jD,k8,bD,jC,g0,bw,he,b3,dh,ku,ct,dH,jf,bz,kB,jv,jc,c5,bf,kD,br,jz,im,je,dA,kH,kr,j3,ff,jA,cf,iD,fC,iw,hx,kE,fj,ka,jx,hy,jG,aH,h8,gA,iC,jp,h9,cD,iE,ip,h0,fH,bB,gB,dx,kj,ib,dF,kF,g9,gm,hH,m1,jn,dz,cc,ja,iH,b7,fo,bm,bC,cF,jq,m5,bv,k2,it,j6,kA,gc,kq,b6,k9,f9,c6,ge,kw,du,hA,jE,iz,fe,ir,iv,dq,m2,hf,cb,f2,i6,c7,kz,gw,io,cu,cH,i4,bi,bE,i2,jk,bo,kg,b0,cn,ia,gy,cr,jy,k5,bA,bp,d7,cq,j1,jt,bq,ic,iF,iu,fd,j7,gD,kp,fx,gF,jj,jm,gu,f7,iy,j9,dj,fG,af,aj,ay,ar,ae,a7,aw,ah,ai,a9,ad,ak,ax,am],[]⟩ W:=by
 conv=>arg 2;whnf
 subst hk pG;have hm:=HM;unfold LaidP at hm;have d8:=j1z (some ⟨be,off,none⟩) nh ce f gs W (TDe.grid (RD.td mn.o)).1 aa (by omega) HC.o.rb
 rw[<-HC.o.su] at d8;go_upto_region 37 with (first
  | (go_at_call 75;refine d8.mono ?_;rintro e w' ⟨rfl,rfl⟩)
  | (go_at_call 50;refine(j1f H (M3+1+1+1) 1 _ W pp (by omega) (by omega) (by omega)).mono ?_;rintro e w6 ⟨ki,rfl,ps,pj,oa⟩;have a1:=RD.dealt mn.o oa;have pa:=zQ9 a1;obtain⟨e0,e1,e2,e3,e4,e5,e6,e7,e8,e9,pb,pf⟩:=blkD a1.bx;obtain⟨z0,z1,z2,pg,z4,z5,z6,z7,z8,z9,pc,pu⟩:=zA9 (frz a1.bx 0) (zA9 (frz a1.bx 1) (zA9 (frz a1.bx 2) (zA9 (frz a1.bx 3) (zA9 (frz a1.bx 4) (zA9 (frz a1.bx 5) (zA9 (frz a1.bx 6) (zA9 (frz a1.bx 7) (zA9 (frz a1.bx 8) (zA9 (frz a1.bx 9) (zA9 (frz a1.bx 10) (frz a1.bx 11)))))))))));clear a1 oa))
 obtain⟨m,rfl⟩:=zB7 (show 0<=ki by omega)
 have nw:1<=m∧m<=2:=by omega
 have mh:=zQ9 nw;have ng:(m:Int)<=sm:=by omega
 have hj:=pa.o.deed ⟨4,f,0,0,0,(m:Int),0,sZ⟩;obtain⟨V,hV⟩:∃ V,V=setL w6 p (l12 ⟨4,f,0,0,0,(m:Int),0,sZ⟩):=⟨_,rfl⟩;rw[<-hV] at hj;simp only[setL,l12] at hV;rw[<-hV];clear e0 e1 e2 e3 e4 e5 e6 e7 e8 e9 pb pf z0 z1 z2 pg z4 z5 z6 z7 z8 z9 pc pu;clear hV;have pr:=zQ9 hj;have px:=zQ9 ng;have nf:htot (j0i gs)<=80:=by have:=HC.o.r.ti.tot;have:=HC.o.d6;omega
 have pw:=zQ9 nf;clear d8 hj ps pj nf ng hm HM;go_upto_region 38 with fail
 go_loopg [26] m (fun gg gC wr=>∃ (kk:Nat) (a2:List (List Int)) (a0:List Int),kk+gg=m∧gC=.int .i64 kk∧SwD w w1 H q t al nh be off ce av aB aD az aA z3 zr p A Ak Ah c ck ch vd ds a2 a0 an whose (M3+10+kk) ⟨4,f,0,0,0,(m:Int),0,sZ⟩ wr∧L3 t l ks gs a3 f m kk a2 a0)
 case atStart=>exact⟨0,gs,a3,by omega,rfl,RD.mono pr.o (by omega),L3.start HC.o.r f m⟩
 case round =>
  obtain⟨kk,a2,a0,nb,rfl,hR,hL⟩:=hrel;have aq:RD w w1 H q t (.slice A al c) (.slice Ak nh ck) (.slice Ah nh ch) vd vd ds (.slice (some ⟨be,off,none⟩) nh ce) a2 (.slice (some ⟨av,0,none⟩) al al) a0 an whose aB aD az aA z3 zr (M3+10+kk) p ⟨4,f,0,0,0,(m:Int),0,sZ⟩ wr:=hR;obtain⟨d0,d1,d2,d3,d4,d5,-⟩:=blkD aq.bx;have a4:=zQ9 (zA9 aq (zA9 hL nb));by_cases hlt:kk<m
  ·have kC:(kk:Int)<(m:Int):=by omega
   have gd:=hL.elt HC.o.r.n5 HC.o.r.f3 pw.o;have ag:GSh al nh a2:=by have:=hL.sh;rwa [HC.o.nl,HC.o.nk] at this
   have a5:=zQ9 ag;have p7:=zQ9 gd.1;have ow:=k0q H (M3+10+kk) (some ⟨be,off,none⟩) nh ce f a2 wr aq.td.dl.hd (by omega) aq.td.grid.1 aa (by omega) gd.2
   clear hR aq hL nb gd ag;go_upto_region 41 with (go_at_call 73;refine ow.mono ?_;rintro e w7 ⟨h2,rfl,oD,n3⟩)
   have a8:0<(a2.getD f []).sum:=by
    have h1:=a4.o.2.1.al;have h5:=HC.o.r.n5;have h3:=HC.o.r.f3;have qe:=HC.o.fk;rw[j9u (by omega) (by rw[a5.o.row aa];exact h7),h1,<-(HC.o.r.sum HC.o.fk).1,<-HC.o.su]
    have:=px.o;omega
   obtain⟨o2,rfl,aC,mF⟩:=k6u oD a8;rw[a5.o.row aa] at aC;have ao:0<getG a2 f o2:=mF;have ac:=(a4.o.1.dealt n3).drew1;have pq:=p7.o f o2 HC.o.fk (by rw[HC.o.nl];exact aC)
   have pD:-1000<=a0.getD o2 0∧a0.getD o2 0<=1000:=by
    have:=a4.o.2.1.gn o2;have:=HC.o.r.gn o2;have:=HC.o.d6;omega
   obtain⟨qf,pB,g1,cg,gq,p9,pm,pi,p8,mE,g2,g3,g4,g5,g6,g7,p5,g8,ms⟩:=ac.c3 a5.o aa aC;cases p9;cases pm;obtain⟨qa,pd,qb,qd⟩:=g5;obtain⟨yv,m4⟩:∃ yv,yv=a0.getD o2 0:=⟨_,rfl⟩;rw[<-m4] at p5 g8 pD;have ph:=zQ9 m4;obtain⟨V1,jh⟩:∃ V1,V1=w7.drew.setCell ⟨g1,o2,none⟩ (.int .i64 (getG a2 f o2-1)):=⟨_,rfl⟩;obtain⟨pv,o0⟩:=g8;obtain⟨pt,p3⟩:=o0 (getG a2 f o2-1);rw[<-jh] at pt p3;have fA:=zQ9 jh;have HK:=zQ9 (zA9 ms (zA9 ao aC));clear kC pA p4 nw pi m4 pv o0 ms ow oD n3 ac a8 mF ao d0 d1 d2 d3 d4 d5 jh;refine j0q 22 21 1 [0,1,2,3,4,7,8,9,10,11,12,13,14,18,20] [] 0 (TS1 w7.drew V1) (PS1 w7.drew V1) [0,0,0,0,0,0,0,0,0,0,0,0,0,0,0,0,0,0,0,0,0,1] (by as_aux_lemma=>kernel_rfl) (by as_aux_lemma=>kernel_rfl) (by as_aux_lemma=>kernel_rfl) (by as_aux_lemma=>kernel_rfl) (by omega) (.inr rfl) (by as_aux_lemma=>kernel_rfl) rfl (fun k j w1 w2 hc _ hT hp=>PS1.st k j w1 w2 hc hT hp) (fun k=>PS1.start k) ?_
   apply zC2;refine⟨fun ys=>?_,fun ops K hK=>?_⟩
   ·simp only[List.take_succ_cons,List.take_zero,j0p,List.filterMap_cons,List.filterMap_nil,j0r];go_simp
    rfl
   simp only[List.take_succ_cons,List.take_zero,List.drop_succ_cons,List.drop_zero] at hK ⊢
   iterate 5
    refine LexT.const (fun _=>rfl) ?_
    apply zC2;refine⟨fun ys w' hp hpk hq hd=>?_,?_⟩
    ·try simp[j0d,j0f,DF.holds,Region.binds,EqF] at hd
     try simp only[hd]
     replace hq:w'=w7.drew:=hq (by simp)
     subst hq;clear hpk hp;intro Q2 a6;go_wp2_with fail
     rfl
    try simp only[nl9]
   iterate 2
    refine LexT.const (fun _=>rfl) ?_
    apply zC2;refine⟨fun ys w' hp hpk hq hd=>?_,?_⟩
    ·try simp[j0d,j0f,DF.holds,Region.binds,EqF] at hd
     try simp only[hd]
     clear hp hpk hq;intro Q2 a6;go_wp2_with fail
     rfl
    try simp only[nl9]
   iterate 8
    refine LexT.const (fun _=>rfl) ?_
    apply zC2;refine⟨fun ys w' hp hpk hq hd=>?_,?_⟩
    ·try simp[j0d,j0f,DF.holds,Region.binds,EqF] at hd
     try simp only[hd]
     replace hq:w'=w7.drew:=hq (by simp)
     subst hq;clear hpk hp;intro Q2 a6;go_wp2_with fail
     rfl
    try simp only[nl9]
   iterate 3
    refine LexT.const (fun _=>rfl) ?_
    apply zC2;refine⟨fun ys w' hp hpk hq hd=>?_,?_⟩
    ·try simp[j0d,j0f,DF.holds,Region.binds,EqF] at hd
     try simp only[hd]
     clear hp hpk hq;intro Q2 a6;go_wp2_with fail
     rfl
    try simp only[nl9]
   iterate 1
    refine LexT.const (fun _=>rfl) ?_
    apply zC2;refine⟨fun ys w' hp hpk hq hd=>?_,?_⟩
    ·try simp[j0d,j0f,DF.holds,Region.binds,EqF] at hd
     try simp only[hd]
     replace hq:w'=w7.drew:=hq (by simp)
     subst hq;clear hpk hp;intro Q2 a6;go_wp2_with fail
     rfl
    try simp only[nl9]
   iterate 1
    refine LexT.const (fun _=>rfl) ?_
    apply zC2;refine⟨fun ys w' hp hpk hq hd=>?_,?_⟩
    ·try simp[j0d,j0f,DF.holds,Region.binds,EqF] at hd
     try simp only[hd]
     clear hp hpk hq;intro Q2 a6;go_wp2_with fail
     rfl
    try simp only[nl9]
   iterate 1
    refine LexT.const (fun _=>rfl) ?_
    apply zC2;refine⟨fun ys w' hp hpk hq hd=>?_,?_⟩
    ·try simp[j0d,j0f,DF.holds,Region.binds,EqF] at hd
     try simp only[hd]
     replace hq:w'=w7.drew:=hq (by simp)
     subst hq;clear hpk hp;intro Q2 a6;go_wp2_with fail
     rfl
    try simp only[nl9]
   refine LexT.some (fun _ w=>w=V1) (fun j v w1 w2 hc _ hT h=>TS1.keep j v w1 w2 hc hT h) (fun ys w' hp hpk hq hd=>?_) ?_
   ·try simp[j0d,j0f,DF.holds,Region.binds,EqF] at hd
    try simp only[hd]
    replace hpk:w'=w7.drew:=hpk;subst hpk;intro Q2 a6;go_wp2_with fail
    exact⟨⟨rfl,fA.o.symm⟩,fA.o.symm⟩
   try simp only[nl9]
   refine hK _ fun ys w' hp hF=>?_
   simp[AllF,DF.holds] at hF;obtain⟨q0,q1,q2,q3,q4,q5,q6,q7,q8,q9,om,nj,o6,mv,me,m8,o4,mg,o1,mt,ny,hw⟩:=hF;subst hw;simp only[q0,q1,q2,q3,q4,q5,q6,q7,q8,q9,om,nj,o6,mv,me,m8,o4,mg,o1,mt,ny];clear q0 q1 q2 q3 q4 q5 q6 q7 q8 q9 om nj o6 mv me m8 o4 mg o1 mt ny hp hK;have py:kk<=2:=by have:=mh.o;omega
   go_wp2_with fail
   go_roundg (gk-1)
   case measure=>have:=a4.o.2.2;omega
   case rel =>
    have hz:=HK.o.1 (getG a2 f o2-1) (-1) (yv+1) (by omega)
    rw[<-fA.o] at hz;refine⟨kk+1,_,_,by have:=a4.o.2.2;omega,by go_num,RD.mono hz (by omega),?_⟩
    rw[ph.o];exact a4.o.2.1.step HC.o.r.n5 HC.o.r.f3 HC.o.fk (by rw[HC.o.nl];exact HK.o.2.2) HK.o.2.1 hlt
  ·obtain rfl:kk=m:=by have:=a4.o.2.2;omega
   go_wp2_with fail
   refine HQ _ _ _ _ _ _ _ _ _ _ _ _ _ _ _ _ _ _ _ _ _ _ _ _ _ _ _ _ _ _ _ _ _ _ _ _ _ _ _ _ _ _ _ _ _ _ _ _ _ _ _ _ _ _ _ _ _ _ _ _ _ _ _ _ _ _ _ _ _ _ _ _ _ _ _ _ _ _ _ _ _ _ _ _ _ _ _ _ _ _ _ _ _ _ _ _ _ _ _ _ _ _ _ _ _ _ _ _ _ _ _ _ _ _ _ _ _ _ _ _ _ _ _ _ _ _ _ _ _ _ _ _ _ _ _ _ _ _ _ _ _ _ _ _ _ _ _ _ _ _ _ _ _ _ _ _ _ _ _ _ _ _ _ _ _ _ _ _ _ _ _ _ _ _ _ _ _ _ _ _ _ _ _ _ _ _ _ _ _ _ _ _ _ _ _ _ _ _ _ _ _ _ _ _ _ _ _ _ _ _ _ _ _ _ _ _ _ _ _ _ _ _ _ _ _ _ _ _ _ _ _ _ _ _ _ _ _ _ _ _ _ _ _ _ _ _ _ _ _ _ _ _ _ _ _ _ _ _ _ _ _ _ _ _ _ _ _ _ _ _ _ _ _ _ _ _ _ _ _ _ _ _ _ _ _ _ _ _ _ _ _ _ _ _ ?_;exact⟨-1,_,a2,a0,rfl,RD.mono a4.o.1 (by omega),HC.o.r.lost HC.o.fk (by have:=mh.o;omega) a4.o.2.1⟩
end Go.Proofs.YtmennjmjakdkcaaGreat
