/- HerdParts. -/
import Derived.Test.YtmennjmjakdkcaaGreatPt15
import Derived.BigRegion
set_option linter.unusedVariables false
set_option linter.unusedSimpArgs false
set_option maxRecDepth 1000000
set_option maxHeartbeats 8000000
namespace Go.Proofs.YtmennjmjakdkcaaGreat
open Go.RowKit
theorem q3p (w w1 W:World) (H q p f al nh be off ce jc oh pD o7 od z3 zr M3:Nat) (t ho kd sm:Int) (vd:Value) (A Ak Ah:Option Addr) (c ck ch:Nat) (l:List Mk) (ks:List Int) (hs gs:List (List Int)) (ds:List De) (ah whose:List Int) {v1 v2 v3 v4 v5 v6 v7 v8 v9 ow nH p2 qc om i0 p3 qy qt r1 ox oD pB o2 oy qd p1 nA qa p5 pg px nB o4 pi nz n3 ni nC pC o9 py qe oA nu nj ov nr oo o3 pv qf oC oa nF oB ny nb pb pF po n8 oE pe nG np pG nD nq oe ot nw pq n7 pm pw pu o5 pj qb pA oF p8 pc oj nx o8 oq qg qH qn iy cn dr h5 hy j9 i8 cj kw dh jC mG iE di m8 kB m6 hG kD je fd mH fy dC f5 g9 ia cz mg iu cx gx k7 kg mC kA ga jp j3 dB hx jF b7 gy iG b8 ip kt dy dw fq m4 ij iw ii h7 b6 im dD dj cG ht mj iF bq cH mz cp fw m9 dk ir bj fg kx dg fC gv jd bt bp bv dq gh hH i9 bG mx jr k8 gA fh jk iD ib k4 ka bF jG hf fF kE ix jy mn h8 dn ha bz gu fi fv cy f6 i6 dF bh fb m3 bE gm f8 gj js co ko i3 gH gc fE bo ky jn gp iH fo jv iC f1 gk h4 cE kq kF cc kp gF c7 i4 bf dG mh da fp jE c8 mt kb jz cq bs mu bC kj j0 jD ff my mf jq g0 kn cD jh gw j8 ie mv gd kH kh ig ku b9 i1 hj jg k5 i2 du ji j2 hE gC ca hn fc m7 iA fj mw gG h6 ik mA k3 fe cC jx jm bn ge bw cb dx k6 mF c6 kz j5 jt ms h0 me bm kG fA cr h2 mi fa ih kr jb fH j4 j7 f7 mB i5 cB ft iv ct mq he j1 dd dz it bu cf iq k1 bA m5 ba cF iz hh d8 ki kC c9 bB dA d7 jo k9 bD iB jj j6 fG ju hr ma gt hu k0 k2 h9 fx ja jw f2 gB ae aj aC ar ad a8 ax af ag a9 ac am aB an:Value} (Q:Exit->Act->World->Prop)
 (nm:Q9 (SwD w w1 H q t al nh be off ce jc oh pD o7 od z3 zr p A Ak Ah c ck ch vd ds gs ah i0 whose (M3+1+1+1) ⟨6,f,0,0,0,0,0,sZ⟩ W)) (HC:Q9 (SwC t al nh f ho sm l ks hs ds gs ah whose)) (n6:f<nh) (qA:nh<=3) (qz:al<=5) (r0:0<al) (qB:M3<=4611686018000030000) (qC:Hd W H (M3+1+1+1)) (r4:0<=sm∧sm<=80)
 (hk:6<=kd) (o gg:Nat) (r2:ho=o) (a6:o<al) (qw:0<getG gs f o) (jH:(1:Int)<nh) (qi:w.heap.size<=gg) (hm:OwnM w1 (gg+1) (.slice A al c) l) (qo:∃ o,w1.heap[q]?=some (Obj.cells o 29 (0,0))) (b5:check t l=0)
 (HQ:SwQ w w1 H q p f al nh be off ce jc oh pD o7 od z3 zr M3 t ho kd vd A Ak Ah c ck ch l ks hs ds whose v1 v2 v3 v4 v5 v6 v7 v8 v9 ow nH p2 qc om i0 p3 ox oD pB o2 oy qd p1 nA qa p5 pg px nB o4 pi nz n3 ni nC pC o9 py qe oA nu nj ov nr oo o3 pv qf oC oa nF oB ny nb pb pF po n8 oE pe nG np pG nD nq oe ot nw pq n7 pm pw pu o5 pj qb pA oF p8 pc oj nx o8 oq qg ae aj aC ar ad a8 ax af ag a9 ac am aB an Q) :
 Code.wp Tryz.prog j3a Q ⟨#[Value.pointer (some ⟨H,0,none⟩),v1,v2,v3,v4,v5,v6,v7,v8,v9,ow,nH,Value.pointer (some ⟨q,0,none⟩),Value.int .i64 (al:Int),p2,qc,om,Value.slice (some ⟨be,off,none⟩) nh ce,Value.slice (some ⟨jc,0,none⟩) al al,i0,p3,Value.int .i64 (f:Int),Value.int .i64 ho,Value.int .i64 (-1),Value.int .i64 kd,Value.pointer (some ⟨p,0,none⟩),qy,qt,r1,ox,oD,pB,o2,oy,qd,p1,nA,qa,p5,pg,px,nB,o4,pi,nz,n3,ni,nC,pC,o9,py,qe,oA,nu,nj,ov,nr,oo,o3,pv,qf,oC,oa,nF,oB,ny,nb,pb,pF,po,n8,oE,pe,nG,np,pG,nD,nq,oe,ot,nw,pq,n7,pm,pw,pu,o5,pj,qb,pA,oF,p8,pc,oj,nx,o8,oq,qg,qH,qn,iy,cn,dr,h5,hy,j9,i8,cj,kw,dh,jC,mG,iE,di,m8,kB,m6,hG,kD,je,fd,mH,fy,dC,f5,g9,ia,cz,mg,iu,cx,gx,k7,kg,mC,kA,ga,jp,j3,dB,hx,jF,b7,gy,iG,b8,ip,kt,dy,dw,fq,m4,ij,iw,ii,h7,b6,im,dD,dj,cG,ht,mj,iF,bq,cH,mz,cp,fw,m9,dk,ir,bj,fg,kx,dg,fC,gv,jd,bt,bp,bv,dq,gh,hH,i9,bG,mx,jr,k8,gA,fh,jk,iD,ib,k4,ka,bF,jG,hf,fF,kE,ix,jy,mn,h8,dn,ha,bz,gu,fi,fv,cy,f6,i6,dF,bh,fb,m3,bE,gm,f8,gj,js,co,ko,i3,gH,gc,fE,bo,ky,jn,gp,iH,fo,jv,iC,f1,gk,h4,cE,kq,kF,cc,kp,gF,c7,i4,bf,dG,mh,da,fp,jE,c8,mt,kb,jz,cq,bs,mu,bC,kj,j0,jD,ff,my,mf,jq,g0,kn,cD,jh,gw,j8,ie,mv,gd,kH,kh,ig,ku,b9,i1,hj,jg,k5,i2,du,ji,j2,hE,gC,ca,hn,fc,m7,iA,fj,mw,gG,h6,ik,mA,k3,fe,cC,jx,jm,bn,ge,bw,cb,dx,k6,mF,c6,kz,j5,jt,ms,h0,me,bm,kG,fA,cr,h2,mi,fa,ih,kr,jb,fH,j4,j7,f7,mB,i5,cB,ft,iv,ct,mq,he,j1,dd,dz,it,bu,cf,iq,k1,bA,m5,ba,cF,iz,hh,d8,ki,kC,c9,bB,dA,d7,jo,k9,bD,iB,jj,j6,fG,ju,hr,ma,gt,hu,k0,k2,h9,fx,ja,jw,f2,gB,ae,aj,aC,ar,ad,a8,ax,af,ag,a9,ac,am,aB,an],[]⟩ W:=by
 conv=>arg 2;whnf
 subst r2;have x1:(kd==1)=false:=beq_eq_false_iff_ne.2 (by omega)
 have x2:(kd==2)=false:=beq_eq_false_iff_ne.2 (by omega)
 have x3:(kd==3)=false:=beq_eq_false_iff_ne.2 (by omega)
 have x4:(kd==4)=false:=beq_eq_false_iff_ne.2 (by omega)
 obtain⟨tn,rfl⟩:=zB7 (j2d b5).1;have rc:tn<=2:=by have:=(j2d b5).2.1;omega
 have ra:=HC.o.gb o a6;have a5:=RD.drew1 nm.o;have r6:=a5.td.h1.2.2;have jA:=TDe.old a5.td qi qo (by decide) hm
 obtain⟨A',c',hv,jf,-,-⟩:=jA.form j2h;cases hv
 skip
 obtain⟨mb,mo,mk,hA,bi,n4,m0,m1,m2⟩:=Marks.get (k:=o) (by rw[HC.o.nl] at jf;exact jf) a6
 subst hA;have a4:mb≠H:=by have:=(jA.lt mb rfl).1;omega
 obtain⟨y0,y1,y2,y3,y4⟩:=blk5 a5.td.box;have mD:=j0a a5.td.box;have d9:q≠H:=by have:=a5.td.h1.1;omega
 obtain⟨b0,b1,b2,b3,b4⟩:=blk5 (TDe.box (RD.td nm.o));go_upto_region 43 with fail
 have qh:=zQ9 a5;have gD:=zQ9 n4;have qu:2<=nh:=by omega
 have cu:=zQ9 (fun(w':World) (hp:W.drew.grownBy w' (some H))=>zA9 ((World.cell?_of_block (hp.block q mD (fun e=>by cases e;exact d9 rfl))).trans y0) (zA9 ((World.cell?_of_block (hp.block q mD (fun e=>by cases e;exact d9 rfl))).trans y1) (zA9 ((World.cell?_of_block (hp.block q mD (fun e=>by cases e;exact d9 rfl))).trans y2)
  (zA9 ((World.cell?_of_block (hp.block mb bi (fun e=>by cases e;exact a4 rfl))).trans m0) (zA9 ((World.cell?_of_block (hp.block mb bi (fun e=>by cases e;exact a4 rfl))).trans m1) ((World.cell?_of_block (hp.block mb bi (fun e=>by cases e;exact a4 rfl))).trans m2))))))
 clear a5 jH y0 y1 y2 y3 y4 b0 b1 b2 b3 b4 m0 m1 m2 jA jf hk x1 x2 x3 x4 n4;refine j0q 26 0 0 [] [(23,7)] 10 (THw H (M3+1+1+1)) (PHw W.drew H (M3+1+1+1)) [0,0,0,0,0,0,0,1,0,0,0,0,0,0,0,0,0,0,0,0,0,0,0,2,3,0] (by as_aux_lemma=>kernel_rfl) (by as_aux_lemma=>kernel_rfl) (by as_aux_lemma=>kernel_rfl) (by as_aux_lemma=>kernel_rfl) (by omega) (.inl rfl) rfl (by as_aux_lemma=>kernel_rfl) (PHw.st ⟨by decide,by decide,(23,7),by decide,rfl,rfl⟩) (PHw.start (qC.kept fun _ _=>rfl)) ?_
 apply zC2;refine⟨fun ys=>?_,fun ops K hK=>?_⟩
 ·simp only[List.take_succ_cons,List.take_zero,j0p,List.filterMap_cons,List.filterMap_nil,j0r];go_simp
  rfl
 simp only[List.take_succ_cons,List.take_zero,List.drop_succ_cons,List.drop_zero] at hK ⊢
 iterate 7
  refine LexT.const THw.rf ?_;apply zC2;refine⟨fun ys w' hp hpk hq hd=>?_,?_⟩
  ·try simp[j0d,j0f,DF.holds,Region.binds,EqF] at hd
   try simp only[hd]
   obtain⟨c0,c1,c2,c3,c4,c5⟩:=cu.o w' hp;clear hp hpk hq;intro Q2 a0;go_wp2_with fail
   rfl
  try simp only[nl9]
 refine LexT.some (fun v _=>∃ x:Nat,v=.int .i64 (x:Int)∧1<=x∧x<nh) (fun _ _ _ _ _ _ _ h=>h) (fun ys w' hp hpk hq hd=>?_) ?_
 ·try simp[j0d,j0f,DF.holds,Region.binds,EqF] at hd
  try simp only[hd]
  intro Q2 a0;go_wp2_with fail
  refine(j1f H (M3+1+1+1) 1 ((nh:Int)-1) _ hpk (by omega) (by omega) (by omega)).mono ?_
  rintro e w2 ⟨xi,rfl,aD,aG,az⟩;obtain⟨x,rfl⟩:=zB7 (show 0<=xi by omega)
  have HX:=zQ9 (show THw H (M3+1+1+1) 1 w' w2∧1<=x∧x<nh from⟨az,by omega,by omega⟩)
  clear az aD aG;go_wp2
  exact⟨_,rfl,HX.o.1,x,rfl,HX.o.2⟩
 try simp only[nl9]
 refine LexT.some (fun v _=>∃ x:Nat,v=.int .i64 ((f:Int)+(x:Int))∧1<=x∧x<nh) (fun _ _ _ _ _ _ _ h=>h) (fun ys w' hp hpk hq hd=>?_) ?_
 ·try simp[j0d,j0f,DF.holds,Region.binds,EqF] at hd
  try simp only[hd]
  obtain⟨ic,x,io,aD,aG⟩:=hd;simp only[ic,io];intro Q2 a0;go_wp2_with fail
  exact⟨rfl,x,rfl,aD,aG⟩
 try simp only[nl9]
 iterate 3
  refine LexT.const THw.rf ?_;apply zC2;refine⟨fun ys w' hp hpk hq hd=>?_,?_⟩
  ·try simp[j0d,j0f,DF.holds,Region.binds,EqF] at hd
   try simp only[hd]
   obtain⟨c0,c1,c2,c3,c4,c5⟩:=cu.o w' hp;clear hp hpk hq;intro Q2 a0;go_wp2_with fail
   rfl
  try simp only[nl9]
 refine LexT.some (fun v _=>∃ pp:Nat,v=.int .i64 (pp:Int)∧pp<nh∧f≠pp) (fun _ _ _ _ _ _ _ h=>h) (fun ys w' hp hpk hq hd=>?_) ?_
 ·try simp[j0d,j0f,DF.holds,Region.binds,EqF] at hd
  try simp only[hd]
  obtain⟨⟨x,mr,aD,aG⟩,ke,-⟩:=hd;simp only[mr,ke];intro Q2 a0;go_wp2_with fail
  refine(q0q f x nh _ n6 (by omega) (by omega) (by omega)).mono ?_
  rintro e w2 ⟨pp,rfl,ai,nE,rfl⟩;have HX:=zQ9 (zA9 ai nE);clear ai nE;go_wp2
  exact⟨_,rfl,rfl,pp,rfl,HX.o⟩
 try simp only[nl9]
 iterate 10
  refine LexT.const THw.rf ?_;apply zC2;refine⟨fun ys w' hp hpk hq hd=>?_,?_⟩
  ·try simp[j0d,j0f,DF.holds,Region.binds,EqF] at hd
   try simp only[hd]
   obtain⟨c0,c1,c2,c3,c4,c5⟩:=cu.o w' hp;clear hp hpk hq;intro Q2 a0;go_wp2_with fail
   rfl
  try simp only[nl9]
 refine LexT.some (fun v w=>∃ s:Sg,v=vSg s∧(seen s 0 0=0∧popI s.n<=tn)∧Hd w H (M3+1+1+1+111)) (THw.keep2 ⟨by decide,by decide,(23,7),by decide,rfl,rfl⟩) (fun ys w' hp hpk hq hd=>?_) ?_
 ·try simp[j0d,j0f,DF.holds,Region.binds,EqF] at hd
  obtain⟨cv,fD,-⟩:=hd;simp only[cv,fD];intro Q2 a0;go_wp2_with fail
  refine(k5m H (M3+1+1+1+1) tn _ hpk (by omega) (by omega)).mono ?_
  rintro e w2 ⟨s,rfl,a7,pr,az⟩;have br:Dealt w' w2 H (M3+1+1+1+111):=az.mono (by omega)
  have HX:=zQ9 (show THw H (M3+1+1+1) 2 w' w2∧(seen s 0 0=0∧popI s.n<=tn)∧Hd w2 H (M3+1+1+1+111) from⟨br,⟨a7,pr⟩,br.hd⟩)
  clear az br a7 pr;go_wp2
  exact⟨_,rfl,HX.o.1,s,rfl,HX.o.2⟩
 try simp only[nl9]
 refine LexT.some (fun v _=>∃ s:Sg,v=vSg (j2p mk s)∧(seen s 0 0=0∧popI s.n<=tn)) (fun _ _ _ _ _ _ _ h=>h) (fun ys w' hp hpk hq hd=>?_) ?_
 ·try simp[j0d,j0f,DF.holds,Region.binds,EqF] at hd
  obtain⟨dH,s,gE,a7,-⟩:=hd;simp only[dH,gE];have cw:=(j3h b5 mk (zB4 gD.o)).1;have f9:=j6o a7.1;intro Q2 a0;go_wp2_with fail
  refine(k7u mk s _ cw.1 cw.2 f9.1.1 f9.1.2).mono ?_;rintro e w2 ⟨rfl,p9⟩;have HX:=zQ9 (show THw H (M3+1+1+1) 3 w' w2∧(seen s 0 0=0∧popI s.n<=tn) from⟨p9,a7⟩)
  clear p9 a7 cw f9;go_wp2
  exact⟨_,rfl,HX.o.1,s,rfl,HX.o.2⟩
 try simp only[nl9]
 refine LexT.some (fun v _=>∃ (pp:Nat) (s:Sg),v=dv ⟨5,f,0,0,pp,0,0,j2p mk s⟩∧(pp<nh∧f≠pp)∧(seen s 0 0=0∧popI s.n<=tn)) (fun _ _ _ _ _ _ _ h=>h) (fun ys w' hp hpk hq hd=>?_) ?_
 ·try simp[j0d,j0f,DF.holds,Region.binds,EqF] at hd
  obtain⟨h3,⟨pp,jB,ai⟩,s,fB,pd⟩:=hd;simp only[h3,jB,fB];have HX:=zQ9 (zA9 ai pd);clear ai pd;unfold vSg;intro Q2 a0;go_wp2_with fail
  exact⟨rfl,pp,s,rfl,HX.o.1,HX.o.2⟩
 try simp only[nl9]
 refine hK _ fun ys w6 hp hF=>?_
 simp[AllF,DF.holds] at hF;obtain⟨-,-,-,-,-,-,-,-,-,-,-,-,-,-,-,-,-,-,-,-,-,-,-,⟨-,-,-,o0⟩,-,pp,s,av,qm,pE⟩:=hF;simp only[av];unfold dv;have a1:=qh.o.dealt ⟨o0,hp⟩;obtain⟨sw,cA⟩:∃ sw,sw=j2p mk s:=⟨_,rfl⟩;rw[<-cA];have aF:=zQ9 (zA9 cA pE);have qq:=zQ9 a1;obtain⟨e0,e1,e2,e3,e4,e5,e6,e7,e8,e9,qr,qv⟩:=blkD a1.bx;obtain⟨z0,z1,z2,qx,z4,z5,z6,z7,z8,z9,qs,qF⟩:=zA9 (frz a1.bx 0) (zA9 (frz a1.bx 1) (zA9 (frz a1.bx 2) (zA9 (frz a1.bx 3) (zA9 (frz a1.bx 4) (zA9 (frz a1.bx 5) (zA9 (frz a1.bx 6) (zA9 (frz a1.bx 7) (zA9 (frz a1.bx 8) (zA9 (frz a1.bx 9) (zA9 (frz a1.bx 10) (frz a1.bx 11)))))))))));clear a1 av o0 hp cA pE;go_upto_region 44 with fail
 have i7:=qq.o.deed ⟨5,f,0,0,pp,0,0,sw⟩;obtain⟨V,hV⟩:∃ V,V=setL w6 p (l12 ⟨5,f,0,0,pp,0,0,sw⟩):=⟨_,rfl⟩;rw[<-hV] at i7;simp only[setL,l12] at hV;rw[<-hV];clear e0 e1 e2 e3 e4 e5 e6 e7 e8 e9 qr qv z0 z1 z2 qx z4 z5 z6 z7 z8 z9 qs qF;clear hV;obtain⟨a3,ao⟩:=qm;have ak:=i7.drew1;obtain⟨rg,qG,g1,cg,aH,r9,qp,g2,g3,g4,r5,g5,g6,g7,qj,g8,ns⟩:=ak.c2 HC.o.sh n6 a6 a3 a6 (.inl ao);obtain⟨qk,ng⟩:=g8;cases qp;obtain⟨V1,aw⟩:∃ V1,V1=V.drew.setCell ⟨g1,o,none⟩ (.int .i64 (getG gs f o-1)):=⟨_,rfl⟩;obtain⟨qE,n1⟩:=ng (getG gs f o-1);rw[<-aw] at qE n1;obtain⟨V2,aE⟩:∃ V2,V2=V1.setCell ⟨aH,o,none⟩ (.int .i64 (getG gs pp o+1)):=⟨_,rfl⟩;obtain⟨r3,rh,r7,rd,r8,re⟩:=g5;have mE:V1.heap[p]?=some (dObj ⟨5,f,0,0,pp,0,0,sw⟩):=by rw[aw];exact(zB1 _ ⟨g1,o,none⟩ _ _ (by show p≠g1;omega)).trans ak.bx
 have ay:V2.heap[p]?=some (dObj ⟨5,f,0,0,pp,0,0,sw⟩):=by rw[aE];exact(zB1 _ ⟨aH,o,none⟩ _ _ (by show p≠aH;omega)).trans mE
 have aa:V1≠V.drew:=fun e=>by
  have h1:=World.cell?_setCell_same' V.drew ⟨g1,o,none⟩ (.int .i64 (getG gs f o-1)) (by rw[g6];rfl)
  rw[<-aw,e,g6] at h1;injection h1 with h1
  injection h1 with _ h1
  omega
 have aA:V2≠V.drew:=fun e=>by
  have h1:=World.cell?_setCell_same' V1 ⟨aH,o,none⟩ (.int .i64 (getG gs pp o+1)) (by rw[n1];rfl)
  rw[<-aE,e,qj] at h1;injection h1 with h1
  injection h1 with _ h1
  omega
 have ph:=zQ9 (fun(w':World) (hp:PS2 V.drew V1 V2 0 w')=>(show w'.cell? ⟨p,4,none⟩=some (.int .i64 (pp:Int)) from by
  have hb:w'.heap[p]?=some (dObj ⟨5,f,0,0,pp,0,0,sw⟩):=by
   rcases hp with h|h|h
   ·rw[h];exact ak.bx
   ·rw[h];exact mE
   ·rw[h];exact ay
  exact(blkD hb).2.2.2.2.1))
 obtain⟨d0,d1,d2,d3,d4,d5,-⟩:=blkD ak.bx;have qD:0<=getG gs pp o∧getG gs pp o<=80:=by
  have:=HC.o.r.bd (f:=pp) (o:=o) (by rw[HC.o.nk];exact a3) (by rw[HC.o.nl];exact a6)
  have:=HC.o.d6;omega
 have a2:=zQ9 (zA9 aw (zA9 aE (zA9 aa aA)));have HK:=zQ9 ns;clear i7 ak ns qk ng aw aE mE ay aa aA;refine j0q 33 30 1 [29,18,0,1,2,3,4,9,11,12,13,14,15,16,17,23,26] [(32,30)] 10 (TS2 V.drew V1 V2) (PS2 V.drew V1 V2) [0,0,0,0,0,0,0,0,0,0,0,0,0,0,0,0,0,0,0,0,0,0,0,0,0,0,0,0,0,0,1,0,2] (by as_aux_lemma=>kernel_rfl) (by as_aux_lemma=>kernel_rfl) (by as_aux_lemma=>kernel_rfl) (by as_aux_lemma=>kernel_rfl) (by omega) (.inr rfl) (by as_aux_lemma=>kernel_rfl) (by as_aux_lemma=>kernel_rfl) (PS2.st ⟨by decide,by decide,(32,30),by decide,rfl,rfl⟩) (fun k=>PS2.start k) ?_
 apply zC2;refine⟨fun ys=>?_,fun ops K hK=>?_⟩
 ·simp only[List.take_succ_cons,List.take_zero,j0p,List.filterMap_cons,List.filterMap_nil,j0r];go_simp
  rfl
 simp only[List.take_succ_cons,List.take_zero,List.drop_succ_cons,List.drop_zero] at hK ⊢
 iterate 5
  refine LexT.const (fun _=>rfl) ?_
  apply zC2;refine⟨fun ys w' hp hpk hq hd=>?_,?_⟩
  ·try simp[j0d,j0f,DF.holds,Region.binds,EqF] at hd
   try simp only[hd]
   replace hq:w'=V.drew:=hq (by simp)
   subst hq;clear hpk hp;intro Q2 a0;go_wp2_with fail
   rfl
  try simp only[nl9]
 iterate 2
  refine LexT.const (fun _=>rfl) ?_
  apply zC2;refine⟨fun ys w' hp hpk hq hd=>?_,?_⟩
  ·try simp[j0d,j0f,DF.holds,Region.binds,EqF] at hd
   try simp only[hd]
   clear hp hpk hq;intro Q2 a0;go_wp2_with fail
   rfl
  try simp only[nl9]
 iterate 1
  refine LexT.const (fun _=>rfl) ?_
  apply zC2;refine⟨fun ys w' hp hpk hq hd=>?_,?_⟩
  ·try simp[j0d,j0f,DF.holds,Region.binds,EqF] at hd
   try simp only[hd]
   obtain d4:=ph.o w' hp;clear hp hpk hq;intro Q2 a0;go_wp2_with fail
   rfl
  try simp only[nl9]
 iterate 1
  refine LexT.const (fun _=>rfl) ?_
  apply zC2;refine⟨fun ys w' hp hpk hq hd=>?_,?_⟩
  ·try simp[j0d,j0f,DF.holds,Region.binds,EqF] at hd
   try simp only[hd]
   clear hp hpk hq;intro Q2 a0;go_wp2_with fail
   rfl
  try simp only[nl9]
 iterate 1
  refine LexT.const (fun _=>rfl) ?_
  apply zC2;refine⟨fun ys w' hp hpk hq hd=>?_,?_⟩
  ·try simp[j0d,j0f,DF.holds,Region.binds,EqF] at hd
   try simp only[hd]
   replace hq:w'=V.drew:=hq (by simp)
   subst hq;clear hpk hp;intro Q2 a0;go_wp2_with fail
   rfl
  try simp only[nl9]
 iterate 1
  refine LexT.const (fun _=>rfl) ?_
  apply zC2;refine⟨fun ys w' hp hpk hq hd=>?_,?_⟩
  ·try simp[j0d,j0f,DF.holds,Region.binds,EqF] at hd
   try simp only[hd]
   clear hp hpk hq;intro Q2 a0;go_wp2_with fail
   rfl
  try simp only[nl9]
 iterate 8
  refine LexT.const (fun _=>rfl) ?_
  apply zC2;refine⟨fun ys w' hp hpk hq hd=>?_,?_⟩
  ·try simp[j0d,j0f,DF.holds,Region.binds,EqF] at hd
   try simp only[hd]
   replace hq:w'=V.drew:=hq (by simp)
   subst hq;clear hpk hp;intro Q2 a0;go_wp2_with fail
   rfl
  try simp only[nl9]
 iterate 2
  refine LexT.const (fun _=>rfl) ?_
  apply zC2;refine⟨fun ys w' hp hpk hq hd=>?_,?_⟩
  ·try simp[j0d,j0f,DF.holds,Region.binds,EqF] at hd
   try simp only[hd]
   clear hp hpk hq;intro Q2 a0;go_wp2_with fail
   rfl
  try simp only[nl9]
 iterate 1
  refine LexT.const (fun _=>rfl) ?_
  apply zC2;refine⟨fun ys w' hp hpk hq hd=>?_,?_⟩
  ·try simp[j0d,j0f,DF.holds,Region.binds,EqF] at hd
   try simp only[hd]
   obtain d4:=ph.o w' hp;clear hp hpk hq;intro Q2 a0;go_wp2_with fail
   rfl
  try simp only[nl9]
 iterate 1
  refine LexT.const (fun _=>rfl) ?_
  apply zC2;refine⟨fun ys w' hp hpk hq hd=>?_,?_⟩
  ·try simp[j0d,j0f,DF.holds,Region.binds,EqF] at hd
   try simp only[hd]
   clear hp hpk hq;intro Q2 a0;go_wp2_with fail
   rfl
  try simp only[nl9]
 iterate 1
  refine LexT.const (fun _=>rfl) ?_
  apply zC2;refine⟨fun ys w' hp hpk hq hd=>?_,?_⟩
  ·try simp[j0d,j0f,DF.holds,Region.binds,EqF] at hd
   try simp only[hd]
   replace hq:w'=V.drew:=hq (by simp)
   subst hq;clear hpk hp;intro Q2 a0;go_wp2_with fail
   rfl
  try simp only[nl9]
 iterate 2
  refine LexT.const (fun _=>rfl) ?_
  apply zC2;refine⟨fun ys w' hp hpk hq hd=>?_,?_⟩
  ·try simp[j0d,j0f,DF.holds,Region.binds,EqF] at hd
   try simp only[hd]
   clear hp hpk hq;intro Q2 a0;go_wp2_with fail
   rfl
  try simp only[nl9]
 iterate 1
  refine LexT.const (fun _=>rfl) ?_
  apply zC2;refine⟨fun ys w' hp hpk hq hd=>?_,?_⟩
  ·try simp[j0d,j0f,DF.holds,Region.binds,EqF] at hd
   try simp only[hd]
   replace hq:w'=V.drew:=hq (by simp)
   subst hq;clear hpk hp;intro Q2 a0;go_wp2_with fail
   rfl
  try simp only[nl9]
 iterate 2
  refine LexT.const (fun _=>rfl) ?_
  apply zC2;refine⟨fun ys w' hp hpk hq hd=>?_,?_⟩
  ·try simp[j0d,j0f,DF.holds,Region.binds,EqF] at hd
   try simp only[hd]
   clear hp hpk hq;intro Q2 a0;go_wp2_with fail
   rfl
  try simp only[nl9]
 iterate 1
  refine LexT.const (fun _=>rfl) ?_
  apply zC2;refine⟨fun ys w' hp hpk hq hd=>?_,?_⟩
  ·try simp[j0d,j0f,DF.holds,Region.binds,EqF] at hd
   try simp only[hd]
   replace hq:w'=V.drew:=hq (by simp)
   subst hq;clear hpk hp;intro Q2 a0;go_wp2_with fail
   rfl
  try simp only[nl9]
 refine LexT.some (fun _ w=>w≠V.drew) (fun j v w1 w2 hc _ hT h=>TS2.keep1 a2.o.2.2.2 j v w1 w2 hc hT h) (fun ys w' hp hpk hq hd=>?_) ?_
 ·try simp[j0d,j0f,DF.holds,Region.binds,EqF] at hd
  try simp only[hd]
  replace hpk:w'=V.drew:=hpk;subst hpk;intro Q2 a0;go_wp2_with fail
  exact⟨⟨rfl,a2.o.1.symm⟩,fun e=>a2.o.2.2.1 (a2.o.1.trans e)⟩
 try simp only[nl9]
 iterate 1
  refine LexT.const (fun _=>rfl) ?_
  apply zC2;refine⟨fun ys w' hp hpk hq hd=>?_,?_⟩
  ·try simp[j0d,j0f,DF.holds,Region.binds,EqF] at hd
   try simp only[hd]
   clear hp hpk hq;intro Q2 a0;go_wp2_with fail
   rfl
  try simp only[nl9]
 refine LexT.some (fun _ w=>w=V2) (TS2.keep2 ⟨by decide,by decide,(32,30),by decide,rfl,rfl⟩) (fun ys w' hp hpk hq hd=>?_) ?_
 ·try simp[j0d,j0f,DF.holds,Region.binds,EqF] at hd
  have oc:=hd.2.2.1;simp only[hd.1,hd.2.1];clear hd;replace hpk:w'=V1:=by
   rcases(show w'=V.drew∨w'=V1 from hpk) with h|h
   ·exact absurd h oc
   ·exact h
  subst hpk;clear oc hq hp;intro Q2 a0;go_wp2_with fail
  exact⟨⟨rfl,a2.o.2.1.symm⟩,a2.o.2.1.symm⟩
 try simp only[nl9]
 refine hK _ fun ys w' hp hF=>?_
 simp[AllF,DF.holds] at hF;obtain⟨q0,q1,q2,q3,q4,q5,q6,q7,q8,q9,ps,oi,pa,nv,n9,n2,p7,nf,p4,nt,oz,pt,o1,ou,pf,p6,oG,o6,na,oH,-,pn,hw⟩:=hF;subst hw;simp only[q0,q1,q2,q3,q4,q5,q6,q7,q8,q9,ps,oi,pa,nv,n9,n2,p7,nf,p4,nt,oz,pt,o1,ou,pf,p6,oG,o6,na,oH,pn];clear q0 q1 q2 q3 q4 q5 q6 q7 q8 q9 ps oi pa nv n9 n2 p7 nf p4 nt oz pt o1 ou pf p6 oG o6 na oH pn hp hK;go_wp2_with fail
 have hz:=HK.o (getG gs f o-1) (-1) (getG gs pp o+1) 1 (by omega) rfl
 rw[<-a2.o.1,<-a2.o.2.1] at hz;have aq:=j3h b5 mk (zB4 gD.o);refine HQ _ _ _ _ _ _ _ _ _ _ _ _ _ _ _ _ _ _ _ _ _ _ _ _ _ _ _ _ _ _ _ _ _ _ _ _ _ _ _ _ _ _ _ _ _ _ _ _ _ _ _ _ _ _ _ _ _ _ _ _ _ _ _ _ _ _ _ _ _ _ _ _ _ _ _ _ _ _ _ _ _ _ _ _ _ _ _ _ _ _ _ _ _ _ _ _ _ _ _ _ _ _ _ _ _ _ _ _ _ _ _ _ _ _ _ _ _ _ _ _ _ _ _ _ _ _ _ _ _ _ _ _ _ _ _ _ _ _ _ _ _ _ _ _ _ _ _ _ _ _ _ _ _ _ _ _ _ _ _ _ _ _ _ _ _ _ _ _ _ _ _ _ _ _ _ _ _ _ _ _ _ _ _ _ _ _ _ _ _ _ _ _ _ _ _ _ _ _ _ _ _ _ _ _ _ _ _ _ _ _ _ _ _ _ _ _ _ _ _ _ _ _ _ _ _ _ _ _ _ _ _ _ _ _ _ _ _ _ _ _ _ _ _ _ _ _ _ _ _ _ _ _ _ _ _ _ _ _ _ _ _ _ _ _ _ _ _ _ _ _ _ _ _ _ _ _ _ _ _ _ _ _ _ _ _ _ _ _ _ _ _ _ _ _ ?_;refine⟨o,_,_,_,rfl,RD.mono hz (by omega),HC.o.r.strayed HC.o.fk (by rw[HC.o.nk];exact a3) ao (by rw[HC.o.nl];exact a6) qw ?_ ?_⟩
 ·rw[aF.o.1];exact k9k gD.o (k6q aq.1 (j6o aF.o.2.1).1 (by have:=aF.o.2.2;omega))
 ·rw[aF.o.1];exact k7o aq
end Go.Proofs.YtmennjmjakdkcaaGreat
