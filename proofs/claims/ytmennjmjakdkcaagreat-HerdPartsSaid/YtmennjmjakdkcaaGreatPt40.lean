/- HerdParts. -/
import Derived.Test.YtmennjmjakdkcaaGreatPt39
import Derived.Deep.Slices
import Derived.Deep.Fields
import Derived.Deep.Strs
import Derived.ChangeSame
set_option linter.unusedVariables false
set_option linter.unusedSimpArgs false
set_option maxRecDepth 400000
set_option maxHeartbeats 40000000
namespace Go.Proofs.YtmennjmjakdkcaaGreat
open Go.RowKit
theorem HerdParts_any (b:Hb) (flock:Int) (B:Option Addr) (mb cb:Nat) (ss:List Sg) (d:De) (A:Option Addr) (n c:Nat) (bs:List Int) (w:World) (hin:HbIn w b) (hz:HbZ w b) (gt:Sights w B mb ss) (dH:mb<=cb) (cq:cb<=maxLen) (ge:B=none->cb=0) (hi:Ints w A n bs) (hn:n<=9223372036854775807) :
 Calls Tryz.prog 4 #[b.v,.int .i64 flock,.slice B mb cb,dv d,.slice A n c] w fun e w'=>e=.returned (.bool true)∧Below w.heap.size w w':=by
 obtain⟨V,hV⟩:∃ V,V=(w.alloc b.obj).alloc (dObj d):=⟨_,rfl⟩;obtain⟨p,hp⟩:∃ p,p=w.heap.size:=⟨_,rfl⟩;have bo:DB9 w b d p V:=by rw[hV,hp];exact DB9.start w b d
 have HI:=zQ9 (zA9 (hin.below bo.2.2 (zL9 _)) (zA9 (hz.below bo.2.2 (zL9 _)) (zA9 (hi.below bo.2.2 (zL9 _)) (zA9 (gt.below bo.2.2 (zL9 _)) ge))));have HB:=zQ9 bo;obtain⟨c0,c1,c2,c3,c4⟩:=j0h HB.o.1;have kt:=j0a HB.o.1;have m4:mb<=9223372036854775807:=by unfold maxLen at cq;omega
 have cc:=q5h b V HI.o.1;obtain⟨R,hR⟩:∃ R,R=k8c b V:=⟨_,rfl⟩;rw[<-hR] at cc;have HR:=zQ9 hR;unfold Hb.v at cc;unfold Hb.v dv;clear bo hin hz hi hR gt ge;go_enter Tryz.func4,Tryz.ntmps4
 go_upto_region 1 with (fail)
 rw[show(w.alloc (.cells #[.int .i64 b.t,b.vm,b.vk,b.vh,b.vd] 29)).alloc (.cells #[.int .i64 d.kind,.int .i64 d.flock,.int .i64 d.owner,.int .i64 d.other,.int .i64 d.tof,.int .i64 d.many,.int .i64 d.err,.int .i64 d.s.n,.bool d.s.l,.bool d.s.r,.int .i64 d.s.b,.int .i64 d.s.p] 33)=V from hV.symm,<-hp]
 clear hV hp;by_cases h20:mb<=20
 ·have dq:¬(20:Int)<(mb:Int):=by omega
  go_upto_if 41 with (go_at_call 7;(with_reducible refine cc.mono ?_);rintro e w1 hL;rw[HR.o] at hL;obtain⟨q,rfl,hq,bC⟩:=hL;have HQ:=zQ9 hq;have aw:=zQ9 bC;clear hq bC;cases q)
  ·have HS:=zQ9 (HQ.o trivial);have fF:=q1b A n c bs w1 (HI.o.2.2.1.below aw.o (zL9 _)) hn;clear HQ c0 c1 c2 c3 c4 kt cc;go_upto_region 4 with (go_at_call 9;(with_reducible refine fF.mono ?_);rintro e w2 ⟨rfl,hh,aE,ga⟩;have H2:=zQ9 (zA9 hh (zA9 aE ga));clear hh aE ga)
   obtain⟨H,hH⟩:∃ H,H=w1.heap.size:=⟨_,rfl⟩;have ct:=k5l w1.heap.size 0 3 2 5 w2 H2.o.1 (by omega) (by omega) (by omega) (by omega)
   rw[<-hH] at ct ⊢;obtain⟨R2,f9⟩:∃ R,R=TaleR w2 H (0+100000) 3 2 5:=⟨_,rfl⟩;rw[<-f9] at ct;have cF:=zQ9 (zA9 f9 hH);clear fF f9 hH;go_upto_region 5 with (go_at_call 20;refine ct.mono ?_;rintro e w3 hM;rw[cF.o.1] at hM;obtain⟨M,vE,vG,vW,gs,iq,whose,rfl,aF,bB,c8,ak,om,ok,oh,od,oE,oG,oW,gu,bi,aA⟩:=hM;have hO:=HbO.mk om ok oh od;obtain⟨AE,cE,rfl,-,ff,fC⟩:=oE.ownG.form;have H3:=zQ9 (zA9 aF (zA9 hO (zA9 aA (zA9 oE.ownG (zA9 gu (zA9 bi (zA9 ff fC)))))));clear aF bB c8 ak om ok oh od oE oG oW gu bi aA hO ff fC;unfold Hb.v)
   clear ct;obtain⟨m,hm⟩:∃ m,m=w3.heap.size:=⟨_,rfl⟩;obtain⟨w4,bu⟩:∃ w4,w4=w3.alloc M.obj:=⟨_,rfl⟩;rw[show w3.alloc (.cells #[.int .i64 M.t,.slice M.A M.l.length M.c,.slice M.Ak M.ks.length M.ck,.slice M.Ah M.hs.length M.ch,.slice M.Ad M.ds.length M.cd] 29)=w4 from bu.symm,<-hm]
   have ae:=j2x H3.o.1;have f6:H<w2.heap.size:=by have:=H2.o.2.2;have:=cF.o.2;omega
   have cx:w4.heap[m]?=some M.obj:=by rw[bu,hm];exact j0c rfl
   have kE:Dealt w2 w4 H (0+100000):=by rw[bu];exact H3.o.2.2.1.alloc _
   have dh:H<m:=by have:=H3.o.2.2.1.gr.size;omega
   obtain⟨c0,c1,c2,c3,c4⟩:=j0h cx;have jc:=j0a cx;have mo:0<M.ks.length∧M.ks.length<=3:=⟨ae.f0,ae.f3⟩;have fw:Below w3.heap.size w3 w4:=by rw[bu];exact bal0 w3 _
   have H4:=zQ9 (zA9 cx (zA9 kE (zA9 ae (zA9 f6 (zA9 dh fw)))));clear bu hm cx ae fw;go_upto_region 6 with (go_at_call 12;refine(j1l H (0+100000) ((M.ks.length:Int)-1) _ H4.o.2.1.hd (by omega) (by omega)).mono ?_;rintro e w5 ⟨f,rfl,hf,fg⟩;have H5:=zQ9 (zA9 hf fg);clear hf fg)
   clear c0 c1 c2 c3 c4 jc;have f7:=k4n H (0+100000+1) 3 2 4 w5 H5.o.2.hd (by omega) (by omega) (by omega) (by omega)
   obtain⟨mn,bh⟩:∃ R,R=HerdR w5 H (0+100000+1+200000) 3 2 4:=⟨_,rfl⟩;rw[<-bh] at f7;have dy:=zQ9 bh;clear bh;go_upto_region 7 with (go_at_call 10;refine f7.mono ?_;rintro e w6 hM;rw[dy.o] at hM;obtain⟨O,rfl,aF,bB,c8,ak,hO,aA⟩:=hM;have cj:=zQ9 (zA9 aF (zA9 hO (zA9 aA ak)));clear aF bB c8 ak hO aA;unfold Hb.v)
   clear f7;obtain⟨o,ho⟩:∃ m,m=w6.heap.size:=⟨_,rfl⟩;obtain⟨w7,br⟩:∃ w4,w4=w6.alloc O.obj:=⟨_,rfl⟩;rw[show w6.alloc (.cells #[.int .i64 O.t,.slice O.A O.l.length O.c,.slice O.Ak O.ks.length O.ck,.slice O.Ah O.hs.length O.ch,.slice O.Ad O.ds.length O.cd] 29)=w7 from br.symm,<-ho]
   have b1:w7.heap[o]?=some O.obj:=by rw[br,ho];exact j0c rfl
   have ft:Dealt w5 w7 H (0+100000+1+200000):=by rw[br];exact cj.o.2.2.1.alloc _
   have fB:Below w6.heap.size w6 w7:=by rw[br];exact bal0 w6 _
   have cg:H<o:=by have:=cj.o.2.2.1.gr.size;have:=H5.o.2.gr.size;have:=H4.o.2.1.gr.size;omega
   have b7:=zQ9 (zA9 b1 (zA9 ft (zA9 fB cg)));clear br ho b1 ft fB cg;have be:=k4n H (0+100000+1+200000) 3 2 4 w7 b7.o.2.1.hd (by omega) (by omega) (by omega) (by omega)
   obtain⟨mt,b8⟩:∃ R,R=HerdR w7 H (0+100000+1+200000+200000) 3 2 4:=⟨_,rfl⟩;rw[<-b8] at be;have dj:=zQ9 b8;clear b8;go_upto_region 8 with (go_at_call 10;refine be.mono ?_;rintro e w8 hM;rw[dj.o] at hM;obtain⟨M2,rfl,aF,bB,c8,ak,hO,aA⟩:=hM;have bt:=zQ9 (zA9 aF (zA9 hO (zA9 aA ak)));clear aF bB c8 ak hO aA;unfold Hb.v)
   clear be;obtain⟨o2,be⟩:∃ m,m=w8.heap.size:=⟨_,rfl⟩;obtain⟨w9,bE⟩:∃ w4,w4=w8.alloc M2.obj:=⟨_,rfl⟩;rw[show w8.alloc (.cells #[.int .i64 M2.t,.slice M2.A M2.l.length M2.c,.slice M2.Ak M2.ks.length M2.ck,.slice M2.Ah M2.hs.length M2.ch,.slice M2.Ad M2.ds.length M2.cd] 29)=w9 from bE.symm,<-be]
   have b2:w9.heap[o2]?=some M2.obj:=by rw[bE,be];exact j0c rfl
   have g1:Dealt w7 w9 H (0+100000+1+200000+200000):=by rw[bE];exact bt.o.2.2.1.alloc _
   have dr:Below w8.heap.size w8 w9:=by rw[bE];exact bal0 w8 _
   have bp:=zQ9 (zA9 b2 (zA9 g1 (zA9 dr dr)));clear bE be b2 g1 dr;have ay:w2.grownBy w9 (some H):=H4.o.2.1.gr.trans (H5.o.2.gr.trans (b7.o.2.1.gr.trans bp.o.2.1.gr));have ad:Below V.heap.size V w2:=aw.o.trans (H2.o.2.1.mono aw.o.size);have fx:V.heap.size<=H:=by rw[cF.o.2];exact aw.o.size
   have d9:w9.heap[p+1]?=some (dObj d):=(ay.block (p+1) (by have:=j0a HB.o.2.1;have:=ad.size;omega) (fun e=>by injection e with e;have:=j0a HB.o.2.1;omega)).trans (j0e HB.o.2.1 ad (zL9 _))
   have p9:w9.heap[p]?=some b.obj:=(ay.block p (by have:=j0a HB.o.1;have:=ad.size;omega) (fun e=>by injection e with e;have:=j0a HB.o.1;omega)).trans (j0e HB.o.1 ad (zL9 _))
   obtain⟨z0,z1,z2,z3,z4,z5,z6,z7,z8,z9,ir,k8⟩:=blkD d9;have kH:=j0a d9;have H9:=zQ9 (zA9 ay (zA9 ad (zA9 fx (zA9 d9 p9))));clear ay ad fx d9 p9;go_upto_region 9 with (fail)
   obtain⟨xq,cn⟩:∃ m,m=w9.heap.size:=⟨_,rfl⟩;obtain⟨ao,av⟩:∃ w4,w4=w9.alloc (dObj d):=⟨_,rfl⟩;rw[show w9.alloc (.cells #[.int .i64 d.kind,.int .i64 d.flock,.int .i64 d.owner,.int .i64 d.other,.int .i64 d.tof,.int .i64 d.many,.int .i64 d.err,.int .i64 d.s.n,.bool d.s.l,.bool d.s.r,.int .i64 d.s.b,.int .i64 d.s.p] 33)=ao from av.symm,<-cn]
   have dG:ao.heap[xq]?=some (dObj d):=by rw[av,cn];exact j0c rfl
   have aa:Below w9.heap.size w9 ao:=by rw[av];exact bal0 w9 _
   have fq:w9.heap.size<=xq:=Nat.le_of_eq cn.symm;have bq:ao.heap[o2]?=some M2.obj:=j0e bp.o.1 aa (zL9 _);have g2:Deeds ao M2.Ad M2.ds.length M2.ds:=((bt.o.2.1.below bp.o.2.2.1 (zL9 _)).below aa (zL9 _)).inn.d;have g7:M2.ds.length<=M2.cd∧M2.cd<=maxLen:=⟨bt.o.2.1.inn.dc,bt.o.2.1.inn.dm⟩;have ak:M2.ds.length<=6:=(j2x bt.o.1).d6;have aD:=zQ9 (zA9 dG (zA9 aa (zA9 fq g2)));have ko:=j0a dG;obtain⟨n2,dk⟩:∃ n2,n2=M2.ds.length:=⟨_,rfl⟩;unfold Hb.obj at bq;rw[<-dk] at bq g7 ak;have jy:=zQ9 dk;obtain⟨jb,bj⟩:∃ A,A=M2.Ad:=⟨_,rfl⟩;rw[<-bj] at bq ⊢;have gE:=zQ9 bj;clear bj;obtain⟨e0,e1,e2,e3,e4⟩:=j0h bq;have cy:=j0a bq;clear av cn dG aa fq bq g2 dk z0 z1 z2 z3 z4 z5 z6 z7 z8 z9 ir k8 kH;go_upto_if 66 with (fail)
   go_cut [] from 63 to 70 (fun wx=>(∃ x:De,wx.heap[xq]?=some (dObj x))∧Below xq ao wx)
   case first =>
    rcases Nat.eq_zero_or_pos n2 with h0|h0
    ·have jv:¬(0:Int)<(n2:Int):=by omega
     clear h0;go_wp2_with fail
     go_meet
     exact⟨⟨d,aD.o.1⟩,zB2 _ _⟩
    ·have jv:(0:Int)<(n2:Int):=by omega
     obtain⟨bd,od,d',hA,m3,hd,p0,p1,p2,p3,p4,p5,p6,p7,p8,p9,i5,ju⟩:=Deeds.get aD.o.2.2.2 (show 0<M2.ds.length by rw[<-jy.o];exact h0)
     have p0:ao.cell? ⟨bd,od,none⟩=some (.int .i64 d'.kind):=by rw[Nat.zero_mul,Nat.add_zero] at p0;exact p0
     rw[Nat.zero_mul,Nat.add_zero] at p1 p2 p3 p4 p5 p6 p7 p8 p9 i5 ju;obtain rfl:jb=some ⟨bd,od,none⟩:=gE.o.trans hA;clear hd hA;go_wp2_with ((with_reducible apply j9f aD.o.1 rfl);(rfl);(rfl);(rfl);(rfl);intro w5 b5 g5 z5)
     go_meet
     exact⟨⟨d',b5⟩,(zB2 xq ao).grown g5 (by omega) (fun j e=>by cases e;exact zL9 _)⟩
   case rest =>
    clear e0 e1 e2 e3 e4 cy g7 ak ko;obtain⟨⟨x,hx⟩,dg⟩:=hcut;obtain⟨wz,fh⟩:∃ W:World,W=wc:=⟨_,rfl⟩;rw[<-fh] at hx dg ⊢;clear fh;have ah:Below w9.heap.size w9 wz:=aD.o.2.1.trans (dg.mono aD.o.2.2.1);have fe:w9.grownBy wz (some H):=k2t ah;have f1:=bp.o.2.1.gr;have cD:=b7.o.2.1.gr;have cv:w7.grownBy wz (some H):=f1.trans fe;have fi:w5.grownBy wz (some H):=cD.trans cv;have cr:w4.grownBy wz (some H):=H5.o.2.gr.trans fi;have dx:w2.grownBy wz (some H):=H9.o.1.trans fe;have fb:V.heap.size<=H:=H9.o.2.2.1;have c6:H<w2.heap.size:=H4.o.2.2.2.1;have f2:=H4.o.1;have dh:H<m:=H4.o.2.2.2.2.1;have cg:H<o:=b7.o.2.2.2;have pz:wz.heap[p]?=some b.obj:=(j0e H9.o.2.2.2.2 ah (zL9 _));have dz:wz.heap[p+1]?=some (dObj d):=(j0e H9.o.2.2.2.1 ah (zL9 _));have iB:p<H:=by have:=j0a HB.o.1;omega
    have gF:p+1<H:=by have:=j0a HB.o.2.1;omega
    have mz:wz.heap[m]?=some M.obj:=(cr.block m (j0a f2) (fun e=>by injection e with e;omega)).trans f2
    have oz:wz.heap[o]?=some O.obj:=(cv.block o (j0a b7.o.1) (fun e=>by injection e with e;omega)).trans b7.o.1
    have i0:H<xq:=by have:=f1.size;have:=cD.size;have:=H5.o.2.gr.size;have:=H4.o.2.1.gr.size;have:=aD.o.2.2.1;omega
    have gm:∀ W,wz.grownBy W (some H)->W.heap[p]?=some b.obj∧W.heap[m]?=some M.obj∧W.heap[o]?=some O.obj∧W.heap[p+1]?=some (dObj d)∧W.heap[xq]?=some (dObj x):=fun W hg =>
     ⟨(hg.block p (j0a pz) (fun e=>by injection e with e;omega)).trans pz,(hg.block m (j0a mz) (fun e=>by injection e with e;omega)).trans mz,(hg.block o (j0a oz) (fun e=>by injection e with e;omega)).trans oz,(hg.block (p+1) (j0a dz) (fun e=>by injection e with e;omega)).trans dz,(hg.block xq (j0a hx) (fun e=>by injection e with e;omega)).trans hx⟩
    have di:HbO wz w2.heap.size M:=(H3.o.2.1.below H4.o.2.2.2.2.2 (zL9 _)).keptG cr c6;have gj:OwnG wz w2.heap.size (.slice AE gs.length cE) gs:=(OwnG.below H3.o.2.2.2.1 H4.o.2.2.2.2.2 (zL9 _)).keptH cr c6;have fc:H<w5.heap.size:=by have:=H5.o.2.gr.size;have:=H4.o.2.1.gr.size;omega
    have gw:HbO wz w5.heap.size O:=(cj.o.2.1.below b7.o.2.2.1 (zL9 _)).keptG cv fc;have ae:=H4.o.2.2.1;have je:gs.length=M.ks.length:=H3.o.2.2.2.2.1.l;have gv:f<M.ks.length:=by have:=H5.o.1;omega
    have fo:(gs.getD f []).length=M.l.length:=H3.o.2.2.2.2.1.row gv;have bi:=H3.o.2.2.2.2.2.1;have g9:∀ o,0<=(gs.getD f []).getD o 0∧(gs.getD f []).getD o 0<=140:=fun o=>by
     rcases Nat.lt_or_ge o 5 with ho|ho
     ·have e:=j1b gs (f:=f) (o:=o) (by have:=ae.f3;omega) ho
      unfold getG at e;have h1:=bi.nn f o (by have:=ae.f3;omega) ho
      have h2:=k0p bi.nn (f:=f) (o:=o) (by have:=ae.f3;omega) ho
      have h3:=bi.tot;have h4:=ae.d6;omega
     ·rw[zB3,List.getElem?_eq_none (by have:=ae.n5;omega)]
      exact⟨Int.le_refl _,by decide⟩
    have aj:=dx.size;have aC:=zQ9 (show HbO wz w2.heap.size M∧OwnG wz w2.heap.size (.slice AE gs.length cE) gs∧H<w2.heap.size∧w2.heap.size<=wz.heap.size∧check M.t M.l=0∧f<gs.length∧(gs.getD f []).length=M.l.length∧(∀ o,0<=(gs.getD f []).getD o 0∧(gs.getD f []).getD o 0<=140) from⟨di,gj,c6,aj,ae.ck,by omega,fo,g9⟩)
    have cC:Hd wz H (0+100000+1+200000+200000):=bp.o.2.1.hd.kept fun j hj=>ah.block j (by have:=bp.o.2.1.hd.lt;omega)
    have iv:=zQ9 cC;have gd:=cC.lt;have iD:=zQ9 gm;have bD:Below V.heap.size V wz:=H9.o.2.1.grown dx H9.o.2.1.size (fun k e=>by cases e;exact fb)
    have HZ:=zQ9 (zA9 di (zA9 gw (zA9 bD (zA9 fb (zA9 c6 fc)))));clear pz dz mz oz gm di gj gw ae fo bi g9 cC bD hx dg ah fe f1 cD cv fi cr dx f2 je iB gF fb aj;go_upto_region 11 with (fail)
    refine pt_lists wz b M O d x gs (gs.getD f []) f flock B mb cb p (p+1) H m AE gs.length cE o xq (0+100000+1+200000+200000) w2.heap.size _ iD iv (by omega) (zQ9 ⟨aC.o.1,aC.o.2.1,rfl,aC.o.2.2.1,aC.o.2.2.2.1,aC.o.2.2.2.2.1,aC.o.2.2.2.2.2.1,aC.o.2.2.2.2.2.2.1,aC.o.2.2.2.2.2.2.2,rfl⟩) gd (zQ9 ?_)
    intro m1 ms mx mi mf m2 mA ma mv mh mj m9 me my m5 mr mw mu m7 mq m8 m6 mg mC r1 r2 r3 r4 u s2 a0 d5 cG d7 d8 fA fj cw;have ai:Below V.heap.size V a0:=HZ.o.2.2.1.grown cw HZ.o.2.2.1.size (fun k e=>by cases e;exact HZ.o.2.2.2.1)
    have dB:HbO a0 w2.heap.size M:=HZ.o.1.keptG cw HZ.o.2.2.2.2.1;have dn:HbO a0 w5.heap.size O:=HZ.o.2.1.keptG cw HZ.o.2.2.2.2.2;have a3:=H4.o.2.2.1;have a4:=j2x cj.o.1;obtain⟨A2,a2,rfl,g8,ce,bG,aj⟩:=Own.formZ fA j8w;have kB:=fj.le;have hL:∀ i,i<4->∃ (X:Hb) (fl:Int) (SB:Option Addr) (sm sc:Nat) (kD:List Sg) (dd:De),(∀ W,Below a0.heap.size a0 W->(W.cell? ⟨r1,0+i*5,none⟩=some (.int .i64 X.t)∧W.cell? ⟨r1,0+i*5+1,none⟩=some X.vm∧W.cell? ⟨r1,0+i*5+2,none⟩=some X.vk∧W.cell? ⟨r1,0+i*5+3,none⟩=some X.vh∧W.cell? ⟨r1,0+i*5+4,none⟩=some X.vd)∧HbIn W X∧HbZ W X∧W.cell? ⟨r2,0+i,none⟩=some (.int .i64 fl)∧W.cell? ⟨r3,0+i,none⟩=some (.slice SB sm sc)∧Sights W SB sm kD∧W.cell? ⟨r4,0+i*12,none⟩=some (.int .i64 dd.kind)∧W.cell? ⟨r4,0+i*12+1,none⟩=some (.int .i64 dd.flock)∧W.cell? ⟨r4,0+i*12+2,none⟩=some (.int .i64 dd.owner)∧W.cell? ⟨r4,0+i*12+3,none⟩=some (.int .i64 dd.other)∧W.cell? ⟨r4,0+i*12+4,none⟩=some (.int .i64 dd.tof)∧W.cell? ⟨r4,0+i*12+5,none⟩=some (.int .i64 dd.many)∧W.cell? ⟨r4,0+i*12+6,none⟩=some (.int .i64 dd.err)∧W.cell? ⟨r4,0+i*12+7,none⟩=some (.int .i64 dd.s.n)∧W.cell? ⟨r4,0+i*12+8,none⟩=some (.bool dd.s.l)∧W.cell? ⟨r4,0+i*12+9,none⟩=some (.bool dd.s.r)∧W.cell? ⟨r4,0+i*12+10,none⟩=some (.int .i64 dd.s.b)∧W.cell? ⟨r4,0+i*12+11,none⟩=some (.int .i64 dd.s.p)) ∧
     (X.l.length<=1000∧X.ks.length<=1000∧X.hs.length<=1000∧X.ds.length<=1000∧(∀ r∈X.hs,r.length<=1000))∧sm<=20∧sm<=sc∧sc<=maxLen∧(SB=none->sc=0):=fun i hi=>by
     have b9:HbIn a0 b∧HbZ a0 b∧(b.l.length<=1000∧b.ks.length<=1000∧b.hs.length<=1000∧b.ds.length<=1000∧(∀ r∈b.hs,r.length<=1000)):=⟨HI.o.1.below ai (zL9 _),HI.o.2.1.below ai (zL9 _),by have:=HS.o.l;omega,by have:=HS.o.k;omega,by have:=HS.o.h;omega,by have:=HS.o.d;omega,fun r hr=>by have:=HS.o.r r hr;omega⟩
     have ac:HbIn a0 M∧HbZ a0 M∧(M.l.length<=1000∧M.ks.length<=1000∧M.hs.length<=1000∧M.ds.length<=1000∧(∀ r∈M.hs,r.length<=1000)):=⟨dB.inn,dB.z,by have:=a3.n5;omega,by have:=a3.f3;omega,by have:=a3.f3;have:=a3.hl;omega,by have:=a3.d6;omega,fun r hr=>by have:=a3.rl r hr;have:=a3.n5;omega⟩
     have aH:HbIn a0 O∧HbZ a0 O∧(O.l.length<=1000∧O.ks.length<=1000∧O.hs.length<=1000∧O.ds.length<=1000∧(∀ r∈O.hs,r.length<=1000)):=⟨dn.inn,dn.z,by have:=a4.n5;omega,by have:=a4.f3;omega,by have:=a4.f3;have:=a4.hl;omega,by have:=a4.d6;omega,fun r hr=>by have:=a4.rl r hr;have:=a4.n5;omega⟩
     have du:Sights a0 B mb ss:=HI.o.2.2.2.1.below ai (zL9 _);have a1:=fun(W:World) (hW:Below a0.heap.size a0 W)=>zA9 (j0e d5 hW (zL9 _)) (zA9 (j0e cG hW (zL9 _)) (zA9 (j0e d7 hW (zL9 _)) (j0e d8 hW (zL9 _))))
     obtain rfl|rfl|rfl|rfl:i=0∨i=1∨i=2∨i=3:=by omega
     ·refine⟨b,flock,B,mb,cb,ss,d,fun W hW=>⟨?_,b9.1.below hW (zL9 _),b9.2.1.below hW (zL9 _),?_,?_,du.below hW (zL9 _),?_⟩,b9.2.2,h20,dH,cq,HI.o.2.2.2.2⟩
      all_goals (obtain⟨k1,k2,k3,k4⟩:=a1 W hW;unfold World.cell?;simp[k1,k2,k3,k4])
     ·refine⟨M,f,A2,s2.length,a2,s2,x,fun W hW=>⟨?_,ac.1.below hW (zL9 _),ac.2.1.below hW (zL9 _),?_,?_,g8.below hW (zL9 _),?_⟩,ac.2.2,by omega,ce,bG,aj⟩
      all_goals (obtain⟨k1,k2,k3,k4⟩:=a1 W hW;unfold World.cell?;simp[k1,k2,k3,k4])
     ·refine⟨M,f,B,mb,cb,ss,d,fun W hW=>⟨?_,ac.1.below hW (zL9 _),ac.2.1.below hW (zL9 _),?_,?_,du.below hW (zL9 _),?_⟩,ac.2.2,h20,dH,cq,HI.o.2.2.2.2⟩
      all_goals (obtain⟨k1,k2,k3,k4⟩:=a1 W hW;unfold World.cell?;simp[k1,k2,k3,k4])
     ·refine⟨O,flock,B,mb,cb,ss,x,fun W hW=>⟨?_,aH.1.below hW (zL9 _),aH.2.1.below hW (zL9 _),?_,?_,du.below hW (zL9 _),?_⟩,aH.2.2,h20,dH,cq,HI.o.2.2.2.2⟩
      all_goals (obtain⟨k1,k2,k3,k4⟩:=a1 W hW;unfold World.cell?;simp[k1,k2,k3,k4])
    have HL:=zQ9 hL;have ky:=j0a d5;have ih:=j0a cG;have ie:=j0a d7;have jz:=j0a d8;have HE:=zQ9 (HB.o.2.2.trans (ai.mono HB.o.2.2.size));clear ai dB dn a3 a4 g8 ce bG aj kB fj fA hL d5 cG d7 d8 cw;clear gd cg i0 dh c6 fc gv;go_upto_region 13 with (fail)
    go_loopg [24,25,26,27,28,29,30,31,32,33,34,95,96,97,98,99,100,101,102,103,104,105,106,107,108,109,110,111,112,113,114,115,116,117,118,119,120,121,122,123,124,125,126,127,128,129,130,131,132,133,134,135,136,137,138,139,140,141,142,143,144,145,146,147,148,149,150,151,152,153,154,155,156,157,158,159,160,161,162,163,164,165,166,167,168,169,170,171,172,173,174,175,176,177,178,179,180,181,182,183,184,185,186,187,188,189,190,191,192,193,194,195,196] 4 (fun gh v24 _ _ _ _ _ _ _ _ _ _ _ _ _ _ _ _ _ _ _ _ _ _ _ _ _ _ _ _ _ _ _ _ _ _ _ _ _ _ _ _ _ _ _ _ _ _ _ _ _ _ _ _ _ _ _ _ _ _ _ _ _ _ _ _ _ _ _ _ _ _ _ _ _ _ _ _ _ _ _ _ _ _ _ _ _ _ _ _ _ _ _ _ _ _ _ _ _ _ _ _ _ _ _ _ _ _ _ _ _ _ _ _ wr=>∃ i:Nat,i+gh=4∧v24=.int .i64 i∧Below a0.heap.size a0 wr)
    case atStart=>exact⟨0,by omega,rfl,zB2 _ _⟩
    case round =>
     obtain⟨i,hi,rfl,bn⟩:=hrel;obtain⟨fv,g0⟩:∃ W:World,W=wr:=⟨_,rfl⟩;rw[<-g0] at bn ⊢;clear g0;by_cases hlt:i<4
     ·obtain⟨X,fl,SB,sm,sc,s',dd,hX,cp,aG,c9,bF,fG⟩:=HL.o i hlt;have i1:(i:Int)<4:=by omega
      have mB:=bn.size;have b6:sm<=maxLen:=by unfold maxLen;omega
      have af:4<=maxLen:=by unfold maxLen;omega
      have ku:X.l.length<=maxLen:=by have:=cp.1;unfold maxLen;omega
      have gp:X.ks.length<=maxLen:=by have:=cp.2.1;unfold maxLen;omega
      have g4:=zQ9 (zA9 cp fG);have HK:=zQ9 (zA9 hi (zA9 bn hX));clear hi bn hX cp fG;go_upto_region 15 with (fail)
      refine pt_copy fv X s' SB sm sc r1 0 4 r3 0 4 i _ (zQ9 fun W hW=>?_) (by omega) (by omega) i1 (zL9 _) af (zL9 _) af aG c9 bF (zQ9 g4.o.2) (zQ9 g4.o.1) (zQ9 ?_)
      ·have h:=HK.o.2.2 W (HK.o.2.1.trans (hW.mono HK.o.2.1.size));exact⟨h.1,h.2.1,h.2.2.1,h.2.2.2.2.1,h.2.2.2.2.2.1⟩
      intro ja kd kA hy ht kg io gA k6 js hF A5 Ak Ah Ad A6 c5 ck ch cd a6 q co hq hO fp i6 ca;obtain⟨Y,hY⟩:∃ Y:Hb,Y=⟨X.t,A5,c5,X.l,Ak,ck,X.ks,Ah,ch,X.hs,Ad,cd,X.ds⟩:=⟨_,rfl⟩;rw[<-hY] at hq hO;obtain⟨b0,bA,dA⟩:=Own.sl fp j8w;have g3:s'.length=sm:=(HK.o.2.2 fv HK.o.2.1).2.2.2.2.2.1.len;rw[g3] at b0 bA;clear g3;have az:Below a0.heap.size a0 co:=HK.o.2.1.trans (ca.mono HK.o.2.1.size);have HQ:=zQ9 (fun W (hW:Below co.heap.size co W)=>show W.heap[q]?=some Y.obj∧HbIn W Y∧HbZ W Y∧Sights W A6 sm s'∧Below a0.heap.size a0 W from⟨j0e hq hW (zL9 _),hO.inn.below hW (zL9 _),hO.z.below hW (zL9 _),b0.below hW (zL9 _),az.trans (hW.mono az.size)⟩)
      have bm:=zQ9 hY;have kw:=az.size;have h9:=j0a hq;clear hY hq hO fp b0 ca az i6;obtain⟨R,hR⟩:∃ R,R=j6v X fl s':=⟨_,rfl⟩;obtain⟨er,d0⟩:∃ er,er=j1n X fl s':=⟨_,rfl⟩;obtain⟨Z,hZ⟩:∃ Z,Z=entZ X dd:=⟨_,rfl⟩;obtain⟨ee,dF⟩:∃ ee,ee=j0x X dd:=⟨_,rfl⟩;have fD:R=j6v Y fl s'∧er=j1n Y fl s':=by rw[bm.o];exact⟨hR,d0⟩
      have gc:Z=entZ Y dd∧ee=j0x Y dd:=by rw[bm.o];exact⟨hZ,dF⟩
      have HR:=zQ9 (zA9 hR d0);have j8:=zQ9 fD;have i9:=zQ9 (zA9 hZ dF);have ke:=zQ9 gc;clear hR d0 hZ dF fD gc;go_upto_region 16 with (fail)
      refine pt_part co Y s' R er fl A6 sm a6 q r2 0 4 i _ j8 (zQ9 fun W hW=>?_) h9 (by omega) (zL9 _) af i1 aG bA dA b6 (zQ9 ?_)
      ·have h:=HQ.o W hW;have k:=HK.o.2.2 W h.2.2.2.2;exact⟨j0h h.1,h.2.1,k.2.2.2.1,h.2.2.2.1⟩
      intro j4 j3 hG jC kz gG kr jt kn im A7 a7 cz g6 ba;obtain⟨fy,f8,dD⟩:=Own.sl g6 j5v;have cf:=zQ9 (zA9 ba fy);have gC:=ba.size;have iA:R.length<=maxLen:=zB6 f8 dD;clear g6 ba fy;go_upto_region 17 with (fail)
      refine pt_part9 cz X s' R er fl SB sm sc r1 0 4 r2 0 4 r3 0 4 i _ HR (zQ9 fun W hW=>?_) (by omega) (by omega) (by omega) (zL9 _) af (zL9 _) af (zL9 _) af gp i1 aG c9 bF b6 (zQ9 ?_)
      ·have k:=HK.o.2.2 W (HQ.o W (cf.o.1.trans (hW.mono cf.o.1.size))).2.2.2.2;exact⟨k.1,k.2.1,k.2.2.2.1,k.2.2.2.2.1,k.2.2.2.2.2.1⟩
      intro j0 iG k9 jA h7 gy jj h6 ij j1 hE h8 j5 ii he k5 A8 a8 dC fE ax;obtain⟨fH,k7,jx⟩:=Own.sl fE j5v;have bf:=zQ9 (zA9 (cf.o.1.trans (ax.mono cf.o.1.size)) (zA9 ax fH));have iH:=ax.size;clear fE ax fH;go_upto_region 18 with (fail)
      refine pt_enter dC Y Z dd ee q r4 0 4 i _ ke (zQ9 fun W hW=>?_) (by omega) (by omega) i1 (zL9 _) af (zQ9 ?_)
      ·have h:=HQ.o W (bf.o.1.trans (hW.mono bf.o.1.size));have k:=HK.o.2.2 W h.2.2.2.2;exact⟨j0h h.1,h.2.1,h.2.2.1,k.2.2.2.2.2.2⟩
      intro hw ip it jr gD iu ig kh kq B1 B2 B3 B4 b1 b2 b3 b4 q1 kj cu cH fa an;obtain⟨Y1,cB⟩:∃ Y:Hb,Y=⟨Z.t,B1,b1,Z.l,B2,b2,Z.ks,B3,b3,Z.hs,B4,b4,Z.ds⟩:=⟨_,rfl⟩;rw[<-cB] at cu cH;have bv:=zQ9 cB;have aB:=zQ9 (zA9 (bf.o.1.trans (an.mono bf.o.1.size)) (zA9 an (zA9 cu cH.inn)));have iz:=an.size;have j7:=j0a cu;clear cB cu cH fa an;go_upto_region 19 with (fail)
      refine q5t kj X Z dd ee r1 0 4 r4 0 4 i _ i9 (zQ9 fun W hW=>?_) (by omega) (zL9 _) af ku gp (by omega) i1 (zL9 _) af (zQ9 ?_)
      ·have k:=HK.o.2.2 W (HQ.o W (aB.o.1.trans (hW.mono aB.o.1.size))).2.2.2.2;exact⟨k.1,k.2.1,k.2.2.1,k.2.2.2.2.2.2⟩
      intro jo iE jg jF iF j6 i4 iC hu ik i3 jH C1 C2 C3 C4 d1 d2 d3 d4 q2 am f5 fd da aq;obtain⟨Y2,cA⟩:∃ Y:Hb,Y=⟨Z.t,C1,d1,Z.l,C2,d2,Z.ks,C3,d3,Z.hs,C4,d4,Z.ds⟩:=⟨_,rfl⟩;rw[<-cA] at f5 fd;have c7:=zQ9 cA;have ar:=zQ9 (zA9 (aB.o.1.trans (aq.mono aB.o.1.size)) (zA9 aq (zA9 f5 fd.inn)));have gB:=aq.size;clear cA f5 fd da aq;have a5:=ar.o.2.1;have a9:Below dC.heap.size dC am:=aB.o.2.1.trans (a5.mono aB.o.2.1.size);have ag:Below cz.heap.size cz am:=bf.o.2.1.trans (a9.mono bf.o.2.1.size);have HF:=zQ9 (zA9 a5 (zA9 a9 ag));clear a5 a9 ag;go_upto_region 20 with (fail)
      refine pt_same am Y X Y1 Y2 s' R SB A6 A7 A8 sc sm a6 R.length a7 a8 q q1 q2 r1 0 4 r3 0 4 i er ee _ (zQ9 ?_) (zQ9 ?_) (zQ9 ?_) (zQ9 ?_) (zQ9 ?_) (zQ9 ?_) (zQ9 ?_) (zQ9 ?_) (by omega) (by omega) i1 (zL9 _) af (zL9 _) af (zQ9 ?_)
      ·have h:=HQ.o am ar.o.1;exact⟨(HK.o.2.2 am h.2.2.2.2).2.1,h.2.1,by rw[bm.o],by rw[bm.o],by rw[bm.o],by rw[bm.o],by rw[bm.o]⟩
      ·exact⟨aB.o.2.2.2.below HF.o.1 (zL9 _),ar.o.2.2.2,by rw[bv.o,c7.o],by rw[bv.o,c7.o],by rw[bv.o,c7.o],by rw[bv.o,c7.o],by rw[bv.o,c7.o]⟩
      ·exact(HQ.o am ar.o.1).1
      ·exact j0e aB.o.2.2.1 HF.o.1 (zL9 _)
      ·exact ar.o.2.2.1
      ·have k:=HK.o.2.2 am (HQ.o am ar.o.1).2.2.2.2;exact⟨k.1,k.2.2.2.2.1⟩
      ·exact⟨cf.o.2.below HF.o.2.2 (zL9 _),bf.o.2.2.below HF.o.2.1 (zL9 _),iA⟩
      ·have h:=HQ.o am ar.o.1;exact⟨h.2.2.2.1,(HK.o.2.2 am h.2.2.2.2).2.2.2.2.2.1,b6⟩
      intro jw i2 jB kp ki j9 kb h5 ha kG kF jq gH jf ji ix jm jD jp jn ib jh i7 ia jd kx jG ka i8 j2 kC m0 iy iw k0 gx jE jk bw;have ic:=zQ9 (HQ.o jk (ar.o.1.trans (bw.mono ar.o.1.size))).2.2.2.2;clear bw;go_wp2_with fail
      go_roundg (gk-1)
      case measure=>have:=HK.o.1;omega
      case rel=>exact⟨i+1,by have:=HK.o.1;omega,by go_num,ic.o⟩
     ·obtain rfl:i=4:=by omega
      have HK:=zQ9 bn;clear bn hi;go_wp2_with (go_at_call 8;(with_reducible refine(j9h _).mono ?_);rintro e ao ⟨rfl,bz⟩;have aD:=zQ9 bz;clear bz)
      go_ret
      have h1:=HE.o.trans (HK.o.mono HE.o.size);exact⟨rfl,h1.trans (aD.o.mono h1.size)⟩
  ·go_wp2_with (go_at_call 8;(with_reducible refine(j9h _).mono ?_);rintro e w2 ⟨rfl,aE⟩;have dw:=zQ9 aE;clear aE)
   go_ret
   exact⟨rfl,(HB.o.2.2.trans (aw.o.mono HB.o.2.2.size)).trans (dw.o.mono (HB.o.2.2.trans (aw.o.mono HB.o.2.2.size)).size)⟩
 ·have dq:(20:Int)<(mb:Int):=by omega
  go_upto_if 41 with (go_at_call 7;(with_reducible refine cc.mono ?_);rintro e w1 hL;rw[HR.o] at hL;obtain⟨q,rfl,hq,bC⟩:=hL;have aw:=zQ9 bC;clear hq bC;cases q)
  all_goals
   go_wp2_with (go_at_call 8;(with_reducible refine(j9h _).mono ?_);rintro e w2 ⟨rfl,aE⟩;have dw:=zQ9 aE;clear aE)
   go_ret
   exact⟨rfl,(HB.o.2.2.trans (aw.o.mono HB.o.2.2.size)).trans (dw.o.mono (HB.o.2.2.trans (aw.o.mono HB.o.2.2.size)).size)⟩
theorem ints_of {w:World} {a:Option Addr} {len cap:Nat} {zs:List Int}
 (h:(a=none∧len=0∧cap=0∧zs=[])∨∃ x,a=some x∧len<=cap∧cap<=maxLen∧zs.length=cap∧(∀ i,i<zs.length->w.cell? (x.add i)=some (.int .i64 (zs.getD i 0)))∧∀ n∈zs,(Lit.int .i64 n).wf=true) :
 ∃ nums,Ints w a len nums∧len<=cap∧cap<=9223372036854775807∧(a=none->cap=0):=by
 rcases h with ⟨rfl,rfl,rfl,rfl⟩|⟨x,rfl,h1,h2,h3,h4,h5⟩
 ·exact⟨[],Sl.nil_,zL9 _,by omega,fun _=>rfl⟩
 ·have a0:cap<=9223372036854775807:=h2;refine⟨zs.take len,⟨by rw[List.length_take];omega,fun hn=>?_⟩,h1,a0,fun h=>by cases h⟩
  obtain⟨b,off,rfl,hc⟩:=ints_at h4 (by omega)
  refine⟨b,off,rfl,fun i y hy j u hu=>?_⟩
  rw[List.getElem?_take] at hy
  split at hy
  ·have a1:=(List.getElem?_eq_some_iff.1 hy).1;cases j with
   | zero =>
     simp only[eInt,List.getElem?_cons_zero,Option.some.injEq] at hu;subst hu;have:=hc i (by omega)
     rw[Nat.mul_one,Nat.add_zero];rw[this,zB3,hy];rfl
   | succ j=>simp[eInt] at hu
  ·cases hy
end Go.Proofs.YtmennjmjakdkcaaGreat
namespace Go.Proofs.YtmennjmjakdkcaaGreat
open Go.RowKit Go.ChangeShapes Go.WideShapes Go.Deep
theorem j4y {α:Type} [Inhabited α] {enc:α->List Value} {sz:Nat} {w:World} {a:Addr} {len:Nat} (a4:0<sz) (hl:∀ x,(enc x).length=sz)
 (h:∀ i,i<len->∃ x:α,∀ (j:Nat) (u:Value),(enc x)[j]?=some u->w.cell? (a.add (i*sz+j))=some u):∃ l,Sl enc sz w (some a) len l:=by
 have h':∀ i,∃ x:α,i<len->∀ (j:Nat) (u:Value),(enc x)[j]?=some u->w.cell? (a.add (i*sz+j))=some u:=fun i=>by
  by_cases hi:i<len
  ·obtain⟨x,hx⟩:=h i hi;exact⟨x,fun _=>hx⟩
  ·exact⟨default,fun hi'=>absurd hi' hi⟩
 let f:Nat->α:=fun i=>Classical.choose (h' i)
 have hf:∀ i,i<len->∀ (j:Nat) (u:Value),(enc (f i))[j]?=some u->w.cell? (a.add (i*sz+j))=some u:=fun i=>Classical.choose_spec (h' i)
 refine⟨(List.range len).map f,by simp,fun hn=>?_⟩
 obtain⟨u0,a2⟩:∃ u,(enc (f 0))[0]?=some u:=⟨_,zB5 (by rw[hl];exact a4)⟩
 have a3:=hf 0 hn 0 u0 a2;obtain⟨b,off,a1⟩:=a;have a0:a1=none:=by simpa[Addr.add] using World.cell?_spot a3
 subst a0;refine⟨b,off,rfl,fun i x hx j u hu=>?_⟩
 rw[List.getElem?_map] at hx;by_cases hi:i<len
 ·rw[List.getElem?_range hi] at hx;simp only[Option.map_some,Option.some.injEq] at hx;subst hx;have:=hf i hi j u hu;rw[Go.WideShapes.add_plain] at this;rw[Nat.add_assoc];exact this
 ·rw[List.getElem?_eq_none (by simpa using hi)] at hx
  cases hx
theorem list2 {α:Type} {l:List α} (h:l.length=2):∃ a b,l=[a,b]:=by
 match l,h with
 | [a,b],_=>exact⟨a,b,rfl⟩
theorem list3 {α:Type} {l:List α} (h:l.length=3):∃ a b c,l=[a,b,c]:=by
 match l,h with
 | [a,b,c],_=>exact⟨a,b,c,rfl⟩
theorem list5 {α:Type} {l:List α} (h:l.length=5):∃ a b c d e,l=[a,b,c,d,e]:=by
 match l,h with
 | [a,b,c,d,e],_=>exact⟨a,b,c,d,e,rfl⟩
instance:Inhabited Mk:=⟨⟨0,0,0⟩⟩
section
variable {H:Type} {enc:TypeId × Value->H} {w:World} {base:Nat} {spare:Nat->Bool} {held:Bool}
theorem q4b:Tryz.prog.cellsOf 117=3:=by kernel_rfl
theorem j6e:Tryz.prog.cellsOf 3=1:=by kernel_rfl
theorem k8m:Tryz.prog.cellsOf 24=2:=by kernel_rfl
theorem cellsSl:Tryz.prog.cellsOf 22=1:=by kernel_rfl
theorem k0d:Tryz.prog.cellsOf 31=5:=by kernel_rfl
theorem q3g {a0:Nat} {cs:List Value} {x:DataW H × List MemPlace} (h:DataW.trod enc Tryz.prog w base spare held a0 22 cs=some x) :
 ∃ A n c l,cs=[.slice A n c]∧Marks w A n l∧n<=c∧c<=maxLen∧(A=none->c=0):=by
 rcases open_slice Tryz.underlying22 h with ⟨hcs,_⟩|⟨a,len,cap,m,n,D,Pl,hcs,hb,hl,hm,a2,hx,hi⟩
 ·exact⟨none,0,0,[],hcs,Sl.nil_,zL9 _,Nat.zero_le _,fun _=>rfl⟩
 ·have a6:len<=m:=by rw[a2];split<;>omega
  obtain⟨l,hs⟩:=j4y (enc:=eMk) (sz:=3) (w:=w) (a:=a) (len:=len) (by decide) j2h (fun i hi'=>by
   obtain⟨a5,hc,a3⟩:=hi i (by omega)
   obtain⟨y0,y1,y2,n',_,a1,h0,h1,h2⟩:=trod_struct3 Tryz.underlying117 a3;rw[q4b] at a1 hc;obtain⟨_,_,a4⟩:=World.cells?_some hc;obtain⟨c0,c1,c2,rfl⟩:=list3 a1;rw[j6e] at h0 h1 h2;obtain⟨z0,e0,_,_⟩:=DataW.trod_int Tryz.underlying3 h0;obtain⟨z1,e1,_,_⟩:=DataW.trod_int Tryz.underlying3 h1;obtain⟨z2,e2,_,_⟩:=DataW.trod_int Tryz.underlying3 h2;simp at e0 e1 e2;subst e0;subst e1;subst e2;refine⟨⟨z0,z1,z2⟩,fun j u hu=>?_⟩
   have hj:j<3:=by have:=(List.getElem?_eq_some_iff.1 hu).1;simpa[eMk] using this
   have:=a4 j hj;rw[Go.Deep.add_add] at this;rw[this];exact hu)
  exact⟨some a,len,cap,l,hcs,hs,hl,hm,fun h=>by cases h⟩
theorem open_reg {a0:Nat} {cs:List Value} {x:DataW H × List MemPlace} (h:DataW.trod enc Tryz.prog w base spare held a0 24 cs=some x) :
 ∃ t A n c l,cs=[.int .i64 t,.slice A n c]∧Marks w A n l∧n<=c∧c<=maxLen∧(A=none->c=0):=by
 obtain⟨y0,y1,n',_,a1,h0,h1⟩:=trod_struct2 Tryz.underlying24 h;rw[k8m] at a1;obtain⟨c0,c1,rfl⟩:=list2 a1;rw[j6e] at h0;rw[cellsSl] at h1;obtain⟨z0,e0,_,_⟩:=DataW.trod_int Tryz.underlying3 h0;obtain⟨A,n,c,l,e1,hs,h2⟩:=q3g h1;simp at e0 e1;subst e0;subst e1;exact⟨z0,A,n,c,l,rfl,hs,h2⟩
theorem q1j {P:Program} {t:TypeId} {f0 f1 f2 f3 f4:Field} {a1:Nat} {cs:List Value} {x:DataW H × List MemPlace} (ht:P.underlying t=some (.struct #[f0,f1,f2,f3,f4])) (h:DataW.trod enc P w base spare held a1 t cs=some x) :
 ∃ (y0 y1 y2 y3 y4:DataW H × List MemPlace) (n:Nat),cs.length=P.cellsOf t∧DataW.trod enc P w base spare held n f0.type ((cs.drop f0.offset).take (P.cellsOf f0.type))=some y0 ∧
  DataW.trod enc P w base spare held n f1.type ((cs.drop f1.offset).take (P.cellsOf f1.type))=some y1∧DataW.trod enc P w base spare held n f2.type ((cs.drop f2.offset).take (P.cellsOf f2.type))=some y2 ∧
  DataW.trod enc P w base spare held n f3.type ((cs.drop f3.offset).take (P.cellsOf f3.type))=some y3∧DataW.trod enc P w base spare held n f4.type ((cs.drop f4.offset).take (P.cellsOf f4.type))=some y4:=by
 obtain⟨xs,n,_,_,hl,a0,hf⟩:=DataW.trod_struct ht h;obtain⟨y0,y1,y2,y3,y4,rfl⟩:=list5 (show xs.length=5 from a0)
 exact⟨y0,y1,y2,y3,y4,n,hl,by simpa using hf 0 f0 rfl,by simpa using hf 1 f1 rfl,by simpa using hf 2 f2 rfl,by simpa using hf 3 f3 rfl,by simpa using hf 4 f4 rfl⟩
theorem k4z {a0:Nat} {cs:List Value} {x:DataW H × List MemPlace} (h:DataW.trod enc Tryz.prog w base spare held a0 31 cs=some x) :
 ∃ s:Sg,cs=eSg s:=by
 obtain⟨y0,y1,y2,y3,y4,n',a1,h0,h1,h2,h3,h4⟩:=q1j Tryz.underlying31 h;rw[k0d] at a1;obtain⟨c0,c1,c2,c3,c4,rfl⟩:=list5 a1;rw[j6e] at h0 h3 h4;rw[show Tryz.prog.cellsOf 4=1 from by kernel_rfl] at h1 h2
 obtain⟨z0,e0,_,_⟩:=DataW.trod_int Tryz.underlying3 h0;obtain⟨z1,e1,_⟩:=DataW.trod_bool Tryz.underlying4 h1;obtain⟨z2,e2,_⟩:=DataW.trod_bool Tryz.underlying4 h2;obtain⟨z3,e3,_,_⟩:=DataW.trod_int Tryz.underlying3 h3;obtain⟨z4,e4,_,_⟩:=DataW.trod_int Tryz.underlying3 h4;simp at e0 e1 e2 e3 e4;subst e0;subst e1;subst e2;subst e3;subst e4;exact⟨⟨z0,z1,z2,z3,z4⟩,rfl⟩
theorem k6f (l:List Value):(Value.agg ⟨l⟩).cells.toList=l:=by simp[Value.cells]
theorem open_intsV {r:Reach} {b0:Nat} {v:Value} {d:DataW H} {p:List MemPlace} (hv:Value.okWide Tryz.prog w r b0 25 v) (h:DataW.Trod enc Tryz.prog w base (fun _=>true) held 25 v d p) :
 ∃ A n c l,v=.slice A n c∧Ints w A n l∧n<=c∧c<=9223372036854775807:=by
 obtain⟨a,len,cap,rfl⟩:=okWide_slice Tryz.underlying25 hv;have hz:∃ zs,((a=none∧len=0∧cap=0∧zs=[])∨∃ x,a=some x∧len<=cap∧cap<=maxLen∧zs.length=cap∧(∀ i,i<zs.length->w.cell? (x.add i)=some (.int .i64 (zs.getD i 0)))∧∀ n∈zs,(Lit.int .i64 n).wf=true):=by
  obtain⟨a3,hf⟩:=h;rcases open_ints Tryz.underlying25 Tryz.underlying3 j6e hf with ⟨hcs,_⟩|⟨x,l,c,zs,hcs,_,hl,hm,hz,_,a0,a2⟩
  ·simp[Value.cells] at hcs;obtain⟨rfl,rfl,rfl⟩:=hcs;exact⟨[],.inl ⟨rfl,rfl,rfl,rfl⟩⟩
  ·simp[Value.cells] at hcs;obtain⟨rfl,rfl,rfl⟩:=hcs;exact⟨zs,.inr ⟨_,rfl,hl,hm,by simpa using hz,a0,a2⟩⟩
 obtain⟨zs,hz⟩:=hz;obtain⟨a1,h1,h2,h3,h4⟩:=ints_of hz;exact⟨a,len,cap,a1,rfl,h1,h2,h3⟩
end
instance:Inhabited Sg:=⟨⟨0,false,false,0,0⟩⟩
section
variable {H:Type} {enc:TypeId × Value->H} {w:World} {base:Nat} {spare:Nat->Bool} {held:Bool}
theorem q1d {a0:Nat} {cs:List Value} {x:DataW H × List MemPlace} (h:DataW.trod enc Tryz.prog w base spare held a0 52 cs=some x) :
 ∃ A n c l,cs=[.slice A n c]∧Sights w A n l∧n<=c∧c<=maxLen∧(A=none->c=0):=by
 rcases open_slice Tryz.underlying52 h with ⟨hcs,_⟩|⟨a,len,cap,m,n,D,Pl,hcs,hb,hl,hm,a1,hx,hi⟩
 ·exact⟨none,0,0,[],hcs,Sl.nil_,zL9 _,Nat.zero_le _,fun _=>rfl⟩
 ·have a5:len<=m:=by rw[a1];split<;>omega
  obtain⟨l,hs⟩:=j4y (enc:=eSg) (sz:=5) (w:=w) (a:=a) (len:=len) (by decide) j8w (fun i hi'=>by
   obtain⟨a4,hc,a2⟩:=hi i (by omega)
   obtain⟨s,rfl⟩:=k4z a2;rw[k0d] at hc;obtain⟨_,_,a3⟩:=World.cells?_some hc;refine⟨s,fun j u hu=>?_⟩
   have hj:j<5:=by have:=(List.getElem?_eq_some_iff.1 hu).1;rwa [j8w] at this
   have:=a3 j hj;rw[Go.Deep.add_add] at this;rw[this];exact hu)
  exact⟨some a,len,cap,l,hcs,hs,hl,hm,fun h=>by cases h⟩
theorem open_sightsV {r:Reach} {b0:Nat} {v:Value} {d:DataW H} {p:List MemPlace} (hv:Value.okWide Tryz.prog w r b0 52 v) (h:DataW.Trod enc Tryz.prog w base spare held 52 v d p) :
 ∃ A n c l,v=.slice A n c∧Sights w A n l∧n<=c∧c<=maxLen∧(A=none->c=0):=by
 obtain⟨a,len,cap,rfl⟩:=okWide_slice Tryz.underlying52 hv;obtain⟨a0,hf⟩:=h;obtain⟨A,n,c,l,hcs,h2⟩:=q1d hf;simp[Value.cells] at hcs;obtain⟨rfl,rfl,rfl⟩:=hcs;exact⟨_,_,_,l,rfl,h2⟩
end
end Go.Proofs.YtmennjmjakdkcaaGreat
