/- HerdParts. -/
import Derived.Test.YtmennjmjakdkcaaGreatPt35
set_option linter.unusedVariables false
set_option linter.unusedSimpArgs false
set_option maxRecDepth 1000000
set_option maxHeartbeats 8000000
namespace Go.Proofs.YtmennjmjakdkcaaGreat
open Go.RowKit
theorem q6d {b:Hb} {f:Nat} {ss:List Sg} {E:List Gr} {i:Nat} {g:Gr} (h:E[i]?=some g):splL b f ss (E.take (i+1))=if splB b.t b.l ss (g.getD f [])=true then splL b f ss (E.take i)++[g] else splL b f ss (E.take i):=by
 unfold splL;rw[List.take_add_one,h,Option.toList_some,List.filter_append];simp only[List.filter_cons,List.filter_nil];by_cases hb:splB b.t b.l ss (g.getD f [])=true
 ·rw[if_pos hb,if_pos hb]
 ·rw[if_neg hb,if_neg hb,List.append_nil]
theorem q3u (b:Hb) (flock:Int) (B:Option Addr) (m cb:Nat) (ss:List Sg) (w:World) (hin:HbIn w b) (ba:Sights w B m ss) (ca:m<=cb) (c5:cb<=maxLen) (cp:b.ks.length<=maxLen):Calls Tryz.prog 23 #[b.v,.int .i64 flock,.slice B m cb] w (k2a b flock ss w):=by
 obtain rfl:m=ss.length:=ba.len.symm;obtain⟨V,hV⟩:∃ V,V=w.alloc b.obj:=⟨_,rfl⟩;obtain⟨p,hp⟩:∃ p,p=w.heap.size:=⟨_,rfl⟩;have HB:=zQ9 (show BB9 w b p V by rw[hV,hp];exact BB9.start hin)
 obtain⟨c0,c1,c2,c3,c4⟩:=j0h HB.o.1;have a4:=j0a HB.o.1;have a0:=j9y b V HB.o.2.1;obtain⟨ce,bh⟩:∃ ce,ce=b.chk:=⟨_,rfl⟩;rw[<-bh] at a0;have a5:=zQ9 bh;have bp:=zQ9 (fun(W:World) (h:Below w.heap.size w W)=>ba.below h (zL9 _))
 have cD:ss.length<=9223372036854775807:=by unfold maxLen at c5;omega
 unfold Hb.v at a0 ⊢;clear hin bh ba;go_enter Tryz.func23,Tryz.ntmps23
 go_upto_region 1 with (fail)
 rw[<-hV,<-hp];clear hV hp;by_cases h0:ce=0
 ·subst h0;have a2:=j2x a5.o.symm;go_upto_region 4 with (go_at_call 18;(with_reducible refine a0.mono ?_);rintro e w1 ⟨rfl,an⟩;replace HB:=zQ9 (HB.o.step an);clear an c0 c1 c2 c3 c4 a4)
  clear a0;obtain⟨c0,c1,c2,c3,c4⟩:=j0h HB.o.1;have a4:=j0a HB.o.1;have av:=j8a b.t b.A b.Ak b.Ah b.Ad b.l.length b.c b.ks.length b.ck b.hs.length b.ch b.ds.length b.cd flock w1 cp;obtain⟨fo,bj⟩:∃ fo,fo=ownB b.ks.length flock:=⟨_,rfl⟩;rw[<-bj] at av;have ag:=zQ9 bj;have cv:=zQ9 a2;clear bj a2;cases fo with
  | false =>
    have HE:=zQ9 (show j1n b flock ss=3 by unfold j1n;rw[if_neg (by rw[<-a5.o];simp),if_pos ag.o.symm])
    go_wp2_with (go_at_call 86;(with_reducible refine av.mono ?_);rintro e w2 ⟨rfl,ao⟩;replace HB:=zQ9 (HB.o.step ao);clear ao c0 c1 c2 c3 c4 a4)
    go_ret2
    exact j2r HE.o (by decide) HB.o.2.2
  | true =>
  go_upto_region 6 with (go_at_call 86;(with_reducible refine av.mono ?_);rintro e w2 ⟨rfl,ao⟩;replace HB:=zQ9 (HB.o.step ao);clear ao c0 c1 c2 c3 c4 a4)
  clear av;by_cases h6:6<ss.length
  ·have HE:=zQ9 (show j1n b flock ss=6 by unfold j1n;rw[if_neg (by rw[<-a5.o];simp),if_neg (by rw[<-ag.o];simp),if_pos h6])
   have c9:(6:Int)<(ss.length:Int):=by omega
   clear h6;go_wp2
   go_ret2
   exact j2r HE.o (by decide) HB.o.2.2
  have c9:¬(6:Int)<(ss.length:Int):=by omega
  go_upto_region 9 with (fail)
  go_loopg [9,10] ss.length (fun gh v9 _ wr=>∃ k:Nat,k+gh=ss.length∧v9=.int .i64 k∧(∀ (i:Nat) x,i<k->ss[i]?=some x->seen x 9 6=0)∧BB9 w b p wr)
  case atStart=>exact⟨0,by omega,rfl,fun i x hi=>by omega,HB.o⟩
  case round =>
   obtain⟨k,hk,rfl,bG,aB⟩:=hrel;obtain⟨w3,bq⟩:∃ W:World,W=wr:=⟨_,rfl⟩;rw[<-bq] at aB ⊢;clear bq;have HK:=zQ9 (zA9 hk (zA9 bG aB));clear hk bG aB;by_cases hlt:k<ss.length
   ·obtain⟨bx,ox,x,rfl,cj,hx,q0,q1,q2,q3,q4⟩:=Sights.get (bp.o w3 HK.o.2.2.2.2) hlt;have i1:(k:Int)<(ss.length:Int):=by omega
    obtain⟨S,hS⟩:∃ S,S=seen x 9 6:=⟨_,rfl⟩;have C:=k2y x w3;rw[<-hS] at C;unfold vSg at C;have HX:=zQ9 (zA9 hx hS);clear hx hS;go_upto_region 12 with (go_at_call 87;(with_reducible refine C.mono ?_);rintro e w4 ⟨rfl,a6⟩;have bo:=zQ9 (HK.o.2.2.step a6);clear a6 q0 q1 q2 q3 q4)
    clear C;by_cases a3:S=0
    ·subst a3;go_wp2
     go_roundg (gk-1)
     case measure=>have:=HK.o.1;omega
     case rel =>
      refine⟨k+1,by have:=HK.o.1;omega,by go_num,fun i y hi hy=>?_,bo.o⟩
      by_cases hik:i=k
      ·subst hik;obtain rfl:x=y:=Option.some.inj (HX.o.1.symm.trans hy);exact HX.o.2.symm
      ·exact HK.o.2.1 i y (by omega) hy
    ·have h1:(S != 0)=true:=by simp[a3]
     have HE:=zQ9 (show j1n b flock ss=S∧S≠0 by
      have h2:=j9k HK.o.2.1 HX.o.1 (by rw[<-HX.o.2];exact a3)
      rw[<-HX.o.2] at h2;unfold j1n;rw[if_neg (by rw[<-a5.o];simp),if_neg (by rw[<-ag.o];simp),if_neg h6,h2,if_pos a3]
      exact⟨rfl,a3⟩)
     clear a3;go_wp2
     go_ret2
     exact j2r HE.o.1 HE.o.2 bo.o.2.2
   ·obtain rfl:k=ss.length:=by have:=HK.o.1;omega
    have a3:∀ s∈ss,seen s 9 6=0:=fun s hs=>by
     obtain⟨i,hi⟩:=List.getElem?_of_mem hs;exact HK.o.2.1 i s (List.getElem?_eq_some_iff.1 hi).1 hi
    replace HB:=zQ9 HK.o.2.2;have b8:=zQ9 a3;have c7:j1n b flock ss=if b.ends (-1) 0=[] then 11 else if j3s b flock.toNat ss=[] then 12 else 0:=by
     unfold j1n;rw[if_neg (by rw[<-a5.o];simp),if_neg (by rw[<-ag.o];simp),if_neg h6,if_neg (by rw[j5y.2 a3];simp)]
    have b5:=zQ9 c7;clear a3 c7 HK hlt;obtain⟨c0,c1,c2,c3,c4⟩:=j0h HB.o.1;have a4:=j0a HB.o.1;by_cases ha:askE b=0
    ·have a0:=q0t b w3 HB.o.2.1 ha;have a2:=cv.o;have be:=eg_sh a2;have aC:∀ g∈b.eg,∀ r∈g,∀ x∈r,0<=x:=fun g hg=>j5k.1 ((j7g (deed:=-1) (owner:=-1) a2).2 g hg).2.1
     have c8:b.ends (-1) 0≠[]:=fun h=>by rw[j8n a5.o.symm h] at ha;exact absurd ha (by decide)
     obtain⟨f,rfl⟩:∃ f:Nat,flock=(f:Int):=⟨flock.toNat,by have:=(j1p.1 ag.o.symm).1;omega⟩
     have bf:f<b.ks.length:=by have:=(j1p.1 ag.o.symm).2;omega
     have bm:ss.length<=6:=by omega
     have b3:=spl_none a2 bf bm b8.o;have az:=q6e a2 bf bm b8.o;obtain⟨E,hE⟩:∃ E,E=b.eg:=⟨_,rfl⟩;rw[<-hE] at a0 be aC b3 az;have HX:=zQ9 (zA9 be (zA9 b3 (zA9 az (zA9 c8 (zA9 hE aC)))));have cy:=a2.n5;have cw:=a2.f3;have am:=a2.ck;have HF:=zQ9 (zA9 bf am);have i3:(f:Int)<(b.ks.length:Int):=by omega
     unfold Hb.v at a0;clear a2 be aC c8 b3 az hE ha am;go_upto_region 17 with (go_at_call 88;(with_reducible refine a0.mono ?_);rintro e w4 ⟨⟨v,rfl,hG⟩,a6⟩;have H2:=zQ9 (zA9 hG a6);replace HB:=zQ9 (HB.o.step a6);clear hG a6 c0 c1 c2 c3 c4 a4)
     clear a0;obtain⟨A,c,rfl,cA,br⟩:=H2.o.1.form;obtain⟨c0,c1,c2,c3,c4⟩:=j0h HB.o.1;have a4:=j0a HB.o.1;have ct:c<=9223372036854775807:=by unfold maxLen at br;exact br
     obtain⟨n,hn⟩:∃ n,n=b.l.length:=⟨_,rfl⟩;have aa:n<=5:=by omega
     rw[<-hn] at c1;have cf:=fun W=>run_mkR W aa
     have HN:=zQ9 hn;clear hn;go_upto_region 20 with (fail)
     obtain⟨g,hg⟩:∃ g,g=w4.heap.size:=⟨_,rfl⟩;obtain⟨w5,aw⟩:∃ w5,w5=w4.alloc (.cells (k0y n) 72):=⟨_,rfl⟩;have bz:OwnR w5 w4.heap.size (.slice (some ⟨g,0,none⟩) n n) ((List.range n).map fun x=>rnOf (j3l f x) (splL b f ss (E.take 0))):=by
      rw[aw,hg,show splL b f ss (E.take 0)=[] from rfl,rowP_nil];exact q5l w4 aa (zL9 _)
     have bA:Below w4.heap.size w4 w5:=by rw[aw];exact bal0 w4 _
     rw[<-aw,<-hg];have H3:=zQ9 (zA9 bz bA);clear aw hg bz bA cf c0 c1 c2 c3 c4 a4;go_loopg [14,15,16] E.length (fun gh v14 v15 _ wr=>∃ (i:Nat) (fb:Bool),i+gh=E.length∧v14=.bool fb∧fb=decide (splL b f ss (E.take i)=[])∧v15=.int .i64 i∧OwnR wr w4.heap.size (.slice (some ⟨g,0,none⟩) n n) ((List.range n).map fun x=>rnOf (j3l f x) (splL b f ss (E.take i)))∧Below w4.heap.size w4 wr)
     case atStart=>exact⟨0,true,by omega,rfl,by simp[splL],rfl,H3.o.1,H3.o.2⟩
     case round =>
      obtain⟨i,fb,hi,rfl,af,rfl,hR,hb⟩:=hrel;obtain⟨g1,rfl⟩:∃ g1:Nat,g1=gk:=⟨_,rfl⟩;obtain⟨w6,bF⟩:∃ W:World,W=wr:=⟨_,rfl⟩;rw[<-bF] at hR hb ⊢;clear bF;by_cases hli:i<E.length
      ·obtain⟨bE,oE,cap,Ag,cg,gi,eE,-,-,aq,y0,cE,cn,b6⟩:=H2.o.1.get2 hli;cases eE;obtain⟨sg,bg⟩:=HX.o.1 gi (zB4 aq);have bD:=y0;have y0:=j0u y0 hb (zL9 _);obtain⟨cx,og,Br,r,cr,rfl,aH,a1,y1,b0,cu,d1,bw⟩:=(b6 w6 hb).get HF.o.1;have ax:gi.getD f []=r:=by rw[zB3,a1];rfl
       have b9:r.length=n:=by rw[HN.o,<-ax];exact sg.row HF.o.1
       rw[b9] at y1 cu;have aF:∀ x∈r,-260<=x∧x<=260:=bg r (zB4 a1);obtain⟨sb,aA⟩:∃ sb,sb=splB b.t b.l ss r:=⟨_,rfl⟩;have ai:=HB.o.step hb;obtain⟨c0,c1,-,-,-⟩:=j0h ai.1;rw[<-HN.o] at c1;have cS:∀ d' os,Calls Tryz.prog 89 #[.agg #[.int .i64 b.t,.slice b.A n b.c],.slice B ss.length cb,.slice Br n cr] (Sort.grow (redrawn w6 d') os) (fun e w''=>e=.returned (.bool sb)∧∃ p:Regrown,w''=Sort.grow (redrawn w6 p.d) p.os):=fun d' os=>by
        have hw:Below w6.heap.size w6 (Sort.grow (redrawn w6 d') os):=below_regrown w6 d' os;have cc:=ai.2.2.trans (hw.mono ai.2.2.size);rw[aA];refine Calls.regrown_of (q1h b.t b.A n b.c b.l HF.o.2 ss B cb Br cr r _ ?_ (bp.o _ cc) ca c5 (by omega) b8.o ?_ bw aa fun x hx=>?_)
        ·rw[HN.o];exact ai.2.1.m.below hw (zL9 _)
        ·rw[<-b9];exact b0.below hw (zL9 _)
        ·have h1:=aF x hx;have h2:=HX.o.2.2.2.2.2 gi (zB4 aq) r (zB4 a1) x hx;omega
       have HC:=zQ9 cS;have a7:=q6d (b:=b) (f:=f) (ss:=ss) aq;rw[ax,<-aA] at a7;obtain⟨F,hF⟩:∃ F,F=splL b f ss (E.take i):=⟨_,rfl⟩;rw[<-hF] at a7 hR af;have k0:=cell_regrown c0;have k1:=cell_regrown c1;have k2:=cell_regrown y0;have k3:=cell_regrown y1;have d0:=j2c c0;have cB:=j2c y0;have cH:=j2c y1;have i2:(i:Int)<(E.length:Int):=by omega
       have HI:=zQ9 (zA9 hi (zA9 hR (zA9 hb (zA9 a7 (zA9 af (zA9 b0 (zA9 ax (zA9 aF (zA9 b9 (zA9 y0 y1))))))))));have aD:=zQ9 (zA9 b6 (zA9 a1 bD));clear hi hR hb a7 cS af b0 bw aF aq b6 sg bg y0 bD y1 c0 c1 a1 ax aA hF ai aH;go_upto_region 22 with (fail)
       refine wp_region_quiet_below (by kernel_rfl) (by kernel_rfl) ?_
       repeat (quiet_step (exact HC.o _ _))
       refine wpQuiet_nil ?_;intro _ aG;obtain⟨⟨dq,ak⟩,ad⟩:=aG;subst ad;obtain⟨w7,b4⟩:∃ w7,w7=Sort.grow (redrawn w6 dq) ak:=⟨_,rfl⟩;have bn:Below w6.heap.size w6 w7:=by rw[b4];exact below_regrown w6 dq ak
       rw[<-b4];have H7:=zQ9 bn;clear b4 bn k0 k1 k2 k3 HC;cases sb with
       | false =>
         have HS:=zQ9 (show splL b f ss (E.take (i+1))=F by rw[HI.o.2.2.2.1];rfl)
         go_wp2_with fail
         go_roundg (g1-1)
         case measure=>have:=HI.o.1;omega
         case rel=>exact⟨i+1,fb,by have:=HI.o.1;omega,rfl,by rw[HS.o];exact HI.o.2.2.2.2.1,by go_num,by rw[HS.o];exact HI.o.2.1.below H7.o (zL9 _),HI.o.2.2.1.trans (H7.o.mono HI.o.2.2.1.size)⟩
       | true =>
         have HS:=zQ9 (show splL b f ss (E.take (i+1))=F++[gi] by rw[HI.o.2.2.2.1];rfl)
         have bB:=zQ9 (show OwnR w7 w4.heap.size (.slice (some ⟨g,0,none⟩) n n) (rowP (j3l f) F gi n 0)∧Below w4.heap.size w4 w7 from⟨by rw[q5y];exact HI.o.2.1.below H7.o (zL9 _),HI.o.2.2.1.trans (H7.o.mono HI.o.2.2.1.size)⟩)
         have HY:=zQ9 (zA9 (j0u HI.o.2.2.2.2.2.2.2.2.2.1 H7.o (zL9 _)) (zA9 (j0u HI.o.2.2.2.2.2.2.2.2.2.2 H7.o (zL9 _)) (HI.o.2.2.2.2.2.1.below H7.o (zL9 _))));go_upto_region 24 with (fail)
         go_loopg [16] n (fun gh v16 wr=>∃ o:Nat,o+gh=n∧v16=.int .i64 o∧OwnR wr w4.heap.size (.slice (some ⟨g,0,none⟩) n n) (rowP (j3l f) F gi n o)∧Below w4.heap.size w4 wr)
         case atStart=>exact⟨0,by omega,rfl,bB.o.1,bB.o.2⟩
         case round =>
          obtain⟨o,ho,rfl,hR,hb⟩:=hrel;have yE:=j0u aD.o.2.2 hb (zL9 _);obtain⟨w8,c6⟩:∃ W:World,W=wr:=⟨_,rfl⟩;rw[<-c6] at hR hb yE ⊢;clear c6;by_cases hlo:o<n
          ·obtain⟨g0,e,cq,d2,z0,z1,f0,f1,-,-,-,-⟩:=OwnR.put2 hR (q2e hlo) 0 0;cases e;obtain⟨b2,o2,cC,r2,cF,e2,-,a8,y1,ac,b7,ay,-⟩:=(aD.o.1 w8 hb).get HF.o.1;cases e2;obtain rfl:r=r2:=Option.some.inj (aD.o.2.1.symm.trans a8);have ah:=HI.o.2.2.2.2.2.2.2.2.1;rw[ah] at y1 ac;obtain⟨bx,ox,x,eB,cj,hx,y2⟩:=Ints.get ac hlo;cases eB;have bt:j3l f o gi=x:=by unfold j3l;rw[HI.o.2.2.2.2.2.2.1,zB3,hx];rfl
           have a7:=q5v (φ:=j3l f o) (F:=F) (g:=gi);rw[bt,<-HI.o.2.2.2.2.1] at a7;obtain⟨r0,bs⟩:∃ r0,r0=rnOf (j3l f o) F:=⟨_,rfl⟩;rw[<-bs] at a7 z0 z1;have cW:∀ (a c y:Int) (q:Bool) d' os,Calls Tryz.prog 90 #[.agg #[.int .i64 a,.int .i64 c],.int .i64 y,.bool q] (Sort.grow (redrawn w8 d') os) (fun e w''=>e=.returned (.agg #[.int .i64 (widR a c y q).lo,.int .i64 (widR a c y q).hi])∧∃ p:Regrown,w''=Sort.grow (redrawn w8 p.d) p.os):=fun a c y q d' os =>
            Calls.regrown_of (q3r a c y q _)
           have HC:=zQ9 cW;have k0:=cell_regrown yE;have k1:=cell_regrown z0;have k2:=cell_regrown z1;have k3:=cell_regrown y1;have k4:=cell_regrown y2;have cz:=j2c yE;have cG:=j2c y1;have i4:(o:Int)<(n:Int):=by omega
           have HO:=zQ9 (zA9 ho (zA9 hR (zA9 hb (zA9 a7 cq))));clear ho hR hb a7 cW bt bs a8 ac b7 ay ah hx y1 y2 yE z0 z1 f0 f1;go_upto_region 26 with (fail)
           refine j3u 18 (by kernel_rfl) (by kernel_rfl) ?_
           simp only[List.take_succ_cons,List.take_zero,List.drop_succ_cons,List.drop_zero]
           repeat (quiet_step (first|exact HC.o _ _ _ _ _ _))
           refine wpQuiet_nil ?_;intro _ aG;obtain⟨⟨dq,ak⟩,ad⟩:=aG;subst ad;obtain⟨w9,aE⟩:∃ w9,w9=Sort.grow (redrawn w8 dq) ak:=⟨_,rfl⟩;have bi:Below w8.heap.size w8 w9:=by rw[aE];exact below_regrown w8 dq ak
           rw[<-aE];have bC:Below w4.heap.size w4 w9:=HO.o.2.2.1.trans (bi.mono HO.o.2.2.1.size);have bv:=HO.o.2.1.below bi (zL9 _);obtain⟨gd,e,-,co,z0,z1,f0,f1,a9,-⟩:=OwnR.put2 bv (q2e hlo) (widR r0.lo r0.hi x fb).lo (widR r0.lo r0.hi x fb).hi;cases e;rw[HO.o.2.2.2.1,rowP_set] at a9;have aj:=Below.setCell (Below.setCell bC (p:=⟨g,o*2,none⟩) HO.o.2.2.2.2 (.int .i64 (rnOf (j3l f o) (F++[gi])).lo)) (p:=⟨g,o*2+1,none⟩) HO.o.2.2.2.2 (.int .i64 (rnOf (j3l f o) (F++[gi])).hi);have bu:=zQ9 (zA9 a9 aj);clear aE bi bC bv a9 aj k0 k1 k2 k3 k4;rw[HO.o.2.2.2.1];go_wp2_with fail
           go_roundg (gk-1)
           case measure=>have:=HO.o.1;omega
           case rel =>
            exact⟨o+1,by have:=HO.o.1;omega,by go_num,bu.o.1,bu.o.2⟩
          ·obtain rfl:o=n:=by omega
           rw[rowP_end] at hR;have HO:=zQ9 (zA9 hR hb);clear hR hb ho yE;go_wp2_with fail
           go_roundg (g1-1)
           case measure=>have:=HI.o.1;omega
           case rel=>exact⟨i+1,false,by have:=HI.o.1;omega,rfl,by rw[HS.o];simp,by go_num,by rw[HS.o];exact HO.o.1,HO.o.2⟩
      ·obtain rfl:i=E.length:=by omega
       rw[List.take_length] at hR af;have HT:=zQ9 (zA9 hR (zA9 hb af));clear hR hb af hi;cases fb with
       | true =>
         have HE:=zQ9 (show j1n b (f:Int) ss=12 by
          rw[b5.o,if_neg HX.o.2.2.2.1,Int.toNat_natCast,if_pos (HX.o.2.1.1 (of_decide_eq_true HT.o.2.2.symm))])
         go_wp2_with fail
         go_ret2
         exact j2r HE.o (by decide) (HB.o.2.2.trans (HT.o.2.1.mono HB.o.2.2.size))
       | false =>
         have HE:=zQ9 (show j1n b (f:Int) ss=0 by
          rw[b5.o,if_neg HX.o.2.2.2.1,Int.toNat_natCast,if_neg fun h=>of_decide_eq_false HT.o.2.2.symm (HX.o.2.1.2 h)])
         go_wp2_with fail
         go_ret2
         refine⟨⟨_,by rw[HE.o];rfl,?_⟩,HB.o.2.2.trans (HT.o.2.1.mono HB.o.2.2.size)⟩
         have h:=HT.o.1;rw[HN.o,HX.o.2.2.1] at h;unfold j6v;rw[HE.o,if_pos rfl,Int.toNat_natCast,HN.o];exact Own.mono h HB.o.2.2.size
    ·have a0:=q0s b w3 HB.o.2.1 ha;obtain⟨ae,ar⟩:∃ ae,ae=askE b:=⟨_,rfl⟩;rw[<-ar] at a0 ha;have x1:(ae != 0)=true:=by simp[ha]
     have HE:=zQ9 (show j1n b flock ss=ae∧ae≠0 by
      refine⟨?_,ha⟩;rw[b5.o,ar];by_cases he:b.ends (-1) 0=[]
      ·rw[if_pos he,j8n a5.o.symm he]
      ·rw[ar,k2d a5.o.symm he] at ha;exact absurd rfl ha)
     unfold Hb.v at a0;clear ha ar;go_wp2_with (go_at_call 88;(with_reducible refine a0.mono ?_);rintro e w4 ⟨rfl,a6⟩;replace HB:=zQ9 (HB.o.step a6);clear a6 c0 c1 c2 c3 c4 a4)
     go_ret2
     exact j2r HE.o.1 HE.o.2 HB.o.2.2
 ·have x1:(ce != 0)=true:=by simp[h0]
  have HE:=zQ9 (show j1n b flock ss=ce∧ce≠0 by refine⟨?_,h0⟩;unfold j1n;rw[if_pos (by rw[<-a5.o];exact h0),a5.o])
  clear h0;go_wp2_with (go_at_call 18;(with_reducible refine a0.mono ?_);rintro e w1 ⟨rfl,an⟩;replace HB:=zQ9 (HB.o.step an);clear an c0 c1 c2 c3 c4 a4)
  go_ret2
  exact j2r HE.o.1 HE.o.2 HB.o.2.2
def FPt (base:Nat) (R:List Rn) (e:Int):VF:=fun v w=>∃ v1:Value,v=.tuple #[v1,.int .i64 e]∧OwnR w base v1 R
theorem FPt.st {base:Nat} {R:List Rn} {e:Int} (i:Nat) (v:Value) (w w':World) (hT:TBw i w w') (h:FPt base R e v w):FPt base R e v w':=by
 obtain⟨v1,h1,h2⟩:=h;exact⟨v1,h1,Own.below h2 hT (zL9 _)⟩
def FOR (base:Nat) (R:List Rn):VF:=fun v w=>OwnR w base v R
theorem FOR.st {base:Nat} {R:List Rn} (i:Nat) (v:Value) (w w':World) (hT:TBw i w w') (h:FOR base R v w):FOR base R v w':=Own.below h hT (zL9 _)
def FVal (x:Value):VF:=fun v _=>v=x
theorem FVal.st {x:Value} (i:Nat) (v:Value) (w w':World) (hT:TBw i w w') (h:FVal x v w):FVal x v w':=h
noncomputable def rgPt16:Code:=((Tryz.f4.body.bind (j1u 16)).getD .skip)
theorem pt_part (w2:World) (b:Hb) (ss:List Sg) (R:List Rn) (er fl:Int) (B:Option Addr) (mb cb q r2 o2 c2 i:Nat) {v0 v1 v2 v3 v4 v5 v6 v7 v8 v9 dz dy gA dD fy gm dk f9 fh di fB fx dA h2 h4 dC fg fH dF f5 gw fw gy g9 g3 gE fi gB fq dd gx dB fD gG g0 fF fv gC f8 gc fE dx g7 dn fp fc gD ff fG dj fa gt fd gh g5 dG f7 fj gv du g2 g6 dg g4 ga dr gj dH f6 dw fe fb ft dh gk fC fo g8 gu gd gp fA dq gF g1 ge b8 bp cj cf a4 bt am bo aE ca cr cw cG d9 d2 cE d1 cy cF d3 cz da aA cx aa bh ar bB bE b6 bw bz ae aq cv b9 bj c7 bq b3 a3 ct a5 bC bf a6 aG aD cu cq aw bs aB b7 az cn a1 aC bm cc bG a2 c6 be aj c5 cp br ax bu ce b4 ad ag aF c9 aH bv bA ao ai ay cg bn a9 an b5 co c8 af bD ak bF ba av ac ah b0:Value} (Q:Exit->Act->World->Prop)
 (HX:Q9 (R=j6v b fl ss∧er=j1n b fl ss)) (HS:Q9 (∀ W,Below w2.heap.size w2 W->(W.cell? ⟨q,0,none⟩=some (.int .i64 b.t)∧W.cell? ⟨q,1,none⟩=some b.vm∧W.cell? ⟨q,2,none⟩=some b.vk∧W.cell? ⟨q,3,none⟩=some b.vh∧W.cell? ⟨q,4,none⟩=some b.vd)∧HbIn W b∧W.cell? ⟨r2,o2+i,none⟩=some (.int .i64 fl)∧Sights W B mb ss))
 (hq:q<w2.heap.size) (h3:r2<w2.heap.size) (h7:4<=c2) (h0:c2<=maxLen) (i4:(i:Int)<4) (h8:mb<=20) (h5:mb<=cb) (h9:cb<=maxLen) (h6:mb<=maxLen)
 (HQ:Q9 (∀ (d8 d7 d0 d4 d5 cA cH cD cC cB:Value) (A7:Option Addr) (a7:Nat) (w':World),OwnR w' w2.heap.size (.slice A7 R.length a7) R->Below w2.heap.size w2 w'->Q .normal ⟨#[v0,v1,v2,v3,v4,v5,v6,v7,v8,v9,dz,dy,gA,dD,fy,gm,dk,f9,fh,di,fB,(Value.slice (some ⟨r2,o2,none⟩) 4 c2),fx,dA,(Value.int .i64 (i:Int)),(Value.pointer (some ⟨q,0,none⟩)),(Value.slice B mb cb),(Value.slice A7 R.length a7),(Value.int .i64 er),dC,fg,fH,dF,f5,gw,fw,gy,g9,g3,gE,fi,gB,fq,dd,gx,dB,fD,gG,g0,fF,fv,gC,f8,gc,fE,dx,g7,dn,fp,fc,gD,ff,fG,dj,fa,gt,fd,gh,g5,dG,f7,fj,gv,du,g2,g6,dg,g4,ga,dr,gj,dH,f6,dw,fe,fb,ft,dh,gk,fC,fo,g8,gu,gd,gp,fA,dq,gF,g1,ge,b8,bp,cj,cf,a4,bt,am,bo,aE,ca,cr,cw,d8,d7,d0,d4,d5,cA,cH,cD,cC,cB,aA,cx,aa,bh,ar,bB,bE,b6,bw,bz,ae,aq,cv,b9,bj,c7,bq,b3,a3,ct,a5,bC,bf,a6,aG,aD,cu,cq,aw,bs,aB,b7,az,cn,a1,aC,bm,cc,bG,a2,c6,be,aj,c5,cp,br,ax,bu,ce,b4,ad,ag,aF,c9,aH,bv,bA,ao,ai,ay,cg,bn,a9,an,b5,co,c8,af,bD,ak,bF,ba,av,ac,ah,b0],[]⟩ w')) :
 Code.wp Tryz.prog rgPt16 Q ⟨#[v0,v1,v2,v3,v4,v5,v6,v7,v8,v9,dz,dy,gA,dD,fy,gm,dk,f9,fh,di,fB,(Value.slice (some ⟨r2,o2,none⟩) 4 c2),fx,dA,(Value.int .i64 (i:Int)),(Value.pointer (some ⟨q,0,none⟩)),(Value.slice B mb cb),h2,h4,dC,fg,fH,dF,f5,gw,fw,gy,g9,g3,gE,fi,gB,fq,dd,gx,dB,fD,gG,g0,fF,fv,gC,f8,gc,fE,dx,g7,dn,fp,fc,gD,ff,fG,dj,fa,gt,fd,gh,g5,dG,f7,fj,gv,du,g2,g6,dg,g4,ga,dr,gj,dH,f6,dw,fe,fb,ft,dh,gk,fC,fo,g8,gu,gd,gp,fA,dq,gF,g1,ge,b8,bp,cj,cf,a4,bt,am,bo,aE,ca,cr,cw,cG,d9,d2,cE,d1,cy,cF,d3,cz,da,aA,cx,aa,bh,ar,bB,bE,b6,bw,bz,ae,aq,cv,b9,bj,c7,bq,b3,a3,ct,a5,bC,bf,a6,aG,aD,cu,cq,aw,bs,aB,b7,az,cn,a1,aC,bm,cc,bG,a2,c6,be,aj,c5,cp,br,ax,bu,ce,b4,ad,ag,aF,c9,aH,bv,bA,ao,ai,ay,cg,bn,a9,an,b5,co,c8,af,bD,ak,bF,ba,av,ac,ah,b0],[]⟩ w2:=by
 dsimp only
 conv=>arg 2;whnf
 have a0:Below w2.heap.size w2 w2.drew:=j0w (zB2 _ _);have HC:=zQ9 (fun(w':World) (hp:Below w2.drew.heap.size w2.drew w')=>show(w'.cell? ⟨q,0,none⟩=some (.int .i64 b.t)∧w'.cell? ⟨q,1,none⟩=some b.vm∧w'.cell? ⟨q,2,none⟩=some b.vk∧w'.cell? ⟨q,3,none⟩=some b.vh∧w'.cell? ⟨q,4,none⟩=some b.vd)∧w'.cell? ⟨r2,o2+i,none⟩=some (.int .i64 fl)∧q<w'.heap.size∧r2<w'.heap.size from by
  have hz:=hp.size;have h:=HS.o w' (a0.trans (hp.mono a0.size));exact⟨h.1,h.2.2.1,Nat.lt_of_lt_of_le hq hz,Nat.lt_of_lt_of_le h3 hz⟩)
 refine j0q 11 0 0 [] [] 0 (TBw) (PBw w2.drew) [0,0,0,0,0,0,0,0,0,0,0] (by as_aux_lemma=>kernel_rfl) (by as_aux_lemma=>kernel_rfl) (by as_aux_lemma=>kernel_rfl) (by as_aux_lemma=>kernel_rfl) (by omega) (.inl rfl) rfl rfl (fun k i w1 w2 hc _ hT hp=>PBw.st k i w1 w2 hT hp) (fun k=>zB2 _ _) ?_
 apply zC2;refine⟨fun ys=>?_,fun ops K hK=>?_⟩
 ·simp only[List.take_succ_cons,List.take_zero,j0p,List.filterMap_cons,List.filterMap_nil,j0r];go_simp
  rfl
 simp only[List.take_succ_cons,List.take_zero,List.drop_succ_cons,List.drop_zero] at hK ⊢
 repeat
  refine LexT.const TBw.rf ?_;apply zC2;refine⟨fun ys w' hp hpk hq hd=>?_,?_⟩
  ·try simp[j0d,j0f,DF.holds,Region.binds,EqF] at hd
   try simp only[hd]
   obtain⟨⟨c0,c1,c2,c3,c4⟩,s0,l1,l2⟩:=HC.o w' hp;intro Q2 a8;go_wp2_with fail
   rfl
  try simp only[nl9]
 refine LexT.some (FPt w2.heap.size R er) (fun i v w1 w2 hc _ hT h=>FPt.st i v w1 w2 hT h) (fun ys w' hp hpk hq hd=>?_) ?_
 ·try simp[j0d,j0f,DF.holds,Region.binds,EqF] at hd
  try simp only[hd]
  have h:=HS.o w' (a0.trans (Below.mono hp a0.size));have gH:w2.heap.size<=w'.heap.size:=(show Below w2.drew.heap.size w2.drew w' from hp).size
  have bi:=k8e b fl B mb cb ss w' h.2.1 h.2.2.2 (by omega)
  unfold k2a at bi;rw[<-HX.o.1,<-HX.o.2] at bi;unfold Hb.v at bi;clear hp hpk h;intro Q2 a8;go_wp2_with fail
  refine bi.mono ?_;rintro e w4 ⟨⟨v1,rfl,ho⟩,hb⟩;have HX:=zQ9 (show TBw 0 w' w4∧FPt w2.heap.size R er (.tuple #[v1,.int .i64 er]) w4 from⟨hb,v1,rfl,ho.mono gH⟩)
  clear ho hb bi;go_wp2
  exact⟨_,rfl,HX.o⟩
 try simp only[nl9]
 refine LexT.some (FPt w2.heap.size R er) (fun i v w1 w2 hc _ hT h=>FPt.st i v w1 w2 hT h) (fun ys w' hp hpk hq hd=>?_) ?_
 ·try simp[j0d,j0f,DF.holds,Region.binds,EqF] at hd
  try simp only[hd]
  have HX:=zQ9 (show FPt w2.heap.size R er (ys 119) w' by first|exact hd|exact hd.1)
  clear hp hpk hd;intro Q2 a8;go_wp2_with fail
  exact⟨zB2 _ _,HX.o⟩
 try simp only[nl9]
 refine LexT.some (FOR w2.heap.size R) (fun i v w1 w2 hc _ hT h=>FOR.st i v w1 w2 hT h) (fun ys w' hp hpk hq hd=>?_) ?_
 ·try simp[j0d,j0f,DF.holds,Region.binds,EqF] at hd
  try simp only[hd]
  obtain⟨v1,e1,h1⟩:=(show FPt w2.heap.size R er (ys 112) w' by first|exact hd|exact hd.1)
  simp only[e1];have HX:=zQ9 h1;clear hp hpk hd e1 h1;intro Q2 a8;go_wp2_with fail
  exact⟨zB2 _ _,HX.o⟩
 try simp only[nl9]
 refine LexT.some (FVal (.int .i64 er)) (fun i v w1 w2 hc _ hT h=>FVal.st i v w1 w2 hT h) (fun ys w' hp hpk hq hd=>?_) ?_
 ·try simp[j0d,j0f,DF.holds,Region.binds,EqF] at hd
  try simp only[hd]
  obtain⟨v1,e1,h1⟩:=(show FPt w2.heap.size R er (ys 112) w' by first|exact hd|exact hd.1)
  simp only[e1];clear hp hpk hd e1 h1;intro Q2 a8;go_wp2_with fail
  exact⟨zB2 _ _,rfl⟩
 try simp only[nl9]
 refine LexT.some (FOR w2.heap.size R) (fun i v w1 w2 hc _ hT h=>FOR.st i v w1 w2 hT h) (fun ys w' hp hpk hq hd=>?_) ?_
 ·try simp[j0d,j0f,DF.holds,Region.binds,EqF] at hd
  try simp only[hd]
  have HX:=zQ9 (show FOR w2.heap.size R (ys 120) w' by first|exact hd|exact hd.1)
  clear hp hpk hd;intro Q2 a8;go_wp2_with fail
  exact⟨zB2 _ _,HX.o⟩
 try simp only[nl9]
 refine hK _ fun ys w' hp hF=>?_
 simp[AllF,DF.holds] at hF;obtain⟨-,-,-,-,-,-,-,-,-,f2,f1⟩:=hF;replace hp:Below w2.drew.heap.size w2.drew w':=hp;replace f1:OwnR w' w2.heap.size (ys 27) R:=f1;replace f2:ys 121=.int .i64 er:=f2;obtain⟨A7,a7,e1,-,-,-⟩:=Own.form f1 j5v;rw[e1] at f1;simp only[e1,f2];have HX:=zQ9 (zA9 f1 (a0.trans (hp.mono a0.size)));clear hK e1 f1 f2 hp;go_wp2_with fail
 exact HQ.o _ _ _ _ _ _ _ _ _ _ A7 a7 _ HX.o.1 HX.o.2
noncomputable def rgPt17:Code:=((Tryz.f4.body.bind (j1u 17)).getD .skip)
theorem pt_part9 (w2:World) (b:Hb) (ss:List Sg) (R:List Rn) (er fl:Int) (B:Option Addr) (mb cb r1 o1 c1 r2 o2 c2 r3 o3 c3 i:Nat) {v0 v1 v2 v3 v4 v5 v6 v7 v8 v9 f6 f5 h0 fa fH gy dA fi fx dy f8 f7 h7 fq gB hh hn g6 fb fe gF fG gH gk ga h5 fy h2 fD du gG f9 g2 h8 g7 g4 fF h3 fh gp g3 dH gh dB fC fp h4 fw g5 dz fj gC ft gv gd fc fg fA gE dF g9 ge dw gc gm dD gw fd ff dG fv fo fE dx gx g1 fB gj gD gt gA g0 dC h6 g8 gu b4 bj c8 c6 a4 br am bi aB bG cf cn b8 c0 bq b5 bp a9 b6 bv ae co cC dr cq cH cz da dd cE d8 d9 cw cy dq cF d5 dj bm aG a3 cg a5 bw ba a6 aD aA cj ce ar bo ay b3 ax c9 a1 az bf c4 bC a2 bD b9 aj bB cc bn av bs c5 aH ad ag aC bF aE bt bu ao ai aw c7 bh aa an b0 ca bE af bz ak bA b7 aq ac ah aF:Value} (Q:Exit->Act->World->Prop)
 (HX:Q9 (R=j6v b fl ss∧er=j1n b fl ss)) (HS:Q9 (∀ W,Below w2.heap.size w2 W->(W.cell? ⟨r1,o1+i*5,none⟩=some (.int .i64 b.t)∧W.cell? ⟨r1,o1+i*5+1,none⟩=some b.vm∧W.cell? ⟨r1,o1+i*5+2,none⟩=some b.vk∧W.cell? ⟨r1,o1+i*5+3,none⟩=some b.vh∧W.cell? ⟨r1,o1+i*5+4,none⟩=some b.vd)∧HbIn W b∧W.cell? ⟨r2,o2+i,none⟩=some (.int .i64 fl)∧W.cell? ⟨r3,o3+i,none⟩=some (.slice B mb cb)∧Sights W B mb ss))
 (ha:r1<w2.heap.size) (hu:r2<w2.heap.size) (he:r3<w2.heap.size) (hy:4<=c1) (ht:c1<=maxLen) (hG:4<=c2) (hj:c2<=maxLen) (hA:4<=c3) (hw:c3<=maxLen) (hr:b.ks.length<=maxLen) (i4:(i:Int)<4) (hH:mb<=20) (h9:mb<=cb) (hx:cb<=maxLen) (hE:mb<=maxLen)
 (HQ:Q9 (∀ (dh dg cp d7 cA cr cu cx cv di cG cB dn ct cD dk:Value) (A7:Option Addr) (a7:Nat) (w':World),OwnR w' w2.heap.size (.slice A7 R.length a7) R->Below w2.heap.size w2 w'->Q .normal ⟨#[v0,v1,v2,v3,v4,v5,v6,v7,v8,v9,f6,f5,h0,fa,fH,gy,dA,fi,fx,dy,(Value.slice (some ⟨r1,o1,none⟩) 4 c1),(Value.slice (some ⟨r2,o2,none⟩) 4 c2),(Value.slice (some ⟨r3,o3,none⟩) 4 c3),f8,(Value.int .i64 (i:Int)),f7,h7,fq,gB,(Value.slice A7 R.length a7),(Value.int .i64 er),g6,fb,fe,gF,fG,gH,gk,ga,h5,fy,h2,fD,du,gG,f9,g2,h8,g7,g4,fF,h3,fh,gp,g3,dH,gh,dB,fC,fp,h4,fw,g5,dz,fj,gC,ft,gv,gd,fc,fg,fA,gE,dF,g9,ge,dw,gc,gm,dD,gw,fd,ff,dG,fv,fo,fE,dx,gx,g1,fB,gj,gD,gt,gA,g0,dC,h6,g8,gu,b4,bj,c8,c6,a4,br,am,bi,aB,bG,cf,cn,b8,c0,bq,b5,bp,a9,b6,bv,ae,co,dh,dg,cp,d7,cA,cr,cu,cx,cv,di,cG,cB,dn,ct,cD,dk,bm,aG,a3,cg,a5,bw,ba,a6,aD,aA,cj,ce,ar,bo,ay,b3,ax,c9,a1,az,bf,c4,bC,a2,bD,b9,aj,bB,cc,bn,av,bs,c5,aH,ad,ag,aC,bF,aE,bt,bu,ao,ai,aw,c7,bh,aa,an,b0,ca,bE,af,bz,ak,bA,b7,aq,ac,ah,aF],[]⟩ w')) :
 Code.wp Tryz.prog rgPt17 Q ⟨#[v0,v1,v2,v3,v4,v5,v6,v7,v8,v9,f6,f5,h0,fa,fH,gy,dA,fi,fx,dy,(Value.slice (some ⟨r1,o1,none⟩) 4 c1),(Value.slice (some ⟨r2,o2,none⟩) 4 c2),(Value.slice (some ⟨r3,o3,none⟩) 4 c3),f8,(Value.int .i64 (i:Int)),f7,h7,fq,gB,hh,hn,g6,fb,fe,gF,fG,gH,gk,ga,h5,fy,h2,fD,du,gG,f9,g2,h8,g7,g4,fF,h3,fh,gp,g3,dH,gh,dB,fC,fp,h4,fw,g5,dz,fj,gC,ft,gv,gd,fc,fg,fA,gE,dF,g9,ge,dw,gc,gm,dD,gw,fd,ff,dG,fv,fo,fE,dx,gx,g1,fB,gj,gD,gt,gA,g0,dC,h6,g8,gu,b4,bj,c8,c6,a4,br,am,bi,aB,bG,cf,cn,b8,c0,bq,b5,bp,a9,b6,bv,ae,co,cC,dr,cq,cH,cz,da,dd,cE,d8,d9,cw,cy,dq,cF,d5,dj,bm,aG,a3,cg,a5,bw,ba,a6,aD,aA,cj,ce,ar,bo,ay,b3,ax,c9,a1,az,bf,c4,bC,a2,bD,b9,aj,bB,cc,bn,av,bs,c5,aH,ad,ag,aC,bF,aE,bt,bu,ao,ai,aw,c7,bh,aa,an,b0,ca,bE,af,bz,ak,bA,b7,aq,ac,ah,aF],[]⟩ w2:=by
 dsimp only
 conv=>arg 2;whnf
 have a0:Below w2.heap.size w2 w2.drew:=j0w (zB2 _ _);have HC:=zQ9 (fun(w':World) (hp:Below w2.drew.heap.size w2.drew w')=>show(w'.cell? ⟨r1,o1+i*5,none⟩=some (.int .i64 b.t)∧w'.cell? ⟨r1,o1+i*5+1,none⟩=some b.vm∧w'.cell? ⟨r1,o1+i*5+2,none⟩=some b.vk∧w'.cell? ⟨r1,o1+i*5+3,none⟩=some b.vh∧w'.cell? ⟨r1,o1+i*5+4,none⟩=some b.vd)∧w'.cell? ⟨r2,o2+i,none⟩=some (.int .i64 fl)∧w'.cell? ⟨r3,o3+i,none⟩=some (.slice B mb cb)∧r1<w'.heap.size∧r2<w'.heap.size∧r3<w'.heap.size from by
  have hz:=hp.size;have h:=HS.o w' (a0.trans (hp.mono a0.size));exact⟨h.1,h.2.2.1,h.2.2.2.1,Nat.lt_of_lt_of_le ha hz,Nat.lt_of_lt_of_le hu hz,Nat.lt_of_lt_of_le he hz⟩)
 refine j0q 17 0 0 [] [] 0 (TBw) (PBw w2.drew) [0,0,0,0,0,0,0,0,0,0,0,0,0,0,0,0,0] (by as_aux_lemma=>kernel_rfl) (by as_aux_lemma=>kernel_rfl) (by as_aux_lemma=>kernel_rfl) (by as_aux_lemma=>kernel_rfl) (by omega) (.inl rfl) rfl rfl (fun k i w1 w2 hc _ hT hp=>PBw.st k i w1 w2 hT hp) (fun k=>zB2 _ _) ?_
 apply zC2;refine⟨fun ys=>?_,fun ops K hK=>?_⟩
 ·simp only[List.take_succ_cons,List.take_zero,j0p,List.filterMap_cons,List.filterMap_nil,j0r];go_simp
  rfl
 simp only[List.take_succ_cons,List.take_zero,List.drop_succ_cons,List.drop_zero] at hK ⊢
 repeat
  refine LexT.const TBw.rf ?_;apply zC2;refine⟨fun ys w' hp hpk hq hd=>?_,?_⟩
  ·try simp[j0d,j0f,DF.holds,Region.binds,EqF] at hd
   try simp only[hd]
   obtain⟨⟨d0,d1,d2,d3,d4⟩,s0,s1,l1,l2,l3⟩:=HC.o w' hp;intro Q2 a8;go_wp2_with fail
   rfl
  try simp only[nl9]
 refine LexT.some (FPt w2.heap.size R er) (fun i v w1 w2 hc _ hT h=>FPt.st i v w1 w2 hT h) (fun ys w' hp hpk hq hd=>?_) ?_
 ·try simp[j0d,j0f,DF.holds,Region.binds,EqF] at hd
  try simp only[hd]
  have h:=HS.o w' (a0.trans (Below.mono hp a0.size));have hf:w2.heap.size<=w'.heap.size:=(show Below w2.drew.heap.size w2.drew w' from hp).size
  have be:=q3u b fl B mb cb ss w' h.2.1 h.2.2.2.2 h9 hx hr;unfold k2a at be;rw[<-HX.o.1,<-HX.o.2] at be;unfold Hb.v at be;clear hp hpk h;intro Q2 a8;go_wp2_with fail
  refine be.mono ?_;rintro e w4 ⟨⟨v1,rfl,ho⟩,hb⟩;have HX:=zQ9 (show TBw 0 w' w4∧FPt w2.heap.size R er (.tuple #[v1,.int .i64 er]) w4 from⟨hb,v1,rfl,ho.mono hf⟩)
  clear ho hb be;go_wp2
  exact⟨_,rfl,HX.o⟩
 try simp only[nl9]
 refine LexT.some (FPt w2.heap.size R er) (fun i v w1 w2 hc _ hT h=>FPt.st i v w1 w2 hT h) (fun ys w' hp hpk hq hd=>?_) ?_
 ·try simp[j0d,j0f,DF.holds,Region.binds,EqF] at hd
  try simp only[hd]
  have HX:=zQ9 (show FPt w2.heap.size R er (ys 135) w' by first|exact hd|exact hd.1)
  clear hp hpk hd;intro Q2 a8;go_wp2_with fail
  exact⟨zB2 _ _,HX.o⟩
 try simp only[nl9]
 refine LexT.some (FOR w2.heap.size R) (fun i v w1 w2 hc _ hT h=>FOR.st i v w1 w2 hT h) (fun ys w' hp hpk hq hd=>?_) ?_
 ·try simp[j0d,j0f,DF.holds,Region.binds,EqF] at hd
  try simp only[hd]
  obtain⟨v1,e1,h1⟩:=(show FPt w2.heap.size R er (ys 122) w' by first|exact hd|exact hd.1)
  simp only[e1];have HX:=zQ9 h1;clear hp hpk hd e1 h1;intro Q2 a8;go_wp2_with fail
  exact⟨zB2 _ _,HX.o⟩
 try simp only[nl9]
 refine LexT.some (FVal (.int .i64 er)) (fun i v w1 w2 hc _ hT h=>FVal.st i v w1 w2 hT h) (fun ys w' hp hpk hq hd=>?_) ?_
 ·try simp[j0d,j0f,DF.holds,Region.binds,EqF] at hd
  try simp only[hd]
  obtain⟨v1,e1,h1⟩:=(show FPt w2.heap.size R er (ys 122) w' by first|exact hd|exact hd.1)
  simp only[e1];clear hp hpk hd e1 h1;intro Q2 a8;go_wp2_with fail
  exact⟨zB2 _ _,rfl⟩
 try simp only[nl9]
 refine LexT.some (FOR w2.heap.size R) (fun i v w1 w2 hc _ hT h=>FOR.st i v w1 w2 hT h) (fun ys w' hp hpk hq hd=>?_) ?_
 ·try simp[j0d,j0f,DF.holds,Region.binds,EqF] at hd
  try simp only[hd]
  have HX:=zQ9 (show FOR w2.heap.size R (ys 136) w' by first|exact hd|exact hd.1)
  clear hp hpk hd;intro Q2 a8;go_wp2_with fail
  exact⟨zB2 _ _,HX.o⟩
 try simp only[nl9]
 refine hK _ fun ys w' hp hF=>?_
 simp[AllF,DF.holds] at hF;obtain⟨-,-,-,-,-,-,-,-,-,-,-,-,-,-,-,f2,f1⟩:=hF;replace hp:Below w2.drew.heap.size w2.drew w':=hp;replace f1:OwnR w' w2.heap.size (ys 29) R:=f1;replace f2:ys 137=.int .i64 er:=f2;obtain⟨A7,a7,e1,-,-,-⟩:=Own.form f1 j5v;rw[e1] at f1;simp only[e1,f2];have HX:=zQ9 (zA9 f1 (a0.trans (hp.mono a0.size)));clear hK e1 f1 f2 hp;go_wp2_with fail
 exact HQ.o _ _ _ _ _ _ _ _ _ _ _ _ _ _ _ _ A7 a7 _ HX.o.1 HX.o.2
theorem j7n {α:Type} [DecidableEq α] (l:List α):j1j l l=true:=by simp[j1j]
def SH9 (V:World) (a b:Hb) (p:Nat) (w:World):Prop:=w.heap[p]?=some a.obj∧w.heap[p+1]?=some b.obj∧HbIn w a∧HbIn w b∧Below V.heap.size V w
theorem SH9.step {V w w':World} {a b:Hb} {p:Nat} (h:SH9 V a b p w) (hb:Below w.heap.size w w'):SH9 V a b p w':=⟨j0e h.1 hb (zL9 _),j0e h.2.1 hb (zL9 _),h.2.2.1.below hb (zL9 _),h.2.2.2.1.below hb (zL9 _),h.2.2.2.2.trans (hb.mono h.2.2.2.2.size)⟩
theorem SH9.start {w:World} {a b:Hb} (h:HbIn w a) (k:HbIn w b):SH9 w a b w.heap.size ((w.alloc a.obj).alloc b.obj) :=
 ⟨j0b (j0c rfl) _,j0c (by simp),h.below (bal (bal0 _ _) (zL9 _) _) (zL9 _),k.below (bal (bal0 _ _) (zL9 _) _) (zL9 _),bal (bal0 _ _) (zL9 _) _⟩
theorem k1b (a b:Hb) (w:World) (ha:HbIn w a) (hb:HbIn w b) (ht:a.t=b.t) (hl:a.l=b.l) (hk:a.ks=b.ks) (hh:a.hs=b.hs) (hd:a.ds=b.ds) :
 Calls Tryz.prog 19 #[a.v,b.v] w fun e w'=>e=.returned (.bool true)∧Below w.heap.size w w':=by
 obtain⟨V,hV⟩:∃ V,V=(w.alloc a.obj).alloc b.obj:=⟨_,rfl⟩;obtain⟨p,hp⟩:∃ p,p=w.heap.size:=⟨_,rfl⟩;have HB:=zQ9 (show SH9 w a b p V by rw[hV,hp];exact SH9.start ha hb)
 obtain⟨t,A,c,l,Ak,ck,ks,Ah,ch,hs,Ad,cd,ds⟩:=a;obtain⟨t2,A2,c2,l2,a4,a7,am,a6,a5,ak,a9,a8,ao⟩:=b;dsimp only at ht hl hk hh hd;subst ht hl hk hh hd;have ac:l.length<=maxLen:=zB6 ha.mc ha.mm;have ad:ks.length<=maxLen:=zB6 ha.kc ha.km;have aa:hs.length<=maxLen:=zB6 ha.hc ha.hm;have ah:ds.length<=maxLen:=zB6 ha.dc ha.dm;have aj:=ha.dc;have ag:=ha.dm;have af:=hb.dc;have ai:=hb.dm;have sR:∀ W,SH9 w ⟨t,A,c,l,Ak,ck,ks,Ah,ch,hs,Ad,cd,ds⟩ ⟨t,A2,c2,l,a4,a7,ks,a6,a5,hs,a9,a8,ds⟩ p W->Calls Tryz.prog 68 #[.agg #[.int .i64 t,.slice A l.length c],.agg #[.int .i64 t,.slice A2 l.length c2]] W fun e w'=>e=.returned (.bool true)∧Below W.heap.size W w':=fun W h=>by
  have:=k2l t t A l.length c l A2 l.length c2 l W h.2.2.1.m h.2.2.2.1.m ac ac
  rwa [j7n,show(decide (t=t)&&true)=true by simp] at this
 have sK:∀ W,SH9 w ⟨t,A,c,l,Ak,ck,ks,Ah,ch,hs,Ad,cd,ds⟩ ⟨t,A2,c2,l,a4,a7,ks,a6,a5,hs,a9,a8,ds⟩ p W->Calls Tryz.prog 48 #[.slice Ak ks.length ck,.slice a4 ks.length a7] W fun e w'=>e=.returned (.bool true)∧Below W.heap.size W w':=fun W h=>by
  have:=j8l Ak ks.length ck ks a4 ks.length a7 ks W h.2.2.1.k h.2.2.2.1.k ad ad
  rwa [j7n] at this
 have sG:∀ W,SH9 w ⟨t,A,c,l,Ak,ck,ks,Ah,ch,hs,Ad,cd,ds⟩ ⟨t,A2,c2,l,a4,a7,ks,a6,a5,hs,a9,a8,ds⟩ p W->Calls Tryz.prog 69 #[.slice Ah hs.length ch,.slice a6 hs.length a5] W fun e w'=>e=.returned (.bool true)∧Below W.heap.size W w':=fun W h=>by
  have:=k7z Ah hs.length ch hs a6 hs.length a5 hs W h.2.2.1.h h.2.2.2.1.h aa aa
  rwa [j7n] at this
 obtain⟨c0,c1,a3,c3,c4⟩:=j0h HB.o.1;obtain⟨d0,d1,d2,d3,d4⟩:=j0h HB.o.2.1;have a2:=j0a HB.o.1;have a1:=j0a HB.o.2.1;unfold maxLen at ac ad aa ah;unfold Hb.v;clear ha hb;go_enter Tryz.func19,Tryz.ntmps19
 go_upto_region 1 with (fail)
 rw[show(w.alloc (.cells #[.int .i64 t,.slice A l.length c,.slice Ak ks.length ck,.slice Ah hs.length ch,.slice Ad ds.length cd] 29)).alloc (.cells #[.int .i64 t,.slice A2 l.length c2,.slice a4 ks.length a7,.slice a6 hs.length a5,.slice a9 ds.length a8] 29)=V from hV.symm,<-hp]
 clear hV hp;have e1:((ds.length:Int)==(ds.length:Int))=true:=by simp
 go_upto_region 4 with (first
  | (go_at_call 68;(with_reducible refine(sR _ HB.o).mono ?_);rintro e wn ⟨rfl,a0⟩;replace HB:=zQ9 (HB.o.step a0);clear a0 c0 c1 a3 c3 c4 d0 d1 d2 d3 d4 a2 a1;obtain⟨c0,c1,a3,c3,c4⟩:=j0h HB.o.1;obtain⟨d0,d1,d2,d3,d4⟩:=j0h HB.o.2.1;have a2:=j0a HB.o.1;have a1:=j0a HB.o.2.1)
  | (go_at_call 48;(with_reducible refine(sK _ HB.o).mono ?_);rintro e wn ⟨rfl,a0⟩;replace HB:=zQ9 (HB.o.step a0);clear a0 c0 c1 a3 c3 c4 d0 d1 d2 d3 d4 a2 a1;obtain⟨c0,c1,a3,c3,c4⟩:=j0h HB.o.1;obtain⟨d0,d1,d2,d3,d4⟩:=j0h HB.o.2.1;have a2:=j0a HB.o.1;have a1:=j0a HB.o.2.1)
  | (go_at_call 69;(with_reducible refine(sG _ HB.o).mono ?_);rintro e wn ⟨rfl,a0⟩;replace HB:=zQ9 (HB.o.step a0);clear a0 c0 c1 a3 c3 c4 d0 d1 d2 d3 d4 a2 a1;obtain⟨c0,c1,a3,c3,c4⟩:=j0h HB.o.1;obtain⟨d0,d1,d2,d3,d4⟩:=j0h HB.o.2.1;have a2:=j0a HB.o.1;have a1:=j0a HB.o.2.1))
 clear e1 sR sK sG;go_loopg [5] ds.length (fun gh v5 wr=>∃ k:Nat,k+gh=ds.length∧v5=.int .i64 k∧SH9 w ⟨t,A,c,l,Ak,ck,ks,Ah,ch,hs,Ad,cd,ds⟩ ⟨t,A2,c2,l,a4,a7,ks,a6,a5,hs,a9,a8,ds⟩ p wr)
 case atStart=>exact⟨0,by omega,rfl,HB.o⟩
 case round =>
  obtain⟨k,hk,rfl,hB⟩:=hrel;obtain⟨w2,ae⟩:∃ W:World,W=wr:=⟨_,rfl⟩;rw[<-ae] at hB ⊢;clear ae c0 c1 a3 c3 c4 d0 d1 d2 d3 d4 a2 a1;obtain⟨c0,c1,a3,c3,c4⟩:=j0h hB.1;obtain⟨d0,d1,d2,d3,d4⟩:=j0h hB.2.1;have a2:=j0a hB.1;have a1:=j0a hB.2.1;by_cases hlt:k<ds.length
  ·obtain⟨b1,o1,x,eA,av,hx,x0,x1,x2,x3,x4,x5,x6,x7,x8,x9,aq,ar⟩:=hB.2.2.1.d.get hlt;obtain⟨b2,o2,y,eB,ax,hy,y0,y1,y2,y3,y4,y5,y6,y7,y8,y9,an,aw⟩:=hB.2.2.2.1.d.get hlt;dsimp only at eA eB hx hy;rw[hx] at hy;cases hy;subst eA eB;have i1:(k:Int)<(ds.length:Int):=by omega
   have HK:=zQ9 (zA9 hk hB);clear hk hB hx;go_upto_region 6 with (fail)
   go_quiet (fail)
   go_wp2_with fail
   go_roundg (gk-1)
   case measure=>have:=HK.o.1;omega
   case rel=>exact⟨k+1,by have:=HK.o.1;omega,by go_num,HK.o.2.step (j0k (zB2 _ _) nq)⟩
  ·obtain rfl:k=ds.length:=by omega
   have HK:=zQ9 hB;clear hB hk;go_wp2_with fail
   go_ret
   exact⟨rfl,HK.o.2.2.2.2⟩
theorem app_book {b:Hb} {d:De} {base q gd cd:Nat} {w5 w6 w7:World} (h5:w5.heap[q]?=some b.obj) (hO:HbO w5 base b) (hq:base<=q) (a2:OwnD w6 base (.slice (some ⟨gd,0,none⟩) (b.ds.length+1) cd) (b.ds++[d])) (a0:w5.grownBy w6 b.vd.ownBlock) (a5:Below base w5 w6)
 (h7:w7=w6.setCell ⟨q,4,none⟩ (.slice (some ⟨gd,0,none⟩) (b.ds.length+1) cd)) :
 w7.heap[q]?=some (Hb.obj ⟨b.t,b.A,b.c,b.l,b.Ak,b.ck,b.ks,b.Ah,b.ch,b.hs,some ⟨gd,0,none⟩,cd,b.ds++[d]⟩)∧HbO w7 base ⟨b.t,b.A,b.c,b.l,b.Ak,b.ck,b.ks,b.Ah,b.ch,b.hs,some ⟨gd,0,none⟩,cd,b.ds++[d]⟩∧Below base w5 w7:=by
 have a4:=j0a h5;have a3:b.vd.ownBlock≠some q:=hO.d.ne' h5 (by decide)
 have q6:w6.heap[q]?=some b.obj:=(a0.block q a4 (fun e=>a3 e.symm)).trans h5
 have q7:w7.heap[q]?=some (Hb.obj ⟨b.t,b.A,b.c,b.l,b.Ak,b.ck,b.ks,b.Ah,b.ch,b.hs,some ⟨gd,0,none⟩,cd,b.ds++[d]⟩):=by
  rw[h7];refine(j0g q6).trans ?_;simp
 have a1:w6.grownBy w7 (some q):=by rw[h7];exact⟨rfl,rfl,rfl,by simp,fun j _ hne=>zB1 _ ⟨q,4,none⟩ _ j (fun e=>hne (by rw[e]))⟩
 refine⟨q7,⟨?_,?_,?_,?_⟩,by rw[h7];exact Below.setCell a5 (p:=⟨q,4,none⟩) hq _⟩
 ·have h:=hO.m.kept a0 (j0y hO.m hO.d (by decide))
  exact h.kept a1 (.inr (h.ne' q6 (by decide)))
 ·have h:=hO.k.kept a0 (j0y hO.k hO.d (by decide))
  exact h.kept a1 (.inr (h.ne' q6 (by decide)))
 ·obtain⟨mv,h1,h2⟩:=hO.h;have h:OwnG w6 base b.vh b.hs :=
   ⟨mv,h1.kept a0 (j0y h1 hO.d (by decide)),Rws.kept h2 a0 (fun x hx=>by
    obtain⟨k,hk⟩:=List.getElem?_of_mem hx;obtain⟨l,_,ho⟩:=h2.2 k x hk;exact j0y ho hO.d (by decide))⟩
  exact h.keptB a1 q6
 ·have h':=a2.kept a1 (.inr (a2.ne' q6 (by decide)))
  unfold Hb.vd;rw[List.length_append,List.length_singleton];exact h'
end Go.Proofs.YtmennjmjakdkcaaGreat
