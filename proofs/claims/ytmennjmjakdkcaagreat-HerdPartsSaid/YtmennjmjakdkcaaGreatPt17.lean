/- HerdParts. -/
import Derived.Test.YtmennjmjakdkcaaGreatPt15
import Derived.BigRegion
set_option linter.unusedVariables false
set_option linter.unusedSimpArgs false
set_option maxRecDepth 1000000
set_option maxHeartbeats 8000000
namespace Go.Proofs.YtmennjmjakdkcaaGreat
open Go.RowKit
theorem sw_cnt5 (w w1 W:World) (H q p f al nh be off ce hy m5 nb kH m3 z3 zr M3:Nat) (t ho kd sm:Int) (vd:Value) (A Ak Ah:Option Addr) (c ck ch:Nat) (l:List Mk) (ks:List Int) (hs gs:List (List Int)) (ds:List De) (a0 whose:List Int) {v1 v2 v3 v4 v5 v6 v7 v8 v9 mf kA mt nm m8 g5 mu nA ny nG mg mo n9 kB mh np ms kr ni mw mC n6 kt kF mD kq k4 ka ku na m1 n7 nq mi kj kb me ki m9 kD n3 nr mn m2 kx mj kp k8 my nf mH k7 mq mA kz kg ng kw kh m4 mb kn n1 k6 mF n4 n2 kG mE nj n8 mr mx mz m6 ko m0 ma ns nE nv gG br cn fq g1 hu gd bq j5 ca ii k2 h5 cb jn ja jk g3 jc hE d2 k3 dn cx cD dB gh bB js gC bz fb ix iC k0 j9 dC i5 hh cw g0 im ao fc h7 aq gx j3 cr cp dg ji gu gE gt fv an gw cy cc c4 fG jv h6 aD c0 jF bt dj jo cf gA ay d5 j6 c9 dr f9 hA aF aC aH cj dH g4 ge ba jD i7 iy fd d7 i1 h4 gj iu iA b9 io fB dx jd gF ig jw fw cg fy b3 f8 d8 di bA cE gc cz ax d0 jh b8 f5 cG f1 i8 bs iH g8 fi dD dw aB j7 i3 f6 h8 da ib h3 cB f2 fp bF j1 je bo j0 fg bh g9 aw cA jt c7 dd ik bi jz iB ih bu aE jA b7 iF h9 ij d4 jE jr i6 dA iG bE hG fa ht gk jB dF jg iD gm j4 ar g6 fD hF iv g7 co hH hf g2 ff bm fE d1 jm h0 d9 jC fh ft gv jG it d3 bD ie i2 aA dG b0 bn cq iw k1 bf j8 hn i9 jy fj jq az jf dq bv fo ju cH gp j2 hx dz hj hr cF jH ga bC dh gD bw jx fA he c8 ct gB aG bp gy iq b4 jj av bG gH fC c6 iE jb bj b5 cu c5 i4 iz b6 h2 i0 hq dy ia fF jp f7 fH ip ir fx dk hw ic cC fe a6 aa ai ae a5 a2 af a7 a8 a3 a4 ac ah ad:Value} (Q:Exit->Act->World->Prop)
 (ke:Q9 (SwD w w1 H q t al nh be off ce hy m5 nb kH m3 z3 zr p A Ak Ah c ck ch vd ds gs a0 g5 whose (M3+1+1+1) ⟨6,f,0,0,0,0,0,sZ⟩ W)) (HC:Q9 (SwC t al nh f ho sm l ks hs ds gs a0 whose)) (nu:f<nh) (nC:nh<=3) (nB:al<=5) (nF:0<al) (nD:M3<=4611686018000030000) (mv:Hd W H (M3+1+1+1)) (nt:0<=sm∧sm<=80)
 (hk:kd=5)
 (HQ:SwQ w w1 H q p f al nh be off ce hy m5 nb kH m3 z3 zr M3 t ho kd vd A Ak Ah c ck ch l ks hs ds whose v1 v2 v3 v4 v5 v6 v7 v8 v9 mf kA mt nm m8 g5 mu mg mo n9 kB mh np ms kr ni mw mC n6 kt kF mD kq k4 ka ku na m1 n7 nq mi kj kb me ki m9 kD n3 nr mn m2 kx mj kp k8 my nf mH k7 mq mA kz kg ng kw kh m4 mb kn n1 k6 mF n4 n2 kG mE nj n8 mr mx mz m6 ko m0 ma ns a6 aa ai ae a5 a2 af a7 a8 a3 a4 ac ah ad Q) :
 Code.wp Tryz.prog j3a Q ⟨#[Value.pointer (some ⟨H,0,none⟩),v1,v2,v3,v4,v5,v6,v7,v8,v9,mf,kA,Value.pointer (some ⟨q,0,none⟩),Value.int .i64 (al:Int),mt,nm,m8,Value.slice (some ⟨be,off,none⟩) nh ce,Value.slice (some ⟨hy,0,none⟩) al al,g5,mu,Value.int .i64 (f:Int),Value.int .i64 ho,Value.int .i64 (-1),Value.int .i64 kd,Value.pointer (some ⟨p,0,none⟩),nA,ny,nG,mg,mo,n9,kB,mh,np,ms,kr,ni,mw,mC,n6,kt,kF,mD,kq,k4,ka,ku,na,m1,n7,nq,mi,kj,kb,me,ki,m9,kD,n3,nr,mn,m2,kx,mj,kp,k8,my,nf,mH,k7,mq,mA,kz,kg,ng,kw,kh,m4,mb,kn,n1,k6,mF,n4,n2,kG,mE,nj,n8,mr,mx,mz,m6,ko,m0,ma,ns,nE,nv,gG,br,cn,fq,g1,hu,gd,bq,j5,ca,ii,k2,h5,cb,jn,ja,jk,g3,jc,hE,d2,k3,dn,cx,cD,dB,gh,bB,js,gC,bz,fb,ix,iC,k0,j9,dC,i5,hh,cw,g0,im,ao,fc,h7,aq,gx,j3,cr,cp,dg,ji,gu,gE,gt,fv,an,gw,cy,cc,c4,fG,jv,h6,aD,c0,jF,bt,dj,jo,cf,gA,ay,d5,j6,c9,dr,f9,hA,aF,aC,aH,cj,dH,g4,ge,ba,jD,i7,iy,fd,d7,i1,h4,gj,iu,iA,b9,io,fB,dx,jd,gF,ig,jw,fw,cg,fy,b3,f8,d8,di,bA,cE,gc,cz,ax,d0,jh,b8,f5,cG,f1,i8,bs,iH,g8,fi,dD,dw,aB,j7,i3,f6,h8,da,ib,h3,cB,f2,fp,bF,j1,je,bo,j0,fg,bh,g9,aw,cA,jt,c7,dd,ik,bi,jz,iB,ih,bu,aE,jA,b7,iF,h9,ij,d4,jE,jr,i6,dA,iG,bE,hG,fa,ht,gk,jB,dF,jg,iD,gm,j4,ar,g6,fD,hF,iv,g7,co,hH,hf,g2,ff,bm,fE,d1,jm,h0,d9,jC,fh,ft,gv,jG,it,d3,bD,ie,i2,aA,dG,b0,bn,cq,iw,k1,bf,j8,hn,i9,jy,fj,jq,az,jf,dq,bv,fo,ju,cH,gp,j2,hx,dz,hj,hr,cF,jH,ga,bC,dh,gD,bw,jx,fA,he,c8,ct,gB,aG,bp,gy,iq,b4,jj,av,bG,gH,fC,c6,iE,jb,bj,b5,cu,c5,i4,iz,b6,h2,i0,hq,dy,ia,fF,jp,f7,fH,ip,ir,fx,dk,hw,ic,cC,fe,a6,aa,ai,ae,a5,a2,af,a7,a8,a3,a4,ac,ah,ad],[]⟩ W:=by
 conv=>arg 2;whnf
 subst hk;have cv:=j1z (some ⟨be,off,none⟩) nh ce f gs W (TDe.grid (RD.td ke.o)).1 nu (by omega) HC.o.rb
 rw[<-HC.o.su] at cv;go_upto_region 24 with (go_at_call 75;refine cv.mono ?_;rintro e w' ⟨rfl,rfl⟩)
 clear cv;have kC:=j4g H (M3+1+1+1) 0 (some ⟨W.heap.size,0,none⟩) 3 3 [0,5,20] _ (mv.alloc _) (by omega) (j7j W 3 0 5 20) (j3r mv (zL9 _) 0) (by omega)
 go_upto_region 25 with (go_at_call 72;refine kC.mono ?_;rintro e w5 ⟨er,rfl,ky,k5⟩;have aj:=((RD.alloc ke.o _).dealt k5);obtain⟨e0,e1,e2,e3,e4,e5,e6,-⟩:=blkD aj.bx;have z6:=frz aj.bx 6;have m7:=zQ9 aj;clear aj k5)
 have a9:er=0∨er=5∨er=20:=by
  simp only[List.mem_cons,List.not_mem_nil,or_false] at ky;omega
 have a1:=zQ9 a9;obtain⟨V5,k9⟩:∃ V5,V5=w5.setCell ⟨p,6,none⟩ (.int .i64 er):=⟨_,rfl⟩;have ag:=m7.o.put 6 (.int .i64 er) (d':=⟨6,f,0,0,0,0,er,sZ⟩) ((j0g m7.o.bx).trans (by simp))
 rw[<-k9] at ag ⊢;obtain⟨e0,e1,e2,e3,e4,e5,e6,-⟩:=blkD ag.bx;have nx:=ag.td.dl.hd;have nw:=zQ9 ag;have o1:-1600<=-er*sm∧-er*sm<=1600:=by rcases a1.o with rfl|rfl|rfl<;>omega
 have nH:-1600<=er*sm∧er*sm<=1600:=by rcases a1.o with rfl|rfl|rfl<;>omega
 have o0:0<=er∧er<=20:=by omega
 clear ag k9 ky a9 kC z6;go_wp2_with (go_at_call 50;refine(j1f H (M3+1+1+1+1) _ _ V5 nx (by omega) (by rcases a1.o with rfl|rfl|rfl<;>exact j2n (by omega)) (by rcases a1.o with rfl|rfl|rfl<;>exact j2n (by omega))).mono ?_;rintro e w6 ⟨a,rfl,mG,kE,mB⟩;have am:=nw.o.dealt mB;have du:=j7w a1.o nt mG kE;obtain⟨y0,y1,y2,y3,y4,y5,y6,-⟩:=blkD am.bx;have z5:=frz am.bx 5;have ak:=zQ9 (zA9 am du.1);have ha:=du.2;clear am mB mG kE du)
 have nz:=ak.o.1.put 5 (.int .i64 (sm+a)) (d':=⟨6,f,0,0,0,sm+a,er,sZ⟩) ((j0g ak.o.1.bx).trans (by simp))
 refine HQ _ _ _ _ _ _ _ _ _ _ _ _ _ _ _ _ _ _ _ _ _ _ _ _ _ _ _ _ _ _ _ _ _ _ _ _ _ _ _ _ _ _ _ _ _ _ _ _ _ _ _ _ _ _ _ _ _ _ _ _ _ _ _ _ _ _ _ _ _ _ _ _ _ _ _ _ _ _ _ _ _ _ _ _ _ _ _ _ _ _ _ _ _ _ _ _ _ _ _ _ _ _ _ _ _ _ _ _ _ _ _ _ _ _ _ _ _ _ _ _ _ _ _ _ _ _ _ _ _ _ _ _ _ _ _ _ _ _ _ _ _ _ _ _ _ _ _ _ _ _ _ _ _ _ _ _ _ _ _ _ _ _ _ _ _ _ _ _ _ _ _ _ _ _ _ _ _ _ _ _ _ _ _ _ _ _ _ _ _ _ _ _ _ _ _ _ _ _ _ _ _ _ _ _ _ _ _ _ _ _ _ _ _ _ _ _ _ _ _ _ _ _ _ _ _ _ _ _ _ _ _ _ _ _ _ _ _ _ _ _ _ _ _ _ _ _ _ _ _ _ _ _ _ _ _ _ _ _ _ _ _ _ _ _ _ _ _ _ _ _ _ _ _ _ _ _ _ _ _ _ _ _ _ _ _ _ _ _ _ _ _ _ _ _ ?_;exact⟨-1,_,gs,a0,rfl,nz.mono (by omega),HC.o.r.counted HC.o.fk (by rw[HC.o.su];exact(HC.o.r.sum HC.o.fk).1) a1.o ak.o.2.1 ak.o.2.2 HC.o.d6⟩
theorem sw_cnt6 (w w1 W:World) (H q p f al nh be off ce hy m5 nb kH m3 z3 zr M3:Nat) (t ho kd sm:Int) (vd:Value) (A Ak Ah:Option Addr) (c ck ch:Nat) (l:List Mk) (ks:List Int) (hs gs:List (List Int)) (ds:List De) (a0 whose:List Int) {v1 v2 v3 v4 v5 v6 v7 v8 v9 mf kA mt nm m8 g5 mu nA ny nG mg mo n9 kB mh np ms kr ni mw mC n6 kt kF mD kq k4 ka ku na m1 n7 nq mi kj kb me ki m9 kD n3 nr mn m2 kx mj kp k8 my nf mH k7 mq mA kz kg ng kw kh m4 mb kn n1 k6 mF n4 n2 kG mE nj n8 mr mx mz m6 ko m0 ma ns nE nv gG br cn fq g1 hu gd bq j5 ca ii k2 h5 cb jn ja jk g3 jc hE d2 k3 dn cx cD dB gh bB js gC bz fb ix iC k0 j9 dC i5 hh cw g0 im ao fc h7 aq gx j3 cr cp dg ji gu gE gt fv an gw cy cc c4 fG jv h6 aD c0 jF bt dj jo cf gA ay d5 j6 c9 dr f9 hA aF aC aH cj dH g4 ge ba jD i7 iy fd d7 i1 h4 gj iu iA b9 io fB dx jd gF ig jw fw cg fy b3 f8 d8 di bA cE gc cz ax d0 jh b8 f5 cG f1 i8 bs iH g8 fi dD dw aB j7 i3 f6 h8 da ib h3 cB f2 fp bF j1 je bo j0 fg bh g9 aw cA jt c7 dd ik bi jz iB ih bu aE jA b7 iF h9 ij d4 jE jr i6 dA iG bE hG fa ht gk jB dF jg iD gm j4 ar g6 fD hF iv g7 co hH hf g2 ff bm fE d1 jm h0 d9 jC fh ft gv jG it d3 bD ie i2 aA dG b0 bn cq iw k1 bf j8 hn i9 jy fj jq az jf dq bv fo ju cH gp j2 hx dz hj hr cF jH ga bC dh gD bw jx fA he c8 ct gB aG bp gy iq b4 jj av bG gH fC c6 iE jb bj b5 cu c5 i4 iz b6 h2 i0 hq dy ia fF jp f7 fH ip ir fx dk hw ic cC fe a6 aa ai ae a5 a2 af a7 a8 a3 a4 ac ah ad:Value} (Q:Exit->Act->World->Prop)
 (ke:Q9 (SwD w w1 H q t al nh be off ce hy m5 nb kH m3 z3 zr p A Ak Ah c ck ch vd ds gs a0 g5 whose (M3+1+1+1) ⟨6,f,0,0,0,0,0,sZ⟩ W)) (HC:Q9 (SwC t al nh f ho sm l ks hs ds gs a0 whose)) (nu:f<nh) (nC:nh<=3) (nB:al<=5) (nF:0<al) (nD:M3<=4611686018000030000) (mv:Hd W H (M3+1+1+1)) (nt:0<=sm∧sm<=80)
 (hk:6<=kd) (nH:ho=-1)
 (HQ:SwQ w w1 H q p f al nh be off ce hy m5 nb kH m3 z3 zr M3 t ho kd vd A Ak Ah c ck ch l ks hs ds whose v1 v2 v3 v4 v5 v6 v7 v8 v9 mf kA mt nm m8 g5 mu mg mo n9 kB mh np ms kr ni mw mC n6 kt kF mD kq k4 ka ku na m1 n7 nq mi kj kb me ki m9 kD n3 nr mn m2 kx mj kp k8 my nf mH k7 mq mA kz kg ng kw kh m4 mb kn n1 k6 mF n4 n2 kG mE nj n8 mr mx mz m6 ko m0 ma ns a6 aa ai ae a5 a2 af a7 a8 a3 a4 ac ah ad Q) :
 Code.wp Tryz.prog j3a Q ⟨#[Value.pointer (some ⟨H,0,none⟩),v1,v2,v3,v4,v5,v6,v7,v8,v9,mf,kA,Value.pointer (some ⟨q,0,none⟩),Value.int .i64 (al:Int),mt,nm,m8,Value.slice (some ⟨be,off,none⟩) nh ce,Value.slice (some ⟨hy,0,none⟩) al al,g5,mu,Value.int .i64 (f:Int),Value.int .i64 ho,Value.int .i64 (-1),Value.int .i64 kd,Value.pointer (some ⟨p,0,none⟩),nA,ny,nG,mg,mo,n9,kB,mh,np,ms,kr,ni,mw,mC,n6,kt,kF,mD,kq,k4,ka,ku,na,m1,n7,nq,mi,kj,kb,me,ki,m9,kD,n3,nr,mn,m2,kx,mj,kp,k8,my,nf,mH,k7,mq,mA,kz,kg,ng,kw,kh,m4,mb,kn,n1,k6,mF,n4,n2,kG,mE,nj,n8,mr,mx,mz,m6,ko,m0,ma,ns,nE,nv,gG,br,cn,fq,g1,hu,gd,bq,j5,ca,ii,k2,h5,cb,jn,ja,jk,g3,jc,hE,d2,k3,dn,cx,cD,dB,gh,bB,js,gC,bz,fb,ix,iC,k0,j9,dC,i5,hh,cw,g0,im,ao,fc,h7,aq,gx,j3,cr,cp,dg,ji,gu,gE,gt,fv,an,gw,cy,cc,c4,fG,jv,h6,aD,c0,jF,bt,dj,jo,cf,gA,ay,d5,j6,c9,dr,f9,hA,aF,aC,aH,cj,dH,g4,ge,ba,jD,i7,iy,fd,d7,i1,h4,gj,iu,iA,b9,io,fB,dx,jd,gF,ig,jw,fw,cg,fy,b3,f8,d8,di,bA,cE,gc,cz,ax,d0,jh,b8,f5,cG,f1,i8,bs,iH,g8,fi,dD,dw,aB,j7,i3,f6,h8,da,ib,h3,cB,f2,fp,bF,j1,je,bo,j0,fg,bh,g9,aw,cA,jt,c7,dd,ik,bi,jz,iB,ih,bu,aE,jA,b7,iF,h9,ij,d4,jE,jr,i6,dA,iG,bE,hG,fa,ht,gk,jB,dF,jg,iD,gm,j4,ar,g6,fD,hF,iv,g7,co,hH,hf,g2,ff,bm,fE,d1,jm,h0,d9,jC,fh,ft,gv,jG,it,d3,bD,ie,i2,aA,dG,b0,bn,cq,iw,k1,bf,j8,hn,i9,jy,fj,jq,az,jf,dq,bv,fo,ju,cH,gp,j2,hx,dz,hj,hr,cF,jH,ga,bC,dh,gD,bw,jx,fA,he,c8,ct,gB,aG,bp,gy,iq,b4,jj,av,bG,gH,fC,c6,iE,jb,bj,b5,cu,c5,i4,iz,b6,h2,i0,hq,dy,ia,fF,jp,f7,fH,ip,ir,fx,dk,hw,ic,cC,fe,a6,aa,ai,ae,a5,a2,af,a7,a8,a3,a4,ac,ah,ad],[]⟩ W:=by
 conv=>arg 2;whnf
 subst nH;have x1:(kd==1)=false:=beq_eq_false_iff_ne.2 (by omega)
 have x2:(kd==2)=false:=beq_eq_false_iff_ne.2 (by omega)
 have x3:(kd==3)=false:=beq_eq_false_iff_ne.2 (by omega)
 have x4:(kd==4)=false:=beq_eq_false_iff_ne.2 (by omega)
 have cv:=j1z (some ⟨be,off,none⟩) nh ce f gs W (TDe.grid (RD.td ke.o)).1 nu (by omega) HC.o.rb
 rw[<-HC.o.su] at cv;go_upto_region 24 with (go_at_call 75;refine cv.mono ?_;rintro e w' ⟨rfl,rfl⟩)
 clear cv;have kC:=j4g H (M3+1+1+1) 0 (some ⟨W.heap.size,0,none⟩) 3 3 [0,5,20] _ (mv.alloc _) (by omega) (j7j W 3 0 5 20) (j3r mv (zL9 _) 0) (by omega)
 go_upto_region 25 with (go_at_call 72;refine kC.mono ?_;rintro e w5 ⟨er,rfl,ky,k5⟩;have aj:=((RD.alloc ke.o _).dealt k5);obtain⟨e0,e1,e2,e3,e4,e5,e6,-⟩:=blkD aj.bx;have z6:=frz aj.bx 6;have m7:=zQ9 aj;clear aj k5)
 have a9:er=0∨er=5∨er=20:=by
  simp only[List.mem_cons,List.not_mem_nil,or_false] at ky;omega
 have a1:=zQ9 a9;obtain⟨V5,k9⟩:∃ V5,V5=w5.setCell ⟨p,6,none⟩ (.int .i64 er):=⟨_,rfl⟩;have ag:=m7.o.put 6 (.int .i64 er) (d':=⟨6,f,0,0,0,0,er,sZ⟩) ((j0g m7.o.bx).trans (by simp))
 rw[<-k9] at ag ⊢;obtain⟨e0,e1,e2,e3,e4,e5,e6,-⟩:=blkD ag.bx;have nx:=ag.td.dl.hd;have nw:=zQ9 ag;have o2:-1600<=-er*sm∧-er*sm<=1600:=by rcases a1.o with rfl|rfl|rfl<;>omega
 have o0:-1600<=er*sm∧er*sm<=1600:=by rcases a1.o with rfl|rfl|rfl<;>omega
 have o1:0<=er∧er<=20:=by omega
 clear ag k9 ky a9 kC z6;go_wp2_with (go_at_call 50;refine(j1f H (M3+1+1+1+1) _ _ V5 nx (by omega) (by rcases a1.o with rfl|rfl|rfl<;>exact j2n (by omega)) (by rcases a1.o with rfl|rfl|rfl<;>exact j2n (by omega))).mono ?_;rintro e w6 ⟨a,rfl,mG,kE,mB⟩;have am:=nw.o.dealt mB;have du:=j7w a1.o nt mG kE;obtain⟨y0,y1,y2,y3,y4,y5,y6,-⟩:=blkD am.bx;have z5:=frz am.bx 5;have ak:=zQ9 (zA9 am du.1);have ha:=du.2;clear am mB mG kE du)
 have nz:=ak.o.1.put 5 (.int .i64 (sm+a)) (d':=⟨6,f,0,0,0,sm+a,er,sZ⟩) ((j0g ak.o.1.bx).trans (by simp))
 refine HQ _ _ _ _ _ _ _ _ _ _ _ _ _ _ _ _ _ _ _ _ _ _ _ _ _ _ _ _ _ _ _ _ _ _ _ _ _ _ _ _ _ _ _ _ _ _ _ _ _ _ _ _ _ _ _ _ _ _ _ _ _ _ _ _ _ _ _ _ _ _ _ _ _ _ _ _ _ _ _ _ _ _ _ _ _ _ _ _ _ _ _ _ _ _ _ _ _ _ _ _ _ _ _ _ _ _ _ _ _ _ _ _ _ _ _ _ _ _ _ _ _ _ _ _ _ _ _ _ _ _ _ _ _ _ _ _ _ _ _ _ _ _ _ _ _ _ _ _ _ _ _ _ _ _ _ _ _ _ _ _ _ _ _ _ _ _ _ _ _ _ _ _ _ _ _ _ _ _ _ _ _ _ _ _ _ _ _ _ _ _ _ _ _ _ _ _ _ _ _ _ _ _ _ _ _ _ _ _ _ _ _ _ _ _ _ _ _ _ _ _ _ _ _ _ _ _ _ _ _ _ _ _ _ _ _ _ _ _ _ _ _ _ _ _ _ _ _ _ _ _ _ _ _ _ _ _ _ _ _ _ _ _ _ _ _ _ _ _ _ _ _ _ _ _ _ _ _ _ _ _ _ _ _ _ _ _ _ _ _ _ _ _ _ _ ?_;exact⟨-1,_,gs,a0,rfl,nz.mono (by omega),HC.o.r.counted HC.o.fk (by rw[HC.o.su];exact(HC.o.r.sum HC.o.fk).1) a1.o ak.o.2.1 ak.o.2.2 HC.o.d6⟩
theorem sw_cnt2b (w w1 W:World) (H q p f al nh be off ce hy m5 nb kH m3 z3 zr M3:Nat) (t ho kd sm:Int) (vd:Value) (A Ak Ah:Option Addr) (c ck ch:Nat) (l:List Mk) (ks:List Int) (hs gs:List (List Int)) (ds:List De) (a0 whose:List Int) {v1 v2 v3 v4 v5 v6 v7 v8 v9 mf kA mt nm m8 g5 mu nA ny nH mg mo n9 kB mh np ms kr ni mw mC n6 kt kF mD kq k4 ka ku na m1 n7 nq mi kj kb me ki m9 kD n3 nr mn m2 kx mj kp k8 my nf mH k7 mq mA kz kg ng kw kh m4 mb kn n1 k6 mF n4 n2 kG mE nj n8 mr mx mz m6 ko m0 ma ns nF nv gG br cn fq g1 hu gd bq j5 ca ii k2 h5 cb jn ja jk g3 jc hE d2 k3 dn cx cD dB gh bB js gC bz fb ix iC k0 j9 dC i5 hh cw g0 im ao fc h7 aq gx j3 cr cp dg ji gu gE gt fv an gw cy cc c4 fG jv h6 aD c0 jF bt dj jo cf gA ay d5 j6 c9 dr f9 hA aF aC aH cj dH g4 ge ba jD i7 iy fd d7 i1 h4 gj iu iA b9 io fB dx jd gF ig jw fw cg fy b3 f8 d8 di bA cE gc cz ax d0 jh b8 f5 cG f1 i8 bs iH g8 fi dD dw aB j7 i3 f6 h8 da ib h3 cB f2 fp bF j1 je bo j0 fg bh g9 aw cA jt c7 dd ik bi jz iB ih bu aE jA b7 iF h9 ij d4 jE jr i6 dA iG bE hG fa ht gk jB dF jg iD gm j4 ar g6 fD hF iv g7 co hH hf g2 ff bm fE d1 jm h0 d9 jC fh ft gv jG it d3 bD ie i2 aA dG b0 bn cq iw k1 bf j8 hn i9 jy fj jq az jf dq bv fo ju cH gp j2 hx dz hj hr cF jH ga bC dh gD bw jx fA he c8 ct gB aG bp gy iq b4 jj av bG gH fC c6 iE jb bj b5 cu c5 i4 iz b6 h2 i0 hq dy ia fF jp f7 fH ip ir fx dk hw ic cC fe a6 aa ai ae a5 a2 af a7 a8 a3 a4 ac ah ad:Value} (Q:Exit->Act->World->Prop)
 (ke:Q9 (SwD w w1 H q t al nh be off ce hy m5 nb kH m3 z3 zr p A Ak Ah c ck ch vd ds gs a0 g5 whose (M3+1+1+1) ⟨6,f,0,0,0,0,0,sZ⟩ W)) (HC:Q9 (SwC t al nh f ho sm l ks hs ds gs a0 whose)) (nu:f<nh) (nC:nh<=3) (nB:al<=5) (nG:0<al) (nD:M3<=4611686018000030000) (mv:Hd W H (M3+1+1+1)) (nt:0<=sm∧sm<=80)
 (hk:kd=2) (o:Nat) (o0:ho=o) (nE:¬(1:Int)<al)
 (HQ:SwQ w w1 H q p f al nh be off ce hy m5 nb kH m3 z3 zr M3 t ho kd vd A Ak Ah c ck ch l ks hs ds whose v1 v2 v3 v4 v5 v6 v7 v8 v9 mf kA mt nm m8 g5 mu mg mo n9 kB mh np ms kr ni mw mC n6 kt kF mD kq k4 ka ku na m1 n7 nq mi kj kb me ki m9 kD n3 nr mn m2 kx mj kp k8 my nf mH k7 mq mA kz kg ng kw kh m4 mb kn n1 k6 mF n4 n2 kG mE nj n8 mr mx mz m6 ko m0 ma ns a6 aa ai ae a5 a2 af a7 a8 a3 a4 ac ah ad Q) :
 Code.wp Tryz.prog j3a Q ⟨#[Value.pointer (some ⟨H,0,none⟩),v1,v2,v3,v4,v5,v6,v7,v8,v9,mf,kA,Value.pointer (some ⟨q,0,none⟩),Value.int .i64 (al:Int),mt,nm,m8,Value.slice (some ⟨be,off,none⟩) nh ce,Value.slice (some ⟨hy,0,none⟩) al al,g5,mu,Value.int .i64 (f:Int),Value.int .i64 ho,Value.int .i64 (-1),Value.int .i64 kd,Value.pointer (some ⟨p,0,none⟩),nA,ny,nH,mg,mo,n9,kB,mh,np,ms,kr,ni,mw,mC,n6,kt,kF,mD,kq,k4,ka,ku,na,m1,n7,nq,mi,kj,kb,me,ki,m9,kD,n3,nr,mn,m2,kx,mj,kp,k8,my,nf,mH,k7,mq,mA,kz,kg,ng,kw,kh,m4,mb,kn,n1,k6,mF,n4,n2,kG,mE,nj,n8,mr,mx,mz,m6,ko,m0,ma,ns,nF,nv,gG,br,cn,fq,g1,hu,gd,bq,j5,ca,ii,k2,h5,cb,jn,ja,jk,g3,jc,hE,d2,k3,dn,cx,cD,dB,gh,bB,js,gC,bz,fb,ix,iC,k0,j9,dC,i5,hh,cw,g0,im,ao,fc,h7,aq,gx,j3,cr,cp,dg,ji,gu,gE,gt,fv,an,gw,cy,cc,c4,fG,jv,h6,aD,c0,jF,bt,dj,jo,cf,gA,ay,d5,j6,c9,dr,f9,hA,aF,aC,aH,cj,dH,g4,ge,ba,jD,i7,iy,fd,d7,i1,h4,gj,iu,iA,b9,io,fB,dx,jd,gF,ig,jw,fw,cg,fy,b3,f8,d8,di,bA,cE,gc,cz,ax,d0,jh,b8,f5,cG,f1,i8,bs,iH,g8,fi,dD,dw,aB,j7,i3,f6,h8,da,ib,h3,cB,f2,fp,bF,j1,je,bo,j0,fg,bh,g9,aw,cA,jt,c7,dd,ik,bi,jz,iB,ih,bu,aE,jA,b7,iF,h9,ij,d4,jE,jr,i6,dA,iG,bE,hG,fa,ht,gk,jB,dF,jg,iD,gm,j4,ar,g6,fD,hF,iv,g7,co,hH,hf,g2,ff,bm,fE,d1,jm,h0,d9,jC,fh,ft,gv,jG,it,d3,bD,ie,i2,aA,dG,b0,bn,cq,iw,k1,bf,j8,hn,i9,jy,fj,jq,az,jf,dq,bv,fo,ju,cH,gp,j2,hx,dz,hj,hr,cF,jH,ga,bC,dh,gD,bw,jx,fA,he,c8,ct,gB,aG,bp,gy,iq,b4,jj,av,bG,gH,fC,c6,iE,jb,bj,b5,cu,c5,i4,iz,b6,h2,i0,hq,dy,ia,fF,jp,f7,fH,ip,ir,fx,dk,hw,ic,cC,fe,a6,aa,ai,ae,a5,a2,af,a7,a8,a3,a4,ac,ah,ad],[]⟩ W:=by
 conv=>arg 2;whnf
 subst hk o0;have cv:=j1z (some ⟨be,off,none⟩) nh ce f gs W (TDe.grid (RD.td ke.o)).1 nu (by omega) HC.o.rb
 rw[<-HC.o.su] at cv;go_upto_region 24 with (go_at_call 75;refine cv.mono ?_;rintro e w' ⟨rfl,rfl⟩)
 clear cv;have kC:=j4g H (M3+1+1+1) 0 (some ⟨W.heap.size,0,none⟩) 3 3 [0,5,20] _ (mv.alloc _) (by omega) (j7j W 3 0 5 20) (j3r mv (zL9 _) 0) (by omega)
 go_upto_region 25 with (go_at_call 72;refine kC.mono ?_;rintro e w5 ⟨er,rfl,ky,k5⟩;have aj:=((RD.alloc ke.o _).dealt k5);obtain⟨e0,e1,e2,e3,e4,e5,e6,-⟩:=blkD aj.bx;have z6:=frz aj.bx 6;have m7:=zQ9 aj;clear aj k5)
 have a9:er=0∨er=5∨er=20:=by
  simp only[List.mem_cons,List.not_mem_nil,or_false] at ky;omega
 have a1:=zQ9 a9;obtain⟨V5,k9⟩:∃ V5,V5=w5.setCell ⟨p,6,none⟩ (.int .i64 er):=⟨_,rfl⟩;have ag:=m7.o.put 6 (.int .i64 er) (d':=⟨6,f,0,0,0,0,er,sZ⟩) ((j0g m7.o.bx).trans (by simp))
 rw[<-k9] at ag ⊢;obtain⟨e0,e1,e2,e3,e4,e5,e6,-⟩:=blkD ag.bx;have nx:=ag.td.dl.hd;have nw:=zQ9 ag;have o3:-1600<=-er*sm∧-er*sm<=1600:=by rcases a1.o with rfl|rfl|rfl<;>omega
 have o1:-1600<=er*sm∧er*sm<=1600:=by rcases a1.o with rfl|rfl|rfl<;>omega
 have o2:0<=er∧er<=20:=by omega
 clear ag k9 ky a9 kC z6;go_wp2_with (go_at_call 50;refine(j1f H (M3+1+1+1+1) _ _ V5 nx (by omega) (by rcases a1.o with rfl|rfl|rfl<;>exact j2n (by omega)) (by rcases a1.o with rfl|rfl|rfl<;>exact j2n (by omega))).mono ?_;rintro e w6 ⟨a,rfl,mG,kE,mB⟩;have am:=nw.o.dealt mB;have du:=j7w a1.o nt mG kE;obtain⟨y0,y1,y2,y3,y4,y5,y6,-⟩:=blkD am.bx;have z5:=frz am.bx 5;have ak:=zQ9 (zA9 am du.1);have ha:=du.2;clear am mB mG kE du)
 have nz:=ak.o.1.put 5 (.int .i64 (sm+a)) (d':=⟨6,f,0,0,0,sm+a,er,sZ⟩) ((j0g ak.o.1.bx).trans (by simp))
 refine HQ _ _ _ _ _ _ _ _ _ _ _ _ _ _ _ _ _ _ _ _ _ _ _ _ _ _ _ _ _ _ _ _ _ _ _ _ _ _ _ _ _ _ _ _ _ _ _ _ _ _ _ _ _ _ _ _ _ _ _ _ _ _ _ _ _ _ _ _ _ _ _ _ _ _ _ _ _ _ _ _ _ _ _ _ _ _ _ _ _ _ _ _ _ _ _ _ _ _ _ _ _ _ _ _ _ _ _ _ _ _ _ _ _ _ _ _ _ _ _ _ _ _ _ _ _ _ _ _ _ _ _ _ _ _ _ _ _ _ _ _ _ _ _ _ _ _ _ _ _ _ _ _ _ _ _ _ _ _ _ _ _ _ _ _ _ _ _ _ _ _ _ _ _ _ _ _ _ _ _ _ _ _ _ _ _ _ _ _ _ _ _ _ _ _ _ _ _ _ _ _ _ _ _ _ _ _ _ _ _ _ _ _ _ _ _ _ _ _ _ _ _ _ _ _ _ _ _ _ _ _ _ _ _ _ _ _ _ _ _ _ _ _ _ _ _ _ _ _ _ _ _ _ _ _ _ _ _ _ _ _ _ _ _ _ _ _ _ _ _ _ _ _ _ _ _ _ _ _ _ _ _ _ _ _ _ _ _ _ _ _ _ _ _ _ ?_;exact⟨-1,_,gs,a0,rfl,nz.mono (by omega),HC.o.r.counted HC.o.fk (by rw[HC.o.su];exact(HC.o.r.sum HC.o.fk).1) a1.o ak.o.2.1 ak.o.2.2 HC.o.d6⟩
theorem sw_cnt6b (w w1 W:World) (H q p f al nh be off ce hG m8 ni m2 m6 z3 zr M3:Nat) (t ho kd sm:Int) (vd:Value) (A Ak Ah:Option Addr) (c ck ch:Nat) (l:List Mk) (ks:List Int) (hs gs:List (List Int)) (ds:List De) (a0 whose:List Int) {v1 v2 v3 v4 v5 v6 v7 v8 v9 mi kD mw nr mb g9 mx nD nB o2 mj ms nf kE mn ns mv kw np mz mF n9 kx m0 mG ku k8 kh ky ng m4 na nt mo kp ki mh ko me kG n7 nu mr m5 kA mq kt ke mB nj n3 kb mt mD kC kj nm kz kn m7 mg kq n4 ka n1 n8 n6 m1 mH nq nb mu mA mC m9 kr m3 mf nv o0 ny h3 bu cr fx g5 hA gk bt j9 cg io k6 h9 cj jr je jp g7 jg i0 d7 k7 dw cB cH dG gp bF jw gG bC ff iB iG k4 jd dH i9 hr cA g4 ir ao fg hf aq gC j7 cw cu dk jn gy h0 gx fA an gB cC cn c8 g2 jz he aD c7 k1 bw dr js co gE ay da ja cf dy fd hH aF aC aH cq f6 g8 gm bi jH ib iC fh dd i5 h8 gt iy iE bh it fF dB jh h2 ik jA fB cp fD b6 fc dg dq bD d0 gj cD ax d4 jm bf f9 d2 f7 ic bv j3 gd fq f1 dA aB jb i7 fa hh di ih h7 cF f8 fw c5 j5 ji br j4 fo bm ge aw cE jx cb dj iq bn jD iF im bz aE jE ba j1 hj ip d9 k0 jv ia dF j2 c4 i2 fe hy gu jF f2 jk iH gv j8 ar ga fH i1 iz gc ct i3 hq g6 fj bp g0 d5 jq h5 dh jG fp fy gA k2 ix d8 c0 ij i6 aA f5 b5 bq cv iA k5 bj jc hu ie jC ft ju az jj dx bA fv jy d3 gw j6 hF dD ht hx d1 k3 gh bG dn gH bB jB fE hn cc cx gF aG bs gD iv b7 jo av c6 h4 fG ca j0 jf bo b8 cy c9 i8 iD b9 h6 i4 hw dC ig g1 jt fb g3 iu iw fC du hE ii cG fi a6 aa ai ae a5 a2 af a7 a8 a3 a4 ac ah ad:Value} (Q:Exit->Act->World->Prop)
 (bE:Q9 (SwD w w1 H q t al nh be off ce hG m8 ni m2 m6 z3 zr p A Ak Ah c ck ch vd ds gs a0 g9 whose (M3+1+1+1) ⟨6,f,0,0,0,0,0,sZ⟩ W)) (HC:Q9 (SwC t al nh f ho sm l ks hs ds gs a0 whose)) (nx:f<nh) (nF:nh<=3) (nE:al<=5) (o1:0<al) (nG:M3<=4611686018000030000) (my:Hd W H (M3+1+1+1)) (nw:0<=sm∧sm<=80)
 (hk:6<=kd) (o:Nat) (o3:ho=o) (nH:¬(1:Int)<nh)
 (HQ:SwQ w w1 H q p f al nh be off ce hG m8 ni m2 m6 z3 zr M3 t ho kd vd A Ak Ah c ck ch l ks hs ds whose v1 v2 v3 v4 v5 v6 v7 v8 v9 mi kD mw nr mb g9 mx mj ms nf kE mn ns mv kw np mz mF n9 kx m0 mG ku k8 kh ky ng m4 na nt mo kp ki mh ko me kG n7 nu mr m5 kA mq kt ke mB nj n3 kb mt mD kC kj nm kz kn m7 mg kq n4 ka n1 n8 n6 m1 mH nq nb mu mA mC m9 kr m3 mf nv a6 aa ai ae a5 a2 af a7 a8 a3 a4 ac ah ad Q) :
 Code.wp Tryz.prog j3a Q ⟨#[Value.pointer (some ⟨H,0,none⟩),v1,v2,v3,v4,v5,v6,v7,v8,v9,mi,kD,Value.pointer (some ⟨q,0,none⟩),Value.int .i64 (al:Int),mw,nr,mb,Value.slice (some ⟨be,off,none⟩) nh ce,Value.slice (some ⟨hG,0,none⟩) al al,g9,mx,Value.int .i64 (f:Int),Value.int .i64 ho,Value.int .i64 (-1),Value.int .i64 kd,Value.pointer (some ⟨p,0,none⟩),nD,nB,o2,mj,ms,nf,kE,mn,ns,mv,kw,np,mz,mF,n9,kx,m0,mG,ku,k8,kh,ky,ng,m4,na,nt,mo,kp,ki,mh,ko,me,kG,n7,nu,mr,m5,kA,mq,kt,ke,mB,nj,n3,kb,mt,mD,kC,kj,nm,kz,kn,m7,mg,kq,n4,ka,n1,n8,n6,m1,mH,nq,nb,mu,mA,mC,m9,kr,m3,mf,nv,o0,ny,h3,bu,cr,fx,g5,hA,gk,bt,j9,cg,io,k6,h9,cj,jr,je,jp,g7,jg,i0,d7,k7,dw,cB,cH,dG,gp,bF,jw,gG,bC,ff,iB,iG,k4,jd,dH,i9,hr,cA,g4,ir,ao,fg,hf,aq,gC,j7,cw,cu,dk,jn,gy,h0,gx,fA,an,gB,cC,cn,c8,g2,jz,he,aD,c7,k1,bw,dr,js,co,gE,ay,da,ja,cf,dy,fd,hH,aF,aC,aH,cq,f6,g8,gm,bi,jH,ib,iC,fh,dd,i5,h8,gt,iy,iE,bh,it,fF,dB,jh,h2,ik,jA,fB,cp,fD,b6,fc,dg,dq,bD,d0,gj,cD,ax,d4,jm,bf,f9,d2,f7,ic,bv,j3,gd,fq,f1,dA,aB,jb,i7,fa,hh,di,ih,h7,cF,f8,fw,c5,j5,ji,br,j4,fo,bm,ge,aw,cE,jx,cb,dj,iq,bn,jD,iF,im,bz,aE,jE,ba,j1,hj,ip,d9,k0,jv,ia,dF,j2,c4,i2,fe,hy,gu,jF,f2,jk,iH,gv,j8,ar,ga,fH,i1,iz,gc,ct,i3,hq,g6,fj,bp,g0,d5,jq,h5,dh,jG,fp,fy,gA,k2,ix,d8,c0,ij,i6,aA,f5,b5,bq,cv,iA,k5,bj,jc,hu,ie,jC,ft,ju,az,jj,dx,bA,fv,jy,d3,gw,j6,hF,dD,ht,hx,d1,k3,gh,bG,dn,gH,bB,jB,fE,hn,cc,cx,gF,aG,bs,gD,iv,b7,jo,av,c6,h4,fG,ca,j0,jf,bo,b8,cy,c9,i8,iD,b9,h6,i4,hw,dC,ig,g1,jt,fb,g3,iu,iw,fC,du,hE,ii,cG,fi,a6,aa,ai,ae,a5,a2,af,a7,a8,a3,a4,ac,ah,ad],[]⟩ W:=by
 conv=>arg 2;whnf
 subst o3;obtain⟨b0,b1,b2,b3,b4⟩:=blk5 (TDe.box (RD.td bE.o));have x1:(kd==1)=false:=beq_eq_false_iff_ne.2 (by omega)
 have x2:(kd==2)=false:=beq_eq_false_iff_ne.2 (by omega)
 have x3:(kd==3)=false:=beq_eq_false_iff_ne.2 (by omega)
 have x4:(kd==4)=false:=beq_eq_false_iff_ne.2 (by omega)
 have cz:=j1z (some ⟨be,off,none⟩) nh ce f gs W (TDe.grid (RD.td bE.o)).1 nx (by omega) HC.o.rb
 rw[<-HC.o.su] at cz;go_upto_region 24 with (go_at_call 75;refine cz.mono ?_;rintro e w' ⟨rfl,rfl⟩)
 clear cz;have kF:=j4g H (M3+1+1+1) 0 (some ⟨W.heap.size,0,none⟩) 3 3 [0,5,20] _ (my.alloc _) (by omega) (j7j W 3 0 5 20) (j3r my (zL9 _) 0) (by omega)
 go_upto_region 25 with (go_at_call 72;refine kF.mono ?_;rintro e w5 ⟨er,rfl,kB,k9⟩;have aj:=((RD.alloc bE.o _).dealt k9);obtain⟨e0,e1,e2,e3,e4,e5,e6,-⟩:=blkD aj.bx;have z6:=frz aj.bx 6;have ma:=zQ9 aj;clear aj k9)
 have a9:er=0∨er=5∨er=20:=by
  simp only[List.mem_cons,List.not_mem_nil,or_false] at kB;omega
 have a1:=zQ9 a9;obtain⟨V5,kg⟩:∃ V5,V5=w5.setCell ⟨p,6,none⟩ (.int .i64 er):=⟨_,rfl⟩;have ag:=ma.o.put 6 (.int .i64 er) (d':=⟨6,f,0,0,0,0,er,sZ⟩) ((j0g ma.o.bx).trans (by simp))
 rw[<-kg] at ag ⊢;obtain⟨e0,e1,e2,e3,e4,e5,e6,-⟩:=blkD ag.bx;have nA:=ag.td.dl.hd;have nz:=zQ9 ag;have o6:-1600<=-er*sm∧-er*sm<=1600:=by rcases a1.o with rfl|rfl|rfl<;>omega
 have o4:-1600<=er*sm∧er*sm<=1600:=by rcases a1.o with rfl|rfl|rfl<;>omega
 have o5:0<=er∧er<=20:=by omega
 clear ag kg kB a9 kF z6;go_wp2_with (go_at_call 50;refine(j1f H (M3+1+1+1+1) _ _ V5 nA (by omega) (by rcases a1.o with rfl|rfl|rfl<;>exact j2n (by omega)) (by rcases a1.o with rfl|rfl|rfl<;>exact j2n (by omega))).mono ?_;rintro e w6 ⟨a,rfl,n2,kH,mE⟩;have am:=nz.o.dealt mE;have dz:=j7w a1.o nw n2 kH;obtain⟨y0,y1,y2,y3,y4,y5,y6,-⟩:=blkD am.bx;have z5:=frz am.bx 5;have ak:=zQ9 (zA9 am dz.1);have ha:=dz.2;clear am mE n2 kH dz)
 have nC:=ak.o.1.put 5 (.int .i64 (sm+a)) (d':=⟨6,f,0,0,0,sm+a,er,sZ⟩) ((j0g ak.o.1.bx).trans (by simp))
 refine HQ _ _ _ _ _ _ _ _ _ _ _ _ _ _ _ _ _ _ _ _ _ _ _ _ _ _ _ _ _ _ _ _ _ _ _ _ _ _ _ _ _ _ _ _ _ _ _ _ _ _ _ _ _ _ _ _ _ _ _ _ _ _ _ _ _ _ _ _ _ _ _ _ _ _ _ _ _ _ _ _ _ _ _ _ _ _ _ _ _ _ _ _ _ _ _ _ _ _ _ _ _ _ _ _ _ _ _ _ _ _ _ _ _ _ _ _ _ _ _ _ _ _ _ _ _ _ _ _ _ _ _ _ _ _ _ _ _ _ _ _ _ _ _ _ _ _ _ _ _ _ _ _ _ _ _ _ _ _ _ _ _ _ _ _ _ _ _ _ _ _ _ _ _ _ _ _ _ _ _ _ _ _ _ _ _ _ _ _ _ _ _ _ _ _ _ _ _ _ _ _ _ _ _ _ _ _ _ _ _ _ _ _ _ _ _ _ _ _ _ _ _ _ _ _ _ _ _ _ _ _ _ _ _ _ _ _ _ _ _ _ _ _ _ _ _ _ _ _ _ _ _ _ _ _ _ _ _ _ _ _ _ _ _ _ _ _ _ _ _ _ _ _ _ _ _ _ _ _ _ _ _ _ _ _ _ _ _ _ _ _ _ _ _ _ ?_;exact⟨-1,_,gs,a0,rfl,nC.mono (by omega),HC.o.r.counted HC.o.fk (by rw[HC.o.su];exact(HC.o.r.sum HC.o.fk).1) a1.o ak.o.2.1 ak.o.2.2 HC.o.d6⟩
theorem sw_sold (w w1 W:World) (H q p f al nh be off ce iz nu p5 nm ns z3 zr M3:Nat) (t ho kd sm:Int) (vd:Value) (A Ak Ah:Option Addr) (c ck ch:Nat) (l:List Mk) (ks:List Int) (hs gs:List (List Int)) (ds:List De) (ag whose:List Int) {v1 v2 v3 v4 v5 v6 v7 v8 v9 nD n7 o9 pa nx h2 oa pw ps qd nE o3 p3 na nF pb o8 mG p8 od ov oH mH ng ow mF mg mt n1 p4 nq p1 pc o0 mz mu nC mx ny nf oF pd o2 nr n4 o1 mE mq om p6 oA mi o4 ot n6 mv p7 n2 mw nt nA mC oB mh oy oG oE ni ox p9 p2 o5 oi oo nw mD np nz pe qa pn i8 bC cy gh gF iw hf bB k3 cr jd ma ig ct kr k8 kp gH ka iB du mb f5 d7 dh fd hj c6 kA i3 c4 fA jt jy m8 k7 fe j2 ip cH gE jg az fB ii aA hH k0 cC cA dF kn hA i5 hy gk ay hG d8 cu cf gC kD ih b4 cc m5 bE f1 kt cv i1 aF dy k4 cq f7 fx iA b6 b3 b8 cx fi h0 hh bo m3 j4 ju fC dz iG ie hn jp jw bn jh gv f9 kb i6 jb kE gm cw gt ba fv dA dH c5 di ha d9 aE dq kj bm fp dk fj j5 bD jD h7 g0 ff f8 b0 k5 j0 fq ij dC j8 ic dd fo ge ca jF ke bz jE fG bq h8 aD da kB co dD jf br kH jx jc bF b5 m0 bj jB ik je dx m4 kx j3 fc jC c9 iD fy iv ht m1 fg ki jz hu k2 aB h4 gy iC jr h6 cz iE io gG fE bt gA dr kq ia dB m2 fH gj hE m6 jo dw c8 ja iH aH fh b9 bu cB js m9 bp k6 ir j6 kG ga kw aG kh f6 bG gc kC dn hx jH iy fb iq iu dj m7 h9 c7 dG i4 c0 kF gu im cp cD i2 b7 bA i0 jm bf ko aC cb i9 gw cn jA k9 bs bh cE cj j1 jv bi ib iF it fa j7 gB ku ft gD jk jn gp f2 ix j9 dg fD ad ai av ao ac a7 aq ae af a8 aa ak ar am:Value} (Q:Exit->Act->World->Prop)
 (pm:Q9 (SwD w w1 H q t al nh be off ce iz nu p5 nm ns z3 zr p A Ak Ah c ck ch vd ds gs ag h2 whose (M3+1+1+1) ⟨6,f,0,0,0,0,0,sZ⟩ W)) (HC:Q9 (SwC t al nh f ho sm l ks hs ds gs ag whose)) (aw:f<nh) (py:nh<=3) (px:al<=5) (qb:0<al) (pA:M3<=4611686018000030000) (pC:Hd W H (M3+1+1+1)) (qg:0<=sm∧sm<=80)
 (hk:kd=2) (o:Nat) (qe:ho=o) (a4:o<al) (qn:0<getG gs f o) (ky:(1:Int)<al)
 (HQ:SwQ w w1 H q p f al nh be off ce iz nu p5 nm ns z3 zr M3 t ho kd vd A Ak Ah c ck ch l ks hs ds whose v1 v2 v3 v4 v5 v6 v7 v8 v9 nD n7 o9 pa nx h2 oa nE o3 p3 na nF pb o8 mG p8 od ov oH mH ng ow mF mg mt n1 p4 nq p1 pc o0 mz mu nC mx ny nf oF pd o2 nr n4 o1 mE mq om p6 oA mi o4 ot n6 mv p7 n2 mw nt nA mC oB mh oy oG oE ni ox p9 p2 o5 oi oo nw mD np nz pe ad ai av ao ac a7 aq ae af a8 aa ak ar am Q) :
 Code.wp Tryz.prog j3a Q ⟨#[Value.pointer (some ⟨H,0,none⟩),v1,v2,v3,v4,v5,v6,v7,v8,v9,nD,n7,Value.pointer (some ⟨q,0,none⟩),Value.int .i64 (al:Int),o9,pa,nx,Value.slice (some ⟨be,off,none⟩) nh ce,Value.slice (some ⟨iz,0,none⟩) al al,h2,oa,Value.int .i64 (f:Int),Value.int .i64 ho,Value.int .i64 (-1),Value.int .i64 kd,Value.pointer (some ⟨p,0,none⟩),pw,ps,qd,nE,o3,p3,na,nF,pb,o8,mG,p8,od,ov,oH,mH,ng,ow,mF,mg,mt,n1,p4,nq,p1,pc,o0,mz,mu,nC,mx,ny,nf,oF,pd,o2,nr,n4,o1,mE,mq,om,p6,oA,mi,o4,ot,n6,mv,p7,n2,mw,nt,nA,mC,oB,mh,oy,oG,oE,ni,ox,p9,p2,o5,oi,oo,nw,mD,np,nz,pe,qa,pn,i8,bC,cy,gh,gF,iw,hf,bB,k3,cr,jd,ma,ig,ct,kr,k8,kp,gH,ka,iB,du,mb,f5,d7,dh,fd,hj,c6,kA,i3,c4,fA,jt,jy,m8,k7,fe,j2,ip,cH,gE,jg,az,fB,ii,aA,hH,k0,cC,cA,dF,kn,hA,i5,hy,gk,ay,hG,d8,cu,cf,gC,kD,ih,b4,cc,m5,bE,f1,kt,cv,i1,aF,dy,k4,cq,f7,fx,iA,b6,b3,b8,cx,fi,h0,hh,bo,m3,j4,ju,fC,dz,iG,ie,hn,jp,jw,bn,jh,gv,f9,kb,i6,jb,kE,gm,cw,gt,ba,fv,dA,dH,c5,di,ha,d9,aE,dq,kj,bm,fp,dk,fj,j5,bD,jD,h7,g0,ff,f8,b0,k5,j0,fq,ij,dC,j8,ic,dd,fo,ge,ca,jF,ke,bz,jE,fG,bq,h8,aD,da,kB,co,dD,jf,br,kH,jx,jc,bF,b5,m0,bj,jB,ik,je,dx,m4,kx,j3,fc,jC,c9,iD,fy,iv,ht,m1,fg,ki,jz,hu,k2,aB,h4,gy,iC,jr,h6,cz,iE,io,gG,fE,bt,gA,dr,kq,ia,dB,m2,fH,gj,hE,m6,jo,dw,c8,ja,iH,aH,fh,b9,bu,cB,js,m9,bp,k6,ir,j6,kG,ga,kw,aG,kh,f6,bG,gc,kC,dn,hx,jH,iy,fb,iq,iu,dj,m7,h9,c7,dG,i4,c0,kF,gu,im,cp,cD,i2,b7,bA,i0,jm,bf,ko,aC,cb,i9,gw,cn,jA,k9,bs,bh,cE,cj,j1,jv,bi,ib,iF,it,fa,j7,gB,ku,ft,gD,jk,jn,gp,f2,ix,j9,dg,fD,ad,ai,av,ao,ac,a7,aq,ae,af,a8,aa,ak,ar,am],[]⟩ W:=by
 conv=>arg 2;whnf
 subst hk qe;have qp:=HC.o.gb o a4;have kg:=RD.drew1 pm.o;obtain⟨qc,kz,g1,cg,cG,g2,g3,g4,g5,g6,g7,g8,g9,-⟩:=RD.c1 kg HC.o.sh aw a4;cases cG;go_upto_region 30 with fail
 have pu:2<=al:=by omega
 clear ky;have mn:=zQ9 kg;have pB:=zQ9 g4;have hr:=zQ9 (fun(w':World) (hp:W.drew.grownBy w' (some H))=>RD.c1k mn.o HC.o.sh aw a4 hp pB.o)
 clear kg g4 g6 g7 g8 g9;refine j0q 21 0 0 [] [(19,6)] 10 (THd H (M3+1+1+1)) (PHd W.drew H (M3+1+1+1)) [0,0,0,0,0,0,1,0,0,0,0,0,0,0,0,0,0,0,0,2,0] (by as_aux_lemma=>kernel_rfl) (by as_aux_lemma=>kernel_rfl) (by as_aux_lemma=>kernel_rfl) (by as_aux_lemma=>kernel_rfl) (by omega) (.inl rfl) rfl (by as_aux_lemma=>kernel_rfl) (PHd.st ⟨by decide,by decide,(19,6),by decide,rfl,rfl⟩) (PHd.start (pC.kept fun _ _=>rfl)) ?_
 apply zC2;refine⟨fun ys=>?_,fun ops K hK=>?_⟩
 ·simp only[List.take_succ_cons,List.take_zero,j0p,List.filterMap_cons,List.filterMap_nil,j0r];go_simp
  rfl
 simp only[List.take_succ_cons,List.take_zero,List.drop_succ_cons,List.drop_zero] at hK ⊢
 iterate 6
  refine LexT.const THd.rf ?_;apply zC2;refine⟨fun ys w' hp hpk hq hd=>?_,?_⟩
  ·try simp[j0d,j0f,DF.holds,Region.binds,EqF] at hd
   try simp only[hd]
   obtain⟨c2,c3⟩:=hr.o w' hp;clear hp hpk hq;intro Q2 a0;go_wp2_with fail
   rfl
  try simp only[nl9]
 refine LexT.some (fun v _=>∃ x:Nat,v=.int .i64 (x:Int)∧1<=x∧x<al) (fun _ _ _ _ _ _ _ h=>h) (fun ys w' hp hpk hq hd=>?_) ?_
 ·try simp[j0d,j0f,DF.holds,Region.binds,EqF] at hd
  try simp only[hd]
  intro Q2 a0;go_wp2_with fail
  refine(j1f H (M3+1+1+1) 1 ((al:Int)-1) _ hpk (by omega) (by omega) (by omega)).mono ?_
  rintro e w2 ⟨xi,rfl,a3,a5,a6⟩;obtain⟨x,rfl⟩:=zB7 (show 0<=xi by omega)
  have HX:=zQ9 (show THd H (M3+1+1+1) 1 w' w2∧1<=x∧x<al from⟨a6,by omega,by omega⟩)
  clear a6 a3 a5;go_wp2
  exact⟨_,rfl,HX.o.1,x,rfl,HX.o.2⟩
 try simp only[nl9]
 refine LexT.some (fun v _=>∃ x:Nat,v=.int .i64 ((o:Int)+(x:Int))∧1<=x∧x<al) (fun _ _ _ _ _ _ _ h=>h) (fun ys w' hp hpk hq hd=>?_) ?_
 ·try simp[j0d,j0f,DF.holds,Region.binds,EqF] at hd
  try simp only[hd]
  obtain⟨bv,x,gd,a3,a5⟩:=hd;simp only[bv,gd];intro Q2 a0;go_wp2_with fail
  exact⟨rfl,x,rfl,a3,a5⟩
 try simp only[nl9]
 iterate 1
  refine LexT.const THd.rf ?_;apply zC2;refine⟨fun ys w' hp hpk hq hd=>?_,?_⟩
  ·try simp[j0d,j0f,DF.holds,Region.binds,EqF] at hd
   try simp only[hd]
   obtain⟨c2,c3⟩:=hr.o w' hp;clear hp hpk hq;intro Q2 a0;go_wp2_with fail
   rfl
  try simp only[nl9]
 refine LexT.some (fun v _=>∃ pp:Nat,v=.int .i64 (pp:Int)∧pp<al∧o≠pp) (fun _ _ _ _ _ _ _ h=>h) (fun ys w' hp hpk hq hd=>?_) ?_
 ·try simp[j0d,j0f,DF.holds,Region.binds,EqF] at hd
  try simp only[hd]
  obtain⟨⟨x,k1,a3,a5⟩,fF,-⟩:=hd;simp only[k1,fF];intro Q2 a0;go_wp2_with fail
  refine(q0q o x al _ a4 (by omega) (by omega) (by omega)).mono ?_
  rintro e w2 ⟨pp,rfl,ah,n3,rfl⟩;have HX:=zQ9 (zA9 ah n3);clear ah n3;go_wp2
  exact⟨_,rfl,rfl,pp,rfl,HX.o⟩
 try simp only[nl9]
 iterate 8
  refine LexT.const THd.rf ?_;apply zC2;refine⟨fun ys w' hp hpk hq hd=>?_,?_⟩
  ·try simp[j0d,j0f,DF.holds,Region.binds,EqF] at hd
   try simp only[hd]
   obtain⟨c2,c3⟩:=hr.o w' hp;clear hp hpk hq;intro Q2 a0;go_wp2_with fail
   rfl
  try simp only[nl9]
 refine LexT.some (fun v _=>∃ m:Int,v=.int .i64 m∧m<=getG gs f o∧m<=20∧1<=m) (fun _ _ _ _ _ _ _ h=>h) (fun ys w' hp hpk hq hd=>?_) ?_
 ·try simp[j0d,j0f,DF.holds,Region.binds,EqF] at hd
  simp only[hd];clear hp hpk hq;intro Q2 a0;rcases Int.lt_or_le 20 (getG gs f o) with hm|hm
  ·go_wp2_with fail
   refine⟨rfl,?_⟩
   first
    | omega
    | exact⟨20,rfl,by omega,by omega,by omega⟩
  ·have qi:¬(20:Int)<getG gs f o:=by omega
   go_wp2_with fail
   refine⟨rfl,?_⟩
   first
    | omega
    | exact⟨_,rfl,Int.le_refl _,hm,by omega⟩
 try simp only[nl9]
 refine LexT.some (fun v w=>∃ k:Int,v=.int .i64 k∧((1<=k∧k<=20)∧k<=getG gs f o)∧Hd w H (M3+1+1+1+2)) (THd.keep2 ⟨by decide,by decide,(19,6),by decide,rfl,rfl⟩) (fun ys w' hp hpk hq hd=>?_) ?_
 ·try simp[j0d,j0f,DF.holds,Region.binds,EqF] at hd
  obtain⟨jq,⟨mm,gx,qj⟩,-⟩:=hd;simp only[jq,gx];intro Q2 a0;go_wp2_with fail
  refine(j1f H (M3+1+1+1+1) 1 _ _ hpk (by omega) (by omega) (by omega)).mono ?_
  rintro e w2 ⟨k,rfl,a3,a5,a6⟩;have HX:=zQ9 (show THd H (M3+1+1+1) 2 w' w2∧((1<=k∧k<=20)∧k<=getG gs f o)∧Hd w2 H (M3+1+1+1+2) from⟨a6,by omega,a6.hd⟩)
  clear a6 a3 a5;go_wp2
  exact⟨_,rfl,HX.o.1,k,rfl,HX.o.2⟩
 try simp only[nl9]
 refine LexT.some (fun v _=>∃ (pp:Nat) (k:Int),v=dv ⟨2,f,o,pp,0,k,0,sZ⟩∧(pp<al∧o≠pp)∧((1<=k∧k<=20)∧k<=getG gs f o)) (fun _ _ _ _ _ _ _ h=>h) (fun ys w' hp hpk hq hd=>?_) ?_
 ·try simp[j0d,j0f,DF.holds,Region.binds,EqF] at hd
  obtain⟨jj,cF,⟨pp,i7,ah⟩,k,jG,oq,-⟩:=hd;simp only[jj,cF,i7,jG];have HX:=zQ9 (zA9 ah oq);clear ah oq;intro Q2 a0;go_wp2_with fail
  exact⟨rfl,pp,k,rfl,HX.o.1,HX.o.2⟩
 try simp only[nl9]
 refine hK _ fun ys w6 hp hF=>?_
 simp[AllF,DF.holds] at hF;obtain⟨-,-,-,-,-,-,-,-,-,-,-,-,-,-,-,-,-,-,-,⟨-,-,-,n8⟩,pp,k,a9,pj,ph⟩:=hF;simp only[a9];unfold dv;have a1:=mn.o.dealt ⟨n8,hp⟩;have po:=zQ9 a1;obtain⟨e0,e1,e2,e3,e4,e5,e6,e7,e8,e9,pq,pt⟩:=blkD a1.bx;obtain⟨z0,z1,z2,pv,z4,z5,z6,z7,z8,z9,pr,pF⟩:=zA9 (frz a1.bx 0) (zA9 (frz a1.bx 1) (zA9 (frz a1.bx 2) (zA9 (frz a1.bx 3) (zA9 (frz a1.bx 4) (zA9 (frz a1.bx 5) (zA9 (frz a1.bx 6) (zA9 (frz a1.bx 7) (zA9 (frz a1.bx 8) (zA9 (frz a1.bx 9) (zA9 (frz a1.bx 10) (frz a1.bx 11)))))))))));clear a1 a9 n8 hp;go_upto_region 31 with fail
 have he:=po.o.deed ⟨2,f,o,pp,0,k,0,sZ⟩;obtain⟨V,hV⟩:∃ V,V=setL w6 p (l12 ⟨2,f,o,pp,0,k,0,sZ⟩):=⟨_,rfl⟩;rw[<-hV] at he;simp only[setL,l12] at hV;rw[<-hV];clear e0 e1 e2 e3 e4 e5 e6 e7 e8 e9 pq pt z0 z1 z2 pv z4 z5 z6 z7 z8 z9 pr pF;clear hV;obtain⟨a2,an⟩:=pj;have aj:=he.drew1;obtain⟨qc,kz,g1,cg,pG,qo,cG,g2,g3,g4,bw,g5,g6,g7,qh,g8,my⟩:=aj.c2 HC.o.sh aw a4 aw a2 (.inr an);obtain⟨pi,ms⟩:=g8;cases cG;obtain rfl:g1=pG:=by
  rw[g4] at bw;cases bw;rfl
 obtain⟨V1,ax⟩:∃ V1,V1=V.drew.setCell ⟨g1,o,none⟩ (.int .i64 (getG gs f o-k)):=⟨_,rfl⟩;obtain⟨pE,pg⟩:=ms (getG gs f o-k);rw[<-ax] at pE pg;obtain⟨qf,qs,qk,qq,qm,qr⟩:=g5;have pf:V1.heap[p]?=some (dObj ⟨2,f,o,pp,0,k,0,sZ⟩):=by rw[ax];exact(zB1 _ ⟨g1,o,none⟩ _ _ (by show p≠g1;omega)).trans aj.bx
 have ji:=zQ9 (fun(w':World) (hp:PS1 V.drew V1 0 w')=>(show w'.cell? ⟨p,3,none⟩=some (.int .i64 (pp:Int))∧w'.cell? ⟨p,5,none⟩=some (.int .i64 k) from by
  have hb:w'.heap[p]?=some (dObj ⟨2,f,o,pp,0,k,0,sZ⟩):=by
   rcases hp with h|h
   ·rw[h];exact aj.bx
   ·rw[h];exact pf
  obtain⟨-,-,-,h3,-,h5,-⟩:=blkD hb;exact⟨h3,h5⟩))
 obtain⟨d0,d1,d2,d3,d4,d5,-⟩:=blkD aj.bx;have pD:=HC.o.gb pp a2;have fw:=zQ9 ax;have HK:=zQ9 my;have nb:=zQ9 ph;clear he aj my bw pi ms ax pf;refine j0q 34 33 1 [32,20,0,1,2,3,4,8,11,12,13,14,15,16,17,18,19,24,28] [] 0 (TS1 V.drew V1) (PS1 V.drew V1) [0,0,0,0,0,0,0,0,0,0,0,0,0,0,0,0,0,0,0,0,0,0,0,0,0,0,0,0,0,0,0,0,0,1] (by as_aux_lemma=>kernel_rfl) (by as_aux_lemma=>kernel_rfl) (by as_aux_lemma=>kernel_rfl) (by as_aux_lemma=>kernel_rfl) (by omega) (.inr rfl) (by as_aux_lemma=>kernel_rfl) rfl (fun k j w1 w2 hc _ hT hp=>PS1.st k j w1 w2 hc hT hp) (fun k=>PS1.start k) ?_
 apply zC2;refine⟨fun ys=>?_,fun ops K hK=>?_⟩
 ·simp only[List.take_succ_cons,List.take_zero,j0p,List.filterMap_cons,List.filterMap_nil,j0r];go_simp
  rfl
 simp only[List.take_succ_cons,List.take_zero,List.drop_succ_cons,List.drop_zero] at hK ⊢
 iterate 5
  refine LexT.const (fun _=>rfl) ?_
  apply zC2;refine⟨fun ys w' hp hpk hq hd=>?_,?_⟩
  ·try simp[j0d,j0f,DF.holds,Region.binds,EqF] at hd
   try simp only[hd]
   replace hq:w'=V.drew:=hq (by simp)
   subst hq;clear hpk hp;intro Q2 a0;go_wp2_with fail
   rfl
  try simp only[nl9]
 iterate 3
  refine LexT.const (fun _=>rfl) ?_
  apply zC2;refine⟨fun ys w' hp hpk hq hd=>?_,?_⟩
  ·try simp[j0d,j0f,DF.holds,Region.binds,EqF] at hd
   try simp only[hd]
   clear hp hpk hq;intro Q2 a0;go_wp2_with fail
   rfl
  try simp only[nl9]
 iterate 1
  refine LexT.const (fun _=>rfl) ?_
  apply zC2;refine⟨fun ys w' hp hpk hq hd=>?_,?_⟩
  ·try simp[j0d,j0f,DF.holds,Region.binds,EqF] at hd
   try simp only[hd]
   replace hq:w'=V.drew:=hq (by simp)
   subst hq;clear hpk hp;intro Q2 a0;go_wp2_with fail
   rfl
  try simp only[nl9]
 iterate 2
  refine LexT.const (fun _=>rfl) ?_
  apply zC2;refine⟨fun ys w' hp hpk hq hd=>?_,?_⟩
  ·try simp[j0d,j0f,DF.holds,Region.binds,EqF] at hd
   try simp only[hd]
   obtain⟨d3,d5⟩:=ji.o w' hp;clear hp hpk hq;intro Q2 a0;go_wp2_with fail
   rfl
  try simp only[nl9]
 iterate 10
  refine LexT.const (fun _=>rfl) ?_
  apply zC2;refine⟨fun ys w' hp hpk hq hd=>?_,?_⟩
  ·try simp[j0d,j0f,DF.holds,Region.binds,EqF] at hd
   try simp only[hd]
   replace hq:w'=V.drew:=hq (by simp)
   subst hq;clear hpk hp;intro Q2 a0;go_wp2_with fail
   rfl
  try simp only[nl9]
 iterate 3
  refine LexT.const (fun _=>rfl) ?_
  apply zC2;refine⟨fun ys w' hp hpk hq hd=>?_,?_⟩
  ·try simp[j0d,j0f,DF.holds,Region.binds,EqF] at hd
   try simp only[hd]
   clear hp hpk hq;intro Q2 a0;go_wp2_with fail
   rfl
  try simp only[nl9]
 iterate 1
  refine LexT.const (fun _=>rfl) ?_
  apply zC2;refine⟨fun ys w' hp hpk hq hd=>?_,?_⟩
  ·try simp[j0d,j0f,DF.holds,Region.binds,EqF] at hd
   try simp only[hd]
   replace hq:w'=V.drew:=hq (by simp)
   subst hq;clear hpk hp;intro Q2 a0;go_wp2_with fail
   rfl
  try simp only[nl9]
 iterate 3
  refine LexT.const (fun _=>rfl) ?_
  apply zC2;refine⟨fun ys w' hp hpk hq hd=>?_,?_⟩
  ·try simp[j0d,j0f,DF.holds,Region.binds,EqF] at hd
   try simp only[hd]
   obtain⟨d3,d5⟩:=ji.o w' hp;clear hp hpk hq;intro Q2 a0;go_wp2_with fail
   rfl
  try simp only[nl9]
 iterate 1
  refine LexT.const (fun _=>rfl) ?_
  apply zC2;refine⟨fun ys w' hp hpk hq hd=>?_,?_⟩
  ·try simp[j0d,j0f,DF.holds,Region.binds,EqF] at hd
   try simp only[hd]
   replace hq:w'=V.drew:=hq (by simp)
   subst hq;clear hpk hp;intro Q2 a0;go_wp2_with fail
   rfl
  try simp only[nl9]
 iterate 3
  refine LexT.const (fun _=>rfl) ?_
  apply zC2;refine⟨fun ys w' hp hpk hq hd=>?_,?_⟩
  ·try simp[j0d,j0f,DF.holds,Region.binds,EqF] at hd
   try simp only[hd]
   obtain⟨d3,d5⟩:=ji.o w' hp;clear hp hpk hq;intro Q2 a0;go_wp2_with fail
   rfl
  try simp only[nl9]
 iterate 1
  refine LexT.const (fun _=>rfl) ?_
  apply zC2;refine⟨fun ys w' hp hpk hq hd=>?_,?_⟩
  ·try simp[j0d,j0f,DF.holds,Region.binds,EqF] at hd
   try simp only[hd]
   replace hq:w'=V.drew:=hq (by simp)
   subst hq;clear hpk hp;intro Q2 a0;go_wp2_with fail
   rfl
  try simp only[nl9]
 refine LexT.some (fun _ w=>w=V1) (fun j v w1 w2 hc _ hT h=>TS1.keep j v w1 w2 hc hT h) (fun ys w' hp hpk hq hd=>?_) ?_
 ·try simp[j0d,j0f,DF.holds,Region.binds,EqF] at hd
  try simp only[hd]
  replace hpk:w'=V.drew:=hpk;subst hpk;intro Q2 a0;go_wp2_with fail
  exact⟨⟨rfl,fw.o.symm⟩,fw.o.symm⟩
 try simp only[nl9]
 refine hK _ fun ys w' hp hF=>?_
 simp[AllF,DF.holds] at hF;obtain⟨q0,q1,q2,q3,q4,q5,q6,q7,q8,q9,oC,nv,oj,mB,mj,mf,oh,mr,oc,mA,nG,oD,n9,nB,ou,oe,o6,nj,mo,o7,nH,oz,me,hw⟩:=hF;subst hw;simp only[q0,q1,q2,q3,q4,q5,q6,q7,q8,q9,oC,nv,oj,mB,mj,mf,oh,mr,oc,mA,nG,oD,n9,nB,ou,oe,o6,nj,mo,o7,nH,oz,me];clear q0 q1 q2 q3 q4 q5 q6 q7 q8 q9 oC nv oj mB mj mf oh mr oc mA nG oD n9 nB ou oe o6 nj mo o7 nH oz me hp hK;go_wp2_with fail
 have hz:=HK.o (getG gs f o-k) (-k) (getG gs f pp+k) k (by omega) rfl
 rw[<-fw.o] at hz;refine HQ _ _ _ _ _ _ _ _ _ _ _ _ _ _ _ _ _ _ _ _ _ _ _ _ _ _ _ _ _ _ _ _ _ _ _ _ _ _ _ _ _ _ _ _ _ _ _ _ _ _ _ _ _ _ _ _ _ _ _ _ _ _ _ _ _ _ _ _ _ _ _ _ _ _ _ _ _ _ _ _ _ _ _ _ _ _ _ _ _ _ _ _ _ _ _ _ _ _ _ _ _ _ _ _ _ _ _ _ _ _ _ _ _ _ _ _ _ _ _ _ _ _ _ _ _ _ _ _ _ _ _ _ _ _ _ _ _ _ _ _ _ _ _ _ _ _ _ _ _ _ _ _ _ _ _ _ _ _ _ _ _ _ _ _ _ _ _ _ _ _ _ _ _ _ _ _ _ _ _ _ _ _ _ _ _ _ _ _ _ _ _ _ _ _ _ _ _ _ _ _ _ _ _ _ _ _ _ _ _ _ _ _ _ _ _ _ _ _ _ _ _ _ _ _ _ _ _ _ _ _ _ _ _ _ _ _ _ _ _ _ _ _ _ _ _ _ _ _ _ _ _ _ _ _ _ _ _ _ _ _ _ _ _ _ _ _ _ _ _ _ _ _ _ _ _ _ _ _ _ _ _ _ _ _ _ _ _ _ _ _ _ _ _ _ ?_;exact⟨-1,_,_,_,rfl,RD.mono hz (by omega),HC.o.r.sold HC.o.fk (by rw[HC.o.nl];exact a4) (by rw[HC.o.nl];exact a2) an nb.o.1 nb.o.2⟩
end Go.Proofs.YtmennjmjakdkcaaGreat
