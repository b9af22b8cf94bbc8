/- HerdParts. -/
import Derived.Test.YtmennjmjakdkcaaGreatPt08
import Derived.Deep.CutBlock
set_option linter.unusedVariables false
set_option linter.unusedSimpArgs false
set_option maxRecDepth 100000
set_option maxHeartbeats 1000000
namespace Go.Proofs.YtmennjmjakdkcaaGreat
open Go.RowKit Go.MapKept
def setL (w:World) (g:Nat):List (Nat × Value)->World
 | []=>w
 | (i,v)::l=>setL (w.setCell ⟨g,i,none⟩ v) g l
def putL (cs:Array Value):List (Nat × Value)->Array Value
 | []=>cs
 | (i,v)::l=>putL (cs.setIfInBounds i v) l
theorem j5m {g:Nat} {t:TypeId} {z:Nat × Nat}:∀ {l:List (Nat × Value)} {w:World} {cs:Array Value},w.heap[g]?=some (.cells cs t z)->(setL w g l).heap[g]?=some (.cells (putL cs l) t z)
 | [],w,cs,h=>h
 | (i,v)::l,w,cs,h=>j5m (l:=l) (j0g h)
theorem j4j {g k:Nat} (hk:k≠g):∀ {l:List (Nat × Value)} {w:World},(setL w g l).heap[k]?=w.heap[k]?
 | [],w=>rfl
 | (i,v)::l,w=>(j4j hk (l:=l)).trans (zB1 _ ⟨g,i,none⟩ _ _ hk)
theorem k7p {g:Nat}:∀ {l:List (Nat × Value)} {w:World},(setL w g l).heap.size=w.heap.size
 | [],w=>rfl
 | (i,v)::l,w=>(k7p (l:=l)).trans (by simp)
theorem k2g {g:Nat}:∀ {l:List (Nat × Value)} {w:World},(setL w g l).os=w.os∧(setL w g l).tape=w.tape∧(setL w g l).output=w.output
 | [],w=>⟨rfl,rfl,rfl⟩
 | (i,v)::l,w=>k2g (l:=l) (w:=w.setCell ⟨g,i,none⟩ v)
theorem q3m {g:Nat} {l:List (Nat × Value)} {w w':World} {B:Nat} (h:Below B w w') (hg:B<=g):Below B w (setL w' g l) :=
 ⟨k2g.1.trans h.os,k2g.2.1.trans h.tape,k2g.2.2.trans h.output,by rw[k7p];exact h.size,fun k hk=>(j4j (by omega)).trans (h.block k hk)⟩
def l12 (d:De):List (Nat × Value):=[(0,.int .i64 d.kind),(1,.int .i64 d.flock),(2,.int .i64 d.owner),(3,.int .i64 d.other),(4,.int .i64 d.tof),(5,.int .i64 d.many),(6,.int .i64 d.err),(7,.int .i64 d.s.n),(8,.bool d.s.l),(9,.bool d.s.r),(10,.int .i64 d.s.b),(11,.int .i64 d.s.p)]
theorem l12_at {w:World} {g:Nat} {d e:De} (h:w.heap[g]?=some (dObj e)):(setL w g (l12 d)).heap[g]?=some (dObj d):=(j5m h).trans (by simp[putL,l12])
theorem j4d (w:World):w.drew.heap=w.heap:=rfl
theorem j5u {w:World} {g:Nat} {d e:De} (h:w.heap[g]?=some (dObj e)):(setL w g (l12 d)).drew.heap[g]?=some (dObj d):=by rw[j4d];exact l12_at h
theorem j2e {g:Nat} {l:List (Nat × Value)} {w w':World} {B:Nat} (h:Below B w w') (hg:B<=g):Below B w (setL w' g l).drew:=j0w (q3m h hg)
def loK (k:Int):Int:=if k=6 then 0 else 1
def hiK (k:Int):Int:=if k=6 then 300 else if k=4 then 3 else 20
def CkAt (n nf:Nat) (d x:De) (e:Int):Prop:=fldE n nf d=(if btw d.many (loK d.kind) (hiK d.kind)=false then 1 else e)∧{ x with many:=d.many }=namD d
theorem q0u (p:Nat) (b:Hb) (deed owner now:Int) (d:De) (w:World) (hp:w.heap[p]?=some (b.bk deed owner now)) (hin:HbIn w b) (az:check b.t b.l=0) (hk:1<=d.kind∧d.kind<=6) :
 Calls Tryz.prog 107 #[.pointer (some ⟨p,0,none⟩),dv d] w fun e w'=>(∃ x,e=.returned (.tuple #[.int .i64 (fldE b.l.length b.ks.length d),dv x])∧(fldE b.l.length b.ks.length d=0->x=namD d))∧Below w.heap.size w w':=by
 obtain⟨kind,flock,ow,other,tof,many,err,s⟩:=d;dsimp only at hk;unfold dv;go_enter Tryz.func107,Tryz.ntmps107
 go_upto_block 0 with (fail)
 obtain⟨V,hV⟩:∃ V,V=((w.alloc (dObj ⟨kind,flock,ow,other,tof,many,err,s⟩)).alloc dZ).alloc (dObj ⟨kind,flock,0,0,0,0,0,⟨0,false,false,0,0⟩⟩):=⟨_,rfl⟩;obtain⟨g,hg⟩:∃ g,g=w.heap.size:=⟨_,rfl⟩;have b0:V.heap[g]?=some (dObj ⟨kind,flock,ow,other,tof,many,err,s⟩):=by rw[hV,hg];exact j0b (j0b (j0c rfl) _) _
 have b1:V.heap[g+1]?=some dZ:=by rw[hV,hg];exact j0b (j0c (by simp)) _
 have b2:V.heap[g+1+1]?=some (dObj ⟨kind,flock,0,0,0,0,0,⟨0,false,false,0,0⟩⟩):=by rw[hV,hg];exact j0c (by simp)
 have aB:Below w.heap.size w V:=by rw[hV];exact bal (bal (bal0 w _) (zL9 _) _) (zL9 _) _
 have ba:=j0e hp aB (zL9 _);have be:=hin.below aB (zL9 _);have bz:p<g:=by rw[hg];exact j0a hp
 rw[<-hV,<-hg];have HG:=zQ9 hg;have aD:=zQ9 (zA9 az hin);clear az;have HV:=zQ9 (zA9 aB (zA9 b0 (zA9 b1 (zA9 b2 (zA9 ba be)))));clear hV hg aB hp hin ba be b0 b1 b2;go_cut [7,8,9] (fun v7 v8 v9 wx=>∃ (e0:Int) (x:De),v7=.int .i64 e0∧v8=.int .i64 (loK kind)∧v9=.int .i64 (hiK kind)∧wx.heap[g]?=some (dObj ⟨kind,flock,ow,other,tof,many,err,s⟩)∧wx.heap[g+1]?=some dZ∧wx.heap[g+1+1]?=some (dObj x)∧Below w.heap.size w wx∧CkAt b.l.length b.ks.length ⟨kind,flock,ow,other,tof,many,err,s⟩ x e0)
 case first =>
  obtain⟨c0,c1,c2,c3,c4,c5,c6,c7,c8,c9,av,aw⟩:=blkD HV.o.2.1;obtain⟨e0,e1,e2,e3,e4,e5,e6,e7,e8,e9,aa,ad⟩:=blkD HV.o.2.2.2.1;have fr:=frz HV.o.2.2.2.1;obtain⟨f0,f1,f2,f3,f4,f5,f6,f7⟩:=zA9 (fr 2) (zA9 (fr 3) (zA9 (fr 4) (zA9 (fr 5) (zA9 (fr 6) (zA9 (fr 7) (zA9 (fr 8) (zA9 (fr 9) (zA9 (fr 10) (fr 11)))))))));clear fr;obtain⟨r0,r1,r2,r3,r4,r5,r6,r7,r8,r9,ae,a9⟩:=blkD (d:=⟨0,0,0,0,0,0,0,⟨0,false,false,0,0⟩⟩) HV.o.2.2.1;obtain⟨q0,q1,q2,q3,q4,q5,q6,q7,q8,q9,af,ag⟩:=zA9 (frz HV.o.2.2.1 0) (zA9 (frz HV.o.2.2.1 1) (zA9 (frz HV.o.2.2.1 2) (zA9 (frz HV.o.2.2.1 3) (zA9 (frz HV.o.2.2.1 4) (zA9 (frz HV.o.2.2.1 5) (zA9 (frz HV.o.2.2.1 6) (zA9 (frz HV.o.2.2.1 7) (zA9 (frz HV.o.2.2.1 8) (zA9 (frz HV.o.2.2.1 9) (zA9 (frz HV.o.2.2.1 10) (frz HV.o.2.2.1 11)))))))))));obtain h|h|h|h|h|h:kind=1∨kind=2∨kind=3∨kind=4∨kind=5∨kind=6:=by omega
  all_goals subst h
  ·have ac:fldE b.l.length b.ks.length ⟨1,flock,ow,other,tof,many,err,s⟩=if ownB b.l.length ow=false then 3 else if btw many 1 20=false then 1 else 0:=by unfold fldE;simp
   have a8:=zQ9 ac;clear ac;go_upto_region 15 with (fail)
   obtain⟨U,hU⟩:∃ U,U=(V.setCell ⟨g+1+1,2,none⟩ (Value.int .i64 ow)):=⟨_,rfl⟩;have u2:U.heap[g+1+1]?=some (dObj ⟨1,flock,ow,0,0,0,0,⟨0,false,false,0,0⟩⟩):=by rw[hU];exact(j0g HV.o.2.2.2.1).trans (by simp)
   have a0:∀ k,k≠g+1+1->U.heap[k]?=V.heap[k]?:=fun k hk=>by rw[hU];exact zB1 _ ⟨g+1+1,2,none⟩ _ _ hk
   have u1:=(a0 (g+1) (by omega)).trans HV.o.2.2.1
   have u0:=(a0 g (by omega)).trans HV.o.2.1
   have aj:=(a0 p (by omega)).trans HV.o.2.2.2.2.1
   have a5:Below w.heap.size w U:=by rw[hU];exact Below.setCell HV.o.1 (p:=⟨g+1+1,2,none⟩) (by rw[<-HG.o];dsimp;omega) _
   have am:b.l.length<=maxLen:=zB6 HV.o.2.2.2.2.2.mc HV.o.2.2.2.2.2.mm;obtain⟨ob,ak⟩:∃ ob,ob=ownB b.l.length ow:=⟨_,rfl⟩;obtain⟨T,hT⟩:∃ T,T=U.alloc (.cells #[.int .i64 ow] 3):=⟨_,rfl⟩;have a2:Below U.heap.size U T:=by rw[hT];exact bal0 U _
   have t2:=j0e u2 a2 (zL9 _);have t1:=j0e u1 a2 (zL9 _);have t0:=j0e u0 a2 (zL9 _);have ai:=j0e aj a2 (zL9 _);have a4:=j4x p .nilFunc b.t b.A b.l.length b.c b.vk b.vh b.vd deed owner now (some ⟨U.heap.size,0,none⟩) 1 1 [ow] T ai (by rw[hT];exact ints1 U 3 ow) am (by unfold maxLen;omega)
   simp only[List.all_cons,List.all_nil,Bool.and_true] at a4;rw[<-ak] at a4;rw[<-hU];obtain⟨-,-,b8,-⟩:=blkD u0;have HU:=zQ9 (zA9 hT (zA9 t0 (zA9 t1 (zA9 t2 (a5.trans (a2.mono a5.size))))));have ao:=zQ9 ak.symm;have HT:=zQ9 hT;rw[hT] at a4;obtain⟨e0,e1,e2,e3,e4,e5,e6,e7,e8,e9,aa,ad⟩:=blkD t2;obtain⟨r0,r1,r2,r3,r4,r5,r6,r7,r8,r9,ae,a9⟩:=blkD (d:=⟨0,0,0,0,0,0,0,⟨0,false,false,0,0⟩⟩) t1;obtain⟨q0,q1,q2,q3,q4,q5,q6,q7,q8,q9,af,ag⟩:=zA9 (frz t1 0) (zA9 (frz t1 1) (zA9 (frz t1 2) (zA9 (frz t1 3) (zA9 (frz t1 4) (zA9 (frz t1 5) (zA9 (frz t1 6) (zA9 (frz t1 7) (zA9 (frz t1 8) (zA9 (frz t1 9) (zA9 (frz t1 10) (frz t1 11)))))))))));rw[hT] at e0 e1 e2 e3 e4 e5 e6 e7 e8 e9 aa ad r0 r1 r2 r3 r4 r5 r6 r7 r8 r9 ae a9 q0 q1 q2 q3 q4 q5 q6 q7 q8 q9 af ag;clear hU u2 a0 u1 u0 aj a5 ak hT a2 t2 t1 t0 ai;rw[HU.o.1] at HU;clear c0 c1 c2 c3 c4 c5 c6 c7 c8 c9 av aw f0 f1 f2 f3 f4 f5 f6 f7;cases ob with
   | false =>
     have a3:=zQ9 (show fldE b.l.length b.ks.length ⟨1,flock,ow,other,tof,many,err,s⟩=3 by rw[a8.o,ao.o];rfl)
     go_wp2_with (go_at_call 58;refine a4.mono ?_;rintro e w' ⟨rfl,rfl⟩)
     go_region
     all_goals
      go_wp2
      have hz:=j5u (d:=⟨1,flock,ow,0,0,0,0,⟨0,false,false,0,0⟩⟩) (e:=⟨0,0,0,0,0,0,0,⟨0,false,false,0,0⟩⟩) HU.o.2.2.1;have a1:=j2e (l:=l12 ⟨1,flock,ow,0,0,0,0,⟨0,false,false,0,0⟩⟩) HU.o.2.2.2.2 (show w.heap.size<=g+1 by rw[<-HG.o];omega)
      simp only[setL,l12] at hz a1;generalize World.drew _=Z at hz a1 ⊢;have HZ:=zQ9 a1;obtain⟨z0,z1,z2,z3,z4,z5,z6,z7,z8,z9,a7,a6⟩:=blkD hz;clear a1 hz;exact bodyPost_ret (v:=.tuple #[.int .i64 3,dv ⟨1,flock,ow,0,0,0,0,⟨0,false,false,0,0⟩⟩]) (by simp[results,Tryz.f107,go_sem,z0,z1,z2,z3,z4,z5,z6,z7,z8,z9,a7,a6,dv]) rfl ⟨⟨⟨1,flock,ow,0,0,0,0,⟨0,false,false,0,0⟩⟩,by rw[a3.o];rfl,fun h=>by rw[a3.o] at h;cases h⟩,HZ.o⟩
   | true =>
     go_wp2_with (go_at_call 58;refine a4.mono ?_;rintro e w' ⟨rfl,rfl⟩)
     go_meet
     exact⟨0,⟨1,flock,ow,0,0,0,0,⟨0,false,false,0,0⟩⟩,rfl,rfl,rfl,HU.o.2.1,HU.o.2.2.1,HU.o.2.2.2.1,HU.o.2.2.2.2,by rw[a8.o,ao.o];unfold loK hiK;simp,by unfold namD;simp⟩
  ·have ac:fldE b.l.length b.ks.length ⟨2,flock,ow,other,tof,many,err,s⟩=if ownB b.l.length ow=false∨ownB b.l.length other=false then 3 else if ow=other then 4 else if btw many 1 20=false then 1 else 0:=by unfold fldE;simp
   have a8:=zQ9 ac;clear ac;go_upto_region 10 with (fail)
   obtain⟨U1,hU⟩:∃ U,U=(V.setCell ⟨g+1+1,3,none⟩ (Value.int .i64 other)):=⟨_,rfl⟩;have u2:U1.heap[g+1+1]?=some (dObj ⟨2,flock,0,other,0,0,0,⟨0,false,false,0,0⟩⟩):=by rw[hU];exact(j0g HV.o.2.2.2.1).trans (by simp)
   have a0:∀ k,k≠g+1+1->U1.heap[k]?=V.heap[k]?:=fun k hk=>by rw[hU];exact zB1 _ ⟨g+1+1,3,none⟩ _ _ hk
   have u1:=(a0 (g+1) (by omega)).trans HV.o.2.2.1
   have u0:=(a0 g (by omega)).trans HV.o.2.1
   have aj:=(a0 p (by omega)).trans HV.o.2.2.2.2.1
   have a5:Below w.heap.size w U1:=by rw[hU];exact Below.setCell HV.o.1 (p:=⟨g+1+1,3,none⟩) (by rw[<-HG.o];dsimp;omega) _
   have am:b.l.length<=maxLen:=zB6 HV.o.2.2.2.2.2.mc HV.o.2.2.2.2.2.mm;obtain⟨o2,aG⟩:∃ o2,o2=(ownB b.l.length ow&&ownB b.l.length other):=⟨_,rfl⟩;obtain⟨T1,hT⟩:∃ T,T=U1.alloc (.cells #[.int .i64 ow,Value.int .i64 other] 3):=⟨_,rfl⟩;have a2:Below U1.heap.size U1 T1:=by rw[hT];exact bal0 U1 _
   have t2:=j0e u2 a2 (zL9 _);have t1:=j0e u1 a2 (zL9 _);have t0:=j0e u0 a2 (zL9 _);have ai:=j0e aj a2 (zL9 _);have a4:=j4x p .nilFunc b.t b.A b.l.length b.c b.vk b.vh b.vd deed owner now (some ⟨U1.heap.size,0,none⟩) 2 2 [ow,other] T1 ai (by rw[hT];exact ints2 U1 3 ow other) am (by unfold maxLen;omega)
   simp only[List.all_cons,List.all_nil,Bool.and_true] at a4;rw[<-aG] at a4;rw[<-hU];obtain⟨-,-,bq,bp,-⟩:=blkD u0;have ah:=zQ9 (zA9 hT (zA9 t0 (zA9 t1 (zA9 t2 (zA9 (a5.trans (a2.mono a5.size)) ai)))));have bf:=zQ9 aG;obtain⟨-,-,bt,bo,-⟩:=blkD t0;obtain⟨e0,e1,e2,e3,e4,e5,e6,e7,e8,e9,aa,ad⟩:=blkD t2;obtain⟨r0,r1,r2,r3,r4,r5,r6,r7,r8,r9,ae,a9⟩:=blkD (d:=⟨0,0,0,0,0,0,0,⟨0,false,false,0,0⟩⟩) t1;obtain⟨q0,q1,q2,q3,q4,q5,q6,q7,q8,q9,af,ag⟩:=zA9 (frz t1 0) (zA9 (frz t1 1) (zA9 (frz t1 2) (zA9 (frz t1 3) (zA9 (frz t1 4) (zA9 (frz t1 5) (zA9 (frz t1 6) (zA9 (frz t1 7) (zA9 (frz t1 8) (zA9 (frz t1 9) (zA9 (frz t1 10) (frz t1 11)))))))))));have f2:=frz t2 2;clear hT hU u2 a0 u1 u0 aj a5 aG a2 t2 t1 t0 ai c0 c1 c2 c3 c4 c5 c6 c7 c8 c9 av aw f0 f1 f3 f4 f5 f6 f7;cases o2 with
   | false =>
     have a3:=zQ9 (show fldE b.l.length b.ks.length ⟨2,flock,ow,other,tof,many,err,s⟩=3 by
      rw[a8.o];refine if_pos ?_;have h0:=bf.o;cases h1:ownB b.l.length ow with
      | false=>exact .inl rfl
      | true=>rw[h1,Bool.true_and] at h0;exact .inr h0.symm)
     go_wp2_with (go_at_call 58;rw[<-ah.o.1];refine a4.mono ?_;rintro e w' ⟨rfl,rfl⟩)
     go_region
     all_goals
      go_wp2
      have hz:=j5u (d:=⟨2,flock,0,other,0,0,0,⟨0,false,false,0,0⟩⟩) (e:=⟨0,0,0,0,0,0,0,⟨0,false,false,0,0⟩⟩) ah.o.2.2.1;have a1:=j2e (l:=l12 ⟨2,flock,0,other,0,0,0,⟨0,false,false,0,0⟩⟩) ah.o.2.2.2.2.1 (show w.heap.size<=g+1 by rw[<-HG.o];omega)
      simp only[setL,l12] at hz a1;generalize World.drew _=Z at hz a1 ⊢;have HZ:=zQ9 a1;obtain⟨z0,z1,z2,z3,z4,z5,z6,z7,z8,z9,a7,a6⟩:=blkD hz;clear a1 hz;exact bodyPost_ret (v:=.tuple #[.int .i64 3,dv ⟨2,flock,0,other,0,0,0,⟨0,false,false,0,0⟩⟩]) (by simp[results,Tryz.f107,go_sem,z0,z1,z2,z3,z4,z5,z6,z7,z8,z9,a7,a6,dv]) rfl ⟨⟨⟨2,flock,0,other,0,0,0,⟨0,false,false,0,0⟩⟩,by rw[a3.o];rfl,fun h=>by rw[a3.o] at h;cases h⟩,HZ.o⟩
   | true =>
     have aH:=bf.o;simp only[Bool.true_eq,Bool.and_eq_true] at aH;have ay:=zQ9 aH;clear aH;by_cases how:ow=other
     ·have x0:(ow==other)=true:=beq_iff_eq.2 how;have a3:=zQ9 (show fldE b.l.length b.ks.length ⟨2,flock,ow,other,tof,many,err,s⟩=4 by
       rw[a8.o,ay.o.1,ay.o.2,if_neg (by simp),if_pos how])
      clear how;go_wp2_with (go_at_call 58;rw[<-ah.o.1];refine a4.mono ?_;rintro e w' ⟨rfl,rfl⟩)
      go_region
      all_goals
       go_wp2
       have hz:=j5u (d:=⟨2,flock,0,other,0,0,0,⟨0,false,false,0,0⟩⟩) (e:=⟨0,0,0,0,0,0,0,⟨0,false,false,0,0⟩⟩) ah.o.2.2.1;have a1:=j2e (l:=l12 ⟨2,flock,0,other,0,0,0,⟨0,false,false,0,0⟩⟩) ah.o.2.2.2.2.1 (show w.heap.size<=g+1 by rw[<-HG.o];omega)
       simp only[setL,l12] at hz a1;generalize World.drew _=Z at hz a1 ⊢;have HZ:=zQ9 a1;obtain⟨z0,z1,z2,z3,z4,z5,z6,z7,z8,z9,a7,a6⟩:=blkD hz;clear a1 hz;exact bodyPost_ret (v:=.tuple #[.int .i64 4,dv ⟨2,flock,0,other,0,0,0,⟨0,false,false,0,0⟩⟩]) (by simp[results,Tryz.f107,go_sem,z0,z1,z2,z3,z4,z5,z6,z7,z8,z9,a7,a6,dv]) rfl ⟨⟨⟨2,flock,0,other,0,0,0,⟨0,false,false,0,0⟩⟩,by rw[a3.o];rfl,fun h=>by rw[a3.o] at h;cases h⟩,HZ.o⟩
     ·have x0:(ow==other)=false:=beq_eq_false_iff_ne.2 how;have a3:=zQ9 (show fldE b.l.length b.ks.length ⟨2,flock,ow,other,tof,many,err,s⟩=if btw many 1 20=false then 1 else 0 by
       rw[a8.o,ay.o.1,ay.o.2,if_neg (by simp),if_neg how])
      clear how;go_upto_region 15 with (go_at_call 58;rw[<-ah.o.1];refine a4.mono ?_;rintro e w' ⟨rfl,rfl⟩)
      clear a4 e0 e1 e2 e3 e4 e5 e6 e7 e8 e9 aa ad r0 r1 r2 r3 r4 r5 r6 r7 r8 r9 ae a9 q0 q1 q2 q3 q4 q5 q6 q7 q8 q9 af ag f2 bq bp bt bo x0 am;obtain⟨U,hU⟩:∃ U,U=(T1.setCell ⟨g+1+1,2,none⟩ (Value.int .i64 ow)):=⟨_,rfl⟩;have u2:U.heap[g+1+1]?=some (dObj ⟨2,flock,ow,other,0,0,0,⟨0,false,false,0,0⟩⟩):=by rw[hU];exact(j0g ah.o.2.2.2.1).trans (by simp)
      have a0:∀ k,k≠g+1+1->U.heap[k]?=T1.heap[k]?:=fun k hk=>by rw[hU];exact zB1 _ ⟨g+1+1,2,none⟩ _ _ hk
      have u1:=(a0 (g+1) (by omega)).trans ah.o.2.2.1
      have u0:=(a0 g (by omega)).trans ah.o.2.1
      have aj:=(a0 p (by omega)).trans ah.o.2.2.2.2.2
      have a5:Below w.heap.size w U:=by rw[hU];exact Below.setCell ah.o.2.2.2.2.1 (p:=⟨g+1+1,2,none⟩) (by rw[<-HG.o];dsimp;omega) _
      have am:b.l.length<=maxLen:=zB6 HV.o.2.2.2.2.2.mc HV.o.2.2.2.2.2.mm;obtain⟨ob,ak⟩:∃ ob,ob=ownB b.l.length ow:=⟨_,rfl⟩;obtain⟨T,hT⟩:∃ T,T=U.alloc (.cells #[.int .i64 ow] 3):=⟨_,rfl⟩;have a2:Below U.heap.size U T:=by rw[hT];exact bal0 U _
      have t2:=j0e u2 a2 (zL9 _);have t1:=j0e u1 a2 (zL9 _);have t0:=j0e u0 a2 (zL9 _);have ai:=j0e aj a2 (zL9 _);have a4:=j4x p .nilFunc b.t b.A b.l.length b.c b.vk b.vh b.vd deed owner now (some ⟨U.heap.size,0,none⟩) 1 1 [ow] T ai (by rw[hT];exact ints1 U 3 ow) am (by unfold maxLen;omega)
      simp only[List.all_cons,List.all_nil,Bool.and_true] at a4;rw[<-ak] at a4;rw[<-hU];obtain⟨-,-,b8,-⟩:=blkD u0;have HU:=zQ9 (zA9 hT (zA9 t0 (zA9 t1 (zA9 t2 (a5.trans (a2.mono a5.size))))));have ao:=zQ9 ak.symm;have HT:=zQ9 hT;rw[hT] at a4;obtain⟨e0,e1,e2,e3,e4,e5,e6,e7,e8,e9,aa,ad⟩:=blkD t2;obtain⟨r0,r1,r2,r3,r4,r5,r6,r7,r8,r9,ae,a9⟩:=blkD (d:=⟨0,0,0,0,0,0,0,⟨0,false,false,0,0⟩⟩) t1;obtain⟨q0,q1,q2,q3,q4,q5,q6,q7,q8,q9,af,ag⟩:=zA9 (frz t1 0) (zA9 (frz t1 1) (zA9 (frz t1 2) (zA9 (frz t1 3) (zA9 (frz t1 4) (zA9 (frz t1 5) (zA9 (frz t1 6) (zA9 (frz t1 7) (zA9 (frz t1 8) (zA9 (frz t1 9) (zA9 (frz t1 10) (frz t1 11)))))))))));rw[hT] at e0 e1 e2 e3 e4 e5 e6 e7 e8 e9 aa ad r0 r1 r2 r3 r4 r5 r6 r7 r8 r9 ae a9 q0 q1 q2 q3 q4 q5 q6 q7 q8 q9 af ag;clear hU u2 a0 u1 u0 aj a5 ak hT a2 t2 t1 t0 ai;rw[HU.o.1] at HU;cases ob with
      | false=>exact absurd (ay.o.1.symm.trans ao.o) (by simp)
      | true =>
        go_wp2_with (go_at_call 58;refine a4.mono ?_;rintro e w' ⟨rfl,rfl⟩)
        go_meet
        exact⟨0,⟨2,flock,ow,other,0,0,0,⟨0,false,false,0,0⟩⟩,rfl,rfl,rfl,HU.o.2.1,HU.o.2.2.1,HU.o.2.2.2.1,HU.o.2.2.2.2,by rw[a3.o];unfold loK hiK;simp,by unfold namD;simp⟩
  ·have ac:fldE b.l.length b.ks.length ⟨3,flock,ow,other,tof,many,err,s⟩=if ownB b.l.length ow=false then 3 else if btw many 1 20=false then 1 else 0:=by unfold fldE;simp
   have a8:=zQ9 ac;clear ac;go_upto_region 15 with (fail)
   obtain⟨U,hU⟩:∃ U,U=(V.setCell ⟨g+1+1,2,none⟩ (Value.int .i64 ow)):=⟨_,rfl⟩;have u2:U.heap[g+1+1]?=some (dObj ⟨3,flock,ow,0,0,0,0,⟨0,false,false,0,0⟩⟩):=by rw[hU];exact(j0g HV.o.2.2.2.1).trans (by simp)
   have a0:∀ k,k≠g+1+1->U.heap[k]?=V.heap[k]?:=fun k hk=>by rw[hU];exact zB1 _ ⟨g+1+1,2,none⟩ _ _ hk
   have u1:=(a0 (g+1) (by omega)).trans HV.o.2.2.1
   have u0:=(a0 g (by omega)).trans HV.o.2.1
   have aj:=(a0 p (by omega)).trans HV.o.2.2.2.2.1
   have a5:Below w.heap.size w U:=by rw[hU];exact Below.setCell HV.o.1 (p:=⟨g+1+1,2,none⟩) (by rw[<-HG.o];dsimp;omega) _
   have am:b.l.length<=maxLen:=zB6 HV.o.2.2.2.2.2.mc HV.o.2.2.2.2.2.mm;obtain⟨ob,ak⟩:∃ ob,ob=ownB b.l.length ow:=⟨_,rfl⟩;obtain⟨T,hT⟩:∃ T,T=U.alloc (.cells #[.int .i64 ow] 3):=⟨_,rfl⟩;have a2:Below U.heap.size U T:=by rw[hT];exact bal0 U _
   have t2:=j0e u2 a2 (zL9 _);have t1:=j0e u1 a2 (zL9 _);have t0:=j0e u0 a2 (zL9 _);have ai:=j0e aj a2 (zL9 _);have a4:=j4x p .nilFunc b.t b.A b.l.length b.c b.vk b.vh b.vd deed owner now (some ⟨U.heap.size,0,none⟩) 1 1 [ow] T ai (by rw[hT];exact ints1 U 3 ow) am (by unfold maxLen;omega)
   simp only[List.all_cons,List.all_nil,Bool.and_true] at a4;rw[<-ak] at a4;rw[<-hU];obtain⟨-,-,b8,-⟩:=blkD u0;have HU:=zQ9 (zA9 hT (zA9 t0 (zA9 t1 (zA9 t2 (a5.trans (a2.mono a5.size))))));have ao:=zQ9 ak.symm;have HT:=zQ9 hT;rw[hT] at a4;obtain⟨e0,e1,e2,e3,e4,e5,e6,e7,e8,e9,aa,ad⟩:=blkD t2;obtain⟨r0,r1,r2,r3,r4,r5,r6,r7,r8,r9,ae,a9⟩:=blkD (d:=⟨0,0,0,0,0,0,0,⟨0,false,false,0,0⟩⟩) t1;obtain⟨q0,q1,q2,q3,q4,q5,q6,q7,q8,q9,af,ag⟩:=zA9 (frz t1 0) (zA9 (frz t1 1) (zA9 (frz t1 2) (zA9 (frz t1 3) (zA9 (frz t1 4) (zA9 (frz t1 5) (zA9 (frz t1 6) (zA9 (frz t1 7) (zA9 (frz t1 8) (zA9 (frz t1 9) (zA9 (frz t1 10) (frz t1 11)))))))))));rw[hT] at e0 e1 e2 e3 e4 e5 e6 e7 e8 e9 aa ad r0 r1 r2 r3 r4 r5 r6 r7 r8 r9 ae a9 q0 q1 q2 q3 q4 q5 q6 q7 q8 q9 af ag;clear hU u2 a0 u1 u0 aj a5 ak hT a2 t2 t1 t0 ai;rw[HU.o.1] at HU;clear c0 c1 c2 c3 c4 c5 c6 c7 c8 c9 av aw f0 f1 f2 f3 f4 f5 f6 f7;cases ob with
   | false =>
     have a3:=zQ9 (show fldE b.l.length b.ks.length ⟨3,flock,ow,other,tof,many,err,s⟩=3 by rw[a8.o,ao.o];rfl)
     go_wp2_with (go_at_call 58;refine a4.mono ?_;rintro e w' ⟨rfl,rfl⟩)
     go_region
     all_goals
      go_wp2
      have hz:=j5u (d:=⟨3,flock,ow,0,0,0,0,⟨0,false,false,0,0⟩⟩) (e:=⟨0,0,0,0,0,0,0,⟨0,false,false,0,0⟩⟩) HU.o.2.2.1;have a1:=j2e (l:=l12 ⟨3,flock,ow,0,0,0,0,⟨0,false,false,0,0⟩⟩) HU.o.2.2.2.2 (show w.heap.size<=g+1 by rw[<-HG.o];omega)
      simp only[setL,l12] at hz a1;generalize World.drew _=Z at hz a1 ⊢;have HZ:=zQ9 a1;obtain⟨z0,z1,z2,z3,z4,z5,z6,z7,z8,z9,a7,a6⟩:=blkD hz;clear a1 hz;exact bodyPost_ret (v:=.tuple #[.int .i64 3,dv ⟨3,flock,ow,0,0,0,0,⟨0,false,false,0,0⟩⟩]) (by simp[results,Tryz.f107,go_sem,z0,z1,z2,z3,z4,z5,z6,z7,z8,z9,a7,a6,dv]) rfl ⟨⟨⟨3,flock,ow,0,0,0,0,⟨0,false,false,0,0⟩⟩,by rw[a3.o];rfl,fun h=>by rw[a3.o] at h;cases h⟩,HZ.o⟩
   | true =>
     go_wp2_with (go_at_call 58;refine a4.mono ?_;rintro e w' ⟨rfl,rfl⟩)
     go_meet
     exact⟨0,⟨3,flock,ow,0,0,0,0,⟨0,false,false,0,0⟩⟩,rfl,rfl,rfl,HU.o.2.1,HU.o.2.2.1,HU.o.2.2.2.1,HU.o.2.2.2.2,by rw[a8.o,ao.o];unfold loK hiK;simp,by unfold namD;simp⟩
  ·go_wp2
   go_meet
   exact⟨0,⟨4,flock,0,0,0,0,0,⟨0,false,false,0,0⟩⟩,rfl,rfl,rfl,HV.o.2.1,HV.o.2.2.1,HV.o.2.2.2.1,HV.o.1,by unfold fldE loK hiK;simp,by unfold namD;simp⟩
  ·have ac:fldE b.l.length b.ks.length ⟨5,flock,ow,other,tof,many,err,s⟩=if ownB b.ks.length tof=false then 3 else if tof=flock then 4 else seen s 9 6:=by unfold fldE;simp
   have a8:=zQ9 ac;clear ac;go_upto_region 18 with (fail)
   go_cut [] (fun wx=>wx.heap[g]?=some (dObj ⟨5,flock,ow,other,tof,many,err,s⟩)∧wx.heap[g+1]?=some dZ∧wx.heap[g+1+1]?=some (dObj ⟨5,flock,0,0,tof,0,0,s⟩)∧Below w.heap.size w wx∧wx.heap[p]?=some (b.bk deed owner now))
   case first =>
    go_region
    all_goals
     go_wp2
     go_meet
     simp only[j4d]
     first
      | (have h2:=j5m (l:=[(4,.int .i64 tof),(7,.int .i64 s.n),(8,.bool s.l),(9,.bool s.r),(10,.int .i64 s.b),(11,.int .i64 s.p),(5,.int .i64 0)]) HV.o.2.2.2.1
         have ho:=fun k hk=>j4j (l:=[(4,.int .i64 tof),(7,.int .i64 s.n),(8,.bool s.l),(9,.bool s.r),(10,.int .i64 s.b),(11,.int .i64 s.p),(5,.int .i64 0)]) (w:=V) (g:=g+1+1) (k:=k) hk
         have hb:=j2e (l:=[(4,.int .i64 tof),(7,.int .i64 s.n),(8,.bool s.l),(9,.bool s.r),(10,.int .i64 s.b),(11,.int .i64 s.p),(5,.int .i64 0)]) HV.o.1 (show w.heap.size<=g+1+1 by rw[<-HG.o];omega)
         simp only[setL] at h2 ho hb;exact⟨(ho g (by omega)).trans HV.o.2.1,(ho (g+1) (by omega)).trans HV.o.2.2.1,h2.trans (by simp[putL]),hb,(ho p (by omega)).trans HV.o.2.2.2.2.1⟩)
      | (have h2:=j5m (l:=[(4,.int .i64 tof),(5,.int .i64 0),(7,.int .i64 s.n),(8,.bool s.l),(9,.bool s.r),(10,.int .i64 s.b),(11,.int .i64 s.p)]) HV.o.2.2.2.1
         have ho:=fun k hk=>j4j (l:=[(4,.int .i64 tof),(5,.int .i64 0),(7,.int .i64 s.n),(8,.bool s.l),(9,.bool s.r),(10,.int .i64 s.b),(11,.int .i64 s.p)]) (w:=V) (g:=g+1+1) (k:=k) hk
         have hb:=j2e (l:=[(4,.int .i64 tof),(5,.int .i64 0),(7,.int .i64 s.n),(8,.bool s.l),(9,.bool s.r),(10,.int .i64 s.b),(11,.int .i64 s.p)]) HV.o.1 (show w.heap.size<=g+1+1 by rw[<-HG.o];omega)
         simp only[setL] at h2 ho hb;exact⟨(ho g (by omega)).trans HV.o.2.1,(ho (g+1) (by omega)).trans HV.o.2.2.1,h2.trans (by simp[putL]),hb,(ho p (by omega)).trans HV.o.2.2.2.2.1⟩)
      | (have h2:=j5m (l:=[(7,.int .i64 s.n),(8,.bool s.l),(9,.bool s.r),(10,.int .i64 s.b),(11,.int .i64 s.p),(4,.int .i64 tof),(5,.int .i64 0)]) HV.o.2.2.2.1
         have ho:=fun k hk=>j4j (l:=[(7,.int .i64 s.n),(8,.bool s.l),(9,.bool s.r),(10,.int .i64 s.b),(11,.int .i64 s.p),(4,.int .i64 tof),(5,.int .i64 0)]) (w:=V) (g:=g+1+1) (k:=k) hk
         have hb:=j2e (l:=[(7,.int .i64 s.n),(8,.bool s.l),(9,.bool s.r),(10,.int .i64 s.b),(11,.int .i64 s.p),(4,.int .i64 tof),(5,.int .i64 0)]) HV.o.1 (show w.heap.size<=g+1+1 by rw[<-HG.o];omega)
         simp only[setL] at h2 ho hb;exact⟨(ho g (by omega)).trans HV.o.2.1,(ho (g+1) (by omega)).trans HV.o.2.2.1,h2.trans (by simp[putL]),hb,(ho p (by omega)).trans HV.o.2.2.2.2.1⟩)
      | (have h2:=j5m (l:=[(7,.int .i64 s.n),(8,.bool s.l),(9,.bool s.r),(10,.int .i64 s.b),(11,.int .i64 s.p),(5,.int .i64 0),(4,.int .i64 tof)]) HV.o.2.2.2.1
         have ho:=fun k hk=>j4j (l:=[(7,.int .i64 s.n),(8,.bool s.l),(9,.bool s.r),(10,.int .i64 s.b),(11,.int .i64 s.p),(5,.int .i64 0),(4,.int .i64 tof)]) (w:=V) (g:=g+1+1) (k:=k) hk
         have hb:=j2e (l:=[(7,.int .i64 s.n),(8,.bool s.l),(9,.bool s.r),(10,.int .i64 s.b),(11,.int .i64 s.p),(5,.int .i64 0),(4,.int .i64 tof)]) HV.o.1 (show w.heap.size<=g+1+1 by rw[<-HG.o];omega)
         simp only[setL] at h2 ho hb;exact⟨(ho g (by omega)).trans HV.o.2.1,(ho (g+1) (by omega)).trans HV.o.2.2.1,h2.trans (by simp[putL]),hb,(ho p (by omega)).trans HV.o.2.2.2.2.1⟩)
      | (have h2:=j5m (l:=[(5,.int .i64 0),(4,.int .i64 tof),(7,.int .i64 s.n),(8,.bool s.l),(9,.bool s.r),(10,.int .i64 s.b),(11,.int .i64 s.p)]) HV.o.2.2.2.1
         have ho:=fun k hk=>j4j (l:=[(5,.int .i64 0),(4,.int .i64 tof),(7,.int .i64 s.n),(8,.bool s.l),(9,.bool s.r),(10,.int .i64 s.b),(11,.int .i64 s.p)]) (w:=V) (g:=g+1+1) (k:=k) hk
         have hb:=j2e (l:=[(5,.int .i64 0),(4,.int .i64 tof),(7,.int .i64 s.n),(8,.bool s.l),(9,.bool s.r),(10,.int .i64 s.b),(11,.int .i64 s.p)]) HV.o.1 (show w.heap.size<=g+1+1 by rw[<-HG.o];omega)
         simp only[setL] at h2 ho hb;exact⟨(ho g (by omega)).trans HV.o.2.1,(ho (g+1) (by omega)).trans HV.o.2.2.1,h2.trans (by simp[putL]),hb,(ho p (by omega)).trans HV.o.2.2.2.2.1⟩)
      | (have h2:=j5m (l:=[(5,.int .i64 0),(7,.int .i64 s.n),(8,.bool s.l),(9,.bool s.r),(10,.int .i64 s.b),(11,.int .i64 s.p),(4,.int .i64 tof)]) HV.o.2.2.2.1
         have ho:=fun k hk=>j4j (l:=[(5,.int .i64 0),(7,.int .i64 s.n),(8,.bool s.l),(9,.bool s.r),(10,.int .i64 s.b),(11,.int .i64 s.p),(4,.int .i64 tof)]) (w:=V) (g:=g+1+1) (k:=k) hk
         have hb:=j2e (l:=[(5,.int .i64 0),(7,.int .i64 s.n),(8,.bool s.l),(9,.bool s.r),(10,.int .i64 s.b),(11,.int .i64 s.p),(4,.int .i64 tof)]) HV.o.1 (show w.heap.size<=g+1+1 by rw[<-HG.o];omega)
         simp only[setL] at h2 ho hb;exact⟨(ho g (by omega)).trans HV.o.2.1,(ho (g+1) (by omega)).trans HV.o.2.2.1,h2.trans (by simp[putL]),hb,(ho p (by omega)).trans HV.o.2.2.2.2.1⟩)
   case rest =>
    clear c0 c1 c2 c3 c4 c5 c6 c7 c8 c9 av aw f0 f1 f2 f3 f4 f5 f6 f7 e0 e1 e2 e3 e4 e5 e6 e7 e8 e9 aa ad q0 q1 q2 q3 q4 q5 q6 q7 q8 q9 af ag r0 r1 r2 r3 r4 r5 r6 r7 r8 r9 ae a9;obtain⟨b0,b1,b2,b9,aE⟩:=hcut;obtain⟨c0,c1,c2,c3,c4,c5,c6,c7,c8,c9,av,aw⟩:=blkD b0;obtain⟨e0,e1,e2,e3,e4,e5,e6,e7,e8,e9,aa,ad⟩:=blkD b2;obtain⟨r0,r1,r2,r3,r4,r5,r6,r7,r8,r9,ae,a9⟩:=blkD (d:=⟨0,0,0,0,0,0,0,⟨0,false,false,0,0⟩⟩) b1;obtain⟨q0,q1,q2,q3,q4,q5,q6,q7,q8,q9,af,ag⟩:=zA9 (frz b1 0) (zA9 (frz b1 1) (zA9 (frz b1 2) (zA9 (frz b1 3) (zA9 (frz b1 4) (zA9 (frz b1 5) (zA9 (frz b1 6) (zA9 (frz b1 7) (zA9 (frz b1 8) (zA9 (frz b1 9) (zA9 (frz b1 10) (frz b1 11)))))))))));obtain⟨fo,b5⟩:∃ fo,fo=ownB b.ks.length tof:=⟨_,rfl⟩;have ax:=j9i p b.t b.A b.l.length b.c b.Ak b.ks.length b.ck b.vh b.vd deed owner now tof wc aE (zB6 HV.o.2.2.2.2.2.kc HV.o.2.2.2.2.2.km);rw[<-b5] at ax;have b3:=zQ9 b5.symm;have HC:=zQ9 (zA9 b1 (zA9 b2 (zA9 b9 (zA9 aE b0))));clear b5 b0 b1 b2 b9 aE;cases fo with
    | false =>
      have a3:=zQ9 (show fldE b.l.length b.ks.length ⟨5,flock,ow,other,tof,many,err,s⟩=3 by rw[a8.o,b3.o];rfl)
      go_wp2_with (go_at_call 79;refine ax.mono ?_;rintro e w' ⟨rfl,rfl⟩)
      go_region
      all_goals
       go_wp2
       have hz:=j5u (d:=⟨5,flock,0,0,tof,0,0,s⟩) (e:=⟨0,0,0,0,0,0,0,⟨0,false,false,0,0⟩⟩) HC.o.1;have a1:=j2e (l:=l12 ⟨5,flock,0,0,tof,0,0,s⟩) HC.o.2.2.1 (show w.heap.size<=g+1 by rw[<-HG.o];omega)
       simp only[setL,l12] at hz a1;generalize World.drew _=Z at hz a1 ⊢;have HZ:=zQ9 a1;obtain⟨z0,z1,z2,z3,z4,z5,z6,z7,z8,z9,a7,a6⟩:=blkD hz;clear a1 hz;exact bodyPost_ret (v:=.tuple #[.int .i64 3,dv ⟨5,flock,0,0,tof,0,0,s⟩]) (by simp[results,Tryz.f107,go_sem,z0,z1,z2,z3,z4,z5,z6,z7,z8,z9,a7,a6,dv]) rfl ⟨⟨⟨5,flock,0,0,tof,0,0,s⟩,by rw[a3.o];rfl,fun h=>by rw[a3.o] at h;cases h⟩,HZ.o⟩
    | true =>
      by_cases htf:tof=flock
      ·have x0:(tof==flock)=true:=beq_iff_eq.2 htf;have a3:=zQ9 (show fldE b.l.length b.ks.length ⟨5,flock,ow,other,tof,many,err,s⟩=4 by rw[a8.o,b3.o,if_neg (by simp),if_pos htf])
       clear htf;go_wp2_with (go_at_call 79;refine ax.mono ?_;rintro e w' ⟨rfl,rfl⟩)
       go_region
       all_goals
        go_wp2
        have hz:=j5u (d:=⟨5,flock,0,0,tof,0,0,s⟩) (e:=⟨0,0,0,0,0,0,0,⟨0,false,false,0,0⟩⟩) HC.o.1;have a1:=j2e (l:=l12 ⟨5,flock,0,0,tof,0,0,s⟩) HC.o.2.2.1 (show w.heap.size<=g+1 by rw[<-HG.o];omega)
        simp only[setL,l12] at hz a1;generalize World.drew _=Z at hz a1 ⊢;have HZ:=zQ9 a1;obtain⟨z0,z1,z2,z3,z4,z5,z6,z7,z8,z9,a7,a6⟩:=blkD hz;clear a1 hz;exact bodyPost_ret (v:=.tuple #[.int .i64 4,dv ⟨5,flock,0,0,tof,0,0,s⟩]) (by simp[results,Tryz.f107,go_sem,z0,z1,z2,z3,z4,z5,z6,z7,z8,z9,a7,a6,dv]) rfl ⟨⟨⟨5,flock,0,0,tof,0,0,s⟩,by rw[a3.o];rfl,fun h=>by rw[a3.o] at h;cases h⟩,HZ.o⟩
      ·have x0:(tof==flock)=false:=beq_eq_false_iff_ne.2 htf;have a3:=zQ9 (show fldE b.l.length b.ks.length ⟨5,flock,ow,other,tof,many,err,s⟩=seen s 9 6 by rw[a8.o,b3.o,if_neg (by simp),if_neg htf])
       clear htf;go_upto_region 23 with (go_at_call 79;refine ax.mono ?_;rintro e w' ⟨rfl,rfl⟩)
       obtain⟨p0,p1,p2,p3,p4,p5,p6,p7⟩:=blkB HC.o.2.2.2.1;clear ax x0;refine j6c (C:=fun w'=>∃ n,w'=wc.drewN n) 7 (by kernel_rfl) (by kernel_rfl) ⟨1,rfl⟩ ?_
       simp only[List.take_succ_cons,List.take_zero,List.drop_succ_cons,List.drop_zero]
       repeat (quiet_step (fail))
       refine wpQuiet_nil ?_;intro _ br;obtain⟨nq,b6⟩:=br;subst b6;intro Q2 bw;go_wp2_with fail
       refine(k5p b.t b.A b.l.length b.c b.l s (wc.drewN nq) ((aD.o.2.m.below HC.o.2.2.1 (zL9 _)).drewN nq) aD.o.2.mc aD.o.2.mm).mono ?_;rintro e w1 ⟨v,rfl,aF,ar⟩;replace ar:Below wc.heap.size wc w1:=k6h ar;have bi:mayE b.t b.l s=seen s 9 6:=by unfold mayE;rw[if_neg (by rw[aD.o.1];simp)]
       rw[bi];have d1:=j0e HC.o.1 ar (zL9 _);have d2:=j0e HC.o.2.1 ar (zL9 _);have bh:=HC.o.2.2.1.trans (ar.mono HC.o.2.2.1.size);have HD:=zQ9 (zA9 d1 bh);clear aF ar bi bh p0 p1 p2 p3 p4 p5 p6 p7 e0 e1 e2 e3 e4 e5 e6 e7 e8 e9 aa ad r0 r1 r2 r3 r4 r5 r6 r7 r8 r9 ae a9 q0 q1 q2 q3 q4 q5 q6 q7 q8 q9 af ag;obtain⟨e0,e1,e2,e3,e4,e5,e6,e7,e8,e9,aa,ad⟩:=blkD d2;obtain⟨r0,r1,r2,r3,r4,r5,r6,r7,r8,r9,ae,a9⟩:=blkD (d:=⟨0,0,0,0,0,0,0,⟨0,false,false,0,0⟩⟩) d1;obtain⟨q0,q1,q2,q3,q4,q5,q6,q7,q8,q9,af,ag⟩:=zA9 (frz d1 0) (zA9 (frz d1 1) (zA9 (frz d1 2) (zA9 (frz d1 3) (zA9 (frz d1 4) (zA9 (frz d1 5) (zA9 (frz d1 6) (zA9 (frz d1 7) (zA9 (frz d1 8) (zA9 (frz d1 9) (zA9 (frz d1 10) (frz d1 11)))))))))));clear d1 d2;go_wp2
       repeat (quiet_step (fail))
       refine wpQuiet_nil ?_;go_wp2_with fail
       go_region
       all_goals
        go_wp2
        have hz:=j5u (d:=⟨5,flock,0,0,tof,0,0,s⟩) (e:=⟨0,0,0,0,0,0,0,⟨0,false,false,0,0⟩⟩) HD.o.1;have a1:=j2e (l:=l12 ⟨5,flock,0,0,tof,0,0,s⟩) HD.o.2 (show w.heap.size<=g+1 by rw[<-HG.o];omega)
        simp only[setL,l12] at hz a1;generalize World.drew _=Z at hz a1 ⊢;have HZ:=zQ9 a1;obtain⟨z0,z1,z2,z3,z4,z5,z6,z7,z8,z9,a7,a6⟩:=blkD hz;clear a1 hz;exact bodyPost_ret (v:=.tuple #[.int .i64 (seen s 9 6),dv ⟨5,flock,0,0,tof,0,0,s⟩]) (by simp[results,Tryz.f107,go_sem,z0,z1,z2,z3,z4,z5,z6,z7,z8,z9,a7,a6,dv]) rfl ⟨⟨⟨5,flock,0,0,tof,0,0,s⟩,by rw[a3.o];rfl,fun _=>by unfold namD;simp⟩,HZ.o⟩
  ·have ac:fldE b.l.length b.ks.length ⟨6,flock,ow,other,tof,many,err,s⟩=if btw many 0 300=false∨btw err 0 20=false then 1 else 0:=by unfold fldE;simp
   have a8:=zQ9 ac;clear ac;go_upto_region 26 with (fail)
   obtain⟨U,hU⟩:∃ U,U=(V.setCell ⟨g+1+1,6,none⟩ (Value.int .i64 err)):=⟨_,rfl⟩;have u2:U.heap[g+1+1]?=some (dObj ⟨6,flock,0,0,0,0,err,⟨0,false,false,0,0⟩⟩):=by rw[hU];exact(j0g HV.o.2.2.2.1).trans (by simp)
   have a0:∀ k,k≠g+1+1->U.heap[k]?=V.heap[k]?:=fun k hk=>by rw[hU];exact zB1 _ ⟨g+1+1,6,none⟩ _ _ hk
   have u1:=(a0 (g+1) (by omega)).trans HV.o.2.2.1
   have u0:=(a0 g (by omega)).trans HV.o.2.1
   have a5:Below w.heap.size w U:=by rw[hU];exact Below.setCell HV.o.1 (p:=⟨g+1+1,6,none⟩) (by rw[<-HG.o];dsimp;omega) _
   obtain⟨-,-,-,-,-,-,v6,-⟩:=blkD u0;have HU:=zQ9 (zA9 u0 (zA9 u1 (zA9 u2 a5)));obtain⟨bb,an⟩:∃ bb,bb=btw err 0 20:=⟨_,rfl⟩;have aq:=j2k err 0 20 U;rw[<-an] at aq;have aC:=zQ9 an;rw[<-hU];clear hU u2 a0 u1 u0 a5 an c0 c1 c2 c3 c4 c5 c6 c7 c8 c9 av aw f0 f1 f2 f3 f4 f5 f6 f7 e0 e1 e2 e3 e4 e5 e6 e7 e8 e9 aa ad q0 q1 q2 q3 q4 q5 q6 q7 q8 q9 af ag r0 r1 r2 r3 r4 r5 r6 r7 r8 r9 ae a9;cases bb
   all_goals
    go_wp2_with (go_at_call 102;refine aq.mono ?_;rintro e w' ⟨rfl,rfl⟩)
    go_meet
    refine⟨_,⟨6,flock,0,0,0,0,err,⟨0,false,false,0,0⟩⟩,rfl,rfl,rfl,HU.o.1,HU.o.2.1,HU.o.2.2.1,HU.o.2.2.2,?_,by unfold namD;simp⟩
    rw[a8.o,<-aC.o];have e1:loK 6=0:=rfl;have e2:hiK 6=300:=rfl;dsimp only;rw[e1,e2];cases btw many 0 300<;>simp
 case rest =>
  obtain⟨ee,x,rfl,rfl,rfl,b0,b1,b2,b7,az⟩:=hcut;have HC:=zQ9 (zA9 b1 (zA9 b2 (zA9 b7 az)));obtain⟨-,-,-,-,-,c5,-⟩:=blkD b0;obtain⟨-,-,-,-,-,x5,-⟩:=blkD b2;have f5:=frz b2 5;have bv:=j0a b1;have bu:=j0a b2;have bn:=zQ9 b0;clear b0 b1 b2 b7 az;go_upto_region 30 with (fail)
  obtain⟨Y,hY⟩:∃ Y,Y=wc.setCell ⟨g+1+1,5,none⟩ (Value.int .i64 many):=⟨_,rfl⟩;have y2:Y.heap[g+1+1]?=some (dObj { x with many:=many }):=by rw[hY];exact(j0g HC.o.2.1).trans (by simp)
  have y1:Y.heap[g+1]?=some dZ:=by rw[hY];exact(zB1 _ ⟨g+1+1,5,none⟩ _ _ (show g+1≠g+1+1 by omega)).trans HC.o.1
  have y0:Y.heap[g]?=some (dObj ⟨kind,flock,ow,other,tof,many,err,s⟩):=by rw[hY];exact(zB1 _ ⟨g+1+1,5,none⟩ _ _ (show g≠g+1+1 by omega)).trans bn.o
  have bj:Below w.heap.size w Y:=by rw[hY];exact Below.setCell HC.o.2.2.1 (p:=⟨g+1+1,5,none⟩) (by rw[<-HG.o];dsimp;omega) _
  obtain⟨-,-,-,-,-,q5,-⟩:=blkD y0;rw[<-hY];clear hY c5 x5 f5 bv bu;obtain⟨x0,b4⟩:∃ x0,x0={ x with many:=many }:=⟨_,rfl⟩
  rw[<-b4] at y2;obtain⟨e0,e1,e2,e3,e4,e5,e6,e7,e8,e9,aa,ad⟩:=blkD y2;obtain⟨r0,r1,r2,r3,r4,r5,r6,r7,r8,r9,ae,a9⟩:=blkD (d:=⟨0,0,0,0,0,0,0,⟨0,false,false,0,0⟩⟩) y1;obtain⟨bA,bF,ca,bG,cc,bC,bD,bB,cb,bE,bm,bs⟩:=zA9 (frz y1 0) (zA9 (frz y1 1) (zA9 (frz y1 2) (zA9 (frz y1 3) (zA9 (frz y1 4) (zA9 (frz y1 5) (zA9 (frz y1 6) (zA9 (frz y1 7) (zA9 (frz y1 8) (zA9 (frz y1 9) (zA9 (frz y1 10) (frz y1 11)))))))))));have HY:=zQ9 (zA9 b4 (zA9 y1 bj));clear b4 y0 y1 y2 bj;obtain⟨bb,an⟩:∃ bb,bb=btw many (loK kind) (hiK kind):=⟨_,rfl⟩;have aq:=j2k many (loK kind) (hiK kind) Y;rw[<-an] at aq;have aC:=zQ9 an;clear an;cases bb with
  | true =>
    have aA:fldE b.l.length b.ks.length ⟨kind,flock,ow,other,tof,many,err,s⟩=ee:=by rw[HC.o.2.2.2.1];dsimp only;rw[<-aC.o];simp
    have a3:=zQ9 aA;clear aA;go_wp2_with (go_at_call 102;refine aq.mono ?_;rintro e w' ⟨rfl,rfl⟩)
    go_region
    all_goals
     go_wp2
     have hz:=j5u (d:=x0) (e:=⟨0,0,0,0,0,0,0,⟨0,false,false,0,0⟩⟩) HY.o.2.1;have a1:=j2e (l:=l12 x0) HY.o.2.2 (show w.heap.size<=g+1 by rw[<-HG.o];omega)
     simp only[setL,l12] at hz a1;generalize World.drew _=Z at hz a1 ⊢;have HZ:=zQ9 a1;obtain⟨z0,z1,z2,z3,z4,z5,z6,z7,z8,z9,a7,a6⟩:=blkD hz;clear a1 hz;exact bodyPost_ret (v:=.tuple #[.int .i64 ee,dv x0]) (by simp[results,Tryz.f107,go_sem,z0,z1,z2,z3,z4,z5,z6,z7,z8,z9,a7,a6,dv]) rfl ⟨⟨x0,by rw[a3.o];rfl,fun _=>HY.o.1.trans HC.o.2.2.2.2⟩,HZ.o⟩
  | false =>
    have aA:fldE b.l.length b.ks.length ⟨kind,flock,ow,other,tof,many,err,s⟩=1:=by rw[HC.o.2.2.2.1];dsimp only;rw[<-aC.o];simp
    have a3:=zQ9 aA;clear aA;go_wp2_with (go_at_call 102;refine aq.mono ?_;rintro e w' ⟨rfl,rfl⟩)
    go_region
    all_goals
     go_wp2
     have hz:=j5u (d:=x0) (e:=⟨0,0,0,0,0,0,0,⟨0,false,false,0,0⟩⟩) HY.o.2.1;have a1:=j2e (l:=l12 x0) HY.o.2.2 (show w.heap.size<=g+1 by rw[<-HG.o];omega)
     simp only[setL,l12] at hz a1;generalize World.drew _=Z at hz a1 ⊢;have HZ:=zQ9 a1;obtain⟨z0,z1,z2,z3,z4,z5,z6,z7,z8,z9,a7,a6⟩:=blkD hz;clear a1 hz;exact bodyPost_ret (v:=.tuple #[.int .i64 1,dv x0]) (by simp[results,Tryz.f107,go_sem,z0,z1,z2,z3,z4,z5,z6,z7,z8,z9,a7,a6,dv]) rfl ⟨⟨x0,by rw[a3.o];rfl,fun h=>by rw[a3.o] at h;cases h⟩,HZ.o⟩
theorem k4b (p:Nat) (b:Hb) (deed owner now:Int) (d:De) (w:World) (hp:w.heap[p]?=some (b.bk deed owner now)) (hin:HbIn w b) (ag:check b.t b.l=0) :
 Calls Tryz.prog 65 #[.pointer (some ⟨p,0,none⟩),dv d] w fun e w'=>e=.returned (.int .i64 (j0v b.l.length b.ks.length d))∧Below w.heap.size w w':=by
 obtain⟨V,hV⟩:∃ V,V=w.alloc (dObj d):=⟨_,rfl⟩;obtain⟨g,hg⟩:∃ g,g=w.heap.size:=⟨_,rfl⟩;have b0:V.heap[g]?=some (dObj d):=by rw[hV,hg];exact j0c rfl
 have a6:Below w.heap.size w V:=by rw[hV];exact bal0 w _
 have aa:=j0e hp a6 (zL9 _);have af:=hin.below a6 (zL9 _);obtain⟨c0,c1,c2,c3,c4,c5,c6,c7,c8,c9,aj,ak⟩:=blkD b0;have ai:b.ks.length<=maxLen:=zB6 hin.kc hin.km;have a3:=j2k d.kind 1 6 V;have a7:=j9i p b.t b.A b.l.length b.c b.Ak b.ks.length b.ck b.vh b.vd deed owner now d.flock V aa ai;obtain⟨k1,ae⟩:∃ k1,k1=btw d.kind 1 6:=⟨_,rfl⟩;obtain⟨k2,a8⟩:∃ k2,k2=ownB b.ks.length d.flock:=⟨_,rfl⟩;rw[<-ae] at a3;rw[<-a8] at a7;have HK:=zQ9 (zA9 ae.symm a8.symm);have HV:=zQ9 (zA9 a6 (zA9 b0 (zA9 aa (zA9 af ag))));have HG:=zQ9 hg;clear ae a8;unfold dv;go_enter Tryz.func65,Tryz.ntmps65
 go_upto_region 1 with (fail)
 rw[<-hV,<-hg];clear hV hg hp hin ag a6 aa af b0;cases k1 with
 | false =>
   go_wp2_with (go_at_call 102;refine a3.mono ?_;rintro e w' ⟨rfl,rfl⟩)
   go_ret
   exact⟨j0j (by unfold j0v;rw[if_pos HK.o.1]),HV.o.1⟩
 | true =>
 cases k2 with
 | false =>
   go_wp2_with (first
    | (go_at_call 102;refine a3.mono ?_;rintro e w' ⟨rfl,rfl⟩)
    | (go_at_call 79;refine a7.mono ?_;rintro e w' ⟨rfl,rfl⟩))
   go_ret
   exact⟨j0j (by unfold j0v;rw[if_neg (by rw[HK.o.1];simp),if_pos HK.o.2]),HV.o.1⟩
 | true =>
 have a0:=q0u p b deed owner now d V HV.o.2.2.1 HV.o.2.2.2.1 HV.o.2.2.2.2 (j0o.1 HK.o.1);unfold dv at a0;go_upto_region 6 with (first
  | (go_at_call 102;refine a3.mono ?_;rintro e w' ⟨rfl,rfl⟩)
  | (go_at_call 79;refine a7.mono ?_;rintro e w' ⟨rfl,rfl⟩)
  | (go_at_call 107;refine a0.mono ?_;rintro e w2 ⟨⟨x,rfl,hx⟩,ac⟩))
 obtain⟨Y,hY⟩:∃ Y,Y=w2.alloc (dObj x):=⟨_,rfl⟩;obtain⟨gx,a9⟩:∃ gx,gx=w2.heap.size:=⟨_,rfl⟩;have y1:Y.heap[gx]?=some (dObj x):=by rw[hY,a9];exact j0c rfl
 have y0:Y.heap[g]?=some (dObj d):=by rw[hY];exact j0b (j0e HV.o.2.1 ac (zL9 _)) _
 have ah:Below w.heap.size w Y:=by rw[hY];exact bal (HV.o.1.trans (ac.mono HV.o.1.size)) (zL9 _) _
 obtain⟨e0,e1,e2,e3,e4,e5,e6,e7,e8,e9,aw,aE⟩:=blkD y0;obtain⟨r0,r1,r2,r3,r4,r5,r6,r7,r8,r9,aG,ao⟩:=blkD y1;rw[<-hY,<-a9];have HY:=zQ9 (zA9 ah hx);clear hY a9 y1 y0 ah ac hx c0 c1 c2 c3 c4 c5 c6 c7 c8 c9 aj ak a3 a7 a0;obtain⟨fe,ad⟩:∃ fe,fe=fldE b.l.length b.ks.length d:=⟨_,rfl⟩;have a2:=zQ9 ad;rw[<-ad];clear ad;by_cases h0:fe=0
 ·subst h0;have a5:x=namD d:=HY.o.2 a2.o.symm;by_cases hdx:x=d
  ·have a4:j0v b.l.length b.ks.length d=0:=by
    unfold j0v;rw[if_neg (by rw[HK.o.1];simp),if_neg (by rw[HK.o.2];simp),if_neg (by rw[<-a2.o];simp),if_neg (fun h=>h (hdx.symm.trans a5))]
   have a1:=zQ9 (zA9 a4 HY.o.1);clear HY a2 HK HV a4 a5;subst hdx;go_wp2_with fail
   go_ret
   exact⟨j0j a1.o.1.symm,a1.o.2⟩
  ·have a4:j0v b.l.length b.ks.length d=1:=by
    unfold j0v;rw[if_neg (by rw[HK.o.1];simp),if_neg (by rw[HK.o.2];simp),if_neg (by rw[<-a2.o];simp),if_pos (fun h=>hdx (a5.trans h.symm))]
   have a1:=zQ9 (zA9 a4 (zA9 HY.o.1 hdx));clear HY a2 HK HV a4 a5 hdx;obtain⟨dk,df,aq,an,dt,dm,de,⟨aH,az,ar,ay,ax⟩⟩:=d;obtain⟨xk,xf,aA,aC,xt,xm,xe,⟨aF,av,am,aB,aD⟩⟩:=x;dsimp only at *
   go_wp2_with fail
   all_goals
    first
     | (go_ret
        exact⟨j0j a1.o.1.symm,a1.o.2.1⟩)
     | (exfalso
        subst_vars
        exact a1.o.2.2 rfl)
 ·have x0:(fe==0)=false:=beq_eq_false_iff_ne.2 h0;have H0:=zQ9 h0;clear h0;go_wp2_with fail
  go_ret
  refine⟨j0j ?_,HY.o.1⟩;unfold j0v;rw[if_neg (by rw[HK.o.1];simp),if_neg (by rw[HK.o.2];simp),<-a2.o,if_pos H0.o]
theorem k1f (b:Hb) (w:World) :
 Calls Tryz.prog 63 #[b.v] w fun e w'=>∃ p,e=.returned (.pointer (some ⟨p,0,none⟩))∧w.heap.size<=p∧w'.heap[p]?=some (b.bk (-1) 0 0)∧Below w.heap.size w w':=by
 unfold Hb.v;go_enter Tryz.func63,Tryz.ntmps63
 go_wp2
 go_ret
 exact⟨_,rfl,by omega,j0c (by simp),bal (bal0 w _) (zL9 _) _⟩
end Go.Proofs.YtmennjmjakdkcaaGreat
