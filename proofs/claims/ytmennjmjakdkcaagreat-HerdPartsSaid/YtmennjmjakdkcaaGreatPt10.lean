/- HerdParts. -/
import Derived.Test.YtmennjmjakdkcaaGreatPt09
set_option linter.unusedVariables false
set_option linter.unusedSimpArgs false
set_option maxRecDepth 100000
set_option maxHeartbeats 4000000
namespace Go.Proofs.YtmennjmjakdkcaaGreat
open Go.RowKit Go.MapKept
theorem j3i (n nf:Nat):∀ (l:List De) (d:De),j1o n nf l=0->j1o n nf (l++[d])=j0v n nf d
 | [],d,_=>by unfold j1o;simp[j1o];intro h;exact h.symm
 | x::l,d,h=>by
   unfold j1o at h
   split at h
   ·rename_i h1;exact absurd h h1
   ·rename_i h1;rw[List.cons_append]
    conv=>lhs;unfold j1o
    rw[if_neg h1];exact j3i n nf l d h
theorem j9g (n nf:Nat):∀ (l m:List De),j1o n nf l≠0->j1o n nf (l++m)=j1o n nf l
 | [],m,h=>absurd rfl h
 | x::l,m,h=>by
   rw[List.cons_append];unfold j1o at h ⊢
   split
   ·rfl
   ·rename_i h1;rw[if_neg h1] at h;exact j9g n nf l m h
theorem j0h {w:World} {b:Nat} {t:TypeId} {v0 v1 v2 v3 v4:Value} (h:w.heap[b]?=some (.cells #[v0,v1,v2,v3,v4] t (0,0))):w.cell? ⟨b,0,none⟩=some v0∧w.cell? ⟨b,1,none⟩=some v1∧w.cell? ⟨b,2,none⟩=some v2∧w.cell? ⟨b,3,none⟩=some v3∧w.cell? ⟨b,4,none⟩=some v4:=blk5 h
abbrev Hb.obj (b:Hb):Obj:=.cells #[.int .i64 b.t,.slice b.A b.l.length b.c,.slice b.Ak b.ks.length b.ck,.slice b.Ah b.hs.length b.ch,.slice b.Ad b.ds.length b.cd] 29 (0,0)
theorem q2m (b:Hb) (w:World) (hin:HbIn w b) :
 Calls Tryz.prog 17 #[b.v] w fun e w'=>e=.returned (.int .i64 b.chk)∧Below w.heap.size w w':=by
 obtain⟨V,hV⟩:∃ V,V=w.alloc b.obj:=⟨_,rfl⟩;obtain⟨g,hg⟩:∃ g,g=w.heap.size:=⟨_,rfl⟩;have b0:V.heap[g]?=some b.obj:=by rw[hV,hg];exact j0c rfl
 have aj:Below w.heap.size w V:=by rw[hV];exact bal0 w _
 have a4:=hin.below aj (zL9 _);obtain⟨c0,c1,c2,c3,c4⟩:=j0h b0;have a8:=j6x b.t b.A b.l.length b.c b.l V a4.m a4.mc a4.mm;have HV:=zQ9 (zA9 aj (zA9 b0 (zA9 a4 hg)));have aw:b.ds.length<=maxLen:=zB6 hin.dc hin.dm;unfold maxLen at aw;unfold Hb.v;go_enter Tryz.func17,Tryz.ntmps17
 go_upto_region 1 with (fail)
 rw[<-hV,<-hg];clear hV hg hin aj a4 b0;obtain⟨ck,a5⟩:∃ ck,ck=check b.t b.l:=⟨_,rfl⟩;rw[<-a5] at a8;by_cases h0:ck=0
 ·subst h0;have an:=zQ9 a5.symm;clear a5;go_upto_region 4 with (go_at_call 62;refine a8.mono ?_;rintro e w2 ⟨rfl,a0⟩)
  have x0:=j0e HV.o.2.1 a0 (zL9 _);have az:=HV.o.2.2.1.below a0 (zL9 _);have av:=HV.o.1.trans (a0.mono HV.o.1.size);clear c0 c1 c2 c3 c4 a8 a0;obtain⟨c0,c1,c2,c3,c4⟩:=j0h x0;have H2:=zQ9 (zA9 av (zA9 x0 az));clear x0 az av;have ag:=k1f b w2;unfold Hb.v at ag;go_upto_region 5 with (go_at_call 63;refine ag.mono ?_;rintro e w3 ⟨p,rfl,hp,ae,aa⟩)
  have x0:=j0e H2.o.2.1 aa (zL9 _);have ah:=H2.o.2.2.below aa (zL9 _);have ay:=H2.o.1.trans (aa.mono H2.o.1.size);have ac:=q2y p b (-1) 0 0 w3 ae ah;clear c0 c1 c2 c3 c4 ag aa hp;obtain⟨c0,c1,c2,c3,c4⟩:=j0h x0;have H3:=zQ9 (zA9 ay (zA9 x0 (zA9 ah ae)));clear x0 ah ay ae;obtain⟨fe,a6⟩:∃ fe,fe=j1k b.l.length b.ks b.hs:=⟨_,rfl⟩;rw[<-a6] at ac;by_cases hf0:fe=0
  ·subst hf0;have aF:=zQ9 a6.symm;clear a6;have a1:b.chk=if 6<b.ds.length then 6 else j1o b.l.length b.ks.length b.ds:=by
    unfold Hb.chk j3m;rw[if_neg (by rw[an.o];simp),if_neg (by rw[aF.o];simp)]
   have ai:=zQ9 a1;clear a1;by_cases h6:6<b.ds.length
   ·have x6:decide (6<(b.ds.length:Int))=true:=by simp;omega
    have HL:=zQ9 h6;clear h6;go_wp2_with (go_at_call 64;refine ac.mono ?_;rintro e w' ⟨rfl,rfl⟩)
    go_ret
    exact⟨j0j (by rw[ai.o,if_pos HL.o]),H3.o.1⟩
   ·have x6:decide (6<(b.ds.length:Int))=false:=by simp;omega
    have HL:=zQ9 h6;clear h6;obtain⟨Ad,ak⟩:∃ Ad,Ad=b.Ad:=⟨_,rfl⟩;rw[<-ak] at c4;have hG:=H3.o.2.2.1.d;rw[<-ak] at hG;obtain⟨nd,am⟩:∃ nd,nd=b.ds.length:=⟨_,rfl⟩;rw[<-am] at c4 hG x6 aw;have aC:=zQ9 am;have b6:p<w3.heap.size:=j0a H3.o.2.2.2;clear ak am;go_wp2_with (go_at_call 64;refine ac.mono ?_;rintro e w' ⟨rfl,rfl⟩)
    go_loopg [29] nd (fun g v wr=>∃ k:Nat,k+g=nd∧v=.int .i64 k∧j1o b.l.length b.ks.length (b.ds.take k)=0∧Below w3.heap.size w3 wr)
    case atStart=>exact⟨0,by omega,rfl,rfl,zB2 _ _⟩
    case round =>
     obtain⟨k,hk,rfl,hall,a7⟩:=hrel;have HK:=zQ9 (zA9 hk (zA9 hall a7));by_cases hlt:k<nd
     ·obtain⟨bi,oi,d,hA,aE,aA,d0,d1,d2,d3,d4,d5,d6,d7,d8,d9,aG,aH⟩:=Deeds.get (hG.below a7 (zL9 _)) hlt;subst hA;have HD:=zQ9 aA;have bz:(wr.alloc dZ).heap[wr.heap.size]?=some dZ:=j0c rfl;clear hk hall a7 aE aA;go_upto_region 13 with ((with_reducible apply j9f bz rfl);(rfl);(rfl);(rfl);(rfl);intro w5 b5 g5 z5)
      obtain⟨gx,ar⟩:∃ gx,gx=wr.heap.size:=⟨_,rfl⟩;have ax:wr.grownBy w5 none:=⟨g5.os,g5.tape,g5.output,by rw[z5];simp,fun j hj _=>(g5.block j (by simp;omega) (fun e=>by cases e;omega)).trans (Below.heap_alloc _ _ _ hj)⟩
      have ad:Below w3.heap.size w3 w5:=HK.o.2.2.trans ((zB2 _ _).grown ax HK.o.2.2.size (fun k e=>by cases e))
      have a9:=k4b p b (-1) 0 0 d w5 (j0e H3.o.2.2.2 ad (zL9 _)) (H3.o.2.2.1.below ad (zL9 _)) an.o;unfold dv at a9;obtain⟨de,a3⟩:∃ de,de=j0v b.l.length b.ks.length d:=⟨_,rfl⟩;rw[<-a3] at a9;rw[<-ar] at b5 ⊢;obtain⟨y0,y1,y2,y3,y4,y5,y6,y7,y8,y9,b3,b4⟩:=blkD b5;have H5:=zQ9 ad;clear ar z5 g5 ax ad bz b5 d0 d1 d2 d3 d4 d5 d6 d7 d8 d9 aG aH;have aB:b.ds.take (k+1)=b.ds.take k++[d]:=by rw[List.take_add_one,HD.o];rfl
      have af:=zQ9 aB;clear aB;by_cases hd0:de=0
      ·subst hd0;have aD:=zQ9 a3.symm;clear a3;go_wp2_with (go_at_call 65;refine a9.mono ?_;rintro e w6 ⟨rfl,ao⟩)
       go_roundg (gk-1)
       case measure=>have:=HK.o.1;omega
       case rel=>exact⟨k+1,by have:=HK.o.1;omega,by go_num,by rw[af.o,j3i _ _ _ _ HK.o.2.1];exact aD.o,H5.o.trans (ao.mono H5.o.size)⟩
      ·have xd:(de != 0)=true:=by simp[hd0]
       have aq:=zQ9 (zA9 hd0 a3);clear hd0 a3;go_wp2_with (go_at_call 65;refine a9.mono ?_;rintro e w6 ⟨rfl,ao⟩)
       go_ret
       refine⟨j0j ?_,H3.o.1.trans ((H5.o.trans (ao.mono H5.o.size)).mono H3.o.1.size)⟩;rw[ai.o,if_neg HL.o,<-List.take_append_drop (k+1) b.ds,j9g,af.o,j3i _ _ _ _ HK.o.2.1]
       ·exact aq.o.2
       ·rw[af.o,j3i _ _ _ _ HK.o.2.1,<-aq.o.2];exact aq.o.1
     ·obtain rfl:k=nd:=by omega
      have HE:=zQ9 (show b.chk=0 by rw[ai.o,if_neg HL.o];have:=HK.o.2.1;rw[aC.o,List.take_length] at this;exact this)
      have HB:=zQ9 (H3.o.1.trans (a7.mono H3.o.1.size));clear hk hall a7;go_wp2_with fail
      go_ret
      exact⟨j0j HE.o.symm,HB.o⟩
  ·have xf:(fe != 0)=true:=by simp[hf0]
   have a2:=zQ9 (zA9 hf0 a6);clear hf0 a6;go_wp2_with (go_at_call 64;refine ac.mono ?_;rintro e w' ⟨rfl,rfl⟩)
   go_ret
   refine⟨j0j ?_,H3.o.1⟩;unfold Hb.chk j3m;rw[if_neg (by rw[an.o];simp),<-a2.o.2,if_pos a2.o.1]
 ·have xf:(ck != 0)=true:=by simp[h0]
  have a2:=zQ9 (zA9 h0 a5);clear h0 a5;go_wp2_with (go_at_call 62;refine a8.mono ?_;rintro e w2 ⟨rfl,a0⟩)
  go_ret
  refine⟨j0j ?_,HV.o.1.trans (a0.mono HV.o.1.size)⟩;unfold Hb.chk j3m;rw[<-a2.o.2,if_pos a2.o.1]
def j3z (b:Hb) (ck:Int) (w:World) (e:Ending) (w':World):Prop:=(ck≠0∧e=.returned (.tuple #[.pointer none,.int .i64 ck])∧Below w.heap.size w w') ∨
 (ck=0∧∃ p,e=.returned (.tuple #[.pointer (some ⟨p,0,none⟩),.int .i64 0])∧Work w p b (-1) 0 w'∧Below w.heap.size w w')
theorem j6w (b:Hb) (w:World) (hin:HbIn w b) :
 Calls Tryz.prog 55 #[b.v] w (j3z b b.chk w):=by
 obtain⟨V,hV⟩:∃ V,V=w.alloc b.obj:=⟨_,rfl⟩;obtain⟨g,hg⟩:∃ g,g=w.heap.size:=⟨_,rfl⟩;have b0:V.heap[g]?=some b.obj:=by rw[hV,hg];exact j0c rfl
 have a3:Below w.heap.size w V:=by rw[hV];exact bal0 w _
 have a7:=hin.below a3 (zL9 _);obtain⟨c0,c1,c2,c3,c4⟩:=j0h b0;have a1:=q2m b V a7;unfold Hb.v at a1;obtain⟨ce,a2⟩:∃ ce,ce=b.chk:=⟨_,rfl⟩;rw[<-a2] at a1 ⊢;have HV:=zQ9 (zA9 a3 (zA9 b0 (zA9 hin (zA9 hg a2.symm))));unfold Hb.v;go_enter Tryz.func55,Tryz.ntmps55
 go_upto_region 1 with (fail)
 rw[<-hV,<-hg];clear hV hg hin a3 a7 b0 a2;by_cases h0:ce=0
 ·subst h0;go_upto_region 4 with (go_at_call 17;refine a1.mono ?_;rintro e w2 ⟨rfl,a0⟩)
  have x0:=j0e HV.o.2.1 a0 (zL9 _);have a5:=HV.o.1.trans (a0.mono HV.o.1.size);clear c0 c1 c2 c3 c4 a1 a0;obtain⟨c0,c1,c2,c3,c4⟩:=j0h x0;have H2:=zQ9 a5;have a6:=k1f b w2;unfold Hb.v at a6;clear x0 a5;go_wp2_with (go_at_call 63;refine a6.mono ?_;rintro e w3 ⟨p,rfl,hp,a8,a9⟩)
  go_ret2
  have a4:=H2.o.trans (a9.mono H2.o.size);exact .inr ⟨rfl,p,rfl,⟨HV.o.2.2.1,zB6 H2.o.size hp,a4,⟨_,a8⟩,HV.o.2.2.2.2⟩,a4⟩
 ·have xf:(ce != 0)=true:=by simp[h0]
  have H0:=zQ9 h0;clear h0;go_wp2_with (go_at_call 17;refine a1.mono ?_;rintro e w2 ⟨rfl,a0⟩)
  go_ret2
  exact .inl ⟨H0.o,rfl,HV.o.1.trans (a0.mono HV.o.1.size)⟩
theorem j2j (n lo hi:Int) (w:World):Calls Tryz.prog 105 #[.int .i64 n,.int .i64 lo,.int .i64 hi] w fun e w'=>e=.returned (.bool (btw n lo hi))∧w=w':=by
 go_enter Tryz.func105,Tryz.ntmps105
 by_cases h1:lo<=n
 ·by_cases h2:n<=hi
  ·have HB:=zQ9 (show btw n lo hi=true from j0o.2 ⟨h1,h2⟩)
   go_wp2_with fail
   go_ret
   exact⟨j0s (by rw[HB.o]),rfl⟩
  ·have HB:=zQ9 (show btw n lo hi=false by rw[<-Bool.not_eq_true,j0o];omega)
   go_wp2_with fail
   go_ret
   exact⟨j0s (by rw[HB.o]),rfl⟩
 ·have HB:=zQ9 (show btw n lo hi=false by rw[<-Bool.not_eq_true,j0o];omega)
  go_wp2_with fail
  go_ret
  exact⟨j0s (by rw[HB.o]),rfl⟩
theorem j8b (t:Int) (A Ak Ah Ad:Option Addr) (n c nk ck nh ch nd cd:Nat) (x:Int) (w:World) (hn:n<=maxLen) :
 Calls Tryz.prog 60 #[.agg #[.int .i64 t,.slice A n c,.slice Ak nk ck,.slice Ah nh ch,.slice Ad nd cd],.int .i64 x] w fun e w'=>e=.returned (.bool (ownB n x))∧Below w.heap.size w w':=by
 unfold maxLen at hn;have HB:=zQ9 (bal0 w (Obj.cells #[.int .i64 t,.slice A n c,.slice Ak nk ck,.slice Ah nh ch,.slice Ad nd cd] 29));go_enter Tryz.func60,Tryz.ntmps60
 go_wp2_with (go_at_call 105;(with_reducible refine(j2j _ _ _ _).mono ?_);rintro e w' ⟨rfl,hw⟩;rw[<-hw];clear hw w')
 go_ret
 exact⟨rfl,HB.o⟩
theorem j8a (t:Int) (A Ak Ah Ad:Option Addr) (n c nk ck nh ch nd cd:Nat) (x:Int) (w:World) (hn:nk<=maxLen) :
 Calls Tryz.prog 86 #[.agg #[.int .i64 t,.slice A n c,.slice Ak nk ck,.slice Ah nh ch,.slice Ad nd cd],.int .i64 x] w fun e w'=>e=.returned (.bool (ownB nk x))∧Below w.heap.size w w':=by
 unfold maxLen at hn;have HB:=zQ9 (bal0 w (Obj.cells #[.int .i64 t,.slice A n c,.slice Ak nk ck,.slice Ah nh ch,.slice Ad nd cd] 29));go_enter Tryz.func86,Tryz.ntmps86
 go_wp2_with (go_at_call 105;(with_reducible refine(j2j _ _ _ _).mono ?_);rintro e w' ⟨rfl,hw⟩;rw[<-hw];clear hw w')
 go_ret
 exact⟨rfl,HB.o⟩
theorem q3d (d:De) (w:World):Calls Tryz.prog 110 #[dv d] w fun e w'=>e=.returned (dv (namD d))∧Below w.heap.size w w':=by
 obtain⟨kind,flock,ow,other,tof,many,err,s⟩:=d;unfold dv;go_enter Tryz.func110,Tryz.ntmps110
 go_upto_block 0 with (fail)
 obtain⟨V,hV⟩:∃ V,V=((w.alloc (dObj ⟨kind,flock,ow,other,tof,many,err,s⟩)).alloc dZ).alloc (dObj ⟨kind,flock,0,0,0,0,0,⟨0,false,false,0,0⟩⟩):=⟨_,rfl⟩;obtain⟨g,hg⟩:∃ g,g=w.heap.size:=⟨_,rfl⟩;have b0:V.heap[g]?=some (dObj ⟨kind,flock,ow,other,tof,many,err,s⟩):=by rw[hV,hg];exact j0b (j0b (j0c rfl) _) _
 have b1:V.heap[g+1]?=some dZ:=by rw[hV,hg];exact j0b (j0c (by simp)) _
 have b2:V.heap[g+1+1]?=some (dObj ⟨kind,flock,0,0,0,0,0,⟨0,false,false,0,0⟩⟩):=by rw[hV,hg];exact j0c (by simp)
 have a2:Below g w V:=by rw[hV,hg];exact bal (bal (bal0 w _) (zL9 _) _) (zL9 _) _
 rw[<-hV,<-hg];have HG:=zQ9 hg;have HV:=zQ9 (zA9 a2 (zA9 b0 (zA9 b1 b2)));clear hV hg a2 b0 b1 b2;go_cut [] from 11 to 49 (fun wx=>wx.heap[g+1]?=some dZ∧wx.heap[g+1+1]?=some (dObj (namD ⟨kind,flock,ow,other,tof,many,err,s⟩))∧Below g w wx)
 case first =>
  obtain⟨c0,c1,c2,c3,c4,c5,c6,c7,c8,c9,ae,af⟩:=blkD HV.o.2.1;obtain⟨e0,e1,e2,e3,e4,e5,e6,e7,e8,e9,a8,aa⟩:=blkD HV.o.2.2.2;have fr:=frz HV.o.2.2.2;obtain⟨f0,f1,f2,f3,f4,f5,f6,f7⟩:=zA9 (fr 2) (zA9 (fr 3) (zA9 (fr 4) (zA9 (fr 5) (zA9 (fr 6) (zA9 (fr 7) (zA9 (fr 8) (zA9 (fr 9) (zA9 (fr 10) (fr 11)))))))));have ad:=j0a HV.o.2.1;have ac:=j0a HV.o.2.2.2;clear fr;obtain h|h|h|h|h|h:kind=1∨kind=3∨kind=2∨kind=4∨kind=5∨(kind≠1∧kind≠3∧kind≠2∧kind≠4∧kind≠5):=by omega
  ·subst h;have a0:=zQ9 (show(0:Int)=0 from rfl)
   go_upto_region 6 with (fail)
   go_region
   all_goals
    go_wp2
    go_meet
    simp only[j4d];refine⟨?_,?_,?_⟩
    ·repeat refine(zB1 _ _ _ _ (by simp)).trans ?_
     exact HV.o.2.2.1
    ·first
      | exact(j0g (j0g (HV.o.2.2.2))).trans (by simp[namD,a0.o])
    ·refine j0w ?_
     repeat refine Below.setCell ?_ (by first|omega|(dsimp;omega)) _
     exact HV.o.1
  ·subst h;have a0:=zQ9 (show(0:Int)=0 from rfl)
   go_upto_region 6 with (fail)
   go_region
   all_goals
    go_wp2
    go_meet
    simp only[j4d];refine⟨?_,?_,?_⟩
    ·repeat refine(zB1 _ _ _ _ (by simp)).trans ?_
     exact HV.o.2.2.1
    ·first
      | exact(j0g (j0g (HV.o.2.2.2))).trans (by simp[namD,a0.o])
    ·refine j0w ?_
     repeat refine Below.setCell ?_ (by first|omega|(dsimp;omega)) _
     exact HV.o.1
  ·subst h;have a0:=zQ9 (show(0:Int)=0 from rfl)
   go_upto_region 8 with (fail)
   go_region
   all_goals
    go_wp2
    go_meet
    simp only[j4d];refine⟨?_,?_,?_⟩
    ·repeat refine(zB1 _ _ _ _ (by simp)).trans ?_
     exact HV.o.2.2.1
    ·first
      | exact(j0g (j0g (j0g (HV.o.2.2.2)))).trans (by simp[namD,a0.o])
    ·refine j0w ?_
     repeat refine Below.setCell ?_ (by first|omega|(dsimp;omega)) _
     exact HV.o.1
  ·subst h;have a0:=zQ9 (show(0:Int)=0 from rfl)
   go_upto_region 10 with (fail)
   skip
   all_goals
    go_wp2
    go_meet
    skip
    refine⟨?_,?_,?_⟩
    ·repeat refine(zB1 _ _ _ _ (by simp)).trans ?_
     exact HV.o.2.2.1
    ·first
      | exact(j0g (HV.o.2.2.2)).trans (by simp[namD,a0.o])
    ·skip
     repeat refine Below.setCell ?_ (by first|omega|(dsimp;omega)) _
     exact HV.o.1
  ·subst h;have a0:=zQ9 (show(0:Int)=0 from rfl)
   go_upto_region 12 with (fail)
   go_region
   all_goals
    go_wp2
    go_meet
    simp only[j4d];refine⟨?_,?_,?_⟩
    ·repeat refine(zB1 _ _ _ _ (by simp)).trans ?_
     exact HV.o.2.2.1
    ·first
      | exact(j0g (j0g (j0g (j0g (j0g (j0g (HV.o.2.2.2))))))).trans (by simp[namD,a0.o])
    ·refine j0w ?_
     repeat refine Below.setCell ?_ (by first|omega|(dsimp;omega)) _
     exact HV.o.1
  ·have a0:=zQ9 (show(kind=1)=False∧(kind=3)=False∧(kind=2)=False∧(kind=4)=False∧(kind=5)=False from⟨by simp[h.1],by simp[h.2.1],by simp[h.2.2.1],by simp[h.2.2.2.1],by simp[h.2.2.2.2]⟩)
   have k1:(kind==1)=false:=beq_eq_false_iff_ne.2 h.1;have k3:(kind==3)=false:=beq_eq_false_iff_ne.2 h.2.1;have k2:(kind==2)=false:=beq_eq_false_iff_ne.2 h.2.2.1;have k4:(kind==4)=false:=beq_eq_false_iff_ne.2 h.2.2.2.1;have k5:(kind==5)=false:=beq_eq_false_iff_ne.2 h.2.2.2.2;clear h;go_upto_region 3 with (fail)
   go_region
   all_goals
    go_wp2
    go_meet
    simp only[j4d];refine⟨?_,?_,?_⟩
    ·repeat refine(zB1 _ _ _ _ (by simp)).trans ?_
     exact HV.o.2.2.1
    ·first
      | exact(j0g (j0g (HV.o.2.2.2))).trans (by simp[namD,a0.o])
    ·refine j0w ?_
     repeat refine Below.setCell ?_ (by first|omega|(dsimp;omega)) _
     exact HV.o.1
 case rest =>
  obtain⟨b1,b2,a1⟩:=hcut;obtain⟨D,hD⟩:∃ D,D=namD ⟨kind,flock,ow,other,tof,many,err,s⟩:=⟨_,rfl⟩;rw[<-hD] at b2;have HD:=zQ9 hD;clear hD;obtain⟨y0,y1,y2,y3,y4,y5,y6,y7,y8,y9,a5,a6⟩:=blkD b2;have a9:=j0a b1;go_wp2_with ((with_reducible apply j9f b1 rfl);(rfl);(rfl);(rfl);(rfl);intro w5 b5 g5 z5)
  have a3:Below g w w5:=a1.grown g5 (by omega) (fun k e=>by cases e;omega)
  have HZ:=zQ9 a3;obtain⟨r0,r1,r2,r3,r4,r5,r6,r7,r8,r9,a7,a4⟩:=blkD b5;clear y0 y1 y2 y3 y4 y5 y6 y7 y8 y9 a5 a6 b1 b2 b5 a1 g5 z5 a3;exact bodyPost_ret (v:=dv D) (by simp[results,Tryz.f110,go_sem,r0,r1,r2,r3,r4,r5,r6,r7,r8,r9,a7,a4,dv]) rfl ⟨by rw[HD.o];rfl,by rw[<-HG.o];exact HZ.o⟩
theorem j6j (n lo hi:Int) (w:World) :
 Calls Tryz.prog 121 #[.int .i64 n,.int .i64 lo,.int .i64 hi] w fun e w'=>e=.returned (.bool (btw n lo hi))∧w=w':=by
 by_cases h1:lo<=n<;>by_cases h2:n<=hi
 all_goals
  go_enter Tryz.func121,Tryz.ntmps121
  go_wp2
  go_ret
  exact⟨by simp[btw,h1,h2],rfl⟩
theorem rHas (n:Int) (b:Nat) (w:World) (hn:0<=n) (a2:n<=255) (hb:b<=8) :
 Calls Tryz.prog 123 #[.int .i64 n,.int .i64 b] w fun e w'=>e=.returned (.bool (bit n b))∧w=w':=by
 obtain⟨l,rfl⟩:=zB7 hn;have hl:l<=255:=by omega
 go_enter Tryz.func123,Tryz.ntmps123
 go_wp2_with fail
 go_loopg [0,5] b (fun g x i wr=>∃ k:Nat,k+g=b∧i=.int .i64 k∧∃ q:Nat,x=.int .i64 q∧q=l / 2 ^ k∧w=wr)
 case atStart=>exact⟨0,by omega,rfl,l,rfl,by simp,rfl⟩
 case round =>
  obtain⟨k,hk,rfl,q,rfl,hq,rfl⟩:=hrel;have HK:=zQ9 (zA9 hk hq);have a0:k<=b:=by omega
  have a1:q<=255:=by have:=Nat.div_le_self l (2 ^ k);omega
  clear hk hq;by_cases hlt:k<b
  ·go_wp2
   go_roundg (gk-1)
   case measure=>have:=HK.o.1;omega
   case rel =>
    refine⟨k+1,by have:=HK.o.1;omega,by go_num,q / 2,?_,by rw[HK.o.2,Nat.pow_succ,Nat.div_div_eq_div_mul],rfl⟩
    congr 1
  ·obtain rfl:k=b:=by omega
   go_wp2
   go_ret
   refine⟨j0s ?_,rfl⟩;unfold bit;rw[Int.toNat_natCast,Nat.testBit_eq_decide_div_mod_eq,<-HK.o.2,Bool.eq_iff_iff];simp only[beq_iff_eq,decide_eq_true_eq];omega
theorem rTorn (s:Sg) (b:Nat) (w:World) (hb:b<=8) :
 Calls Tryz.prog 122 #[vSg s,.int .i64 b] w fun e w'=>e=.returned (.bool (j1q s.l s.r b))∧Below w.heap.size w w':=by
 obtain⟨sn,l,r,sb,sp⟩:=s;unfold vSg;by_cases h4:b<4
 ·have a2:(b:Int)<4:=by omega
  have a1:¬(4:Int)<=(b:Int):=by omega
  have a0:¬4<=b:=by omega
  cases l
  all_goals
   go_enter Tryz.func122,Tryz.ntmps122
   go_wp2
   go_ret
   exact⟨j0s (by simp[j1q,h4,a0]),bal0 _ _⟩
 ·have a2:¬(b:Int)<4:=by omega
  have a1:(4:Int)<=(b:Int):=by omega
  have a0:4<=b:=by omega
  cases r
  all_goals
   go_enter Tryz.func122,Tryz.ntmps122
   go_wp2
   go_ret
   exact⟨j0s (by simp[j1q,h4,a0]),bal0 _ _⟩
theorem k5c (m:Mk) (w:World) :
 Calls Tryz.prog 130 #[vMk m] w fun e w'=>e=.returned (.int .i64 (if mkOk m then 0 else 1))∧Below w.heap.size w w':=by
 obtain⟨n,b,p⟩:=m;obtain⟨R,hR⟩:∃ R:Int,R=if mkOk ⟨n,b,p⟩ then 0 else 1:=⟨_,rfl⟩
 rw[<-hR];have HR:=zQ9 hR;clear hR;unfold vMk;cases h1:btw n 0 255<;>cases h2:btw b 0 9<;>cases h3:btw p 0 6
 all_goals
  have HE:=zQ9 (zA9 h1 (zA9 h2 h3));go_enter Tryz.func130,Tryz.ntmps130
  go_wp2_with (go_at_call 121;refine(j6j _ _ _ _).mono ?_;rintro e w' ⟨rfl,rfl⟩)
  go_ret
  refine⟨j0j ?_,bal0 _ _⟩;rw[HR.o];simp[mkOk,HE.o.1,HE.o.2.1,HE.o.2.2]
theorem rCheck (t:Int) (A:Option Addr) (n c:Nat) (l:List Mk) (w:World) (hc:Marks w A n l) (am:n<=c) (ah:c<=maxLen) :
 Calls Tryz.prog 108 #[.agg #[.int .i64 t,.slice A n c]] w fun e w'=>e=.returned (.int .i64 (check t l))∧Below w.heap.size w w':=by
 have hl:=hc.len;have HL:=zQ9 hl;unfold maxLen at ah;have a5:Below w.heap.size w (w.alloc (.cells #[.int .i64 t,Value.slice A n c] 24)):=bal0 w _;by_cases h1:btw t 0 2=true
 ·by_cases h2:n<=5
  ·have a3:check t l=chk l (n-0) 0:=by
    unfold check;rw[if_neg (by simp[h1]),if_neg (by omega),hl];rfl
   have HC:=zQ9 a3;clear hl a3;have h3:decide ((5:Int)<(n:Int))=false:=by simp;omega
   go_enter Tryz.func108,Tryz.ntmps108
   go_wp2_with (go_at_call 121;refine(j6j _ _ _ _).mono ?_;rintro e w' ⟨rfl,rfl⟩)
   obtain⟨W0,hW⟩:∃ W0,W0=w.alloc (.cells #[.int .i64 t,Value.slice A n c] 24):=⟨_,rfl⟩;rw[<-hW];have a4:W0.heap[w.heap.size]?=some (.cells #[.int .i64 t,Value.slice A n c] 24 (0,0)):=by rw[hW];exact j0c rfl
   rw[<-hW] at a5;have ac:=hc.below a5 (zL9 _);clear hW hc;have aj:=j0a a4;have a2:=zQ9 (zA9 ac (zA9 a4 a5));clear ac a4 a5;go_loopg [3] n (fun g i wr=>∃ k:Nat,k+g=n∧i=.int .i64 k∧chk l (n-0) 0=chk l (n-k) k∧Below W0.heap.size W0 wr)
   case atStart=>exact⟨0,by omega,rfl,rfl,zB2 _ _⟩
   case round =>
    obtain⟨k,hk,rfl,a7,a6⟩:=hrel;obtain⟨wo,rfl⟩:∃ wo:World,wo=wr:=⟨_,rfl⟩;obtain⟨g1,rfl⟩:∃ g1:Nat,g1=gk:=⟨_,rfl⟩;have HK:=zQ9 (zA9 hk a7);have ao:k<=n:=by omega
    clear a7 hk;have af:=a6.size;obtain⟨r0,r1⟩:=blk2 (j0e a2.o.2.1 a6 (zL9 _));by_cases hlt:k<n
    ·obtain⟨b,off,m,rfl,hb,hm,c0,c1,c2⟩:=Marks.get (a2.o.1.below a6 (zL9 _)) hlt;have HM:=zQ9 hm;have HS:=zQ9 (k8o HL.o hlt hm);clear hm;cases hmk:mkOk m
     ·have HE:=zQ9 hmk;clear hmk;go_wp2_with fail
      have a1:=k5c m wo;rw[HE.o] at a1;refine a1.mono ?_;rintro e w2 ⟨rfl,a8⟩;have a0:=a6.trans (a8.mono af);go_wp2
      go_ret
      exact⟨j0j (by rw[HC.o,HK.o.2,HS.o,if_pos HE.o]),a2.o.2.2.trans (a0.mono a2.o.2.2.size)⟩
     ·have HE:=zQ9 hmk;clear hmk;go_wp2_with fail
      have a1:=k5c m wo;rw[HE.o] at a1;refine a1.mono ?_;rintro e w2 ⟨rfl,a8⟩;have a0:=a6.trans (a8.mono af);clear r0 r1 c0 c1 c2 a8 a1;simp only[if_true];go_wp2_with fail
      go_loopg [5] k (fun g i wr=>∃ q:Nat,q+g=k∧i=.int .i64 q∧(l.take q).contains m=false∧∃ d,wr=w2.drewN d)
      case atStart=>exact⟨0,by omega,rfl,by simp,0,rfl⟩
      case round =>
       obtain⟨q,hq,rfl,ae,d,rfl⟩:=hrel;have HQ:=zQ9 (zA9 hq ae);have ak:q<=k:=by omega
       clear ae hq;obtain⟨r0,r1⟩:=blk2 (j0e a2.o.2.1 a0 (zL9 _));by_cases hqk:q<k
       ·obtain⟨b1,a9,x,hA,an,hx,d0,d1,d2⟩:=Marks.get (a2.o.1.below a0 (zL9 _)) (show q<n by omega)
        obtain⟨b2,aa,y,ad,a8,hy,e0,e1,e2⟩:=Marks.get (a2.o.1.below a0 (zL9 _)) hlt;obtain⟨rfl,rfl⟩:b=b1∧off=a9:=by simpa using hA
        obtain⟨rfl,rfl⟩:b=b2∧off=aa:=by simpa using ad
        obtain rfl:m=y:=Option.some.inj (HM.o.symm.trans hy);have HX:=zQ9 hx;clear hx hA ad hy;have i0:(0:Int)<=(q:Int):=by omega
        have i1:(q:Int)<(n:Int):=by omega
        have i2:(0:Int)<=(k:Int):=by omega
        have i3:(k:Int)<(n:Int):=by omega
        by_cases hxm:x=m
        ·subst hxm;go_upto_region 14 with (fail)
         go_quiet (fail)
         go_wp2
         go_ret
         refine⟨j0j ?_,?_⟩
         ·rw[HC.o,HK.o.2,HS.o,if_neg (by simp[HE.o]),if_pos (q0l HX.o hqk)]
         ·exact a2.o.2.2.trans ((j0k (j0k a0 _) _).mono a2.o.2.2.size)
        ·have ai:=zQ9 hxm;cases f1:(x.n==m.n)<;>cases f2:(x.b==m.b)<;>cases f3:(x.p==m.p)
         case true.true.true =>
          exfalso;exact hxm (by cases x;cases m;simp at f1 f2 f3;simp[f1,f2,f3])
         all_goals
          clear hxm;go_upto_region 14 with (fail)
          go_quiet (fail)
          go_wp2
          go_roundg (gk-1)
          case measure=>have:=HQ.o.1;omega
          case rel=>exact⟨q+1,by have:=HQ.o.1;omega,by go_num,k6c HQ.o.2 HX.o ai.o,_,rfl⟩
       ·obtain rfl:q=k:=by omega
        go_wp2
        go_roundg (g1-1)
        case measure=>have:=HK.o.1;omega
        case rel =>
         refine⟨q+1,by have:=HK.o.1;omega,by go_num,?_,j0k a0 _⟩
         rw[HK.o.2,HS.o,if_neg (by simp[HE.o]),if_neg (by rw[HQ.o.2];simp)]
    ·obtain rfl:k=n:=by omega
     go_wp2
     go_ret
     exact⟨j0j (by rw[HC.o,HK.o.2,Nat.sub_self];rfl),a2.o.2.2.trans (a6.mono a2.o.2.2.size)⟩
  ·have h3:decide ((5:Int)<(n:Int))=true:=by simp;omega
   have a3:check t l=6:=by
    unfold check;rw[if_neg (by simp[h1]),if_pos (by omega)]
   have HC:=zQ9 a3;clear hl a3;go_enter Tryz.func108,Tryz.ntmps108
   go_wp2_with (go_at_call 121;refine(j6j _ _ _ _).mono ?_;rintro e w' ⟨rfl,rfl⟩)
   go_ret
   exact⟨j0j HC.o.symm,a5⟩
 ·have ag:btw t 0 2=false:=by simpa using h1
  have a3:check t l=1:=by
   unfold check;rw[if_pos ag]
  have HC:=zQ9 a3;clear hl a3 h1;go_enter Tryz.func108,Tryz.ntmps108
  go_wp2_with (go_at_call 121;refine(j6j _ _ _ _).mono ?_;rintro e w' ⟨rfl,rfl⟩)
  go_ret
  exact⟨j0j HC.o.symm,a5⟩
def j5j (s:Sg) (k:Nat):Bool:=(List.range k).any fun i=>j1q s.l s.r i&&bit s.n i
theorem k1p (s:Sg) (k:Nat):j5j s (k+1)=(j5j s k || (j1q s.l s.r k&&bit s.n k)):=by
 unfold j5j;rw[List.range_succ,List.any_append];simp
theorem k4l {s:Sg} (h0:0<=s.n) (h1:s.n<=255):j5j s 8=false↔onI s.n s.l s.r=s.n:=by
 constructor
 ·intro h;refine j5b (j5x _ _ _) (j3v _ _ _) h0 h1 fun i hi=>?_
  rw[j2s _ _ _ _ hi];have:=(List.any_eq_false.1 h) i (by simpa using hi)
  revert this;cases j1q s.l s.r i<;>cases bit s.n i<;>simp
 ·intro h;refine List.any_eq_false.2 fun i hi=>?_
  have a0:i<8:=by simpa using hi
  have:=j2s s.n s.l s.r i a0;rw[h] at this;revert this;cases j1q s.l s.r i<;>cases bit s.n i<;>simp
theorem k9a {s:Sg} {k:Nat} (hk:k<8) (h:(j1q s.l s.r k&&bit s.n k)=true):j5j s 8=true:=by
 refine List.any_eq_true.2 ⟨k,by simpa using hk,h⟩
theorem seen_ref {s:Sg}:seen s 9 6=if btw s.n 0 255=false then 1 else if j5j s 8 then 8 else if btw s.b (-1) 9&&btw s.p (-1) 6 then 0 else 1:=by
 unfold seen;by_cases h1:btw s.n 0 255=false
 ·rw[if_pos h1,if_pos h1]
 ·rw[if_neg h1,if_neg h1];rw[Bool.not_eq_false,j0o] at h1;by_cases h2:onI s.n s.l s.r=s.n
  ·rw[if_neg (by simp[h2]),(k4l h1.1 h1.2).2 h2]
   simp only[Bool.false_eq_true,if_false];have e3:(s.b≠-1∧btw s.b 0 9=false)↔btw s.b (-1) 9=false:=by rw[j9m,j9m];omega
   have e4:(s.p≠-1∧btw s.p 0 6=false)↔btw s.p (-1) 6=false:=by rw[j9m,j9m];omega
   simp only[e3,e4];cases btw s.b (-1) 9<;>cases btw s.p (-1) 6<;>rfl
  ·have h3:j5j s 8=true:=by
    rw[<-Bool.not_eq_false];exact fun h=>h2 ((k4l h1.1 h1.2).1 h)
   rw[if_pos h2,h3];rfl
theorem k2y (s:Sg) (w:World) :
 Calls Tryz.prog 87 #[vSg s] w fun e w'=>e=.returned (.int .i64 (seen s 9 6))∧Below w.heap.size w w':=by
 have HR:=zQ9 (seen_ref (s:=s));obtain⟨R,hR⟩:∃ R,R=seen s 9 6:=⟨_,rfl⟩;rw[<-hR];have a3:=zQ9 hR;clear hR;cases h1:btw s.n 0 255
 ·have HE:=zQ9 h1;go_enter Tryz.func87,Tryz.ntmps87
  unfold vSg;go_wp2_with (go_at_call 121;refine(j6j _ _ _ _).mono ?_;rintro e w' ⟨rfl,rfl⟩)
  go_ret
  exact⟨j0j (by rw[a3.o,HR.o,if_pos HE.o]),bal0 _ _⟩
 ·have hn:=j0o.1 h1;have HE:=zQ9 h1;obtain⟨aa,ac⟩:=hn;go_enter Tryz.func87,Tryz.ntmps87
  unfold vSg;go_wp2_with (go_at_call 121;refine(j6j _ _ _ _).mono ?_;rintro e w' ⟨rfl,rfl⟩)
  clear h1;obtain⟨W0,hW⟩:∃ W0,W0=w.alloc (.cells #[.int .i64 s.n,.bool s.l,.bool s.r,.int .i64 s.b,.int .i64 s.p] 31):=⟨_,rfl⟩;rw[<-hW];have a1:W0.heap[w.heap.size]?=some (.cells #[.int .i64 s.n,.bool s.l,.bool s.r,.int .i64 s.b,.int .i64 s.p] 31 (0,0)):=by rw[hW];exact j0c rfl
  have a9:Below w.heap.size w W0:=by rw[hW];exact bal0 w _
  clear hW;have HB:=zQ9 (zA9 a1 a9);clear a1 a9;go_loopg [3] 8 (fun g i wr=>∃ k:Nat,k+g=8∧i=.int .i64 k∧j5j s k=false∧Below W0.heap.size W0 wr)
  case atStart=>exact⟨0,by omega,rfl,rfl,zB2 _ _⟩
  case round =>
   obtain⟨k,hk,rfl,a5,a2⟩:=hrel;have HK:=zQ9 (zA9 hk a5);have a7:k<=8:=by omega
   clear hk a5;obtain⟨s0,s1,s2,s3,s4⟩:=blk5 (j0e HB.o.1 a2 (zL9 _));by_cases hlt:k<8
   ·have ad:(k:Int)<8:=by omega
    go_wp2_with fail
    refine(rTorn s k _ a7).mono ?_;rintro e w2 ⟨rfl,a6⟩;have a0:=a2.trans (a6.mono a2.size);clear s0 s1 s2 s3 s4 a6;obtain⟨s0,s1,s2,s3,s4⟩:=blk5 (j0e HB.o.1 a0 (zL9 _));cases ht:j1q s.l s.r k
    ·have HT:=zQ9 ht;go_wp2
     go_roundg (gk-1)
     case measure=>have:=HK.o.1;omega
     case rel=>exact⟨k+1,by have:=HK.o.1;omega,by go_num,by rw[k1p,HK.o.2,HT.o];rfl,a0⟩
    ·have HT:=zQ9 ht;go_wp2_with fail
     refine(rHas s.n k _ aa ac a7).mono ?_;rintro e w3 ⟨rfl,rfl⟩;cases hb:bit s.n k
     ·have a4:=zQ9 hb;go_wp2
      go_roundg (gk-1)
      case measure=>have:=HK.o.1;omega
      case rel=>exact⟨k+1,by have:=HK.o.1;omega,by go_num,by rw[k1p,HK.o.2,HT.o,a4.o];rfl,a0⟩
     ·have a4:=zQ9 hb;go_wp2
      go_ret
      have h8:=k9a hlt (show(j1q s.l s.r k&&bit s.n k)=true by rw[HT.o,a4.o];rfl)
      exact⟨j0j (by rw[a3.o,HR.o,if_neg (by rw[HE.o];simp),h8];rfl),HB.o.2.trans (a0.mono HB.o.2.size)⟩
   ·obtain rfl:k=8:=by omega
    cases h2:btw s.b (-1) 9<;>cases h3:btw s.p (-1) 6
    all_goals
     have a8:=zQ9 (zA9 h2 h3);go_wp2_with (go_at_call 121;refine(j6j _ _ _ _).mono ?_;rintro e w' ⟨rfl,rfl⟩)
     go_ret
     refine⟨j0j ?_,HB.o.2.trans (a2.mono HB.o.2.size)⟩;rw[a3.o,HR.o,if_neg (by rw[HE.o];simp),HK.o.2,a8.o.1,a8.o.2]
     rfl
def j5w (s:Sg) (m:Mk) (i:Nat):Bool:=!j1q s.l s.r i&&(bit m.n i&&!bit s.n i)
def j9a (s:Sg) (m:Mk) (i:Nat):Bool:=!j1q s.l s.r i&&(!bit m.n i&&bit s.n i)
def k0c (p:Nat->Bool) (k:Nat):Bool:=(List.range k).any p
def j8p (p:Nat->Bool) (k:Nat):Nat:=(List.range k).countP p
theorem j7c (p:Nat->Bool) (k:Nat):k0c p (k+1)=(k0c p k || p k):=by unfold k0c;rw[List.range_succ,List.any_append];simp
theorem j7d (p:Nat->Bool) (k:Nat):j8p p (k+1)=j8p p k+if p k then 1 else 0:=by
 unfold j8p;rw[List.range_succ,List.countP_append];cases h:p k<;>simp[h]
theorem cntTo_le (p:Nat->Bool) (k:Nat):j8p p k<=k:=by have:=List.countP_le_length (p:=p) (l:=List.range k);simpa[j8p] using this
theorem anyTo_at {p:Nat->Bool} {k:Nat} (hk:k<8) (h:p k=true):k0c p 8=true:=List.any_eq_true.2 ⟨k,by simpa using hk,h⟩
theorem fits_ref {s:Sg} {m:Mk} {t:Int} (hm:m.n<=255) (a3:0<=s.n) (a2:s.n<=255) (ho:onI s.n s.l s.r=s.n) :
 fits s m t=(j3w s m&&(!k0c (j5w s m) 8&&decide ((j8p (j9a s m) 8:Int)<=t))):=by
 have a0:∀ i,i<8->j1q s.l s.r i=true->bit s.n i=false:=fun i hi h=>by
  have:=j2s s.n s.l s.r i hi;rw[ho,h] at this;simpa using this
 have e1:decide (butI (onI m.n s.l s.r) s.n=0)=!k0c (j5w s m) 8:=by
  rw[Bool.eq_iff_iff,decide_eq_true_eq,k2q (j5g _ _) (j5f _ _)];simp only[Bool.not_eq_true'];constructor
  ·intro h;refine List.any_eq_false.2 fun i hi=>?_
   have a1:i<8:=by simpa using hi
   have:=h i a1;rw[j4o _ _ a2 i a1,j2s _ _ _ _ a1] at this;unfold j5w;revert this;cases bit m.n i<;>cases bit s.n i<;>cases j1q s.l s.r i<;>simp
  ·intro h i hi;have:=(List.any_eq_false.1 h) i (by simpa using hi)
   rw[j4o _ _ a2 i hi,j2s _ _ _ _ hi];unfold j5w at this;revert this;cases bit m.n i<;>cases bit s.n i<;>cases j1q s.l s.r i<;>simp
 have e2:popI (butI s.n (onI m.n s.l s.r))=j8p (j9a s m) 8:=by
  unfold popI;show cnt _=cnt _;refine q4e fun i hi=>?_
  rw[j4o _ _ (j3v _ _ _) i hi,j2s _ _ _ _ hi];unfold j9a;have:=a0 i hi;revert this;cases bit m.n i<;>cases bit s.n i<;>cases j1q s.l s.r i<;>simp
 unfold fits;rw[e1,e2,Bool.and_assoc]
theorem rFits (s:Sg) (m:Mk) (t:Int) (w:World) (ad:0<=m.n) (a7:m.n<=255) (aa:0<=s.n) (a8:s.n<=255) (ho:onI s.n s.l s.r=s.n) :
 Calls Tryz.prog 94 #[vSg s,vMk m,.int .i64 t] w fun e w'=>e=.returned (.bool (fits s m t))∧Below w.heap.size w w':=by
 have HF:=zQ9 (fits_ref (t:=t) a7 aa a8 ho);obtain⟨R,hR⟩:∃ R,R=fits s m t:=⟨_,rfl⟩;rw[<-hR];have a3:=zQ9 hR;clear hR ho;go_enter Tryz.func94,Tryz.ntmps94
 unfold vSg vMk;go_upto_region 1 with (fail)
 go_cut [30] (fun q wc=>q=.bool (!j3w s m)∧((w.alloc (.cells #[.int .i64 s.n,.bool s.l,.bool s.r,.int .i64 s.b,.int .i64 s.p] 31)).alloc (.cells #[.int .i64 m.n,.int .i64 m.b,.int .i64 m.p] 117))=wc)
 case first =>
  cases e1:(s.b != -1)<;>cases e2:(s.b != m.b)<;>cases e3:(s.p != -1)<;>cases e4:(s.p != m.p)
  all_goals
   go_wp2
   go_meet
   exact⟨by simp_all [j3w],rfl⟩
 case rest =>
  obtain⟨rfl,rfl⟩:=hcut;obtain⟨W0,hW⟩:∃ W0,W0=(w.alloc (.cells #[.int .i64 s.n,.bool s.l,.bool s.r,.int .i64 s.b,.int .i64 s.p] 31)).alloc (.cells #[.int .i64 m.n,.int .i64 m.b,.int .i64 m.p] 117):=⟨_,rfl⟩;rw[<-hW];have a6:Below w.heap.size w W0:=by rw[hW];exact bal (bal0 w _) (zL9 _) _
  have b0:W0.heap[w.heap.size]?=some (.cells #[.int .i64 s.n,.bool s.l,.bool s.r,.int .i64 s.b,.int .i64 s.p] 31 (0,0)):=by rw[hW];exact j0b (j0c rfl) _
  have b1:W0.heap[w.heap.size+1]?=some (.cells #[.int .i64 m.n,.int .i64 m.b,.int .i64 m.p] 117 (0,0)):=by rw[hW];exact j0c (by simp)
  clear hW;have HB:=zQ9 (zA9 b0 (zA9 b1 a6));clear b0 b1 a6;cases hal:j3w s m
  ·have HE:=zQ9 hal;go_wp2
   go_ret
   exact⟨j0s (by rw[a3.o,HF.o,HE.o];rfl),HB.o.2.2⟩
  ·have HE:=zQ9 hal;clear hal;simp only[Bool.not_true];go_wp2_with fail
   go_loopg [7,8] 8 (fun g x i wr=>∃ k:Nat,k+g=8∧i=.int .i64 k∧∃ q:Nat,x=.int .i64 q∧q=j8p (j9a s m) k∧k0c (j5w s m) k=false∧Below W0.heap.size W0 wr)
   case atStart=>exact⟨0,by omega,rfl,0,rfl,rfl,rfl,zB2 _ _⟩
   case round =>
    obtain⟨k,hk,rfl,q,rfl,hq,a4,a2⟩:=hrel;have ac:q<=k:=by rw[hq];exact cntTo_le _ _
    have HK:=zQ9 (zA9 hk (zA9 hq a4));have a1:k<=8:=by omega
    clear hk hq a4;obtain⟨s0,s1,s2,s3,s4⟩:=blk5 (j0e HB.o.1 a2 (zL9 _));by_cases hlt:k<8
    ·have a9:(k:Int)<8:=by omega
     go_wp2_with fail
     refine(rTorn s k _ a1).mono ?_;rintro e w2 ⟨rfl,a5⟩;have a0:=a2.trans (a5.mono a2.size);clear s0 s1 s2 s3 s4 a5;obtain⟨s0,s1,s2,s3,s4⟩:=blk5 (j0e HB.o.1 a0 (zL9 _));obtain⟨m0,m1,m2⟩:=blk3 (j0e HB.o.2.1 a0 (zL9 _));cases ht:j1q s.l s.r k
     ·cases hbm:bit m.n k<;>cases hbs:bit s.n k
      ·have HT:=zQ9 (zA9 ht (zA9 hbm hbs));go_wp2_with (go_at_call 123;refine(rHas _ k _ (by assumption) (by assumption) a1).mono ?_;rintro e w3 ⟨rfl,rfl⟩)
       go_roundg (gk-1)
       case measure=>have:=HK.o.1;omega
       case rel=>exact⟨k+1,by have:=HK.o.1;omega,by go_num,q,rfl,by rw[j7d,HK.o.2.1];simp[j9a,HT.o.1,HT.o.2.1,HT.o.2.2],by rw[j7c,HK.o.2.2];simp[j5w,HT.o.1,HT.o.2.1,HT.o.2.2],a0⟩
      ·have HT:=zQ9 (zA9 ht (zA9 hbm hbs));go_wp2_with (go_at_call 123;refine(rHas _ k _ (by assumption) (by assumption) a1).mono ?_;rintro e w3 ⟨rfl,rfl⟩)
       go_roundg (gk-1)
       case measure=>have:=HK.o.1;omega
       case rel=>exact⟨k+1,by have:=HK.o.1;omega,by go_num,q+1,by go_num,by rw[j7d,HK.o.2.1];simp[j9a,HT.o.1,HT.o.2.1,HT.o.2.2],by rw[j7c,HK.o.2.2];simp[j5w,HT.o.1,HT.o.2.1,HT.o.2.2],a0⟩
      ·have HT:=zQ9 (zA9 ht (zA9 hbm hbs));go_wp2_with (go_at_call 123;refine(rHas _ k _ (by assumption) (by assumption) a1).mono ?_;rintro e w3 ⟨rfl,rfl⟩)
       go_ret
       have h8:=anyTo_at (p:=j5w s m) hlt (by simp[j5w,HT.o.1,HT.o.2.1,HT.o.2.2])
       exact⟨j0s (by rw[a3.o,HF.o,h8];simp),HB.o.2.2.trans (a0.mono HB.o.2.2.size)⟩
      ·have HT:=zQ9 (zA9 ht (zA9 hbm hbs));go_wp2_with (go_at_call 123;refine(rHas _ k _ (by assumption) (by assumption) a1).mono ?_;rintro e w3 ⟨rfl,rfl⟩)
       go_roundg (gk-1)
       case measure=>have:=HK.o.1;omega
       case rel=>exact⟨k+1,by have:=HK.o.1;omega,by go_num,q,rfl,by rw[j7d,HK.o.2.1];simp[j9a,HT.o.1,HT.o.2.1,HT.o.2.2],by rw[j7c,HK.o.2.2];simp[j5w,HT.o.1,HT.o.2.1,HT.o.2.2],a0⟩
     ·have HT:=zQ9 ht;go_wp2
      go_roundg (gk-1)
      case measure=>have:=HK.o.1;omega
      case rel=>exact⟨k+1,by have:=HK.o.1;omega,by go_num,q,rfl,by rw[j7d,HK.o.2.1];simp[j9a,HT.o],by rw[j7c,HK.o.2.2];simp[j5w,HT.o],a0⟩
    ·obtain rfl:k=8:=by omega
     go_wp2
     go_ret
     exact⟨j0s (by rw[a3.o,HF.o,HE.o,HK.o.2.2,<-HK.o.2.1];simp),HB.o.2.2.trans (a2.mono HB.o.2.2.size)⟩
theorem rMayB (t:Int) (A:Option Addr) (n c:Nat) (l:List Mk) (s:Sg) (w:World) (hl:Marks w A n l) (hn:n<=4294967295) (hs:0<=s.n) (ah:s.n<=255) (ho:onI s.n s.l s.r=s.n) (hv:∀ m∈l,0<=m.n∧m.n<=255) :
 Calls Tryz.prog 142 #[.agg #[.int .i64 t,.slice A n c],vSg s] w fun e w'=>∃ v,e=.returned v∧OwnI w' w.heap.size v (mayL t l s)∧Below w.heap.size w w':=by
 have HV:=zQ9 (zA9 hv ho);have HL:=zQ9 hl.len;obtain⟨W0,hW⟩:∃ W0,W0=(w.alloc (.cells #[.int .i64 t,.slice A n c] 24)).alloc (.cells #[.int .i64 s.n,.bool s.l,.bool s.r,.int .i64 s.b,.int .i64 s.p] 31):=⟨_,rfl⟩;have a5:Below w.heap.size w W0:=by rw[hW];exact bal (bal0 w _) (zL9 _) _
 have b2:W0.heap[w.heap.size]?=some (.cells #[.int .i64 t,.slice A n c] 24 (0,0)):=by rw[hW];exact j0b (j0c rfl) _
 have b3:W0.heap[w.heap.size+1]?=some (.cells #[.int .i64 s.n,.bool s.l,.bool s.r,.int .i64 s.b,.int .i64 s.p] 31 (0,0)):=by rw[hW];exact j0c (by simp)
 have ac:=hl.below a5 (zL9 _);clear hv ho hl;go_enter Tryz.func142,Tryz.ntmps142
 unfold vSg;go_wp2_with fail
 rw[<-hW];clear hW;have ak:w.heap.size+1<W0.heap.size:=j0a b3;have HB:=zQ9 (zA9 b2 (zA9 b3 (zA9 a5 ac)));clear b2 b3 a5 ac;go_loopg [5,6] n (fun g v i wr=>∃ k:Nat,k+g=n∧i=.int .i64 k∧OwnI wr W0.heap.size v (j3y t l s k)∧Below W0.heap.size W0 wr)
 case atStart=>exact⟨0,by omega,rfl,Own.nil_,zB2 _ _⟩
 case round =>
  obtain⟨k,hk,rfl,a4,a3⟩:=hrel;have HK:=zQ9 (zA9 hk a4);have an:k<=n:=by omega
  clear hk a4;have hz:=a3.size;obtain⟨r0,r1⟩:=blk2 (j0e HB.o.1 a3 (zL9 _));obtain⟨s0,s1,s2,s3,s4⟩:=blk5 (j0e HB.o.2.1 a3 (zL9 _));by_cases hlt:k<n
  ·obtain⟨b,off,m,rfl,hb,hm,c0,c1,c2⟩:=Marks.get (HB.o.2.2.2.below a3 (zL9 _)) hlt;have HM:=zQ9 hm;have a9:=HV.o.1 m (zB4 hm);clear hm;have i0:(0:Int)<=(k:Int):=by omega
   have i1:(k:Int)<(n:Int):=by omega
   go_upto_region 5 with (fail)
   have k0:=cell_regrown r0;have k1:=cell_regrown r1;have k2:=cell_regrown s0;have k3:=cell_regrown s1;have k4:=cell_regrown s2;have k5:=cell_regrown s3;have k6:=cell_regrown s4;have k7:=cell_regrown c0;have k8:=cell_regrown c1;have k9:=cell_regrown c2;have cF:∀ d os,Calls Tryz.prog 94 #[vSg s,vMk m,.int .i64 t] (Sort.grow (redrawn wr d) os) (fun e w''=>e=.returned (.bool (fits s m t))∧∃ p:Regrown,w''=Sort.grow (redrawn wr p.d) p.os):=fun d os =>
    Calls.regrown_of (rFits s m t _ a9.1 a9.2 hs ah HV.o.2)
   unfold vMk vSg at cF;have ad:=zQ9 cF;clear cF;refine wp_region_quiet_below (by kernel_rfl) (by kernel_rfl) ?_
   repeat (quiet_step (exact ad.o _ _))
   refine wpQuiet_nil ?_;intro _ ag;obtain⟨⟨dq,a8⟩,a7⟩:=ag;subst a7;obtain⟨w1,a6⟩:∃ w1,w1=Sort.grow (redrawn wr dq) a8:=⟨_,rfl⟩;have aa:Below wr.heap.size wr w1:=by rw[a6];exact below_regrown wr dq a8
   rw[<-a6];clear a6 k0 k1 k2 k3 k4 k5 k6 k7 k8 k9;have a2:Below W0.heap.size W0 w1:=a3.trans (aa.mono hz);have a1:=zQ9 (HK.o.2.below aa (zL9 _));have af:=j8y t l s k;have HS:=zQ9 (k4u (t:=t) (s:=s) HM.o);have ae:=a2.size;cases hf:fits s m t
   all_goals
    go_wp2_with (at_builtin;refine j6b j3b rfl (.tmp 23) (.tmp 25) rfl W0.heap.size _ (j3y t l s k) (k:Int) _ rfl rfl rfl rfl (j1x _) a1.o ?_ ?_ ?_ ?_;(omega);(omega);(omega);intro v' w2 a0 aj _ am;have ai:=zQ9 a0;clear a0)
    go_roundg (gk-1)
    case measure=>have:=HK.o.1;omega
   ·exact⟨k+1,by have:=HK.o.1;omega,by go_num,by rw[HS.o,hf];simpa using a1.o,a2⟩
   ·exact⟨k+1,by have:=HK.o.1;omega,by go_num,by rw[HS.o,hf];simpa using ai.o,a2.trans aj⟩
  ·obtain rfl:k=n:=by omega
   go_wp2
   go_ret
   exact⟨_,rfl,by unfold mayL;rw[HL.o];exact HK.o.2.mono (by omega),HB.o.2.2.1.trans (a3.mono (by omega))⟩
end Go.Proofs.YtmennjmjakdkcaaGreat
