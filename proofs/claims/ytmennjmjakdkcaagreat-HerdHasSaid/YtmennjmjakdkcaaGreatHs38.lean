/- HerdHas. -/
import Derived.Test.YtmennjmjakdkcaaGreatHs37
import Derived.Deep.Slices
import Derived.Deep.Fields
import Derived.Deep.Strs
import Derived.ChangeSame
set_option linter.unusedVariables false
set_option linter.unusedSimpArgs false
set_option maxRecDepth 400000
set_option maxHeartbeats 40000000
namespace Go.Proofs.YtmennjmjakdkcaaGreat
open Go.RowKit
theorem HerdHas_any (b:Hb) (d:De) (owner:Int) (A:Option Addr) (n c:Nat) (nums:List Int) (w:World) (hin:HbIn w b) (hz:HbZ w b) (hi:Ints w A n nums) (hn:n≤9223372036854775807) :
 Calls Tryz.prog 6 #[b.v,dv d,.int .i64 owner,.slice A n c] w fun e w'=>e=.returned (.bool true)∧Below w.heap.size w w':=by
 obtain⟨V,hV⟩:∃ V,V=(w.alloc b.obj).alloc (dObj d):=⟨_,rfl⟩
 obtain⟨p,hp⟩:∃ p,p=w.heap.size:=⟨_,rfl⟩
 have hB0:DB9 w b d p V:=by rw[hV,hp];exact DB9.start w b d
 have HI:=zQ9 (zA9 (hin.below hB0.2.2 (zL9 _)) (zA9 (hz.below hB0.2.2 (zL9 _)) (hi.below hB0.2.2 (zL9 _))))
 have HB:=zQ9 hB0
 obtain⟨c0,c1,c2,c3,c4⟩:=j0h HB.out.1
 have hlp:=j0a HB.out.1
 have hla:=q4f b V HI.out.1
 obtain⟨R,hR⟩:∃ R,R=k7n b V:=⟨_,rfl⟩
 rw[←hR] at hla
 have HR:=zQ9 hR
 unfold Hb.v at hla
 unfold Hb.v dv
 clear hB0 hin hz hi hR
 go_enter Tryz.func6,Tryz.ntmps6
 go_upto_region 1 with (fail)
 rw[show(w.alloc (Obj.cells #[Value.int .i64 b.t,b.vm,b.vk,b.vh,b.vd] 29)).alloc (Obj.cells #[Value.int .i64 d.kind,.int .i64 d.flock,.int .i64 d.owner,.int .i64 d.other,.int .i64 d.tof,.int .i64 d.many,.int .i64 d.err,.int .i64 d.s.n,.bool d.s.l,.bool d.s.r,.int .i64 d.s.b,.int .i64 d.s.p] 33)=V from hV.symm,←hp]
 clear hV hp
 go_upto_if 33 with (go_at_call 7;(with_reducible refine hla.mono ?_);rintro e w1 hL;rw[HR.out] at hL;obtain⟨q,rfl,hq,hb1⟩:=hL;have HQ:=zQ9 hq;have HB1:=zQ9 hb1;clear hq hb1)
 clear hla
 cases q
 case true =>
  go_wp2_with (go_at_call 8;(with_reducible refine(k2k _).mono ?_);rintro e w2 ⟨rfl,hb2⟩;have HB2:=zQ9 hb2;clear hb2)
  go_ret
  exact⟨rfl,(HB.out.2.2.trans (HB1.out.mono HB.out.2.2.size)).trans (HB2.out.mono (HB.out.2.2.trans (HB1.out.mono HB.out.2.2.size)).size)⟩
 have HS:=zQ9 (HQ.out rfl)
 have hnh:=q0c A n c nums w1 (HI.out.2.2.below HB1.out (zL9 _)) hn
 clear HQ c0 c1 c2 c3 c4 hlp
 go_upto_region 4 with (go_at_call 9;(with_reducible refine hnh.mono ?_);rintro e w2 ⟨rfl,hh,hb2,hz2⟩;have H2:=zQ9 (zA9 hh (zA9 hb2 hz2));clear hh hb2 hz2)
 obtain⟨H,hH⟩:∃ H,H=w1.heap.size:=⟨_,rfl⟩
 have hho:=q1w w1.heap.size 0 3 3 5 w2 H2.out.1 (by omega) (by omega) (by omega) (by omega)
 rw[←hH] at hho ⊢
 obtain⟨R2,hR2⟩:∃ R,R=HerdR w2 H (0+200000) 3 3 5:=⟨_,rfl⟩
 rw[←hR2] at hho
 have HR2:=zQ9 (zA9 hR2 hH)
 clear hnh hR2 hH
 go_upto_region 5 with (go_at_call 10;refine hho.mono ?_;rintro e w3 hM;rw[HR2.out.1] at hM;obtain⟨M,rfl,hck,hln,hkn,hdn,hO,hd3⟩:=hM;have H3:=zQ9 (zA9 hck (zA9 hO hd3));clear hck hln hkn hdn hO hd3;unfold Hb.v)
 clear hho
 obtain⟨m,hm⟩:∃ m,m=w3.heap.size:=⟨_,rfl⟩
 obtain⟨w4,hw4⟩:∃ w4,w4=w3.alloc M.obj:=⟨_,rfl⟩
 rw[show w3.alloc (Obj.cells #[Value.int .i64 M.t,.slice M.A M.l.length M.c,.slice M.Ak M.ks.length M.ck,.slice M.Ah M.hs.length M.ch,.slice M.Ad M.ds.length M.cd] 29)=w4 from hw4.symm,←hm]
 have hok:=j3a H3.out.1
 have hHsz:H<w2.heap.size:=by have:=H2.out.2.2;have:=HR2.out.2;omega
 have hb4:Below w3.heap.size w3 w4:=by rw[hw4];exact bal0 w3 _
 have bM4:w4.heap[m]?=some M.obj:=by rw[hw4,hm];exact j0c rfl
 have hO4:HbO w4 w2.heap.size M:=H3.out.2.1.below hb4 (zL9 _)
 have hB14:Below w1.heap.size w1 w4:=(H2.out.2.1.trans (H3.out.2.2.below (by rw[HR2.out.2];exact zL9 _) (H2.out.2.1.size))).trans (hb4.mono (Nat.le_trans H2.out.2.1.size H3.out.2.2.gr.size))
 have hhd4:Hd w4 H (0+200000):=by rw[hw4];exact H3.out.2.2.hd.alloc _
 have hcp:=k0x M w4 hO4.inn hO4.z (by have:=hok.n5;omega) (by have:=hok.f3;omega) (by have:=hok.f3;have:=hok.hl;omega) (by have:=hok.d6;omega) (fun r hr=>by have:=hok.rl r hr;have:=hok.n5;omega)
 unfold Hb.v at hcp
 have hd6:=hok.d6
 have hn5:=hok.n5
 have hm3:w3.heap.size≤m:=by omega
 have H4:=zQ9 (zA9 bM4 (zA9 hO4 (zA9 hB14 (zA9 hhd4 (zA9 hok (zA9 hHsz hb4))))))
 obtain⟨c0,c1,c2,c3,c4⟩:=j0h bM4
 have hlm:=j0a bM4
 clear hw4 hm bM4 hO4 hB14 hhd4 hok hb4
 obtain⟨R5,hR5⟩:∃ R,R=k7o M w4:=⟨_,rfl⟩
 rw[←hR5] at hcp
 have HR5:=zQ9 hR5
 clear hR5
 go_upto_region 6 with (go_at_call 11;(with_reducible refine hcp.mono ?_);rintro e w5 hM;rw[HR5.out] at hM;obtain⟨⟨A1,a1,Ak,ak,Ah,ah,Ad,ad,rfl,hO⟩,hb5⟩:=hM;have H5:=zQ9 (zA9 hO hb5);clear hO hb5;unfold Hb.v;dsimp only)
 clear hcp
 obtain⟨q,hq⟩:∃ q,q=w5.heap.size:=⟨_,rfl⟩
 obtain⟨w6,hw6⟩:∃ w6,w6=w5.alloc (Obj.cells #[Value.int .i64 M.t,.slice A1 M.l.length a1,.slice Ak M.ks.length ak,.slice Ah M.hs.length ah,.slice Ad M.ds.length ad] 29):=⟨_,rfl⟩
 rw[←hw6,←hq]
 have q6:w6.heap[q]?=some (Hb.obj ⟨M.t,A1,a1,M.l,Ak,ak,M.ks,Ah,ah,M.hs,Ad,ad,M.ds⟩):=by rw[hw6,hq];exact j0c rfl
 have hb6:Below w4.heap.size w4 w6:=by rw[hw6];exact bal H5.out.2 (zL9 _) _
 have hO6:HbO w6 w4.heap.size ⟨M.t,A1,a1,M.l,Ak,ak,M.ks,Ah,ah,M.hs,Ad,ad,M.ds⟩:=by rw[hw6];exact H5.out.1.below (bal0 w5 _) (zL9 _)
 have hsq:w4.heap.size≤q:=by rw[hq];exact H5.out.2.size
 have hB16:Below w1.heap.size w1 w6:=H4.out.2.2.1.trans (hb6.mono H4.out.2.2.1.size)
 have hBV6:Below V.heap.size V w6:=HB1.out.trans (hB16.mono HB1.out.size)
 have hdl:M.ds.length<4294967296:=by omega
 obtain⟨z0,z1,z2,z3,z4,z5,z6,z7,z8,z9,z10,z11⟩:=blkD (j0e HB.out.2.1 hBV6 (zL9 _))
 have hlz:=j0a (j0e HB.out.2.1 hBV6 (zL9 _))
 have H6:=zQ9 (zA9 q6 (zA9 hb6 (zA9 hO6 (zA9 hB16 hBV6))))
 clear c0 c1 c2 c3 c4 hlm
 obtain⟨c0,c1,c2,c3,c4⟩:=j0h H6.out.1
 have fq:=frz H6.out.1 4
 have hlq:=j0a H6.out.1
 clear hw6 hq q6 hb6 hO6 hB16 hBV6
 go_upto_region 7 with (at_builtin;refine k2d k8s rfl (.tmp 42) (.tmp 44) rfl w4.heap.size _ M.ds d _ rfl rfl rfl rfl (k5j _) H6.out.2.2.1.d hdl ?_ ?_ ?_;(decide);(have:=H6.out.2.1.size;omega);intro gd cd w7 hod hgd hb7;have hqo:(Hb.vd ⟨M.t,A1,a1,M.l,Ak,ak,M.ks,Ah,ah,M.hs,Ad,ad,M.ds⟩).ownBlock≠some q:=H6.out.2.2.1.d.ne' H6.out.1 (by decide);have q7:w7.heap[q]?=_:=(hgd.block q hlq (fun e=>hqo e.symm)).trans H6.out.1;have k4:=(blk5 q7).2.2.2.2;have fq7:=frz q7 4;have hlq7:=j0a q7;have H7:=zQ9 (zA9 hod (zA9 hgd hb7));clear q7 hod hgd hb7 hqo)
 obtain⟨w8,hw8⟩:∃ w8,w8=w7.setCell ⟨q,4,none⟩ (.slice (some ⟨gd,0,none⟩) (M.ds.length+1) cd):=⟨_,rfl⟩
 rw[←hw8]
 obtain⟨O,hOo⟩:∃ O:Hb,O=⟨M.t,A1,a1,M.l,Ak,ak,M.ks,Ah,ah,M.hs,some ⟨gd,0,none⟩,cd,M.ds++[d]⟩:=⟨_,rfl⟩
 obtain⟨q8,hO8,hb8⟩:=app_book H6.out.1 H6.out.2.2.1 hsq H7.out.1 H7.out.2.1 H7.out.2.2 hw8
 rw[←hOo] at q8 hO8
 have hB48:Below w4.heap.size w4 w8:=H6.out.2.1.trans hb8
 have hB18:Below w1.heap.size w1 w8:=H4.out.2.2.1.trans (hB48.mono H4.out.2.2.1.size)
 have hBV8:Below V.heap.size V w8:=HB1.out.trans (hB18.mono HB1.out.size)
 have hH4:H<w4.heap.size:=Nat.lt_of_lt_of_le hHsz (Nat.le_trans H3.out.2.2.gr.size H4.out.2.2.2.2.2.2.size)
 have hhd8:Hd w8 H (0+200000):=H4.out.2.2.2.1.kept fun j hj=>hB48.block j (by omega)
 have hst:∀ W,w8.grownBy W (some H)→W.heap[p]?=some b.obj∧W.heap[m]?=some M.obj∧W.heap[q]?=some O.obj:=fun W hg=>by
  have h1:V.heap.size≤H:=by rw[HR2.out.2];exact HB1.out.size
  have h2:=j0a HB.out.1
  have h3:H<m:=by have:=H3.out.2.2.gr.size;omega
  refine⟨(hg.block p (by have:=hBV8.size;omega) (fun e=>by injection e with e;omega)).trans (j0e HB.out.1 hBV8 (zL9 _)),(hg.block m (by have:=hB48.size;have:=j0a H4.out.1;omega) (fun e=>by injection e with e;omega)).trans (j0e H4.out.1 hB48 (zL9 _)),(hg.block q (j0a q8) (fun e=>by injection e with e;omega)).trans q8⟩
 have HST:=zQ9 hst
 have HHD:=zQ9 hhd8
 have hHl:=hhd8.lt
 have hpl:p<w8.heap.size:=j0a (hst w8 (World.grownBy.refl _ _)).1
 have hml:m<w8.heap.size:=j0a (hst w8 (World.grownBy.refl _ _)).2.1
 have hql:q<w8.heap.size:=j0a q8
 have H8:=zQ9 (zA9 hOo (zA9 hO8 (zA9 hB48 (zA9 hB18 (zA9 hBV8 hH4)))))
 clear hw8 hOo q8 hO8 hb8 hB48 hB18 hBV8 hhd8 hst k4 fq7 hlq7 c0 c1 c2 c3 c4 z0 z1 z2 z3 z4 z5 z6 z7 z8 z9 z10 z11 hlq hlz fq hH4 hHsz
 refine hs_lists w8 b M O p H m q (0+200000) owner _ _ _ _ _ _ _ _ _ _ _ _ _ _ _ _ _ _ _ _ _ _ _ _ _ _ _ _ _ _ _ _ _ _ _ _ _ _ _ _ _ _ _ _ _ _ _ _ _ _ _ _ _ _ _ _ _ _ _ _ _ _ _ _ _ _ _ _ _ _ _ _ _ _ _ _ _ _ _ _ _ _ _ _ _ _ _ _ _ _ _ _ _ _ _ _ _ _ _ _ _ _ _ _ _ _ _ _ _ _ _ _ _ _ _ _ _ _ _ _ _ _ _ _ _ _ _ _ _ _ _ _ _ _ _ _ _ _ _ _ _ _ _ _ _ _ _ _ _ _ _ _ _ _ _ _ _ _ _ _ _ _ _ _ _ _ _ _ _ _ _ _ _ _ _ _ _ _ _ _ _ _ _ _ _ _ _ _ _ _ _ _ _ _ _ _ _ _ _ _ _ HST HHD (by omega) (by omega) hHl hpl hml hql ?_
 intro x47 x48 x49 x50 x51 x52 x53 x54 x55 x56 x57 x58 x59 x60 r s u w9 hr hs hrz hsz hg9
 have hB49:w8.grownBy w9 (some H):=hg9
 have hHV:V.heap.size≤H:=by rw[HR2.out.2];exact HB1.out.size
 have hBV9:Below V.heap.size V w9:=H8.out.2.2.2.2.1.grown hg9 H8.out.2.2.2.2.1.size (fun k e=>by cases e;exact hHV)
 have hiM:HbO w9 w2.heap.size M:=(H4.out.2.1.below H8.out.2.2.1 (zL9 _)).keptH hg9 H4.out.2.2.2.2.2.1
 have hiO:HbO w9 w4.heap.size O:=H8.out.2.1.keptH hg9 H8.out.2.2.2.2.2
 have hok:=H4.out.2.2.2.2.1
 have hL:∀ i,i<3→∃ (X:Hb) (so:Int),(∀ W,Below w9.heap.size w9 W→(W.cell? ⟨r,0+i*5,none⟩=some (.int .i64 X.t)∧W.cell? ⟨r,0+i*5+1,none⟩=some X.vm∧W.cell? ⟨r,0+i*5+2,none⟩=some X.vk∧W.cell? ⟨r,0+i*5+3,none⟩=some X.vh∧W.cell? ⟨r,0+i*5+4,none⟩=some X.vd)∧HbIn W X∧HbZ W X∧W.cell? ⟨s,0+i,none⟩=some (.int .i64 so))∧X.l.length≤1000∧X.ks.length≤1000∧X.hs.length≤1000∧X.ds.length≤1000∧(∀ r∈X.hs,r.length≤1000):=fun i hi=>by
  obtain⟨X,hX,hcl⟩:=bs3_at hr hi
  obtain⟨so,hso,hcs⟩:=os3_at hs hi
  have hall:HbIn w9 X∧HbZ w9 X∧X.l.length≤1000∧X.ks.length≤1000∧X.hs.length≤1000∧X.ds.length≤1000∧(∀ r∈X.hs,r.length≤1000):=by
   have hm:X=b∨X=M∨X=O:=by
    have:=List.mem_of_getElem? hX
    simpa using this
   rcases hm with rfl|rfl|rfl
   ·exact⟨HI.out.1.below hBV9 (zL9 _),HI.out.2.1.below hBV9 (zL9 _),by have:=HS.out.l;omega,by have:=HS.out.k;omega,by have:=HS.out.h;omega,by have:=HS.out.d;omega,fun r hr=>by have:=HS.out.r r hr;omega⟩
   ·exact⟨hiM.inn,hiM.z,by omega,by have:=hok.f3;omega,by have:=hok.f3;have:=hok.hl;omega,by omega,fun r hr=>by have:=hok.rl r hr;omega⟩
   ·have e:=H8.out.1
    have e1:X.l=M.l:=by rw[e]
    have e2:X.ks=M.ks:=by rw[e]
    have e3:X.hs=M.hs:=by rw[e]
    have e4:X.ds=M.ds++[d]:=by rw[e]
    exact⟨hiO.inn,hiO.z,by rw[e1];omega,by rw[e2];have:=hok.f3;omega,by rw[e3];have:=hok.f3;have:=hok.hl;omega,by rw[e4,List.length_append,List.length_singleton];omega,fun r hr=>by rw[e3] at hr;have:=hok.rl r hr;omega⟩
  obtain⟨h1,h2,h3⟩:=hall
  exact⟨X,so,fun W hW=>⟨hcl W hW,h1.below hW (zL9 _),h2.below hW (zL9 _),hcs W hW⟩,h3⟩
 have HL:=zQ9 hL
 have hrl:=j0a hr
 have hsl:=j0a hs
 have H9:=zQ9 (HB.out.2.2.trans (hBV9.mono HB.out.2.2.size))
 clear hB49 hHV hBV9 hiM hiO hok hL hr hs hrz hsz hg9 hpl hml hql hHl hm3 hd6 hn5 hdl
 go_upto_region 9 with (fail)
 go_loopg [14,15,16,17,18,19,20,21,22,23,24,25,26,27,28,29,30,31] 3 (fun gh v14 _ _ _ _ _ _ _ _ _ _ _ _ _ _ _ _ _ wr=>∃ i:Nat,i+gh=3∧v14=.int .i64 i∧Below w9.heap.size w9 wr)
 case atStart=>exact⟨0,by omega,rfl,Below.refl _ _⟩
 case round =>
  obtain⟨i,hi,rfl,hbr⟩:=hrel
  obtain⟨wr0,hwr⟩:∃ W:World,W=wr:=⟨_,rfl⟩
  rw[←hwr] at hbr ⊢
  clear hwr
  by_cases hlt:i<3
  ·obtain⟨X,so,hX,hl1,hk1,hh1,hd1,hr1⟩:=HL.out i hlt
   obtain⟨⟨x0,x1,x2,x3,x4⟩,hiX,hzX,s0⟩:=hX wr0 hbr
   rw[Nat.zero_add] at x0 x1 x2 x3 x4
   have hcp:=k0x X wr0 hiX hzX hl1 hk1 hh1 hd1 hr1
   unfold Hb.v at hcp
   obtain⟨RX,hRX⟩:∃ R,R=k7o X wr0:=⟨_,rfl⟩
   rw[←hRX] at hcp
   have HRX:=zQ9 hRX
   have hzr:=hbr.size
   have i1:(i:Int)<3:=by omega
   have HK:=zQ9 (zA9 hi (zA9 hbr hX))
   clear hRX hi hbr hX hiX hzX hl1 hk1 hh1 hd1 hr1 s0
   go_upto_region 12 with (go_at_call 11;(with_reducible refine hcp.mono ?_);rintro e w10 hM;rw[HRX.out] at hM;obtain⟨⟨A1,a1,Ak,ak,Ah,ah,Ad,ad,rfl,hO⟩,hb10⟩:=hM;have H10:=zQ9 (zA9 hO hb10);clear hO hb10;unfold Hb.v;dsimp only)
   clear hcp x0 x1 x2 x3 x4
   obtain⟨Y,hY⟩:∃ Y:Hb,Y=⟨X.t,A1,a1,X.l,Ak,ak,X.ks,Ah,ah,X.hs,Ad,ad,X.ds⟩:=⟨_,rfl⟩
   obtain⟨q,hq⟩:∃ q,q=w10.heap.size:=⟨_,rfl⟩
   obtain⟨w11,hw11⟩:∃ w11,w11=w10.alloc Y.obj:=⟨_,rfl⟩
   rw[show w10.alloc (Obj.cells #[Value.int .i64 X.t,.slice A1 X.l.length a1,.slice Ak X.ks.length ak,.slice Ah X.hs.length ah,.slice Ad X.ds.length ad] 29)=w11 by rw[hw11,hY],←hq]
   have q11:w11.heap[q]?=some Y.obj:=by rw[hw11,hq];exact j0c rfl
   have hb11:Below wr0.heap.size wr0 w11:=by rw[hw11];exact bal H10.out.2 (zL9 _) _
   have hiY:HbIn w11 Y:=by rw[hw11,hY];exact H10.out.1.inn.below (bal0 w10 _) (zL9 _)
   have hB11:Below w9.heap.size w9 w11:=HK.out.2.1.trans (hb11.mono HK.out.2.1.size)
   have HQ:=zQ9 (fun W (hW:Below w11.heap.size w11 W)=>show W.heap[q]?=some Y.obj∧HbIn W Y∧Below w9.heap.size w9 W from⟨j0e q11 hW (zL9 _),hiY.below hW (zL9 _),hB11.trans (hW.mono hB11.size)⟩)
   obtain⟨c0,c1,c2,c3,c4⟩:=j0h q11
   have hlq:=j0a q11
   have hzs:s<w11.heap.size:=by have:=hB11.size;omega
   have hzt:r<w11.heap.size:=by have:=hB11.size;omega
   have HY:=zQ9 hY
   clear hw11 hq q11 hb11 hiY hB11 hY
   obtain⟨te,hte⟩:∃ te,te=askE X:=⟨_,rfl⟩
   obtain⟨T1,hT1⟩:∃ T,T=hasR X:=⟨_,rfl⟩
   obtain⟨O1,hO1⟩:∃ T,T=k0n X:=⟨_,rfl⟩
   obtain⟨Q1,hQ1⟩:∃ T,T=j8l X:=⟨_,rfl⟩
   obtain⟨G1,hG1⟩:∃ T,T=(if askE X=0 then giftsL X.ks (hasR X) else []):=⟨_,rfl⟩
   have HTE:=zQ9 (zA9 hte (zA9 hT1 (zA9 hO1 (zA9 hQ1 hG1))))
   have e1:(te==te)=true:=by simp
   have hq11:=hlq
   clear hte hT1 hO1 hQ1 hG1 c0 c1 c2 c3 c4 hlq
   obtain⟨c0,c1,c2,c3,c4⟩:=j0h (HQ.out w11 (Below.refl w11.heap.size w11)).1
   have hlq:=j0a (HQ.out w11 (Below.refl w11.heap.size w11)).1
   have hcl:Calls Tryz.prog 29 #[Y.v] w11 fun e w'=>(∃ v,e=.returned (.tuple #[v,.int .i64 te])∧OwnT w' w11.heap.size v T1)∧Below w11.heap.size w11 w':=by
    rw[HTE.out.1,HTE.out.2.1]
    have h:=k5b Y w11 (HQ.out w11 (Below.refl w11.heap.size w11)).2.1
    revert h;rw[HY.out];exact id
   unfold Hb.v at hcl
   go_upto_region 13 with (go_at_call 29;(with_reducible refine hcl.mono ?_);rintro e w12 ⟨⟨vv,rfl,ho⟩,hbn⟩;obtain⟨A12,a12,rfl,hg,hc,hm⟩:=OwnA.form j3m ho;have H12:=zQ9 (zA9 (((Below.refl w11.heap.size w11)).trans (hbn.mono ((Below.refl w11.heap.size w11)).size)) (zA9 hg (Nat.le_trans hc hm)));clear hbn ho hg hc hm)
   clear hcl c0 c1 c2 c3 c4 hlq
   obtain⟨⟨x0,x1,x2,x3,x4⟩,-,-,-⟩:=HK.out.2.2 w12 (HQ.out w12 H12.out.1).2.2
   rw[Nat.zero_add] at x0 x1 x2 x3 x4
   have hzz:=(H12.out.1).size
   have hcl:Calls Tryz.prog 37 #[X.v] w12 fun e w'=>(∃ v,e=.returned (.tuple #[v,.int .i64 te])∧OwnT w' w12.heap.size v T1)∧Below w12.heap.size w12 w':=by
    rw[HTE.out.1,HTE.out.2.1]
    have h:=k7m X w12 (HK.out.2.2 w12 (HQ.out w12 H12.out.1).2.2).2.1
    exact h
   unfold Hb.v at hcl
   go_upto_region 14 with (go_at_call 37;(with_reducible refine hcl.mono ?_);rintro e w13 ⟨⟨vv,rfl,ho⟩,hbn⟩;have B1213:=zQ9 hbn;obtain⟨A13,a13,rfl,hg,hc,hm⟩:=OwnA.form j3m ho;have H13:=zQ9 (zA9 ((H12.out.1).trans (hbn.mono (H12.out.1).size)) (zA9 hg (Nat.le_trans hc hm)));clear hbn ho hg hc hm)
   clear hcl x0 x1 x2 x3 x4 hzz
   obtain⟨c0,c1,c2,c3,c4⟩:=j0h (HQ.out w13 H13.out.1).1
   have hlq:=j0a (HQ.out w13 H13.out.1).1
   have hcl:Calls Tryz.prog 30 #[Y.v] w13 fun e w'=>(∃ v,e=.returned (.tuple #[v,.int .i64 te])∧OwnR w' w13.heap.size v O1)∧Below w13.heap.size w13 w':=by
    rw[HTE.out.1,HTE.out.2.2.1]
    have h:=Owns_any Y w13 (HQ.out w13 H13.out.1).2.1
    revert h;rw[HY.out];exact id
   unfold Hb.v at hcl
   go_upto_region 15 with (go_at_call 30;(with_reducible refine hcl.mono ?_);rintro e w14 ⟨⟨vv,rfl,ho⟩,hbn⟩;have B1314:=zQ9 hbn;obtain⟨A14,a14,rfl,hg,hc,hm⟩:=(fun h=>Own.form h j3m) ho;have H14:=zQ9 (zA9 ((H13.out.1).trans (hbn.mono (H13.out.1).size)) (zA9 hg (Nat.le_trans hc hm)));clear hbn ho hg hc hm)
   clear hcl c0 c1 c2 c3 c4 hlq
   obtain⟨⟨x0,x1,x2,x3,x4⟩,-,-,-⟩:=HK.out.2.2 w14 (HQ.out w14 H14.out.1).2.2
   rw[Nat.zero_add] at x0 x1 x2 x3 x4
   have hzz:=(H14.out.1).size
   have hcl:Calls Tryz.prog 38 #[X.v] w14 fun e w'=>(∃ v,e=.returned (.tuple #[v,.int .i64 te])∧OwnR w' w14.heap.size v O1)∧Below w14.heap.size w14 w':=by
    rw[HTE.out.1,HTE.out.2.2.1]
    have h:=q2t X w14 (HK.out.2.2 w14 (HQ.out w14 H14.out.1).2.2).2.1
    exact h
   unfold Hb.v at hcl
   go_upto_region 16 with (go_at_call 38;(with_reducible refine hcl.mono ?_);rintro e w15 ⟨⟨vv,rfl,ho⟩,hbn⟩;have B1415:=zQ9 hbn;obtain⟨A15,a15,rfl,hg,hc,hm⟩:=(fun h=>Own.form h j3m) ho;have H15:=zQ9 (zA9 ((H14.out.1).trans (hbn.mono (H14.out.1).size)) (zA9 hg (Nat.le_trans hc hm)));clear hbn ho hg hc hm)
   clear hcl x0 x1 x2 x3 x4 hzz
   have hb1215:∀ W,Below w15.heap.size w15 W→j2f eRn 2 W A12 T1.length T1∧j2f eRn 2 W A13 T1.length T1∧Sl eRn 2 W A14 O1.length O1∧Sl eRn 2 W A15 O1.length O1:=fun W hW=>by
    have b15:=hW
    have b14:Below w14.heap.size w14 W:=B1415.out.trans (hW.mono B1415.out.size)
    have b13:Below w13.heap.size w13 W:=B1314.out.trans (b14.mono B1314.out.size)
    have b12:Below w12.heap.size w12 W:=B1213.out.trans (b13.mono B1213.out.size)
    exact⟨H12.out.2.1.below b12 (zL9 _),H13.out.2.1.below b13 (zL9 _),H14.out.2.1.below b14 (zL9 _),H15.out.2.1.below b15 (zL9 _)⟩
   have hst:Calls Tryz.prog 39 #[.slice A12 T1.length a12,.slice A13 T1.length a13] w15 fun e w'=>e=.returned (.bool true)∧Below w15.heap.size w15 w':=by
    have h:=j9l A12 T1.length a12 T1 A13 T1.length a13 T1 w15 (hb1215 w15 (Below.refl _ _)).1 (hb1215 w15 (Below.refl _ _)).2.1 H12.out.2.2 H12.out.2.2
    rwa [j4p] at h
   have hsr:∀ W,Below w15.heap.size w15 W→Calls Tryz.prog 26 #[.slice A14 O1.length a14,.slice A15 O1.length a15] W fun e w'=>e=.returned (.bool true)∧Below W.heap.size W w':=fun W hW=>by
    have h:=j4q A14 O1.length a14 O1 A15 O1.length a15 O1 W (hb1215 W hW).2.2.1 (hb1215 W hW).2.2.2 H14.out.2.2 H14.out.2.2
    rwa [j4p] at h
   have HSR:=zQ9 hsr
   clear hb1215 hsr
   go_upto_region 18 with (first|(go_at_call 39;(with_reducible refine hst.mono ?_);rintro e w16 ⟨rfl,hb16⟩;have H16:=zQ9 hb16;clear hb16)|(go_at_call 26;(with_reducible refine(HSR.out _ H16.out).mono ?_);rintro e w17 ⟨rfl,hb17⟩;have H17:=zQ9 (H15.out.1.trans ((H16.out.trans (hb17.mono H16.out.size)).mono H15.out.1.size));clear hb17))
   clear hst
   obtain⟨c0,c1,c2,c3,c4⟩:=j0h (HQ.out w17 H17.out).1
   have hlq:=j0a (HQ.out w17 H17.out).1
   have hcl:Calls Tryz.prog 31 #[Y.v] w17 fun e w'=>(∃ v,e=.returned (.tuple #[v,.int .i64 te])∧OwnR w' w17.heap.size v Q1)∧Below w17.heap.size w17 w':=by
    rw[HTE.out.1,HTE.out.2.2.2.1]
    have h:=q2v Y w17 (HQ.out w17 H17.out).2.1
    revert h;rw[HY.out];exact id
   unfold Hb.v at hcl
   go_upto_region 19 with (go_at_call 31;(with_reducible refine hcl.mono ?_);rintro e w18 ⟨⟨vv,rfl,ho⟩,hbn⟩;obtain⟨A18,a18,rfl,hg,hc,hm⟩:=(fun h=>Own.form h j3m) ho;have H18:=zQ9 (zA9 ((H17.out).trans (hbn.mono (H17.out).size)) (zA9 hg (Nat.le_trans hc hm)));clear hbn ho hg hc hm)
   clear hcl c0 c1 c2 c3 c4 hlq
   obtain⟨⟨x0,x1,x2,x3,x4⟩,-,-,-⟩:=HK.out.2.2 w18 (HQ.out w18 H18.out.1).2.2
   rw[Nat.zero_add] at x0 x1 x2 x3 x4
   have hzz:=(H18.out.1).size
   have hcl:Calls Tryz.prog 40 #[X.v] w18 fun e w'=>(∃ v,e=.returned (.tuple #[v,.int .i64 te])∧OwnR w' w18.heap.size v Q1)∧Below w18.heap.size w18 w':=by
    rw[HTE.out.1,HTE.out.2.2.2.1]
    have h:=q1i X w18 (HK.out.2.2 w18 (HQ.out w18 H18.out.1).2.2).2.1
    exact h
   unfold Hb.v at hcl
   go_upto_region 20 with (go_at_call 40;(with_reducible refine hcl.mono ?_);rintro e w19 ⟨⟨vv,rfl,ho⟩,hbn⟩;have B1819:=zQ9 hbn;obtain⟨A19,a19,rfl,hg,hc,hm⟩:=(fun h=>Own.form h j3m) ho;have H19:=zQ9 (zA9 ((H18.out.1).trans (hbn.mono (H18.out.1).size)) (zA9 hg (Nat.le_trans hc hm)));clear hbn ho hg hc hm)
   clear hcl x0 x1 x2 x3 x4 hzz
   obtain⟨c0,c1,c2,c3,c4⟩:=j0h (HQ.out w19 H19.out.1).1
   have hlq:=j0a (HQ.out w19 H19.out.1).1
   have hcl:Calls Tryz.prog 41 #[Y.v] w19 fun e w'=>(∃ v,e=.returned (.tuple #[v,.int .i64 te])∧OwnGf w' w19.heap.size v G1)∧Below w19.heap.size w19 w':=by
    rw[HTE.out.1,HTE.out.2.2.2.2]
    have h:=q2r Y w19 (HQ.out w19 H19.out.1).2.1
    revert h;rw[HY.out];exact id
   unfold Hb.v at hcl
   go_upto_region 21 with (go_at_call 41;(with_reducible refine hcl.mono ?_);rintro e w20 ⟨⟨vv,rfl,ho⟩,hbn⟩;have B1920:=zQ9 hbn;obtain⟨A20,a20,rfl,hg,hc,hm⟩:=(fun h=>Own.form h lenGf) ho;have H20:=zQ9 (zA9 ((H19.out.1).trans (hbn.mono (H19.out.1).size)) (zA9 hg (Nat.le_trans hc hm)));clear hbn ho hg hc hm)
   clear hcl c0 c1 c2 c3 c4 hlq
   obtain⟨⟨x0,x1,x2,x3,x4⟩,-,-,-⟩:=HK.out.2.2 w20 (HQ.out w20 H20.out.1).2.2
   rw[Nat.zero_add] at x0 x1 x2 x3 x4
   have hzz:=(H20.out.1).size
   have hcl:Calls Tryz.prog 42 #[X.v] w20 fun e w'=>(∃ v,e=.returned (.tuple #[v,.int .i64 te])∧OwnGf w' w20.heap.size v G1)∧Below w20.heap.size w20 w':=by
    rw[HTE.out.1,HTE.out.2.2.2.2]
    have h:=q1h X w20 (HK.out.2.2 w20 (HQ.out w20 H20.out.1).2.2).2.1
    exact h
   unfold Hb.v at hcl
   go_upto_region 22 with (go_at_call 42;(with_reducible refine hcl.mono ?_);rintro e w21 ⟨⟨vv,rfl,ho⟩,hbn⟩;have B2021:=zQ9 hbn;obtain⟨A21,a21,rfl,hg,hc,hm⟩:=(fun h=>Own.form h lenGf) ho;have H21:=zQ9 (zA9 ((H20.out.1).trans (hbn.mono (H20.out.1).size)) (zA9 hg (Nat.le_trans hc hm)));clear hbn ho hg hc hm)
   clear hcl x0 x1 x2 x3 x4 hzz
   have hz21:=H21.out.1.size
   refine hs_gone w21 Y q s 0 3 i so (j1x X so) (j2y X so) _ _ _ _ _ _ _ _ _ _ _ _ _ _ _ _ _ _ _ _ _ _ _ _ _ _ _ _ _ _ _ _ _ _ _ _ _ _ _ _ _ _ _ _ _ _ _ _ _ _ _ _ _ _ _ _ _ _ _ _ _ _ _ _ _ _ _ _ _ _ _ _ _ _ _ _ _ _ _ _ _ _ _ _ _ _ _ _ _ _ _ _ _ _ _ _ _ _ _ _ _ _ _ _ _ _ _ _ _ _ _ _ _ _ _ _ _ _ _ _ _ _ _ _ _ _ _ _ _ _ _ _ _ _ _ _ _ _ _ _ _ _ _ _ _ _ _ _ _ _ _ _ _ _ _ _ _ _ _ _ _ _ _ _ _ _ _ _ _ _ _ _ _ _ _ _ _ _ _ _ _ _ _ _ _ _ _ _ _ _ _ _ _ _ _ _ _ _ _ _ _ _ _ (zQ9 ⟨by rw[HY.out];rfl,by rw[HY.out];rfl⟩) (zQ9 fun W hW=>?_) (by omega) (by omega) i1 (zL9 _) (by unfold maxLen;omega) ?_
   ·have h1:=HQ.out W (H21.out.1.trans (hW.mono H21.out.1.size))
    exact⟨h1.1,h1.2.1,(HK.out.2.2 W h1.2.2).2.2.2⟩
   intro x144 x145 x146 x147 x148 x149 x150 x151 x152 r1 w22 hr1 hrz1 hb22
   have H22:=zQ9 (zA9 (H21.out.1.trans (hb22.mono H21.out.1.size)) (zA9 hr1 hb22))
   have hz22:=H22.out.1.size
   have hzr1:=j0a hr1
   clear hb22 hr1
   go_upto_region 23 with (fail)
   refine hs_gone9 w22 X r 0 3 s 0 3 i so (j1x X so) (j2y X so) _ _ _ _ _ _ _ _ _ _ _ _ _ _ _ _ _ _ _ _ _ _ _ _ _ _ _ _ _ _ _ _ _ _ _ _ _ _ _ _ _ _ _ _ _ _ _ _ _ _ _ _ _ _ _ _ _ _ _ _ _ _ _ _ _ _ _ _ _ _ _ _ _ _ _ _ _ _ _ _ _ _ _ _ _ _ _ _ _ _ _ _ _ _ _ _ _ _ _ _ _ _ _ _ _ _ _ _ _ _ _ _ _ _ _ _ _ _ _ _ _ _ _ _ _ _ _ _ _ _ _ _ _ _ _ _ _ _ _ _ _ _ _ _ _ _ _ _ _ _ _ _ _ _ _ _ _ _ _ _ _ _ _ _ _ _ _ _ _ _ _ _ _ _ _ _ _ _ _ _ _ _ _ _ _ _ _ _ _ _ _ _ _ _ _ _ _ _ _ _ _ _ _ (zQ9 ⟨rfl,rfl⟩) (zQ9 fun W hW=>?_) (by omega) (by omega) i1 (zL9 _) (by unfold maxLen;omega) (zL9 _) (by unfold maxLen;omega) ?_
   ·have h1:=HK.out.2.2 W (HQ.out W (H22.out.1.trans (hW.mono H22.out.1.size))).2.2
    exact⟨h1.1,h1.2.1,h1.2.2.2⟩
   intro x153 x154 x155 x156 x157 x158 x159 x160 x161 x162 x163 x164 r2 w23 hr2 hrz2 hb23
   have H23:=zQ9 (zA9 (H22.out.1.trans (hb23.mono H22.out.1.size)) (zA9 (j0e H22.out.2.1 hb23 (zL9 _)) (zA9 hr2 (H22.out.2.2.trans (hb23.mono H22.out.2.2.size)))))
   have hz23:=H23.out.1.size
   clear hb23 hr2
   go_upto_region 24 with (fail)
   have b21:Below w21.heap.size w21 w23:=H23.out.2.2.2
   have b20:Below w20.heap.size w20 w23:=B2021.out.trans (b21.mono B2021.out.size)
   have b19:Below w19.heap.size w19 w23:=B1920.out.trans (b20.mono B1920.out.size)
   have b18:Below w18.heap.size w18 w23:=B1819.out.trans (b19.mono B1819.out.size)
   refine hs_same w23 Y X r 0 3 i q r1 r2 Q1.length a18 a19 G1.length a20 a21 A18 A19 A20 A21 te (j1x X so) Q1 G1 (j2y X so) _ _ _ _ _ _ _ _ _ _ _ _ _ _ _ _ _ _ _ _ _ _ _ _ _ _ _ _ _ _ _ _ _ _ _ _ _ _ _ _ _ _ _ _ _ _ _ _ _ _ _ _ _ _ _ _ _ _ _ _ _ _ _ _ _ _ _ _ _ _ _ _ _ _ _ _ _ _ _ _ _ _ _ _ _ _ _ _ _ _ _ _ _ _ _ _ _ _ _ _ _ _ _ _ _ _ _ _ _ _ _ _ _ _ _ _ _ _ _ _ _ _ _ _ _ _ _ _ _ _ _ _ _ _ _ _ _ _ _ _ _ _ _ _ _ _ _ _ _ _ _ _ _ _ _ _ _ _ _ _ _ _ _ _ _ _ _ _ _ _ _ _ _ _ _ _ _ _ _ _ _ _ _ _ _ _ _ _ _ _ _ (zQ9 ?_) (zQ9 ?_) (zQ9 ?_) (zQ9 H23.out.2.1) (zQ9 H23.out.2.2.1) (zQ9 ⟨H18.out.2.1.below b18 (zL9 _),H19.out.2.1.below b19 (zL9 _),H18.out.2.2⟩) (zQ9 ⟨H20.out.2.1.below b20 (zL9 _),H21.out.2.1.below b21 (zL9 _),H20.out.2.2⟩) (by omega) i1 (zL9 _) (by unfold maxLen;omega) ?_
   ·have h1:=HQ.out w23 H23.out.1
    exact⟨(HK.out.2.2 w23 h1.2.2).2.1,h1.2.1,by rw[HY.out],by rw[HY.out],by rw[HY.out],by rw[HY.out],by rw[HY.out]⟩
   ·exact(HQ.out w23 H23.out.1).1
   ·exact(HK.out.2.2 w23 (HQ.out w23 H23.out.1).2.2).1
   intro x165 x166 x167 x168 x169 x170 x171 x172 x173 x174 x175 x176 x177 x178 x179 x180 x181 x182 x183 x184 x185 x186 x187 x188 x189 x190 x191 x192 x193 x194 x195 x196 x197 x198 x199 x200 x201 x202 w24 hb24
   have H24:=zQ9 (HQ.out w24 (H23.out.1.trans (hb24.mono H23.out.1.size))).2.2
   clear hb24 b21 b20 b19 b18
   go_wp2_with fail
   go_roundg (gk-1)
   case measure=>have:=HK.out.1;omega
   case rel=>exact⟨i+1,by have:=HK.out.1;omega,by go_num,H24.out⟩
  ·obtain rfl:i=3:=by omega
   have HK:=zQ9 hbr
   clear hbr hi
   go_wp2_with (go_at_call 8;(with_reducible refine(k2k _).mono ?_);rintro e w10 ⟨rfl,hb10⟩;have H10:=zQ9 hb10;clear hb10)
   go_ret
   have h1:=H9.out.trans (HK.out.mono H9.out.size)
   exact⟨rfl,h1.trans (H10.out.mono h1.size)⟩
theorem ints_of {w:World} {a:Option Addr} {len cap:Nat} {zs:List Int}
 (h:(a=none∧len=0∧cap=0∧zs=[])∨∃ x,a=some x∧len≤cap∧cap≤maxLen∧zs.length=cap∧(∀ i,i<zs.length→w.cell? (x.add i)=some (.int .i64 (zs.getD i 0)))∧∀ n∈zs,(Lit.int .i64 n).wf=true) :
 ∃ nums,Ints w a len nums∧len≤cap∧cap≤9223372036854775807∧(a=none→cap=0):=by
 rcases h with ⟨rfl,rfl,rfl,rfl⟩|⟨x,rfl,h1,h2,h3,h4,h5⟩
 ·exact⟨[],Sl.nil_,zL9 _,by omega,fun _=>rfl⟩
 ·have h2':cap≤9223372036854775807:=h2
  refine⟨zs.take len,⟨by rw[List.length_take];omega,fun hn=>?_⟩,h1,h2',fun h=>by cases h⟩
  obtain⟨b,off,rfl,hc⟩:=ints_at h4 (by omega)
  refine⟨b,off,rfl,fun i y hy j u hu=>?_⟩
  rw[List.getElem?_take] at hy
  split at hy
  ·have hlt:=(List.getElem?_eq_some_iff.1 hy).1
   cases j with
   | zero =>
     simp only[eInt,List.getElem?_cons_zero,Option.some.injEq] at hu
     subst hu
     have:=hc i (by omega)
     rw[Nat.mul_one,Nat.add_zero]
     rw[this,List.getD_eq_getElem?_getD,hy]
     rfl
   | succ j=>simp[eInt] at hu
  ·cases hy
end Go.Proofs.YtmennjmjakdkcaaGreat
namespace Go.Proofs.YtmennjmjakdkcaaGreat
open Go.RowKit Go.ChangeShapes Go.WideShapes Go.Deep
theorem j6t {α:Type} [Inhabited α] {enc:α→List Value} {sz:Nat} {w:World} {a:Addr} {len:Nat} (hsz:0<sz) (hl:∀ x,(enc x).length=sz)
 (h:∀ i,i<len→∃ x:α,∀ (j:Nat) (u:Value),(enc x)[j]?=some u→w.cell? (a.add (i*sz+j))=some u):∃ l,Sl enc sz w (some a) len l:=by
 have h':∀ i,∃ x:α,i<len→∀ (j:Nat) (u:Value),(enc x)[j]?=some u→w.cell? (a.add (i*sz+j))=some u:=fun i=>by
  by_cases hi:i<len
  ·obtain⟨x,hx⟩:=h i hi
   exact⟨x,fun _=>hx⟩
  ·exact⟨default,fun hi'=>absurd hi' hi⟩
 let f:Nat→α:=fun i=>Classical.choose (h' i)
 have hf:∀ i,i<len→∀ (j:Nat) (u:Value),(enc (f i))[j]?=some u→w.cell? (a.add (i*sz+j))=some u:=fun i=>Classical.choose_spec (h' i)
 refine⟨(List.range len).map f,by simp,fun hn=>?_⟩
 obtain⟨u0,hu0⟩:∃ u,(enc (f 0))[0]?=some u:=⟨_,List.getElem?_eq_getElem (by rw[hl];exact hsz)⟩
 have hc0:=hf 0 hn 0 u0 hu0
 obtain⟨b,off,spot⟩:=a
 have hspot:spot=none:=by simpa[Addr.add] using World.cell?_spot hc0
 subst hspot
 refine⟨b,off,rfl,fun i x hx j u hu=>?_⟩
 rw[List.getElem?_map] at hx
 by_cases hi:i<len
 ·rw[List.getElem?_range hi] at hx
  simp only[Option.map_some,Option.some.injEq] at hx
  subst hx
  have:=hf i hi j u hu
  rw[Go.WideShapes.add_plain] at this
  rw[Nat.add_assoc]
  exact this
 ·rw[List.getElem?_eq_none (by simpa using hi)] at hx
  cases hx
theorem list2 {α:Type} {l:List α} (h:l.length=2):∃ a b,l=[a,b]:=by
 match l,h with
 | [a,b],_=>exact⟨a,b,rfl⟩
theorem list3 {α:Type} {l:List α} (h:l.length=3):∃ a b c,l=[a,b,c]:=by
 match l,h with
 | [a,b,c],_=>exact⟨a,b,c,rfl⟩
theorem list5 {α:Type} {l:List α} (h:l.length=5):∃ a b c d e,l=[a,b,c,d,e]:=by
 match l,h with
 | [a,b,c,d,e],_=>exact⟨a,b,c,d,e,rfl⟩
instance:Inhabited Mk:=⟨⟨0,0,0⟩⟩
section
variable {H:Type} {enc:TypeId × Value→H} {w:World} {base:Nat} {spare:Nat→Bool} {held:Bool}
theorem q3a:Tryz.prog.cellsOf 117=3:=by kernel_rfl
theorem j6c:Tryz.prog.cellsOf 3=1:=by kernel_rfl
theorem k7w:Tryz.prog.cellsOf 24=2:=by kernel_rfl
theorem cellsSl:Tryz.prog.cellsOf 22=1:=by kernel_rfl
theorem k3x:Tryz.prog.cellsOf 31=5:=by kernel_rfl
theorem q2c {fuel:Nat} {cs:List Value} {x:DataW H × List MemPlace} (h:DataW.trod enc Tryz.prog w base spare held fuel 22 cs=some x) :
 ∃ A n c l,cs=[.slice A n c]∧Marks w A n l∧n≤c∧c≤maxLen∧(A=none→c=0):=by
 rcases open_slice Tryz.underlying22 h with ⟨hcs,_⟩|⟨a,len,cap,m,n,D,Pl,hcs,hb,hl,hm,hmm,hx,hi⟩
 ·exact⟨none,0,0,[],hcs,Sl.nil_,zL9 _,Nat.zero_le _,fun _=>rfl⟩
 ·have hlm:len≤m:=by rw[hmm];split<;>omega
  obtain⟨l,hs⟩:=j6t (enc:=eMk) (sz:=3) (w:=w) (a:=a) (len:=len) (by decide) j3l (fun i hi'=>by
   obtain⟨cs',hc,ht'⟩:=hi i (by omega)
   obtain⟨y0,y1,y2,n',_,hcl,h0,h1,h2⟩:=trod_struct3 Tryz.underlying117 ht'
   rw[q3a] at hcl hc
   obtain⟨_,_,hat⟩:=World.cells?_some hc
   obtain⟨c0,c1,c2,rfl⟩:=list3 hcl
   rw[j6c] at h0 h1 h2
   obtain⟨z0,e0,_,_⟩:=DataW.trod_int Tryz.underlying3 h0
   obtain⟨z1,e1,_,_⟩:=DataW.trod_int Tryz.underlying3 h1
   obtain⟨z2,e2,_,_⟩:=DataW.trod_int Tryz.underlying3 h2
   simp at e0 e1 e2
   subst e0;subst e1;subst e2
   refine⟨⟨z0,z1,z2⟩,fun j u hu=>?_⟩
   have hj:j<3:=by have:=(List.getElem?_eq_some_iff.1 hu).1;simpa[eMk] using this
   have:=hat j hj
   rw[Go.Deep.add_add] at this
   rw[this]
   exact hu)
  exact⟨some a,len,cap,l,hcs,hs,hl,hm,fun h=>by cases h⟩
theorem open_reg {fuel:Nat} {cs:List Value} {x:DataW H × List MemPlace} (h:DataW.trod enc Tryz.prog w base spare held fuel 24 cs=some x) :
 ∃ t A n c l,cs=[.int .i64 t,.slice A n c]∧Marks w A n l∧n≤c∧c≤maxLen∧(A=none→c=0):=by
 obtain⟨y0,y1,n',_,hcl,h0,h1⟩:=trod_struct2 Tryz.underlying24 h
 rw[k7w] at hcl
 obtain⟨c0,c1,rfl⟩:=list2 hcl
 rw[j6c] at h0
 rw[cellsSl] at h1
 obtain⟨z0,e0,_,_⟩:=DataW.trod_int Tryz.underlying3 h0
 obtain⟨A,n,c,l,e1,hs,h2⟩:=q2c h1
 simp at e0 e1
 subst e0;subst e1
 exact⟨z0,A,n,c,l,rfl,hs,h2⟩
theorem q0j {P:Program} {t:TypeId} {f0 f1 f2 f3 f4:Field} {fuel:Nat} {cs:List Value} {x:DataW H × List MemPlace} (ht:P.underlying t=some (.struct #[f0,f1,f2,f3,f4])) (h:DataW.trod enc P w base spare held fuel t cs=some x) :
 ∃ (y0 y1 y2 y3 y4:DataW H × List MemPlace) (n:Nat),cs.length=P.cellsOf t∧DataW.trod enc P w base spare held n f0.type ((cs.drop f0.offset).take (P.cellsOf f0.type))=some y0 ∧
  DataW.trod enc P w base spare held n f1.type ((cs.drop f1.offset).take (P.cellsOf f1.type))=some y1∧DataW.trod enc P w base spare held n f2.type ((cs.drop f2.offset).take (P.cellsOf f2.type))=some y2 ∧
  DataW.trod enc P w base spare held n f3.type ((cs.drop f3.offset).take (P.cellsOf f3.type))=some y3∧DataW.trod enc P w base spare held n f4.type ((cs.drop f4.offset).take (P.cellsOf f4.type))=some y4:=by
 obtain⟨xs,n,_,_,hl,hlen,hf⟩:=DataW.trod_struct ht h
 obtain⟨y0,y1,y2,y3,y4,rfl⟩:=list5 (show xs.length=5 from hlen)
 exact⟨y0,y1,y2,y3,y4,n,hl,by simpa using hf 0 f0 rfl,by simpa using hf 1 f1 rfl,by simpa using hf 2 f2 rfl,by simpa using hf 3 f3 rfl,by simpa using hf 4 f4 rfl⟩
theorem q2d {fuel:Nat} {cs:List Value} {x:DataW H × List MemPlace} (h:DataW.trod enc Tryz.prog w base spare held fuel 31 cs=some x) :
 ∃ s:Sg,cs=eSg s:=by
 obtain⟨y0,y1,y2,y3,y4,n',hcl,h0,h1,h2,h3,h4⟩:=q0j Tryz.underlying31 h
 rw[k3x] at hcl
 obtain⟨c0,c1,c2,c3,c4,rfl⟩:=list5 hcl
 rw[j6c] at h0 h3 h4
 rw[show Tryz.prog.cellsOf 4=1 from by kernel_rfl] at h1 h2
 obtain⟨z0,e0,_,_⟩:=DataW.trod_int Tryz.underlying3 h0
 obtain⟨z1,e1,_⟩:=DataW.trod_bool Tryz.underlying4 h1
 obtain⟨z2,e2,_⟩:=DataW.trod_bool Tryz.underlying4 h2
 obtain⟨z3,e3,_,_⟩:=DataW.trod_int Tryz.underlying3 h3
 obtain⟨z4,e4,_,_⟩:=DataW.trod_int Tryz.underlying3 h4
 simp at e0 e1 e2 e3 e4
 subst e0;subst e1;subst e2;subst e3;subst e4
 exact⟨⟨z0,z1,z2,z3,z4⟩,rfl⟩
theorem k5t (l:List Value):(Value.agg ⟨l⟩).cells.toList=l:=by simp[Value.cells]
theorem open_intsV {r:Reach} {b0:Nat} {v:Value} {d:DataW H} {p:List MemPlace} (hv:Value.okWide Tryz.prog w r b0 25 v) (h:DataW.Trod enc Tryz.prog w base (fun _=>true) held 25 v d p) :
 ∃ A n c l,v=.slice A n c∧Ints w A n l∧n≤c∧c≤9223372036854775807:=by
 obtain⟨a,len,cap,rfl⟩:=okWide_slice Tryz.underlying25 hv
 have hz:∃ zs,((a=none∧len=0∧cap=0∧zs=[])∨∃ x,a=some x∧len≤cap∧cap≤maxLen∧zs.length=cap∧(∀ i,i<zs.length→w.cell? (x.add i)=some (.int .i64 (zs.getD i 0)))∧∀ n∈zs,(Lit.int .i64 n).wf=true):=by
  obtain⟨fuel,hf⟩:=h
  rcases open_ints Tryz.underlying25 Tryz.underlying3 j6c hf with ⟨hcs,_⟩|⟨x,l,c,zs,hcs,_,hl,hm,hz,_,hcell,hwz⟩
  ·simp[Value.cells] at hcs
   obtain⟨rfl,rfl,rfl⟩:=hcs
   exact⟨[],.inl ⟨rfl,rfl,rfl,rfl⟩⟩
  ·simp[Value.cells] at hcs
   obtain⟨rfl,rfl,rfl⟩:=hcs
   exact⟨zs,.inr ⟨_,rfl,hl,hm,by simpa using hz,hcell,hwz⟩⟩
 obtain⟨zs,hz⟩:=hz
 obtain⟨nums,h1,h2,h3,h4⟩:=ints_of hz
 exact⟨a,len,cap,nums,rfl,h1,h2,h3⟩
end
instance:Inhabited Sg:=⟨⟨0,false,false,0,0⟩⟩
section
variable {H:Type} {enc:TypeId × Value→H} {w:World} {base:Nat} {spare:Nat→Bool} {held:Bool}
end
theorem list4 {α:Type} {l:List α} (h:l.length=4):∃ a b c d,l=[a,b,c,d]:=by
 match l,h with
 | [a,b,c,d],_=>exact⟨a,b,c,d,rfl⟩
theorem list8 {α:Type} {l:List α} (h:l.length=8):∃ a b c d e f g i,l=[a,b,c,d,e,f,g,i]:=by
 match l,h with
 | [a,b,c,d,e,f,g,i],_=>exact⟨a,b,c,d,e,f,g,i,rfl⟩
theorem list12 {α:Type} {l:List α} (h:l.length=12):∃ a b c d e f g i j k m n,l=[a,b,c,d,e,f,g,i,j,k,m,n]:=by
 match l,h with
 | [a,b,c,d,e,f,g,i,j,k,m,n],_=>exact⟨a,b,c,d,e,f,g,i,j,k,m,n,rfl⟩
instance:Inhabited De:=⟨⟨0,0,0,0,0,0,0,⟨0,false,false,0,0⟩⟩⟩
instance:Inhabited Value:=⟨.int .i64 0⟩
theorem k8x {α β:Type} {P:α→β→Prop}:∀ {mv:List α},(∀ v∈mv,∃ l,P v l)→∃ ls:List β,mv.length=ls.length∧∀ (i:Nat) v,mv[i]?=some v→∃ l,ls[i]?=some l∧P v l
 | [],_=>⟨[],rfl,fun i v h=>by simp at h⟩
 | a::mv,h=>by
   obtain⟨l,hl⟩:=h a List.mem_cons_self
   obtain⟨ls,h1,h2⟩:=k8x fun v hv=>h v (List.mem_cons_of_mem _ hv)
   refine⟨l::ls,by simp[h1],fun i v hv=>?_⟩
   cases i with
   | zero=>cases hv;exact⟨l,rfl,hl⟩
   | succ i=>exact h2 i v (by simpa using hv)
section
variable {H:Type} {enc:TypeId × Value→H} {w:World} {base:Nat} {spare:Nat→Bool} {held:Bool}
theorem k9m {P:Program} {t:TypeId} {f0 f1 f2 f3 f4 f5 f6 f7:Field} {fuel:Nat} {cs:List Value} {x:DataW H × List MemPlace} (ht:P.underlying t=some (.struct #[f0,f1,f2,f3,f4,f5,f6,f7])) (h:DataW.trod enc P w base spare held fuel t cs=some x) :
 ∃ (y0 y1 y2 y3 y4 y5 y6 y7:DataW H × List MemPlace) (n:Nat),cs.length=P.cellsOf t∧DataW.trod enc P w base spare held n f0.type ((cs.drop f0.offset).take (P.cellsOf f0.type))=some y0∧DataW.trod enc P w base spare held n f1.type ((cs.drop f1.offset).take (P.cellsOf f1.type))=some y1∧DataW.trod enc P w base spare held n f2.type ((cs.drop f2.offset).take (P.cellsOf f2.type))=some y2∧DataW.trod enc P w base spare held n f3.type ((cs.drop f3.offset).take (P.cellsOf f3.type))=some y3∧DataW.trod enc P w base spare held n f4.type ((cs.drop f4.offset).take (P.cellsOf f4.type))=some y4∧DataW.trod enc P w base spare held n f5.type ((cs.drop f5.offset).take (P.cellsOf f5.type))=some y5∧DataW.trod enc P w base spare held n f6.type ((cs.drop f6.offset).take (P.cellsOf f6.type))=some y6∧DataW.trod enc P w base spare held n f7.type ((cs.drop f7.offset).take (P.cellsOf f7.type))=some y7:=by
 obtain⟨xs,n,_,_,hl,hlen,hf⟩:=DataW.trod_struct ht h
 obtain⟨y0,y1,y2,y3,y4,y5,y6,y7,rfl⟩:=list8 (show xs.length=8 from hlen)
 exact⟨y0,y1,y2,y3,y4,y5,y6,y7,n,hl,by simpa using hf 0 f0 rfl,by simpa using hf 1 f1 rfl,by simpa using hf 2 f2 rfl,by simpa using hf 3 f3 rfl,by simpa using hf 4 f4 rfl,by simpa using hf 5 f5 rfl,by simpa using hf 6 f6 rfl,by simpa using hf 7 f7 rfl⟩
theorem q0k {P:Program} {t:TypeId} {f0 f1 f2 f3:Field} {fuel:Nat} {cs:List Value} {x:DataW H × List MemPlace} (ht:P.underlying t=some (.struct #[f0,f1,f2,f3])) (h:DataW.trod enc P w base spare held fuel t cs=some x) :
 ∃ (y0 y1 y2 y3:DataW H × List MemPlace) (n:Nat),cs.length=P.cellsOf t∧DataW.trod enc P w base spare held n f0.type ((cs.drop f0.offset).take (P.cellsOf f0.type))=some y0∧DataW.trod enc P w base spare held n f1.type ((cs.drop f1.offset).take (P.cellsOf f1.type))=some y1∧DataW.trod enc P w base spare held n f2.type ((cs.drop f2.offset).take (P.cellsOf f2.type))=some y2∧DataW.trod enc P w base spare held n f3.type ((cs.drop f3.offset).take (P.cellsOf f3.type))=some y3:=by
 obtain⟨xs,n,_,_,hl,hlen,hf⟩:=DataW.trod_struct ht h
 obtain⟨y0,y1,y2,y3,rfl⟩:=list4 (show xs.length=4 from hlen)
 exact⟨y0,y1,y2,y3,n,hl,by simpa using hf 0 f0 rfl,by simpa using hf 1 f1 rfl,by simpa using hf 2 f2 rfl,by simpa using hf 3 f3 rfl⟩
theorem k5w:Tryz.prog.cellsOf 33=12:=by kernel_rfl
theorem k7x:Tryz.prog.cellsOf 25=1:=by kernel_rfl
theorem cellsSlG:Tryz.prog.cellsOf 26=1:=by kernel_rfl
theorem cellsSlD:Tryz.prog.cellsOf 27=1:=by kernel_rfl
theorem q2z:Tryz.prog.cellsOf 29=5:=by kernel_rfl
theorem k6u {fuel:Nat} {cs:List Value} {x:DataW H × List MemPlace} (h:DataW.trod enc Tryz.prog w base spare held fuel 33 cs=some x):∃ d:De,cs=eDe d:=by
 obtain⟨y0,y1,y2,y3,y4,y5,y6,y7,n,hl,h0,h1,h2,h3,h4,h5,h6,h7⟩:=k9m Tryz.underlying33 h
 rw[k5w] at hl
 obtain⟨c0,c1,c2,c3,c4,c5,c6,c7,c8,c9,c10,c11,rfl⟩:=list12 hl
 rw[j6c] at h0 h1 h2 h3 h4 h5 h6
 rw[k3x] at h7
 obtain⟨z0,e0,_,_⟩:=DataW.trod_int Tryz.underlying3 h0
 obtain⟨z1,e1,_,_⟩:=DataW.trod_int Tryz.underlying3 h1
 obtain⟨z2,e2,_,_⟩:=DataW.trod_int Tryz.underlying3 h2
 obtain⟨z3,e3,_,_⟩:=DataW.trod_int Tryz.underlying3 h3
 obtain⟨z4,e4,_,_⟩:=DataW.trod_int Tryz.underlying3 h4
 obtain⟨z5,e5,_,_⟩:=DataW.trod_int Tryz.underlying3 h5
 obtain⟨z6,e6,_,_⟩:=DataW.trod_int Tryz.underlying3 h6
 obtain⟨s,e7⟩:=q2d h7
 simp[eSg] at e0 e1 e2 e3 e4 e5 e6 e7
 obtain⟨e7,e8,e9,e10,e11⟩:=e7
 subst e0 e1 e2 e3 e4 e5 e6 e7 e8 e9 e10 e11
 exact⟨⟨z0,z1,z2,z3,z4,z5,z6,s⟩,rfl⟩
theorem q2b {fuel:Nat} {cs:List Value} {x:DataW H × List MemPlace} (h:DataW.trod enc Tryz.prog w base spare held fuel 27 cs=some x) :
 ∃ A n c l,cs=[.slice A n c]∧Deeds w A n l∧n≤c∧c≤maxLen∧(A=none→c=0):=by
 rcases open_slice Tryz.underlying27 h with ⟨hcs,_⟩|⟨a,len,cap,m,n,D,Pl,hcs,hb,hl,hm,hmm,hx,hi⟩
 ·exact⟨none,0,0,[],hcs,Sl.nil_,zL9 _,Nat.zero_le _,fun _=>rfl⟩
 ·have hlm:len≤m:=by rw[hmm];split<;>omega
  obtain⟨l,hs⟩:=j6t (enc:=eDe) (sz:=12) (w:=w) (a:=a) (len:=len) (by decide) j5t (fun i hi'=>by
   obtain⟨cs',hc,ht'⟩:=hi i (by omega)
   obtain⟨d,rfl⟩:=k6u ht'
   rw[k5w] at hc
   obtain⟨_,_,hat⟩:=World.cells?_some hc
   refine⟨d,fun j u hu=>?_⟩
   have hj:j<12:=by have:=(List.getElem?_eq_some_iff.1 hu).1;rwa [j5t] at this
   have:=hat j hj
   rw[Go.Deep.add_add] at this
   rw[this]
   exact hu)
  exact⟨some a,len,cap,l,hcs,hs,hl,hm,fun h=>by cases h⟩
theorem k4q {fuel:Nat} {cs:List Value} {x:DataW H × List MemPlace} (h:DataW.trod enc Tryz.prog w base spare held fuel 25 cs=some x) :
 ∃ A n c l,cs=[.slice A n c]∧Ints w A n l∧n≤c∧c≤maxLen∧(A=none→c=0):=by
 rcases open_slice Tryz.underlying25 h with ⟨hcs,_⟩|⟨a,len,cap,m,n,D,Pl,hcs,hb,hl,hm,hmm,hx,hi⟩
 ·exact⟨none,0,0,[],hcs,Sl.nil_,zL9 _,Nat.zero_le _,fun _=>rfl⟩
 ·have hlm:len≤m:=by rw[hmm];split<;>omega
  obtain⟨l,hs⟩:=j6t (enc:=eInt) (sz:=1) (w:=w) (a:=a) (len:=len) (by decide) j0u (fun i hi'=>by
   obtain⟨cs',hc,ht'⟩:=hi i (by omega)
   obtain⟨z,e,_,_⟩:=DataW.trod_int Tryz.underlying3 ht'
   subst e
   rw[j6c] at hc
   obtain⟨_,_,hat⟩:=World.cells?_some hc
   refine⟨z,fun j u hu=>?_⟩
   have hj:j<1:=by have:=(List.getElem?_eq_some_iff.1 hu).1;rwa [j0u] at this
   have:=hat j hj
   rw[Go.Deep.add_add] at this
   rw[this]
   exact hu)
  exact⟨some a,len,cap,l,hcs,hs,hl,hm,fun h=>by cases h⟩
theorem q4m {fuel:Nat} {cs:List Value} {x:DataW H × List MemPlace} (h:DataW.trod enc Tryz.prog w base spare held fuel 26 cs=some x) :
 ∃ A n c l,cs=[.slice A n c]∧j0z w A n l∧n≤c∧c≤maxLen∧(A=none→c=0):=by
 rcases open_slice Tryz.underlying26 h with ⟨hcs,_⟩|⟨a,len,cap,m,n,D,Pl,hcs,hb,hl,hm,hmm,hx,hi⟩
 ·exact⟨none,0,0,[],hcs,⟨[],Sl.nil_,rfl,fun i v h=>by simp at h⟩,zL9 _,Nat.zero_le _,fun _=>rfl⟩
 ·have hlm:len≤m:=by rw[hmm];split<;>omega
  have hgood:∀ i,i<len→∃ v,w.cell? (a.add (i*1+0))=some v∧∃ l:List Int,∃ B c,v=.slice B l.length c∧Ints w B l.length l∧l.length≤c∧c≤maxLen∧(B=none→c=0):=fun i hi'=>by
   obtain⟨cs',hc,ht'⟩:=hi i (by omega)
   obtain⟨B,k,c,l,rfl,h1,h2,h3,h4⟩:=k4q ht'
   rw[k7x] at hc
   obtain⟨_,_,hat⟩:=World.cells?_some hc
   have:=hat 0 (by decide)
   rw[Go.Deep.add_add] at this
   have hlen:=h1.len
   subst hlen
   exact⟨_,this,l,B,c,rfl,h1,h2,h3,h4⟩
  obtain⟨mv,hs⟩:=j6t (enc:=eVal) (sz:=1) (w:=w) (a:=a) (len:=len) (by decide) j3c (fun i hi'=>by
   obtain⟨v,hv,-⟩:=hgood i hi'
   refine⟨v,fun j u hu=>?_⟩
   have hj:j<1:=by have:=(List.getElem?_eq_some_iff.1 hu).1;rwa [j3c] at this
   obtain rfl:j=0:=by omega
   cases hu
   exact hv)
  have hall:∀ v∈mv,∃ l:List Int,∃ B c,v=.slice B l.length c∧Ints w B l.length l∧l.length≤c∧c≤maxLen∧(B=none→c=0):=fun v hv=>by
   obtain⟨i,hi2,e⟩:=List.mem_iff_getElem.1 hv
   have hil:i<len:=by rw[←hs.len];exact hi2
   obtain⟨b',o',y,hA,hb',hy,hcy⟩:=Vals.get hs hil
   rw[List.getElem?_eq_getElem hi2,e] at hy
   cases hy
   obtain⟨v',hv',hl'⟩:=hgood i hil
   cases hA
   rw[Go.WideShapes.add_plain] at hv'
   rw[show o'+(i*1+0)=o'+i by omega,hcy] at hv'
   cases hv'
   exact hl'
  obtain⟨ls,h1,h2⟩:=k8x hall
  have hn:mv.length=len:=hs.len
  refine⟨some a,len,cap,ls,hcs,⟨mv,hs,h1,fun i v hv=>?_⟩,hl,hm,fun h=>by cases h⟩
  obtain⟨l,hl1,B,c,hl2⟩:=h2 i v hv
  exact⟨B,l,c,hl1,hl2⟩
theorem q4n {fuel:Nat} {cs:List Value} {x:DataW H × List MemPlace} (h:DataW.trod enc Tryz.prog w base spare held fuel 29 cs=some x) :
 ∃ b:Hb,cs=[.int .i64 b.t,b.vm,b.vk,b.vh,b.vd]∧HbIn w b∧HbZ w b:=by
 obtain⟨y0,y1,y2,y3,n,hl,h0,h1,h2,h3⟩:=q0k Tryz.underlying29 h
 rw[q2z] at hl
 obtain⟨c0,c1,c2,c3,c4,rfl⟩:=list5 hl
 rw[k7w] at h0
 rw[k7x] at h1
 rw[cellsSlG] at h2
 rw[cellsSlD] at h3
 obtain⟨t,A,nm,c,l,e0,m1,m2,m3,m4⟩:=open_reg h0
 obtain⟨Ak,nk,ck,ks,e1,k1,k2,k3,k4⟩:=k4q h1
 obtain⟨Ah,nh,ch,hs,e2,g1,g2,g3,g4⟩:=q4m h2
 obtain⟨Ad,nd,cd,ds,e3,d1,d2,d3,d4⟩:=q2b h3
 simp at e0 e1 e2 e3
 obtain⟨e0,e4⟩:=e0
 have l1:=m1.len
 have l2:=k1.len
 have l3:=g1.grid.len
 have l4:=d1.len
 subst e0 e1 e2 e3 e4 l1 l2 l3 l4
 exact⟨⟨t,A,c,l,Ak,ck,ks,Ah,ch,hs,Ad,cd,ds⟩,rfl,⟨m1,m2,m3,k1,k2,k3,g1.grid,g2,g3,d1,d2,d3⟩,⟨m4,k4,g1,d4⟩⟩
theorem open_herdV {r:Reach} {b0:Nat} {v:Value} {d:DataW H} {p:List MemPlace} (hv:Value.okWide Tryz.prog w r b0 29 v) (h:DataW.Trod enc Tryz.prog w base spare held 29 v d p) :
 ∃ b:Hb,v=b.v∧HbIn w b∧HbZ w b:=by
 obtain⟨cs,rfl,_⟩:=okWide_struct Tryz.underlying29 hv
 obtain⟨f,hf⟩:=h
 obtain⟨b,e,h2⟩:=q4n hf
 obtain⟨cs⟩:=cs
 have e':cs=[.int .i64 b.t,b.vm,b.vk,b.vh,b.vd]:=(k5t cs).symm.trans e
 subst e'
 exact⟨b,rfl,h2⟩
theorem open_deedV {r:Reach} {b0:Nat} {v:Value} {d:DataW H} {p:List MemPlace} (hv:Value.okWide Tryz.prog w r b0 33 v) (h:DataW.Trod enc Tryz.prog w base spare held 33 v d p) :
 ∃ x:De,v=dv x:=by
 obtain⟨cs,rfl,_⟩:=okWide_struct Tryz.underlying33 hv
 obtain⟨f,hf⟩:=h
 obtain⟨s,e⟩:=k6u hf
 obtain⟨cs⟩:=cs
 have e':cs=eDe s:=(k5t cs).symm.trans e
 subst e'
 exact⟨s,rfl⟩
end
end Go.Proofs.YtmennjmjakdkcaaGreat
