/- HerdParts. -/
import Derived.Test.YtmennjmjakdkcaaGreatPt37
import Derived.Deep.Upon
set_option linter.unusedVariables false
set_option linter.unusedSimpArgs false
set_option maxRecDepth 1000000
set_option maxHeartbeats 8000000
namespace Go.Proofs.YtmennjmjakdkcaaGreat
open Go.RowKit
def entZ (b:Hb) (d:De):Hb:=if j0x b d=0 then ⟨b.t,none,0,b.l,none,0,b.ks,none,0,b.hs,none,0,b.ds++[d]⟩ else ⟨0,none,0,[],none,0,[],none,0,[],none,0,[]⟩
def EntQ (Z:Hb) (er:Int) (w:World) (e:Ending) (w':World):Prop:=(∃ A c Ak ck Ah ch Ad cd,e=.returned (.tuple #[Hb.v ⟨Z.t,A,c,Z.l,Ak,ck,Z.ks,Ah,ch,Z.hs,Ad,cd,Z.ds⟩,.int .i64 er])∧HbO w' w.heap.size ⟨Z.t,A,c,Z.l,Ak,ck,Z.ks,Ah,ch,Z.hs,Ad,cd,Z.ds⟩)∧Below w.heap.size w w'
theorem k3z.entQ {b:Hb} {d:De} {w w':World} {e:Ending} (h:k3z b d w e w'):EntQ (entZ b d) (j0x b d) w e w':=by
 obtain⟨⟨h0,A,c,Ak,ck,Ah,ch,Ad,cd,h1,h2⟩|⟨h0,h1⟩,hb⟩:=h
 ·refine⟨⟨A,c,Ak,ck,Ah,ch,Ad,cd,?_,?_⟩,hb⟩
  ·unfold entZ;rw[if_pos h0,h0];exact h1
  ·unfold entZ;rw[if_pos h0];exact h2
 ·refine⟨⟨none,0,none,0,none,0,none,0,?_,?_⟩,hb⟩
  ·unfold entZ;rw[if_neg h0];exact h1
  ·unfold entZ;rw[if_neg h0];exact⟨Own.nil_,Own.nil_,OwnG.nil_,Own.nil_⟩
theorem q1t {q:Nat} {w W:World} {Y:Hb} (h:W.heap[q]?=some (boxO 0 (.slice none 0 0) (.slice none 0 0) (.slice none 0 0) (.slice none 0 0))) (hO:HbO W w.heap.size Y) (hB:Below w.heap.size w W) (hq:w.heap.size<=q) :
 (((((W.setCell ⟨q,0,none⟩ (.int .i64 Y.t)).setCell ⟨q,1,none⟩ Y.vm).setCell ⟨q,2,none⟩ Y.vk).setCell ⟨q,3,none⟩ Y.vh).setCell ⟨q,4,none⟩ Y.vd).heap[q]?=some Y.obj∧HbO (((((W.setCell ⟨q,0,none⟩ (.int .i64 Y.t)).setCell ⟨q,1,none⟩ Y.vm).setCell ⟨q,2,none⟩ Y.vk).setCell ⟨q,3,none⟩ Y.vh).setCell ⟨q,4,none⟩ Y.vd) w.heap.size Y∧Below w.heap.size w (((((W.setCell ⟨q,0,none⟩ (.int .i64 Y.t)).setCell ⟨q,1,none⟩ Y.vm).setCell ⟨q,2,none⟩ Y.vk).setCell ⟨q,3,none⟩ Y.vh).setCell ⟨q,4,none⟩ Y.vd):=by
 obtain⟨Z,hZ⟩:∃ Z,Z=(((((W.setCell ⟨q,0,none⟩ (.int .i64 Y.t)).setCell ⟨q,1,none⟩ Y.vm).setCell ⟨q,2,none⟩ Y.vk).setCell ⟨q,3,none⟩ Y.vh).setCell ⟨q,4,none⟩ Y.vd):=⟨_,rfl⟩;rw[<-hZ];have hE:=j4c h hZ (w:=w) hB hq;have hg:=hE.2.2;exact⟨hE.1,⟨hO.m.kept hg (.inr (hO.m.ne' h (by decide))),hO.k.kept hg (.inr (hO.k.ne' h (by decide))),hO.h.keptB hg h,hO.d.kept hg (.inr (hO.d.ne' h (by decide)))⟩,hE.2.1⟩
noncomputable def rgPt18:Code:=((Tryz.f4.body.bind (j1u 18)).getD .skip)
theorem pt_enter (w2:World) (b Z:Hb) (d:De) (er:Int) (q r4 o4 c4 i:Nat) {v0 v1 v2 v3 v4 v5 v6 v7 v8 v9 du dr gu dy fq gc dg dG fc d9 fv dd fp gB f7 ge dx fb gG gD dB gm fo gt g3 fF gy fd gv fh d5 gp dw fx gC fC fA fj gw dF g5 fy dq g1 dh fg f6 gx fa fB da dH gh f8 g8 fH dz dD fe gk dk fE g0 d7 fG g4 dj g9 dA dC dn f9 f5 fi d8 ga fw ff g2 gj g6 gd ft di gA fD g7 b3 bj ce cb a2 bq ai bi aB c7 co cr b8 c8 bp b5 bo a4 b6 bw a9 ct ax cu a6 ba am bz bB aH bt bu aa ak cq b4 be bG d1 cE cv d4 cw d3 cG cx cD aA cp cn aq bn ay b0 aw cf a1 az bf c9 bD a3 bF b9 ag bE cj bm ar br ca aF a8 ad aC c6 aD bs bv aj af av cc bh a5 an aG cg c5 ac bA ah bC b7 ao a7 ae aE:Value} (Q:Exit->Act->World->Prop)
 (HX:Q9 (Z=entZ b d∧er=j0x b d)) (HS:Q9 (∀ W,Below w2.heap.size w2 W->(W.cell? ⟨q,0,none⟩=some (.int .i64 b.t)∧W.cell? ⟨q,1,none⟩=some b.vm∧W.cell? ⟨q,2,none⟩=some b.vk∧W.cell? ⟨q,3,none⟩=some b.vh∧W.cell? ⟨q,4,none⟩=some b.vd)∧HbIn W b∧HbZ W b∧W.cell? ⟨r4,o4+i*12,none⟩=some (.int .i64 d.kind)∧W.cell? ⟨r4,o4+i*12+1,none⟩=some (.int .i64 d.flock)∧W.cell? ⟨r4,o4+i*12+2,none⟩=some (.int .i64 d.owner)∧W.cell? ⟨r4,o4+i*12+3,none⟩=some (.int .i64 d.other)∧W.cell? ⟨r4,o4+i*12+4,none⟩=some (.int .i64 d.tof)∧W.cell? ⟨r4,o4+i*12+5,none⟩=some (.int .i64 d.many)∧W.cell? ⟨r4,o4+i*12+6,none⟩=some (.int .i64 d.err)∧W.cell? ⟨r4,o4+i*12+7,none⟩=some (.int .i64 d.s.n)∧W.cell? ⟨r4,o4+i*12+8,none⟩=some (.bool d.s.l)∧W.cell? ⟨r4,o4+i*12+9,none⟩=some (.bool d.s.r)∧W.cell? ⟨r4,o4+i*12+10,none⟩=some (.int .i64 d.s.b)∧W.cell? ⟨r4,o4+i*12+11,none⟩=some (.int .i64 d.s.p)))
 (hq:q<w2.heap.size) (h2:r4<w2.heap.size) (i4:(i:Int)<4) (h3:4<=c4) (gE:c4<=maxLen)
 (HQ:Q9 (∀ (cF d0 cB d2 cz cC cy cA cH:Value) (A Ak Ah Ad:Option Addr) (c ck ch cd r:Nat) (w':World),w'.heap[r]?=some (Hb.obj ⟨Z.t,A,c,Z.l,Ak,ck,Z.ks,Ah,ch,Z.hs,Ad,cd,Z.ds⟩)->HbO w' w2.heap.size ⟨Z.t,A,c,Z.l,Ak,ck,Z.ks,Ah,ch,Z.hs,Ad,cd,Z.ds⟩->w2.heap.size<=r->Below w2.heap.size w2 w'->Q .normal ⟨#[v0,v1,v2,v3,v4,v5,v6,v7,v8,v9,du,dr,gu,dy,fq,gc,dg,dG,fc,d9,fv,dd,fp,(Value.slice (some ⟨r4,o4,none⟩) 4 c4),(Value.int .i64 (i:Int)),(Value.pointer (some ⟨q,0,none⟩)),gB,f7,ge,dx,fb,(Value.pointer (some ⟨r,0,none⟩)),(Value.int .i64 er),dB,gm,fo,gt,g3,fF,gy,fd,gv,fh,d5,gp,dw,fx,gC,fC,fA,fj,gw,dF,g5,fy,dq,g1,dh,fg,f6,gx,fa,fB,da,dH,gh,f8,g8,fH,dz,dD,fe,gk,dk,fE,g0,d7,fG,g4,dj,g9,dA,dC,dn,f9,f5,fi,d8,ga,fw,ff,g2,gj,g6,gd,ft,di,gA,fD,g7,b3,bj,ce,cb,a2,bq,ai,bi,aB,c7,co,cr,b8,c8,bp,b5,bo,a4,b6,bw,a9,ct,ax,cu,a6,ba,am,bz,bB,aH,bt,bu,aa,ak,cq,b4,be,bG,cF,d0,cB,d2,cz,cC,cy,cA,cH,aA,cp,cn,aq,bn,ay,b0,aw,cf,a1,az,bf,c9,bD,a3,bF,b9,ag,bE,cj,bm,ar,br,ca,aF,a8,ad,aC,c6,aD,bs,bv,aj,af,av,cc,bh,a5,an,aG,cg,c5,ac,bA,ah,bC,b7,ao,a7,ae,aE],[]⟩ w')) :
 Code.wp Tryz.prog rgPt18 Q ⟨#[v0,v1,v2,v3,v4,v5,v6,v7,v8,v9,du,dr,gu,dy,fq,gc,dg,dG,fc,d9,fv,dd,fp,(Value.slice (some ⟨r4,o4,none⟩) 4 c4),(Value.int .i64 (i:Int)),(Value.pointer (some ⟨q,0,none⟩)),gB,f7,ge,dx,fb,gG,gD,dB,gm,fo,gt,g3,fF,gy,fd,gv,fh,d5,gp,dw,fx,gC,fC,fA,fj,gw,dF,g5,fy,dq,g1,dh,fg,f6,gx,fa,fB,da,dH,gh,f8,g8,fH,dz,dD,fe,gk,dk,fE,g0,d7,fG,g4,dj,g9,dA,dC,dn,f9,f5,fi,d8,ga,fw,ff,g2,gj,g6,gd,ft,di,gA,fD,g7,b3,bj,ce,cb,a2,bq,ai,bi,aB,c7,co,cr,b8,c8,bp,b5,bo,a4,b6,bw,a9,ct,ax,cu,a6,ba,am,bz,bB,aH,bt,bu,aa,ak,cq,b4,be,bG,d1,cE,cv,d4,cw,d3,cG,cx,cD,aA,cp,cn,aq,bn,ay,b0,aw,cf,a1,az,bf,c9,bD,a3,bF,b9,ag,bE,cj,bm,ar,br,ca,aF,a8,ad,aC,c6,aD,bs,bv,aj,af,av,cc,bh,a5,an,aG,cg,c5,ac,bA,ah,bC,b7,ao,a7,ae,aE],[]⟩ w2:=by
 dsimp only
 conv=>arg 2;whnf
 have HC:=zQ9 (fun W (hW:Below w2.heap.size w2 W)=>show Calls Tryz.prog 24 #[.agg #[.int .i64 b.t,.slice b.A b.l.length b.c,.slice b.Ak b.ks.length b.ck,.slice b.Ah b.hs.length b.ch,.slice b.Ad b.ds.length b.cd],.agg #[.int .i64 d.kind,.int .i64 d.flock,.int .i64 d.owner,.int .i64 d.other,.int .i64 d.tof,.int .i64 d.many,.int .i64 d.err,.int .i64 d.s.n,.bool d.s.l,.bool d.s.r,.int .i64 d.s.b,.int .i64 d.s.p]] W (EntQ Z er W) from by
  rw[HX.o.1,HX.o.2];exact(q3t b d W (HS.o W hW).2.1).mono fun e w' h=>h.entQ)
 unfold EntQ at HC;have HK:=zQ9 (fun W (hW:Below w2.heap.size w2 W)=>show(W.cell? ⟨q,0,none⟩=some (.int .i64 b.t)∧W.cell? ⟨q,1,none⟩=some b.vm∧W.cell? ⟨q,2,none⟩=some b.vk∧W.cell? ⟨q,3,none⟩=some b.vh∧W.cell? ⟨q,4,none⟩=some b.vd)∧W.cell? ⟨r4,o4+i*12,none⟩=some (.int .i64 d.kind)∧W.cell? ⟨r4,o4+i*12+1,none⟩=some (.int .i64 d.flock)∧W.cell? ⟨r4,o4+i*12+2,none⟩=some (.int .i64 d.owner)∧W.cell? ⟨r4,o4+i*12+3,none⟩=some (.int .i64 d.other)∧W.cell? ⟨r4,o4+i*12+4,none⟩=some (.int .i64 d.tof)∧W.cell? ⟨r4,o4+i*12+5,none⟩=some (.int .i64 d.many)∧W.cell? ⟨r4,o4+i*12+6,none⟩=some (.int .i64 d.err)∧W.cell? ⟨r4,o4+i*12+7,none⟩=some (.int .i64 d.s.n)∧W.cell? ⟨r4,o4+i*12+8,none⟩=some (.bool d.s.l)∧W.cell? ⟨r4,o4+i*12+9,none⟩=some (.bool d.s.r)∧W.cell? ⟨r4,o4+i*12+10,none⟩=some (.int .i64 d.s.b)∧W.cell? ⟨r4,o4+i*12+11,none⟩=some (.int .i64 d.s.p) from⟨(HS.o W hW).1,(HS.o W hW).2.2.2⟩)
 have ⟨⟨c0,c1,c2,c3,c4⟩,z0,z1,z2,z3,z4,z5,z6,z7,z8,z9,h0,gH⟩:=HK.o w2 (zB2 _ _);go_region_held3 (fun w'=>(w'.cell? ⟨q,0,none⟩=some (.int .i64 b.t)∧w'.cell? ⟨q,1,none⟩=some b.vm∧w'.cell? ⟨q,2,none⟩=some b.vk∧w'.cell? ⟨q,3,none⟩=some b.vh∧w'.cell? ⟨q,4,none⟩=some b.vd)∧w'.cell? ⟨r4,o4+i*12,none⟩=some (.int .i64 d.kind)∧w'.cell? ⟨r4,o4+i*12+1,none⟩=some (.int .i64 d.flock)∧w'.cell? ⟨r4,o4+i*12+2,none⟩=some (.int .i64 d.owner)∧w'.cell? ⟨r4,o4+i*12+3,none⟩=some (.int .i64 d.other)∧w'.cell? ⟨r4,o4+i*12+4,none⟩=some (.int .i64 d.tof)∧w'.cell? ⟨r4,o4+i*12+5,none⟩=some (.int .i64 d.many)∧w'.cell? ⟨r4,o4+i*12+6,none⟩=some (.int .i64 d.err)∧w'.cell? ⟨r4,o4+i*12+7,none⟩=some (.int .i64 d.s.n)∧w'.cell? ⟨r4,o4+i*12+8,none⟩=some (.bool d.s.l)∧w'.cell? ⟨r4,o4+i*12+9,none⟩=some (.bool d.s.r)∧w'.cell? ⟨r4,o4+i*12+10,none⟩=some (.int .i64 d.s.b)∧w'.cell? ⟨r4,o4+i*12+11,none⟩=some (.int .i64 d.s.p))
  ((refine HK.o _ ?_
    repeat' (first|(with_reducible exact zB2 _ _)|(with_reducible refine j0w ?_)|(with_reducible refine Below.trans ?_ (Below.mono (bal0 _ _) ?_))|(with_reducible refine Below.trans ?_ (Below.mono a0 ?_))|(with_reducible refine Below.setCell ?_ ?_ _)|omega|exact zL9 _|(simp;done)|(simp;omega)|fail)))
  (first|(go_at_call 24;(with_reducible refine(HC.o _ ?_).mono ?_);(repeat' (first|(with_reducible exact zB2 _ _)|(with_reducible refine j0w ?_)|(with_reducible refine Below.trans ?_ (Below.mono (bal0 _ _) ?_))|(with_reducible refine Below.trans ?_ (Below.mono a0 ?_))|(with_reducible refine Below.setCell ?_ ?_ _)|omega|exact zL9 _|(simp;done)|(simp;omega)|fail));rintro e w3 ⟨⟨A,c,Ak,ck,Ah,ch,Ad,cd,rfl,hO⟩,a0⟩;unfold Hb.v;dsimp only;have gF:=a0.size;(try simp at gF);(try (have hz:w3.heap[w2.heap.size]?=some (boxO 0 (.slice none 0 0) (.slice none 0 0) (.slice none 0 0) (.slice none 0 0)):=j0e (show(w2.drew.alloc _).heap[w2.heap.size]?=_ from j0c rfl) a0 (by first|exact zL9 _|(simp;done));obtain⟨z0,z1,z2,z3,z4⟩:=blk5 hz;obtain⟨f0,f1,f2,f3,f4⟩:=zA9 (frz hz 0) (zA9 (frz hz 1) (zA9 (frz hz 2) (zA9 (frz hz 3) (frz hz 4))));have h4:=j0a hz)))|fail)
 all_goals
  go_wp2_with fail
  first
   | exact HQ.o _ _ _ _ _ _ _ _ _ A Ak Ah Ad c ck ch cd w3.heap.size _ (j0c rfl) ((HbO.mono hO (by first|exact zL9 _|(simp;done)|(simp;omega))).below (bal0 _ _) (zL9 _)) (by omega) (by repeat' (first|(with_reducible exact zB2 _ _)|(with_reducible refine j0w ?_)|(with_reducible refine Below.trans ?_ (Below.mono (bal0 _ _) ?_))|(with_reducible refine Below.trans ?_ (Below.mono a0 ?_))|(with_reducible refine Below.setCell ?_ ?_ _)|omega|exact zL9 _|(simp;done)|(simp;omega)|fail))
   | (have hE:=q1t (w:=w2) (q:=w2.heap.size) (Y:=Hb.mk Z.t A c Z.l Ak ck Z.ks Ah ch Z.hs Ad cd Z.ds) hz (HbO.mono hO (by first|exact zL9 _|(simp;done)|(simp;omega))) (by repeat' (first|(with_reducible exact zB2 _ _)|(with_reducible refine j0w ?_)|(with_reducible refine Below.trans ?_ (Below.mono (bal0 _ _) ?_))|(with_reducible refine Below.trans ?_ (Below.mono a0 ?_))|(with_reducible refine Below.setCell ?_ ?_ _)|omega|exact zL9 _|(simp;done)|(simp;omega)|fail)) (zL9 _)
      exact HQ.o _ _ _ _ _ _ _ _ _ A Ak Ah Ad c ck ch cd w2.heap.size _ hE.1 hE.2.1 (zL9 _) hE.2.2)
noncomputable def rgPt19:Code:=((Tryz.f4.body.bind (j1u 19)).getD .skip)
theorem q5t (w2:World) (b Z:Hb) (d:De) (er:Int) (r1 o1 c1 r4 o4 c4 i:Nat) {v0 v1 v2 v3 v4 v5 v6 v7 v8 v9 dy dx gx dD fx gj dj f7 fg dg di fw dz gE fb gm dB ff fF dC gH h5 fv gw g7 g1 gC fh gy fp d9 gv dA fB gF fG fD ft gA f6 g9 fC dw g5 dk fo fa gB fe fE dh f8 gp fc gd g3 dF f5 fi gu dr g0 g4 da g2 g8 dq ge dG dH du fd f9 fq dd gh fA fj g6 gt ga gk fy dn gD fH gc aH bh cc ca a3 bo ak bf ay c6 cg co b6 c7 bn b3 bm a6 b4 bu ac cp ax cq a8 b9 ao bv bA aG br bs ad an cn b0 ba bF bi aD a1 cj a2 bw b8 a4 aA cA d8 d7 cw cE cy cB cx d5 cr cz cD c8 bC a5 bE b7 ai bD cf bj av bp c9 aE aa af az c5 aB bq bt am ah aw cb be a7 aq aF ce bG ae bz aj bB b5 ar a9 ag aC:Value} (Q:Exit->Act->World->Prop)
 (HX:Q9 (Z=entZ b d∧er=j0x b d)) (HS:Q9 (∀ W,Below w2.heap.size w2 W->(W.cell? ⟨r1,o1+i*5,none⟩=some (.int .i64 b.t)∧W.cell? ⟨r1,o1+i*5+1,none⟩=some b.vm∧W.cell? ⟨r1,o1+i*5+2,none⟩=some b.vk∧W.cell? ⟨r1,o1+i*5+3,none⟩=some b.vh∧W.cell? ⟨r1,o1+i*5+4,none⟩=some b.vd)∧HbIn W b∧HbZ W b∧W.cell? ⟨r4,o4+i*12,none⟩=some (.int .i64 d.kind)∧W.cell? ⟨r4,o4+i*12+1,none⟩=some (.int .i64 d.flock)∧W.cell? ⟨r4,o4+i*12+2,none⟩=some (.int .i64 d.owner)∧W.cell? ⟨r4,o4+i*12+3,none⟩=some (.int .i64 d.other)∧W.cell? ⟨r4,o4+i*12+4,none⟩=some (.int .i64 d.tof)∧W.cell? ⟨r4,o4+i*12+5,none⟩=some (.int .i64 d.many)∧W.cell? ⟨r4,o4+i*12+6,none⟩=some (.int .i64 d.err)∧W.cell? ⟨r4,o4+i*12+7,none⟩=some (.int .i64 d.s.n)∧W.cell? ⟨r4,o4+i*12+8,none⟩=some (.bool d.s.l)∧W.cell? ⟨r4,o4+i*12+9,none⟩=some (.bool d.s.r)∧W.cell? ⟨r4,o4+i*12+10,none⟩=some (.int .i64 d.s.b)∧W.cell? ⟨r4,o4+i*12+11,none⟩=some (.int .i64 d.s.p)))
 (h8:r1<w2.heap.size) (hf:4<=c1) (h4:c1<=maxLen) (h2:b.l.length<=maxLen) (h3:b.ks.length<=maxLen) (ha:r4<w2.heap.size) (i4:(i:Int)<4) (he:4<=c4) (gG:c4<=maxLen)
 (HQ:Q9 (∀ (cv cG ct d2 cH d4 d1 cF cC cu d0 d3:Value) (A Ak Ah Ad:Option Addr) (c ck ch cd r:Nat) (w':World),w'.heap[r]?=some (Hb.obj ⟨Z.t,A,c,Z.l,Ak,ck,Z.ks,Ah,ch,Z.hs,Ad,cd,Z.ds⟩)->HbO w' w2.heap.size ⟨Z.t,A,c,Z.l,Ak,ck,Z.ks,Ah,ch,Z.hs,Ad,cd,Z.ds⟩->w2.heap.size<=r->Below w2.heap.size w2 w'->Q .normal ⟨#[v0,v1,v2,v3,v4,v5,v6,v7,v8,v9,dy,dx,gx,dD,fx,gj,dj,f7,fg,dg,(Value.slice (some ⟨r1,o1,none⟩) 4 c1),di,fw,(Value.slice (some ⟨r4,o4,none⟩) 4 c4),(Value.int .i64 (i:Int)),dz,gE,fb,gm,dB,ff,fF,dC,(Value.pointer (some ⟨r,0,none⟩)),(Value.int .i64 er),fv,gw,g7,g1,gC,fh,gy,fp,d9,gv,dA,fB,gF,fG,fD,ft,gA,f6,g9,fC,dw,g5,dk,fo,fa,gB,fe,fE,dh,f8,gp,fc,gd,g3,dF,f5,fi,gu,dr,g0,g4,da,g2,g8,dq,ge,dG,dH,du,fd,f9,fq,dd,gh,fA,fj,g6,gt,ga,gk,fy,dn,gD,fH,gc,aH,bh,cc,ca,a3,bo,ak,bf,ay,c6,cg,co,b6,c7,bn,b3,bm,a6,b4,bu,ac,cp,ax,cq,a8,b9,ao,bv,bA,aG,br,bs,ad,an,cn,b0,ba,bF,bi,aD,a1,cj,a2,bw,b8,a4,aA,cv,cG,ct,d2,cH,d4,d1,cF,cC,cu,d0,d3,c8,bC,a5,bE,b7,ai,bD,cf,bj,av,bp,c9,aE,aa,af,az,c5,aB,bq,bt,am,ah,aw,cb,be,a7,aq,aF,ce,bG,ae,bz,aj,bB,b5,ar,a9,ag,aC],[]⟩ w')) :
 Code.wp Tryz.prog rgPt19 Q ⟨#[v0,v1,v2,v3,v4,v5,v6,v7,v8,v9,dy,dx,gx,dD,fx,gj,dj,f7,fg,dg,(Value.slice (some ⟨r1,o1,none⟩) 4 c1),di,fw,(Value.slice (some ⟨r4,o4,none⟩) 4 c4),(Value.int .i64 (i:Int)),dz,gE,fb,gm,dB,ff,fF,dC,gH,h5,fv,gw,g7,g1,gC,fh,gy,fp,d9,gv,dA,fB,gF,fG,fD,ft,gA,f6,g9,fC,dw,g5,dk,fo,fa,gB,fe,fE,dh,f8,gp,fc,gd,g3,dF,f5,fi,gu,dr,g0,g4,da,g2,g8,dq,ge,dG,dH,du,fd,f9,fq,dd,gh,fA,fj,g6,gt,ga,gk,fy,dn,gD,fH,gc,aH,bh,cc,ca,a3,bo,ak,bf,ay,c6,cg,co,b6,c7,bn,b3,bm,a6,b4,bu,ac,cp,ax,cq,a8,b9,ao,bv,bA,aG,br,bs,ad,an,cn,b0,ba,bF,bi,aD,a1,cj,a2,bw,b8,a4,aA,cA,d8,d7,cw,cE,cy,cB,cx,d5,cr,cz,cD,c8,bC,a5,bE,b7,ai,bD,cf,bj,av,bp,c9,aE,aa,af,az,c5,aB,bq,bt,am,ah,aw,cb,be,a7,aq,aF,ce,bG,ae,bz,aj,bB,b5,ar,a9,ag,aC],[]⟩ w2:=by
 dsimp only
 conv=>arg 2;whnf
 have HC:=zQ9 (fun W (hW:Below w2.heap.size w2 W)=>show Calls Tryz.prog 25 #[.agg #[.int .i64 b.t,.slice b.A b.l.length b.c,.slice b.Ak b.ks.length b.ck,.slice b.Ah b.hs.length b.ch,.slice b.Ad b.ds.length b.cd],.agg #[.int .i64 d.kind,.int .i64 d.flock,.int .i64 d.owner,.int .i64 d.other,.int .i64 d.tof,.int .i64 d.many,.int .i64 d.err,.int .i64 d.s.n,.bool d.s.l,.bool d.s.r,.int .i64 d.s.b,.int .i64 d.s.p]] W (EntQ Z er W) from by
  rw[HX.o.1,HX.o.2];exact(q2n b d W (HS.o W hW).2.1 (HS.o W hW).2.2.1 h2 h3).mono fun e w' h=>h.entQ)
 unfold EntQ at HC;have HK:=zQ9 (fun W (hW:Below w2.heap.size w2 W)=>show(W.cell? ⟨r1,o1+i*5,none⟩=some (.int .i64 b.t)∧W.cell? ⟨r1,o1+i*5+1,none⟩=some b.vm∧W.cell? ⟨r1,o1+i*5+2,none⟩=some b.vk∧W.cell? ⟨r1,o1+i*5+3,none⟩=some b.vh∧W.cell? ⟨r1,o1+i*5+4,none⟩=some b.vd)∧W.cell? ⟨r4,o4+i*12,none⟩=some (.int .i64 d.kind)∧W.cell? ⟨r4,o4+i*12+1,none⟩=some (.int .i64 d.flock)∧W.cell? ⟨r4,o4+i*12+2,none⟩=some (.int .i64 d.owner)∧W.cell? ⟨r4,o4+i*12+3,none⟩=some (.int .i64 d.other)∧W.cell? ⟨r4,o4+i*12+4,none⟩=some (.int .i64 d.tof)∧W.cell? ⟨r4,o4+i*12+5,none⟩=some (.int .i64 d.many)∧W.cell? ⟨r4,o4+i*12+6,none⟩=some (.int .i64 d.err)∧W.cell? ⟨r4,o4+i*12+7,none⟩=some (.int .i64 d.s.n)∧W.cell? ⟨r4,o4+i*12+8,none⟩=some (.bool d.s.l)∧W.cell? ⟨r4,o4+i*12+9,none⟩=some (.bool d.s.r)∧W.cell? ⟨r4,o4+i*12+10,none⟩=some (.int .i64 d.s.b)∧W.cell? ⟨r4,o4+i*12+11,none⟩=some (.int .i64 d.s.p) from⟨(HS.o W hW).1,(HS.o W hW).2.2.2⟩)
 have ⟨⟨c0,h7,c2,c3,hh⟩,z0,z1,z2,z3,z4,z5,z6,z7,z8,z9,h9,h6⟩:=HK.o w2 (zB2 _ _);go_region_held3 (fun w'=>(w'.cell? ⟨r1,o1+i*5,none⟩=some (.int .i64 b.t)∧w'.cell? ⟨r1,o1+i*5+1,none⟩=some b.vm∧w'.cell? ⟨r1,o1+i*5+2,none⟩=some b.vk∧w'.cell? ⟨r1,o1+i*5+3,none⟩=some b.vh∧w'.cell? ⟨r1,o1+i*5+4,none⟩=some b.vd)∧w'.cell? ⟨r4,o4+i*12,none⟩=some (.int .i64 d.kind)∧w'.cell? ⟨r4,o4+i*12+1,none⟩=some (.int .i64 d.flock)∧w'.cell? ⟨r4,o4+i*12+2,none⟩=some (.int .i64 d.owner)∧w'.cell? ⟨r4,o4+i*12+3,none⟩=some (.int .i64 d.other)∧w'.cell? ⟨r4,o4+i*12+4,none⟩=some (.int .i64 d.tof)∧w'.cell? ⟨r4,o4+i*12+5,none⟩=some (.int .i64 d.many)∧w'.cell? ⟨r4,o4+i*12+6,none⟩=some (.int .i64 d.err)∧w'.cell? ⟨r4,o4+i*12+7,none⟩=some (.int .i64 d.s.n)∧w'.cell? ⟨r4,o4+i*12+8,none⟩=some (.bool d.s.l)∧w'.cell? ⟨r4,o4+i*12+9,none⟩=some (.bool d.s.r)∧w'.cell? ⟨r4,o4+i*12+10,none⟩=some (.int .i64 d.s.b)∧w'.cell? ⟨r4,o4+i*12+11,none⟩=some (.int .i64 d.s.p))
  ((refine HK.o _ ?_
    repeat' (first|(with_reducible exact zB2 _ _)|(with_reducible refine j0w ?_)|(with_reducible refine Below.trans ?_ (Below.mono (bal0 _ _) ?_))|(with_reducible refine Below.trans ?_ (Below.mono a0 ?_))|(with_reducible refine Below.setCell ?_ ?_ _)|omega|exact zL9 _|(simp;done)|(simp;omega)|fail)))
  (first|(go_at_call 25;(with_reducible refine(HC.o _ ?_).mono ?_);(repeat' (first|(with_reducible exact zB2 _ _)|(with_reducible refine j0w ?_)|(with_reducible refine Below.trans ?_ (Below.mono (bal0 _ _) ?_))|(with_reducible refine Below.trans ?_ (Below.mono a0 ?_))|(with_reducible refine Below.setCell ?_ ?_ _)|omega|exact zL9 _|(simp;done)|(simp;omega)|fail));rintro e w3 ⟨⟨A,c,Ak,ck,Ah,ch,Ad,cd,rfl,hO⟩,a0⟩;unfold Hb.v;dsimp only;have h0:=a0.size;(try simp at h0);(try (have hz:w3.heap[w2.heap.size]?=some (boxO 0 (.slice none 0 0) (.slice none 0 0) (.slice none 0 0) (.slice none 0 0)):=j0e (show(w2.drew.alloc _).heap[w2.heap.size]?=_ from j0c rfl) a0 (by first|exact zL9 _|(simp;done));obtain⟨z0,z1,z2,z3,z4⟩:=blk5 hz;obtain⟨f0,f1,f2,f3,f4⟩:=zA9 (frz hz 0) (zA9 (frz hz 1) (zA9 (frz hz 2) (zA9 (frz hz 3) (frz hz 4))));have hj:=j0a hz)))|fail)
 all_goals
  go_wp2_with fail
  first
   | exact HQ.o _ _ _ _ _ _ _ _ _ _ _ _ A Ak Ah Ad c ck ch cd w3.heap.size _ (j0c rfl) ((HbO.mono hO (by first|exact zL9 _|(simp;done)|(simp;omega))).below (bal0 _ _) (zL9 _)) (by omega) (by repeat' (first|(with_reducible exact zB2 _ _)|(with_reducible refine j0w ?_)|(with_reducible refine Below.trans ?_ (Below.mono (bal0 _ _) ?_))|(with_reducible refine Below.trans ?_ (Below.mono a0 ?_))|(with_reducible refine Below.setCell ?_ ?_ _)|omega|exact zL9 _|(simp;done)|(simp;omega)|fail))
   | (have hE:=q1t (w:=w2) (q:=w2.heap.size) (Y:=Hb.mk Z.t A c Z.l Ak ck Z.ks Ah ch Z.hs Ad cd Z.ds) hz (HbO.mono hO (by first|exact zL9 _|(simp;done)|(simp;omega))) (by repeat' (first|(with_reducible exact zB2 _ _)|(with_reducible refine j0w ?_)|(with_reducible refine Below.trans ?_ (Below.mono (bal0 _ _) ?_))|(with_reducible refine Below.trans ?_ (Below.mono a0 ?_))|(with_reducible refine Below.setCell ?_ ?_ _)|omega|exact zL9 _|(simp;done)|(simp;omega)|fail)) (zL9 _)
      exact HQ.o _ _ _ _ _ _ _ _ _ _ _ _ A Ak Ah Ad c ck ch cd w2.heap.size _ hE.1 hE.2.1 (zL9 _) hE.2.2)
end Go.Proofs.YtmennjmjakdkcaaGreat
namespace Go.Proofs.YtmennjmjakdkcaaGreat
open Go.RowKit Go.MapKept
theorem Rns.get {w:World} {A:Option Addr} {n:Nat} {l:List Rn} (h:Sl eRn 2 w A n l) {k:Nat} (hk:k<n) :
 ∃ b off m,A=some ⟨b,off,none⟩∧b<w.heap.size∧l[k]?=some m∧w.cell? ⟨b,off+k*2,none⟩=some (.int .i64 m.lo)∧w.cell? ⟨b,off+k*2+1,none⟩=some (.int .i64 m.hi):=by
 obtain⟨b,off,x,hA,hx,hc⟩:=h.at_ hk;have h0:=hc 0 _ rfl;exact⟨b,off,x,hA,j2c h0,hx,h0,hc 1 _ rfl⟩
theorem j6n (A:Option Addr) (n c:Nat) (x:List Rn) (B:Option Addr) (m d:Nat) (y:List Rn) (w:World) (hx:Sl eRn 2 w A n x) (hy:Sl eRn 2 w B m y) (hn:n<=maxLen) (hm:m<=maxLen) :
 Calls Tryz.prog 26 #[.slice A n c,.slice B m d] w fun e w'=>e=.returned (.bool (j1j x y))∧Below w.heap.size w w':=by
 have HL:=zQ9 (zA9 hx.len hy.len);have a2:=zQ9 (zA9 hx hy);unfold maxLen at hn hm;clear hx hy;by_cases hnm:n=m
 ·subst hnm;have h0:(n != n)=false:=by simp
  have a4:((n:Int) != (n:Int))=false:=by simp
  go_enter Tryz.func26,Tryz.ntmps26
  go_wp2_with fail
  go_loopg [5] n (fun g i wr=>∃ k:Nat,k+g=n∧i=.int .i64 k∧x.take k=y.take k∧∃ q,wr=w.drewN q)
  case atStart=>exact⟨0,by omega,rfl,by simp,0,rfl⟩
  case round =>
   obtain⟨k,hk,rfl,a3,q,rfl⟩:=hrel;have HK:=zQ9 (zA9 hk a3);have a5:k<=n:=by omega
   clear hk a3;by_cases hlt:k<n
   ·obtain⟨b0,o0,u,rfl,a6,hu,p0,p1⟩:=Rns.get a2.o.1 hlt;obtain⟨b1,o1,v,rfl,a7,hv,q0,q1⟩:=Rns.get a2.o.2 hlt;have i0:(0:Int)<=(k:Int):=by omega
    have i1:(k:Int)<(n:Int):=by omega
    have a0:=zQ9 (zA9 hu hv);clear hu hv;by_cases huv:u=v
    ·subst huv;go_upto_region 6 with (fail)
     go_quiet (fail)
     go_wp2
     go_roundg (gk-1)
     case measure=>have:=HK.o.1;omega
     case rel=>exact⟨k+1,by have:=HK.o.1;omega,by go_num,j4l HK.o.2 a0.o.1 a0.o.2 rfl,_,rfl⟩
    ·have a1:=zQ9 huv;cases e1:(u.lo==v.lo)<;>cases e2:(u.hi==v.hi)
     case true.true =>
      exfalso;exact huv (by cases u;cases v;simp at e1 e2;simp[e1,e2])
     all_goals
      clear huv;go_upto_region 6 with (fail)
      go_quiet (fail)
      go_wp2
      go_ret
      exact⟨j0s (by unfold j1j;rw[decide_eq_false (j8d a0.o.1 a0.o.2 a1.o)]),j0k (j0k (zB2 _ _) _) _⟩
   ·obtain rfl:k=n:=by omega
    go_wp2
    go_ret
    refine⟨j0s ?_,j0k (zB2 _ _) _⟩;have h1:=HK.o.2;rw[zB8 (by have:=HL.o.1;omega),zB8 (by have:=HL.o.2;omega)] at h1
    unfold j1j;rw[decide_eq_true h1]
 ·have a4:((n:Int) != (m:Int))=true:=by simp;omega
  have a1:=zQ9 hnm;clear hnm;go_enter Tryz.func26,Tryz.ntmps26
  go_wp2
  go_ret
  refine⟨j0s ?_,zB2 _ _⟩;unfold j1j;rw[decide_eq_false (fun h=>a1.o (by rw[<-HL.o.1,<-HL.o.2,h]))]
theorem j2u.len {α:Type} {enc:α->List Value} {sz:Nat} {w:World} {A:Option Addr} {n:Nat} {ls:List (List α)} (h:j2u enc sz w A n ls):ls.length=n:=by
 obtain⟨mv,h1,h2,_⟩:=h;rw[<-h2];exact h1.len
abbrev Table (w:World) (A:Option Addr) (n:Nat) (ls:List (List Rn)):Prop:=j2u eRn 2 w A n ls
theorem k5z (A:Option Addr) (n c:Nat) (x:List (List Rn)) (B:Option Addr) (m d:Nat) (y:List (List Rn)) (w:World) (hx:Table w A n x) (hy:Table w B m y) (hn:n<=maxLen) (hm:m<=maxLen) :
 Calls Tryz.prog 39 #[.slice A n c,.slice B m d] w fun e w'=>e=.returned (.bool (j1j x y))∧Below w.heap.size w w':=by
 have HL:=zQ9 (zA9 hx.len hy.len);have a5:=zQ9 (zA9 hx hy);unfold maxLen at hn hm;clear hx hy;by_cases hnm:n=m
 ·subst hnm;have h0:(n != n)=false:=by simp
  have ah:((n:Int) != (n:Int))=false:=by simp
  go_enter Tryz.func39,Tryz.ntmps39
  go_wp2_with fail
  go_loopg [5] n (fun g i wr=>∃ k:Nat,k+g=n∧i=.int .i64 k∧x.take k=y.take k∧Below w.heap.size w wr)
  case atStart=>exact⟨0,by omega,rfl,by simp,zB2 _ _⟩
  case round =>
   obtain⟨k,hk,rfl,a9,a1⟩:=hrel;have HK:=zQ9 (zA9 hk a9);have am:k<=n:=by omega
   clear hk a9;by_cases hlt:k<n
   ·obtain⟨b0,o0,C0,u,c0,rfl,an,hu,p0,a8,af,ad⟩:=j2u.get (a5.o.1.below a1 (zL9 _)) hlt;obtain⟨b1,o1,C1,v,c1,rfl,ao,hv,q0,a7,ag,aa⟩:=j2u.get (a5.o.2.below a1 (zL9 _)) hlt;have i0:(0:Int)<=(k:Int):=by omega
    have i1:(k:Int)<(n:Int):=by omega
    have a2:=zQ9 (zA9 hu hv);have aj:u.length<=maxLen:=zB6 af ad;have ac:v.length<=maxLen:=zB6 ag aa;have cS:∀ d os,Calls Tryz.prog 26 #[.slice C0 u.length c0,.slice C1 v.length c1] (Sort.grow (redrawn wr d) os) (fun e w''=>e=.returned (.bool (j1j u v))∧∃ p:Regrown,w''=Sort.grow (redrawn wr p.d) p.os):=fun d os =>
     Calls.regrown_of (j6n C0 u.length c0 u C1 v.length c1 v _ (a8.below (below_regrown wr d os) (zL9 _)) (a7.below (below_regrown wr d os) (zL9 _)) aj ac)
    clear hu hv a8 a7;cases huv:j1j u v
    all_goals
     rw[huv] at cS;have HC:=zQ9 cS;have HE:=zQ9 huv;clear cS huv;go_upto_region 6 with (fail)
     have k0:=cell_regrown p0;have k1:=cell_regrown q0;refine wp_region_quiet_below (by kernel_rfl) (by kernel_rfl) ?_
     repeat (quiet_step (exact HC.o _ _))
     refine wpQuiet_nil ?_;intro _ ae;obtain⟨⟨dq,a6⟩,a4⟩:=ae;subst a4;obtain⟨w3,a3⟩:∃ w3,w3=Sort.grow (redrawn wr dq) a6:=⟨_,rfl⟩;have ai:Below wr.heap.size wr w3:=by rw[a3];exact below_regrown wr dq a6
     rw[<-a3];have a0:=a1.trans (ai.mono a1.size);clear a3 k0 k1 p0 q0;go_wp2
    ·go_ret
     exact⟨j0s (by unfold j1j;rw[decide_eq_false (j8d a2.o.1 a2.o.2 (by have:=HE.o;unfold j1j at this;simpa using this))]),a0⟩
    ·go_roundg (gk-1)
     case measure=>have:=HK.o.1;omega
     case rel=>exact⟨k+1,by have:=HK.o.1;omega,by go_num,j4l HK.o.2 a2.o.1 a2.o.2 (by have:=HE.o;unfold j1j at this;simpa using this),a0⟩
   ·obtain rfl:k=n:=by omega
    go_wp2
    go_ret
    refine⟨j0s ?_,a1⟩;have h1:=HK.o.2;rw[zB8 (by have:=HL.o.1;omega),zB8 (by have:=HL.o.2;omega)] at h1
    unfold j1j;rw[decide_eq_true h1]
 ·have ah:((n:Int) != (m:Int))=true:=by simp;omega
  have ak:=zQ9 hnm;clear hnm;go_enter Tryz.func39,Tryz.ntmps39
  go_wp2
  go_ret
  refine⟨j0s ?_,zB2 _ _⟩;unfold j1j;rw[decide_eq_false (fun h=>ak.o (by rw[<-HL.o.1,<-HL.o.2,h]))]
theorem k5f (A:Option Addr) (n c:Nat) (l:List Sg) (B:Option Addr) (d:Nat) (w:World) (hl:Sights w A n l) (hk:Sights w B n l) (hn:n<=maxLen) :
 Calls Tryz.prog 27 #[.slice A n c,.slice B n d] w fun e w'=>e=.returned (.bool true)∧Below w.heap.size w w':=by
 have HL:=zQ9 (zA9 hl hk);unfold maxLen at hn;clear hl hk;have h0:(n != n)=false:=by simp
 have a2:((n:Int) != (n:Int))=false:=by simp
 go_enter Tryz.func27,Tryz.ntmps27
 go_wp2_with fail
 go_loopg [5] n (fun g i wr=>∃ k:Nat,k+g=n∧i=.int .i64 k∧∃ q,wr=w.drewN q)
 case atStart=>exact⟨0,by omega,rfl,0,rfl⟩
 case round =>
  obtain⟨k,hk,rfl,q,rfl⟩:=hrel;have HK:=zQ9 hk;have a3:k<=n:=by omega
  clear hk;by_cases hlt:k<n
  ·obtain⟨b,off,x,rfl,hb,hx,p0,p1,p2,p3,p4⟩:=Sights.get HL.o.1 hlt;obtain⟨b',a0,y,rfl,a1,hy,s0,s1,s2,s3,s4⟩:=Sights.get HL.o.2 hlt;obtain rfl:x=y:=Option.some.inj (hx.symm.trans hy);clear hx hy;have i0:(0:Int)<=(k:Int):=by omega
   have i1:(k:Int)<(n:Int):=by omega
   go_upto_region 6 with (fail)
   go_quiet (fail)
   go_wp2
   go_roundg (gk-1)
   case measure=>have:=HK.o;omega
   case rel=>exact⟨k+1,by have:=HK.o;omega,by go_num,_,rfl⟩
  ·obtain rfl:k=n:=by omega
   go_wp2
   go_ret
   exact⟨rfl,j0k (zB2 _ _) _⟩
section
variable {base:Nat} {gt:Int} {gl:List Mk}
end
noncomputable def rgPt20:Code:=((Tryz.f4.body.bind (j1u 20)).getD .skip)
theorem pt_same (w2:World) (a b y z:Hb) (ss:List Sg) (R:List Rn) (B A6 A7 A8:Option Addr) (cb mb a6 n a7 a8 q q1 q2 r1 o1 c1 r3 o3 c3 i:Nat) (er ee:Int) {v0 v1 v2 v3 v4 v5 v6 v7 v8 v9 gy g7 h8 gB h2 hG gt g8 gF gm gp gA h0 g1 hE h3 h9 hr g2 ga ha g0 fp fx g3 hw ge ht hH gC fD fy gx fC gu g9 ho i0 gE gh g5 gD fH fv h5 hy hh ft gG h7 g6 fA hA g4 fB gj gw fF hj fq hf hq hn gc he hF hu gH h4 h6 gk fG gd gv i1 hx fE b9 ae aj aC aF bh aH ad br ah bm bC ba ai bz bt bw aG bu bi av bD ax ao ar ay b0 ag bA b7 af aA bo bp bB bs az bj bf an aE bn a9 aB be aa b6 bq am ak aw bv b4 b8 b3 aD a5 b5 aq co cj d8 fd dy c6 cg fi ce cy fb cp du bG cw f9 cn cz cE dz c8 c5 c9 cr cD da dn cc fg dF f7 cF cx dC dx dr f5 f8 ac:Value} (Q:Exit->Act->World->Prop)
 (HB:Q9 (HbIn w2 b∧HbIn w2 a∧a.t=b.t∧a.l=b.l∧a.ks=b.ks∧a.hs=b.hs∧a.ds=b.ds)) (HY:Q9 (HbIn w2 y∧HbIn w2 z∧y.t=z.t∧y.l=z.l∧y.ks=z.ks∧y.hs=z.hs∧y.ds=z.ds)) (HA:Q9 (w2.heap[q]?=some a.obj)) (fw:Q9 (w2.heap[q1]?=some y.obj)) (fo:Q9 (w2.heap[q2]?=some z.obj))
 (HC:Q9 ((w2.cell? ⟨r1,o1+i*5,none⟩=some (.int .i64 b.t)∧w2.cell? ⟨r1,o1+i*5+1,none⟩=some b.vm∧w2.cell? ⟨r1,o1+i*5+2,none⟩=some b.vk∧w2.cell? ⟨r1,o1+i*5+3,none⟩=some b.vh∧w2.cell? ⟨r1,o1+i*5+4,none⟩=some b.vd)∧w2.cell? ⟨r3,o3+i,none⟩=some (.slice B mb cb)))
 (HR:Q9 (Sl eRn 2 w2 A7 n R∧Sl eRn 2 w2 A8 n R∧n<=maxLen)) (HS:Q9 (Sights w2 A6 mb ss∧Sights w2 B mb ss∧mb<=maxLen)) (i7:r1<w2.heap.size) (i8:r3<w2.heap.size) (i4:(i:Int)<4) (ia:4<=c1) (i6:c1<=maxLen) (ie:4<=c3) (i3:c3<=maxLen)
 (HQ:Q9 (∀ (dw cf dA fa f6 cH f2 c7 ca fh ff dk c0 d9 dg cB dh dB dj di cv dd cq cu d5 fc dG f1 ct cG fe fj cC cA dH bF dD:Value) (w':World),Below w2.heap.size w2 w'->Q .normal ⟨#[v0,v1,v2,v3,v4,v5,v6,v7,v8,v9,gy,g7,h8,gB,h2,hG,gt,g8,gF,gm,(Value.slice (some ⟨r1,o1,none⟩) 4 c1),gp,(Value.slice (some ⟨r3,o3,none⟩) 4 c3),gA,(Value.int .i64 (i:Int)),(Value.pointer (some ⟨q,0,none⟩)),(Value.slice A6 mb a6),(Value.slice A7 n a7),(Value.int .i64 er),(Value.slice A8 n a8),(Value.int .i64 er),(Value.pointer (some ⟨q1,0,none⟩)),(Value.int .i64 ee),(Value.pointer (some ⟨q2,0,none⟩)),(Value.int .i64 ee),h0,g1,hE,h3,h9,hr,g2,ga,ha,g0,fp,fx,g3,hw,ge,ht,hH,gC,fD,fy,gx,fC,gu,g9,ho,i0,gE,gh,g5,gD,fH,fv,h5,hy,hh,ft,gG,h7,g6,fA,hA,g4,fB,gj,gw,fF,hj,fq,hf,hq,hn,gc,he,hF,hu,gH,h4,h6,gk,fG,gd,gv,i1,hx,fE,b9,ae,aj,aC,aF,bh,aH,ad,br,ah,bm,bC,ba,ai,bz,bt,bw,aG,bu,bi,av,bD,ax,ao,ar,ay,b0,ag,bA,b7,af,aA,bo,bp,bB,bs,az,bj,bf,an,aE,bn,a9,aB,be,aa,b6,bq,am,ak,aw,bv,b4,b8,b3,aD,a5,b5,aq,dw,cf,dA,fa,f6,cH,f2,c7,ca,fh,ff,dk,c0,d9,dg,cB,dh,dB,dj,di,cv,dd,cq,cu,d5,fc,dG,f1,ct,cG,fe,fj,cC,cA,dH,bF,dD,(Value.bool false),ac],[]⟩ w')) :
 Code.wp Tryz.prog rgPt20 Q ⟨#[v0,v1,v2,v3,v4,v5,v6,v7,v8,v9,gy,g7,h8,gB,h2,hG,gt,g8,gF,gm,(Value.slice (some ⟨r1,o1,none⟩) 4 c1),gp,(Value.slice (some ⟨r3,o3,none⟩) 4 c3),gA,(Value.int .i64 (i:Int)),(Value.pointer (some ⟨q,0,none⟩)),(Value.slice A6 mb a6),(Value.slice A7 n a7),(Value.int .i64 er),(Value.slice A8 n a8),(Value.int .i64 er),(Value.pointer (some ⟨q1,0,none⟩)),(Value.int .i64 ee),(Value.pointer (some ⟨q2,0,none⟩)),(Value.int .i64 ee),h0,g1,hE,h3,h9,hr,g2,ga,ha,g0,fp,fx,g3,hw,ge,ht,hH,gC,fD,fy,gx,fC,gu,g9,ho,i0,gE,gh,g5,gD,fH,fv,h5,hy,hh,ft,gG,h7,g6,fA,hA,g4,fB,gj,gw,fF,hj,fq,hf,hq,hn,gc,he,hF,hu,gH,h4,h6,gk,fG,gd,gv,i1,hx,fE,b9,ae,aj,aC,aF,bh,aH,ad,br,ah,bm,bC,ba,ai,bz,bt,bw,aG,bu,bi,av,bD,ax,ao,ar,ay,b0,ag,bA,b7,af,aA,bo,bp,bB,bs,az,bj,bf,an,aE,bn,a9,aB,be,aa,b6,bq,am,ak,aw,bv,b4,b8,b3,aD,a5,b5,aq,co,cj,d8,fd,dy,c6,cg,fi,ce,cy,fb,cp,du,bG,cw,f9,cn,cz,cE,dz,c8,c5,c9,cr,cD,da,dn,cc,fg,dF,f7,cF,cx,dC,dx,dr,f5,f8,ac],[]⟩ w2:=by
 dsimp only
 conv=>arg 2;whnf
 have c1:∀ d' os,Calls Tryz.prog 26 #[.slice A7 n a7,.slice A8 n a8] (Sort.grow (redrawn w2 d') os) (fun e w''=>e=.returned (.bool true)∧∃ p:Regrown,w''=Sort.grow (redrawn w2 p.d) p.os):=fun d' os=>by have h:=j6n A7 n a7 R A8 n a8 R _ (HR.o.1.below (below_regrown w2 d' os) (zL9 _)) (HR.o.2.1.below (below_regrown w2 d' os) (zL9 _)) HR.o.2.2 HR.o.2.2;rw[j7n] at h;exact Calls.regrown_of h
 have c2:∀ d' os,Calls Tryz.prog 19 #[.agg #[.int .i64 y.t,.slice y.A y.l.length y.c,.slice y.Ak y.ks.length y.ck,.slice y.Ah y.hs.length y.ch,.slice y.Ad y.ds.length y.cd],.agg #[.int .i64 z.t,.slice z.A z.l.length z.c,.slice z.Ak z.ks.length z.ck,.slice z.Ah z.hs.length z.ch,.slice z.Ad z.ds.length z.cd]] (Sort.grow (redrawn w2 d') os) (fun e w''=>e=.returned (.bool true)∧∃ p:Regrown,w''=Sort.grow (redrawn w2 p.d) p.os):=fun d' os=>Calls.regrown_of (k1b y z _ (HY.o.1.below (below_regrown w2 d' os) (zL9 _)) (HY.o.2.1.below (below_regrown w2 d' os) (zL9 _)) HY.o.2.2.1 HY.o.2.2.2.1 HY.o.2.2.2.2.1 HY.o.2.2.2.2.2.1 HY.o.2.2.2.2.2.2)
 have c3:∀ d' os,Calls Tryz.prog 19 #[.agg #[.int .i64 a.t,.slice a.A a.l.length a.c,.slice a.Ak a.ks.length a.ck,.slice a.Ah a.hs.length a.ch,.slice a.Ad a.ds.length a.cd],.agg #[.int .i64 b.t,.slice b.A b.l.length b.c,.slice b.Ak b.ks.length b.ck,.slice b.Ah b.hs.length b.ch,.slice b.Ad b.ds.length b.cd]] (Sort.grow (redrawn w2 d') os) (fun e w''=>e=.returned (.bool true)∧∃ p:Regrown,w''=Sort.grow (redrawn w2 p.d) p.os):=fun d' os=>Calls.regrown_of (k1b a b _ (HB.o.2.1.below (below_regrown w2 d' os) (zL9 _)) (HB.o.1.below (below_regrown w2 d' os) (zL9 _)) HB.o.2.2.1 HB.o.2.2.2.1 HB.o.2.2.2.2.1 HB.o.2.2.2.2.2.1 HB.o.2.2.2.2.2.2)
 have c4:∀ d' os,Calls Tryz.prog 27 #[.slice A6 mb a6,.slice B mb cb] (Sort.grow (redrawn w2 d') os) (fun e w''=>e=.returned (.bool true)∧∃ p:Regrown,w''=Sort.grow (redrawn w2 p.d) p.os):=fun d' os=>Calls.regrown_of (k5f A6 mb a6 ss B cb _ (HS.o.1.below (below_regrown w2 d' os) (zL9 _)) (HS.o.2.1.below (below_regrown w2 d' os) (zL9 _)) HS.o.2.2)
 have bE:=zQ9 (zA9 c1 (zA9 c2 (zA9 c3 c4)));clear c1 c2 c3 c4;obtain⟨⟨d0,d1,d2,d3,d4⟩,e0⟩:=HC.o;obtain⟨a0,a1,a2,a3,a4⟩:=j0h HA.o;obtain⟨s0,s1,s2,s3,s4⟩:=j0h fw.o;obtain⟨t0,t1,t2,t3,t4⟩:=j0h fo.o;have ic:=j0a HA.o;have i9:=j0a fw.o;have ib:=j0a fo.o;have k0:=zA9 (cell_regrown d0) (zA9 (cell_regrown d1) (zA9 (cell_regrown d2) (zA9 (cell_regrown d3) (zA9 (cell_regrown d4) (cell_regrown e0)))));have k1:=zA9 (cell_regrown a0) (zA9 (cell_regrown a1) (zA9 (cell_regrown a2) (zA9 (cell_regrown a3) (cell_regrown a4))));have k2:=zA9 (cell_regrown s0) (zA9 (cell_regrown s1) (zA9 (cell_regrown s2) (zA9 (cell_regrown s3) (cell_regrown s4))));have k3:=zA9 (cell_regrown t0) (zA9 (cell_regrown t1) (zA9 (cell_regrown t2) (zA9 (cell_regrown t3) (cell_regrown t4))));have x1:(er != er)=false:=by simp
 have x2:(ee != ee)=false:=by simp
 clear d0 d1 d2 d3 d4 e0 a0 a1 a2 a3 a4 s0 s1 s2 s3 s4 t0 t1 t2 t3 t4;refine wp_region_quiet_below (by kernel_rfl) (by kernel_rfl) ?_
 repeat (go_big_quiet_step (first|(with_reducible exact bE.o.1 _ _)|(with_reducible exact bE.o.2.1 _ _)|(with_reducible exact bE.o.2.2.1 _ _)|(with_reducible exact bE.o.2.2.2 _ _)|fail))
 refine wpQuiet_nil ?_;intro _ i2;obtain⟨⟨dq,i5⟩,d7⟩:=i2;subst d7;go_wp2_with fail
 exact HQ.o _ _ _ _ _ _ _ _ _ _ _ _ _ _ _ _ _ _ _ _ _ _ _ _ _ _ _ _ _ _ _ _ _ _ _ _ _ _ (below_regrown w2 dq i5)
end Go.Proofs.YtmennjmjakdkcaaGreat
