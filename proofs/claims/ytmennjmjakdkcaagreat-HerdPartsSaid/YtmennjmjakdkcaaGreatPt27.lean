/- HerdParts. -/
import Derived.Test.YtmennjmjakdkcaaGreatPt26
import Derived.Shelf.Abstract
import Derived.Lib.QuietBelowIn
import Derived.RangeFuncBound
import Derived.RangeFuncCalls
import Derived.RangeFuncLeaves
import Derived.Shelf.RegionOpen
import Derived.OwnWalkIn
import Derived.TacticsInMore
import Derived.LoopNIn
import Derived.LoopIn
set_option linter.unusedVariables false
set_option linter.unusedSimpArgs false
set_option maxRecDepth 100000
set_option maxHeartbeats 1000000
namespace Go.Proofs.YtmennjmjakdkcaaGreat
open Go.RowKit
structure HbZ (w:World) (b:Hb):Prop where
 m:b.A=none->b.c=0
 k:b.Ak=none->b.ck=0
 h:j1d w b.Ah b.hs.length b.hs
 d:b.Ad=none->b.cd=0
theorem HbZ.below {w w':World} {b:Hb} {B:Nat} (h:HbZ w b) (hb:Below B w w') (hB:w.heap.size<=B):HbZ w' b:=⟨h.m,h.k,h.h.below hb hB,h.d⟩
theorem HbO.z {w:World} {base:Nat} {b:Hb} (h:HbO w base b):HbZ w b:=by
 obtain⟨A1,c1,e1,-,-,-,z1⟩:=h.m.formZ j2h;obtain⟨A2,c2,e2,-,-,-,z2⟩:=h.k.formZ j0n;obtain⟨A3,c3,e3,g3,-,-,z3⟩:=h.h.formZ;obtain⟨A4,c4,e4,-,-,-,z4⟩:=h.d.formZ j3k;injection e1 with a1 _ b1
 injection e2 with a2 _ b2
 injection e3 with a3 _ b3
 injection e4 with a4 _ b4
 exact⟨fun e=>by rw[b1];exact z1 (a1 ▸ e),fun e=>by rw[b2];exact z2 (a2 ▸ e),a3 ▸ g3,fun e=>by rw[b4];exact z4 (a4 ▸ e)⟩
def FOG (base:Nat) (l:List (List Int)):VF:=fun v w=>OwnG w base v l
theorem FOG.st {base:Nat} {l:List (List Int)} (i:Nat) (v:Value) (w w':World) (hT:TBw i w w') (h:FOG base l v w):FOG base l v w':=OwnG.below h hT (zL9 _)
def FE0 (base:Nat):VF:=fun v w=>∃ q:Nat,v=.slice (some ⟨q,0,none⟩) 0 0∧base<=q∧w.heap[q]?=some (.cells #[] 33 (0,0))
theorem FE0.st {base:Nat} (i:Nat) (v:Value) (w w':World) (hT:TBw i w w') (h:FE0 base v w):FE0 base v w':=by
 obtain⟨q,h1,h2,h3⟩:=h;exact⟨q,h1,h2,j0e h3 hT (zL9 _)⟩
theorem k8q (b:Hb) (w:World) (hin:HbIn w b) (hz:HbZ w b) (hl:b.l.length<=1000) (hk:b.ks.length<=1000) (hh:b.hs.length<=1000) (hd:b.ds.length<=1000) (hr:∀ r∈b.hs,r.length<=1000):Calls Tryz.prog 11 #[b.v] w (k8d b w):=by
 obtain⟨V,hV⟩:∃ V,V=(w.alloc b.obj).alloc (Obj.cells #[.int .i64 0,.slice none 0 0,.slice none 0 0,.slice none 0 0,.slice none 0 0] 29):=⟨_,rfl⟩;obtain⟨g,hg⟩:∃ g,g=w.heap.size:=⟨_,rfl⟩;have b0:V.heap[g]?=some b.obj:=by rw[hV,hg];exact j0b (j0c rfl) _
 have b1:V.heap[g+1]?=some (boxO 0 (.slice none 0 0) (.slice none 0 0) (.slice none 0 0) (.slice none 0 0)):=by rw[hV,hg];exact j0c (by simp)
 have an:Below w.heap.size w V:=by rw[hV];exact(bal0 w _).trans ((bal0 _ _).mono (by simp))
 have ar:=hin.below an (zL9 _);have b4:V.heap.size=g+2:=by rw[hV,hg];simp
 obtain⟨c0,c1,c2,c3,c4⟩:=j0h b0;have ax:=k3m b.t b.A b.l.length b.c b.l V ar.m hz.m (by omega)
 have HZ:=zQ9 hz;clear hz;have HV:=zQ9 (zA9 an (zA9 b0 (zA9 b1 (zA9 ar (zA9 b4 hg)))));have b8:=zQ9 hin;unfold Hb.v;go_enter Tryz.func11,Tryz.ntmps11
 go_upto_region 1 with (fail)
 rw[<-hV,<-hg];have bm:=j0a b0;clear hV hg hin an ar b0 b1 b4;go_wp2_with fail
 with_reducible refine ax.mono ?_
 rintro e w2 ⟨⟨A1,a1,rfl,ak,-,-,-,-⟩,ag⟩;have x0:=j0e HV.o.2.1 ag (zL9 _);have x1:=j0e HV.o.2.2.1 ag (zL9 _);clear c0 c1 c2 c3 c4 ax;obtain⟨c0,c1,c2,c3,c4⟩:=j0h x0;have f0:=frz x0 0;have f1:=frz x0 1;have bf:=j0a x0;go_upto_region 2 with (fail)
 obtain⟨W3,a7⟩:∃ W3,W3=(w2.setCell ⟨g,0,none⟩ (.int .i64 b.t)).setCell ⟨g,1,none⟩ (.slice A1 b.l.length a1):=⟨_,rfl⟩;rw[<-a7];have a0:∀ j,j≠g->W3.heap[j]?=w2.heap[j]?:=fun j hj=>by rw[a7];exact(zB1 _ ⟨g,1,none⟩ _ j hj).trans (zB1 _ ⟨g,0,none⟩ _ j hj)
 have x3:W3.heap[g]?=some (boxO b.t (.slice A1 b.l.length a1) b.vk b.vh b.vd):=by rw[a7];exact(j0g (j0g x0)).trans (by simp[boxO,Hb.vk,Hb.vh,Hb.vd])
 have y3:=(a0 (g+1) (by omega)).trans x1
 have az:=HV.o.1.trans (ag.mono HV.o.1.size);have am:Below w.heap.size w W3:=by rw[a7];exact Below.setCell (Below.setCell az (p:=⟨g,0,none⟩) (by rw[<-HV.o.2.2.2.2.2];exact zL9 _) _) (p:=⟨g,1,none⟩) (by rw[<-HV.o.2.2.2.2.2];exact zL9 _) _
 have aE:=b8.o.below am (zL9 _);have ba:=ag.size;have aj:g+2<=W3.heap.size:=(by have h1:W3.heap.size=w2.heap.size:=(by rw[a7];simp[World.setCell]);have:=HV.o.2.2.2.2.1;omega)
 have b9:OwnM W3 (g+2) (.slice A1 b.l.length a1) b.l:=by
  rw[HV.o.2.2.2.2.1] at ak;exact ak.upon fun j hj=>a0 j (by omega)
 have H3:=zQ9 (zA9 x3 (zA9 y3 (zA9 am (zA9 aE (zA9 aj b9)))));clear a7 a0 x3 y3 az am aE ba ak ag x0 x1 c0 c1 c2 c3 c4 f0 f1 bf;have a2:Below W3.heap.size W3 W3.drew:=j0w (zB2 _ _);have HC:=zQ9 (fun(w':World) (hp:Below W3.drew.heap.size W3.drew w')=>zA9 (j0h (j0e (j0e H3.o.1 a2 (zL9 _)) hp (zL9 _))) (j0a (j0e (j0e H3.o.1 a2 (zL9 _)) hp (zL9 _))))
 have ah:=zQ9 (zA9 (H3.o.2.2.2.1.below a2 (zL9 _)) ((HZ.o.below H3.o.2.2.1 (zL9 _)).below a2 (zL9 _)));have bi:g+2<=W3.drew.heap.size:=aj;clear a2 aj;go_wp2_with fail
 refine j0q 11 0 0 [] [] 0 (TBw) (PBw W3.drew) [0,0,0,0,0,0,0,0,0,0,0] (by as_aux_lemma=>kernel_rfl) (by as_aux_lemma=>kernel_rfl) (by as_aux_lemma=>kernel_rfl) (by as_aux_lemma=>kernel_rfl) (by omega) (.inl rfl) rfl rfl (fun k i w1 w2 hc _ hT hp=>PBw.st k i w1 w2 hT hp) (fun k=>zB2 _ _) ?_
 apply zC2;refine⟨fun ys=>?_,fun ops K hK=>?_⟩
 ·simp only[List.take_succ_cons,List.take_zero,j0p,List.filterMap_cons,List.filterMap_nil,j0r];go_simp
  rfl
 simp only[List.take_succ_cons,List.take_zero,List.drop_succ_cons,List.drop_zero] at hK ⊢
 repeat
  refine LexT.const TBw.rf ?_;apply zC2;refine⟨fun ys w' hp hpk hq hd=>?_,?_⟩
  ·try simp[j0d,j0f,DF.holds,Region.binds,EqF] at hd
   try simp only[hd]
   obtain⟨⟨c0,c1,c2,c3,c4⟩,aq⟩:=HC.o w' hp;intro Q2 a4;go_wp2_with fail
   rfl
  try simp only[nl9]
 refine LexT.some (FOI (g+2) b.ks) (fun i v w1 w2 hc _ hT h=>FOI.st i v w1 w2 hT h) (fun ys w' hp hpk hq hd=>?_) ?_
 ·try simp[j0d,j0f,DF.holds,Region.binds,EqF] at hd
  try simp only[hd]
  have aA:=Below.size hp;have ac:=k1i b.Ak b.ks.length b.ck b.ks w' (ah.o.1.k.below hp (zL9 _)) ah.o.2.k (by omega)
  clear hp hpk;intro Q2 a4;go_wp2_with fail
  refine ac.mono ?_;rintro e w4 ⟨v,rfl,ho,hb⟩;have HX:=zQ9 (show TBw 0 w' w4∧FOI (g+2) b.ks v w4 from⟨hb,ho.mono (by omega)⟩)
  clear ho hb ac;go_wp2
  exact⟨_,rfl,HX.o⟩
 try simp only[nl9]
 repeat
  refine LexT.const TBw.rf ?_;apply zC2;refine⟨fun ys w' hp hpk hq hd=>?_,?_⟩
  ·try simp[j0d,j0f,DF.holds,Region.binds,EqF] at hd
   try simp only[hd]
   obtain⟨⟨c0,c1,c2,c3,c4⟩,aq⟩:=HC.o w' hp;intro Q2 a4;go_wp2_with fail
   rfl
  try simp only[nl9]
 refine LexT.some (FOG (g+2) b.hs) (fun i v w1 w2 hc _ hT h=>FOG.st i v w1 w2 hT h) (fun ys w' hp hpk hq hd=>?_) ?_
 ·try simp[j0d,j0f,DF.holds,Region.binds,EqF] at hd
  try simp only[hd]
  have aA:=Below.size hp;have ac:=k1h b.Ah b.hs.length b.ch b.hs w' (ah.o.2.h.below hp (zL9 _)) hh hr;clear hp hpk;intro Q2 a4;go_wp2_with fail
  refine ac.mono ?_;rintro e w4 ⟨⟨v,rfl,ho⟩,hb⟩;have HX:=zQ9 (show TBw 0 w' w4∧FOG (g+2) b.hs v w4 from⟨hb,ho.ownG.mono (by omega)⟩)
  clear ho hb ac;go_wp2
  exact⟨_,rfl,HX.o⟩
 try simp only[nl9]
 refine LexT.some (FE0 (g+2)) (fun i v w1 w2 hc _ hT h=>FE0.st i v w1 w2 hT h) (fun ys w' hp hpk hq hd=>?_) ?_
 ·try simp[j0d,j0f,DF.holds,Region.binds,EqF] at hd
  try simp only[hd]
  have aA:=Below.size hp;have HX:=zQ9 (show TBw 0 w' (w'.alloc (Obj.cells #[] 33))∧FE0 (g+2) (.slice (some ⟨w'.heap.size,0,none⟩) 0 0) (w'.alloc (Obj.cells #[] 33)) from⟨bal0 _ _,w'.heap.size,rfl,by omega,j0c rfl⟩)
  clear hp hpk;intro Q2 a4;go_wp2_with fail
  exact HX.o
 try simp only[nl9]
 repeat
  refine LexT.const TBw.rf ?_;apply zC2;refine⟨fun ys w' hp hpk hq hd=>?_,?_⟩
  ·try simp[j0d,j0f,DF.holds,Region.binds,EqF] at hd
   try simp only[hd]
   obtain⟨⟨c0,c1,c2,c3,c4⟩,aq⟩:=HC.o w' hp;intro Q2 a4;go_wp2_with fail
   rfl
  try simp only[nl9]
 refine LexT.some (FOD (g+2) b.ds) (fun i v w1 w2 hc _ hT h=>FOD.st i v w1 w2 hT h) (fun ys w' hp hpk hq hd=>?_) ?_
 ·try simp[j0d,j0f,DF.holds,Region.binds,EqF] at hd
  try simp only[hd]
  obtain⟨⟨q,aG,aB,aC⟩,ay,-⟩:=hd;have aF:=ah.o.1.d.below hp (zL9 _);simp only[aG,ay];have ao:=zQ9 (zA9 aB (zA9 aC aF));clear hp hpk aG ay aB aC aF;intro Q2 a4;go_wp2_with (at_builtin;refine j5e j9q rfl (.tmp 13) (.tmp 15) rfl (g+2) q b.Ad b.ds.length b.cd b.ds rfl ao.o.2.1 rfl ao.o.2.2 ah.o.2.d j3k j7r (by omega) (by decide) ao.o.1 ?_;intro v' w5 a3 b3;have HX:=zQ9 (show TBw 0 w' w5∧FOD (g+2) b.ds v' w5 from⟨b3,a3⟩);clear a3 b3)
  exact HX.o
 try simp only[nl9]
 repeat
  refine LexT.const TBw.rf ?_;apply zC2;refine⟨fun ys w' hp hpk hq hd=>?_,?_⟩
  ·try simp[j0d,j0f,DF.holds,Region.binds,EqF] at hd
   try simp only[hd]
   obtain⟨⟨c0,c1,c2,c3,c4⟩,aq⟩:=HC.o w' hp;intro Q2 a4;go_wp2_with fail
   rfl
  try simp only[nl9]
 refine hK _ fun ys w' hp hF=>?_
 simp[AllF,DF.holds] at hF;obtain⟨-,-,f9,-,-,a6,-,-,-,a5,aD⟩:=hF;replace hp:Below W3.drew.heap.size W3.drew w':=hp;replace f9:OwnI w' (g+2) (ys 9) b.ks:=f9;replace a6:OwnG w' (g+2) (ys 12) b.hs:=a6;replace a5:OwnD w' (g+2) (ys 16) b.ds:=a5;obtain⟨A9,a9,e9,-,-,-⟩:=f9.form j0n;obtain⟨a8,aa,aw,-,-,-⟩:=a6.form;obtain⟨af,ae,av,-,-,-⟩:=a5.form j3k;rw[e9] at f9;rw[aw] at a6;rw[av] at a5;simp only[e9,aw,av,aD];have a2:Below W3.heap.size W3 W3.drew:=j0w (zB2 _ _);have ad:=a2.trans (hp.mono a2.size);have x4:=j0e H3.o.1 ad (zL9 _);have y4:=j0e H3.o.2.1 ad (zL9 _);have o4:=H3.o.2.2.2.2.2.below ad (zL9 _);obtain⟨c0,c1,c2,c3,c4⟩:=blk5 x4;obtain⟨d0,d1,d2,d3,d4⟩:=blk5 y4;have q2:=frz x4 2;have q3:=frz x4 3;have q4:=frz x4 4;obtain⟨e0,e1,e2,e3,e4⟩:=zA9 (frz y4 0) (zA9 (frz y4 1) (zA9 (frz y4 2) (zA9 (frz y4 3) (frz y4 4))));have bj:=j0a x4;have bh:=j0a y4;have H4:=zQ9 (zA9 x4 (zA9 y4 (zA9 ad (zA9 o4 (zA9 f9 (zA9 a6 a5))))));clear hK e9 aw av aD a2 hp x4 y4 ad o4 f9 a6 a5;go_wp2_with fail
 obtain⟨Z,hZ⟩:∃ Z,Z=((((((((w'.setCell ⟨g,2,none⟩ (.slice A9 b.ks.length a9)).setCell ⟨g,3,none⟩ (.slice a8 b.hs.length aa)).setCell ⟨g,4,none⟩ (.slice af b.ds.length ae)).setCell ⟨g+1,0,none⟩ (.int .i64 b.t)).setCell ⟨g+1,1,none⟩ (.slice A1 b.l.length a1)).setCell ⟨g+1,2,none⟩ (.slice A9 b.ks.length a9)).setCell ⟨g+1,3,none⟩ (.slice a8 b.hs.length aa)).setCell ⟨g+1,4,none⟩ (.slice af b.ds.length ae)):=⟨_,rfl⟩;rw[<-hZ];have ai:Z.heap[g+1]?=some (boxO b.t (.slice A1 b.l.length a1) (.slice A9 b.ks.length a9) (.slice a8 b.hs.length aa) (.slice af b.ds.length ae)):=by
  rw[hZ];exact(j0g (j0g (j0g (j0g (j0g ((zB1 _ ⟨g,4,none⟩ _ (g+1) (by dsimp;omega)).trans ((zB1 _ ⟨g,3,none⟩ _ (g+1) (by dsimp;omega)).trans ((zB1 _ ⟨g,2,none⟩ _ (g+1) (by dsimp;omega)).trans H4.o.2.1)))))))).trans (by simp[boxO])
 have a0:∀ j,g+2<=j->Z.heap[j]?=w'.heap[j]?:=fun j hj=>by
  rw[hZ,zB1 _ ⟨g+1,4,none⟩ _ j (by dsimp;omega),zB1 _ ⟨g+1,3,none⟩ _ j (by dsimp;omega),zB1 _ ⟨g+1,2,none⟩ _ j (by dsimp;omega),zB1 _ ⟨g+1,1,none⟩ _ j (by dsimp;omega),zB1 _ ⟨g+1,0,none⟩ _ j (by dsimp;omega),zB1 _ ⟨g,4,none⟩ _ j (by dsimp;omega),zB1 _ ⟨g,3,none⟩ _ j (by dsimp;omega),zB1 _ ⟨g,2,none⟩ _ j (by dsimp;omega)]
 have b7:=HV.o.2.2.2.2.2;have aH:Below w.heap.size w Z:=by
  have h1:=H3.o.2.2.1.trans (H4.o.2.2.1.mono H3.o.2.2.1.size);rw[hZ];exact Below.setCell (Below.setCell (Below.setCell (Below.setCell (Below.setCell (Below.setCell (Below.setCell (Below.setCell h1 (p:=⟨g,2,none⟩) (by dsimp;omega) _) (p:=⟨g,3,none⟩) (by dsimp;omega) _) (p:=⟨g,4,none⟩) (by dsimp;omega) _) (p:=⟨g+1,0,none⟩) (by dsimp;omega) _) (p:=⟨g+1,1,none⟩) (by dsimp;omega) _) (p:=⟨g+1,2,none⟩) (by dsimp;omega) _) (p:=⟨g+1,3,none⟩) (by dsimp;omega) _) (p:=⟨g+1,4,none⟩) (by dsimp;omega) _
 have h1:=H4.o.2.2.2;have b5:HbO Z w.heap.size ⟨b.t,A1,a1,b.l,A9,a9,b.ks,a8,aa,b.hs,af,ae,b.ds⟩ :=
  ⟨(h1.1.upon a0).mono (by omega),(h1.2.1.upon a0).mono (by omega),(h1.2.2.1.upon a0).mono (by omega),(h1.2.2.2.upon a0).mono (by omega)⟩
 obtain⟨p0,p1,p2,p3,p4⟩:=blk5 ai;have b6:=zQ9 (zA9 b5 aH);have be:=j0a ai;clear hZ ai a0 b7 aH h1 b5 c0 c1 c2 c3 c4 d0 d1 d2 d3 d4 q2 q3 q4 e0 e1 e2 e3 e4;refine bodyPost_ret (v:=Hb.v ⟨b.t,A1,a1,b.l,A9,a9,b.ks,a8,aa,b.hs,af,ae,b.ds⟩) (by unfold Hb.v;simp[results,Tryz.f11,go_sem,p0,p1,p2,p3,p4,be]) rfl ⟨⟨_,_,_,_,_,_,_,_,rfl,b6.o.1⟩,b6.o.2⟩
end Go.Proofs.YtmennjmjakdkcaaGreat
namespace Go.Proofs.YtmennjmjakdkcaaGreat
open Go.RowKit Go.MapKept
attribute [local go_sem] Oper.semAt_some
theorem q5g (k:Int) (hk:1<=k∧k<=6):Enters Tryz.prog (kf k):=by
 obtain rfl|rfl|rfl|rfl|rfl|rfl:k=1∨k=2∨k=3∨k=4∨k=5∨k=6:=by omega
 ·exact enters_of Tryz.func133 (by kernel_rfl) rfl
 ·exact enters_of Tryz.func134 (by kernel_rfl) rfl
 ·exact enters_of Tryz.func135 (by kernel_rfl) rfl
 ·exact enters_of Tryz.func136 (by kernel_rfl) rfl
 ·exact enters_of Tryz.func137 (by kernel_rfl) rfl
 ·exact enters_of Tryz.func138 (by kernel_rfl) rfl
def Keys (b:Hb) (deed owner:Int) (i:Nat) (K:List (List Int)):Prop:=∀ x,x∈K↔x∈j1g b.t b.l b.hs b.ds deed owner i
def InnR (w4 wi:World) (S2 M r:Nat) (K:List (List Int)) (sc:List Int->List (List Int)) (g:Nat):Prop :=
 ∃ L done K2,g=L.length∧K.Perm (done++L)∧j2v wi M r K L∧MetH wi S2 K2∧(∀ x,x∈K2↔∃ h∈done,x∈sc h)∧wi.os=w4.os∧wi.tape=w4.tape∧wi.output=w4.output∧w4.heap.size+1<=wi.heap.size∧∀ j,j<w4.heap.size->j≠S2->wi.heap[j]?=w4.heap[j]?
theorem InnR.next {w4 w5 w6:World} {S2 M r:Nat} {K K2 L L' done:List (List Int)} {x:List Int} {sc:List Int->List (List Int)} (a0:K.Perm (done++L)) (hp:L.Perm (x::L')) (hP:PutsH w5 w6 S2 (sc x)) (hm:MetH w5 S2 K2) (hi:j2v w5 M r K L')
 (hk:∀ y,y∈K2↔∃ h∈done,y∈sc h) (hM:M≠S2) (hr:r≠S2) (ho:w5.os=w4.os) (ht:w5.tape=w4.tape) (hu:w5.output=w4.output) (hz:w4.heap.size+1<=w5.heap.size) (hf:∀ j,j<w4.heap.size->j≠S2->w5.heap[j]?=w4.heap[j]?) :
 InnR w4 w6 S2 M r K sc L'.length:=by
 obtain⟨K',h1,h2⟩:=hP.met K2 hm;have hg:=hP.gr;refine⟨L',done++[x],K',rfl,?_,?_,h1,fun y=>?_,hg.os.trans ho,hg.tape.trans ht,hg.output.trans hu,zB6 hz hg.size,fun j hj hne=>?_⟩
 ·refine a0.trans ?_;rw[List.append_assoc];exact(hp.append_left done)
 ·have a1:=hi.met.lt;have a2:=hi.lt;exact hi.keep (hg.block M a1 (fun e=>by cases e;exact hM rfl)) (hg.block r a2 (fun e=>by cases e;exact hr rfl))
 ·rw[h2,hk];constructor
  ·rintro(⟨h,hh,hy⟩|hy)
   ·exact⟨h,List.mem_append.2 (.inl hh),hy⟩
   ·exact⟨x,by simp,hy⟩
  ·rintro⟨h,hh,hy⟩;rcases List.mem_append.1 hh with hh|hh
   ·exact .inl ⟨h,hh,hy⟩
   ·simp at hh;subst hh;exact .inr hy
 ·exact(hg.block j (by omega) (fun e=>by cases e;exact hne rfl)).trans (hf j hj hne)
structure TE (S:Nat) (x:List Int) (p:Nat) (n:Nat) (a b:World):Prop where
 os:b.os=a.os
 tape:b.tape=a.tape
 output:b.output=a.output
 size:a.heap.size<=b.heap.size
 block:∀ k,k<S->b.heap[k]?=a.heap[k]?
 mp:∀ M K,MetH a M K->S<=M->(∀ k∈K,k=x)->∃ K',MetH b M K'∧(∀ k∈K',k=x)∧(x∈K->x∈K')
 dm:∀ D,S<=D->a.heap[D]?=some (.map (j2b p) 6)->b.heap[D]?=some (.map (j2b p) 6)
section
variable {S:Nat} {x:List Int} {p:Nat}
theorem TE.rf (w:World):TE S x p 1 w w:=⟨rfl,rfl,rfl,zL9 _,fun _ _=>rfl,fun M K h _ hk=>⟨K,h,hk,id⟩,fun _ _ h=>h⟩
theorem TE.tr:∀ n a b c,TE S x p n a b->TE S x p 1 b c->TE S x p (n+1) a c:=fun n a b c h k =>
 ⟨k.os.trans h.os,k.tape.trans h.tape,k.output.trans h.output,zB6 h.size k.size,fun i hi=>(k.block i hi).trans (h.block i hi),fun M K hM hS hK=>by
  obtain⟨K1,a1,a2,a3⟩:=h.mp M K hM hS hK;obtain⟨K2,b1,b2,b3⟩:=k.mp M K1 a1 hS a2;exact⟨K2,b1,b2,fun e=>b3 (a3 e)⟩,fun D hD hd=>k.dm D hD (h.dm D hD hd)⟩
theorem TE.draw (w:World):TE S x p 0 w { w with drawn:=w.drawn+1 }:=⟨rfl,rfl,rfl,zL9 _,fun _ _=>rfl,fun M K h _ hk=>⟨K,h,hk,id⟩,fun _ _ h=>h⟩
theorem TE.of {a b:World} {B:Nat} (h:Below B a b) (hB:a.heap.size<=B) (hS:S<=a.heap.size):TE S x p 1 a b :=
 ⟨h.os,h.tape,h.output,h.size,fun k hk=>h.block k (by omega),fun M K hM _ hK=>⟨K,hM.keep (h.block M (by have:=hM.lt;omega)),hK,id⟩,fun D _ hd=>j0e hd h hB⟩
theorem does_no {w:World} {M:Nat} {K:List (List Int)} (h:MetH w M K):w.heap[M]?≠some (.map (j2b p) 6):=by
 obtain⟨es,c,h1,h2,h3,h4⟩:=h;intro e;rw[h1] at e;injection e with e
 injection e with e1 e2
 have hm:(⟨.int .i64 1,(.func (.func 133) #[.pointer (some ⟨p,0,none⟩)] #[]),0⟩:MapEntry)∈es.toList:=by rw[e1];simp[j2b]
 obtain⟨k,_,hk,_⟩:=j8s h3 hm;cases hk
theorem TE.put {a:World} {M:Nat} {K K':List (List Int)} {ob:Obj} (h:MetH a M K) (hS:S<=M) (hK:∀ k∈K,k=x) (h1:∀ w':World,w'.heap[M]?=some ob->MetH w' M K') (h2:∀ q,q∈K'↔q∈K∨q=x):TE S x p 1 a { a with heap:=a.heap.setIfInBounds M ob }:=by
 have a1:=h.lt;have a0:∀ k,k≠M->({ a with heap:=a.heap.setIfInBounds M ob }:World).heap[k]?=a.heap[k]?:=fun k hk=>Array.getElem?_setIfInBounds_ne (fun e=>hk e.symm)
 refine⟨rfl,rfl,rfl,by simp,fun k hk=>a0 k (by omega),fun N L hN _ hL=>?_,fun D _ hd=>?_⟩
 ·by_cases e:N=M
  ·subst e;obtain rfl:=h.uniq hN;refine⟨K',h1 _ (Array.getElem?_setIfInBounds_self_of_lt a1),fun k hk=>?_,fun _=>(h2 _).2 (.inr rfl)⟩
   rcases(h2 k).1 hk with hk|hk
   ·exact hK k hk
   ·exact hk
  ·exact⟨L,hN.keep (a0 N e),hL,id⟩
 ·rw[a0 D (fun e=>does_no h (e ▸ hd))]
  exact hd
def FM (S:Nat) (x:List Int):VF:=fun v w=>∃ M,S<=M∧v=.map (some M)∧∃ K,MetH w M K∧∀ k∈K,k=x
def FMx (S:Nat) (x:List Int):VF:=fun v w=>∃ M,S<=M∧v=.map (some M)∧∃ K,MetH w M K∧(∀ k∈K,k=x)∧x∈K
def FD (S p:Nat):VF:=fun v w=>∃ D,S<=D∧v=.map (some D)∧w.heap[D]?=some (.map (j2b p) 6)
theorem FM.st:∀ n v w w',TE S x p n w w'->FM S x v w->FM S x v w':=fun n v w w' h ⟨M,h1,h2,K,h3,h4⟩=>by
 obtain⟨K',a1,a2,_⟩:=h.mp M K h3 h1 h4;exact⟨M,h1,h2,K',a1,a2⟩
theorem FMx.st:∀ n v w w',TE S x p n w w'->FMx S x v w->FMx S x v w':=fun n v w w' h ⟨M,h1,h2,K,h3,h4,h5⟩=>by
 obtain⟨K',a1,a2,a3⟩:=h.mp M K h3 h1 h4;exact⟨M,h1,h2,K',a1,a2,a3 h5⟩
theorem FD.st:∀ n v w w',TE S x p n w w'->FD S p v w->FD S p v w':=fun n v w w' h ⟨D,h1,h2,h3⟩=>⟨D,h1,h2,h.dm D h1 h3⟩
theorem one_key {K:List (List Int)} (hn:K.Nodup) (h:∀ k∈K,k=x) (hx:x∈K):K=[x]:=by
 cases K with
 | nil=>cases hx
 | cons a K =>
   obtain rfl:=h a List.mem_cons_self;cases K with
   | nil=>rfl
   | cons c K =>
     have:=h c (by simp)
     subst this;simp at hn
end
def EqF' (c:Value):VF:=fun v _=>v=c
theorem ends_it (n:Nat) (hn:1<=n) (w0:World) (p q:Nat) (b:Hb) (deed owner:Int) (w:World) (hW:Work w0 p b deed owner w) (hq:w.heap[q]?=some (Obj.cells #[.pointer (some ⟨p,0,none⟩)] 98 (0,0))) :
 SeqE Fence.wide n Tryz.prog 115 #[.pointer (some ⟨q,0,none⟩)] (fun x=>#[.agg (hcs x)]) (ExN p) (fun xs=>xs.Perm (b.ends deed owner)) (fun pre=>∃ r,(pre++r).Perm (b.ends deed owner)) w:=fun l J Jx W hBW hJ hJx hJE hY h0=>by
 have aC:=hW.below hBW (zL9 _);have bt:=j0e hq hBW (zL9 _);have cv:q≠p:=by
  intro e;obtain⟨now,hp⟩:=hW.hp;rw[e,hp] at hq;cases hq
 have aw:=aC.lt;have hf:=j0a bt;have ag:=aC.ok;obtain⟨now,hp⟩:=aC.hp;have dn:=aC.book hp;have hG:=aC.inn.h;have cq:=blk1 bt;have h3:b.hs.length<=3:=by have:=ag.hl;have:=ag.f3;omega
 have h5:∀ r∈b.hs,r.length<=5:=fun r hr=>by have:=ag.rl r hr;have:=ag.n5;omega
 have bD:=k6p ag.rb;obtain⟨fh,cD⟩:∃ fh,fh=j0i b.hs:=⟨_,rfl⟩;rw[<-cD] at bD;have g1:HOk fh:=HOk.of bD (by omega)
 have ha:=bD.1;have HC:=zQ9 (zA9 dn (zA9 hG (zA9 h3 h5)));have HF:=zQ9 cD;have HY:=zQ9 hY;have HJ:=zQ9 (zA9 hJ (zA9 hJx hJE));have H0:=zQ9 h0;have HW:=zQ9 (zA9 aC (zA9 ag hBW));have HQ:=zQ9 (zA9 bt hp);clear hY hJ hJx hJE h0 aC ag hBW dn hG h3 h5 cD bt hp hW hq bD;refine callsIn_of_wp Tryz.func115 rfl trivial ?_ rfl;simp only[Tryz.ntmps115,List.size_toArray,List.length_cons,List.length_nil,Nat.reduceAdd,Nat.reduceSub,Array.replicate_succ,Array.replicate_zero,List.push_toArray,List.append_toArray,nl9];refine wpIn_wide.2 ?_;go_upto_region 0 with (fail)
 go_cut [3,4] (fun v3 v4 wx=>∃ M D:Nat,v3=.map (some M)∧v4=.map (some D)∧MetH wx M [fh]∧wx.heap[D]?=some (.map (j2b p) 6)∧W.grownBy wx none∧W.heap.size<=M∧W.heap.size<=D)
 case first =>
  obtain⟨S,hS⟩:∃ S,S=W.heap.size:=⟨_,rfl⟩;have HH:Q9 (∀ n' w',TE S fh p n' W w'->Below S W w'):=zQ9 fun n' w' h=>⟨h.os,h.tape,h.output,h.size,h.block⟩
  have fp:Q9 (∀ n' w',TE S fh p n' W w'->w'.cell? ⟨q,0,none⟩=some (.pointer (some ⟨p,0,none⟩))):=zQ9 fun n' w' h=>j0u cq (HH.o n' w' h) (Nat.le_of_eq hS.symm)
  have cA:Q9 (∀ n' w',TE S fh p n' W w'->S<=w'.heap.size):=zQ9 fun n' w' h=>by have:=h.size;omega
  have HS:=zQ9 hS;have ga:Q9 (∀ n' w',TE S fh p n' W w'->Calls Tryz.prog 104 #[.pointer (some ⟨p,0,none⟩)] w' fun e w''=>e=.returned (.agg (hcs fh))∧Below w'.heap.size w' w''):=zQ9 fun n' w' h=>by
   have hb:=HH.o n' w' h;have hB:=HC.o.1;have:=q4n p b.t b.A b.l.length b.c b.l b.vk b.vd b.Ah b.ch b.hs deed owner now w' ⟨j0e hB.hp hb (Nat.le_of_eq hS.symm),hB.hl.below hb (Nat.le_of_eq hS.symm),hB.nc,hB.cm,hB.ck⟩ (HC.o.2.1.below hb (Nat.le_of_eq hS.symm)) HC.o.2.2.1 HC.o.2.2.2;rw[<-HF.o] at this;exact this
  clear hS cq;refine k1c (TE S fh p) (by kernel_rfl) (by kernel_rfl) TE.tr (TE.draw _) ?_
  apply zC2;refine⟨fun ys=>?_,fun ops K hK=>?_⟩
  ·simp only[j0p,List.filterMap_cons,List.filterMap_nil,j0r];go_simp
   rfl
  have cg:=@run_makeMap Tryz.prog;refine LexI.some (FM S fh) (FM.st) (fun n' ys w' hn' hT hd=>?_) ?_
  ·try simp[j0d,j0f,DF.holds,Region.binds,EqF] at hd
   try simp only[hd]
   have an:=cA.o n' w' hT;intro Q2 ay;go_wp2_with fail
   exact⟨TE.of (bal0 w' _) (zL9 _) an,_,an,rfl,[],k4v (j0c rfl),fun k hk=>by cases hk⟩
  try simp only[nl9]
  clear cg;refine LexI.const TE.rf ?_;refine⟨.pointer (some ⟨p,0,none⟩),fun n' ys w' hn' hT hd=>?_,?_⟩
  ·try simp[j0d,j0f,DF.holds,Region.binds,EqF] at hd
   try simp only[hd]
   obtain cq:=fp.o n' w' hT;intro Q2 ay;go_wp2_with fail
   try rfl
  try simp only[nl9]
  refine LexI.some (EqF' (.agg (hcs fh))) (fun _ _ _ _ _ h=>h) (fun n' ys w' hn' hT hd=>?_) ?_
  ·try simp[j0d,j0f,DF.holds,Region.binds,EqF] at hd
   try simp only[hd]
   have h8:=HH.o n' w' hT;have an:=cA.o n' w' hT;intro Q2 ay;go_wp2_with (go_at_call 104;refine(ga.o n' w' hT).mono ?_;rintro e w2 ⟨rfl,g8⟩)
   exact⟨_,rfl,TE.of g8 (zL9 _) an,rfl⟩
  try simp only[nl9]
  refine LexI.ref 10 (FMx S fh) (FMx.st) rfl rfl (fun n' ys w' hn' hT hd=>?_) ?_
  ·try simp[j0d,j0f,DF.holds,Region.binds,EqF] at hd
   try simp only[hd]
   obtain⟨⟨M,aB,fF,K,cc,cw⟩,dh⟩:=hd;unfold EqF' at dh;obtain⟨ob,ae,b5,K',cy,bu⟩:=q0b fh g1 w' M K cc;rw[show hv fh=.agg (hcs fh) from rfl] at ae
   have dH:=TE.put (p:=p) (a:=w') cc aB cw cy bu;have hF:FMx S fh (.map (some M)) { w' with heap:=w'.heap.setIfInBounds M ob }:=⟨M,aB,rfl,K',cy _ (Array.getElem?_setIfInBounds_self_of_lt b5),fun k hk=>((bu k).1 hk).elim (cw k) id,(bu _).2 (.inr rfl)⟩
   have fx:=zQ9 (zA9 dH hF);clear dH hF cc cw cy bu b5;intro Q2 ay;simp only[fF,dh];go_wp2_with fail
   exact fx.o
  try simp only[nl9]
  refine LexI.some (FMx S fh) (FMx.st) (fun n' ys w' hn' hT hd=>?_) ?_
  ·simp[j0d,j0f,DF.holds,Region.binds,EqF] at hd;have HM:=zQ9 hd.2.2.2;clear hd;intro Q2 ay;go_wp2_with fail
   exact⟨TE.rf _,HM.o⟩
  try simp only[nl9]
  refine LexI.const TE.rf ?_;refine⟨.pointer (some ⟨p,0,none⟩),fun n' ys w' hn' hT hd=>?_,?_⟩
  ·try simp[j0d,j0f,DF.holds,Region.binds,EqF] at hd
   try simp only[hd]
   obtain cq:=fp.o n' w' hT;intro Q2 ay;go_wp2_with fail
   try rfl
  try simp only[nl9]
  refine LexI.some (FD S p) (FD.st) (fun n' ys w' hn' hT hd=>?_) ?_
  ·try simp[j0d,j0f,DF.holds,Region.binds,EqF] at hd
   try simp only[hd]
   have an:=cA.o n' w' hT;intro Q2 ay;go_wp2_with (go_at_call 116;refine(does_any p _).mono ?_;rintro e w2 ⟨rfl,rfl⟩)
   exact⟨_,rfl,TE.of (bal0 w' _) (zL9 _) an,w'.heap.size,an,rfl,j0c rfl⟩
  try simp only[nl9]
  refine LexI.some (FMx S fh) (FMx.st) (fun n' ys w' hn' hT hd=>?_) ?_
  ·simp[j0d,j0f,DF.holds,Region.binds,EqF] at hd;have HM:=zQ9 hd.1;clear hd;intro Q2 ay;go_wp2_with fail
   exact⟨TE.rf _,HM.o⟩
  try simp only[nl9]
  refine LexI.some (FD S p) (FD.st) (fun n' ys w' hn' hT hd=>?_) ?_
  ·simp[j0d,j0f,DF.holds,Region.binds,EqF] at hd;have HM:=zQ9 hd.1;clear hd;intro Q2 ay;go_wp2_with fail
   exact⟨TE.rf _,HM.o⟩
  try simp only[nl9]
  refine hK _ (fun n' ys w5 hn' hT hF=>?_)
  simp only[AllF,DF.holds] at hF;obtain⟨-,-,-,-,-,-,-,⟨M,fc,cb,K1,dz,f8,dx⟩,⟨D,fo,h9,fi⟩,-⟩:=hF;have HT:=zQ9 hT;have aA:=zQ9 (zA9 fc (zA9 dz (zA9 f8 (zA9 dx (zA9 fo fi)))));clear hT fc dz f8 dx fo fi;go_wp2_with fail
  go_meet
  have hk:K1=[fh]:=one_key aA.o.2.1.nodup aA.o.2.2.1 aA.o.2.2.2.1;refine⟨M,D,rfl,rfl,by rw[<-hk];exact aA.o.2.1,aA.o.2.2.2.2.2,?_,?_,?_⟩
  ·have h:=HH.o n' w5 HT.o;exact⟨h.os,h.tape,h.output,h.size,fun k hk _=>h.block k (by rw[HS.o];exact hk)⟩
  ·rw[<-HS.o];exact aA.o.1
  ·rw[<-HS.o];exact aA.o.2.2.2.2.1
 case rest =>
  obtain⟨M0,D,rfl,rfl,dk,f9,bE,aB,g9⟩:=hcut;have cz:NowIn p (b.bk deed owner) W wc:=(NowIn.refl ⟨now,HQ.o.2⟩).grown aw bE (fun i e=>by cases e)
  have gc:=blk1 (cz.blk HQ.o.1 cv);obtain⟨p0,p1,p2,p3,p4,p5,p6,p7⟩:=blkB ((bE.block p aw (fun e=>by cases e)).trans HQ.o.2)
  obtain⟨Ad,cf⟩:∃ Ad,Ad=b.Ad:=⟨_,rfl⟩;replace p4:wc.cell? ⟨p,4,none⟩=some (.slice Ad b.ds.length b.cd):=by rw[cf];exact p4
  have cj:=zQ9 cf;clear cf;have bh:=zQ9 (zA9 dk (zA9 f9 (zA9 cz (zA9 aB g9))));clear dk f9 bE cz cq p0 p1 p2 p3 p5 p6 p7;go_wp2_with fail
  go_loopg [3,22] b.ds.length (fun g v3 v22 wr=>∃ (k M:Nat) (K:List (List Int)),k+g=b.ds.length∧v22=.int .i64 k∧v3=.map (some M)∧W.heap.size<=M∧MetH wr M K∧Keys b deed owner k K∧NowIn p (b.bk deed owner) W wr∧wr.heap[D]?=some (.map (j2b p) 6))
  case atStart=>exact⟨0,M0,[fh],by omega,rfl,rfl,bh.o.2.2.2.1,bh.o.1,fun x=>by rw[HF.o];rfl,bh.o.2.2.1,bh.o.2.1⟩
  case round =>
   obtain⟨k,M,K,cC,rfl,rfl,aB,ai,ah,hN,hD⟩:=hrel;clear p4 gc;have bA:=HW.o.1.now hN;by_cases b5:k<b.ds.length
   ·obtain⟨bi,oi,d,hA,fy,f6,c0,c1,c2,c3,c4,c5,c6,c7,c8,c9,gh,g3⟩:=bA.inn.d.get b5;have gd:=cj.o.trans hA;clear cj hA;subst gd;have dy:=HW.o.2.1.dI d (zB4 f6);obtain⟨co,bv⟩:=hN.hp;have cq:=blk1 (hN.blk HQ.o.1 cv);have bn:=hN.lt;have f7:=frz bv 7;obtain⟨-,-,-,-,-,-,-,p7⟩:=blkB bv;have i0:(0:Int)<=(k:Int):=by omega
    have i1:(k:Int)<(b.ds.length:Int):=by omega
    have bz:(wr.alloc dZ).heap[wr.heap.size]?=some dZ:=j0c rfl;have HN:=zQ9 hN;have HK:=zQ9 (zA9 cC (zA9 ah (zA9 ai (zA9 hD bv))));have gA:=zQ9 bA;clear hN cC ah ai hD bv bA fy;go_upto_region 4 with ((with_reducible apply j9f bz rfl);(rfl);(rfl);(rfl);(rfl);intro w2 ct g2 z2)
    have cg:=@run_makeMap Tryz.prog;have ff:=(HN.o.below aw (bal0 wr dZ) HN.o.size).grown aw g2 (fun i e=>by cases e;exact HN.o.size)
    obtain⟨g6,ba⟩:∃ g6,g6=wr.heap.size:=⟨_,rfl⟩;have dB:w2.heap.size=g6+1:=by rw[z2,ba];simp
    have aq:∀ j,j<g6->w2.heap[j]?=wr.heap[j]?:=fun j hj=>(g2.block j (by simp;omega) (fun e=>by cases e;omega)).trans (Below.heap_alloc _ _ _ (by omega))
    have bs:w2.heap[p]?=some (b.bk deed owner co):=(aq p (by omega)).trans HK.o.2.2.2.2
    have fG:q<g6:=by have:=HN.o.size;omega
    have g0:w2.cell? ⟨q,0,none⟩=some (.pointer (some ⟨p,0,none⟩)):=blk1 ((aq q fG).trans (HN.o.blk HQ.o.1 cv));obtain⟨-,-,-,-,-,-,-,fC⟩:=blkB bs;have fD:=frz bs 7;have ce:=ff.set (k:Int);have cE:=k8k bs (k:Int);have HZ:=zQ9 (zA9 ba dB);have HO:=zQ9 aq;rw[<-ba] at ct ⊢;have gD:p<g6:=by rw[ba];exact bn
    clear aq dB ba z2 g2 bz cq f7 p7 ff c0 c1 c2 c3 c4 c5 c6 c7 c8 c9 gh g3 bn bs;go_upto_region 5 with (fail)
    obtain⟨w3,b0⟩:∃ w3,w3=w2.setCell ⟨p,7,none⟩ (Value.int IntKind.i64 (k:Int)):=⟨_,rfl⟩;have f1:w3.heap.size=g6+1:=by rw[b0,World.size_setCell];exact HZ.o.2
    have av:∀ j,j<g6->j≠p->w3.heap[j]?=wr.heap[j]?:=fun j hj hjp=>by rw[b0,zB1 _ ⟨p,7,none⟩ _ _ hjp];exact HO.o j hj
    have fe:w3.heap[g6]?=some (dObj d):=by rw[b0,zB1 _ ⟨p,7,none⟩ _ _ (show g6≠p by omega)];exact ct
    rw[<-b0] at ce cE ⊢;have ak:=zQ9 (zA9 ce (zA9 cE (zA9 av (zA9 fe f1))));clear b0 ce cE av fe f1 g0 fC fD ct;go_upto_region 6 with (fail)
    obtain⟨w4,ao⟩:∃ w4,w4=(w3.alloc (Obj.map #[] 0)).alloc (.cells #[.map (some w3.heap.size)] 166):=⟨_,rfl⟩;have cx:w4.heap.size=g6+3:=by rw[ao];simp[ak.o.2.2.2.2]
    have ac:∀ j,j<g6+1->w4.heap[j]?=w3.heap[j]?:=fun j hj=>by
     have:=ak.o.2.2.2.2;rw[ao,Below.heap_alloc _ _ _ (by simp;omega),Below.heap_alloc _ _ _ (by omega)]
    have cb:MetH w4 (g6+1) []:=k4v (clock:=0) (by rw[ao,<-ak.o.2.2.2.2];exact j0b (j0c rfl) _)
    have b7:w4.heap[g6+2]?=some (Obj.cells #[.map (some (g6+1))] 166 (0,0)):=by rw[ao,<-ak.o.2.2.2.2];exact j0c (by simp[ak.o.2.2.2.2])
    have fa:NowIn p (b.bk deed owner) W w4:=ak.o.1.then aw (by rw[ao];rfl) (by rw[ao];rfl) (by rw[ao];rfl) (by rw[cx];have:=HN.o.size;have:=HZ.o.1;omega) (fun j hj=>ac j (by have:=HN.o.size;have:=HZ.o.1;omega))
    have cF:M<g6:=by have:=HK.o.2.2.1.lt;have:=HZ.o.1;omega
    have ca:M≠p:=fun e=>by obtain⟨es,c,h1,_⟩:=HK.o.2.2.1;rw[e,HK.o.2.2.2.2] at h1;cases h1
    have cr:D<g6:=by have:=j0a HK.o.2.2.2.1;have:=HZ.o.1;omega
    have cB:D≠p:=fun e=>by have h1:=HK.o.2.2.2.1;rw[e,HK.o.2.2.2.2] at h1;cases h1
    have bG:MetH w4 M K:=HK.o.2.2.1.keep ((ac M (by omega)).trans (ak.o.2.2.1 M cF ca))
    have fq:w4.heap[D]?=some (.map (j2b p) 6):=((ac D (by omega)).trans (ak.o.2.2.1 D cr cB)).trans HK.o.2.2.2.1
    have fd:w4.heap[g6]?=some (dObj d):=(ac g6 (by omega)).trans ak.o.2.2.2.1
    have cG:w4.heap[p]?=some (b.bk deed owner k):=(ac p (by omega)).trans ak.o.2.1
    have b6:=ak.o.2.2.2.2;rw[<-ao,b6];have ad:=zQ9 (zA9 cb (zA9 b7 (zA9 fa (zA9 bG (zA9 fq (zA9 fd (zA9 cG (zA9 cx (zA9 cF (zA9 cr (zA9 ca cB)))))))))));clear ao cx ac cb b7 fa fq fd cG b6 cF ca cr cB cg ak;go_wp2_with (refine k7v rfl _ rfl M K rfl bG ?_;intro wI hI bm bC)
    obtain⟨r,hr⟩:∃ r,r=w4.heap.size:=⟨_,rfl⟩;rw[<-hr] at hI ⊢;have aj:=zQ9 (zA9 hr (zA9 hI (zA9 bm bC)));clear hI bm bC hr bG;go_simp
    obtain⟨wo,rfl⟩:∃ wo:World,wo=wr:=⟨_,rfl⟩;obtain⟨go,rfl⟩:∃ go:Nat,go=gk:=⟨_,rfl⟩;go_loopg [] K.length (fun g wi=>InnR w4 wi (g6+1) M r K (succ b.t b.l (j2i deed owner k) d) g)
    case atStart =>
     refine⟨K,[],[],rfl,by simp,aj.o.2.1,ad.o.1.keep (aj.o.2.2.1.block _ (by have:=ad.o.2.2.2.2.2.2.2.1;omega) (fun e=>by cases e)),fun x=>by simp,aj.o.2.2.1.os,aj.o.2.2.1.tape,aj.o.2.2.1.output,Nat.le_of_eq aj.o.2.2.2.symm,fun j hj _=>aj.o.2.2.1.block j hj (fun e=>by cases e)⟩
    case round =>
     obtain⟨L,done,K2,rfl,af,hI,du,dF,ho,ht,hu,an,b3⟩:=hrel;have HR:=zQ9 (zA9 af (zA9 hI (zA9 du (zA9 dF (zA9 ho (zA9 ht (zA9 hu (zA9 an b3))))))));clear af du dF ho ht hu an b3;rcases k7n hI 0 with ⟨hL,ae⟩|⟨x,L',wn,hp,hx,ae,hi,bp,bw,b4⟩
     ·have HL:=zQ9 hL;clear hL hI;have dq:=ad.o.2.2.2.2.2.2.2.1;have gu:=blk1 ((HR.o.2.2.2.2.2.2.2.2 (g6+1+1) (by omega) (by omega)).trans ad.o.2.1)
      clear dq;go_wp2_with fail
      go_roundg (go-1)
      case measure=>have:=HK.o.1;omega
      case rel =>
       have dq:=ad.o.2.2.2.2.2.2.2.1;have gw:=HZ.o.1;have gm:=HN.o.size;have aG:=HR.o.1;rw[HL.o,List.append_nil] at aG;refine⟨k+1,g6+1,K2,by have:=HK.o.1;omega,by have:=HW.o.2.1.d6;rw[IntWalk.wrap64_in _ (by omega)];push_cast;rfl,rfl,by omega,HR.o.2.2.1,fun y=>?_,?_,?_⟩
       ·rw[HR.o.2.2.2.1 y,k0i f6];constructor
        ·rintro⟨h,hh,hy⟩;exact⟨h,(HK.o.2.1 h).1 (aG.mem_iff.2 hh),hy⟩
        ·rintro⟨h,hh,hy⟩;exact⟨h,aG.mem_iff.1 ((HK.o.2.1 h).2 hh),hy⟩
       ·exact ad.o.2.2.1.then aw HR.o.2.2.2.2.1 HR.o.2.2.2.2.2.1 HR.o.2.2.2.2.2.2.1 (by have:=HR.o.2.2.2.2.2.2.2.1;omega) (fun j hj=>HR.o.2.2.2.2.2.2.2.2 j (by omega) (by omega))
       ·exact(HR.o.2.2.2.2.2.2.2.2 D (by have:=ad.o.2.2.2.2.2.2.2.2.2.1;omega) (by have:=ad.o.2.2.2.2.2.2.2.2.2.1;omega)).trans ad.o.2.2.2.2.1
     ·have aa:=zQ9 (zA9 hp (zA9 hi (zA9 bp bw)));have bo:=hx.1;have cu:=dy.k;have bq:=fun(w:World) (h:w.heap[D]?=some (.map (j2b p) 6))=>q5j (p:=p) h cu.1 cu.2
      have fE:∀ (args:Array Value) (w:World),(callFunc (kf d.kind) args).run Tryz.prog w=.ok (.enter (kf d.kind) args) w:=q5g d.kind cu;clear hp hi bp hI bw;obtain⟨gx,aF⟩:∃ gx,gx=wn.heap.size:=⟨_,rfl⟩;have bz:(wn.alloc (.cells #[.int .i64 0,.int .i64 0,.int .i64 0,.int .i64 0,.int .i64 0,.int .i64 0,.int .i64 0,.int .i64 0,.int .i64 0,.int .i64 0,.int .i64 0,.int .i64 0,.int .i64 0,.int .i64 0,.int .i64 0] 133)).heap[wn.heap.size]?=_:=j0c rfl;rw[show hv x=Value.agg (hcs x) from rfl] at ae b4
      go_upto_region 9 with ((with_reducible apply j2a bz rfl bo);(rfl);(rfl);(rfl);(rfl);intro w5 be g5 z5)
      rw[<-aF] at be ⊢;have fB:=zQ9 aF;clear aF;go_simp
      have aF:=fB.o;have bj:w4.heap.size+1<=gx:=by rw[aF,aa.o.2.2.2];exact HR.o.2.2.2.2.2.2.2.1
      have fA:=aj.o.1;have g7:=ad.o.2.2.2.2.2.2.2.1;have am:∀ j,j<gx->w5.heap[j]?=wn.heap[j]?:=fun j hj=>(g5.block j (by simp;omega) (fun e=>by cases e;omega)).trans (Below.heap_alloc _ _ _ (by omega))
      have aE:∀ j,j<w4.heap.size->j≠g6+1->w5.heap[j]?=w4.heap[j]?:=fun j hj ax =>
       ((am j (by omega)).trans (aa.o.2.2.1.block j (by have:=HR.o.2.2.2.2.2.2.2.1;omega) (fun e=>by cases e;omega))).trans (HR.o.2.2.2.2.2.2.2.2 j hj ax)
      have dd:w5.heap[g6]?=some (dObj d):=(aE g6 (by omega) (by omega)).trans ad.o.2.2.2.2.2.1
      have dG:w5.heap[D]?=some (.map (j2b p) 6):=(aE D (by have:=ad.o.2.2.2.2.2.2.2.2.2.1;omega) (by have:=ad.o.2.2.2.2.2.2.2.2.2.1;omega)).trans ad.o.2.2.2.2.1
      have ft:w5.heap[p]?=some (b.bk deed owner k):=(aE p (by omega) (by omega)).trans ad.o.2.2.2.2.2.2.1
      have dD:w5.heap[g6+1+1]?=some (Obj.cells #[.map (some (g6+1))] 166 (0,0)):=(aE (g6+2) (by omega) (by omega)).trans ad.o.2.1
      have dC:MetH w5 (g6+1) K2:=HR.o.2.2.1.keep ((am _ (by omega)).trans (aa.o.2.2.1.block _ (by have:=HR.o.2.2.2.2.2.2.2.1;omega) (fun e=>by cases e;omega)))
      have br:j2v w5 M r K L':=aa.o.2.1.keep (am M (by have:=ad.o.2.2.2.2.2.2.2.2.1;omega)) (am r (by omega))
      have dw:x∈K:=HR.o.1.mem_iff.2 (List.mem_append.2 (.inr (aa.o.1.mem_iff.2 List.mem_cons_self)));have ag:=HW.o.2.1;have f2:HBd 1000 x:=(j5i ag.f3 ag.n5 ag.rb ag.dI k x ((HK.o.2.1 x).1 dw)).mono (by have:=ag.d6;omega)
      have cp:NowIn p (b.bk deed owner) W w5:=ad.o.2.2.1.then aw
       (by rw[g5.os];exact aa.o.2.2.1.os.trans HR.o.2.2.2.2.1) (by rw[g5.tape];exact aa.o.2.2.1.tape.trans HR.o.2.2.2.2.2.1) (by rw[g5.output];exact aa.o.2.2.1.output.trans HR.o.2.2.2.2.2.2.1)
       (by rw[z5];simp;have:=HN.o.size;have:=HZ.o.1;omega) (fun j hj=>aE j (by have:=HN.o.size;have:=HZ.o.1;omega) (by have:=HN.o.size;have:=HZ.o.1;omega))
      have fj:=(HW.o.1.now cp).book ft;have gp:=bq w5 dG;obtain⟨d0,d1,d2,d3,d4,d5,d6,d7,d8,d9,gG,gv⟩:=blkD dd;have aH:w5.os=w4.os:=by rw[g5.os];exact aa.o.2.2.1.os.trans HR.o.2.2.2.2.1
      have b9:w5.tape=w4.tape:=by rw[g5.tape];exact aa.o.2.2.1.tape.trans HR.o.2.2.2.2.2.1
      have bf:w5.output=w4.output:=by rw[g5.output];exact aa.o.2.2.1.output.trans HR.o.2.2.2.2.2.2.1
      have fb:w4.heap.size+1<=w5.heap.size:=by rw[z5];simp;omega
      have da:M≠g6+1:=by have:=ad.o.2.2.2.2.2.2.2.2.1;omega
      have fg:r≠g6+1:=by omega
      have ar:=zQ9 (zA9 (Ask.mk dD dC f2 dy ag.f3) (zA9 fj (zA9 br (zA9 aE (zA9 cp (zA9 bj (zA9 trivial (zA9 da (zA9 fg (zA9 aH (zA9 b9 (zA9 bf fb))))))))))));clear aH b9 bf fb da fg bq dG dd ft dD dC br f2 cp fj aE am dw g5 z5 bj fA g7 ag bz ae b4 aF;go_wp2_with (first
       | ((with_reducible apply j1a be bo);(rfl);(rfl);(rfl))
       | (go_at_fn (kf d.kind);refine(deed_any p b.t b.A b.c b.l b.vk b.vh b.vd deed owner k x d b.ks.length (g6+1+1) (g6+1) K2 _ ar.o.1 ar.o.2.1).mono ?_;rintro e w6 ⟨rfl,fw⟩))
      go_roundg L'.length
      case measure=>rw[aa.o.1.length_eq];simp
      case rel =>
       have ax:=ar.o.2.2.2.2.2.2.2;exact InnR.next HR.o.1 aa.o.1 fw ar.o.1.hm ar.o.2.2.1 HR.o.2.2.2.1 ax.1 ax.2.1 ax.2.2.1 ax.2.2.2.1 ax.2.2.2.2.1 ax.2.2.2.2.2 ar.o.2.2.2.1
   ·obtain rfl:k=b.ds.length:=by omega
    have fH:K.Perm (b.ends deed owner):=k2x ai.nodup (k1l _ _ _ _ _ _ _) ah;have HK:=zQ9 (zA9 fH (zA9 ai (zA9 hN aB)));clear ah hD bA b5 cC aB bh cj;go_wp2_with (refine k7v rfl _ rfl M K rfl ai ?_;intro wI hI bm bC)
    obtain⟨r,hr⟩:∃ r,r=wr.heap.size:=⟨_,rfl⟩;rw[<-hr] at hI ⊢;have fv:W.heap.size<=r:=by rw[hr];exact HK.o.2.2.1.size
    have dj:J [] wI:=q3e HJ.o.1 HJ.o.2.2 (HK.o.2.2.1.grown aw bm (fun i e=>by cases e)) ⟨now,HQ.o.2⟩ H0.o
    have aj:=zQ9 (zA9 hI (zA9 fv dj));clear hI bm bC hr ai hN dj fv;go_simp
    obtain⟨wo,rfl⟩:∃ wo:World,wo=wr:=⟨_,rfl⟩;obtain⟨go,rfl⟩:∃ go:Nat,go=gk:=⟨_,rfl⟩;go_loopg [] K.length (fun g wi=>∃ L done,g=L.length∧K.Perm (done++L)∧j2v wi M r K L∧J done wi)
    case atStart=>exact⟨K,[],rfl,by simp,aj.o.1,aj.o.2.2⟩
    case round =>
     obtain⟨L,done,rfl,af,hI,cH⟩:=hrel;have HR:=zQ9 (zA9 af cH);clear af cH;rcases k7n hI 0 with ⟨hL,ae⟩|⟨x,L',wn,hp,hx,ae,hi,bp,bw,b4⟩
     ·have HL:=zQ9 hL;clear hL hI;go_wp2_with fail
      go_end0
      have aG:=HR.o.1;rw[HL.o,List.append_nil] at aG;exact⟨⟨_,rfl⟩,.inl ⟨done,aG.symm.trans HK.o.1,HR.o.2⟩⟩
     ·have f5:J done wn:=HJ.o.1 _ _ _ (some r) HR.o.2 bp (fun i e=>by cases e;exact⟨aj.o.2.1,by obtain⟨es,cl,si,se,c0,h1,h2,h3,h4,h5,_⟩:=hI;exact⟨_,h5,rfl⟩⟩)
      have dA:K.Perm (done++[x]++L'):=by rw[List.append_assoc];exact HR.o.1.trans (hp.append_left done)
      have aa:=zQ9 (zA9 hp (zA9 hi (zA9 dA f5)));have bo:=hx.1;clear hp hi bp hI bw f5 dA;have bz:(wn.alloc (.cells #[.int .i64 0,.int .i64 0,.int .i64 0,.int .i64 0,.int .i64 0,.int .i64 0,.int .i64 0,.int .i64 0,.int .i64 0,.int .i64 0,.int .i64 0,.int .i64 0,.int .i64 0,.int .i64 0,.int .i64 0] 133)).heap[wn.heap.size]?=_:=j0c rfl;rw[show hv x=Value.agg (hcs x) from rfl] at ae b4
      go_upto_region 15 with ((with_reducible apply j2a bz rfl bo);(rfl);(rfl);(rfl);(rfl);intro w5 be g5 z5)
      go_simp
      have bB:wn.grownBy w5 none:=⟨g5.os,g5.tape,g5.output,by rw[z5];simp,fun j hj _=>(g5.block j (by simp;omega) (fun e=>by cases e;omega)).trans (Below.heap_alloc _ _ _ hj)⟩
      have dr:J done w5:=HJ.o.1 _ _ _ none aa.o.2.2.2 bB (fun i e=>by cases e)
      have br:j2v w5 M r K L':=aa.o.2.1.keep (bB.block M aa.o.2.1.met.lt (fun e=>by cases e)) (bB.block r aa.o.2.1.lt (fun e=>by cases e))
      have bF:∃ r,(done++[x]++r).Perm (b.ends deed owner):=⟨L',aa.o.2.2.1.symm.trans HK.o.1⟩;obtain⟨fn,tmps,assign,body,hy,ge⟩:=HY.o done x w5 dr bF;have ar:=zQ9 (zA9 br bF);clear dr br bF g5 z5 bB bz ae b4;obtain⟨a0,a1,a2,a3,a4,a5,a6,a7,a8,a9,gj,gF,gE,he,gH,aD,az⟩:=j7s bo;obtain⟨y0,y1,y2,y3,y4,y5,y6,y7,y8,y9,h7,gt,gB,gy,gC⟩:=az _ _ be;rw[<-aD] at hy;have g4:=zQ9 aD;clear aD az be;generalize wn.heap.size=gx at *
      refine(wpIn_wide (n:=n)).1 ?_;gi_wp2
      refine ge.mono ?_;rintro e W3 (⟨rfl,di,cn⟩|⟨rfl,b8⟩)
      ·have dg:j2v W3 M r K L':=by
        obtain⟨es,cl,si,se,c0,h1,h2,h3,h4,h5,h6⟩:=ar.o.1;exact⟨es,cl,si,se,c0,cn.same _ _ h1 rfl,h2,h3,h4,cn.same _ _ h5 rfl,h6⟩
       have H3:=zQ9 (zA9 dg di);clear dg di cn;gi_wp2
       go_wp2
       go_roundg L'.length
       case measure=>rw[aa.o.1.length_eq];simp
       case rel=>exact⟨L',done++[x],rfl,aa.o.2.2.1,H3.o.1,H3.o.2⟩
      ·have H3:=zQ9 b8;clear b8;gi_wp2
       go_wp2
       refine bodyPost_ret (results_none rfl _ _ _) rfl ?_;exact⟨⟨_,rfl⟩,.inr ⟨_,ar.o.2,H3.o⟩⟩
end Go.Proofs.YtmennjmjakdkcaaGreat
namespace Go.Proofs.YtmennjmjakdkcaaGreat
open Go.RowKit Go.Sort
section
variable {F:Fence} {n:Nat} {P:Program} {C:World->Prop}
def k5t (l:List Oper):Bool:=l.all fun o=>match o.op with|.defer _=>false|_=>true
theorem q1g {o:Oper} (r:Option Nat) (ρ:Operand->Value) (h:∀ c,o.op≠.defer c):Oper.semAt r ρ o=execOp ρ o:=by
 cases r with
 | none=>exact Oper.semAt_none _ _
 | some l=>exact Oper.semAt_some l ρ o h
theorem k5b {o:Oper} {a:Act} {K:Act->Prop} {K':Act->World->Prop} {Q':Exit->Act->World->Prop} {w:World} (a0:∀ c,o.op≠.defer c) (hw:C w) (h:∀ a w',C w'->K a->K' a w')
 (ha:o.askedIn F P a C) (hh:o.quietIn F n P a C K):o.wpIn F n P a w K' Q':=by
 obtain⟨v,h1,h2⟩:=hh;refine⟨ha w hw,?_⟩;have h3:Oper.quietUponIn F n P C w v ((execOp a.eval o).run P w):=h1 w hw;rw[q1g F.round a.eval a0];revert h3;generalize (execOp a.eval o).run P w=r;intro h3
 match r,h3 with
 | .ok (.value u) w',h3=>obtain⟨rfl,rfl⟩:=h3;exact h _ _ hw h2
 | .ok .skip w',h3=>obtain⟨rfl,rfl⟩:=h3;exact h _ _ hw h2
 | .ok (.enter f args) w',h3 =>
   obtain⟨rfl,hd,hc⟩:=h3;exact⟨hd,hc.mono fun e w'' ⟨he,hw''⟩=>by subst he;exact h _ _ hw'' h2⟩
theorem k1e {ops:Array Oper} (a2:∀ (i:Nat) o,ops[i]?=some o->∀ c,o.op≠.defer c) {Q:Act->Prop} {Q':Exit->Act->World->Prop} (hQ:∀ a w,C w->Q a->Q' .normal a w) :
 ∀ (a1:Nat) (a0:Array Bool) (a:Act) (w:World),C w->wpAnyQIn F n P .any ops C Q a1 a0 a->wpAnyIn F n P .any ops Q' a1 a0 a w
 | 0,_,_,_,hw,h=>⟨h.1,hQ _ _ hw h.2⟩
 | a1+1,a0,a,w,hw,h=>⟨fun h0=>hQ _ _ hw (h.1 h0),fun i hi=>by
    have h2:=h.2 i hi;unfold qOpIn at h2;unfold wpOpIn;have next:∀ a' w',C w'->wpAnyQIn F n P .any ops C Q a1 (a0.setIfInBounds i true) a'->wpAnyIn F n P .any ops Q' a1 (a0.setIfInBounds i true) a' w' :=
     fun a' w' hw'=>k1e a2 hQ a1 _ a' w' hw'
    cases ho:ops[i]? with
    | none=>simp only[ho] at h2 ⊢;exact next _ _ hw h2
    | some o =>
      simp only[ho] at h2 ⊢;obtain⟨ha,h2⟩:=h2
      split
      ·rename_i hwt;simp only[hwt,if_true] at h2;exact k5b (a2 i o ho) hw next ha h2
      ·rename_i hwt;simp only[hwt] at h2;exact⟨ha w hw,next _ _ hw h2⟩⟩
theorem j7b {id:Nat} {Q:Exit->Act->World->Prop} {a:Act} {w:World} {l:List Oper} (hm:P.follows .mixedOrders=true) (hB:Region.lexB .any l.toArray=true) (a1:k5t l=true)
 (h:wpQuietIn F n P l.toArray (fun w'=>∃ p:Regrown,w'=grow (redrawn w p.d) p.os) (fun a'=>∀ w',(∃ p:Regrown,w'=grow (redrawn w p.d) p.os)->Q .normal a' w') l a):(Code.region id l.toArray true).wpIn F n P Q a w:=by
 simp only[Region.lexB,Bool.and_eq_true] at hB;have hn:∀ (i:Nat) o,l.toArray[i]?=some o->∀ c,o.op≠.defer c:=by
  intro i o ho c hc;have a0:o∈l:=by
   rw[List.getElem?_toArray] at ho;exact zB4 ho
  have:=List.all_eq_true.1 a1 o a0;rw[hc] at this;cases this
 refine wpIn_region_any hm (k1e (C:=fun w'=>∃ p:Regrown,w'=grow (redrawn w p.d) p.os) (Q:=fun a'=>∀ w',(∃ p:Regrown,w'=grow (redrawn w p.d) p.os)->Q .normal a' w') hn (fun _ w' hw' h=>h w' hw') _ _ _ _ ⟨⟨w.drawn+1,#[]⟩,by rw[grow_empty];rfl⟩ ?_)
 have:=wpAnyQIn_lex (F:=F) (n:=n) (C:=fun w'=>∃ p:Regrown,w'=grow (redrawn w p.d) p.os) (md:=.any) (ops:=l.toArray) (Q:=fun a'=>∀ w',(∃ p:Regrown,w'=grow (redrawn w p.d) p.os)->Q .normal a' w') hB.1 l 0 (Array.replicate l.toArray.size false) a (by simp) (by simpa using hB.2) h
 simpa using this
end
theorem j2z {A B:World} {row:Option Nat} {k:Nat} {o:Obj} (h:A.heap[k]?=some o) (ho:o.isCells=true) (hg:A.grownBy B row) (hr:∀ r,row=some r->∃ o':Obj,A.heap[r]?=some o'∧o'.isCells=false):B.heap[k]?=some o :=
 (hg.block k (j0a h) (fun e=>by
   obtain⟨o',h1,h2⟩:=hr k e.symm;rw[h] at h1;cases h1;rw[ho] at h2;cases h2)).trans h
theorem j8v {B:Nat} {W W':World} (h:Below W.heap.size W W'):KeepsFrom B W W' :=
 KeepsFrom.of_grownBy (row:=none) ⟨h.os,h.tape,h.output,h.size,fun k hk _=>h.block k hk⟩ (fun j e=>by cases e)
theorem k4o {n l:Nat} {P:Program} {f:FuncId} {args:Array Value} {w:World} {R:Ending->World->Prop} (h:Calls P f args w R):CallsIn (Fence.wide.inRound l) n P f args w R :=
 CallsIn.inRound l (callsIn_wide.2 h)
theorem k2v {n l:Nat} {P:Program} {f:FuncId} {args:Array Value} {w:World} {d:Nat} {os:Array Obj} {v:Value}
 (h:Calls P f args (grow (redrawn w d) os) fun e w'=>e=.returned v∧Below (grow (redrawn w d) os).heap.size (grow (redrawn w d) os) w'):CallsIn (Fence.wide.inRound l) n P f args (grow (redrawn w d) os) fun e w''=>e=.returned v∧∃ p:Regrown,w''=grow (redrawn w p.d) p.os :=
 k4o (Calls.regrown_of h)
end Go.Proofs.YtmennjmjakdkcaaGreat
