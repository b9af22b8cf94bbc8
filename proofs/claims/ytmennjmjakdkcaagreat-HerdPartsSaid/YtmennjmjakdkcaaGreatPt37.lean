/- HerdParts. -/
import Derived.Test.YtmennjmjakdkcaaGreatPt36
set_option linter.unusedVariables false
set_option linter.unusedSimpArgs false
set_option maxRecDepth 100000
set_option maxHeartbeats 4000000
namespace Go.Proofs.YtmennjmjakdkcaaGreat
open Go.RowKit
def FE0I (base:Nat):VF:=fun v w=>∃ q:Nat,v=.slice (some ⟨q,0,none⟩) 0 0∧base<=q∧w.heap[q]?=some (.cells #[] 3 (0,0))
theorem FE0I.st {base:Nat} (i:Nat) (v:Value) (w w':World) (hT:TBw i w w') (h:FE0I base v w):FE0I base v w':=by
 obtain⟨q,h1,h2,h3⟩:=h;exact⟨q,h1,h2,j0e h3 hT (zL9 _)⟩
def FRow (base:Nat) (l:List Int):VF:=fun v w=>∃ (q:Nat) (u:Value),v=.slice (some ⟨q,0,none⟩) 1 1∧base<=q∧w.heap[q]?=some (.cells #[u] 25 (0,0))∧OwnI w base u l
theorem FRow.st {base:Nat} {l:List Int} (i:Nat) (v:Value) (w w':World) (hT:TBw i w w') (h:FRow base l v w):FRow base l v w':=by
 obtain⟨q,u,h1,h2,h3,h4⟩:=h;exact⟨q,u,h1,h2,j0e h3 hT (zL9 _),h4.below hT (zL9 _)⟩
theorem q1o {ops:Array Oper} {rest:List Oper} {o:Oper} {a:Act} {Q:Exit->Act->World->Prop} {w:World}
 (a4:o.guard=none) (s x:Operand) (ho:o.op=.call { callee:=.builtin .append,args:=#[s,x],argTypes:=#[26,26] })
 (base g:Nat) (v u:Value) (ls:List (List Int)) (l:List Int) (hs:a.eval s=v) (hx:a.eval x=.slice (some ⟨g,0,none⟩) 1 1) (hg:w.heap[g]?=some (.cells #[u] 25 (0,0)))
 (a1:OwnG w base v ls) (hu:OwnI w base u l) (a5:ls.length<4294967296) (a0:base<=w.heap.size)
 (h:∀ v' w',OwnG w' base v' (ls++[l])->Below base w w'->w.grownBy w' v.ownBlock->wpList Tryz.prog ops Q rest (a.put o.dst v') w') :
 wpList Tryz.prog ops Q (o::rest) a w:=by
 obtain⟨mv,h1,h2⟩:=a1;have a3:u.oneCell'=true:=by
  rcases hu.2 with ⟨rfl,_⟩|⟨g,cap,cur,rfl,_⟩<;>rfl
 refine j7t (P:=Tryz.prog) j8g a4 s x ho base v mv u #[u] g hs hx hg rfl rfl (j6i a3) h1 (by rw[h2.1];exact a5) (by decide) a0 ?_
 intro g' cap w' a6 a2 _;exact h _ _ (OwnG.snoc h1 h2 hu a6 a2) ((zB2 _ _).grown a2 a0 (fun k hk=>(Own.lt h1 k hk).1)) a2
theorem q3y {b:Hb} {r:List Int} {base q:Nat} {A':Option Addr} {c':Nat} {w5 w6 w7:World} (h5:w5.heap[q]?=some b.obj) (hO:HbO w5 base b) (hq:base<=q) (a5:OwnG w6 base (.slice A' (b.hs++[r]).length c') (b.hs++[r])) (a0:w5.grownBy w6 b.vh.ownBlock) (a4:Below base w5 w6)
 (h7:w7=w6.setCell ⟨q,3,none⟩ (.slice A' (b.hs++[r]).length c')) :
 w7.heap[q]?=some (Hb.obj ⟨b.t,b.A,b.c,b.l,b.Ak,b.ck,b.ks,A',c',b.hs++[r],b.Ad,b.cd,b.ds⟩)∧HbO w7 base ⟨b.t,b.A,b.c,b.l,b.Ak,b.ck,b.ks,A',c',b.hs++[r],b.Ad,b.cd,b.ds⟩∧Below base w5 w7∧(∀ j,j≠q->b.vh.ownBlock≠some j->j<w5.heap.size->w7.heap[j]?=w5.heap[j]?):=by
 have a3:=j0a h5;obtain⟨mv,h1,h2⟩:=hO.h;have a2:b.vh.ownBlock≠some q:=h1.ne' h5 (by decide)
 have q6:w6.heap[q]?=some b.obj:=(a0.block q a3 (fun e=>a2 e.symm)).trans h5
 have q7:w7.heap[q]?=some (Hb.obj ⟨b.t,b.A,b.c,b.l,b.Ak,b.ck,b.ks,A',c',b.hs++[r],b.Ad,b.cd,b.ds⟩):=by
  rw[h7];refine(j0g q6).trans ?_;simp
 have a1:w6.grownBy w7 (some q):=by rw[h7];exact⟨rfl,rfl,rfl,by simp,fun j _ hne=>zB1 _ ⟨q,3,none⟩ _ j (fun e=>hne (by rw[e]))⟩
 refine⟨q7,⟨?_,?_,?_,?_⟩,by rw[h7];exact Below.setCell a4 (p:=⟨q,3,none⟩) hq _,fun j hj hn hl=>?_⟩
 ·have h:=hO.m.kept a0 (j0y hO.m h1 (by decide))
  exact h.kept a1 (.inr (h.ne' q6 (by decide)))
 ·have h:=hO.k.kept a0 (j0y hO.k h1 (by decide))
  exact h.kept a1 (.inr (h.ne' q6 (by decide)))
 ·exact a5.keptB a1 q6
 ·have h:=hO.d.kept a0 (j0y hO.d h1 (by decide))
  exact h.kept a1 (.inr (h.ne' q6 (by decide)))
 ·rw[h7,zB1 _ ⟨q,3,none⟩ _ j hj];exact a0.block j hl fun e=>hn e.symm
def CpN (b:Hb) (A1:Option Addr) (a1:Nat) (A2:Option Addr) (a2:Nat) (A4:Option Addr) (a4 g k:Nat) (w0 w:World):Prop :=
 ∃ (Ah:Option Addr) (ah:Nat),w.heap[g]?=some (Hb.obj ⟨b.t,A1,a1,b.l,A2,a2,b.ks,Ah,ah,b.hs.take k,A4,a4,b.ds⟩)∧w.heap[g+1]?=some (boxO 0 (.slice none 0 0) (.slice none 0 0) (.slice none 0 0) (.slice none 0 0)) ∧
  HbO w g ⟨b.t,A1,a1,b.l,A2,a2,b.ks,Ah,ah,b.hs.take k,A4,a4,b.ds⟩∧Below g w0 w
theorem q0w (b:Hb) (w:World) (hin:HbIn w b) (hz:HbZ w b) (hl:b.l.length<=1000) (hk:b.ks.length<=1000) (hh:b.hs.length<=1000) (hd:b.ds.length<=1000) (hr:∀ r∈b.hs,r.length<=1000):Calls Tryz.prog 92 #[b.v] w (k8d b w):=by
 obtain⟨V,hV⟩:∃ V,V=(w.alloc b.obj).alloc (Obj.cells #[.int .i64 0,.slice none 0 0,.slice none 0 0,.slice none 0 0,.slice none 0 0] 29):=⟨_,rfl⟩;obtain⟨g,hg⟩:∃ g,g=w.heap.size:=⟨_,rfl⟩;have b0:V.heap[g]?=some b.obj:=by rw[hV,hg];exact j0b (j0c rfl) _
 have b1:V.heap[g+1]?=some (boxO 0 (.slice none 0 0) (.slice none 0 0) (.slice none 0 0) (.slice none 0 0)):=by rw[hV,hg];exact j0c (by simp)
 have be:Below w.heap.size w V:=by rw[hV];exact(bal0 w _).trans ((bal0 _ _).mono (by simp))
 have bi:=hin.below be (zL9 _);have bj:V.heap.size=g+2:=by rw[hV,hg];simp
 have HZ:=zQ9 hz;have af:Below V.heap.size V (V.alloc (Obj.cells #[] 117)):=bal0 V _;have q1:(V.alloc (Obj.cells #[] 117)).heap[g+2]?=some (Obj.cells #[] 117 (0,0)):=j0c bj.symm;have bz:=bi.m.below af (zL9 _);have x1:=j0e b0 af (zL9 _);have HV:=zQ9 (zA9 be (zA9 b0 (zA9 b1 (zA9 bi (zA9 bj hg)))));have H1:=zQ9 (zA9 q1 (zA9 bz af));have bs:=zQ9 hin;have cb:=hz.m;obtain⟨c0,c1,c2,c3,c4⟩:=j0h x1;unfold Hb.v;go_enter Tryz.func92,Tryz.ntmps92
 go_upto_region 1 with (fail)
 rw[<-hV,<-hg];have cu:=j0a b0;have b4:=j0a x1;clear hV hg hin be bi b0 b1 hz q1 bz x1 af;go_upto_region 2 with (at_builtin;refine j5e k1q rfl (.tmp 5) (.tmp 8) rfl (g+2) (g+2) b.A b.l.length b.c b.l rfl H1.o.1 rfl H1.o.2.1 cb j2h j9r ?_ ?_ ?_ ?_;(omega);(decide);(exact zL9 _);intro v' w2 b7 bn;obtain⟨A1,a1,rfl,-,-,-⟩:=b7.form j2h;have H2:=zQ9 (zA9 b7 bn);have x2:=j0e (j0e HV.o.2.1 H1.o.2.2 (zL9 _)) bn (zL9 _);clear c0 c1 c2 c3 c4 b7 bn;obtain⟨-,c1,-,-,-⟩:=j0h x2;have f1:=frz x2 1;have cn:=j0a x2;have X2:=zQ9 x2;clear x2)
 obtain⟨W3,ar⟩:∃ W3,W3=w2.setCell ⟨g,1,none⟩ (.slice A1 b.l.length a1):=⟨_,rfl⟩;rw[<-ar];have a5:∀ j,j≠g->W3.heap[j]?=w2.heap[j]?:=fun j hj=>by rw[ar];exact zB1 _ ⟨g,1,none⟩ _ j hj
 have x3:W3.heap[g]?=some (boxO b.t (.slice A1 b.l.length a1) b.vk b.vh b.vd):=by rw[ar];exact(j0g X2.o).trans (by simp[boxO,Hb.vk,Hb.vh,Hb.vd])
 have ag:Below V.heap.size V w2:=H1.o.2.2.trans (H2.o.2.mono H1.o.2.2.size);have y3:=(a5 (g+1) (by omega)).trans (j0e HV.o.2.2.1 ag (zL9 _))
 have bu:=HV.o.1.trans (ag.mono HV.o.1.size);have b8:Below w.heap.size w W3:=by rw[ar];exact Below.setCell bu (p:=⟨g,1,none⟩) (by rw[<-HV.o.2.2.2.2.2];exact zL9 _) _
 have bB:=bs.o.below b8 (zL9 _);have c9:=ag.size;have aH:g+2<=W3.heap.size:=(by have h1:W3.heap.size=w2.heap.size:=(by rw[ar];simp[World.setCell]);have:=HV.o.2.2.2.2.1;omega)
 have bv:OwnM W3 (g+2) (.slice A1 b.l.length a1) b.l:=H2.o.1.upon fun j hj=>a5 j (by omega)
 have H3:=zQ9 (zA9 x3 (zA9 y3 (zA9 b8 (zA9 bB (zA9 aH bv)))));clear ar a5 x3 y3 bu b8 bB c9 c1 f1 cn bv ag cu b4 bj;have a3:Below W3.heap.size W3 W3.drew:=j0w (zB2 _ _);have HC:=zQ9 (fun(w':World) (hp:Below W3.drew.heap.size W3.drew w')=>zA9 (j0h (j0e (j0e H3.o.1 a3 (zL9 _)) hp (zL9 _))) (j0a (j0e (j0e H3.o.1 a3 (zL9 _)) hp (zL9 _))))
 have az:=zQ9 (zA9 (H3.o.2.2.2.1.below a3 (zL9 _)) ((HZ.o.below H3.o.2.2.1 (zL9 _)).below a3 (zL9 _)));have bw:g+2<=W3.drew.heap.size:=aH;clear a3 aH;go_wp2_with fail
 refine j0q 9 0 0 [] [] 0 (TBw) (PBw W3.drew) [0,0,0,0,0,0,0,0,0] (by as_aux_lemma=>kernel_rfl) (by as_aux_lemma=>kernel_rfl) (by as_aux_lemma=>kernel_rfl) (by as_aux_lemma=>kernel_rfl) (by omega) (.inl rfl) rfl rfl (fun k i w1 w2 hc _ hT hp=>PBw.st k i w1 w2 hT hp) (fun k=>zB2 _ _) ?_
 apply zC2;refine⟨fun ys=>?_,fun ops K hK=>?_⟩
 ·simp only[List.take_succ_cons,List.take_zero,j0p,List.filterMap_cons,List.filterMap_nil,j0r];go_simp
  rfl
 simp only[List.take_succ_cons,List.take_zero,List.drop_succ_cons,List.drop_zero] at hK ⊢;refine LexT.some (FE0I (g+2)) (fun i v w1 w2 hc _ hT h=>FE0I.st i v w1 w2 hT h) (fun ys w' hp hpk hq hd=>?_) ?_
 ·try simp[j0d,j0f,DF.holds,Region.binds,EqF] at hd
  try simp only[hd]
  have aG:=Below.size hp;have HX:=zQ9 (show TBw 0 w' (w'.alloc (Obj.cells #[] 3))∧FE0I (g+2) (.slice (some ⟨w'.heap.size,0,none⟩) 0 0) (w'.alloc (Obj.cells #[] 3)) from⟨bal0 _ _,w'.heap.size,rfl,by omega,j0c rfl⟩)
  clear hp hpk;intro Q2 aa;go_wp2_with fail
  exact HX.o
 try simp only[nl9]
 repeat
  refine LexT.const TBw.rf ?_;apply zC2;refine⟨fun ys w' hp hpk hq hd=>?_,?_⟩
  ·try simp[j0d,j0f,DF.holds,Region.binds,EqF] at hd
   try simp only[hd]
   obtain⟨⟨c0,c1,c2,c3,c4⟩,an⟩:=HC.o w' hp;intro Q2 aa;go_wp2_with fail
   rfl
  try simp only[nl9]
 refine LexT.some (FOI (g+2) b.ks) (fun i v w1 w2 hc _ hT h=>FOI.st i v w1 w2 hT h) (fun ys w' hp hpk hq hd=>?_) ?_
 ·try simp[j0d,j0f,DF.holds,Region.binds,EqF] at hd
  try simp only[hd]
  obtain⟨⟨q,aj,ae,ac⟩,a6⟩:=hd;have ai:=az.o.1.k.below hp (zL9 _);simp only[aj,a6];have ad:=zQ9 (zA9 ae (zA9 ac ai));clear hp hpk aj a6 ae ac ai;intro Q2 aa;go_wp2_with (at_builtin;refine j5e j3b rfl (.tmp 12) (.tmp 14) rfl (g+2) q b.Ak b.ks.length b.ck b.ks rfl ad.o.2.1 rfl ad.o.2.2 az.o.2.k j0n j1x (by omega) (by decide) ad.o.1 ?_;intro v' w5 a0 ak;have HX:=zQ9 (show TBw 0 w' w5∧FOI (g+2) b.ks v' w5 from⟨ak,a0⟩);clear a0 ak)
  exact HX.o
 try simp only[nl9]
 refine LexT.some (FE0 (g+2)) (fun i v w1 w2 hc _ hT h=>FE0.st i v w1 w2 hT h) (fun ys w' hp hpk hq hd=>?_) ?_
 ·try simp[j0d,j0f,DF.holds,Region.binds,EqF] at hd
  try simp only[hd]
  have aG:=Below.size hp;have HX:=zQ9 (show TBw 0 w' (w'.alloc (Obj.cells #[] 33))∧FE0 (g+2) (.slice (some ⟨w'.heap.size,0,none⟩) 0 0) (w'.alloc (Obj.cells #[] 33)) from⟨bal0 _ _,w'.heap.size,rfl,by omega,j0c rfl⟩)
  clear hp hpk;intro Q2 aa;go_wp2_with fail
  exact HX.o
 try simp only[nl9]
 repeat
  refine LexT.const TBw.rf ?_;apply zC2;refine⟨fun ys w' hp hpk hq hd=>?_,?_⟩
  ·try simp[j0d,j0f,DF.holds,Region.binds,EqF] at hd
   try simp only[hd]
   obtain⟨⟨c0,c1,c2,c3,c4⟩,an⟩:=HC.o w' hp;intro Q2 aa;go_wp2_with fail
   rfl
  try simp only[nl9]
 refine LexT.some (FOD (g+2) b.ds) (fun i v w1 w2 hc _ hT h=>FOD.st i v w1 w2 hT h) (fun ys w' hp hpk hq hd=>?_) ?_
 ·try simp[j0d,j0f,DF.holds,Region.binds,EqF] at hd
  try simp only[hd]
  obtain⟨⟨q,aj,ae,ac⟩,a6,-⟩:=hd;have ai:=az.o.1.d.below hp (zL9 _);simp only[aj,a6];have ad:=zQ9 (zA9 ae (zA9 ac ai));clear hp hpk aj a6 ae ac ai;intro Q2 aa;go_wp2_with (at_builtin;refine j5e j9q rfl (.tmp 16) (.tmp 18) rfl (g+2) q b.Ad b.ds.length b.cd b.ds rfl ad.o.2.1 rfl ad.o.2.2 az.o.2.d j3k j7r (by omega) (by decide) ad.o.1 ?_;intro v' w5 a0 ak;have HX:=zQ9 (show TBw 0 w' w5∧FOD (g+2) b.ds v' w5 from⟨ak,a0⟩);clear a0 ak)
  exact HX.o
 try simp only[nl9]
 repeat
  refine LexT.const TBw.rf ?_;apply zC2;refine⟨fun ys w' hp hpk hq hd=>?_,?_⟩
  ·try simp[j0d,j0f,DF.holds,Region.binds,EqF] at hd
   try simp only[hd]
   obtain⟨⟨c0,c1,c2,c3,c4⟩,an⟩:=HC.o w' hp;intro Q2 aa;go_wp2_with fail
   rfl
  try simp only[nl9]
 refine hK _ fun ys w' hp hF=>?_
 simp[AllF,DF.holds] at hF;obtain⟨-,-,-,ao,-,-,-,aq,bF⟩:=hF;replace hp:Below W3.drew.heap.size W3.drew w':=hp;replace ao:OwnI w' (g+2) (ys 15) b.ks:=ao;replace aq:OwnD w' (g+2) (ys 19) b.ds:=aq;obtain⟨A2,a2,a6,-,-,-⟩:=ao.form j0n;obtain⟨A4,a4,b9,-,-,-⟩:=aq.form j3k;rw[a6] at ao;rw[b9] at aq;simp only[a6,b9,bF];have a3:Below W3.heap.size W3 W3.drew:=j0w (zB2 _ _);have a7:=a3.trans (hp.mono a3.size);have x4:=j0e H3.o.1 a7 (zL9 _);have y4:=j0e H3.o.2.1 a7 (zL9 _);have o4:=H3.o.2.2.2.2.2.below a7 (zL9 _);obtain⟨c0,c1,c2,c3,c4⟩:=blk5 x4;have q2:=frz x4 2;have q3:=frz x4 3;have q4:=frz x4 4;have cc:=j0a x4;have c8:=j0a y4;have H4:=zQ9 (zA9 x4 (zA9 y4 (zA9 a7 (zA9 o4 (zA9 ao aq)))));clear hK a6 b9 bF a3 hp x4 y4 a7 o4 ao aq;go_upto_region 6 with (fail)
 obtain⟨Z,hZ⟩:∃ Z,Z=((w'.setCell ⟨g,2,none⟩ (.slice A2 b.ks.length a2)).setCell ⟨g,4,none⟩ (.slice A4 b.ds.length a4)).setCell ⟨g,3,none⟩ (.slice none 0 0):=⟨_,rfl⟩;rw[<-hZ];have aD:Z.heap[g]?=some (Hb.obj ⟨b.t,A1,a1,b.l,A2,a2,b.ks,none,0,b.hs.take 0,A4,a4,b.ds⟩):=by
  rw[hZ];exact(j0g (j0g (j0g H4.o.1))).trans (by simp[boxO,Hb.obj,Hb.vm,Hb.vk,Hb.vh,Hb.vd])
 have a5:∀ j,g<j->Z.heap[j]?=w'.heap[j]?:=fun j hj=>by
  rw[hZ,zB1 _ ⟨g,3,none⟩ _ j (by dsimp;omega),zB1 _ ⟨g,4,none⟩ _ j (by dsimp;omega),zB1 _ ⟨g,2,none⟩ _ j (by dsimp;omega)]
 have a8:=HV.o.2.2.2.2.2;have ba:Below w.heap.size w Z:=by
  have h1:=H3.o.2.2.1.trans (H4.o.2.2.1.mono H3.o.2.2.1.size);rw[hZ];exact Below.setCell (Below.setCell (Below.setCell h1 (p:=⟨g,2,none⟩) (by dsimp;omega) _) (p:=⟨g,4,none⟩) (by dsimp;omega) _) (p:=⟨g,3,none⟩) (by dsimp;omega) _
 have h1:=H4.o.2.2.2;have ax:HbO Z g ⟨b.t,A1,a1,b.l,A2,a2,b.ks,none,0,b.hs.take 0,A4,a4,b.ds⟩ :=
  ⟨(h1.1.upon fun j hj=>a5 j (by omega)).mono (by omega),(h1.2.1.upon fun j hj=>a5 j (by omega)).mono (by omega),OwnG.nil_,(h1.2.2.upon fun j hj=>a5 j (by omega)).mono (by omega)⟩
 have bf:g<Z.heap.size:=j0a aD;have cp:=bs.o.below ba (zL9 _);have cv:=zQ9 (show CpN b A1 a1 A2 a2 A4 a4 g 0 w Z from⟨none,0,aD,(a5 (g+1) (by omega)).trans H4.o.2.1,ax,by rw[a8];exact ba⟩)
 have b6:=zQ9 a8;obtain⟨A3,b3⟩:∃ A3,A3=b.Ah:=⟨_,rfl⟩;have HG:=zQ9 (show j1d w A3 b.hs.length b.hs by rw[b3];exact HZ.o.h)
 have HR:=zQ9 hr;rw[show b.vh=Value.slice A3 b.hs.length b.ch by rw[b3]]
 clear b3 hr;clear hZ aD a5 ba h1 ax c0 c1 c2 c3 c4 q2 q3 q4 cc c8 bf cp a8 bw az HC H4 H3 X2 H2 H1;go_loopg [4] b.hs.length (fun gh v4 wr=>∃ k:Nat,k+gh=b.hs.length∧v4=.int .i64 k∧CpN b A1 a1 A2 a2 A4 a4 g k w wr)
 case atStart=>exact⟨0,by omega,rfl,cv.o⟩
 case round =>
  obtain⟨k,hk,rfl,hC⟩:=hrel;obtain⟨w5,bG⟩:∃ W:World,W=wr:=⟨_,rfl⟩;rw[<-bG] at hC ⊢;clear bG;obtain⟨Ah,ah,x5,y5,av,aw⟩:=hC;have a8:=b6.o;have aF:=HG.o.below (B:=w.heap.size) (by rw[<-a8];exact aw) (zL9 _)
  obtain⟨m,hm⟩:∃ m,m=(b.hs.take k).length:=⟨_,rfl⟩;replace x5:w5.heap[g]?=some (boxO b.t (.slice A1 b.l.length a1) (.slice A2 b.ks.length a2) (.slice Ah m ah) (.slice A4 b.ds.length a4)):=by rw[hm];exact x5
  obtain⟨c0,c1,c2,c3,c4⟩:=j0h x5;have an:=j0a x5;have br:=j0a y5;by_cases hlt:k<b.hs.length
  ·obtain⟨bh,oh,B,r,cr,rfl,ca,am,bp,aA,cg,cw,bC⟩:=aF.get hlt;have cj:=HR.o r (zB4 am);have i1:(k:Int)<(b.hs.length:Int):=by omega
   have c6:g+2<=w5.heap.size:=by omega
   obtain⟨n,hn⟩:∃ n,n=r.length:=⟨_,rfl⟩;rw[<-hn] at bp aA cg cj;have HK:=zQ9 (zA9 hk (zA9 x5 (zA9 y5 (zA9 av (zA9 aw (zA9 aA (zA9 bC (zA9 am (zA9 hn hm)))))))));have a3:Below w5.heap.size w5 w5.drew:=j0w (zB2 _ _);have HC:=zQ9 (fun(w':World) (hp:Below w5.drew.heap.size w5.drew w')=>zA9 (j0h (j0e (j0e HK.o.2.1 a3 (zL9 _)) hp (zL9 _))) (zA9 (j0u (j0u bp a3 (zL9 _)) hp (zL9 _)) (zA9 (j0a (j0e (j0e HK.o.2.1 a3 (zL9 _)) hp (zL9 _))) (Nat.lt_of_lt_of_le ca (zB6 a3.size hp.size)))))
   have cf:=zQ9 (aA.below a3 (zL9 _));have bw:g+2<=w5.drew.heap.size:=c6;clear hk x5 y5 av aw aA bC am hn a3 c6 aF a8 hm;go_upto_region 8 with (fail)
   refine j0q 9 0 0 [] [] 0 (TBw) (PBw w5.drew) [0,0,0,0,0,0,0,0,0] (by as_aux_lemma=>kernel_rfl) (by as_aux_lemma=>kernel_rfl) (by as_aux_lemma=>kernel_rfl) (by as_aux_lemma=>kernel_rfl) (by omega) (.inl rfl) rfl rfl (fun k i w1 w2 hc _ hT hp=>PBw.st k i w1 w2 hT hp) (fun k=>zB2 _ _) ?_
   apply zC2;refine⟨fun ys=>?_,fun ops K hK=>?_⟩
   ·simp only[List.take_succ_cons,List.take_zero,j0p,List.filterMap_cons,List.filterMap_nil,j0r];go_simp
    rfl
   simp only[List.take_succ_cons,List.take_zero,List.drop_succ_cons,List.drop_zero] at hK ⊢
   repeat
    refine LexT.const TBw.rf ?_;apply zC2;refine⟨fun ys w' hp hpk hq hd=>?_,?_⟩
    ·try simp[j0d,j0f,DF.holds,Region.binds,EqF] at hd
     try simp only[hd]
     obtain⟨⟨c0,c1,c2,c3,c4⟩,bm,an,ce⟩:=HC.o w' hp;intro Q2 aa;go_wp2_with fail
     rfl
    try simp only[nl9]
   refine LexT.some (FE0I (g+2)) (fun i v w1 w2 hc _ hT h=>FE0I.st i v w1 w2 hT h) (fun ys w' hp hpk hq hd=>?_) ?_
   ·try simp[j0d,j0f,DF.holds,Region.binds,EqF] at hd
    try simp only[hd]
    have aG:=Below.size hp;have HX:=zQ9 (show TBw 0 w' (w'.alloc (Obj.cells #[] 3))∧FE0I (g+2) (.slice (some ⟨w'.heap.size,0,none⟩) 0 0) (w'.alloc (Obj.cells #[] 3)) from⟨bal0 _ _,w'.heap.size,rfl,by omega,j0c rfl⟩)
    clear hp hpk;intro Q2 aa;go_wp2_with fail
    exact HX.o
   try simp only[nl9]
   repeat
    refine LexT.const TBw.rf ?_;apply zC2;refine⟨fun ys w' hp hpk hq hd=>?_,?_⟩
    ·try simp[j0d,j0f,DF.holds,Region.binds,EqF] at hd
     try simp only[hd]
     obtain⟨⟨c0,c1,c2,c3,c4⟩,bm,an,ce⟩:=HC.o w' hp;intro Q2 aa;go_wp2_with fail
     rfl
    try simp only[nl9]
   refine LexT.some (FOI (g+2) r) (fun i v w1 w2 hc _ hT h=>FOI.st i v w1 w2 hT h) (fun ys w' hp hpk hq hd=>?_) ?_
   ·try simp[j0d,j0f,DF.holds,Region.binds,EqF] at hd
    try simp only[hd]
    obtain⟨⟨q,aj,ae,ac⟩,a6⟩:=hd;have ai:=cf.o.below hp (zL9 _);simp only[aj,a6];have ad:=zQ9 (zA9 ae (zA9 ac ai));clear hp hpk aj a6 ae ac ai;intro Q2 aa;go_wp2_with (at_builtin;refine j5e j3b rfl (.tmp 33) (.tmp 37) rfl (g+2) q B n cr r rfl ad.o.2.1 rfl ad.o.2.2 HK.o.2.2.2.2.2.2.1 j0n j1x (by omega) (by decide) ad.o.1 ?_;intro v' w5 a0 ak;have HX:=zQ9 (show TBw 0 w' w5∧FOI (g+2) r v' w5 from⟨ak,a0⟩);clear a0 ak)
    exact HX.o
   try simp only[nl9]
   refine LexT.some (FRow (g+2) r) (fun i v w1 w2 hc _ hT h=>FRow.st i v w1 w2 hT h) (fun ys w' hp hpk hq hd=>?_) ?_
   ·try simp[j0d,j0f,DF.holds,Region.binds,EqF] at hd
    try simp only[hd]
    have aG:=Below.size hp;replace hd:OwnI w' (g+2) (ys 38) r:=hd;obtain⟨A9,a9,e9,-,-,-⟩:=hd.form j0n;rw[e9] at hd;simp only[e9];rw[<-HK.o.2.2.2.2.2.2.2.2.1] at hd ⊢;have HX:=zQ9 (show TBw 0 w' (w'.alloc (Obj.cells #[.slice A9 n a9] 25))∧FRow (g+2) r (.slice (some ⟨w'.heap.size,0,none⟩) 1 1) (w'.alloc (Obj.cells #[.slice A9 n a9] 25)) from⟨bal0 _ _,w'.heap.size,.slice A9 n a9,rfl,by omega,j0c rfl,hd.below (bal0 _ _) (zL9 _)⟩)
    clear hp hpk hd e9;intro Q2 aa;go_wp2_with fail
    exact HX.o
   try simp only[nl9]
   refine hK _ fun ys w' hp hF=>?_
   simp[AllF,DF.holds] at hF;obtain⟨-,bA,-,-,-,-,-,-,cq⟩:=hF;replace hp:Below w5.drew.heap.size w5.drew w':=hp;obtain⟨q,u,bt,ae,ac,bD⟩:=cq;simp only[bA,bt];have a3:Below w5.heap.size w5 w5.drew:=j0w (zB2 _ _);have a7:=a3.trans (hp.mono a3.size);have x6:=j0e HK.o.2.1 a7 (zL9 _);have y6:=j0e HK.o.2.2.1 a7 (zL9 _);have bo:=HK.o.2.2.2.1.below a7 (zL9 _);have c5:=HK.o.2.2.2.2.1.trans (a7.mono (by have:=HK.o.2.2.2.2.1.size;have:=b6.o;omega))
   have cx:=a7.size;have hm:=HK.o.2.2.2.2.2.2.2.2.2;have bq:OwnG w' g (.slice Ah m ah) (b.hs.take k):=by rw[hm];exact bo.h
   have ct:(b.hs.take k).length<4294967296:=by rw[List.length_take];omega
   have co:g<=w'.heap.size:=by omega
   have HQ:=zQ9 (zA9 x6 (zA9 y6 (zA9 bo (zA9 c5 (zA9 bq (zA9 ac (bD.mono (Nat.le_add_right g 2))))))));clear hK bt bA a3 hp a7 x6 y6 bo c5 bq ae ac bD hm an br c0 c1 c2 c3 c4 bp;go_wp2_with (at_builtin;refine q1o rfl (.tmp 32) (.tmp 39) rfl g q _ u (b.hs.take k) r rfl rfl HQ.o.2.2.2.2.2.1 HQ.o.2.2.2.2.1 HQ.o.2.2.2.2.2.2 ct co ?_;intro v' w6 aB c7 aE;obtain⟨A',c',rfl,-,-,-⟩:=aB.form;obtain⟨m',b5⟩:∃ m',m'=(b.hs.take k++[r]).length:=⟨_,rfl⟩;rw[<-b5] at aB ⊢;have bE:Value.ownBlock (.slice Ah m ah)≠some g:=(by obtain⟨mv,h1,h2⟩:=HQ.o.2.2.2.2.1;exact h1.ne' HQ.o.1 (by decide));have q6:=(aE.block g (j0a HQ.o.1) (fun e=>bE e.symm)).trans HQ.o.1;obtain⟨-,-,-,c3,-⟩:=blk5 q6;have f3:=frz q6 3;have an:=j0a q6;have H6:=zQ9 (zA9 aB (zA9 c7 (zA9 aE b5)));clear aB c7 aE b5 bE q6)
   go_roundg (gk-1)
   case measure=>have:=HK.o.1;omega
   case rel =>
    have hm:=HK.o.2.2.2.2.2.2.2.2.2;have aC:=q3y (b:=⟨b.t,A1,a1,b.l,A2,a2,b.ks,Ah,ah,b.hs.take k,A4,a4,b.ds⟩) (r:=r) (base:=g) (q:=g) (A':=A') (c':=c') (w5:=w') (w6:=w6) (w7:=w6.setCell ⟨g,3,none⟩ (.slice A' m' c')) (by rw[HQ.o.1,hm];rfl) HQ.o.2.2.1 (zL9 _) (by rw[<-H6.o.2.2.2];exact H6.o.1) (by have h:=H6.o.2.2.1;rw[hm] at h;exact h) H6.o.2.1 (by rw[<-H6.o.2.2.2])
    have e1:b.hs.take (k+1)=b.hs.take k++[r]:=by rw[List.take_add_one,HK.o.2.2.2.2.2.2.2.1];rfl
    refine⟨k+1,by have:=HK.o.1;omega,by go_num,A',c',?_⟩
    rw[e1];refine⟨aC.1,?_,aC.2.1,HQ.o.2.2.2.1.trans aC.2.2.1⟩;rw[aC.2.2.2 (g+1) (by omega) (by obtain⟨mv,h1,h2⟩:=HQ.o.2.2.1.h;exact h1.ne' HQ.o.2.1 (by decide)) (j0a HQ.o.2.1)]
    exact HQ.o.2.1
  ·obtain rfl:k=b.hs.length:=by omega
   have e1:b.hs.take b.hs.length=b.hs:=List.take_length;rw[e1] at av hm;subst hm;have cy:g+1<w5.heap.size:=br;obtain⟨d0,d1,d2,d3,d4⟩:=blk5 y5;obtain⟨e0,e1,e2,e3,e4⟩:=zA9 (frz y5 0) (zA9 (frz y5 1) (zA9 (frz y5 2) (zA9 (frz y5 3) (frz y5 4))));have H5:=zQ9 (zA9 x5 (zA9 y5 (zA9 av aw)));clear x5 y5 av aw hk aF a8;go_wp2_with fail
   obtain⟨Z,hZ⟩:∃ Z,Z=(((((w5.setCell ⟨g+1,0,none⟩ (.int .i64 b.t)).setCell ⟨g+1,1,none⟩ (.slice A1 b.l.length a1)).setCell ⟨g+1,2,none⟩ (.slice A2 b.ks.length a2)).setCell ⟨g+1,3,none⟩ (.slice Ah b.hs.length ah)).setCell ⟨g+1,4,none⟩ (.slice A4 b.ds.length a4)):=⟨_,rfl⟩;rw[<-hZ];have a8:=b6.o;have hE:=j4c H5.o.2.1 hZ (w:=w) (by rw[<-a8];exact H5.o.2.2.2) (by omega)
   have ax:HbO Z w.heap.size ⟨b.t,A1,a1,b.l,A2,a2,b.ks,Ah,ah,b.hs,A4,a4,b.ds⟩:=by
    rw[<-a8];have h:=H5.o.2.2.1;have hg:=hE.2.2;have hy:=H5.o.2.1;exact⟨h.m.kept hg (.inr (h.m.ne' hy (by decide))),h.k.kept hg (.inr (h.k.ne' hy (by decide))),h.h.keptB hg hy,h.d.kept hg (.inr (h.d.ne' hy (by decide)))⟩
   obtain⟨p0,p1,p2,p3,p4⟩:=blk5 hE.1;have ay:=zQ9 (zA9 ax hE.2.1);have bf:=j0a hE.1;clear hZ hE ax c0 c1 c2 c3 c4 d0 d1 d2 d3 d4 e0 e1 e2 e3 e4 a8;refine bodyPost_ret (v:=Hb.v ⟨b.t,A1,a1,b.l,A2,a2,b.ks,Ah,ah,b.hs,A4,a4,b.ds⟩) (by unfold Hb.v;simp[results,Tryz.f92,go_sem,p0,p1,p2,p3,p4,bf]) rfl ⟨⟨_,_,_,_,_,_,_,_,rfl,ay.o.1⟩,ay.o.2⟩
def EN9 (V:World) (b:Hb) (d:De) (g:Nat) (w:World):Prop:=w.heap[g]?=some b.obj∧w.heap[g+1]?=some (dObj d)∧w.heap[g+1+1]?=some (boxO 0 (.slice none 0 0) (.slice none 0 0) (.slice none 0 0) (.slice none 0 0))∧Below V.heap.size V w
theorem EN9.step {V w w':World} {b:Hb} {d:De} {g:Nat} (h:EN9 V b d g w) (hb:Below w.heap.size w w'):EN9 V b d g w':=⟨j0e h.1 hb (zL9 _),j0e h.2.1 hb (zL9 _),j0e h.2.2.1 hb (zL9 _),h.2.2.2.trans (hb.mono h.2.2.2.size)⟩
theorem q2n (b:Hb) (d:De) (w:World) (hin:HbIn w b) (hz:HbZ w b) (c5:b.l.length<=maxLen) (c7:b.ks.length<=maxLen):Calls Tryz.prog 25 #[b.v,dv d] w (k3z b d w):=by
 obtain⟨V,hV⟩:∃ V,V=((w.alloc b.obj).alloc (dObj d)).alloc (Obj.cells #[.int .i64 0,.slice none 0 0,.slice none 0 0,.slice none 0 0,.slice none 0 0] 29):=⟨_,rfl⟩;obtain⟨g,hg⟩:∃ g,g=w.heap.size:=⟨_,rfl⟩;have HB:=zQ9 (show EN9 w b d g V from⟨by rw[hV,hg];exact j0b (j0b (j0c rfl) _) _,by rw[hV,hg];exact j0b (j0c (by simp)) _,by rw[hV,hg];exact j0c (by simp),by rw[hV];exact bal (bal (bal0 w _) (zL9 _) _) (zL9 _) _⟩)
 obtain⟨c0,c1,c2,c3,c4⟩:=j0h HB.o.1;have af:=j0a HB.o.1;have ba:=zQ9 (zA9 hin hz);have b0:=j9y b V (hin.below HB.o.2.2.2 (zL9 _));obtain⟨ce,bq⟩:∃ ce,ce=b.chk:=⟨_,rfl⟩;rw[<-bq] at b0;have ai:=zQ9 bq;have ay:=zQ9 hg;unfold Hb.v at b0;unfold Hb.v dv;clear hin hz bq;go_enter Tryz.func25,Tryz.ntmps25
 go_upto_region 1 with (fail)
 rw[<-hV,<-hg];clear hV hg;by_cases h0:ce=0
 ·subst h0;have bo:=j2x ai.o.symm;go_upto_region 4 with (go_at_call 18;(with_reducible refine b0.mono ?_);rintro e w2 ⟨rfl,b3⟩;replace HB:=zQ9 (HB.o.step b3);clear b3 c0 c1 c2 c3 c4 af)
  clear b0;obtain⟨c0,c1,c2,c3,c4⟩:=j0h HB.o.1;have af:=j0a HB.o.1;have ca:=bo.d6;have ao:=zQ9 bo;clear bo;by_cases h6:6<=b.ds.length
  ·have a5:j0x b d=6:=by unfold j0x;rw[if_neg (by rw[<-ai.o];simp),if_pos h6]
   have ac:=zQ9 a5;have bD:(6:Int)<=(b.ds.length:Int):=by omega
   have y2:=HB.o.2.2.1;have bf:=HB.o.2.2.2;clear a5 h6;obtain⟨d0,d1,d2,d3,d4⟩:=blk5 y2;obtain⟨e0,e1,e2,e3,e4⟩:=zA9 (frz y2 0) (zA9 (frz y2 1) (zA9 (frz y2 2) (zA9 (frz y2 3) (frz y2 4))));have ag:=j0a y2;have HY:=zQ9 (zA9 y2 bf);clear y2;go_wp2_with fail
   obtain⟨Z,hZ⟩:∃ Z,Z=(((((w2.setCell ⟨g+1+1,0,none⟩ (.int .i64 0)).setCell ⟨g+1+1,1,none⟩ (.slice none 0 0)).setCell ⟨g+1+1,2,none⟩ (.slice none 0 0)).setCell ⟨g+1+1,3,none⟩ (.slice none 0 0)).setCell ⟨g+1+1,4,none⟩ (.slice none 0 0)):=⟨_,rfl⟩;rw[<-hZ];obtain⟨a3,a4⟩:=j3d HY.o.1 hZ HY.o.2 (by rw[<-ay.o];omega)
   clear hZ;obtain⟨p0,p1,p2,p3,p4⟩:=blk5 a3;have ae:=j0a a3;have HZ:=zQ9 a4;have HE:=zQ9 (zA9 (ac.o) (show(6:Int)≠0 by decide))
   clear a3 a4 d0 d1 d2 d3 d4 e0 e1 e2 e3 e4;refine bodyPost_ret (v:=.tuple #[.agg #[.int .i64 0,.slice none 0 0,.slice none 0 0,.slice none 0 0,.slice none 0 0],.int .i64 (6)]) (by simp[results,Tryz.f25,go_sem,p0,p1,p2,p3,p4,ae]) rfl ⟨.inr ⟨by rw[HE.o.1];exact HE.o.2,by rw[HE.o.1]⟩,HZ.o⟩
  have b5:=j9n b d w2 c5 c7;unfold Hb.v dv at b5;obtain⟨z0,z1,z2,z3,z4,z5,z6,z7,z8,z9,bj,b8⟩:=blkD HB.o.2.1;have am:=j0a HB.o.2.1;have bD:¬(6:Int)<=(b.ds.length:Int):=by omega
  obtain⟨E,hE⟩:∃ E,E=j0v b.l.length b.ks.length d:=⟨_,rfl⟩;rw[<-hE] at b5;have az:=zQ9 hE;have b4:=zQ9 h6;clear hE h6;go_upto_region 7 with (go_at_call 67;(with_reducible refine b5.mono ?_);rintro e w3 ⟨rfl,bv⟩;replace HB:=zQ9 (HB.o.step bv);clear bv c0 c1 c2 c3 c4 af z0 z1 z2 z3 z4 z5 z6 z7 z8 z9 bj b8 am)
  clear b5;by_cases hE0:E=0
  ·subst hE0;obtain⟨c0,c1,c2,c3,c4⟩:=j0h HB.o.1;have af:=j0a HB.o.1;have aA:=HB.o.2.2.2;have bt:=q0w b w3 (ba.o.1.below aA (zL9 _)) (ba.o.2.below aA (zL9 _)) (by have:=ao.o.n5;omega) (by have:=ao.o.f3;omega) (by have:=ao.o.f3;have:=ao.o.hl;omega) (by omega) (fun r hr=>by have:=ao.o.n5;have:=ao.o.rl r hr;omega)
   unfold Hb.v at bt;have H3:=zQ9 (zA9 HB.o.1 (zA9 HB.o.2.1 (zA9 HB.o.2.2.1 aA)));clear aA;go_upto_region 10 with (go_at_call 92;refine bt.mono ?_;rintro e w4 ⟨⟨A1,a1,Ak,ak,Ah,ah,Ad,ad,rfl,hO⟩,bm⟩;unfold Hb.v;dsimp only)
   obtain⟨q,hq⟩:∃ q,q=w4.heap.size:=⟨_,rfl⟩;obtain⟨w5,aG⟩:∃ w5,w5=w4.alloc (.cells #[.int .i64 b.t,.slice A1 b.l.length a1,.slice Ak b.ks.length ak,.slice Ah b.hs.length ah,.slice Ad b.ds.length ad] 29):=⟨_,rfl⟩;rw[<-aG,<-hq];have q5:w5.heap[q]?=some (boxO b.t (.slice A1 b.l.length a1) (.slice Ak b.ks.length ak) (.slice Ah b.hs.length ah) (.slice Ad b.ds.length ad)):=by rw[aG,hq];exact j0c rfl
   have bp:Below w3.heap.size w3 w5:=by rw[aG];exact bal bm (zL9 _) _
   have bC:HbO w5 w3.heap.size ⟨b.t,A1,a1,b.l,Ak,ak,b.ks,Ah,ah,b.hs,Ad,ad,b.ds⟩:=by rw[aG];exact hO.below (bal0 w4 _) (zL9 _)
   have c9:w3.heap.size<=q:=by rw[hq];exact bm.size
   clear aG hq hO bm bt c0 c1 c2 c3 c4;have u5:=j0e H3.o.2.1 bp (zL9 _);obtain⟨z0,z1,z2,z3,z4,z5,z6,z7,z8,z9,bj,b8⟩:=blkD u5;obtain⟨c0,c1,c2,c3,c4⟩:=blk5 q5;have fq:=frz q5 4;have am:=j0a q5;have bG:=j0a u5;have H5:=zQ9 (zA9 q5 (zA9 bp bC));clear q5 bp bC u5;have c8:b.ds.length<4294967296:=by omega
   go_upto_region 11 with (at_builtin;refine j9x j9q rfl (.tmp 30) (.tmp 32) rfl w3.heap.size _ b.ds d _ rfl rfl rfl rfl (j7r _) H5.o.2.2.d c8 ?_ ?_ ?_;(decide);(omega);intro gd cd w6 bz bs bB;have bu:(Hb.vd ⟨b.t,A1,a1,b.l,Ak,ak,b.ks,Ah,ah,b.hs,Ad,ad,b.ds⟩).ownBlock≠some q:=H5.o.2.2.d.ne' H5.o.1 (by decide);have q6:w6.heap[q]?=_:=(bs.block q am (fun e=>bu e.symm)).trans H5.o.1;have k4:=(blk5 q6).2.2.2.2;have bE:=frz q6 4;have br:=j0a q6;have H6:=zQ9 (zA9 q6 (zA9 bz (zA9 bs bB)));clear q6 bz bs bB bu)
   obtain⟨w7,bi⟩:∃ w7,w7=w6.setCell ⟨q,4,none⟩ (.slice (some ⟨gd,0,none⟩) (b.ds.length+1) cd):=⟨_,rfl⟩;rw[<-bi];have b7:=app_book (b:=⟨b.t,A1,a1,b.l,Ak,ak,b.ks,Ah,ah,b.hs,Ad,ad,b.ds⟩) (d:=d) H5.o.1 H5.o.2.2 c9 H6.o.2.1 H6.o.2.2.1 H6.o.2.2.2 bi;have be:Below w3.heap.size w3 w7:=H5.o.2.1.trans b7.2.2;replace HB:=zQ9 (HB.o.step be);have H7:=zQ9 (zA9 b7.1 (zA9 be b7.2.1));clear bi b7 be k4 bE br c0 c1 c2 c3 c4 z0 z1 z2 z3 z4 z5 z6 z7 z8 z9 bj b8 am bG fq af H6 H5;obtain⟨c0,c1,c2,c3,c4⟩:=j0h HB.o.1;have af:=j0a HB.o.1;have aB:=j8r b ao.o w7 (ba.o.1.below HB.o.2.2.2 (zL9 _));have aw:Hb.chk ⟨b.t,A1,a1,b.l,Ak,ak,b.ks,Ah,ah,b.hs,some ⟨gd,0,none⟩,cd,b.ds++[d]⟩=0:=k2o ai.o.symm (by omega) az.o.symm
   have bh:j2l b.t b.l b.hs (b.ds++[d]) (-1) 0=Hb.ends ⟨b.t,A1,a1,b.l,Ak,ak,b.ks,Ah,ah,b.hs,some ⟨gd,0,none⟩,cd,b.ds++[d]⟩ (-1) 0:=rfl;obtain⟨b',aF⟩:∃ b':Hb,b'=⟨b.t,A1,a1,b.l,Ak,ak,b.ks,Ah,ah,b.hs,some ⟨gd,0,none⟩,cd,b.ds++[d]⟩:=⟨_,rfl⟩;have bw:b'.v=.agg #[.int .i64 b.t,.slice A1 b.l.length a1,.slice Ak b.ks.length ak,.slice Ah b.hs.length ah,.slice (some ⟨gd,0,none⟩) (b.ds.length+1) cd]:=by rw[aF];unfold Hb.v;simp
   have b9:=H7.o.2.2;have q7:=H7.o.1;rw[<-aF] at b9 aw bh q7;have aE:b'.obj=boxO b.t (.slice A1 b.l.length a1) (.slice Ak b.ks.length ak) (.slice Ah b.hs.length ah) (.slice (some ⟨gd,0,none⟩) (b.ds.length+1) cd):=by rw[aF];simp[boxO]
   rw[aE] at q7;have av:=j2x aw;have bn:=k8t ao.o;have ag:=k8t av;rw[<-bh] at ag;obtain⟨n1,aD⟩:∃ n1,n1=b.eg.length:=⟨_,rfl⟩;obtain⟨n2,an⟩:∃ n2,n2=b'.eg.length:=⟨_,rfl⟩;rw[<-aD] at bn;rw[<-an] at ag;have a2:=zQ9 (zA9 aF (zA9 bw (zA9 b9 (zA9 av (zA9 bn (zA9 ag (zA9 q7 (zA9 aD an))))))));unfold Hb.v at aB;clear aF bw b9 aw bh q7 aE av bn ag aD an;have i0:w.heap.size<=w3.heap.size:=H3.o.2.2.2.size;have i3:g+1+1<w3.heap.size:=j0a H3.o.2.2.1;by_cases aD:(0:Int)<(n1:Int)
   ·have H1:=zQ9 aD;by_cases an:(n2:Int)=0
    ·have a5:j0x b d=12:=by
      unfold j0x;rw[if_neg (by rw[<-ai.o];simp),if_neg b4.o,if_neg (by rw[<-az.o];simp),if_pos]
      refine⟨fun h=>?_,zC1 (by have:=a2.o.2.2.2.2.2.1;omega)⟩
      have:=a2.o.2.2.2.2.1;rw[h] at this;simp at this;omega
     have ac:=zQ9 a5;have e2:((n2:Int)==0)=true:=by simp[an]
     clear a5 an;go_wp2_with (first
      | (go_at_call 57;(with_reducible refine aB.mono ?_);rintro e w8 ⟨⟨v,rfl,hG⟩,a7⟩;obtain⟨A8,a8,rfl,-,-⟩:=hG.form;rw[<-a2.o.2.2.2.2.2.2.2.1];have aq:=zQ9 (HB.o.step a7);have q8:=j0e a2.o.2.2.2.2.2.2.1 a7 (zL9 _);have aC:=a2.o.2.2.1.below a7 (zL9 _);clear c0 c1 c2 c3 c4 af;obtain⟨c0,c1,c2,c3,c4⟩:=blk5 q8;have am:=j0a q8;have H8:=zQ9 (zA9 q8 aC);clear hG a7 q8 aC aB)
      | (go_at_call 57;rw[<-a2.o.2.1];refine(j8r b' a2.o.2.2.2.1 w8 H8.o.2.inn).mono ?_;rintro e w9 ⟨⟨v,rfl,hG⟩,aj⟩;obtain⟨A9,a9,rfl,-,-⟩:=hG.form;rw[<-a2.o.2.2.2.2.2.2.2.2];have HB9:=aq.o.step aj;have aa:=j0e H8.o.1 aj (zL9 _);have a6:=H8.o.2.below aj (zL9 _);have a0:=HB9.2.2.1;clear c0 c1 c2 c3 c4 am;obtain⟨c0,c1,c2,c3,c4⟩:=blk5 aa;obtain⟨d0,d1,d2,d3,d4⟩:=blk5 a0;obtain⟨e0,e1,e2,e3,e4⟩:=zA9 (frz a0 0) (zA9 (frz a0 1) (zA9 (frz a0 2) (zA9 (frz a0 3) (frz a0 4))));have ag:=j0a a0;have bA:=j0a aa;have b6:=zQ9 (zA9 a0 (zA9 a6 HB9.2.2.2));have HY:=zQ9 (zA9 a0 HB9.2.2.2);clear hG aj a0 aa a6 HB9))
     obtain⟨Z,hZ⟩:∃ Z,Z=(((((w9.setCell ⟨g+1+1,0,none⟩ (.int .i64 0)).setCell ⟨g+1+1,1,none⟩ (.slice none 0 0)).setCell ⟨g+1+1,2,none⟩ (.slice none 0 0)).setCell ⟨g+1+1,3,none⟩ (.slice none 0 0)).setCell ⟨g+1+1,4,none⟩ (.slice none 0 0)):=⟨_,rfl⟩;rw[<-hZ];obtain⟨a3,a4⟩:=j3d HY.o.1 hZ HY.o.2 (by rw[<-ay.o];omega)
     clear hZ;obtain⟨p0,p1,p2,p3,p4⟩:=blk5 a3;have ae:=j0a a3;have HZ:=zQ9 a4;have HE:=zQ9 (zA9 (ac.o) (show(12:Int)≠0 by decide))
     clear a3 a4;refine bodyPost_ret (v:=.tuple #[.agg #[.int .i64 0,.slice none 0 0,.slice none 0 0,.slice none 0 0,.slice none 0 0],.int .i64 (12)]) (by simp[results,Tryz.f25,go_sem,p0,p1,p2,p3,p4,ae]) rfl ⟨.inr ⟨by rw[HE.o.1];exact HE.o.2,by rw[HE.o.1]⟩,HZ.o⟩
    ·have a5:j0x b d=0:=by
      unfold j0x;rw[if_neg (by rw[<-ai.o];simp),if_neg b4.o,if_neg (by rw[<-az.o];simp),if_neg]
      rintro⟨-,h⟩;have:=a2.o.2.2.2.2.2.1;rw[h] at this;simp at this;omega
     have e2:((n2:Int)==0)=false:=beq_eq_false_iff_ne.2 an;have ac:=zQ9 a5;clear a5 an;go_wp2_with (first
      | (go_at_call 57;(with_reducible refine aB.mono ?_);rintro e w8 ⟨⟨v,rfl,hG⟩,a7⟩;obtain⟨A8,a8,rfl,-,-⟩:=hG.form;rw[<-a2.o.2.2.2.2.2.2.2.1];have aq:=zQ9 (HB.o.step a7);have q8:=j0e a2.o.2.2.2.2.2.2.1 a7 (zL9 _);have aC:=a2.o.2.2.1.below a7 (zL9 _);clear c0 c1 c2 c3 c4 af;obtain⟨c0,c1,c2,c3,c4⟩:=blk5 q8;have am:=j0a q8;have H8:=zQ9 (zA9 q8 aC);clear hG a7 q8 aC aB)
      | (go_at_call 57;rw[<-a2.o.2.1];refine(j8r b' a2.o.2.2.2.1 w8 H8.o.2.inn).mono ?_;rintro e w9 ⟨⟨v,rfl,hG⟩,aj⟩;obtain⟨A9,a9,rfl,-,-⟩:=hG.form;rw[<-a2.o.2.2.2.2.2.2.2.2];have HB9:=aq.o.step aj;have aa:=j0e H8.o.1 aj (zL9 _);have a6:=H8.o.2.below aj (zL9 _);have a0:=HB9.2.2.1;clear c0 c1 c2 c3 c4 am;obtain⟨c0,c1,c2,c3,c4⟩:=blk5 aa;obtain⟨d0,d1,d2,d3,d4⟩:=blk5 a0;obtain⟨e0,e1,e2,e3,e4⟩:=zA9 (frz a0 0) (zA9 (frz a0 1) (zA9 (frz a0 2) (zA9 (frz a0 3) (frz a0 4))));have ag:=j0a a0;have bA:=j0a aa;have b6:=zQ9 (zA9 a0 (zA9 a6 HB9.2.2.2));have HY:=zQ9 (zA9 a0 HB9.2.2.2);clear hG aj a0 aa a6 HB9))
     have HY:=zQ9 (zA9 b6.o.1 (zA9 b6.o.2.1 (zA9 b6.o.2.2 ac.o)));obtain⟨Z,hZ⟩:∃ Z,Z=(((((w9.setCell ⟨g+1+1,0,none⟩ (.int .i64 b.t)).setCell ⟨g+1+1,1,none⟩ (.slice A1 b.l.length a1)).setCell ⟨g+1+1,2,none⟩ (.slice Ak b.ks.length ak)).setCell ⟨g+1+1,3,none⟩ (.slice Ah b.hs.length ah)).setCell ⟨g+1+1,4,none⟩ (.slice (some ⟨gd,0,none⟩) (b.ds.length+1) cd)):=⟨_,rfl⟩;rw[<-hZ];obtain⟨a3,a4,aH⟩:=j4c HY.o.1 hZ HY.o.2.2.1 (by rw[<-ay.o];omega)
     clear hZ;have ax:=(HY.o.2.1.keptG aH (show g+1+1<w3.heap.size by omega)).mono (show w.heap.size<=w3.heap.size from H3.o.2.2.2.size)
     rw[a2.o.1] at ax;obtain⟨p0,p1,p2,p3,p4⟩:=blk5 a3;have ae:=j0a a3;have HZ:=zQ9 (zA9 ax a4);have ar:=a2.o.2.1;rw[a2.o.1] at ar;clear a3 a4 aH ax;refine bodyPost_ret (v:=.tuple #[Hb.v ⟨b.t,A1,a1,b.l,Ak,ak,b.ks,Ah,ah,b.hs,some ⟨gd,0,none⟩,cd,b.ds++[d]⟩,.int .i64 0]) (by rw[ar];clear ar;simp[results,Tryz.f25,go_sem,p0,p1,p2,p3,p4,ae]) rfl ⟨.inl ⟨HY.o.2.2.2,_,_,_,_,_,_,_,_,rfl,HZ.o.1⟩,HZ.o.2⟩
   ·have a5:j0x b d=0:=by
     unfold j0x;rw[if_neg (by rw[<-ai.o];simp),if_neg b4.o,if_neg (by rw[<-az.o];simp),if_neg]
     rintro⟨h,-⟩;refine h (zC1 ?_);have:=a2.o.2.2.2.2.1;omega
    have ac:=zQ9 a5;clear a5;go_wp2_with (go_at_call 57;(with_reducible refine aB.mono ?_);rintro e w8 ⟨⟨v,rfl,hG⟩,a7⟩;obtain⟨A8,a8,rfl,-,-⟩:=hG.form;rw[<-a2.o.2.2.2.2.2.2.2.1];have aq:=HB.o.step a7;have aa:=j0e a2.o.2.2.2.2.2.2.1 a7 (zL9 _);have a6:=a2.o.2.2.1.below a7 (zL9 _);have a0:=aq.2.2.1;clear c0 c1 c2 c3 c4 af;obtain⟨c0,c1,c2,c3,c4⟩:=blk5 aa;obtain⟨d0,d1,d2,d3,d4⟩:=blk5 a0;obtain⟨e0,e1,e2,e3,e4⟩:=zA9 (frz a0 0) (zA9 (frz a0 1) (zA9 (frz a0 2) (zA9 (frz a0 3) (frz a0 4))));have ag:=j0a a0;have bA:=j0a aa;have HY:=zQ9 (zA9 a0 (zA9 a6 (zA9 aq.2.2.2 ac.o)));clear hG a7 a0 aa a6 aq)
    obtain⟨Z,hZ⟩:∃ Z,Z=(((((w8.setCell ⟨g+1+1,0,none⟩ (.int .i64 b.t)).setCell ⟨g+1+1,1,none⟩ (.slice A1 b.l.length a1)).setCell ⟨g+1+1,2,none⟩ (.slice Ak b.ks.length ak)).setCell ⟨g+1+1,3,none⟩ (.slice Ah b.hs.length ah)).setCell ⟨g+1+1,4,none⟩ (.slice (some ⟨gd,0,none⟩) (b.ds.length+1) cd)):=⟨_,rfl⟩;rw[<-hZ];obtain⟨a3,a4,aH⟩:=j4c HY.o.1 hZ HY.o.2.2.1 (by rw[<-ay.o];omega)
    clear hZ;have ax:=(HY.o.2.1.keptG aH (show g+1+1<w3.heap.size by omega)).mono (show w.heap.size<=w3.heap.size from H3.o.2.2.2.size)
    rw[a2.o.1] at ax;obtain⟨p0,p1,p2,p3,p4⟩:=blk5 a3;have ae:=j0a a3;have HZ:=zQ9 (zA9 ax a4);have ar:=a2.o.2.1;rw[a2.o.1] at ar;clear a3 a4 aH ax;refine bodyPost_ret (v:=.tuple #[Hb.v ⟨b.t,A1,a1,b.l,Ak,ak,b.ks,Ah,ah,b.hs,some ⟨gd,0,none⟩,cd,b.ds++[d]⟩,.int .i64 0]) (by rw[ar];clear ar;simp[results,Tryz.f25,go_sem,p0,p1,p2,p3,p4,ae]) rfl ⟨.inl ⟨HY.o.2.2.2,_,_,_,_,_,_,_,_,rfl,HZ.o.1⟩,HZ.o.2⟩
  ·have hx:(E != 0)=true:=by simp[hE0]
   have a5:j0x b d=E:=by
    unfold j0x;rw[if_neg (by rw[<-ai.o];simp),if_neg b4.o,if_pos (by rw[<-az.o];exact hE0),az.o]
   have ac:=zQ9 a5;have c6:=zQ9 hE0;have y3:=HB.o.2.2.1;have aA:=HB.o.2.2.2;clear a5 hE0;obtain⟨d0,d1,d2,d3,d4⟩:=blk5 y3;obtain⟨e0,e1,e2,e3,e4⟩:=zA9 (frz y3 0) (zA9 (frz y3 1) (zA9 (frz y3 2) (zA9 (frz y3 3) (frz y3 4))));have ag:=j0a y3;have HY:=zQ9 (zA9 y3 aA);clear y3;go_wp2_with fail
   obtain⟨Z,hZ⟩:∃ Z,Z=(((((w3.setCell ⟨g+1+1,0,none⟩ (.int .i64 0)).setCell ⟨g+1+1,1,none⟩ (.slice none 0 0)).setCell ⟨g+1+1,2,none⟩ (.slice none 0 0)).setCell ⟨g+1+1,3,none⟩ (.slice none 0 0)).setCell ⟨g+1+1,4,none⟩ (.slice none 0 0)):=⟨_,rfl⟩;rw[<-hZ];obtain⟨a3,a4⟩:=j3d HY.o.1 hZ HY.o.2 (by rw[<-ay.o];omega)
   clear hZ;obtain⟨p0,p1,p2,p3,p4⟩:=blk5 a3;have ae:=j0a a3;have HZ:=zQ9 a4;have HE:=zQ9 (zA9 (ac.o) (c6.o));clear a3 a4 d0 d1 d2 d3 d4 e0 e1 e2 e3 e4;refine bodyPost_ret (v:=.tuple #[.agg #[.int .i64 0,.slice none 0 0,.slice none 0 0,.slice none 0 0,.slice none 0 0],.int .i64 (E)]) (by simp[results,Tryz.f25,go_sem,p0,p1,p2,p3,p4,ae]) rfl ⟨.inr ⟨by rw[HE.o.1];exact HE.o.2,by rw[HE.o.1]⟩,HZ.o⟩
 ·have xf:(ce != 0)=true:=by simp[h0]
  have a5:j0x b d=ce:=by unfold j0x;rw[if_pos (by rw[<-ai.o];exact h0),ai.o]
  have ac:=zQ9 a5;have bF:=zQ9 h0;clear h0 a5;go_upto_region 3 with (go_at_call 18;(with_reducible refine b0.mono ?_);rintro e w2 ⟨rfl,b3⟩;replace HB:=zQ9 (HB.o.step b3);clear b3 c0 c1 c2 c3 c4 af)
  have y2:=HB.o.2.2.1;have bf:=HB.o.2.2.2;obtain⟨d0,d1,d2,d3,d4⟩:=blk5 y2;obtain⟨e0,e1,e2,e3,e4⟩:=zA9 (frz y2 0) (zA9 (frz y2 1) (zA9 (frz y2 2) (zA9 (frz y2 3) (frz y2 4))));have ag:=j0a y2;have HY:=zQ9 (zA9 y2 bf);clear y2;go_wp2_with fail
  obtain⟨Z,hZ⟩:∃ Z,Z=(((((w2.setCell ⟨g+1+1,0,none⟩ (.int .i64 0)).setCell ⟨g+1+1,1,none⟩ (.slice none 0 0)).setCell ⟨g+1+1,2,none⟩ (.slice none 0 0)).setCell ⟨g+1+1,3,none⟩ (.slice none 0 0)).setCell ⟨g+1+1,4,none⟩ (.slice none 0 0)):=⟨_,rfl⟩;rw[<-hZ];obtain⟨a3,a4⟩:=j3d HY.o.1 hZ HY.o.2 (by rw[<-ay.o];omega)
  clear hZ;obtain⟨p0,p1,p2,p3,p4⟩:=blk5 a3;have ae:=j0a a3;have HZ:=zQ9 a4;have HE:=zQ9 (zA9 (ac.o) (bF.o));clear a3 a4 d0 d1 d2 d3 d4 e0 e1 e2 e3 e4;refine bodyPost_ret (v:=.tuple #[.agg #[.int .i64 0,.slice none 0 0,.slice none 0 0,.slice none 0 0,.slice none 0 0],.int .i64 (ce)]) (by simp[results,Tryz.f25,go_sem,p0,p1,p2,p3,p4,ae]) rfl ⟨.inr ⟨by rw[HE.o.1];exact HE.o.2,by rw[HE.o.1]⟩,HZ.o⟩
end Go.Proofs.YtmennjmjakdkcaaGreat
