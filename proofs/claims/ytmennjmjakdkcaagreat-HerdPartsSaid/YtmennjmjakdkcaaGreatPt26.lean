/- HerdParts. -/
import Derived.Test.YtmennjmjakdkcaaGreatPt25
set_option linter.unusedVariables false
set_option linter.unusedSimpArgs false
set_option maxRecDepth 1000000
set_option maxHeartbeats 8000000
namespace Go.Proofs.YtmennjmjakdkcaaGreat
open Go.RowKit
def TBw (j:Nat) (w w':World):Prop:=Below w.heap.size w w'
theorem TBw.rf {j:Nat} (w:World):TBw j w w:=zB2 _ _
def PBw (ws:World) (k:Nat) (w:World):Prop:=Below ws.heap.size ws w
theorem PBw.st {ws:World} (k i:Nat) (w w':World) (hT:TBw i w w') (hp:PBw ws k w):PBw ws k w':=Below.trans hp (Below.mono hT (Below.size hp))
def FOI (base:Nat) (l:List Int):VF:=fun v w=>OwnI w base v l
def FOD (base:Nat) (l:List De):VF:=fun v w=>OwnD w base v l
theorem FOI.st {base:Nat} {l:List Int} (i:Nat) (v:Value) (w w':World) (hT:TBw i w w') (h:FOI base l v w):FOI base l v w':=Own.below h hT (zL9 _)
theorem FOD.st {base:Nat} {l:List De} (i:Nat) (v:Value) (w w':World) (hT:TBw i w w') (h:FOD base l v w):FOD base l v w':=Own.below h hT (zL9 _)
def RwM (R n:Nat) (ls:List (List Int)) (k:Nat) (w:World):Prop :=
 ∃ mv:List Value,mv.length=n∧w.heap[R]?=some (.cells mv.toArray 25 (0,0))∧∀ i v,i<k->mv[i]?=some v->∃ l,ls[i]?=some l∧OwnI w (R+1) v l
theorem RwM.start {R n:Nat} {ls:List (List Int)} {w w':World} (hR:R=w.heap.size) (h:w'=w.alloc (.cells (madeCells #[.slice none 0 0] n) 25)):RwM R n ls 0 w':=by
 subst hR h;refine⟨List.replicate n (.slice none 0 0),by simp,?_,fun i v hi=>by omega⟩
 rw[show(List.replicate n (Value.slice none 0 0)).toArray=madeCells #[.slice none 0 0] n by
  apply Array.ext
  ·simp[size_madeCells]
  ·intro i h1 h2;simp[madeCells,Nat.mod_one]]
 exact j0c rfl
theorem RwM.next {R n k:Nat} {ls:List (List Int)} {w w':World} {v:Value} {l:List Int} (h:RwM R n ls k w) (hb:Below w.heap.size w w') (hl:ls[k]?=some l) (hv:OwnI w' (R+1) v l) (hk:k<n):RwM R n ls (k+1) (w'.setCell ⟨R,k,none⟩ v):=by
 obtain⟨mv,h1,h2,h3⟩:=h;have a1:∀ j,R+1<=j->(w'.setCell ⟨R,k,none⟩ v).heap[j]?=w'.heap[j]?:=fun j hj=>zB1 w' ⟨R,k,none⟩ _ j (by dsimp;omega)
 refine⟨mv.set k v,by simpa using h1,?_,fun i u hi hu=>?_⟩
 ·rw[j0g (j0e h2 hb (zL9 _)),List.setIfInBounds_toArray]
 ·rcases Nat.lt_or_ge i k with a0|a0
  ·rw[List.getElem?_set_ne (by omega)] at hu
   obtain⟨l',a2,ho⟩:=h3 i u a0 hu;exact⟨l',a2,(ho.below hb (zL9 _)).upon a1⟩
  ·obtain rfl:i=k:=by omega
   rw[List.getElem?_set_self (by omega)] at hu
   cases hu;exact⟨l,hl,hv.upon a1⟩
theorem RwM.upon {R n k:Nat} {ls:List (List Int)} {w w':World} (h:RwM R n ls k w) (a0:∀ j,R<=j->w'.heap[j]?=w.heap[j]?):RwM R n ls k w':=by
 obtain⟨mv,h1,h2,h3⟩:=h;refine⟨mv,h1,(a0 R (zL9 _)).trans h2,fun i v hi hv=>?_⟩
 obtain⟨l,hl,ho⟩:=h3 i v hi hv;exact⟨l,hl,ho.upon fun j hj=>a0 j (by omega)⟩
theorem RwM.fin {R n base:Nat} {ls:List (List Int)} {w:World} (h:RwM R n ls n w) (hn:ls.length=n) (hb:base<=R) (hm:n<=maxLen):OwnG w base (.slice (some ⟨R,0,none⟩) n n) ls:=by
 obtain⟨mv,h1,h2,h3⟩:=h;refine⟨mv,⟨by rw[q3c,Nat.mul_one],.inr ⟨R,n,mv.toArray,by rw[h1],hb,h2,by omega,hm,by simp[h1],?_⟩⟩,by rw[h1,hn],fun i v hv=>?_⟩
 ·rw[Nat.mul_one,zB8 (by simp)]
  have:∀ x:List Value,x.flatMap eVal=x:=fun x=>by
   induction x with
   | nil=>rfl
   | cons a r ih=>rw[List.flatMap_cons,ih];rfl
  rw[this]
 ·obtain⟨l,hl,ho⟩:=h3 i v (by have:=(List.getElem?_eq_some_iff.1 hv).1;omega) hv
  exact⟨l,hl,ho.mono (by omega)⟩
def k8d (b:Hb) (w:World) (e:Ending) (w':World):Prop :=
 (∃ A c Ak ck Ah ch Ad cd,e=.returned (Hb.v ⟨b.t,A,c,b.l,Ak,ck,b.ks,Ah,ch,b.hs,Ad,cd,b.ds⟩)∧HbO w' w.heap.size ⟨b.t,A,c,b.l,Ak,ck,b.ks,Ah,ch,b.hs,Ad,cd,b.ds⟩)∧Below w.heap.size w w'
theorem own_any (b:Hb) (w:World) (hin:HbIn w b) (hl:b.l.length<=1000) (hk:b.ks.length<=1000) (hh:b.hs.length<=1000) (hd:b.ds.length<=1000) (hr:∀ r∈b.hs,r.length<=1000):Calls Tryz.prog 91 #[b.v] w (k8d b w):=by
 obtain⟨V,hV⟩:∃ V,V=(w.alloc b.obj).alloc (Obj.cells #[.int .i64 0,.slice none 0 0,.slice none 0 0,.slice none 0 0,.slice none 0 0] 29):=⟨_,rfl⟩;obtain⟨g,hg⟩:∃ g,g=w.heap.size:=⟨_,rfl⟩;have b0:V.heap[g]?=some b.obj:=by rw[hV,hg];exact j0b (j0c rfl) _
 have b1:V.heap[g+1]?=some (boxO 0 (.slice none 0 0) (.slice none 0 0) (.slice none 0 0) (.slice none 0 0)):=by rw[hV,hg];exact j0c (by simp)
 have ay:Below w.heap.size w V:=by rw[hV];exact(bal0 w _).trans ((bal0 _ _).mono (by simp))
 have aA:=hin.below ay (zL9 _);have ba:V.heap.size=g+2:=by rw[hV,hg];simp
 obtain⟨c0,c1,c2,c3,c4⟩:=j0h b0;have aF:=q2s b.A b.l.length b.c b.l V aA.m (by omega)
 have HV:=zQ9 (zA9 ay (zA9 b0 (zA9 b1 (zA9 aA (zA9 ba hg)))));have aH:=zQ9 hin;unfold Hb.v;go_enter Tryz.func91,Tryz.ntmps91
 go_upto_region 1 with (fail)
 rw[<-hV,<-hg];have cc:=j0a b0;clear hV hg hin ay aA b0 b1 ba;go_wp2_with fail
 with_reducible refine aF.mono ?_
 rintro e w2 ⟨v1,rfl,aj,a2⟩;obtain⟨A1,a1,rfl,-,-,-⟩:=aj.form j2h;have x0:=j0e HV.o.2.1 a2 (zL9 _);have x1:=j0e HV.o.2.2.1 a2 (zL9 _);clear c0 c1 c2 c3 c4 aF;obtain⟨c0,c1,c2,c3,c4⟩:=j0h x0;have f1:=frz x0 1;have bA:=j0a x0;go_upto_region 2 with (fail)
 obtain⟨W3,ae⟩:∃ W3,W3=w2.setCell ⟨g,1,none⟩ (.slice A1 b.l.length a1):=⟨_,rfl⟩;rw[<-ae];have a0:∀ j,j≠g->W3.heap[j]?=w2.heap[j]?:=fun j hj=>by rw[ae];exact zB1 _ ⟨g,1,none⟩ _ j hj
 have x3:W3.heap[g]?=some (boxO b.t (.slice A1 b.l.length a1) b.vk b.vh b.vd):=by rw[ae];exact(j0g x0).trans (by simp[boxO,Hb.vk,Hb.vh,Hb.vd])
 have y3:=(a0 (g+1) (by omega)).trans x1
 have b3:=HV.o.1.trans (a2.mono HV.o.1.size);have ax:Below w.heap.size w W3:=by rw[ae];exact Below.setCell b3 (p:=⟨g,1,none⟩) (by rw[<-HV.o.2.2.2.2.2];exact zL9 _) _
 have b7:=aH.o.below ax (zL9 _);have bs:=a2.size;have ar:g+2<=W3.heap.size:=(by have h1:W3.heap.size=w2.heap.size:=(by rw[ae];simp[World.setCell]);have:=HV.o.2.2.2.2.1;omega)
 have bq:OwnM W3 (g+2) (.slice A1 b.l.length a1) b.l:=by
  rw[HV.o.2.2.2.2.1] at aj;exact aj.upon fun j hj=>a0 j (by omega)
 have H3:=zQ9 (zA9 x3 (zA9 y3 (zA9 ax (zA9 b7 (zA9 ar bq)))));clear ae a0 x3 y3 b3 ax b7 bs aj a2 x0 x1 c0 c1 c2 c3 c4 f1 bA;have a3:Below W3.heap.size W3 W3.drew:=j0w (zB2 _ _);have HC:=zQ9 (fun(w':World) (hp:Below W3.drew.heap.size W3.drew w')=>zA9 (j0h (j0e (j0e H3.o.1 a3 (zL9 _)) hp (zL9 _))) (j0a (j0e (j0e H3.o.1 a3 (zL9 _)) hp (zL9 _))))
 have bn:=zQ9 (H3.o.2.2.2.1.below a3 (zL9 _));have c6:g+2<=W3.drew.heap.size:=ar;clear a3 ar;go_wp2_with fail
 refine j0q 7 0 0 [] [] 0 (TBw) (PBw W3.drew) [0,0,0,0,0,0,0] (by as_aux_lemma=>kernel_rfl) (by as_aux_lemma=>kernel_rfl) (by as_aux_lemma=>kernel_rfl) (by as_aux_lemma=>kernel_rfl) (by omega) (.inl rfl) rfl rfl (fun k i w1 w2 hc _ hT hp=>PBw.st k i w1 w2 hT hp) (fun k=>zB2 _ _) ?_
 apply zC2;refine⟨fun ys=>?_,fun ops K hK=>?_⟩
 ·simp only[List.take_succ_cons,List.take_zero,j0p,List.filterMap_cons,List.filterMap_nil,j0r];go_simp
  rfl
 simp only[List.take_succ_cons,List.take_zero,List.drop_succ_cons,List.drop_zero] at hK ⊢
 repeat
  refine LexT.const TBw.rf ?_;apply zC2;refine⟨fun ys w' hp hpk hq hd=>?_,?_⟩
  ·try simp[j0d,j0f,DF.holds,Region.binds,EqF] at hd
   try simp only[hd]
   obtain⟨⟨c0,c1,c2,c3,c4⟩,b9⟩:=HC.o w' hp;intro Q2 ag;go_wp2_with fail
   rfl
  try simp only[nl9]
 refine LexT.some (FOI (g+2) b.ks) (fun i v w1 w2 hc _ hT h=>FOI.st i v w1 w2 hT h) (fun ys w' hp hpk hq hd=>?_) ?_
 ·try simp[j0d,j0f,DF.holds,Region.binds,EqF] at hd
  try simp only[hd]
  have bp:=Below.size hp;have a6:=k4c b.Ak b.ks.length b.ck b.ks w' (bn.o.k.below hp (zL9 _)) (by omega)
  clear hp hpk;intro Q2 ag;go_wp2_with fail
  refine a6.mono ?_;rintro e w4 ⟨v,rfl,ho,hb⟩;have HX:=zQ9 (show TBw 0 w' w4∧FOI (g+2) b.ks v w4 from⟨hb,ho.mono (by omega)⟩)
  clear ho hb a6;go_wp2
  exact⟨_,rfl,HX.o⟩
 try simp only[nl9]
 repeat
  refine LexT.const TBw.rf ?_;apply zC2;refine⟨fun ys w' hp hpk hq hd=>?_,?_⟩
  ·try simp[j0d,j0f,DF.holds,Region.binds,EqF] at hd
   try simp only[hd]
   obtain⟨⟨c0,c1,c2,c3,c4⟩,b9⟩:=HC.o w' hp;intro Q2 ag;go_wp2_with fail
   rfl
  try simp only[nl9]
 refine LexT.some (FOD (g+2) b.ds) (fun i v w1 w2 hc _ hT h=>FOD.st i v w1 w2 hT h) (fun ys w' hp hpk hq hd=>?_) ?_
 ·try simp[j0d,j0f,DF.holds,Region.binds,EqF] at hd
  try simp only[hd]
  have bp:=Below.size hp;have a6:=q2r b.Ad b.ds.length b.cd b.ds w' (bn.o.d.below hp (zL9 _)) (by omega)
  clear hp hpk;intro Q2 ag;go_wp2_with fail
  refine a6.mono ?_;rintro e w4 ⟨v,rfl,ho,hb⟩;have HX:=zQ9 (show TBw 0 w' w4∧FOD (g+2) b.ds v w4 from⟨hb,ho.mono (by omega)⟩)
  clear ho hb a6;go_wp2
  exact⟨_,rfl,HX.o⟩
 try simp only[nl9]
 repeat
  refine LexT.const TBw.rf ?_;apply zC2;refine⟨fun ys w' hp hpk hq hd=>?_,?_⟩
  ·try simp[j0d,j0f,DF.holds,Region.binds,EqF] at hd
   try simp only[hd]
   obtain⟨⟨c0,c1,c2,c3,c4⟩,b9⟩:=HC.o w' hp;intro Q2 ag;go_wp2_with fail
   rfl
  try simp only[nl9]
 refine hK _ fun ys w' hp hF=>?_
 simp[AllF,DF.holds] at hF;obtain⟨-,-,ac,-,-,ad,bf⟩:=hF;replace hp:Below W3.drew.heap.size W3.drew w':=hp;replace ac:OwnI w' (g+2) (ys 14) b.ks:=ac;replace ad:OwnD w' (g+2) (ys 17) b.ds:=ad;obtain⟨A4,a4,e4,-,-,-⟩:=ac.form j0n;obtain⟨A5,a5,e5,-,-,-⟩:=ad.form j3k;rw[e4] at ac;rw[e5] at ad;simp only[e4,e5,bf];have a3:Below W3.heap.size W3 W3.drew:=j0w (zB2 _ _);have aa:=a3.trans (hp.mono a3.size);have x4:=j0e H3.o.1 aa (zL9 _);have y4:=j0e H3.o.2.1 aa (zL9 _);have o4:=H3.o.2.2.2.2.2.below aa (zL9 _);have bu:=aa.size;obtain⟨c0,c1,c2,c3,c4⟩:=blk5 x4;have q2:=frz x4 2;have q4:=frz x4 4;have bv:=j0a x4;clear hK e4 e5 bf a3 hp;go_upto_region 3 with (fail)
 obtain⟨W5,a9⟩:∃ W5,W5=(w'.setCell ⟨g,2,none⟩ (.slice A4 b.ks.length a4)).setCell ⟨g,4,none⟩ (.slice A5 b.ds.length a5):=⟨_,rfl⟩;rw[<-a9];have a0:∀ j,j≠g->W5.heap[j]?=w'.heap[j]?:=fun j hj=>by rw[a9];exact(zB1 _ ⟨g,4,none⟩ _ j hj).trans (zB1 _ ⟨g,2,none⟩ _ j hj)
 have x5:W5.heap[g]?=some (boxO b.t (.slice A1 b.l.length a1) (.slice A4 b.ks.length a4) b.vh (.slice A5 b.ds.length a5)):=by rw[a9];exact(j0g (j0g x4)).trans (by simp[boxO])
 have y5:=(a0 (g+1) (by omega)).trans y4
 have aE:=H3.o.2.2.1.trans (aa.mono H3.o.2.2.1.size);have aD:Below w.heap.size w W5:=by
  have aG:=HV.o.2.2.2.2.2;rw[a9];exact Below.setCell (Below.setCell aE (p:=⟨g,2,none⟩) (by dsimp;omega) _) (p:=⟨g,4,none⟩) (by dsimp;omega) _
 have bB:W5.heap.size=w'.heap.size:=by rw[a9];simp[World.setCell]
 have b4:g+2<=W5.heap.size:=by have:=H3.o.2.2.2.2.1;omega
 have am:=aH.o.below aD (zL9 _);have H5:=zQ9 (zA9 x5 (zA9 y5 (zA9 aD (zA9 (zA9 am b4) (zA9 (o4.upon fun j hj=>a0 j (by omega)) (zA9 (ac.upon fun j hj=>a0 j (by omega)) (ad.upon fun j hj=>a0 j (by omega))))))))
 have bt:=am.h.len;have an:=am.h;clear a9 a0 x5 y5 aE aD bB b4 am o4 ac ad x4 y4 bu aa c0 c1 c2 c3 c4 q2 q4 bv;obtain⟨c0,c1,c2,c3,c4⟩:=blk5 H5.o.1;have bG:=j0a H5.o.1;unfold Hb.vh at c3;obtain⟨Ax,aC⟩:∃ A,A=b.Ah:=⟨_,rfl⟩;obtain⟨nh,hn⟩:∃ n,n=b.hs.length:=⟨_,rfl⟩;rw[<-aC,<-hn] at c3 an;rw[<-hn] at hh;have br:∀ W:World,(Instr.makeSlice 26 (.int .i64 (nh:Int)) (.int .i64 (nh:Int))).run Tryz.prog W=.ok (.slice (some ⟨W.heap.size,0,none⟩) nh nh) (W.alloc (.cells (madeCells #[.slice none 0 0] nh) 25)) :=
  run_make_row' (P:=Tryz.prog) 26 25 (.slice none 0 0) 24 Tryz.underlying26 (by kernel_rfl) rfl .i64 .i64 nh (by omega) (by omega)
 have HN:=zQ9 (zA9 hn (zA9 aC an));clear hn an bt aC;go_upto_region 4 with (fail)
 obtain⟨R,hR⟩:∃ R,R=W5.heap.size:=⟨_,rfl⟩;obtain⟨W6,af⟩:∃ W6,W6=W5.alloc (.cells (madeCells #[.slice none 0 0] nh) 25):=⟨_,rfl⟩;rw[<-af,<-hR];have bh:Below W5.heap.size W5 W6:=by rw[af];exact bal0 _ _
 have b6:RwM R nh b.hs 0 W6:=RwM.start hR af;have bE:R<W6.heap.size:=by rw[af,hR];simp
 have c5:g+2<=R:=by have:=H5.o.2.2.2.1.2;omega
 have H6:=zQ9 (zA9 bh (zA9 b6 hR));clear af bh b6 hR c0 c1 c2 c3 c4 br;obtain⟨c0,c1,c2,c3,c4⟩:=blk5 (j0e H5.o.1 H6.o.1 (zL9 _));have bF:g<W6.heap.size:=by omega
 unfold Hb.vh at c3;rw[<-HN.o.2.1,<-HN.o.1] at c3;go_wp2_with fail
 go_loopg [4,5,27] nh (fun g' v4 v5 v27 wr=>∃ k:Nat,k+g'=nh∧v27=.int .i64 k∧RwM R nh b.hs k wr∧Below R W5 wr)
 case atStart=>exact⟨0,by omega,rfl,H6.o.2.1,by rw[H6.o.2.2];exact H6.o.1⟩
 case round =>
  obtain⟨k,hk,rfl,hM,hB⟩:=hrel;have aq:=hk;by_cases hlt:k<nh
  ·obtain⟨b1,o1,B1,row,cr,rfl,cb,a8,y0,av,bi,bD⟩:=(HN.o.2.2.below hB (Nat.le_of_eq H6.o.2.2.symm)).get hlt;have be:=hr row (zB4 a8);obtain⟨m,hm⟩:∃ m,m=row.length:=⟨_,rfl⟩;rw[<-hm] at y0 av bi be;have a6:=k4c B1 m cr row wr av (by omega)
   have k1:(k:Int)<(nh:Int):=by omega
   have HM:=zQ9 (zA9 hM (zA9 hB (zA9 a8 hm)));obtain⟨mv,ca,aw,-⟩:=hM;have bm:=j0a aw;have bo:=zQ9 a6;have bC:=zQ9 aw;have HK:=zQ9 aq;have bw:k<mv.length:=by omega
   clear hk hB a8 hm a6 av be bi bD aw aq;go_wp2_with (go_at_call 126;refine bo.o.mono ?_;rintro e w2 ⟨v2,rfl,aB,a2⟩;obtain⟨A2,c2,rfl,_,_,_⟩:=aB.form j0n;have ak:=j0e bC.o a2 (zL9 _);have yR:w2.cell? ⟨R,k,none⟩=some mv[k]:=(by unfold World.cell?;simp[ak,bw]);have fR:=frz ak k;have c9:=j0a ak;have H2:=zQ9 (zA9 aB a2);clear aB a2 ak)
   go_roundg (gk-1)
   case measure=>have:=HK.o;omega
   case rel =>
    have hv:=H2.o.1.mono (show R+1<=wr.heap.size from bm)
    refine⟨k+1,by have:=HK.o;omega,by go_num,HM.o.1.next H2.o.2 HM.o.2.2.1 hv hlt,Below.setCell (HM.o.2.1.trans (H2.o.2.mono (Nat.le_of_lt bm))) (p:=⟨R,k,none⟩) (zL9 _) _⟩
  ·obtain rfl:k=nh:=by omega
   have a7:W5.heap.size<=R:=Nat.le_of_eq H6.o.2.2.symm;have x7:=j0e H5.o.1 hB a7;have y7:=j0e H5.o.2.1 hB a7;obtain⟨c0,c1,c2,c3,c4⟩:=blk5 x7;obtain⟨d0,d1,d2,d3,d4⟩:=blk5 y7;have f3:=frz x7 3;obtain⟨e0,e1,e2,e3,e4⟩:=zA9 (frz y7 0) (zA9 (frz y7 1) (zA9 (frz y7 2) (zA9 (frz y7 3) (frz y7 4))));have c8:=j0a x7;have c7:=j0a y7;have H7:=zQ9 (zA9 x7 (zA9 y7 (zA9 hM hB)));clear x7 y7 hM hB hk aq a7;go_wp2_with fail
   obtain⟨Z,hZ⟩:∃ Z,Z=((((((wr.setCell ⟨g,3,none⟩ (.slice (some ⟨R,0,none⟩) k k)).setCell ⟨g+1,0,none⟩ (.int .i64 b.t)).setCell ⟨g+1,1,none⟩ (.slice A1 b.l.length a1)).setCell ⟨g+1,2,none⟩ (.slice A4 b.ks.length a4)).setCell ⟨g+1,3,none⟩ (.slice (some ⟨R,0,none⟩) k k)).setCell ⟨g+1,4,none⟩ (.slice A5 b.ds.length a5)):=⟨_,rfl⟩;rw[<-hZ];have ao:Z.heap[g+1]?=some (boxO b.t (.slice A1 b.l.length a1) (.slice A4 b.ks.length a4) (.slice (some ⟨R,0,none⟩) k k) (.slice A5 b.ds.length a5)):=by
    rw[hZ];exact(j0g (j0g (j0g (j0g (j0g ((zB1 _ ⟨g,3,none⟩ _ (g+1) (by dsimp;omega)).trans H7.o.2.1)))))).trans (by simp[boxO])
   have a0:∀ j,g+2<=j->Z.heap[j]?=wr.heap[j]?:=fun j hj=>by
    rw[hZ,zB1 _ ⟨g+1,4,none⟩ _ j (by dsimp;omega),zB1 _ ⟨g+1,3,none⟩ _ j (by dsimp;omega),zB1 _ ⟨g+1,2,none⟩ _ j (by dsimp;omega),zB1 _ ⟨g+1,1,none⟩ _ j (by dsimp;omega),zB1 _ ⟨g+1,0,none⟩ _ j (by dsimp;omega),zB1 _ ⟨g,3,none⟩ _ j (by dsimp;omega)]
   have aG:=HV.o.2.2.2.2.2;have a7:W5.heap.size<=R:=Nat.le_of_eq H6.o.2.2.symm;have b8:Below w.heap.size w Z:=by
    have h1:=H5.o.2.2.1.trans (H7.o.2.2.2.mono (show w.heap.size<=R by omega))
    rw[hZ];exact Below.setCell (Below.setCell (Below.setCell (Below.setCell (Below.setCell (Below.setCell h1 (p:=⟨g,3,none⟩) (by dsimp;omega) _) (p:=⟨g+1,0,none⟩) (by dsimp;omega) _) (p:=⟨g+1,1,none⟩) (by dsimp;omega) _) (p:=⟨g+1,2,none⟩) (by dsimp;omega) _) (p:=⟨g+1,3,none⟩) (by dsimp;omega) _) (p:=⟨g+1,4,none⟩) (by dsimp;omega) _
   have ah:k=b.hs.length:=HN.o.1;have az:=RwM.fin (base:=w.heap.size) (H7.o.2.2.1.upon fun j hj=>a0 j (by omega)) ah.symm (by omega) (by unfold maxLen;omega)
   rw[show Value.slice (some ⟨R,0,none⟩) k k=.slice (some ⟨R,0,none⟩) b.hs.length k by rw[<-ah]] at az
   have h1:=H5.o.2.2.2.2;have ai:∀ j,g+2<=j->Z.heap[j]?=wr.heap[j]?:=a0;have bj:HbO Z w.heap.size ⟨b.t,A1,a1,b.l,A4,a4,b.ks,some ⟨R,0,none⟩,k,b.hs,A5,a5,b.ds⟩ :=
    ⟨((h1.1.below H7.o.2.2.2 a7).upon ai).mono (by omega),((h1.2.1.below H7.o.2.2.2 a7).upon ai).mono (by omega),az,((h1.2.2.below H7.o.2.2.2 a7).upon ai).mono (by omega)⟩
   obtain⟨p0,p1,p2,p3,p4⟩:=blk5 ao;have HZ:=zQ9 (zA9 bj b8);have bz:=j0a ao;have b5:Hb.v ⟨b.t,A1,a1,b.l,A4,a4,b.ks,some ⟨R,0,none⟩,k,b.hs,A5,a5,b.ds⟩=.agg #[.int .i64 b.t,.slice A1 b.l.length a1,.slice A4 b.ks.length a4,.slice (some ⟨R,0,none⟩) k k,.slice A5 b.ds.length a5]:=by unfold Hb.v;rw[<-ah]
   clear hZ ao a0 aG a7 b8 az h1 ai bj;refine bodyPost_ret (v:=Hb.v ⟨b.t,A1,a1,b.l,A4,a4,b.ks,some ⟨R,0,none⟩,k,b.hs,A5,a5,b.ds⟩) (by rw[b5];clear b5 ah;simp[results,Tryz.f91,go_sem,p0,p1,p2,p3,p4,bz]) rfl ⟨⟨_,_,_,_,_,_,_,_,rfl,HZ.o.1⟩,HZ.o.2⟩
abbrev bs4 (a b c e:Hb):Obj:=.cells #[.int .i64 a.t,a.vm,a.vk,a.vh,a.vd,.int .i64 b.t,b.vm,b.vk,b.vh,b.vd,.int .i64 c.t,c.vm,c.vk,c.vh,c.vd,.int .i64 e.t,e.vm,e.vk,e.vh,e.vd] 29 (0,0)
abbrev ds4 (a b c e:De):Obj:=.cells #[.int .i64 a.kind,.int .i64 a.flock,.int .i64 a.owner,.int .i64 a.other,.int .i64 a.tof,.int .i64 a.many,.int .i64 a.err,.int .i64 a.s.n,.bool a.s.l,.bool a.s.r,.int .i64 a.s.b,.int .i64 a.s.p,.int .i64 b.kind,.int .i64 b.flock,.int .i64 b.owner,.int .i64 b.other,.int .i64 b.tof,.int .i64 b.many,.int .i64 b.err,.int .i64 b.s.n,.bool b.s.l,.bool b.s.r,.int .i64 b.s.b,.int .i64 b.s.p,.int .i64 c.kind,.int .i64 c.flock,.int .i64 c.owner,.int .i64 c.other,.int .i64 c.tof,.int .i64 c.many,.int .i64 c.err,.int .i64 c.s.n,.bool c.s.l,.bool c.s.r,.int .i64 c.s.b,.int .i64 c.s.p,.int .i64 e.kind,.int .i64 e.flock,.int .i64 e.owner,.int .i64 e.other,.int .i64 e.tof,.int .i64 e.many,.int .i64 e.err,.int .i64 e.s.n,.bool e.s.l,.bool e.s.r,.int .i64 e.s.b,.int .i64 e.s.p] 33 (0,0)
def TPt (H:Nat) (j:Nat) (w w':World):Prop:=match j with
 | 1=>w.grownBy w' (some H)
 | _=>Below w.heap.size w w'
theorem k2t {w w':World} {o:Option Nat} (h:Below w.heap.size w w'):w.grownBy w' o:=⟨h.os,h.tape,h.output,h.size,fun j hj _=>h.block j hj⟩
theorem TPt.rf {H:Nat} (w:World):TPt H 0 w w:=zB2 _ _
theorem TPt.gr {H j:Nat} {w w':World} (h:TPt H j w w'):w.grownBy w' (some H):=by
 unfold TPt at h
 split at h
 ·exact h
 ·exact k2t h
def PPt (ws:World) (H k:Nat) (w:World):Prop:=match k with
 | 1=>Below ws.heap.size ws w
 | _=>ws.grownBy w (some H)
theorem PPt.start {ws:World} {H:Nat} (k:Nat):PPt ws H k ws:=by
 unfold PPt
 split
 ·exact zB2 _ _
 ·exact World.grownBy.refl _ _
theorem PPt.st {ws:World} {H:Nat} (k j:Nat) (w w':World) (hc:j≠k∨k=0) (hT:TPt H j w w') (hp:PPt ws H k w):PPt ws H k w':=by
 unfold PPt at hp ⊢
 split at hp
 ·have hj:j≠1:=by rcases hc with h|h<;>omega
  unfold TPt at hT
  split at hT
  ·exact absurd rfl hj
  ·exact Below.trans hp (hT.mono hp.size)
 ·exact hp.trans hT.gr
def FBk (base n:Nat) (o:Obj):VF:=fun v w=>∃ r:Nat,v=.slice (some ⟨r,0,none⟩) n n∧base<=r∧w.heap[r]?=some o
theorem FBk.st {base n H:Nat} {o:Obj} (hH:H<base) (j:Nat) (v:Value) (w w':World) (hT:TPt H j w w') (h:FBk base n o v w):FBk base n o v w':=by
 obtain⟨r,h1,h2,h3⟩:=h;exact⟨r,h1,h2,(hT.gr.block r (j0a h3) (fun e=>by injection e with e;omega)).trans h3⟩
def FSh (base:Nat) (t:Int) (l:List Mk) (row:List Int):VF:=fun v w=>∃ ss,OwnS w base v ss∧ShwR t l row ss
theorem FSh.st {base H:Nat} {t:Int} {l:List Mk} {row:List Int} (hH:H<base) (j:Nat) (v:Value) (w w':World) (hT:TPt H j w w') (h:FSh base t l row v w):FSh base t l row v w':=by
 obtain⟨ss,h1,h2⟩:=h;exact⟨ss,Own.keptH h1 hT.gr hH,h2⟩
def FSs (base:Nat) (t:Int) (l:List Mk) (row:List Int) (sv:Value):VF:=fun v w=>∃ (r:Nat) (u:Value) (ss:List Sg),v=.slice (some ⟨r,0,none⟩) 4 4∧base<=r∧w.heap[r]?=some (.cells #[sv,u,sv,sv] 52 (0,0))∧OwnS w base u ss∧ShwR t l row ss
theorem FSs.st {base H:Nat} {t:Int} {l:List Mk} {row:List Int} {sv:Value} (hH:H<base) (j:Nat) (v:Value) (w w':World) (hT:TPt H j w w') (h:FSs base t l row sv v w):FSs base t l row sv v w':=by
 obtain⟨r,u,ss,h1,h2,h3,h4,h5⟩:=h;exact⟨r,u,ss,h1,h2,(hT.gr.block r (j0a h3) (fun e=>by injection e with e;omega)).trans h3,Own.keptH h4 hT.gr hH,h5⟩
noncomputable def rgPt11:Code:=((Tryz.f4.body.bind (j1u 11)).getD .skip)
theorem pt_lists (w2:World) (b M O:Hb) (d x:De) (gs:List (List Int)) (row:List Int) (f:Nat) (flock:Int) (B:Option Addr) (mb cb p pd H m:Nat) (Ae:Option Addr) (ne ce o xq N base:Nat) {v0 v3 v4 v6 v7 v9 ff fv g5 fq hu ha gh hf dj dk fa f2 g6 fg fp fH f1 fh g7 ft dC g4 fw fy fF dD f6 fA dB dn du dG g0 f8 fG g8 fi dy dw fe dx fb f5 fE g9 fo f9 dH fj dA dr fx g3 fC dq hr hy gC gk i9 gA gm h6 he gu i0 ge hH i5 i3 gG hE ib i8 ht hw hx h7 gw f7 fd ga g1 dz bE ag ax bi bo c8 br af cv ao cj d7 bG aq cC cy cB bp cz ca aE d8 b5 aB aD b7 bt aj cE bC ai be cp ct d5 cx b8 cf c7 aA bn cn a3 bf c6 a4 bA cu az ay aH cA bw bD bv bj a2 bz aC ar ak bm cF c5 a9 am cH ah b0 cD av bB a5 aF cw an b6 ba c9 aa a7 ac aw b9 bq bs ae cG cg cq bh aG cc bF bu co cr ad:Value} (Q:Exit->Act->World->Prop)
 (HS:Q9 (∀ W,w2.grownBy W (some H)->W.heap[p]?=some b.obj∧W.heap[m]?=some M.obj∧W.heap[o]?=some O.obj∧W.heap[pd]?=some (dObj d)∧W.heap[xq]?=some (dObj x)))
 (HH:Q9 (Hd w2 H N)) (hN:N<=4611686018426000000) (HM:Q9 (HbO w2 base M∧OwnG w2 base (.slice Ae ne ce) gs∧gs.length=ne∧H<base∧base<=w2.heap.size∧check M.t M.l=0∧f<ne∧(gs.getD f []).length=M.l.length∧(∀ o,0<=(gs.getD f []).getD o 0∧(gs.getD f []).getD o 0<=140)∧gs.getD f []=row)) (a1:H<w2.heap.size)
 (HQ:Q9 (∀ (gc hn i2 gH gD gd i6 gy hG gF h0 gx gB i4 gj h9 i1 hA gt h8 gv gp gE ia:Value) (r1 r2 r3 r4:Nat) (u:Value) (ss:List Sg) (w':World),w'.heap[r1]?=some (bs4 b M M O)->w'.heap[r2]?=some (.cells #[.int .i64 flock,.int .i64 f,.int .i64 f,.int .i64 flock] 3 (0,0))->w'.heap[r3]?=some (.cells #[.slice B mb cb,u,.slice B mb cb,.slice B mb cb] 52 (0,0))->w'.heap[r4]?=some (ds4 d x d x)->OwnS w' w2.heap.size u ss->ShwR M.t M.l row ss->w2.grownBy w' (some H)->Q .normal ⟨#[v0,(Value.int .i64 flock),(Value.slice B mb cb),v3,v4,(Value.pointer (some ⟨p,0,none⟩)),v6,v7,(Value.pointer (some ⟨pd,0,none⟩)),v9,ff,(Value.pointer (some ⟨H,0,none⟩)),(Value.pointer (some ⟨m,0,none⟩)),(Value.slice Ae ne ce),fv,g5,(Value.int .i64 (f:Int)),(Value.pointer (some ⟨o,0,none⟩)),fq,(Value.pointer (some ⟨xq,0,none⟩)),(Value.slice (some ⟨r1,0,none⟩) 4 4),(Value.slice (some ⟨r2,0,none⟩) 4 4),(Value.slice (some ⟨r3,0,none⟩) 4 4),(Value.slice (some ⟨r4,0,none⟩) 4 4),dj,dk,fa,f2,g6,fg,fp,fH,f1,fh,g7,ft,dC,g4,fw,fy,fF,dD,f6,fA,dB,dn,du,dG,g0,f8,fG,g8,fi,dy,dw,fe,dx,fb,f5,fE,g9,fo,f9,dH,fj,dA,dr,fx,g3,fC,dq,gc,hn,i2,gH,gD,gd,i6,gy,hG,gF,h0,gx,gB,i4,gj,h9,i1,hA,gt,h8,gv,gp,gE,ia,f7,fd,ga,g1,dz,bE,ag,ax,bi,bo,c8,br,af,cv,ao,cj,d7,bG,aq,cC,cy,cB,bp,cz,ca,aE,d8,b5,aB,aD,b7,bt,aj,cE,bC,ai,be,cp,ct,d5,cx,b8,cf,c7,aA,bn,cn,a3,bf,c6,a4,bA,cu,az,ay,aH,cA,bw,bD,bv,bj,a2,bz,aC,ar,ak,bm,cF,c5,a9,am,cH,ah,b0,cD,av,bB,a5,aF,cw,an,b6,ba,c9,aa,a7,ac,aw,b9,bq,bs,ae,cG,cg,cq,bh,aG,cc,bF,bu,co,cr,ad],[]⟩ w')) :
 Code.wp Tryz.prog rgPt11 Q ⟨#[v0,(Value.int .i64 flock),(Value.slice B mb cb),v3,v4,(Value.pointer (some ⟨p,0,none⟩)),v6,v7,(Value.pointer (some ⟨pd,0,none⟩)),v9,ff,(Value.pointer (some ⟨H,0,none⟩)),(Value.pointer (some ⟨m,0,none⟩)),(Value.slice Ae ne ce),fv,g5,(Value.int .i64 (f:Int)),(Value.pointer (some ⟨o,0,none⟩)),fq,(Value.pointer (some ⟨xq,0,none⟩)),hu,ha,gh,hf,dj,dk,fa,f2,g6,fg,fp,fH,f1,fh,g7,ft,dC,g4,fw,fy,fF,dD,f6,fA,dB,dn,du,dG,g0,f8,fG,g8,fi,dy,dw,fe,dx,fb,f5,fE,g9,fo,f9,dH,fj,dA,dr,fx,g3,fC,dq,hr,hy,gC,gk,i9,gA,gm,h6,he,gu,i0,ge,hH,i5,i3,gG,hE,ib,i8,ht,hw,hx,h7,gw,f7,fd,ga,g1,dz,bE,ag,ax,bi,bo,c8,br,af,cv,ao,cj,d7,bG,aq,cC,cy,cB,bp,cz,ca,aE,d8,b5,aB,aD,b7,bt,aj,cE,bC,ai,be,cp,ct,d5,cx,b8,cf,c7,aA,bn,cn,a3,bf,c6,a4,bA,cu,az,ay,aH,cA,bw,bD,bv,bj,a2,bz,aC,ar,ak,bm,cF,c5,a9,am,cH,ah,b0,cD,av,bB,a5,aF,cw,an,b6,ba,c9,aa,a7,ac,aw,b9,bq,bs,ae,cG,cg,cq,bh,aG,cc,bF,bu,co,cr,ad],[]⟩ w2:=by
 dsimp only
 conv=>arg 2;whnf
 have HC:=zQ9 (fun(w':World) (hp:PPt w2.drew H 0 w')=>show _∧_∧_∧_∧_∧p<w'.heap.size∧m<w'.heap.size∧o<w'.heap.size∧pd<w'.heap.size∧xq<w'.heap.size from by
  have hg:w2.grownBy w' (some H):=(k5r w2 (some H)).trans hp;obtain⟨h1,h2,h3,h4,h5⟩:=HS.o w' hg;exact⟨j0h h1,j0h h2,j0h h3,blkD h4,blkD h5,j0a h1,j0a h2,j0a h3,j0a h4,j0a h5⟩)
 refine j0q 27 0 0 [] [] 0 (TPt H) (PPt w2.drew H) [0,0,0,0,0,0,0,0,0,0,0,0,0,0,0,1,0,0,0,0,0,0,0,0,0,0,0] (by as_aux_lemma=>kernel_rfl) (by as_aux_lemma=>kernel_rfl) (by as_aux_lemma=>kernel_rfl) (by as_aux_lemma=>kernel_rfl) (by omega) (.inl rfl) rfl rfl (fun k i w1 w2 hc _ hT hp=>PPt.st k i w1 w2 hc hT hp) (fun k=>PPt.start k) ?_
 apply zC2;refine⟨fun ys=>?_,fun ops K hK=>?_⟩
 ·simp only[List.take_succ_cons,List.take_zero,j0p,List.filterMap_cons,List.filterMap_nil,j0r];go_simp
  rfl
 simp only[List.take_succ_cons,List.take_zero,List.drop_succ_cons,List.drop_zero] at hK ⊢
 repeat
  refine LexT.const TPt.rf ?_;apply zC2;refine⟨fun ys w' hp hpk hq hd=>?_,?_⟩
  ·try simp[j0d,j0f,DF.holds,Region.binds,EqF] at hd
   try simp only[hd]
   obtain⟨⟨c0,c1,c2,c3,c4⟩,⟨d0,d1,d2,d3,d4⟩,⟨e0,e1,e2,e3,e4⟩,⟨z0,z1,z2,z3,z4,z5,z6,z7,z8,z9,da,dd⟩,⟨y0,y1,y2,y3,y4,y5,y6,y7,y8,y9,dg,d9⟩,l1,l2,l3,l4,l5⟩:=HC.o w' hp;intro Q2 a0;go_wp2_with fail
   rfl
  try simp only[nl9]
 refine LexT.some (FBk w2.heap.size 4 (bs4 b M M O)) (fun i v w1 w2 hc _ hT h=>FBk.st a1 i v w1 w2 hT h) (fun ys w' hp hpk hq hd=>?_) ?_
 ·try simp[j0d,j0f,DF.holds,Region.binds,EqF] at hd
  try simp only[hd]
  have a6:w2.heap.size<=w'.heap.size:=(show w2.drew.grownBy w' (some H) from hp).size
  have HX:=zQ9 (show TPt H 0 w' (w'.alloc (bs4 b M M O))∧FBk w2.heap.size 4 (bs4 b M M O) (.slice (some ⟨w'.heap.size,0,none⟩) 4 4) (w'.alloc (bs4 b M M O)) from⟨bal0 _ _,w'.heap.size,rfl,by omega,j0c rfl⟩)
  clear hp hpk;intro Q2 a0;go_wp2_with fail
  exact HX.o
 try simp only[nl9]
 repeat
  refine LexT.const TPt.rf ?_;apply zC2;refine⟨fun ys w' hp hpk hq hd=>?_,?_⟩
  ·try simp[j0d,j0f,DF.holds,Region.binds,EqF] at hd
   try simp only[hd]
   obtain⟨⟨c0,c1,c2,c3,c4⟩,⟨d0,d1,d2,d3,d4⟩,⟨e0,e1,e2,e3,e4⟩,⟨z0,z1,z2,z3,z4,z5,z6,z7,z8,z9,da,dd⟩,⟨y0,y1,y2,y3,y4,y5,y6,y7,y8,y9,dg,d9⟩,l1,l2,l3,l4,l5⟩:=HC.o w' hp;intro Q2 a0;go_wp2_with fail
   rfl
  try simp only[nl9]
 refine LexT.some (FBk w2.heap.size 4 (.cells #[.int .i64 flock,.int .i64 f,.int .i64 f,.int .i64 flock] 3 (0,0))) (fun i v w1 w2 hc _ hT h=>FBk.st a1 i v w1 w2 hT h) (fun ys w' hp hpk hq hd=>?_) ?_
 ·try simp[j0d,j0f,DF.holds,Region.binds,EqF] at hd
  try simp only[hd]
  have a6:w2.heap.size<=w'.heap.size:=(show w2.drew.grownBy w' (some H) from hp).size
  have HX:=zQ9 (show TPt H 0 w' (w'.alloc (Obj.cells #[.int .i64 flock,.int .i64 f,.int .i64 f,.int .i64 flock] 3))∧FBk w2.heap.size 4 (.cells #[.int .i64 flock,.int .i64 f,.int .i64 f,.int .i64 flock] 3 (0,0)) (.slice (some ⟨w'.heap.size,0,none⟩) 4 4) (w'.alloc (Obj.cells #[.int .i64 flock,.int .i64 f,.int .i64 f,.int .i64 flock] 3)) from⟨bal0 _ _,w'.heap.size,rfl,by omega,j0c rfl⟩)
  clear hp hpk;intro Q2 a0;go_wp2_with fail
  exact HX.o
 try simp only[nl9]
 repeat
  refine LexT.const TPt.rf ?_;apply zC2;refine⟨fun ys w' hp hpk hq hd=>?_,?_⟩
  ·try simp[j0d,j0f,DF.holds,Region.binds,EqF] at hd
   try simp only[hd]
   obtain⟨⟨c0,c1,c2,c3,c4⟩,⟨d0,d1,d2,d3,d4⟩,⟨e0,e1,e2,e3,e4⟩,⟨z0,z1,z2,z3,z4,z5,z6,z7,z8,z9,da,dd⟩,⟨y0,y1,y2,y3,y4,y5,y6,y7,y8,y9,dg,d9⟩,l1,l2,l3,l4,l5⟩:=HC.o w' hp;intro Q2 a0;go_wp2_with fail
   rfl
  try simp only[nl9]
 refine LexT.some (FSh w2.heap.size M.t M.l row) (fun i v w1 w2 hc _ hT h=>FSh.st a1 i v w1 w2 hT h) (fun ys w' hp hpk hq hd=>?_) ?_
 ·try simp[j0d,j0f,DF.holds,Region.binds,EqF] at hd
  try simp only[hd]
  have hg:w2.grownBy w' (some H):=(k5r w2 (some H)).trans hp;have dh:Below w2.heap.size w2 w':=(j0w (zB2 w2.heap.size w2)).trans hpk;have a6:=hg.size;have di:=q6a H N M Ae ne ce gs f base w' (HH.o.kept fun j hj=>dh.block j (by have:=HM.o.2.2.2.1;omega)) hN (HbO.below HM.o.1 dh (zL9 _)) (OwnG.below HM.o.2.1 dh (zL9 _)) HM.o.2.2.1 HM.o.2.2.2.1 (by have:=HM.o.2.2.2.2.1;omega) HM.o.2.2.2.2.2.1 HM.o.2.2.2.2.2.2.1 HM.o.2.2.2.2.2.2.2.1 HM.o.2.2.2.2.2.2.2.2.1
  rw[HM.o.2.2.2.2.2.2.2.2.2] at di;unfold Hb.v at di;clear hp hpk hg dh;intro Q2 a0;go_wp2_with fail
  refine di.mono ?_;rintro e w4 ⟨v,ss,rfl,ho,hs,fD⟩;have HX:=zQ9 (show TPt H 1 w' w4∧FSh w2.heap.size M.t M.l row v w4 from⟨fD.gr,ss,ho.mono a6,hs⟩)
  clear ho hs fD di;go_wp2
  exact⟨_,rfl,HX.o⟩
 try simp only[nl9]
 repeat
  refine LexT.const TPt.rf ?_;apply zC2;refine⟨fun ys w' hp hpk hq hd=>?_,?_⟩
  ·try simp[j0d,j0f,DF.holds,Region.binds,EqF] at hd
   try simp only[hd]
   obtain⟨⟨c0,c1,c2,c3,c4⟩,⟨d0,d1,d2,d3,d4⟩,⟨e0,e1,e2,e3,e4⟩,⟨z0,z1,z2,z3,z4,z5,z6,z7,z8,z9,da,dd⟩,⟨y0,y1,y2,y3,y4,y5,y6,y7,y8,y9,dg,d9⟩,l1,l2,l3,l4,l5⟩:=HC.o w' hp;intro Q2 a0;go_wp2_with fail
   rfl
  try simp only[nl9]
 refine LexT.some (FSs w2.heap.size M.t M.l row (.slice B mb cb)) (fun i v w1 w2 hc _ hT h=>FSs.st a1 i v w1 w2 hT h) (fun ys w' hp hpk hq hd=>?_) ?_
 ·try simp[j0d,j0f,DF.holds,Region.binds,EqF] at hd
  try simp only[hd]
  obtain⟨-,⟨ss,ho,hs⟩,-,-⟩:=hd;have a6:w2.heap.size<=w'.heap.size:=(show w2.drew.grownBy w' (some H) from hp).size
  obtain⟨A8,a8,e8,-,-,-⟩:=Own.form ho j8w;rw[e8] at ho;simp only[e8];have HX:=zQ9 (show TPt H 0 w' (w'.alloc (Obj.cells #[.slice B mb cb,.slice A8 ss.length a8,.slice B mb cb,.slice B mb cb] 52))∧FSs w2.heap.size M.t M.l row (.slice B mb cb) (.slice (some ⟨w'.heap.size,0,none⟩) 4 4) (w'.alloc (Obj.cells #[.slice B mb cb,.slice A8 ss.length a8,.slice B mb cb,.slice B mb cb] 52)) from⟨bal0 _ _,w'.heap.size,_,ss,rfl,by omega,j0c rfl,ho.below (bal0 _ _) (zL9 _),hs⟩)
  clear hp hpk e8 ho;intro Q2 a0;go_wp2_with fail
  exact HX.o
 try simp only[nl9]
 repeat
  refine LexT.const TPt.rf ?_;apply zC2;refine⟨fun ys w' hp hpk hq hd=>?_,?_⟩
  ·try simp[j0d,j0f,DF.holds,Region.binds,EqF] at hd
   try simp only[hd]
   obtain⟨⟨c0,c1,c2,c3,c4⟩,⟨d0,d1,d2,d3,d4⟩,⟨e0,e1,e2,e3,e4⟩,⟨z0,z1,z2,z3,z4,z5,z6,z7,z8,z9,da,dd⟩,⟨y0,y1,y2,y3,y4,y5,y6,y7,y8,y9,dg,d9⟩,l1,l2,l3,l4,l5⟩:=HC.o w' hp;intro Q2 a0;go_wp2_with fail
   rfl
  try simp only[nl9]
 refine LexT.some (FBk w2.heap.size 4 (ds4 d x d x)) (fun i v w1 w2 hc _ hT h=>FBk.st a1 i v w1 w2 hT h) (fun ys w' hp hpk hq hd=>?_) ?_
 ·try simp[j0d,j0f,DF.holds,Region.binds,EqF] at hd
  try simp only[hd]
  have a6:w2.heap.size<=w'.heap.size:=(show w2.drew.grownBy w' (some H) from hp).size
  have HX:=zQ9 (show TPt H 0 w' (w'.alloc (ds4 d x d x))∧FBk w2.heap.size 4 (ds4 d x d x) (.slice (some ⟨w'.heap.size,0,none⟩) 4 4) (w'.alloc (ds4 d x d x)) from⟨bal0 _ _,w'.heap.size,rfl,by omega,j0c rfl⟩)
  clear hp hpk;intro Q2 a0;go_wp2_with fail
  exact HX.o
 try simp only[nl9]
 refine LexT.some (FBk w2.heap.size 4 (bs4 b M M O)) (fun i v w1 w2 hc _ hT h=>FBk.st a1 i v w1 w2 hT h) (fun ys w' hp hpk hq hd=>?_) ?_
 ·try simp[j0d,j0f,DF.holds,Region.binds,EqF] at hd
  try simp only[hd]
  have HX:=zQ9 hd.1;clear hp hpk hd;intro Q2 a0;go_wp2_with fail
  exact⟨zB2 _ _,HX.o⟩
 try simp only[nl9]
 refine LexT.some (FBk w2.heap.size 4 (.cells #[.int .i64 flock,.int .i64 f,.int .i64 f,.int .i64 flock] 3 (0,0))) (fun i v w1 w2 hc _ hT h=>FBk.st a1 i v w1 w2 hT h) (fun ys w' hp hpk hq hd=>?_) ?_
 ·try simp[j0d,j0f,DF.holds,Region.binds,EqF] at hd
  try simp only[hd]
  have HX:=zQ9 hd.1;clear hp hpk hd;intro Q2 a0;go_wp2_with fail
  exact⟨zB2 _ _,HX.o⟩
 try simp only[nl9]
 refine LexT.some (FSs w2.heap.size M.t M.l row (.slice B mb cb)) (fun i v w1 w2 hc _ hT h=>FSs.st a1 i v w1 w2 hT h) (fun ys w' hp hpk hq hd=>?_) ?_
 ·try simp[j0d,j0f,DF.holds,Region.binds,EqF] at hd
  try simp only[hd]
  have HX:=zQ9 hd.1;clear hp hpk hd;intro Q2 a0;go_wp2_with fail
  exact⟨zB2 _ _,HX.o⟩
 try simp only[nl9]
 refine hK _ fun ys w' hp hF=>?_
 simp[AllF,DF.holds] at hF;obtain⟨-,-,-,-,-,-,-,-,-,-,-,-,-,-,-,-,-,-,-,-,-,-,-,i7,f20,hh,f22⟩:=hF;obtain⟨r4,fB,-,b4⟩:=i7;obtain⟨r1,dF,-,b1⟩:=f20;obtain⟨r2,fc,-,b2⟩:=hh;obtain⟨r3,u,ss,g2,-,b3,ho,hs⟩:=f22;have hg:w2.grownBy w' (some H):=(k5r w2 (some H)).trans hp;simp only[fB,dF,fc,g2];have HX:=zQ9 (zA9 b1 (zA9 b2 (zA9 b3 (zA9 b4 (zA9 ho (zA9 hs hg))))));clear hK fB dF fc g2 b1 b2 b3 b4 ho hs hg hp;go_wp2_with fail
 exact HQ.o _ _ _ _ _ _ _ _ _ _ _ _ _ _ _ _ _ _ _ _ _ _ _ _ r1 r2 r3 r4 u ss _ HX.o.1 HX.o.2.1 HX.o.2.2.1 HX.o.2.2.2.1 HX.o.2.2.2.2.1 HX.o.2.2.2.2.2.1 HX.o.2.2.2.2.2.2
theorem j5e {α:Type} {enc:α->List Value} {P:Program} {t e:TypeId} {sz bytes:Nat} (E:ElemOk P t e sz bytes) {ops:Array Oper} {rest:List Oper} {o:Oper} {a:Act} {Q:Exit->Act->World->Prop} {w:World}
 (aa:o.guard=none) (s x:Operand) (ho:o.op=.call { callee:=.builtin .append,args:=#[s,x],argTypes:=#[t,t] })
 (base q:Nat) (A:Option Addr) (m c:Nat) (l2:List α) (hs:a.eval s=.slice (some ⟨q,0,none⟩) 0 0) (hq:w.heap[q]?=some (.cells #[] e (0,0))) (hx:a.eval x=.slice A m c) (a0:Sl enc sz w A m l2) (hz:A=none->c=0)
 (a5:∀ x,(enc x).length=sz) (h1:∀ x,∀ u∈enc x,u.oneCell'=true) (aj:m<4294967296) (ah:bytes<=4096) (a2:base<=q)
 (h:∀ v' w',Own enc e sz w' base v' l2->Below w.heap.size w w'->wpList P ops Q rest (a.put o.dst v') w') :
 wpList P ops Q (o::rest) a w:=by
 obtain⟨i,z,hi,af,a7,a4,ac⟩:=E.info;have am:=j0a hq;have a3:Own enc e sz w base (.slice (some ⟨q,0,none⟩) 0 0) ([]:List α):=⟨by simp,.inr ⟨q,0,#[],rfl,a2,hq,zL9 _,by simp[maxLen],by simp,by simp⟩⟩
 cases A with
 | none =>
   have hc:=hz rfl;subst hc;have hm:m=0:=by
    rcases Nat.eq_zero_or_pos m with h0|h0
    ·exact h0
    ·obtain⟨b,off,hA,_⟩:=a0.2 h0;cases hA
   subst hm;have a9:l2=[]:=zC1 a0.1;subst a9;refine wpList_append_own_none aa s x t ho base e i sz E.sl hi (.slice (some ⟨q,0,none⟩) 0 0) 0 [] hs a3 hx ?_;exact h _ w a3 (zB2 _ _)
 | some ad =>
   have a6:∀ j u,(l2.flatMap enc)[j]?=some u->w.cell? (ad.add j)=some u:=by
    intro j u hu;obtain⟨y,hy,a8⟩:=k2e E.pos a5 l2 j u hu;have ae:=(List.getElem?_eq_some_iff.1 hy).1;obtain⟨b,off,hA,hc⟩:=a0.2 (a0.1 ▸ Nat.lt_of_le_of_lt (Nat.zero_le _) ae);cases hA;have:=hc _ y hy _ u a8;rw[Addr.add_lit];have e1:off+j / sz*sz+j % sz=off+j:=by rw[Nat.add_assoc,Nat.div_add_mod']
    rw[e1] at this;exact this
   have ai:∀ u∈l2.flatMap enc,u.oneCell'=true:=by
    intro u hu;obtain⟨y,hy,a8⟩:=List.mem_flatMap.1 hu;exact h1 y u a8
   have a1:(l2.flatMap enc).length=m*sz:=by rw[j7y a5,a0.1]
   subst a7;subst a4;rcases Nat.eq_zero_or_pos m with hm|hm
   ·subst hm;have a9:l2=[]:=zC1 a0.1;subst a9;refine wpList_plain aa fun _ hK=>?_
    have hr:=run_append_room (P:=P) w t o.type e i E.sl hi q 0 0 #[] hq ad 0 c [] (by simp) (by simp) (by simp) (zL9 _) (by simp)
    unfold Oper.wp execOp;simp only[ho,resolve,invoke,builtin,Sem.run_bind,Sem.run_pure,Result.andThen_ok,List.map_toArray,List.map_cons,List.map_nil,hs,hx,hr];refine hK _ _ (h _ _ ?_ ?_)
    ·exact⟨by simp,.inr ⟨q,0,#[],rfl,a2,(setRow_heap w q #[] _ e _ hq).trans (by simp),zL9 _,by simp[maxLen],by simp,by simp⟩⟩
    ·refine⟨rfl,rfl,rfl,by simp,fun j hj=>?_⟩
     by_cases hjq:j=q
     ·subst hjq;rw[hq];exact(setRow_heap w j #[] _ e _ hq).trans (by simp)
     ·exact setRow_other w q j _ hjq
   ·refine wpList_plain aa fun _ hK=>?_
    have hr:=run_append_grow (P:=P) w t o.type e i z E.sl hi af ⟨q,0,none⟩ 0 0 [] (by simp) (by simp) ad m c (l2.flatMap enc) a1 a6 (by omega) (by omega) (growslice_fits (by omega) (by
     calc (0+m)*i.bytes<=4294967296*4096:=Nat.mul_le_mul (by omega) ah
      _<=140737488355328:=by omega))
    simp only[Nat.zero_add] at hr;unfold Oper.wp execOp;simp only[ho,resolve,invoke,builtin,Sem.run_bind,Sem.run_pure,Result.andThen_ok,List.map_toArray,List.map_cons,List.map_nil,hs,hx,hr];have ak:=grownCap_ge w m 0 e;have ag:grownCap w m 0 e<=maxLen:=grownCap_le_maxLen w m 0 e (by unfold maxLen;omega)
    refine hK _ _ (h _ _ ?_ ?_)
    ·refine⟨a1.trans (by rw[a0.1]),.inr ⟨w.heap.size,_,_,by rw[a0.1],by omega,heap_alloc_new w.drew _,by rw[a0.1];omega,ag,?_,?_⟩⟩
     ·simp only[Array.size_append,List.size_toArray,size_zeroCells,ac,a1,List.length_nil,Nat.zero_add,Nat.zero_mul,<-Nat.add_mul];congr 1;omega
     ·simp only[Array.toList_append,List.nil_append,a0.1,<-a1];exact List.take_left
    ·refine⟨rfl,rfl,rfl,by simp,fun j hj=>heap_alloc_old w.drew _ hj⟩
end Go.Proofs.YtmennjmjakdkcaaGreat
