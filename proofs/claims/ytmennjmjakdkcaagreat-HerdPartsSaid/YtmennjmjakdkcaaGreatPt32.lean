/- HerdParts. -/
import Derived.Test.YtmennjmjakdkcaaGreatPt31
set_option linter.unusedVariables false
set_option linter.unusedSimpArgs false
set_option maxRecDepth 1000000
set_option maxHeartbeats 8000000
namespace Go.Proofs.YtmennjmjakdkcaaGreat
open Go.RowKit
theorem EndG.keepZ {w2:World} {base cn nf:Nat} {An:Option Addr} {g:Gr} {v:Value} (a1:EndG w2 base (.slice An nf cn) g) (hl:g.length=nf) (hv:∀ k,v.ownBlock=some k->k<base):∀ w',w2.grownBy w' v.ownBlock->j1d w' An nf g:=fun w' hg=>by
 have h1:=a1.grown hg hv;obtain⟨A9,c9,e9,a0,-,-,-⟩:=h1.ownG.formZ;injection e9 with e9 _ _
 rw[e9]
 rwa [hl] at a0
def FEn (base nf:Nat) (g:Gr):VF:=fun v w=>∃ An cn,v=.slice An nf cn∧nf<=cn∧cn<=maxLen∧EndG w base (.slice An nf cn) g
theorem FEn.st {base nf:Nat} {g:Gr} (i:Nat) (v:Value) (w w':World) (hT:TBw i w w') (h:FEn base nf g v w):FEn base nf g v w':=by
 obtain⟨An,cn,a,b,c,d⟩:=h;exact⟨An,cn,a,b,c,d.below hT (zL9 _)⟩
theorem j6r {z n nf:Nat} {v:Value} {E:List Gr} {w w2:World} {base cn:Nat} {An:Option Addr} {g:Gr} (h:OwnGG z n nf v E w) (hb:Below w.heap.size w w2) (hv:w.heap.size<=base) (a1:EndG w2 base (.slice An nf cn) g) (hg:GSh n nf g) (hc:nf<=cn∧cn<=maxLen) (hn:n<=1000) (a0:nf<=1000) (hE:E.length<4294967296) :
 Calls Tryz.prog 143 #[v,.slice An nf cn] w2 fun e w'=>∃ v',e=.returned v'∧GgE z n nf v w v' (addR E g) w':=by
 refine(k0a z n nf v E An cn g w2 (h.below hb) hg (a1.keepZ hg.l (fun k e=>Nat.lt_of_lt_of_le (h.lt k e).2 hv)) hc hn a0 hE).mono ?_
 rintro e w' ⟨v',rfl,hE⟩;exact⟨v',rfl,GgE.before hb hE⟩
theorem EndG.zz {w2:World} {base cn nf:Nat} {An:Option Addr} {g:Gr} (a0:EndG w2 base (.slice An nf cn) g) (hl:g.length=nf):j1d w2 An nf g :=
 a0.keepZ (v:=.slice none 0 0) hl (fun k e=>by simp[Value.ownBlock] at e) w2 (World.grownBy.refl _ _)
theorem EndG.fm {w2:World} {base nf:Nat} {v:Value} {g:Gr} (a0:EndG w2 base v g) (hl:g.length=nf):∃ An cn,v=.slice An nf cn∧nf<=cn∧cn<=maxLen:=by
 obtain⟨An,cn,rfl,-,h1,h2⟩:=a0.ownG.form;rw[hl] at h1;exact⟨An,cn,by rw[hl],h1,h2⟩
theorem q2k:∀ {l:List Int},(∀ x∈l,0<=x)->0<=l.sum
 | [],_=>by simp
 | x::l,h=>by
   have h1:=h x List.mem_cons_self;have h2:=q2k (l:=l) fun y hy=>h y (List.mem_cons_of_mem _ hy)
   rw[List.sum_cons];omega
structure DnX (z n nf:Nat) (v:Value) (E:List Gr) (Ah:Option Addr) (g g1:Gr) (pd:Nat) (d:De) (fn o1:Nat) (k1:Int) (f2 o2:Nat) (w1:World):Prop where
 og:OwnGG z n nf v E w1
 gs:GSh n nf g
 gz:∀ w',Below w1.heap.size w1 w'->j1d w' Ah nf g
 dp:w1.heap[pd]?=some (dObj d)
 df:d.flock=(fn:Int)
 s1:GSh n nf g1
 e1:g1=addG g fn o1 k1
 b1:-100000<=getG g fn o1∧getG g fn o1<=100000
 b2:-100000<=getG g1 f2 o2∧getG g1 f2 o2<=100000
noncomputable def rgDn7:Code:=((Tryz.f129.body.bind (j1u 7)).getD .skip)
theorem q4h (w1:World) (z n nf:Nat) (v:Value) (E:List Gr) (Ah:Option Addr) (ch:Nat) (g g1:Gr) (pd:Nat) (d:De) (fn on xn:Nat) {v0 v3 v4 v5 v6 v7 v9 dk bf d3 bn c8 cC b6 bu bF b3 ca b5 c7 bj b7 bi d8 bA cE bm bE cf bo br d0 c6 d1 cu co d5 bG fh dC d9 fg dn f1 fp f7 f5 dF fj dx fd f2 dj fc di dB bz d4 bD ce b4 bv cF bB cx cp bp bt c0 cH ba cj cq aH cr cv b9 cz bq bs be bC bw c5 b0 cA cb c4 ct cG cw cD c9 b8 d7 cg cy ac ah ar aq a4 ak a8 ag aa an av aw af ao aj ad ai a5 ae am a7 ax a9 ay a6:Value} (Q:Exit->Act->World->Prop)
 (HX:Q9 (DnX z n nf v E Ah g g1 pd d fn on (-d.many) fn xn w1)) (HO:Q9 (d.owner=(on:Int)∧d.other=(xn:Int)))
 (hm:0<=d.many∧d.many<=1000) (aF:fn<nf) (dq:on<n) (dw:xn<n) (hn:n<=1000) (aE:nf<=1000) (hE:E.length<4294967296)
 (HQ:Q9 (∀ (dd fe f9 dh fa dr ff dD dA f8 dy fo fi dG da dg fb dH:Value) (v':Value) (w':World),GgE z n nf v w1 v' (addR E (addG g1 fn xn d.many)) w'->Q .normal ⟨#[v0,v,(Value.slice Ah nf ch),v3,v4,v5,v6,v7,(Value.pointer (some ⟨pd,0,none⟩)),v9,v',bf,d3,bn,c8,cC,b6,bu,bF,b3,ca,b5,c7,bj,b7,bi,d8,bA,cE,bm,bE,cf,bo,br,d0,c6,d1,cu,co,d5,bG,dd,fe,f9,dh,fa,dr,ff,dD,dA,f8,dy,fo,fi,dG,da,dg,fb,dH,bz,d4,bD,ce,b4,bv,cF,bB,cx,cp,bp,bt,c0,cH,ba,cj,cq,aH,cr,cv,b9,cz,bq,bs,be,bC,bw,c5,b0,cA,cb,c4,ct,cG,cw,cD,c9,b8,d7,cg,cy,ac,ah,ar,aq,a4,ak,a8,ag,aa,an,av,aw,af,ao,aj,ad,ai,a5,ae,am,a7,ax,a9,ay,a6],[]⟩ w')) :
 Code.wp Tryz.prog rgDn7 Q ⟨#[v0,v,(Value.slice Ah nf ch),v3,v4,v5,v6,v7,(Value.pointer (some ⟨pd,0,none⟩)),v9,dk,bf,d3,bn,c8,cC,b6,bu,bF,b3,ca,b5,c7,bj,b7,bi,d8,bA,cE,bm,bE,cf,bo,br,d0,c6,d1,cu,co,d5,bG,fh,dC,d9,fg,dn,f1,fp,f7,f5,dF,fj,dx,fd,f2,dj,fc,di,dB,bz,d4,bD,ce,b4,bv,cF,bB,cx,cp,bp,bt,c0,cH,ba,cj,cq,aH,cr,cv,b9,cz,bq,bs,be,bC,bw,c5,b0,cA,cb,c4,ct,cG,cw,cD,c9,b8,d7,cg,cy,ac,ah,ar,aq,a4,ak,a8,ag,aa,an,av,aw,af,ao,aj,ad,ai,a5,ae,am,a7,ax,a9,ay,a6],[]⟩ w1:=by
 dsimp only
 conv=>arg 2;whnf
 have aC:Below w1.heap.size w1 w1.drew:=j0w (zB2 _ _);have aD:g1.length=nf:=HX.o.s1.l;have hC:=fun(w':World) (hp:Below w1.drew.heap.size w1.drew w')=>zA9 (blkD (j0e (j0e HX.o.dp aC (zL9 _)) hp (zL9 _))) (j0a (j0e (j0e HX.o.dp aC (zL9 _)) hp (zL9 _)))
 simp only[HX.o.df,HO.o.1,HO.o.2] at hC;have HC:=zQ9 hC;clear aC hC;refine j0q 17 0 0 [] [] 0 (TBw) (PBw w1.drew) [0,0,0,0,0,0,0,0,0,0,0,0,0,0,0,0,0] (by as_aux_lemma=>kernel_rfl) (by as_aux_lemma=>kernel_rfl) (by as_aux_lemma=>kernel_rfl) (by as_aux_lemma=>kernel_rfl) (by omega) (.inl rfl) rfl rfl (fun k i w1 w2 hc _ hT hp=>PBw.st k i w1 w2 hT hp) (fun k=>zB2 _ _) ?_
 apply zC2;refine⟨fun ys=>?_,fun ops K hK=>?_⟩
 ·simp only[List.take_succ_cons,List.take_zero,j0p,List.filterMap_cons,List.filterMap_nil,j0r];go_simp
  rfl
 simp only[List.take_succ_cons,List.take_zero,List.drop_succ_cons,List.drop_zero] at hK ⊢
 repeat
  refine LexT.const TBw.rf ?_;apply zC2;refine⟨fun ys w' hp hpk hq hd=>?_,?_⟩
  ·try simp[j0d,j0f,DF.holds,Region.binds,EqF] at hd
   try simp only[hd]
   obtain⟨⟨z0,z1,z2,z3,z4,z5,z6,-,-,-,-,-⟩,cc⟩:=HC.o w' hp;intro Q2 az;go_wp2_with fail
   rfl
  try simp only[nl9]
 refine LexT.some (FEn w1.drew.heap.size nf g1) (fun i v w1 w2 hc _ hT h=>FEn.st i v w1 w2 hT h) (fun ys w' hp hpk hq hd=>?_) ?_
 ·try simp[j0d,j0f,DF.holds,Region.binds,EqF] at hd
  try simp only[hd]
  have aA:Below w1.heap.size w1 w':=(j0w (zB2 _ _)).trans (Below.mono hp (zL9 _));have aB:=Below.size hp;have a3:=j4n Ah nf ch n g fn on (-d.many) w' (HX.o.gz w' aA) aE HX.o.gs.r hn aF dq HX.o.b1 (by omega)
  rw[<-HX.o.e1] at a3;clear hp hpk;intro Q2 az;go_wp2_with fail
  refine a3.mono ?_;rintro e w4 ⟨⟨v,rfl,a0⟩,hb⟩;obtain⟨An,cn,rfl,a1,a2⟩:=a0.fm aD;have aG:=zQ9 (show TBw 0 w' w4∧FEn w1.drew.heap.size nf g1 (.slice An nf cn) w4 from⟨hb,An,cn,rfl,a1,a2,a0.mono aB⟩)
  clear a0 hb a3;go_wp2
  exact⟨_,rfl,aG.o⟩
 try simp only[nl9]
 repeat
  refine LexT.const TBw.rf ?_;apply zC2;refine⟨fun ys w' hp hpk hq hd=>?_,?_⟩
  ·try simp[j0d,j0f,DF.holds,Region.binds,EqF] at hd
   try simp only[hd]
   obtain⟨⟨z0,z1,z2,z3,z4,z5,z6,-,-,-,-,-⟩,cc⟩:=HC.o w' hp;intro Q2 az;go_wp2_with fail
   rfl
  try simp only[nl9]
 refine LexT.some (FEn w1.drew.heap.size nf (addG g1 fn xn d.many)) (fun i v w1 w2 hc _ hT h=>FEn.st i v w1 w2 hT h) (fun ys w' hp hpk hq hd=>?_) ?_
 ·try simp[j0d,j0f,DF.holds,Region.binds,EqF] at hd
  try simp only[hd]
  obtain⟨⟨An,cn,e9,fq,ft,a0⟩,hd⟩:=hd;simp only[e9,hd];have aB:=Below.size hp;have a3:=j4n An nf cn n g1 fn xn d.many w' (a0.zz aD) aE HX.o.s1.r hn aF dw HX.o.b2 (by omega)
  clear hp hpk e9 hd a0;intro Q2 az;go_wp2_with fail
  refine a3.mono ?_;rintro e w4 ⟨⟨v,rfl,a0⟩,hb⟩;obtain⟨Am,cm,rfl,a1,a2⟩:=a0.fm (show(addG g1 fn xn d.many).length=nf by rw[j4a];exact aD)
  have aG:=zQ9 (show TBw 0 w' w4∧FEn w1.drew.heap.size nf (addG g1 fn xn d.many) (.slice Am nf cm) w4 from⟨hb,Am,cm,rfl,a1,a2,a0.mono aB⟩)
  clear a0 hb a3;go_wp2
  exact⟨_,rfl,aG.o⟩
 try simp only[nl9]
 repeat
  refine LexT.const TBw.rf ?_;apply zC2;refine⟨fun ys w' hp hpk hq hd=>?_,?_⟩
  ·try simp[j0d,j0f,DF.holds,Region.binds,EqF] at hd
   try simp only[hd]
   obtain⟨⟨z0,z1,z2,z3,z4,z5,z6,-,-,-,-,-⟩,cc⟩:=HC.o w' hp;intro Q2 az;go_wp2_with fail
   rfl
  try simp only[nl9]
 refine hK _ fun ys w' hp hF=>?_
 simp[AllF,DF.holds] at hF;obtain⟨d2,-,-,-,-,-,-,-,-,-,-,-,-,-,-,-,Am,cm,bh,du,dz,a0⟩:=hF;simp only[d2,bh];have aA:Below w1.heap.size w1 w':=(j0w (zB2 _ _)).trans (Below.mono hp (zL9 _));have f6:=j6r HX.o.og aA (zL9 _) a0 (HX.o.s1.add aF xn d.many) ⟨du,dz⟩ hn aE hE;clear hK d2 bh a0 hp aA;go_wp2_with (go_at_call 143;(with_reducible refine f6.mono ?_);rintro e w3 ⟨v3,rfl,cB⟩;have H3:=zQ9 cB;clear cB)
 exact HQ.o _ _ _ _ _ _ _ _ _ _ _ _ _ _ _ _ _ _ _ _ H3.o
noncomputable def rgDn15:Code:=((Tryz.f129.body.bind (j1u 15)).getD .skip)
theorem q2u (w1:World) (z n nf:Nat) (v:Value) (E:List Gr) (Ah:Option Addr) (ch:Nat) (g g1:Gr) (pd:Nat) (d:De) (fn tn k:Nat) {v0 v3 v4 v5 v6 v7 v9 bv dF bC cy dr bm c6 cg bh cA bj cx bz bn bw f6 ca dw bB cf cH bD bG dB cw dD dd d4 f2 cj dG ct ba dC bA cC f7 d1 cF cv dH c5 dh cD bt d9 bo cr c9 f1 ce cG bi c7 dx cb dj d5 bE c4 co dA br d3 d7 be d8 dg bq dk bF c0 bs cc c8 cu bf dn cB cp da dy di du cz bp f5 d2 fd aB aG b9 b7 an aH ax aF aA b4 ag ah aa af ad a8 ac a4 a9 ae a6 ai a7 aj a5:Value} (Q:Exit->Act->World->Prop)
 (HX:Q9 (DnX z n nf v E Ah g g1 pd d fn k (-1) tn k w1)) (HO:Q9 (d.tof=(tn:Int)))
 (fc:fn<nf) (dz:tn<nf) (d0:k<n) (hn:n<=1000) (b0:nf<=1000) (hE:E.length<4294967296)
 (HQ:Q9 (∀ (fb aE b8 aq b3 aC az ar aw ao b6:Value) (v':Value) (w':World),GgE z n nf v w1 v' (addR E (addG g1 tn k 1)) w'->Q .normal ⟨#[v0,v',(Value.slice Ah nf ch),v3,v4,v5,v6,v7,(Value.pointer (some ⟨pd,0,none⟩)),v9,bv,(Value.int .i64 (k:Int)),dF,bC,cy,dr,bm,c6,cg,bh,cA,bj,cx,bz,bn,bw,f6,ca,dw,bB,cf,cH,bD,bG,dB,cw,dD,dd,d4,f2,cj,dG,ct,ba,dC,bA,cC,f7,d1,cF,cv,dH,c5,dh,cD,bt,d9,bo,cr,c9,f1,ce,cG,bi,c7,dx,cb,dj,d5,bE,c4,co,dA,br,d3,d7,be,d8,dg,bq,dk,bF,c0,bs,cc,c8,cu,bf,dn,cB,cp,da,dy,di,du,cz,bp,f5,d2,fb,aE,b8,aq,b3,aC,az,ar,aw,ao,b6,ag,ah,aa,af,ad,a8,ac,a4,a9,ae,a6,ai,a7,aj,a5],[]⟩ w')) :
 Code.wp Tryz.prog rgDn15 Q ⟨#[v0,v,(Value.slice Ah nf ch),v3,v4,v5,v6,v7,(Value.pointer (some ⟨pd,0,none⟩)),v9,bv,(Value.int .i64 (k:Int)),dF,bC,cy,dr,bm,c6,cg,bh,cA,bj,cx,bz,bn,bw,f6,ca,dw,bB,cf,cH,bD,bG,dB,cw,dD,dd,d4,f2,cj,dG,ct,ba,dC,bA,cC,f7,d1,cF,cv,dH,c5,dh,cD,bt,d9,bo,cr,c9,f1,ce,cG,bi,c7,dx,cb,dj,d5,bE,c4,co,dA,br,d3,d7,be,d8,dg,bq,dk,bF,c0,bs,cc,c8,cu,bf,dn,cB,cp,da,dy,di,du,cz,bp,f5,d2,fd,aB,aG,b9,b7,an,aH,ax,aF,aA,b4,ag,ah,aa,af,ad,a8,ac,a4,a9,ae,a6,ai,a7,aj,a5],[]⟩ w1:=by
 dsimp only
 conv=>arg 2;whnf
 have ay:Below w1.heap.size w1 w1.drew:=j0w (zB2 _ _);have aD:g1.length=nf:=HX.o.s1.l;have hC:=fun(w':World) (hp:Below w1.drew.heap.size w1.drew w')=>zA9 (blkD (j0e (j0e HX.o.dp ay (zL9 _)) hp (zL9 _))) (j0a (j0e (j0e HX.o.dp ay (zL9 _)) hp (zL9 _)))
 simp only[HX.o.df,HO.o] at hC;have HC:=zQ9 hC;clear ay hC;refine j0q 10 0 0 [] [] 0 (TBw) (PBw w1.drew) [0,0,0,0,0,0,0,0,0,0] (by as_aux_lemma=>kernel_rfl) (by as_aux_lemma=>kernel_rfl) (by as_aux_lemma=>kernel_rfl) (by as_aux_lemma=>kernel_rfl) (by omega) (.inl rfl) rfl rfl (fun k i w1 w2 hc _ hT hp=>PBw.st k i w1 w2 hT hp) (fun k=>zB2 _ _) ?_
 apply zC2;refine⟨fun ys=>?_,fun ops K hK=>?_⟩
 ·simp only[List.take_succ_cons,List.take_zero,j0p,List.filterMap_cons,List.filterMap_nil,j0r];go_simp
  rfl
 simp only[List.take_succ_cons,List.take_zero,List.drop_succ_cons,List.drop_zero] at hK ⊢
 repeat
  refine LexT.const TBw.rf ?_;apply zC2;refine⟨fun ys w' hp hpk hq hd=>?_,?_⟩
  ·try simp[j0d,j0f,DF.holds,Region.binds,EqF] at hd
   try simp only[hd]
   obtain⟨⟨z0,z1,z2,z3,z4,z5,z6,-,-,-,-,-⟩,cE⟩:=HC.o w' hp;intro Q2 ak;go_wp2_with fail
   rfl
  try simp only[nl9]
 refine LexT.some (FEn w1.drew.heap.size nf g1) (fun i v w1 w2 hc _ hT h=>FEn.st i v w1 w2 hT h) (fun ys w' hp hpk hq hd=>?_) ?_
 ·try simp[j0d,j0f,DF.holds,Region.binds,EqF] at hd
  try simp only[hd]
  have am:Below w1.heap.size w1 w':=(j0w (zB2 _ _)).trans (Below.mono hp (zL9 _));have av:=Below.size hp;have a3:=j4n Ah nf ch n g fn k (-1) w' (HX.o.gz w' am) b0 HX.o.gs.r hn fc d0 HX.o.b1 (by omega)
  rw[<-HX.o.e1] at a3;clear hp hpk;intro Q2 ak;go_wp2_with fail
  refine a3.mono ?_;rintro e w4 ⟨⟨v,rfl,a0⟩,hb⟩;obtain⟨An,cn,rfl,a1,a2⟩:=a0.fm aD;have b5:=zQ9 (show TBw 0 w' w4∧FEn w1.drew.heap.size nf g1 (.slice An nf cn) w4 from⟨hb,An,cn,rfl,a1,a2,a0.mono av⟩)
  clear a0 hb a3;go_wp2
  exact⟨_,rfl,b5.o⟩
 try simp only[nl9]
 repeat
  refine LexT.const TBw.rf ?_;apply zC2;refine⟨fun ys w' hp hpk hq hd=>?_,?_⟩
  ·try simp[j0d,j0f,DF.holds,Region.binds,EqF] at hd
   try simp only[hd]
   obtain⟨⟨z0,z1,z2,z3,z4,z5,z6,-,-,-,-,-⟩,cE⟩:=HC.o w' hp;intro Q2 ak;go_wp2_with fail
   rfl
  try simp only[nl9]
 refine LexT.some (FEn w1.drew.heap.size nf (addG g1 tn k 1)) (fun i v w1 w2 hc _ hT h=>FEn.st i v w1 w2 hT h) (fun ys w' hp hpk hq hd=>?_) ?_
 ·try simp[j0d,j0f,DF.holds,Region.binds,EqF] at hd
  try simp only[hd]
  obtain⟨⟨An,cn,e9,fe,ff,a0⟩,hd⟩:=hd;simp only[e9,hd];have av:=Below.size hp;have a3:=j4n An nf cn n g1 tn k 1 w' (a0.zz aD) b0 HX.o.s1.r hn dz d0 HX.o.b2 (by omega)
  clear hp hpk e9 hd a0;intro Q2 ak;go_wp2_with fail
  refine a3.mono ?_;rintro e w4 ⟨⟨v,rfl,a0⟩,hb⟩;obtain⟨Am,cm,rfl,a1,a2⟩:=a0.fm (show(addG g1 tn k 1).length=nf by rw[j4a];exact aD)
  have b5:=zQ9 (show TBw 0 w' w4∧FEn w1.drew.heap.size nf (addG g1 tn k 1) (.slice Am nf cm) w4 from⟨hb,Am,cm,rfl,a1,a2,a0.mono av⟩)
  clear a0 hb a3;go_wp2
  exact⟨_,rfl,b5.o⟩
 try simp only[nl9]
 repeat
  refine LexT.const TBw.rf ?_;apply zC2;refine⟨fun ys w' hp hpk hq hd=>?_,?_⟩
  ·try simp[j0d,j0f,DF.holds,Region.binds,EqF] at hd
   try simp only[hd]
   obtain⟨⟨z0,z1,z2,z3,z4,z5,z6,-,-,-,-,-⟩,cE⟩:=HC.o w' hp;intro Q2 ak;go_wp2_with fail
   rfl
  try simp only[nl9]
 refine hK _ fun ys w' hp hF=>?_
 simp[AllF,DF.holds] at hF;obtain⟨cq,-,-,-,-,-,-,-,-,Am,cm,bu,f8,f9,a0⟩:=hF;simp only[cq,bu];have am:Below w1.heap.size w1 w':=(j0w (zB2 _ _)).trans (Below.mono hp (zL9 _));have fa:=j6r HX.o.og am (zL9 _) a0 (HX.o.s1.add dz k 1) ⟨f8,f9⟩ hn b0 hE;clear hK cq bu a0 hp am;go_wp2_with (go_at_call 143;(with_reducible refine fa.mono ?_);rintro e w3 ⟨v3,rfl,dq⟩;have H3:=zQ9 dq;clear dq)
 exact HQ.o _ _ _ _ _ _ _ _ _ _ _ _ _ H3.o
noncomputable def rgDn14:Code:=((Tryz.f129.body.bind (j1u 14)).getD .skip)
theorem done_may (w2:World) (b:Hb) (d:De) (BB DK o i:Nat) (deed owner own:Int) (mb:Bool) {v0 v1 v2 v3 v6 v7 v9 b7 cC bh c5 cu b3 bq bA aE c6 aG c4 b9 b0 b8 cH bu cv be bz cb bf bj cy bG cA cp cf cG bB cD bE aB cz ba c7 d0 cc c9 bF cE bp cq c8 b6 co b4 bD bs cF bw ca aF br cw bv ct cj bi bo bC cx b5 ce cn aD cg f2 d8 f9 da dj d9 dw dn dA d3 fa dC dz f1 fe f6 fd dB d7 fi dF cr a8 ae an am a0 ah a4 ad a7 aj ao aq ac ak ag a9 af a1 aa ai a3 ar a5 av a2:Value} (Q:Exit->Act->World->Prop)
 (az:Q9 (HbIn w2 b)) (HB:Q9 (w2.heap[BB]?=some b.obj)) (HD:Q9 (w2.heap[DK]?=some (dObj d))) (cB:Q9 (HeOk b.t b.l b.ks b.hs b.ds∧seen d.s 9 6=0)) (fc:o<b.l.length)
 (HM:Q9 (mb=mayB b.t b.l deed owner i d.s o)) (HW:Q9 ((own=if (i:Int)=deed then owner else -1)∧((i:Int)=deed->0<=owner)))
 (HQ:Q9 (∀ (d1 d4 dx dG ff d5 dr dD d2 dh fg f8 fh fb f7 dd f5 dg dk dH:Value) (w':World),Below w2.heap.size w2 w'->Q .normal ⟨#[v0,v1,v2,v3,(Value.int .i64 own),(Value.pointer (some ⟨BB,0,none⟩)),v6,v7,(Value.pointer (some ⟨DK,0,none⟩)),v9,b7,(Value.int .i64 (o:Int)),cC,bh,c5,cu,b3,bq,bA,aE,c6,aG,c4,b9,b0,b8,cH,bu,cv,be,bz,cb,bf,bj,cy,bG,cA,cp,cf,cG,bB,cD,bE,aB,cz,ba,c7,d0,cc,c9,bF,cE,bp,cq,c8,b6,co,b4,bD,bs,cF,bw,ca,aF,br,cw,bv,ct,cj,bi,bo,bC,cx,b5,ce,cn,aD,cg,d1,d4,dx,dG,ff,d5,dr,dD,d2,dh,fg,f8,fh,fb,f7,dd,f5,dg,dk,dH,(Value.bool mb),cr,a8,ae,an,am,a0,ah,a4,ad,a7,aj,ao,aq,ac,ak,ag,a9,af,a1,aa,ai,a3,ar,a5,av,a2],[]⟩ w')) :
 Code.wp Tryz.prog rgDn14 Q ⟨#[v0,v1,v2,v3,(Value.int .i64 own),(Value.pointer (some ⟨BB,0,none⟩)),v6,v7,(Value.pointer (some ⟨DK,0,none⟩)),v9,b7,(Value.int .i64 (o:Int)),cC,bh,c5,cu,b3,bq,bA,aE,c6,aG,c4,b9,b0,b8,cH,bu,cv,be,bz,cb,bf,bj,cy,bG,cA,cp,cf,cG,bB,cD,bE,aB,cz,ba,c7,d0,cc,c9,bF,cE,bp,cq,c8,b6,co,b4,bD,bs,cF,bw,ca,aF,br,cw,bv,ct,cj,bi,bo,bC,cx,b5,ce,cn,aD,cg,f2,d8,f9,da,dj,d9,dw,dn,dA,d3,fa,dC,dz,f1,fe,f6,fd,dB,d7,fi,dF,cr,a8,ae,an,am,a0,ah,a4,ad,a7,aj,ao,aq,ac,ak,ag,a9,af,a1,aa,ai,a3,ar,a5,av,a2],[]⟩ w2:=by
 dsimp only
 conv=>arg 2;whnf
 obtain⟨c0,c1,-,-,-⟩:=j0h HB.o;obtain⟨-,-,-,-,-,-,-,z7,z8,z9,bn,aC⟩:=blkD HD.o;have fo:=j0a HB.o;have fp:=j0a HD.o;obtain⟨bm,om,mk,eA,fq,ax,m0,m1,m2⟩:=Marks.get az.o.m fc;rw[eA] at c1;obtain⟨aw,bt,-,-⟩:=j6o cB.o.2;have ay:=(j3h cB.o.1.ck mk (zB4 ax)).1;have i1:(o:Int)<(b.l.length:Int):=by omega
 have fj:=az.o.mc;have ft:=az.o.mm;have cM:∀ d' os,Calls Tryz.prog 94 #[vSg d.s,vMk mk,.int .i64 b.t] (Sort.grow (redrawn w2 d') os) (fun e w''=>e=.returned (.bool (fits d.s mk b.t))∧∃ p:Regrown,w''=Sort.grow (redrawn w2 p.d) p.os):=fun d' os =>
  Calls.regrown_of (rFits d.s mk b.t _ ay.1 ay.2 aw.1 aw.2 bt)
 obtain⟨F,hF⟩:∃ F,F=fits d.s mk b.t:=⟨_,rfl⟩;rw[<-hF] at cM;have aH:mb=(j1s deed owner i o&&F):=by
  rw[HM.o];unfold mayB;rw[ax,hF];rfl
 unfold vSg vMk at cM;have dy:=zQ9 cM;have k0:=cell_regrown c0;have k1:=cell_regrown c1;have k3:=zA9 (cell_regrown z7) (zA9 (cell_regrown z8) (zA9 (cell_regrown z9) (zA9 (cell_regrown bn) (cell_regrown aC))));have k4:=zA9 (cell_regrown m0) (zA9 (cell_regrown m1) (cell_regrown m2));have a6:(own<0∧mb=F)∨(¬own<0∧((o:Int)==own)=true∧mb=F)∨(¬own<0∧((o:Int)==own)=false∧mb=false):=by
  rw[aH];obtain⟨h1,h2⟩:=HW.o;unfold j1s;by_cases h3:(i:Int)=deed
  ·rw[if_pos h3] at h1;have h4:=h2 h3;subst h1;by_cases h5:(o:Int)=own
   ·exact .inr (.inl ⟨by omega,by simp[h5],by simp[h5]⟩)
   ·exact .inr (.inr ⟨by omega,by simp[h5],by simp[h3,h5]⟩)
  ·rw[if_neg h3] at h1;exact .inl ⟨by omega,by simp[h3]⟩
 clear c0 c1 z7 z8 z9 bn aC m0 m1 m2 cM aH hF ax eA aw bt ay;rcases a6 with ⟨e1,rfl⟩|⟨e1,e2,rfl⟩|⟨e1,e2,rfl⟩
 all_goals
  try cases mb
 all_goals
  refine wp_region_quiet_below (by kernel_rfl) (by kernel_rfl) ?_
  repeat (go_big_quiet_step (exact dy.o _ _))
  refine wpQuiet_nil ?_;intro _ du;obtain⟨⟨dq,di⟩,aA⟩:=du;subst aA;go_wp2_with fail
  exact HQ.o _ _ _ _ _ _ _ _ _ _ _ _ _ _ _ _ _ _ _ _ _ (below_regrown w2 dq di)
theorem q4g (b:Hb) (am:HeOk b.t b.l b.ks b.hs b.ds) (deed owner:Int) (i:Nat) (d:De) (hd:b.ds[i]?=some d) (ho:(i:Int)=deed->0<=owner) (z:Nat) (v:Value) (E:List Gr) (Ah:Option Addr) (ch:Nat) (g:Gr) (w:World)
 (h:OwnGG z b.l.length b.ks.length v E w) (hg:GSh b.l.length b.ks.length g) (hn:nnG g=true) (bn:BdG 1000 g) (hk:∀ w',w.grownBy w' v.ownBlock->j1d w' Ah b.ks.length g) (hi:∀ w',w.grownBy w' v.ownBlock->HbIn w' b) (hc:b.ks.length<=ch∧ch<=maxLen) (hE:E.length+125<=4294967295) :
 Calls Tryz.prog 129 #[b.v,v,.slice Ah b.ks.length ch,dv d,.int .i64 (if (i:Int)=deed then owner else -1)] w fun e w'=>∃ v',e=.returned v'∧GgE z b.l.length b.ks.length v w v' (j1i b.t b.l deed owner i d E g) w':=by
 have aB:=am.dI d (zB4 hd);have ax:=k0f (am.dE d (zB4 hd));obtain⟨own,af⟩:∃ own,own=if (i:Int)=deed then owner else -1:=⟨_,rfl⟩
 rw[<-af];have c5:=am.n5;have d0:=am.f3;obtain⟨nf,b0⟩:∃ nf,nf=b.ks.length:=⟨_,rfl⟩;obtain⟨w1,an⟩:∃ W,W=(w.alloc b.obj).alloc (dObj d):=⟨_,rfl⟩;obtain⟨p,hp⟩:∃ p,p=w.heap.size:=⟨_,rfl⟩;have a7:Below w.heap.size w w1:=by rw[an];exact bal (bal0 _ _) (zL9 _) _
 have bp:w1.heap[p]?=some b.obj:=by rw[an,hp];exact j0b (j0c rfl) _
 have dp:w1.heap[p+1]?=some (dObj d):=by rw[an,hp];exact j0c (by simp)
 have h1:=h.below a7;have b8:∀ w',w1.grownBy w' v.ownBlock->j1d w' Ah b.ks.length g:=fun w' hg=>hk w' ((j3o a7).trans hg)
 have aD:∀ w',w1.grownBy w' v.ownBlock->HbIn w' b:=fun w' hg=>hi w' ((j3o a7).trans hg)
 have bA:∀ k,v.ownBlock=some k->k<w.heap.size:=fun k e=>(h.lt k e).2
 have bv:∀ f o,-1000<=getG g f o∧getG g f o<=1000:=fun f o=>getG_bd bn (by decide) f o
 obtain⟨fn,aG⟩:=zB7 ax.f.1;have a2:fn<nf:=by have:=ax.f.2;omega
 have c4:=aB.m;have cz:nf<=3:=by omega
 rw[<-b0] at h1 hg b8 ax aB hc ⊢;have HX:=zQ9 (zA9 hg (zA9 hn (zA9 bv (zA9 a7 (zA9 h1 (zA9 b8 (zA9 aD (zA9 aB (zA9 ax (zA9 am (zA9 af (zA9 ho (zA9 b0 (zA9 aG bA))))))))))))));obtain⟨c0,c1,-,-,-⟩:=j0h bp;obtain⟨z0,z1,z2,z3,z4,z5,z6,z7,z8,z9,aq,ao⟩:=blkD dp;have c9:=j0a bp;have co:=j0a dp;rw[aG] at z1;have HP:=zQ9 (zA9 bp dp);have du:=zQ9 aD;clear h hg hn bn hk hi aB ax am af ho b0 aG a7 h1 b8 aD bA bv bp dp;have aj:∀ w',Below w1.heap.size w1 w'->j1d w' Ah nf g:=fun w' hb=>by
  exact HX.o.2.2.2.2.2.1 w' (j3o hb)
 have bB:g.length=nf:=HX.o.1.l;have HG:=zQ9 (zA9 aj bB);clear aj bB;unfold Hb.v dv;go_enter Tryz.func129,Tryz.ntmps129
 go_upto_region 1 with (fail)
 rw[show(w.alloc (.cells #[.int .i64 b.t,b.vm,b.vk,b.vh,b.vd] 29)).alloc (.cells #[.int .i64 d.kind,.int .i64 d.flock,.int .i64 d.owner,.int .i64 d.other,.int .i64 d.tof,.int .i64 d.many,.int .i64 d.err,.int .i64 d.s.n,.bool d.s.l,.bool d.s.r,.int .i64 d.s.b,.int .i64 d.s.p] 33)=w1 from an.symm,<-hp]
 have c8:=zQ9 (zA9 an hp);clear an hp;obtain⟨kd,a1⟩:∃ kd,kd=d.kind:=⟨_,rfl⟩;rw[<-a1] at z0;have bw:=HX.o.2.2.2.2.2.2.2.2.1.k;rw[<-a1] at bw;have cv:kd=1∨kd=3∨kd=2∨kd=4∨kd=5∨kd=6:=by omega
 have ai:=zQ9 a1;clear a1 bw;rcases cv with rfl|rfl|rfl|rfl|rfl|rfl
 ·have a1:=ai.o.symm;obtain⟨a9,ae⟩:=HX.o.2.2.2.2.2.2.2.2.1.o (.inl a1);obtain⟨on,a6⟩:=zB7 a9;rw[a6] at z2 ae;have a0:∀ dd oo ii,j1i b.t b.l dd oo ii d E g=addR E (addG g fn on d.many):=fun dd oo ii=>by
   unfold j1i;rw[if_pos a1,HX.o.2.2.2.2.2.2.2.2.2.2.2.2.2.1,a6];rfl
  have HR:=zQ9 a0;have aF:=j4n Ah nf ch b.l.length g fn on d.many w1 (HG.o.1 w1 (zB2 _ _)) (by omega) HX.o.1.r (by omega) a2 (by omega) (by have:=HX.o.2.2.1 fn on;omega) (by omega)
  clear a1 a0 a9 ae a6;go_wp2_with (first
   | (go_at_call 144;(with_reducible refine aF.mono ?_);rintro e w2 ⟨⟨vn,rfl,ah⟩,av⟩;obtain⟨An,cn,rfl,ac,ag⟩:=ah.fm (show(addG g fn on d.many).length=nf by rw[j4a];exact HG.o.2);have ar:=j6r HX.o.2.2.2.2.1 av (zL9 _) ah (HX.o.1.add a2 on d.many) ⟨ac,ag⟩ (by omega) (by omega) (by omega);clear ah av)
   | (go_at_call 143;(with_reducible refine ar.mono ?_);rintro e w3 ⟨v3,rfl,a3⟩;have H3:=zQ9 a3;clear a3))
  go_ret
  exact⟨_,rfl,by rw[HR.o];exact GgE.before HX.o.2.2.2.1 H3.o⟩
 ·have a1:=ai.o.symm;obtain⟨a9,ae⟩:=HX.o.2.2.2.2.2.2.2.2.1.o (.inr (.inr a1));obtain⟨on,a6⟩:=zB7 a9;rw[a6] at z2 ae;have a0:∀ dd oo ii,j1i b.t b.l dd oo ii d E g=addR E (addG g fn on (-d.many)):=fun dd oo ii=>by
   unfold j1i;rw[if_neg (by omega),if_pos a1,HX.o.2.2.2.2.2.2.2.2.2.2.2.2.2.1,a6]
   rfl
  have HR:=zQ9 a0;have aF:=j4n Ah nf ch b.l.length g fn on (-d.many) w1 (HG.o.1 w1 (zB2 _ _)) (by omega) HX.o.1.r (by omega) a2 (by omega) (by have:=HX.o.2.2.1 fn on;omega) (by omega)
  clear a1 a0 a9 ae a6;go_wp2_with (first
   | (go_at_call 144;(with_reducible refine aF.mono ?_);rintro e w2 ⟨⟨vn,rfl,ah⟩,av⟩;obtain⟨An,cn,rfl,ac,ag⟩:=ah.fm (show(addG g fn on (-d.many)).length=nf by rw[j4a];exact HG.o.2);have ar:=j6r HX.o.2.2.2.2.1 av (zL9 _) ah (HX.o.1.add a2 on (-d.many)) ⟨ac,ag⟩ (by omega) (by omega) (by omega);clear ah av)
   | (go_at_call 143;(with_reducible refine ar.mono ?_);rintro e w3 ⟨v3,rfl,a3⟩;have H3:=zQ9 a3;clear a3))
  go_ret
  exact⟨_,rfl,by rw[HR.o];exact GgE.before HX.o.2.2.2.1 H3.o⟩
 ·have a1:=ai.o.symm;obtain⟨a9,ae⟩:=HX.o.2.2.2.2.2.2.2.2.1.o (.inr (.inl a1));obtain⟨bz,bC⟩:=HX.o.2.2.2.2.2.2.2.2.1.x a1;obtain⟨on,a6⟩:=zB7 a9;obtain⟨xn,az⟩:=zB7 bz;rw[a6] at z2 ae;rw[az] at z3 bC;obtain⟨g1,a5⟩:∃ g1,g1=addG g fn on (-d.many):=⟨_,rfl⟩;have a0:∀ dd oo ii,j1i b.t b.l dd oo ii d E g=addR E (addG g1 fn xn d.many):=fun dd oo ii=>by
   unfold j1i;rw[if_neg (by omega),if_neg (by omega),if_pos a1,HX.o.2.2.2.2.2.2.2.2.2.2.2.2.2.1,a6,az,a5]
   rfl
  have ak:GSh b.l.length nf g1:=by rw[a5];exact HX.o.1.add a2 on (-d.many)
  have cg:g1.length=nf:=ak.l;have a7:-100000<=getG g1 fn xn∧getG g1 fn xn<=100000:=by
   have h1:=HX.o.2.2.1 fn xn;have h2:=HX.o.2.2.1 fn on;by_cases e:on=xn
   ·subst e;rw[a5,j4b (by rw[HG.o.2];exact a2) (by rw[HX.o.1.row a2];omega)]
    omega
   ·rw[a5,j5a (.inr e)];omega
  have aE:=zQ9 (show DnX z b.l.length nf v E Ah g g1 (p+1) d fn on (-d.many) fn xn w1 from⟨HX.o.2.2.2.2.1,HX.o.1,HG.o.1,HP.o.2,HX.o.2.2.2.2.2.2.2.2.2.2.2.2.2.1,ak,a5,by have:=HX.o.2.2.1 fn on;omega,a7⟩)
  have cc:=zQ9 (show d.owner=(on:Int)∧d.other=(xn:Int) from⟨a6,az⟩)
  have HR:=zQ9 a0;have b6:on<b.l.length:=by omega
  have b3:xn<b.l.length:=by omega
  clear a1 a0 a9 bz a6 az a5 ak cg a7;go_upto_region 7 with (fail)
  refine q4h w1 z b.l.length nf v E Ah ch g g1 (p+1) d fn on xn _ aE cc (by omega) a2 b6 b3 (by omega) (by omega) (by omega) (zQ9 ?_)
  intro cD dG dz cG dA d2 dH dh dg dw d8 f8 f7 di cB cF dB dj v3 w3 a3;have H3:=zQ9 a3;clear a3;go_wp2_with fail
  go_ret
  exact⟨_,rfl,by rw[HR.o];exact GgE.before HX.o.2.2.2.1 H3.o⟩
 ·have a1:=ai.o.symm;obtain⟨mn,aA⟩:=zB7 c4.1;rw[aA] at z5;have bj:=HX.o.2.2.2.2.2.2.2.1.l a1;rw[aA] at bj;have a0:∀ dd oo ii,j1i b.t b.l dd oo ii d E g=j4z b.l.length fn mn 0 g E:=fun dd oo ii=>by
   unfold j1i;rw[if_neg (by omega),if_neg (by omega),if_neg (by omega),if_neg (by omega),if_pos a1,HX.o.2.2.2.2.2.2.2.2.2.2.2.2.2.1,aA]
   rfl
  have HR:=zQ9 a0;have bi:=k6z b.l.length nf fn c5 (by omega) a2 mn (by omega) z 0 v E Ah ch g w1 (by omega) HX.o.2.2.2.2.1 HX.o.1 HX.o.2.1 (fun x _=>(HX.o.2.2.1 fn x).2) HX.o.2.2.2.2.2.1 hc (by have:5 ^ mn<=5 ^ 3:=Nat.pow_le_pow_right (by decide) (by omega);omega)
  rw[show((0:Nat):Int)=0 from rfl] at bi
  clear a1 a0 aA bj;go_wp2_with (go_at_call 145;(with_reducible refine bi.mono ?_);rintro e w3 ⟨v3,rfl,a3⟩;have H3:=zQ9 a3;clear a3)
  go_ret
  exact⟨_,rfl,by rw[HR.o];exact GgE.before HX.o.2.2.2.1 H3.o⟩
 ·have a1:=ai.o.symm;obtain⟨bq,c6⟩:=HX.o.2.2.2.2.2.2.2.2.1.t a1;obtain⟨tn,ay⟩:=zB7 bq;rw[ay] at z4 c6;have cx:tn<nf:=by omega
  have bt:=HX.o.2.2.2.2.2.2.2.1.st a1;obtain⟨F9,b5⟩:∃ F9:List Gr->Nat->List Gr,F9=fun E o=>if mayB b.t b.l deed owner i d.s o then addR E (addG (addG g fn o (-1)) tn o 1) else E:=⟨_,rfl⟩
  have a0:j1i b.t b.l deed owner i d E g=(List.range b.l.length).foldl F9 E:=by
   unfold j1i;rw[if_neg (by omega),if_neg (by omega),if_neg (by omega),if_neg (by omega),if_neg (by omega),HX.o.2.2.2.2.2.2.2.2.2.2.2.2.2.1,ay,b5]
   rfl
  have b4:=zQ9 ay;have HR:=zQ9 (zA9 a0 (zA9 b5 bt));clear a1 a0 b5 bt bq ay;go_upto_region 12 with (fail)
  clear z0 z1 z2 z3 z4 z5 z6 z7 z8 z9 aq ao c0 c1;go_loopg [1,11] b.l.length (fun gh v1 v11 wr=>∃ k:Nat,k+gh=b.l.length∧v11=.int .i64 k∧GgE z b.l.length nf v w1 v1 ((List.range k).foldl F9 E) wr)
  case atStart=>exact⟨0,by omega,rfl,GgE.refl HX.o.2.2.2.2.1⟩
  case round =>
   obtain⟨k,hk,rfl,hE⟩:=hrel;obtain⟨w2,be⟩:∃ W:World,W=wr:=⟨_,rfl⟩;rw[<-be] at hE ⊢;clear be;have aa:=hE.keep (P:=fun w'=>w'.heap[p]?=some b.obj∧w'.heap[p+1]?=some (dObj d)) (fun w' hg=>by
    have dk:=c8.o.2;have cp:=j0a HP.o.1;have cr:=j0a HP.o.2;exact⟨(hg.block p cp (fun e=>by have:=HX.o.2.2.2.2.2.2.2.2.2.2.2.2.2.2 p e.symm;omega)).trans HP.o.1,(hg.block (p+1) cr (fun e=>by have:=HX.o.2.2.2.2.2.2.2.2.2.2.2.2.2.2 (p+1) e.symm;omega)).trans HP.o.2⟩) w2 (World.grownBy.refl _ _)
   have b9:=hE.keep HX.o.2.2.2.2.2.2.1 w2 (World.grownBy.refl _ _);have aj:=hE.keep HX.o.2.2.2.2.2.1;obtain⟨c0,c1,-,-,-⟩:=j0h aa.1;obtain⟨-,-,-,-,-,-,-,z7,z8,z9,aq,ao⟩:=blkD aa.2;have c9:=j0a aa.1;have co:=j0a aa.2;by_cases hlt:k<b.l.length
   ·have aw:(List.range (k+1)).foldl F9 E=if mayB b.t b.l deed owner i d.s k then addR ((List.range k).foldl F9 E) (addG (addG g fn k (-1)) tn k 1) else (List.range k).foldl F9 E:=by
     rw[List.range_succ,List.foldl_append];simp only[List.foldl_cons,List.foldl_nil];rw[HR.o.2.1]
    have aC:((List.range k).foldl F9 E).length<=E.length+5:=by
     have h1:=k0l (F:=F9) (K:=1) (L:=List.range k) (fun x _ l=>by
      rw[HR.o.2.1];dsimp only
      split
      ·exact k8g _ _
      ·omega) E
     rw[List.length_range] at h1;omega
    obtain⟨G,hG⟩:∃ G,G=(List.range k).foldl F9 E:=⟨_,rfl⟩;rw[<-hG] at hE aw aC;obtain⟨g1,a5⟩:∃ g1,g1=addG g fn k (-1):=⟨_,rfl⟩;rw[<-a5] at aw;have ak:GSh b.l.length nf g1:=by rw[a5];exact HX.o.1.add a2 k (-1)
    have a7:-1001<=getG g1 tn k∧getG g1 tn k<=1001:=by
     have h1:=HX.o.2.2.1 fn k;have h2:=HX.o.2.2.1 tn k;by_cases e:fn=tn
     ·subst e;rw[a5,j4b (by rw[HG.o.2];exact a2) (by rw[HX.o.1.row a2];omega)]
      omega
     ·rw[a5,j5a (.inl e)];omega
    obtain⟨mb,ad⟩:∃ mb,mb=mayB b.t b.l deed owner i d.s k:=⟨_,rfl⟩;rw[<-ad] at aw;have HM:=zQ9 ad;have bD:=zQ9 b9;have ca:=zQ9 aa.1;have bm:=zQ9 aa.2;have cy:=zQ9 (show HeOk b.t b.l b.ks b.hs b.ds∧seen d.s 9 6=0 from⟨HX.o.2.2.2.2.2.2.2.2.2.1,HR.o.2.2⟩)
    have HW:=zQ9 (show(own=if (i:Int)=deed then owner else -1)∧((i:Int)=deed->0<=owner) from⟨HX.o.2.2.2.2.2.2.2.2.2.2.1,HX.o.2.2.2.2.2.2.2.2.2.2.2.1⟩)
    have i1:(k:Int)<(b.l.length:Int):=by omega
    have HK:=zQ9 (zA9 hk (zA9 hE (zA9 aw (zA9 aj (zA9 aC (zA9 ak (zA9 a7 a5)))))));clear hk hE aw aj aC ak a7 aa a5 hG b9 ad z7 z8 z9 aq ao c0;go_upto_region 14 with (fail)
    clear c1;refine done_may w2 b d p (p+1) k i deed owner own mb _ bD ca bm cy hlt HM HW (zQ9 ?_);intro cC cH da dr f2 d1 d9 dn cE d5 f5 dF f6 f1 dD d3 dC d4 d7 dx w3 a4;cases mb
    ·have H3:=zQ9 a4;clear a4;go_wp2_with fail
     go_roundg (gk-1)
     case measure=>have:=HK.o.1;omega
     case rel =>
      refine⟨k+1,by have:=HK.o.1;omega,by go_num,?_⟩
      rw[HK.o.2.2.1,if_neg (by decide)]
      exact HK.o.2.1.then H3.o
    ·have aE:=zQ9 (show DnX z b.l.length nf u1 G Ah g g1 (p+1) d fn k (-1) tn k w3 from⟨HK.o.2.1.gg.below a4,HX.o.1,fun w' hb=>HK.o.2.2.2.1 w' (j3o (a4.trans (hb.mono a4.size))),j0e bm.o a4 (zL9 _),HX.o.2.2.2.2.2.2.2.2.2.2.2.2.2.1,HK.o.2.2.2.2.2.1,HK.o.2.2.2.2.2.2.2,by have:=HX.o.2.2.1 fn k;omega,by have:=HK.o.2.2.2.2.2.2.1;omega⟩)
     have H3:=zQ9 a4;clear a4;go_upto_region 15 with (fail)
     refine q2u w3 z b.l.length nf u1 G Ah ch g g1 (p+1) d fn tn k _ aE b4 a2 cx hlt (by omega) (by omega) (by have:=HK.o.2.2.2.2.1;omega) (zQ9 ?_)
     intro dy cj cw bF cq cf cb bG c7 bE cu v4 w4 bh;have H4:=zQ9 bh;clear bh;go_wp2_with fail
     go_roundg (gk-1)
     case measure=>have:=HK.o.1;omega
     case rel =>
      refine⟨k+1,by have:=HK.o.1;omega,by go_num,?_⟩
      rw[HK.o.2.2.1]
      first|rw[if_pos rfl]|rw[if_pos trivial]
      exact HK.o.2.1.trans (GgE.before H3.o H4.o)
   ·have bs:k=b.l.length:=by omega
    have i1:¬(k:Int)<(b.l.length:Int):=by omega
    have HK:=zQ9 (zA9 hE bs);clear hk hE bs aj aa b9 z7 z8 z9 aq ao c0;go_wp2_with fail
    go_ret
    have h:=HK.o.1;rw[HK.o.2,<-HR.o.1] at h;exact⟨_,rfl,GgE.before HX.o.2.2.2.1 h⟩
 ·have a1:=ai.o.symm;have a0:∀ dd oo ii,j1i b.t b.l dd oo ii d E g=if cntB d (g.getD fn []).sum then addR E g else E:=fun dd oo ii=>by
   unfold j1i;rw[if_neg (by omega),if_neg (by omega),if_neg (by omega),if_pos a1,HX.o.2.2.2.2.2.2.2.2.2.2.2.2.2.1]
   rfl
  have bu:(g.getD fn []).length=b.l.length:=HX.o.1.row a2;have a8:∀ x∈g.getD fn [],0<=x∧x<=1000:=fun x hx=>by
   obtain⟨i,hi,rfl⟩:=List.getElem_of_mem hx;have h1:=HX.o.2.2.1 fn i;have h2:=(j8e HX.o.1).1 HX.o.2.1 fn i a2 (by rw[<-bu];exact hi)
   have e:getG g fn i=(g.getD fn [])[i]:=by unfold getG;rw[zB3,zB5 hi];rfl
   rw[e] at h1 h2;omega
  have bf:=k5k (B:=1000) (by decide) (l:=g.getD fn []) fun x hx=>by have:=a8 x hx;omega
  have br:0<=(g.getD fn []).sum:=q2k fun x hx=>(a8 x hx).1
  obtain⟨S,hS⟩:∃ S,S=(g.getD fn []).sum:=⟨_,rfl⟩;rw[bu,<-hS] at bf;rw[<-hS] at br a0;have ct:=HX.o.2.2.2.2.2.2.2.1.e;have cA:∀ d' os,Calls Tryz.prog 101 #[.slice Ah nf ch,.int .i64 fn] (Sort.grow (redrawn w1 d') os) (fun e w''=>e=.returned (.int .i64 S)∧∃ p:Regrown,w''=Sort.grow (redrawn w1 p.d) p.os):=fun d' os=>by
   have h1:=all9_any Ah nf ch fn g (Sort.grow (redrawn w1 d') os) (HG.o.1 _ (below_regrown w1 d' os)) a2 (by omega) (fun x hx=>by have:=a8 x hx;omega)
   rw[<-hS] at h1;exact Calls.regrown_of (h1.mono fun e w' ⟨a,hw⟩=>⟨a,hw ▸ zB2 _ _⟩)
  obtain⟨mb,ad⟩:∃ mb,mb=cntB d S:=⟨_,rfl⟩;have cP:∀ d' os,Calls Tryz.prog 146 #[.agg #[.int .i64 0,.int .i64 0,.int .i64 d.many,.int .i64 d.err],.int .i64 S] (Sort.grow (redrawn w1 d') os) (fun e w''=>e=.returned (.bool mb)∧∃ p:Regrown,w''=Sort.grow (redrawn w1 p.d) p.os):=fun d' os=>by
   rw[ad];exact Calls.regrown_of (k7y d.many d.err S _ (by omega) (by omega) (by omega))
  rw[<-ad] at a0;have k1:=cell_regrown z1;have k5:=cell_regrown z5;have k6:=cell_regrown z6;have HC:=zQ9 (zA9 cA cP);have HR:=zQ9 a0;clear a1 a0 a8 bf br hS cA cP ad ct;go_upto_region 17 with (fail)
  clear z0 z1 z2 z3 z4 z5 z6 z7 z8 z9 aq ao c0 c1;refine wp_region_quiet_below (by kernel_rfl) (by kernel_rfl) ?_
  repeat (go_big_quiet_step (first|exact HC.o.1 _ _|exact HC.o.2 _ _))
  refine wpQuiet_nil ?_;intro _ ce;obtain⟨⟨dq,bo⟩,ba⟩:=ce;subst ba;obtain⟨W3,b7⟩:∃ W3,W3=Sort.grow (redrawn w1 dq) bo:=⟨_,rfl⟩;have a4:Below w1.heap.size w1 W3:=by rw[b7];exact below_regrown w1 dq bo
  rw[<-b7];have ar:=k0a z b.l.length nf v E Ah ch g W3 (HX.o.2.2.2.2.1.below a4) HX.o.1 (fun w' hg=>HX.o.2.2.2.2.2.1 w' ((j3o a4).trans hg)) hc (by omega) (by omega) (by omega)
  have aH:=zQ9 a4;clear b7 a4 k1 k5 k6;cases mb
  ·go_wp2_with fail
   go_ret
   exact⟨_,rfl,by rw[HR.o,if_neg (by decide)];exact GgE.before HX.o.2.2.2.1 (GgE.before aH.o (GgE.refl (HX.o.2.2.2.2.1.below aH.o)))⟩
  ·go_wp2_with (go_at_call 143;(with_reducible refine ar.mono ?_);rintro e w3 ⟨v3,rfl,a3⟩;have H3:=zQ9 a3;clear a3)
   go_ret
   refine⟨_,rfl,?_⟩;rw[HR.o]
   first|rw[if_pos rfl]|rw[if_pos trivial]
   exact GgE.before HX.o.2.2.2.1 (GgE.before aH.o H3.o)
theorem k7j {α:Type} [DecidableEq α]:∀ {l m:List α},l.Nodup->(∀ x∈l,x∈m)->l.length<=m.length
 | [],m,_,_=>Nat.zero_le _
 | a::l,m,hn,h=>by
   obtain⟨h1,h2⟩:=List.nodup_cons.1 hn;have ha:=h a List.mem_cons_self;have h3:=k7j (m:=m.erase a) h2 fun x hx=>(List.mem_erase_of_ne (fun e:x=a=>h1 (by rw[<-e];exact hx))).2 (h x (List.mem_cons_of_mem _ hx))
   rw[List.length_erase_of_mem ha] at h3;have:=List.length_pos_of_mem ha;rw[List.length_cons];omega
section
variable {t:Int} {l:List Mk} {deed owner:Int} {nf:Nat}
theorem step_bd {i:Nat} {d:De} {g x:Gr} {B:Int} (hB:0<=B) (hb:BdG B g) (hm:0<=d.many∧d.many<=300) (hk:d.kind≠6->d.many<=20) (hx:x∈j1t t l deed owner i d g):BdG (B+40) x:=by
 unfold j1t at hx
 split at hx
 ·rw[List.mem_singleton.1 hx];exact(hb.add (K:=20) (by have:=hk (by omega);omega) (by omega) hB).mono (by omega)
 split at hx
 ·rw[List.mem_singleton.1 hx];exact(hb.add (K:=20) (by have:=hk (by omega);omega) (by omega) hB).mono (by omega)
 split at hx
 ·rw[List.mem_singleton.1 hx];exact((hb.add (K:=20) (by have:=hk (by omega);omega) (by omega) hB).add (K:=20) (by have:=hk (by omega);omega) (by omega) (by omega)).mono (by omega)
 split at hx
 ·split at hx
  ·rw[List.mem_singleton.1 hx];exact hb.mono (by omega)
  ·cases hx
 split at hx
 ·unfold k0s at hx;obtain⟨w,hw,rfl⟩:=List.mem_map.1 hx;obtain⟨hl,-⟩:=j3t (List.mem_filter.1 hw).1;exact(BdG.sub (w:=w) hB hb).mono (by have:=hk (by omega);omega)
 ·unfold strG at hx;obtain⟨o,-,rfl⟩:=List.mem_map.1 hx;exact((hb.add (K:=1) (by omega) (by omega) hB).add (K:=1) (by omega) (by omega) (by omega)).mono (by omega)
def j1v (t:Int) (l:List Mk) (deed owner:Int) (ds:List De) (hs:Gr):Nat->List Gr
 | 0=>[hs]
 | i+1=>match ds[i]? with
   | some d=>(j1v t l deed owner ds hs i).foldl (fun F g=>j1i t l deed owner i d F g) []
   | none=>j1v t l deed owner ds hs i
theorem k4d {ds:List De} {hs:Gr} {i:Nat} {d:De} (h:ds[i]?=some d):j1v t l deed owner ds hs (i+1)=(j1v t l deed owner ds hs i).foldl (fun F g=>j1i t l deed owner i d F g) []:=by
 show(match ds[i]? with
  | some d=>(j1v t l deed owner ds hs i).foldl (fun F g=>j1i t l deed owner i d F g) []
  | none=>j1v t l deed owner ds hs i)=_
 rw[h]
structure EtOk (t:Int) (l:List Mk) (deed owner:Int) (nf:Nat) (ds:List De) (hs:Gr) (i:Nat):Prop where
 nd:(j1v t l deed owner ds hs i).Nodup
 sh:∀ g∈j1v t l deed owner ds hs i,GSh l.length nf g∧nnG g=true∧BdG (20+40*i) g
 ln:(j1v t l deed owner ds hs i).length<=35 ^ i
 tr:∀ x,x∈trG t l deed owner ds 0 hs↔∃ g∈j1v t l deed owner ds hs i,x∈trG t l deed owner (ds.drop i) i g
theorem k9q {i nf:Nat} {d:De} (hn:l.length<=5) (hd:DeIn l.length nf d) (a2:DeOw l.length nf d):∀ (E:List Gr),(∀ g∈E,GSh l.length nf g∧nnG g=true) ->
 (E.foldl (fun F g=>j1i t l deed owner i d F g) []).Nodup∧(∀ x,x∈E.foldl (fun F g=>j1i t l deed owner i d F g) []↔∃ g∈E,x∈j1t t l deed owner i d g∧nnG x=true)∧(E.foldl (fun F g=>j1i t l deed owner i d F g) []).length<=35*E.length:=fun E hE=>by
 have a1:(E.foldl (fun F g=>j1i t l deed owner i d F g) []).Nodup:=j7l (fun g _ E' h=>q1c h) _ List.nodup_nil
 have a0:∀ x,x∈E.foldl (fun F g=>j1i t l deed owner i d F g) []↔∃ g∈E,x∈j1t t l deed owner i d g∧nnG x=true:=fun x=>by
  rw[k0v (S:=fun(g:Gr) (x:Gr)=>x∈j1t t l deed owner i d g∧nnG x=true) fun g hg E'=>q5m (hE g hg).1 (hE g hg).2 a2 (fun _=>hd.m.1)]
  simp
 refine⟨a1,a0,?_⟩;refine zB6 (k7j (m:=E.flatMap fun g=>j1t t l deed owner i d g) a1 fun x hx=>?_) ?_
 ·obtain⟨g,hg,h1,-⟩:=(a0 x).1 hx;exact List.mem_flatMap.2 ⟨g,hg,h1⟩
 ·refine zB6 (j4u (c:=35) fun g _=>step_len hn hd) ?_
  rw[Nat.mul_comm];exact zL9 _
theorem etOk {ks:List Int} {hs:Gr} {ds:List De} (a0:HeOk t l ks hs ds):∀ i,i<=ds.length->EtOk t l deed owner ks.length ds hs i
 | 0,_=>by
   refine⟨by simp[j1v],fun g hg=>?_,by simp[j1v],fun x=>by simp[j1v]⟩
   rw[show g=hs by simpa[j1v] using hg]
   exact⟨⟨a0.hl,a0.rl⟩,j5k.2 fun r hr y hy=>(a0.rb r hr y hy).1,fun r hr x hx=>by have:=a0.rb r hr x hx;omega⟩
 | i+1,hi=>by
   have ih:=etOk a0 i (by omega)
   obtain⟨d,hd⟩:∃ d,ds[i]?=some d:=⟨_,zB5 (by omega)⟩
   have a2:=a0.dI d (zB4 hd);have a4:=k0f (a0.dE d (zB4 hd));obtain⟨h1,h2,h3⟩:=k9q (t:=t) (deed:=deed) (owner:=owner) (i:=i) a0.n5 a2 a4 (j1v t l deed owner ds hs i) fun g hg=>⟨(ih.sh g hg).1,(ih.sh g hg).2.1⟩
   have e:=k4d (t:=t) (l:=l) (deed:=deed) (owner:=owner) (hs:=hs) hd;rw[<-e] at h1 h2 h3;refine⟨h1,fun x hx=>?_,?_,fun x=>?_⟩
   ·obtain⟨g,hg,h4,h5⟩:=(h2 x).1 hx;have hs:=ih.sh g hg;refine⟨k6a hs.1 a4 h4,h5,(step_bd (by omega) hs.2.2 a2.m (fun hk=>a2.s hk) h4).mono (by omega)⟩
   ·rw[Nat.pow_succ,Nat.mul_comm (35 ^ i)];exact zB6 h3 (Nat.mul_le_mul_left _ ih.ln)
   ·rw[ih.tr x];have a3:ds.drop i=d::ds.drop (i+1):=by
     obtain⟨hl,e⟩:=List.getElem?_eq_some_iff.1 hd;rw[List.drop_eq_getElem_cons hl,e]
    constructor
    ·rintro⟨g,hg,hx⟩;rw[a3] at hx;unfold trG at hx;rw[if_pos (ih.sh g hg).2.1] at hx;obtain⟨y,hy,hx⟩:=List.mem_flatMap.1 hx;have a1:nnG y=true:=by
      cases a1:nnG y with
      | true=>rfl
      | false=>rw[trG_no (by rw[a1];simp)] at hx;cases hx
     exact⟨y,(h2 y).2 ⟨g,hg,hy,a1⟩,hx⟩
    ·rintro⟨y,hy,hx⟩;obtain⟨g,hg,h4,-⟩:=(h2 y).1 hy;refine⟨g,hg,?_⟩;rw[a3];unfold trG;rw[if_pos (ih.sh g hg).2.1];exact List.mem_flatMap.2 ⟨y,h4,hx⟩
end
def j7f (t:Int) (l:List Mk) (hs:Gr) (ds:List De) (deed owner:Int):List Gr:=j1v t l deed owner ds hs ds.length
theorem j7g {t:Int} {l:List Mk} {ks:List Int} {hs:Gr} {ds:List De} {deed owner:Int} (a1:HeOk t l ks hs ds) :
 ((j7f t l hs ds deed owner).map j0i).Perm (j2l t l hs ds deed owner)∧∀ g∈j7f t l hs ds deed owner,GSh l.length ks.length g∧nnG g=true∧BdG 260 g:=by
 have h:=etOk (deed:=deed) (owner:=owner) a1 ds.length (zL9 _);have a2:∀ g∈j7f t l hs ds deed owner,GSh l.length ks.length g∧nnG g=true∧BdG 260 g:=fun g hg=>by
  obtain⟨h1,h2,h3⟩:=h.sh g hg;exact⟨h1,h2,h3.mono (by have:=a1.d6;omega)⟩
 have a0:∀ g,g∈j7f t l hs ds deed owner↔g∈trG t l deed owner ds 0 hs:=fun g=>by
  rw[h.tr g,List.drop_length];constructor
  ·intro hg;refine⟨g,hg,?_⟩;unfold trG;rw[if_pos (a2 g hg).2.1];exact List.mem_singleton.2 rfl
  ·rintro⟨y,hy,hx⟩;unfold trG at hx;rw[if_pos (h.sh y hy).2.1] at hx;rw[List.mem_singleton.1 hx];exact hy
 refine⟨k2x ?_ (k1l _ _ _ _ _ _ _) fun x=>?_,a2⟩
 ·rw[List.Nodup,List.pairwise_map];refine h.nd.imp_of_mem fun {a b} ha hb hab e=>hab ?_
  exact q2x (a2 a ha).1 (a2 b hb).1 a1.n5 a1.f3 e
 ·rw[tru_ends a1 x,List.mem_map];exact⟨fun⟨g,hg,e⟩=>⟨g,(a0 g).1 hg,e.symm⟩,fun⟨g,hg,e⟩=>⟨g,(a0 g).2 hg,e.symm⟩⟩
theorem q4j {t:Int} {l:List Mk} {ks:List Int} {hs:Gr} {ds:List De} {deed owner:Int} (a0:HeOk t l ks hs ds):(j7f t l hs ds deed owner).length=(j2l t l hs ds deed owner).length:=by
 have:=(j7g (deed:=deed) (owner:=owner) a0).1.length_eq
 rwa [List.length_map] at this
theorem j6d {w w':World} (h:w.grownBy w' none):Below w.heap.size w w':=⟨h.os,h.tape,h.output,h.size,fun j hj=>h.block j hj (fun e=>by cases e)⟩
end Go.Proofs.YtmennjmjakdkcaaGreat
