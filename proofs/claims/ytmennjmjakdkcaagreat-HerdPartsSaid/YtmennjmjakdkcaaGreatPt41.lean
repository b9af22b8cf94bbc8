/- HerdParts. -/
import Derived.Test.YtmennjmjakdkcaaGreatPt40
set_option linter.unusedVariables false
set_option linter.unusedSimpArgs false
set_option maxRecDepth 100000
namespace Go.Proofs.YtmennjmjakdkcaaGreat
open Go.RowKit Go.ChangeShapes Go.WideShapes Go.Deep
theorem list4 {α:Type} {l:List α} (h:l.length=4):∃ a b c d,l=[a,b,c,d]:=by
 match l,h with
 | [a,b,c,d],_=>exact⟨a,b,c,d,rfl⟩
theorem list8 {α:Type} {l:List α} (h:l.length=8):∃ a b c d e f g i,l=[a,b,c,d,e,f,g,i]:=by
 match l,h with
 | [a,b,c,d,e,f,g,i],_=>exact⟨a,b,c,d,e,f,g,i,rfl⟩
theorem list12 {α:Type} {l:List α} (h:l.length=12):∃ a b c d e f g i j k m n,l=[a,b,c,d,e,f,g,i,j,k,m,n]:=by
 match l,h with
 | [a,b,c,d,e,f,g,i,j,k,m,n],_=>exact⟨a,b,c,d,e,f,g,i,j,k,m,n,rfl⟩
instance:Inhabited De:=⟨⟨0,0,0,0,0,0,0,⟨0,false,false,0,0⟩⟩⟩
instance:Inhabited Value:=⟨.int .i64 0⟩
theorem k9u {α β:Type} {P:α->β->Prop}:∀ {mv:List α},(∀ v∈mv,∃ l,P v l)->∃ ls:List β,mv.length=ls.length∧∀ (i:Nat) v,mv[i]?=some v->∃ l,ls[i]?=some l∧P v l
 | [],_=>⟨[],rfl,fun i v h=>by simp at h⟩
 | a::mv,h=>by
   obtain⟨l,hl⟩:=h a List.mem_cons_self;obtain⟨ls,h1,h2⟩:=k9u fun v hv=>h v (List.mem_cons_of_mem _ hv)
   refine⟨l::ls,by simp[h1],fun i v hv=>?_⟩
   cases i with
   | zero=>cases hv;exact⟨l,rfl,hl⟩
   | succ i=>exact h2 i v (by simpa using hv)
section
variable {H:Type} {enc:TypeId × Value->H} {w:World} {base:Nat} {spare:Nat->Bool} {held:Bool}
theorem q0i {P:Program} {t:TypeId} {f0 f1 f2 f3 f4 f5 f6 f7:Field} {a1:Nat} {cs:List Value} {x:DataW H × List MemPlace} (ht:P.underlying t=some (.struct #[f0,f1,f2,f3,f4,f5,f6,f7])) (h:DataW.trod enc P w base spare held a1 t cs=some x) :
 ∃ (y0 y1 y2 y3 y4 y5 y6 y7:DataW H × List MemPlace) (n:Nat),cs.length=P.cellsOf t∧DataW.trod enc P w base spare held n f0.type ((cs.drop f0.offset).take (P.cellsOf f0.type))=some y0∧DataW.trod enc P w base spare held n f1.type ((cs.drop f1.offset).take (P.cellsOf f1.type))=some y1∧DataW.trod enc P w base spare held n f2.type ((cs.drop f2.offset).take (P.cellsOf f2.type))=some y2∧DataW.trod enc P w base spare held n f3.type ((cs.drop f3.offset).take (P.cellsOf f3.type))=some y3∧DataW.trod enc P w base spare held n f4.type ((cs.drop f4.offset).take (P.cellsOf f4.type))=some y4∧DataW.trod enc P w base spare held n f5.type ((cs.drop f5.offset).take (P.cellsOf f5.type))=some y5∧DataW.trod enc P w base spare held n f6.type ((cs.drop f6.offset).take (P.cellsOf f6.type))=some y6∧DataW.trod enc P w base spare held n f7.type ((cs.drop f7.offset).take (P.cellsOf f7.type))=some y7:=by
 obtain⟨xs,n,_,_,hl,a0,hf⟩:=DataW.trod_struct ht h;obtain⟨y0,y1,y2,y3,y4,y5,y6,y7,rfl⟩:=list8 (show xs.length=8 from a0)
 exact⟨y0,y1,y2,y3,y4,y5,y6,y7,n,hl,by simpa using hf 0 f0 rfl,by simpa using hf 1 f1 rfl,by simpa using hf 2 f2 rfl,by simpa using hf 3 f3 rfl,by simpa using hf 4 f4 rfl,by simpa using hf 5 f5 rfl,by simpa using hf 6 f6 rfl,by simpa using hf 7 f7 rfl⟩
theorem q1k {P:Program} {t:TypeId} {f0 f1 f2 f3:Field} {a1:Nat} {cs:List Value} {x:DataW H × List MemPlace} (ht:P.underlying t=some (.struct #[f0,f1,f2,f3])) (h:DataW.trod enc P w base spare held a1 t cs=some x) :
 ∃ (y0 y1 y2 y3:DataW H × List MemPlace) (n:Nat),cs.length=P.cellsOf t∧DataW.trod enc P w base spare held n f0.type ((cs.drop f0.offset).take (P.cellsOf f0.type))=some y0∧DataW.trod enc P w base spare held n f1.type ((cs.drop f1.offset).take (P.cellsOf f1.type))=some y1∧DataW.trod enc P w base spare held n f2.type ((cs.drop f2.offset).take (P.cellsOf f2.type))=some y2∧DataW.trod enc P w base spare held n f3.type ((cs.drop f3.offset).take (P.cellsOf f3.type))=some y3:=by
 obtain⟨xs,n,_,_,hl,a0,hf⟩:=DataW.trod_struct ht h;obtain⟨y0,y1,y2,y3,rfl⟩:=list4 (show xs.length=4 from a0)
 exact⟨y0,y1,y2,y3,n,hl,by simpa using hf 0 f0 rfl,by simpa using hf 1 f1 rfl,by simpa using hf 2 f2 rfl,by simpa using hf 3 f3 rfl⟩
theorem k6i:Tryz.prog.cellsOf 33=12:=by kernel_rfl
theorem k8n:Tryz.prog.cellsOf 25=1:=by kernel_rfl
theorem cellsSlG:Tryz.prog.cellsOf 26=1:=by kernel_rfl
theorem cellsSlD:Tryz.prog.cellsOf 27=1:=by kernel_rfl
theorem q4a:Tryz.prog.cellsOf 29=5:=by kernel_rfl
theorem k7l {a0:Nat} {cs:List Value} {x:DataW H × List MemPlace} (h:DataW.trod enc Tryz.prog w base spare held a0 33 cs=some x):∃ d:De,cs=eDe d:=by
 obtain⟨y0,y1,y2,y3,y4,y5,y6,y7,n,hl,h0,h1,h2,h3,h4,h5,h6,h7⟩:=q0i Tryz.underlying33 h;rw[k6i] at hl;obtain⟨c0,c1,c2,c3,c4,c5,c6,c7,c8,c9,a3,a4,rfl⟩:=list12 hl;rw[j6e] at h0 h1 h2 h3 h4 h5 h6;rw[k0d] at h7;obtain⟨z0,e0,_,_⟩:=DataW.trod_int Tryz.underlying3 h0;obtain⟨z1,e1,_,_⟩:=DataW.trod_int Tryz.underlying3 h1;obtain⟨z2,e2,_,_⟩:=DataW.trod_int Tryz.underlying3 h2;obtain⟨z3,e3,_,_⟩:=DataW.trod_int Tryz.underlying3 h3;obtain⟨z4,e4,_,_⟩:=DataW.trod_int Tryz.underlying3 h4;obtain⟨z5,e5,_,_⟩:=DataW.trod_int Tryz.underlying3 h5;obtain⟨z6,e6,_,_⟩:=DataW.trod_int Tryz.underlying3 h6;obtain⟨s,e7⟩:=k4z h7;simp[eSg] at e0 e1 e2 e3 e4 e5 e6 e7;obtain⟨e7,e8,e9,a2,a1⟩:=e7;subst e0 e1 e2 e3 e4 e5 e6 e7 e8 e9 a2 a1;exact⟨⟨z0,z1,z2,z3,z4,z5,z6,s⟩,rfl⟩
theorem q3f {a0:Nat} {cs:List Value} {x:DataW H × List MemPlace} (h:DataW.trod enc Tryz.prog w base spare held a0 27 cs=some x) :
 ∃ A n c l,cs=[.slice A n c]∧Deeds w A n l∧n<=c∧c<=maxLen∧(A=none->c=0):=by
 rcases open_slice Tryz.underlying27 h with ⟨hcs,_⟩|⟨a,len,cap,m,n,D,Pl,hcs,hb,hl,hm,a1,hx,hi⟩
 ·exact⟨none,0,0,[],hcs,Sl.nil_,zL9 _,Nat.zero_le _,fun _=>rfl⟩
 ·have a5:len<=m:=by rw[a1];split<;>omega
  obtain⟨l,hs⟩:=j4y (enc:=eDe) (sz:=12) (w:=w) (a:=a) (len:=len) (by decide) j3k (fun i hi'=>by
   obtain⟨a4,hc,a2⟩:=hi i (by omega)
   obtain⟨d,rfl⟩:=k7l a2;rw[k6i] at hc;obtain⟨_,_,a3⟩:=World.cells?_some hc;refine⟨d,fun j u hu=>?_⟩
   have hj:j<12:=by have:=(List.getElem?_eq_some_iff.1 hu).1;rwa [j3k] at this
   have:=a3 j hj;rw[Go.Deep.add_add] at this;rw[this];exact hu)
  exact⟨some a,len,cap,l,hcs,hs,hl,hm,fun h=>by cases h⟩
theorem k4y {a0:Nat} {cs:List Value} {x:DataW H × List MemPlace} (h:DataW.trod enc Tryz.prog w base spare held a0 25 cs=some x) :
 ∃ A n c l,cs=[.slice A n c]∧Ints w A n l∧n<=c∧c<=maxLen∧(A=none->c=0):=by
 rcases open_slice Tryz.underlying25 h with ⟨hcs,_⟩|⟨a,len,cap,m,n,D,Pl,hcs,hb,hl,hm,a1,hx,hi⟩
 ·exact⟨none,0,0,[],hcs,Sl.nil_,zL9 _,Nat.zero_le _,fun _=>rfl⟩
 ·have a5:len<=m:=by rw[a1];split<;>omega
  obtain⟨l,hs⟩:=j4y (enc:=eInt) (sz:=1) (w:=w) (a:=a) (len:=len) (by decide) j0n (fun i hi'=>by
   obtain⟨a4,hc,a2⟩:=hi i (by omega)
   obtain⟨z,e,_,_⟩:=DataW.trod_int Tryz.underlying3 a2;subst e;rw[j6e] at hc;obtain⟨_,_,a3⟩:=World.cells?_some hc;refine⟨z,fun j u hu=>?_⟩
   have hj:j<1:=by have:=(List.getElem?_eq_some_iff.1 hu).1;rwa [j0n] at this
   have:=a3 j hj;rw[Go.Deep.add_add] at this;rw[this];exact hu)
  exact⟨some a,len,cap,l,hcs,hs,hl,hm,fun h=>by cases h⟩
theorem q5p {a3:Nat} {cs:List Value} {x:DataW H × List MemPlace} (h:DataW.trod enc Tryz.prog w base spare held a3 26 cs=some x) :
 ∃ A n c l,cs=[.slice A n c]∧j1d w A n l∧n<=c∧c<=maxLen∧(A=none->c=0):=by
 rcases open_slice Tryz.underlying26 h with ⟨hcs,_⟩|⟨a,len,cap,m,n,D,Pl,hcs,hb,hl,hm,a6,hx,hi⟩
 ·exact⟨none,0,0,[],hcs,⟨[],Sl.nil_,rfl,fun i v h=>by simp at h⟩,zL9 _,Nat.zero_le _,fun _=>rfl⟩
 ·have ag:len<=m:=by rw[a6];split<;>omega
  have a0:∀ i,i<len->∃ v,w.cell? (a.add (i*1+0))=some v∧∃ l:List Int,∃ B c,v=.slice B l.length c∧Ints w B l.length l∧l.length<=c∧c<=maxLen∧(B=none->c=0):=fun i hi'=>by
   obtain⟨af,hc,a8⟩:=hi i (by omega)
   obtain⟨B,k,c,l,rfl,h1,h2,h3,h4⟩:=k4y a8;rw[k8n] at hc;obtain⟨_,_,ac⟩:=World.cells?_some hc;have:=ac 0 (by decide)
   rw[Go.Deep.add_add] at this;have a2:=h1.len;subst a2;exact⟨_,this,l,B,c,rfl,h1,h2,h3,h4⟩
  obtain⟨mv,hs⟩:=j4y (enc:=eVal) (sz:=1) (w:=w) (a:=a) (len:=len) (by decide) j2t (fun i hi'=>by
   obtain⟨v,hv,-⟩:=a0 i hi';refine⟨v,fun j u hu=>?_⟩
   have hj:j<1:=by have:=(List.getElem?_eq_some_iff.1 hu).1;rwa [j2t] at this
   obtain rfl:j=0:=by omega
   cases hu;exact hv)
  have hall:∀ v∈mv,∃ l:List Int,∃ B c,v=.slice B l.length c∧Ints w B l.length l∧l.length<=c∧c<=maxLen∧(B=none->c=0):=fun v hv=>by
   obtain⟨i,a5,e⟩:=List.mem_iff_getElem.1 hv;have a4:i<len:=by rw[<-hs.len];exact a5
   obtain⟨b',o',y,hA,ae,hy,aa⟩:=Vals.get hs a4;rw[zB5 a5,e] at hy;cases hy;obtain⟨v',a1,a7⟩:=a0 i a4;cases hA;rw[Go.WideShapes.add_plain] at a1;rw[show o'+(i*1+0)=o'+i by omega,aa] at a1
   cases a1;exact a7
  obtain⟨ls,h1,h2⟩:=k9u hall;have hn:mv.length=len:=hs.len;refine⟨some a,len,cap,ls,hcs,⟨mv,hs,h1,fun i v hv=>?_⟩,hl,hm,fun h=>by cases h⟩
  obtain⟨l,ad,B,c,a9⟩:=h2 i v hv;exact⟨B,l,c,ad,a9⟩
theorem q5q {a0:Nat} {cs:List Value} {x:DataW H × List MemPlace} (h:DataW.trod enc Tryz.prog w base spare held a0 29 cs=some x) :
 ∃ b:Hb,cs=[.int .i64 b.t,b.vm,b.vk,b.vh,b.vd]∧HbIn w b∧HbZ w b:=by
 obtain⟨y0,y1,y2,y3,n,hl,h0,h1,h2,h3⟩:=q1k Tryz.underlying29 h;rw[q4a] at hl;obtain⟨c0,c1,c2,c3,c4,rfl⟩:=list5 hl;rw[k8m] at h0;rw[k8n] at h1;rw[cellsSlG] at h2;rw[cellsSlD] at h3;obtain⟨t,A,nm,c,l,e0,m1,m2,m3,m4⟩:=open_reg h0;obtain⟨Ak,nk,ck,ks,e1,k1,k2,k3,k4⟩:=k4y h1;obtain⟨Ah,nh,ch,hs,e2,g1,g2,g3,g4⟩:=q5p h2;obtain⟨Ad,nd,cd,ds,e3,d1,d2,d3,d4⟩:=q3f h3;simp at e0 e1 e2 e3;obtain⟨e0,e4⟩:=e0;have l1:=m1.len;have l2:=k1.len;have l3:=g1.grid.len;have l4:=d1.len;subst e0 e1 e2 e3 e4 l1 l2 l3 l4;exact⟨⟨t,A,c,l,Ak,ck,ks,Ah,ch,hs,Ad,cd,ds⟩,rfl,⟨m1,m2,m3,k1,k2,k3,g1.grid,g2,g3,d1,d2,d3⟩,⟨m4,k4,g1,d4⟩⟩
theorem open_herdV {r:Reach} {b0:Nat} {v:Value} {d:DataW H} {p:List MemPlace} (hv:Value.okWide Tryz.prog w r b0 29 v) (h:DataW.Trod enc Tryz.prog w base spare held 29 v d p) :
 ∃ b:Hb,v=b.v∧HbIn w b∧HbZ w b:=by
 obtain⟨cs,rfl,_⟩:=okWide_struct Tryz.underlying29 hv;obtain⟨f,hf⟩:=h;obtain⟨b,e,h2⟩:=q5q hf;obtain⟨cs⟩:=cs;have e':cs=[.int .i64 b.t,b.vm,b.vk,b.vh,b.vd]:=(k6f cs).symm.trans e;subst e';exact⟨b,rfl,h2⟩
theorem open_deedV {r:Reach} {b0:Nat} {v:Value} {d:DataW H} {p:List MemPlace} (hv:Value.okWide Tryz.prog w r b0 33 v) (h:DataW.Trod enc Tryz.prog w base spare held 33 v d p) :
 ∃ x:De,v=dv x:=by
 obtain⟨cs,rfl,_⟩:=okWide_struct Tryz.underlying33 hv;obtain⟨f,hf⟩:=h;obtain⟨s,e⟩:=k7l hf;obtain⟨cs⟩:=cs;have e':cs=eDe s:=(k6f cs).symm.trans e;subst e';exact⟨s,rfl⟩
end
end Go.Proofs.YtmennjmjakdkcaaGreat
