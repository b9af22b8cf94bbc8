/- HerdParts. -/
import Derived.Test.YtmennjmjakdkcaaGreatPt05
import Derived.Test.YtmennjmjakdkcaaGreatPt02
import Derived.Deep.WholeRow
import Derived.RangeFuncKeeps
set_option linter.unusedVariables false
set_option linter.unusedSimpArgs false
set_option maxRecDepth 100000
set_option maxHeartbeats 2000000
namespace Go.Proofs.YtmennjmjakdkcaaGreat
open Go.RowKit
structure Rg where
 t:Int
 A:Option Addr
 n:Nat
 c:Nat
 l:List Mk
structure RgOk (w:World) (g:Rg):Prop where
 m:Marks w g.A g.n g.l
 nc:g.n<=g.c
 cm:g.c<=maxLen
 z:g.A=none->g.c=0
 s:g.n<=4294967295
theorem Hd.drew {w:World} {H N:Nat} (h:Hd w H N):Hd w.drew H N:=h
theorem hb_drew {w:World} {b:Nat} {o:Obj} (h:w.heap[b]?=some o):w.drew.heap[b]?=some o:=h
theorem k5r (w:World) (row:Option Nat):w.grownBy w.drew row:=⟨rfl,rfl,rfl,zL9 _,fun _ _ _=>rfl⟩
theorem k8u {α:Type} {enc:α->List Value} {sz:Nat} (a0:∀ x,(enc x).length=sz):∀ (l:List α) (i j:Nat) (x:α) (u:Value),l[i]?=some x->(enc x)[j]?=some u->(l.flatMap enc)[i*sz+j]?=some u
 | [],i,j,x,u,hx,hu=>by simp at hx
 | y::r,i,j,x,u,hx,hu=>by
   have hj:j<sz:=by have:=a0 x;have:=(List.getElem?_eq_some_iff.1 hu).1;omega
   rw[List.flatMap_cons];cases i with
   | zero =>
     simp at hx;subst hx;rw[List.getElem?_append_left (by rw[a0];omega)]
     simpa using hu
   | succ i =>
     rw[List.getElem?_append_right (by rw[a0,Nat.succ_mul];omega),a0]
     have:=k8u a0 r i j x u (by simpa using hx) hu
     rw[show(i+1)*sz+j-sz=i*sz+j by rw[Nat.succ_mul];omega]
     exact this
theorem Sl.of_blk {α:Type} {enc:α->List Value} {sz:Nat} {w:World} {b:Nat} {cs:Array Value} {t:TypeId} {l:List α} (h:w.heap[b]?=some (.cells cs t (0,0))) (hcs:cs.toList=l.flatMap enc) (a0:∀ x,(enc x).length=sz):Sl enc sz w (some ⟨b,0,none⟩) l.length l:=by
 refine⟨rfl,fun _=>⟨b,0,rfl,?_⟩⟩
 intro i x hx j u hu;have hc:w.cell? ⟨b,0+i*sz+j,none⟩=cs[0+i*sz+j]?:=by unfold World.cell?;simp[h]
 rw[hc,<-Array.getElem?_toList,hcs,Nat.zero_add];exact k8u a0 l i j x u hx hu
def EqF (c:Value):VF:=fun v _=>v=c
theorem EqF.st {T:Nat->World->World->Prop} {c:Value}:∀ (m:Nat) v w w',T m w w'->EqF c v w->EqF c v w':=fun _ _ _ _ _ h=>h
theorem j0g {w:World} {k i:Nat} {t:TypeId} {cs:Array Value} {x:Nat × Nat} {v:Value} (h:w.heap[k]?=some (.cells cs t x)):(w.setCell ⟨k,i,none⟩ v).heap[k]?=some (.cells (cs.setIfInBounds i v) t x):=by
 simp[World.setCell,Array.getElem?_modify,h]
end Go.Proofs.YtmennjmjakdkcaaGreat
namespace Go.Proofs.YtmennjmjakdkcaaGreat
open Go.RowKit Go.MapKept
def hcs (h:List Int):Array Value:=(h.map (Value.int .i64)).toArray
theorem hv_cs (h:List Int):hv h=.agg (hcs h):=rfl
abbrev hObj (h:List Int):Obj:=.cells (hcs h) 133 (0,0)
theorem j2q (h:List Int):(hcs h).size=h.length:=by simp[hcs]
theorem hcs_at {h:List Int} {i:Nat} (hi:i<h.length):(hcs h)[i]?=some (.int .i64 (h.getD i 0)):=by
 unfold hcs;rw[List.getElem?_toArray,List.getElem?_map,zB5 hi,zB3,zB5 hi];rfl
theorem q1x (h:List Int):(hcs h).all (·.oneCell')=true:=by
 rw[Array.all_eq_true_iff_forall_mem];intro x hx;unfold hcs at hx;simp at hx;obtain⟨a,_,rfl⟩:=hx;rfl
theorem k9c:(Tryz.prog.info? 133).map (·.size)=some 15:=by kernel_rfl
theorem blkH {w:World} {b:Nat} {h:List Int} (hb:w.heap[b]?=some (hObj h)) {i:Nat} (hi:i<h.length):w.cell? ⟨b,i,none⟩=some (.int .i64 (h.getD i 0)):=by
 rw[cell_of_row w b i (hcs h) _ _ hb];exact hcs_at hi
theorem j7s {y:List Int} (hl:y.length=15):∃ a0 a1 a2 a3 a4 a5 a6 a7 a8 a9 a10 a11 a12 a13 a14:Int,#[Value.int .i64 a0,Value.int .i64 a1,Value.int .i64 a2,Value.int .i64 a3,Value.int .i64 a4,Value.int .i64 a5,Value.int .i64 a6,Value.int .i64 a7,Value.int .i64 a8,Value.int .i64 a9,Value.int .i64 a10,Value.int .i64 a11,Value.int .i64 a12,Value.int .i64 a13,Value.int .i64 a14]=hcs y∧∀ (w:World) (b:Nat),w.heap[b]?=some (hObj y)->w.cell? ⟨b,0,none⟩=some (.int .i64 a0)∧w.cell? ⟨b,1,none⟩=some (.int .i64 a1)∧w.cell? ⟨b,2,none⟩=some (.int .i64 a2)∧w.cell? ⟨b,3,none⟩=some (.int .i64 a3)∧w.cell? ⟨b,4,none⟩=some (.int .i64 a4)∧w.cell? ⟨b,5,none⟩=some (.int .i64 a5)∧w.cell? ⟨b,6,none⟩=some (.int .i64 a6)∧w.cell? ⟨b,7,none⟩=some (.int .i64 a7)∧w.cell? ⟨b,8,none⟩=some (.int .i64 a8)∧w.cell? ⟨b,9,none⟩=some (.int .i64 a9)∧w.cell? ⟨b,10,none⟩=some (.int .i64 a10)∧w.cell? ⟨b,11,none⟩=some (.int .i64 a11)∧w.cell? ⟨b,12,none⟩=some (.int .i64 a12)∧w.cell? ⟨b,13,none⟩=some (.int .i64 a13)∧w.cell? ⟨b,14,none⟩=some (.int .i64 a14):=by
 obtain⟨a,b,c,d,e,f,g,i,j,k,m,n,o,p,q,rfl⟩:=k5s hl;refine⟨a,b,c,d,e,f,g,i,j,k,m,n,o,p,q,rfl,fun w b hb=>⟨blkH hb (by simp),blkH hb (by simp),blkH hb (by simp),blkH hb (by simp),blkH hb (by simp),blkH hb (by simp),blkH hb (by simp),blkH hb (by simp),blkH hb (by simp),blkH hb (by simp),blkH hb (by simp),blkH hb (by simp),blkH hb (by simp),blkH hb (by simp),blkH hb (by simp)⟩⟩
def k2i (b:Nat):Nat->List Value->World->World
 | _,[],w=>w
 | i,v::l,w=>k2i b (i+1) l (w.setCell ⟨b,i,none⟩ v)
def k2h:Nat->List Value->Array Value->Array Value
 | _,[],cs=>cs
 | i,v::l,cs=>k2h (i+1) l (cs.setIfInBounds i v)
theorem k5h {b:Nat} {t:TypeId} {x:Nat × Nat}:∀ (l:List Value) (i:Nat) (w:World) (cs:Array Value),w.heap[b]?=some (.cells cs t x)->(k2i b i l w).heap[b]?=some (.cells (k2h i l cs) t x)
 | [],_,_,_,h=>h
 | v::l,i,w,cs,h=>k5h l (i+1) _ _ (j0g h)
theorem k3c {B b:Nat} {w:World} (hb:B<=b):∀ (l:List Value) (i:Nat) (w':World),Below B w w'->Below B w (k2i b i l w')
 | [],_,_,h=>h
 | v::l,i,w',h=>k3c hb l (i+1) _ (h.setCell (p:=⟨b,i,none⟩) hb _)
def q0c:Nat->List Value->List Value->List Value
 | _,[],cs=>cs
 | i,v::l,cs=>q0c (i+1) l (cs.set i v)
theorem k5g:∀ (l:List Value) (i:Nat) (cs:Array Value),(k2h i l cs).toList=q0c i l cs.toList
 | [],_,_=>rfl
 | v::l,i,cs=>by unfold k2h q0c;rw[k5g l,Array.toList_setIfInBounds]
theorem setsA15 (a0 a1 a2 a3 a4 a5 a6 a7 a8 a9 ae ad af aa ac:Int) {x:List Int} (hx:x.length=15):k2h 0 [Value.int .i64 a0,Value.int .i64 a1,Value.int .i64 a2,Value.int .i64 a3,Value.int .i64 a4,Value.int .i64 a5,Value.int .i64 a6,Value.int .i64 a7,Value.int .i64 a8,Value.int .i64 a9,Value.int .i64 ae,Value.int .i64 ad,Value.int .i64 af,Value.int .i64 aa,Value.int .i64 ac] (hcs x)=#[Value.int .i64 a0,Value.int .i64 a1,Value.int .i64 a2,Value.int .i64 a3,Value.int .i64 a4,Value.int .i64 a5,Value.int .i64 a6,Value.int .i64 a7,Value.int .i64 a8,Value.int .i64 a9,Value.int .i64 ae,Value.int .i64 ad,Value.int .i64 af,Value.int .i64 aa,Value.int .i64 ac]:=by
 obtain⟨a,b',c,d,e,f,g,i,j,k,m,n,o,p,q,rfl⟩:=k5s hx;apply Array.ext';rw[k5g];rfl
theorem q1p {w:World} {b:Nat} (a0 a1 a2 a3 a4 a5 a6 a7 a8 a9 ae ad af aa ac:Int) {y:List Int} (hy:#[Value.int .i64 a0,Value.int .i64 a1,Value.int .i64 a2,Value.int .i64 a3,Value.int .i64 a4,Value.int .i64 a5,Value.int .i64 a6,Value.int .i64 a7,Value.int .i64 a8,Value.int .i64 a9,Value.int .i64 ae,Value.int .i64 ad,Value.int .i64 af,Value.int .i64 aa,Value.int .i64 ac]=hcs y) (hb:w.heap[b]?=some (hObj (List.replicate 15 0))):(k2i b 0 [Value.int .i64 a0,Value.int .i64 a1,Value.int .i64 a2,Value.int .i64 a3,Value.int .i64 a4,Value.int .i64 a5,Value.int .i64 a6,Value.int .i64 a7,Value.int .i64 a8,Value.int .i64 a9,Value.int .i64 ae,Value.int .i64 ad,Value.int .i64 af,Value.int .i64 aa,Value.int .i64 ac] w).heap[b]?=some (hObj y):=by
 have h:=k5h [Value.int .i64 a0,Value.int .i64 a1,Value.int .i64 a2,Value.int .i64 a3,Value.int .i64 a4,Value.int .i64 a5,Value.int .i64 a6,Value.int .i64 a7,Value.int .i64 a8,Value.int .i64 a9,Value.int .i64 ae,Value.int .i64 ad,Value.int .i64 af,Value.int .i64 aa,Value.int .i64 ac] 0 w _ hb;have e:k2h 0 [Value.int .i64 a0,Value.int .i64 a1,Value.int .i64 a2,Value.int .i64 a3,Value.int .i64 a4,Value.int .i64 a5,Value.int .i64 a6,Value.int .i64 a7,Value.int .i64 a8,Value.int .i64 a9,Value.int .i64 ae,Value.int .i64 ad,Value.int .i64 af,Value.int .i64 aa,Value.int .i64 ac] (hcs (List.replicate 15 0))=hcs y:=(setsA15 a0 a1 a2 a3 a4 a5 a6 a7 a8 a9 ae ad af aa ac (x:=List.replicate 15 0) List.length_replicate).trans hy;rw[e] at h;exact h
theorem q5o (h:List Int) (f o:Nat) (k:Int) (w:World) (hl:h.length=15) (hf:f<3) (ho:o<5) (hg:-1000000<=hget h f o∧hget h f o<=1000000) (hk:-1000000<=k∧k<=1000000) :
 Calls Tryz.prog 150 #[hv h,.int .i64 f,.int .i64 o,.int .i64 k] w fun e w'=>e=.returned (.tuple #[hv (hadd h f o k),.bool (decide (0<=hget h f o+k))])∧Below w.heap.size w w':=by
 rw[hv_cs];go_enter Tryz.func150,Tryz.ntmps150
 go_upto_region 1 with (fail)
 obtain⟨W,hW⟩:∃ W,W=(w.alloc (Obj.cells (hcs h) 133)).alloc (Obj.cells #[.int .i64 0,.int .i64 0,.int .i64 0,.int .i64 0,.int .i64 0,.int .i64 0,.int .i64 0,.int .i64 0,.int .i64 0,.int .i64 0,.int .i64 0,.int .i64 0,.int .i64 0,.int .i64 0,.int .i64 0] 133):=⟨_,rfl⟩;have b0:W.heap[w.heap.size]?=some (hObj h):=by rw[hW];exact j0b (j0c rfl) _
 have b1:W.heap[w.heap.size+1]?=some (hObj (List.replicate 15 0)):=by rw[hW];exact j0c (by simp)
 have ax:Below w.heap.size w W:=by rw[hW];exact bal (bal0 w _) (zL9 _) _
 rw[<-hW];clear hW;obtain⟨r,hr⟩:∃ r,r=w.heap.size:=⟨_,rfl⟩;have HR:=zQ9 (zA9 hr ax);rw[<-hr] at b0 b1 ⊢;clear hr ax;obtain⟨x,hx⟩:∃ x,x=hget h f o:=⟨_,rfl⟩;rw[<-hx] at hg;have c0:W.cell? ⟨r,f*5+o,none⟩=some (.int .i64 x):=by rw[hx,Nat.mul_comm f 5];exact blkH b0 (by omega)
 have HX:=zQ9 hx;clear hx;have i0:(0:Int)<=(f:Int):=by omega
 have i1:(f:Int)<3:=by omega
 have i2:(0:Int)<=(o:Int):=by omega
 have i3:(o:Int)<5:=by omega
 have fz:=fun i=>frz b0 i
 go_region
 obtain⟨W1,ae⟩:∃ W1,W1=(W.setCell ⟨r,f*5+o,none⟩ (.int .i64 (x+k))).drew:=⟨_,rfl⟩;have d0:W1.heap[r]?=some (hObj (hadd h f o k)):=by
  rw[ae];have h1:=j0g (i:=f*5+o) (v:=.int .i64 (x+k)) b0;have e:(hcs h).setIfInBounds (f*5+o) (.int .i64 (x+k))=hcs (hadd h f o k):=by
   unfold hcs hadd;rw[List.map_set,HX.o,Nat.mul_comm f 5];simp
  rw[e] at h1;exact h1
 have d1:W1.heap[r+1]?=some (hObj (List.replicate 15 0)):=by rw[ae];exact(zB1 _ ⟨r,_,none⟩ _ _ (by dsimp;omega)).trans b1
 have ad:Below r w W1:=by rw[ae];exact j0w (Below.setCell (by rw[HR.o.1];exact HR.o.2) (p:=⟨r,f*5+o,none⟩) (zL9 _) _)
 have aE:=zQ9 ad;rw[<-ae];clear ae ad b0 b1 c0 fz;have ay:(hadd h f o k).length=15:=by unfold hadd;rw[List.length_set];exact hl
 obtain⟨y,hy⟩:∃ y,y=hadd h f o k:=⟨_,rfl⟩;have HY:=zQ9 hy;rw[<-hy] at d0 ay;have c1:W1.cell? ⟨r,f*5+o,none⟩=some (.int .i64 (x+k)):=by
  have e:y.getD (5*f+o) 0=x+k:=by rw[hy,HX.o];exact(j0m hl hf ho ho).trans (if_pos ⟨rfl,rfl⟩)
  rw[<-e,Nat.mul_comm f 5];exact blkH d0 (by omega)
 clear hy;obtain⟨a0,a1,a2,a3,a4,a5,a6,a7,a8,a9,aj,ao,ah,an,ag,ac,aa⟩:=j7s ay;have ar:=zQ9 (zA9 ac aa);obtain⟨y0,y1,y2,y3,y4,y5,y6,y7,y8,y9,ai,aq,ak,af,am⟩:=aa _ _ d0;clear aa ac;have aH:∀ n,(W1.drewN n).heap[r+1]?=some (hObj (List.replicate 15 0)):=fun n=>d1
 go_upto_region 2 with (fail)
 have fz:=fun i=>frz d1 i
 have b3:=j0a d1;have z:∀ i,i<15->W1.cell? ⟨r+1,i,none⟩=some (.int .i64 0):=fun i hi=>by
  rw[blkH d1 (by simpa using hi),zB3,List.getElem?_replicate,if_pos hi];rfl
 obtain⟨z0,z1,z2,z3,z4⟩:=zA9 (z 0 (by decide)) (zA9 (z 1 (by decide)) (zA9 (z 2 (by decide)) (zA9 (z 3 (by decide)) (z 4 (by decide)))))
 obtain⟨z5,z6,z7,z8,z9⟩:=zA9 (z 5 (by decide)) (zA9 (z 6 (by decide)) (zA9 (z 7 (by decide)) (zA9 (z 8 (by decide)) (z 9 (by decide)))))
 obtain⟨aD,aA,aB,aF,aG⟩:=zA9 (z 10 (by decide)) (zA9 (z 11 (by decide)) (zA9 (z 12 (by decide)) (zA9 (z 13 (by decide)) (z 14 (by decide)))))
 clear z;go_region
 have aw:=q1p a0 a1 a2 a3 a4 a5 a6 a7 a8 a9 aj ao ah an ag ar.o.1 d1;have az:=j0w (k3c (show r<=r+1 by omega) [Value.int .i64 a0,Value.int .i64 a1,Value.int .i64 a2,Value.int .i64 a3,Value.int .i64 a4,Value.int .i64 a5,Value.int .i64 a6,Value.int .i64 a7,Value.int .i64 a8,Value.int .i64 a9,Value.int .i64 aj,Value.int .i64 ao,Value.int .i64 ah,Value.int .i64 an,Value.int .i64 ag] 0 _ aE.o)
 clear y0 z0 y1 z1 y2 z2 y3 z3 y4 z4 y5 z5 y6 z6 y7 z7 y8 z8 y9 z9 ai aD aq aA ak aB af aF am aG fz d0 d1 aH c1;have av:=zQ9 (zA9 aw az);obtain⟨Z,hZ⟩:∃ Z,Z=(k2i (r+1) 0 [Value.int .i64 a0,Value.int .i64 a1,Value.int .i64 a2,Value.int .i64 a3,Value.int .i64 a4,Value.int .i64 a5,Value.int .i64 a6,Value.int .i64 a7,Value.int .i64 a8,Value.int .i64 a9,Value.int .i64 aj,Value.int .i64 ao,Value.int .i64 ah,Value.int .i64 an,Value.int .i64 ag] W1).drew:=⟨_,rfl⟩;have HZ:=zQ9 hZ;simp only[k2i,Nat.reduceAdd] at hZ;rw[<-hZ];clear hZ aw az;have e1:Z.heap[r+1]?=some (hObj y):=by rw[HZ.o];exact hb_drew av.o.1
 have aC:=zQ9 (show Below r w Z by rw[HZ.o];exact av.o.2)
 clear HZ av;go_wp2
 have ac:=ar.o.1;obtain⟨y0,y1,y2,y3,y4,y5,y6,y7,y8,y9,ai,aq,ak,af,am⟩:=ar.o.2 _ _ e1;refine bodyPost_ret (v:=.tuple #[.agg (hcs y),.bool (decide (0<=x+k))]) (by simp[results,Tryz.f150,go_sem,<-ac,y0,y1,y2,y3,y4,y5,y6,y7,y8,y9,ai,aq,ak,af,am]) rfl ?_
 exact⟨by rw[HY.o,hv_cs,HX.o],by rw[<-HR.o.1];exact aC.o⟩
structure PutsH (w w':World) (M:Nat) (L:List (List Int)):Prop where
 gr:w.grownBy w' (some M)
 met:∀ K,MetH w M K->∃ K',MetH w' M K'∧∀ q,q∈K'↔q∈K∨q∈L
theorem PutsH.refl (w:World) (M:Nat):PutsH w w M []:=⟨World.grownBy.refl w _,fun K h=>⟨K,h,fun q=>by simp⟩⟩
theorem PutsH.trans {a b c:World} {M:Nat} {L L':List (List Int)} (h:PutsH a b M L) (k:PutsH b c M L'):PutsH a c M (L++L') :=
 ⟨h.gr.trans k.gr,fun K hK=>by
  obtain⟨K1,h1,h2⟩:=h.met K hK;obtain⟨K2,h3,h4⟩:=k.met K1 h1;exact⟨K2,h3,fun q=>by rw[h4,h2,List.mem_append,or_assoc]⟩⟩
theorem PutsH.quiet {a b c:World} {M:Nat} {L:List (List Int)} (h:PutsH a b M L) (hM:M<a.heap.size) (hs:a.heap.size<=c.heap.size) (ho:c.os=b.os) (ht:c.tape=b.tape) (hu:c.output=b.output)
 (hk:∀ k,k<a.heap.size->c.heap[k]?=b.heap[k]?):PutsH a c M L :=
 ⟨⟨ho.trans h.gr.os,ht.trans h.gr.tape,hu.trans h.gr.output,hs,fun k hlt hne=>(hk k hlt).trans (h.gr.block k hlt hne)⟩,fun K hK=>by
  obtain⟨K1,h1,h2⟩:=h.met K hK;exact⟨K1,h1.keep (hk M hM),h2⟩⟩
theorem PutsH.size {a b:World} {M:Nat} {L:List (List Int)} (h:PutsH a b M L):a.heap.size<=b.heap.size:=h.gr.size
theorem PutsH.below {a b c:World} {M B:Nat} {L:List (List Int)} (h:PutsH a b M L) (hM:M<a.heap.size) (hb:Below B b c) (hB:a.heap.size<=B):PutsH a c M L :=
 h.quiet hM (zB6 h.size hb.size) hb.os hb.tape hb.output (fun k hk=>hb.block k (by omega))
theorem PutsH.grown {a b c:World} {M g:Nat} {L:List (List Int)} (h:PutsH a b M L) (hM:M<a.heap.size) (hb:b.grownBy c (some g)) (hg:a.heap.size<=g):PutsH a c M L :=
 h.quiet hM (zB6 h.size hb.size) hb.os hb.tape hb.output (fun k hk=>hb.block k (by have:=h.size;omega) (fun e=>by cases e;omega))
theorem PutsH.blk {a b:World} {M k:Nat} {L:List (List Int)} {o:Obj} (h:PutsH a b M L) (hk:a.heap[k]?=some o) (a0:k≠M):b.heap[k]?=some o:=(h.gr.block k (j0a hk) (fun e=>a0 (by cases e;rfl))).trans hk
theorem k4r:∀ {K K0:List (List Int)},K.map hv=K0.map hv->K=K0
 | [],[],_=>rfl
 | [],_::_,h=>by simp at h
 | _::_,[],h=>by simp at h
 | x::K,y::K0,h=>by
   simp only[List.map_cons,List.cons.injEq] at h;rw[k9b h.1,k4r h.2]
theorem MetH.uniq {w:World} {M:Nat} {K K0:List (List Int)} (h:MetH w M K) (h0:MetH w M K0):K=K0:=by
 obtain⟨es,c,h1,h2,h3,h4⟩:=h;obtain⟨a2,c',a0,a3,a1,a4⟩:=h0;rw[h1] at a0;cases a0;exact k4r ((k2f h3).symm.trans (k2f a1))
theorem MetH.ne {w:World} {M k:Nat} {K:List (List Int)} {cs:Array Value} {t:TypeId} {x:Nat × Nat} (h:MetH w M K) (hk:w.heap[k]?=some (.cells cs t x)):k≠M:=by
 obtain⟨es,c,h1,_⟩:=h;intro e;rw[e,h1] at hk;cases hk
theorem MetH.ne' {w:World} {M:Nat} {a:Addr} {v:Value} {K:List (List Int)} (h:MetH w M K) (hk:w.cell? a=some v):a.block≠M:=by
 obtain⟨es,c,h1,_⟩:=h;intro e;unfold World.cell? at hk;rw[e,h1] at hk;cases hk
theorem PutsH.cell {a b:World} {M:Nat} {L K:List (List Int)} {p:Addr} {v:Value} (h:PutsH a b M L) (hm:MetH a M K) (hk:a.cell? p=some v):b.cell? p=some v:=by
 have a0:=hm.ne' hk;unfold World.cell? at hk ⊢;rw[h.gr.block p.block (by
  rcases Nat.lt_or_ge p.block a.heap.size with h'|h'
  ·exact h'
  ·rw[Array.getElem?_eq_none h'] at hk;cases hk) (fun e=>a0 (by cases e;rfl))]
 exact hk
theorem PutsH.sl {α:Type} {enc:α->List Value} {sz n:Nat} {A:Option Addr} {l:List α} {a b:World} {M:Nat} {L K:List (List Int)} (h:PutsH a b M L) (hm:MetH a M K) (hs:Sl enc sz a A n l):Sl enc sz b A n l :=
 hs.keep fun p u hu=>h.cell hm hu
theorem j1a {ops:Array Oper} {rest:List Oper} {o:Oper} {a:Act} {w:World} {Q:Exit->Act->World->Prop} {b:Nat} {h:List Int} (hb:w.heap[b]?=some (hObj h)) (hl:h.length=15)
 (hg:o.guard=none) (x:Operand) (ho:o.op=.load 133 x) (hx:a.eval x=.pointer (some ⟨b,0,none⟩))
 (hK:wpList Tryz.prog ops Q rest (a.put o.dst (.agg (hcs h))) w):wpList Tryz.prog ops Q (o::rest) a w :=
 wpList_load_row hg 133 x ho b hx _ (hcs h) _ _ hb Tryz.underlying133 rfl (by rw[k9c,j2q,hl]) hK
theorem j2a {ops:Array Oper} {rest:List Oper} {o:Oper} {a:Act} {w:World} {Q:Exit->Act->World->Prop} {b:Nat} {h:List Int} {old:Array Value} (hb:w.heap[b]?=some (.cells old 133 (0,0))) (a0:old.size=15) (hl:h.length=15)
 (hg:o.guard=none) (x y:Operand) (ho:o.op=.store 133 x y) (hx:a.eval x=.pointer (some ⟨b,0,none⟩)) (hy:a.eval y=.agg (hcs h))
 (hK:∀ w2,w2.heap[b]?=some (hObj h)->w.grownBy w2 (some b)->w2.heap.size=w.heap.size->wpList Tryz.prog ops Q rest (a.put o.dst undef) w2):wpList Tryz.prog ops Q (o::rest) a w:=by
 refine wpList_store_row hg 133 x y ho b (hcs h) hx hy _ old hb (by rw[k9c,j2q,hl]) (by rw[a0,j2q,hl]) (q1x h) (hK _ (setRow_heap _ _ _ _ _ _ hb) ⟨rfl,rfl,rfl,by simp[World.setRow],fun k hk hne=>?_⟩ (by simp[World.setRow]))
 unfold World.setRow;rw[Array.getElem?_modify,if_neg (fun e=>hne (by rw[e]))]
def dv (d:De):Value:=.agg #[.int .i64 d.kind,.int .i64 d.flock,.int .i64 d.owner,.int .i64 d.other,.int .i64 d.tof,.int .i64 d.many,.int .i64 d.err,.int .i64 d.s.n,.bool d.s.l,.bool d.s.r,.int .i64 d.s.b,.int .i64 d.s.p]
abbrev dObj (d:De):Obj:=.cells #[.int .i64 d.kind,.int .i64 d.flock,.int .i64 d.owner,.int .i64 d.other,.int .i64 d.tof,.int .i64 d.many,.int .i64 d.err,.int .i64 d.s.n,.bool d.s.l,.bool d.s.r,.int .i64 d.s.b,.int .i64 d.s.p] 33 (0,0)
theorem blkD {w:World} {b:Nat} {d:De} (h:w.heap[b]?=some (dObj d)):w.cell? ⟨b,0,none⟩=some (.int .i64 d.kind)∧w.cell? ⟨b,1,none⟩=some (.int .i64 d.flock)∧w.cell? ⟨b,2,none⟩=some (.int .i64 d.owner)∧w.cell? ⟨b,3,none⟩=some (.int .i64 d.other) ∧
 w.cell? ⟨b,4,none⟩=some (.int .i64 d.tof)∧w.cell? ⟨b,5,none⟩=some (.int .i64 d.many)∧w.cell? ⟨b,6,none⟩=some (.int .i64 d.err)∧w.cell? ⟨b,7,none⟩=some (.int .i64 d.s.n)∧w.cell? ⟨b,8,none⟩=some (.bool d.s.l) ∧
 w.cell? ⟨b,9,none⟩=some (.bool d.s.r)∧w.cell? ⟨b,10,none⟩=some (.int .i64 d.s.b)∧w.cell? ⟨b,11,none⟩=some (.int .i64 d.s.p):=by simp[World.cell?,h]
theorem then_any (x:List Int) (hx:HOk x) (B M:Nat) (K:List (List Int)) (w:World) (hb:w.heap[B]?=some (.cells #[.map (some M)] 166 (0,0))) (hm:MetH w M K) :
 Calls Tryz.prog 117 #[.agg (hcs x),.pointer (some ⟨B,0,none⟩)] w fun e w'=>e=.returned (.tuple #[])∧PutsH w w' M [x]:=by
 have hB:=j0a hb;have hM:=hm.lt;have hl:=hx.1;go_enter Tryz.func117,Tryz.ntmps117
 go_upto_region 1 with (fail)
 have b0:(w.alloc (Obj.cells (hcs x) 133)).heap[w.heap.size]?=some (hObj x):=j0c rfl;have a0:MetH (w.alloc (Obj.cells (hcs x) 133)) M K:=hm.keep (Below.heap_alloc _ _ _ hM);have b1:=blk1 (j0b hb (Obj.cells (hcs x) 133));go_wp2_with (first
  | ((with_reducible apply j1a b0 hl);(rfl);(rfl);(rfl))
  | (at_mapUpdate;refine wp_putH rfl _ _ _ rfl M K x hx rfl rfl rfl a0 ?_;intro ob K' a1 h1 h2))
 go_end0
 refine⟨rfl,⟨rfl,rfl,rfl,by simp,fun k hk hne=>?_⟩,fun K0 hK0=>?_⟩
 ·show((w.alloc (Obj.cells (hcs x) 133)).heap.setIfInBounds M ob)[k]?=w.heap[k]?;rw[Array.getElem?_setIfInBounds_ne (fun e=>hne (by rw[e]))]
  exact Below.heap_alloc _ _ _ hk
 ·obtain rfl:=hm.uniq hK0;exact⟨K',h1 _ (by show((w.alloc (Obj.cells (hcs x) 133)).heap.setIfInBounds M ob)[M]?=_;rw[Array.getElem?_setIfInBounds_self_of_lt a1]),fun q=>by rw[h2];simp⟩
theorem j6h {h x:List Int} {f o:Nat} {k:Int} {b:Bool} (w:World) (hx:x=hadd h f o k) (hb:b=decide (0<=hget h f o+k)) (hl:h.length=15) (hf:f<3) (ho:o<5) (hg:-1000000<=hget h f o∧hget h f o<=1000000) (hk:-1000000<=k∧k<=1000000) :
 Calls Tryz.prog 150 #[.agg (hcs h),.int .i64 f,.int .i64 o,.int .i64 k] w fun e w'=>e=.returned (.tuple #[.agg (hcs x),.bool b])∧Below w.heap.size w w':=by
 rw[hx,hb];exact q5o h f o k w hl hf ho hg hk
theorem hadd_len {h:List Int} {f o:Nat} {k:Int} (hl:h.length=15):(hadd h f o k).length=15:=by unfold hadd;rw[List.length_set];exact hl
theorem HOk.of {B:Int} {h:List Int} (hh:HBd B h) (hB:B<=1000000):HOk h:=hh.ok (by omega)
theorem j4q {B:Int} {h:List Int} {f o:Nat} {k:Int} (hh:HBd B h) (hB:B<=1000000) (hf:f<3) (ho:o<5) (hk:-1000000<=k∧k<=1000000):HOk (hadd h f o k):=by
 have hg:=hh.get hf ho;refine⟨hadd_len hh.1,fun x hx=>?_⟩
 unfold hadd at hx;rcases List.mem_or_eq_of_mem_set hx with hx|rfl
 ·have:=hh.2 x hx;omega
 ·omega
theorem j6z {a w:World} {M B:Nat} {L K:List (List Int)} {x:List Int} (hP:PutsH a w M L) (hb:a.heap[B]?=some (.cells #[.map (some M)] 166 (0,0))) (hm:MetH a M K) (hx:HOk x) :
 Calls Tryz.prog 117 #[.agg (hcs x),.pointer (some ⟨B,0,none⟩)] w fun e w'=>e=.returned (.tuple #[])∧PutsH a w' M (L++[x]):=by
 obtain⟨K1,h1,h2⟩:=hP.met K hm;exact(then_any x hx B M K1 w (hP.blk hb (hm.ne hb)) h1).mono fun e w' ⟨he,h⟩=>⟨he,hP.trans h⟩
theorem gblk {w w':World} {b k:Nat} {o:Obj} (g:w.grownBy w' (some b)) (h:w.heap[k]?=some o) (a0:k≠b):w'.heap[k]?=some o:=(g.block k (j0a h) (fun e=>a0 (by cases e;rfl))).trans h
structure Ask (n nf:Nat) (B M:Nat) (K:List (List Int)) (h:List Int) (d:De) (w:World):Prop where
 hb:w.heap[B]?=some (.cells #[.map (some M)] 166 (0,0))
 hm:MetH w M K
 hh:HBd 1000 h
 hd:DeIn n nf d
 hnf:nf<=3
theorem born_any (p:Value) (h:List Int) (d:De) (n nf:Nat) (B M:Nat) (K:List (List Int)) (w:World) (hA:Ask n nf B M K h d w) (hk:d.kind=1) :
 Calls Tryz.prog 133 #[p,.agg (hcs h),dv d,.func (.func 117) #[] #[.pointer (some ⟨B,0,none⟩)]] w fun e w'=>e=.returned (.tuple #[])∧PutsH w w' M [hadd h d.flock.toNat d.owner.toNat d.many]:=by
 obtain⟨hb,hm,hh,hd,ac⟩:=hA;have hM:=hm.lt;have hl:=hh.1;obtain⟨kind,flock,owner,other,tof,many,err,s⟩:=d;obtain⟨f,rfl⟩:=zB7 hd.f.1;obtain⟨o,rfl⟩:=zB7 hd.o.1;have hf:f<3:=by have:=hd.f.2;dsimp at this;omega
 have ho:o<5:=by have:=hd.o.2;dsimp at this;omega
 have a1:-1000000<=many∧many<=1000000:=by have:=hd.m;dsimp at this;omega
 simp only[Int.toNat_natCast];obtain⟨x,hx⟩:∃ x,x=hadd h f o many:=⟨_,rfl⟩;have a3:HOk x:=by rw[hx];exact j4q hh (by omega) hf ho a1
 have a2:=a3.1;have a6:=fun w=>j6h (x:=x) w hx rfl hl hf ho (by have:=hh.get hf ho;omega) a1
 rw[<-hx];have HX:=zQ9 (zA9 hb hm);clear hx hd hk a1 hh hb hm;unfold dv;go_enter Tryz.func133,Tryz.ntmps133
 go_upto_region 1 with (fail)
 obtain⟨W,hW⟩:∃ W,W=(w.alloc (Obj.cells (hcs h) 133)).alloc (dObj ⟨kind,f,o,other,tof,many,err,s⟩):=⟨_,rfl⟩;have b0:W.heap[w.heap.size]?=some (hObj h):=by rw[hW];exact j0b (j0c rfl) _
 have b1:W.heap[w.heap.size+1]?=some (dObj ⟨kind,f,o,other,tof,many,err,s⟩):=by rw[hW];exact j0c (by simp)
 have hP:PutsH w W M []:=by rw[hW];exact(PutsH.refl w M).below hM (bal (bal0 w _) (zL9 _) _) (zL9 _)
 rw[<-hW];clear hW;obtain⟨r,hr⟩:∃ r,r=w.heap.size:=⟨_,rfl⟩;have HR:=zQ9 (show w.heap.size<=r by omega)
 rw[<-hr] at b0 b1 ⊢;clear hr;obtain⟨d0,d1,d2,d3,d4,d5,d6,d7⟩:=blkD b1;have a8:=j2q h;go_upto_region 2 with (first
  | ((with_reducible apply j1a b0 hl);(rfl);(rfl);(rfl))
  | (go_at_call 150;refine(a6 _).mono ?_;rintro e w1 ⟨rfl,a0⟩;have a9:=hP.below hM a0 hP.size;have aa:=j0e b0 a0 (zL9 _);clear a0)
  | ((with_reducible apply j2a aa (a8.trans hl) a2);(rfl);(rfl);(rfl);(rfl);intro w2 a5 g2 z2;have a7:=a9.grown hM g2 HR.o))
 go_wp2_with (first
  | ((with_reducible apply j1a a5 a2);(rfl);(rfl);(rfl))
  | (go_at_call 117;refine(j6z a7 HX.o.1 HX.o.2 a3).mono ?_;rintro e w3 ⟨rfl,a4⟩))
 go_end0
 exact⟨rfl,a4⟩
theorem sold_any (p:Value) (h:List Int) (d:De) (n nf:Nat) (B M:Nat) (K:List (List Int)) (w:World) (hA:Ask n nf B M K h d w) (hk:d.kind=2) :
 Calls Tryz.prog 134 #[p,.agg (hcs h),dv d,.func (.func 117) #[] #[.pointer (some ⟨B,0,none⟩)]] w fun e w'=>e=.returned (.tuple #[])∧PutsH w w' M (match mvd h d.flock.toNat d.owner.toNat (-d.many) with|some x=>[hadd x d.flock.toNat d.other.toNat d.many]|none=>[]):=by
 obtain⟨hb,hm,hh,hd,aw⟩:=hA;have hM:=hm.lt;have hl:=hh.1;obtain⟨kind,flock,owner,other,tof,many,err,s⟩:=d;obtain⟨f,rfl⟩:=zB7 hd.f.1;obtain⟨o,rfl⟩:=zB7 hd.o.1;obtain⟨q,rfl⟩:=zB7 hd.x.1;have hf:f<3:=by have:=hd.f.2;dsimp at this;omega
 have ho:o<5:=by have:=hd.o.2;dsimp at this;omega
 have hq:q<5:=by have:=hd.x.2;dsimp at this;omega
 have av:0<=many∧many<=1000:=by have:=hd.m;dsimp at this;omega
 have ag:-1000000<=-many∧-many<=1000000:=by omega
 simp only[Int.toNat_natCast];have hg:=hh.get hf ho;obtain⟨x,hx⟩:∃ x,x=hadd h f o (-many):=⟨_,rfl⟩;have aj:HOk x:=by rw[hx];exact j4q hh (by omega) hf ho ag
 have a4:=aj.1;obtain⟨b,a2⟩:∃ b,b=decide (0<=hget h f o+-many):=⟨_,rfl⟩;have ar:=fun w=>j6h (x:=x) (b:=b) w hx a2 hl hf ho (by omega) ag
 have a0:mvd h f o (-many)=if b=true then some x else none:=by unfold mvd;rw[a2,hx];by_cases h0:0<=hget h f o+-many<;>simp[h0]
 rw[a0];have ad:b=true->HBd 1000 x:=fun e=>by rw[hx];rw[a2,decide_eq_true_eq] at e;exact hh.add e (by omega) (Int.le_refl _)
 have HX:=zQ9 (zA9 hb (zA9 hm ad));clear hx hd hk hh hb hm a2 a0 ad hg;unfold dv;go_enter Tryz.func134,Tryz.ntmps134
 go_upto_region 1 with (fail)
 obtain⟨W,hW⟩:∃ W,W=(w.alloc (Obj.cells (hcs h) 133)).alloc (dObj ⟨kind,f,o,q,tof,many,err,s⟩):=⟨_,rfl⟩;have b0:W.heap[w.heap.size]?=some (hObj h):=by rw[hW];exact j0b (j0c rfl) _
 have b1:W.heap[w.heap.size+1]?=some (dObj ⟨kind,f,o,q,tof,many,err,s⟩):=by rw[hW];exact j0c (by simp)
 have hP:PutsH w W M []:=by rw[hW];exact(PutsH.refl w M).below hM (bal (bal0 w _) (zL9 _) _) (zL9 _)
 rw[<-hW];clear hW;obtain⟨r,hr⟩:∃ r,r=w.heap.size:=⟨_,rfl⟩;have HR:=zQ9 (show w.heap.size<=r by omega)
 rw[<-hr] at b0 b1 ⊢;clear hr;obtain⟨d0,d1,d2,d3,d4,d5,d6,d7⟩:=blkD b1;go_upto_region 2 with (first
  | ((with_reducible apply j1a b0 hl);(rfl);(rfl);(rfl))
  | (go_at_call 150;refine(ar _).mono ?_;rintro e w1 ⟨rfl,aa⟩;have a1:=hP.below hM aa hP.size;have a3:=j0e b1 aa (zL9 _);have bz:(w1.alloc (.cells #[.int .i64 0,.int .i64 0,.int .i64 0,.int .i64 0,.int .i64 0,.int .i64 0,.int .i64 0,.int .i64 0,.int .i64 0,.int .i64 0,.int .i64 0,.int .i64 0,.int .i64 0,.int .i64 0,.int .i64 0] 133)).heap[w1.heap.size]?=_:=j0c rfl;clear aa)
  | ((with_reducible apply j2a bz rfl a4);(rfl);(rfl);(rfl);(rfl);intro w2 a5 g2 z2;have a8:=(a1.below hM (bal0 w1 _) a1.size).grown hM g2 a1.size;have ai:=gblk g2 (j0b a3 _) (Nat.ne_of_lt (j0a a3));have af:=zB6 HR.o (Nat.le_of_lt (Nat.lt_of_succ_lt (j0a a3)))))
 clear d0 d1 d2 d3 d4 d5 d6 d7 b0 b1 a3 bz;obtain⟨g,hg⟩:∃ g,g=w1.heap.size:=⟨_,rfl⟩;rw[<-hg] at a5 af ⊢;clear hg g2 z2 a1;cases b with
 | false =>
   go_wp2_with fail
   go_end0
   exact⟨rfl,a8⟩
 | true =>
   have a9:=HX.o.2.2 rfl;obtain⟨y,hy⟩:∃ y,y=hadd x f q many:=⟨_,rfl⟩;have ae:HOk y:=by rw[hy];exact j4q a9 (by omega) hf hq (by omega)
   have ac:=ae.1;have a6:=fun w=>j6h (x:=y) w hy rfl a4 hf hq (by have:=a9.get hf hq;omega) (by omega)
   have HY:=zQ9 hy;clear hy a9;obtain⟨d0,d1,d2,d3,d4,d5,d6,d7⟩:=blkD ai;have ak:=j2q x;go_upto_region 4 with (first
    | ((with_reducible apply j1a a5 a4);(rfl);(rfl);(rfl))
    | (go_at_call 150;refine(a6 _).mono ?_;rintro e w3 ⟨rfl,a7⟩;have aq:=a8.below hM a7 a8.size;have ao:=j0e a5 a7 (zL9 _);clear a7)
    | ((with_reducible apply j2a ao (ak.trans a4) ac);(rfl);(rfl);(rfl);(rfl);intro w4 an g4 z4;have am:=aq.grown hM g4 af))
   go_wp2_with (first
    | ((with_reducible apply j1a an ac);(rfl);(rfl);(rfl))
    | (go_at_call 117;refine(j6z am HX.o.1 HX.o.2.1 ae).mono ?_;rintro e w5 ⟨rfl,ah⟩))
   go_end0
   exact⟨rfl,by rw[<-HY.o];exact ah⟩
theorem q4i (p:Value) (h:List Int) (d:De) (n nf:Nat) (B M:Nat) (K:List (List Int)) (w:World) (hA:Ask n nf B M K h d w) (hk:d.kind=3) :
 Calls Tryz.prog 135 #[p,.agg (hcs h),dv d,.func (.func 117) #[] #[.pointer (some ⟨B,0,none⟩)]] w fun e w'=>e=.returned (.tuple #[])∧PutsH w w' M (match mvd h d.flock.toNat d.owner.toNat (-d.many) with|some x=>[x]|none=>[]):=by
 obtain⟨hb,hm,hh,hd,ah⟩:=hA;have hM:=hm.lt;have hl:=hh.1;obtain⟨kind,flock,owner,other,tof,many,err,s⟩:=d;obtain⟨f,rfl⟩:=zB7 hd.f.1;obtain⟨o,rfl⟩:=zB7 hd.o.1;obtain⟨q,rfl⟩:=zB7 hd.x.1;have hf:f<3:=by have:=hd.f.2;dsimp at this;omega
 have ho:o<5:=by have:=hd.o.2;dsimp at this;omega
 have hq:q<5:=by have:=hd.x.2;dsimp at this;omega
 have ag:0<=many∧many<=1000:=by have:=hd.m;dsimp at this;omega
 have a8:-1000000<=-many∧-many<=1000000:=by omega
 simp only[Int.toNat_natCast];have hg:=hh.get hf ho;obtain⟨x,hx⟩:∃ x,x=hadd h f o (-many):=⟨_,rfl⟩;have a6:HOk x:=by rw[hx];exact j4q hh (by omega) hf ho a8
 have a9:=a6.1;obtain⟨b,a2⟩:∃ b,b=decide (0<=hget h f o+-many):=⟨_,rfl⟩;have ae:=fun w=>j6h (x:=x) (b:=b) w hx a2 hl hf ho (by omega) a8
 have a0:mvd h f o (-many)=if b=true then some x else none:=by unfold mvd;rw[a2,hx];by_cases h0:0<=hget h f o+-many<;>simp[h0]
 rw[a0];have a7:b=true->HBd 1000 x:=fun e=>by rw[hx];rw[a2,decide_eq_true_eq] at e;exact hh.add e (by omega) (Int.le_refl _)
 have HX:=zQ9 (zA9 hb (zA9 hm a7));clear hx hd hk hh hb hm a2 a0 a7 hg;unfold dv;go_enter Tryz.func135,Tryz.ntmps135
 go_upto_region 1 with (fail)
 obtain⟨W,hW⟩:∃ W,W=(w.alloc (Obj.cells (hcs h) 133)).alloc (dObj ⟨kind,f,o,q,tof,many,err,s⟩):=⟨_,rfl⟩;have b0:W.heap[w.heap.size]?=some (hObj h):=by rw[hW];exact j0b (j0c rfl) _
 have b1:W.heap[w.heap.size+1]?=some (dObj ⟨kind,f,o,q,tof,many,err,s⟩):=by rw[hW];exact j0c (by simp)
 have hP:PutsH w W M []:=by rw[hW];exact(PutsH.refl w M).below hM (bal (bal0 w _) (zL9 _) _) (zL9 _)
 rw[<-hW];clear hW;obtain⟨r,hr⟩:∃ r,r=w.heap.size:=⟨_,rfl⟩;have HR:=zQ9 (show w.heap.size<=r by omega)
 rw[<-hr] at b0 b1 ⊢;clear hr;obtain⟨d0,d1,d2,d3,d4,d5,d6,d7⟩:=blkD b1;go_upto_region 2 with (first
  | ((with_reducible apply j1a b0 hl);(rfl);(rfl);(rfl))
  | (go_at_call 150;refine(ae _).mono ?_;rintro e w1 ⟨rfl,a4⟩;have a1:=hP.below hM a4 hP.size;have a3:=j0e b1 a4 (zL9 _);have bz:(w1.alloc (.cells #[.int .i64 0,.int .i64 0,.int .i64 0,.int .i64 0,.int .i64 0,.int .i64 0,.int .i64 0,.int .i64 0,.int .i64 0,.int .i64 0,.int .i64 0,.int .i64 0,.int .i64 0,.int .i64 0,.int .i64 0] 133)).heap[w1.heap.size]?=_:=j0c rfl;clear a4)
  | ((with_reducible apply j2a bz rfl a9);(rfl);(rfl);(rfl);(rfl);intro w2 a5 g2 z2;have aa:=(a1.below hM (bal0 w1 _) a1.size).grown hM g2 a1.size;have af:=gblk g2 (j0b a3 _) (Nat.ne_of_lt (j0a a3));have ad:=zB6 HR.o (Nat.le_of_lt (Nat.lt_of_succ_lt (j0a a3)))))
 clear d0 d1 d2 d3 d4 d5 d6 d7 b0 b1 a3 bz;obtain⟨g,hg⟩:∃ g,g=w1.heap.size:=⟨_,rfl⟩;rw[<-hg] at a5 ad ⊢;clear hg g2 z2 a1;cases b with
 | false =>
   go_wp2_with fail
   go_end0
   exact⟨rfl,aa⟩
 | true =>
   go_wp2_with (first
    | ((with_reducible apply j1a a5 a9);(rfl);(rfl);(rfl))
    | (go_at_call 117;refine(j6z aa HX.o.1 HX.o.2.1 a6).mono ?_;rintro e w5 ⟨rfl,ac⟩))
   go_end0
   exact⟨rfl,ac⟩
theorem j2k (n lo hi:Int) (w:World) :
 Calls Tryz.prog 102 #[.int .i64 n,.int .i64 lo,.int .i64 hi] w fun e w'=>e=.returned (.bool (btw n lo hi))∧w=w':=by
 by_cases h1:lo<=n<;>by_cases h2:n<=hi
 all_goals
  go_enter Tryz.func102,Tryz.ntmps102
  go_wp2
  go_ret
  exact⟨by simp[btw,h1,h2],rfl⟩
theorem j5p (n lo hi:Int) (w:World) :
 Calls Tryz.prog 159 #[.int .i64 n,.int .i64 lo,.int .i64 hi] w fun e w'=>e=.returned (.bool (btw n lo hi))∧w=w':=by
 by_cases h1:lo<=n<;>by_cases h2:n<=hi
 all_goals
  go_enter Tryz.func159,Tryz.ntmps159
  go_wp2
  go_ret
  exact⟨by simp[btw,h1,h2],rfl⟩
theorem k8r (N E:Int) (w:World) (hN:0<=N∧N<=300) (hE:0<=E∧E<=20) :
 Calls Tryz.prog 155 #[.agg #[.int .i64 0,.int .i64 1,.int .i64 N,.int .i64 E],.int .i64 5] w fun e w'=>e=.returned (.int .i64 0)∧Below w.heap.size w w':=by
 have e1:btw N 0 300=true:=j0o.2 hN;have e2:btw E 0 20=true:=j0o.2 hE;have c0:=fun w=>j5p 0 0 4 w
 have c1:=fun w=>j5p 1 1 9 w
 have c2:=fun w=>j5p N 0 300 w
 have c3:=fun w=>j5p E 0 20 w
 rw[show btw 0 0 4=true from rfl] at c0
 rw[show btw 1 1 9=true from rfl] at c1
 rw[e1] at c2;rw[e2] at c3;clear e1 e2;go_enter Tryz.func155,Tryz.ntmps155
 go_wp2_with (go_at_call 159;(first|(with_reducible refine(c0 _).mono ?_)|(with_reducible refine(c1 _).mono ?_)|(with_reducible refine(c2 _).mono ?_)|(with_reducible refine(c3 _).mono ?_));rintro e w' ⟨rfl,rfl⟩)
 go_ret
 exact⟨rfl,bal0 w _⟩
def loC (N E:Int):Int:=(100*N+99+E).tdiv (100+E)
def hiC (N E:Int):Int:=(100*N).tdiv (100-E)
theorem q3j (N E:Int) (w:World) (hN:0<=N∧N<=300) (hE:0<=E∧E<=20) :
 Calls Tryz.prog 156 #[.agg #[.int .i64 0,.int .i64 1,.int .i64 N,.int .i64 E]] w fun e w'=>e=.returned (.agg #[.int .i64 (loC N E),.int .i64 (hiC N E)])∧Below w.heap.size w w':=by
 obtain⟨a2,a3⟩:=hN;obtain⟨a1,a0⟩:=hE;have q1:wrap64 (100*N)=100*N:=IntWalk.wrap64_in _ (by omega)
 have q2:wrap64 (100*N+99)=100*N+99:=IntWalk.wrap64_in _ (by omega)
 have q3:wrap64 (100*N+99+E)=100*N+99+E:=IntWalk.wrap64_in _ (by omega)
 have q4:wrap64 (100+E)=100+E:=IntWalk.wrap64_in _ (by omega)
 have q5:wrap64 (100-E)=100-E:=IntWalk.wrap64_in _ (by omega)
 have z1:((100+E:Int)==0)=false:=beq_eq_false_iff_ne.2 (by omega)
 have z2:((100-E:Int)==0)=false:=beq_eq_false_iff_ne.2 (by omega)
 have l1:0<=loC N E∧loC N E<=100*N+99+E:=⟨Int.tdiv_nonneg (by omega) (by omega),Int.tdiv_le_self _ (by omega)⟩
 have l2:0<=hiC N E∧hiC N E<=100*N:=⟨Int.tdiv_nonneg (by omega) (by omega),Int.tdiv_le_self _ (by omega)⟩
 have d1:(100*N+99+E).tdiv (100+E)=loC N E:=rfl;have d2:(100*N).tdiv (100-E)=hiC N E:=rfl;have w1:wrap64 (loC N E)=loC N E:=IntWalk.wrap64_in _ (by omega)
 have w2:wrap64 (hiC N E)=hiC N E:=IntWalk.wrap64_in _ (by omega)
 generalize loC N E=LO at d1 l1 w1 ⊢;generalize hiC N E=HI at d2 l2 w2 ⊢;go_enter Tryz.func156,Tryz.ntmps156
 go_upto_region 1 with (fail)
 go_region
 go_wp2
 refine bodyPost_ret (v:=.agg #[.int .i64 LO,.int .i64 HI]) (by simp[results,Tryz.f156,go_sem]) rfl ?_
 exact⟨rfl,j0w (bal (bal0 w _) (zL9 _) _)⟩
theorem q3v (N E:Int) (w:World) (hN:0<=N∧N<=300) (hE:0<=E∧E<=20) :
 Calls Tryz.prog 152 #[.agg #[.int .i64 0,.int .i64 1,.int .i64 N,.int .i64 E]] w fun e w'=>e=.returned (.tuple #[.agg #[.int .i64 (loC N E),.int .i64 (hiC N E)],.int .i64 0])∧Below w.heap.size w w':=by
 have c1:=fun w=>k8r N E w hN hE
 have c2:=fun w=>q3j N E w hN hE
 generalize loC N E=LO at c2 ⊢;generalize hiC N E=HI at c2 ⊢;clear hN hE;go_enter Tryz.func152,Tryz.ntmps152
 go_upto_region 1 with (fail)
 obtain⟨W,hW⟩:∃ W,W=(w.alloc (.cells #[.int .i64 0,.int .i64 1,.int .i64 N,.int .i64 E] 194)).alloc (Obj.cells #[.int .i64 0,.int .i64 0] 72):=⟨_,rfl⟩;have b0:W.heap[w.heap.size]?=some (.cells #[.int .i64 0,.int .i64 1,.int .i64 N,.int .i64 E] 194 (0,0)):=by rw[hW];exact j0b (j0c rfl) _
 have b1:W.heap[w.heap.size+1]?=some (.cells #[.int .i64 0,.int .i64 0] 72 (0,0)):=by rw[hW];exact j0c (by simp)
 have hB:Below w.heap.size w W:=by rw[hW];exact bal (bal0 w _) (zL9 _) _
 rw[<-hW];clear hW;obtain⟨r,hr⟩:∃ r,r=w.heap.size:=⟨_,rfl⟩;have HR:=zQ9 hr;rw[<-hr] at b0 b1 hB ⊢;clear hr;obtain⟨p0,p1,p2,p3⟩:=blk4 b0;go_upto_region 2 with (go_at_call 155;refine(c1 _).mono ?_;rintro e w1 ⟨rfl,a0⟩)
 replace b0:=j0e b0 a0 (zL9 _);replace b1:=j0e b1 a0 (zL9 _);replace hB:=hB.trans (a0.mono (by have:=j0a b1;have:=hB.size;have:=a0.size;exact zB6 (Nat.le_of_eq HR.o) hB.size))
 clear p0 p1 p2 p3 a0;obtain⟨p0,p1,p2,p3⟩:=blk4 b0;go_wp2_with (go_at_call 156;refine(c2 _).mono ?_;rintro e w2 ⟨rfl,a3⟩;have a1:=j0e b1 a3 (zL9 _);obtain⟨q0,q1⟩:=blk2 a1;have f0:=frz a1 0;have f1:=frz a1 1;have a5:=zQ9 (hB.trans (a3.mono (zB6 (Nat.le_of_eq HR.o) hB.size))))
 have hz:((w2.setCell ⟨r+1,0,none⟩ (.int .i64 LO)).setCell ⟨r+1,1,none⟩ (.int .i64 HI)).heap[r+1]?=some (.cells #[.int .i64 LO,.int .i64 HI] 72 (0,0)):=j0g (j0g a1);have a2:Below r w ((w2.setCell ⟨r+1,0,none⟩ (.int .i64 LO)).setCell ⟨r+1,1,none⟩ (.int .i64 HI)):=Below.setCell (Below.setCell a5.o (p:=⟨r+1,0,none⟩) (by dsimp;omega) _) (p:=⟨r+1,1,none⟩) (by dsimp;omega) _
 have a4:=zQ9 a2;generalize (w2.setCell ⟨r+1,0,none⟩ (.int .i64 LO)).setCell ⟨r+1,1,none⟩ (.int .i64 HI)=Z at hz a4 ⊢;clear a2 q0 q1 f0 f1;obtain⟨q0,q1⟩:=blk2 hz;exact bodyPost_ret (v:=.tuple #[.agg #[.int .i64 LO,.int .i64 HI],.int .i64 0]) (by simp[results,Tryz.f152,go_sem,q0,q1]) rfl ⟨rfl,by rw[<-HR.o];exact a4.o⟩
theorem q3k (x0 x1 x2 x3 x4:Int) (w:World) :
 (Instr.index 131 (.agg #[.int .i64 x0,.int .i64 x1,.int .i64 x2,.int .i64 x3,.int .i64 x4]) (.int .i64 0)).run Tryz.prog w=.ok (.int .i64 x0) w ∧
 (Instr.index 131 (.agg #[.int .i64 x0,.int .i64 x1,.int .i64 x2,.int .i64 x3,.int .i64 x4]) (.int .i64 1)).run Tryz.prog w=.ok (.int .i64 x1) w ∧
 (Instr.index 131 (.agg #[.int .i64 x0,.int .i64 x1,.int .i64 x2,.int .i64 x3,.int .i64 x4]) (.int .i64 2)).run Tryz.prog w=.ok (.int .i64 x2) w ∧
 (Instr.index 131 (.agg #[.int .i64 x0,.int .i64 x1,.int .i64 x2,.int .i64 x3,.int .i64 x4]) (.int .i64 3)).run Tryz.prog w=.ok (.int .i64 x3) w ∧
 (Instr.index 131 (.agg #[.int .i64 x0,.int .i64 x1,.int .i64 x2,.int .i64 x3,.int .i64 x4]) (.int .i64 4)).run Tryz.prog w=.ok (.int .i64 x4) w:=⟨by kernel_rfl,by kernel_rfl,by kernel_rfl,by kernel_rfl,by kernel_rfl⟩
def j6a (r:List Int):Nat->Int
 | 0=>0
 | k+1=>j6a r k+r.getD k 0
theorem q0k {r:List Int} (h:∀ x∈r,0<=x∧x<=1000):∀ k,0<=j6a r k∧j6a r k<=1000*k
 | 0=>by simp[j6a]
 | k+1=>by
   have ih:=q0k h k;unfold j6a;have:0<=r.getD k 0∧r.getD k 0<=1000:=by
    rw[zB3];cases e:r[k]? with
    | none=>simp
    | some x=>exact h x (zB4 e)
   push_cast
   omega
theorem q1q (h:List Int) (f:Nat) (w:World) (hh:HBd 1000 h) (hf:f<3) :
 Calls Tryz.prog 83 #[.agg (hcs h),.int .i64 f] w fun e w'=>e=.returned (.int .i64 (hall h f))∧Below w.heap.size w w':=by
 have hl:=hh.1;obtain⟨x0,h0⟩:∃ x,x=hget h f 0:=⟨_,rfl⟩;obtain⟨x1,h1⟩:∃ x,x=hget h f 1:=⟨_,rfl⟩;obtain⟨x2,h2⟩:∃ x,x=hget h f 2:=⟨_,rfl⟩;obtain⟨x3,h3⟩:∃ x,x=hget h f 3:=⟨_,rfl⟩;obtain⟨x4,h4⟩:∃ x,x=hget h f 4:=⟨_,rfl⟩;obtain⟨R,hR⟩:∃ R,R=[x0,x1,x2,x3,x4]:=⟨_,rfl⟩;have a1:∀ x∈R,0<=x∧x<=1000:=by
  rw[hR,h0,h1,h2,h3,h4];intro x hx;simp only[List.mem_cons,List.not_mem_nil,or_false] at hx;rcases hx with rfl|rfl|rfl|rfl|rfl
  ·exact hh.get hf (by decide)
  ·exact hh.get hf (by decide)
  ·exact hh.get hf (by decide)
  ·exact hh.get hf (by decide)
  ·exact hh.get hf (by decide)
 have a2:j6a R 5=hall h f:=by rw[hR];unfold hall;rw[<-h0,<-h1,<-h2,<-h3,<-h4];simp[j6a]
 have HS:=zQ9 (zA9 a1 (zA9 a2 hR));have hb:(w.alloc (Obj.cells (hcs h) 133)).heap[w.heap.size]?=some (hObj h):=j0c rfl;have hB:Below w.heap.size w (w.alloc (Obj.cells (hcs h) 133)):=bal0 w _;have c0:(w.alloc (Obj.cells (hcs h) 133)).cell? ⟨w.heap.size,f*5,none⟩=some (.int .i64 x0):=by rw[h0,Nat.mul_comm f 5];exact blkH hb (by omega)
 have c1:(w.alloc (Obj.cells (hcs h) 133)).cell? ⟨w.heap.size,f*5+1,none⟩=some (.int .i64 x1):=by rw[h1,Nat.mul_comm f 5];exact blkH hb (by omega)
 have c2:(w.alloc (Obj.cells (hcs h) 133)).cell? ⟨w.heap.size,f*5+2,none⟩=some (.int .i64 x2):=by rw[h2,Nat.mul_comm f 5];exact blkH hb (by omega)
 have c3:(w.alloc (Obj.cells (hcs h) 133)).cell? ⟨w.heap.size,f*5+3,none⟩=some (.int .i64 x3):=by rw[h3,Nat.mul_comm f 5];exact blkH hb (by omega)
 have c4:(w.alloc (Obj.cells (hcs h) 133)).cell? ⟨w.heap.size,f*5+4,none⟩=some (.int .i64 x4):=by rw[h4,Nat.mul_comm f 5];exact blkH hb (by omega)
 have HB:=zQ9 hB;have i0:(0:Int)<=(f:Int):=by omega
 have i1:(f:Int)<3:=by omega
 clear h0 h1 h2 h3 h4 hR a1 a2 hB hb hl hh;go_enter Tryz.func83,Tryz.ntmps83
 go_upto_region 1 with (fail)
 obtain⟨W,hW⟩:∃ W,W=w.alloc (Obj.cells (hcs h) 133):=⟨_,rfl⟩;rw[<-hW] at c0 c1 c2 c3 c4 HB ⊢;clear hW;go_wp2_with fail
 go_loopg [5,11] 5 (fun g sv iv wr=>∃ k:Nat,k+g=5∧iv=.int .i64 k∧sv=.int .i64 (j6a R k)∧wr=W)
 case atStart=>exact⟨0,rfl,rfl,rfl,rfl⟩
 case round =>
  obtain⟨k,hk,rfl,rfl,rfl⟩:=hrel;have HK:=zQ9 hk;by_cases hlt:k<5
  ·have a6:=q0k HS.o.1 k;have a0:j6a R (k+1)=j6a R k+R.getD k 0:=rfl;have a3:0<=R.getD k 0∧R.getD k 0<=1000:=by
    rw[HS.o.2.2];have a5:=HS.o.1;rw[HS.o.2.2] at a5;rw[zB3,zB5 (by simpa using hlt)]
    exact a5 _ (List.getElem_mem _)
   have a4:R.getD k 0=[x0,x1,x2,x3,x4].getD k 0:=by rw[HS.o.2.2]
   rw[a4] at a0 a3;obtain⟨S,hS⟩:∃ S,S=j6a R k:=⟨_,rfl⟩;rw[<-hS] at a6 a0 ⊢;have HN:=zQ9 a0;clear hS a4 a0 hk;obtain rfl|rfl|rfl|rfl|rfl:k=0∨k=1∨k=2∨k=3∨k=4:=by omega
   all_goals
    simp only[List.getD_cons_zero,List.getD_cons_succ] at a3;have a7:=q3k x0 x1 x2 x3 x4 wr;obtain⟨e0,e1,e2,e3,e4⟩:=a7;go_wp2
    go_roundg (gk-1)
    case measure=>have:=HK.o;omega
    case rel=>first|exact⟨1,by have:=HK.o;omega,by go_num,by rw[HN.o];rfl,rfl⟩|exact⟨2,by have:=HK.o;omega,by go_num,by rw[HN.o];rfl,rfl⟩|exact⟨3,by have:=HK.o;omega,by go_num,by rw[HN.o];rfl,rfl⟩|exact⟨4,by have:=HK.o;omega,by go_num,by rw[HN.o];rfl,rfl⟩|exact⟨5,by have:=HK.o;omega,by go_num,by rw[HN.o];rfl,rfl⟩
  ·obtain rfl:k=5:=by omega
   clear hk;go_wp2
   go_ret
   exact⟨j0j HS.o.2.1,HB.o⟩
theorem q0x (p:Value) (h:List Int) (d:De) (n nf:Nat) (B M:Nat) (K:List (List Int)) (w:World) (hA:Ask n nf B M K h d w) (hk:d.kind=6) :
 Calls Tryz.prog 138 #[p,.agg (hcs h),dv d,.func (.func 117) #[] #[.pointer (some ⟨B,0,none⟩)]] w fun e w'=>e=.returned (.tuple #[])∧PutsH w w' M (if j6y d h=true then [h] else []):=by
 obtain⟨hb,hm,hh,hd,ba⟩:=hA;have hM:=hm.lt;have hl:=hh.1;obtain⟨kind,flock,owner,other,tof,many,err,s⟩:=d;obtain⟨f,rfl⟩:=zB7 hd.f.1;have hf:f<3:=by have:=hd.f.2;dsimp at this;omega
 have aq:0<=many∧many<=300:=hd.m;have aB:0<=err∧err<=20:=hd.e;obtain⟨b,ad⟩:∃ b,b=btw (hall h f) (loC many err) (hiC many err):=⟨_,rfl⟩;have aA:j6y ⟨kind,f,owner,other,tof,many,err,s⟩ h=b:=by rw[ad];rfl
 rw[aA];have c1:=fun w=>q3v many err w aq aB
 have c2:=fun w=>q1q h f w hh hf
 have c3:=fun w=>j2k (hall h f) (loC many err) (hiC many err) w
 rw[<-ad] at c3;have aF:HOk h:=HOk.of hh (by omega)
 obtain⟨LO,ak⟩:∃ x,x=loC many err:=⟨_,rfl⟩;obtain⟨HI,ax⟩:∃ x,x=hiC many err:=⟨_,rfl⟩;obtain⟨AL,aj⟩:∃ x,x=hall h f:=⟨_,rfl⟩;rw[<-ak,<-ax] at c1 c3;rw[<-aj] at c2 c3;have HX:=zQ9 (zA9 hb hm);clear hd hk hh hb hm ad aA ak ax aj aq aB;unfold dv;go_enter Tryz.func138,Tryz.ntmps138
 go_upto_region 1 with (fail)
 obtain⟨W,hW⟩:∃ W,W=(w.alloc (Obj.cells (hcs h) 133)).alloc (dObj ⟨kind,f,owner,other,tof,many,err,s⟩):=⟨_,rfl⟩;have b0:W.heap[w.heap.size]?=some (hObj h):=by rw[hW];exact j0b (j0c rfl) _
 have b1:W.heap[w.heap.size+1]?=some (dObj ⟨kind,f,owner,other,tof,many,err,s⟩):=by rw[hW];exact j0c (by simp)
 have hP:PutsH w W M []:=by rw[hW];exact(PutsH.refl w M).below hM (bal (bal0 w _) (zL9 _) _) (zL9 _)
 rw[<-hW];clear hW;obtain⟨r,hr⟩:∃ r,r=w.heap.size:=⟨_,rfl⟩;have HR:=zQ9 (show w.heap.size<=r by omega)
 rw[<-hr] at b0 b1 ⊢;clear hr;obtain⟨d0,d1,d2,d3,d4,d5,d6,d7⟩:=blkD b1;go_upto_region 2 with (go_at_call 152;refine(c1 _).mono ?_;rintro e w1 ⟨rfl,ac⟩)
 obtain⟨W2,hW⟩:∃ W2,W2=w1.alloc (.cells #[.int .i64 LO,.int .i64 HI] 72):=⟨_,rfl⟩;have e0:W2.heap[r]?=some (hObj h):=by rw[hW];exact j0b (j0e b0 ac (zL9 _)) _
 have e1:W2.heap[r+1]?=some (dObj ⟨kind,f,owner,other,tof,many,err,s⟩):=by rw[hW];exact j0b (j0e b1 ac (zL9 _)) _
 have e2:W2.heap[w1.heap.size]?=some (.cells #[.int .i64 LO,.int .i64 HI] 72 (0,0)):=by rw[hW];exact j0c rfl
 have aw:PutsH w W2 M []:=by rw[hW];exact(hP.below hM ac hP.size).below hM (bal0 w1 _) (hP.below hM ac hP.size).size
 rw[<-hW];clear hW ac b0 b1 d0 d1 d2 d3 d4 d5 d6 d7 hP;obtain⟨g,hg⟩:∃ g,g=w1.heap.size:=⟨_,rfl⟩;rw[<-hg] at e2 ⊢;clear hg;obtain⟨-,d1,-⟩:=blkD e1;obtain⟨q0,q1⟩:=blk2 e2;obtain⟨a0,a1,a2,a3,a4,a5,a6,a7,a8,a9,b7,b9,b6,b8,b5,af,aa⟩:=j7s hl;obtain⟨y0,y1,y2,y3,y4,y5,y6,y7,y8,y9,ao,ay,ar,ai,av⟩:=aa _ _ e0;have z0:=cell_regrown y0;have z1:=cell_regrown y1;have z2:=cell_regrown y2;have z3:=cell_regrown y3;have z4:=cell_regrown y4;have z5:=cell_regrown y5;have z6:=cell_regrown y6;have z7:=cell_regrown y7;have z8:=cell_regrown y8;have z9:=cell_regrown y9;have aG:=cell_regrown ao;have aC:=cell_regrown ay;have aE:=cell_regrown ar;have b3:=cell_regrown ai;have b4:=cell_regrown av;have v1:=cell_regrown d1;have v2:=cell_regrown q0;have v3:=cell_regrown q1;have cA:∀ dd os,Calls Tryz.prog 83 #[.agg (hcs h),.int .i64 f] (Sort.grow (redrawn W2 dd) os) (fun e w''=>e=.returned (.int .i64 AL)∧∃ p:Regrown,w''=Sort.grow (redrawn W2 p.d) p.os):=fun dd os=>Calls.regrown_of (c2 _)
 have cB:∀ dd os,Calls Tryz.prog 102 #[.int .i64 AL,.int .i64 LO,.int .i64 HI] (Sort.grow (redrawn W2 dd) os) (fun e w''=>e=.returned (.bool b)∧∃ p:Regrown,w''=Sort.grow (redrawn W2 p.d) p.os):=fun dd os=>k9x (c3 _)
 have az:=zQ9 (zA9 cA cB);clear cA cB c1 c2 c3;refine wp_region_quiet_below (by kernel_rfl) (by kernel_rfl) ?_
 repeat (quiet_step (with_reducible first|exact az.o.1 _ _|exact az.o.2 _ _))
 refine wpQuiet_nil ?_;intro _ aH;obtain⟨⟨dq,an⟩,ah⟩:=aH;subst ah;obtain⟨W9,ae⟩:∃ W9,W9=Sort.grow (redrawn W2 dq) an:=⟨_,rfl⟩;have ag:Below W2.heap.size W2 W9:=by rw[ae];exact below_regrown W2 dq an
 have am:=aw.below hM ag aw.size;have e9:=j0e e0 ag (zL9 _);rw[<-ae];clear ae ag y0 y1 y2 y3 y4 y5 y6 y7 y8 y9 ao ay ar ai av z0 z1 z2 z3 z4 z5 z6 z7 z8 z9 aG aC aE b3 b4 v1 v2 v3 aa af;cases b with
 | false =>
   go_wp2_with fail
   go_end0
   exact⟨rfl,am⟩
 | true =>
   go_wp2_with (first
    | ((with_reducible apply j1a e9 hl);(rfl);(rfl);(rfl))
    | (go_at_call 117;refine(j6z am HX.o.1 HX.o.2 aF).mono ?_;rintro e w5 ⟨rfl,aD⟩))
   go_end0
   exact⟨rfl,aD⟩
end Go.Proofs.YtmennjmjakdkcaaGreat
