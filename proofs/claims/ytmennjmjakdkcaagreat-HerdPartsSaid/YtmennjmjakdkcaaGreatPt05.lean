/- HerdParts. -/
import Derived.Deep.RegionHeld3
import Derived.Test.YtmennjmjakdkcaaGreatPt04
import Derived.Laws.AppendOwnNone
set_option linter.unusedVariables false
set_option linter.unusedSimpArgs false
set_option maxRecDepth 100000
set_option maxHeartbeats 2000000
namespace Go.Proofs.YtmennjmjakdkcaaGreat
open Go.RowKit
theorem j8g:ElemOk Tryz.prog 26 25 1 24:=ElemOk.mk' (z:=.slice none 0 0) Tryz.underlying26 (by kernel_rfl) rfl (by decide)
def Rws (w:World) (base:Nat) (mv:List Value) (ls:List (List Int)):Prop :=
 mv.length=ls.length∧∀ (i:Nat) v,mv[i]?=some v->∃ l,ls[i]?=some l∧OwnI w base v l
def OwnG (w:World) (base:Nat) (v:Value) (ls:List (List Int)):Prop:=∃ mv,Own eVal 25 1 w base v mv∧Rws w base mv ls
theorem q3c (l:List Value):(l.flatMap eVal).length=l.length:=by
 induction l with
 | nil=>rfl
 | cons a r ih=>rw[List.flatMap_cons,List.length_append,ih];simp[eVal];omega
theorem j0y {α β:Type} {ea:α->List Value} {eb:β->List Value} {t u:TypeId} {s r:Nat} {w:World} {b c:Nat} {x y:Value} {l:List α} {m:List β} (h:Own ea t s w b x l) (k:Own eb u r w c y m) (a1:t≠u) :
 x.ownBlock=none∨x.ownBlock≠y.ownBlock:=by
 rcases h.2 with ⟨rfl,_⟩|⟨g,cap,cur,rfl,_,h2,_⟩
 ·exact .inl rfl
 ·refine .inr ?_;rcases k.2 with ⟨rfl,_⟩|⟨g',a0,a2,rfl,_,k2,_⟩
  ·simp[Value.ownBlock]
  ·intro e;simp only[Value.ownBlock,Option.some.injEq] at e;subst e;rw[h2] at k2;cases k2;exact a1 rfl
theorem OwnG.nil_ {w:World} {base:Nat}:OwnG w base (.slice none 0 0) []:=⟨[],Own.nil_,rfl,fun i v h=>by simp at h⟩
theorem OwnG.below {w w':World} {base B:Nat} {v:Value} {ls:List (List Int)} (h:OwnG w base v ls) (hb:Below B w w') (hB:w.heap.size<=B):OwnG w' base v ls:=by
 obtain⟨mv,h1,h2,h3⟩:=h;exact⟨mv,h1.below hb hB,h2,fun i v hv=>by
  obtain⟨l,hl,ho⟩:=h3 i v hv;exact⟨l,hl,ho.below hb hB⟩⟩
theorem OwnG.mono {w:World} {base b:Nat} {v:Value} {ls:List (List Int)} (h:OwnG w base v ls) (hb:b<=base):OwnG w b v ls:=by
 obtain⟨mv,h1,h2,h3⟩:=h;exact⟨mv,h1.mono hb,h2,fun i v hv=>by
  obtain⟨l,hl,ho⟩:=h3 i v hv;exact⟨l,hl,ho.mono hb⟩⟩
theorem OwnG.upon {w w':World} {base:Nat} {v:Value} {ls:List (List Int)} (h:OwnG w base v ls) (k:∀ j,base<=j->w'.heap[j]?=w.heap[j]?):OwnG w' base v ls:=by
 obtain⟨mv,h1,h2,h3⟩:=h;exact⟨mv,h1.upon k,h2,fun i v hv=>by
  obtain⟨l,hl,ho⟩:=h3 i v hv;exact⟨l,hl,ho.upon k⟩⟩
theorem OwnG.snoc {w w':World} {base:Nat} {v v' u:Value} {mv:List Value} {ls:List (List Int)} {l:List Int} (h1:Own eVal 25 1 w base v mv) (h2:Rws w base mv ls) (hu:OwnI w base u l)
 (h3:Own eVal 25 1 w' base v' (mv++[u])) (hg:w.grownBy w' v.ownBlock):OwnG w' base v' (ls++[l]):=by
 refine⟨mv++[u],h3,by simp[h2.1],fun i x hx=>?_⟩
 rcases Nat.lt_or_ge i mv.length with hi|hi
 ·rw[List.getElem?_append_left hi] at hx;obtain⟨l',a0,ho⟩:=h2.2 i x hx;exact⟨l',by rw[List.getElem?_append_left (by rw[<-h2.1];exact hi)];exact a0,ho.kept hg (j0y ho h1 (by decide))⟩
 ·rw[List.getElem?_append_right hi] at hx;have h0:i-mv.length=0:=by
   cases hd:i-mv.length with
   | zero=>rfl
   | succ k=>rw[hd] at hx;simp at hx
  rw[h0] at hx;simp only[List.getElem?_cons_zero,Option.some.injEq] at hx;subst hx;refine⟨l,?_,hu.kept hg (j0y hu h1 (by decide))⟩
  rw[List.getElem?_append_right (by rw[<-h2.1];exact hi),show i-ls.length=0 by rw[<-h2.1];exact h0]
  rfl
theorem set4_2 {W:World} {g:Nat} {t:TypeId} {a b c d z:Value} (h:W.heap[g]?=some (.cells #[a,b,c,d] t (0,0))):(W.setCell ⟨g,2,none⟩ z).heap[g]?=some (.cells #[a,b,z,d] t (0,0)):=by
 simp[World.setCell,Array.getElem?_modify,h]
theorem q4s {base gx:Nat} {Wy w3 w4:World} {T:TypeId} {a b d v v4 u:Value} {mv:List Value} {ls:List (List Int)} {l:List Int} {o:Obj}
 (bx:Wy.heap[gx]?=some (.cells #[a,b,v,d] T (0,0))) (a8:Own eVal 25 1 Wy base v mv) (a1:Rws Wy base mv ls) (ag:gx<base) (a6:base<=Wy.heap.size)
 (a4:Below Wy.heap.size Wy w3) (hu:OwnI w3 Wy.heap.size u l) (a5:Own eVal 25 1 w4 base v4 (mv++[u])) (a2:(w3.alloc o).grownBy w4 v.ownBlock) :
 (w4.setCell ⟨gx,2,none⟩ v4).heap[gx]?=some (.cells #[a,b,v4,d] T (0,0))∧Own eVal 25 1 (w4.setCell ⟨gx,2,none⟩ v4) base v4 (mv++[u]) ∧
   Rws (w4.setCell ⟨gx,2,none⟩ v4) base (mv++[u]) (ls++[l])∧Below gx Wy (w4.setCell ⟨gx,2,none⟩ v4):=by
 have af:=a4.size;have a0:=(a8.below a4 (zL9 _)).alloc o;have a9:=a8.lt;have ad:v.ownBlock≠some gx:=fun h=>by have:=a9 _ h;omega
 have h4:w4.heap[gx]?=some (.cells #[a,b,v,d] T (0,0)) :=
  (a2.block gx (by simp;omega) (fun e=>ad e.symm)).trans (j0b ((a4.block gx (by omega)).trans bx) o)
 have a7:∀ j,j≠gx->(w4.setCell ⟨gx,2,none⟩ v4).heap[j]?=w4.heap[j]?:=fun j hj=>zB1 w4 ⟨gx,2,none⟩ v4 j hj
 have keep:∀ {α:Type} {enc:α->List Value} {t:TypeId} {s:Nat} {x:Value} {l:List α},Own enc t s w4 base x l->Own enc t s (w4.setCell ⟨gx,2,none⟩ v4) base x l:=fun {α enc t s x l} h=>by
  refine⟨h.1,?_⟩;rcases h.2 with h2|⟨g,cap,cur,hv,hg,hh,r⟩
  ·exact .inl h2
  ·exact .inr ⟨g,cap,cur,hv,hg,(a7 g (by omega)).trans hh,r⟩
 have hR:Rws (w3.alloc o) base mv ls:=⟨a1.1,fun i x hx=>by
  obtain⟨l',a3,ho⟩:=a1.2 i x hx;exact⟨l',a3,(ho.below a4 (zL9 _)).alloc o⟩⟩
 obtain⟨ae,m1,m2⟩:=OwnG.snoc a0 hR ((hu.mono a6).alloc o) a5 a2;have aa:Rws w4 base (mv++[u]) (ls++[l]):=by
  refine⟨by simp[a1.1],fun i x hx=>?_⟩
  rcases Nat.lt_or_ge i mv.length with hi|hi
  ·rw[List.getElem?_append_left hi] at hx;obtain⟨l',a3,ho⟩:=hR.2 i x hx;exact⟨l',by rw[List.getElem?_append_left (by rw[<-a1.1];exact hi)];exact a3,ho.kept a2 (j0y ho a0 (by decide))⟩
  ·have h0:i=mv.length:=by
    have:=(List.getElem?_eq_some_iff.1 hx).1;simp at this;omega
   subst h0;simp at hx;subst hx;exact⟨l,by rw[a1.1];simp,((hu.mono a6).alloc o).kept a2 (j0y ((hu.mono a6).alloc o) a0 (by decide))⟩
 refine⟨set4_2 h4,keep a5,⟨aa.1,fun i x hx=>?_⟩,?_⟩
 ·obtain⟨l',a3,ho⟩:=aa.2 i x hx;exact⟨l',a3,keep ho⟩
 ·have ac:Below gx Wy w4:=((a4.mono (by omega)).trans ((bal0 w3 o).mono (by omega))).trans ((zB2 _ _).grown a2 (by simp;omega) (fun k hk=>by have:=a9 _ hk;omega))
  exact ac.setCell (zL9 gx:gx<=(⟨gx,2,none⟩:Addr).block) _
def Grid (w:World) (A:Option Addr) (n:Nat) (ls:List (List Int)):Prop :=
 ∃ mv,Sl eVal 1 w A n mv∧mv.length=ls.length∧∀ (i:Nat) v,mv[i]?=some v->∃ B l c,ls[i]?=some l∧v=.slice B l.length c∧Ints w B l.length l∧l.length<=c∧c<=maxLen
theorem OwnG.form {w:World} {base:Nat} {v:Value} {ls:List (List Int)} (h:OwnG w base v ls):∃ A c,v=.slice A ls.length c∧Grid w A ls.length ls∧ls.length<=c∧c<=maxLen:=by
 obtain⟨mv,h1,h2,h3⟩:=h;obtain⟨A,c,hv,hs,hc,hm⟩:=h1.form j2t;rw[h2] at hv hs hc;refine⟨A,c,hv,⟨mv,hs,h2,fun i v hv=>?_⟩,hc,hm⟩
 obtain⟨l,hl,ho⟩:=h3 i v hv;obtain⟨B,c',a0,a1,a2,a3⟩:=ho.form j0n;exact⟨B,l,c',hl,a0,a1,a2,a3⟩
theorem Grid.below {w w':World} {B:Nat} {A:Option Addr} {n:Nat} {ls:List (List Int)} (h:Grid w A n ls) (hb:Below B w w') (hB:w.heap.size<=B):Grid w' A n ls:=by
 obtain⟨mv,h1,h2,h3⟩:=h;exact⟨mv,h1.below hb hB,h2,fun i v hv=>by
  obtain⟨C,l,c,a1,a2,a3,a4,a5⟩:=h3 i v hv;exact⟨C,l,c,a1,a2,a3.below hb hB,a4,a5⟩⟩
theorem Grid.get {w:World} {A:Option Addr} {n:Nat} {ls:List (List Int)} (h:Grid w A n ls) {k:Nat} (hk:k<n) :
 ∃ b off B l c,A=some ⟨b,off,none⟩∧b<w.heap.size∧ls[k]?=some l∧w.cell? ⟨b,off+k,none⟩=some (.slice B l.length c)∧Ints w B l.length l∧l.length<=c∧c<=maxLen:=by
 obtain⟨mv,h1,h2,h3⟩:=h;obtain⟨b,off,x,hA,hb,hx,hc⟩:=Vals.get h1 hk;obtain⟨B,l,c,a1,a2,a3,a4,a5⟩:=h3 k x hx;subst a2;exact⟨b,off,B,l,c,hA,hb,a1,hc,a3,a4,a5⟩
theorem k3x {α:Type} {enc:α->List Value} {P:Program} {t e:TypeId} {sz bytes:Nat} (E:ElemOk P t e sz bytes) {ops:Array Oper} {o:Oper} {a:Act} {K:Act->World->Prop} {Q:Exit->Act->World->Prop} {F:Prop} {w:World}
 (a8:o.guard=none) (s x:Operand) (ho:o.op=.call { callee:=.builtin .append,args:=#[s,x],argTypes:=#[t,t] })
 (base:Nat) (v:Value) (l:List α) (y:α) (cs:Array Value) (g:Nat) (hs:a.eval s=v) (hx:a.eval x=.slice (some ⟨g,0,none⟩) 1 1) (hg:w.heap[g]?=some (.cells cs e (0,0))) (hcs:cs.toList=enc y)
 (a7:(enc y).length=sz) (h1:∀ u∈enc y,u.oneCell'=true)
 (a2:Own enc e sz w base v l) (aa:l.length<4294967296) (a9:bytes<=4096) (a0:base<=w.heap.size)
 (h:∀ g' cap w',Own enc e sz w' base (.slice (some ⟨g',0,none⟩) (l.length+1) cap) (l++[y])->w.grownBy w' v.ownBlock->Below base w w'->K (a.put o.dst (.slice (some ⟨g',0,none⟩) (l.length+1) cap)) w') :
 if Region.wanted o (yielded ops a.tmps)=true then Oper.wp P o a w K Q else F:=by
 obtain⟨i,z,hi,hz,a3,a1,a6⟩:=E.info;refine step_append_lies w a8 s x t ho base e i z sz bytes E.sl hi hz a3 a1 a6 E.pos v l.length (l.flatMap enc) hs a2 ⟨g,0,none⟩ 1 1 (enc y) hx (by omega) ?_ h1 (by omega) (by unfold maxLen;omega) ?_ a0 w.heap.size rfl ?_
 ·rw[<-hcs];exact World.news_of_block hg
 ·calc (l.length+1)*bytes<=4294967296*4096:=Nat.mul_le_mul (by omega) a9
   _<=140737488355328:=by omega
 ·intro g' cap w' a4 a5 _ _;refine h g' cap w' ?_ a5 ((zB2 _ _).grown a5 a0 (fun k hk=>(Own.lt a2 k hk).1))
  have e2:(l++[y]).flatMap enc=l.flatMap enc++enc y:=by simp
  unfold Own;rw[e2,List.length_append];exact a4
theorem j9x {α:Type} {enc:α->List Value} {P:Program} {t e:TypeId} {sz bytes:Nat} (E:ElemOk P t e sz bytes) {ops:Array Oper} {rest:List Oper} {o:Oper} {a:Act} {Q:Exit->Act->World->Prop} {w:World}
 (a9:o.guard=none) (s x:Operand) (ho:o.op=.call { callee:=.builtin .append,args:=#[s,x],argTypes:=#[t,t] })
 (base:Nat) (v:Value) (l:List α) (y:α) (cs:Array Value) (hs:a.eval s=v) (hx:a.eval x=.slice (some ⟨w.heap.size,0,none⟩) 1 1) (hcs:cs.toList=enc y)
 (a8:(enc y).length=sz) (h1:∀ u∈enc y,u.oneCell'=true)
 (a1:Own enc e sz w base v l) (ac:l.length<4294967296) (aa:bytes<=4096) (a4:base<=w.heap.size)
 (h:∀ g' cap w',Own enc e sz w' base (.slice (some ⟨g',0,none⟩) (l.length+1) cap) (l++[y])->w.grownBy w' v.ownBlock->Below base w w'->wpList P ops Q rest (a.put o.dst (.slice (some ⟨g',0,none⟩) (l.length+1) cap)) w') :
 wpList P ops Q (o::rest) a (w.alloc (.cells cs e)):=by
 obtain⟨i,z,hi,hz,a3,a0,a7⟩:=E.info;refine wpList_append_lies _ a9 s x t ho base e i z sz bytes E.sl hi hz a3 a0 a7 E.pos v l.length (l.flatMap enc) hs (World.ownsRow.alloc a1 _) ⟨w.heap.size,0,none⟩ 1 1 (enc y) hx (by omega) ?_ h1 (by omega) (by unfold maxLen;omega) ?_ (by simp;omega) (w.heap.size+1) (by simp) ?_
 ·rw[<-hcs];exact World.news_of_block (heap_alloc_new w _)
 ·calc (l.length+1)*bytes<=4294967296*4096:=Nat.mul_le_mul (by omega) aa
   _<=140737488355328:=by omega
 ·intro g' cap w' a5 a2 _ _;have a6:w.grownBy w' v.ownBlock:=⟨a2.os,a2.tape,a2.output,zB6 (by simp) a2.size,fun k hk hne=>(a2.block k (by simp;omega) hne).trans (Below.heap_alloc _ _ _ hk)⟩
  refine h g' cap w' ?_ a6 ((zB2 _ _).grown a6 a4 (fun k hk=>(Own.lt a1 k hk).1))
  have e2:(l++[y]).flatMap enc=l.flatMap enc++enc y:=by simp
  unfold Own;rw[e2,List.length_append];exact a5
theorem k8p {l:List Mk} (h1:∀ m∈l,mkOk m=true) (h2:l.Nodup):∀ j k,chk l j k=0
 | 0,_=>rfl
 | j+1,k=>by
   unfold chk;cases hk:l[k]? with
   | none=>rfl
   | some m =>
     dsimp only;have hm:=h1 m (zB4 hk);rw[if_neg (by simp[hm]),if_neg,k8p h1 h2 j (k+1)]
     intro hc;rw[List.contains_eq_mem,decide_eq_true_eq,List.mem_take_iff_getElem] at hc;obtain⟨i,hi,he⟩:=hc;have a2:=List.getElem?_eq_some_iff.1 hk;obtain⟨a0,a1⟩:=a2;have h3:=(List.pairwise_iff_getElem.1 h2) i k (by omega) a0 (by omega)
     exact h3 (he.trans a1.symm)
theorem q2p {t:Int} {l:List Mk} (ht:0<=t∧t<=2) (hl:l.length<=5) (h1:∀ m∈l,mkOk m=true) (h2:l.Nodup):check t l=0:=by
 unfold check;rw[if_neg (by simp[j0o,ht.1,ht.2]),if_neg (by omega),k8p h1 h2]
def RegOut (w:World) (H N o:Nat) (e:Ending) (w':World):Prop:=∃ t l A c,e=.returned (.agg #[.int .i64 t,.slice A l.length c])∧check t l=0∧l.length<=o∧OwnM w' w.heap.size (.slice A l.length c) l∧Marks w' A l.length l∧l.length<=c∧c<=maxLen∧Dealt w w' H N
theorem set2_1 {W:World} {g:Nat} {t:TypeId} {a b z:Value} (h:W.heap[g]?=some (.cells #[a,b] t (0,0))):(W.setCell ⟨g,1,none⟩ z).heap[g]?=some (.cells #[a,z] t (0,0)):=by
 simp[World.setCell,Array.getElem?_modify,h]
theorem k5x (H N o:Nat) (w:World) (h:Hd w H N) (hN:N<=4611686018427380000) (ho:o<=5) :
 Calls Tryz.prog 70 #[.pointer (some ⟨H,0,none⟩),.int .i64 o] w (RegOut w H (N+100) o):=by
 have hH:=h.lt;go_enter Tryz.func70,Tryz.ntmps70
 go_wp2_with fail
 have am:=((Dealt.refl h).alloc (.cells #[.int .i64 0,.slice none 0 0] 24)).alloc (.cells #[.int .i64 1,.int .i64 1,.int .i64 2] 3);have aC:((w.alloc (.cells #[.int .i64 0,.slice none 0 0] 24)).alloc (.cells #[.int .i64 1,.int .i64 1,.int .i64 2] 3)).heap[w.heap.size]?=some (.cells #[.int .i64 0,.slice none 0 0] 24 (0,0)):=j0b (j0c rfl) _;have av:=j7j (w.alloc (.cells #[.int .i64 0,.slice none 0 0] 24)) 3 1 1 2;rw[World.size_alloc] at av;refine(j4g H N 0 (some ⟨w.heap.size+1,0,none⟩) 3 3 [1,1,2] _ am.hd (by omega) av (fun b off e=>by cases e;omega) (by omega)).mono ?_
 rintro e w1 ⟨t,rfl,ht,ao⟩;have ar:=am.trans ao;have aj:=ao.blk aC (by omega)
 have b5:0<=t∧t<=2:=by
  simp only[List.mem_cons,List.not_mem_nil,or_false] at ht;omega
 clear ao am aC ht av h;go_wp2_with fail
 refine(j1l H (N+1) o _ (ar.alloc _).hd (by omega) (by omega)).mono ?_
 rintro e w2 ⟨n0,rfl,b0,ai⟩;have aG:=(ar.alloc (.cells #[.int .i64 t,.slice none 0 0] 24)).trans ai;have b7:=ai.blk (j0b aj (.cells #[.int .i64 t,.slice none 0 0] 24)) (by omega)
 have aA:=ai.blk (j0c rfl:(w1.alloc (.cells #[.int .i64 t,.slice none 0 0] 24)).heap[w1.heap.size]?=some _) (by have:=j0a aj;omega)
 have bs:w.heap.size<w1.heap.size:=j0a aj;have bf:w1.heap.size<w2.heap.size:=j0a aA;have b8:n0<=o:=by omega
 clear ai ar aj b0;go_wp2_with fail
 go_loopg [6] n0 (fun g i wr=>i=.int .i64 g∧g<=n0∧∃ v l,wr.heap[w1.heap.size]?=some (.cells #[.int .i64 t,v] 24 (0,0))∧wr.heap[w.heap.size]?=some (.cells #[.int .i64 0,.slice none 0 0] 24 (0,0)) ∧
  OwnM wr (w1.heap.size+1) v l∧(∀ m∈l,mkOk m=true)∧l.Nodup∧l.length+g<=n0∧Dealt w wr H (N+2+16*(n0-g)))
 case atStart=>exact⟨rfl,zL9 _,_,[],aA,b7,Own.nil_,(fun m hm=>nomatch hm),List.nodup_nil,Nat.le_of_eq (Nat.zero_add _),aG.mono (by omega)⟩
 case round =>
  obtain⟨rfl,bp,v,l,bq,br,a2,ay,az,aF,hD⟩:=hrel;have HL:=zQ9 (zA9 ay az);clear ay az;by_cases hg:0<gk
  ·obtain⟨A,c,rfl,ag,ac,af⟩:=a2.form j2h;have be:(0:Int)<(gk:Int):=by omega
   go_wp2_with fail
   refine(k4s H _ _ hD.hd (by omega)).mono ?_
   rintro e w3 ⟨m,rfl,hm,aa⟩;unfold vMk;go_upto_region 6 with (fail)
   obtain⟨W3,hW⟩:∃ W3,W3=w3.alloc (.cells #[.int .i64 m.n,.int .i64 m.b,.int .i64 m.p] 117):=⟨_,rfl⟩;have aB:Dealt w W3 H (N+2+16*(n0-gk)+16):=by rw[hW];exact(hD.trans aa).alloc _
   have an:W3.heap[w1.heap.size]?=some (.cells #[.int .i64 t,.slice A l.length c] 24 (0,0)):=by rw[hW];exact j0b (aa.blk bq (by omega)) _
   have aw:W3.heap[w.heap.size]?=some (.cells #[.int .i64 0,.slice none 0 0] 24 (0,0)):=by rw[hW];exact j0b (aa.blk br (by omega)) _
   have a5:OwnM W3 (w1.heap.size+1) (.slice A l.length c) l:=by rw[hW];exact(a2.kept aa.gr (.inr (fun e=>by have:=a2.lt _ e;omega))).alloc _
   have ah:W3.heap[w3.heap.size]?=some (.cells #[.int .i64 m.n,.int .i64 m.b,.int .i64 m.p] 117 (0,0)):=by rw[hW];exact j0c rfl
   have bo:w1.heap.size<w3.heap.size:=Nat.lt_of_lt_of_le (j0a bq) aa.size;rw[<-hW];clear hW aa bq br a2 ag ac hD;obtain⟨r0,r1⟩:=blk2 an;obtain⟨m0,m1,m2⟩:=blk3 ah;go_wp2_with fail
   obtain⟨ax,bi,b9⟩:=a5.sl j2h;refine(q5r t A l.length c l m _ ax (by omega)).mono ?_
   rintro e w4 ⟨oo,rfl,ak,a8⟩;have a4:=aB.less a8 (zL9 _);have ae:=j0e an a8 (zL9 _);have a9:=j0e aw a8 (zL9 _);have b3:=j0e ah a8 (zL9 _);have a1:=a5.below a8 (zL9 _);have bh:=a8.size;have bj:=j0a ah;clear aB an aw ah a5 ax r0 r1 m0 m1 m2 a8;obtain⟨r0,r1⟩:=blk2 ae;obtain⟨m0,m1,m2⟩:=blk3 b3;have f1:=frz ae 1;by_cases hin:m∈l
   ·have aH:¬oo<0:=by simpa[hin] using ak
    have bn:0<=oo:=by omega
    clear ak;go_wp2
    go_roundg (gk-1)
    case measure=>omega
    case rel =>
     refine⟨by congr 1;omega,by omega,_,l,ae,a9,a1,HL.o.1,HL.o.2,by omega,a4.mono (by omega)⟩
   ·have aH:oo<0:=by simpa[hin] using ak
    have HO:=zQ9 (zA9 a1 (zA9 a4 (zA9 ae a9)));have aD:=zQ9 hin;clear ak a1 a4 ae a9 hin;have b6:l.length<4294967296:=by omega
    go_wp2_with (at_builtin;refine j9x k1q rfl (.tmp 27) (.tmp 29) rfl (w1.heap.size+1) (Value.slice A l.length c) l m _ rfl rfl rfl rfl (j9r _) HO.o.1 b6 ?_ ?_ ?_;(omega);(omega);intro g5 c5 w5 a3 a0 aq;have ad:=(a0.block _ (j0a HO.o.2.2.1) (fun e=>by have:=HO.o.1.lt _ e.symm;omega)).trans HO.o.2.2.1;have q5:=(blk2 ad).2;have f5:=frz ad 1;have H5:=zQ9 (zA9 a3 (zA9 a0 (zA9 aq ad)));clear a3 a0 aq ad)
    obtain⟨a3,a0,aq,ad⟩:=H5.o;obtain⟨a1,a4,ae,a9⟩:=HO.o;go_roundg (gk-1)
    case measure=>omega
    case rel =>
     have a6:∀ j,j≠w1.heap.size->(w5.setCell ⟨w1.heap.size,1,none⟩ (.slice (some ⟨g5,0,none⟩) (l.length+1) c5)).heap[j]?=w5.heap[j]?:=fun j hj=>zB1 _ ⟨w1.heap.size,1,none⟩ _ _ hj
     have b4:w5.heap[w.heap.size]?=some (.cells #[.int .i64 0,.slice none 0 0] 24 (0,0)):=(a0.block _ (j0a a9) (fun e=>by have:=a1.lt _ e.symm;omega)).trans a9
     have aE:Dealt w w5 H (N+2+16*(n0-gk)+16):=by
      refine⟨a4.hd.kept fun j hj=>a0.block j (Nat.lt_of_le_of_lt hj a4.hd.lt) (fun e=>by have:=a1.lt _ e.symm;omega),⟨a0.os.trans a4.gr.os,a0.tape.trans a4.gr.tape,a0.output.trans a4.gr.output,zB6 a4.gr.size a0.size,fun j hj hne=>?_⟩⟩
      exact(a0.block j (Nat.lt_of_lt_of_le hj a4.gr.size) (fun e=>by have:=a1.lt _ e.symm;omega)).trans (a4.gr.block j hj hne)
     refine⟨by congr 1;omega,by omega,_,l++[m],set2_1 ad,(a6 _ (by omega)).trans b4,a3.upon (fun j hj=>a6 j (by omega)),?_,?_,by simp;omega,(aE.mono (by omega)).set (by dsimp;omega) (by dsimp;omega) _⟩
     ·intro x hx;rcases List.mem_append.1 hx with h|h
      ·exact HL.o.1 x h
      ·rw[List.mem_singleton.1 h];exact hm
     ·rw[List.nodup_append];refine⟨HL.o.2,by simp,fun a ha b hb=>?_⟩
      rw[List.mem_singleton.1 hb];intro e;exact aD.o (e ▸ ha)
  ·obtain rfl:gk=0:=by omega
   have ba:=frz br 0;have bm:=frz br 1;obtain⟨A,c,rfl,ag,ac,af⟩:=a2.form j2h;obtain⟨q0,q1⟩:=blk2 bq;obtain⟨r0,r1⟩:=blk2 br;have HO:=zQ9 (zA9 a2 (zA9 ag (zA9 ac (zA9 af hD))));clear a2 ag ac af hD;go_wp2
   refine bodyPost_ret (v:=.agg #[.int .i64 t,.slice A l.length c]) (by simp[results,Tryz.f70,go_sem,q0,q1,r0,r1]) rfl ?_
   obtain⟨a2,ag,ac,af,hD⟩:=HO.o;have a6:∀ j,j≠w.heap.size->((wr.setCell ⟨w.heap.size,0,none⟩ (.int .i64 t)).setCell ⟨w.heap.size,1,none⟩ (.slice A l.length c)).heap[j]?=wr.heap[j]?:=fun j hj=>(zB1 _ ⟨w.heap.size,1,none⟩ _ _ hj).trans (zB1 _ ⟨w.heap.size,0,none⟩ _ _ hj)
   have a7:=a2.upon (w':=(wr.setCell ⟨w.heap.size,0,none⟩ (.int .i64 t)).setCell ⟨w.heap.size,1,none⟩ (.slice A l.length c)) (fun j hj=>a6 j (by omega))
   refine⟨t,l,A,c,rfl,q2p b5 (by omega) HL.o.1 HL.o.2,by omega,a7.mono (by omega),(a7.sl j2h).1,ac,af,?_⟩
   exact((hD.mono (by omega)).set (by dsimp;omega) (by dsimp;omega) _).set (by dsimp;omega) (by dsimp;omega) _
theorem fits_any (t:Int) (v:Value) (s:Sg) (m:Mk) (w:World) (hs:0<=s.n) (aa:s.n<=255) (hm:0<=m.n) (a9:m.n<=255) :
 Calls Tryz.prog 132 #[.agg #[.int .i64 t,v],vSg s,vMk m] w fun e w'=>e=.returned (.bool (fits s m t))∧Below w.heap.size w w':=by
 have ho:=j5x m.n s.l s.r;have ac:=j3v m.n s.l s.r;have hb:=j5g s.n (onI m.n s.l s.r);have a7:=j5f s.n (onI m.n s.l s.r);go_enter Tryz.func132,Tryz.ntmps132
 unfold vSg vMk;go_upto_region 1 with (fail)
 go_cut [30] (fun q wc=>q=.bool (!j3w s m)∧(((w.alloc (.cells #[.int .i64 t,v] 163)).alloc (.cells #[.int .i64 s.n,.bool s.l,.bool s.r,.int .i64 s.b,.int .i64 s.p] 31)).alloc (.cells #[.int .i64 m.n,.int .i64 m.b,.int .i64 m.p] 117))=wc)
 case first =>
  cases e1:(s.b != -1)<;>cases e2:(s.b != m.b)<;>cases e3:(s.p != -1)<;>cases e4:(s.p != m.p)
  all_goals
   go_wp2
   go_meet
   exact⟨by simp_all [j3w],rfl⟩
 case rest =>
  obtain⟨rfl,rfl⟩:=hcut;cases hal:j3w s m
  ·have HF:=zQ9 (show fits s m t=false by simp[fits,hal])
   go_wp2_with fail
   go_ret
   exact⟨j0s HF.o.symm,(((zB2 _ _).alloc (zL9 _) _).alloc (by simp) _).alloc (by simp;omega) _⟩
  ·have HF:=zQ9 hal;clear hal;go_wp2_with fail
   obtain⟨W2,a0⟩:∃ W2,W2=((w.alloc (.cells #[.int .i64 t,v] 163)).alloc (.cells #[.int .i64 s.n,.bool s.l,.bool s.r,.int .i64 s.b,.int .i64 s.p] 31)).alloc (.cells #[.int .i64 m.n,.int .i64 m.b,.int .i64 m.p] 117):=⟨_,rfl⟩;rw[<-a0];have hB:Below w.heap.size w W2:=by rw[a0];exact(((zB2 _ _).alloc (zL9 _) _).alloc (by simp) _).alloc (by simp;omega) _
   have b3:W2.heap[w.heap.size]?=some (.cells #[.int .i64 t,v] 163 (0,0)):=by rw[a0];exact j0b (j0b (j0c rfl) _) _
   have b4:W2.heap[w.heap.size+1]?=some (.cells #[.int .i64 s.n,.bool s.l,.bool s.r,.int .i64 s.b,.int .i64 s.p] 31 (0,0)):=by rw[a0];exact j0b (j0c (by simp)) _
   have b5:W2.heap[w.heap.size+1+1]?=some (.cells #[.int .i64 m.n,.int .i64 m.b,.int .i64 m.p] 117 (0,0)):=by rw[a0];exact j0c (by simp)
   clear a0;obtain⟨c0,c1,c2,c3,c4⟩:=blk5 b4;have k0:=cell_regrown c0;have k1:=cell_regrown c1;have k2:=cell_regrown c2;have k3:=cell_regrown c3;have k4:=cell_regrown c4;have k5:=cell_regrown (blk3 b5).1;have a6:∀ d os,Calls Tryz.prog 147 #[.int .i64 m.n,vSg s] (Sort.grow (redrawn W2 d) os) (fun e w''=>e=.returned (.int .i64 (onI m.n s.l s.r))∧∃ p:Regrown,w''=Sort.grow (redrawn W2 p.d) p.os):=fun d os=>Calls.regrown_of (on_any m.n s _ hm a9)
   have a1:=zQ9 a6;clear a6 c0 c1 c2 c3 c4;refine wp_region_quiet_below (by kernel_rfl) (by kernel_rfl) ?_
   repeat (quiet_step (exact a1.o _ _))
   refine wpQuiet_nil ?_;intro _ a8;obtain⟨⟨dq,a5⟩,a3⟩:=a8;subst a3;obtain⟨W3,a2⟩:∃ W3,W3=Sort.grow (redrawn W2 dq) a5:=⟨_,rfl⟩;have a4:Below W2.heap.size W2 W3:=by rw[a2];exact below_regrown W2 dq a5
   rw[<-a2];have ad:w.heap.size+2<W2.heap.size:=by have:=j0a b5;omega
   have q0:W3.cell? ⟨w.heap.size,0,none⟩=some (.int .i64 t):=j0u (blk2 b3).1 a4 (zL9 _);clear a2 k0 k1 k2 k3 k4 k5 a1;cases hg:(butI (onI m.n s.l s.r) s.n==0)
   all_goals
    go_wp2_with fail
    go_quiet (first
     | (go_at_call 148;exact k5a (but_any _ _ _ (by assumption) (by assumption) (by assumption) (by assumption)))
     | (go_at_call 149;exact k5a (q4f _ _ hb a7)))
    go_wp2
    go_ret
    refine⟨j0s ?_,hB.trans (((a4.mono (by omega)).trans (j0k (zB2 _ _) _)))⟩
   ·have h0:¬butI (onI m.n s.l s.r) s.n=0:=by simpa using hg
    simp[fits,HF.o,h0]
   ·have h0:butI (onI m.n s.l s.r) s.n=0:=by simpa using hg
    simp[fits,HF.o,h0]
theorem k9g (t:Int) (A:Option Addr) (n c:Nat) (l:List Mk) (s:Sg) (w:World) (hl:Marks w A n l) (hn:n<=4294967295) (hs:0<=s.n) (a9:s.n<=255) (hv:∀ m∈l,0<=m.n∧m.n<=255) :
 Calls Tryz.prog 114 #[.agg #[.int .i64 t,.slice A n c],vSg s] w fun e w'=>∃ v,e=.returned v∧OwnI w' w.heap.size v (mayL t l s)∧Below w.heap.size w w':=by
 have HV:=zQ9 hv;have HL:=zQ9 hl;have a8:Below w.heap.size w ((w.alloc (.cells #[.int .i64 t,.slice A n c] 163)).alloc (.cells #[.int .i64 s.n,.bool s.l,.bool s.r,.int .i64 s.b,.int .i64 s.p] 31)):=((zB2 _ _).alloc (zL9 _) _).alloc (by simp) _
 have b2:((w.alloc (.cells #[.int .i64 t,.slice A n c] 163)).alloc (.cells #[.int .i64 s.n,.bool s.l,.bool s.r,.int .i64 s.b,.int .i64 s.p] 31)).heap[w.heap.size]?=some (.cells #[.int .i64 t,.slice A n c] 163 (0,0)):=j0b (j0c rfl) _;have b3:((w.alloc (.cells #[.int .i64 t,.slice A n c] 163)).alloc (.cells #[.int .i64 s.n,.bool s.l,.bool s.r,.int .i64 s.b,.int .i64 s.p] 31)).heap[w.heap.size+1]?=some (.cells #[.int .i64 s.n,.bool s.l,.bool s.r,.int .i64 s.b,.int .i64 s.p] 31 (0,0)):=j0c (by simp)
 have a7:=(hl.alloc (.cells #[.int .i64 t,.slice A n c] 163)).alloc (.cells #[.int .i64 s.n,.bool s.l,.bool s.r,.int .i64 s.b,.int .i64 s.p] 31);clear hv hl;go_enter Tryz.func114,Tryz.ntmps114
 unfold vSg;go_wp2_with fail
 generalize ((w.alloc (.cells #[.int .i64 t,.slice A n c] 163)).alloc (.cells #[.int .i64 s.n,.bool s.l,.bool s.r,.int .i64 s.b,.int .i64 s.p] 31))=W0 at a8 b2 b3 a7 ⊢;have ai:w.heap.size+1<W0.heap.size:=j0a b3;have HB:=zQ9 (zA9 b2 b3);clear b2 b3;go_loopg [5,12] n (fun g v i wr=>∃ k:Nat,k+g=n∧i=.int .i64 k∧OwnI wr W0.heap.size v (j3y t l s k)∧Below W0.heap.size W0 wr)
 case atStart=>exact⟨0,by omega,rfl,Own.nil_,zB2 _ _⟩
 case round =>
  obtain⟨k,hk,rfl,a4,a3⟩:=hrel;have HK:=zQ9 hk;have HO:=zQ9 a4;have ah:k<=n:=by omega
  clear hk a4;have hz:=a3.size;have g0:w.heap.size<wr.heap.size:=by omega
  have g1:w.heap.size+1<wr.heap.size:=by omega
  by_cases hlt:k<n
  ·obtain⟨b,off,m,rfl,hb,hm,c0,c1,c2⟩:=Marks.get (a7.below a3 (zL9 _)) hlt;have HM:=zQ9 hm;have a6:=HV.o m (zB4 hm);clear hm;obtain⟨r0,r1⟩:=blk2 (j0e HB.o.1 a3 (zL9 _));obtain⟨s0,s1,s2,s3,s4⟩:=blk5 (j0e HB.o.2 a3 (zL9 _));go_wp2_with fail
   refine(fits_any t _ s m _ hs a9 a6.1 a6.2).mono ?_;rintro e w1 ⟨rfl,a5⟩;have af:=a5.size;have a2:Below W0.heap.size W0 w1:=(a3.alloc hz _).trans (a5.mono (by simp;omega))
   have a1:=zQ9 ((HO.o.alloc (.cells #[.int .i64 m.n,.int .i64 m.b,.int .i64 m.p] 117)).below a5 (zL9 _));have ad:=j8y t l s k;have HS:=zQ9 (k4u (t:=t) (s:=s) HM.o);have ae:=a2.size;cases hf:fits s m t
   all_goals
    go_wp2_with (at_builtin;refine j6b j3b rfl (.tmp 21) (.tmp 23) rfl W0.heap.size _ (j3y t l s k) (k:Int) _ rfl rfl rfl rfl (j1x _) a1.o ?_ ?_ ?_ ?_;(omega);(omega);(omega);intro v' w2 a0 ac _ ag;have aa:=zQ9 a0;clear a0)
    go_roundg (gk-1)
    case measure=>have:=HK.o;omega
   ·exact⟨k+1,by have:=HK.o;omega,by go_num,by rw[HS.o,hf];simpa using a1.o,a2⟩
   ·exact⟨k+1,by have:=HK.o;omega,by go_num,by rw[HS.o,hf];simpa using aa.o,a2.trans ac⟩
  ·obtain rfl:k=n:=by omega
   go_wp2
   go_ret
   exact⟨_,rfl,by have:=HL.o.len;unfold mayL;rw[this];exact HO.o.mono (by omega),a8.trans (a3.mono (by omega))⟩
theorem k5p (t:Int) (A:Option Addr) (n c:Nat) (l:List Mk) (s:Sg) (w:World) (hl:Marks w A n l) (a6:n<=c) (a5:c<=maxLen) :
 Calls Tryz.prog 80 #[.agg #[.int .i64 t,.slice A n c],vSg s] w fun e w'=>∃ v,e=.returned (.tuple #[v,.int .i64 (mayE t l s)])∧OwnI w' w.heap.size v (mayR t l s)∧Below w.heap.size w w':=by
 have HL:=zQ9 hl;have a7:Below w.heap.size w ((w.alloc (.cells #[.int .i64 t,.slice A n c] 24)).alloc (.cells #[.int .i64 s.n,.bool s.l,.bool s.r,.int .i64 s.b,.int .i64 s.p] 31)):=((zB2 _ _).alloc (zL9 _) _).alloc (by simp) _
 clear hl;by_cases hck:check t l=0
 ·have h0:(check t l != 0)=false:=by simp[hck]
  have HC:=zQ9 hck;clear hck;by_cases hse:seen s 9 6=0
  ·have h1:(seen s 9 6 != 0)=false:=by simp[hse]
   have HS:=zQ9 hse;have hv:=(j6o hse).1;have hm:∀ m∈l,0<=m.n∧m.n<=255:=fun m hm=>(j3h HC.o m hm).1
   have HM:=zQ9 hm;have af:n<=5:=by have:=(j2d HC.o).2.2.1;have:=HL.o.len;omega
   clear hse hm;go_enter Tryz.func80,Tryz.ntmps80
   unfold vSg;go_wp2_with (first
    | (go_at_call 62;refine(j6x t A n c l _ ((HL.o.alloc _).alloc _) a6 a5).mono ?_;rintro e w1 ⟨rfl,a0⟩;obtain⟨ad,ae⟩:=bc a0;have a4:=a0.size;simp at a4;have g1:w.heap.size<w1.heap.size:=(by omega);have g2:w.heap.size+1<w1.heap.size:=(by omega);have a2:=zQ9 a0;clear a0)
    | (go_at_call 113;refine(j9c s _).mono ?_;rintro e w2 ⟨rfl,a1⟩;obtain⟨ag,ah⟩:=bc a1;have ac:=a1.size;have g3:w.heap.size<w2.heap.size:=(by omega);have g4:w.heap.size+1<w2.heap.size:=(by omega);have a3:=zQ9 a1;clear a1)
    | (go_at_call 114;refine(k9g t A n c l s _ ((((HL.o.alloc _).alloc _).below a2.o (zL9 _)).below a3.o (zL9 _)) (by omega) hv.1 hv.2 HM.o).mono ?_;rintro e w3 ⟨v,rfl,aa,a9⟩;have a8:=zQ9 (zA9 aa a9);clear aa a9))
   go_ret2
   exact⟨v,by simp[mayE,HC.o,HS.o],by simpa[mayR,mayE,HC.o,HS.o] using a8.o.1.mono (by omega),a7.trans ((a2.o.mono (by simp;omega)).trans ((a3.o.mono (by omega)).trans (a8.o.2.mono (by omega))))⟩
  ·have h1:(seen s 9 6 != 0)=true:=by simp[hse]
   have HS:=zQ9 hse;clear hse;go_enter Tryz.func80,Tryz.ntmps80
   unfold vSg;go_wp2_with (first
    | (go_at_call 62;refine(j6x t A n c l _ ((HL.o.alloc _).alloc _) a6 a5).mono ?_;rintro e w1 ⟨rfl,a0⟩;obtain⟨ad,ae⟩:=bc a0;have a4:=a0.size;simp at a4;have g1:w.heap.size<w1.heap.size:=(by omega);have g2:w.heap.size+1<w1.heap.size:=(by omega);have a2:=zQ9 a0;clear a0)
    | (go_at_call 113;refine(j9c s _).mono ?_;rintro e w2 ⟨rfl,a1⟩;have ac:=a1.size;have g3:w.heap.size<w2.heap.size:=(by omega);have g4:w.heap.size+1<w2.heap.size:=(by omega);have a3:=zQ9 a1;clear a1))
   go_ret2
   exact⟨.slice none 0 0,by simp[mayE,HC.o],by simpa[mayR,mayE,HC.o,HS.o] using Own.nil_,a7.trans ((a2.o.mono (by simp;omega)).trans (a3.o.mono (by omega)))⟩
 ·have h0:(check t l != 0)=true:=by simp[hck]
  have HC:=zQ9 hck;clear hck;go_enter Tryz.func80,Tryz.ntmps80
  unfold vSg;go_wp2_with (go_at_call 62;refine(j6x t A n c l _ ((HL.o.alloc _).alloc _) a6 a5).mono ?_;rintro e w1 ⟨rfl,a0⟩;have a2:=zQ9 a0;clear a0)
  go_ret2
  exact⟨.slice none 0 0,by simp[mayE,HC.o],by simpa[mayR,mayE,HC.o] using Own.nil_,a7.trans (a2.o.mono (by simp;omega))⟩
theorem j4l {α:Type} {x y:List α} {k:Nat} {u v:α} (h:x.take k=y.take k) (hx:x[k]?=some u) (hy:y[k]?=some v) (he:u=v):x.take (k+1)=y.take (k+1):=by
 rw[List.take_add_one,List.take_add_one,hx,hy,h,he]
theorem j8d {α:Type} {x y:List α} {k:Nat} {u v:α} (hx:x[k]?=some u) (hy:y[k]?=some v) (he:¬u=v):¬x=y:=fun h=>by
 subst h;rw[hx] at hy;cases hy;exact he rfl
def j1j {α:Type} [DecidableEq α] (x y:List α):Bool:=decide (x=y)
theorem j8l (A:Option Addr) (n c:Nat) (x:List Int) (B:Option Addr) (m d:Nat) (y:List Int) (w:World) (hx:Ints w A n x) (hy:Ints w B m y) (hn:n<=maxLen) (hm:m<=maxLen) :
 Calls Tryz.prog 48 #[.slice A n c,.slice B m d] w fun e w'=>e=.returned (.bool (j1j x y))∧Below w.heap.size w w':=by
 have a1:=hx.len;have a3:=hy.len;have HL:=zQ9 (zA9 a1 a3);have a2:=zQ9 (zA9 hx hy);unfold maxLen at hn hm;clear a1 a3 hx hy;by_cases hnm:n=m
 ·subst hnm;have h0:(n != n)=false:=by simp
  have a5:((n:Int) != (n:Int))=false:=by simp
  go_enter Tryz.func48,Tryz.ntmps48
  go_wp2_with fail
  go_loopg [5] n (fun g i wr=>∃ k:Nat,k+g=n∧i=.int .i64 k∧x.take k=y.take k∧∃ q,wr=w.drewN q)
  case atStart=>exact⟨0,by omega,rfl,by simp,0,rfl⟩
  case round =>
   obtain⟨k,hk,rfl,a4,q,rfl⟩:=hrel;have HK:=zQ9 (zA9 hk a4);have a6:k<=n:=by omega
   clear hk a4;by_cases hlt:k<n
   ·obtain⟨b0,o0,u,rfl,a7,hu,p0⟩:=Ints.get a2.o.1 hlt;obtain⟨b1,o1,v,rfl,a8,hv,q0⟩:=Ints.get a2.o.2 hlt;have i0:(0:Int)<=(k:Int):=by omega
    have i1:(k:Int)<(n:Int):=by omega
    have a0:=zQ9 (zA9 hu hv);clear hu hv;by_cases huv:u=v
    ·have h1:(u != v)=false:=by simp[huv]
     have HE:=zQ9 huv;clear huv;go_upto_region 6 with (fail)
     go_quiet (fail)
     go_wp2
     go_roundg (gk-1)
     case measure=>have:=HK.o.1;omega
     case rel=>exact⟨k+1,by have:=HK.o.1;omega,by go_num,j4l HK.o.2 a0.o.1 a0.o.2 HE.o,_,rfl⟩
    ·have h1:(u != v)=true:=by simp[huv]
     have HE:=zQ9 huv;clear huv;go_upto_region 6 with (fail)
     go_quiet (fail)
     go_wp2
     go_ret
     exact⟨j0s (by unfold j1j;rw[decide_eq_false (j8d a0.o.1 a0.o.2 HE.o)]),j0k (j0k (zB2 _ _) _) _⟩
   ·obtain rfl:k=n:=by omega
    go_wp2
    go_ret
    refine⟨j0s ?_,j0k (zB2 _ _) _⟩;have h:=HK.o.2;rw[zB8 (by rw[HL.o.1];omega),zB8 (by rw[HL.o.2];omega)] at h
    unfold j1j;rw[decide_eq_true h]
 ·have h0:(n != m)=true:=by simpa using hnm
  have a5:((n:Int) != (m:Int))=true:=by simp;omega
  have HE:=zQ9 hnm;clear hnm;go_enter Tryz.func48,Tryz.ntmps48
  go_wp2
  go_ret
  exact⟨j0s (by unfold j1j;rw[decide_eq_false (fun h=>HE.o (by rw[<-HL.o.1,<-HL.o.2,h]))]),zB2 _ _⟩
theorem j7y {α:Type} {enc:α->List Value} {sz:Nat} (h:∀ x,(enc x).length=sz) (l:List α):(l.flatMap enc).length=l.length*sz:=by
 induction l with
 | nil=>simp
 | cons a r ih=>rw[List.flatMap_cons,List.length_append,ih,h,List.length_cons,Nat.succ_mul];omega
theorem k2e {α:Type} {enc:α->List Value} {sz:Nat} (a0:0<sz) (h:∀ x,(enc x).length=sz):∀ (l:List α) (j:Nat) (u:Value),(l.flatMap enc)[j]?=some u->∃ x,l[j / sz]?=some x∧(enc x)[j % sz]?=some u
 | [],j,u,hu=>by simp at hu
 | a::r,j,u,hu=>by
   rw[List.flatMap_cons] at hu;rcases Nat.lt_or_ge j sz with hj|hj
   ·rw[List.getElem?_append_left (by rw[h];exact hj)] at hu
    exact⟨a,by rw[Nat.div_eq_of_lt hj];rfl,by rw[Nat.mod_eq_of_lt hj];exact hu⟩
   ·rw[List.getElem?_append_right (by rw[h];exact hj),h] at hu
    obtain⟨x,h1,h2⟩:=k2e a0 h r (j-sz) u hu;have e1:j=(j-sz)+sz:=by omega
    refine⟨x,?_,?_⟩
    ·rw[e1,Nat.add_div_right _ a0];simpa using h1
    ·rw[e1,Nat.add_mod_right];exact h2
theorem j7u {α:Type} {enc:α->List Value} {P:Program} {t e:TypeId} {sz bytes:Nat} (E:ElemOk P t e sz bytes) {ops:Array Oper} {rest:List Oper} {o:Oper} {a:Act} {Q:Exit->Act->World->Prop} {w:World}
 (a8:o.guard=none) (s x:Operand) (ho:o.op=.call { callee:=.builtin .append,args:=#[s,x],argTypes:=#[t,t] })
 (base:Nat) (v:Value) (l:List α) (A:Option Addr) (m c:Nat) (l2:List α) (hs:a.eval s=v) (hx:a.eval x=.slice A m c) (a3:Sl enc sz w A m l2) (hz:A=none->c=0)
 (a4:∀ x,(enc x).length=sz) (h1:∀ x,∀ u∈enc x,u.oneCell'=true)
 (a0:Own enc e sz w base v l) (ag:l.length+m<4294967296) (af:bytes<=4096) (a1:base<=w.heap.size)
 (h:∀ v' w',Own enc e sz w' base v' (l++l2)->w.grownBy w' v.ownBlock->Below base w w'->wpList P ops Q rest (a.put o.dst v') w') :
 wpList P ops Q (o::rest) a w:=by
 obtain⟨i,z,hi,ac,a5,a2,a9⟩:=E.info;cases A with
 | none =>
   have hc:=hz rfl;subst hc;have hm:m=0:=by
    rcases Nat.eq_zero_or_pos m with h0|h0
    ·exact h0
    ·obtain⟨b,off,hA,_⟩:=a3.2 h0;cases hA
   subst hm;have ae:l2=[]:=zC1 a3.1;subst ae;refine wpList_append_own_none a8 s x t ho base e i sz E.sl hi v l.length (l.flatMap enc) hs a0 hx ?_;exact h v w (by rw[List.append_nil];exact a0) (World.grownBy.refl w _) (zB2 _ _)
 | some ad =>
   refine wpList_append_own w a8 s x t ho base e i z sz bytes E.sl hi ac a5 a2 a9 E.pos v l.length (l.flatMap enc) hs a0 ad m c (l2.flatMap enc) hx (by rw[j7y a4,a3.1]) ?_ ?_ (by unfold maxLen;omega) ?_ a1 ?_
   ·intro j u hu;obtain⟨y,hy,a7⟩:=k2e E.pos a4 l2 j u hu;have aa:=(List.getElem?_eq_some_iff.1 hy).1;obtain⟨b,off,hA,hc⟩:=a3.2 (a3.1 ▸ Nat.lt_of_le_of_lt (Nat.zero_le _) aa);cases hA;have:=hc _ y hy _ u a7;rw[Addr.add_lit];have e1:off+j / sz*sz+j % sz=off+j:=by rw[Nat.add_assoc,Nat.div_add_mod']
    rw[e1] at this;exact this
   ·intro u hu;obtain⟨y,hy,a7⟩:=List.mem_flatMap.1 hu;exact h1 y u a7
   ·calc (l.length+m)*bytes<=4294967296*4096:=Nat.mul_le_mul (by omega) af
     _<=140737488355328:=by omega
   ·intro v' w' a6 hg _;refine h v' w' ?_ hg ((zB2 _ _).grown hg a1 (fun k hk=>(Own.lt a0 k hk).1))
    have e2:(l++l2).flatMap enc=l.flatMap enc++l2.flatMap enc:=by simp
    unfold Own;rw[e2,List.length_append,a3.1];exact a6
def RegIs (base:Nat) (t:Int) (l:List Mk) (e:Ending) (w':World):Prop:=∃ A c,e=.returned (.agg #[.int .i64 t,.slice A l.length c])∧OwnM w' base (.slice A l.length c) l∧Marks w' A l.length l∧l.length<=c∧c<=maxLen∧(A=none->c=0)
theorem k1r {α:Type} {enc:α->List Value} {e:TypeId} {sz:Nat} {w:World} {base:Nat} {v:Value} {l:List α} (h:Own enc e sz w base v l) (a0:∀ x,(enc x).length=sz) :
 ∃ A c,v=.slice A l.length c∧Sl enc sz w A l.length l∧l.length<=c∧c<=maxLen∧(A=none->c=0):=by
 rcases h.2 with ⟨hv,h0⟩|⟨g,cap,cur,hv,hg,hh,a2,a1,r⟩
 ·have hl:l=[]:=zC1 h0;subst hl;exact⟨none,0,hv,Sl.nil_,zL9 _,Nat.zero_le _,fun _=>rfl⟩
 ·subst hv;exact⟨_,cap,rfl,Sl.of_own (fun x _=>a0 x) h rfl,a2,a1,fun h=>by cases h⟩
theorem k3m (t:Int) (A:Option Addr) (n c:Nat) (l:List Mk) (w:World) (hl:Marks w A n l) (hz:A=none->c=0) (hn:n<=4294967295) :
 Calls Tryz.prog 51 #[.agg #[.int .i64 t,.slice A n c]] w fun e w'=>RegIs w.heap.size t l e w'∧Below w.heap.size w w':=by
 have HL:=zQ9 hl;have HZ:=zQ9 hz;clear hl hz;go_enter Tryz.func51,Tryz.ntmps51
 go_upto_region 1 with (fail)
 obtain⟨W,hW⟩:∃ W,W=(w.alloc (.cells #[.int .i64 t,.slice A n c] 24)).alloc (.cells #[.int .i64 0,.slice none 0 0] 24):=⟨_,rfl⟩;rw[<-hW];have hB:Below w.heap.size w W:=by rw[hW];exact bal (bal0 w _) (zL9 _) _
 have b0:W.heap[w.heap.size]?=some (.cells #[.int .i64 t,.slice A n c] 24 (0,0)):=by rw[hW];exact j0b (j0c rfl) _
 have b1:W.heap[w.heap.size+1]?=some (.cells #[.int .i64 0,.slice none 0 0] 24 (0,0)):=by rw[hW];exact j0c (by simp)
 clear hW;obtain⟨r0,r1⟩:=blk2 b0;have f1:=frz b0 1;have z1:=j0a b1;have z0:w.heap.size<W.heap.size:=by omega
 have HB:=zQ9 (zA9 hB (zA9 b0 b1));clear hB b0 b1;have ad:Marks (W.alloc (Obj.cells #[] 117)) A n l:=(HL.o.below HB.o.1 (zL9 _)).alloc _;have af:=zQ9 ad;clear ad;have a1:OwnM (W.alloc (Obj.cells #[] 117)) (w.heap.size+1+1) (.slice (some ⟨W.heap.size,0,none⟩) 0 0) []:=Own.lit (enc:=eMk) W (w.heap.size+1+1) #[] [] rfl j2h (by omega) (by simp[maxLen])
 have a9:=zQ9 a1;clear a1;go_wp2_with (at_builtin;refine j7u k1q rfl (.tmp 3) (.tmp 5) rfl (w.heap.size+1+1) (.slice (some ⟨W.heap.size,0,none⟩) 0 0) [] A n c l rfl rfl af.o HZ.o j2h j9r a9.o ?_ ?_ ?_ ?_;(simp;omega);(omega);(simp;omega);intro v' w5 a0 a8 a2;obtain⟨A5,c5,ae,a4,a3,a7,a6⟩:=k1r a0 j2h;rw[ae];have aa:=(a2.block w.heap.size (by omega)).trans (j0b HB.o.2.1 _);have a5:=(a2.block (w.heap.size+1) (by omega)).trans (j0b HB.o.2.2 _);obtain⟨k0,k1⟩:=blk2 aa;obtain⟨j0,j1⟩:=blk2 a5;have k2:=frz aa 1;have l0:=frz a5 0;have l1:=frz a5 1;have HH:=zQ9 (zA9 a0 (zA9 a2 (zA9 a4 (zA9 a3 (zA9 a7 a6)))));clear a0 a8 a2 a4 a3 a7 a6 aa a5)
 refine bodyPost_ret (v:=.agg #[.int .i64 t,.slice A5 l.length c5]) (by simp[results,Tryz.f51,go_sem,k0,k1,j0,j1]) rfl ?_
 obtain⟨a0,a2,a4,a3,a7,a6⟩:=HH.o;rw[ae] at a0;simp only[List.nil_append] at a0 a4 a3;have ac:∀ j,w.heap.size+1+1<=j->(((w5.setCell ⟨w.heap.size,1,none⟩ (.slice A5 l.length c5)).setCell ⟨w.heap.size+1,0,none⟩ (.int .i64 t)).setCell ⟨w.heap.size+1,1,none⟩ (.slice A5 l.length c5)).heap[j]?=w5.heap[j]?:=fun j hj =>
  (zB1 _ ⟨w.heap.size+1,1,none⟩ _ _ (by dsimp;omega)).trans ((zB1 _ ⟨w.heap.size+1,0,none⟩ _ _ (by dsimp;omega)).trans (zB1 _ ⟨w.heap.size,1,none⟩ _ _ (by dsimp;omega)))
 have ho:=a0.upon ac;refine⟨⟨A5,c5,rfl,ho.mono (by omega),(ho.sl j2h).1,a3,a7,a6⟩,?_⟩
 have ag:Below w.heap.size w w5:=(bal HB.o.1 (zL9 _) _).trans (a2.mono (by omega))
 exact((ag.setCell (by dsimp;omega) _).setCell (by dsimp;omega) _).setCell (by dsimp;omega) _
theorem k2l (t u:Int) (A:Option Addr) (n c:Nat) (l:List Mk) (B:Option Addr) (m d:Nat) (k2:List Mk) (w:World) (hl:Marks w A n l) (hk:Marks w B m k2) (hn:n<=maxLen) (hm:m<=maxLen) :
 Calls Tryz.prog 68 #[.agg #[.int .i64 t,.slice A n c],.agg #[.int .i64 u,.slice B m d]] w fun e w'=>e=.returned (.bool (decide (t=u)&&j1j l k2))∧Below w.heap.size w w':=by
 have HN:=zQ9 (zA9 hl.len hk.len);unfold maxLen at hn hm;obtain⟨W,hW⟩:∃ W,W=(w.alloc (.cells #[.int .i64 t,.slice A n c] 24)).alloc (.cells #[.int .i64 u,.slice B m d] 24):=⟨_,rfl⟩;have hB:Below w.heap.size w W:=by rw[hW];exact bal (bal0 w _) (zL9 _) _
 have b0:W.heap[w.heap.size]?=some (.cells #[.int .i64 t,.slice A n c] 24 (0,0)):=by rw[hW];exact j0b (j0c rfl) _
 have b1:W.heap[w.heap.size+1]?=some (.cells #[.int .i64 u,.slice B m d] 24 (0,0)):=by rw[hW];exact j0c (by simp)
 have HL:=zQ9 (zA9 (hl.below hB (zL9 _)) (hk.below hB (zL9 _)));obtain⟨r0,r1⟩:=blk2 b0;obtain⟨q0,q1⟩:=blk2 b1;have z1:=j0a b1;have HB:=zQ9 hB;clear hl hk hB b0 b1;by_cases htu:t=u
 ·subst htu;have ht:(t != t)=false:=by simp
  by_cases hnm:n=m
  ·subst hnm;have h0:(n != n)=false:=by simp
   have a2:((n:Int) != (n:Int))=false:=by simp
   go_enter Tryz.func68,Tryz.ntmps68
   go_upto_region 1 with (fail)
   rw[<-hW];clear hW;go_wp2_with fail
   go_loopg [5] n (fun g i wr=>∃ k:Nat,k+g=n∧i=.int .i64 k∧l.take k=k2.take k∧∃ q,wr=W.drewN q)
   case atStart=>exact⟨0,by omega,rfl,by simp,0,rfl⟩
   case round =>
    obtain⟨k,hk,rfl,a1,q,rfl⟩:=hrel;have HK:=zQ9 (zA9 hk a1);have a7:k<=n:=by omega
    clear hk a1;by_cases hlt:k<n
    ·obtain⟨b,off,x,rfl,hb,hx,p0,p1,p2⟩:=Marks.get HL.o.1 hlt;obtain⟨b',a3,y,rfl,a6,hy,s0,s1,s2⟩:=Marks.get HL.o.2 hlt;have a0:=zQ9 (zA9 hx hy);clear hx hy;have i0:(0:Int)<=(k:Int):=by omega
     have i1:(k:Int)<(n:Int):=by omega
     by_cases hxy:x=y
     ·subst hxy;go_upto_region 6 with (fail)
      go_quiet (fail)
      go_wp2
      go_roundg (gk-1)
      case measure=>have:=HK.o.1;omega
      case rel=>exact⟨k+1,by have:=HK.o.1;omega,by go_num,j4l HK.o.2 a0.o.1 a0.o.2 rfl,_,rfl⟩
     ·have a4:=zQ9 hxy;cases e1:(x.n==y.n)<;>cases e2:(x.b==y.b)<;>cases e3:(x.p==y.p)
      case true.true.true =>
       exfalso;exact hxy (by cases x;cases y;simp at e1 e2 e3;simp[e1,e2,e3])
      all_goals
       clear hxy;go_upto_region 6 with (fail)
       go_quiet (fail)
       go_wp2
       go_ret
       exact⟨j0s (by unfold j1j;rw[decide_eq_false (j8d a0.o.1 a0.o.2 a4.o)];simp),j0k (j0k HB.o _) _⟩
    ·obtain rfl:k=n:=by omega
     go_wp2
     go_ret
     refine⟨j0s ?_,j0k HB.o _⟩;have h:=HK.o.2;rw[zB8 (by rw[HN.o.1];omega),zB8 (by rw[HN.o.2];omega)] at h
     unfold j1j;rw[decide_eq_true h];simp
  ·have h0:(n != m)=true:=by simpa using hnm
   have a2:((n:Int) != (m:Int))=true:=by simp;omega
   have HE:=zQ9 hnm;clear hnm;go_enter Tryz.func68,Tryz.ntmps68
   go_upto_region 1 with (fail)
   rw[<-hW];clear hW;go_wp2
   go_ret
   have a5:¬l=k2:=fun h=>HE.o (by rw[<-HN.o.1,<-HN.o.2,h])
   exact⟨j0s (by unfold j1j;rw[decide_eq_false a5];simp),HB.o⟩
 ·have ht:(t != u)=true:=by simpa using htu
  have HE:=zQ9 htu;clear htu;go_enter Tryz.func68,Tryz.ntmps68
  go_upto_region 1 with (fail)
  rw[<-hW];clear hW;go_wp2
  go_ret
  exact⟨j0s (by rw[decide_eq_false HE.o];simp),HB.o⟩
theorem cnt_mono {p q:Nat->Bool} (h:∀ i,i<8->p i=true->q i=true):cnt p<=cnt q :=
 List.countP_mono_left fun i hi=>h i (by simpa using hi)
theorem k2j (m:Mk) (s:Sg):(j2p m s).n=onI (orI m.n s.n) s.l s.r:=rfl
theorem onI_on (n:Int) (l r:Bool):onI (onI n l r) l r=onI n l r :=
 j5b (j5x _ _ _) (j3v _ _ _) (j5x _ _ _) (j3v _ _ _) fun i hi=>by
  rw[j2s _ _ _ _ hi,j2s _ _ _ _ hi];cases bit n i<;>cases j1q l r i<;>rfl
theorem k6q {m:Mk} {s:Sg} {t:Int} (hm:0<=m.n∧m.n<=255) (hs:0<=s.n∧s.n<=255) (hp:(popI s.n:Int)<=t):fits (j2p m s) m t=true:=by
 have e1:j3w (j2p m s) m=true:=by
  unfold j3w j2p;dsimp only;by_cases h1:s.b=-1<;>by_cases h2:s.p=-1<;>simp[h1,h2]
 have e2:butI (onI m.n s.l s.r) (j2p m s).n=0:=by
  rw[k2q (j5g _ _) (j5f _ _)];intro i hi;rw[k2j,j4o _ _ (j3v _ _ _) i hi,j2s _ _ _ _ hi,j2s _ _ _ _ hi,bit_or];cases bit m.n i<;>cases bit s.n i<;>cases j1q s.l s.r i<;>rfl
 have e3:popI (butI (j2p m s).n (onI m.n s.l s.r))<=popI s.n:=by
  unfold popI;refine cnt_mono fun i hi h=>?_
  rw[k2j,j4o _ _ (j3v _ _ _) i hi,j2s _ _ _ _ hi,j2s _ _ _ _ hi,bit_or] at h;revert h;cases bit m.n i<;>cases bit s.n i<;>cases j1q s.l s.r i<;>simp
 unfold fits;rw[e1];have e4:(j2p m s).l=s.l:=rfl;have e5:(j2p m s).r=s.r:=rfl;rw[e4,e5,e2];simp;omega
theorem k7o {m:Mk} {s:Sg} (hm:(0<=m.n∧m.n<=255)∧(0<=m.b∧m.b<=9)∧0<=m.p∧m.p<=6):seen (j2p m s) 9 6=0:=by
 unfold seen;rw[if_neg (by simp[j0o,k2j,j5x,j3v]),if_neg (by rw[k2j];show ¬onI (onI (orI m.n s.n) s.l s.r) s.l s.r≠onI (orI m.n s.n) s.l s.r;rw[onI_on];simp),if_neg,if_neg]
 ·rintro⟨h1,h2⟩;have e:(j2p m s).p=m.p:=by unfold j2p at h1 ⊢;dsimp only at h1 ⊢;split<;>simp_all
  rw[e,j9m] at h2;exact h2 hm.2.2
 ·rintro⟨h1,h2⟩;have e:(j2p m s).b=m.b:=by unfold j2p at h1 ⊢;dsimp only at h1 ⊢;split<;>simp_all
  rw[e,j9m] at h2;exact h2 hm.2.1
theorem k9k {t:Int} {l:List Mk} {s:Sg} {o:Nat} {m:Mk} (hm:l[o]?=some m) (hf:fits s m t=true):(o:Int)∈mayL t l s:=by
 unfold mayL j3y;refine List.mem_map.2 ⟨o,List.mem_filter.2 ⟨?_,?_⟩,rfl⟩
 ·rw[List.mem_range];exact(List.getElem?_eq_some_iff.1 hm).1
 ·rw[hm];simpa using hf
theorem k9h {t:Int} {l:List Mk} {s:Sg} {o:Nat} {m:Mk} (hm:l[o]?=some m):(o:Int)∈mayL t l s↔fits s m t=true:=by
 refine⟨fun h=>?_,k9k hm⟩
 unfold mayL j3y at h;obtain⟨i,hi,he⟩:=List.mem_map.1 h;have:i=o:=by have a0:(i:Int)=(o:Int):=he;omega
 subst this;have:=(List.mem_filter.1 hi).2;rw[hm] at this;simpa using this
theorem Dealt.cell {w w':World} {H N:Nat} (h:Dealt w w' H N) {b o:Nat} {v:Value} (hc:w.cell? ⟨b,o,none⟩=some v) (a0:b≠H):w'.cell? ⟨b,o,none⟩=some v:=h.gr.cell hc (fun e=>a0 (by simpa using e))
theorem Dealt.undrew {w w':World} {H N:Nat} (h:Dealt w.drew w' H N):Dealt w w' H N:=⟨h.hd,⟨h.gr.os,h.gr.tape,h.gr.output,h.gr.size,h.gr.block⟩⟩
end Go.Proofs.YtmennjmjakdkcaaGreat
