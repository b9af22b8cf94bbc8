/- HerdHas. -/
import Derived.Deep.RegionHeld3
import Derived.Test.YtmennjmjakdkcaaGreatHs04
import Derived.Laws.AppendOwnNone
set_option linter.unusedVariables false
set_option linter.unusedSimpArgs false
set_option maxRecDepth 100000
set_option maxHeartbeats 2000000
namespace Go.Proofs.YtmennjmjakdkcaaGreat
open Go.RowKit
theorem k4p:ElemOk Tryz.prog 26 25 1 24:=ElemOk.mk' (z:=.slice none 0 0) Tryz.underlying26 (by kernel_rfl) rfl (by decide)
def Rws (w:World) (base:Nat) (mv:List Value) (ls:List (List Int)):Prop :=
 mv.length=ls.length∧∀ (i:Nat) v,mv[i]?=some v→∃ l,ls[i]?=some l∧OwnI w base v l
def OwnG (w:World) (base:Nat) (v:Value) (ls:List (List Int)):Prop:=∃ mv,Own eVal 25 1 w base v mv∧Rws w base mv ls
theorem j1g {α β:Type} {ea:α→List Value} {eb:β→List Value} {t u:TypeId} {s r:Nat} {w:World} {b c:Nat} {x y:Value} {l:List α} {m:List β} (h:Own ea t s w b x l) (k:Own eb u r w c y m) (hne:t≠u) :
 x.ownBlock=none∨x.ownBlock≠y.ownBlock:=by
 rcases h.2 with ⟨rfl,_⟩|⟨g,cap,cur,rfl,_,h2,_⟩
 ·exact .inl rfl
 ·refine .inr ?_
  rcases k.2 with ⟨rfl,_⟩|⟨g',cap',cur',rfl,_,k2,_⟩
  ·simp[Value.ownBlock]
  ·intro e
   simp only[Value.ownBlock,Option.some.injEq] at e
   subst e
   rw[h2] at k2
   cases k2
   exact hne rfl
theorem OwnG.below {w w':World} {base B:Nat} {v:Value} {ls:List (List Int)} (h:OwnG w base v ls) (hb:Below B w w') (hB:w.heap.size≤B):OwnG w' base v ls:=by
 obtain⟨mv,h1,h2,h3⟩:=h
 exact⟨mv,h1.below hb hB,h2,fun i v hv=>by
  obtain⟨l,hl,ho⟩:=h3 i v hv
  exact⟨l,hl,ho.below hb hB⟩⟩
theorem OwnG.mono {w:World} {base b:Nat} {v:Value} {ls:List (List Int)} (h:OwnG w base v ls) (hb:b≤base):OwnG w b v ls:=by
 obtain⟨mv,h1,h2,h3⟩:=h
 exact⟨mv,h1.mono hb,h2,fun i v hv=>by
  obtain⟨l,hl,ho⟩:=h3 i v hv
  exact⟨l,hl,ho.mono hb⟩⟩
theorem OwnG.upon {w w':World} {base:Nat} {v:Value} {ls:List (List Int)} (h:OwnG w base v ls) (k:∀ j,base≤j→w'.heap[j]?=w.heap[j]?):OwnG w' base v ls:=by
 obtain⟨mv,h1,h2,h3⟩:=h
 exact⟨mv,h1.upon k,h2,fun i v hv=>by
  obtain⟨l,hl,ho⟩:=h3 i v hv
  exact⟨l,hl,ho.upon k⟩⟩
theorem OwnG.snoc {w w':World} {base:Nat} {v v' u:Value} {mv:List Value} {ls:List (List Int)} {l:List Int} (h1:Own eVal 25 1 w base v mv) (h2:Rws w base mv ls) (hu:OwnI w base u l)
 (h3:Own eVal 25 1 w' base v' (mv++[u])) (hg:w.grownBy w' v.ownBlock):OwnG w' base v' (ls++[l]):=by
 refine⟨mv++[u],h3,by simp[h2.1],fun i x hx=>?_⟩
 rcases Nat.lt_or_ge i mv.length with hi|hi
 ·rw[List.getElem?_append_left hi] at hx
  obtain⟨l',hl',ho⟩:=h2.2 i x hx
  exact⟨l',by rw[List.getElem?_append_left (by rw[←h2.1];exact hi)];exact hl',ho.kept hg (j1g ho h1 (by decide))⟩
 ·rw[List.getElem?_append_right hi] at hx
  have h0:i-mv.length=0:=by
   cases hd:i-mv.length with
   | zero=>rfl
   | succ k=>rw[hd] at hx;simp at hx
  rw[h0] at hx
  simp only[List.getElem?_cons_zero,Option.some.injEq] at hx
  subst hx
  refine⟨l,?_,hu.kept hg (j1g hu h1 (by decide))⟩
  rw[List.getElem?_append_right (by rw[←h2.1];exact hi),show i-ls.length=0 by rw[←h2.1];exact h0]
  rfl
theorem set4_2 {W:World} {g:Nat} {t:TypeId} {a b c d z:Value} (h:W.heap[g]?=some (.cells #[a,b,c,d] t (0,0))):(W.setCell ⟨g,2,none⟩ z).heap[g]?=some (.cells #[a,b,z,d] t (0,0)):=by
 simp[World.setCell,Array.getElem?_modify,h]
theorem q3r {base gx:Nat} {Wy w3 w4:World} {T:TypeId} {a b d v v4 u:Value} {mv:List Value} {ls:List (List Int)} {l:List Int} {o:Obj}
 (bx:Wy.heap[gx]?=some (.cells #[a,b,v,d] T (0,0))) (hov:Own eVal 25 1 Wy base v mv) (hrw:Rws Wy base mv ls) (hgb:gx<base) (hbz:base≤Wy.heap.size)
 (hb3:Below Wy.heap.size Wy w3) (hu:OwnI w3 Wy.heap.size u l) (hov4:Own eVal 25 1 w4 base v4 (mv++[u])) (hgr:(w3.alloc o).grownBy w4 v.ownBlock) :
 (w4.setCell ⟨gx,2,none⟩ v4).heap[gx]?=some (.cells #[a,b,v4,d] T (0,0))∧Own eVal 25 1 (w4.setCell ⟨gx,2,none⟩ v4) base v4 (mv++[u]) ∧
   Rws (w4.setCell ⟨gx,2,none⟩ v4) base (mv++[u]) (ls++[l])∧Below gx Wy (w4.setCell ⟨gx,2,none⟩ v4):=by
 have hz3:=hb3.size
 have hov3:=(hov.below hb3 (zL9 _)).alloc o
 have hvl:=hov.lt
 have hne:v.ownBlock≠some gx:=fun h=>by have:=hvl _ h;omega
 have h4:w4.heap[gx]?=some (.cells #[a,b,v,d] T (0,0)) :=
  (hgr.block gx (by simp;omega) (fun e=>hne e.symm)).trans (j0b ((hb3.block gx (by omega)).trans bx) o)
 have hfar:∀ j,j≠gx→(w4.setCell ⟨gx,2,none⟩ v4).heap[j]?=w4.heap[j]?:=fun j hj=>Below.heap_setCell w4 ⟨gx,2,none⟩ v4 j hj
 have keep:∀ {α:Type} {enc:α→List Value} {t:TypeId} {s:Nat} {x:Value} {l:List α},Own enc t s w4 base x l→Own enc t s (w4.setCell ⟨gx,2,none⟩ v4) base x l:=fun {α enc t s x l} h=>by
  refine⟨h.1,?_⟩
  rcases h.2 with h2|⟨g,cap,cur,hv,hg,hh,r⟩
  ·exact .inl h2
  ·exact .inr ⟨g,cap,cur,hv,hg,(hfar g (by omega)).trans hh,r⟩
 have hR:Rws (w3.alloc o) base mv ls:=⟨hrw.1,fun i x hx=>by
  obtain⟨l',hl',ho⟩:=hrw.2 i x hx
  exact⟨l',hl',(ho.below hb3 (zL9 _)).alloc o⟩⟩
 obtain⟨mv',m1,m2⟩:=OwnG.snoc hov3 hR ((hu.mono hbz).alloc o) hov4 hgr
 have hR4:Rws w4 base (mv++[u]) (ls++[l]):=by
  refine⟨by simp[hrw.1],fun i x hx=>?_⟩
  rcases Nat.lt_or_ge i mv.length with hi|hi
  ·rw[List.getElem?_append_left hi] at hx
   obtain⟨l',hl',ho⟩:=hR.2 i x hx
   exact⟨l',by rw[List.getElem?_append_left (by rw[←hrw.1];exact hi)];exact hl',ho.kept hgr (j1g ho hov3 (by decide))⟩
  ·have h0:i=mv.length:=by
    have:=(List.getElem?_eq_some_iff.1 hx).1
    simp at this;omega
   subst h0
   simp at hx
   subst hx
   exact⟨l,by rw[hrw.1];simp,((hu.mono hbz).alloc o).kept hgr (j1g ((hu.mono hbz).alloc o) hov3 (by decide))⟩
 refine⟨set4_2 h4,keep hov4,⟨hR4.1,fun i x hx=>?_⟩,?_⟩
 ·obtain⟨l',hl',ho⟩:=hR4.2 i x hx
  exact⟨l',hl',keep ho⟩
 ·have hbb:Below gx Wy w4:=((hb3.mono (by omega)).trans ((bal0 w3 o).mono (by omega))).trans ((Below.refl _ _).grown hgr (by simp;omega) (fun k hk=>by have:=hvl _ hk;omega))
  exact hbb.setCell (zL9 gx:gx≤(⟨gx,2,none⟩:Addr).block) _
def Grid (w:World) (A:Option Addr) (n:Nat) (ls:List (List Int)):Prop :=
 ∃ mv,Sl eVal 1 w A n mv∧mv.length=ls.length∧∀ (i:Nat) v,mv[i]?=some v→∃ B l c,ls[i]?=some l∧v=.slice B l.length c∧Ints w B l.length l∧l.length≤c∧c≤maxLen
theorem OwnG.form {w:World} {base:Nat} {v:Value} {ls:List (List Int)} (h:OwnG w base v ls):∃ A c,v=.slice A ls.length c∧Grid w A ls.length ls∧ls.length≤c∧c≤maxLen:=by
 obtain⟨mv,h1,h2,h3⟩:=h
 obtain⟨A,c,hv,hs,hc,hm⟩:=h1.form j3c
 rw[h2] at hv hs hc
 refine⟨A,c,hv,⟨mv,hs,h2,fun i v hv=>?_⟩,hc,hm⟩
 obtain⟨l,hl,ho⟩:=h3 i v hv
 obtain⟨B,c',hv',hs',hc',hm'⟩:=ho.form j0u
 exact⟨B,l,c',hl,hv',hs',hc',hm'⟩
theorem Grid.below {w w':World} {B:Nat} {A:Option Addr} {n:Nat} {ls:List (List Int)} (h:Grid w A n ls) (hb:Below B w w') (hB:w.heap.size≤B):Grid w' A n ls:=by
 obtain⟨mv,h1,h2,h3⟩:=h
 exact⟨mv,h1.below hb hB,h2,fun i v hv=>by
  obtain⟨C,l,c,a1,a2,a3,a4,a5⟩:=h3 i v hv
  exact⟨C,l,c,a1,a2,a3.below hb hB,a4,a5⟩⟩
theorem Grid.get {w:World} {A:Option Addr} {n:Nat} {ls:List (List Int)} (h:Grid w A n ls) {k:Nat} (hk:k<n) :
 ∃ b off B l c,A=some ⟨b,off,none⟩∧b<w.heap.size∧ls[k]?=some l∧w.cell? ⟨b,off+k,none⟩=some (.slice B l.length c)∧Ints w B l.length l∧l.length≤c∧c≤maxLen:=by
 obtain⟨mv,h1,h2,h3⟩:=h
 obtain⟨b,off,x,hA,hb,hx,hc⟩:=Vals.get h1 hk
 obtain⟨B,l,c,a1,a2,a3,a4,a5⟩:=h3 k x hx
 subst a2
 exact⟨b,off,B,l,c,hA,hb,a1,hc,a3,a4,a5⟩
theorem k9k {α:Type} {enc:α→List Value} {P:Program} {t e:TypeId} {sz bytes:Nat} (E:ElemOk P t e sz bytes) {ops:Array Oper} {o:Oper} {a:Act} {K:Act→World→Prop} {Q:Exit→Act→World→Prop} {F:Prop} {w:World}
 (hgd:o.guard=none) (s x:Operand) (ho:o.op=.call { callee:=.builtin .append,args:=#[s,x],argTypes:=#[t,t] })
 (base:Nat) (v:Value) (l:List α) (y:α) (cs:Array Value) (g:Nat) (hs:a.eval s=v) (hx:a.eval x=.slice (some ⟨g,0,none⟩) 1 1) (hg:w.heap[g]?=some (.cells cs e (0,0))) (hcs:cs.toList=enc y)
 (hlen:(enc y).length=sz) (h1:∀ u∈enc y,u.oneCell'=true)
 (hown:Own enc e sz w base v l) (hll:l.length<4294967296) (hby:bytes≤4096) (hbase:base≤w.heap.size)
 (h:∀ g' cap w',Own enc e sz w' base (.slice (some ⟨g',0,none⟩) (l.length+1) cap) (l++[y])→w.grownBy w' v.ownBlock→Below base w w'→K (a.put o.dst (.slice (some ⟨g',0,none⟩) (l.length+1) cap)) w') :
 if Region.wanted o (yielded ops a.tmps)=true then Oper.wp P o a w K Q else F:=by
 obtain⟨i,z,hi,hz,hsize,hbytes,hzs⟩:=E.info
 refine step_append_lies w hgd s x t ho base e i z sz bytes E.sl hi hz hsize hbytes hzs E.pos v l.length (l.flatMap enc) hs hown ⟨g,0,none⟩ 1 1 (enc y) hx (by omega) ?_ h1 (by omega) (by unfold maxLen;omega) ?_ hbase w.heap.size rfl ?_
 ·rw[←hcs];exact World.news_of_block hg
 ·calc (l.length+1)*bytes≤4294967296*4096:=Nat.mul_le_mul (by omega) hby
   _≤140737488355328:=by omega
 ·intro g' cap w' hown' hgr _ _
  refine h g' cap w' ?_ hgr ((Below.refl _ _).grown hgr hbase (fun k hk=>(Own.lt hown k hk).1))
  have e2:(l++[y]).flatMap enc=l.flatMap enc++enc y:=by simp
  unfold Own
  rw[e2,List.length_append]
  exact hown'
theorem k2d {α:Type} {enc:α→List Value} {P:Program} {t e:TypeId} {sz bytes:Nat} (E:ElemOk P t e sz bytes) {ops:Array Oper} {rest:List Oper} {o:Oper} {a:Act} {Q:Exit→Act→World→Prop} {w:World}
 (hgd:o.guard=none) (s x:Operand) (ho:o.op=.call { callee:=.builtin .append,args:=#[s,x],argTypes:=#[t,t] })
 (base:Nat) (v:Value) (l:List α) (y:α) (cs:Array Value) (hs:a.eval s=v) (hx:a.eval x=.slice (some ⟨w.heap.size,0,none⟩) 1 1) (hcs:cs.toList=enc y)
 (hlen:(enc y).length=sz) (h1:∀ u∈enc y,u.oneCell'=true)
 (hown:Own enc e sz w base v l) (hll:l.length<4294967296) (hby:bytes≤4096) (hbase:base≤w.heap.size)
 (h:∀ g' cap w',Own enc e sz w' base (.slice (some ⟨g',0,none⟩) (l.length+1) cap) (l++[y])→w.grownBy w' v.ownBlock→Below base w w'→wpList P ops Q rest (a.put o.dst (.slice (some ⟨g',0,none⟩) (l.length+1) cap)) w') :
 wpList P ops Q (o::rest) a (w.alloc (.cells cs e)):=by
 obtain⟨i,z,hi,hz,hsize,hbytes,hzs⟩:=E.info
 refine wpList_append_lies _ hgd s x t ho base e i z sz bytes E.sl hi hz hsize hbytes hzs E.pos v l.length (l.flatMap enc) hs (World.ownsRow.alloc hown _) ⟨w.heap.size,0,none⟩ 1 1 (enc y) hx (by omega) ?_ h1 (by omega) (by unfold maxLen;omega) ?_ (by simp;omega) (w.heap.size+1) (by simp) ?_
 ·rw[←hcs];exact World.news_of_block (heap_alloc_new w _)
 ·calc (l.length+1)*bytes≤4294967296*4096:=Nat.mul_le_mul (by omega) hby
   _≤140737488355328:=by omega
 ·intro g' cap w' hown' hgr _ _
  have hg0:w.grownBy w' v.ownBlock:=⟨hgr.os,hgr.tape,hgr.output,Nat.le_trans (by simp) hgr.size,fun k hk hne=>(hgr.block k (by simp;omega) hne).trans (Below.heap_alloc _ _ _ hk)⟩
  refine h g' cap w' ?_ hg0 ((Below.refl _ _).grown hg0 hbase (fun k hk=>(Own.lt hown k hk).1))
  have e2:(l++[y]).flatMap enc=l.flatMap enc++enc y:=by simp
  unfold Own
  rw[e2,List.length_append]
  exact hown'
theorem k7z {l:List Mk} (h1:∀ m∈l,mkOk m=true) (h2:l.Nodup):∀ j k,chk l j k=0
 | 0,_=>rfl
 | j+1,k=>by
   unfold chk
   cases hk:l[k]? with
   | none=>rfl
   | some m =>
     dsimp only
     have hm:=h1 m (List.mem_of_getElem? hk)
     rw[if_neg (by simp[hm]),if_neg,k7z h1 h2 j (k+1)]
     intro hc
     rw[List.contains_eq_mem,decide_eq_true_eq,List.mem_take_iff_getElem] at hc
     obtain⟨i,hi,he⟩:=hc
     have hk':=List.getElem?_eq_some_iff.1 hk
     obtain⟨hlt,hk2⟩:=hk'
     have h3:=(List.pairwise_iff_getElem.1 h2) i k (by omega) hlt (by omega)
     exact h3 (he.trans hk2.symm)
theorem q1l {t:Int} {l:List Mk} (ht:0≤t∧t≤2) (hl:l.length≤5) (h1:∀ m∈l,mkOk m=true) (h2:l.Nodup):check t l=0:=by
 unfold check
 rw[if_neg (by simp[j0n,ht.1,ht.2]),if_neg (by omega),k7z h1 h2]
def RegOut (w:World) (H N o:Nat) (e:Ending) (w':World):Prop:=∃ t l A c,e=.returned (.agg #[.int .i64 t,.slice A l.length c])∧check t l=0∧l.length≤o∧OwnM w' w.heap.size (.slice A l.length c) l∧Marks w' A l.length l∧l.length≤c∧c≤maxLen∧Dealt w w' H N
theorem set2_1 {W:World} {g:Nat} {t:TypeId} {a b z:Value} (h:W.heap[g]?=some (.cells #[a,b] t (0,0))):(W.setCell ⟨g,1,none⟩ z).heap[g]?=some (.cells #[a,z] t (0,0)):=by
 simp[World.setCell,Array.getElem?_modify,h]
theorem k5l (H N o:Nat) (w:World) (h:Hd w H N) (hN:N≤4611686018427380000) (ho:o≤5) :
 Calls Tryz.prog 70 #[.pointer (some ⟨H,0,none⟩),.int .i64 o] w (RegOut w H (N+100) o):=by
 have hH:=h.lt
 go_enter Tryz.func70,Tryz.ntmps70
 go_wp2_with fail
 have hD0:=((Dealt.refl h).alloc (Obj.cells #[Value.int .i64 0,.slice none 0 0] 24)).alloc (Obj.cells #[Value.int .i64 1,.int .i64 1,.int .i64 2] 3)
 have br0:((w.alloc (Obj.cells #[Value.int .i64 0,.slice none 0 0] 24)).alloc (Obj.cells #[Value.int .i64 1,.int .i64 1,.int .i64 2] 3)).heap[w.heap.size]?=some (Obj.cells #[Value.int .i64 0,.slice none 0 0] 24 (0,0)):=j0b (j0c rfl) _
 have hi0:=j7f (w.alloc (Obj.cells #[Value.int .i64 0,.slice none 0 0] 24)) 3 1 1 2
 rw[World.size_alloc] at hi0
 refine(j4a H N 0 (some ⟨w.heap.size+1,0,none⟩) 3 3 [1,1,2] _ hD0.hd (by omega) hi0 (fun b off e=>by cases e;omega) (by omega)).mono ?_
 rintro e w1 ⟨t,rfl,ht,hd1⟩
 have hD1:=hD0.trans hd1
 have br1:=hd1.blk br0 (by omega)
 have ht':0≤t∧t≤2:=by
  simp only[List.mem_cons,List.not_mem_nil,or_false] at ht
  omega
 clear hd1 hD0 br0 ht hi0 h
 go_wp2_with fail
 refine(j1o H (N+1) o _ (hD1.alloc _).hd (by omega) (by omega)).mono ?_
 rintro e w2 ⟨n0,rfl,hn0,hd2⟩
 have hD2:=(hD1.alloc (Obj.cells #[Value.int .i64 t,.slice none 0 0] 24)).trans hd2
 have br2:=hd2.blk (j0b br1 (Obj.cells #[Value.int .i64 t,.slice none 0 0] 24)) (by omega)
 have bq2:=hd2.blk (j0c rfl:(w1.alloc (Obj.cells #[Value.int .i64 t,.slice none 0 0] 24)).heap[w1.heap.size]?=some _) (by have:=j0a br1;omega)
 have hz1:w.heap.size<w1.heap.size:=j0a br1
 have hz2:w1.heap.size<w2.heap.size:=j0a bq2
 have hn5:n0≤o:=by omega
 clear hd2 hD1 br1 hn0
 go_wp2_with fail
 go_loopg [6] n0 (fun g i wr=>i=.int .i64 g∧g≤n0∧∃ v l,wr.heap[w1.heap.size]?=some (Obj.cells #[Value.int .i64 t,v] 24 (0,0))∧wr.heap[w.heap.size]?=some (Obj.cells #[Value.int .i64 0,.slice none 0 0] 24 (0,0)) ∧
  OwnM wr (w1.heap.size+1) v l∧(∀ m∈l,mkOk m=true)∧l.Nodup∧l.length+g≤n0∧Dealt w wr H (N+2+16*(n0-g)))
 case atStart=>exact⟨rfl,zL9 _,_,[],bq2,br2,Own.nil_,(fun m hm=>nomatch hm),List.nodup_nil,Nat.le_of_eq (Nat.zero_add _),hD2.mono (by omega)⟩
 case round =>
  obtain⟨rfl,hgn,v,l,bq,br,hown,hok,hnd,hlen,hD⟩:=hrel
  have HL:=zQ9 (zA9 hok hnd)
  clear hok hnd
  by_cases hg:0<gk
  ·obtain⟨A,c,rfl,hsl,hlc,hcm⟩:=hown.form j3l
   have hg':(0:Int)<(gk:Int):=by omega
   go_wp2_with fail
   refine(k4k H _ _ hD.hd (by omega)).mono ?_
   rintro e w3 ⟨m,rfl,hm,hd3⟩
   unfold vMk
   go_upto_region 6 with (fail)
   obtain⟨W3,hW⟩:∃ W3,W3=w3.alloc (Obj.cells #[Value.int .i64 m.n,.int .i64 m.b,.int .i64 m.p] 117):=⟨_,rfl⟩
   have hD3:Dealt w W3 H (N+2+16*(n0-gk)+16):=by rw[hW];exact(hD.trans hd3).alloc _
   have bq3:W3.heap[w1.heap.size]?=some (Obj.cells #[Value.int .i64 t,.slice A l.length c] 24 (0,0)):=by rw[hW];exact j0b (hd3.blk bq (by omega)) _
   have br3:W3.heap[w.heap.size]?=some (Obj.cells #[Value.int .i64 0,.slice none 0 0] 24 (0,0)):=by rw[hW];exact j0b (hd3.blk br (by omega)) _
   have hown3:OwnM W3 (w1.heap.size+1) (.slice A l.length c) l:=by rw[hW];exact(hown.kept hd3.gr (.inr (fun e=>by have:=hown.lt _ e;omega))).alloc _
   have bm3:W3.heap[w3.heap.size]?=some (Obj.cells #[Value.int .i64 m.n,.int .i64 m.b,.int .i64 m.p] 117 (0,0)):=by rw[hW];exact j0c rfl
   have hsz:w1.heap.size<w3.heap.size:=Nat.lt_of_lt_of_le (j0a bq) hd3.size
   rw[←hW]
   clear hW hd3 bq br hown hsl hlc hD
   obtain⟨r0,r1⟩:=blk2 bq3
   obtain⟨m0,m1,m2⟩:=blk3 bm3
   go_wp2_with fail
   obtain⟨hs3,hc3,hm3⟩:=hown3.sl j3l
   refine(q4p t A l.length c l m _ hs3 (by omega)).mono ?_
   rintro e w4 ⟨oo,rfl,hoo,hb4⟩
   have hD4:=hD3.less hb4 (zL9 _)
   have bq4:=j0e bq3 hb4 (zL9 _)
   have br4:=j0e br3 hb4 (zL9 _)
   have bm4:=j0e bm3 hb4 (zL9 _)
   have hown4:=hown3.below hb4 (zL9 _)
   have hz4:=hb4.size
   have hzm:=j0a bm3
   clear hD3 bq3 br3 bm3 hown3 hs3 r0 r1 m0 m1 m2 hb4
   obtain⟨r0,r1⟩:=blk2 bq4
   obtain⟨m0,m1,m2⟩:=blk3 bm4
   have f1:=frz bq4 1
   by_cases hin:m∈l
   ·have ho1:¬oo<0:=by simpa[hin] using hoo
    have ho2:0≤oo:=by omega
    clear hoo
    go_wp2
    go_roundg (gk-1)
    case measure=>omega
    case rel =>
     refine⟨by congr 1;omega,by omega,_,l,bq4,br4,hown4,HL.out.1,HL.out.2,by omega,hD4.mono (by omega)⟩
   ·have ho1:oo<0:=by simpa[hin] using hoo
    have HO:=zQ9 (zA9 hown4 (zA9 hD4 (zA9 bq4 br4)))
    have HIN:=zQ9 hin
    clear hoo hown4 hD4 bq4 br4 hin
    have hll:l.length<4294967296:=by omega
    go_wp2_with (at_builtin;refine k2d k8t rfl (.tmp 27) (.tmp 29) rfl (w1.heap.size+1) (Value.slice A l.length c) l m _ rfl rfl rfl rfl (k5k _) HO.out.1 hll ?_ ?_ ?_;(omega);(omega);intro g5 c5 w5 hown5 hgr5 hb5;have bq5:=(hgr5.block _ (j0a HO.out.2.2.1) (fun e=>by have:=HO.out.1.lt _ e.symm;omega)).trans HO.out.2.2.1;have q5:=(blk2 bq5).2;have f5:=frz bq5 1;have H5:=zQ9 (zA9 hown5 (zA9 hgr5 (zA9 hb5 bq5)));clear hown5 hgr5 hb5 bq5)
    obtain⟨hown5,hgr5,hb5,bq5⟩:=H5.out
    obtain⟨hown4,hD4,bq4,br4⟩:=HO.out
    go_roundg (gk-1)
    case measure=>omega
    case rel =>
     have hfar:∀ j,j≠w1.heap.size→(w5.setCell ⟨w1.heap.size,1,none⟩ (.slice (some ⟨g5,0,none⟩) (l.length+1) c5)).heap[j]?=w5.heap[j]?:=fun j hj=>Below.heap_setCell _ ⟨w1.heap.size,1,none⟩ _ _ hj
     have hrs:w5.heap[w.heap.size]?=some (Obj.cells #[Value.int .i64 0,.slice none 0 0] 24 (0,0)):=(hgr5.block _ (j0a br4) (fun e=>by have:=hown4.lt _ e.symm;omega)).trans br4
     have hD5:Dealt w w5 H (N+2+16*(n0-gk)+16):=by
      refine⟨hD4.hd.kept fun j hj=>hgr5.block j (Nat.lt_of_le_of_lt hj hD4.hd.lt) (fun e=>by have:=hown4.lt _ e.symm;omega),⟨hgr5.os.trans hD4.gr.os,hgr5.tape.trans hD4.gr.tape,hgr5.output.trans hD4.gr.output,Nat.le_trans hD4.gr.size hgr5.size,fun j hj hne=>?_⟩⟩
      exact(hgr5.block j (Nat.lt_of_lt_of_le hj hD4.gr.size) (fun e=>by have:=hown4.lt _ e.symm;omega)).trans (hD4.gr.block j hj hne)
     refine⟨by congr 1;omega,by omega,_,l++[m],set2_1 bq5,(hfar _ (by omega)).trans hrs,hown5.upon (fun j hj=>hfar j (by omega)),?_,?_,by simp;omega,(hD5.mono (by omega)).set (by dsimp;omega) (by dsimp;omega) _⟩
     ·intro x hx
      rcases List.mem_append.1 hx with h|h
      ·exact HL.out.1 x h
      ·rw[List.mem_singleton.1 h];exact hm
     ·rw[List.nodup_append]
      refine⟨HL.out.2,by simp,fun a ha b hb=>?_⟩
      rw[List.mem_singleton.1 hb]
      intro e
      exact HIN.out (e ▸ ha)
  ·obtain rfl:gk=0:=by omega
   have fr0:=frz br 0
   have fr1:=frz br 1
   obtain⟨A,c,rfl,hsl,hlc,hcm⟩:=hown.form j3l
   obtain⟨q0,q1⟩:=blk2 bq
   obtain⟨r0,r1⟩:=blk2 br
   have HO:=zQ9 (zA9 hown (zA9 hsl (zA9 hlc (zA9 hcm hD))))
   clear hown hsl hlc hcm hD
   go_wp2
   refine bodyPost_ret (v:=.agg #[.int .i64 t,.slice A l.length c]) (by simp[results,Tryz.f70,go_sem,q0,q1,r0,r1]) rfl ?_
   obtain⟨hown,hsl,hlc,hcm,hD⟩:=HO.out
   have hfar:∀ j,j≠w.heap.size→((wr.setCell ⟨w.heap.size,0,none⟩ (.int .i64 t)).setCell ⟨w.heap.size,1,none⟩ (.slice A l.length c)).heap[j]?=wr.heap[j]?:=fun j hj=>(Below.heap_setCell _ ⟨w.heap.size,1,none⟩ _ _ hj).trans (Below.heap_setCell _ ⟨w.heap.size,0,none⟩ _ _ hj)
   have hown':=hown.upon (w':=(wr.setCell ⟨w.heap.size,0,none⟩ (.int .i64 t)).setCell ⟨w.heap.size,1,none⟩ (.slice A l.length c)) (fun j hj=>hfar j (by omega))
   refine⟨t,l,A,c,rfl,q1l ht' (by omega) HL.out.1 HL.out.2,by omega,hown'.mono (by omega),(hown'.sl j3l).1,hlc,hcm,?_⟩
   exact((hD.mono (by omega)).set (by dsimp;omega) (by dsimp;omega) _).set (by dsimp;omega) (by dsimp;omega) _
theorem fits_any (t:Int) (v:Value) (s:Sg) (m:Mk) (w:World) (hs:0≤s.n) (hs':s.n≤255) (hm:0≤m.n) (hm':m.n≤255) :
 Calls Tryz.prog 132 #[.agg #[.int .i64 t,v],vSg s,vMk m] w fun e w'=>e=.returned (.bool (fits s m t))∧Below w.heap.size w w':=by
 have ho:=j5w m.n s.l s.r
 have ho':=j3o m.n s.l s.r
 have hb:=j5g s.n (onI m.n s.l s.r)
 have hb':=j5f s.n (onI m.n s.l s.r)
 go_enter Tryz.func132,Tryz.ntmps132
 unfold vSg vMk
 go_upto_region 1 with (fail)
 go_cut [30] (fun q wc=>q=.bool (!j3p s m)∧(((w.alloc (Obj.cells #[Value.int .i64 t,v] 163)).alloc (Obj.cells #[Value.int .i64 s.n,.bool s.l,.bool s.r,.int .i64 s.b,.int .i64 s.p] 31)).alloc (Obj.cells #[Value.int .i64 m.n,.int .i64 m.b,.int .i64 m.p] 117))=wc)
 case first =>
  cases e1:(s.b != -1)<;>cases e2:(s.b != m.b)<;>cases e3:(s.p != -1)<;>cases e4:(s.p != m.p)
  all_goals
   go_wp2
   go_meet
   exact⟨by simp_all [j3p],rfl⟩
 case rest =>
  obtain⟨rfl,rfl⟩:=hcut
  cases hal:j3p s m
  ·have HF:=zQ9 (show fits s m t=false by simp[fits,hal])
   go_wp2_with fail
   go_ret
   exact⟨j0p HF.out.symm,(((Below.refl _ _).alloc (zL9 _) _).alloc (by simp) _).alloc (by simp;omega) _⟩
  ·have HF:=zQ9 hal
   clear hal
   go_wp2_with fail
   obtain⟨W2,hW2⟩:∃ W2,W2=((w.alloc (Obj.cells #[Value.int .i64 t,v] 163)).alloc (Obj.cells #[Value.int .i64 s.n,.bool s.l,.bool s.r,.int .i64 s.b,.int .i64 s.p] 31)).alloc (Obj.cells #[Value.int .i64 m.n,.int .i64 m.b,.int .i64 m.p] 117):=⟨_,rfl⟩
   rw[←hW2]
   have hB:Below w.heap.size w W2:=by rw[hW2];exact(((Below.refl _ _).alloc (zL9 _) _).alloc (by simp) _).alloc (by simp;omega) _
   have b3:W2.heap[w.heap.size]?=some (Obj.cells #[Value.int .i64 t,v] 163 (0,0)):=by rw[hW2];exact j0b (j0b (j0c rfl) _) _
   have b4:W2.heap[w.heap.size+1]?=some (Obj.cells #[Value.int .i64 s.n,.bool s.l,.bool s.r,.int .i64 s.b,.int .i64 s.p] 31 (0,0)):=by rw[hW2];exact j0b (j0c (by simp)) _
   have b5:W2.heap[w.heap.size+1+1]?=some (Obj.cells #[Value.int .i64 m.n,.int .i64 m.b,.int .i64 m.p] 117 (0,0)):=by rw[hW2];exact j0c (by simp)
   clear hW2
   obtain⟨c0,c1,c2,c3,c4⟩:=blk5 b4
   have k0:=cell_regrown c0
   have k1:=cell_regrown c1
   have k2:=cell_regrown c2
   have k3:=cell_regrown c3
   have k4:=cell_regrown c4
   have k5:=cell_regrown (blk3 b5).1
   have cOn:∀ d os,Calls Tryz.prog 147 #[.int .i64 m.n,vSg s] (Sort.grow (redrawn W2 d) os) (fun e w''=>e=.returned (.int .i64 (onI m.n s.l s.r))∧∃ p:Regrown,w''=Sort.grow (redrawn W2 p.d) p.os):=fun d os=>Calls.regrown_of (on_any m.n s _ hm hm')
   have HCon:=zQ9 cOn
   clear cOn c0 c1 c2 c3 c4
   refine wp_region_quiet_below (by kernel_rfl) (by kernel_rfl) ?_
   repeat (quiet_step (exact HCon.out _ _))
   refine wpQuiet_nil ?_
   intro _ hw'
   obtain⟨⟨dq,osq⟩,hw''⟩:=hw'
   subst hw''
   obtain⟨W3,hW3⟩:∃ W3,W3=Sort.grow (redrawn W2 dq) osq:=⟨_,rfl⟩
   have hB3:Below W2.heap.size W2 W3:=by rw[hW3];exact below_regrown W2 dq osq
   rw[←hW3]
   have hs2:w.heap.size+2<W2.heap.size:=by have:=j0a b5;omega
   have q0:W3.cell? ⟨w.heap.size,0,none⟩=some (.int .i64 t):=j2k (blk2 b3).1 hB3 (zL9 _)
   clear hW3 k0 k1 k2 k3 k4 k5 HCon
   cases hg:(butI (onI m.n s.l s.r) s.n==0)
   all_goals
    go_wp2_with fail
    go_quiet (first
     | (go_at_call 148;exact k4t (but_any _ _ _ (by assumption) (by assumption) (by assumption) (by assumption)))
     | (go_at_call 149;exact k4t (q3e _ _ hb hb')))
    go_wp2
    go_ret
    refine⟨j0p ?_,hB.trans (((hB3.mono (by omega)).trans (j0l (Below.refl _ _) _)))⟩
   ·have h0:¬butI (onI m.n s.l s.r) s.n=0:=by simpa using hg
    simp[fits,HF.out,h0]
   ·have h0:butI (onI m.n s.l s.r) s.n=0:=by simpa using hg
    simp[fits,HF.out,h0]
theorem k8l (t:Int) (A:Option Addr) (n c:Nat) (l:List Mk) (s:Sg) (w:World) (hl:Marks w A n l) (hn:n≤4294967295) (hs:0≤s.n) (hs':s.n≤255) (hv:∀ m∈l,0≤m.n∧m.n≤255) :
 Calls Tryz.prog 114 #[.agg #[.int .i64 t,.slice A n c],vSg s] w fun e w'=>∃ v,e=.returned v∧OwnI w' w.heap.size v (mayL t l s)∧Below w.heap.size w w':=by
 have HV:=zQ9 hv
 have HL:=zQ9 hl
 have hB0:Below w.heap.size w ((w.alloc (Obj.cells #[Value.int .i64 t,.slice A n c] 163)).alloc (Obj.cells #[Value.int .i64 s.n,.bool s.l,.bool s.r,.int .i64 s.b,.int .i64 s.p] 31)):=((Below.refl _ _).alloc (zL9 _) _).alloc (by simp) _
 have b2:((w.alloc (Obj.cells #[Value.int .i64 t,.slice A n c] 163)).alloc (Obj.cells #[Value.int .i64 s.n,.bool s.l,.bool s.r,.int .i64 s.b,.int .i64 s.p] 31)).heap[w.heap.size]?=some (Obj.cells #[Value.int .i64 t,.slice A n c] 163 (0,0)):=j0b (j0c rfl) _
 have b3:((w.alloc (Obj.cells #[Value.int .i64 t,.slice A n c] 163)).alloc (Obj.cells #[Value.int .i64 s.n,.bool s.l,.bool s.r,.int .i64 s.b,.int .i64 s.p] 31)).heap[w.heap.size+1]?=some (Obj.cells #[Value.int .i64 s.n,.bool s.l,.bool s.r,.int .i64 s.b,.int .i64 s.p] 31 (0,0)):=j0c (by simp)
 have hl0:=(hl.alloc (Obj.cells #[Value.int .i64 t,.slice A n c] 163)).alloc (Obj.cells #[Value.int .i64 s.n,.bool s.l,.bool s.r,.int .i64 s.b,.int .i64 s.p] 31)
 clear hv hl
 go_enter Tryz.func114,Tryz.ntmps114
 unfold vSg
 go_wp2_with fail
 generalize ((w.alloc (Obj.cells #[Value.int .i64 t,.slice A n c] 163)).alloc (Obj.cells #[Value.int .i64 s.n,.bool s.l,.bool s.r,.int .i64 s.b,.int .i64 s.p] 31))=W0 at hB0 b2 b3 hl0 ⊢
 have hw0:w.heap.size+1<W0.heap.size:=j0a b3
 have HB:=zQ9 (zA9 b2 b3)
 clear b2 b3
 go_loopg [5,12] n (fun g v i wr=>∃ k:Nat,k+g=n∧i=.int .i64 k∧OwnI wr W0.heap.size v (j4y t l s k)∧Below W0.heap.size W0 wr)
 case atStart=>exact⟨0,by omega,rfl,Own.nil_,Below.refl _ _⟩
 case round =>
  obtain⟨k,hk,rfl,hown,hbl⟩:=hrel
  have HK:=zQ9 hk
  have HO:=zQ9 hown
  have hkn:k≤n:=by omega
  clear hk hown
  have hz:=hbl.size
  have g0:w.heap.size<wr.heap.size:=by omega
  have g1:w.heap.size+1<wr.heap.size:=by omega
  by_cases hlt:k<n
  ·obtain⟨b,off,m,rfl,hb,hm,c0,c1,c2⟩:=Marks.get (hl0.below hbl (zL9 _)) hlt
   have HM:=zQ9 hm
   have hmv:=HV.out m (List.mem_of_getElem? hm)
   clear hm
   obtain⟨r0,r1⟩:=blk2 (j0e HB.out.1 hbl (zL9 _))
   obtain⟨s0,s1,s2,s3,s4⟩:=blk5 (j0e HB.out.2 hbl (zL9 _))
   go_wp2_with fail
   refine(fits_any t _ s m _ hs hs' hmv.1 hmv.2).mono ?_
   rintro e w1 ⟨rfl,hb1⟩
   have hz1:=hb1.size
   have hbl1:Below W0.heap.size W0 w1:=(hbl.alloc hz _).trans (hb1.mono (by simp;omega))
   have hown1:=zQ9 ((HO.out.alloc (Obj.cells #[Value.int .i64 m.n,.int .i64 m.b,.int .i64 m.p] 117)).below hb1 (zL9 _))
   have hlen:=k1h t l s k
   have HS:=zQ9 (q1y (t:=t) (s:=s) HM.out)
   have hz1':=hbl1.size
   cases hf:fits s m t
   all_goals
    go_wp2_with (at_builtin;refine j6x j5v rfl (.tmp 21) (.tmp 23) rfl W0.heap.size _ (j4y t l s k) (k:Int) _ rfl rfl rfl rfl (j4b _) hown1.out ?_ ?_ ?_ ?_;(omega);(omega);(omega);intro v' w2 hown2 hb2 _ hz2;have HO2:=zQ9 hown2;clear hown2)
    go_roundg (gk-1)
    case measure=>have:=HK.out;omega
   ·exact⟨k+1,by have:=HK.out;omega,by go_num,by rw[HS.out,hf];simpa using hown1.out,hbl1⟩
   ·exact⟨k+1,by have:=HK.out;omega,by go_num,by rw[HS.out,hf];simpa using HO2.out,hbl1.trans hb2⟩
  ·obtain rfl:k=n:=by omega
   go_wp2
   go_ret
   exact⟨_,rfl,by have:=HL.out.len;unfold mayL;rw[this];exact HO.out.mono (by omega),hB0.trans (hbl.mono (by omega))⟩
theorem k5c (t:Int) (A:Option Addr) (n c:Nat) (l:List Mk) (s:Sg) (w:World) (hl:Marks w A n l) (hlc:n≤c) (hcm:c≤maxLen) :
 Calls Tryz.prog 80 #[.agg #[.int .i64 t,.slice A n c],vSg s] w fun e w'=>∃ v,e=.returned (.tuple #[v,.int .i64 (mayE t l s)])∧OwnI w' w.heap.size v (mayR t l s)∧Below w.heap.size w w':=by
 have HL:=zQ9 hl
 have hb0:Below w.heap.size w ((w.alloc (Obj.cells #[Value.int .i64 t,.slice A n c] 24)).alloc (Obj.cells #[Value.int .i64 s.n,.bool s.l,.bool s.r,.int .i64 s.b,.int .i64 s.p] 31)):=((Below.refl _ _).alloc (zL9 _) _).alloc (by simp) _
 clear hl
 by_cases hck:check t l=0
 ·have h0:(check t l != 0)=false:=by simp[hck]
  have HC:=zQ9 hck
  clear hck
  by_cases hse:seen s 9 6=0
  ·have h1:(seen s 9 6 != 0)=false:=by simp[hse]
   have HS:=zQ9 hse
   have hv:=(j9m hse).1
   have hm:∀ m∈l,0≤m.n∧m.n≤255:=fun m hm=>(j4t HC.out m hm).1
   have HM:=zQ9 hm
   have hn5:n≤5:=by have:=(j3f HC.out).2.2.1;have:=HL.out.len;omega
   clear hse hm
   go_enter Tryz.func80,Tryz.ntmps80
   unfold vSg
   go_wp2_with (first
    | (go_at_call 62;refine(j6u t A n c l _ ((HL.out.alloc _).alloc _) hlc hcm).mono ?_;rintro e w1 ⟨rfl,hb1⟩;obtain⟨hc1,hf1⟩:=bc hb1;have hz1:=hb1.size;simp at hz1;have g1:w.heap.size<w1.heap.size:=(by omega);have g2:w.heap.size+1<w1.heap.size:=(by omega);have HB1:=zQ9 hb1;clear hb1)
    | (go_at_call 113;refine(j8x s _).mono ?_;rintro e w2 ⟨rfl,hb2⟩;obtain⟨hc2,hf2⟩:=bc hb2;have hz2:=hb2.size;have g3:w.heap.size<w2.heap.size:=(by omega);have g4:w.heap.size+1<w2.heap.size:=(by omega);have HB2:=zQ9 hb2;clear hb2)
    | (go_at_call 114;refine(k8l t A n c l s _ ((((HL.out.alloc _).alloc _).below HB1.out (zL9 _)).below HB2.out (zL9 _)) (by omega) hv.1 hv.2 HM.out).mono ?_;rintro e w3 ⟨v,rfl,ho3,hb3⟩;have HB3:=zQ9 (zA9 ho3 hb3);clear ho3 hb3))
   go_ret2
   exact⟨v,by simp[mayE,HC.out,HS.out],by simpa[mayR,mayE,HC.out,HS.out] using HB3.out.1.mono (by omega),hb0.trans ((HB1.out.mono (by simp;omega)).trans ((HB2.out.mono (by omega)).trans (HB3.out.2.mono (by omega))))⟩
  ·have h1:(seen s 9 6 != 0)=true:=by simp[hse]
   have HS:=zQ9 hse
   clear hse
   go_enter Tryz.func80,Tryz.ntmps80
   unfold vSg
   go_wp2_with (first
    | (go_at_call 62;refine(j6u t A n c l _ ((HL.out.alloc _).alloc _) hlc hcm).mono ?_;rintro e w1 ⟨rfl,hb1⟩;obtain⟨hc1,hf1⟩:=bc hb1;have hz1:=hb1.size;simp at hz1;have g1:w.heap.size<w1.heap.size:=(by omega);have g2:w.heap.size+1<w1.heap.size:=(by omega);have HB1:=zQ9 hb1;clear hb1)
    | (go_at_call 113;refine(j8x s _).mono ?_;rintro e w2 ⟨rfl,hb2⟩;have hz2:=hb2.size;have g3:w.heap.size<w2.heap.size:=(by omega);have g4:w.heap.size+1<w2.heap.size:=(by omega);have HB2:=zQ9 hb2;clear hb2))
   go_ret2
   exact⟨.slice none 0 0,by simp[mayE,HC.out],by simpa[mayR,mayE,HC.out,HS.out] using Own.nil_,hb0.trans ((HB1.out.mono (by simp;omega)).trans (HB2.out.mono (by omega)))⟩
 ·have h0:(check t l != 0)=true:=by simp[hck]
  have HC:=zQ9 hck
  clear hck
  go_enter Tryz.func80,Tryz.ntmps80
  unfold vSg
  go_wp2_with (go_at_call 62;refine(j6u t A n c l _ ((HL.out.alloc _).alloc _) hlc hcm).mono ?_;rintro e w1 ⟨rfl,hb1⟩;have HB1:=zQ9 hb1;clear hb1)
  go_ret2
  exact⟨.slice none 0 0,by simp[mayE,HC.out],by simpa[mayR,mayE,HC.out] using Own.nil_,hb0.trans (HB1.out.mono (by simp;omega))⟩
theorem j4g {α:Type} {x y:List α} {k:Nat} {u v:α} (h:x.take k=y.take k) (hx:x[k]?=some u) (hy:y[k]?=some v) (he:u=v):x.take (k+1)=y.take (k+1):=by
 rw[List.take_add_one,List.take_add_one,hx,hy,h,he]
theorem j8c {α:Type} {x y:List α} {k:Nat} {u v:α} (hx:x[k]?=some u) (hy:y[k]?=some v) (he:¬u=v):¬x=y:=fun h=>by
 subst h;rw[hx] at hy;cases hy;exact he rfl
def j1h {α:Type} [DecidableEq α] (x y:List α):Bool:=decide (x=y)
theorem j8j (A:Option Addr) (n c:Nat) (x:List Int) (B:Option Addr) (m d:Nat) (y:List Int) (w:World) (hx:Ints w A n x) (hy:Ints w B m y) (hn:n≤maxLen) (hm:m≤maxLen) :
 Calls Tryz.prog 48 #[.slice A n c,.slice B m d] w fun e w'=>e=.returned (.bool (j1h x y))∧Below w.heap.size w w':=by
 have hxl:=hx.len
 have hyl:=hy.len
 have HL:=zQ9 (zA9 hxl hyl)
 have HXY:=zQ9 (zA9 hx hy)
 unfold maxLen at hn hm
 clear hxl hyl hx hy
 by_cases hnm:n=m
 ·subst hnm
  have h0:(n != n)=false:=by simp
  have h0':((n:Int) != (n:Int))=false:=by simp
  go_enter Tryz.func48,Tryz.ntmps48
  go_wp2_with fail
  go_loopg [5] n (fun g i wr=>∃ k:Nat,k+g=n∧i=.int .i64 k∧x.take k=y.take k∧∃ q,wr=w.drewN q)
  case atStart=>exact⟨0,by omega,rfl,by simp,0,rfl⟩
  case round =>
   obtain⟨k,hk,rfl,htk,q,rfl⟩:=hrel
   have HK:=zQ9 (zA9 hk htk)
   have hkn:k≤n:=by omega
   clear hk htk
   by_cases hlt:k<n
   ·obtain⟨b0,o0,u,rfl,hb0,hu,p0⟩:=Ints.get HXY.out.1 hlt
    obtain⟨b1,o1,v,rfl,hb1,hv,q0⟩:=Ints.get HXY.out.2 hlt
    have i0:(0:Int)≤(k:Int):=by omega
    have i1:(k:Int)<(n:Int):=by omega
    have HUV:=zQ9 (zA9 hu hv)
    clear hu hv
    by_cases huv:u=v
    ·have h1:(u != v)=false:=by simp[huv]
     have HE:=zQ9 huv
     clear huv
     go_upto_region 6 with (fail)
     go_quiet (fail)
     go_wp2
     go_roundg (gk-1)
     case measure=>have:=HK.out.1;omega
     case rel=>exact⟨k+1,by have:=HK.out.1;omega,by go_num,j4g HK.out.2 HUV.out.1 HUV.out.2 HE.out,_,rfl⟩
    ·have h1:(u != v)=true:=by simp[huv]
     have HE:=zQ9 huv
     clear huv
     go_upto_region 6 with (fail)
     go_quiet (fail)
     go_wp2
     go_ret
     exact⟨j0p (by unfold j1h;rw[decide_eq_false (j8c HUV.out.1 HUV.out.2 HE.out)]),j0l (j0l (Below.refl _ _) _) _⟩
   ·obtain rfl:k=n:=by omega
    go_wp2
    go_ret
    refine⟨j0p ?_,j0l (Below.refl _ _) _⟩
    have h:=HK.out.2
    rw[List.take_of_length_le (by rw[HL.out.1];omega),List.take_of_length_le (by rw[HL.out.2];omega)] at h
    unfold j1h;rw[decide_eq_true h]
 ·have h0:(n != m)=true:=by simpa using hnm
  have h0':((n:Int) != (m:Int))=true:=by simp;omega
  have HE:=zQ9 hnm
  clear hnm
  go_enter Tryz.func48,Tryz.ntmps48
  go_wp2
  go_ret
  exact⟨j0p (by unfold j1h;rw[decide_eq_false (fun h=>HE.out (by rw[←HL.out.1,←HL.out.2,h]))]),Below.refl _ _⟩
theorem k0a {α:Type} {enc:α→List Value} {sz:Nat} (h:∀ x,(enc x).length=sz) (l:List α):(l.flatMap enc).length=l.length*sz:=by
 induction l with
 | nil=>simp
 | cons a r ih=>rw[List.flatMap_cons,List.length_append,ih,h,List.length_cons,Nat.succ_mul];omega
theorem k5g {α:Type} {enc:α→List Value} {sz:Nat} (hsz:0<sz) (h:∀ x,(enc x).length=sz):∀ (l:List α) (j:Nat) (u:Value),(l.flatMap enc)[j]?=some u→∃ x,l[j / sz]?=some x∧(enc x)[j % sz]?=some u
 | [],j,u,hu=>by simp at hu
 | a::r,j,u,hu=>by
   rw[List.flatMap_cons] at hu
   rcases Nat.lt_or_ge j sz with hj|hj
   ·rw[List.getElem?_append_left (by rw[h];exact hj)] at hu
    exact⟨a,by rw[Nat.div_eq_of_lt hj];rfl,by rw[Nat.mod_eq_of_lt hj];exact hu⟩
   ·rw[List.getElem?_append_right (by rw[h];exact hj),h] at hu
    obtain⟨x,h1,h2⟩:=k5g hsz h r (j-sz) u hu
    have e1:j=(j-sz)+sz:=by omega
    refine⟨x,?_,?_⟩
    ·rw[e1,Nat.add_div_right _ hsz];simpa using h1
    ·rw[e1,Nat.add_mod_right];exact h2
theorem q1e {α:Type} {enc:α→List Value} {P:Program} {t e:TypeId} {sz bytes:Nat} (E:ElemOk P t e sz bytes) {ops:Array Oper} {rest:List Oper} {o:Oper} {a:Act} {Q:Exit→Act→World→Prop} {w:World}
 (hgd:o.guard=none) (s x:Operand) (ho:o.op=.call { callee:=.builtin .append,args:=#[s,x],argTypes:=#[t,t] })
 (base:Nat) (v:Value) (l:List α) (A:Option Addr) (m c:Nat) (l2:List α) (hs:a.eval s=v) (hx:a.eval x=.slice A m c) (hl2:Sl enc sz w A m l2) (hz:A=none→c=0)
 (hlen:∀ x,(enc x).length=sz) (h1:∀ x,∀ u∈enc x,u.oneCell'=true)
 (hown:Own enc e sz w base v l) (hll:l.length+m<4294967296) (hby:bytes≤4096) (hbase:base≤w.heap.size)
 (h:∀ v' w',Own enc e sz w' base v' (l++l2)→w.grownBy w' v.ownBlock→Below base w w'→wpList P ops Q rest (a.put o.dst v') w') :
 wpList P ops Q (o::rest) a w:=by
 obtain⟨i,z,hi,hzz,hsize,hbytes,hzs⟩:=E.info
 cases A with
 | none =>
   have hc:=hz rfl
   subst hc
   have hm:m=0:=by
    rcases Nat.eq_zero_or_pos m with h0|h0
    ·exact h0
    ·obtain⟨b,off,hA,_⟩:=hl2.2 h0;cases hA
   subst hm
   have hl0:l2=[]:=List.eq_nil_of_length_eq_zero hl2.1
   subst hl0
   refine wpList_append_own_none hgd s x t ho base e i sz E.sl hi v l.length (l.flatMap enc) hs hown hx ?_
   exact h v w (by rw[List.append_nil];exact hown) (World.grownBy.refl w _) (Below.refl _ _)
 | some ad =>
   refine wpList_append_own w hgd s x t ho base e i z sz bytes E.sl hi hzz hsize hbytes hzs E.pos v l.length (l.flatMap enc) hs hown ad m c (l2.flatMap enc) hx (by rw[k0a hlen,hl2.1]) ?_ ?_ (by unfold maxLen;omega) ?_ hbase ?_
   ·intro j u hu
    obtain⟨y,hy,hu2⟩:=k5g E.pos hlen l2 j u hu
    have hlt:=(List.getElem?_eq_some_iff.1 hy).1
    obtain⟨b,off,hA,hc⟩:=hl2.2 (hl2.1 ▸ Nat.lt_of_le_of_lt (Nat.zero_le _) hlt)
    cases hA
    have:=hc _ y hy _ u hu2
    rw[Addr.add_lit]
    have e1:off+j / sz*sz+j % sz=off+j:=by rw[Nat.add_assoc,Nat.div_add_mod']
    rw[e1] at this
    exact this
   ·intro u hu
    obtain⟨y,hy,hu2⟩:=List.mem_flatMap.1 hu
    exact h1 y u hu2
   ·calc (l.length+m)*bytes≤4294967296*4096:=Nat.mul_le_mul (by omega) hby
     _≤140737488355328:=by omega
   ·intro v' w' hown' hg _
    refine h v' w' ?_ hg ((Below.refl _ _).grown hg hbase (fun k hk=>(Own.lt hown k hk).1))
    have e2:(l++l2).flatMap enc=l.flatMap enc++l2.flatMap enc:=by simp
    unfold Own
    rw[e2,List.length_append,hl2.1]
    exact hown'
def RegIs (base:Nat) (t:Int) (l:List Mk) (e:Ending) (w':World):Prop:=∃ A c,e=.returned (.agg #[.int .i64 t,.slice A l.length c])∧OwnM w' base (.slice A l.length c) l∧Marks w' A l.length l∧l.length≤c∧c≤maxLen∧(A=none→c=0)
theorem q4o {α:Type} {enc:α→List Value} {e:TypeId} {sz:Nat} {w:World} {base:Nat} {v:Value} {l:List α} (h:Own enc e sz w base v l) (henc:∀ x,(enc x).length=sz) :
 ∃ A c,v=.slice A l.length c∧Sl enc sz w A l.length l∧l.length≤c∧c≤maxLen∧(A=none→c=0):=by
 rcases h.2 with ⟨hv,h0⟩|⟨g,cap,cur,hv,hg,hh,hnc,hcm,r⟩
 ·have hl:l=[]:=List.eq_nil_of_length_eq_zero h0
  subst hl
  exact⟨none,0,hv,Sl.nil_,zL9 _,Nat.zero_le _,fun _=>rfl⟩
 ·subst hv
  exact⟨_,cap,rfl,Sl.of_own (fun x _=>henc x) h rfl,hnc,hcm,fun h=>by cases h⟩
theorem k3c (t:Int) (A:Option Addr) (n c:Nat) (l:List Mk) (w:World) (hl:Marks w A n l) (hz:A=none→c=0) (hn:n≤4294967295) :
 Calls Tryz.prog 51 #[.agg #[.int .i64 t,.slice A n c]] w fun e w'=>RegIs w.heap.size t l e w'∧Below w.heap.size w w':=by
 have HL:=zQ9 hl
 have HZ:=zQ9 hz
 clear hl hz
 go_enter Tryz.func51,Tryz.ntmps51
 go_upto_region 1 with (fail)
 obtain⟨W,hW⟩:∃ W,W=(w.alloc (Obj.cells #[Value.int .i64 t,.slice A n c] 24)).alloc (Obj.cells #[Value.int .i64 0,.slice none 0 0] 24):=⟨_,rfl⟩
 rw[←hW]
 have hB:Below w.heap.size w W:=by rw[hW];exact bal (bal0 w _) (zL9 _) _
 have b0:W.heap[w.heap.size]?=some (Obj.cells #[Value.int .i64 t,.slice A n c] 24 (0,0)):=by rw[hW];exact j0b (j0c rfl) _
 have b1:W.heap[w.heap.size+1]?=some (Obj.cells #[Value.int .i64 0,.slice none 0 0] 24 (0,0)):=by rw[hW];exact j0c (by simp)
 clear hW
 obtain⟨r0,r1⟩:=blk2 b0
 have f1:=frz b0 1
 have z1:=j0a b1
 have z0:w.heap.size<W.heap.size:=by omega
 have HB:=zQ9 (zA9 hB (zA9 b0 b1))
 clear hB b0 b1
 have hlw:Marks (W.alloc (Obj.cells #[] 117)) A n l:=(HL.out.below HB.out.1 (zL9 _)).alloc _
 have HLW:=zQ9 hlw
 clear hlw
 have hown0:OwnM (W.alloc (Obj.cells #[] 117)) (w.heap.size+1+1) (.slice (some ⟨W.heap.size,0,none⟩) 0 0) []:=Own.lit (enc:=eMk) W (w.heap.size+1+1) #[] [] rfl j3l (by omega) (by simp[maxLen])
 have HOWN:=zQ9 hown0
 clear hown0
 go_wp2_with (at_builtin;refine q1e k8t rfl (.tmp 3) (.tmp 5) rfl (w.heap.size+1+1) (.slice (some ⟨W.heap.size,0,none⟩) 0 0) [] A n c l rfl rfl HLW.out HZ.out j3l k5k HOWN.out ?_ ?_ ?_ ?_;(simp;omega);(omega);(simp;omega);intro v' w5 hown5 hgr5 hb5;obtain⟨A5,c5,hv5,hs5,hc5,hm5,hz5⟩:=q4o hown5 j3l;rw[hv5];have bq0:=(hb5.block w.heap.size (by omega)).trans (j0b HB.out.2.1 _);have bq1:=(hb5.block (w.heap.size+1) (by omega)).trans (j0b HB.out.2.2 _);obtain⟨k0,k1⟩:=blk2 bq0;obtain⟨j0,j1⟩:=blk2 bq1;have k2:=frz bq0 1;have l0:=frz bq1 0;have l1:=frz bq1 1;have HH:=zQ9 (zA9 hown5 (zA9 hb5 (zA9 hs5 (zA9 hc5 (zA9 hm5 hz5)))));clear hown5 hgr5 hb5 hs5 hc5 hm5 hz5 bq0 bq1)
 refine bodyPost_ret (v:=.agg #[.int .i64 t,.slice A5 l.length c5]) (by simp[results,Tryz.f51,go_sem,k0,k1,j0,j1]) rfl ?_
 obtain⟨hown5,hb5,hs5,hc5,hm5,hz5⟩:=HH.out
 rw[hv5] at hown5
 simp only[List.nil_append] at hown5 hs5 hc5
 have hfar:∀ j,w.heap.size+1+1≤j→(((w5.setCell ⟨w.heap.size,1,none⟩ (.slice A5 l.length c5)).setCell ⟨w.heap.size+1,0,none⟩ (.int .i64 t)).setCell ⟨w.heap.size+1,1,none⟩ (.slice A5 l.length c5)).heap[j]?=w5.heap[j]?:=fun j hj =>
  (Below.heap_setCell _ ⟨w.heap.size+1,1,none⟩ _ _ (by dsimp;omega)).trans ((Below.heap_setCell _ ⟨w.heap.size+1,0,none⟩ _ _ (by dsimp;omega)).trans (Below.heap_setCell _ ⟨w.heap.size,1,none⟩ _ _ (by dsimp;omega)))
 have ho:=hown5.upon hfar
 refine⟨⟨A5,c5,rfl,ho.mono (by omega),(ho.sl j3l).1,hc5,hm5,hz5⟩,?_⟩
 have hbb:Below w.heap.size w w5:=(bal HB.out.1 (zL9 _) _).trans (hb5.mono (by omega))
 exact((hbb.setCell (by dsimp;omega) _).setCell (by dsimp;omega) _).setCell (by dsimp;omega) _
theorem k2f (t u:Int) (A:Option Addr) (n c:Nat) (l:List Mk) (B:Option Addr) (m d:Nat) (k2:List Mk) (w:World) (hl:Marks w A n l) (hk:Marks w B m k2) (hn:n≤maxLen) (hm:m≤maxLen) :
 Calls Tryz.prog 68 #[.agg #[.int .i64 t,.slice A n c],.agg #[.int .i64 u,.slice B m d]] w fun e w'=>e=.returned (.bool (decide (t=u)&&j1h l k2))∧Below w.heap.size w w':=by
 have HN:=zQ9 (zA9 hl.len hk.len)
 unfold maxLen at hn hm
 obtain⟨W,hW⟩:∃ W,W=(w.alloc (Obj.cells #[Value.int .i64 t,.slice A n c] 24)).alloc (Obj.cells #[Value.int .i64 u,.slice B m d] 24):=⟨_,rfl⟩
 have hB:Below w.heap.size w W:=by rw[hW];exact bal (bal0 w _) (zL9 _) _
 have b0:W.heap[w.heap.size]?=some (Obj.cells #[Value.int .i64 t,.slice A n c] 24 (0,0)):=by rw[hW];exact j0b (j0c rfl) _
 have b1:W.heap[w.heap.size+1]?=some (Obj.cells #[Value.int .i64 u,.slice B m d] 24 (0,0)):=by rw[hW];exact j0c (by simp)
 have HL:=zQ9 (zA9 (hl.below hB (zL9 _)) (hk.below hB (zL9 _)))
 obtain⟨r0,r1⟩:=blk2 b0
 obtain⟨q0,q1⟩:=blk2 b1
 have z1:=j0a b1
 have HB:=zQ9 hB
 clear hl hk hB b0 b1
 by_cases htu:t=u
 ·subst htu
  have ht:(t != t)=false:=by simp
  by_cases hnm:n=m
  ·subst hnm
   have h0:(n != n)=false:=by simp
   have h0':((n:Int) != (n:Int))=false:=by simp
   go_enter Tryz.func68,Tryz.ntmps68
   go_upto_region 1 with (fail)
   rw[←hW]
   clear hW
   go_wp2_with fail
   go_loopg [5] n (fun g i wr=>∃ k:Nat,k+g=n∧i=.int .i64 k∧l.take k=k2.take k∧∃ q,wr=W.drewN q)
   case atStart=>exact⟨0,by omega,rfl,by simp,0,rfl⟩
   case round =>
    obtain⟨k,hk,rfl,htk,q,rfl⟩:=hrel
    have HK:=zQ9 (zA9 hk htk)
    have hkn:k≤n:=by omega
    clear hk htk
    by_cases hlt:k<n
    ·obtain⟨b,off,x,rfl,hb,hx,p0,p1,p2⟩:=Marks.get HL.out.1 hlt
     obtain⟨b',off',y,rfl,hb',hy,s0,s1,s2⟩:=Marks.get HL.out.2 hlt
     have HXY:=zQ9 (zA9 hx hy)
     clear hx hy
     have i0:(0:Int)≤(k:Int):=by omega
     have i1:(k:Int)<(n:Int):=by omega
     by_cases hxy:x=y
     ·subst hxy
      go_upto_region 6 with (fail)
      go_quiet (fail)
      go_wp2
      go_roundg (gk-1)
      case measure=>have:=HK.out.1;omega
      case rel=>exact⟨k+1,by have:=HK.out.1;omega,by go_num,j4g HK.out.2 HXY.out.1 HXY.out.2 rfl,_,rfl⟩
     ·have HNE:=zQ9 hxy
      cases e1:(x.n==y.n)<;>cases e2:(x.b==y.b)<;>cases e3:(x.p==y.p)
      case true.true.true =>
       exfalso
       exact hxy (by cases x;cases y;simp at e1 e2 e3;simp[e1,e2,e3])
      all_goals
       clear hxy
       go_upto_region 6 with (fail)
       go_quiet (fail)
       go_wp2
       go_ret
       exact⟨j0p (by unfold j1h;rw[decide_eq_false (j8c HXY.out.1 HXY.out.2 HNE.out)];simp),j0l (j0l HB.out _) _⟩
    ·obtain rfl:k=n:=by omega
     go_wp2
     go_ret
     refine⟨j0p ?_,j0l HB.out _⟩
     have h:=HK.out.2
     rw[List.take_of_length_le (by rw[HN.out.1];omega),List.take_of_length_le (by rw[HN.out.2];omega)] at h
     unfold j1h
     rw[decide_eq_true h]
     simp
  ·have h0:(n != m)=true:=by simpa using hnm
   have h0':((n:Int) != (m:Int))=true:=by simp;omega
   have HE:=zQ9 hnm
   clear hnm
   go_enter Tryz.func68,Tryz.ntmps68
   go_upto_region 1 with (fail)
   rw[←hW]
   clear hW
   go_wp2
   go_ret
   have hne:¬l=k2:=fun h=>HE.out (by rw[←HN.out.1,←HN.out.2,h])
   exact⟨j0p (by unfold j1h;rw[decide_eq_false hne];simp),HB.out⟩
 ·have ht:(t != u)=true:=by simpa using htu
  have HE:=zQ9 htu
  clear htu
  go_enter Tryz.func68,Tryz.ntmps68
  go_upto_region 1 with (fail)
  rw[←hW]
  clear hW
  go_wp2
  go_ret
  exact⟨j0p (by rw[decide_eq_false HE.out];simp),HB.out⟩
theorem cnt_mono {p q:Nat→Bool} (h:∀ i,i<8→p i=true→q i=true):cnt p≤cnt q :=
 List.countP_mono_left fun i hi=>h i (by simpa using hi)
theorem k2c (m:Mk) (s:Sg):(j2s m s).n=onI (orI m.n s.n) s.l s.r:=rfl
theorem onI_on (n:Int) (l r:Bool):onI (onI n l r) l r=onI n l r :=
 j5b (j5w _ _ _) (j3o _ _ _) (j5w _ _ _) (j3o _ _ _) fun i hi=>by
  rw[j2q _ _ _ _ hi,j2q _ _ _ _ hi];cases bit n i<;>cases j1p l r i<;>rfl
theorem q3n {m:Mk} {s:Sg} {t:Int} (hm:0≤m.n∧m.n≤255) (hs:0≤s.n∧s.n≤255) (hp:(popI s.n:Int)≤t):fits (j2s m s) m t=true:=by
 have e1:j3p (j2s m s) m=true:=by
  unfold j3p j2s
  dsimp only
  by_cases h1:s.b=-1<;>by_cases h2:s.p=-1<;>simp[h1,h2]
 have e2:butI (onI m.n s.l s.r) (j2s m s).n=0:=by
  rw[k2j (j5g _ _) (j5f _ _)]
  intro i hi
  rw[k2c,j4j _ _ (j3o _ _ _) i hi,j2q _ _ _ _ hi,j2q _ _ _ _ hi,bit_or]
  cases bit m.n i<;>cases bit s.n i<;>cases j1p s.l s.r i<;>rfl
 have e3:popI (butI (j2s m s).n (onI m.n s.l s.r))≤popI s.n:=by
  unfold popI
  refine cnt_mono fun i hi h=>?_
  rw[k2c,j4j _ _ (j3o _ _ _) i hi,j2q _ _ _ _ hi,j2q _ _ _ _ hi,bit_or] at h
  revert h
  cases bit m.n i<;>cases bit s.n i<;>cases j1p s.l s.r i<;>simp
 unfold fits
 rw[e1]
 have e4:(j2s m s).l=s.l:=rfl
 have e5:(j2s m s).r=s.r:=rfl
 rw[e4,e5,e2]
 simp
 omega
theorem q4u {m:Mk} {s:Sg} (hm:(0≤m.n∧m.n≤255)∧(0≤m.b∧m.b≤9)∧0≤m.p∧m.p≤6):seen (j2s m s) 9 6=0:=by
 unfold seen
 rw[if_neg (by simp[j0n,k2c,j5w,j3o]),if_neg (by rw[k2c];show ¬onI (onI (orI m.n s.n) s.l s.r) s.l s.r≠onI (orI m.n s.n) s.l s.r;rw[onI_on];simp),if_neg,if_neg]
 ·rintro⟨h1,h2⟩
  have e:(j2s m s).p=m.p:=by unfold j2s at h1 ⊢;dsimp only at h1 ⊢;split<;>simp_all
  rw[e,j9g] at h2
  exact h2 hm.2.2
 ·rintro⟨h1,h2⟩
  have e:(j2s m s).b=m.b:=by unfold j2s at h1 ⊢;dsimp only at h1 ⊢;split<;>simp_all
  rw[e,j9g] at h2
  exact h2 hm.2.1
theorem k8n {t:Int} {l:List Mk} {s:Sg} {o:Nat} {m:Mk} (hm:l[o]?=some m) (hf:fits s m t=true):(o:Int)∈mayL t l s:=by
 unfold mayL j4y
 refine List.mem_map.2 ⟨o,List.mem_filter.2 ⟨?_,?_⟩,rfl⟩
 ·rw[List.mem_range];exact(List.getElem?_eq_some_iff.1 hm).1
 ·rw[hm];simpa using hf
theorem k8m {t:Int} {l:List Mk} {s:Sg} {o:Nat} {m:Mk} (hm:l[o]?=some m):(o:Int)∈mayL t l s↔fits s m t=true:=by
 refine⟨fun h=>?_,k8n hm⟩
 unfold mayL j4y at h
 obtain⟨i,hi,he⟩:=List.mem_map.1 h
 have:i=o:=by have he':(i:Int)=(o:Int):=he;omega
 subst this
 have:=(List.mem_filter.1 hi).2
 rw[hm] at this
 simpa using this
theorem Dealt.cell {w w':World} {H N:Nat} (h:Dealt w w' H N) {b o:Nat} {v:Value} (hc:w.cell? ⟨b,o,none⟩=some v) (hne:b≠H):w'.cell? ⟨b,o,none⟩=some v:=h.gr.cell hc (fun e=>hne (by simpa using e))
theorem Dealt.undrew {w w':World} {H N:Nat} (h:Dealt w.drew w' H N):Dealt w w' H N:=⟨h.hd,⟨h.gr.os,h.gr.tape,h.gr.output,h.gr.size,h.gr.block⟩⟩
end Go.Proofs.YtmennjmjakdkcaaGreat
