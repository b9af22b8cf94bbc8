/- HerdParts. -/
import Derived.Test.YtmennjmjakdkcaaGreatPt30
set_option linter.unusedVariables false
set_option linter.unusedSimpArgs false
set_option maxRecDepth 100000
set_option maxHeartbeats 4000000
namespace Go.Proofs.YtmennjmjakdkcaaGreat
abbrev Gr:=List (List Int)
def addR (l:List Gr) (g:Gr):List Gr:=if nnG g=true then (if g∈l then l else l++[g]) else l
theorem j6g {l:List Gr} {g x:Gr}:x∈addR l g↔x∈l∨(x=g∧nnG g=true):=by
 unfold addR
 split
 ·rename_i h
  split
  ·rename_i h2;constructor
   ·exact .inl
   ·rintro(h3|⟨rfl,-⟩)
    ·exact h3
    ·exact h2
  ·rw[List.mem_append,List.mem_singleton];constructor
   ·rintro(h3|h3)
    ·exact .inl h3
    ·exact .inr ⟨h3,h⟩
   ·rintro(h3|⟨h3,-⟩)
    ·exact .inl h3
    ·exact .inr h3
 ·rename_i h;constructor
  ·exact .inl
  ·rintro(h3|⟨-,h3⟩)
   ·exact h3
   ·exact absurd h3 h
theorem j4s {l:List Gr} {g:Gr} (h:l.Nodup):(addR l g).Nodup:=by
 unfold addR
 split
 ·split
  ·exact h
  ·rename_i hg;rw[List.nodup_append];exact⟨h,by simp,fun a ha b hb=>by rw[List.mem_singleton] at hb;subst hb;exact fun e=>hg (e ▸ ha)⟩
 ·exact h
def j4z (n f:Nat):Nat->Nat->Gr->List Gr->List Gr
 | 0,_,g,l=>addR l g
 | m+1,o,g,l=>(List.range' o (n-o)).foldl (fun l x=>if 0<getG g f x then j4z n f m x (addG g f x (-1)) l else l) l
theorem k0v {α:Type} {S:α->Gr->Prop} {F:List Gr->α->List Gr} {x:Gr}:∀ {L:List α},(∀ a∈L,∀ l,x∈F l a↔x∈l∨S a x)->∀ l,x∈L.foldl F l↔x∈l∨∃ a∈L,S a x
 | [],_,l=>by simp
 | a::L,h,l=>by
   rw[List.foldl_cons,k0v (fun b hb=>h b (List.mem_cons_of_mem _ hb)),h a List.mem_cons_self]
   constructor
   ·rintro((h1|h1)|⟨b,h1,h2⟩)
    ·exact .inl h1
    ·exact .inr ⟨a,List.mem_cons_self,h1⟩
    ·exact .inr ⟨b,List.mem_cons_of_mem _ h1,h2⟩
   ·rintro(h1|⟨b,h1,h2⟩)
    ·exact .inl (.inl h1)
    ·rcases List.mem_cons.1 h1 with rfl|h1
     ·exact .inl (.inr h2)
     ·exact .inr ⟨b,h1,h2⟩
theorem j7l {α:Type} {F:List Gr->α->List Gr}:∀ {L:List α},(∀ a∈L,∀ l:List Gr,l.Nodup->(F l a).Nodup)->∀ l:List Gr,l.Nodup->(L.foldl F l).Nodup
 | [],_,l,hl=>hl
 | a::L,h,l,hl=>j7l (fun b hb=>h b (List.mem_cons_of_mem _ hb)) _ (h a List.mem_cons_self l hl)
theorem k2w {n f:Nat}:∀ (m o:Nat) (g:Gr) (l:List Gr),l.Nodup->(j4z n f m o g l).Nodup
 | 0,o,g,l,h=>j4s h
 | m+1,o,g,l,h=>j7l (fun x _ l hl=>by
    show(if 0<getG g f x then j4z n f m x (addG g f x (-1)) l else l).Nodup
    split
    ·exact k2w m x _ l hl
    ·exact hl) l h
theorem j8e {n nf:Nat} {g:Gr} (hg:GSh n nf g):nnG g=true↔∀ f o,f<nf->o<n->0<=getG g f o:=by
 rw[j5k];constructor
 ·intro h f o hf ho;have a1:f<g.length:=by rw[hg.l];exact hf
  have a0:=hg.row hf;have e:g.getD f []=g[f]:=by rw[zB3,zB5 a1];rfl
  unfold getG;rw[zB3,zB5 (by rw[a0];exact ho)]
  refine h _ ?_ _ (List.getElem_mem _);rw[e];exact List.getElem_mem _
 ·intro h r hr x hx;obtain⟨f,hf,e1⟩:=List.mem_iff_getElem.1 hr;obtain⟨o,ho,e2⟩:=List.mem_iff_getElem.1 hx;have:=h f o (by rw[<-hg.l];exact hf) (by rw[<-hg.r r hr];exact ho)
  unfold getG at this;rw[zB3 (l:=g),zB5 hf,Option.getD_some,e1,zB3,zB5 ho,e2] at this;exact this
theorem q1w {n nf f:Nat} (hf:f<nf):∀ {w:List Int} {g:Gr},GSh n nf g->(∀ x∈w,0<=x∧x<n)->∀ f' o,f'<nf->o<n->getG (subG f w g) f' o<=getG g f' o
 | [],g,hg,hw,f',o,hf',ho=>Int.le_refl _
 | x::w,g,hg,hw,f',o,hf',ho=>by
   have hx:=hw x List.mem_cons_self;have h1:=q1w hf (w:=w) (hg.add hf x.toNat (-1)) (fun y hy=>hw y (List.mem_cons_of_mem _ hy)) f' o hf' ho
   refine Int.le_trans h1 ?_;by_cases e:f=f'∧x.toNat=o
   ·obtain⟨rfl,rfl⟩:=e;rw[j4b (by rw[hg.l];exact hf) (by rw[hg.row hf];omega)]
    omega
   ·rw[j5a (by omega)]
    exact Int.le_refl _
theorem k7f {n nf f:Nat} (hf:f<nf) {x:Gr}:∀ (m o:Nat) (g:Gr) (l:List Gr),GSh n nf g->nnG g=true->o<=n->(x∈j4z n f m o g l↔x∈l∨∃ w,SrW o n w∧w.length=m∧x=subG f w g∧nnG x=true)
 | 0,o,g,l,hg,hn,ho=>by
   show x∈addR l g↔_;rw[j6g];constructor
   ·rintro(h|⟨h1,h2⟩)
    ·exact .inl h
    ·exact .inr ⟨[],⟨rfl,fun y hy=>by cases hy⟩,rfl,h1,by rw[h1];exact h2⟩
   ·rintro(h|⟨w,-,hw,h1,h2⟩)
    ·exact .inl h
    ·rw[zC1 hw] at h1;exact .inr ⟨h1,hn⟩
 | m+1,o,g,l,hg,hn,ho=>by
   have key:∀ y∈List.range' o (n-o),∀ l:List Gr,(x∈(if 0<getG g f y then j4z n f m y (addG g f y (-1)) l else l)↔x∈l∨(0<getG g f y∧∃ w,SrW y n w∧w.length=m∧x=subG f w (addG g f y (-1))∧nnG x=true)):=fun y hy l=>by
    have a7:o<=y∧y<n:=by rw[List.mem_range'_1] at hy;omega
    by_cases hp:0<getG g f y
    ·rw[if_pos hp,k7f hf m y _ l (hg.add hf _ _) ?_ (by omega)]
     ·simp[hp]
     ·rw[j8e (hg.add hf _ _)];intro f' o' a9 a8;by_cases e:f=f'∧y=o'
      ·obtain⟨rfl,rfl⟩:=e;rw[j4b (by rw[hg.l];exact hf) (by rw[hg.row hf];omega)]
       omega
      ·rw[j5a (by omega)]
       exact(j8e hg).1 hn f' o' a9 a8
    ·rw[if_neg hp];simp[hp]
   show x∈List.foldl _ l _↔_;rw[k0v (S:=fun(y:Nat) (x:Gr)=>0<getG g f y∧∃ w,SrW y n w∧w.length=m∧x=subG f w (addG g f y (-1))∧nnG x=true) key]
   constructor
   ·rintro(h|⟨y,hy,hp,w,a0,a2,a1,a3⟩)
    ·exact .inl h
    ·have a7:o<=y∧y<n:=by rw[List.mem_range'_1] at hy;omega
     refine .inr ⟨(y:Int)::w,⟨j7o.2 ⟨fun z hz=>(a0.2 z hz).1,a0.1⟩,fun z hz=>?_⟩,by rw[List.length_cons,a2],?_,a3⟩
     ·rcases List.mem_cons.1 hz with rfl|hz
      ·omega
      ·have:=a0.2 z hz;omega
     ·rw[a1];show _=subG f w (addG g f (y:Int).toNat (-1));rw[Int.toNat_natCast]
   ·rintro(h|⟨w,a0,a2,a1,a3⟩)
    ·exact .inl h
    ·cases w with
     | nil=>cases a2
     | cons z w =>
       have hz:=a0.2 z List.mem_cons_self;obtain⟨y,rfl⟩:=zB7 (show 0<=z by omega)
       obtain⟨a6,a5⟩:=j7o.1 a0.1;have e:subG f ((y:Int)::w) g=subG f w (addG g f y (-1)):=by
        show subG f w (addG g f (y:Int).toNat (-1))=_;rw[Int.toNat_natCast]
       rw[e] at a1;refine .inr ⟨y,by rw[List.mem_range'_1];omega,?_,w,⟨a5,fun v hv=>⟨a6 v hv,(a0.2 v (List.mem_cons_of_mem _ hv)).2⟩⟩,by simpa using a2,a1,a3⟩
       have a4:=hg.add hf y (-1);have h1:=q1w hf (w:=w) a4 (fun v hv=>by have:=a0.2 v (List.mem_cons_of_mem _ hv);omega) f y hf (by omega)
       rw[<-a1,j4b (by rw[hg.l];exact hf) (by rw[hg.row hf];omega)] at h1
       have h2:=(j8e (by rw[a1];exact k1x hf w a4)).1 a3 f y hf (by omega)
       omega
def j1i (t:Int) (l:List Mk) (deed owner:Int) (i:Nat) (d:De) (E:List Gr) (g:Gr):List Gr :=
 if d.kind=1 then addR E (addG g d.flock.toNat d.owner.toNat d.many)
 else if d.kind=3 then addR E (addG g d.flock.toNat d.owner.toNat (-d.many))
 else if d.kind=2 then addR E (addG (addG g d.flock.toNat d.owner.toNat (-d.many)) d.flock.toNat d.other.toNat d.many)
 else if d.kind=6 then (if cntB d (g.getD d.flock.toNat []).sum then addR E g else E)
 else if d.kind=4 then j4z l.length d.flock.toNat d.many.toNat 0 g E
 else (List.range l.length).foldl (fun E o=>if mayB t l deed owner i d.s o then addR E (addG (addG g d.flock.toNat o (-1)) d.tof.toNat o 1) else E) E
theorem q1c {t:Int} {l:List Mk} {deed owner:Int} {i:Nat} {d:De} {E:List Gr} {g:Gr} (h:E.Nodup):(j1i t l deed owner i d E g).Nodup:=by
 unfold j1i
 split
 ·exact j4s h
 split
 ·exact j4s h
 split
 ·exact j4s h
 split
 ·split
  ·exact j4s h
  ·exact h
 split
 ·exact k2w _ _ _ _ h
 ·refine j7l (fun o _ E hE=>?_) _ h
  show(if _ then _ else _:List Gr).Nodup
  split
  ·exact j4s hE
  ·exact hE
theorem q5m {t:Int} {l:List Mk} {deed owner:Int} {i nf:Nat} {d:De} {E:List Gr} {g x:Gr} (hg:GSh l.length nf g) (hn:nnG g=true) (a4:DeOw l.length nf d) (a6:d.kind=4->0<=d.many) :
 x∈j1i t l deed owner i d E g↔x∈E∨(x∈j1t t l deed owner i d g∧nnG x=true):=by
 have a5:d.flock.toNat<nf:=by have:=a4.f;omega
 unfold j1i j1t;by_cases h1:d.kind=1
 ·rw[if_pos h1,if_pos h1,j6g,List.mem_singleton];exact or_congr Iff.rfl ⟨fun⟨a,b⟩=>⟨a,by rw[a];exact b⟩,fun⟨a,b⟩=>⟨a,by rw[<-a];exact b⟩⟩
 rw[if_neg h1,if_neg h1];by_cases h3:d.kind=3
 ·rw[if_pos h3,if_pos h3,j6g,List.mem_singleton];exact or_congr Iff.rfl ⟨fun⟨a,b⟩=>⟨a,by rw[a];exact b⟩,fun⟨a,b⟩=>⟨a,by rw[<-a];exact b⟩⟩
 rw[if_neg h3,if_neg h3];by_cases h2:d.kind=2
 ·rw[if_pos h2,if_pos h2,j6g,List.mem_singleton];exact or_congr Iff.rfl ⟨fun⟨a,b⟩=>⟨a,by rw[a];exact b⟩,fun⟨a,b⟩=>⟨a,by rw[<-a];exact b⟩⟩
 rw[if_neg h2,if_neg h2];by_cases h6:d.kind=6
 ·rw[if_pos h6,if_pos h6]
  split
  ·rw[j6g,List.mem_singleton];exact or_congr Iff.rfl ⟨fun⟨a,b⟩=>⟨a,by rw[a];exact b⟩,fun⟨a,b⟩=>⟨a,by rw[<-a];exact b⟩⟩
  ·simp
 rw[if_neg h6,if_neg h6];by_cases h4:d.kind=4
 ·rw[if_pos h4,if_pos h4,k7f a5 _ _ _ _ hg hn (Nat.zero_le _)];refine or_congr Iff.rfl ?_;unfold k0s;constructor
  ·rintro⟨w,a1,a3,a2,a0⟩;exact⟨List.mem_map.2 ⟨w,List.mem_filter.2 ⟨k0w a3 fun y hy=>by have:=a1.2 y hy;omega,a1.1⟩,a2.symm⟩,a0⟩
  ·rintro⟨hm,a0⟩;obtain⟨w,hw,rfl⟩:=List.mem_map.1 hm;obtain⟨ha,hb⟩:=List.mem_filter.1 hw;obtain⟨hl,hv⟩:=j3t ha;exact⟨w,⟨hb,fun y hy=>by have:=hv y hy;omega⟩,hl,rfl,a0⟩
 ·rw[if_neg h4,if_neg h4];rw[k0v (S:=fun(o:Nat) (x:Gr)=>mayB t l deed owner i d.s o=true∧x=addG (addG g d.flock.toNat o (-1)) d.tof.toNat o 1∧nnG x=true) fun o _ E=>?_]
  ·refine or_congr Iff.rfl ?_;unfold strG;constructor
   ·rintro⟨o,ho,hm,he,hx⟩;exact⟨List.mem_map.2 ⟨o,List.mem_filter.2 ⟨ho,hm⟩,he.symm⟩,hx⟩
   ·rintro⟨hm,hx⟩;obtain⟨o,ho,rfl⟩:=List.mem_map.1 hm;obtain⟨ha,hb⟩:=List.mem_filter.1 ho;exact⟨o,ha,hb,rfl,hx⟩
  ·show x∈(if _ then _ else _:List Gr)↔_
   split
   ·rename_i hm;rw[j6g];exact or_congr Iff.rfl ⟨fun⟨a,b⟩=>⟨hm,a,by rw[a];exact b⟩,fun⟨_,a,b⟩=>⟨a,by rw[<-a];exact b⟩⟩
   ·rename_i hm;simp[hm]
end Go.Proofs.YtmennjmjakdkcaaGreat
namespace Go.Proofs.YtmennjmjakdkcaaGreat
open Go.RowKit
structure OwnGG (z n nf:Nat) (v:Value) (E:List Gr) (w:World):Prop where
 own:∃ mv,Own eVal 26 1 w z v mv∧mv.length=E.length∧∀ (i:Nat) (u:Value) (g:Gr),mv[i]?=some u->E[i]?=some g->∃ A c,u=.slice A nf c∧nf<=c∧c<=maxLen∧∀ w',w.grownBy w' v.ownBlock->j1d w' A nf g
 sh:∀ g∈E,GSh n nf g
 zw:z<=w.heap.size
structure GgE (z n nf:Nat) (v:Value) (w:World) (v':Value) (E':List Gr) (w':World):Prop where
 gg:OwnGG z n nf v' E' w'
 gr:w.grownBy w' v.ownBlock
 lies:∀ k,v'.ownBlock=some k->v.ownBlock=some k∨w.heap.size<=k
section
variable {z n nf:Nat} {v v' v'':Value} {E E' E'':List Gr} {w w' w'':World}
theorem OwnGG.lt (h:OwnGG z n nf v E w):∀ k,v.ownBlock=some k->z<=k∧k<w.heap.size:=fun k e=>by
 obtain⟨mv,h1,-⟩:=h.own;exact h1.lt k e
theorem OwnGG.below (h:OwnGG z n nf v E w) (hb:Below w.heap.size w w'):OwnGG z n nf v E w':=by
 obtain⟨mv,h1,h2,h3⟩:=h.own;refine⟨⟨mv,h1.below hb (zL9 _),h2,fun i u g hu hg=>?_⟩,h.sh,zB6 h.zw hb.size⟩
 obtain⟨A,c,a1,a2,a3,a4⟩:=h3 i u g hu hg;exact⟨A,c,a1,a2,a3,fun w'' hg=>a4 w'' ((j3o hb).trans hg)⟩
theorem GgE.trans (h:GgE z n nf v w v' E' w') (k:GgE z n nf v' w' v'' E'' w''):GgE z n nf v w v'' E'' w'':=by
 refine⟨k.gg,⟨k.gr.os.trans h.gr.os,k.gr.tape.trans h.gr.tape,k.gr.output.trans h.gr.output,zB6 h.gr.size k.gr.size,fun j hj hne=>?_⟩,fun j hj=>?_⟩
 ·refine(k.gr.block j (Nat.lt_of_lt_of_le hj h.gr.size) (fun e=>?_)).trans (h.gr.block j hj hne)
  rcases h.lies j e.symm with h1|h1
  ·exact hne h1.symm
  ·omega
 ·rcases k.lies j hj with h1|h1
  ·exact h.lies j h1
  ·exact .inr (zB6 h.gr.size h1)
theorem GgE.refl (h:OwnGG z n nf v E w):GgE z n nf v w v E w:=⟨h,World.grownBy.refl _ _,fun k hk=>.inl hk⟩
theorem GgE.before (hb:Below w.heap.size w w') (h:GgE z n nf v w' v' E' w''):GgE z n nf v w v' E' w'' :=
 ⟨h.gg,(j3o hb).trans h.gr,fun k hk=>(h.lies k hk).imp id fun h1=>zB6 hb.size h1⟩
theorem GgE.then (h:GgE z n nf v w v' E' w') (hb:Below w'.heap.size w' w''):GgE z n nf v w v' E' w'':=⟨h.gg.below hb,h.gr.trans (j3o hb),h.lies⟩
theorem GgE.keep {P:World->Prop} (h:GgE z n nf v w v' E' w') (hk:∀ w',w.grownBy w' v.ownBlock->P w'):∀ w'',w'.grownBy w'' v'.ownBlock->P w'':=fun w'' hg=>hk w'' ⟨hg.os.trans h.gr.os,hg.tape.trans h.gr.tape,hg.output.trans h.gr.output,zB6 h.gr.size hg.size,fun j hj hne=>by
 refine(hg.block j (Nat.lt_of_lt_of_le hj h.gr.size) (fun e=>?_)).trans (h.gr.block j hj hne)
 rcases h.lies j e.symm with h1|h1
 ·exact hne h1.symm
 ·omega⟩
theorem OwnGG.get (h:OwnGG z n nf v E w) {k:Nat} (hk:k<E.length) :
 ∃ b off cap A c g,v=.slice (some ⟨b,off,none⟩) E.length cap∧E.length<=cap∧cap<=maxLen∧E[k]?=some g∧w.cell? ⟨b,off+k,none⟩=some (.slice A nf c)∧nf<=c∧c<=maxLen∧j1d w A nf g:=by
 obtain⟨mv,h1,h2,h3⟩:=h.own;obtain⟨A0,c0,hv,hs,hc,hm⟩:=h1.form j2t;rw[h2] at hs hv hc;obtain⟨b,off,x,hA,hb,hx,a0⟩:=Vals.get hs hk;obtain⟨A,c,a1,a2,a3,a4⟩:=h3 k x E[k] hx (zB5 hk);subst hA a1;exact⟨b,off,c0,A,c,E[k],hv,hc,hm,zB5 hk,a0,a2,a3,a4 w (World.grownBy.refl _ _)⟩
theorem OwnGG.form (h:OwnGG z n nf v E w):∃ A c,v=.slice A E.length c∧E.length<=c∧c<=maxLen:=by
 obtain⟨mv,h1,h2,-⟩:=h.own;obtain⟨A0,c0,hv,-,hc,hm⟩:=h1.form j2t;rw[h2] at hv hc;exact⟨A0,c0,hv,hc,hm⟩
theorem OwnGG.nil_ (hz:z<=w.heap.size):OwnGG z n nf (.slice none 0 0) [] w:=⟨⟨[],Own.nil_,rfl,fun i u g h=>by simp at h⟩,(fun g hg=>nomatch hg),hz⟩
theorem OwnGG.snoc {mv:List Value} {A:Option Addr} {c:Nat} {g:Gr} (h:OwnGG z n nf v E w) (a6:mv.length=E.length∧∀ (i:Nat) (u:Value) (g:Gr),mv[i]?=some u->E[i]?=some g->∃ A c,u=.slice A nf c∧nf<=c∧c<=maxLen∧∀ w',w.grownBy w' v.ownBlock->j1d w' A nf g) (a8:GSh n nf g) (hc:nf<=c∧c<=maxLen)
 (hk:∀ w',w.grownBy w' v.ownBlock->j1d w' A nf g) (a7:Own eVal 26 1 w' z v' (mv++[.slice A nf c])) (a5:w.grownBy w' v.ownBlock) (hl:∀ k,v'.ownBlock=some k->v.ownBlock=some k∨w.heap.size<=k) :
 GgE z n nf v w v' (E++[g]) w':=by
 have keep:∀ {P:World->Prop},(∀ w',w.grownBy w' v.ownBlock->P w')->∀ w'',w'.grownBy w'' v'.ownBlock->P w'':=fun {P} hk w'' hg=>hk w'' ⟨hg.os.trans a5.os,hg.tape.trans a5.tape,hg.output.trans a5.output,zB6 a5.size hg.size,fun j hj hne=>by
  refine(hg.block j (Nat.lt_of_lt_of_le hj a5.size) (fun e=>?_)).trans (a5.block j hj hne)
  rcases hl j e.symm with h1|h1
  ·exact hne h1.symm
  ·omega⟩
 refine⟨⟨⟨_,a7,by rw[List.length_append,List.length_append,a6.1];rfl,fun i u g' hu a0=>?_⟩,fun g' a0=>?_,zB6 h.zw a5.size⟩,a5,hl⟩
 ·rcases Nat.lt_or_ge i mv.length with hi|hi
  ·rw[List.getElem?_append_left hi] at hu;rw[List.getElem?_append_left (by rw[<-a6.1];exact hi)] at a0
   obtain⟨A',c',a1,a2,a3,a4⟩:=a6.2 i u g' hu a0;exact⟨A',c',a1,a2,a3,keep a4⟩
  ·rw[List.getElem?_append_right hi] at hu;rw[List.getElem?_append_right (by rw[<-a6.1];exact hi)] at a0
   have h0:i-mv.length=0:=by
    rcases Nat.eq_zero_or_pos (i-mv.length) with h0|h0
    ·exact h0
    ·rw[List.getElem?_eq_none (by simp;omega)] at hu;cases hu
   rw[h0] at hu;rw[<-a6.1,h0] at a0;cases hu;cases a0;exact⟨A,c,rfl,hc.1,hc.2,keep hk⟩
 ·rcases List.mem_append.1 a0 with a0|a0
  ·exact h.sh g' a0
  ·rw[List.mem_singleton.1 a0];exact a8
end
theorem okGrid:ElemOk Tryz.prog 102 26 1 24:=ElemOk.mk' (z:=.slice none 0 0) Tryz.underlying102 (by kernel_rfl) rfl (by decide)
theorem k1y {α:Type} {a b:List α} {k:Nat} {x y:α} (hx:a[k]?=some x) (hy:b[k]?=some y):(a.take (k+1)=b.take (k+1))↔(a.take k=b.take k∧x=y):=by
 rw[List.take_add_one,List.take_add_one,hx,hy];constructor
 ·intro h;have hl:(a.take k).length=(b.take k).length:=by
   have h1:=(List.getElem?_eq_some_iff.1 hx).1;have h2:=(List.getElem?_eq_some_iff.1 hy).1;rw[List.length_take,List.length_take];omega
  obtain⟨h1,h2⟩:=List.append_inj h hl;exact⟨h1,by simpa using h2⟩
 ·rintro⟨h1,rfl⟩;rw[h1]
theorem k0a (z n nf:Nat) (v:Value) (E:List Gr) (Ah:Option Addr) (ch:Nat) (g:Gr) (w:World) (h:OwnGG z n nf v E w) (hg:GSh n nf g) (hk:∀ w',w.grownBy w' v.ownBlock->j1d w' Ah nf g) (hc:nf<=ch∧ch<=maxLen) (hn:n<=1000) (aC:nf<=1000) (hE:E.length<4294967296) :
 Calls Tryz.prog 143 #[v,.slice Ah nf ch] w fun e w'=>∃ v',e=.returned v'∧GgE z n nf v w v' (addR E g) w':=by
 obtain⟨Av,cv,rfl,bf,b7⟩:=h.form;have aa:=fine_any Ah nf ch g w (hk w (World.grownBy.refl _ _)) aC (fun r hr=>by rw[hg.r r hr];exact hn)
 obtain⟨fb,ag⟩:∃ fb,fb=nnG g:=⟨_,rfl⟩;rw[<-ag] at aa;have HX:=zQ9 (zA9 h (zA9 hg (zA9 hk ag)));clear h hg hk ag;go_enter Tryz.func143,Tryz.ntmps143
 cases fb
 ·go_wp2_with (go_at_call 153;(with_reducible refine aa.mono ?_);rintro e w1 ⟨rfl,a7⟩;rw[<-a7];clear a7 w1)
  go_ret
  refine⟨_,rfl,?_⟩;have:addR E g=E:=by unfold addR;rw[if_neg (by rw[<-HX.o.2.2.2];simp)]
  rw[this];exact GgE.refl HX.o.1
 ·go_upto_region 3 with (go_at_call 153;(with_reducible refine aa.mono ?_);rintro e w1 ⟨rfl,a7⟩;rw[<-a7];clear a7 w1)
  clear aa;go_upto_region 4 with (fail)
  go_loopg [5] E.length (fun gh v5 wr=>∃ i:Nat,i+gh=E.length∧v5=.int .i64 i∧(∀ j,j<i->E[j]?≠some g)∧Below w.heap.size w wr)
  case atStart=>exact⟨0,by omega,rfl,fun j hj=>by omega,zB2 _ _⟩
  case round =>
   obtain⟨i,hi,rfl,a9,hb⟩:=hrel;obtain⟨g1,rfl⟩:∃ g1:Nat,g1=gk:=⟨_,rfl⟩;obtain⟨w2,ai⟩:∃ W:World,W=wr:=⟨_,rfl⟩;rw[<-ai] at hb ⊢;clear ai;by_cases hlt:i<E.length
   ·obtain⟨gi,ad⟩:∃ gi,E[i]?=some gi:=⟨_,zB5 hlt⟩;have ax:=HX.o.1.sh gi (zB4 ad);have i1:(i:Int)<(E.length:Int):=by omega
    have HI:=zQ9 (zA9 hi (zA9 a9 (zA9 hb (zA9 ad ax))));clear hi a9 hb ad ax;go_upto_region 8 with (fail)
    go_loopg [6,7] nf (fun gh v6 v7 wr=>∃ f:Nat,f+gh=nf∧v7=.int .i64 f∧v6=.bool (decide (gi.take f=g.take f))∧Below w.heap.size w wr)
    case atStart=>exact⟨0,by omega,rfl,rfl,HI.o.2.2.1⟩
    case round =>
     obtain⟨f,hf,rfl,rfl,hb⟩:=hrel;obtain⟨g2,rfl⟩:∃ g2:Nat,g2=gk:=⟨_,rfl⟩;obtain⟨w3,am⟩:∃ W:World,W=wr:=⟨_,rfl⟩;rw[<-am] at hb ⊢;clear am;by_cases hlf:f<nf
     ·obtain⟨re,ah⟩:∃ r,gi[f]?=some r:=⟨_,zB5 (by rw[HI.o.2.2.2.2.l];exact hlf)⟩
      obtain⟨rg,ae⟩:∃ r,g[f]?=some r:=⟨_,zB5 (by rw[HX.o.2.1.l];exact hlf)⟩
      have an:=HI.o.2.2.2.2.r re (zB4 ah);have aq:=HX.o.2.1.r rg (zB4 ae);have i2:(f:Int)<(nf:Int):=by omega
      have HF:=zQ9 (zA9 hf (zA9 hb (zA9 ah (zA9 ae (zA9 an aq)))));clear hf hb ah ae an aq;go_upto_region 11 with (fail)
      go_loopg [6,8] n (fun gh v6 v8 wr=>∃ o:Nat,o+gh=n∧v8=.int .i64 o∧v6=.bool (decide (gi.take f=g.take f)&&decide (re.take o=rg.take o))∧Below w.heap.size w wr)
      case atStart=>exact⟨0,by omega,rfl,by simp,HF.o.2.1⟩
      case round =>
       obtain⟨o,ho,rfl,rfl,hb⟩:=hrel;obtain⟨sb,a1⟩:∃ sb,sb=(decide (gi.take f=g.take f)&&decide (re.take o=rg.take o)):=⟨_,rfl⟩;rw[<-a1];obtain⟨b2,o2,B2,aG,c2,rfl,bi,a2,y2,ac,aD,be,-⟩:=(HX.o.2.2.1 wr (j3o hb)).get hlf;rw[HF.o.2.2.2.1] at a2;cases a2;rw[HF.o.2.2.2.2.2] at y2 ac aD;by_cases hlo:o<n
       ·obtain⟨b0,o0,cap,A1,c1,aF,ev,-,-,a3,y0,b9,b5,ar⟩:=(HX.o.1.below hb).get hlt;cases ev;rw[HI.o.2.2.2.1] at a3;cases a3;obtain⟨b1,o1,B1,b8,c3,rfl,bh,a6,y1,af,aA,aH,-⟩:=ar.get hlf;rw[HF.o.2.2.1] at a6;cases a6;rw[HF.o.2.2.2.2.1] at y1 af aA;obtain⟨b3,o3,x,rfl,ba,hx,y3⟩:=Ints.get af hlo;obtain⟨b4,o4,y,rfl,b6,hy,y4⟩:=Ints.get ac hlo;have i3:(o:Int)<(n:Int):=by omega
        have a5:(decide (gi.take f=g.take f)&&decide (re.take (o+1)=rg.take (o+1)))=(sb&&decide (x=y)):=by
         rw[a1,Bool.and_assoc];congr 1;rw[Bool.eq_iff_iff,Bool.and_eq_true,decide_eq_true_eq,decide_eq_true_eq,decide_eq_true_eq];exact k1y hx hy
        have aE:=j2c y0;have HO:=zQ9 (zA9 ho (zA9 hb a5));clear ho hb a5 a1 hx hy af ac ar;cases sb
        ·go_upto_region 13 with (fail)
         go_quiet (fail)
         go_wp2_with fail
         go_roundg (gk-1)
         case measure=>have:=HO.o.1;omega
         case rel=>exact⟨o+1,by have:=HO.o.1;omega,by go_num,by rw[HO.o.2.2];rfl,j0k HO.o.2.1 nq⟩
        ·by_cases hxy:x=y
         ·subst hxy;have e1:(x==x)=true:=by simp
          go_upto_region 13 with (fail)
          go_quiet (fail)
          go_wp2_with fail
          go_roundg (gk-1)
          case measure=>have:=HO.o.1;omega
          case rel=>exact⟨o+1,by have:=HO.o.1;omega,by go_num,by rw[HO.o.2.2];simp,j0k HO.o.2.1 nq⟩
         ·have e1:(x==y)=false:=beq_eq_false_iff_ne.2 hxy;have aB:=zQ9 hxy;clear hxy;go_upto_region 13 with (fail)
          go_quiet (fail)
          go_wp2_with fail
          go_roundg (gk-1)
          case measure=>have:=HO.o.1;omega
          case rel=>exact⟨o+1,by have:=HO.o.1;omega,by go_num,by rw[HO.o.2.2,decide_eq_false aB.o];rfl,j0k HO.o.2.1 nq⟩
       ·obtain rfl:o=n:=by omega
        have a5:decide (gi.take (f+1)=g.take (f+1))=sb:=by
         rw[a1,show re.take o=re from zB8 (by rw[HF.o.2.2.2.2.1];exact zL9 _),show rg.take o=rg from zB8 (by rw[HF.o.2.2.2.2.2];exact zL9 _),Bool.eq_iff_iff,Bool.and_eq_true,decide_eq_true_eq,decide_eq_true_eq,decide_eq_true_eq]
         exact k1y HF.o.2.2.1 HF.o.2.2.2.1
        have HO:=zQ9 (zA9 hb a5);clear hb a5 a1 ho ac;go_wp2_with fail
        go_roundg (g2-1)
        case measure=>have:=HF.o.1;omega
        case rel=>exact⟨f+1,by have:=HF.o.1;omega,by go_num,by rw[HO.o.2],HO.o.1⟩
     ·obtain rfl:f=nf:=by omega
      rw[zB8 (by rw[HI.o.2.2.2.2.l];exact zL9 _),zB8 (by rw[HX.o.2.1.l];exact zL9 _)]
      have HF:=zQ9 hb;clear hb hf;by_cases he:gi=g
      ·rw[decide_eq_true he];have HE:=zQ9 he;clear he;go_wp2_with fail
       go_ret
       refine⟨_,rfl,?_⟩;have:addR E g=E:=by
        unfold addR;rw[if_pos HX.o.2.2.2.symm,if_pos (by rw[<-HE.o];exact zB4 HI.o.2.2.2.1)]
       rw[this];exact(GgE.refl HX.o.1).then HF.o
      ·rw[decide_eq_false he];have HE:=zQ9 he;clear he;go_wp2_with fail
       go_roundg (g1-1)
       case measure=>have:=HI.o.1;omega
       case rel =>
        refine⟨i+1,by have:=HI.o.1;omega,by go_num,fun j hj=>?_,HF.o⟩
        rcases Nat.lt_or_ge j i with aw|aw
        ·exact HI.o.2.1 j aw
        ·obtain rfl:j=i:=by omega
         rw[HI.o.2.2.2.1];exact fun e=>HE.o (Option.some.inj e)
   ·obtain rfl:i=E.length:=by omega
    have a8:g∉E:=fun hm=>by
     obtain⟨j,hj⟩:=List.mem_iff_getElem?.1 hm;exact a9 j (List.getElem?_eq_some_iff.1 hj).1 hj
    have hadd:addR E g=E++[g]:=by unfold addR;rw[if_pos HX.o.2.2.2.symm,if_neg a8]
    have h2:=(HX.o.1.below hb).below (bal0 w2 (.cells #[.slice Ah nf ch] 26));obtain⟨mv,ao,av,ak⟩:=h2.own;have ay:mv.length<4294967296:=by omega
    have az:=h2.zw;have HF:=zQ9 (zA9 hb (zA9 hadd (zA9 h2 (zA9 ao (zA9 av ak)))));clear hb hadd h2 ao av ak a8 a9 hi;go_wp2_with (at_builtin;refine j7t okGrid rfl (.tmp 57) (.tmp 59) rfl z (.slice Av E.length cv) mv (.slice Ah nf ch) #[.slice Ah nf ch] w2.heap.size rfl rfl (heap_alloc_new w2 _) rfl rfl (j6i (by rfl)) HF.o.2.2.2.1 ay (by decide) az ?_;intro g4 c4 w4 a0 a4 aj;have H4:=zQ9 (zA9 a0 (zA9 a4 aj));clear a0 a4 aj)
    go_ret
    refine⟨_,rfl,?_⟩;rw[HF.o.2.1];refine GgE.before HF.o.1 (GgE.before (bal0 w2 _) (OwnGG.snoc HF.o.2.2.1 ⟨HF.o.2.2.2.2.1,HF.o.2.2.2.2.2⟩ HX.o.2.1 hc (fun w' hg=>HX.o.2.2.1 w' ((j3o (HF.o.1.trans ((bal0 w2 _).mono HF.o.1.size))).trans hg)) H4.o.1 H4.o.2.1 fun k hk=>?_))
    rcases H4.o.2.2 with h|h
    ·exact .inl (h.trans hk)
    ·right
     have:g4=k:=by simpa[Value.ownBlock] using hk
     omega
theorem k0l {α:Type} {F:List Gr->α->List Gr} {K:Nat}:∀ {L:List α},(∀ a∈L,∀ l,(F l a).length<=l.length+K)->∀ l,(L.foldl F l).length<=l.length+L.length*K
 | [],_,l=>by simp
 | a::L,h,l=>by
   have h1:=k0l (fun b hb=>h b (List.mem_cons_of_mem _ hb)) (F l a)
   have h2:=h a List.mem_cons_self l;rw[List.foldl_cons,List.length_cons,Nat.succ_mul];omega
theorem k8g (l:List Gr) (g:Gr):(addR l g).length<=l.length+1:=by
 unfold addR
 split
 ·split
  ·omega
  ·simp
 ·omega
theorem k7b {n f:Nat} (hn:n<=5):∀ (m o:Nat) (g:Gr) (l:List Gr),(j4z n f m o g l).length<=l.length+5 ^ m
 | 0,o,g,l=>k8g l g
 | m+1,o,g,l=>by
   refine zB6 (k0l (K:=5 ^ m) (fun x _ l=>?_) l) ?_
   ·show(if 0<getG g f x then j4z n f m x (addG g f x (-1)) l else l).length<=_
    split
    ·exact k7b hn m x _ l
    ·exact Nat.le_add_right _ _
   ·rw[List.length_range',Nat.pow_succ,Nat.mul_comm (5 ^ m)];exact Nat.add_le_add_left (Nat.mul_le_mul_right _ (by omega)) _
def j6u (n f m:Nat) (g:Gr):List Gr->Nat->List Gr:=fun l x=>if 0<getG g f x then j4z n f m x (addG g f x (-1)) l else l
theorem q5k {n f m:Nat} {g:Gr} (hn:n<=5) (E:List Gr) (o k:Nat):((List.range' o k).foldl (j6u n f m g) E).length<=E.length+k*5 ^ m:=by
 have:=k0l (F:=j6u n f m g) (K:=5 ^ m) (L:=List.range' o k) (fun x _ l=>by
  unfold j6u
  split
  ·exact k7b hn m x _ l
  ·exact Nat.le_add_right _ _) E
 rwa [List.length_range'] at this
theorem q1e (o k:Nat) (E:List Gr) (F:List Gr->Nat->List Gr):(List.range' o (k+1)).foldl F E=F ((List.range' o k).foldl F E) (o+k):=by
 rw[List.range'_1_concat,List.foldl_append];rfl
theorem k6z (n nf f:Nat) (ag:n<=5) (aB:nf<=3) (hf:f<nf):∀ (m:Nat),m<=3->∀ (z o:Nat) (v:Value) (E:List Gr) (Ah:Option Addr) (ch:Nat) (g:Gr) (w:World),o<=n->OwnGG z n nf v E w->GSh n nf g->nnG g=true->(∀ x,x<n->getG g f x<=1000) ->
 (∀ w',w.grownBy w' v.ownBlock->j1d w' Ah nf g)->nf<=ch∧ch<=maxLen->E.length+5 ^ m<=4294967295 ->
 Calls Tryz.prog 145 #[v,.slice Ah nf ch,.int .i64 f,.int .i64 o,.int .i64 m] w fun e w'=>∃ v',e=.returned v'∧GgE z n nf v w v' (j4z n f m o g E) w'
 | 0,hm3,z,o,v,E,Ah,ch,g,w,ho,h,hg,hn,hb,hk,hc,hE=>by
   have az:=k0a z n nf v E Ah ch g w h hg hk hc (by omega) (by omega) (by omega)
   clear h hk;go_enter Tryz.func145,Tryz.ntmps145
   go_wp2_with (go_at_call 143;(with_reducible refine az.mono ?_);rintro e w1 ⟨v1,rfl,an⟩;have H1:=zQ9 an;clear an)
   go_ret
   exact⟨_,rfl,H1.o⟩
 | m+1,hm3,z,o,v,E,Ah,ch,g,w,ho,h,hg,hn,hb,hk,hc,hE=>by
   have IH:=zQ9 (k6z n nf f ag aB hf m (by omega))
   obtain⟨mm,af⟩:∃ mm:Nat,mm=m+1:=⟨_,rfl⟩;have aG:(mm:Int)-1=(m:Int):=by omega
   have aF:((mm:Int)==0)=false:=beq_eq_false_iff_ne.2 (by omega)
   have ak:E.length+5 ^ m*5<=4294967295:=by rw[Nat.pow_succ] at hE;exact hE
   have HX:=zQ9 (zA9 h (zA9 hg (zA9 hn (zA9 hb (zA9 hk (zA9 hc (zA9 ak af)))))));rw[<-af];have aE:mm<=3:=by omega
   clear h hg hn hb hk hE ak af;go_enter Tryz.func145,Tryz.ntmps145
   go_upto_region 4 with (fail)
   go_loopg [0,11] (n-o) (fun gh v0 v11 wr=>∃ k:Nat,k+gh=n-o∧v11=.int .i64 ((o+k:Nat):Int)∧GgE z n nf v w v0 ((List.range' o k).foldl (j6u n f m g) E) wr)
   case atStart=>exact⟨0,by omega,rfl,GgE.refl HX.o.1⟩
   case round =>
    obtain⟨k,hk,rfl,hE⟩:=hrel;obtain⟨w1,aq⟩:∃ W:World,W=wr:=⟨_,rfl⟩;rw[<-aq] at hE ⊢;clear aq;obtain⟨x,hx⟩:∃ x,x=o+k:=⟨_,rfl⟩;rw[<-hx];have a6:=hE.keep HX.o.2.2.2.2.1 w1 (World.grownBy.refl _ _);obtain⟨b1,o1,B1,row,c1,rfl,aH,a0,y1,a5,aD,b3,-⟩:=a6.get hf;have a9:=HX.o.2.1.r row (zB4 a0);have a8:g.getD f []=row:=by rw[zB3,a0];rfl
    rw[a9] at y1 a5 aD;have i0:(f:Int)<(nf:Int):=by omega
    by_cases hlt:x<n
    ·obtain⟨b2,o2,y,rfl,b0,hy,y2⟩:=Ints.get a5 hlt;have a2:getG g f x=y:=by unfold getG;rw[a8,zB3,hy];rfl
     have ay:=(j8e HX.o.2.1).1 HX.o.2.2.1 f x hf hlt;have ax:=HX.o.2.2.2.1 x hlt;rw[a2] at ay ax;have i1:(x:Int)<(n:Int):=by omega
     have a1:=q1e o k E (j6u n f m g);rw[<-hx] at a1;obtain⟨F,hF⟩:∃ F,F=(List.range' o k).foldl (j6u n f m g) E:=⟨_,rfl⟩;have ad:F.length+5 ^ m<=4294967295:=by
      rw[hF];have h1:=q5k (f:=f) (m:=m) (g:=g) ag E o k;have h2:(k+1)*5 ^ m<=5*5 ^ m:=Nat.mul_le_mul_right _ (by omega)
      rw[Nat.succ_mul,Nat.mul_comm 5] at h2;have h3:=HX.o.2.2.2.2.2.2.1;omega
     rw[<-hF] at hE a1;by_cases hpos:0<y
     ·have a7:j6u n f m g F x=j4z n f m x (addG g f x (-1)) F:=by unfold j6u;rw[if_pos (by rw[a2];exact hpos)]
      rw[a7] at a1;have av:=j4n (some ⟨b1,o1,none⟩) nf ch n g f x (-1) w1 a6 (by omega) HX.o.2.1.r (by omega) hf hlt (by rw[a2];omega) (by omega)
      have ac:=HX.o.2.1.add hf x (-1);have ai:nnG (addG g f x (-1))=true:=by
       rw[j8e ac];intro f' o' aC aw;by_cases e:f=f'∧x=o'
       ·obtain⟨rfl,rfl⟩:=e;rw[j4b (by rw[HX.o.2.1.l];exact hf) (by rw[HX.o.2.1.row hf];exact hlt),a2]
        omega
       ·rw[j5a (by omega)]
        exact(j8e HX.o.2.1).1 HX.o.2.2.1 f' o' aC aw
      have ah:∀ x',x'<n->getG (addG g f x (-1)) f x'<=1000:=fun x' hx'=>by
       by_cases e:x=x'
       ·subst e;rw[j4b (by rw[HX.o.2.1.l];exact hf) (by rw[HX.o.2.1.row hf];exact hlt),a2]
        omega
       ·rw[j5a (.inr e)];exact HX.o.2.2.2.1 x' hx'
      have HK:=zQ9 (zA9 hk (zA9 hE (zA9 a1 (zA9 hx (zA9 ac (zA9 ai (zA9 ah ad)))))));clear hk hE a1 hx ac ai ah ad a6 a0 a5 a8 a9 hy a2 hF a7;go_upto_region 7 with (fail)
      go_wp2_with (first
       | (go_at_call 144;(with_reducible refine av.mono ?_);rintro e w2 ⟨⟨vn,rfl,aa⟩,a3⟩;obtain⟨An,cn,rfl,-,a4,ae⟩:=aa.ownG.form;rw[show(addG g f x (-1)).length=nf by rw[j4a,HX.o.2.1.l]] at a4 aa ⊢;have aj:∀ w',w2.grownBy w' u0.ownBlock->j1d w' An nf (addG g f x (-1)):=(fun w' hg=>by have h1:=aa.grown hg (fun k e=>(HK.o.2.1.gg.lt k e).2);obtain⟨A9,c9,e9,ar,-,-,-⟩:=h1.ownG.formZ;injection e9 with e9 _ _;rw[e9];have h2:=ar;rwa [show(addG g f x (-1)).length=nf by rw[j4a,HX.o.2.1.l]] at h2);have aA:=IH.o z x u0 F An cn (addG g f x (-1)) w2 (by omega) (HK.o.2.1.gg.below a3) HK.o.2.2.2.2.1 HK.o.2.2.2.2.2.1 HK.o.2.2.2.2.2.2.1 aj ⟨a4,ae⟩ HK.o.2.2.2.2.2.2.2;have H2:=zQ9 a3;clear aa a3 aj)
       | (go_at_call 145;(with_reducible refine aA.mono ?_);rintro e w3 ⟨v3,rfl,ao⟩;have H3:=zQ9 ao;clear ao))
      go_roundg (gk-1)
      case measure=>have:=HK.o.1;have:=HK.o.2.2.2.1;omega
      case rel =>
       refine⟨k+1,by have:=HK.o.1;have:=HK.o.2.2.2.1;omega,by have:=HK.o.2.2.2.1;rw[show o+(k+1)=x+1 by omega];go_num,?_⟩
       rw[HK.o.2.2.1];exact HK.o.2.1.trans (GgE.before H2.o H3.o)
     ·have a7:j6u n f m g F x=F:=by unfold j6u;rw[if_neg (by rw[a2];exact hpos)]
      rw[a7] at a1;have HK:=zQ9 (zA9 hk (zA9 hE (zA9 a1 hx)));clear hk hE a1 hx ad a6 a0 a5 a8 a9 hy a2 hF a7;go_wp2_with fail
      go_roundg (gk-1)
      case measure=>have:=HK.o.1;have:=HK.o.2.2.2;omega
      case rel =>
       refine⟨k+1,by have:=HK.o.1;have:=HK.o.2.2.2;omega,by have:=HK.o.2.2.2;rw[show o+(k+1)=x+1 by omega];go_num,?_⟩
       rw[HK.o.2.2.1];exact HK.o.2.1
    ·have am:k=n-o:=by omega
     have i1:¬(x:Int)<(n:Int):=by omega
     have HK:=zQ9 (zA9 hE am);clear hk hE am hx a6 a0 a5 a8 a9;go_wp2_with fail
     go_ret
     have h:=HK.o.1;rw[HK.o.2] at h;rw[HX.o.2.2.2.2.2.2.2];exact⟨_,rfl,h⟩
theorem all9_any (A:Option Addr) (n c f:Nat) (gs:List (List Int)) (w:World) (hl:j1d w A n gs) (hf:f<n) (hr:(gs.getD f []).length<=1000) (hb:∀ x∈gs.getD f [],-100000<=x∧x<=100000) :
 Calls Tryz.prog 101 #[.slice A n c,.int .i64 f] w fun e w'=>e=.returned (.int .i64 (gs.getD f []).sum)∧w=w':=by
 obtain⟨b1,o1,B1,row,c1,rfl,ac,a0,y1,a1,a7,aa,-⟩:=hl.get hf;have a3:gs.getD f []=row:=by rw[zB3,a0];rfl
 rw[a3] at hr hb ⊢;obtain⟨m,hm⟩:∃ m,m=row.length:=⟨_,rfl⟩;rw[<-hm] at y1 a1 a7 hr;have i1:(f:Int)<(n:Int):=by omega
 have HX:=zQ9 (zA9 a1 (zA9 hb hm));clear hl a0 a1 a3 hb hm;go_enter Tryz.func101,Tryz.ntmps101
 go_upto_region 3 with (fail)
 go_loopg [5,6] m (fun g v5 v6 wr=>∃ k:Nat,k+g=m∧v6=.int .i64 k∧v5=.int .i64 (row.take k).sum∧w=wr)
 case atStart=>exact⟨0,by omega,rfl,rfl,rfl⟩
 case round =>
  obtain⟨k,hk,rfl,rfl,rfl⟩:=hrel;have a4:=k5k (B:=100000) (by decide) (l:=row.take k) fun x hx=>HX.o.2.1 x (List.mem_of_mem_take hx)
  have a6:((row.take k).length:Int)<=1000:=by rw[List.length_take];omega
  obtain⟨S,hS⟩:∃ S,S=(row.take k).sum:=⟨_,rfl⟩;have a9:-100000000<=S∧S<=100000000:=by rw[hS];omega
  rw[<-hS];by_cases hlt:k<m
  ·obtain⟨b2,o2,x,rfl,a8,hx,y2⟩:=Ints.get HX.o.1 hlt;have ad:=HX.o.2.1 x (zB4 hx);have a2:(row.take (k+1)).sum=S+x:=by rw[List.take_add_one,hx,List.sum_append,<-hS];simp
   have i2:(k:Int)<(m:Int):=by omega
   have HK:=zQ9 (zA9 hk a2);clear hk a2 hS hx a4 a6;go_wp2_with fail
   go_roundg (gk-1)
   case measure=>have:=HK.o.1;omega
   case rel=>exact⟨k+1,by have:=HK.o.1;omega,by go_num,by rw[HK.o.2],rfl⟩
  ·obtain rfl:k=m:=by omega
   have a5:row.sum=S:=by rw[hS,zB8 (by rw[<-HX.o.2.2];exact zL9 _)]
   have HS:=zQ9 a5;clear hS a5 hk a4 a6;go_wp2_with fail
   go_ret
   exact⟨by rw[HS.o];rfl,rfl⟩
theorem k7y (m e s:Int) (w:World) (hs:0<=s∧s<=100000) (hm:0<=m∧m<=100000) (he:0<=e∧e<=100) :
 Calls Tryz.prog 146 #[.agg #[.int .i64 0,.int .i64 0,.int .i64 m,.int .i64 e],.int .i64 s] w fun x w'=>x=.returned (.bool (decide (100*(m-s)<=e*s)&&decide (100*(s-m)<=e*s)))∧Below w.heap.size w w':=by
 have a1:0<=e*s:=Int.mul_nonneg he.1 hs.1;have a0:e*s<=100*100000:=Int.mul_le_mul he.2 hs.2 hs.1 (by decide)
 obtain⟨P,hP⟩:∃ P,P=e*s:=⟨_,rfl⟩;rw[<-hP] at a1 a0 ⊢;have a2:e*s=P:=hP.symm;clear hP;go_enter Tryz.func146,Tryz.ntmps146
 by_cases h1:m-s<0
 ·by_cases h2:100*(s-m)<=P
  ·have h3:100*(m-s)<=P:=by omega
   have h4:100*-(m-s)<=P:=by omega
   rw[decide_eq_true h2,decide_eq_true h3];go_wp2_with fail
   go_ret
   exact⟨rfl,bal0 w _⟩
  ·have h4:¬100*-(m-s)<=P:=by omega
   rw[decide_eq_false h2,Bool.and_false];go_wp2_with fail
   go_ret
   exact⟨rfl,bal0 w _⟩
 ·by_cases h2:100*(m-s)<=P
  ·have h3:100*(s-m)<=P:=by omega
   rw[decide_eq_true h2,decide_eq_true h3];go_wp2_with fail
   go_ret
   exact⟨rfl,bal0 w _⟩
  ·rw[decide_eq_false h2,Bool.false_and];go_wp2_with fail
   go_ret
   exact⟨rfl,bal0 w _⟩
end Go.Proofs.YtmennjmjakdkcaaGreat
