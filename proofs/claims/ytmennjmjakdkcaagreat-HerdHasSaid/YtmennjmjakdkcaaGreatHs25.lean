/- HerdHas. -/
import Derived.Test.YtmennjmjakdkcaaGreatHs24
set_option linter.unusedVariables false
set_option linter.unusedSimpArgs false
set_option maxRecDepth 100000
set_option maxHeartbeats 4000000
namespace Go.Proofs.YtmennjmjakdkcaaGreat
abbrev Gr:=List (List Int)
def addR (l:List Gr) (g:Gr):List Gr:=if nnG g=true then (if g∈l then l else l++[g]) else l
theorem j6e {l:List Gr} {g x:Gr}:x∈addR l g↔x∈l∨(x=g∧nnG g=true):=by
 unfold addR
 split
 ·rename_i h
  split
  ·rename_i h2
   constructor
   ·exact .inl
   ·rintro(h3|⟨rfl,-⟩)
    ·exact h3
    ·exact h2
  ·rw[List.mem_append,List.mem_singleton]
   constructor
   ·rintro(h3|h3)
    ·exact .inl h3
    ·exact .inr ⟨h3,h⟩
   ·rintro(h3|⟨h3,-⟩)
    ·exact .inl h3
    ·exact .inr h3
 ·rename_i h
  constructor
  ·exact .inl
  ·rintro(h3|⟨-,h3⟩)
   ·exact h3
   ·exact absurd h3 h
theorem j4o {l:List Gr} {g:Gr} (h:l.Nodup):(addR l g).Nodup:=by
 unfold addR
 split
 ·split
  ·exact h
  ·rename_i hg
   rw[List.nodup_append]
   exact⟨h,by simp,fun a ha b hb=>by rw[List.mem_singleton] at hb;subst hb;exact fun e=>hg (e ▸ ha)⟩
 ·exact h
def j4x (n f:Nat):Nat→Nat→Gr→List Gr→List Gr
 | 0,_,g,l=>addR l g
 | m+1,o,g,l=>(List.range' o (n-o)).foldl (fun l x=>if 0<getG g f x then j4x n f m x (addG g f x (-1)) l else l) l
theorem k0k {α:Type} {S:α→Gr→Prop} {F:List Gr→α→List Gr} {x:Gr}:∀ {L:List α},(∀ a∈L,∀ l,x∈F l a↔x∈l∨S a x)→∀ l,x∈L.foldl F l↔x∈l∨∃ a∈L,S a x
 | [],_,l=>by simp
 | a::L,h,l=>by
   rw[List.foldl_cons,k0k (fun b hb=>h b (List.mem_cons_of_mem _ hb)),h a List.mem_cons_self]
   constructor
   ·rintro((h1|h1)|⟨b,h1,h2⟩)
    ·exact .inl h1
    ·exact .inr ⟨a,List.mem_cons_self,h1⟩
    ·exact .inr ⟨b,List.mem_cons_of_mem _ h1,h2⟩
   ·rintro(h1|⟨b,h1,h2⟩)
    ·exact .inl (.inl h1)
    ·rcases List.mem_cons.1 h1 with rfl|h1
     ·exact .inl (.inr h2)
     ·exact .inr ⟨b,h1,h2⟩
theorem j7h {α:Type} {F:List Gr→α→List Gr}:∀ {L:List α},(∀ a∈L,∀ l:List Gr,l.Nodup→(F l a).Nodup)→∀ l:List Gr,l.Nodup→(L.foldl F l).Nodup
 | [],_,l,hl=>hl
 | a::L,h,l,hl=>j7h (fun b hb=>h b (List.mem_cons_of_mem _ hb)) _ (h a List.mem_cons_self l hl)
theorem k2m {n f:Nat}:∀ (m o:Nat) (g:Gr) (l:List Gr),l.Nodup→(j4x n f m o g l).Nodup
 | 0,o,g,l,h=>j4o h
 | m+1,o,g,l,h=>j7h (fun x _ l hl=>by
    show(if 0<getG g f x then j4x n f m x (addG g f x (-1)) l else l).Nodup
    split
    ·exact k2m m x _ l hl
    ·exact hl) l h
theorem j8d {n nf:Nat} {g:Gr} (hg:GSh n nf g):nnG g=true↔∀ f o,f<nf→o<n→0≤getG g f o:=by
 rw[j7s]
 constructor
 ·intro h f o hf ho
  have hfl:f<g.length:=by rw[hg.l];exact hf
  have hrl:=hg.row hf
  have e:g.getD f []=g[f]:=by rw[List.getD_eq_getElem?_getD,List.getElem?_eq_getElem hfl];rfl
  unfold getG
  rw[List.getD_eq_getElem?_getD,List.getElem?_eq_getElem (by rw[hrl];exact ho)]
  refine h _ ?_ _ (List.getElem_mem _)
  rw[e]
  exact List.getElem_mem _
 ·intro h r hr x hx
  obtain⟨f,hf,e1⟩:=List.mem_iff_getElem.1 hr
  obtain⟨o,ho,e2⟩:=List.mem_iff_getElem.1 hx
  have:=h f o (by rw[←hg.l];exact hf) (by rw[←hg.r r hr];exact ho)
  unfold getG at this
  rw[List.getD_eq_getElem?_getD (l:=g),List.getElem?_eq_getElem hf,Option.getD_some,e1,List.getD_eq_getElem?_getD,List.getElem?_eq_getElem ho,e2] at this
  exact this
theorem q0s {n nf f:Nat} (hf:f<nf):∀ {w:List Int} {g:Gr},GSh n nf g→(∀ x∈w,0≤x∧x<n)→∀ f' o,f'<nf→o<n→getG (subG f w g) f' o≤getG g f' o
 | [],g,hg,hw,f',o,hf',ho=>Int.le_refl _
 | x::w,g,hg,hw,f',o,hf',ho=>by
   have hx:=hw x List.mem_cons_self
   have h1:=q0s hf (w:=w) (hg.add hf x.toNat (-1)) (fun y hy=>hw y (List.mem_cons_of_mem _ hy)) f' o hf' ho
   refine Int.le_trans h1 ?_
   by_cases e:f=f'∧x.toNat=o
   ·obtain⟨rfl,rfl⟩:=e
    rw[j3u (by rw[hg.l];exact hf) (by rw[hg.row hf];omega)]
    omega
   ·rw[j5a (by omega)]
    exact Int.le_refl _
theorem k6o {n nf f:Nat} (hf:f<nf) {x:Gr}:∀ (m o:Nat) (g:Gr) (l:List Gr),GSh n nf g→nnG g=true→o≤n→(x∈j4x n f m o g l↔x∈l∨∃ w,SrW o n w∧w.length=m∧x=subG f w g∧nnG x=true)
 | 0,o,g,l,hg,hn,ho=>by
   show x∈addR l g↔_
   rw[j6e]
   constructor
   ·rintro(h|⟨h1,h2⟩)
    ·exact .inl h
    ·exact .inr ⟨[],⟨rfl,fun y hy=>by cases hy⟩,rfl,h1,by rw[h1];exact h2⟩
   ·rintro(h|⟨w,-,hw,h1,h2⟩)
    ·exact .inl h
    ·rw[List.eq_nil_of_length_eq_zero hw] at h1
     exact .inr ⟨h1,hn⟩
 | m+1,o,g,l,hg,hn,ho=>by
   have key:∀ y∈List.range' o (n-o),∀ l:List Gr,(x∈(if 0<getG g f y then j4x n f m y (addG g f y (-1)) l else l)↔x∈l∨(0<getG g f y∧∃ w,SrW y n w∧w.length=m∧x=subG f w (addG g f y (-1))∧nnG x=true)):=fun y hy l=>by
    have hyb:o≤y∧y<n:=by rw[List.mem_range'_1] at hy;omega
    by_cases hp:0<getG g f y
    ·rw[if_pos hp,k6o hf m y _ l (hg.add hf _ _) ?_ (by omega)]
     ·simp[hp]
     ·rw[j8d (hg.add hf _ _)]
      intro f' o' hf' ho'
      by_cases e:f=f'∧y=o'
      ·obtain⟨rfl,rfl⟩:=e
       rw[j3u (by rw[hg.l];exact hf) (by rw[hg.row hf];omega)]
       omega
      ·rw[j5a (by omega)]
       exact(j8d hg).1 hn f' o' hf' ho'
    ·rw[if_neg hp]
     simp[hp]
   show x∈List.foldl _ l _↔_
   rw[k0k (S:=fun(y:Nat) (x:Gr)=>0<getG g f y∧∃ w,SrW y n w∧w.length=m∧x=subG f w (addG g f y (-1))∧nnG x=true) key]
   constructor
   ·rintro(h|⟨y,hy,hp,w,hw1,hw2,hw3,hw4⟩)
    ·exact .inl h
    ·have hyb:o≤y∧y<n:=by rw[List.mem_range'_1] at hy;omega
     refine .inr ⟨(y:Int)::w,⟨j7l.2 ⟨fun z hz=>(hw1.2 z hz).1,hw1.1⟩,fun z hz=>?_⟩,by rw[List.length_cons,hw2],?_,hw4⟩
     ·rcases List.mem_cons.1 hz with rfl|hz
      ·omega
      ·have:=hw1.2 z hz;omega
     ·rw[hw3]
      show _=subG f w (addG g f (y:Int).toNat (-1))
      rw[Int.toNat_natCast]
   ·rintro(h|⟨w,hw1,hw2,hw3,hw4⟩)
    ·exact .inl h
    ·cases w with
     | nil=>cases hw2
     | cons z w =>
       have hz:=hw1.2 z List.mem_cons_self
       obtain⟨y,rfl⟩:=Int.eq_ofNat_of_zero_le (show 0≤z by omega)
       obtain⟨hs1,hs2⟩:=j7l.1 hw1.1
       have e:subG f ((y:Int)::w) g=subG f w (addG g f y (-1)):=by
        show subG f w (addG g f (y:Int).toNat (-1))=_
        rw[Int.toNat_natCast]
       rw[e] at hw3
       refine .inr ⟨y,by rw[List.mem_range'_1];omega,?_,w,⟨hs2,fun v hv=>⟨hs1 v hv,(hw1.2 v (List.mem_cons_of_mem _ hv)).2⟩⟩,by simpa using hw2,hw3,hw4⟩
       have hgs:=hg.add hf y (-1)
       have h1:=q0s hf (w:=w) hgs (fun v hv=>by have:=hw1.2 v (List.mem_cons_of_mem _ hv);omega) f y hf (by omega)
       rw[←hw3,j3u (by rw[hg.l];exact hf) (by rw[hg.row hf];omega)] at h1
       have h2:=(j8d (by rw[hw3];exact k1q hf w hgs)).1 hw4 f y hf (by omega)
       omega
def j1e (t:Int) (l:List Mk) (deed owner:Int) (i:Nat) (d:De) (E:List Gr) (g:Gr):List Gr :=
 if d.kind=1 then addR E (addG g d.flock.toNat d.owner.toNat d.many)
 else if d.kind=3 then addR E (addG g d.flock.toNat d.owner.toNat (-d.many))
 else if d.kind=2 then addR E (addG (addG g d.flock.toNat d.owner.toNat (-d.many)) d.flock.toNat d.other.toNat d.many)
 else if d.kind=6 then (if cntB d (g.getD d.flock.toNat []).sum then addR E g else E)
 else if d.kind=4 then j4x l.length d.flock.toNat d.many.toNat 0 g E
 else (List.range l.length).foldl (fun E o=>if mayB t l deed owner i d.s o then addR E (addG (addG g d.flock.toNat o (-1)) d.tof.toNat o 1) else E) E
theorem q0d {t:Int} {l:List Mk} {deed owner:Int} {i:Nat} {d:De} {E:List Gr} {g:Gr} (h:E.Nodup):(j1e t l deed owner i d E g).Nodup:=by
 unfold j1e
 split
 ·exact j4o h
 split
 ·exact j4o h
 split
 ·exact j4o h
 split
 ·split
  ·exact j4o h
  ·exact h
 split
 ·exact k2m _ _ _ _ h
 ·refine j7h (fun o _ E hE=>?_) _ h
  show(if _ then _ else _:List Gr).Nodup
  split
  ·exact j4o hE
  ·exact hE
theorem q4j {t:Int} {l:List Mk} {deed owner:Int} {i nf:Nat} {d:De} {E:List Gr} {g x:Gr} (hg:GSh l.length nf g) (hn:nnG g=true) (how:DeOw l.length nf d) (h4m:d.kind=4→0≤d.many) :
 x∈j1e t l deed owner i d E g↔x∈E∨(x∈j1t t l deed owner i d g∧nnG x=true):=by
 have hff:d.flock.toNat<nf:=by have:=how.f;omega
 unfold j1e j1t
 by_cases h1:d.kind=1
 ·rw[if_pos h1,if_pos h1,j6e,List.mem_singleton]
  exact or_congr Iff.rfl ⟨fun⟨a,b⟩=>⟨a,by rw[a];exact b⟩,fun⟨a,b⟩=>⟨a,by rw[←a];exact b⟩⟩
 rw[if_neg h1,if_neg h1]
 by_cases h3:d.kind=3
 ·rw[if_pos h3,if_pos h3,j6e,List.mem_singleton]
  exact or_congr Iff.rfl ⟨fun⟨a,b⟩=>⟨a,by rw[a];exact b⟩,fun⟨a,b⟩=>⟨a,by rw[←a];exact b⟩⟩
 rw[if_neg h3,if_neg h3]
 by_cases h2:d.kind=2
 ·rw[if_pos h2,if_pos h2,j6e,List.mem_singleton]
  exact or_congr Iff.rfl ⟨fun⟨a,b⟩=>⟨a,by rw[a];exact b⟩,fun⟨a,b⟩=>⟨a,by rw[←a];exact b⟩⟩
 rw[if_neg h2,if_neg h2]
 by_cases h6:d.kind=6
 ·rw[if_pos h6,if_pos h6]
  split
  ·rw[j6e,List.mem_singleton]
   exact or_congr Iff.rfl ⟨fun⟨a,b⟩=>⟨a,by rw[a];exact b⟩,fun⟨a,b⟩=>⟨a,by rw[←a];exact b⟩⟩
  ·simp
 rw[if_neg h6,if_neg h6]
 by_cases h4:d.kind=4
 ·rw[if_pos h4,if_pos h4,k6o hff _ _ _ _ hg hn (Nat.zero_le _)]
  refine or_congr Iff.rfl ?_
  unfold k0h
  constructor
  ·rintro⟨w,hw1,hw2,hw3,hw4⟩
   exact⟨List.mem_map.2 ⟨w,List.mem_filter.2 ⟨k0l hw2 fun y hy=>by have:=hw1.2 y hy;omega,hw1.1⟩,hw3.symm⟩,hw4⟩
  ·rintro⟨hm,hw4⟩
   obtain⟨w,hw,rfl⟩:=List.mem_map.1 hm
   obtain⟨ha,hb⟩:=List.mem_filter.1 hw
   obtain⟨hl,hv⟩:=j7p ha
   exact⟨w,⟨hb,fun y hy=>by have:=hv y hy;omega⟩,hl,rfl,hw4⟩
 ·rw[if_neg h4,if_neg h4]
  rw[k0k (S:=fun(o:Nat) (x:Gr)=>mayB t l deed owner i d.s o=true∧x=addG (addG g d.flock.toNat o (-1)) d.tof.toNat o 1∧nnG x=true) fun o _ E=>?_]
  ·refine or_congr Iff.rfl ?_
   unfold strG
   constructor
   ·rintro⟨o,ho,hm,he,hx⟩
    exact⟨List.mem_map.2 ⟨o,List.mem_filter.2 ⟨ho,hm⟩,he.symm⟩,hx⟩
   ·rintro⟨hm,hx⟩
    obtain⟨o,ho,rfl⟩:=List.mem_map.1 hm
    obtain⟨ha,hb⟩:=List.mem_filter.1 ho
    exact⟨o,ha,hb,rfl,hx⟩
  ·show x∈(if _ then _ else _:List Gr)↔_
   split
   ·rename_i hm
    rw[j6e]
    exact or_congr Iff.rfl ⟨fun⟨a,b⟩=>⟨hm,a,by rw[a];exact b⟩,fun⟨_,a,b⟩=>⟨a,by rw[←a];exact b⟩⟩
   ·rename_i hm
    simp[hm]
end Go.Proofs.YtmennjmjakdkcaaGreat
namespace Go.Proofs.YtmennjmjakdkcaaGreat
open Go.RowKit
structure OwnGG (z n nf:Nat) (v:Value) (E:List Gr) (w:World):Prop where
 own:∃ mv,Own eVal 26 1 w z v mv∧mv.length=E.length∧∀ (i:Nat) (u:Value) (g:Gr),mv[i]?=some u→E[i]?=some g→∃ A c,u=.slice A nf c∧nf≤c∧c≤maxLen∧∀ w',w.grownBy w' v.ownBlock→j0z w' A nf g
 sh:∀ g∈E,GSh n nf g
 zw:z≤w.heap.size
structure GgE (z n nf:Nat) (v:Value) (w:World) (v':Value) (E':List Gr) (w':World):Prop where
 gg:OwnGG z n nf v' E' w'
 gr:w.grownBy w' v.ownBlock
 lies:∀ k,v'.ownBlock=some k→v.ownBlock=some k∨w.heap.size≤k
section
variable {z n nf:Nat} {v v' v'':Value} {E E' E'':List Gr} {w w' w'':World}
theorem OwnGG.lt (h:OwnGG z n nf v E w):∀ k,v.ownBlock=some k→z≤k∧k<w.heap.size:=fun k e=>by
 obtain⟨mv,h1,-⟩:=h.own
 exact h1.lt k e
theorem OwnGG.below (h:OwnGG z n nf v E w) (hb:Below w.heap.size w w'):OwnGG z n nf v E w':=by
 obtain⟨mv,h1,h2,h3⟩:=h.own
 refine⟨⟨mv,h1.below hb (zL9 _),h2,fun i u g hu hg=>?_⟩,h.sh,Nat.le_trans h.zw hb.size⟩
 obtain⟨A,c,a1,a2,a3,a4⟩:=h3 i u g hu hg
 exact⟨A,c,a1,a2,a3,fun w'' hg=>a4 w'' ((j3j hb).trans hg)⟩
theorem GgE.trans (h:GgE z n nf v w v' E' w') (k:GgE z n nf v' w' v'' E'' w''):GgE z n nf v w v'' E'' w'':=by
 refine⟨k.gg,⟨k.gr.os.trans h.gr.os,k.gr.tape.trans h.gr.tape,k.gr.output.trans h.gr.output,Nat.le_trans h.gr.size k.gr.size,fun j hj hne=>?_⟩,fun j hj=>?_⟩
 ·refine(k.gr.block j (Nat.lt_of_lt_of_le hj h.gr.size) (fun e=>?_)).trans (h.gr.block j hj hne)
  rcases h.lies j e.symm with h1|h1
  ·exact hne h1.symm
  ·omega
 ·rcases k.lies j hj with h1|h1
  ·exact h.lies j h1
  ·exact .inr (Nat.le_trans h.gr.size h1)
theorem GgE.refl (h:OwnGG z n nf v E w):GgE z n nf v w v E w:=⟨h,World.grownBy.refl _ _,fun k hk=>.inl hk⟩
theorem GgE.before (hb:Below w.heap.size w w') (h:GgE z n nf v w' v' E' w''):GgE z n nf v w v' E' w'' :=
 ⟨h.gg,(j3j hb).trans h.gr,fun k hk=>(h.lies k hk).imp id fun h1=>Nat.le_trans hb.size h1⟩
theorem GgE.then (h:GgE z n nf v w v' E' w') (hb:Below w'.heap.size w' w''):GgE z n nf v w v' E' w'':=⟨h.gg.below hb,h.gr.trans (j3j hb),h.lies⟩
theorem GgE.keep {P:World→Prop} (h:GgE z n nf v w v' E' w') (hk:∀ w',w.grownBy w' v.ownBlock→P w'):∀ w'',w'.grownBy w'' v'.ownBlock→P w'':=fun w'' hg=>hk w'' ⟨hg.os.trans h.gr.os,hg.tape.trans h.gr.tape,hg.output.trans h.gr.output,Nat.le_trans h.gr.size hg.size,fun j hj hne=>by
 refine(hg.block j (Nat.lt_of_lt_of_le hj h.gr.size) (fun e=>?_)).trans (h.gr.block j hj hne)
 rcases h.lies j e.symm with h1|h1
 ·exact hne h1.symm
 ·omega⟩
theorem OwnGG.get (h:OwnGG z n nf v E w) {k:Nat} (hk:k<E.length) :
 ∃ b off cap A c g,v=.slice (some ⟨b,off,none⟩) E.length cap∧E.length≤cap∧cap≤maxLen∧E[k]?=some g∧w.cell? ⟨b,off+k,none⟩=some (.slice A nf c)∧nf≤c∧c≤maxLen∧j0z w A nf g:=by
 obtain⟨mv,h1,h2,h3⟩:=h.own
 obtain⟨A0,c0,hv,hs,hc,hm⟩:=h1.form j3c
 rw[h2] at hs hv hc
 obtain⟨b,off,x,hA,hb,hx,hcl⟩:=Vals.get hs hk
 obtain⟨A,c,a1,a2,a3,a4⟩:=h3 k x E[k] hx (List.getElem?_eq_getElem hk)
 subst hA a1
 exact⟨b,off,c0,A,c,E[k],hv,hc,hm,List.getElem?_eq_getElem hk,hcl,a2,a3,a4 w (World.grownBy.refl _ _)⟩
theorem OwnGG.form (h:OwnGG z n nf v E w):∃ A c,v=.slice A E.length c∧E.length≤c∧c≤maxLen:=by
 obtain⟨mv,h1,h2,-⟩:=h.own
 obtain⟨A0,c0,hv,-,hc,hm⟩:=h1.form j3c
 rw[h2] at hv hc
 exact⟨A0,c0,hv,hc,hm⟩
theorem OwnGG.nil_ (hz:z≤w.heap.size):OwnGG z n nf (.slice none 0 0) [] w:=⟨⟨[],Own.nil_,rfl,fun i u g h=>by simp at h⟩,(fun g hg=>nomatch hg),hz⟩
theorem OwnGG.snoc {mv:List Value} {A:Option Addr} {c:Nat} {g:Gr} (h:OwnGG z n nf v E w) (hmv:mv.length=E.length∧∀ (i:Nat) (u:Value) (g:Gr),mv[i]?=some u→E[i]?=some g→∃ A c,u=.slice A nf c∧nf≤c∧c≤maxLen∧∀ w',w.grownBy w' v.ownBlock→j0z w' A nf g) (hsh:GSh n nf g) (hc:nf≤c∧c≤maxLen)
 (hk:∀ w',w.grownBy w' v.ownBlock→j0z w' A nf g) (hown:Own eVal 26 1 w' z v' (mv++[.slice A nf c])) (hgr:w.grownBy w' v.ownBlock) (hl:∀ k,v'.ownBlock=some k→v.ownBlock=some k∨w.heap.size≤k) :
 GgE z n nf v w v' (E++[g]) w':=by
 have keep:∀ {P:World→Prop},(∀ w',w.grownBy w' v.ownBlock→P w')→∀ w'',w'.grownBy w'' v'.ownBlock→P w'':=fun {P} hk w'' hg=>hk w'' ⟨hg.os.trans hgr.os,hg.tape.trans hgr.tape,hg.output.trans hgr.output,Nat.le_trans hgr.size hg.size,fun j hj hne=>by
  refine(hg.block j (Nat.lt_of_lt_of_le hj hgr.size) (fun e=>?_)).trans (hgr.block j hj hne)
  rcases hl j e.symm with h1|h1
  ·exact hne h1.symm
  ·omega⟩
 refine⟨⟨⟨_,hown,by rw[List.length_append,List.length_append,hmv.1];rfl,fun i u g' hu hg'=>?_⟩,fun g' hg'=>?_,Nat.le_trans h.zw hgr.size⟩,hgr,hl⟩
 ·rcases Nat.lt_or_ge i mv.length with hi|hi
  ·rw[List.getElem?_append_left hi] at hu
   rw[List.getElem?_append_left (by rw[←hmv.1];exact hi)] at hg'
   obtain⟨A',c',a1,a2,a3,a4⟩:=hmv.2 i u g' hu hg'
   exact⟨A',c',a1,a2,a3,keep a4⟩
  ·rw[List.getElem?_append_right hi] at hu
   rw[List.getElem?_append_right (by rw[←hmv.1];exact hi)] at hg'
   have h0:i-mv.length=0:=by
    rcases Nat.eq_zero_or_pos (i-mv.length) with h0|h0
    ·exact h0
    ·rw[List.getElem?_eq_none (by simp;omega)] at hu;cases hu
   rw[h0] at hu
   rw[←hmv.1,h0] at hg'
   cases hu
   cases hg'
   exact⟨A,c,rfl,hc.1,hc.2,keep hk⟩
 ·rcases List.mem_append.1 hg' with hg'|hg'
  ·exact h.sh g' hg'
  ·rw[List.mem_singleton.1 hg'];exact hsh
end
theorem okGrid:ElemOk Tryz.prog 102 26 1 24:=ElemOk.mk' (z:=.slice none 0 0) Tryz.underlying102 (by kernel_rfl) rfl (by decide)
theorem k1s {α:Type} {a b:List α} {k:Nat} {x y:α} (hx:a[k]?=some x) (hy:b[k]?=some y):(a.take (k+1)=b.take (k+1))↔(a.take k=b.take k∧x=y):=by
 rw[List.take_add_one,List.take_add_one,hx,hy]
 constructor
 ·intro h
  have hl:(a.take k).length=(b.take k).length:=by
   have h1:=(List.getElem?_eq_some_iff.1 hx).1
   have h2:=(List.getElem?_eq_some_iff.1 hy).1
   rw[List.length_take,List.length_take]
   omega
  obtain⟨h1,h2⟩:=List.append_inj h hl
  exact⟨h1,by simpa using h2⟩
 ·rintro⟨h1,rfl⟩
  rw[h1]
theorem j9q (z n nf:Nat) (v:Value) (E:List Gr) (Ah:Option Addr) (ch:Nat) (g:Gr) (w:World) (h:OwnGG z n nf v E w) (hg:GSh n nf g) (hk:∀ w',w.grownBy w' v.ownBlock→j0z w' Ah nf g) (hc:nf≤ch∧ch≤maxLen) (hn:n≤1000) (hnf:nf≤1000) (hE:E.length<4294967296) :
 Calls Tryz.prog 143 #[v,.slice Ah nf ch] w fun e w'=>∃ v',e=.returned v'∧GgE z n nf v w v' (addR E g) w':=by
 obtain⟨Av,cv,rfl,hcv,hcm⟩:=h.form
 have hfi:=fine_any Ah nf ch g w (hk w (World.grownBy.refl _ _)) hnf (fun r hr=>by rw[hg.r r hr];exact hn)
 obtain⟨fb,hfb⟩:∃ fb,fb=nnG g:=⟨_,rfl⟩
 rw[←hfb] at hfi
 have HX:=zQ9 (zA9 h (zA9 hg (zA9 hk hfb)))
 clear h hg hk hfb
 go_enter Tryz.func143,Tryz.ntmps143
 cases fb
 ·go_wp2_with (go_at_call 153;(with_reducible refine hfi.mono ?_);rintro e w1 ⟨rfl,hw1⟩;rw[←hw1];clear hw1 w1)
  go_ret
  refine⟨_,rfl,?_⟩
  have:addR E g=E:=by unfold addR;rw[if_neg (by rw[←HX.out.2.2.2];simp)]
  rw[this]
  exact GgE.refl HX.out.1
 ·go_upto_region 3 with (go_at_call 153;(with_reducible refine hfi.mono ?_);rintro e w1 ⟨rfl,hw1⟩;rw[←hw1];clear hw1 w1)
  clear hfi
  go_upto_region 4 with (fail)
  go_loopg [5] E.length (fun gh v5 wr=>∃ i:Nat,i+gh=E.length∧v5=.int .i64 i∧(∀ j,j<i→E[j]?≠some g)∧Below w.heap.size w wr)
  case atStart=>exact⟨0,by omega,rfl,fun j hj=>by omega,Below.refl _ _⟩
  case round =>
   obtain⟨i,hi,rfl,hno,hb⟩:=hrel
   obtain⟨g1,rfl⟩:∃ g1:Nat,g1=gk:=⟨_,rfl⟩
   obtain⟨w2,hw2⟩:∃ W:World,W=wr:=⟨_,rfl⟩
   rw[←hw2] at hb ⊢
   clear hw2
   by_cases hlt:i<E.length
   ·obtain⟨gi,hgi⟩:∃ gi,E[i]?=some gi:=⟨_,List.getElem?_eq_getElem hlt⟩
    have hsi:=HX.out.1.sh gi (List.mem_of_getElem? hgi)
    have i1:(i:Int)<(E.length:Int):=by omega
    have HI:=zQ9 (zA9 hi (zA9 hno (zA9 hb (zA9 hgi hsi))))
    clear hi hno hb hgi hsi
    go_upto_region 8 with (fail)
    go_loopg [6,7] nf (fun gh v6 v7 wr=>∃ f:Nat,f+gh=nf∧v7=.int .i64 f∧v6=.bool (decide (gi.take f=g.take f))∧Below w.heap.size w wr)
    case atStart=>exact⟨0,by omega,rfl,rfl,HI.out.2.2.1⟩
    case round =>
     obtain⟨f,hf,rfl,rfl,hb⟩:=hrel
     obtain⟨g2,rfl⟩:∃ g2:Nat,g2=gk:=⟨_,rfl⟩
     obtain⟨w3,hw3⟩:∃ W:World,W=wr:=⟨_,rfl⟩
     rw[←hw3] at hb ⊢
     clear hw3
     by_cases hlf:f<nf
     ·obtain⟨re,hre⟩:∃ r,gi[f]?=some r:=⟨_,List.getElem?_eq_getElem (by rw[HI.out.2.2.2.2.l];exact hlf)⟩
      obtain⟨rg,hrg⟩:∃ r,g[f]?=some r:=⟨_,List.getElem?_eq_getElem (by rw[HX.out.2.1.l];exact hlf)⟩
      have hle:=HI.out.2.2.2.2.r re (List.mem_of_getElem? hre)
      have hlg:=HX.out.2.1.r rg (List.mem_of_getElem? hrg)
      have i2:(f:Int)<(nf:Int):=by omega
      have HF:=zQ9 (zA9 hf (zA9 hb (zA9 hre (zA9 hrg (zA9 hle hlg)))))
      clear hf hb hre hrg hle hlg
      go_upto_region 11 with (fail)
      go_loopg [6,8] n (fun gh v6 v8 wr=>∃ o:Nat,o+gh=n∧v8=.int .i64 o∧v6=.bool (decide (gi.take f=g.take f)&&decide (re.take o=rg.take o))∧Below w.heap.size w wr)
      case atStart=>exact⟨0,by omega,rfl,by simp,HF.out.2.1⟩
      case round =>
       obtain⟨o,ho,rfl,rfl,hb⟩:=hrel
       obtain⟨sb,hsb⟩:∃ sb,sb=(decide (gi.take f=g.take f)&&decide (re.take o=rg.take o)):=⟨_,rfl⟩
       rw[←hsb]
       obtain⟨b2,o2,B2,rg',c2,rfl,hb2,hrg',y2,hi2,hc2,hm2,-⟩:=(HX.out.2.2.1 wr (j3j hb)).get hlf
       rw[HF.out.2.2.2.1] at hrg'
       cases hrg'
       rw[HF.out.2.2.2.2.2] at y2 hi2 hc2
       by_cases hlo:o<n
       ·obtain⟨b0,o0,cap,A1,c1,g1',ev,-,-,hg1',y0,hc1,hm1,hgz⟩:=(HX.out.1.below hb).get hlt
        cases ev
        rw[HI.out.2.2.2.1] at hg1'
        cases hg1'
        obtain⟨b1,o1,B1,re',c3,rfl,hb1,hre',y1,hi1,hc3,hm3,-⟩:=hgz.get hlf
        rw[HF.out.2.2.1] at hre'
        cases hre'
        rw[HF.out.2.2.2.2.1] at y1 hi1 hc3
        obtain⟨b3,o3,x,rfl,hb3,hx,y3⟩:=Ints.get hi1 hlo
        obtain⟨b4,o4,y,rfl,hb4,hy,y4⟩:=Ints.get hi2 hlo
        have i3:(o:Int)<(n:Int):=by omega
        have hnx:(decide (gi.take f=g.take f)&&decide (re.take (o+1)=rg.take (o+1)))=(sb&&decide (x=y)):=by
         rw[hsb,Bool.and_assoc]
         congr 1
         rw[Bool.eq_iff_iff,Bool.and_eq_true,decide_eq_true_eq,decide_eq_true_eq,decide_eq_true_eq]
         exact k1s hx hy
        have hbl0:=j2b y0
        have HO:=zQ9 (zA9 ho (zA9 hb hnx))
        clear ho hb hnx hsb hx hy hi1 hi2 hgz
        cases sb
        ·go_upto_region 13 with (fail)
         go_quiet (fail)
         go_wp2_with fail
         go_roundg (gk-1)
         case measure=>have:=HO.out.1;omega
         case rel=>exact⟨o+1,by have:=HO.out.1;omega,by go_num,by rw[HO.out.2.2];rfl,j0l HO.out.2.1 nq⟩
        ·by_cases hxy:x=y
         ·subst hxy
          have e1:(x==x)=true:=by simp
          go_upto_region 13 with (fail)
          go_quiet (fail)
          go_wp2_with fail
          go_roundg (gk-1)
          case measure=>have:=HO.out.1;omega
          case rel=>exact⟨o+1,by have:=HO.out.1;omega,by go_num,by rw[HO.out.2.2];simp,j0l HO.out.2.1 nq⟩
         ·have e1:(x==y)=false:=beq_eq_false_iff_ne.2 hxy
          have HXY:=zQ9 hxy
          clear hxy
          go_upto_region 13 with (fail)
          go_quiet (fail)
          go_wp2_with fail
          go_roundg (gk-1)
          case measure=>have:=HO.out.1;omega
          case rel=>exact⟨o+1,by have:=HO.out.1;omega,by go_num,by rw[HO.out.2.2,decide_eq_false HXY.out];rfl,j0l HO.out.2.1 nq⟩
       ·obtain rfl:o=n:=by omega
        have hnx:decide (gi.take (f+1)=g.take (f+1))=sb:=by
         rw[hsb,show re.take o=re from List.take_of_length_le (by rw[HF.out.2.2.2.2.1];exact zL9 _),show rg.take o=rg from List.take_of_length_le (by rw[HF.out.2.2.2.2.2];exact zL9 _),Bool.eq_iff_iff,Bool.and_eq_true,decide_eq_true_eq,decide_eq_true_eq,decide_eq_true_eq]
         exact k1s HF.out.2.2.1 HF.out.2.2.2.1
        have HO:=zQ9 (zA9 hb hnx)
        clear hb hnx hsb ho hi2
        go_wp2_with fail
        go_roundg (g2-1)
        case measure=>have:=HF.out.1;omega
        case rel=>exact⟨f+1,by have:=HF.out.1;omega,by go_num,by rw[HO.out.2],HO.out.1⟩
     ·obtain rfl:f=nf:=by omega
      rw[List.take_of_length_le (by rw[HI.out.2.2.2.2.l];exact zL9 _),List.take_of_length_le (by rw[HX.out.2.1.l];exact zL9 _)]
      have HF:=zQ9 hb
      clear hb hf
      by_cases he:gi=g
      ·rw[decide_eq_true he]
       have HE:=zQ9 he
       clear he
       go_wp2_with fail
       go_ret
       refine⟨_,rfl,?_⟩
       have:addR E g=E:=by
        unfold addR
        rw[if_pos HX.out.2.2.2.symm,if_pos (by rw[←HE.out];exact List.mem_of_getElem? HI.out.2.2.2.1)]
       rw[this]
       exact(GgE.refl HX.out.1).then HF.out
      ·rw[decide_eq_false he]
       have HE:=zQ9 he
       clear he
       go_wp2_with fail
       go_roundg (g1-1)
       case measure=>have:=HI.out.1;omega
       case rel =>
        refine⟨i+1,by have:=HI.out.1;omega,by go_num,fun j hj=>?_,HF.out⟩
        rcases Nat.lt_or_ge j i with hji|hji
        ·exact HI.out.2.1 j hji
        ·obtain rfl:j=i:=by omega
         rw[HI.out.2.2.2.1]
         exact fun e=>HE.out (Option.some.inj e)
   ·obtain rfl:i=E.length:=by omega
    have hnot:g∉E:=fun hm=>by
     obtain⟨j,hj⟩:=List.mem_iff_getElem?.1 hm
     exact hno j (List.getElem?_eq_some_iff.1 hj).1 hj
    have hadd:addR E g=E++[g]:=by unfold addR;rw[if_pos HX.out.2.2.2.symm,if_neg hnot]
    have h2:=(HX.out.1.below hb).below (bal0 w2 (Obj.cells #[Value.slice Ah nf ch] 26))
    obtain⟨mv,ho1,ho2,ho3⟩:=h2.own
    have hmb:mv.length<4294967296:=by omega
    have hzw:=h2.zw
    have HF:=zQ9 (zA9 hb (zA9 hadd (zA9 h2 (zA9 ho1 (zA9 ho2 ho3)))))
    clear hb hadd h2 ho1 ho2 ho3 hnot hno hi
    go_wp2_with (at_builtin;refine j9o okGrid rfl (.tmp 57) (.tmp 59) rfl z (.slice Av E.length cv) mv (.slice Ah nf ch) #[.slice Ah nf ch] w2.heap.size rfl rfl (heap_alloc_new w2 _) rfl rfl (k0m (by rfl)) HF.out.2.2.2.1 hmb (by decide) hzw ?_;intro g4 c4 w4 hown4 hgr4 hl4;have H4:=zQ9 (zA9 hown4 (zA9 hgr4 hl4));clear hown4 hgr4 hl4)
    go_ret
    refine⟨_,rfl,?_⟩
    rw[HF.out.2.1]
    refine GgE.before HF.out.1 (GgE.before (bal0 w2 _) (OwnGG.snoc HF.out.2.2.1 ⟨HF.out.2.2.2.2.1,HF.out.2.2.2.2.2⟩ HX.out.2.1 hc (fun w' hg=>HX.out.2.2.1 w' ((j3j (HF.out.1.trans ((bal0 w2 _).mono HF.out.1.size))).trans hg)) H4.out.1 H4.out.2.1 fun k hk=>?_))
    rcases H4.out.2.2 with h|h
    ·exact .inl (h.trans hk)
    ·right
     have:g4=k:=by simpa[Value.ownBlock] using hk
     omega
theorem k0b {α:Type} {F:List Gr→α→List Gr} {K:Nat}:∀ {L:List α},(∀ a∈L,∀ l,(F l a).length≤l.length+K)→∀ l,(L.foldl F l).length≤l.length+L.length*K
 | [],_,l=>by simp
 | a::L,h,l=>by
   have h1:=k0b (fun b hb=>h b (List.mem_cons_of_mem _ hb)) (F l a)
   have h2:=h a List.mem_cons_self l
   rw[List.foldl_cons,List.length_cons,Nat.succ_mul]
   omega
theorem k7q (l:List Gr) (g:Gr):(addR l g).length≤l.length+1:=by
 unfold addR
 split
 ·split
  ·omega
  ·simp
 ·omega
theorem k6k {n f:Nat} (hn:n≤5):∀ (m o:Nat) (g:Gr) (l:List Gr),(j4x n f m o g l).length≤l.length+5 ^ m
 | 0,o,g,l=>k7q l g
 | m+1,o,g,l=>by
   refine Nat.le_trans (k0b (K:=5 ^ m) (fun x _ l=>?_) l) ?_
   ·show(if 0<getG g f x then j4x n f m x (addG g f x (-1)) l else l).length≤_
    split
    ·exact k6k hn m x _ l
    ·exact Nat.le_add_right _ _
   ·rw[List.length_range',Nat.pow_succ,Nat.mul_comm (5 ^ m)]
    exact Nat.add_le_add_left (Nat.mul_le_mul_right _ (by omega)) _
def j6s (n f m:Nat) (g:Gr):List Gr→Nat→List Gr:=fun l x=>if 0<getG g f x then j4x n f m x (addG g f x (-1)) l else l
theorem q4i {n f m:Nat} {g:Gr} (hn:n≤5) (E:List Gr) (o k:Nat):((List.range' o k).foldl (j6s n f m g) E).length≤E.length+k*5 ^ m:=by
 have:=k0b (F:=j6s n f m g) (K:=5 ^ m) (L:=List.range' o k) (fun x _ l=>by
  unfold j6s
  split
  ·exact k6k hn m x _ l
  ·exact Nat.le_add_right _ _) E
 rwa [List.length_range'] at this
theorem q0f (o k:Nat) (E:List Gr) (F:List Gr→Nat→List Gr):(List.range' o (k+1)).foldl F E=F ((List.range' o k).foldl F E) (o+k):=by
 rw[List.range'_1_concat,List.foldl_append]
 rfl
theorem k6i (n nf f:Nat) (hn5:n≤5) (hnf:nf≤3) (hf:f<nf):∀ (m:Nat),m≤3→∀ (z o:Nat) (v:Value) (E:List Gr) (Ah:Option Addr) (ch:Nat) (g:Gr) (w:World),o≤n→OwnGG z n nf v E w→GSh n nf g→nnG g=true→(∀ x,x<n→getG g f x≤1000) →
 (∀ w',w.grownBy w' v.ownBlock→j0z w' Ah nf g)→nf≤ch∧ch≤maxLen→E.length+5 ^ m≤4294967295 →
 Calls Tryz.prog 145 #[v,.slice Ah nf ch,.int .i64 f,.int .i64 o,.int .i64 m] w fun e w'=>∃ v',e=.returned v'∧GgE z n nf v w v' (j4x n f m o g E) w'
 | 0,hm3,z,o,v,E,Ah,ch,g,w,ho,h,hg,hn,hb,hk,hc,hE=>by
   have had:=j9q z n nf v E Ah ch g w h hg hk hc (by omega) (by omega) (by omega)
   clear h hk
   go_enter Tryz.func145,Tryz.ntmps145
   go_wp2_with (go_at_call 143;(with_reducible refine had.mono ?_);rintro e w1 ⟨v1,rfl,hE1⟩;have H1:=zQ9 hE1;clear hE1)
   go_ret
   exact⟨_,rfl,H1.out⟩
 | m+1,hm3,z,o,v,E,Ah,ch,g,w,ho,h,hg,hn,hb,hk,hc,hE=>by
   have IH:=zQ9 (k6i n nf f hn5 hnf hf m (by omega))
   obtain⟨mm,hmm⟩:∃ mm:Nat,mm=m+1:=⟨_,rfl⟩
   have hm1:(mm:Int)-1=(m:Int):=by omega
   have hm0:((mm:Int)==0)=false:=beq_eq_false_iff_ne.2 (by omega)
   have hE':E.length+5 ^ m*5≤4294967295:=by rw[Nat.pow_succ] at hE;exact hE
   have HX:=zQ9 (zA9 h (zA9 hg (zA9 hn (zA9 hb (zA9 hk (zA9 hc (zA9 hE' hmm)))))))
   rw[←hmm]
   have hmb:mm≤3:=by omega
   clear h hg hn hb hk hE hE' hmm
   go_enter Tryz.func145,Tryz.ntmps145
   go_upto_region 4 with (fail)
   go_loopg [0,11] (n-o) (fun gh v0 v11 wr=>∃ k:Nat,k+gh=n-o∧v11=.int .i64 ((o+k:Nat):Int)∧GgE z n nf v w v0 ((List.range' o k).foldl (j6s n f m g) E) wr)
   case atStart=>exact⟨0,by omega,rfl,GgE.refl HX.out.1⟩
   case round =>
    obtain⟨k,hk,rfl,hE⟩:=hrel
    obtain⟨w1,hw1⟩:∃ W:World,W=wr:=⟨_,rfl⟩
    rw[←hw1] at hE ⊢
    clear hw1
    obtain⟨x,hx⟩:∃ x,x=o+k:=⟨_,rfl⟩
    rw[←hx]
    have hgz:=hE.keep HX.out.2.2.2.2.1 w1 (World.grownBy.refl _ _)
    obtain⟨b1,o1,B1,row,c1,rfl,hb1,hrow,y1,hri,hrc,hrm,-⟩:=hgz.get hf
    have hrl:=HX.out.2.1.r row (List.mem_of_getElem? hrow)
    have hrg:g.getD f []=row:=by rw[List.getD_eq_getElem?_getD,hrow];rfl
    rw[hrl] at y1 hri hrc
    have i0:(f:Int)<(nf:Int):=by omega
    by_cases hlt:x<n
    ·obtain⟨b2,o2,y,rfl,hb2,hy,y2⟩:=Ints.get hri hlt
     have hyg:getG g f x=y:=by unfold getG;rw[hrg,List.getD_eq_getElem?_getD,hy];rfl
     have hy0:=(j8d HX.out.2.1).1 HX.out.2.2.1 f x hf hlt
     have hy1:=HX.out.2.2.2.1 x hlt
     rw[hyg] at hy0 hy1
     have i1:(x:Int)<(n:Int):=by omega
     have hnx:=q0f o k E (j6s n f m g)
     rw[←hx] at hnx
     obtain⟨F,hF⟩:∃ F,F=(List.range' o k).foldl (j6s n f m g) E:=⟨_,rfl⟩
     have hFl:F.length+5 ^ m≤4294967295:=by
      rw[hF]
      have h1:=q4i (f:=f) (m:=m) (g:=g) hn5 E o k
      have h2:(k+1)*5 ^ m≤5*5 ^ m:=Nat.mul_le_mul_right _ (by omega)
      rw[Nat.succ_mul,Nat.mul_comm 5] at h2
      have h3:=HX.out.2.2.2.2.2.2.1
      omega
     rw[←hF] at hE hnx
     by_cases hpos:0<y
     ·have hst:j6s n f m g F x=j4x n f m x (addG g f x (-1)) F:=by unfold j6s;rw[if_pos (by rw[hyg];exact hpos)]
      rw[hst] at hnx
      have hwi:=j4i (some ⟨b1,o1,none⟩) nf ch n g f x (-1) w1 hgz (by omega) HX.out.2.1.r (by omega) hf hlt (by rw[hyg];omega) (by omega)
      have hgs:=HX.out.2.1.add hf x (-1)
      have hnn:nnG (addG g f x (-1))=true:=by
       rw[j8d hgs]
       intro f' o' hf' ho'
       by_cases e:f=f'∧x=o'
       ·obtain⟨rfl,rfl⟩:=e
        rw[j3u (by rw[HX.out.2.1.l];exact hf) (by rw[HX.out.2.1.row hf];exact hlt),hyg]
        omega
       ·rw[j5a (by omega)]
        exact(j8d HX.out.2.1).1 HX.out.2.2.1 f' o' hf' ho'
      have hbb:∀ x',x'<n→getG (addG g f x (-1)) f x'≤1000:=fun x' hx'=>by
       by_cases e:x=x'
       ·subst e
        rw[j3u (by rw[HX.out.2.1.l];exact hf) (by rw[HX.out.2.1.row hf];exact hlt),hyg]
        omega
       ·rw[j5a (.inr e)]
        exact HX.out.2.2.2.1 x' hx'
      have HK:=zQ9 (zA9 hk (zA9 hE (zA9 hnx (zA9 hx (zA9 hgs (zA9 hnn (zA9 hbb hFl)))))))
      clear hk hE hnx hx hgs hnn hbb hFl hgz hrow hri hrg hrl hy hyg hF hst
      go_upto_region 7 with (fail)
      go_wp2_with (first
       | (go_at_call 144;(with_reducible refine hwi.mono ?_);rintro e w2 ⟨⟨vn,rfl,hen⟩,hb2'⟩;obtain⟨An,cn,rfl,-,hcn1,hcn2⟩:=hen.ownG.form;rw[show(addG g f x (-1)).length=nf by rw[j3t,HX.out.2.1.l]] at hcn1 hen ⊢;have hkk:∀ w',w2.grownBy w' u0.ownBlock→j0z w' An nf (addG g f x (-1)):=(fun w' hg=>by have h1:=hen.grown hg (fun k e=>(HK.out.2.1.gg.lt k e).2);obtain⟨A9,c9,e9,hz9,-,-,-⟩:=h1.ownG.formZ;injection e9 with e9 _ _;rw[e9];have h2:=hz9;rwa [show(addG g f x (-1)).length=nf by rw[j3t,HX.out.2.1.l]] at h2);have hih:=IH.out z x u0 F An cn (addG g f x (-1)) w2 (by omega) (HK.out.2.1.gg.below hb2') HK.out.2.2.2.2.1 HK.out.2.2.2.2.2.1 HK.out.2.2.2.2.2.2.1 hkk ⟨hcn1,hcn2⟩ HK.out.2.2.2.2.2.2.2;have H2:=zQ9 hb2';clear hen hb2' hkk)
       | (go_at_call 145;(with_reducible refine hih.mono ?_);rintro e w3 ⟨v3,rfl,hE3⟩;have H3:=zQ9 hE3;clear hE3))
      go_roundg (gk-1)
      case measure=>have:=HK.out.1;have:=HK.out.2.2.2.1;omega
      case rel =>
       refine⟨k+1,by have:=HK.out.1;have:=HK.out.2.2.2.1;omega,by have:=HK.out.2.2.2.1;rw[show o+(k+1)=x+1 by omega];go_num,?_⟩
       rw[HK.out.2.2.1]
       exact HK.out.2.1.trans (GgE.before H2.out H3.out)
     ·have hst:j6s n f m g F x=F:=by unfold j6s;rw[if_neg (by rw[hyg];exact hpos)]
      rw[hst] at hnx
      have HK:=zQ9 (zA9 hk (zA9 hE (zA9 hnx hx)))
      clear hk hE hnx hx hFl hgz hrow hri hrg hrl hy hyg hF hst
      go_wp2_with fail
      go_roundg (gk-1)
      case measure=>have:=HK.out.1;have:=HK.out.2.2.2;omega
      case rel =>
       refine⟨k+1,by have:=HK.out.1;have:=HK.out.2.2.2;omega,by have:=HK.out.2.2.2;rw[show o+(k+1)=x+1 by omega];go_num,?_⟩
       rw[HK.out.2.2.1]
       exact HK.out.2.1
    ·have hkn:k=n-o:=by omega
     have i1:¬(x:Int)<(n:Int):=by omega
     have HK:=zQ9 (zA9 hE hkn)
     clear hk hE hkn hx hgz hrow hri hrg hrl
     go_wp2_with fail
     go_ret
     have h:=HK.out.1
     rw[HK.out.2] at h
     rw[HX.out.2.2.2.2.2.2.2]
     exact⟨_,rfl,h⟩
theorem k7r (A:Option Addr) (n c f:Nat) (gs:List (List Int)) (w:World) (hl:j0z w A n gs) (hf:f<n) (hr:(gs.getD f []).length≤1000) (hb:∀ x∈gs.getD f [],-100000≤x∧x≤100000) :
 Calls Tryz.prog 101 #[.slice A n c,.int .i64 f] w fun e w'=>e=.returned (.int .i64 (gs.getD f []).sum)∧w=w':=by
 obtain⟨b1,o1,B1,row,c1,rfl,hb1,hrow,y1,hri,hrc,hrm,-⟩:=hl.get hf
 have hrg:gs.getD f []=row:=by rw[List.getD_eq_getElem?_getD,hrow];rfl
 rw[hrg] at hr hb ⊢
 obtain⟨m,hm⟩:∃ m,m=row.length:=⟨_,rfl⟩
 rw[←hm] at y1 hri hrc hr
 have i1:(f:Int)<(n:Int):=by omega
 have HX:=zQ9 (zA9 hri (zA9 hb hm))
 clear hl hrow hri hrg hb hm
 go_enter Tryz.func101,Tryz.ntmps101
 go_upto_region 3 with (fail)
 go_loopg [5,6] m (fun g v5 v6 wr=>∃ k:Nat,k+g=m∧v6=.int .i64 k∧v5=.int .i64 (row.take k).sum∧w=wr)
 case atStart=>exact⟨0,by omega,rfl,rfl,rfl⟩
 case round =>
  obtain⟨k,hk,rfl,rfl,rfl⟩:=hrel
  have hsb:=j8k (B:=100000) (by decide) (l:=row.take k) fun x hx=>HX.out.2.1 x (List.mem_of_mem_take hx)
  have hlk:((row.take k).length:Int)≤1000:=by rw[List.length_take];omega
  obtain⟨S,hS⟩:∃ S,S=(row.take k).sum:=⟨_,rfl⟩
  have hSb:-100000000≤S∧S≤100000000:=by rw[hS];omega
  rw[←hS]
  by_cases hlt:k<m
  ·obtain⟨b2,o2,x,rfl,hb2,hx,y2⟩:=Ints.get HX.out.1 hlt
   have hxb:=HX.out.2.1 x (List.mem_of_getElem? hx)
   have hnx:(row.take (k+1)).sum=S+x:=by rw[List.take_add_one,hx,List.sum_append,←hS];simp
   have i2:(k:Int)<(m:Int):=by omega
   have HK:=zQ9 (zA9 hk hnx)
   clear hk hnx hS hx hsb hlk
   go_wp2_with fail
   go_roundg (gk-1)
   case measure=>have:=HK.out.1;omega
   case rel=>exact⟨k+1,by have:=HK.out.1;omega,by go_num,by rw[HK.out.2],rfl⟩
  ·obtain rfl:k=m:=by omega
   have hST:row.sum=S:=by rw[hS,List.take_of_length_le (by rw[←HX.out.2.2];exact zL9 _)]
   have HS:=zQ9 hST
   clear hS hST hk hsb hlk
   go_wp2_with fail
   go_ret
   exact⟨by rw[HS.out];rfl,rfl⟩
theorem k7g (m e s:Int) (w:World) (hs:0≤s∧s≤100000) (hm:0≤m∧m≤100000) (he:0≤e∧e≤100) :
 Calls Tryz.prog 146 #[.agg #[.int .i64 0,.int .i64 0,.int .i64 m,.int .i64 e],.int .i64 s] w fun x w'=>x=.returned (.bool (decide (100*(m-s)≤e*s)&&decide (100*(s-m)≤e*s)))∧Below w.heap.size w w':=by
 have hp0:0≤e*s:=Int.mul_nonneg he.1 hs.1
 have hp1:e*s≤100*100000:=Int.mul_le_mul he.2 hs.2 hs.1 (by decide)
 obtain⟨P,hP⟩:∃ P,P=e*s:=⟨_,rfl⟩
 rw[←hP] at hp0 hp1 ⊢
 have hP':e*s=P:=hP.symm
 clear hP
 go_enter Tryz.func146,Tryz.ntmps146
 by_cases h1:m-s<0
 ·by_cases h2:100*(s-m)≤P
  ·have h3:100*(m-s)≤P:=by omega
   have h4:100*-(m-s)≤P:=by omega
   rw[decide_eq_true h2,decide_eq_true h3]
   go_wp2_with fail
   go_ret
   exact⟨rfl,bal0 w _⟩
  ·have h4:¬100*-(m-s)≤P:=by omega
   rw[decide_eq_false h2,Bool.and_false]
   go_wp2_with fail
   go_ret
   exact⟨rfl,bal0 w _⟩
 ·by_cases h2:100*(m-s)≤P
  ·have h3:100*(s-m)≤P:=by omega
   rw[decide_eq_true h2,decide_eq_true h3]
   go_wp2_with fail
   go_ret
   exact⟨rfl,bal0 w _⟩
  ·rw[decide_eq_false h2,Bool.false_and]
   go_wp2_with fail
   go_ret
   exact⟨rfl,bal0 w _⟩
end Go.Proofs.YtmennjmjakdkcaaGreat
