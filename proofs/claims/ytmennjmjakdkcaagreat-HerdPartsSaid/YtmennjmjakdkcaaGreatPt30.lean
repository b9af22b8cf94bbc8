/- HerdParts. -/
import Derived.Test.YtmennjmjakdkcaaGreatPt27
set_option linter.unusedVariables false
set_option linter.unusedSimpArgs false
set_option maxRecDepth 100000
set_option maxHeartbeats 2000000
namespace Go.Proofs.YtmennjmjakdkcaaGreat
def nnG (gs:List (List Int)):Bool:=gs.all fun r=>r.all fun x=>decide (0<=x)
theorem j5k {gs:List (List Int)}:nnG gs=true↔∀ r∈gs,∀ x∈r,0<=x:=by simp[nnG,List.all_eq_true]
def j5z:List Int->Bool
 | []=>true
 | [_]=>true
 | a::b::l=>decide (a<=b)&&j5z (b::l)
def subG (f:Nat) (w:List Int) (gs:List (List Int)):List (List Int):=w.foldl (fun g o=>addG g f o.toNat (-1)) gs
def k0s (n f m:Nat) (gs:List (List Int)):List (List (List Int)):=((j1r n m).filter j5z).map fun w=>subG f w gs
def cntB (d:De) (s:Int):Bool:=decide (100*(d.many-s)<=d.err*s)&&decide (100*(s-d.many)<=d.err*s)
def mayB (t:Int) (l:List Mk) (deed owner:Int) (i:Nat) (s:Sg) (o:Nat):Bool:=j1s deed owner i o&&(l[o]?).any fun m=>fits s m t
def strG (t:Int) (l:List Mk) (deed owner:Int) (i:Nat) (d:De) (gs:List (List Int)) (k:Nat):List (List (List Int)):=((List.range k).filter (mayB t l deed owner i d.s)).map fun o=>addG (addG gs d.flock.toNat o (-1)) d.tof.toNat o 1
def j1t (t:Int) (l:List Mk) (deed owner:Int) (i:Nat) (d:De) (gs:List (List Int)):List (List (List Int)) :=
 if d.kind=1 then [addG gs d.flock.toNat d.owner.toNat d.many]
 else if d.kind=3 then [addG gs d.flock.toNat d.owner.toNat (-d.many)]
 else if d.kind=2 then [addG (addG gs d.flock.toNat d.owner.toNat (-d.many)) d.flock.toNat d.other.toNat d.many]
 else if d.kind=6 then (if cntB d (gs.getD d.flock.toNat []).sum then [gs] else [])
 else if d.kind=4 then k0s l.length d.flock.toNat d.many.toNat gs
 else strG t l deed owner i d gs l.length
def trG (t:Int) (l:List Mk) (deed owner:Int):List De->Nat->List (List Int)->List (List (List Int))
 | [],_,gs=>if nnG gs then [gs] else []
 | d::ds,i,gs=>if nnG gs then (j1t t l deed owner i d gs).flatMap (trG t l deed owner ds (i+1)) else []
def nnH (h:List Int):Prop:=∀ f o,f<3->o<5->0<=hget h f o
def subH (f:Nat) (w:List Int) (h:List Int):List Int:=w.foldl (fun h o=>hadd h f o.toNat (-1)) h
theorem q2i {f:Nat} (hf:f<3):∀ {w:List Int} {h:List Int} {f' o':Nat},h.length=15->(∀ o∈w,o.toNat<5)->o'<5->hget (subH f w h) f' o'<=hget h f' o'
 | [],h,f',o',hl,hw,ho=>Int.le_refl _
 | o::w,h,f',o',hl,hw,ho=>by
   have h1:=q2i hf (w:=w) (f':=f') (o':=o') (j4w (f:=f) (o:=o.toNat) (k:=-1) hl) (fun x hx=>hw x (List.mem_cons_of_mem _ hx)) ho
   rw[j0m hl hf (hw o List.mem_cons_self) ho] at h1;show hget (subH f w (hadd h f o.toNat (-1))) f' o'<=_
   split at h1
   ·rename_i e;rw[<-e.1,<-e.2];rw[<-e.1,<-e.2] at h1;omega
   ·exact h1
theorem k3y {f a:Nat} (hf:f<3) (ha:a<5):∀ (k:Nat) (h:List Int),h.length=15->subH f (List.replicate k (a:Int)) h=hadd h f a (-(k:Int))
 | 0,h,hl=>by
   refine List.ext_getElem? fun i=>?_
   show h[i]?=_;unfold hadd;by_cases e:5*f+a=i
   ·subst e;rw[List.getElem?_set_self (by omega)]
    unfold hget;rw[zB3,zB5 (by omega)]
    simp
   ·rw[List.getElem?_set_ne e]
 | k+1,h,hl=>by
   have e1:subH f (List.replicate (k+1) (a:Int)) h=subH f (List.replicate k (a:Int)) (hadd h f a (-1)):=rfl;rw[e1,k3y hf ha k _ (j4w hl)];unfold hadd;rw[List.set_set];congr 1;have:=j0m (f':=f) (k:=-1) hl hf ha ha;rw[if_pos ⟨rfl,rfl⟩] at this;unfold hadd at this;rw[this];omega
theorem k3e {f:Nat} (w v:List Int) (h:List Int):subH f (w++v) h=subH f v (subH f w h):=List.foldl_append
def SrW (a n:Nat) (w:List Int):Prop:=j5z w=true∧∀ o∈w,(a:Int)<=o∧o<n
theorem j7o {x:Int} {w:List Int}:j5z (x::w)=true↔(∀ y∈w,x<=y)∧j5z w=true:=by
 induction w generalizing x with
 | nil=>simp[j5z]
 | cons y w ih =>
   rw[show j5z (x::y::w)=(decide (x<=y)&&j5z (y::w)) from rfl,Bool.and_eq_true,decide_eq_true_eq]
   constructor
   ·rintro⟨h1,h2⟩;refine⟨fun z hz=>?_,h2⟩
    rcases List.mem_cons.1 hz with rfl|hz
    ·exact h1
    ·have:=(ih.1 h2).1 z hz;omega
   ·rintro⟨h1,h2⟩;exact⟨h1 y List.mem_cons_self,h2⟩
theorem k7q {a n:Nat}:∀ {w:List Int},SrW a n w->∃ (k:Nat) (v:List Int),w=List.replicate k (a:Int)++v∧SrW (a+1) n v
 | [],h=>⟨0,[],rfl,rfl,fun o ho=>by cases ho⟩
 | x::w,⟨h1,h2⟩=>by
   have hs:=j7o.1 h1;by_cases e:x=(a:Int)
   ·obtain⟨k,v,hk,hv⟩:=k7q (a:=a) (n:=n) (w:=w) ⟨hs.2,fun o ho=>h2 o (List.mem_cons_of_mem _ ho)⟩
    exact⟨k+1,v,by rw[hk,e];rfl,hv⟩
   ·refine⟨0,x::w,rfl,h1,fun o ho=>?_⟩
    have h0:=h2 x List.mem_cons_self;rcases List.mem_cons.1 ho with rfl|a0
    ·have:=h2 o ho;omega
    ·have:=hs.1 o a0;have:=h2 o ho;omega
theorem q0g {a n:Nat} {v:List Int} (a0:a<n) (hv:SrW (a+1) n v):∀ k:Nat,SrW a n (List.replicate k (a:Int)++v)
 | 0=>⟨hv.1,fun o ho=>by have:=hv.2 o ho;omega⟩
 | k+1=>by
   obtain⟨h1,h2⟩:=q0g a0 hv k;refine⟨?_,fun o ho=>?_⟩
   ·show j5z ((a:Int)::(List.replicate k (a:Int)++v))=true;exact j7o.2 ⟨fun y hy=>(h2 y hy).1,h1⟩
   ·rcases List.mem_cons.1 (show o∈(a:Int)::(List.replicate k (a:Int)++v) from ho) with rfl|ho
    ·omega
    ·exact h2 o ho
theorem k3q {n f:Nat} (hf:f<3) (hn:n<=5):∀ (j:Nat) (h:List Int) (m:Nat) (x:List Int),j<=n->h.length=15->(∀ o,o<n->0<=hget h f o) ->
 (x∈j1e n f j h m↔∃ w,SrW (n-j) n w∧w.length=m∧x=subH f w h∧∀ o,o<n->0<=hget x f o)
 | 0,h,m,x,hj,hl,hnn=>by
   unfold j1e;constructor
   ·intro hx
    split at hx
    ·rename_i hm;simp at hx;exact⟨[],⟨rfl,fun o ho=>by cases ho⟩,hm.symm,hx,by rw[hx];exact hnn⟩
    ·cases hx
   ·rintro⟨w,⟨h1,h2⟩,h3,h4,h5⟩;have hw:w=[]:=by
     cases w with
     | nil=>rfl
     | cons o w=>have:=h2 o List.mem_cons_self;omega
    subst hw;rw[if_pos (show m=0 from h3.symm),h4]
    exact List.mem_singleton.2 rfl
 | j+1,h,m,x,hj,hl,hnn=>by
   have ha:n-(j+1)<5:=by omega
   have a2:n-(j+1)<n:=by omega
   have a3:n-(j+1)+1=n-j:=by omega
   unfold j1e;by_cases hm:m=0
   ·rw[if_pos hm,List.mem_singleton];constructor
    ·rintro rfl;exact⟨[],⟨rfl,fun o ho=>by cases ho⟩,hm.symm,rfl,hnn⟩
    ·rintro⟨w,-,h3,h4,-⟩;have hw:w=[]:=zC1 (h3.trans hm);rw[h4,hw];rfl
   ·rw[if_neg hm,List.mem_flatMap];constructor
    ·rintro⟨k,hk,hx⟩;have hk:=List.mem_range.1 hk;cases a0:mvd h f (n-(j+1)) (-(k:Int)) with
     | none=>rw[a0] at hx;cases hx
     | some y =>
       rw[a0] at hx;obtain⟨h0,rfl⟩:=j5d a0;have a1:(hadd h f (n-(j+1)) (-(k:Int))).length=15:=j4w hl;obtain⟨w,h1,h2,h3,h4⟩:=(k3q hf hn j _ (m-k) x (by omega) a1 (fun o ho=>by
        rw[j0m hl hf ha (by omega)]
        split
        ·exact h0
        ·exact hnn o ho)).1 hx
       rw[<-a3] at h1;exact⟨List.replicate k ((n-(j+1):Nat):Int)++w,q0g a2 h1 k,by rw[List.length_append,List.length_replicate];omega,by rw[k3e,k3y hf ha k h hl];exact h3,h4⟩
    ·rintro⟨w,h1,h2,h3,h4⟩;obtain⟨k,v,rfl,hv⟩:=k7q h1;rw[a3] at hv;rw[List.length_append,List.length_replicate] at h2;rw[k3e,k3y hf ha k h hl] at h3;have a1:(hadd h f (n-(j+1)) (-(k:Int))).length=15:=j4w hl;have h0:0<=hget h f (n-(j+1))+-(k:Int):=by
      have h5:=q2i hf (w:=v) (f':=f) (o':=n-(j+1)) a1 (fun o ho=>by have:=hv.2 o ho;omega) ha
      rw[<-h3,j0m hl hf ha ha,if_pos ⟨rfl,rfl⟩] at h5;have:=h4 _ a2;omega
     refine⟨k,List.mem_range.2 (by omega),?_⟩
     have a0:mvd h f (n-(j+1)) (-(k:Int))=some (hadd h f (n-(j+1)) (-(k:Int))):=if_pos h0;rw[a0];exact(k3q hf hn j _ (m-k) x (by omega) a1 (fun o ho=>by
      rw[j0m hl hf ha (by omega)]
      split
      ·exact h0
      ·exact hnn o ho)).2 ⟨v,hv,by omega,h3,h4⟩
structure Shp (n nf:Nat) (x:List Int):Prop where
 l:x.length=15
 z:∀ f o,f<3->o<5->nf<=f∨n<=o->hget x f o=0
structure DeOw (n nf:Nat) (d:De):Prop where
 f:0<=d.flock∧d.flock<nf
 o:d.kind=1∨d.kind=2∨d.kind=3->0<=d.owner∧d.owner<n
 x:d.kind=2->0<=d.other∧d.other<n
 t:d.kind=5->0<=d.tof∧d.tof<nf
 ne:d.kind=2->d.owner≠d.other
 k:1<=d.kind∧d.kind<=6
theorem k0f {n nf:Nat} {d:De} (h:j0v n nf d=0):DeOw n nf d:=by
 unfold j0v at h;obtain⟨h1,h⟩:=ite0 (by decide) h
 obtain⟨h2,h⟩:=ite0 (by decide) h
 split at h
 ·exact absurd h (by assumption)
 rename_i h3;have h3:fldE n nf d=0:=Classical.not_not.1 h3;have hk:=j0o.1 ((Bool.not_eq_false _).mp h1);have hf:=j1p.1 ((Bool.not_eq_false _).mp h2);unfold fldE at h3;have a0:∀ {x:Int} {m:Nat},¬ownB m x=false->0<=x∧x<m:=fun h=>j1p.1 ((Bool.not_eq_false _).mp h)
 refine⟨hf,fun hk1=>?_,fun hk2=>?_,fun hk5=>?_,fun hk2=>?_,hk⟩
 ·by_cases hk2:d.kind=2
  ·rw[if_neg (by omega),if_pos hk2] at h3
   obtain⟨a,-⟩:=ite0 (by decide) h3
   exact a0 fun h=>a (.inl h)
  ·rw[if_pos (by omega)] at h3
   obtain⟨a,-⟩:=ite0 (by decide) h3
   exact a0 a
 ·rw[if_neg (by omega),if_pos hk2] at h3
  obtain⟨a,-⟩:=ite0 (by decide) h3
  exact a0 fun h=>a (.inr h)
 ·rw[if_neg (by omega),if_neg (by omega),if_neg (by omega),if_pos hk5] at h3
  obtain⟨a,-⟩:=ite0 (by decide) h3
  exact a0 a
 ·rw[if_neg (by omega),if_pos hk2] at h3
  obtain⟨-,h3⟩:=ite0 (by decide) h3
  obtain⟨a,-⟩:=ite0 (by decide) h3
  exact a
section
variable {n nf:Nat} {gs:List (List Int)}
theorem j8f (h:GSh n nf gs) (hn:n<=5) (hf:nf<=3):nnG gs=true↔nnH (j0i gs):=by
 rw[j5k];constructor
 ·intro hh f o a0 ho;rw[j1b gs a0 ho];unfold getG;rw[zB3];cases hr:(gs.getD f [])[o]? with
  | none=>simp
  | some x =>
    rw[zB3] at hr;cases hg:gs[f]? with
    | none=>rw[hg] at hr;simp at hr
    | some r =>
      rw[hg] at hr;exact hh r (zB4 hg) x (zB4 hr)
 ·intro hh r hr x hx;obtain⟨f,a2,e1⟩:=List.mem_iff_getElem.1 hr;obtain⟨o,a1,e2⟩:=List.mem_iff_getElem.1 hx;have a0:f<3:=by have:=h.l;omega
  have ho:o<5:=by have:=h.r r hr;omega
  have:=hh f o a0 ho;rw[j1b gs a0 ho] at this;unfold getG at this;rw[zB3 (l:=gs),zB5 a2,Option.getD_some,e1,zB3,zB5 a1,Option.getD_some,e2] at this;exact this
end
theorem k1x {n nf f:Nat} (hf:f<nf):∀ (w:List Int) {gs:List (List Int)},GSh n nf gs->GSh n nf (subG f w gs)
 | [],_,h=>h
 | o::w,_,h=>k1x hf w (h.add hf o.toNat (-1))
theorem k0k {n nf f:Nat} (hn:n<=5) (a0:nf<=3) (hf:f<nf):∀ (w:List Int) {gs:List (List Int)},GSh n nf gs->(∀ o∈w,o.toNat<n)->j0i (subG f w gs)=subH f w (j0i gs)
 | [],_,_,_=>rfl
 | o::w,_,h,hw=>by
   have e:=k0k hn a0 hf w (h.add hf o.toNat (-1)) fun x hx=>hw x (List.mem_cons_of_mem _ hx)
   rw[j1m h hn a0 hf (hw o List.mem_cons_self)] at e;exact e
theorem k9o {h:List Int} {f o:Nat} {k:Int} (hl:h.length=15) (hn:nnH h) (hf:f<3) (ho:o<5):nnH (hadd h f o k)↔0<=hget h f o+k:=by
 constructor
 ·intro hh;have:=hh f o hf ho;rw[j0m hl hf ho ho,if_pos ⟨rfl,rfl⟩] at this;exact this
 ·intro hh f' o' a1 a0;rw[j0m hl hf ho a0]
  split
  ·exact hh
  ·exact hn f' o' a1 a0
theorem k7i {h:List Int} {f o g x:Nat} {k m:Int} (hl:h.length=15) (hn:nnH h) (hf:f<3) (ho:o<5) (hg:g<3) (hx:x<5) (a2:f≠g∨o≠x) (hk:0<=m):nnH (hadd (hadd h f o k) g x m)↔0<=hget h f o+k:=by
 constructor
 ·intro hh;have:=hh f o hf ho;rw[j0m (j4w hl) hg hx ho,if_neg (by omega),j0m hl hf ho ho,if_pos ⟨rfl,rfl⟩] at this
  exact this
 ·intro hh f' o' a1 a0;rw[j0m (j4w hl) hg hx a0,j0m hl hf ho hx]
  split
  ·have:=hn g x hg hx;rw[if_neg (by omega)]
   omega
  ·rw[j0m hl hf ho a0]
   split
   ·exact hh
   ·exact hn f' o' a1 a0
theorem q0j {f f' o':Nat} (hf:f<3) (a0:o'<5):∀ {w:List Int} {h:List Int},h.length=15->(∀ o∈w,o.toNat<5)->(f≠f'∨∀ o∈w,o.toNat≠o')->hget (subH f w h) f' o'=hget h f' o'
 | [],h,hl,hw,hne=>rfl
 | o::w,h,hl,hw,hne=>by
   have e:=q0j (w:=w) hf a0 (j4w (f:=f) (o:=o.toNat) (k:=-1) hl) (fun x hx=>hw x (List.mem_cons_of_mem _ hx)) (hne.imp id fun h x hx=>h x (List.mem_cons_of_mem _ hx))
   show hget (subH f w (hadd h f o.toNat (-1))) f' o'=_;rw[e,j0m hl hf (hw o List.mem_cons_self) a0,if_neg];rintro⟨rfl,e2⟩;rcases hne with h|h
   ·exact h rfl
   ·exact h o List.mem_cons_self e2
theorem k0w {n:Nat}:∀ {m:Nat} {r:List Int},r.length=m->(∀ x∈r,0<=x∧x<n)->r∈j1r n m
 | 0,r,hr,_=>by rw[zC1 hr];exact List.mem_singleton.2 rfl
 | m+1,[],hr,_=>by cases hr
 | m+1,x::r,hr,h=>by
   have h0:=h x List.mem_cons_self;refine List.mem_flatMap.2 ⟨x.toNat,List.mem_range.2 (by omega),List.mem_map.2 ⟨r,k0w (by simpa using hr) fun y hy=>h y (List.mem_cons_of_mem _ hy),?_⟩⟩
   rw[Int.toNat_of_nonneg h0.1]
theorem cnt_iff {d:De} {h:List Int} {f:Nat} {s:Int} (hf:d.flock.toNat=f) (hs:s=hall h f) (h0:0<=s) (hm:0<=d.many) (he:0<=d.err∧d.err<=20):cntB d s=true↔j6y d h=true:=by
 unfold cntB j6y;rw[hf,<-hs,j0o,Bool.and_eq_true,decide_eq_true_eq,decide_eq_true_eq];obtain⟨kind,flock,owner,other,tof,m,e,sg⟩:=d;dsimp only at he hm ⊢;have hc:e=0∨e=1∨e=2∨e=3∨e=4∨e=5∨e=6∨e=7∨e=8∨e=9∨e=10∨e=11∨e=12∨e=13∨e=14∨e=15∨e=16∨e=17∨e=18∨e=19∨e=20:=by omega
 rcases hc with rfl|rfl|rfl|rfl|rfl|rfl|rfl|rfl|rfl|rfl|rfl|rfl|rfl|rfl|rfl|rfl|rfl|rfl|rfl|rfl|rfl <;>
  (rw[Int.tdiv_eq_ediv_of_nonneg (by omega),Int.tdiv_eq_ediv_of_nonneg (by omega)];constructor<;>(rintro⟨h1,h2⟩;constructor<;>omega))
theorem tof_ne {n nf:Nat} {d:De} (h:j0v n nf d=0) (h5:d.kind=5):d.flock≠d.tof:=by
 obtain⟨-,-,h3,-⟩:=k6m h;unfold fldE at h3;rw[if_neg (by omega),if_neg (by omega),if_neg (by omega),if_pos h5] at h3
 obtain⟨a1,h3⟩:=ite0 (by decide) h3
 obtain⟨a2,h3⟩:=ite0 (by decide) h3
 exact fun e=>a2 e.symm
theorem step_iff {t:Int} {l:List Mk} {nf:Nat} {gs:List (List Int)} {deed owner:Int} {i:Nat} {d:De} (h:GSh l.length nf gs) (hn:l.length<=5) (a8:nf<=3) (am:nnG gs=true) (hd:DeIn l.length nf d) (ac:DeOw l.length nf d) (ax:d.kind=5->d.flock≠d.tof) (x:List Int) :
 (∃ g∈j1t t l deed owner i d gs,nnG g=true∧x=j0i g)↔x∈succ t l (j1s deed owner i) d (j0i gs):=by
 have hl:=j7x gs;have hH:=(j8f h hn a8).1 am;have a5:d.flock.toNat<nf:=by have:=ac.f;omega
 have a6:d.flock.toNat<3:=by omega
 by_cases h1:d.kind=1
 ·have ho:=ac.o (.inl h1);have a7:d.owner.toNat<l.length:=by omega
  have eL:j1t t l deed owner i d gs=[addG gs d.flock.toNat d.owner.toNat d.many]:=by unfold j1t;rw[if_pos h1]
  have eR:succ t l (j1s deed owner i) d (j0i gs)=[hadd (j0i gs) d.flock.toNat d.owner.toNat d.many]:=by unfold succ;rw[if_pos h1]
  rw[eL,eR,List.mem_singleton];have e:=j1m h hn a8 a5 a7 d.many;have hm:=hd.m;have a9:nnG (addG gs d.flock.toNat d.owner.toNat d.many)=true:=by
   rw[j8f (h.add a5 _ _) hn a8,e,k9o hl hH a6 (by omega)]
   have:=hH d.flock.toNat d.owner.toNat a6 (by omega)
   omega
  constructor
  ·rintro⟨g,hg,-,rfl⟩;rw[List.mem_singleton.1 hg,e]
  ·rintro rfl;exact⟨_,List.mem_singleton.2 rfl,a9,e.symm⟩
 by_cases h3:d.kind=3
 ·have ho:=ac.o (.inr (.inr h3));have a7:d.owner.toNat<l.length:=by omega
  have eL:j1t t l deed owner i d gs=[addG gs d.flock.toNat d.owner.toNat (-d.many)]:=by unfold j1t;rw[if_neg h1,if_pos h3]
  have eR:succ t l (j1s deed owner i) d (j0i gs)=(match mvd (j0i gs) d.flock.toNat d.owner.toNat (-d.many) with|some x=>[x]|none=>[]):=by unfold succ;rw[if_neg h1,if_neg (by omega),if_pos h3];rfl
  rw[eL,eR];have e:=j1m h hn a8 a5 a7 (-d.many);have a9:nnG (addG gs d.flock.toNat d.owner.toNat (-d.many))=true↔0<=hget (j0i gs) d.flock.toNat d.owner.toNat+-d.many:=by
   rw[j8f (h.add a5 _ _) hn a8,e,k9o hl hH a6 (by omega)]
  unfold mvd;constructor
  ·rintro⟨g,hg,aa,rfl⟩;rw[List.mem_singleton.1 hg] at aa ⊢;rw[if_pos (a9.1 aa),e];exact List.mem_singleton.2 rfl
  ·intro hx
   split at hx
   ·rename_i hc
    split at hc
    ·rename_i h0;cases hc;rw[List.mem_singleton.1 hx];exact⟨_,List.mem_singleton.2 rfl,a9.2 h0,e.symm⟩
    ·cases hc
   ·cases hx
 by_cases h2:d.kind=2
 ·have ho:=ac.o (.inr (.inl h2));have az:=ac.x h2;have aq:=ac.ne h2;have a7:d.owner.toNat<l.length:=by omega
  have an:d.other.toNat<l.length:=by omega
  have eL:j1t t l deed owner i d gs=[addG (addG gs d.flock.toNat d.owner.toNat (-d.many)) d.flock.toNat d.other.toNat d.many]:=by unfold j1t;rw[if_neg h1,if_neg h3,if_pos h2]
  have eR:succ t l (j1s deed owner i) d (j0i gs)=(match mvd (j0i gs) d.flock.toNat d.owner.toNat (-d.many) with|some x=>[hadd x d.flock.toNat d.other.toNat d.many]|none=>[]):=by unfold succ;rw[if_neg h1,if_pos h2];rfl
  rw[eL,eR];have e:=j1m h hn a8 a5 a7 (-d.many);have e2:=j1m (h.add a5 d.owner.toNat (-d.many)) hn a8 a5 an d.many;rw[e] at e2;have hm:=hd.m;have a9:nnG (addG (addG gs d.flock.toNat d.owner.toNat (-d.many)) d.flock.toNat d.other.toNat d.many)=true↔0<=hget (j0i gs) d.flock.toNat d.owner.toNat+-d.many:=by
   rw[j8f ((h.add a5 _ _).add a5 _ _) hn a8,e2,k7i hl hH a6 (by omega) a6 (by omega) (.inr (by omega)) hm.1]
  unfold mvd;constructor
  ·rintro⟨g,hg,aa,rfl⟩;rw[List.mem_singleton.1 hg] at aa ⊢;rw[if_pos (a9.1 aa),e2];exact List.mem_singleton.2 rfl
  ·intro hx
   split at hx
   ·rename_i hc
    split at hc
    ·rename_i h0;cases hc;rw[List.mem_singleton.1 hx];exact⟨_,List.mem_singleton.2 rfl,a9.2 h0,e2.symm⟩
    ·cases hc
   ·cases hx
 by_cases h6:d.kind=6
 ·have eL:j1t t l deed owner i d gs=(if cntB d (gs.getD d.flock.toNat []).sum then [gs] else []):=by unfold j1t;rw[if_neg h1,if_neg h3,if_neg h2,if_pos h6]
  have eR:succ t l (j1s deed owner i) d (j0i gs)=(if j6y d (j0i gs)=true then [j0i gs] else []):=by unfold succ;rw[if_neg h1,if_neg h2,if_neg h3,if_neg (by omega),if_neg (by omega)]
  rw[eL,eR];have hs:=j9u (gs:=gs) a6 (by rw[h.row a5];exact hn)
  have hc:=cnt_iff (d:=d) rfl hs (by
   rw[hs];unfold hall;have a0:=hH d.flock.toNat 0 a6 (by decide)
   have a1:=hH d.flock.toNat 1 a6 (by decide)
   have a2:=hH d.flock.toNat 2 a6 (by decide)
   have a3:=hH d.flock.toNat 3 a6 (by decide)
   have a4:=hH d.flock.toNat 4 a6 (by decide)
   omega) hd.m.1 hd.e
  by_cases hb:cntB d (gs.getD d.flock.toNat []).sum=true
  ·rw[if_pos hb,if_pos (hc.1 hb),List.mem_singleton];constructor
   ·rintro⟨g,hg,-,rfl⟩;rw[List.mem_singleton.1 hg]
   ·rintro rfl;exact⟨gs,List.mem_singleton.2 rfl,am,rfl⟩
  ·rw[if_neg hb,if_neg fun h=>hb (hc.2 h)]
   simp
 by_cases h4:d.kind=4
 ·have eL:j1t t l deed owner i d gs=k0s l.length d.flock.toNat d.many.toNat gs:=by unfold j1t;rw[if_neg h1,if_neg h3,if_neg h2,if_neg h6,if_pos h4]
  have eR:succ t l (j1s deed owner i) d (j0i gs)=j1e l.length d.flock.toNat l.length (j0i gs) d.many.toNat:=by unfold succ;rw[if_neg h1,if_neg h2,if_neg h3,if_pos h4]
  rw[eL,eR,k3q a6 hn l.length (j0i gs) d.many.toNat x (zL9 _) hl (fun o ho=>hH _ o a6 (by omega)),Nat.sub_self]
  unfold k0s;constructor
  ·rintro⟨g,hg,aa,rfl⟩;obtain⟨w,hw,rfl⟩:=List.mem_map.1 hg;obtain⟨aw,ah⟩:=List.mem_filter.1 hw;obtain⟨ag,ae⟩:=j3t aw;have e:=k0k hn a8 a5 w h (fun o ho=>by have:=ae o ho;omega)
   refine⟨w,⟨ah,fun o ho=>by have:=ae o ho;omega⟩,ag,e,fun o ho=>?_⟩
   exact(j8f (k1x a5 w h) hn a8).1 aa _ o a6 (by omega)
  ·rintro⟨w,⟨ah,ae⟩,ag,rfl,hx⟩;have ai:∀ o∈w,o.toNat<l.length:=fun o ho=>by have:=ae o ho;omega
   have e:=k0k hn a8 a5 w h ai;refine⟨subG d.flock.toNat w gs,List.mem_map.2 ⟨w,List.mem_filter.2 ⟨k0w ag fun o ho=>by have:=ae o ho;omega,ah⟩,rfl⟩,?_,e.symm⟩
   rw[j8f (k1x a5 w h) hn a8,e];intro f' o' ay ak;by_cases hc:f'=d.flock.toNat∧o'<l.length
   ·rw[hc.1];exact hx o' hc.2
   ·rw[q0j a6 ak hl (fun o ho=>by have:=ai o ho;omega)]
    ·exact hH f' o' ay ak
    ·by_cases he:d.flock.toNat=f'
     ·exact .inr fun o ho e=>hc ⟨he.symm,by have:=ai o ho;omega⟩
     ·exact .inl he
 ·have h5:d.kind=5:=by have:=ac.k;omega
  have eL:j1t t l deed owner i d gs=strG t l deed owner i d gs l.length:=by unfold j1t;rw[if_neg h1,if_neg h3,if_neg h2,if_neg h6,if_neg h4]
  have eR:succ t l (j1s deed owner i) d (j0i gs)=j4k d.flock.toNat d.tof.toNat (j0i gs) ((mayL t l d.s).filter (j1s deed owner i)):=by unfold succ;rw[if_neg h1,if_neg h2,if_neg h3,if_neg h4,if_pos h5]
  rw[eL,eR];have ht:=ac.t h5;have aj:d.tof.toNat<nf:=by omega
  have ao:=ax h5;have key:∀ o:Nat,o<l.length->(nnG (addG (addG gs d.flock.toNat o (-1)) d.tof.toNat o 1)=true↔0<=hget (j0i gs) d.flock.toNat o+-1)∧j0i (addG (addG gs d.flock.toNat o (-1)) d.tof.toNat o 1)=hadd (hadd (j0i gs) d.flock.toNat o (-1)) d.tof.toNat o 1:=fun o ho=>by
   have e:=j1m h hn a8 a5 ho (-1);have e2:=j1m (h.add a5 o (-1)) hn a8 aj ho 1;rw[e] at e2;exact⟨by rw[j8f ((h.add a5 _ _).add aj _ _) hn a8,e2,k7i hl hH a6 (by omega) (by omega) (by omega) (.inl (by have:=ac.f;omega)) (by decide)],e2⟩
  unfold strG j4k;rw[List.mem_flatMap];constructor
  ·rintro⟨g,hg,aa,rfl⟩;obtain⟨o,ho,rfl⟩:=List.mem_map.1 hg;obtain⟨af,ad⟩:=List.mem_filter.1 ho;have a7:=List.mem_range.1 af;unfold mayB at ad;rw[Bool.and_eq_true,zB5 a7] at ad;have av:=(k9h (t:=t) (s:=d.s) (zB5 a7)).2 (by simpa using ad.2)
   refine⟨(o:Int),List.mem_filter.2 ⟨av,ad.1⟩,?_⟩;have h0:=(key o a7).1.1 aa;rw[Int.toNat_natCast,(key o a7).2];unfold mvd;rw[if_pos h0];exact List.mem_singleton.2 rfl
  ·rintro⟨o,ho,hx⟩;obtain⟨af,ad⟩:=List.mem_filter.1 ho;have ar:=k3r o af;obtain⟨on,rfl⟩:=zB7 ar.1;have a7:on<l.length:=by omega
   rw[Int.toNat_natCast] at hx;unfold mvd at hx
   split at hx
   ·rename_i hc
    split at hc
    ·rename_i h0;cases hc;rw[List.mem_singleton.1 hx];refine⟨_,List.mem_map.2 ⟨on,List.mem_filter.2 ⟨List.mem_range.2 a7,?_⟩,rfl⟩,(key on a7).1.2 h0,(key on a7).2.symm⟩;unfold mayB;rw[Bool.and_eq_true,zB5 a7];exact⟨ad,by simpa using (k9h (t:=t) (s:=d.s) (zB5 a7)).1 af⟩
    ·cases hc
   ·cases hx
def j9t (t:Int) (l:List Mk) (deed owner:Int):List De->Nat->List Int->List (List Int)
 | [],_,h=>[h]
 | d::ds,i,h=>(succ t l (j1s deed owner i) d h).flatMap (j9t t l deed owner ds (i+1))
section
variable {t:Int} {l:List Mk} {deed owner:Int} {nf:Nat}
theorem trG_nn {g:List (List Int)}:∀ {ds:List De} {i:Nat} {gs:List (List Int)},g∈trG t l deed owner ds i gs->nnG gs=true
 | [],i,gs,h=>by unfold trG at h;split at h;assumption;cases h
 | d::ds,i,gs,h=>by unfold trG at h;split at h;assumption;cases h
theorem str_sh {i:Nat} {d:De} {gs g:List (List Int)} (h:GSh l.length nf gs) (a0:DeOw l.length nf d) (h5:d.kind=5) {k:Nat} (hg:g∈strG t l deed owner i d gs k):GSh l.length nf g:=by
 unfold strG at hg;obtain⟨o,-,rfl⟩:=List.mem_map.1 hg;have:=a0.f;have:=a0.t h5;exact(h.add (by omega) _ _).add (by omega) _ _
theorem k6a {i:Nat} {d:De} {gs g:List (List Int)} (h:GSh l.length nf gs) (a1:DeOw l.length nf d) (hg:g∈j1t t l deed owner i d gs):GSh l.length nf g:=by
 have a0:d.flock.toNat<nf:=by have:=a1.f;omega
 unfold j1t at hg
 split at hg
 ·rw[List.mem_singleton.1 hg];exact h.add a0 _ _
 split at hg
 ·rw[List.mem_singleton.1 hg];exact h.add a0 _ _
 split at hg
 ·rw[List.mem_singleton.1 hg];exact(h.add a0 _ _).add a0 _ _
 split at hg
 ·split at hg
  ·rw[List.mem_singleton.1 hg];exact h
  ·cases hg
 split at hg
 ·unfold k0s at hg;obtain⟨w,-,rfl⟩:=List.mem_map.1 hg;exact k1x a0 w h
 ·exact str_sh h a1 (by have:=a1.k;omega) hg
theorem k1s (hn:l.length<=5) (a2:nf<=3):∀ (ds:List De) (i:Nat) (gs:List (List Int)),GSh l.length nf gs->(∀ d∈ds,j0v l.length nf d=0∧DeIn l.length nf d)->nnG gs=true->∀ x,
 (∃ g∈trG t l deed owner ds i gs,x=j0i g)↔x∈j9t t l deed owner ds i (j0i gs)
 | [],i,gs,h,hd,hnn,x=>by
   unfold trG j9t;rw[if_pos hnn];simp
 | d::ds,i,gs,h,hd,hnn,x=>by
   have h0:=hd d List.mem_cons_self;have a3:=k0f h0.1;have hs:=fun y=>step_iff (t:=t) (deed:=deed) (owner:=owner) (i:=i) h hn a2 hnn h0.2 a3 (fun h5=>tof_ne h0.1 h5) y
   unfold trG j9t;rw[if_pos hnn,List.mem_flatMap];constructor
   ·rintro⟨g,hg,rfl⟩;obtain⟨g1,a1,a4⟩:=List.mem_flatMap.1 hg;have a0:=trG_nn a4;exact⟨j0i g1,(hs _).1 ⟨g1,a1,a0,rfl⟩,(k1s hn a2 ds (i+1) g1 (k6a h a3 a1) (fun d hd'=>hd d (List.mem_cons_of_mem _ hd')) a0 _).1 ⟨g,a4,rfl⟩⟩
   ·rintro⟨y,hy,hx⟩;obtain⟨g1,a1,a0,rfl⟩:=(hs y).2 hy;obtain⟨g,hg,e⟩:=(k1s hn a2 ds (i+1) g1 (k6a h a3 a1) (fun d hd'=>hd d (List.mem_cons_of_mem _ hd')) a0 x).2 hx
    exact⟨g,List.mem_flatMap.2 ⟨g1,a1,hg⟩,e⟩
theorem k4g {hs:List (List Int)} {ds:List De} (x:List Int):∀ k,k<=ds.length->(x∈j2l t l hs ds deed owner↔∃ h∈j1g t l hs ds deed owner (ds.length-k),x∈j9t t l deed owner (ds.drop (ds.length-k)) (ds.length-k) h)
 | 0,_=>by
   rw[Nat.sub_zero,List.drop_length];unfold j2l j9t;simp
 | k+1,hk=>by
   rw[k4g x k (by omega)]
   obtain⟨i,hi⟩:∃ i,i=ds.length-(k+1):=⟨_,rfl⟩;have e1:ds.length-k=i+1:=by omega
   have a1:i<ds.length:=by omega
   rw[e1,<-hi,List.drop_eq_getElem_cons a1];have hm:=fun y=>k0i (t:=t) (l:=l) (heads:=hs) (deed:=deed) (owner:=owner) (zB5 a1) y
   constructor
   ·rintro⟨h',a2,hx⟩;obtain⟨h,hh,a0⟩:=(hm h').1 a2;exact⟨h,hh,List.mem_flatMap.2 ⟨h',a0,hx⟩⟩
   ·rintro⟨h,hh,hx⟩;obtain⟨h',a0,hx⟩:=List.mem_flatMap.1 hx;exact⟨h',(hm h').2 ⟨h,hh,a0⟩,hx⟩
end
theorem tru_ends {t:Int} {l:List Mk} {ks:List Int} {hs:List (List Int)} {ds:List De} {deed owner:Int} (a0:HeOk t l ks hs ds) (x:List Int):x∈j2l t l hs ds deed owner↔∃ g∈trG t l deed owner ds 0 hs,x=j0i g:=by
 have hg:GSh l.length ks.length hs:=⟨a0.hl,a0.rl⟩;have a1:nnG hs=true:=j5k.2 fun r hr y hy=>(a0.rb r hr y hy).1
 rw[k1s a0.n5 a0.f3 ds 0 hs hg (fun d hd=>⟨a0.dE d hd,a0.dI d hd⟩) a1,k4g x ds.length (zL9 _),Nat.sub_self]
 constructor
 ·rintro⟨h,hh,hx⟩;rw[show h=j0i hs by simpa[j1g] using hh] at hx
  simpa using hx
 ·intro hx;exact⟨j0i hs,by simp[j1g],by simpa using hx⟩
theorem q2x {n nf:Nat} {g g':List (List Int)} (h:GSh n nf g) (h':GSh n nf g') (hn:n<=5) (hf:nf<=3) (e:j0i g=j0i g'):g=g':=by
 refine List.ext_getElem (by rw[h.l,h'.l]) fun f h1 h2=>?_
 have a1:f<nf:=by rw[<-h.l];exact h1
 have e1:=h.r _ (List.getElem_mem h1);have e2:=h'.r _ (List.getElem_mem h2);refine List.ext_getElem (by rw[e1,e2]) fun o h3 h4=>?_
 have hg:=j1b g (f:=f) (o:=o) (by omega) (by omega)
 have a0:=j1b g' (f:=f) (o:=o) (by omega) (by omega)
 rw[e,a0] at hg;unfold getG at hg;rw[zB3 (l:=g),zB3 (l:=g'),zB5 h1,zB5 h2,Option.getD_some,Option.getD_some,zB3,zB3,zB5 h3,zB5 h4] at hg;exact hg.symm
end Go.Proofs.YtmennjmjakdkcaaGreat
namespace Go.Proofs.YtmennjmjakdkcaaGreat
open Go.RowKit
theorem j3o {w w':World} {row:Option Nat} (h:Below w.heap.size w w'):w.grownBy w' row:=⟨h.os,h.tape,h.output,h.size,fun j hj _=>h.block j hj⟩
structure TruI (b:Hb) (z:Nat) (gs:List (List Int)) (Ag:Option Addr) (v:Value) (E:List (List Int)) (w:World):Prop where
 own:OwnG w z v E
 zw:z<=w.heap.size
 keep:∀ w',w.grownBy w' v.ownBlock->j1d w' Ag gs.length gs∧HbIn w' b
structure TruE (z:Nat) (v:Value) (w:World) (v':Value) (E':List (List Int)) (w':World):Prop where
 own:OwnG w' z v' E'
 gr:w.grownBy w' v.ownBlock
 lies:∀ k,v'.ownBlock=some k->v.ownBlock=some k∨w.heap.size<=k
section
variable {b:Hb} {z:Nat} {gs:List (List Int)} {Ag:Option Addr} {v v' v'':Value} {E E' E'':List (List Int)} {w w' w'':World}
end
def BdG (B:Int) (gs:List (List Int)):Prop:=∀ r∈gs,∀ x∈r,-B<=x∧x<=B
theorem BdG.add {B K:Int} {gs:List (List Int)} {f o:Nat} {k:Int} (h:BdG B gs) (hk:-K<=k∧k<=K) (hK:0<=K) (hB:0<=B):BdG (B+K) (addG gs f o k):=by
 intro r hr x hx;unfold addG at hr;rcases List.mem_or_eq_of_mem_set hr with hr|rfl
 ·have:=h r hr x hx;omega
 ·rcases List.mem_or_eq_of_mem_set hx with hx|rfl
  ·rw[zB3] at hx;cases hg:gs[f]? with
   | none=>rw[hg] at hx;cases hx
   | some q =>
     rw[hg] at hx;have:=h q (zB4 hg) x hx;omega
  ·have hg:-B<=getG gs f o∧getG gs f o<=B:=by
    unfold getG;rw[zB3,zB3];cases hg:gs[f]? with
    | none=>simp;omega
    | some q =>
      simp only[Option.getD_some];cases ho:q[o]? with
      | none=>simp;omega
      | some y=>exact h q (zB4 hg) y (zB4 ho)
   omega
theorem getG_bd {B:Int} {gs:List (List Int)} (h:BdG B gs) (hB:0<=B) (f o:Nat):-B<=getG gs f o∧getG gs f o<=B:=by
 unfold getG;rw[zB3,zB3];cases hg:gs[f]? with
 | none=>simp;omega
 | some q =>
   simp only[Option.getD_some];cases ho:q[o]? with
   | none=>simp;omega
   | some y=>exact h q (zB4 hg) y (zB4 ho)
theorem EndG.turn {w2:World} {base bn a0 k cn g a2 n fn on nq:Nat} {gs:List (List Int)} {x y:Int} (a9:EndG w2 base (.slice (some ⟨bn,a0,none⟩) k cn) gs) (a4:fn<gs.length) (a7:(gs.getD fn []).length=n) (a6:on<n) (hx:x=getG gs fn on)
 (yr:w2.cell? ⟨bn,a0+fn,none⟩=some (.slice (some ⟨g,0,none⟩) n a2)):EndG ((w2.drewN nq).setCell ⟨g,on,none⟩ (.int .i64 (x+y))) base (.slice (some ⟨bn,a0,none⟩) k cn) (addG gs fn on y):=by
 have hq:EndG (w2.drewN nq) base (.slice (some ⟨bn,a0,none⟩) k cn) gs:=a9.upon fun _ _=>rfl
 obtain⟨aa,ad,ac,g',a8,e,a3,-,-,-,-,-,-,a1⟩:=hq.at (f:=fn) (o:=on) a4 (by rw[a7];exact a6)
 injection e with e1 e2 e3
 injection e1 with e1
 injection e1 with e1 e4 _
 subst e1 e4;have a5:(w2.drewN nq).cell? ⟨bn,a0+fn,none⟩=some (.slice (some ⟨g,0,none⟩) n a2):=yr;rw[a5] at a3;injection a3 with y1
 injection y1 with y1 _ _
 injection y1 with y1
 injection y1 with y1 _ _
 subst y1;have h:=a1 (x+y);unfold addG;rw[<-hx];exact h
theorem BdG.mono {B C:Int} {gs:List (List Int)} (h:BdG B gs) (hc:B<=C):BdG C gs:=fun r hr x hx=>by have:=h r hr x hx;omega
theorem trG_no {t:Int} {l:List Mk} {deed owner:Int} {ds:List De} {i:Nat} {gs:List (List Int)} (h:¬nnG gs=true):trG t l deed owner ds i gs=[]:=by
 cases ds with
 | nil=>exact if_neg h
 | cons d ds=>exact if_neg h
theorem srt_len {n m:Nat} (hn:n<=5) (hm:m<=3):((j1r n m).filter j5z).length<=35:=by
 have h:∀ n,n<6->∀ m,m<4->((j1r n m).filter j5z).length<=35:=by decide +kernel
 exact h n (by omega) m (by omega)
theorem step_len {t:Int} {l:List Mk} {deed owner:Int} {i:Nat} {d:De} {gs:List (List Int)} {nf:Nat} (hn:l.length<=5) (hd:DeIn l.length nf d):(j1t t l deed owner i d gs).length<=35:=by
 unfold j1t
 split
 ·simp
 split
 ·simp
 split
 ·simp
 split
 ·split<;>simp
 split
 ·rename_i h4;unfold k0s;rw[List.length_map];exact srt_len hn (by have:=hd.l h4;omega)
 ·unfold strG;rw[List.length_map];refine zB6 (List.length_filter_le _ _) ?_;rw[List.length_range];omega
theorem EndG.place {w:World} {base k cn f o:Nat} {An:Option Addr} {gs:List (List Int)} (h:EndG w base (.slice An k cn) gs) (hf:f<gs.length) (ho:o<(gs.getD f []).length):∃ bn off,An=some ⟨bn,off,none⟩:=by
 obtain⟨b,a0,c,g,cg,e1,-⟩:=h.at (f:=f) (o:=o) hf ho;injection e1 with a1 _ _
 exact⟨b,a0,a1⟩
theorem j4b {gs:List (List Int)} {f o:Nat} {k:Int} (hf:f<gs.length) (ho:o<(gs.getD f []).length):getG (addG gs f o k) f o=getG gs f o+k:=by
 unfold getG addG;rw[zB3 (l:=gs.set _ _),List.getElem?_set_self hf,Option.getD_some,zB3 (l:=List.set _ _ _),List.getElem?_set_self ho,Option.getD_some];rfl
section
variable {b:Hb} {z:Nat} {gs:List (List Int)} {Ag:Option Addr} {v v':Value} {E E':List (List Int)} {w w':World}
end
theorem BdG.sub {f:Nat}:∀ {w:List Int} {B:Int} {gs:List (List Int)},0<=B->BdG B gs->BdG (B+w.length) (subG f w gs)
 | [],B,gs,_,h=>by
   show BdG (B+((0:Nat):Int)) gs;exact h.mono (by omega)
 | o::w,B,gs,hB,h=>by
   have h1:=BdG.sub (f:=f) (w:=w) (B:=B+1) (by omega) (h.add (f:=f) (o:=o.toNat) (k:=-1) (K:=1) (by omega) (by omega) hB)
   refine BdG.mono (show BdG (B+1+w.length) (subG f (o::w) gs) from h1) ?_
   rw[List.length_cons];omega
theorem j4n (A:Option Addr) (n c m:Nat) (gs:List (List Int)) (f o:Nat) (k:Int) (w:World) (hl:j1d w A n gs) (hn:n<=1000) (hr:∀ r∈gs,r.length=m) (hm:m<=1000) (hf:f<n) (ho:o<m) (hb:-100000<=getG gs f o∧getG gs f o<=100000) (hk:-100000<=k∧k<=100000) :
 Calls Tryz.prog 144 #[.slice A n c,.int .i64 f,.int .i64 o,.int .i64 k] w fun e w'=>(∃ v,e=.returned v∧EndG w' w.heap.size v (addG gs f o k))∧Below w.heap.size w w':=by
 have a7:gs.length=n:=hl.grid.len;have HL:=zQ9 (zA9 hl (zA9 a7 hr));clear hl a7 hr;go_enter Tryz.func144,Tryz.ntmps144
 go_upto_region 3 with (fail)
 go_loopg [9,10] n (fun g v9 v10 wr=>∃ q:Nat,q+g=n∧v10=.int .i64 q∧EndG wr w.heap.size v9 (gs.take q)∧Below w.heap.size w wr)
 case atStart=>exact⟨0,by omega,rfl,by simpa using EndG.nil_,zB2 _ _⟩
 case round =>
  obtain⟨q,hq,rfl,a0,hB⟩:=hrel;have aj:=hB.size;by_cases hlt:q<n
  ·obtain⟨b,off,B,l,c',rfl,aA,hl,hc,hi,ar,aC,hz⟩:=(HL.o.1.below hB (zL9 _)).get hlt;have ay:=HL.o.2.2 l (zB4 hl);obtain⟨m',ah⟩:∃ m',m'=l.length:=⟨_,rfl⟩;have aE:m'<=1000:=by omega
   rw[<-ah] at hc hi;have aq:(gs.take q).length<4294967296:=by rw[List.length_take];omega
   have h1:(q:Int)<(n:Int):=by omega
   have ad:Below wr.heap.size wr (wr.alloc (Obj.cells #[] 3)):=bal0 wr _;have af:=hi.below ad (zL9 _);have HK:=zQ9 (zA9 hq (zA9 a0 (zA9 hB (zA9 hl (zA9 af (zA9 hz ad))))));clear hq a0 hB hl hi ay ar hz ah af ad;go_wp2_with (first
    | (at_builtin;refine j5e j3b rfl (.tmp 18) (.tmp 22) rfl wr.heap.size wr.heap.size B m' c' l rfl (heap_alloc_new wr _) rfl HK.o.2.2.2.2.1 HK.o.2.2.2.2.2.1 j0n j1x (by omega) (by decide) (zL9 _) ?_;intro v2 w2 ac am;obtain⟨A2,c2,rfl,_,_,_⟩:=ac.form j0n;have H2:=zQ9 (zA9 ac (HK.o.2.2.2.2.2.2.trans (am.mono HK.o.2.2.2.2.2.2.size)));clear ac am)
    | (at_builtin;refine k5o j8g rfl (.tmp 17) (.tmp 24) rfl w.heap.size _ _ (gs.take q) _ rfl rfl HK.o.2.1 H2.o.2 H2.o.1 aq aj ?_;intro v' w4 a5 ag _ _;have H4:=zQ9 (zA9 a5 ag);clear a5 ag))
   go_roundg (gk-1)
   case measure=>have:=HK.o.1;omega
   case rel =>
    refine⟨q+1,by have:=HK.o.1;omega,by go_num,?_,HK.o.2.2.1.trans ((H2.o.2.mono aj).trans (H4.o.2.mono (zL9 _)))⟩
    rw[List.take_add_one,HK.o.2.2.2.1];exact H4.o.1
  ·obtain rfl:q=n:=by omega
   have e:gs.take q=gs:=zB8 (by rw[HL.o.2.1];exact zL9 _)
   rw[e] at a0;have a6:f<gs.length:=by rw[HL.o.2.1];exact hf
   have a8:(gs.getD f []).length=m:=HL.o.2.2 _ (by rw[zB3,zB5 a6];exact List.getElem_mem _)
   obtain⟨An,cn,rfl,-,aa,av⟩:=a0.ownG.form;obtain⟨bn,aw,rfl⟩:=a0.place (f:=f) (o:=o) a6 (by rw[a8];exact ho)
   obtain⟨aB,aG,aD,g,cg,e9,yr,ax,aF,ak,aH,yc,fz,-⟩:=a0.at (f:=f) (o:=o) a6 (by rw[a8];exact ho)
   injection e9 with a1 a2 a3
   injection a1 with a1
   injection a1 with a1 a4 _
   subst a1 a4 a3;rw[a8] at yr ax;obtain⟨x,hx⟩:∃ x,x=getG gs f o:=⟨_,rfl⟩;rw[show(gs.getD f []).getD o 0=x from hx.symm] at yc
   rw[<-hx] at hb;have az:=j2c yr;have i1:(f:Int)<(q:Int):=by omega
   have i2:(o:Int)<(m:Int):=by omega
   rw[HL.o.2.1] at a0 aa ⊢;have HF:=zQ9 (zA9 a0 (zA9 hB (zA9 a6 (zA9 a8 (zA9 hx (zA9 yr ak))))));clear a0 hB a6 a8 hx ak e hq a2;go_upto_region 6 with (fail)
   refine j1c (C:=fun w'=>∃ n,w'=wr.drewN n) 15 (by kernel_rfl) (by kernel_rfl) ⟨1,rfl⟩ ?_
   simp only[List.take_succ_cons,List.take_zero,List.drop_succ_cons,List.drop_zero]
   repeat (quiet_step (fail))
   refine wpQuiet_nil ?_;intro _ ao;obtain⟨nq,ae⟩:=ao;subst ae;go_upto_region 7 with (fail)
   obtain⟨W3,a9⟩:∃ W,W=(wr.drewN nq).setCell ⟨g,o,none⟩ (.int .i64 (x+k)):=⟨_,rfl⟩;rw[<-a9];have an:EndG W3 w.heap.size (.slice (some ⟨bn,aw,none⟩) q cn) (addG gs f o k):=by
    rw[a9];exact HF.o.1.turn HF.o.2.2.1 HF.o.2.2.2.1 ho HF.o.2.2.2.2.1 HF.o.2.2.2.2.2.1
   have ai:Below w.heap.size w W3:=by rw[a9];exact(j0k HF.o.2.1 nq).setCell HF.o.2.2.2.2.2.2 _
   have H3:=zQ9 (zA9 an ai);clear a9 an ai yr yc fz;go_wp2_with fail
   go_ret
   exact⟨⟨_,rfl,H3.o.1⟩,H3.o.2⟩
theorem fine_any (A:Option Addr) (n c:Nat) (gs:List (List Int)) (w:World) (hl:j1d w A n gs) (hn:n<=1000) (hr:∀ r∈gs,r.length<=1000) :
 Calls Tryz.prog 153 #[.slice A n c] w fun e w'=>e=.returned (.bool (nnG gs))∧w=w':=by
 have a2:gs.length=n:=hl.grid.len;have HL:=zQ9 (zA9 hl (zA9 a2 hr));clear hl a2 hr;go_enter Tryz.func153,Tryz.ntmps153
 go_upto_region 2 with (fail)
 go_loopg [3] n (fun g v3 wr=>∃ k:Nat,k+g=n∧v3=.int .i64 k∧(∀ r∈gs.take k,∀ x∈r,0<=x)∧w=wr)
 case atStart=>exact⟨0,by omega,rfl,fun r hr=>by simp at hr,rfl⟩
 case round =>
  obtain⟨k,hk,rfl,a0,rfl⟩:=hrel;obtain⟨g1,rfl⟩:∃ g1:Nat,g1=gk:=⟨_,rfl⟩;by_cases hlt:k<n
  ·obtain⟨b1,o1,B1,row,c1,rfl,aa,a1,y1,a3,a6,a9,-⟩:=HL.o.1.get hlt;have a7:=HL.o.2.2 row (zB4 a1);obtain⟨nl,a4⟩:∃ nl,nl=row.length:=⟨_,rfl⟩;rw[<-a4] at y1 a3 a6 a7;have i1:(k:Int)<(n:Int):=by omega
   have HK:=zQ9 (zA9 hk (zA9 a0 (zA9 a1 (zA9 a3 a4))));clear hk a0 a1 a3 a4;go_upto_region 5 with (fail)
   go_loopg [4] nl (fun g v4 wr=>∃ o:Nat,o+g=nl∧v4=.int .i64 o∧(∀ x∈row.take o,0<=x)∧w=wr)
   case atStart=>exact⟨0,by omega,rfl,fun x hx=>by simp at hx,rfl⟩
   case round =>
    obtain⟨o,ho,rfl,a0,rfl⟩:=hrel;by_cases hlo:o<nl
    ·obtain⟨b2,o2,x,rfl,a8,hx,y2⟩:=Ints.get HK.o.2.2.2.1 hlo;have i2:(o:Int)<(nl:Int):=by omega
     have HO:=zQ9 (zA9 ho (zA9 a0 hx));clear ho a0 hx;by_cases hneg:x<0
     ·have a5:=zQ9 hneg;go_wp2_with fail
      go_ret
      refine⟨?_,rfl⟩;have:nnG gs=false:=by
       cases h:nnG gs with
       | false=>rfl
       | true =>
         have:=j5k.1 h row (zB4 HK.o.2.2.1) x (zB4 HO.o.2.2);have:=a5.o;omega
      rw[this];rfl
     ·go_wp2_with fail
      go_roundg (gk-1)
      case measure=>have:=HO.o.1;omega
      case rel =>
       refine⟨o+1,by have:=HO.o.1;omega,by go_num,fun y hy=>?_,rfl⟩
       rw[List.take_add_one,HO.o.2.2] at hy;rcases List.mem_append.1 hy with hy|hy
       ·exact HO.o.2.1 y hy
       ·rw[show y=x by simpa using hy];omega
    ·obtain rfl:o=nl:=by omega
     have HO:=zQ9 a0;clear ho a0;go_wp2_with fail
     go_roundg (g1-1)
     case measure=>have:=HK.o.1;omega
     case rel =>
      refine⟨k+1,by have:=HK.o.1;omega,by go_num,fun r hr=>?_,rfl⟩
      rw[List.take_add_one,HK.o.2.2.1] at hr;rcases List.mem_append.1 hr with hr|hr
      ·exact HK.o.2.1 r hr
      ·rw[show r=row by simpa using hr]
       have h:=HO.o;rw[zB8 (by have:=HK.o.2.2.2.2;omega)] at h
       exact h
  ·obtain rfl:k=n:=by omega
   have hg:nnG gs=true:=j5k.2 (by rw[zB8 (by rw[HL.o.2.1];exact zL9 _)] at a0;exact a0)
   have HG:=zQ9 hg;clear hg a0 hk;go_wp2_with fail
   go_ret
   exact⟨by rw[HG.o];rfl,rfl⟩
end Go.Proofs.YtmennjmjakdkcaaGreat
