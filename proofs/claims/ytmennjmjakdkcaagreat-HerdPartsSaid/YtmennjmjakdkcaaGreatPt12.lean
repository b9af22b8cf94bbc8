/- HerdParts. -/
import Derived.Test.YtmennjmjakdkcaaGreatPt08
set_option linter.unusedVariables false
set_option linter.unusedSimpArgs false
set_option maxRecDepth 100000
set_option maxHeartbeats 2000000
namespace Go.Proofs.YtmennjmjakdkcaaGreat
structure Sm where
 first:Int
 born:Int
 bought:Int
 sold:Int
 eaten:Int
 deriving DecidableEq
def stepS (o:Int) (s:Sm) (d:De):Sm :=
 if d.owner=o∧d.kind=1 then { s with born:=s.born+d.many }
 else if d.owner=o∧d.kind=2 then { s with sold:=s.sold+d.many }
 else if d.owner=o∧d.kind=3 then { s with eaten:=s.eaten+d.many }
 else if d.kind=2∧d.other=o then { s with bought:=s.bought+d.many } else s
def sumS (hs:List (List Int)) (o:Nat) (ds:List De):Sm:=ds.foldl (stepS o) ⟨j5t (j0i hs) o,0,0,0,0⟩
def hasS (s:Sm):Int:=s.first+s.born+s.bought-s.sold-s.eaten
def j7e (o:Int) (d:De):Int:=(if d.kind=1∧d.owner=o then d.many else 0)+(if d.kind=2∧d.other=o then d.many else 0)-(if d.kind=2∧d.owner=o then d.many else 0)-(if d.kind=3∧d.owner=o then d.many else 0)
theorem q4x (o:Int) (s:Sm) (d:De) (h:d.kind=2->d.owner≠d.other):hasS (stepS o s d)=hasS s+j7e o d:=by
 unfold stepS j7e hasS;by_cases h1:d.kind=1
 ·by_cases h2:d.owner=o<;>simp[h1,h2]<;>omega
 ·by_cases h3:d.kind=2
  ·have a0:=h h3;by_cases h2:d.owner=o
   ·have:d.other≠o:=fun e=>a0 (h2.trans e.symm)
    simp[h3,h2,this];omega
   ·by_cases h4:d.other=o<;>simp[h3,h2,h4]<;>omega
  ·by_cases h4:d.kind=3
   ·by_cases h2:d.owner=o<;>simp[h4,h2]<;>omega
   ·simp[h1,h3,h4]
def htot (h:List Int):Int:=hall h 0+hall h 1+hall h 2
theorem lt3 {f:Nat} (h:f<3):f=0∨f=1∨f=2:=by omega
theorem lt5 {f:Nat} (h:f<5):f=0∨f=1∨f=2∨f=3∨f=4:=by omega
theorem j3j {h:List Int} (hl:h.length=15) {f o o':Nat} {k:Int} (hf:f<3) (ho:o<5) (a0:o'<5):j5t (hadd h f o k) o'=j5t h o'+if o=o' then k else 0:=by
 unfold j5t;rw[j0m hl hf ho a0,j0m hl hf ho a0,j0m hl hf ho a0];by_cases e:o=o'
 ·subst e;rcases lt3 hf with rfl|rfl|rfl<;>simp<;>omega
 ·simp[e]
theorem j8u {h:List Int} (hl:h.length=15) {f o f':Nat} {k:Int} (hf:f<3) (ho:o<5):hall (hadd h f o k) f'=hall h f'+if f=f' then k else 0:=by
 unfold hall;rw[j0m hl hf ho (by omega),j0m hl hf ho (by omega),j0m hl hf ho (by omega),j0m hl hf ho (by omega),j0m hl hf ho (by omega)]
 by_cases e:f=f'
 ·subst e;rcases lt5 ho with rfl|rfl|rfl|rfl|rfl<;>simp<;>omega
 ·simp[e]
theorem j4e {h:List Int} (hl:h.length=15) {f o:Nat} {k:Int} (hf:f<3) (ho:o<5):htot (hadd h f o k)=htot h+k:=by
 unfold htot;rw[j8u hl hf ho,j8u hl hf ho,j8u hl hf ho];rcases lt3 hf with rfl|rfl|rfl<;>simp<;>omega
theorem j4w {h:List Int} {f o:Nat} {k:Int} (hl:h.length=15):(hadd h f o k).length=15:=by unfold hadd;rw[List.length_set];exact hl
theorem j4u {α β:Type} {f:α->List β} {c:Nat}:∀ {l:List α},(∀ x∈l,(f x).length<=c)->(l.flatMap f).length<=l.length*c
 | [],_=>by simp
 | x::l,h=>by
   rw[List.flatMap_cons,List.length_append,List.length_cons];have h1:=h x List.mem_cons_self;have h2:=j4u (l:=l) fun y hy=>h y (List.mem_cons_of_mem _ hy)
   rw[Nat.add_mul];omega
theorem k7a {n f:Nat}:∀ (j:Nat) (h:List Int) (m c:Nat),m<=c->(j1e n f j h m).length<=(c+1) ^ j
 | 0,h,m,c,hc=>by unfold j1e;split<;>simp
 | j+1,h,m,c,hc=>by
   have hp:0<(c+1) ^ j:=Nat.pow_pos (by omega)
   unfold j1e
   split
   ·have:0<(c+1) ^ (j+1):=Nat.pow_pos (by omega)
    simp only[List.length_cons,List.length_nil];omega
   ·refine zB6 (j4u (c:=(c+1) ^ j) fun k hk=>?_) ?_
    ·cases mvd h f (n-(j+1)) (-(k:Int)) with
     | none=>exact Nat.zero_le _
     | some x=>exact k7a j x (m-k) c (by omega)
    ·rw[List.length_range,Nat.pow_succ,Nat.mul_comm];exact Nat.mul_le_mul_left _ (by omega)
theorem k8s:∀ l:List (List Int),(ddup l).length<=l.length
 | []=>by simp[ddup]
 | x::l=>by
   have:=k8s l;unfold ddup
   split
   ·simp;omega
   ·simp;omega
theorem succ_len {t:Int} {l:List Mk} {pass:Int->Bool} {d:De} {h:List Int} {nf:Nat} (a0:l.length<=5) (hd:DeIn l.length nf d):(succ t l pass d h).length<=1024:=by
 have hm:=hd.m;unfold succ
 split
 ·simp
 split
 ·cases mvd h d.flock.toNat d.owner.toNat (-d.many)<;>simp
 split
 ·cases mvd h d.flock.toNat d.owner.toNat (-d.many)<;>simp
 split
 ·rename_i h4;have:=hd.l h4;refine zB6 (k7a l.length h d.many.toNat 3 (by omega)) ?_
  have e:∀ n:Fin 6,(3+1) ^ n.1<=1024:=by decide
  exact e ⟨l.length,by omega⟩
 split
 ·unfold j4k;refine zB6 (j4u (c:=1) fun o _=>?_) ?_
  ·cases mvd h d.flock.toNat o.toNat (-1)<;>simp
  ·have h1:=List.length_filter_le pass (mayL t l d.s);have h2:=j8y t l d.s l.length;unfold mayL at *
   omega
 split<;>simp
theorem k4f {t:Int} {l:List Mk} {hs:List (List Int)} {ds:List De} {deed owner:Int} {nf:Nat} (a0:l.length<=5) (hd:∀ d∈ds,DeIn l.length nf d):∀ i,(j1g t l hs ds deed owner i).length<=1024 ^ i
 | 0=>by simp[j1g]
 | i+1=>by
   unfold j1g;refine zB6 (k8s _) (zB6 (j4u (c:=1024) fun h _=>?_) ?_)
   ·cases hi:ds[i]? with
    | none=>exact Nat.zero_le _
    | some d=>exact succ_len a0 (hd d (zB4 hi))
   ·rw[Nat.pow_succ];exact Nat.mul_le_mul_right _ (k4f a0 hd i)
theorem q4l {t:Int} {l:List Mk} {ks:List Int} {hs:List (List Int)} {ds:List De} {deed owner:Int} (h:HeOk t l ks hs ds):(j2l t l hs ds deed owner).length<=1152921504606846976:=by
 refine zB6 (k4f h.n5 h.dI ds.length) ?_;refine zB6 (Nat.pow_le_pow_right (by omega) h.d6) (by decide)
def getG (gs:List (List Int)) (f o:Nat):Int:=(gs.getD f []).getD o 0
def addG (gs:List (List Int)) (f o:Nat) (k:Int):List (List Int):=gs.set f ((gs.getD f []).set o (getG gs f o+k))
structure GSh (n nf:Nat) (gs:List (List Int)):Prop where
 l:gs.length=nf
 r:∀ r∈gs,r.length=n
theorem GSh.row {n nf:Nat} {gs:List (List Int)} (h:GSh n nf gs) {f:Nat} (hf:f<nf):(gs.getD f []).length=n:=by
 rw[zB3,zB5 (by rw[h.l];exact hf),Option.getD_some]
 exact h.r _ (List.getElem_mem _)
theorem GSh.add {n nf:Nat} {gs:List (List Int)} (h:GSh n nf gs) {f:Nat} (hf:f<nf) (o:Nat) (k:Int):GSh n nf (addG gs f o k):=by
 refine⟨by unfold addG;rw[List.length_set];exact h.l,fun r hr=>?_⟩
 rcases List.mem_or_eq_of_mem_set hr with hr|rfl
 ·exact h.r r hr
 ·rw[List.length_set];exact h.row hf
theorem k1n (gs:List (List Int)) {i:Nat} (hi:i<15):(j0i gs)[i]?=some (getG gs (i / 5) (i % 5)):=by
 unfold j0i getG;rw[List.getElem?_map,List.getElem?_range hi];rfl
theorem j1b (gs:List (List Int)) {f o:Nat} (hf:f<3) (ho:o<5):hget (j0i gs) f o=getG gs f o:=by
 unfold hget;rw[zB3,k1n gs (by omega),show(5*f+o) / 5=f by omega,show(5*f+o) % 5=o by omega]
 rfl
theorem j7x (gs:List (List Int)):(j0i gs).length=15:=by simp[j0i]
theorem j1m {n nf:Nat} {gs:List (List Int)} (h:GSh n nf gs) (hn:n<=5) (a2:nf<=3) {f o:Nat} (hf:f<nf) (ho:o<n) (k:Int):j0i (addG gs f o k)=hadd (j0i gs) f o k:=by
 have a1:=h.row hf;have a0:f<gs.length:=by rw[h.l];exact hf
 apply List.ext_getElem?;intro i;unfold hadd;by_cases hi:i<15
 ·rw[k1n _ hi,List.getElem?_set,j7x];by_cases e:5*f+o=i
  ·rw[if_pos e,if_pos (by omega),<-e,show(5*f+o) / 5=f by omega,show(5*f+o) % 5=o by omega,j1b gs (by omega) (by omega)]
   unfold getG addG;rw[zB3,zB3 (l:=gs.set _ _),List.getElem?_set_self a0,Option.getD_some,List.getElem?_set_self (by omega)]
   rfl
  ·rw[if_neg e,k1n _ hi];congr 1;unfold getG addG;by_cases ef:f=i / 5
   ·subst ef;have eo:o≠i % 5:=by omega
    rw[zB3 (l:=gs.set _ _),List.getElem?_set_self a0,Option.getD_some,zB3,List.getElem?_set_ne eo,zB3 (l:=gs.getD _ _)]
   ·rw[zB3 (l:=gs.set _ _),List.getElem?_set_ne ef,<-zB3 (l:=gs)]
 ·rw[List.getElem?_eq_none (by rw[j7x];omega),List.getElem?_eq_none (by rw[List.length_set,j7x];omega)]
theorem sum5 {l:List Int} (h:l.length<=5):l.sum=l.getD 0 0+l.getD 1 0+l.getD 2 0+l.getD 3 0+l.getD 4 0:=by
 match l,h with
 | [],_=>simp
 | [a],_=>simp
 | [a,b],_=>simp
 | [a,b,c],_=>simp;omega
 | [a,b,c,d],_=>simp;omega
 | [a,b,c,d,e],_=>simp;omega
 | _::_::_::_::_::_::_,h=>simp at h
theorem j9u {gs:List (List Int)} {f:Nat} (hf:f<3) (hl:(gs.getD f []).length<=5):(gs.getD f []).sum=hall (j0i gs) f:=by
 rw[sum5 hl];unfold hall;rw[j1b gs hf (by omega),j1b gs hf (by omega),j1b gs hf (by omega),j1b gs hf (by omega),j1b gs hf (by omega)]
 rfl
theorem k2p {t:Int} {l:List Mk} {hs:List (List Int)} {ds:List De} {d:De} {deed owner:Int}:∀ i,i<=ds.length->j1g t l hs (ds++[d]) deed owner i=j1g t l hs ds deed owner i
 | 0,_=>rfl
 | i+1,hi=>by
   unfold j1g;rw[k2p i (by omega),List.getElem?_append_left (by omega)]
theorem k0h {t:Int} {l:List Mk} {hs:List (List Int)} {ds:List De} {d:De} {deed owner:Int} {x h:List Int} (hh:h∈j2l t l hs ds deed owner) (hx:x∈succ t l (j1s deed owner ds.length) d h):x∈j2l t l hs (ds++[d]) deed owner:=by
 unfold j2l at hh ⊢;rw[List.length_append];refine(k0i (i:=ds.length) (d:=d) (by simp) x).2 ⟨h,?_,hx⟩
 rw[k2p _ (zL9 _)];exact hh
theorem k4e {t:Int} {l:List Mk} {hs:List (List Int)} {ds:List De} {deed owner deed' owner':Int}:∀ i:Nat,(∀ j:Nat,j<i->(j:Int)≠deed∧(j:Int)≠deed')->j1g t l hs ds deed owner i=j1g t l hs ds deed' owner' i
 | 0,_=>rfl
 | i+1,h=>by
   unfold j1g;rw[k4e i fun j hj=>h j (by omega)]
   have e:j1s deed owner i=j1s deed' owner' i:=by
    funext o
    unfold j1s;have:=h i (by omega)
    rw[decide_eq_false this.1,decide_eq_false this.2];rfl
   rw[e]
theorem k9r {deed owner:Int} {i:Nat} (h:(i:Int)≠deed) (o:Int):j1s deed owner i o=true:=by unfold j1s;rw[decide_eq_false h];rfl
theorem pass_own {deed:Int} {i:Nat} (o:Int):j1s deed o i o=true:=by unfold j1s;simp
theorem q4v {h:List Int} (hl:h.length=15) {f o o':Nat} {k k':Int} (hf:f<3) (ho:o<5) (a0:o'<5) (a1:o≠o'):hadd (hadd h f o k) f o' k'=hadd (hadd h f o' k') f o k:=by
 unfold hadd;have e1:hget (h.set (5*f+o) (hget h f o+k)) f o'=hget h f o':=by rw[show hget (h.set (5*f+o) (hget h f o+k)) f o'=_ from k0o hl hf ho a0,if_neg (by omega)];rfl
 have e2:hget (h.set (5*f+o') (hget h f o'+k')) f o=hget h f o:=by rw[show hget (h.set (5*f+o') (hget h f o'+k')) f o=_ from k0o hl hf a0 ho,if_neg (by omega)];rfl
 rw[e1,e2,List.set_comm _ _ (by omega)]
theorem q4w {h:List Int} (hl:h.length=15) {f o:Nat} {k k':Int} (hf:f<3) (ho:o<5):hadd (hadd h f o k) f o k'=hadd h f o (k+k'):=by
 unfold hadd;have e1:hget (h.set (5*f+o) (hget h f o+k)) f o=hget h f o+k:=by rw[show hget (h.set (5*f+o) (hget h f o+k)) f o=_ from k0o hl hf ho ho,if_pos ⟨rfl,rfl⟩]
 rw[e1,List.set_set,Int.add_assoc]
theorem k6s {h:List Int} (hl:h.length=15) {f o:Nat} (hf:f<3) (ho:o<5):hadd h f o 0=h:=by
 unfold hadd hget;rw[Int.add_zero,zB3,zB5 (by omega),Option.getD_some,List.set_getElem_self]
theorem j4r {n f:Nat} (j:Nat) (h:List Int):j1e n f j h 0=[h]:=by cases j<;>simp[j1e]
theorem j7k {n f j m k:Nat} {h x:List Int} (hl:h.length=15) (hf:f<3) (hq:n-(j+1)<5) (hk:k<=m) (h0:0<=hget h f (n-(j+1))+-(k:Int)) (hx:x∈j1e n f j (hadd h f (n-(j+1)) (-(k:Int))) (m-k)):x∈j1e n f (j+1) h m:=by
 unfold j1e;by_cases hm:m=0
 ·subst hm;obtain rfl:k=0:=by omega
  rw[if_pos rfl];rw[j4r] at hx;simp at hx;rw[hx,k6s hl hf hq];simp
 ·rw[if_neg hm];refine List.mem_flatMap.2 ⟨k,List.mem_range.2 (by omega),?_⟩
  unfold mvd;rw[if_pos h0];exact hx
theorem k0t {n f:Nat} (hf:f<3) (hn:n<=5):∀ (j:Nat) (h:List Int) (m o:Nat) (x:List Int),j<=n->h.length=15->(∀ o,o<5->0<=hget h f o)->n-j<=o->o<n->0<hget h f o->x∈j1e n f j (hadd h f o (-1)) m->x∈j1e n f j h (m+1)
 | 0,h,m,o,x,hj,hl,hnn,h1,h2,hp,hx=>by omega
 | j+1,h,m,o,x,hj,hl,hnn,h1,h2,hp,hx=>by
   have a0:n-(j+1)<5:=by omega
   have a1:o<5:=by omega
   by_cases e:o=n-(j+1)
   ·subst e;by_cases hm:m=0
    ·subst hm;rw[j4r] at hx;simp at hx;subst hx;refine j7k hl hf a0 (k:=1) (by omega) (by omega) ?_
     rw[j4r];simp
    ·unfold j1e at hx;rw[if_neg hm] at hx;obtain⟨k,hk,hx⟩:=List.mem_flatMap.1 hx;have a2:k<=m:=by have:=List.mem_range.1 hk;omega
     cases hmv:mvd (hadd h f (n-(j+1)) (-1)) f (n-(j+1)) (-(k:Int)) with
     | none=>rw[hmv] at hx;cases hx
     | some y =>
       rw[hmv] at hx;obtain⟨h0,rfl⟩:=j5d hmv;rw[j0m hl hf a1 a1,if_pos ⟨rfl,rfl⟩] at h0;rw[q4w hl hf a1] at hx;refine j7k hl hf a0 (k:=k+1) (by omega) (by omega) ?_
       rw[show -((k+1:Nat):Int)=-1+-(k:Int) by omega,show m+1-(k+1)=m-k by omega]
       exact hx
   ·by_cases hm:m=0
    ·subst hm;rw[j4r] at hx;simp at hx;subst hx;refine j7k hl hf a0 (k:=0) (by omega) (by have:=hnn _ a0;omega) ?_
     rw[show -((0:Nat):Int)=0 from rfl,k6s hl hf a0]
     exact k0t hf hn j h 0 o _ (by omega) hl hnn (by omega) h2 hp (by rw[j4r];simp)
    ·unfold j1e at hx;rw[if_neg hm] at hx;obtain⟨k,hk,hx⟩:=List.mem_flatMap.1 hx;have a2:k<=m:=by have:=List.mem_range.1 hk;omega
     cases hmv:mvd (hadd h f o (-1)) f (n-(j+1)) (-(k:Int)) with
     | none=>rw[hmv] at hx;cases hx
     | some y =>
       rw[hmv] at hx;obtain⟨h0,rfl⟩:=j5d hmv;rw[j0m hl hf a1 a0,if_neg (by omega)] at h0
       rw[q4v hl hf a1 a0 e] at hx;refine j7k hl hf a0 (k:=k) (by omega) h0 ?_
       rw[show m+1-k=m-k+1 by omega]
       refine k0t hf hn j _ (m-k) o x (by omega) (j4w hl) (fun o' ho'=>?_) (by omega) h2 ?_ hx
       ·rw[j0m hl hf a0 ho']
        split
        ·exact h0
        ·exact hnn o' ho'
       ·rw[j0m hl hf a0 a1,if_neg (by omega)]
        exact hp
structure TaleI (t:Int) (l:List Mk) (hs:List (List Int)) (ds:List De) (gs:List (List Int)) (gone whose:List Int):Prop where
 e:j0i gs∈j2l t l hs ds (-1) 0
 w:∀ (k:Nat) (o:Int),whose[k]?=some o->0<=o->j0i gs∈j2l t l hs ds k o∧o<l.length∧∃ d,ds[k]?=some d∧d.kind=5
 wn:whose.length=ds.length
 nn:∀ f o,f<3->o<5->0<=hget (j0i gs) f o
 tot:htot (j0i gs)<=60+3*ds.length
 g:∀ o:Nat,o<l.length->gone.getD o 0+j5t (j0i gs) o=hasS (sumS hs o ds)
 gl:gone.length=l.length
theorem k0p {h:List Int} (a5:∀ f o,f<3->o<5->0<=hget h f o) {f o:Nat} (hf:f<3) (ho:o<5):hget h f o<=hall h f∧hall h f<=htot h:=by
 have a0:=fun f (hf:f<3)=>a5 f 0 hf (by omega)
 have a1:=fun f (hf:f<3)=>a5 f 1 hf (by omega)
 have a2:=fun f (hf:f<3)=>a5 f 2 hf (by omega)
 have a3:=fun f (hf:f<3)=>a5 f 3 hf (by omega)
 have a4:=fun f (hf:f<3)=>a5 f 4 hf (by omega)
 have b0:=a0 f hf;have b1:=a1 f hf;have b2:=a2 f hf;have b3:=a3 f hf;have b4:=a4 f hf;have c:∀ f,f<3->0<=hall h f:=fun f hf=>by unfold hall;have:=a0 f hf;have:=a1 f hf;have:=a2 f hf;have:=a3 f hf;have:=a4 f hf;omega
 constructor
 ·unfold hall;rcases lt5 ho with rfl|rfl|rfl|rfl|rfl<;>omega
 ·unfold htot;have:=c 0 (by omega);have:=c 1 (by omega);have:=c 2 (by omega)
  rcases lt3 hf with rfl|rfl|rfl<;>omega
theorem TaleI.start {t:Int} {l:List Mk} {hs:List (List Int)} (a0:∀ f o,f<3->o<5->0<=hget (j0i hs) f o) (ht:htot (j0i hs)<=60):TaleI t l hs [] hs (List.replicate l.length 0) []:=by
 refine⟨by simp[j2l,j1g],by simp,rfl,a0,by simpa using ht,fun o ho=>?_,by simp⟩
 rw[zB3,List.getElem?_replicate,if_pos ho];unfold sumS hasS;simp
theorem TaleI.step {t:Int} {l:List Mk} {hs:List (List Int)} {ds:List De} {gs a7:List (List Int)} {a6 a5 whose:List Int} {d:De} {ow:Int} (h:TaleI t l hs ds gs a6 whose)
 (a0:∀ pass:Int->Bool,(d.kind=5->pass ow=true)->j0i a7∈succ t l pass d (j0i gs)) (af:ow=-1∨0<=ow∧ow<l.length∧d.kind=5) (ad:d.kind=2->d.owner≠d.other)
 (ae:∀ f o,f<3->o<5->0<=hget (j0i a7) f o) (ht:htot (j0i a7)<=htot (j0i gs)+3)
 (hg:∀ o:Nat,o<l.length->a5.getD o 0+j5t (j0i a7) o=a6.getD o 0+j5t (j0i gs) o+j7e o d) (ag:a5.length=a6.length):TaleI t l hs (ds++[d]) a7 a5 (whose++[ow]):=by
 refine⟨k0h h.e (a0 _ fun _=>k9r (by omega) _),fun k o hk ho=>?_,by simp[h.wn],ae,?_,fun o ho=>?_,ag.trans h.gl⟩
 ·rcases Nat.lt_or_ge k whose.length with a9|a9
  ·rw[List.getElem?_append_left a9] at hk;obtain⟨a1,a2,d',a3,a4⟩:=h.w k o hk ho;exact⟨k0h a1 (a0 _ fun _=>k9r (by have:=h.wn;omega) _),a2,d',by rw[List.getElem?_append_left (by have:=h.wn;omega)];exact a3,a4⟩
  ·rw[List.getElem?_append_right a9] at hk;have ac:k-whose.length=0:=by
    cases hd:k-whose.length with
    | zero=>rfl
    | succ j=>rw[hd] at hk;simp at hk
   rw[ac] at hk;simp at hk;subst hk;have a8:k=ds.length:=by have:=h.wn;omega
   subst a8;rcases af with e|⟨a1,a2,a3⟩
   ·omega
   ·refine⟨k0h (deed:=(ds.length:Int)) (owner:=ow) ?_ (a0 _ fun _=>pass_own _),a2,d,by simp,a3⟩
    unfold j2l;rw[k4e (deed':=-1) (owner':=0) _ fun j hj=>⟨by omega,by omega⟩]
    exact h.e
 ·have:=h.tot;rw[List.length_append,List.length_singleton];omega
 ·have aa:sumS hs o (ds++[d])=stepS o (sumS hs o ds) d:=by
   unfold sumS;rw[List.foldl_append];rfl
  rw[hg o ho,h.g o ho,aa,q4x _ _ _ ad]
end Go.Proofs.YtmennjmjakdkcaaGreat
namespace Go.Proofs.YtmennjmjakdkcaaGreat
open Go.RowKit
theorem k1i (A:Option Addr) (n c:Nat) (l:List Int) (w:World) (hl:Ints w A n l) (hz:A=none->c=0) (hn:n<=4294967295) :
 Calls Tryz.prog 52 #[.slice A n c] w fun e w'=>∃ v,e=.returned v∧Own eInt 3 1 w' w.heap.size v l∧Below w.heap.size w w':=by
 have HL:=zQ9 (zA9 hl hz);have HB:=zQ9 (bal0 w (Obj.cells #[] 3));have a4:=zQ9 (HL.o.1.below HB.o (zL9 _));have a2:=zQ9 (show Own eInt 3 1 (w.alloc (Obj.cells #[] 3)) w.heap.size (.slice (some ⟨w.heap.size,0,none⟩) 0 0) [] from Own.lit (enc:=eInt) w w.heap.size #[] [] rfl j0n (by omega) (by simp[maxLen]))
 clear hl hz;go_enter Tryz.func52,Tryz.ntmps52
 go_wp2_with (at_builtin;refine j7u j3b rfl (.tmp 3) (.tmp 4) rfl w.heap.size (.slice (some ⟨w.heap.size,0,none⟩) 0 0) [] A n c l rfl rfl a4.o HL.o.2 j0n j1x a2.o ?_ ?_ ?_ ?_;(simp;omega);(omega);(simp);intro v' w5 a0 a1 a3;have HH:=zQ9 (zA9 a0 a3);clear a0 a1 a3)
 go_ret
 have h:=HH.o.1;rw[List.nil_append] at h;exact⟨_,rfl,h,HB.o.trans HH.o.2⟩
theorem j1f (H N:Nat) (lo hi:Int) (w:World) (h:Hd w H N) (hN:N<=4611686018427387904) (h1:-1000000<=lo∧lo<=1000000) (h2:-1000000<=hi∧hi<=1000000) :
 Calls Tryz.prog 50 #[.pointer (some ⟨H,0,none⟩),.int .i64 lo,.int .i64 hi] w fun e w'=>∃ x:Int,e=.returned (.int .i64 x)∧lo<=x∧(x<=hi∨x=lo)∧Dealt w w' H (N+1):=by
 go_enter Tryz.func50,Tryz.ntmps50
 go_wp2_with fail
 refine(j1l H N (hi-lo) _ h hN (by omega)).mono ?_
 rintro e w1 ⟨n,rfl,hn,hd⟩;have a0:(n:Int)<=2000000:=by omega
 go_wp2_with fail
 go_ret
 exact⟨lo+n,rfl,by omega,by omega,hd⟩
theorem q6l (x n:Nat) (w:World) (hx:x<=1000000) (h1:1<=n) (h2:n<=1000000) :
 Calls Tryz.prog 74 #[.int .i64 x,.int .i64 n] w fun e w'=>e=.returned (.int .i64 ((x % n:Nat):Int))∧w=w':=by
 have a0:¬((n:Int)<1):=by omega
 have a3:((n:Int)==0)=false:=beq_eq_false_iff_ne.2 (by omega)
 obtain⟨m,hm⟩:∃ m,m=x % n:=⟨_,rfl⟩;have ht:(x:Int).tmod (n:Int)=(m:Int):=by rw[hm];exact Int.ofNat_tmod x n
 have a2:m<n:=by rw[hm];exact Nat.mod_lt _ (by omega)
 have hw:wrap64 (m:Int)=m:=IntWalk.wrap64_in _ (by omega)
 have a1:¬((m:Int)<0):=by omega
 rw[<-hm];clear hm;go_enter Tryz.func74,Tryz.ntmps74
 go_wp2_with fail
 go_ret
 exact⟨rfl,rfl⟩
theorem q6g {l:List Int} {k:Nat} {x:Int} (h:l[k]?=some x):(l.take (k+1)).sum=(l.take k).sum+x:=by
 rw[List.take_add_one,h];simp
theorem k5k {B:Int} (hB:0<=B):∀ {l:List Int},(∀ x∈l,-B<=x∧x<=B)→-(B*l.length)<=l.sum∧l.sum<=B*l.length
 | [],_=>by simp
 | x::l,h=>by
   have ih:=k5k hB (l:=l) fun y hy=>h y (List.mem_cons_of_mem _ hy)
   have hx:=h x List.mem_cons_self;rw[List.sum_cons,List.length_cons];have:B*((l.length+1:Nat):Int)=B*(l.length:Int)+B:=by rw[Int.natCast_add,Int.mul_add];simp
   omega
theorem q6k (A:Option Addr) (n c:Nat) (l:List Int) (w:World) (hl:Ints w A n l) (hn:n<=100000) (hb:∀ x∈l,-100000<=x∧x<=100000) :
 Calls Tryz.prog 32 #[.slice A n c] w fun e w'=>e=.returned (.int .i64 l.sum)∧w=w':=by
 have a0:=hl.len;have HL:=zQ9 (zA9 hl (zA9 a0 hb));clear hl a0 hb;obtain⟨wo,a1⟩:∃ wo,wo=w:=⟨_,rfl⟩;rw[<-a1];have HW:=zQ9 a1;clear a1;go_enter Tryz.func32,Tryz.ntmps32
 go_wp2_with fail
 go_loopg [3,4] n (fun g v3 v4 wr=>∃ k:Nat,k+g=n∧v4=.int .i64 k∧v3=.int .i64 (l.take k).sum∧wr=wo)
 case atStart=>exact⟨0,by omega,rfl,by simp,rfl⟩
 case round =>
  obtain⟨k,hk,rfl,rfl,rfl⟩:=hrel;by_cases hlt:k<n
  ·obtain⟨b,off,x,rfl,a5,hx,c0⟩:=(HW.o ▸ HL.o.1).get hlt;have a4:=HL.o.2.2 x (zB4 hx);obtain⟨s,hs⟩:∃ s,s=(l.take k).sum:=⟨_,rfl⟩;have a2:=k5k (B:=100000) (by decide) (l:=l.take k) (fun y hy=>HL.o.2.2 y (List.mem_of_mem_take hy))
   have a3:(l.take k).length<=100000:=by rw[List.length_take];omega
   rw[<-hs] at a2 ⊢;have h1:-10000000000<=s∧s<=10000000000:=by omega
   have h2:(k:Int)<(n:Int):=by omega
   have HX:=zQ9 (zA9 hx (zA9 hs hk));clear hx hs a2 a3 hk;go_wp2_with fail
   go_roundg (gk-1)
   case measure=>have:=HX.o.2.2;omega
   case rel=>exact⟨k+1,by have:=HX.o.2.2;omega,by go_num,by rw[q6g HX.o.1,<-HX.o.2.1],rfl⟩
  ·obtain rfl:k=n:=by omega
   have e:l.take k=l:=zB8 (by rw[HL.o.2.1];exact zL9 _)
   rw[e];obtain⟨s,hs⟩:∃ s,s=l.sum:=⟨_,rfl⟩;rw[<-hs];have HS:=zQ9 hs;clear hs;go_wp2_with fail
   go_ret
   exact⟨by rw[<-HS.o];rfl,rfl⟩
def j1y (a b:Value):Prop:=∀ k,a.ownBlock=some k->b.ownBlock≠some k
def EndG (w:World) (base:Nat) (v:Value) (ls:List (List Int)):Prop:=∃ mv,Own eVal 25 1 w base v mv∧Rws w base mv ls∧mv.Pairwise j1y
section
variable {w w':World} {base B:Nat} {v v' u:Value} {ls:List (List Int)} {l:List Int}
theorem EndG.nil_:EndG w base (.slice none 0 0) []:=⟨[],Own.nil_,⟨rfl,fun i v h=>by simp at h⟩,List.Pairwise.nil⟩
theorem EndG.ownG (h:EndG w base v ls):OwnG w base v ls:=by obtain⟨mv,h1,h2,_⟩:=h;exact⟨mv,h1,h2⟩
theorem EndG.map (h:EndG w base v ls) (k1:∀ mv,Own eVal 25 1 w base v mv->Own eVal 25 1 w' base v mv) (k2:∀ u l,OwnI w base u l->OwnI w' base u l):EndG w' base v ls:=by
 obtain⟨mv,h1,⟨h2,h3⟩,h4⟩:=h;exact⟨mv,k1 _ h1,⟨h2,fun i v hv=>by obtain⟨l,hl,ho⟩:=h3 i v hv;exact⟨l,hl,k2 _ _ ho⟩⟩,h4⟩
theorem EndG.below (h:EndG w base v ls) (hb:Below B w w') (hB:w.heap.size<=B):EndG w' base v ls:=h.map (fun _ h=>h.below hb hB) fun _ _ h=>h.below hb hB
theorem EndG.upon (h:EndG w base v ls) (k:∀ j,base<=j->w'.heap[j]?=w.heap[j]?):EndG w' base v ls:=h.map (fun _ h=>h.upon k) fun _ _ h=>h.upon k
theorem Own.row {α:Type} {enc:α->List Value} {e:TypeId} {sz:Nat} {l:List α} {row:Option Nat} (h:Own enc e sz w base v l) (hg:w.grownBy w' row) (hr:∀ k,row=some k->k<base):Own enc e sz w' base v l:=by
 refine h.kept hg ?_;cases hv:v.ownBlock with
 | none=>exact .inl rfl
 | some j=>exact .inr fun e=>by have:=hr j e.symm;have:=h.lt j hv;omega
theorem EndG.grown {row:Option Nat} (h:EndG w base v ls) (hg:w.grownBy w' row) (hr:∀ k,row=some k->k<base):EndG w' base v ls:=h.map (fun _ h=>h.row hg hr) fun _ _ h=>h.row hg hr
theorem EndG.mono {b:Nat} (h:EndG w base v ls) (hb:b<=base):EndG w b v ls:=by
 obtain⟨mv,h1,⟨h2,h3⟩,h4⟩:=h;exact⟨mv,h1.mono hb,⟨h2,fun i v hv=>by obtain⟨l,hl,ho⟩:=h3 i v hv;exact⟨l,hl,ho.mono hb⟩⟩,h4⟩
theorem EndG.snoc {mv:List Value} {b':Nat} (h1:Own eVal 25 1 w base v mv) (h2:Rws w base mv ls) (h4:mv.Pairwise j1y) (hu:OwnI w b' u l) (hb:base<=b') (hf:∀ x∈mv,∀ k,x.ownBlock=some k->k<b')
 (h3:Own eVal 25 1 w' base v' (mv++[u])) (hg:w.grownBy w' v.ownBlock):EndG w' base v' (ls++[l]):=by
 refine⟨mv++[u],h3,⟨by simp[h2.1],fun i x hx=>?_⟩,?_⟩
 ·rcases Nat.lt_or_ge i mv.length with hi|hi
  ·rw[List.getElem?_append_left hi] at hx;obtain⟨l',a0,ho⟩:=h2.2 i x hx;exact⟨l',by rw[List.getElem?_append_left (by rw[<-h2.1];exact hi)];exact a0,ho.kept hg (j0y ho h1 (by decide))⟩
  ·rw[List.getElem?_append_right hi] at hx;have h0:i-mv.length=0:=by
    cases hd:i-mv.length with
    | zero=>rfl
    | succ k=>rw[hd] at hx;simp at hx
   rw[h0] at hx;simp only[List.getElem?_cons_zero,Option.some.injEq] at hx;subst hx;refine⟨l,?_,(hu.kept hg (j0y hu h1 (by decide))).mono hb⟩
   rw[List.getElem?_append_right (by rw[<-h2.1];exact hi),show i-ls.length=0 by rw[<-h2.1];exact h0]
   rfl
 ·rw[List.pairwise_append];refine⟨h4,List.pairwise_singleton _ _,fun x hx y hy k hk e=>?_⟩
  rw[List.mem_singleton.1 hy] at e;have:=hf x hx k hk;have:=hu.lt k e;omega
theorem Own.put1 {A:Option Addr} {n c:Nat} (h:OwnI w base (.slice A n c) l) {o:Nat} (ho:o<l.length) (x:Int) :
 ∃ g,A=some ⟨g,0,none⟩∧base<=g∧g<w.heap.size∧w.cell? ⟨g,o,none⟩=some (.int .i64 (l.getD o 0))∧w.frozen? ⟨g,o,none⟩=false∧OwnI (w.setCell ⟨g,o,none⟩ (.int .i64 x)) base (.slice A n c) (l.set o x):=by
 have a0:∀ x:List Int,x.flatMap eInt=x.map (Value.int .i64):=fun x=>by
  induction x with
  | nil=>rfl
  | cons a r ih=>rw[List.flatMap_cons,ih];rfl
 rcases h.2 with ⟨hv,h0⟩|⟨g,cap,cur,hv,hg,hh,a4,a3,a5,a1⟩
 ·omega
 ·cases hv;have a6:o<c:=by omega
  have hm:(l.flatMap eInt)[o]?=some (Value.int .i64 (l.getD o 0)):=by
   rw[a0,List.getElem?_map,zB5 ho,zB3,zB5 ho];rfl
  have a2:cur[o]?=some (Value.int .i64 (l.getD o 0)):=by
   rw[<-a1,List.getElem?_take_of_lt (by omega),Array.getElem?_toList] at hm
   exact hm
  refine⟨g,rfl,hg,j0a hh,?_,frz hh o,?_⟩
  ·unfold World.cell?;simp[hh,a2]
  ·refine⟨by simp[a0],.inr ⟨g,c,cur.setIfInBounds o (.int .i64 x),by simp,hg,j0g hh,by simpa using a4,a3,by simpa using a5,?_⟩⟩
   rw[Array.toList_setIfInBounds,List.take_set,List.length_set,a1,a0,a0,List.map_set]
theorem j0l (w:World) (g o:Nat) (x:Value):w.grownBy (w.setCell ⟨g,o,none⟩ x) (some g):=⟨rfl,rfl,rfl,by simp,fun j _ hj=>zB1 _ ⟨g,o,none⟩ _ _ (fun e=>hj (by rw[e]))⟩
theorem EndG.at {f o:Nat} (h:EndG w base v ls) (hf:f<ls.length) (hr:o<(ls.getD f []).length) :
 ∃ b off c g cg,v=.slice (some ⟨b,off,none⟩) ls.length c∧w.cell? ⟨b,off+f,none⟩=some (.slice (some ⟨g,0,none⟩) (ls.getD f []).length cg)∧(ls.getD f []).length<=cg∧cg<=maxLen ∧
  base<=g∧g<w.heap.size∧w.cell? ⟨g,o,none⟩=some (.int .i64 ((ls.getD f []).getD o 0))∧w.frozen? ⟨g,o,none⟩=false ∧
  ∀ x,EndG (w.setCell ⟨g,o,none⟩ (.int .i64 x)) base v (ls.set f ((ls.getD f []).set o x)):=by
 obtain⟨mv,h1,⟨h2,h3⟩,h4⟩:=h;have a1:f<mv.length:=by omega
 obtain⟨row,a6,a2⟩:=h3 f mv[f] (zB5 a1);have hg:ls.getD f []=row:=by rw[zB3,a6];rfl
 rw[hg] at hr ⊢;obtain⟨A,c,hv,hs,hc,hm⟩:=h1.form j2t;obtain⟨b,off,x,hA,hb,hx,a3⟩:=Vals.get (hs) a1;have ae:x=mv[f]:=by rw[zB5 a1] at hx;exact(Option.some.inj hx).symm
 subst ae;obtain⟨A',c',a0,ak,a9,ad⟩:=a2.form j0n;obtain⟨g,af,aj,ag,ac,ai,am⟩:=Own.put1 (a0 ▸ a2) hr 0;subst hA af;refine⟨b,off,c,g,c',by rw[hv,h2],by rw[a3,a0],a9,ad,aj,ag,ac,ai,fun y=>?_⟩
 have a8:=j0l w g o (.int .i64 y);have a4:mv[f].ownBlock=some g:=by rw[a0];rcases a2.2 with ⟨e,_⟩|⟨g',cap,cur,e,_⟩<;>rw[a0] at e<;>cases e;rfl
 refine⟨mv,h1.kept a8 ?_,⟨by rw[List.length_set];exact h2,fun i u hu=>?_⟩,h4⟩
 ·rcases j0y a2 h1 (by decide) with e|e
  ·rw[a4] at e;cases e
  ·exact .inr fun e'=>e (a4.trans e'.symm)
 ·by_cases hif:f=i
  ·subst hif;have a5:u=mv[f]:=by rw[zB5 a1] at hu;exact(Option.some.inj hu).symm
   subst a5;refine⟨row.set o y,by rw[List.getElem?_set_self hf],?_⟩
   obtain⟨g',e,_,_,_,_,k⟩:=Own.put1 (a0 ▸ a2) hr y;cases e;rw[a0];exact k
  ·obtain⟨l',aa,ah⟩:=h3 i u hu;refine⟨l',by rw[List.getElem?_set_ne hif];exact aa,ah.kept a8 ?_⟩
   right
   intro e;have a7:i<mv.length:=(List.getElem?_eq_some_iff.1 hu).1;have a5:mv[i]=u:=by rw[zB5 a7] at hu;exact Option.some.inj hu
   rcases Nat.lt_or_gt_of_ne hif with h|h
   ·exact(List.pairwise_iff_getElem.1 h4 f i a1 a7 h) g a4 (by rw[a5];exact e)
   ·exact(List.pairwise_iff_getElem.1 h4 i f a7 a1 h) g (by rw[a5];exact e) a4
end
theorem q2f {w:World} {A:Option Addr} {n:Nat} {gs:List (List Int)} {k:Nat} {l:List Int} (hk:gs[k]?=some l):gs.getD k []=l:=by rw[zB3,hk];rfl
theorem j1z (A:Option Addr) (n c f:Nat) (gs:List (List Int)) (w:World) (hg:Grid w A n gs) (hf:f<n) (hn:n<=1000) (hb:∀ r∈gs,r.length<=1000∧∀ x∈r,-100000<=x∧x<=100000) :
 Calls Tryz.prog 75 #[.slice A n c,.int .i64 f] w fun e w'=>e=.returned (.int .i64 (gs.getD f []).sum)∧w=w':=by
 obtain⟨b,off,B,l,c',rfl,a4,hl,hc,hi,a3,a2⟩:=hg.get hf;have a0:=hb l (zB4 hl);have a1:=q6k B l.length c' l w hi (by omega) a0.2
 rw[q2f (w:=w) (A:=B) (n:=0) hl];obtain⟨s,hs⟩:∃ s,s=l.sum:=⟨_,rfl⟩;rw[<-hs] at a1 ⊢;have h1:(f:Int)<(n:Int):=by omega
 have h2:(n:Int)<=1000:=by omega
 have HX:=zQ9 (zA9 hl (zA9 a0 hs));clear hl a0 hs hg hb hi;go_enter Tryz.func75,Tryz.ntmps75
 go_wp2_with (go_at_call 32;refine a1.mono ?_;rintro e w2 ⟨rfl,rfl⟩)
 go_ret
 exact⟨rfl,rfl⟩
def Holds (row:List Int) (o:Int):Prop:=(o=-1∧∀ x∈row,x<=0)∨∃ k:Nat,o=k∧k<row.length∧0<row.getD k 0
def HoldR (H N:Nat) (row:List Int) (w:World) (e:Ending) (w':World):Prop:=∃ o,e=.returned (.int .i64 o)∧Holds row o∧Dealt w w' H N
theorem k0q (H N:Nat) (A:Option Addr) (n c f:Nat) (gs:List (List Int)) (w:World) (h:Hd w H N) (hN:N<=4611686018427387904) (hg:Grid w A n gs) (hf:f<n) (hn:n<=1000) (hb:∀ r∈gs,r.length<=1000∧∀ x∈r,-100000<=x∧x<=100000) :
 Calls Tryz.prog 73 #[.pointer (some ⟨H,0,none⟩),.slice A n c,.int .i64 f] w (HoldR H (N+1) (gs.getD f []) w):=by
 have ac:=h.lt;obtain⟨b,off,B,l,c',rfl,ar,hl,hc,hi,ax,ao⟩:=hg.get hf;have aa:=hb l (zB4 hl);rw[q2f (w:=w) (A:=B) (n:=0) hl];obtain⟨m,hm⟩:∃ m,m=l.length:=⟨_,rfl⟩;rw[<-hm] at hc hi;have an:m<=1000:=by omega
 have h1:(f:Int)<(n:Int):=by omega
 have h2:(n:Int)<=1000:=by omega
 have HX:=zQ9 (zA9 h (zA9 hc (zA9 hi (zA9 hm aa.2))));clear hl aa hg hb hi hm hc h;go_enter Tryz.func73,Tryz.ntmps73
 go_wp2_with fail
 go_loopg [7,8] m (fun g v7 v8 wr=>∃ k:Nat,k+g=m∧v8=.int .i64 k∧(∃ os:List Int,OwnI wr w.heap.size v7 os∧os.length<=k∧(∀ o∈os,∃ j:Nat,o=j∧j<m∧0<l.getD j 0)∧(os=[]->∀ j,j<k->l.getD j 0<=0))∧Below w.heap.size w wr)
 case atStart=>exact⟨0,by omega,rfl,⟨[],Own.nil_,by simp,by simp,fun _ j hj=>by omega⟩,zB2 _ _⟩
 case round =>
  obtain⟨k,hk,rfl,⟨os,a0,a3,a4,a2⟩,hB⟩:=hrel;have c0:=j0u HX.o.2.1 hB (zL9 _);have aw:=hB.size;by_cases hlt:k<m
  ·obtain⟨b2,aj,x,rfl,ay,hx,c1⟩:=Ints.get (HX.o.2.2.1.below hB (zL9 _)) hlt;have a8:l.getD k 0=x:=by rw[zB3,hx];rfl
   have h3:(k:Int)<(m:Int):=by omega
   have h4:(m:Int)<=1000:=by omega
   have HK:=zQ9 (zA9 hk (zA9 a0 (zA9 a3 (zA9 a4 (zA9 a2 (zA9 hB a8))))));clear hk a0 a3 a4 a2 hB hx a8;by_cases hp:0<x
   ·have az:os.length<4294967296:=by have:=HK.o.2.2.1;omega
    go_wp2_with (at_builtin;refine j6b j3b rfl (.tmp 26) (.tmp 28) rfl w.heap.size _ os (k:Int) _ rfl rfl rfl rfl (j1x _) HK.o.2.1 ?_ ?_ ?_ ?_;(omega);(omega);(omega);intro v' w4 a1 a9 _ aq;have H4:=zQ9 (zA9 a1 a9);clear a1 a9)
    go_roundg (gk-1)
    case measure=>have:=HK.o.1;omega
    case rel =>
     refine⟨k+1,by have:=HK.o.1;omega,by go_num,⟨os++[(k:Int)],H4.o.1,by simpa using HK.o.2.2.1,fun o ho=>?_,fun e=>by simp at e⟩,HK.o.2.2.2.2.2.1.trans H4.o.2⟩
     rcases List.mem_append.1 ho with ho|ho
     ·exact HK.o.2.2.2.1 o ho
     ·exact⟨k,List.mem_singleton.1 ho,by omega,by rw[HK.o.2.2.2.2.2.2];exact hp⟩
   ·go_wp2_with fail
    go_roundg (gk-1)
    case measure=>have:=HK.o.1;omega
    case rel =>
     refine⟨k+1,by have:=HK.o.1;omega,by go_num,⟨os,HK.o.2.1,by have:=HK.o.2.2.1;omega,HK.o.2.2.2.1,fun e j hj=>?_⟩,HK.o.2.2.2.2.2.1⟩
     rcases Nat.lt_or_ge j k with h|h
     ·exact HK.o.2.2.2.2.1 e j h
     ·obtain rfl:j=k:=by omega
      rw[HK.o.2.2.2.2.2.2];omega
  ·obtain rfl:k=m:=by omega
   have a5:Hd wr H N:=HX.o.1.below hB ac;have hD:Dealt w wr H N:=⟨a5,⟨hB.os,hB.tape,hB.output,hB.size,fun j hj _=>hB.block j hj⟩⟩
   obtain⟨A7,c7,rfl,ag,ah,am⟩:=a0.form j0n;have HK:=zQ9 (zA9 a0 (zA9 ag (zA9 a4 (zA9 a2 (zA9 hD a3)))));obtain⟨q,hq⟩:∃ q,q=os.length:=⟨_,rfl⟩;rw[<-hq] at a3 ⊢;have HQ:=zQ9 hq;clear a0 ag a4 a2 hD hq ah;by_cases h0:q=0
   ·subst h0;go_wp2_with fail
    go_ret
    have he:os=[]:=zC1 HQ.o.symm;refine⟨-1,rfl,.inl ⟨rfl,fun x hx=>?_⟩,HK.o.2.2.2.2.1.mono (by omega)⟩
    obtain⟨j,hj⟩:=List.mem_iff_getElem?.1 hx;have:=HK.o.2.2.2.1 he j (by have:=(List.getElem?_eq_some_iff.1 hj).1;have:=HX.o.2.2.2.1;omega)
    rw[zB3,hj] at this;exact this
   ·have h5:(q:Int)<=1000:=by omega
    have h6:((q:Int)==0)=false:=beq_eq_false_iff_ne.2 (by omega)
    have a7:=j1l H N ((q:Int)-1) wr a5 hN (by omega)
    have HU:=zQ9 a7;clear a7 a5;go_wp2_with fail
    refine HU.o.mono ?_;rintro e w1 ⟨r,rfl,hr,hd⟩;have ak:r<q:=by omega
    have a6:Ints w1 A7 q os:=by
     have:=HK.o.2.1;rw[<-HQ.o] at this;refine(HK.o.1.row hd.gr (fun k e=>by cases e;exact ac)).form j0n |>.elim fun A8 h=>?_
     obtain⟨c8,e8,s8,_⟩:=h;cases e8;rw[<-HQ.o] at s8;exact s8
    obtain⟨b3,ai,y,rfl,av,hy,c3⟩:=a6.get ak;obtain⟨j,ae,af,ad⟩:=HK.o.2.2.1 y (zB4 hy);have h7:(r:Int)<(q:Int):=by omega
    have HY:=zQ9 (zA9 hd (zA9 ae (zA9 af ad)));clear hd ae af ad a6 hr;go_wp2_with fail
    go_ret
    exact⟨y,rfl,.inr ⟨j,HY.o.2.1,by rw[<-HX.o.2.2.2.1];exact HY.o.2.2.1,HY.o.2.2.2⟩,HK.o.2.2.2.2.1.trans HY.o.1⟩
theorem j6i {x:Value} (h:x.oneCell'=true):∀ u∈eVal x,u.oneCell'=true:=by
 intro u hu;simp[eVal] at hu;subst hu;exact h
theorem Grid.len {w:World} {A:Option Addr} {n:Nat} {ls:List (List Int)} (h:Grid w A n ls):ls.length=n:=by
 obtain⟨mv,h1,h2,_⟩:=h;rw[<-h2];exact h1.len
theorem k7z (A:Option Addr) (n c:Nat) (x:List (List Int)) (B:Option Addr) (m d:Nat) (y:List (List Int)) (w:World) (hx:Grid w A n x) (hy:Grid w B m y) (hn:n<=maxLen) (hm:m<=maxLen) :
 Calls Tryz.prog 69 #[.slice A n c,.slice B m d] w fun e w'=>e=.returned (.bool (j1j x y))∧Below w.heap.size w w':=by
 have HL:=zQ9 (zA9 hx.len hy.len);have a5:=zQ9 (zA9 hx hy);unfold maxLen at hn hm;clear hx hy;by_cases hnm:n=m
 ·subst hnm;have h0:(n != n)=false:=by simp
  have ah:((n:Int) != (n:Int))=false:=by simp
  go_enter Tryz.func69,Tryz.ntmps69
  go_wp2_with fail
  go_loopg [5] n (fun g i wr=>∃ k:Nat,k+g=n∧i=.int .i64 k∧x.take k=y.take k∧Below w.heap.size w wr)
  case atStart=>exact⟨0,by omega,rfl,by simp,zB2 _ _⟩
  case round =>
   obtain⟨k,hk,rfl,a9,a1⟩:=hrel;have HK:=zQ9 (zA9 hk a9);have am:k<=n:=by omega
   clear hk a9;by_cases hlt:k<n
   ·obtain⟨b0,o0,C0,u,c0,rfl,an,hu,p0,a8,af,ad⟩:=Grid.get (a5.o.1.below a1 (zL9 _)) hlt;obtain⟨b1,o1,C1,v,c1,rfl,ao,hv,q0,a7,ag,aa⟩:=Grid.get (a5.o.2.below a1 (zL9 _)) hlt;have i0:(0:Int)<=(k:Int):=by omega
    have i1:(k:Int)<(n:Int):=by omega
    have a2:=zQ9 (zA9 hu hv);have aj:u.length<=maxLen:=zB6 af ad;have ac:v.length<=maxLen:=zB6 ag aa;have cS:∀ d os,Calls Tryz.prog 48 #[.slice C0 u.length c0,.slice C1 v.length c1] (Sort.grow (redrawn wr d) os) (fun e w''=>e=.returned (.bool (j1j u v))∧∃ p:Regrown,w''=Sort.grow (redrawn wr p.d) p.os):=fun d os =>
     Calls.regrown_of (j8l C0 u.length c0 u C1 v.length c1 v _ (a8.below (below_regrown wr d os) (zL9 _)) (a7.below (below_regrown wr d os) (zL9 _)) aj ac)
    clear hu hv a8 a7;cases huv:j1j u v
    all_goals
     rw[huv] at cS;have HC:=zQ9 cS;have HE:=zQ9 huv;clear cS huv;go_upto_region 6 with (fail)
     have k0:=cell_regrown p0;have k1:=cell_regrown q0;refine wp_region_quiet_below (by kernel_rfl) (by kernel_rfl) ?_
     repeat (quiet_step (exact HC.o _ _))
     refine wpQuiet_nil ?_;intro _ ae;obtain⟨⟨dq,a6⟩,a4⟩:=ae;subst a4;obtain⟨w3,a3⟩:∃ w3,w3=Sort.grow (redrawn wr dq) a6:=⟨_,rfl⟩;have ai:Below wr.heap.size wr w3:=by rw[a3];exact below_regrown wr dq a6
     rw[<-a3];have a0:=a1.trans (ai.mono a1.size);clear a3 k0 k1 p0 q0;go_wp2
    ·go_ret
     exact⟨j0s (by unfold j1j;rw[decide_eq_false (j8d a2.o.1 a2.o.2 (by have:=HE.o;unfold j1j at this;simpa using this))]),a0⟩
    ·go_roundg (gk-1)
     case measure=>have:=HK.o.1;omega
     case rel=>exact⟨k+1,by have:=HK.o.1;omega,by go_num,j4l HK.o.2 a2.o.1 a2.o.2 (by have:=HE.o;unfold j1j at this;simpa using this),a0⟩
   ·obtain rfl:k=n:=by omega
    go_wp2
    go_ret
    refine⟨j0s ?_,a1⟩;have h1:=HK.o.2;rw[zB8 (by have:=HL.o.1;omega),zB8 (by have:=HL.o.2;omega)] at h1
    unfold j1j;rw[decide_eq_true h1]
 ·have ah:((n:Int) != (m:Int))=true:=by simp;omega
  have ak:=zQ9 hnm;clear hnm;go_enter Tryz.func69,Tryz.ntmps69
  go_wp2
  go_ret
  refine⟨j0s ?_,zB2 _ _⟩;unfold j1j;rw[decide_eq_false (fun h=>ak.o (by rw[<-HL.o.1,<-HL.o.2,h]))]
section
variable {α:Type} {enc:α->List Value} {e te:TypeId} {sz:Nat} {w w':World} {base B:Nat} {v v' u:Value} {mv:List Value} {ls:List (List α)} {l:List α}
def RwsA (enc:α->List Value) (e:TypeId) (sz:Nat) (w:World) (base:Nat) (mv:List Value) (ls:List (List α)):Prop :=
 mv.length=ls.length∧∀ (i:Nat) v,mv[i]?=some v->∃ l,ls[i]?=some l∧Own enc e sz w base v l
def OwnA (enc:α->List Value) (e te:TypeId) (sz:Nat) (w:World) (base:Nat) (v:Value) (ls:List (List α)):Prop:=∃ mv,Own eVal te 1 w base v mv∧RwsA enc e sz w base mv ls
theorem OwnA.nil_:OwnA enc e te sz w base (.slice none 0 0) []:=⟨[],Own.nil_,rfl,fun i v h=>by simp at h⟩
theorem OwnA.below (h:OwnA enc e te sz w base v ls) (hb:Below B w w') (hB:w.heap.size<=B):OwnA enc e te sz w' base v ls:=by
 obtain⟨mv,h1,h2,h3⟩:=h;exact⟨mv,h1.below hb hB,h2,fun i v hv=>by obtain⟨l,hl,ho⟩:=h3 i v hv;exact⟨l,hl,ho.below hb hB⟩⟩
theorem OwnA.alloc (h:OwnA enc e te sz w base v ls) (o:Obj):OwnA enc e te sz (w.alloc o) base v ls:=h.below (bal0 w o) (zL9 _)
theorem OwnA.mono {b:Nat} (h:OwnA enc e te sz w base v ls) (hb:b<=base):OwnA enc e te sz w b v ls:=by
 obtain⟨mv,h1,h2,h3⟩:=h;exact⟨mv,h1.mono hb,h2,fun i v hv=>by obtain⟨l,hl,ho⟩:=h3 i v hv;exact⟨l,hl,ho.mono hb⟩⟩
theorem OwnA.map {w':World} (h:OwnA enc e te sz w base v ls) (k1:∀ mv,Own eVal te 1 w base v mv->Own eVal te 1 w' base v mv) (k2:∀ u l,Own enc e sz w base u l->Own enc e sz w' base u l):OwnA enc e te sz w' base v ls:=by
 obtain⟨mv,h1,h2,h3⟩:=h;exact⟨mv,k1 _ h1,h2,fun i v hv=>by obtain⟨l,hl,ho⟩:=h3 i v hv;exact⟨l,hl,k2 _ _ ho⟩⟩
theorem OwnA.snoc (a0:e≠te) (h1:Own eVal te 1 w base v mv) (h2:RwsA enc e sz w base mv ls) (hu:Own enc e sz w base u l)
 (h3:Own eVal te 1 w' base v' (mv++[u])) (hg:w.grownBy w' v.ownBlock):OwnA enc e te sz w' base v' (ls++[l]):=by
 refine⟨mv++[u],h3,by simp[h2.1],fun i x hx=>?_⟩
 rcases Nat.lt_or_ge i mv.length with hi|hi
 ·rw[List.getElem?_append_left hi] at hx;obtain⟨l',a1,ho⟩:=h2.2 i x hx;exact⟨l',by rw[List.getElem?_append_left (by rw[<-h2.1];exact hi)];exact a1,ho.kept hg (j0y ho h1 a0)⟩
 ·rw[List.getElem?_append_right hi] at hx;have h0:i-mv.length=0:=by
   cases hd:i-mv.length with
   | zero=>rfl
   | succ k=>rw[hd] at hx;simp at hx
  rw[h0] at hx;simp only[List.getElem?_cons_zero,Option.some.injEq] at hx;subst hx;refine⟨l,?_,hu.kept hg (j0y hu h1 a0)⟩;rw[List.getElem?_append_right (by rw[<-h2.1];exact hi),show i-ls.length=0 by rw[<-h2.1];exact h0]
  rfl
theorem q1n {P:Program} {tt:TypeId} (E:ElemOk P tt te 1 24) (a6:e≠te) {ops:Array Oper} {rest:List Oper} {o:Oper} {a:Act} {Q:Exit->Act->World->Prop} {w:World}
 (a3:o.guard=none) (s x:Operand) (ho:o.op=.call { callee:=.builtin .append,args:=#[s,x],argTypes:=#[tt,tt] })
 (base:Nat) (v u:Value) (ls:List (List α)) (l:List α) (hs:a.eval s=v) (hx:a.eval x=.slice (some ⟨w.heap.size,0,none⟩) 1 1)
 (a1:OwnA enc e te sz w base v ls) (hu:Own enc e sz w base u l) (a4:ls.length<4294967296) (a0:base<=w.heap.size)
 (h:∀ v' w',OwnA enc e te sz w' base v' (ls++[l])->Below base w w'->(∀ (k:Nat) cs T,T≠te->w.heap[k]?=some (.cells cs T (0,0))->w'.heap[k]?=some (.cells cs T (0,0)))->wpList P ops Q rest (a.put o.dst v') w') :
 wpList P ops Q (o::rest) a (w.alloc (.cells #[u] te)):=by
 obtain⟨mv,h1,h2⟩:=a1;have a2:u.oneCell'=true:=by
  rcases hu.2 with ⟨rfl,_⟩|⟨g,cap,cur,rfl,_⟩<;>rfl
 refine j9x (P:=P) E a3 s x ho base v mv u #[u] hs hx rfl rfl (j6i a2) h1 (by rw[h2.1];exact a4) (by decide) a0 ?_
 intro g' cap w' a5 hg hb;refine h _ _ (OwnA.snoc a6 h1 h2 hu a5 hg) hb fun k cs T hT hk=>(hg.block k (j0a hk) fun e=>?_).trans hk
 rcases h1.2 with ⟨rfl,_⟩|⟨g,cap,cur,rfl,_,k2,_⟩
 ·cases e
 ·simp only[Value.ownBlock,Option.some.injEq] at e;subst e;rw[k2] at hk;cases hk;exact hT rfl
def j2u (enc:α->List Value) (sz:Nat) (w:World) (A:Option Addr) (n:Nat) (ls:List (List α)):Prop :=
 ∃ mv,Sl eVal 1 w A n mv∧mv.length=ls.length∧∀ (i:Nat) v,mv[i]?=some v->∃ B l c,ls[i]?=some l∧v=.slice B l.length c∧Sl enc sz w B l.length l∧l.length<=c∧c<=maxLen
theorem OwnA.form (a0:∀ x,(enc x).length=sz) (h:OwnA enc e te sz w base v ls):∃ A c,v=.slice A ls.length c∧j2u enc sz w A ls.length ls∧ls.length<=c∧c<=maxLen:=by
 obtain⟨mv,h1,h2,h3⟩:=h;obtain⟨A,c,hv,hs,hc,hm⟩:=h1.form j2t;rw[h2] at hv hs hc;refine⟨A,c,hv,⟨mv,hs,h2,fun i v hv=>?_⟩,hc,hm⟩
 obtain⟨l,hl,ho⟩:=h3 i v hv;obtain⟨B,c',a1,a2,a3,a4⟩:=ho.form a0;exact⟨B,l,c',hl,a1,a2,a3,a4⟩
theorem j2u.below {A:Option Addr} {n:Nat} (h:j2u enc sz w A n ls) (hb:Below B w w') (hB:w.heap.size<=B):j2u enc sz w' A n ls:=by
 obtain⟨mv,h1,h2,h3⟩:=h;exact⟨mv,h1.below hb hB,h2,fun i v hv=>by
  obtain⟨C,l,c,a1,a2,a3,a4,a5⟩:=h3 i v hv;exact⟨C,l,c,a1,a2,a3.below hb hB,a4,a5⟩⟩
theorem j2u.get {A:Option Addr} {n:Nat} (h:j2u enc sz w A n ls) {k:Nat} (hk:k<n) :
 ∃ b off B l c,A=some ⟨b,off,none⟩∧b<w.heap.size∧ls[k]?=some l∧w.cell? ⟨b,off+k,none⟩=some (.slice B l.length c)∧Sl enc sz w B l.length l∧l.length<=c∧c<=maxLen:=by
 obtain⟨mv,h1,h2,h3⟩:=h;obtain⟨b,off,x,hA,hb,hx,hc⟩:=Vals.get h1 hk;obtain⟨B,l,c,a1,a2,a3,a4,a5⟩:=h3 k x hx;subst a2;exact⟨b,off,B,l,c,hA,hb,a1,hc,a3,a4,a5⟩
end
end Go.Proofs.YtmennjmjakdkcaaGreat
