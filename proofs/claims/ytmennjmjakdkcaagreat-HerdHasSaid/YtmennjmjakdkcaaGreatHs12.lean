/- HerdHas. -/
import Derived.Test.YtmennjmjakdkcaaGreatHs08
set_option linter.unusedVariables false
set_option linter.unusedSimpArgs false
set_option maxRecDepth 100000
set_option maxHeartbeats 2000000
namespace Go.Proofs.YtmennjmjakdkcaaGreat
structure Sm where
 first:Int
 born:Int
 bought:Int
 sold:Int
 eaten:Int
 deriving DecidableEq
def j1f (o:Int) (s:Sm) (d:De):Sm :=
 if d.owner=o∧d.kind=1 then { s with born:=s.born+d.many }
 else if d.owner=o∧d.kind=2 then { s with sold:=s.sold+d.many }
 else if d.owner=o∧d.kind=3 then { s with eaten:=s.eaten+d.many }
 else if d.kind=2∧d.other=o then { s with bought:=s.bought+d.many } else s
def sumS (hs:List (List Int)) (o:Nat) (ds:List De):Sm:=ds.foldl (j1f o) ⟨j0s (j0j hs) o,0,0,0,0⟩
def hasS (s:Sm):Int:=s.first+s.born+s.bought-s.sold-s.eaten
theorem k1r (hs:List (List Int)) (o:Nat) (ds:List De) {k:Nat} {d:De} (h:ds[k]?=some d):sumS hs o (ds.take (k+1))=j1f o (sumS hs o (ds.take k)) d:=by
 unfold sumS
 rw[List.take_add_one,h,List.foldl_append]
 rfl
def j7d (o:Int) (d:De):Int:=(if d.kind=1∧d.owner=o then d.many else 0)+(if d.kind=2∧d.other=o then d.many else 0)-(if d.kind=2∧d.owner=o then d.many else 0)-(if d.kind=3∧d.owner=o then d.many else 0)
theorem q3x (o:Int) (s:Sm) (d:De) (h:d.kind=2→d.owner≠d.other):hasS (j1f o s d)=hasS s+j7d o d:=by
 unfold j1f j7d hasS
 by_cases h1:d.kind=1
 ·by_cases h2:d.owner=o<;>simp[h1,h2]<;>omega
 ·by_cases h3:d.kind=2
  ·have hne:=h h3
   by_cases h2:d.owner=o
   ·have:d.other≠o:=fun e=>hne (h2.trans e.symm)
    simp[h3,h2,this];omega
   ·by_cases h4:d.other=o<;>simp[h3,h2,h4]<;>omega
  ·by_cases h4:d.kind=3
   ·by_cases h2:d.owner=o<;>simp[h4,h2]<;>omega
   ·simp[h1,h3,h4]
def htot (h:List Int):Int:=hall h 0+hall h 1+hall h 2
theorem lt3 {f:Nat} (h:f<3):f=0∨f=1∨f=2:=by omega
theorem lt5 {f:Nat} (h:f<5):f=0∨f=1∨f=2∨f=3∨f=4:=by omega
theorem j3g {h:List Int} (hl:h.length=15) {f o o':Nat} {k:Int} (hf:f<3) (ho:o<5) (ho':o'<5):j0s (hadd h f o k) o'=j0s h o'+if o=o' then k else 0:=by
 unfold j0s
 rw[j0m hl hf ho ho',j0m hl hf ho ho',j0m hl hf ho ho']
 by_cases e:o=o'
 ·subst e
  rcases lt3 hf with rfl|rfl|rfl<;>simp<;>omega
 ·simp[e]
theorem j8s {h:List Int} (hl:h.length=15) {f o f':Nat} {k:Int} (hf:f<3) (ho:o<5):hall (hadd h f o k) f'=hall h f'+if f=f' then k else 0:=by
 unfold hall
 rw[j0m hl hf ho (by omega),j0m hl hf ho (by omega),j0m hl hf ho (by omega),j0m hl hf ho (by omega),j0m hl hf ho (by omega)]
 by_cases e:f=f'
 ·subst e
  rcases lt5 ho with rfl|rfl|rfl|rfl|rfl<;>simp<;>omega
 ·simp[e]
theorem j3y {h:List Int} (hl:h.length=15) {f o:Nat} {k:Int} (hf:f<3) (ho:o<5):htot (hadd h f o k)=htot h+k:=by
 unfold htot
 rw[j8s hl hf ho,j8s hl hf ho,j8s hl hf ho]
 rcases lt3 hf with rfl|rfl|rfl<;>simp<;>omega
theorem j4v {h:List Int} {f o:Nat} {k:Int} (hl:h.length=15):(hadd h f o k).length=15:=by unfold hadd;rw[List.length_set];exact hl
theorem j4u {α β:Type} {f:α→List β} {c:Nat}:∀ {l:List α},(∀ x∈l,(f x).length≤c)→(l.flatMap f).length≤l.length*c
 | [],_=>by simp
 | x::l,h=>by
   rw[List.flatMap_cons,List.length_append,List.length_cons]
   have h1:=h x List.mem_cons_self
   have h2:=j4u (l:=l) fun y hy=>h y (List.mem_cons_of_mem _ hy)
   rw[Nat.add_mul]
   omega
theorem k6j {n f:Nat}:∀ (j:Nat) (h:List Int) (m c:Nat),m≤c→(j1a n f j h m).length≤(c+1) ^ j
 | 0,h,m,c,hc=>by unfold j1a;split<;>simp
 | j+1,h,m,c,hc=>by
   have hp:0<(c+1) ^ j:=Nat.pow_pos (by omega)
   unfold j1a
   split
   ·have:0<(c+1) ^ (j+1):=Nat.pow_pos (by omega)
    simp only[List.length_cons,List.length_nil]
    omega
   ·refine Nat.le_trans (j4u (c:=(c+1) ^ j) fun k hk=>?_) ?_
    ·cases mvd h f (n-(j+1)) (-(k:Int)) with
     | none=>exact Nat.zero_le _
     | some x=>exact k6j j x (m-k) c (by omega)
    ·rw[List.length_range,Nat.pow_succ,Nat.mul_comm]
     exact Nat.mul_le_mul_left _ (by omega)
theorem k8b:∀ l:List (List Int),(ddup l).length≤l.length
 | []=>by simp[ddup]
 | x::l=>by
   have:=k8b l
   unfold ddup
   split
   ·simp;omega
   ·simp;omega
theorem succ_len {t:Int} {l:List Mk} {pass:Int→Bool} {d:De} {h:List Int} {nf:Nat} (hl5:l.length≤5) (hd:DeIn l.length nf d):(succ t l pass d h).length≤1024:=by
 have hm:=hd.m
 unfold succ
 split
 ·simp
 split
 ·cases mvd h d.flock.toNat d.owner.toNat (-d.many)<;>simp
 split
 ·cases mvd h d.flock.toNat d.owner.toNat (-d.many)<;>simp
 split
 ·rename_i h4
  have:=hd.l h4
  refine Nat.le_trans (k6j l.length h d.many.toNat 3 (by omega)) ?_
  have e:∀ n:Fin 6,(3+1) ^ n.1≤1024:=by decide
  exact e ⟨l.length,by omega⟩
 split
 ·unfold j4f
  refine Nat.le_trans (j4u (c:=1) fun o _=>?_) ?_
  ·cases mvd h d.flock.toNat o.toNat (-1)<;>simp
  ·have h1:=List.length_filter_le pass (mayL t l d.s)
   have h2:=k1h t l d.s l.length
   unfold mayL at *
   omega
 split<;>simp
theorem k4a {t:Int} {l:List Mk} {hs:List (List Int)} {ds:List De} {deed owner:Int} {nf:Nat} (hl5:l.length≤5) (hd:∀ d∈ds,DeIn l.length nf d):∀ i,(j1d t l hs ds deed owner i).length≤1024 ^ i
 | 0=>by simp[j1d]
 | i+1=>by
   unfold j1d
   refine Nat.le_trans (k8b _) (Nat.le_trans (j4u (c:=1024) fun h _=>?_) ?_)
   ·cases hi:ds[i]? with
    | none=>exact Nat.zero_le _
    | some d=>exact succ_len hl5 (hd d (List.mem_of_getElem? hi))
   ·rw[Nat.pow_succ]
    exact Nat.mul_le_mul_right _ (k4a hl5 hd i)
theorem q3l {t:Int} {l:List Mk} {ks:List Int} {hs:List (List Int)} {ds:List De} {deed owner:Int} (h:HeOk t l ks hs ds):(j2l t l hs ds deed owner).length≤1152921504606846976:=by
 refine Nat.le_trans (k4a h.n5 h.dI ds.length) ?_
 refine Nat.le_trans (Nat.pow_le_pow_right (by omega) h.d6) (by decide)
def getG (gs:List (List Int)) (f o:Nat):Int:=(gs.getD f []).getD o 0
def addG (gs:List (List Int)) (f o:Nat) (k:Int):List (List Int):=gs.set f ((gs.getD f []).set o (getG gs f o+k))
structure GSh (n nf:Nat) (gs:List (List Int)):Prop where
 l:gs.length=nf
 r:∀ r∈gs,r.length=n
theorem GSh.row {n nf:Nat} {gs:List (List Int)} (h:GSh n nf gs) {f:Nat} (hf:f<nf):(gs.getD f []).length=n:=by
 rw[List.getD_eq_getElem?_getD,List.getElem?_eq_getElem (by rw[h.l];exact hf),Option.getD_some]
 exact h.r _ (List.getElem_mem _)
theorem GSh.add {n nf:Nat} {gs:List (List Int)} (h:GSh n nf gs) {f:Nat} (hf:f<nf) (o:Nat) (k:Int):GSh n nf (addG gs f o k):=by
 refine⟨by unfold addG;rw[List.length_set];exact h.l,fun r hr=>?_⟩
 rcases List.mem_or_eq_of_mem_set hr with hr|rfl
 ·exact h.r r hr
 ·rw[List.length_set];exact h.row hf
theorem k1c (gs:List (List Int)) {i:Nat} (hi:i<15):(j0j gs)[i]?=some (getG gs (i / 5) (i % 5)):=by
 unfold j0j getG
 rw[List.getElem?_map,List.getElem?_range hi]
 rfl
theorem j0w (gs:List (List Int)) {f o:Nat} (hf:f<3) (ho:o<5):hget (j0j gs) f o=getG gs f o:=by
 unfold hget
 rw[List.getD_eq_getElem?_getD,k1c gs (by omega),show(5*f+o) / 5=f by omega,show(5*f+o) % 5=o by omega]
 rfl
theorem j7z (gs:List (List Int)):(j0j gs).length=15:=by simp[j0j]
theorem j1k {n nf:Nat} {gs:List (List Int)} (h:GSh n nf gs) (hn:n≤5) (hnf:nf≤3) {f o:Nat} (hf:f<nf) (ho:o<n) (k:Int):j0j (addG gs f o k)=hadd (j0j gs) f o k:=by
 have hrl:=h.row hf
 have hfl:f<gs.length:=by rw[h.l];exact hf
 apply List.ext_getElem?
 intro i
 unfold hadd
 by_cases hi:i<15
 ·rw[k1c _ hi,List.getElem?_set,j7z]
  by_cases e:5*f+o=i
  ·rw[if_pos e,if_pos (by omega),←e,show(5*f+o) / 5=f by omega,show(5*f+o) % 5=o by omega,j0w gs (by omega) (by omega)]
   unfold getG addG
   rw[List.getD_eq_getElem?_getD,List.getD_eq_getElem?_getD (l:=gs.set _ _),List.getElem?_set_self hfl,Option.getD_some,List.getElem?_set_self (by omega)]
   rfl
  ·rw[if_neg e,k1c _ hi]
   congr 1
   unfold getG addG
   by_cases ef:f=i / 5
   ·subst ef
    have eo:o≠i % 5:=by omega
    rw[List.getD_eq_getElem?_getD (l:=gs.set _ _),List.getElem?_set_self hfl,Option.getD_some,List.getD_eq_getElem?_getD,List.getElem?_set_ne eo,List.getD_eq_getElem?_getD (l:=gs.getD _ _)]
   ·rw[List.getD_eq_getElem?_getD (l:=gs.set _ _),List.getElem?_set_ne ef,←List.getD_eq_getElem?_getD (l:=gs)]
 ·rw[List.getElem?_eq_none (by rw[j7z];omega),List.getElem?_eq_none (by rw[List.length_set,j7z];omega)]
theorem sum5 {l:List Int} (h:l.length≤5):l.sum=l.getD 0 0+l.getD 1 0+l.getD 2 0+l.getD 3 0+l.getD 4 0:=by
 match l,h with
 | [],_=>simp
 | [a],_=>simp
 | [a,b],_=>simp
 | [a,b,c],_=>simp;omega
 | [a,b,c,d],_=>simp;omega
 | [a,b,c,d,e],_=>simp;omega
 | _::_::_::_::_::_::_,h=>simp at h
theorem j9k {gs:List (List Int)} {f:Nat} (hf:f<3) (hl:(gs.getD f []).length≤5):(gs.getD f []).sum=hall (j0j gs) f:=by
 rw[sum5 hl]
 unfold hall
 rw[j0w gs hf (by omega),j0w gs hf (by omega),j0w gs hf (by omega),j0w gs hf (by omega),j0w gs hf (by omega)]
 rfl
theorem k2i {t:Int} {l:List Mk} {hs:List (List Int)} {ds:List De} {d:De} {deed owner:Int}:∀ i,i≤ds.length→j1d t l hs (ds++[d]) deed owner i=j1d t l hs ds deed owner i
 | 0,_=>rfl
 | i+1,hi=>by
   unfold j1d
   rw[k2i i (by omega),List.getElem?_append_left (by omega)]
theorem j9x {t:Int} {l:List Mk} {hs:List (List Int)} {ds:List De} {d:De} {deed owner:Int} {x h:List Int} (hh:h∈j2l t l hs ds deed owner) (hx:x∈succ t l (j1s deed owner ds.length) d h):x∈j2l t l hs (ds++[d]) deed owner:=by
 unfold j2l at hh ⊢
 rw[List.length_append]
 refine(j9y (i:=ds.length) (d:=d) (by simp) x).2 ⟨h,?_,hx⟩
 rw[k2i _ (zL9 _)]
 exact hh
theorem k3z {t:Int} {l:List Mk} {hs:List (List Int)} {ds:List De} {deed owner deed' owner':Int}:∀ i:Nat,(∀ j:Nat,j<i→(j:Int)≠deed∧(j:Int)≠deed')→j1d t l hs ds deed owner i=j1d t l hs ds deed' owner' i
 | 0,_=>rfl
 | i+1,h=>by
   unfold j1d
   rw[k3z i fun j hj=>h j (by omega)]
   have e:j1s deed owner i=j1s deed' owner' i:=by
    funext o
    unfold j1s
    have:=h i (by omega)
    rw[decide_eq_false this.1,decide_eq_false this.2]
    rfl
   rw[e]
theorem k8w {deed owner:Int} {i:Nat} (h:(i:Int)≠deed) (o:Int):j1s deed owner i o=true:=by unfold j1s;rw[decide_eq_false h];rfl
theorem pass_own {deed:Int} {i:Nat} (o:Int):j1s deed o i o=true:=by unfold j1s;simp
theorem q3u {h:List Int} (hl:h.length=15) {f o o':Nat} {k k':Int} (hf:f<3) (ho:o<5) (ho':o'<5) (hne:o≠o'):hadd (hadd h f o k) f o' k'=hadd (hadd h f o' k') f o k:=by
 unfold hadd
 have e1:hget (h.set (5*f+o) (hget h f o+k)) f o'=hget h f o':=by rw[show hget (h.set (5*f+o) (hget h f o+k)) f o'=_ from k0e hl hf ho ho',if_neg (by omega)];rfl
 have e2:hget (h.set (5*f+o') (hget h f o'+k')) f o=hget h f o:=by rw[show hget (h.set (5*f+o') (hget h f o'+k')) f o=_ from k0e hl hf ho' ho,if_neg (by omega)];rfl
 rw[e1,e2,List.set_comm _ _ (by omega)]
theorem q3v {h:List Int} (hl:h.length=15) {f o:Nat} {k k':Int} (hf:f<3) (ho:o<5):hadd (hadd h f o k) f o k'=hadd h f o (k+k'):=by
 unfold hadd
 have e1:hget (h.set (5*f+o) (hget h f o+k)) f o=hget h f o+k:=by rw[show hget (h.set (5*f+o) (hget h f o+k)) f o=_ from k0e hl hf ho ho,if_pos ⟨rfl,rfl⟩]
 rw[e1,List.set_set,Int.add_assoc]
theorem k6c {h:List Int} (hl:h.length=15) {f o:Nat} (hf:f<3) (ho:o<5):hadd h f o 0=h:=by
 unfold hadd hget
 rw[Int.add_zero,List.getD_eq_getElem?_getD,List.getElem?_eq_getElem (by omega),Option.getD_some,List.set_getElem_self]
theorem j4n {n f:Nat} (j:Nat) (h:List Int):j1a n f j h 0=[h]:=by cases j<;>simp[j1a]
theorem j7g {n f j m k:Nat} {h x:List Int} (hl:h.length=15) (hf:f<3) (hq:n-(j+1)<5) (hk:k≤m) (h0:0≤hget h f (n-(j+1))+-(k:Int)) (hx:x∈j1a n f j (hadd h f (n-(j+1)) (-(k:Int))) (m-k)):x∈j1a n f (j+1) h m:=by
 unfold j1a
 by_cases hm:m=0
 ·subst hm
  obtain rfl:k=0:=by omega
  rw[if_pos rfl]
  rw[j4n] at hx
  simp at hx
  rw[hx,k6c hl hf hq]
  simp
 ·rw[if_neg hm]
  refine List.mem_flatMap.2 ⟨k,List.mem_range.2 (by omega),?_⟩
  unfold mvd
  rw[if_pos h0]
  exact hx
theorem k0i {n f:Nat} (hf:f<3) (hn:n≤5):∀ (j:Nat) (h:List Int) (m o:Nat) (x:List Int),j≤n→h.length=15→(∀ o,o<5→0≤hget h f o)→n-j≤o→o<n→0<hget h f o→x∈j1a n f j (hadd h f o (-1)) m→x∈j1a n f j h (m+1)
 | 0,h,m,o,x,hj,hl,hnn,h1,h2,hp,hx=>by omega
 | j+1,h,m,o,x,hj,hl,hnn,h1,h2,hp,hx=>by
   have hq5:n-(j+1)<5:=by omega
   have ho5:o<5:=by omega
   by_cases e:o=n-(j+1)
   ·subst e
    by_cases hm:m=0
    ·subst hm
     rw[j4n] at hx
     simp at hx
     subst hx
     refine j7g hl hf hq5 (k:=1) (by omega) (by omega) ?_
     rw[j4n]
     simp
    ·unfold j1a at hx
     rw[if_neg hm] at hx
     obtain⟨k,hk,hx⟩:=List.mem_flatMap.1 hx
     have hkm:k≤m:=by have:=List.mem_range.1 hk;omega
     cases hmv:mvd (hadd h f (n-(j+1)) (-1)) f (n-(j+1)) (-(k:Int)) with
     | none=>rw[hmv] at hx;cases hx
     | some y =>
       rw[hmv] at hx
       obtain⟨h0,rfl⟩:=j5d hmv
       rw[j0m hl hf ho5 ho5,if_pos ⟨rfl,rfl⟩] at h0
       rw[q3v hl hf ho5] at hx
       refine j7g hl hf hq5 (k:=k+1) (by omega) (by omega) ?_
       rw[show -((k+1:Nat):Int)=-1+-(k:Int) by omega,show m+1-(k+1)=m-k by omega]
       exact hx
   ·by_cases hm:m=0
    ·subst hm
     rw[j4n] at hx
     simp at hx
     subst hx
     refine j7g hl hf hq5 (k:=0) (by omega) (by have:=hnn _ hq5;omega) ?_
     rw[show -((0:Nat):Int)=0 from rfl,k6c hl hf hq5]
     exact k0i hf hn j h 0 o _ (by omega) hl hnn (by omega) h2 hp (by rw[j4n];simp)
    ·unfold j1a at hx
     rw[if_neg hm] at hx
     obtain⟨k,hk,hx⟩:=List.mem_flatMap.1 hx
     have hkm:k≤m:=by have:=List.mem_range.1 hk;omega
     cases hmv:mvd (hadd h f o (-1)) f (n-(j+1)) (-(k:Int)) with
     | none=>rw[hmv] at hx;cases hx
     | some y =>
       rw[hmv] at hx
       obtain⟨h0,rfl⟩:=j5d hmv
       rw[j0m hl hf ho5 hq5,if_neg (by omega)] at h0
       rw[q3u hl hf ho5 hq5 e] at hx
       refine j7g hl hf hq5 (k:=k) (by omega) h0 ?_
       rw[show m+1-k=m-k+1 by omega]
       refine k0i hf hn j _ (m-k) o x (by omega) (j4v hl) (fun o' ho'=>?_) (by omega) h2 ?_ hx
       ·rw[j0m hl hf hq5 ho']
        split
        ·exact h0
        ·exact hnn o' ho'
       ·rw[j0m hl hf hq5 ho5,if_neg (by omega)]
        exact hp
structure TaleI (t:Int) (l:List Mk) (hs:List (List Int)) (ds:List De) (gs:List (List Int)) (gone whose:List Int):Prop where
 e:j0j gs∈j2l t l hs ds (-1) 0
 w:∀ (k:Nat) (o:Int),whose[k]?=some o→0≤o→j0j gs∈j2l t l hs ds k o∧o<l.length∧∃ d,ds[k]?=some d∧d.kind=5
 wn:whose.length=ds.length
 nn:∀ f o,f<3→o<5→0≤hget (j0j gs) f o
 tot:htot (j0j gs)≤60+3*ds.length
 g:∀ o:Nat,o<l.length→gone.getD o 0+j0s (j0j gs) o=hasS (sumS hs o ds)
 gl:gone.length=l.length
theorem k3f {h:List Int} (hnn:∀ f o,f<3→o<5→0≤hget h f o) {f o:Nat} (hf:f<3) (ho:o<5):hget h f o≤hall h f∧hall h f≤htot h:=by
 have a0:=fun f (hf:f<3)=>hnn f 0 hf (by omega)
 have a1:=fun f (hf:f<3)=>hnn f 1 hf (by omega)
 have a2:=fun f (hf:f<3)=>hnn f 2 hf (by omega)
 have a3:=fun f (hf:f<3)=>hnn f 3 hf (by omega)
 have a4:=fun f (hf:f<3)=>hnn f 4 hf (by omega)
 have b0:=a0 f hf;have b1:=a1 f hf;have b2:=a2 f hf;have b3:=a3 f hf;have b4:=a4 f hf
 have c:∀ f,f<3→0≤hall h f:=fun f hf=>by unfold hall;have:=a0 f hf;have:=a1 f hf;have:=a2 f hf;have:=a3 f hf;have:=a4 f hf;omega
 constructor
 ·unfold hall
  rcases lt5 ho with rfl|rfl|rfl|rfl|rfl<;>omega
 ·unfold htot
  have:=c 0 (by omega);have:=c 1 (by omega);have:=c 2 (by omega)
  rcases lt3 hf with rfl|rfl|rfl<;>omega
theorem TaleI.start {t:Int} {l:List Mk} {hs:List (List Int)} (hnn:∀ f o,f<3→o<5→0≤hget (j0j hs) f o) (ht:htot (j0j hs)≤60):TaleI t l hs [] hs (List.replicate l.length 0) []:=by
 refine⟨by simp[j2l,j1d],by simp,rfl,hnn,by simpa using ht,fun o ho=>?_,by simp⟩
 rw[List.getD_eq_getElem?_getD,List.getElem?_replicate,if_pos ho]
 unfold sumS hasS
 simp
theorem TaleI.step {t:Int} {l:List Mk} {hs:List (List Int)} {ds:List De} {gs gs':List (List Int)} {gone gone' whose:List Int} {d:De} {ow:Int} (h:TaleI t l hs ds gs gone whose)
 (hsucc:∀ pass:Int→Bool,(d.kind=5→pass ow=true)→j0j gs'∈succ t l pass d (j0j gs)) (how:ow=-1∨0≤ow∧ow<l.length∧d.kind=5) (hne:d.kind=2→d.owner≠d.other)
 (hnn:∀ f o,f<3→o<5→0≤hget (j0j gs') f o) (ht:htot (j0j gs')≤htot (j0j gs)+3)
 (hg:∀ o:Nat,o<l.length→gone'.getD o 0+j0s (j0j gs') o=gone.getD o 0+j0s (j0j gs) o+j7d o d) (hgl:gone'.length=gone.length):TaleI t l hs (ds++[d]) gs' gone' (whose++[ow]):=by
 refine⟨j9x h.e (hsucc _ fun _=>k8w (by omega) _),fun k o hk ho=>?_,by simp[h.wn],hnn,?_,fun o ho=>?_,hgl.trans h.gl⟩
 ·rcases Nat.lt_or_ge k whose.length with hkl|hkl
  ·rw[List.getElem?_append_left hkl] at hk
   obtain⟨a1,a2,d',a3,a4⟩:=h.w k o hk ho
   exact⟨j9x a1 (hsucc _ fun _=>k8w (by have:=h.wn;omega) _),a2,d',by rw[List.getElem?_append_left (by have:=h.wn;omega)];exact a3,a4⟩
  ·rw[List.getElem?_append_right hkl] at hk
   have hk0:k-whose.length=0:=by
    cases hd:k-whose.length with
    | zero=>rfl
    | succ j=>rw[hd] at hk;simp at hk
   rw[hk0] at hk
   simp at hk
   subst hk
   have hkl':k=ds.length:=by have:=h.wn;omega
   subst hkl'
   rcases how with e|⟨a1,a2,a3⟩
   ·omega
   ·refine⟨j9x (deed:=(ds.length:Int)) (owner:=ow) ?_ (hsucc _ fun _=>pass_own _),a2,d,by simp,a3⟩
    unfold j2l
    rw[k3z (deed':=-1) (owner':=0) _ fun j hj=>⟨by omega,by omega⟩]
    exact h.e
 ·have:=h.tot
  rw[List.length_append,List.length_singleton]
  omega
 ·have hs1:sumS hs o (ds++[d])=j1f o (sumS hs o ds) d:=by
   unfold sumS
   rw[List.foldl_append]
   rfl
  rw[hg o ho,h.g o ho,hs1,q3x _ _ _ hne]
end Go.Proofs.YtmennjmjakdkcaaGreat
namespace Go.Proofs.YtmennjmjakdkcaaGreat
open Go.RowKit
theorem k0y (A:Option Addr) (n c:Nat) (l:List Int) (w:World) (hl:Ints w A n l) (hz:A=none→c=0) (hn:n≤4294967295) :
 Calls Tryz.prog 52 #[.slice A n c] w fun e w'=>∃ v,e=.returned v∧Own eInt 3 1 w' w.heap.size v l∧Below w.heap.size w w':=by
 have HL:=zQ9 (zA9 hl hz)
 have HB:=zQ9 (bal0 w (Obj.cells #[] 3))
 have HLW:=zQ9 (HL.out.1.below HB.out (zL9 _))
 have HOWN:=zQ9 (show Own eInt 3 1 (w.alloc (Obj.cells #[] 3)) w.heap.size (.slice (some ⟨w.heap.size,0,none⟩) 0 0) [] from Own.lit (enc:=eInt) w w.heap.size #[] [] rfl j0u (by omega) (by simp[maxLen]))
 clear hl hz
 go_enter Tryz.func52,Tryz.ntmps52
 go_wp2_with (at_builtin;refine q1e j5v rfl (.tmp 3) (.tmp 4) rfl w.heap.size (.slice (some ⟨w.heap.size,0,none⟩) 0 0) [] A n c l rfl rfl HLW.out HL.out.2 j0u j4b HOWN.out ?_ ?_ ?_ ?_;(simp;omega);(omega);(simp);intro v' w5 hown5 hgr5 hb5;have HH:=zQ9 (zA9 hown5 hb5);clear hown5 hgr5 hb5)
 go_ret
 have h:=HH.out.1
 rw[List.nil_append] at h
 exact⟨_,rfl,h,HB.out.trans HH.out.2⟩
theorem j1c (H N:Nat) (lo hi:Int) (w:World) (h:Hd w H N) (hN:N≤4611686018427387904) (h1:-1000000≤lo∧lo≤1000000) (h2:-1000000≤hi∧hi≤1000000) :
 Calls Tryz.prog 50 #[.pointer (some ⟨H,0,none⟩),.int .i64 lo,.int .i64 hi] w fun e w'=>∃ x:Int,e=.returned (.int .i64 x)∧lo≤x∧(x≤hi∨x=lo)∧Dealt w w' H (N+1):=by
 go_enter Tryz.func50,Tryz.ntmps50
 go_wp2_with fail
 refine(j1o H N (hi-lo) _ h hN (by omega)).mono ?_
 rintro e w1 ⟨n,rfl,hn,hd⟩
 have hn':(n:Int)≤2000000:=by omega
 go_wp2_with fail
 go_ret
 exact⟨lo+n,rfl,by omega,by omega,hd⟩
theorem q5b (x n:Nat) (w:World) (hx:x≤1000000) (h1:1≤n) (h2:n≤1000000) :
 Calls Tryz.prog 74 #[.int .i64 x,.int .i64 n] w fun e w'=>e=.returned (.int .i64 ((x % n:Nat):Int))∧w=w':=by
 have h1':¬((n:Int)<1):=by omega
 have hk0:((n:Int)==0)=false:=beq_eq_false_iff_ne.2 (by omega)
 obtain⟨m,hm⟩:∃ m,m=x % n:=⟨_,rfl⟩
 have ht:(x:Int).tmod (n:Int)=(m:Int):=by rw[hm];exact Int.ofNat_tmod x n
 have hm0:m<n:=by rw[hm];exact Nat.mod_lt _ (by omega)
 have hw:wrap64 (m:Int)=m:=IntWalk.wrap64_in _ (by omega)
 have hlt:¬((m:Int)<0):=by omega
 rw[←hm]
 clear hm
 go_enter Tryz.func74,Tryz.ntmps74
 go_wp2_with fail
 go_ret
 exact⟨rfl,rfl⟩
theorem q4w {l:List Int} {k:Nat} {x:Int} (h:l[k]?=some x):(l.take (k+1)).sum=(l.take k).sum+x:=by
 rw[List.take_add_one,h]
 simp
theorem j8k {B:Int} (hB:0≤B):∀ {l:List Int},(∀ x∈l,-B≤x∧x≤B)→-(B*l.length)≤l.sum∧l.sum≤B*l.length
 | [],_=>by simp
 | x::l,h=>by
   have ih:=j8k hB (l:=l) fun y hy=>h y (List.mem_cons_of_mem _ hy)
   have hx:=h x List.mem_cons_self
   rw[List.sum_cons,List.length_cons]
   have:B*((l.length+1:Nat):Int)=B*(l.length:Int)+B:=by rw[Int.natCast_add,Int.mul_add];simp
   omega
theorem q4z (A:Option Addr) (n c:Nat) (l:List Int) (w:World) (hl:Ints w A n l) (hn:n≤100000) (hb:∀ x∈l,-100000≤x∧x≤100000) :
 Calls Tryz.prog 32 #[.slice A n c] w fun e w'=>e=.returned (.int .i64 l.sum)∧w=w':=by
 have hlen:=hl.len
 have HL:=zQ9 (zA9 hl (zA9 hlen hb))
 clear hl hlen hb
 obtain⟨wo,hwo⟩:∃ wo,wo=w:=⟨_,rfl⟩
 rw[←hwo]
 have HW:=zQ9 hwo
 clear hwo
 go_enter Tryz.func32,Tryz.ntmps32
 go_wp2_with fail
 go_loopg [3,4] n (fun g v3 v4 wr=>∃ k:Nat,k+g=n∧v4=.int .i64 k∧v3=.int .i64 (l.take k).sum∧wr=wo)
 case atStart=>exact⟨0,by omega,rfl,by simp,rfl⟩
 case round =>
  obtain⟨k,hk,rfl,rfl,rfl⟩:=hrel
  by_cases hlt:k<n
  ·obtain⟨b,off,x,rfl,hbb,hx,c0⟩:=(HW.out ▸ HL.out.1).get hlt
   have hbx:=HL.out.2.2 x (List.mem_of_getElem? hx)
   obtain⟨s,hs⟩:∃ s,s=(l.take k).sum:=⟨_,rfl⟩
   have hsb:=j8k (B:=100000) (by decide) (l:=l.take k) (fun y hy=>HL.out.2.2 y (List.mem_of_mem_take hy))
   have htl:(l.take k).length≤100000:=by rw[List.length_take];omega
   rw[←hs] at hsb ⊢
   have h1:-10000000000≤s∧s≤10000000000:=by omega
   have h2:(k:Int)<(n:Int):=by omega
   have HX:=zQ9 (zA9 hx (zA9 hs hk))
   clear hx hs hsb htl hk
   go_wp2_with fail
   go_roundg (gk-1)
   case measure=>have:=HX.out.2.2;omega
   case rel=>exact⟨k+1,by have:=HX.out.2.2;omega,by go_num,by rw[q4w HX.out.1,←HX.out.2.1],rfl⟩
  ·obtain rfl:k=n:=by omega
   have e:l.take k=l:=List.take_of_length_le (by rw[HL.out.2.1];exact zL9 _)
   rw[e]
   obtain⟨s,hs⟩:∃ s,s=l.sum:=⟨_,rfl⟩
   rw[←hs]
   have HS:=zQ9 hs
   clear hs
   go_wp2_with fail
   go_ret
   exact⟨by rw[←HS.out];rfl,rfl⟩
def j1v (a b:Value):Prop:=∀ k,a.ownBlock=some k→b.ownBlock≠some k
def EndG (w:World) (base:Nat) (v:Value) (ls:List (List Int)):Prop:=∃ mv,Own eVal 25 1 w base v mv∧Rws w base mv ls∧mv.Pairwise j1v
section
variable {w w':World} {base B:Nat} {v v' u:Value} {ls:List (List Int)} {l:List Int}
theorem EndG.nil_:EndG w base (.slice none 0 0) []:=⟨[],Own.nil_,⟨rfl,fun i v h=>by simp at h⟩,List.Pairwise.nil⟩
theorem EndG.ownG (h:EndG w base v ls):OwnG w base v ls:=by obtain⟨mv,h1,h2,_⟩:=h;exact⟨mv,h1,h2⟩
theorem EndG.map (h:EndG w base v ls) (k1:∀ mv,Own eVal 25 1 w base v mv→Own eVal 25 1 w' base v mv) (k2:∀ u l,OwnI w base u l→OwnI w' base u l):EndG w' base v ls:=by
 obtain⟨mv,h1,⟨h2,h3⟩,h4⟩:=h
 exact⟨mv,k1 _ h1,⟨h2,fun i v hv=>by obtain⟨l,hl,ho⟩:=h3 i v hv;exact⟨l,hl,k2 _ _ ho⟩⟩,h4⟩
theorem EndG.below (h:EndG w base v ls) (hb:Below B w w') (hB:w.heap.size≤B):EndG w' base v ls:=h.map (fun _ h=>h.below hb hB) fun _ _ h=>h.below hb hB
theorem EndG.upon (h:EndG w base v ls) (k:∀ j,base≤j→w'.heap[j]?=w.heap[j]?):EndG w' base v ls:=h.map (fun _ h=>h.upon k) fun _ _ h=>h.upon k
theorem Own.row {α:Type} {enc:α→List Value} {e:TypeId} {sz:Nat} {l:List α} {row:Option Nat} (h:Own enc e sz w base v l) (hg:w.grownBy w' row) (hr:∀ k,row=some k→k<base):Own enc e sz w' base v l:=by
 refine h.kept hg ?_
 cases hv:v.ownBlock with
 | none=>exact .inl rfl
 | some j=>exact .inr fun e=>by have:=hr j e.symm;have:=h.lt j hv;omega
theorem EndG.grown {row:Option Nat} (h:EndG w base v ls) (hg:w.grownBy w' row) (hr:∀ k,row=some k→k<base):EndG w' base v ls:=h.map (fun _ h=>h.row hg hr) fun _ _ h=>h.row hg hr
theorem EndG.mono {b:Nat} (h:EndG w base v ls) (hb:b≤base):EndG w b v ls:=by
 obtain⟨mv,h1,⟨h2,h3⟩,h4⟩:=h
 exact⟨mv,h1.mono hb,⟨h2,fun i v hv=>by obtain⟨l,hl,ho⟩:=h3 i v hv;exact⟨l,hl,ho.mono hb⟩⟩,h4⟩
theorem EndG.snoc {mv:List Value} {b':Nat} (h1:Own eVal 25 1 w base v mv) (h2:Rws w base mv ls) (h4:mv.Pairwise j1v) (hu:OwnI w b' u l) (hb:base≤b') (hf:∀ x∈mv,∀ k,x.ownBlock=some k→k<b')
 (h3:Own eVal 25 1 w' base v' (mv++[u])) (hg:w.grownBy w' v.ownBlock):EndG w' base v' (ls++[l]):=by
 refine⟨mv++[u],h3,⟨by simp[h2.1],fun i x hx=>?_⟩,?_⟩
 ·rcases Nat.lt_or_ge i mv.length with hi|hi
  ·rw[List.getElem?_append_left hi] at hx
   obtain⟨l',hl',ho⟩:=h2.2 i x hx
   exact⟨l',by rw[List.getElem?_append_left (by rw[←h2.1];exact hi)];exact hl',ho.kept hg (j1g ho h1 (by decide))⟩
  ·rw[List.getElem?_append_right hi] at hx
   have h0:i-mv.length=0:=by
    cases hd:i-mv.length with
    | zero=>rfl
    | succ k=>rw[hd] at hx;simp at hx
   rw[h0] at hx
   simp only[List.getElem?_cons_zero,Option.some.injEq] at hx
   subst hx
   refine⟨l,?_,(hu.kept hg (j1g hu h1 (by decide))).mono hb⟩
   rw[List.getElem?_append_right (by rw[←h2.1];exact hi),show i-ls.length=0 by rw[←h2.1];exact h0]
   rfl
 ·rw[List.pairwise_append]
  refine⟨h4,List.pairwise_singleton _ _,fun x hx y hy k hk e=>?_⟩
  rw[List.mem_singleton.1 hy] at e
  have:=hf x hx k hk
  have:=hu.lt k e
  omega
theorem Own.put1 {A:Option Addr} {n c:Nat} (h:OwnI w base (.slice A n c) l) {o:Nat} (ho:o<l.length) (x:Int) :
 ∃ g,A=some ⟨g,0,none⟩∧base≤g∧g<w.heap.size∧w.cell? ⟨g,o,none⟩=some (.int .i64 (l.getD o 0))∧w.frozen? ⟨g,o,none⟩=false∧OwnI (w.setCell ⟨g,o,none⟩ (.int .i64 x)) base (.slice A n c) (l.set o x):=by
 have flat:∀ x:List Int,x.flatMap eInt=x.map (Value.int .i64):=fun x=>by
  induction x with
  | nil=>rfl
  | cons a r ih=>rw[List.flatMap_cons,ih];rfl
 rcases h.2 with ⟨hv,h0⟩|⟨g,cap,cur,hv,hg,hh,hnc,hcm,hsz,htk⟩
 ·omega
 ·cases hv
  have hlo:o<c:=by omega
  have hm:(l.flatMap eInt)[o]?=some (Value.int .i64 (l.getD o 0)):=by
   rw[flat,List.getElem?_map,List.getElem?_eq_getElem ho,List.getD_eq_getElem?_getD,List.getElem?_eq_getElem ho];rfl
  have hco:cur[o]?=some (Value.int .i64 (l.getD o 0)):=by
   rw[←htk,List.getElem?_take_of_lt (by omega),Array.getElem?_toList] at hm
   exact hm
  refine⟨g,rfl,hg,j0a hh,?_,frz hh o,?_⟩
  ·unfold World.cell?;simp[hh,hco]
  ·refine⟨by simp[flat],.inr ⟨g,c,cur.setIfInBounds o (.int .i64 x),by simp,hg,j0d hh,by simpa using hnc,hcm,by simpa using hsz,?_⟩⟩
   rw[Array.toList_setIfInBounds,List.take_set,List.length_set,htk,flat,flat,List.map_set]
theorem j0i (w:World) (g o:Nat) (x:Value):w.grownBy (w.setCell ⟨g,o,none⟩ x) (some g):=⟨rfl,rfl,rfl,by simp,fun j _ hj=>Below.heap_setCell _ ⟨g,o,none⟩ _ _ (fun e=>hj (by rw[e]))⟩
theorem EndG.at {f o:Nat} (h:EndG w base v ls) (hf:f<ls.length) (hr:o<(ls.getD f []).length) :
 ∃ b off c g cg,v=.slice (some ⟨b,off,none⟩) ls.length c∧w.cell? ⟨b,off+f,none⟩=some (.slice (some ⟨g,0,none⟩) (ls.getD f []).length cg)∧(ls.getD f []).length≤cg∧cg≤maxLen ∧
  base≤g∧g<w.heap.size∧w.cell? ⟨g,o,none⟩=some (.int .i64 ((ls.getD f []).getD o 0))∧w.frozen? ⟨g,o,none⟩=false ∧
  ∀ x,EndG (w.setCell ⟨g,o,none⟩ (.int .i64 x)) base v (ls.set f ((ls.getD f []).set o x)):=by
 obtain⟨mv,h1,⟨h2,h3⟩,h4⟩:=h
 have hfm:f<mv.length:=by omega
 obtain⟨row,hrow,hor⟩:=h3 f mv[f] (List.getElem?_eq_getElem hfm)
 have hg:ls.getD f []=row:=by rw[List.getD_eq_getElem?_getD,hrow];rfl
 rw[hg] at hr ⊢
 obtain⟨A,c,hv,hs,hc,hm⟩:=h1.form j3c
 obtain⟨b,off,x,hA,hb,hx,hcell⟩:=Vals.get (hs) hfm
 have hxe:x=mv[f]:=by rw[List.getElem?_eq_getElem hfm] at hx;exact(Option.some.inj hx).symm
 subst hxe
 obtain⟨A',c',hv',hs',hc',hm'⟩:=hor.form j0u
 obtain⟨g,hA',hg1,hg2,hg3,hg4,hg5⟩:=Own.put1 (hv' ▸ hor) hr 0
 subst hA hA'
 refine⟨b,off,c,g,c',by rw[hv,h2],by rw[hcell,hv'],hc',hm',hg1,hg2,hg3,hg4,fun y=>?_⟩
 have hgr:=j0i w g o (.int .i64 y)
 have hvb:mv[f].ownBlock=some g:=by rw[hv'];rcases hor.2 with ⟨e,_⟩|⟨g',cap,cur,e,_⟩<;>rw[hv'] at e<;>cases e;rfl
 refine⟨mv,h1.kept hgr ?_,⟨by rw[List.length_set];exact h2,fun i u hu=>?_⟩,h4⟩
 ·rcases j1g hor h1 (by decide) with e|e
  ·rw[hvb] at e;cases e
  ·exact .inr fun e'=>e (hvb.trans e'.symm)
 ·by_cases hif:f=i
  ·subst hif
   have hue:u=mv[f]:=by rw[List.getElem?_eq_getElem hfm] at hu;exact(Option.some.inj hu).symm
   subst hue
   refine⟨row.set o y,by rw[List.getElem?_set_self hf],?_⟩
   obtain⟨g',e,_,_,_,_,k⟩:=Own.put1 (hv' ▸ hor) hr y
   cases e
   rw[hv']
   exact k
  ·obtain⟨l',hl',ho'⟩:=h3 i u hu
   refine⟨l',by rw[List.getElem?_set_ne hif];exact hl',ho'.kept hgr ?_⟩
   right
   intro e
   have him:i<mv.length:=(List.getElem?_eq_some_iff.1 hu).1
   have hue:mv[i]=u:=by rw[List.getElem?_eq_getElem him] at hu;exact Option.some.inj hu
   rcases Nat.lt_or_gt_of_ne hif with h|h
   ·exact(List.pairwise_iff_getElem.1 h4 f i hfm him h) g hvb (by rw[hue];exact e)
   ·exact(List.pairwise_iff_getElem.1 h4 i f him hfm h) g (by rw[hue];exact e) hvb
end
theorem q0z {w:World} {A:Option Addr} {n:Nat} {gs:List (List Int)} {k:Nat} {l:List Int} (hk:gs[k]?=some l):gs.getD k []=l:=by rw[List.getD_eq_getElem?_getD,hk];rfl
theorem j1w (A:Option Addr) (n c f:Nat) (gs:List (List Int)) (w:World) (hg:Grid w A n gs) (hf:f<n) (hn:n≤1000) (hb:∀ r∈gs,r.length≤1000∧∀ x∈r,-100000≤x∧x≤100000) :
 Calls Tryz.prog 75 #[.slice A n c,.int .i64 f] w fun e w'=>e=.returned (.int .i64 (gs.getD f []).sum)∧w=w':=by
 obtain⟨b,off,B,l,c',rfl,hbw,hl,hc,hi,hlc,hcm⟩:=hg.get hf
 have hbl:=hb l (List.mem_of_getElem? hl)
 have hto:=q4z B l.length c' l w hi (by omega) hbl.2
 rw[q0z (w:=w) (A:=B) (n:=0) hl]
 obtain⟨s,hs⟩:∃ s,s=l.sum:=⟨_,rfl⟩
 rw[←hs] at hto ⊢
 have h1:(f:Int)<(n:Int):=by omega
 have h2:(n:Int)≤1000:=by omega
 have HX:=zQ9 (zA9 hl (zA9 hbl hs))
 clear hl hbl hs hg hb hi
 go_enter Tryz.func75,Tryz.ntmps75
 go_wp2_with (go_at_call 32;refine hto.mono ?_;rintro e w2 ⟨rfl,rfl⟩)
 go_ret
 exact⟨rfl,rfl⟩
def Holds (row:List Int) (o:Int):Prop:=(o=-1∧∀ x∈row,x≤0)∨∃ k:Nat,o=k∧k<row.length∧0<row.getD k 0
def HoldR (H N:Nat) (row:List Int) (w:World) (e:Ending) (w':World):Prop:=∃ o,e=.returned (.int .i64 o)∧Holds row o∧Dealt w w' H N
theorem k0f (H N:Nat) (A:Option Addr) (n c f:Nat) (gs:List (List Int)) (w:World) (h:Hd w H N) (hN:N≤4611686018427387904) (hg:Grid w A n gs) (hf:f<n) (hn:n≤1000) (hb:∀ r∈gs,r.length≤1000∧∀ x∈r,-100000≤x∧x≤100000) :
 Calls Tryz.prog 73 #[.pointer (some ⟨H,0,none⟩),.slice A n c,.int .i64 f] w (HoldR H (N+1) (gs.getD f []) w):=by
 have hHl:=h.lt
 obtain⟨b,off,B,l,c',rfl,hbw,hl,hc,hi,hlc,hcm⟩:=hg.get hf
 have hbl:=hb l (List.mem_of_getElem? hl)
 rw[q0z (w:=w) (A:=B) (n:=0) hl]
 obtain⟨m,hm⟩:∃ m,m=l.length:=⟨_,rfl⟩
 rw[←hm] at hc hi
 have hm1:m≤1000:=by omega
 have h1:(f:Int)<(n:Int):=by omega
 have h2:(n:Int)≤1000:=by omega
 have HX:=zQ9 (zA9 h (zA9 hc (zA9 hi (zA9 hm hbl.2))))
 clear hl hbl hg hb hi hm hc h
 go_enter Tryz.func73,Tryz.ntmps73
 go_wp2_with fail
 go_loopg [7,8] m (fun g v7 v8 wr=>∃ k:Nat,k+g=m∧v8=.int .i64 k∧(∃ os:List Int,OwnI wr w.heap.size v7 os∧os.length≤k∧(∀ o∈os,∃ j:Nat,o=j∧j<m∧0<l.getD j 0)∧(os=[]→∀ j,j<k→l.getD j 0≤0))∧Below w.heap.size w wr)
 case atStart=>exact⟨0,by omega,rfl,⟨[],Own.nil_,by simp,by simp,fun _ j hj=>by omega⟩,Below.refl _ _⟩
 case round =>
  obtain⟨k,hk,rfl,⟨os,hown,hol,hos,hno⟩,hB⟩:=hrel
  have c0:=j2k HX.out.2.1 hB (zL9 _)
  have hBz:=hB.size
  by_cases hlt:k<m
  ·obtain⟨b2,off2,x,rfl,hb2,hx,c1⟩:=Ints.get (HX.out.2.2.1.below hB (zL9 _)) hlt
   have hxg:l.getD k 0=x:=by rw[List.getD_eq_getElem?_getD,hx];rfl
   have h3:(k:Int)<(m:Int):=by omega
   have h4:(m:Int)≤1000:=by omega
   have HK:=zQ9 (zA9 hk (zA9 hown (zA9 hol (zA9 hos (zA9 hno (zA9 hB hxg))))))
   clear hk hown hol hos hno hB hx hxg
   by_cases hp:0<x
   ·have hll:os.length<4294967296:=by have:=HK.out.2.2.1;omega
    go_wp2_with (at_builtin;refine j6x j5v rfl (.tmp 26) (.tmp 28) rfl w.heap.size _ os (k:Int) _ rfl rfl rfl rfl (j4b _) HK.out.2.1 ?_ ?_ ?_ ?_;(omega);(omega);(omega);intro v' w4 hown4 hb4 _ hz4;have H4:=zQ9 (zA9 hown4 hb4);clear hown4 hb4)
    go_roundg (gk-1)
    case measure=>have:=HK.out.1;omega
    case rel =>
     refine⟨k+1,by have:=HK.out.1;omega,by go_num,⟨os++[(k:Int)],H4.out.1,by simpa using HK.out.2.2.1,fun o ho=>?_,fun e=>by simp at e⟩,HK.out.2.2.2.2.2.1.trans H4.out.2⟩
     rcases List.mem_append.1 ho with ho|ho
     ·exact HK.out.2.2.2.1 o ho
     ·exact⟨k,List.mem_singleton.1 ho,by omega,by rw[HK.out.2.2.2.2.2.2];exact hp⟩
   ·go_wp2_with fail
    go_roundg (gk-1)
    case measure=>have:=HK.out.1;omega
    case rel =>
     refine⟨k+1,by have:=HK.out.1;omega,by go_num,⟨os,HK.out.2.1,by have:=HK.out.2.2.1;omega,HK.out.2.2.2.1,fun e j hj=>?_⟩,HK.out.2.2.2.2.2.1⟩
     rcases Nat.lt_or_ge j k with h|h
     ·exact HK.out.2.2.2.2.1 e j h
     ·obtain rfl:j=k:=by omega
      rw[HK.out.2.2.2.2.2.2];omega
  ·obtain rfl:k=m:=by omega
   have hhd:Hd wr H N:=HX.out.1.below hB hHl
   have hD:Dealt w wr H N:=⟨hhd,⟨hB.os,hB.tape,hB.output,hB.size,fun j hj _=>hB.block j hj⟩⟩
   obtain⟨A7,c7,rfl,hs7,hc7,hm7⟩:=hown.form j0u
   have HK:=zQ9 (zA9 hown (zA9 hs7 (zA9 hos (zA9 hno (zA9 hD hol)))))
   obtain⟨q,hq⟩:∃ q,q=os.length:=⟨_,rfl⟩
   rw[←hq] at hol ⊢
   have HQ:=zQ9 hq
   clear hown hs7 hos hno hD hq hc7
   by_cases h0:q=0
   ·subst h0
    go_wp2_with fail
    go_ret
    have he:os=[]:=List.eq_nil_of_length_eq_zero HQ.out.symm
    refine⟨-1,rfl,.inl ⟨rfl,fun x hx=>?_⟩,HK.out.2.2.2.2.1.mono (by omega)⟩
    obtain⟨j,hj⟩:=List.mem_iff_getElem?.1 hx
    have:=HK.out.2.2.2.1 he j (by have:=(List.getElem?_eq_some_iff.1 hj).1;have:=HX.out.2.2.2.1;omega)
    rw[List.getD_eq_getElem?_getD,hj] at this
    exact this
   ·have h5:(q:Int)≤1000:=by omega
    have h6:((q:Int)==0)=false:=beq_eq_false_iff_ne.2 (by omega)
    have hup:=j1o H N ((q:Int)-1) wr hhd hN (by omega)
    have HU:=zQ9 hup
    clear hup hhd
    go_wp2_with fail
    refine HU.out.mono ?_
    rintro e w1 ⟨r,rfl,hr,hd⟩
    have hrq:r<q:=by omega
    have hi7:Ints w1 A7 q os:=by
     have:=HK.out.2.1
     rw[←HQ.out] at this
     refine(HK.out.1.row hd.gr (fun k e=>by cases e;exact hHl)).form j0u |>.elim fun A8 h=>?_
     obtain⟨c8,e8,s8,_⟩:=h
     cases e8
     rw[←HQ.out] at s8
     exact s8
    obtain⟨b3,off3,y,rfl,hb3,hy,c3⟩:=hi7.get hrq
    obtain⟨j,hj1,hj2,hj3⟩:=HK.out.2.2.1 y (List.mem_of_getElem? hy)
    have h7:(r:Int)<(q:Int):=by omega
    have HY:=zQ9 (zA9 hd (zA9 hj1 (zA9 hj2 hj3)))
    clear hd hj1 hj2 hj3 hi7 hr
    go_wp2_with fail
    go_ret
    exact⟨y,rfl,.inr ⟨j,HY.out.2.1,by rw[←HX.out.2.2.2.1];exact HY.out.2.2.1,HY.out.2.2.2⟩,HK.out.2.2.2.2.1.trans HY.out.1⟩
theorem k0m {x:Value} (h:x.oneCell'=true):∀ u∈eVal x,u.oneCell'=true:=by
 intro u hu;simp[eVal] at hu;subst hu;exact h
theorem Grid.len {w:World} {A:Option Addr} {n:Nat} {ls:List (List Int)} (h:Grid w A n ls):ls.length=n:=by
 obtain⟨mv,h1,h2,_⟩:=h
 rw[←h2];exact h1.len
theorem k7i (A:Option Addr) (n c:Nat) (x:List (List Int)) (B:Option Addr) (m d:Nat) (y:List (List Int)) (w:World) (hx:Grid w A n x) (hy:Grid w B m y) (hn:n≤maxLen) (hm:m≤maxLen) :
 Calls Tryz.prog 69 #[.slice A n c,.slice B m d] w fun e w'=>e=.returned (.bool (j1h x y))∧Below w.heap.size w w':=by
 have HL:=zQ9 (zA9 hx.len hy.len)
 have HXY:=zQ9 (zA9 hx hy)
 unfold maxLen at hn hm
 clear hx hy
 by_cases hnm:n=m
 ·subst hnm
  have h0:(n != n)=false:=by simp
  have h0':((n:Int) != (n:Int))=false:=by simp
  go_enter Tryz.func69,Tryz.ntmps69
  go_wp2_with fail
  go_loopg [5] n (fun g i wr=>∃ k:Nat,k+g=n∧i=.int .i64 k∧x.take k=y.take k∧Below w.heap.size w wr)
  case atStart=>exact⟨0,by omega,rfl,by simp,Below.refl _ _⟩
  case round =>
   obtain⟨k,hk,rfl,htk,hbl⟩:=hrel
   have HK:=zQ9 (zA9 hk htk)
   have hkn:k≤n:=by omega
   clear hk htk
   by_cases hlt:k<n
   ·obtain⟨b0,o0,C0,u,c0,rfl,hb0,hu,p0,hi0,hc0,hm0⟩:=Grid.get (HXY.out.1.below hbl (zL9 _)) hlt
    obtain⟨b1,o1,C1,v,c1,rfl,hb1,hv,q0,hi1,hc1,hm1⟩:=Grid.get (HXY.out.2.below hbl (zL9 _)) hlt
    have i0:(0:Int)≤(k:Int):=by omega
    have i1:(k:Int)<(n:Int):=by omega
    have HUV:=zQ9 (zA9 hu hv)
    have hmu:u.length≤maxLen:=Nat.le_trans hc0 hm0
    have hmv:v.length≤maxLen:=Nat.le_trans hc1 hm1
    have cS:∀ d os,Calls Tryz.prog 48 #[.slice C0 u.length c0,.slice C1 v.length c1] (Sort.grow (redrawn wr d) os) (fun e w''=>e=.returned (.bool (j1h u v))∧∃ p:Regrown,w''=Sort.grow (redrawn wr p.d) p.os):=fun d os =>
     Calls.regrown_of (j8j C0 u.length c0 u C1 v.length c1 v _ (hi0.below (below_regrown wr d os) (zL9 _)) (hi1.below (below_regrown wr d os) (zL9 _)) hmu hmv)
    clear hu hv hi0 hi1
    cases huv:j1h u v
    all_goals
     rw[huv] at cS
     have HC:=zQ9 cS
     have HE:=zQ9 huv
     clear cS huv
     go_upto_region 6 with (fail)
     have k0:=cell_regrown p0
     have k1:=cell_regrown q0
     refine wp_region_quiet_below (by kernel_rfl) (by kernel_rfl) ?_
     repeat (quiet_step (exact HC.out _ _))
     refine wpQuiet_nil ?_
     intro _ hw'
     obtain⟨⟨dq,osq⟩,hw''⟩:=hw'
     subst hw''
     obtain⟨w3,hW1⟩:∃ w3,w3=Sort.grow (redrawn wr dq) osq:=⟨_,rfl⟩
     have hb3:Below wr.heap.size wr w3:=by rw[hW1];exact below_regrown wr dq osq
     rw[←hW1]
     have hbl3:=hbl.trans (hb3.mono hbl.size)
     clear hW1 k0 k1 p0 q0
     go_wp2
    ·go_ret
     exact⟨j0p (by unfold j1h;rw[decide_eq_false (j8c HUV.out.1 HUV.out.2 (by have:=HE.out;unfold j1h at this;simpa using this))]),hbl3⟩
    ·go_roundg (gk-1)
     case measure=>have:=HK.out.1;omega
     case rel=>exact⟨k+1,by have:=HK.out.1;omega,by go_num,j4g HK.out.2 HUV.out.1 HUV.out.2 (by have:=HE.out;unfold j1h at this;simpa using this),hbl3⟩
   ·obtain rfl:k=n:=by omega
    go_wp2
    go_ret
    refine⟨j0p ?_,hbl⟩
    have h1:=HK.out.2
    rw[List.take_of_length_le (by have:=HL.out.1;omega),List.take_of_length_le (by have:=HL.out.2;omega)] at h1
    unfold j1h
    rw[decide_eq_true h1]
 ·have h0':((n:Int) != (m:Int))=true:=by simp;omega
  have HNE:=zQ9 hnm
  clear hnm
  go_enter Tryz.func69,Tryz.ntmps69
  go_wp2
  go_ret
  refine⟨j0p ?_,Below.refl _ _⟩
  unfold j1h
  rw[decide_eq_false (fun h=>HNE.out (by rw[←HL.out.1,←HL.out.2,h]))]
section
variable {α:Type} {enc:α→List Value} {e te:TypeId} {sz:Nat} {w w':World} {base B:Nat} {v v' u:Value} {mv:List Value} {ls:List (List α)} {l:List α}
def RwsA (enc:α→List Value) (e:TypeId) (sz:Nat) (w:World) (base:Nat) (mv:List Value) (ls:List (List α)):Prop :=
 mv.length=ls.length∧∀ (i:Nat) v,mv[i]?=some v→∃ l,ls[i]?=some l∧Own enc e sz w base v l
def OwnA (enc:α→List Value) (e te:TypeId) (sz:Nat) (w:World) (base:Nat) (v:Value) (ls:List (List α)):Prop:=∃ mv,Own eVal te 1 w base v mv∧RwsA enc e sz w base mv ls
theorem OwnA.nil_:OwnA enc e te sz w base (.slice none 0 0) []:=⟨[],Own.nil_,rfl,fun i v h=>by simp at h⟩
theorem OwnA.below (h:OwnA enc e te sz w base v ls) (hb:Below B w w') (hB:w.heap.size≤B):OwnA enc e te sz w' base v ls:=by
 obtain⟨mv,h1,h2,h3⟩:=h
 exact⟨mv,h1.below hb hB,h2,fun i v hv=>by obtain⟨l,hl,ho⟩:=h3 i v hv;exact⟨l,hl,ho.below hb hB⟩⟩
theorem OwnA.alloc (h:OwnA enc e te sz w base v ls) (o:Obj):OwnA enc e te sz (w.alloc o) base v ls:=h.below (bal0 w o) (zL9 _)
theorem OwnA.mono {b:Nat} (h:OwnA enc e te sz w base v ls) (hb:b≤base):OwnA enc e te sz w b v ls:=by
 obtain⟨mv,h1,h2,h3⟩:=h
 exact⟨mv,h1.mono hb,h2,fun i v hv=>by obtain⟨l,hl,ho⟩:=h3 i v hv;exact⟨l,hl,ho.mono hb⟩⟩
theorem OwnA.map {w':World} (h:OwnA enc e te sz w base v ls) (k1:∀ mv,Own eVal te 1 w base v mv→Own eVal te 1 w' base v mv) (k2:∀ u l,Own enc e sz w base u l→Own enc e sz w' base u l):OwnA enc e te sz w' base v ls:=by
 obtain⟨mv,h1,h2,h3⟩:=h
 exact⟨mv,k1 _ h1,h2,fun i v hv=>by obtain⟨l,hl,ho⟩:=h3 i v hv;exact⟨l,hl,k2 _ _ ho⟩⟩
theorem OwnA.snoc (hne:e≠te) (h1:Own eVal te 1 w base v mv) (h2:RwsA enc e sz w base mv ls) (hu:Own enc e sz w base u l)
 (h3:Own eVal te 1 w' base v' (mv++[u])) (hg:w.grownBy w' v.ownBlock):OwnA enc e te sz w' base v' (ls++[l]):=by
 refine⟨mv++[u],h3,by simp[h2.1],fun i x hx=>?_⟩
 rcases Nat.lt_or_ge i mv.length with hi|hi
 ·rw[List.getElem?_append_left hi] at hx
  obtain⟨l',hl',ho⟩:=h2.2 i x hx
  exact⟨l',by rw[List.getElem?_append_left (by rw[←h2.1];exact hi)];exact hl',ho.kept hg (j1g ho h1 hne)⟩
 ·rw[List.getElem?_append_right hi] at hx
  have h0:i-mv.length=0:=by
   cases hd:i-mv.length with
   | zero=>rfl
   | succ k=>rw[hd] at hx;simp at hx
  rw[h0] at hx
  simp only[List.getElem?_cons_zero,Option.some.injEq] at hx
  subst hx
  refine⟨l,?_,hu.kept hg (j1g hu h1 hne)⟩
  rw[List.getElem?_append_right (by rw[←h2.1];exact hi),show i-ls.length=0 by rw[←h2.1];exact h0]
  rfl
theorem k2y {P:Program} {tt:TypeId} (E:ElemOk P tt te 1 24) (hne:e≠te) {ops:Array Oper} {rest:List Oper} {o:Oper} {a:Act} {Q:Exit→Act→World→Prop} {w:World}
 (hgd:o.guard=none) (s x:Operand) (ho:o.op=.call { callee:=.builtin .append,args:=#[s,x],argTypes:=#[tt,tt] })
 (base:Nat) (v u:Value) (ls:List (List α)) (l:List α) (hs:a.eval s=v) (hx:a.eval x=.slice (some ⟨w.heap.size,0,none⟩) 1 1)
 (hown:OwnA enc e te sz w base v ls) (hu:Own enc e sz w base u l) (hll:ls.length<4294967296) (hbase:base≤w.heap.size)
 (h:∀ v' w',OwnA enc e te sz w' base v' (ls++[l])→Below base w w'→(∀ (k:Nat) cs T,T≠te→w.heap[k]?=some (.cells cs T (0,0))→w'.heap[k]?=some (.cells cs T (0,0)))→wpList P ops Q rest (a.put o.dst v') w') :
 wpList P ops Q (o::rest) a (w.alloc (.cells #[u] te)):=by
 obtain⟨mv,h1,h2⟩:=hown
 have h1u:u.oneCell'=true:=by
  rcases hu.2 with ⟨rfl,_⟩|⟨g,cap,cur,rfl,_⟩<;>rfl
 refine k2d (P:=P) E hgd s x ho base v mv u #[u] hs hx rfl rfl (k0m h1u) h1 (by rw[h2.1];exact hll) (by decide) hbase ?_
 intro g' cap w' ho' hg hb
 refine h _ _ (OwnA.snoc hne h1 h2 hu ho' hg) hb fun k cs T hT hk=>(hg.block k (j0a hk) fun e=>?_).trans hk
 rcases h1.2 with ⟨rfl,_⟩|⟨g,cap,cur,rfl,_,k2,_⟩
 ·cases e
 ·simp only[Value.ownBlock,Option.some.injEq] at e
  subst e
  rw[k2] at hk
  cases hk
  exact hT rfl
def j2f (enc:α→List Value) (sz:Nat) (w:World) (A:Option Addr) (n:Nat) (ls:List (List α)):Prop :=
 ∃ mv,Sl eVal 1 w A n mv∧mv.length=ls.length∧∀ (i:Nat) v,mv[i]?=some v→∃ B l c,ls[i]?=some l∧v=.slice B l.length c∧Sl enc sz w B l.length l∧l.length≤c∧c≤maxLen
theorem OwnA.form (henc:∀ x,(enc x).length=sz) (h:OwnA enc e te sz w base v ls):∃ A c,v=.slice A ls.length c∧j2f enc sz w A ls.length ls∧ls.length≤c∧c≤maxLen:=by
 obtain⟨mv,h1,h2,h3⟩:=h
 obtain⟨A,c,hv,hs,hc,hm⟩:=h1.form j3c
 rw[h2] at hv hs hc
 refine⟨A,c,hv,⟨mv,hs,h2,fun i v hv=>?_⟩,hc,hm⟩
 obtain⟨l,hl,ho⟩:=h3 i v hv
 obtain⟨B,c',hv',hs',hc',hm'⟩:=ho.form henc
 exact⟨B,l,c',hl,hv',hs',hc',hm'⟩
theorem j2f.below {A:Option Addr} {n:Nat} (h:j2f enc sz w A n ls) (hb:Below B w w') (hB:w.heap.size≤B):j2f enc sz w' A n ls:=by
 obtain⟨mv,h1,h2,h3⟩:=h
 exact⟨mv,h1.below hb hB,h2,fun i v hv=>by
  obtain⟨C,l,c,a1,a2,a3,a4,a5⟩:=h3 i v hv
  exact⟨C,l,c,a1,a2,a3.below hb hB,a4,a5⟩⟩
theorem j2f.get {A:Option Addr} {n:Nat} (h:j2f enc sz w A n ls) {k:Nat} (hk:k<n) :
 ∃ b off B l c,A=some ⟨b,off,none⟩∧b<w.heap.size∧ls[k]?=some l∧w.cell? ⟨b,off+k,none⟩=some (.slice B l.length c)∧Sl enc sz w B l.length l∧l.length≤c∧c≤maxLen:=by
 obtain⟨mv,h1,h2,h3⟩:=h
 obtain⟨b,off,x,hA,hb,hx,hc⟩:=Vals.get h1 hk
 obtain⟨B,l,c,a1,a2,a3,a4,a5⟩:=h3 k x hx
 subst a2
 exact⟨b,off,B,l,c,hA,hb,a1,hc,a3,a4,a5⟩
end
end Go.Proofs.YtmennjmjakdkcaaGreat
