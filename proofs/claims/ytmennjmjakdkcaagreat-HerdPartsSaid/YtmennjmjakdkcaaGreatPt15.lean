/- HerdParts. -/
import Derived.Test.YtmennjmjakdkcaaGreatPt14
import Derived.Test.YtmennjmjakdkcaaGreatPt09
set_option linter.unusedVariables false
set_option linter.unusedSimpArgs false
set_option maxRecDepth 1000000
namespace Go.Proofs.YtmennjmjakdkcaaGreat
abbrev sZ:Sg:=⟨0,false,false,0,0⟩
structure R3 (t:Int) (l:List Mk) (ks:List Int) (hs:List (List Int)) (ds:List De) (gs:List (List Int)) (gone whose:List Int):Prop where
 n5:l.length<=5
 n0:0<l.length
 f3:ks.length<=3
 f0:0<ks.length
 sh:GSh l.length ks.length gs
 ti:TaleI t l hs ds gs gone whose
 de:∀ d∈ds,j0v l.length ks.length d=0
 gn:∀ o:Nat,0<=gone.getD o 0∧gone.getD o 0<=3*ds.length
section
variable {t:Int} {l:List Mk} {ks:List Int} {hs:List (List Int)} {ds:List De} {gs:List (List Int)} {gone whose:List Int}
theorem j5s (gs:List (List Int)):(j0i gs).length=15:=j7x gs
theorem R3.start (h5:l.length<=5) (h0:0<l.length) (h3:ks.length<=3) (f0:0<ks.length) (hl:hs.length=ks.length) (hr:∀ r∈hs,r.length=l.length∧∀ x∈r,0<=x∧x<=4):R3 t l ks hs [] hs (List.replicate l.length 0) []:=by
 have hb:∀ f o,0<=getG hs f o∧getG hs f o<=4:=fun f o=>by
  unfold getG;rw[zB3,zB3];cases e:hs[f]? with
  | none=>simp
  | some r =>
    simp only[Option.getD_some];cases e2:r[o]? with
    | none=>simp
    | some x =>
      simp only[Option.getD_some];exact(hr r (zB4 e)).2 x (zB4 e2)
 have hg:∀ f o,f<3->o<5->0<=hget (j0i hs) f o∧hget (j0i hs) f o<=4:=fun f o h1 h2=>by rw[j1b hs h1 h2];exact hb f o
 refine⟨h5,h0,h3,f0,⟨hl,fun r h=>(hr r h).1⟩,TaleI.start (fun f o h1 h2=>(hg f o h1 h2).1) ?_,(fun _ h=>nomatch h),fun o=>by
  rw[zB3,List.getElem?_replicate]
  split<;>simp⟩
 have a:=fun f (hf:f<3)=>hg f 0 hf (by omega)
 have b:=fun f (hf:f<3)=>hg f 1 hf (by omega)
 have c:=fun f (hf:f<3)=>hg f 2 hf (by omega)
 have d:=fun f (hf:f<3)=>hg f 3 hf (by omega)
 have e:=fun f (hf:f<3)=>hg f 4 hf (by omega)
 unfold htot hall;have:=a 0 (by omega);have:=a 1 (by omega);have:=a 2 (by omega)
 have:=b 0 (by omega);have:=b 1 (by omega);have:=b 2 (by omega)
 have:=c 0 (by omega);have:=c 1 (by omega);have:=c 2 (by omega)
 have:=d 0 (by omega);have:=d 1 (by omega);have:=d 2 (by omega)
 have:=e 0 (by omega);have:=e 1 (by omega);have:=e 2 (by omega)
 omega
theorem R3.get (h:R3 t l ks hs ds gs gone whose) {f o:Nat} (hf:f<ks.length) (ho:o<l.length):getG gs f o=hget (j0i gs) f o:=by
 have:=h.n5;have:=h.f3;exact(j1b gs (by omega) (by omega)).symm
theorem R3.bd (h:R3 t l ks hs ds gs gone whose) {f o:Nat} (hf:f<ks.length) (ho:o<l.length):0<=getG gs f o∧getG gs f o<=60+3*ds.length:=by
 have h5:=h.n5;have h3:=h.f3;rw[h.get hf ho];have h1:=k0p h.ti.nn (show f<3 by omega) (show o<5 by omega)
 have h2:=h.ti.tot;exact⟨h.ti.nn f o (by omega) (by omega),by omega⟩
theorem R3.sum (h:R3 t l ks hs ds gs gone whose) {f:Nat} (hf:f<ks.length):(gs.getD f []).sum=hall (j0i gs) f∧0<=hall (j0i gs) f∧hall (j0i gs) f<=60+3*ds.length:=by
 have h5:=h.n5;have h3:=h.f3;have h1:=k0p h.ti.nn (show f<3 by omega) (show 0<5 by omega)
 have h2:=h.ti.tot;have h4:=h.ti.nn f 0 (by omega) (by omega)
 exact⟨j9u (by omega) (by rw[h.sh.row hf];omega),by omega,by omega⟩
theorem R3.elt (h:R3 t l ks hs ds gs gone whose):∀ r∈gs,r.length<=1000∧∀ x∈r,-100000<=x∧x<=60+3*ds.length:=by
 intro r hr;have h5:=h.n5;obtain⟨f,hf⟩:=List.mem_iff_getElem?.1 hr;have a0:f<gs.length:=(List.getElem?_eq_some_iff.1 hf).1;have a1:=h.sh.r r hr;refine⟨by omega,fun x hx=>?_⟩
 obtain⟨o,ho⟩:=List.mem_iff_getElem?.1 hx;have a2:o<r.length:=(List.getElem?_eq_some_iff.1 ho).1;have hb:=h.bd (f:=f) (o:=o) (by rw[<-h.sh.l];exact a0) (by omega)
 have e:getG gs f o=x:=by
  unfold getG;rw[show gs.getD f []=r by rw[zB3,hf];rfl,zB3,ho]
  rfl
 omega
theorem j5c {n nf:Nat} {d:De} (h1:1<=d.kind∧d.kind<=6) (h2:0<=d.flock∧d.flock<nf) (h3:fldE n nf d=0) (h4:d=namD d):j0v n nf d=0:=by
 unfold j0v;have e1:btw d.kind 1 6=true:=j0o.2 h1;have e2:ownB nf d.flock=true:=j1p.2 h2;rw[e1,e2,if_neg (by simp),if_neg (by simp),h3,if_neg (by simp),if_neg (by simpa using h4)]
theorem j8h {n o:Nat} (h:o<n):ownB n (o:Int)=true:=j1p.2 ⟨by omega,by omega⟩
theorem R3.snocD {d:De} (h:∀ d∈ds,j0v l.length ks.length d=0) (hd:j0v l.length ks.length d=0):∀ x∈ds++[d],j0v l.length ks.length x=0:=fun x hx=>by
 rcases List.mem_append.1 hx with hx|hx
 ·exact h x hx
 ·rw[List.mem_singleton.1 hx];exact hd
theorem R3.born (h:R3 t l ks hs ds gs gone whose) {f o:Nat} {k:Int} (hf:f<ks.length) (ho:o<l.length) (hk:1<=k∧k<=3):R3 t l ks hs (ds++[⟨1,f,o,0,0,k,0,sZ⟩]) (addG gs f o k) gone (whose++[-1]):=by
 have h5:=h.n5;have h3:=h.f3;have a1:f<3:=by omega
 have a0:o<5:=by omega
 have hl:=j5s gs;have e:=j1m h.sh h.n5 h.f3 hf ho k;refine⟨h.n5,h.n0,h.f3,h.f0,h.sh.add hf o k,h.ti.step (fun pass _=>?_) (.inl rfl) (fun h=>by cases h) (fun f' o' h1 h2=>?_) ?_ (fun o' h1=>?_) rfl,R3.snocD h.de (j5c (by dsimp;omega) ⟨by dsimp;omega,by dsimp;omega⟩ ?_ (by simp[namD])),fun o'=>by have:=h.gn o';rw[List.length_append,List.length_singleton];omega⟩
 ·simp[succ,e]
 ·rw[e,j0m hl a1 a0 h2];have:=h.ti.nn f' o' h1 h2;have:=h.ti.nn f o a1 a0
  split<;>omega
 ·rw[e,j4e hl a1 a0];omega
 ·rw[e,j3j hl a1 a0 (by omega)]
  simp only[j7e,Int.natCast_inj];by_cases h2:o=o'<;>simp[h2]<;>omega
 ·simp[fldE,j8h ho,j0o];omega
theorem R3.eaten (h:R3 t l ks hs ds gs gone whose) {f o:Nat} {k:Int} (hf:f<ks.length) (ho:o<l.length) (hk:1<=k∧k<=20) (hg:k<=getG gs f o):R3 t l ks hs (ds++[⟨3,f,o,0,0,k,0,sZ⟩]) (addG gs f o (-k)) gone (whose++[-1]):=by
 have h5:=h.n5;have h3:=h.f3;rw[h.get hf ho] at hg;have a1:f<3:=by omega
 have a0:o<5:=by omega
 have hl:=j5s gs;have e:=j1m h.sh h.n5 h.f3 hf ho (-k);refine⟨h.n5,h.n0,h.f3,h.f0,h.sh.add hf o (-k),h.ti.step (fun pass _=>?_) (.inl rfl) (fun h=>by cases h) (fun f' o' h1 h2=>?_) ?_ (fun o' h1=>?_) rfl,R3.snocD h.de (j5c (by dsimp;omega) ⟨by dsimp;omega,by dsimp;omega⟩ ?_ (by simp[namD])),fun o'=>by have:=h.gn o';rw[List.length_append,List.length_singleton];omega⟩
 ·simp[succ,mvd,e];rw[if_pos (by omega)];simp
 ·rw[e,j0m hl a1 a0 h2];have:=h.ti.nn f' o' h1 h2
  split<;>omega
 ·rw[e,j4e hl a1 a0];omega
 ·rw[e,j3j hl a1 a0 (by omega)]
  simp only[j7e,Int.natCast_inj];by_cases h2:o=o'<;>simp[h2]<;>omega
 ·simp[fldE,j8h ho,j0o];omega
theorem R3.sold (h:R3 t l ks hs ds gs gone whose) {f o p:Nat} {k:Int} (hf:f<ks.length) (ho:o<l.length) (hp:p<l.length) (a4:o≠p) (hk:1<=k∧k<=20) (hg:k<=getG gs f o) :
 R3 t l ks hs (ds++[⟨2,f,o,p,0,k,0,sZ⟩]) (addG (addG gs f o (-k)) f p k) gone (whose++[-1]):=by
 have h5:=h.n5;have h3:=h.f3;rw[h.get hf ho] at hg;have a0:f<3:=by omega
 have a2:o<5:=by omega
 have a1:p<5:=by omega
 have hl:=j5s gs;have e1:=j1m h.sh h.n5 h.f3 hf ho (-k);have e:=j1m (h.sh.add hf o (-k)) h.n5 h.f3 hf hp k;rw[e1] at e;have a3:=j4w (f:=f) (o:=o) (k:=-k) hl;refine⟨h.n5,h.n0,h.f3,h.f0,(h.sh.add hf o (-k)).add hf p k,h.ti.step (fun pass _=>?_) (.inl rfl) (fun _=>by dsimp;omega) (fun f' o' h1 h2=>?_) ?_ (fun o' h1=>?_) rfl,R3.snocD h.de (j5c (by dsimp;omega) ⟨by dsimp;omega,by dsimp;omega⟩ ?_ (by simp[namD])),fun o'=>by have:=h.gn o';rw[List.length_append,List.length_singleton];omega⟩
 ·simp[succ,mvd,e];rw[if_pos (by omega)];simp
 ·rw[e,j0m a3 a0 a1 h2,j0m hl a0 a2 a1,j0m hl a0 a2 h2];have:=h.ti.nn f' o' h1 h2;have:=h.ti.nn f p a0 a1
  repeat' split
  all_goals omega
 ·rw[e,j4e a3 a0 a1,j4e hl a0 a2];omega
 ·rw[e,j3j a3 a0 a1 (by omega),j3j hl a0 a2 (by omega)]
  simp only[j7e,Int.natCast_inj];by_cases h2:o=o'<;>by_cases h4:p=o'<;>simp[h2,h4]<;>omega
 ·have e2:¬(o:Int)=p:=by omega
  simp[fldE,j8h ho,j8h hp,j0o,e2,a4];omega
theorem R3.strayed (h:R3 t l ks hs ds gs gone whose) {f g o:Nat} {s:Sg} (hf:f<ks.length) (hg:g<ks.length) (a5:f≠g) (ho:o<l.length) (hh:0<getG gs f o) (hm:(o:Int)∈mayL t l s) (a4:seen s 9 6=0) :
 R3 t l ks hs (ds++[⟨5,f,0,0,g,0,0,s⟩]) (addG (addG gs f o (-1)) g o 1) gone (whose++[(o:Int)]):=by
 have h5:=h.n5;have h3:=h.f3;rw[h.get hf ho] at hh;have a1:f<3:=by omega
 have a2:g<3:=by omega
 have a0:o<5:=by omega
 have hl:=j5s gs;have e1:=j1m h.sh h.n5 h.f3 hf ho (-1);have e:=j1m (h.sh.add hf o (-1)) h.n5 h.f3 hg ho 1;rw[e1] at e;have a3:=j4w (f:=f) (o:=o) (k:=-1) hl;refine⟨h.n5,h.n0,h.f3,h.f0,(h.sh.add hf o (-1)).add hg o 1,h.ti.step (fun pass hp=>?_) (.inr ⟨by omega,by omega,rfl⟩) (fun h=>by cases h) (fun f' o' h1 h2=>?_) ?_ (fun o' h1=>?_) rfl,R3.snocD h.de (j5c (by dsimp;omega) ⟨by dsimp;omega,by dsimp;omega⟩ ?_ (by simp[namD])),fun o'=>by have:=h.gn o';rw[List.length_append,List.length_singleton];omega⟩
 ·simp only[succ];rw[if_neg (by decide),if_neg (by decide),if_neg (by decide),if_neg (by decide),if_pos trivial,e]
  unfold j4k;rw[List.mem_flatMap];refine⟨o,List.mem_filter.2 ⟨hm,hp rfl⟩,?_⟩;simp only[Int.toNat_natCast,mvd];rw[if_pos (by omega)];simp
 ·rw[e,j0m a3 a2 a0 h2,j0m hl a1 a0 a0,j0m hl a1 a0 h2];have:=h.ti.nn f' o' h1 h2;have:=h.ti.nn g o a2 a0
  repeat' split
  all_goals omega
 ·rw[e,j4e a3 a2 a0,j4e hl a1 a0];omega
 ·rw[e,j3j a3 a2 a0 (by omega),j3j hl a1 a0 (by omega)]
  simp only[j7e];by_cases h2:o=o'<;>simp[h2]<;>omega
 ·have e2:¬(g:Int)=f:=by omega
  simp[fldE,j8h hg,a4,e2];try omega
theorem R3.counted (h:R3 t l ks hs ds gs gone whose) {f:Nat} {a err n:Int} (hf:f<ks.length) (hn:n=hall (j0i gs) f) (he:err=0∨err=5∨err=20) (h1:100*a<=err*n) (h2:-(err*n)<=100*a) (hd:ds.length<=6) :
 R3 t l ks hs (ds++[⟨6,f,0,0,0,n+a,err,sZ⟩]) gs gone (whose++[-1]):=by
 have h5:=h.n5;have h3:=h.f3;obtain⟨_,a0,a1⟩:=h.sum hf;rw[<-hn] at a0 a1;refine⟨h.n5,h.n0,h.f3,h.f0,h.sh,h.ti.step (fun pass _=>?_) (.inl rfl) (fun h=>by cases h) h.ti.nn (by omega) (fun o' h1=>?_) rfl,R3.snocD h.de (j5c (by dsimp;omega) ⟨by dsimp;omega,by dsimp;omega⟩ ?_ (by simp[namD])),fun o'=>by have:=h.gn o';rw[List.length_append,List.length_singleton];omega⟩
 ·simp only[succ];rw[if_neg (by decide),if_neg (by decide),if_neg (by decide),if_neg (by decide),if_neg (by decide),if_pos ?_]
  ·simp
  ·unfold j6y;simp only[Int.toNat_natCast];rw[<-hn,j0o];rcases he with rfl|rfl|rfl
   ·constructor
    ·rw[Int.tdiv_eq_ediv_of_nonneg (by omega)];omega
    ·rw[Int.tdiv_eq_ediv_of_nonneg (by omega)];omega
   ·constructor
    ·rw[Int.tdiv_eq_ediv_of_nonneg (by omega)];omega
    ·rw[Int.tdiv_eq_ediv_of_nonneg (by omega)];omega
   ·constructor
    ·rw[Int.tdiv_eq_ediv_of_nonneg (by omega)];omega
    ·rw[Int.tdiv_eq_ediv_of_nonneg (by omega)];omega
 ·simp[j7e]
 ·rcases he with rfl|rfl|rfl<;>simp[fldE,j0o]<;>omega
structure L3 (t:Int) (l:List Mk) (ks:List Int) (gs0:List (List Int)) (gone0:List Int) (f m k:Nat) (gs:List (List Int)) (gone:List Int):Prop where
 km:k<=m
 sh:GSh l.length ks.length gs
 nn:∀ f o,f<3->o<5->0<=hget (j0i gs) f o
 tot:htot (j0i gs)=htot (j0i gs0)-k
 al:hall (j0i gs) f=hall (j0i gs0) f-k
 ls:∀ x,x∈j1e l.length f l.length (j0i gs) (m-k)->x∈j1e l.length f l.length (j0i gs0) m
 g:∀ o:Nat,o<l.length->gone.getD o 0+j5t (j0i gs) o=gone0.getD o 0+j5t (j0i gs0) o
 gl:gone.length=l.length
 gn:∀ o:Nat,gone0.getD o 0<=gone.getD o 0∧gone.getD o 0<=gone0.getD o 0+k
theorem L3.start (h:R3 t l ks hs ds gs gone whose) (f m:Nat):L3 t l ks gs gone f m 0 gs gone :=
 ⟨Nat.zero_le _,h.sh,h.ti.nn,by simp,by simp,fun x hx=>hx,fun _ _=>rfl,h.ti.gl,fun o=>by omega⟩
theorem L3.step {a3:List (List Int)} {a0:List Int} {f m k o:Nat} (h:L3 t l ks a3 a0 f m k gs gone) (h5:l.length<=5) (h3:ks.length<=3) (hf:f<ks.length) (ho:o<l.length) (hg:0<getG gs f o) (hk:k<m) :
 L3 t l ks a3 a0 f m (k+1) (addG gs f o (-1)) (gone.set o (gone.getD o 0+1)):=by
 have a1:f<3:=by omega
 have a2:o<5:=by omega
 have hl:=j5s gs;have e:=j1m h.sh h5 h3 hf ho (-1);have a4:0<hget (j0i gs) f o:=by rw[j1b gs a1 a2];exact hg
 refine⟨hk,h.sh.add hf o (-1),fun f' o' h1 h2=>?_,?_,?_,fun x hx=>h.ls x ?_,fun o' h1=>?_,by rw[List.length_set];exact h.gl,fun o'=>?_⟩
 ·rw[e,j0m hl a1 a2 h2];have:=h.nn f' o' h1 h2
  split<;>omega
 ·rw[e,j4e hl a1 a2,h.tot];omega
 ·rw[e,j8u hl a1 a2,h.al,if_pos rfl];omega
 ·rw[show m-k=(m-(k+1))+1 by omega]
  rw[e] at hx;exact k0t a1 h5 l.length _ _ o x (zL9 _) hl (fun o ho=>h.nn f o a1 ho) (by omega) ho a4 hx
 ·rw[e,j3j hl a1 a2 (by omega),<-h.g o' h1]
  by_cases h2:o=o'
  ·subst h2;rw[zB3,List.getElem?_set_self (by rw[h.gl];exact ho),if_pos rfl]
   simp only[Option.getD_some];omega
  ·rw[zB3,List.getElem?_set_ne h2,if_neg h2,zB3];omega
 ·have:=h.gn o';by_cases h2:o=o'
  ·subst h2;rw[show(gone.set o (gone.getD o 0+1)).getD o 0=gone.getD o 0+1 by
    rw[zB3,List.getElem?_set_self (by rw[h.gl];exact ho)];rfl]
   omega
  ·rw[show(gone.set o (gone.getD o 0+1)).getD o' 0=gone.getD o' 0 by
    rw[zB3,List.getElem?_set_ne h2,<-zB3]]
   omega
theorem L3.elt {a1:List (List Int)} {a0:List Int} {f m k:Nat} (h:L3 t l ks a1 a0 f m k gs gone) (h5:l.length<=5) (h3:ks.length<=3) (ht:htot (j0i a1)<=80):(∀ f o,f<ks.length->o<l.length->0<=getG gs f o∧getG gs f o<=80)∧∀ r∈gs,r.length<=1000∧∀ x∈r,-100000<=x∧x<=100000:=by
 have hb:∀ f o,f<ks.length->o<l.length->0<=getG gs f o∧getG gs f o<=80:=fun f o hf ho=>by
  rw[<-j1b gs (show f<3 by omega) (show o<5 by omega)]
  have h1:=k0p h.nn (show f<3 by omega) (show o<5 by omega)
  have h2:=h.tot;exact⟨h.nn f o (by omega) (by omega),by omega⟩
 refine⟨hb,fun r hr=>?_⟩
 obtain⟨f,hf⟩:=List.mem_iff_getElem?.1 hr;have a2:f<gs.length:=(List.getElem?_eq_some_iff.1 hf).1;have a3:=h.sh.r r hr;refine⟨by omega,fun x hx=>?_⟩
 obtain⟨o,ho⟩:=List.mem_iff_getElem?.1 hx;have a4:o<r.length:=(List.getElem?_eq_some_iff.1 ho).1;have hb:=hb f o (by rw[<-h.sh.l];exact a2) (by omega)
 have e:getG gs f o=x:=by
  unfold getG;rw[show gs.getD f []=r by rw[zB3,hf];rfl,zB3,ho]
  rfl
 omega
theorem R3.lost {a1:List (List Int)} {a0:List Int} {f m:Nat} (h:R3 t l ks hs ds gs gone whose) (hf:f<ks.length) (hm:1<=m∧m<=3) (hL:L3 t l ks gs gone f m m a1 a0):R3 t l ks hs (ds++[⟨4,f,0,0,0,m,0,sZ⟩]) a1 a0 (whose++[-1]):=by
 have h5:=h.n5;have h3:=h.f3;refine⟨h.n5,h.n0,h.f3,h.f0,hL.sh,h.ti.step (fun pass _=>?_) (.inl rfl) (fun h=>by cases h) hL.nn (by rw[hL.tot];omega) (fun o' h1=>?_) (hL.gl.trans h.ti.gl.symm),R3.snocD h.de (j5c (by dsimp;omega) ⟨by dsimp;omega,by dsimp;omega⟩ ?_ (by simp[namD])),fun o'=>by have:=h.gn o';have:=hL.gn o';rw[List.length_append,List.length_singleton];omega⟩
 ·simp only[succ];rw[if_neg (by decide),if_neg (by decide),if_neg (by decide),if_pos trivial]
  simp only[Int.toNat_natCast];refine hL.ls _ ?_;rw[Nat.sub_self,j4r];simp
 ·rw[hL.g o' h1];simp[j7e]
 ·simp[fldE,j0o];omega
theorem k6u {row:List Int} {o:Int} (h:(o=-1∧∀ x∈row,x<=0)∨∃ k:Nat,o=k∧k<row.length∧0<row.getD k 0) (hs:0<row.sum):∃ k:Nat,o=k∧k<row.length∧0<row.getD k 0:=by
 rcases h with ⟨_,h⟩|h
 ·exfalso;have:∀ l:List Int,(∀ x∈l,x<=0)->l.sum<=0:=fun l=>by
   induction l with
   | nil=>intro _;simp
   | cons a r ih =>
     intro hx;have h1:=hx a (by simp)
     have h2:=ih fun x h=>hx x (by simp[h])
     rw[List.sum_cons];omega
  have:=this row h;omega
 ·exact h
theorem pos_sum {row:List Int} (h0:∀ x∈row,0<=x) {k:Nat} (hk:k<row.length) (h:0<row.getD k 0):0<row.sum:=by
 induction row generalizing k with
 | nil=>simp at hk
 | cons a r ih =>
   have hr:0<=r.sum:=by
    have:∀ l:List Int,(∀ x∈l,0<=x)->0<=l.sum:=fun l=>by
     induction l with
     | nil=>intro _;simp
     | cons b r ih =>
       intro hx;have h1:=hx b (by simp)
       have h2:=ih fun x h=>hx x (by simp[h])
       rw[List.sum_cons];omega
    exact this r fun x hx=>h0 x (by simp[hx])
   have ha:=h0 a (by simp)
   rw[List.sum_cons];cases k with
   | zero=>simp at h;omega
   | succ k =>
     have:=ih (fun x hx=>h0 x (by simp[hx])) (by simpa using hk) (by simpa using h)
     omega
end
end Go.Proofs.YtmennjmjakdkcaaGreat
namespace Go.Proofs.YtmennjmjakdkcaaGreat
open Go.RowKit
structure RD (w0 w1:World) (H q:Nat) (t:Int) (vm vk vh bd vd:Value) (ds:List De) (vE:Value) (gs:List (List Int)) (vG:Value) (gone:List Int) (vW:Value) (whose:List Int) (ze1 ze2 zg1 zg2 z3 zr N p:Nat) (d:De) (w:World):Prop where
 td:TDe w0 w1 H q t vm vk vh bd vd ds vE gs vG gone vW whose ze1 ze2 zg1 zg2 z3 zr N w
 bx:w.heap[p]?=some (dObj d)
 pz:zr<=p
section
variable {w0 w1 w w':World} {H q N N' ze1 ze2 zg1 zg2 z3 zr p:Nat} {t:Int} {vm vk vh bd vd vE vG vW:Value} {ds:List De} {gs:List (List Int)} {gone whose:List Int} {d:De}
theorem RD.pH (a:RD w0 w1 H q t vm vk vh bd vd ds vE gs vG gone vW whose ze1 ze2 zg1 zg2 z3 zr N p d w):p≠H∧q<p:=by
 obtain⟨a1,a2,a3⟩:=a.td.h1;obtain⟨⟨c1,c2,c3,c4,c5,c6⟩,b3,b4⟩:=a.td.zz;have:=a.pz;omega
theorem RD.drew1 (a:RD w0 w1 H q t vm vk vh bd vd ds vE gs vG gone vW whose ze1 ze2 zg1 zg2 z3 zr N p d w):RD w0 w1 H q t vm vk vh bd vd ds vE gs vG gone vW whose ze1 ze2 zg1 zg2 z3 zr N p d w.drew:=⟨a.td.drew1,a.bx,a.pz⟩
theorem RD.alloc (a:RD w0 w1 H q t vm vk vh bd vd ds vE gs vG gone vW whose ze1 ze2 zg1 zg2 z3 zr N p d w) (o:Obj):RD w0 w1 H q t vm vk vh bd vd ds vE gs vG gone vW whose ze1 ze2 zg1 zg2 z3 zr N p d (w.alloc o):=⟨a.td.alloc o,j0b a.bx o,a.pz⟩
theorem RD.dealt (a:RD w0 w1 H q t vm vk vh bd vd ds vE gs vG gone vW whose ze1 ze2 zg1 zg2 z3 zr N p d w) (hd:Dealt w w' H N'):RD w0 w1 H q t vm vk vh bd vd ds vE gs vG gone vW whose ze1 ze2 zg1 zg2 z3 zr N' p d w':=⟨a.td.dealt hd,hd.blk a.bx a.pH.1,a.pz⟩
theorem RD.mono (a:RD w0 w1 H q t vm vk vh bd vd ds vE gs vG gone vW whose ze1 ze2 zg1 zg2 z3 zr N p d w) (hN:N<=N'):RD w0 w1 H q t vm vk vh bd vd ds vE gs vG gone vW whose ze1 ze2 zg1 zg2 z3 zr N' p d w:=⟨a.td.mono hN,a.bx,a.pz⟩
theorem RD.put (a:RD w0 w1 H q t vm vk vh bd vd ds vE gs vG gone vW whose ze1 ze2 zg1 zg2 z3 zr N p d w) (i:Nat) (x:Value) {d':De} (hb:(w.setCell ⟨p,i,none⟩ x).heap[p]?=some (dObj d')):RD w0 w1 H q t vm vk vh bd vd ds vE gs vG gone vW whose ze1 ze2 zg1 zg2 z3 zr N p d' (w.setCell ⟨p,i,none⟩ x):=⟨a.td.far a.pz i x,hb,a.pz⟩
theorem TDe.setL {l:List (Nat × Value)}:∀ {w:World},TDe w0 w1 H q t vm vk vh bd vd ds vE gs vG gone vW whose ze1 ze2 zg1 zg2 z3 zr N w->zr<=p->TDe w0 w1 H q t vm vk vh bd vd ds vE gs vG gone vW whose ze1 ze2 zg1 zg2 z3 zr N (setL w p l):=by
 induction l with
 | nil=>exact fun a _=>a
 | cons x l ih=>exact fun a h=>ih (a.far h x.1 x.2) h
theorem RD.deed (a:RD w0 w1 H q t vm vk vh bd vd ds vE gs vG gone vW whose ze1 ze2 zg1 zg2 z3 zr N p d w) (d':De):RD w0 w1 H q t vm vk vh bd vd ds vE gs vG gone vW whose ze1 ze2 zg1 zg2 z3 zr N p d' (setL w p (l12 d')):=⟨a.td.setL a.pz,l12_at a.bx,a.pz⟩
theorem RD.at1 {f o:Nat} (a:RD w0 w1 H q t vm vk vh bd vd ds vE gs vG gone vW whose ze1 ze2 zg1 zg2 z3 zr N p d w) (hf:f<gs.length) (ho:o<(gs.getD f []).length) :
 ∃ b off c g cg,vE=.slice (some ⟨b,off,none⟩) gs.length c∧w.cell? ⟨b,off+f,none⟩=some (.slice (some ⟨g,0,none⟩) (gs.getD f []).length cg)∧(gs.getD f []).length<=cg∧cg<=maxLen ∧
  w.cell? ⟨g,o,none⟩=some (.int .i64 (getG gs f o))∧w.frozen? ⟨g,o,none⟩=false∧b≠g∧g≠p ∧
  ∀ x k,x=getG gs f o+k->RD w0 w1 H q t vm vk vh bd vd ds vE (addG gs f o k) vG gone vW whose ze1 ze2 zg1 zg2 z3 zr N p d (w.setCell ⟨g,o,none⟩ (.int .i64 x)):=by
 obtain⟨b,off,c,g,cg,e1,e2,e3,e4,e5,e6,e7,e8,e9⟩:=a.td.at hf ho;have:=a.pz;exact⟨b,off,c,g,cg,e1,e2,e3,e4,e5,e6,e8,by omega,fun x k hx=>⟨by rw[hx];exact e9 _,(zB1 _ ⟨g,o,none⟩ _ _ (by show p≠g;omega)).trans a.bx,a.pz⟩⟩
theorem j4a (gs:List (List Int)) (f o:Nat) (k:Int):(addG gs f o k).length=gs.length:=by unfold addG;rw[List.length_set]
theorem k8f (gs:List (List Int)) (f o f':Nat) (k:Int):((addG gs f o k).getD f' []).length=(gs.getD f' []).length:=by
 unfold addG;rw[zB3 (l:=gs.set _ _)];by_cases h:f=f'
 ·subst h;by_cases hf:f<gs.length
  ·rw[List.getElem?_set_self hf,Option.getD_some,List.length_set]
  ·rw[List.getElem?_eq_none (by rw[List.length_set];omega),zB3,List.getElem?_eq_none (by omega)]
 ·rw[List.getElem?_set_ne h,<-zB3]
theorem j5a {gs:List (List Int)} {f o f' o':Nat} {k:Int} (h:f≠f'∨o≠o'):getG (addG gs f o k) f' o'=getG gs f' o':=by
 unfold getG addG;rw[zB3 (l:=gs.set _ _)];by_cases e:f=f'
 ·subst e;by_cases hf:f<gs.length
  ·rw[List.getElem?_set_self hf,Option.getD_some,zB3,List.getElem?_set_ne (by omega),<-zB3]
  ·rw[List.getElem?_eq_none (by rw[List.length_set];omega),zB3 (l:=gs),List.getElem?_eq_none (by omega)]
 ·rw[List.getElem?_set_ne e,<-zB3]
theorem RD.at2 {f o f' o':Nat} (a:RD w0 w1 H q t vm vk vh bd vd ds vE gs vG gone vW whose ze1 ze2 zg1 zg2 z3 zr N p d w) (hf:f<gs.length) (ho:o<(gs.getD f []).length) (a3:f'<gs.length) (a2:o'<(gs.getD f' []).length) (a6:f≠f'∨o≠o') :
 ∃ b off c g cg g' a0,vE=.slice (some ⟨b,off,none⟩) gs.length c∧w.cell? ⟨b,off+f,none⟩=some (.slice (some ⟨g,0,none⟩) (gs.getD f []).length cg)∧w.cell? ⟨b,off+f',none⟩=some (.slice (some ⟨g',0,none⟩) (gs.getD f' []).length a0) ∧
  ((gs.getD f []).length<=cg∧cg<=maxLen∧(gs.getD f' []).length<=a0∧a0<=maxLen∧g≠p∧g'≠p) ∧
  w.cell? ⟨g,o,none⟩=some (.int .i64 (getG gs f o))∧w.frozen? ⟨g,o,none⟩=false∧w.cell? ⟨g',o',none⟩=some (.int .i64 (getG gs f' o')) ∧
  (w.frozen? ⟨g',o',none⟩=false∧∀ x,(w.setCell ⟨g,o,none⟩ (.int .i64 x)).frozen? ⟨g',o',none⟩=false∧(w.setCell ⟨g,o,none⟩ (.int .i64 x)).cell? ⟨g',o',none⟩=some (.int .i64 (getG gs f' o'))) ∧
  ∀ x k y k',x=getG gs f o+k->y=getG gs f' o'+k'->RD w0 w1 H q t vm vk vh bd vd ds vE (addG (addG gs f o k) f' o' k') vG gone vW whose ze1 ze2 zg1 zg2 z3 zr N p d ((w.setCell ⟨g,o,none⟩ (.int .i64 x)).setCell ⟨g',o',none⟩ (.int .i64 y)):=by
 obtain⟨b,off,c,g,cg,e1,e2,e3,e4,e5,e6,e7,e8,e9⟩:=a.at1 hf ho;obtain⟨b',a4,c',g',a0,i1,i2,i3,i4,i5,i6,i7,i8,i9⟩:=a.at1 a3 a2;rw[e1] at i1;cases i1;have step:∀ x k,x=getG gs f o+k->(w.setCell ⟨g,o,none⟩ (.int .i64 x)).frozen? ⟨g',o',none⟩=false∧(w.setCell ⟨g,o,none⟩ (.int .i64 x)).cell? ⟨g',o',none⟩=some (.int .i64 (getG gs f' o')) ∧
  ∀ y k',y=getG gs f' o'+k'->RD w0 w1 H q t vm vk vh bd vd ds vE (addG (addG gs f o k) f' o' k') vG gone vW whose ze1 ze2 zg1 zg2 z3 zr N p d ((w.setCell ⟨g,o,none⟩ (.int .i64 x)).setCell ⟨g',o',none⟩ (.int .i64 y)):=fun x k hx=>by
  obtain⟨b2,a5,c2,g2,a7,j1,j2,j3,j4,j5,j6,j7,j8,j9⟩:=(e9 x k hx).at1 (f:=f') (o:=o') (by rw[j4a];exact a3) (by rw[k8f];exact a2)
  rw[e1,j4a] at j1;cases j1;have a1:(w.setCell ⟨g,o,none⟩ (.int .i64 x)).cell? ⟨b,off+f',none⟩=w.cell? ⟨b,off+f',none⟩:=World.cell?_of_block (zB1 _ ⟨g,o,none⟩ _ _ (by show b≠g;exact e7))
  rw[a1,i2,k8f] at j2;cases j2;rw[j5a a6] at j5 j9;exact⟨j6,j5,fun y k' hy=>j9 y k' hy⟩
 refine⟨b,off,c,g,cg,g',a0,e1,e2,i2,⟨e3,e4,i3,i4,e8,i8⟩,e5,e6,i5,⟨i6,fun x=>?_⟩,fun x k y k' hx hy=>(step x k hx).2.2 y k' hy⟩
 have:=step x (x-getG gs f o) (by omega)
 exact⟨this.1,this.2.1⟩
theorem RD.at3 {A:Option Addr} {n a0 f o:Nat} (a:RD w0 w1 H q t vm vk vh bd vd ds vE gs (.slice A n a0) gone vW whose ze1 ze2 zg1 zg2 z3 zr N p d w) (hf:f<gs.length) (ho:o<(gs.getD f []).length) (a2:o<gone.length) :
 ∃ b off c g cg gg,vE=.slice (some ⟨b,off,none⟩) gs.length c∧A=some ⟨gg,0,none⟩∧w.cell? ⟨b,off+f,none⟩=some (.slice (some ⟨g,0,none⟩) (gs.getD f []).length cg) ∧
  ((gs.getD f []).length<=cg∧cg<=maxLen∧g≠p∧gg≠p) ∧
  w.cell? ⟨g,o,none⟩=some (.int .i64 (getG gs f o))∧w.frozen? ⟨g,o,none⟩=false∧w.cell? ⟨gg,o,none⟩=some (.int .i64 (gone.getD o 0)) ∧
  (w.frozen? ⟨gg,o,none⟩=false∧∀ x,(w.setCell ⟨g,o,none⟩ (.int .i64 x)).frozen? ⟨gg,o,none⟩=false∧(w.setCell ⟨g,o,none⟩ (.int .i64 x)).cell? ⟨gg,o,none⟩=some (.int .i64 (gone.getD o 0))) ∧
  ∀ x k y,x=getG gs f o+k->RD w0 w1 H q t vm vk vh bd vd ds vE (addG gs f o k) (.slice A n a0) (gone.set o y) vW whose ze1 ze2 zg1 zg2 z3 zr N p d ((w.setCell ⟨g,o,none⟩ (.int .i64 x)).setCell ⟨gg,o,none⟩ (.int .i64 y)):=by
 obtain⟨b,off,c,g,cg,e1,e2,e3,e4,e5,e6,e7,e8,e9⟩:=a.at1 hf ho;obtain⟨gg,i1,i2,i3,i4,i5⟩:=a.td.atG a2;have a4:=a.pz;have step:∀ x k,x=getG gs f o+k->(w.setCell ⟨g,o,none⟩ (.int .i64 x)).frozen? ⟨gg,o,none⟩=false∧(w.setCell ⟨g,o,none⟩ (.int .i64 x)).cell? ⟨gg,o,none⟩=some (.int .i64 (gone.getD o 0)) ∧
  ∀ y,RD w0 w1 H q t vm vk vh bd vd ds vE (addG gs f o k) (.slice A n a0) (gone.set o y) vW whose ze1 ze2 zg1 zg2 z3 zr N p d ((w.setCell ⟨g,o,none⟩ (.int .i64 x)).setCell ⟨gg,o,none⟩ (.int .i64 y)):=fun x k hx=>by
  have a1:=e9 x k hx;obtain⟨a3,j1,j2,j3,j4,j5⟩:=a1.td.atG a2;rw[i1] at j1;cases j1;exact⟨j3,j2,fun y=>⟨j5 y,(zB1 _ ⟨gg,o,none⟩ _ _ (by show p≠gg;omega)).trans a1.bx,a.pz⟩⟩
 refine⟨b,off,c,g,cg,gg,e1,i1,e2,⟨e3,e4,e8,by omega⟩,e5,e6,i2,⟨i3,fun x=>?_⟩,fun x k y hx=>(step x k hx).2.2 y⟩
 have:=step x (x-getG gs f o) (by omega)
 exact⟨this.1,this.2.1⟩
end
section
variable {w0 w1 w w':World} {H q N N' ze1 ze2 zg1 zg2 z3 zr p n nh ce:Nat} {t:Int} {vm vk vh bd vd vG vW:Value} {Ae:Option Addr} {ds:List De} {gs:List (List Int)} {gone whose:List Int} {d:De}
theorem RD.c1 {f o:Nat} (a:RD w0 w1 H q t vm vk vh bd vd ds (.slice Ae nh ce) gs vG gone vW whose ze1 ze2 zg1 zg2 z3 zr N p d w) (hs:GSh n nh gs) (hf:f<nh) (ho:o<n) :
 ∃ b off g cg,Ae=some ⟨b,off,none⟩∧nh<=ce∧ce<=maxLen∧w.cell? ⟨b,off+f,none⟩=some (.slice (some ⟨g,0,none⟩) n cg)∧n<=cg∧cg<=maxLen ∧
  w.cell? ⟨g,o,none⟩=some (.int .i64 (getG gs f o))∧w.frozen? ⟨g,o,none⟩=false∧g≠p ∧
  ∀ x k,x=getG gs f o+k->RD w0 w1 H q t vm vk vh bd vd ds (.slice Ae nh ce) (addG gs f o k) vG gone vW whose ze1 ze2 zg1 zg2 z3 zr N p d (w.setCell ⟨g,o,none⟩ (.int .i64 x)):=by
 obtain⟨b,off,c,g,cg,e1,e2,e3,e4,e5,e6,e7,e8,e9⟩:=a.at1 (f:=f) (o:=o) (by rw[hs.l];exact hf) (by rw[hs.row hf];exact ho)
 obtain⟨-,g1,g2,-⟩:=a.td.grid;rw[hs.l] at e1;cases e1;rw[hs.row hf] at e2 e3;exact⟨b,off,g,cg,rfl,g1,g2,e2,e3,e4,e5,e6,e8,e9⟩
theorem RD.c2 {f o f' o':Nat} (a:RD w0 w1 H q t vm vk vh bd vd ds (.slice Ae nh ce) gs vG gone vW whose ze1 ze2 zg1 zg2 z3 zr N p d w) (hs:GSh n nh gs) (hf:f<nh) (ho:o<n) (a1:f'<nh) (a2:o'<n) (a3:f≠f'∨o≠o') :
 ∃ b off g cg g' a0,Ae=some ⟨b,off,none⟩∧nh<=ce∧ce<=maxLen∧w.cell? ⟨b,off+f,none⟩=some (.slice (some ⟨g,0,none⟩) n cg)∧w.cell? ⟨b,off+f',none⟩=some (.slice (some ⟨g',0,none⟩) n a0) ∧
  (n<=cg∧cg<=maxLen∧n<=a0∧a0<=maxLen∧g≠p∧g'≠p) ∧
  w.cell? ⟨g,o,none⟩=some (.int .i64 (getG gs f o))∧w.frozen? ⟨g,o,none⟩=false∧w.cell? ⟨g',o',none⟩=some (.int .i64 (getG gs f' o')) ∧
  (w.frozen? ⟨g',o',none⟩=false∧∀ x,(w.setCell ⟨g,o,none⟩ (.int .i64 x)).frozen? ⟨g',o',none⟩=false∧(w.setCell ⟨g,o,none⟩ (.int .i64 x)).cell? ⟨g',o',none⟩=some (.int .i64 (getG gs f' o'))) ∧
  ∀ x k y k',x=getG gs f o+k->y=getG gs f' o'+k'->RD w0 w1 H q t vm vk vh bd vd ds (.slice Ae nh ce) (addG (addG gs f o k) f' o' k') vG gone vW whose ze1 ze2 zg1 zg2 z3 zr N p d ((w.setCell ⟨g,o,none⟩ (.int .i64 x)).setCell ⟨g',o',none⟩ (.int .i64 y)):=by
 obtain⟨b,off,c,g,cg,g',a0,e1,e2,e3,e4,e5,e6,e7,e8,e9⟩:=a.at2 (f:=f) (o:=o) (f':=f') (o':=o') (by rw[hs.l];exact hf) (by rw[hs.row hf];exact ho) (by rw[hs.l];exact a1) (by rw[hs.row a1];exact a2) a3
 obtain⟨-,g1,g2,-⟩:=a.td.grid;rw[hs.l] at e1;cases e1;rw[hs.row hf] at e2 e4;rw[hs.row a1] at e3 e4;exact⟨b,off,g,cg,g',a0,rfl,g1,g2,e2,e3,e4,e5,e6,e7,e8,e9⟩
theorem RD.c1k {be off g cg f o:Nat} (a:RD w0 w1 H q t vm vk vh bd vd ds (.slice (some ⟨be,off,none⟩) nh ce) gs vG gone vW whose ze1 ze2 zg1 zg2 z3 zr N p d w) (hs:GSh n nh gs) (hf:f<nh) (ho:o<n) (hd:w.grownBy w' (some H))
 (h2:w.cell? ⟨be,off+f,none⟩=some (.slice (some ⟨g,0,none⟩) n cg)):w'.cell? ⟨be,off+f,none⟩=some (.slice (some ⟨g,0,none⟩) n cg)∧w'.cell? ⟨g,o,none⟩=some (.int .i64 (getG gs f o)):=by
 obtain⟨a1,a2,a3⟩:=a.td.h1;obtain⟨⟨c1,c2,c3,c4,c5,c6⟩,b3,b4⟩:=a.td.zz;obtain⟨b',a0,c',g',a4,e1,e2,e3,e4,e5,e6,e7,a5,e8,e9,-⟩:=a.td.e.at (f:=f) (o:=o) (by rw[hs.l];exact hf) (by rw[hs.row hf];exact ho)
 cases e1;rw[h2] at e2;cases e2;obtain⟨mv,o1,-⟩:=a.td.e;have hb:=o1.lt be rfl;exact⟨(World.cell?_of_block (hd.block be hb.2 (fun e=>by cases e;omega))).trans h2,(World.cell?_of_block (hd.block g e7 (fun e=>by cases e;omega))).trans e8⟩
theorem RD.c3 {A:Option Addr} {a0 f o:Nat} (a:RD w0 w1 H q t vm vk vh bd vd ds (.slice Ae nh ce) gs (.slice A n a0) gone vW whose ze1 ze2 zg1 zg2 z3 zr N p d w) (hs:GSh n nh gs) (hf:f<nh) (ho:o<n) :
 ∃ b off g cg gg,Ae=some ⟨b,off,none⟩∧A=some ⟨gg,0,none⟩∧gone.length=n∧n<=a0∧a0<=maxLen∧nh<=ce∧ce<=maxLen∧w.cell? ⟨b,off+f,none⟩=some (.slice (some ⟨g,0,none⟩) n cg) ∧
  (n<=cg∧cg<=maxLen∧g≠p∧gg≠p) ∧
  w.cell? ⟨g,o,none⟩=some (.int .i64 (getG gs f o))∧w.frozen? ⟨g,o,none⟩=false∧w.cell? ⟨gg,o,none⟩=some (.int .i64 (gone.getD o 0)) ∧
  (w.frozen? ⟨gg,o,none⟩=false∧∀ x,(w.setCell ⟨g,o,none⟩ (.int .i64 x)).frozen? ⟨gg,o,none⟩=false∧(w.setCell ⟨g,o,none⟩ (.int .i64 x)).cell? ⟨gg,o,none⟩=some (.int .i64 (gone.getD o 0))) ∧
  ∀ x k y,x=getG gs f o+k->RD w0 w1 H q t vm vk vh bd vd ds (.slice Ae nh ce) (addG gs f o k) (.slice A n a0) (gone.set o y) vW whose ze1 ze2 zg1 zg2 z3 zr N p d ((w.setCell ⟨g,o,none⟩ (.int .i64 x)).setCell ⟨gg,o,none⟩ (.int .i64 y)):=by
 obtain⟨A',c',hv,_,a1,a2⟩:=a.td.g.form j0n;cases hv;obtain⟨b,off,c,g,cg,gg,e1,e2,e3,e4,e5,e6,e7,e8,e9⟩:=a.at3 (f:=f) (o:=o) (by rw[hs.l];exact hf) (by rw[hs.row hf];exact ho) ho
 obtain⟨-,g1,g2,-⟩:=a.td.grid;rw[hs.l] at e1;cases e1;rw[hs.row hf] at e3 e4;exact⟨b,off,g,cg,gg,rfl,e2,rfl,a1,a2,g1,g2,e3,e4,e5,e6,e7,e8,e9⟩
end
theorem j2n {x:Int} (h:-1600<=x∧x<=1600):-1000000<=x.tdiv 100∧x.tdiv 100<=1000000:=by
 rcases Int.le_total 0 x with h0|h0
 ·rw[Int.tdiv_eq_ediv_of_nonneg h0];omega
 ·obtain⟨y,rfl⟩:∃ y,x=-y:=⟨-x,by omega⟩
  rw[Int.neg_tdiv,Int.tdiv_eq_ediv_of_nonneg (by omega)];omega
theorem j7w {er n a:Int} (he:er=0∨er=5∨er=20) (hn:0<=n∧n<=80) (h1:(-er*n).tdiv 100<=a) (h2:a<=(er*n).tdiv 100∨a=(-er*n).tdiv 100):(100*a<=er*n∧-(er*n)<=100*a)∧-100<=a∧a<=100:=by
 rw[Int.neg_mul,Int.neg_tdiv] at h1 h2;rcases he with rfl|rfl|rfl
 all_goals
  rw[Int.tdiv_eq_ediv_of_nonneg (by omega)] at h1 h2
  omega
def j4p (n:Nat):Code->Option Code
 | .block m c=>if m=n then some (.block m c) else j4p n c
 | .seq a b=>match j4p n a with
   | some x=>some x
   | none=>j4p n b
 | .cond _ a b=>match j4p n a with
   | some x=>some x
   | none=>j4p n b
 | .loop c=>j4p n c
 | .scope c=>j4p n c
 | _=>none
noncomputable def j3a:Code:=((Tryz.f20.body.bind (j4p 6)).getD .skip)
def SwD (w w1:World) (H q:Nat) (t:Int) (al nh be off ce g18 ze1 ze2 zg1 zg2 z3 zr p:Nat) (A Ak Ah:Option Addr) (c ck ch:Nat) (vd:Value) (ds:List De) (gs:List (List Int)) (gone:List Int) (vW:Value) (whose:List Int) (N:Nat) (d:De) (W:World):Prop :=
 RD w w1 H q t (.slice A al c) (.slice Ak nh ck) (.slice Ah nh ch) vd vd ds (.slice (some ⟨be,off,none⟩) nh ce) gs (.slice (some ⟨g18,0,none⟩) al al) gone vW whose ze1 ze2 zg1 zg2 z3 zr N p d W
def SwRel (w w1:World) (H q:Nat) (t:Int) (al nh be off ce g18 ze1 ze2 zg1 zg2 z3 zr p:Nat) (A Ak Ah:Option Addr) (c ck ch:Nat) (vd:Value) (ds:List De) (vW:Value) (whose:List Int) (M3:Nat) (l:List Mk) (ks:List Int) (hs:List (List Int)) (Z0:Value) (w':World):Prop :=
 ∃ (ow:Int) (d:De) (gs':List (List Int)) (gone':List Int),Z0=.int .i64 ow∧SwD w w1 H q t al nh be off ce g18 ze1 ze2 zg1 zg2 z3 zr p A Ak Ah c ck ch vd ds gs' gone' vW whose (M3+500) d w'∧R3 t l ks hs (ds++[d]) gs' gone' (whose++[ow])
structure SwC (t:Int) (al nh f:Nat) (ho sm:Int) (l:List Mk) (ks:List Int) (hs:List (List Int)) (ds:List De) (gs:List (List Int)) (gone whose:List Int):Prop where
 r:R3 t l ks hs ds gs gone whose
 d6:ds.length<=6
 nk:ks.length=nh
 nl:l.length=al
 fk:f<ks.length
 sh:GSh al nh gs
 rb:∀ r∈gs,r.length<=1000∧∀ x∈r,-100000<=x∧x<=100000
 gb:∀ o:Nat,o<al->0<=getG gs f o∧getG gs f o<=80
 su:sm=(gs.getD f []).sum
 h:ho=-1∨∃ o:Nat,ho=o∧o<al∧0<getG gs f o∧1<=sm
 gl:gone.length=al
theorem SwC.mk' {t:Int} {al nh f:Nat} {ho:Int} {l:List Mk} {ks:List Int} {hs:List (List Int)} {ds:List De} {gs:List (List Int)} {a0 whose:List Int} (hR:R3 t l ks hs ds gs a0 whose) (hd:ds.length<=6) (a3:ks.length=nh) (a1:l.length=al) (hf:f<nh) (hh:Holds (gs.getD f []) ho) :
 SwC t al nh f ho (gs.getD f []).sum l ks hs ds gs a0 whose:=by
 have a6:f<ks.length:=by omega
 have a2:GSh al nh gs:=by have:=hR.sh;rwa [a1,a3] at this
 have a5:∀ o:Nat,o<al->0<=getG gs f o∧getG gs f o<=80:=fun o ho=>by
  have:=hR.bd (f:=f) (o:=o) a6 (by omega)
  omega
 refine⟨hR,hd,a3,a1,a6,a2,fun r hr=>⟨(hR.elt r hr).1,fun x hx=>⟨((hR.elt r hr).2 x hx).1,by have:=((hR.elt r hr).2 x hx).2;omega⟩⟩,a5,rfl,?_,by rw[hR.ti.gl];exact a1⟩
 rcases hh with ⟨h,-⟩|⟨o,h1,h2,h3⟩
 ·exact .inl h
 ·refine .inr ⟨o,h1,by rw[a2.row hf] at h2;exact h2,h3,?_⟩
  have:=pos_sum (row:=gs.getD f []) (fun x hx=>?_) h2 h3
  ·omega
  ·obtain⟨k,hk⟩:=List.mem_iff_getElem?.1 hx;have a4:k<(gs.getD f []).length:=(List.getElem?_eq_some_iff.1 hk).1;rw[a2.row hf] at a4;have:=(a5 k a4).1;unfold getG at this;rw[zB3 (l:=gs.getD f []),hk] at this;exact this
def TS1 (Vd V1:World) (j:Nat) (w w':World):Prop:=match j with
 | 1=>w=Vd∧w'=V1
 | _=>w=w'
def PS1 (Vd V1:World) (k:Nat) (w:World):Prop:=match k with
 | 0=>w=Vd∨w=V1
 | 1=>w=Vd
 | _=>True
theorem PS1.start {Vd V1:World} (k:Nat):PS1 Vd V1 k Vd:=by
 match k with
 | 0=>exact .inl rfl
 | 1=>exact rfl
 | n+2=>exact trivial
theorem PS1.st {Vd V1:World} (k j:Nat) (w w':World) (hc:j≠k∨k=0) (hT:TS1 Vd V1 j w w') (hp:PS1 Vd V1 k w):PS1 Vd V1 k w':=by
 match k,hp with
 | 0,hp =>
   match j,hT with
   | 0,hT=>cases(show w=w' from hT);exact hp
   | 1,hT=>exact .inr (show w=Vd∧w'=V1 from hT).2
   | n+2,hT=>cases(show w=w' from hT);exact hp
 | 1,hp =>
   match j,hT with
   | 0,hT=>cases(show w=w' from hT);exact hp
   | 1,hT=>rcases hc with h|h<;>omega
   | n+2,hT=>cases(show w=w' from hT);exact hp
 | n+2,hp=>exact trivial
theorem TS1.keep {Vd V1:World} (j:Nat) (v:Value) (w w':World) (hc:j≠1∨1=0) (hT:TS1 Vd V1 j w w') (h:w=V1):w'=V1:=by
 match j,hT with
 | 0,hT=>cases(show w=w' from hT);exact h
 | 1,hT=>rcases hc with h|h<;>omega
 | n+2,hT=>cases(show w=w' from hT);exact h
def THw (H N:Nat) (j:Nat) (w w':World):Prop:=match j with
 | 1=>Dealt w w' H (N+1)
 | 2=>Dealt w w' H (N+111)
 | 3=>Below w.heap.size w w'
 | _=>w=w'
def PHw (ws:World) (H N:Nat) (k:Nat) (w:World):Prop:=match k with
 | 0=>ws.grownBy w (some H)
 | 1=>Hd w H N
 | 2=>Hd w H (N+1)
 | _=>True
theorem THw.rf {H N:Nat} (w:World):THw H N 0 w w:=rfl
theorem q0y {w w':World} {r:Option Nat} (h:Below w.heap.size w w'):w.grownBy w' r:=⟨h.os,h.tape,h.output,h.size,fun k hk _=>h.block k hk⟩
theorem THw.gr {H N j:Nat} {w w':World} (h:THw H N j w w'):w.grownBy w' (some H):=by
 match j,h with
 | 0,h=>cases(show w=w' from h);exact World.grownBy.refl _ _
 | 1,h=>exact(show Dealt w w' H (N+1) from h).gr
 | 2,h=>exact(show Dealt w w' H (N+111) from h).gr
 | 3,h=>exact q0y (show Below w.heap.size w w' from h)
 | n+4,h=>cases(show w=w' from h);exact World.grownBy.refl _ _
theorem PHw.start {ws:World} {H N:Nat} (h:Hd ws H N) (k:Nat):PHw ws H N k ws:=by
 match k with
 | 0=>exact World.grownBy.refl _ _
 | 1=>exact h
 | 2=>exact h.mono (by omega)
 | n+3=>exact trivial
theorem PHw.st {ws:World} {H N:Nat} {bf:Nat->Nat->Prop} (hb:bf 2 1) (k j:Nat) (w w':World) (hc:j≠k∨k=0) (hn:¬bf j k) (hT:THw H N j w w') (hp:PHw ws H N k w):PHw ws H N k w':=by
 match k,hp with
 | 0,hp=>exact World.grownBy.trans (show ws.grownBy w (some H) from hp) hT.gr
 | 1,hp =>
   match j,hT with
   | 0,hT=>cases(show w=w' from hT);exact hp
   | 1,hT=>rcases hc with h|h<;>omega
   | 2,hT=>exact absurd hb hn
   | 3,hT=>exact(show Hd w H N from hp).below (show Below w.heap.size w w' from hT) (show Hd w H N from hp).lt
   | n+4,hT=>cases(show w=w' from hT);exact hp
 | 2,hp =>
   match j,hT with
   | 0,hT=>cases(show w=w' from hT);exact hp
   | 1,hT=>exact(show Dealt w w' H (N+1) from hT).hd
   | 2,hT=>rcases hc with h|h<;>omega
   | 3,hT=>exact(show Hd w H (N+1) from hp).below (show Below w.heap.size w w' from hT) (show Hd w H (N+1) from hp).lt
   | n+4,hT=>cases(show w=w' from hT);exact hp
 | n+3,hp=>exact trivial
theorem THw.keep2 {H N:Nat} {bf:Nat->Nat->Prop} {G:Sg->Prop} (hb:bf 2 1) (j:Nat) (v:Value) (w w':World) (hc:j≠2∨2=0) (hn:¬bf 2 j) (hT:THw H N j w w') (h:∃ k:Sg,v=vSg k∧G k∧Hd w H (N+111)):∃ k:Sg,v=vSg k∧G k∧Hd w' H (N+111):=by
 obtain⟨k,h1,h2,h3⟩:=h;refine⟨k,h1,h2,?_⟩
 match j,hT with
 | 0,hT=>cases(show w=w' from hT);exact h3
 | 1,hT=>exact absurd hb hn
 | 2,hT=>rcases hc with h|h<;>omega
 | 3,hT=>exact h3.below (show Below w.heap.size w w' from hT) h3.lt
 | n+4,hT=>cases(show w=w' from hT);exact h3
def TS2 (Vd V1 V2:World) (j:Nat) (w w':World):Prop:=match j with
 | 1=>w=Vd∧w'=V1
 | 2=>w=V1∧w'=V2
 | _=>w=w'
def PS2 (Vd V1 V2:World) (k:Nat) (w:World):Prop:=match k with
 | 0=>w=Vd∨w=V1∨w=V2
 | 1=>w=Vd
 | 2=>w=Vd∨w=V1
 | _=>True
theorem PS2.start {Vd V1 V2:World} (k:Nat):PS2 Vd V1 V2 k Vd:=by
 match k with
 | 0=>exact .inl rfl
 | 1=>exact rfl
 | 2=>exact .inl rfl
 | n+3=>exact trivial
theorem PS2.st {Vd V1 V2:World} {bf:Nat->Nat->Prop} (hb:bf 2 1) (k j:Nat) (w w':World) (hc:j≠k∨k=0) (hn:¬bf j k) (hT:TS2 Vd V1 V2 j w w') (hp:PS2 Vd V1 V2 k w):PS2 Vd V1 V2 k w':=by
 match k,hp with
 | 0,hp =>
   match j,hT with
   | 0,hT=>cases(show w=w' from hT);exact hp
   | 1,hT=>exact .inr (.inl (show w=Vd∧w'=V1 from hT).2)
   | 2,hT=>exact .inr (.inr (show w=V1∧w'=V2 from hT).2)
   | n+3,hT=>cases(show w=w' from hT);exact hp
 | 1,hp =>
   match j,hT with
   | 0,hT=>cases(show w=w' from hT);exact hp
   | 1,hT=>rcases hc with h|h<;>omega
   | 2,hT=>exact absurd hb hn
   | n+3,hT=>cases(show w=w' from hT);exact hp
 | 2,hp =>
   match j,hT with
   | 0,hT=>cases(show w=w' from hT);exact hp
   | 1,hT=>exact .inr (show w=Vd∧w'=V1 from hT).2
   | 2,hT=>rcases hc with h|h<;>omega
   | n+3,hT=>cases(show w=w' from hT);exact hp
 | n+3,hp=>exact trivial
theorem TS2.keep1 {Vd V1 V2:World} (a0:V2≠Vd) (j:Nat) (v:Value) (w w':World) (hc:j≠1∨1=0) (hT:TS2 Vd V1 V2 j w w') (h:w≠Vd):w'≠Vd:=by
 match j,hT with
 | 0,hT=>cases(show w=w' from hT);exact h
 | 1,hT=>rcases hc with h|h<;>omega
 | 2,hT=>rw[(show w=V1∧w'=V2 from hT).2];exact a0
 | n+3,hT=>cases(show w=w' from hT);exact h
theorem TS2.keep2 {Vd V1 V2:World} {bf:Nat->Nat->Prop} (hb:bf 2 1) (j:Nat) (v:Value) (w w':World) (hc:j≠2∨2=0) (hn:¬bf 2 j) (hT:TS2 Vd V1 V2 j w w') (h:w=V2):w'=V2:=by
 match j,hT with
 | 0,hT=>cases(show w=w' from hT);exact h
 | 1,hT=>exact absurd hb hn
 | 2,hT=>rcases hc with h|h<;>omega
 | n+3,hT=>cases(show w=w' from hT);exact h
def LaidP (p:Prop):Prop:=p
def THd (H N:Nat) (j:Nat) (w w':World):Prop:=match j with
 | 1=>Dealt w w' H (N+1)
 | 2=>Dealt w w' H (N+2)
 | _=>w=w'
def PHd (ws:World) (H N:Nat) (k:Nat) (w:World):Prop:=match k with
 | 0=>ws.grownBy w (some H)
 | 1=>Hd w H N
 | 2=>Hd w H (N+1)
 | _=>True
theorem THd.rf {H N:Nat} (w:World):THd H N 0 w w:=rfl
theorem THd.gr {H N j:Nat} {w w':World} (h:THd H N j w w'):w.grownBy w' (some H):=by
 match j,h with
 | 0,h=>cases(show w=w' from h);exact World.grownBy.refl _ _
 | 1,h=>exact(show Dealt w w' H (N+1) from h).gr
 | 2,h=>exact(show Dealt w w' H (N+2) from h).gr
 | n+3,h=>cases(show w=w' from h);exact World.grownBy.refl _ _
theorem PHd.start {ws:World} {H N:Nat} (h:Hd ws H N) (k:Nat):PHd ws H N k ws:=by
 match k with
 | 0=>exact World.grownBy.refl _ _
 | 1=>exact h
 | 2=>exact h.mono (by omega)
 | n+3=>exact trivial
theorem PHd.st {ws:World} {H N:Nat} {bf:Nat->Nat->Prop} (hb:bf 2 1) (k j:Nat) (w w':World) (hc:j≠k∨k=0) (hn:¬bf j k) (hT:THd H N j w w') (hp:PHd ws H N k w):PHd ws H N k w':=by
 match k,hp with
 | 0,hp=>exact World.grownBy.trans (show ws.grownBy w (some H) from hp) hT.gr
 | 1,hp =>
   match j,hT with
   | 0,hT=>cases(show w=w' from hT);exact hp
   | 1,hT=>rcases hc with h|h<;>omega
   | 2,hT=>exact absurd hb hn
   | n+3,hT=>cases(show w=w' from hT);exact hp
 | 2,hp =>
   match j,hT with
   | 0,hT=>cases(show w=w' from hT);exact hp
   | 1,hT=>exact(show Dealt w w' H (N+1) from hT).hd
   | 2,hT=>rcases hc with h|h<;>omega
   | n+3,hT=>cases(show w=w' from hT);exact hp
 | n+3,hp=>exact trivial
theorem THd.keep2 {H N:Nat} {bf:Nat->Nat->Prop} {G:Int->Prop} (hb:bf 2 1) (j:Nat) (v:Value) (w w':World) (hc:j≠2∨2=0) (hn:¬bf 2 j) (hT:THd H N j w w') (h:∃ k:Int,v=.int .i64 k∧G k∧Hd w H (N+2)):∃ k:Int,v=.int .i64 k∧G k∧Hd w' H (N+2):=by
 obtain⟨k,h1,h2,h3⟩:=h;refine⟨k,h1,h2,?_⟩
 match j,hT with
 | 0,hT=>cases(show w=w' from hT);exact h3
 | 1,hT=>exact absurd hb hn
 | 2,hT=>rcases hc with h|h<;>omega
 | n+3,hT=>cases(show w=w' from hT);exact h3
theorem q0q (o x n:Nat) (w:World) (ho:o<n) (hx:1<=x) (a0:x<n) (hn:n<=1000) :
 Calls Tryz.prog 74 #[.int .i64 ((o:Int)+(x:Int)),.int .i64 n] w fun e w'=>∃ pp:Nat,e=.returned (.int .i64 pp)∧pp<n∧o≠pp∧w=w':=by
 have h:=q6l (o+x) n w (by omega) (by omega) (by omega)
 rw[Int.natCast_add] at h;refine h.mono fun e w' ⟨h1,h2⟩=>⟨(o+x) % n,h1,Nat.mod_lt _ (by omega),fun e=>?_,h2⟩
 by_cases hc:o+x<n
 ·rw[Nat.mod_eq_of_lt hc] at e;omega
 ·rw[Nat.mod_eq_sub_mod (by omega),Nat.mod_eq_of_lt (by omega)] at e;omega
def SwQ (w w1:World) (H q p f al nh be off ce g18 ze1 ze2 zg1 zg2 z3 zr M3:Nat) (t ho kd:Int) (vd:Value) (A Ak Ah:Option Addr) (c ck ch:Nat) (l:List Mk) (ks:List Int) (hs:List (List Int)) (ds:List De) (whose:List Int) (v1 v2 v3 v4 v5 v6 v7 v8 v9 Z1 Z2 Z3 Z4 Z5 Z6 Z7 Z8 Z9 ZA ZB ZC ZD ZE ZF ZG ZH ZI ZJ ZK ZL ZM ZN ZO ZP ZQ ZR ZS ZT ZU ZV ZW ZX ZY ZZ Za Zb Zc Zd Ze Zf Zg Zh Zi Zj Zk Zl Zm Zn Zo Zp Zq Zr Zs Zt Zu Zv Zw Zx Zy Zz Y0 Y1 Y2 Y3 Y4 Y5 Y6 Y7 Y8 Y9 YA YB YC YD YE YF YG YH YI YJ YK YL YM YN YO YP YQ YR YS:Value) (Q:Exit->Act->World->Prop):Prop :=
 ∀ (Z0 YT YU YV YW YX YY YZ Ya Yb Yc Yd Ye Yf Yg Yh Yi Yj Yk Yl Ym Yn Yo Yp Yq Yr Ys Yt Yu Yv Yw Yx Yy Yz X0 X1 X2 X3 X4 X5 X6 X7 X8 X9 XA XB XC XD XE XF XG XH XI XJ XK XL XM XN XO XP XQ XR XS XT XU XV XW XX XY XZ Xa Xb Xc Xd Xe Xf Xg Xh Xi Xj Xk Xl Xm Xn Xo Xp Xq Xr Xs Xt Xu Xv Xw Xx Xy Xz K0 K1 K2 K3 K4 K5 K6 K7 K8 K9 KA KB KC KD KE KF KG KH KI KJ KK KL KM KN KO KP KQ KR KS KT KU KV KW KX KY KZ Ka Kb Kc Kd Ke Kf Kg Kh Ki Kj Kk Kl Km Kn Ko Kp Kq Kr Ks Kt Ku Kv Kw Kx Ky Kz J0 J1 J2 J3 J4 J5 J6 J7 J8 J9 JA JB JC JD JE JF JG JH JI JJ JK JL JM JN JO JP JQ JR JS JT JU JV JW JX JY JZ Ja Jb Jc Jd Je Jf Jg Jh Ji Jj Jk Jl Jm Jn Jo Jp Jq Jr Js Jt Ju Jv Jw Jx Jy Jz G0 G1 G2 G3 G4 G5 G6 G7 G8 G9 GA GB GC GD GE GF GG GH GI GJ GK GL GM GN GO GP GQ GR GS GT GU GV GW GX GY GZ Ga Gb Gc Gd Ge Gf Gg Gh Gi Gj Gk Gl Gm Gn Gp Gq Gr Gs Gt Gu Gv Gw Gx Gy Gz F0 F1 F2 F3 F4 F5 F6 F7 F8 F9 FA FB:Value) (w':World),SwRel w w1 H q t al nh be off ce g18 ze1 ze2 zg1 zg2 z3 zr p A Ak Ah c ck ch vd ds Z6 whose M3 l ks hs Z0 w'->Q .normal ⟨#[Value.pointer (some ⟨H,0,none⟩),v1,v2,v3,v4,v5,v6,v7,v8,v9,Z1,Z2,Value.pointer (some ⟨q,0,none⟩),Value.int .i64 (al:Int),Z3,Z4,Z5,Value.slice (some ⟨be,off,none⟩) nh ce,Value.slice (some ⟨g18,0,none⟩) al al,Z6,Z7,Value.int .i64 (f:Int),Value.int .i64 ho,Z0,Value.int .i64 kd,Value.pointer (some ⟨p,0,none⟩),YT,YU,YV,Z8,Z9,ZA,ZB,ZC,ZD,ZE,ZF,ZG,ZH,ZI,ZJ,ZK,ZL,ZM,ZN,ZO,ZP,ZQ,ZR,ZS,ZT,ZU,ZV,ZW,ZX,ZY,ZZ,Za,Zb,Zc,Zd,Ze,Zf,Zg,Zh,Zi,Zj,Zk,Zl,Zm,Zn,Zo,Zp,Zq,Zr,Zs,Zt,Zu,Zv,Zw,Zx,Zy,Zz,Y0,Y1,Y2,Y3,Y4,Y5,Y6,Y7,Y8,Y9,YA,YB,YC,YD,YE,YW,YX,YY,YZ,Ya,Yb,Yc,Yd,Ye,Yf,Yg,Yh,Yi,Yj,Yk,Yl,Ym,Yn,Yo,Yp,Yq,Yr,Ys,Yt,Yu,Yv,Yw,Yx,Yy,Yz,X0,X1,X2,X3,X4,X5,X6,X7,X8,X9,XA,XB,XC,XD,XE,XF,XG,XH,XI,XJ,XK,XL,XM,XN,XO,XP,XQ,XR,XS,XT,XU,XV,XW,XX,XY,XZ,Xa,Xb,Xc,Xd,Xe,Xf,Xg,Xh,Xi,Xj,Xk,Xl,Xm,Xn,Xo,Xp,Xq,Xr,Xs,Xt,Xu,Xv,Xw,Xx,Xy,Xz,K0,K1,K2,K3,K4,K5,K6,K7,K8,K9,KA,KB,KC,KD,KE,KF,KG,KH,KI,KJ,KK,KL,KM,KN,KO,KP,KQ,KR,KS,KT,KU,KV,KW,KX,KY,KZ,Ka,Kb,Kc,Kd,Ke,Kf,Kg,Kh,Ki,Kj,Kk,Kl,Km,Kn,Ko,Kp,Kq,Kr,Ks,Kt,Ku,Kv,Kw,Kx,Ky,Kz,J0,J1,J2,J3,J4,J5,J6,J7,J8,J9,JA,JB,JC,JD,JE,JF,JG,JH,JI,JJ,JK,JL,JM,JN,JO,JP,JQ,JR,JS,JT,JU,JV,JW,JX,JY,JZ,Ja,Jb,Jc,Jd,Je,Jf,Jg,Jh,Ji,Jj,Jk,Jl,Jm,Jn,Jo,Jp,Jq,Jr,Js,Jt,Ju,Jv,Jw,Jx,Jy,Jz,G0,G1,G2,G3,G4,G5,G6,G7,G8,G9,GA,GB,GC,GD,GE,GF,GG,GH,GI,GJ,GK,GL,GM,GN,GO,GP,GQ,GR,GS,GT,GU,GV,GW,GX,GY,GZ,Ga,Gb,Gc,Gd,Ge,Gf,Gg,Gh,Gi,Gj,Gk,Gl,Gm,Gn,Gp,Gq,Gr,Gs,Gt,Gu,Gv,Gw,Gx,Gy,Gz,F0,F1,F2,F3,F4,F5,F6,F7,F8,F9,FA,FB,YF,YG,YH,YI,YJ,YK,YL,YM,YN,YO,YP,YQ,YR,YS],[]⟩ w'
theorem SwC.sb {t:Int} {al nh f:Nat} {ho sm:Int} {l:List Mk} {ks:List Int} {hs:List (List Int)} {ds:List De} {gs:List (List Int)} {a0 whose:List Int} (h:SwC t al nh f ho sm l ks hs ds gs a0 whose):0<=sm∧sm<=80:=by
 have:=h.r.sum h.fk;have:=h.d6;rw[h.su];omega
end Go.Proofs.YtmennjmjakdkcaaGreat
