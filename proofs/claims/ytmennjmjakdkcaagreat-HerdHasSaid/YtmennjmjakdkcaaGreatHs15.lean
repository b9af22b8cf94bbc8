/- HerdHas. -/
import Derived.Test.YtmennjmjakdkcaaGreatHs14
set_option linter.unusedVariables false
set_option linter.unusedSimpArgs false
namespace Go.Proofs.YtmennjmjakdkcaaGreat
abbrev sZ:Sg:=⟨0,false,false,0,0⟩
structure R3 (t:Int) (l:List Mk) (ks:List Int) (hs:List (List Int)) (ds:List De) (gs:List (List Int)) (gone whose:List Int):Prop where
 n5:l.length≤5
 n0:0<l.length
 f3:ks.length≤3
 f0:0<ks.length
 sh:GSh l.length ks.length gs
 ti:TaleI t l hs ds gs gone whose
 de:∀ d∈ds,j0v l.length ks.length d=0
 gn:∀ o:Nat,0≤gone.getD o 0∧gone.getD o 0≤3*ds.length
section
variable {t:Int} {l:List Mk} {ks:List Int} {hs:List (List Int)} {ds:List De} {gs:List (List Int)} {gone whose:List Int}
theorem j5p (gs:List (List Int)):(j0j gs).length=15:=j7z gs
theorem R3.start (h5:l.length≤5) (h0:0<l.length) (h3:ks.length≤3) (f0:0<ks.length) (hl:hs.length=ks.length) (hr:∀ r∈hs,r.length=l.length∧∀ x∈r,0≤x∧x≤4):R3 t l ks hs [] hs (List.replicate l.length 0) []:=by
 have hb:∀ f o,0≤getG hs f o∧getG hs f o≤4:=fun f o=>by
  unfold getG
  rw[List.getD_eq_getElem?_getD,List.getD_eq_getElem?_getD]
  cases e:hs[f]? with
  | none=>simp
  | some r =>
    simp only[Option.getD_some]
    cases e2:r[o]? with
    | none=>simp
    | some x =>
      simp only[Option.getD_some]
      exact(hr r (List.mem_of_getElem? e)).2 x (List.mem_of_getElem? e2)
 have hg:∀ f o,f<3→o<5→0≤hget (j0j hs) f o∧hget (j0j hs) f o≤4:=fun f o h1 h2=>by rw[j0w hs h1 h2];exact hb f o
 refine⟨h5,h0,h3,f0,⟨hl,fun r h=>(hr r h).1⟩,TaleI.start (fun f o h1 h2=>(hg f o h1 h2).1) ?_,(fun _ h=>nomatch h),fun o=>by
  rw[List.getD_eq_getElem?_getD,List.getElem?_replicate]
  split<;>simp⟩
 have a:=fun f (hf:f<3)=>hg f 0 hf (by omega)
 have b:=fun f (hf:f<3)=>hg f 1 hf (by omega)
 have c:=fun f (hf:f<3)=>hg f 2 hf (by omega)
 have d:=fun f (hf:f<3)=>hg f 3 hf (by omega)
 have e:=fun f (hf:f<3)=>hg f 4 hf (by omega)
 unfold htot hall
 have:=a 0 (by omega);have:=a 1 (by omega);have:=a 2 (by omega)
 have:=b 0 (by omega);have:=b 1 (by omega);have:=b 2 (by omega)
 have:=c 0 (by omega);have:=c 1 (by omega);have:=c 2 (by omega)
 have:=d 0 (by omega);have:=d 1 (by omega);have:=d 2 (by omega)
 have:=e 0 (by omega);have:=e 1 (by omega);have:=e 2 (by omega)
 omega
theorem R3.get (h:R3 t l ks hs ds gs gone whose) {f o:Nat} (hf:f<ks.length) (ho:o<l.length):getG gs f o=hget (j0j gs) f o:=by
 have:=h.n5;have:=h.f3
 exact(j0w gs (by omega) (by omega)).symm
theorem R3.bd (h:R3 t l ks hs ds gs gone whose) {f o:Nat} (hf:f<ks.length) (ho:o<l.length):0≤getG gs f o∧getG gs f o≤60+3*ds.length:=by
 have h5:=h.n5;have h3:=h.f3
 rw[h.get hf ho]
 have h1:=k3f h.ti.nn (show f<3 by omega) (show o<5 by omega)
 have h2:=h.ti.tot
 exact⟨h.ti.nn f o (by omega) (by omega),by omega⟩
theorem R3.sum (h:R3 t l ks hs ds gs gone whose) {f:Nat} (hf:f<ks.length):(gs.getD f []).sum=hall (j0j gs) f∧0≤hall (j0j gs) f∧hall (j0j gs) f≤60+3*ds.length:=by
 have h5:=h.n5;have h3:=h.f3
 have h1:=k3f h.ti.nn (show f<3 by omega) (show 0<5 by omega)
 have h2:=h.ti.tot
 have h4:=h.ti.nn f 0 (by omega) (by omega)
 exact⟨j9k (by omega) (by rw[h.sh.row hf];omega),by omega,by omega⟩
theorem R3.elt (h:R3 t l ks hs ds gs gone whose):∀ r∈gs,r.length≤1000∧∀ x∈r,-100000≤x∧x≤60+3*ds.length:=by
 intro r hr
 have h5:=h.n5
 obtain⟨f,hf⟩:=List.mem_iff_getElem?.1 hr
 have hfl:f<gs.length:=(List.getElem?_eq_some_iff.1 hf).1
 have hr1:=h.sh.r r hr
 refine⟨by omega,fun x hx=>?_⟩
 obtain⟨o,ho⟩:=List.mem_iff_getElem?.1 hx
 have hol:o<r.length:=(List.getElem?_eq_some_iff.1 ho).1
 have hb:=h.bd (f:=f) (o:=o) (by rw[←h.sh.l];exact hfl) (by omega)
 have e:getG gs f o=x:=by
  unfold getG
  rw[show gs.getD f []=r by rw[List.getD_eq_getElem?_getD,hf];rfl,List.getD_eq_getElem?_getD,ho]
  rfl
 omega
theorem j5c {n nf:Nat} {d:De} (h1:1≤d.kind∧d.kind≤6) (h2:0≤d.flock∧d.flock<nf) (h3:fldE n nf d=0) (h4:d=namD d):j0v n nf d=0:=by
 unfold j0v
 have e1:btw d.kind 1 6=true:=j0n.2 h1
 have e2:ownB nf d.flock=true:=j1i.2 h2
 rw[e1,e2,if_neg (by simp),if_neg (by simp),h3,if_neg (by simp),if_neg (by simpa using h4)]
theorem j8f {n o:Nat} (h:o<n):ownB n (o:Int)=true:=j1i.2 ⟨by omega,by omega⟩
theorem R3.snocD {d:De} (h:∀ d∈ds,j0v l.length ks.length d=0) (hd:j0v l.length ks.length d=0):∀ x∈ds++[d],j0v l.length ks.length x=0:=fun x hx=>by
 rcases List.mem_append.1 hx with hx|hx
 ·exact h x hx
 ·rw[List.mem_singleton.1 hx];exact hd
theorem R3.born (h:R3 t l ks hs ds gs gone whose) {f o:Nat} {k:Int} (hf:f<ks.length) (ho:o<l.length) (hk:1≤k∧k≤3):R3 t l ks hs (ds++[⟨1,f,o,0,0,k,0,sZ⟩]) (addG gs f o k) gone (whose++[-1]):=by
 have h5:=h.n5;have h3:=h.f3
 have hf3:f<3:=by omega
 have ho5:o<5:=by omega
 have hl:=j5p gs
 have e:=j1k h.sh h.n5 h.f3 hf ho k
 refine⟨h.n5,h.n0,h.f3,h.f0,h.sh.add hf o k,h.ti.step (fun pass _=>?_) (.inl rfl) (fun h=>by cases h) (fun f' o' h1 h2=>?_) ?_ (fun o' h1=>?_) rfl,R3.snocD h.de (j5c (by dsimp;omega) ⟨by dsimp;omega,by dsimp;omega⟩ ?_ (by simp[namD])),fun o'=>by have:=h.gn o';rw[List.length_append,List.length_singleton];omega⟩
 ·simp[succ,e]
 ·rw[e,j0m hl hf3 ho5 h2]
  have:=h.ti.nn f' o' h1 h2
  have:=h.ti.nn f o hf3 ho5
  split<;>omega
 ·rw[e,j3y hl hf3 ho5];omega
 ·rw[e,j3g hl hf3 ho5 (by omega)]
  simp only[j7d,Int.natCast_inj]
  by_cases h2:o=o'<;>simp[h2]<;>omega
 ·simp[fldE,j8f ho,j0n];omega
theorem R3.eaten (h:R3 t l ks hs ds gs gone whose) {f o:Nat} {k:Int} (hf:f<ks.length) (ho:o<l.length) (hk:1≤k∧k≤20) (hg:k≤getG gs f o):R3 t l ks hs (ds++[⟨3,f,o,0,0,k,0,sZ⟩]) (addG gs f o (-k)) gone (whose++[-1]):=by
 have h5:=h.n5;have h3:=h.f3
 rw[h.get hf ho] at hg
 have hf3:f<3:=by omega
 have ho5:o<5:=by omega
 have hl:=j5p gs
 have e:=j1k h.sh h.n5 h.f3 hf ho (-k)
 refine⟨h.n5,h.n0,h.f3,h.f0,h.sh.add hf o (-k),h.ti.step (fun pass _=>?_) (.inl rfl) (fun h=>by cases h) (fun f' o' h1 h2=>?_) ?_ (fun o' h1=>?_) rfl,R3.snocD h.de (j5c (by dsimp;omega) ⟨by dsimp;omega,by dsimp;omega⟩ ?_ (by simp[namD])),fun o'=>by have:=h.gn o';rw[List.length_append,List.length_singleton];omega⟩
 ·simp[succ,mvd,e]
  rw[if_pos (by omega)];simp
 ·rw[e,j0m hl hf3 ho5 h2]
  have:=h.ti.nn f' o' h1 h2
  split<;>omega
 ·rw[e,j3y hl hf3 ho5];omega
 ·rw[e,j3g hl hf3 ho5 (by omega)]
  simp only[j7d,Int.natCast_inj]
  by_cases h2:o=o'<;>simp[h2]<;>omega
 ·simp[fldE,j8f ho,j0n];omega
theorem R3.sold (h:R3 t l ks hs ds gs gone whose) {f o p:Nat} {k:Int} (hf:f<ks.length) (ho:o<l.length) (hp:p<l.length) (hne:o≠p) (hk:1≤k∧k≤20) (hg:k≤getG gs f o) :
 R3 t l ks hs (ds++[⟨2,f,o,p,0,k,0,sZ⟩]) (addG (addG gs f o (-k)) f p k) gone (whose++[-1]):=by
 have h5:=h.n5;have h3:=h.f3
 rw[h.get hf ho] at hg
 have hf3:f<3:=by omega
 have ho5:o<5:=by omega
 have hp5:p<5:=by omega
 have hl:=j5p gs
 have e1:=j1k h.sh h.n5 h.f3 hf ho (-k)
 have e:=j1k (h.sh.add hf o (-k)) h.n5 h.f3 hf hp k
 rw[e1] at e
 have hl1:=j4v (f:=f) (o:=o) (k:=-k) hl
 refine⟨h.n5,h.n0,h.f3,h.f0,(h.sh.add hf o (-k)).add hf p k,h.ti.step (fun pass _=>?_) (.inl rfl) (fun _=>by dsimp;omega) (fun f' o' h1 h2=>?_) ?_ (fun o' h1=>?_) rfl,R3.snocD h.de (j5c (by dsimp;omega) ⟨by dsimp;omega,by dsimp;omega⟩ ?_ (by simp[namD])),fun o'=>by have:=h.gn o';rw[List.length_append,List.length_singleton];omega⟩
 ·simp[succ,mvd,e]
  rw[if_pos (by omega)];simp
 ·rw[e,j0m hl1 hf3 hp5 h2,j0m hl hf3 ho5 hp5,j0m hl hf3 ho5 h2]
  have:=h.ti.nn f' o' h1 h2
  have:=h.ti.nn f p hf3 hp5
  repeat' split
  all_goals omega
 ·rw[e,j3y hl1 hf3 hp5,j3y hl hf3 ho5];omega
 ·rw[e,j3g hl1 hf3 hp5 (by omega),j3g hl hf3 ho5 (by omega)]
  simp only[j7d,Int.natCast_inj]
  by_cases h2:o=o'<;>by_cases h4:p=o'<;>simp[h2,h4]<;>omega
 ·have e2:¬(o:Int)=p:=by omega
  simp[fldE,j8f ho,j8f hp,j0n,e2,hne];omega
theorem R3.strayed (h:R3 t l ks hs ds gs gone whose) {f g o:Nat} {s:Sg} (hf:f<ks.length) (hg:g<ks.length) (hne:f≠g) (ho:o<l.length) (hh:0<getG gs f o) (hm:(o:Int)∈mayL t l s) (hsn:seen s 9 6=0) :
 R3 t l ks hs (ds++[⟨5,f,0,0,g,0,0,s⟩]) (addG (addG gs f o (-1)) g o 1) gone (whose++[(o:Int)]):=by
 have h5:=h.n5;have h3:=h.f3
 rw[h.get hf ho] at hh
 have hf3:f<3:=by omega
 have hg3:g<3:=by omega
 have ho5:o<5:=by omega
 have hl:=j5p gs
 have e1:=j1k h.sh h.n5 h.f3 hf ho (-1)
 have e:=j1k (h.sh.add hf o (-1)) h.n5 h.f3 hg ho 1
 rw[e1] at e
 have hl1:=j4v (f:=f) (o:=o) (k:=-1) hl
 refine⟨h.n5,h.n0,h.f3,h.f0,(h.sh.add hf o (-1)).add hg o 1,h.ti.step (fun pass hp=>?_) (.inr ⟨by omega,by omega,rfl⟩) (fun h=>by cases h) (fun f' o' h1 h2=>?_) ?_ (fun o' h1=>?_) rfl,R3.snocD h.de (j5c (by dsimp;omega) ⟨by dsimp;omega,by dsimp;omega⟩ ?_ (by simp[namD])),fun o'=>by have:=h.gn o';rw[List.length_append,List.length_singleton];omega⟩
 ·simp only[succ]
  rw[if_neg (by decide),if_neg (by decide),if_neg (by decide),if_neg (by decide),if_pos trivial,e]
  unfold j4f
  rw[List.mem_flatMap]
  refine⟨o,List.mem_filter.2 ⟨hm,hp rfl⟩,?_⟩
  simp only[Int.toNat_natCast,mvd]
  rw[if_pos (by omega)];simp
 ·rw[e,j0m hl1 hg3 ho5 h2,j0m hl hf3 ho5 ho5,j0m hl hf3 ho5 h2]
  have:=h.ti.nn f' o' h1 h2
  have:=h.ti.nn g o hg3 ho5
  repeat' split
  all_goals omega
 ·rw[e,j3y hl1 hg3 ho5,j3y hl hf3 ho5];omega
 ·rw[e,j3g hl1 hg3 ho5 (by omega),j3g hl hf3 ho5 (by omega)]
  simp only[j7d]
  by_cases h2:o=o'<;>simp[h2]<;>omega
 ·have e2:¬(g:Int)=f:=by omega
  simp[fldE,j8f hg,hsn,e2];try omega
theorem R3.counted (h:R3 t l ks hs ds gs gone whose) {f:Nat} {a err n:Int} (hf:f<ks.length) (hn:n=hall (j0j gs) f) (he:err=0∨err=5∨err=20) (h1:100*a≤err*n) (h2:-(err*n)≤100*a) (hd:ds.length≤6) :
 R3 t l ks hs (ds++[⟨6,f,0,0,0,n+a,err,sZ⟩]) gs gone (whose++[-1]):=by
 have h5:=h.n5;have h3:=h.f3
 obtain⟨_,hn0,hn1⟩:=h.sum hf
 rw[←hn] at hn0 hn1
 refine⟨h.n5,h.n0,h.f3,h.f0,h.sh,h.ti.step (fun pass _=>?_) (.inl rfl) (fun h=>by cases h) h.ti.nn (by omega) (fun o' h1=>?_) rfl,R3.snocD h.de (j5c (by dsimp;omega) ⟨by dsimp;omega,by dsimp;omega⟩ ?_ (by simp[namD])),fun o'=>by have:=h.gn o';rw[List.length_append,List.length_singleton];omega⟩
 ·simp only[succ]
  rw[if_neg (by decide),if_neg (by decide),if_neg (by decide),if_neg (by decide),if_neg (by decide),if_pos ?_]
  ·simp
  ·unfold j6v
   simp only[Int.toNat_natCast]
   rw[←hn,j0n]
   rcases he with rfl|rfl|rfl
   ·constructor
    ·rw[Int.tdiv_eq_ediv_of_nonneg (by omega)];omega
    ·rw[Int.tdiv_eq_ediv_of_nonneg (by omega)];omega
   ·constructor
    ·rw[Int.tdiv_eq_ediv_of_nonneg (by omega)];omega
    ·rw[Int.tdiv_eq_ediv_of_nonneg (by omega)];omega
   ·constructor
    ·rw[Int.tdiv_eq_ediv_of_nonneg (by omega)];omega
    ·rw[Int.tdiv_eq_ediv_of_nonneg (by omega)];omega
 ·simp[j7d]
 ·rcases he with rfl|rfl|rfl<;>simp[fldE,j0n]<;>omega
structure L3 (t:Int) (l:List Mk) (ks:List Int) (gs0:List (List Int)) (gone0:List Int) (f m k:Nat) (gs:List (List Int)) (gone:List Int):Prop where
 km:k≤m
 sh:GSh l.length ks.length gs
 nn:∀ f o,f<3→o<5→0≤hget (j0j gs) f o
 tot:htot (j0j gs)=htot (j0j gs0)-k
 al:hall (j0j gs) f=hall (j0j gs0) f-k
 ls:∀ x,x∈j1a l.length f l.length (j0j gs) (m-k)→x∈j1a l.length f l.length (j0j gs0) m
 g:∀ o:Nat,o<l.length→gone.getD o 0+j0s (j0j gs) o=gone0.getD o 0+j0s (j0j gs0) o
 gl:gone.length=l.length
 gn:∀ o:Nat,gone0.getD o 0≤gone.getD o 0∧gone.getD o 0≤gone0.getD o 0+k
theorem L3.start (h:R3 t l ks hs ds gs gone whose) (f m:Nat):L3 t l ks gs gone f m 0 gs gone :=
 ⟨Nat.zero_le _,h.sh,h.ti.nn,by simp,by simp,fun x hx=>hx,fun _ _=>rfl,h.ti.gl,fun o=>by omega⟩
theorem L3.step {gs0:List (List Int)} {gone0:List Int} {f m k o:Nat} (h:L3 t l ks gs0 gone0 f m k gs gone) (h5:l.length≤5) (h3:ks.length≤3) (hf:f<ks.length) (ho:o<l.length) (hg:0<getG gs f o) (hk:k<m) :
 L3 t l ks gs0 gone0 f m (k+1) (addG gs f o (-1)) (gone.set o (gone.getD o 0+1)):=by
 have hf3:f<3:=by omega
 have ho5:o<5:=by omega
 have hl:=j5p gs
 have e:=j1k h.sh h5 h3 hf ho (-1)
 have hg':0<hget (j0j gs) f o:=by rw[j0w gs hf3 ho5];exact hg
 refine⟨hk,h.sh.add hf o (-1),fun f' o' h1 h2=>?_,?_,?_,fun x hx=>h.ls x ?_,fun o' h1=>?_,by rw[List.length_set];exact h.gl,fun o'=>?_⟩
 ·rw[e,j0m hl hf3 ho5 h2]
  have:=h.nn f' o' h1 h2
  split<;>omega
 ·rw[e,j3y hl hf3 ho5,h.tot];omega
 ·rw[e,j8s hl hf3 ho5,h.al,if_pos rfl];omega
 ·rw[show m-k=(m-(k+1))+1 by omega]
  rw[e] at hx
  exact k0i hf3 h5 l.length _ _ o x (zL9 _) hl (fun o ho=>h.nn f o hf3 ho) (by omega) ho hg' hx
 ·rw[e,j3g hl hf3 ho5 (by omega),←h.g o' h1]
  by_cases h2:o=o'
  ·subst h2
   rw[List.getD_eq_getElem?_getD,List.getElem?_set_self (by rw[h.gl];exact ho),if_pos rfl]
   simp only[Option.getD_some]
   omega
  ·rw[List.getD_eq_getElem?_getD,List.getElem?_set_ne h2,if_neg h2,List.getD_eq_getElem?_getD];omega
 ·have:=h.gn o'
  by_cases h2:o=o'
  ·subst h2
   rw[show(gone.set o (gone.getD o 0+1)).getD o 0=gone.getD o 0+1 by
    rw[List.getD_eq_getElem?_getD,List.getElem?_set_self (by rw[h.gl];exact ho)];rfl]
   omega
  ·rw[show(gone.set o (gone.getD o 0+1)).getD o' 0=gone.getD o' 0 by
    rw[List.getD_eq_getElem?_getD,List.getElem?_set_ne h2,←List.getD_eq_getElem?_getD]]
   omega
theorem L3.elt {gs0:List (List Int)} {gone0:List Int} {f m k:Nat} (h:L3 t l ks gs0 gone0 f m k gs gone) (h5:l.length≤5) (h3:ks.length≤3) (ht:htot (j0j gs0)≤80):(∀ f o,f<ks.length→o<l.length→0≤getG gs f o∧getG gs f o≤80)∧∀ r∈gs,r.length≤1000∧∀ x∈r,-100000≤x∧x≤100000:=by
 have hb:∀ f o,f<ks.length→o<l.length→0≤getG gs f o∧getG gs f o≤80:=fun f o hf ho=>by
  rw[←j0w gs (show f<3 by omega) (show o<5 by omega)]
  have h1:=k3f h.nn (show f<3 by omega) (show o<5 by omega)
  have h2:=h.tot
  exact⟨h.nn f o (by omega) (by omega),by omega⟩
 refine⟨hb,fun r hr=>?_⟩
 obtain⟨f,hf⟩:=List.mem_iff_getElem?.1 hr
 have hfl:f<gs.length:=(List.getElem?_eq_some_iff.1 hf).1
 have hr1:=h.sh.r r hr
 refine⟨by omega,fun x hx=>?_⟩
 obtain⟨o,ho⟩:=List.mem_iff_getElem?.1 hx
 have hol:o<r.length:=(List.getElem?_eq_some_iff.1 ho).1
 have hb:=hb f o (by rw[←h.sh.l];exact hfl) (by omega)
 have e:getG gs f o=x:=by
  unfold getG
  rw[show gs.getD f []=r by rw[List.getD_eq_getElem?_getD,hf];rfl,List.getD_eq_getElem?_getD,ho]
  rfl
 omega
theorem R3.lost {gs':List (List Int)} {gone':List Int} {f m:Nat} (h:R3 t l ks hs ds gs gone whose) (hf:f<ks.length) (hm:1≤m∧m≤3) (hL:L3 t l ks gs gone f m m gs' gone'):R3 t l ks hs (ds++[⟨4,f,0,0,0,m,0,sZ⟩]) gs' gone' (whose++[-1]):=by
 have h5:=h.n5;have h3:=h.f3
 refine⟨h.n5,h.n0,h.f3,h.f0,hL.sh,h.ti.step (fun pass _=>?_) (.inl rfl) (fun h=>by cases h) hL.nn (by rw[hL.tot];omega) (fun o' h1=>?_) (hL.gl.trans h.ti.gl.symm),R3.snocD h.de (j5c (by dsimp;omega) ⟨by dsimp;omega,by dsimp;omega⟩ ?_ (by simp[namD])),fun o'=>by have:=h.gn o';have:=hL.gn o';rw[List.length_append,List.length_singleton];omega⟩
 ·simp only[succ]
  rw[if_neg (by decide),if_neg (by decide),if_neg (by decide),if_pos trivial]
  simp only[Int.toNat_natCast]
  refine hL.ls _ ?_
  rw[Nat.sub_self,j4n]
  simp
 ·rw[hL.g o' h1];simp[j7d]
 ·simp[fldE,j0n];omega
theorem k6f {row:List Int} {o:Int} (h:(o=-1∧∀ x∈row,x≤0)∨∃ k:Nat,o=k∧k<row.length∧0<row.getD k 0) (hs:0<row.sum):∃ k:Nat,o=k∧k<row.length∧0<row.getD k 0:=by
 rcases h with ⟨_,h⟩|h
 ·exfalso
  have:∀ l:List Int,(∀ x∈l,x≤0)→l.sum≤0:=fun l=>by
   induction l with
   | nil=>intro _;simp
   | cons a r ih =>
     intro hx
     have h1:=hx a (by simp)
     have h2:=ih fun x h=>hx x (by simp[h])
     rw[List.sum_cons];omega
  have:=this row h
  omega
 ·exact h
theorem pos_sum {row:List Int} (h0:∀ x∈row,0≤x) {k:Nat} (hk:k<row.length) (h:0<row.getD k 0):0<row.sum:=by
 induction row generalizing k with
 | nil=>simp at hk
 | cons a r ih =>
   have hr:0≤r.sum:=by
    have:∀ l:List Int,(∀ x∈l,0≤x)→0≤l.sum:=fun l=>by
     induction l with
     | nil=>intro _;simp
     | cons b r ih =>
       intro hx
       have h1:=hx b (by simp)
       have h2:=ih fun x h=>hx x (by simp[h])
       rw[List.sum_cons];omega
    exact this r fun x hx=>h0 x (by simp[hx])
   have ha:=h0 a (by simp)
   rw[List.sum_cons]
   cases k with
   | zero=>simp at h;omega
   | succ k =>
     have:=ih (fun x hx=>h0 x (by simp[hx])) (by simpa using hk) (by simpa using h)
     omega
end
end Go.Proofs.YtmennjmjakdkcaaGreat
namespace Go.Proofs.YtmennjmjakdkcaaGreat
open Go.RowKit
structure RD (w0 w1:World) (H q:Nat) (t:Int) (vm vk vh bd vd:Value) (ds:List De) (vE:Value) (gs:List (List Int)) (vG:Value) (gone:List Int) (vW:Value) (whose:List Int) (ze1 ze2 zg1 zg2 z3 zr N p:Nat) (d:De) (w:World):Prop where
 td:TDe w0 w1 H q t vm vk vh bd vd ds vE gs vG gone vW whose ze1 ze2 zg1 zg2 z3 zr N w
 bx:w.heap[p]?=some (dObj d)
 pz:zr≤p
section
variable {w0 w1 w w':World} {H q N N' ze1 ze2 zg1 zg2 z3 zr p:Nat} {t:Int} {vm vk vh bd vd vE vG vW:Value} {ds:List De} {gs:List (List Int)} {gone whose:List Int} {d:De}
theorem RD.pH (a:RD w0 w1 H q t vm vk vh bd vd ds vE gs vG gone vW whose ze1 ze2 zg1 zg2 z3 zr N p d w):p≠H∧q<p:=by
 obtain⟨a1,a2,a3⟩:=a.td.h1
 obtain⟨⟨c1,c2,c3,c4,c5,c6⟩,b3,b4⟩:=a.td.zz
 have:=a.pz
 omega
theorem RD.drew1 (a:RD w0 w1 H q t vm vk vh bd vd ds vE gs vG gone vW whose ze1 ze2 zg1 zg2 z3 zr N p d w):RD w0 w1 H q t vm vk vh bd vd ds vE gs vG gone vW whose ze1 ze2 zg1 zg2 z3 zr N p d w.drew:=⟨a.td.drew1,a.bx,a.pz⟩
theorem RD.alloc (a:RD w0 w1 H q t vm vk vh bd vd ds vE gs vG gone vW whose ze1 ze2 zg1 zg2 z3 zr N p d w) (o:Obj):RD w0 w1 H q t vm vk vh bd vd ds vE gs vG gone vW whose ze1 ze2 zg1 zg2 z3 zr N p d (w.alloc o):=⟨a.td.alloc o,j0b a.bx o,a.pz⟩
theorem RD.dealt (a:RD w0 w1 H q t vm vk vh bd vd ds vE gs vG gone vW whose ze1 ze2 zg1 zg2 z3 zr N p d w) (hd:Dealt w w' H N'):RD w0 w1 H q t vm vk vh bd vd ds vE gs vG gone vW whose ze1 ze2 zg1 zg2 z3 zr N' p d w':=⟨a.td.dealt hd,hd.blk a.bx a.pH.1,a.pz⟩
theorem RD.mono (a:RD w0 w1 H q t vm vk vh bd vd ds vE gs vG gone vW whose ze1 ze2 zg1 zg2 z3 zr N p d w) (hN:N≤N'):RD w0 w1 H q t vm vk vh bd vd ds vE gs vG gone vW whose ze1 ze2 zg1 zg2 z3 zr N' p d w:=⟨a.td.mono hN,a.bx,a.pz⟩
theorem RD.put (a:RD w0 w1 H q t vm vk vh bd vd ds vE gs vG gone vW whose ze1 ze2 zg1 zg2 z3 zr N p d w) (i:Nat) (x:Value) {d':De} (hb:(w.setCell ⟨p,i,none⟩ x).heap[p]?=some (dObj d')):RD w0 w1 H q t vm vk vh bd vd ds vE gs vG gone vW whose ze1 ze2 zg1 zg2 z3 zr N p d' (w.setCell ⟨p,i,none⟩ x):=⟨a.td.far a.pz i x,hb,a.pz⟩
theorem TDe.setL {l:List (Nat × Value)}:∀ {w:World},TDe w0 w1 H q t vm vk vh bd vd ds vE gs vG gone vW whose ze1 ze2 zg1 zg2 z3 zr N w→zr≤p→TDe w0 w1 H q t vm vk vh bd vd ds vE gs vG gone vW whose ze1 ze2 zg1 zg2 z3 zr N (setL w p l):=by
 induction l with
 | nil=>exact fun a _=>a
 | cons x l ih=>exact fun a h=>ih (a.far h x.1 x.2) h
theorem RD.deed (a:RD w0 w1 H q t vm vk vh bd vd ds vE gs vG gone vW whose ze1 ze2 zg1 zg2 z3 zr N p d w) (d':De):RD w0 w1 H q t vm vk vh bd vd ds vE gs vG gone vW whose ze1 ze2 zg1 zg2 z3 zr N p d' (setL w p (l12 d')):=⟨a.td.setL a.pz,l12_at a.bx,a.pz⟩
theorem RD.at1 {f o:Nat} (a:RD w0 w1 H q t vm vk vh bd vd ds vE gs vG gone vW whose ze1 ze2 zg1 zg2 z3 zr N p d w) (hf:f<gs.length) (ho:o<(gs.getD f []).length) :
 ∃ b off c g cg,vE=.slice (some ⟨b,off,none⟩) gs.length c∧w.cell? ⟨b,off+f,none⟩=some (.slice (some ⟨g,0,none⟩) (gs.getD f []).length cg)∧(gs.getD f []).length≤cg∧cg≤maxLen ∧
  w.cell? ⟨g,o,none⟩=some (.int .i64 (getG gs f o))∧w.frozen? ⟨g,o,none⟩=false∧b≠g∧g≠p ∧
  ∀ x k,x=getG gs f o+k→RD w0 w1 H q t vm vk vh bd vd ds vE (addG gs f o k) vG gone vW whose ze1 ze2 zg1 zg2 z3 zr N p d (w.setCell ⟨g,o,none⟩ (.int .i64 x)):=by
 obtain⟨b,off,c,g,cg,e1,e2,e3,e4,e5,e6,e7,e8,e9⟩:=a.td.at hf ho
 have:=a.pz
 exact⟨b,off,c,g,cg,e1,e2,e3,e4,e5,e6,e8,by omega,fun x k hx=>⟨by rw[hx];exact e9 _,(Below.heap_setCell _ ⟨g,o,none⟩ _ _ (by show p≠g;omega)).trans a.bx,a.pz⟩⟩
theorem j3t (gs:List (List Int)) (f o:Nat) (k:Int):(addG gs f o k).length=gs.length:=by unfold addG;rw[List.length_set]
theorem k7p (gs:List (List Int)) (f o f':Nat) (k:Int):((addG gs f o k).getD f' []).length=(gs.getD f' []).length:=by
 unfold addG
 rw[List.getD_eq_getElem?_getD (l:=gs.set _ _)]
 by_cases h:f=f'
 ·subst h
  by_cases hf:f<gs.length
  ·rw[List.getElem?_set_self hf,Option.getD_some,List.length_set]
  ·rw[List.getElem?_eq_none (by rw[List.length_set];omega),List.getD_eq_getElem?_getD,List.getElem?_eq_none (by omega)]
 ·rw[List.getElem?_set_ne h,←List.getD_eq_getElem?_getD]
theorem j5a {gs:List (List Int)} {f o f' o':Nat} {k:Int} (h:f≠f'∨o≠o'):getG (addG gs f o k) f' o'=getG gs f' o':=by
 unfold getG addG
 rw[List.getD_eq_getElem?_getD (l:=gs.set _ _)]
 by_cases e:f=f'
 ·subst e
  by_cases hf:f<gs.length
  ·rw[List.getElem?_set_self hf,Option.getD_some,List.getD_eq_getElem?_getD,List.getElem?_set_ne (by omega),←List.getD_eq_getElem?_getD]
  ·rw[List.getElem?_eq_none (by rw[List.length_set];omega),List.getD_eq_getElem?_getD (l:=gs),List.getElem?_eq_none (by omega)]
 ·rw[List.getElem?_set_ne e,←List.getD_eq_getElem?_getD]
theorem RD.at2 {f o f' o':Nat} (a:RD w0 w1 H q t vm vk vh bd vd ds vE gs vG gone vW whose ze1 ze2 zg1 zg2 z3 zr N p d w) (hf:f<gs.length) (ho:o<(gs.getD f []).length) (hf':f'<gs.length) (ho':o'<(gs.getD f' []).length) (hne:f≠f'∨o≠o') :
 ∃ b off c g cg g' cg',vE=.slice (some ⟨b,off,none⟩) gs.length c∧w.cell? ⟨b,off+f,none⟩=some (.slice (some ⟨g,0,none⟩) (gs.getD f []).length cg)∧w.cell? ⟨b,off+f',none⟩=some (.slice (some ⟨g',0,none⟩) (gs.getD f' []).length cg') ∧
  ((gs.getD f []).length≤cg∧cg≤maxLen∧(gs.getD f' []).length≤cg'∧cg'≤maxLen∧g≠p∧g'≠p) ∧
  w.cell? ⟨g,o,none⟩=some (.int .i64 (getG gs f o))∧w.frozen? ⟨g,o,none⟩=false∧w.cell? ⟨g',o',none⟩=some (.int .i64 (getG gs f' o')) ∧
  (w.frozen? ⟨g',o',none⟩=false∧∀ x,(w.setCell ⟨g,o,none⟩ (.int .i64 x)).frozen? ⟨g',o',none⟩=false∧(w.setCell ⟨g,o,none⟩ (.int .i64 x)).cell? ⟨g',o',none⟩=some (.int .i64 (getG gs f' o'))) ∧
  ∀ x k y k',x=getG gs f o+k→y=getG gs f' o'+k'→RD w0 w1 H q t vm vk vh bd vd ds vE (addG (addG gs f o k) f' o' k') vG gone vW whose ze1 ze2 zg1 zg2 z3 zr N p d ((w.setCell ⟨g,o,none⟩ (.int .i64 x)).setCell ⟨g',o',none⟩ (.int .i64 y)):=by
 obtain⟨b,off,c,g,cg,e1,e2,e3,e4,e5,e6,e7,e8,e9⟩:=a.at1 hf ho
 obtain⟨b',off',c',g',cg',i1,i2,i3,i4,i5,i6,i7,i8,i9⟩:=a.at1 hf' ho'
 rw[e1] at i1
 cases i1
 have step:∀ x k,x=getG gs f o+k→(w.setCell ⟨g,o,none⟩ (.int .i64 x)).frozen? ⟨g',o',none⟩=false∧(w.setCell ⟨g,o,none⟩ (.int .i64 x)).cell? ⟨g',o',none⟩=some (.int .i64 (getG gs f' o')) ∧
  ∀ y k',y=getG gs f' o'+k'→RD w0 w1 H q t vm vk vh bd vd ds vE (addG (addG gs f o k) f' o' k') vG gone vW whose ze1 ze2 zg1 zg2 z3 zr N p d ((w.setCell ⟨g,o,none⟩ (.int .i64 x)).setCell ⟨g',o',none⟩ (.int .i64 y)):=fun x k hx=>by
  obtain⟨b2,off2,c2,g2,cg2,j1,j2,j3,j4,j5,j6,j7,j8,j9⟩:=(e9 x k hx).at1 (f:=f') (o:=o') (by rw[j3t];exact hf') (by rw[k7p];exact ho')
  rw[e1,j3t] at j1
  cases j1
  have hcell:(w.setCell ⟨g,o,none⟩ (.int .i64 x)).cell? ⟨b,off+f',none⟩=w.cell? ⟨b,off+f',none⟩:=World.cell?_of_block (Below.heap_setCell _ ⟨g,o,none⟩ _ _ (by show b≠g;exact e7))
  rw[hcell,i2,k7p] at j2
  cases j2
  rw[j5a hne] at j5 j9
  exact⟨j6,j5,fun y k' hy=>j9 y k' hy⟩
 refine⟨b,off,c,g,cg,g',cg',e1,e2,i2,⟨e3,e4,i3,i4,e8,i8⟩,e5,e6,i5,⟨i6,fun x=>?_⟩,fun x k y k' hx hy=>(step x k hx).2.2 y k' hy⟩
 have:=step x (x-getG gs f o) (by omega)
 exact⟨this.1,this.2.1⟩
theorem RD.at3 {A:Option Addr} {n c18 f o:Nat} (a:RD w0 w1 H q t vm vk vh bd vd ds vE gs (.slice A n c18) gone vW whose ze1 ze2 zg1 zg2 z3 zr N p d w) (hf:f<gs.length) (ho:o<(gs.getD f []).length) (hog:o<gone.length) :
 ∃ b off c g cg gg,vE=.slice (some ⟨b,off,none⟩) gs.length c∧A=some ⟨gg,0,none⟩∧w.cell? ⟨b,off+f,none⟩=some (.slice (some ⟨g,0,none⟩) (gs.getD f []).length cg) ∧
  ((gs.getD f []).length≤cg∧cg≤maxLen∧g≠p∧gg≠p) ∧
  w.cell? ⟨g,o,none⟩=some (.int .i64 (getG gs f o))∧w.frozen? ⟨g,o,none⟩=false∧w.cell? ⟨gg,o,none⟩=some (.int .i64 (gone.getD o 0)) ∧
  (w.frozen? ⟨gg,o,none⟩=false∧∀ x,(w.setCell ⟨g,o,none⟩ (.int .i64 x)).frozen? ⟨gg,o,none⟩=false∧(w.setCell ⟨g,o,none⟩ (.int .i64 x)).cell? ⟨gg,o,none⟩=some (.int .i64 (gone.getD o 0))) ∧
  ∀ x k y,x=getG gs f o+k→RD w0 w1 H q t vm vk vh bd vd ds vE (addG gs f o k) (.slice A n c18) (gone.set o y) vW whose ze1 ze2 zg1 zg2 z3 zr N p d ((w.setCell ⟨g,o,none⟩ (.int .i64 x)).setCell ⟨gg,o,none⟩ (.int .i64 y)):=by
 obtain⟨b,off,c,g,cg,e1,e2,e3,e4,e5,e6,e7,e8,e9⟩:=a.at1 hf ho
 obtain⟨gg,i1,i2,i3,i4,i5⟩:=a.td.atG hog
 have hpz:=a.pz
 have step:∀ x k,x=getG gs f o+k→(w.setCell ⟨g,o,none⟩ (.int .i64 x)).frozen? ⟨gg,o,none⟩=false∧(w.setCell ⟨g,o,none⟩ (.int .i64 x)).cell? ⟨gg,o,none⟩=some (.int .i64 (gone.getD o 0)) ∧
  ∀ y,RD w0 w1 H q t vm vk vh bd vd ds vE (addG gs f o k) (.slice A n c18) (gone.set o y) vW whose ze1 ze2 zg1 zg2 z3 zr N p d ((w.setCell ⟨g,o,none⟩ (.int .i64 x)).setCell ⟨gg,o,none⟩ (.int .i64 y)):=fun x k hx=>by
  have a1:=e9 x k hx
  obtain⟨gg',j1,j2,j3,j4,j5⟩:=a1.td.atG hog
  rw[i1] at j1
  cases j1
  exact⟨j3,j2,fun y=>⟨j5 y,(Below.heap_setCell _ ⟨gg,o,none⟩ _ _ (by show p≠gg;omega)).trans a1.bx,a.pz⟩⟩
 refine⟨b,off,c,g,cg,gg,e1,i1,e2,⟨e3,e4,e8,by omega⟩,e5,e6,i2,⟨i3,fun x=>?_⟩,fun x k y hx=>(step x k hx).2.2 y⟩
 have:=step x (x-getG gs f o) (by omega)
 exact⟨this.1,this.2.1⟩
end
section
variable {w0 w1 w w':World} {H q N N' ze1 ze2 zg1 zg2 z3 zr p n nh ce:Nat} {t:Int} {vm vk vh bd vd vG vW:Value} {Ae:Option Addr} {ds:List De} {gs:List (List Int)} {gone whose:List Int} {d:De}
theorem RD.c1 {f o:Nat} (a:RD w0 w1 H q t vm vk vh bd vd ds (.slice Ae nh ce) gs vG gone vW whose ze1 ze2 zg1 zg2 z3 zr N p d w) (hs:GSh n nh gs) (hf:f<nh) (ho:o<n) :
 ∃ b off g cg,Ae=some ⟨b,off,none⟩∧nh≤ce∧ce≤maxLen∧w.cell? ⟨b,off+f,none⟩=some (.slice (some ⟨g,0,none⟩) n cg)∧n≤cg∧cg≤maxLen ∧
  w.cell? ⟨g,o,none⟩=some (.int .i64 (getG gs f o))∧w.frozen? ⟨g,o,none⟩=false∧g≠p ∧
  ∀ x k,x=getG gs f o+k→RD w0 w1 H q t vm vk vh bd vd ds (.slice Ae nh ce) (addG gs f o k) vG gone vW whose ze1 ze2 zg1 zg2 z3 zr N p d (w.setCell ⟨g,o,none⟩ (.int .i64 x)):=by
 obtain⟨b,off,c,g,cg,e1,e2,e3,e4,e5,e6,e7,e8,e9⟩:=a.at1 (f:=f) (o:=o) (by rw[hs.l];exact hf) (by rw[hs.row hf];exact ho)
 obtain⟨-,g1,g2,-⟩:=a.td.grid
 rw[hs.l] at e1
 cases e1
 rw[hs.row hf] at e2 e3
 exact⟨b,off,g,cg,rfl,g1,g2,e2,e3,e4,e5,e6,e8,e9⟩
theorem RD.c2 {f o f' o':Nat} (a:RD w0 w1 H q t vm vk vh bd vd ds (.slice Ae nh ce) gs vG gone vW whose ze1 ze2 zg1 zg2 z3 zr N p d w) (hs:GSh n nh gs) (hf:f<nh) (ho:o<n) (hf':f'<nh) (ho':o'<n) (hne:f≠f'∨o≠o') :
 ∃ b off g cg g' cg',Ae=some ⟨b,off,none⟩∧nh≤ce∧ce≤maxLen∧w.cell? ⟨b,off+f,none⟩=some (.slice (some ⟨g,0,none⟩) n cg)∧w.cell? ⟨b,off+f',none⟩=some (.slice (some ⟨g',0,none⟩) n cg') ∧
  (n≤cg∧cg≤maxLen∧n≤cg'∧cg'≤maxLen∧g≠p∧g'≠p) ∧
  w.cell? ⟨g,o,none⟩=some (.int .i64 (getG gs f o))∧w.frozen? ⟨g,o,none⟩=false∧w.cell? ⟨g',o',none⟩=some (.int .i64 (getG gs f' o')) ∧
  (w.frozen? ⟨g',o',none⟩=false∧∀ x,(w.setCell ⟨g,o,none⟩ (.int .i64 x)).frozen? ⟨g',o',none⟩=false∧(w.setCell ⟨g,o,none⟩ (.int .i64 x)).cell? ⟨g',o',none⟩=some (.int .i64 (getG gs f' o'))) ∧
  ∀ x k y k',x=getG gs f o+k→y=getG gs f' o'+k'→RD w0 w1 H q t vm vk vh bd vd ds (.slice Ae nh ce) (addG (addG gs f o k) f' o' k') vG gone vW whose ze1 ze2 zg1 zg2 z3 zr N p d ((w.setCell ⟨g,o,none⟩ (.int .i64 x)).setCell ⟨g',o',none⟩ (.int .i64 y)):=by
 obtain⟨b,off,c,g,cg,g',cg',e1,e2,e3,e4,e5,e6,e7,e8,e9⟩:=a.at2 (f:=f) (o:=o) (f':=f') (o':=o') (by rw[hs.l];exact hf) (by rw[hs.row hf];exact ho) (by rw[hs.l];exact hf') (by rw[hs.row hf'];exact ho') hne
 obtain⟨-,g1,g2,-⟩:=a.td.grid
 rw[hs.l] at e1
 cases e1
 rw[hs.row hf] at e2 e4
 rw[hs.row hf'] at e3 e4
 exact⟨b,off,g,cg,g',cg',rfl,g1,g2,e2,e3,e4,e5,e6,e7,e8,e9⟩
theorem RD.c1k {be off g cg f o:Nat} (a:RD w0 w1 H q t vm vk vh bd vd ds (.slice (some ⟨be,off,none⟩) nh ce) gs vG gone vW whose ze1 ze2 zg1 zg2 z3 zr N p d w) (hs:GSh n nh gs) (hf:f<nh) (ho:o<n) (hd:w.grownBy w' (some H))
 (h2:w.cell? ⟨be,off+f,none⟩=some (.slice (some ⟨g,0,none⟩) n cg)):w'.cell? ⟨be,off+f,none⟩=some (.slice (some ⟨g,0,none⟩) n cg)∧w'.cell? ⟨g,o,none⟩=some (.int .i64 (getG gs f o)):=by
 obtain⟨a1,a2,a3⟩:=a.td.h1
 obtain⟨⟨c1,c2,c3,c4,c5,c6⟩,b3,b4⟩:=a.td.zz
 obtain⟨b',off',c',g',cg',e1,e2,e3,e4,e5,e6,e7,ebg,e8,e9,-⟩:=a.td.e.at (f:=f) (o:=o) (by rw[hs.l];exact hf) (by rw[hs.row hf];exact ho)
 cases e1
 rw[h2] at e2
 cases e2
 obtain⟨mv,o1,-⟩:=a.td.e
 have hb:=o1.lt be rfl
 exact⟨(World.cell?_of_block (hd.block be hb.2 (fun e=>by cases e;omega))).trans h2,(World.cell?_of_block (hd.block g e7 (fun e=>by cases e;omega))).trans e8⟩
theorem RD.c3 {A:Option Addr} {c18 f o:Nat} (a:RD w0 w1 H q t vm vk vh bd vd ds (.slice Ae nh ce) gs (.slice A n c18) gone vW whose ze1 ze2 zg1 zg2 z3 zr N p d w) (hs:GSh n nh gs) (hf:f<nh) (ho:o<n) :
 ∃ b off g cg gg,Ae=some ⟨b,off,none⟩∧A=some ⟨gg,0,none⟩∧gone.length=n∧n≤c18∧c18≤maxLen∧nh≤ce∧ce≤maxLen∧w.cell? ⟨b,off+f,none⟩=some (.slice (some ⟨g,0,none⟩) n cg) ∧
  (n≤cg∧cg≤maxLen∧g≠p∧gg≠p) ∧
  w.cell? ⟨g,o,none⟩=some (.int .i64 (getG gs f o))∧w.frozen? ⟨g,o,none⟩=false∧w.cell? ⟨gg,o,none⟩=some (.int .i64 (gone.getD o 0)) ∧
  (w.frozen? ⟨gg,o,none⟩=false∧∀ x,(w.setCell ⟨g,o,none⟩ (.int .i64 x)).frozen? ⟨gg,o,none⟩=false∧(w.setCell ⟨g,o,none⟩ (.int .i64 x)).cell? ⟨gg,o,none⟩=some (.int .i64 (gone.getD o 0))) ∧
  ∀ x k y,x=getG gs f o+k→RD w0 w1 H q t vm vk vh bd vd ds (.slice Ae nh ce) (addG gs f o k) (.slice A n c18) (gone.set o y) vW whose ze1 ze2 zg1 zg2 z3 zr N p d ((w.setCell ⟨g,o,none⟩ (.int .i64 x)).setCell ⟨gg,o,none⟩ (.int .i64 y)):=by
 obtain⟨A',c',hv,_,hc1,hc2⟩:=a.td.g.form j0u
 cases hv
 obtain⟨b,off,c,g,cg,gg,e1,e2,e3,e4,e5,e6,e7,e8,e9⟩:=a.at3 (f:=f) (o:=o) (by rw[hs.l];exact hf) (by rw[hs.row hf];exact ho) ho
 obtain⟨-,g1,g2,-⟩:=a.td.grid
 rw[hs.l] at e1
 cases e1
 rw[hs.row hf] at e3 e4
 exact⟨b,off,g,cg,gg,rfl,e2,rfl,hc1,hc2,g1,g2,e3,e4,e5,e6,e7,e8,e9⟩
end
theorem j2n {x:Int} (h:-1600≤x∧x≤1600):-1000000≤x.tdiv 100∧x.tdiv 100≤1000000:=by
 rcases Int.le_total 0 x with h0|h0
 ·rw[Int.tdiv_eq_ediv_of_nonneg h0];omega
 ·obtain⟨y,rfl⟩:∃ y,x=-y:=⟨-x,by omega⟩
  rw[Int.neg_tdiv,Int.tdiv_eq_ediv_of_nonneg (by omega)];omega
theorem j7x {er n a:Int} (he:er=0∨er=5∨er=20) (hn:0≤n∧n≤80) (h1:(-er*n).tdiv 100≤a) (h2:a≤(er*n).tdiv 100∨a=(-er*n).tdiv 100):(100*a≤er*n∧-(er*n)≤100*a)∧-100≤a∧a≤100:=by
 rw[Int.neg_mul,Int.neg_tdiv] at h1 h2
 rcases he with rfl|rfl|rfl
 all_goals
  rw[Int.tdiv_eq_ediv_of_nonneg (by omega)] at h1 h2
  omega
theorem k5j (x:De):∀ u∈eDe x,u.oneCell'=true:=by
 intro u hu;simp[eDe] at hu;rcases hu with rfl|rfl|rfl|rfl|rfl|rfl|rfl|rfl|rfl|rfl|rfl|rfl<;>rfl
theorem k8s:ElemOk Tryz.prog 27 33 12 88:=ElemOk.mk' (z:=.agg #[.int .i64 0,.int .i64 0,.int .i64 0,.int .i64 0,.int .i64 0,.int .i64 0,.int .i64 0,.int .i64 0,.bool false,.bool false,.int .i64 0,.int .i64 0]) Tryz.underlying27 (by kernel_rfl) rfl (by decide)
theorem q0p {t:Int} {l:List Mk} {ks:List Int} {hs:List (List Int)} {ds:List De} (ck:check t l=0) (k0:0<ks.length) (k3:ks.length≤3) (kk:∀ k∈ks,0≤k∧k<l.length) (hl:hs.length=ks.length)
 (hr:∀ r∈hs,r.length=l.length∧∀ x∈r,0≤x∧x≤20) (d6:ds.length≤6) (dE:∀ d∈ds,j0v l.length ks.length d=0):j4s t l ks hs ds=0:=by
 have hf:j1l l.length ks hs=0:=by
  unfold j1l
  have e1:ks.all (ownB l.length)=true:=List.all_eq_true.2 fun k hk=>j1i.2 (kk k hk)
  have e2:hs.all (fun r=>decide (r.length=l.length))=true:=List.all_eq_true.2 fun r h=>decide_eq_true (hr r h).1
  have e3:hs.all (fun r=>r.all fun x=>btw x 0 20)=true:=List.all_eq_true.2 fun r h=>List.all_eq_true.2 fun x hx=>j0n.2 ((hr r h).2 x hx)
  rw[e1,e2,e3,if_neg (by omega),if_neg (by omega),if_neg (by simp),if_neg (by omega),if_neg (by simp),if_neg (by simp)]
 unfold j4s
 rw[ck,hf,if_neg (by simp),if_neg (by simp),if_neg (by omega)]
 exact j9u.2 dE
section
variable {w w':World} {base g:Nat} {v:Value} {ls:List (List Int)} {o:Array Value} {x:Nat × Nat}
theorem EndG.keptB (h:EndG w base v ls) (hg:w.grownBy w' (some g)) (bg:w.heap[g]?=some (Obj.cells o 29 x)):EndG w' base v ls:=by
 obtain⟨mv,h1,h2,h3⟩:=h
 exact⟨mv,h1.kept hg (.inr (h1.ne' bg (by decide))),h2.kept hg (fun x hx=>.inr (h2.ne hx bg (by decide))),h3⟩
theorem OwnG.keptB (h:OwnG w base v ls) (hg:w.grownBy w' (some g)) (bg:w.heap[g]?=some (Obj.cells o 29 x)):OwnG w' base v ls:=by
 obtain⟨mv,h1,h2⟩:=h
 exact⟨mv,h1.kept hg (.inr (h1.ne' bg (by decide))),Rws.kept h2 hg (fun x hx=>.inr (Rws.ne h2 hx bg (by decide)))⟩
end
def TaleR (w:World) (H N n nf nd:Nat) (e:Ending) (w':World):Prop :=
 ∃ (b:Hb) (vE vG vW:Value) (gs:List (List Int)) (gone whose:List Int),e=.returned (.tuple #[b.v,vE,vG,vW])∧b.chk=0∧(b.l.length≤n∨b.l.length=1)∧(b.ks.length≤nf∨b.ks.length=1)∧b.ds.length≤nd ∧
  OwnM w' w.heap.size b.vm b.l∧OwnI w' w.heap.size b.vk b.ks∧OwnG w' w.heap.size b.vh b.hs∧OwnD w' w.heap.size b.vd b.ds ∧
  EndG w' w.heap.size vE gs∧OwnI w' w.heap.size vG gone∧OwnI w' w.heap.size vW whose∧GSh b.l.length b.ks.length gs∧TaleI b.t b.l b.hs b.ds gs gone whose∧Dealt w w' H N
theorem tale_end {w w1 wr W:World} {H N N' n nf nd g q ze1 ze2 zg1 zg2 z3 zr al nk nh:Nat} {t:Int} {A Ak Ah:Option Addr} {c ck ch:Nat} {l:List Mk} {ks:List Int} {hs:List (List Int)} {vd:Value} {ds:List De} {vE vG vW:Value} {gs:List (List Int)} {gone whose:List Int} {M:Nat} {bm bk bh bd:Value} {mv:List Value}
 (hal:al=l.length) (hnk:nk=ks.length) (hnh:nh=hs.length)
 (hT:TDe w w1 H q t (.slice A al c) (.slice Ak nk ck) (.slice Ah nh ch) vd vd ds vE gs vG gone vW whose ze1 ze2 zg1 zg2 z3 zr N wr) (hR:R3 t l ks hs ds gs gone whose)
 (hF:TFl w H g q t bm bk bh bd (.slice A l.length c) l (.slice Ak nk ck) ks (.slice Ah nh ch) mv hs (.slice none 0 0) [] M w1)
 (hgr:wr.grownBy W (some g)) (hcl:check t l=0) (kk:∀ k∈ks,0≤k∧k<al) (hr:∀ r∈hs,r.length=al∧∀ x∈r,0≤x∧x≤4) (hhl:hs.length=ks.length)
 (hln:l.length≤n∨l.length=1) (hkn:ks.length≤nf∨ks.length=1) (hdn:ds.length≤nd) (hnd:nd≤6) (hN:N≤N') :
 TaleR w H N' n nf nd (.returned (.tuple #[.agg #[.int .i64 t,.slice A al c,.slice Ak nk ck,.slice Ah nh ch,vd],vE,vG,vW])) W:=by
 subst hal hnk hnh
 obtain⟨Ad,cd,rfl,-⟩:=hT.d.form j5t
 have h1:=hF.hg
 have h2:=hF.gq
 have h3:=hF.z0
 have bg:wr.heap[g]?=some (boxO 0 (.slice none 0 0) (.slice none 0 0) (.slice none 0 0) (.slice none 0 0)):=(hT.fz g (j0a hF.bg) (by omega) (by omega)).trans hF.bg
 obtain⟨e1,e2,e3,e4,e5,e6,e7⟩:=hT.end h3 hF.m hF.k ⟨mv,hF.h,hF.rw⟩ ⟨_,hF.box⟩
 refine⟨⟨t,A,c,l,Ak,ck,ks,Ah,ch,hs,Ad,cd,ds⟩,vE,vG,vW,gs,gone,whose,rfl,?_,hln,hkn,hdn,e1.kept hgr (.inr (e1.ne' bg (by decide))),e2.kept hgr (.inr (e2.ne' bg (by decide))),e3.keptB hgr bg,e4.kept hgr (.inr (e4.ne' bg (by decide))),e5.keptB hgr bg,e6.kept hgr (.inr (e6.ne' bg (by decide))),e7.kept hgr (.inr (e7.ne' bg (by decide))),hR.sh,hR.ti,?_⟩
 ·exact q0p hcl hR.f0 hR.f3 kk hhl (fun r h=>⟨(hr r h).1,fun x hx=>by have:=(hr r h).2 x hx;omega⟩) (Nat.le_trans hdn hnd) hR.de
 ·exact(hT.dl.ownG hgr fun k e=>by cases e;exact⟨h1,h3⟩).mono hN
theorem TDe.bg {w w1 wr:World} {H N g q ze1 ze2 zg1 zg2 z3 zr:Nat} {t:Int} {vm vk vh bd vd vE vG vW:Value} {ds:List De} {gs:List (List Int)} {gone whose:List Int} {M:Nat} {bm bk bh bd' vm' vk' vh' vu:Value} {mv:List Value} {l:List Mk} {ks row:List Int} {hs:List (List Int)}
 (hT:TDe w w1 H q t vm vk vh bd vd ds vE gs vG gone vW whose ze1 ze2 zg1 zg2 z3 zr N wr) (hF:TFl w H g q t bm bk bh bd' vm' l vk' ks vh' mv hs vu row M w1) :
 wr.heap[g]?=some (boxO 0 (.slice none 0 0) (.slice none 0 0) (.slice none 0 0) (.slice none 0 0)) :=
 (hT.fz g (j0a hF.bg) (by have:=hF.hg;omega) (by have:=hF.gq;omega)).trans hF.bg
theorem q4s {w w1 w4 w5 W:World} {H q N p ze1 ze2 zg1 zg2 z3 zr g4 n4 c4 g5 n5 c5:Nat} {t:Int} {vm vk vh vd vE vG vW:Value} {ds ds':List De} {gs:List (List Int)} {gone whose whose':List Int} {d:De} {o1 o2:Obj}
 (a:RD w w1 H q t vm vk vh vd vd ds vE gs vG gone vW whose ze1 ze2 zg1 zg2 z3 zr N p d W) (hg4:(W.alloc o1).grownBy w4 vd.ownBlock) (hk4:OwnD w4 z3 (.slice (some ⟨g4,0,none⟩) n4 c4) ds')
 (hg5:(w4.alloc o2).grownBy w5 vW.ownBlock) (hk5:OwnI w5 z3 (.slice (some ⟨g5,0,none⟩) n5 c5) whose') :
 TDe w w1 H q t vm vk vh (.slice (some ⟨g4,0,none⟩) n4 c4) (.slice (some ⟨g4,0,none⟩) n4 c4) ds' vE gs vG gone (.slice (some ⟨g5,0,none⟩) n5 c5) whose' ze1 ze2 zg1 zg2 z3 w5.heap.size N (w5.setCell ⟨q,4,none⟩ (.slice (some ⟨g4,0,none⟩) n4 c4)) :=
 ((((a.td.alloc o1).appD hg4 hk4).alloc o2).appO hg5 hk5).set4 _
end Go.Proofs.YtmennjmjakdkcaaGreat
