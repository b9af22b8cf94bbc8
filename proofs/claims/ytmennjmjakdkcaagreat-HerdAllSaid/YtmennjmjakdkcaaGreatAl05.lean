/- HerdAll 5: TalV, GridB, Words, TruL. -/
import Derived.Test.YtmennjmjakdkcaaGreatAl04
import Derived.Test.YtmennjmjakdkcaaGreatAl02
import Derived.Test.YtmennjmjakdkcaaGreatAl03
namespace Go.Proofs.YtmennjmjakdkcaaGreat
set_option linter.unusedVariables false
set_option linter.unusedSimpArgs false
abbrev sZ:Sg:=⟨0,false,false,0,0⟩
structure R3 (t:Int) (l:List Mk) (ks:List Int) (hs:List (List Int)) (ds:List De) (gs:List (List Int)) (gone whose:List Int):Prop where
 n5:l.length ≤ 5
 n0:0 < l.length
 f3:ks.length ≤ 3
 f0:0 < ks.length
 sh:GSh l.length ks.length gs
 ti:TaleI t l hs ds gs gone whose
 de:∀ d ∈ ds,deedE l.length ks.length d = 0
 gn:∀ o:Nat,0 ≤ gone.getD o 0∧gone.getD o 0 ≤ 3 * ds.length
section
variable {t:Int} {l:List Mk} {ks:List Int} {hs:List (List Int)} {ds:List De} {gs:List (List Int)} {gone whose:List Int}
theorem firstH_len (gs:List (List Int)):(firstH gs).length = 15:=firstH_l gs
theorem R3.start (h5:l.length ≤ 5) (h0:0 < l.length) (h3:ks.length ≤ 3) (f0:0 < ks.length) (hl:hs.length = ks.length) (hr:∀ r ∈ hs,r.length = l.length∧∀ x ∈ r,0 ≤ x∧x ≤ 4):R3 t l ks hs [] hs (List.replicate l.length 0) []:=by
 have hb:∀ f o,0 ≤ getG hs f o∧getG hs f o ≤ 4:=fun f o => by
  unfold getG
  rw [List.getD_eq_getElem?_getD,List.getD_eq_getElem?_getD]
  cases e:hs[f]? with
  | none => simp
  | some r =>
    simp only [Option.getD_some]
    cases e2:r[o]? with
    | none => simp
    | some x =>
      simp only [Option.getD_some]
      exact (hr r (List.mem_of_getElem? e)).2 x (List.mem_of_getElem? e2)
 have hg:∀ f o,f < 3→o < 5→0 ≤ hget (firstH hs) f o∧hget (firstH hs) f o ≤ 4:=fun f o h1 h2 => by rw [firstH_get hs h1 h2];exact hb f o
 refine ⟨h5,h0,h3,f0,⟨hl,fun r h => (hr r h).1⟩,TaleI.start (fun f o h1 h2 => (hg f o h1 h2).1) ?_,(fun _ h => nomatch h),fun o => by
  rw [List.getD_eq_getElem?_getD,List.getElem?_replicate]
  split <;> simp⟩
 have a:=fun f (hf:f < 3) => hg f 0 hf (by omega)
 have b:=fun f (hf:f < 3) => hg f 1 hf (by omega)
 have c:=fun f (hf:f < 3) => hg f 2 hf (by omega)
 have d:=fun f (hf:f < 3) => hg f 3 hf (by omega)
 have e:=fun f (hf:f < 3) => hg f 4 hf (by omega)
 unfold htot hall
 have:=a 0 (by omega);have:=a 1 (by omega);have:=a 2 (by omega)
 have:=b 0 (by omega);have:=b 1 (by omega);have:=b 2 (by omega)
 have:=c 0 (by omega);have:=c 1 (by omega);have:=c 2 (by omega)
 have:=d 0 (by omega);have:=d 1 (by omega);have:=d 2 (by omega)
 have:=e 0 (by omega);have:=e 1 (by omega);have:=e 2 (by omega)
 omega
theorem R3.get (h:R3 t l ks hs ds gs gone whose) {f o:Nat} (hf:f < ks.length) (ho:o < l.length):getG gs f o = hget (firstH gs) f o:=by
 have:=h.n5;have:=h.f3
 exact (firstH_get gs (by omega) (by omega)).symm
theorem R3.bd (h:R3 t l ks hs ds gs gone whose) {f o:Nat} (hf:f < ks.length) (ho:o < l.length):0 ≤ getG gs f o∧getG gs f o ≤ 60 + 3 * ds.length:=by
 have h5:=h.n5;have h3:=h.f3
 rw [h.get hf ho]
 have h1:=hget_tot h.ti.nn (show f < 3 by omega) (show o < 5 by omega)
 have h2:=h.ti.tot
 exact ⟨h.ti.nn f o (by omega) (by omega),by omega⟩
theorem R3.sum (h:R3 t l ks hs ds gs gone whose) {f:Nat} (hf:f < ks.length):(gs.getD f []).sum = hall (firstH gs) f∧0 ≤ hall (firstH gs) f∧hall (firstH gs) f ≤ 60 + 3 * ds.length:=by
 have h5:=h.n5;have h3:=h.f3
 have h1:=hget_tot h.ti.nn (show f < 3 by omega) (show 0 < 5 by omega)
 have h2:=h.ti.tot
 have h4:=h.ti.nn f 0 (by omega) (by omega)
 exact ⟨row_sum (by omega) (by rw [h.sh.row hf];omega),by omega,by omega⟩
theorem R3.elt (h:R3 t l ks hs ds gs gone whose):∀ r ∈ gs,r.length ≤ 1000∧∀ x ∈ r,-100000 ≤ x∧x ≤ 60 + 3 * ds.length:=by
 intro r hr
 have h5:=h.n5
 obtain ⟨f,hf⟩:=List.mem_iff_getElem?.1 hr
 have hfl:f < gs.length:=(List.getElem?_eq_some_iff.1 hf).1
 have hr1:=h.sh.r r hr
 refine ⟨by omega,fun x hx => ?_⟩
 obtain ⟨o,ho⟩:=List.mem_iff_getElem?.1 hx
 have hol:o < r.length:=(List.getElem?_eq_some_iff.1 ho).1
 have hb:=h.bd (f:=f) (o:=o) (by rw [← h.sh.l];exact hfl) (by omega)
 have e:getG gs f o = x:=by
  unfold getG
  rw [show gs.getD f [] = r by rw [List.getD_eq_getElem?_getD,hf];rfl,List.getD_eq_getElem?_getD,ho]
  rfl
 omega
theorem deedE_ok {n nf:Nat} {d:De} (h1:1 ≤ d.kind∧d.kind ≤ 6) (h2:0 ≤ d.flock∧d.flock < nf) (h3:fldE n nf d = 0) (h4:d = namD d):deedE n nf d = 0:=by
 unfold deedE
 have e1:btw d.kind 1 6 = true:=btw_iff.2 h1
 have e2:ownB nf d.flock = true:=ownB_iff.2 h2
 rw [e1,e2,if_neg (by simp),if_neg (by simp),h3,if_neg (by simp),if_neg (by simpa using h4)]
theorem ownB_nat {n o:Nat} (h:o < n):ownB n (o:Int) = true:=ownB_iff.2 ⟨by omega,by omega⟩
theorem R3.snocD {d:De} (h:∀ d ∈ ds,deedE l.length ks.length d = 0) (hd:deedE l.length ks.length d = 0):∀ x ∈ ds ++ [d],deedE l.length ks.length x = 0:=fun x hx => by
 rcases List.mem_append.1 hx with hx | hx
 ·exact h x hx
 ·rw [List.mem_singleton.1 hx];exact hd
theorem R3.born (h:R3 t l ks hs ds gs gone whose) {f o:Nat} {k:Int} (hf:f < ks.length) (ho:o < l.length) (hk:1 ≤ k∧k ≤ 3):R3 t l ks hs (ds ++ [⟨1,f,o,0,0,k,0,sZ⟩]) (addG gs f o k) gone (whose ++ [-1]):=by
 have h5:=h.n5;have h3:=h.f3
 have hf3:f < 3:=by omega
 have ho5:o < 5:=by omega
 have hl:=firstH_len gs
 have e:=firstH_add h.sh h.n5 h.f3 hf ho k
 refine ⟨h.n5,h.n0,h.f3,h.f0,h.sh.add hf o k,h.ti.step (fun pass _ => ?_) (.inl rfl) (fun h => by cases h) (fun f' o' h1 h2 => ?_) ?_ (fun o' h1 => ?_) rfl,R3.snocD h.de (deedE_ok (by dsimp;omega) ⟨by dsimp;omega,by dsimp;omega⟩ ?_ (by simp [namD])),fun o' => by have:=h.gn o';rw [List.length_append,List.length_singleton];omega⟩
 ·simp [succ,e]
 ·rw [e,hget_hadd hl hf3 ho5 h2]
  have:=h.ti.nn f' o' h1 h2
  have:=h.ti.nn f o hf3 ho5
  split <;> omega
 ·rw [e,htot_hadd hl hf3 ho5];omega
 ·rw [e,howned_hadd hl hf3 ho5 (by omega)]
  simp only [delta,Int.natCast_inj]
  by_cases h2:o = o' <;> simp [h2] <;> omega
 ·simp [fldE,ownB_nat ho,btw_iff];omega
theorem R3.eaten (h:R3 t l ks hs ds gs gone whose) {f o:Nat} {k:Int} (hf:f < ks.length) (ho:o < l.length) (hk:1 ≤ k∧k ≤ 20) (hg:k ≤ getG gs f o):R3 t l ks hs (ds ++ [⟨3,f,o,0,0,k,0,sZ⟩]) (addG gs f o (-k)) gone (whose ++ [-1]):=by
 have h5:=h.n5;have h3:=h.f3
 rw [h.get hf ho] at hg
 have hf3:f < 3:=by omega
 have ho5:o < 5:=by omega
 have hl:=firstH_len gs
 have e:=firstH_add h.sh h.n5 h.f3 hf ho (-k)
 refine ⟨h.n5,h.n0,h.f3,h.f0,h.sh.add hf o (-k),h.ti.step (fun pass _ => ?_) (.inl rfl) (fun h => by cases h) (fun f' o' h1 h2 => ?_) ?_ (fun o' h1 => ?_) rfl,R3.snocD h.de (deedE_ok (by dsimp;omega) ⟨by dsimp;omega,by dsimp;omega⟩ ?_ (by simp [namD])),fun o' => by have:=h.gn o';rw [List.length_append,List.length_singleton];omega⟩
 ·simp [succ,mvd,e]
  rw [if_pos (by omega)];simp
 ·rw [e,hget_hadd hl hf3 ho5 h2]
  have:=h.ti.nn f' o' h1 h2
  split <;> omega
 ·rw [e,htot_hadd hl hf3 ho5];omega
 ·rw [e,howned_hadd hl hf3 ho5 (by omega)]
  simp only [delta,Int.natCast_inj]
  by_cases h2:o = o' <;> simp [h2] <;> omega
 ·simp [fldE,ownB_nat ho,btw_iff];omega
theorem R3.sold (h:R3 t l ks hs ds gs gone whose) {f o p:Nat} {k:Int} (hf:f < ks.length) (ho:o < l.length) (hp:p < l.length) (hne:o ≠ p) (hk:1 ≤ k∧k ≤ 20) (hg:k ≤ getG gs f o) :
 R3 t l ks hs (ds ++ [⟨2,f,o,p,0,k,0,sZ⟩]) (addG (addG gs f o (-k)) f p k) gone (whose ++ [-1]):=by
 have h5:=h.n5;have h3:=h.f3
 rw [h.get hf ho] at hg
 have hf3:f < 3:=by omega
 have ho5:o < 5:=by omega
 have hp5:p < 5:=by omega
 have hl:=firstH_len gs
 have e1:=firstH_add h.sh h.n5 h.f3 hf ho (-k)
 have e:=firstH_add (h.sh.add hf o (-k)) h.n5 h.f3 hf hp k
 rw [e1] at e
 have hl1:=hadd_l (f:=f) (o:=o) (k:=-k) hl
 refine ⟨h.n5,h.n0,h.f3,h.f0,(h.sh.add hf o (-k)).add hf p k,h.ti.step (fun pass _ => ?_) (.inl rfl) (fun _ => by dsimp;omega) (fun f' o' h1 h2 => ?_) ?_ (fun o' h1 => ?_) rfl,R3.snocD h.de (deedE_ok (by dsimp;omega) ⟨by dsimp;omega,by dsimp;omega⟩ ?_ (by simp [namD])),fun o' => by have:=h.gn o';rw [List.length_append,List.length_singleton];omega⟩
 ·simp [succ,mvd,e]
  rw [if_pos (by omega)];simp
 ·rw [e,hget_hadd hl1 hf3 hp5 h2,hget_hadd hl hf3 ho5 hp5,hget_hadd hl hf3 ho5 h2]
  have:=h.ti.nn f' o' h1 h2
  have:=h.ti.nn f p hf3 hp5
  repeat' split
  all_goals omega
 ·rw [e,htot_hadd hl1 hf3 hp5,htot_hadd hl hf3 ho5];omega
 ·rw [e,howned_hadd hl1 hf3 hp5 (by omega),howned_hadd hl hf3 ho5 (by omega)]
  simp only [delta,Int.natCast_inj]
  by_cases h2:o = o' <;> by_cases h4:p = o' <;> simp [h2,h4] <;> omega
 ·have e2:¬ (o:Int) = p:=by omega
  simp [fldE,ownB_nat ho,ownB_nat hp,btw_iff,e2,hne];omega
theorem R3.strayed (h:R3 t l ks hs ds gs gone whose) {f g o:Nat} {s:Sg} (hf:f < ks.length) (hg:g < ks.length) (hne:f ≠ g) (ho:o < l.length) (hh:0 < getG gs f o) (hm:(o:Int) ∈ mayL t l s) (hsn:seen s 9 6 = 0) :
 R3 t l ks hs (ds ++ [⟨5,f,0,0,g,0,0,s⟩]) (addG (addG gs f o (-1)) g o 1) gone (whose ++ [(o:Int)]):=by
 have h5:=h.n5;have h3:=h.f3
 rw [h.get hf ho] at hh
 have hf3:f < 3:=by omega
 have hg3:g < 3:=by omega
 have ho5:o < 5:=by omega
 have hl:=firstH_len gs
 have e1:=firstH_add h.sh h.n5 h.f3 hf ho (-1)
 have e:=firstH_add (h.sh.add hf o (-1)) h.n5 h.f3 hg ho 1
 rw [e1] at e
 have hl1:=hadd_l (f:=f) (o:=o) (k:=-1) hl
 refine ⟨h.n5,h.n0,h.f3,h.f0,(h.sh.add hf o (-1)).add hg o 1,h.ti.step (fun pass hp => ?_) (.inr ⟨by omega,by omega,rfl⟩) (fun h => by cases h) (fun f' o' h1 h2 => ?_) ?_ (fun o' h1 => ?_) rfl,R3.snocD h.de (deedE_ok (by dsimp;omega) ⟨by dsimp;omega,by dsimp;omega⟩ ?_ (by simp [namD])),fun o' => by have:=h.gn o';rw [List.length_append,List.length_singleton];omega⟩
 ·simp only [succ]
  rw [if_neg (by decide),if_neg (by decide),if_neg (by decide),if_neg (by decide),if_pos trivial,e]
  unfold strayL
  rw [List.mem_flatMap]
  refine ⟨o,List.mem_filter.2 ⟨hm,hp rfl⟩,?_⟩
  simp only [Int.toNat_natCast,mvd]
  rw [if_pos (by omega)];simp
 ·rw [e,hget_hadd hl1 hg3 ho5 h2,hget_hadd hl hf3 ho5 ho5,hget_hadd hl hf3 ho5 h2]
  have:=h.ti.nn f' o' h1 h2
  have:=h.ti.nn g o hg3 ho5
  repeat' split
  all_goals omega
 ·rw [e,htot_hadd hl1 hg3 ho5,htot_hadd hl hf3 ho5];omega
 ·rw [e,howned_hadd hl1 hg3 ho5 (by omega),howned_hadd hl hf3 ho5 (by omega)]
  simp only [delta]
  by_cases h2:o = o' <;> simp [h2] <;> omega
 ·have e2:¬ (g:Int) = f:=by omega
  simp [fldE,ownB_nat hg,hsn,e2];try omega
theorem R3.counted (h:R3 t l ks hs ds gs gone whose) {f:Nat} {a err n:Int} (hf:f < ks.length) (hn:n = hall (firstH gs) f) (he:err = 0 ∨ err = 5 ∨ err = 20) (h1:100 * a ≤ err * n) (h2:-(err * n) ≤ 100 * a) (hd:ds.length ≤ 6) :
 R3 t l ks hs (ds ++ [⟨6,f,0,0,0,n + a,err,sZ⟩]) gs gone (whose ++ [-1]):=by
 have h5:=h.n5;have h3:=h.f3
 obtain ⟨_,hn0,hn1⟩:=h.sum hf
 rw [← hn] at hn0 hn1
 refine ⟨h.n5,h.n0,h.f3,h.f0,h.sh,h.ti.step (fun pass _ => ?_) (.inl rfl) (fun h => by cases h) h.ti.nn (by omega) (fun o' h1 => ?_) rfl,R3.snocD h.de (deedE_ok (by dsimp;omega) ⟨by dsimp;omega,by dsimp;omega⟩ ?_ (by simp [namD])),fun o' => by have:=h.gn o';rw [List.length_append,List.length_singleton];omega⟩
 ·simp only [succ]
  rw [if_neg (by decide),if_neg (by decide),if_neg (by decide),if_neg (by decide),if_neg (by decide),if_pos ?_]
  ·simp
  ·unfold countB
   simp only [Int.toNat_natCast]
   rw [← hn,btw_iff]
   rcases he with rfl | rfl | rfl
   ·constructor
    ·rw [Int.tdiv_eq_ediv_of_nonneg (by omega)];omega
    ·rw [Int.tdiv_eq_ediv_of_nonneg (by omega)];omega
   ·constructor
    ·rw [Int.tdiv_eq_ediv_of_nonneg (by omega)];omega
    ·rw [Int.tdiv_eq_ediv_of_nonneg (by omega)];omega
   ·constructor
    ·rw [Int.tdiv_eq_ediv_of_nonneg (by omega)];omega
    ·rw [Int.tdiv_eq_ediv_of_nonneg (by omega)];omega
 ·simp [delta]
 ·rcases he with rfl | rfl | rfl <;> simp [fldE,btw_iff] <;> omega
structure L3 (t:Int) (l:List Mk) (ks:List Int) (gs0:List (List Int)) (gone0:List Int) (f m k:Nat) (gs:List (List Int)) (gone:List Int):Prop where
 km:k ≤ m
 sh:GSh l.length ks.length gs
 nn:∀ f o,f < 3→o < 5→0 ≤ hget (firstH gs) f o
 tot:htot (firstH gs) = htot (firstH gs0) - k
 al:hall (firstH gs) f = hall (firstH gs0) f - k
 ls:∀ x,x ∈ lostJ l.length f l.length (firstH gs) (m - k)→x ∈ lostJ l.length f l.length (firstH gs0) m
 g:∀ o:Nat,o < l.length→gone.getD o 0 + howned (firstH gs) o = gone0.getD o 0 + howned (firstH gs0) o
 gl:gone.length = l.length
 gn:∀ o:Nat,gone0.getD o 0 ≤ gone.getD o 0∧gone.getD o 0 ≤ gone0.getD o 0 + k
theorem L3.start (h:R3 t l ks hs ds gs gone whose) (f m:Nat):L3 t l ks gs gone f m 0 gs gone :=
 ⟨Nat.zero_le _,h.sh,h.ti.nn,by simp,by simp,fun x hx => hx,fun _ _ => rfl,h.ti.gl,fun o => by omega⟩
theorem L3.step {gs0:List (List Int)} {gone0:List Int} {f m k o:Nat} (h:L3 t l ks gs0 gone0 f m k gs gone) (h5:l.length ≤ 5) (h3:ks.length ≤ 3) (hf:f < ks.length) (ho:o < l.length) (hg:0 < getG gs f o) (hk:k < m) :
 L3 t l ks gs0 gone0 f m (k + 1) (addG gs f o (-1)) (gone.set o (gone.getD o 0 + 1)):=by
 have hf3:f < 3:=by omega
 have ho5:o < 5:=by omega
 have hl:=firstH_len gs
 have e:=firstH_add h.sh h5 h3 hf ho (-1)
 have hg':0 < hget (firstH gs) f o:=by rw [firstH_get gs hf3 ho5];exact hg
 refine ⟨hk,h.sh.add hf o (-1),fun f' o' h1 h2 => ?_,?_,?_,fun x hx => h.ls x ?_,fun o' h1 => ?_,by rw [List.length_set];exact h.gl,fun o' => ?_⟩
 ·rw [e,hget_hadd hl hf3 ho5 h2]
  have:=h.nn f' o' h1 h2
  split <;> omega
 ·rw [e,htot_hadd hl hf3 ho5,h.tot];omega
 ·rw [e,hall_hadd hl hf3 ho5,h.al,if_pos rfl];omega
 ·rw [show m - k = (m - (k + 1)) + 1 by omega]
  rw [e] at hx
  exact lostJ_pick hf3 h5 l.length _ _ o x (Nat.le_refl _) hl (fun o ho => h.nn f o hf3 ho) (by omega) ho hg' hx
 ·rw [e,howned_hadd hl hf3 ho5 (by omega),← h.g o' h1]
  by_cases h2:o = o'
  ·subst h2
   rw [List.getD_eq_getElem?_getD,List.getElem?_set_self (by rw [h.gl];exact ho),if_pos rfl]
   simp only [Option.getD_some]
   omega
  ·rw [List.getD_eq_getElem?_getD,List.getElem?_set_ne h2,if_neg h2,List.getD_eq_getElem?_getD];omega
 ·have:=h.gn o'
  by_cases h2:o = o'
  ·subst h2
   rw [show (gone.set o (gone.getD o 0 + 1)).getD o 0 = gone.getD o 0 + 1 by
    rw [List.getD_eq_getElem?_getD,List.getElem?_set_self (by rw [h.gl];exact ho)];rfl]
   omega
  ·rw [show (gone.set o (gone.getD o 0 + 1)).getD o' 0 = gone.getD o' 0 by
    rw [List.getD_eq_getElem?_getD,List.getElem?_set_ne h2,← List.getD_eq_getElem?_getD]]
   omega
theorem L3.elt {gs0:List (List Int)} {gone0:List Int} {f m k:Nat} (h:L3 t l ks gs0 gone0 f m k gs gone) (h5:l.length ≤ 5) (h3:ks.length ≤ 3) (ht:htot (firstH gs0) ≤ 80):(∀ f o,f < ks.length→o < l.length→0 ≤ getG gs f o∧getG gs f o ≤ 80)∧∀ r ∈ gs,r.length ≤ 1000∧∀ x ∈ r,-100000 ≤ x∧x ≤ 100000:=by
 have hb:∀ f o,f < ks.length→o < l.length→0 ≤ getG gs f o∧getG gs f o ≤ 80:=fun f o hf ho => by
  rw [← firstH_get gs (show f < 3 by omega) (show o < 5 by omega)]
  have h1:=hget_tot h.nn (show f < 3 by omega) (show o < 5 by omega)
  have h2:=h.tot
  exact ⟨h.nn f o (by omega) (by omega),by omega⟩
 refine ⟨hb,fun r hr => ?_⟩
 obtain ⟨f,hf⟩:=List.mem_iff_getElem?.1 hr
 have hfl:f < gs.length:=(List.getElem?_eq_some_iff.1 hf).1
 have hr1:=h.sh.r r hr
 refine ⟨by omega,fun x hx => ?_⟩
 obtain ⟨o,ho⟩:=List.mem_iff_getElem?.1 hx
 have hol:o < r.length:=(List.getElem?_eq_some_iff.1 ho).1
 have hb:=hb f o (by rw [← h.sh.l];exact hfl) (by omega)
 have e:getG gs f o = x:=by
  unfold getG
  rw [show gs.getD f [] = r by rw [List.getD_eq_getElem?_getD,hf];rfl,List.getD_eq_getElem?_getD,ho]
  rfl
 omega
theorem R3.lost {gs':List (List Int)} {gone':List Int} {f m:Nat} (h:R3 t l ks hs ds gs gone whose) (hf:f < ks.length) (hm:1 ≤ m∧m ≤ 3) (hL:L3 t l ks gs gone f m m gs' gone'):R3 t l ks hs (ds ++ [⟨4,f,0,0,0,m,0,sZ⟩]) gs' gone' (whose ++ [-1]):=by
 have h5:=h.n5;have h3:=h.f3
 refine ⟨h.n5,h.n0,h.f3,h.f0,hL.sh,h.ti.step (fun pass _ => ?_) (.inl rfl) (fun h => by cases h) hL.nn (by rw [hL.tot];omega) (fun o' h1 => ?_) (hL.gl.trans h.ti.gl.symm),R3.snocD h.de (deedE_ok (by dsimp;omega) ⟨by dsimp;omega,by dsimp;omega⟩ ?_ (by simp [namD])),fun o' => by have:=h.gn o';have:=hL.gn o';rw [List.length_append,List.length_singleton];omega⟩
 ·simp only [succ]
  rw [if_neg (by decide),if_neg (by decide),if_neg (by decide),if_pos trivial]
  simp only [Int.toNat_natCast]
  refine hL.ls _ ?_
  rw [Nat.sub_self,lostJ_zero]
  simp
 ·rw [hL.g o' h1];simp [delta]
 ·simp [fldE,btw_iff];omega
theorem holds_pos {row:List Int} {o:Int} (h:(o = -1∧∀ x ∈ row,x ≤ 0) ∨ ∃ k:Nat,o = k∧k < row.length∧0 < row.getD k 0) (hs:0 < row.sum):∃ k:Nat,o = k∧k < row.length∧0 < row.getD k 0:=by
 rcases h with ⟨_,h⟩ | h
 ·exfalso
  have:∀ l:List Int,(∀ x ∈ l,x ≤ 0)→l.sum ≤ 0:=fun l => by
   induction l with
   | nil => intro _;simp
   | cons a r ih =>
     intro hx
     have h1:=hx a (by simp)
     have h2:=ih fun x h => hx x (by simp [h])
     rw [List.sum_cons];omega
  have:=this row h
  omega
 ·exact h
theorem pos_sum {row:List Int} (h0:∀ x ∈ row,0 ≤ x) {k:Nat} (hk:k < row.length) (h:0 < row.getD k 0):0 < row.sum:=by
 induction row generalizing k with
 | nil => simp at hk
 | cons a r ih =>
   have hr:0 ≤ r.sum:=by
    have:∀ l:List Int,(∀ x ∈ l,0 ≤ x)→0 ≤ l.sum:=fun l => by
     induction l with
     | nil => intro _;simp
     | cons b r ih =>
       intro hx
       have h1:=hx b (by simp)
       have h2:=ih fun x h => hx x (by simp [h])
       rw [List.sum_cons];omega
    exact this r fun x hx => h0 x (by simp [hx])
   have ha:=h0 a (by simp)
   rw [List.sum_cons]
   cases k with
   | zero => simp at h;omega
   | succ k =>
     have:=ih (fun x hx => h0 x (by simp [hx])) (by simpa using hk) (by simpa using h)
     omega
end
end Go.Proofs.YtmennjmjakdkcaaGreat
namespace Go.Proofs.YtmennjmjakdkcaaGreat
open Go.RowKit
set_option linter.unusedVariables false
set_option linter.unusedSimpArgs false
theorem one_eVal {x:Value} (h:x.oneCell' = true):∀ u ∈ eVal x,u.oneCell' = true:=by
 intro u hu;simp [eVal] at hu;subst hu;exact h
theorem wp_app_row {ops:Array Oper} {rest:List Oper} {o:Oper} {a:Act} {Q:Exit→Act→World→Prop} {w:World}
 (hgd:o.guard = none) (s x:Operand) (ho:o.op = .call { callee:=.builtin .append,args:=#[s,x],argTypes:=#[26,26] })
 (base:Nat) (v u:Value) (ls:List (List Int)) (l:List Int) (hs:a.eval s = v) (hx:a.eval x = .slice (some ⟨w.heap.size,0,none⟩) 1 1)
 (hown:OwnG w base v ls) (hu:OwnI w base u l) (hll:ls.length < 4294967296) (hbase:base ≤ w.heap.size)
 (h:∀ v' w',OwnG w' base v' (ls ++ [l])→Below base w w'→(∀ (k:Nat) cs T,T ≠ 25→w.heap[k]? = some (.cells cs T (0,0))→w'.heap[k]? = some (.cells cs T (0,0)))→wpList Tryz.prog ops Q rest (a.put o.dst v') w') :
 wpList Tryz.prog ops Q (o :: rest) a (w.alloc (.cells #[u] 25)):=by
 obtain ⟨mv,h1,h2⟩:=hown
 have h1u:u.oneCell' = true:=by
  rcases hu.2 with ⟨rfl,_⟩ | ⟨g,cap,cur,rfl,_⟩ <;> rfl
 refine wp_appx (P:=Tryz.prog) okInts hgd s x ho base v mv u #[u] hs hx rfl rfl (one_eVal h1u) h1 (by rw [h2.1];exact hll) (by decide) hbase ?_
 intro g' cap w' ho' hg hb
 refine h _ _ (OwnG.snoc h1 h2 hu ho' hg) hb fun k cs T hT hk => (hg.block k (heap_lt hk) fun e => ?_).trans hk
 rcases h1.2 with ⟨rfl,_⟩ | ⟨g,cap,cur,rfl,_,k2,_⟩
 ·cases e
 ·simp only [Value.ownBlock,Option.some.injEq] at e
  subst e
  rw [k2] at hk
  cases hk
  exact hT rfl
theorem Grid.len {w:World} {A:Option Addr} {n:Nat} {ls:List (List Int)} (h:Grid w A n ls):ls.length = n:=by
 obtain ⟨mv,h1,h2,_⟩:=h
 rw [← h2];exact h1.len
end Go.Proofs.YtmennjmjakdkcaaGreat
namespace Go.Proofs.YtmennjmjakdkcaaGreat
open Go.RowKit
set_option linter.unusedVariables false
set_option linter.unusedSimpArgs false
def wordsL (n:Nat):Nat→List (List Int)
 | 0 => [[]]
 | m + 1 => (List.range n).flatMap fun (i:Nat) => (wordsL n m).map fun r => (i:Int) :: r
def wordsTo (n m i:Nat):List (List Int):=(List.range i).flatMap fun (i:Nat) => (wordsL n m).map fun r => (i:Int) :: r
theorem wordsTo_succ (n m i:Nat):wordsTo n m (i + 1) = wordsTo n m i ++ (wordsL n m).map fun r => (i:Int) :: r:=by
 unfold wordsTo;rw [List.range_succ,List.flatMap_append];simp
theorem wordsTo_len (n m:Nat):∀ i,(wordsTo n m i).length = i * (wordsL n m).length
 | 0 => by simp [wordsTo]
 | i + 1 => by rw [wordsTo_succ,List.length_append,wordsTo_len n m i,List.length_map,Nat.succ_mul]
theorem wordsL_len (n:Nat) (hn:n ≤ 5):∀ m,(wordsL n m).length ≤ 5 ^ m
 | 0 => by simp [wordsL]
 | m + 1 => by
   have h1:(wordsL n (m + 1)).length = n * (wordsL n m).length:=wordsTo_len n m n
   have h2:=wordsL_len n hn m
   rw [h1,Nat.pow_succ,Nat.mul_comm (5 ^ m)]
   exact Nat.mul_le_mul hn h2
theorem pow5_le {m:Nat} (hm:m ≤ 5):5 ^ m ≤ 3125:=by
 have:=Nat.pow_le_pow_right (n:=5) (by omega) hm
 simpa using this
theorem wordsL_mem {n:Nat}:∀ {m:Nat} {r:List Int},r ∈ wordsL n m→r.length = m∧∀ x ∈ r,0 ≤ x∧x < n
 | 0,r,h => by simp [wordsL] at h;subst h;simp
 | m + 1,r,h => by
   obtain ⟨i,hi,h2⟩:=List.mem_flatMap.1 h
   obtain ⟨q,hq,rfl⟩:=List.mem_map.1 h2
   obtain ⟨h3,h4⟩:=wordsL_mem hq
   refine ⟨by simp [h3],fun x hx => ?_⟩
   rcases List.mem_cons.1 hx with rfl | hx
   ·have:=List.mem_range.1 hi;omega
   ·exact h4 x hx
theorem OwnG.get {w:World} {base:Nat} {v:Value} {ls:List (List Int)} (h:OwnG w base v ls) {k:Nat} (hk:k < ls.length) :
 ∃ b off cap B l c,v = .slice (some ⟨b,off,none⟩) ls.length cap∧ls[k]? = some l∧w.cell? ⟨b,off + k,none⟩ = some (.slice B l.length c)∧Ints w B l.length l∧l.length ≤ c∧c ≤ maxLen∧(B = none→c = 0):=by
 obtain ⟨mv,h1,h2,h3⟩:=h
 obtain ⟨A,c0,hv,hs,_,_⟩:=h1.form lenVal
 rw [h2] at hs hv
 obtain ⟨b,off,x,hA,hb,hx,hc⟩:=Vals.get hs hk
 subst hA
 obtain ⟨l,hl,ho⟩:=h3 k x hx
 obtain ⟨B,c,hx',hi,h5,h6,h7⟩:=own_shape ho lenInt
 subst hx'
 exact ⟨b,off,c0,B,l,c,hv,hl,hc,hi,h5,h6,h7⟩
theorem OwnG.one (w:World) (base:Nat) (hb:base ≤ w.heap.size):OwnG (w.alloc (.cells #[.slice none 0 0] 25)) base (.slice (some ⟨w.heap.size,0,none⟩) 1 1) [[]]:=by
 refine ⟨[.slice none 0 0],Own.lit w base _ [.slice none 0 0] rfl lenVal hb (by simp [maxLen]),rfl,fun i v hv => ?_⟩
 cases i with
 | zero => simp at hv;subst hv;exact ⟨[],rfl,Own.nil_⟩
 | succ i => simp at hv
set_option maxRecDepth 100000 in
set_option maxHeartbeats 2000000 in
theorem words_any (n:Nat) (hn:n ≤ 5):∀ (m:Nat),m ≤ 6→∀ w:World,
 Calls Tryz.prog 93 #[.int .i64 n,.int .i64 m] w fun e w' => ∃ v,e = .returned v∧OwnG w' w.heap.size v (wordsL n m)∧Below w.heap.size w w'
 | 0,_,w => by
   go_enter Tryz.func93,Tryz.ntmps93
   go_wp2
   go_ret
   exact ⟨_,rfl,OwnG.one w _ (Nat.le_refl _),bal0 w _⟩
 | m + 1,hm,w => by
   have ih:=words_any n hn m (by omega) w
   have IH:=Lib.hid ih
   have e1:((m + 1:Nat):Int) = (m:Int) + 1:=by omega
   rw [e1]
   have hlen:(wordsL n m).length ≤ 3125:=Nat.le_trans (wordsL_len n hn m) (pow5_le (by omega))
   obtain ⟨R,hR⟩:∃ R,R = wordsL n m:=⟨_,rfl⟩
   have HR:=Lib.hid hR
   rw [← hR] at hlen
   clear ih e1 hR
   go_enter Tryz.func93,Tryz.ntmps93
   have hm0:(((m:Int) + 1) == 0) = false:=by rw [beq_eq_false_iff_ne];omega
   go_wp2_with fail
   refine IH.out.mono ?_
   rintro e w1 ⟨v1,rfl,ho1,hb1⟩
   rw [← HR.out] at ho1
   have HO:=Lib.hid (And.intro ho1 hb1)
   obtain ⟨A1,c1,rfl,-,hc1,hx1⟩:=ho1.form
   have hs1:=hb1.size
   have hRm:R.length ≤ 9223372036854775807:=by omega
   clear ho1 hb1
   go_wp2_with fail
   go_loopg [5,7] n (fun g v i wr => ∃ k:Nat,k + g = n∧i = .int .i64 k∧OwnG wr w1.heap.size v (wordsTo n m k)∧Below w1.heap.size w1 wr)
   case atStart => exact ⟨0,by omega,rfl,OwnG.nil_,Below.refl _ _⟩
   case round =>
    obtain ⟨k,hk,rfl,hog,hbr⟩:=hrel
    have HK:=Lib.hid (And.intro hk (And.intro hog hbr))
    have hkn:k ≤ n:=by omega
    obtain ⟨g1,rfl⟩:∃ g1:Nat,g1 = gk:=⟨_,rfl⟩
    obtain ⟨wo,rfl⟩:∃ wo:World,wo = wr:=⟨_,rfl⟩
    clear hk hog hbr
    by_cases hlt:k < n
    ·have hlt':(k:Int) < (n:Int):=by omega
     go_wp2_with fail
     go_loopg [5,8] R.length (fun g v i wr => ∃ q:Nat,q + g = R.length∧i = .int .i64 q∧OwnG wr w1.heap.size v (wordsTo n m k ++ (R.take q).map fun r => (k:Int) :: r)∧Below w1.heap.size w1 wr)
     case atStart => exact ⟨0,by omega,rfl,by simpa using HK.out.2.1,HK.out.2.2⟩
     case round =>
      obtain ⟨q,hq,rfl,hog,hbr⟩:=hrel
      have HQ:=Lib.hid (And.intro hq (And.intro hog hbr))
      have hqn:q ≤ R.length:=by omega
      have hsr:=hbr.size
      clear hq hog
      by_cases hlq:q < R.length
      ·obtain ⟨b,off,cap,B,r,c,hv,hr,hc,hri,hrc,hrm,hrz⟩:=(HO.out.1.below hbr (Nat.le_refl _)).get hlq
       obtain ⟨rfl,rfl⟩:A1 = some ⟨b,off,none⟩∧c1 = cap:=by simpa using hv
       have HX:=Lib.hid (And.intro hr hri)
       have hbl:b < wr.heap.size:=cell_lt hc
       have i0:(0:Int) ≤ (q:Int):=by omega
       have i1:(q:Int) < (R.length:Int):=by omega
       have hrlen:r.length ≤ 5:=by have:=(wordsL_mem (HR.out ▸ List.mem_of_getElem? hr)).1;omega
       have hll:(wordsTo n m k ++ (R.take q).map fun r => (k:Int) :: r).length < 4294967296:=by
        rw [List.length_append,wordsTo_len,List.length_map,List.length_take,← HR.out]
        have:k * R.length ≤ 5 * 3125:=Nat.mul_le_mul (by omega) hlen
        omega
       have hbc:Below wr.heap.size wr (wr.alloc (Obj.cells #[Value.int .i64 (k:Int)] 3)):=bal0 wr _
       have HL:=Lib.hid (And.intro (HX.out.2.below hbc (Nat.le_refl _)) (Own.lit (enc:=eInt) (e:=3) wr wr.heap.size #[Value.int .i64 (k:Int)] [(k:Int)] rfl lenInt (Nat.le_refl _) (by simp [maxLen])))
       have HZ:=Lib.hid hrz
       have HBC:=Lib.hid hbc
       clear hv hr hri hbr hbc hrz
       go_wp2_with (first
        | (at_builtin;refine wp_apps okInt rfl (.tmp 29) (.tmp 33) rfl wr.heap.size (.slice (some ⟨wr.heap.size,0,none⟩) 1 1) [(k:Int)] B r.length c r rfl rfl HL.out.1 HZ.out lenInt one_eInt HL.out.2 ?_ ?_ ?_ ?_;(simp;omega);(omega);(simp);intro v5 w5 hown5 hgr5 hb5;obtain ⟨A5,c5,hv5,hs5,hc5,hm5,hz5⟩:=own_shape hown5 lenInt;rw [hv5];have hws:w1.heap.size ≤ w5.heap.size:=(by have:=hb5.size;simp at this;omega);have H5:=Lib.hid (And.intro (hv5 ▸ hown5) (HBC.out.trans hb5));clear hown5 hgr5 hb5 hs5 hc5 hm5 hz5 hv5)
        | (at_builtin;refine wp_app_row rfl (.tmp 27) (.tmp 35) rfl w1.heap.size _ (.slice A5 ([(k:Int)] ++ r).length c5) (wordsTo n m k ++ (R.take q).map fun r => (k:Int) :: r) ([(k:Int)] ++ r) rfl ?_ (HQ.out.2.1.below H5.out.2 (Nat.le_refl _)) (H5.out.1.mono hsr) hll hws ?_;(simp [go_sem]);intro v6 w6 hog6 hb6 hk6;have H6:=Lib.hid (And.intro hog6 hb6);clear hog6 hb6 hk6))
       go_roundg (gk - 1)
       case measure => have:=HQ.out.1;omega
       case rel =>
        refine ⟨q + 1,by have:=HQ.out.1;omega,by go_num,?_,(HQ.out.2.2.trans (H5.out.2.mono hsr)).trans H6.out.2⟩
        have h:=H6.out.1
        rw [List.take_add_one,HX.out.1]
        simpa [List.append_assoc] using h
      ·obtain rfl:q = R.length:=by omega
       go_wp2
       go_roundg (g1 - 1)
       case measure => have:=HK.out.1;omega
       case rel =>
        refine ⟨k + 1,by have:=HK.out.1;omega,by go_num,?_,HQ.out.2.2⟩
        have:=HQ.out.2.1
        rw [List.take_of_length_le (Nat.le_refl _),HR.out] at this
        rw [wordsTo_succ]
        exact this
    ·obtain rfl:k = n:=by omega
     go_wp2
     go_ret
     exact ⟨_,rfl,HK.out.2.1.mono hs1,HO.out.2.trans (HK.out.2.2.mono hs1)⟩
end Go.Proofs.YtmennjmjakdkcaaGreat
namespace Go.Proofs.YtmennjmjakdkcaaGreat
set_option linter.unusedVariables false
set_option linter.unusedSimpArgs false
def nnG (gs:List (List Int)):Bool:=gs.all fun r => r.all fun x => decide (0 ≤ x)
theorem nnG_iff {gs:List (List Int)}:nnG gs = true ↔ ∀ r ∈ gs,∀ x ∈ r,0 ≤ x:=by simp [nnG,List.all_eq_true]
def sortB:List Int→Bool
 | [] => true
 | [_] => true
 | a :: b :: l => decide (a ≤ b) && sortB (b :: l)
def subG (f:Nat) (w:List Int) (gs:List (List Int)):List (List Int):=w.foldl (fun g o => addG g f o.toNat (-1)) gs
def lostG (n f m:Nat) (gs:List (List Int)):List (List (List Int)):=((wordsL n m).filter sortB).map fun w => subG f w gs
def cntB (d:De) (s:Int):Bool:=decide (100 * (d.many - s) ≤ d.err * s) && decide (100 * (s - d.many) ≤ d.err * s)
def mayB (t:Int) (l:List Mk) (deed owner:Int) (i:Nat) (s:Sg) (o:Nat):Bool:=passB deed owner i o && (l[o]?).any fun m => fits s m t
def strG (t:Int) (l:List Mk) (deed owner:Int) (i:Nat) (d:De) (gs:List (List Int)) (k:Nat):List (List (List Int)):=((List.range k).filter (mayB t l deed owner i d.s)).map fun o => addG (addG gs d.flock.toNat o (-1)) d.tof.toNat o 1
def stepG (t:Int) (l:List Mk) (deed owner:Int) (i:Nat) (d:De) (gs:List (List Int)):List (List (List Int)) :=
 if d.kind = 1 then [addG gs d.flock.toNat d.owner.toNat d.many]
 else if d.kind = 3 then [addG gs d.flock.toNat d.owner.toNat (-d.many)]
 else if d.kind = 2 then [addG (addG gs d.flock.toNat d.owner.toNat (-d.many)) d.flock.toNat d.other.toNat d.many]
 else if d.kind = 6 then (if cntB d (gs.getD d.flock.toNat []).sum then [gs] else [])
 else if d.kind = 4 then lostG l.length d.flock.toNat d.many.toNat gs
 else strG t l deed owner i d gs l.length
def trG (t:Int) (l:List Mk) (deed owner:Int):List De→Nat→List (List Int)→List (List (List Int))
 | [],_,gs => if nnG gs then [gs] else []
 | d :: ds,i,gs => if nnG gs then (stepG t l deed owner i d gs).flatMap (trG t l deed owner ds (i + 1)) else []
def addE (E:List (List Int)) (g:List (List Int)):List (List Int):=if g.flatten ∈ E then E else E ++ [g.flatten]
def addsE (E:List (List Int)) (G:List (List (List Int))):List (List Int):=G.foldl addE E
theorem addsE_append (E:List (List Int)) (G G':List (List (List Int))):addsE E (G ++ G') = addsE (addsE E G) G':=List.foldl_append
theorem mem_addsE {x:List Int}:∀ {G:List (List (List Int))} {E:List (List Int)},x ∈ addsE E G ↔ x ∈ E ∨ ∃ g ∈ G,x = g.flatten
 | [],E => by simp [addsE]
 | g :: G,E => by
   show x ∈ addsE (addE E g) G ↔ _
   rw [mem_addsE]
   unfold addE
   split
   ·rename_i h
    constructor
    ·rintro (h1 | ⟨g',h1,h2⟩)
     ·exact .inl h1
     ·exact .inr ⟨g',List.mem_cons_of_mem _ h1,h2⟩
    ·rintro (h1 | ⟨g',h1,h2⟩)
     ·exact .inl h1
     ·rcases List.mem_cons.1 h1 with rfl | h1
      ·exact .inl (h2 ▸ h)
      ·exact .inr ⟨g',h1,h2⟩
   ·rw [List.mem_append,List.mem_singleton]
    constructor
    ·rintro ((h1 | h1) | ⟨g',h1,h2⟩)
     ·exact .inl h1
     ·exact .inr ⟨g,List.mem_cons_self,h1⟩
     ·exact .inr ⟨g',List.mem_cons_of_mem _ h1,h2⟩
    ·rintro (h1 | ⟨g',h1,h2⟩)
     ·exact .inl (.inl h1)
     ·rcases List.mem_cons.1 h1 with rfl | h1
      ·exact .inl (.inr h2)
      ·exact .inr ⟨g',h1,h2⟩
theorem nodup_addsE:∀ {G:List (List (List Int))} {E:List (List Int)},E.Nodup→(addsE E G).Nodup
 | [],E,h => h
 | g :: G,E,h => by
   show (addsE (addE E g) G).Nodup
   refine nodup_addsE ?_
   unfold addE
   split
   ·exact h
   ·rename_i hg
    rw [List.nodup_append]
    exact ⟨h,by simp,fun a ha b hb => by rw [List.mem_singleton] at hb;subst hb;exact fun e => hg (e ▸ ha)⟩
def nnH (h:List Int):Prop:=∀ f o,f < 3→o < 5→0 ≤ hget h f o
def subH (f:Nat) (w:List Int) (h:List Int):List Int:=w.foldl (fun h o => hadd h f o.toNat (-1)) h
theorem subH_le {f:Nat} (hf:f < 3):∀ {w:List Int} {h:List Int} {f' o':Nat},h.length = 15→(∀ o ∈ w,o.toNat < 5)→o' < 5→hget (subH f w h) f' o' ≤ hget h f' o'
 | [],h,f',o',hl,hw,ho => Int.le_refl _
 | o :: w,h,f',o',hl,hw,ho => by
   have h1:=subH_le hf (w:=w) (f':=f') (o':=o') (hadd_l (f:=f) (o:=o.toNat) (k:=-1) hl) (fun x hx => hw x (List.mem_cons_of_mem _ hx)) ho
   rw [hget_hadd hl hf (hw o List.mem_cons_self) ho] at h1
   show hget (subH f w (hadd h f o.toNat (-1))) f' o' ≤ _
   split at h1
   ·rename_i e;rw [← e.1,← e.2];rw [← e.1,← e.2] at h1;omega
   ·exact h1
theorem subH_rep {f a:Nat} (hf:f < 3) (ha:a < 5):∀ (k:Nat) (h:List Int),h.length = 15→subH f (List.replicate k (a:Int)) h = hadd h f a (-(k:Int))
 | 0,h,hl => by
   refine List.ext_getElem? fun i => ?_
   show h[i]? = _
   unfold hadd
   by_cases e:5 * f + a = i
   ·subst e
    rw [List.getElem?_set_self (by omega)]
    unfold hget
    rw [List.getD_eq_getElem?_getD,List.getElem?_eq_getElem (by omega)]
    simp
   ·rw [List.getElem?_set_ne e]
 | k + 1,h,hl => by
   have e1:subH f (List.replicate (k + 1) (a:Int)) h = subH f (List.replicate k (a:Int)) (hadd h f a (-1)):=rfl
   rw [e1,subH_rep hf ha k _ (hadd_l hl)]
   unfold hadd
   rw [List.set_set]
   congr 1
   have:=hget_hadd (f':=f) (k:=-1) hl hf ha ha
   rw [if_pos ⟨rfl,rfl⟩] at this
   unfold hadd at this
   rw [this]
   omega
theorem subH_append {f:Nat} (w v:List Int) (h:List Int):subH f (w ++ v) h = subH f v (subH f w h):=List.foldl_append
def SrW (a n:Nat) (w:List Int):Prop:=sortB w = true∧∀ o ∈ w,(a:Int) ≤ o∧o < n
theorem sortB_cons {x:Int} {w:List Int}:sortB (x :: w) = true ↔ (∀ y ∈ w,x ≤ y)∧sortB w = true:=by
 induction w generalizing x with
 | nil => simp [sortB]
 | cons y w ih =>
   rw [show sortB (x :: y :: w) = (decide (x ≤ y) && sortB (y :: w)) from rfl,Bool.and_eq_true,decide_eq_true_eq]
   constructor
   ·rintro ⟨h1,h2⟩
    refine ⟨fun z hz => ?_,h2⟩
    rcases List.mem_cons.1 hz with rfl | hz
    ·exact h1
    ·have:=(ih.1 h2).1 z hz;omega
   ·rintro ⟨h1,h2⟩
    exact ⟨h1 y List.mem_cons_self,h2⟩
theorem srw_split {a n:Nat}:∀ {w:List Int},SrW a n w→∃ (k:Nat) (v:List Int),w = List.replicate k (a:Int) ++ v∧SrW (a + 1) n v
 | [],h => ⟨0,[],rfl,rfl,fun o ho => by cases ho⟩
 | x :: w,⟨h1,h2⟩ => by
   have hs:=sortB_cons.1 h1
   by_cases e:x = (a:Int)
   ·obtain ⟨k,v,hk,hv⟩:=srw_split (a:=a) (n:=n) (w:=w) ⟨hs.2,fun o ho => h2 o (List.mem_cons_of_mem _ ho)⟩
    exact ⟨k + 1,v,by rw [hk,e];rfl,hv⟩
   ·refine ⟨0,x :: w,rfl,h1,fun o ho => ?_⟩
    have h0:=h2 x List.mem_cons_self
    rcases List.mem_cons.1 ho with rfl | ho'
    ·have:=h2 o ho;omega
    ·have:=hs.1 o ho';have:=h2 o ho;omega
theorem srw_join {a n:Nat} {v:List Int} (han:a < n) (hv:SrW (a + 1) n v):∀ k:Nat,SrW a n (List.replicate k (a:Int) ++ v)
 | 0 => ⟨hv.1,fun o ho => by have:=hv.2 o ho;omega⟩
 | k + 1 => by
   obtain ⟨h1,h2⟩:=srw_join han hv k
   refine ⟨?_,fun o ho => ?_⟩
   ·show sortB ((a:Int) :: (List.replicate k (a:Int) ++ v)) = true
    exact sortB_cons.2 ⟨fun y hy => (h2 y hy).1,h1⟩
   ·rcases List.mem_cons.1 (show o ∈ (a:Int) :: (List.replicate k (a:Int) ++ v) from ho) with rfl | ho
    ·omega
    ·exact h2 o ho
theorem lost_iff {n f:Nat} (hf:f < 3) (hn:n ≤ 5):∀ (j:Nat) (h:List Int) (m:Nat) (x:List Int),j ≤ n→h.length = 15→(∀ o,o < n→0 ≤ hget h f o) →
 (x ∈ lostJ n f j h m ↔ ∃ w,SrW (n - j) n w∧w.length = m∧x = subH f w h∧∀ o,o < n→0 ≤ hget x f o)
 | 0,h,m,x,hj,hl,hnn => by
   unfold lostJ
   constructor
   ·intro hx
    split at hx
    ·rename_i hm;simp at hx;exact ⟨[],⟨rfl,fun o ho => by cases ho⟩,hm.symm,hx,by rw [hx];exact hnn⟩
    ·cases hx
   ·rintro ⟨w,⟨h1,h2⟩,h3,h4,h5⟩
    have hw:w = []:=by
     cases w with
     | nil => rfl
     | cons o w => have:=h2 o List.mem_cons_self;omega
    subst hw
    rw [if_pos (show m = 0 from h3.symm),h4]
    exact List.mem_singleton.2 rfl
 | j + 1,h,m,x,hj,hl,hnn => by
   have ha:n - (j + 1) < 5:=by omega
   have han:n - (j + 1) < n:=by omega
   have hap:n - (j + 1) + 1 = n - j:=by omega
   unfold lostJ
   by_cases hm:m = 0
   ·rw [if_pos hm,List.mem_singleton]
    constructor
    ·rintro rfl
     exact ⟨[],⟨rfl,fun o ho => by cases ho⟩,hm.symm,rfl,hnn⟩
    ·rintro ⟨w,-,h3,h4,-⟩
     have hw:w = []:=List.eq_nil_of_length_eq_zero (h3.trans hm)
     rw [h4,hw];rfl
   ·rw [if_neg hm,List.mem_flatMap]
    constructor
    ·rintro ⟨k,hk,hx⟩
     have hk:=List.mem_range.1 hk
     cases hmv:mvd h f (n - (j + 1)) (-(k:Int)) with
     | none => rw [hmv] at hx;cases hx
     | some y =>
       rw [hmv] at hx
       obtain ⟨h0,rfl⟩:=mvd_some hmv
       have hl':(hadd h f (n - (j + 1)) (-(k:Int))).length = 15:=hadd_l hl
       obtain ⟨w,h1,h2,h3,h4⟩:=(lost_iff hf hn j _ (m - k) x (by omega) hl' (fun o ho => by
        rw [hget_hadd hl hf ha (by omega)]
        split
        ·exact h0
        ·exact hnn o ho)).1 hx
       rw [← hap] at h1
       exact ⟨List.replicate k ((n - (j + 1):Nat):Int) ++ w,srw_join han h1 k,by rw [List.length_append,List.length_replicate];omega,by rw [subH_append,subH_rep hf ha k h hl];exact h3,h4⟩
    ·rintro ⟨w,h1,h2,h3,h4⟩
     obtain ⟨k,v,rfl,hv⟩:=srw_split h1
     rw [hap] at hv
     rw [List.length_append,List.length_replicate] at h2
     rw [subH_append,subH_rep hf ha k h hl] at h3
     have hl':(hadd h f (n - (j + 1)) (-(k:Int))).length = 15:=hadd_l hl
     have h0:0 ≤ hget h f (n - (j + 1)) + -(k:Int):=by
      have h5:=subH_le hf (w:=v) (f':=f) (o':=n - (j + 1)) hl' (fun o ho => by have:=hv.2 o ho;omega) ha
      rw [← h3,hget_hadd hl hf ha ha,if_pos ⟨rfl,rfl⟩] at h5
      have:=h4 _ han
      omega
     refine ⟨k,List.mem_range.2 (by omega),?_⟩
     have hmv:mvd h f (n - (j + 1)) (-(k:Int)) = some (hadd h f (n - (j + 1)) (-(k:Int))):=if_pos h0
     rw [hmv]
     exact (lost_iff hf hn j _ (m - k) x (by omega) hl' (fun o ho => by
      rw [hget_hadd hl hf ha (by omega)]
      split
      ·exact h0
      ·exact hnn o ho)).2 ⟨v,hv,by omega,h3,h4⟩
end Go.Proofs.YtmennjmjakdkcaaGreat
