/- HerdParts. -/
import Derived.Test.YtmennjmjakdkcaaGreatPt28
set_option linter.unusedVariables false
set_option linter.unusedSimpArgs false
set_option maxRecDepth 100000
set_option maxHeartbeats 4000000
namespace Go.Proofs.YtmennjmjakdkcaaGreat
abbrev one:Nat->Nat:=fun _=>1
theorem k8w {mis:List Int} (h:∀ x∈mis,0<=x) (o:Nat):0<=mis.getD o 0:=by
 rw[zB3];cases hmo:mis[o]? with
 | none=>simp
 | some z=>have:=h z (zB4 hmo);simpa using this
def j1w (mis:List Int) (o:Int):List Int:=mis.set o.toNat (mis.getD o.toNat 0-1)
def givs:List (List Int)->List Int->List (List Int)
 | [],_=>[[]]
 | row::rest,mis=>row.flatMap fun o=>if mis.getD o.toNat 0=0 then [] else (givs rest (j1w mis o)).map fun r=>o::r
theorem k6x {mis:List Int} {o x:Nat} (ho:o<mis.length):(j1w mis (o:Int)).getD x 0=if x=o then mis.getD o 0-1 else mis.getD x 0:=by
 unfold j1w;rw[Int.toNat_natCast,zB3];by_cases h:x=o
 ·subst h;rw[if_pos rfl,List.getElem?_set_self ho];rfl
 ·rw[if_neg h,List.getElem?_set_ne (fun e=>h e.symm),zB3]
theorem j8x (mis:List Int) (o:Int):(j1w mis o).length=mis.length:=by unfold j1w;simp
theorem k6y {mis:List Int} {o:Nat} (h:∀ x∈mis,0<=x) (ho:mis.getD o 0≠0):∀ x∈j1w mis (o:Int),0<=x:=fun x hx=>by
 unfold j1w at hx;rw[Int.toNat_natCast] at hx;rcases List.mem_or_eq_of_mem_set hx with h1|h1
 ·exact h x h1
 ·have:=k8w h o;omega
theorem k3n {N:Nat}:∀ {rows:List (List Int)} {mis r:List Int},(∀ row∈rows,∀ o∈row,0<=o∧o<N)->mis.length=N->(∀ x∈mis,0<=x) ->
 (r∈givs rows mis↔r.length=rows.length∧(∀ (j:Nat) (o:Int),r[j]?=some o->o∈rows.getD j [])∧∀ o:Nat,(o:Int)∈r->(cntI r o:Int)<=mis.getD o 0)
 | [],mis,r,_,_,_=>by
   unfold givs;rw[List.mem_singleton];constructor
   ·rintro rfl;simp
   ·rintro⟨h,_⟩;exact zC1 h
 | row::rest,mis,r,hrow,hN,hmis=>by
   unfold givs;rw[List.mem_flatMap];constructor
   ·rintro⟨o,ho,hr⟩;obtain⟨h0,h1⟩:=hrow row (by simp) o ho
    obtain⟨i,rfl⟩:=zB7 h0;rw[Int.toNat_natCast] at hr;by_cases hz:mis.getD i 0=0
    ·rw[if_pos hz] at hr;cases hr
    ·rw[if_neg hz] at hr;obtain⟨q,hq,rfl⟩:=List.mem_map.1 hr;obtain⟨k1,k2,k3⟩:=(k3n (N:=N) (fun row hr=>hrow row (by simp[hr])) (by rw[j8x];exact hN) (k6y hmis hz)).1 hq
     have hi:i<mis.length:=by omega
     refine⟨by simp[k1],fun j o hj=>?_,fun o ho2=>?_⟩
     ·cases j with
      | zero=>simp at hj;subst hj;simpa using ho
      | succ j=>simpa using k2 j o (by simpa using hj)
     ·rw[j5h];have hp:=k8w hmis i;by_cases hoq:(o:Int)∈q
      ·have h3:=k3 o hoq;rw[k6x hi] at h3;by_cases hoi:o=i
       ·subst hoi;rw[if_pos rfl] at h3 ⊢;omega
       ·rw[if_neg hoi] at h3;rw[if_neg (by omega)];omega
      ·rw[k6l hoq];rcases List.mem_cons.1 ho2 with h|h
       ·have:o=i:=by omega
        subst this;rw[if_pos rfl];omega
       ·exact absurd h hoq
   ·rintro⟨h1,h2,h3⟩
    match r,h1,h2,h3 with
    | [],h1,_,_=>simp at h1
    | o::q,h1,h2,h3 =>
      have ho:=h2 0 o rfl;have a0:o∈row:=by simpa using ho
      obtain⟨h0,a1⟩:=hrow row (by simp) o a0
      obtain⟨i,rfl⟩:=zB7 h0;have hi:i<mis.length:=by omega
      have hz:mis.getD i 0≠0:=by
       have h:=h3 i (by simp)
       rw[j5h,if_pos rfl] at h;omega
      refine⟨(i:Int),a0,?_⟩;rw[Int.toNat_natCast,if_neg hz,List.mem_map];refine⟨q,(k3n (N:=N) (fun row hr=>hrow row (by simp[hr])) (by rw[j8x];exact hN) (k6y hmis hz)).2 ⟨by simpa using h1,fun j o hj=>?_,fun o ho2=>?_⟩,rfl⟩
      ·have:=h2 (j+1) o (by simpa using hj)
       simpa using this
      ·have h:=h3 o (by simp[ho2])
       rw[j5h] at h;rw[k6x hi];by_cases hoi:o=i
       ·subst hoi;rw[if_pos rfl] at h ⊢;omega
       ·rw[if_neg (by omega)] at h;rw[if_neg hoi];omega
def j8t:List (List Int)->List Int->List Int->Bool
 | [],_,_=>true
 | row::rest,mis,[]=>false
 | row::rest,mis,o::q=>(row.contains o&&!decide (mis.getD o.toNat 0=0))&&j8t rest (j1w mis o) q
theorem k2s {α β:Type} (p:α->Bool) (f:α->List β):∀ l:List α,(l.filter p).flatMap f=l.flatMap fun a=>if p a=true then f a else []
 | []=>rfl
 | a::l=>by
   rw[List.flatMap_cons,<-k2s p f l];by_cases h:p a=true
   ·rw[List.filter_cons_of_pos h,List.flatMap_cons,if_pos h]
   ·rw[List.filter_cons_of_neg h,if_neg h,List.nil_append]
theorem k4j {α β:Type} {f g:α->List β}:∀ {l:List α},(∀ a∈l,f a=g a)->l.flatMap f=l.flatMap g
 | [],_=>rfl
 | a::l,h=>by rw[List.flatMap_cons,List.flatMap_cons,h a (by simp),k4j fun b hb=>h b (by simp[hb])]
theorem k2r {α β:Type} (p:β->Bool) (f:α->List β):∀ l:List α,(l.flatMap f).filter p=l.flatMap fun a=>(f a).filter p
 | []=>rfl
 | a::l=>by rw[List.flatMap_cons,List.filter_append,k2r p f l,List.flatMap_cons]
theorem j4v {N:Nat}:∀ {rows:List (List Int)} {mis:List Int},(∀ row∈rows,∃ p:Nat->Bool,row=((List.range N).filter p).map Int.ofNat)->givs rows mis=(j1r N rows.length).filter (j8t rows mis)
 | [],mis,_=>by simp[givs,j1r,j8t]
 | row::rest,mis,h=>by
   obtain⟨p,hp⟩:=h row (by simp)
   show(row.flatMap fun o=>if mis.getD o.toNat 0=0 then [] else (givs rest (j1w mis o)).map fun r=>o::r)=((List.range N).flatMap fun(i:Nat)=>(j1r N rest.length).map fun r=>(i:Int)::r).filter (j8t (row::rest) mis)
   have a0:∀ i,i<N->row.contains (i:Int)=p i:=fun i hi=>by
    rw[hp,Bool.eq_iff_iff,List.contains_eq_mem,decide_eq_true_eq,List.mem_map];constructor
    ·rintro⟨a,ha,he⟩;have:a=i:=by have h2:(a:Int)=(i:Int):=he;omega
     subst this;exact(List.mem_filter.1 ha).2
    ·intro h;exact⟨i,List.mem_filter.2 ⟨List.mem_range.2 hi,h⟩,rfl⟩
   rw[k2r];have e0:∀ f:Int->List (List Int),row.flatMap f=(List.range N).flatMap fun(a:Nat)=>if p a=true then f (a:Int) else []:=fun f=>by
    rw[hp,List.flatMap_map,k2s];rfl
   rw[e0];refine k4j fun i hi=>?_
   have a1:=List.mem_range.1 hi;rw[List.filter_map];have ih:=j4v (N:=N) (rows:=rest) (mis:=j1w mis (i:Int)) fun row hr=>h row (List.mem_cons_of_mem _ hr)
   show(if p i=true then (if mis.getD i 0=0 then [] else (givs rest (j1w mis (i:Int))).map fun r=>(i:Int)::r) else [])=_
   have hg:(j8t (row::rest) mis ∘ fun r=>(i:Int)::r)=fun r=>(p i&&!decide (mis.getD i 0=0))&&j8t rest (j1w mis (i:Int)) r:=by
    funext r
    show((row.contains (i:Int)&&!decide (mis.getD i 0=0))&&j8t rest (j1w mis (i:Int)) r)=_;rw[a0 i a1]
   rw[hg,ih];cases hpi:p i
   ·simp
   ·rw[if_pos rfl];by_cases hz:mis.getD i 0=0
    ·have hd:(!decide (mis.getD i 0=0))=false:=by rw[decide_eq_true hz];rfl
     rw[if_pos hz];simp only[hd,Bool.true_and,Bool.false_and];simp
    ·have hd:(!decide (mis.getD i 0=0))=true:=by rw[decide_eq_false hz];rfl
     rw[if_neg hz];simp only[hd,Bool.true_and]
theorem q4r {N:Nat} {rows:List (List Int)} {mis x:List Int} (h:∀ row∈rows,∃ p:Nat->Bool,row=((List.range N).filter p).map Int.ofNat) (hx:x∈j1r N rows.length):j8t rows mis x=true↔x∈givs rows mis:=by
 rw[j4v h,List.mem_filter];exact⟨fun h=>⟨hx,h⟩,fun h=>h.2⟩
theorem j8z {t:Int} {l:List Mk} {ss:List Sg}:∀ row∈mays t l ss,∃ p:Nat->Bool,row=((List.range l.length).filter p).map Int.ofNat:=fun row hr=>by
 unfold mays at hr;obtain⟨s,_,rfl⟩:=List.mem_map.1 hr;exact⟨_,rfl⟩
theorem q4q {N:Nat} {may:List (List Int)} {mis:List Int} (a0:∀ row∈may,∃ p:Nat->Bool,row=((List.range N).filter p).map Int.ofNat) (a6:N<=5) (hN:mis.length=N) (a3:∀ x∈mis,0<=x) (lf:Nat->Int->Bool) :
 j7i may mis 0 lf=(givs may mis).find? fun x=>(List.range may.length).all fun p=>lf p (x.getD p 0):=by
 have a1:∀ k,∃ p:Nat->Bool,may.getD k []=((List.range N).filter p).map Int.ofNat:=fun k=>by
  rw[zB3];cases hk:may[k]? with
  | none=>exact⟨fun _=>false,by simp⟩
  | some row=>exact a0 row (zB4 hk)
 have a2:∀ row∈may,∀ o∈row,0<=o∧o<N:=fun row hr o ho=>by
  obtain⟨p,hp⟩:=a0 row hr;rw[hp,List.mem_map] at ho;obtain⟨i,hi,rfl⟩:=ho;have:=List.mem_range.1 (List.mem_filter.1 hi).1;exact⟨Int.natCast_nonneg i,by show(i:Int)<N;omega⟩
 unfold j7i Srch.all;dsimp only;rw[k7m a1,j4v a0,List.find?_filter];refine k0j fun x hx=>?_
 rw[Bool.eq_iff_iff,k8y a6 may.length _ x (zL9 _) hx,decide_eq_true_eq,q4r a0 hx,k3n a2 hN a3];have a5:∀ o:Nat,(⟨0,0,0,0,0,0⟩:Cn).at o=0:=fun o=>by unfold Cn.at;split<;>rfl
 have a4:=(j3t hx).1;simp only[a5,Int.zero_add,Nat.sub_self,Nat.zero_add,List.all_eq_true,List.mem_range];constructor
 ·rintro⟨h1,h2⟩;refine⟨⟨a4,fun j o hj=>(h1 j o hj).1,h2⟩,fun p hp=>?_⟩
  have hk:=zB5 (show p<x.length by omega)
  have:=(h1 p _ hk).2
  rwa [zB3,hk]
 ·rintro⟨⟨_,h1,h2⟩,h3⟩;refine⟨fun j o hj=>⟨h1 j o hj,?_⟩,h2⟩
  have:=h3 j (by have:=(List.getElem?_eq_some_iff.1 hj).1;omega)
  rwa [zB3,hj] at this
theorem q4z {α:Type} (l:List α):l.find? (fun _=>true)=l.head?:=by cases l<;>rfl
section
variable {N:Nat} {may:List (List Int)} {mis:List Int} (hrow:∀ row∈may,∃ p:Nat->Bool,row=((List.range N).filter p).map Int.ofNat) (hN5:N<=5) (hN:mis.length=N) (hmis:∀ x∈mis,0<=x)
include hrow hN5 hN hmis in
theorem q5c:j7i may mis 0 (fun _ _=>true)=(givs may mis).head?:=by
 rw[q4q hrow hN5 hN hmis,<-q4z];exact k0j fun x _=>by rw[List.all_eq_true];exact fun _ _=>rfl
def ownG (all:List (List Int)) (N i:Nat):List Int:=((List.range N).filter fun(o:Nat)=>all.any fun x=>decide (x.getD i 0=(o:Int))).map Int.ofNat
include hrow hN5 hN hmis in
end
theorem k8x {N:Nat} (hN:N<=5):∀ (rows:List (List Int)) (mis:List Int),(∀ row∈rows,∃ p:Nat->Bool,row=((List.range N).filter p).map Int.ofNat)->(givs rows mis).length<=5 ^ rows.length:=fun rows mis h=>by
 rw[j4v h];exact zB6 (List.length_filter_le _ _) (k5n N hN rows.length)
end Go.Proofs.YtmennjmjakdkcaaGreat
namespace Go.Proofs.YtmennjmjakdkcaaGreat
open Go.RowKit
theorem OwnG.zone {w w':World} {base:Nat} {v:Value} {ls:List (List Int)} (h:OwnG w base v ls) (k:∀ j,base<=j->j<w.heap.size->w'.heap[j]?=w.heap[j]?):OwnG w' base v ls:=by
 have key:∀ {α:Type} {enc:α->List Value} {t:TypeId} {s:Nat} {x:Value} {l:List α},Own enc t s w base x l->Own enc t s w' base x l:=fun {α enc t s x l} h=>by
  refine⟨h.1,?_⟩;rcases h.2 with h2|⟨g,cap,cur,hv,hg,hh,r⟩
  ·exact .inl h2
  ·exact .inr ⟨g,cap,cur,hv,hg,(k g hg (j0a hh)).trans hh,r⟩
 obtain⟨mv,h1,h2,h3⟩:=h;exact⟨mv,key h1,h2,fun i v hv=>by
  obtain⟨l,hl,ho⟩:=h3 i v hv;exact⟨l,hl,key ho⟩⟩
def Zone (lo hi:Nat) (w1 w:World) (v:Value):Prop:=(∀ j,lo<=j->j<hi->w.heap[j]?=w1.heap[j]?)∧∀ k,v.ownBlock=some k->k<lo∨hi<=k
theorem OwnG.lt {w:World} {base:Nat} {v:Value} {ls:List (List Int)} (h:OwnG w base v ls):∀ k,v.ownBlock=some k->base<=k∧k<w.heap.size:=by
 obtain⟨mv,h1,_⟩:=h;exact Own.lt h1
def j3p (row:List Int) (rest:List (List Int)) (mis:List Int) (i:Nat):List (List Int):=(row.take i).flatMap fun o=>if mis.getD o.toNat 0=0 then [] else (givs rest (j1w mis o)).map fun r=>o::r
theorem k2u {row:List Int} {rest:List (List Int)} {mis:List Int} {i:Nat} {o:Int} (h:row[i]?=some o):j3p row rest mis (i+1)=j3p row rest mis i++if mis.getD o.toNat 0=0 then [] else (givs rest (j1w mis o)).map fun r=>o::r:=by
 unfold j3p;rw[List.take_add_one,h,List.flatMap_append];simp
theorem k4k {N:Nat} (hN:N<=5) {rest:List (List Int)} (hr:∀ row∈rest,∃ p:Nat->Bool,row=((List.range N).filter p).map Int.ofNat) (row mis:List Int):∀ i,(j3p row rest mis i).length<=i*5 ^ rest.length
 | 0=>by simp[j3p]
 | i+1=>by
   have ih:=k4k hN hr row mis i;have a0:=fun m=>k8x hN rest m hr
   rw[Nat.succ_mul];generalize 5 ^ rest.length=P at ih a0 ⊢;generalize i*P=Q at ih ⊢;cases h:row[i]? with
   | none =>
     have:j3p row rest mis (i+1)=j3p row rest mis i:=by unfold j3p;rw[List.take_add_one,h];simp
     rw[this];omega
   | some o =>
     rw[k2u h,List.length_append]
     split
     ·simp;omega
     ·rw[List.length_map];have:=a0 (j1w mis o);omega
theorem Sl.tail {α:Type} {enc:α->List Value} {sz:Nat} {w:World} {b off n:Nat} {x:α} {l:List α} (h:Sl enc sz w (some ⟨b,off,none⟩) (n+1) (x::l)):Sl enc sz w (some ⟨b,off+sz,none⟩) n l:=by
 obtain⟨h1,h2⟩:=h;refine⟨by simpa using h1,fun hn=>⟨b,off+sz,rfl,fun i y hy j u hu=>?_⟩⟩
 obtain⟨b',a0,e,hc⟩:=h2 (by omega)
 cases e;have:=hc (i+1) y (by simpa using hy) j u hu
 rw[Nat.succ_mul] at this;rw[show off+sz+i*sz+j=off+(i*sz+sz)+j by omega]
 exact this
theorem q6f {α:Type} {enc:α->List Value} {P:Program} {t e:TypeId} {sz bytes:Nat} (E:ElemOk P t e sz bytes) {ops:Array Oper} {o:Oper} {a:Act} {K:Act->World->Prop} {Q:Exit->Act->World->Prop} {F:Prop} {w:World}
 (af:o.guard=none) (s x:Operand) (ho:o.op=.call { callee:=.builtin .append,args:=#[s,x],argTypes:=#[t,t] })
 (base:Nat) (v:Value) (l:List α) (A:Option Addr) (m c:Nat) (l2:List α) (hs:a.eval s=v) (hx:a.eval x=.slice A m c) (a3:Sl enc sz w A m l2) (hz:A=none->c=0)
 (a4:∀ x,(enc x).length=sz) (h1:∀ x,∀ u∈enc x,u.oneCell'=true)
 (a0:Own enc e sz w base v l) (ah:l.length+m<4294967296) (ag:bytes<=4096) (a1:base<=w.heap.size)
 (h:∀ v' w',Own enc e sz w' base v' (l++l2)->w.grownBy w' v.ownBlock->Below base w w'->K (a.put o.dst v') w') :
 if Region.wanted o (yielded ops a.tmps)=true then Oper.wp P o a w K Q else F:=by
 obtain⟨i,z,hi,ac,a5,a2,a9⟩:=E.info;have hw:Region.wanted o (yielded ops a.tmps)=true:=by simp[Region.wanted,af]
 rw[if_pos hw];cases A with
 | none =>
   have hc:=hz rfl;subst hc;have hm:m=0:=by
    rcases Nat.eq_zero_or_pos m with h0|h0
    ·exact h0
    ·obtain⟨b,off,hA,_⟩:=a3.2 h0;cases hA
   subst hm;have ae:l2=[]:=zC1 a3.1;subst ae;have hk:=h v w (by rw[List.append_nil];exact a0) (World.grownBy.refl w _) (zB2 _ _)
   have a8:=run_append_owned_none (P:=P) (w:=w) base t o.type e i sz E.sl hi v l.length (l.flatMap enc) a0;unfold Oper.wp;simp[execOp,ho,resolve,invoke,builtin,hs,hx,a8,Result.andThen];exact hk
 | some ad =>
   refine wp_append_own w s x t ho base e i z sz bytes E.sl hi ac a5 a2 a9 E.pos v l.length (l.flatMap enc) hs a0 ad m c (l2.flatMap enc) hx (by rw[j7y a4,a3.1]) ?_ ?_ (by unfold maxLen;omega) ?_ a1 ?_
   ·intro j u hu;obtain⟨y,hy,a7⟩:=k2e E.pos a4 l2 j u hu;have aa:=(List.getElem?_eq_some_iff.1 hy).1;obtain⟨b,off,hA,hc⟩:=a3.2 (a3.1 ▸ Nat.lt_of_le_of_lt (Nat.zero_le _) aa);cases hA;have:=hc _ y hy _ u a7;rw[Addr.add_lit];have e1:off+j / sz*sz+j % sz=off+j:=by rw[Nat.add_assoc,Nat.div_add_mod']
    rw[e1] at this;exact this
   ·intro u hu;obtain⟨y,hy,a7⟩:=List.mem_flatMap.1 hu;exact h1 y u a7
   ·calc (l.length+m)*bytes<=4294967296*4096:=Nat.mul_le_mul (by omega) ag
     _<=140737488355328:=by omega
   ·intro v' w' a6 hg _;refine h v' w' ?_ hg ((zB2 _ _).grown hg a1 (fun k hk=>(Own.lt a0 k hk).1))
    have e2:(l++l2).flatMap enc=l.flatMap enc++l2.flatMap enc:=by simp
    unfold Own;rw[e2,List.length_append,a3.1];exact a6
theorem k8a {ops:Array Oper} {o:Oper} {a:Act} {K:Act->World->Prop} {Q:Exit->Act->World->Prop} {F:Prop} {w:World}
 (aa:o.guard=none) (s x:Operand) (ho:o.op=.call { callee:=.builtin .append,args:=#[s,x],argTypes:=#[26,26] })
 (base:Nat) (v u:Value) (ls:List (List Int)) (l:List Int) (hs:a.eval s=v) (hx:a.eval x=.slice (some ⟨w.heap.size,0,none⟩) 1 1)
 (a6:OwnG w base v ls) (hu:OwnI w base u l) (ad:ls.length<4294967296) (a3:base<=w.heap.size)
 (h:∀ v' w',OwnG w' base v' (ls++[l])->Below base w w'->w.grownBy w' v.ownBlock->(∀ k,v'.ownBlock=some k->v.ownBlock=some k∨w.heap.size<=k)->K (a.put o.dst v') w') :
 if Region.wanted o (yielded ops a.tmps)=true then Oper.wp Tryz.prog o a (w.alloc (.cells #[u] 25)) K Q else F:=by
 obtain⟨mv,h1,h2⟩:=a6;have a9:u.oneCell'=true:=by
  rcases hu.2 with ⟨rfl,_⟩|⟨g,cap,cur,rfl,_⟩<;>rfl
 obtain⟨i,z,hi,hz,a2,a0,a8⟩:=j8g.info;refine step_append_lies _ aa s x _ ho base _ i z 1 24 j8g.sl hi hz a2 a0 a8 (by decide) v mv.length (mv.flatMap eVal) hs (World.ownsRow.alloc h1 _) ⟨w.heap.size,0,none⟩ 1 1 (eVal u) hx rfl ?_ (j6i a9) (by omega) (by rw[h2.1];unfold maxLen;omega) (by rw[h2.1];omega) (by simp;omega) (w.heap.size+1) (by simp) ?_
 ·exact World.news_of_block (heap_alloc_new w _)
 ·intro g' cap w' a4 a1 a5 _;have a7:w.grownBy w' v.ownBlock:=⟨a1.os,a1.tape,a1.output,zB6 (by simp) a1.size,fun k hk hne=>(a1.block k (by simp;omega) hne).trans (Below.heap_alloc _ _ _ hk)⟩
  have ac:Own eVal 25 1 w' base (.slice (some ⟨g',0,none⟩) (mv.length+1) cap) (mv++[u]):=by
   have e2:(mv++[u]).flatMap eVal=mv.flatMap eVal++eVal u:=by simp
   unfold Own;rw[e2,List.length_append];exact a4
  refine h _ _ (OwnG.snoc h1 h2 hu ac a7) ((zB2 _ _).grown a7 a3 (fun k hk=>(Own.lt h1 k hk).1)) a7 fun k hk=>?_
  simp only[Value.ownBlock,Option.some.injEq] at hk;subst hk;rcases a5 with h|h
  ·exact .inl h
  ·exact .inr (by omega)
theorem zone_ne {lo hi bb:Nat} {w1 w:World} {v:Value} (h:Zone lo hi w1 w v) (h1:lo<=bb) (h2:bb<hi):v.ownBlock≠some bb:=fun e=>by
 rcases h.2 bb e with h|h<;>omega
theorem gcell {w w':World} {v u:Value} {b o base:Nat} (hg:w.grownBy w' v.ownBlock) (hc:w.cell? ⟨b,o,none⟩=some u) (hv:∀ k,v.ownBlock=some k->base<=k) (hb:b<base):w'.cell? ⟨b,o,none⟩=some u :=
 hg.cell hc (fun e=>by
  have e':v.ownBlock=some b:=e.symm;have:=hv b e';omega)
theorem j7h (x:List Int):x.flatMap eInt=x.map (Value.int .i64):=by
 induction x with
 | nil=>rfl
 | cons a r ih=>rw[List.flatMap_cons,ih];rfl
theorem Own.put {w:World} {base:Nat} {A:Option Addr} {n c:Nat} {l:List Int} (h:OwnI w base (.slice A n c) l) {o:Nat} (ho:o<l.length) (x:Int) :
 ∃ g,A=some ⟨g,0,none⟩∧base<=g∧g<w.heap.size∧w.cell? ⟨g,o,none⟩=some (.int .i64 (l.getD o 0))∧w.frozen? ⟨g,o,none⟩=false∧OwnI (w.setCell ⟨g,o,none⟩ (.int .i64 x)) base (.slice A n c) (l.set o x):=by
 rcases h.2 with ⟨hv,h0⟩|⟨g,cap,cur,hv,hg,hh,a3,a2,a4,a0⟩
 ·omega
 ·cases hv;have a5:o<c:=by omega
  have hm:(l.flatMap eInt)[o]?=some (Value.int .i64 (l.getD o 0)):=by
   rw[j7h,List.getElem?_map,zB5 ho,zB3,zB5 ho];rfl
  have a1:cur[o]?=some (Value.int .i64 (l.getD o 0)):=by
   rw[<-a0,List.getElem?_take_of_lt (by omega),Array.getElem?_toList] at hm
   exact hm
  refine⟨g,rfl,hg,j0a hh,?_,frz hh o,?_⟩
  ·unfold World.cell?;simp[hh,a1]
  ·refine⟨by simp[j7h],.inr ⟨g,c,cur.setIfInBounds o (.int .i64 x),by simp,hg,j0g hh,by simpa using a3,a2,by simpa using a4,?_⟩⟩
   rw[Array.toList_setIfInBounds,List.take_set,List.length_set,a0,j7h,j7h,List.map_set]
theorem k9v (t:Int) (A:Option Addr) (n c:Nat) (l:List Mk) (bo:check t l=0):∀ (ss:List Sg) (B:Option Addr) (cb:Nat) (Ai:Option Addr) (ci:Nat) (mis:List Int) (w:World),
 Marks w A n l->Sights w B ss.length ss->ss.length<=cb->cb<=maxLen->ss.length<=6->(∀ s∈ss,seen s 9 6=0)->Ints w Ai n mis->(Ai=none->ci=0)->(∀ x∈mis,0<=x∧x<=6) ->
 Calls Tryz.prog 124 #[.agg #[.int .i64 t,.slice A n c],.slice B ss.length cb,.slice Ai n ci] w fun e w'=>∃ v,e=.returned v∧OwnG w' w.heap.size v (givs (mays t l ss) mis)∧Below w.heap.size w w'
 | [],B,cb,Ai,ci,mis,w,hl,hss,hcb,hcbm,h6,hsv,hmi,hz,hmv=>by
   go_enter Tryz.func124,Tryz.ntmps124
   go_wp2
   go_ret
   refine⟨_,rfl,?_,bal (bal0 w _) (zL9 _) _⟩;have h:=OwnG.one (w.alloc (.cells #[.int .i64 t,.slice A n c] 24)) w.heap.size (bal0 w _).size;rw[show(w.alloc (.cells #[.int .i64 t,.slice A n c] 24)).heap.size=w.heap.size+1 by simp] at h
   exact h
 | s::ss,B,cb,Ai,ci,mis,w,hl,hss,hcb,hcbm,h6,hsv,hmi,hz,hmv=>by
   have IH:=fun B cb Ai ci mis w=>k9v t A n c l bo ss B cb Ai ci mis w
   have ct:=zQ9 IH;have dd:=hl.len;have dn:n<=5:=by have:=(j2d bo).2.2.1;omega
   obtain⟨bs,os,s',rfl,dh,cc,s0,s1,s2,s3,s4⟩:=Sights.get hss (show 0<(s::ss).length by simp)
   obtain rfl:s=s':=by simpa using cc
   obtain⟨bA,ay,-,-⟩:=j6o (hsv s (by simp))
   obtain⟨m,hm⟩:∃ m,m=ss.length:=⟨_,rfl⟩;have b9:(s::ss).length=m+1:=by rw[hm];rfl
   have cw:=zQ9 (show ∀ m∈l,0<=m.n∧m.n<=255 from fun m hm=>(j3h bo m hm).1)
   have dA:m+1<=6:=by omega
   have cD:m+1<=cb:=by omega
   rw[b9];have HP:=zQ9 (zA9 hl (zA9 (Sl.tail (n:=m) (x:=s) (l:=ss) (b9 ▸ hss)) (zA9 hmi (zA9 hmv (zA9 (fun x hx=>hsv x (List.mem_cons_of_mem _ hx)) (zA9 hm hz))))))
   unfold maxLen at hcbm;clear IH hl hss hsv hmi hmv cc dh hm b9 hcb h6 hz;go_enter Tryz.func124,Tryz.ntmps124
   go_upto_region 1 with (fail)
   obtain⟨W,hW⟩:∃ W,W=w.alloc (.cells #[.int .i64 t,.slice A n c] 24):=⟨_,rfl⟩;rw[<-hW];have aa:Below w.heap.size w W:=by rw[hW];exact bal0 w _
   have bW:W.heap[w.heap.size]?=some (.cells #[.int .i64 t,.slice A n c] 24 (0,0)):=by rw[hW];exact j0c rfl
   obtain⟨r0,r1⟩:=blk2 bW;have du:=j0a bW;simp only[Nat.zero_mul,Nat.add_zero] at s0 s1 s2 s3 s4;replace s0:=j0u s0 aa (zL9 _);replace s1:=j0u s1 aa (zL9 _);replace s2:=j0u s2 aa (zL9 _);replace s3:=j0u s3 aa (zL9 _);replace s4:=j0u s4 aa (zL9 _);have HW:=zQ9 (zA9 bW aa);have bw:(((m:Int)+1)==0)=false:=by rw[beq_eq_false_iff_ne];omega
   have dy:(0:Int)<(m:Int)+1:=by omega
   have cC:(1:Int)<=(m:Int)+1:=by omega
   have c8:((m+1:Nat):Int)=(m:Int)+1:=by omega
   clear hW aa bW;go_upto_region 4 with (fail)
   refine j1c (C:=fun w'=>∃ n,w'=W.drewN n) 4 (by kernel_rfl) (by kernel_rfl) ⟨1,rfl⟩ ?_
   simp only[List.take_succ_cons,List.take_zero,List.drop_succ_cons,List.drop_zero]
   repeat (quiet_step (fail))
   refine wpQuiet_nil ?_;intro _ af;obtain⟨nq,a5⟩:=af;subst a5;obtain⟨W1,aE⟩:∃ W1,W1=W.drewN nq:=⟨_,rfl⟩;have a9:Below W.heap.size W W1:=by rw[aE];exact j0k (zB2 _ _) nq
   have ak:W1.heap.size=W.heap.size:=by rw[aE];rfl
   rw[<-aE];have aA:=zQ9 (zA9 a9 (zA9 ak (HW.o.2.trans (a9.mono HW.o.2.size))));clear aE a9 ak r0 r1 s0 s1 s2 s3 s4;go_wp2_with fail
   refine(rMayB t A n c l s _ (HP.o.1.below aA.o.2.2 (zL9 _)) (by omega) bA.1 bA.2 ay cw.o).mono ?_
   rintro e w2 ⟨v2,rfl,bm,bq⟩;obtain⟨row,a1⟩:∃ row,row=mayL t l s:=⟨_,rfl⟩;rw[<-a1] at bm;obtain⟨A2,c2,rfl,ca,d8,bj⟩:=bm.form j0n;have b6:=aA.o.2.2.trans (bq.mono aA.o.2.2.size);have dF:row.length<=5:=by rw[a1];have:=k9i t l s;omega
   have c9:∀ o∈row,0<=o∧o<n:=fun o ho=>by rw[a1] at ho;have:=k9j ho;omega
   have b2:=j0e (j0e HW.o.1 aA.o.1 (zL9 _)) bq (zL9 _);have HR:=zQ9 (zA9 a1 (zA9 ca (zA9 b6 (zA9 c9 b2))));have b8:=b6.size;clear a1 bm ca b6 bq c9 b2 d8 bj;go_wp2_with fail
   go_loopg [7,9] row.length (fun g v i wr=>∃ k:Nat,k+g=row.length∧i=.int .i64 k∧OwnG wr w2.heap.size v (j3p row (mays t l ss) mis k)∧Below w2.heap.size w2 wr)
   case atStart=>exact⟨0,by omega,rfl,OwnG.nil_,zB2 _ _⟩
   case round =>
    obtain⟨k,hk,rfl,an,a6⟩:=hrel;have bt:=HR.o.2.2.1.trans (a6.mono b8);have HK:=zQ9 (zA9 hk (zA9 an (zA9 a6 bt)));have dD:k<=row.length:=by omega
    obtain⟨g1,rfl⟩:∃ g1:Nat,g1=gk:=⟨_,rfl⟩;obtain⟨wo,rfl⟩:∃ wo:World,wo=wr:=⟨_,rfl⟩;have ay:=a6.size;clear hk an;by_cases hlt:k<row.length
    ·obtain⟨be,oe,y,rfl,ar,hy,y0⟩:=Ints.get (HR.o.2.1.below a6 (zL9 _)) hlt;have cq:=HR.o.2.2.2.1 y (zB4 hy);obtain⟨o,rfl⟩:=zB7 cq.1;have cB:o<n:=by omega
     obtain⟨bd,od,z,rfl,ae,hz,z0⟩:=Ints.get (HP.o.2.2.1.below bt (zL9 _)) cB;have dw:=HP.o.2.2.2.1 z (zB4 hz);have bC:mis.getD o 0=z:=by rw[zB3,hz];rfl
     have HY:=zQ9 (zA9 hy (zA9 bC (k2u (rest:=mays t l ss) (mis:=mis) hy)));have k0:(0:Int)<=(k:Int):=by omega
     have k1:(k:Int)<(row.length:Int):=by omega
     have o0:(0:Int)<=(o:Int):=by omega
     have o1:(o:Int)<(n:Int):=by omega
     clear hy ar cq ae hz bC;by_cases hz0:z=0
     ·subst hz0;go_wp2
      go_roundg (g1-1)
      case measure=>have:=HK.o.1;omega
      case rel =>
       refine⟨k+1,by have:=HK.o.1;omega,by go_num,?_,HK.o.2.2.1⟩
       rw[HY.o.2.2,Int.toNat_natCast,if_pos HY.o.2.1,List.append_nil];exact HK.o.2.1
     ·have dk:(z==0)=false:=by rw[beq_eq_false_iff_ne];exact hz0
      have cv:¬z=0:=hz0;have cf:=zQ9 (zA9 (HP.o.2.2.1.below HK.o.2.2.2 (zL9 _)) (show OwnI (wo.alloc (Obj.cells #[] 3)) wo.heap.size (.slice (some ⟨wo.heap.size,0,none⟩) 0 0) [] from Own.lit (enc:=eInt) wo wo.heap.size #[] [] rfl j0n (by omega) (by simp[maxLen])))
      have bu:=zQ9 (bal0 wo (Obj.cells #[] 3));have aH:=zQ9 (cf.o.1.below bu.o (zL9 _));clear a6 bt;go_wp2_with (at_builtin;refine j7u j3b rfl (.tmp 36) (.tmp 37) rfl wo.heap.size (.slice (some ⟨wo.heap.size,0,none⟩) 0 0) [] _ n ci mis rfl rfl aH.o HP.o.2.2.2.2.2.2 j0n j1x cf.o.2 ?_ ?_ ?_ ?_;(simp;omega);(omega);(simp);intro v3 w3 a0 b3 ac;have H3:=zQ9 (zA9 a0 ac);clear a0 b3 ac)
      have a0:OwnI w3 wo.heap.size v3 mis:=by have h:=H3.o.1;rwa [List.nil_append] at h
      obtain⟨A3,c3,cz,d7,dx,cC⟩:=a0.form j0n;subst cz;have bi:=HP.o.2.2.1.len;obtain⟨g,rfl,cF,f1,bB,cE,ad⟩:=a0.put (show o<mis.length by omega) (z-1)
      rw[HY.o.2.1] at bB;have dB:IntKind.i64.wrap (z-1)=z-1:=IntWalk.i64_in _ (by omega)
      have ac:Below wo.heap.size wo w3:=bu.o.trans (H3.o.2);have dC:=ac.size;replace y0:=j0u y0 ac (zL9 _);have bD:(j1w mis (o:Int)).length=n:=by rw[j8x];exact bi
      have aD:=zQ9 (zA9 ad (zA9 ac (zA9 a0 bD)));have dr:(o:Int)<(mis.length:Int):=by omega
      rw[bi];clear a0 d7 ad ac bD z0 bi;go_upto_region 10 with (fail)
      refine j1c (C:=fun w'=>∃ n,w'=w3.drewN n) 14 (by kernel_rfl) (by kernel_rfl) ⟨1,rfl⟩ ?_
      simp only[List.take_succ_cons,List.take_zero,List.drop_succ_cons,List.drop_zero]
      repeat (quiet_step (fail))
      refine wpQuiet_nil ?_;intro _ af;obtain⟨cn,a5⟩:=af;subst a5;obtain⟨W4,aq⟩:∃ W4,W4=(w3.drewN cn).setCell ⟨g,o,none⟩ (.int .i64 (z-1)):=⟨_,rfl⟩;go_upto_region 11 with (fail)
      rw[<-aq];have c0:OwnI W4 wo.heap.size (.slice (some ⟨g,0,none⟩) n c3) (j1w mis (o:Int)):=by
       have h:=aD.o.1;rw[show mis.length=n by have:=aD.o.2.2.2;rw[j8x] at this;exact this] at h
       unfold j1w;rw[Int.toNat_natCast,HY.o.2.1,aq];exact h.upon fun j _=>rfl
      have av:Below wo.heap.size wo W4:=by
       rw[aq];exact(j0k aD.o.2.1 cn).setCell (show wo.heap.size<=(⟨g,o,none⟩:Addr).block from cF) _
      have a4:=HK.o.2.2.1.trans (av.mono ay);have d1:=av.size;obtain⟨r0,r1⟩:=blk2 (j0e HR.o.2.2.2.2 a4 (zL9 _));have dq:w.heap.size<W4.heap.size:=j0a (j0e HR.o.2.2.2.2 a4 (zL9 _));have az:=zQ9 (zA9 c0 (zA9 av (zA9 a4 (HR.o.2.2.1.trans (a4.mono b8)))));clear aq c0 av a4 y0 bB cE;refine j1c (C:=fun w'=>∃ n,w'=W4.drewN n) 4 (by kernel_rfl) (by kernel_rfl) ⟨1,rfl⟩ ?_
      simp only[List.take_succ_cons,List.take_zero,List.drop_succ_cons,List.drop_zero]
      repeat (quiet_step (fail))
      refine wpQuiet_nil ?_;intro _ af;obtain⟨cg,a5⟩:=af;subst a5;obtain⟨W5,aw⟩:∃ W5,W5=W4.drewN cg:=⟨_,rfl⟩;rw[<-aw];have aB:Below W4.heap.size W4 W5:=by rw[aw];exact j0k (zB2 _ _) cg
      have ce:W5.heap.size=W4.heap.size:=by rw[aw];rfl
      have ao:=az.o.2.1.trans (aB.mono d1);have a7:=zQ9 (zA9 (az.o.1.below aB (zL9 _)) (zA9 ao (zA9 (az.o.2.2.2.trans (aB.mono az.o.2.2.2.size)) ce)));clear aw aB ce ao r0 r1;generalize hA5:(if cb=1 then (some ⟨bs,os,none⟩:Option Addr) else some ⟨bs,os+5,none⟩)=A5
      have ah:Sights W5 A5 m ss:=by
       have h:=HP.o.2.1.below a7.o.2.2.1 (zL9 _);rw[<-hA5];by_cases h1:cb=1
       ·rw[if_pos h1];have bw:m=0:=by omega
        have b7:ss=[]:=zC1 (by have:=HP.o.2.2.2.2.2.1;omega)
        subst b7;subst bw;exact Sl.nil_
       ·rw[if_neg h1];exact h
      have aF:=HP.o.2.2.2.2.2.1;have cp:Ints W5 (some ⟨g,0,none⟩) n (j1w mis (o:Int)):=by
       have h:=(Own.sl a7.o.1 j0n).1
       rwa [aD.o.2.2.2] at h
      have ai:∀ x∈j1w mis (o:Int),0<=x∧x<=6:=fun x hx=>by
       unfold j1w at hx;rw[Int.toNat_natCast,HY.o.2.1] at hx;rcases List.mem_or_eq_of_mem_set hx with h1|h1
       ·exact HP.o.2.2.2.1 x h1
       ·omega
      have C:=ct.o A5 (cb-1) (some ⟨g,0,none⟩) c3 (j1w mis (o:Int)) W5 (HP.o.1.below a7.o.2.2.1 (zL9 _)) (aF ▸ ah) (by omega) (by unfold maxLen;omega) (by omega) HP.o.2.2.2.2.1 cp (fun h=>by cases h) ai
      rw[<-aF] at C;obtain⟨R,hR⟩:∃ R,R=givs (mays t l ss) (j1w mis (o:Int)):=⟨_,rfl⟩;rw[<-hR] at C;have dH:R.length<=3125:=by
       rw[hR];have h1:=k8x (N:=l.length) (by omega) (mays t l ss) (j1w mis (o:Int)) j8z
       have h2:(mays t l ss).length=m:=by unfold mays;rw[List.length_map,aF]
       rw[h2] at h1;exact zB6 h1 (q2d (by omega))
      have HC:=zQ9 C;have c4:=zQ9 hR;have bh:n=l.length:=dd.symm;clear hA5 ah aF cp ai C hR bh;go_wp2_with fail
      (with_reducible refine HC.o.mono ?_)
      rintro e w6 ⟨v6,rfl,bn,aC⟩;obtain⟨A6,c6,rfl,-,cG,b0⟩:=bn.form;have a8:=HK.o.2.2.1.trans ((a7.o.2.1.trans (aC.mono a7.o.2.1.size)).mono ay);have dj:=aC.size;have bp:=a7.o.2.1.size;have aj:=HK.o.2.1.below (a7.o.2.1.trans (aC.mono a7.o.2.1.size)) (zL9 _);have di:=zQ9 (fun(k:Nat) hk=>(HK.o.2.1.lt k hk).2)
      have H6:=zQ9 (zA9 bn (zA9 aj a8));have d4:=a8.size;clear bn aC aj a8 cG b0;go_wp2_with fail
      go_loopg [7,12] R.length (fun g v i wr=>∃ q:Nat,q+g=R.length∧i=.int .i64 q∧OwnG wr w2.heap.size v (j3p row (mays t l ss) mis k++(R.take q).map fun r=>(o:Int)::r)∧Zone W5.heap.size w6.heap.size w6 wr v∧w6.heap.size<=wr.heap.size∧Below w2.heap.size w2 wr)
      case atStart=>exact⟨0,by omega,rfl,by simpa using H6.o.2.1,⟨fun j _ _=>rfl,fun k hk=>.inl (Nat.lt_of_lt_of_le (di.o k hk) bp)⟩,zL9 _,H6.o.2.2⟩
      case round =>
       obtain⟨q,hq,rfl,an,br,cH,a6⟩:=hrel;have HQ:=zQ9 (zA9 hq (zA9 an (zA9 br a6)));have dz:q<=R.length:=by omega
       have cj:=a6.size;have bF:=H6.o.1.zone (w':=wr) br.1;clear hq an br;by_cases hlq:q<R.length
       ·obtain⟨bb,off,cap,Bx,r,cx,hv,hr,hc,bG,f2,f5,c5⟩:=bF.get hlq;obtain⟨rfl,rfl⟩:A6=some ⟨bb,off,none⟩∧c6=cap:=by simpa using hv
        have y0:wr.cell? ⟨be,oe+k,none⟩=some (.int .i64 (o:Int)):=by
         obtain⟨da,d5,y,hA,ar,hy,y0⟩:=Ints.get (HR.o.2.1.below a6 (zL9 _)) hlt;cases hA;obtain rfl:(o:Int)=y:=Option.some.inj (HY.o.1.symm.trans hy);exact y0
        have aG:wr.drew.cell? ⟨be,oe+k,none⟩=some (.int .i64 (o:Int)):=y0;have bf:wr.drew.cell? ⟨bb,off+q,none⟩=some (.slice Bx r.length cx):=hc;have HX:=zQ9 (zA9 hr bG);have i0:(0:Int)<=(q:Int):=by omega
        have i1:(q:Int)<(R.length:Int):=by omega
        have cr:r.length<=6:=by
         have ag:=c4.o ▸ zB4 hr;rw[j4v (N:=l.length) j8z,List.mem_filter] at ag;have h1:=(j3t ag.1).1;have h2:(mays t l ss).length=m:=by unfold mays;rw[List.length_map,HP.o.2.2.2.2.2.1]
         omega
        have dg:(j3p row (mays t l ss) mis k++(R.take q).map fun r=>(o:Int)::r).length<4294967296:=by
         rw[List.length_append,List.length_map,List.length_take];have h1:=k4k (N:=l.length) (by omega) (rest:=mays t l ss) j8z row mis k
         have h2:(mays t l ss).length=m:=by unfold mays;rw[List.length_map,HP.o.2.2.2.2.2.1]
         rw[h2] at h1;have h3:5 ^ m<=3125:=q2d (by omega)
         have h4:k*5 ^ m<=5*3125:=Nat.mul_le_mul (by omega) h3
         omega
        have ae:Below wr.heap.size wr (wr.drew.alloc (.cells #[.int .i64 (o:Int)] 3)):=(j0k (zB2 _ _) 1).trans (bal0 wr.drew _);have cy:=zQ9 ae;have HL:=zQ9 (zA9 (HX.o.2.below ae (zL9 _)) (Own.lit (enc:=eInt) (e:=3) wr.drew wr.heap.size #[Value.int .i64 (o:Int)] [(o:Int)] rfl j0n (zL9 _) (by simp[maxLen])))
        have HZ:=zQ9 c5;clear hv hr bG a6 c5 bF ae;have ba:be<w2.heap.size:=by
         obtain⟨da,d5,y,hA,ar,_,_⟩:=Ints.get HR.o.2.1 hlt;cases hA;exact ar
        have d2:=zQ9 (fun k hk=>(HQ.o.2.1.lt k hk).1)
        have d9:=zQ9 (zone_ne HQ.o.2.2.1 (H6.o.1.lt bb rfl).1 (H6.o.1.lt bb rfl).2);go_upto_region 15 with (fail)
        go_region_held3 (fun w'=>w'.cell? ⟨be,oe+k,none⟩=some (.int .i64 (o:Int))∧w'.cell? ⟨bb,off+q,none⟩=some (.slice Bx r.length cx))
         ((go_split_ands
           refine⟨?_,?_⟩
           all_goals first
            | (with_reducible exact aG)
            | (with_reducible exact bf)
            | (with_reducible exact q0)
            | (with_reducible exact q1)
            | (with_reducible exact j0u aG (bal0 _ _) (zL9 _))
            | (with_reducible exact j0u bf (bal0 _ _) (zL9 _))
            | (with_reducible exact j0u q0 (bal0 _ _) (zL9 _))
            | (with_reducible exact j0u q1 (bal0 _ _) (zL9 _))
            | fail))
         (first
           | (refine q6f j3b (by rfl) _ _ (by rfl) wr.heap.size (.slice (some ⟨wr.drew.heap.size,0,none⟩) 1 1) [(o:Int)] Bx r.length cx r (by rfl) (by rfl) HL.o.1 HZ.o j0n j1x HL.o.2 ?_ ?_ ?_ ?_;(simp;omega);(omega);(simp);intro v7 w7 a3 b4 bv;have a2:=cy.o.trans bv;have q0:=j0u y0 a2 (zL9 _);have q1:=j0u hc a2 (zL9 _);obtain⟨A7,c7,b5,co,d0,cu,d3⟩:=k1r a3 j0n;rw[b5];have cA:w2.heap.size<=w7.heap.size:=(by have:=a2.size;omega);have H7:=zQ9 (zA9 (b5 ▸ a3) a2);clear a3 b4 bv co d0 cu d3 b5 a2)
           | (refine k8a (by rfl) _ _ (by rfl) w2.heap.size _ (.slice A7 ([(o:Int)]++r).length c7) (j3p row (mays t l ss) mis k++(R.take q).map fun r=>(o:Int)::r) ([(o:Int)]++r) (by rfl) ?_ (HQ.o.2.1.below H7.o.2 (zL9 _)) (H7.o.1.mono cj) dg cA ?_;(simp[go_sem]);intro v8 w8 am bE ax bz;have H8:=zQ9 (zA9 am (zA9 bE (zA9 ax bz)));have q0:=gcell ax q0 d2.o ba;have q1:=ax.cell q1 (fun e=>d9.o e.symm);clear am bE ax bz)
           | fail)
        have co:=H7.o.2.size;have dG:=H8.o.2.1.size;clear q0 q1 y0 aG hc bf;go_wp2
        go_roundg (gk-1)
        case measure=>have:=HQ.o.1;omega
        case rel =>
         refine⟨q+1,by have:=HQ.o.1;omega,by go_num,?_,⟨fun j hj1 hj2=>?_,fun k hk=>?_⟩,by omega,(HQ.o.2.2.2.trans (H7.o.2.mono cj)).trans H8.o.2.1⟩
         ·have h:=H8.o.1;rw[List.take_add_one,HX.o.1];simpa[List.append_assoc] using h
         ·rw[H8.o.2.2.1.block j (by omega) (fun e=>by rcases HQ.o.2.2.1.2 j e.symm with h|h<;>omega),H7.o.2.block j (by omega)]
          exact HQ.o.2.2.1.1 j hj1 hj2
         ·rcases H8.o.2.2.2 k hk with h|h
          ·exact HQ.o.2.2.1.2 k h
          ·exact .inr (by omega)
       ·obtain rfl:q=R.length:=by omega
        go_wp2
        go_roundg (g1-1)
        case measure=>have:=HK.o.1;omega
        case rel =>
         refine⟨k+1,by have:=HK.o.1;omega,by go_num,?_,HQ.o.2.2.2⟩
         have:=HQ.o.2.1;rw[zB8 (zL9 _),c4.o] at this;rw[HY.o.2.2,Int.toNat_natCast,if_neg (by rw[HY.o.2.1];exact hz0)]
         exact this
    ·obtain rfl:k=row.length:=by omega
     go_wp2
     go_ret
     refine⟨_,rfl,?_,HK.o.2.2.2⟩;have h:=HK.o.2.1;unfold j3p at h;rw[zB8 (zL9 _),HR.o.1] at h;exact h.mono b8
def splB (t:Int) (l:List Mk) (ss:List Sg) (hs:List Int):Bool:=decide (hs.sum=(ss.length:Int))&&!(givs (mays t l ss) hs).isEmpty
theorem k6b:∀ {l:List Int},(∀ x∈l,0<=x)->∀ x∈l,x<=l.sum
 | y::t,h,x,hx=>by
   have h0:0<=t.sum:=by
    clear hx;have ht:∀ z∈t,0<=z:=fun z hz=>h z (List.mem_cons_of_mem _ hz)
    clear h
    induction t with
    | nil=>simp
    | cons a t ih=>have h1:=ih fun z hz=>ht z (List.mem_cons_of_mem _ hz);have h2:=ht a (List.mem_cons_self ..);rw[List.sum_cons];omega
   have hy:=h y (List.mem_cons_self ..);rw[List.sum_cons];rcases List.mem_cons.1 hx with rfl|hx
   ·omega
   ·have:=k6b (fun z hz=>h z (List.mem_cons_of_mem _ hz)) x hx;omega
theorem q2j:∀ {l:List Int} {N:Int},0<=N->(∀ x∈l,0<=x∧x<=N)->0<=l.sum∧l.sum<=N*l.length
 | [],N,h0,_=>by simp
 | a::t,N,h0,h=>by
   have h1:=h a (List.mem_cons_self ..);have h2:=q2j h0 fun z hz=>h z (List.mem_cons_of_mem _ hz)
   have h3:N*((a::t).length:Int)=N*(t.length:Int)+N:=by rw[List.length_cons];push_cast;rw[Int.mul_add,Int.mul_one]
   rw[List.sum_cons,h3];omega
theorem q1h (t:Int) (A:Option Addr) (n c:Nat) (l:List Mk) (ai:check t l=0) (ss:List Sg) (B:Option Addr) (cb:Nat) (Ai:Option Addr) (ci:Nat) (hs:List Int) (w:World)
 (hl:Marks w A n l) (aa:Sights w B ss.length ss) (ah:ss.length<=cb) (ad:cb<=maxLen) (h6:ss.length<=6) (ae:∀ s∈ss,seen s 9 6=0) (a4:Ints w Ai n hs) (hz:Ai=none->ci=0) (h5:n<=5) (hb:∀ x∈hs,0<=x∧x<=1000000) :
 Calls Tryz.prog 89 #[.agg #[.int .i64 t,.slice A n c],.slice B ss.length cb,.slice Ai n ci] w fun e w'=>e=.returned (.bool (splB t l ss hs))∧Below w.heap.size w w':=by
 have ag:=a4.len;obtain⟨W,hW⟩:∃ W,W=w.alloc (.cells #[.int .i64 t,.slice A n c] 24):=⟨_,rfl⟩;have a2:Below w.heap.size w W:=by rw[hW];exact bal0 w _
 have bW:W.heap[w.heap.size]?=some (.cells #[.int .i64 t,.slice A n c] 24 (0,0)):=by rw[hW];exact j0c rfl
 have ac:=hl.below a2 (zL9 _);have a1:=aa.below a2 (zL9 _);have a0:=a4.below a2 (zL9 _);have hG:hs.sum=(ss.length:Int)->Calls Tryz.prog 124 #[.agg #[.int .i64 t,.slice A n c],.slice B ss.length cb,.slice Ai n ci] W fun e w'=>∃ v,e=.returned v∧OwnG w' W.heap.size v (givs (mays t l ss) hs)∧Below W.heap.size W w':=fun hq =>
  k9v t A n c l ai ss B cb Ai ci hs W ac a1 ah ad h6 ae a0 hz fun x hx=>by
   have:=k6b (fun z hz=>(hb z hz).1) x hx
   have:=hb x hx;omega
 have a7:∀ k:Nat,0<=(hs.take k).sum∧(hs.take k).sum<=5000000:=fun k=>by
  have:=q2j (l:=hs.take k) (N:=1000000) (by decide) fun x hx=>hb x (List.mem_of_mem_take hx)
  have h2:((hs.take k).length:Int)<=5:=by rw[List.length_take];omega
  omega
 have HX:=zQ9 (zA9 hG (zA9 a7 (zA9 a2 hb)));have HM:=zQ9 a0;obtain⟨r0,r1⟩:=blk2 bW;have aj:=j0a bW;have HS:=zQ9 (show splB t l ss hs=(decide (hs.sum=(ss.length:Int))&&!(givs (mays t l ss) hs).isEmpty) from rfl)
 generalize splB t l ss hs=SB at HS ⊢;clear hG a7 a2 bW ac a1 a0 hl aa a4 hb;go_enter Tryz.func89,Tryz.ntmps89
 go_upto_region 3 with (fail)
 rw[<-hW];clear hW;go_loopg [7,8] n (fun gh v7 v8 wr=>∃ k:Nat,k+gh=n∧v7=.int .i64 (hs.take k).sum∧v8=.int .i64 k∧wr=W)
 case atStart=>exact⟨0,by omega,by simp,rfl,rfl⟩
 case round =>
  obtain⟨k,hk,rfl,rfl,rfl⟩:=hrel;by_cases hlt:k<n
  ·obtain⟨bx,ox,x,rfl,ak,hx,y2⟩:=Ints.get HM.o hlt;have an:=HX.o.2.2.2 x (zB4 hx);have hS:=HX.o.2.1 k;have a6:(hs.take (k+1)).sum=(hs.take k).sum+x:=by rw[List.take_add_one,hx,List.sum_append];simp
   have i1:(k:Int)<(n:Int):=by omega
   have HK:=zQ9 (zA9 hk a6);clear hk a6 hx;generalize (hs.take k).sum=S at HK hS ⊢;go_wp2_with fail
   go_roundg (gk-1)
   case measure=>have:=HK.o.1;omega
   case rel=>exact⟨k+1,by have:=HK.o.1;omega,by rw[HK.o.2],by go_num,rfl⟩
  ·obtain rfl:k=n:=by omega
   rw[show hs.take k=hs by rw[<-ag];first|done|exact List.take_length ..]
   clear hlt hk;by_cases hq:hs.sum=(ss.length:Int)
   ·have C:=HX.o.1 hq;obtain⟨V,hV⟩:∃ V,V=givs (mays t l ss) hs:=⟨_,rfl⟩;rw[<-hV] at C HS;have e1:SB=!V.isEmpty:=by rw[HS.o];simp[hq]
    rw[hq];have HC:=zQ9 C;have HE:=zQ9 e1;clear C hV e1 hq HS;go_wp2_with fail
    (with_reducible refine HC.o.mono ?_)
    rintro e w2 ⟨v2,rfl,a9,a5⟩;obtain⟨A2,c2,rfl,-,af,am⟩:=a9.form;have HB:=zQ9 (HX.o.2.2.1.trans (a5.mono HX.o.2.2.1.size));have a8:(!V.isEmpty)=decide ((0:Int)<(V.length:Int)):=by cases V<;>simp<;>omega
    rw[a8] at HE;generalize V.length=L at HE af ⊢;clear a9 a5 r0 r1 a8;by_cases h0:(0:Int)<(L:Int)
    ·have e2:SB=true:=by rw[HE.o];simpa using h0
     have HF:=zQ9 e2;clear HE e2;go_wp2
     go_ret
     exact⟨by rw[HF.o];show Ending.returned (.bool (decide (0<L)))=_;rw[decide_eq_true (show 0<L by omega)],HB.o⟩
    ·have e2:SB=false:=by rw[HE.o];simpa using h0
     have HF:=zQ9 e2;clear HE e2;go_wp2
     go_ret
     exact⟨by rw[HF.o];show Ending.returned (.bool (decide (0<L)))=_;rw[decide_eq_false (show ¬0<L by omega)],HB.o⟩
   ·have e1:SB=false:=by rw[HS.o];simp[hq]
    have a3:(hs.sum==(ss.length:Int))=false:=by simpa using hq
    have HF:=zQ9 (zA9 e1 HX.o.2.2.1);clear e1 hq;generalize hs.sum=S at a3 ⊢;go_wp2
    go_ret
    exact⟨by rw[HF.o.1];rfl,HF.o.2⟩
end Go.Proofs.YtmennjmjakdkcaaGreat
