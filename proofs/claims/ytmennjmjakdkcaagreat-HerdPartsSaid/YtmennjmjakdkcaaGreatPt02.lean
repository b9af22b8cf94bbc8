/- HerdParts. -/
import Derived.Test.YtmennjmjakdkcaaGreatPt01
import Derived.Maps.Own
import Derived.Maps.OwnOps
import Derived.Maps.RangeWalk
import Derived.DeepKeys4
set_option linter.unusedVariables false
set_option linter.unusedSimpArgs false
set_option maxRecDepth 100000
namespace Go.Proofs.YtmennjmjakdkcaaGreat
open Go.RowKit Go.MapKept Go.ChangeMaps
def hv (h:List Int):Value:=.agg (h.map (Value.int .i64)).toArray
def HOk (h:List Int):Prop:=h.length=15∧∀ x∈h,-9223372036854775808<=x∧x<=9223372036854775807
theorem HBd.ok {B:Int} {h:List Int} (hh:HBd B h) (hB:B<=9223372036854775807):HOk h:=⟨hh.1,fun x hx=>by have:=hh.2 x hx;omega⟩
theorem k9b {h k:List Int} (e:hv h=hv k):h=k:=by
 unfold hv at e;injection e with e
 have e2:=congrArg Array.toList e;simp only at e2;have:∀ (a b:List Int),a.map (Value.int .i64)=b.map (Value.int .i64)->a=b:=by
  intro a
  induction a with
  | nil=>intro b hb;cases b with
    | nil=>rfl
    | cons y b=>simp at hb
  | cons x a ih=>intro b hb;cases b with
    | nil=>simp at hb
    | cons y b=>simp at hb;rw[hb.1,ih b (by simpa using hb.2)]
 exact this h k e2
theorem laidOutH:laidOutB Tryz.prog=true:=by kernel_rfl
theorem hdsRow:(133:TypeId)<Tryz.prog.types.size:=of_decide_eq_true (by kernel_rfl)
theorem hdsWide:(match Tryz.prog.underlying 133 with|some (.array _ _)|some (.struct _)=>true|_=>false)=true:=by rw[Tryz.underlying133]
theorem hdsLaw:WideMaps.KeyLaw Tryz.prog 133:=deep_law_laid laidOutH (m:=3) (by omega) hdsRow (by kernel_rfl) hdsWide
theorem k3o:Maps.Keyed Tryz.prog 133:=Maps.Keyed.of_law hdsLaw
theorem k6k:Tryz.prog.cellsOf 131=5:=by kernel_rfl
theorem k6j:Tryz.prog.cellsOf 133=15:=by kernel_rfl
theorem q4c:Tryz.prog.cellsOf 3=1:=by kernel_rfl
theorem j8c (d:Nat) (x:Int) (hx:-9223372036854775808<=x∧x<=9223372036854775807):Tryz.prog.keyLits (d+1) 3 [.int .i64 x]=some [.int .i64 x]:=by
 unfold Program.keyLits;rw[Tryz.underlying3];simp[WalkArith.wf_i64 hx]
theorem k3p (d:Nat) {a b c e f:Int} (ha:-9223372036854775808<=a∧a<=9223372036854775807) (hb:-9223372036854775808<=b∧b<=9223372036854775807) (hc:-9223372036854775808<=c∧c<=9223372036854775807)
 (he:-9223372036854775808<=e∧e<=9223372036854775807) (hf:-9223372036854775808<=f∧f<=9223372036854775807) :
 Tryz.prog.keyLits (d+2) 131 [.int .i64 a,.int .i64 b,.int .i64 c,.int .i64 e,.int .i64 f]=some [.int .i64 a,.int .i64 b,.int .i64 c,.int .i64 e,.int .i64 f]:=by
 have h0:=j8c d a ha;have h1:=j8c d b hb;have h2:=j8c d c hc;have h3:=j8c d e he;have h4:=j8c d f hf;have hr:List.range 5=[0,1,2,3,4]:=rfl;unfold Program.keyLits;rw[Tryz.underlying131];simp[k6k,q4c,hr,h0,h1,h2,h3,h4]
theorem k5s {α:Type} {l:List α} (h:l.length=15):∃ a b c d e f g i j k m n o p q,l=[a,b,c,d,e,f,g,i,j,k,m,n,o,p,q]:=by
 match l,h with
 | [a,b,c,d,e,f,g,i,j,k,m,n,o,p,q],_=>exact⟨a,b,c,d,e,f,g,i,j,k,m,n,o,p,q,rfl⟩
theorem q0z:Tryz.prog.keyType 133=true:=by kernel_rfl
theorem keyH {h:List Int} (hh:HOk h):∃ l,keyOf Tryz.prog 133 (hv h)=some l:=by
 obtain⟨a,b,c,d,e,f,g,i,j,k,m,n,o,p,q,rfl⟩:=k5s hh.1;have hw:=hh.2;simp only[List.mem_cons,List.not_mem_nil,or_false,forall_eq_or_imp,forall_eq] at hw;obtain⟨h0,h1,h2,h3,h4,h5,h6,h7,h8,h9,a3,a1,a4,a5,a2⟩:=hw;obtain⟨d',hd⟩:∃ d',Tryz.prog.types.size+1=d'+3:=⟨Tryz.prog.types.size-2,by have:2<=Tryz.prog.types.size:=of_decide_eq_true (by kernel_rfl);omega⟩
 have r0:=k3p d' h0 h1 h2 h3 h4;have r1:=k3p d' h5 h6 h7 h8 h9;have r2:=k3p d' a3 a1 a4 a5 a2;have hr:List.range 3=[0,1,2]:=rfl;have hu:=Tryz.underlying133;have a0:(hv [a,b,c,d,e,f,g,i,j,k,m,n,o,p,q]).formed Tryz.prog 133=true:=by simp[Value.formed,hu,k6j,hv]
 have hk:Tryz.prog.keyLits (d'+3) 133 (hv [a,b,c,d,e,f,g,i,j,k,m,n,o,p,q]).cells.toList=some ([[Lit.int .i64 a,.int .i64 b,.int .i64 c,.int .i64 d,.int .i64 e],[.int .i64 f,.int .i64 g,.int .i64 i,.int .i64 j,.int .i64 k],[.int .i64 m,.int .i64 n,.int .i64 o,.int .i64 p,.int .i64 q]].flatten):=by
  unfold Program.keyLits;rw[hu];simp[k6j,k6k,hr,hv,Value.cells,r0,r1,r2]
 exact⟨_,by unfold keyOf;rw[hu,q0z,a0,hd,hk];rfl⟩
def MetH (w:World) (M:Nat) (K:List (List Int)):Prop :=
 ∃ es clock,w.heap[M]?=some (.map es clock)∧MapKept.Stamped es clock∧es.toList.map (fun e=>(e.key,e.val))=K.map (fun h=>(hv h,Value.bool true))∧∀ h∈K,HOk h
theorem MetH.lt {w:World} {M:Nat} {K:List (List Int)} (h:MetH w M K):M<w.heap.size:=by obtain⟨es,c,h1,_⟩:=h;exact j0a h1
theorem MetH.keep {w w':World} {M:Nat} {K:List (List Int)} (h:MetH w M K) (e:w'.heap[M]?=w.heap[M]?):MetH w' M K:=by
 obtain⟨es,c,h1,h2⟩:=h;exact⟨es,c,by rw[e];exact h1,h2⟩
theorem k4v {w:World} {M clock:Nat} (h:w.heap[M]?=some (.map #[] clock)):MetH w M []:=⟨_,_,h,MapKept.stamped_empty _,rfl,fun h hh=>by cases hh⟩
theorem k2f {es:List MapEntry} {K:List (List Int)} (h:es.map (fun e=>(e.key,e.val))=K.map (fun h=>(hv h,Value.bool true))):es.map (·.key)=K.map hv:=by
 have:=congrArg (List.map Prod.fst) h;rw[List.map_map,List.map_map] at this;exact this
theorem MetH.nodup {w:World} {M:Nat} {K:List (List Int)} (h:MetH w M K):K.Nodup:=by
 obtain⟨es,c,h1,h2,h3,h4⟩:=h;have hn:=h2.2.2;rw[k2f h3] at hn;exact List.Pairwise.of_map hv (fun a b hab e=>hab (by rw[e])) hn
theorem j8s {es:List MapEntry} {K:List (List Int)} (h:es.map (fun e=>(e.key,e.val))=K.map (fun h=>(hv h,Value.bool true))) {e:MapEntry} (he:e∈es):∃ k∈K,e.key=hv k∧e.val=.bool true:=by
 have hm:(e.key,e.val)∈es.map (fun e=>(e.key,e.val)):=List.mem_map.2 ⟨e,he,rfl⟩
 rw[h] at hm;obtain⟨k,hk,e2⟩:=List.mem_map.1 hm;injection e2 with e3 e4
 exact⟨k,hk,e3.symm,e4.symm⟩
theorem q0b (x:List Int) (hx:HOk x) (w:World) (M:Nat) (K:List (List Int)) (h:MetH w M K) :
 ∃ ob,(Instr.mapUpdate 166 (.map (some M)) (hv x) (.bool true)).run Tryz.prog w=.ok () { w with heap:=w.heap.setIfInBounds M ob }∧M<w.heap.size
  ∧ ∃ K',(∀ w':World,w'.heap[M]?=some ob->MetH w' M K')∧∀ k,k∈K'↔k∈K∨k=x:=by
 obtain⟨es,clock,hh,a6,a1,a3⟩:=h;obtain⟨l,hl⟩:=keyH hx;have hu:=run_underlying (P:=Tryz.prog) (w:=w) Tryz.underlying166;have hg:(getObj M).run Tryz.prog w=.ok (.map es clock) w:=by simp[getObj,Sem.run,hh]
 have hs:∀ o,(setObj M o).run Tryz.prog w=.ok () { w with heap:=w.heap.setIfInBounds M o }:=fun o=>by simp[setObj,Sem.run,hh]
 have a4:M<w.heap.size:=j0a hh;have a7:=fun em=>k3o.check w em hl
 have a9:=k3o.stays w hl;rcases k3o.find w hl es.toList (fun e he=>by obtain⟨k,hk,e1,_⟩:=j8s a1 he;rw[e1];exact keyH (a3 k hk)) with ⟨hr,hno⟩|⟨j,e,hr,hj,hke⟩
 ·refine⟨.map (es.push { key:=hv x,val:=.bool true,born:=clock }) (clock+1),?_,a4,K++[x],?_,fun k=>by simp⟩
  ·simp[Instr.mapUpdate,hu,hg,a7,hr,hs]
  ·intro w' a2;exact⟨_,_,a2,MapKept.stamped_push a6 hno,by simp[a1],fun k hk=>by
    rcases List.mem_append.1 hk with hk|hk
    ·exact a3 k hk
    ·simp at hk;rw[hk];exact hx⟩
 ·have a5:es[j]?=some e:=by simpa using hj
  obtain⟨k,hk,e1,e2⟩:=j8s a1 (zB4 hj);have a8:x=k:=k9b (hke.symm.trans e1);subst a8;refine⟨.map (es.modify j fun e=>{ e with key:=hv x,val:=.bool true }) clock,?_,a4,K,?_,fun k=>⟨.inl,fun h=>h.elim id (fun h=>h ▸ hk)⟩⟩
  ·simp[Instr.mapUpdate,hu,hg,a7,hr,a5,hke,a9,hs]
  ·intro w' a2;have a0:es.modify j (fun e=>{ e with key:=hv x,val:=.bool true })=es:=by
    apply Array.ext_getElem?;intro i;rw[Array.getElem?_modify]
    split
    ·rename_i hij;subst hij;rw[a5];simp only[Option.map_some];rw[<-hke,<-e2]
    ·rfl
   rw[a0] at a2;exact⟨es,clock,a2,a6,a1,a3⟩
theorem wp_putH {w:World} {ops:Array Oper} {rest:List Oper} {o:Oper} {a:Act} {Q:Exit->Act->World->Prop}
 (hg:o.guard=none) (m x v:Operand) (a3:o.op=Op.mapUpdate 166 m x v) (M:Nat) (K:List (List Int)) (k:List Int) (hk:HOk k)
 (hm:a.eval m=.map (some M)) (hx:a.eval x=hv k) (a1:a.eval v=.bool true) (h:MetH w M K)
 (hK:∀ ob K',M<w.heap.size->(∀ w':World,w'.heap[M]?=some ob->MetH w' M K')->(∀ q,q∈K'↔q∈K∨q=k)->wpList Tryz.prog ops Q rest (a.put o.dst undef) { w with heap:=w.heap.setIfInBounds M ob }) :
 wpList Tryz.prog ops Q (o::rest) a w:=by
 refine wpList_plain hg fun K' hK'=>?_
 obtain⟨ob,a0,a2,K2,h1,h2⟩:=q0b k hk w M K h;unfold Oper.wp;simp[execOp,a3,hm,hx,a1,a0,Result.andThen];exact hK' _ _ (hK ob K2 a2 h1 h2)
def j2v (w:World) (M r:Nat) (K L:List (List Int)):Prop :=
 ∃ es clock since seen c0,w.heap[M]?=some (.map es clock)∧MapKept.Stamped es clock∧es.toList.map (fun e=>(e.key,e.val))=K.map (fun h=>(hv h,Value.bool true))∧(∀ h∈K,HOk h) ∧
  w.heap[r]?=some (.mapIter (some M) since seen c0)∧(∀ x∈es.toList,x.born<since)∧since<=c0∧since<=clock∧(leftOf es seen).toList.map (·.key)=L.map hv
theorem j2v.met {w:World} {M r:Nat} {K L:List (List Int)} (h:j2v w M r K L):MetH w M K:=by
 obtain⟨es,clock,a0,seen,c0,h1,h2,h3,h4,_⟩:=h;exact⟨es,clock,h1,h2,h3,h4⟩
theorem j2v.lt {w:World} {M r:Nat} {K L:List (List Int)} (h:j2v w M r K L):r<w.heap.size:=by
 obtain⟨es,clock,a0,seen,c0,h1,h2,h3,h4,h5,_⟩:=h;exact j0a h5
theorem j2v.ne {w:World} {M r:Nat} {K L:List (List Int)} (h:j2v w M r K L):r≠M:=by
 obtain⟨es,clock,a0,seen,c0,h1,h2,h3,h4,h5,_⟩:=h;intro e;rw[e,h1] at h5;cases h5
theorem j2v.keep {w w':World} {M r:Nat} {K L:List (List Int)} (h:j2v w M r K L) (e:w'.heap[M]?=w.heap[M]?) (e':w'.heap[r]?=w.heap[r]?):j2v w' M r K L:=by
 obtain⟨es,clock,a0,seen,c0,h1,h2,h3,h4,h5,h6⟩:=h;exact⟨es,clock,a0,seen,c0,by rw[e];exact h1,h2,h3,h4,by rw[e'];exact h5,h6⟩
theorem q3l {w:World} {M:Nat} {K:List (List Int)} (h:MetH w M K) :
 ∃ w',(Instr.range 166 (.map (some M))).run Tryz.prog w=.ok (.pointer (some ⟨w.heap.size,0,none⟩)) w'∧j2v w' M w.heap.size K K∧w.grownBy w' none∧w'.heap.size=w.heap.size+1:=by
 obtain⟨es,clock,h1,h2,h3,h4⟩:=h;have a1:=j0a h1;have a0:=run_range_map w 166 133 4 M es clock Tryz.underlying166 h1;refine⟨_,a0,⟨es,clock,clock,#[],clock,((MapKept.heap_alloc w _).2 M a1).trans h1,h2,h3,h4,(MapKept.heap_alloc w _).1,h2.1,zL9 _,zL9 _,?_⟩,World.grownBy_alloc w _ none,by simp⟩
 have:leftOf es #[]=es:=by simp[leftOf]
 rw[this];exact k2f h3
theorem q3b {l:List MapEntry} {L:List (List Int)} (h:l.map (·.key)=L.map hv) {e:MapEntry} (he:e∈l) (hn:(l.map (·.born)).Nodup) :
 ∃ x L',L.Perm (x::L')∧e.key=hv x∧(l.filter fun y=>!(y.born==e.born)).map (·.key)=L'.map hv:=by
 induction l generalizing L with
 | nil=>cases he
 | cons y l ih =>
   cases L with
   | nil=>simp at h
   | cons z L =>
     simp only[List.map_cons,List.cons.injEq] at h;obtain⟨h1,h2⟩:=h;simp only[List.map_cons,List.nodup_cons] at hn;rcases List.mem_cons.1 he with rfl|a0
     ·refine⟨z,L,List.Perm.refl _,h1,?_⟩;have hf:(l.filter fun y=>!(y.born==e.born))=l:=by
       rw[List.filter_eq_self];intro a ha;have:a.born≠e.born:=fun e'=>hn.1 (e' ▸ List.mem_map.2 ⟨a,ha,rfl⟩)
       simp[this]
      rw[List.filter_cons];simp only[beq_self_eq_true,Bool.not_true,Bool.false_eq_true,if_false];rw[hf];exact h2
     ·obtain⟨x,L',hp,hx,hL⟩:=ih h2 a0 hn.2;refine⟨x,z::L',(hp.cons z).trans (List.Perm.swap x z L'),hx,?_⟩;have a1:y.born≠e.born:=fun e'=>hn.1 (e' ▸ List.mem_map.2 ⟨e,a0,rfl⟩)
      rw[List.filter_cons];simp only[show(y.born==e.born)=false from beq_eq_false_iff_ne.2 a1,Bool.not_false,if_true,List.map_cons,h1,hL]
theorem q5i (es:Array MapEntry) (seen:Array Nat) (b:Nat):(leftOf es (seen.push b)).toList=(leftOf es seen).toList.filter fun y=>!(y.born==b):=by
 unfold leftOf;simp only[Array.toList_filter,List.filter_filter];congr 1
 funext y
 simp only[Array.contains_eq_mem,Array.mem_push];by_cases h1:y.born∈seen<;>by_cases h2:y.born=b<;>simp[h1,h2]
theorem k7n {w:World} {M r:Nat} {K L:List (List Int)} (h:j2v w M r K L) (ty:TypeId) :
 (L=[]∧(Instr.next (.pointer (some ⟨r,0,none⟩)) false ty).run Tryz.prog w=.ok (.tuple #[.bool false]) w) ∨
 ∃ x L' w',L.Perm (x::L')∧HOk x∧(Instr.next (.pointer (some ⟨r,0,none⟩)) false ty).run Tryz.prog w=.ok (.tuple #[.bool true,hv x,.bool true]) w'∧j2v w' M r K L'∧w.grownBy w' (some r)∧w'.heap.size=w.heap.size ∧
  (Instr.entry (.pointer (some ⟨r,0,none⟩))).run Tryz.prog w'=.ok (.tuple #[hv x,.bool true]) w':=by
 have a9:=h.ne;obtain⟨es,clock,a0,seen,c0,h1,h2,h3,h4,h5,h6,h7,h8,h9⟩:=h;rcases run_next_at (P:=Tryz.prog) w ty r M a0 c0 seen es clock h5 h1 h6 h7 with ⟨h0,a1⟩|⟨e,he,w1,a4,a1⟩
 ·left
  refine⟨?_,a1⟩;have:(leftOf es seen)=#[]:=Array.eq_empty_of_size_eq_zero h0;rw[this] at h9;cases L with
  | nil=>rfl
  | cons a b=>simp at h9
 ·right
  have hb:(es.toList.map (·.born)).Nodup:=h2.2.1
  have a3:(leftOf es seen).toList.Sublist es.toList:=by unfold leftOf;rw[Array.toList_filter];exact List.filter_sublist
  have a8:((leftOf es seen).toList.map (·.born)).Nodup:=(a3.map _).nodup hb
  obtain⟨x,L',hp,hx,hL⟩:=q3b h9 he a8;obtain⟨k,hk,e1,e2⟩:=j8s h3 (a3.subset he);have a6:x=k:=k9b (hx.symm.trans e1);subst a6;have a7:w1.heap[r]?=some (.mapIter (some M) a0 seen c0):=by rcases a4 with rfl|rfl<;>exact h5
  have aa:w1.heap[M]?=some (.map es clock):=by rcases a4 with rfl|rfl<;>exact h1
  have a2:=heap_set (o':=.mapIter (some M) a0 (seen.push e.born) clock) a7;have hM:(setBlock w1 r (.mapIter (some M) a0 (seen.push e.born) clock)).heap[M]?=some (.map es clock):=(a2.2 M (fun e1=>a9 e1.symm)).trans aa
  have a5:=run_entry_at (P:=Tryz.prog) _ r M a0 seen es clock e a2.1 hM (a3.subset he) hb;rw[hx,e2] at a1 a5;refine⟨x,L',_,hp,h4 x hk,a1,⟨es,clock,a0,seen.push e.born,clock,hM,h2,h3,h4,a2.1,h6,h8,h8,by rw[q5i];exact hL⟩,?_,?_,a5⟩
  ·rcases a4 with rfl|rfl<;>exact⟨rfl,rfl,rfl,by simp[setBlock],fun i _ hi=>a2.2 i (fun e1=>hi (by rw[e1]))⟩
  ·rcases a4 with rfl|rfl<;>simp[setBlock]
theorem k7v {w:World} {ops:Array Oper} {rest:List Oper} {o:Oper} {a:Act} {Q:Exit->Act->World->Prop}
 (hg:o.guard=none) (m:Operand) (a1:o.op=Op.range 166 m) (M:Nat) (K:List (List Int)) (hm:a.eval m=.map (some M)) (h:MetH w M K)
 (hK:∀ w',j2v w' M w.heap.size K K->w.grownBy w' none->w'.heap.size=w.heap.size+1->wpList Tryz.prog ops Q rest (a.put o.dst (.pointer (some ⟨w.heap.size,0,none⟩))) w'):wpList Tryz.prog ops Q (o::rest) a w:=by
 refine wpList_plain hg fun K' hK'=>?_
 obtain⟨w',a0,r1,r2,r3⟩:=q3l h;unfold Oper.wp;simp[execOp,a1,hm,a0,Result.andThen];exact hK' _ _ (hK w' r1 r2 r3)
end Go.Proofs.YtmennjmjakdkcaaGreat
