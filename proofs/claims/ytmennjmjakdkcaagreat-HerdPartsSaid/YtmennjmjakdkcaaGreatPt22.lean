/- HerdParts. -/
import Derived.Test.YtmennjmjakdkcaaGreatPt01
import Derived.Maps.Own
import Derived.Defers
set_option linter.unusedVariables false
set_option linter.unusedSimpArgs false
set_option maxRecDepth 100000
set_option maxHeartbeats 2000000
namespace Go.Proofs.YtmennjmjakdkcaaGreat
open Go.RowKit
structure Cn where
 a:Int
 b:Int
 c:Int
 d:Int
 e:Int
 s:Int
 deriving DecidableEq
def kv (k:Cn):Value:=.agg #[.int .i64 k.a,.int .i64 k.b,.int .i64 k.c,.int .i64 k.d,.int .i64 k.e,.int .i64 k.s]
def Cn.cs (k:Cn):Array Value:=#[.int .i64 k.a,.int .i64 k.b,.int .i64 k.c,.int .i64 k.d,.int .i64 k.e,.int .i64 k.s]
theorem info_int:(Tryz.prog.info? 3).map (fun i=>i.size)=some 1:=by kernel_rfl
theorem j8k (w:World):(sizeOf 3).run Tryz.prog w=.ok 1 w:=by
 have h:=info_int;cases hi:Tryz.prog.info? 3 with
 | none=>rw[hi] at h;cases h
 | some i=>rw[hi] at h;simp at h;simp[sizeOf,typeInfo,hi,h]
theorem j8j (cs:Array Value) (off:Nat) (v:Value) (h:cs[off]?=some v) (w:World):(part 3 cs off).run Tryz.prog w=.ok v w:=by
 have hi:=run_underlying (P:=Tryz.prog) (w:=w) Tryz.underlying3;simp[part,isAgg,hi,h]
theorem j4i (d:Nat) (a b:Int) (w:World):(Op.equalIn (d+1) 3 (.int .i64 a) (.int .i64 b)).run Tryz.prog w=.ok (a==b) w:=by
 have hi:=run_underlying (P:=Tryz.prog) (w:=w) Tryz.underlying3;simp[Op.equalIn,hi]
theorem q0a (d:Nat) (x y:Cn) (w:World):(Op.equalIn (d+2) 186 (kv x) (kv y)).run Tryz.prog w=.ok (decide (x=y)) w:=by
 have h:=run_underlying (P:=Tryz.prog) (w:=w) Tryz.underlying186;unfold Op.equalIn kv;simp only[Sem.run_bind,h,Result.andThen_ok,j8k];have hp:∀ i (v:Value),x.cs[i]?=some v->∀ w,(part 3 #[.int .i64 x.a,.int .i64 x.b,.int .i64 x.c,.int .i64 x.d,.int .i64 x.e,.int .i64 x.s] i).run Tryz.prog w=.ok v w:=fun i v h w=>j8j _ _ _ h w
 have hq:∀ i (v:Value),y.cs[i]?=some v->∀ w,(part 3 #[.int .i64 y.a,.int .i64 y.b,.int .i64 y.c,.int .i64 y.d,.int .i64 y.e,.int .i64 y.s] i).run Tryz.prog w=.ok v w:=fun i v h w=>j8j _ _ _ h w
 have p0:=hp 0 (.int .i64 x.a) rfl;have p1:=hp 1 (.int .i64 x.b) rfl;have p2:=hp 2 (.int .i64 x.c) rfl;have p3:=hp 3 (.int .i64 x.d) rfl;have p4:=hp 4 (.int .i64 x.e) rfl;have p5:=hp 5 (.int .i64 x.s) rfl;have q0:=hq 0 (.int .i64 y.a) rfl;have q1:=hq 1 (.int .i64 y.b) rfl;have q2:=hq 2 (.int .i64 y.c) rfl;have q3:=hq 3 (.int .i64 y.d) rfl;have q4:=hq 4 (.int .i64 y.e) rfl;have q5:=hq 5 (.int .i64 y.s) rfl;clear hp hq;have hr:List.range' 0 6=[0,1,2,3,4,5]:=rfl;have hd:decide (x=y)=(x.a==y.a&&(x.b==y.b&&(x.c==y.c&&(x.d==y.d&&(x.e==y.e&&x.s==y.s))))):=by
  obtain⟨a0,a1,a2,a3,a4,a5⟩:=x;obtain⟨b0,b1,b2,b3,b4,b5⟩:=y;rw[Bool.eq_iff_iff];simp only[decide_eq_true_eq,Cn.mk.injEq,Bool.and_eq_true,beq_iff_eq]
 rw[hd];cases e0:(x.a==y.a)
 ·simp[hr,p0,q0,j4i,e0]
 ·cases e1:(x.b==y.b)
  ·simp[hr,p0,q0,p1,q1,j4i,e0,e1]
  ·cases e2:(x.c==y.c)
   ·simp[hr,p0,q0,p1,q1,p2,q2,j4i,e0,e1,e2]
   ·cases e3:(x.d==y.d)
    ·simp[hr,p0,q0,p1,q1,p2,q2,p3,q3,j4i,e0,e1,e2,e3]
    ·cases e4:(x.e==y.e)
     ·simp[hr,p0,q0,p1,q1,p2,q2,p3,q3,p4,q4,j4i,e0,e1,e2,e3,e4]
     ·cases e5:(x.s==y.s)
      ·simp[hr,p0,q0,p1,q1,p2,q2,p3,q3,p4,q4,p5,q5,j4i,e0,e1,e2,e3,e4,e5]
      ·simp[hr,p0,q0,p1,q1,p2,q2,p3,q3,p4,q4,p5,q5,j4i,e0,e1,e2,e3,e4,e5]
theorem k5d (x y:Cn) (w:World):(Op.equal 186 (kv x) (kv y)).run Tryz.prog w=.ok (decide (x=y)) w:=q0a 9998 x y w
theorem k9z (b:Bool) (d:Nat) (a:Int) (w:World):(Instr.checkKey b (d+1) 3 (.int .i64 a)).run Tryz.prog w=.ok () w:=by
 have hi:=run_underlying (P:=Tryz.prog) (w:=w) Tryz.underlying3;simp[Instr.checkKey,hi]
theorem k9y (b:Bool) (d:Nat) (x:Cn) (w:World):(Instr.checkKey b (d+2) 186 (kv x)).run Tryz.prog w=.ok () w:=by
 have h:=run_underlying (P:=Tryz.prog) (w:=w) Tryz.underlying186;unfold Instr.checkKey kv;simp only[Sem.run_bind,h,Result.andThen_ok,j8k];have hp:∀ i (v:Value),x.cs[i]?=some v->∀ w,(part 3 #[.int .i64 x.a,.int .i64 x.b,.int .i64 x.c,.int .i64 x.d,.int .i64 x.e,.int .i64 x.s] i).run Tryz.prog w=.ok v w:=fun i v h w=>j8j _ _ _ h w
 have p0:=hp 0 (.int .i64 x.a) rfl;have p1:=hp 1 (.int .i64 x.b) rfl;have p2:=hp 2 (.int .i64 x.c) rfl;have p3:=hp 3 (.int .i64 x.d) rfl;have p4:=hp 4 (.int .i64 x.e) rfl;have p5:=hp 5 (.int .i64 x.s) rfl;have hr:List.range' 0 6=[0,1,2,3,4,5]:=rfl;have hs:=j8k;simp[hr,hs,p0,p1,p2,p3,p4,p5,k9z]
theorem j7m (b:Bool) (x:Cn) (w:World):(Instr.checkKey b 10000 186 (kv x)).run Tryz.prog w=.ok () w:=k9y b 9998 x w
def j5o (w:World) (M:Nat) (K:List Cn):Prop :=
 ∃ es clock,w.heap[M]?=some (.map es clock)∧es.toList.map (fun e=>(e.key,e.val))=K.map (fun k=>(kv k,Value.bool true))
theorem j6l (x:Cn) (w:World):∀ (es:List MapEntry) (K:List Cn) (i:Nat),es.map (fun e=>(e.key,e.val))=K.map (fun k=>(kv k,Value.bool true)) ->
 ∃ r,(Instr.findAsking 186 (kv x) es i).run Tryz.prog w=.ok r w∧((x∈K∧∃ j e,es[j]?=some e∧e.key=kv x∧r=some (i+j,.bool true))∨(x∉K∧r=none))
 | [],K,i,h=>by
   have hK:K=[]:=by cases K with
    | nil=>rfl
    | cons a b=>simp at h
   subst hK;exact⟨none,by simp[Instr.findAsking],.inr ⟨by simp,rfl⟩⟩
 | e::es,K,i,h=>by
   cases K with
   | nil=>simp at h
   | cons k K =>
     simp only[List.map_cons,List.cons.injEq,Prod.mk.injEq] at h;obtain⟨⟨hk,hv⟩,hr⟩:=h;by_cases hx:x=k
     ·subst hx;refine⟨some (i,.bool true),by simp[Instr.findAsking,hk,k5d,hv],.inl ⟨by simp,0,e,rfl,hk,rfl⟩⟩
     ·obtain⟨r,a1,a0⟩:=j6l x w es K (i+1) hr;refine⟨r,by simp[Instr.findAsking,hk,k5d,hx,a1],?_⟩
      rcases a0 with ⟨hin,j,e',a4,a5,a3⟩|⟨a2,a3⟩
      ·exact .inl ⟨by simp[hin],j+1,e',by simpa using a4,a5,by rw[a3,Nat.add_assoc,Nat.add_comm 1 j]⟩
      ·exact .inr ⟨by simp[hx,a2],a3⟩
theorem k3b (x:Cn) (w:World) (es:List MapEntry) (K:List Cn) (h:es.map (fun e=>(e.key,e.val))=K.map (fun k=>(kv k,Value.bool true))) :
 ∃ r,(Instr.findKey 186 (kv x) es).run Tryz.prog w=.ok r w∧((x∈K∧∃ j e,es[j]?=some e∧e.key=kv x∧r=some (j,.bool true))∨(x∉K∧r=none)):=by
 have hu:=run_underlying (P:=Tryz.prog) (w:=w) Tryz.underlying186;cases es with
 | nil =>
   obtain⟨r,h1,h2⟩:=j6l x w [] K 0 h;refine⟨r,?_,by simpa using h2⟩
   simp[Instr.findKey,hu,Instr.findNow];simpa[Instr.findAsking] using h1
 | cons e es =>
   obtain⟨r,h1,h2⟩:=j6l x w (e::es) K 0 h;refine⟨r,?_,by simpa using h2⟩
   have hk:e.key=kv (K.headD ⟨0,0,0,0,0,0⟩):=by
    cases K with
    | nil=>simp at h
    | cons k K=>simp only[List.map_cons,List.cons.injEq,Prod.mk.injEq] at h;exact h.1.1
   simp[Instr.findKey,hu,Instr.findNow,Instr.sameNow,h1]
theorem q5z (x:Cn) (w:World) (M:Nat) (K:List Cn) (h:j5o w M K):(Instr.lookup 187 (.map (some M)) (kv x) false).run Tryz.prog w=.ok (.bool (decide (x∈K))) w:=by
 obtain⟨es,clock,hh,a1⟩:=h;obtain⟨r,hr,hc⟩:=k3b x w es.toList K a1;have hu:=run_underlying (P:=Tryz.prog) (w:=w) Tryz.underlying187;have hz:(zeroValue 4).run Tryz.prog w=.ok (.bool false) w:=by kernel_rfl
 have hg:(getObj M).run Tryz.prog w=.ok (.map es clock) w:=by simp[getObj,Sem.run,hh]
 rcases hc with ⟨hin,j,e,he,a2,rfl⟩|⟨a0,rfl⟩
 ·simp[Instr.lookup,hu,hg,j7m,hr,hin]
 ·simp[Instr.lookup,hu,hg,j7m,hr,a0,hz]
theorem q1f (x:Cn):Instr.sameBits 10000 (kv x) (kv x)=true:=by
 simp[kv,Instr.sameBits]
theorem run_put6 (x:Cn) (w:World) (M:Nat) (K:List Cn) (h:j5o w M K) :
 ∃ ob,(Instr.mapUpdate 187 (.map (some M)) (kv x) (.bool true)).run Tryz.prog w=.ok () { w with heap:=w.heap.setIfInBounds M ob }∧M<w.heap.size
  ∧ ∃ K',(∀ w':World,w'.heap[M]?=some ob->j5o w' M K')∧∀ k,k∈K'↔k∈K∨k=x:=by
 obtain⟨es,clock,hh,a0⟩:=h;obtain⟨r,hr,hc⟩:=k3b x w es.toList K a0;have hu:=run_underlying (P:=Tryz.prog) (w:=w) Tryz.underlying187;have hg:(getObj M).run Tryz.prog w=.ok (.map es clock) w:=by simp[getObj,Sem.run,hh]
 have hs:∀ o,(setObj M o).run Tryz.prog w=.ok () { w with heap:=w.heap.setIfInBounds M o }:=fun o=>by simp[setObj,Sem.run,hh]
 have a2:M<w.heap.size:=(Array.getElem?_eq_some_iff.1 hh).1;rcases hc with ⟨hin,j,e,he,a3,rfl⟩|⟨a4,rfl⟩
 ·have hj:es[j]?=some e:=by simpa using he
  refine⟨.map (es.modify j fun e=>{ e with key:=kv x,val:=.bool true }) clock,?_,a2,K,?_,fun k=>⟨.inl,fun h=>h.elim id (fun h=>h ▸ hin)⟩⟩
  ·simp[Instr.mapUpdate,hu,hg,j7m,hr,hj,a3,Instr.keyThatStays,q1f,hs]
  ·intro w' a1;refine⟨_,_,a1,?_⟩;rw[<-a0];apply List.ext_getElem?;intro i;simp only[List.getElem?_map,Array.getElem?_toList,Array.getElem?_modify];by_cases hij:j=i
   ·subst hij;have hv:e.val=.bool true:=by
     have h2:=congrArg (fun l=>l[j]?) a0
     simp only[List.getElem?_map,Array.getElem?_toList,hj,Option.map_some] at h2;cases hk:K[j]? with
     | none=>simp[hk] at h2
     | some k=>simp only[hk,Option.map_some,Option.some.injEq,Prod.mk.injEq] at h2;exact h2.2
    simp[hj,a3,hv]
   ·simp[hij]
 ·refine⟨.map (es.push { key:=kv x,val:=.bool true,born:=clock }) (clock+1),?_,a2,K++[x],?_,fun k=>by simp⟩
  ·simp[Instr.mapUpdate,hu,hg,j7m,hr,hs]
  ·intro w' a1;refine⟨_,_,a1,?_⟩;simp[a0]
theorem q2l {w:World} {ops:Array Oper} {rest:List Oper} {o:Oper} {a:Act} {Q:Exit->Act->World->Prop}
 (hg:o.guard=none) (m x v:Operand) (a2:o.op=Op.mapUpdate 187 m x v) (M:Nat) (K:List Cn) (k:Cn)
 (hm:a.eval m=.map (some M)) (hx:a.eval x=kv k) (hv:a.eval v=.bool true) (h:j5o w M K)
 (hK:∀ ob K',M<w.heap.size->(∀ w':World,w'.heap[M]?=some ob->j5o w' M K')->(∀ q,q∈K'↔q∈K∨q=k)->wpList Tryz.prog ops Q rest (a.put o.dst undef) { w with heap:=w.heap.setIfInBounds M ob }) :
 wpList Tryz.prog ops Q (o::rest) a w:=by
 refine wpList_plain hg fun K' hK'=>?_
 obtain⟨ob,a0,a1,K2,h1,h2⟩:=run_put6 k w M K h;unfold Oper.wp;simp[execOp,a2,hm,hx,hv,a0,Result.andThen];exact hK' _ _ (hK ob K2 a1 h1 h2)
theorem q5n {w:World} {M clock:Nat} (h:w.heap[M]?=some (.map #[] clock)):j5o w M []:=⟨_,_,h,rfl⟩
theorem j5o.keep {w w':World} {M:Nat} {K:List Cn} (h:j5o w M K) (e:w'.heap[M]?=w.heap[M]?):j5o w' M K:=by
 obtain⟨es,c,h1,h2⟩:=h;exact⟨es,c,by rw[e];exact h1,h2⟩
def Cn.at (c:Cn):Nat->Int
 | 0=>c.a
 | 1=>c.b
 | 2=>c.c
 | 3=>c.d
 | 4=>c.e
 | _=>c.s
def Cn.add (c:Cn) (k:Int):Nat->Cn
 | 0=>{ c with a:=c.a+k }
 | 1=>{ c with b:=c.b+k }
 | 2=>{ c with c:=c.c+k }
 | 3=>{ c with d:=c.d+k }
 | 4=>{ c with e:=c.e+k }
 | _=>{ c with s:=c.s+k }
def Cn.up (c:Cn) (i:Nat):Cn:=(c.add 1 i).add 1 5
def Cn.skip (c:Cn):Cn:=c.add 1 5
theorem Cn.at_cs (c:Cn) {i:Nat} (h:i<6):c.cs[i]?=some (.int .i64 (c.at i)):=by
 match i,h with
 | 0,_=>rfl
 | 1,_=>rfl
 | 2,_=>rfl
 | 3,_=>rfl
 | 4,_=>rfl
 | 5,_=>rfl
def Now (w:World) (B:Nat) (c:Cn):Prop:=w.heap[B]?=some (.cells c.cs 186 (0,0))
theorem Now.cell {w:World} {B:Nat} {c:Cn} (h:Now w B c) {i:Nat} (hi:i<6):w.cell? ⟨B,i,none⟩=some (.int .i64 (c.at i)):=by
 unfold Now at h;simp[World.cell?,h,c.at_cs hi]
theorem Now.free {w:World} {B:Nat} {c:Cn} (h:Now w B c) (i:Nat):w.frozen? ⟨B,i,none⟩=false:=by
 unfold Now at h;simp[World.frozen?,h]
theorem Now.set {w:World} {B:Nat} {c:Cn} (h:Now w B c) {i:Nat} (hi:i<6) (k x:Int) (hx:x=c.at i+k):Now (w.setCell ⟨B,i,none⟩ (.int .i64 x)) B (c.add k i):=by
 unfold Now at *
 subst hx
 match i,hi with
 | 0,_=>simp[World.setCell,Array.getElem?_modify,h,Cn.cs,Cn.add,Cn.at]
 | 1,_=>simp[World.setCell,Array.getElem?_modify,h,Cn.cs,Cn.add,Cn.at]
 | 2,_=>simp[World.setCell,Array.getElem?_modify,h,Cn.cs,Cn.add,Cn.at]
 | 3,_=>simp[World.setCell,Array.getElem?_modify,h,Cn.cs,Cn.add,Cn.at]
 | 4,_=>simp[World.setCell,Array.getElem?_modify,h,Cn.cs,Cn.add,Cn.at]
 | 5,_=>simp[World.setCell,Array.getElem?_modify,h,Cn.cs,Cn.add,Cn.at]
theorem Now.keep {w w':World} {B:Nat} {c:Cn} (h:Now w B c) (e:w'.heap[B]?=w.heap[B]?):Now w' B c:=by unfold Now at *;rw[e];exact h
theorem undo_any (w:World) (u:FrameMode) (Bd Bn Bw Bo Bs:Nat) (done:Bool) (c:Cn) (o st:Nat) (A:Addr) (n cap:Nat)
 (hd:w.cell? ⟨Bd,0,none⟩=some (.bool done)) (hn:Now w Bn c) (hw:w.cell? ⟨Bw,0,none⟩=some (.int .i64 o)) (hb:w.cell? ⟨Bo,0,none⟩=some (.slice (some A) n cap)) (hs:w.cell? ⟨Bs,0,none⟩=some (.int .i64 st))
 (fo:w.frozen? ⟨Bo,0,none⟩=false) (ho:o<5) (a0:st<cap) (a1:cap<=maxLen) (n1:Bw≠Bn) (n2:Bo≠Bn) (n3:Bs≠Bn)
 (b1:-9223372036854775807<=c.at o) (b2:c.at o<=9223372036854775807) (b3:-9223372036854775807<=c.at 5) (b4:c.at 5<=9223372036854775807) :
 CallsD Tryz.prog 140 #[.pointer (some ⟨Bd,0,none⟩),.pointer (some ⟨Bn,0,none⟩),.pointer (some ⟨Bw,0,none⟩),.pointer (some ⟨Bo,0,none⟩),.pointer (some ⟨Bs,0,none⟩)] u w fun e u' w'=>u'=u∧e=.returned (.tuple #[]) ∧
  w'=if done then w else ((w.setCell ⟨Bn,o,none⟩ (.int .i64 (c.at o-1))).setCell ⟨Bn,5,none⟩ (.int .i64 (c.at 5-1))).setCell ⟨Bo,0,none⟩ (.slice (some A) st cap):=by
 have f0:=hn.free o;have f5:=hn.free 5;have c0:=hn.cell (i:=o) (by omega)
 have c5:=hn.cell (i:=5) (by omega)
 have hm:maxLen=9223372036854775807:=rfl;generalize c.at o=x at *
 generalize c.at 5=y at *
 obtain rfl|rfl|rfl|rfl|rfl:o=0∨o=1∨o=2∨o=3∨o=4:=by omega
 all_goals
  cases done
  ·go_enter_d Tryz.func140,Tryz.ntmps140
   go_wp2
   go_end0
   first|rfl|exact⟨rfl,rfl⟩|exact⟨rfl,rfl,rfl⟩
  ·go_enter_d Tryz.func140,Tryz.ntmps140
   go_wp2
   go_end0
   first|rfl|exact⟨rfl,rfl⟩|exact⟨rfl,rfl,rfl⟩
structure Srch where
 b:Nat
 L:Nat
 may:List (List Int)
 mis:List Int
 left:Nat
 lf:Nat->Int->Bool
def Srch.rest (S:Srch):Nat->Cn->Option (List Int)
 | 0,_=>some []
 | n+1,c =>
   if S.left.testBit (S.L-(n+1)) then (S.rest n c.skip).map (fun r=>(-1:Int)::r)
   else (S.may.getD (S.L-(n+1)) []).findSome? fun o=>if c.at o.toNat<S.mis.getD o.toNat 0&&S.lf (S.L-(n+1)) o then (S.rest n (c.up o.toNat)).map (fun r=>o::r) else none
def Srch.giveCaps (S:Srch):Array Value:=#[.pointer (some ⟨S.b+3,0,none⟩),.pointer (some ⟨S.b+7,0,none⟩),.pointer (some ⟨S.b+8,0,none⟩)]
def Srch.growCaps (S:Srch):Array Value:=#[.pointer (some ⟨S.b+3,0,none⟩),.pointer (some ⟨S.b,0,none⟩),.pointer (some ⟨S.b+5,0,none⟩),.pointer (some ⟨S.b+1,0,none⟩),.pointer (some ⟨S.b+7,0,none⟩),.pointer (some ⟨S.b+8,0,none⟩),.pointer (some ⟨S.b+2,0,none⟩),.pointer (some ⟨S.b+9,0,none⟩)]
theorem j2m {W:World} {k g i:Nat} {o:Obj} {x:Value} (h:W.heap[k]?=some o) (a0:k≠g):(W.setCell ⟨g,i,none⟩ x).heap[k]?=some o:=(zB1 W ⟨g,i,none⟩ x k a0).trans h
theorem j3x {w w':World} {b:Nat} {e:TypeId} {sz g cap n:Nat} {xs:List Value} (h:w.ownsRow b e sz (.slice (some ⟨g,0,none⟩) n cap) n xs) (k:w'.heap[g]?=w.heap[g]?) :
 w'.ownsRow b e sz (.slice (some ⟨g,0,none⟩) n cap) n xs:=by
 refine⟨h.1,?_⟩;rcases h.2 with ⟨hv,_⟩|⟨g',a0,cur,hv,h1,h2,h3⟩
 ·cases hv
 ·cases hv;exact .inr ⟨_,_,_,rfl,h1,k.trans h2,h3⟩
structure Env (S:Srch) (xs:Array Value) (lt:Value) (w:World):Prop where
 x:w.heap[S.b]?=some (.cells xs 172 (0,0))
 l:w.heap[S.b+1]?=some (.cells #[.int .u64 S.left] 155 (0,0))
 t:w.heap[S.b+2]?=some (.cells #[lt] 92 (0,0))
 m:w.heap[S.b+5]?=some (.cells #[.map (some (S.b+4))] 187 (0,0))
 v:w.heap[S.b+8]?=some (.cells #[.func (.func 141) #[] S.growCaps] 35 (0,0))
 g:w.heap[S.b+9]?=some (.cells #[.func (.func 139) #[] S.giveCaps] 92 (0,0))
structure St (S:Srch) (w:World) (c:Cn) (o:List Int) (K:List Cn):Prop where
 now:Now w (S.b+3) c
 out:w.heap[S.b+7]?=some (.cells #[.slice (some ⟨S.b+6,0,none⟩) o.length S.L] 25 (0,0))
 buf:w.ownsRow S.b 3 1 (.slice (some ⟨S.b+6,0,none⟩) o.length S.L) o.length (o.flatMap eInt)
 met:j5o w (S.b+4) K
 len:c.s=o.length
 ok:∀ i,i<5->0<=c.at i∧c.at i<=c.s
structure Fr (b:Nat) (w w':World):Prop where
 below:Below b w w'
 rest:∀ j,j<w.heap.size->j≠b+3->j≠b+4->j≠b+6->j≠b+7->w'.heap[j]?=w.heap[j]?
section
variable {b:Nat} {w w' w'':World}
theorem Fr.refl (b:Nat) (w:World):Fr b w w:=⟨zB2 _ _,fun _ _ _ _ _ _=>rfl⟩
theorem Fr.trans (h:Fr b w w') (k:Fr b w' w''):Fr b w w'' :=
 ⟨h.below.trans k.below,fun j hj a c d e=>(k.rest j (Nat.lt_of_lt_of_le hj h.below.size) a c d e).trans (h.rest j hj a c d e)⟩
theorem Fr.of_below {B:Nat} (h:Below B w w') (hB:w.heap.size<=B) (hb:b<=w.heap.size):Fr b w w':=⟨h.mono (zB6 hb hB),fun j hj _ _ _ _=>h.block j (Nat.lt_of_lt_of_le hj hB)⟩
theorem Fr.set (h:Fr b w w') (hb:b<=w.heap.size) (a:Addr) (v:Value) (ha:a.block=b+3∨a.block=b+7∨w.heap.size<=a.block):Fr b w (w'.setCell a v) :=
 ⟨h.below.setCell (by omega) v,fun j hj h3 h4 h6 h7=>(zB1 w' a v j (by omega)).trans (h.rest j hj h3 h4 h6 h7)⟩
theorem Fr.grown (h:Fr b w w') (hb:b+6<w.heap.size) (hg:w'.grownBy w'' (some (b+6))):Fr b w w'' :=
 h.trans ⟨(zB2 _ _).grown hg (by have:=h.below.size;omega) (fun k hk=>by cases hk;omega),fun j hj _ _ h6 _=>hg.block j hj (fun e=>h6 (by cases e;rfl))⟩
theorem Fr.put (h:Fr b w w') (hb:b<=w.heap.size) (ob:Obj) (hM:b+4<w'.heap.size):Fr b w { w' with heap:=w'.heap.setIfInBounds (b+4) ob } :=
 h.trans ⟨⟨rfl,rfl,rfl,by simp,fun k hk=>by show(w'.heap.setIfInBounds (b+4) ob)[k]?=_;rw[Array.getElem?_setIfInBounds_ne (by omega)]⟩,fun j hj _ h4 _ _=>by simp[Ne.symm h4]⟩
end
theorem Env.fr {S:Srch} {xs:Array Value} {lt:Value} {w w':World} (h:Env S xs lt w) (k:Fr S.b w w'):Env S xs lt w':=by
 obtain⟨h0,h1,h2,h3,h4,h5⟩:=h;exact⟨(k.rest _ (j0a h0) (by omega) (by omega) (by omega) (by omega)).trans h0,(k.rest _ (j0a h1) (by omega) (by omega) (by omega) (by omega)).trans h1,(k.rest _ (j0a h2) (by omega) (by omega) (by omega) (by omega)).trans h2,
  (k.rest _ (j0a h3) (by omega) (by omega) (by omega) (by omega)).trans h3,(k.rest _ (j0a h4) (by omega) (by omega) (by omega) (by omega)).trans h4,(k.rest _ (j0a h5) (by omega) (by omega) (by omega) (by omega)).trans h5⟩
def Srch.sound (S:Srch) (K:List Cn):Prop:=∀ k,k∈K->∀ n,n<=S.L->k.s=(S.L-n:Nat)->S.rest n k=none
def Srch.Grows (S:Srch) (xs:Array Value) (lt:Value) (w0:World) (n:Nat):Prop :=
 ∀ (w:World) (c:Cn) (o:List Int) (K:List Cn),Below S.b w0 w->Env S xs lt w->St S w c o K->S.sound K->n<=S.L->o.length=S.L-n ->
  Calls Tryz.prog 141 S.growCaps w fun e w'=>e=.returned (.bool (S.rest n c).isSome)∧Fr S.b w w' ∧
   ∃ c' o' K',St S w' c' o' K'∧S.sound K'∧(∀ r,S.rest n c=some r->o'=o++r)∧(S.rest n c=none->c'=c∧o'=o)
theorem Cn.up_s (c:Cn) {i:Nat} (h:i<5):(c.up i).s=c.s+1:=by
 obtain rfl|rfl|rfl|rfl|rfl:i=0∨i=1∨i=2∨i=3∨i=4:=by omega
 all_goals rfl
theorem Cn.up_at (c:Cn) {i j:Nat} (h:i<5) (hj:j<5):(c.up i).at j=if j=i then c.at j+1 else c.at j:=by
 obtain rfl|rfl|rfl|rfl|rfl:i=0∨i=1∨i=2∨i=3∨i=4:=by omega
 all_goals
  obtain rfl|rfl|rfl|rfl|rfl:j=0∨j=1∨j=2∨j=3∨j=4:=by omega
  all_goals rfl
theorem Cn.up_down (c:Cn) {i:Nat} (h:i<5):(((c.up i).add (-1) i).add (-1) 5)=c:=by
 obtain rfl|rfl|rfl|rfl|rfl:i=0∨i=1∨i=2∨i=3∨i=4:=by omega
 all_goals simp[Cn.up,Cn.add,Int.add_neg_cancel_right]
theorem Cn.skip_s (c:Cn):c.skip.s=c.s+1:=rfl
theorem Cn.skip_at (c:Cn) {j:Nat} (hj:j<5):c.skip.at j=c.at j:=by
 obtain rfl|rfl|rfl|rfl|rfl:j=0∨j=1∨j=2∨j=3∨j=4:=by omega
 all_goals rfl
theorem Cn.skip_down (c:Cn):c.skip.add (-1) 5=c:=by simp[Cn.skip,Cn.add,Int.add_neg_cancel_right]
theorem k9p {w:World} {b:Nat} {e:TypeId} {g cap:Nat} {l r:List Int} (h:w.ownsRow b e 1 (.slice (some ⟨g,0,none⟩) (l++r).length cap) (l++r).length ((l++r).flatMap eInt)) :
 w.ownsRow b e 1 (.slice (some ⟨g,0,none⟩) l.length cap) l.length (l.flatMap eInt):=by
 have hl:∀ z:List Int,(z.flatMap eInt).length=z.length:=fun z=>by induction z with
  | nil=>rfl
  | cons a z ih=>simp[eInt] at *;exact ih
 refine⟨by simp[hl],?_⟩
 rcases h.2 with ⟨hv,_⟩|⟨g',a0,cur,hv,h1,h2,h3,h4,h5,h6⟩
 ·cases hv
 ·cases hv;refine .inr ⟨_,_,_,rfl,h1,h2,by simp at h3;omega,h4,h5,?_⟩
  have:=congrArg (List.take l.length) h6;rw[List.take_take] at this;simp only[Nat.mul_one] at this ⊢;rw[Nat.min_eq_left (by simp)] at this
  rw[this,List.flatMap_append,List.take_append_of_le_length (by rw[hl];exact zL9 _),zB8 (by rw[hl];exact zL9 _)]
theorem wp_fit {ops:Array Oper} {rest:List Oper} {o:Oper} {a:Act} {Q:Exit->Act->World->Prop} {w:World} {e:TypeId}
 (a5:o.guard=none) (s x:Operand) (ho:o.op=.call { callee:=.builtin .append,args:=#[s,x],argTypes:=#[25,25] })
 (b g cap:Nat) (l:List Int) (y:Int) (hs:a.eval s=.slice (some ⟨g,0,none⟩) l.length cap) (hx:a.eval x=.slice (some ⟨w.heap.size,0,none⟩) 1 1)
 (a2:w.ownsRow b 3 1 (.slice (some ⟨g,0,none⟩) l.length cap) l.length (l.flatMap eInt)) (a4:l.length+1<=cap)
 (h:∀ w',w'.ownsRow b 3 1 (.slice (some ⟨g,0,none⟩) (l.length+1) cap) (l.length+1) ((l++[y]).flatMap eInt)->w.grownBy w' (some g)->wpList Tryz.prog ops Q rest (a.put o.dst (.slice (some ⟨g,0,none⟩) (l.length+1) cap)) w') :
 wpList Tryz.prog ops Q (o::rest) a (w.alloc (.cells #[.int .i64 y] e)):=by
 obtain⟨i,z,hi,hz,a0,a3,a6⟩:=j3b.info;refine wpList_append_fits _ a5 s x 25 ho b 3 i 1 j3b.sl hi a0 g l.length cap (l.flatMap eInt) hs (World.ownsRow.alloc a2 _) ⟨w.heap.size,0,none⟩ 1 1 [.int .i64 y] hx rfl ?_ (by simp[Value.oneCell']) a4 ?_
 ·intro j u hu;rw[Addr.add_lit,Nat.zero_add,World.cell?_alloc_at _ _ _ _ rfl];simpa using hu
 ·intro w' a1 hg;have hf:(l++[y]).flatMap eInt=l.flatMap eInt++[.int .i64 y]:=by simp[eInt]
  exact h w' (hf ▸ a1) ((World.grownBy_alloc _ _ _).trans hg)
theorem give_any (S:Srch) (xs:Array Value) (lt:Value) (w0:World) (n:Nat) (hG:S.Grows xs lt w0 n) (hL:S.L<=6) (w:World) (c:Cn) (o:List Int) (K:List Cn) (ow:Nat)
 (hb:Below S.b w0 w) (ac:Env S xs lt w) (st:St S w c o K) (hs:S.sound K) (hn:n<S.L) (ag:o.length=S.L-(n+1)) (a4:ow<5) :
 Calls Tryz.prog 139 #[.int .i64 (S.L-(n+1):Nat),.int .i64 ow,.pointer (some ⟨S.b+3,0,none⟩),.pointer (some ⟨S.b+7,0,none⟩),.pointer (some ⟨S.b+8,0,none⟩)] w fun e w' =>
  e=.returned (.bool (S.rest n (c.up ow)).isSome)∧Fr S.b w w' ∧
  ∃ c' o' K',St S w' c' o' K'∧S.sound K'∧(∀ r,S.rest n (c.up ow)=some r->o'=o++((ow:Int)::r))∧(S.rest n (c.up ow)=none->c'=c∧o'=o):=by
 have bh:∀ (fn:Fn) (first cap:Array Value) (w:World),(Instr.makeFunc fn first cap).run Tryz.prog w=.ok (.func fn first cap) w:=fun _ _ _ _=>rfl
 obtain⟨now,out,buf,met,len,ok⟩:=st;have b5:=j0a ac.g;have be:S.b+7<w.heap.size:=by omega
 have ay:S.b+3<w.heap.size:=by omega
 have b7:S.b+8<w.heap.size:=by omega
 have bn:=ok ow a4;have bm:c.at 5=c.s:=rfl;have bs:0<=c.at 5∧c.at 5<6:=by omega
 have bj:¬ow=5:=by omega
 have aE:¬5=ow:=by omega
 generalize hp:S.L-(n+1)=p at *
 subst ag;go_enter_defers Tryz.func139,Tryz.ntmps139
 go_upto_region 1 with (fail)
 obtain⟨W,hW⟩:∃ W,W=((w.alloc (.cells #[.int IntKind.i64 ↑o.length] 3)).alloc (.cells #[.int IntKind.i64 ↑ow] 3)).alloc (.cells #[.bool false] 4):=⟨_,rfl⟩;rw[<-hW];have b0:W.heap[w.heap.size]?=some (.cells #[.int IntKind.i64 ↑o.length] 3 (0,0)):=by rw[hW];exact j0b (j0b (j0c rfl) _) _
 have b1:W.heap[w.heap.size+1]?=some (.cells #[.int IntKind.i64 ↑ow] 3 (0,0)):=by rw[hW];exact j0b (j0c (by simp)) _
 have b2:W.heap[w.heap.size+1+1]?=some (.cells #[.bool false] 4 (0,0)):=by rw[hW];exact j0c (by simp)
 have hB:Below w.heap.size w W:=by rw[hW];exact(((zB2 _ _).alloc (zL9 _) _).alloc (by simp) _).alloc (by simp;omega) _
 have ak:W.heap.size=w.heap.size+3:=by rw[hW];simp
 clear hW;have hF:Fr S.b w W:=Fr.of_below hB (zL9 _) (by omega)
 have now:=now.keep (hB.block _ (by omega))
 have c0:=now.cell (i:=ow) (by omega)
 have c5:=now.cell (i:=5) (by omega)
 have f0:=now.free ow;have f5:=now.free 5;have out:=j0e out hB (zL9 _);have b4:=blk1 out;have av:W.frozen? ⟨S.b+7,0,none⟩=false:=free_of_one out;have d0:=blk1 b0;have d1:=blk1 b1;have d2:=blk1 b2;have n1:¬w.heap.size+1=S.b+3:=by omega
 have n2:¬w.heap.size=S.b+3:=by omega
 go_upto_region 3 with (fail)
 obtain⟨W2,hW⟩:∃ W2,W2=(W.setCell ⟨S.b+3,ow,none⟩ (.int .i64 (c.at ow+1))).setCell ⟨S.b+3,5,none⟩ (.int .i64 (↑o.length+1)):=⟨_,rfl⟩;rw[<-hW];have aw:Fr S.b w W2:=by rw[hW];exact(hF.set (by omega) _ _ (.inl rfl)).set (by omega) _ _ (.inl rfl)
 have af:(c.add 1 ow).at 5=c.at 5:=by
  obtain rfl|rfl|rfl|rfl|rfl:ow=0∨ow=1∨ow=2∨ow=3∨ow=4:=by omega
  all_goals rfl
 have aD:c.at 5=↑o.length:=by omega
 have ai:Now W2 (S.b+3) (c.up ow):=by rw[hW];exact(now.set (by omega) 1 _ rfl).set (by omega) 1 _ (by rw[af];omega)
 have a9:W2.heap[S.b+7]?=some (.cells #[.slice (some { block:=S.b+6,off:=0 }) o.length S.L] 25 (0,0)):=by rw[hW];exact j2m (j2m out (by omega)) (by omega)
 have e0:W2.heap[w.heap.size]?=some (.cells #[.int IntKind.i64 ↑o.length] 3 (0,0)):=by rw[hW];exact j2m (j2m b0 (by omega)) (by omega)
 have e1:W2.heap[w.heap.size+1]?=some (.cells #[.int IntKind.i64 ↑ow] 3 (0,0)):=by rw[hW];exact j2m (j2m b1 (by omega)) (by omega)
 have e2:W2.heap[w.heap.size+1+1]?=some (.cells #[.bool false] 4 (0,0)):=by rw[hW];exact j2m (j2m b2 (by omega)) (by omega)
 have g6:W2.heap[S.b+6]?=W.heap[S.b+6]?:=by rw[hW];exact(zB1 _ _ _ _ (by dsimp;omega)).trans (zB1 _ _ _ _ (by dsimp;omega))
 have a2:W2.heap[S.b+4]?=W.heap[S.b+4]?:=by rw[hW];exact(zB1 _ _ _ _ (by dsimp;omega)).trans (zB1 _ _ _ _ (by dsimp;omega))
 have ao:W2.heap.size=w.heap.size+3:=by rw[hW];simpa using ak
 have ae:=j3x buf (g6.trans (hB.block _ (by omega)))
 have a2:=met.keep (a2.trans (hB.block _ (by omega)))
 clear hW;have c7:=blk1 a9;have d0:=blk1 e0;have d1:=blk1 e1;have d2:=blk1 e2;have b8:¬W2.heap.size=S.b+7:=by omega
 have gl:=blk1 ac.v;have aC:w.heap.size+3<=W2.heap.size:=by omega
 have HZ:=zQ9 (zA9 ao ak);clear ao ak;go_wp2_with (at_builtin;refine wp_fit rfl (.tmp 17) (.tmp 19) rfl S.b (S.b+6) S.L o ow rfl rfl ae (by omega) ?_;intro W3 aj am;have ah:=aw.grown (by omega) am;have a3:=(am.block (S.b+7) (by omega) (by simp)).trans a9;have bq:=blk1 a3;have bi:W3.frozen? ⟨S.b+7,0,none⟩=false:=free_of_one a3;have v3:=blk1 (ac.fr ah).v;have ay:=ah.below.size)
 obtain⟨W4,hW⟩:∃ W4,W4=W3.setCell ⟨S.b+7,0,none⟩ (Value.slice (some ⟨S.b+6,0,none⟩) (o.length+1) S.L):=⟨_,rfl⟩;rw[<-hW];have ad:Fr S.b w W4:=by rw[hW];exact ah.set (by omega) _ _ (.inr (.inl rfl))
 have k4:∀ j,j<w.heap.size+3->j≠S.b+7->j≠S.b+6->W4.heap[j]?=W2.heap[j]?:=fun j hj h7 h6=>by
  rw[hW];exact(zB1 _ _ _ _ h7).trans (am.block j (by omega) (by intro e;cases e;exact h6 rfl))
 have aA:W4.heap[S.b+6]?=W3.heap[S.b+6]?:=by rw[hW];exact zB1 _ _ _ _ (by dsimp;omega)
 have o4:W4.heap[S.b+7]?=some (.cells #[.slice (some ⟨S.b+6,0,none⟩) (o.length+1) S.L] 25 (0,0)):=by rw[hW];exact one_setCell a3
 have ax:St S W4 (c.up ow) (o++[(ow:Int)]) K :=
  ⟨ai.keep (k4 _ (by omega) (by omega) (by omega)),by simpa using o4,by simpa using j3x aj aA,a2.keep (k4 _ (by omega) (by omega) (by omega)),by rw[Cn.up_s c a4,len];simp,
   fun i hi=>by have:=ok i hi;rw[Cn.up_s c a4,Cn.up_at c a4 hi];split<;>omega⟩
 have b9:=ad.below.size;have e4:=(k4 (w.heap.size+1+1) (by omega) (by omega) (by omega)).trans e2
 have aq:=(k4 (w.heap.size+1) (by omega) (by omega) (by omega)).trans e1
 have an:=(k4 (w.heap.size) (by omega) (by omega) (by omega)).trans e0
 clear hW;refine(hG W4 (c.up ow) (o++[(ow:Int)]) K (hb.trans ad.below) (ac.fr ad) ax hs (by omega) (by simp;omega)).mono ?_
 rintro e w5 ⟨rfl,aa,c',o',K',a1,a8,a6,a7⟩;have e5:=(aa.rest _ (j0a e4) (by omega) (by omega) (by omega) (by omega)).trans e4
 have aF:=(aa.rest _ (j0a aq) (by omega) (by omega) (by omega) (by omega)).trans aq
 have aB:=(aa.rest _ (j0a an) (by omega) (by omega) (by omega) (by omega)).trans an
 have bf:=blk1 e5;have bo:w5.frozen? ⟨w.heap.size+1+1,0,none⟩=false:=free_of_one e5;dsimp only;go_wp2
 have b6:o'.length<=S.L:=by
  rcases a1.buf.2 with ⟨hv,_⟩|⟨g',aH,cur,hv,h1,h2,h3,_⟩
  ·cases hv
  ·cases hv;exact h3
 obtain⟨w6,hW⟩:∃ w6,w6=w5.setCell ⟨w.heap.size+1+1,0,none⟩ (Value.bool (S.rest n (c.up ow)).isSome):=⟨_,rfl⟩;rw[<-hW];have k6:∀ j,j≠w.heap.size+1+1->w6.heap[j]?=w5.heap[j]?:=fun j hj=>by rw[hW];exact zB1 _ _ _ _ hj
 have e6:w6.heap[w.heap.size+1+1]?=some (.cells #[.bool (S.rest n (c.up ow)).isSome] 4 (0,0)):=by rw[hW];exact one_setCell e5
 have ar:Fr S.b w w6:=by rw[hW];exact(ad.trans aa).set (by omega) _ _ (.inr (.inr (by dsimp;omega)))
 have b3:=(k6 (w.heap.size+1) (by omega)).trans aF
 have az:=(k6 (w.heap.size) (by omega)).trans aB
 have a0:St S w6 c' o' K':=⟨a1.now.keep (k6 _ (by omega)),(k6 _ (by omega)).trans a1.out,j3x a1.buf (k6 _ (by omega)),a1.met.keep (k6 _ (by omega)),a1.len,a1.ok⟩
 clear hW;have hm:maxLen=9223372036854775807:=rfl;have br:=a0.ok ow a4;have ba:c'.at 5=c'.s:=rfl;have bp:=a0.len;refine leaves_cons (f:=140) (args:=#[.pointer (some ⟨w.heap.size+1+1,0,none⟩),.pointer (some ⟨S.b+3,0,none⟩),.pointer (some ⟨w.heap.size+1,0,none⟩),.pointer (some ⟨S.b+7,0,none⟩),.pointer (some ⟨w.heap.size,0,none⟩)]) (by simp) (by simp[go_sem]) ?_
 refine(undo_any w6 .returning _ _ _ _ _ _ c' ow o.length ⟨S.b+6,0,none⟩ o'.length S.L (blk1 e6) a0.now (blk1 b3) (blk1 a0.out) (blk1 az) (free_of_one a0.out) a4 (by omega) (by omega) (by omega) (by omega) (by omega) (by omega) (by omega) (by omega) (by omega)).mono ?_
 rintro e u' w7 ⟨rfl,rfl,rfl⟩;cases hr:S.rest n (c.up ow) with
 | some r =>
   simp only[hr,Option.isSome_some,if_true] at e6 ⊢;have d6:=blk1 e6;exact⟨_,by simp[results,Tryz.f139,go_sem,d6],rfl,ar,c',o',K',a0,a8,fun r1 hr1=>by cases hr1;rw[a6 r hr];simp,fun h=>by cases h⟩
 | none =>
   obtain⟨rfl,rfl⟩:=a7 hr;simp only[hr,Option.isSome_none,Bool.false_eq_true,if_false] at e6 ⊢;obtain⟨w7,hW⟩:∃ w7,w7=((w6.setCell ⟨S.b+3,ow,none⟩ (.int .i64 ((c.up ow).at ow-1))).setCell ⟨S.b+3,5,none⟩ (.int .i64 ((c.up ow).at 5-1))).setCell ⟨S.b+7,0,none⟩ (.slice (some ⟨S.b+6,0,none⟩) o.length S.L):=⟨_,rfl⟩;rw[<-hW];have e7:w7.heap[w.heap.size+1+1]?=some (.cells #[.bool false] 4 (0,0)):=by rw[hW];exact j2m (j2m (j2m e6 (by omega)) (by omega)) (by omega)
   have d7:=blk1 e7;have aG:Fr S.b w w7:=by rw[hW];exact((ar.set (by omega) _ _ (.inl rfl)).set (by omega) _ _ (.inl rfl)).set (by omega) _ _ (.inr (.inl rfl))
   have a5:((c.up ow).add (-1) ow).at 5=(c.up ow).at 5:=by
    obtain rfl|rfl|rfl|rfl|rfl:ow=0∨ow=1∨ow=2∨ow=3∨ow=4:=by omega
    all_goals rfl
   have n7:Now w7 (S.b+3) c:=by
    have h0:=(a0.now.set (i:=ow) (by omega) (-1) ((c.up ow).at ow-1) (by omega)).set (i:=5) (by omega) (-1) ((c.up ow).at 5-1) (by rw[a5];omega)
    rw[Cn.up_down c a4] at h0;rw[hW];exact h0.keep (zB1 _ _ _ _ (by dsimp;omega))
   have k7:∀ j,j≠S.b+3->j≠S.b+7->w7.heap[j]?=w6.heap[j]?:=fun j h3 h7=>by
    rw[hW];exact(zB1 _ _ _ _ h7).trans ((zB1 _ _ _ _ h3).trans (zB1 _ _ _ _ h3))
   have o7:w7.heap[S.b+7]?=some (.cells #[.slice (some ⟨S.b+6,0,none⟩) o.length S.L] 25 (0,0)):=by
    rw[hW];exact one_setCell (j2m (j2m a0.out (by omega)) (by omega))
   clear hW;exact⟨_,by simp[results,Tryz.f139,go_sem,d7],rfl,aG,c,o,K',⟨n7,o7,j3x (k9p a0.buf) (k7 _ (by omega) (by omega)),a0.met.keep (k7 _ (by omega) (by omega)),len,ok⟩,a8,fun r1 hr1=>(by cases hr1),fun _=>⟨rfl,rfl⟩⟩
end Go.Proofs.YtmennjmjakdkcaaGreat
