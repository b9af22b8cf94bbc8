/- HerdParts. -/
import Derived.Test.YtmennjmjakdkcaaGreatPt12
set_option linter.unusedVariables false
set_option linter.unusedSimpArgs false
set_option maxRecDepth 100000
set_option maxHeartbeats 1000000
namespace Go.Proofs.YtmennjmjakdkcaaGreat
open Go.RowKit
theorem k5o {P:Program} {tt:TypeId} (E:ElemOk P tt 25 1 24) {ops:Array Oper} {rest:List Oper} {o:Oper} {a:Act} {Q:Exit->Act->World->Prop} {w0 w:World}
 (a5:o.guard=none) (s x:Operand) (ho:o.op=.call { callee:=.builtin .append,args:=#[s,x],argTypes:=#[tt,tt] })
 (base:Nat) (v u:Value) (ls:List (List Int)) (l:List Int) (hs:a.eval s=v) (hx:a.eval x=.slice (some ⟨w.heap.size,0,none⟩) 1 1)
 (a1:EndG w0 base v ls) (a3:Below w0.heap.size w0 w) (hu:OwnI w w0.heap.size u l) (a7:ls.length<4294967296) (a0:base<=w0.heap.size)
 (h:∀ v' w',EndG w' base v' (ls++[l])->Below base w w'->(∀ (k:Nat) cs T,T≠25->w.heap[k]?=some (.cells cs T (0,0))->w'.heap[k]?=some (.cells cs T (0,0)))->(∀ k,k<w.heap.size->v.ownBlock≠some k->w'.heap[k]?=w.heap[k]?)->wpList P ops Q rest (a.put o.dst v') w') :
 wpList P ops Q (o::rest) a (w.alloc (.cells #[u] 25)):=by
 obtain⟨mv,h1,h2,h4⟩:=a1;have a4:u.oneCell'=true:=by
  rcases hu.2 with ⟨rfl,_⟩|⟨g,cap,cur,rfl,_⟩<;>rfl
 have a2:=h1.below a3 (zL9 _);have a6:Rws w base mv ls:=⟨h2.1,fun i v hv=>by obtain⟨l,hl,ho⟩:=h2.2 i v hv;exact⟨l,hl,ho.below a3 (zL9 _)⟩⟩
 refine j9x (P:=P) E a5 s x ho base v mv u #[u] hs hx rfl rfl (j6i a4) a2 (by rw[h2.1];exact a7) (by decide) (zB6 a0 a3.size) ?_
 intro g' cap w' a8 hg hb;refine h _ _ (EndG.snoc a2 a6 h4 hu a0 (fun x hx k hk=>?_) a8 hg) hb (fun k cs T hT hk=>(hg.block k (j0a hk) fun e=>?_).trans hk) fun k hk hne=>hg.block k hk (fun e=>hne e.symm)
 ·obtain⟨i,hi⟩:=List.mem_iff_getElem?.1 hx;obtain⟨l',_,ho⟩:=h2.2 i x hi;exact(ho.lt k hk).2
 ·rcases a2.2 with ⟨rfl,_⟩|⟨g,cap,cur,rfl,_,k2,_⟩
  ·cases e
  ·simp only[Value.ownBlock,Option.some.injEq] at e;subst e;rw[k2] at hk;cases hk;exact hT rfl
def j1d (w:World) (A:Option Addr) (n:Nat) (ls:List (List Int)):Prop :=
 ∃ mv,Sl eVal 1 w A n mv∧mv.length=ls.length∧∀ (i:Nat) v,mv[i]?=some v->∃ B l c,ls[i]?=some l∧v=.slice B l.length c∧Ints w B l.length l∧l.length<=c∧c<=maxLen∧(B=none->c=0)
theorem j1d.below {w w':World} {A:Option Addr} {n B:Nat} {ls:List (List Int)} (h:j1d w A n ls) (hb:Below B w w') (hB:w.heap.size<=B):j1d w' A n ls:=by
 obtain⟨mv,h1,h2,h3⟩:=h;exact⟨mv,h1.below hb hB,h2,fun i v hv=>by
  obtain⟨C,l,c,a1,a2,a3,a4,a5,a6⟩:=h3 i v hv;exact⟨C,l,c,a1,a2,a3.below hb hB,a4,a5,a6⟩⟩
theorem j1d.grid {w:World} {A:Option Addr} {n:Nat} {ls:List (List Int)} (h:j1d w A n ls):Grid w A n ls:=by
 obtain⟨mv,h1,h2,h3⟩:=h;exact⟨mv,h1,h2,fun i v hv=>by
  obtain⟨C,l,c,a1,a2,a3,a4,a5,a6⟩:=h3 i v hv;exact⟨C,l,c,a1,a2,a3,a4,a5⟩⟩
theorem j1d.get {w:World} {A:Option Addr} {n:Nat} {ls:List (List Int)} (h:j1d w A n ls) {k:Nat} (hk:k<n) :
 ∃ b off B l c,A=some ⟨b,off,none⟩∧b<w.heap.size∧ls[k]?=some l∧w.cell? ⟨b,off+k,none⟩=some (.slice B l.length c)∧Ints w B l.length l∧l.length<=c∧c<=maxLen∧(B=none->c=0):=by
 obtain⟨mv,h1,h2,h3⟩:=h;obtain⟨b,off,x,hA,hb,hx,hc⟩:=Vals.get h1 hk;obtain⟨B,l,c,a1,a2,a3,a4,a5,a6⟩:=h3 k x hx;subst a2;exact⟨b,off,B,l,c,hA,hb,a1,hc,a3,a4,a5,a6⟩
theorem Own.formZ {α:Type} {enc:α->List Value} {e:TypeId} {sz:Nat} {w:World} {base:Nat} {v:Value} {l:List α} (h:Own enc e sz w base v l) (a0:∀ x,(enc x).length=sz):∃ A c,v=.slice A l.length c∧Sl enc sz w A l.length l∧l.length<=c∧c<=maxLen∧(A=none->c=0):=by
 obtain⟨A,c,e,h1,h2,h3⟩:=h.form a0;refine⟨A,c,e,h1,h2,h3,fun hA=>?_⟩
 rcases h.2 with ⟨hv,_⟩|⟨g,cap,cur,hv,_⟩
 ·rw[e] at hv;injection hv with _ _ e3
 ·rw[e,hA] at hv;injection hv with e1;cases e1
theorem OwnG.formZ {w:World} {base:Nat} {v:Value} {ls:List (List Int)} (h:OwnG w base v ls):∃ A c,v=.slice A ls.length c∧j1d w A ls.length ls∧ls.length<=c∧c<=maxLen∧(A=none->c=0):=by
 obtain⟨mv,h1,h2,h3⟩:=h;obtain⟨A,c,hv,hs,hc,hm,hz⟩:=h1.formZ j2t;rw[h2] at hv hs hc;refine⟨A,c,hv,⟨mv,hs,h2,fun i v hv=>?_⟩,hc,hm,hz⟩
 obtain⟨l,hl,ho⟩:=h3 i v hv;obtain⟨B,c',a0,a1,a2,a4,a3⟩:=ho.formZ j0n;exact⟨B,l,c',hl,a0,a1,a2,a4,a3⟩
theorem k1h (A:Option Addr) (n c:Nat) (ls:List (List Int)) (w:World) (hl:j1d w A n ls) (hn:n<=1000) (hr:∀ r∈ls,r.length<=1000) :
 Calls Tryz.prog 53 #[.slice A n c] w fun e w'=>(∃ v,e=.returned v∧EndG w' w.heap.size v ls)∧Below w.heap.size w w':=by
 have a2:ls.length=n:=hl.grid.len;have HL:=zQ9 (zA9 hl (zA9 a2 hr));clear hl a2 hr;go_enter Tryz.func53,Tryz.ntmps53
 go_wp2_with fail
 go_loopg [3,4] n (fun g v3 v4 wr=>∃ k:Nat,k+g=n∧v4=.int .i64 k∧EndG wr w.heap.size v3 (ls.take k)∧Below w.heap.size w wr)
 case atStart=>exact⟨0,by omega,rfl,by simpa using EndG.nil_,zB2 _ _⟩
 case round =>
  obtain⟨k,hk,rfl,a0,hB⟩:=hrel;have a6:=hB.size;by_cases hlt:k<n
  ·obtain⟨b,off,B,l,c',rfl,ad,hl,hc,hi,a9,ac,hz⟩:=(HL.o.1.below hB (zL9 _)).get hlt;have aa:=HL.o.2.2 l (zB4 hl);have a4:=k1i B l.length c' l wr hi hz (by omega)
   obtain⟨m,hm⟩:∃ m,m=l.length:=⟨_,rfl⟩;rw[<-hm] at hc a4;have a8:(ls.take k).length<4294967296:=by rw[List.length_take];omega
   have h1:(k:Int)<(n:Int):=by omega
   have h2:(n:Int)<=1000:=by omega
   have HK:=zQ9 (zA9 hk (zA9 a0 (zA9 hB (zA9 hl hm))));have HC:=zQ9 a4;clear hk a0 hB hl hm a4 hi aa a9 hz;go_wp2_with (first
    | (go_at_call 52;refine HC.o.mono ?_;rintro e w2 ⟨v2,rfl,a3,a5⟩;obtain⟨A2,c2,rfl,_,_,_⟩:=a3.form j0n;have H2:=zQ9 (zA9 a3 a5);clear a3 a5)
    | (at_builtin;refine k5o j8g rfl (.tmp 11) (.tmp 17) rfl w.heap.size _ _ (ls.take k) _ rfl rfl HK.o.2.1 H2.o.2 H2.o.1 a8 a6 ?_;intro v' w4 a1 a7 _ _;have H4:=zQ9 (zA9 a1 a7);clear a1 a7))
   go_roundg (gk-1)
   case measure=>have:=HK.o.1;omega
   case rel =>
    refine⟨k+1,by have:=HK.o.1;omega,by go_num,?_,HK.o.2.2.1.trans ((H2.o.2.mono a6).trans (H4.o.2.mono ?_))⟩
    ·rw[List.take_add_one,HK.o.2.2.2.1];exact H4.o.1
    ·exact zL9 _
  ·obtain rfl:k=n:=by omega
   have e:ls.take k=ls:=zB8 (by rw[HL.o.2.1];exact zL9 _)
   rw[e] at a0;have HF:=zQ9 (zA9 a0 hB);clear a0 hB e;go_wp2_with fail
   go_ret
   exact⟨⟨_,rfl,HF.o.1⟩,HF.o.2⟩
theorem Own.ne' {α:Type} {enc:α->List Value} {e e':TypeId} {sz:Nat} {w:World} {base:Nat} {v:Value} {l:List α} {b:Nat} {cs:Array Value} {x:Nat × Nat} (h:Own enc e sz w base v l) (hb:w.heap[b]?=some (.cells cs e' x)) (a1:e≠e'):v.ownBlock≠some b:=by
 intro a0;rcases h.2 with ⟨hv,_⟩|⟨g',cap,cur,hv,hg,hh,_⟩
 ·rw[hv] at a0;cases a0
 ·rw[hv] at a0;cases a0;rw[hh] at hb;cases hb;exact a1 rfl
theorem k5u:ElemOk Tryz.prog 52 31 5 32:=ElemOk.mk' (z:=.agg #[.int .i64 0,.bool false,.bool false,.int .i64 0,.int .i64 0]) Tryz.underlying52 (by kernel_rfl) rfl (by decide)
abbrev OwnS (w:World) (base:Nat) (v:Value) (l:List Sg):Prop:=Own eSg 31 5 w base v l
theorem k5v (x:Sg):∀ u∈eSg x,u.oneCell'=true:=by
 intro u hu;simp[eSg] at hu;rcases hu with rfl|rfl|rfl|rfl|rfl<;>rfl
def boxO (t:Int) (vm vk vh vd:Value):Obj:=Obj.cells #[.int .i64 t,vm,vk,vh,vd] 29 (0,0)
abbrev OwnD (w:World) (base:Nat) (v:Value) (l:List De):Prop:=Own eDe 33 12 w base v l
theorem Dealt.ownG {w w1 w2:World} {H N:Nat} (h:Dealt w w1 H N) {row:Option Nat} (hg:w1.grownBy w2 row) (hr:∀ k,row=some k->H<k∧w.heap.size<=k):Dealt w w2 H N:=by
 refine⟨h.hd.kept fun j hj=>hg.block j (Nat.lt_of_le_of_lt hj h.hd.lt) (fun e=>by have:=hr j e.symm;omega),⟨hg.os.trans h.gr.os,hg.tape.trans h.gr.tape,hg.output.trans h.gr.output,zB6 h.gr.size hg.size,fun j hj hne=>?_⟩⟩
 exact(hg.block j (Nat.lt_of_lt_of_le hj h.gr.size) (fun e=>by have:=hr j e.symm;omega)).trans (h.gr.block j hj hne)
theorem box23 {w:World} {q:Nat} {t:Int} {vm vk vh vd:Value} (h:w.heap[q]?=some (boxO t vm vk vh vd)):w.cell? ⟨q,2,none⟩=some vk∧w.cell? ⟨q,3,none⟩=some vh:=by
 obtain⟨_,_,h2,h3,_⟩:=blk5 h;exact⟨h2,h3⟩
theorem j7z (w:World) (n:Nat) (row:Option Nat):w.grownBy (w.drewN n) row:=⟨rfl,rfl,rfl,zL9 _,fun _ _ _=>rfl⟩
theorem j7t {α:Type} {enc:α->List Value} {P:Program} {t e:TypeId} {sz bytes:Nat} (E:ElemOk P t e sz bytes) {ops:Array Oper} {rest:List Oper} {o:Oper} {a:Act} {Q:Exit->Act->World->Prop} {w:World}
 (a8:o.guard=none) (s x:Operand) (ho:o.op=.call { callee:=.builtin .append,args:=#[s,x],argTypes:=#[t,t] })
 (base:Nat) (v:Value) (l:List α) (y:α) (cs:Array Value) (g:Nat) (hs:a.eval s=v) (hx:a.eval x=.slice (some ⟨g,0,none⟩) 1 1) (hg:w.heap[g]?=some (.cells cs e (0,0))) (hcs:cs.toList=enc y)
 (a7:(enc y).length=sz) (h1:∀ u∈enc y,u.oneCell'=true)
 (a4:Own enc e sz w base v l) (aa:l.length<4294967296) (a9:bytes<=4096) (a2:base<=w.heap.size)
 (h:∀ g' cap w',Own enc e sz w' base (.slice (some ⟨g',0,none⟩) (l.length+1) cap) (l++[y])->w.grownBy w' v.ownBlock->(v.ownBlock=some g'∨g'=w.heap.size)->wpList P ops Q rest (a.put o.dst (.slice (some ⟨g',0,none⟩) (l.length+1) cap)) w') :
 wpList P ops Q (o::rest) a w:=by
 obtain⟨i,z,hi,hz,a1,a0,a6⟩:=E.info;refine wpList_append_lies w a8 s x t ho base e i z sz bytes E.sl hi hz a1 a0 a6 E.pos v l.length (l.flatMap enc) hs a4 ⟨g,0,none⟩ 1 1 (enc y) hx (by omega) ?_ h1 (by omega) (by unfold maxLen;omega) ?_ a2 w.heap.size rfl ?_
 ·rw[<-hcs];exact World.news_of_block hg
 ·calc (l.length+1)*bytes<=4294967296*4096:=Nat.mul_le_mul (by omega) a9
   _<=140737488355328:=by omega
 ·intro g' cap w' a3 a5 hl _;refine h g' cap w' ?_ a5 hl;have e2:(l++[y]).flatMap enc=l.flatMap enc++enc y:=by simp
  unfold Own;rw[e2,List.length_append];exact a3
theorem j1y.nilL {v:Value}:j1y (.slice none 0 0) v:=fun k e=>nomatch e
theorem j1y.nilR {v:Value}:j1y v (.slice none 0 0):=fun k _ e=>nomatch e
theorem j1y.ne {a b:Value} (h:j1y a b):a.ownBlock=none∨a.ownBlock≠b.ownBlock:=by
 cases e:a.ownBlock with
 | none=>exact .inl rfl
 | some k=>exact .inr fun e'=>h k e e'.symm
theorem j5l {v:Value}:v.ownBlock=none∨v.ownBlock≠none:=by cases v.ownBlock<;>simp
theorem Rws.kept {w w':World} {base:Nat} {mv:List Value} {ls:List (List Int)} {row:Option Nat} (h:Rws w base mv ls) (hg:w.grownBy w' row) (hr:∀ x∈mv,x.ownBlock=none∨x.ownBlock≠row):Rws w' base mv ls :=
 ⟨h.1,fun i v hv=>by
  obtain⟨l,hl,ho⟩:=h.2 i v hv;exact⟨l,hl,ho.kept hg (hr v (zB4 hv))⟩⟩
theorem Rws.ltv {w:World} {base:Nat} {mv:List Value} {ls:List (List Int)} (h:Rws w base mv ls) {x:Value} (hx:x∈mv):∀ k,x.ownBlock=some k->base<=k∧k<w.heap.size:=by
 obtain⟨i,hi⟩:=List.mem_iff_getElem?.1 hx;obtain⟨l,_,ho⟩:=h.2 i x hi;exact ho.lt
theorem Rws.ne {w:World} {base:Nat} {mv:List Value} {ls:List (List Int)} (h:Rws w base mv ls) {x:Value} (hx:x∈mv) {b:Nat} {cs:Array Value} {e':TypeId} {y:Nat × Nat} (hb:w.heap[b]?=some (.cells cs e' y)) (a0:3≠e'):x.ownBlock≠some b:=by
 obtain⟨i,hi⟩:=List.mem_iff_getElem?.1 hx;obtain⟨l,_,ho⟩:=h.2 i x hi;exact ho.ne' hb a0
theorem Rws.snoc {w:World} {base:Nat} {mv:List Value} {ls:List (List Int)} {u:Value} {l:List Int} (h:Rws w base mv ls) (hu:OwnI w base u l):Rws w base (mv++[u]) (ls++[l]):=by
 refine⟨by simp[h.1],fun i x hx=>?_⟩
 rcases Nat.lt_or_ge i mv.length with hi|hi
 ·rw[List.getElem?_append_left hi] at hx;obtain⟨l',a0,ho⟩:=h.2 i x hx;exact⟨l',by rw[List.getElem?_append_left (by rw[<-h.1];exact hi)];exact a0,ho⟩
 ·have h0:i=mv.length:=by
   have:=(List.getElem?_eq_some_iff.1 hx).1;simp at this;omega
  subst h0;simp at hx;subst hx;exact⟨l,by rw[h.1];simp,hu⟩
structure TFl (w0:World) (H g q:Nat) (t:Int) (bm bk bh bd vm:Value) (l:List Mk) (vk:Value) (ks:List Int) (vh:Value) (mv:List Value) (hs:List (List Int)) (vu:Value) (row:List Int) (N:Nat) (w:World):Prop where
 hg:H<g
 gq:g<q
 z0:w0.heap.size<=g
 box:w.heap[q]?=some (boxO t bm bk bh bd)
 bg:w.heap[g]?=some (boxO 0 (.slice none 0 0) (.slice none 0 0) (.slice none 0 0) (.slice none 0 0))
 m:OwnM w (g+1) vm l
 k:OwnI w (g+1) vk ks
 h:Own eVal 25 1 w (g+1) vh mv
 rw:Rws w (g+1) mv hs
 u:OwnI w (g+1) vu row
 ap:∀ x∈mv,j1y x vk
 au:∀ x∈mv,j1y x vu
 uk:j1y vu vk
 dl:Dealt w0 w H N
section
variable {w0 w w':World} {H g q N N':Nat} {t:Int} {bm bk bh bd vm vk vh vu v':Value} {l:List Mk} {ks ks':List Int} {mv:List Value} {hs:List (List Int)} {row row':List Int}
theorem TFl.kept {r:Option Nat} (a:TFl w0 H g q t bm bk bh bd vm l vk ks vh mv hs vu row N w) (hg:w.grownBy w' r) (hq:r≠some q) (a0:r≠some g) (hm:vm.ownBlock=none∨vm.ownBlock≠r) (hk:vk.ownBlock=none∨vk.ownBlock≠r)
 (hh:vh.ownBlock=none∨vh.ownBlock≠r) (hr:∀ x∈mv,x.ownBlock=none∨x.ownBlock≠r) (hu:vu.ownBlock=none∨vu.ownBlock≠r) (hD:Dealt w0 w' H N'):TFl w0 H g q t bm bk bh bd vm l vk ks vh mv hs vu row N' w' :=
 ⟨a.hg,a.gq,a.z0,(hg.block q (j0a a.box) (fun e=>hq e.symm)).trans a.box,(hg.block g (j0a a.bg) (fun e=>a0 e.symm)).trans a.bg,a.m.kept hg hm,a.k.kept hg hk,a.h.kept hg hh,a.rw.kept hg hr,a.u.kept hg hu,a.ap,a.au,a.uk,hD⟩
theorem TFl.drew (a:TFl w0 H g q t bm bk bh bd vm l vk ks vh mv hs vu row N w) (n:Nat):TFl w0 H g q t bm bk bh bd vm l vk ks vh mv hs vu row N (w.drewN n) :=
 a.kept (j7z w n none) (by simp) (by simp) j5l j5l j5l (fun _ _=>j5l) j5l (a.dl.drewN n)
theorem TFl.drew1 (a:TFl w0 H g q t bm bk bh bd vm l vk ks vh mv hs vu row N w):TFl w0 H g q t bm bk bh bd vm l vk ks vh mv hs vu row N w.drew:=a.drew 1
theorem TFl.dealt (a:TFl w0 H g q t bm bk bh bd vm l vk ks vh mv hs vu row N w) (hd:Dealt w w' H N'):TFl w0 H g q t bm bk bh bd vm l vk ks vh mv hs vu row N' w':=by
 have h1:=a.hg;have h2:=a.gq;have key:∀ v:Value,(∀ k,v.ownBlock=some k->g+1<=k∧k<w.heap.size)->v.ownBlock=none∨v.ownBlock≠some H:=fun v h=>.inr fun e=>by have:=(h H e).1;omega
 exact a.kept hd.gr (fun e=>by cases e;omega) (fun e=>by cases e;omega) (key _ a.m.lt) (key _ a.k.lt) (key _ a.h.lt) (fun x hx=>key _ (a.rw.ltv hx)) (key _ a.u.lt) (a.dl.trans hd)
theorem TFl.mono (a:TFl w0 H g q t bm bk bh bd vm l vk ks vh mv hs vu row N w) (hN:N<=N'):TFl w0 H g q t bm bk bh bd vm l vk ks vh mv hs vu row N' w :=
 ⟨a.hg,a.gq,a.z0,a.box,a.bg,a.m,a.k,a.h,a.rw,a.u,a.ap,a.au,a.uk,a.dl.mono hN⟩
theorem TFl.setq (a:TFl w0 H g q t bm bk bh bd vm l vk ks vh mv hs vu row N w) (i:Nat) (x:Value) {a0 a1 a3 a2:Value} (hb:(w.setCell ⟨q,i,none⟩ x).heap[q]?=some (boxO t a0 a1 a3 a2)) :
 TFl w0 H g q t a0 a1 a3 a2 vm l vk ks vh mv hs vu row N (w.setCell ⟨q,i,none⟩ x):=by
 have h1:=a.hg;have h2:=a.gq;have h3:=a.z0;have hg:=j0l w q i x;exact⟨a.hg,a.gq,a.z0,hb,(hg.block g (j0a a.bg) (fun e=>by cases e;omega)).trans a.bg,a.m.kept hg (.inr (a.m.ne' a.box (by decide))),a.k.kept hg (.inr (a.k.ne' a.box (by decide))),a.h.kept hg (.inr (a.h.ne' a.box (by decide))),a.rw.kept hg (fun x hx=>.inr (a.rw.ne hx a.box (by decide))),
  a.u.kept hg (.inr (a.u.ne' a.box (by decide))),a.ap,a.au,a.uk,a.dl.set (by show H<q;omega) (by show w0.heap.size<=q;omega) x⟩
theorem TFl.set2 (a:TFl w0 H g q t bm bk bh bd vm l vk ks vh mv hs vu row N w) (x:Value):TFl w0 H g q t bm x bh bd vm l vk ks vh mv hs vu row N (w.setCell ⟨q,2,none⟩ x):=a.setq 2 x ((j0g a.box).trans rfl)
theorem TFl.set3 (a:TFl w0 H g q t bm bk bh bd vm l vk ks vh mv hs vu row N w) (x:Value):TFl w0 H g q t bm bk x bd vm l vk ks vh mv hs vu row N (w.setCell ⟨q,3,none⟩ x):=a.setq 3 x ((j0g a.box).trans rfl)
theorem TFl.rowIn (a:TFl w0 H g q t bm bk bh bd vm l vk ks vh mv hs (.slice none 0 0) [] N w) (hd:Dealt w w' H N') (hu:OwnI w' w.heap.size vu row):TFl w0 H g q t bm bk bh bd vm l vk ks vh mv hs vu row N' w':=by
 have b:=a.dealt hd;have hz:g+1<=w.heap.size:=by have:=j0a a.bg;omega
 exact⟨b.hg,b.gq,b.z0,b.box,b.bg,b.m,b.k,b.h,b.rw,hu.mono hz,b.ap,fun x hx k e e'=>by have:=(a.rw.ltv hx k e).2;have:=(hu.lt k e').1;omega,fun k e e'=>by have:=(hu.lt k e).1;have:=(a.k.lt k e').2;omega,b.dl⟩
end
def EndZ (w:World) (base z:Nat) (v:Value) (ls:List (List Int)):Prop :=
 ∃ mv,Own eVal 25 1 w base v mv∧Rws w base mv ls∧mv.Pairwise j1y∧(∀ x∈mv,∀ k,x.ownBlock=some k->k<z)∧∀ k,v.ownBlock=some k->k<z
section
variable {w w':World} {base z:Nat} {v:Value} {ls:List (List Int)}
theorem EndG.toZ (h:EndG w base v ls):EndZ w base w.heap.size v ls:=by
 obtain⟨mv,h1,h2,h3⟩:=h;exact⟨mv,h1,h2,h3,fun x hx k e=>(h2.ltv hx k e).2,fun k e=>(h1.lt k e).2⟩
theorem EndZ.g (h:EndZ w base z v ls):EndG w base v ls:=by
 obtain⟨mv,h1,h2,h3,_⟩:=h;exact⟨mv,h1,h2,h3⟩
theorem EndZ.kept {r:Option Nat} (h:EndZ w base z v ls) (hg:w.grownBy w' r) (hr:∀ k,r=some k->k<base∨z<=k):EndZ w' base z v ls:=by
 obtain⟨mv,h1,h2,h3,h4,h5⟩:=h;have key:∀ x:Value,(∀ k,x.ownBlock=some k->base<=k)->(∀ k,x.ownBlock=some k->k<z)->x.ownBlock=none∨x.ownBlock≠r:=fun x a b=>by
  cases e:x.ownBlock with
  | none=>exact .inl rfl
  | some k=>exact .inr fun e'=>by have:=a k e;have:=b k e;have:=hr k e'.symm;omega
 exact⟨mv,h1.kept hg (key _ (fun k e=>(h1.lt k e).1) h5),h2.kept hg (fun x hx=>key _ (fun k e=>(h2.ltv hx k e).1) (h4 x hx)),h3,h4,h5⟩
theorem EndZ.at {f o:Nat} (h:EndZ w base z v ls) (hf:f<ls.length) (hr:o<(ls.getD f []).length) :
 ∃ b off c g cg,v=.slice (some ⟨b,off,none⟩) ls.length c∧w.cell? ⟨b,off+f,none⟩=some (.slice (some ⟨g,0,none⟩) (ls.getD f []).length cg)∧(ls.getD f []).length<=cg∧cg<=maxLen ∧
  base<=g∧g<z∧g<w.heap.size∧b≠g∧w.cell? ⟨g,o,none⟩=some (.int .i64 ((ls.getD f []).getD o 0))∧w.frozen? ⟨g,o,none⟩=false ∧
  ∀ x,EndZ (w.setCell ⟨g,o,none⟩ (.int .i64 x)) base z v (ls.set f ((ls.getD f []).set o x)):=by
 obtain⟨mv,h1,⟨h2,h3⟩,h4,h6,h7⟩:=h;have a1:f<mv.length:=by omega
 obtain⟨row,a6,a3⟩:=h3 f mv[f] (zB5 a1);have hg:ls.getD f []=row:=by rw[zB3,a6];rfl
 rw[hg] at hr ⊢;obtain⟨A,c,hv,hs,hc,hm⟩:=h1.form j2t;obtain⟨b,off,x,hA,hb,hx,a4⟩:=Vals.get (hs) a1;have af:x=mv[f]:=by rw[zB5 a1] at hx;exact(Option.some.inj hx).symm
 subst af;obtain⟨A',c',a2,am,a9,ae⟩:=a3.form j0n;obtain⟨g,ag,ak,ah,ad,aj,an⟩:=Own.put1 (a2 ▸ a3) hr 0;subst hA ag;have a0:mv[f].ownBlock=some g:=by rw[a2];rcases a3.2 with ⟨e,_⟩|⟨g',cap,cur,e,_⟩<;>rw[a2] at e<;>cases e;rfl
 have ac:b≠g:=fun e=>by
  subst e;rcases j0y a3 h1 (by decide) with e|e
  ·rw[a0] at e;cases e
  ·exact e (by rw[a0,hv];rcases h1.2 with ⟨e,_⟩|⟨g',cap,cur,e,_⟩<;>rw[hv] at e<;>cases e;rfl)
 refine⟨b,off,c,g,c',by rw[hv,h2],by rw[a4,a2],a9,ae,ak,h6 _ (List.getElem_mem a1) g a0,ah,ac,ad,aj,fun y=>?_⟩
 have a8:=j0l w g o (.int .i64 y);refine⟨mv,h1.kept a8 ?_,⟨by rw[List.length_set];exact h2,fun i u hu=>?_⟩,h4,h6,h7⟩
 ·rcases j0y a3 h1 (by decide) with e|e
  ·rw[a0] at e;cases e
  ·exact .inr fun e'=>e (a0.trans e'.symm)
 ·by_cases hif:f=i
  ·subst hif;have a5:u=mv[f]:=by rw[zB5 a1] at hu;exact(Option.some.inj hu).symm
   subst a5;refine⟨row.set o y,by rw[List.getElem?_set_self hf],?_⟩
   obtain⟨g',e,_,_,_,_,k⟩:=Own.put1 (a2 ▸ a3) hr y;cases e;rw[a2];exact k
  ·obtain⟨l',aa,ai⟩:=h3 i u hu;refine⟨l',by rw[List.getElem?_set_ne hif];exact aa,ai.kept a8 ?_⟩
   right
   intro e;have a7:i<mv.length:=(List.getElem?_eq_some_iff.1 hu).1;have a5:mv[i]=u:=by rw[zB5 a7] at hu;exact Option.some.inj hu
   rcases Nat.lt_or_gt_of_ne hif with h|h
   ·exact(List.pairwise_iff_getElem.1 h4 f i a1 a7 h) g a0 (by rw[a5];exact e)
   ·exact(List.pairwise_iff_getElem.1 h4 i f a7 a1 h) g (by rw[a5];exact e) a0
end
structure TDe (w0 w1:World) (H q:Nat) (t:Int) (vm vk vh bd vd:Value) (ds:List De) (vE:Value) (gs:List (List Int)) (vG:Value) (gone:List Int) (vW:Value) (whose:List Int) (ze1 ze2 zg1 zg2 z3 zr N:Nat) (w:World):Prop where
 h1:w0.heap.size<=q∧q<w1.heap.size∧H<w0.heap.size
 zz:(w1.heap.size<=ze1∧ze2<=z3∧w1.heap.size<=zg1∧zg2<=z3∧w1.heap.size<=z3∧(ze2<=zg1∨zg2<=ze1))∧z3<=zr∧zr<=w.heap.size
 fz:∀ j,j<w1.heap.size->j≠H->j≠q->w.heap[j]?=w1.heap[j]?
 box:w.heap[q]?=some (boxO t vm vk vh bd)
 d:OwnD w z3 vd ds
 e:EndZ w ze1 ze2 vE gs
 g:OwnI w zg1 vG gone
 gb:∀ k,vG.ownBlock=some k->k<zg2
 o:OwnI w z3 vW whose
 ob:∀ k,vW.ownBlock=some k->k<zr
 db:∀ k,vd.ownBlock=some k->k<zr
 dl:Dealt w0 w H N
section
variable {w0 w1 w w':World} {H q N N' ze1 ze2 zg1 zg2 z3 zr zr':Nat} {t:Int} {vm vk vh bd vd vE vG vW v':Value} {ds ds':List De} {gs:List (List Int)} {gone whose whose':List Int}
theorem TDe.kept {r:Option Nat} (a:TDe w0 w1 H q t vm vk vh bd vd ds vE gs vG gone vW whose ze1 ze2 zg1 zg2 z3 zr N w) (hg:w.grownBy w' r) (hr:∀ k,r=some k->k=H∨zr<=k) (hD:Dealt w0 w' H N'):TDe w0 w1 H q t vm vk vh bd vd ds vE gs vG gone vW whose ze1 ze2 zg1 zg2 z3 zr N' w':=by
 obtain⟨a1,a2,a3⟩:=a.h1;obtain⟨⟨c1,c2,c3,c4,c5,c6⟩,b3,b4⟩:=a.zz;have key:∀ x:Value,(∀ k,x.ownBlock=some k->w1.heap.size<=k∧k<zr)->x.ownBlock=none∨x.ownBlock≠r:=fun x h=>by
  cases e:x.ownBlock with
  | none=>exact .inl rfl
  | some k=>exact .inr fun e'=>by have:=h k e;have:=hr k e'.symm;omega
 refine⟨a.h1,⟨⟨c1,c2,c3,c4,c5,c6⟩,b3,zB6 b4 hg.size⟩,fun j hj h1 h2=>(hg.block j (by omega) (fun e=>by have:=hr j e.symm;omega)).trans (a.fz j hj h1 h2),(hg.block q (j0a a.box) (fun e=>by have:=hr q e.symm;omega)).trans a.box,
  a.d.kept hg (key _ fun k e=>⟨by have:=(a.d.lt k e).1;omega,a.db k e⟩),a.e.kept hg fun k e=>by have:=hr k e;omega,a.g.kept hg (key _ fun k e=>⟨by have:=(a.g.lt k e).1;omega,by have:=a.gb k e;omega⟩),a.gb,
  a.o.kept hg (key _ fun k e=>⟨by have:=(a.o.lt k e).1;omega,a.ob k e⟩),a.ob,a.db,hD⟩
theorem TDe.alloc (a:TDe w0 w1 H q t vm vk vh bd vd ds vE gs vG gone vW whose ze1 ze2 zg1 zg2 z3 zr N w) (o:Obj):TDe w0 w1 H q t vm vk vh bd vd ds vE gs vG gone vW whose ze1 ze2 zg1 zg2 z3 zr N (w.alloc o):=a.kept (World.grownBy_alloc w o none) (by simp) (a.dl.alloc o)
theorem TDe.drew (a:TDe w0 w1 H q t vm vk vh bd vd ds vE gs vG gone vW whose ze1 ze2 zg1 zg2 z3 zr N w) (n:Nat):TDe w0 w1 H q t vm vk vh bd vd ds vE gs vG gone vW whose ze1 ze2 zg1 zg2 z3 zr N (w.drewN n):=a.kept (j7z w n none) (by simp) (a.dl.drewN n)
theorem TDe.drew1 (a:TDe w0 w1 H q t vm vk vh bd vd ds vE gs vG gone vW whose ze1 ze2 zg1 zg2 z3 zr N w):TDe w0 w1 H q t vm vk vh bd vd ds vE gs vG gone vW whose ze1 ze2 zg1 zg2 z3 zr N w.drew:=a.drew 1
theorem TDe.dealt (a:TDe w0 w1 H q t vm vk vh bd vd ds vE gs vG gone vW whose ze1 ze2 zg1 zg2 z3 zr N w) (hd:Dealt w w' H N'):TDe w0 w1 H q t vm vk vh bd vd ds vE gs vG gone vW whose ze1 ze2 zg1 zg2 z3 zr N' w':=a.kept hd.gr (fun k e=>.inl (by cases e;rfl)) (a.dl.trans hd)
theorem TDe.far (a:TDe w0 w1 H q t vm vk vh bd vd ds vE gs vG gone vW whose ze1 ze2 zg1 zg2 z3 zr N w) {k:Nat} (hk:zr<=k) (i:Nat) (x:Value):TDe w0 w1 H q t vm vk vh bd vd ds vE gs vG gone vW whose ze1 ze2 zg1 zg2 z3 zr N (w.setCell ⟨k,i,none⟩ x):=by
 obtain⟨a1,a2,a3⟩:=a.h1;obtain⟨⟨c1,c2,c3,c4,c5,c6⟩,b3,b4⟩:=a.zz;exact a.kept (j0l w k i x) (fun j e=>.inr (by cases e;exact hk)) (a.dl.set (by show H<k;omega) (by show w0.heap.size<=k;omega) x)
theorem TDe.mono (a:TDe w0 w1 H q t vm vk vh bd vd ds vE gs vG gone vW whose ze1 ze2 zg1 zg2 z3 zr N w) (hN:N<=N'):TDe w0 w1 H q t vm vk vh bd vd ds vE gs vG gone vW whose ze1 ze2 zg1 zg2 z3 zr N' w:=⟨a.h1,a.zz,a.fz,a.box,a.d,a.e,a.g,a.gb,a.o,a.ob,a.db,a.dl.mono hN⟩
theorem TDe.at (a:TDe w0 w1 H q t vm vk vh bd vd ds vE gs vG gone vW whose ze1 ze2 zg1 zg2 z3 zr N w) {f o:Nat} (hf:f<gs.length) (ho:o<(gs.getD f []).length) :
 ∃ b off c g cg,vE=.slice (some ⟨b,off,none⟩) gs.length c∧w.cell? ⟨b,off+f,none⟩=some (.slice (some ⟨g,0,none⟩) (gs.getD f []).length cg)∧(gs.getD f []).length<=cg∧cg<=maxLen ∧
  w.cell? ⟨g,o,none⟩=some (.int .i64 (getG gs f o))∧w.frozen? ⟨g,o,none⟩=false∧g<zr∧b≠g ∧
  ∀ x,TDe w0 w1 H q t vm vk vh bd vd ds vE (gs.set f ((gs.getD f []).set o x)) vG gone vW whose ze1 ze2 zg1 zg2 z3 zr N (w.setCell ⟨g,o,none⟩ (.int .i64 x)):=by
 obtain⟨a1,a2,a3⟩:=a.h1;obtain⟨⟨c1,c2,c3,c4,c5,c6⟩,b3,b4⟩:=a.zz;obtain⟨b,off,c,g,cg,e1,e2,e3,e4,e5,e6,e7,a0,e8,e9,a4⟩:=a.e.at hf ho;refine⟨b,off,c,g,cg,e1,e2,e3,e4,e8,e9,by omega,a0,fun x=>?_⟩
 have hg:=j0l w g o (.int .i64 x);have key:∀ y:Value,(∀ k,y.ownBlock=some k->ze2<=k∨k<ze1)->y.ownBlock=none∨y.ownBlock≠some g:=fun y h=>.inr fun e=>by have:=h g e;omega
 exact⟨a.h1,⟨⟨c1,c2,c3,c4,c5,c6⟩,b3,zB6 b4 hg.size⟩,fun j hj h1 h2=>(hg.block j (by omega) (fun e=>by cases e;omega)).trans (a.fz j hj h1 h2),(hg.block q (j0a a.box) (fun e=>by cases e;omega)).trans a.box,
  a.d.kept hg (key _ fun k e=>by have:=(a.d.lt k e).1;omega),a4 x,a.g.kept hg (key _ fun k e=>by have:=(a.g.lt k e).1;have:=a.gb k e;omega),a.gb,a.o.kept hg (key _ fun k e=>by have:=(a.o.lt k e).1;omega),a.ob,a.db,a.dl.set (by show H<g;omega) (by show w0.heap.size<=g;omega) _⟩
theorem TDe.grid {Ae:Option Addr} {n ce:Nat} (a:TDe w0 w1 H q t vm vk vh bd vd ds (.slice Ae n ce) gs vG gone vW whose ze1 ze2 zg1 zg2 z3 zr N w):Grid w Ae n gs∧n<=ce∧ce<=maxLen∧gs.length=n:=by
 obtain⟨A,c,e,h1,h2,h3⟩:=a.e.g.ownG.form;cases e;exact⟨h1,h2,h3,rfl⟩
theorem TDe.place {n nf:Nat} (a:TDe w0 w1 H q t vm vk vh bd vd ds vE gs vG gone vW whose ze1 ze2 zg1 zg2 z3 zr N w) (hs:GSh n nf gs) (hn:0<n) (hf:0<nf):∃ be off ce,vE=.slice (some ⟨be,off,none⟩) nf ce:=by
 obtain⟨b,off,c,g,cg,e1,-⟩:=a.at (f:=0) (o:=0) (by rw[hs.l];exact hf) (by rw[hs.row hf];exact hn)
 exact⟨b,off,c,by rw[e1,hs.l]⟩
theorem TDe.atG {A:Option Addr} {n c:Nat} (a:TDe w0 w1 H q t vm vk vh bd vd ds vE gs (.slice A n c) gone vW whose ze1 ze2 zg1 zg2 z3 zr N w) {o:Nat} (ho:o<gone.length) :
 ∃ g,A=some ⟨g,0,none⟩∧w.cell? ⟨g,o,none⟩=some (.int .i64 (gone.getD o 0))∧w.frozen? ⟨g,o,none⟩=false∧g<zr ∧
  ∀ x,TDe w0 w1 H q t vm vk vh bd vd ds vE gs (.slice A n c) (gone.set o x) vW whose ze1 ze2 zg1 zg2 z3 zr N (w.setCell ⟨g,o,none⟩ (.int .i64 x)):=by
 obtain⟨a1,a2,a3⟩:=a.h1;obtain⟨⟨c1,c2,c3,c4,c5,c6⟩,b3,b4⟩:=a.zz;obtain⟨g,rfl,e2,e3,e4,e5,-⟩:=a.g.put1 ho 0;have a0:g<zg2:=a.gb g (by
  rcases a.g.2 with ⟨e,_⟩|⟨g',cap,cur,e,_⟩
  ·cases e
  ·cases e;rfl)
 refine⟨g,rfl,e4,e5,by omega,fun x=>?_⟩
 obtain⟨g',e,-,-,-,-,hx⟩:=a.g.put1 ho x;cases e;have hg:=j0l w g o (.int .i64 x);have key:∀ y:Value,(∀ k,y.ownBlock=some k->z3<=k)->y.ownBlock=none∨y.ownBlock≠some g:=fun y h=>.inr fun e=>by have:=h g e;omega
 exact⟨a.h1,⟨⟨c1,c2,c3,c4,c5,c6⟩,b3,zB6 b4 hg.size⟩,fun j hj h1 h2=>(hg.block j (by omega) (fun e=>by cases e;omega)).trans (a.fz j hj h1 h2),(hg.block q (j0a a.box) (fun e=>by cases e;omega)).trans a.box,
  a.d.kept hg (key _ fun k e=>(a.d.lt k e).1),a.e.kept hg (fun k e=>by cases e;omega),hx,a.gb,a.o.kept hg (key _ fun k e=>(a.o.lt k e).1),a.ob,a.db,a.dl.set (by show H<g;omega) (by show w0.heap.size<=g;omega) _⟩
theorem TDe.appO {n' c' g':Nat} (a:TDe w0 w1 H q t vm vk vh bd vd ds vE gs vG gone vW whose ze1 ze2 zg1 zg2 z3 zr N w) (hg:w.grownBy w' vW.ownBlock) (hk:OwnI w' z3 (.slice (some ⟨g',0,none⟩) n' c') whose') :
 TDe w0 w1 H q t vm vk vh bd vd ds vE gs vG gone (.slice (some ⟨g',0,none⟩) n' c') whose' ze1 ze2 zg1 zg2 z3 w'.heap.size N w':=by
 obtain⟨a1,a2,a3⟩:=a.h1;obtain⟨⟨c1,c2,c3,c4,c5,c6⟩,b3,b4⟩:=a.zz;have hz:=hg.size;have key:∀ y:Value,(∀ k,y.ownBlock=some k->k<z3)->y.ownBlock=none∨y.ownBlock≠vW.ownBlock:=fun y h=>by
  cases e:y.ownBlock with
  | none=>exact .inl rfl
  | some k=>exact .inr fun e'=>by have:=h k e;have:=(a.o.lt k e'.symm).1;omega
 exact⟨a.h1,⟨⟨c1,c2,c3,c4,c5,c6⟩,by omega,zL9 _⟩,fun j hj h1 h2=>(hg.block j (by omega) (fun e=>by have:=(a.o.lt j e.symm).1;omega)).trans (a.fz j hj h1 h2),(hg.block q (j0a a.box) (fun e=>by have:=(a.o.lt q e.symm).1;omega)).trans a.box,
  a.d.kept hg (j0y a.d a.o (by decide)),a.e.kept hg (fun k e=>by have:=(a.o.lt k e).1;omega),a.g.kept hg (key _ fun k e=>by have:=a.gb k e;omega),a.gb,hk,fun k e=>(hk.lt k e).2,fun k e=>by have:=a.db k e;omega,a.dl.ownG hg fun k e=>by have:=(a.o.lt k e).1;omega⟩
theorem TDe.appD {n' c' g':Nat} (a:TDe w0 w1 H q t vm vk vh bd vd ds vE gs vG gone vW whose ze1 ze2 zg1 zg2 z3 zr N w) (hg:w.grownBy w' vd.ownBlock) (hk:OwnD w' z3 (.slice (some ⟨g',0,none⟩) n' c') ds') :
 TDe w0 w1 H q t vm vk vh bd (.slice (some ⟨g',0,none⟩) n' c') ds' vE gs vG gone vW whose ze1 ze2 zg1 zg2 z3 w'.heap.size N w':=by
 obtain⟨a1,a2,a3⟩:=a.h1;obtain⟨⟨c1,c2,c3,c4,c5,c6⟩,b3,b4⟩:=a.zz;have hz:=hg.size;have key:∀ y:Value,(∀ k,y.ownBlock=some k->k<z3)->y.ownBlock=none∨y.ownBlock≠vd.ownBlock:=fun y h=>by
  cases e:y.ownBlock with
  | none=>exact .inl rfl
  | some k=>exact .inr fun e'=>by have:=h k e;have:=(a.d.lt k e'.symm).1;omega
 exact⟨a.h1,⟨⟨c1,c2,c3,c4,c5,c6⟩,by omega,zL9 _⟩,fun j hj h1 h2=>(hg.block j (by omega) (fun e=>by have:=(a.d.lt j e.symm).1;omega)).trans (a.fz j hj h1 h2),(hg.block q (j0a a.box) (fun e=>by have:=(a.d.lt q e.symm).1;omega)).trans a.box,
  hk,a.e.kept hg (fun k e=>by have:=(a.d.lt k e).1;omega),a.g.kept hg (key _ fun k e=>by have:=a.gb k e;omega),a.gb,
  a.o.kept hg (j0y a.o a.d (by decide)),fun k e=>by have:=a.ob k e;omega,fun k e=>(hk.lt k e).2,a.dl.ownG hg fun k e=>by have:=(a.d.lt k e).1;omega⟩
theorem TDe.set4 (a:TDe w0 w1 H q t vm vk vh bd vd ds vE gs vG gone vW whose ze1 ze2 zg1 zg2 z3 zr N w) (x:Value):TDe w0 w1 H q t vm vk vh x vd ds vE gs vG gone vW whose ze1 ze2 zg1 zg2 z3 zr N (w.setCell ⟨q,4,none⟩ x):=by
 obtain⟨a1,a2,a3⟩:=a.h1;obtain⟨⟨c1,c2,c3,c4,c5,c6⟩,b3,b4⟩:=a.zz;have hs:=j0l w q 4 x;have a0:∀ y:Value,(∀ k,y.ownBlock=some k->w1.heap.size<=k)->y.ownBlock=none∨y.ownBlock≠some q:=fun y h=>.inr fun e=>by have:=h q e;omega
 exact⟨a.h1,⟨⟨c1,c2,c3,c4,c5,c6⟩,b3,zB6 b4 hs.size⟩,fun j hj h1 h2=>(hs.block j (by omega) (fun e=>by cases e;omega)).trans (a.fz j hj h1 h2),(j0g a.box).trans rfl,
  a.d.kept hs (a0 _ fun k e=>by have:=(a.d.lt k e).1;omega),a.e.kept hs (fun k e=>by cases e;omega),a.g.kept hs (a0 _ fun k e=>by have:=(a.g.lt k e).1;omega),a.gb,
  a.o.kept hs (a0 _ fun k e=>by have:=(a.o.lt k e).1;omega),a.ob,a.db,a.dl.set (by show H<q;omega) (by show w0.heap.size<=q;omega) _⟩
theorem TDe.old {α:Type} {enc:α->List Value} {e:TypeId} {sz:Nat} {v:Value} {l:List α} {g:Nat} (a:TDe w0 w1 H q t vm vk vh bd vd ds vE gs vG gone vW whose ze1 ze2 zg1 zg2 z3 zr N w) (a6:w0.heap.size<=g)
 (a0:∃ o,w1.heap[q]?=some (Obj.cells o 29 (0,0))) (a5:e≠29) (h:Own enc e sz w1 (g+1) v l):Own enc e sz w (g+1) v l:=by
 obtain⟨a1,a2,a3⟩:=a.h1;obtain⟨ob,a0⟩:=a0;refine⟨h.1,?_⟩;have a4:=h.lt;rcases h.2 with h2|⟨k,cap,cur,hv,hg,hh,r⟩
 ·exact .inl h2
 ·have h3:=a4 k (by rw[hv];rfl)
  refine .inr ⟨k,cap,cur,hv,hg,(a.fz k h3.2 (by omega) (fun e=>?_)).trans hh,r⟩
  subst e;rw[hh] at a0;cases a0;exact a5 rfl
theorem TDe.end (a:TDe w0 w1 H q t vm vk vh bd vd ds vE gs vG gone vW whose ze1 ze2 zg1 zg2 z3 zr N w) {g:Nat} {l:List Mk} {ks:List Int} {hs:List (List Int)} (a7:w0.heap.size<=g)
 (hm:OwnM w1 (g+1) vm l) (hk:OwnI w1 (g+1) vk ks) (hh:OwnG w1 (g+1) vh hs) (a4:∃ o,w1.heap[q]?=some (Obj.cells o 29 (0,0))) :
 OwnM w w0.heap.size vm l∧OwnI w w0.heap.size vk ks∧OwnG w w0.heap.size vh hs∧OwnD w w0.heap.size vd ds∧EndG w w0.heap.size vE gs∧OwnI w w0.heap.size vG gone∧OwnI w w0.heap.size vW whose:=by
 obtain⟨a1,a2,a3⟩:=a.h1;obtain⟨⟨c1,c2,c3,c4,c5,c6⟩,b3,b4⟩:=a.zz;obtain⟨ob,a4⟩:=a4;have step:∀ {α:Type} {enc:α->List Value} {e:TypeId} {sz:Nat} {v:Value} {l:List α},e≠29->Own enc e sz w1 (g+1) v l->Own enc e sz w (g+1) v l:=fun {α enc e sz v l} hne h=>by
  refine⟨h.1,?_⟩;have a5:=h.lt;rcases h.2 with h2|⟨k,cap,cur,hv,hg,hh,r⟩
  ·exact .inl h2
  ·have h3:=a5 k (by rw[hv];rfl)
   refine .inr ⟨k,cap,cur,hv,hg,(a.fz k h3.2 (by omega) (fun e=>?_)).trans hh,r⟩
   subst e;rw[hh] at a4;cases a4;exact hne rfl
 obtain⟨mv,h1,h2⟩:=hh;refine⟨(step (by decide) hm).mono (by omega),(step (by decide) hk).mono (by omega),⟨mv,(step (by decide) h1).mono (by omega),h2.1,fun i v hv=>?_⟩,a.d.mono (by omega),a.e.g.mono (by omega),a.g.mono (by omega),a.o.mono (by omega)⟩
 obtain⟨l',a6,ho⟩:=h2.2 i v hv;exact⟨l',a6,(step (by decide) ho).mono (by omega)⟩
end
end Go.Proofs.YtmennjmjakdkcaaGreat
