/- HerdParts. -/
import Derived.Test.YtmennjmjakdkcaaGreatPt32
import Derived.Test.YtmennjmjakdkcaaGreatPt28
import Derived.Test.YtmennjmjakdkcaaGreatPt11
set_option linter.unusedVariables false
set_option linter.unusedSimpArgs false
set_option maxRecDepth 100000
set_option maxHeartbeats 8000000
namespace Go.Proofs.YtmennjmjakdkcaaGreat
open Go.RowKit
theorem Grid.zz {w:World} {A:Option Addr} {n:Nat} {ls:Gr} (h:Grid w A n ls) (hp:∀ r∈ls,0<r.length):j1d w A n ls:=by
 obtain⟨mv,h1,h2,h3⟩:=h;refine⟨mv,h1,h2,fun i v hv=>?_⟩
 obtain⟨B,l,c,a1,a2,a3,a4,a5⟩:=h3 i v hv;refine⟨B,l,c,a1,a2,a3,a4,a5,fun hB=>?_⟩
 obtain⟨b,o,x,e,-⟩:=Ints.get a3 (hp l (zB4 a1));rw[hB] at e;cases e
theorem OwnGG.get2 {z n nf:Nat} {v:Value} {E:List Gr} {w:World} (h:OwnGG z n nf v E w) {k:Nat} (hk:k<E.length) :
 ∃ b off cap A c g,v=.slice (some ⟨b,off,none⟩) E.length cap∧E.length<=cap∧cap<=maxLen∧E[k]?=some g∧w.cell? ⟨b,off+k,none⟩=some (.slice A nf c)∧nf<=c∧c<=maxLen∧∀ w',Below w.heap.size w w'->j1d w' A nf g:=by
 obtain⟨mv,h1,h2,h3⟩:=h.own;obtain⟨A0,c0,hv,hs,hc,hm⟩:=h1.form j2t;rw[h2] at hs hv hc;obtain⟨b,off,x,hA,hb,hx,a0⟩:=Vals.get hs hk;obtain⟨A,c,a1,a2,a3,a4⟩:=h3 k x E[k] hx (zB5 hk);subst hA a1;exact⟨b,off,c0,A,c,E[k],hv,hc,hm,zB5 hk,a0,a2,a3,fun w' hb=>a4 w' (j3o hb)⟩
theorem OwnGG.one {z n nf:Nat} {w:World} {A:Option Addr} {c:Nat} {g:Gr} (hz:z<=w.heap.size) (hg:∀ w',Below w.heap.size w w'->j1d w' A nf g) (a0:GSh n nf g) (hc:nf<=c∧c<=maxLen) :
 OwnGG z n nf (.slice (some ⟨w.heap.size,0,none⟩) 1 1) [g] (w.alloc (Obj.cells #[.slice A nf c] 26)):=by
 refine⟨⟨[.slice A nf c],?_,rfl,fun i u g' hu hg'=>?_⟩,fun g' hg'=>?_,?_⟩
 ·have:=Own.lit (enc:=eVal) (e:=26) (sz:=1) w z #[Value.slice A nf c] [Value.slice A nf c] rfl j2t hz (by show 1<=maxLen;decide)
  simpa using this
 ·cases i with
  | zero =>
    cases hu;cases hg';refine⟨A,c,rfl,hc.1,hc.2,fun w' hgr=>hg w' ⟨hgr.os,hgr.tape,hgr.output,zB6 (by simp) hgr.size,fun j hj=>?_⟩⟩
    rw[hgr.block j (by simp;omega) (fun e=>by simp[Value.ownBlock] at e;omega)]
    exact Below.heap_alloc _ _ _ hj
  | succ i=>simp at hu
 ·rw[List.mem_singleton.1 hg'];exact a0
 ·simp;omega
theorem q3s (b:Hb) (a0:HeOk b.t b.l b.ks b.hs b.ds) (deed owner:Int) (ho:0<=deed->0<=owner) (w:World) (hin:HbIn w b) :
 Calls Tryz.prog 103 #[b.v,.int .i64 deed,.int .i64 owner] w fun e w'=>(∃ v,e=.returned v∧OwnGG w.heap.size b.l.length b.ks.length v (j7f b.t b.l b.hs b.ds deed owner) w')∧Below w.heap.size w w':=by
 obtain⟨V,hV⟩:∃ V,V=w.alloc b.obj:=⟨_,rfl⟩;obtain⟨p,hp⟩:∃ p,p=w.heap.size:=⟨_,rfl⟩;have b0:V.heap[p]?=some b.obj:=by rw[hV,hp];exact j0c rfl
 have a6:Below w.heap.size w V:=by rw[hV];exact bal0 w _
 have aB:=hin.below a6 (zL9 _);obtain⟨c0,c1,c2,c3,c4⟩:=j0h b0;have a8:∀ w',Below V.heap.size V w'->j1d w' b.Ah b.ks.length b.hs:=fun w' hb=>by
  have h1:=(aB.h.below hb (zL9 _)).zz (fun r hr=>by rw[a0.rl r hr];exact a0.n0)
  rwa [a0.hl] at h1
 obtain⟨w1,aa⟩:∃ W,W=V.alloc (Obj.cells #[.slice b.Ah b.hs.length b.ch] 26):=⟨_,rfl⟩;have a3:OwnGG w.heap.size b.l.length b.ks.length (.slice (some ⟨V.heap.size,0,none⟩) 1 1) (j1v b.t b.l deed owner b.ds b.hs 0) w1:=by
  rw[aa,a0.hl];exact OwnGG.one a6.size a8 ⟨a0.hl,a0.rl⟩ ⟨by rw[<-a0.hl];exact hin.hc,hin.hm⟩
 have am:Below w.heap.size w w1:=by rw[aa];exact a6.trans ((bal0 V _).mono a6.size)
 have b1:w1.heap[p]?=some b.obj:=by rw[aa];exact j0b b0 _
 have av:=hin.below am (zL9 _);obtain⟨vg,af⟩:∃ vg,vg=V.heap.size:=⟨_,rfl⟩;rw[<-af] at a3;have HX:=zQ9 (zA9 a3 (zA9 am (zA9 b1 (zA9 av (zA9 a0 ho)))));have bf:=a0.d6;clear a3 am b1 av a0 ho hin a6 aB a8 b0;unfold Hb.v;go_enter Tryz.func103,Tryz.ntmps103
 go_upto_region 1 with (fail)
 rw[<-hV,<-hp];clear hV hp;go_upto_region 2 with (fail)
 rw[<-aa,<-af];have ba:=HX.o.2.1.size;clear aa af c0 c1 c2 c3 c4;go_upto_region 3 with (fail)
 go_loopg [7,8,9,10,11] b.ds.length (fun gh v7 v8 _ _ _ wr=>∃ i:Nat,i+gh=b.ds.length∧v8=.int .i64 i∧OwnGG w.heap.size b.l.length b.ks.length v7 (j1v b.t b.l deed owner b.ds b.hs i) wr∧Below w1.heap.size w1 wr)
 case atStart=>exact⟨0,by omega,rfl,HX.o.1,zB2 _ _⟩
 case round =>
  obtain⟨i,hi,rfl,hE,hb⟩:=hrel;obtain⟨g1,rfl⟩:∃ g1:Nat,g1=gk:=⟨_,rfl⟩;obtain⟨w2,aq⟩:∃ W:World,W=wr:=⟨_,rfl⟩;rw[<-aq] at hE hb ⊢;clear aq;have a7:=j0e HX.o.2.2.1 hb (zL9 _);have ah:=HX.o.2.2.2.1.below hb (zL9 _);obtain⟨c0,c1,c2,c3,c4⟩:=j0h a7;have aF:=j0a a7;by_cases hlt:i<b.ds.length
  ·obtain⟨d,hd⟩:∃ d,b.ds[i]?=some d:=⟨_,zB5 hlt⟩;have aj:=etOk (deed:=deed) (owner:=owner) HX.o.2.2.2.2.1 i (by omega)
   obtain⟨E,ax⟩:∃ E,E=j1v b.t b.l deed owner b.ds b.hs i:=⟨_,rfl⟩;have ac:=k4d (t:=b.t) (l:=b.l) (deed:=deed) (owner:=owner) (hs:=b.hs) hd;have a9:=aj.sh;have ag:=aj.ln;rw[<-ax] at hE ac a9 ag;obtain⟨A7,c7,rfl,b9,b4⟩:=hE.form;have hM:E.length<=52521875:=zB6 ag (zB6 (Nat.pow_le_pow_right (by decide) (show i<=5 by omega)) (by decide))
   obtain⟨F,hF⟩:∃ F:List Gr->Gr->List Gr,F=fun F g=>j1i b.t b.l deed owner i d F g:=⟨_,rfl⟩
   rw[<-hF] at ac;have a1:∀ k,((E.take k).foldl F []).length<=35*k:=fun k=>by
    rw[hF];refine zB6 (k9q HX.o.2.2.2.2.1.n5 (HX.o.2.2.2.2.1.dI d (zB4 hd)) (k0f (HX.o.2.2.2.2.1.dE d (zB4 hd))) (E.take k) fun g hg=>⟨(a9 g (List.mem_of_mem_take hg)).1,(a9 g (List.mem_of_mem_take hg)).2.1⟩).2.2 ?_
    rw[List.length_take];exact Nat.mul_le_mul_left _ (Nat.min_le_left _ _)
   have i1:(i:Int)<(b.ds.length:Int):=by omega
   have HE:=zQ9 (zA9 hi (zA9 hE (zA9 hb (zA9 hd (zA9 ac (zA9 a9 (zA9 a1 (zA9 hF a7))))))));have az:=zQ9 ah;clear hi hE hb hd ac a9 a1 hF a7 aj ag ax ah;go_upto_if 24 with (fail)
   go_cut [10,25] (fun q u25 wc=>q=.int .i64 (if (i:Int)=deed then owner else -1)∧w2=wc)
   case first =>
    cases e1:((i:Int)==deed)
    all_goals
     have aC:=zQ9 e1;go_wp2_with fail
     go_meet
     refine⟨?_,rfl⟩;have:=aC.o;simp at this;simp[this]
   case rest =>
    obtain⟨rfl,rfl⟩:=hcut;obtain⟨own,a4⟩:∃ own,own=if (i:Int)=deed then owner else -1:=⟨_,rfl⟩
    rw[<-a4];have aG:=zQ9 a4;clear a4;go_upto_region 10 with (fail)
    go_loopg [9,11] E.length (fun gh v9 v11 wr=>∃ k:Nat,k+gh=E.length∧v11=.int .i64 k∧GgE w.heap.size b.l.length b.ks.length (.slice none 0 0) w2 v9 ((E.take k).foldl F []) wr)
    case atStart=>exact⟨0,by omega,rfl,GgE.refl (OwnGG.nil_ (by have:=HE.o.2.2.1.size;omega))⟩
    case round =>
     obtain⟨k,hk,rfl,hG⟩:=hrel;obtain⟨w3,ay⟩:∃ W:World,W=wr:=⟨_,rfl⟩;rw[<-ay] at hG ⊢;clear ay;have a2:Below w2.heap.size w2 w3:=j6d hG.gr;by_cases hlk:k<E.length
     ·obtain⟨b7,o7,cap,A,c,g,e7,-,-,ae,y7,hc,hm,a8⟩:=HE.o.2.1.get2 hlk;cases e7;obtain⟨G,aA⟩:∃ G,G=(E.take k).foldl F []:=⟨_,rfl⟩;have ar:=HE.o.2.2.2.2.2.2.1 k;have ak:(E.take (k+1)).foldl F []=F ((E.take k).foldl F []) g:=by rw[List.take_add_one,ae,List.foldl_append];rfl
      rw[<-aA] at hG ar ak;have hs:=HE.o.2.2.2.2.2.1 g (zB4 ae);have a5:∀ nq,Calls Tryz.prog 129 #[b.v,u9,.slice A b.ks.length c,dv d,.int .i64 own] (w3.drewN nq) fun e w'=>∃ v',e=.returned v'∧GgE w.heap.size b.l.length b.ks.length u9 (w3.drewN nq) v' (F G g) w':=fun nq=>by
       have ai:Below w3.heap.size w3 (w3.drewN nq):=j0k (zB2 _ _) nq;rw[aG.o,HE.o.2.2.2.2.2.2.2.1];exact q4g b HX.o.2.2.2.2.1 deed owner i d HE.o.2.2.2.1 (fun e=>HX.o.2.2.2.2.2 (by omega)) w.heap.size u9 G A c g (w3.drewN nq) (hG.gg.below ai) hs.1 hs.2.1 (hs.2.2.mono (by omega))
        (fun w' hg=>hG.keep (P:=fun w'=>j1d w' A b.ks.length g) (fun w' hg=>a8 w' (j6d hg)) w' ((j3o ai).trans hg))
        (fun w' hg=>hG.keep (P:=fun w'=>HbIn w' b) (fun w' hg=>az.o.below (j6d hg) (zL9 _)) w' ((j3o ai).trans hg)) ⟨hc,hm⟩ (by omega)
      have y7:=j0u y7 a2 (zL9 _);have b5:=j2c y7;obtain⟨c0,c1,c2,c3,c4⟩:=j0h (j0e HE.o.2.2.2.2.2.2.2.2 a2 (zL9 _));have ad:=az.o.below a2 (zL9 _);obtain⟨bd,od,d',eA,b8,ao,d0,d1,d2,d3,d4,d5,d6,d7,d8,d9,aH,b3⟩:=ad.d.get hlt;rw[HE.o.2.2.2.1] at ao;cases ao;unfold Hb.v dv at a5;rw[eA] at c4 a5;have aF:=j0a (j0e HE.o.2.2.2.2.2.2.2.2 a2 (zL9 _));have be:=ad.dc;have b6:=ad.dm;have i2:(k:Int)<(E.length:Int):=by omega
      have HK:=zQ9 (zA9 hk (zA9 hG (zA9 ak a2)));have aD:=zQ9 a5;clear hk hG ak a2 a5 ae a8 hs aA ad eA ar;go_upto_region 12 with (fail)
      refine j1c (C:=fun w'=>∃ n,w'=w3.drewN n) 12 (by kernel_rfl) (by kernel_rfl) ⟨1,rfl⟩ ?_
      simp only[List.take_succ_cons,List.take_zero,List.drop_succ_cons,List.drop_zero]
      repeat (quiet_step (fail))
      refine wpQuiet_nil ?_;intro _ aE;obtain⟨nq,an⟩:=aE;subst an;have a5:=aD.o nq;clear c0 c1 c2 c3 c4 d0 d1 d2 d3 d4 d5 d6 d7 d8 d9 aH b3 y7;go_wp2_with (go_at_call 129;(with_reducible refine a5.mono ?_);rintro e w4 ⟨v4,rfl,aw⟩;have H4:=zQ9 aw;clear aw)
      go_roundg (gk-1)
      case measure=>have:=HK.o.1;omega
      case rel =>
       refine⟨k+1,by have:=HK.o.1;omega,by go_num,?_⟩
       rw[HK.o.2.2.1];exact HK.o.2.1.trans (GgE.before (j0k (zB2 _ _) nq) H4.o)
     ·obtain rfl:k=E.length:=by omega
      rw[List.take_length,<-HE.o.2.2.2.2.1] at hG;have HG:=zQ9 (zA9 hG a2);clear hG a2 hk c0 c1 c2 c3 c4;go_wp2_with fail
      go_roundg (g1-1)
      case measure=>have:=HE.o.1;omega
      case rel=>exact⟨i+1,by have:=HE.o.1;omega,by go_num,HG.o.1.gg,HE.o.2.2.1.trans (HG.o.2.mono HE.o.2.2.1.size)⟩
  ·obtain rfl:i=b.ds.length:=by omega
   have HE:=zQ9 (zA9 hE hb);clear hE hb hi ah a7;go_wp2_with fail
   go_ret
   exact⟨⟨_,rfl,HE.o.1⟩,HX.o.2.1.trans (HE.o.2.mono HX.o.2.1.size)⟩
end Go.Proofs.YtmennjmjakdkcaaGreat
namespace Go.Proofs.YtmennjmjakdkcaaGreat
open Go.RowKit Go.MapKept
attribute [local go_sem] Oper.semAt_some
def j2o (s:Rn) (some:Bool) (n:Int):Rn:=if some then ⟨min s.lo n,max s.hi n⟩ else ⟨n,n⟩
def vSp (s:Rn) (some:Bool):Value:=.agg #[.int .i64 s.lo,.int .i64 s.hi,.bool some]
abbrev spObj (s:Rn) (some:Bool):Obj:=.cells #[.int .i64 s.lo,.int .i64 s.hi,.bool some] 136 (0,0)
theorem k7t (s:Rn) (some:Bool) (n:Int) (w:World) :
 Calls Tryz.prog 85 #[vSp s some,.int .i64 n] w fun e w'=>e=.returned (vSp (j2o s some n) true)∧Below w.heap.size w w':=by
 unfold vSp;cases some
 ·go_enter Tryz.func85,Tryz.ntmps85
  go_wp2
  obtain⟨W,hW⟩:∃ W,W=(w.alloc (.cells #[.int .i64 s.lo,.int .i64 s.hi,.bool false] 136)).alloc (.cells #[.int .i64 n,.int .i64 n,.bool true] 136):=⟨_,rfl⟩;have b4:W.heap[w.heap.size+1]?=some (spObj ⟨n,n⟩ true):=by rw[hW];exact j0c (by simp)
  obtain⟨c0,c1,c2⟩:=blk3 b4;rw[<-hW];exact bodyPost_ret (v:=vSp (j2o s false n) true) (by simp[results,Tryz.f85,go_sem,c0,c1,c2,vSp,j2o]) rfl ⟨rfl,by rw[hW];exact bal (bal0 w _) (zL9 _) _⟩
 ·go_enter Tryz.func85,Tryz.ntmps85
  go_wp2
  all_goals
   obtain⟨W,hW⟩:∃ W,W=(w.alloc (.cells #[.int .i64 s.lo,.int .i64 s.hi,.bool true] 136)).alloc (.cells #[.int .i64 (min s.lo n),.int .i64 (max s.hi n),.bool true] 136):=⟨_,rfl⟩;have b4:W.heap[w.heap.size+1]?=some (spObj ⟨min s.lo n,max s.hi n⟩ true):=by rw[hW];exact j0c (by simp)
   obtain⟨c0,c1,c2⟩:=blk3 b4
   first
    | rw[<-hW]
    | (rw[show min s.lo n=n by omega,show max s.hi n=n by omega] at hW;rw[<-hW])
    | (rw[show min s.lo n=n by omega,show max s.hi n=s.hi by omega] at hW;rw[<-hW])
    | (rw[show min s.lo n=s.lo by omega,show max s.hi n=n by omega] at hW;rw[<-hW])
    | (rw[show min s.lo n=s.lo by omega,show max s.hi n=s.hi by omega] at hW;rw[<-hW])
   exact bodyPost_ret (v:=vSp (j2o s true n) true) (by simp[results,Tryz.f85,go_sem,c0,c1,c2,vSp,j2o]) rfl ⟨rfl,by rw[hW];exact bal (bal0 w _) (zL9 _) _⟩
theorem k5e {w:World} {g:Nat} {x:List Int} {cur:Array Value} (hg:w.heap[g]?=some (.cells cur 133 (0,0))) (hc:cur.size=15) (hx:x.length=15) :
 ∃ w2,(storeCells ⟨g,0,none⟩ (hcs x).toList).run Tryz.prog w=.ok () w2∧w2.heap[g]?=some (hObj x)∧w.grownBy w2 (some g)∧w2.heap.size=w.heap.size:=by
 have hs:=j2q x;have h1:=run_storeCells_from (P:=Tryz.prog) g 133 (hcs x).toList 0 cur w hg (by simp;omega) (fun v hv=>Array.all_eq_true_iff_forall_mem.1 (q1x x) v (by simpa using hv))
 have e:(cur.toList.take 0++(hcs x).toList).toArray=hcs x:=by simp
 rw[e] at h1;refine⟨_,h1,setRow_heap _ _ _ _ _ _ hg,⟨rfl,rfl,rfl,by simp[World.setRow],fun k hk hne=>?_⟩,by simp[World.setRow]⟩
 unfold World.setRow;rw[Array.getElem?_modify,if_neg (fun e=>hne (by rw[e]))]
theorem span_any (w0:World) (p:Nat) (b:Hb) (deed owner:Int) (w:World) (hW:Work w0 p b deed owner w) (f:FuncId) (bd:Array Value) (g:List Int->Int)
 (b6:∀ (args:Array Value) (w:World),(callFunc f args).run Tryz.prog w=.ok (.enter f args) w)
 (aD:∀ x∈b.ends deed owner,∀ W,NowIn p (b.bk deed owner) w W->Calls Tryz.prog f (#[.agg (hcs x)]++bd) W fun e W'=>e=.returned (.int .i64 (g x))∧Below W.heap.size W W') :
 Calls Tryz.prog 98 #[.pointer (some ⟨p,0,none⟩),.func (.func f) #[] bd] w fun e w'=>e=.returned (.tuple #[.agg #[.int .i64 (j0t (b.ends deed owner) g).lo,.int .i64 (j0t (b.ends deed owner) g).hi],.bool (!decide (b.ends deed owner=[]))])∧NowIn p (b.bk deed owner) w w':=by
 have av:=hW.lt;refine(callsIn_wide (n:=9)).1 ?_;refine callsIn_of_wp_marks Tryz.func98 rfl trivial ?_ rfl;simp only[Tryz.ntmps98,List.size_toArray,List.length_cons,List.length_nil,Nat.reduceAdd,Nat.reduceSub,Array.replicate_succ,Array.replicate_zero,List.push_toArray,List.append_toArray,nl9];refine wpIn_wide.2 ?_;go_wp2_with (go_at_call 82;refine(j6f p _).mono ?_;rintro e w' ⟨rfl,rfl⟩)
 obtain⟨r,hr⟩:∃ r,r=w.heap.size:=⟨_,rfl⟩;obtain⟨w1,ak⟩:∃ w1,w1=(((w.alloc (.cells #[.func (.func f) #[] bd] 149)).alloc (.cells #[.int .i64 0,.int .i64 0] 72)).alloc (spObj ⟨0,0⟩ false)).alloc (.cells #[.pointer (some ⟨p,0,none⟩)] 98):=⟨_,rfl⟩;have br:w1.heap[r]?=some (.cells #[.func (.func f) #[] bd] 149 (0,0)):=by rw[ak,hr];exact j0b (j0b (j0b (j0c rfl) _) _) _
 have b7:w1.heap[r+1]?=some (.cells #[.int .i64 0,.int .i64 0] 72 (0,0)):=by rw[ak,hr];exact j0b (j0b (j0c (by simp)) _) _
 have ba:w1.heap[r+1+1]?=some (spObj ⟨0,0⟩ false):=by rw[ak,hr];exact j0b (j0c (by simp)) _
 have bq:w1.heap[r+1+1+1]?=some (.cells #[.pointer (some ⟨p,0,none⟩)] 98 (0,0)):=by rw[ak,hr];exact j0c (by simp)
 have aH:Below w.heap.size w w1:=by rw[ak];exact bal (bal (bal (bal0 w _) (zL9 _) _) (zL9 _) _) (zL9 _) _
 have bA:r+3<w1.heap.size:=j0a bq;have bB:p<r:=by omega
 have af:∀ x∈b.ends deed owner,x.length=15:=fun x hx=>(j5i hW.ok.f3 hW.ok.n5 hW.ok.rb hW.ok.dI _ x hx).1
 have HW:=zQ9 (zA9 hW (zA9 aH aD));rw[<-ak,<-hr];have HR:=zQ9 hr;clear ak hr hW aH aD;refine k2k (HW.o.1.below HW.o.2.1 (zL9 _)) (NowIn.of_below HW.o.2.1 HW.o.1.hp (zL9 _)) av bq rfl rfl
  (fun ae W=>w1.heap.size<=W.heap.size∧W.heap[r]?=some (.cells #[.func (.func f) #[] bd] 149 (0,0))∧W.heap[r+1]?=some (.cells #[.int .i64 0,.int .i64 0] 72 (0,0))∧W.heap[r+1+1]?=some (spObj (j0t ae g) (!decide (ae=[])))) (fun _ _ _=>False)
  (fun s A B row hs hg hr=>⟨zB6 hs.1 hg.size,j2z hs.2.1 rfl hg (fun i e=>(hr i e).2),j2z hs.2.2.1 rfl hg (fun i e=>(hr i e).2),j2z hs.2.2.2 rfl hg (fun i e=>(hr i e).2)⟩) (fun c s A B row hs hg hr=>hs.elim)
  (fun s A B hs hx=>by obtain⟨i,rfl⟩:=hx;exact⟨by simpa using hs.1,(zB1 _ ⟨p,7,none⟩ _ _ (show r≠p by omega)).trans hs.2.1,(zB1 _ ⟨p,7,none⟩ _ _ (show r+1≠p by omega)).trans hs.2.2.1,(zB1 _ ⟨p,7,none⟩ _ _ (show r+1+1≠p by omega)).trans hs.2.2.2⟩) ⟨zL9 _,br,b7,ba⟩
  (fun x a' W=>∃ Bx,w1.heap.size<=Bx∧W.heap[Bx]?=some (hObj x)∧a'={ tmps:=#[.pointer (some ⟨p,0,none⟩),.func (.func f) #[] bd,undef,.pointer (some ⟨r,0,none⟩),.pointer (some ⟨r+1,0,none⟩),.bool false,.pointer (some ⟨r+1+1,0,none⟩),.pointer (some ⟨Bx,0,none⟩),.pointer (some ⟨p,0,none⟩),.func (.func 115) #[] #[.pointer (some ⟨r+1+1+1,0,none⟩)],.agg (hcs x),undef,undef,undef,undef,undef,undef,undef,undef,undef,undef,undef,undef],defers:=[] })
  (fun x a' _ A B row hs hg hr=>by obtain⟨Bx,h1,h2,h3⟩:=hs;exact⟨Bx,h1,j2z h2 rfl hg (fun r e=>(hr r e).2),h3⟩) ?assign ?body ?done ?stop
 case assign =>
  intro l ae x W K hN hI hx hK;have am:=af x (k1u hx);obtain⟨w2,bh,b2,g2,z2⟩:=k5e (w:=W.alloc (.cells #[.int .i64 0,.int .i64 0,.int .i64 0,.int .i64 0,.int .i64 0,.int .i64 0,.int .i64 0,.int .i64 0,.int .i64 0,.int .i64 0,.int .i64 0,.int .i64 0,.int .i64 0,.int .i64 0,.int .i64 0] 133)) (g:=W.heap.size) (x:=x) (j0c rfl) rfl am;have ac:W.grownBy w2 none:=⟨g2.os,g2.tape,g2.output,by rw[z2];simp,fun j hj _=>(g2.block j (by simp;omega) (fun e=>by cases e;omega)).trans (Below.heap_alloc _ _ _ hj)⟩
  have HB:=zQ9 (zA9 b2 ac);have HN:=zQ9 (zA9 hN hI);have b5:(hcs x).size=15:=by rw[j2q,am]
  clear z2 g2 b2 ac hN hI am hx;gi_wp2
  have ac:=HB.o.2;have aE:=HR.o;refine hK _ w2 ((KeepsFrom.of_grownBy ac (fun j e=>by cases e))) ⟨ac.size,fun k o hk _=>(ac.block k (j0a hk) (fun e=>by cases e)).trans hk⟩ (HN.o.1.grown av ac (fun i e=>by cases e)) ?_ ⟨W.heap.size,?_,HB.o.1,rfl⟩
  ·exact⟨zB6 HN.o.2.1 ac.size,(ac.block _ (j0a HN.o.2.2.1) (fun e=>by cases e)).trans HN.o.2.2.1,(ac.block _ (j0a HN.o.2.2.2.1) (fun e=>by cases e)).trans HN.o.2.2.2.1,(ac.block _ (j0a HN.o.2.2.2.2) (fun e=>by cases e)).trans HN.o.2.2.2.2⟩
  ·exact HN.o.2.1
 case body =>
  rintro l ae x a' W hN hI ⟨Bx,bC,aF,rfl⟩ hx;have am:=af x (k1u hx);obtain⟨a0,a1,a2,a3,a4,a5,a6,a7,a8,a9,bo,bw,bi,bu,bf,b4,ah⟩:=j7s am;obtain⟨y0,y1,y2,y3,y4,y5,y6,y7,y8,y9,bn,bz,bs,be,bt⟩:=ah _ _ aF;have c0:=blk1 hI.2.1;obtain⟨s0,s1,s2⟩:=blk3 hI.2.2.2;have f0:=frz hI.2.2.2 0;have f1:=frz hI.2.2.2 1;have f2:=frz hI.2.2.2 2;obtain⟨sb,aw⟩:∃ sb,sb=(!decide (ae=[])):=⟨_,rfl⟩;obtain⟨sr,ay⟩:∃ sr,sr=j0t ae g:=⟨_,rfl⟩;rw[<-aw] at s2;rw[<-ay] at s0 s1;have HS:=zQ9 (zA9 aw ay);have HN:=zQ9 (zA9 hN hI);have ar:=HW.o.2.2 x (k1u hx);have HX:=zQ9 hx;clear aw ay hN hI hx ah am aF;have b9:=zQ9 (show W.heap[r+1+1]?=some (spObj sr sb) by rw[HS.o.1,HS.o.2];exact HN.o.2.2.2.2)
  have bj:Tryz.prog.follows .mixedOrders=true:=by kernel_rfl
  have aj:=fun w=>k7t sr sb (g x) w
  unfold vSp at aj;have b8:=zQ9 aj;have az:=ar W.drew HN.o.1.drew;clear aj ar;gi_wp2_with fail
  gi_region_with_o (first
   | (refine⟨trivial,?_⟩;gi_at_call 85;refine(k4o (b8.o _)).mono ?_;rintro e w3 ⟨rfl,ax⟩;have h3:=j0e an.o.1 ax (zL9 _);obtain⟨z0,z1,z2⟩:=blk3 h3;have bp:=frz h3 0;have bm:=frz h3 1;have bv:=frz h3 2;have aC:=zQ9 (zA9 h3 ax);clear h3 ax)
   | (refine⟨trivial,?_⟩;refine(k4o az).mono ?_;rintro e w2 ⟨rfl,ao⟩;have h2:=j0e (w:=W.drew) b9.o ao (zL9 _);obtain⟨t0,t1,t2⟩:=blk3 h2;have an:=zQ9 (zA9 h2 ao);clear h2 ao))
  all_goals
   have aE:=HR.o;have ao:Below W.heap.size W w2:=⟨an.o.2.os,an.o.2.tape,an.o.2.output,an.o.2.size,an.o.2.block⟩;have ad:Below W.heap.size W w3:=ao.trans (aC.o.2.mono ao.size);have aa:∀ k,k≠r+1+1->(((w3.setCell ⟨r+1+1,0,none⟩ (.int .i64 (j2o sr sb (g x)).lo)).setCell ⟨r+1+1,1,none⟩ (.int .i64 (j2o sr sb (g x)).hi)).setCell ⟨r+1+1,2,none⟩ (.bool true)).heap[k]?=w3.heap[k]?:=fun k hk=>by
    rw[zB1 _ ⟨r+1+1,2,none⟩ _ _ hk,zB1 _ ⟨r+1+1,1,none⟩ _ _ hk,zB1 _ ⟨r+1+1,0,none⟩ _ _ hk]
   have aq:=j0g (i:=2) (v:=.bool true) (j0g (i:=1) (v:=.int .i64 (j2o sr sb (g x)).hi) (j0g (i:=0) (v:=.int .i64 (j2o sr sb (g x)).lo) aC.o.1));have aA:KeepsOthers w3 (((w3.setCell ⟨r+1+1,0,none⟩ (.int .i64 (j2o sr sb (g x)).lo)).setCell ⟨r+1+1,1,none⟩ (.int .i64 (j2o sr sb (g x)).hi)).setCell ⟨r+1+1,2,none⟩ (.bool true)):=((KeepsOthers.setCell _ _ _).trans (KeepsOthers.setCell _ _ _)).trans (KeepsOthers.setCell _ _ _);refine⟨(j8v ad).trans (aA.from _),(k2n ad).trans aA.walks,?_,?_,?_,?_,?_⟩
   ·exact HN.o.1.then av ad.os ad.tape ad.output (by simpa using zB6 HN.o.1.size ad.size) (fun k hk=>(aa k (by omega)).trans (ad.block k (by have:=HN.o.1.size;omega)))
   ·simpa using zB6 HN.o.2.1 ad.size
   ·exact(aa r (by omega)).trans ((ad.block _ (j0a HN.o.2.2.1)).trans HN.o.2.2.1)
   ·exact(aa (r+1) (by omega)).trans ((ad.block _ (j0a HN.o.2.2.2.1)).trans HN.o.2.2.2.1)
   ·refine aq.trans ?_;have e1:j0t (ae++[x]) g=j2o sr sb (g x):=by rw[k3a,HS.o.1,HS.o.2];unfold j2o;by_cases h:ae=[]<;>simp[h]
    rw[e1];simp
 case done =>
  rintro D xs W hD hS hN hI hd;obtain⟨s0,s1,s2⟩:=blk3 hI.2.2.2;obtain⟨t0,t1⟩:=blk2 hI.2.2.1;have f0:=frz hI.2.2.1 0;have f1:=frz hI.2.2.1 1;have HN:=zQ9 (zA9 hN (zA9 hS hI));have bD:=j0a hd;clear hN hS hI;go_wp2_with fail
  go_region
  all_goals
   obtain⟨W5,ag⟩:∃ W5,W5=((W.setCell ⟨r+1,0,none⟩ (Value.int .i64 (j0t xs g).lo)).setCell ⟨r+1,1,none⟩ (Value.int .i64 (j0t xs g).hi)).drew:=⟨_,rfl⟩;have aa:∀ k,k≠r+1->W5.heap[k]?=W.heap[k]?:=fun k hk=>by
    rw[ag];show((W.setCell ⟨r+1,0,none⟩ (Value.int .i64 (j0t xs g).lo)).setCell ⟨r+1,1,none⟩ (Value.int .i64 (j0t xs g).hi)).heap[k]?=_;rw[zB1 _ ⟨r+1,1,none⟩ _ _ hk,zB1 _ ⟨r+1,0,none⟩ _ _ hk]
   have aq:W5.heap[r+1]?=some (Obj.cells #[.int .i64 (j0t xs g).lo,.int .i64 (j0t xs g).hi] 72 (0,0)):=by
    rw[ag];exact(j0g (i:=1) (v:=.int .i64 (j0t xs g).hi) (j0g (i:=0) (v:=.int .i64 (j0t xs g).lo) HN.o.2.2.2.2.1)).trans (by simp)
   have aE:=HR.o;have b0:NowIn p (b.bk deed owner) w W5:=HN.o.1.then av (by rw[ag];rfl) (by rw[ag];rfl) (by rw[ag];rfl) (by rw[ag];simpa using HN.o.1.size) (fun k hk=>aa k (by omega))
   have b3:W5.heap[D]?=some (.deferred (some [])):=(aa D (by omega)).trans hd
   have aB:=k2z (f:=g) HN.o.2.1;have aG:decide (xs=[])=decide (b.ends deed owner=[]):=by
    have:=HN.o.2.1;by_cases h:xs=[]
    ·subst h;rw[this.nil_eq.symm]
    ·rw[decide_eq_false h,decide_eq_false (fun e=>h (by rw[e] at this;exact this.eq_nil))]
   rw[<-ag];rw[aB] at aq ⊢;rw[aG];clear ag s0 s1 s2 t0 t1 f0 f1 aa aB aG;have ai:(W5.putObj D (.deferred none)).heap[r+1]?=_:=(World.putObj_heap_other (by omega)).trans aq
   obtain⟨u0,u1⟩:=blk2 ai;have H5:=zQ9 (zA9 b0 ai);clear b0 aq ai;go_wp2
   refine⟨by simp,.inl ⟨_,_,rfl,run_takeDeferred b3,?_⟩⟩
   refine⟨.tuple #[.agg #[.int .i64 (j0t (b.ends deed owner) g).lo,.int .i64 (j0t (b.ends deed owner) g).hi],.bool (!decide (b.ends deed owner=[]))],by simp[results,Tryz.f98,go_sem,u0,u1],rfl,?_⟩
   exact H5.o.1.undo av (by have:=HW.o.2.1.size;omega) _
 case stop=>exact fun D c ae W _ _ _ h=>h.elim
def eRn (x:Rn):List Value:=[.int .i64 x.lo,.int .i64 x.hi]
theorem j5v (x:Rn):(eRn x).length=2:=rfl
theorem q2b (x:Rn):∀ u∈eRn x,u.oneCell'=true:=by intro u hu;simp[eRn] at hu;rcases hu with rfl|rfl<;>rfl
theorem okRn:ElemOk Tryz.prog 57 72 2 16:=ElemOk.mk' (z:=.agg #[.int .i64 0,.int .i64 0]) Tryz.underlying57 (by kernel_rfl) rfl (by decide)
abbrev OwnR (w:World) (base:Nat) (v:Value) (l:List Rn):Prop:=Own eRn 72 2 w base v l
theorem Own.now {α:Type} {enc:α->List Value} {e:TypeId} {sz:Nat} {a c:World} {base p:Nat} {v:Value} {l:List α} {O:Int->Obj} (h:Own enc e sz a base v l) (k:NowIn p O a c) (hp:p<base):Own enc e sz c base v l :=
 h.kept (row:=some p) ⟨k.os,k.tape,k.output,k.size,fun j hj hne=>k.block j hj (fun e=>hne (by rw[e]))⟩ (by
  cases e:v.ownBlock with
  | none=>exact .inl rfl
  | some b=>right;intro e';cases e';have:=(Own.lt h _ e).1;omega)
theorem q3o (F:FuncId) (bd:Array Value) (y:Int) (x:List Int) (i:Nat) (r5 ri:Nat) (W:World) (a1:x.length=15)
 (a4:∀ (args:Array Value) (w:World),(callFunc F args).run Tryz.prog w=.ok (.enter F args) w)
 (h5:W.heap[r5]?=some (Obj.cells #[.func (.func F) #[] bd] 146 (0,0))) (hi:W.heap[ri]?=some (Obj.cells #[.int .i64 (i:Int)] 3 (0,0)))
 (hc:∀ W',Below W.heap.size W W'->Calls Tryz.prog F (#[.agg (hcs x),.int .i64 (i:Int)]++bd) W' fun e W''=>e=.returned (.int .i64 y)∧Below W'.heap.size W' W'') :
 Calls Tryz.prog 128 #[.agg (hcs x),.pointer (some ⟨r5,0,none⟩),.pointer (some ⟨ri,0,none⟩)] W fun e W'=>e=.returned (.int .i64 y)∧Below W.heap.size W W':=by
 obtain⟨V,hV⟩:∃ V,V=W.alloc (Obj.cells (hcs x) 133):=⟨_,rfl⟩;have b0:V.heap[W.heap.size]?=some (hObj x):=by rw[hV];exact j0c rfl
 have c5:=blk1 (show V.heap[r5]?=_ by rw[hV];exact j0b h5 _)
 have ci:=blk1 (show V.heap[ri]?=_ by rw[hV];exact j0b hi _)
 have a0:Below W.heap.size W V:=by rw[hV];exact bal0 W _
 have a3:=hc V a0;have HV:=zQ9 (zA9 hV a0);clear hc;go_enter Tryz.func128,Tryz.ntmps128
 go_upto_region 1 with (fail)
 rw[<-hV];obtain⟨g,hg⟩:∃ g,g=W.heap.size:=⟨_,rfl⟩;have HG:=zQ9 hg;rw[<-hg] at b0 ⊢;clear hV hg a0;go_wp2_with (first
  | ((with_reducible apply j1a b0 a1);(rfl);(rfl);(rfl))
  | (go_at_fn F;refine a3.mono ?_;rintro e w6 ⟨rfl,a2⟩))
 go_ret
 exact⟨rfl,HV.o.2.trans (a2.mono HV.o.2.size)⟩
def j1h (E:List (List Int)) (G:Nat->List Int->Int) (k:Nat):List Rn:=(List.range k).map fun i=>j0t E (G i)
theorem k1w (E:List (List Int)) (G:Nat->List Int->Int) (k:Nat):j1h E G (k+1)=j1h E G k++[j0t E (G k)]:=by unfold j1h;rw[List.range_succ,List.map_append];rfl
theorem k3d (E:List (List Int)) (G:Nat->List Int->Int) (k:Nat):(j1h E G k).length=k:=by simp[j1h]
def q0d (E:List (List Int)):Int:=if E=[] then 11 else 0
theorem k5j {E:List (List Int)} (h:E=[]):q0d E=11:=if_pos h
theorem k5i {E:List (List Int)} (h:E≠[]):q0d E=0:=if_neg h
def k1v (E:List (List Int)) (G:Nat->List Int->Int) (n:Nat):List Rn:=if E=[] then [] else j1h E G n
theorem q6c (w0:World) (p:Nat) (b:Hb) (deed owner:Int) (w:World) (hW:Work w0 p b deed owner w) (n:Nat) (hn:0<n) (aE:n<=100) (F:FuncId) (bd:Array Value) (G:Nat->List Int->Int)
 (ag:∀ (args:Array Value) (w:World),(callFunc F args).run Tryz.prog w=.ok (.enter F args) w)
 (hF:∀ x∈b.ends deed owner,∀ i:Nat,i<n->∀ W,NowIn p (b.bk deed owner) w W->Calls Tryz.prog F (#[.agg (hcs x),.int .i64 (i:Int)]++bd) W fun e W'=>e=.returned (.int .i64 (G i x))∧Below W.heap.size W W') :
 Calls Tryz.prog 95 #[.pointer (some ⟨p,0,none⟩),.int .i64 (n:Int),.func (.func F) #[] bd] w fun e w'=>(∃ v,e=.returned (.tuple #[v,.int .i64 (q0d (b.ends deed owner))])∧OwnR w' w.heap.size v (k1v (b.ends deed owner) G n))∧NowIn p (b.bk deed owner) w w':=by
 have am:=hW.lt;obtain⟨V,hV⟩:∃ V,V=w.alloc (Obj.cells #[.func (.func F) #[] bd] 146):=⟨_,rfl⟩;obtain⟨r,hr⟩:∃ r,r=w.heap.size:=⟨_,rfl⟩;have b5:V.heap[r]?=some (Obj.cells #[.func (.func F) #[] bd] 146 (0,0)):=by rw[hV,hr];exact j0c rfl
 have ar:NowIn p (b.bk deed owner) w V:=by rw[hV];exact NowIn.of_below (bal0 w _) hW.hp (zL9 _)
 have a2:∀ x∈b.ends deed owner,x.length=15:=fun x hx=>(j5i hW.ok.f3 hW.ok.n5 hW.ok.rb hW.ok.dI _ x hx).1
 have az:V.heap.size=r+1:=by rw[hV,hr];simp
 have HH:=zQ9 (zA9 hW (zA9 hF (zA9 ar (zA9 a2 (zA9 az (zA9 hr b5))))));have a8:∀ (args:Array Value) (w:World),(callFunc 128 args).run Tryz.prog w=.ok (.enter 128 args) w:=enters_of Tryz.func128 (by kernel_rfl) rfl
 go_enter Tryz.func95,Tryz.ntmps95
 go_upto_region 1 with (fail)
 rw[<-hV,<-hr];clear hW hF hV ar a2 hr az b5;go_wp2_with fail
 go_loopg [8,13] n (fun g v8 v13 wr=>∃ k:Nat,k+g=n∧v13=.int .i64 k∧(0<k->b.ends deed owner≠[])∧OwnR wr V.heap.size v8 (j1h (b.ends deed owner) G k)∧NowIn p (b.bk deed owner) w wr∧wr.heap[r]?=some (Obj.cells #[.func (.func F) #[] bd] 146 (0,0))∧V.heap.size<=wr.heap.size)
 case atStart=>exact⟨0,by omega,rfl,fun h=>absurd h (by omega),Own.nil_,HH.o.2.2.1,HH.o.2.2.2.2.2.2,zL9 _⟩
 case round =>
  obtain⟨k,hk,rfl,ac,a0,hN,ae,ak⟩:=hrel;by_cases hlt:k<n
  ·have i1:(k:Int)<(n:Int):=by omega
   have i2:(n:Int)<=100:=by omega
   have HK:=zQ9 (zA9 hk (zA9 ac (zA9 a0 (zA9 hN (zA9 ae ak)))));clear hk ac a0 hN ae ak;go_upto_region 5 with (fail)
   obtain⟨wi,a5⟩:∃ wi,wi=wr.alloc (.cells #[.int .i64 (k:Int)] 3):=⟨_,rfl⟩;obtain⟨gi,ad⟩:∃ gi,gi=wr.heap.size:=⟨_,rfl⟩;have aa:NowIn p (b.bk deed owner) w wi:=by rw[a5];exact HK.o.2.2.2.1.below am (bal0 wr _) HK.o.2.2.2.1.size
   have ai:wi.heap[r]?=some (Obj.cells #[.func (.func F) #[] bd] 146 (0,0)):=by rw[a5];exact j0b HK.o.2.2.2.2.1 _
   have ay:wi.heap[gi]?=some (.cells #[.int .i64 (k:Int)] 3 (0,0)):=by rw[a5,ad];exact j0c rfl
   have ax:r≠p:=by have:=HH.o.2.2.2.2.2.1;omega
   have ao:gi≠p:=by have:=HK.o.2.2.2.1.lt;omega
   have a4:OwnR wi V.heap.size u8 (j1h (b.ends deed owner) G k):=by rw[a5];exact Own.alloc HK.o.2.2.1 _
   have aB:V.heap.size<=wi.heap.size:=by rw[a5];simp;have:=HK.o.2.2.2.2.2;omega
   have aD:=span_any w0 p b deed owner wi (HH.o.1.now aa) 128 #[.pointer (some ⟨r,0,none⟩),.pointer (some ⟨gi,0,none⟩)] (G k) a8 (fun x hx W hNW =>
    q3o F bd (G k x) x k r gi W (HH.o.2.2.2.1 x hx) ag (hNW.blk ai ax) (hNW.blk ay ao) (fun W' hb=>HH.o.2.1 x hx k hlt W' (aa.trans (hNW.below aa.lt hb hNW.size))))
   rw[<-a5,<-ad];have HI:=zQ9 (zA9 aa (zA9 ai (zA9 a4 aB)));clear a5 ad aa ai ay ax ao a4 aB;go_upto_region 6 with (go_at_call 98;refine aD.mono ?_;rintro e w2 ⟨rfl,a7⟩)
   obtain⟨eb,af⟩:∃ eb,eb=!decide (b.ends deed owner=[]):=⟨_,rfl⟩;obtain⟨y,hy⟩:∃ y,y=j0t (b.ends deed owner) (G k):=⟨_,rfl⟩;rw[<-af,<-hy];obtain⟨w3,a6⟩:∃ w3,w3=w2.alloc (.cells #[.int .i64 y.lo,.int .i64 y.hi] 72):=⟨_,rfl⟩;have aw:NowIn p (b.bk deed owner) w w3:=by rw[a6];exact(HI.o.1.trans a7).below am (bal0 w2 _) (zB6 HI.o.1.size a7.size)
   have ah:p<V.heap.size:=by have:=HH.o.2.2.2.2.1;have:=HH.o.2.2.2.2.2.1;omega
   have aA:r<V.heap.size:=by have:=HH.o.2.2.2.2.1;omega
   have a1:OwnR w3 V.heap.size u8 (j1h (b.ends deed owner) G k):=by rw[a6];exact Own.alloc (HI.o.2.2.1.now a7 ah) _
   have an:w3.heap[r]?=some (Obj.cells #[.func (.func F) #[] bd] 146 (0,0)):=by rw[a6];exact j0b (a7.blk HI.o.2.1 (by have:=HH.o.2.2.2.2.2.1;omega)) _
   have aq:w3.heap[w2.heap.size]?=some (.cells #[.int .i64 y.lo,.int .i64 y.hi] 72 (0,0)):=by rw[a6];exact j0c rfl
   have aF:V.heap.size<=w3.heap.size:=by rw[a6];simp;have:=HI.o.2.2.2;have:=a7.size;omega
   obtain⟨x0,x1⟩:=blk2 aq;rw[<-a6];have a9:=k3d (b.ends deed owner) G k;have HY:=zQ9 (zA9 af (zA9 hy (zA9 aw (zA9 ah (zA9 aA (zA9 an a9))))));have aH:(j1h (b.ends deed owner) G k).length<4294967296:=by omega
   clear af hy a6 aw ah aA an aq a7 a9;cases eb with
   | false =>
     have hE:b.ends deed owner=[]:=by have:=HY.o.1;by_cases h:b.ends deed owner=[];exact h;simp[h] at this
     have HE:=zQ9 hE;clear hE;go_wp2_with fail
     go_ret2
     rw[k5j HE.o];refine⟨⟨_,rfl,?_⟩,HY.o.2.2.1⟩;unfold k1v;rw[if_pos HE.o];exact Own.nil_
   | true =>
     have hE:b.ends deed owner≠[]:=by have:=HY.o.1;intro h;simp[h] at this
     have HE:=zQ9 hE;have aC:=zQ9 a1;clear hE a1;go_wp2_with (at_builtin;refine j6b okRn rfl (.tmp 24) (.tmp 26) rfl V.heap.size _ (j1h (b.ends deed owner) G k) y _ rfl rfl rfl rfl (q2b _) aC.o ?_ ?_ ?_ ?_;(omega);(omega);(omega);intro v' w4 a3 av _ aG;have aj:=zQ9 (zA9 a3 av);clear a3 av)
     go_roundg (gk-1)
     case measure=>have:=HK.o.1;omega
     case rel =>
      refine⟨k+1,by have:=HK.o.1;omega,by go_num,fun _=>HE.o,by rw[k1w,<-HY.o.2.1];exact aj.o.1,HY.o.2.2.1.below am aj.o.2 (by have:=HH.o.2.2.2.2.1;have:=HH.o.2.2.2.2.2.1;omega),(aj.o.2.block r HY.o.2.2.2.2.1).trans HY.o.2.2.2.2.2.1,by omega⟩
  ·obtain rfl:k=n:=by omega
   have HF:=zQ9 (zA9 (ac hn) (zA9 a0 hN));clear ac a0 hN ae ak;go_wp2_with fail
   go_ret2
   rw[k5i HF.o.1];refine⟨⟨_,rfl,?_⟩,HF.o.2.2⟩;unfold k1v;rw[if_neg HF.o.1];exact HF.o.2.1.mono (by have:=HH.o.2.2.2.2.1;have:=HH.o.2.2.2.2.2.1;omega)
def k2b (b:Hb) (w:World) (e:Ending) (w':World):Prop:=e=.returned (.tuple #[.int .i64 (if b.chk=0 then ((b.ends (-1) 0).length:Int) else 0),.int .i64 b.chk])∧Below w.heap.size w w'
theorem q2o (b:Hb) (w:World) (hin:HbIn w b):Calls Tryz.prog 13 #[b.v] w (k2b b w):=by
 obtain⟨V,hV⟩:∃ V,V=w.alloc b.obj:=⟨_,rfl⟩;obtain⟨g,hg⟩:∃ g,g=w.heap.size:=⟨_,rfl⟩;have b0:V.heap[g]?=some b.obj:=by rw[hV,hg];exact j0c rfl
 have a3:Below w.heap.size w V:=by rw[hV];exact bal0 w _
 have a4:=hin.below a3 (zL9 _);obtain⟨c0,c1,c2,c3,c4⟩:=j0h b0;have a2:=j6w b V a4;unfold Hb.v at a2;have HV:=zQ9 (zA9 a3 (zA9 b0 (zA9 a4 hg)));unfold Hb.v;go_enter Tryz.func13,Tryz.ntmps13
 go_upto_region 1 with (fail)
 rw[<-hV,<-hg];clear hV hg hin a3 a4 b0;obtain⟨R,hR⟩:∃ R,R=j3z b b.chk V:=⟨_,rfl⟩;rw[<-hR] at a2;have HR:=zQ9 hR;clear hR;go_wp2_with (go_at_call 55;refine a2.mono ?_;rintro e w2 a5;rw[HR.o] at a5;unfold j3z at a5;rcases a5 with ⟨h0,rfl,a0⟩|⟨h0,p,rfl,a1,a0⟩)
 ·go_ret2
  unfold k2b;rw[if_neg h0];exact⟨rfl,HV.o.1.trans (a0.mono HV.o.1.size)⟩
 ·have H2:=zQ9 (zA9 (HV.o.1.trans (a0.mono HV.o.1.size)) (zA9 a1 h0));refine(many_any V p b (-1) 0 w2 a1).mono ?_;rintro e w3 ⟨rfl,a6⟩;have a7:Below w.heap.size w w3:=H2.o.1.trans (a6.less (zB6 HV.o.1.size a1.hz) H2.o.1.size);clear a1 a0 a6;go_wp2
  go_ret2
  unfold k2b;rw[H2.o.2.2,if_pos rfl];exact⟨rfl,a7⟩
theorem okRns:ElemOk Tryz.prog 66 57 1 24:=ElemOk.mk' (z:=.slice none 0 0) Tryz.underlying66 (by kernel_rfl) rfl (by decide)
abbrev OwnT (w:World) (base:Nat) (v:Value) (ls:List (List Rn)):Prop:=OwnA eRn 72 57 2 w base v ls
theorem OwnT.now {a c:World} {base p:Nat} {v:Value} {l:List (List Rn)} {O:Int->Obj} (h:OwnT a base v l) (k:NowIn p O a c) (hp:p<base):OwnT c base v l :=
 h.map (fun _ h=>Own.now h k hp) (fun _ _ h=>Own.now h k hp)
theorem hasF_any (x:List Int) (f i:Nat) (q:Nat) (W:World) (a1:x.length=15) (hf:f<3) (hi:i<5) (hq:W.heap[q]?=some (Obj.cells #[.int .i64 (f:Int)] 3 (0,0))) :
 Calls Tryz.prog 96 (#[.agg (hcs x),.int .i64 (i:Int)]++#[.pointer (some ⟨q,0,none⟩)]) W fun e W'=>e=.returned (.int .i64 (hget x f i))∧Below W.heap.size W W':=by
 obtain⟨V,hV⟩:∃ V,V=W.alloc (Obj.cells (hcs x) 133):=⟨_,rfl⟩;have b0:V.heap[W.heap.size]?=some (hObj x):=by rw[hV];exact j0c rfl
 have cq:=blk1 (show V.heap[q]?=_ by rw[hV];exact j0b hq _)
 have a0:Below W.heap.size W V:=by rw[hV];exact bal0 W _
 have HV:=zQ9 a0;obtain⟨g,hg⟩:∃ g,g=W.heap.size:=⟨_,rfl⟩;obtain⟨y,hy⟩:∃ y,y=hget x f i:=⟨_,rfl⟩;rw[<-hg] at b0;rw[<-hy];have c0:V.cell? ⟨g,f*5+i,none⟩=some (.int .i64 y):=by rw[hy,Nat.mul_comm f 5];exact blkH b0 (by omega)
 have i0:(0:Int)<=(f:Int):=by omega
 have i1:(f:Int)<3:=by omega
 have i2:(0:Int)<=(i:Int):=by omega
 have i3:(i:Int)<5:=by omega
 simp only[List.append_toArray,List.cons_append,List.nil_append];clear hq hy b0 a0;go_enter Tryz.func96,Tryz.ntmps96
 go_upto_region 1 with (fail)
 rw[<-hV,<-hg];clear hV hg;go_wp2
 go_ret
 exact⟨rfl,HV.o⟩
def askE (b:Hb):Int:=if b.chk≠0 then b.chk else if b.ends (-1) 0=[] then 11 else 0
theorem k8h {b:Hb} (h:b.chk≠0):askE b=b.chk:=if_pos h
theorem j8n {b:Hb} (h:b.chk=0) (h':b.ends (-1) 0=[]):askE b=11:=by unfold askE;rw[if_neg (by rw[h];simp),if_pos h']
theorem k2d {b:Hb} (h:b.chk=0) (h':b.ends (-1) 0≠[]):askE b=0:=by unfold askE;rw[if_neg (by rw[h];simp),if_neg h']
def j6s (E:List (List Int)) (n k:Nat):List (List Rn):=(List.range k).map fun f=>(List.range n).map fun o=>j0t E fun h=>hget h f o
theorem q3a (E:List (List Int)) (n k:Nat):j6s E n (k+1)=j6s E n k++[j1h E (fun i x=>hget x k i) n]:=by unfold j6s;rw[List.range_succ,List.map_append];rfl
theorem q4y (E:List (List Int)) (n k:Nat):(j6s E n k).length=k:=by simp[j6s]
def hasR (b:Hb):List (List Rn):=if askE b=0 then hasL (b.ends (-1) 0) b.l.length b.ks.length else []
def HasR (b:Hb) (w:World) (e:Ending) (w':World):Prop:=(∃ v,e=.returned (.tuple #[v,.int .i64 (askE b)])∧OwnT w' w.heap.size v (hasR b))∧Below w.heap.size w w'
theorem Has_any (b:Hb) (w:World) (hin:HbIn w b):Calls Tryz.prog 29 #[b.v] w (HasR b w):=by
 obtain⟨V,hV⟩:∃ V,V=w.alloc b.obj:=⟨_,rfl⟩;obtain⟨g,hg⟩:∃ g,g=w.heap.size:=⟨_,rfl⟩;have b0:V.heap[g]?=some b.obj:=by rw[hV,hg];exact j0c rfl
 have am:Below w.heap.size w V:=by rw[hV];exact bal0 w _
 have ao:=hin.below am (zL9 _);obtain⟨c0,c1,c2,c3,c4⟩:=j0h b0;have ah:=j6w b V ao;unfold Hb.v at ah;have HV:=zQ9 (zA9 am (zA9 b0 (zA9 ao hg)));have aa:∀ (args:Array Value) (w:World),(callFunc 96 args).run Tryz.prog w=.ok (.enter 96 args) w:=enters_of Tryz.func96 (by kernel_rfl) rfl
 have aj:=zQ9 aa;unfold Hb.v;go_enter Tryz.func29,Tryz.ntmps29
 go_upto_region 1 with (fail)
 rw[<-hV,<-hg];clear hV hg hin am ao b0 aa;obtain⟨R,hR⟩:∃ R,R=j3z b b.chk V:=⟨_,rfl⟩;rw[<-hR] at ah;have HR:=zQ9 hR;clear hR;go_upto_region 2 with (go_at_call 55;refine ah.mono ?_;rintro e w2 aq;rw[HR.o] at aq;unfold j3z at aq;rcases aq with ⟨h0,rfl,ad⟩|⟨h0,p,rfl,a8,ad⟩)
 ·have xf:(b.chk != 0)=true:=by simp[h0]
  go_wp2_with fail
  go_ret2
  unfold HasR hasR;rw[k8h h0,if_neg h0];exact⟨⟨_,rfl,OwnA.nil_⟩,HV.o.1.trans (ad.mono HV.o.1.size)⟩
 have x0:=j0e HV.o.2.1 ad (zL9 _);have a6:=a8.ok;have ax:g≠p:=by have:=a8.hz;have:=j0a HV.o.2.1;omega
 clear c0 c1 c2 c3 c4 ah;obtain⟨c0,c1,c2,c3,c4⟩:=j0h x0;have ar:=a8.lt;obtain⟨n,hn⟩:∃ n,n=b.l.length:=⟨_,rfl⟩;obtain⟨nk,af⟩:∃ nk,nk=b.ks.length:=⟨_,rfl⟩;rw[<-hn] at c1;rw[<-af] at c2;have aF:0<n∧n<=5:=by rw[hn];exact⟨a6.n0,a6.n5⟩
 have b3:0<nk∧nk<=3:=by rw[af];exact⟨a6.f0,a6.f3⟩
 have H2:=zQ9 (zA9 ad (zA9 a8 (zA9 h0 (zA9 hn (zA9 af (zA9 a6 (zA9 ax x0)))))));clear ad a8 h0 hn af a6 ax x0;go_wp2_with fail
 go_loopg [6,21] nk (fun g' v6 v21 wr=>∃ k:Nat,k+g'=nk∧v21=.int .i64 k∧(0<k->b.ends (-1) 0≠[])∧OwnT wr w2.heap.size v6 (j6s (b.ends (-1) 0) n k)∧NowIn p (b.bk (-1) 0) w2 wr)
 case atStart=>exact⟨0,by omega,rfl,fun h=>absurd h (by omega),OwnA.nil_,H2.o.2.1.refl⟩
 case round =>
  obtain⟨k,hk,rfl,ag,a1,hN⟩:=hrel;by_cases hlt:k<nk
  ·have i1:(k:Int)<(nk:Int):=by omega
   have i2:(nk:Int)<=3:=by omega
   obtain⟨wi,a7⟩:∃ wi,wi=wr.alloc (.cells #[.int .i64 (k:Int)] 3):=⟨_,rfl⟩;obtain⟨gi,ai⟩:∃ gi,gi=wr.heap.size:=⟨_,rfl⟩;have ac:NowIn p (b.bk (-1) 0) w2 wi:=by rw[a7];exact hN.below ar (bal0 wr _) hN.size
   have an:wi.heap[gi]?=some (.cells #[.int .i64 (k:Int)] 3 (0,0)):=by rw[a7,ai];exact j0c rfl
   have a9:gi≠p:=by have:=hN.lt;omega
   have a5:OwnT wi w2.heap.size u6 (j6s (b.ends (-1) 0) n k):=by rw[a7];exact OwnA.alloc a1 _
   have aA:w2.heap.size<=wi.heap.size:=ac.size;have xg:=ac.blk H2.o.2.2.2.2.2.2.2 H2.o.2.2.2.2.2.2.1;clear c0 c1 c2 c3 c4;obtain⟨c0,c1,c2,c3,c4⟩:=j0h xg;rw[<-H2.o.2.2.2.1] at c1;have aw:=q6c V p b (-1) 0 wi (H2.o.2.1.now ac) n aF.1 (by omega) 96 #[.pointer (some ⟨gi,0,none⟩)] (fun i x=>hget x k i) aj.o (fun x hx i hi W hNW =>
    hasF_any x k i gi W ((j5i H2.o.2.2.2.2.2.1.f3 H2.o.2.2.2.2.2.1.n5 H2.o.2.2.2.2.2.1.rb H2.o.2.2.2.2.2.1.dI _ x hx).1) (by omega) (by omega) (hNW.blk an a9))
   have HI:=zQ9 (zA9 ac (zA9 an (zA9 a5 (zA9 aA (zA9 ag hk)))));have aD:=zQ9 a7;have aC:=zQ9 ai;clear ac an a9 a5 aA ag hk a1 hN xg a7 ai;go_upto_region 8 with (fail)
   rw[<-aD.o,<-aC.o];go_upto_region 9 with (go_at_call 95;refine aw.mono ?_;rintro e w3 ⟨⟨v,rfl,av⟩,ak⟩)
   have a2:=HI.o.1.trans ak;have az:Below w.heap.size w w3:=(HV.o.1.trans (H2.o.1.mono HV.o.1.size)).trans (a2.less (zB6 HV.o.1.size H2.o.2.1.hz) (zB6 HV.o.1.size H2.o.1.size));have aB:p<w2.heap.size:=ar;have ae:OwnR w3 w2.heap.size v (k1v (b.ends (-1) 0) (fun i x=>hget x k i) n):=av.mono HI.o.2.2.2.1
   have a3:OwnT w3 w2.heap.size u6 (j6s (b.ends (-1) 0) n k):=HI.o.2.2.1.now ak aB;have H3:=zQ9 (zA9 a2 (zA9 az (zA9 ae a3)));have aE:=a2.size;clear ak a2 az av ae a3 aw;by_cases hE:b.ends (-1) 0=[]
   ·have HE:=zQ9 hE;rw[k5j hE];clear hE;go_wp2_with fail
    go_ret2
    unfold HasR hasR;rw[j8n H2.o.2.2.1 HE.o,if_neg (by decide)]
    exact⟨⟨_,rfl,OwnA.nil_⟩,H3.o.2.1⟩
   ·have HE:=zQ9 hE;rw[k5i hE];clear hE;have b4:(j6s (b.ends (-1) 0) n k).length<4294967296:=by rw[q4y];omega
    have a0:=H3.o.2.2.1;unfold k1v at a0;rw[if_neg HE.o] at a0;obtain⟨Av,cv,aG,-,-,-⟩:=a0.form j5v;have aH:=zQ9 a0;clear a0;subst aG;go_wp2_with (at_builtin;refine q1n okRns (by decide) rfl (.tmp 37) (.tmp 39) rfl w2.heap.size _ _ (j6s (b.ends (-1) 0) n k) _ rfl rfl H3.o.2.2.2 aH.o b4 aE ?_;intro v' w4 a4 ay _;have H4:=zQ9 (zA9 a4 ay);clear a4 ay)
    go_roundg (gk-1)
    case measure=>have:=HI.o.2.2.2.2.2;omega
    case rel=>exact⟨k+1,by have:=HI.o.2.2.2.2.2;omega,by go_num,fun _=>HE.o,by rw[q3a];exact H4.o.1,H3.o.1.below ar H4.o.2 (zL9 _)⟩
  ·obtain rfl:k=nk:=by omega
   have HF:=zQ9 (zA9 (ag b3.1) (zA9 a1 hN));clear ag a1 hN hk;go_wp2_with fail
   go_ret2
   unfold HasR hasR;rw[k2d H2.o.2.2.1 HF.o.1,if_pos rfl];refine⟨⟨_,rfl,?_⟩,(HV.o.1.trans (H2.o.1.mono HV.o.1.size)).trans (HF.o.2.2.less (zB6 HV.o.1.size H2.o.2.1.hz) (zB6 HV.o.1.size H2.o.1.size))⟩;have:=HF.o.2.1;rw[H2.o.2.2.2.1,H2.o.2.2.2.2.1] at this;exact OwnA.mono this (zB6 HV.o.1.size H2.o.1.size)
theorem q4k {t:Int} {l:List Mk} {hs:Gr} {ds:List De} (a c:Int):j7f t l hs ds (-1) a=j7f t l hs ds (-1) c:=by
 have hm:∀ i s o,mayB t l (-1) a i s o=mayB t l (-1) c i s o:=fun i s o=>by
  unfold mayB j1s;rw[show decide ((i:Int)=-1)=false from decide_eq_false (by omega)]
  rfl
 have hd:∀ i d E g,j1i t l (-1) a i d E g=j1i t l (-1) c i d E g:=fun i d E g=>by
  unfold j1i;simp only[hm]
 have hT:∀ k,j1v t l (-1) a ds hs k=j1v t l (-1) c ds hs k:=fun k=>by
  induction k with
  | zero=>rfl
  | succ i ih =>
    show(match ds[i]? with
     | some d=>(j1v t l (-1) a ds hs i).foldl (fun F g=>j1i t l (-1) a i d F g) []
     | none=>j1v t l (-1) a ds hs i)=(match ds[i]? with
     | some d=>(j1v t l (-1) c ds hs i).foldl (fun F g=>j1i t l (-1) c i d F g) []
     | none=>j1v t l (-1) c ds hs i)
    simp only[ih,hd]
 exact hT _
def Hb.eg (b:Hb):List Gr:=j7f b.t b.l b.hs b.ds (-1) (-1)
theorem k8t {b:Hb} (a0:HeOk b.t b.l b.ks b.hs b.ds):b.eg.length=(b.ends (-1) 0).length:=by
 unfold Hb.eg;rw[q4k (-1) 0];exact q4j a0
theorem j8r (b:Hb) (a0:HeOk b.t b.l b.ks b.hs b.ds) (w:World) (hin:HbIn w b) :
 Calls Tryz.prog 57 #[b.v] w fun e w'=>(∃ v,e=.returned v∧OwnGG w.heap.size b.l.length b.ks.length v b.eg w')∧Below w.heap.size w w':=by
 obtain⟨V,hV⟩:∃ V,V=w.alloc b.obj:=⟨_,rfl⟩;obtain⟨p,hp⟩:∃ p,p=w.heap.size:=⟨_,rfl⟩;have HB:=zQ9 (show BB9 w b p V by rw[hV,hp];exact BB9.start hin)
 obtain⟨c0,c1,c2,c3,c4⟩:=j0h HB.o.1;have a1:=j0a HB.o.1;have he:=q3s b a0 (-1) (-1) (fun h=>absurd h (by decide)) V HB.o.2.1
 unfold Hb.v at he ⊢;clear a0 hin;go_enter Tryz.func57,Tryz.ntmps57
 go_upto_region 1 with (fail)
 rw[<-hV,<-hp];clear hV hp;go_wp2_with (go_at_call 103;(with_reducible refine he.mono ?_);rintro e w2 ⟨⟨v,rfl,hE⟩,hb⟩;have H2:=zQ9 (zA9 hE hb);clear hE hb)
 go_ret
 obtain⟨mv,h1,h2,h3⟩:=H2.o.1.own;refine⟨⟨_,rfl,⟨mv,?_,h2,h3⟩,H2.o.1.sh,?_⟩,HB.o.2.2.trans (H2.o.2.mono HB.o.2.2.size)⟩
 ·exact Own.mono h1 HB.o.2.2.size
 ·exact zB6 HB.o.2.2.size H2.o.1.zw
def j9z (b:Hb) (w:World) (e:Ending) (w':World):Prop:=(askE b≠0∧e=.returned (.tuple #[.slice none 0 0,.int .i64 (askE b)])∨askE b=0∧∃ v,e=.returned (.tuple #[v,.int .i64 0])∧OwnGG w.heap.size b.l.length b.ks.length v b.eg w')∧Below w.heap.size w w'
theorem k1g (b:Hb) (w:World) (hin:HbIn w b):Calls Tryz.prog 88 #[b.v] w (j9z b w):=by
 obtain⟨V,hV⟩:∃ V,V=w.alloc b.obj:=⟨_,rfl⟩;obtain⟨p,hp⟩:∃ p,p=w.heap.size:=⟨_,rfl⟩;have HB:=zQ9 (show BB9 w b p V by rw[hV,hp];exact BB9.start hin)
 obtain⟨c0,c1,c2,c3,c4⟩:=j0h HB.o.1;have a4:=j0a HB.o.1;have a1:=j9y b V HB.o.2.1;obtain⟨ce,a3⟩:∃ ce,ce=b.chk:=⟨_,rfl⟩;rw[<-a3] at a1;have a0:=zQ9 a3;unfold Hb.v at a1 ⊢;clear hin a3;go_enter Tryz.func88,Tryz.ntmps88
 go_upto_region 1 with (fail)
 rw[<-hV,<-hp];clear hV hp;by_cases h0:ce=0
 ·subst h0;have a7:=j2x a0.o.symm;go_upto_region 4 with (go_at_call 18;(with_reducible refine a1.mono ?_);rintro e w1 ⟨rfl,a2⟩;replace HB:=zQ9 (HB.o.step a2);clear a2 c0 c1 c2 c3 c4 a4)
  clear a1;obtain⟨c0,c1,c2,c3,c4⟩:=j0h HB.o.1;have a4:=j0a HB.o.1;have he:=j8r b a7 w1 HB.o.2.1;unfold Hb.v at he;have a5:=k8t a7;obtain⟨E,hE⟩:∃ E,E=b.eg:=⟨_,rfl⟩;rw[<-hE] at he a5;have HL:=zQ9 (zA9 a5 hE);clear a5 hE a7;by_cases hE0:E.length=0
  ·have e1:((E.length:Int)==0)=true:=by simp[hE0]
   have a6:=zQ9 hE0;clear hE0;go_wp2_with (go_at_call 57;(with_reducible refine he.mono ?_);rintro e w2 ⟨⟨v,rfl,hG⟩,hb⟩;obtain⟨A,c,rfl,h1,h2⟩:=hG.form;replace HB:=zQ9 (HB.o.step hb);clear hb hG)
   go_ret2
   have ha:askE b=11:=j8n a0.o.symm (zC1 (by rw[<-HL.o.1];exact a6.o))
   unfold j9z;rw[ha];exact⟨.inl ⟨by decide,rfl⟩,HB.o.2.2⟩
  ·have e1:((E.length:Int)==0)=false:=beq_eq_false_iff_ne.2 (by omega)
   have a6:=zQ9 hE0;clear hE0;go_wp2_with (go_at_call 57;(with_reducible refine he.mono ?_);rintro e w2 ⟨⟨v,rfl,hG⟩,hb⟩;obtain⟨A,c,rfl,h1,h2⟩:=hG.form;have a8:=HB;replace HB:=zQ9 (zA9 (HB.o.step hb) hG);clear hb hG)
   go_ret2
   have ha:askE b=0:=k2d a0.o.symm (fun h=>a6.o (by rw[HL.o.1,h];rfl))
   unfold j9z;rw[ha,<-HL.o.2];obtain⟨mv,g1,g2,g3⟩:=HB.o.2.own;exact⟨.inr ⟨rfl,_,rfl,⟨⟨mv,Own.mono g1 a8.o.2.2.size,g2,g3⟩,HB.o.2.sh,zB6 a8.o.2.2.size HB.o.2.zw⟩⟩,HB.o.1.2.2⟩
 ·have x1:(ce != 0)=true:=by simp[h0]
  have H0:=zQ9 h0;clear h0;go_wp2_with (go_at_call 18;(with_reducible refine a1.mono ?_);rintro e w1 ⟨rfl,a2⟩;replace HB:=zQ9 (HB.o.step a2);clear a2 c0 c1 c2 c3 c4 a4)
  go_ret2
  have ha:askE b=ce:=by rw[a0.o];exact k8h (by rw[<-a0.o];exact H0.o)
  unfold j9z;rw[ha];exact⟨.inl ⟨H0.o,rfl⟩,HB.o.2.2⟩
end Go.Proofs.YtmennjmjakdkcaaGreat
