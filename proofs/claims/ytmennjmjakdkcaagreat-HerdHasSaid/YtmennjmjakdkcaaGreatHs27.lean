/- HerdHas. -/
import Derived.Test.YtmennjmjakdkcaaGreatHs26
import Derived.Shelf.Abstract
import Derived.Lib.QuietBelowIn
import Derived.RangeFuncBound
import Derived.RangeFuncCalls
import Derived.RangeFuncLeaves
import Derived.Shelf.RegionOpen
import Derived.OwnWalkIn
import Derived.TacticsInMore
import Derived.LoopNIn
import Derived.LoopIn
set_option linter.unusedVariables false
set_option linter.unusedSimpArgs false
set_option maxRecDepth 100000
set_option maxHeartbeats 8000000
namespace Go.Proofs.YtmennjmjakdkcaaGreat
open Go.RowKit
theorem Grid.zz {w:World} {A:Option Addr} {n:Nat} {ls:Gr} (h:Grid w A n ls) (hp:∀ r∈ls,0<r.length):j0z w A n ls:=by
 obtain⟨mv,h1,h2,h3⟩:=h
 refine⟨mv,h1,h2,fun i v hv=>?_⟩
 obtain⟨B,l,c,a1,a2,a3,a4,a5⟩:=h3 i v hv
 refine⟨B,l,c,a1,a2,a3,a4,a5,fun hB=>?_⟩
 obtain⟨b,o,x,e,-⟩:=Ints.get a3 (hp l (List.mem_of_getElem? a1))
 rw[hB] at e
 cases e
theorem OwnGG.get2 {z n nf:Nat} {v:Value} {E:List Gr} {w:World} (h:OwnGG z n nf v E w) {k:Nat} (hk:k<E.length) :
 ∃ b off cap A c g,v=.slice (some ⟨b,off,none⟩) E.length cap∧E.length≤cap∧cap≤maxLen∧E[k]?=some g∧w.cell? ⟨b,off+k,none⟩=some (.slice A nf c)∧nf≤c∧c≤maxLen∧∀ w',Below w.heap.size w w'→j0z w' A nf g:=by
 obtain⟨mv,h1,h2,h3⟩:=h.own
 obtain⟨A0,c0,hv,hs,hc,hm⟩:=h1.form j3c
 rw[h2] at hs hv hc
 obtain⟨b,off,x,hA,hb,hx,hcl⟩:=Vals.get hs hk
 obtain⟨A,c,a1,a2,a3,a4⟩:=h3 k x E[k] hx (List.getElem?_eq_getElem hk)
 subst hA a1
 exact⟨b,off,c0,A,c,E[k],hv,hc,hm,List.getElem?_eq_getElem hk,hcl,a2,a3,fun w' hb=>a4 w' (j3j hb)⟩
theorem OwnGG.one {z n nf:Nat} {w:World} {A:Option Addr} {c:Nat} {g:Gr} (hz:z≤w.heap.size) (hg:∀ w',Below w.heap.size w w'→j0z w' A nf g) (hsh:GSh n nf g) (hc:nf≤c∧c≤maxLen) :
 OwnGG z n nf (.slice (some ⟨w.heap.size,0,none⟩) 1 1) [g] (w.alloc (Obj.cells #[.slice A nf c] 26)):=by
 refine⟨⟨[.slice A nf c],?_,rfl,fun i u g' hu hg'=>?_⟩,fun g' hg'=>?_,?_⟩
 ·have:=Own.lit (enc:=eVal) (e:=26) (sz:=1) w z #[Value.slice A nf c] [Value.slice A nf c] rfl j3c hz (by show 1≤maxLen;decide)
  simpa using this
 ·cases i with
  | zero =>
    cases hu
    cases hg'
    refine⟨A,c,rfl,hc.1,hc.2,fun w' hgr=>hg w' ⟨hgr.os,hgr.tape,hgr.output,Nat.le_trans (by simp) hgr.size,fun j hj=>?_⟩⟩
    rw[hgr.block j (by simp;omega) (fun e=>by simp[Value.ownBlock] at e;omega)]
    exact Below.heap_alloc _ _ _ hj
  | succ i=>simp at hu
 ·rw[List.mem_singleton.1 hg'];exact hsh
 ·simp;omega
theorem q2q (b:Hb) (hok:HeOk b.t b.l b.ks b.hs b.ds) (deed owner:Int) (ho:0≤deed→0≤owner) (w:World) (hin:HbIn w b) :
 Calls Tryz.prog 103 #[b.v,.int .i64 deed,.int .i64 owner] w fun e w'=>(∃ v,e=.returned v∧OwnGG w.heap.size b.l.length b.ks.length v (j4k b.t b.l b.hs b.ds deed owner) w')∧Below w.heap.size w w':=by
 obtain⟨V,hV⟩:∃ V,V=w.alloc b.obj:=⟨_,rfl⟩
 obtain⟨p,hp⟩:∃ p,p=w.heap.size:=⟨_,rfl⟩
 have b0:V.heap[p]?=some b.obj:=by rw[hV,hp];exact j0c rfl
 have hBV:Below w.heap.size w V:=by rw[hV];exact bal0 w _
 have hiV:=hin.below hBV (zL9 _)
 obtain⟨c0,c1,c2,c3,c4⟩:=j0h b0
 have hgz:∀ w',Below V.heap.size V w'→j0z w' b.Ah b.ks.length b.hs:=fun w' hb=>by
  have h1:=(hiV.h.below hb (zL9 _)).zz (fun r hr=>by rw[hok.rl r hr];exact hok.n0)
  rwa [hok.hl] at h1
 obtain⟨w1,hw1⟩:∃ W,W=V.alloc (Obj.cells #[.slice b.Ah b.hs.length b.ch] 26):=⟨_,rfl⟩
 have hone:OwnGG w.heap.size b.l.length b.ks.length (.slice (some ⟨V.heap.size,0,none⟩) 1 1) (j1u b.t b.l deed owner b.ds b.hs 0) w1:=by
  rw[hw1,hok.hl]
  exact OwnGG.one hBV.size hgz ⟨hok.hl,hok.rl⟩ ⟨by rw[←hok.hl];exact hin.hc,hin.hm⟩
 have hB1:Below w.heap.size w w1:=by rw[hw1];exact hBV.trans ((bal0 V _).mono hBV.size)
 have b1:w1.heap[p]?=some b.obj:=by rw[hw1];exact j0b b0 _
 have hi1:=hin.below hB1 (zL9 _)
 obtain⟨vg,hvg⟩:∃ vg,vg=V.heap.size:=⟨_,rfl⟩
 rw[←hvg] at hone
 have HX:=zQ9 (zA9 hone (zA9 hB1 (zA9 b1 (zA9 hi1 (zA9 hok ho)))))
 have hd6:=hok.d6
 clear hone hB1 b1 hi1 hok ho hin hBV hiV hgz b0
 unfold Hb.v
 go_enter Tryz.func103,Tryz.ntmps103
 go_upto_region 1 with (fail)
 rw[←hV,←hp]
 clear hV hp
 go_upto_region 2 with (fail)
 rw[←hw1,←hvg]
 have hzv:=HX.out.2.1.size
 clear hw1 hvg c0 c1 c2 c3 c4
 go_upto_region 3 with (fail)
 go_loopg [7,8,9,10,11] b.ds.length (fun gh v7 v8 _ _ _ wr=>∃ i:Nat,i+gh=b.ds.length∧v8=.int .i64 i∧OwnGG w.heap.size b.l.length b.ks.length v7 (j1u b.t b.l deed owner b.ds b.hs i) wr∧Below w1.heap.size w1 wr)
 case atStart=>exact⟨0,by omega,rfl,HX.out.1,Below.refl _ _⟩
 case round =>
  obtain⟨i,hi,rfl,hE,hb⟩:=hrel
  obtain⟨g1,rfl⟩:∃ g1:Nat,g1=gk:=⟨_,rfl⟩
  obtain⟨w2,hw2⟩:∃ W:World,W=wr:=⟨_,rfl⟩
  rw[←hw2] at hE hb ⊢
  clear hw2
  have hP2:=j0e HX.out.2.2.1 hb (zL9 _)
  have hi2:=HX.out.2.2.2.1.below hb (zL9 _)
  obtain⟨c0,c1,c2,c3,c4⟩:=j0h hP2
  have hlp:=j0a hP2
  by_cases hlt:i<b.ds.length
  ·obtain⟨d,hd⟩:∃ d,b.ds[i]?=some d:=⟨_,List.getElem?_eq_getElem hlt⟩
   have hEt:=etOk (deed:=deed) (owner:=owner) HX.out.2.2.2.2.1 i (by omega)
   obtain⟨E,hEE⟩:∃ E,E=j1u b.t b.l deed owner b.ds b.hs i:=⟨_,rfl⟩
   have hsc:=k3y (t:=b.t) (l:=b.l) (deed:=deed) (owner:=owner) (hs:=b.hs) hd
   have hsh:=hEt.sh
   have hln:=hEt.ln
   rw[←hEE] at hE hsc hsh hln
   obtain⟨A7,c7,rfl,hc7,hm7⟩:=hE.form
   have hM:E.length≤52521875:=Nat.le_trans hln (Nat.le_trans (Nat.pow_le_pow_right (by decide) (show i≤5 by omega)) (by decide))
   obtain⟨F,hF⟩:∃ F:List Gr→Gr→List Gr,F=fun F g=>j1e b.t b.l deed owner i d F g:=⟨_,rfl⟩
   rw[←hF] at hsc
   have hpart:∀ k,((E.take k).foldl F []).length≤35*k:=fun k=>by
    rw[hF]
    refine Nat.le_trans (k8v HX.out.2.2.2.2.1.n5 (HX.out.2.2.2.2.1.dI d (List.mem_of_getElem? hd)) (j7y (HX.out.2.2.2.2.1.dE d (List.mem_of_getElem? hd))) (E.take k) fun g hg=>⟨(hsh g (List.mem_of_mem_take hg)).1,(hsh g (List.mem_of_mem_take hg)).2.1⟩).2.2 ?_
    rw[List.length_take]
    exact Nat.mul_le_mul_left _ (Nat.min_le_left _ _)
   have i1:(i:Int)<(b.ds.length:Int):=by omega
   have HE:=zQ9 (zA9 hi (zA9 hE (zA9 hb (zA9 hd (zA9 hsc (zA9 hsh (zA9 hpart (zA9 hF hP2))))))))
   have HI2:=zQ9 hi2
   clear hi hE hb hd hsc hsh hpart hF hP2 hEt hln hEE hi2
   go_upto_if 24 with (fail)
   go_cut [10,25] (fun q u25 wc=>q=.int .i64 (if (i:Int)=deed then owner else -1)∧w2=wc)
   case first =>
    cases e1:((i:Int)==deed)
    all_goals
     have HE1:=zQ9 e1
     go_wp2_with fail
     go_meet
     refine⟨?_,rfl⟩
     have:=HE1.out
     simp at this
     simp[this]
   case rest =>
    obtain⟨rfl,rfl⟩:=hcut
    obtain⟨own,hown⟩:∃ own,own=if (i:Int)=deed then owner else -1:=⟨_,rfl⟩
    rw[←hown]
    have HOW:=zQ9 hown
    clear hown
    go_upto_region 10 with (fail)
    go_loopg [9,11] E.length (fun gh v9 v11 wr=>∃ k:Nat,k+gh=E.length∧v11=.int .i64 k∧GgE w.heap.size b.l.length b.ks.length (.slice none 0 0) w2 v9 ((E.take k).foldl F []) wr)
    case atStart=>exact⟨0,by omega,rfl,GgE.refl (OwnGG.nil_ (by have:=HE.out.2.2.1.size;omega))⟩
    case round =>
     obtain⟨k,hk,rfl,hG⟩:=hrel
     obtain⟨w3,hw3⟩:∃ W:World,W=wr:=⟨_,rfl⟩
     rw[←hw3] at hG ⊢
     clear hw3
     have hb3:Below w2.heap.size w2 w3:=j6b hG.gr
     by_cases hlk:k<E.length
     ·obtain⟨b7,o7,cap,A,c,g,e7,-,-,hgk,y7,hc,hm,hgz⟩:=HE.out.2.1.get2 hlk
      cases e7
      obtain⟨G,hGG⟩:∃ G,G=(E.take k).foldl F []:=⟨_,rfl⟩
      have hGl:=HE.out.2.2.2.2.2.2.1 k
      have hnx:(E.take (k+1)).foldl F []=F ((E.take k).foldl F []) g:=by rw[List.take_add_one,hgk,List.foldl_append];rfl
      rw[←hGG] at hG hGl hnx
      have hs:=HE.out.2.2.2.2.2.1 g (List.mem_of_getElem? hgk)
      have hdo:∀ nq,Calls Tryz.prog 129 #[b.v,u9,.slice A b.ks.length c,dv d,.int .i64 own] (w3.drewN nq) fun e w'=>∃ v',e=.returned v'∧GgE w.heap.size b.l.length b.ks.length u9 (w3.drewN nq) v' (F G g) w':=fun nq=>by
       have hdr:Below w3.heap.size w3 (w3.drewN nq):=j0l (Below.refl _ _) nq
       rw[HOW.out,HE.out.2.2.2.2.2.2.2.1]
       exact q3f b HX.out.2.2.2.2.1 deed owner i d HE.out.2.2.2.1 (fun e=>HX.out.2.2.2.2.2 (by omega)) w.heap.size u9 G A c g (w3.drewN nq) (hG.gg.below hdr) hs.1 hs.2.1 (hs.2.2.mono (by omega))
        (fun w' hg=>hG.keep (P:=fun w'=>j0z w' A b.ks.length g) (fun w' hg=>hgz w' (j6b hg)) w' ((j3j hdr).trans hg))
        (fun w' hg=>hG.keep (P:=fun w'=>HbIn w' b) (fun w' hg=>HI2.out.below (j6b hg) (zL9 _)) w' ((j3j hdr).trans hg)) ⟨hc,hm⟩ (by omega)
      have y7:=j2k y7 hb3 (zL9 _)
      have hb7:=j2b y7
      obtain⟨c0,c1,c2,c3,c4⟩:=j0h (j0e HE.out.2.2.2.2.2.2.2.2 hb3 (zL9 _))
      have hi3:=HI2.out.below hb3 (zL9 _)
      obtain⟨bd,od,d',eA,hbd,hd',d0,d1,d2,d3,d4,d5,d6,d7,d8,d9,d10,d11⟩:=hi3.d.get hlt
      rw[HE.out.2.2.2.1] at hd'
      cases hd'
      unfold Hb.v dv at hdo
      rw[eA] at c4 hdo
      have hlp:=j0a (j0e HE.out.2.2.2.2.2.2.2.2 hb3 (zL9 _))
      have hdc:=hi3.dc
      have hdm:=hi3.dm
      have i2:(k:Int)<(E.length:Int):=by omega
      have HK:=zQ9 (zA9 hk (zA9 hG (zA9 hnx hb3)))
      have HDO:=zQ9 hdo
      clear hk hG hnx hb3 hdo hgk hgz hs hGG hi3 eA hGl
      go_upto_region 12 with (fail)
      refine j1r (C:=fun w'=>∃ n,w'=w3.drewN n) 12 (by kernel_rfl) (by kernel_rfl) ⟨1,rfl⟩ ?_
      simp only[List.take_succ_cons,List.take_zero,List.drop_succ_cons,List.drop_zero]
      repeat (quiet_step (fail))
      refine wpQuiet_nil ?_
      intro _ hw'
      obtain⟨nq,hw''⟩:=hw'
      subst hw''
      have hdo:=HDO.out nq
      clear c0 c1 c2 c3 c4 d0 d1 d2 d3 d4 d5 d6 d7 d8 d9 d10 d11 y7
      go_wp2_with (go_at_call 129;(with_reducible refine hdo.mono ?_);rintro e w4 ⟨v4,rfl,hE4⟩;have H4:=zQ9 hE4;clear hE4)
      go_roundg (gk-1)
      case measure=>have:=HK.out.1;omega
      case rel =>
       refine⟨k+1,by have:=HK.out.1;omega,by go_num,?_⟩
       rw[HK.out.2.2.1]
       exact HK.out.2.1.trans (GgE.before (j0l (Below.refl _ _) nq) H4.out)
     ·obtain rfl:k=E.length:=by omega
      rw[List.take_length,←HE.out.2.2.2.2.1] at hG
      have HG:=zQ9 (zA9 hG hb3)
      clear hG hb3 hk c0 c1 c2 c3 c4
      go_wp2_with fail
      go_roundg (g1-1)
      case measure=>have:=HE.out.1;omega
      case rel=>exact⟨i+1,by have:=HE.out.1;omega,by go_num,HG.out.1.gg,HE.out.2.2.1.trans (HG.out.2.mono HE.out.2.2.1.size)⟩
  ·obtain rfl:i=b.ds.length:=by omega
   have HE:=zQ9 (zA9 hE hb)
   clear hE hb hi hi2 hP2
   go_wp2_with fail
   go_ret
   exact⟨⟨_,rfl,HE.out.1⟩,HX.out.2.1.trans (HE.out.2.mono HX.out.2.1.size)⟩
end Go.Proofs.YtmennjmjakdkcaaGreat
namespace Go.Proofs.YtmennjmjakdkcaaGreat
open Go.RowKit Go.MapKept
attribute [local go_sem] Oper.semAt_some
theorem q4e (k:Int) (hk:1≤k∧k≤6):Enters Tryz.prog (kf k):=by
 obtain rfl|rfl|rfl|rfl|rfl|rfl:k=1∨k=2∨k=3∨k=4∨k=5∨k=6:=by omega
 ·exact enters_of Tryz.func133 (by kernel_rfl) rfl
 ·exact enters_of Tryz.func134 (by kernel_rfl) rfl
 ·exact enters_of Tryz.func135 (by kernel_rfl) rfl
 ·exact enters_of Tryz.func136 (by kernel_rfl) rfl
 ·exact enters_of Tryz.func137 (by kernel_rfl) rfl
 ·exact enters_of Tryz.func138 (by kernel_rfl) rfl
def Keys (b:Hb) (deed owner:Int) (i:Nat) (K:List (List Int)):Prop:=∀ x,x∈K↔x∈j1d b.t b.l b.hs b.ds deed owner i
def InnR (w4 wi:World) (S2 M r:Nat) (K:List (List Int)) (sc:List Int→List (List Int)) (g:Nat):Prop :=
 ∃ L done K2,g=L.length∧K.Perm (done++L)∧j2r wi M r K L∧MetH wi S2 K2∧(∀ x,x∈K2↔∃ h∈done,x∈sc h)∧wi.os=w4.os∧wi.tape=w4.tape∧wi.output=w4.output∧w4.heap.size+1≤wi.heap.size∧∀ j,j<w4.heap.size→j≠S2→wi.heap[j]?=w4.heap[j]?
theorem InnR.next {w4 w5 w6:World} {S2 M r:Nat} {K K2 L L' done:List (List Int)} {x:List Int} {sc:List Int→List (List Int)} (hperm:K.Perm (done++L)) (hp:L.Perm (x::L')) (hP:PutsH w5 w6 S2 (sc x)) (hm:MetH w5 S2 K2) (hi:j2r w5 M r K L')
 (hk:∀ y,y∈K2↔∃ h∈done,y∈sc h) (hM:M≠S2) (hr:r≠S2) (ho:w5.os=w4.os) (ht:w5.tape=w4.tape) (hu:w5.output=w4.output) (hz:w4.heap.size+1≤w5.heap.size) (hf:∀ j,j<w4.heap.size→j≠S2→w5.heap[j]?=w4.heap[j]?) :
 InnR w4 w6 S2 M r K sc L'.length:=by
 obtain⟨K',h1,h2⟩:=hP.met K2 hm
 have hg:=hP.gr
 refine⟨L',done++[x],K',rfl,?_,?_,h1,fun y=>?_,hg.os.trans ho,hg.tape.trans ht,hg.output.trans hu,Nat.le_trans hz hg.size,fun j hj hne=>?_⟩
 ·refine hperm.trans ?_
  rw[List.append_assoc]
  exact(hp.append_left done)
 ·have hlM:=hi.met.lt
  have hlr:=hi.lt
  exact hi.keep (hg.block M hlM (fun e=>by cases e;exact hM rfl)) (hg.block r hlr (fun e=>by cases e;exact hr rfl))
 ·rw[h2,hk]
  constructor
  ·rintro(⟨h,hh,hy⟩|hy)
   ·exact⟨h,List.mem_append.2 (.inl hh),hy⟩
   ·exact⟨x,by simp,hy⟩
  ·rintro⟨h,hh,hy⟩
   rcases List.mem_append.1 hh with hh|hh
   ·exact .inl ⟨h,hh,hy⟩
   ·simp at hh;subst hh;exact .inr hy
 ·exact(hg.block j (by omega) (fun e=>by cases e;exact hne rfl)).trans (hf j hj hne)
structure TE (S:Nat) (x:List Int) (p:Nat) (n:Nat) (a b:World):Prop where
 os:b.os=a.os
 tape:b.tape=a.tape
 output:b.output=a.output
 size:a.heap.size≤b.heap.size
 block:∀ k,k<S→b.heap[k]?=a.heap[k]?
 mp:∀ M K,MetH a M K→S≤M→(∀ k∈K,k=x)→∃ K',MetH b M K'∧(∀ k∈K',k=x)∧(x∈K→x∈K')
 dm:∀ D,S≤D→a.heap[D]?=some (.map (j2a p) 6)→b.heap[D]?=some (.map (j2a p) 6)
section
variable {S:Nat} {x:List Int} {p:Nat}
theorem TE.rf (w:World):TE S x p 1 w w:=⟨rfl,rfl,rfl,zL9 _,fun _ _=>rfl,fun M K h _ hk=>⟨K,h,hk,id⟩,fun _ _ h=>h⟩
theorem TE.tr:∀ n a b c,TE S x p n a b→TE S x p 1 b c→TE S x p (n+1) a c:=fun n a b c h k =>
 ⟨k.os.trans h.os,k.tape.trans h.tape,k.output.trans h.output,Nat.le_trans h.size k.size,fun i hi=>(k.block i hi).trans (h.block i hi),fun M K hM hS hK=>by
  obtain⟨K1,a1,a2,a3⟩:=h.mp M K hM hS hK
  obtain⟨K2,b1,b2,b3⟩:=k.mp M K1 a1 hS a2
  exact⟨K2,b1,b2,fun e=>b3 (a3 e)⟩,fun D hD hd=>k.dm D hD (h.dm D hD hd)⟩
theorem TE.draw (w:World):TE S x p 0 w { w with drawn:=w.drawn+1 }:=⟨rfl,rfl,rfl,zL9 _,fun _ _=>rfl,fun M K h _ hk=>⟨K,h,hk,id⟩,fun _ _ h=>h⟩
theorem TE.of {a b:World} {B:Nat} (h:Below B a b) (hB:a.heap.size≤B) (hS:S≤a.heap.size):TE S x p 1 a b :=
 ⟨h.os,h.tape,h.output,h.size,fun k hk=>h.block k (by omega),fun M K hM _ hK=>⟨K,hM.keep (h.block M (by have:=hM.lt;omega)),hK,id⟩,fun D _ hd=>j0e hd h hB⟩
theorem does_no {w:World} {M:Nat} {K:List (List Int)} (h:MetH w M K):w.heap[M]?≠some (.map (j2a p) 6):=by
 obtain⟨es,c,h1,h2,h3,h4⟩:=h
 intro e
 rw[h1] at e
 injection e with e
 injection e with e1 e2
 have hm:(⟨.int .i64 1,(.func (.func 133) #[.pointer (some ⟨p,0,none⟩)] #[]),0⟩:MapEntry)∈es.toList:=by rw[e1];simp[j2a]
 obtain⟨k,_,hk,_⟩:=j8r h3 hm
 cases hk
theorem TE.put {a:World} {M:Nat} {K K':List (List Int)} {ob:Obj} (h:MetH a M K) (hS:S≤M) (hK:∀ k∈K,k=x) (h1:∀ w':World,w'.heap[M]?=some ob→MetH w' M K') (h2:∀ q,q∈K'↔q∈K∨q=x):TE S x p 1 a { a with heap:=a.heap.setIfInBounds M ob }:=by
 have hlt:=h.lt
 have hoff:∀ k,k≠M→({ a with heap:=a.heap.setIfInBounds M ob }:World).heap[k]?=a.heap[k]?:=fun k hk=>Array.getElem?_setIfInBounds_ne (fun e=>hk e.symm)
 refine⟨rfl,rfl,rfl,by simp,fun k hk=>hoff k (by omega),fun N L hN _ hL=>?_,fun D _ hd=>?_⟩
 ·by_cases e:N=M
  ·subst e
   obtain rfl:=h.uniq hN
   refine⟨K',h1 _ (Array.getElem?_setIfInBounds_self_of_lt hlt),fun k hk=>?_,fun _=>(h2 _).2 (.inr rfl)⟩
   rcases(h2 k).1 hk with hk|hk
   ·exact hK k hk
   ·exact hk
  ·exact⟨L,hN.keep (hoff N e),hL,id⟩
 ·rw[hoff D (fun e=>does_no h (e ▸ hd))]
  exact hd
def FM (S:Nat) (x:List Int):VF:=fun v w=>∃ M,S≤M∧v=.map (some M)∧∃ K,MetH w M K∧∀ k∈K,k=x
def FMx (S:Nat) (x:List Int):VF:=fun v w=>∃ M,S≤M∧v=.map (some M)∧∃ K,MetH w M K∧(∀ k∈K,k=x)∧x∈K
def FD (S p:Nat):VF:=fun v w=>∃ D,S≤D∧v=.map (some D)∧w.heap[D]?=some (.map (j2a p) 6)
theorem FM.st:∀ n v w w',TE S x p n w w'→FM S x v w→FM S x v w':=fun n v w w' h ⟨M,h1,h2,K,h3,h4⟩=>by
 obtain⟨K',a1,a2,_⟩:=h.mp M K h3 h1 h4
 exact⟨M,h1,h2,K',a1,a2⟩
theorem FMx.st:∀ n v w w',TE S x p n w w'→FMx S x v w→FMx S x v w':=fun n v w w' h ⟨M,h1,h2,K,h3,h4,h5⟩=>by
 obtain⟨K',a1,a2,a3⟩:=h.mp M K h3 h1 h4
 exact⟨M,h1,h2,K',a1,a2,a3 h5⟩
theorem FD.st:∀ n v w w',TE S x p n w w'→FD S p v w→FD S p v w':=fun n v w w' h ⟨D,h1,h2,h3⟩=>⟨D,h1,h2,h.dm D h1 h3⟩
theorem one_key {K:List (List Int)} (hn:K.Nodup) (h:∀ k∈K,k=x) (hx:x∈K):K=[x]:=by
 cases K with
 | nil=>cases hx
 | cons a K =>
   obtain rfl:=h a List.mem_cons_self
   cases K with
   | nil=>rfl
   | cons c K =>
     have:=h c (by simp)
     subst this
     simp at hn
end
def EqF' (c:Value):VF:=fun v _=>v=c
theorem ends_it (n:Nat) (hn:1≤n) (w0:World) (p q:Nat) (b:Hb) (deed owner:Int) (w:World) (hW:Work w0 p b deed owner w) (hq:w.heap[q]?=some (Obj.cells #[.pointer (some ⟨p,0,none⟩)] 98 (0,0))) :
 SeqE Fence.wide n Tryz.prog 115 #[.pointer (some ⟨q,0,none⟩)] (fun x=>#[.agg (hcs x)]) (ExN p) (fun xs=>xs.Perm (b.ends deed owner)) (fun pre=>∃ r,(pre++r).Perm (b.ends deed owner)) w:=fun l J Jx W hBW hJ hJx hJE hY h0=>by
 have hWk:=hW.below hBW (zL9 _)
 have hqW:=j0e hq hBW (zL9 _)
 have hqp:q≠p:=by
  intro e
  obtain⟨now,hp⟩:=hW.hp
  rw[e,hp] at hq
  cases hq
 have hpl:=hWk.lt
 have hql:=j0a hqW
 have hok:=hWk.ok
 obtain⟨now,hp⟩:=hWk.hp
 have hBk:=hWk.book hp
 have hG:=hWk.inn.h
 have cq:=blk1 hqW
 have h3:b.hs.length≤3:=by have:=hok.hl;have:=hok.f3;omega
 have h5:∀ r∈b.hs,r.length≤5:=fun r hr=>by have:=hok.rl r hr;have:=hok.n5;omega
 have hfb:=j5h hok.rb
 obtain⟨fh,hfh⟩:∃ fh,fh=j0j b.hs:=⟨_,rfl⟩
 rw[←hfh] at hfb
 have hfo:HOk fh:=HOk.of hfb (by omega)
 have hfl:=hfb.1
 have HC:=zQ9 (zA9 hBk (zA9 hG (zA9 h3 h5)))
 have HF:=zQ9 hfh
 have HY:=zQ9 hY
 have HJ:=zQ9 (zA9 hJ (zA9 hJx hJE))
 have H0:=zQ9 h0
 have HW:=zQ9 (zA9 hWk (zA9 hok hBW))
 have HQ:=zQ9 (zA9 hqW hp)
 clear hY hJ hJx hJE h0 hWk hok hBW hBk hG h3 h5 hfh hqW hp hW hq hfb
 refine callsIn_of_wp Tryz.func115 rfl trivial ?_ rfl
 simp only[Tryz.ntmps115,List.size_toArray,List.length_cons,List.length_nil,Nat.reduceAdd,Nat.reduceSub,Array.replicate_succ,Array.replicate_zero,List.push_toArray,List.append_toArray,List.nil_append,List.cons_append]
 refine wpIn_wide.2 ?_
 go_upto_region 0 with (fail)
 go_cut [3,4] (fun v3 v4 wx=>∃ M D:Nat,v3=.map (some M)∧v4=.map (some D)∧MetH wx M [fh]∧wx.heap[D]?=some (.map (j2a p) 6)∧W.grownBy wx none∧W.heap.size≤M∧W.heap.size≤D)
 case first =>
  obtain⟨S,hS⟩:∃ S,S=W.heap.size:=⟨_,rfl⟩
  have HH:Hid (∀ n' w',TE S fh p n' W w'→Below S W w'):=zQ9 fun n' w' h=>⟨h.os,h.tape,h.output,h.size,h.block⟩
  have HCQ:Hid (∀ n' w',TE S fh p n' W w'→w'.cell? ⟨q,0,none⟩=some (.pointer (some ⟨p,0,none⟩))):=zQ9 fun n' w' h=>j2k cq (HH.out n' w' h) (Nat.le_of_eq hS.symm)
  have HBS:Hid (∀ n' w',TE S fh p n' W w'→S≤w'.heap.size):=zQ9 fun n' w' h=>by have:=h.size;omega
  have HS:=zQ9 hS
  have HFI:Hid (∀ n' w',TE S fh p n' W w'→Calls Tryz.prog 104 #[.pointer (some ⟨p,0,none⟩)] w' fun e w''=>e=.returned (.agg (hcs fh))∧Below w'.heap.size w' w''):=zQ9 fun n' w' h=>by
   have hb:=HH.out n' w' h
   have hB:=HC.out.1
   have:=k6a p b.t b.A b.l.length b.c b.l b.vk b.vd b.Ah b.ch b.hs deed owner now w' ⟨j0e hB.hp hb (Nat.le_of_eq hS.symm),hB.hl.below hb (Nat.le_of_eq hS.symm),hB.nc,hB.cm,hB.ck⟩ (HC.out.2.1.below hb (Nat.le_of_eq hS.symm)) HC.out.2.2.1 HC.out.2.2.2
   rw[←HF.out] at this
   exact this
  clear hS cq
  refine j6z (TE S fh p) (by kernel_rfl) (by kernel_rfl) TE.tr (TE.draw _) ?_
  apply Exists.intro
  refine⟨fun ys=>?_,fun ops K hK=>?_⟩
  ·simp only[j0q,List.filterMap_cons,List.filterMap_nil,j0r]
   go_simp
   rfl
  have hmm:=@run_makeMap Tryz.prog
  refine LexI.some (FM S fh) (FM.st) (fun n' ys w' hn' hT hd=>?_) ?_
  ·try simp[j0f,j0g,DF.holds,Region.binds,EqF] at hd
   try simp only[hd]
   have hsz:=HBS.out n' w' hT
   intro Q2 hQ2
   go_wp2_with fail
   exact⟨TE.of (bal0 w' _) (zL9 _) hsz,_,hsz,rfl,[],k4m (j0c rfl),fun k hk=>by cases hk⟩
  try simp only[List.nil_append,List.cons_append]
  clear hmm
  refine LexI.const TE.rf ?_
  refine⟨.pointer (some ⟨p,0,none⟩),fun n' ys w' hn' hT hd=>?_,?_⟩
  ·try simp[j0f,j0g,DF.holds,Region.binds,EqF] at hd
   try simp only[hd]
   obtain cq:=HCQ.out n' w' hT
   intro Q2 hQ2
   go_wp2_with fail
   try rfl
  try simp only[List.nil_append,List.cons_append]
  refine LexI.some (EqF' (.agg (hcs fh))) (fun _ _ _ _ _ h=>h) (fun n' ys w' hn' hT hd=>?_) ?_
  ·try simp[j0f,j0g,DF.holds,Region.binds,EqF] at hd
   try simp only[hd]
   have hbw:=HH.out n' w' hT
   have hsz:=HBS.out n' w' hT
   intro Q2 hQ2
   go_wp2_with (go_at_call 104;refine(HFI.out n' w' hT).mono ?_;rintro e w2 ⟨rfl,hb2⟩)
   exact⟨_,rfl,TE.of hb2 (zL9 _) hsz,rfl⟩
  try simp only[List.nil_append,List.cons_append]
  refine LexI.ref 10 (FMx S fh) (FMx.st) rfl rfl (fun n' ys w' hn' hT hd=>?_) ?_
  ·try simp[j0f,j0g,DF.holds,Region.binds,EqF] at hd
   try simp only[hd]
   obtain⟨⟨M,hSM,h10,K,hK1,hK2⟩,h12⟩:=hd
   unfold EqF' at h12
   obtain⟨ob,hrun,hlt,K',hK3,hK4⟩:=k9d fh hfo w' M K hK1
   rw[show hv fh=.agg (hcs fh) from rfl] at hrun
   have hTE:=TE.put (p:=p) (a:=w') hK1 hSM hK2 hK3 hK4
   have hF:FMx S fh (.map (some M)) { w' with heap:=w'.heap.setIfInBounds M ob }:=⟨M,hSM,rfl,K',hK3 _ (Array.getElem?_setIfInBounds_self_of_lt hlt),fun k hk=>((hK4 k).1 hk).elim (hK2 k) id,(hK4 _).2 (.inr rfl)⟩
   have HTF:=zQ9 (zA9 hTE hF)
   clear hTE hF hK1 hK2 hK3 hK4 hlt
   intro Q2 hQ2
   simp only[h10,h12]
   go_wp2_with fail
   exact HTF.out
  try simp only[List.nil_append,List.cons_append]
  refine LexI.some (FMx S fh) (FMx.st) (fun n' ys w' hn' hT hd=>?_) ?_
  ·simp[j0f,j0g,DF.holds,Region.binds,EqF] at hd
   have HM:=zQ9 hd.2.2.2
   clear hd
   intro Q2 hQ2
   go_wp2_with fail
   exact⟨TE.rf _,HM.out⟩
  try simp only[List.nil_append,List.cons_append]
  refine LexI.const TE.rf ?_
  refine⟨.pointer (some ⟨p,0,none⟩),fun n' ys w' hn' hT hd=>?_,?_⟩
  ·try simp[j0f,j0g,DF.holds,Region.binds,EqF] at hd
   try simp only[hd]
   obtain cq:=HCQ.out n' w' hT
   intro Q2 hQ2
   go_wp2_with fail
   try rfl
  try simp only[List.nil_append,List.cons_append]
  refine LexI.some (FD S p) (FD.st) (fun n' ys w' hn' hT hd=>?_) ?_
  ·try simp[j0f,j0g,DF.holds,Region.binds,EqF] at hd
   try simp only[hd]
   have hsz:=HBS.out n' w' hT
   intro Q2 hQ2
   go_wp2_with (go_at_call 116;refine(does_any p _).mono ?_;rintro e w2 ⟨rfl,rfl⟩)
   exact⟨_,rfl,TE.of (bal0 w' _) (zL9 _) hsz,w'.heap.size,hsz,rfl,j0c rfl⟩
  try simp only[List.nil_append,List.cons_append]
  refine LexI.some (FMx S fh) (FMx.st) (fun n' ys w' hn' hT hd=>?_) ?_
  ·simp[j0f,j0g,DF.holds,Region.binds,EqF] at hd
   have HM:=zQ9 hd.1
   clear hd
   intro Q2 hQ2
   go_wp2_with fail
   exact⟨TE.rf _,HM.out⟩
  try simp only[List.nil_append,List.cons_append]
  refine LexI.some (FD S p) (FD.st) (fun n' ys w' hn' hT hd=>?_) ?_
  ·simp[j0f,j0g,DF.holds,Region.binds,EqF] at hd
   have HM:=zQ9 hd.1
   clear hd
   intro Q2 hQ2
   go_wp2_with fail
   exact⟨TE.rf _,HM.out⟩
  try simp only[List.nil_append,List.cons_append]
  refine hK _ (fun n' ys w5 hn' hT hF=>?_)
  simp only[AllF,DF.holds] at hF
  obtain⟨-,-,-,-,-,-,-,⟨M,hM1,hM2,K1,hM3,hM4,hM5⟩,⟨D,hD1,hD2,hD3⟩,-⟩:=hF
  have HT:=zQ9 hT
  have HMD:=zQ9 (zA9 hM1 (zA9 hM3 (zA9 hM4 (zA9 hM5 (zA9 hD1 hD3)))))
  clear hT hM1 hM3 hM4 hM5 hD1 hD3
  go_wp2_with fail
  go_meet
  have hk:K1=[fh]:=one_key HMD.out.2.1.nodup HMD.out.2.2.1 HMD.out.2.2.2.1
  refine⟨M,D,rfl,rfl,by rw[←hk];exact HMD.out.2.1,HMD.out.2.2.2.2.2,?_,?_,?_⟩
  ·have h:=HH.out n' w5 HT.out
   exact⟨h.os,h.tape,h.output,h.size,fun k hk _=>h.block k (by rw[HS.out];exact hk)⟩
  ·rw[←HS.out];exact HMD.out.1
  ·rw[←HS.out];exact HMD.out.2.2.2.2.1
 case rest =>
  obtain⟨M0,D,rfl,rfl,hm0,hd0,hgr,hSM,hSD⟩:=hcut
  have hNW:NowIn p (b.bk deed owner) W wc:=(NowIn.refl ⟨now,HQ.out.2⟩).grown hpl hgr (fun i e=>by cases e)
  have cq':=blk1 (hNW.blk HQ.out.1 hqp)
  obtain⟨p0,p1,p2,p3,p4,p5,p6,p7⟩:=blkB ((hgr.block p hpl (fun e=>by cases e)).trans HQ.out.2)
  obtain⟨Ad,hAd⟩:∃ Ad,Ad=b.Ad:=⟨_,rfl⟩
  replace p4:wc.cell? ⟨p,4,none⟩=some (.slice Ad b.ds.length b.cd):=by rw[hAd];exact p4
  have HAD:=zQ9 hAd
  clear hAd
  have HM0:=zQ9 (zA9 hm0 (zA9 hd0 (zA9 hNW (zA9 hSM hSD))))
  clear hm0 hd0 hgr hNW cq p0 p1 p2 p3 p5 p6 p7
  go_wp2_with fail
  go_loopg [3,22] b.ds.length (fun g v3 v22 wr=>∃ (k M:Nat) (K:List (List Int)),k+g=b.ds.length∧v22=.int .i64 k∧v3=.map (some M)∧W.heap.size≤M∧MetH wr M K∧Keys b deed owner k K∧NowIn p (b.bk deed owner) W wr∧wr.heap[D]?=some (.map (j2a p) 6))
  case atStart=>exact⟨0,M0,[fh],by omega,rfl,rfl,HM0.out.2.2.2.1,HM0.out.1,fun x=>by rw[HF.out];rfl,HM0.out.2.2.1,HM0.out.2.1⟩
  case round =>
   obtain⟨k,M,K,hk',rfl,rfl,hSM,hmet,hkeys,hN,hD⟩:=hrel
   clear p4 cq'
   have hWr:=HW.out.1.now hN
   by_cases hlt:k<b.ds.length
   ·obtain⟨bi,oi,d,hA,hbi,hdk,c0,c1,c2,c3,c4,c5,c6,c7,c8,c9,c10,c11⟩:=hWr.inn.d.get hlt
    have hA':=HAD.out.trans hA
    clear HAD hA
    subst hA'
    have hdi:=HW.out.2.1.dI d (List.mem_of_getElem? hdk)
    obtain⟨now',hp'⟩:=hN.hp
    have cq:=blk1 (hN.blk HQ.out.1 hqp)
    have hplr:=hN.lt
    have f7:=frz hp' 7
    obtain⟨-,-,-,-,-,-,-,p7⟩:=blkB hp'
    have i0:(0:Int)≤(k:Int):=by omega
    have i1:(k:Int)<(b.ds.length:Int):=by omega
    have bz:(wr.alloc dZ).heap[wr.heap.size]?=some dZ:=j0c rfl
    have HN:=zQ9 hN
    have HK:=zQ9 (zA9 hk' (zA9 hkeys (zA9 hmet (zA9 hD hp'))))
    have HWr:=zQ9 hWr
    clear hN hk' hkeys hmet hD hp' hWr hbi
    go_upto_region 4 with ((with_reducible apply j8z bz rfl);(rfl);(rfl);(rfl);(rfl);intro w2 b02 g2 z2)
    have hmm:=@run_makeMap Tryz.prog
    have hN2:=(HN.out.below hpl (bal0 wr dZ) HN.out.size).grown hpl g2 (fun i e=>by cases e;exact HN.out.size)
    obtain⟨g6,hg6⟩:∃ g6,g6=wr.heap.size:=⟨_,rfl⟩
    have hz6:w2.heap.size=g6+1:=by rw[z2,hg6];simp
    have hoff:∀ j,j<g6→w2.heap[j]?=wr.heap[j]?:=fun j hj=>(g2.block j (by simp;omega) (fun e=>by cases e;omega)).trans (Below.heap_alloc _ _ _ (by omega))
    have hp2:w2.heap[p]?=some (b.bk deed owner now'):=(hoff p (by omega)).trans HK.out.2.2.2.2
    have hqr:q<g6:=by have:=HN.out.size;omega
    have cq2:w2.cell? ⟨q,0,none⟩=some (.pointer (some ⟨p,0,none⟩)):=blk1 ((hoff q hqr).trans (HN.out.blk HQ.out.1 hqp))
    obtain⟨-,-,-,-,-,-,-,p72⟩:=blkB hp2
    have f72:=frz hp2 7
    have hN3:=hN2.set (k:Int)
    have hp3:=k7u hp2 (k:Int)
    have HZ:=zQ9 (zA9 hg6 hz6)
    have HO:=zQ9 hoff
    rw[←hg6] at b02 ⊢
    have hpg:p<g6:=by rw[hg6];exact hplr
    clear hoff hz6 hg6 z2 g2 bz cq f7 p7 hN2 c0 c1 c2 c3 c4 c5 c6 c7 c8 c9 c10 c11 hplr hp2
    go_upto_region 5 with (fail)
    obtain⟨w3,hw3⟩:∃ w3,w3=w2.setCell ⟨p,7,none⟩ (Value.int IntKind.i64 (k:Int)):=⟨_,rfl⟩
    have hz3:w3.heap.size=g6+1:=by rw[hw3,World.size_setCell];exact HZ.out.2
    have hoff3:∀ j,j<g6→j≠p→w3.heap[j]?=wr.heap[j]?:=fun j hj hjp=>by rw[hw3,Below.heap_setCell _ ⟨p,7,none⟩ _ _ hjp];exact HO.out j hj
    have b03:w3.heap[g6]?=some (dObj d):=by rw[hw3,Below.heap_setCell _ ⟨p,7,none⟩ _ _ (show g6≠p by omega)];exact b02
    rw[←hw3] at hN3 hp3 ⊢
    have HW3:=zQ9 (zA9 hN3 (zA9 hp3 (zA9 hoff3 (zA9 b03 hz3))))
    clear hw3 hN3 hp3 hoff3 b03 hz3 cq2 p72 f72 b02
    go_upto_region 6 with (fail)
    obtain⟨w4,hw4⟩:∃ w4,w4=(w3.alloc (Obj.map #[] 0)).alloc (Obj.cells #[Value.map (some w3.heap.size)] 166):=⟨_,rfl⟩
    have hz4:w4.heap.size=g6+3:=by rw[hw4];simp[HW3.out.2.2.2.2]
    have hoff4:∀ j,j<g6+1→w4.heap[j]?=w3.heap[j]?:=fun j hj=>by
     have:=HW3.out.2.2.2.2
     rw[hw4,Below.heap_alloc _ _ _ (by simp;omega),Below.heap_alloc _ _ _ (by omega)]
    have hM2:MetH w4 (g6+1) []:=k4m (clock:=0) (by rw[hw4,←HW3.out.2.2.2.2];exact j0b (j0c rfl) _)
    have b7:w4.heap[g6+2]?=some (Obj.cells #[.map (some (g6+1))] 166 (0,0)):=by rw[hw4,←HW3.out.2.2.2.2];exact j0c (by simp[HW3.out.2.2.2.2])
    have hN4:NowIn p (b.bk deed owner) W w4:=HW3.out.1.then hpl (by rw[hw4];rfl) (by rw[hw4];rfl) (by rw[hw4];rfl) (by rw[hz4];have:=HN.out.size;have:=HZ.out.1;omega) (fun j hj=>hoff4 j (by have:=HN.out.size;have:=HZ.out.1;omega))
    have hMg:M<g6:=by have:=HK.out.2.2.1.lt;have:=HZ.out.1;omega
    have hMp:M≠p:=fun e=>by obtain⟨es,c,h1,_⟩:=HK.out.2.2.1;rw[e,HK.out.2.2.2.2] at h1;cases h1
    have hDg:D<g6:=by have:=j0a HK.out.2.2.2.1;have:=HZ.out.1;omega
    have hDp:D≠p:=fun e=>by have h1:=HK.out.2.2.2.1;rw[e,HK.out.2.2.2.2] at h1;cases h1
    have hm4:MetH w4 M K:=HK.out.2.2.1.keep ((hoff4 M (by omega)).trans (HW3.out.2.2.1 M hMg hMp))
    have hD4:w4.heap[D]?=some (.map (j2a p) 6):=((hoff4 D (by omega)).trans (HW3.out.2.2.1 D hDg hDp)).trans HK.out.2.2.2.1
    have hd4:w4.heap[g6]?=some (dObj d):=(hoff4 g6 (by omega)).trans HW3.out.2.2.2.1
    have hp4:w4.heap[p]?=some (b.bk deed owner k):=(hoff4 p (by omega)).trans HW3.out.2.1
    have hz34:=HW3.out.2.2.2.2
    rw[←hw4,hz34]
    have HM4:=zQ9 (zA9 hM2 (zA9 b7 (zA9 hN4 (zA9 hm4 (zA9 hD4 (zA9 hd4 (zA9 hp4 (zA9 hz4 (zA9 hMg (zA9 hDg (zA9 hMp hDp)))))))))))
    clear hw4 hz4 hoff4 hM2 b7 hN4 hD4 hd4 hp4 hz34 hMg hMp hDg hDp hmm HW3
    go_wp2_with (refine k7d rfl _ rfl M K rfl hm4 ?_;intro wI hI hgI hzI)
    obtain⟨r,hr⟩:∃ r,r=w4.heap.size:=⟨_,rfl⟩
    rw[←hr] at hI ⊢
    have HI0:=zQ9 (zA9 hr (zA9 hI (zA9 hgI hzI)))
    clear hI hgI hzI hr hm4
    go_simp
    obtain⟨wo,rfl⟩:∃ wo:World,wo=wr:=⟨_,rfl⟩
    obtain⟨go,rfl⟩:∃ go:Nat,go=gk:=⟨_,rfl⟩
    go_loopg [] K.length (fun g wi=>InnR w4 wi (g6+1) M r K (succ b.t b.l (j2h deed owner k) d) g)
    case atStart =>
     refine⟨K,[],[],rfl,by simp,HI0.out.2.1,HM4.out.1.keep (HI0.out.2.2.1.block _ (by have:=HM4.out.2.2.2.2.2.2.2.1;omega) (fun e=>by cases e)),fun x=>by simp,HI0.out.2.2.1.os,HI0.out.2.2.1.tape,HI0.out.2.2.1.output,Nat.le_of_eq HI0.out.2.2.2.symm,fun j hj _=>HI0.out.2.2.1.block j hj (fun e=>by cases e)⟩
    case round =>
     obtain⟨L,done,K2,rfl,hperm,hI,hm2,hk2,ho,ht,hu,hsz,hfar⟩:=hrel
     have HR:=zQ9 (zA9 hperm (zA9 hI (zA9 hm2 (zA9 hk2 (zA9 ho (zA9 ht (zA9 hu (zA9 hsz hfar))))))))
     clear hperm hm2 hk2 ho ht hu hsz hfar
     rcases k6w hI 0 with ⟨hL,hrun⟩|⟨x,L',wn,hp,hx,hrun,hi,hgn,hzn,hen⟩
     ·have HL:=zQ9 hL
      clear hL hI
      have hS2:=HM4.out.2.2.2.2.2.2.2.1
      have b7r:=blk1 ((HR.out.2.2.2.2.2.2.2.2 (g6+1+1) (by omega) (by omega)).trans HM4.out.2.1)
      clear hS2
      go_wp2_with fail
      go_roundg (go-1)
      case measure=>have:=HK.out.1;omega
      case rel =>
       have hS2:=HM4.out.2.2.2.2.2.2.2.1
       have hgw:=HZ.out.1
       have hNs:=HN.out.size
       have hpe:=HR.out.1
       rw[HL.out,List.append_nil] at hpe
       refine⟨k+1,g6+1,K2,by have:=HK.out.1;omega,by have:=HW.out.2.1.d6;rw[IntWalk.wrap64_in _ (by omega)];push_cast;rfl,rfl,by omega,HR.out.2.2.1,fun y=>?_,?_,?_⟩
       ·rw[HR.out.2.2.2.1 y,j9y hdk]
        constructor
        ·rintro⟨h,hh,hy⟩
         exact⟨h,(HK.out.2.1 h).1 (hpe.mem_iff.2 hh),hy⟩
        ·rintro⟨h,hh,hy⟩
         exact⟨h,hpe.mem_iff.1 ((HK.out.2.1 h).2 hh),hy⟩
       ·exact HM4.out.2.2.1.then hpl HR.out.2.2.2.2.1 HR.out.2.2.2.2.2.1 HR.out.2.2.2.2.2.2.1 (by have:=HR.out.2.2.2.2.2.2.2.1;omega) (fun j hj=>HR.out.2.2.2.2.2.2.2.2 j (by omega) (by omega))
       ·exact(HR.out.2.2.2.2.2.2.2.2 D (by have:=HM4.out.2.2.2.2.2.2.2.2.2.1;omega) (by have:=HM4.out.2.2.2.2.2.2.2.2.2.1;omega)).trans HM4.out.2.2.2.2.1
     ·have HNX:=zQ9 (zA9 hp (zA9 hi (zA9 hgn hzn)))
      have hxl:=hx.1
      have hkd:=hdi.k
      have hlk0:=fun(w:World) (h:w.heap[D]?=some (.map (j2a p) 6))=>q4h (p:=p) h hkd.1 hkd.2
      have hent:∀ (args:Array Value) (w:World),(callFunc (kf d.kind) args).run Tryz.prog w=.ok (.enter (kf d.kind) args) w:=q4e d.kind hkd
      clear hp hi hgn hI hzn
      obtain⟨gx,hgx⟩:∃ gx,gx=wn.heap.size:=⟨_,rfl⟩
      have bz:(wn.alloc (.cells #[.int .i64 0,.int .i64 0,.int .i64 0,.int .i64 0,.int .i64 0,.int .i64 0,.int .i64 0,.int .i64 0,.int .i64 0,.int .i64 0,.int .i64 0,.int .i64 0,.int .i64 0,.int .i64 0,.int .i64 0] 133)).heap[wn.heap.size]?=_:=j0c rfl
      rw[show hv x=Value.agg (hcs x) from rfl] at hrun hen
      go_upto_region 9 with ((with_reducible apply j1z bz rfl hxl);(rfl);(rfl);(rfl);(rfl);intro w5 b05 g5 z5)
      rw[←hgx] at b05 ⊢
      have HGX:=zQ9 hgx
      clear hgx
      go_simp
      have hgx:=HGX.out
      have hgx4:w4.heap.size+1≤gx:=by rw[hgx,HNX.out.2.2.2];exact HR.out.2.2.2.2.2.2.2.1
      have hrr:=HI0.out.1
      have h4z:=HM4.out.2.2.2.2.2.2.2.1
      have hf5n:∀ j,j<gx→w5.heap[j]?=wn.heap[j]?:=fun j hj=>(g5.block j (by simp;omega) (fun e=>by cases e;omega)).trans (Below.heap_alloc _ _ _ (by omega))
      have hf5:∀ j,j<w4.heap.size→j≠g6+1→w5.heap[j]?=w4.heap[j]?:=fun j hj hne =>
       ((hf5n j (by omega)).trans (HNX.out.2.2.1.block j (by have:=HR.out.2.2.2.2.2.2.2.1;omega) (fun e=>by cases e;omega))).trans (HR.out.2.2.2.2.2.2.2.2 j hj hne)
      have hd5:w5.heap[g6]?=some (dObj d):=(hf5 g6 (by omega) (by omega)).trans HM4.out.2.2.2.2.2.1
      have hD5:w5.heap[D]?=some (.map (j2a p) 6):=(hf5 D (by have:=HM4.out.2.2.2.2.2.2.2.2.2.1;omega) (by have:=HM4.out.2.2.2.2.2.2.2.2.2.1;omega)).trans HM4.out.2.2.2.2.1
      have hp5:w5.heap[p]?=some (b.bk deed owner k):=(hf5 p (by omega) (by omega)).trans HM4.out.2.2.2.2.2.2.1
      have b75:w5.heap[g6+1+1]?=some (Obj.cells #[.map (some (g6+1))] 166 (0,0)):=(hf5 (g6+2) (by omega) (by omega)).trans HM4.out.2.1
      have hm5:MetH w5 (g6+1) K2:=HR.out.2.2.1.keep ((hf5n _ (by omega)).trans (HNX.out.2.2.1.block _ (by have:=HR.out.2.2.2.2.2.2.2.1;omega) (fun e=>by cases e;omega)))
      have hi5:j2r w5 M r K L':=HNX.out.2.1.keep (hf5n M (by have:=HM4.out.2.2.2.2.2.2.2.2.1;omega)) (hf5n r (by omega))
      have hxK:x∈K:=HR.out.1.mem_iff.2 (List.mem_append.2 (.inr (HNX.out.1.mem_iff.2 List.mem_cons_self)))
      have hok:=HW.out.2.1
      have hxB:HBd 1000 x:=(j3w hok.f3 hok.n5 hok.rb hok.dI k x ((HK.out.2.1 x).1 hxK)).mono (by have:=hok.d6;omega)
      have hN5:NowIn p (b.bk deed owner) W w5:=HM4.out.2.2.1.then hpl
       (by rw[g5.os];exact HNX.out.2.2.1.os.trans HR.out.2.2.2.2.1) (by rw[g5.tape];exact HNX.out.2.2.1.tape.trans HR.out.2.2.2.2.2.1) (by rw[g5.output];exact HNX.out.2.2.1.output.trans HR.out.2.2.2.2.2.2.1)
       (by rw[z5];simp;have:=HN.out.size;have:=HZ.out.1;omega) (fun j hj=>hf5 j (by have:=HN.out.size;have:=HZ.out.1;omega) (by have:=HN.out.size;have:=HZ.out.1;omega))
      have hB5:=(HW.out.1.now hN5).book hp5
      have hlk:=hlk0 w5 hD5
      obtain⟨d0,d1,d2,d3,d4,d5,d6,d7,d8,d9,d10,d11⟩:=blkD hd5
      have hos5:w5.os=w4.os:=by rw[g5.os];exact HNX.out.2.2.1.os.trans HR.out.2.2.2.2.1
      have htp5:w5.tape=w4.tape:=by rw[g5.tape];exact HNX.out.2.2.1.tape.trans HR.out.2.2.2.2.2.1
      have hou5:w5.output=w4.output:=by rw[g5.output];exact HNX.out.2.2.1.output.trans HR.out.2.2.2.2.2.2.1
      have hz5:w4.heap.size+1≤w5.heap.size:=by rw[z5];simp;omega
      have hMS:M≠g6+1:=by have:=HM4.out.2.2.2.2.2.2.2.2.1;omega
      have hrS:r≠g6+1:=by omega
      have HX5:=zQ9 (zA9 (Ask.mk b75 hm5 hxB hdi hok.f3) (zA9 hB5 (zA9 hi5 (zA9 hf5 (zA9 hN5 (zA9 hgx4 (zA9 trivial (zA9 hMS (zA9 hrS (zA9 hos5 (zA9 htp5 (zA9 hou5 hz5))))))))))))
      clear hos5 htp5 hou5 hz5 hMS hrS hlk0 hD5 hd5 hp5 b75 hm5 hi5 hxB hN5 hB5 hf5 hf5n hxK g5 z5 hgx4 hrr h4z hok bz hrun hen hgx
      go_wp2_with (first
       | ((with_reducible apply j0t b05 hxl);(rfl);(rfl);(rfl))
       | (go_at_fn (kf d.kind);refine(deed_any p b.t b.A b.c b.l b.vk b.vh b.vd deed owner k x d b.ks.length (g6+1+1) (g6+1) K2 _ HX5.out.1 HX5.out.2.1).mono ?_;rintro e w6 ⟨rfl,hP6⟩))
      go_roundg L'.length
      case measure=>rw[HNX.out.1.length_eq];simp
      case rel =>
       have hne:=HX5.out.2.2.2.2.2.2.2
       exact InnR.next HR.out.1 HNX.out.1 hP6 HX5.out.1.hm HX5.out.2.2.1 HR.out.2.2.2.1 hne.1 hne.2.1 hne.2.2.1 hne.2.2.2.1 hne.2.2.2.2.1 hne.2.2.2.2.2 HX5.out.2.2.2.1
   ·obtain rfl:k=b.ds.length:=by omega
    have hpm:K.Perm (b.ends deed owner):=k2n hmet.nodup (k1b _ _ _ _ _ _ _) hkeys
    have HK:=zQ9 (zA9 hpm (zA9 hmet (zA9 hN hSM)))
    clear hkeys hD hWr hlt hk' hSM HM0 HAD
    go_wp2_with (refine k7d rfl _ rfl M K rfl hmet ?_;intro wI hI hgI hzI)
    obtain⟨r,hr⟩:∃ r,r=wr.heap.size:=⟨_,rfl⟩
    rw[←hr] at hI ⊢
    have hrW:W.heap.size≤r:=by rw[hr];exact HK.out.2.2.1.size
    have hJ0:J [] wI:=q2a HJ.out.1 HJ.out.2.2 (HK.out.2.2.1.grown hpl hgI (fun i e=>by cases e)) ⟨now,HQ.out.2⟩ H0.out
    have HI0:=zQ9 (zA9 hI (zA9 hrW hJ0))
    clear hI hgI hzI hr hmet hN hJ0 hrW
    go_simp
    obtain⟨wo,rfl⟩:∃ wo:World,wo=wr:=⟨_,rfl⟩
    obtain⟨go,rfl⟩:∃ go:Nat,go=gk:=⟨_,rfl⟩
    go_loopg [] K.length (fun g wi=>∃ L done,g=L.length∧K.Perm (done++L)∧j2r wi M r K L∧J done wi)
    case atStart=>exact⟨K,[],rfl,by simp,HI0.out.1,HI0.out.2.2⟩
    case round =>
     obtain⟨L,done,rfl,hperm,hI,hJd⟩:=hrel
     have HR:=zQ9 (zA9 hperm hJd)
     clear hperm hJd
     rcases k6w hI 0 with ⟨hL,hrun⟩|⟨x,L',wn,hp,hx,hrun,hi,hgn,hzn,hen⟩
     ·have HL:=zQ9 hL
      clear hL hI
      go_wp2_with fail
      go_end0
      have hpe:=HR.out.1
      rw[HL.out,List.append_nil] at hpe
      exact⟨⟨_,rfl⟩,.inl ⟨done,hpe.symm.trans HK.out.1,HR.out.2⟩⟩
     ·have hJn:J done wn:=HJ.out.1 _ _ _ (some r) HR.out.2 hgn (fun i e=>by cases e;exact⟨HI0.out.2.1,by obtain⟨es,cl,si,se,c0,h1,h2,h3,h4,h5,_⟩:=hI;exact⟨_,h5,rfl⟩⟩)
      have hpx:K.Perm (done++[x]++L'):=by rw[List.append_assoc];exact HR.out.1.trans (hp.append_left done)
      have HNX:=zQ9 (zA9 hp (zA9 hi (zA9 hpx hJn)))
      have hxl:=hx.1
      clear hp hi hgn hI hzn hJn hpx
      have bz:(wn.alloc (.cells #[.int .i64 0,.int .i64 0,.int .i64 0,.int .i64 0,.int .i64 0,.int .i64 0,.int .i64 0,.int .i64 0,.int .i64 0,.int .i64 0,.int .i64 0,.int .i64 0,.int .i64 0,.int .i64 0,.int .i64 0] 133)).heap[wn.heap.size]?=_:=j0c rfl
      rw[show hv x=Value.agg (hcs x) from rfl] at hrun hen
      go_upto_region 15 with ((with_reducible apply j1z bz rfl hxl);(rfl);(rfl);(rfl);(rfl);intro w5 b05 g5 z5)
      go_simp
      have hg5:wn.grownBy w5 none:=⟨g5.os,g5.tape,g5.output,by rw[z5];simp,fun j hj _=>(g5.block j (by simp;omega) (fun e=>by cases e;omega)).trans (Below.heap_alloc _ _ _ hj)⟩
      have hJ5:J done w5:=HJ.out.1 _ _ _ none HNX.out.2.2.2 hg5 (fun i e=>by cases e)
      have hi5:j2r w5 M r K L':=HNX.out.2.1.keep (hg5.block M HNX.out.2.1.met.lt (fun e=>by cases e)) (hg5.block r HNX.out.2.1.lt (fun e=>by cases e))
      have hsp:∃ r,(done++[x]++r).Perm (b.ends deed owner):=⟨L',HNX.out.2.2.1.symm.trans HK.out.1⟩
      obtain⟨fn,tmps,assign,body,hy,hRd⟩:=HY.out done x w5 hJ5 hsp
      have HX5:=zQ9 (zA9 hi5 hsp)
      clear hJ5 hi5 hsp g5 z5 hg5 bz hrun hen
      obtain⟨a0,a1,a2,a3,a4,a5,a6,a7,a8,a9,a10,a11,a12,a13,a14,hc15,hcell⟩:=j7u hxl
      obtain⟨y0,y1,y2,y3,y4,y5,y6,y7,y8,y9,y10,y11,y12,y13,y14⟩:=hcell _ _ b05
      rw[←hc15] at hy
      have HC15:=zQ9 hc15
      clear hc15 hcell b05
      generalize wn.heap.size=gx at *
      refine(wpIn_wide (n:=n)).1 ?_
      gi_wp2
      refine hRd.mono ?_
      rintro e W3 (⟨rfl,hJ3,hk3⟩|⟨rfl,hJx3⟩)
      ·have hi3:j2r W3 M r K L':=by
        obtain⟨es,cl,si,se,c0,h1,h2,h3,h4,h5,h6⟩:=HX5.out.1
        exact⟨es,cl,si,se,c0,hk3.same _ _ h1 rfl,h2,h3,h4,hk3.same _ _ h5 rfl,h6⟩
       have H3:=zQ9 (zA9 hi3 hJ3)
       clear hi3 hJ3 hk3
       gi_wp2
       go_wp2
       go_roundg L'.length
       case measure=>rw[HNX.out.1.length_eq];simp
       case rel=>exact⟨L',done++[x],rfl,HNX.out.2.2.1,H3.out.1,H3.out.2⟩
      ·have H3:=zQ9 hJx3
       clear hJx3
       gi_wp2
       go_wp2
       refine bodyPost_ret (results_none rfl _ _ _) rfl ?_
       exact⟨⟨_,rfl⟩,.inr ⟨_,HX5.out.2,H3.out⟩⟩
end Go.Proofs.YtmennjmjakdkcaaGreat
namespace Go.Proofs.YtmennjmjakdkcaaGreat
open Go.RowKit Go.Sort
section
variable {F:Fence} {n:Nat} {P:Program} {C:World→Prop}
def k5i (l:List Oper):Bool:=l.all fun o=>match o.op with|.defer _=>false|_=>true
theorem q0h {o:Oper} (r:Option Nat) (ρ:Operand→Value) (h:∀ c,o.op≠.defer c):Oper.semAt r ρ o=execOp ρ o:=by
 cases r with
 | none=>exact Oper.semAt_none _ _
 | some l=>exact Oper.semAt_some l ρ o h
theorem k4u {o:Oper} {a:Act} {K:Act→Prop} {K':Act→World→Prop} {Q':Exit→Act→World→Prop} {w:World} (hnd:∀ c,o.op≠.defer c) (hw:C w) (h:∀ a w',C w'→K a→K' a w')
 (ha:o.askedIn F P a C) (hh:o.quietIn F n P a C K):o.wpIn F n P a w K' Q':=by
 obtain⟨v,h1,h2⟩:=hh
 refine⟨ha w hw,?_⟩
 have h3:Oper.quietUponIn F n P C w v ((execOp a.eval o).run P w):=h1 w hw
 rw[q0h F.round a.eval hnd]
 revert h3
 generalize (execOp a.eval o).run P w=r
 intro h3
 match r,h3 with
 | .ok (.value u) w',h3=>obtain⟨rfl,rfl⟩:=h3;exact h _ _ hw h2
 | .ok .skip w',h3=>obtain⟨rfl,rfl⟩:=h3;exact h _ _ hw h2
 | .ok (.enter f args) w',h3 =>
   obtain⟨rfl,hd,hc⟩:=h3
   exact⟨hd,hc.mono fun e w'' ⟨he,hw''⟩=>by subst he;exact h _ _ hw'' h2⟩
theorem k0t {ops:Array Oper} (hnd:∀ (i:Nat) o,ops[i]?=some o→∀ c,o.op≠.defer c) {Q:Act→Prop} {Q':Exit→Act→World→Prop} (hQ:∀ a w,C w→Q a→Q' .normal a w) :
 ∀ (fuel:Nat) (listed:Array Bool) (a:Act) (w:World),C w→wpAnyQIn F n P .any ops C Q fuel listed a→wpAnyIn F n P .any ops Q' fuel listed a w
 | 0,_,_,_,hw,h=>⟨h.1,hQ _ _ hw h.2⟩
 | fuel+1,listed,a,w,hw,h=>⟨fun h0=>hQ _ _ hw (h.1 h0),fun i hi=>by
    have h2:=h.2 i hi
    unfold qOpIn at h2
    unfold wpOpIn
    have next:∀ a' w',C w'→wpAnyQIn F n P .any ops C Q fuel (listed.setIfInBounds i true) a'→wpAnyIn F n P .any ops Q' fuel (listed.setIfInBounds i true) a' w' :=
     fun a' w' hw'=>k0t hnd hQ fuel _ a' w' hw'
    cases ho:ops[i]? with
    | none=>simp only[ho] at h2 ⊢;exact next _ _ hw h2
    | some o =>
      simp only[ho] at h2 ⊢
      obtain⟨ha,h2⟩:=h2
      split
      ·rename_i hwt
       simp only[hwt,if_true] at h2
       exact k4u (hnd i o ho) hw next ha h2
      ·rename_i hwt
       simp only[hwt] at h2
       exact⟨ha w hw,next _ _ hw h2⟩⟩
theorem j7a {id:Nat} {Q:Exit→Act→World→Prop} {a:Act} {w:World} {l:List Oper} (hm:P.follows .mixedOrders=true) (hB:Region.lexB .any l.toArray=true) (hnd:k5i l=true)
 (h:wpQuietIn F n P l.toArray (fun w'=>∃ p:Regrown,w'=grow (redrawn w p.d) p.os) (fun a'=>∀ w',(∃ p:Regrown,w'=grow (redrawn w p.d) p.os)→Q .normal a' w') l a):(Code.region id l.toArray true).wpIn F n P Q a w:=by
 simp only[Region.lexB,Bool.and_eq_true] at hB
 have hn:∀ (i:Nat) o,l.toArray[i]?=some o→∀ c,o.op≠.defer c:=by
  intro i o ho c hc
  have hmem:o∈l:=by
   rw[List.getElem?_toArray] at ho
   exact List.mem_of_getElem? ho
  have:=List.all_eq_true.1 hnd o hmem
  rw[hc] at this
  cases this
 refine wpIn_region_any hm (k0t (C:=fun w'=>∃ p:Regrown,w'=grow (redrawn w p.d) p.os) (Q:=fun a'=>∀ w',(∃ p:Regrown,w'=grow (redrawn w p.d) p.os)→Q .normal a' w') hn (fun _ w' hw' h=>h w' hw') _ _ _ _ ⟨⟨w.drawn+1,#[]⟩,by rw[grow_empty];rfl⟩ ?_)
 have:=wpAnyQIn_lex (F:=F) (n:=n) (C:=fun w'=>∃ p:Regrown,w'=grow (redrawn w p.d) p.os) (md:=.any) (ops:=l.toArray) (Q:=fun a'=>∀ w',(∃ p:Regrown,w'=grow (redrawn w p.d) p.os)→Q .normal a' w') hB.1 l 0 (Array.replicate l.toArray.size false) a (by simp) (by simpa using hB.2) h
 simpa using this
end
theorem j2w {A B:World} {row:Option Nat} {k:Nat} {o:Obj} (h:A.heap[k]?=some o) (ho:o.isCells=true) (hg:A.grownBy B row) (hr:∀ r,row=some r→∃ o':Obj,A.heap[r]?=some o'∧o'.isCells=false):B.heap[k]?=some o :=
 (hg.block k (j0a h) (fun e=>by
   obtain⟨o',h1,h2⟩:=hr k e.symm
   rw[h] at h1
   cases h1
   rw[ho] at h2
   cases h2)).trans h
theorem j8t {B:Nat} {W W':World} (h:Below W.heap.size W W'):KeepsFrom B W W' :=
 KeepsFrom.of_grownBy (row:=none) ⟨h.os,h.tape,h.output,h.size,fun k hk _=>h.block k hk⟩ (fun j e=>by cases e)
theorem k4g {n l:Nat} {P:Program} {f:FuncId} {args:Array Value} {w:World} {R:Ending→World→Prop} (h:Calls P f args w R):CallsIn (Fence.wide.inRound l) n P f args w R :=
 CallsIn.inRound l (callsIn_wide.2 h)
theorem k2l {n l:Nat} {P:Program} {f:FuncId} {args:Array Value} {w:World} {d:Nat} {os:Array Obj} {v:Value}
 (h:Calls P f args (grow (redrawn w d) os) fun e w'=>e=.returned v∧Below (grow (redrawn w d) os).heap.size (grow (redrawn w d) os) w'):CallsIn (Fence.wide.inRound l) n P f args (grow (redrawn w d) os) fun e w''=>e=.returned v∧∃ p:Regrown,w''=grow (redrawn w p.d) p.os :=
 k4g (Calls.regrown_of h)
end Go.Proofs.YtmennjmjakdkcaaGreat
