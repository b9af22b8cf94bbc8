/- HerdParts. -/
import Derived.Test.YtmennjmjakdkcaaGreatPt06
import Derived.Laws.EntriesVeiled
import Derived.Laws.IdiomCopy
set_option linter.unusedVariables false
set_option linter.unusedSimpArgs false
set_option maxRecDepth 100000
set_option maxHeartbeats 2000000
namespace Go.Proofs.YtmennjmjakdkcaaGreat
open Go.RowKit Go.MapKept
abbrev bkObj (t:Int) (A:Option Addr) (n c:Nat) (ks hs ds:Value) (deed owner now:Int):Obj:=.cells #[.int .i64 t,.slice A n c,ks,hs,ds,.int .i64 deed,.int .i64 owner,.int .i64 now] 154 (0,0)
structure Book (w:World) (p:Nat) (t:Int) (A:Option Addr) (n c:Nat) (l:List Mk) (ks hs ds:Value) (deed owner now:Int):Prop where
 hp:w.heap[p]?=some (bkObj t A n c ks hs ds deed owner now)
 hl:Marks w A n l
 nc:n<=c
 cm:c<=maxLen
 ck:check t l=0
theorem blkB {w:World} {p:Nat} {t:Int} {A:Option Addr} {n c:Nat} {ks hs ds:Value} {deed owner now:Int} (h:w.heap[p]?=some (bkObj t A n c ks hs ds deed owner now)) :
 w.cell? ⟨p,0,none⟩=some (.int .i64 t)∧w.cell? ⟨p,1,none⟩=some (.slice A n c)∧w.cell? ⟨p,2,none⟩=some ks∧w.cell? ⟨p,3,none⟩=some hs∧w.cell? ⟨p,4,none⟩=some ds ∧
 w.cell? ⟨p,5,none⟩=some (.int .i64 deed)∧w.cell? ⟨p,6,none⟩=some (.int .i64 owner)∧w.cell? ⟨p,7,none⟩=some (.int .i64 now):=by simp[World.cell?,h]
theorem Book.puts {w w':World} {p:Nat} {t:Int} {A:Option Addr} {n c:Nat} {l:List Mk} {ks hs ds:Value} {deed owner now:Int} {M:Nat} {L K:List (List Int)} (h:Book w p t A n c l ks hs ds deed owner now) (hP:PutsH w w' M L) (hm:MetH w M K):Book w' p t A n c l ks hs ds deed owner now :=
 ⟨hP.blk h.hp (hm.ne h.hp),hP.sl hm h.hl,h.nc,h.cm,h.ck⟩
theorem k6h {W w1:World} {n:Nat} (h:Below (W.drewN n).heap.size (W.drewN n) w1):Below W.heap.size W w1:=⟨h.os,h.tape,h.output,h.size,h.block⟩
def j2i (deed owner now o:Int):Bool:=!(decide (now=deed)&&decide (o≠owner))
def j6p (f g:Nat) (h:List Int) (pass:Int->Bool) (os:List Int) (k:Nat):List (List Int):=j4k f g h ((os.take k).filter pass)
theorem q0h {f g:Nat} {h:List Int} {pass:Int->Bool} {os:List Int} {k:Nat} {o:Int} (ho:os[k]?=some o) :
 j6p f g h pass os (k+1)=j6p f g h pass os k++(if pass o=true then (match mvd h f o.toNat (-1) with|some x=>[hadd x g o.toNat 1]|none=>[]) else []):=by
 unfold j6p j4k;rw[List.take_add_one,ho,List.filter_append,List.flatMap_append];congr 1;by_cases hp:pass o=true
 ·simp only[hp,List.filter_cons,List.filter_nil,Option.toList,if_true,List.flatMap_cons,List.flatMap_nil,List.append_nil];cases mvd h f o.toNat (-1)<;>rfl
 ·simp[hp]
theorem k7r {h x:List Int} {f g o:Nat} {b:Bool} (hx:x=hadd h f o (-1)) (hb:b=decide (0<=hget h f o+-1)) :
 (match mvd h f (o:Int).toNat (-1) with|some x=>[hadd x g (o:Int).toNat 1]|none=>[])=if b=true then [hadd x g o 1] else []:=by
 simp only[Int.toNat_natCast];unfold mvd;rw[hb,hx];by_cases h0:0<=hget h f o+-1<;>simp[h0]
theorem q1i (p:Nat) (t:Int) (A:Option Addr) (n c:Nat) (l:List Mk) (ks hs ds:Value) (deed owner now:Int) (h:List Int) (d:De) (nf:Nat) (B M:Nat) (K:List (List Int)) (w:World) (hA:Ask l.length nf B M K h d w) (hB:Book w p t A n c l ks hs ds deed owner now) (hk:d.kind=5) :
 Calls Tryz.prog 137 #[.pointer (some ⟨p,0,none⟩),.agg (hcs h),dv d,.func (.func 117) #[] #[.pointer (some ⟨B,0,none⟩)]] w fun e w'=>e=.returned (.tuple #[])∧PutsH w w' M (j4k d.flock.toNat d.tof.toNat h ((mayL t l d.s).filter (j2i deed owner now))):=by
 obtain⟨hb,hm,hh,hd,c8⟩:=hA;have hM:=hm.lt;have hl:=hh.1;have bA:l.length<=5:=(j2d hB.ck).2.2.1;obtain⟨kind,flock,ow,other,tof,many,err,s⟩:=d;obtain⟨f,rfl⟩:=zB7 hd.f.1;obtain⟨g,rfl⟩:=zB7 hd.t.1;have hf:f<3:=by have:=hd.f.2;dsimp at this;omega
 have hg:g<3:=by have:=hd.t.2;dsimp at this;omega
 have bn:seen s 9 6=0:=hd.st hk;have bt:mayR t l s=mayL t l s:=by
  have:mayE t l s=0:=by unfold mayE;rw[if_neg (by rw[hB.ck];simp),bn]
  unfold mayR;rw[if_pos this]
 simp only[Int.toNat_natCast];have br:∀ (o:Nat) (x:List Int) (b:Bool) (w:World),o<5->x=hadd h f o (-1)->b=decide (0<=hget h f o+-1)->Calls Tryz.prog 150 #[.agg (hcs h),.int .i64 f,.int .i64 o,.int .i64 (-1)] w fun e w'=>e=.returned (.tuple #[.agg (hcs x),.bool b])∧Below w.heap.size w w' :=
  fun o x b w ho hx hb=>j6h w hx hb hl hf ho (by have:=hh.get hf ho;omega) (by omega)
 have ao:∀ (o:Nat) (x y:List Int) (w:World),o<5->HBd 1000 x->y=hadd x g o 1->Calls Tryz.prog 150 #[.agg (hcs x),.int .i64 g,.int .i64 o,.int .i64 1] w fun e w'=>e=.returned (.tuple #[.agg (hcs y),.bool (decide (0<=hget x g o+1))])∧Below w.heap.size w w' :=
  fun o x y w ho a8 hy=>j6h w hy rfl a8.1 hg ho (by have:=a8.get hg ho;omega) (by omega)
 have aB:=zQ9 (zA9 br ao);have HX:=zQ9 (zA9 hb (zA9 hm (zA9 hB (zA9 hh (zA9 bt bA)))));clear hd hk hh hb hm hB bt br ao bn;unfold dv;go_enter Tryz.func137,Tryz.ntmps137
 go_upto_region 1 with (fail)
 obtain⟨W,hW⟩:∃ W,W=(w.alloc (Obj.cells (hcs h) 133)).alloc (dObj ⟨kind,f,ow,other,g,many,err,s⟩):=⟨_,rfl⟩;have b0:W.heap[w.heap.size]?=some (hObj h):=by rw[hW];exact j0b (j0c rfl) _
 have b1:W.heap[w.heap.size+1]?=some (dObj ⟨kind,f,ow,other,g,many,err,s⟩):=by rw[hW];exact j0c (by simp)
 have hP:PutsH w W M []:=by rw[hW];exact(PutsH.refl w M).below hM (bal (bal0 w _) (zL9 _) _) (zL9 _)
 rw[<-hW];clear hW;obtain⟨r,hr⟩:∃ r,r=w.heap.size:=⟨_,rfl⟩;have HR:=zQ9 (show w.heap.size<=r by omega)
 rw[<-hr] at b0 b1 ⊢;clear hr;have aq:=HX.o.2.2.1.puts hP HX.o.2.1;obtain⟨d0,d1,d2,d3,d4,d5,d6,d7,d8,d9,bF,bG⟩:=blkD b1;obtain⟨p0,p1,p2,p3,p4,p5,p6,p7⟩:=blkB aq.hp;have b5:=zQ9 (zA9 aq.hl (zA9 aq.nc aq.cm));clear aq;refine j6c (C:=fun w'=>∃ n,w'=W.drewN n) 7 (by kernel_rfl) (by kernel_rfl) ⟨1,rfl⟩ ?_
 simp only[List.take_succ_cons,List.take_zero,List.drop_succ_cons,List.drop_zero]
 repeat (quiet_step (fail))
 refine wpQuiet_nil ?_;intro _ bC;obtain⟨nq,bj⟩:=bC;subst bj;intro Q2 c0;go_wp2_with fail
 refine(k5p t A n c l s (W.drewN nq) (b5.o.1.drewN nq) b5.o.2.1 b5.o.2.2).mono ?_;rintro e w1 ⟨v,rfl,az,ak⟩;obtain⟨A1,c1,rfl,ba,aw,b8⟩:=az.form j0n;replace ak:Below W.heap.size W w1:=k6h ak;rw[HX.o.2.2.2.2.1] at ba aw ⊢;have bm:=hP.below hM ak hP.size;have e0:=j0e b0 ak (zL9 _);have e1:=j0e b1 ak (zL9 _);have a5:=zQ9 (zA9 bm (zA9 e0 (zA9 e1 ba)));clear ak az d0 d1 d2 d3 d4 d5 d6 d7 d8 d9 bF bG p0 p1 p2 p3 p4 p5 p6 p7 hP bm e0 e1 ba b0 b1;obtain⟨os,aC⟩:∃ os,os=mayL t l s:=⟨_,rfl⟩;have bv:∀ o∈os,0<=o∧o<5:=fun o ho=>by rw[aC] at ho;have:=k3r o ho;have:=HX.o.2.2.2.2.2;omega
 have HO:=zQ9 bv;have bE:=zQ9 aC;rw[<-aC] at a5 aw ⊢;clear aC bv;go_wp2
 repeat (quiet_step (fail))
 refine wpQuiet_nil ?_;obtain⟨K1,b4,-⟩:=a5.o.1.met K HX.o.2.1;have bw:=HX.o.2.2.1.puts a5.o.1 HX.o.2.1;have bo:=a5.o.1.blk HX.o.1 (HX.o.2.1.ne HX.o.1);have a6:=zQ9 (zA9 b4 (zA9 bw bo));have a2:=b4.lt;clear b4 bw bo;go_wp2_with fail
 go_loopg [27] os.length (fun gk' iv wr=>∃ k:Nat,k+gk'=os.length∧iv=.int .i64 k∧PutsH w1 wr M (j6p f g h (j2i deed owner now) os k))
 case atStart=>exact⟨0,by omega,rfl,PutsH.refl _ _⟩
 case round =>
  obtain⟨k,bu,rfl,a1⟩:=hrel;have HK:=zQ9 bu;by_cases hlt:k<os.length
  ·obtain⟨bi,oi,x,bD,c6,aE,bp⟩:=Ints.get (a1.sl a6.o.1 a5.o.2.2.2) hlt;cases bD;have bq:=HO.o x (zB4 aE);obtain⟨o,rfl⟩:=zB7 bq.1;have a4:o<5:=by omega
   have bs:=q0h (f:=f) (g:=g) (h:=h) (pass:=j2i deed owner now) aE;have bf:=a6.o.2.1.puts a1 a6.o.1;have f0:=a1.blk a5.o.2.1 (a6.o.1.ne a5.o.2.1);have f1:=a1.blk a5.o.2.2.1 (a6.o.1.ne a5.o.2.2.1);obtain⟨d0,d1,d2,d3,d4,-⟩:=blkD f1;obtain⟨p0,p1,p2,p3,p4,p5,p6,p7⟩:=blkB bf.hp;have b9:=zQ9 (zA9 bs (zA9 a1 bf.hp));have i0:(0:Int)<=(k:Int):=by omega
   have i1:(k:Int)<(os.length:Int):=by omega
   have i2:wrap64 ((k:Int)+1)=(k:Int)+1:=IntWalk.wrap64_in _ (by unfold maxLen at b8;omega)
   have c7:=a1.size;have a0:=zQ9 (zA9 (show gk-1<gk by omega) (zA9 (show k+1+(gk-1)=os.length by omega) (show Value.int .i64 (wrap64 ((k:Int)+1))=Value.int .i64 ((k+1:Nat):Int) by rw[i2];push_cast;rfl)))
   have HD:=zQ9 (show ∀ q,PutsH w1 (wr.drewN q) M (j6p f g h (j2i deed owner now) os k) from fun q=>a1.below a2 (j0k (zB2 wr.heap.size wr) q) a1.size)
   clear i2 bs a1 bf aE bq bu;by_cases h1:now=deed
   ·subst h1;by_cases h2:(o:Int)=owner
    ·subst h2;have HQ:=zQ9 (show j2i now (o:Int) now (o:Int)=true by unfold j2i;simp)
     go_wp2_with fail
     go_quiet (fail)
     obtain⟨x,hx⟩:∃ x,x=hadd h f o (-1):=⟨_,rfl⟩;obtain⟨bb,a7⟩:∃ b,b=decide (0<=hget h f o+-1):=⟨_,rfl⟩;have a9:=fun w=>aB.o.1 o x bb w a4 hx a7
     have aG:HOk x:=by rw[hx];exact j4q HX.o.2.2.2.1 (by omega) hf a4 (by omega)
     have ae:=aG.1;have a8:bb=true->HBd 1000 x:=fun e=>by rw[hx];rw[a7,decide_eq_true_eq] at e;have:=HX.o.2.2.2.1.get hf a4;exact HX.o.2.2.2.1.add e (by omega) (Int.le_refl _)
     have HN:=zQ9 (b9.o.1.trans (by rw[HQ.o,if_pos rfl,k7r hx a7]))
     have be:=zQ9 a8;have ay:(wr.drewN nq).heap[r]?=some (hObj h):=f0;have aA:(wr.drewN nq).heap[r+1]?=_:=f1;have aa:=HD.o nq;clear hx a7 a8;go_upto_region 7 with (first
      | ((with_reducible apply j1a ay hl);(rfl);(rfl);(rfl))
      | (go_at_call 150;refine(a9 _).mono ?_;rintro e w2 ⟨rfl,aj⟩;have a3:=aa.below a2 aj aa.size;have ai:=j0e aA aj (zL9 _);have bz:(w2.alloc (.cells #[.int .i64 0,.int .i64 0,.int .i64 0,.int .i64 0,.int .i64 0,.int .i64 0,.int .i64 0,.int .i64 0,.int .i64 0,.int .i64 0,.int .i64 0,.int .i64 0,.int .i64 0,.int .i64 0,.int .i64 0] 133)).heap[w2.heap.size]?=_:=j0c rfl;clear aj)
      | ((with_reducible apply j2a bz rfl ae);(rfl);(rfl);(rfl);(rfl);intro w3 ad g3 z3;have af:=(a3.below a2 (bal0 w2 _) a3.size).grown a2 g3 a3.size;have bh:=gblk g3 (j0b ai _) (Nat.ne_of_lt (j0a ai));have av:=a3.size))
     obtain⟨gg,ax⟩:∃ gg,gg=w2.heap.size:=⟨_,rfl⟩;rw[<-ax] at ad av ⊢;clear ax g3 z3 a3 aa ai bz ay aA d0 d1 d2 d3 d4 p0 p1 p2 p3 p4 p5 p6 p7 bp f0 f1;cases bb with
     | false =>
       go_wp2_with fail
       go_roundg (gk-1)
       case measure=>exact a0.o.1
       case rel=>exact⟨k+1,a0.o.2.1,a0.o.2.2,by rw[HN.o,if_neg Bool.false_ne_true,List.append_nil];exact af⟩
     | true =>
       have ah:=be.o rfl;obtain⟨y,hy⟩:∃ y,y=hadd x g o 1:=⟨_,rfl⟩;have ar:HOk y:=by rw[hy];exact j4q ah (by omega) hg a4 (by omega)
       have am:=ar.1;have ag:=fun w=>aB.o.2 o x y w a4 ah hy
       have HY:=zQ9 hy;clear hy ah;obtain⟨d0,d1,d2,d3,d4,-⟩:=blkD bh;have aH:=j2q x;go_upto_region 9 with (first
        | ((with_reducible apply j1a ad ae);(rfl);(rfl);(rfl))
        | (go_at_call 150;refine(ag _).mono ?_;rintro e w4 ⟨rfl,ac⟩;have b3:=af.below a2 ac af.size;have b6:=j0e ad ac (zL9 _);clear ac)
        | ((with_reducible apply j2a b6 (aH.trans ae) am);(rfl);(rfl);(rfl);(rfl);intro w5 b7 g5 z5;have aD:=b3.grown a2 g5 av))
       go_wp2_with (first
        | ((with_reducible apply j1a b7 am);(rfl);(rfl);(rfl))
        | (go_at_call 117;refine(j6z aD a6.o.2.2 a6.o.1 ar).mono ?_;rintro e w6 ⟨rfl,aF⟩))
       go_roundg (gk-1)
       case measure=>exact a0.o.1
       case rel=>exact⟨k+1,a0.o.2.1,a0.o.2.2,by rw[HN.o,if_pos trivial,<-HY.o];exact aF⟩
    ·have HQ:=zQ9 (show j2i now owner now (o:Int)=false by unfold j2i;simp[h2])
     have c5:((o:Int) != owner)=true:=bne_iff_ne.2 h2;clear h2;go_wp2_with fail
     go_quiet (fail)
     go_wp2_with fail
     go_roundg (gk-1)
     case measure=>exact a0.o.1
     case rel=>exact⟨k+1,a0.o.2.1,a0.o.2.2,by rw[b9.o.1,HQ.o,if_neg Bool.false_ne_true,List.append_nil];exact HD.o nq⟩
   ·have HQ:=zQ9 (show j2i deed owner now (o:Int)=true by unfold j2i;simp[h1])
    have c4:(now==deed)=false:=beq_eq_false_iff_ne.2 h1;go_wp2_with fail
    go_quiet (fail)
    obtain⟨x,hx⟩:∃ x,x=hadd h f o (-1):=⟨_,rfl⟩;obtain⟨bb,a7⟩:∃ b,b=decide (0<=hget h f o+-1):=⟨_,rfl⟩;have a9:=fun w=>aB.o.1 o x bb w a4 hx a7
    have aG:HOk x:=by rw[hx];exact j4q HX.o.2.2.2.1 (by omega) hf a4 (by omega)
    have ae:=aG.1;have a8:bb=true->HBd 1000 x:=fun e=>by rw[hx];rw[a7,decide_eq_true_eq] at e;have:=HX.o.2.2.2.1.get hf a4;exact HX.o.2.2.2.1.add e (by omega) (Int.le_refl _)
    have HN:=zQ9 (b9.o.1.trans (by rw[HQ.o,if_pos rfl,k7r hx a7]))
    have be:=zQ9 a8;have ay:(wr.drewN nq).heap[r]?=some (hObj h):=f0;have aA:(wr.drewN nq).heap[r+1]?=_:=f1;have aa:=HD.o nq;clear hx a7 a8;go_upto_region 7 with (first
     | ((with_reducible apply j1a ay hl);(rfl);(rfl);(rfl))
     | (go_at_call 150;refine(a9 _).mono ?_;rintro e w2 ⟨rfl,aj⟩;have a3:=aa.below a2 aj aa.size;have ai:=j0e aA aj (zL9 _);have bz:(w2.alloc (.cells #[.int .i64 0,.int .i64 0,.int .i64 0,.int .i64 0,.int .i64 0,.int .i64 0,.int .i64 0,.int .i64 0,.int .i64 0,.int .i64 0,.int .i64 0,.int .i64 0,.int .i64 0,.int .i64 0,.int .i64 0] 133)).heap[w2.heap.size]?=_:=j0c rfl;clear aj)
     | ((with_reducible apply j2a bz rfl ae);(rfl);(rfl);(rfl);(rfl);intro w3 ad g3 z3;have af:=(a3.below a2 (bal0 w2 _) a3.size).grown a2 g3 a3.size;have bh:=gblk g3 (j0b ai _) (Nat.ne_of_lt (j0a ai));have av:=a3.size))
    obtain⟨gg,ax⟩:∃ gg,gg=w2.heap.size:=⟨_,rfl⟩;rw[<-ax] at ad av ⊢;clear ax g3 z3 a3 aa ai bz ay aA d0 d1 d2 d3 d4 p0 p1 p2 p3 p4 p5 p6 p7 bp f0 f1;cases bb with
    | false =>
      go_wp2_with fail
      go_roundg (gk-1)
      case measure=>exact a0.o.1
      case rel=>exact⟨k+1,a0.o.2.1,a0.o.2.2,by rw[HN.o,if_neg Bool.false_ne_true,List.append_nil];exact af⟩
    | true =>
      have ah:=be.o rfl;obtain⟨y,hy⟩:∃ y,y=hadd x g o 1:=⟨_,rfl⟩;have ar:HOk y:=by rw[hy];exact j4q ah (by omega) hg a4 (by omega)
      have am:=ar.1;have ag:=fun w=>aB.o.2 o x y w a4 ah hy
      have HY:=zQ9 hy;clear hy ah;obtain⟨d0,d1,d2,d3,d4,-⟩:=blkD bh;have aH:=j2q x;go_upto_region 9 with (first
       | ((with_reducible apply j1a ad ae);(rfl);(rfl);(rfl))
       | (go_at_call 150;refine(ag _).mono ?_;rintro e w4 ⟨rfl,ac⟩;have b3:=af.below a2 ac af.size;have b6:=j0e ad ac (zL9 _);clear ac)
       | ((with_reducible apply j2a b6 (aH.trans ae) am);(rfl);(rfl);(rfl);(rfl);intro w5 b7 g5 z5;have aD:=b3.grown a2 g5 av))
      go_wp2_with (first
       | ((with_reducible apply j1a b7 am);(rfl);(rfl);(rfl))
       | (go_at_call 117;refine(j6z aD a6.o.2.2 a6.o.1 ar).mono ?_;rintro e w6 ⟨rfl,aF⟩))
      go_roundg (gk-1)
      case measure=>exact a0.o.1
      case rel=>exact⟨k+1,a0.o.2.1,a0.o.2.2,by rw[HN.o,if_pos trivial,<-HY.o];exact aF⟩
  ·obtain rfl:k=os.length:=by omega
   have an:j6p f g h (j2i deed owner now) os os.length=j4k f g h (os.filter (j2i deed owner now)):=by unfold j6p;rw[List.take_length]
   have HF:=zQ9 (a5.o.1.trans a1);have bB:=zQ9 an;clear a1 an;go_wp2_with fail
   go_end0
   exact⟨rfl,by have:=HF.o;rw[bB.o,bE.o] at this;exact this⟩
structure Chs (w:World) (bT bB bD bC B M p:Nat) (t:Int) (A:Option Addr) (n c:Nat) (l:List Mk) (ks hs ds:Value) (deed owner now:Int) (d:De):Prop where
 hT:w.heap[bT]?=some (.cells #[.func (.func 117) #[] #[.pointer (some ⟨B,0,none⟩)]] 170 (0,0))
 hB:w.heap[bB]?=some (.cells #[.pointer (some ⟨p,0,none⟩)] 98 (0,0))
 hD:w.heap[bD]?=some (dObj d)
 hC:w.heap[bC]?=some (.cells #[.func (.func 151) #[] #[.pointer (some ⟨bT,0,none⟩),.pointer (some ⟨bB,0,none⟩),.pointer (some ⟨bD,0,none⟩),.pointer (some ⟨bC,0,none⟩)]] 200 (0,0))
 hb:w.heap[B]?=some (.cells #[.map (some M)] 166 (0,0))
 hk:Book w p t A n c l ks hs ds deed owner now
theorem Chs.puts {w w':World} {bT bB bD bC B M p:Nat} {t:Int} {A:Option Addr} {n c:Nat} {l:List Mk} {ks hs ds:Value} {deed owner now:Int} {d:De} {L K:List (List Int)} (h:Chs w bT bB bD bC B M p t A n c l ks hs ds deed owner now d) (hP:PutsH w w' M L) (hm:MetH w M K):Chs w' bT bB bD bC B M p t A n c l ks hs ds deed owner now d :=
 ⟨hP.blk h.hT (hm.ne h.hT),hP.blk h.hB (hm.ne h.hB),hP.blk h.hD (hm.ne h.hD),hP.blk h.hC (hm.ne h.hC),hP.blk h.hb (hm.ne h.hb),h.hk.puts hP hm⟩
def j9p (n f:Nat) (j:Nat) (h:List Int) (m k:Nat):List (List Int):=(List.range k).flatMap fun(k:Nat)=>match mvd h f (n-(j+1)) (-(k:Int)) with|some x=>j1e n f j x (m-k)|none=>[]
theorem q1a {n f j:Nat} {h:List Int} {m:Nat} (hm:m≠0):j1e n f (j+1) h m=j9p n f j h m (m+1):=by
 conv=>lhs;unfold j1e
 rw[if_neg hm];rfl
theorem k9e {n f j:Nat} {h x:List Int} {m k q:Nat} {b:Bool} (hq:q+(j+1)=n) (hx:x=hadd h f q (-(k:Int))) (hb:b=decide (0<=hget h f q+-(k:Int))) :
 j9p n f j h m (k+1)=j9p n f j h m k++if b=true then j1e n f j x (m-k) else []:=by
 unfold j9p;rw[List.range_succ,List.flatMap_append];congr 1;rw[List.flatMap_cons,List.flatMap_nil,List.append_nil,show n-(j+1)=q by omega]
 unfold mvd;rw[hb,hx];by_cases h0:0<=hget h f q+-(k:Int)
 ·rw[if_pos h0,if_pos (decide_eq_true h0)]
 ·rw[if_neg h0,if_neg (by simp[h0])]
theorem q2q (bT bB bD bC B M p:Nat) (t:Int) (A:Option Addr) (c:Nat) (l:List Mk) (ks hs ds:Value) (deed owner now:Int) (d:De) (f nf:Nat) (hd:DeIn l.length nf d) (ar:nf<=3) (ax:d.flock=(f:Int)) :
 ∀ (j:Nat) (h:List Int) (m q:Nat) (qi mi:Int) (K:List (List Int)) (w:World),q+j=l.length->qi=(q:Int)->mi=(m:Int)->m<=300->HBd 1000 h->Chs w bT bB bD bC B M p t A l.length c l ks hs ds deed owner now d->MetH w M K ->
  Calls Tryz.prog 151 #[.agg (hcs h),.int .i64 qi,.int .i64 mi,.pointer (some ⟨bT,0,none⟩),.pointer (some ⟨bB,0,none⟩),.pointer (some ⟨bD,0,none⟩),.pointer (some ⟨bC,0,none⟩)] w fun e w'=>e=.returned (.tuple #[])∧PutsH w w' M (j1e l.length f j h m):=by
 have hf:f<3:=by have:=hd.f;omega
 intro j
 induction j with
 | zero =>
   intro h m q qi mi K w hq ad ac ay hh hC hm;have hM:=hm.lt;have hl:=hh.1;have ae:HOk h:=HOk.of hh (by omega)
   subst ad ac;have hP:PutsH w (w.alloc (Obj.cells (hcs h) 133)) M []:=(PutsH.refl w M).below hM (bal0 w _) (zL9 _);have a0:=hC.puts hP hm;have b0:(w.alloc (Obj.cells (hcs h) 133)).heap[w.heap.size]?=some (hObj h):=j0c rfl;have cT:=blk1 a0.hT;have cB:=blk1 a0.hB;obtain⟨p0,p1,-⟩:=blkB a0.hk.hp;have HX:=zQ9 (zA9 hC.hb hm);have an:(q:Int)=(l.length:Int):=by omega
   by_cases h0:m=0
   ·subst h0;rw[show j1e l.length f 0 h 0=[h] from rfl]
    clear an hC a0;go_enter Tryz.func151,Tryz.ntmps151
    go_wp2_with (first
     | ((with_reducible apply j1a b0 hl);(rfl);(rfl);(rfl))
     | (go_at_call 117;refine(j6z hP HX.o.1 HX.o.2 ae).mono ?_;rintro e w6 ⟨rfl,a3⟩))
    go_end0
    exact⟨rfl,a3⟩
   ·rw[show j1e l.length f 0 h m=[] by unfold j1e;rw[if_neg h0]]
    have x0:((m:Int)==0)=false:=beq_eq_false_iff_ne.2 (by omega)
    have x1:¬(q:Int)<(l.length:Int):=by omega
    clear an hC a0 h0;go_enter Tryz.func151,Tryz.ntmps151
    go_wp2_with fail
    go_end0
    exact⟨rfl,hP⟩
 | succ j ih =>
   intro h m q qi mi K w hq ad ac ay hh hC hm;have hM:=hm.lt;have hl:=hh.1;have ae:HOk h:=HOk.of hh (by omega)
   subst ad ac;by_cases h0:m=0
   ·subst h0;have hP:PutsH w (w.alloc (Obj.cells (hcs h) 133)) M []:=(PutsH.refl w M).below hM (bal0 w _) (zL9 _);have a0:=hC.puts hP hm;have b0:(w.alloc (Obj.cells (hcs h) 133)).heap[w.heap.size]?=some (hObj h):=j0c rfl;have cT:=blk1 a0.hT;have HX:=zQ9 (zA9 hC.hb hm);rw[show j1e l.length f (j+1) h 0=[h] from rfl]
    clear hC a0 ih;go_enter Tryz.func151,Tryz.ntmps151
    go_wp2_with (first
     | ((with_reducible apply j1a b0 hl);(rfl);(rfl);(rfl))
     | (go_at_call 117;refine(j6z hP HX.o.1 HX.o.2 ae).mono ?_;rintro e w6 ⟨rfl,a3⟩))
    go_end0
    exact⟨rfl,a3⟩
   ·rw[q1a h0];obtain⟨W,hW⟩:∃ W,W=w.alloc (Obj.cells (hcs h) 133):=⟨_,rfl⟩;have b0:W.heap[w.heap.size]?=some (hObj h):=by rw[hW];exact j0c rfl
    have hP:PutsH w W M []:=by rw[hW];exact(PutsH.refl w M).below hM (bal0 w _) (zL9 _)
    have a0:=hC.puts hP hm;obtain⟨K1,ag,-⟩:=hP.met K hm;have x0:((m:Int)==0)=false:=beq_eq_false_iff_ne.2 (by omega)
    have x1:(q:Int)<(l.length:Int):=by omega
    have x2:wrap64 ((m:Int)+1)=(m:Int)+1:=IntWalk.wrap64_in _ (by omega)
    have a7:q<5:=by have:=(j2d hC.hk.ck).2.2.1;omega
    have cB:=blk1 a0.hB;obtain⟨p0,p1,-⟩:=blkB a0.hk.hp;have ah:=ag.lt;have HX:=zQ9 (zA9 a0 (zA9 ag (zA9 hP (zA9 hh (zA9 hq (zA9 ih hW))))));have HQ:=zQ9 (zA9 hd (zA9 ar ax));obtain⟨r,hr⟩:∃ r,r=w.heap.size:=⟨_,rfl⟩;clear h0 hC hm ih a0 ag hP hh hq hd ar ax;go_enter Tryz.func151,Tryz.ntmps151
    go_upto_region 1 with (fail)
    rw[<-hW,<-hr];rw[<-hr] at b0;clear hW hr;go_wp2_with fail
    go_loopg [31] (m+1) (fun g iv wr=>∃ k:Nat,k+g=m+1∧iv=.int .i64 k∧PutsH W wr M (j9p l.length f j h m k))
    case atStart=>exact⟨0,by omega,rfl,PutsH.refl _ _⟩
    case round =>
     obtain⟨k,aA,rfl,a2⟩:=hrel;by_cases hlt:k<m+1
     ·have i0:(0:Int)<=(k:Int):=by omega
      have i1:(k:Int)<(m:Int)+1:=by omega
      have a1:=zQ9 (zA9 (show gk-1<gk by omega) (zA9 (show k+1+(gk-1)=m+1 by omega) (zA9 (show(q+1)+j=l.length by have:=HX.o.2.2.2.2.1;omega) (zA9 (show((q:Int)+1)=((q+1:Nat):Int) by push_cast;rfl) (zA9 (show((m:Int)-(k:Int))=((m-k:Nat):Int) by omega) (show m-k<=300 by omega))))))
      have aa:=HX.o.1.puts a2 HX.o.2.1;have f0:=a2.blk b0 (HX.o.2.1.ne b0);obtain⟨x,hx⟩:∃ x,x=hadd h f q (-(k:Int)):=⟨_,rfl⟩;obtain⟨b,a6⟩:∃ b,b=decide (0<=hget h f q+-(k:Int)):=⟨_,rfl⟩;have av:=k9e (n:=l.length) (j:=j) (m:=m) HX.o.2.2.2.2.1 hx a6;have az:=fun w=>j6h (x:=x) (b:=b) w hx a6 hl hf a7 (by have:=HX.o.2.2.2.1.get hf a7;omega) (by omega)
      have af:HOk x:=by rw[hx];exact j4q HX.o.2.2.2.1 (by omega) hf a7 (by omega)
      have ao:=af.1;have ak:b=true->HBd 1000 x:=fun e=>by rw[hx];rw[a6,decide_eq_true_eq] at e;have:=HX.o.2.2.2.1.get hf a7;exact HX.o.2.2.2.1.add e (by omega) (Int.le_refl _)
      have cT:=blk1 aa.hT;have cC:=blk1 aa.hC;obtain⟨d0,d1,-⟩:=blkD aa.hD;rw[HQ.o.2.2] at d1;have a4:=zQ9 (zA9 av (zA9 a2 ak));clear hx a6 av a2 ak aA aa d0;clear x2;have aj:=zQ9 (show Value.int .i64 ((k:Int)+1)=Value.int .i64 ((k+1:Nat):Int) by push_cast;rfl)
      go_upto_region 8 with (first
       | ((with_reducible apply j1a f0 hl);(rfl);(rfl);(rfl))
       | (go_at_call 150;refine(az _).mono ?_;rintro e w2 ⟨rfl,aw⟩;have a9:=a4.o.2.1.below ah aw a4.o.2.1.size;have bz:(w2.alloc (.cells #[.int .i64 0,.int .i64 0,.int .i64 0,.int .i64 0,.int .i64 0,.int .i64 0,.int .i64 0,.int .i64 0,.int .i64 0,.int .i64 0,.int .i64 0,.int .i64 0,.int .i64 0,.int .i64 0,.int .i64 0] 133)).heap[w2.heap.size]?=_:=j0c rfl;clear aw)
       | ((with_reducible apply j2a bz rfl ao);(rfl);(rfl);(rfl);(rfl);intro w3 am g3 z3;have a8:=(a9.below ah (bal0 w2 _) a9.size).grown ah g3 a9.size))
      obtain⟨gg,aq⟩:∃ gg,gg=w2.heap.size:=⟨_,rfl⟩;rw[<-aq] at am ⊢;clear aq g3 z3 a9 bz f0 cT cC d1;have ai:=HX.o.1.puts a8 HX.o.2.1;obtain⟨K3,a5,-⟩:=a8.met _ HX.o.2.1;have cC:=blk1 ai.hC;have H3:=zQ9 (zA9 ai (zA9 a5 a8));clear ai a5 a8;cases b with
      | false =>
        go_wp2_with fail
        go_roundg (gk-1)
        case measure=>exact a1.o.1
        case rel=>exact⟨k+1,a1.o.2.1,aj.o,by rw[a4.o.1,if_neg Bool.false_ne_true,List.append_nil];exact H3.o.2.2⟩
      | true =>
        go_wp2_with (first
         | ((with_reducible apply j1a am ao);(rfl);(rfl);(rfl))
         | (go_at_call 151;refine(HX.o.2.2.2.2.2.1 x (m-k) (q+1) _ _ K3 _ a1.o.2.2.1 a1.o.2.2.2.1 a1.o.2.2.2.2.1 a1.o.2.2.2.2.2 (a4.o.2.2 rfl) H3.o.1 H3.o.2.1).mono ?_;rintro e w6 ⟨rfl,a3⟩;have H6:=zQ9 (H3.o.2.2.trans a3);clear a3))
        go_roundg (gk-1)
        case measure=>exact a1.o.1
        case rel=>exact⟨k+1,a1.o.2.1,aj.o,by rw[a4.o.1,if_pos trivial];exact H6.o⟩
     ·obtain rfl:k=m+1:=by omega
      have HF:=zQ9 (HX.o.2.2.1.trans a2);clear a2;go_wp2_with fail
      go_end0
      exact⟨rfl,HF.o⟩
theorem lost_any (p:Nat) (t:Int) (A:Option Addr) (c:Nat) (l:List Mk) (ks hs ds:Value) (deed owner now:Int) (h:List Int) (d:De) (nf:Nat) (B M:Nat) (K:List (List Int)) (w:World) (hA:Ask l.length nf B M K h d w) (hB:Book w p t A l.length c l ks hs ds deed owner now) (hk:d.kind=4) :
 Calls Tryz.prog 136 #[.pointer (some ⟨p,0,none⟩),.agg (hcs h),dv d,.func (.func 117) #[] #[.pointer (some ⟨B,0,none⟩)]] w fun e w'=>e=.returned (.tuple #[])∧PutsH w w' M (j1e l.length d.flock.toNat l.length h d.many.toNat):=by
 obtain⟨hb,hm,hh,hd,a6⟩:=hA;have hM:=hm.lt;have hl:=hh.1;have ad:=hd.m;have a8:d.flock=((d.flock.toNat:Nat):Int):=by have:=hd.f;omega
 have a5:d.many=((d.many.toNat:Nat):Int):=by omega
 have aa:d.many.toNat<=300:=by omega
 have HC:=zQ9 (fun bT bB bD bC w' K' hC hm'=>q2q bT bB bD bC B M p t A c l ks hs ds deed owner now d d.flock.toNat nf hd a6 a8 l.length h d.many.toNat 0 0 d.many K' w' (by omega) rfl a5 aa hh hC hm')
 have HX:=zQ9 (zA9 hb (zA9 hm hB));clear hd a6 a8 a5 aa hh hb hm hB ad hk;unfold dv;go_enter Tryz.func136,Tryz.ntmps136
 go_upto_region 2 with (fail)
 obtain⟨W,hW⟩:∃ W,W=((((w.alloc (.cells #[.pointer (some ⟨p,0,none⟩)] 98)).alloc (Obj.cells (hcs h) 133)).alloc (dObj d)).alloc (.cells #[.func (Fn.func 117) #[] #[Value.pointer (some ⟨B,0,none⟩)]] 170)).alloc (.cells #[.nilFunc] 200):=⟨_,rfl⟩;have b0:W.heap[w.heap.size]?=some (.cells #[.pointer (some ⟨p,0,none⟩)] 98 (0,0)):=by rw[hW];exact j0b (j0b (j0b (j0b (j0c rfl) _) _) _) _
 have b1:W.heap[w.heap.size+1]?=some (hObj h):=by rw[hW];exact j0b (j0b (j0b (j0c (by simp)) _) _) _
 have b2:W.heap[w.heap.size+1+1]?=some (dObj d):=by rw[hW];exact j0b (j0b (j0c (by simp)) _) _
 have b3:W.heap[w.heap.size+1+1+1]?=some (.cells #[.func (Fn.func 117) #[] #[Value.pointer (some ⟨B,0,none⟩)]] 170 (0,0)):=by rw[hW];exact j0b (j0c (by simp)) _
 have b4:W.heap[w.heap.size+1+1+1+1]?=some (.cells #[.nilFunc] 200 (0,0)):=by rw[hW];exact j0c (by simp)
 have hP:PutsH w W M []:=by rw[hW];exact(PutsH.refl w M).below hM (bal (bal (bal (bal (bal0 w _) (zL9 _) _) (zL9 _) _) (zL9 _) _) (zL9 _) _) (zL9 _)
 rw[<-hW];clear hW;obtain⟨r,hr⟩:∃ r,r=w.heap.size:=⟨_,rfl⟩;have HR:=zQ9 (show w.heap.size<=r by omega)
 rw[<-hr] at b0 b1 b2 b3 b4 ⊢;clear hr;have c4:=blk1 b4;have f4:=frz b4 0;go_upto_region 3 with (fail)
 obtain⟨F,hF⟩:∃ F,F=Value.func (Fn.func 151) #[] #[.pointer (some ⟨r+1+1+1,0,none⟩),.pointer (some ⟨r,0,none⟩),.pointer (some ⟨r+1+1,0,none⟩),.pointer (some ⟨r+1+1+1+1,0,none⟩)]:=⟨_,rfl⟩;have a0:∀ j,j≠r+1+1+1+1->(W.setCell ⟨r+1+1+1+1,0,none⟩ F).heap[j]?=W.heap[j]?:=fun j hj=>zB1 _ ⟨r+1+1+1+1,0,none⟩ _ _ hj
 have e4:(W.setCell ⟨r+1+1+1+1,0,none⟩ F).heap[r+1+1+1+1]?=some (Obj.cells #[F] 200 (0,0)):=j0g b4;have e0:=(a0 r (by omega)).trans b0
 have e1:=(a0 (r+1) (by omega)).trans b1
 have e2:=(a0 (r+1+1) (by omega)).trans b2
 have e3:=(a0 (r+1+1+1) (by omega)).trans b3
 have ac:=HR.o;have a1:PutsH w (W.setCell ⟨r+1+1+1+1,0,none⟩ F) M []:=hP.quiet hM (by simpa using hP.size) rfl rfl rfl (fun k hk=>a0 k (by omega))
 rw[<-hF];generalize W.setCell ⟨r+1+1+1+1,0,none⟩ F=W2 at e0 e1 e2 e3 e4 a1 ⊢;clear a0 b0 b1 b2 b3 b4 c4 f4 hP;have a9:=HX.o.2.2.puts a1 HX.o.2.1;obtain⟨K2,a7,-⟩:=a1.met K HX.o.2.1;have a4:=a1.blk HX.o.1 (HX.o.2.1.ne HX.o.1);rw[hF] at e4;have a2:=zQ9 (zA9 (Chs.mk e3 e0 e2 e4 a4 a9) (zA9 a7 a1));rw[hF];have c4:=blk1 e4;obtain⟨-,-,-,-,-,d5,-⟩:=blkD e2;clear hF e0 e2 e3 a9 a7 a4 a1 ac;go_wp2_with (first
  | ((with_reducible apply j1a e1 hl);(rfl);(rfl);(rfl))
  | (go_at_call 151;refine(HC.o _ _ _ _ _ K2 a2.o.1 a2.o.2.1).mono ?_;rintro e w6 ⟨rfl,a3⟩;have H6:=zQ9 (a2.o.2.2.trans a3);clear a3))
 go_end0
 exact⟨rfl,H6.o⟩
def j4h (h:List Int) (f:Nat) (r:List Int):List Int:=h.take (f*5)++r++h.drop (f*5+r.length)
theorem q3i {h r:List Int} {f:Nat} (hl:h.length=15) (hf:f<3) (hr:r.length<=5):(j4h h f r).length=15:=by
 unfold j4h;simp;omega
theorem k6v:(Tryz.prog.info? 3).map (·.size)=some 1:=by kernel_rfl
theorem wp_copyH {ops:Array Oper} {rest:List Oper} {o:Oper} {a:Act} {w:World} {Q:Exit->Act->World->Prop} {g f n c:Nat} {B:Option Addr} {h r:List Int}
 (hb:w.heap[g]?=some (hObj h)) (hl:h.length=15) (hf:f<3) (hr:Ints w B n r) (hn:n<=5)
 (hg:o.guard=none) (x y:Operand) (a5:o.op=.call { callee:=.builtin .copy,args:=#[x,y],argTypes:=#[25,25] }) (hx:a.eval x=.slice (some ⟨g,f*5,none⟩) 5 5) (hy:a.eval y=.slice B n c)
 (hK:∀ w2,w2.heap[g]?=some (hObj (j4h h f r))->w.grownBy w2 (some g)->w2.heap.size=w.heap.size->wpList Tryz.prog ops Q rest (a.put o.dst (.int .i64 n)) w2):wpList Tryz.prog ops Q (o::rest) a w:=by
 have a1:=hr.len;obtain⟨dst,op,ty,pos,after,guard⟩:=o;dsimp only at a5 hg hK;subst a5;refine wpList_plain hg fun K' hK'=>?_
 unfold Oper.wp;cases B with
 | none =>
   have h0:n=0:=by
    rcases Nat.eq_zero_or_pos n with h0|h0
    ·exact h0
    ·obtain⟨bb,oo,hA,_⟩:=hr.2 h0;cases hA
   subst h0;have a6:r=[]:=zC1 a1;subst a6;have a0:=run_copy_none (P:=Tryz.prog) w 25 25 ty 3 (some ⟨g,f*5,none⟩) none 5 5 0 c Tryz.underlying25 k6v (by simp)
   simp[BigFrame.execOp_builtin,BigFrame.builtin_copy,hx,hy,a0,Result.andThen];refine hK' _ _ (hK w ?_ (World.grownBy.refl w _) rfl);rw[show j4h h f []=h by unfold j4h;simp]
   exact hb
 | some ad =>
   have a0:=run_copy_row (P:=Tryz.prog) w 25 25 ty 3 g (f*5) 5 5 ad n c (hcs h) _ (r.map (Value.int .i64)) Tryz.underlying25 k6v hb (by have:Nat.min n 5=n:=Nat.min_eq_left hn;rw[this,List.length_map,a1]) (fun j v hj=>by
    obtain⟨bb,oo,hA,hc⟩:∃ bb oo,ad=⟨bb,oo,none⟩∧∀ i x,r[i]?=some x->w.cell? ⟨bb,oo+i,none⟩=some (.int .i64 x):=by
     have a4:0<n:=by
      rw[<-a1];have:=(List.getElem?_eq_some_iff.1 hj).1;simp at this;omega
     obtain⟨bb,oo,hA,hc⟩:=hr.2 a4;injection hA with hA
     exact⟨bb,oo,hA,fun i x hx=>by simpa using hc i x hx 0 _ rfl⟩
    subst hA;rw[List.getElem?_map] at hj;cases hx':r[j]? with
    | none=>rw[hx'] at hj;cases hj
    | some z =>
      rw[hx'] at hj;injection hj with hj
      rw[<-hj];have:=hc j z hx';have hadd:(⟨bb,oo,none⟩:Addr).add j=⟨bb,oo+j,none⟩:=by unfold Addr.add;split<;>simp_all
      rw[hadd];exact this) (by rw[j2q,hl];simp;omega) (fun v hv=>by simp at hv;obtain⟨z,_,rfl⟩:=hv;rfl)
   have a3:((hcs h).toList.take (f*5)++r.map (Value.int .i64)++(hcs h).toList.drop (f*5+(r.map (Value.int .i64)).length)).toArray=hcs (j4h h f r):=by
    unfold hcs j4h;simp[List.map_take,List.map_drop]
   rw[a3] at a0;have a2:(goInt (r.map (Value.int .i64)).length)=Value.int .i64 n:=by rw[List.length_map,a1];rfl
   rw[a2] at a0;simp[BigFrame.execOp_builtin,BigFrame.builtin_copy,hx,hy,a0,Result.andThen];refine hK' _ _ (hK _ (setRow_heap _ _ _ _ _ _ hb) ⟨rfl,rfl,rfl,by simp[World.setRow],fun k hk hne=>?_⟩ (by simp[World.setRow]))
   unfold World.setRow;rw[Array.getElem?_modify,if_neg (fun e=>hne (by rw[e]))]
theorem q3h {h r:List Int} {f:Nat} (hl:h.length=15) (hf:f<3) (hr:r.length<=5) (i:Nat):(j4h h f r).getD i 0=if f*5<=i∧i<f*5+r.length then r.getD (i-f*5) 0 else h.getD i 0:=by
 have ht:(h.take (f*5)).length=f*5:=by rw[List.length_take];omega
 unfold j4h;simp only[zB3];by_cases h1:i<f*5
 ·rw[if_neg (by omega),List.append_assoc,List.getElem?_append_left (by omega),List.getElem?_take_of_lt h1]
 ·by_cases h2:i<f*5+r.length
  ·rw[if_pos ⟨by omega,h2⟩,List.getElem?_append_left (by rw[List.length_append,ht];exact h2),List.getElem?_append_right (by omega),ht]
  ·rw[if_neg (by omega),List.getElem?_append_right (by rw[List.length_append,ht];omega),List.length_append,ht,List.getElem?_drop]
   congr 2;omega
def j3n (heads:List (List Int)):Nat->List Int
 | 0=>List.replicate 15 0
 | k+1=>j4h (j3n heads k) k (heads.getD k [])
theorem j5q {heads:List (List Int)} (h5:∀ r∈heads,r.length<=5):∀ k,k<=3->(j3n heads k).length=15
 | 0,_=>by simp[j3n]
 | k+1,hk=>by
   unfold j3n;refine q3i (j5q h5 k (by omega)) (by omega) ?_
   rw[zB3];cases e:heads[k]? with
   | none=>simp
   | some r=>exact h5 r (zB4 e)
theorem k4h {heads:List (List Int)} (h5:∀ r∈heads,r.length<=5):∀ k,k<=3->∀ i,(j3n heads k).getD i 0=if i / 5<k then (heads.getD (i / 5) []).getD (i % 5) 0 else 0
 | 0,_,i=>by
   rw[if_neg (by omega)]
   unfold j3n;rw[zB3,List.getElem?_replicate]
   split<;>rfl
 | k+1,hk,i=>by
   have hr:(heads.getD k []).length<=5:=by
    rw[zB3];cases e:heads[k]? with
    | none=>simp
    | some r=>exact h5 r (zB4 e)
   unfold j3n;rw[q3h (j5q h5 k (by omega)) (by omega) hr,k4h h5 k (by omega)]
   by_cases h1:i / 5=k
   ·rw[if_pos (show i / 5<k+1 by omega),if_neg (show ¬i / 5<k by omega),h1]
    have e1:i-k*5=i % 5:=by omega
    by_cases h2:k*5<=i∧i<k*5+(heads.getD k []).length
    ·rw[if_pos h2,e1]
    ·rw[if_neg h2];rw[zB3,List.getElem?_eq_none (by omega)]
     rfl
   ·rw[if_neg (show ¬(k*5<=i∧i<k*5+(heads.getD k []).length) by omega)]
    by_cases h3:i / 5<k
    ·rw[if_pos h3,if_pos (by omega)]
    ·rw[if_neg h3,if_neg (by omega)]
theorem q2w {heads:List (List Int)} (h5:∀ r∈heads,r.length<=5) (h3:heads.length<=3):j3n heads heads.length=j0i heads:=by
 have hl:=j5q h5 heads.length h3;apply List.ext_getElem?;intro i;by_cases hi:i<15
 ·have hg:=k4h h5 heads.length h3 i;rw[zB3,zB5 (by omega),Option.getD_some] at hg
  rw[zB5 (by omega),hg]
  unfold j0i;rw[List.getElem?_map,List.getElem?_range hi,Option.map_some];by_cases h1:i / 5<heads.length
  ·rw[if_pos h1]
  ·rw[if_neg h1,zB3 (l:=heads),List.getElem?_eq_none (by omega)];rfl
 ·rw[List.getElem?_eq_none (by omega),List.getElem?_eq_none (by unfold j0i;simp;omega)]
theorem q4n (p:Nat) (t:Int) (A:Option Addr) (n c:Nat) (l:List Mk) (ks ds:Value) (HA:Option Addr) (hc:Nat) (heads:List (List Int)) (deed owner now:Int) (w:World) (hB:Book w p t A n c l ks (.slice HA heads.length hc) ds deed owner now) (hG:Grid w HA heads.length heads) (h3:heads.length<=3) (h5:∀ r∈heads,r.length<=5) :
 Calls Tryz.prog 104 #[.pointer (some ⟨p,0,none⟩)] w fun e w'=>e=.returned (.agg (hcs (j0i heads)))∧Below w.heap.size w w':=by
 obtain⟨W,hW⟩:∃ W,W=(w.alloc (Obj.cells #[.int .i64 0,.int .i64 0,.int .i64 0,.int .i64 0,.int .i64 0,.int .i64 0,.int .i64 0,.int .i64 0,.int .i64 0,.int .i64 0,.int .i64 0,.int .i64 0,.int .i64 0,.int .i64 0,.int .i64 0] 133)).alloc (Obj.cells #[.int .i64 0,.int .i64 0,.int .i64 0,.int .i64 0,.int .i64 0,.int .i64 0,.int .i64 0,.int .i64 0,.int .i64 0,.int .i64 0,.int .i64 0,.int .i64 0,.int .i64 0,.int .i64 0,.int .i64 0] 133):=⟨_,rfl⟩;have b0:W.heap[w.heap.size]?=some (hObj (List.replicate 15 0)):=by rw[hW];exact j0b (j0c rfl) _
 have b1:W.heap[w.heap.size+1]?=some (hObj (j3n heads 0)):=by rw[hW];exact j0c (by simp)
 have ag:Below w.heap.size w W:=by rw[hW];exact bal (bal0 w _) (zL9 _) _
 have hp:=j0e hB.hp ag (zL9 _);obtain⟨p0,p1,p2,p3,-⟩:=blkB hp;have aD:=j0a hB.hp;have HW:=zQ9 hW;obtain⟨r,hr⟩:∃ r,r=w.heap.size:=⟨_,rfl⟩;have HR:=zQ9 hr;go_enter Tryz.func104,Tryz.ntmps104
 go_upto_region 2 with (fail)
 rw[<-hW,<-hr];rw[<-hr] at b0 b1 ag aD;have HX:=zQ9 (zA9 ag (zA9 hG (zA9 b0 b1)));have ac:=zQ9 (zA9 h3 h5);clear hW hr b0 b1 ag hp hB hG h3 h5;go_wp2_with fail
 go_loopg [12] heads.length (fun g iv wr=>∃ k:Nat,k+g=heads.length∧iv=.int .i64 k∧wr.heap[r]?=some (hObj (List.replicate 15 0))∧wr.heap[r+1]?=some (hObj (j3n heads k))∧Below r w wr)
 case atStart=>exact⟨0,by omega,rfl,HX.o.2.2.1,HX.o.2.2.2,HX.o.1⟩
 case round =>
  obtain⟨k,ak,rfl,f0,f1,af⟩:=hrel;have aj:=HX.o.2.1.below af (Nat.le_of_eq HR.o.symm);have b6:=j0a f1;by_cases hlt:k<heads.length
  ·obtain⟨bi,oi,Bx,row,cx,aA,aH,aa,b5,hin,b8,b3⟩:=aj.get hlt;subst aA;have an:=ac.o.2 row (zB4 aa);have ar:k<3:=by have:=ac.o.1;omega
   have hl:=j5q ac.o.2 k (by omega)
   have am:j3n heads (k+1)=j4h (j3n heads k) k row:=by
    conv=>lhs;unfold j3n
    rw[zB3,aa];rfl
   have i0:(0:Int)<=(k:Int):=by omega
   have i1:(k:Int)<(heads.length:Int):=by omega
   have i3:(k:Int)<3:=by omega
   have ai:=zQ9 (zA9 (show gk-1<gk by omega) (zA9 (show k+1+(gk-1)=heads.length by omega) (show Value.int .i64 ((k:Int)+1)=Value.int .i64 ((k+1:Nat):Int) by push_cast;rfl)))
   have HN:=zQ9 (zA9 am (zA9 f0 af));clear am f0 af aj ak aa;go_wp2_with ((with_reducible apply wp_copyH f1 hl ar hin an);(rfl);(rfl);(rfl);(rfl);intro w2 aC g2 z2)
   go_roundg (gk-1)
   case measure=>exact ai.o.1
   case rel=>exact⟨k+1,ai.o.2.1,ai.o.2.2,gblk g2 HN.o.2.1 (by omega),by rw[HN.o.1];exact aC,HN.o.2.2.grown g2 (by omega) (fun j hj=>by cases hj;omega)⟩
  ·obtain rfl:k=heads.length:=by omega
   have hl:=j5q ac.o.2 heads.length ac.o.1;have ad:=q2w ac.o.2 ac.o.1;rw[ad] at f1 hl;obtain⟨y,hy⟩:∃ y,y=j0i heads:=⟨_,rfl⟩;have HY:=zQ9 hy;rw[<-hy] at f1 hl;have aE:=zQ9 af;clear aj ak ad hy af;have aq:(hcs (List.replicate 15 0)).size=15:=by rw[j2q,List.length_replicate]
   go_wp2_with (first
    | ((with_reducible apply j1a f1 hl);(rfl);(rfl);(rfl))
    | ((with_reducible apply j2a f0 aq hl);(rfl);(rfl);(rfl);(rfl);intro w2 av g2 z2))
   have ax:=zQ9 (aE.o.grown g2 (by omega) (fun j hj=>by cases hj;omega))
   obtain⟨a0,a1,a2,a3,a4,a5,a6,a7,a8,a9,b4,b9,aG,b7,aF,ah,ae⟩:=j7s hl;obtain⟨y0,y1,y2,y3,y4,y5,y6,y7,y8,y9,aw,aB,ay,ao,az⟩:=ae _ _ av;exact bodyPost_ret (v:=.agg (hcs y)) (by simp[results,Tryz.f104,go_sem,<-ah,y0,y1,y2,y3,y4,y5,y6,y7,y8,y9,aw,aB,ay,ao,az]) rfl ⟨by rw[HY.o],by rw[<-HR.o];exact ax.o⟩
theorem intK:Maps.Keyed Tryz.prog 3:=Maps.int_keyed Tryz.underlying3
theorem keyIS {k:Int} (hk:-9223372036854775808<=k∧k<=9223372036854775807):∃ l,keyOf Tryz.prog 3 (.int .i64 k)=some l:=⟨_,Maps.keyOf_int_mk Tryz.underlying3 (WalkArith.wf_i64 hk)⟩
def k6e (es:List MapEntry):Prop:=∀ e∈es,∃ q:Nat,e.key=.int .i64 (q:Int)∧q<=100
theorem run_getI {W:World} {D clock:Nat} {es:Array MapEntry} (hh:W.heap[D]?=some (.map es clock)):(getObj D).run Tryz.prog W=.ok (.map es clock) W:=by simp[getObj,Sem.run,hh]
theorem run_setI {W:World} {D clock:Nat} {es:Array MapEntry} (hh:W.heap[D]?=some (.map es clock)) (o:Obj):(setObj D o).run Tryz.prog W=.ok () { W with heap:=W.heap.setIfInBounds D o }:=by simp[setObj,Sem.run,hh]
theorem q3x (w:World) (m o:Obj):({ (w.alloc m) with heap:=(w.alloc m).heap.setIfInBounds w.heap.size o }:World)=w.alloc o:=by
 have h:(w.heap.push m).setIfInBounds w.heap.size o=w.heap.push o:=by
  apply Array.ext_getElem?;intro i;by_cases hi:i=w.heap.size
  ·subst hi;rw[Array.getElem?_setIfInBounds_self_of_lt (by simp)]
   simp
  ·rw[Array.getElem?_setIfInBounds_ne (fun e=>hi e.symm),Array.getElem?_push,Array.getElem?_push,if_neg hi,if_neg hi]
 show({ (w.alloc m) with heap:=(w.heap.push m).setIfInBounds w.heap.size o }:World)=w.alloc o
 rw[h];rfl
theorem j6m {w:World} {es:Array MapEntry} {clock k:Nat} {v:Value} (hs:k6e es.toList) (hk:k<=100) (a2:∀ e∈es.toList,e.key≠.int .i64 (k:Int)) :
 (Instr.mapUpdate 167 (.map (some w.heap.size)) (.int .i64 (k:Int)) v).run Tryz.prog (w.alloc (.map es clock))=.ok () (w.alloc (.map (es.push ⟨.int .i64 (k:Int),v,clock⟩) (clock+1))):=by
 obtain⟨l,hl⟩:=keyIS (k:=(k:Int)) (by omega)
 have hh:(w.alloc (.map es clock)).heap[w.heap.size]?=some (.map es clock):=j0c rfl;have hu:=run_underlying (P:=Tryz.prog) (w:=w.alloc (.map es clock)) Tryz.underlying167;have hg:=run_getI hh;have a0:∀ o,(setObj w.heap.size o).run Tryz.prog (w.alloc (.map es clock))=.ok () (w.alloc o):=fun o=>(run_setI hh o).trans (by rw[q3x])
 have a1:=fun em=>intK.check (w.alloc (.map es clock)) em hl
 rcases intK.find (w.alloc (.map es clock)) hl es.toList (fun e he=>by obtain⟨q,hq,a3⟩:=hs e he;rw[hq];exact keyIS (by omega)) with ⟨hr,_⟩|⟨j,e,hr,hj,hke⟩
 ·simp[Instr.mapUpdate,hu,hg,a1,hr,a0]
 ·exact absurd hke (a2 e (zB4 hj))
def j2b (p:Nat):Array MapEntry:=#[⟨.int .i64 1,(.func (.func 133) #[.pointer (some ⟨p,0,none⟩)] #[]),0⟩,⟨.int .i64 2,(.func (.func 134) #[.pointer (some ⟨p,0,none⟩)] #[]),1⟩,⟨.int .i64 3,(.func (.func 135) #[.pointer (some ⟨p,0,none⟩)] #[]),2⟩,⟨.int .i64 4,(.func (.func 136) #[.pointer (some ⟨p,0,none⟩)] #[]),3⟩,⟨.int .i64 5,(.func (.func 137) #[.pointer (some ⟨p,0,none⟩)] #[]),4⟩,⟨.int .i64 6,(.func (.func 138) #[.pointer (some ⟨p,0,none⟩)] #[]),5⟩]
theorem q3n (p:Nat):k6e (j2b p).toList:=by
 intro e he;simp[j2b] at he;rcases he with rfl|rfl|rfl|rfl|rfl|rfl
 ·exact⟨1,rfl,by decide⟩
 ·exact⟨2,rfl,by decide⟩
 ·exact⟨3,rfl,by decide⟩
 ·exact⟨4,rfl,by decide⟩
 ·exact⟨5,rfl,by decide⟩
 ·exact⟨6,rfl,by decide⟩
theorem j6k {w:World} {D clock p k:Nat} (h:w.heap[D]?=some (.map (j2b p) clock)) {e:MapEntry} (he:(j2b p)[k]?=some e) (hk:k<6) :
 (Instr.lookup 167 (.map (some D)) (.int .i64 ((k:Int)+1)) false).run Tryz.prog w=.ok e.val w:=by
 obtain⟨l,hl⟩:=keyIS (k:=(k:Int)+1) (by omega)
 have hu:=run_underlying (P:=Tryz.prog) (w:=w) Tryz.underlying167;have hg:(getObj D).run Tryz.prog w=.ok (.map (j2b p) clock) w:=by simp[getObj,Sem.run,h]
 have a3:=fun em=>intK.check w em hl
 have a1:e.key=.int .i64 ((k:Int)+1):=by
  obtain rfl|rfl|rfl|rfl|rfl|rfl:k=0∨k=1∨k=2∨k=3∨k=4∨k=5:=by omega
  all_goals (simp[j2b] at he;rw[<-he];rfl)
 rcases intK.find w hl (j2b p).toList (fun e he=>by obtain⟨q,hq,a5⟩:=q3n p e he;rw[hq];exact keyIS (by omega)) with ⟨hr,hno⟩|⟨j,e',hr,hj,hke⟩
 ·exact absurd a1 (hno e (zB4 (by simpa using he)))
 ·have a2:e'=e:=by
   have a0:(j2b p)[j]?=some e':=by simpa using hj
   have a6:j<6:=by have:=(Array.getElem?_eq_some_iff.1 a0).1;simpa[j2b] using this
   have a4:j=k:=by
    have:e'.key=.int .i64 ((j:Int)+1):=by
     obtain rfl|rfl|rfl|rfl|rfl|rfl:j=0∨j=1∨j=2∨j=3∨j=4∨j=5:=by omega
     all_goals (simp[j2b] at a0;rw[<-a0];rfl)
    rw[this] at hke;have h2:=(Value.int.inj hke).2;omega
   rw[a4,he] at a0;exact(Option.some.inj a0).symm
  rw[a2] at hr;simp[Instr.lookup,hu,hg,a3,hr]
theorem does_any (p:Nat) (w:World) :
 Calls Tryz.prog 116 #[.pointer (some ⟨p,0,none⟩)] w fun e w'=>e=.returned (.map (some w.heap.size))∧w'=w.alloc (.map (j2b p) 6):=by
 have a0:=@run_makeMap Tryz.prog;have q0:(Instr.mapUpdate 167 (.map (some w.heap.size)) (.int .i64 1) (.func (.func 133) #[.pointer (some ⟨p,0,none⟩)] #[])).run Tryz.prog (w.alloc (.map #[] 0))=.ok () (w.alloc (.map #[⟨.int .i64 1,(.func (.func 133) #[.pointer (some ⟨p,0,none⟩)] #[]),0⟩] 1)):=j6m (es:=#[]) (clock:=0) (k:=1) (fun e he=>by simp at he) (by decide) (fun e he=>by simp at he)
 have q1:(Instr.mapUpdate 167 (.map (some w.heap.size)) (.int .i64 2) (.func (.func 134) #[.pointer (some ⟨p,0,none⟩)] #[])).run Tryz.prog (w.alloc (.map #[⟨.int .i64 1,(.func (.func 133) #[.pointer (some ⟨p,0,none⟩)] #[]),0⟩] 1))=.ok () (w.alloc (.map #[⟨.int .i64 1,(.func (.func 133) #[.pointer (some ⟨p,0,none⟩)] #[]),0⟩,⟨.int .i64 2,(.func (.func 134) #[.pointer (some ⟨p,0,none⟩)] #[]),1⟩] 2)):=j6m (es:=#[⟨.int .i64 1,(.func (.func 133) #[.pointer (some ⟨p,0,none⟩)] #[]),0⟩]) (clock:=1) (k:=2) (fun e he=>by simp at he;rcases he with rfl;all_goals (first|exact⟨1,rfl,by decide⟩|exact⟨2,rfl,by decide⟩|exact⟨3,rfl,by decide⟩|exact⟨4,rfl,by decide⟩|exact⟨5,rfl,by decide⟩)) (by decide) (fun e he=>by simp at he;rcases he with rfl;all_goals (intro h;injection h with _ h2;omega))
 have q2:(Instr.mapUpdate 167 (.map (some w.heap.size)) (.int .i64 3) (.func (.func 135) #[.pointer (some ⟨p,0,none⟩)] #[])).run Tryz.prog (w.alloc (.map #[⟨.int .i64 1,(.func (.func 133) #[.pointer (some ⟨p,0,none⟩)] #[]),0⟩,⟨.int .i64 2,(.func (.func 134) #[.pointer (some ⟨p,0,none⟩)] #[]),1⟩] 2))=.ok () (w.alloc (.map #[⟨.int .i64 1,(.func (.func 133) #[.pointer (some ⟨p,0,none⟩)] #[]),0⟩,⟨.int .i64 2,(.func (.func 134) #[.pointer (some ⟨p,0,none⟩)] #[]),1⟩,⟨.int .i64 3,(.func (.func 135) #[.pointer (some ⟨p,0,none⟩)] #[]),2⟩] 3)):=j6m (es:=#[⟨.int .i64 1,(.func (.func 133) #[.pointer (some ⟨p,0,none⟩)] #[]),0⟩,⟨.int .i64 2,(.func (.func 134) #[.pointer (some ⟨p,0,none⟩)] #[]),1⟩]) (clock:=2) (k:=3) (fun e he=>by simp at he;rcases he with rfl|rfl;all_goals (first|exact⟨1,rfl,by decide⟩|exact⟨2,rfl,by decide⟩|exact⟨3,rfl,by decide⟩|exact⟨4,rfl,by decide⟩|exact⟨5,rfl,by decide⟩)) (by decide) (fun e he=>by simp at he;rcases he with rfl|rfl;all_goals (intro h;injection h with _ h2;omega))
 have q3:(Instr.mapUpdate 167 (.map (some w.heap.size)) (.int .i64 4) (.func (.func 136) #[.pointer (some ⟨p,0,none⟩)] #[])).run Tryz.prog (w.alloc (.map #[⟨.int .i64 1,(.func (.func 133) #[.pointer (some ⟨p,0,none⟩)] #[]),0⟩,⟨.int .i64 2,(.func (.func 134) #[.pointer (some ⟨p,0,none⟩)] #[]),1⟩,⟨.int .i64 3,(.func (.func 135) #[.pointer (some ⟨p,0,none⟩)] #[]),2⟩] 3))=.ok () (w.alloc (.map #[⟨.int .i64 1,(.func (.func 133) #[.pointer (some ⟨p,0,none⟩)] #[]),0⟩,⟨.int .i64 2,(.func (.func 134) #[.pointer (some ⟨p,0,none⟩)] #[]),1⟩,⟨.int .i64 3,(.func (.func 135) #[.pointer (some ⟨p,0,none⟩)] #[]),2⟩,⟨.int .i64 4,(.func (.func 136) #[.pointer (some ⟨p,0,none⟩)] #[]),3⟩] 4)):=j6m (es:=#[⟨.int .i64 1,(.func (.func 133) #[.pointer (some ⟨p,0,none⟩)] #[]),0⟩,⟨.int .i64 2,(.func (.func 134) #[.pointer (some ⟨p,0,none⟩)] #[]),1⟩,⟨.int .i64 3,(.func (.func 135) #[.pointer (some ⟨p,0,none⟩)] #[]),2⟩]) (clock:=3) (k:=4) (fun e he=>by simp at he;rcases he with rfl|rfl|rfl;all_goals (first|exact⟨1,rfl,by decide⟩|exact⟨2,rfl,by decide⟩|exact⟨3,rfl,by decide⟩|exact⟨4,rfl,by decide⟩|exact⟨5,rfl,by decide⟩)) (by decide) (fun e he=>by simp at he;rcases he with rfl|rfl|rfl;all_goals (intro h;injection h with _ h2;omega))
 have q4:(Instr.mapUpdate 167 (.map (some w.heap.size)) (.int .i64 5) (.func (.func 137) #[.pointer (some ⟨p,0,none⟩)] #[])).run Tryz.prog (w.alloc (.map #[⟨.int .i64 1,(.func (.func 133) #[.pointer (some ⟨p,0,none⟩)] #[]),0⟩,⟨.int .i64 2,(.func (.func 134) #[.pointer (some ⟨p,0,none⟩)] #[]),1⟩,⟨.int .i64 3,(.func (.func 135) #[.pointer (some ⟨p,0,none⟩)] #[]),2⟩,⟨.int .i64 4,(.func (.func 136) #[.pointer (some ⟨p,0,none⟩)] #[]),3⟩] 4))=.ok () (w.alloc (.map #[⟨.int .i64 1,(.func (.func 133) #[.pointer (some ⟨p,0,none⟩)] #[]),0⟩,⟨.int .i64 2,(.func (.func 134) #[.pointer (some ⟨p,0,none⟩)] #[]),1⟩,⟨.int .i64 3,(.func (.func 135) #[.pointer (some ⟨p,0,none⟩)] #[]),2⟩,⟨.int .i64 4,(.func (.func 136) #[.pointer (some ⟨p,0,none⟩)] #[]),3⟩,⟨.int .i64 5,(.func (.func 137) #[.pointer (some ⟨p,0,none⟩)] #[]),4⟩] 5)):=j6m (es:=#[⟨.int .i64 1,(.func (.func 133) #[.pointer (some ⟨p,0,none⟩)] #[]),0⟩,⟨.int .i64 2,(.func (.func 134) #[.pointer (some ⟨p,0,none⟩)] #[]),1⟩,⟨.int .i64 3,(.func (.func 135) #[.pointer (some ⟨p,0,none⟩)] #[]),2⟩,⟨.int .i64 4,(.func (.func 136) #[.pointer (some ⟨p,0,none⟩)] #[]),3⟩]) (clock:=4) (k:=5) (fun e he=>by simp at he;rcases he with rfl|rfl|rfl|rfl;all_goals (first|exact⟨1,rfl,by decide⟩|exact⟨2,rfl,by decide⟩|exact⟨3,rfl,by decide⟩|exact⟨4,rfl,by decide⟩|exact⟨5,rfl,by decide⟩)) (by decide) (fun e he=>by simp at he;rcases he with rfl|rfl|rfl|rfl;all_goals (intro h;injection h with _ h2;omega))
 have q5:(Instr.mapUpdate 167 (.map (some w.heap.size)) (.int .i64 6) (.func (.func 138) #[.pointer (some ⟨p,0,none⟩)] #[])).run Tryz.prog (w.alloc (.map #[⟨.int .i64 1,(.func (.func 133) #[.pointer (some ⟨p,0,none⟩)] #[]),0⟩,⟨.int .i64 2,(.func (.func 134) #[.pointer (some ⟨p,0,none⟩)] #[]),1⟩,⟨.int .i64 3,(.func (.func 135) #[.pointer (some ⟨p,0,none⟩)] #[]),2⟩,⟨.int .i64 4,(.func (.func 136) #[.pointer (some ⟨p,0,none⟩)] #[]),3⟩,⟨.int .i64 5,(.func (.func 137) #[.pointer (some ⟨p,0,none⟩)] #[]),4⟩] 5))=.ok () (w.alloc (.map #[⟨.int .i64 1,(.func (.func 133) #[.pointer (some ⟨p,0,none⟩)] #[]),0⟩,⟨.int .i64 2,(.func (.func 134) #[.pointer (some ⟨p,0,none⟩)] #[]),1⟩,⟨.int .i64 3,(.func (.func 135) #[.pointer (some ⟨p,0,none⟩)] #[]),2⟩,⟨.int .i64 4,(.func (.func 136) #[.pointer (some ⟨p,0,none⟩)] #[]),3⟩,⟨.int .i64 5,(.func (.func 137) #[.pointer (some ⟨p,0,none⟩)] #[]),4⟩,⟨.int .i64 6,(.func (.func 138) #[.pointer (some ⟨p,0,none⟩)] #[]),5⟩] 6)):=j6m (es:=#[⟨.int .i64 1,(.func (.func 133) #[.pointer (some ⟨p,0,none⟩)] #[]),0⟩,⟨.int .i64 2,(.func (.func 134) #[.pointer (some ⟨p,0,none⟩)] #[]),1⟩,⟨.int .i64 3,(.func (.func 135) #[.pointer (some ⟨p,0,none⟩)] #[]),2⟩,⟨.int .i64 4,(.func (.func 136) #[.pointer (some ⟨p,0,none⟩)] #[]),3⟩,⟨.int .i64 5,(.func (.func 137) #[.pointer (some ⟨p,0,none⟩)] #[]),4⟩]) (clock:=5) (k:=6) (fun e he=>by simp at he;rcases he with rfl|rfl|rfl|rfl|rfl;all_goals (first|exact⟨1,rfl,by decide⟩|exact⟨2,rfl,by decide⟩|exact⟨3,rfl,by decide⟩|exact⟨4,rfl,by decide⟩|exact⟨5,rfl,by decide⟩)) (by decide) (fun e he=>by simp at he;rcases he with rfl|rfl|rfl|rfl|rfl;all_goals (intro h;injection h with _ h2;omega))
 go_enter Tryz.func116,Tryz.ntmps116
 go_wp2
 go_ret
 exact⟨rfl,rfl⟩
end Go.Proofs.YtmennjmjakdkcaaGreat
