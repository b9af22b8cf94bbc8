/- HerdHas. -/
import Derived.Test.YtmennjmjakdkcaaGreatHs06
import Derived.Laws.EntriesVeiled
import Derived.Laws.IdiomCopy
set_option linter.unusedVariables false
set_option linter.unusedSimpArgs false
set_option maxRecDepth 100000
set_option maxHeartbeats 2000000
namespace Go.Proofs.YtmennjmjakdkcaaGreat
open Go.RowKit Go.MapKept
abbrev bkObj (t:Int) (A:Option Addr) (n c:Nat) (ks hs ds:Value) (deed owner now:Int):Obj:=.cells #[.int .i64 t,.slice A n c,ks,hs,ds,.int .i64 deed,.int .i64 owner,.int .i64 now] 154 (0,0)
structure Book (w:World) (p:Nat) (t:Int) (A:Option Addr) (n c:Nat) (l:List Mk) (ks hs ds:Value) (deed owner now:Int):Prop where
 hp:w.heap[p]?=some (bkObj t A n c ks hs ds deed owner now)
 hl:Marks w A n l
 nc:n≤c
 cm:c≤maxLen
 ck:check t l=0
theorem blkB {w:World} {p:Nat} {t:Int} {A:Option Addr} {n c:Nat} {ks hs ds:Value} {deed owner now:Int} (h:w.heap[p]?=some (bkObj t A n c ks hs ds deed owner now)) :
 w.cell? ⟨p,0,none⟩=some (.int .i64 t)∧w.cell? ⟨p,1,none⟩=some (.slice A n c)∧w.cell? ⟨p,2,none⟩=some ks∧w.cell? ⟨p,3,none⟩=some hs∧w.cell? ⟨p,4,none⟩=some ds ∧
 w.cell? ⟨p,5,none⟩=some (.int .i64 deed)∧w.cell? ⟨p,6,none⟩=some (.int .i64 owner)∧w.cell? ⟨p,7,none⟩=some (.int .i64 now):=by simp[World.cell?,h]
theorem Book.puts {w w':World} {p:Nat} {t:Int} {A:Option Addr} {n c:Nat} {l:List Mk} {ks hs ds:Value} {deed owner now:Int} {M:Nat} {L K:List (List Int)} (h:Book w p t A n c l ks hs ds deed owner now) (hP:PutsH w w' M L) (hm:MetH w M K):Book w' p t A n c l ks hs ds deed owner now :=
 ⟨hP.blk h.hp (hm.ne h.hp),hP.sl hm h.hl,h.nc,h.cm,h.ck⟩
theorem k5v {W w1:World} {n:Nat} (h:Below (W.drewN n).heap.size (W.drewN n) w1):Below W.heap.size W w1:=⟨h.os,h.tape,h.output,h.size,h.block⟩
def j2h (deed owner now o:Int):Bool:=!(decide (now=deed)&&decide (o≠owner))
def j6l (f g:Nat) (h:List Int) (pass:Int→Bool) (os:List Int) (k:Nat):List (List Int):=j4f f g h ((os.take k).filter pass)
theorem k9l {f g:Nat} {h:List Int} {pass:Int→Bool} {os:List Int} {k:Nat} {o:Int} (ho:os[k]?=some o) :
 j6l f g h pass os (k+1)=j6l f g h pass os k++(if pass o=true then (match mvd h f o.toNat (-1) with|some x=>[hadd x g o.toNat 1]|none=>[]) else []):=by
 unfold j6l j4f
 rw[List.take_add_one,ho,List.filter_append,List.flatMap_append]
 congr 1
 by_cases hp:pass o=true
 ·simp only[hp,List.filter_cons,List.filter_nil,Option.toList,if_true,List.flatMap_cons,List.flatMap_nil,List.append_nil]
  cases mvd h f o.toNat (-1)<;>rfl
 ·simp[hp]
theorem k6z {h x:List Int} {f g o:Nat} {b:Bool} (hx:x=hadd h f o (-1)) (hb:b=decide (0≤hget h f o+-1)) :
 (match mvd h f (o:Int).toNat (-1) with|some x=>[hadd x g (o:Int).toNat 1]|none=>[])=if b=true then [hadd x g o 1] else []:=by
 simp only[Int.toNat_natCast]
 unfold mvd
 rw[hb,hx]
 by_cases h0:0≤hget h f o+-1<;>simp[h0]
theorem q0i (p:Nat) (t:Int) (A:Option Addr) (n c:Nat) (l:List Mk) (ks hs ds:Value) (deed owner now:Int) (h:List Int) (d:De) (nf:Nat) (B M:Nat) (K:List (List Int)) (w:World) (hA:Ask l.length nf B M K h d w) (hB:Book w p t A n c l ks hs ds deed owner now) (hk:d.kind=5) :
 Calls Tryz.prog 137 #[.pointer (some ⟨p,0,none⟩),.agg (hcs h),dv d,.func (.func 117) #[] #[.pointer (some ⟨B,0,none⟩)]] w fun e w'=>e=.returned (.tuple #[])∧PutsH w w' M (j4f d.flock.toNat d.tof.toNat h ((mayL t l d.s).filter (j2h deed owner now))):=by
 obtain⟨hb,hm,hh,hd,hnf⟩:=hA
 have hM:=hm.lt
 have hl:=hh.1
 have hl5:l.length≤5:=(j3f hB.ck).2.2.1
 obtain⟨kind,flock,ow,other,tof,many,err,s⟩:=d
 obtain⟨f,rfl⟩:=Int.eq_ofNat_of_zero_le hd.f.1
 obtain⟨g,rfl⟩:=Int.eq_ofNat_of_zero_le hd.t.1
 have hf:f<3:=by have:=hd.f.2;dsimp at this;omega
 have hg:g<3:=by have:=hd.t.2;dsimp at this;omega
 have hse:seen s 9 6=0:=hd.st hk
 have hmr:mayR t l s=mayL t l s:=by
  have:mayE t l s=0:=by unfold mayE;rw[if_neg (by rw[hB.ck];simp),hse]
  unfold mayR;rw[if_pos this]
 simp only[Int.toNat_natCast]
 have hmv:∀ (o:Nat) (x:List Int) (b:Bool) (w:World),o<5→x=hadd h f o (-1)→b=decide (0≤hget h f o+-1)→Calls Tryz.prog 150 #[.agg (hcs h),.int .i64 f,.int .i64 o,.int .i64 (-1)] w fun e w'=>e=.returned (.tuple #[.agg (hcs x),.bool b])∧Below w.heap.size w w' :=
  fun o x b w ho hx hb=>j6f w hx hb hl hf ho (by have:=hh.get hf ho;omega) (by omega)
 have hmv2:∀ (o:Nat) (x y:List Int) (w:World),o<5→HBd 1000 x→y=hadd x g o 1→Calls Tryz.prog 150 #[.agg (hcs x),.int .i64 g,.int .i64 o,.int .i64 1] w fun e w'=>e=.returned (.tuple #[.agg (hcs y),.bool (decide (0≤hget x g o+1))])∧Below w.heap.size w w' :=
  fun o x y w ho hxb hy=>j6f w hy rfl hxb.1 hg ho (by have:=hxb.get hg ho;omega) (by omega)
 have HMV:=zQ9 (zA9 hmv hmv2)
 have HX:=zQ9 (zA9 hb (zA9 hm (zA9 hB (zA9 hh (zA9 hmr hl5)))))
 clear hd hk hh hb hm hB hmr hmv hmv2 hse
 unfold dv
 go_enter Tryz.func137,Tryz.ntmps137
 go_upto_region 1 with (fail)
 obtain⟨W,hW⟩:∃ W,W=(w.alloc (Obj.cells (hcs h) 133)).alloc (dObj ⟨kind,f,ow,other,g,many,err,s⟩):=⟨_,rfl⟩
 have b0:W.heap[w.heap.size]?=some (hObj h):=by rw[hW];exact j0b (j0c rfl) _
 have b1:W.heap[w.heap.size+1]?=some (dObj ⟨kind,f,ow,other,g,many,err,s⟩):=by rw[hW];exact j0c (by simp)
 have hP:PutsH w W M []:=by rw[hW];exact(PutsH.refl w M).below hM (bal (bal0 w _) (zL9 _) _) (zL9 _)
 rw[←hW]
 clear hW
 obtain⟨r,hr⟩:∃ r,r=w.heap.size:=⟨_,rfl⟩
 have HR:=zQ9 (show w.heap.size≤r by omega)
 rw[←hr] at b0 b1 ⊢
 clear hr
 have hBW:=HX.out.2.2.1.puts hP HX.out.2.1
 obtain⟨d0,d1,d2,d3,d4,d5,d6,d7,d8,d9,d10,d11⟩:=blkD b1
 obtain⟨p0,p1,p2,p3,p4,p5,p6,p7⟩:=blkB hBW.hp
 have HMW:=zQ9 (zA9 hBW.hl (zA9 hBW.nc hBW.cm))
 clear hBW
 refine j5z (C:=fun w'=>∃ n,w'=W.drewN n) 7 (by kernel_rfl) (by kernel_rfl) ⟨1,rfl⟩ ?_
 simp only[List.take_succ_cons,List.take_zero,List.drop_succ_cons,List.drop_zero]
 repeat (quiet_step (fail))
 refine wpQuiet_nil ?_
 intro _ hw'
 obtain⟨nq,hw''⟩:=hw'
 subst hw''
 intro Q2 hQ2
 go_wp2_with fail
 refine(k5c t A n c l s (W.drewN nq) (HMW.out.1.drewN nq) HMW.out.2.1 HMW.out.2.2).mono ?_
 rintro e w1 ⟨v,rfl,hown,hb1⟩
 obtain⟨A1,c1,rfl,hsl,hlc1,hcm1⟩:=hown.form j0u
 replace hb1:Below W.heap.size W w1:=k5v hb1
 rw[HX.out.2.2.2.2.1] at hsl hlc1 ⊢
 have hP1:=hP.below hM hb1 hP.size
 have e0:=j0e b0 hb1 (zL9 _)
 have e1:=j0e b1 hb1 (zL9 _)
 have HP1:=zQ9 (zA9 hP1 (zA9 e0 (zA9 e1 hsl)))
 clear hb1 hown d0 d1 d2 d3 d4 d5 d6 d7 d8 d9 d10 d11 p0 p1 p2 p3 p4 p5 p6 p7 hP hP1 e0 e1 hsl b0 b1
 obtain⟨os,hos⟩:∃ os,os=mayL t l s:=⟨_,rfl⟩
 have hol:∀ o∈os,0≤o∧o<5:=fun o ho=>by rw[hos] at ho;have:=k3i o ho;have:=HX.out.2.2.2.2.2;omega
 have HO:=zQ9 hol
 have HOS:=zQ9 hos
 rw[←hos] at HP1 hlc1 ⊢
 clear hos hol
 go_wp2
 repeat (quiet_step (fail))
 refine wpQuiet_nil ?_
 obtain⟨K1,hm1,-⟩:=HP1.out.1.met K HX.out.2.1
 have hB1:=HX.out.2.2.1.puts HP1.out.1 HX.out.2.1
 have hbx:=HP1.out.1.blk HX.out.1 (HX.out.2.1.ne HX.out.1)
 have HM1:=zQ9 (zA9 hm1 (zA9 hB1 hbx))
 have hM1:=hm1.lt
 clear hm1 hB1 hbx
 go_wp2_with fail
 go_loopg [27] os.length (fun gk' iv wr=>∃ k:Nat,k+gk'=os.length∧iv=.int .i64 k∧PutsH w1 wr M (j6l f g h (j2h deed owner now) os k))
 case atStart=>exact⟨0,by omega,rfl,PutsH.refl _ _⟩
 case round =>
  obtain⟨k,hk',rfl,hPr⟩:=hrel
  have HK:=zQ9 hk'
  by_cases hlt:k<os.length
  ·obtain⟨bi,oi,x,hA1,hbi,hxk,hcx⟩:=Ints.get (hPr.sl HM1.out.1 HP1.out.2.2.2) hlt
   cases hA1
   have hxr:=HO.out x (List.mem_of_getElem? hxk)
   obtain⟨o,rfl⟩:=Int.eq_ofNat_of_zero_le hxr.1
   have ho5:o<5:=by omega
   have hst:=k9l (f:=f) (g:=g) (h:=h) (pass:=j2h deed owner now) hxk
   have hBr:=HM1.out.2.1.puts hPr HM1.out.1
   have f0:=hPr.blk HP1.out.2.1 (HM1.out.1.ne HP1.out.2.1)
   have f1:=hPr.blk HP1.out.2.2.1 (HM1.out.1.ne HP1.out.2.2.1)
   obtain⟨d0,d1,d2,d3,d4,-⟩:=blkD f1
   obtain⟨p0,p1,p2,p3,p4,p5,p6,p7⟩:=blkB hBr.hp
   have HST:=zQ9 (zA9 hst (zA9 hPr hBr.hp))
   have i0:(0:Int)≤(k:Int):=by omega
   have i1:(k:Int)<(os.length:Int):=by omega
   have i2:wrap64 ((k:Int)+1)=(k:Int)+1:=IntWalk.wrap64_in _ (by unfold maxLen at hcm1;omega)
   have hwr:=hPr.size
   have HKM:=zQ9 (zA9 (show gk-1<gk by omega) (zA9 (show k+1+(gk-1)=os.length by omega) (show Value.int .i64 (wrap64 ((k:Int)+1))=Value.int .i64 ((k+1:Nat):Int) by rw[i2];push_cast;rfl)))
   have HD:=zQ9 (show ∀ q,PutsH w1 (wr.drewN q) M (j6l f g h (j2h deed owner now) os k) from fun q=>hPr.below hM1 (j0l (Below.refl wr.heap.size wr) q) hPr.size)
   clear i2 hst hPr hBr hxk hxr hk'
   by_cases h1:now=deed
   ·subst h1
    by_cases h2:(o:Int)=owner
    ·subst h2
     have HQ:=zQ9 (show j2h now (o:Int) now (o:Int)=true by unfold j2h;simp)
     go_wp2_with fail
     go_quiet (fail)
     obtain⟨x,hx⟩:∃ x,x=hadd h f o (-1):=⟨_,rfl⟩
     obtain⟨bb,hbb⟩:∃ b,b=decide (0≤hget h f o+-1):=⟨_,rfl⟩
     have hmvx:=fun w=>HMV.out.1 o x bb w ho5 hx hbb
     have hxo:HOk x:=by rw[hx];exact j4m HX.out.2.2.2.1 (by omega) hf ho5 (by omega)
     have hlx:=hxo.1
     have hxb:bb=true→HBd 1000 x:=fun e=>by rw[hx];rw[hbb,decide_eq_true_eq] at e;have:=HX.out.2.2.2.1.get hf ho5;exact HX.out.2.2.2.1.add e (by omega) (Int.le_refl _)
     have HN:=zQ9 (HST.out.1.trans (by rw[HQ.out,if_pos rfl,k6z hx hbb]))
     have HXB:=zQ9 hxb
     have f0q:(wr.drewN nq).heap[r]?=some (hObj h):=f0
     have f1q:(wr.drewN nq).heap[r+1]?=_:=f1
     have hPq:=HD.out nq
     clear hx hbb hxb
     go_upto_region 7 with (first
      | ((with_reducible apply j0t f0q hl);(rfl);(rfl);(rfl))
      | (go_at_call 150;refine(hmvx _).mono ?_;rintro e w2 ⟨rfl,hb2⟩;have hP2:=hPq.below hM1 hb2 hPq.size;have f12:=j0e f1q hb2 (zL9 _);have bz:(w2.alloc (.cells #[.int .i64 0,.int .i64 0,.int .i64 0,.int .i64 0,.int .i64 0,.int .i64 0,.int .i64 0,.int .i64 0,.int .i64 0,.int .i64 0,.int .i64 0,.int .i64 0,.int .i64 0,.int .i64 0,.int .i64 0] 133)).heap[w2.heap.size]?=_:=j0c rfl;clear hb2)
      | ((with_reducible apply j1z bz rfl hlx);(rfl);(rfl);(rfl);(rfl);intro w3 b03 g3 z3;have hP3:=(hP2.below hM1 (bal0 w2 _) hP2.size).grown hM1 g3 hP2.size;have f13:=gblk g3 (j0b f12 _) (Nat.ne_of_lt (j0a f12));have hrr:=hP2.size))
     obtain⟨gg,hgg⟩:∃ gg,gg=w2.heap.size:=⟨_,rfl⟩
     rw[←hgg] at b03 hrr ⊢
     clear hgg g3 z3 hP2 hPq f12 bz f0q f1q d0 d1 d2 d3 d4 p0 p1 p2 p3 p4 p5 p6 p7 hcx f0 f1
     cases bb with
     | false =>
       go_wp2_with fail
       go_roundg (gk-1)
       case measure=>exact HKM.out.1
       case rel=>exact⟨k+1,HKM.out.2.1,HKM.out.2.2,by rw[HN.out,if_neg Bool.false_ne_true,List.append_nil];exact hP3⟩
     | true =>
       have hxy:=HXB.out rfl
       obtain⟨y,hy⟩:∃ y,y=hadd x g o 1:=⟨_,rfl⟩
       have hyo:HOk y:=by rw[hy];exact j4m hxy (by omega) hg ho5 (by omega)
       have hly:=hyo.1
       have hmvy:=fun w=>HMV.out.2 o x y w ho5 hxy hy
       have HY:=zQ9 hy
       clear hy hxy
       obtain⟨d0,d1,d2,d3,d4,-⟩:=blkD f13
       have h15:=j2p x
       go_upto_region 9 with (first
        | ((with_reducible apply j0t b03 hlx);(rfl);(rfl);(rfl))
        | (go_at_call 150;refine(hmvy _).mono ?_;rintro e w4 ⟨rfl,hb4⟩;have hP4:=hP3.below hM1 hb4 hP3.size;have b04:=j0e b03 hb4 (zL9 _);clear hb4)
        | ((with_reducible apply j1z b04 (h15.trans hlx) hly);(rfl);(rfl);(rfl);(rfl);intro w5 b05 g5 z5;have hP5:=hP4.grown hM1 g5 hrr))
       go_wp2_with (first
        | ((with_reducible apply j0t b05 hly);(rfl);(rfl);(rfl))
        | (go_at_call 117;refine(j6w hP5 HM1.out.2.2 HM1.out.1 hyo).mono ?_;rintro e w6 ⟨rfl,hP6⟩))
       go_roundg (gk-1)
       case measure=>exact HKM.out.1
       case rel=>exact⟨k+1,HKM.out.2.1,HKM.out.2.2,by rw[HN.out,if_pos trivial,←HY.out];exact hP6⟩
    ·have HQ:=zQ9 (show j2h now owner now (o:Int)=false by unfold j2h;simp[h2])
     have hq2:((o:Int) != owner)=true:=bne_iff_ne.2 h2
     clear h2
     go_wp2_with fail
     go_quiet (fail)
     go_wp2_with fail
     go_roundg (gk-1)
     case measure=>exact HKM.out.1
     case rel=>exact⟨k+1,HKM.out.2.1,HKM.out.2.2,by rw[HST.out.1,HQ.out,if_neg Bool.false_ne_true,List.append_nil];exact HD.out nq⟩
   ·have HQ:=zQ9 (show j2h deed owner now (o:Int)=true by unfold j2h;simp[h1])
    have hq1:(now==deed)=false:=beq_eq_false_iff_ne.2 h1
    go_wp2_with fail
    go_quiet (fail)
    obtain⟨x,hx⟩:∃ x,x=hadd h f o (-1):=⟨_,rfl⟩
    obtain⟨bb,hbb⟩:∃ b,b=decide (0≤hget h f o+-1):=⟨_,rfl⟩
    have hmvx:=fun w=>HMV.out.1 o x bb w ho5 hx hbb
    have hxo:HOk x:=by rw[hx];exact j4m HX.out.2.2.2.1 (by omega) hf ho5 (by omega)
    have hlx:=hxo.1
    have hxb:bb=true→HBd 1000 x:=fun e=>by rw[hx];rw[hbb,decide_eq_true_eq] at e;have:=HX.out.2.2.2.1.get hf ho5;exact HX.out.2.2.2.1.add e (by omega) (Int.le_refl _)
    have HN:=zQ9 (HST.out.1.trans (by rw[HQ.out,if_pos rfl,k6z hx hbb]))
    have HXB:=zQ9 hxb
    have f0q:(wr.drewN nq).heap[r]?=some (hObj h):=f0
    have f1q:(wr.drewN nq).heap[r+1]?=_:=f1
    have hPq:=HD.out nq
    clear hx hbb hxb
    go_upto_region 7 with (first
     | ((with_reducible apply j0t f0q hl);(rfl);(rfl);(rfl))
     | (go_at_call 150;refine(hmvx _).mono ?_;rintro e w2 ⟨rfl,hb2⟩;have hP2:=hPq.below hM1 hb2 hPq.size;have f12:=j0e f1q hb2 (zL9 _);have bz:(w2.alloc (.cells #[.int .i64 0,.int .i64 0,.int .i64 0,.int .i64 0,.int .i64 0,.int .i64 0,.int .i64 0,.int .i64 0,.int .i64 0,.int .i64 0,.int .i64 0,.int .i64 0,.int .i64 0,.int .i64 0,.int .i64 0] 133)).heap[w2.heap.size]?=_:=j0c rfl;clear hb2)
     | ((with_reducible apply j1z bz rfl hlx);(rfl);(rfl);(rfl);(rfl);intro w3 b03 g3 z3;have hP3:=(hP2.below hM1 (bal0 w2 _) hP2.size).grown hM1 g3 hP2.size;have f13:=gblk g3 (j0b f12 _) (Nat.ne_of_lt (j0a f12));have hrr:=hP2.size))
    obtain⟨gg,hgg⟩:∃ gg,gg=w2.heap.size:=⟨_,rfl⟩
    rw[←hgg] at b03 hrr ⊢
    clear hgg g3 z3 hP2 hPq f12 bz f0q f1q d0 d1 d2 d3 d4 p0 p1 p2 p3 p4 p5 p6 p7 hcx f0 f1
    cases bb with
    | false =>
      go_wp2_with fail
      go_roundg (gk-1)
      case measure=>exact HKM.out.1
      case rel=>exact⟨k+1,HKM.out.2.1,HKM.out.2.2,by rw[HN.out,if_neg Bool.false_ne_true,List.append_nil];exact hP3⟩
    | true =>
      have hxy:=HXB.out rfl
      obtain⟨y,hy⟩:∃ y,y=hadd x g o 1:=⟨_,rfl⟩
      have hyo:HOk y:=by rw[hy];exact j4m hxy (by omega) hg ho5 (by omega)
      have hly:=hyo.1
      have hmvy:=fun w=>HMV.out.2 o x y w ho5 hxy hy
      have HY:=zQ9 hy
      clear hy hxy
      obtain⟨d0,d1,d2,d3,d4,-⟩:=blkD f13
      have h15:=j2p x
      go_upto_region 9 with (first
       | ((with_reducible apply j0t b03 hlx);(rfl);(rfl);(rfl))
       | (go_at_call 150;refine(hmvy _).mono ?_;rintro e w4 ⟨rfl,hb4⟩;have hP4:=hP3.below hM1 hb4 hP3.size;have b04:=j0e b03 hb4 (zL9 _);clear hb4)
       | ((with_reducible apply j1z b04 (h15.trans hlx) hly);(rfl);(rfl);(rfl);(rfl);intro w5 b05 g5 z5;have hP5:=hP4.grown hM1 g5 hrr))
      go_wp2_with (first
       | ((with_reducible apply j0t b05 hly);(rfl);(rfl);(rfl))
       | (go_at_call 117;refine(j6w hP5 HM1.out.2.2 HM1.out.1 hyo).mono ?_;rintro e w6 ⟨rfl,hP6⟩))
      go_roundg (gk-1)
      case measure=>exact HKM.out.1
      case rel=>exact⟨k+1,HKM.out.2.1,HKM.out.2.2,by rw[HN.out,if_pos trivial,←HY.out];exact hP6⟩
  ·obtain rfl:k=os.length:=by omega
   have hfin:j6l f g h (j2h deed owner now) os os.length=j4f f g h (os.filter (j2h deed owner now)):=by unfold j6l;rw[List.take_length]
   have HF:=zQ9 (HP1.out.1.trans hPr)
   have HFI:=zQ9 hfin
   clear hPr hfin
   go_wp2_with fail
   go_end0
   exact⟨rfl,by have:=HF.out;rw[HFI.out,HOS.out] at this;exact this⟩
structure Chs (w:World) (bT bB bD bC B M p:Nat) (t:Int) (A:Option Addr) (n c:Nat) (l:List Mk) (ks hs ds:Value) (deed owner now:Int) (d:De):Prop where
 hT:w.heap[bT]?=some (.cells #[.func (.func 117) #[] #[.pointer (some ⟨B,0,none⟩)]] 170 (0,0))
 hB:w.heap[bB]?=some (.cells #[.pointer (some ⟨p,0,none⟩)] 98 (0,0))
 hD:w.heap[bD]?=some (dObj d)
 hC:w.heap[bC]?=some (.cells #[.func (.func 151) #[] #[.pointer (some ⟨bT,0,none⟩),.pointer (some ⟨bB,0,none⟩),.pointer (some ⟨bD,0,none⟩),.pointer (some ⟨bC,0,none⟩)]] 200 (0,0))
 hb:w.heap[B]?=some (.cells #[.map (some M)] 166 (0,0))
 hk:Book w p t A n c l ks hs ds deed owner now
theorem Chs.puts {w w':World} {bT bB bD bC B M p:Nat} {t:Int} {A:Option Addr} {n c:Nat} {l:List Mk} {ks hs ds:Value} {deed owner now:Int} {d:De} {L K:List (List Int)} (h:Chs w bT bB bD bC B M p t A n c l ks hs ds deed owner now d) (hP:PutsH w w' M L) (hm:MetH w M K):Chs w' bT bB bD bC B M p t A n c l ks hs ds deed owner now d :=
 ⟨hP.blk h.hT (hm.ne h.hT),hP.blk h.hB (hm.ne h.hB),hP.blk h.hD (hm.ne h.hD),hP.blk h.hC (hm.ne h.hC),hP.blk h.hb (hm.ne h.hb),h.hk.puts hP hm⟩
def j9h (n f:Nat) (j:Nat) (h:List Int) (m k:Nat):List (List Int):=(List.range k).flatMap fun(k:Nat)=>match mvd h f (n-(j+1)) (-(k:Int)) with|some x=>j1a n f j x (m-k)|none=>[]
theorem q0b {n f j:Nat} {h:List Int} {m:Nat} (hm:m≠0):j1a n f (j+1) h m=j9h n f j h m (m+1):=by
 conv=>lhs;unfold j1a
 rw[if_neg hm];rfl
theorem k8j {n f j:Nat} {h x:List Int} {m k q:Nat} {b:Bool} (hq:q+(j+1)=n) (hx:x=hadd h f q (-(k:Int))) (hb:b=decide (0≤hget h f q+-(k:Int))) :
 j9h n f j h m (k+1)=j9h n f j h m k++if b=true then j1a n f j x (m-k) else []:=by
 unfold j9h
 rw[List.range_succ,List.flatMap_append]
 congr 1
 rw[List.flatMap_cons,List.flatMap_nil,List.append_nil,show n-(j+1)=q by omega]
 unfold mvd
 rw[hb,hx]
 by_cases h0:0≤hget h f q+-(k:Int)
 ·rw[if_pos h0,if_pos (decide_eq_true h0)]
 ·rw[if_neg h0,if_neg (by simp[h0])]
theorem q1m (bT bB bD bC B M p:Nat) (t:Int) (A:Option Addr) (c:Nat) (l:List Mk) (ks hs ds:Value) (deed owner now:Int) (d:De) (f nf:Nat) (hd:DeIn l.length nf d) (hnf:nf≤3) (hfd:d.flock=(f:Int)) :
 ∀ (j:Nat) (h:List Int) (m q:Nat) (qi mi:Int) (K:List (List Int)) (w:World),q+j=l.length→qi=(q:Int)→mi=(m:Int)→m≤300→HBd 1000 h→Chs w bT bB bD bC B M p t A l.length c l ks hs ds deed owner now d→MetH w M K →
  Calls Tryz.prog 151 #[.agg (hcs h),.int .i64 qi,.int .i64 mi,.pointer (some ⟨bT,0,none⟩),.pointer (some ⟨bB,0,none⟩),.pointer (some ⟨bD,0,none⟩),.pointer (some ⟨bC,0,none⟩)] w fun e w'=>e=.returned (.tuple #[])∧PutsH w w' M (j1a l.length f j h m):=by
 have hf:f<3:=by have:=hd.f;omega
 intro j
 induction j with
 | zero =>
   intro h m q qi mi K w hq hqi hmi hm3 hh hC hm
   have hM:=hm.lt
   have hl:=hh.1
   have hxo:HOk h:=HOk.of hh (by omega)
   subst hqi hmi
   have hP:PutsH w (w.alloc (Obj.cells (hcs h) 133)) M []:=(PutsH.refl w M).below hM (bal0 w _) (zL9 _)
   have hC1:=hC.puts hP hm
   have b0:(w.alloc (Obj.cells (hcs h) 133)).heap[w.heap.size]?=some (hObj h):=j0c rfl
   have cT:=blk1 hC1.hT
   have cB:=blk1 hC1.hB
   obtain⟨p0,p1,-⟩:=blkB hC1.hk.hp
   have HX:=zQ9 (zA9 hC.hb hm)
   have hqn:(q:Int)=(l.length:Int):=by omega
   by_cases h0:m=0
   ·subst h0
    rw[show j1a l.length f 0 h 0=[h] from rfl]
    clear hqn hC hC1
    go_enter Tryz.func151,Tryz.ntmps151
    go_wp2_with (first
     | ((with_reducible apply j0t b0 hl);(rfl);(rfl);(rfl))
     | (go_at_call 117;refine(j6w hP HX.out.1 HX.out.2 hxo).mono ?_;rintro e w6 ⟨rfl,hP6⟩))
    go_end0
    exact⟨rfl,hP6⟩
   ·rw[show j1a l.length f 0 h m=[] by unfold j1a;rw[if_neg h0]]
    have x0:((m:Int)==0)=false:=beq_eq_false_iff_ne.2 (by omega)
    have x1:¬(q:Int)<(l.length:Int):=by omega
    clear hqn hC hC1 h0
    go_enter Tryz.func151,Tryz.ntmps151
    go_wp2_with fail
    go_end0
    exact⟨rfl,hP⟩
 | succ j ih =>
   intro h m q qi mi K w hq hqi hmi hm3 hh hC hm
   have hM:=hm.lt
   have hl:=hh.1
   have hxo:HOk h:=HOk.of hh (by omega)
   subst hqi hmi
   by_cases h0:m=0
   ·subst h0
    have hP:PutsH w (w.alloc (Obj.cells (hcs h) 133)) M []:=(PutsH.refl w M).below hM (bal0 w _) (zL9 _)
    have hC1:=hC.puts hP hm
    have b0:(w.alloc (Obj.cells (hcs h) 133)).heap[w.heap.size]?=some (hObj h):=j0c rfl
    have cT:=blk1 hC1.hT
    have HX:=zQ9 (zA9 hC.hb hm)
    rw[show j1a l.length f (j+1) h 0=[h] from rfl]
    clear hC hC1 ih
    go_enter Tryz.func151,Tryz.ntmps151
    go_wp2_with (first
     | ((with_reducible apply j0t b0 hl);(rfl);(rfl);(rfl))
     | (go_at_call 117;refine(j6w hP HX.out.1 HX.out.2 hxo).mono ?_;rintro e w6 ⟨rfl,hP6⟩))
    go_end0
    exact⟨rfl,hP6⟩
   ·rw[q0b h0]
    obtain⟨W,hW⟩:∃ W,W=w.alloc (Obj.cells (hcs h) 133):=⟨_,rfl⟩
    have b0:W.heap[w.heap.size]?=some (hObj h):=by rw[hW];exact j0c rfl
    have hP:PutsH w W M []:=by rw[hW];exact(PutsH.refl w M).below hM (bal0 w _) (zL9 _)
    have hC1:=hC.puts hP hm
    obtain⟨K1,hm1,-⟩:=hP.met K hm
    have x0:((m:Int)==0)=false:=beq_eq_false_iff_ne.2 (by omega)
    have x1:(q:Int)<(l.length:Int):=by omega
    have x2:wrap64 ((m:Int)+1)=(m:Int)+1:=IntWalk.wrap64_in _ (by omega)
    have hq5:q<5:=by have:=(j3f hC.hk.ck).2.2.1;omega
    have cB:=blk1 hC1.hB
    obtain⟨p0,p1,-⟩:=blkB hC1.hk.hp
    have hM1:=hm1.lt
    have HX:=zQ9 (zA9 hC1 (zA9 hm1 (zA9 hP (zA9 hh (zA9 hq (zA9 ih hW))))))
    have HQ:=zQ9 (zA9 hd (zA9 hnf hfd))
    obtain⟨r,hr⟩:∃ r,r=w.heap.size:=⟨_,rfl⟩
    clear h0 hC hm ih hC1 hm1 hP hh hq hd hnf hfd
    go_enter Tryz.func151,Tryz.ntmps151
    go_upto_region 1 with (fail)
    rw[←hW,←hr]
    rw[←hr] at b0
    clear hW hr
    go_wp2_with fail
    go_loopg [31] (m+1) (fun g iv wr=>∃ k:Nat,k+g=m+1∧iv=.int .i64 k∧PutsH W wr M (j9h l.length f j h m k))
    case atStart=>exact⟨0,by omega,rfl,PutsH.refl _ _⟩
    case round =>
     obtain⟨k,hk',rfl,hPr⟩:=hrel
     by_cases hlt:k<m+1
     ·have i0:(0:Int)≤(k:Int):=by omega
      have i1:(k:Int)<(m:Int)+1:=by omega
      have HKM:=zQ9 (zA9 (show gk-1<gk by omega) (zA9 (show k+1+(gk-1)=m+1 by omega) (zA9 (show(q+1)+j=l.length by have:=HX.out.2.2.2.2.1;omega) (zA9 (show((q:Int)+1)=((q+1:Nat):Int) by push_cast;rfl) (zA9 (show((m:Int)-(k:Int))=((m-k:Nat):Int) by omega) (show m-k≤300 by omega))))))
      have hCr:=HX.out.1.puts hPr HX.out.2.1
      have f0:=hPr.blk b0 (HX.out.2.1.ne b0)
      obtain⟨x,hx⟩:∃ x,x=hadd h f q (-(k:Int)):=⟨_,rfl⟩
      obtain⟨b,hbb⟩:∃ b,b=decide (0≤hget h f q+-(k:Int)):=⟨_,rfl⟩
      have hst:=k8j (n:=l.length) (j:=j) (m:=m) HX.out.2.2.2.2.1 hx hbb
      have hmv:=fun w=>j6f (x:=x) (b:=b) w hx hbb hl hf hq5 (by have:=HX.out.2.2.2.1.get hf hq5;omega) (by omega)
      have hxok:HOk x:=by rw[hx];exact j4m HX.out.2.2.2.1 (by omega) hf hq5 (by omega)
      have hlx:=hxok.1
      have hxb:b=true→HBd 1000 x:=fun e=>by rw[hx];rw[hbb,decide_eq_true_eq] at e;have:=HX.out.2.2.2.1.get hf hq5;exact HX.out.2.2.2.1.add e (by omega) (Int.le_refl _)
      have cT:=blk1 hCr.hT
      have cC:=blk1 hCr.hC
      obtain⟨d0,d1,-⟩:=blkD hCr.hD
      rw[HQ.out.2.2] at d1
      have HST:=zQ9 (zA9 hst (zA9 hPr hxb))
      clear hx hbb hst hPr hxb hk' hCr d0
      clear x2
      have HIV:=zQ9 (show Value.int .i64 ((k:Int)+1)=Value.int .i64 ((k+1:Nat):Int) by push_cast;rfl)
      go_upto_region 8 with (first
       | ((with_reducible apply j0t f0 hl);(rfl);(rfl);(rfl))
       | (go_at_call 150;refine(hmv _).mono ?_;rintro e w2 ⟨rfl,hb2⟩;have hP2:=HST.out.2.1.below hM1 hb2 HST.out.2.1.size;have bz:(w2.alloc (.cells #[.int .i64 0,.int .i64 0,.int .i64 0,.int .i64 0,.int .i64 0,.int .i64 0,.int .i64 0,.int .i64 0,.int .i64 0,.int .i64 0,.int .i64 0,.int .i64 0,.int .i64 0,.int .i64 0,.int .i64 0] 133)).heap[w2.heap.size]?=_:=j0c rfl;clear hb2)
       | ((with_reducible apply j1z bz rfl hlx);(rfl);(rfl);(rfl);(rfl);intro w3 b03 g3 z3;have hP3:=(hP2.below hM1 (bal0 w2 _) hP2.size).grown hM1 g3 hP2.size))
      obtain⟨gg,hgg⟩:∃ gg,gg=w2.heap.size:=⟨_,rfl⟩
      rw[←hgg] at b03 ⊢
      clear hgg g3 z3 hP2 bz f0 cT cC d1
      have hC3:=HX.out.1.puts hP3 HX.out.2.1
      obtain⟨K3,hm3',-⟩:=hP3.met _ HX.out.2.1
      have cC:=blk1 hC3.hC
      have H3:=zQ9 (zA9 hC3 (zA9 hm3' hP3))
      clear hC3 hm3' hP3
      cases b with
      | false =>
        go_wp2_with fail
        go_roundg (gk-1)
        case measure=>exact HKM.out.1
        case rel=>exact⟨k+1,HKM.out.2.1,HIV.out,by rw[HST.out.1,if_neg Bool.false_ne_true,List.append_nil];exact H3.out.2.2⟩
      | true =>
        go_wp2_with (first
         | ((with_reducible apply j0t b03 hlx);(rfl);(rfl);(rfl))
         | (go_at_call 151;refine(HX.out.2.2.2.2.2.1 x (m-k) (q+1) _ _ K3 _ HKM.out.2.2.1 HKM.out.2.2.2.1 HKM.out.2.2.2.2.1 HKM.out.2.2.2.2.2 (HST.out.2.2 rfl) H3.out.1 H3.out.2.1).mono ?_;rintro e w6 ⟨rfl,hP6⟩;have H6:=zQ9 (H3.out.2.2.trans hP6);clear hP6))
        go_roundg (gk-1)
        case measure=>exact HKM.out.1
        case rel=>exact⟨k+1,HKM.out.2.1,HIV.out,by rw[HST.out.1,if_pos trivial];exact H6.out⟩
     ·obtain rfl:k=m+1:=by omega
      have HF:=zQ9 (HX.out.2.2.1.trans hPr)
      clear hPr
      go_wp2_with fail
      go_end0
      exact⟨rfl,HF.out⟩
theorem lost_any (p:Nat) (t:Int) (A:Option Addr) (c:Nat) (l:List Mk) (ks hs ds:Value) (deed owner now:Int) (h:List Int) (d:De) (nf:Nat) (B M:Nat) (K:List (List Int)) (w:World) (hA:Ask l.length nf B M K h d w) (hB:Book w p t A l.length c l ks hs ds deed owner now) (hk:d.kind=4) :
 Calls Tryz.prog 136 #[.pointer (some ⟨p,0,none⟩),.agg (hcs h),dv d,.func (.func 117) #[] #[.pointer (some ⟨B,0,none⟩)]] w fun e w'=>e=.returned (.tuple #[])∧PutsH w w' M (j1a l.length d.flock.toNat l.length h d.many.toNat):=by
 obtain⟨hb,hm,hh,hd,hnf⟩:=hA
 have hM:=hm.lt
 have hl:=hh.1
 have hmy:=hd.m
 have hfd:d.flock=((d.flock.toNat:Nat):Int):=by have:=hd.f;omega
 have hmd:d.many=((d.many.toNat:Nat):Int):=by omega
 have hm3:d.many.toNat≤300:=by omega
 have HC:=zQ9 (fun bT bB bD bC w' K' hC hm'=>q1m bT bB bD bC B M p t A c l ks hs ds deed owner now d d.flock.toNat nf hd hnf hfd l.length h d.many.toNat 0 0 d.many K' w' (by omega) rfl hmd hm3 hh hC hm')
 have HX:=zQ9 (zA9 hb (zA9 hm hB))
 clear hd hnf hfd hmd hm3 hh hb hm hB hmy hk
 unfold dv
 go_enter Tryz.func136,Tryz.ntmps136
 go_upto_region 2 with (fail)
 obtain⟨W,hW⟩:∃ W,W=((((w.alloc (Obj.cells #[Value.pointer (some ⟨p,0,none⟩)] 98)).alloc (Obj.cells (hcs h) 133)).alloc (dObj d)).alloc (Obj.cells #[Value.func (Fn.func 117) #[] #[Value.pointer (some ⟨B,0,none⟩)]] 170)).alloc (Obj.cells #[Value.nilFunc] 200):=⟨_,rfl⟩
 have b0:W.heap[w.heap.size]?=some (Obj.cells #[Value.pointer (some ⟨p,0,none⟩)] 98 (0,0)):=by rw[hW];exact j0b (j0b (j0b (j0b (j0c rfl) _) _) _) _
 have b1:W.heap[w.heap.size+1]?=some (hObj h):=by rw[hW];exact j0b (j0b (j0b (j0c (by simp)) _) _) _
 have b2:W.heap[w.heap.size+1+1]?=some (dObj d):=by rw[hW];exact j0b (j0b (j0c (by simp)) _) _
 have b3:W.heap[w.heap.size+1+1+1]?=some (Obj.cells #[Value.func (Fn.func 117) #[] #[Value.pointer (some ⟨B,0,none⟩)]] 170 (0,0)):=by rw[hW];exact j0b (j0c (by simp)) _
 have b4:W.heap[w.heap.size+1+1+1+1]?=some (Obj.cells #[Value.nilFunc] 200 (0,0)):=by rw[hW];exact j0c (by simp)
 have hP:PutsH w W M []:=by rw[hW];exact(PutsH.refl w M).below hM (bal (bal (bal (bal (bal0 w _) (zL9 _) _) (zL9 _) _) (zL9 _) _) (zL9 _) _) (zL9 _)
 rw[←hW]
 clear hW
 obtain⟨r,hr⟩:∃ r,r=w.heap.size:=⟨_,rfl⟩
 have HR:=zQ9 (show w.heap.size≤r by omega)
 rw[←hr] at b0 b1 b2 b3 b4 ⊢
 clear hr
 have c4:=blk1 b4
 have f4:=frz b4 0
 go_upto_region 3 with (fail)
 obtain⟨F,hF⟩:∃ F,F=Value.func (Fn.func 151) #[] #[.pointer (some ⟨r+1+1+1,0,none⟩),.pointer (some ⟨r,0,none⟩),.pointer (some ⟨r+1+1,0,none⟩),.pointer (some ⟨r+1+1+1+1,0,none⟩)]:=⟨_,rfl⟩
 have hfar:∀ j,j≠r+1+1+1+1→(W.setCell ⟨r+1+1+1+1,0,none⟩ F).heap[j]?=W.heap[j]?:=fun j hj=>Below.heap_setCell _ ⟨r+1+1+1+1,0,none⟩ _ _ hj
 have e4:(W.setCell ⟨r+1+1+1+1,0,none⟩ F).heap[r+1+1+1+1]?=some (Obj.cells #[F] 200 (0,0)):=j0d b4
 have e0:=(hfar r (by omega)).trans b0
 have e1:=(hfar (r+1) (by omega)).trans b1
 have e2:=(hfar (r+1+1) (by omega)).trans b2
 have e3:=(hfar (r+1+1+1) (by omega)).trans b3
 have hrr:=HR.out
 have hP2:PutsH w (W.setCell ⟨r+1+1+1+1,0,none⟩ F) M []:=hP.quiet hM (by simpa using hP.size) rfl rfl rfl (fun k hk=>hfar k (by omega))
 rw[←hF]
 generalize W.setCell ⟨r+1+1+1+1,0,none⟩ F=W2 at e0 e1 e2 e3 e4 hP2 ⊢
 clear hfar b0 b1 b2 b3 b4 c4 f4 hP
 have hBk:=HX.out.2.2.puts hP2 HX.out.2.1
 obtain⟨K2,hm2,-⟩:=hP2.met K HX.out.2.1
 have hb2:=hP2.blk HX.out.1 (HX.out.2.1.ne HX.out.1)
 rw[hF] at e4
 have HCh:=zQ9 (zA9 (Chs.mk e3 e0 e2 e4 hb2 hBk) (zA9 hm2 hP2))
 rw[hF]
 have c4:=blk1 e4
 obtain⟨-,-,-,-,-,d5,-⟩:=blkD e2
 clear hF e0 e2 e3 hBk hm2 hb2 hP2 hrr
 go_wp2_with (first
  | ((with_reducible apply j0t e1 hl);(rfl);(rfl);(rfl))
  | (go_at_call 151;refine(HC.out _ _ _ _ _ K2 HCh.out.1 HCh.out.2.1).mono ?_;rintro e w6 ⟨rfl,hP6⟩;have H6:=zQ9 (HCh.out.2.2.trans hP6);clear hP6))
 go_end0
 exact⟨rfl,H6.out⟩
def j4c (h:List Int) (f:Nat) (r:List Int):List Int:=h.take (f*5)++r++h.drop (f*5+r.length)
theorem q2f {h r:List Int} {f:Nat} (hl:h.length=15) (hf:f<3) (hr:r.length≤5):(j4c h f r).length=15:=by
 unfold j4c;simp;omega
theorem k6g:(Tryz.prog.info? 3).map (·.size)=some 1:=by kernel_rfl
theorem wp_copyH {ops:Array Oper} {rest:List Oper} {o:Oper} {a:Act} {w:World} {Q:Exit→Act→World→Prop} {g f n c:Nat} {B:Option Addr} {h r:List Int}
 (hb:w.heap[g]?=some (hObj h)) (hl:h.length=15) (hf:f<3) (hr:Ints w B n r) (hn:n≤5)
 (hg:o.guard=none) (x y:Operand) (hop:o.op=.call { callee:=.builtin .copy,args:=#[x,y],argTypes:=#[25,25] }) (hx:a.eval x=.slice (some ⟨g,f*5,none⟩) 5 5) (hy:a.eval y=.slice B n c)
 (hK:∀ w2,w2.heap[g]?=some (hObj (j4c h f r))→w.grownBy w2 (some g)→w2.heap.size=w.heap.size→wpList Tryz.prog ops Q rest (a.put o.dst (.int .i64 n)) w2):wpList Tryz.prog ops Q (o::rest) a w:=by
 have hrn:=hr.len
 obtain⟨dst,op,ty,pos,after,guard⟩:=o
 dsimp only at hop hg hK
 subst hop
 refine wpList_plain hg fun K' hK'=>?_
 unfold Oper.wp
 cases B with
 | none =>
   have h0:n=0:=by
    rcases Nat.eq_zero_or_pos n with h0|h0
    ·exact h0
    ·obtain⟨bb,oo,hA,_⟩:=hr.2 h0;cases hA
   subst h0
   have hr0:r=[]:=List.eq_nil_of_length_eq_zero hrn
   subst hr0
   have hrun:=run_copy_none (P:=Tryz.prog) w 25 25 ty 3 (some ⟨g,f*5,none⟩) none 5 5 0 c Tryz.underlying25 k6g (by simp)
   simp[BigFrame.execOp_builtin,BigFrame.builtin_copy,hx,hy,hrun,Result.andThen]
   refine hK' _ _ (hK w ?_ (World.grownBy.refl w _) rfl)
   rw[show j4c h f []=h by unfold j4c;simp]
   exact hb
 | some ad =>
   have hrun:=run_copy_row (P:=Tryz.prog) w 25 25 ty 3 g (f*5) 5 5 ad n c (hcs h) _ (r.map (Value.int .i64)) Tryz.underlying25 k6g hb (by have:Nat.min n 5=n:=Nat.min_eq_left hn;rw[this,List.length_map,hrn]) (fun j v hj=>by
    obtain⟨bb,oo,hA,hc⟩:∃ bb oo,ad=⟨bb,oo,none⟩∧∀ i x,r[i]?=some x→w.cell? ⟨bb,oo+i,none⟩=some (.int .i64 x):=by
     have hpos:0<n:=by
      rw[←hrn]
      have:=(List.getElem?_eq_some_iff.1 hj).1
      simp at this;omega
     obtain⟨bb,oo,hA,hc⟩:=hr.2 hpos
     injection hA with hA
     exact⟨bb,oo,hA,fun i x hx=>by simpa using hc i x hx 0 _ rfl⟩
    subst hA
    rw[List.getElem?_map] at hj
    cases hx':r[j]? with
    | none=>rw[hx'] at hj;cases hj
    | some z =>
      rw[hx'] at hj
      injection hj with hj
      rw[←hj]
      have:=hc j z hx'
      have hadd:(⟨bb,oo,none⟩:Addr).add j=⟨bb,oo+j,none⟩:=by unfold Addr.add;split<;>simp_all
      rw[hadd];exact this) (by rw[j2p,hl];simp;omega) (fun v hv=>by simp at hv;obtain⟨z,_,rfl⟩:=hv;rfl)
   have hrow:((hcs h).toList.take (f*5)++r.map (Value.int .i64)++(hcs h).toList.drop (f*5+(r.map (Value.int .i64)).length)).toArray=hcs (j4c h f r):=by
    unfold hcs j4c
    simp[List.map_take,List.map_drop]
   rw[hrow] at hrun
   have hlen:(goInt (r.map (Value.int .i64)).length)=Value.int .i64 n:=by rw[List.length_map,hrn];rfl
   rw[hlen] at hrun
   simp[BigFrame.execOp_builtin,BigFrame.builtin_copy,hx,hy,hrun,Result.andThen]
   refine hK' _ _ (hK _ (setRow_heap _ _ _ _ _ _ hb) ⟨rfl,rfl,rfl,by simp[World.setRow],fun k hk hne=>?_⟩ (by simp[World.setRow]))
   unfold World.setRow
   rw[Array.getElem?_modify,if_neg (fun e=>hne (by rw[e]))]
theorem q2e {h r:List Int} {f:Nat} (hl:h.length=15) (hf:f<3) (hr:r.length≤5) (i:Nat):(j4c h f r).getD i 0=if f*5≤i∧i<f*5+r.length then r.getD (i-f*5) 0 else h.getD i 0:=by
 have ht:(h.take (f*5)).length=f*5:=by rw[List.length_take];omega
 unfold j4c
 simp only[List.getD_eq_getElem?_getD]
 by_cases h1:i<f*5
 ·rw[if_neg (by omega),List.append_assoc,List.getElem?_append_left (by omega),List.getElem?_take_of_lt h1]
 ·by_cases h2:i<f*5+r.length
  ·rw[if_pos ⟨by omega,h2⟩,List.getElem?_append_left (by rw[List.length_append,ht];exact h2),List.getElem?_append_right (by omega),ht]
  ·rw[if_neg (by omega),List.getElem?_append_right (by rw[List.length_append,ht];omega),List.length_append,ht,List.getElem?_drop]
   congr 2
   omega
def j3i (heads:List (List Int)):Nat→List Int
 | 0=>List.replicate 15 0
 | k+1=>j4c (j3i heads k) k (heads.getD k [])
theorem j5o {heads:List (List Int)} (h5:∀ r∈heads,r.length≤5):∀ k,k≤3→(j3i heads k).length=15
 | 0,_=>by simp[j3i]
 | k+1,hk=>by
   unfold j3i
   refine q2f (j5o h5 k (by omega)) (by omega) ?_
   rw[List.getD_eq_getElem?_getD]
   cases e:heads[k]? with
   | none=>simp
   | some r=>exact h5 r (List.mem_of_getElem? e)
theorem k4c {heads:List (List Int)} (h5:∀ r∈heads,r.length≤5):∀ k,k≤3→∀ i,(j3i heads k).getD i 0=if i / 5<k then (heads.getD (i / 5) []).getD (i % 5) 0 else 0
 | 0,_,i=>by
   rw[if_neg (by omega)]
   unfold j3i
   rw[List.getD_eq_getElem?_getD,List.getElem?_replicate]
   split<;>rfl
 | k+1,hk,i=>by
   have hr:(heads.getD k []).length≤5:=by
    rw[List.getD_eq_getElem?_getD]
    cases e:heads[k]? with
    | none=>simp
    | some r=>exact h5 r (List.mem_of_getElem? e)
   unfold j3i
   rw[q2e (j5o h5 k (by omega)) (by omega) hr,k4c h5 k (by omega)]
   by_cases h1:i / 5=k
   ·rw[if_pos (show i / 5<k+1 by omega),if_neg (show ¬i / 5<k by omega),h1]
    have e1:i-k*5=i % 5:=by omega
    by_cases h2:k*5≤i∧i<k*5+(heads.getD k []).length
    ·rw[if_pos h2,e1]
    ·rw[if_neg h2]
     rw[List.getD_eq_getElem?_getD,List.getElem?_eq_none (by omega)]
     rfl
   ·rw[if_neg (show ¬(k*5≤i∧i<k*5+(heads.getD k []).length) by omega)]
    by_cases h3:i / 5<k
    ·rw[if_pos h3,if_pos (by omega)]
    ·rw[if_neg h3,if_neg (by omega)]
theorem q1q {heads:List (List Int)} (h5:∀ r∈heads,r.length≤5) (h3:heads.length≤3):j3i heads heads.length=j0j heads:=by
 have hl:=j5o h5 heads.length h3
 apply List.ext_getElem?
 intro i
 by_cases hi:i<15
 ·have hg:=k4c h5 heads.length h3 i
  rw[List.getD_eq_getElem?_getD,List.getElem?_eq_getElem (by omega),Option.getD_some] at hg
  rw[List.getElem?_eq_getElem (by omega),hg]
  unfold j0j
  rw[List.getElem?_map,List.getElem?_range hi,Option.map_some]
  by_cases h1:i / 5<heads.length
  ·rw[if_pos h1]
  ·rw[if_neg h1,List.getD_eq_getElem?_getD (l:=heads),List.getElem?_eq_none (by omega)];rfl
 ·rw[List.getElem?_eq_none (by omega),List.getElem?_eq_none (by unfold j0j;simp;omega)]
theorem k6a (p:Nat) (t:Int) (A:Option Addr) (n c:Nat) (l:List Mk) (ks ds:Value) (HA:Option Addr) (hc:Nat) (heads:List (List Int)) (deed owner now:Int) (w:World) (hB:Book w p t A n c l ks (.slice HA heads.length hc) ds deed owner now) (hG:Grid w HA heads.length heads) (h3:heads.length≤3) (h5:∀ r∈heads,r.length≤5) :
 Calls Tryz.prog 104 #[.pointer (some ⟨p,0,none⟩)] w fun e w'=>e=.returned (.agg (hcs (j0j heads)))∧Below w.heap.size w w':=by
 obtain⟨W,hW⟩:∃ W,W=(w.alloc (Obj.cells #[.int .i64 0,.int .i64 0,.int .i64 0,.int .i64 0,.int .i64 0,.int .i64 0,.int .i64 0,.int .i64 0,.int .i64 0,.int .i64 0,.int .i64 0,.int .i64 0,.int .i64 0,.int .i64 0,.int .i64 0] 133)).alloc (Obj.cells #[.int .i64 0,.int .i64 0,.int .i64 0,.int .i64 0,.int .i64 0,.int .i64 0,.int .i64 0,.int .i64 0,.int .i64 0,.int .i64 0,.int .i64 0,.int .i64 0,.int .i64 0,.int .i64 0,.int .i64 0] 133):=⟨_,rfl⟩
 have b0:W.heap[w.heap.size]?=some (hObj (List.replicate 15 0)):=by rw[hW];exact j0b (j0c rfl) _
 have b1:W.heap[w.heap.size+1]?=some (hObj (j3i heads 0)):=by rw[hW];exact j0c (by simp)
 have hBW:Below w.heap.size w W:=by rw[hW];exact bal (bal0 w _) (zL9 _) _
 have hp:=j0e hB.hp hBW (zL9 _)
 obtain⟨p0,p1,p2,p3,-⟩:=blkB hp
 have hpl:=j0a hB.hp
 have HW:=zQ9 hW
 obtain⟨r,hr⟩:∃ r,r=w.heap.size:=⟨_,rfl⟩
 have HR:=zQ9 hr
 go_enter Tryz.func104,Tryz.ntmps104
 go_upto_region 2 with (fail)
 rw[←hW,←hr]
 rw[←hr] at b0 b1 hBW hpl
 have HX:=zQ9 (zA9 hBW (zA9 hG (zA9 b0 b1)))
 have H35:=zQ9 (zA9 h3 h5)
 clear hW hr b0 b1 hBW hp hB hG h3 h5
 go_wp2_with fail
 go_loopg [12] heads.length (fun g iv wr=>∃ k:Nat,k+g=heads.length∧iv=.int .i64 k∧wr.heap[r]?=some (hObj (List.replicate 15 0))∧wr.heap[r+1]?=some (hObj (j3i heads k))∧Below r w wr)
 case atStart=>exact⟨0,by omega,rfl,HX.out.2.2.1,HX.out.2.2.2,HX.out.1⟩
 case round =>
  obtain⟨k,hk',rfl,f0,f1,hBr⟩:=hrel
  have hGr:=HX.out.2.1.below hBr (Nat.le_of_eq HR.out.symm)
  have hzr:=j0a f1
  by_cases hlt:k<heads.length
  ·obtain⟨bi,oi,Bx,row,cx,hA1,hbi,hrow,hcx,hin,hlc,hcm⟩:=hGr.get hlt
   subst hA1
   have hr5:=H35.out.2 row (List.mem_of_getElem? hrow)
   have hk3:k<3:=by have:=H35.out.1;omega
   have hl:=j5o H35.out.2 k (by omega)
   have hnx:j3i heads (k+1)=j4c (j3i heads k) k row:=by
    conv=>lhs;unfold j3i
    rw[List.getD_eq_getElem?_getD,hrow];rfl
   have i0:(0:Int)≤(k:Int):=by omega
   have i1:(k:Int)<(heads.length:Int):=by omega
   have i3:(k:Int)<3:=by omega
   have HKM:=zQ9 (zA9 (show gk-1<gk by omega) (zA9 (show k+1+(gk-1)=heads.length by omega) (show Value.int .i64 ((k:Int)+1)=Value.int .i64 ((k+1:Nat):Int) by push_cast;rfl)))
   have HN:=zQ9 (zA9 hnx (zA9 f0 hBr))
   clear hnx f0 hBr hGr hk' hrow
   go_wp2_with ((with_reducible apply wp_copyH f1 hl hk3 hin hr5);(rfl);(rfl);(rfl);(rfl);intro w2 f12 g2 z2)
   go_roundg (gk-1)
   case measure=>exact HKM.out.1
   case rel=>exact⟨k+1,HKM.out.2.1,HKM.out.2.2,gblk g2 HN.out.2.1 (by omega),by rw[HN.out.1];exact f12,HN.out.2.2.grown g2 (by omega) (fun j hj=>by cases hj;omega)⟩
  ·obtain rfl:k=heads.length:=by omega
   have hl:=j5o H35.out.2 heads.length H35.out.1
   have hfin:=q1q H35.out.2 H35.out.1
   rw[hfin] at f1 hl
   obtain⟨y,hy⟩:∃ y,y=j0j heads:=⟨_,rfl⟩
   have HY:=zQ9 hy
   rw[←hy] at f1 hl
   have HBR:=zQ9 hBr
   clear hGr hk' hfin hy hBr
   have h15:(hcs (List.replicate 15 0)).size=15:=by rw[j2p,List.length_replicate]
   go_wp2_with (first
    | ((with_reducible apply j0t f1 hl);(rfl);(rfl);(rfl))
    | ((with_reducible apply j1z f0 h15 hl);(rfl);(rfl);(rfl);(rfl);intro w2 f02 g2 z2))
   have HB2:=zQ9 (HBR.out.grown g2 (by omega) (fun j hj=>by cases hj;omega))
   obtain⟨a0,a1,a2,a3,a4,a5,a6,a7,a8,a9,a10,a11,a12,a13,a14,hc15,hcell⟩:=j7u hl
   obtain⟨y0,y1,y2,y3,y4,y5,y6,y7,y8,y9,y10,y11,y12,y13,y14⟩:=hcell _ _ f02
   exact bodyPost_ret (v:=.agg (hcs y)) (by simp[results,Tryz.f104,go_sem,←hc15,y0,y1,y2,y3,y4,y5,y6,y7,y8,y9,y10,y11,y12,y13,y14]) rfl ⟨by rw[HY.out],by rw[←HR.out];exact HB2.out⟩
theorem intK:Maps.Keyed Tryz.prog 3:=Maps.int_keyed Tryz.underlying3
theorem keyIS {k:Int} (hk:-9223372036854775808≤k∧k≤9223372036854775807):∃ l,keyOf Tryz.prog 3 (.int .i64 k)=some l:=⟨_,Maps.keyOf_int_mk Tryz.underlying3 (WalkArith.wf_i64 hk)⟩
def k5s (es:List MapEntry):Prop:=∀ e∈es,∃ q:Nat,e.key=.int .i64 (q:Int)∧q≤100
theorem run_getI {W:World} {D clock:Nat} {es:Array MapEntry} (hh:W.heap[D]?=some (.map es clock)):(getObj D).run Tryz.prog W=.ok (.map es clock) W:=by simp[getObj,Sem.run,hh]
theorem run_setI {W:World} {D clock:Nat} {es:Array MapEntry} (hh:W.heap[D]?=some (.map es clock)) (o:Obj):(setObj D o).run Tryz.prog W=.ok () { W with heap:=W.heap.setIfInBounds D o }:=by simp[setObj,Sem.run,hh]
theorem q2x (w:World) (m o:Obj):({ (w.alloc m) with heap:=(w.alloc m).heap.setIfInBounds w.heap.size o }:World)=w.alloc o:=by
 have h:(w.heap.push m).setIfInBounds w.heap.size o=w.heap.push o:=by
  apply Array.ext_getElem?
  intro i
  by_cases hi:i=w.heap.size
  ·subst hi
   rw[Array.getElem?_setIfInBounds_self_of_lt (by simp)]
   simp
  ·rw[Array.getElem?_setIfInBounds_ne (fun e=>hi e.symm),Array.getElem?_push,Array.getElem?_push,if_neg hi,if_neg hi]
 show({ (w.alloc m) with heap:=(w.heap.push m).setIfInBounds w.heap.size o }:World)=w.alloc o
 rw[h];rfl
theorem j6k {w:World} {es:Array MapEntry} {clock k:Nat} {v:Value} (hs:k5s es.toList) (hk:k≤100) (hno:∀ e∈es.toList,e.key≠.int .i64 (k:Int)) :
 (Instr.mapUpdate 167 (.map (some w.heap.size)) (.int .i64 (k:Int)) v).run Tryz.prog (w.alloc (.map es clock))=.ok () (w.alloc (.map (es.push ⟨.int .i64 (k:Int),v,clock⟩) (clock+1))):=by
 obtain⟨l,hl⟩:=keyIS (k:=(k:Int)) (by omega)
 have hh:(w.alloc (.map es clock)).heap[w.heap.size]?=some (.map es clock):=j0c rfl
 have hu:=run_underlying (P:=Tryz.prog) (w:=w.alloc (.map es clock)) Tryz.underlying167
 have hg:=run_getI hh
 have hset:∀ o,(setObj w.heap.size o).run Tryz.prog (w.alloc (.map es clock))=.ok () (w.alloc o):=fun o=>(run_setI hh o).trans (by rw[q2x])
 have hck:=fun em=>intK.check (w.alloc (.map es clock)) em hl
 rcases intK.find (w.alloc (.map es clock)) hl es.toList (fun e he=>by obtain⟨q,hq,hq'⟩:=hs e he;rw[hq];exact keyIS (by omega)) with ⟨hr,_⟩|⟨j,e,hr,hj,hke⟩
 ·simp[Instr.mapUpdate,hu,hg,hck,hr,hset]
 ·exact absurd hke (hno e (List.mem_of_getElem? hj))
def j2a (p:Nat):Array MapEntry:=#[⟨.int .i64 1,(.func (.func 133) #[.pointer (some ⟨p,0,none⟩)] #[]),0⟩,⟨.int .i64 2,(.func (.func 134) #[.pointer (some ⟨p,0,none⟩)] #[]),1⟩,⟨.int .i64 3,(.func (.func 135) #[.pointer (some ⟨p,0,none⟩)] #[]),2⟩,⟨.int .i64 4,(.func (.func 136) #[.pointer (some ⟨p,0,none⟩)] #[]),3⟩,⟨.int .i64 5,(.func (.func 137) #[.pointer (some ⟨p,0,none⟩)] #[]),4⟩,⟨.int .i64 6,(.func (.func 138) #[.pointer (some ⟨p,0,none⟩)] #[]),5⟩]
theorem q2k (p:Nat):k5s (j2a p).toList:=by
 intro e he
 simp[j2a] at he
 rcases he with rfl|rfl|rfl|rfl|rfl|rfl
 ·exact⟨1,rfl,by decide⟩
 ·exact⟨2,rfl,by decide⟩
 ·exact⟨3,rfl,by decide⟩
 ·exact⟨4,rfl,by decide⟩
 ·exact⟨5,rfl,by decide⟩
 ·exact⟨6,rfl,by decide⟩
theorem j6i {w:World} {D clock p k:Nat} (h:w.heap[D]?=some (.map (j2a p) clock)) {e:MapEntry} (he:(j2a p)[k]?=some e) (hk:k<6) :
 (Instr.lookup 167 (.map (some D)) (.int .i64 ((k:Int)+1)) false).run Tryz.prog w=.ok e.val w:=by
 obtain⟨l,hl⟩:=keyIS (k:=(k:Int)+1) (by omega)
 have hu:=run_underlying (P:=Tryz.prog) (w:=w) Tryz.underlying167
 have hg:(getObj D).run Tryz.prog w=.ok (.map (j2a p) clock) w:=by simp[getObj,Sem.run,h]
 have hck:=fun em=>intK.check w em hl
 have hkey:e.key=.int .i64 ((k:Int)+1):=by
  obtain rfl|rfl|rfl|rfl|rfl|rfl:k=0∨k=1∨k=2∨k=3∨k=4∨k=5:=by omega
  all_goals (simp[j2a] at he;rw[←he];rfl)
 rcases intK.find w hl (j2a p).toList (fun e he=>by obtain⟨q,hq,hq'⟩:=q2k p e he;rw[hq];exact keyIS (by omega)) with ⟨hr,hno⟩|⟨j,e',hr,hj,hke⟩
 ·exact absurd hkey (hno e (List.mem_of_getElem? (by simpa using he)))
 ·have hee:e'=e:=by
   have hj':(j2a p)[j]?=some e':=by simpa using hj
   have hj6:j<6:=by have:=(Array.getElem?_eq_some_iff.1 hj').1;simpa[j2a] using this
   have hjk:j=k:=by
    have:e'.key=.int .i64 ((j:Int)+1):=by
     obtain rfl|rfl|rfl|rfl|rfl|rfl:j=0∨j=1∨j=2∨j=3∨j=4∨j=5:=by omega
     all_goals (simp[j2a] at hj';rw[←hj'];rfl)
    rw[this] at hke
    have h2:=(Value.int.inj hke).2
    omega
   rw[hjk,he] at hj'
   exact(Option.some.inj hj').symm
  rw[hee] at hr
  simp[Instr.lookup,hu,hg,hck,hr]
theorem does_any (p:Nat) (w:World) :
 Calls Tryz.prog 116 #[.pointer (some ⟨p,0,none⟩)] w fun e w'=>e=.returned (.map (some w.heap.size))∧w'=w.alloc (.map (j2a p) 6):=by
 have hmm:=@run_makeMap Tryz.prog
 have q0:(Instr.mapUpdate 167 (.map (some w.heap.size)) (.int .i64 1) (.func (.func 133) #[.pointer (some ⟨p,0,none⟩)] #[])).run Tryz.prog (w.alloc (.map #[] 0))=.ok () (w.alloc (.map #[⟨.int .i64 1,(.func (.func 133) #[.pointer (some ⟨p,0,none⟩)] #[]),0⟩] 1)):=j6k (es:=#[]) (clock:=0) (k:=1) (fun e he=>by simp at he) (by decide) (fun e he=>by simp at he)
 have q1:(Instr.mapUpdate 167 (.map (some w.heap.size)) (.int .i64 2) (.func (.func 134) #[.pointer (some ⟨p,0,none⟩)] #[])).run Tryz.prog (w.alloc (.map #[⟨.int .i64 1,(.func (.func 133) #[.pointer (some ⟨p,0,none⟩)] #[]),0⟩] 1))=.ok () (w.alloc (.map #[⟨.int .i64 1,(.func (.func 133) #[.pointer (some ⟨p,0,none⟩)] #[]),0⟩,⟨.int .i64 2,(.func (.func 134) #[.pointer (some ⟨p,0,none⟩)] #[]),1⟩] 2)):=j6k (es:=#[⟨.int .i64 1,(.func (.func 133) #[.pointer (some ⟨p,0,none⟩)] #[]),0⟩]) (clock:=1) (k:=2) (fun e he=>by simp at he;rcases he with rfl;all_goals (first|exact⟨1,rfl,by decide⟩|exact⟨2,rfl,by decide⟩|exact⟨3,rfl,by decide⟩|exact⟨4,rfl,by decide⟩|exact⟨5,rfl,by decide⟩)) (by decide) (fun e he=>by simp at he;rcases he with rfl;all_goals (intro h;injection h with _ h2;omega))
 have q2:(Instr.mapUpdate 167 (.map (some w.heap.size)) (.int .i64 3) (.func (.func 135) #[.pointer (some ⟨p,0,none⟩)] #[])).run Tryz.prog (w.alloc (.map #[⟨.int .i64 1,(.func (.func 133) #[.pointer (some ⟨p,0,none⟩)] #[]),0⟩,⟨.int .i64 2,(.func (.func 134) #[.pointer (some ⟨p,0,none⟩)] #[]),1⟩] 2))=.ok () (w.alloc (.map #[⟨.int .i64 1,(.func (.func 133) #[.pointer (some ⟨p,0,none⟩)] #[]),0⟩,⟨.int .i64 2,(.func (.func 134) #[.pointer (some ⟨p,0,none⟩)] #[]),1⟩,⟨.int .i64 3,(.func (.func 135) #[.pointer (some ⟨p,0,none⟩)] #[]),2⟩] 3)):=j6k (es:=#[⟨.int .i64 1,(.func (.func 133) #[.pointer (some ⟨p,0,none⟩)] #[]),0⟩,⟨.int .i64 2,(.func (.func 134) #[.pointer (some ⟨p,0,none⟩)] #[]),1⟩]) (clock:=2) (k:=3) (fun e he=>by simp at he;rcases he with rfl|rfl;all_goals (first|exact⟨1,rfl,by decide⟩|exact⟨2,rfl,by decide⟩|exact⟨3,rfl,by decide⟩|exact⟨4,rfl,by decide⟩|exact⟨5,rfl,by decide⟩)) (by decide) (fun e he=>by simp at he;rcases he with rfl|rfl;all_goals (intro h;injection h with _ h2;omega))
 have q3:(Instr.mapUpdate 167 (.map (some w.heap.size)) (.int .i64 4) (.func (.func 136) #[.pointer (some ⟨p,0,none⟩)] #[])).run Tryz.prog (w.alloc (.map #[⟨.int .i64 1,(.func (.func 133) #[.pointer (some ⟨p,0,none⟩)] #[]),0⟩,⟨.int .i64 2,(.func (.func 134) #[.pointer (some ⟨p,0,none⟩)] #[]),1⟩,⟨.int .i64 3,(.func (.func 135) #[.pointer (some ⟨p,0,none⟩)] #[]),2⟩] 3))=.ok () (w.alloc (.map #[⟨.int .i64 1,(.func (.func 133) #[.pointer (some ⟨p,0,none⟩)] #[]),0⟩,⟨.int .i64 2,(.func (.func 134) #[.pointer (some ⟨p,0,none⟩)] #[]),1⟩,⟨.int .i64 3,(.func (.func 135) #[.pointer (some ⟨p,0,none⟩)] #[]),2⟩,⟨.int .i64 4,(.func (.func 136) #[.pointer (some ⟨p,0,none⟩)] #[]),3⟩] 4)):=j6k (es:=#[⟨.int .i64 1,(.func (.func 133) #[.pointer (some ⟨p,0,none⟩)] #[]),0⟩,⟨.int .i64 2,(.func (.func 134) #[.pointer (some ⟨p,0,none⟩)] #[]),1⟩,⟨.int .i64 3,(.func (.func 135) #[.pointer (some ⟨p,0,none⟩)] #[]),2⟩]) (clock:=3) (k:=4) (fun e he=>by simp at he;rcases he with rfl|rfl|rfl;all_goals (first|exact⟨1,rfl,by decide⟩|exact⟨2,rfl,by decide⟩|exact⟨3,rfl,by decide⟩|exact⟨4,rfl,by decide⟩|exact⟨5,rfl,by decide⟩)) (by decide) (fun e he=>by simp at he;rcases he with rfl|rfl|rfl;all_goals (intro h;injection h with _ h2;omega))
 have q4:(Instr.mapUpdate 167 (.map (some w.heap.size)) (.int .i64 5) (.func (.func 137) #[.pointer (some ⟨p,0,none⟩)] #[])).run Tryz.prog (w.alloc (.map #[⟨.int .i64 1,(.func (.func 133) #[.pointer (some ⟨p,0,none⟩)] #[]),0⟩,⟨.int .i64 2,(.func (.func 134) #[.pointer (some ⟨p,0,none⟩)] #[]),1⟩,⟨.int .i64 3,(.func (.func 135) #[.pointer (some ⟨p,0,none⟩)] #[]),2⟩,⟨.int .i64 4,(.func (.func 136) #[.pointer (some ⟨p,0,none⟩)] #[]),3⟩] 4))=.ok () (w.alloc (.map #[⟨.int .i64 1,(.func (.func 133) #[.pointer (some ⟨p,0,none⟩)] #[]),0⟩,⟨.int .i64 2,(.func (.func 134) #[.pointer (some ⟨p,0,none⟩)] #[]),1⟩,⟨.int .i64 3,(.func (.func 135) #[.pointer (some ⟨p,0,none⟩)] #[]),2⟩,⟨.int .i64 4,(.func (.func 136) #[.pointer (some ⟨p,0,none⟩)] #[]),3⟩,⟨.int .i64 5,(.func (.func 137) #[.pointer (some ⟨p,0,none⟩)] #[]),4⟩] 5)):=j6k (es:=#[⟨.int .i64 1,(.func (.func 133) #[.pointer (some ⟨p,0,none⟩)] #[]),0⟩,⟨.int .i64 2,(.func (.func 134) #[.pointer (some ⟨p,0,none⟩)] #[]),1⟩,⟨.int .i64 3,(.func (.func 135) #[.pointer (some ⟨p,0,none⟩)] #[]),2⟩,⟨.int .i64 4,(.func (.func 136) #[.pointer (some ⟨p,0,none⟩)] #[]),3⟩]) (clock:=4) (k:=5) (fun e he=>by simp at he;rcases he with rfl|rfl|rfl|rfl;all_goals (first|exact⟨1,rfl,by decide⟩|exact⟨2,rfl,by decide⟩|exact⟨3,rfl,by decide⟩|exact⟨4,rfl,by decide⟩|exact⟨5,rfl,by decide⟩)) (by decide) (fun e he=>by simp at he;rcases he with rfl|rfl|rfl|rfl;all_goals (intro h;injection h with _ h2;omega))
 have q5:(Instr.mapUpdate 167 (.map (some w.heap.size)) (.int .i64 6) (.func (.func 138) #[.pointer (some ⟨p,0,none⟩)] #[])).run Tryz.prog (w.alloc (.map #[⟨.int .i64 1,(.func (.func 133) #[.pointer (some ⟨p,0,none⟩)] #[]),0⟩,⟨.int .i64 2,(.func (.func 134) #[.pointer (some ⟨p,0,none⟩)] #[]),1⟩,⟨.int .i64 3,(.func (.func 135) #[.pointer (some ⟨p,0,none⟩)] #[]),2⟩,⟨.int .i64 4,(.func (.func 136) #[.pointer (some ⟨p,0,none⟩)] #[]),3⟩,⟨.int .i64 5,(.func (.func 137) #[.pointer (some ⟨p,0,none⟩)] #[]),4⟩] 5))=.ok () (w.alloc (.map #[⟨.int .i64 1,(.func (.func 133) #[.pointer (some ⟨p,0,none⟩)] #[]),0⟩,⟨.int .i64 2,(.func (.func 134) #[.pointer (some ⟨p,0,none⟩)] #[]),1⟩,⟨.int .i64 3,(.func (.func 135) #[.pointer (some ⟨p,0,none⟩)] #[]),2⟩,⟨.int .i64 4,(.func (.func 136) #[.pointer (some ⟨p,0,none⟩)] #[]),3⟩,⟨.int .i64 5,(.func (.func 137) #[.pointer (some ⟨p,0,none⟩)] #[]),4⟩,⟨.int .i64 6,(.func (.func 138) #[.pointer (some ⟨p,0,none⟩)] #[]),5⟩] 6)):=j6k (es:=#[⟨.int .i64 1,(.func (.func 133) #[.pointer (some ⟨p,0,none⟩)] #[]),0⟩,⟨.int .i64 2,(.func (.func 134) #[.pointer (some ⟨p,0,none⟩)] #[]),1⟩,⟨.int .i64 3,(.func (.func 135) #[.pointer (some ⟨p,0,none⟩)] #[]),2⟩,⟨.int .i64 4,(.func (.func 136) #[.pointer (some ⟨p,0,none⟩)] #[]),3⟩,⟨.int .i64 5,(.func (.func 137) #[.pointer (some ⟨p,0,none⟩)] #[]),4⟩]) (clock:=5) (k:=6) (fun e he=>by simp at he;rcases he with rfl|rfl|rfl|rfl|rfl;all_goals (first|exact⟨1,rfl,by decide⟩|exact⟨2,rfl,by decide⟩|exact⟨3,rfl,by decide⟩|exact⟨4,rfl,by decide⟩|exact⟨5,rfl,by decide⟩)) (by decide) (fun e he=>by simp at he;rcases he with rfl|rfl|rfl|rfl|rfl;all_goals (intro h;injection h with _ h2;omega))
 go_enter Tryz.func116,Tryz.ntmps116
 go_wp2
 go_ret
 exact⟨rfl,rfl⟩
end Go.Proofs.YtmennjmjakdkcaaGreat
