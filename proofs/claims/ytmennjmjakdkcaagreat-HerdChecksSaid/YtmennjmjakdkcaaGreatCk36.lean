/- HerdChecks 36: Rf9F, Rf9M, TruA, Rf9H. -/
import Derived.Test.YtmennjmjakdkcaaGreatCk01
import Derived.Test.YtmennjmjakdkcaaGreatCk35
import Derived.Test.YtmennjmjakdkcaaGreatCk34
import Derived.Test.YtmennjmjakdkcaaGreatCk33
import Derived.Test.YtmennjmjakdkcaaGreatCk29
import Derived.BigRegion
import Derived.Test.YtmennjmjakdkcaaGreatCk14
set_option linter.unusedVariables false
set_option linter.unusedSimpArgs false
namespace Go.Proofs.YtmennjmjakdkcaaGreat
open Go.RowKit
set_option maxRecDepth 100000 in
set_option maxHeartbeats 8000000 in
theorem q0z (b:Hb) (hok:HeOk b.t b.l b.ks b.hs b.ds) (deed owner:Int) (i:Nat) (d:De) (hd:b.ds[i]? = some d) (ho:(i:Int) = deed→0 ≤ owner) (z:Nat) (v:Value) (E:List Gr) (Ah:Option Addr) (ch:Nat) (g:Gr) (w:World)
 (h:OwnGG z b.l.length b.ks.length v E w) (hg:GSh b.l.length b.ks.length g) (hn:nnG g = true) (hbd:BdG 1000 g) (hk:∀ w',w.grownBy w' v.ownBlock→j1a w' Ah b.ks.length g) (hi:∀ w',w.grownBy w' v.ownBlock→HbIn w' b) (hc:b.ks.length ≤ ch∧ch ≤ maxLen) (hE:E.length + 125 ≤ 4294967295) :
 Calls Tryz.prog 129 #[b.v,v,.slice Ah b.ks.length ch,dv d,.int .i64 (if (i:Int) = deed then owner else -1)] w fun e w' => ∃ v',e = .returned v'∧GgE z b.l.length b.ks.length v w v' (j1b b.t b.l deed owner i d E g) w':=by
 have hdI:=hok.dI d (List.mem_of_getElem? hd)
 have how:=j7b (hok.dE d (List.mem_of_getElem? hd))
 obtain ⟨own,hown⟩:∃ own,own = if (i:Int) = deed then owner else -1:=⟨_,rfl⟩
 rw [← hown]
 have hn5:=hok.n5
 have hf3:=hok.f3
 obtain ⟨nf,hnf⟩:∃ nf,nf = b.ks.length:=⟨_,rfl⟩
 obtain ⟨w1,hw1⟩:∃ W,W = (w.alloc b.obj).alloc (dObj d):=⟨_,rfl⟩
 obtain ⟨p,hp⟩:∃ p,p = w.heap.size:=⟨_,rfl⟩
 have hb1:Below w.heap.size w w1:=by rw [hw1];exact bal (bal0 _ _) (zL9 _) _
 have bp:w1.heap[p]? = some b.obj:=by rw [hw1,hp];exact j0b (j0c rfl) _
 have dp:w1.heap[p + 1]? = some (dObj d):=by rw [hw1,hp];exact j0c (by simp)
 have h1:=h.below hb1
 have hk1:∀ w',w1.grownBy w' v.ownBlock→j1a w' Ah b.ks.length g:=fun w' hg => hk w' ((j3a hb1).trans hg)
 have hi1:∀ w',w1.grownBy w' v.ownBlock→HbIn w' b:=fun w' hg => hi w' ((j3a hb1).trans hg)
 have hvl:∀ k,v.ownBlock = some k→k < w.heap.size:=fun k e => (h.lt k e).2
 have hgb:∀ f o,-1000 ≤ getG g f o∧getG g f o ≤ 1000:=fun f o => getG_bd hbd (by decide) f o
 obtain ⟨fn,hfn⟩:=Int.eq_ofNat_of_zero_le how.f.1
 have hfk:fn < nf:=by have:=how.f.2;omega
 have hm0:=hdI.m
 have hnf3:nf ≤ 3:=by omega
 rw [← hnf] at h1 hg hk1 how hdI hc ⊢
 have HX:=zQ9 (zA9 hg (zA9 hn (zA9 hgb (zA9 hb1 (zA9 h1 (zA9 hk1 (zA9 hi1 (zA9 hdI (zA9 how (zA9 hok (zA9 hown (zA9 ho (zA9 hnf (zA9 hfn hvl))))))))))))))
 obtain ⟨c0,c1,-,-,-⟩:=j0i bp
 obtain ⟨z0,z1,z2,z3,z4,z5,z6,z7,z8,z9,z10,z11⟩:=blkD dp
 have hlB:=j0a bp
 have hlD:=j0a dp
 rw [hfn] at z1
 have HP:=zQ9 (zA9 bp dp)
 have hHI:=zQ9 hi1
 clear h hg hn hbd hk hi hdI how hok hown ho hnf hfn hb1 h1 hk1 hi1 hvl hgb bp dp
 have hgk:∀ w',Below w1.heap.size w1 w'→j1a w' Ah nf g:=fun w' hb => by
  exact HX.out.2.2.2.2.2.1 w' (j3a hb)
 have hgl:g.length = nf:=HX.out.1.l
 have HG:=zQ9 (zA9 hgk hgl)
 clear hgk hgl
 unfold Hb.v dv
 go_enter Tryz.func129,Tryz.ntmps129
 go_upto_region 1 with (fail)
 rw [show (w.alloc (Obj.cells #[Value.int .i64 b.t,b.vm,b.vk,b.vh,b.vd] 29)).alloc (Obj.cells #[Value.int .i64 d.kind,.int .i64 d.flock,.int .i64 d.owner,.int .i64 d.other,.int .i64 d.tof,.int .i64 d.many,.int .i64 d.err,.int .i64 d.s.n,.bool d.s.l,.bool d.s.r,.int .i64 d.s.b,.int .i64 d.s.p] 33) = w1 from hw1.symm,← hp]
 have HWP:=zQ9 (zA9 hw1 hp)
 clear hw1 hp
 obtain ⟨kd,hkd⟩:∃ kd,kd = d.kind:=⟨_,rfl⟩
 rw [← hkd] at z0
 have hkr:=HX.out.2.2.2.2.2.2.2.2.1.k
 rw [← hkd] at hkr
 have hk6:kd = 1 ∨ kd = 3 ∨ kd = 2 ∨ kd = 4 ∨ kd = 5 ∨ kd = 6:=by omega
 have HKD:=zQ9 hkd
 clear hkd hkr
 rcases hk6 with rfl | rfl | rfl | rfl | rfl | rfl
 ·have hkd:=HKD.out.symm
  obtain ⟨ho0,ho1⟩:=HX.out.2.2.2.2.2.2.2.2.1.o (.inl hkd)
  obtain ⟨on,hon⟩:=Int.eq_ofNat_of_zero_le ho0
  rw [hon] at z2 ho1
  have hres:∀ dd oo ii,j1b b.t b.l dd oo ii d E g = addR E (addG g fn on d.many):=fun dd oo ii => by
   unfold j1b
   rw [if_pos hkd,HX.out.2.2.2.2.2.2.2.2.2.2.2.2.2.1,hon]
   rfl
  have HR:=zQ9 hres
  have hwi:=j3y Ah nf ch b.l.length g fn on d.many w1 (HG.out.1 w1 (Below.refl _ _)) (by omega) HX.out.1.r (by omega) hfk (by omega) (by have:=HX.out.2.2.1 fn on;omega) (by omega)
  clear hkd hres ho0 ho1 hon
  go_wp2_with (first
   | (go_at_call 144;(with_reducible refine hwi.mono ?_);rintro e w2 ⟨⟨vn,rfl,hen⟩,hb2⟩;obtain ⟨An,cn,rfl,hcn1,hcn2⟩:=hen.fm (show (addG g fn on d.many).length = nf by rw [j3l];exact HG.out.2);have had:=j5z HX.out.2.2.2.2.1 hb2 (zL9 _) hen (HX.out.1.add hfk on d.many) ⟨hcn1,hcn2⟩ (by omega) (by omega) (by omega);clear hen hb2)
   | (go_at_call 143;(with_reducible refine had.mono ?_);rintro e w3 ⟨v3,rfl,hE3⟩;have H3:=zQ9 hE3;clear hE3))
  go_ret
  exact ⟨_,rfl,by rw [HR.out];exact GgE.before HX.out.2.2.2.1 H3.out⟩
 ·have hkd:=HKD.out.symm
  obtain ⟨ho0,ho1⟩:=HX.out.2.2.2.2.2.2.2.2.1.o (.inr (.inr hkd))
  obtain ⟨on,hon⟩:=Int.eq_ofNat_of_zero_le ho0
  rw [hon] at z2 ho1
  have hres:∀ dd oo ii,j1b b.t b.l dd oo ii d E g = addR E (addG g fn on (-d.many)):=fun dd oo ii => by
   unfold j1b
   rw [if_neg (by omega),if_pos hkd,HX.out.2.2.2.2.2.2.2.2.2.2.2.2.2.1,hon]
   rfl
  have HR:=zQ9 hres
  have hwi:=j3y Ah nf ch b.l.length g fn on (-d.many) w1 (HG.out.1 w1 (Below.refl _ _)) (by omega) HX.out.1.r (by omega) hfk (by omega) (by have:=HX.out.2.2.1 fn on;omega) (by omega)
  clear hkd hres ho0 ho1 hon
  go_wp2_with (first
   | (go_at_call 144;(with_reducible refine hwi.mono ?_);rintro e w2 ⟨⟨vn,rfl,hen⟩,hb2⟩;obtain ⟨An,cn,rfl,hcn1,hcn2⟩:=hen.fm (show (addG g fn on (-d.many)).length = nf by rw [j3l];exact HG.out.2);have had:=j5z HX.out.2.2.2.2.1 hb2 (zL9 _) hen (HX.out.1.add hfk on (-d.many)) ⟨hcn1,hcn2⟩ (by omega) (by omega) (by omega);clear hen hb2)
   | (go_at_call 143;(with_reducible refine had.mono ?_);rintro e w3 ⟨v3,rfl,hE3⟩;have H3:=zQ9 hE3;clear hE3))
  go_ret
  exact ⟨_,rfl,by rw [HR.out];exact GgE.before HX.out.2.2.2.1 H3.out⟩
 ·have hkd:=HKD.out.symm
  obtain ⟨ho0,ho1⟩:=HX.out.2.2.2.2.2.2.2.2.1.o (.inr (.inl hkd))
  obtain ⟨hx0,hx1⟩:=HX.out.2.2.2.2.2.2.2.2.1.x hkd
  obtain ⟨on,hon⟩:=Int.eq_ofNat_of_zero_le ho0
  obtain ⟨xn,hxn⟩:=Int.eq_ofNat_of_zero_le hx0
  rw [hon] at z2 ho1
  rw [hxn] at z3 hx1
  obtain ⟨g1,hg1⟩:∃ g1,g1 = addG g fn on (-d.many):=⟨_,rfl⟩
  have hres:∀ dd oo ii,j1b b.t b.l dd oo ii d E g = addR E (addG g1 fn xn d.many):=fun dd oo ii => by
   unfold j1b
   rw [if_neg (by omega),if_neg (by omega),if_pos hkd,HX.out.2.2.2.2.2.2.2.2.2.2.2.2.2.1,hon,hxn,hg1]
   rfl
  have hs1:GSh b.l.length nf g1:=by rw [hg1];exact HX.out.1.add hfk on (-d.many)
  have hl1:g1.length = nf:=hs1.l
  have hb1:-100000 ≤ getG g1 fn xn∧getG g1 fn xn ≤ 100000:=by
   have h1:=HX.out.2.2.1 fn xn
   have h2:=HX.out.2.2.1 fn on
   by_cases e:on = xn
   ·subst e
    rw [hg1,j3m (by rw [HG.out.2];exact hfk) (by rw [HX.out.1.row hfk];omega)]
    omega
   ·rw [hg1,j4m (.inr e)]
    omega
  have HDX:=zQ9 (show DnX z b.l.length nf v E Ah g g1 (p + 1) d fn on (-d.many) fn xn w1 from ⟨HX.out.2.2.2.2.1,HX.out.1,HG.out.1,HP.out.2,HX.out.2.2.2.2.2.2.2.2.2.2.2.2.2.1,hs1,hg1,by have:=HX.out.2.2.1 fn on;omega,hb1⟩)
  have HDO:=zQ9 (show d.owner = (on:Int)∧d.other = (xn:Int) from ⟨hon,hxn⟩)
  have HR:=zQ9 hres
  have hon1:on < b.l.length:=by omega
  have hxn1:xn < b.l.length:=by omega
  clear hkd hres ho0 hx0 hon hxn hg1 hs1 hl1 hb1
  go_upto_region 7 with (fail)
  refine q1a w1 z b.l.length nf v E Ah ch g g1 (p + 1) d fn on xn _ _ _ _ _ _ _ _ _ _ _ _ _ _ _ _ _ _ _ _ _ _ _ _ _ _ _ _ _ _ _ _ _ _ _ _ _ _ _ _ _ _ _ _ _ _ _ _ _ _ _ _ _ _ _ _ _ _ _ _ _ _ _ _ _ _ _ _ _ _ _ _ _ _ _ _ _ _ _ _ _ _ _ _ _ _ _ _ _ _ _ _ _ _ _ _ _ _ _ _ _ _ _ _ _ _ _ _ _ _ _ _ _ _ _ _ _ _ _ _ _ _ _ HDX HDO (by omega) hfk hon1 hxn1 (by omega) (by omega) (by omega) ?_
  intro x41 x42 x43 x44 x45 x46 x47 x48 x49 x50 x51 x52 x53 x54 x55 x56 x57 x58 v3 w3 hE3
  have H3:=zQ9 hE3
  clear hE3
  go_wp2_with fail
  go_ret
  exact ⟨_,rfl,by rw [HR.out];exact GgE.before HX.out.2.2.2.1 H3.out⟩
 ·have hkd:=HKD.out.symm
  obtain ⟨mn,hmn⟩:=Int.eq_ofNat_of_zero_le hm0.1
  rw [hmn] at z5
  have hm3:=HX.out.2.2.2.2.2.2.2.1.l hkd
  rw [hmn] at hm3
  have hres:∀ dd oo ii,j1b b.t b.l dd oo ii d E g = j4j b.l.length fn mn 0 g E:=fun dd oo ii => by
   unfold j1b
   rw [if_neg (by omega),if_neg (by omega),if_neg (by omega),if_neg (by omega),if_pos hkd,HX.out.2.2.2.2.2.2.2.2.2.2.2.2.2.1,hmn]
   rfl
  have HR:=zQ9 hres
  have hlo:=k4p b.l.length nf fn hn5 (by omega) hfk mn (by omega) z 0 v E Ah ch g w1 (by omega) HX.out.2.2.2.2.1 HX.out.1 HX.out.2.1 (fun x _ => (HX.out.2.2.1 fn x).2) HX.out.2.2.2.2.2.1 hc (by have:5 ^ mn ≤ 5 ^ 3:=Nat.pow_le_pow_right (by decide) (by omega);omega)
  rw [show ((0:Nat):Int) = 0 from rfl] at hlo
  clear hkd hres hmn hm3
  go_wp2_with (go_at_call 145;(with_reducible refine hlo.mono ?_);rintro e w3 ⟨v3,rfl,hE3⟩;have H3:=zQ9 hE3;clear hE3)
  go_ret
  exact ⟨_,rfl,by rw [HR.out];exact GgE.before HX.out.2.2.2.1 H3.out⟩
 ·have hkd:=HKD.out.symm
  obtain ⟨ht0,ht1⟩:=HX.out.2.2.2.2.2.2.2.2.1.t hkd
  obtain ⟨tn,htn⟩:=Int.eq_ofNat_of_zero_le ht0
  rw [htn] at z4 ht1
  have htk:tn < nf:=by omega
  have hst:=HX.out.2.2.2.2.2.2.2.1.st hkd
  obtain ⟨F9,hF9⟩:∃ F9:List Gr→Nat→List Gr,F9 = fun E o => if mayB b.t b.l deed owner i d.s o then addR E (addG (addG g fn o (-1)) tn o 1) else E:=⟨_,rfl⟩
  have hres:j1b b.t b.l deed owner i d E g = (List.range b.l.length).foldl F9 E:=by
   unfold j1b
   rw [if_neg (by omega),if_neg (by omega),if_neg (by omega),if_neg (by omega),if_neg (by omega),HX.out.2.2.2.2.2.2.2.2.2.2.2.2.2.1,htn,hF9]
   rfl
  have htn':=zQ9 htn
  have HR:=zQ9 (zA9 hres (zA9 hF9 hst))
  clear hkd hres hF9 hst ht0 htn
  go_upto_region 12 with (fail)
  clear z0 z1 z2 z3 z4 z5 z6 z7 z8 z9 z10 z11 c0 c1
  go_loopg [1,11] b.l.length (fun gh v1 v11 wr => ∃ k:Nat,k + gh = b.l.length∧v11 = .int .i64 k∧GgE z b.l.length nf v w1 v1 ((List.range k).foldl F9 E) wr)
  case atStart => exact ⟨0,by omega,rfl,GgE.refl HX.out.2.2.2.2.1⟩
  case round =>
   obtain ⟨k,hk,rfl,hE⟩:=hrel
   obtain ⟨w2,hw2⟩:∃ W:World,W = wr:=⟨_,rfl⟩
   rw [← hw2] at hE ⊢
   clear hw2
   have hPK:=hE.keep (P:=fun w' => w'.heap[p]? = some b.obj∧w'.heap[p + 1]? = some (dObj d)) (fun w' hg => by
    have hp0:=HWP.out.2
    have hlp:=j0a HP.out.1
    have hld:=j0a HP.out.2
    exact ⟨(hg.block p hlp (fun e => by have:=HX.out.2.2.2.2.2.2.2.2.2.2.2.2.2.2 p e.symm;omega)).trans HP.out.1,(hg.block (p + 1) hld (fun e => by have:=HX.out.2.2.2.2.2.2.2.2.2.2.2.2.2.2 (p + 1) e.symm;omega)).trans HP.out.2⟩) w2 (World.grownBy.refl _ _)
   have hIn:=hE.keep HX.out.2.2.2.2.2.2.1 w2 (World.grownBy.refl _ _)
   have hgk:=hE.keep HX.out.2.2.2.2.2.1
   obtain ⟨c0,c1,-,-,-⟩:=j0i hPK.1
   obtain ⟨-,-,-,-,-,-,-,z7,z8,z9,z10,z11⟩:=blkD hPK.2
   have hlB:=j0a hPK.1
   have hlD:=j0a hPK.2
   by_cases hlt:k < b.l.length
   ·have hnx:(List.range (k + 1)).foldl F9 E = if mayB b.t b.l deed owner i d.s k then addR ((List.range k).foldl F9 E) (addG (addG g fn k (-1)) tn k 1) else (List.range k).foldl F9 E:=by
     rw [List.range_succ,List.foldl_append]
     simp only [List.foldl_cons,List.foldl_nil]
     rw [HR.out.2.1]
    have hFl:((List.range k).foldl F9 E).length ≤ E.length + 5:=by
     have h1:=j8x (F:=F9) (K:=1) (L:=List.range k) (fun x _ l => by
      rw [HR.out.2.1]
      dsimp only
      split
      ·exact k5r _ _
      ·omega) E
     rw [List.length_range] at h1
     omega
    obtain ⟨G,hG⟩:∃ G,G = (List.range k).foldl F9 E:=⟨_,rfl⟩
    rw [← hG] at hE hnx hFl
    obtain ⟨g1,hg1⟩:∃ g1,g1 = addG g fn k (-1):=⟨_,rfl⟩
    rw [← hg1] at hnx
    have hs1:GSh b.l.length nf g1:=by rw [hg1];exact HX.out.1.add hfk k (-1)
    have hb1:-1001 ≤ getG g1 tn k∧getG g1 tn k ≤ 1001:=by
     have h1:=HX.out.2.2.1 fn k
     have h2:=HX.out.2.2.1 tn k
     by_cases e:fn = tn
     ·subst e
      rw [hg1,j3m (by rw [HG.out.2];exact hfk) (by rw [HX.out.1.row hfk];omega)]
      omega
     ·rw [hg1,j4m (.inl e)]
      omega
    obtain ⟨mb,hmb⟩:∃ mb,mb = mayB b.t b.l deed owner i d.s k:=⟨_,rfl⟩
    rw [← hmb] at hnx
    have HM:=zQ9 hmb
    have HIN:=zQ9 hIn
    have HPB:=zQ9 hPK.1
    have HPD:=zQ9 hPK.2
    have HOK:=zQ9 (show HeOk b.t b.l b.ks b.hs b.ds∧seen d.s 9 6 = 0 from ⟨HX.out.2.2.2.2.2.2.2.2.2.1,HR.out.2.2⟩)
    have HW:=zQ9 (show (own = if (i:Int) = deed then owner else -1)∧((i:Int) = deed→0 ≤ owner) from ⟨HX.out.2.2.2.2.2.2.2.2.2.2.1,HX.out.2.2.2.2.2.2.2.2.2.2.2.1⟩)
    have i1:(k:Int) < (b.l.length:Int):=by omega
    have HK:=zQ9 (zA9 hk (zA9 hE (zA9 hnx (zA9 hgk (zA9 hFl (zA9 hs1 (zA9 hb1 hg1)))))))
    clear hk hE hnx hgk hFl hs1 hb1 hPK hg1 hG hIn hmb z7 z8 z9 z10 z11 c0
    go_upto_region 14 with (fail)
    clear c1
    refine done_may w2 b d p (p + 1) k i deed owner own mb _ _ _ _ _ _ _ _ _ _ _ _ _ _ _ _ _ _ _ _ _ _ _ _ _ _ _ _ _ _ _ _ _ _ _ _ _ _ _ _ _ _ _ _ _ _ _ _ _ _ _ _ _ _ _ _ _ _ _ _ _ _ _ _ _ _ _ _ _ _ _ _ _ _ _ _ _ _ _ _ _ _ _ _ _ _ _ _ _ _ _ _ _ _ _ _ _ _ _ _ _ _ _ _ _ _ _ _ _ _ _ _ _ _ _ _ _ _ _ _ _ _ HIN HPB HPD HOK hlt HM HW ?_
    intro x78 x79 x80 x81 x82 x83 x84 x85 x86 x87 x88 x89 x90 x91 x92 x93 x94 x95 x96 x97 w3 hb3
    cases mb
    ·have H3:=zQ9 hb3
     clear hb3
     go_wp2_with fail
     go_roundg (gk - 1)
     case measure => have:=HK.out.1;omega
     case rel =>
      refine ⟨k + 1,by have:=HK.out.1;omega,by go_num,?_⟩
      rw [HK.out.2.2.1,if_neg (by decide)]
      exact HK.out.2.1.then H3.out
    ·have HDX:=zQ9 (show DnX z b.l.length nf u1 G Ah g g1 (p + 1) d fn k (-1) tn k w3 from ⟨HK.out.2.1.gg.below hb3,HX.out.1,fun w' hb => HK.out.2.2.2.1 w' (j3a (hb3.trans (hb.mono hb3.size))),j0f HPD.out hb3 (zL9 _),HX.out.2.2.2.2.2.2.2.2.2.2.2.2.2.1,HK.out.2.2.2.2.2.1,HK.out.2.2.2.2.2.2.2,by have:=HX.out.2.2.1 fn k;omega,by have:=HK.out.2.2.2.2.2.2.1;omega⟩)
     have H3:=zQ9 hb3
     clear hb3
     go_upto_region 15 with (fail)
     refine k9j w3 z b.l.length nf u1 G Ah ch g g1 (p + 1) d fn tn k _ _ _ _ _ _ _ _ _ _ _ _ _ _ _ _ _ _ _ _ _ _ _ _ _ _ _ _ _ _ _ _ _ _ _ _ _ _ _ _ _ _ _ _ _ _ _ _ _ _ _ _ _ _ _ _ _ _ _ _ _ _ _ _ _ _ _ _ _ _ _ _ _ _ _ _ _ _ _ _ _ _ _ _ _ _ _ _ _ _ _ _ _ _ _ _ _ _ _ _ _ _ _ _ _ _ _ _ _ _ _ _ _ _ _ _ _ _ _ _ _ _ HDX htn' hfk htk hlt (by omega) (by omega) (by have:=HK.out.2.2.2.2.1;omega) ?_
     intro x99 x100 x101 x102 x103 x104 x105 x106 x107 x108 x109 v4 w4 hE4
     have H4:=zQ9 hE4
     clear hE4
     go_wp2_with fail
     go_roundg (gk - 1)
     case measure => have:=HK.out.1;omega
     case rel =>
      refine ⟨k + 1,by have:=HK.out.1;omega,by go_num,?_⟩
      rw [HK.out.2.2.1]
      first | rw [if_pos rfl] | rw [if_pos trivial]
      exact HK.out.2.1.trans (GgE.before H3.out H4.out)
   ·have hkn:k = b.l.length:=by omega
    have i1:¬ (k:Int) < (b.l.length:Int):=by omega
    have HK:=zQ9 (zA9 hE hkn)
    clear hk hE hkn hgk hPK hIn z7 z8 z9 z10 z11 c0
    go_wp2_with fail
    go_ret
    have h:=HK.out.1
    rw [HK.out.2,← HR.out.1] at h
    exact ⟨_,rfl,GgE.before HX.out.2.2.2.1 h⟩
 ·have hkd:=HKD.out.symm
  have hres:∀ dd oo ii,j1b b.t b.l dd oo ii d E g = if cntB d (g.getD fn []).sum then addR E g else E:=fun dd oo ii => by
   unfold j1b
   rw [if_neg (by omega),if_neg (by omega),if_neg (by omega),if_pos hkd,HX.out.2.2.2.2.2.2.2.2.2.2.2.2.2.1]
   rfl
  have hrl:(g.getD fn []).length = b.l.length:=HX.out.1.row hfk
  have hrow:∀ x ∈ g.getD fn [],0 ≤ x∧x ≤ 1000:=fun x hx => by
   obtain ⟨i,hi,rfl⟩:=List.getElem_of_mem hx
   have h1:=HX.out.2.2.1 fn i
   have h2:=(j7g HX.out.1).1 HX.out.2.1 fn i hfk (by rw [← hrl];exact hi)
   have e:getG g fn i = (g.getD fn [])[i]:=by unfold getG;rw [List.getD_eq_getElem?_getD,List.getElem?_eq_getElem hi];rfl
   rw [e] at h1 h2
   omega
  have hsb:=k0h (B:=1000) (by decide) (l:=g.getD fn []) fun x hx => by have:=hrow x hx;omega
  have hs0:0 ≤ (g.getD fn []).sum:=k9c fun x hx => (hrow x hx).1
  obtain ⟨S,hS⟩:∃ S,S = (g.getD fn []).sum:=⟨_,rfl⟩
  rw [hrl,← hS] at hsb
  rw [← hS] at hs0 hres
  have he0:=HX.out.2.2.2.2.2.2.2.1.e
  have cA:∀ d' os,Calls Tryz.prog 101 #[.slice Ah nf ch,.int .i64 fn] (Sort.grow (redrawn w1 d') os) (fun e w'' => e = .returned (.int .i64 S)∧∃ p:Regrown,w'' = Sort.grow (redrawn w1 p.d) p.os):=fun d' os => by
   have h1:=all9_any Ah nf ch fn g (Sort.grow (redrawn w1 d') os) (HG.out.1 _ (below_regrown w1 d' os)) hfk (by omega) (fun x hx => by have:=hrow x hx;omega)
   rw [← hS] at h1
   exact Calls.regrown_of (h1.mono fun e w' ⟨a,hw⟩ => ⟨a,hw ▸ Below.refl _ _⟩)
  obtain ⟨mb,hmb⟩:∃ mb,mb = cntB d S:=⟨_,rfl⟩
  have cP:∀ d' os,Calls Tryz.prog 146 #[.agg #[.int .i64 0,.int .i64 0,.int .i64 d.many,.int .i64 d.err],.int .i64 S] (Sort.grow (redrawn w1 d') os) (fun e w'' => e = .returned (.bool mb)∧∃ p:Regrown,w'' = Sort.grow (redrawn w1 p.d) p.os):=fun d' os => by
   rw [hmb]
   exact Calls.regrown_of (k5k d.many d.err S _ (by omega) (by omega) (by omega))
  rw [← hmb] at hres
  have k1:=cell_regrown z1
  have k5:=cell_regrown z5
  have k6:=cell_regrown z6
  have HC:=zQ9 (zA9 cA cP)
  have HR:=zQ9 hres
  clear hkd hres hrow hsb hs0 hS cA cP hmb he0
  go_upto_region 17 with (fail)
  clear z0 z1 z2 z3 z4 z5 z6 z7 z8 z9 z10 z11 c0 c1
  refine wp_region_quiet_below (by kernel_rfl) (by kernel_rfl) ?_
  repeat (go_big_quiet_step (first | exact HC.out.1 _ _ | exact HC.out.2 _ _))
  refine wpQuiet_nil ?_
  intro _ hw'
  obtain ⟨⟨dq,osq⟩,hw''⟩:=hw'
  subst hw''
  obtain ⟨W3,hW3⟩:∃ W3,W3 = Sort.grow (redrawn w1 dq) osq:=⟨_,rfl⟩
  have hb3:Below w1.heap.size w1 W3:=by rw [hW3];exact below_regrown w1 dq osq
  rw [← hW3]
  have had:=j8o z b.l.length nf v E Ah ch g W3 (HX.out.2.2.2.2.1.below hb3) HX.out.1 (fun w' hg => HX.out.2.2.2.2.2.1 w' ((j3a hb3).trans hg)) hc (by omega) (by omega) (by omega)
  have HB3:=zQ9 hb3
  clear hW3 hb3 k1 k5 k6
  cases mb
  ·go_wp2_with fail
   go_ret
   exact ⟨_,rfl,by rw [HR.out,if_neg (by decide)];exact GgE.before HX.out.2.2.2.1 (GgE.before HB3.out (GgE.refl (HX.out.2.2.2.2.1.below HB3.out)))⟩
  ·go_wp2_with (go_at_call 143;(with_reducible refine had.mono ?_);rintro e w3 ⟨v3,rfl,hE3⟩;have H3:=zQ9 hE3;clear hE3)
   go_ret
   refine ⟨_,rfl,?_⟩
   rw [HR.out]
   first | rw [if_pos rfl] | rw [if_pos trivial]
   exact GgE.before HX.out.2.2.2.1 (GgE.before HB3.out H3.out)
theorem k4x {α:Type} [DecidableEq α]:∀ {l m:List α},l.Nodup→(∀ x ∈ l,x ∈ m)→l.length ≤ m.length
 | [],m,_,_ => Nat.zero_le _
 | a :: l,m,hn,h => by
   obtain ⟨h1,h2⟩:=List.nodup_cons.1 hn
   have ha:=h a List.mem_cons_self
   have h3:=k4x (m:=m.erase a) h2 fun x hx => (List.mem_erase_of_ne (fun e:x = a => h1 (by rw [← e];exact hx))).2 (h x (List.mem_cons_of_mem _ hx))
   rw [List.length_erase_of_mem ha] at h3
   have:=List.length_pos_of_mem ha
   rw [List.length_cons]
   omega
section
variable {t:Int} {l:List Mk} {deed owner:Int} {nf:Nat}
theorem step_bd {i:Nat} {d:De} {g x:Gr} {B:Int} (hB:0 ≤ B) (hb:BdG B g) (hm:0 ≤ d.many∧d.many ≤ 300) (hk:d.kind ≠ 6→d.many ≤ 20) (hx:x ∈ j1p t l deed owner i d g):BdG (B + 40) x:=by
 unfold j1p at hx
 split at hx
 ·rw [List.mem_singleton.1 hx]
  exact (hb.add (K:=20) (by have:=hk (by omega);omega) (by omega) hB).mono (by omega)
 split at hx
 ·rw [List.mem_singleton.1 hx]
  exact (hb.add (K:=20) (by have:=hk (by omega);omega) (by omega) hB).mono (by omega)
 split at hx
 ·rw [List.mem_singleton.1 hx]
  exact ((hb.add (K:=20) (by have:=hk (by omega);omega) (by omega) hB).add (K:=20) (by have:=hk (by omega);omega) (by omega) (by omega)).mono (by omega)
 split at hx
 ·split at hx
  ·rw [List.mem_singleton.1 hx];exact hb.mono (by omega)
  ·cases hx
 split at hx
 ·unfold j9c at hx
  obtain ⟨w,hw,rfl⟩:=List.mem_map.1 hx
  obtain ⟨hl,-⟩:=j6u (List.mem_filter.1 hw).1
  exact (BdG.sub (w:=w) hB hb).mono (by have:=hk (by omega);omega)
 ·unfold strG at hx
  obtain ⟨o,-,rfl⟩:=List.mem_map.1 hx
  exact ((hb.add (K:=1) (by omega) (by omega) hB).add (K:=1) (by omega) (by omega) (by omega)).mono (by omega)
def j1q (t:Int) (l:List Mk) (deed owner:Int) (ds:List De) (hs:Gr):Nat→List Gr
 | 0 => [hs]
 | i + 1 => match ds[i]? with
   | some d => (j1q t l deed owner ds hs i).foldl (fun F g => j1b t l deed owner i d F g) []
   | none => j1q t l deed owner ds hs i
theorem k2i {ds:List De} {hs:Gr} {i:Nat} {d:De} (h:ds[i]? = some d):j1q t l deed owner ds hs (i + 1) = (j1q t l deed owner ds hs i).foldl (fun F g => j1b t l deed owner i d F g) []:=by
 show (match ds[i]? with
  | some d => (j1q t l deed owner ds hs i).foldl (fun F g => j1b t l deed owner i d F g) []
  | none => j1q t l deed owner ds hs i) = _
 rw [h]
structure EtOk (t:Int) (l:List Mk) (deed owner:Int) (nf:Nat) (ds:List De) (hs:Gr) (i:Nat):Prop where
 nd:(j1q t l deed owner ds hs i).Nodup
 sh:∀ g ∈ j1q t l deed owner ds hs i,GSh l.length nf g∧nnG g = true∧BdG (20 + 40 * i) g
 ln:(j1q t l deed owner ds hs i).length ≤ 35 ^ i
 tr:∀ x,x ∈ trG t l deed owner ds 0 hs ↔ ∃ g ∈ j1q t l deed owner ds hs i,x ∈ trG t l deed owner (ds.drop i) i g
theorem k6v {i nf:Nat} {d:De} (hn:l.length ≤ 5) (hd:DeIn l.length nf d) (how:DeOw l.length nf d):∀ (E:List Gr),(∀ g ∈ E,GSh l.length nf g∧nnG g = true) →
 (E.foldl (fun F g => j1b t l deed owner i d F g) []).Nodup∧(∀ x,x ∈ E.foldl (fun F g => j1b t l deed owner i d F g) [] ↔ ∃ g ∈ E,x ∈ j1p t l deed owner i d g∧nnG x = true)∧(E.foldl (fun F g => j1b t l deed owner i d F g) []).length ≤ 35 * E.length:=fun E hE => by
 have hnd:(E.foldl (fun F g => j1b t l deed owner i d F g) []).Nodup:=j6q (fun g _ E' h => k8a h) _ List.nodup_nil
 have hmem:∀ x,x ∈ E.foldl (fun F g => j1b t l deed owner i d F g) [] ↔ ∃ g ∈ E,x ∈ j1p t l deed owner i d g∧nnG x = true:=fun x => by
  rw [j9f (S:=fun (g:Gr) (x:Gr) => x ∈ j1p t l deed owner i d g∧nnG x = true) fun g hg E' => q2b (hE g hg).1 (hE g hg).2 how (fun _ => hd.m.1)]
  simp
 refine ⟨hnd,hmem,?_⟩
 refine Nat.le_trans (k4x (m:=E.flatMap fun g => j1p t l deed owner i d g) hnd fun x hx => ?_) ?_
 ·obtain ⟨g,hg,h1,-⟩:=(hmem x).1 hx
  exact List.mem_flatMap.2 ⟨g,hg,h1⟩
 ·refine Nat.le_trans (j4h (c:=35) fun g _ => step_len hn hd) ?_
  rw [Nat.mul_comm]
  exact zL9 _
theorem etOk {ks:List Int} {hs:Gr} {ds:List De} (hok:HeOk t l ks hs ds):∀ i,i ≤ ds.length→EtOk t l deed owner ks.length ds hs i
 | 0,_ => by
   refine ⟨by simp [j1q],fun g hg => ?_,by simp [j1q],fun x => by simp [j1q]⟩
   rw [show g = hs by simpa [j1q] using hg]
   exact ⟨⟨hok.hl,hok.rl⟩,j6x.2 fun r hr y hy => (hok.rb r hr y hy).1,fun r hr x hx => by have:=hok.rb r hr x hx;omega⟩
 | i + 1,hi => by
   have ih:=etOk hok i (by omega)
   obtain ⟨d,hd⟩:∃ d,ds[i]? = some d:=⟨_,List.getElem?_eq_getElem (by omega)⟩
   have hdI:=hok.dI d (List.mem_of_getElem? hd)
   have how:=j7b (hok.dE d (List.mem_of_getElem? hd))
   obtain ⟨h1,h2,h3⟩:=k6v (t:=t) (deed:=deed) (owner:=owner) (i:=i) hok.n5 hdI how (j1q t l deed owner ds hs i) fun g hg => ⟨(ih.sh g hg).1,(ih.sh g hg).2.1⟩
   have e:=k2i (t:=t) (l:=l) (deed:=deed) (owner:=owner) (hs:=hs) hd
   rw [← e] at h1 h2 h3
   refine ⟨h1,fun x hx => ?_,?_,fun x => ?_⟩
   ·obtain ⟨g,hg,h4,h5⟩:=(h2 x).1 hx
    have hs:=ih.sh g hg
    refine ⟨k3v hs.1 how h4,h5,(step_bd (by omega) hs.2.2 hdI.m (fun hk => hdI.s hk) h4).mono (by omega)⟩
   ·rw [Nat.pow_succ,Nat.mul_comm (35 ^ i)]
    exact Nat.le_trans h3 (Nat.mul_le_mul_left _ ih.ln)
   ·rw [ih.tr x]
    have hdr:ds.drop i = d :: ds.drop (i + 1):=by
     obtain ⟨hl,e⟩:=List.getElem?_eq_some_iff.1 hd
     rw [List.drop_eq_getElem_cons hl,e]
    constructor
    ·rintro ⟨g,hg,hx⟩
     rw [hdr] at hx
     unfold trG at hx
     rw [if_pos (ih.sh g hg).2.1] at hx
     obtain ⟨y,hy,hx⟩:=List.mem_flatMap.1 hx
     have hny:nnG y = true:=by
      cases hny:nnG y with
      | true => rfl
      | false => rw [trG_no (by rw [hny];simp)] at hx;cases hx
     exact ⟨y,(h2 y).2 ⟨g,hg,hy,hny⟩,hx⟩
    ·rintro ⟨y,hy,hx⟩
     obtain ⟨g,hg,h4,-⟩:=(h2 y).1 hy
     refine ⟨g,hg,?_⟩
     rw [hdr]
     unfold trG
     rw [if_pos (ih.sh g hg).2.1]
     exact List.mem_flatMap.2 ⟨y,h4,hx⟩
end
def j6m (t:Int) (l:List Mk) (hs:Gr) (ds:List De) (deed owner:Int):List Gr:=j1q t l deed owner ds hs ds.length
theorem k9l {t:Int} {l:List Mk} {ks:List Int} {hs:Gr} {ds:List De} {deed owner:Int} (hok:HeOk t l ks hs ds) :
 ((j6m t l hs ds deed owner).map j0j).Perm (j2r t l hs ds deed owner)∧∀ g ∈ j6m t l hs ds deed owner,GSh l.length ks.length g∧nnG g = true∧BdG 260 g:=by
 have h:=etOk (deed:=deed) (owner:=owner) hok ds.length (zL9 _)
 have hsh:∀ g ∈ j6m t l hs ds deed owner,GSh l.length ks.length g∧nnG g = true∧BdG 260 g:=fun g hg => by
  obtain ⟨h1,h2,h3⟩:=h.sh g hg
  exact ⟨h1,h2,h3.mono (by have:=hok.d6;omega)⟩
 have hmem:∀ g,g ∈ j6m t l hs ds deed owner ↔ g ∈ trG t l deed owner ds 0 hs:=fun g => by
  rw [h.tr g,List.drop_length]
  constructor
  ·intro hg
   refine ⟨g,hg,?_⟩
   unfold trG
   rw [if_pos (hsh g hg).2.1]
   exact List.mem_singleton.2 rfl
  ·rintro ⟨y,hy,hx⟩
   unfold trG at hx
   rw [if_pos (h.sh y hy).2.1] at hx
   rw [List.mem_singleton.1 hx]
   exact hy
 refine ⟨k1e ?_ (j9v _ _ _ _ _ _ _) fun x => ?_,hsh⟩
 ·rw [List.Nodup,List.pairwise_map]
  refine h.nd.imp_of_mem fun {a b} ha hb hab e => hab ?_
  exact k9n (hsh a ha).1 (hsh b hb).1 hok.n5 hok.f3 e
 ·rw [tru_ends hok x,List.mem_map]
  exact ⟨fun ⟨g,hg,e⟩ => ⟨g,(hmem g).1 hg,e.symm⟩,fun ⟨g,hg,e⟩ => ⟨g,(hmem g).2 hg,e.symm⟩⟩
theorem q1d {t:Int} {l:List Mk} {ks:List Int} {hs:Gr} {ds:List De} {deed owner:Int} (hok:HeOk t l ks hs ds):(j6m t l hs ds deed owner).length = (j2r t l hs ds deed owner).length:=by
 have:=(k9l (deed:=deed) (owner:=owner) hok).1.length_eq
 rwa [List.length_map] at this
theorem j5n {w w':World} (h:w.grownBy w' none):Below w.heap.size w w':=⟨h.os,h.tape,h.output,h.size,fun j hj => h.block j hj (fun e => by cases e)⟩
theorem Grid.zz {w:World} {A:Option Addr} {n:Nat} {ls:Gr} (h:Grid w A n ls) (hp:∀ r ∈ ls,0 < r.length):j1a w A n ls:=by
 obtain ⟨mv,h1,h2,h3⟩:=h
 refine ⟨mv,h1,h2,fun i v hv => ?_⟩
 obtain ⟨B,l,c,a1,a2,a3,a4,a5⟩:=h3 i v hv
 refine ⟨B,l,c,a1,a2,a3,a4,a5,fun hB => ?_⟩
 obtain ⟨b,o,x,e,-⟩:=Ints.get a3 (hp l (List.mem_of_getElem? a1))
 rw [hB] at e
 cases e
theorem OwnGG.get2 {z n nf:Nat} {v:Value} {E:List Gr} {w:World} (h:OwnGG z n nf v E w) {k:Nat} (hk:k < E.length) :
 ∃ b off cap A c g,v = .slice (some ⟨b,off,none⟩) E.length cap∧E.length ≤ cap∧cap ≤ maxLen∧E[k]? = some g∧w.cell? ⟨b,off + k,none⟩ = some (.slice A nf c)∧nf ≤ c∧c ≤ maxLen∧∀ w',Below w.heap.size w w'→j1a w' A nf g:=by
 obtain ⟨mv,h1,h2,h3⟩:=h.own
 obtain ⟨A0,c0,hv,hs,hc,hm⟩:=h1.form j2t
 rw [h2] at hs hv hc
 obtain ⟨b,off,x,hA,hb,hx,hcl⟩:=Vals.get hs hk
 obtain ⟨A,c,a1,a2,a3,a4⟩:=h3 k x E[k] hx (List.getElem?_eq_getElem hk)
 subst hA a1
 exact ⟨b,off,c0,A,c,E[k],hv,hc,hm,List.getElem?_eq_getElem hk,hcl,a2,a3,fun w' hb => a4 w' (j3a hb)⟩
theorem OwnGG.one {z n nf:Nat} {w:World} {A:Option Addr} {c:Nat} {g:Gr} (hz:z ≤ w.heap.size) (hg:∀ w',Below w.heap.size w w'→j1a w' A nf g) (hsh:GSh n nf g) (hc:nf ≤ c∧c ≤ maxLen) :
 OwnGG z n nf (.slice (some ⟨w.heap.size,0,none⟩) 1 1) [g] (w.alloc (Obj.cells #[.slice A nf c] 26)):=by
 refine ⟨⟨[.slice A nf c],?_,rfl,fun i u g' hu hg' => ?_⟩,fun g' hg' => ?_,?_⟩
 ·have:=Own.lit (enc:=eVal) (e:=26) (sz:=1) w z #[Value.slice A nf c] [Value.slice A nf c] rfl j2t hz (by show 1 ≤ maxLen;decide)
  simpa using this
 ·cases i with
  | zero =>
    cases hu
    cases hg'
    refine ⟨A,c,rfl,hc.1,hc.2,fun w' hgr => hg w' ⟨hgr.os,hgr.tape,hgr.output,Nat.le_trans (by simp) hgr.size,fun j hj => ?_⟩⟩
    rw [hgr.block j (by simp;omega) (fun e => by simp [Value.ownBlock] at e;omega)]
    exact Below.heap_alloc _ _ _ hj
  | succ i => simp at hu
 ·rw [List.mem_singleton.1 hg'];exact hsh
 ·simp;omega
set_option maxRecDepth 100000 in
set_option maxHeartbeats 8000000 in
theorem q0n (b:Hb) (hok:HeOk b.t b.l b.ks b.hs b.ds) (deed owner:Int) (ho:0 ≤ deed→0 ≤ owner) (w:World) (hin:HbIn w b) :
 Calls Tryz.prog 103 #[b.v,.int .i64 deed,.int .i64 owner] w fun e w' => (∃ v,e = .returned v∧OwnGG w.heap.size b.l.length b.ks.length v (j6m b.t b.l b.hs b.ds deed owner) w')∧Below w.heap.size w w':=by
 obtain ⟨V,hV⟩:∃ V,V = w.alloc b.obj:=⟨_,rfl⟩
 obtain ⟨p,hp⟩:∃ p,p = w.heap.size:=⟨_,rfl⟩
 have b0:V.heap[p]? = some b.obj:=by rw [hV,hp];exact j0c rfl
 have hBV:Below w.heap.size w V:=by rw [hV];exact bal0 w _
 have hiV:=hin.below hBV (zL9 _)
 obtain ⟨c0,c1,c2,c3,c4⟩:=j0i b0
 have hgz:∀ w',Below V.heap.size V w'→j1a w' b.Ah b.ks.length b.hs:=fun w' hb => by
  have h1:=(hiV.h.below hb (zL9 _)).zz (fun r hr => by rw [hok.rl r hr];exact hok.n0)
  rwa [hok.hl] at h1
 obtain ⟨w1,hw1⟩:∃ W,W = V.alloc (Obj.cells #[.slice b.Ah b.hs.length b.ch] 26):=⟨_,rfl⟩
 have hone:OwnGG w.heap.size b.l.length b.ks.length (.slice (some ⟨V.heap.size,0,none⟩) 1 1) (j1q b.t b.l deed owner b.ds b.hs 0) w1:=by
  rw [hw1,hok.hl]
  exact OwnGG.one hBV.size hgz ⟨hok.hl,hok.rl⟩ ⟨by rw [← hok.hl];exact hin.hc,hin.hm⟩
 have hB1:Below w.heap.size w w1:=by rw [hw1];exact hBV.trans ((bal0 V _).mono hBV.size)
 have b1:w1.heap[p]? = some b.obj:=by rw [hw1];exact j0b b0 _
 have hi1:=hin.below hB1 (zL9 _)
 obtain ⟨vg,hvg⟩:∃ vg,vg = V.heap.size:=⟨_,rfl⟩
 rw [← hvg] at hone
 have HX:=zQ9 (zA9 hone (zA9 hB1 (zA9 b1 (zA9 hi1 (zA9 hok ho)))))
 have hd6:=hok.d6
 clear hone hB1 b1 hi1 hok ho hin hBV hiV hgz b0
 unfold Hb.v
 go_enter Tryz.func103,Tryz.ntmps103
 go_upto_region 1 with (fail)
 rw [← hV,← hp]
 clear hV hp
 go_upto_region 2 with (fail)
 rw [← hw1,← hvg]
 have hzv:=HX.out.2.1.size
 clear hw1 hvg c0 c1 c2 c3 c4
 go_upto_region 3 with (fail)
 go_loopg [7,8,9,10,11] b.ds.length (fun gh v7 v8 _ _ _ wr => ∃ i:Nat,i + gh = b.ds.length∧v8 = .int .i64 i∧OwnGG w.heap.size b.l.length b.ks.length v7 (j1q b.t b.l deed owner b.ds b.hs i) wr∧Below w1.heap.size w1 wr)
 case atStart => exact ⟨0,by omega,rfl,HX.out.1,Below.refl _ _⟩
 case round =>
  obtain ⟨i,hi,rfl,hE,hb⟩:=hrel
  obtain ⟨g1,rfl⟩:∃ g1:Nat,g1 = gk:=⟨_,rfl⟩
  obtain ⟨w2,hw2⟩:∃ W:World,W = wr:=⟨_,rfl⟩
  rw [← hw2] at hE hb ⊢
  clear hw2
  have hP2:=j0f HX.out.2.2.1 hb (zL9 _)
  have hi2:=HX.out.2.2.2.1.below hb (zL9 _)
  obtain ⟨c0,c1,c2,c3,c4⟩:=j0i hP2
  have hlp:=j0a hP2
  by_cases hlt:i < b.ds.length
  ·obtain ⟨d,hd⟩:∃ d,b.ds[i]? = some d:=⟨_,List.getElem?_eq_getElem hlt⟩
   have hEt:=etOk (deed:=deed) (owner:=owner) HX.out.2.2.2.2.1 i (by omega)
   obtain ⟨E,hEE⟩:∃ E,E = j1q b.t b.l deed owner b.ds b.hs i:=⟨_,rfl⟩
   have hsc:=k2i (t:=b.t) (l:=b.l) (deed:=deed) (owner:=owner) (hs:=b.hs) hd
   have hsh:=hEt.sh
   have hln:=hEt.ln
   rw [← hEE] at hE hsc hsh hln
   obtain ⟨A7,c7,rfl,hc7,hm7⟩:=hE.form
   have hM:E.length ≤ 52521875:=Nat.le_trans hln (Nat.le_trans (Nat.pow_le_pow_right (by decide) (show i ≤ 5 by omega)) (by decide))
   obtain ⟨F,hF⟩:∃ F:List Gr→Gr→List Gr,F = fun F g => j1b b.t b.l deed owner i d F g:=⟨_,rfl⟩
   rw [← hF] at hsc
   have hpart:∀ k,((E.take k).foldl F []).length ≤ 35 * k:=fun k => by
    rw [hF]
    refine Nat.le_trans (k6v HX.out.2.2.2.2.1.n5 (HX.out.2.2.2.2.1.dI d (List.mem_of_getElem? hd)) (j7b (HX.out.2.2.2.2.1.dE d (List.mem_of_getElem? hd))) (E.take k) fun g hg => ⟨(hsh g (List.mem_of_mem_take hg)).1,(hsh g (List.mem_of_mem_take hg)).2.1⟩).2.2 ?_
    rw [List.length_take]
    exact Nat.mul_le_mul_left _ (Nat.min_le_left _ _)
   have i1:(i:Int) < (b.ds.length:Int):=by omega
   have HE:=zQ9 (zA9 hi (zA9 hE (zA9 hb (zA9 hd (zA9 hsc (zA9 hsh (zA9 hpart (zA9 hF hP2))))))))
   have HI2:=zQ9 hi2
   clear hi hE hb hd hsc hsh hpart hF hP2 hEt hln hEE hi2
   go_upto_if 24 with (fail)
   go_cut [10,25] (fun q u25 wc => q = .int .i64 (if (i:Int) = deed then owner else -1)∧w2 = wc)
   case first =>
    cases e1:((i:Int) == deed)
    all_goals
     have HE1:=zQ9 e1
     go_wp2_with fail
     go_meet
     refine ⟨?_,rfl⟩
     have:=HE1.out
     simp at this
     simp [this]
   case rest =>
    obtain ⟨rfl,rfl⟩:=hcut
    obtain ⟨own,hown⟩:∃ own,own = if (i:Int) = deed then owner else -1:=⟨_,rfl⟩
    rw [← hown]
    have HOW:=zQ9 hown
    clear hown
    go_upto_region 10 with (fail)
    go_loopg [9,11] E.length (fun gh v9 v11 wr => ∃ k:Nat,k + gh = E.length∧v11 = .int .i64 k∧GgE w.heap.size b.l.length b.ks.length (.slice none 0 0) w2 v9 ((E.take k).foldl F []) wr)
    case atStart => exact ⟨0,by omega,rfl,GgE.refl (OwnGG.nil_ (by have:=HE.out.2.2.1.size;omega))⟩
    case round =>
     obtain ⟨k,hk,rfl,hG⟩:=hrel
     obtain ⟨w3,hw3⟩:∃ W:World,W = wr:=⟨_,rfl⟩
     rw [← hw3] at hG ⊢
     clear hw3
     have hb3:Below w2.heap.size w2 w3:=j5n hG.gr
     by_cases hlk:k < E.length
     ·obtain ⟨b7,o7,cap,A,c,g,e7,-,-,hgk,y7,hc,hm,hgz⟩:=HE.out.2.1.get2 hlk
      cases e7
      obtain ⟨G,hGG⟩:∃ G,G = (E.take k).foldl F []:=⟨_,rfl⟩
      have hGl:=HE.out.2.2.2.2.2.2.1 k
      have hnx:(E.take (k + 1)).foldl F [] = F ((E.take k).foldl F []) g:=by rw [List.take_add_one,hgk,List.foldl_append];rfl
      rw [← hGG] at hG hGl hnx
      have hs:=HE.out.2.2.2.2.2.1 g (List.mem_of_getElem? hgk)
      have hdo:∀ nq,Calls Tryz.prog 129 #[b.v,u9,.slice A b.ks.length c,dv d,.int .i64 own] (w3.drewN nq) fun e w' => ∃ v',e = .returned v'∧GgE w.heap.size b.l.length b.ks.length u9 (w3.drewN nq) v' (F G g) w':=fun nq => by
       have hdr:Below w3.heap.size w3 (w3.drewN nq):=j0l (Below.refl _ _) nq
       rw [HOW.out,HE.out.2.2.2.2.2.2.2.1]
       exact q0z b HX.out.2.2.2.2.1 deed owner i d HE.out.2.2.2.1 (fun e => HX.out.2.2.2.2.2 (by omega)) w.heap.size u9 G A c g (w3.drewN nq) (hG.gg.below hdr) hs.1 hs.2.1 (hs.2.2.mono (by omega))
        (fun w' hg => hG.keep (P:=fun w' => j1a w' A b.ks.length g) (fun w' hg => hgz w' (j5n hg)) w' ((j3a hdr).trans hg))
        (fun w' hg => hG.keep (P:=fun w' => HbIn w' b) (fun w' hg => HI2.out.below (j5n hg) (zL9 _)) w' ((j3a hdr).trans hg)) ⟨hc,hm⟩ (by omega)
      have y7:=j5a y7 hb3 (zL9 _)
      have hb7:=j3g y7
      obtain ⟨c0,c1,c2,c3,c4⟩:=j0i (j0f HE.out.2.2.2.2.2.2.2.2 hb3 (zL9 _))
      have hi3:=HI2.out.below hb3 (zL9 _)
      obtain ⟨bd,od,d',eA,hbd,hd',d0,d1,d2,d3,d4,d5,d6,d7,d8,d9,d10,d11⟩:=hi3.d.get hlt
      rw [HE.out.2.2.2.1] at hd'
      cases hd'
      unfold Hb.v dv at hdo
      rw [eA] at c4 hdo
      have hlp:=j0a (j0f HE.out.2.2.2.2.2.2.2.2 hb3 (zL9 _))
      have hdc:=hi3.dc
      have hdm:=hi3.dm
      have i2:(k:Int) < (E.length:Int):=by omega
      have HK:=zQ9 (zA9 hk (zA9 hG (zA9 hnx hb3)))
      have HDO:=zQ9 hdo
      clear hk hG hnx hb3 hdo hgk hgz hs hGG hi3 eA hGl
      go_upto_region 12 with (fail)
      refine j1o (C:=fun w' => ∃ n,w' = w3.drewN n) 12 (by kernel_rfl) (by kernel_rfl) ⟨1,rfl⟩ ?_
      simp only [List.take_succ_cons,List.take_zero,List.drop_succ_cons,List.drop_zero]
      repeat (quiet_step (fail))
      refine wpQuiet_nil ?_
      intro _ hw'
      obtain ⟨nq,hw''⟩:=hw'
      subst hw''
      have hdo:=HDO.out nq
      clear c0 c1 c2 c3 c4 d0 d1 d2 d3 d4 d5 d6 d7 d8 d9 d10 d11 y7
      go_wp2_with (go_at_call 129;(with_reducible refine hdo.mono ?_);rintro e w4 ⟨v4,rfl,hE4⟩;have H4:=zQ9 hE4;clear hE4)
      go_roundg (gk - 1)
      case measure => have:=HK.out.1;omega
      case rel =>
       refine ⟨k + 1,by have:=HK.out.1;omega,by go_num,?_⟩
       rw [HK.out.2.2.1]
       exact HK.out.2.1.trans (GgE.before (j0l (Below.refl _ _) nq) H4.out)
     ·obtain rfl:k = E.length:=by omega
      rw [List.take_length,← HE.out.2.2.2.2.1] at hG
      have HG:=zQ9 (zA9 hG hb3)
      clear hG hb3 hk c0 c1 c2 c3 c4
      go_wp2_with fail
      go_roundg (g1 - 1)
      case measure => have:=HE.out.1;omega
      case rel => exact ⟨i + 1,by have:=HE.out.1;omega,by go_num,HG.out.1.gg,HE.out.2.2.1.trans (HG.out.2.mono HE.out.2.2.1.size)⟩
  ·obtain rfl:i = b.ds.length:=by omega
   have HE:=zQ9 (zA9 hE hb)
   clear hE hb hi hi2 hP2
   go_wp2_with fail
   go_ret
   exact ⟨⟨_,rfl,HE.out.1⟩,HX.out.2.1.trans (HE.out.2.mono HX.out.2.1.size)⟩
end Go.Proofs.YtmennjmjakdkcaaGreat
