/- HerdChecks 40: Rf9R, Rf9S, Rf9T. -/
import Derived.Test.YtmennjmjakdkcaaGreatCk01
import Derived.Test.YtmennjmjakdkcaaGreatCk15
import Derived.Test.YtmennjmjakdkcaaGreatCk36
import Derived.Test.YtmennjmjakdkcaaGreatCk39
set_option linter.unusedVariables false
set_option linter.unusedSimpArgs false
namespace Go.Proofs.YtmennjmjakdkcaaGreat
open Go.RowKit
theorem own_rows {hs:List (List Int)} {o:Nat} (hl:hs.length ≤ 3) (ho:o < 5):(hs.map fun r => r.getD o 0).sum = j1r (j0j hs) o:=by
 unfold j1r
 rw [j0x _ (by decide) ho,j0x _ (by decide) ho,j0x _ (by decide) ho]
 match hs,hl with
 | [],_ => simp [getG]
 | [a],_ => simp [getG]
 | [a,b],_ => simp [getG]
 | [a,b,c],_ => first | (simp [getG];done) | (simp [getG];omega)
 | a :: b :: c :: d :: t,h => exact absurd h (by simp)
def SM9 (V:World) (b:Hb) (p:Nat) (x:Sm) (w:World):Prop:=w.heap[p]? = some b.obj∧w.heap[p + 1]? = some (smO 0 0 0 0 0)∧w.heap[p + 1 + 1]? = some (smO x.first x.born x.bought x.sold x.eaten)∧Below p V w
theorem SM9.step {V w w':World} {b:Hb} {p:Nat} {x:Sm} (h:SM9 V b p x w) (hb:Below w.heap.size w w'):SM9 V b p x w':=⟨j0f h.1 hb (zL9 _),j0f h.2.1 hb (zL9 _),j0f h.2.2.1 hb (zL9 _),h.2.2.2.trans (hb.mono (by have:=j0a h.1;omega))⟩
theorem SM9.put {V w:World} {b:Hb} {p i:Nat} {x y:Sm} {v:Int} (h:SM9 V b p x w) (hv:(w.setCell ⟨p + 1 + 1,i,none⟩ (.int .i64 v)).heap[p + 1 + 1]? = some (smO y.first y.born y.bought y.sold y.eaten)):SM9 V b p y (w.setCell ⟨p + 1 + 1,i,none⟩ (.int .i64 v)) :=
 ⟨(Below.heap_setCell _ ⟨p + 1 + 1,i,none⟩ _ _ (by dsimp;omega)).trans h.1,(Below.heap_setCell _ ⟨p + 1 + 1,i,none⟩ _ _ (by dsimp;omega)).trans h.2.1,hv,h.2.2.2.setCell (by dsimp;omega) _⟩
set_option maxRecDepth 100000 in
set_option maxHeartbeats 4000000 in
theorem sum9_any (b:Hb) (hok:HeOk b.t b.l b.ks b.hs b.ds) (o:Nat) (hol:o < b.l.length) (w:World) (hin:HbIn w b) :
 Calls Tryz.prog 61 #[b.v,.int .i64 o] w fun e w' => e = .returned (smV (sumS b.hs o b.ds))∧Below w.heap.size w w':=by
 have ho5:o < 5:=by have:=hok.n5;omega
 have hfb:HBd 20 (j0j b.hs):=j7t hok.rb
 have hf3:0 ≤ j1r (j0j b.hs) o∧j1r (j0j b.hs) o ≤ 3000:=by
  have h0:=hfb.get (show 0 < 3 by decide) ho5
  have h1:=hfb.get (show 1 < 3 by decide) ho5
  have h2:=hfb.get (show 2 < 3 by decide) ho5
  unfold j1r;omega
 have hsb:∀ k,k ≤ b.ds.length→SmB (3000 + 300 * (k:Int)) (sumS b.hs o (b.ds.take k)):=fun k hk => k3w hf3 (fun d hd => by have:=(hok.dI d hd).m;omega) k hk
 obtain ⟨p,hp⟩:∃ p,p = w.heap.size:=⟨_,rfl⟩
 obtain ⟨V,hV⟩:∃ V,V = ((w.alloc b.obj).alloc (smO 0 0 0 0 0)).alloc (smO 0 0 0 0 0):=⟨_,rfl⟩
 have b0:SM9 w b p ⟨0,0,0,0,0⟩ V:=by
  rw [hV,hp]
  exact ⟨j0b (j0b (j0c rfl) _) _,j0b (j0c (by simp)) _,j0c (by simp),bal (bal (bal0 _ _) (zL9 _) _) (zL9 _) _⟩
 have HX:=zQ9 (zA9 hok (zA9 hin (zA9 hsb hp)))
 have HB:=zQ9 b0
 have hhl:b.hs.length ≤ 3:=by rw [hok.hl];exact hok.f3
 have hd6:=hok.d6
 have hhc:=hin.hc
 have hhm:=hin.hm
 have hdc:=hin.dc
 have hdm:=hin.dm
 clear hok hin hsb b0 hfb hf3
 unfold Hb.v
 go_enter Tryz.func61,Tryz.ntmps61
 go_upto_region 3 with (fail)
 rw [show ((w.alloc (Obj.cells #[Value.int .i64 b.t,b.vm,b.vk,b.vh,b.vd] 29)).alloc (Obj.cells #[Value.int .i64 0,.int .i64 0,.int .i64 0,.int .i64 0,.int .i64 0] 46)).alloc (Obj.cells #[Value.int .i64 0,.int .i64 0,.int .i64 0,.int .i64 0,.int .i64 0] 46) = V from hV.symm,← hp]
 clear hV hp
 go_loopg [6] b.hs.length (fun gh v6 wr => ∃ k:Nat,k + gh = b.hs.length∧v6 = .int .i64 k∧SM9 w b p ⟨((b.hs.take k).map fun r => r.getD o 0).sum,0,0,0,0⟩ wr)
 case atStart => exact ⟨0,by omega,rfl,HB.out⟩
 case round =>
  obtain ⟨k,hk,rfl,hB⟩:=hrel
  obtain ⟨w2,hw2⟩:∃ W:World,W = wr:=⟨_,rfl⟩
  rw [← hw2] at hB ⊢
  clear hw2
  obtain ⟨S,hS⟩:∃ S,S = ((b.hs.take k).map fun r => r.getD o 0).sum:=⟨_,rfl⟩
  rw [← hS] at hB
  have hpw:p = w.heap.size:=HX.out.2.2.2
  have hi2:=HX.out.2.1.below hB.2.2.2 (Nat.le_of_eq hpw.symm)
  obtain ⟨c0,c1,c2,c3,c4⟩:=j0i hB.1
  obtain ⟨s0,s1,s2,s3,s4⟩:=j0i hB.2.2.1
  have fz0:=frz hB.2.2.1 0
  have hlp:=j0a hB.1
  have hls:=j0a hB.2.2.1
  clear hpw
  by_cases hlt:k < b.hs.length
  ·obtain ⟨bh,oh,Br,row,cr,eA,hbh,hrow,y1,hri,hrc,hrm⟩:=hi2.h.get hlt
   rw [eA] at c3
   have hrl:=HX.out.1.rl row (List.mem_of_getElem? hrow)
   obtain ⟨bx,ox,x,rfl,hbx,hx,y2⟩:=Ints.get hri (show o < row.length by omega)
   have hxb:=HX.out.1.rb row (List.mem_of_getElem? hrow) x (List.mem_of_getElem? hx)
   rw [hrl] at y1 hrc
   have hsum:((b.hs.take (k + 1)).map fun r => r.getD o 0).sum = S + x:=by
    rw [List.take_add_one,hrow,List.map_append,List.sum_append,← hS]
    simp [List.getD_eq_getElem?_getD,hx]
   have hSb:-1000 ≤ S∧S ≤ 1000:=by
    have hq:=k0h (B:=20) (by decide) (l:=(b.hs.take k).map fun r => r.getD o 0) fun z hz => by
     obtain ⟨r,hr,rfl⟩:=List.mem_map.1 hz
     have hrr:=HX.out.1.rl r (List.mem_of_mem_take hr)
     have:=HX.out.1.rb r (List.mem_of_mem_take hr) (r.getD o 0) (by rw [List.getD_eq_getElem?_getD,List.getElem?_eq_getElem (show o < r.length by omega)];exact List.getElem_mem _)
     omega
    rw [← hS,List.length_map,List.length_take] at hq
    omega
   have i1:(k:Int) < (b.hs.length:Int):=by omega
   have i2:(o:Int) < (b.l.length:Int):=by omega
   have HK:=zQ9 (zA9 hk (zA9 hB hsum))
   clear hk hB hsum hS hi2 hri hrow hrl hx eA
   go_upto_region 5 with (fail)
   refine j1o (C:=fun w' => ∃ n,w' = w2.drewN n) 12 (by kernel_rfl) (by kernel_rfl) ⟨1,rfl⟩ ?_
   simp only [List.take_succ_cons,List.take_zero,List.drop_succ_cons,List.drop_zero]
   repeat (quiet_step (fail))
   refine wpQuiet_nil ?_
   intro _ hw'
   obtain ⟨nq,hw''⟩:=hw'
   subst hw''
   have HK2:=zQ9 (HK.out.2.1.step (j0l (Below.refl _ _) nq))
   have fz1:=frz HK2.out.2.2.1 0
   obtain ⟨t0,t1,t2,t3,t4⟩:=j0i HK2.out.2.2.1
   have hls2:=j0a HK2.out.2.2.1
   clear c0 c1 c2 c3 c4 s0 s1 s2 s3 s4 fz0 y1 y2 hls hlp
   generalize w2.drewN nq = w3 at HK2 fz1 t0 t1 t2 t3 t4 hls2 ⊢
   go_wp2_with fail
   go_roundg (gk - 1)
   case measure => have:=HK.out.1;omega
   case rel =>
    refine ⟨k + 1,by have:=HK.out.1;omega,by go_num,?_⟩
    rw [HK.out.2.2]
    exact HK2.out.put ((j0d HK2.out.2.2.1).trans (by simp))
  ·obtain rfl:k = b.hs.length:=by omega
   rw [List.take_length,own_rows hhl ho5] at hS
   have HB2:=zQ9 (show SM9 w b p (sumS b.hs o (b.ds.take 0)) w2 by rw [List.take_zero];unfold sumS;rw [← hS];exact hB)
   clear hB hS hk hi2 s0 s1 s2 s3 s4 fz0
   go_upto_region 7 with (fail)
   clear c0 c1 c2 c3 c4 hlp
   go_loopg [7,8] b.ds.length (fun gh v7 _ wr => ∃ k:Nat,k + gh = b.ds.length∧v7 = .int .i64 k∧SM9 w b p (sumS b.hs o (b.ds.take k)) wr)
   case atStart => exact ⟨0,by omega,rfl,HB2.out⟩
   case round =>
    obtain ⟨k,hk,rfl,hB⟩:=hrel
    obtain ⟨w3,hw3⟩:∃ W:World,W = wr:=⟨_,rfl⟩
    rw [← hw3] at hB ⊢
    clear hw3
    obtain ⟨x,hx⟩:∃ x,x = sumS b.hs o (b.ds.take k):=⟨_,rfl⟩
    rw [← hx] at hB
    obtain ⟨c0,c1,c2,c3,c4⟩:=j0i hB.1
    have hlp:=j0a hB.1
    by_cases hlt:k < b.ds.length
    ·have hpw:p = w.heap.size:=HX.out.2.2.2
     have hi3:=HX.out.2.1.below hB.2.2.2 (Nat.le_of_eq hpw.symm)
     clear hpw
     obtain ⟨bd,od,d,eA,hbd,hd,d0,d1,d2,d3,d4,d5,d6,d7,d8,d9,d10,d11⟩:=hi3.d.get hlt
     rw [eA] at c4
     have how:=j7b (HX.out.1.dE d (List.mem_of_getElem? hd))
     have hdm:=(HX.out.1.dI d (List.mem_of_getElem? hd)).m
     have hbd2:=HX.out.2.2.1 k (by omega)
     rw [← hx] at hbd2
     have hsn:=k0g b.hs o b.ds hd
     rw [← hx] at hsn
     have i1:(k:Int) < (b.ds.length:Int):=by omega
     have bz:(w3.alloc dZ).heap[w3.heap.size]? = some dZ:=j0c rfl
     have HK:=zQ9 (zA9 hk (zA9 hB (zA9 hsn (zA9 how.ne how.k))))
     clear hk hB hsn hi3 hd hx how eA
     go_upto_block 3 with (fail)
     go_cut [8] from 35 to 87 (fun _ wx => SM9 w b p (j1c o x d) wx)
     case first =>
      go_upto_region 10 with ((with_reducible apply j8a bz rfl);(rfl);(rfl);(rfl);(rfl);intro w5 b5 g5 z5)
      obtain ⟨gx,hgx⟩:∃ gx,gx = w3.heap.size:=⟨_,rfl⟩
      have hB5:Below w3.heap.size w3 w5:=⟨g5.os,g5.tape,g5.output,by rw [z5];simp,fun j hj => (g5.block j (by simp;omega) (fun e => by cases e;omega)).trans (Below.heap_alloc _ _ _ hj)⟩
      have hS5:=HK.out.2.1.step hB5
      have hgp:p + 1 + 1 < gx:=by rw [hgx];exact j0a HK.out.2.1.2.2.1
      rw [← hgx] at b5 ⊢
      have HS:=zQ9 (zA9 hS5 b5)
      clear hgx z5 g5 hB5 bz b5 hS5 d0 d1 d2 d3 d4 d5 d6 d7 d8 d9 d10 d11 c0 c1 c2 c3 c4 hlp
      obtain ⟨y0,y1,y2,y3,y4,y5,y6,y7,y8,y9,y10,y11⟩:=blkD HS.out.2
      obtain ⟨kd,hkd⟩:∃ kd,kd = d.kind:=⟨_,rfl⟩
      rw [← hkd] at y0
      have HKD:=zQ9 hkd
      clear hkd
      obtain ⟨s0,s1,s2,s3,s4⟩:=j0i HS.out.1.2.2.1
      have fs:=frz HS.out.1.2.2.1
      obtain ⟨q1,q2,q3,q4⟩:=zA9 (fs 1) (zA9 (fs 2) (zA9 (fs 3) (fs 4)))
      have hls:=j0a HS.out.1.2.2.1
      have hld:=j0a HS.out.2
      obtain ⟨m0,m1,m2,m3,m4⟩:=hbd2
      clear fs
      obtain rfl | h1:kd = 1 ∨ kd ≠ 1:=by omega
      ·by_cases how:d.owner = (o:Int)
       ·have e1:(d.owner == (o:Int)) = true:=by simp [how]
        have HST:=zQ9 (show j1c o x d = { x with born:=x.born + d.many } by unfold j1c;rw [if_pos ⟨how,HKD.out.symm⟩])
        clear how
        go_wp2_with fail
        go_meet
        rw [HST.out]
        exact HS.out.1.put ((j0d HS.out.1.2.2.1).trans (by simp))
       ·have e1:(d.owner == (o:Int)) = false:=beq_eq_false_iff_ne.2 how
        have HST:=zQ9 (show j1c o x d = x by unfold j1c;rw [if_neg (fun h => how h.1),if_neg (fun h => how h.1),if_neg (fun h => how h.1),if_neg (fun h => by have:=HKD.out;omega)])
        clear how
        go_wp2_with fail
        go_meet
        rw [HST.out]
        exact HS.out.1
      obtain rfl | h3:kd = 3 ∨ kd ≠ 3:=by omega
      ·by_cases how:d.owner = (o:Int)
       ·have e1:(d.owner == (o:Int)) = true:=by simp [how]
        have HST:=zQ9 (show j1c o x d = { x with eaten:=x.eaten + d.many } by unfold j1c;rw [if_neg (fun h => by have:=HKD.out;omega),if_neg (fun h => by have:=HKD.out;omega),if_pos ⟨how,HKD.out.symm⟩])
        clear how h1
        go_wp2_with fail
        go_meet
        rw [HST.out]
        exact HS.out.1.put ((j0d HS.out.1.2.2.1).trans (by simp))
       ·have e1:(d.owner == (o:Int)) = false:=beq_eq_false_iff_ne.2 how
        have HST:=zQ9 (show j1c o x d = x by unfold j1c;rw [if_neg (fun h => how h.1),if_neg (fun h => how h.1),if_neg (fun h => how h.1),if_neg (fun h => by have:=HKD.out;omega)])
        clear how h1
        go_wp2_with fail
        go_meet
        rw [HST.out]
        exact HS.out.1
      obtain rfl | h2:kd = 2 ∨ kd ≠ 2:=by omega
      ·by_cases how:d.owner = (o:Int)
       ·have e1:(d.owner == (o:Int)) = true:=by simp [how]
        have e2:(d.other == (o:Int)) = false:=beq_eq_false_iff_ne.2 (fun e => HK.out.2.2.2.1 HKD.out.symm (by rw [how,e]))
        have HST:=zQ9 (show j1c o x d = { x with sold:=x.sold + d.many } by unfold j1c;rw [if_neg (fun h => by have:=HKD.out;omega),if_pos ⟨how,HKD.out.symm⟩])
        obtain ⟨-,-,-,u3,-⟩:=blkD (w:=w5.setCell ⟨p + 1 + 1,3,none⟩ (.int .i64 (x.sold + d.many))) ((Below.heap_setCell _ ⟨p + 1 + 1,3,none⟩ _ _ (by dsimp;omega)).trans HS.out.2)
        clear how h1 h3
        go_wp2_with fail
        go_meet
        rw [HST.out]
        exact HS.out.1.put ((j0d HS.out.1.2.2.1).trans (by simp))
       ·have e1:(d.owner == (o:Int)) = false:=beq_eq_false_iff_ne.2 how
        by_cases hox:d.other = (o:Int)
        ·have e2:(d.other == (o:Int)) = true:=by simp [hox]
         have HST:=zQ9 (show j1c o x d = { x with bought:=x.bought + d.many } by unfold j1c;rw [if_neg (fun h => how h.1),if_neg (fun h => how h.1),if_neg (fun h => how h.1),if_pos ⟨HKD.out.symm,hox⟩])
         clear how hox h1 h3
         go_wp2_with fail
         go_meet
         rw [HST.out]
         exact HS.out.1.put ((j0d HS.out.1.2.2.1).trans (by simp))
        ·have e2:(d.other == (o:Int)) = false:=beq_eq_false_iff_ne.2 hox
         have HST:=zQ9 (show j1c o x d = x by unfold j1c;rw [if_neg (fun h => how h.1),if_neg (fun h => how h.1),if_neg (fun h => how h.1),if_neg (fun h => hox h.2)])
         clear how hox h1 h3
         go_wp2_with fail
         go_meet
         rw [HST.out]
         exact HS.out.1
      ·have k1:(kd == 1) = false:=beq_eq_false_iff_ne.2 h1
       have k3:(kd == 3) = false:=beq_eq_false_iff_ne.2 h3
       have k2:(kd == 2) = false:=beq_eq_false_iff_ne.2 h2
       have HST:=zQ9 (show j1c o x d = x by unfold j1c;rw [if_neg (fun h => by have:=HKD.out;omega),if_neg (fun h => by have:=HKD.out;omega),if_neg (fun h => by have:=HKD.out;omega),if_neg (fun h => by have:=HKD.out;omega)])
       clear h1 h2 h3
       go_wp2_with fail
       go_meet
       rw [HST.out]
       exact HS.out.1
     case rest =>
      have HC:=zQ9 hcut
      clear hcut hbd2 bz d0 d1 d2 d3 d4 d5 d6 d7 d8 d9 d10 d11 c0 c1 c2 c3 c4 hlp
      go_wp2_with fail
      go_roundg (gk - 1)
      case measure => have:=HK.out.1;omega
      case rel => exact ⟨k + 1,by have:=HK.out.1;omega,by go_num,by rw [HK.out.2.2.1];exact HC.out⟩
    ·obtain rfl:k = b.ds.length:=by omega
     rw [List.take_length] at hx
     subst hx
     have HE:=zQ9 hB
     clear hB hk
     obtain ⟨s0,s1,s2,s3,s4⟩:=j0i HE.out.2.2.1
     obtain ⟨r0,r1,r2,r3,r4⟩:=j0i HE.out.2.1
     have fr:=frz HE.out.2.1
     obtain ⟨q0,q1,q2,q3,q4⟩:=zA9 (fr 0) (zA9 (fr 1) (zA9 (fr 2) (zA9 (fr 3) (fr 4))))
     have hls:=j0a HE.out.2.2.1
     have hlr:=j0a HE.out.2.1
     clear fr
     obtain ⟨x,hx⟩:∃ x,x = sumS b.hs o b.ds:=⟨_,rfl⟩
     rw [← hx] at s0 s1 s2 s3 s4
     have HXX:=zQ9 hx
     clear hx
     go_wp2_with fail
     obtain ⟨Z,hZ⟩:∃ Z,Z = (((((w3.setCell ⟨p + 1,0,none⟩ (.int .i64 x.first)).setCell ⟨p + 1,1,none⟩ (.int .i64 x.born)).setCell ⟨p + 1,2,none⟩ (.int .i64 x.bought)).setCell ⟨p + 1,3,none⟩ (.int .i64 x.sold)).setCell ⟨p + 1,4,none⟩ (.int .i64 x.eaten)):=⟨_,rfl⟩
     rw [← hZ]
     have bZ:Z.heap[p + 1]? = some (smO x.first x.born x.bought x.sold x.eaten):=by rw [hZ];exact (j0d (j0d (j0d (j0d (j0d HE.out.2.1))))).trans (by simp)
     have hgr:w3.grownBy Z (some (p + 1)):=by rw [hZ];exact ((((j0h _ _ _ _).trans (j0h _ _ _ _)).trans (j0h _ _ _ _)).trans (j0h _ _ _ _)).trans (j0h _ _ _ _)
     clear s0 s1 s2 s3 s4 r0 r1 r2 r3 r4 q0 q1 q2 q3 q4 hZ
     obtain ⟨q0,q1,q2,q3,q4⟩:=j0i bZ
     have HZ:=zQ9 hgr
     clear hgr bZ
     refine bodyPost_ret (v:=.agg #[.int .i64 x.first,.int .i64 x.born,.int .i64 x.bought,.int .i64 x.sold,.int .i64 x.eaten]) (by simp [results,Tryz.f61,go_sem,q0,q1,q2,q3,q4]) rfl ⟨by rw [← HXX.out];rfl,?_⟩
     rw [← HX.out.2.2.2]
     exact HE.out.2.2.2.grown HZ.out (by omega) (fun k e => by cases e;omega)
theorem q1e {t:Int} {l:List Mk} {hs:Gr} {ds:List De} (a c:Int):j6m t l hs ds (-1) a = j6m t l hs ds (-1) c:=by
 have hm:∀ i s o,mayB t l (-1) a i s o = mayB t l (-1) c i s o:=fun i s o => by
  unfold mayB j1u
  rw [show decide ((i:Int) = -1) = false from decide_eq_false (by omega)]
  rfl
 have hd:∀ i d E g,j1b t l (-1) a i d E g = j1b t l (-1) c i d E g:=fun i d E g => by
  unfold j1b
  simp only [hm]
 have hT:∀ k,j1q t l (-1) a ds hs k = j1q t l (-1) c ds hs k:=fun k => by
  induction k with
  | zero => rfl
  | succ i ih =>
    show (match ds[i]? with
     | some d => (j1q t l (-1) a ds hs i).foldl (fun F g => j1b t l (-1) a i d F g) []
     | none => j1q t l (-1) a ds hs i) = (match ds[i]? with
     | some d => (j1q t l (-1) c ds hs i).foldl (fun F g => j1b t l (-1) c i d F g) []
     | none => j1q t l (-1) c ds hs i)
    simp only [ih,hd]
 exact hT _
def Hb.eg (b:Hb):List Gr:=j6m b.t b.l b.hs b.ds (-1) (-1)
theorem eg_len {b:Hb} (hok:HeOk b.t b.l b.ks b.hs b.ds):b.eg.length = (b.ends (-1) 0).length:=by
 unfold Hb.eg
 rw [q1e (-1) 0]
 exact q1d hok
set_option maxRecDepth 100000 in
theorem q1c (b:Hb) (hok:HeOk b.t b.l b.ks b.hs b.ds) (w:World) (hin:HbIn w b) :
 Calls Tryz.prog 57 #[b.v] w fun e w' => (∃ v,e = .returned v∧OwnGG w.heap.size b.l.length b.ks.length v b.eg w')∧Below w.heap.size w w':=by
 obtain ⟨V,hV⟩:∃ V,V = w.alloc b.obj:=⟨_,rfl⟩
 obtain ⟨p,hp⟩:∃ p,p = w.heap.size:=⟨_,rfl⟩
 have HB:=zQ9 (show BB9 w b p V by rw [hV,hp];exact BB9.start hin)
 obtain ⟨c0,c1,c2,c3,c4⟩:=j0i HB.out.1
 have hlp:=j0a HB.out.1
 have he:=q0n b hok (-1) (-1) (fun h => absurd h (by decide)) V HB.out.2.1
 unfold Hb.v at he ⊢
 clear hok hin
 go_enter Tryz.func57,Tryz.ntmps57
 go_upto_region 1 with (fail)
 rw [← hV,← hp]
 clear hV hp
 go_wp2_with (go_at_call 103;(with_reducible refine he.mono ?_);rintro e w2 ⟨⟨v,rfl,hE⟩,hb⟩;have H2:=zQ9 (zA9 hE hb);clear hE hb)
 go_ret
 obtain ⟨mv,h1,h2,h3⟩:=H2.out.1.own
 refine ⟨⟨_,rfl,⟨mv,?_,h2,h3⟩,H2.out.1.sh,?_⟩,HB.out.2.2.trans (H2.out.2.mono HB.out.2.2.size)⟩
 ·exact Own.mono h1 HB.out.2.2.size
 ·exact Nat.le_trans HB.out.2.2.size H2.out.1.zw
set_option maxRecDepth 100000 in
theorem k7s (b:Hb) (w:World) (hin:HbIn w b):Calls Tryz.prog 14 #[b.v] w (j4q b w):=by
 obtain ⟨V,hV⟩:∃ V,V = w.alloc b.obj:=⟨_,rfl⟩
 obtain ⟨p,hp⟩:∃ p,p = w.heap.size:=⟨_,rfl⟩
 have HB:=zQ9 (show BB9 w b p V by rw [hV,hp];exact BB9.start hin)
 obtain ⟨c0,c1,c2,c3,c4⟩:=j0i HB.out.1
 have hlp:=j0a HB.out.1
 have hck:=j8n b V HB.out.2.1
 obtain ⟨ce,hce⟩:∃ ce,ce = b.chk:=⟨_,rfl⟩
 rw [← hce] at hck
 have HCE:=zQ9 hce
 unfold Hb.v at hck ⊢
 clear hin hce
 go_enter Tryz.func14,Tryz.ntmps14
 go_upto_region 1 with (fail)
 rw [← hV,← hp]
 clear hV hp
 by_cases h0:ce = 0
 ·subst h0
  have hok:=j4t HCE.out.symm
  go_upto_region 4 with (go_at_call 18;(with_reducible refine hck.mono ?_);rintro e w1 ⟨rfl,hb1⟩;replace HB:=zQ9 (HB.out.step hb1);clear hb1 c0 c1 c2 c3 c4 hlp)
  clear hck
  obtain ⟨c0,c1,c2,c3,c4⟩:=j0i HB.out.1
  have hlp:=j0a HB.out.1
  have he:=q1c b hok w1 HB.out.2.1
  unfold Hb.v at he
  have hln:=eg_len hok
  obtain ⟨E,hE⟩:∃ E,E = b.eg:=⟨_,rfl⟩
  rw [← hE] at he hln
  have HL:=zQ9 hln
  clear hln hE hok
  go_wp2_with (go_at_call 57;(with_reducible refine he.mono ?_);rintro e w2 ⟨⟨v,rfl,hG⟩,hb⟩;obtain ⟨A,c,rfl,h1,h2⟩:=hG.form;replace HB:=zQ9 (HB.out.step hb);clear hb hG)
  go_ret2
  unfold j4q
  rw [← HCE.out,if_pos rfl,← HL.out]
  exact ⟨rfl,HB.out.2.2⟩
 ·have x1:(ce != 0) = true:=by simp [h0]
  have H0:=zQ9 h0
  clear h0
  go_wp2_with (go_at_call 18;(with_reducible refine hck.mono ?_);rintro e w1 ⟨rfl,hb1⟩;replace HB:=zQ9 (HB.out.step hb1);clear hb1 c0 c1 c2 c3 c4 hlp)
  go_ret2
  unfold j4q
  rw [← HCE.out,if_neg H0.out]
  exact ⟨rfl,HB.out.2.2⟩
def SR9 (V:World) (b:Hb) (p:Nat) (w:World):Prop:=w.heap[p]? = some b.obj∧w.heap[p + 1]? = some (smO 0 0 0 0 0)∧Below p V w∧HbIn w b
theorem SR9.step {V w w':World} {b:Hb} {p:Nat} (h:SR9 V b p w) (hb:Below w.heap.size w w'):SR9 V b p w':=⟨j0f h.1 hb (zL9 _),j0f h.2.1 hb (zL9 _),h.2.2.1.trans (hb.mono (by have:=j0a h.1;omega)),h.2.2.2.below hb (zL9 _)⟩
set_option maxRecDepth 100000 in
set_option maxHeartbeats 2000000 in
theorem Sum9_any (b:Hb) (o:Int) (w:World) (hin:HbIn w b):Calls Tryz.prog 16 #[b.v,.int .i64 o] w (SumR b o w):=by
 obtain ⟨V,hV⟩:∃ V,V = (w.alloc b.obj).alloc (smO 0 0 0 0 0):=⟨_,rfl⟩
 obtain ⟨p,hp⟩:∃ p,p = w.heap.size:=⟨_,rfl⟩
 have HB:=zQ9 (show SR9 w b p V by rw [hV,hp];exact ⟨j0b (j0c rfl) _,j0c (by simp),bal (bal0 _ _) (zL9 _) _,hin.below (bal (bal0 _ _) (zL9 _) _) (zL9 _)⟩)
 obtain ⟨c0,c1,c2,c3,c4⟩:=j0i HB.out.1
 have hlp:=j0a HB.out.1
 have hck:=j8n b V HB.out.2.2.2
 obtain ⟨ce,hce⟩:∃ ce,ce = b.chk:=⟨_,rfl⟩
 rw [← hce] at hck
 obtain ⟨ob,hob⟩:∃ ob,ob = ownB b.l.length o:=⟨_,rfl⟩
 have hio:∀ W,Calls Tryz.prog 60 #[.agg #[.int .i64 b.t,.slice b.A b.l.length b.c,.slice b.Ak b.ks.length b.ck,.slice b.Ah b.hs.length b.ch,.slice b.Ad b.ds.length b.cd],.int .i64 o] W fun e w' => e = .returned (.bool ob)∧Below W.heap.size W w':=fun W => by rw [hob];exact j5e _ _ _ _ _ _ _ _ _ _ _ _ _ _ W (Nat.le_trans hin.mc hin.mm)
 have HCE:=zQ9 (zA9 hce (zA9 hob hp))
 unfold Hb.v at hck ⊢
 clear hin hce hob
 go_enter Tryz.func16,Tryz.ntmps16
 go_upto_region 1 with (fail)
 rw [show (w.alloc (Obj.cells #[Value.int .i64 b.t,b.vm,b.vk,b.vh,b.vd] 29)).alloc (Obj.cells #[Value.int .i64 0,.int .i64 0,.int .i64 0,.int .i64 0,.int .i64 0] 46) = V from hV.symm,← hp]
 clear hV hp
 have fin:∀ (W:World) (e:Int) (x:Sm),SR9 w b p W→sumE b o = e→sumR b o = x→∀ Z,Z = (((((W.setCell ⟨p + 1,0,none⟩ (.int .i64 x.first)).setCell ⟨p + 1,1,none⟩ (.int .i64 x.born)).setCell ⟨p + 1,2,none⟩ (.int .i64 x.bought)).setCell ⟨p + 1,3,none⟩ (.int .i64 x.sold)).setCell ⟨p + 1,4,none⟩ (.int .i64 x.eaten)) →
  Z.heap[p + 1]? = some (smO x.first x.born x.bought x.sold x.eaten)∧SumR b o w (.returned (.tuple #[.agg #[.int .i64 x.first,.int .i64 x.born,.int .i64 x.bought,.int .i64 x.sold,.int .i64 x.eaten],.int .i64 e])) Z:=fun W e x hS he hx Z hZ => by
  have hgr:W.grownBy Z (some (p + 1)):=by rw [hZ];exact ((((j0h _ _ _ _).trans (j0h _ _ _ _)).trans (j0h _ _ _ _)).trans (j0h _ _ _ _)).trans (j0h _ _ _ _)
  refine ⟨by rw [hZ];exact (j0d (j0d (j0d (j0d (j0d hS.2.1))))).trans (by simp),?_⟩
  refine k0s (Z:=w) (r:=0) he hx ?_
  rw [← HCE.out.2.2]
  exact hS.2.2.1.grown hgr (by have:=j0a hS.1;omega) (fun k e => by cases e;omega)
 have HF:=zQ9 fin
 clear fin
 by_cases h0:ce = 0
 ·subst h0
  have hok:=j4t HCE.out.1.symm
  go_upto_region 4 with (go_at_call 18;(with_reducible refine hck.mono ?_);rintro e w1 ⟨rfl,hb1⟩;replace HB:=zQ9 (HB.out.step hb1);clear hb1 c0 c1 c2 c3 c4 hlp)
  clear hck
  obtain ⟨c0,c1,c2,c3,c4⟩:=j0i HB.out.1
  have hlp:=j0a HB.out.1
  cases ob
  ·go_upto_region 5 with (go_at_call 60;(with_reducible refine (hio _).mono ?_);rintro e w2 ⟨rfl,hb2⟩;replace HB:=zQ9 (HB.out.step hb2);clear hb2 c0 c1 c2 c3 c4 hlp)
   obtain ⟨z0,z1,z2,z3,z4⟩:=j0i HB.out.2.1
   obtain ⟨f0,f1,f2,f3,f4⟩:=zA9 (frz HB.out.2.1 0) (zA9 (frz HB.out.2.1 1) (zA9 (frz HB.out.2.1 2) (zA9 (frz HB.out.2.1 3) (frz HB.out.2.1 4))))
   have hl1:=j0a HB.out.2.1
   clear hio hok
   go_wp2_with fail
   obtain ⟨Z,hZ⟩:∃ Z,Z = (((((w2.setCell ⟨p + 1,0,none⟩ (.int .i64 0)).setCell ⟨p + 1,1,none⟩ (.int .i64 0)).setCell ⟨p + 1,2,none⟩ (.int .i64 0)).setCell ⟨p + 1,3,none⟩ (.int .i64 0)).setCell ⟨p + 1,4,none⟩ (.int .i64 0)):=⟨_,rfl⟩
   rw [← hZ]
   have he:sumE b o = 3:=by unfold sumE;rw [if_neg (by rw [← HCE.out.1];simp),if_pos HCE.out.2.1.symm]
   obtain ⟨bZ,hR⟩:=HF.out w2 3 ⟨0,0,0,0,0⟩ HB.out he (by unfold sumR;rw [he,if_neg (by decide)]) Z hZ
   obtain ⟨q0,q1,q2,q3,q4⟩:=j0i bZ
   clear hZ z0 z1 z2 z3 z4 f0 f1 f2 f3 f4
   exact bodyPost_ret (v:=.tuple #[.agg #[.int .i64 0,.int .i64 0,.int .i64 0,.int .i64 0,.int .i64 0],.int .i64 3]) (by simp [results,Tryz.f16,go_sem,q0,q1,q2,q3,q4]) rfl hR
  ·obtain ⟨ho0,ho1⟩:=j1l.1 HCE.out.2.1.symm
   obtain ⟨k,rfl⟩:=Int.eq_ofNat_of_zero_le ho0
   go_upto_region 6 with (go_at_call 60;(with_reducible refine (hio _).mono ?_);rintro e w2 ⟨rfl,hb2⟩;replace HB:=zQ9 (HB.out.step hb2);clear hb2 c0 c1 c2 c3 c4 hlp)
   clear hio
   obtain ⟨c0,c1,c2,c3,c4⟩:=j0i HB.out.1
   have hlp:=j0a HB.out.1
   have hsm:=sum9_any b hok k (by omega) w2 HB.out.2.2.2
   obtain ⟨x,hx⟩:∃ x,x = sumS b.hs k b.ds:=⟨_,rfl⟩
   rw [← hx] at hsm
   have HXX:=zQ9 hx
   unfold Hb.v smV at hsm
   clear hx hok ho0 ho1
   go_wp2_with (go_at_call 61;(with_reducible refine hsm.mono ?_);rintro e w3 ⟨rfl,hb3⟩;replace HB:=zQ9 (HB.out.step hb3);clear hb3 c0 c1 c2 c3 c4 hlp;obtain ⟨z0,z1,z2,z3,z4⟩:=j0i HB.out.2.1;obtain ⟨f0,f1,f2,f3,f4⟩:=zA9 (frz HB.out.2.1 0) (zA9 (frz HB.out.2.1 1) (zA9 (frz HB.out.2.1 2) (zA9 (frz HB.out.2.1 3) (frz HB.out.2.1 4))));have hl1:=j0a HB.out.2.1)
   obtain ⟨Z,hZ⟩:∃ Z,Z = (((((w3.setCell ⟨p + 1,0,none⟩ (.int .i64 x.first)).setCell ⟨p + 1,1,none⟩ (.int .i64 x.born)).setCell ⟨p + 1,2,none⟩ (.int .i64 x.bought)).setCell ⟨p + 1,3,none⟩ (.int .i64 x.sold)).setCell ⟨p + 1,4,none⟩ (.int .i64 x.eaten)):=⟨_,rfl⟩
   rw [← hZ]
   have he:sumE b k = 0:=by unfold sumE;rw [if_neg (by rw [← HCE.out.1];simp),if_neg (by rw [← HCE.out.2.1];simp)]
   obtain ⟨bZ,hR⟩:=HF.out w3 0 x HB.out he (by unfold sumR;rw [he,if_pos rfl,HXX.out];rfl) Z hZ
   obtain ⟨q0,q1,q2,q3,q4⟩:=j0i bZ
   clear hZ z0 z1 z2 z3 z4 f0 f1 f2 f3 f4
   exact bodyPost_ret (v:=.tuple #[.agg #[.int .i64 x.first,.int .i64 x.born,.int .i64 x.bought,.int .i64 x.sold,.int .i64 x.eaten],.int .i64 0]) (by simp [results,Tryz.f16,go_sem,q0,q1,q2,q3,q4]) rfl hR
 ·have x1:(ce != 0) = true:=by simp [h0]
  have H0:=zQ9 h0
  clear h0 hio
  go_upto_region 3 with (go_at_call 18;(with_reducible refine hck.mono ?_);rintro e w1 ⟨rfl,hb1⟩;replace HB:=zQ9 (HB.out.step hb1);clear hb1 c0 c1 c2 c3 c4 hlp)
  obtain ⟨z0,z1,z2,z3,z4⟩:=j0i HB.out.2.1
  obtain ⟨f0,f1,f2,f3,f4⟩:=zA9 (frz HB.out.2.1 0) (zA9 (frz HB.out.2.1 1) (zA9 (frz HB.out.2.1 2) (zA9 (frz HB.out.2.1 3) (frz HB.out.2.1 4))))
  have hl1:=j0a HB.out.2.1
  clear hck
  go_wp2_with fail
  obtain ⟨Z,hZ⟩:∃ Z,Z = (((((w1.setCell ⟨p + 1,0,none⟩ (.int .i64 0)).setCell ⟨p + 1,1,none⟩ (.int .i64 0)).setCell ⟨p + 1,2,none⟩ (.int .i64 0)).setCell ⟨p + 1,3,none⟩ (.int .i64 0)).setCell ⟨p + 1,4,none⟩ (.int .i64 0)):=⟨_,rfl⟩
  rw [← hZ]
  have he:sumE b o = ce:=by unfold sumE;rw [← HCE.out.1,if_pos H0.out]
  obtain ⟨bZ,hR⟩:=HF.out w1 ce ⟨0,0,0,0,0⟩ HB.out he (by unfold sumR;rw [he,if_neg H0.out]) Z hZ
  obtain ⟨q0,q1,q2,q3,q4⟩:=j0i bZ
  clear hZ z0 z1 z2 z3 z4 f0 f1 f2 f3 f4
  exact bodyPost_ret (v:=.tuple #[.agg #[.int .i64 0,.int .i64 0,.int .i64 0,.int .i64 0,.int .i64 0],.int .i64 ce]) (by simp [results,Tryz.f16,go_sem,q0,q1,q2,q3,q4]) rfl hR
end Go.Proofs.YtmennjmjakdkcaaGreat
