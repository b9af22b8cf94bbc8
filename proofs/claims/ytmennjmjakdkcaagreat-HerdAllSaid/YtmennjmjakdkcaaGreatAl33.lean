/- HerdAll 33: Truths. -/
import Derived.Test.YtmennjmjakdkcaaGreatAl30
import Derived.Test.YtmennjmjakdkcaaGreatAl31
import Derived.Test.YtmennjmjakdkcaaGreatAl32
namespace Go.Proofs.YtmennjmjakdkcaaGreat
open Go.RowKit
set_option linter.unusedVariables false
set_option linter.unusedSimpArgs false
set_option maxRecDepth 400000 in
set_option maxHeartbeats 20000000 in
theorem truths_step (b:Hb) (hok:HeOk b.t b.l b.ks b.hs b.ds) (deed owner:Int) (m:Nat) (IH:∀ m',m = m' + 1→TruC b deed owner m'):TruC b deed owner m:=by
 intro i him z gs Ag cg v E w hgs hbd hgc hgm hI hEl
 obtain ⟨Av,cv,rfl,-,hEc,hEm⟩:=hI.own.form
 have hEb:E.length < 1838265625:=by
  have h1:0 < 35 ^ m:=Nat.pow_pos (by decide)
  have h2:35 ^ 6 = 1838265625:=by decide
  omega
 obtain ⟨w0,hw0⟩:∃ W,W = w.alloc b.obj:=⟨_,rfl⟩
 obtain ⟨BB,hBB⟩:∃ B,B = w.heap.size:=⟨_,rfl⟩
 have hb0:Below w.heap.size w w0:=by rw [hw0];exact bal0 _ _
 have HV:=Lib.hid (show ∀ k',(Value.slice Av E.length cv).ownBlock = some k'→k' < BB from fun k' e => by rw [hBB];exact hI.lt k' e)
 have bx0:w0.heap[BB]? = some b.obj:=by rw [hw0,hBB];exact alloc_at rfl
 have hI0:=hI.below hb0
 have hd6:=hok.d6
 have hn5:=hok.n5
 have hf3:=hok.f3
 obtain ⟨nf,hnf⟩:∃ nf,nf = gs.length:=⟨_,rfl⟩
 have hnfk:nf = b.ks.length:=by rw [hnf];exact hgs.l
 have HC:=Lib.hid (And.intro hgs (And.intro hbd (And.intro hI0 (And.intro hb0 (And.intro bx0 (And.intro hnf (And.intro hnfk (And.intro him (And.intro hEl hok)))))))))
 have HIH:=Lib.hid IH
 rw [← hnf] at hgc ⊢
 have hnf3:nf ≤ 3:=by omega
 have hi6:i ≤ 6:=by omega
 clear hgs hbd hI hI0 hb0 bx0 hnf hnfk hEl hok IH him
 unfold Hb.v
 go_enter Tryz.func28,Tryz.ntmps28
 go_upto_region 2 with (fail)
 rw [← hw0,← hBB]
 clear hw0 hBB
 go_loopg [13] nf (fun g v13 wr => ∃ k:Nat,k + g = nf∧v13 = .int .i64 k∧(∀ f,f < k→∀ x ∈ gs.getD f [],0 ≤ x)∧w0 = wr)
 case atStart => exact ⟨0,by omega,rfl,fun f hf => by omega,rfl⟩
 case round =>
  obtain ⟨k,hk,rfl,hnn,rfl⟩:=hrel
  by_cases hlt:k < nf
  ·obtain ⟨b1,o1,B1,row,c1,rfl,hb1,hrow,y1,hri,hrc,hrm,-⟩:=GridZ.get HC.out.2.2.1.at.1 (k:=k) (by rw [← HC.out.2.2.2.2.2.1];exact hlt)
   have hrl:=HC.out.1.r row (List.mem_of_getElem? hrow)
   have hrg:gs.getD k [] = row:=by rw [List.getD_eq_getElem?_getD,hrow];rfl
   obtain ⟨nl,hnl⟩:∃ nl,nl = row.length:=⟨_,rfl⟩
   rw [← hnl] at y1 hri hrc
   have hnl5:nl ≤ 5:=by omega
   have i1:(k:Int) < (nf:Int):=by omega
   have HK:=Lib.hid (And.intro hk (And.intro hnn (And.intro hrow (And.intro hri (And.intro hrg (And.intro hrl hnl))))))
   clear hk hnn hrow hri hrg hrl hnl
   go_upto_region 5 with (fail)
   obtain ⟨go,hgo⟩:∃ go,go = gk:=⟨_,rfl⟩
   subst hgo
   go_loopg [14] nl (fun g v14 wr => ∃ o:Nat,o + g = nl∧v14 = .int .i64 o∧(∀ x ∈ row.take o,0 ≤ x)∧w0 = wr)
   case atStart => exact ⟨0,by omega,rfl,fun x hx => by simp at hx,rfl⟩
   case round =>
    obtain ⟨o,ho,rfl,hnn,rfl⟩:=hrel
    by_cases hlo:o < nl
    ·obtain ⟨b2,o2,x,rfl,hb2,hx,y2⟩:=Ints.get HK.out.2.2.2.1 hlo
     have i2:(o:Int) < (nl:Int):=by omega
     have HO:=Lib.hid (And.intro ho (And.intro hnn hx))
     clear ho hnn hx
     by_cases hneg:x < 0
     ·have HNG:=Lib.hid hneg
      go_wp2_with fail
      go_ret
      refine ⟨_,rfl,?_⟩
      rw [trG_no fun h => by have:=nnG_iff.1 h row (List.mem_of_getElem? HK.out.2.2.1) x (List.mem_of_getElem? HO.out.2.2);have:=HNG.out;omega]
      exact TruE.before HC.out.2.2.2.1 (TruE.refl HC.out.2.2.1.own)
     ·go_wp2_with fail
      go_roundg (gk - 1)
      case measure => have:=HO.out.1;omega
      case rel =>
       refine ⟨o + 1,by have:=HO.out.1;omega,by go_num,fun y hy => ?_,rfl⟩
       rw [List.take_add_one,HO.out.2.2] at hy
       rcases List.mem_append.1 hy with hy | hy
       ·exact HO.out.2.1 y hy
       ·rw [show y = x by simpa using hy];omega
    ·obtain rfl:o = nl:=by omega
     have HO:=Lib.hid (And.intro ho hnn)
     clear ho hnn
     go_wp2_with fail
     go_roundg (go - 1)
     case measure => have:=HK.out.1;omega
     case rel =>
      refine ⟨k + 1,by have:=HK.out.1;omega,by go_num,fun f hf y hy => ?_,rfl⟩
      rcases Nat.lt_or_ge f k with h | h
      ·exact HK.out.2.1 f h y hy
      ·obtain rfl:f = k:=by omega
       rw [HK.out.2.2.2.2.1] at hy
       exact HO.out.2 y (by rw [List.take_of_length_le (by have:=HK.out.2.2.2.2.2.2;omega)];exact hy)
  ·obtain rfl:k = nf:=by omega
   have hnnG:nnG gs = true:=nnG_iff.2 fun r hr y hy => by
    obtain ⟨f,hf,e⟩:=List.mem_iff_getElem.1 hr
    exact hnn f (by rw [HC.out.2.2.2.2.2.1];exact hf) y (by rw [List.getD_eq_getElem?_getD,List.getElem?_eq_getElem hf,Option.getD_some,e];exact hy)
   have HN:=Lib.hid hnnG
   obtain ⟨c0,c1,c2,c3,c4⟩:=blk5c HC.out.2.2.2.2.1
   have hlB:=heap_lt HC.out.2.2.2.2.1
   clear hnn hnnG hk hlt
   rcases Nat.eq_zero_or_pos m with hm | hm
   ·skip
    have him:i = b.ds.length:=by have:=HC.out.2.2.2.2.2.2.2.1;omega
    have h9:((i:Int) == (b.ds.length:Int)) = true:=by rw [him];simp
    have HM:=Lib.hid (And.intro hm him)
    clear hm him
    go_upto_region 12 with (fail)
    go_loopg [15,16] k (fun g v15 v16 wr => ∃ q:Nat,q + g = k∧v16 = .int .i64 q∧OwnI wr w0.heap.size v15 (gs.take q).flatten∧Below w0.heap.size w0 wr)
    case atStart => exact ⟨0,by omega,rfl,Own.nil_,Below.refl _ _⟩
    case round =>
     obtain ⟨q,hq,rfl,hown,hB⟩:=hrel
     by_cases hlq:q < k
     ·obtain ⟨b1,o1,B1,row,c1,rfl,hb1,hrow,y1,hri,hrc,hrm,hrz⟩:=GridZ.get (HC.out.2.2.1.below hB).at.1 (k:=q) (by rw [← HC.out.2.2.2.2.2.1];exact hlq)
      have hrl:=HC.out.1.r row (List.mem_of_getElem? hrow)
      have hll:(gs.take q).flatten.length ≤ 15:=by
       refine Nat.le_trans (take_flat_len HC.out.1.r q) ?_
       rw [← HC.out.2.2.2.2.2.1]
       exact Nat.le_trans (Nat.mul_le_mul hnf3 hn5) (by decide)
      have i1:(q:Int) < (k:Int):=by omega
      have hzB:=hB.size
      have hl5:row.length ≤ 5:=by omega
      have HQ:=Lib.hid (And.intro hq (And.intro hown (And.intro hB (And.intro hrow (And.intro hri hrz)))))
      clear hq hown hB hrow hri hrz hrl
      go_wp2_with (at_builtin;refine wp_apps okInt rfl (.tmp 61) (.tmp 65) rfl w0.heap.size _ (gs.take q).flatten B1 row.length c1 row rfl rfl HQ.out.2.2.2.2.1 HQ.out.2.2.2.2.2 lenInt one_eInt HQ.out.2.1 ?_ ?_ ?_ ?_;(omega);(omega);(omega);intro v5 w5 hown5 hgr5 hb5;have H5:=Lib.hid (And.intro hown5 hb5);clear hown5 hgr5 hb5)
      go_roundg (gk - 1)
      case measure => have:=HQ.out.1;omega
      case rel => exact ⟨q + 1,by have:=HQ.out.1;omega,by go_num,by rw [take_flat HQ.out.2.2.2.1];exact H5.out.1,HQ.out.2.2.1.trans H5.out.2⟩
     ·obtain rfl:q = k:=by omega
      rw [List.take_of_length_le (by rw [HC.out.2.2.2.2.2.1];exact Nat.le_refl _)] at hown
      obtain ⟨A5,c5,rfl,hi5,hc5,hm5⟩:=hown.form lenInt
      obtain ⟨nL,hnL⟩:∃ n,n = gs.flatten.length:=⟨_,rfl⟩
      rw [← hnL] at hown hi5 hc5 ⊢
      have HNL:=Lib.hid hnL
      clear hnL
      obtain ⟨w1,hw1⟩:∃ W,W = wr:=⟨_,rfl⟩
      rw [← hw1] at hown hB hi5 ⊢
      have hI1:=HC.out.2.2.1.below hB
      have HL:=Lib.hid (And.intro hown (And.intro hB (And.intro hi5 hI1)))
      clear hown hB hi5 hI1 hw1 hq hlq c0 c1 c2 c3 c4 hlB h9
      go_upto_region 16 with (fail)
      go_loopg [17] E.length (fun g v17 wr => ∃ j:Nat,j + g = E.length∧v17 = .int .i64 j∧(∀ j',j' < j→E[j']? ≠ some gs.flatten)∧Below w1.heap.size w1 wr)
      case atStart => exact ⟨0,by omega,rfl,fun j hj => by omega,Below.refl _ _⟩
      case round =>
       obtain ⟨j,hj,rfl,hno,hB⟩:=hrel
       by_cases hlj:j < E.length
       ·obtain ⟨b2,o2,cap,B2,l2,c2,ev,hl2,y2,hi2,hc2,hm2,-⟩:=(HL.out.2.2.2.own.below hB (Nat.le_refl _)).get hlj
        cases ev
        have hsm:=sameInts_any B2 l2.length c2 l2 A5 nL c5 gs.flatten wr hi2 (HL.out.2.2.1.below hB (Nat.le_refl _)) (Nat.le_trans hc2 hm2) (Nat.le_trans hc5 hm5)
        have i1:(j:Int) < (E.length:Int):=by omega
        have HJ:=Lib.hid (And.intro hj (And.intro hno (And.intro hB hl2)))
        clear hj hno hB hl2 hi2
        cases hsl:sameL l2 gs.flatten
        ·rw [hsl] at hsm
         have HSL:=Lib.hid hsl
         clear hsl
         go_wp2_with (go_at_call 48;(with_reducible refine hsm.mono ?_);rintro e w9 ⟨rfl,hb9⟩)
         have HB9:=Lib.hid hb9
         clear hb9
         go_roundg (gk - 1)
         case measure => have:=HJ.out.1;omega
         case rel =>
          have hjE:=HJ.out.1
          refine ⟨j + 1,by omega,by go_num,fun j' hj' => ?_,HJ.out.2.2.1.trans (HB9.out.mono HJ.out.2.2.1.size)⟩
          rcases Nat.lt_or_ge j' j with h | h
          ·exact HJ.out.2.1 j' h
          ·obtain rfl:j' = j:=by omega
           rw [HJ.out.2.2.2]
           intro e
           have:=HSL.out
           unfold sameL at this
           simp at this
           exact this (Option.some.inj e)
        ·rw [hsl] at hsm
         have HSL:=Lib.hid hsl
         clear hsl
         go_wp2_with (go_at_call 48;(with_reducible refine hsm.mono ?_);rintro e w9 ⟨rfl,hb9⟩)
         go_ret
         refine ⟨_,rfl,?_⟩
         have hin:gs.flatten ∈ E:=by
          have:=HSL.out
          unfold sameL at this
          rw [← of_decide_eq_true this]
          exact List.mem_of_getElem? HJ.out.2.2.2
         have heq:addsE E (trG b.t b.l deed owner (b.ds.drop i) i gs) = E:=by
          rw [HM.out.2,List.drop_length]
          unfold trG
          rw [if_pos HN.out]
          show addE E gs = E
          unfold addE
          rw [if_pos hin]
         rw [heq]
         exact TruE.before HC.out.2.2.2.1 (TruE.before HL.out.2.1 ((TruE.refl HL.out.2.2.2.own).then (HJ.out.2.2.1.trans (hb9.mono HJ.out.2.2.1.size))))
       ·obtain rfl:j = E.length:=by omega
        have hnot:gs.flatten ∉ E:=fun h => by
         obtain ⟨j',hj',e⟩:=List.mem_iff_getElem.1 h
         exact hno j' hj' (by rw [List.getElem?_eq_getElem hj',e])
        have hI3:=(HL.out.2.2.2.below hB).below (bal0 wr (Obj.cells #[Value.slice A5 nL c5] 25))
        obtain ⟨mv,ho1,ho2⟩:=hI3.own
        have hml:mv.length = E.length:=ho2.1
        have hzw:=hI3.zw
        have hu:OwnI (wr.alloc (Obj.cells #[Value.slice A5 nL c5] 25)) z (.slice A5 nL c5) gs.flatten:=((HL.out.1.below hB (Nat.le_refl _)).alloc _).mono HC.out.2.2.1.zw
        have heq:addsE E (trG b.t b.l deed owner (b.ds.drop i) i gs) = E ++ [gs.flatten]:=by
         rw [HM.out.2,List.drop_length]
         unfold trG
         rw [if_pos HN.out]
         show addE E gs = _
         unfold addE
         rw [if_neg hnot]
        have HF:=Lib.hid (And.intro hI3 (And.intro ho1 (And.intro ho2 (And.intro hu (And.intro heq hB)))))
        have hmb:mv.length < 4294967296:=by omega
        clear hI3 ho1 ho2 hu heq hB hnot hno hj hml
        go_wp2_with (at_builtin;refine wp_appL okInts rfl (.tmp 80) (.tmp 82) rfl z (.slice Av E.length cv) mv (.slice A5 nL c5) #[.slice A5 nL c5] wr.heap.size rfl rfl (heap_alloc_new wr _) rfl rfl (one_eVal (by rfl)) HF.out.2.1 hmb (by decide) hzw ?_;intro g4 c4 w4 hown4 hgr4 hl4;have H4:=Lib.hid (And.intro hown4 (And.intro hgr4 hl4));clear hown4 hgr4 hl4)
        go_ret
        refine ⟨_,rfl,?_⟩
        rw [HF.out.2.2.2.2.1]
        refine TruE.before HC.out.2.2.2.1 (TruE.before HL.out.2.1 (TruE.before HF.out.2.2.2.2.2 (TruE.before (bal0 wr _) ⟨OwnG.snoc HF.out.2.1 HF.out.2.2.1 HF.out.2.2.2.1 H4.out.1 H4.out.2.1,H4.out.2.1,fun k hk => ?_⟩)))
        rcases H4.out.2.2 with h | h
        ·exact .inl (h.trans hk)
        ·right
         have:g4 = k:=by simpa [Value.ownBlock] using hk
         omega
   ·have him:i < b.ds.length:=by have:=HC.out.2.2.2.2.2.2.2.1;omega
    have h9:((i:Int) == (b.ds.length:Int)) = false:=beq_eq_false_iff_ne.2 (by omega)
    obtain ⟨m',rfl⟩:∃ m',m = m' + 1:=⟨m - 1,by omega⟩
    obtain ⟨d,hd⟩:∃ d,b.ds[i]? = some d:=⟨_,List.getElem?_eq_getElem him⟩
    have HM:=Lib.hid (And.intro hd (HIH.out m' rfl))
    have hdI:=HC.out.2.2.2.2.2.2.2.2.2.dI d (List.mem_of_getElem? hd)
    have hdE:=HC.out.2.2.2.2.2.2.2.2.2.dE d (List.mem_of_getElem? hd)
    have how:=deedE_ow hdE
    obtain ⟨b4,o4,d',eAd,hb4,hd',p0,p1,p2,p3,p4,p5,p6,p7,p8,p9,p10,p11⟩:=Deeds.get HC.out.2.2.1.at.2.d him
    rw [hd] at hd'
    cases hd'
    have i1:(i:Int) < (b.ds.length:Int):=by omega
    have HD:=Lib.hid (And.intro hdI (And.intro hdE how))
    rw [eAd] at c4
    clear hm hd hdI hdE how eAd
    go_upto_region 22 with (fail)
    obtain ⟨w1,hw1⟩:∃ W,W = w0.alloc (dObj d):=⟨_,rfl⟩
    obtain ⟨DK,hDK⟩:∃ D,D = w0.heap.size:=⟨_,rfl⟩
    rw [show w0.alloc (Obj.cells #[Value.int .i64 d.kind,.int .i64 d.flock,.int .i64 d.owner,.int .i64 d.other,.int .i64 d.tof,.int .i64 d.many,.int .i64 d.err,.int .i64 d.s.n,.bool d.s.l,.bool d.s.r,.int .i64 d.s.b,.int .i64 d.s.p] 33) = w1 from hw1.symm,← hDK]
    have hb1:Below w0.heap.size w0 w1:=by rw [hw1];exact bal0 _ _
    have hDB:BB < DK:=by rw [hDK];exact heap_lt HC.out.2.2.2.2.1
    have hd1:w1.heap[DK]? = some (dObj d):=by rw [hw1,hDK];exact alloc_at rfl
    have hI1:=HC.out.2.2.1.below hb1
    have hB1:=bheap HC.out.2.2.2.2.1 hb1 (Nat.le_refl _)
    have hcg:=copyGrid_any Ag gs.length cg gs w1 hI1.at.1 (by have:=HC.out.2.2.2.2.2.1;omega) (fun r hr => by have:=HC.out.1.r r hr;omega)
    rw [← HC.out.2.2.2.2.2.1] at hcg
    have H1:=Lib.hid (And.intro hb1 (And.intro hd1 (And.intro hI1 hB1)))
    clear hw1 hDK hb1 hd1 hI1 hB1 c0 c1 c2 c3 c4 hlB p0 p1 p2 p3 p4 p5 p6 p7 p8 p9 p10 p11 h9
    go_upto_region 23 with (go_at_call 53;refine hcg.mono ?_;rintro e w2 ⟨⟨vn,rfl,hen⟩,hb2⟩)
    have hcall:∀ (gs':List (List Int)) (An:Option Addr) (cn:Nat) (v':Value) (E':List (List Int)) (W:World),GSh b.l.length b.ks.length gs'→BdG (40 + 20 * (i:Int)) gs'→k ≤ cn→cn ≤ maxLen→TruI b z gs' An v' E' W→E'.length + 35 ^ m' ≤ 35 ^ 6 →
     Calls Tryz.prog 28 #[b.v,.int .i64 ((i:Int) + 1),.slice An k cn,.int .i64 deed,.int .i64 owner,v'] W (TruR z v' (addsE E' (trG b.t b.l deed owner (b.ds.drop (i + 1)) (i + 1) gs')) W):=by
     intro gs' An cn v' E' W a1 a2 a3 a4 a5 a6
     have hk':gs'.length = k:=by rw [a1.l,HC.out.2.2.2.2.2.2.1]
     have h:=HM.out.2 (i + 1) (by have:=HC.out.2.2.2.2.2.2.2.1;omega) z gs' An cn v' E' W a1 (a2.mono (by omega)) (by omega) a4 a5 a6
     rw [hk'] at h
     exact h
    unfold Hb.v at hcall
    have hE35:E.length + 35 ^ m' * 35 ≤ 35 ^ 6:=by have:=HC.out.2.2.2.2.2.2.2.2.1;rw [Nat.pow_succ] at this;exact this
    obtain ⟨An,cn,rfl,-,hcn1,hcn2⟩:=hen.ownG.form
    rw [← HC.out.2.2.2.2.2.1] at hen hcn1 ⊢
    obtain ⟨fn,hfn⟩:=Int.eq_ofNat_of_zero_le HD.out.1.f.1
    have hfk:fn < k:=by have:=HD.out.1.f.2;have:=HC.out.2.2.2.2.2.2.1;omega
    have hfg:fn < gs.length:=by rw [← HC.out.2.2.2.2.2.1];exact hfk
    have hrl:(gs.getD fn []).length = b.l.length:=HC.out.1.row (by have:=HC.out.2.2.2.2.2.2.1;omega)
    have HX:=Lib.hid (And.intro hcall (And.intro hE35 (And.intro hen (And.intro hb2 (And.intro hfn (And.intro hfg hrl))))))
    have hd2:=bheap H1.out.2.1 hb2 (Nat.le_refl _)
    obtain ⟨z0,z1,z2,z3,z4,z5,z6,z7,z8,z9,z10,z11⟩:=blkD hd2
    have hlD:=heap_lt hd2
    have hm0:=HD.out.1.m
    rw [hfn] at z1
    clear hcall hE35 hen hb2 hfn hfg hrl hd2 hcg
    by_cases h1:d.kind = 1
    ·skip
     have ho:=HD.out.2.2.o (.inl h1)
     obtain ⟨on,hon⟩:=Int.eq_ofNat_of_zero_le ho.1
     have hol:on < b.l.length:=by omega
     rw [h1] at z0
     rw [hon] at z2
     obtain ⟨bn,on0,cn',g,cg',e,yr,hg1,hg2,hgz,hgl,yc,fz,-⟩:=HX.out.2.2.1.at (f:=fn) (o:=on) HX.out.2.2.2.2.2.1 (by rw [HX.out.2.2.2.2.2.2];exact hol)
     injection e with e1 e2 e3
     subst e1 e3
     rw [HX.out.2.2.2.2.2.2] at yr hg1
     obtain ⟨x,hx⟩:∃ x,x = getG gs fn on:=⟨_,rfl⟩
     rw [show (gs.getD fn []).getD on 0 = x from hx.symm] at yc
     have hxb:-140 ≤ x∧x ≤ 140:=by
      have h:=getG_bd HC.out.2.1 (by omega) fn on
      rw [← hx] at h
      omega
     have hm20:d.many ≤ 20:=HD.out.1.s (by omega)
     have i2:(fn:Int) < (k:Int):=by omega
     have i3:(on:Int) < (b.l.length:Int):=by omega
     have hbn:bn < w2.heap.size:=cell_lt yr
     have HO:=Lib.hid (And.intro hon (And.intro hol (And.intro hx (And.intro hgz (And.intro h1 yr)))))
     clear hon hx e2 h1 hgz
     go_upto_region 25 with (fail)
     refine wp_region_quiet_tail (C:=fun w' => ∃ n,w' = w2.drewN n) 19 (by kernel_rfl) (by kernel_rfl) ⟨1,rfl⟩ ?_
     simp only [List.take_succ_cons,List.take_zero,List.drop_succ_cons,List.drop_zero]
     repeat (quiet_step (fail))
     refine wpQuiet_nil ?_
     intro _ hw'
     obtain ⟨nq,hw''⟩:=hw'
     subst hw''
     go_upto_region 26 with (fail)
     obtain ⟨W3,hW3⟩:∃ W,W = (w2.drewN nq).setCell ⟨g,on,none⟩ (.int .i64 (x + d.many)):=⟨_,rfl⟩
     rw [← hW3]
     have hE3:EndG W3 w1.heap.size (.slice (some ⟨bn,on0,none⟩) k cn) (addG gs fn on d.many):=by
      rw [hW3]
      exact HX.out.2.2.1.turn HX.out.2.2.2.2.2.1 HX.out.2.2.2.2.2.2 HO.out.2.1 HO.out.2.2.1 HO.out.2.2.2.2.2
     have hB13:Below w1.heap.size w1 W3:=by rw [hW3];exact (below_drewN HX.out.2.2.2.1 nq).setCell HO.out.2.2.2.1 _
     have hgs':=HC.out.1.add (f:=fn) (by have:=HC.out.2.2.2.2.2.2.1;omega) on d.many
     have hI3:=H1.out.2.2.1.next hB13 (by rw [show (addG gs fn on d.many).length = k by rw [addG_len];exact HC.out.2.2.2.2.2.1.symm];exact hE3)
     have hcl:=HX.out.1 (addG gs fn on d.many) (some ⟨bn,on0,none⟩) cn (.slice Av E.length cv) E W3 hgs' ((HC.out.2.1.add (K:=20) (by omega) (by omega) (by omega)).mono (by omega)) (by omega) hcn2 hI3 (by have:=HX.out.2.1;have h9:0 < 35 ^ m':=Nat.pow_pos (by decide);omega)
     have heq:=trG_one (t:=b.t) (l:=b.l) (deed:=deed) (owner:=owner) HN.out HM.out.1 (g:=addG gs fn on d.many) (by unfold stepG;rw [if_pos HO.out.2.2.2.2.1,HX.out.2.2.2.2.1,HO.out.1];rfl)
     obtain ⟨c0,c1,c2,c3,c4⟩:=blk5c (bheap H1.out.2.2.2 hB13 (Nat.le_refl _))
     have hlB:=heap_lt (bheap H1.out.2.2.2 hB13 (Nat.le_refl _))
     have HF:=Lib.hid (And.intro heq hB13)
     clear hW3 hE3 hB13 hgs' hI3 heq yr yc fz z0 z1 z2 z3 z4 z5 z6 z7 z8 z9 z10 z11 hlD hbn hgl
     go_wp2_with (go_at_call 28;(with_reducible refine hcl.mono ?_);rintro e w4 ⟨v4,rfl,hE4⟩;have HE4:=Lib.hid hE4;clear hE4)
     go_ret
     refine ⟨_,rfl,?_⟩
     rw [HF.out.1]
     exact TruE.before HC.out.2.2.2.1 (TruE.before H1.out.1 (TruE.before HF.out.2 HE4.out))
    ·by_cases h3:d.kind = 3
     ·skip
      have ho:=HD.out.2.2.o (.inr (.inr h3))
      obtain ⟨on,hon⟩:=Int.eq_ofNat_of_zero_le ho.1
      have hol:on < b.l.length:=by omega
      rw [h3] at z0
      rw [hon] at z2
      obtain ⟨bn,on0,cn',g,cg',e,yr,hg1,hg2,hgz,hgl,yc,fz,-⟩:=HX.out.2.2.1.at (f:=fn) (o:=on) HX.out.2.2.2.2.2.1 (by rw [HX.out.2.2.2.2.2.2];exact hol)
      injection e with e1 e2 e3
      subst e1 e3
      rw [HX.out.2.2.2.2.2.2] at yr hg1
      obtain ⟨x,hx⟩:∃ x,x = getG gs fn on:=⟨_,rfl⟩
      rw [show (gs.getD fn []).getD on 0 = x from hx.symm] at yc
      have hxb:-140 ≤ x∧x ≤ 140:=by
       have h:=getG_bd HC.out.2.1 (by omega) fn on
       rw [← hx] at h
       omega
      have hm20:d.many ≤ 20:=HD.out.1.s (by omega)
      have i2:(fn:Int) < (k:Int):=by omega
      have i3:(on:Int) < (b.l.length:Int):=by omega
      have hbn:bn < w2.heap.size:=cell_lt yr
      have HO:=Lib.hid (And.intro hon (And.intro hol (And.intro hx (And.intro hgz (And.intro h3 yr)))))
      clear hon hx e2 h3 hgz
      go_upto_region 28 with (fail)
      refine wp_region_quiet_tail (C:=fun w' => ∃ n,w' = w2.drewN n) 19 (by kernel_rfl) (by kernel_rfl) ⟨1,rfl⟩ ?_
      simp only [List.take_succ_cons,List.take_zero,List.drop_succ_cons,List.drop_zero]
      repeat (quiet_step (fail))
      refine wpQuiet_nil ?_
      intro _ hw'
      obtain ⟨nq,hw''⟩:=hw'
      subst hw''
      go_upto_region 29 with (fail)
      obtain ⟨W3,hW3⟩:∃ W,W = (w2.drewN nq).setCell ⟨g,on,none⟩ (.int .i64 (x - d.many)):=⟨_,rfl⟩
      rw [← hW3]
      have hE3:EndG W3 w1.heap.size (.slice (some ⟨bn,on0,none⟩) k cn) (addG gs fn on (-d.many)):=by
       rw [hW3,Int.sub_eq_add_neg]
       exact HX.out.2.2.1.turn HX.out.2.2.2.2.2.1 HX.out.2.2.2.2.2.2 HO.out.2.1 HO.out.2.2.1 HO.out.2.2.2.2.2
      have hB13:Below w1.heap.size w1 W3:=by rw [hW3];exact (below_drewN HX.out.2.2.2.1 nq).setCell HO.out.2.2.2.1 _
      have hgs':=HC.out.1.add (f:=fn) (by have:=HC.out.2.2.2.2.2.2.1;omega) on (-d.many)
      have hI3:=H1.out.2.2.1.next hB13 (by rw [show (addG gs fn on (-d.many)).length = k by rw [addG_len];exact HC.out.2.2.2.2.2.1.symm];exact hE3)
      have hcl:=HX.out.1 (addG gs fn on (-d.many)) (some ⟨bn,on0,none⟩) cn (.slice Av E.length cv) E W3 hgs' ((HC.out.2.1.add (K:=20) (by omega) (by omega) (by omega)).mono (by omega)) (by omega) hcn2 hI3 (by have:=HX.out.2.1;have h9:0 < 35 ^ m':=Nat.pow_pos (by decide);omega)
      have heq:=trG_one (t:=b.t) (l:=b.l) (deed:=deed) (owner:=owner) HN.out HM.out.1 (g:=addG gs fn on (-d.many)) (by unfold stepG;rw [if_neg (by have:=HO.out.2.2.2.2.1;omega),if_pos HO.out.2.2.2.2.1,HX.out.2.2.2.2.1,HO.out.1];rfl)
      obtain ⟨c0,c1,c2,c3,c4⟩:=blk5c (bheap H1.out.2.2.2 hB13 (Nat.le_refl _))
      have hlB:=heap_lt (bheap H1.out.2.2.2 hB13 (Nat.le_refl _))
      have HF:=Lib.hid (And.intro heq hB13)
      clear hW3 hE3 hB13 hgs' hI3 heq yr yc fz z0 z1 z2 z3 z4 z5 z6 z7 z8 z9 z10 z11 hlD hbn hgl
      go_wp2_with (go_at_call 28;(with_reducible refine hcl.mono ?_);rintro e w4 ⟨v4,rfl,hE4⟩;have HE4:=Lib.hid hE4;clear hE4)
      go_ret
      refine ⟨_,rfl,?_⟩
      rw [HF.out.1]
      exact TruE.before HC.out.2.2.2.1 (TruE.before H1.out.1 (TruE.before HF.out.2 HE4.out))
     ·by_cases h6:d.kind = 6
      ·skip
       obtain ⟨b1,o1,B1,row,c1,rfl,hb1',hrow,y1,hri,hrc,hrm,-⟩:=GridZ.get (H1.out.2.2.1.below HX.out.2.2.2.1).at.1 HX.out.2.2.2.2.2.1
       have hrg:gs.getD fn [] = row:=by rw [List.getD_eq_getElem?_getD,hrow];rfl
       have hrn:row.length = b.l.length:=by rw [← hrg];exact HX.out.2.2.2.2.2.2
       have hrb:∀ x ∈ row,0 ≤ x∧x ≤ 140:=fun x hx => by
        have h1:=nnG_iff.1 HN.out row (List.mem_of_getElem? hrow) x hx
        have h2:=HC.out.2.1 row (List.mem_of_getElem? hrow) x hx
        omega
       have htt:=total_any B1 row.length c1 row w2 hri (by omega) (fun x hx => by have:=hrb x hx;omega)
       obtain ⟨S,hS⟩:∃ S,S = row.sum:=⟨_,rfl⟩
       have hSb:0 ≤ S∧S ≤ 700:=by
        rw [hS,sum5 (by omega)]
        have hb':∀ o,0 ≤ row.getD o 0∧row.getD o 0 ≤ 140:=fun o => by
         rw [List.getD_eq_getElem?_getD]
         cases ho:row[o]? with
         | none => simp
         | some y => exact hrb y (List.mem_of_getElem? ho)
        have:=hb' 0;have:=hb' 1;have:=hb' 2;have:=hb' 3;have:=hb' 4
        omega
       rw [← hS] at htt
       obtain ⟨nr,hnr⟩:∃ n,n = row.length:=⟨_,rfl⟩
       rw [← hnr] at y1 htt
       have he:=HD.out.1.e
       have hes1:0 ≤ d.err * S:=Int.mul_nonneg he.1 hSb.1
       have hes2:d.err * S ≤ 20 * 700:=Int.mul_le_mul he.2 hSb.2 hSb.1 (by decide)
       have i2:(fn:Int) < (k:Int):=by omega
       rw [h6] at z0
       have HS:=Lib.hid (And.intro h6 (And.intro hS hrg))
       clear hrow hri hrg hrn hrb hS hnr h6 h1 h3
       go_upto_region 35 with (go_at_call 32;(with_reducible refine htt.mono ?_);rintro e wt ⟨rfl,hwt⟩;rw [← hwt];clear hwt wt)
       clear htt
       have hno:∀ (hb:cntB d S = false),addsE E (trG b.t b.l deed owner (b.ds.drop i) i gs) = E:=fun hb => by
        rw [trG_gen HN.out HM.out.1]
        unfold stepG
        rw [if_neg (by rw [HS.out.1];decide),if_neg (by rw [HS.out.1];decide),if_neg (by rw [HS.out.1];decide),if_pos HS.out.1,HX.out.2.2.2.2.1,Int.toNat_natCast,HS.out.2.2,← HS.out.2.1,if_neg (by rw [hb];decide)]
        rfl
       have HNO:=Lib.hid hno
       clear hno
       by_cases ha:100 * (d.many - S) ≤ d.err * S
       ·by_cases hb:100 * (S - d.many) ≤ d.err * S
        ·have hst:stepG b.t b.l deed owner i d gs = [gs]:=by
          unfold stepG
          rw [if_neg (by rw [HS.out.1];decide),if_neg (by rw [HS.out.1];decide),if_neg (by rw [HS.out.1];decide),if_pos HS.out.1,HX.out.2.2.2.2.1,Int.toNat_natCast,HS.out.2.2,← HS.out.2.1,if_pos (by unfold cntB;rw [decide_eq_true ha,decide_eq_true hb];rfl)]
         have heq:=trG_one (t:=b.t) (l:=b.l) (deed:=deed) (owner:=owner) HN.out HM.out.1 hst
         have hI3:=H1.out.2.2.1.next HX.out.2.2.2.1 (by rw [← HC.out.2.2.2.2.2.1];exact HX.out.2.2.1)
         have hcl:=HX.out.1 gs An cn (.slice Av E.length cv) E w2 HC.out.1 (HC.out.2.1.mono (by omega)) (by omega) hcn2 hI3 (by have:=HX.out.2.1;have h9:0 < 35 ^ m':=Nat.pow_pos (by decide);omega)
         obtain ⟨c0,c1,c2,c3,c4⟩:=blk5c (bheap H1.out.2.2.2 HX.out.2.2.2.1 (Nat.le_refl _))
         have hlB:=heap_lt (bheap H1.out.2.2.2 HX.out.2.2.2.1 (Nat.le_refl _))
         have HF:=Lib.hid heq
         clear hst heq hI3
         go_wp2_with (go_at_call 28;(with_reducible refine hcl.mono ?_);rintro e w4 ⟨v4,rfl,hE4⟩;have HE4:=Lib.hid hE4;clear hE4)
         go_ret
         refine ⟨_,rfl,?_⟩
         rw [HF.out]
         exact TruE.before HC.out.2.2.2.1 (TruE.before H1.out.1 (TruE.before HX.out.2.2.2.1 HE4.out))
        ·have hcb:cntB d S = false:=by unfold cntB;rw [decide_eq_false hb,Bool.and_false]
         have HCB:=Lib.hid hcb
         clear hcb
         go_wp2_with fail
         go_ret
         refine ⟨_,rfl,?_⟩
         rw [HNO.out HCB.out]
         exact TruE.before HC.out.2.2.2.1 (TruE.before H1.out.1 ((TruE.refl H1.out.2.2.1.own).then HX.out.2.2.2.1))
       ·have hcb:cntB d S = false:=by unfold cntB;rw [decide_eq_false ha,Bool.false_and]
        have HCB:=Lib.hid hcb
        clear hcb
        go_wp2_with fail
        go_ret
        refine ⟨_,rfl,?_⟩
        rw [HNO.out HCB.out]
        exact TruE.before HC.out.2.2.2.1 (TruE.before H1.out.1 ((TruE.refl H1.out.2.2.1.own).then HX.out.2.2.2.1))
      ·have hq18:∀ k',(Value.slice Av E.length cv).ownBlock = some k'→k' < w1.heap.size:=H1.out.2.2.1.lt
       by_cases h2:d.kind = 2
       ·skip
        have ho:=HD.out.2.2.o (.inr (.inl h2))
        have hxo:=HD.out.2.2.x h2
        have hne:=HD.out.2.2.ne h2
        obtain ⟨on,hon⟩:=Int.eq_ofNat_of_zero_le ho.1
        obtain ⟨xn,hxn⟩:=Int.eq_ofNat_of_zero_le hxo.1
        have hol:on < b.l.length:=by omega
        have hxl:xn < b.l.length:=by omega
        rw [h2] at z0
        rw [hon] at z2
        rw [hxn] at z3
        have hox:on ≠ xn:=by omega
        obtain ⟨bn,on0,rfl⟩:=HX.out.2.2.1.place (f:=fn) (o:=on) HX.out.2.2.2.2.2.1 (by rw [HX.out.2.2.2.2.2.2];exact hol)
        have hend:EndG w2.drew w1.heap.size (.slice (some ⟨bn,on0,none⟩) k cn) gs:=HX.out.2.2.1.upon fun _ _ => rfl
        obtain ⟨g,cg',g2,cg2,yr,-,⟨hg1,hg2,-,-,hgz,-,hgl,-,hbn,hgg⟩,yc,fz,yc',hput⟩:=hend.two HC.out.1.r (f:=fn) (o:=on) (f':=fn) (o':=xn) HX.out.2.2.2.2.2.1 hol HX.out.2.2.2.2.2.1 hxl (.inr hox)
        obtain rfl:=hgg rfl
        obtain ⟨x,hx⟩:∃ x,x = getG gs fn on:=⟨_,rfl⟩
        obtain ⟨y,hy⟩:∃ y,y = getG gs fn xn:=⟨_,rfl⟩
        rw [← hx] at yc
        rw [← hy] at yc'
        have hxb:-140 ≤ x∧x ≤ 140:=by
         have h:=getG_bd HC.out.2.1 (by omega) fn on
         rw [← hx] at h
         omega
        have hyb:-140 ≤ y∧y ≤ 140:=by
         have h:=getG_bd HC.out.2.1 (by omega) fn xn
         rw [← hy] at h
         omega
        have hm20:0 ≤ d.many∧d.many ≤ 20:=⟨hm0.1,HD.out.1.s (by omega)⟩
        have i2:(fn:Int) < (k:Int):=by omega
        have i3:(on:Int) < (b.l.length:Int):=by omega
        have i4:(xn:Int) < (b.l.length:Int):=by omega
        obtain ⟨⟨uf,ux,ul⟩,hput2⟩:=hput (x - d.many) (-d.many) (by rw [← hx];omega)
        have hE3:=hput2 (y + d.many) d.many (by rw [hy])
        rw [← hy] at ux
        obtain ⟨V1,hV1⟩:∃ V1,V1 = w2.drew.setCell ⟨g,on,none⟩ (.int .i64 (x - d.many)):=⟨_,rfl⟩
        rw [← hV1] at uf ux ul hE3
        have hDg:DK ≠ g:=by have:=heap_lt H1.out.2.1;omega
        have hdw:w2.drew.heap[DK]? = some (dObj d):=bheap H1.out.2.1 (show Below w1.heap.size w1 w2.drew from below_drewN HX.out.2.2.2.1 1) (Nat.le_refl _)
        have hbp:V1.heap[DK]? = some (dObj d):=by rw [hV1];exact (Below.heap_setCell _ ⟨g,on,none⟩ _ _ (by show DK ≠ g;exact hDg)).trans hdw
        have HCD:=Lib.hid (fun (w':World) (hp:PS1 w2.drew V1 0 w') => (show w'.cell? ⟨DK,1,none⟩ = some (.int .i64 (fn:Int))∧w'.cell? ⟨DK,2,none⟩ = some (.int .i64 (on:Int))∧w'.cell? ⟨DK,3,none⟩ = some (.int .i64 (xn:Int))∧w'.cell? ⟨DK,5,none⟩ = some (.int .i64 d.many)∧DK < w'.heap.size from by
         have hb:w'.heap[DK]? = some (dObj d):=by
          rcases hp with h | h
          ·rw [h];exact hdw
          ·rw [h];exact hbp
         obtain ⟨-,d1,d2,d3,-,d5,-⟩:=blkD hb
         rw [HX.out.2.2.2.2.1] at d1
         rw [hon] at d2
         rw [hxn] at d3
         exact ⟨d1,d2,d3,d5,heap_lt hb⟩))
        have hB13:Below w1.heap.size w1 (V1.setCell ⟨g,xn,none⟩ (.int .i64 (y + d.many))):=by rw [hV1];exact ((below_drewN HX.out.2.2.2.1 1).setCell hgz _).setCell hgz _
        have HV1:=Lib.hid hV1
        have heq:=trG_one (t:=b.t) (l:=b.l) (deed:=deed) (owner:=owner) HN.out HM.out.1 (g:=addG (addG gs fn on (-d.many)) fn xn d.many) (by unfold stepG;rw [if_neg (by omega),if_neg (by omega),if_pos h2,HX.out.2.2.2.2.1,hon,hxn];rfl)
        have hbg:=(HC.out.2.1.add2 (f:=fn) (o:=on) (f':=fn) (o':=xn) (k:=-d.many) (k':=d.many) (K:=20) (.inr hox) (by omega) (by omega) (by omega) (by omega))
        have HO:=Lib.hid (And.intro heq (And.intro hB13 (And.intro hE3 hbg)))
        clear hon hxn hx hy h1 h2 h3 h6 hgz hV1 hbp hdw ho hxo hne hB13 hE3 heq hbg hput hput2 hend hox hgg hq18
        go_upto_region 31 with (fail)
        refine tru_sold DK bn on0 k cn w2 V1 g cg' b.l.length fn on xn x y d.many _ _ _ _ _ _ _ _ _ _ _ _ _ _ _ _ _ _ _ _ _ _ _ _ _ _ _ _ _ _ _ _ _ _ _ _ _ _ _ _ _ _ _ _ _ _ _ _ _ _ _ _ _ _ _ _ _ _ _ _ _ _ _ _ _ _ _ _ _ _ _ _ _ _ _ _ _ _ _ _ _ _ _ _ _ _ _ _ _ _ _ _ _ _ _ _ _ _ _ _ _ _ _ _ _ _ _ _ _ _ _ _ _ _ _ _ _ _ _ _ _ _ _ _ _ _ _ _ _ _ _ _ _ _ _ _ _ _ _ _ _ _ _ _ _ _ _ _ _ _ _ _ _ _ _ _ _ _ _ _ _ _ _ _ _ _ _ _ _ _ _ _ _ _ _ _ _ _ _ _ _ _ _ _ _ _ _ _ _ _ _ _ _ _ _ _ _ _ _ _ _ _ _ _ _ _ _ _ _ _ _ _ _ _ _ _ _ _ _ _ _ _ _ _ _ _ _ _ _ _ _ _ _ _ _ _ _ _ _ _ _ _ _ _ _ _ _ _ _ _ _ _ _ _ _ _ _ _ _ _ _ _ _ _ _ _ _ _ _ _ _ _ _ _ _ _ _ _ _ _ _ _ _ _ _ _ _ _ _ _ _ _ _ _ _ _ _ _ _ _ _ _ _ _ _ _ _ _ _ _ _ _ _ _ _ _ _ _ _ _ _ _ _ _ _ _ _ _ _ _ _ _ _ _ _ _ _ _ _ _ _ _ _ _ _ _ _ _ _ _ _ _ _ _ _ _ _ _ _ _ _ _ _ _ _ _ _ _ _ _ _ _ _ _ _ _ _ _ _ _ _ _ _ _ _ _ _ _ _ _ _ _ _ _ HCD HV1 z1 z2 z3 z5 hlD yr yc yc' fz ux uf ul hxb hyb hm20 i2 i3 i4 hbn hgl hg1 hg2 hcn2 ?_
        intro x155 x156 x157 x158 x159 x160 x161 x162 x163 x164 x165 x166 x167 x168 x169 x170 x171 x172 x173 x174 x175 x176 x177 x178 x179 x180 x181 x182 x183 x184 x185 x186 x187 x188 x189 x190 x191 x192 x193 x194
        obtain ⟨W3,hW3⟩:∃ W,W = V1.setCell ⟨g,xn,none⟩ (.int .i64 (y + d.many)):=⟨_,rfl⟩
        have hO:=HO.out
        rw [← hW3] at hO ⊢
        obtain ⟨heq,hB13,hE3,hbg⟩:=hO
        have hgs':=(HC.out.1.add (f:=fn) (by have:=HC.out.2.2.2.2.2.2.1;omega) on (-d.many)).add (f:=fn) (by have:=HC.out.2.2.2.2.2.2.1;omega) xn d.many
        have hI3:=H1.out.2.2.1.next hB13 (by rw [show (addG (addG gs fn on (-d.many)) fn xn d.many).length = k by rw [addG_len,addG_len];exact HC.out.2.2.2.2.2.1.symm];exact hE3)
        have hcl:=HX.out.1 (addG (addG gs fn on (-d.many)) fn xn d.many) (some ⟨bn,on0,none⟩) cn (.slice Av E.length cv) E W3 hgs' (hbg.mono (by omega)) (by omega) hcn2 hI3 (by have:=HX.out.2.1;have h9:0 < 35 ^ m':=Nat.pow_pos (by decide);omega)
        obtain ⟨c0,c1,c2,c3,c4⟩:=blk5c (bheap H1.out.2.2.2 hB13 (Nat.le_refl _))
        have hlB:=heap_lt (bheap H1.out.2.2.2 hB13 (Nat.le_refl _))
        have HF:=Lib.hid (And.intro heq hB13)
        clear hW3 hE3 hB13 hgs' hI3 heq yr yc yc' fz ux uf ul z0 z1 z2 z3 z4 z5 z6 z7 z8 z9 z10 z11 hlD hbn hgl hbg
        go_wp2_with (go_at_call 28;(with_reducible refine hcl.mono ?_);rintro e w4 ⟨v4,rfl,hE4⟩;have HE4:=Lib.hid hE4;clear hE4)
        go_ret
        refine ⟨_,rfl,?_⟩
        rw [HF.out.1]
        exact TruE.before HC.out.2.2.2.1 (TruE.before H1.out.1 (TruE.before HF.out.2 HE4.out))
       ·by_cases h4:d.kind = 4
        ·skip
         obtain ⟨mn,hmn⟩:=Int.eq_ofNat_of_zero_le hm0.1
         have hm3:mn ≤ 3:=by have:=HD.out.1.l h4;omega
         obtain ⟨b1,o1,B1,row,c1,rfl,hb1',hrow,y1,hri,hrc,hrm,-⟩:=GridZ.get (H1.out.2.2.1.below HX.out.2.2.2.1).at.1 HX.out.2.2.2.2.2.1
         have hrg:gs.getD fn [] = row:=by rw [List.getD_eq_getElem?_getD,hrow];rfl
         have hrn:row.length = b.l.length:=by rw [← hrg];exact HX.out.2.2.2.2.2.2
         rw [hrn] at y1 hrc
         have hfin:=lost_all (deed:=deed) (owner:=owner) (E:=E) HN.out HM.out.1 h4 HX.out.2.2.2.2.1 hmn
         have hFl:=trG_c (deed:=deed) (owner:=owner) HC.out.2.2.2.2.2.2.2.2.2 HC.out.2.2.2.2.2.2.2.1
         have hsl:=srt_len (n:=b.l.length) hn5 hm3
         have hll:(wordsL b.l.length mn).length ≤ 125:=Nat.le_trans (wordsL_len b.l.length hn5 mn) (Nat.pow_le_pow_right (n:=5) (by decide) hm3)
         have hwm:=fun (r:List Int) (hr:r ∈ wordsL b.l.length mn) => wordsL_mem hr
         obtain ⟨L,hL⟩:∃ L,L = wordsL b.l.length mn:=⟨_,rfl⟩
         rw [← hL] at hfin hsl hll hwm
         rw [h4] at z0
         rw [hmn] at z5
         have i2:(fn:Int) < (k:Int):=by omega
         have HS:=Lib.hid (And.intro hfin (And.intro hFl (And.intro hsl (And.intro hwm (And.intro hL hm3)))))
         clear hrow hri hrg hrn h1 h2 h3 h4 h6 hmn hfin hFl hsl hwm hL hq18
         go_upto_region 39 with (fail)
         refine wp_region_quiet_tail (C:=fun w' => ∃ n,w' = w2.drewN n) 8 (by kernel_rfl) (by kernel_rfl) ⟨1,rfl⟩ ?_
         simp only [List.take_succ_cons,List.take_zero,List.drop_succ_cons,List.drop_zero]
         repeat (quiet_step (fail))
         refine wpQuiet_nil ?_
         intro _ hw'
         obtain ⟨nq,hw''⟩:=hw'
         subst hw''
         have hwd:=words_any b.l.length hn5 mn (by omega) (w2.drewN nq)
         rw [← HS.out.2.2.2.2.1] at hwd
         go_upto_region 40 with (go_at_call 93;(with_reducible refine hwd.mono ?_);rintro e w3 ⟨vW,rfl,hoW,hbW⟩)
         have hb3:Below w1.heap.size w1 w3:=(below_drewN HX.out.2.2.2.1 nq).trans (hbW.mono HX.out.2.2.2.1.size)
         have hI3:=H1.out.2.2.1.below hb3
         have hd3:=bheap H1.out.2.1 hb3 (Nat.le_refl _)
         have hB3:=bheap H1.out.2.2.2 hb3 (Nat.le_refl _)
         have hoW2:OwnG w3 w2.heap.size vW L:=hoW
         obtain ⟨AW,cW,rfl,-,hcW1,hcW2⟩:=hoW.form
         have hsz3:=hb3.size
         have HW:=Lib.hid (And.intro hoW2 (And.intro hb3 (And.intro hI3 (And.intro hd3 hB3))))
         clear hwd hoW hoW2 hbW hb3 hI3 hd3 hB3 z0 z1 z2 z3 z4 z5 z6 z7 z8 z9 z10 z11 hlD y1 hb1' hrc hrm
         go_upto_region 41 with (fail)
         go_loopg [5,22] L.length (fun g v5 v22 wr => ∃ q:Nat,q + g = L.length∧v22 = .int .i64 q∧TruE z (.slice Av E.length cv) w3 v5 (lostE b deed owner i fn gs E (L.take q)) wr)
         case atStart => exact ⟨0,by omega,rfl,TruE.refl HW.out.2.2.1.own⟩
         case round =>
          obtain ⟨q,hq,rfl,hE⟩:=hrel
          obtain ⟨g1,rfl⟩:∃ g1:Nat,g1 = gk:=⟨_,rfl⟩
          obtain ⟨w5,rfl⟩:∃ w5:World,w5 = wr:=⟨_,rfl⟩
          by_cases hlq:q < L.length
          ·obtain ⟨wd,hwd⟩:∃ wd,L[q]? = some wd:=⟨_,List.getElem?_eq_getElem hlq⟩
           obtain ⟨hwn,hwb⟩:=HS.out.2.2.2.1 wd (List.mem_of_getElem? hwd)
           have hwn3:wd.length ≤ 3:=by have:=HS.out.2.2.2.2.2;omega
           have hkb:∀ k',(Value.slice Av E.length cv).ownBlock = some k'→k' < BB:=HV.out
           have hd5:w5.heap[DK]? = some (dObj d):=(hE.block (heap_lt HW.out.2.2.2.1) (fun k' e => by have:=hkb k' e;omega)).trans HW.out.2.2.2.1
           have hB5:w5.heap[BB]? = some b.obj:=(hE.block (heap_lt HW.out.2.2.2.2) (fun k' e => by have:=hkb k' e;omega)).trans HW.out.2.2.2.2
           have hoW5:=HW.out.1.rowG hE.gr (fun k' e => by have:=hkb k' e;have:=heap_lt H1.out.2.1;have:=HX.out.2.2.2.1.size;omega)
           have hI5:=HW.out.2.2.1.step hE
           have hcg:=copyGrid_any (some ⟨b1,o1,none⟩) gs.length cg gs w5 hI5.at.1 (by have:=HC.out.2.2.2.2.2.1;omega) (fun r hr => by have:=HC.out.1.r r hr;omega)
           rw [← HC.out.2.2.2.2.2.1] at hcg
           have i3:(q:Int) < (L.length:Int):=by omega
           obtain ⟨lw,hlw⟩:∃ n,n = wd.length:=⟨_,rfl⟩
           rw [← hlw] at hwn3
           have HQ:=Lib.hid (And.intro hq (And.intro hE (And.intro hwd (And.intro hwb (And.intro hd5 (And.intro hB5 (And.intro hoW5 (And.intro hI5 hlw))))))))
           clear hq hE hwd hwb hwn hd5 hB5 hoW5 hI5 hlw hkb
           go_upto_region 45 with (go_at_call 53;(with_reducible refine hcg.mono ?_);rintro e w6 ⟨⟨vn,rfl,hen6⟩,hb6⟩)
           obtain ⟨An,cn6,rfl,-,hcn61,hcn62⟩:=hen6.ownG.form
           rw [← HC.out.2.2.2.2.2.1] at hen6 hcn61 ⊢
           have hn0:=HC.out.2.2.2.2.2.2.2.2.2.n0
           obtain ⟨bn,on0,rfl⟩:=hen6.place (f:=fn) (o:=0) HX.out.2.2.2.2.2.1 (by rw [HX.out.2.2.2.2.2.2];exact hn0)
           have H6:=Lib.hid (And.intro hen6 hb6)
           clear hen6 hb6 hcg
           go_upto_region 46 with (fail)
           go_loopg [23,24] lw (fun g v23 v24 wi => ∃ j:Nat,j + g = lw∧v24 = .int .i64 j∧v23 = .bool (sortB (wd.take j))∧EndG wi w5.heap.size (.slice (some ⟨bn,on0,none⟩) k cn6) (subG fn (wd.take j) gs)∧Below w5.heap.size w5 wi)
           case atStart => exact ⟨0,by omega,rfl,rfl,H6.out.1,H6.out.2⟩
           case round =>
            obtain ⟨j,hj,rfl,rfl,hen,hbi⟩:=hrel
            obtain ⟨b2,o2,cap,B2,wd',c2,ev,hwd',y2,hi2,hc2,hm2,-⟩:=(HQ.out.2.2.2.2.2.2.1.below hbi (Nat.le_refl _)).get hlq
            cases ev
            rw [HQ.out.2.2.1] at hwd'
            cases hwd'
            rw [← HQ.out.2.2.2.2.2.2.2.2] at y2 hi2 hc2
            have hbl:=cell_lt y2
            by_cases hlj:j < lw
            ·obtain ⟨b3,o3,x3,rfl,hb3',hx3,y3⟩:=Ints.get hi2 hlj
             obtain ⟨hx0,hxl⟩:=HQ.out.2.2.2.1 x3 (List.mem_of_getElem? hx3)
             obtain ⟨on,rfl⟩:=Int.eq_ofNat_of_zero_le hx0
             have hol:on < b.l.length:=by omega
             obtain ⟨G,hG⟩:∃ G,G = subG fn (wd.take j) gs:=⟨_,rfl⟩
             rw [← hG] at hen
             have hGl:G.length = gs.length:=by rw [hG,subG_len]
             have hfG:fn < G.length:=by rw [hGl];exact HX.out.2.2.2.2.2.1
             have hGs:GSh b.l.length b.ks.length G:=by rw [hG];exact sub_sh (by have:=HC.out.2.2.2.2.2.2.1;omega) _ HC.out.1
             have hGr:(G.getD fn []).length = b.l.length:=hGs.row (by have:=HC.out.2.2.2.2.2.2.1;omega)
             have hbG:BdG (140 + 5) G:=by
              rw [hG]
              have h:=BdG.sub (f:=fn) (w:=wd.take j) (by omega) HC.out.2.1
              refine h.mono ?_
              have:(wd.take j).length ≤ j:=by rw [List.length_take];omega
              omega
             obtain ⟨bn',on0',cn',g,cg',e,yr,hg1,hg2,hgz,hgl,yc,fz,-⟩:=hen.at (f:=fn) (o:=on) hfG (by rw [hGr];exact hol)
             injection e with e1 e2 e3
             injection e1 with e1
             injection e1 with e1 e4 _
             subst e1 e4 e3
             rw [hGr] at yr hg1
             obtain ⟨x,hx⟩:∃ x,x = getG G fn on:=⟨_,rfl⟩
             rw [show (G.getD fn []).getD on 0 = x from hx.symm] at yc
             have hxb:-200 ≤ x∧x ≤ 200:=by
              have h:=getG_bd hbG (by omega) fn on
              rw [← hx] at h
              omega
             have hbn:=cell_lt yr
             obtain ⟨-,z1,-⟩:=blkD (bheap HQ.out.2.2.2.2.1 hbi (Nat.le_refl _))
             rw [HX.out.2.2.2.2.1] at z1
             have hlD:=heap_lt (bheap HQ.out.2.2.2.2.1 hbi (Nat.le_refl _))
             have i4:(j:Int) < (lw:Int):=by omega
             have i5:(on:Int) < (b.l.length:Int):=by omega
             have hsj:∀ s,sortB (wd.take (j + 1)) = s→True:=fun _ _ => trivial
             have HJ:=Lib.hid (And.intro hj (And.intro hen (And.intro hbi (And.intro hG (And.intro hGr (And.intro hfG (And.intro hx (And.intro hgz (And.intro yr hx3)))))))))
             have HI2:=Lib.hid hi2
             obtain ⟨sb,hsb⟩:∃ sb,sb = sortB (wd.take j):=⟨_,rfl⟩
             obtain ⟨sb',hsb'⟩:∃ sb,sb = sortB (wd.take (j + 1)):=⟨_,rfl⟩
             have HSB:=Lib.hid (And.intro hsb hsb')
             have hT0:sb = false→sb' = false:=fun h => by
              rw [hsb'];
              cases j with
              | zero => rw [hsb] at h;simp [sortB] at h
              | succ j' =>
                have ha:wd[j']? = some (wd[j']'(by have:=HQ.out.2.2.2.2.2.2.2.2;omega)):=List.getElem?_eq_getElem _
                rw [sortB_take ha hx3,← hsb,h,Bool.false_and]
             have hT1:sb = true→j = 0→sb' = true:=fun h h0 => by
              subst h0
              rw [hsb',List.take_add_one,hx3]
              rfl
             have hT2:∀ j' a c,sb = true→j = j' + 1→wd[j']? = some a→wd[j]? = some c→sb' = decide (a ≤ c):=fun j' a c h hj' ha hc => by
              subst hj'
              rw [hsb',sortB_take ha hc,← hsb,h,Bool.true_and]
             have HT0:=Lib.hid hT0
             have HT1:=Lib.hid hT1
             have HT2:=Lib.hid hT2
             rw [← hsb]
             clear hj hen hbi hG hGl hGr hfG hx hgz hx3 hi2 hsb hsb' hT0 hT1 hT2 hsj hbG hGs e2 hx0 hxl
             go_upto_region 48 with (fail)
             refine tru_srt wr b2 o2 L.length cW q j b3 o3 lw c2 wd sb sb' _ _ _ _ _ _ _ _ _ _ _ _ _ _ _ _ _ _ _ _ _ _ _ _ _ _ _ _ _ _ _ _ _ _ _ _ _ _ _ _ _ _ _ _ _ _ _ _ _ _ _ _ _ _ _ _ _ _ _ _ _ _ _ _ _ _ _ _ _ _ _ _ _ _ _ _ _ _ _ _ _ _ _ _ _ _ _ _ _ _ _ _ _ _ _ _ _ _ _ _ _ _ _ _ _ _ _ _ _ _ _ _ _ _ _ _ _ _ _ _ _ _ _ _ _ _ _ _ _ _ _ _ _ _ _ _ _ _ _ _ _ _ _ _ _ _ _ _ _ _ _ _ _ _ _ _ _ _ _ _ _ _ _ _ _ _ _ _ _ _ _ _ _ _ _ _ _ _ _ _ _ _ _ _ _ _ _ _ _ _ _ _ _ _ _ _ _ _ _ _ _ _ _ _ _ _ _ _ _ _ _ _ _ _ _ _ _ _ _ _ _ _ _ _ _ _ _ _ _ _ _ _ _ _ _ _ _ _ _ _ _ _ _ _ _ _ _ _ _ _ _ _ _ _ _ _ _ _ _ _ _ _ _ _ _ _ _ _ _ _ _ _ _ _ _ _ _ _ _ _ _ _ _ _ _ _ _ _ _ _ _ _ _ _ _ _ _ _ _ _ _ _ _ _ _ _ _ _ _ _ _ _ _ _ _ _ _ _ _ _ _ _ _ _ _ _ _ _ _ _ _ _ _ _ _ _ _ _ _ _ _ _ _ _ _ _ _ _ _ _ _ _ _ _ _ _ _ _ _ _ _ _ _ _ _ _ _ _ _ _ _ _ _ _ _ _ _ _ _ _ _ _ _ _ _ _ _ _ _ _ _ _ y2 HI2 hlj i3 hbl hb3' hcW1 hcW2 hc2 hm2 hwn3 HT0 HT1 HT2 ?_
             intro x270 x271 x272 x273 x274 x275 x276 x277 x278 x279 x280 x281 x282 x283 x284 x285 x286 x287 x288 x289 x290 x291 x292 nq1
             go_upto_region 49 with (fail)
             refine tru_dec (wr.drewN nq1) DK bn on0 k cn6 b2 o2 L.length cW q j b3 o3 lw c2 g b.l.length cg' fn on x _ _ _ _ _ _ _ _ _ _ _ _ _ _ _ _ _ _ _ _ _ _ _ _ _ _ _ _ _ _ _ _ _ _ _ _ _ _ _ _ _ _ _ _ _ _ _ _ _ _ _ _ _ _ _ _ _ _ _ _ _ _ _ _ _ _ _ _ _ _ _ _ _ _ _ _ _ _ _ _ _ _ _ _ _ _ _ _ _ _ _ _ _ _ _ _ _ _ _ _ _ _ _ _ _ _ _ _ _ _ _ _ _ _ _ _ _ _ _ _ _ _ _ _ _ _ _ _ _ _ _ _ _ _ _ _ _ _ _ _ _ _ _ _ _ _ _ _ _ _ _ _ _ _ _ _ _ _ _ _ _ _ _ _ _ _ _ _ _ _ _ _ _ _ _ _ _ _ _ _ _ _ _ _ _ _ _ _ _ _ _ _ _ _ _ _ _ _ _ _ _ _ _ _ _ _ _ _ _ _ _ _ _ _ _ _ _ _ _ _ _ _ _ _ _ _ _ _ _ _ _ _ _ _ _ _ _ _ _ _ _ _ _ _ _ _ _ _ _ _ _ _ _ _ _ _ _ _ _ _ _ _ _ _ _ _ _ _ _ _ _ _ _ _ _ _ _ _ _ _ _ _ _ _ _ _ _ _ _ _ _ _ _ _ _ _ _ _ _ _ _ _ _ _ _ _ _ _ _ _ _ _ _ _ _ _ _ _ _ _ _ _ _ _ _ _ _ _ _ _ _ _ _ _ _ _ _ _ _ _ _ _ _ _ _ _ _ _ _ _ _ _ _ _ _ _ _ _ _ _ _ _ _ _ _ _ _ _ _ _ _ _ _ _ _ _ _ _ _ _ _ _ _ _ _ _ _ _ _ _ _ z1 hlD y2 y3 yr yc fz hxb i3 i2 i5 i4 hbl hb3' hbn hgl hcW1 hcW2 hc2 hm2 hg1 hg2 hcn62 ?_
             intro x293 x294 x295 x296 x297 x298 x299 x300 x301 x302 x303 x304 x305 x306 x307 x308 nq2
             obtain ⟨W7,hW7⟩:∃ W,W = ((wr.drewN nq1).drewN nq2).setCell ⟨g,on,none⟩ (.int .i64 (x - 1)):=⟨_,rfl⟩
             rw [← hW7]
             have hE7:EndG W7 w5.heap.size (.slice (some ⟨bn,on0,none⟩) k cn6) (addG G fn on (-1)):=by
              rw [hW7,Int.sub_eq_add_neg]
              exact (HJ.out.2.1.upon (w':=wr.drewN nq1) fun _ _ => rfl).turn HJ.out.2.2.2.2.2.1 HJ.out.2.2.2.2.1 hol HJ.out.2.2.2.2.2.2.1 HJ.out.2.2.2.2.2.2.2.2.1
             have hB7:Below w5.heap.size w5 W7:=by rw [hW7];exact (below_drewN (below_drewN HJ.out.2.2.1 nq1) nq2).setCell HJ.out.2.2.2.2.2.2.2.1 _
             have H7:=Lib.hid (And.intro hE7 hB7)
             clear hW7 hE7 hB7
             go_wp2_with fail
             go_roundg (gk - 1)
             case measure => have:=HJ.out.1;omega
             case rel =>
              refine ⟨j + 1,by have:=HJ.out.1;omega,by go_num,by rw [HSB.out.2],?_,H7.out.2⟩
              rw [subG_take HJ.out.2.2.2.2.2.2.2.2.2,Int.toNat_natCast,← HJ.out.2.2.2.1]
              exact H7.out.1
            ·obtain rfl:j = lw:=by omega
             have hta:wd.take j = wd:=List.take_of_length_le (by have:=HQ.out.2.2.2.2.2.2.2.2;omega)
             rw [hta] at hen ⊢
             obtain ⟨w7,hw7⟩:∃ W,W = wr:=⟨_,rfl⟩
             rw [← hw7] at hen hbi y2 hbl ⊢
             clear hw7 hta
             obtain ⟨sb,hsb⟩:∃ sb,sb = sortB wd:=⟨_,rfl⟩
             rw [← hsb]
             have hlen:(subG fn wd gs).length = k:=by rw [subG_len];exact HC.out.2.2.2.2.2.1.symm
             have hI7:=HQ.out.2.2.2.2.2.2.2.1.next hbi (by rw [hlen];exact hen)
             have hgs7:GSh b.l.length b.ks.length (subG fn wd gs):=sub_sh (by have:=HC.out.2.2.2.2.2.2.1;omega) _ HC.out.1
             have hbd7:BdG (40 + 20 * (i:Int)) (subG fn wd gs):=by
              refine (BdG.sub (f:=fn) (w:=wd) (by omega) HC.out.2.1).mono ?_
              have:=HQ.out.2.2.2.2.2.2.2.2
              omega
             have HB7:=Lib.hid hbi
             have HSB:=Lib.hid hsb
             obtain ⟨c0,c1,c2',c3,c4⟩:=blk5c (bheap HQ.out.2.2.2.2.2.1 hbi (Nat.le_refl _))
             have hlB:=heap_lt (bheap HQ.out.2.2.2.2.2.1 hbi (Nat.le_refl _))
             cases sb
             ·clear hI7 hgs7 hbd7 hen hbi hi2 hsb hj
              go_wp2_with fail
              go_roundg (g1 - 1)
              case measure => have:=HQ.out.1;omega
              case rel =>
               refine ⟨q + 1,by have:=HQ.out.1;omega,by go_num,?_⟩
               rw [show lostE b deed owner i fn gs E (L.take (q + 1)) = lostE b deed owner i fn gs E (L.take q) from trE_no HQ.out.2.2.1 HSB.out.symm]
               exact HQ.out.2.1.then HB7.out
             ·have hroom:=trE_room (E:=E) (K:=35) (fun w _ => HS.out.2.1 (subG fn w gs)) HQ.out.2.2.1 hsb.symm HS.out.2.2.1
              have hcl:=HX.out.1 (subG fn wd gs) (some ⟨bn,on0,none⟩) cn6 _ (lostE b deed owner i fn gs E (L.take q)) w7 hgs7 hbd7 hcn61 hcn62 hI7 (by have:=HX.out.2.1;exact Nat.le_trans hroom this)
              clear hI7 hgs7 hbd7 hen hbi hi2 hsb hj hroom
              go_upto_region 42 with (go_at_call 28;(with_reducible refine hcl.mono ?_);rintro e w8 ⟨v8,rfl,hE8⟩;have HE8:=Lib.hid hE8;clear hE8)
              go_wp2_with fail
              go_roundg (g1 - 1)
              case measure => have:=HQ.out.1;omega
              case rel =>
               refine ⟨q + 1,by have:=HQ.out.1;omega,by go_num,?_⟩
               rw [show lostE b deed owner i fn gs E (L.take (q + 1)) = addsE (lostE b deed owner i fn gs E (L.take q)) _ from trE_yes HQ.out.2.2.1 HSB.out.symm]
               exact HQ.out.2.1.trans (TruE.before HB7.out HE8.out)
          ·obtain rfl:q = L.length:=by omega
           have HQ:=Lib.hid hE
           clear hE hq hlq
           go_wp2_with fail
           go_ret
           refine ⟨_,rfl,?_⟩
           have h:=HQ.out
           rw [List.take_of_length_le (Nat.le_refl _),← HS.out.1] at h
           exact TruE.before HC.out.2.2.2.1 (TruE.before H1.out.1 (TruE.before HW.out.2.1 h))
        ·skip
         have h5:d.kind = 5:=by have:=HD.out.1.k;omega
         have ht:=HD.out.2.2.t h5
         have hfne:=tof_ne HD.out.2.1 h5
         obtain ⟨tn,htn⟩:=Int.eq_ofNat_of_zero_le ht.1
         have htk:tn < k:=by have:=HC.out.2.2.2.2.2.2.1;omega
         have hft:fn ≠ tn:=by have:=HX.out.2.2.2.2.1;omega
         obtain ⟨b1,o1,B1,row,c1,rfl,-⟩:=GridZ.get (H1.out.2.2.1.below HX.out.2.2.2.1).at.1 HX.out.2.2.2.2.2.1
         have hfin:=str_all (deed:=deed) (owner:=owner) (E:=E) HN.out HM.out.1 h5 HX.out.2.2.2.2.1 htn
         have hFl:=trG_c (deed:=deed) (owner:=owner) HC.out.2.2.2.2.2.2.2.2.2 HC.out.2.2.2.2.2.2.2.1
         have HOK:=Lib.hid (And.intro HC.out.2.2.2.2.2.2.2.2.2 (HD.out.1.st h5))
         rw [h5] at z0
         have i2:(fn:Int) < (k:Int):=by omega
         have i5:(tn:Int) < (k:Int):=by omega
         have hI3:=H1.out.2.2.1.below HX.out.2.2.2.1
         have hd3:=bheap H1.out.2.1 HX.out.2.2.2.1 (Nat.le_refl _)
         have hB3:=bheap H1.out.2.2.2 HX.out.2.2.2.1 (Nat.le_refl _)
         have htg:tn < gs.length:=by have:=HC.out.2.2.2.2.2.1;omega
         have HS:=Lib.hid (And.intro hfin (And.intro hFl (And.intro htn (And.intro hft (And.intro hI3 (And.intro hd3 (And.intro hB3 htg)))))))
         clear h1 h2 h3 h4 h5 h6 hfin hFl htn hft hI3 hd3 hB3 htg hq18 ht hfne z1 z2 z3 z4 z5 z6 z7 z8 z9 z10 z11
         go_upto_region 54 with (fail)
         clear z0 hlD
         go_loopg [5,25] b.l.length (fun g v5 v25 wr => ∃ o:Nat,o + g = b.l.length∧v25 = .int .i64 o∧TruE z (.slice Av E.length cv) w2 v5 (strE b deed owner i fn tn d.s gs E ((List.range b.l.length).take o)) wr)
         case atStart => exact ⟨0,by omega,rfl,TruE.refl HS.out.2.2.2.2.1.own⟩
         case round =>
          obtain ⟨o,ho,rfl,hE⟩:=hrel
          obtain ⟨w5,hw5⟩:∃ w5:World,w5 = wr:=⟨_,rfl⟩
          rw [← hw5] at hE ⊢
          clear hw5
          have hkb:∀ k',(Value.slice Av E.length cv).ownBlock = some k'→k' < BB:=HV.out
          have hd5:w5.heap[DK]? = some (dObj d):=(hE.block (heap_lt HS.out.2.2.2.2.2.1) (fun k' e => by have:=hkb k' e;omega)).trans HS.out.2.2.2.2.2.1
          have hB5:w5.heap[BB]? = some b.obj:=(hE.block (heap_lt HS.out.2.2.2.2.2.2.1) (fun k' e => by have:=hkb k' e;omega)).trans HS.out.2.2.2.2.2.2.1
          have hI5:=HS.out.2.2.2.2.1.step hE
          obtain ⟨b1',o1',B1,row,c1,e,hb1',hrow,y1,hri,hrc,hrm,-⟩:=GridZ.get hI5.at.1 HX.out.2.2.2.2.2.1
          cases e
          have hrg:gs.getD fn [] = row:=by rw [List.getD_eq_getElem?_getD,hrow];rfl
          have hrn:row.length = b.l.length:=by rw [← hrg];exact HX.out.2.2.2.2.2.2
          rw [hrn] at y1 hrc
          obtain ⟨-,z1,-,-,z4,-⟩:=blkD hd5
          rw [HX.out.2.2.2.2.1] at z1
          rw [HS.out.2.2.1] at z4
          have hlD:=heap_lt hd5
          clear hrow hri hrg hrn hkb
          by_cases hlo:o < b.l.length
          ·have hra:(List.range b.l.length)[o]? = some o:=List.getElem?_range hlo
           have hcg:=fun (w6:World) (hb6:Below w5.heap.size w5 w6) => copyGrid_any (some ⟨b1,o1,none⟩) gs.length cg gs w6 (hI5.below hb6).at.1 (by have:=HC.out.2.2.2.2.2.1;omega) (fun r hr => by have:=HC.out.1.r r hr;omega)
           rw [← HC.out.2.2.2.2.2.1] at hcg
           have i3:(o:Int) < (b.l.length:Int):=by omega
           have hin5:=hI5.at.2
           obtain ⟨mb,hmb⟩:∃ mb,mb = !mayB b.t b.l deed owner i d.s o:=⟨_,rfl⟩
           have HMB:=Lib.hid hmb
           have HIn:=Lib.hid hin5
           have HB5:=Lib.hid hB5
           have HD5:=Lib.hid hd5
           have HQ:=Lib.hid (And.intro ho (And.intro hE (And.intro hI5 (And.intro hcg hra))))
           clear ho hE hI5 hcg hra hin5 hB5 hd5 hmb
           go_upto_region 56 with (fail)
           refine tru_may w5 b d BB DK o i deed owner mb _ _ _ _ _ _ _ _ _ _ _ _ _ _ _ _ _ _ _ _ _ _ _ _ _ _ _ _ _ _ _ _ _ _ _ _ _ _ _ _ _ _ _ _ _ _ _ _ _ _ _ _ _ _ _ _ _ _ _ _ _ _ _ _ _ _ _ _ _ _ _ _ _ _ _ _ _ _ _ _ _ _ _ _ _ _ _ _ _ _ _ _ _ _ _ _ _ _ _ _ _ _ _ _ _ _ _ _ _ _ _ _ _ _ _ _ _ _ _ _ _ _ _ _ _ _ _ _ _ _ _ _ _ _ _ _ _ _ _ _ _ _ _ _ _ _ _ _ _ _ _ _ _ _ _ _ _ _ _ _ _ _ _ _ _ _ _ _ _ _ _ _ _ _ _ _ _ _ _ _ _ _ _ _ _ _ _ _ _ _ _ _ _ _ _ _ _ _ _ _ _ _ _ _ _ _ _ _ _ _ _ _ _ _ _ _ _ _ _ _ _ _ _ _ _ _ _ _ _ _ _ _ _ _ _ _ _ _ _ _ _ _ _ _ _ _ _ _ _ _ _ _ _ _ _ _ _ _ _ _ _ _ _ _ _ _ _ _ _ _ _ _ _ _ _ _ _ _ _ _ _ _ _ _ _ _ _ _ _ _ _ _ _ _ _ _ _ _ _ _ _ _ _ _ _ _ _ _ _ _ _ _ _ _ _ _ _ _ _ _ _ _ _ _ _ _ _ _ _ _ _ _ _ _ _ _ _ _ _ _ _ _ _ _ _ _ _ _ _ _ _ _ _ _ _ _ _ _ _ _ _ _ _ _ _ _ _ _ _ _ _ _ _ _ _ _ _ _ _ _ _ _ _ _ _ _ _ _ _ _ HIn HB5 HD5 HOK hlo HMB ?_
           intro x329 x330 x331 x332 x333 x334 x335 x336 x337 x338 x339 x340 x341 x342 x343 x344 x345 x346 x347 x348 x349 x350 w6 hb6
           cases mb
           ·have hcg6:=HQ.out.2.2.2.1 w6 hb6
            have H6:=Lib.hid hb6
            clear hb6 y1 z1 z4 hlD
            go_upto_region 58 with (go_at_call 53;(with_reducible refine hcg6.mono ?_);rintro e w7 ⟨⟨vn,rfl,hen7⟩,hb7⟩)
            obtain ⟨An,cn7,rfl,-,hcn71,hcn72⟩:=hen7.ownG.form
            rw [← HC.out.2.2.2.2.2.1] at hen7 hcn71 ⊢
            obtain ⟨bn,on0,rfl⟩:=hen7.place (f:=fn) (o:=o) HX.out.2.2.2.2.2.1 (by rw [HX.out.2.2.2.2.2.2];exact hlo)
            have hend:EndG w7.drew w6.heap.size (.slice (some ⟨bn,on0,none⟩) k cn7) gs:=hen7.upon fun _ _ => rfl
            obtain ⟨g,cg',g2,cg2,yr,yr2,⟨hg1,hg2,hg3,hg4,hgz,hgz2,hgl,hgl2,hbn,-⟩,yc,fz,yc',hput⟩:=hend.two HC.out.1.r (f:=fn) (o:=o) (f':=tn) (o':=o) HX.out.2.2.2.2.2.1 hlo HS.out.2.2.2.2.2.2.2 hlo (.inl HS.out.2.2.2.1)
            obtain ⟨x,hx⟩:∃ x,x = getG gs fn o:=⟨_,rfl⟩
            obtain ⟨y,hy⟩:∃ y,y = getG gs tn o:=⟨_,rfl⟩
            rw [← hx] at yc
            rw [← hy] at yc'
            have hxb:-140 ≤ x∧x ≤ 140:=by
             have h:=getG_bd HC.out.2.1 (by omega) fn o
             rw [← hx] at h
             omega
            have hyb:-140 ≤ y∧y ≤ 140:=by
             have h:=getG_bd HC.out.2.1 (by omega) tn o
             rw [← hy] at h
             omega
            obtain ⟨⟨uf,ux,ul⟩,hput2⟩:=hput (x - 1) (-1) (by rw [← hx];omega)
            have hE3:=hput2 (y + 1) 1 (by rw [hy])
            rw [← hy] at ux
            obtain ⟨V1,hV1⟩:∃ V1,V1 = w7.drew.setCell ⟨g,o,none⟩ (.int .i64 (x - 1)):=⟨_,rfl⟩
            rw [← hV1] at uf ux ul hE3
            have hb57:Below w5.heap.size w5 w7.drew:=below_drewN (H6.out.trans (hb7.mono H6.out.size)) 1
            have hdw:w7.drew.heap[DK]? = some (dObj d):=bheap HD5.out hb57 (Nat.le_refl _)
            have hDg:DK ≠ g:=by have:=heap_lt HD5.out;have:=H6.out.size;omega
            have hbp:V1.heap[DK]? = some (dObj d):=by rw [hV1];exact (Below.heap_setCell _ ⟨g,o,none⟩ _ _ (by show DK ≠ g;exact hDg)).trans hdw
            have HCD:=Lib.hid (fun (w':World) (hp:PS1 w7.drew V1 0 w') => (show w'.cell? ⟨DK,1,none⟩ = some (.int .i64 (fn:Int))∧w'.cell? ⟨DK,4,none⟩ = some (.int .i64 (tn:Int))∧DK < w'.heap.size from by
             have hb:w'.heap[DK]? = some (dObj d):=by
              rcases hp with h | h
              ·rw [h];exact hdw
              ·rw [h];exact hbp
             obtain ⟨-,d1,-,-,d4,-⟩:=blkD hb
             rw [HX.out.2.2.2.2.1] at d1
             rw [HS.out.2.2.1] at d4
             exact ⟨d1,d4,heap_lt hb⟩))
            obtain ⟨z1,z4,hlD⟩:=HCD.out w7.drew (.inl rfl)
            have hs6:=H6.out.size
            have hB13:Below w5.heap.size w5 (V1.setCell ⟨g2,o,none⟩ (.int .i64 (y + 1))):=by rw [hV1];exact (hb57.setCell (Nat.le_trans hs6 hgz) _).setCell (Nat.le_trans hs6 hgz2) _
            have HV1:=Lib.hid hV1
            have hbg:=(HC.out.2.1.add2 (f:=fn) (o:=o) (f':=tn) (o':=o) (k:=-1) (k':=1) (K:=1) (.inl HS.out.2.2.2.1) (by omega) (by omega) (by omega) (by omega))
            have HO:=Lib.hid (And.intro hB13 (And.intro hE3 hbg))
            clear hx hy hgz hgz2 hV1 hbp hdw hB13 hE3 hbg hput hput2 hend hb7 hb57 hen7 hcg6
            refine tru_stray DK bn on0 k cn7 o w7 V1 g cg' g2 cg2 b.l.length fn tn x y _ _ _ _ _ _ _ _ _ _ _ _ _ _ _ _ _ _ _ _ _ _ _ _ _ _ _ _ _ _ _ _ _ _ _ _ _ _ _ _ _ _ _ _ _ _ _ _ _ _ _ _ _ _ _ _ _ _ _ _ _ _ _ _ _ _ _ _ _ _ _ _ _ _ _ _ _ _ _ _ _ _ _ _ _ _ _ _ _ _ _ _ _ _ _ _ _ _ _ _ _ _ _ _ _ _ _ _ _ _ _ _ _ _ _ _ _ _ _ _ _ _ _ _ _ _ _ _ _ _ _ _ _ _ _ _ _ _ _ _ _ _ _ _ _ _ _ _ _ _ _ _ _ _ _ _ _ _ _ _ _ _ _ _ _ _ _ _ _ _ _ _ _ _ _ _ _ _ _ _ _ _ _ _ _ _ _ _ _ _ _ _ _ _ _ _ _ _ _ _ _ _ _ _ _ _ _ _ _ _ _ _ _ _ _ _ _ _ _ _ _ _ _ _ _ _ _ _ _ _ _ _ _ _ _ _ _ _ _ _ _ _ _ _ _ _ _ _ _ _ _ _ _ _ _ _ _ _ _ _ _ _ _ _ _ _ _ _ _ _ _ _ _ _ _ _ _ _ _ _ _ _ _ _ _ _ _ _ _ _ _ _ _ _ _ _ _ _ _ _ _ _ _ _ _ _ _ _ _ _ _ _ _ _ _ _ _ _ _ _ _ _ _ _ _ _ _ _ _ _ _ _ _ _ _ _ _ _ _ _ _ _ _ _ _ _ _ _ _ _ _ _ _ _ _ _ _ _ _ _ _ _ _ _ _ _ _ _ _ _ _ _ _ _ _ _ _ _ _ _ _ _ _ _ _ _ _ _ _ _ _ _ _ HCD HV1 z1 z4 hlD yr yr2 yc yc' fz ux uf ul hxb hyb i2 i5 i3 hbn hgl hgl2 hg1 hg2 hg3 hg4 hcn72 ?_
            intro x354 x355 x356 x357 x358 x359 x360 x361 x362 x363 x364 x365 x366 x367 x368 x369 x370 x371 x372 x373 x374 x375 x376 x377 x378 x379 x380 x381 x382 x383 x384 x385
            obtain ⟨W3,hW3⟩:∃ W,W = V1.setCell ⟨g2,o,none⟩ (.int .i64 (y + 1)):=⟨_,rfl⟩
            have hO:=HO.out
            rw [← hW3] at hO ⊢
            obtain ⟨hB13,hE3,hbg⟩:=hO
            have hgs':=(HC.out.1.add (f:=fn) (by have:=HC.out.2.2.2.2.2.2.1;omega) o (-1)).add (f:=tn) (by have:=HC.out.2.2.2.2.2.2.1;omega) o 1
            have hE5:EndG W3 w5.heap.size (.slice (some ⟨bn,on0,none⟩) k cn7) (addG (addG gs fn o (-1)) tn o 1):=hE3.mono hs6
            have hI7:=HQ.out.2.2.1.next hB13 (by rw [show (addG (addG gs fn o (-1)) tn o 1).length = k by rw [addG_len,addG_len];exact HC.out.2.2.2.2.2.1.symm];exact hE5)
            have hmy:mayB b.t b.l deed owner i d.s o = true:=by have:=HMB.out;simpa using this
            have hlr:((List.range b.l.length).filter (mayB b.t b.l deed owner i d.s)).length ≤ 35:=by
             refine Nat.le_trans (List.length_filter_le _ _) ?_
             rw [List.length_range]
             omega
            have hroom:=trE_room (E:=E) (K:=35) (fun w _ => HS.out.2.1 (addG (addG gs fn w (-1)) tn w 1)) HQ.out.2.2.2.2 hmy hlr
            have hcl:=HX.out.1 (addG (addG gs fn o (-1)) tn o 1) (some ⟨bn,on0,none⟩) cn7 _ (strE b deed owner i fn tn d.s gs E ((List.range b.l.length).take o)) W3 hgs' (hbg.mono (by omega)) hcn71 hcn72 hI7 (by have:=HX.out.2.1;exact Nat.le_trans hroom this)
            obtain ⟨c0,c1',c2,c3,c4⟩:=blk5c (bheap HB5.out hB13 (Nat.le_refl _))
            have hlB:=heap_lt (bheap HB5.out hB13 (Nat.le_refl _))
            have HF:=Lib.hid (And.intro hB13 hmy)
            clear hW3 hE3 hB13 hgs' hI7 hE5 hmy hlr hroom yr yr2 yc yc' fz ux uf ul z1 z4 hlD hbn hgl hgl2 hbg
            go_wp2_with (go_at_call 28;(with_reducible refine hcl.mono ?_);rintro e w8 ⟨v8,rfl,hE8⟩;have HE8:=Lib.hid hE8;clear hE8)
            go_roundg (gk - 1)
            case measure => have:=HQ.out.1;omega
            case rel =>
             refine ⟨o + 1,by have:=HQ.out.1;omega,by go_num,?_⟩
             rw [show strE b deed owner i fn tn d.s gs E ((List.range b.l.length).take (o + 1)) = addsE (strE b deed owner i fn tn d.s gs E ((List.range b.l.length).take o)) _ from trE_yes HQ.out.2.2.2.2 HF.out.2]
             exact HQ.out.2.1.trans (TruE.before HF.out.1 HE8.out)
           ·have H6:=Lib.hid hb6
            clear hb6 y1 z1 z4 hlD
            go_wp2_with fail
            go_roundg (gk - 1)
            case measure => have:=HQ.out.1;omega
            case rel =>
             refine ⟨o + 1,by have:=HQ.out.1;omega,by go_num,?_⟩
             rw [show strE b deed owner i fn tn d.s gs E ((List.range b.l.length).take (o + 1)) = strE b deed owner i fn tn d.s gs E ((List.range b.l.length).take o) from trE_no HQ.out.2.2.2.2 (by have:=HMB.out;simpa using this)]
             exact HQ.out.2.1.then H6.out
          ·obtain rfl:o = b.l.length:=by omega
           have HQ:=Lib.hid hE
           clear hE ho hlo hI5 hB5 hd5
           go_wp2_with fail
           go_ret
           refine ⟨_,rfl,?_⟩
           have h:=HQ.out
           rw [List.take_of_length_le (by rw [List.length_range];exact Nat.le_refl _),← HS.out.1] at h
           exact TruE.before HC.out.2.2.2.1 (TruE.before H1.out.1 (TruE.before HX.out.2.2.2.1 h))
end Go.Proofs.YtmennjmjakdkcaaGreat
