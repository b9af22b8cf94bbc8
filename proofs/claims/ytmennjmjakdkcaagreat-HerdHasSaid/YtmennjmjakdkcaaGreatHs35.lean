/- HerdHas. -/
import Derived.Test.YtmennjmjakdkcaaGreatHs34
set_option linter.unusedVariables false
set_option linter.unusedSimpArgs false
set_option maxRecDepth 100000
set_option maxHeartbeats 2000000
namespace Go.Proofs.YtmennjmjakdkcaaGreat
open Go.RowKit
def j2e (ss:List Sg):Int:=((ss.map fun s=>seen s 9 6).find? (fun e=>e != 0)).getD 0
theorem k1m (s:Sg) (r:List Sg):j2e (s::r)=if seen s 9 6=0 then j2e r else seen s 9 6:=by
 unfold j2e
 rw[List.map_cons,List.find?_cons]
 by_cases h:seen s 9 6=0
 ·simp[h]
 ·have:(seen s 9 6 != 0)=true:=by simp[h]
  simp[h,this]
theorem k2s {ss:List Sg} {k:Nat} {s:Sg} (h:∀ (i:Nat) x,i<k→ss[i]?=some x→seen x 9 6=0) (hk:ss[k]?=some s) (hs:seen s 9 6≠0):j2e ss=seen s 9 6:=by
 induction ss generalizing k with
 | nil=>simp at hk
 | cons a r ih =>
   rw[k1m]
   cases k with
   | zero=>simp only[List.getElem?_cons_zero,Option.some.injEq] at hk;subst hk;rw[if_neg hs]
   | succ k =>
     rw[if_pos (h 0 a (by omega) rfl)]
     exact ih (fun i x hi hx=>h (i+1) x (Nat.succ_lt_succ hi) (by simpa using hx)) (by simpa using hk)
theorem k0p {ss:List Sg}:j2e ss=0↔∀ s∈ss,seen s 9 6=0:=by
 induction ss with
 | nil=>simp[j2e]
 | cons a r ih =>
   rw[k1m]
   by_cases h:seen a 9 6=0
   ·rw[if_pos h,ih];simp[h]
   ·rw[if_neg h];simp[h]
def j0x (t:Int) (l:List Mk) (ss:List Sg) (mis:List Int):Int :=
 if check t l≠0 then check t l else if 6<ss.length then 6 else if j2e ss≠0 then j2e ss
 else if mis.length<l.length then 7 else if l.length<mis.length then 6 else if mis.all (fun x=>btw x 0 6) then 0 else 1
def mays (t:Int) (l:List Mk) (ss:List Sg):List (List Int):=ss.map (mayL t l)
def j2t (w:World) (t:Int) (A:Option Addr) (n c:Nat) (l:List Mk) (ss:List Sg) (Ai:Option Addr) (ni ci:Nat) (mis:List Int) (e:Ending) (w':World):Prop :=
 if j0x t l ss mis=0 then ∃ v,e=.returned (.tuple #[.agg #[.int .i64 t,.slice A n c,v,.slice Ai ni ci],.int .i64 0])∧OwnG w' w.heap.size v (mays t l ss)
 else e=.returned (.tuple #[.agg #[.int .i64 0,.slice none 0 0,.slice none 0 0,.slice none 0 0],.int .i64 (j0x t l ss mis)])
theorem q1t (t:Int) (A:Option Addr) (n c:Nat) (l:List Mk) (B:Option Addr) (m cb:Nat) (ss:List Sg) (Ai:Option Addr) (ni ci:Nat) (mis:List Int) (w:World)
 (hl:Marks w A n l) (hlc:n≤c) (hcm:c≤maxLen) (hss:Sights w B m ss) (hmm:m≤maxLen) (hmi:Ints w Ai ni mis) (hni:ni≤maxLen) :
 Calls Tryz.prog 118 #[.agg #[.int .i64 t,.slice A n c],.slice B m cb,.slice Ai ni ci] w fun e w'=>j2t w t A n c l ss Ai ni ci mis e w'∧Below w.heap.size w w':=by
 have HL:=zQ9 hl
 have HSS:=zQ9 hss
 have HMI:=zQ9 hmi
 have hll:=hl.len
 have hsl:=hss.len
 have hml:=hmi.len
 have HN:=zQ9 (zA9 hll (zA9 hsl hml))
 unfold maxLen at hmm hni
 clear hl hss hmi hll hsl hml
 go_enter Tryz.func118,Tryz.ntmps118
 go_wp2_with fail
 have hbw:Below w.heap.size w ((w.alloc (Obj.cells #[Value.int .i64 t,.slice A n c] 24)).alloc (Obj.cells #[Value.int .i64 0,.slice none 0 0,.slice none 0 0,.slice none 0 0] 172)):=bal (bal0 w _) (zL9 _) _
 refine(j6u t A n c l _ (HL.out.below hbw (zL9 _)) hlc hcm).mono ?_
 rintro e w1 ⟨rfl,hb1⟩
 have e0:=j0e (show((w.alloc (Obj.cells #[Value.int .i64 t,.slice A n c] 24)).alloc (Obj.cells #[Value.int .i64 0,.slice none 0 0,.slice none 0 0,.slice none 0 0] 172)).heap[w.heap.size]?=some (Obj.cells #[Value.int .i64 t,.slice A n c] 24 (0,0)) from j0b (j0c rfl) _) hb1 (zL9 _)
 have e1:=j0e (show((w.alloc (Obj.cells #[Value.int .i64 t,.slice A n c] 24)).alloc (Obj.cells #[Value.int .i64 0,.slice none 0 0,.slice none 0 0,.slice none 0 0] 172)).heap[w.heap.size+1]?=some (Obj.cells #[Value.int .i64 0,.slice none 0 0,.slice none 0 0,.slice none 0 0] 172 (0,0)) from j0c (by simp)) hb1 (zL9 _)
 have hB1:Below w.heap.size w w1:=hbw.trans (hb1.mono (by simp;omega))
 clear hb1 hbw
 obtain⟨r0,r1⟩:=blk2 e0
 obtain⟨s0,s1,s2,s3⟩:=blk4 e1
 have f0:=frz e1 0
 have f1:=frz e1 1
 have f2:=frz e1 2
 have f3:=frz e1 3
 have z1:=j0a e1
 have z0:w.heap.size<w1.heap.size:=by omega
 by_cases hck:check t l=0
 ·have h0:(check t l != 0)=false:=by simp[hck]
  have HC:=zQ9 hck
  clear hck
  by_cases h6:m≤6
  ·have h6':decide ((6:Int)<(m:Int))=false:=by simp;omega
   have e1':=e1
   have hBl:=zQ9 hB1
   go_wp2_with fail
   go_loopg [29] m (fun g i wr=>∃ k:Nat,k+g=m∧i=.int .i64 k∧(∀ (i:Nat) x,i<k→ss[i]?=some x→seen x 9 6=0)∧Below w1.heap.size w1 wr)
   case atStart=>exact⟨0,by omega,rfl,fun i x hi=>by omega,Below.refl _ _⟩
   case round =>
    obtain⟨k,hk,rfl,hok,hbl⟩:=hrel
    have HK:=zQ9 (zA9 hk hok)
    have hkm:k≤m:=by omega
    clear hk hok
    have hz:=hbl.size
    have e0r:=j0e e0 hbl (zL9 _)
    have e1r:=j0e e1 hbl (zL9 _)
    by_cases hlt:k<m
    ·obtain⟨b,off,x,rfl,hb,hx,q0,q1,q2,q3,q4⟩:=Sights.get (HSS.out.below (hB1.trans (hbl.mono hB1.size)) (zL9 _)) hlt
     have HX:=zQ9 hx
     clear hx
     by_cases hse:seen x 9 6=0
     ·have h1:(seen x 9 6 != 0)=false:=by simp[hse]
      have HSE:=zQ9 hse
      clear hse
      go_wp2_with fail
      refine(j8x x _).mono ?_
      rintro e w2 ⟨rfl,hb2⟩
      have hbl2:Below w1.heap.size w1 w2:=(bal hbl (zL9 _) _).trans (hb2.mono (by simp;omega))
      go_wp2
      go_roundg (gk-1)
      case measure=>have:=HK.out.1;omega
      case rel =>
       refine⟨k+1,by have:=HK.out.1;omega,by go_num,fun i y hi hy=>?_,hbl2⟩
       rcases Nat.lt_or_ge i k with h|h
       ·exact HK.out.2 i y h hy
       ·obtain rfl:i=k:=by omega
        have:=HX.out.symm.trans hy
        cases this
        exact HSE.out
     ·have h1:(seen x 9 6 != 0)=true:=by simp[hse]
      have HE:=zQ9 (show j0x t l ss mis=seen x 9 6 by
       have hb:=k2s HK.out.2 HX.out hse
       unfold j0x;rw[if_neg (by simp[HC.out]),if_neg (by have:=HN.out.2.1;omega),if_pos (by rw[hb];exact hse),hb])
      have HSE:=zQ9 hse
      clear hse
      go_wp2_with fail
      refine(j8x x _).mono ?_
      rintro e w2 ⟨rfl,hb2⟩
      have e12:=j0e (j0b e1r (Obj.cells #[Value.int .i64 x.n,.bool x.l,.bool x.r,.int .i64 x.b,.int .i64 x.p] 31)) hb2 (zL9 _)
      have hB2:Below w.heap.size w w2:=hB1.trans (((bal hbl (zL9 _) _).trans (hb2.mono (by simp;omega))).mono hB1.size)
      obtain⟨s0,s1,s2,s3⟩:=blk4 e12
      have f0:=frz e12 0
      have f1:=frz e12 1
      have f2:=frz e12 2
      have f3:=frz e12 3
      have z2:=j0a e12
      go_wp2
      refine bodyPost_ret (v:=.tuple #[.agg #[.int .i64 0,.slice none 0 0,.slice none 0 0,.slice none 0 0],.int .i64 (seen x 9 6)]) (by simp[results,Tryz.f118,go_sem,s0,s1,s2,s3,z2]) rfl ?_
      refine⟨?_,j3k hB2 (by omega) _ _ _ _⟩
      unfold j2t
      rw[HE.out,if_neg HSE.out]
    ·obtain rfl:k=m:=by omega
     have hss0:j2e ss=0:=k0p.2 fun s hs=>by
      obtain⟨i,hi⟩:=List.getElem?_of_mem hs
      exact HK.out.2 i s (by have:=(List.getElem?_eq_some_iff.1 hi).1;have:=HN.out.2.1;omega) hi
     have HS0:=zQ9 hss0
     clear hss0
     obtain⟨r0,r1⟩:=blk2 e0r
     obtain⟨s0,s1,s2,s3⟩:=blk4 e1r
     have f0:=frz e1r 0
     have f1:=frz e1r 1
     have f2:=frz e1r 2
     have f3:=frz e1r 3
     have z2:=j0a e1r
     have hB2:Below w.heap.size w wr:=hB1.trans (hbl.mono hB1.size)
     have HSP:=zQ9 (show j0x t l ss mis=if mis.length<l.length then 7 else if l.length<mis.length then 6 else if mis.all (fun x=>btw x 0 6) then 0 else 1 by
      unfold j0x;rw[if_neg (by simp[HC.out]),if_neg (by have:=HN.out.2.1;omega),if_neg (by simp[HS0.out])])
     rcases Nat.lt_trichotomy ni n with hcmp|hcmp|hcmp
     ·have h2:decide (ni<n)=true:=by simpa using hcmp
      have h2':decide ((ni:Int)<(n:Int))=true:=by simp;omega
      have HE:=zQ9 (show j0x t l ss mis=7 by rw[HSP.out,if_pos (by have:=HN.out;omega)])
      go_wp2
      refine bodyPost_ret (v:=.tuple #[.agg #[.int .i64 0,.slice none 0 0,.slice none 0 0,.slice none 0 0],.int .i64 7]) (by simp[results,Tryz.f118,go_sem,s0,s1,s2,s3,z2]) rfl ?_
      refine⟨?_,j3k hB2 (by omega) _ _ _ _⟩
      unfold j2t
      rw[HE.out,if_neg (by omega)]
     ·subst hcmp
      have h2:decide (ni<ni)=false:=by simp
      have h2':decide ((ni:Int)<(ni:Int))=false:=by simp
      have HSP2:=zQ9 (show j0x t l ss mis=if mis.all (fun x=>btw x 0 6) then 0 else 1 by rw[HSP.out,if_neg (by have:=HN.out;omega),if_neg (by have:=HN.out;omega)])
      go_wp2_with fail
      obtain⟨wa,rfl⟩:∃ wa:World,wa=wr:=⟨_,rfl⟩
      have hmia:Ints wa Ai ni mis:=HMI.out.below hB2 (zL9 _)
      go_loopg [58] ni (fun g i wr=>∃ q:Nat,q+g=ni∧i=.int .i64 q∧(mis.take q).all (fun x=>btw x 0 6)=true∧wa=wr)
      case atStart=>exact⟨0,by omega,rfl,by simp,rfl⟩
      case round =>
       obtain⟨q,hq,rfl,hall,rfl⟩:=hrel
       have HQ:=zQ9 (zA9 hq hall)
       have hqm:q≤ni:=by omega
       clear hq hall
       by_cases hlt:q<ni
       ·obtain⟨b,off,x,rfl,hb,hx,q0⟩:=Ints.get hmia hlt
        have HX:=zQ9 hx
        clear hx
        cases hbt:btw x 0 6
        ·have HE:=zQ9 (show j0x t l ss mis=1 by
          rw[HSP2.out,k1v HX.out hbt];rfl)
         go_wp2_with (go_at_call 106;refine(j2g _ _ _ _).mono ?_;rintro e w' ⟨rfl,rfl⟩)
         refine bodyPost_ret (v:=.tuple #[.agg #[.int .i64 0,.slice none 0 0,.slice none 0 0,.slice none 0 0],.int .i64 1]) (by simp[results,Tryz.f118,go_sem,s0,s1,s2,s3,z2]) rfl ?_
         refine⟨?_,j3k hB2 (by omega) _ _ _ _⟩
         unfold j2t
         rw[HE.out,if_neg (by omega)]
        ·have HBT:=zQ9 hbt
         go_wp2_with (go_at_call 106;refine(j2g _ _ _ _).mono ?_;rintro e w' ⟨rfl,rfl⟩)
         go_roundg (gk-1)
         case measure=>have:=HQ.out.1;omega
         case rel=>exact⟨q+1,by have:=HQ.out.1;omega,by go_num,j9r HQ.out.2 HX.out HBT.out,rfl⟩
       ·obtain rfl:q=ni:=by omega
        have HE:=zQ9 (show j0x t l ss mis=0 by
         have h:=HQ.out.2
         rw[List.take_of_length_le (by have:=HN.out.2.2;omega)] at h
         rw[HSP2.out,h];rfl)
        go_wp2_with fail
        obtain⟨W0,hW⟩:∃ W0,W0=wa.alloc (Obj.cells #[Value.int .i64 t,.slice A q c,.slice none 0 0,.slice Ai q ci] 172):=⟨_,rfl⟩
        rw[←hW]
        have b14:W0.heap[wa.heap.size]?=some (Obj.cells #[Value.int .i64 t,.slice A q c,.slice none 0 0,.slice Ai q ci] 172 (0,0)):=by rw[hW];exact j0c rfl
        have hBa:Below wa.heap.size wa W0:=by rw[hW];exact bal0 wa _
        have hz0:W0.heap.size=wa.heap.size+1:=by rw[hW];simp
        clear hW
        have HZ:=zQ9 hz0
        have hz0':wa.heap.size<W0.heap.size:=by omega
        clear hz0
        have hkk:k≤6:=h6
        clear r0 r1 s0 s1 s2 s3 f0 f1 f2 f3
        go_loopg [73] k (fun g i wr=>∃ j:Nat,j+g=k∧i=.int .i64 j∧∃ v mv,wr.heap[wa.heap.size]?=some (.cells #[.int .i64 t,.slice A q c,v,.slice Ai q ci] 172 (0,0))∧Own eVal 25 1 wr W0.heap.size v mv∧Rws wr W0.heap.size mv ((mays t l ss).take j)∧Below wa.heap.size wa wr)
        case atStart=>exact⟨0,by omega,rfl,_,[],b14,Own.nil_,⟨by simp,fun i v h=>by simp at h⟩,hBa⟩
        case round =>
         obtain⟨j,hj,rfl,v,mv,bx,hov,hrw,hbr⟩:=hrel
         have HJ:=zQ9 (zA9 hj (zA9 hov hrw))
         have hjk:j≤k:=by omega
         clear hj hov hrw
         obtain⟨x0,x1,x2,x3⟩:=blk4 bx
         have zx:=j0a bx
         by_cases hlt:j<k
         ·obtain⟨b,off,x,rfl,hb,hx,q0,q1,q2,q3,q4⟩:=Sights.get (HSS.out.below (hB2.trans (hbr.mono hB2.size)) (zL9 _)) hlt
          go_upto_region 27 with (fail)
          obtain⟨Wy,hW⟩:∃ Wy,Wy=wr.alloc (Obj.cells #[Value.int .i64 x.n,.bool x.l,.bool x.r,.int .i64 x.b,.int .i64 x.p] 31):=⟨_,rfl⟩
          rw[←hW]
          have bs:Wy.heap[wr.heap.size]?=some (Obj.cells #[Value.int .i64 x.n,.bool x.l,.bool x.r,.int .i64 x.b,.int .i64 x.p] 31 (0,0)):=by rw[hW];exact j0c rfl
          have bx2:Wy.heap[wa.heap.size]?=some (.cells #[.int .i64 t,.slice A q c,v,.slice Ai q ci] 172 (0,0)):=by rw[hW];exact j0b bx _
          have hby:Below wr.heap.size wr Wy:=by rw[hW];exact bal0 wr _
          have hov:=HJ.out.2.1.below hby (zL9 _)
          have hrw:Rws Wy W0.heap.size mv ((mays t l ss).take j):=⟨HJ.out.2.2.1,fun i v hv=>by
           obtain⟨l',hl',ho⟩:=HJ.out.2.2.2 i v hv
           exact⟨l',hl',ho.below hby (zL9 _)⟩⟩
          have hzy:wr.heap.size<Wy.heap.size:=j0a bs
          clear hW
          have HX:=zQ9 hx
          have hBy:Below wa.heap.size wa Wy:=hbr.trans (hby.mono hbr.size)
          have hLy:Marks Wy A q l:=HL.out.below (hB2.trans (hBy.mono hB2.size)) (zL9 _)
          have hmem:x∈ss:=List.mem_of_getElem? hx
          have hse:=k0p.1 HS0.out x hmem
          obtain⟨hx1,hx2⟩:=(j9m hse).1
          have HVM:=zQ9 (show ∀ m∈l,0≤m.n∧m.n≤255 from fun m hm=>(j4t HC.out m hm).1)
          have hq5:q≤5:=by have:=(j3f HC.out).2.2.1;have:=HN.out.1;omega
          obtain⟨x0,x1,x2,x3⟩:=blk4 bx2
          obtain⟨y0,y1,y2,y3,y4⟩:=blk5 bs
          have fx:=frz bx2 2
          have hne:v.ownBlock≠some wa.heap.size:=fun h=>by have:=hov.lt _ h;omega
          have hne2:v.ownBlock≠some wr.heap.size:=fun h=>by have:=HJ.out.2.1.lt _ h;omega
          have HO:=zQ9 (zA9 hov (zA9 hrw (zA9 hLy (zA9 bx2 bs))))
          have hmvl:mv.length≤6:=by
           have h1:=HJ.out.2.2.1
           rw[List.length_take] at h1;omega
          clear hov hrw hLy bx bx2 bs hx hse q0 q1 q2 q3 q4 hby e0r e1r hmem
          have hza:wa.heap.size<Wy.heap.size:=by omega
          have hW0y:W0.heap.size≤Wy.heap.size:=by have:=HZ.out;omega
          go_region_law (first
           | (go_simp;go_at_call 114;refine(k8l t A q c l x _ ?_ ?_ hx1 hx2 HVM.out).mono ?_;(exact HO.out.2.2.1.drew);(omega);rintro e w3 ⟨u,rfl,hu,hb3⟩;have hb3:=bundrew hb3;obtain⟨hc3,hf3⟩:=bc hb3;obtain⟨Au,cu,rfl,hsu,hcu,hmu⟩:=hu.form j0u;have HU:=zQ9 (zA9 hu hb3);have z31:wa.heap.size<w3.heap.size:=(by have:=hb3.size;omega);have z32:wr.heap.size<w3.heap.size:=(by have:=hb3.size;omega);have z33:W0.heap.size≤w3.heap.size:=(by have:=hb3.size;omega);clear hu hb3 hsu hcu hmu)
           | (refine k9k k4p (by rfl) _ _ (by rfl) W0.heap.size v mv (Value.slice Au (mayL t l x).length cu) #[Value.slice Au (mayL t l x).length cu] w3.heap.size (by rfl) (by rfl) (heap_alloc_new w3 _) rfl rfl (by simp[eVal,Value.oneCell']) ((HO.out.1.below HU.out.2 (zL9 _)).alloc _) (by omega) (by omega) (by simp;omega) ?_;intro g4 cap4 w4 hov4 hgr4 hb4;have f42:w4.frozen? ⟨wa.heap.size,2,none⟩=false:=(by rw[hgr4.frozen_far _ (by simp;omega) (by intro h;exact hne h.symm)];refine frz_al ?_ z31;rw[hf3 _ _ hza];exact fx);have c42:w4.cell? ⟨wa.heap.size,2,none⟩=some v:=(by rw[hgr4.cell_far _ (by simp;omega) (by intro h;exact hne h.symm),World.cell?_alloc_lt _ _ _ z31,hc3 _ _ hza];exact x2)))
          all_goals
           obtain⟨n1,n2,n3,n4⟩:=q3r HO.out.2.2.2.1 HO.out.1 HO.out.2.1 (by have:=HZ.out;omega) hW0y HU.out.2 HU.out.1 hov4 hgr4
           have HN4:=zQ9 (zA9 n1 (zA9 n2 n3))
           clear n1 n2 n3
           have n5:=hBy.trans n4
           clear hc3 hf3 x0 x1 x2 x3 y0 y1 y2 y3 y4 f42 c42
           generalize w4.setCell { block:=wa.heap.size,off:=2 } (Value.slice (some { block:=g4,off:=0 }) (mv.length+1) cap4)=w5 at *
           go_wp2
           go_roundg (gk-1)
           case measure=>have:=HJ.out.1;omega
           case rel =>
            refine⟨j+1,by have:=HJ.out.1;omega,by go_num,_,_,HN4.out.1,HN4.out.2.1,?_,n5⟩
            have h:=HN4.out.2.2
            rw[show(mays t l ss).take (j+1)=(mays t l ss).take j++[mayL t l x] by
             unfold mays;rw[List.take_add_one,List.getElem?_map,HX.out];rfl]
            exact h
         ·obtain rfl:j=k:=by omega
          have hgrid:=zQ9 (show OwnG wr W0.heap.size v (mays t l ss) from⟨mv,HJ.out.2.1,by
           have h:=HJ.out.2.2
           rwa [List.take_of_length_le (by unfold mays;rw[List.length_map];have:=HN.out.2.1;omega)] at h⟩)
          have e1w:=j0e (j0e e1r hbr (zL9 _)) (Below.refl _ _) (zL9 _)
          obtain⟨Av,cv,rfl,hsv,hcv,hmv⟩:=HJ.out.2.1.form j3c
          clear hsv hcv hmv
          have f0:=frz e1w 0
          have f1:=frz e1w 1
          have f2:=frz e1w 2
          have f3:=frz e1w 3
          obtain⟨s0,s1,s2,s3⟩:=blk4 e1w
          have zw:=j0a e1w
          go_wp2
          refine bodyPost_ret (v:=.tuple #[.agg #[.int .i64 t,.slice A q c,.slice Av mv.length cv,.slice Ai q ci],.int .i64 0]) (by simp[results,Tryz.f118,go_sem,s0,s1,s2,s3,zw]) rfl ?_
          refine⟨?_,j3k (hB2.trans (hbr.mono hB2.size)) (by omega) _ _ _ _⟩
          unfold j2t
          rw[if_pos HE.out]
          refine⟨_,rfl,?_⟩
          have hz:=hB2.size
          have hz3:=HZ.out
          exact(hgrid.out.upon (fun jj hj=>q3z (by omega) _ _ _ _)).mono (by omega)
     ·have h2:decide (ni<n)=false:=by simp;omega
      have h2':decide ((ni:Int)<(n:Int))=false:=by simp;omega
      have h3:decide (n<ni)=true:=by simpa using hcmp
      have h3':decide ((n:Int)<(ni:Int))=true:=by simp;omega
      have HE:=zQ9 (show j0x t l ss mis=6 by rw[HSP.out,if_neg (by have:=HN.out;omega),if_pos (by have:=HN.out;omega)])
      go_wp2
      refine bodyPost_ret (v:=.tuple #[.agg #[.int .i64 0,.slice none 0 0,.slice none 0 0,.slice none 0 0],.int .i64 6]) (by simp[results,Tryz.f118,go_sem,s0,s1,s2,s3,z2]) rfl ?_
      refine⟨?_,j3k hB2 (by omega) _ _ _ _⟩
      unfold j2t
      rw[HE.out,if_neg (by omega)]
  ·have h6':decide ((6:Int)<(m:Int))=true:=by simp;omega
   have HE:=zQ9 (show j0x t l ss mis=6 by unfold j0x;rw[if_neg (by simp[HC.out]),if_pos (by have:=HN.out.2.1;omega)])
   go_wp2
   refine bodyPost_ret (v:=.tuple #[.agg #[.int .i64 0,.slice none 0 0,.slice none 0 0,.slice none 0 0],.int .i64 6]) (by simp[results,Tryz.f118,go_sem,s0,s1,s2,s3,z1]) rfl ?_
   refine⟨?_,j3k hB1 (by omega) _ _ _ _⟩
   unfold j2t
   rw[HE.out,if_neg (by omega)]
 ·have h0:(check t l != 0)=true:=by simp[hck]
  have HE:=zQ9 (show j0x t l ss mis=check t l by unfold j0x;rw[if_pos hck])
  have HC:=zQ9 hck
  clear hck
  go_wp2
  refine bodyPost_ret (v:=.tuple #[.agg #[.int .i64 0,.slice none 0 0,.slice none 0 0,.slice none 0 0],.int .i64 (check t l)]) (by simp[results,Tryz.f118,go_sem,s0,s1,s2,s3,z1]) rfl ?_
  refine⟨?_,j3k hB1 (by omega) _ _ _ _⟩
  unfold j2t
  rw[HE.out,if_neg HC.out]
theorem k6b (S:Srch) (xs:Array Value) (lt:Value) (w0:World) (C:Ctx S w0 xs lt):∀ n,S.Grows xs lt w0 n
 | 0=>q3t S xs lt w0 C
 | n+1=>q3s S xs lt w0 C n (k6b S xs lt w0 C n)
def Srch.all (S:Srch):Option (List Int):=S.rest S.L ⟨0,0,0,0,0,0⟩
def j7q (base:Nat) (r:Option (List Int)) (e:Ending) (w':World):Prop :=
 match r with
 | some l=>∃ v,e=.returned (.tuple #[v,.bool true])∧OwnI w' base v l
 | none=>e=.returned (.tuple #[.slice none 0 0,.bool false])
theorem home_any (S:Srch) (xs:Array Value) (fl:Nat) (fi ca:Array Value) (w:World) (C:Ctx S w xs (.func (.func fl) fi ca)) :
 Calls Tryz.prog 119 #[.agg xs,.int .u64 S.left,.func (.func fl) fi ca] w fun e w'=>j7q w.heap.size S.all e w'∧Below w.heap.size w w':=by
 obtain⟨t,A,nA,cA,Am,cm,Ai,ni,ci,mv,rfl,hmv,hmis,hrow⟩:=C.x
 have hmm:=@run_makeMap Tryz.prog
 have hL6:=C.L
 have hb:=C.hb
 have HC:=zQ9 (zA9 C hb)
 clear C hmv hmis hrow hb
 have hmf:∀ (fn:Fn) (first cap:Array Value) (w:World),(Instr.makeFunc fn first cap).run Tryz.prog w=.ok (.func fn first cap) w:=fun _ _ _ _=>rfl
 obtain⟨i,z,hi,hz,hsize,hbytes,hzs⟩:=j5v.info
 obtain⟨M,hM⟩:∃ M:Array Value,M=madeCells z.cells S.L:=⟨_,rfl⟩
 have hmk:∀ W:World,(Instr.makeSlice 25 (.int .i64 0) (.int .i64 S.L)).run Tryz.prog W=.ok (.slice (some ⟨W.heap.size,0,none⟩) 0 S.L) (W.alloc (.cells M 3)):=fun W=>by
  have h:=run_make (P:=Tryz.prog) W 25 3 i z Tryz.underlying25 hi hz .i64 .i64 0 S.L (by omega) (by omega) (by rw[hbytes];omega) (by omega)
  rw[hM]
  simpa[hsize] using h
 have HM:=zQ9 (show M.size=S.L by rw[hM,size_madeCells])
 clear hM hi hz hsize hbytes hzs
 go_enter Tryz.func119,Tryz.ntmps119
 go_upto_region 6 with (fail)
 obtain⟨W0,hW⟩:∃ W0,W0=((((((((((w.alloc (Obj.cells #[Value.int IntKind.i64 t,Value.slice A nA cA,Value.slice Am S.L cm,Value.slice Ai ni ci] 172)).alloc (Obj.cells #[Value.int IntKind.u64 ↑S.left] 155)).alloc (Obj.cells #[Value.func (Fn.func fl) fi ca] 92)).alloc (Obj.cells #[Value.int IntKind.i64 0,Value.int IntKind.i64 0,Value.int IntKind.i64 0,Value.int IntKind.i64 0,Value.int IntKind.i64 0,Value.int IntKind.i64 0] 186)).alloc (Obj.map #[] 0)).alloc (Obj.cells #[Value.map (some (w.heap.size+1+1+1+1))] 187)).alloc (Obj.cells M 3)).alloc (Obj.cells #[Value.slice (some { block:=w.heap.size+1+1+1+1+1+1,off:=0 }) 0 S.L] 25)).alloc (Obj.cells #[Value.nilFunc] 35)).alloc (Obj.cells #[Value.func (Fn.func 139) #[] #[Value.pointer (some { block:=w.heap.size+1+1+1,off:=0 }),Value.pointer (some { block:=w.heap.size+1+1+1+1+1+1+1,off:=0 }),Value.pointer (some { block:=w.heap.size+1+1+1+1+1+1+1+1,off:=0 })]] 92)):=⟨_,rfl⟩
 rw[←hW]
 obtain⟨C,hb⟩:=HC.out
 have hB:Below w.heap.size w W0:=by
  rw[hW]
  exact bal (bal (bal (bal (bal (bal (bal (bal (bal (bal0 w _) (zL9 _) _) (zL9 _) _) (zL9 _) _) (zL9 _) _) (zL9 _) _) (zL9 _) _) (zL9 _) _) (zL9 _) _) (zL9 _) _
 have hs0:W0.heap.size=S.b+10:=by rw[hW,←hb];simp
 have e0:W0.heap[S.b]?=some (Obj.cells #[Value.int IntKind.i64 t,Value.slice A nA cA,Value.slice Am S.L cm,Value.slice Ai ni ci] 172 (0,0)):=by rw[hW,←hb];exact j0b (j0b (j0b (j0b (j0b (j0b (j0b (j0b (j0b (j0c (by simp)) _) _) _) _) _) _) _) _) _
 have e1:W0.heap[S.b+1]?=some (Obj.cells #[Value.int IntKind.u64 ↑S.left] 155 (0,0)):=by rw[hW,←hb];exact j0b (j0b (j0b (j0b (j0b (j0b (j0b (j0b (j0c (by simp)) _) _) _) _) _) _) _) _
 have e2:W0.heap[S.b+2]?=some (Obj.cells #[Value.func (Fn.func fl) fi ca] 92 (0,0)):=by rw[hW,←hb];exact j0b (j0b (j0b (j0b (j0b (j0b (j0b (j0c (by simp)) _) _) _) _) _) _) _
 have e3:W0.heap[S.b+3]?=some (Obj.cells #[Value.int IntKind.i64 0,Value.int IntKind.i64 0,Value.int IntKind.i64 0,Value.int IntKind.i64 0,Value.int IntKind.i64 0,Value.int IntKind.i64 0] 186 (0,0)):=by rw[hW,←hb];exact j0b (j0b (j0b (j0b (j0b (j0b (j0c (by simp)) _) _) _) _) _) _
 have e4:W0.heap[S.b+4]?=some (Obj.map #[] 0):=by rw[hW,←hb];exact j0b (j0b (j0b (j0b (j0b (j0c (by simp)) _) _) _) _) _
 have e5:W0.heap[S.b+5]?=some (Obj.cells #[Value.map (some (S.b+4))] 187 (0,0)):=by rw[hW,←hb];exact j0b (j0b (j0b (j0b (j0c (by simp)) _) _) _) _
 have e6:W0.heap[S.b+6]?=some (Obj.cells M 3 (0,0)):=by rw[hW,←hb];exact j0b (j0b (j0b (j0c (by simp)) _) _) _
 have e7:W0.heap[S.b+7]?=some (Obj.cells #[Value.slice (some { block:=S.b+6,off:=0 }) 0 S.L] 25 (0,0)):=by rw[hW,←hb];exact j0b (j0b (j0c (by simp)) _) _
 have e8:W0.heap[S.b+8]?=some (Obj.cells #[Value.nilFunc] 35 (0,0)):=by rw[hW,←hb];exact j0b (j0c (by simp)) _
 have e9:W0.heap[S.b+9]?=some (Obj.cells #[Value.func (Fn.func 139) #[] #[Value.pointer (some { block:=S.b+3,off:=0 }),Value.pointer (some { block:=S.b+7,off:=0 }),Value.pointer (some { block:=S.b+8,off:=0 })]] 92 (0,0)):=by rw[hW,←hb];exact j0c (by simp)
 clear hW
 simp only[hb,Nat.add_assoc,Nat.reduceAdd]
 have f8:W0.frozen? ⟨S.b+8,0,none⟩=false:=free_of_one e8
 have c8:=blk1 e8
 go_upto_region 7 with (fail)
 obtain⟨W1,hW⟩:∃ W1,W1=W0.setCell ⟨S.b+8,0,none⟩ (.func (.func 141) #[] S.growCaps):=⟨_,rfl⟩
 have hW':=hW
 unfold Srch.growCaps at hW'
 rw[←hW']
 clear hW'
 have k1:∀ j,j≠S.b+8→W1.heap[j]?=W0.heap[j]?:=fun j hj=>by rw[hW];exact Below.heap_setCell _ _ _ _ hj
 have e8':W1.heap[S.b+8]?=some (Obj.cells #[.func (.func 141) #[] S.growCaps] 35 (0,0)):=by rw[hW];exact one_setCell e8
 have hB1:Below w.heap.size w W1:=by rw[hW];exact hB.setCell (by dsimp;omega) _
 have hs1:W1.heap.size=S.b+10:=by rw[hW];simpa using hs0
 clear hW
 have env:Env S #[Value.int IntKind.i64 t,Value.slice A nA cA,Value.slice Am S.L cm,Value.slice Ai ni ci] (.func (.func fl) fi ca) W1 :=
  ⟨(k1 _ (by omega)).trans e0,(k1 _ (by omega)).trans e1,(k1 _ (by omega)).trans e2,(k1 _ (by omega)).trans e5,e8',(k1 _ (by omega)).trans e9⟩
 have st:St S W1 ⟨0,0,0,0,0,0⟩ [] []:=by
  refine⟨(k1 _ (by omega)).trans e3,(k1 _ (by omega)).trans e7,?_,q4k ((k1 _ (by omega)).trans e4),rfl,fun i hi=>?_⟩
  ·refine⟨rfl,.inr ⟨S.b+6,S.L,M,rfl,by omega,(k1 _ (by omega)).trans e6,Nat.zero_le _,by(unfold maxLen;omega),by rw[HM.out];omega,by simp⟩⟩
  ·obtain rfl|rfl|rfl|rfl|rfl:i=0∨i=1∨i=2∨i=3∨i=4:=by omega
   all_goals exact⟨Int.le_refl _,Int.le_refl _⟩
 have c8:=blk1 e8'
 have hG:=k6b S _ _ w C S.L W1 ⟨0,0,0,0,0,0⟩ [] [] (hb ▸ hB1) env st (fun k hk=>by cases hk) (zL9 _) (by simp)
 have HG:=zQ9 hG
 clear hG
 unfold Srch.growCaps at c8
 go_wp2_with fail
 have hG:=HG.out
 unfold Srch.growCaps at hG
 refine hG.mono ?_
 rintro e w5 ⟨rfl,hF,c',o',K',st5,hs5,hsome,hnone⟩
 have hB5:Below w.heap.size w w5:=hB1.trans (hb ▸ hF.below)
 have HB:=zQ9 (zA9 hB5 (zA9 hsome hnone))
 clear hsome hnone
 have HS:=zQ9 st5.buf
 have c7:=blk1 st5.out
 cases hr:S.rest S.L ⟨0,0,0,0,0,0⟩ with
 | some r =>
   have HR:=zQ9 (zA9 hr (HB.out.2.1 r hr))
   simp only[hr,Option.isSome_some]
   clear hr
   go_wp2
   go_ret2
   refine⟨?_,HB.out.1⟩
   unfold j7q Srch.all
   rw[HR.out.1]
   refine⟨_,rfl,?_⟩
   have:=HR.out.2
   simp only[List.nil_append] at this
   rw[←this,hb]
   exact HS.out
 | none =>
   have HR:=zQ9 hr
   simp only[hr,Option.isSome_none]
   clear hr
   go_wp2
   go_ret2
   refine⟨?_,HB.out.1⟩
   unfold j7q Srch.all
   rw[HR.out]
   exact rfl
def k4d (may:List (List Int)) (mis:List Int) (left:Nat) (lf:Nat→Int→Bool):Option (List Int):=Srch.all ⟨0,may.length,may,mis,left,lf⟩
theorem rest_b (b b' L:Nat) (may:List (List Int)) (mis:List Int) (left:Nat) (lf:Nat→Int→Bool):∀ n c,Srch.rest ⟨b,L,may,mis,left,lf⟩ n c=Srch.rest ⟨b',L,may,mis,left,lf⟩ n c
 | 0,c=>rfl
 | n+1,c=>by
   unfold Srch.rest
   simp only[rest_b b b' L may mis left lf n]
theorem any_any (xs:Array Value) (p o:Int) (w:World) (hx:xs.size=4) :
 Calls Tryz.prog 120 #[.agg xs,.int .i64 p,.int .i64 o] w fun e w'=>e=.returned (.bool true)∧Below w.heap.size w w':=by
 go_enter Tryz.func120,Tryz.ntmps120
 go_wp2
 go_ret
 exact⟨rfl,bal0 _ _⟩
def j7e (t:Int) (l:List Mk) (ss:List Sg) (mis:List Int):Int:=if j0x t l ss mis≠0 then j0x t l ss mis else if k4d (mays t l ss) mis 0 (fun _ _=>true)=none then 11 else 0
def k0g (t:Int) (l:List Mk) (ss:List Sg) (mis:List Int):List Int:=if j0x t l ss mis≠0 then [] else (k4d (mays t l ss) mis 0 (fun _ _=>true)).getD []
theorem mayL_mem {t:Int} {l:List Mk} {s:Sg} {o:Int} (h:o∈mayL t l s):0≤o∧o.toNat<l.length:=by
 unfold mayL j4y at h
 simp only[List.mem_map,List.mem_filter,List.mem_range] at h
 obtain⟨i,⟨hi,_⟩,rfl⟩:=h
 exact⟨Int.natCast_nonneg i,by simpa using hi⟩
theorem mayL_len (t:Int) (l:List Mk) (s:Sg):(mayL t l s).length≤l.length:=k1h t l s l.length
theorem ctx_of {w0:World} {t:Int} {A:Option Addr} {n c:Nat} {Am:Option Addr} {cm:Nat} {Ai:Option Addr} {ni ci:Nat} {may:List (List Int)} {mis:List Int} {left:Nat} {lf:Nat→Int→Bool} {fl:Nat} {fi ca:Array Value}
 (hg:Grid w0 Am may.length may) (hmi:Ints w0 Ai ni mis) (hL:may.length≤6) (hleft:(left:Int)<18446744073709551616) (hm:∀ l∈may,l.length≤4294967296∧∀ o∈l,0≤o∧o<5∧o.toNat<ni)
 (eg:∀ args w,(callFunc fl args).run Tryz.prog w=.ok (.enter fl args) w)
 (hlet:∀ w,Below w0.heap.size w0 w→∀ (p:Nat) (o:Int),p<may.length→0≤o→o<5→Calls Tryz.prog fl (fi++(#[.int .i64 p,.int .i64 o]++ca)) w fun e w'=>e=.returned (.bool (lf p o))∧Below w.heap.size w w') :
 Ctx ⟨w0.heap.size,may.length,may,mis,left,lf⟩ w0 #[.int .i64 t,.slice A n c,.slice Am may.length cm,.slice Ai ni ci] (.func (.func fl) fi ca):=by
 obtain⟨mv,h1,h2,h3⟩:=hg
 refine⟨rfl,hL,hleft,⟨t,A,n,c,Am,cm,Ai,ni,ci,mv,rfl,h1,hmi,fun i v hv=>?_⟩,⟨fl,fi,ca,rfl,eg,hlet⟩⟩
 obtain⟨B,l,c',hl,hv',hs,_,_⟩:=h3 i v hv
 have:=hm l (List.mem_of_getElem? hl)
 exact⟨B,l,c',hv',hl,hs,this.1,this.2⟩
theorem all_b (b L:Nat) (may:List (List Int)) (mis:List Int) (left:Nat) (lf:Nat→Int→Bool) (hL:L=may.length):Srch.all ⟨b,L,may,mis,left,lf⟩=k4d may mis left lf:=by
 subst hL
 exact rest_b b 0 may.length may mis left lf may.length ⟨0,0,0,0,0,0⟩
theorem q4a {t:Int} {A:Option Addr} {n c:Nat} {Am:Option Addr} {k cm:Nat} {Ai:Option Addr} {ni ci:Nat} {may:List (List Int)} {mis:List Int} {left:Nat} {lf:Nat→Int→Bool} {fl:Nat} {fi ca:Array Value} (w0:World)
 (hk:k=may.length) (hg:Grid w0 Am may.length may) (hmi:Ints w0 Ai ni mis) (hL:may.length≤6) (hleft:(left:Int)<18446744073709551616) (hm:∀ l∈may,l.length≤4294967296∧∀ o∈l,0≤o∧o<5∧o.toNat<ni)
 (eg:∀ args w,(callFunc fl args).run Tryz.prog w=.ok (.enter fl args) w)
 (hlet:∀ w,Below w0.heap.size w0 w→∀ (p:Nat) (o:Int),p<may.length→0≤o→o<5→Calls Tryz.prog fl (fi++(#[.int .i64 p,.int .i64 o]++ca)) w fun e w'=>e=.returned (.bool (lf p o))∧Below w.heap.size w w') :
 Calls Tryz.prog 119 #[.agg #[.int .i64 t,.slice A n c,.slice Am k cm,.slice Ai ni ci],.int .u64 left,.func (.func fl) fi ca] w0 fun e w'=>j7q w0.heap.size (k4d may mis left lf) e w'∧Below w0.heap.size w0 w':=by
 subst hk
 have h:=home_any ⟨w0.heap.size,may.length,may,mis,left,lf⟩ _ fl fi ca w0 (ctx_of (t:=t) (A:=A) (n:=n) (c:=c) (cm:=cm) (ci:=ci) hg hmi hL hleft hm eg hlet)
 rw[all_b _ _ _ _ _ _ rfl] at h
 exact h
theorem q0v {t:Int} {l:List Mk} {ss:List Sg} {mis:List Int} (h:j0x t l ss mis=0):check t l=0∧ss.length≤6∧j2e ss=0∧mis.length=l.length∧mis.all (fun x=>btw x 0 6)=true:=by
 unfold j0x at h
 split at h
 ·contradiction
 ·rename_i h1
  split at h
  ·cases h
  ·split at h
   ·contradiction
   ·rename_i h2 h3
    split at h
    ·cases h
    ·split at h
     ·cases h
     ·split at h
      ·rename_i h4 h5 h6
       exact⟨by omega,by omega,by omega,by omega,h6⟩
      ·cases h
theorem mays_in {t:Int} {l:List Mk} {ss:List Sg} {mis:List Int} {ni:Nat} (h:j0x t l ss mis=0) (hn:mis.length=ni):∀ r∈mays t l ss,r.length≤4294967296∧∀ o∈r,0≤o∧o<5∧o.toNat<ni:=by
 obtain⟨h1,h2,h3,h4,h5⟩:=q0v h
 have hl5:=(j3f h1).2.2.1
 intro r hr
 unfold mays at hr
 obtain⟨s,_,rfl⟩:=List.mem_map.1 hr
 have:=mayL_len t l s
 refine⟨by omega,fun o ho=>?_⟩
 have:=mayL_mem ho
 omega
theorem Home_any (t:Int) (A:Option Addr) (n c:Nat) (l:List Mk) (B:Option Addr) (m cb:Nat) (ss:List Sg) (Ai:Option Addr) (ni ci:Nat) (mis:List Int) (w:World)
 (hl:Marks w A n l) (hlc:n≤c) (hcm:c≤maxLen) (hss:Sights w B m ss) (hmm:m≤maxLen) (hmi:Ints w Ai ni mis) (hni:ni≤maxLen) :
 Calls Tryz.prog 84 #[.agg #[.int .i64 t,.slice A n c],.slice B m cb,.slice Ai ni ci] w fun e w'=>∃ v,e=.returned (.tuple #[v,.int .i64 (j7e t l ss mis)])∧OwnI w' w.heap.size v (k0g t l ss mis)∧Below w.heap.size w w':=by
 have HL:=zQ9 hl
 have HSS:=zQ9 hss
 have HMI:=zQ9 hmi
 have hml:=hmi.len
 have HN:=zQ9 hml
 have hmf:∀ (fn:Fn) (first cap:Array Value) (w:World),(Instr.makeFunc fn first cap).run Tryz.prog w=.ok (.func fn first cap) w:=fun _ _ _ _=>rfl
 clear hl hss hmi hml
 go_enter Tryz.func84,Tryz.ntmps84
 go_wp2_with fail
 have hbw:Below w.heap.size w (w.alloc (Obj.cells #[Value.int .i64 t,.slice A n c] 24)):=bal0 w _
 refine(q1t t A n c l B m cb ss Ai ni ci mis _ (HL.out.below hbw (zL9 _)) hlc hcm (HSS.out.below hbw (zL9 _)) hmm (HMI.out.below hbw (zL9 _)) hni).mono ?_
 rintro e w1 ⟨hr,hb1⟩
 have hB1:Below w.heap.size w w1:=hbw.trans (hb1.mono (by simp))
 have hz1:=hb1.size
 simp at hz1
 by_cases hge:j0x t l ss mis=0
 ·have hg:∃ v,e=Ending.returned (.tuple #[.agg #[.int .i64 t,.slice A n c,v,.slice Ai ni ci],.int .i64 0])∧OwnG w1 (w.heap.size+1) v (mays t l ss):=by
   unfold j2t at hr
   rw[if_pos hge] at hr
   simpa using hr
  clear hr
  obtain⟨v,rfl,hog⟩:=hg
  obtain⟨Am,cm,rfl,hgr,hcm2,hmx⟩:=hog.form
  have HG:=zQ9 (zA9 hge (zA9 hgr hB1))
  have hk6:(mays t l ss).length≤6:=by unfold mays;rw[List.length_map];exact(q0v hge).2.1
  have HK:=zQ9 (zA9 hk6 (mays_in hge HN.out))
  clear hog hgr hcm2 hmx hB1 hge hk6 hbw hb1
  generalize hk:(mays t l ss).length=k at *
  have HKE:=zQ9 hk
  clear hk
  go_wp2_with fail
  refine(q4a (may:=mays t l ss) (mis:=mis) (left:=0) (lf:=fun _ _=>true) _ HKE.out.symm ?_ ?_ ?_ (by decide) HK.out.2 (fun _ _=>by kernel_rfl) ?_).mono ?_
  ·rw[HKE.out];exact HG.out.2.1.below (bal0 w1 _) (zL9 _)
  ·exact HMI.out.below (bal (HG.out.2.2) (zL9 _) _) (zL9 _)
  ·rw[HKE.out];exact HK.out.1
  ·intro W hW p o _ _ _
   exact any_any _ _ _ _ rfl
  rintro e w2 ⟨hr,hb2⟩
  cases hg:k4d (mays t l ss) mis 0 (fun _ _=>true) with
  | none =>
    have HE:=zQ9 (show j7e t l ss mis=11∧k0g t l ss mis=[] by unfold j7e k0g;rw[if_neg (by simp[HG.out.1]),if_pos hg,if_neg (by simp[HG.out.1]),hg];exact⟨rfl,rfl⟩)
    have hr2:e=Ending.returned (.tuple #[.slice none 0 0,.bool false]):=by
     unfold j7q at hr;rw[hg] at hr;exact hr
    subst hr2
    clear hr hg
    go_wp2
    go_ret2
    exact⟨.slice none 0 0,k5m HE.out.1.symm,by rw[HE.out.2];exact Own.nil_,(bal HG.out.2.2 (zL9 _) _).trans (hb2.mono (by simp;omega))⟩
  | some r =>
    have HE:=zQ9 (show j7e t l ss mis=0∧k0g t l ss mis=r by unfold j7e k0g;rw[if_neg (by simp[HG.out.1]),if_neg (by simp[hg]),if_neg (by simp[HG.out.1]),hg];exact⟨rfl,rfl⟩)
    have hr2:∃ v,e=Ending.returned (.tuple #[v,.bool true])∧OwnI w2 (w1.heap.size+1) v r:=by
     unfold j7q at hr;rw[hg] at hr;simpa using hr
    obtain⟨v,rfl,hov⟩:=hr2
    have HO:=zQ9 hov
    clear hr hg hov
    go_wp2
    go_ret2
    exact⟨v,k5m HE.out.1.symm,by rw[HE.out.2];exact HO.out.mono (by omega),(bal HG.out.2.2 (zL9 _) _).trans (hb2.mono (by simp;omega))⟩
 ·have hg:e=Ending.returned (.tuple #[.agg #[.int .i64 0,.slice none 0 0,.slice none 0 0,.slice none 0 0],.int .i64 (j0x t l ss mis)]):=by
   unfold j2t at hr
   rwa [if_neg hge] at hr
  subst hg
  have h0:(j0x t l ss mis != 0)=true:=by simp[hge]
  have HE:=zQ9 (show j7e t l ss mis=j0x t l ss mis∧k0g t l ss mis=[] by unfold j7e k0g;rw[if_pos hge,if_pos hge];exact⟨rfl,rfl⟩)
  clear hr hge
  go_wp2
  go_ret2
  exact⟨.slice none 0 0,k5m HE.out.1.symm,by rw[HE.out.2];exact Own.nil_,bal hB1 (zL9 _) _⟩
end Go.Proofs.YtmennjmjakdkcaaGreat
