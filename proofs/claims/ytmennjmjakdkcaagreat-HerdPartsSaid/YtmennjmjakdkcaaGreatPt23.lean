/- HerdParts. -/
import Derived.Test.YtmennjmjakdkcaaGreatPt22
import Derived.Test.YtmennjmjakdkcaaGreatPt05
import Derived.Deep.RegionLaw
set_option linter.unusedVariables false
set_option linter.unusedSimpArgs false
set_option maxRecDepth 100000
set_option maxHeartbeats 4000000
namespace Go.Proofs.YtmennjmjakdkcaaGreat
open Go.RowKit
theorem Now.six {w:World} {B:Nat} {c:Cn} (h:Now w B c):w.cell? ⟨B,0,none⟩=some (.int .i64 c.a)∧w.cell? ⟨B,1,none⟩=some (.int .i64 c.b)∧w.cell? ⟨B,2,none⟩=some (.int .i64 c.c) ∧
 w.cell? ⟨B,3,none⟩=some (.int .i64 c.d)∧w.cell? ⟨B,4,none⟩=some (.int .i64 c.e)∧w.cell? ⟨B,5,none⟩=some (.int .i64 c.s) :=
 ⟨h.cell (i:=0) (by omega),h.cell (i:=1) (by omega),h.cell (i:=2) (by omega),h.cell (i:=3) (by omega),h.cell (i:=4) (by omega),h.cell (i:=5) (by omega)⟩
structure Ctx (S:Srch) (w0:World) (xs:Array Value) (lt:Value):Prop where
 hb:w0.heap.size=S.b
 L:S.L<=6
 left:(S.left:Int)<18446744073709551616
 x:∃ t A nA cA Am cm Ai ni ci mv,xs=#[.int .i64 t,.slice A nA cA,.slice Am S.L cm,.slice Ai ni ci]∧Sl eVal 1 w0 Am S.L mv∧Ints w0 Ai ni S.mis ∧
  (∀ (i:Nat) v,mv[i]?=some v->∃ A l c,v=.slice A l.length c∧S.may[i]?=some l∧Ints w0 A l.length l∧l.length<=4294967296∧∀ o∈l,0<=o∧o<5∧o.toNat<ni)
 lt:∃ fl fi ca,lt=.func (.func fl) fi ca∧(∀ args w,(callFunc fl args).run Tryz.prog w=.ok (.enter fl args) w) ∧
  ∀ w,Below S.b w0 w->∀ (p:Nat) (o:Int),p<S.L->0<=o->o<5->Calls Tryz.prog fl (fi++(#[.int .i64 p,.int .i64 o]++ca)) w fun e w'=>e=.returned (.bool (S.lf p o))∧Below w.heap.size w w'
theorem q4u (S:Srch) (xs:Array Value) (lt:Value) (w0:World) (C:Ctx S w0 xs lt):S.Grows xs lt w0 0:=by
 intro w c o K hb a0 st hs hn a1;obtain⟨t,A,nA,cA,Am,cm,Ai,ni,ci,mv,rfl,a4,a3,a2⟩:=C.x;have hL:=C.L;obtain⟨q0,q1,q2,q3,q4,q5⟩:=st.now.six;obtain⟨x0,x1,x2,x3⟩:=show w.cell? ⟨S.b,0,none⟩=_∧w.cell? ⟨S.b,1,none⟩=_∧w.cell? ⟨S.b,2,none⟩=some (.slice Am S.L cm)∧w.cell? ⟨S.b,3,none⟩=some (.slice Ai ni ci) from
  ⟨by simp[World.cell?,a0.x];rfl,by simp[World.cell?,a0.x];rfl,by simp[World.cell?,a0.x],by simp[World.cell?,a0.x]⟩
 have hc:c.s=(S.L:Int):=by have:=st.len;omega
 rw[hc] at q5;unfold Srch.growCaps;go_enter Tryz.func141,Tryz.ntmps141
 go_wp2
 go_ret
 exact⟨rfl,Fr.refl _ _,c,o,K,st,hs,fun r hr=>by cases hr;simp,fun h=>(by cases h)⟩
theorem bit_test (l p:Nat) (hl:(l:Int)<18446744073709551616) (hp:p<=6) :
 (bits BinOp.and IntKind.u64 ((l:Int) / 2 ^ p) 1==1)=l.testBit p:=by
 have e2:(l:Int) / 2 ^ p=((l / 2 ^ p:Nat):Int):=by simp
 rw[e2];have a0:l / 2 ^ p<=l:=Nat.div_le_self _ _;show(IntKind.u64.wrap ((BitVec.ofInt 64 ((l / 2 ^ p:Nat):Int) &&& BitVec.ofInt 64 ((1:Nat):Int)).toNat:Int)==1)=_;rw[BitVec.toNat_and,ofInt_u64 _ (by omega),ofInt_u64 1 (by omega),Nat.and_one_is_mod,Nat.testBit_eq_decide_div_mod_eq]
 have h2:=Nat.mod_lt (l / 2 ^ p) (show 0<2 by omega)
 rw[IntWalk.u64_in _ (by omega)]
 rw[Bool.eq_iff_iff];simp only[beq_iff_eq,decide_eq_true_eq];omega
theorem k8z {S:Srch} {w W:World} {c:Cn} {o:List Int} {K K2:List Cn} {n:Nat} {ob:Obj} (hF:Fr S.b w W) (a3:S.b<=w.heap.size) (st:St S W c o K) (hs:S.sound K) (hn:n<=S.L) (a1:o.length=S.L-n) (hr:S.rest n c=none)
 (a0:S.b+4<W.heap.size) (hM:∀ w':World,w'.heap[S.b+4]?=some ob->j5o w' (S.b+4) K2) (hK:∀ q,q∈K2↔q∈K∨q=c) :
 Fr S.b w { W with heap:=W.heap.setIfInBounds (S.b+4) ob }∧St S { W with heap:=W.heap.setIfInBounds (S.b+4) ob } c o K2∧S.sound K2:=by
 have k:∀ j,j≠S.b+4->(W.heap.setIfInBounds (S.b+4) ob)[j]?=W.heap[j]?:=fun j hj=>by rw[Array.getElem?_setIfInBounds_ne (by omega)]
 refine⟨hF.put a3 ob a0,⟨st.now.keep (k _ (by omega)),(k _ (by omega)).trans st.out,j3x st.buf (k _ (by omega)),hM _ (by simp[a0]),st.len,st.ok⟩,?_⟩
 intro q hq m hm a2;rcases(hK q).1 hq with h|rfl
 ·exact hs q h m hm a2
 ·have:=st.len;obtain rfl:m=n:=by omega
  exact hr
theorem St.below {S:Srch} {w w':World} {c:Cn} {o:List Int} {K:List Cn} (h:St S w c o K) (hb:Below w.heap.size w w'):St S w' c o K:=by
 have h7:=j0a h.out;exact⟨h.now.keep (hb.block _ (by omega)),(hb.block _ h7).trans h.out,j3x h.buf (hb.block _ (by omega)),h.met.keep (hb.block _ (by omega)),h.len,h.ok⟩
theorem q4t (S:Srch) (xs:Array Value) (lt:Value) (w0:World) (C:Ctx S w0 xs lt) (n:Nat) (hG:S.Grows xs lt w0 n):S.Grows xs lt w0 (n+1):=by
 intro w c o K hb a3 st hs hn ao;obtain⟨t,A,nA,cA,Am,cm,Ai,ni,ci,mv,rfl,cj,be,b4⟩:=C.x;obtain⟨fl,fi,ca,rfl,eg,aC⟩:=C.lt;have hL:=C.L;obtain⟨q0,q1,q2,q3,q4,q5⟩:=st.now.six;obtain⟨x0,x1,x2,x3⟩:=show w.cell? ⟨S.b,0,none⟩=_∧w.cell? ⟨S.b,1,none⟩=_∧w.cell? ⟨S.b,2,none⟩=some (.slice Am S.L cm)∧w.cell? ⟨S.b,3,none⟩=some (.slice Ai ni ci) from
  ⟨by simp[World.cell?,a3.x];rfl,by simp[World.cell?,a3.x];rfl,by simp[World.cell?,a3.x],by simp[World.cell?,a3.x]⟩
 have hc:=st.len;rw[hc] at q5;have cp:¬(o.length:Int)=S.L:=by omega
 have ba:¬o.length=S.L:=by omega
 have HL:=zQ9 ao;clear ao;have em:=blk1 a3.m;have ec:kv c=.agg #[.int .i64 c.a,.int .i64 c.b,.int .i64 c.c,.int .i64 c.d,.int .i64 c.e,.int .i64 o.length]:=by rw[<-hc];rfl
 have bo:=q5z c w (S.b+4) K st.met;rw[ec] at bo;unfold Srch.growCaps;by_cases hin:c∈K
 ·have hr:=hs c hin (n+1) hn (by rw[hc,HL.out])
  simp only[hin,decide_true] at bo;go_enter Tryz.func141,Tryz.ntmps141
  go_wp2
  go_ret
  exact⟨by rw[hr];rfl,Fr.refl _ _,c,o,K,st,hs,fun r h=>(by rw[hr] at h;cases h),fun _=>⟨rfl,rfl⟩⟩
 ·simp only[hin,decide_false] at bo;go_enter Tryz.func141,Tryz.ntmps141
  go_upto_region 7 with (fail)
  obtain⟨W1,hW⟩:∃ W1,W1=w.alloc (Obj.cells #[.int .i64 c.a,.int .i64 c.b,.int .i64 c.c,.int .i64 c.d,.int .i64 c.e,.int .i64 o.length] 186):=⟨_,rfl⟩;rw[<-hW];have bw:W1.heap[w.heap.size]?=some (.cells c.cs 186 (0,0)):=by rw[hW,Cn.cs,hc];exact j0c rfl
  have a9:Below w.heap.size w W1:=by rw[hW];exact(zB2 _ _).alloc (zL9 _) _
  have d0:w.heap.size<W1.heap.size:=j0a bw;clear hW;have ak:S.b<=w.heap.size:=by have:=j0a a3.x;omega
  have aq:Fr S.b w W1:=Fr.of_below a9 (zL9 _) ak;have el:=blk1 (a3.fr aq).l;clear ba;have bG:=bit_test S.left o.length C.left (by have:=HL.out;omega)
  have ae:=st.now.keep (a9.block _ (by have:=j0a a3.g;omega))
  have aB:=j0e st.out a9 (zL9 _);have bz:S.b+9<w.heap.size:=j0a a3.g;have aw:=j3x st.buf (a9.block (S.b+6) (by omega))
  have aA:=st.met.keep (a9.block (S.b+4) (by omega))
  have f5:=ae.free 5;have cz:W1.cell? ⟨S.b+3,5,none⟩=some (.int .i64 o.length):=(j0u q5 a9 (zL9 _));have d2:(o.length:Int)<6:=by have:=HL.out;omega
  have av:((o.length:Int)==(S.L:Int))=false:=by simpa using cp
  simp only[av];cases hT:S.left.testBit o.length
  ·rw[hT] at bG;obtain⟨vb,am,v,rfl,cx,hv,d5⟩:=Vals.get (cj.below (hb.trans aq.below) (by rw[C.hb];exact zL9 _)) (show o.length<S.L by have:=HL.out;omega)
   obtain⟨Ar,l,cr,rfl,aG,c6,cu,bD⟩:=b4 _ _ hv;have cF:Ints W1 Ar l.length l:=c6.below (hb.trans aq.below) (by rw[C.hb];exact zL9 _)
   have b0:S.left.testBit (S.L-(n+1))=false:=by rw[<-HL.out];exact hT
   have a1:S.rest (n+1) c=l.findSome? (fun q=>if c.at q.toNat<S.mis.getD q.toNat 0&&S.lf o.length q then (S.rest n (c.up q.toNat)).map (fun r=>q::r) else none):=by
    rw[HL.out] at aG ⊢;simp only[Srch.rest,b0,Bool.false_eq_true,if_false,zB3,aG,Option.getD_some]
   obtain⟨F,bh⟩:∃ F:Int->Option (List Int),F=fun q=>if c.at q.toNat<S.mis.getD q.toNat 0&&S.lf o.length q then (S.rest n (c.up q.toNat)).map (fun r=>q::r) else none:=⟨_,rfl⟩
   rw[<-bh] at a1;have HR:=zQ9 (zA9 a1 (zA9 bh (zA9 aG bD)));clear a1 bh aG bD;obtain⟨y0,y1,y2,y3⟩:=show W1.cell? ⟨S.b,0,none⟩=_∧W1.cell? ⟨S.b,1,none⟩=_∧W1.cell? ⟨S.b,2,none⟩=some (.slice (some ⟨vb,am,none⟩) S.L cm)∧W1.cell? ⟨S.b,3,none⟩=some (.slice Ai ni ci) from
    ⟨j0u x0 a9 (zL9 _),j0u x1 a9 (zL9 _),j0u x2 a9 (zL9 _),j0u x3 a9 (zL9 _)⟩
   have d4:(o.length:Int)<S.L:=by have:=HL.out;omega
   have ay:o.length<S.L:=by have:=HL.out;omega
   have d8:l.length<=4294967296:=cu;go_wp2_with fail
   go_loopg [12,52] l.length (fun g _v i wr=>∃ k:Nat,k+g=l.length∧i=.int .i64 k∧∃ K',St S wr c o K'∧S.sound K'∧Fr S.b w wr∧wr.heap[w.heap.size]?=some (.cells c.cs 186 (0,0))∧(l.take k).findSome? F=none)
   case atStart=>exact⟨0,by omega,rfl,K,⟨ae,aB,aw,aA,st.len,st.ok⟩,hs,aq,bw,by simp⟩
   case round =>
    obtain⟨k,hk,rfl,K',ad,aH,a5,aF,a2⟩:=hrel;have HK:=zQ9 (zA9 hk a2);have cG:k<=l.length:=by omega
    clear hk a2;by_cases ar:k<l.length
    ·obtain⟨rb,co,x,rfl,cC,hx,d3⟩:=Ints.get (c6.below (hb.trans a5.below) (by rw[C.hb];exact zL9 _)) ar
     obtain⟨d1,dd,ce⟩:=HR.out.2.2.2 x (zB4 hx);obtain⟨oo,rfl⟩:∃ oo:Nat,x=oo:=⟨x.toNat,by omega⟩
     have cn:oo<5:=by omega
     obtain⟨mb,bj,xm,rfl,cw,bF,bs⟩:=Ints.get (be.below (hb.trans a5.below) (by rw[C.hb];exact zL9 _)) (show oo<ni by simpa using ce)
     have bt:F oo=if c.at oo<xm&&S.lf o.length oo then (S.rest n (c.up oo)).map (fun r=>(oo:Int)::r) else none:=by
      rw[HR.out.2.1];simp only[Int.toNat_natCast,zB3,bF,Option.getD_some]
     have br:(l.take (k+1)).findSome? F=F oo:=by
      rw[List.take_add_one,hx,List.findSome?_append,HK.out.2];simp
     have bE:l.findSome? F=(F oo).or ((l.drop (k+1)).findSome? F):=by
      rw[<-List.take_append_drop (k+1) l,List.findSome?_append,br];simp
     have HX:=zQ9 (zA9 hx (zA9 bt (zA9 br bE)));clear hx bt br bE bF;have a0:=ad.now.cell (i:=oo) (by omega)
     have af:=ad.now.free oo;obtain⟨ex,_,et,_,_,bu⟩:=a3.fr a5;obtain⟨z0,z1,z2,z3⟩:=show wr.cell? ⟨S.b,0,none⟩=_∧wr.cell? ⟨S.b,1,none⟩=_∧wr.cell? ⟨S.b,2,none⟩=some (.slice (some ⟨vb,am,none⟩) S.L cm)∧wr.cell? ⟨S.b,3,none⟩=some (.slice (some ⟨mb,bj,none⟩) ni ci) from
      ⟨by simp[World.cell?,ex];rfl,by simp[World.cell?,ex];rfl,by simp[World.cell?,ex],by simp[World.cell?,ex]⟩
     have ct:=blk1 et;have cg:=blk1 bu;clear ex et bu;have da:(oo:Int)<6:=by omega
     have cv:(oo:Int)<ni:=by omega
     by_cases hA:c.at oo<xm
     ·have cE:Below S.b w0 wr.drew:=j0k (hb.trans a5.below) 1;cases hLf:S.lf o.length oo
      ·go_upto_region 17 with (fail)
       have k0:=cell_regrown a0;have k1:=cell_regrown z3;have k2:=cell_regrown bs;have k3:=cell_regrown ct;have ax:S.b<=wr.heap.size:=by have:=a5.below.size;omega
       have a7:∀ d os,Calls Tryz.prog fl (fi++(#[.int .i64 o.length,.int .i64 oo]++ca)) (Sort.grow (redrawn wr d) os) (fun e w''=>e=.returned (.bool false)∧∃ p:Regrown,w''=Sort.grow (redrawn wr p.d) p.os):=fun d os=>by
        have h:=aC (Sort.grow (redrawn wr d) os) ((hb.trans a5.below).trans ((below_regrown wr d os).mono ax)) o.length oo ay (by omega) (by omega)
        rw[hLf] at h;exact Calls.regrown_of h
       have b3:=zQ9 a7;clear a7;refine wp_region_quiet_below (by kernel_rfl) (by kernel_rfl) ?_
       repeat (quiet_step (exact b3.out _ _))
       refine wpQuiet_nil ?_;intro _ b8;obtain⟨⟨dq,an⟩,ai⟩:=b8;subst ai;obtain⟨W3,ah⟩:∃ W3,W3=Sort.grow (redrawn wr dq) an:=⟨_,rfl⟩;have a8:Below wr.heap.size wr W3:=by rw[ah];exact below_regrown wr dq an
       rw[<-ah];clear ah k0 k1 k2 k3;go_wp2
       go_roundg (gk-1)
       case measure=>have:=HK.out.1;omega
       exact⟨k+1,by have:=HK.out.1;omega,by go_num,K',ad.below a8,aH,a5.trans (Fr.of_below a8 (zL9 _) ax),j0e aF a8 (zL9 _),by rw[HX.out.2.2.1,HX.out.2.1,hLf];simp⟩
      ·go_upto_region 17 with (fail)
       have k0:=cell_regrown a0;have k1:=cell_regrown z3;have k2:=cell_regrown bs;have k3:=cell_regrown ct;have k4:=cell_regrown cg;have ax:S.b<=wr.heap.size:=by have:=a5.below.size;omega
       have a7:∀ d os,Calls Tryz.prog fl (fi++(#[.int .i64 o.length,.int .i64 oo]++ca)) (Sort.grow (redrawn wr d) os) (fun e w''=>e=.returned (.bool true)∧∃ p:Regrown,w''=Sort.grow (redrawn wr p.d) p.os):=fun d os=>by
        have h:=aC (Sort.grow (redrawn wr d) os) ((hb.trans a5.below).trans ((below_regrown wr d os).mono ax)) o.length oo ay (by omega) (by omega)
        rw[hLf] at h;exact Calls.regrown_of h
       have b3:=zQ9 a7;clear a7;refine j3u 19 (by kernel_rfl) (by kernel_rfl) ?_
       simp only[List.take_succ_cons,List.take_zero,List.drop_succ_cons,List.drop_zero]
       repeat (quiet_step (exact b3.out _ _))
       refine wpQuiet_nil ?_;intro _ b8;obtain⟨⟨dq,an⟩,ai⟩:=b8;subst ai;obtain⟨W3,ah⟩:∃ W3,W3=Sort.grow (redrawn wr dq) an:=⟨_,rfl⟩;have a8:Below wr.heap.size wr W3:=by rw[ah];exact below_regrown wr dq an
       rw[<-ah];clear ah k0 k1 k2 k3 k4 b3;have aa:Fr S.b w W3:=a5.trans (Fr.of_below a8 (zL9 _) ax);have bp:=give_any S _ _ w0 n hG hL W3 c o K' oo (hb.trans aa.below) (a3.fr aa) (ad.below a8) aH (by omega) HL.out cn
       rw[<-HL.out] at bp;have cq:=zQ9 bp;clear bp;go_wp2_with fail
       refine(cq.out).mono ?_;rintro e w5 ⟨rfl,aj,c',o',bv,a6,az,a4,a2⟩;have bB:=zQ9 (zA9 a4 a2);clear a4 a2;have c0:=j0e aF a8 (zL9 _);have aE:=(aj.rest _ (j0a c0) (by omega) (by omega) (by omega) (by omega)).trans c0
       cases hr:S.rest n (c.up oo) with
       | some r =>
         simp only[hr,Option.isSome_some];have HF:=zQ9 (show S.rest (n+1) c=some ((oo:Int)::r) by
          rw[HR.out.1,HX.out.2.2.2,HX.out.2.1,hLf,hr];simp[hA])
         go_wp2
         go_ret
         have a1:=HF.out;exact⟨by rw[a1];rfl,aa.trans aj,c',o',bv,a6,az,fun r1 h1=>by(rw[a1] at h1;cases h1;rw[bB.out.1 r hr]),fun h=>by(rw[a1] at h;cases h)⟩
       | none =>
         obtain⟨rfl,rfl⟩:=bB.out.2 hr;simp only[hr,Option.isSome_none];go_wp2
         go_roundg (gk-1)
         case measure=>have:=HK.out.1;omega
         exact⟨k+1,by have:=HK.out.1;omega,by go_num,bv,a6,az,aa.trans aj,aE,by rw[HX.out.2.2.1,HX.out.2.1,hLf,hr];simp⟩
     ·go_upto_region 17 with (fail)
      go_quiet (fail)
      go_wp2
      go_roundg (gk-1)
      case measure=>have:=HK.out.1;omega
      have a8:Below wr.heap.size wr (wr.drewN nq):=j0k (zB2 _ _) _;exact⟨k+1,by have:=HK.out.1;omega,by go_num,K',ad.below a8,aH,a5.trans (Fr.of_below a8 (zL9 _) (by have:=a5.below.size;omega)),aF,by rw[HX.out.2.2.1,HX.out.2.1,show decide (c.at oo<xm)=false from decide_eq_false (by omega)];simp⟩
    ·obtain rfl:k=l.length:=by omega
     have a1:S.rest (n+1) c=none:=by rw[HR.out.1];have:=HK.out.2;rwa [List.take_length] at this
     have HN:=zQ9 a1;clear a1;obtain⟨u0,u1,u2,u3,u4,u5⟩:=Now.six (show Now wr w.heap.size c from aF)
     have c9:=blk1 (a3.fr a5).m;have ac:=ad.met;go_wp2_with (at_mapUpdate;refine q2l rfl (.tmp 78) (.tmp 79) (.const (.bool true)) rfl (S.b+4) K' c rfl (by rw[ec];rfl) rfl ac ?_;intro ob K2 ar hM b7)
     go_ret
     have a1:=HN.out;obtain⟨r1,r2,r3⟩:=k8z a5 ak ad aH hn HL.out a1 ar hM b7;exact⟨by rw[a1];rfl,r1,c,o,K2,r2,r3,fun r1 h1=>by(rw[a1] at h1;cases h1),fun _=>⟨rfl,rfl⟩⟩
  ·rw[hT] at bG;go_upto_region 9 with (fail)
   obtain⟨W2,hW⟩:∃ W2,W2=W1.setCell ⟨S.b+3,5,none⟩ (.int .i64 (o.length+1)):=⟨_,rfl⟩;rw[<-hW];have bC:Fr S.b w W2:=by rw[hW];exact aq.set ak _ _ (.inl rfl)
   have k2:∀ j,j≠S.b+3->W2.heap[j]?=W1.heap[j]?:=fun j hj=>by rw[hW];exact zB1 _ _ _ _ hj
   have b9:Now W2 (S.b+3) c.skip:=by rw[hW];exact ae.set (by omega) 1 _ (by show _=c.s+1;omega)
   have cD:w.heap.size+1<=W2.heap.size:=by rw[hW];simp;omega
   clear hW;have aD:=(k2 (S.b+7) (by omega)).trans aB
   have b5:=j3x aw (k2 (S.b+6) (by omega))
   have b6:=aA.keep (k2 (S.b+4) (by omega))
   have c7:=blk1 aD;have cc:=(k2 w.heap.size (by omega)).trans bw
   have gl:=blk1 (a3.fr bC).v;have bi:o.length+1<=S.L:=by have:=HL.out;omega
   go_wp2_with (at_builtin;refine wp_fit rfl (.tmp 34) (.tmp 35) rfl S.b (S.b+6) S.L o (-1) rfl rfl b5 bi ?_;intro W3 bf bq;have aa:=bC.grown (by omega) bq;have ag:=(bq.block (S.b+7) (by omega) (by simp)).trans aD;have d7:=blk1 ag;have cH:W3.frozen? ⟨S.b+7,0,none⟩=false:=free_of_one ag;have v3:=blk1 (a3.fr aa).v;have cy:=aa.below.size)
   obtain⟨W4,hW⟩:∃ W4,W4=W3.setCell ⟨S.b+7,0,none⟩ (Value.slice (some ⟨S.b+6,0,none⟩) (o.length+1) S.L):=⟨_,rfl⟩;rw[<-hW];have bm:Fr S.b w W4:=by rw[hW];exact aa.set (by omega) _ _ (.inr (.inl rfl))
   have k4:∀ j,j<w.heap.size+1->j≠S.b+7->j≠S.b+6->W4.heap[j]?=W2.heap[j]?:=fun j hj h7 h6=>by
    rw[hW];exact(zB1 _ _ _ _ h7).trans (bq.block j (by omega) (by intro e;cases e;exact h6 rfl))
   have cf:W4.heap[S.b+6]?=W3.heap[S.b+6]?:=by rw[hW];exact zB1 _ _ _ _ (by dsimp;omega)
   have o4:W4.heap[S.b+7]?=some (.cells #[.slice (some ⟨S.b+6,0,none⟩) (o.length+1) S.L] 25 (0,0)):=by rw[hW];exact one_setCell ag
   have cb:St S W4 c.skip (o++[-1]) K :=
    ⟨b9.keep (k4 _ (by omega) (by omega) (by omega)),by simpa using o4,by simpa using j3x bf cf,b6.keep (k4 _ (by omega) (by omega) (by omega)),by rw[Cn.skip_s c,hc];simp,
     fun i hi=>by have:=st.ok i hi;rw[Cn.skip_s c,Cn.skip_at c hi];omega⟩
   have bA:=(k4 w.heap.size (by omega) (by omega) (by omega)).trans cc
   have bn:=j0a bA;clear hW;refine(hG W4 c.skip (o++[-1]) K (hb.trans bm.below) (a3.fr bm) cb hs (by omega) (by have:=HL.out;simp;omega)).mono ?_
   rintro e w5 ⟨rfl,aj,c',o',K',a6,az,a4,a2⟩;dsimp only;have b0:S.left.testBit (S.L-(n+1))=true:=by rw[<-HL.out];exact hT
   have hF:=bm.trans aj;cases hr:S.rest n c.skip with
   | some r =>
     have a1:S.rest (n+1) c=some (-1::r):=by simp only[Srch.rest,b0,if_true,hr,Option.map_some]
     simp only[hr,Option.isSome_some];go_wp2
     go_ret
     exact⟨by rw[a1];rfl,hF,c',o',K',a6,az,fun r1 h1=>by rw[a1] at h1;cases h1;rw[a4 r hr];simp,fun h=>by rw[a1] at h;cases h⟩
   | none =>
     have a1:S.rest (n+1) c=none:=by simp only[Srch.rest,b0,if_true,hr,Option.map_none]
     simp only[hr,Option.isSome_none];have HR:=zQ9 a1;clear a1;obtain⟨rfl,rfl⟩:=a2 hr;have g5:w5.cell? ⟨S.b+3,5,none⟩=some (.int .i64 (o.length+1)):=by rw[a6.now.cell (i:=5) (by omega)];show some (Value.int _ (c.s+1))=_;rw[hc]
     have gf:=a6.now.free 5;have g7:=blk1 a6.out;have cB:w5.frozen? ⟨S.b+7,0,none⟩=false:=free_of_one a6.out;have aE:=(aj.rest _ bn (by omega) (by omega) (by omega) (by omega)).trans bA
     obtain⟨u0,u1,u2,u3,u4,u5⟩:=Now.six (show Now w5 w.heap.size c from aE)
     have d9:=blk1 (a3.fr hF).m;go_upto_region 20 with (fail)
     obtain⟨W6,hW⟩:∃ W6,W6=(w5.setCell ⟨S.b+3,5,none⟩ (.int .i64 o.length)).setCell ⟨S.b+7,0,none⟩ (.slice (some ⟨S.b+6,0,none⟩) o.length S.L):=⟨_,rfl⟩;rw[<-hW];have c4:Fr S.b w W6:=by rw[hW];exact(hF.set ak _ _ (.inl rfl)).set ak _ _ (.inr (.inl rfl))
     have k6:∀ j,j≠S.b+3->j≠S.b+7->W6.heap[j]?=w5.heap[j]?:=fun j h3 h7=>by
      rw[hW];exact(zB1 _ _ _ _ h7).trans (zB1 _ _ _ _ h3)
     have n6:Now W6 (S.b+3) c:=by
      have h0:=a6.now.set (i:=5) (by omega) (-1) (o.length:Int) (by show _=c.s+1+-1;omega)
      rw[Cn.skip_down] at h0;rw[hW];exact h0.keep (zB1 _ _ _ _ (by dsimp;omega))
     have o6:W6.heap[S.b+7]?=some (.cells #[.slice (some ⟨S.b+6,0,none⟩) o.length S.L] 25 (0,0)):=by
      rw[hW];exact one_setCell (j2m a6.out (by omega))
     have c5:St S W6 c o K':=⟨n6,o6,j3x (k9p a6.buf) (k6 _ (by omega) (by omega)),a6.met.keep (k6 _ (by omega) (by omega)),hc,st.ok⟩
     have c8:=(k6 w.heap.size (by omega) (by omega)).trans aE
     clear hW;obtain⟨u0,u1,u2,u3,u4,u5⟩:=Now.six (show Now W6 w.heap.size c from c8)
     have c9:=blk1 (a3.fr c4).m;have ac:=c5.met;go_wp2_with (at_mapUpdate;refine q2l rfl (.tmp 78) (.tmp 79) (.const (.bool true)) rfl (S.b+4) K' c rfl (by rw[ec];rfl) rfl ac ?_;intro ob K2 ar hM b7)
     go_ret
     have a1:=HR.out;obtain⟨r1,r2,r3⟩:=k8z c4 ak c5 az hn HL.out a1 ar hM b7;exact⟨by rw[a1];rfl,r1,c,o,K2,r2,r3,fun r1 h1=>by(rw[a1] at h1;cases h1),fun _=>⟨rfl,rfl⟩⟩
def j2f (ss:List Sg):Int:=((ss.map fun s=>seen s 9 6).find? (fun e=>e != 0)).getD 0
theorem k1t (s:Sg) (r:List Sg):j2f (s::r)=if seen s 9 6=0 then j2f r else seen s 9 6:=by
 unfold j2f;rw[List.map_cons,List.find?_cons];by_cases h:seen s 9 6=0
 ·simp[h]
 ·have:(seen s 9 6 != 0)=true:=by simp[h]
  simp[h,this]
theorem j9k {ss:List Sg} {k:Nat} {s:Sg} (h:∀ (i:Nat) x,i<k->ss[i]?=some x->seen x 9 6=0) (hk:ss[k]?=some s) (hs:seen s 9 6≠0):j2f ss=seen s 9 6:=by
 induction ss generalizing k with
 | nil=>simp at hk
 | cons a r ih =>
   rw[k1t];cases k with
   | zero=>simp only[List.getElem?_cons_zero,Option.some.injEq] at hk;subst hk;rw[if_neg hs]
   | succ k =>
     rw[if_pos (h 0 a (by omega) rfl)]
     exact ih (fun i x hi hx=>h (i+1) x (Nat.succ_lt_succ hi) (by simpa using hx)) (by simpa using hk)
theorem j5y {ss:List Sg}:j2f ss=0↔∀ s∈ss,seen s 9 6=0:=by
 induction ss with
 | nil=>simp[j2f]
 | cons a r ih =>
   rw[k1t];by_cases h:seen a 9 6=0
   ·rw[if_pos h,ih];simp[h]
   ·rw[if_neg h];simp[h]
def j0z (t:Int) (l:List Mk) (ss:List Sg) (mis:List Int):Int :=
 if check t l≠0 then check t l else if 6<ss.length then 6 else if j2f ss≠0 then j2f ss
 else if mis.length<l.length then 7 else if l.length<mis.length then 6 else if mis.all (fun x=>btw x 0 6) then 0 else 1
def mays (t:Int) (l:List Mk) (ss:List Sg):List (List Int):=ss.map (mayL t l)
def j2w (w:World) (t:Int) (A:Option Addr) (n c:Nat) (l:List Mk) (ss:List Sg) (Ai:Option Addr) (ni ci:Nat) (mis:List Int) (e:Ending) (w':World):Prop :=
 if j0z t l ss mis=0 then ∃ v,e=.returned (.tuple #[.agg #[.int .i64 t,.slice A n c,v,.slice Ai ni ci],.int .i64 0])∧OwnG w' w.heap.size v (mays t l ss)
 else e=.returned (.tuple #[.agg #[.int .i64 0,.slice none 0 0,.slice none 0 0,.slice none 0 0],.int .i64 (j0z t l ss mis)])
theorem q2z (t:Int) (A:Option Addr) (n c:Nat) (l:List Mk) (B:Option Addr) (m cb:Nat) (ss:List Sg) (Ai:Option Addr) (ni ci:Nat) (mis:List Int) (w:World)
 (hl:Marks w A n l) (bA:n<=c) (bu:c<=maxLen) (az:Sights w B m ss) (bG:m<=maxLen) (an:Ints w Ai ni mis) (bq:ni<=maxLen) :
 Calls Tryz.prog 118 #[.agg #[.int .i64 t,.slice A n c],.slice B m cb,.slice Ai ni ci] w fun e w'=>j2w w t A n c l ss Ai ni ci mis e w'∧Below w.heap.size w w':=by
 have HL:=zQ9 hl;have aE:=zQ9 az;have c0:=zQ9 an;have be:=hl.len;have b3:=az.len;have aH:=an.len;have HN:=zQ9 (zA9 be (zA9 b3 aH));unfold maxLen at bG bq;clear hl az an be b3 aH;go_enter Tryz.func118,Tryz.ntmps118
 go_wp2_with fail
 have av:Below w.heap.size w ((w.alloc (.cells #[.int .i64 t,.slice A n c] 24)).alloc (.cells #[.int .i64 0,.slice none 0 0,.slice none 0 0,.slice none 0 0] 172)):=bal (bal0 w _) (zL9 _) _;refine(j6x t A n c l _ (HL.out.below av (zL9 _)) bA bu).mono ?_;rintro e w1 ⟨rfl,aj⟩;have e0:=j0e (show((w.alloc (.cells #[.int .i64 t,.slice A n c] 24)).alloc (.cells #[.int .i64 0,.slice none 0 0,.slice none 0 0,.slice none 0 0] 172)).heap[w.heap.size]?=some (.cells #[.int .i64 t,.slice A n c] 24 (0,0)) from j0b (j0c rfl) _) aj (zL9 _)
 have e1:=j0e (show((w.alloc (.cells #[.int .i64 t,.slice A n c] 24)).alloc (.cells #[.int .i64 0,.slice none 0 0,.slice none 0 0,.slice none 0 0] 172)).heap[w.heap.size+1]?=some (.cells #[.int .i64 0,.slice none 0 0,.slice none 0 0,.slice none 0 0] 172 (0,0)) from j0c (by simp)) aj (zL9 _)
 have a4:Below w.heap.size w w1:=av.trans (aj.mono (by simp;omega))
 clear aj av;obtain⟨r0,r1⟩:=blk2 e0;obtain⟨s0,s1,s2,s3⟩:=blk4 e1;have f0:=frz e1 0;have f1:=frz e1 1;have f2:=frz e1 2;have f3:=frz e1 3;have z1:=j0a e1;have z0:w.heap.size<w1.heap.size:=by omega
 by_cases hck:check t l=0
 ·have h0:(check t l != 0)=false:=by simp[hck]
  have HC:=zQ9 hck;clear hck;by_cases h6:m<=6
  ·have bf:decide ((6:Int)<(m:Int))=false:=by simp;omega
   have cn:=e1;have cg:=zQ9 a4;go_wp2_with fail
   go_loopg [29] m (fun g i wr=>∃ k:Nat,k+g=m∧i=.int .i64 k∧(∀ (i:Nat) x,i<k->ss[i]?=some x->seen x 9 6=0)∧Below w1.heap.size w1 wr)
   case atStart=>exact⟨0,by omega,rfl,fun i x hi=>by omega,zB2 _ _⟩
   case round =>
    obtain⟨k,hk,rfl,b4,a6⟩:=hrel;have HK:=zQ9 (zA9 hk b4);have cf:k<=m:=by omega
    clear hk b4;have hz:=a6.size;have b9:=j0e e0 a6 (zL9 _);have a3:=j0e e1 a6 (zL9 _);by_cases hlt:k<m
    ·obtain⟨b,off,x,rfl,hb,hx,q0,q1,q2,q3,q4⟩:=Sights.get (aE.out.below (a4.trans (a6.mono a4.size)) (zL9 _)) hlt;have HX:=zQ9 hx;clear hx;by_cases a1:seen x 9 6=0
     ·have h1:(seen x 9 6 != 0)=false:=by simp[a1]
      have ax:=zQ9 a1;clear a1;go_wp2_with fail
      refine(j9c x _).mono ?_;rintro e w2 ⟨rfl,ak⟩;have aA:Below w1.heap.size w1 w2:=(bal a6 (zL9 _) _).trans (ak.mono (by simp;omega))
      go_wp2
      go_roundg (gk-1)
      case measure=>have:=HK.out.1;omega
      case rel =>
       refine⟨k+1,by have:=HK.out.1;omega,by go_num,fun i y hi hy=>?_,aA⟩
       rcases Nat.lt_or_ge i k with h|h
       ·exact HK.out.2 i y h hy
       ·obtain rfl:i=k:=by omega
        have:=HX.out.symm.trans hy;cases this;exact ax.out
     ·have h1:(seen x 9 6 != 0)=true:=by simp[a1]
      have HE:=zQ9 (show j0z t l ss mis=seen x 9 6 by
       have hb:=j9k HK.out.2 HX.out a1;unfold j0z;rw[if_neg (by simp[HC.out]),if_neg (by have:=HN.out.2.1;omega),if_pos (by rw[hb];exact a1),hb])
      have ax:=zQ9 a1;clear a1;go_wp2_with fail
      refine(j9c x _).mono ?_;rintro e w2 ⟨rfl,ak⟩;have aa:=j0e (j0b a3 (.cells #[.int .i64 x.n,.bool x.l,.bool x.r,.int .i64 x.b,.int .i64 x.p] 31)) ak (zL9 _);have a0:Below w.heap.size w w2:=a4.trans (((bal a6 (zL9 _) _).trans (ak.mono (by simp;omega))).mono a4.size)
      obtain⟨s0,s1,s2,s3⟩:=blk4 aa;have f0:=frz aa 0;have f1:=frz aa 1;have f2:=frz aa 2;have f3:=frz aa 3;have z2:=j0a aa;go_wp2
      refine bodyPost_ret (v:=.tuple #[.agg #[.int .i64 0,.slice none 0 0,.slice none 0 0,.slice none 0 0],.int .i64 (seen x 9 6)]) (by simp[results,Tryz.f118,go_sem,s0,s1,s2,s3,z2]) rfl ?_
      refine⟨?_,j3q a0 (by omega) _ _ _ _⟩
      unfold j2w;rw[HE.out,if_neg ax.out]
    ·obtain rfl:k=m:=by omega
     have ad:j2f ss=0:=j5y.2 fun s hs=>by
      obtain⟨i,hi⟩:=List.getElem?_of_mem hs;exact HK.out.2 i s (by have:=(List.getElem?_eq_some_iff.1 hi).1;have:=HN.out.2.1;omega) hi
     have b7:=zQ9 ad;clear ad;obtain⟨r0,r1⟩:=blk2 b9;obtain⟨s0,s1,s2,s3⟩:=blk4 a3;have f0:=frz a3 0;have f1:=frz a3 1;have f2:=frz a3 2;have f3:=frz a3 3;have z2:=j0a a3;have a0:Below w.heap.size w wr:=a4.trans (a6.mono a4.size);have ay:=zQ9 (show j0z t l ss mis=if mis.length<l.length then 7 else if l.length<mis.length then 6 else if mis.all (fun x=>btw x 0 6) then 0 else 1 by
      unfold j0z;rw[if_neg (by simp[HC.out]),if_neg (by have:=HN.out.2.1;omega),if_neg (by simp[b7.out])])
     rcases Nat.lt_trichotomy ni n with a2|a2|a2
     ·have h2:decide (ni<n)=true:=by simpa using a2
      have aF:decide ((ni:Int)<(n:Int))=true:=by simp;omega
      have HE:=zQ9 (show j0z t l ss mis=7 by rw[ay.out,if_pos (by have:=HN.out;omega)])
      go_wp2
      refine bodyPost_ret (v:=.tuple #[.agg #[.int .i64 0,.slice none 0 0,.slice none 0 0,.slice none 0 0],.int .i64 7]) (by simp[results,Tryz.f118,go_sem,s0,s1,s2,s3,z2]) rfl ?_
      refine⟨?_,j3q a0 (by omega) _ _ _ _⟩
      unfold j2w;rw[HE.out,if_neg (by omega)]
     ·subst a2;have h2:decide (ni<ni)=false:=by simp
      have aF:decide ((ni:Int)<(ni:Int))=false:=by simp
      have ag:=zQ9 (show j0z t l ss mis=if mis.all (fun x=>btw x 0 6) then 0 else 1 by rw[ay.out,if_neg (by have:=HN.out;omega),if_neg (by have:=HN.out;omega)])
      go_wp2_with fail
      obtain⟨wa,rfl⟩:∃ wa:World,wa=wr:=⟨_,rfl⟩;have ar:Ints wa Ai ni mis:=c0.out.below a0 (zL9 _);go_loopg [58] ni (fun g i wr=>∃ q:Nat,q+g=ni∧i=.int .i64 q∧(mis.take q).all (fun x=>btw x 0 6)=true∧wa=wr)
      case atStart=>exact⟨0,by omega,rfl,by simp,rfl⟩
      case round =>
       obtain⟨q,hq,rfl,hall,rfl⟩:=hrel;have HQ:=zQ9 (zA9 hq hall);have co:q<=ni:=by omega
       clear hq hall;by_cases hlt:q<ni
       ·obtain⟨b,off,x,rfl,hb,hx,q0⟩:=Ints.get ar hlt;have HX:=zQ9 hx;clear hx;cases hbt:btw x 0 6
        ·have HE:=zQ9 (show j0z t l ss mis=1 by
          rw[ag.out,k2c HX.out hbt];rfl)
         go_wp2_with (go_at_call 106;refine(j2g _ _ _ _).mono ?_;rintro e w' ⟨rfl,rfl⟩)
         refine bodyPost_ret (v:=.tuple #[.agg #[.int .i64 0,.slice none 0 0,.slice none 0 0,.slice none 0 0],.int .i64 1]) (by simp[results,Tryz.f118,go_sem,s0,s1,s2,s3,z2]) rfl ?_
         refine⟨?_,j3q a0 (by omega) _ _ _ _⟩
         unfold j2w;rw[HE.out,if_neg (by omega)]
        ·have bC:=zQ9 hbt;go_wp2_with (go_at_call 106;refine(j2g _ _ _ _).mono ?_;rintro e w' ⟨rfl,rfl⟩)
         go_roundg (gk-1)
         case measure=>have:=HQ.out.1;omega
         case rel=>exact⟨q+1,by have:=HQ.out.1;omega,by go_num,k0b HQ.out.2 HX.out bC.out,rfl⟩
       ·obtain rfl:q=ni:=by omega
        have HE:=zQ9 (show j0z t l ss mis=0 by
         have h:=HQ.out.2;rw[zB8 (by have:=HN.out.2.2;omega)] at h
         rw[ag.out,h];rfl)
        go_wp2_with fail
        obtain⟨W0,hW⟩:∃ W0,W0=wa.alloc (.cells #[.int .i64 t,.slice A q c,.slice none 0 0,.slice Ai q ci] 172):=⟨_,rfl⟩;rw[<-hW];have bB:W0.heap[wa.heap.size]?=some (.cells #[.int .i64 t,.slice A q c,.slice none 0 0,.slice Ai q ci] 172 (0,0)):=by rw[hW];exact j0c rfl
        have bp:Below wa.heap.size wa W0:=by rw[hW];exact bal0 wa _
        have b0:W0.heap.size=wa.heap.size+1:=by rw[hW];simp
        clear hW;have HZ:=zQ9 b0;have bj:wa.heap.size<W0.heap.size:=by omega
        clear b0;have c8:k<=6:=h6;clear r0 r1 s0 s1 s2 s3 f0 f1 f2 f3;go_loopg [73] k (fun g i wr=>∃ j:Nat,j+g=k∧i=.int .i64 j∧∃ v mv,wr.heap[wa.heap.size]?=some (.cells #[.int .i64 t,.slice A q c,v,.slice Ai q ci] 172 (0,0))∧Own eVal 25 1 wr W0.heap.size v mv∧Rws wr W0.heap.size mv ((mays t l ss).take j)∧Below wa.heap.size wa wr)
        case atStart=>exact⟨0,by omega,rfl,_,[],bB,Own.nil_,⟨by simp,fun i v h=>by simp at h⟩,bp⟩
        case round =>
         obtain⟨j,hj,rfl,v,mv,bx,a8,ae,af⟩:=hrel;have HJ:=zQ9 (zA9 hj (zA9 a8 ae));have ce:j<=k:=by omega
         clear hj a8 ae;obtain⟨x0,x1,x2,x3⟩:=blk4 bx;have zx:=j0a bx;by_cases hlt:j<k
         ·obtain⟨b,off,x,rfl,hb,hx,q0,q1,q2,q3,q4⟩:=Sights.get (aE.out.below (a0.trans (af.mono a0.size)) (zL9 _)) hlt;go_upto_region 27 with (fail)
          obtain⟨Wy,hW⟩:∃ Wy,Wy=wr.alloc (.cells #[.int .i64 x.n,.bool x.l,.bool x.r,.int .i64 x.b,.int .i64 x.p] 31):=⟨_,rfl⟩;rw[<-hW];have bs:Wy.heap[wr.heap.size]?=some (.cells #[.int .i64 x.n,.bool x.l,.bool x.r,.int .i64 x.b,.int .i64 x.p] 31 (0,0)):=by rw[hW];exact j0c rfl
          have ai:Wy.heap[wa.heap.size]?=some (.cells #[.int .i64 t,.slice A q c,v,.slice Ai q ci] 172 (0,0)):=by rw[hW];exact j0b bx _
          have am:Below wr.heap.size wr Wy:=by rw[hW];exact bal0 wr _
          have a8:=HJ.out.2.1.below am (zL9 _);have ae:Rws Wy W0.heap.size mv ((mays t l ss).take j):=⟨HJ.out.2.2.1,fun i v hv=>by
           obtain⟨l',bn,ho⟩:=HJ.out.2.2.2 i v hv;exact⟨l',bn,ho.below am (zL9 _)⟩⟩
          have cj:wr.heap.size<Wy.heap.size:=j0a bs;clear hW;have HX:=zQ9 hx;have aD:Below wa.heap.size wa Wy:=af.trans (am.mono af.size);have b8:Marks Wy A q l:=HL.out.below (a0.trans (aD.mono a0.size)) (zL9 _);have ah:x∈ss:=zB4 hx;have a1:=j5y.1 b7.out x ah;obtain⟨bh,bv⟩:=(j6o a1).1;have bm:=zQ9 (show ∀ m∈l,0<=m.n∧m.n<=255 from fun m hm=>(j3h HC.out m hm).1)
          have ca:q<=5:=by have:=(j2d HC.out).2.2.1;have:=HN.out.1;omega
          obtain⟨x0,x1,x2,x3⟩:=blk4 ai;obtain⟨y0,y1,y2,y3,y4⟩:=blk5 bs;have fx:=frz ai 2;have b6:v.ownBlock≠some wa.heap.size:=fun h=>by have:=a8.lt _ h;omega
          have bw:v.ownBlock≠some wr.heap.size:=fun h=>by have:=HJ.out.2.1.lt _ h;omega
          have HO:=zQ9 (zA9 a8 (zA9 ae (zA9 b8 (zA9 ai bs))));have br:mv.length<=6:=by
           have h1:=HJ.out.2.2.1;rw[List.length_take] at h1;omega
          clear a8 ae b8 bx ai bs hx a1 q0 q1 q2 q3 q4 am b9 a3 ah;have b5:wa.heap.size<Wy.heap.size:=by omega
          have aB:W0.heap.size<=Wy.heap.size:=by have:=HZ.out;omega
          go_region_law (first
           | (go_simp;go_at_call 114;refine(k9g t A q c l x _ ?_ ?_ bh bv bm.out).mono ?_;(exact HO.out.2.2.1.drew);(omega);rintro e w3 ⟨u,rfl,hu,a5⟩;have a5:=bundrew a5;obtain⟨aG,aC⟩:=bc a5;obtain⟨Au,cu,rfl,bt,bF,bE⟩:=hu.form j0n;have HU:=zQ9 (zA9 hu a5);have ba:wa.heap.size<w3.heap.size:=(by have:=a5.size;omega);have c6:wr.heap.size<w3.heap.size:=(by have:=a5.size;omega);have c9:W0.heap.size<=w3.heap.size:=(by have:=a5.size;omega);clear hu a5 bt bF bE)
           | (refine k3x j8g (by rfl) _ _ (by rfl) W0.heap.size v mv (Value.slice Au (mayL t l x).length cu) #[Value.slice Au (mayL t l x).length cu] w3.heap.size (by rfl) (by rfl) (heap_alloc_new w3 _) rfl rfl (by simp[eVal,Value.oneCell']) ((HO.out.1.below HU.out.2 (zL9 _)).alloc _) (by omega) (by omega) (by simp;omega) ?_;intro g4 aw w4 ao a7 cc;have c4:w4.frozen? ⟨wa.heap.size,2,none⟩=false:=(by rw[a7.frozen_far _ (by simp;omega) (by intro h;exact b6 h.symm)];refine frz_al ?_ ba;rw[aC _ _ b5];exact fx);have bi:w4.cell? ⟨wa.heap.size,2,none⟩=some v:=(by rw[a7.cell_far _ (by simp;omega) (by intro h;exact b6 h.symm),World.cell?_alloc_lt _ _ _ ba,aG _ _ b5];exact x2)))
          all_goals
           obtain⟨n1,n2,n3,n4⟩:=q4s HO.out.2.2.2.1 HO.out.1 HO.out.2.1 (by have:=HZ.out;omega) aB HU.out.2 HU.out.1 ao a7
           have aq:=zQ9 (zA9 n1 (zA9 n2 n3));clear n1 n2 n3;have n5:=aD.trans n4;clear aG aC x0 x1 x2 x3 y0 y1 y2 y3 y4 c4 bi;generalize w4.setCell { block:=wa.heap.size,off:=2 } (Value.slice (some { block:=g4,off:=0 }) (mv.length+1) aw)=w5 at *
           go_wp2
           go_roundg (gk-1)
           case measure=>have:=HJ.out.1;omega
           case rel =>
            refine⟨j+1,by have:=HJ.out.1;omega,by go_num,_,_,aq.out.1,aq.out.2.1,?_,n5⟩
            have h:=aq.out.2.2;rw[show(mays t l ss).take (j+1)=(mays t l ss).take j++[mayL t l x] by
             unfold mays;rw[List.take_add_one,List.getElem?_map,HX.out];rfl]
            exact h
         ·obtain rfl:j=k:=by omega
          have ac:=zQ9 (show OwnG wr W0.heap.size v (mays t l ss) from⟨mv,HJ.out.2.1,by
           have h:=HJ.out.2.2
           rwa [zB8 (by unfold mays;rw[List.length_map];have:=HN.out.2.1;omega)] at h⟩)
          have a9:=j0e (j0e a3 af (zL9 _)) (zB2 _ _) (zL9 _);obtain⟨Av,cv,rfl,bo,bD,bz⟩:=HJ.out.2.1.form j2t;clear bo bD bz;have f0:=frz a9 0;have f1:=frz a9 1;have f2:=frz a9 2;have f3:=frz a9 3;obtain⟨s0,s1,s2,s3⟩:=blk4 a9;have zw:=j0a a9;go_wp2
          refine bodyPost_ret (v:=.tuple #[.agg #[.int .i64 t,.slice A q c,.slice Av mv.length cv,.slice Ai q ci],.int .i64 0]) (by simp[results,Tryz.f118,go_sem,s0,s1,s2,s3,zw]) rfl ?_
          refine⟨?_,j3q (a0.trans (af.mono a0.size)) (by omega) _ _ _ _⟩
          unfold j2w;rw[if_pos HE.out];refine⟨_,rfl,?_⟩;have hz:=a0.size;have c7:=HZ.out;exact(ac.out.upon (fun jj hj=>q5a (by omega) _ _ _ _)).mono (by omega)
     ·have h2:decide (ni<n)=false:=by simp;omega
      have aF:decide ((ni:Int)<(n:Int))=false:=by simp;omega
      have h3:decide (n<ni)=true:=by simpa using a2
      have c5:decide ((n:Int)<(ni:Int))=true:=by simp;omega
      have HE:=zQ9 (show j0z t l ss mis=6 by rw[ay.out,if_neg (by have:=HN.out;omega),if_pos (by have:=HN.out;omega)])
      go_wp2
      refine bodyPost_ret (v:=.tuple #[.agg #[.int .i64 0,.slice none 0 0,.slice none 0 0,.slice none 0 0],.int .i64 6]) (by simp[results,Tryz.f118,go_sem,s0,s1,s2,s3,z2]) rfl ?_
      refine⟨?_,j3q a0 (by omega) _ _ _ _⟩
      unfold j2w;rw[HE.out,if_neg (by omega)]
  ·have bf:decide ((6:Int)<(m:Int))=true:=by simp;omega
   have HE:=zQ9 (show j0z t l ss mis=6 by unfold j0z;rw[if_neg (by simp[HC.out]),if_pos (by have:=HN.out.2.1;omega)])
   go_wp2
   refine bodyPost_ret (v:=.tuple #[.agg #[.int .i64 0,.slice none 0 0,.slice none 0 0,.slice none 0 0],.int .i64 6]) (by simp[results,Tryz.f118,go_sem,s0,s1,s2,s3,z1]) rfl ?_
   refine⟨?_,j3q a4 (by omega) _ _ _ _⟩
   unfold j2w;rw[HE.out,if_neg (by omega)]
 ·have h0:(check t l != 0)=true:=by simp[hck]
  have HE:=zQ9 (show j0z t l ss mis=check t l by unfold j0z;rw[if_pos hck])
  have HC:=zQ9 hck;clear hck;go_wp2
  refine bodyPost_ret (v:=.tuple #[.agg #[.int .i64 0,.slice none 0 0,.slice none 0 0,.slice none 0 0],.int .i64 (check t l)]) (by simp[results,Tryz.f118,go_sem,s0,s1,s2,s3,z1]) rfl ?_
  refine⟨?_,j3q a4 (by omega) _ _ _ _⟩
  unfold j2w;rw[HE.out,if_neg HC.out]
end Go.Proofs.YtmennjmjakdkcaaGreat
