/- HerdParts. -/
import Derived.Test.YtmennjmjakdkcaaGreatPt10
set_option linter.unusedVariables false
set_option linter.unusedSimpArgs false
set_option maxRecDepth 100000
set_option maxHeartbeats 4000000
namespace Go.Proofs.YtmennjmjakdkcaaGreat
open Go.RowKit
def DB9 (V:World) (b:Hb) (d:De) (p:Nat) (w:World):Prop:=w.heap[p]?=some b.obj∧w.heap[p+1]?=some (dObj d)∧Below V.heap.size V w
theorem DB9.step {V w w':World} {b:Hb} {d:De} {p:Nat} (h:DB9 V b d p w) (hb:Below w.heap.size w w'):DB9 V b d p w':=⟨j0e h.1 hb (zL9 _),j0e h.2.1 hb (zL9 _),h.2.2.trans (hb.mono h.2.2.size)⟩
theorem DB9.start (w:World) (b:Hb) (d:De):DB9 w b d w.heap.size ((w.alloc b.obj).alloc (dObj d)):=⟨j0b (j0c rfl) _,j0c (by simp),bal (bal0 _ _) (zL9 _) _⟩
theorem k3k (b:Hb) (d:De) (w:World) (hn:b.l.length<=maxLen) (hk:b.ks.length<=maxLen) :
 Calls Tryz.prog 109 #[b.v,dv d] w fun e w'=>e=.returned (.int .i64 (fldE b.l.length b.ks.length d))∧Below w.heap.size w w':=by
 obtain⟨V,hV⟩:∃ V,V=(w.alloc b.obj).alloc (dObj d):=⟨_,rfl⟩;obtain⟨p,hp⟩:∃ p,p=w.heap.size:=⟨_,rfl⟩;have HB:=zQ9 (show DB9 w b d p V by rw[hV,hp];exact DB9.start w b d)
 obtain⟨z0,z1,z2,z3,z4,z5,z6,z7,z8,z9,a3,a1⟩:=blkD HB.o.2.1;obtain⟨c0,c1,c2,c3,c4⟩:=j0h HB.o.1;have a4:=j0a HB.o.1;have a2:=j0a HB.o.2.1;obtain⟨o1,ag⟩:∃ o1,o1=ownB b.l.length d.owner:=⟨_,rfl⟩;obtain⟨o2,af⟩:∃ o2,o2=ownB b.l.length d.other:=⟨_,rfl⟩;obtain⟨f1,aj⟩:∃ f1,f1=ownB b.ks.length d.tof:=⟨_,rfl⟩;have ac:∀ W,Calls Tryz.prog 60 #[.agg #[.int .i64 b.t,.slice b.A b.l.length b.c,.slice b.Ak b.ks.length b.ck,.slice b.Ah b.hs.length b.ch,.slice b.Ad b.ds.length b.cd],.int .i64 d.owner] W fun e w'=>e=.returned (.bool o1)∧Below W.heap.size W w':=fun W=>by rw[ag];exact j8b _ _ _ _ _ _ _ _ _ _ _ _ _ _ W hn
 have ai:∀ W,Calls Tryz.prog 60 #[.agg #[.int .i64 b.t,.slice b.A b.l.length b.c,.slice b.Ak b.ks.length b.ck,.slice b.Ah b.hs.length b.ch,.slice b.Ad b.ds.length b.cd],.int .i64 d.other] W fun e w'=>e=.returned (.bool o2)∧Below W.heap.size W w':=fun W=>by rw[af];exact j8b _ _ _ _ _ _ _ _ _ _ _ _ _ _ W hn
 have ae:∀ W,Calls Tryz.prog 86 #[.agg #[.int .i64 b.t,.slice b.A b.l.length b.c,.slice b.Ak b.ks.length b.ck,.slice b.Ah b.hs.length b.ch,.slice b.Ad b.ds.length b.cd],.int .i64 d.tof] W fun e w'=>e=.returned (.bool f1)∧Below W.heap.size W w':=fun W=>by rw[aj];exact j8a _ _ _ _ _ _ _ _ _ _ _ _ _ _ W hk
 have HO:=zQ9 (zA9 ag (zA9 af aj));obtain⟨kd,ad⟩:∃ kd,kd=d.kind:=⟨_,rfl⟩;have a5:=zQ9 ad;rw[<-ad] at z0;unfold Hb.v dv;go_enter Tryz.func109,Tryz.ntmps109
 go_upto_region 1 with (fail)
 rw[show(w.alloc (.cells #[.int .i64 b.t,b.vm,b.vk,b.vh,b.vd] 29)).alloc (.cells #[.int .i64 d.kind,.int .i64 d.flock,.int .i64 d.owner,.int .i64 d.other,.int .i64 d.tof,.int .i64 d.many,.int .i64 d.err,.int .i64 d.s.n,.bool d.s.l,.bool d.s.r,.int .i64 d.s.b,.int .i64 d.s.p] 33)=V from hV.symm,<-hp]
 clear hV hp ag af aj ad;obtain hkk|h:(kd=1∨kd=3)∨(kd≠1∧kd≠3):=by omega
 ·have a7:fldE b.l.length b.ks.length d=if o1=false then 3 else if btw d.many 1 20=false then 1 else 0:=by
   unfold fldE;rw[if_pos (by rw[<-a5.o];exact hkk),HO.o.1]
  obtain⟨m1,a6⟩:∃ m1,m1=btw d.many 1 20:=⟨_,rfl⟩;have a9:∀ W,Calls Tryz.prog 105 #[.int .i64 d.many,.int .i64 1,.int .i64 20] W fun e w'=>e=.returned (.bool m1)∧Below W.heap.size W w':=fun W=>by rw[a6];exact(j2j _ _ _ _).mono fun e w' ⟨a,c⟩=>⟨a,c ▸ zB2 _ _⟩
  rw[<-a6] at a7;have a8:=zQ9 a7;clear a6 a7;rcases hkk with rfl|rfl
  all_goals
   cases o1
   ·go_wp2_with (first|(go_at_call 60;(with_reducible refine(ac _).mono ?_);rintro e wn ⟨rfl,a0⟩;replace HB:=zQ9 (HB.o.step a0);clear a0;(try clear z0 z1 z2 z3 z4 z5 z6 z7 z8 z9 a3 a1 c0 c1 c2 c3 c4 a4 a2);obtain⟨z0,z1,z2,z3,z4,z5,z6,z7,z8,z9,a3,a1⟩:=blkD HB.o.2.1;obtain⟨c0,c1,c2,c3,c4⟩:=j0h HB.o.1;have a4:=j0a HB.o.1;have a2:=j0a HB.o.2.1;try rw[<-a5.o] at z0))
    go_ret
    exact⟨j0j (by rw[a8.o];rfl),HB.o.2.2⟩
   ·cases m1
    all_goals
     go_wp2_with (first|(go_at_call 60;(with_reducible refine(ac _).mono ?_);rintro e wn ⟨rfl,a0⟩;replace HB:=zQ9 (HB.o.step a0);clear a0;(try clear z0 z1 z2 z3 z4 z5 z6 z7 z8 z9 a3 a1 c0 c1 c2 c3 c4 a4 a2);obtain⟨z0,z1,z2,z3,z4,z5,z6,z7,z8,z9,a3,a1⟩:=blkD HB.o.2.1;obtain⟨c0,c1,c2,c3,c4⟩:=j0h HB.o.1;have a4:=j0a HB.o.1;have a2:=j0a HB.o.2.1;try rw[<-a5.o] at z0)|(go_at_call 105;(with_reducible refine(a9 _).mono ?_);rintro e wn ⟨rfl,a0⟩;replace HB:=zQ9 (HB.o.step a0);clear a0;(try clear z0 z1 z2 z3 z4 z5 z6 z7 z8 z9 a3 a1 c0 c1 c2 c3 c4 a4 a2);obtain⟨z0,z1,z2,z3,z4,z5,z6,z7,z8,z9,a3,a1⟩:=blkD HB.o.2.1;obtain⟨c0,c1,c2,c3,c4⟩:=j0h HB.o.1;have a4:=j0a HB.o.1;have a2:=j0a HB.o.2.1;try rw[<-a5.o] at z0))
     go_ret
     exact⟨j0j (by rw[a8.o];rfl),HB.o.2.2⟩
 obtain rfl|h2:kd=2∨kd≠2:=by omega
 ·have a7:fldE b.l.length b.ks.length d=if o1=false∨o2=false then 3 else if d.owner=d.other then 4 else if btw d.many 1 20=false then 1 else 0:=by
   unfold fldE;rw[if_neg (by rw[<-a5.o];omega),if_pos a5.o.symm,HO.o.1,HO.o.2.1]
  obtain⟨m1,a6⟩:∃ m1,m1=btw d.many 1 20:=⟨_,rfl⟩;have a9:∀ W,Calls Tryz.prog 105 #[.int .i64 d.many,.int .i64 1,.int .i64 20] W fun e w'=>e=.returned (.bool m1)∧Below W.heap.size W w':=fun W=>by rw[a6];exact(j2j _ _ _ _).mono fun e w' ⟨a,c⟩=>⟨a,c ▸ zB2 _ _⟩
  rw[<-a6] at a7;have a8:=zQ9 a7;clear a6 a7;cases o1
  ·go_wp2_with (first|(go_at_call 60;(with_reducible refine(ac _).mono ?_);rintro e wn ⟨rfl,a0⟩;replace HB:=zQ9 (HB.o.step a0);clear a0;(try clear z0 z1 z2 z3 z4 z5 z6 z7 z8 z9 a3 a1 c0 c1 c2 c3 c4 a4 a2);obtain⟨z0,z1,z2,z3,z4,z5,z6,z7,z8,z9,a3,a1⟩:=blkD HB.o.2.1;obtain⟨c0,c1,c2,c3,c4⟩:=j0h HB.o.1;have a4:=j0a HB.o.1;have a2:=j0a HB.o.2.1;try rw[<-a5.o] at z0))
   go_ret
   exact⟨j0j (by rw[a8.o];rfl),HB.o.2.2⟩
  cases o2
  ·go_wp2_with (first|(go_at_call 60;(with_reducible refine(ac _).mono ?_);rintro e wn ⟨rfl,a0⟩;replace HB:=zQ9 (HB.o.step a0);clear a0;(try clear z0 z1 z2 z3 z4 z5 z6 z7 z8 z9 a3 a1 c0 c1 c2 c3 c4 a4 a2);obtain⟨z0,z1,z2,z3,z4,z5,z6,z7,z8,z9,a3,a1⟩:=blkD HB.o.2.1;obtain⟨c0,c1,c2,c3,c4⟩:=j0h HB.o.1;have a4:=j0a HB.o.1;have a2:=j0a HB.o.2.1;try rw[<-a5.o] at z0)|(go_at_call 60;(with_reducible refine(ai _).mono ?_);rintro e wn ⟨rfl,a0⟩;replace HB:=zQ9 (HB.o.step a0);clear a0;(try clear z0 z1 z2 z3 z4 z5 z6 z7 z8 z9 a3 a1 c0 c1 c2 c3 c4 a4 a2);obtain⟨z0,z1,z2,z3,z4,z5,z6,z7,z8,z9,a3,a1⟩:=blkD HB.o.2.1;obtain⟨c0,c1,c2,c3,c4⟩:=j0h HB.o.1;have a4:=j0a HB.o.1;have a2:=j0a HB.o.2.1;try rw[<-a5.o] at z0))
   go_ret
   exact⟨j0j (by rw[a8.o];rfl),HB.o.2.2⟩
  by_cases hoo:d.owner=d.other
  ·have e1:(d.other==d.owner)=true:=by simp[hoo]
   have aa:=zQ9 hoo;clear hoo;go_wp2_with (first|(go_at_call 60;(with_reducible refine(ac _).mono ?_);rintro e wn ⟨rfl,a0⟩;replace HB:=zQ9 (HB.o.step a0);clear a0;(try clear z0 z1 z2 z3 z4 z5 z6 z7 z8 z9 a3 a1 c0 c1 c2 c3 c4 a4 a2);obtain⟨z0,z1,z2,z3,z4,z5,z6,z7,z8,z9,a3,a1⟩:=blkD HB.o.2.1;obtain⟨c0,c1,c2,c3,c4⟩:=j0h HB.o.1;have a4:=j0a HB.o.1;have a2:=j0a HB.o.2.1;try rw[<-a5.o] at z0)|(go_at_call 60;(with_reducible refine(ai _).mono ?_);rintro e wn ⟨rfl,a0⟩;replace HB:=zQ9 (HB.o.step a0);clear a0;(try clear z0 z1 z2 z3 z4 z5 z6 z7 z8 z9 a3 a1 c0 c1 c2 c3 c4 a4 a2);obtain⟨z0,z1,z2,z3,z4,z5,z6,z7,z8,z9,a3,a1⟩:=blkD HB.o.2.1;obtain⟨c0,c1,c2,c3,c4⟩:=j0h HB.o.1;have a4:=j0a HB.o.1;have a2:=j0a HB.o.2.1;try rw[<-a5.o] at z0))
   go_ret
   exact⟨j0j (by rw[a8.o,if_neg (by decide),if_pos aa.o]),HB.o.2.2⟩
  ·have e1:(d.other==d.owner)=false:=beq_eq_false_iff_ne.2 (fun e=>hoo e.symm)
   have aa:=zQ9 hoo;clear hoo;cases m1
   all_goals
    go_wp2_with (first|(go_at_call 60;(with_reducible refine(ac _).mono ?_);rintro e wn ⟨rfl,a0⟩;replace HB:=zQ9 (HB.o.step a0);clear a0;(try clear z0 z1 z2 z3 z4 z5 z6 z7 z8 z9 a3 a1 c0 c1 c2 c3 c4 a4 a2);obtain⟨z0,z1,z2,z3,z4,z5,z6,z7,z8,z9,a3,a1⟩:=blkD HB.o.2.1;obtain⟨c0,c1,c2,c3,c4⟩:=j0h HB.o.1;have a4:=j0a HB.o.1;have a2:=j0a HB.o.2.1;try rw[<-a5.o] at z0)|(go_at_call 60;(with_reducible refine(ai _).mono ?_);rintro e wn ⟨rfl,a0⟩;replace HB:=zQ9 (HB.o.step a0);clear a0;(try clear z0 z1 z2 z3 z4 z5 z6 z7 z8 z9 a3 a1 c0 c1 c2 c3 c4 a4 a2);obtain⟨z0,z1,z2,z3,z4,z5,z6,z7,z8,z9,a3,a1⟩:=blkD HB.o.2.1;obtain⟨c0,c1,c2,c3,c4⟩:=j0h HB.o.1;have a4:=j0a HB.o.1;have a2:=j0a HB.o.2.1;try rw[<-a5.o] at z0)|(go_at_call 105;(with_reducible refine(a9 _).mono ?_);rintro e wn ⟨rfl,a0⟩;replace HB:=zQ9 (HB.o.step a0);clear a0;(try clear z0 z1 z2 z3 z4 z5 z6 z7 z8 z9 a3 a1 c0 c1 c2 c3 c4 a4 a2);obtain⟨z0,z1,z2,z3,z4,z5,z6,z7,z8,z9,a3,a1⟩:=blkD HB.o.2.1;obtain⟨c0,c1,c2,c3,c4⟩:=j0h HB.o.1;have a4:=j0a HB.o.1;have a2:=j0a HB.o.2.1;try rw[<-a5.o] at z0))
    go_ret
    exact⟨j0j (by rw[a8.o,if_neg (by decide),if_neg aa.o];rfl),HB.o.2.2⟩
 obtain rfl|h4:kd=4∨kd≠4:=by omega
 ·have a7:fldE b.l.length b.ks.length d=if btw d.many 1 3=false then 1 else 0:=by
   unfold fldE;rw[if_neg (by rw[<-a5.o];omega),if_neg (by rw[<-a5.o];omega),if_pos a5.o.symm]
  obtain⟨m1,a6⟩:∃ m1,m1=btw d.many 1 3:=⟨_,rfl⟩;have a9:∀ W,Calls Tryz.prog 105 #[.int .i64 d.many,.int .i64 1,.int .i64 3] W fun e w'=>e=.returned (.bool m1)∧Below W.heap.size W w':=fun W=>by rw[a6];exact(j2j _ _ _ _).mono fun e w' ⟨a,c⟩=>⟨a,c ▸ zB2 _ _⟩
  rw[<-a6] at a7;have a8:=zQ9 a7;clear a6 a7;cases m1
  all_goals
   go_wp2_with (first|(go_at_call 105;(with_reducible refine(a9 _).mono ?_);rintro e wn ⟨rfl,a0⟩;replace HB:=zQ9 (HB.o.step a0);clear a0;(try clear z0 z1 z2 z3 z4 z5 z6 z7 z8 z9 a3 a1 c0 c1 c2 c3 c4 a4 a2);obtain⟨z0,z1,z2,z3,z4,z5,z6,z7,z8,z9,a3,a1⟩:=blkD HB.o.2.1;obtain⟨c0,c1,c2,c3,c4⟩:=j0h HB.o.1;have a4:=j0a HB.o.1;have a2:=j0a HB.o.2.1;try rw[<-a5.o] at z0))
   go_ret
   exact⟨j0j (by rw[a8.o];rfl),HB.o.2.2⟩
 obtain rfl|h5:kd=5∨kd≠5:=by omega
 ·have a7:fldE b.l.length b.ks.length d=if f1=false then 3 else if d.tof=d.flock then 4 else seen d.s 9 6:=by
   unfold fldE;rw[if_neg (by rw[<-a5.o];omega),if_neg (by rw[<-a5.o];omega),if_neg (by rw[<-a5.o];omega),if_pos a5.o.symm,HO.o.2.2]
  obtain⟨m1,a6⟩:∃ m1,m1=seen d.s 9 6:=⟨_,rfl⟩;have hcs:∀ W,Calls Tryz.prog 87 #[.agg #[.int .i64 d.s.n,.bool d.s.l,.bool d.s.r,.int .i64 d.s.b,.int .i64 d.s.p]] W fun e w'=>e=.returned (.int .i64 m1)∧Below W.heap.size W w':=fun W=>by rw[a6];exact k2y d.s W
  rw[<-a6] at a7;have a8:=zQ9 a7;clear a6 a7;cases f1
  ·go_wp2_with (first|(go_at_call 86;(with_reducible refine(ae _).mono ?_);rintro e wn ⟨rfl,a0⟩;replace HB:=zQ9 (HB.o.step a0);clear a0;(try clear z0 z1 z2 z3 z4 z5 z6 z7 z8 z9 a3 a1 c0 c1 c2 c3 c4 a4 a2);obtain⟨z0,z1,z2,z3,z4,z5,z6,z7,z8,z9,a3,a1⟩:=blkD HB.o.2.1;obtain⟨c0,c1,c2,c3,c4⟩:=j0h HB.o.1;have a4:=j0a HB.o.1;have a2:=j0a HB.o.2.1;try rw[<-a5.o] at z0))
   go_ret
   exact⟨j0j (by rw[a8.o];rfl),HB.o.2.2⟩
  by_cases hoo:d.tof=d.flock
  ·have e1:(d.tof==d.flock)=true:=by simp[hoo]
   have aa:=zQ9 hoo;clear hoo;go_wp2_with (first|(go_at_call 86;(with_reducible refine(ae _).mono ?_);rintro e wn ⟨rfl,a0⟩;replace HB:=zQ9 (HB.o.step a0);clear a0;(try clear z0 z1 z2 z3 z4 z5 z6 z7 z8 z9 a3 a1 c0 c1 c2 c3 c4 a4 a2);obtain⟨z0,z1,z2,z3,z4,z5,z6,z7,z8,z9,a3,a1⟩:=blkD HB.o.2.1;obtain⟨c0,c1,c2,c3,c4⟩:=j0h HB.o.1;have a4:=j0a HB.o.1;have a2:=j0a HB.o.2.1;try rw[<-a5.o] at z0))
   go_ret
   exact⟨j0j (by rw[a8.o,if_neg (by decide),if_pos aa.o]),HB.o.2.2⟩
  ·have e1:(d.tof==d.flock)=false:=beq_eq_false_iff_ne.2 hoo;have aa:=zQ9 hoo;clear hoo;go_wp2_with (first|(go_at_call 86;(with_reducible refine(ae _).mono ?_);rintro e wn ⟨rfl,a0⟩;replace HB:=zQ9 (HB.o.step a0);clear a0;(try clear z0 z1 z2 z3 z4 z5 z6 z7 z8 z9 a3 a1 c0 c1 c2 c3 c4 a4 a2);obtain⟨z0,z1,z2,z3,z4,z5,z6,z7,z8,z9,a3,a1⟩:=blkD HB.o.2.1;obtain⟨c0,c1,c2,c3,c4⟩:=j0h HB.o.1;have a4:=j0a HB.o.1;have a2:=j0a HB.o.2.1;try rw[<-a5.o] at z0)|(go_at_call 87;(with_reducible refine(hcs _).mono ?_);rintro e wn ⟨rfl,a0⟩;replace HB:=zQ9 (HB.o.step a0);clear a0;(try clear z0 z1 z2 z3 z4 z5 z6 z7 z8 z9 a3 a1 c0 c1 c2 c3 c4 a4 a2);obtain⟨z0,z1,z2,z3,z4,z5,z6,z7,z8,z9,a3,a1⟩:=blkD HB.o.2.1;obtain⟨c0,c1,c2,c3,c4⟩:=j0h HB.o.1;have a4:=j0a HB.o.1;have a2:=j0a HB.o.2.1;try rw[<-a5.o] at z0))
   go_ret
   exact⟨j0j (by rw[a8.o,if_neg (by decide),if_neg aa.o]),HB.o.2.2⟩
 ·have a7:fldE b.l.length b.ks.length d=if btw d.many 0 300=false∨btw d.err 0 20=false then 1 else 0:=by
   unfold fldE;rw[if_neg (by rw[<-a5.o];omega),if_neg (by rw[<-a5.o];omega),if_neg (by rw[<-a5.o];omega),if_neg (by rw[<-a5.o];omega)]
  obtain⟨m1,a6⟩:∃ m1,m1=btw d.many 0 300:=⟨_,rfl⟩;obtain⟨m2,ah⟩:∃ m2,m2=btw d.err 0 20:=⟨_,rfl⟩;have a9:∀ W,Calls Tryz.prog 105 #[.int .i64 d.many,.int .i64 0,.int .i64 300] W fun e w'=>e=.returned (.bool m1)∧Below W.heap.size W w':=fun W=>by rw[a6];exact(j2j _ _ _ _).mono fun e w' ⟨a,c⟩=>⟨a,c ▸ zB2 _ _⟩
  have ak:∀ W,Calls Tryz.prog 105 #[.int .i64 d.err,.int .i64 0,.int .i64 20] W fun e w'=>e=.returned (.bool m2)∧Below W.heap.size W w':=fun W=>by rw[ah];exact(j2j _ _ _ _).mono fun e w' ⟨a,c⟩=>⟨a,c ▸ zB2 _ _⟩
  rw[<-a6,<-ah] at a7;have a8:=zQ9 a7;have k1:(kd==1)=false:=beq_eq_false_iff_ne.2 h.1;have k3:(kd==3)=false:=beq_eq_false_iff_ne.2 h.2;have k2:(kd==2)=false:=beq_eq_false_iff_ne.2 h2;have k4:(kd==4)=false:=beq_eq_false_iff_ne.2 h4;have k5:(kd==5)=false:=beq_eq_false_iff_ne.2 h5;clear a6 ah a7 h h2 h4 h5;cases m1
  ·go_wp2_with (first|(go_at_call 105;(with_reducible refine(a9 _).mono ?_);rintro e wn ⟨rfl,a0⟩;replace HB:=zQ9 (HB.o.step a0);clear a0;(try clear z0 z1 z2 z3 z4 z5 z6 z7 z8 z9 a3 a1 c0 c1 c2 c3 c4 a4 a2);obtain⟨z0,z1,z2,z3,z4,z5,z6,z7,z8,z9,a3,a1⟩:=blkD HB.o.2.1;obtain⟨c0,c1,c2,c3,c4⟩:=j0h HB.o.1;have a4:=j0a HB.o.1;have a2:=j0a HB.o.2.1;try rw[<-a5.o] at z0))
   go_ret
   exact⟨j0j (by rw[a8.o];rfl),HB.o.2.2⟩
  cases m2
  all_goals
   go_wp2_with (first|(go_at_call 105;(with_reducible refine(a9 _).mono ?_);rintro e wn ⟨rfl,a0⟩;replace HB:=zQ9 (HB.o.step a0);clear a0;(try clear z0 z1 z2 z3 z4 z5 z6 z7 z8 z9 a3 a1 c0 c1 c2 c3 c4 a4 a2);obtain⟨z0,z1,z2,z3,z4,z5,z6,z7,z8,z9,a3,a1⟩:=blkD HB.o.2.1;obtain⟨c0,c1,c2,c3,c4⟩:=j0h HB.o.1;have a4:=j0a HB.o.1;have a2:=j0a HB.o.2.1;try rw[<-a5.o] at z0)|(go_at_call 105;(with_reducible refine(ak _).mono ?_);rintro e wn ⟨rfl,a0⟩;replace HB:=zQ9 (HB.o.step a0);clear a0;(try clear z0 z1 z2 z3 z4 z5 z6 z7 z8 z9 a3 a1 c0 c1 c2 c3 c4 a4 a2);obtain⟨z0,z1,z2,z3,z4,z5,z6,z7,z8,z9,a3,a1⟩:=blkD HB.o.2.1;obtain⟨c0,c1,c2,c3,c4⟩:=j0h HB.o.1;have a4:=j0a HB.o.1;have a2:=j0a HB.o.2.1;try rw[<-a5.o] at z0))
   go_ret
   exact⟨j0j (by rw[a8.o];rfl),HB.o.2.2⟩
theorem j9n (b:Hb) (d:De) (w:World) (hn:b.l.length<=maxLen) (hk:b.ks.length<=maxLen) :
 Calls Tryz.prog 67 #[b.v,dv d] w fun e w'=>e=.returned (.int .i64 (j0v b.l.length b.ks.length d))∧Below w.heap.size w w':=by
 obtain⟨V,hV⟩:∃ V,V=(w.alloc b.obj).alloc (dObj d):=⟨_,rfl⟩;obtain⟨p,hp⟩:∃ p,p=w.heap.size:=⟨_,rfl⟩;have HB:=zQ9 (show DB9 w b d p V by rw[hV,hp];exact DB9.start w b d)
 obtain⟨z0,z1,z2,z3,z4,z5,z6,z7,z8,z9,a2,a1⟩:=blkD HB.o.2.1;obtain⟨c0,c1,c2,c3,c4⟩:=j0h HB.o.1;have a4:=j0a HB.o.1;have a3:=j0a HB.o.2.1;obtain⟨k1,af⟩:∃ k1,k1=btw d.kind 1 6:=⟨_,rfl⟩;obtain⟨f1,aa⟩:∃ f1,f1=ownB b.ks.length d.flock:=⟨_,rfl⟩;obtain⟨fe,ae⟩:∃ fe,fe=fldE b.l.length b.ks.length d:=⟨_,rfl⟩;have a5:∀ W,Calls Tryz.prog 105 #[.int .i64 d.kind,.int .i64 1,.int .i64 6] W fun e w'=>e=.returned (.bool k1)∧Below W.heap.size W w':=fun W=>by rw[af];exact(j2j _ _ _ _).mono fun e w' ⟨a,c⟩=>⟨a,c ▸ zB2 _ _⟩
 have a7:∀ W,Calls Tryz.prog 86 #[.agg #[.int .i64 b.t,.slice b.A b.l.length b.c,.slice b.Ak b.ks.length b.ck,.slice b.Ah b.hs.length b.ch,.slice b.Ad b.ds.length b.cd],.int .i64 d.flock] W fun e w'=>e=.returned (.bool f1)∧Below W.heap.size W w':=fun W=>by rw[aa];exact j8a _ _ _ _ _ _ _ _ _ _ _ _ _ _ W hk
 have a9:∀ W,Calls Tryz.prog 109 #[.agg #[.int .i64 b.t,.slice b.A b.l.length b.c,.slice b.Ak b.ks.length b.ck,.slice b.Ah b.hs.length b.ch,.slice b.Ad b.ds.length b.cd],.agg #[.int .i64 d.kind,.int .i64 d.flock,.int .i64 d.owner,.int .i64 d.other,.int .i64 d.tof,.int .i64 d.many,.int .i64 d.err,.int .i64 d.s.n,.bool d.s.l,.bool d.s.r,.int .i64 d.s.b,.int .i64 d.s.p]] W fun e w'=>e=.returned (.int .i64 fe)∧Below W.heap.size W w':=fun W=>by rw[ae];exact k3k b d W hn hk
 have ac:j0v b.l.length b.ks.length d=if k1=false then 8 else if f1=false then 3 else if fe≠0 then fe else if d≠namD d then 1 else 0:=by
  unfold j0v;rw[af,aa,ae]
 obtain⟨R,hR⟩:∃ R,R=j0v b.l.length b.ks.length d:=⟨_,rfl⟩;rw[<-hR] at ac ⊢;have HO:=zQ9 ac;clear af aa ae hR ac;unfold Hb.v dv;go_enter Tryz.func67,Tryz.ntmps67
 go_upto_region 1 with (fail)
 rw[show(w.alloc (.cells #[.int .i64 b.t,b.vm,b.vk,b.vh,b.vd] 29)).alloc (.cells #[.int .i64 d.kind,.int .i64 d.flock,.int .i64 d.owner,.int .i64 d.other,.int .i64 d.tof,.int .i64 d.many,.int .i64 d.err,.int .i64 d.s.n,.bool d.s.l,.bool d.s.r,.int .i64 d.s.b,.int .i64 d.s.p] 33)=V from hV.symm,<-hp]
 clear hV hp;cases k1
 ·go_wp2_with (first|(go_at_call 105;(with_reducible refine(a5 _).mono ?_);rintro e wn ⟨rfl,a0⟩;replace HB:=zQ9 (HB.o.step a0);clear a0;(try clear z0 z1 z2 z3 z4 z5 z6 z7 z8 z9 a2 a1 c0 c1 c2 c3 c4 a4 a3);obtain⟨z0,z1,z2,z3,z4,z5,z6,z7,z8,z9,a2,a1⟩:=blkD HB.o.2.1;obtain⟨c0,c1,c2,c3,c4⟩:=j0h HB.o.1;have a4:=j0a HB.o.1;have a3:=j0a HB.o.2.1))
  go_ret
  exact⟨j0j (by rw[HO.o];rfl),HB.o.2.2⟩
 cases f1
 ·go_wp2_with (first|(go_at_call 105;(with_reducible refine(a5 _).mono ?_);rintro e wn ⟨rfl,a0⟩;replace HB:=zQ9 (HB.o.step a0);clear a0;(try clear z0 z1 z2 z3 z4 z5 z6 z7 z8 z9 a2 a1 c0 c1 c2 c3 c4 a4 a3);obtain⟨z0,z1,z2,z3,z4,z5,z6,z7,z8,z9,a2,a1⟩:=blkD HB.o.2.1;obtain⟨c0,c1,c2,c3,c4⟩:=j0h HB.o.1;have a4:=j0a HB.o.1;have a3:=j0a HB.o.2.1)|(go_at_call 86;(with_reducible refine(a7 _).mono ?_);rintro e wn ⟨rfl,a0⟩;replace HB:=zQ9 (HB.o.step a0);clear a0;(try clear z0 z1 z2 z3 z4 z5 z6 z7 z8 z9 a2 a1 c0 c1 c2 c3 c4 a4 a3);obtain⟨z0,z1,z2,z3,z4,z5,z6,z7,z8,z9,a2,a1⟩:=blkD HB.o.2.1;obtain⟨c0,c1,c2,c3,c4⟩:=j0h HB.o.1;have a4:=j0a HB.o.1;have a3:=j0a HB.o.2.1))
  go_ret
  exact⟨j0j (by rw[HO.o];rfl),HB.o.2.2⟩
 by_cases h0:fe=0
 ·subst h0;have a8:=zQ9 (show R=if d≠namD d then 1 else 0 by rw[HO.o];rfl)
  obtain⟨x,hx⟩:∃ x,x=namD d:=⟨_,rfl⟩;have ak:∀ W,Calls Tryz.prog 110 #[.agg #[.int .i64 d.kind,.int .i64 d.flock,.int .i64 d.owner,.int .i64 d.other,.int .i64 d.tof,.int .i64 d.many,.int .i64 d.err,.int .i64 d.s.n,.bool d.s.l,.bool d.s.r,.int .i64 d.s.b,.int .i64 d.s.p]] W fun e w'=>e=.returned (.agg #[.int .i64 x.kind,.int .i64 x.flock,.int .i64 x.owner,.int .i64 x.other,.int .i64 x.tof,.int .i64 x.many,.int .i64 x.err,.int .i64 x.s.n,.bool x.s.l,.bool x.s.r,.int .i64 x.s.b,.int .i64 x.s.p])∧Below W.heap.size W w':=fun W=>by rw[hx];exact q3d d W
  have HX:=zQ9 hx;clear hx;go_upto_region 8 with (first|(go_at_call 105;(with_reducible refine(a5 _).mono ?_);rintro e wn ⟨rfl,a0⟩;replace HB:=zQ9 (HB.o.step a0);clear a0;(try clear z0 z1 z2 z3 z4 z5 z6 z7 z8 z9 a2 a1 c0 c1 c2 c3 c4 a4 a3);obtain⟨z0,z1,z2,z3,z4,z5,z6,z7,z8,z9,a2,a1⟩:=blkD HB.o.2.1;obtain⟨c0,c1,c2,c3,c4⟩:=j0h HB.o.1;have a4:=j0a HB.o.1;have a3:=j0a HB.o.2.1)|(go_at_call 86;(with_reducible refine(a7 _).mono ?_);rintro e wn ⟨rfl,a0⟩;replace HB:=zQ9 (HB.o.step a0);clear a0;(try clear z0 z1 z2 z3 z4 z5 z6 z7 z8 z9 a2 a1 c0 c1 c2 c3 c4 a4 a3);obtain⟨z0,z1,z2,z3,z4,z5,z6,z7,z8,z9,a2,a1⟩:=blkD HB.o.2.1;obtain⟨c0,c1,c2,c3,c4⟩:=j0h HB.o.1;have a4:=j0a HB.o.1;have a3:=j0a HB.o.2.1)|(go_at_call 109;(with_reducible refine(a9 _).mono ?_);rintro e wn ⟨rfl,a0⟩;replace HB:=zQ9 (HB.o.step a0);clear a0;(try clear z0 z1 z2 z3 z4 z5 z6 z7 z8 z9 a2 a1 c0 c1 c2 c3 c4 a4 a3);obtain⟨z0,z1,z2,z3,z4,z5,z6,z7,z8,z9,a2,a1⟩:=blkD HB.o.2.1;obtain⟨c0,c1,c2,c3,c4⟩:=j0h HB.o.1;have a4:=j0a HB.o.1;have a3:=j0a HB.o.2.1))
  obtain⟨w2,ai⟩:∃ w2:World,w2=wn:=⟨_,rfl⟩;rw[<-ai] at HB ⊢;clear ai z0 z1 z2 z3 z4 z5 z6 z7 z8 z9 a2 a1 c0 c1 c2 c3 c4 a4 a3;obtain⟨z0,z1,z2,z3,z4,z5,z6,z7,z8,z9,a2,a1⟩:=blkD HB.o.2.1;have a3:=j0a HB.o.2.1;have k0:=zA9 (cell_regrown z0) (zA9 (cell_regrown z1) (zA9 (cell_regrown z2) (zA9 (cell_regrown z3) (zA9 (cell_regrown z4) (cell_regrown z5)))));have k6:=zA9 (cell_regrown z6) (zA9 (cell_regrown z7) (zA9 (cell_regrown z8) (zA9 (cell_regrown z9) (zA9 (cell_regrown a2) (cell_regrown a1)))));have cN:∀ d' os,Calls Tryz.prog 110 #[.agg #[.int .i64 d.kind,.int .i64 d.flock,.int .i64 d.owner,.int .i64 d.other,.int .i64 d.tof,.int .i64 d.many,.int .i64 d.err,.int .i64 d.s.n,.bool d.s.l,.bool d.s.r,.int .i64 d.s.b,.int .i64 d.s.p]] (Sort.grow (redrawn w2 d') os) (fun e w''=>e=.returned (.agg #[.int .i64 x.kind,.int .i64 x.flock,.int .i64 x.owner,.int .i64 x.other,.int .i64 x.tof,.int .i64 x.many,.int .i64 x.err,.int .i64 x.s.n,.bool x.s.l,.bool x.s.r,.int .i64 x.s.b,.int .i64 x.s.p])∧∃ p:Regrown,w''=Sort.grow (redrawn w2 p.d) p.os):=fun d' os=>Calls.regrown_of (ak _)
  have ag:=zQ9 cN;clear cN z0 z1 z2 z3 z4 z5 z6 z7 z8 z9 a2 a1 ak a5 a7 a9;refine j3u 3 (by kernel_rfl) (by kernel_rfl) ?_
  simp only[List.take_succ_cons,List.take_zero,List.drop_succ_cons,List.drop_zero]
  repeat (quiet_step (exact ag.o _ _))
  refine wpQuiet_nil ?_;intro _ am;obtain⟨⟨dq,aj⟩,ah⟩:=am;subst ah;have ad:=zQ9 (HB.o.2.2.trans ((below_regrown w2 dq aj).mono HB.o.2.2.size));generalize Sort.grow (redrawn w2 dq) aj=w3 at ad ⊢;clear k0 k6 HB a3;by_cases hdx:d=x
  ·have a6:=zQ9 (show R=0 by rw[a8.o,if_neg (by rw[<-HX.o];exact fun h=>h hdx)])
   clear HO a8 HX ag;subst hdx;go_wp2_with fail
   go_ret
   exact⟨j0j a6.o.symm,ad.o⟩
  ·have a6:=zQ9 (show R=1∧¬d=x from⟨by rw[a8.o,if_pos (by rw[<-HX.o];exact hdx)],hdx⟩)
   clear HO a8 HX ag hdx;obtain⟨dk,df,aq,ao,dt,dm,de,⟨aE,ay,ar,ax,aw⟩⟩:=d;obtain⟨xk,xf,az,aB,xt,xm,xe,⟨aD,av,an,aA,aC⟩⟩:=x;dsimp only at *
   go_wp2_with fail
   all_goals
    first
     | (go_ret
        exact⟨j0j a6.o.1.symm,ad.o⟩)
     | (exfalso
        subst_vars
        exact a6.o.2 rfl)
 ·have x0:(fe==0)=false:=beq_eq_false_iff_ne.2 h0;have x1:(fe != 0)=true:=by simp[h0]
  have H0:=zQ9 h0;clear h0;go_wp2_with (first|(go_at_call 105;(with_reducible refine(a5 _).mono ?_);rintro e wn ⟨rfl,a0⟩;replace HB:=zQ9 (HB.o.step a0);clear a0;(try clear z0 z1 z2 z3 z4 z5 z6 z7 z8 z9 a2 a1 c0 c1 c2 c3 c4 a4 a3);obtain⟨z0,z1,z2,z3,z4,z5,z6,z7,z8,z9,a2,a1⟩:=blkD HB.o.2.1;obtain⟨c0,c1,c2,c3,c4⟩:=j0h HB.o.1;have a4:=j0a HB.o.1;have a3:=j0a HB.o.2.1)|(go_at_call 86;(with_reducible refine(a7 _).mono ?_);rintro e wn ⟨rfl,a0⟩;replace HB:=zQ9 (HB.o.step a0);clear a0;(try clear z0 z1 z2 z3 z4 z5 z6 z7 z8 z9 a2 a1 c0 c1 c2 c3 c4 a4 a3);obtain⟨z0,z1,z2,z3,z4,z5,z6,z7,z8,z9,a2,a1⟩:=blkD HB.o.2.1;obtain⟨c0,c1,c2,c3,c4⟩:=j0h HB.o.1;have a4:=j0a HB.o.1;have a3:=j0a HB.o.2.1)|(go_at_call 109;(with_reducible refine(a9 _).mono ?_);rintro e wn ⟨rfl,a0⟩;replace HB:=zQ9 (HB.o.step a0);clear a0;(try clear z0 z1 z2 z3 z4 z5 z6 z7 z8 z9 a2 a1 c0 c1 c2 c3 c4 a4 a3);obtain⟨z0,z1,z2,z3,z4,z5,z6,z7,z8,z9,a2,a1⟩:=blkD HB.o.2.1;obtain⟨c0,c1,c2,c3,c4⟩:=j0h HB.o.1;have a4:=j0a HB.o.1;have a3:=j0a HB.o.2.1))
  go_ret
  exact⟨j0j (by rw[HO.o,if_neg (by decide),if_neg (by decide),if_pos H0.o]),HB.o.2.2⟩
def BB9 (V:World) (b:Hb) (p:Nat) (w:World):Prop:=w.heap[p]?=some b.obj∧HbIn w b∧Below V.heap.size V w
theorem BB9.step {V w w':World} {b:Hb} {p:Nat} (h:BB9 V b p w) (hb:Below w.heap.size w w'):BB9 V b p w':=⟨j0e h.1 hb (zL9 _),h.2.1.below hb (zL9 _),h.2.2.trans (hb.mono h.2.2.size)⟩
theorem BB9.start {w:World} {b:Hb} (h:HbIn w b):BB9 w b w.heap.size (w.alloc b.obj):=⟨j0c rfl,h.below (bal0 _ _) (zL9 _),bal0 _ _⟩
theorem j8m {α:Type} {L:List α} {q:Nat} {x:α} {f:α->Bool} (h:(L.take q).all f=true) (hx:L[q]?=some x) (hf:f x=true):(L.take (q+1)).all f=true:=by
 rw[List.take_add_one,hx,List.all_append,h];simp[hf]
theorem k3j {α:Type} {L:List α} {q:Nat} {x:α} {f:α->Bool} (hx:L[q]?=some x) (hf:f x=false):L.all f=false:=by
 rw[List.all_eq_false];exact⟨x,zB4 hx,by simp[hf]⟩
def flk9 (t:Int) (l:List Mk) (ks:List Int) (hs:List (List Int)):Int:=if check t l≠0 then check t l else j1k l.length ks hs
theorem k3l (b:Hb) (w:World) (hin:HbIn w b) :
 Calls Tryz.prog 66 #[b.v] w fun e w'=>e=.returned (.int .i64 (flk9 b.t b.l b.ks b.hs))∧Below w.heap.size w w':=by
 obtain⟨V,hV⟩:∃ V,V=w.alloc b.obj:=⟨_,rfl⟩;obtain⟨p,hp⟩:∃ p,p=w.heap.size:=⟨_,rfl⟩;have HB:=zQ9 (show BB9 w b p V by rw[hV,hp];exact BB9.start hin)
 obtain⟨c0,c1,c2,c3,c4⟩:=j0h HB.o.1;have a1:=j0a HB.o.1;have an:b.l.length<=maxLen:=zB6 hin.mc hin.mm;have aE:b.ks.length<=maxLen:=zB6 hin.kc hin.km;have ay:b.hs.length<=maxLen:=zB6 hin.hc hin.hm;have b6:=hin.kc;have aG:=hin.km;have b3:=hin.hc;have aA:=hin.hm;have a4:=rCheck b.t b.A b.l.length b.c b.l V HB.o.2.1.m hin.mc hin.mm;obtain⟨ce,ag⟩:∃ ce,ce=check b.t b.l:=⟨_,rfl⟩;rw[<-ag] at a4;obtain⟨R,hR⟩:∃ R,R=flk9 b.t b.l b.ks b.hs:=⟨_,rfl⟩;rw[<-hR];have HR:=zQ9 (show R=if ce≠0 then ce else j1k b.l.length b.ks b.hs by rw[hR,ag];rfl)
 clear hR ag hin;unfold maxLen at an aE ay;unfold Hb.v;go_enter Tryz.func66,Tryz.ntmps66
 go_upto_region 1 with (fail)
 rw[<-hV,<-hp];clear hV hp;by_cases h0:ce=0
 ·subst h0;have a7:=zQ9 (show R=j1k b.l.length b.ks b.hs by rw[HR.o];rfl)
  clear HR;go_upto_region 4 with (go_at_call 108;(with_reducible refine a4.mono ?_);rintro e w1 ⟨rfl,a6⟩;replace HB:=zQ9 (HB.o.step a6);clear a6 c0 c1 c2 c3 c4 a1)
  clear a4;obtain⟨c0,c1,c2,c3,c4⟩:=j0h HB.o.1;have a1:=j0a HB.o.1;obtain⟨n,hn⟩:∃ n,n=b.l.length:=⟨_,rfl⟩;obtain⟨nk,aH⟩:∃ nk,nk=b.ks.length:=⟨_,rfl⟩;obtain⟨nh,b0⟩:∃ nh,nh=b.hs.length:=⟨_,rfl⟩;by_cases hk0:b.ks.length=0
  ·have e1:((b.ks.length:Int)==0)=true:=by simp[hk0]
   have HK:=zQ9 hk0;clear hk0;go_wp2_with fail
   go_ret
   exact⟨j0j (by rw[a7.o];unfold j1k;rw[if_pos HK.o]),HB.o.2.2⟩
  have e1:((b.ks.length:Int)==0)=false:=beq_eq_false_iff_ne.2 (by omega)
  have aB:=zQ9 hk0;by_cases hk3:3<b.ks.length
  ·have e2:(3:Int)<(b.ks.length:Int):=by omega
   have HK:=zQ9 hk3;clear hk3 hk0;go_wp2_with fail
   go_ret
   exact⟨j0j (by rw[a7.o];unfold j1k;rw[if_neg aB.o,if_pos HK.o]),HB.o.2.2⟩
  have e2:¬(3:Int)<(b.ks.length:Int):=by omega
  have b4:=zQ9 hk3;have af:=zQ9 (show R=if b.ks.all (ownB b.l.length)=false then 3 else if b.hs.length≠b.ks.length then 2
   else if b.hs.all (fun r=>decide (r.length=b.l.length))=false then 2 else if b.hs.all (fun r=>r.all fun x=>btw x 0 20)=false then 1 else 0 by
   rw[a7.o];unfold j1k;rw[if_neg hk0,if_neg hk3])
  clear hk0 hk3 a7;go_upto_region 9 with (fail)
  clear e1 e2;go_loopg [4] b.ks.length (fun gh v4 wr=>∃ i:Nat,i+gh=b.ks.length∧v4=.int .i64 i∧(b.ks.take i).all (ownB b.l.length)=true∧BB9 w b p wr)
  case atStart=>exact⟨0,by omega,rfl,by simp,HB.o⟩
  case round =>
   obtain⟨i,hi,rfl,hall,hB⟩:=hrel;obtain⟨w2,ai⟩:∃ W:World,W=wr:=⟨_,rfl⟩;rw[<-ai] at hB ⊢;clear ai c0 c1 c2 c3 c4 a1;obtain⟨c0,c1,c2,c3,c4⟩:=j0h hB.1;have a1:=j0a hB.1;by_cases hlt:i<b.ks.length
   ·obtain⟨bk,ok,x,eA,b7,hx,y1⟩:=Ints.get hB.2.1.k hlt;rw[eA] at c2;have i1:(i:Int)<(b.ks.length:Int):=by omega
    obtain⟨ob,ad⟩:∃ ob,ob=ownB b.l.length x:=⟨_,rfl⟩;have cO:∀ d' os,Calls Tryz.prog 60 #[.agg #[.int .i64 b.t,.slice b.A b.l.length b.c,.slice (some ⟨bk,ok,none⟩) b.ks.length b.ck,.slice b.Ah b.hs.length b.ch,.slice b.Ad b.ds.length b.cd],.int .i64 x] (Sort.grow (redrawn w2 d') os) (fun e w''=>e=.returned (.bool ob)∧∃ p:Regrown,w''=Sort.grow (redrawn w2 p.d) p.os):=fun d' os=>by
     rw[ad];exact Calls.regrown_of (j8b _ _ _ _ _ _ _ _ _ _ _ _ _ _ _ (by unfold maxLen;exact an))
    have aF:=zQ9 cO;have HI:=zQ9 (zA9 hi (zA9 hall (zA9 hB (zA9 hx ad))));have k0:=zA9 (cell_regrown c0) (zA9 (cell_regrown c1) (zA9 (cell_regrown c2) (zA9 (cell_regrown c3) (zA9 (cell_regrown c4) (cell_regrown y1)))));clear cO hi hall hB hx ad eA;go_upto_region 11 with (fail)
    clear c0 c1 c2 c3 c4 y1;refine wp_region_quiet_below (by kernel_rfl) (by kernel_rfl) ?_
    repeat (go_big_quiet_step (exact aF.o _ _))
    refine wpQuiet_nil ?_;intro _ aC;obtain⟨⟨dq,ak⟩,ah⟩:=aC;subst ah;have a2:=zQ9 (HI.o.2.2.1.step (below_regrown w2 dq ak));generalize Sort.grow (redrawn w2 dq) ak=w3 at a2 ⊢;clear k0;cases ob
    ·go_wp2_with fail
     go_ret
     exact⟨j0j (by rw[af.o,if_pos (k2c HI.o.2.2.2.1 HI.o.2.2.2.2.symm)]),a2.o.2.2⟩
    ·go_wp2_with fail
     go_roundg (gk-1)
     case measure=>have:=HI.o.1;omega
     case rel=>exact⟨i+1,by have:=HI.o.1;omega,by go_num,k0b HI.o.2.1 HI.o.2.2.2.1 HI.o.2.2.2.2.symm,a2.o⟩
   ·obtain rfl:i=b.ks.length:=by omega
    rw[List.take_length] at hall;have a9:=zQ9 (show R=if b.hs.length≠b.ks.length then 2
   else if b.hs.all (fun r=>decide (r.length=b.l.length))=false then 2 else if b.hs.all (fun r=>r.all fun x=>btw x 0 20)=false then 1 else 0 by
    rw[af.o,if_neg (by rw[hall];decide)])
    have aa:=zQ9 hB;clear HB af hall hB hi hlt;by_cases hhk:b.hs.length=b.ks.length
    ·have e3:((b.hs.length:Int)==(b.ks.length:Int))=true:=by simp[hhk]
     have ac:=zQ9 (show R=if b.hs.all (fun r=>decide (r.length=b.l.length))=false then 2 else if b.hs.all (fun r=>r.all fun x=>btw x 0 20)=false then 1 else 0 by
      rw[a9.o,if_neg (fun h=>h hhk)])
     clear hhk a9;go_upto_region 16 with (fail)
     have ar:((b.hs.length:Int) != (b.ks.length:Int))=false:=by rw[bne,e3];rfl
     rw[ar];clear e3 ar;go_loopg [5] b.hs.length (fun gh v5 wr=>∃ i:Nat,i+gh=b.hs.length∧v5=.int .i64 i∧(b.hs.take i).all (fun r=>decide (r.length=b.l.length))=true∧BB9 w b p wr)
     case atStart=>exact⟨0,by omega,rfl,by simp,aa.o⟩
     case round =>
      obtain⟨i,hi,rfl,hall,hB⟩:=hrel;obtain⟨w3,am⟩:∃ W:World,W=wr:=⟨_,rfl⟩;rw[<-am] at hB ⊢;clear am c0 c1 c2 c3 c4 a1;obtain⟨c0,c1,c2,c3,c4⟩:=j0h hB.1;have a1:=j0a hB.1;by_cases hlt:i<b.hs.length
      ·obtain⟨bh,oh,Br,row,cr,eA,aD,a0,y1,a5,a4,av⟩:=hB.2.1.h.get hlt;rw[eA] at c3;have i1:(i:Int)<(b.hs.length:Int):=by omega
       obtain⟨rl,ae⟩:∃ rl,rl=row.length:=⟨_,rfl⟩;rw[<-ae] at y1;have HI:=zQ9 (zA9 hi (zA9 hall (zA9 hB (zA9 a0 ae))));have b8:=hB.2.2.size;clear hi hall hB a0 ae a5 a4 eA;by_cases hll:rl=b.l.length
       ·have e3:((rl:Int)==(b.l.length:Int))=true:=by simp[hll]
        have HL:=zQ9 hll;clear hll;go_upto_region 18 with (fail)
        go_quiet (fail)
        have a2:=zQ9 (HI.o.2.2.1.step (j0k (zB2 _ _) nq));go_wp2_with fail
        go_roundg (gk-1)
        case measure=>have:=HI.o.1;omega
        case rel=>exact⟨i+1,by have:=HI.o.1;omega,by go_num,j8m HI.o.2.1 HI.o.2.2.2.1 (by rw[decide_eq_true_eq,<-HI.o.2.2.2.2];exact HL.o),a2.o⟩
       ·have e3:((rl:Int)==(b.l.length:Int))=false:=beq_eq_false_iff_ne.2 (by omega)
        have HL:=zQ9 hll;clear hll;go_upto_region 18 with (fail)
        go_quiet (fail)
        have a2:=zQ9 (HI.o.2.2.1.step (j0k (zB2 _ _) nq));go_wp2_with fail
        go_ret
        exact⟨j0j (by rw[ac.o,if_pos (k3j HI.o.2.2.2.1 (by rw[decide_eq_false_iff_not,<-HI.o.2.2.2.2];exact HL.o))]),a2.o.2.2⟩
      ·obtain rfl:i=b.hs.length:=by omega
       rw[List.take_length] at hall;have aw:=zQ9 (show R=if b.hs.all (fun r=>r.all fun x=>btw x 0 20)=false then 1 else 0 by
        rw[ac.o,if_neg (by rw[hall];decide)])
       have a2:=zQ9 hB;clear aa ac hall hB hi hlt;go_upto_region 21 with (fail)
       go_loopg [6,7] b.hs.length (fun gh v6 _ wr=>∃ i:Nat,i+gh=b.hs.length∧v6=.int .i64 i∧(b.hs.take i).all (fun r=>r.all fun x=>btw x 0 20)=true∧BB9 w b p wr)
       case atStart=>exact⟨0,by omega,rfl,by simp,a2.o⟩
       case round =>
        obtain⟨i,hi,rfl,hall,hB⟩:=hrel;obtain⟨g1,rfl⟩:∃ g1:Nat,g1=gk:=⟨_,rfl⟩;obtain⟨w4,aq⟩:∃ W:World,W=wr:=⟨_,rfl⟩;rw[<-aq] at hB ⊢;clear aq c0 c1 c2 c3 c4 a1;obtain⟨c0,c1,c2,c3,c4⟩:=j0h hB.1;have a1:=j0a hB.1;by_cases hlt:i<b.hs.length
        ·obtain⟨row,a0⟩:∃ row,b.hs[i]?=some row:=⟨_,zB5 hlt⟩;have i1:(i:Int)<(b.hs.length:Int):=by omega
         have HI:=zQ9 (zA9 hi (zA9 hall (zA9 hB a0)));clear hi hall hB a0;go_upto_region 24 with (fail)
         go_loopg [7] row.length (fun gh v7 wr=>∃ o:Nat,o+gh=row.length∧v7=.int .i64 o∧(row.take o).all (fun x=>btw x 0 20)=true∧BB9 w b p wr)
         case atStart=>exact⟨0,by omega,rfl,by simp,HI.o.2.2.1⟩
         case round =>
          obtain⟨o,ho,rfl,hall,hB⟩:=hrel;obtain⟨w5,ao⟩:∃ W:World,W=wr:=⟨_,rfl⟩;rw[<-ao] at hB ⊢;clear ao c0 c1 c2 c3 c4 a1;obtain⟨c0,c1,c2,c3,c4⟩:=j0h hB.1;have a1:=j0a hB.1;obtain⟨bh,oh,Br,az,cr,eA,aD,a3,y1,a5,a4,av⟩:=hB.2.1.h.get hlt;rw[HI.o.2.2.2] at a3;cases a3;rw[eA] at c3;by_cases hlo:o<row.length
          ·obtain⟨bx,ox,x,rfl,b5,hx,y2⟩:=Ints.get a5 hlo;have i2:(o:Int)<(row.length:Int):=by omega
           have ax:row.length<=9223372036854775807:=by unfold maxLen at av;omega
           obtain⟨xb,a8⟩:∃ xb,xb=btw x 0 20:=⟨_,rfl⟩;have aj:Calls Tryz.prog 105 #[.int .i64 x,.int .i64 0,.int .i64 20] w5 fun e w'=>e=.returned (.bool xb)∧w5=w':=by rw[a8];exact j2j _ _ _ _
           have HO:=zQ9 (zA9 ho (zA9 hall (zA9 hB (zA9 hx a8))));clear ho hall hB hx a8 a5 eA;cases xb
           ·go_wp2_with (go_at_call 105;(with_reducible refine aj.mono ?_);rintro e w' ⟨rfl,hw⟩;rw[<-hw];clear hw w')
            go_ret
            exact⟨j0j (by rw[aw.o,if_pos (k3j HI.o.2.2.2 (k3j HO.o.2.2.2.1 HO.o.2.2.2.2.symm))]),HO.o.2.2.1.2.2⟩
           ·go_wp2_with (go_at_call 105;(with_reducible refine aj.mono ?_);rintro e w' ⟨rfl,hw⟩;rw[<-hw];clear hw w')
            go_roundg (gk-1)
            case measure=>have:=HO.o.1;omega
            case rel=>exact⟨o+1,by have:=HO.o.1;omega,by go_num,j8m HO.o.2.1 HO.o.2.2.2.1 HO.o.2.2.2.2.symm,HO.o.2.2.1⟩
          ·obtain rfl:o=row.length:=by omega
           rw[List.take_length] at hall;have HO:=zQ9 (zA9 hall hB);clear ho hall hB a5 eA;go_wp2_with fail
           go_roundg (g1-1)
           case measure=>have:=HI.o.1;omega
           case rel=>exact⟨i+1,by have:=HI.o.1;omega,by go_num,j8m HI.o.2.1 HI.o.2.2.2 HO.o.1,HO.o.2⟩
        ·obtain rfl:i=b.hs.length:=by omega
         rw[List.take_length] at hall;have HF:=zQ9 (zA9 hall hB);clear hi hall hB;go_wp2_with fail
         go_ret
         exact⟨j0j (by rw[aw.o,if_neg (by rw[HF.o.1];decide)]),HF.o.2.2.2⟩
    ·have e3:((b.hs.length:Int)==(b.ks.length:Int))=false:=beq_eq_false_iff_ne.2 (by omega)
     have HH:=zQ9 hhk;clear hhk;go_wp2_with fail
     go_ret
     exact⟨j0j (by rw[a9.o,if_pos HH.o]),aa.o.2.2⟩
 ·have x1:(ce != 0)=true:=by simp[h0]
  have H0:=zQ9 h0;clear h0;go_wp2_with (go_at_call 108;(with_reducible refine a4.mono ?_);rintro e w1 ⟨rfl,a6⟩;replace HB:=zQ9 (HB.o.step a6);clear a6 c0 c1 c2 c3 c4 a1)
  go_ret
  exact⟨j0j (by rw[HR.o,if_pos H0.o]),HB.o.2.2⟩
theorem chk9 (b:Hb):b.chk=if flk9 b.t b.l b.ks b.hs≠0 then flk9 b.t b.l b.ks b.hs else if 6<b.ds.length then 6 else j1o b.l.length b.ks.length b.ds:=by
 unfold Hb.chk j3m flk9;by_cases h:check b.t b.l=0
 ·simp[h]
 ·simp[h]
theorem j9y (b:Hb) (w:World) (hin:HbIn w b) :
 Calls Tryz.prog 18 #[b.v] w fun e w'=>e=.returned (.int .i64 b.chk)∧Below w.heap.size w w':=by
 obtain⟨V,hV⟩:∃ V,V=w.alloc b.obj:=⟨_,rfl⟩;obtain⟨p,hp⟩:∃ p,p=w.heap.size:=⟨_,rfl⟩;have HB:=zQ9 (show BB9 w b p V by rw[hV,hp];exact BB9.start hin)
 obtain⟨c0,c1,c2,c3,c4⟩:=j0h HB.o.1;have a2:=j0a HB.o.1;have af:b.l.length<=maxLen:=zB6 hin.mc hin.mm;have aa:b.ks.length<=maxLen:=zB6 hin.kc hin.km;have ai:b.ds.length<=maxLen:=zB6 hin.dc hin.dm;have ao:=hin.dc;have ah:=hin.dm;have a4:=k3l b V HB.o.2.1;obtain⟨ce,a6⟩:∃ ce,ce=flk9 b.t b.l b.ks b.hs:=⟨_,rfl⟩;rw[<-a6] at a4;obtain⟨R,hR⟩:∃ R,R=b.chk:=⟨_,rfl⟩;rw[<-hR];have HR:=zQ9 (show R=if ce≠0 then ce else if 6<b.ds.length then 6 else j1o b.l.length b.ks.length b.ds by rw[hR,a6];exact chk9 b)
 have HM:=zQ9 (zA9 af aa);clear hR a6 hin af aa;unfold maxLen at ai;unfold Hb.v at a4 ⊢;go_enter Tryz.func18,Tryz.ntmps18
 go_upto_region 1 with (fail)
 rw[<-hV,<-hp];clear hV hp;by_cases h0:ce=0
 ·subst h0;have a8:=zQ9 (show R=if 6<b.ds.length then 6 else j1o b.l.length b.ks.length b.ds by rw[HR.o];rfl)
  clear HR;go_upto_region 4 with (go_at_call 66;(with_reducible refine a4.mono ?_);rintro e w1 ⟨rfl,a5⟩;replace HB:=zQ9 (HB.o.step a5);clear a5 c0 c1 c2 c3 c4 a2)
  clear a4;obtain⟨c0,c1,c2,c3,c4⟩:=j0h HB.o.1;have a2:=j0a HB.o.1;by_cases h6:6<b.ds.length
  ·have e2:(6:Int)<(b.ds.length:Int):=by omega
   have HK:=zQ9 h6;clear h6;go_wp2_with fail
   go_ret
   exact⟨j0j (by rw[a8.o,if_pos HK.o]),HB.o.2.2⟩
  have e2:¬(6:Int)<(b.ds.length:Int):=by omega
  have ac:=zQ9 (show R=j1o b.l.length b.ks.length b.ds by rw[a8.o,if_neg h6])
  clear h6 a8;go_upto_region 7 with (fail)
  clear e2;go_loopg [4,5] b.ds.length (fun gh v4 _ wr=>∃ i:Nat,i+gh=b.ds.length∧v4=.int .i64 i∧j1o b.l.length b.ks.length (b.ds.take i)=0∧BB9 w b p wr)
  case atStart=>exact⟨0,by omega,rfl,rfl,HB.o⟩
  case round =>
   obtain⟨i,hi,rfl,hall,hB⟩:=hrel;obtain⟨w2,ad⟩:∃ W:World,W=wr:=⟨_,rfl⟩;rw[<-ad] at hB ⊢;clear ad c0 c1 c2 c3 c4 a2;obtain⟨c0,c1,c2,c3,c4⟩:=j0h hB.1;have a2:=j0a hB.1;by_cases hlt:i<b.ds.length
   ·obtain⟨bd,od,d,eA,an,hd,d0,d1,d2,d3,d4,d5,d6,d7,d8,d9,ag,ak⟩:=hB.2.1.d.get hlt;have i1:(i:Int)<(b.ds.length:Int):=by omega
    obtain⟨de,a7⟩:∃ de,de=j0v b.l.length b.ks.length d:=⟨_,rfl⟩;have a0:∀ nq,Calls Tryz.prog 67 #[b.v,dv d] (w2.drewN nq) fun e w'=>e=.returned (.int .i64 de)∧Below (w2.drewN nq).heap.size (w2.drewN nq) w':=fun nq=>by
     rw[a7];exact j9n b d _ HM.o.1 HM.o.2
    unfold Hb.v dv at a0;rw[eA] at c4 a0;have ae:b.ds.take (i+1)=b.ds.take i++[d]:=by rw[List.take_add_one,hd];rfl
    have am:=zQ9 a0;have HI:=zQ9 (zA9 hi (zA9 hall (zA9 hB (zA9 a7 ae))));clear a0 hi hall hB hd a7 ae eA;go_upto_region 9 with (fail)
    refine j1c (C:=fun w'=>∃ n,w'=w2.drewN n) 6 (by kernel_rfl) (by kernel_rfl) ⟨1,rfl⟩ ?_
    simp only[List.take_succ_cons,List.take_zero,List.drop_succ_cons,List.drop_zero]
    repeat (quiet_step (fail))
    refine wpQuiet_nil ?_;intro _ aj;obtain⟨nq,a9⟩:=aj;subst a9;have a0:=am.o nq;have a1:=zQ9 (HI.o.2.2.1.step (j0k (zB2 _ _) nq));clear d0 d1 d2 d3 d4 d5 d6 d7 d8 d9 ag ak c0 c1 c2 c3 c4;generalize w2.drewN nq=w3 at a0 a1 ⊢;by_cases h0:de=0
    ·subst h0;go_wp2_with (go_at_call 67;(with_reducible refine a0.mono ?_);rintro e w4 ⟨rfl,a3⟩;replace a1:=zQ9 (a1.o.step a3);clear a3)
     go_roundg (gk-1)
     case measure=>have:=HI.o.1;omega
     case rel=>exact⟨i+1,by have:=HI.o.1;omega,by go_num,by rw[HI.o.2.2.2.2,j3i _ _ _ _ HI.o.2.1];exact HI.o.2.2.2.1.symm,a1.o⟩
    ·have x1:(de != 0)=true:=by simp[h0]
     have H0:=zQ9 h0;clear h0;go_wp2_with (go_at_call 67;(with_reducible refine a0.mono ?_);rintro e w4 ⟨rfl,a3⟩;replace a1:=zQ9 (a1.o.step a3);clear a3)
     go_ret
     refine⟨j0j ?_,a1.o.2.2⟩;have h1:j1o b.l.length b.ks.length (b.ds.take (i+1))=de:=by rw[HI.o.2.2.2.2,j3i _ _ _ _ HI.o.2.1];exact HI.o.2.2.2.1.symm
     rw[ac.o,<-List.take_append_drop (i+1) b.ds,j9g _ _ _ _ (by rw[h1];exact H0.o),h1]
   ·obtain rfl:i=b.ds.length:=by omega
    rw[List.take_length] at hall;have HF:=zQ9 (zA9 hall hB);clear hi hall hB;go_wp2_with fail
    go_ret
    exact⟨j0j (by rw[ac.o,HF.o.1]),HF.o.2.2.2⟩
 ·have x1:(ce != 0)=true:=by simp[h0]
  have H0:=zQ9 h0;clear h0;go_wp2_with (go_at_call 66;(with_reducible refine a4.mono ?_);rintro e w1 ⟨rfl,a5⟩;replace HB:=zQ9 (HB.o.step a5);clear a5 c0 c1 c2 c3 c4 a2)
  go_ret
  exact⟨j0j (by rw[HR.o,if_pos H0.o]),HB.o.2.2⟩
structure SmallH (b:Hb):Prop where
 l:b.l.length<=20
 k:b.ks.length<=20
 h:b.hs.length<=20
 d:b.ds.length<=20
 r:∀ r∈b.hs,r.length<=20
def k8c (b:Hb) (w:World) (e:Ending) (w':World):Prop:=∃ q,e=.returned (.bool q)∧(q=false->SmallH b)∧Below w.heap.size w w'
theorem j3e {b:Hb} {w w':World} {q:Bool} (h:q=false->SmallH b) (hb:Below w.heap.size w w'):k8c b w (.returned (.bool q)) w':=⟨q,rfl,h,hb⟩
theorem q5h (b:Hb) (w:World) (hin:HbIn w b):Calls Tryz.prog 7 #[b.v] w (k8c b w):=by
 obtain⟨V,hV⟩:∃ V,V=w.alloc b.obj:=⟨_,rfl⟩;obtain⟨p,hp⟩:∃ p,p=w.heap.size:=⟨_,rfl⟩;have HB:=zQ9 (show BB9 w b p V by rw[hV,hp];exact BB9.start hin)
 obtain⟨c0,c1,c2,c3,c4⟩:=j0h HB.o.1;have a1:=j0a HB.o.1;have ac:b.l.length<=maxLen:=zB6 hin.mc hin.mm;have ae:b.ks.length<=maxLen:=zB6 hin.kc hin.km;have a6:b.hs.length<=maxLen:=zB6 hin.hc hin.hm;have a7:b.ds.length<=maxLen:=zB6 hin.dc hin.dm;have am:=hin.hc;have a8:=hin.hm;have ao:=hin.dc;have a9:=hin.dm;unfold maxLen at ac ae a6 a7;unfold Hb.v;clear hin;go_enter Tryz.func7,Tryz.ntmps7
 go_upto_region 1 with (fail)
 rw[<-hV,<-hp];clear hV hp;by_cases h1:20<b.l.length
 ·have e1:(20:Int)<(b.l.length:Int):=by omega
  clear h1;go_wp2_with fail
  go_ret
  exact j3e (fun h=>by cases h) HB.o.2.2
 by_cases h2:20<b.ks.length
 ·have e1:¬(20:Int)<(b.l.length:Int):=by omega
  have e2:(20:Int)<(b.ks.length:Int):=by omega
  clear h1 h2;go_wp2_with fail
  go_ret
  exact j3e (fun h=>by cases h) HB.o.2.2
 by_cases h3:20<b.hs.length
 ·have e1:¬(20:Int)<(b.l.length:Int):=by omega
  have e2:¬(20:Int)<(b.ks.length:Int):=by omega
  have e3:(20:Int)<(b.hs.length:Int):=by omega
  clear h1 h2 h3;go_wp2_with fail
  go_ret
  exact j3e (fun h=>by cases h) HB.o.2.2
 by_cases h4:20<b.ds.length
 ·have e1:¬(20:Int)<(b.l.length:Int):=by omega
  have e2:¬(20:Int)<(b.ks.length:Int):=by omega
  have e3:¬(20:Int)<(b.hs.length:Int):=by omega
  have e4:(20:Int)<(b.ds.length:Int):=by omega
  clear h1 h2 h3 h4;go_wp2_with fail
  go_ret
  exact j3e (fun h=>by cases h) HB.o.2.2
 have e1:¬(20:Int)<(b.l.length:Int):=by omega
 have e2:¬(20:Int)<(b.ks.length:Int):=by omega
 have e3:¬(20:Int)<(b.hs.length:Int):=by omega
 have e4:¬(20:Int)<(b.ds.length:Int):=by omega
 have HS:=zQ9 (show b.l.length<=20∧b.ks.length<=20∧b.hs.length<=20∧b.ds.length<=20 by omega)
 go_upto_region 4 with (fail)
 clear e1 e2 e3 e4;go_loopg [3] b.hs.length (fun gh v3 wr=>∃ i:Nat,i+gh=b.hs.length∧v3=.int .i64 i∧(b.hs.take i).all (fun r=>decide (r.length<=20))=true∧BB9 w b p wr)
 case atStart=>exact⟨0,by omega,rfl,by simp,HB.o⟩
 case round =>
  obtain⟨i,hi,rfl,hall,hB⟩:=hrel;obtain⟨w2,a3⟩:∃ W:World,W=wr:=⟨_,rfl⟩;rw[<-a3] at hB ⊢;clear a3 c0 c1 c2 c3 c4 a1;obtain⟨c0,c1,c2,c3,c4⟩:=j0h hB.1;have a1:=j0a hB.1;by_cases hlt:i<b.hs.length
  ·obtain⟨bh,oh,Br,row,cr,eA,an,a0,y1,ad,ag,ah⟩:=hB.2.1.h.get hlt;rw[eA] at c3;have i1:(i:Int)<(b.hs.length:Int):=by omega
   obtain⟨rl,a2⟩:∃ rl,rl=row.length:=⟨_,rfl⟩;rw[<-a2] at y1 ag;have HI:=zQ9 (zA9 hi (zA9 hall (zA9 hB (zA9 a0 a2))));unfold maxLen at ah;clear hi hall hB a0 a2 ad eA;by_cases hll:20<rl
   ·have e3:(20:Int)<(rl:Int):=by omega
    clear hll;go_wp2_with fail
    go_ret
    exact j3e (fun h=>by cases h) HI.o.2.2.1.2.2
   ·have e3:¬(20:Int)<(rl:Int):=by omega
    have HL:=zQ9 hll;clear hll;go_wp2_with fail
    go_roundg (gk-1)
    case measure=>have:=HI.o.1;omega
    case rel=>exact⟨i+1,by have:=HI.o.1;omega,by go_num,j8m HI.o.2.1 HI.o.2.2.2.1 (by rw[decide_eq_true_eq,<-HI.o.2.2.2.2];have:=HL.o;omega),HI.o.2.2.1⟩
  ·obtain rfl:i=b.hs.length:=by omega
   rw[List.take_length] at hall;have HR:=zQ9 (show SmallH b from⟨HS.o.1,HS.o.2.1,HS.o.2.2.1,HS.o.2.2.2,fun r hr=>by simpa using List.all_eq_true.1 hall r hr⟩)
   have aa:=zQ9 hB;clear hall hB hi hlt;go_upto_region 10 with (fail)
   go_loopg [4,5] b.ds.length (fun gh v4 v5 wr=>∃ i n:Nat,i+gh=b.ds.length∧v5=.int .i64 i∧v4=.int .i64 n∧n<=i∧BB9 w b p wr)
   case atStart=>exact⟨0,0,by omega,rfl,rfl,zL9 _,aa.o⟩
   case round =>
    obtain⟨i,n,hi,rfl,rfl,aj,hB⟩:=hrel;obtain⟨w3,a5⟩:∃ W:World,W=wr:=⟨_,rfl⟩;rw[<-a5] at hB ⊢;clear a5 c0 c1 c2 c3 c4 a1;obtain⟨c0,c1,c2,c3,c4⟩:=j0h hB.1;have a1:=j0a hB.1;by_cases hlt:i<b.ds.length
    ·obtain⟨bd,od,d,eA,ak,hd,d0,d1,d2,d3,d4,d5,d6,d7,d8,d9,af,ai⟩:=hB.2.1.d.get hlt;rw[eA] at c4;have i1:(i:Int)<(b.ds.length:Int):=by omega
     have HI:=zQ9 (zA9 hi hB);obtain⟨kd,a4⟩:∃ kd,kd=d.kind:=⟨_,rfl⟩;rw[<-a4] at d0;clear hi hB hd eA a4 d1 d2 d3 d4 d5 d6 d7 d8 d9 af ai;by_cases h4:kd=4
     ·subst h4;go_wp2_with fail
      go_roundg (gk-1)
      case measure=>have:=HI.o.1;omega
      case rel=>exact⟨i+1,n+1,by have:=HI.o.1;omega,by go_num,by go_num,by omega,HI.o.2⟩
     ·have k4:(kd==4)=false:=beq_eq_false_iff_ne.2 h4;clear h4;go_wp2_with fail
      go_roundg (gk-1)
      case measure=>have:=HI.o.1;omega
      case rel=>exact⟨i+1,n,by have:=HI.o.1;omega,by go_num,by go_num,by omega,HI.o.2⟩
    ·obtain rfl:i=b.ds.length:=by omega
     have HE:=zQ9 hB;clear hB hi hlt;by_cases q1:(2:Int)<(n:Int)
     ·by_cases q2:(3:Int)<(b.l.length:Int)
      ·by_cases q3:(b.ds.length:Int)<=6
       ·go_wp2_with fail
        go_ret
        exact j3e (fun h=>by cases h) HE.o.2.2
       ·go_wp2_with fail
        go_ret
        exact j3e (fun h=>HR.o) HE.o.2.2
      ·go_wp2_with fail
       go_ret
       exact j3e (fun h=>HR.o) HE.o.2.2
     ·go_wp2_with fail
      go_ret
      exact j3e (fun h=>HR.o) HE.o.2.2
end Go.Proofs.YtmennjmjakdkcaaGreat
