/- HerdHas. -/
import Derived.Test.YtmennjmjakdkcaaGreatHs10
set_option linter.unusedVariables false
set_option linter.unusedSimpArgs false
set_option maxRecDepth 100000
set_option maxHeartbeats 4000000
namespace Go.Proofs.YtmennjmjakdkcaaGreat
open Go.RowKit
def DB9 (V:World) (b:Hb) (d:De) (p:Nat) (w:World):Prop:=w.heap[p]?=some b.obj∧w.heap[p+1]?=some (dObj d)∧Below V.heap.size V w
theorem DB9.step {V w w':World} {b:Hb} {d:De} {p:Nat} (h:DB9 V b d p w) (hb:Below w.heap.size w w'):DB9 V b d p w':=⟨j0e h.1 hb (zL9 _),j0e h.2.1 hb (zL9 _),h.2.2.trans (hb.mono h.2.2.size)⟩
theorem DB9.start (w:World) (b:Hb) (d:De):DB9 w b d w.heap.size ((w.alloc b.obj).alloc (dObj d)):=⟨j0b (j0c rfl) _,j0c (by simp),bal (bal0 _ _) (zL9 _) _⟩
theorem k3a (b:Hb) (d:De) (w:World) (hn:b.l.length≤maxLen) (hk:b.ks.length≤maxLen) :
 Calls Tryz.prog 109 #[b.v,dv d] w fun e w'=>e=.returned (.int .i64 (fldE b.l.length b.ks.length d))∧Below w.heap.size w w':=by
 obtain⟨V,hV⟩:∃ V,V=(w.alloc b.obj).alloc (dObj d):=⟨_,rfl⟩
 obtain⟨p,hp⟩:∃ p,p=w.heap.size:=⟨_,rfl⟩
 have HB:=zQ9 (show DB9 w b d p V by rw[hV,hp];exact DB9.start w b d)
 obtain⟨z0,z1,z2,z3,z4,z5,z6,z7,z8,z9,z10,z11⟩:=blkD HB.out.2.1
 obtain⟨c0,c1,c2,c3,c4⟩:=j0h HB.out.1
 have hlp:=j0a HB.out.1
 have hlq:=j0a HB.out.2.1
 obtain⟨o1,ho1⟩:∃ o1,o1=ownB b.l.length d.owner:=⟨_,rfl⟩
 obtain⟨o2,ho2⟩:∃ o2,o2=ownB b.l.length d.other:=⟨_,rfl⟩
 obtain⟨f1,hf1⟩:∃ f1,f1=ownB b.ks.length d.tof:=⟨_,rfl⟩
 have hio:∀ W,Calls Tryz.prog 60 #[.agg #[.int .i64 b.t,.slice b.A b.l.length b.c,.slice b.Ak b.ks.length b.ck,.slice b.Ah b.hs.length b.ch,.slice b.Ad b.ds.length b.cd],.int .i64 d.owner] W fun e w'=>e=.returned (.bool o1)∧Below W.heap.size W w':=fun W=>by rw[ho1];exact j5r _ _ _ _ _ _ _ _ _ _ _ _ _ _ W hn
 have hix:∀ W,Calls Tryz.prog 60 #[.agg #[.int .i64 b.t,.slice b.A b.l.length b.c,.slice b.Ak b.ks.length b.ck,.slice b.Ah b.hs.length b.ch,.slice b.Ad b.ds.length b.cd],.int .i64 d.other] W fun e w'=>e=.returned (.bool o2)∧Below W.heap.size W w':=fun W=>by rw[ho2];exact j5r _ _ _ _ _ _ _ _ _ _ _ _ _ _ W hn
 have hif:∀ W,Calls Tryz.prog 86 #[.agg #[.int .i64 b.t,.slice b.A b.l.length b.c,.slice b.Ak b.ks.length b.ck,.slice b.Ah b.hs.length b.ch,.slice b.Ad b.ds.length b.cd],.int .i64 d.tof] W fun e w'=>e=.returned (.bool f1)∧Below W.heap.size W w':=fun W=>by rw[hf1];exact k1f _ _ _ _ _ _ _ _ _ _ _ _ _ _ W hk
 have HO:=zQ9 (zA9 ho1 (zA9 ho2 hf1))
 obtain⟨kd,hkd⟩:∃ kd,kd=d.kind:=⟨_,rfl⟩
 have HKD:=zQ9 hkd
 rw[←hkd] at z0
 unfold Hb.v dv
 go_enter Tryz.func109,Tryz.ntmps109
 go_upto_region 1 with (fail)
 rw[show(w.alloc (Obj.cells #[Value.int .i64 b.t,b.vm,b.vk,b.vh,b.vd] 29)).alloc (Obj.cells #[Value.int .i64 d.kind,.int .i64 d.flock,.int .i64 d.owner,.int .i64 d.other,.int .i64 d.tof,.int .i64 d.many,.int .i64 d.err,.int .i64 d.s.n,.bool d.s.l,.bool d.s.r,.int .i64 d.s.b,.int .i64 d.s.p] 33)=V from hV.symm,←hp]
 clear hV hp ho1 ho2 hf1 hkd
 obtain hkk|h:(kd=1∨kd=3)∨(kd≠1∧kd≠3):=by omega
 ·have hfl:fldE b.l.length b.ks.length d=if o1=false then 3 else if btw d.many 1 20=false then 1 else 0:=by
   unfold fldE
   rw[if_pos (by rw[←HKD.out];exact hkk),HO.out.1]
  obtain⟨m1,hm1⟩:∃ m1,m1=btw d.many 1 20:=⟨_,rfl⟩
  have hwi:∀ W,Calls Tryz.prog 105 #[.int .i64 d.many,.int .i64 1,.int .i64 20] W fun e w'=>e=.returned (.bool m1)∧Below W.heap.size W w':=fun W=>by rw[hm1];exact(j2i _ _ _ _).mono fun e w' ⟨a,c⟩=>⟨a,c ▸ Below.refl _ _⟩
  rw[←hm1] at hfl
  have HFL:=zQ9 hfl
  clear hm1 hfl
  rcases hkk with rfl|rfl
  all_goals
   cases o1
   ·go_wp2_with (first|(go_at_call 60;(with_reducible refine(hio _).mono ?_);rintro e wn ⟨rfl,hbn⟩;replace HB:=zQ9 (HB.out.step hbn);clear hbn;(try clear z0 z1 z2 z3 z4 z5 z6 z7 z8 z9 z10 z11 c0 c1 c2 c3 c4 hlp hlq);obtain⟨z0,z1,z2,z3,z4,z5,z6,z7,z8,z9,z10,z11⟩:=blkD HB.out.2.1;obtain⟨c0,c1,c2,c3,c4⟩:=j0h HB.out.1;have hlp:=j0a HB.out.1;have hlq:=j0a HB.out.2.1;try rw[←HKD.out] at z0))
    go_ret
    exact⟨j0k (by rw[HFL.out];rfl),HB.out.2.2⟩
   ·cases m1
    all_goals
     go_wp2_with (first|(go_at_call 60;(with_reducible refine(hio _).mono ?_);rintro e wn ⟨rfl,hbn⟩;replace HB:=zQ9 (HB.out.step hbn);clear hbn;(try clear z0 z1 z2 z3 z4 z5 z6 z7 z8 z9 z10 z11 c0 c1 c2 c3 c4 hlp hlq);obtain⟨z0,z1,z2,z3,z4,z5,z6,z7,z8,z9,z10,z11⟩:=blkD HB.out.2.1;obtain⟨c0,c1,c2,c3,c4⟩:=j0h HB.out.1;have hlp:=j0a HB.out.1;have hlq:=j0a HB.out.2.1;try rw[←HKD.out] at z0)|(go_at_call 105;(with_reducible refine(hwi _).mono ?_);rintro e wn ⟨rfl,hbn⟩;replace HB:=zQ9 (HB.out.step hbn);clear hbn;(try clear z0 z1 z2 z3 z4 z5 z6 z7 z8 z9 z10 z11 c0 c1 c2 c3 c4 hlp hlq);obtain⟨z0,z1,z2,z3,z4,z5,z6,z7,z8,z9,z10,z11⟩:=blkD HB.out.2.1;obtain⟨c0,c1,c2,c3,c4⟩:=j0h HB.out.1;have hlp:=j0a HB.out.1;have hlq:=j0a HB.out.2.1;try rw[←HKD.out] at z0))
     go_ret
     exact⟨j0k (by rw[HFL.out];rfl),HB.out.2.2⟩
 obtain rfl|h2:kd=2∨kd≠2:=by omega
 ·have hfl:fldE b.l.length b.ks.length d=if o1=false∨o2=false then 3 else if d.owner=d.other then 4 else if btw d.many 1 20=false then 1 else 0:=by
   unfold fldE
   rw[if_neg (by rw[←HKD.out];omega),if_pos HKD.out.symm,HO.out.1,HO.out.2.1]
  obtain⟨m1,hm1⟩:∃ m1,m1=btw d.many 1 20:=⟨_,rfl⟩
  have hwi:∀ W,Calls Tryz.prog 105 #[.int .i64 d.many,.int .i64 1,.int .i64 20] W fun e w'=>e=.returned (.bool m1)∧Below W.heap.size W w':=fun W=>by rw[hm1];exact(j2i _ _ _ _).mono fun e w' ⟨a,c⟩=>⟨a,c ▸ Below.refl _ _⟩
  rw[←hm1] at hfl
  have HFL:=zQ9 hfl
  clear hm1 hfl
  cases o1
  ·go_wp2_with (first|(go_at_call 60;(with_reducible refine(hio _).mono ?_);rintro e wn ⟨rfl,hbn⟩;replace HB:=zQ9 (HB.out.step hbn);clear hbn;(try clear z0 z1 z2 z3 z4 z5 z6 z7 z8 z9 z10 z11 c0 c1 c2 c3 c4 hlp hlq);obtain⟨z0,z1,z2,z3,z4,z5,z6,z7,z8,z9,z10,z11⟩:=blkD HB.out.2.1;obtain⟨c0,c1,c2,c3,c4⟩:=j0h HB.out.1;have hlp:=j0a HB.out.1;have hlq:=j0a HB.out.2.1;try rw[←HKD.out] at z0))
   go_ret
   exact⟨j0k (by rw[HFL.out];rfl),HB.out.2.2⟩
  cases o2
  ·go_wp2_with (first|(go_at_call 60;(with_reducible refine(hio _).mono ?_);rintro e wn ⟨rfl,hbn⟩;replace HB:=zQ9 (HB.out.step hbn);clear hbn;(try clear z0 z1 z2 z3 z4 z5 z6 z7 z8 z9 z10 z11 c0 c1 c2 c3 c4 hlp hlq);obtain⟨z0,z1,z2,z3,z4,z5,z6,z7,z8,z9,z10,z11⟩:=blkD HB.out.2.1;obtain⟨c0,c1,c2,c3,c4⟩:=j0h HB.out.1;have hlp:=j0a HB.out.1;have hlq:=j0a HB.out.2.1;try rw[←HKD.out] at z0)|(go_at_call 60;(with_reducible refine(hix _).mono ?_);rintro e wn ⟨rfl,hbn⟩;replace HB:=zQ9 (HB.out.step hbn);clear hbn;(try clear z0 z1 z2 z3 z4 z5 z6 z7 z8 z9 z10 z11 c0 c1 c2 c3 c4 hlp hlq);obtain⟨z0,z1,z2,z3,z4,z5,z6,z7,z8,z9,z10,z11⟩:=blkD HB.out.2.1;obtain⟨c0,c1,c2,c3,c4⟩:=j0h HB.out.1;have hlp:=j0a HB.out.1;have hlq:=j0a HB.out.2.1;try rw[←HKD.out] at z0))
   go_ret
   exact⟨j0k (by rw[HFL.out];rfl),HB.out.2.2⟩
  by_cases hoo:d.owner=d.other
  ·have e1:(d.other==d.owner)=true:=by simp[hoo]
   have HOO:=zQ9 hoo
   clear hoo
   go_wp2_with (first|(go_at_call 60;(with_reducible refine(hio _).mono ?_);rintro e wn ⟨rfl,hbn⟩;replace HB:=zQ9 (HB.out.step hbn);clear hbn;(try clear z0 z1 z2 z3 z4 z5 z6 z7 z8 z9 z10 z11 c0 c1 c2 c3 c4 hlp hlq);obtain⟨z0,z1,z2,z3,z4,z5,z6,z7,z8,z9,z10,z11⟩:=blkD HB.out.2.1;obtain⟨c0,c1,c2,c3,c4⟩:=j0h HB.out.1;have hlp:=j0a HB.out.1;have hlq:=j0a HB.out.2.1;try rw[←HKD.out] at z0)|(go_at_call 60;(with_reducible refine(hix _).mono ?_);rintro e wn ⟨rfl,hbn⟩;replace HB:=zQ9 (HB.out.step hbn);clear hbn;(try clear z0 z1 z2 z3 z4 z5 z6 z7 z8 z9 z10 z11 c0 c1 c2 c3 c4 hlp hlq);obtain⟨z0,z1,z2,z3,z4,z5,z6,z7,z8,z9,z10,z11⟩:=blkD HB.out.2.1;obtain⟨c0,c1,c2,c3,c4⟩:=j0h HB.out.1;have hlp:=j0a HB.out.1;have hlq:=j0a HB.out.2.1;try rw[←HKD.out] at z0))
   go_ret
   exact⟨j0k (by rw[HFL.out,if_neg (by decide),if_pos HOO.out]),HB.out.2.2⟩
  ·have e1:(d.other==d.owner)=false:=beq_eq_false_iff_ne.2 (fun e=>hoo e.symm)
   have HOO:=zQ9 hoo
   clear hoo
   cases m1
   all_goals
    go_wp2_with (first|(go_at_call 60;(with_reducible refine(hio _).mono ?_);rintro e wn ⟨rfl,hbn⟩;replace HB:=zQ9 (HB.out.step hbn);clear hbn;(try clear z0 z1 z2 z3 z4 z5 z6 z7 z8 z9 z10 z11 c0 c1 c2 c3 c4 hlp hlq);obtain⟨z0,z1,z2,z3,z4,z5,z6,z7,z8,z9,z10,z11⟩:=blkD HB.out.2.1;obtain⟨c0,c1,c2,c3,c4⟩:=j0h HB.out.1;have hlp:=j0a HB.out.1;have hlq:=j0a HB.out.2.1;try rw[←HKD.out] at z0)|(go_at_call 60;(with_reducible refine(hix _).mono ?_);rintro e wn ⟨rfl,hbn⟩;replace HB:=zQ9 (HB.out.step hbn);clear hbn;(try clear z0 z1 z2 z3 z4 z5 z6 z7 z8 z9 z10 z11 c0 c1 c2 c3 c4 hlp hlq);obtain⟨z0,z1,z2,z3,z4,z5,z6,z7,z8,z9,z10,z11⟩:=blkD HB.out.2.1;obtain⟨c0,c1,c2,c3,c4⟩:=j0h HB.out.1;have hlp:=j0a HB.out.1;have hlq:=j0a HB.out.2.1;try rw[←HKD.out] at z0)|(go_at_call 105;(with_reducible refine(hwi _).mono ?_);rintro e wn ⟨rfl,hbn⟩;replace HB:=zQ9 (HB.out.step hbn);clear hbn;(try clear z0 z1 z2 z3 z4 z5 z6 z7 z8 z9 z10 z11 c0 c1 c2 c3 c4 hlp hlq);obtain⟨z0,z1,z2,z3,z4,z5,z6,z7,z8,z9,z10,z11⟩:=blkD HB.out.2.1;obtain⟨c0,c1,c2,c3,c4⟩:=j0h HB.out.1;have hlp:=j0a HB.out.1;have hlq:=j0a HB.out.2.1;try rw[←HKD.out] at z0))
    go_ret
    exact⟨j0k (by rw[HFL.out,if_neg (by decide),if_neg HOO.out];rfl),HB.out.2.2⟩
 obtain rfl|h4:kd=4∨kd≠4:=by omega
 ·have hfl:fldE b.l.length b.ks.length d=if btw d.many 1 3=false then 1 else 0:=by
   unfold fldE
   rw[if_neg (by rw[←HKD.out];omega),if_neg (by rw[←HKD.out];omega),if_pos HKD.out.symm]
  obtain⟨m1,hm1⟩:∃ m1,m1=btw d.many 1 3:=⟨_,rfl⟩
  have hwi:∀ W,Calls Tryz.prog 105 #[.int .i64 d.many,.int .i64 1,.int .i64 3] W fun e w'=>e=.returned (.bool m1)∧Below W.heap.size W w':=fun W=>by rw[hm1];exact(j2i _ _ _ _).mono fun e w' ⟨a,c⟩=>⟨a,c ▸ Below.refl _ _⟩
  rw[←hm1] at hfl
  have HFL:=zQ9 hfl
  clear hm1 hfl
  cases m1
  all_goals
   go_wp2_with (first|(go_at_call 105;(with_reducible refine(hwi _).mono ?_);rintro e wn ⟨rfl,hbn⟩;replace HB:=zQ9 (HB.out.step hbn);clear hbn;(try clear z0 z1 z2 z3 z4 z5 z6 z7 z8 z9 z10 z11 c0 c1 c2 c3 c4 hlp hlq);obtain⟨z0,z1,z2,z3,z4,z5,z6,z7,z8,z9,z10,z11⟩:=blkD HB.out.2.1;obtain⟨c0,c1,c2,c3,c4⟩:=j0h HB.out.1;have hlp:=j0a HB.out.1;have hlq:=j0a HB.out.2.1;try rw[←HKD.out] at z0))
   go_ret
   exact⟨j0k (by rw[HFL.out];rfl),HB.out.2.2⟩
 obtain rfl|h5:kd=5∨kd≠5:=by omega
 ·have hfl:fldE b.l.length b.ks.length d=if f1=false then 3 else if d.tof=d.flock then 4 else seen d.s 9 6:=by
   unfold fldE
   rw[if_neg (by rw[←HKD.out];omega),if_neg (by rw[←HKD.out];omega),if_neg (by rw[←HKD.out];omega),if_pos HKD.out.symm,HO.out.2.2]
  obtain⟨m1,hm1⟩:∃ m1,m1=seen d.s 9 6:=⟨_,rfl⟩
  have hcs:∀ W,Calls Tryz.prog 87 #[.agg #[.int .i64 d.s.n,.bool d.s.l,.bool d.s.r,.int .i64 d.s.b,.int .i64 d.s.p]] W fun e w'=>e=.returned (.int .i64 m1)∧Below W.heap.size W w':=fun W=>by rw[hm1];exact q0e d.s W
  rw[←hm1] at hfl
  have HFL:=zQ9 hfl
  clear hm1 hfl
  cases f1
  ·go_wp2_with (first|(go_at_call 86;(with_reducible refine(hif _).mono ?_);rintro e wn ⟨rfl,hbn⟩;replace HB:=zQ9 (HB.out.step hbn);clear hbn;(try clear z0 z1 z2 z3 z4 z5 z6 z7 z8 z9 z10 z11 c0 c1 c2 c3 c4 hlp hlq);obtain⟨z0,z1,z2,z3,z4,z5,z6,z7,z8,z9,z10,z11⟩:=blkD HB.out.2.1;obtain⟨c0,c1,c2,c3,c4⟩:=j0h HB.out.1;have hlp:=j0a HB.out.1;have hlq:=j0a HB.out.2.1;try rw[←HKD.out] at z0))
   go_ret
   exact⟨j0k (by rw[HFL.out];rfl),HB.out.2.2⟩
  by_cases hoo:d.tof=d.flock
  ·have e1:(d.tof==d.flock)=true:=by simp[hoo]
   have HOO:=zQ9 hoo
   clear hoo
   go_wp2_with (first|(go_at_call 86;(with_reducible refine(hif _).mono ?_);rintro e wn ⟨rfl,hbn⟩;replace HB:=zQ9 (HB.out.step hbn);clear hbn;(try clear z0 z1 z2 z3 z4 z5 z6 z7 z8 z9 z10 z11 c0 c1 c2 c3 c4 hlp hlq);obtain⟨z0,z1,z2,z3,z4,z5,z6,z7,z8,z9,z10,z11⟩:=blkD HB.out.2.1;obtain⟨c0,c1,c2,c3,c4⟩:=j0h HB.out.1;have hlp:=j0a HB.out.1;have hlq:=j0a HB.out.2.1;try rw[←HKD.out] at z0))
   go_ret
   exact⟨j0k (by rw[HFL.out,if_neg (by decide),if_pos HOO.out]),HB.out.2.2⟩
  ·have e1:(d.tof==d.flock)=false:=beq_eq_false_iff_ne.2 hoo
   have HOO:=zQ9 hoo
   clear hoo
   go_wp2_with (first|(go_at_call 86;(with_reducible refine(hif _).mono ?_);rintro e wn ⟨rfl,hbn⟩;replace HB:=zQ9 (HB.out.step hbn);clear hbn;(try clear z0 z1 z2 z3 z4 z5 z6 z7 z8 z9 z10 z11 c0 c1 c2 c3 c4 hlp hlq);obtain⟨z0,z1,z2,z3,z4,z5,z6,z7,z8,z9,z10,z11⟩:=blkD HB.out.2.1;obtain⟨c0,c1,c2,c3,c4⟩:=j0h HB.out.1;have hlp:=j0a HB.out.1;have hlq:=j0a HB.out.2.1;try rw[←HKD.out] at z0)|(go_at_call 87;(with_reducible refine(hcs _).mono ?_);rintro e wn ⟨rfl,hbn⟩;replace HB:=zQ9 (HB.out.step hbn);clear hbn;(try clear z0 z1 z2 z3 z4 z5 z6 z7 z8 z9 z10 z11 c0 c1 c2 c3 c4 hlp hlq);obtain⟨z0,z1,z2,z3,z4,z5,z6,z7,z8,z9,z10,z11⟩:=blkD HB.out.2.1;obtain⟨c0,c1,c2,c3,c4⟩:=j0h HB.out.1;have hlp:=j0a HB.out.1;have hlq:=j0a HB.out.2.1;try rw[←HKD.out] at z0))
   go_ret
   exact⟨j0k (by rw[HFL.out,if_neg (by decide),if_neg HOO.out]),HB.out.2.2⟩
 ·have hfl:fldE b.l.length b.ks.length d=if btw d.many 0 300=false∨btw d.err 0 20=false then 1 else 0:=by
   unfold fldE
   rw[if_neg (by rw[←HKD.out];omega),if_neg (by rw[←HKD.out];omega),if_neg (by rw[←HKD.out];omega),if_neg (by rw[←HKD.out];omega)]
  obtain⟨m1,hm1⟩:∃ m1,m1=btw d.many 0 300:=⟨_,rfl⟩
  obtain⟨m2,hm2⟩:∃ m2,m2=btw d.err 0 20:=⟨_,rfl⟩
  have hwi:∀ W,Calls Tryz.prog 105 #[.int .i64 d.many,.int .i64 0,.int .i64 300] W fun e w'=>e=.returned (.bool m1)∧Below W.heap.size W w':=fun W=>by rw[hm1];exact(j2i _ _ _ _).mono fun e w' ⟨a,c⟩=>⟨a,c ▸ Below.refl _ _⟩
  have hwe:∀ W,Calls Tryz.prog 105 #[.int .i64 d.err,.int .i64 0,.int .i64 20] W fun e w'=>e=.returned (.bool m2)∧Below W.heap.size W w':=fun W=>by rw[hm2];exact(j2i _ _ _ _).mono fun e w' ⟨a,c⟩=>⟨a,c ▸ Below.refl _ _⟩
  rw[←hm1,←hm2] at hfl
  have HFL:=zQ9 hfl
  have k1:(kd==1)=false:=beq_eq_false_iff_ne.2 h.1
  have k3:(kd==3)=false:=beq_eq_false_iff_ne.2 h.2
  have k2:(kd==2)=false:=beq_eq_false_iff_ne.2 h2
  have k4:(kd==4)=false:=beq_eq_false_iff_ne.2 h4
  have k5:(kd==5)=false:=beq_eq_false_iff_ne.2 h5
  clear hm1 hm2 hfl h h2 h4 h5
  cases m1
  ·go_wp2_with (first|(go_at_call 105;(with_reducible refine(hwi _).mono ?_);rintro e wn ⟨rfl,hbn⟩;replace HB:=zQ9 (HB.out.step hbn);clear hbn;(try clear z0 z1 z2 z3 z4 z5 z6 z7 z8 z9 z10 z11 c0 c1 c2 c3 c4 hlp hlq);obtain⟨z0,z1,z2,z3,z4,z5,z6,z7,z8,z9,z10,z11⟩:=blkD HB.out.2.1;obtain⟨c0,c1,c2,c3,c4⟩:=j0h HB.out.1;have hlp:=j0a HB.out.1;have hlq:=j0a HB.out.2.1;try rw[←HKD.out] at z0))
   go_ret
   exact⟨j0k (by rw[HFL.out];rfl),HB.out.2.2⟩
  cases m2
  all_goals
   go_wp2_with (first|(go_at_call 105;(with_reducible refine(hwi _).mono ?_);rintro e wn ⟨rfl,hbn⟩;replace HB:=zQ9 (HB.out.step hbn);clear hbn;(try clear z0 z1 z2 z3 z4 z5 z6 z7 z8 z9 z10 z11 c0 c1 c2 c3 c4 hlp hlq);obtain⟨z0,z1,z2,z3,z4,z5,z6,z7,z8,z9,z10,z11⟩:=blkD HB.out.2.1;obtain⟨c0,c1,c2,c3,c4⟩:=j0h HB.out.1;have hlp:=j0a HB.out.1;have hlq:=j0a HB.out.2.1;try rw[←HKD.out] at z0)|(go_at_call 105;(with_reducible refine(hwe _).mono ?_);rintro e wn ⟨rfl,hbn⟩;replace HB:=zQ9 (HB.out.step hbn);clear hbn;(try clear z0 z1 z2 z3 z4 z5 z6 z7 z8 z9 z10 z11 c0 c1 c2 c3 c4 hlp hlq);obtain⟨z0,z1,z2,z3,z4,z5,z6,z7,z8,z9,z10,z11⟩:=blkD HB.out.2.1;obtain⟨c0,c1,c2,c3,c4⟩:=j0h HB.out.1;have hlp:=j0a HB.out.1;have hlq:=j0a HB.out.2.1;try rw[←HKD.out] at z0))
   go_ret
   exact⟨j0k (by rw[HFL.out];rfl),HB.out.2.2⟩
theorem k5f (b:Hb) (d:De) (w:World) (hn:b.l.length≤maxLen) (hk:b.ks.length≤maxLen) :
 Calls Tryz.prog 67 #[b.v,dv d] w fun e w'=>e=.returned (.int .i64 (j0v b.l.length b.ks.length d))∧Below w.heap.size w w':=by
 obtain⟨V,hV⟩:∃ V,V=(w.alloc b.obj).alloc (dObj d):=⟨_,rfl⟩
 obtain⟨p,hp⟩:∃ p,p=w.heap.size:=⟨_,rfl⟩
 have HB:=zQ9 (show DB9 w b d p V by rw[hV,hp];exact DB9.start w b d)
 obtain⟨z0,z1,z2,z3,z4,z5,z6,z7,z8,z9,z10,z11⟩:=blkD HB.out.2.1
 obtain⟨c0,c1,c2,c3,c4⟩:=j0h HB.out.1
 have hlp:=j0a HB.out.1
 have hlq:=j0a HB.out.2.1
 obtain⟨k1,hk1⟩:∃ k1,k1=btw d.kind 1 6:=⟨_,rfl⟩
 obtain⟨f1,hf1⟩:∃ f1,f1=ownB b.ks.length d.flock:=⟨_,rfl⟩
 obtain⟨fe,hfe⟩:∃ fe,fe=fldE b.l.length b.ks.length d:=⟨_,rfl⟩
 have hwi:∀ W,Calls Tryz.prog 105 #[.int .i64 d.kind,.int .i64 1,.int .i64 6] W fun e w'=>e=.returned (.bool k1)∧Below W.heap.size W w':=fun W=>by rw[hk1];exact(j2i _ _ _ _).mono fun e w' ⟨a,c⟩=>⟨a,c ▸ Below.refl _ _⟩
 have hif:∀ W,Calls Tryz.prog 86 #[.agg #[.int .i64 b.t,.slice b.A b.l.length b.c,.slice b.Ak b.ks.length b.ck,.slice b.Ah b.hs.length b.ch,.slice b.Ad b.ds.length b.cd],.int .i64 d.flock] W fun e w'=>e=.returned (.bool f1)∧Below W.heap.size W w':=fun W=>by rw[hf1];exact k1f _ _ _ _ _ _ _ _ _ _ _ _ _ _ W hk
 have hcf:∀ W,Calls Tryz.prog 109 #[.agg #[.int .i64 b.t,.slice b.A b.l.length b.c,.slice b.Ak b.ks.length b.ck,.slice b.Ah b.hs.length b.ch,.slice b.Ad b.ds.length b.cd],.agg #[.int .i64 d.kind,.int .i64 d.flock,.int .i64 d.owner,.int .i64 d.other,.int .i64 d.tof,.int .i64 d.many,.int .i64 d.err,.int .i64 d.s.n,.bool d.s.l,.bool d.s.r,.int .i64 d.s.b,.int .i64 d.s.p]] W fun e w'=>e=.returned (.int .i64 fe)∧Below W.heap.size W w':=fun W=>by rw[hfe];exact k3a b d W hn hk
 have hde:j0v b.l.length b.ks.length d=if k1=false then 8 else if f1=false then 3 else if fe≠0 then fe else if d≠namD d then 1 else 0:=by
  unfold j0v
  rw[hk1,hf1,hfe]
 obtain⟨R,hR⟩:∃ R,R=j0v b.l.length b.ks.length d:=⟨_,rfl⟩
 rw[←hR] at hde ⊢
 have HO:=zQ9 hde
 clear hk1 hf1 hfe hR hde
 unfold Hb.v dv
 go_enter Tryz.func67,Tryz.ntmps67
 go_upto_region 1 with (fail)
 rw[show(w.alloc (Obj.cells #[Value.int .i64 b.t,b.vm,b.vk,b.vh,b.vd] 29)).alloc (Obj.cells #[Value.int .i64 d.kind,.int .i64 d.flock,.int .i64 d.owner,.int .i64 d.other,.int .i64 d.tof,.int .i64 d.many,.int .i64 d.err,.int .i64 d.s.n,.bool d.s.l,.bool d.s.r,.int .i64 d.s.b,.int .i64 d.s.p] 33)=V from hV.symm,←hp]
 clear hV hp
 cases k1
 ·go_wp2_with (first|(go_at_call 105;(with_reducible refine(hwi _).mono ?_);rintro e wn ⟨rfl,hbn⟩;replace HB:=zQ9 (HB.out.step hbn);clear hbn;(try clear z0 z1 z2 z3 z4 z5 z6 z7 z8 z9 z10 z11 c0 c1 c2 c3 c4 hlp hlq);obtain⟨z0,z1,z2,z3,z4,z5,z6,z7,z8,z9,z10,z11⟩:=blkD HB.out.2.1;obtain⟨c0,c1,c2,c3,c4⟩:=j0h HB.out.1;have hlp:=j0a HB.out.1;have hlq:=j0a HB.out.2.1))
  go_ret
  exact⟨j0k (by rw[HO.out];rfl),HB.out.2.2⟩
 cases f1
 ·go_wp2_with (first|(go_at_call 105;(with_reducible refine(hwi _).mono ?_);rintro e wn ⟨rfl,hbn⟩;replace HB:=zQ9 (HB.out.step hbn);clear hbn;(try clear z0 z1 z2 z3 z4 z5 z6 z7 z8 z9 z10 z11 c0 c1 c2 c3 c4 hlp hlq);obtain⟨z0,z1,z2,z3,z4,z5,z6,z7,z8,z9,z10,z11⟩:=blkD HB.out.2.1;obtain⟨c0,c1,c2,c3,c4⟩:=j0h HB.out.1;have hlp:=j0a HB.out.1;have hlq:=j0a HB.out.2.1)|(go_at_call 86;(with_reducible refine(hif _).mono ?_);rintro e wn ⟨rfl,hbn⟩;replace HB:=zQ9 (HB.out.step hbn);clear hbn;(try clear z0 z1 z2 z3 z4 z5 z6 z7 z8 z9 z10 z11 c0 c1 c2 c3 c4 hlp hlq);obtain⟨z0,z1,z2,z3,z4,z5,z6,z7,z8,z9,z10,z11⟩:=blkD HB.out.2.1;obtain⟨c0,c1,c2,c3,c4⟩:=j0h HB.out.1;have hlp:=j0a HB.out.1;have hlq:=j0a HB.out.2.1))
  go_ret
  exact⟨j0k (by rw[HO.out];rfl),HB.out.2.2⟩
 by_cases h0:fe=0
 ·subst h0
  have HO2:=zQ9 (show R=if d≠namD d then 1 else 0 by rw[HO.out];rfl)
  obtain⟨x,hx⟩:∃ x,x=namD d:=⟨_,rfl⟩
  have hna:∀ W,Calls Tryz.prog 110 #[.agg #[.int .i64 d.kind,.int .i64 d.flock,.int .i64 d.owner,.int .i64 d.other,.int .i64 d.tof,.int .i64 d.many,.int .i64 d.err,.int .i64 d.s.n,.bool d.s.l,.bool d.s.r,.int .i64 d.s.b,.int .i64 d.s.p]] W fun e w'=>e=.returned (.agg #[.int .i64 x.kind,.int .i64 x.flock,.int .i64 x.owner,.int .i64 x.other,.int .i64 x.tof,.int .i64 x.many,.int .i64 x.err,.int .i64 x.s.n,.bool x.s.l,.bool x.s.r,.int .i64 x.s.b,.int .i64 x.s.p])∧Below W.heap.size W w':=fun W=>by rw[hx];exact q1z d W
  have HX:=zQ9 hx
  clear hx
  go_upto_region 8 with (first|(go_at_call 105;(with_reducible refine(hwi _).mono ?_);rintro e wn ⟨rfl,hbn⟩;replace HB:=zQ9 (HB.out.step hbn);clear hbn;(try clear z0 z1 z2 z3 z4 z5 z6 z7 z8 z9 z10 z11 c0 c1 c2 c3 c4 hlp hlq);obtain⟨z0,z1,z2,z3,z4,z5,z6,z7,z8,z9,z10,z11⟩:=blkD HB.out.2.1;obtain⟨c0,c1,c2,c3,c4⟩:=j0h HB.out.1;have hlp:=j0a HB.out.1;have hlq:=j0a HB.out.2.1)|(go_at_call 86;(with_reducible refine(hif _).mono ?_);rintro e wn ⟨rfl,hbn⟩;replace HB:=zQ9 (HB.out.step hbn);clear hbn;(try clear z0 z1 z2 z3 z4 z5 z6 z7 z8 z9 z10 z11 c0 c1 c2 c3 c4 hlp hlq);obtain⟨z0,z1,z2,z3,z4,z5,z6,z7,z8,z9,z10,z11⟩:=blkD HB.out.2.1;obtain⟨c0,c1,c2,c3,c4⟩:=j0h HB.out.1;have hlp:=j0a HB.out.1;have hlq:=j0a HB.out.2.1)|(go_at_call 109;(with_reducible refine(hcf _).mono ?_);rintro e wn ⟨rfl,hbn⟩;replace HB:=zQ9 (HB.out.step hbn);clear hbn;(try clear z0 z1 z2 z3 z4 z5 z6 z7 z8 z9 z10 z11 c0 c1 c2 c3 c4 hlp hlq);obtain⟨z0,z1,z2,z3,z4,z5,z6,z7,z8,z9,z10,z11⟩:=blkD HB.out.2.1;obtain⟨c0,c1,c2,c3,c4⟩:=j0h HB.out.1;have hlp:=j0a HB.out.1;have hlq:=j0a HB.out.2.1))
  obtain⟨w2,hw2⟩:∃ w2:World,w2=wn:=⟨_,rfl⟩
  rw[←hw2] at HB ⊢
  clear hw2 z0 z1 z2 z3 z4 z5 z6 z7 z8 z9 z10 z11 c0 c1 c2 c3 c4 hlp hlq
  obtain⟨z0,z1,z2,z3,z4,z5,z6,z7,z8,z9,z10,z11⟩:=blkD HB.out.2.1
  have hlq:=j0a HB.out.2.1
  have k0:=zA9 (cell_regrown z0) (zA9 (cell_regrown z1) (zA9 (cell_regrown z2) (zA9 (cell_regrown z3) (zA9 (cell_regrown z4) (cell_regrown z5)))))
  have k6:=zA9 (cell_regrown z6) (zA9 (cell_regrown z7) (zA9 (cell_regrown z8) (zA9 (cell_regrown z9) (zA9 (cell_regrown z10) (cell_regrown z11)))))
  have cN:∀ d' os,Calls Tryz.prog 110 #[.agg #[.int .i64 d.kind,.int .i64 d.flock,.int .i64 d.owner,.int .i64 d.other,.int .i64 d.tof,.int .i64 d.many,.int .i64 d.err,.int .i64 d.s.n,.bool d.s.l,.bool d.s.r,.int .i64 d.s.b,.int .i64 d.s.p]] (Sort.grow (redrawn w2 d') os) (fun e w''=>e=.returned (.agg #[.int .i64 x.kind,.int .i64 x.flock,.int .i64 x.owner,.int .i64 x.other,.int .i64 x.tof,.int .i64 x.many,.int .i64 x.err,.int .i64 x.s.n,.bool x.s.l,.bool x.s.r,.int .i64 x.s.b,.int .i64 x.s.p])∧∃ p:Regrown,w''=Sort.grow (redrawn w2 p.d) p.os):=fun d' os=>Calls.regrown_of (hna _)
  have HCN:=zQ9 cN
  clear cN z0 z1 z2 z3 z4 z5 z6 z7 z8 z9 z10 z11 hna hwi hif hcf
  refine j1q 3 (by kernel_rfl) (by kernel_rfl) ?_
  simp only[List.take_succ_cons,List.take_zero,List.drop_succ_cons,List.drop_zero]
  repeat (quiet_step (exact HCN.out _ _))
  refine wpQuiet_nil ?_
  intro _ hw'
  obtain⟨⟨dq,osq⟩,hw''⟩:=hw'
  subst hw''
  have HBB:=zQ9 (HB.out.2.2.trans ((below_regrown w2 dq osq).mono HB.out.2.2.size))
  generalize Sort.grow (redrawn w2 dq) osq=w3 at HBB ⊢
  clear k0 k6 HB hlq
  by_cases hdx:d=x
  ·have HDX:=zQ9 (show R=0 by rw[HO2.out,if_neg (by rw[←HX.out];exact fun h=>h hdx)])
   clear HO HO2 HX HCN
   subst hdx
   go_wp2_with fail
   go_ret
   exact⟨j0k HDX.out.symm,HBB.out⟩
  ·have HDX:=zQ9 (show R=1∧¬d=x from⟨by rw[HO2.out,if_pos (by rw[←HX.out];exact hdx)],hdx⟩)
   clear HO HO2 HX HCN hdx
   obtain⟨dk,df,dow,dot,dt,dm,de,⟨dsn,dsl,dsr,dsb,dsp⟩⟩:=d
   obtain⟨xk,xf,xow,xot,xt,xm,xe,⟨xsn,xsl,xsr,xsb,xsp⟩⟩:=x
   dsimp only at *
   go_wp2_with fail
   all_goals
    first
     | (go_ret
        exact⟨j0k HDX.out.1.symm,HBB.out⟩)
     | (exfalso
        subst_vars
        exact HDX.out.2 rfl)
 ·have x0:(fe==0)=false:=beq_eq_false_iff_ne.2 h0
  have x1:(fe != 0)=true:=by simp[h0]
  have H0:=zQ9 h0
  clear h0
  go_wp2_with (first|(go_at_call 105;(with_reducible refine(hwi _).mono ?_);rintro e wn ⟨rfl,hbn⟩;replace HB:=zQ9 (HB.out.step hbn);clear hbn;(try clear z0 z1 z2 z3 z4 z5 z6 z7 z8 z9 z10 z11 c0 c1 c2 c3 c4 hlp hlq);obtain⟨z0,z1,z2,z3,z4,z5,z6,z7,z8,z9,z10,z11⟩:=blkD HB.out.2.1;obtain⟨c0,c1,c2,c3,c4⟩:=j0h HB.out.1;have hlp:=j0a HB.out.1;have hlq:=j0a HB.out.2.1)|(go_at_call 86;(with_reducible refine(hif _).mono ?_);rintro e wn ⟨rfl,hbn⟩;replace HB:=zQ9 (HB.out.step hbn);clear hbn;(try clear z0 z1 z2 z3 z4 z5 z6 z7 z8 z9 z10 z11 c0 c1 c2 c3 c4 hlp hlq);obtain⟨z0,z1,z2,z3,z4,z5,z6,z7,z8,z9,z10,z11⟩:=blkD HB.out.2.1;obtain⟨c0,c1,c2,c3,c4⟩:=j0h HB.out.1;have hlp:=j0a HB.out.1;have hlq:=j0a HB.out.2.1)|(go_at_call 109;(with_reducible refine(hcf _).mono ?_);rintro e wn ⟨rfl,hbn⟩;replace HB:=zQ9 (HB.out.step hbn);clear hbn;(try clear z0 z1 z2 z3 z4 z5 z6 z7 z8 z9 z10 z11 c0 c1 c2 c3 c4 hlp hlq);obtain⟨z0,z1,z2,z3,z4,z5,z6,z7,z8,z9,z10,z11⟩:=blkD HB.out.2.1;obtain⟨c0,c1,c2,c3,c4⟩:=j0h HB.out.1;have hlp:=j0a HB.out.1;have hlq:=j0a HB.out.2.1))
  go_ret
  exact⟨j0k (by rw[HO.out,if_neg (by decide),if_neg (by decide),if_pos H0.out]),HB.out.2.2⟩
def BB9 (V:World) (b:Hb) (p:Nat) (w:World):Prop:=w.heap[p]?=some b.obj∧HbIn w b∧Below V.heap.size V w
theorem BB9.step {V w w':World} {b:Hb} {p:Nat} (h:BB9 V b p w) (hb:Below w.heap.size w w'):BB9 V b p w':=⟨j0e h.1 hb (zL9 _),h.2.1.below hb (zL9 _),h.2.2.trans (hb.mono h.2.2.size)⟩
theorem BB9.start {w:World} {b:Hb} (h:HbIn w b):BB9 w b w.heap.size (w.alloc b.obj):=⟨j0c rfl,h.below (bal0 _ _) (zL9 _),bal0 _ _⟩
theorem j8n {α:Type} {L:List α} {q:Nat} {x:α} {f:α→Bool} (h:(L.take q).all f=true) (hx:L[q]?=some x) (hf:f x=true):(L.take (q+1)).all f=true:=by
 rw[List.take_add_one,hx,List.all_append,h];simp[hf]
theorem k2z {α:Type} {L:List α} {q:Nat} {x:α} {f:α→Bool} (hx:L[q]?=some x) (hf:f x=false):L.all f=false:=by
 rw[List.all_eq_false];exact⟨x,List.mem_of_getElem? hx,by simp[hf]⟩
def flk9 (t:Int) (l:List Mk) (ks:List Int) (hs:List (List Int)):Int:=if check t l≠0 then check t l else j1l l.length ks hs
theorem k3b (b:Hb) (w:World) (hin:HbIn w b) :
 Calls Tryz.prog 66 #[b.v] w fun e w'=>e=.returned (.int .i64 (flk9 b.t b.l b.ks b.hs))∧Below w.heap.size w w':=by
 obtain⟨V,hV⟩:∃ V,V=w.alloc b.obj:=⟨_,rfl⟩
 obtain⟨p,hp⟩:∃ p,p=w.heap.size:=⟨_,rfl⟩
 have HB:=zQ9 (show BB9 w b p V by rw[hV,hp];exact BB9.start hin)
 obtain⟨c0,c1,c2,c3,c4⟩:=j0h HB.out.1
 have hlp:=j0a HB.out.1
 have hnm:b.l.length≤maxLen:=Nat.le_trans hin.mc hin.mm
 have hkm:b.ks.length≤maxLen:=Nat.le_trans hin.kc hin.km
 have hhm:b.hs.length≤maxLen:=Nat.le_trans hin.hc hin.hm
 have hkc:=hin.kc
 have hkcm:=hin.km
 have hhc:=hin.hc
 have hhcm:=hin.hm
 have hrc:=rCheck b.t b.A b.l.length b.c b.l V HB.out.2.1.m hin.mc hin.mm
 obtain⟨ce,hce⟩:∃ ce,ce=check b.t b.l:=⟨_,rfl⟩
 rw[←hce] at hrc
 obtain⟨R,hR⟩:∃ R,R=flk9 b.t b.l b.ks b.hs:=⟨_,rfl⟩
 rw[←hR]
 have HR:=zQ9 (show R=if ce≠0 then ce else j1l b.l.length b.ks b.hs by rw[hR,hce];rfl)
 clear hR hce hin
 unfold maxLen at hnm hkm hhm
 unfold Hb.v
 go_enter Tryz.func66,Tryz.ntmps66
 go_upto_region 1 with (fail)
 rw[←hV,←hp]
 clear hV hp
 by_cases h0:ce=0
 ·subst h0
  have HR1:=zQ9 (show R=j1l b.l.length b.ks b.hs by rw[HR.out];rfl)
  clear HR
  go_upto_region 4 with (go_at_call 108;(with_reducible refine hrc.mono ?_);rintro e w1 ⟨rfl,hb1⟩;replace HB:=zQ9 (HB.out.step hb1);clear hb1 c0 c1 c2 c3 c4 hlp)
  clear hrc
  obtain⟨c0,c1,c2,c3,c4⟩:=j0h HB.out.1
  have hlp:=j0a HB.out.1
  obtain⟨n,hn⟩:∃ n,n=b.l.length:=⟨_,rfl⟩
  obtain⟨nk,hnk⟩:∃ nk,nk=b.ks.length:=⟨_,rfl⟩
  obtain⟨nh,hnh⟩:∃ nh,nh=b.hs.length:=⟨_,rfl⟩
  by_cases hk0:b.ks.length=0
  ·have e1:((b.ks.length:Int)==0)=true:=by simp[hk0]
   have HK:=zQ9 hk0
   clear hk0
   go_wp2_with fail
   go_ret
   exact⟨j0k (by rw[HR1.out];unfold j1l;rw[if_pos HK.out]),HB.out.2.2⟩
  have e1:((b.ks.length:Int)==0)=false:=beq_eq_false_iff_ne.2 (by omega)
  have HK0:=zQ9 hk0
  by_cases hk3:3<b.ks.length
  ·have e2:(3:Int)<(b.ks.length:Int):=by omega
   have HK:=zQ9 hk3
   clear hk3 hk0
   go_wp2_with fail
   go_ret
   exact⟨j0k (by rw[HR1.out];unfold j1l;rw[if_neg HK0.out,if_pos HK.out]),HB.out.2.2⟩
  have e2:¬(3:Int)<(b.ks.length:Int):=by omega
  have HK3:=zQ9 hk3
  have HR2:=zQ9 (show R=if b.ks.all (ownB b.l.length)=false then 3 else if b.hs.length≠b.ks.length then 2
   else if b.hs.all (fun r=>decide (r.length=b.l.length))=false then 2 else if b.hs.all (fun r=>r.all fun x=>btw x 0 20)=false then 1 else 0 by
   rw[HR1.out];unfold j1l;rw[if_neg hk0,if_neg hk3])
  clear hk0 hk3 HR1
  go_upto_region 9 with (fail)
  clear e1 e2
  go_loopg [4] b.ks.length (fun gh v4 wr=>∃ i:Nat,i+gh=b.ks.length∧v4=.int .i64 i∧(b.ks.take i).all (ownB b.l.length)=true∧BB9 w b p wr)
  case atStart=>exact⟨0,by omega,rfl,by simp,HB.out⟩
  case round =>
   obtain⟨i,hi,rfl,hall,hB⟩:=hrel
   obtain⟨w2,hw2⟩:∃ W:World,W=wr:=⟨_,rfl⟩
   rw[←hw2] at hB ⊢
   clear hw2 c0 c1 c2 c3 c4 hlp
   obtain⟨c0,c1,c2,c3,c4⟩:=j0h hB.1
   have hlp:=j0a hB.1
   by_cases hlt:i<b.ks.length
   ·obtain⟨bk,ok,x,eA,hbk,hx,y1⟩:=Ints.get hB.2.1.k hlt
    rw[eA] at c2
    have i1:(i:Int)<(b.ks.length:Int):=by omega
    obtain⟨ob,hob⟩:∃ ob,ob=ownB b.l.length x:=⟨_,rfl⟩
    have cO:∀ d' os,Calls Tryz.prog 60 #[.agg #[.int .i64 b.t,.slice b.A b.l.length b.c,.slice (some ⟨bk,ok,none⟩) b.ks.length b.ck,.slice b.Ah b.hs.length b.ch,.slice b.Ad b.ds.length b.cd],.int .i64 x] (Sort.grow (redrawn w2 d') os) (fun e w''=>e=.returned (.bool ob)∧∃ p:Regrown,w''=Sort.grow (redrawn w2 p.d) p.os):=fun d' os=>by
     rw[hob]
     exact Calls.regrown_of (j5r _ _ _ _ _ _ _ _ _ _ _ _ _ _ _ (by unfold maxLen;exact hnm))
    have HCO:=zQ9 cO
    have HI:=zQ9 (zA9 hi (zA9 hall (zA9 hB (zA9 hx hob))))
    have k0:=zA9 (cell_regrown c0) (zA9 (cell_regrown c1) (zA9 (cell_regrown c2) (zA9 (cell_regrown c3) (zA9 (cell_regrown c4) (cell_regrown y1)))))
    clear cO hi hall hB hx hob eA
    go_upto_region 11 with (fail)
    clear c0 c1 c2 c3 c4 y1
    refine wp_region_quiet_below (by kernel_rfl) (by kernel_rfl) ?_
    repeat (go_big_quiet_step (exact HCO.out _ _))
    refine wpQuiet_nil ?_
    intro _ hw'
    obtain⟨⟨dq,osq⟩,hw''⟩:=hw'
    subst hw''
    have HB3:=zQ9 (HI.out.2.2.1.step (below_regrown w2 dq osq))
    generalize Sort.grow (redrawn w2 dq) osq=w3 at HB3 ⊢
    clear k0
    cases ob
    ·go_wp2_with fail
     go_ret
     exact⟨j0k (by rw[HR2.out,if_pos (k1v HI.out.2.2.2.1 HI.out.2.2.2.2.symm)]),HB3.out.2.2⟩
    ·go_wp2_with fail
     go_roundg (gk-1)
     case measure=>have:=HI.out.1;omega
     case rel=>exact⟨i+1,by have:=HI.out.1;omega,by go_num,j9r HI.out.2.1 HI.out.2.2.2.1 HI.out.2.2.2.2.symm,HB3.out⟩
   ·obtain rfl:i=b.ks.length:=by omega
    rw[List.take_length] at hall
    have HR3:=zQ9 (show R=if b.hs.length≠b.ks.length then 2
   else if b.hs.all (fun r=>decide (r.length=b.l.length))=false then 2 else if b.hs.all (fun r=>r.all fun x=>btw x 0 20)=false then 1 else 0 by
    rw[HR2.out,if_neg (by rw[hall];decide)])
    have HB2:=zQ9 hB
    clear HB HR2 hall hB hi hlt
    by_cases hhk:b.hs.length=b.ks.length
    ·have e3:((b.hs.length:Int)==(b.ks.length:Int))=true:=by simp[hhk]
     have HR4:=zQ9 (show R=if b.hs.all (fun r=>decide (r.length=b.l.length))=false then 2 else if b.hs.all (fun r=>r.all fun x=>btw x 0 20)=false then 1 else 0 by
      rw[HR3.out,if_neg (fun h=>h hhk)])
     clear hhk HR3
     go_upto_region 16 with (fail)
     have e3n:((b.hs.length:Int) != (b.ks.length:Int))=false:=by rw[bne,e3];rfl
     rw[e3n]
     clear e3 e3n
     go_loopg [5] b.hs.length (fun gh v5 wr=>∃ i:Nat,i+gh=b.hs.length∧v5=.int .i64 i∧(b.hs.take i).all (fun r=>decide (r.length=b.l.length))=true∧BB9 w b p wr)
     case atStart=>exact⟨0,by omega,rfl,by simp,HB2.out⟩
     case round =>
      obtain⟨i,hi,rfl,hall,hB⟩:=hrel
      obtain⟨w3,hw3⟩:∃ W:World,W=wr:=⟨_,rfl⟩
      rw[←hw3] at hB ⊢
      clear hw3 c0 c1 c2 c3 c4 hlp
      obtain⟨c0,c1,c2,c3,c4⟩:=j0h hB.1
      have hlp:=j0a hB.1
      by_cases hlt:i<b.hs.length
      ·obtain⟨bh,oh,Br,row,cr,eA,hbh,hrow,y1,hri,hrc,hrm⟩:=hB.2.1.h.get hlt
       rw[eA] at c3
       have i1:(i:Int)<(b.hs.length:Int):=by omega
       obtain⟨rl,hrl⟩:∃ rl,rl=row.length:=⟨_,rfl⟩
       rw[←hrl] at y1
       have HI:=zQ9 (zA9 hi (zA9 hall (zA9 hB (zA9 hrow hrl))))
       have hsz:=hB.2.2.size
       clear hi hall hB hrow hrl hri hrc eA
       by_cases hll:rl=b.l.length
       ·have e3:((rl:Int)==(b.l.length:Int))=true:=by simp[hll]
        have HL:=zQ9 hll
        clear hll
        go_upto_region 18 with (fail)
        go_quiet (fail)
        have HB3:=zQ9 (HI.out.2.2.1.step (j0l (Below.refl _ _) nq))
        go_wp2_with fail
        go_roundg (gk-1)
        case measure=>have:=HI.out.1;omega
        case rel=>exact⟨i+1,by have:=HI.out.1;omega,by go_num,j8n HI.out.2.1 HI.out.2.2.2.1 (by rw[decide_eq_true_eq,←HI.out.2.2.2.2];exact HL.out),HB3.out⟩
       ·have e3:((rl:Int)==(b.l.length:Int))=false:=beq_eq_false_iff_ne.2 (by omega)
        have HL:=zQ9 hll
        clear hll
        go_upto_region 18 with (fail)
        go_quiet (fail)
        have HB3:=zQ9 (HI.out.2.2.1.step (j0l (Below.refl _ _) nq))
        go_wp2_with fail
        go_ret
        exact⟨j0k (by rw[HR4.out,if_pos (k2z HI.out.2.2.2.1 (by rw[decide_eq_false_iff_not,←HI.out.2.2.2.2];exact HL.out))]),HB3.out.2.2⟩
      ·obtain rfl:i=b.hs.length:=by omega
       rw[List.take_length] at hall
       have HR5:=zQ9 (show R=if b.hs.all (fun r=>r.all fun x=>btw x 0 20)=false then 1 else 0 by
        rw[HR4.out,if_neg (by rw[hall];decide)])
       have HB3:=zQ9 hB
       clear HB2 HR4 hall hB hi hlt
       go_upto_region 21 with (fail)
       go_loopg [6,7] b.hs.length (fun gh v6 _ wr=>∃ i:Nat,i+gh=b.hs.length∧v6=.int .i64 i∧(b.hs.take i).all (fun r=>r.all fun x=>btw x 0 20)=true∧BB9 w b p wr)
       case atStart=>exact⟨0,by omega,rfl,by simp,HB3.out⟩
       case round =>
        obtain⟨i,hi,rfl,hall,hB⟩:=hrel
        obtain⟨g1,rfl⟩:∃ g1:Nat,g1=gk:=⟨_,rfl⟩
        obtain⟨w4,hw4⟩:∃ W:World,W=wr:=⟨_,rfl⟩
        rw[←hw4] at hB ⊢
        clear hw4 c0 c1 c2 c3 c4 hlp
        obtain⟨c0,c1,c2,c3,c4⟩:=j0h hB.1
        have hlp:=j0a hB.1
        by_cases hlt:i<b.hs.length
        ·obtain⟨row,hrow⟩:∃ row,b.hs[i]?=some row:=⟨_,List.getElem?_eq_getElem hlt⟩
         have i1:(i:Int)<(b.hs.length:Int):=by omega
         have HI:=zQ9 (zA9 hi (zA9 hall (zA9 hB hrow)))
         clear hi hall hB hrow
         go_upto_region 24 with (fail)
         go_loopg [7] row.length (fun gh v7 wr=>∃ o:Nat,o+gh=row.length∧v7=.int .i64 o∧(row.take o).all (fun x=>btw x 0 20)=true∧BB9 w b p wr)
         case atStart=>exact⟨0,by omega,rfl,by simp,HI.out.2.2.1⟩
         case round =>
          obtain⟨o,ho,rfl,hall,hB⟩:=hrel
          obtain⟨w5,hw5⟩:∃ W:World,W=wr:=⟨_,rfl⟩
          rw[←hw5] at hB ⊢
          clear hw5 c0 c1 c2 c3 c4 hlp
          obtain⟨c0,c1,c2,c3,c4⟩:=j0h hB.1
          have hlp:=j0a hB.1
          obtain⟨bh,oh,Br,row',cr,eA,hbh,hrow',y1,hri,hrc,hrm⟩:=hB.2.1.h.get hlt
          rw[HI.out.2.2.2] at hrow'
          cases hrow'
          rw[eA] at c3
          by_cases hlo:o<row.length
          ·obtain⟨bx,ox,x,rfl,hbx,hx,y2⟩:=Ints.get hri hlo
           have i2:(o:Int)<(row.length:Int):=by omega
           have hrm2:row.length≤9223372036854775807:=by unfold maxLen at hrm;omega
           obtain⟨xb,hxb⟩:∃ xb,xb=btw x 0 20:=⟨_,rfl⟩
           have hwi:Calls Tryz.prog 105 #[.int .i64 x,.int .i64 0,.int .i64 20] w5 fun e w'=>e=.returned (.bool xb)∧w5=w':=by rw[hxb];exact j2i _ _ _ _
           have HO:=zQ9 (zA9 ho (zA9 hall (zA9 hB (zA9 hx hxb))))
           clear ho hall hB hx hxb hri eA
           cases xb
           ·go_wp2_with (go_at_call 105;(with_reducible refine hwi.mono ?_);rintro e w' ⟨rfl,hw⟩;rw[←hw];clear hw w')
            go_ret
            exact⟨j0k (by rw[HR5.out,if_pos (k2z HI.out.2.2.2 (k2z HO.out.2.2.2.1 HO.out.2.2.2.2.symm))]),HO.out.2.2.1.2.2⟩
           ·go_wp2_with (go_at_call 105;(with_reducible refine hwi.mono ?_);rintro e w' ⟨rfl,hw⟩;rw[←hw];clear hw w')
            go_roundg (gk-1)
            case measure=>have:=HO.out.1;omega
            case rel=>exact⟨o+1,by have:=HO.out.1;omega,by go_num,j8n HO.out.2.1 HO.out.2.2.2.1 HO.out.2.2.2.2.symm,HO.out.2.2.1⟩
          ·obtain rfl:o=row.length:=by omega
           rw[List.take_length] at hall
           have HO:=zQ9 (zA9 hall hB)
           clear ho hall hB hri eA
           go_wp2_with fail
           go_roundg (g1-1)
           case measure=>have:=HI.out.1;omega
           case rel=>exact⟨i+1,by have:=HI.out.1;omega,by go_num,j8n HI.out.2.1 HI.out.2.2.2 HO.out.1,HO.out.2⟩
        ·obtain rfl:i=b.hs.length:=by omega
         rw[List.take_length] at hall
         have HF:=zQ9 (zA9 hall hB)
         clear hi hall hB
         go_wp2_with fail
         go_ret
         exact⟨j0k (by rw[HR5.out,if_neg (by rw[HF.out.1];decide)]),HF.out.2.2.2⟩
    ·have e3:((b.hs.length:Int)==(b.ks.length:Int))=false:=beq_eq_false_iff_ne.2 (by omega)
     have HH:=zQ9 hhk
     clear hhk
     go_wp2_with fail
     go_ret
     exact⟨j0k (by rw[HR3.out,if_pos HH.out]),HB2.out.2.2⟩
 ·have x1:(ce != 0)=true:=by simp[h0]
  have H0:=zQ9 h0
  clear h0
  go_wp2_with (go_at_call 108;(with_reducible refine hrc.mono ?_);rintro e w1 ⟨rfl,hb1⟩;replace HB:=zQ9 (HB.out.step hb1);clear hb1 c0 c1 c2 c3 c4 hlp)
  go_ret
  exact⟨j0k (by rw[HR.out,if_pos H0.out]),HB.out.2.2⟩
theorem chk9 (b:Hb):b.chk=if flk9 b.t b.l b.ks b.hs≠0 then flk9 b.t b.l b.ks b.hs else if 6<b.ds.length then 6 else j1n b.l.length b.ks.length b.ds:=by
 unfold Hb.chk j4s flk9
 by_cases h:check b.t b.l=0
 ·simp[h]
 ·simp[h]
theorem k3t (b:Hb) (w:World) (hin:HbIn w b) :
 Calls Tryz.prog 18 #[b.v] w fun e w'=>e=.returned (.int .i64 b.chk)∧Below w.heap.size w w':=by
 obtain⟨V,hV⟩:∃ V,V=w.alloc b.obj:=⟨_,rfl⟩
 obtain⟨p,hp⟩:∃ p,p=w.heap.size:=⟨_,rfl⟩
 have HB:=zQ9 (show BB9 w b p V by rw[hV,hp];exact BB9.start hin)
 obtain⟨c0,c1,c2,c3,c4⟩:=j0h HB.out.1
 have hlp:=j0a HB.out.1
 have hnm:b.l.length≤maxLen:=Nat.le_trans hin.mc hin.mm
 have hkm:b.ks.length≤maxLen:=Nat.le_trans hin.kc hin.km
 have hdm:b.ds.length≤maxLen:=Nat.le_trans hin.dc hin.dm
 have hdc:=hin.dc
 have hdcm:=hin.dm
 have hcf:=k3b b V HB.out.2.1
 obtain⟨ce,hce⟩:∃ ce,ce=flk9 b.t b.l b.ks b.hs:=⟨_,rfl⟩
 rw[←hce] at hcf
 obtain⟨R,hR⟩:∃ R,R=b.chk:=⟨_,rfl⟩
 rw[←hR]
 have HR:=zQ9 (show R=if ce≠0 then ce else if 6<b.ds.length then 6 else j1n b.l.length b.ks.length b.ds by rw[hR,hce];exact chk9 b)
 have HM:=zQ9 (zA9 hnm hkm)
 clear hR hce hin hnm hkm
 unfold maxLen at hdm
 unfold Hb.v at hcf ⊢
 go_enter Tryz.func18,Tryz.ntmps18
 go_upto_region 1 with (fail)
 rw[←hV,←hp]
 clear hV hp
 by_cases h0:ce=0
 ·subst h0
  have HR1:=zQ9 (show R=if 6<b.ds.length then 6 else j1n b.l.length b.ks.length b.ds by rw[HR.out];rfl)
  clear HR
  go_upto_region 4 with (go_at_call 66;(with_reducible refine hcf.mono ?_);rintro e w1 ⟨rfl,hb1⟩;replace HB:=zQ9 (HB.out.step hb1);clear hb1 c0 c1 c2 c3 c4 hlp)
  clear hcf
  obtain⟨c0,c1,c2,c3,c4⟩:=j0h HB.out.1
  have hlp:=j0a HB.out.1
  by_cases h6:6<b.ds.length
  ·have e2:(6:Int)<(b.ds.length:Int):=by omega
   have HK:=zQ9 h6
   clear h6
   go_wp2_with fail
   go_ret
   exact⟨j0k (by rw[HR1.out,if_pos HK.out]),HB.out.2.2⟩
  have e2:¬(6:Int)<(b.ds.length:Int):=by omega
  have HR2:=zQ9 (show R=j1n b.l.length b.ks.length b.ds by rw[HR1.out,if_neg h6])
  clear h6 HR1
  go_upto_region 7 with (fail)
  clear e2
  go_loopg [4,5] b.ds.length (fun gh v4 _ wr=>∃ i:Nat,i+gh=b.ds.length∧v4=.int .i64 i∧j1n b.l.length b.ks.length (b.ds.take i)=0∧BB9 w b p wr)
  case atStart=>exact⟨0,by omega,rfl,rfl,HB.out⟩
  case round =>
   obtain⟨i,hi,rfl,hall,hB⟩:=hrel
   obtain⟨w2,hw2⟩:∃ W:World,W=wr:=⟨_,rfl⟩
   rw[←hw2] at hB ⊢
   clear hw2 c0 c1 c2 c3 c4 hlp
   obtain⟨c0,c1,c2,c3,c4⟩:=j0h hB.1
   have hlp:=j0a hB.1
   by_cases hlt:i<b.ds.length
   ·obtain⟨bd,od,d,eA,hbd,hd,d0,d1,d2,d3,d4,d5,d6,d7,d8,d9,d10,d11⟩:=hB.2.1.d.get hlt
    have i1:(i:Int)<(b.ds.length:Int):=by omega
    obtain⟨de,hde⟩:∃ de,de=j0v b.l.length b.ks.length d:=⟨_,rfl⟩
    have hcd:∀ nq,Calls Tryz.prog 67 #[b.v,dv d] (w2.drewN nq) fun e w'=>e=.returned (.int .i64 de)∧Below (w2.drewN nq).heap.size (w2.drewN nq) w':=fun nq=>by
     rw[hde]
     exact k5f b d _ HM.out.1 HM.out.2
    unfold Hb.v dv at hcd
    rw[eA] at c4 hcd
    have htk:b.ds.take (i+1)=b.ds.take i++[d]:=by rw[List.take_add_one,hd];rfl
    have HCD:=zQ9 hcd
    have HI:=zQ9 (zA9 hi (zA9 hall (zA9 hB (zA9 hde htk))))
    clear hcd hi hall hB hd hde htk eA
    go_upto_region 9 with (fail)
    refine j1r (C:=fun w'=>∃ n,w'=w2.drewN n) 6 (by kernel_rfl) (by kernel_rfl) ⟨1,rfl⟩ ?_
    simp only[List.take_succ_cons,List.take_zero,List.drop_succ_cons,List.drop_zero]
    repeat (quiet_step (fail))
    refine wpQuiet_nil ?_
    intro _ hw'
    obtain⟨nq,hw''⟩:=hw'
    subst hw''
    have hcd:=HCD.out nq
    have HB3:=zQ9 (HI.out.2.2.1.step (j0l (Below.refl _ _) nq))
    clear d0 d1 d2 d3 d4 d5 d6 d7 d8 d9 d10 d11 c0 c1 c2 c3 c4
    generalize w2.drewN nq=w3 at hcd HB3 ⊢
    by_cases h0:de=0
    ·subst h0
     go_wp2_with (go_at_call 67;(with_reducible refine hcd.mono ?_);rintro e w4 ⟨rfl,hb4⟩;replace HB3:=zQ9 (HB3.out.step hb4);clear hb4)
     go_roundg (gk-1)
     case measure=>have:=HI.out.1;omega
     case rel=>exact⟨i+1,by have:=HI.out.1;omega,by go_num,by rw[HI.out.2.2.2.2,j3q _ _ _ _ HI.out.2.1];exact HI.out.2.2.2.1.symm,HB3.out⟩
    ·have x1:(de != 0)=true:=by simp[h0]
     have H0:=zQ9 h0
     clear h0
     go_wp2_with (go_at_call 67;(with_reducible refine hcd.mono ?_);rintro e w4 ⟨rfl,hb4⟩;replace HB3:=zQ9 (HB3.out.step hb4);clear hb4)
     go_ret
     refine⟨j0k ?_,HB3.out.2.2⟩
     have h1:j1n b.l.length b.ks.length (b.ds.take (i+1))=de:=by rw[HI.out.2.2.2.2,j3q _ _ _ _ HI.out.2.1];exact HI.out.2.2.2.1.symm
     rw[HR2.out,←List.take_append_drop (i+1) b.ds,j9a _ _ _ _ (by rw[h1];exact H0.out),h1]
   ·obtain rfl:i=b.ds.length:=by omega
    rw[List.take_length] at hall
    have HF:=zQ9 (zA9 hall hB)
    clear hi hall hB
    go_wp2_with fail
    go_ret
    exact⟨j0k (by rw[HR2.out,HF.out.1]),HF.out.2.2.2⟩
 ·have x1:(ce != 0)=true:=by simp[h0]
  have H0:=zQ9 h0
  clear h0
  go_wp2_with (go_at_call 66;(with_reducible refine hcf.mono ?_);rintro e w1 ⟨rfl,hb1⟩;replace HB:=zQ9 (HB.out.step hb1);clear hb1 c0 c1 c2 c3 c4 hlp)
  go_ret
  exact⟨j0k (by rw[HR.out,if_pos H0.out]),HB.out.2.2⟩
structure SmallH (b:Hb):Prop where
 l:b.l.length≤20
 k:b.ks.length≤20
 h:b.hs.length≤20
 d:b.ds.length≤20
 r:∀ r∈b.hs,r.length≤20
def k7n (b:Hb) (w:World) (e:Ending) (w':World):Prop:=∃ q,e=.returned (.bool q)∧(q=false→SmallH b)∧Below w.heap.size w w'
theorem j3b {b:Hb} {w w':World} {q:Bool} (h:q=false→SmallH b) (hb:Below w.heap.size w w'):k7n b w (.returned (.bool q)) w':=⟨q,rfl,h,hb⟩
theorem q4f (b:Hb) (w:World) (hin:HbIn w b):Calls Tryz.prog 7 #[b.v] w (k7n b w):=by
 obtain⟨V,hV⟩:∃ V,V=w.alloc b.obj:=⟨_,rfl⟩
 obtain⟨p,hp⟩:∃ p,p=w.heap.size:=⟨_,rfl⟩
 have HB:=zQ9 (show BB9 w b p V by rw[hV,hp];exact BB9.start hin)
 obtain⟨c0,c1,c2,c3,c4⟩:=j0h HB.out.1
 have hlp:=j0a HB.out.1
 have hnm:b.l.length≤maxLen:=Nat.le_trans hin.mc hin.mm
 have hkm:b.ks.length≤maxLen:=Nat.le_trans hin.kc hin.km
 have hhm:b.hs.length≤maxLen:=Nat.le_trans hin.hc hin.hm
 have hdm:b.ds.length≤maxLen:=Nat.le_trans hin.dc hin.dm
 have hhc:=hin.hc
 have hhcm:=hin.hm
 have hdc:=hin.dc
 have hdcm:=hin.dm
 unfold maxLen at hnm hkm hhm hdm
 unfold Hb.v
 clear hin
 go_enter Tryz.func7,Tryz.ntmps7
 go_upto_region 1 with (fail)
 rw[←hV,←hp]
 clear hV hp
 by_cases h1:20<b.l.length
 ·have e1:(20:Int)<(b.l.length:Int):=by omega
  clear h1
  go_wp2_with fail
  go_ret
  exact j3b (fun h=>by cases h) HB.out.2.2
 by_cases h2:20<b.ks.length
 ·have e1:¬(20:Int)<(b.l.length:Int):=by omega
  have e2:(20:Int)<(b.ks.length:Int):=by omega
  clear h1 h2
  go_wp2_with fail
  go_ret
  exact j3b (fun h=>by cases h) HB.out.2.2
 by_cases h3:20<b.hs.length
 ·have e1:¬(20:Int)<(b.l.length:Int):=by omega
  have e2:¬(20:Int)<(b.ks.length:Int):=by omega
  have e3:(20:Int)<(b.hs.length:Int):=by omega
  clear h1 h2 h3
  go_wp2_with fail
  go_ret
  exact j3b (fun h=>by cases h) HB.out.2.2
 by_cases h4:20<b.ds.length
 ·have e1:¬(20:Int)<(b.l.length:Int):=by omega
  have e2:¬(20:Int)<(b.ks.length:Int):=by omega
  have e3:¬(20:Int)<(b.hs.length:Int):=by omega
  have e4:(20:Int)<(b.ds.length:Int):=by omega
  clear h1 h2 h3 h4
  go_wp2_with fail
  go_ret
  exact j3b (fun h=>by cases h) HB.out.2.2
 have e1:¬(20:Int)<(b.l.length:Int):=by omega
 have e2:¬(20:Int)<(b.ks.length:Int):=by omega
 have e3:¬(20:Int)<(b.hs.length:Int):=by omega
 have e4:¬(20:Int)<(b.ds.length:Int):=by omega
 have HS:=zQ9 (show b.l.length≤20∧b.ks.length≤20∧b.hs.length≤20∧b.ds.length≤20 by omega)
 go_upto_region 4 with (fail)
 clear e1 e2 e3 e4
 go_loopg [3] b.hs.length (fun gh v3 wr=>∃ i:Nat,i+gh=b.hs.length∧v3=.int .i64 i∧(b.hs.take i).all (fun r=>decide (r.length≤20))=true∧BB9 w b p wr)
 case atStart=>exact⟨0,by omega,rfl,by simp,HB.out⟩
 case round =>
  obtain⟨i,hi,rfl,hall,hB⟩:=hrel
  obtain⟨w2,hw2⟩:∃ W:World,W=wr:=⟨_,rfl⟩
  rw[←hw2] at hB ⊢
  clear hw2 c0 c1 c2 c3 c4 hlp
  obtain⟨c0,c1,c2,c3,c4⟩:=j0h hB.1
  have hlp:=j0a hB.1
  by_cases hlt:i<b.hs.length
  ·obtain⟨bh,oh,Br,row,cr,eA,hbh,hrow,y1,hri,hrc,hrm⟩:=hB.2.1.h.get hlt
   rw[eA] at c3
   have i1:(i:Int)<(b.hs.length:Int):=by omega
   obtain⟨rl,hrl⟩:∃ rl,rl=row.length:=⟨_,rfl⟩
   rw[←hrl] at y1 hrc
   have HI:=zQ9 (zA9 hi (zA9 hall (zA9 hB (zA9 hrow hrl))))
   unfold maxLen at hrm
   clear hi hall hB hrow hrl hri eA
   by_cases hll:20<rl
   ·have e3:(20:Int)<(rl:Int):=by omega
    clear hll
    go_wp2_with fail
    go_ret
    exact j3b (fun h=>by cases h) HI.out.2.2.1.2.2
   ·have e3:¬(20:Int)<(rl:Int):=by omega
    have HL:=zQ9 hll
    clear hll
    go_wp2_with fail
    go_roundg (gk-1)
    case measure=>have:=HI.out.1;omega
    case rel=>exact⟨i+1,by have:=HI.out.1;omega,by go_num,j8n HI.out.2.1 HI.out.2.2.2.1 (by rw[decide_eq_true_eq,←HI.out.2.2.2.2];have:=HL.out;omega),HI.out.2.2.1⟩
  ·obtain rfl:i=b.hs.length:=by omega
   rw[List.take_length] at hall
   have HR:=zQ9 (show SmallH b from⟨HS.out.1,HS.out.2.1,HS.out.2.2.1,HS.out.2.2.2,fun r hr=>by simpa using List.all_eq_true.1 hall r hr⟩)
   have HB2:=zQ9 hB
   clear hall hB hi hlt
   go_upto_region 10 with (fail)
   go_loopg [4,5] b.ds.length (fun gh v4 v5 wr=>∃ i n:Nat,i+gh=b.ds.length∧v5=.int .i64 i∧v4=.int .i64 n∧n≤i∧BB9 w b p wr)
   case atStart=>exact⟨0,0,by omega,rfl,rfl,zL9 _,HB2.out⟩
   case round =>
    obtain⟨i,n,hi,rfl,rfl,hni,hB⟩:=hrel
    obtain⟨w3,hw3⟩:∃ W:World,W=wr:=⟨_,rfl⟩
    rw[←hw3] at hB ⊢
    clear hw3 c0 c1 c2 c3 c4 hlp
    obtain⟨c0,c1,c2,c3,c4⟩:=j0h hB.1
    have hlp:=j0a hB.1
    by_cases hlt:i<b.ds.length
    ·obtain⟨bd,od,d,eA,hbd,hd,d0,d1,d2,d3,d4,d5,d6,d7,d8,d9,d10,d11⟩:=hB.2.1.d.get hlt
     rw[eA] at c4
     have i1:(i:Int)<(b.ds.length:Int):=by omega
     have HI:=zQ9 (zA9 hi hB)
     obtain⟨kd,hkd⟩:∃ kd,kd=d.kind:=⟨_,rfl⟩
     rw[←hkd] at d0
     clear hi hB hd eA hkd d1 d2 d3 d4 d5 d6 d7 d8 d9 d10 d11
     by_cases h4:kd=4
     ·subst h4
      go_wp2_with fail
      go_roundg (gk-1)
      case measure=>have:=HI.out.1;omega
      case rel=>exact⟨i+1,n+1,by have:=HI.out.1;omega,by go_num,by go_num,by omega,HI.out.2⟩
     ·have k4:(kd==4)=false:=beq_eq_false_iff_ne.2 h4
      clear h4
      go_wp2_with fail
      go_roundg (gk-1)
      case measure=>have:=HI.out.1;omega
      case rel=>exact⟨i+1,n,by have:=HI.out.1;omega,by go_num,by go_num,by omega,HI.out.2⟩
    ·obtain rfl:i=b.ds.length:=by omega
     have HE:=zQ9 hB
     clear hB hi hlt
     by_cases q1:(2:Int)<(n:Int)
     ·by_cases q2:(3:Int)<(b.l.length:Int)
      ·by_cases q3:(b.ds.length:Int)≤6
       ·go_wp2_with fail
        go_ret
        exact j3b (fun h=>by cases h) HE.out.2.2
       ·go_wp2_with fail
        go_ret
        exact j3b (fun h=>HR.out) HE.out.2.2
      ·go_wp2_with fail
       go_ret
       exact j3b (fun h=>HR.out) HE.out.2.2
     ·go_wp2_with fail
      go_ret
      exact j3b (fun h=>HR.out) HE.out.2.2
theorem Own.ne' {α:Type} {enc:α→List Value} {e e':TypeId} {sz:Nat} {w:World} {base:Nat} {v:Value} {l:List α} {b:Nat} {cs:Array Value} {x:Nat × Nat} (h:Own enc e sz w base v l) (hb:w.heap[b]?=some (.cells cs e' x)) (hne:e≠e'):v.ownBlock≠some b:=by
 intro hgb
 rcases h.2 with ⟨hv,_⟩|⟨g',cap,cur,hv,hg,hh,_⟩
 ·rw[hv] at hgb;cases hgb
 ·rw[hv] at hgb
  cases hgb
  rw[hh] at hb
  cases hb
  exact hne rfl
end Go.Proofs.YtmennjmjakdkcaaGreat
