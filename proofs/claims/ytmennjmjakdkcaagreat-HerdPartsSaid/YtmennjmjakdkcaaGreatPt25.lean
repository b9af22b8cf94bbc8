/- HerdParts. -/
import Derived.Test.YtmennjmjakdkcaaGreatPt24
import Derived.Lib.SliceRun
set_option linter.unusedVariables false
set_option linter.unusedSimpArgs false
set_option maxRecDepth 100000
set_option maxHeartbeats 4000000
namespace Go.Proofs.YtmennjmjakdkcaaGreat
open Go.RowKit
theorem k8v {α:Type} {enc:α->List Value} {sz j:Nat} {x y:α} {u:Value} (a0:∀ x,(enc x).length=sz) (hj:j<sz) (hy:enc y=(enc x).set j u):∀ (l:List α) (k:Nat),l[k]?=some x->(l.set k y).flatMap enc=(l.flatMap enc).set (k*sz+j) u
 | [],k,h=>by simp at h
 | a::r,0,h=>by
   simp at h;subst h;rw[List.set_cons_zero,List.flatMap_cons,List.flatMap_cons,hy,Nat.zero_mul,Nat.zero_add,List.set_append_left _ _ (by rw[a0];exact hj)]
 | a::r,k+1,h=>by
   rw[List.set_cons_succ,List.flatMap_cons,List.flatMap_cons,k8v a0 hj hy r k (by simpa using h),List.set_append_right _ _ (by rw[a0,Nat.succ_mul];omega),a0,show(k+1)*sz+j-sz=k*sz+j by rw[Nat.succ_mul];omega]
theorem q1v {α:Type} {enc:α->List Value} {sz j:Nat} {x:α} {u:Value} (a0:∀ x,(enc x).length=sz) (hj:j<sz) (hu:(enc x)[j]?=some u):∀ (l:List α) (k:Nat),l[k]?=some x->(l.flatMap enc)[k*sz+j]?=some u
 | [],k,h=>by simp at h
 | a::r,0,h=>by
   simp at h;subst h;rw[List.flatMap_cons,Nat.zero_mul,Nat.zero_add,List.getElem?_append_left (by rw[a0];exact hj)]
   exact hu
 | a::r,k+1,h=>by
   rw[List.flatMap_cons,List.getElem?_append_right (by rw[a0,Nat.succ_mul];omega),a0,show(k+1)*sz+j-sz=k*sz+j by rw[Nat.succ_mul];omega]
   exact q1v a0 hj hu r k (by simpa using h)
theorem Own.putC {α:Type} {enc:α->List Value} {e:TypeId} {sz base n c:Nat} {A:Option Addr} {w:World} {l:List α} (a0:∀ x,(enc x).length=sz) (h:Own enc e sz w base (.slice A n c) l) {k:Nat} {x:α} (hk:l[k]?=some x) :
 ∃ g,A=some ⟨g,0,none⟩∧base<=g∧g<w.heap.size∧n=l.length∧n<=c∧c<=maxLen∧(∃ cs,w.heap[g]?=some (Obj.cells cs e (0,0)))∧(∀ j u,(enc x)[j]?=some u->w.cell? ⟨g,k*sz+j,none⟩=some u)∧(∀ o,w.frozen? ⟨g,o,none⟩=false) ∧
  ∀ (j:Nat) (u:Value) (y:α),j<sz->enc y=(enc x).set j u->Own enc e sz (w.setCell ⟨g,k*sz+j,none⟩ u) base (.slice A n c) (l.set k y):=by
 have a6:k<l.length:=(List.getElem?_eq_some_iff.1 hk).1;rcases h.2 with ⟨hv,h0⟩|⟨g,cap,cur,hv,hg,hh,a3,a1,hs,a2⟩
 ·omega
 ·cases hv;have a5:=j7y a0 l;have a4:∀ j,j<sz->k*sz+j<l.length*sz:=fun j hj=>by
   have:(k+1)*sz<=l.length*sz:=Nat.mul_le_mul_right _ (by omega)
   rw[Nat.succ_mul] at this;omega
  refine⟨g,rfl,hg,j0a hh,rfl,a3,a1,⟨_,hh⟩,fun j u hu=>?_,fun o=>frz hh o,fun j u y hj hy=>⟨by rw[j7y a0,List.length_set],.inr ⟨g,c,cur.setIfInBounds (k*sz+j) u,by rw[List.length_set],hg,j0g hh,by rw[List.length_set];exact a3,a1,by simpa using hs,?_⟩⟩⟩
  ·have hj:j<sz:=by have:=(List.getElem?_eq_some_iff.1 hu).1;rw[a0] at this;exact this
   have hm:=q1v a0 hj hu l k hk;rw[<-a2,List.getElem?_take_of_lt (a4 j hj),Array.getElem?_toList] at hm;unfold World.cell?;simp[hh,hm]
  ·rw[Array.toList_setIfInBounds,List.take_set,List.length_set,a2,k8v a0 hj hy l k hk]
structure HbO (w:World) (base:Nat) (b:Hb):Prop where
 m:OwnM w base b.vm b.l
 k:OwnI w base b.vk b.ks
 h:OwnG w base b.vh b.hs
 d:OwnD w base b.vd b.ds
section
variable {w w':World} {base B:Nat} {b:Hb}
theorem HbO.below (h:HbO w base b) (hb:Below B w w') (hB:w.heap.size<=B):HbO w' base b:=⟨h.m.below hb hB,h.k.below hb hB,h.h.below hb hB,h.d.below hb hB⟩
theorem HbO.mono {c:Nat} (h:HbO w base b) (hc:c<=base):HbO w c b:=⟨h.m.mono hc,h.k.mono hc,h.h.mono hc,h.d.mono hc⟩
theorem HbO.inn (h:HbO w base b):HbIn w b:=by
 obtain⟨A1,c1,e1,m1,m2,m3⟩:=h.m.form j2h;obtain⟨A2,c2,e2,k1,k2,k3⟩:=h.k.form j0n;obtain⟨A3,c3,e3,h1,h2,h3⟩:=h.h.form;obtain⟨A4,c4,e4,d1,d2,d3⟩:=h.d.form j3k;injection e1 with a1 _ b1
 injection e2 with a2 _ b2
 injection e3 with a3 _ b3
 injection e4 with a4 _ b4
 subst a1 b1 a2 b2 a3 b3 a4 b4;exact⟨m1,m2,m3,k1,k2,k3,h1,h2,h3,d1,d2,d3⟩
theorem OwnG.keptH {v:Value} {ls:List (List Int)} {H:Nat} (h:OwnG w base v ls) (hg:w.grownBy w' (some H)) (hH:H<base):OwnG w' base v ls:=by
 obtain⟨mv,h1,h2⟩:=h;exact⟨mv,h1.kept hg (.inr (fun e=>by have:=(h1.lt _ e).1;omega)),Rws.kept h2 hg (fun x hx=>.inr (fun e=>by have:=(Rws.ltv h2 hx _ e).1;omega))⟩
theorem Own.keptH {α:Type} {enc:α->List Value} {e:TypeId} {sz H:Nat} {v:Value} {l:List α} (h:Own enc e sz w base v l) (hg:w.grownBy w' (some H)) (hH:H<base):Own enc e sz w' base v l :=
 h.kept hg (.inr (fun e=>by have:=(h.lt _ e).1;omega))
end
def HerdR (w:World) (H N n nf nd:Nat) (e:Ending) (w':World):Prop :=
 ∃ b:Hb,e=.returned b.v∧b.chk=0∧(b.l.length<=n∨b.l.length=1)∧(b.ks.length<=nf∨b.ks.length=1)∧b.ds.length<=nd∧HbO w' w.heap.size b∧Dealt w w' H N
theorem k6m {n nf:Nat} {d:De} (h:j0v n nf d=0):(1<=d.kind∧d.kind<=6)∧(0<=d.flock∧d.flock<nf)∧fldE n nf d=0∧d=namD d:=by
 unfold j0v at h;obtain⟨h1,h⟩:=ite0 (by decide) h
 obtain⟨h2,h⟩:=ite0 (by decide) h
 split at h
 ·exact absurd h (by assumption)
 rename_i h3;obtain⟨h4,-⟩:=ite0 (by decide) h
 exact⟨j0o.1 ((Bool.not_eq_false _).mp h1),j1p.1 ((Bool.not_eq_false _).mp h2),Classical.not_not.1 h3,Classical.not_not.1 h4⟩
theorem q2t {n nf:Nat} {d:De} {x:Int} (h:j0v n nf d=0) (h5:d.kind≠5) (hx:1<=x∧x<=3):j0v n nf { d with many:=x }=0:=by
 obtain⟨h1,h2,h3,h4⟩:=k6m h;obtain⟨kind,flock,owner,other,tof,many,err,s⟩:=d;dsimp only at *
 refine j5c h1 h2 ?_ ?_
 ·unfold fldE at h3 ⊢;dsimp only at h3 ⊢;obtain e|e|e|e|e:kind=1∨kind=2∨kind=3∨kind=4∨kind=6:=by omega
  all_goals subst e
  ·rw[if_pos (by decide)] at h3 ⊢
   obtain⟨a1,h3⟩:=ite0 (by decide) h3
   rw[if_neg a1,if_neg (by rw[j0o.2 ⟨hx.1,by omega⟩];decide)]
  ·rw[if_neg (by decide),if_pos (by decide)] at h3 ⊢
   obtain⟨a1,h3⟩:=ite0 (by decide) h3
   obtain⟨a2,h3⟩:=ite0 (by decide) h3
   rw[if_neg a1,if_neg a2,if_neg (by rw[j0o.2 ⟨hx.1,by omega⟩];decide)]
  ·rw[if_pos (by decide)] at h3 ⊢
   obtain⟨a1,h3⟩:=ite0 (by decide) h3
   rw[if_neg a1,if_neg (by rw[j0o.2 ⟨hx.1,by omega⟩];decide)]
  ·rw[if_neg (by decide),if_neg (by decide),if_pos (by decide)]
   rw[if_neg (by rw[j0o.2 ⟨hx.1,by omega⟩];decide)]
  ·rw[if_neg (by decide),if_neg (by decide),if_neg (by decide),if_neg (by decide)] at h3 ⊢
   obtain⟨a1,-⟩:=ite0 (by decide) h3
   rw[if_neg (fun h=>h.elim (fun h=>by rw[j0o.2 ⟨by omega,by omega⟩] at h;cases h) fun h=>a1 (.inr h))]
 ·unfold namD at h4 ⊢;dsimp only at h4 ⊢;obtain e|e|e|e|e:kind=1∨kind=2∨kind=3∨kind=4∨kind=6:=by omega
  all_goals subst e;simp at h4 ⊢;simp[h4]
structure HoS (w:World) (H g B nD:Nat) (b:Hb) (M:Nat) (ds:List De) (wr:World):Prop where
 dl:ds.length=nD
 de:∀ d∈ds,j0v b.l.length b.ks.length d=0
 m:OwnM wr (g+1) b.vm b.l
 k:OwnI wr (g+1) b.vk b.ks
 h:OwnG wr (g+1) b.vh b.hs
 d:OwnD wr (g+1) (.slice b.Ad nD b.cd) ds
 bx:wr.heap[B]?=some (boxO b.t b.vm b.vk b.vh (.slice b.Ad nD b.cd))
 bg:wr.heap[g]?=some (boxO 0 (.slice none 0 0) (.slice none 0 0) (.slice none 0 0) (.slice none 0 0))
 dt:Dealt w wr H M
 z:H<g∧g<B∧w.heap.size<=g
section
variable {w wr w':World} {H g B nD M M':Nat} {b:Hb} {ds:List De}
theorem HoS.dealt (a:HoS w H g B nD b M ds wr) (hd:Dealt wr w' H M'):HoS w H g B nD b M' ds w':=by
 have hz:=a.z;exact⟨a.dl,a.de,a.m.keptH hd.gr (by omega),a.k.keptH hd.gr (by omega),a.h.keptH hd.gr (by omega),a.d.keptH hd.gr (by omega),hd.blk a.bx (by omega),hd.blk a.bg (by omega),a.dt.trans hd,a.z⟩
theorem HoS.mono (a:HoS w H g B nD b M ds wr) (h:M<=M'):HoS w H g B nD b M' ds wr:=⟨a.dl,a.de,a.m,a.k,a.h,a.d,a.bx,a.bg,a.dt.mono h,a.z⟩
theorem HoS.at (a:HoS w H g B nD b M ds wr) {k:Nat} (hk:k<nD):∃ gd d,b.Ad=some ⟨gd,0,none⟩∧ds[k]?=some d∧nD<=b.cd∧b.cd<=maxLen∧wr.cell? ⟨gd,k*12,none⟩=some (.int .i64 d.kind)∧wr.cell? ⟨gd,k*12+5,none⟩=some (.int .i64 d.many)∧wr.frozen? ⟨gd,k*12+5,none⟩=false ∧
 gd<wr.heap.size∧gd≠H∧gd≠B∧∀ x,d.kind≠5->1<=x->x<=3->HoS w H g B nD b M (ds.set k { d with many:=x }) (wr.setCell ⟨gd,k*12+5,none⟩ (.int .i64 x)):=by
 have hz:=a.z;obtain⟨d,hd⟩:∃ d,ds[k]?=some d:=⟨_,zB5 (by rw[a.dl];exact hk)⟩
 obtain⟨gd,e,h1,h2,h3,h4,h5,⟨cs,hb⟩,h6,h7,h8⟩:=a.d.putC j3k hd;have a1:gd≠B:=fun e=>by subst e;have:=a.bx;rw[hb] at this;cases this
 have a2:gd≠g:=by omega
 refine⟨gd,d,e,hd,h4,h5,h6 0 _ rfl,h6 5 _ rfl,h7 _,h2,by omega,a1,fun x hk5 hx1 hx2=>?_⟩
 have a0:=j0l wr gd (k*12+5) (.int .i64 x);have a3:(Value.slice b.Ad nD b.cd).ownBlock=some gd:=by rw[e];rfl
 have key:∀ {α:Type} {enc:α->List Value} {e:TypeId} {sz:Nat} {v:Value} {l:List α},Own enc e sz wr (g+1) v l->e≠33->Own enc e sz (wr.setCell ⟨gd,k*12+5,none⟩ (.int .i64 x)) (g+1) v l:=fun ho he=>ho.kept a0 (.inr (ho.ne' hb he))
 obtain⟨mv,g1,g2⟩:=a.h;refine⟨by rw[List.length_set];exact a.dl,fun d' hd'=>?_,key a.m (by decide),key a.k (by decide),⟨mv,key g1 (by decide),Rws.kept g2 a0 (fun y hy=>.inr (Rws.ne g2 hy hb (by decide)))⟩,h8 5 (.int .i64 x) { d with many:=x } (by decide) rfl,(a0.block B (j0a a.bx) (fun e=>a1 (by simpa using e.symm))).trans a.bx,(a0.block g (j0a a.bg) (fun e=>a2 (by simpa using e.symm))).trans a.bg,a.dt.set (by show H<gd;omega) (by show w.heap.size<=gd;omega) _,a.z⟩
 rcases List.mem_or_eq_of_mem_set hd' with h|rfl
 ·exact a.de _ h
 ·exact q2t (a.de _ (zB4 hd)) hk5 ⟨hx1,hx2⟩
end
theorem HbO.ofS {w wr:World} {H g B nD M:Nat} {b:Hb} {ds:List De} (a:HoS w H g B nD b M ds wr) (hc:b.chk=0) (hl:b.ds.length=nD):HbO wr w.heap.size { b with ds:=ds }∧({ b with ds:=ds }:Hb).chk=0:=by
 have hz:=a.z;obtain⟨a1,a2⟩:True∧nD=ds.length:=⟨trivial,a.dl.symm⟩;subst a2;refine⟨⟨a.m.mono (by omega),a.k.mono (by omega),a.h.mono (by omega),a.d.mono (by omega)⟩,?_⟩
 have h:=j2x hc;exact q1s h.ck h.f0 h.f3 h.kk h.hl (fun r hr=>⟨h.rl r hr,h.rb r hr⟩) (show ds.length<=6 by have:=h.d6;omega) a.de
theorem k4n (H N n nf nd:Nat) (w:World) (h:Hd w H N) (hN:N<=4611686018000000000) (hn:n<=5) (b6:nf<=3) (ba:nd<=6) :
 Calls Tryz.prog 10 #[.pointer (some ⟨H,0,none⟩),.int .i64 n,.int .i64 nf,.int .i64 nd] w (HerdR w H (N+200000) n nf nd):=by
 have bs:=h.lt;obtain⟨g,hg⟩:∃ g,g=w.heap.size:=⟨_,rfl⟩;obtain⟨V,hV⟩:∃ V,V=w.alloc (boxO 0 (.slice none 0 0) (.slice none 0 0) (.slice none 0 0) (.slice none 0 0)):=⟨_,rfl⟩;have ak:Dealt w V H N:=by rw[hV];exact(Dealt.refl h).alloc _
 have b0:V.heap[g]?=some (boxO 0 (.slice none 0 0) (.slice none 0 0) (.slice none 0 0) (.slice none 0 0)):=by rw[hV,hg];exact j0c rfl
 have aC:V.heap.size=g+1:=by rw[hV,hg];simp
 have HV:=zQ9 (zA9 ak (zA9 b0 (zA9 aC hg)));have ay:=k5l H N n nf nd V ak.hd hN hn b6 ba;unfold boxO at hV;go_enter Tryz.func10,Tryz.ntmps10
 go_upto_region 1 with (fail)
 rw[<-hV];rw[<-hg];clear hV ak b0 aC hg h;go_upto_region 2 with (go_at_call 20;refine ay.mono ?_;rintro e w1 ⟨b,vE,vG,vW,gs,aH,whose,rfl,am,az,aA,aw,hm,hk,hh,hd,hE,hG,hW,b8,b5,af⟩;unfold Hb.v)
 obtain⟨B,hB⟩:∃ B,B=w1.heap.size:=⟨_,rfl⟩;obtain⟨w2,a6⟩:∃ w2,w2=w1.alloc (.cells #[.int .i64 b.t,.slice b.A b.l.length b.c,.slice b.Ak b.ks.length b.ck,.slice b.Ah b.hs.length b.ch,.slice b.Ad b.ds.length b.cd] 29):=⟨_,rfl⟩;rw[<-a6];rw[<-hB];have hz:=af.size;have a4:Below w1.heap.size w1 w2:=by rw[a6];exact bal0 _ _
 obtain⟨nD,a3⟩:∃ nD,nD=b.ds.length:=⟨_,rfl⟩;have hS:HoS w H g B nD b (N+100000) b.ds w2:=by
  have be:V.heap.size=g+1:=HV.o.2.2.1;have ag:=j2x am;rw[be] at hm hk hh hd hz;refine⟨a3.symm,ag.dE,hm.below a4 (zL9 _),hk.below a4 (zL9 _),hh.below a4 (zL9 _),by rw[a3];exact hd.below a4 (zL9 _),by rw[a6,hB,a3];exact j0c rfl,?_,?_,by have:=HV.o.2.2.2;omega,by omega,by have:=HV.o.2.2.2;omega⟩
  ·exact j0e (af.blk HV.o.2.1 (by have:=HV.o.2.2.2;omega)) a4 (zL9 _)
  ·rw[a6];exact(HV.o.1.trans af).alloc _
 rw[<-a3];have HC:=zQ9 (zA9 am (zA9 az (zA9 aA (zA9 aw a3))));have bv:nD<=6:=by omega
 clear ay am az aA aw hm hk hh hd hE hG hW b8 b5 af hz a4 hB a6 a3;go_wp2_with fail
 go_loopg [13] nD (fun gg v13 wr=>∃ (k:Nat) (ds:List De),k+gg=nD∧v13=.int .i64 k∧HoS w H g B nD b (N+100000+2*k) ds wr)
 case atStart=>exact⟨0,b.ds,by omega,rfl,hS⟩
 case round =>
  obtain⟨k,ds,hk,rfl,hS⟩:=hrel;by_cases hlt:k<nD
  ·obtain⟨M,hM⟩:∃ M,M=N+100000+2*k:=⟨_,rfl⟩;rw[<-hM] at hS;have bz:M<=4611686018000200000:=by omega
   obtain⟨gd,d,hA,aD,bp,bu,bj,bq,bw,bt,ax,b4,a9⟩:=hS.at hlt;obtain⟨x0,x1,x2,x3,x4⟩:=blk5 hS.bx;rw[hA] at x4;have bm:=hS.dt.hd;have bf:(k:Int)<(nD:Int):=by omega
   obtain⟨kd,ah⟩:∃ kd,kd=d.kind:=⟨_,rfl⟩;rw[<-ah] at bj;have HA:=zQ9 (zA9 hA aD);have HS:=zQ9 (zA9 hS (zA9 a9 (zA9 ah (zA9 hk hM))));clear a9 ah hS hM hA aD;by_cases h5:kd=5
   ·have e5:(kd != 5)=false:=by simp[h5]
    clear h5;go_wp2_with fail
    go_roundg (gk-1)
    case measure=>have:=HS.o.2.2.2.1;omega
    case rel=>exact⟨k+1,ds,by have:=HS.o.2.2.2.1;omega,by go_num,HS.o.1.mono (by have:=HS.o.2.2.2.2;omega)⟩
   ·have e5:(kd != 5)=true:=by simp[h5]
    have H5:=zQ9 h5;clear h5;have aB:=j4f H M 1 6 wr bm (by omega) (by omega) (by omega)
    go_upto_if 41 with (go_at_call 49;refine aB.mono ?_;rintro e w2 ⟨o,rfl,aq⟩)
    have a1:=HS.o.1.dealt aq;obtain⟨y0,y1,y2,y3,y4⟩:=blk5 a1.bx;clear aB;cases o
    ·go_wp2_with fail
     go_roundg (gk-1)
     case measure=>have:=HS.o.2.2.2.1;omega
     case rel=>exact⟨k+1,ds,by have:=HS.o.2.2.2.1;omega,by go_num,a1.mono (by have:=HS.o.2.2.2.2;omega)⟩
    ·obtain⟨bn,d',av,ad,-,-,-,ac,a8,ai,-,-,aa⟩:=a1.at hlt;rw[HA.o.1] at av;cases av;rw[HA.o.2] at ad;cases ad;have aj:w2.drew.cell? ⟨B,4,none⟩=some (.slice (some ⟨gd,0,none⟩) nD b.cd):=by rw[<-HA.o.1];exact y4
     have aG:w2.drew.cell? ⟨gd,k*12+5,none⟩=some (.int .i64 d.many):=ac;have aF:w2.drew.frozen? ⟨gd,k*12+5,none⟩=false:=a8;have ao:B≠H:=by have:=a1.z;omega
     have a7:=a1.dt.hd;have bi:=j1f H (M+1) 1 3 w2.drew a7.drew (by omega) (by omega) (by omega)
     have HP:=zQ9 a1;clear aa a1 y0 y1 y2 y3 y4 a7 aq ac a8;go_upto_region 6 with (fail)
     go_region_held3 (fun w'=>w'.cell? ⟨B,4,none⟩=some (.slice (some ⟨gd,0,none⟩) nD b.cd))
      (first
        | (with_reducible exact aj)
        | (with_reducible exact a2.cell aj ao)
        | (exact(World.cell?_of_block (a:=⟨B,4,none⟩) (zB1 _ ⟨gd,k*12+5,none⟩ _ _ (show B≠gd from fun e=>b4 e.symm))).trans (a2.cell aj ao))
        | fail)
      (first
        | (go_at_call 50;refine bi.mono ?_;rintro e w3 ⟨x,rfl,an,b3,a2⟩;have br:=a2.cell aG ax;have aE:=(World.frozen?_of_block (a:=⟨gd,k*12+5,none⟩) (a2.gr.block gd ai (by intro e;cases e;exact ax rfl))).trans aF)
        | fail)
     all_goals
      have ar:=HP.o.dealt (show Dealt w2 w3 H (M+1+1) from a2.undrew)
      obtain⟨bo,d2,e1,e2,-,-,-,-,-,-,-,-,a0⟩:=ar.at hlt;rw[HA.o.1] at e1;cases e1;rw[HA.o.2] at e2;cases e2;have b9:=zQ9 (a0 x (by rw[<-HS.o.2.2.1];exact H5.o) an (by omega))
      clear a0 ar a2 an b3;go_wp2_with fail
      go_roundg (gk-1)
      case measure=>have:=HS.o.2.2.2.1;omega
      case rel=>exact⟨k+1,_,by have:=HS.o.2.2.2.1;omega,by go_num,b9.o.mono (by have:=HS.o.2.2.2.2;omega)⟩
  ·obtain rfl:k=nD:=by omega
   obtain⟨x0,x1,x2,x3,x4⟩:=blk5 hS.bx;obtain⟨z0,z1,z2,z3,z4⟩:=blk5 hS.bg;obtain⟨f0,f1,f2,f3,f4⟩:=zA9 (frz hS.bg 0) (zA9 (frz hS.bg 1) (zA9 (frz hS.bg 2) (zA9 (frz hS.bg 3) (frz hS.bg 4))));have bA:=j0a hS.bg;have HS:=zQ9 hS;clear hS;go_wp2_with fail
   obtain⟨W,hW⟩:∃ W,W=(((((wr.setCell ⟨g,0,none⟩ (.int .i64 b.t)).setCell ⟨g,1,none⟩ (.slice b.A b.l.length b.c)).setCell ⟨g,2,none⟩ (.slice b.Ak b.ks.length b.ck)).setCell ⟨g,3,none⟩ (.slice b.Ah b.hs.length b.ch)).setCell ⟨g,4,none⟩ (.slice b.Ad k b.cd)):=⟨_,rfl⟩;rw[<-hW];have bh:W.heap[g]?=some (boxO b.t b.vm b.vk b.vh (.slice b.Ad k b.cd)):=by rw[hW];exact(j0g (j0g (j0g (j0g (j0g HS.o.bg))))).trans (by simp;rfl)
   have a5:wr.grownBy W (some g):=by rw[hW];exact((((j0l _ g _ _).trans (j0l _ g _ _)).trans (j0l _ g _ _)).trans (j0l _ g _ _)).trans (j0l _ g _ _)
   obtain⟨q0,q1,q2,q3,q4⟩:=blk5 bh;obtain⟨o1,o2⟩:=HbO.ofS HS.o HC.o.1 HC.o.2.2.2.2.symm;have b7:=HS.o.dl;have hc:=HC.o;have hz:=HS.o.z;have ae:=HS.o.bg;refine bodyPost_ret (v:=.agg #[.int .i64 b.t,.slice b.A b.l.length b.c,.slice b.Ak b.ks.length b.ck,.slice b.Ah b.hs.length b.ch,.slice b.Ad k b.cd]) (by simp[results,Tryz.f10,go_sem,q0,q1,q2,q3,q4]) rfl ⟨{ b with ds:=ds },by rw[<-b7],o2,hc.2.1,hc.2.2.1,by show ds.length<=nd;omega,?_,?_⟩
   ·exact⟨o1.m.kept a5 (.inr (o1.m.ne' ae (by decide))),o1.k.kept a5 (.inr (o1.k.ne' ae (by decide))),o1.h.keptB a5 ae,o1.d.kept a5 (.inr (o1.d.ne' ae (by decide)))⟩
   ·exact(HS.o.dt.ownG a5 fun j e=>by cases e;omega).mono (by omega)
theorem k1o {w w':World} {v u:Value} {b o base:Nat} (hg:w.grownBy w' v.ownBlock) (hc:w.cell? ⟨b,o,none⟩=some u) (hv:∀ k,v.ownBlock=some k->base<=k) (hb:b<base):w'.cell? ⟨b,o,none⟩=some u :=
 hg.cell hc (fun e=>by have:=hv b e.symm;omega)
theorem Own.nbS {α:Type} {enc:α->List Value} {e:TypeId} {sz:Nat} {w:World} {base b:Nat} {v:Value} {l:List α} (h:Own enc e sz w base v l) (hb:b<base):v.ownBlock≠some b:=fun k=>by
 have:=(h.lt _ k).1;omega
def ShwQ (b:Hb) (row:List Int) (H N:Nat) (w:World) (e:Ending) (w':World):Prop:=∃ v ss,e=.returned v∧OwnS w' w.heap.size v ss∧ShwR b.t b.l row ss∧Dealt w w' H (N+90000)
theorem q6a (H N:Nat) (b:Hb) (Ae:Option Addr) (ne ce:Nat) (gs:List (List Int)) (f base:Nat) (w:World) (h:Hd w H N) (hN:N<=4611686018426000000) (hO:HbO w base b) (hE:OwnG w base (.slice Ae ne ce) gs) (bt:gs.length=ne) (hH:H<base) (cE:base<=w.heap.size) (ay:check b.t b.l=0) (hf:f<ne) (a5:(gs.getD f []).length=b.l.length) (aE:∀ o,0<=(gs.getD f []).getD o 0∧(gs.getD f []).getD o 0<=140) :
 Calls Tryz.prog 21 #[.pointer (some ⟨H,0,none⟩),b.v,.slice Ae ne ce,.int .i64 f] w (ShwQ b (gs.getD f []) H N w):=by
 have hi:=hO.inn;have bG:=(j2d ay).2.2.1;obtain⟨t0,t1,-,-⟩:=j2d ay;obtain⟨tn,bh⟩:=zB7 t0;obtain⟨row,aG⟩:∃ row,row=gs.getD f []:=⟨_,rfl⟩;rw[<-aG] at a5 aE ⊢;have bj:gs[f]?=some row:=by rw[aG,zB3,zB5 (by omega)];rfl
 obtain⟨nl,az⟩:∃ nl,nl=b.l.length:=⟨_,rfl⟩;rw[<-az] at a5 bG;have bA:=hi.mc;have cH:=hi.mm;rw[<-az] at bA;have HX:=zQ9 (zA9 h (zA9 hO (zA9 hE (zA9 ay (zA9 a5 (zA9 aE (zA9 bh (zA9 bj (zA9 az bt)))))))));have cF:=h.lt;obtain⟨p,hp⟩:∃ p,p=w.heap.size:=⟨_,rfl⟩;obtain⟨w1,aA⟩:∃ W,W=w.alloc b.obj:=⟨_,rfl⟩;have ba:w1.heap[p]?=some b.obj:=by rw[aA,hp];exact j0c rfl
 have b7:Dealt w w1 H N:=by rw[aA];exact(Dealt.refl h).alloc _
 have br:p<w1.heap.size:=j0a ba;have b0:p≠H:=by omega
 have cp:=b7.size;clear h hO hE ay a5 aE bh bj az hi t0 bt aG;unfold Hb.v;go_enter Tryz.func21,Tryz.ntmps21
 go_upto_region 3 with (fail)
 rw[show w.alloc (.cells #[.int .i64 b.t,b.vm,b.vk,b.vh,b.vd] 29)=w1 from aA.symm,<-hp]
 have HP:=zQ9 (zA9 ba (zA9 b7 hp));clear aA ba b7 hp;go_loopg [9,10] nl (fun g v9 v10 wr=>∃ (o:Nat) (ss:List Sg),o+g=nl∧v10=.int .i64 o∧OwnS wr w1.heap.size v9 ss∧ShF b.t b.l ss (osL row o)∧Dealt w1 wr H (N+110*ss.length))
 case atStart=>exact⟨0,[],by omega,rfl,Own.nil_,ShF.nil,Dealt.refl HP.o.2.1.hd⟩
 case round =>
  obtain⟨o,ss,ho,rfl,a0,a3,a1⟩:=hrel;obtain⟨go,rfl⟩:∃ go:Nat,go=gk:=⟨_,rfl⟩;have aa:=HP.o.2.1.trans a1;have aj:=HX.o.2.2.1.keptH aa.gr hH;obtain⟨b1,o1,c0,B1,aB,c1,ev,a7,y1,ag,ao,b8,-⟩:=aj.get (k:=f) (by rw[HX.o.2.2.2.2.2.2.2.2.2];exact hf)
  injection ev with e1 e2 e3
  subst e1 e3;rw[HX.o.2.2.2.2.2.2.2.1] at a7;obtain rfl:=Option.some.inj a7;rw[HX.o.2.2.2.2.1] at y1 ag ao;have i0:(f:Int)<(ne:Int):=by omega
  by_cases hlo:o<nl
  ·have i1:(o:Int)<(nl:Int):=by omega
   obtain⟨y,hy⟩:=zB7 (HX.o.2.2.2.2.2.1 o).1;have bq:y<=140:=by have:=(HX.o.2.2.2.2.2.1 o).2;omega
   have HO:=zQ9 (zA9 ho (zA9 a0 (zA9 a3 (zA9 a1 hy))));clear ho a0 a3 a1 hy aa aj ag a7 e2;go_upto_region 6 with (fail)
   clear y1 ao b8;go_loopg [9,11] y (fun g v9 v11 wr=>∃ (k:Nat) (ss:List Sg),k+g=y∧v11=.int .i64 k∧OwnS wr w1.heap.size v9 ss∧ShF b.t b.l ss (osL row o++List.replicate k (o:Int))∧Dealt w1 wr H (N+110*ss.length))
   case atStart=>exact⟨0,ss,by omega,rfl,HO.o.2.1,by simpa using HO.o.2.2.1,HO.o.2.2.2.1⟩
   case round =>
    obtain⟨k,ss,hk,rfl,a0,a3,a1⟩:=hrel;have aa:=HP.o.2.1.trans a1;have aj:=HX.o.2.2.1.keptH aa.gr hH;obtain⟨b2,o2,c0,B1,aB,c1,ev,a7,y1,ag,ao,b8,-⟩:=aj.get (k:=f) (by rw[HX.o.2.2.2.2.2.2.2.2.2];exact hf)
    cases ev;rw[HX.o.2.2.2.2.2.2.2.1] at a7;obtain rfl:=Option.some.inj a7;rw[HX.o.2.2.2.2.1] at y1 ag ao;obtain⟨b3,o3,x3,rfl,cf,bo,y3⟩:=Ints.get ag hlo;have ak:x3=(y:Int):=by
     have:=HO.o.2.2.2.2;rw[zB3,bo] at this;exact this
    rw[ak] at y3;have bs:ss.length<=840:=by
     have h1:=k5w (row:=row) (k:=o) (B:=140) (fun o=>(HX.o.2.2.2.2.2.1 o).2)
     have h2:=a3.1;rw[List.length_append,List.length_replicate] at h2;have:o*140<=4*140:=Nat.mul_le_mul_right _ (by omega)
     omega
    clear ag a7 bo ak aj;by_cases hlk:k<y
    ·have i2:(k:Int)<(y:Int):=by omega
     obtain⟨bm,om,mk,aw,cG,aC,m0,m1,m2⟩:=Marks.get ((HX.o.2.1.m.keptH aa.gr hH).form j2h |> fun⟨A,c,e,hs,_⟩=>by injection e with e _ _;rw[<-e] at hs;exact hs) (show o<b.l.length by rw[<-HX.o.2.2.2.2.2.2.2.2.1];exact hlo)
     obtain⟨aH,c8,ct⟩:=j3h HX.o.2.2.2.1 mk (zB4 aC);have av:=a1.blk HP.o.1 b0;obtain⟨r0,r1,-,-,-⟩:=j0h av;rw[aw,<-HX.o.2.2.2.2.2.2.2.2.1] at r1;rw[HX.o.2.2.2.2.2.2.1] at r0;have ca:base<=bm:=by
      have:=HX.o.2.1.m.lt bm (by unfold Hb.vm;rw[aw];rfl)
      exact this.1
     have af:bm<w1.heap.size:=by
      have:=HX.o.2.1.m.lt bm (by unfold Hb.vm;rw[aw];rfl)
      have:=HP.o.2.1.size;omega
     have ae:bm≠H:=by omega
     have cn:p<wr.heap.size:=j0a av;have ai:=a1.size;have HK:=zQ9 (zA9 hk (zA9 a0 (zA9 a3 (zA9 a1 (zA9 aC av)))));have HV:=zQ9 (fun k' hk'=>(a0.lt k' hk').1)
     have c7:=zQ9 (a0.nbS (show H<w1.heap.size by omega))
     clear hk a0 a3 aC av aw aa a1;have cr:(tn:Int)<=2:=by have:=HX.o.2.2.2.2.2.2.1;omega
     go_upto_region 8 with (fail)
     clear y1 y3 ao b8 cf;have bB:wr.drew.cell? ⟨p,0,none⟩=some (.int .i64 (tn:Int)):=r0;have c4:wr.drew.cell? ⟨p,1,none⟩=some (.slice (some ⟨bm,om,none⟩) nl b.c):=r1;have cy:wr.drew.cell? ⟨bm,om+o*3,none⟩=some (.int .i64 mk.n):=m0;have cv:wr.drew.cell? ⟨bm,om+o*3+1,none⟩=some (.int .i64 mk.b):=m1;have bC:wr.drew.cell? ⟨bm,om+o*3+2,none⟩=some (.int .i64 mk.p):=m2;have b9:ss.length<4294967296:=by omega
     go_region_held3 (fun w'=>w'.cell? ⟨p,0,none⟩=some (.int .i64 (tn:Int))∧w'.cell? ⟨p,1,none⟩=some (.slice (some ⟨bm,om,none⟩) nl b.c)∧w'.cell? ⟨bm,om+o*3,none⟩=some (.int .i64 mk.n)∧w'.cell? ⟨bm,om+o*3+1,none⟩=some (.int .i64 mk.b)∧w'.cell? ⟨bm,om+o*3+2,none⟩=some (.int .i64 mk.p))
      ((go_split_ands
        refine⟨?_,?_,?_,?_,?_⟩
        all_goals first
         | (with_reducible exact bB)
         | (with_reducible exact c4)
         | (with_reducible exact cy)
         | (with_reducible exact cv)
         | (with_reducible exact bC)
         | (with_reducible exact q0)
         | (with_reducible exact q1)
         | (with_reducible exact q2)
         | (with_reducible exact q3)
         | (with_reducible exact q4)
         | (with_reducible exact j0u q0 (bal0 _ _) (zL9 _))
         | (with_reducible exact j0u q1 (bal0 _ _) (zL9 _))
         | (with_reducible exact j0u q2 (bal0 _ _) (zL9 _))
         | (with_reducible exact j0u q3 (bal0 _ _) (zL9 _))
         | (with_reducible exact j0u q4 (bal0 _ _) (zL9 _))
         | fail))
      (first
        | (go_at_call 77;refine(k5m H (N+110*ss.length) tn _ ?_ ?_ ?_).mono ?_;(exact HK.o.2.2.2.1.hd);(omega);(omega);rintro e w5 ⟨s,rfl,hs,hp,bi⟩;have a4:=bi.undrew;have bE:=(j6o hs).1;have q0:=a4.cell r0 b0;have q1:=a4.cell r1 b0;have q2:=a4.cell m0 ae;have q3:=a4.cell m1 ae;have q4:=a4.cell m2 ae;clear bi)
        | (go_at_call 76;refine(k7u mk s _ ?_ ?_ ?_ ?_).mono ?_;(omega);(omega);(omega);(omega);rintro e w6 ⟨rfl,ah⟩;have a4:=a4.less ah (zL9 _);have q0:=j0u q0 ah (zL9 _);have q1:=j0u q1 ah (zL9 _);have q2:=j0u q2 ah (zL9 _);have q3:=j0u q3 ah (zL9 _);have q4:=j0u q4 ah (zL9 _);obtain⟨S,hS⟩:∃ S,S=j2p mk s:=⟨_,rfl⟩;rw[<-hS];have HS:=zQ9 hS;clear hS;unfold vSg;have cq:=a4.size;clear ah)
        | (refine k3x k5u (by rfl) _ _ (by rfl) w1.heap.size _ ss S #[.int .i64 S.n,.bool S.l,.bool S.r,.int .i64 S.b,.int .i64 S.p] w6.heap.size (by rfl) (by rfl) (heap_alloc_new w6 _) rfl rfl (k5v S) ?_ b9 (by decide) (by simp;omega) ?_;(exact((HK.o.2.1.kept a4.gr (.inr c7.o)).alloc _));intro g7 cj w7 ac a2 bD;have q0:=k1o a2 (j0u q0 (bal0 _ _) (zL9 _)) HV.o br;have q1:=k1o a2 (j0u q1 (bal0 _ _) (zL9 _)) HV.o br;have q2:=k1o a2 (j0u q2 (bal0 _ _) (zL9 _)) HV.o af;have q3:=k1o a2 (j0u q3 (bal0 _ _) (zL9 _)) HV.o af;have q4:=k1o a2 (j0u q4 (bal0 _ _) (zL9 _)) HV.o af)
        | fail)
     have bz:=(HK.o.2.2.2.1.trans (a4.alloc (.cells #[.int .i64 S.n,.bool S.l,.bool S.r,.int .i64 S.b,.int .i64 S.p] 31))).ownG a2 (fun k' hk'=>by have:=HV.o k' hk';omega)
     have an:fits S mk b.t=true:=by rw[HS.o];exact k6q aH bE (by have:=HX.o.2.2.2.2.2.2.1;omega)
     have am:seen S 9 6=0:=by rw[HS.o];exact k7o (by omega)
     have H7:=zQ9 (zA9 ac (zA9 bz (zA9 an am)));clear ac bz an am q0 q1 q2 q3 q4 a2 bD;go_wp2_with fail
     go_roundg (gk-1)
     case measure=>have:=HK.o.1;omega
     case rel =>
      refine⟨k+1,ss++[S],by have:=HK.o.1;omega,by go_num,H7.o.1,?_,?_⟩
      ·rw[List.replicate_succ',<-List.append_assoc];exact HK.o.2.2.1.snoc HK.o.2.2.2.2.1 H7.o.2.2.1 H7.o.2.2.2
      ·rw[List.length_append,List.length_singleton];exact H7.o.2.1.mono (by omega)
    ·obtain rfl:k=y:=by omega
     have HK:=zQ9 (zA9 a0 (zA9 a3 a1));clear a0 a3 a1 aa hk;go_wp2_with fail
     go_roundg (go-1)
     case measure=>have:=HO.o.1;omega
     case rel =>
      refine⟨o+1,ss,by have:=HO.o.1;omega,by go_num,HK.o.1,?_,HK.o.2.2⟩
      rw[k3s,HO.o.2.2.2.2,Int.toNat_natCast];exact HK.o.2.1
  ·obtain rfl:o=nl:=by omega
   have bs:ss.length<=700:=by
    have h1:=k5w (row:=row) (k:=o) (B:=140) (fun o=>(HX.o.2.2.2.2.2.1 o).2)
    have h2:=a3.1;have:o*140<=5*140:=Nat.mul_le_mul_right _ (by omega)
    omega
   have a6:=row_any H (N+110*ss.length) ss.length wr a1.hd (by omega) (by omega)
   obtain⟨A9,c9,rfl,ax,co,cC⟩:=a0.form (fun l=>by simp[eSg])
   obtain⟨w2,be⟩:∃ W,W=wr:=⟨_,rfl⟩;rw[<-be] at a0 a1 a6 y1 ⊢;obtain⟨ns,aD⟩:∃ ns,ns=ss.length:=⟨_,rfl⟩;rw[<-aD] at a6 bs co ⊢;have HO:=zQ9 (zA9 a0 (zA9 a3 (zA9 a1 aD)));have ai:=a1.size;clear a0 a3 a1 aD be ax aa aj ag a7 ho;go_upto_region 10 with (go_at_call 78;(with_reducible refine a6.mono ?_);rintro e w3 ⟨A3,c3,L,rfl,hL,ar,aq⟩)
   have a8:=HO.o.1.kept aq.gr (.inr (HO.o.1.nbS (show H<w1.heap.size by omega)))
   have aF:L.length=ns:=by rw[ar.length_eq,j9v]
   have bf:=k9s ar;have bp:=aq.size;obtain⟨bv,cB,cz⟩:Ints w3 A3 ns L∧ns<=c3∧c3<=maxLen:=by
    obtain⟨A',c',e',h0,h1,h2⟩:=hL.form j0n;injection e' with e1 e2 e3
    subst e1 e3;rw[aF] at h0 h1;exact⟨h0,h1,h2⟩
   have ax:Sights w3 A9 ns ss:=by
    obtain⟨A',c',e',h0,h1,h2⟩:=a8.form (fun l=>by simp[eSg])
    injection e' with e1 e2 e3
    subst e1;rw[<-HO.o.2.2.2] at h0;exact h0
   obtain⟨mn,bn⟩:∃ mn,mn=min ns 7:=⟨_,rfl⟩;have cw:mn<=7∧mn<=ns:=by omega
   have HL:=zQ9 (zA9 bv (zA9 ax (zA9 ar (zA9 aF (zA9 bf (zA9 aq bn))))));clear hL bv ax ar aF bf aq bn a8 a6 y1;go_upto_region 12 with (fail)
   go_loopg [13,14] mn (fun g v13 v14 wr=>∃ i:Nat,i+g=mn∧v14=.int .i64 i∧OwnS wr w3.heap.size v13 ((L.take i).map fun(x:Int)=>ss.getD x.toNat ⟨0,false,false,0,0⟩)∧Below w3.heap.size w3 wr)
   case atStart=>exact⟨0,by omega,rfl,Own.nil_,zB2 _ _⟩
   case round =>
    obtain⟨i,hi,rfl,a0,hb⟩:=hrel;by_cases hli:i<mn
    ·have hin:i<ns:=by omega
     obtain⟨b4,o4,x,c5,cD,hx,y4⟩:=Ints.get (HL.o.1.below hb (zL9 _)) hin;obtain⟨bu,cc⟩:=HL.o.2.2.2.2.1 x (zB4 hx);obtain⟨xn,rfl⟩:=zB7 bu;have cb:xn<ns:=by have:=HO.o.2.2.2;omega
     obtain⟨b5,o5,s,cu,b6,hs,s0,s1,s2,s3,s4⟩:=Sights.get (HL.o.2.1.below hb (zL9 _)) cb;subst c5 cu;have i1:(i:Int)<(ns:Int):=by omega
     have i2:(i:Int)<7:=by omega
     have i3:(xn:Int)<(ns:Int):=by omega
     have cA:=hb.size;have cx:((L.take i).map fun(x:Int)=>ss.getD x.toNat ⟨0,false,false,0,0⟩).length<4294967296:=by rw[List.length_map,List.length_take];omega
     have HI:=zQ9 (zA9 hi (zA9 a0 (zA9 hb (zA9 hx hs))));clear hi a0 hb hx hs bu cc;go_wp2_with (at_builtin;refine j6b k5u rfl (.tmp 64) (.tmp 72) rfl w3.heap.size _ ((L.take i).map fun(x:Int)=>ss.getD x.toNat ⟨0,false,false,0,0⟩) s _ rfl rfl rfl rfl (k5v _) HI.o.2.1 cx ?_ ?_ ?_;(omega);(omega);intro v5 w5 a9 b6 cg c6;have H5:=zQ9 (zA9 a9 b6);clear a9 b6 cg c6)
     go_roundg (gk-1)
     case measure=>have:=HI.o.1;omega
     case rel =>
      refine⟨i+1,by have:=HI.o.1;omega,by go_num,?_,HI.o.2.2.1.trans H5.o.2⟩
      rw[List.take_add_one,HI.o.2.2.2.1,List.map_append];have:ss.getD (xn:Int).toNat ⟨0,false,false,0,0⟩=s:=by rw[Int.toNat_natCast,zB3,HI.o.2.2.2.2];rfl
      show OwnS _ _ _ (_++[ss.getD (xn:Int).toNat ⟨0,false,false,0,0⟩]);rw[this];exact H5.o.1
    ·obtain rfl:i=mn:=by omega
     have bw:(L.take i).map (fun(x:Int)=>ss.getD x.toNat ⟨0,false,false,0,0⟩)=(L.take 7).map fun(x:Int)=>ss.getD x.toNat ⟨0,false,false,0,0⟩:=by
      congr 1;have h1:=HL.o.2.2.2.2.2.2;have h2:=HL.o.2.2.2.1;by_cases h7:ns<=7
      ·rw[zB8 (by omega),zB8 (by omega)]
      ·rw[show i=7 by omega]
     rw[bw] at a0;have HI:=zQ9 (zA9 a0 hb);clear a0 hb bw hi;by_cases hin:i<ns
     ·have bF:i=7:=by have:=HL.o.2.2.2.2.2.2;omega
      have i1:(i:Int)<(ns:Int):=by omega
      have i2:¬(i:Int)<7:=by omega
      clear bF;go_wp2_with fail
      go_ret
      have ad:=ShwR.mk' (t:=b.t) (l:=b.l) (row:=row) (ss:=ss) (L:=L) (by rw[<-HX.o.2.2.2.2.2.2.2.2.1];exact HO.o.2.1) (by rw[<-HO.o.2.2.2];exact HL.o.2.2.1)
      exact⟨_,_,rfl,HI.o.1.mono (zB6 HP.o.2.1.size (zB6 ai bp)),ad,((HP.o.2.1.trans HO.o.2.2.1).trans (HL.o.2.2.2.2.2.1.less HI.o.2 (zL9 _))).mono (by have:=HO.o.2.2.2;omega)⟩
     ·have i1:¬(i:Int)<(ns:Int):=by omega
      go_wp2_with fail
      go_ret
      have ad:=ShwR.mk' (t:=b.t) (l:=b.l) (row:=row) (ss:=ss) (L:=L) (by rw[<-HX.o.2.2.2.2.2.2.2.2.1];exact HO.o.2.1) (by rw[<-HO.o.2.2.2];exact HL.o.2.2.1)
      exact⟨_,_,rfl,HI.o.1.mono (zB6 HP.o.2.1.size (zB6 ai bp)),ad,((HP.o.2.1.trans HO.o.2.2.1).trans (HL.o.2.2.2.2.2.1.less HI.o.2 (zL9 _))).mono (by have:=HO.o.2.2.2;omega)⟩
theorem k4c (A:Option Addr) (n c:Nat) (l:List Int) (w:World) (hl:Ints w A n l) (hn:n<=4294967295) :
 Calls Tryz.prog 126 #[.slice A n c] w fun e w'=>∃ v,e=.returned v∧OwnI w' w.heap.size v l∧Below w.heap.size w w':=by
 have HL:=zQ9 hl;have HB:=zQ9 (bal0 w (Obj.cells #[] 3));have a5:=zQ9 (HL.o.below HB.o (zL9 _));have a2:=zQ9 (show OwnI (w.alloc (Obj.cells #[] 3)) w.heap.size (.slice (some ⟨w.heap.size,0,none⟩) 0 0) [] from Own.lit (enc:=eInt) w w.heap.size #[] [] rfl j0n (by omega) (by simp[maxLen]))
 have qT:∀ (w:World) (a:Option Addr) (n c n' c':Nat),(binOp .eql 25 (.slice a n c) (.slice none n' c')).run Tryz.prog w=.ok (.bool a.isNone) w:=fun w a n c n' c'=>Lib.run_eql_slice_nil w _ _ a n c n' c' Tryz.underlying25
 clear hl;cases A with
 | none =>
   have a4:l=[]:=zC1 (by
    have:=HL.o.len;rcases Nat.eq_zero_or_pos n with h|h
    ·omega
    ·obtain⟨b,off,e,-⟩:=HL.o.2 h;cases e)
   subst a4;go_enter Tryz.func126,Tryz.ntmps126
   go_wp2_with fail
   go_ret
   exact⟨_,rfl,Own.nil_,zB2 _ _⟩
 | some ad =>
   go_enter Tryz.func126,Tryz.ntmps126
   go_wp2_with (at_builtin;refine j7u j3b rfl (.tmp 5) (.tmp 6) rfl w.heap.size (.slice (some ⟨w.heap.size,0,none⟩) 0 0) [] (some ad) n c l rfl rfl a5.o (fun h=>by cases h) j0n j1x a2.o ?_ ?_ ?_ ?_;(simp;omega);(omega);(simp);intro v' w5 a0 a1 a3;have HH:=zQ9 (zA9 a0 a3);clear a0 a1 a3)
   go_ret
   have h:=HH.o.1;rw[List.nil_append] at h;exact⟨_,rfl,h,HB.o.trans HH.o.2⟩
theorem q2s (A:Option Addr) (n c:Nat) (l:List Mk) (w:World) (hl:Marks w A n l) (hn:n<=4294967295) :
 Calls Tryz.prog 125 #[.slice A n c] w fun e w'=>∃ v,e=.returned v∧OwnM w' w.heap.size v l∧Below w.heap.size w w':=by
 have HL:=zQ9 hl;have HB:=zQ9 (bal0 w (Obj.cells #[] 117));have a5:=zQ9 (HL.o.below HB.o (zL9 _));have a2:=zQ9 (show OwnM (w.alloc (Obj.cells #[] 117)) w.heap.size (.slice (some ⟨w.heap.size,0,none⟩) 0 0) [] from Own.lit (enc:=eMk) w w.heap.size #[] [] rfl j2h (by omega) (by simp[maxLen]))
 have qT:∀ (w:World) (a:Option Addr) (n c n' c':Nat),(binOp .eql 22 (.slice a n c) (.slice none n' c')).run Tryz.prog w=.ok (.bool a.isNone) w:=fun w a n c n' c'=>Lib.run_eql_slice_nil w _ _ a n c n' c' Tryz.underlying22
 clear hl;cases A with
 | none =>
   have a4:l=[]:=zC1 (by
    have:=HL.o.len;rcases Nat.eq_zero_or_pos n with h|h
    ·omega
    ·obtain⟨b,off,e,-⟩:=HL.o.2 h;cases e)
   subst a4;go_enter Tryz.func125,Tryz.ntmps125
   go_wp2_with fail
   go_ret
   exact⟨_,rfl,Own.nil_,zB2 _ _⟩
 | some ad =>
   go_enter Tryz.func125,Tryz.ntmps125
   go_wp2_with (at_builtin;refine j7u k1q rfl (.tmp 5) (.tmp 6) rfl w.heap.size (.slice (some ⟨w.heap.size,0,none⟩) 0 0) [] (some ad) n c l rfl rfl a5.o (fun h=>by cases h) j2h j9r a2.o ?_ ?_ ?_ ?_;(simp;omega);(omega);(simp);intro v' w5 a0 a1 a3;have HH:=zQ9 (zA9 a0 a3);clear a0 a1 a3)
   go_ret
   have h:=HH.o.1;rw[List.nil_append] at h;exact⟨_,rfl,h,HB.o.trans HH.o.2⟩
theorem q2r (A:Option Addr) (n c:Nat) (l:List De) (w:World) (hl:Deeds w A n l) (hn:n<=4294967295) :
 Calls Tryz.prog 127 #[.slice A n c] w fun e w'=>∃ v,e=.returned v∧OwnD w' w.heap.size v l∧Below w.heap.size w w':=by
 have HL:=zQ9 hl;have HB:=zQ9 (bal0 w (Obj.cells #[] 33));have a5:=zQ9 (HL.o.below HB.o (zL9 _));have a2:=zQ9 (show OwnD (w.alloc (Obj.cells #[] 33)) w.heap.size (.slice (some ⟨w.heap.size,0,none⟩) 0 0) [] from Own.lit (enc:=eDe) w w.heap.size #[] [] rfl j3k (by omega) (by simp[maxLen]))
 have qT:∀ (w:World) (a:Option Addr) (n c n' c':Nat),(binOp .eql 27 (.slice a n c) (.slice none n' c')).run Tryz.prog w=.ok (.bool a.isNone) w:=fun w a n c n' c'=>Lib.run_eql_slice_nil w _ _ a n c n' c' Tryz.underlying27
 clear hl;cases A with
 | none =>
   have a4:l=[]:=zC1 (by
    have:=HL.o.len;rcases Nat.eq_zero_or_pos n with h|h
    ·omega
    ·obtain⟨b,off,e,-⟩:=HL.o.2 h;cases e)
   subst a4;go_enter Tryz.func127,Tryz.ntmps127
   go_wp2_with fail
   go_ret
   exact⟨_,rfl,Own.nil_,zB2 _ _⟩
 | some ad =>
   go_enter Tryz.func127,Tryz.ntmps127
   go_wp2_with (at_builtin;refine j7u j9q rfl (.tmp 5) (.tmp 6) rfl w.heap.size (.slice (some ⟨w.heap.size,0,none⟩) 0 0) [] (some ad) n c l rfl rfl a5.o (fun h=>by cases h) j3k j7r a2.o ?_ ?_ ?_ ?_;(simp;omega);(omega);(simp);intro v' w5 a0 a1 a3;have HH:=zQ9 (zA9 a0 a3);clear a0 a1 a3)
   go_ret
   have h:=HH.o.1;rw[List.nil_append] at h;exact⟨_,rfl,h,HB.o.trans HH.o.2⟩
end Go.Proofs.YtmennjmjakdkcaaGreat
