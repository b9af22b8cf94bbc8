/- HerdHas. -/
import Derived.Test.YtmennjmjakdkcaaGreatHs22
import Derived.Lib.SliceRun
import Derived.Deep.OwnRows
set_option linter.unusedVariables false
set_option linter.unusedSimpArgs false
set_option maxRecDepth 1000000
set_option maxHeartbeats 4000000
namespace Go.Proofs.YtmennjmjakdkcaaGreat
open Go.RowKit
theorem k8d {α:Type} {enc:α→List Value} {sz j:Nat} {x y:α} {u:Value} (hsz:∀ x,(enc x).length=sz) (hj:j<sz) (hy:enc y=(enc x).set j u):∀ (l:List α) (k:Nat),l[k]?=some x→(l.set k y).flatMap enc=(l.flatMap enc).set (k*sz+j) u
 | [],k,h=>by simp at h
 | a::r,0,h=>by
   simp at h
   subst h
   rw[List.set_cons_zero,List.flatMap_cons,List.flatMap_cons,hy,Nat.zero_mul,Nat.zero_add,List.set_append_left _ _ (by rw[hsz];exact hj)]
 | a::r,k+1,h=>by
   rw[List.set_cons_succ,List.flatMap_cons,List.flatMap_cons,k8d hsz hj hy r k (by simpa using h),List.set_append_right _ _ (by rw[hsz,Nat.succ_mul];omega),hsz,show(k+1)*sz+j-sz=k*sz+j by rw[Nat.succ_mul];omega]
theorem q0r {α:Type} {enc:α→List Value} {sz j:Nat} {x:α} {u:Value} (hsz:∀ x,(enc x).length=sz) (hj:j<sz) (hu:(enc x)[j]?=some u):∀ (l:List α) (k:Nat),l[k]?=some x→(l.flatMap enc)[k*sz+j]?=some u
 | [],k,h=>by simp at h
 | a::r,0,h=>by
   simp at h
   subst h
   rw[List.flatMap_cons,Nat.zero_mul,Nat.zero_add,List.getElem?_append_left (by rw[hsz];exact hj)]
   exact hu
 | a::r,k+1,h=>by
   rw[List.flatMap_cons,List.getElem?_append_right (by rw[hsz,Nat.succ_mul];omega),hsz,show(k+1)*sz+j-sz=k*sz+j by rw[Nat.succ_mul];omega]
   exact q0r hsz hj hu r k (by simpa using h)
theorem Own.putC {α:Type} {enc:α→List Value} {e:TypeId} {sz base n c:Nat} {A:Option Addr} {w:World} {l:List α} (hsz:∀ x,(enc x).length=sz) (h:Own enc e sz w base (.slice A n c) l) {k:Nat} {x:α} (hk:l[k]?=some x) :
 ∃ g,A=some ⟨g,0,none⟩∧base≤g∧g<w.heap.size∧n=l.length∧n≤c∧c≤maxLen∧(∃ cs,w.heap[g]?=some (Obj.cells cs e (0,0)))∧(∀ j u,(enc x)[j]?=some u→w.cell? ⟨g,k*sz+j,none⟩=some u)∧(∀ o,w.frozen? ⟨g,o,none⟩=false) ∧
  ∀ (j:Nat) (u:Value) (y:α),j<sz→enc y=(enc x).set j u→Own enc e sz (w.setCell ⟨g,k*sz+j,none⟩ u) base (.slice A n c) (l.set k y):=by
 have hkl:k<l.length:=(List.getElem?_eq_some_iff.1 hk).1
 rcases h.2 with ⟨hv,h0⟩|⟨g,cap,cur,hv,hg,hh,hnc,hcm,hs,htk⟩
 ·omega
 ·cases hv
  have hfl:=k0a hsz l
  have hlt:∀ j,j<sz→k*sz+j<l.length*sz:=fun j hj=>by
   have:(k+1)*sz≤l.length*sz:=Nat.mul_le_mul_right _ (by omega)
   rw[Nat.succ_mul] at this
   omega
  refine⟨g,rfl,hg,j0a hh,rfl,hnc,hcm,⟨_,hh⟩,fun j u hu=>?_,fun o=>frz hh o,fun j u y hj hy=>⟨by rw[k0a hsz,List.length_set],.inr ⟨g,c,cur.setIfInBounds (k*sz+j) u,by rw[List.length_set],hg,j0d hh,by rw[List.length_set];exact hnc,hcm,by simpa using hs,?_⟩⟩⟩
  ·have hj:j<sz:=by have:=(List.getElem?_eq_some_iff.1 hu).1;rw[hsz] at this;exact this
   have hm:=q0r hsz hj hu l k hk
   rw[←htk,List.getElem?_take_of_lt (hlt j hj),Array.getElem?_toList] at hm
   unfold World.cell?
   simp[hh,hm]
  ·rw[Array.toList_setIfInBounds,List.take_set,List.length_set,htk,k8d hsz hj hy l k hk]
structure HbO (w:World) (base:Nat) (b:Hb):Prop where
 m:OwnM w base b.vm b.l
 k:OwnI w base b.vk b.ks
 h:OwnG w base b.vh b.hs
 d:OwnD w base b.vd b.ds
section
variable {w w':World} {base B:Nat} {b:Hb}
theorem HbO.below (h:HbO w base b) (hb:Below B w w') (hB:w.heap.size≤B):HbO w' base b:=⟨h.m.below hb hB,h.k.below hb hB,h.h.below hb hB,h.d.below hb hB⟩
theorem HbO.inn (h:HbO w base b):HbIn w b:=by
 obtain⟨A1,c1,e1,m1,m2,m3⟩:=h.m.form j3l
 obtain⟨A2,c2,e2,k1,k2,k3⟩:=h.k.form j0u
 obtain⟨A3,c3,e3,h1,h2,h3⟩:=h.h.form
 obtain⟨A4,c4,e4,d1,d2,d3⟩:=h.d.form j5t
 injection e1 with a1 _ b1
 injection e2 with a2 _ b2
 injection e3 with a3 _ b3
 injection e4 with a4 _ b4
 subst a1 b1 a2 b2 a3 b3 a4 b4
 exact⟨m1,m2,m3,k1,k2,k3,h1,h2,h3,d1,d2,d3⟩
theorem OwnG.keptH {v:Value} {ls:List (List Int)} {H:Nat} (h:OwnG w base v ls) (hg:w.grownBy w' (some H)) (hH:H<base):OwnG w' base v ls:=by
 obtain⟨mv,h1,h2⟩:=h
 exact⟨mv,h1.kept hg (.inr (fun e=>by have:=(h1.lt _ e).1;omega)),Rws.kept h2 hg (fun x hx=>.inr (fun e=>by have:=(Rws.ltv h2 hx _ e).1;omega))⟩
theorem Own.keptH {α:Type} {enc:α→List Value} {e:TypeId} {sz H:Nat} {v:Value} {l:List α} (h:Own enc e sz w base v l) (hg:w.grownBy w' (some H)) (hH:H<base):Own enc e sz w' base v l :=
 h.kept hg (.inr (fun e=>by have:=(h.lt _ e).1;omega))
end
def HerdR (w:World) (H N n nf nd:Nat) (e:Ending) (w':World):Prop :=
 ∃ b:Hb,e=.returned b.v∧b.chk=0∧(b.l.length≤n∨b.l.length=1)∧(b.ks.length≤nf∨b.ks.length=1)∧b.ds.length≤nd∧HbO w' w.heap.size b∧Dealt w w' H N
theorem k5z {n nf:Nat} {d:De} (h:j0v n nf d=0):(1≤d.kind∧d.kind≤6)∧(0≤d.flock∧d.flock<nf)∧fldE n nf d=0∧d=namD d:=by
 unfold j0v at h
 obtain⟨h1,h⟩:=ite0 (by decide) h
 obtain⟨h2,h⟩:=ite0 (by decide) h
 split at h
 ·exact absurd h (by assumption)
 rename_i h3
 obtain⟨h4,-⟩:=ite0 (by decide) h
 exact⟨j0n.1 ((Bool.not_eq_false _).mp h1),j1i.1 ((Bool.not_eq_false _).mp h2),Classical.not_not.1 h3,Classical.not_not.1 h4⟩
theorem q1n {n nf:Nat} {d:De} {x:Int} (h:j0v n nf d=0) (h5:d.kind≠5) (hx:1≤x∧x≤3):j0v n nf { d with many:=x }=0:=by
 obtain⟨h1,h2,h3,h4⟩:=k5z h
 obtain⟨kind,flock,owner,other,tof,many,err,s⟩:=d
 dsimp only at *
 refine j5c h1 h2 ?_ ?_
 ·unfold fldE at h3 ⊢
  dsimp only at h3 ⊢
  obtain e|e|e|e|e:kind=1∨kind=2∨kind=3∨kind=4∨kind=6:=by omega
  all_goals subst e
  ·rw[if_pos (by decide)] at h3 ⊢
   obtain⟨a1,h3⟩:=ite0 (by decide) h3
   rw[if_neg a1,if_neg (by rw[j0n.2 ⟨hx.1,by omega⟩];decide)]
  ·rw[if_neg (by decide),if_pos (by decide)] at h3 ⊢
   obtain⟨a1,h3⟩:=ite0 (by decide) h3
   obtain⟨a2,h3⟩:=ite0 (by decide) h3
   rw[if_neg a1,if_neg a2,if_neg (by rw[j0n.2 ⟨hx.1,by omega⟩];decide)]
  ·rw[if_pos (by decide)] at h3 ⊢
   obtain⟨a1,h3⟩:=ite0 (by decide) h3
   rw[if_neg a1,if_neg (by rw[j0n.2 ⟨hx.1,by omega⟩];decide)]
  ·rw[if_neg (by decide),if_neg (by decide),if_pos (by decide)]
   rw[if_neg (by rw[j0n.2 ⟨hx.1,by omega⟩];decide)]
  ·rw[if_neg (by decide),if_neg (by decide),if_neg (by decide),if_neg (by decide)] at h3 ⊢
   obtain⟨a1,-⟩:=ite0 (by decide) h3
   rw[if_neg (fun h=>h.elim (fun h=>by rw[j0n.2 ⟨by omega,by omega⟩] at h;cases h) fun h=>a1 (.inr h))]
 ·unfold namD at h4 ⊢
  dsimp only at h4 ⊢
  obtain e|e|e|e|e:kind=1∨kind=2∨kind=3∨kind=4∨kind=6:=by omega
  all_goals subst e;simp at h4 ⊢;simp[h4]
structure HoS (w:World) (H g B nD:Nat) (b:Hb) (M:Nat) (ds:List De) (wr:World):Prop where
 dl:ds.length=nD
 de:∀ d∈ds,j0v b.l.length b.ks.length d=0
 m:OwnM wr (g+1) b.vm b.l
 k:OwnI wr (g+1) b.vk b.ks
 h:OwnG wr (g+1) b.vh b.hs
 d:OwnD wr (g+1) (.slice b.Ad nD b.cd) ds
 bx:wr.heap[B]?=some (boxO b.t b.vm b.vk b.vh (.slice b.Ad nD b.cd))
 bg:wr.heap[g]?=some (boxO 0 (.slice none 0 0) (.slice none 0 0) (.slice none 0 0) (.slice none 0 0))
 dt:Dealt w wr H M
 z:H<g∧g<B∧w.heap.size≤g
section
variable {w wr w':World} {H g B nD M M':Nat} {b:Hb} {ds:List De}
theorem HoS.dealt (a:HoS w H g B nD b M ds wr) (hd:Dealt wr w' H M'):HoS w H g B nD b M' ds w':=by
 have hz:=a.z
 exact⟨a.dl,a.de,a.m.keptH hd.gr (by omega),a.k.keptH hd.gr (by omega),a.h.keptH hd.gr (by omega),a.d.keptH hd.gr (by omega),hd.blk a.bx (by omega),hd.blk a.bg (by omega),a.dt.trans hd,a.z⟩
theorem HoS.mono (a:HoS w H g B nD b M ds wr) (h:M≤M'):HoS w H g B nD b M' ds wr:=⟨a.dl,a.de,a.m,a.k,a.h,a.d,a.bx,a.bg,a.dt.mono h,a.z⟩
theorem HoS.at (a:HoS w H g B nD b M ds wr) {k:Nat} (hk:k<nD):∃ gd d,b.Ad=some ⟨gd,0,none⟩∧ds[k]?=some d∧nD≤b.cd∧b.cd≤maxLen∧wr.cell? ⟨gd,k*12,none⟩=some (.int .i64 d.kind)∧wr.cell? ⟨gd,k*12+5,none⟩=some (.int .i64 d.many)∧wr.frozen? ⟨gd,k*12+5,none⟩=false ∧
 gd<wr.heap.size∧gd≠H∧gd≠B∧∀ x,d.kind≠5→1≤x→x≤3→HoS w H g B nD b M (ds.set k { d with many:=x }) (wr.setCell ⟨gd,k*12+5,none⟩ (.int .i64 x)):=by
 have hz:=a.z
 obtain⟨d,hd⟩:∃ d,ds[k]?=some d:=⟨_,List.getElem?_eq_getElem (by rw[a.dl];exact hk)⟩
 obtain⟨gd,e,h1,h2,h3,h4,h5,⟨cs,hb⟩,h6,h7,h8⟩:=a.d.putC j5t hd
 have hgB:gd≠B:=fun e=>by subst e;have:=a.bx;rw[hb] at this;cases this
 have hgg:gd≠g:=by omega
 refine⟨gd,d,e,hd,h4,h5,h6 0 _ rfl,h6 5 _ rfl,h7 _,h2,by omega,hgB,fun x hk5 hx1 hx2=>?_⟩
 have hgr:=j0i wr gd (k*12+5) (.int .i64 x)
 have hvd:(Value.slice b.Ad nD b.cd).ownBlock=some gd:=by rw[e];rfl
 have key:∀ {α:Type} {enc:α→List Value} {e:TypeId} {sz:Nat} {v:Value} {l:List α},Own enc e sz wr (g+1) v l→e≠33→Own enc e sz (wr.setCell ⟨gd,k*12+5,none⟩ (.int .i64 x)) (g+1) v l:=fun ho he=>ho.kept hgr (.inr (ho.ne' hb he))
 obtain⟨mv,g1,g2⟩:=a.h
 refine⟨by rw[List.length_set];exact a.dl,fun d' hd'=>?_,key a.m (by decide),key a.k (by decide),⟨mv,key g1 (by decide),Rws.kept g2 hgr (fun y hy=>.inr (Rws.ne g2 hy hb (by decide)))⟩,h8 5 (.int .i64 x) { d with many:=x } (by decide) rfl,(hgr.block B (j0a a.bx) (fun e=>hgB (by simpa using e.symm))).trans a.bx,(hgr.block g (j0a a.bg) (fun e=>hgg (by simpa using e.symm))).trans a.bg,a.dt.set (by show H<gd;omega) (by show w.heap.size≤gd;omega) _,a.z⟩
 rcases List.mem_or_eq_of_mem_set hd' with h|rfl
 ·exact a.de _ h
 ·exact q1n (a.de _ (List.mem_of_getElem? hd)) hk5 ⟨hx1,hx2⟩
end
theorem HbO.ofS {w wr:World} {H g B nD M:Nat} {b:Hb} {ds:List De} (a:HoS w H g B nD b M ds wr) (hc:b.chk=0) (hl:b.ds.length=nD):HbO wr w.heap.size { b with ds:=ds }∧({ b with ds:=ds }:Hb).chk=0:=by
 have hz:=a.z
 obtain⟨a1,a2⟩:True∧nD=ds.length:=⟨trivial,a.dl.symm⟩
 subst a2
 refine⟨⟨a.m.mono (by omega),a.k.mono (by omega),a.h.mono (by omega),a.d.mono (by omega)⟩,?_⟩
 have h:=j3a hc
 exact q0p h.ck h.f0 h.f3 h.kk h.hl (fun r hr=>⟨h.rl r hr,h.rb r hr⟩) (show ds.length≤6 by have:=h.d6;omega) a.de
theorem q1w (H N n nf nd:Nat) (w:World) (h:Hd w H N) (hN:N≤4611686018000000000) (hn:n≤5) (hnf:nf≤3) (hnd:nd≤6) :
 Calls Tryz.prog 10 #[.pointer (some ⟨H,0,none⟩),.int .i64 n,.int .i64 nf,.int .i64 nd] w (HerdR w H (N+200000) n nf nd):=by
 have hHl:=h.lt
 obtain⟨g,hg⟩:∃ g,g=w.heap.size:=⟨_,rfl⟩
 obtain⟨V,hV⟩:∃ V,V=w.alloc (boxO 0 (.slice none 0 0) (.slice none 0 0) (.slice none 0 0) (.slice none 0 0)):=⟨_,rfl⟩
 have hDV:Dealt w V H N:=by rw[hV];exact(Dealt.refl h).alloc _
 have b0:V.heap[g]?=some (boxO 0 (.slice none 0 0) (.slice none 0 0) (.slice none 0 0) (.slice none 0 0)):=by rw[hV,hg];exact j0c rfl
 have hzV:V.heap.size=g+1:=by rw[hV,hg];simp
 have HV:=zQ9 (zA9 hDV (zA9 b0 (zA9 hzV hg)))
 have htl:=q2n H N n nf nd V hDV.hd hN hn hnf hnd
 unfold boxO at hV
 go_enter Tryz.func10,Tryz.ntmps10
 go_upto_region 1 with (fail)
 rw[←hV]
 rw[←hg]
 clear hV hDV b0 hzV hg h
 go_upto_region 2 with (go_at_call 20;refine htl.mono ?_;rintro e w1 ⟨b,vE,vG,vW,gs,gone,whose,rfl,hck,hln,hkn,hdn,hm,hk,hh,hd,hE,hG,hW,hsh,hti,hdl⟩;unfold Hb.v)
 obtain⟨B,hB⟩:∃ B,B=w1.heap.size:=⟨_,rfl⟩
 obtain⟨w2,hw2⟩:∃ w2,w2=w1.alloc (Obj.cells #[Value.int .i64 b.t,.slice b.A b.l.length b.c,.slice b.Ak b.ks.length b.ck,.slice b.Ah b.hs.length b.ch,.slice b.Ad b.ds.length b.cd] 29):=⟨_,rfl⟩
 rw[←hw2]
 rw[←hB]
 have hz:=hdl.size
 have hBl:Below w1.heap.size w1 w2:=by rw[hw2];exact bal0 _ _
 obtain⟨nD,hnD⟩:∃ nD,nD=b.ds.length:=⟨_,rfl⟩
 have hS:HoS w H g B nD b (N+100000) b.ds w2:=by
  have hz1:V.heap.size=g+1:=HV.out.2.2.1
  have hck':=j3a hck
  rw[hz1] at hm hk hh hd hz
  refine⟨hnD.symm,hck'.dE,hm.below hBl (zL9 _),hk.below hBl (zL9 _),hh.below hBl (zL9 _),by rw[hnD];exact hd.below hBl (zL9 _),by rw[hw2,hB,hnD];exact j0c rfl,?_,?_,by have:=HV.out.2.2.2;omega,by omega,by have:=HV.out.2.2.2;omega⟩
  ·exact j0e (hdl.blk HV.out.2.1 (by have:=HV.out.2.2.2;omega)) hBl (zL9 _)
  ·rw[hw2];exact(HV.out.1.trans hdl).alloc _
 rw[←hnD]
 have HC:=zQ9 (zA9 hck (zA9 hln (zA9 hkn (zA9 hdn hnD))))
 have hn6:nD≤6:=by omega
 clear htl hck hln hkn hdn hm hk hh hd hE hG hW hsh hti hdl hz hBl hB hw2 hnD
 go_wp2_with fail
 go_loopg [13] nD (fun gg v13 wr=>∃ (k:Nat) (ds:List De),k+gg=nD∧v13=.int .i64 k∧HoS w H g B nD b (N+100000+2*k) ds wr)
 case atStart=>exact⟨0,b.ds,by omega,rfl,hS⟩
 case round =>
  obtain⟨k,ds,hk,rfl,hS⟩:=hrel
  by_cases hlt:k<nD
  ·obtain⟨M,hM⟩:∃ M,M=N+100000+2*k:=⟨_,rfl⟩
   rw[←hM] at hS
   have hMN:M≤4611686018000200000:=by omega
   obtain⟨gd,d,hA,hdk,hc1,hc2,hk0,hk5,hf5,hgz,hgH,hgB,hput⟩:=hS.at hlt
   obtain⟨x0,x1,x2,x3,x4⟩:=blk5 hS.bx
   rw[hA] at x4
   have hHd:=hS.dt.hd
   have hlt':(k:Int)<(nD:Int):=by omega
   obtain⟨kd,hkd⟩:∃ kd,kd=d.kind:=⟨_,rfl⟩
   rw[←hkd] at hk0
   have HA:=zQ9 (zA9 hA hdk)
   have HS:=zQ9 (zA9 hS (zA9 hput (zA9 hkd (zA9 hk hM))))
   clear hput hkd hS hM hA hdk
   by_cases h5:kd=5
   ·have e5:(kd != 5)=false:=by simp[h5]
    clear h5
    go_wp2_with fail
    go_roundg (gk-1)
    case measure=>have:=HS.out.2.2.2.1;omega
    case rel=>exact⟨k+1,ds,by have:=HS.out.2.2.2.1;omega,by go_num,HS.out.1.mono (by have:=HS.out.2.2.2.2;omega)⟩
   ·have e5:(kd != 5)=true:=by simp[h5]
    have H5:=zQ9 h5
    clear h5
    have hod:=j3z H M 1 6 wr hHd (by omega) (by omega) (by omega)
    go_upto_if 41 with (go_at_call 49;refine hod.mono ?_;rintro e w2 ⟨o,rfl,hd2⟩)
    have hS2:=HS.out.1.dealt hd2
    obtain⟨y0,y1,y2,y3,y4⟩:=blk5 hS2.bx
    clear hod
    cases o
    ·go_wp2_with fail
     go_roundg (gk-1)
     case measure=>have:=HS.out.2.2.2.1;omega
     case rel=>exact⟨k+1,ds,by have:=HS.out.2.2.2.1;omega,by go_num,hS2.mono (by have:=HS.out.2.2.2.2;omega)⟩
    ·obtain⟨gd',d',hA',hdk',-,-,-,hk5',hf5',hgz',-,-,hput'⟩:=hS2.at hlt
     rw[HA.out.1] at hA'
     cases hA'
     rw[HA.out.2] at hdk'
     cases hdk'
     have y4':w2.drew.cell? ⟨B,4,none⟩=some (.slice (some ⟨gd,0,none⟩) nD b.cd):=by rw[←HA.out.1];exact y4
     have hc5:w2.drew.cell? ⟨gd,k*12+5,none⟩=some (.int .i64 d.many):=hk5'
     have hcf:w2.drew.frozen? ⟨gd,k*12+5,none⟩=false:=hf5'
     have hBH:B≠H:=by have:=hS2.z;omega
     have hHd2:=hS2.dt.hd
     have ham:=j1c H (M+1) 1 3 w2.drew hHd2.drew (by omega) (by omega) (by omega)
     have HP:=zQ9 hS2
     clear hput' hS2 y0 y1 y2 y3 y4 hHd2 hd2 hk5' hf5'
     go_upto_region 6 with (fail)
     go_region_held3 (fun w'=>w'.cell? ⟨B,4,none⟩=some (.slice (some ⟨gd,0,none⟩) nD b.cd))
      (first
        | (with_reducible exact y4')
        | (with_reducible exact hd3.cell y4' hBH)
        | (exact(World.cell?_of_block (a:=⟨B,4,none⟩) (Below.heap_setCell _ ⟨gd,k*12+5,none⟩ _ _ (show B≠gd from fun e=>hgB e.symm))).trans (hd3.cell y4' hBH))
        | fail)
      (first
        | (go_at_call 50;refine ham.mono ?_;rintro e w3 ⟨x,rfl,hx1,hx2,hd3⟩;have hc3:=hd3.cell hc5 hgH;have hcf3:=(World.frozen?_of_block (a:=⟨gd,k*12+5,none⟩) (hd3.gr.block gd hgz' (by intro e;cases e;exact hgH rfl))).trans hcf)
        | fail)
     all_goals
      have hS3:=HP.out.dealt (show Dealt w2 w3 H (M+1+1) from hd3.undrew)
      obtain⟨gd2,d2,e1,e2,-,-,-,-,-,-,-,-,hput3⟩:=hS3.at hlt
      rw[HA.out.1] at e1
      cases e1
      rw[HA.out.2] at e2
      cases e2
      have hS4:=zQ9 (hput3 x (by rw[←HS.out.2.2.1];exact H5.out) hx1 (by omega))
      clear hput3 hS3 hd3 hx1 hx2
      go_wp2_with fail
      go_roundg (gk-1)
      case measure=>have:=HS.out.2.2.2.1;omega
      case rel=>exact⟨k+1,_,by have:=HS.out.2.2.2.1;omega,by go_num,hS4.out.mono (by have:=HS.out.2.2.2.2;omega)⟩
  ·obtain rfl:k=nD:=by omega
   obtain⟨x0,x1,x2,x3,x4⟩:=blk5 hS.bx
   obtain⟨z0,z1,z2,z3,z4⟩:=blk5 hS.bg
   obtain⟨f0,f1,f2,f3,f4⟩:=zA9 (frz hS.bg 0) (zA9 (frz hS.bg 1) (zA9 (frz hS.bg 2) (zA9 (frz hS.bg 3) (frz hS.bg 4))))
   have hgl:=j0a hS.bg
   have HS:=zQ9 hS
   clear hS
   go_wp2_with fail
   obtain⟨W,hW⟩:∃ W,W=(((((wr.setCell ⟨g,0,none⟩ (.int .i64 b.t)).setCell ⟨g,1,none⟩ (.slice b.A b.l.length b.c)).setCell ⟨g,2,none⟩ (.slice b.Ak b.ks.length b.ck)).setCell ⟨g,3,none⟩ (.slice b.Ah b.hs.length b.ch)).setCell ⟨g,4,none⟩ (.slice b.Ad k b.cd)):=⟨_,rfl⟩
   rw[←hW]
   have bgW:W.heap[g]?=some (boxO b.t b.vm b.vk b.vh (.slice b.Ad k b.cd)):=by rw[hW];exact(j0d (j0d (j0d (j0d (j0d HS.out.bg))))).trans (by simp;rfl)
   have hgr:wr.grownBy W (some g):=by rw[hW];exact((((j0i _ g _ _).trans (j0i _ g _ _)).trans (j0i _ g _ _)).trans (j0i _ g _ _)).trans (j0i _ g _ _)
   obtain⟨q0,q1,q2,q3,q4⟩:=blk5 bgW
   obtain⟨o1,o2⟩:=HbO.ofS HS.out HC.out.1 HC.out.2.2.2.2.symm
   have hsl:=HS.out.dl
   have hc:=HC.out
   have hz:=HS.out.z
   have hbg:=HS.out.bg
   refine bodyPost_ret (v:=.agg #[.int .i64 b.t,.slice b.A b.l.length b.c,.slice b.Ak b.ks.length b.ck,.slice b.Ah b.hs.length b.ch,.slice b.Ad k b.cd]) (by simp[results,Tryz.f10,go_sem,q0,q1,q2,q3,q4]) rfl ⟨{ b with ds:=ds },by rw[←hsl],o2,hc.2.1,hc.2.2.1,by show ds.length≤nd;omega,?_,?_⟩
   ·exact⟨o1.m.kept hgr (.inr (o1.m.ne' hbg (by decide))),o1.k.kept hgr (.inr (o1.k.ne' hbg (by decide))),o1.h.keptB hgr hbg,o1.d.kept hgr (.inr (o1.d.ne' hbg (by decide)))⟩
   ·exact(HS.out.dt.ownG hgr fun j e=>by cases e;omega).mono (by omega)
def TBw (j:Nat) (w w':World):Prop:=Below w.heap.size w w'
theorem TBw.rf {j:Nat} (w:World):TBw j w w:=Below.refl _ _
def PBw (ws:World) (k:Nat) (w:World):Prop:=Below ws.heap.size ws w
theorem PBw.st {ws:World} (k i:Nat) (w w':World) (hT:TBw i w w') (hp:PBw ws k w):PBw ws k w':=Below.trans hp (Below.mono hT (Below.size hp))
def FOI (base:Nat) (l:List Int):VF:=fun v w=>OwnI w base v l
def FOD (base:Nat) (l:List De):VF:=fun v w=>OwnD w base v l
theorem FOI.st {base:Nat} {l:List Int} (i:Nat) (v:Value) (w w':World) (hT:TBw i w w') (h:FOI base l v w):FOI base l v w':=Own.below h hT (zL9 _)
theorem FOD.st {base:Nat} {l:List De} (i:Nat) (v:Value) (w w':World) (hT:TBw i w w') (h:FOD base l v w):FOD base l v w':=Own.below h hT (zL9 _)
def k7o (b:Hb) (w:World) (e:Ending) (w':World):Prop :=
 (∃ A c Ak ck Ah ch Ad cd,e=.returned (Hb.v ⟨b.t,A,c,b.l,Ak,ck,b.ks,Ah,ch,b.hs,Ad,cd,b.ds⟩)∧HbO w' w.heap.size ⟨b.t,A,c,b.l,Ak,ck,b.ks,Ah,ch,b.hs,Ad,cd,b.ds⟩)∧Below w.heap.size w w'
theorem k9t {α:Type} {enc:α→List Value} {P:Program} {t e:TypeId} {sz bytes:Nat} (E:ElemOk P t e sz bytes) {ops:Array Oper} {rest:List Oper} {o:Oper} {a:Act} {Q:Exit→Act→World→Prop} {w:World}
 (hgd:o.guard=none) (s x:Operand) (ho:o.op=.call { callee:=.builtin .append,args:=#[s,x],argTypes:=#[t,t] })
 (base q:Nat) (A:Option Addr) (m c:Nat) (l2:List α) (hs:a.eval s=.slice (some ⟨q,0,none⟩) 0 0) (hq:w.heap[q]?=some (.cells #[] e (0,0))) (hx:a.eval x=.slice A m c) (hl2:Sl enc sz w A m l2) (hz:A=none→c=0)
 (hlen:∀ x,(enc x).length=sz) (h1:∀ x,∀ u∈enc x,u.oneCell'=true) (hll:m<4294967296) (hby:bytes≤4096) (hbase:base≤q)
 (h:∀ v' w',Own enc e sz w' base v' l2→Below w.heap.size w w'→wpList P ops Q rest (a.put o.dst v') w') :
 wpList P ops Q (o::rest) a w:=by
 obtain⟨i,z,hi,hzz,hsize,hbytes,hzs⟩:=E.info
 have hql:=j0a hq
 have hown0:Own enc e sz w base (.slice (some ⟨q,0,none⟩) 0 0) ([]:List α):=⟨by simp,.inr ⟨q,0,#[],rfl,hbase,hq,zL9 _,by simp[maxLen],by simp,by simp⟩⟩
 cases A with
 | none =>
   have hc:=hz rfl
   subst hc
   have hm:m=0:=by
    rcases Nat.eq_zero_or_pos m with h0|h0
    ·exact h0
    ·obtain⟨b,off,hA,_⟩:=hl2.2 h0;cases hA
   subst hm
   have hl0:l2=[]:=List.eq_nil_of_length_eq_zero hl2.1
   subst hl0
   refine wpList_append_own_none hgd s x t ho base e i sz E.sl hi (.slice (some ⟨q,0,none⟩) 0 0) 0 [] hs hown0 hx ?_
   exact h _ w hown0 (Below.refl _ _)
 | some ad =>
   have hnews:∀ j u,(l2.flatMap enc)[j]?=some u→w.cell? (ad.add j)=some u:=by
    intro j u hu
    obtain⟨y,hy,hu2⟩:=k5g E.pos hlen l2 j u hu
    have hlt:=(List.getElem?_eq_some_iff.1 hy).1
    obtain⟨b,off,hA,hc⟩:=hl2.2 (hl2.1 ▸ Nat.lt_of_le_of_lt (Nat.zero_le _) hlt)
    cases hA
    have:=hc _ y hy _ u hu2
    rw[Addr.add_lit]
    have e1:off+j / sz*sz+j % sz=off+j:=by rw[Nat.add_assoc,Nat.div_add_mod']
    rw[e1] at this
    exact this
   have h1':∀ u∈l2.flatMap enc,u.oneCell'=true:=by
    intro u hu
    obtain⟨y,hy,hu2⟩:=List.mem_flatMap.1 hu
    exact h1 y u hu2
   have hll2:(l2.flatMap enc).length=m*sz:=by rw[k0a hlen,hl2.1]
   subst hsize
   subst hbytes
   rcases Nat.eq_zero_or_pos m with hm|hm
   ·subst hm
    have hl0:l2=[]:=List.eq_nil_of_length_eq_zero hl2.1
    subst hl0
    refine wpList_plain hgd fun _ hK=>?_
    have hr:=run_append_room (P:=P) w t o.type e i E.sl hi q 0 0 #[] hq ad 0 c [] (by simp) (by simp) (by simp) (zL9 _) (by simp)
    unfold Oper.wp execOp
    simp only[ho,resolve,invoke,builtin,Sem.run_bind,Sem.run_pure,Result.andThen_ok,List.map_toArray,List.map_cons,List.map_nil,hs,hx,hr]
    refine hK _ _ (h _ _ ?_ ?_)
    ·exact⟨by simp,.inr ⟨q,0,#[],rfl,hbase,(setRow_heap w q #[] _ e _ hq).trans (by simp),zL9 _,by simp[maxLen],by simp,by simp⟩⟩
    ·refine⟨rfl,rfl,rfl,by simp,fun j hj=>?_⟩
     by_cases hjq:j=q
     ·subst hjq;rw[hq];exact(setRow_heap w j #[] _ e _ hq).trans (by simp)
     ·exact setRow_other w q j _ hjq
   ·refine wpList_plain hgd fun _ hK=>?_
    have hr:=run_append_grow (P:=P) w t o.type e i z E.sl hi hzz ⟨q,0,none⟩ 0 0 [] (by simp) (by simp) ad m c (l2.flatMap enc) hll2 hnews (by omega) (by omega) (growslice_fits (by omega) (by
     calc (0+m)*i.bytes≤4294967296*4096:=Nat.mul_le_mul (by omega) hby
      _≤140737488355328:=by omega))
    simp only[Nat.zero_add] at hr
    unfold Oper.wp execOp
    simp only[ho,resolve,invoke,builtin,Sem.run_bind,Sem.run_pure,Result.andThen_ok,List.map_toArray,List.map_cons,List.map_nil,hs,hx,hr]
    have hge:=grownCap_ge w m 0 e
    have hcm:grownCap w m 0 e≤maxLen:=grownCap_le_maxLen w m 0 e (by unfold maxLen;omega)
    refine hK _ _ (h _ _ ?_ ?_)
    ·refine⟨hll2.trans (by rw[hl2.1]),.inr ⟨w.heap.size,_,_,by rw[hl2.1],by omega,heap_alloc_new w.drew _,by rw[hl2.1];omega,hcm,?_,?_⟩⟩
     ·simp only[Array.size_append,List.size_toArray,size_zeroCells,hzs,hll2,List.length_nil,Nat.zero_add,Nat.zero_mul,←Nat.add_mul]
      congr 1
      omega
     ·simp only[Array.toList_append,List.nil_append,hl2.1,←hll2]
      exact List.take_left
    ·refine⟨rfl,rfl,rfl,by simp,fun j hj=>heap_alloc_old w.drew _ hj⟩
structure HbZ (w:World) (b:Hb):Prop where
 m:b.A=none→b.c=0
 k:b.Ak=none→b.ck=0
 h:j0z w b.Ah b.hs.length b.hs
 d:b.Ad=none→b.cd=0
theorem HbZ.below {w w':World} {b:Hb} {B:Nat} (h:HbZ w b) (hb:Below B w w') (hB:w.heap.size≤B):HbZ w' b:=⟨h.m,h.k,h.h.below hb hB,h.d⟩
theorem HbO.z {w:World} {base:Nat} {b:Hb} (h:HbO w base b):HbZ w b:=by
 obtain⟨A1,c1,e1,-,-,-,z1⟩:=h.m.formZ j3l
 obtain⟨A2,c2,e2,-,-,-,z2⟩:=h.k.formZ j0u
 obtain⟨A3,c3,e3,g3,-,-,z3⟩:=h.h.formZ
 obtain⟨A4,c4,e4,-,-,-,z4⟩:=h.d.formZ j5t
 injection e1 with a1 _ b1
 injection e2 with a2 _ b2
 injection e3 with a3 _ b3
 injection e4 with a4 _ b4
 exact⟨fun e=>by rw[b1];exact z1 (a1 ▸ e),fun e=>by rw[b2];exact z2 (a2 ▸ e),a3 ▸ g3,fun e=>by rw[b4];exact z4 (a4 ▸ e)⟩
def FOG (base:Nat) (l:List (List Int)):VF:=fun v w=>OwnG w base v l
theorem FOG.st {base:Nat} {l:List (List Int)} (i:Nat) (v:Value) (w w':World) (hT:TBw i w w') (h:FOG base l v w):FOG base l v w':=OwnG.below h hT (zL9 _)
def FE0 (base:Nat):VF:=fun v w=>∃ q:Nat,v=.slice (some ⟨q,0,none⟩) 0 0∧base≤q∧w.heap[q]?=some (.cells #[] 33 (0,0))
theorem FE0.st {base:Nat} (i:Nat) (v:Value) (w w':World) (hT:TBw i w w') (h:FE0 base v w):FE0 base v w':=by
 obtain⟨q,h1,h2,h3⟩:=h
 exact⟨q,h1,h2,j0e h3 hT (zL9 _)⟩
theorem k0x (b:Hb) (w:World) (hin:HbIn w b) (hz:HbZ w b) (hl:b.l.length≤1000) (hk:b.ks.length≤1000) (hh:b.hs.length≤1000) (hd:b.ds.length≤1000) (hr:∀ r∈b.hs,r.length≤1000):Calls Tryz.prog 11 #[b.v] w (k7o b w):=by
 obtain⟨V,hV⟩:∃ V,V=(w.alloc b.obj).alloc (Obj.cells #[.int .i64 0,.slice none 0 0,.slice none 0 0,.slice none 0 0,.slice none 0 0] 29):=⟨_,rfl⟩
 obtain⟨g,hg⟩:∃ g,g=w.heap.size:=⟨_,rfl⟩
 have b0:V.heap[g]?=some b.obj:=by rw[hV,hg];exact j0b (j0c rfl) _
 have b1:V.heap[g+1]?=some (boxO 0 (.slice none 0 0) (.slice none 0 0) (.slice none 0 0) (.slice none 0 0)):=by rw[hV,hg];exact j0c (by simp)
 have hBV:Below w.heap.size w V:=by rw[hV];exact(bal0 w _).trans ((bal0 _ _).mono (by simp))
 have hiV:=hin.below hBV (zL9 _)
 have hzV:V.heap.size=g+2:=by rw[hV,hg];simp
 obtain⟨c0,c1,c2,c3,c4⟩:=j0h b0
 have hmc:=k3c b.t b.A b.l.length b.c b.l V hiV.m hz.m (by omega)
 have HZ:=zQ9 hz
 clear hz
 have HV:=zQ9 (zA9 hBV (zA9 b0 (zA9 b1 (zA9 hiV (zA9 hzV hg)))))
 have HIN:=zQ9 hin
 unfold Hb.v
 go_enter Tryz.func11,Tryz.ntmps11
 go_upto_region 1 with (fail)
 rw[←hV,←hg]
 have hgV:=j0a b0
 clear hV hg hin hBV hiV b0 b1 hzV
 go_wp2_with fail
 with_reducible refine hmc.mono ?_
 rintro e w2 ⟨⟨A1,a1,rfl,ho1,-,-,-,-⟩,hb2⟩
 have x0:=j0e HV.out.2.1 hb2 (zL9 _)
 have x1:=j0e HV.out.2.2.1 hb2 (zL9 _)
 clear c0 c1 c2 c3 c4 hmc
 obtain⟨c0,c1,c2,c3,c4⟩:=j0h x0
 have f0:=frz x0 0
 have f1:=frz x0 1
 have hg2:=j0a x0
 go_upto_region 2 with (fail)
 obtain⟨W3,hW3⟩:∃ W3,W3=(w2.setCell ⟨g,0,none⟩ (.int .i64 b.t)).setCell ⟨g,1,none⟩ (.slice A1 b.l.length a1):=⟨_,rfl⟩
 rw[←hW3]
 have hfar:∀ j,j≠g→W3.heap[j]?=w2.heap[j]?:=fun j hj=>by rw[hW3];exact(Below.heap_setCell _ ⟨g,1,none⟩ _ j hj).trans (Below.heap_setCell _ ⟨g,0,none⟩ _ j hj)
 have x3:W3.heap[g]?=some (boxO b.t (.slice A1 b.l.length a1) b.vk b.vh b.vd):=by rw[hW3];exact(j0d (j0d x0)).trans (by simp[boxO,Hb.vk,Hb.vh,Hb.vd])
 have y3:=(hfar (g+1) (by omega)).trans x1
 have hB2:=HV.out.1.trans (hb2.mono HV.out.1.size)
 have hB3:Below w.heap.size w W3:=by rw[hW3];exact Below.setCell (Below.setCell hB2 (p:=⟨g,0,none⟩) (by rw[←HV.out.2.2.2.2.2];exact zL9 _) _) (p:=⟨g,1,none⟩) (by rw[←HV.out.2.2.2.2.2];exact zL9 _) _
 have hi3:=HIN.out.below hB3 (zL9 _)
 have hs2:=hb2.size
 have hz3:g+2≤W3.heap.size:=by have h1:W3.heap.size=w2.heap.size:=by rw[hW3];simp[World.setCell]
                               have:=HV.out.2.2.2.2.1;omega
 have ho3:OwnM W3 (g+2) (.slice A1 b.l.length a1) b.l:=by
  rw[HV.out.2.2.2.2.1] at ho1
  exact ho1.upon fun j hj=>hfar j (by omega)
 have H3:=zQ9 (zA9 x3 (zA9 y3 (zA9 hB3 (zA9 hi3 (zA9 hz3 ho3)))))
 clear hW3 hfar x3 y3 hB2 hB3 hi3 hs2 ho1 hb2 x0 x1 c0 c1 c2 c3 c4 f0 f1 hg2
 have hbd:Below W3.heap.size W3 W3.drew:=j1j (Below.refl _ _)
 have HC:=zQ9 (fun(w':World) (hp:Below W3.drew.heap.size W3.drew w')=>zA9 (j0h (j0e (j0e H3.out.1 hbd (zL9 _)) hp (zL9 _))) (j0a (j0e (j0e H3.out.1 hbd (zL9 _)) hp (zL9 _))))
 have HI3:=zQ9 (zA9 (H3.out.2.2.2.1.below hbd (zL9 _)) ((HZ.out.below H3.out.2.2.1 (zL9 _)).below hbd (zL9 _)))
 have hzd:g+2≤W3.drew.heap.size:=hz3
 clear hbd hz3
 go_wp2_with fail
 refine j0y 11 0 0 [] [] 0 (TBw) (PBw W3.drew) [0,0,0,0,0,0,0,0,0,0,0] (by as_aux_lemma=>kernel_rfl) (by as_aux_lemma=>kernel_rfl) (by as_aux_lemma=>kernel_rfl) (by as_aux_lemma=>kernel_rfl) (by omega) (.inl rfl) rfl rfl (fun k i w1 w2 hc _ hT hp=>PBw.st k i w1 w2 hT hp) (fun k=>Below.refl _ _) ?_
 apply Exists.intro
 refine⟨fun ys=>?_,fun ops K hK=>?_⟩
 ·simp only[List.take_succ_cons,List.take_zero,j0q,List.filterMap_cons,List.filterMap_nil,j0r]
  go_simp
  rfl
 simp only[List.take_succ_cons,List.take_zero,List.drop_succ_cons,List.drop_zero] at hK ⊢
 repeat
  refine LexT.const TBw.rf ?_
  apply Exists.intro
  refine⟨fun ys w' hp hpk hq hd=>?_,?_⟩
  ·try simp[j0f,j0g,DF.holds,Region.binds,EqF] at hd
   try simp only[hd]
   obtain⟨⟨c0,c1,c2,c3,c4⟩,hlg⟩:=HC.out w' hp
   intro Q2 hQ2
   go_wp2_with fail
   rfl
  try simp only[List.nil_append,List.cons_append]
 refine LexT.some (FOI (g+2) b.ks) (fun i v w1 w2 hc _ hT h=>FOI.st i v w1 w2 hT h) (fun ys w' hp hpk hq hd=>?_) ?_
 ·try simp[j0f,j0g,DF.holds,Region.binds,EqF] at hd
  try simp only[hd]
  have hpz:=Below.size hp
  have hci:=k0y b.Ak b.ks.length b.ck b.ks w' (HI3.out.1.k.below hp (zL9 _)) HI3.out.2.k (by omega)
  clear hp hpk
  intro Q2 hQ2
  go_wp2_with fail
  refine hci.mono ?_
  rintro e w4 ⟨v,rfl,ho,hb⟩
  have HX:=zQ9 (show TBw 0 w' w4∧FOI (g+2) b.ks v w4 from⟨hb,ho.mono (by omega)⟩)
  clear ho hb hci
  go_wp2
  exact⟨_,rfl,HX.out⟩
 try simp only[List.nil_append,List.cons_append]
 repeat
  refine LexT.const TBw.rf ?_
  apply Exists.intro
  refine⟨fun ys w' hp hpk hq hd=>?_,?_⟩
  ·try simp[j0f,j0g,DF.holds,Region.binds,EqF] at hd
   try simp only[hd]
   obtain⟨⟨c0,c1,c2,c3,c4⟩,hlg⟩:=HC.out w' hp
   intro Q2 hQ2
   go_wp2_with fail
   rfl
  try simp only[List.nil_append,List.cons_append]
 refine LexT.some (FOG (g+2) b.hs) (fun i v w1 w2 hc _ hT h=>FOG.st i v w1 w2 hT h) (fun ys w' hp hpk hq hd=>?_) ?_
 ·try simp[j0f,j0g,DF.holds,Region.binds,EqF] at hd
  try simp only[hd]
  have hpz:=Below.size hp
  have hci:=k0w b.Ah b.hs.length b.ch b.hs w' (HI3.out.2.h.below hp (zL9 _)) hh hr
  clear hp hpk
  intro Q2 hQ2
  go_wp2_with fail
  refine hci.mono ?_
  rintro e w4 ⟨⟨v,rfl,ho⟩,hb⟩
  have HX:=zQ9 (show TBw 0 w' w4∧FOG (g+2) b.hs v w4 from⟨hb,ho.ownG.mono (by omega)⟩)
  clear ho hb hci
  go_wp2
  exact⟨_,rfl,HX.out⟩
 try simp only[List.nil_append,List.cons_append]
 refine LexT.some (FE0 (g+2)) (fun i v w1 w2 hc _ hT h=>FE0.st i v w1 w2 hT h) (fun ys w' hp hpk hq hd=>?_) ?_
 ·try simp[j0f,j0g,DF.holds,Region.binds,EqF] at hd
  try simp only[hd]
  have hpz:=Below.size hp
  have HX:=zQ9 (show TBw 0 w' (w'.alloc (Obj.cells #[] 33))∧FE0 (g+2) (.slice (some ⟨w'.heap.size,0,none⟩) 0 0) (w'.alloc (Obj.cells #[] 33)) from⟨bal0 _ _,w'.heap.size,rfl,by omega,j0c rfl⟩)
  clear hp hpk
  intro Q2 hQ2
  go_wp2_with fail
  exact HX.out
 try simp only[List.nil_append,List.cons_append]
 repeat
  refine LexT.const TBw.rf ?_
  apply Exists.intro
  refine⟨fun ys w' hp hpk hq hd=>?_,?_⟩
  ·try simp[j0f,j0g,DF.holds,Region.binds,EqF] at hd
   try simp only[hd]
   obtain⟨⟨c0,c1,c2,c3,c4⟩,hlg⟩:=HC.out w' hp
   intro Q2 hQ2
   go_wp2_with fail
   rfl
  try simp only[List.nil_append,List.cons_append]
 refine LexT.some (FOD (g+2) b.ds) (fun i v w1 w2 hc _ hT h=>FOD.st i v w1 w2 hT h) (fun ys w' hp hpk hq hd=>?_) ?_
 ·try simp[j0f,j0g,DF.holds,Region.binds,EqF] at hd
  try simp only[hd]
  obtain⟨⟨q,e13,hq1,hq2⟩,e15,-⟩:=hd
  have hbl:=HI3.out.1.d.below hp (zL9 _)
  simp only[e13,e15]
  have HX0:=zQ9 (zA9 hq1 (zA9 hq2 hbl))
  clear hp hpk e13 e15 hq1 hq2 hbl
  intro Q2 hQ2
  go_wp2_with (at_builtin;refine k9t k8s rfl (.tmp 13) (.tmp 15) rfl (g+2) q b.Ad b.ds.length b.cd b.ds rfl HX0.out.2.1 rfl HX0.out.2.2 HI3.out.2.d j5t k5j (by omega) (by decide) HX0.out.1 ?_;intro v' w5 hown5 hb5;have HX:=zQ9 (show TBw 0 w' w5∧FOD (g+2) b.ds v' w5 from⟨hb5,hown5⟩);clear hown5 hb5)
  exact HX.out
 try simp only[List.nil_append,List.cons_append]
 repeat
  refine LexT.const TBw.rf ?_
  apply Exists.intro
  refine⟨fun ys w' hp hpk hq hd=>?_,?_⟩
  ·try simp[j0f,j0g,DF.holds,Region.binds,EqF] at hd
   try simp only[hd]
   obtain⟨⟨c0,c1,c2,c3,c4⟩,hlg⟩:=HC.out w' hp
   intro Q2 hQ2
   go_wp2_with fail
   rfl
  try simp only[List.nil_append,List.cons_append]
 refine hK _ fun ys w' hp hF=>?_
 simp[AllF,DF.holds] at hF
 obtain⟨-,-,f9,-,-,f12,-,-,-,f16,h17⟩:=hF
 replace hp:Below W3.drew.heap.size W3.drew w':=hp
 replace f9:OwnI w' (g+2) (ys 9) b.ks:=f9
 replace f12:OwnG w' (g+2) (ys 12) b.hs:=f12
 replace f16:OwnD w' (g+2) (ys 16) b.ds:=f16
 obtain⟨A9,a9,e9,-,-,-⟩:=f9.form j0u
 obtain⟨A12,a12,e12,-,-,-⟩:=f12.form
 obtain⟨A16,a16,e16,-,-,-⟩:=f16.form j5t
 rw[e9] at f9
 rw[e12] at f12
 rw[e16] at f16
 simp only[e9,e12,e16,h17]
 have hbd:Below W3.heap.size W3 W3.drew:=j1j (Below.refl _ _)
 have hp3:=hbd.trans (hp.mono hbd.size)
 have x4:=j0e H3.out.1 hp3 (zL9 _)
 have y4:=j0e H3.out.2.1 hp3 (zL9 _)
 have o4:=H3.out.2.2.2.2.2.below hp3 (zL9 _)
 obtain⟨c0,c1,c2,c3,c4⟩:=blk5 x4
 obtain⟨d0,d1,d2,d3,d4⟩:=blk5 y4
 have q2:=frz x4 2
 have q3:=frz x4 3
 have q4:=frz x4 4
 obtain⟨e0,e1,e2,e3,e4⟩:=zA9 (frz y4 0) (zA9 (frz y4 1) (zA9 (frz y4 2) (zA9 (frz y4 3) (frz y4 4))))
 have hg4:=j0a x4
 have hg5:=j0a y4
 have H4:=zQ9 (zA9 x4 (zA9 y4 (zA9 hp3 (zA9 o4 (zA9 f9 (zA9 f12 f16))))))
 clear hK e9 e12 e16 h17 hbd hp x4 y4 hp3 o4 f9 f12 f16
 go_wp2_with fail
 obtain⟨Z,hZ⟩:∃ Z,Z=((((((((w'.setCell ⟨g,2,none⟩ (.slice A9 b.ks.length a9)).setCell ⟨g,3,none⟩ (.slice A12 b.hs.length a12)).setCell ⟨g,4,none⟩ (.slice A16 b.ds.length a16)).setCell ⟨g+1,0,none⟩ (.int .i64 b.t)).setCell ⟨g+1,1,none⟩ (.slice A1 b.l.length a1)).setCell ⟨g+1,2,none⟩ (.slice A9 b.ks.length a9)).setCell ⟨g+1,3,none⟩ (.slice A12 b.hs.length a12)).setCell ⟨g+1,4,none⟩ (.slice A16 b.ds.length a16)):=⟨_,rfl⟩
 rw[←hZ]
 have hzb:Z.heap[g+1]?=some (boxO b.t (.slice A1 b.l.length a1) (.slice A9 b.ks.length a9) (.slice A12 b.hs.length a12) (.slice A16 b.ds.length a16)):=by
  rw[hZ]
  exact(j0d (j0d (j0d (j0d (j0d ((Below.heap_setCell _ ⟨g,4,none⟩ _ (g+1) (by dsimp;omega)).trans ((Below.heap_setCell _ ⟨g,3,none⟩ _ (g+1) (by dsimp;omega)).trans ((Below.heap_setCell _ ⟨g,2,none⟩ _ (g+1) (by dsimp;omega)).trans H4.out.2.1)))))))).trans (by simp[boxO])
 have hfar:∀ j,g+2≤j→Z.heap[j]?=w'.heap[j]?:=fun j hj=>by
  rw[hZ,Below.heap_setCell _ ⟨g+1,4,none⟩ _ j (by dsimp;omega),Below.heap_setCell _ ⟨g+1,3,none⟩ _ j (by dsimp;omega),Below.heap_setCell _ ⟨g+1,2,none⟩ _ j (by dsimp;omega),Below.heap_setCell _ ⟨g+1,1,none⟩ _ j (by dsimp;omega),Below.heap_setCell _ ⟨g+1,0,none⟩ _ j (by dsimp;omega),Below.heap_setCell _ ⟨g,4,none⟩ _ j (by dsimp;omega),Below.heap_setCell _ ⟨g,3,none⟩ _ j (by dsimp;omega),Below.heap_setCell _ ⟨g,2,none⟩ _ j (by dsimp;omega)]
 have hgw:=HV.out.2.2.2.2.2
 have hBz:Below w.heap.size w Z:=by
  have h1:=H3.out.2.2.1.trans (H4.out.2.2.1.mono H3.out.2.2.1.size)
  rw[hZ]
  exact Below.setCell (Below.setCell (Below.setCell (Below.setCell (Below.setCell (Below.setCell (Below.setCell (Below.setCell h1 (p:=⟨g,2,none⟩) (by dsimp;omega) _) (p:=⟨g,3,none⟩) (by dsimp;omega) _) (p:=⟨g,4,none⟩) (by dsimp;omega) _) (p:=⟨g+1,0,none⟩) (by dsimp;omega) _) (p:=⟨g+1,1,none⟩) (by dsimp;omega) _) (p:=⟨g+1,2,none⟩) (by dsimp;omega) _) (p:=⟨g+1,3,none⟩) (by dsimp;omega) _) (p:=⟨g+1,4,none⟩) (by dsimp;omega) _
 have h1:=H4.out.2.2.2
 have hHO:HbO Z w.heap.size ⟨b.t,A1,a1,b.l,A9,a9,b.ks,A12,a12,b.hs,A16,a16,b.ds⟩ :=
  ⟨(h1.1.upon hfar).mono (by omega),(h1.2.1.upon hfar).mono (by omega),(h1.2.2.1.upon hfar).mono (by omega),(h1.2.2.2.upon hfar).mono (by omega)⟩
 obtain⟨p0,p1,p2,p3,p4⟩:=blk5 hzb
 have HZF:=zQ9 (zA9 hHO hBz)
 have hgz:=j0a hzb
 clear hZ hzb hfar hgw hBz h1 hHO c0 c1 c2 c3 c4 d0 d1 d2 d3 d4 q2 q3 q4 e0 e1 e2 e3 e4
 refine bodyPost_ret (v:=Hb.v ⟨b.t,A1,a1,b.l,A9,a9,b.ks,A12,a12,b.hs,A16,a16,b.ds⟩) (by unfold Hb.v;simp[results,Tryz.f11,go_sem,p0,p1,p2,p3,p4,hgz]) rfl ⟨⟨_,_,_,_,_,_,_,_,rfl,HZF.out.1⟩,HZF.out.2⟩
theorem j4p {α:Type} [DecidableEq α] (l:List α):j1h l l=true:=by simp[j1h]
def SH9 (V:World) (a b:Hb) (p:Nat) (w:World):Prop:=w.heap[p]?=some a.obj∧w.heap[p+1]?=some b.obj∧HbIn w a∧HbIn w b∧Below V.heap.size V w
theorem SH9.step {V w w':World} {a b:Hb} {p:Nat} (h:SH9 V a b p w) (hb:Below w.heap.size w w'):SH9 V a b p w':=⟨j0e h.1 hb (zL9 _),j0e h.2.1 hb (zL9 _),h.2.2.1.below hb (zL9 _),h.2.2.2.1.below hb (zL9 _),h.2.2.2.2.trans (hb.mono h.2.2.2.2.size)⟩
theorem SH9.start {w:World} {a b:Hb} (h:HbIn w a) (k:HbIn w b):SH9 w a b w.heap.size ((w.alloc a.obj).alloc b.obj) :=
 ⟨j0b (j0c rfl) _,j0c (by simp),h.below (bal (bal0 _ _) (zL9 _) _) (zL9 _),k.below (bal (bal0 _ _) (zL9 _) _) (zL9 _),bal (bal0 _ _) (zL9 _) _⟩
theorem k7j (a b:Hb) (w:World) (ha:HbIn w a) (hb:HbIn w b) (ht:a.t=b.t) (hl:a.l=b.l) (hk:a.ks=b.ks) (hh:a.hs=b.hs) (hd:a.ds=b.ds) :
 Calls Tryz.prog 19 #[a.v,b.v] w fun e w'=>e=.returned (.bool true)∧Below w.heap.size w w':=by
 obtain⟨V,hV⟩:∃ V,V=(w.alloc a.obj).alloc b.obj:=⟨_,rfl⟩
 obtain⟨p,hp⟩:∃ p,p=w.heap.size:=⟨_,rfl⟩
 have HB:=zQ9 (show SH9 w a b p V by rw[hV,hp];exact SH9.start ha hb)
 obtain⟨t,A,c,l,Ak,ck,ks,Ah,ch,hs,Ad,cd,ds⟩:=a
 obtain⟨t2,A2,c2,l2,Ak2,ck2,ks2,Ah2,ch2,hs2,Ad2,cd2,ds2⟩:=b
 dsimp only at ht hl hk hh hd
 subst ht hl hk hh hd
 have hnm:l.length≤maxLen:=Nat.le_trans ha.mc ha.mm
 have hkm:ks.length≤maxLen:=Nat.le_trans ha.kc ha.km
 have hhm:hs.length≤maxLen:=Nat.le_trans ha.hc ha.hm
 have hdm:ds.length≤maxLen:=Nat.le_trans ha.dc ha.dm
 have hdc1:=ha.dc
 have hdm1:=ha.dm
 have hdc2:=hb.dc
 have hdm2:=hb.dm
 have sR:∀ W,SH9 w ⟨t,A,c,l,Ak,ck,ks,Ah,ch,hs,Ad,cd,ds⟩ ⟨t,A2,c2,l,Ak2,ck2,ks,Ah2,ch2,hs,Ad2,cd2,ds⟩ p W→Calls Tryz.prog 68 #[.agg #[.int .i64 t,.slice A l.length c],.agg #[.int .i64 t,.slice A2 l.length c2]] W fun e w'=>e=.returned (.bool true)∧Below W.heap.size W w':=fun W h=>by
  have:=k2f t t A l.length c l A2 l.length c2 l W h.2.2.1.m h.2.2.2.1.m hnm hnm
  rwa [j4p,show(decide (t=t)&&true)=true by simp] at this
 have sK:∀ W,SH9 w ⟨t,A,c,l,Ak,ck,ks,Ah,ch,hs,Ad,cd,ds⟩ ⟨t,A2,c2,l,Ak2,ck2,ks,Ah2,ch2,hs,Ad2,cd2,ds⟩ p W→Calls Tryz.prog 48 #[.slice Ak ks.length ck,.slice Ak2 ks.length ck2] W fun e w'=>e=.returned (.bool true)∧Below W.heap.size W w':=fun W h=>by
  have:=j8j Ak ks.length ck ks Ak2 ks.length ck2 ks W h.2.2.1.k h.2.2.2.1.k hkm hkm
  rwa [j4p] at this
 have sG:∀ W,SH9 w ⟨t,A,c,l,Ak,ck,ks,Ah,ch,hs,Ad,cd,ds⟩ ⟨t,A2,c2,l,Ak2,ck2,ks,Ah2,ch2,hs,Ad2,cd2,ds⟩ p W→Calls Tryz.prog 69 #[.slice Ah hs.length ch,.slice Ah2 hs.length ch2] W fun e w'=>e=.returned (.bool true)∧Below W.heap.size W w':=fun W h=>by
  have:=k7i Ah hs.length ch hs Ah2 hs.length ch2 hs W h.2.2.1.h h.2.2.2.1.h hhm hhm
  rwa [j4p] at this
 obtain⟨c0,c1,c2',c3,c4⟩:=j0h HB.out.1
 obtain⟨d0,d1,d2,d3,d4⟩:=j0h HB.out.2.1
 have hlp:=j0a HB.out.1
 have hlq:=j0a HB.out.2.1
 unfold maxLen at hnm hkm hhm hdm
 unfold Hb.v
 clear ha hb
 go_enter Tryz.func19,Tryz.ntmps19
 go_upto_region 1 with (fail)
 rw[show(w.alloc (Obj.cells #[Value.int .i64 t,.slice A l.length c,.slice Ak ks.length ck,.slice Ah hs.length ch,.slice Ad ds.length cd] 29)).alloc (Obj.cells #[Value.int .i64 t,.slice A2 l.length c2,.slice Ak2 ks.length ck2,.slice Ah2 hs.length ch2,.slice Ad2 ds.length cd2] 29)=V from hV.symm,←hp]
 clear hV hp
 have e1:((ds.length:Int)==(ds.length:Int))=true:=by simp
 go_upto_region 4 with (first
  | (go_at_call 68;(with_reducible refine(sR _ HB.out).mono ?_);rintro e wn ⟨rfl,hbn⟩;replace HB:=zQ9 (HB.out.step hbn);clear hbn c0 c1 c2' c3 c4 d0 d1 d2 d3 d4 hlp hlq;obtain⟨c0,c1,c2',c3,c4⟩:=j0h HB.out.1;obtain⟨d0,d1,d2,d3,d4⟩:=j0h HB.out.2.1;have hlp:=j0a HB.out.1;have hlq:=j0a HB.out.2.1)
  | (go_at_call 48;(with_reducible refine(sK _ HB.out).mono ?_);rintro e wn ⟨rfl,hbn⟩;replace HB:=zQ9 (HB.out.step hbn);clear hbn c0 c1 c2' c3 c4 d0 d1 d2 d3 d4 hlp hlq;obtain⟨c0,c1,c2',c3,c4⟩:=j0h HB.out.1;obtain⟨d0,d1,d2,d3,d4⟩:=j0h HB.out.2.1;have hlp:=j0a HB.out.1;have hlq:=j0a HB.out.2.1)
  | (go_at_call 69;(with_reducible refine(sG _ HB.out).mono ?_);rintro e wn ⟨rfl,hbn⟩;replace HB:=zQ9 (HB.out.step hbn);clear hbn c0 c1 c2' c3 c4 d0 d1 d2 d3 d4 hlp hlq;obtain⟨c0,c1,c2',c3,c4⟩:=j0h HB.out.1;obtain⟨d0,d1,d2,d3,d4⟩:=j0h HB.out.2.1;have hlp:=j0a HB.out.1;have hlq:=j0a HB.out.2.1))
 clear e1 sR sK sG
 go_loopg [5] ds.length (fun gh v5 wr=>∃ k:Nat,k+gh=ds.length∧v5=.int .i64 k∧SH9 w ⟨t,A,c,l,Ak,ck,ks,Ah,ch,hs,Ad,cd,ds⟩ ⟨t,A2,c2,l,Ak2,ck2,ks,Ah2,ch2,hs,Ad2,cd2,ds⟩ p wr)
 case atStart=>exact⟨0,by omega,rfl,HB.out⟩
 case round =>
  obtain⟨k,hk,rfl,hB⟩:=hrel
  obtain⟨w2,hw2⟩:∃ W:World,W=wr:=⟨_,rfl⟩
  rw[←hw2] at hB ⊢
  clear hw2 c0 c1 c2' c3 c4 d0 d1 d2 d3 d4 hlp hlq
  obtain⟨c0,c1,c2',c3,c4⟩:=j0h hB.1
  obtain⟨d0,d1,d2,d3,d4⟩:=j0h hB.2.1
  have hlp:=j0a hB.1
  have hlq:=j0a hB.2.1
  by_cases hlt:k<ds.length
  ·obtain⟨b1,o1,x,eA,hb1,hx,x0,x1,x2,x3,x4,x5,x6,x7,x8,x9,x10,x11⟩:=hB.2.2.1.d.get hlt
   obtain⟨b2,o2,y,eB,hb2,hy,y0,y1,y2,y3,y4,y5,y6,y7,y8,y9,y10,y11⟩:=hB.2.2.2.1.d.get hlt
   dsimp only at eA eB hx hy
   rw[hx] at hy
   cases hy
   subst eA eB
   have i1:(k:Int)<(ds.length:Int):=by omega
   have HK:=zQ9 (zA9 hk hB)
   clear hk hB hx
   go_upto_region 6 with (fail)
   go_quiet (fail)
   go_wp2_with fail
   go_roundg (gk-1)
   case measure=>have:=HK.out.1;omega
   case rel=>exact⟨k+1,by have:=HK.out.1;omega,by go_num,HK.out.2.step (j0l (Below.refl _ _) nq)⟩
  ·obtain rfl:k=ds.length:=by omega
   have HK:=zQ9 hB
   clear hB hk
   go_wp2_with fail
   go_ret
   exact⟨rfl,HK.out.2.2.2.2⟩
theorem app_book {b:Hb} {d:De} {base q gd cd:Nat} {w5 w6 w7:World} (h5:w5.heap[q]?=some b.obj) (hO:HbO w5 base b) (hq:base≤q) (hod:OwnD w6 base (.slice (some ⟨gd,0,none⟩) (b.ds.length+1) cd) (b.ds++[d])) (hgd:w5.grownBy w6 b.vd.ownBlock) (hb6:Below base w5 w6)
 (h7:w7=w6.setCell ⟨q,4,none⟩ (.slice (some ⟨gd,0,none⟩) (b.ds.length+1) cd)) :
 w7.heap[q]?=some (Hb.obj ⟨b.t,b.A,b.c,b.l,b.Ak,b.ck,b.ks,b.Ah,b.ch,b.hs,some ⟨gd,0,none⟩,cd,b.ds++[d]⟩)∧HbO w7 base ⟨b.t,b.A,b.c,b.l,b.Ak,b.ck,b.ks,b.Ah,b.ch,b.hs,some ⟨gd,0,none⟩,cd,b.ds++[d]⟩∧Below base w5 w7:=by
 have hlq:=j0a h5
 have hqo:b.vd.ownBlock≠some q:=hO.d.ne' h5 (by decide)
 have q6:w6.heap[q]?=some b.obj:=(hgd.block q hlq (fun e=>hqo e.symm)).trans h5
 have q7:w7.heap[q]?=some (Hb.obj ⟨b.t,b.A,b.c,b.l,b.Ak,b.ck,b.ks,b.Ah,b.ch,b.hs,some ⟨gd,0,none⟩,cd,b.ds++[d]⟩):=by
  rw[h7]
  refine(j0d q6).trans ?_
  simp
 have hg7:w6.grownBy w7 (some q):=by rw[h7];exact⟨rfl,rfl,rfl,by simp,fun j _ hne=>Below.heap_setCell _ ⟨q,4,none⟩ _ j (fun e=>hne (by rw[e]))⟩
 refine⟨q7,⟨?_,?_,?_,?_⟩,by rw[h7];exact Below.setCell hb6 (p:=⟨q,4,none⟩) hq _⟩
 ·have h:=hO.m.kept hgd (j1g hO.m hO.d (by decide))
  exact h.kept hg7 (.inr (h.ne' q6 (by decide)))
 ·have h:=hO.k.kept hgd (j1g hO.k hO.d (by decide))
  exact h.kept hg7 (.inr (h.ne' q6 (by decide)))
 ·obtain⟨mv,h1,h2⟩:=hO.h
  have h:OwnG w6 base b.vh b.hs :=
   ⟨mv,h1.kept hgd (j1g h1 hO.d (by decide)),Rws.kept h2 hgd (fun x hx=>by
    obtain⟨k,hk⟩:=List.getElem?_of_mem hx
    obtain⟨l,_,ho⟩:=h2.2 k x hk
    exact j1g ho hO.d (by decide))⟩
  exact h.keptB hg7 q6
 ·have h':=hod.kept hg7 (.inr (hod.ne' q6 (by decide)))
  unfold Hb.vd
  rw[List.length_append,List.length_singleton]
  exact h'
theorem HbO.keptH {w w':World} {base H:Nat} {b:Hb} (h:HbO w base b) (hg:w.grownBy w' (some H)) (hH:H<base):HbO w' base b:=⟨Own.keptH h.m hg hH,Own.keptH h.k hg hH,OwnG.keptH h.h hg hH,Own.keptH h.d hg hH⟩
abbrev bs3 (a b c:Hb):Obj:=.cells #[.int .i64 a.t,a.vm,a.vk,a.vh,a.vd,.int .i64 b.t,b.vm,b.vk,b.vh,b.vd,.int .i64 c.t,c.vm,c.vk,c.vh,c.vd] 29 (0,0)
theorem bs3_at {w:World} {r:Nat} {a b c:Hb} (h:w.heap[r]?=some (bs3 a b c)) {i:Nat} (hi:i<3):∃ X,[a,b,c][i]?=some X∧∀ W,Below w.heap.size w W→W.cell? ⟨r,0+i*5,none⟩=some (.int .i64 X.t)∧W.cell? ⟨r,0+i*5+1,none⟩=some X.vm∧W.cell? ⟨r,0+i*5+2,none⟩=some X.vk∧W.cell? ⟨r,0+i*5+3,none⟩=some X.vh∧W.cell? ⟨r,0+i*5+4,none⟩=some X.vd:=by
 match i,hi with
 | 0,_=>exact⟨a,rfl,fun W hW=>by have h:=j0e h hW (zL9 _);simp[World.cell?,h]⟩
 | 1,_=>exact⟨b,rfl,fun W hW=>by have h:=j0e h hW (zL9 _);simp[World.cell?,h]⟩
 | 2,_=>exact⟨c,rfl,fun W hW=>by have h:=j0e h hW (zL9 _);simp[World.cell?,h]⟩
theorem os3_at {w:World} {s:Nat} {a b c:Int} (h:w.heap[s]?=some (.cells #[.int .i64 a,.int .i64 b,.int .i64 c] 3 (0,0))) {i:Nat} (hi:i<3):∃ x,[a,b,c][i]?=some x∧∀ W,Below w.heap.size w W→W.cell? ⟨s,0+i,none⟩=some (.int .i64 x):=by
 match i,hi with
 | 0,_=>exact⟨a,rfl,fun W hW=>by have h:=j0e h hW (zL9 _);simp[World.cell?,h]⟩
 | 1,_=>exact⟨b,rfl,fun W hW=>by have h:=j0e h hW (zL9 _);simp[World.cell?,h]⟩
 | 2,_=>exact⟨c,rfl,fun W hW=>by have h:=j0e h hW (zL9 _);simp[World.cell?,h]⟩
def j8m (n:Nat):Nat→List (List Int)
 | 0=>[[]]
 | m+1=>(List.range n).flatMap fun(i:Nat)=>(j8m n m).map fun r=>(i:Int)::r
theorem j7p {n:Nat}:∀ {m:Nat} {r:List Int},r∈j8m n m→r.length=m∧∀ x∈r,0≤x∧x<n
 | 0,r,h=>by simp[j8m] at h;subst h;simp
 | m+1,r,h=>by
   obtain⟨i,hi,h2⟩:=List.mem_flatMap.1 h
   obtain⟨q,hq,rfl⟩:=List.mem_map.1 h2
   obtain⟨h3,h4⟩:=j7p hq
   refine⟨by simp[h3],fun x hx=>?_⟩
   rcases List.mem_cons.1 hx with rfl|hx
   ·have:=List.mem_range.1 hi;omega
   ·exact h4 x hx
end Go.Proofs.YtmennjmjakdkcaaGreat
