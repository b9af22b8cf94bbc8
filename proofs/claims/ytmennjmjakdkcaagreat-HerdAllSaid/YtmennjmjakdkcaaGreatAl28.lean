/- HerdAll 28: HdOf, TruM. -/
import Derived.Test.YtmennjmjakdkcaaGreatAl27
import Derived.Test.YtmennjmjakdkcaaGreatAl09
import Derived.Deep.RegionHeld3
import Derived.Test.YtmennjmjakdkcaaGreatAl05
import Derived.Test.YtmennjmjakdkcaaGreatAl06
namespace Go.Proofs.YtmennjmjakdkcaaGreat
open Go.RowKit
set_option linter.unusedVariables false
set_option linter.unusedSimpArgs false
theorem flat_set {α:Type} {enc:α→List Value} {sz j:Nat} {x y:α} {u:Value} (hsz:∀ x,(enc x).length = sz) (hj:j < sz) (hy:enc y = (enc x).set j u):∀ (l:List α) (k:Nat),l[k]? = some x→(l.set k y).flatMap enc = (l.flatMap enc).set (k * sz + j) u
 | [],k,h => by simp at h
 | a :: r,0,h => by
   simp at h
   subst h
   rw [List.set_cons_zero,List.flatMap_cons,List.flatMap_cons,hy,Nat.zero_mul,Nat.zero_add,List.set_append_left _ _ (by rw [hsz];exact hj)]
 | a :: r,k + 1,h => by
   rw [List.set_cons_succ,List.flatMap_cons,List.flatMap_cons,flat_set hsz hj hy r k (by simpa using h),List.set_append_right _ _ (by rw [hsz,Nat.succ_mul];omega),hsz,show (k + 1) * sz + j - sz = k * sz + j by rw [Nat.succ_mul];omega]
theorem flatGet {α:Type} {enc:α→List Value} {sz j:Nat} {x:α} {u:Value} (hsz:∀ x,(enc x).length = sz) (hj:j < sz) (hu:(enc x)[j]? = some u):∀ (l:List α) (k:Nat),l[k]? = some x→(l.flatMap enc)[k * sz + j]? = some u
 | [],k,h => by simp at h
 | a :: r,0,h => by
   simp at h
   subst h
   rw [List.flatMap_cons,Nat.zero_mul,Nat.zero_add,List.getElem?_append_left (by rw [hsz];exact hj)]
   exact hu
 | a :: r,k + 1,h => by
   rw [List.flatMap_cons,List.getElem?_append_right (by rw [hsz,Nat.succ_mul];omega),hsz,show (k + 1) * sz + j - sz = k * sz + j by rw [Nat.succ_mul];omega]
   exact flatGet hsz hj hu r k (by simpa using h)
theorem Own.putC {α:Type} {enc:α→List Value} {e:TypeId} {sz base n c:Nat} {A:Option Addr} {w:World} {l:List α} (hsz:∀ x,(enc x).length = sz) (h:Own enc e sz w base (.slice A n c) l) {k:Nat} {x:α} (hk:l[k]? = some x) :
 ∃ g,A = some ⟨g,0,none⟩∧base ≤ g∧g < w.heap.size∧n = l.length∧n ≤ c∧c ≤ maxLen∧(∃ cs,w.heap[g]? = some (Obj.cells cs e (0,0)))∧(∀ j u,(enc x)[j]? = some u→w.cell? ⟨g,k * sz + j,none⟩ = some u)∧(∀ o,w.frozen? ⟨g,o,none⟩ = false) ∧
  ∀ (j:Nat) (u:Value) (y:α),j < sz→enc y = (enc x).set j u→Own enc e sz (w.setCell ⟨g,k * sz + j,none⟩ u) base (.slice A n c) (l.set k y):=by
 have hkl:k < l.length:=(List.getElem?_eq_some_iff.1 hk).1
 rcases h.2 with ⟨hv,h0⟩ | ⟨g,cap,cur,hv,hg,hh,hnc,hcm,hs,htk⟩
 ·omega
 ·cases hv
  have hfl:=flat_len hsz l
  have hlt:∀ j,j < sz→k * sz + j < l.length * sz:=fun j hj => by
   have:(k + 1) * sz ≤ l.length * sz:=Nat.mul_le_mul_right _ (by omega)
   rw [Nat.succ_mul] at this
   omega
  refine ⟨g,rfl,hg,heap_lt hh,rfl,hnc,hcm,⟨_,hh⟩,fun j u hu => ?_,fun o => frz hh o,fun j u y hj hy => ⟨by rw [flat_len hsz,List.length_set],.inr ⟨g,c,cur.setIfInBounds (k * sz + j) u,by rw [List.length_set],hg,set_blk hh,by rw [List.length_set];exact hnc,hcm,by simpa using hs,?_⟩⟩⟩
  ·have hj:j < sz:=by have:=(List.getElem?_eq_some_iff.1 hu).1;rw [hsz] at this;exact this
   have hm:=flatGet hsz hj hu l k hk
   rw [← htk,List.getElem?_take_of_lt (hlt j hj),Array.getElem?_toList] at hm
   unfold World.cell?
   simp [hh,hm]
  ·rw [Array.toList_setIfInBounds,List.take_set,List.length_set,htk,flat_set hsz hj hy l k hk]
structure HbO (w:World) (base:Nat) (b:Hb):Prop where
 m:OwnM w base b.vm b.l
 k:OwnI w base b.vk b.ks
 h:OwnG w base b.vh b.hs
 d:OwnD w base b.vd b.ds
section
variable {w w':World} {base B:Nat} {b:Hb}
theorem HbO.below (h:HbO w base b) (hb:Below B w w') (hB:w.heap.size ≤ B):HbO w' base b:=⟨h.m.below hb hB,h.k.below hb hB,h.h.below hb hB,h.d.below hb hB⟩
theorem HbO.mono {c:Nat} (h:HbO w base b) (hc:c ≤ base):HbO w c b:=⟨h.m.mono hc,h.k.mono hc,h.h.mono hc,h.d.mono hc⟩
theorem HbO.inn (h:HbO w base b):HbIn w b:=by
 obtain ⟨A1,c1,e1,m1,m2,m3⟩:=h.m.form lenMk
 obtain ⟨A2,c2,e2,k1,k2,k3⟩:=h.k.form lenInt
 obtain ⟨A3,c3,e3,h1,h2,h3⟩:=h.h.form
 obtain ⟨A4,c4,e4,d1,d2,d3⟩:=h.d.form lenDe
 injection e1 with a1 _ b1
 injection e2 with a2 _ b2
 injection e3 with a3 _ b3
 injection e4 with a4 _ b4
 subst a1 b1 a2 b2 a3 b3 a4 b4
 exact ⟨m1,m2,m3,k1,k2,k3,h1,h2,h3,d1,d2,d3⟩
theorem OwnG.keptH {v:Value} {ls:List (List Int)} {H:Nat} (h:OwnG w base v ls) (hg:w.grownBy w' (some H)) (hH:H < base):OwnG w' base v ls:=by
 obtain ⟨mv,h1,h2⟩:=h
 exact ⟨mv,h1.kept hg (.inr (fun e => by have:=(h1.lt _ e).1;omega)),Rws.kept h2 hg (fun x hx => .inr (fun e => by have:=(Rws.ltv h2 hx _ e).1;omega))⟩
theorem Own.keptH {α:Type} {enc:α→List Value} {e:TypeId} {sz H:Nat} {v:Value} {l:List α} (h:Own enc e sz w base v l) (hg:w.grownBy w' (some H)) (hH:H < base):Own enc e sz w' base v l :=
 h.kept hg (.inr (fun e => by have:=(h.lt _ e).1;omega))
theorem HbO.dealt {H N:Nat} (h:HbO w base b) (hd:Dealt w w' H N) (hH:H < base):HbO w' base b:=⟨h.m.keptH hd.gr hH,h.k.keptH hd.gr hH,h.h.keptH hd.gr hH,h.d.keptH hd.gr hH⟩
end
def HerdR (w:World) (H N n nf nd:Nat) (e:Ending) (w':World):Prop :=
 ∃ b:Hb,e = .returned b.v∧b.chk = 0∧(b.l.length ≤ n ∨ b.l.length = 1)∧(b.ks.length ≤ nf ∨ b.ks.length = 1)∧b.ds.length ≤ nd∧HbO w' w.heap.size b∧Dealt w w' H N
theorem deedE_inv {n nf:Nat} {d:De} (h:deedE n nf d = 0):(1 ≤ d.kind∧d.kind ≤ 6)∧(0 ≤ d.flock∧d.flock < nf)∧fldE n nf d = 0∧d = namD d:=by
 unfold deedE at h
 obtain ⟨h1,h⟩:=ite0 (by decide) h
 obtain ⟨h2,h⟩:=ite0 (by decide) h
 split at h
 ·exact absurd h (by assumption)
 rename_i h3
 obtain ⟨h4,-⟩:=ite0 (by decide) h
 exact ⟨btw_iff.1 ((Bool.not_eq_false _).mp h1),ownB_iff.1 ((Bool.not_eq_false _).mp h2),Classical.not_not.1 h3,Classical.not_not.1 h4⟩
theorem deedE_many {n nf:Nat} {d:De} {x:Int} (h:deedE n nf d = 0) (h5:d.kind ≠ 5) (hx:1 ≤ x∧x ≤ 3):deedE n nf { d with many:=x } = 0:=by
 obtain ⟨h1,h2,h3,h4⟩:=deedE_inv h
 obtain ⟨kind,flock,owner,other,tof,many,err,s⟩:=d
 dsimp only at *
 refine deedE_ok h1 h2 ?_ ?_
 ·unfold fldE at h3 ⊢
  dsimp only at h3 ⊢
  obtain e | e | e | e | e:kind = 1 ∨ kind = 2 ∨ kind = 3 ∨ kind = 4 ∨ kind = 6:=by omega
  all_goals subst e
  ·rw [if_pos (by decide)] at h3 ⊢
   obtain ⟨a1,h3⟩:=ite0 (by decide) h3
   rw [if_neg a1,if_neg (by rw [btw_iff.2 ⟨hx.1,by omega⟩];decide)]
  ·rw [if_neg (by decide),if_pos (by decide)] at h3 ⊢
   obtain ⟨a1,h3⟩:=ite0 (by decide) h3
   obtain ⟨a2,h3⟩:=ite0 (by decide) h3
   rw [if_neg a1,if_neg a2,if_neg (by rw [btw_iff.2 ⟨hx.1,by omega⟩];decide)]
  ·rw [if_pos (by decide)] at h3 ⊢
   obtain ⟨a1,h3⟩:=ite0 (by decide) h3
   rw [if_neg a1,if_neg (by rw [btw_iff.2 ⟨hx.1,by omega⟩];decide)]
  ·rw [if_neg (by decide),if_neg (by decide),if_pos (by decide)]
   rw [if_neg (by rw [btw_iff.2 ⟨hx.1,by omega⟩];decide)]
  ·rw [if_neg (by decide),if_neg (by decide),if_neg (by decide),if_neg (by decide)] at h3 ⊢
   obtain ⟨a1,-⟩:=ite0 (by decide) h3
   rw [if_neg (fun h => h.elim (fun h => by rw [btw_iff.2 ⟨by omega,by omega⟩] at h;cases h) fun h => a1 (.inr h))]
 ·unfold namD at h4 ⊢
  dsimp only at h4 ⊢
  obtain e | e | e | e | e:kind = 1 ∨ kind = 2 ∨ kind = 3 ∨ kind = 4 ∨ kind = 6:=by omega
  all_goals subst e;simp at h4 ⊢;simp [h4]
structure HoS (w:World) (H g B nD:Nat) (b:Hb) (M:Nat) (ds:List De) (wr:World):Prop where
 dl:ds.length = nD
 de:∀ d ∈ ds,deedE b.l.length b.ks.length d = 0
 m:OwnM wr (g + 1) b.vm b.l
 k:OwnI wr (g + 1) b.vk b.ks
 h:OwnG wr (g + 1) b.vh b.hs
 d:OwnD wr (g + 1) (.slice b.Ad nD b.cd) ds
 bx:wr.heap[B]? = some (boxO b.t b.vm b.vk b.vh (.slice b.Ad nD b.cd))
 bg:wr.heap[g]? = some (boxO 0 (.slice none 0 0) (.slice none 0 0) (.slice none 0 0) (.slice none 0 0))
 dt:Dealt w wr H M
 z:H < g∧g < B∧w.heap.size ≤ g
section
variable {w wr w':World} {H g B nD M M':Nat} {b:Hb} {ds:List De}
theorem HoS.dealt (a:HoS w H g B nD b M ds wr) (hd:Dealt wr w' H M'):HoS w H g B nD b M' ds w':=by
 have hz:=a.z
 exact ⟨a.dl,a.de,a.m.keptH hd.gr (by omega),a.k.keptH hd.gr (by omega),a.h.keptH hd.gr (by omega),a.d.keptH hd.gr (by omega),hd.blk a.bx (by omega),hd.blk a.bg (by omega),a.dt.trans hd,a.z⟩
theorem HoS.mono (a:HoS w H g B nD b M ds wr) (h:M ≤ M'):HoS w H g B nD b M' ds wr:=⟨a.dl,a.de,a.m,a.k,a.h,a.d,a.bx,a.bg,a.dt.mono h,a.z⟩
theorem HoS.at (a:HoS w H g B nD b M ds wr) {k:Nat} (hk:k < nD):∃ gd d,b.Ad = some ⟨gd,0,none⟩∧ds[k]? = some d∧nD ≤ b.cd∧b.cd ≤ maxLen∧wr.cell? ⟨gd,k * 12,none⟩ = some (.int .i64 d.kind)∧wr.cell? ⟨gd,k * 12 + 5,none⟩ = some (.int .i64 d.many)∧wr.frozen? ⟨gd,k * 12 + 5,none⟩ = false ∧
 gd < wr.heap.size∧gd ≠ H∧gd ≠ B∧∀ x,d.kind ≠ 5→1 ≤ x→x ≤ 3→HoS w H g B nD b M (ds.set k { d with many:=x }) (wr.setCell ⟨gd,k * 12 + 5,none⟩ (.int .i64 x)):=by
 have hz:=a.z
 obtain ⟨d,hd⟩:∃ d,ds[k]? = some d:=⟨_,List.getElem?_eq_getElem (by rw [a.dl];exact hk)⟩
 obtain ⟨gd,e,h1,h2,h3,h4,h5,⟨cs,hb⟩,h6,h7,h8⟩:=a.d.putC lenDe hd
 have hgB:gd ≠ B:=fun e => by subst e;have:=a.bx;rw [hb] at this;cases this
 have hgg:gd ≠ g:=by omega
 refine ⟨gd,d,e,hd,h4,h5,h6 0 _ rfl,h6 5 _ rfl,h7 _,h2,by omega,hgB,fun x hk5 hx1 hx2 => ?_⟩
 have hgr:=grownBy_cell wr gd (k * 12 + 5) (.int .i64 x)
 have hvd:(Value.slice b.Ad nD b.cd).ownBlock = some gd:=by rw [e];rfl
 have key:∀ {α:Type} {enc:α→List Value} {e:TypeId} {sz:Nat} {v:Value} {l:List α},Own enc e sz wr (g + 1) v l→e ≠ 33→Own enc e sz (wr.setCell ⟨gd,k * 12 + 5,none⟩ (.int .i64 x)) (g + 1) v l:=fun ho he => ho.kept hgr (.inr (ho.ne' hb he))
 obtain ⟨mv,g1,g2⟩:=a.h
 refine ⟨by rw [List.length_set];exact a.dl,fun d' hd' => ?_,key a.m (by decide),key a.k (by decide),⟨mv,key g1 (by decide),Rws.kept g2 hgr (fun y hy => .inr (Rws.ne g2 hy hb (by decide)))⟩,h8 5 (.int .i64 x) { d with many:=x } (by decide) rfl,(hgr.block B (heap_lt a.bx) (fun e => hgB (by simpa using e.symm))).trans a.bx,(hgr.block g (heap_lt a.bg) (fun e => hgg (by simpa using e.symm))).trans a.bg,a.dt.set (by show H < gd;omega) (by show w.heap.size ≤ gd;omega) _,a.z⟩
 rcases List.mem_or_eq_of_mem_set hd' with h | rfl
 ·exact a.de _ h
 ·exact deedE_many (a.de _ (List.mem_of_getElem? hd)) hk5 ⟨hx1,hx2⟩
end
theorem HbO.ofS {w wr:World} {H g B nD M:Nat} {b:Hb} {ds:List De} (a:HoS w H g B nD b M ds wr) (hc:b.chk = 0) (hl:b.ds.length = nD):HbO wr w.heap.size { b with ds:=ds }∧({ b with ds:=ds }:Hb).chk = 0:=by
 have hz:=a.z
 obtain ⟨a1,a2⟩:True∧nD = ds.length:=⟨trivial,a.dl.symm⟩
 subst a2
 refine ⟨⟨a.m.mono (by omega),a.k.mono (by omega),a.h.mono (by omega),a.d.mono (by omega)⟩,?_⟩
 have h:=checkH_ok hc
 exact bookChk h.ck h.f0 h.f3 h.kk h.hl (fun r hr => ⟨h.rl r hr,h.rb r hr⟩) (show ds.length ≤ 6 by have:=h.d6;omega) a.de
set_option maxRecDepth 100000 in
set_option maxHeartbeats 2000000 in
theorem herdOf_any (H N n nf nd:Nat) (w:World) (h:Hd w H N) (hN:N ≤ 4611686018000000000) (hn:n ≤ 5) (hnf:nf ≤ 3) (hnd:nd ≤ 6) :
 Calls Tryz.prog 10 #[.pointer (some ⟨H,0,none⟩),.int .i64 n,.int .i64 nf,.int .i64 nd] w (HerdR w H (N + 200000) n nf nd):=by
 have hHl:=h.lt
 obtain ⟨g,hg⟩:∃ g,g = w.heap.size:=⟨_,rfl⟩
 obtain ⟨V,hV⟩:∃ V,V = w.alloc (boxO 0 (.slice none 0 0) (.slice none 0 0) (.slice none 0 0) (.slice none 0 0)):=⟨_,rfl⟩
 have hDV:Dealt w V H N:=by rw [hV];exact (Dealt.refl h).alloc _
 have b0:V.heap[g]? = some (boxO 0 (.slice none 0 0) (.slice none 0 0) (.slice none 0 0) (.slice none 0 0)):=by rw [hV,hg];exact alloc_at rfl
 have hzV:V.heap.size = g + 1:=by rw [hV,hg];simp
 have HV:=Lib.hid (And.intro hDV (And.intro b0 (And.intro hzV hg)))
 have htl:=taleOf_any H N n nf nd V hDV.hd hN hn hnf hnd
 unfold boxO at hV
 go_enter Tryz.func10,Tryz.ntmps10
 go_upto_region 1 with (fail)
 rw [← hV]
 rw [← hg]
 clear hV hDV b0 hzV hg h
 go_upto_region 2 with (go_at_call 20;refine htl.mono ?_;rintro e w1 ⟨b,vE,vG,vW,gs,gone,whose,rfl,hck,hln,hkn,hdn,hm,hk,hh,hd,hE,hG,hW,hsh,hti,hdl⟩;unfold Hb.v)
 obtain ⟨B,hB⟩:∃ B,B = w1.heap.size:=⟨_,rfl⟩
 obtain ⟨w2,hw2⟩:∃ w2,w2 = w1.alloc (Obj.cells #[Value.int .i64 b.t,.slice b.A b.l.length b.c,.slice b.Ak b.ks.length b.ck,.slice b.Ah b.hs.length b.ch,.slice b.Ad b.ds.length b.cd] 29):=⟨_,rfl⟩
 rw [← hw2]
 rw [← hB]
 have hz:=hdl.size
 have hBl:Below w1.heap.size w1 w2:=by rw [hw2];exact bal0 _ _
 obtain ⟨nD,hnD⟩:∃ nD,nD = b.ds.length:=⟨_,rfl⟩
 have hS:HoS w H g B nD b (N + 100000) b.ds w2:=by
  have hz1:V.heap.size = g + 1:=HV.out.2.2.1
  have hck':=checkH_ok hck
  rw [hz1] at hm hk hh hd hz
  refine ⟨hnD.symm,hck'.dE,hm.below hBl (Nat.le_refl _),hk.below hBl (Nat.le_refl _),hh.below hBl (Nat.le_refl _),by rw [hnD];exact hd.below hBl (Nat.le_refl _),by rw [hw2,hB,hnD];exact alloc_at rfl,?_,?_,by have:=HV.out.2.2.2;omega,by omega,by have:=HV.out.2.2.2;omega⟩
  ·exact bheap (hdl.blk HV.out.2.1 (by have:=HV.out.2.2.2;omega)) hBl (Nat.le_refl _)
  ·rw [hw2];exact (HV.out.1.trans hdl).alloc _
 rw [← hnD]
 have HC:=Lib.hid (And.intro hck (And.intro hln (And.intro hkn (And.intro hdn hnD))))
 have hn6:nD ≤ 6:=by omega
 clear htl hck hln hkn hdn hm hk hh hd hE hG hW hsh hti hdl hz hBl hB hw2 hnD
 go_wp2_with fail
 go_loopg [13] nD (fun gg v13 wr => ∃ (k:Nat) (ds:List De),k + gg = nD∧v13 = .int .i64 k∧HoS w H g B nD b (N + 100000 + 2 * k) ds wr)
 case atStart => exact ⟨0,b.ds,by omega,rfl,hS⟩
 case round =>
  obtain ⟨k,ds,hk,rfl,hS⟩:=hrel
  by_cases hlt:k < nD
  ·obtain ⟨M,hM⟩:∃ M,M = N + 100000 + 2 * k:=⟨_,rfl⟩
   rw [← hM] at hS
   have hMN:M ≤ 4611686018000200000:=by omega
   obtain ⟨gd,d,hA,hdk,hc1,hc2,hk0,hk5,hf5,hgz,hgH,hgB,hput⟩:=hS.at hlt
   obtain ⟨x0,x1,x2,x3,x4⟩:=blk5 hS.bx
   rw [hA] at x4
   have hHd:=hS.dt.hd
   have hlt':(k:Int) < (nD:Int):=by omega
   obtain ⟨kd,hkd⟩:∃ kd,kd = d.kind:=⟨_,rfl⟩
   rw [← hkd] at hk0
   have HA:=Lib.hid (And.intro hA hdk)
   have HS:=Lib.hid (And.intro hS (And.intro hput (And.intro hkd (And.intro hk hM))))
   clear hput hkd hS hM hA hdk
   by_cases h5:kd = 5
   ·have e5:(kd != 5) = false:=by simp [h5]
    clear h5
    go_wp2_with fail
    go_roundg (gk - 1)
    case measure => have:=HS.out.2.2.2.1;omega
    case rel => exact ⟨k + 1,ds,by have:=HS.out.2.2.2.1;omega,by go_num,HS.out.1.mono (by have:=HS.out.2.2.2.2;omega)⟩
   ·have e5:(kd != 5) = true:=by simp [h5]
    have H5:=Lib.hid h5
    clear h5
    have hod:=odds_any H M 1 6 wr hHd (by omega) (by omega) (by omega)
    go_upto_if 41 with (go_at_call 49;refine hod.mono ?_;rintro e w2 ⟨o,rfl,hd2⟩)
    have hS2:=HS.out.1.dealt hd2
    obtain ⟨y0,y1,y2,y3,y4⟩:=blk5 hS2.bx
    clear hod
    cases o
    ·go_wp2_with fail
     go_roundg (gk - 1)
     case measure => have:=HS.out.2.2.2.1;omega
     case rel => exact ⟨k + 1,ds,by have:=HS.out.2.2.2.1;omega,by go_num,hS2.mono (by have:=HS.out.2.2.2.2;omega)⟩
    ·obtain ⟨gd',d',hA',hdk',-,-,-,hk5',hf5',hgz',-,-,hput'⟩:=hS2.at hlt
     rw [HA.out.1] at hA'
     cases hA'
     rw [HA.out.2] at hdk'
     cases hdk'
     have y4':w2.drew.cell? ⟨B,4,none⟩ = some (.slice (some ⟨gd,0,none⟩) nD b.cd):=by rw [← HA.out.1];exact y4
     have hc5:w2.drew.cell? ⟨gd,k * 12 + 5,none⟩ = some (.int .i64 d.many):=hk5'
     have hcf:w2.drew.frozen? ⟨gd,k * 12 + 5,none⟩ = false:=hf5'
     have hBH:B ≠ H:=by have:=hS2.z;omega
     have hHd2:=hS2.dt.hd
     have ham:=among_any H (M + 1) 1 3 w2.drew hHd2.drew (by omega) (by omega) (by omega)
     have HP:=Lib.hid hS2
     clear hput' hS2 y0 y1 y2 y3 y4 hHd2 hd2 hk5' hf5'
     go_upto_region 6 with (fail)
     go_region_held3 (fun w' => w'.cell? ⟨B,4,none⟩ = some (.slice (some ⟨gd,0,none⟩) nD b.cd))
      (first
        | (with_reducible exact y4')
        | (with_reducible exact hd3.cell y4' hBH)
        | (exact (World.cell?_of_block (a:=⟨B,4,none⟩) (Below.heap_setCell _ ⟨gd,k * 12 + 5,none⟩ _ _ (show B ≠ gd from fun e => hgB e.symm))).trans (hd3.cell y4' hBH))
        | fail)
      (first
        | (go_at_call 50;refine ham.mono ?_;rintro e w3 ⟨x,rfl,hx1,hx2,hd3⟩;have hc3:=hd3.cell hc5 hgH;have hcf3:=(World.frozen?_of_block (a:=⟨gd,k * 12 + 5,none⟩) (hd3.gr.block gd hgz' (by intro e;cases e;exact hgH rfl))).trans hcf)
        | fail)
     all_goals
      have hS3:=HP.out.dealt (show Dealt w2 w3 H (M + 1 + 1) from hd3.undrew)
      obtain ⟨gd2,d2,e1,e2,-,-,-,-,-,-,-,-,hput3⟩:=hS3.at hlt
      rw [HA.out.1] at e1
      cases e1
      rw [HA.out.2] at e2
      cases e2
      have hS4:=Lib.hid (hput3 x (by rw [← HS.out.2.2.1];exact H5.out) hx1 (by omega))
      clear hput3 hS3 hd3 hx1 hx2
      go_wp2_with fail
      go_roundg (gk - 1)
      case measure => have:=HS.out.2.2.2.1;omega
      case rel => exact ⟨k + 1,_,by have:=HS.out.2.2.2.1;omega,by go_num,hS4.out.mono (by have:=HS.out.2.2.2.2;omega)⟩
  ·obtain rfl:k = nD:=by omega
   obtain ⟨x0,x1,x2,x3,x4⟩:=blk5 hS.bx
   obtain ⟨z0,z1,z2,z3,z4⟩:=blk5 hS.bg
   obtain ⟨f0,f1,f2,f3,f4⟩:=And.intro (frz hS.bg 0) (And.intro (frz hS.bg 1) (And.intro (frz hS.bg 2) (And.intro (frz hS.bg 3) (frz hS.bg 4))))
   have hgl:=heap_lt hS.bg
   have HS:=Lib.hid hS
   clear hS
   go_wp2_with fail
   obtain ⟨W,hW⟩:∃ W,W = (((((wr.setCell ⟨g,0,none⟩ (.int .i64 b.t)).setCell ⟨g,1,none⟩ (.slice b.A b.l.length b.c)).setCell ⟨g,2,none⟩ (.slice b.Ak b.ks.length b.ck)).setCell ⟨g,3,none⟩ (.slice b.Ah b.hs.length b.ch)).setCell ⟨g,4,none⟩ (.slice b.Ad k b.cd)):=⟨_,rfl⟩
   rw [← hW]
   have bgW:W.heap[g]? = some (boxO b.t b.vm b.vk b.vh (.slice b.Ad k b.cd)):=by rw [hW];exact (set_blk (set_blk (set_blk (set_blk (set_blk HS.out.bg))))).trans (by simp;rfl)
   have hgr:wr.grownBy W (some g):=by rw [hW];exact ((((grownBy_cell _ g _ _).trans (grownBy_cell _ g _ _)).trans (grownBy_cell _ g _ _)).trans (grownBy_cell _ g _ _)).trans (grownBy_cell _ g _ _)
   obtain ⟨q0,q1,q2,q3,q4⟩:=blk5 bgW
   obtain ⟨o1,o2⟩:=HbO.ofS HS.out HC.out.1 HC.out.2.2.2.2.symm
   have hsl:=HS.out.dl
   have hc:=HC.out
   have hz:=HS.out.z
   have hbg:=HS.out.bg
   refine bodyPost_ret (v:=.agg #[.int .i64 b.t,.slice b.A b.l.length b.c,.slice b.Ak b.ks.length b.ck,.slice b.Ah b.hs.length b.ch,.slice b.Ad k b.cd]) (by simp [results,Tryz.f10,go_sem,q0,q1,q2,q3,q4]) rfl ⟨{ b with ds:=ds },by rw [← hsl],o2,hc.2.1,hc.2.2.1,by show ds.length ≤ nd;omega,?_,?_⟩
   ·exact ⟨o1.m.kept hgr (.inr (o1.m.ne' hbg (by decide))),o1.k.kept hgr (.inr (o1.k.ne' hbg (by decide))),o1.h.keptB hgr hbg,o1.d.kept hgr (.inr (o1.d.ne' hbg (by decide)))⟩
   ·exact (HS.out.dt.ownG hgr fun j e => by cases e;omega).mono (by omega)
end Go.Proofs.YtmennjmjakdkcaaGreat
namespace Go.Proofs.YtmennjmjakdkcaaGreat
set_option linter.unusedVariables false
set_option linter.unusedSimpArgs false
section
variable {n nf:Nat} {gs:List (List Int)}
theorem nn_iff (h:GSh n nf gs) (hn:n ≤ 5) (hf:nf ≤ 3):nnG gs = true ↔ nnH (firstH gs):=by
 rw [nnG_iff]
 constructor
 ·intro hh f o hf' ho
  rw [firstH_get gs hf' ho]
  unfold getG
  rw [List.getD_eq_getElem?_getD]
  cases hr:(gs.getD f [])[o]? with
  | none => simp
  | some x =>
    rw [List.getD_eq_getElem?_getD] at hr
    cases hg:gs[f]? with
    | none => rw [hg] at hr;simp at hr
    | some r =>
      rw [hg] at hr
      exact hh r (List.mem_of_getElem? hg) x (List.mem_of_getElem? hr)
 ·intro hh r hr x hx
  obtain ⟨f,hfl,e1⟩:=List.mem_iff_getElem.1 hr
  obtain ⟨o,hol,e2⟩:=List.mem_iff_getElem.1 hx
  have hf':f < 3:=by have:=h.l;omega
  have ho:o < 5:=by have:=h.r r hr;omega
  have:=hh f o hf' ho
  rw [firstH_get gs hf' ho] at this
  unfold getG at this
  rw [List.getD_eq_getElem?_getD (l:=gs),List.getElem?_eq_getElem hfl,Option.getD_some,e1,List.getD_eq_getElem?_getD,List.getElem?_eq_getElem hol,Option.getD_some,e2] at this
  exact this
end
theorem sub_sh {n nf f:Nat} (hf:f < nf):∀ (w:List Int) {gs:List (List Int)},GSh n nf gs→GSh n nf (subG f w gs)
 | [],_,h => h
 | o :: w,_,h => sub_sh hf w (h.add hf o.toNat (-1))
theorem firstH_sub {n nf f:Nat} (hn:n ≤ 5) (hnf:nf ≤ 3) (hf:f < nf):∀ (w:List Int) {gs:List (List Int)},GSh n nf gs→(∀ o ∈ w,o.toNat < n)→firstH (subG f w gs) = subH f w (firstH gs)
 | [],_,_,_ => rfl
 | o :: w,_,h,hw => by
   have e:=firstH_sub hn hnf hf w (h.add hf o.toNat (-1)) fun x hx => hw x (List.mem_cons_of_mem _ hx)
   rw [firstH_add h hn hnf hf (hw o List.mem_cons_self)] at e
   exact e
theorem nnH_hadd {h:List Int} {f o:Nat} {k:Int} (hl:h.length = 15) (hn:nnH h) (hf:f < 3) (ho:o < 5):nnH (hadd h f o k) ↔ 0 ≤ hget h f o + k:=by
 constructor
 ·intro hh
  have:=hh f o hf ho
  rw [hget_hadd hl hf ho ho,if_pos ⟨rfl,rfl⟩] at this
  exact this
 ·intro hh f' o' hf' ho'
  rw [hget_hadd hl hf ho ho']
  split
  ·exact hh
  ·exact hn f' o' hf' ho'
theorem nnH_hadd2 {h:List Int} {f o g x:Nat} {k m:Int} (hl:h.length = 15) (hn:nnH h) (hf:f < 3) (ho:o < 5) (hg:g < 3) (hx:x < 5) (hne:f ≠ g ∨ o ≠ x) (hk:0 ≤ m):nnH (hadd (hadd h f o k) g x m) ↔ 0 ≤ hget h f o + k:=by
 constructor
 ·intro hh
  have:=hh f o hf ho
  rw [hget_hadd (hadd_l hl) hg hx ho,if_neg (by omega),hget_hadd hl hf ho ho,if_pos ⟨rfl,rfl⟩] at this
  exact this
 ·intro hh f' o' hf' ho'
  rw [hget_hadd (hadd_l hl) hg hx ho',hget_hadd hl hf ho hx]
  split
  ·have:=hn g x hg hx
   rw [if_neg (by omega)]
   omega
  ·rw [hget_hadd hl hf ho ho']
   split
   ·exact hh
   ·exact hn f' o' hf' ho'
theorem subH_far {f f' o':Nat} (hf:f < 3) (ho':o' < 5):∀ {w:List Int} {h:List Int},h.length = 15→(∀ o ∈ w,o.toNat < 5)→(f ≠ f' ∨ ∀ o ∈ w,o.toNat ≠ o')→hget (subH f w h) f' o' = hget h f' o'
 | [],h,hl,hw,hne => rfl
 | o :: w,h,hl,hw,hne => by
   have e:=subH_far (w:=w) hf ho' (hadd_l (f:=f) (o:=o.toNat) (k:=-1) hl) (fun x hx => hw x (List.mem_cons_of_mem _ hx)) (hne.imp id fun h x hx => h x (List.mem_cons_of_mem _ hx))
   show hget (subH f w (hadd h f o.toNat (-1))) f' o' = _
   rw [e,hget_hadd hl hf (hw o List.mem_cons_self) ho',if_neg]
   rintro ⟨rfl,e2⟩
   rcases hne with h | h
   ·exact h rfl
   ·exact h o List.mem_cons_self e2
theorem mem_wordsL {n:Nat}:∀ {m:Nat} {r:List Int},r.length = m→(∀ x ∈ r,0 ≤ x∧x < n)→r ∈ wordsL n m
 | 0,r,hr,_ => by rw [List.eq_nil_of_length_eq_zero hr];exact List.mem_singleton.2 rfl
 | m + 1,[],hr,_ => by cases hr
 | m + 1,x :: r,hr,h => by
   have h0:=h x List.mem_cons_self
   refine List.mem_flatMap.2 ⟨x.toNat,List.mem_range.2 (by omega),List.mem_map.2 ⟨r,mem_wordsL (by simpa using hr) fun y hy => h y (List.mem_cons_of_mem _ hy),?_⟩⟩
   rw [Int.toNat_of_nonneg h0.1]
theorem cnt_iff {d:De} {h:List Int} {f:Nat} {s:Int} (hf:d.flock.toNat = f) (hs:s = hall h f) (h0:0 ≤ s) (hm:0 ≤ d.many) (he:0 ≤ d.err∧d.err ≤ 20):cntB d s = true ↔ countB d h = true:=by
 unfold cntB countB
 rw [hf,← hs,btw_iff,Bool.and_eq_true,decide_eq_true_eq,decide_eq_true_eq]
 obtain ⟨kind,flock,owner,other,tof,m,e,sg⟩:=d
 dsimp only at he hm ⊢
 have hc:e = 0 ∨ e = 1 ∨ e = 2 ∨ e = 3 ∨ e = 4 ∨ e = 5 ∨ e = 6 ∨ e = 7 ∨ e = 8 ∨ e = 9 ∨ e = 10 ∨ e = 11 ∨ e = 12 ∨ e = 13 ∨ e = 14 ∨ e = 15 ∨ e = 16 ∨ e = 17 ∨ e = 18 ∨ e = 19 ∨ e = 20:=by omega
 rcases hc with rfl | rfl | rfl | rfl | rfl | rfl | rfl | rfl | rfl | rfl | rfl | rfl | rfl | rfl | rfl | rfl | rfl | rfl | rfl | rfl | rfl <;>
  (rw [Int.tdiv_eq_ediv_of_nonneg (by omega),Int.tdiv_eq_ediv_of_nonneg (by omega)];constructor <;> (rintro ⟨h1,h2⟩;constructor <;> omega))
theorem tof_ne {n nf:Nat} {d:De} (h:deedE n nf d = 0) (h5:d.kind = 5):d.flock ≠ d.tof:=by
 obtain ⟨-,-,h3,-⟩:=deedE_inv h
 unfold fldE at h3
 rw [if_neg (by omega),if_neg (by omega),if_neg (by omega),if_pos h5] at h3
 obtain ⟨a1,h3⟩:=ite0 (by decide) h3
 obtain ⟨a2,h3⟩:=ite0 (by decide) h3
 exact fun e => a2 e.symm
theorem step_iff {t:Int} {l:List Mk} {nf:Nat} {gs:List (List Int)} {deed owner:Int} {i:Nat} {d:De} (h:GSh l.length nf gs) (hn:l.length ≤ 5) (hnf:nf ≤ 3) (hnn:nnG gs = true) (hd:DeIn l.length nf d) (how:DeOw l.length nf d) (hne:d.kind = 5→d.flock ≠ d.tof) (x:List Int) :
 (∃ g ∈ stepG t l deed owner i d gs,nnG g = true∧x = firstH g) ↔ x ∈ succ t l (passB deed owner i) d (firstH gs):=by
 have hl:=firstH_l gs
 have hH:=(nn_iff h hn hnf).1 hnn
 have hff:d.flock.toNat < nf:=by have:=how.f;omega
 have hf3:d.flock.toNat < 3:=by omega
 by_cases h1:d.kind = 1
 ·have ho:=how.o (.inl h1)
  have hol:d.owner.toNat < l.length:=by omega
  have eL:stepG t l deed owner i d gs = [addG gs d.flock.toNat d.owner.toNat d.many]:=by unfold stepG;rw [if_pos h1]
  have eR:succ t l (passB deed owner i) d (firstH gs) = [hadd (firstH gs) d.flock.toNat d.owner.toNat d.many]:=by unfold succ;rw [if_pos h1]
  rw [eL,eR,List.mem_singleton]
  have e:=firstH_add h hn hnf hff hol d.many
  have hm:=hd.m
  have hnn2:nnG (addG gs d.flock.toNat d.owner.toNat d.many) = true:=by
   rw [nn_iff (h.add hff _ _) hn hnf,e,nnH_hadd hl hH hf3 (by omega)]
   have:=hH d.flock.toNat d.owner.toNat hf3 (by omega)
   omega
  constructor
  ·rintro ⟨g,hg,-,rfl⟩
   rw [List.mem_singleton.1 hg,e]
  ·rintro rfl
   exact ⟨_,List.mem_singleton.2 rfl,hnn2,e.symm⟩
 by_cases h3:d.kind = 3
 ·have ho:=how.o (.inr (.inr h3))
  have hol:d.owner.toNat < l.length:=by omega
  have eL:stepG t l deed owner i d gs = [addG gs d.flock.toNat d.owner.toNat (-d.many)]:=by unfold stepG;rw [if_neg h1,if_pos h3]
  have eR:succ t l (passB deed owner i) d (firstH gs) = (match mvd (firstH gs) d.flock.toNat d.owner.toNat (-d.many) with | some x => [x] | none => []):=by unfold succ;rw [if_neg h1,if_neg (by omega),if_pos h3];rfl
  rw [eL,eR]
  have e:=firstH_add h hn hnf hff hol (-d.many)
  have hnn2:nnG (addG gs d.flock.toNat d.owner.toNat (-d.many)) = true ↔ 0 ≤ hget (firstH gs) d.flock.toNat d.owner.toNat + -d.many:=by
   rw [nn_iff (h.add hff _ _) hn hnf,e,nnH_hadd hl hH hf3 (by omega)]
  unfold mvd
  constructor
  ·rintro ⟨g,hg,hg2,rfl⟩
   rw [List.mem_singleton.1 hg] at hg2 ⊢
   rw [if_pos (hnn2.1 hg2),e]
   exact List.mem_singleton.2 rfl
  ·intro hx
   split at hx
   ·rename_i hc
    split at hc
    ·rename_i h0
     cases hc
     rw [List.mem_singleton.1 hx]
     exact ⟨_,List.mem_singleton.2 rfl,hnn2.2 h0,e.symm⟩
    ·cases hc
   ·cases hx
 by_cases h2:d.kind = 2
 ·have ho:=how.o (.inr (.inl h2))
  have hxo:=how.x h2
  have hne2:=how.ne h2
  have hol:d.owner.toNat < l.length:=by omega
  have hxl:d.other.toNat < l.length:=by omega
  have eL:stepG t l deed owner i d gs = [addG (addG gs d.flock.toNat d.owner.toNat (-d.many)) d.flock.toNat d.other.toNat d.many]:=by unfold stepG;rw [if_neg h1,if_neg h3,if_pos h2]
  have eR:succ t l (passB deed owner i) d (firstH gs) = (match mvd (firstH gs) d.flock.toNat d.owner.toNat (-d.many) with | some x => [hadd x d.flock.toNat d.other.toNat d.many] | none => []):=by unfold succ;rw [if_neg h1,if_pos h2];rfl
  rw [eL,eR]
  have e:=firstH_add h hn hnf hff hol (-d.many)
  have e2:=firstH_add (h.add hff d.owner.toNat (-d.many)) hn hnf hff hxl d.many
  rw [e] at e2
  have hm:=hd.m
  have hnn2:nnG (addG (addG gs d.flock.toNat d.owner.toNat (-d.many)) d.flock.toNat d.other.toNat d.many) = true ↔ 0 ≤ hget (firstH gs) d.flock.toNat d.owner.toNat + -d.many:=by
   rw [nn_iff ((h.add hff _ _).add hff _ _) hn hnf,e2,nnH_hadd2 hl hH hf3 (by omega) hf3 (by omega) (.inr (by omega)) hm.1]
  unfold mvd
  constructor
  ·rintro ⟨g,hg,hg2,rfl⟩
   rw [List.mem_singleton.1 hg] at hg2 ⊢
   rw [if_pos (hnn2.1 hg2),e2]
   exact List.mem_singleton.2 rfl
  ·intro hx
   split at hx
   ·rename_i hc
    split at hc
    ·rename_i h0
     cases hc
     rw [List.mem_singleton.1 hx]
     exact ⟨_,List.mem_singleton.2 rfl,hnn2.2 h0,e2.symm⟩
    ·cases hc
   ·cases hx
 by_cases h6:d.kind = 6
 ·have eL:stepG t l deed owner i d gs = (if cntB d (gs.getD d.flock.toNat []).sum then [gs] else []):=by unfold stepG;rw [if_neg h1,if_neg h3,if_neg h2,if_pos h6]
  have eR:succ t l (passB deed owner i) d (firstH gs) = (if countB d (firstH gs) = true then [firstH gs] else []):=by unfold succ;rw [if_neg h1,if_neg h2,if_neg h3,if_neg (by omega),if_neg (by omega)]
  rw [eL,eR]
  have hs:=row_sum (gs:=gs) hf3 (by rw [h.row hff];exact hn)
  have hc:=cnt_iff (d:=d) rfl hs (by
   rw [hs];unfold hall
   have a0:=hH d.flock.toNat 0 hf3 (by decide)
   have a1:=hH d.flock.toNat 1 hf3 (by decide)
   have a2:=hH d.flock.toNat 2 hf3 (by decide)
   have a3:=hH d.flock.toNat 3 hf3 (by decide)
   have a4:=hH d.flock.toNat 4 hf3 (by decide)
   omega) hd.m.1 hd.e
  by_cases hb:cntB d (gs.getD d.flock.toNat []).sum = true
  ·rw [if_pos hb,if_pos (hc.1 hb),List.mem_singleton]
   constructor
   ·rintro ⟨g,hg,-,rfl⟩;rw [List.mem_singleton.1 hg]
   ·rintro rfl;exact ⟨gs,List.mem_singleton.2 rfl,hnn,rfl⟩
  ·rw [if_neg hb,if_neg fun h => hb (hc.2 h)]
   simp
 by_cases h4:d.kind = 4
 ·have eL:stepG t l deed owner i d gs = lostG l.length d.flock.toNat d.many.toNat gs:=by unfold stepG;rw [if_neg h1,if_neg h3,if_neg h2,if_neg h6,if_pos h4]
  have eR:succ t l (passB deed owner i) d (firstH gs) = lostJ l.length d.flock.toNat l.length (firstH gs) d.many.toNat:=by unfold succ;rw [if_neg h1,if_neg h2,if_neg h3,if_pos h4]
  rw [eL,eR,lost_iff hf3 hn l.length (firstH gs) d.many.toNat x (Nat.le_refl _) hl (fun o ho => hH _ o hf3 (by omega)),Nat.sub_self]
  unfold lostG
  constructor
  ·rintro ⟨g,hg,hg2,rfl⟩
   obtain ⟨w,hw,rfl⟩:=List.mem_map.1 hg
   obtain ⟨hw1,hw2⟩:=List.mem_filter.1 hw
   obtain ⟨hw3,hw4⟩:=wordsL_mem hw1
   have e:=firstH_sub hn hnf hff w h (fun o ho => by have:=hw4 o ho;omega)
   refine ⟨w,⟨hw2,fun o ho => by have:=hw4 o ho;omega⟩,hw3,e,fun o ho => ?_⟩
   exact (nn_iff (sub_sh hff w h) hn hnf).1 hg2 _ o hf3 (by omega)
  ·rintro ⟨w,⟨hw2,hw4⟩,hw3,rfl,hx⟩
   have hw5:∀ o ∈ w,o.toNat < l.length:=fun o ho => by have:=hw4 o ho;omega
   have e:=firstH_sub hn hnf hff w h hw5
   refine ⟨subG d.flock.toNat w gs,List.mem_map.2 ⟨w,List.mem_filter.2 ⟨mem_wordsL hw3 fun o ho => by have:=hw4 o ho;omega,hw2⟩,rfl⟩,?_,e.symm⟩
   rw [nn_iff (sub_sh hff w h) hn hnf,e]
   intro f' o' hf' ho'
   by_cases hc:f' = d.flock.toNat∧o' < l.length
   ·rw [hc.1];exact hx o' hc.2
   ·rw [subH_far hf3 ho' hl (fun o ho => by have:=hw5 o ho;omega)]
    ·exact hH f' o' hf' ho'
    ·by_cases he:d.flock.toNat = f'
     ·exact .inr fun o ho e => hc ⟨he.symm,by have:=hw5 o ho;omega⟩
     ·exact .inl he
 ·have h5:d.kind = 5:=by have:=how.k;omega
  have eL:stepG t l deed owner i d gs = strG t l deed owner i d gs l.length:=by unfold stepG;rw [if_neg h1,if_neg h3,if_neg h2,if_neg h6,if_neg h4]
  have eR:succ t l (passB deed owner i) d (firstH gs) = strayL d.flock.toNat d.tof.toNat (firstH gs) ((mayL t l d.s).filter (passB deed owner i)):=by unfold succ;rw [if_neg h1,if_neg h2,if_neg h3,if_neg h4,if_pos h5]
  rw [eL,eR]
  have ht:=how.t h5
  have htl:d.tof.toNat < nf:=by omega
  have hne5:=hne h5
  have key:∀ o:Nat,o < l.length→(nnG (addG (addG gs d.flock.toNat o (-1)) d.tof.toNat o 1) = true ↔ 0 ≤ hget (firstH gs) d.flock.toNat o + -1)∧firstH (addG (addG gs d.flock.toNat o (-1)) d.tof.toNat o 1) = hadd (hadd (firstH gs) d.flock.toNat o (-1)) d.tof.toNat o 1:=fun o ho => by
   have e:=firstH_add h hn hnf hff ho (-1)
   have e2:=firstH_add (h.add hff o (-1)) hn hnf htl ho 1
   rw [e] at e2
   exact ⟨by rw [nn_iff ((h.add hff _ _).add htl _ _) hn hnf,e2,nnH_hadd2 hl hH hf3 (by omega) (by omega) (by omega) (.inl (by have:=how.f;omega)) (by decide)],e2⟩
  unfold strG strayL
  rw [List.mem_flatMap]
  constructor
  ·rintro ⟨g,hg,hg2,rfl⟩
   obtain ⟨o,ho,rfl⟩:=List.mem_map.1 hg
   obtain ⟨ho1,ho2⟩:=List.mem_filter.1 ho
   have hol:=List.mem_range.1 ho1
   unfold mayB at ho2
   rw [Bool.and_eq_true,List.getElem?_eq_getElem hol] at ho2
   have hmy:=(mayL_iff (t:=t) (s:=d.s) (List.getElem?_eq_getElem hol)).2 (by simpa using ho2.2)
   refine ⟨(o:Int),List.mem_filter.2 ⟨hmy,ho2.1⟩,?_⟩
   have h0:=(key o hol).1.1 hg2
   rw [Int.toNat_natCast,(key o hol).2]
   unfold mvd
   rw [if_pos h0]
   exact List.mem_singleton.2 rfl
  ·rintro ⟨o,ho,hx⟩
   obtain ⟨ho1,ho2⟩:=List.mem_filter.1 ho
   have hlt:=mayTo_lt o ho1
   obtain ⟨on,rfl⟩:=Int.eq_ofNat_of_zero_le hlt.1
   have hol:on < l.length:=by omega
   rw [Int.toNat_natCast] at hx
   unfold mvd at hx
   split at hx
   ·rename_i hc
    split at hc
    ·rename_i h0
     cases hc
     rw [List.mem_singleton.1 hx]
     refine ⟨_,List.mem_map.2 ⟨on,List.mem_filter.2 ⟨List.mem_range.2 hol,?_⟩,rfl⟩,(key on hol).1.2 h0,(key on hol).2.symm⟩
     unfold mayB
     rw [Bool.and_eq_true,List.getElem?_eq_getElem hol]
     exact ⟨ho2,by simpa using (mayL_iff (t:=t) (s:=d.s) (List.getElem?_eq_getElem hol)).1 ho1⟩
    ·cases hc
   ·cases hx
end Go.Proofs.YtmennjmjakdkcaaGreat
