/- HerdChecks 32: SmHd, ChkP, ChkL, Words, TruL, ConL. -/
import Derived.Test.YtmennjmjakdkcaaGreatCk01
import Derived.Test.YtmennjmjakdkcaaGreatCk13
import Derived.Test.YtmennjmjakdkcaaGreatCk17
import Derived.Test.YtmennjmjakdkcaaGreatCk06
import Derived.BigQuiet
import Derived.Test.YtmennjmjakdkcaaGreatCk31
import Derived.Test.YtmennjmjakdkcaaGreatCk15
import Derived.Test.YtmennjmjakdkcaaGreatCk20
import Derived.Lib.SliceRun
import Derived.Test.YtmennjmjakdkcaaGreatCk29
import Derived.Test.YtmennjmjakdkcaaGreatCk04
import Derived.Test.YtmennjmjakdkcaaGreatCk07
import Derived.BigRegion
import Derived.Deep.RegionHeld3
import Derived.Test.YtmennjmjakdkcaaGreatCk16
set_option linter.unusedVariables false
set_option linter.unusedSimpArgs false
namespace Go.Proofs.YtmennjmjakdkcaaGreat
open Go.RowKit
theorem j9j {α:Type} [DecidableEq α] (l:List α):j1e l l = true:=by simp [j1e]
def SH9 (V:World) (a b:Hb) (p:Nat) (w:World):Prop:=w.heap[p]? = some a.obj∧w.heap[p + 1]? = some b.obj∧HbIn w a∧HbIn w b∧Below V.heap.size V w
theorem SH9.step {V w w':World} {a b:Hb} {p:Nat} (h:SH9 V a b p w) (hb:Below w.heap.size w w'):SH9 V a b p w':=⟨j0f h.1 hb (zL9 _),j0f h.2.1 hb (zL9 _),h.2.2.1.below hb (zL9 _),h.2.2.2.1.below hb (zL9 _),h.2.2.2.2.trans (hb.mono h.2.2.2.2.size)⟩
theorem SH9.start {w:World} {a b:Hb} (h:HbIn w a) (k:HbIn w b):SH9 w a b w.heap.size ((w.alloc a.obj).alloc b.obj) :=
 ⟨j0b (j0c rfl) _,j0c (by simp),h.below (bal (bal0 _ _) (zL9 _) _) (zL9 _),k.below (bal (bal0 _ _) (zL9 _) _) (zL9 _),bal (bal0 _ _) (zL9 _) _⟩
set_option maxRecDepth 100000 in
set_option maxHeartbeats 4000000 in
theorem k5m (a b:Hb) (w:World) (ha:HbIn w a) (hb:HbIn w b) (ht:a.t = b.t) (hl:a.l = b.l) (hk:a.ks = b.ks) (hh:a.hs = b.hs) (hd:a.ds = b.ds) :
 Calls Tryz.prog 19 #[a.v,b.v] w fun e w' => e = .returned (.bool true)∧Below w.heap.size w w':=by
 obtain ⟨V,hV⟩:∃ V,V = (w.alloc a.obj).alloc b.obj:=⟨_,rfl⟩
 obtain ⟨p,hp⟩:∃ p,p = w.heap.size:=⟨_,rfl⟩
 have HB:=zQ9 (show SH9 w a b p V by rw [hV,hp];exact SH9.start ha hb)
 obtain ⟨t,A,c,l,Ak,ck,ks,Ah,ch,hs,Ad,cd,ds⟩:=a
 obtain ⟨t2,A2,c2,l2,Ak2,ck2,ks2,Ah2,ch2,hs2,Ad2,cd2,ds2⟩:=b
 dsimp only at ht hl hk hh hd
 subst ht hl hk hh hd
 have hnm:l.length ≤ maxLen:=Nat.le_trans ha.mc ha.mm
 have hkm:ks.length ≤ maxLen:=Nat.le_trans ha.kc ha.km
 have hhm:hs.length ≤ maxLen:=Nat.le_trans ha.hc ha.hm
 have hdm:ds.length ≤ maxLen:=Nat.le_trans ha.dc ha.dm
 have hdc1:=ha.dc
 have hdm1:=ha.dm
 have hdc2:=hb.dc
 have hdm2:=hb.dm
 have sR:∀ W,SH9 w ⟨t,A,c,l,Ak,ck,ks,Ah,ch,hs,Ad,cd,ds⟩ ⟨t,A2,c2,l,Ak2,ck2,ks,Ah2,ch2,hs,Ad2,cd2,ds⟩ p W→Calls Tryz.prog 68 #[.agg #[.int .i64 t,.slice A l.length c],.agg #[.int .i64 t,.slice A2 l.length c2]] W fun e w' => e = .returned (.bool true)∧Below W.heap.size W w':=fun W h => by
  have:=k0w t t A l.length c l A2 l.length c2 l W h.2.2.1.m h.2.2.2.1.m hnm hnm
  rwa [j9j,show (decide (t = t) && true) = true by simp] at this
 have sK:∀ W,SH9 w ⟨t,A,c,l,Ak,ck,ks,Ah,ch,hs,Ad,cd,ds⟩ ⟨t,A2,c2,l,Ak2,ck2,ks,Ah2,ch2,hs,Ad2,cd2,ds⟩ p W→Calls Tryz.prog 48 #[.slice Ak ks.length ck,.slice Ak2 ks.length ck2] W fun e w' => e = .returned (.bool true)∧Below W.heap.size W w':=fun W h => by
  have:=j7m Ak ks.length ck ks Ak2 ks.length ck2 ks W h.2.2.1.k h.2.2.2.1.k hkm hkm
  rwa [j9j] at this
 have sG:∀ W,SH9 w ⟨t,A,c,l,Ak,ck,ks,Ah,ch,hs,Ad,cd,ds⟩ ⟨t,A2,c2,l,Ak2,ck2,ks,Ah2,ch2,hs,Ad2,cd2,ds⟩ p W→Calls Tryz.prog 69 #[.slice Ah hs.length ch,.slice Ah2 hs.length ch2] W fun e w' => e = .returned (.bool true)∧Below W.heap.size W w':=fun W h => by
  have:=k5l Ah hs.length ch hs Ah2 hs.length ch2 hs W h.2.2.1.h h.2.2.2.1.h hhm hhm
  rwa [j9j] at this
 obtain ⟨c0,c1,c2',c3,c4⟩:=j0i HB.out.1
 obtain ⟨d0,d1,d2,d3,d4⟩:=j0i HB.out.2.1
 have hlp:=j0a HB.out.1
 have hlq:=j0a HB.out.2.1
 unfold maxLen at hnm hkm hhm hdm
 unfold Hb.v
 clear ha hb
 go_enter Tryz.func19,Tryz.ntmps19
 go_upto_region 1 with (fail)
 rw [show (w.alloc (Obj.cells #[Value.int .i64 t,.slice A l.length c,.slice Ak ks.length ck,.slice Ah hs.length ch,.slice Ad ds.length cd] 29)).alloc (Obj.cells #[Value.int .i64 t,.slice A2 l.length c2,.slice Ak2 ks.length ck2,.slice Ah2 hs.length ch2,.slice Ad2 ds.length cd2] 29) = V from hV.symm,← hp]
 clear hV hp
 have e1:((ds.length:Int) == (ds.length:Int)) = true:=by simp
 go_upto_region 4 with (first
  | (go_at_call 68;(with_reducible refine (sR _ HB.out).mono ?_);rintro e wn ⟨rfl,hbn⟩;replace HB:=zQ9 (HB.out.step hbn);clear hbn c0 c1 c2' c3 c4 d0 d1 d2 d3 d4 hlp hlq;obtain ⟨c0,c1,c2',c3,c4⟩:=j0i HB.out.1;obtain ⟨d0,d1,d2,d3,d4⟩:=j0i HB.out.2.1;have hlp:=j0a HB.out.1;have hlq:=j0a HB.out.2.1)
  | (go_at_call 48;(with_reducible refine (sK _ HB.out).mono ?_);rintro e wn ⟨rfl,hbn⟩;replace HB:=zQ9 (HB.out.step hbn);clear hbn c0 c1 c2' c3 c4 d0 d1 d2 d3 d4 hlp hlq;obtain ⟨c0,c1,c2',c3,c4⟩:=j0i HB.out.1;obtain ⟨d0,d1,d2,d3,d4⟩:=j0i HB.out.2.1;have hlp:=j0a HB.out.1;have hlq:=j0a HB.out.2.1)
  | (go_at_call 69;(with_reducible refine (sG _ HB.out).mono ?_);rintro e wn ⟨rfl,hbn⟩;replace HB:=zQ9 (HB.out.step hbn);clear hbn c0 c1 c2' c3 c4 d0 d1 d2 d3 d4 hlp hlq;obtain ⟨c0,c1,c2',c3,c4⟩:=j0i HB.out.1;obtain ⟨d0,d1,d2,d3,d4⟩:=j0i HB.out.2.1;have hlp:=j0a HB.out.1;have hlq:=j0a HB.out.2.1))
 clear e1 sR sK sG
 go_loopg [5] ds.length (fun gh v5 wr => ∃ k:Nat,k + gh = ds.length∧v5 = .int .i64 k∧SH9 w ⟨t,A,c,l,Ak,ck,ks,Ah,ch,hs,Ad,cd,ds⟩ ⟨t,A2,c2,l,Ak2,ck2,ks,Ah2,ch2,hs,Ad2,cd2,ds⟩ p wr)
 case atStart => exact ⟨0,by omega,rfl,HB.out⟩
 case round =>
  obtain ⟨k,hk,rfl,hB⟩:=hrel
  obtain ⟨w2,hw2⟩:∃ W:World,W = wr:=⟨_,rfl⟩
  rw [← hw2] at hB ⊢
  clear hw2 c0 c1 c2' c3 c4 d0 d1 d2 d3 d4 hlp hlq
  obtain ⟨c0,c1,c2',c3,c4⟩:=j0i hB.1
  obtain ⟨d0,d1,d2,d3,d4⟩:=j0i hB.2.1
  have hlp:=j0a hB.1
  have hlq:=j0a hB.2.1
  by_cases hlt:k < ds.length
  ·obtain ⟨b1,o1,x,eA,hb1,hx,x0,x1,x2,x3,x4,x5,x6,x7,x8,x9,Z0,Z1⟩:=hB.2.2.1.d.get hlt
   obtain ⟨b2,o2,y,eB,hb2,hy,y0,y1,y2,y3,y4,y5,y6,y7,y8,y9,y10,y11⟩:=hB.2.2.2.1.d.get hlt
   dsimp only at eA eB hx hy
   rw [hx] at hy
   cases hy
   subst eA eB
   have i1:(k:Int) < (ds.length:Int):=by omega
   have HK:=zQ9 (zA9 hk hB)
   clear hk hB hx
   go_upto_region 6 with (fail)
   go_quiet (fail)
   go_wp2_with fail
   go_roundg (gk - 1)
   case measure => have:=HK.out.1;omega
   case rel => exact ⟨k + 1,by have:=HK.out.1;omega,by go_num,HK.out.2.step (j0l (Below.refl _ _) nq)⟩
  ·obtain rfl:k = ds.length:=by omega
   have HK:=zQ9 hB
   clear hB hk
   go_wp2_with fail
   go_ret
   exact ⟨rfl,HK.out.2.2.2.2⟩
theorem app_book {b:Hb} {d:De} {base q gd cd:Nat} {w5 w6 w7:World} (h5:w5.heap[q]? = some b.obj) (hO:HbO w5 base b) (hq:base ≤ q) (hod:OwnD w6 base (.slice (some ⟨gd,0,none⟩) (b.ds.length + 1) cd) (b.ds ++ [d])) (hgd:w5.grownBy w6 b.vd.ownBlock) (hb6:Below base w5 w6)
 (h7:w7 = w6.setCell ⟨q,4,none⟩ (.slice (some ⟨gd,0,none⟩) (b.ds.length + 1) cd)) :
 w7.heap[q]? = some (Hb.obj ⟨b.t,b.A,b.c,b.l,b.Ak,b.ck,b.ks,b.Ah,b.ch,b.hs,some ⟨gd,0,none⟩,cd,b.ds ++ [d]⟩)∧HbO w7 base ⟨b.t,b.A,b.c,b.l,b.Ak,b.ck,b.ks,b.Ah,b.ch,b.hs,some ⟨gd,0,none⟩,cd,b.ds ++ [d]⟩∧Below base w5 w7:=by
 have hlq:=j0a h5
 have hqo:b.vd.ownBlock ≠ some q:=hO.d.ne' h5 (by decide)
 have q6:w6.heap[q]? = some b.obj:=(hgd.block q hlq (fun e => hqo e.symm)).trans h5
 have q7:w7.heap[q]? = some (Hb.obj ⟨b.t,b.A,b.c,b.l,b.Ak,b.ck,b.ks,b.Ah,b.ch,b.hs,some ⟨gd,0,none⟩,cd,b.ds ++ [d]⟩):=by
  rw [h7]
  refine (j0d q6).trans ?_
  simp
 have hg7:w6.grownBy w7 (some q):=by rw [h7];exact ⟨rfl,rfl,rfl,by simp,fun j _ hne => Below.heap_setCell _ ⟨q,4,none⟩ _ j (fun e => hne (by rw [e]))⟩
 refine ⟨q7,⟨?_,?_,?_,?_⟩,by rw [h7];exact Below.setCell hb6 (p:=⟨q,4,none⟩) hq _⟩
 ·have h:=hO.m.kept hgd (j1d hO.m hO.d (by decide))
  exact h.kept hg7 (.inr (h.ne' q6 (by decide)))
 ·have h:=hO.k.kept hgd (j1d hO.k hO.d (by decide))
  exact h.kept hg7 (.inr (h.ne' q6 (by decide)))
 ·obtain ⟨mv,h1,h2⟩:=hO.h
  have h:OwnG w6 base b.vh b.hs :=
   ⟨mv,h1.kept hgd (j1d h1 hO.d (by decide)),Rws.kept h2 hgd (fun x hx => by
    obtain ⟨k,hk⟩:=List.getElem?_of_mem hx
    obtain ⟨l,_,ho⟩:=h2.2 k x hk
    exact j1d ho hO.d (by decide))⟩
  exact h.keptB hg7 q6
 ·have h':=hod.kept hg7 (.inr (hod.ne' q6 (by decide)))
  unfold Hb.vd
  rw [List.length_append,List.length_singleton]
  exact h'
theorem HbO.keptH {w w':World} {base H:Nat} {b:Hb} (h:HbO w base b) (hg:w.grownBy w' (some H)) (hH:H < base):HbO w' base b:=⟨Own.keptH h.m hg hH,Own.keptH h.k hg hH,OwnG.keptH h.h hg hH,Own.keptH h.d hg hH⟩
set_option maxRecDepth 1000000
abbrev bs3 (a b c:Hb):Obj:=.cells #[.int .i64 a.t,a.vm,a.vk,a.vh,a.vd,.int .i64 b.t,b.vm,b.vk,b.vh,b.vd,.int .i64 c.t,c.vm,c.vk,c.vh,c.vd] 29 (0,0)
theorem bs3_at {w:World} {r:Nat} {a b c:Hb} (h:w.heap[r]? = some (bs3 a b c)) {i:Nat} (hi:i < 3):∃ X,[a,b,c][i]? = some X∧∀ W,Below w.heap.size w W→W.cell? ⟨r,0 + i * 5,none⟩ = some (.int .i64 X.t)∧W.cell? ⟨r,0 + i * 5 + 1,none⟩ = some X.vm∧W.cell? ⟨r,0 + i * 5 + 2,none⟩ = some X.vk∧W.cell? ⟨r,0 + i * 5 + 3,none⟩ = some X.vh∧W.cell? ⟨r,0 + i * 5 + 4,none⟩ = some X.vd:=by
 match i,hi with
 | 0,_ => exact ⟨a,rfl,fun W hW => by have h:=j0f h hW (zL9 _);simp [World.cell?,h]⟩
 | 1,_ => exact ⟨b,rfl,fun W hW => by have h:=j0f h hW (zL9 _);simp [World.cell?,h]⟩
 | 2,_ => exact ⟨c,rfl,fun W hW => by have h:=j0f h hW (zL9 _);simp [World.cell?,h]⟩
theorem os3_at {w:World} {s:Nat} {a b c:Int} (h:w.heap[s]? = some (.cells #[.int .i64 a,.int .i64 b,.int .i64 c] 3 (0,0))) {i:Nat} (hi:i < 3):∃ x,[a,b,c][i]? = some x∧∀ W,Below w.heap.size w W→W.cell? ⟨s,0 + i,none⟩ = some (.int .i64 x):=by
 match i,hi with
 | 0,_ => exact ⟨a,rfl,fun W hW => by have h:=j0f h hW (zL9 _);simp [World.cell?,h]⟩
 | 1,_ => exact ⟨b,rfl,fun W hW => by have h:=j0f h hW (zL9 _);simp [World.cell?,h]⟩
 | 2,_ => exact ⟨c,rfl,fun W hW => by have h:=j0f h hW (zL9 _);simp [World.cell?,h]⟩
noncomputable def rgCk7:Code:=((Tryz.f3.body.bind (j1x 7)).getD .skip)
def RgCkQ7 (w2:World) (b M O:Hb) (p H m q:Nat) (owner:Int) (v0 v1 v3 v5 v6 v7 v8 Z2 Z3 Z4 Z5 Z6 Z7 Z8 Z9 ZA ZB ZC ZD ZE ZF ZG ZH ZI ZJ ZK ZL ZM ZN ZO ZP ZQ ZR ZS ZT ZU ZV ZW ZX ZY ZZ Za Zb Zc Zd Ze Zf Zg Zh Zi Zj Zk Zl Zm Zn Zo Zp Zq Zr Zs Zt Zu Zv Zw Zx Zy Zz Y0 Y1 Y2 Y3 Y4 Y5 Y6 Y7 Y8 Y9 YA YB YC YD YE YF YG YH YI YJ YK YL YM YN YO YP YQ YR YS YT YU YV YW YX YY YZ Ya Yb Yc Yd Ye Yf Yg Yh Yi Yj Yk Yl Ym Yn Yo Yp Yq Yr Ys Yt Yu Yv Yw Yx Yy Yz X0 X1:Value) (Q:Exit→Act→World→Prop):Prop:=∀ (X2 X3 X4 X5 X6 X7 X8 X9 XA XB XC XD XE XF:Value) (r s u:Nat) (w':World),w'.heap[r]? = some (bs3 b M O)→w'.heap[s]? = some (.cells #[.int .i64 owner,.int .i64 (u:Int),.int .i64 owner] 3 (0,0))→w2.heap.size ≤ r→w2.heap.size ≤ s→w2.grownBy w' (some H)→Q .normal ⟨#[v0,v1,(Value.int .i64 owner),v3,(Value.pointer (some ⟨p,0,none⟩)),v5,v6,v7,v8,(Value.pointer (some ⟨H,0,none⟩)),(Value.pointer (some ⟨m,0,none⟩)),(Value.pointer (some ⟨q,0,none⟩)),(Value.slice (some ⟨r,0,none⟩) 3 3),(Value.slice (some ⟨s,0,none⟩) 3 3),Z4,Z5,Z6,Z7,Z8,Z9,ZA,ZB,ZC,ZD,ZE,ZF,ZG,ZH,ZI,ZJ,ZK,ZL,ZM,ZN,ZO,ZP,ZQ,ZR,ZS,X2,X3,X4,X5,X6,X7,X8,X9,XA,XB,XC,XD,XE,XF,Zh,Zi,Zj,Zk,Zl,Zm,Zn,Zo,Zp,Zq,Zr,Zs,Zt,Zu,Zv,Zw,Zx,Zy,Zz,Y0,Y1,Y2,Y3,Y4,Y5,Y6,Y7,Y8,Y9,YA,YB,YC,YD,YE,YF,YG,YH,YI,YJ,YK,YL,YM,YN,YO,YP,YQ,YR,YS,YT,YU,YV,YW,YX,YY,YZ,Ya,Yb,Yc,Yd,Ye,Yf,Yg,Yh,Yi,Yj,Yk,Yl,Ym,Yn,Yo,Yp,Yq,Yr,Ys,Yt,Yu,Yv,Yw,Yx,Yy,Yz,X0,X1],[]⟩ w'
set_option maxHeartbeats 8000000 in
theorem ck_lists (w2:World) (b M O:Hb) (p H m q N:Nat) (owner:Int) (v0 v1 v3 v5 v6 v7 v8 Z2 Z3 Z4 Z5 Z6 Z7 Z8 Z9 ZA ZB ZC ZD ZE ZF ZG ZH ZI ZJ ZK ZL ZM ZN ZO ZP ZQ ZR ZS ZT ZU ZV ZW ZX ZY ZZ Za Zb Zc Zd Ze Zf Zg Zh Zi Zj Zk Zl Zm Zn Zo Zp Zq Zr Zs Zt Zu Zv Zw Zx Zy Zz Y0 Y1 Y2 Y3 Y4 Y5 Y6 Y7 Y8 Y9 YA YB YC YD YE YF YG YH YI YJ YK YL YM YN YO YP YQ YR YS YT YU YV YW YX YY YZ Ya Yb Yc Yd Ye Yf Yg Yh Yi Yj Yk Yl Ym Yn Yo Yp Yq Yr Ys Yt Yu Yv Yw Yx Yy Yz X0 X1:Value) (Q:Exit→Act→World→Prop)
 (HS:Hid (∀ W,w2.grownBy W (some H)→W.heap[p]? = some b.obj∧W.heap[m]? = some M.obj∧W.heap[q]? = some O.obj)) (HH:Hid (Hd w2 H N)) (hN:N ≤ 4611686018000000000) (hM:M.l.length ≤ 20) (hHl:H < w2.heap.size) (hpl:p < w2.heap.size) (hml:m < w2.heap.size) (hql:q < w2.heap.size)
 (HQ:RgCkQ7 w2 b M O p H m q owner v0 v1 v3 v5 v6 v7 v8 Z2 Z3 Z4 Z5 Z6 Z7 Z8 Z9 ZA ZB ZC ZD ZE ZF ZG ZH ZI ZJ ZK ZL ZM ZN ZO ZP ZQ ZR ZS ZT ZU ZV ZW ZX ZY ZZ Za Zb Zc Zd Ze Zf Zg Zh Zi Zj Zk Zl Zm Zn Zo Zp Zq Zr Zs Zt Zu Zv Zw Zx Zy Zz Y0 Y1 Y2 Y3 Y4 Y5 Y6 Y7 Y8 Y9 YA YB YC YD YE YF YG YH YI YJ YK YL YM YN YO YP YQ YR YS YT YU YV YW YX YY YZ Ya Yb Yc Yd Ye Yf Yg Yh Yi Yj Yk Yl Ym Yn Yo Yp Yq Yr Ys Yt Yu Yv Yw Yx Yy Yz X0 X1 Q) :
 Code.wp Tryz.prog rgCk7 Q ⟨#[v0,v1,(Value.int .i64 owner),v3,(Value.pointer (some ⟨p,0,none⟩)),v5,v6,v7,v8,(Value.pointer (some ⟨H,0,none⟩)),(Value.pointer (some ⟨m,0,none⟩)),(Value.pointer (some ⟨q,0,none⟩)),Z2,Z3,Z4,Z5,Z6,Z7,Z8,Z9,ZA,ZB,ZC,ZD,ZE,ZF,ZG,ZH,ZI,ZJ,ZK,ZL,ZM,ZN,ZO,ZP,ZQ,ZR,ZS,ZT,ZU,ZV,ZW,ZX,ZY,ZZ,Za,Zb,Zc,Zd,Ze,Zf,Zg,Zh,Zi,Zj,Zk,Zl,Zm,Zn,Zo,Zp,Zq,Zr,Zs,Zt,Zu,Zv,Zw,Zx,Zy,Zz,Y0,Y1,Y2,Y3,Y4,Y5,Y6,Y7,Y8,Y9,YA,YB,YC,YD,YE,YF,YG,YH,YI,YJ,YK,YL,YM,YN,YO,YP,YQ,YR,YS,YT,YU,YV,YW,YX,YY,YZ,Ya,Yb,Yc,Yd,Ye,Yf,Yg,Yh,Yi,Yj,Yk,Yl,Ym,Yn,Yo,Yp,Yq,Yr,Ys,Yt,Yu,Yv,Yw,Yx,Yy,Yz,X0,X1],[]⟩ w2:=by
 dsimp only
 conv => arg 2;whnf
 have HK:=zQ9 (fun W (hW:w2.grownBy W (some H)) => show (W.cell? ⟨p,0,none⟩ = some (.int .i64 b.t)∧W.cell? ⟨p,1,none⟩ = some b.vm∧W.cell? ⟨p,2,none⟩ = some b.vk∧W.cell? ⟨p,3,none⟩ = some b.vh∧W.cell? ⟨p,4,none⟩ = some b.vd)∧(W.cell? ⟨m,0,none⟩ = some (.int .i64 M.t)∧W.cell? ⟨m,1,none⟩ = some M.vm∧W.cell? ⟨m,2,none⟩ = some M.vk∧W.cell? ⟨m,3,none⟩ = some M.vh∧W.cell? ⟨m,4,none⟩ = some M.vd)∧(W.cell? ⟨q,0,none⟩ = some (.int .i64 O.t)∧W.cell? ⟨q,1,none⟩ = some O.vm∧W.cell? ⟨q,2,none⟩ = some O.vk∧W.cell? ⟨q,3,none⟩ = some O.vh∧W.cell? ⟨q,4,none⟩ = some O.vd) from ⟨j0i (HS.out W hW).1,j0i (HS.out W hW).2.1,j0i (HS.out W hW).2.2⟩)
 have ⟨⟨c0,c1,c2,c3,c4⟩,⟨d0,d1,d2,d3,d4⟩,⟨e0,e1,e2,e3,e4⟩⟩:=HK.out w2 (World.grownBy.refl _ _)
 have hwr:IntKind.i64.wrap ((M.l.length:Int) - 1) = (M.l.length:Int) - 1:=IntWalk.i64_in _ (by omega)
 go_region_held3 (fun w' => (w'.cell? ⟨p,0,none⟩ = some (.int .i64 b.t)∧w'.cell? ⟨p,1,none⟩ = some b.vm∧w'.cell? ⟨p,2,none⟩ = some b.vk∧w'.cell? ⟨p,3,none⟩ = some b.vh∧w'.cell? ⟨p,4,none⟩ = some b.vd)∧(w'.cell? ⟨m,0,none⟩ = some (.int .i64 M.t)∧w'.cell? ⟨m,1,none⟩ = some M.vm∧w'.cell? ⟨m,2,none⟩ = some M.vk∧w'.cell? ⟨m,3,none⟩ = some M.vh∧w'.cell? ⟨m,4,none⟩ = some M.vd)∧(w'.cell? ⟨q,0,none⟩ = some (.int .i64 O.t)∧w'.cell? ⟨q,1,none⟩ = some O.vm∧w'.cell? ⟨q,2,none⟩ = some O.vk∧w'.cell? ⟨q,3,none⟩ = some O.vh∧w'.cell? ⟨q,4,none⟩ = some O.vd))
  ((refine HK.out _ ?_
    repeat' (first | (with_reducible exact World.grownBy.refl _ _) | (with_reducible refine World.grownBy.trans ?_ (k3o _ _)) | (with_reducible refine World.grownBy.trans ?_ (World.grownBy_alloc _ _ _)) | (with_reducible refine World.grownBy.trans ?_ hd3.gr) | (with_reducible exact HH.out) | (with_reducible refine Hd.drew ?_) | (with_reducible refine Hd.alloc ?_ _) | omega | exact zL9 _ | (simp;done) | (simp;omega) | fail)))
  (first | (go_at_call 12;(with_reducible refine (j1m H N ((M.l.length:Int) - 1) _ ?_ ?_ ?_).mono ?_);(repeat' (first | (with_reducible exact World.grownBy.refl _ _) | (with_reducible refine World.grownBy.trans ?_ (k3o _ _)) | (with_reducible refine World.grownBy.trans ?_ (World.grownBy_alloc _ _ _)) | (with_reducible refine World.grownBy.trans ?_ hd3.gr) | (with_reducible exact HH.out) | (with_reducible refine Hd.drew ?_) | (with_reducible refine Hd.alloc ?_ _) | omega | exact zL9 _ | (simp;done) | (simp;omega) | fail));rintro e w3 ⟨u,rfl,hu,hd3⟩;have hs3:=hd3.gr.size;(try simp at hs3)) | fail)
 all_goals
  go_wp2_with fail
  first
   | refine HQ _ _ _ _ _ _ _ _ _ _ _ _ _ _ _ _ u _ (j0c (by first | rfl | (simp;done))) (j0b (j0c (by first | rfl | (simp;done))) _) ?_ ?_ ?_
   | refine HQ _ _ _ _ _ _ _ _ _ _ _ _ _ _ _ _ u _ (j0b (j0c (by first | rfl | (simp;done))) _) (j0c (by first | rfl | (simp;done))) ?_ ?_ ?_
   | refine HQ _ _ _ _ _ _ _ _ _ _ _ _ _ _ _ _ u _ (j0b ((hd3.gr.block w2.heap.size (by simp) (fun e => by injection e with e;omega)).trans (j0c (by first | rfl | (simp;done)))) _) (j0c (by first | rfl | (simp;done))) ?_ ?_ ?_
 all_goals
  repeat' (first | (with_reducible exact World.grownBy.refl _ _) | (with_reducible refine World.grownBy.trans ?_ (k3o _ _)) | (with_reducible refine World.grownBy.trans ?_ (World.grownBy_alloc _ _ _)) | (with_reducible refine World.grownBy.trans ?_ hd3.gr) | (with_reducible exact HH.out) | (with_reducible refine Hd.drew ?_) | (with_reducible refine Hd.alloc ?_ _) | omega | exact zL9 _ | (simp;done) | (simp;omega) | fail)
def j7n (n:Nat):Nat→List (List Int)
 | 0 => [[]]
 | m + 1 => (List.range n).flatMap fun (i:Nat) => (j7n n m).map fun r => (i:Int) :: r
theorem j6u {n:Nat}:∀ {m:Nat} {r:List Int},r ∈ j7n n m→r.length = m∧∀ x ∈ r,0 ≤ x∧x < n
 | 0,r,h => by simp [j7n] at h;subst h;simp
 | m + 1,r,h => by
   obtain ⟨i,hi,h2⟩:=List.mem_flatMap.1 h
   obtain ⟨q,hq,rfl⟩:=List.mem_map.1 h2
   obtain ⟨h3,h4⟩:=j6u hq
   refine ⟨by simp [h3],fun x hx => ?_⟩
   rcases List.mem_cons.1 hx with rfl | hx
   ·have:=List.mem_range.1 hi;omega
   ·exact h4 x hx
def nnG (gs:List (List Int)):Bool:=gs.all fun r => r.all fun x => decide (0 ≤ x)
theorem j6x {gs:List (List Int)}:nnG gs = true ↔ ∀ r ∈ gs,∀ x ∈ r,0 ≤ x:=by simp [nnG,List.all_eq_true]
def j5k:List Int→Bool
 | [] => true
 | [_] => true
 | a :: b :: l => decide (a ≤ b) && j5k (b :: l)
def subG (f:Nat) (w:List Int) (gs:List (List Int)):List (List Int):=w.foldl (fun g o => addG g f o.toNat (-1)) gs
def j9c (n f m:Nat) (gs:List (List Int)):List (List (List Int)):=((j7n n m).filter j5k).map fun w => subG f w gs
def cntB (d:De) (s:Int):Bool:=decide (100 * (d.many - s) ≤ d.err * s) && decide (100 * (s - d.many) ≤ d.err * s)
def mayB (t:Int) (l:List Mk) (deed owner:Int) (i:Nat) (s:Sg) (o:Nat):Bool:=j1u deed owner i o && (l[o]?).any fun m => fits s m t
def strG (t:Int) (l:List Mk) (deed owner:Int) (i:Nat) (d:De) (gs:List (List Int)) (k:Nat):List (List (List Int)):=((List.range k).filter (mayB t l deed owner i d.s)).map fun o => addG (addG gs d.flock.toNat o (-1)) d.tof.toNat o 1
def j1p (t:Int) (l:List Mk) (deed owner:Int) (i:Nat) (d:De) (gs:List (List Int)):List (List (List Int)) :=
 if d.kind = 1 then [addG gs d.flock.toNat d.owner.toNat d.many]
 else if d.kind = 3 then [addG gs d.flock.toNat d.owner.toNat (-d.many)]
 else if d.kind = 2 then [addG (addG gs d.flock.toNat d.owner.toNat (-d.many)) d.flock.toNat d.other.toNat d.many]
 else if d.kind = 6 then (if cntB d (gs.getD d.flock.toNat []).sum then [gs] else [])
 else if d.kind = 4 then j9c l.length d.flock.toNat d.many.toNat gs
 else strG t l deed owner i d gs l.length
def trG (t:Int) (l:List Mk) (deed owner:Int):List De→Nat→List (List Int)→List (List (List Int))
 | [],_,gs => if nnG gs then [gs] else []
 | d :: ds,i,gs => if nnG gs then (j1p t l deed owner i d gs).flatMap (trG t l deed owner ds (i + 1)) else []
def nnH (h:List Int):Prop:=∀ f o,f < 3→o < 5→0 ≤ hget h f o
def subH (f:Nat) (w:List Int) (h:List Int):List Int:=w.foldl (fun h o => hadd h f o.toNat (-1)) h
theorem k9b {f:Nat} (hf:f < 3):∀ {w:List Int} {h:List Int} {f' o':Nat},h.length = 15→(∀ o ∈ w,o.toNat < 5)→o' < 5→hget (subH f w h) f' o' ≤ hget h f' o'
 | [],h,f',o',hl,hw,ho => Int.le_refl _
 | o :: w,h,f',o',hl,hw,ho => by
   have h1:=k9b hf (w:=w) (f':=f') (o':=o') (j4i (f:=f) (o:=o.toNat) (k:=-1) hl) (fun x hx => hw x (List.mem_cons_of_mem _ hx)) ho
   rw [j0m hl hf (hw o List.mem_cons_self) ho] at h1
   show hget (subH f w (hadd h f o.toNat (-1))) f' o' ≤ _
   split at h1
   ·rename_i e;rw [← e.1,← e.2];rw [← e.1,← e.2] at h1;omega
   ·exact h1
theorem k2c {f a:Nat} (hf:f < 3) (ha:a < 5):∀ (k:Nat) (h:List Int),h.length = 15→subH f (List.replicate k (a:Int)) h = hadd h f a (-(k:Int))
 | 0,h,hl => by
   refine List.ext_getElem? fun i => ?_
   show h[i]? = _
   unfold hadd
   by_cases e:5 * f + a = i
   ·subst e
    rw [List.getElem?_set_self (by omega)]
    unfold hget
    rw [List.getD_eq_getElem?_getD,List.getElem?_eq_getElem (by omega)]
    simp
   ·rw [List.getElem?_set_ne e]
 | k + 1,h,hl => by
   have e1:subH f (List.replicate (k + 1) (a:Int)) h = subH f (List.replicate k (a:Int)) (hadd h f a (-1)):=rfl
   rw [e1,k2c hf ha k _ (j4i hl)]
   unfold hadd
   rw [List.set_set]
   congr 1
   have:=j0m (f':=f) (k:=-1) hl hf ha ha
   rw [if_pos ⟨rfl,rfl⟩] at this
   unfold hadd at this
   rw [this]
   omega
theorem k1l {f:Nat} (w v:List Int) (h:List Int):subH f (w ++ v) h = subH f v (subH f w h):=List.foldl_append
def SrW (a n:Nat) (w:List Int):Prop:=j5k w = true∧∀ o ∈ w,(a:Int) ≤ o∧o < n
theorem j6t {x:Int} {w:List Int}:j5k (x :: w) = true ↔ (∀ y ∈ w,x ≤ y)∧j5k w = true:=by
 induction w generalizing x with
 | nil => simp [j5k]
 | cons y w ih =>
   rw [show j5k (x :: y :: w) = (decide (x ≤ y) && j5k (y :: w)) from rfl,Bool.and_eq_true,decide_eq_true_eq]
   constructor
   ·rintro ⟨h1,h2⟩
    refine ⟨fun z hz => ?_,h2⟩
    rcases List.mem_cons.1 hz with rfl | hz
    ·exact h1
    ·have:=(ih.1 h2).1 z hz;omega
   ·rintro ⟨h1,h2⟩
    exact ⟨h1 y List.mem_cons_self,h2⟩
theorem k5c {a n:Nat}:∀ {w:List Int},SrW a n w→∃ (k:Nat) (v:List Int),w = List.replicate k (a:Int) ++ v∧SrW (a + 1) n v
 | [],h => ⟨0,[],rfl,rfl,fun o ho => by cases ho⟩
 | x :: w,⟨h1,h2⟩ => by
   have hs:=j6t.1 h1
   by_cases e:x = (a:Int)
   ·obtain ⟨k,v,hk,hv⟩:=k5c (a:=a) (n:=n) (w:=w) ⟨hs.2,fun o ho => h2 o (List.mem_cons_of_mem _ ho)⟩
    exact ⟨k + 1,v,by rw [hk,e];rfl,hv⟩
   ·refine ⟨0,x :: w,rfl,h1,fun o ho => ?_⟩
    have h0:=h2 x List.mem_cons_self
    rcases List.mem_cons.1 ho with rfl | ho'
    ·have:=h2 o ho;omega
    ·have:=hs.1 o ho';have:=h2 o ho;omega
theorem k7h {a n:Nat} {v:List Int} (han:a < n) (hv:SrW (a + 1) n v):∀ k:Nat,SrW a n (List.replicate k (a:Int) ++ v)
 | 0 => ⟨hv.1,fun o ho => by have:=hv.2 o ho;omega⟩
 | k + 1 => by
   obtain ⟨h1,h2⟩:=k7h han hv k
   refine ⟨?_,fun o ho => ?_⟩
   ·show j5k ((a:Int) :: (List.replicate k (a:Int) ++ v)) = true
    exact j6t.2 ⟨fun y hy => (h2 y hy).1,h1⟩
   ·rcases List.mem_cons.1 (show o ∈ (a:Int) :: (List.replicate k (a:Int) ++ v) from ho) with rfl | ho
    ·omega
    ·exact h2 o ho
theorem k1w {n f:Nat} (hf:f < 3) (hn:n ≤ 5):∀ (j:Nat) (h:List Int) (m:Nat) (x:List Int),j ≤ n→h.length = 15→(∀ o,o < n→0 ≤ hget h f o) →
 (x ∈ j0y n f j h m ↔ ∃ w,SrW (n - j) n w∧w.length = m∧x = subH f w h∧∀ o,o < n→0 ≤ hget x f o)
 | 0,h,m,x,hj,hl,hnn => by
   unfold j0y
   constructor
   ·intro hx
    split at hx
    ·rename_i hm;simp at hx;exact ⟨[],⟨rfl,fun o ho => by cases ho⟩,hm.symm,hx,by rw [hx];exact hnn⟩
    ·cases hx
   ·rintro ⟨w,⟨h1,h2⟩,h3,h4,h5⟩
    have hw:w = []:=by
     cases w with
     | nil => rfl
     | cons o w => have:=h2 o List.mem_cons_self;omega
    subst hw
    rw [if_pos (show m = 0 from h3.symm),h4]
    exact List.mem_singleton.2 rfl
 | j + 1,h,m,x,hj,hl,hnn => by
   have ha:n - (j + 1) < 5:=by omega
   have han:n - (j + 1) < n:=by omega
   have hap:n - (j + 1) + 1 = n - j:=by omega
   unfold j0y
   by_cases hm:m = 0
   ·rw [if_pos hm,List.mem_singleton]
    constructor
    ·rintro rfl
     exact ⟨[],⟨rfl,fun o ho => by cases ho⟩,hm.symm,rfl,hnn⟩
    ·rintro ⟨w,-,h3,h4,-⟩
     have hw:w = []:=List.eq_nil_of_length_eq_zero (h3.trans hm)
     rw [h4,hw];rfl
   ·rw [if_neg hm,List.mem_flatMap]
    constructor
    ·rintro ⟨k,hk,hx⟩
     have hk:=List.mem_range.1 hk
     cases hmv:mvd h f (n - (j + 1)) (-(k:Int)) with
     | none => rw [hmv] at hx;cases hx
     | some y =>
       rw [hmv] at hx
       obtain ⟨h0,rfl⟩:=j4p hmv
       have hl':(hadd h f (n - (j + 1)) (-(k:Int))).length = 15:=j4i hl
       obtain ⟨w,h1,h2,h3,h4⟩:=(k1w hf hn j _ (m - k) x (by omega) hl' (fun o ho => by
        rw [j0m hl hf ha (by omega)]
        split
        ·exact h0
        ·exact hnn o ho)).1 hx
       rw [← hap] at h1
       exact ⟨List.replicate k ((n - (j + 1):Nat):Int) ++ w,k7h han h1 k,by rw [List.length_append,List.length_replicate];omega,by rw [k1l,k2c hf ha k h hl];exact h3,h4⟩
    ·rintro ⟨w,h1,h2,h3,h4⟩
     obtain ⟨k,v,rfl,hv⟩:=k5c h1
     rw [hap] at hv
     rw [List.length_append,List.length_replicate] at h2
     rw [k1l,k2c hf ha k h hl] at h3
     have hl':(hadd h f (n - (j + 1)) (-(k:Int))).length = 15:=j4i hl
     have h0:0 ≤ hget h f (n - (j + 1)) + -(k:Int):=by
      have h5:=k9b hf (w:=v) (f':=f) (o':=n - (j + 1)) hl' (fun o ho => by have:=hv.2 o ho;omega) ha
      rw [← h3,j0m hl hf ha ha,if_pos ⟨rfl,rfl⟩] at h5
      have:=h4 _ han
      omega
     refine ⟨k,List.mem_range.2 (by omega),?_⟩
     have hmv:mvd h f (n - (j + 1)) (-(k:Int)) = some (hadd h f (n - (j + 1)) (-(k:Int))):=if_pos h0
     rw [hmv]
     exact (k1w hf hn j _ (m - k) x (by omega) hl' (fun o ho => by
      rw [j0m hl hf ha (by omega)]
      split
      ·exact h0
      ·exact hnn o ho)).2 ⟨v,hv,by omega,h3,h4⟩
structure Shp (n nf:Nat) (x:List Int):Prop where
 l:x.length = 15
 z:∀ f o,f < 3→o < 5→nf ≤ f ∨ n ≤ o→hget x f o = 0
structure DeOw (n nf:Nat) (d:De):Prop where
 f:0 ≤ d.flock∧d.flock < nf
 o:d.kind = 1 ∨ d.kind = 2 ∨ d.kind = 3→0 ≤ d.owner∧d.owner < n
 x:d.kind = 2→0 ≤ d.other∧d.other < n
 t:d.kind = 5→0 ≤ d.tof∧d.tof < nf
 ne:d.kind = 2→d.owner ≠ d.other
 k:1 ≤ d.kind∧d.kind ≤ 6
theorem j7b {n nf:Nat} {d:De} (h:j0u n nf d = 0):DeOw n nf d:=by
 unfold j0u at h
 obtain ⟨h1,h⟩:=ite0 (by decide) h
 obtain ⟨h2,h⟩:=ite0 (by decide) h
 split at h
 ·exact absurd h (by assumption)
 rename_i h3
 have h3:fldE n nf d = 0:=Classical.not_not.1 h3
 have hk:=j0n.1 ((Bool.not_eq_false _).mp h1)
 have hf:=j1l.1 ((Bool.not_eq_false _).mp h2)
 unfold fldE at h3
 have nf':∀ {x:Int} {m:Nat},¬ ownB m x = false→0 ≤ x∧x < m:=fun h => j1l.1 ((Bool.not_eq_false _).mp h)
 refine ⟨hf,fun hk1 => ?_,fun hk2 => ?_,fun hk5 => ?_,fun hk2 => ?_,hk⟩
 ·by_cases hk2:d.kind = 2
  ·rw [if_neg (by omega),if_pos hk2] at h3
   obtain ⟨a,-⟩:=ite0 (by decide) h3
   exact nf' fun h => a (.inl h)
  ·rw [if_pos (by omega)] at h3
   obtain ⟨a,-⟩:=ite0 (by decide) h3
   exact nf' a
 ·rw [if_neg (by omega),if_pos hk2] at h3
  obtain ⟨a,-⟩:=ite0 (by decide) h3
  exact nf' fun h => a (.inr h)
 ·rw [if_neg (by omega),if_neg (by omega),if_neg (by omega),if_pos hk5] at h3
  obtain ⟨a,-⟩:=ite0 (by decide) h3
  exact nf' a
 ·rw [if_neg (by omega),if_pos hk2] at h3
  obtain ⟨-,h3⟩:=ite0 (by decide) h3
  obtain ⟨a,-⟩:=ite0 (by decide) h3
  exact a
end Go.Proofs.YtmennjmjakdkcaaGreat
