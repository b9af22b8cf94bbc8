/- HerdChecks 41: ChkR, HdAb, SameR. -/
import Derived.Test.YtmennjmjakdkcaaGreatCk01
import Derived.Test.YtmennjmjakdkcaaGreatCk40
import Derived.Test.YtmennjmjakdkcaaGreatCk32
import Derived.Test.YtmennjmjakdkcaaGreatCk29
import Derived.BigRegion
import Derived.Deep.RegionHeld3
import Derived.Test.YtmennjmjakdkcaaGreatCk39
import Derived.Test.YtmennjmjakdkcaaGreatCk17
set_option linter.unusedVariables false
set_option linter.unusedSimpArgs false
namespace Go.Proofs.YtmennjmjakdkcaaGreat
open Go.RowKit
set_option maxRecDepth 1000000
theorem box_sm {w:World} {q:Nat} {x:Sm} (h:w.heap[q]? = some (smO 0 0 0 0 0)) :
 (((((w.setCell ⟨q,0,none⟩ (.int .i64 x.first)).setCell ⟨q,1,none⟩ (.int .i64 x.born)).setCell ⟨q,2,none⟩ (.int .i64 x.bought)).setCell ⟨q,3,none⟩ (.int .i64 x.sold)).setCell ⟨q,4,none⟩ (.int .i64 x.eaten)).heap[q]? = some (smO x.first x.born x.bought x.sold x.eaten):=(j0d (j0d (j0d (j0d (j0d h))))).trans (by simp)
noncomputable def rgCk14:Code:=((Tryz.f3.body.bind (j1x 14)).getD .skip)
def RgCkQ14 (w2:World) (q bo oo co i:Nat) (xe:Int) (x:Sm) (v0 v1 v2 v3 v4 v5 v6 v7 v8 v9 Z0 Z1 Z2 Z3 Z4 Z5 Z6 Z7 Z8 Z9 ZA ZB ZC ZD ZE ZF ZG ZH ZI ZJ ZK ZL ZM ZN ZO ZP ZQ ZR ZS ZT ZU ZV ZW ZX ZY ZZ Za Zb Zc Zd Ze Zf Zg Zh Zi Zj Zk Zl Zm Zn Zo Zp Zq Zr Zs Zt Zu Zv Zw Zx Zy Zz Y0 Y1 Y2 Y3 Y4 Y5 Y6 Y7 Y8 Y9 YA YB YC YD YE YF YG YH YI YJ YK YL YM YN YO YP YQ YR YS YT YU YV YW YX YY YZ Ya Yb Yc Yd Ye Yf Yg Yh Yi Yj Yk Yl Ym Yn Yo Yp Yq Yr Ys Yt Yu Yv Yw Yx Yy:Value) (Q:Exit→Act→World→Prop):Prop:=∀ (Yz X0 X1 X2 X3 X4 X5 X6 X7:Value) (r:Nat) (w':World),w'.heap[r]? = some (smO x.first x.born x.bought x.sold x.eaten)→w2.heap.size ≤ r→Below w2.heap.size w2 w'→Q .normal ⟨#[v0,v1,v2,v3,v4,v5,v6,v7,v8,v9,Z0,Z1,Z2,(Value.slice (some ⟨bo,oo,none⟩) 3 co),(Value.int .i64 (i:Int)),(Value.pointer (some ⟨q,0,none⟩)),Z3,Z4,Z5,Z6,(Value.pointer (some ⟨r,0,none⟩)),(Value.int .i64 xe),Z9,ZA,ZB,ZC,ZD,ZE,ZF,ZG,ZH,ZI,ZJ,ZK,ZL,ZM,ZN,ZO,ZP,ZQ,ZR,ZS,ZT,ZU,ZV,ZW,ZX,ZY,ZZ,Za,Zb,Zc,Zd,Ze,Zf,Zg,Zh,Zi,Zj,Zk,Zl,Zm,Zn,Zo,Zp,Zq,Zr,Zs,Zt,Zu,Zv,Zw,Zx,Zy,Zz,Y0,Y1,Yz,X0,X1,X2,X3,X4,X5,X6,X7,YB,YC,YD,YE,YF,YG,YH,YI,YJ,YK,YL,YM,YN,YO,YP,YQ,YR,YS,YT,YU,YV,YW,YX,YY,YZ,Ya,Yb,Yc,Yd,Ye,Yf,Yg,Yh,Yi,Yj,Yk,Yl,Ym,Yn,Yo,Yp,Yq,Yr,Ys,Yt,Yu,Yv,Yw,Yx,Yy],[]⟩ w'
set_option maxHeartbeats 8000000 in
theorem ck_sum (w2:World) (b:Hb) (q bo oo co i:Nat) (so xe:Int) (x:Sm) (v0 v1 v2 v3 v4 v5 v6 v7 v8 v9 Z0 Z1 Z2 Z3 Z4 Z5 Z6 Z7 Z8 Z9 ZA ZB ZC ZD ZE ZF ZG ZH ZI ZJ ZK ZL ZM ZN ZO ZP ZQ ZR ZS ZT ZU ZV ZW ZX ZY ZZ Za Zb Zc Zd Ze Zf Zg Zh Zi Zj Zk Zl Zm Zn Zo Zp Zq Zr Zs Zt Zu Zv Zw Zx Zy Zz Y0 Y1 Y2 Y3 Y4 Y5 Y6 Y7 Y8 Y9 YA YB YC YD YE YF YG YH YI YJ YK YL YM YN YO YP YQ YR YS YT YU YV YW YX YY YZ Ya Yb Yc Yd Ye Yf Yg Yh Yi Yj Yk Yl Ym Yn Yo Yp Yq Yr Ys Yt Yu Yv Yw Yx Yy:Value) (Q:Exit→Act→World→Prop)
 (HX:Hid (x = sumR b so∧xe = sumE b so)) (HS:Hid (∀ W,Below w2.heap.size w2 W→W.heap[q]? = some b.obj∧HbIn W b∧W.cell? ⟨bo,oo + i,none⟩ = some (.int .i64 so)))
 (hq:q < w2.heap.size) (hbo:bo < w2.heap.size) (i3:(i:Int) < 3) (hco:3 ≤ co) (hcm:co ≤ maxLen)
 (HQ:RgCkQ14 w2 q bo oo co i xe x v0 v1 v2 v3 v4 v5 v6 v7 v8 v9 Z0 Z1 Z2 Z3 Z4 Z5 Z6 Z7 Z8 Z9 ZA ZB ZC ZD ZE ZF ZG ZH ZI ZJ ZK ZL ZM ZN ZO ZP ZQ ZR ZS ZT ZU ZV ZW ZX ZY ZZ Za Zb Zc Zd Ze Zf Zg Zh Zi Zj Zk Zl Zm Zn Zo Zp Zq Zr Zs Zt Zu Zv Zw Zx Zy Zz Y0 Y1 Y2 Y3 Y4 Y5 Y6 Y7 Y8 Y9 YA YB YC YD YE YF YG YH YI YJ YK YL YM YN YO YP YQ YR YS YT YU YV YW YX YY YZ Ya Yb Yc Yd Ye Yf Yg Yh Yi Yj Yk Yl Ym Yn Yo Yp Yq Yr Ys Yt Yu Yv Yw Yx Yy Q) :
 Code.wp Tryz.prog rgCk14 Q ⟨#[v0,v1,v2,v3,v4,v5,v6,v7,v8,v9,Z0,Z1,Z2,(Value.slice (some ⟨bo,oo,none⟩) 3 co),(Value.int .i64 (i:Int)),(Value.pointer (some ⟨q,0,none⟩)),Z3,Z4,Z5,Z6,Z7,Z8,Z9,ZA,ZB,ZC,ZD,ZE,ZF,ZG,ZH,ZI,ZJ,ZK,ZL,ZM,ZN,ZO,ZP,ZQ,ZR,ZS,ZT,ZU,ZV,ZW,ZX,ZY,ZZ,Za,Zb,Zc,Zd,Ze,Zf,Zg,Zh,Zi,Zj,Zk,Zl,Zm,Zn,Zo,Zp,Zq,Zr,Zs,Zt,Zu,Zv,Zw,Zx,Zy,Zz,Y0,Y1,Y2,Y3,Y4,Y5,Y6,Y7,Y8,Y9,YA,YB,YC,YD,YE,YF,YG,YH,YI,YJ,YK,YL,YM,YN,YO,YP,YQ,YR,YS,YT,YU,YV,YW,YX,YY,YZ,Ya,Yb,Yc,Yd,Ye,Yf,Yg,Yh,Yi,Yj,Yk,Yl,Ym,Yn,Yo,Yp,Yq,Yr,Ys,Yt,Yu,Yv,Yw,Yx,Yy],[]⟩ w2:=by
 dsimp only
 conv => arg 2;whnf
 have c0:=HS.out w2 (Below.refl _ _)
 obtain ⟨s0,-,s1⟩:=c0
 obtain ⟨c0,c1,c2,c3,c4⟩:=j0i s0
 have HC:=zQ9 (fun W (hW:Below w2.heap.size w2 W) => show Calls Tryz.prog 15 #[.agg #[.int .i64 b.t,.slice b.A b.l.length b.c,.slice b.Ak b.ks.length b.ck,.slice b.Ah b.hs.length b.ch,.slice b.Ad b.ds.length b.cd],.int .i64 so] W (fun e w' => e = .returned (.tuple #[.agg #[.int .i64 x.first,.int .i64 x.born,.int .i64 x.bought,.int .i64 x.sold,.int .i64 x.eaten],.int .i64 xe])∧Below W.heap.size W w') from by
  rw [HX.out.1,HX.out.2]
  exact Sum_any b so W (HS.out W hW).2.1)
 have HK:=zQ9 (fun W (hW:Below w2.heap.size w2 W) => show W.cell? ⟨q,0,none⟩ = some (.int .i64 b.t)∧W.cell? ⟨q,1,none⟩ = some b.vm∧W.cell? ⟨q,2,none⟩ = some b.vk∧W.cell? ⟨q,3,none⟩ = some b.vh∧W.cell? ⟨q,4,none⟩ = some b.vd∧W.cell? ⟨bo,oo + i,none⟩ = some (.int .i64 so) from zA9 (j0i (HS.out _ hW).1).1 (zA9 (j0i (HS.out _ hW).1).2.1 (zA9 (j0i (HS.out _ hW).1).2.2.1 (zA9 (j0i (HS.out _ hW).1).2.2.2.1 (zA9 (j0i (HS.out _ hW).1).2.2.2.2 (HS.out _ hW).2.2)))))
 clear s0
 go_region_held3 (fun w' => w'.cell? ⟨q,0,none⟩ = some (.int .i64 b.t)∧w'.cell? ⟨q,1,none⟩ = some b.vm∧w'.cell? ⟨q,2,none⟩ = some b.vk∧w'.cell? ⟨q,3,none⟩ = some b.vh∧w'.cell? ⟨q,4,none⟩ = some b.vd∧w'.cell? ⟨bo,oo + i,none⟩ = some (.int .i64 so))
  ((refine HK.out _ ?_
    repeat' (first | (with_reducible exact Below.refl _ _) | (with_reducible refine j1j ?_) | (with_reducible refine Below.setCell ?_ ?_ _) | (with_reducible refine Below.trans ?_ (Below.mono (bal0 _ _) ?_)) | (with_reducible refine Below.trans ?_ (Below.mono hb3 ?_)) | (with_reducible refine Below.grown ?_ hg5 ?_ (fun k e => by cases e;first | omega | (simp;done) | (simp;omega))) | omega | exact zL9 _ | (simp;done) | (simp;omega) | fail)))
  (first | (go_at_call 15;(with_reducible refine (HC.out _ ?_).mono ?_);(repeat' (first | (with_reducible exact Below.refl _ _) | (with_reducible refine j1j ?_) | (with_reducible refine Below.setCell ?_ ?_ _) | (with_reducible refine Below.trans ?_ (Below.mono (bal0 _ _) ?_)) | (with_reducible refine Below.trans ?_ (Below.mono hb3 ?_)) | (with_reducible refine Below.grown ?_ hg5 ?_ (fun k e => by cases e;first | omega | (simp;done) | (simp;omega))) | omega | exact zL9 _ | (simp;done) | (simp;omega) | fail));rintro e w3 ⟨rfl,hb3⟩;have hs3:=hb3.size;(try simp at hs3);(try (have hz:w3.heap[w2.heap.size]? = some (smO 0 0 0 0 0):=j0f (show (w2.drew.alloc _).heap[w2.heap.size]? = _ from j0c rfl) hb3 (by first | exact zL9 _ | (simp;done));obtain ⟨z0,z1,z2,z3,z4⟩:=j0i hz;obtain ⟨f0,f1,f2,f3,f4⟩:=zA9 (frz hz 0) (zA9 (frz hz 1) (zA9 (frz hz 2) (zA9 (frz hz 3) (frz hz 4))));have hlz:=j0a hz))) | fail)
 all_goals
  go_wp2_with fail
  first
   | refine HQ _ _ _ _ _ _ _ _ _ w3.heap.size _ (j0c rfl) ?_ ?_
   | refine HQ _ _ _ _ _ _ _ _ _ w2.heap.size _ (box_sm hz) ?_ ?_
 all_goals
  repeat' (first | (with_reducible exact Below.refl _ _) | (with_reducible refine j1j ?_) | (with_reducible refine Below.setCell ?_ ?_ _) | (with_reducible refine Below.trans ?_ (Below.mono (bal0 _ _) ?_)) | (with_reducible refine Below.trans ?_ (Below.mono hb3 ?_)) | (with_reducible refine Below.grown ?_ hg5 ?_ (fun k e => by cases e;first | omega | (simp;done) | (simp;omega))) | omega | exact zL9 _ | (simp;done) | (simp;omega) | fail)
noncomputable def rgCk15:Code:=((Tryz.f3.body.bind (j1x 15)).getD .skip)
def RgCkQ15 (w2:World) (bb ob cb bo oo co i:Nat) (xe:Int) (x:Sm) (v0 v1 v2 v3 v4 v5 v6 v7 v8 v9 Z0 Z1 X8 Z3 Z4 Z5 Z6 Z7 Z8 Z9 ZA ZB ZC ZD ZE ZF ZG ZH ZI ZJ ZK ZL ZM ZN ZO ZP ZQ ZR ZS ZT ZU ZV ZW ZX ZY ZZ Za Zb Zc Zd Ze Zf Zg Zh Zi Zj Zk Zl Zm Zn Zo Zp Zq Zr Zs Zt Zu Zv Zw Zx Zy Zz Y0 Y1 Y2 Y3 Y4 Y5 Y6 Y7 Y8 Y9 YA YB YC YD YE YF YG YH YI YJ YK YL YM YN YO YP YQ YR YS YT YU YV YW YX YY YZ Ya Yb Yc Yd Ye Yf Yg Yh Yi Yj Yk Yl Ym Yn Yo Yp Yq Yr Ys Yt Yu Yv Yw Yx Yy:Value) (Q:Exit→Act→World→Prop):Prop:=∀ (X9 XA XB XC XD XE XF XG XH XI XJ XK:Value) (r:Nat) (w':World),w'.heap[r]? = some (smO x.first x.born x.bought x.sold x.eaten)→w2.heap.size ≤ r→Below w2.heap.size w2 w'→Q .normal ⟨#[v0,v1,v2,v3,v4,v5,v6,v7,v8,v9,Z0,Z1,(Value.slice (some ⟨bb,ob,none⟩) 3 cb),(Value.slice (some ⟨bo,oo,none⟩) 3 co),(Value.int .i64 (i:Int)),X8,Z3,Z4,Z5,Z6,Z7,Z8,(Value.pointer (some ⟨r,0,none⟩)),(Value.int .i64 xe),ZB,ZC,ZD,ZE,ZF,ZG,ZH,ZI,ZJ,ZK,ZL,ZM,ZN,ZO,ZP,ZQ,ZR,ZS,ZT,ZU,ZV,ZW,ZX,ZY,ZZ,Za,Zb,Zc,Zd,Ze,Zf,Zg,Zh,Zi,Zj,Zk,Zl,Zm,Zn,Zo,Zp,Zq,Zr,Zs,Zt,Zu,Zv,Zw,Zx,Zy,Zz,Y0,Y1,Y2,Y3,Y4,Y5,Y6,Y7,Y8,Y9,YA,X9,XA,XB,XC,XD,XE,XF,XG,XH,XI,XJ,XK,YN,YO,YP,YQ,YR,YS,YT,YU,YV,YW,YX,YY,YZ,Ya,Yb,Yc,Yd,Ye,Yf,Yg,Yh,Yi,Yj,Yk,Yl,Ym,Yn,Yo,Yp,Yq,Yr,Ys,Yt,Yu,Yv,Yw,Yx,Yy],[]⟩ w'
set_option maxHeartbeats 8000000 in
theorem ck_sum9 (w2:World) (b:Hb) (bb ob cb bo oo co i:Nat) (so xe:Int) (x:Sm) (v0 v1 v2 v3 v4 v5 v6 v7 v8 v9 Z0 Z1 X8 Z3 Z4 Z5 Z6 Z7 Z8 Z9 ZA ZB ZC ZD ZE ZF ZG ZH ZI ZJ ZK ZL ZM ZN ZO ZP ZQ ZR ZS ZT ZU ZV ZW ZX ZY ZZ Za Zb Zc Zd Ze Zf Zg Zh Zi Zj Zk Zl Zm Zn Zo Zp Zq Zr Zs Zt Zu Zv Zw Zx Zy Zz Y0 Y1 Y2 Y3 Y4 Y5 Y6 Y7 Y8 Y9 YA YB YC YD YE YF YG YH YI YJ YK YL YM YN YO YP YQ YR YS YT YU YV YW YX YY YZ Ya Yb Yc Yd Ye Yf Yg Yh Yi Yj Yk Yl Ym Yn Yo Yp Yq Yr Ys Yt Yu Yv Yw Yx Yy:Value) (Q:Exit→Act→World→Prop)
 (HX:Hid (x = sumR b so∧xe = sumE b so)) (HS:Hid (∀ W,Below w2.heap.size w2 W→(W.cell? ⟨bb,ob + i * 5,none⟩ = some (.int .i64 b.t)∧W.cell? ⟨bb,ob + i * 5 + 1,none⟩ = some b.vm∧W.cell? ⟨bb,ob + i * 5 + 2,none⟩ = some b.vk∧W.cell? ⟨bb,ob + i * 5 + 3,none⟩ = some b.vh∧W.cell? ⟨bb,ob + i * 5 + 4,none⟩ = some b.vd)∧HbIn W b∧W.cell? ⟨bo,oo + i,none⟩ = some (.int .i64 so)))
 (hbb:bb < w2.heap.size) (hbo:bo < w2.heap.size) (i3:(i:Int) < 3) (hco:3 ≤ co) (hcm:co ≤ maxLen) (hcb:3 ≤ cb) (hcbm:cb ≤ maxLen)
 (HQ:RgCkQ15 w2 bb ob cb bo oo co i xe x v0 v1 v2 v3 v4 v5 v6 v7 v8 v9 Z0 Z1 X8 Z3 Z4 Z5 Z6 Z7 Z8 Z9 ZA ZB ZC ZD ZE ZF ZG ZH ZI ZJ ZK ZL ZM ZN ZO ZP ZQ ZR ZS ZT ZU ZV ZW ZX ZY ZZ Za Zb Zc Zd Ze Zf Zg Zh Zi Zj Zk Zl Zm Zn Zo Zp Zq Zr Zs Zt Zu Zv Zw Zx Zy Zz Y0 Y1 Y2 Y3 Y4 Y5 Y6 Y7 Y8 Y9 YA YB YC YD YE YF YG YH YI YJ YK YL YM YN YO YP YQ YR YS YT YU YV YW YX YY YZ Ya Yb Yc Yd Ye Yf Yg Yh Yi Yj Yk Yl Ym Yn Yo Yp Yq Yr Ys Yt Yu Yv Yw Yx Yy Q) :
 Code.wp Tryz.prog rgCk15 Q ⟨#[v0,v1,v2,v3,v4,v5,v6,v7,v8,v9,Z0,Z1,(Value.slice (some ⟨bb,ob,none⟩) 3 cb),(Value.slice (some ⟨bo,oo,none⟩) 3 co),(Value.int .i64 (i:Int)),X8,Z3,Z4,Z5,Z6,Z7,Z8,Z9,ZA,ZB,ZC,ZD,ZE,ZF,ZG,ZH,ZI,ZJ,ZK,ZL,ZM,ZN,ZO,ZP,ZQ,ZR,ZS,ZT,ZU,ZV,ZW,ZX,ZY,ZZ,Za,Zb,Zc,Zd,Ze,Zf,Zg,Zh,Zi,Zj,Zk,Zl,Zm,Zn,Zo,Zp,Zq,Zr,Zs,Zt,Zu,Zv,Zw,Zx,Zy,Zz,Y0,Y1,Y2,Y3,Y4,Y5,Y6,Y7,Y8,Y9,YA,YB,YC,YD,YE,YF,YG,YH,YI,YJ,YK,YL,YM,YN,YO,YP,YQ,YR,YS,YT,YU,YV,YW,YX,YY,YZ,Ya,Yb,Yc,Yd,Ye,Yf,Yg,Yh,Yi,Yj,Yk,Yl,Ym,Yn,Yo,Yp,Yq,Yr,Ys,Yt,Yu,Yv,Yw,Yx,Yy],[]⟩ w2:=by
 dsimp only
 conv => arg 2;whnf
 have c0:=HS.out w2 (Below.refl _ _)
 obtain ⟨⟨c0,c1,c2,c3,c4⟩,-,s1⟩:=c0
 have HC:=zQ9 (fun W (hW:Below w2.heap.size w2 W) => show Calls Tryz.prog 16 #[.agg #[.int .i64 b.t,.slice b.A b.l.length b.c,.slice b.Ak b.ks.length b.ck,.slice b.Ah b.hs.length b.ch,.slice b.Ad b.ds.length b.cd],.int .i64 so] W (fun e w' => e = .returned (.tuple #[.agg #[.int .i64 x.first,.int .i64 x.born,.int .i64 x.bought,.int .i64 x.sold,.int .i64 x.eaten],.int .i64 xe])∧Below W.heap.size W w') from by
  rw [HX.out.1,HX.out.2]
  exact Sum9_any b so W (HS.out W hW).2.1)
 have HK:=zQ9 (fun W (hW:Below w2.heap.size w2 W) => show W.cell? ⟨bb,ob + i * 5,none⟩ = some (.int .i64 b.t)∧W.cell? ⟨bb,ob + i * 5 + 1,none⟩ = some b.vm∧W.cell? ⟨bb,ob + i * 5 + 2,none⟩ = some b.vk∧W.cell? ⟨bb,ob + i * 5 + 3,none⟩ = some b.vh∧W.cell? ⟨bb,ob + i * 5 + 4,none⟩ = some b.vd∧W.cell? ⟨bo,oo + i,none⟩ = some (.int .i64 so) from zA9 (HS.out _ hW).1.1 (zA9 (HS.out _ hW).1.2.1 (zA9 (HS.out _ hW).1.2.2.1 (zA9 (HS.out _ hW).1.2.2.2.1 (zA9 (HS.out _ hW).1.2.2.2.2 (HS.out _ hW).2.2)))))
 go_region_held3 (fun w' => w'.cell? ⟨bb,ob + i * 5,none⟩ = some (.int .i64 b.t)∧w'.cell? ⟨bb,ob + i * 5 + 1,none⟩ = some b.vm∧w'.cell? ⟨bb,ob + i * 5 + 2,none⟩ = some b.vk∧w'.cell? ⟨bb,ob + i * 5 + 3,none⟩ = some b.vh∧w'.cell? ⟨bb,ob + i * 5 + 4,none⟩ = some b.vd∧w'.cell? ⟨bo,oo + i,none⟩ = some (.int .i64 so))
  ((refine HK.out _ ?_
    repeat' (first | (with_reducible exact Below.refl _ _) | (with_reducible refine j1j ?_) | (with_reducible refine Below.setCell ?_ ?_ _) | (with_reducible refine Below.trans ?_ (Below.mono (bal0 _ _) ?_)) | (with_reducible refine Below.trans ?_ (Below.mono hb3 ?_)) | (with_reducible refine Below.grown ?_ hg5 ?_ (fun k e => by cases e;first | omega | (simp;done) | (simp;omega))) | omega | exact zL9 _ | (simp;done) | (simp;omega) | fail)))
  (first | (go_at_call 16;(with_reducible refine (HC.out _ ?_).mono ?_);(repeat' (first | (with_reducible exact Below.refl _ _) | (with_reducible refine j1j ?_) | (with_reducible refine Below.setCell ?_ ?_ _) | (with_reducible refine Below.trans ?_ (Below.mono (bal0 _ _) ?_)) | (with_reducible refine Below.trans ?_ (Below.mono hb3 ?_)) | (with_reducible refine Below.grown ?_ hg5 ?_ (fun k e => by cases e;first | omega | (simp;done) | (simp;omega))) | omega | exact zL9 _ | (simp;done) | (simp;omega) | fail));rintro e w3 ⟨rfl,hb3⟩;have hs3:=hb3.size;(try simp at hs3);(try (have hz:w3.heap[w2.heap.size]? = some (smO 0 0 0 0 0):=j0f (show (w2.drew.alloc _).heap[w2.heap.size]? = _ from j0c rfl) hb3 (by first | exact zL9 _ | (simp;done));obtain ⟨z0,z1,z2,z3,z4⟩:=j0i hz;obtain ⟨f0,f1,f2,f3,f4⟩:=zA9 (frz hz 0) (zA9 (frz hz 1) (zA9 (frz hz 2) (zA9 (frz hz 3) (frz hz 4))));have hlz:=j0a hz))) | fail)
 all_goals
  go_wp2_with fail
  first
   | refine HQ _ _ _ _ _ _ _ _ _ _ _ _ w3.heap.size _ (j0c rfl) ?_ ?_
   | refine HQ _ _ _ _ _ _ _ _ _ _ _ _ w2.heap.size _ (box_sm hz) ?_ ?_
 all_goals
  repeat' (first | (with_reducible exact Below.refl _ _) | (with_reducible refine j1j ?_) | (with_reducible refine Below.setCell ?_ ?_ _) | (with_reducible refine Below.trans ?_ (Below.mono (bal0 _ _) ?_)) | (with_reducible refine Below.trans ?_ (Below.mono hb3 ?_)) | (with_reducible refine Below.grown ?_ hg5 ?_ (fun k e => by cases e;first | omega | (simp;done) | (simp;omega))) | omega | exact zL9 _ | (simp;done) | (simp;omega) | fail)
noncomputable def rgCk16:Code:=((Tryz.f3.body.bind (j1x 16)).getD .skip)
def RgCkQ16 (w2:World) (bb ob cb i q r1 r2:Nat) (n ne xe:Int) (v0 v1 v2 v3 v4 v5 v6 v7 v8 v9 Z0 Z1 XL ZB ZC ZD ZE ZF ZG ZH ZI ZJ ZK ZL ZM ZN ZO ZP ZQ ZR ZS ZT ZU ZV ZW ZX ZY ZZ Za Zb Zc Zd Ze Zf Zg Zh Zi Zj Zk Zl Zm Zn Zo Zp Zq Zr Zs Zt Zu Zv Zw Zx Zy Zz Y0 Y1 Y2 Y3 Y4 Y5 Y6 Y7 Y8 Y9 YA YB YC YD YE YF YG YH YI YJ YK YL YM YN YO YP YQ YR YS YT YU YV YW YX YY YZ Ya Yb Yc Yd Ye Yf Yg Yh Yi Yj Yk Yl Ym Yn Yo Yp Yq Yr Ys Yt Yu Yv Yw Yx Yy:Value) (Q:Exit→Act→World→Prop):Prop:=∀ (XM XN XO XP XQ XR XS XT XU XV XW XX XY XZ Xa Xb Xc Xd Xe Xf Xg Xh Xi Xj Xk Xl Xm Xn Xo Xp Xq Xr Xs Xt Xu Xv:Value) (w':World),Below w2.heap.size w2 w'→Q .normal ⟨#[v0,v1,v2,v3,v4,v5,v6,v7,v8,v9,Z0,Z1,(Value.slice (some ⟨bb,ob,none⟩) 3 cb),XL,(Value.int .i64 (i:Int)),(Value.pointer (some ⟨q,0,none⟩)),(Value.int .i64 n),(Value.int .i64 ne),(Value.int .i64 n),(Value.int .i64 ne),(Value.pointer (some ⟨r1,0,none⟩)),(Value.int .i64 xe),(Value.pointer (some ⟨r2,0,none⟩)),(Value.int .i64 xe),ZB,ZC,ZD,ZE,ZF,ZG,ZH,ZI,ZJ,ZK,ZL,ZM,ZN,ZO,ZP,ZQ,ZR,ZS,ZT,ZU,ZV,ZW,ZX,ZY,ZZ,Za,Zb,Zc,Zd,Ze,Zf,Zg,Zh,Zi,Zj,Zk,Zl,Zm,Zn,Zo,Zp,Zq,Zr,Zs,Zt,Zu,Zv,Zw,Zx,Zy,Zz,Y0,Y1,Y2,Y3,Y4,Y5,Y6,Y7,Y8,Y9,YA,YB,YC,YD,YE,YF,YG,YH,YI,YJ,YK,YL,YM,XM,XN,XO,XP,XQ,XR,XS,XT,XU,XV,XW,XX,XY,XZ,Xa,Xb,Xc,Xd,Xe,Xf,Xg,Xh,Xi,Xj,Xk,Xl,Xm,Xn,Xo,Xp,Xq,Xr,Xs,Xt,Xu,Xv,(Value.bool false),Yy],[]⟩ w'
set_option maxHeartbeats 8000000 in
theorem ck_same (w2:World) (a b:Hb) (bb ob cb i q r1 r2:Nat) (n ne xe:Int) (x:Sm) (v0 v1 v2 v3 v4 v5 v6 v7 v8 v9 Z0 Z1 XL ZB ZC ZD ZE ZF ZG ZH ZI ZJ ZK ZL ZM ZN ZO ZP ZQ ZR ZS ZT ZU ZV ZW ZX ZY ZZ Za Zb Zc Zd Ze Zf Zg Zh Zi Zj Zk Zl Zm Zn Zo Zp Zq Zr Zs Zt Zu Zv Zw Zx Zy Zz Y0 Y1 Y2 Y3 Y4 Y5 Y6 Y7 Y8 Y9 YA YB YC YD YE YF YG YH YI YJ YK YL YM YN YO YP YQ YR YS YT YU YV YW YX YY YZ Ya Yb Yc Yd Ye Yf Yg Yh Yi Yj Yk Yl Ym Yn Yo Yp Yq Yr Ys Yt Yu Yv Yw Yx Yy:Value) (Q:Exit→Act→World→Prop)
 (HB:Hid (HbIn w2 b∧HbIn w2 a∧a.t = b.t∧a.l = b.l∧a.ks = b.ks∧a.hs = b.hs∧a.ds = b.ds)) (HA:Hid (w2.heap[q]? = some a.obj)) (HC:Hid (w2.cell? ⟨bb,ob + i * 5,none⟩ = some (.int .i64 b.t)∧w2.cell? ⟨bb,ob + i * 5 + 1,none⟩ = some b.vm∧w2.cell? ⟨bb,ob + i * 5 + 2,none⟩ = some b.vk∧w2.cell? ⟨bb,ob + i * 5 + 3,none⟩ = some b.vh∧w2.cell? ⟨bb,ob + i * 5 + 4,none⟩ = some b.vd))
 (HR1:Hid (w2.heap[r1]? = some (smO x.first x.born x.bought x.sold x.eaten))) (HR2:Hid (w2.heap[r2]? = some (smO x.first x.born x.bought x.sold x.eaten))) (hbb:bb < w2.heap.size) (i3:(i:Int) < 3) (hcb:3 ≤ cb) (hcbm:cb ≤ maxLen)
 (HQ:RgCkQ16 w2 bb ob cb i q r1 r2 n ne xe v0 v1 v2 v3 v4 v5 v6 v7 v8 v9 Z0 Z1 XL ZB ZC ZD ZE ZF ZG ZH ZI ZJ ZK ZL ZM ZN ZO ZP ZQ ZR ZS ZT ZU ZV ZW ZX ZY ZZ Za Zb Zc Zd Ze Zf Zg Zh Zi Zj Zk Zl Zm Zn Zo Zp Zq Zr Zs Zt Zu Zv Zw Zx Zy Zz Y0 Y1 Y2 Y3 Y4 Y5 Y6 Y7 Y8 Y9 YA YB YC YD YE YF YG YH YI YJ YK YL YM YN YO YP YQ YR YS YT YU YV YW YX YY YZ Ya Yb Yc Yd Ye Yf Yg Yh Yi Yj Yk Yl Ym Yn Yo Yp Yq Yr Ys Yt Yu Yv Yw Yx Yy Q) :
 Code.wp Tryz.prog rgCk16 Q ⟨#[v0,v1,v2,v3,v4,v5,v6,v7,v8,v9,Z0,Z1,(Value.slice (some ⟨bb,ob,none⟩) 3 cb),XL,(Value.int .i64 (i:Int)),(Value.pointer (some ⟨q,0,none⟩)),(Value.int .i64 n),(Value.int .i64 ne),(Value.int .i64 n),(Value.int .i64 ne),(Value.pointer (some ⟨r1,0,none⟩)),(Value.int .i64 xe),(Value.pointer (some ⟨r2,0,none⟩)),(Value.int .i64 xe),ZB,ZC,ZD,ZE,ZF,ZG,ZH,ZI,ZJ,ZK,ZL,ZM,ZN,ZO,ZP,ZQ,ZR,ZS,ZT,ZU,ZV,ZW,ZX,ZY,ZZ,Za,Zb,Zc,Zd,Ze,Zf,Zg,Zh,Zi,Zj,Zk,Zl,Zm,Zn,Zo,Zp,Zq,Zr,Zs,Zt,Zu,Zv,Zw,Zx,Zy,Zz,Y0,Y1,Y2,Y3,Y4,Y5,Y6,Y7,Y8,Y9,YA,YB,YC,YD,YE,YF,YG,YH,YI,YJ,YK,YL,YM,YN,YO,YP,YQ,YR,YS,YT,YU,YV,YW,YX,YY,YZ,Ya,Yb,Yc,Yd,Ye,Yf,Yg,Yh,Yi,Yj,Yk,Yl,Ym,Yn,Yo,Yp,Yq,Yr,Ys,Yt,Yu,Yv,Yw,Yx,Yy],[]⟩ w2:=by
 dsimp only
 conv => arg 2;whnf
 have hin:∀ d' os,HbIn (Sort.grow (redrawn w2 d') os) b∧HbIn (Sort.grow (redrawn w2 d') os) a:=fun d' os => ⟨HB.out.1.below (below_regrown w2 d' os) (zL9 _),HB.out.2.1.below (below_regrown w2 d' os) (zL9 _)⟩
 obtain ⟨ce,hce⟩:∃ ce,ce = b.chk:=⟨_,rfl⟩
 have hca:a.chk = ce:=by rw [hce];unfold Hb.chk;rw [HB.out.2.2.1,HB.out.2.2.2.1,HB.out.2.2.2.2.1,HB.out.2.2.2.2.2.1,HB.out.2.2.2.2.2.2]
 have c1:∀ d' os,Calls Tryz.prog 17 #[.agg #[.int .i64 a.t,.slice a.A a.l.length a.c,.slice a.Ak a.ks.length a.ck,.slice a.Ah a.hs.length a.ch,.slice a.Ad a.ds.length a.cd]] (Sort.grow (redrawn w2 d') os) (fun e w'' => e = .returned (.int .i64 ce)∧∃ p:Regrown,w'' = Sort.grow (redrawn w2 p.d) p.os):=fun d' os => by rw [← hca];exact Calls.regrown_of (k2e a _ (hin d' os).2)
 have c2:∀ d' os,Calls Tryz.prog 18 #[.agg #[.int .i64 b.t,.slice b.A b.l.length b.c,.slice b.Ak b.ks.length b.ck,.slice b.Ah b.hs.length b.ch,.slice b.Ad b.ds.length b.cd]] (Sort.grow (redrawn w2 d') os) (fun e w'' => e = .returned (.int .i64 ce)∧∃ p:Regrown,w'' = Sort.grow (redrawn w2 p.d) p.os):=fun d' os => by rw [hce];exact Calls.regrown_of (j8n b _ (hin d' os).1)
 have c3:∀ d' os,Calls Tryz.prog 19 #[.agg #[.int .i64 a.t,.slice a.A a.l.length a.c,.slice a.Ak a.ks.length a.ck,.slice a.Ah a.hs.length a.ch,.slice a.Ad a.ds.length a.cd],.agg #[.int .i64 b.t,.slice b.A b.l.length b.c,.slice b.Ak b.ks.length b.ck,.slice b.Ah b.hs.length b.ch,.slice b.Ad b.ds.length b.cd]] (Sort.grow (redrawn w2 d') os) (fun e w'' => e = .returned (.bool true)∧∃ p:Regrown,w'' = Sort.grow (redrawn w2 p.d) p.os):=fun d' os => Calls.regrown_of (k5m a b _ (hin d' os).2 (hin d' os).1 HB.out.2.2.1 HB.out.2.2.2.1 HB.out.2.2.2.2.1 HB.out.2.2.2.2.2.1 HB.out.2.2.2.2.2.2)
 have HCC:=zQ9 (zA9 c1 (zA9 c2 c3))
 clear c1 c2 c3 hca hce hin
 obtain ⟨c0,c1,c2,c3,c4⟩:=HC.out
 obtain ⟨a0,a1,a2,a3,a4⟩:=j0i HA.out
 obtain ⟨s0,s1,s2,s3,s4⟩:=j0i HR1.out
 obtain ⟨t0,t1,t2,t3,t4⟩:=j0i HR2.out
 have hla:=j0a HA.out
 have hl1:=j0a HR1.out
 have hl2:=j0a HR2.out
 have k0:=zA9 (cell_regrown c0) (zA9 (cell_regrown c1) (zA9 (cell_regrown c2) (zA9 (cell_regrown c3) (cell_regrown c4))))
 have k1:=zA9 (cell_regrown a0) (zA9 (cell_regrown a1) (zA9 (cell_regrown a2) (zA9 (cell_regrown a3) (cell_regrown a4))))
 have k2:=zA9 (cell_regrown s0) (zA9 (cell_regrown s1) (zA9 (cell_regrown s2) (zA9 (cell_regrown s3) (cell_regrown s4))))
 have k3:=zA9 (cell_regrown t0) (zA9 (cell_regrown t1) (zA9 (cell_regrown t2) (zA9 (cell_regrown t3) (cell_regrown t4))))
 have e1:(ce == ce) = true:=by simp
 have e2:(n == n) = true:=by simp
 have e3:(ne == ne) = true:=by simp
 have e4:(xe == xe) = true:=by simp
 clear c0 c1 c2 c3 c4 a0 a1 a2 a3 a4 s0 s1 s2 s3 s4 t0 t1 t2 t3 t4
 refine wp_region_quiet_below (by kernel_rfl) (by kernel_rfl) ?_
 repeat (go_big_quiet_step (first | exact HCC.out.1 _ _ | exact HCC.out.2.1 _ _ | exact HCC.out.2.2 _ _))
 refine wpQuiet_nil ?_
 intro _ hw'
 obtain ⟨⟨dq,osq⟩,hw''⟩:=hw'
 subst hw''
 go_wp2_with fail
 exact HQ _ _ _ _ _ _ _ _ _ _ _ _ _ _ _ _ _ _ _ _ _ _ _ _ _ _ _ _ _ _ _ _ _ _ _ _ _ (below_regrown w2 dq osq)
end Go.Proofs.YtmennjmjakdkcaaGreat
namespace Go.Proofs.YtmennjmjakdkcaaGreat
open Go.RowKit Go.MapKept
theorem Rns.get {w:World} {A:Option Addr} {n:Nat} {l:List Rn} (h:Sl eRn 2 w A n l) {k:Nat} (hk:k < n) :
 ∃ b off m,A = some ⟨b,off,none⟩∧b < w.heap.size∧l[k]? = some m∧w.cell? ⟨b,off + k * 2,none⟩ = some (.int .i64 m.lo)∧w.cell? ⟨b,off + k * 2 + 1,none⟩ = some (.int .i64 m.hi):=by
 obtain ⟨b,off,x,hA,hx,hc⟩:=h.at_ hk
 have h0:=hc 0 _ rfl
 exact ⟨b,off,x,hA,j3g h0,hx,h0,hc 1 _ rfl⟩
set_option maxHeartbeats 1000000 in
theorem j8j (A:Option Addr) (n c:Nat) (x:List Rn) (B:Option Addr) (m d:Nat) (y:List Rn) (w:World) (hx:Sl eRn 2 w A n x) (hy:Sl eRn 2 w B m y) (hn:n ≤ maxLen) (hm:m ≤ maxLen) :
 Calls Tryz.prog 26 #[.slice A n c,.slice B m d] w fun e w' => e = .returned (.bool (j1e x y))∧Below w.heap.size w w':=by
 have HL:=zQ9 (zA9 hx.len hy.len)
 have HXY:=zQ9 (zA9 hx hy)
 unfold maxLen at hn hm
 clear hx hy
 by_cases hnm:n = m
 ·subst hnm
  have h0:(n != n) = false:=by simp
  have h0':((n:Int) != (n:Int)) = false:=by simp
  go_enter Tryz.func26,Tryz.ntmps26
  go_wp2_with fail
  go_loopg [5] n (fun g i wr => ∃ k:Nat,k + g = n∧i = .int .i64 k∧x.take k = y.take k∧∃ q,wr = w.drewN q)
  case atStart => exact ⟨0,by omega,rfl,by simp,0,rfl⟩
  case round =>
   obtain ⟨k,hk,rfl,htk,q,rfl⟩:=hrel
   have HK:=zQ9 (zA9 hk htk)
   have hkn:k ≤ n:=by omega
   clear hk htk
   by_cases hlt:k < n
   ·obtain ⟨b0,o0,u,rfl,hb0,hu,p0,p1⟩:=Rns.get HXY.out.1 hlt
    obtain ⟨b1,o1,v,rfl,hb1,hv,q0,q1⟩:=Rns.get HXY.out.2 hlt
    have i0:(0:Int) ≤ (k:Int):=by omega
    have i1:(k:Int) < (n:Int):=by omega
    have HUV:=zQ9 (zA9 hu hv)
    clear hu hv
    by_cases huv:u = v
    ·subst huv
     go_upto_region 6 with (fail)
     go_quiet (fail)
     go_wp2
     go_roundg (gk - 1)
     case measure => have:=HK.out.1;omega
     case rel => exact ⟨k + 1,by have:=HK.out.1;omega,by go_num,j3w HK.out.2 HUV.out.1 HUV.out.2 rfl,_,rfl⟩
    ·have HNE:=zQ9 huv
     cases e1:(u.lo == v.lo) <;> cases e2:(u.hi == v.hi)
     case true.true =>
      exfalso
      exact huv (by cases u;cases v;simp at e1 e2;simp [e1,e2])
     all_goals
      clear huv
      go_upto_region 6 with (fail)
      go_quiet (fail)
      go_wp2
      go_ret
      exact ⟨j0o (by unfold j1e;rw [decide_eq_false (j7f HUV.out.1 HUV.out.2 HNE.out)]),j0l (j0l (Below.refl _ _) _) _⟩
   ·obtain rfl:k = n:=by omega
    go_wp2
    go_ret
    refine ⟨j0o ?_,j0l (Below.refl _ _) _⟩
    have h1:=HK.out.2
    rw [List.take_of_length_le (by have:=HL.out.1;omega),List.take_of_length_le (by have:=HL.out.2;omega)] at h1
    unfold j1e
    rw [decide_eq_true h1]
 ·have h0':((n:Int) != (m:Int)) = true:=by simp;omega
  have HNE:=zQ9 hnm
  clear hnm
  go_enter Tryz.func26,Tryz.ntmps26
  go_wp2
  go_ret
  refine ⟨j0o ?_,Below.refl _ _⟩
  unfold j1e
  rw [decide_eq_false (fun h => HNE.out (by rw [← HL.out.1,← HL.out.2,h]))]
theorem j2j.len {α:Type} {enc:α→List Value} {sz:Nat} {w:World} {A:Option Addr} {n:Nat} {ls:List (List α)} (h:j2j enc sz w A n ls):ls.length = n:=by
 obtain ⟨mv,h1,h2,_⟩:=h
 rw [← h2];exact h1.len
abbrev Table (w:World) (A:Option Addr) (n:Nat) (ls:List (List Rn)):Prop:=j2j eRn 2 w A n ls
set_option maxRecDepth 100000 in
set_option maxHeartbeats 2000000 in
theorem k3u (A:Option Addr) (n c:Nat) (x:List (List Rn)) (B:Option Addr) (m d:Nat) (y:List (List Rn)) (w:World) (hx:Table w A n x) (hy:Table w B m y) (hn:n ≤ maxLen) (hm:m ≤ maxLen) :
 Calls Tryz.prog 39 #[.slice A n c,.slice B m d] w fun e w' => e = .returned (.bool (j1e x y))∧Below w.heap.size w w':=by
 have HL:=zQ9 (zA9 hx.len hy.len)
 have HXY:=zQ9 (zA9 hx hy)
 unfold maxLen at hn hm
 clear hx hy
 by_cases hnm:n = m
 ·subst hnm
  have h0:(n != n) = false:=by simp
  have h0':((n:Int) != (n:Int)) = false:=by simp
  go_enter Tryz.func39,Tryz.ntmps39
  go_wp2_with fail
  go_loopg [5] n (fun g i wr => ∃ k:Nat,k + g = n∧i = .int .i64 k∧x.take k = y.take k∧Below w.heap.size w wr)
  case atStart => exact ⟨0,by omega,rfl,by simp,Below.refl _ _⟩
  case round =>
   obtain ⟨k,hk,rfl,htk,hbl⟩:=hrel
   have HK:=zQ9 (zA9 hk htk)
   have hkn:k ≤ n:=by omega
   clear hk htk
   by_cases hlt:k < n
   ·obtain ⟨b0,o0,C0,u,c0,rfl,hb0,hu,p0,hi0,hc0,hm0⟩:=j2j.get (HXY.out.1.below hbl (zL9 _)) hlt
    obtain ⟨b1,o1,C1,v,c1,rfl,hb1,hv,q0,hi1,hc1,hm1⟩:=j2j.get (HXY.out.2.below hbl (zL9 _)) hlt
    have i0:(0:Int) ≤ (k:Int):=by omega
    have i1:(k:Int) < (n:Int):=by omega
    have HUV:=zQ9 (zA9 hu hv)
    have hmu:u.length ≤ maxLen:=Nat.le_trans hc0 hm0
    have hmv:v.length ≤ maxLen:=Nat.le_trans hc1 hm1
    have cS:∀ d os,Calls Tryz.prog 26 #[.slice C0 u.length c0,.slice C1 v.length c1] (Sort.grow (redrawn wr d) os) (fun e w'' => e = .returned (.bool (j1e u v))∧∃ p:Regrown,w'' = Sort.grow (redrawn wr p.d) p.os):=fun d os =>
     Calls.regrown_of (j8j C0 u.length c0 u C1 v.length c1 v _ (hi0.below (below_regrown wr d os) (zL9 _)) (hi1.below (below_regrown wr d os) (zL9 _)) hmu hmv)
    clear hu hv hi0 hi1
    cases huv:j1e u v
    all_goals
     rw [huv] at cS
     have HC:=zQ9 cS
     have HE:=zQ9 huv
     clear cS huv
     go_upto_region 6 with (fail)
     have k0:=cell_regrown p0
     have k1:=cell_regrown q0
     refine wp_region_quiet_below (by kernel_rfl) (by kernel_rfl) ?_
     repeat (quiet_step (exact HC.out _ _))
     refine wpQuiet_nil ?_
     intro _ hw'
     obtain ⟨⟨dq,osq⟩,hw''⟩:=hw'
     subst hw''
     obtain ⟨w3,hW1⟩:∃ w3,w3 = Sort.grow (redrawn wr dq) osq:=⟨_,rfl⟩
     have hb3:Below wr.heap.size wr w3:=by rw [hW1];exact below_regrown wr dq osq
     rw [← hW1]
     have hbl3:=hbl.trans (hb3.mono hbl.size)
     clear hW1 k0 k1 p0 q0
     go_wp2
    ·go_ret
     exact ⟨j0o (by unfold j1e;rw [decide_eq_false (j7f HUV.out.1 HUV.out.2 (by have:=HE.out;unfold j1e at this;simpa using this))]),hbl3⟩
    ·go_roundg (gk - 1)
     case measure => have:=HK.out.1;omega
     case rel => exact ⟨k + 1,by have:=HK.out.1;omega,by go_num,j3w HK.out.2 HUV.out.1 HUV.out.2 (by have:=HE.out;unfold j1e at this;simpa using this),hbl3⟩
   ·obtain rfl:k = n:=by omega
    go_wp2
    go_ret
    refine ⟨j0o ?_,hbl⟩
    have h1:=HK.out.2
    rw [List.take_of_length_le (by have:=HL.out.1;omega),List.take_of_length_le (by have:=HL.out.2;omega)] at h1
    unfold j1e
    rw [decide_eq_true h1]
 ·have h0':((n:Int) != (m:Int)) = true:=by simp;omega
  have HNE:=zQ9 hnm
  clear hnm
  go_enter Tryz.func39,Tryz.ntmps39
  go_wp2
  go_ret
  refine ⟨j0o ?_,Below.refl _ _⟩
  unfold j1e
  rw [decide_eq_false (fun h => HNE.out (by rw [← HL.out.1,← HL.out.2,h]))]
end Go.Proofs.YtmennjmjakdkcaaGreat
