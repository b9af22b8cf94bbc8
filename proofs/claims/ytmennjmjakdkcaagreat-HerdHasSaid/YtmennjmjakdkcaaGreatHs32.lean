/- HerdHas. -/
import Derived.Test.YtmennjmjakdkcaaGreatHs31
set_option linter.unusedVariables false
set_option linter.unusedSimpArgs false
set_option maxRecDepth 1000000
set_option maxHeartbeats 8000000
namespace Go.Proofs.YtmennjmjakdkcaaGreat
open Go.RowKit
theorem box_rn {w:World} {q:Nat} {x:Rn} (h:w.heap[q]?=some (rnO 0 0)) :
 ((w.setCell ⟨q,0,none⟩ (.int .i64 x.lo)).setCell ⟨q,1,none⟩ (.int .i64 x.hi)).heap[q]?=some (rnO x.lo x.hi):=(j0d (j0d h)).trans (by simp)
noncomputable def rgHs22:Code:=((Tryz.f6.body.bind (j2c 22)).getD .skip)
def RgHsQ22 (w2:World) (q bo oo co i:Nat) (xe:Int) (x:Rn) (v0 v1 v2 v3 v4 v5 v6 v7 v8 v9 Z0 Z1 Z2 Z3 Z4 Z5 Z6 Z7 Z8 Z9 ZA ZB ZC ZD ZE ZF ZG ZH ZI ZJ ZK ZL ZM ZN ZO ZP ZQ ZR ZS ZT ZU ZV ZW ZX ZY ZZ Za Zb Zc Zd Ze Zf Zg Zh Zi Zj Zk Zl Zm Zn Zo Zp Zq Zr Zs Zt Zu Zv Zw Zx Zy Zz Y0 Y1 Y2 Y3 Y4 Y5 Y6 Y7 Y8 Y9 YA YB YC YD YE YF YG YH YI YJ YK YL YM YN YO YP YQ YR YS YT YU YV YW YX YY YZ Ya Yb Yc Yd Ye Yf Yg Yh Yi Yj Yk Yl Ym Yn Yo Yp Yq Yr Ys Yt Yu Yv Yw Yx Yy Yz X0 X1 X2 X3 X4 X5 X6 X7 X8 X9 XA XB XC XD XE XF XG XH XI XJ XK XL XM XN XO XP XQ XR XS XT XU XV XW XX XY XZ Xa Xb Xc Xd Xe Xf Xg Xh Xi Xj Xk Xl Xm Xn Xo Xp Xq Xr Xs Xt Xu Xv Xw Xx Xy Xz K0 K1 K2 K3 K4 K5:Value) (Q:Exit→Act→World→Prop):Prop:=∀ (K6 K7 K8 K9 KA KB KC KD KE:Value) (r:Nat) (w':World),w'.heap[r]?=some (rnO x.lo x.hi)→w2.heap.size≤r→Below w2.heap.size w2 w'→Q .normal ⟨#[v0,v1,v2,v3,v4,v5,v6,v7,v8,v9,Z0,Z1,Z2,(Value.slice (some ⟨bo,oo,none⟩) 3 co),(Value.int .i64 (i:Int)),(Value.pointer (some ⟨q,0,none⟩)),Z3,Z4,Z5,Z6,Z7,Z8,Z9,ZA,ZB,ZC,ZD,ZE,(Value.pointer (some ⟨r,0,none⟩)),(Value.int .i64 xe),ZH,ZI,ZJ,ZK,ZL,ZM,ZN,ZO,ZP,ZQ,ZR,ZS,ZT,ZU,ZV,ZW,ZX,ZY,ZZ,Za,Zb,Zc,Zd,Ze,Zf,Zg,Zh,Zi,Zj,Zk,Zl,Zm,Zn,Zo,Zp,Zq,Zr,Zs,Zt,Zu,Zv,Zw,Zx,Zy,Zz,Y0,Y1,Y2,Y3,Y4,Y5,Y6,Y7,Y8,Y9,YA,YB,YC,YD,YE,YF,YG,YH,YI,YJ,YK,YL,YM,YN,YO,YP,YQ,YR,YS,YT,YU,YV,YW,YX,YY,YZ,Ya,Yb,Yc,Yd,Ye,Yf,Yg,Yh,Yi,Yj,Yk,Yl,Ym,Yn,Yo,Yp,Yq,Yr,Ys,Yt,Yu,Yv,Yw,Yx,Yy,Yz,X0,X1,X2,X3,X4,X5,X6,K6,K7,K8,K9,KA,KB,KC,KD,KE,XG,XH,XI,XJ,XK,XL,XM,XN,XO,XP,XQ,XR,XS,XT,XU,XV,XW,XX,XY,XZ,Xa,Xb,Xc,Xd,Xe,Xf,Xg,Xh,Xi,Xj,Xk,Xl,Xm,Xn,Xo,Xp,Xq,Xr,Xs,Xt,Xu,Xv,Xw,Xx,Xy,Xz,K0,K1,K2,K3,K4,K5],[]⟩ w'
theorem hs_gone (w2:World) (b:Hb) (q bo oo co i:Nat) (so xe:Int) (x:Rn) (v0 v1 v2 v3 v4 v5 v6 v7 v8 v9 Z0 Z1 Z2 Z3 Z4 Z5 Z6 Z7 Z8 Z9 ZA ZB ZC ZD ZE ZF ZG ZH ZI ZJ ZK ZL ZM ZN ZO ZP ZQ ZR ZS ZT ZU ZV ZW ZX ZY ZZ Za Zb Zc Zd Ze Zf Zg Zh Zi Zj Zk Zl Zm Zn Zo Zp Zq Zr Zs Zt Zu Zv Zw Zx Zy Zz Y0 Y1 Y2 Y3 Y4 Y5 Y6 Y7 Y8 Y9 YA YB YC YD YE YF YG YH YI YJ YK YL YM YN YO YP YQ YR YS YT YU YV YW YX YY YZ Ya Yb Yc Yd Ye Yf Yg Yh Yi Yj Yk Yl Ym Yn Yo Yp Yq Yr Ys Yt Yu Yv Yw Yx Yy Yz X0 X1 X2 X3 X4 X5 X6 X7 X8 X9 XA XB XC XD XE XF XG XH XI XJ XK XL XM XN XO XP XQ XR XS XT XU XV XW XX XY XZ Xa Xb Xc Xd Xe Xf Xg Xh Xi Xj Xk Xl Xm Xn Xo Xp Xq Xr Xs Xt Xu Xv Xw Xx Xy Xz K0 K1 K2 K3 K4 K5:Value) (Q:Exit→Act→World→Prop)
 (HX:Hid (x=j2y b so∧xe=j1x b so)) (HS:Hid (∀ W,Below w2.heap.size w2 W→W.heap[q]?=some b.obj∧HbIn W b∧W.cell? ⟨bo,oo+i,none⟩=some (.int .i64 so)))
 (hq:q<w2.heap.size) (hbo:bo<w2.heap.size) (i3:(i:Int)<3) (hco:3≤co) (hcm:co≤maxLen)
 (HQ:RgHsQ22 w2 q bo oo co i xe x v0 v1 v2 v3 v4 v5 v6 v7 v8 v9 Z0 Z1 Z2 Z3 Z4 Z5 Z6 Z7 Z8 Z9 ZA ZB ZC ZD ZE ZF ZG ZH ZI ZJ ZK ZL ZM ZN ZO ZP ZQ ZR ZS ZT ZU ZV ZW ZX ZY ZZ Za Zb Zc Zd Ze Zf Zg Zh Zi Zj Zk Zl Zm Zn Zo Zp Zq Zr Zs Zt Zu Zv Zw Zx Zy Zz Y0 Y1 Y2 Y3 Y4 Y5 Y6 Y7 Y8 Y9 YA YB YC YD YE YF YG YH YI YJ YK YL YM YN YO YP YQ YR YS YT YU YV YW YX YY YZ Ya Yb Yc Yd Ye Yf Yg Yh Yi Yj Yk Yl Ym Yn Yo Yp Yq Yr Ys Yt Yu Yv Yw Yx Yy Yz X0 X1 X2 X3 X4 X5 X6 X7 X8 X9 XA XB XC XD XE XF XG XH XI XJ XK XL XM XN XO XP XQ XR XS XT XU XV XW XX XY XZ Xa Xb Xc Xd Xe Xf Xg Xh Xi Xj Xk Xl Xm Xn Xo Xp Xq Xr Xs Xt Xu Xv Xw Xx Xy Xz K0 K1 K2 K3 K4 K5 Q) :
 Code.wp Tryz.prog rgHs22 Q ⟨#[v0,v1,v2,v3,v4,v5,v6,v7,v8,v9,Z0,Z1,Z2,(Value.slice (some ⟨bo,oo,none⟩) 3 co),(Value.int .i64 (i:Int)),(Value.pointer (some ⟨q,0,none⟩)),Z3,Z4,Z5,Z6,Z7,Z8,Z9,ZA,ZB,ZC,ZD,ZE,ZF,ZG,ZH,ZI,ZJ,ZK,ZL,ZM,ZN,ZO,ZP,ZQ,ZR,ZS,ZT,ZU,ZV,ZW,ZX,ZY,ZZ,Za,Zb,Zc,Zd,Ze,Zf,Zg,Zh,Zi,Zj,Zk,Zl,Zm,Zn,Zo,Zp,Zq,Zr,Zs,Zt,Zu,Zv,Zw,Zx,Zy,Zz,Y0,Y1,Y2,Y3,Y4,Y5,Y6,Y7,Y8,Y9,YA,YB,YC,YD,YE,YF,YG,YH,YI,YJ,YK,YL,YM,YN,YO,YP,YQ,YR,YS,YT,YU,YV,YW,YX,YY,YZ,Ya,Yb,Yc,Yd,Ye,Yf,Yg,Yh,Yi,Yj,Yk,Yl,Ym,Yn,Yo,Yp,Yq,Yr,Ys,Yt,Yu,Yv,Yw,Yx,Yy,Yz,X0,X1,X2,X3,X4,X5,X6,X7,X8,X9,XA,XB,XC,XD,XE,XF,XG,XH,XI,XJ,XK,XL,XM,XN,XO,XP,XQ,XR,XS,XT,XU,XV,XW,XX,XY,XZ,Xa,Xb,Xc,Xd,Xe,Xf,Xg,Xh,Xi,Xj,Xk,Xl,Xm,Xn,Xo,Xp,Xq,Xr,Xs,Xt,Xu,Xv,Xw,Xx,Xy,Xz,K0,K1,K2,K3,K4,K5],[]⟩ w2:=by
 dsimp only
 conv=>arg 2;whnf
 have c0:=HS.out w2 (Below.refl _ _)
 obtain⟨s0,-,s1⟩:=c0
 obtain⟨c0,c1,c2,c3,c4⟩:=j0h s0
 have HC:=zQ9 (fun W (hW:Below w2.heap.size w2 W)=>show Calls Tryz.prog 34 #[.agg #[.int .i64 b.t,.slice b.A b.l.length b.c,.slice b.Ak b.ks.length b.ck,.slice b.Ah b.hs.length b.ch,.slice b.Ad b.ds.length b.cd],.int .i64 so] W (fun e w'=>e=.returned (.tuple #[.agg #[.int .i64 x.lo,.int .i64 x.hi],.int .i64 xe])∧Below W.heap.size W w') from by
  rw[HX.out.1,HX.out.2]
  exact Gone_any b so W (HS.out W hW).2.1)
 have HK:=zQ9 (fun W (hW:Below w2.heap.size w2 W)=>show W.cell? ⟨q,0,none⟩=some (.int .i64 b.t)∧W.cell? ⟨q,1,none⟩=some b.vm∧W.cell? ⟨q,2,none⟩=some b.vk∧W.cell? ⟨q,3,none⟩=some b.vh∧W.cell? ⟨q,4,none⟩=some b.vd∧W.cell? ⟨bo,oo+i,none⟩=some (.int .i64 so) from zA9 (j0h (HS.out _ hW).1).1 (zA9 (j0h (HS.out _ hW).1).2.1 (zA9 (j0h (HS.out _ hW).1).2.2.1 (zA9 (j0h (HS.out _ hW).1).2.2.2.1 (zA9 (j0h (HS.out _ hW).1).2.2.2.2 (HS.out _ hW).2.2)))))
 clear s0
 go_region_held3 (fun w'=>w'.cell? ⟨q,0,none⟩=some (.int .i64 b.t)∧w'.cell? ⟨q,1,none⟩=some b.vm∧w'.cell? ⟨q,2,none⟩=some b.vk∧w'.cell? ⟨q,3,none⟩=some b.vh∧w'.cell? ⟨q,4,none⟩=some b.vd∧w'.cell? ⟨bo,oo+i,none⟩=some (.int .i64 so))
  ((refine HK.out _ ?_
    repeat' (first|(with_reducible exact Below.refl _ _)|(with_reducible refine j1j ?_)|(with_reducible refine Below.setCell ?_ ?_ _)|(with_reducible refine Below.trans ?_ (Below.mono (bal0 _ _) ?_))|(with_reducible refine Below.trans ?_ (Below.mono hb3 ?_))|(with_reducible refine Below.grown ?_ hg5 ?_ (fun k e=>by cases e;first|omega|(simp;done)|(simp;omega)))|omega|exact zL9 _|(simp;done)|(simp;omega)|fail)))
  (first|(go_at_call 34;(with_reducible refine(HC.out _ ?_).mono ?_);(repeat' (first|(with_reducible exact Below.refl _ _)|(with_reducible refine j1j ?_)|(with_reducible refine Below.setCell ?_ ?_ _)|(with_reducible refine Below.trans ?_ (Below.mono (bal0 _ _) ?_))|(with_reducible refine Below.trans ?_ (Below.mono hb3 ?_))|(with_reducible refine Below.grown ?_ hg5 ?_ (fun k e=>by cases e;first|omega|(simp;done)|(simp;omega)))|omega|exact zL9 _|(simp;done)|(simp;omega)|fail));rintro e w3 ⟨rfl,hb3⟩;have hs3:=hb3.size;(try simp at hs3);(try (have hz:w3.heap[w2.heap.size]?=some (rnO 0 0):=j0e (show(w2.drew.alloc _).heap[w2.heap.size]?=_ from j0c rfl) hb3 (by first|exact zL9 _|(simp;done));obtain⟨z0,z1⟩:=blk2 hz;obtain⟨f0,f1⟩:=zA9 (frz hz 0) (frz hz 1);have hlz:=j0a hz)))|fail)
 all_goals
  go_wp2_with fail
  first
   | refine HQ _ _ _ _ _ _ _ _ _ w3.heap.size _ (j0c rfl) ?_ ?_
   | refine HQ _ _ _ _ _ _ _ _ _ w2.heap.size _ (box_rn hz) ?_ ?_
 all_goals
  repeat' (first|(with_reducible exact Below.refl _ _)|(with_reducible refine j1j ?_)|(with_reducible refine Below.setCell ?_ ?_ _)|(with_reducible refine Below.trans ?_ (Below.mono (bal0 _ _) ?_))|(with_reducible refine Below.trans ?_ (Below.mono hb3 ?_))|(with_reducible refine Below.grown ?_ hg5 ?_ (fun k e=>by cases e;first|omega|(simp;done)|(simp;omega)))|omega|exact zL9 _|(simp;done)|(simp;omega)|fail)
noncomputable def rgHs23:Code:=((Tryz.f6.body.bind (j2c 23)).getD .skip)
def RgHsQ23 (w2:World) (bb ob cb bo oo co i:Nat) (xe:Int) (x:Rn) (v0 v1 v2 v3 v4 v5 v6 v7 v8 v9 Z0 Z1 KF Z3 Z4 Z5 Z6 Z7 Z8 Z9 ZA ZB ZC ZD ZE ZF ZG ZH ZI ZJ ZK ZL ZM ZN ZO ZP ZQ ZR ZS ZT ZU ZV ZW ZX ZY ZZ Za Zb Zc Zd Ze Zf Zg Zh Zi Zj Zk Zl Zm Zn Zo Zp Zq Zr Zs Zt Zu Zv Zw Zx Zy Zz Y0 Y1 Y2 Y3 Y4 Y5 Y6 Y7 Y8 Y9 YA YB YC YD YE YF YG YH YI YJ YK YL YM YN YO YP YQ YR YS YT YU YV YW YX YY YZ Ya Yb Yc Yd Ye Yf Yg Yh Yi Yj Yk Yl Ym Yn Yo Yp Yq Yr Ys Yt Yu Yv Yw Yx Yy Yz X0 X1 X2 X3 X4 X5 X6 X7 X8 X9 XA XB XC XD XE XF XG XH XI XJ XK XL XM XN XO XP XQ XR XS XT XU XV XW XX XY XZ Xa Xb Xc Xd Xe Xf Xg Xh Xi Xj Xk Xl Xm Xn Xo Xp Xq Xr Xs Xt Xu Xv Xw Xx Xy Xz K0 K1 K2 K3 K4 K5:Value) (Q:Exit→Act→World→Prop):Prop:=∀ (KG KH KI KJ KK KL KM KN KO KP KQ KR:Value) (r:Nat) (w':World),w'.heap[r]?=some (rnO x.lo x.hi)→w2.heap.size≤r→Below w2.heap.size w2 w'→Q .normal ⟨#[v0,v1,v2,v3,v4,v5,v6,v7,v8,v9,Z0,Z1,(Value.slice (some ⟨bb,ob,none⟩) 3 cb),(Value.slice (some ⟨bo,oo,none⟩) 3 co),(Value.int .i64 (i:Int)),KF,Z3,Z4,Z5,Z6,Z7,Z8,Z9,ZA,ZB,ZC,ZD,ZE,ZF,ZG,(Value.pointer (some ⟨r,0,none⟩)),(Value.int .i64 xe),ZJ,ZK,ZL,ZM,ZN,ZO,ZP,ZQ,ZR,ZS,ZT,ZU,ZV,ZW,ZX,ZY,ZZ,Za,Zb,Zc,Zd,Ze,Zf,Zg,Zh,Zi,Zj,Zk,Zl,Zm,Zn,Zo,Zp,Zq,Zr,Zs,Zt,Zu,Zv,Zw,Zx,Zy,Zz,Y0,Y1,Y2,Y3,Y4,Y5,Y6,Y7,Y8,Y9,YA,YB,YC,YD,YE,YF,YG,YH,YI,YJ,YK,YL,YM,YN,YO,YP,YQ,YR,YS,YT,YU,YV,YW,YX,YY,YZ,Ya,Yb,Yc,Yd,Ye,Yf,Yg,Yh,Yi,Yj,Yk,Yl,Ym,Yn,Yo,Yp,Yq,Yr,Ys,Yt,Yu,Yv,Yw,Yx,Yy,Yz,X0,X1,X2,X3,X4,X5,X6,X7,X8,X9,XA,XB,XC,XD,XE,XF,KG,KH,KI,KJ,KK,KL,KM,KN,KO,KP,KQ,KR,XS,XT,XU,XV,XW,XX,XY,XZ,Xa,Xb,Xc,Xd,Xe,Xf,Xg,Xh,Xi,Xj,Xk,Xl,Xm,Xn,Xo,Xp,Xq,Xr,Xs,Xt,Xu,Xv,Xw,Xx,Xy,Xz,K0,K1,K2,K3,K4,K5],[]⟩ w'
theorem hs_gone9 (w2:World) (b:Hb) (bb ob cb bo oo co i:Nat) (so xe:Int) (x:Rn) (v0 v1 v2 v3 v4 v5 v6 v7 v8 v9 Z0 Z1 KF Z3 Z4 Z5 Z6 Z7 Z8 Z9 ZA ZB ZC ZD ZE ZF ZG ZH ZI ZJ ZK ZL ZM ZN ZO ZP ZQ ZR ZS ZT ZU ZV ZW ZX ZY ZZ Za Zb Zc Zd Ze Zf Zg Zh Zi Zj Zk Zl Zm Zn Zo Zp Zq Zr Zs Zt Zu Zv Zw Zx Zy Zz Y0 Y1 Y2 Y3 Y4 Y5 Y6 Y7 Y8 Y9 YA YB YC YD YE YF YG YH YI YJ YK YL YM YN YO YP YQ YR YS YT YU YV YW YX YY YZ Ya Yb Yc Yd Ye Yf Yg Yh Yi Yj Yk Yl Ym Yn Yo Yp Yq Yr Ys Yt Yu Yv Yw Yx Yy Yz X0 X1 X2 X3 X4 X5 X6 X7 X8 X9 XA XB XC XD XE XF XG XH XI XJ XK XL XM XN XO XP XQ XR XS XT XU XV XW XX XY XZ Xa Xb Xc Xd Xe Xf Xg Xh Xi Xj Xk Xl Xm Xn Xo Xp Xq Xr Xs Xt Xu Xv Xw Xx Xy Xz K0 K1 K2 K3 K4 K5:Value) (Q:Exit→Act→World→Prop)
 (HX:Hid (x=j2y b so∧xe=j1x b so)) (HS:Hid (∀ W,Below w2.heap.size w2 W→(W.cell? ⟨bb,ob+i*5,none⟩=some (.int .i64 b.t)∧W.cell? ⟨bb,ob+i*5+1,none⟩=some b.vm∧W.cell? ⟨bb,ob+i*5+2,none⟩=some b.vk∧W.cell? ⟨bb,ob+i*5+3,none⟩=some b.vh∧W.cell? ⟨bb,ob+i*5+4,none⟩=some b.vd)∧HbIn W b∧W.cell? ⟨bo,oo+i,none⟩=some (.int .i64 so)))
 (hbb:bb<w2.heap.size) (hbo:bo<w2.heap.size) (i3:(i:Int)<3) (hco:3≤co) (hcm:co≤maxLen) (hcb:3≤cb) (hcbm:cb≤maxLen)
 (HQ:RgHsQ23 w2 bb ob cb bo oo co i xe x v0 v1 v2 v3 v4 v5 v6 v7 v8 v9 Z0 Z1 KF Z3 Z4 Z5 Z6 Z7 Z8 Z9 ZA ZB ZC ZD ZE ZF ZG ZH ZI ZJ ZK ZL ZM ZN ZO ZP ZQ ZR ZS ZT ZU ZV ZW ZX ZY ZZ Za Zb Zc Zd Ze Zf Zg Zh Zi Zj Zk Zl Zm Zn Zo Zp Zq Zr Zs Zt Zu Zv Zw Zx Zy Zz Y0 Y1 Y2 Y3 Y4 Y5 Y6 Y7 Y8 Y9 YA YB YC YD YE YF YG YH YI YJ YK YL YM YN YO YP YQ YR YS YT YU YV YW YX YY YZ Ya Yb Yc Yd Ye Yf Yg Yh Yi Yj Yk Yl Ym Yn Yo Yp Yq Yr Ys Yt Yu Yv Yw Yx Yy Yz X0 X1 X2 X3 X4 X5 X6 X7 X8 X9 XA XB XC XD XE XF XG XH XI XJ XK XL XM XN XO XP XQ XR XS XT XU XV XW XX XY XZ Xa Xb Xc Xd Xe Xf Xg Xh Xi Xj Xk Xl Xm Xn Xo Xp Xq Xr Xs Xt Xu Xv Xw Xx Xy Xz K0 K1 K2 K3 K4 K5 Q) :
 Code.wp Tryz.prog rgHs23 Q ⟨#[v0,v1,v2,v3,v4,v5,v6,v7,v8,v9,Z0,Z1,(Value.slice (some ⟨bb,ob,none⟩) 3 cb),(Value.slice (some ⟨bo,oo,none⟩) 3 co),(Value.int .i64 (i:Int)),KF,Z3,Z4,Z5,Z6,Z7,Z8,Z9,ZA,ZB,ZC,ZD,ZE,ZF,ZG,ZH,ZI,ZJ,ZK,ZL,ZM,ZN,ZO,ZP,ZQ,ZR,ZS,ZT,ZU,ZV,ZW,ZX,ZY,ZZ,Za,Zb,Zc,Zd,Ze,Zf,Zg,Zh,Zi,Zj,Zk,Zl,Zm,Zn,Zo,Zp,Zq,Zr,Zs,Zt,Zu,Zv,Zw,Zx,Zy,Zz,Y0,Y1,Y2,Y3,Y4,Y5,Y6,Y7,Y8,Y9,YA,YB,YC,YD,YE,YF,YG,YH,YI,YJ,YK,YL,YM,YN,YO,YP,YQ,YR,YS,YT,YU,YV,YW,YX,YY,YZ,Ya,Yb,Yc,Yd,Ye,Yf,Yg,Yh,Yi,Yj,Yk,Yl,Ym,Yn,Yo,Yp,Yq,Yr,Ys,Yt,Yu,Yv,Yw,Yx,Yy,Yz,X0,X1,X2,X3,X4,X5,X6,X7,X8,X9,XA,XB,XC,XD,XE,XF,XG,XH,XI,XJ,XK,XL,XM,XN,XO,XP,XQ,XR,XS,XT,XU,XV,XW,XX,XY,XZ,Xa,Xb,Xc,Xd,Xe,Xf,Xg,Xh,Xi,Xj,Xk,Xl,Xm,Xn,Xo,Xp,Xq,Xr,Xs,Xt,Xu,Xv,Xw,Xx,Xy,Xz,K0,K1,K2,K3,K4,K5],[]⟩ w2:=by
 dsimp only
 conv=>arg 2;whnf
 have c0:=HS.out w2 (Below.refl _ _)
 obtain⟨⟨c0,c1,c2,c3,c4⟩,-,s1⟩:=c0
 have HC:=zQ9 (fun W (hW:Below w2.heap.size w2 W)=>show Calls Tryz.prog 43 #[.agg #[.int .i64 b.t,.slice b.A b.l.length b.c,.slice b.Ak b.ks.length b.ck,.slice b.Ah b.hs.length b.ch,.slice b.Ad b.ds.length b.cd],.int .i64 so] W (fun e w'=>e=.returned (.tuple #[.agg #[.int .i64 x.lo,.int .i64 x.hi],.int .i64 xe])∧Below W.heap.size W w') from by
  rw[HX.out.1,HX.out.2]
  exact q2s b so W (HS.out W hW).2.1)
 have HK:=zQ9 (fun W (hW:Below w2.heap.size w2 W)=>show W.cell? ⟨bb,ob+i*5,none⟩=some (.int .i64 b.t)∧W.cell? ⟨bb,ob+i*5+1,none⟩=some b.vm∧W.cell? ⟨bb,ob+i*5+2,none⟩=some b.vk∧W.cell? ⟨bb,ob+i*5+3,none⟩=some b.vh∧W.cell? ⟨bb,ob+i*5+4,none⟩=some b.vd∧W.cell? ⟨bo,oo+i,none⟩=some (.int .i64 so) from zA9 (HS.out _ hW).1.1 (zA9 (HS.out _ hW).1.2.1 (zA9 (HS.out _ hW).1.2.2.1 (zA9 (HS.out _ hW).1.2.2.2.1 (zA9 (HS.out _ hW).1.2.2.2.2 (HS.out _ hW).2.2)))))
 go_region_held3 (fun w'=>w'.cell? ⟨bb,ob+i*5,none⟩=some (.int .i64 b.t)∧w'.cell? ⟨bb,ob+i*5+1,none⟩=some b.vm∧w'.cell? ⟨bb,ob+i*5+2,none⟩=some b.vk∧w'.cell? ⟨bb,ob+i*5+3,none⟩=some b.vh∧w'.cell? ⟨bb,ob+i*5+4,none⟩=some b.vd∧w'.cell? ⟨bo,oo+i,none⟩=some (.int .i64 so))
  ((refine HK.out _ ?_
    repeat' (first|(with_reducible exact Below.refl _ _)|(with_reducible refine j1j ?_)|(with_reducible refine Below.setCell ?_ ?_ _)|(with_reducible refine Below.trans ?_ (Below.mono (bal0 _ _) ?_))|(with_reducible refine Below.trans ?_ (Below.mono hb3 ?_))|(with_reducible refine Below.grown ?_ hg5 ?_ (fun k e=>by cases e;first|omega|(simp;done)|(simp;omega)))|omega|exact zL9 _|(simp;done)|(simp;omega)|fail)))
  (first|(go_at_call 43;(with_reducible refine(HC.out _ ?_).mono ?_);(repeat' (first|(with_reducible exact Below.refl _ _)|(with_reducible refine j1j ?_)|(with_reducible refine Below.setCell ?_ ?_ _)|(with_reducible refine Below.trans ?_ (Below.mono (bal0 _ _) ?_))|(with_reducible refine Below.trans ?_ (Below.mono hb3 ?_))|(with_reducible refine Below.grown ?_ hg5 ?_ (fun k e=>by cases e;first|omega|(simp;done)|(simp;omega)))|omega|exact zL9 _|(simp;done)|(simp;omega)|fail));rintro e w3 ⟨rfl,hb3⟩;have hs3:=hb3.size;(try simp at hs3);(try (have hz:w3.heap[w2.heap.size]?=some (rnO 0 0):=j0e (show(w2.drew.alloc _).heap[w2.heap.size]?=_ from j0c rfl) hb3 (by first|exact zL9 _|(simp;done));obtain⟨z0,z1⟩:=blk2 hz;obtain⟨f0,f1⟩:=zA9 (frz hz 0) (frz hz 1);have hlz:=j0a hz)))|fail)
 all_goals
  go_wp2_with fail
  first
   | refine HQ _ _ _ _ _ _ _ _ _ _ _ _ w3.heap.size _ (j0c rfl) ?_ ?_
   | refine HQ _ _ _ _ _ _ _ _ _ _ _ _ w2.heap.size _ (box_rn hz) ?_ ?_
 all_goals
  repeat' (first|(with_reducible exact Below.refl _ _)|(with_reducible refine j1j ?_)|(with_reducible refine Below.setCell ?_ ?_ _)|(with_reducible refine Below.trans ?_ (Below.mono (bal0 _ _) ?_))|(with_reducible refine Below.trans ?_ (Below.mono hb3 ?_))|(with_reducible refine Below.grown ?_ hg5 ?_ (fun k e=>by cases e;first|omega|(simp;done)|(simp;omega)))|omega|exact zL9 _|(simp;done)|(simp;omega)|fail)
noncomputable def rgHs24:Code:=((Tryz.f6.body.bind (j2c 24)).getD .skip)
def RgHsQ24 (w2:World) (bb ob cb i q r1 r2 n1 c1 c2 n3 c3 c4:Nat) (A1 A2 A3 A4:Option Addr) (te xe:Int) (v0 v1 v2 v3 v4 v5 v6 v7 v8 v9 Z0 Z1 KS Z3 Z4 Z5 Z6 ZJ ZK ZL ZM ZN ZO ZP ZQ ZR ZS ZT ZU ZV ZW ZX ZY ZZ Za Zb Zc Zd Ze Zf Zg Zh Zi Zj Zk Zl Zm Zn Zo Zp Zq Zr Zs Zt Zu Zv Zw Zx Zy Zz Y0 Y1 Y2 Y3 Y4 Y5 Y6 Y7 Y8 Y9 YA YB YC YD YE YF YG YH YI YJ YK YL YM YN YO YP YQ YR YS YT YU YV YW YX YY YZ Ya Yb Yc Yd Ye Yf Yg Yh Yi Yj Yk Yl Ym Yn Yo Yp Yq Yr Ys Yt Yu Yv Yw Yx Yy Yz X0 X1 X2 X3 X4 X5 X6 X7 X8 X9 XA XB XC XD XE XF XG XH XI XJ XK XL XM XN XO XP XQ XR XS XT XU XV XW XX XY XZ Xa Xb Xc Xd Xe Xf Xg Xh Xi Xj Xk Xl Xm Xn Xo Xp Xq Xr Xs Xt Xu Xv Xw Xx Xy Xz K0 K1 K2 K3 K4 K5:Value) (Q:Exit→Act→World→Prop):Prop:=∀ (KT KU KV KW KX KY KZ Ka Kb Kc Kd Ke Kf Kg Kh Ki Kj Kk Kl Km Kn Ko Kp Kq Kr Ks Kt Ku Kv Kw Kx Ky Kz J0 J1 J2 J3 J4:Value) (w':World),Below w2.heap.size w2 w'→Q .normal ⟨#[v0,v1,v2,v3,v4,v5,v6,v7,v8,v9,Z0,Z1,(Value.slice (some ⟨bb,ob,none⟩) 3 cb),KS,(Value.int .i64 (i:Int)),(Value.pointer (some ⟨q,0,none⟩)),Z3,Z4,Z5,Z6,(Value.slice A1 n1 c1),(Value.int .i64 te),(Value.slice A2 n1 c2),(Value.int .i64 te),(Value.slice A3 n3 c3),(Value.int .i64 te),(Value.slice A4 n3 c4),(Value.int .i64 te),(Value.pointer (some ⟨r1,0,none⟩)),(Value.int .i64 xe),(Value.pointer (some ⟨r2,0,none⟩)),(Value.int .i64 xe),ZJ,ZK,ZL,ZM,ZN,ZO,ZP,ZQ,ZR,ZS,ZT,ZU,ZV,ZW,ZX,ZY,ZZ,Za,Zb,Zc,Zd,Ze,Zf,Zg,Zh,Zi,Zj,Zk,Zl,Zm,Zn,Zo,Zp,Zq,Zr,Zs,Zt,Zu,Zv,Zw,Zx,Zy,Zz,Y0,Y1,Y2,Y3,Y4,Y5,Y6,Y7,Y8,Y9,YA,YB,YC,YD,YE,YF,YG,YH,YI,YJ,YK,YL,YM,YN,YO,YP,YQ,YR,YS,YT,YU,YV,YW,YX,YY,YZ,Ya,Yb,Yc,Yd,Ye,Yf,Yg,Yh,Yi,Yj,Yk,Yl,Ym,Yn,Yo,Yp,Yq,Yr,Ys,Yt,Yu,Yv,Yw,Yx,Yy,Yz,X0,X1,X2,X3,X4,X5,X6,X7,X8,X9,XA,XB,XC,XD,XE,XF,XG,XH,XI,XJ,XK,XL,XM,XN,XO,XP,XQ,XR,KT,KU,KV,KW,KX,KY,KZ,Ka,Kb,Kc,Kd,Ke,Kf,Kg,Kh,Ki,Kj,Kk,Kl,Km,Kn,Ko,Kp,Kq,Kr,Ks,Kt,Ku,Kv,Kw,Kx,Ky,Kz,J0,J1,J2,J3,J4,(Value.bool false),K5],[]⟩ w'
theorem hs_same (w2:World) (a b:Hb) (bb ob cb i q r1 r2 n1 c1 c2 n3 c3 c4:Nat) (A1 A2 A3 A4:Option Addr) (te xe:Int) (l1:List Rn) (l3:List Gf) (x:Rn) (v0 v1 v2 v3 v4 v5 v6 v7 v8 v9 Z0 Z1 KS Z3 Z4 Z5 Z6 ZJ ZK ZL ZM ZN ZO ZP ZQ ZR ZS ZT ZU ZV ZW ZX ZY ZZ Za Zb Zc Zd Ze Zf Zg Zh Zi Zj Zk Zl Zm Zn Zo Zp Zq Zr Zs Zt Zu Zv Zw Zx Zy Zz Y0 Y1 Y2 Y3 Y4 Y5 Y6 Y7 Y8 Y9 YA YB YC YD YE YF YG YH YI YJ YK YL YM YN YO YP YQ YR YS YT YU YV YW YX YY YZ Ya Yb Yc Yd Ye Yf Yg Yh Yi Yj Yk Yl Ym Yn Yo Yp Yq Yr Ys Yt Yu Yv Yw Yx Yy Yz X0 X1 X2 X3 X4 X5 X6 X7 X8 X9 XA XB XC XD XE XF XG XH XI XJ XK XL XM XN XO XP XQ XR XS XT XU XV XW XX XY XZ Xa Xb Xc Xd Xe Xf Xg Xh Xi Xj Xk Xl Xm Xn Xo Xp Xq Xr Xs Xt Xu Xv Xw Xx Xy Xz K0 K1 K2 K3 K4 K5:Value) (Q:Exit→Act→World→Prop)
 (HB:Hid (HbIn w2 b∧HbIn w2 a∧a.t=b.t∧a.l=b.l∧a.ks=b.ks∧a.hs=b.hs∧a.ds=b.ds)) (HA:Hid (w2.heap[q]?=some a.obj)) (HC:Hid (w2.cell? ⟨bb,ob+i*5,none⟩=some (.int .i64 b.t)∧w2.cell? ⟨bb,ob+i*5+1,none⟩=some b.vm∧w2.cell? ⟨bb,ob+i*5+2,none⟩=some b.vk∧w2.cell? ⟨bb,ob+i*5+3,none⟩=some b.vh∧w2.cell? ⟨bb,ob+i*5+4,none⟩=some b.vd))
 (HR1:Hid (w2.heap[r1]?=some (rnO x.lo x.hi))) (HR2:Hid (w2.heap[r2]?=some (rnO x.lo x.hi))) (HT:Hid (Sl eRn 2 w2 A1 n1 l1∧Sl eRn 2 w2 A2 n1 l1∧n1≤maxLen)) (HG:Hid (Sl eGf 4 w2 A3 n3 l3∧Sl eGf 4 w2 A4 n3 l3∧n3≤maxLen)) (hbb:bb<w2.heap.size) (i3:(i:Int)<3) (hcb:3≤cb) (hcbm:cb≤maxLen)
 (HQ:RgHsQ24 w2 bb ob cb i q r1 r2 n1 c1 c2 n3 c3 c4 A1 A2 A3 A4 te xe v0 v1 v2 v3 v4 v5 v6 v7 v8 v9 Z0 Z1 KS Z3 Z4 Z5 Z6 ZJ ZK ZL ZM ZN ZO ZP ZQ ZR ZS ZT ZU ZV ZW ZX ZY ZZ Za Zb Zc Zd Ze Zf Zg Zh Zi Zj Zk Zl Zm Zn Zo Zp Zq Zr Zs Zt Zu Zv Zw Zx Zy Zz Y0 Y1 Y2 Y3 Y4 Y5 Y6 Y7 Y8 Y9 YA YB YC YD YE YF YG YH YI YJ YK YL YM YN YO YP YQ YR YS YT YU YV YW YX YY YZ Ya Yb Yc Yd Ye Yf Yg Yh Yi Yj Yk Yl Ym Yn Yo Yp Yq Yr Ys Yt Yu Yv Yw Yx Yy Yz X0 X1 X2 X3 X4 X5 X6 X7 X8 X9 XA XB XC XD XE XF XG XH XI XJ XK XL XM XN XO XP XQ XR XS XT XU XV XW XX XY XZ Xa Xb Xc Xd Xe Xf Xg Xh Xi Xj Xk Xl Xm Xn Xo Xp Xq Xr Xs Xt Xu Xv Xw Xx Xy Xz K0 K1 K2 K3 K4 K5 Q) :
 Code.wp Tryz.prog rgHs24 Q ⟨#[v0,v1,v2,v3,v4,v5,v6,v7,v8,v9,Z0,Z1,(Value.slice (some ⟨bb,ob,none⟩) 3 cb),KS,(Value.int .i64 (i:Int)),(Value.pointer (some ⟨q,0,none⟩)),Z3,Z4,Z5,Z6,(Value.slice A1 n1 c1),(Value.int .i64 te),(Value.slice A2 n1 c2),(Value.int .i64 te),(Value.slice A3 n3 c3),(Value.int .i64 te),(Value.slice A4 n3 c4),(Value.int .i64 te),(Value.pointer (some ⟨r1,0,none⟩)),(Value.int .i64 xe),(Value.pointer (some ⟨r2,0,none⟩)),(Value.int .i64 xe),ZJ,ZK,ZL,ZM,ZN,ZO,ZP,ZQ,ZR,ZS,ZT,ZU,ZV,ZW,ZX,ZY,ZZ,Za,Zb,Zc,Zd,Ze,Zf,Zg,Zh,Zi,Zj,Zk,Zl,Zm,Zn,Zo,Zp,Zq,Zr,Zs,Zt,Zu,Zv,Zw,Zx,Zy,Zz,Y0,Y1,Y2,Y3,Y4,Y5,Y6,Y7,Y8,Y9,YA,YB,YC,YD,YE,YF,YG,YH,YI,YJ,YK,YL,YM,YN,YO,YP,YQ,YR,YS,YT,YU,YV,YW,YX,YY,YZ,Ya,Yb,Yc,Yd,Ye,Yf,Yg,Yh,Yi,Yj,Yk,Yl,Ym,Yn,Yo,Yp,Yq,Yr,Ys,Yt,Yu,Yv,Yw,Yx,Yy,Yz,X0,X1,X2,X3,X4,X5,X6,X7,X8,X9,XA,XB,XC,XD,XE,XF,XG,XH,XI,XJ,XK,XL,XM,XN,XO,XP,XQ,XR,XS,XT,XU,XV,XW,XX,XY,XZ,Xa,Xb,Xc,Xd,Xe,Xf,Xg,Xh,Xi,Xj,Xk,Xl,Xm,Xn,Xo,Xp,Xq,Xr,Xs,Xt,Xu,Xv,Xw,Xx,Xy,Xz,K0,K1,K2,K3,K4,K5],[]⟩ w2:=by
 dsimp only
 conv=>arg 2;whnf
 have hin:∀ d' os,HbIn (Sort.grow (redrawn w2 d') os) b∧HbIn (Sort.grow (redrawn w2 d') os) a:=fun d' os=>⟨HB.out.1.below (below_regrown w2 d' os) (zL9 _),HB.out.2.1.below (below_regrown w2 d' os) (zL9 _)⟩
 have c1:∀ d' os,Calls Tryz.prog 26 #[.slice A1 n1 c1,.slice A2 n1 c2] (Sort.grow (redrawn w2 d') os) (fun e w''=>e=.returned (.bool true)∧∃ p:Regrown,w''=Sort.grow (redrawn w2 p.d) p.os):=fun d' os=>by have h:=j4q A1 n1 c1 l1 A2 n1 c2 l1 _ (HT.out.1.below (below_regrown w2 d' os) (zL9 _)) (HT.out.2.1.below (below_regrown w2 d' os) (zL9 _)) HT.out.2.2 HT.out.2.2;rw[j4p] at h;exact Calls.regrown_of h
 have c2:∀ d' os,Calls Tryz.prog 44 #[.slice A3 n3 c3,.slice A4 n3 c4] (Sort.grow (redrawn w2 d') os) (fun e w''=>e=.returned (.bool true)∧∃ p:Regrown,w''=Sort.grow (redrawn w2 p.d) p.os):=fun d' os=>Calls.regrown_of (k7h A3 n3 c3 l3 A4 c4 _ (HG.out.1.below (below_regrown w2 d' os) (zL9 _)) (HG.out.2.1.below (below_regrown w2 d' os) (zL9 _)) HG.out.2.2)
 have c3:∀ d' os,Calls Tryz.prog 19 #[.agg #[.int .i64 a.t,.slice a.A a.l.length a.c,.slice a.Ak a.ks.length a.ck,.slice a.Ah a.hs.length a.ch,.slice a.Ad a.ds.length a.cd],.agg #[.int .i64 b.t,.slice b.A b.l.length b.c,.slice b.Ak b.ks.length b.ck,.slice b.Ah b.hs.length b.ch,.slice b.Ad b.ds.length b.cd]] (Sort.grow (redrawn w2 d') os) (fun e w''=>e=.returned (.bool true)∧∃ p:Regrown,w''=Sort.grow (redrawn w2 p.d) p.os):=fun d' os=>Calls.regrown_of (k7j a b _ (hin d' os).2 (hin d' os).1 HB.out.2.2.1 HB.out.2.2.2.1 HB.out.2.2.2.2.1 HB.out.2.2.2.2.2.1 HB.out.2.2.2.2.2.2)
 have HCC:=zQ9 (zA9 c1 (zA9 c2 c3))
 clear c1 c2 c3 hin
 obtain⟨c0,c1,c2,c3,c4⟩:=HC.out
 obtain⟨a0,a1,a2,a3,a4⟩:=j0h HA.out
 obtain⟨s0,s1⟩:=blk2 HR1.out
 obtain⟨t0,t1⟩:=blk2 HR2.out
 have hla:=j0a HA.out
 have hl1:=j0a HR1.out
 have hl2:=j0a HR2.out
 have k0:=zA9 (cell_regrown c0) (zA9 (cell_regrown c1) (zA9 (cell_regrown c2) (zA9 (cell_regrown c3) (cell_regrown c4))))
 have k1:=zA9 (cell_regrown a0) (zA9 (cell_regrown a1) (zA9 (cell_regrown a2) (zA9 (cell_regrown a3) (cell_regrown a4))))
 have k2:=zA9 (cell_regrown s0) (cell_regrown s1)
 have k3:=zA9 (cell_regrown t0) (cell_regrown t1)
 have e1:(te==te)=true:=by simp
 have e2:(xe==xe)=true:=by simp
 clear c0 c1 c2 c3 c4 a0 a1 a2 a3 a4 s0 s1 t0 t1
 refine wp_region_quiet_below (by kernel_rfl) (by kernel_rfl) ?_
 repeat (go_big_quiet_step (first|exact HCC.out.1 _ _|exact HCC.out.2.1 _ _|exact HCC.out.2.2 _ _))
 refine wpQuiet_nil ?_
 intro _ hw'
 obtain⟨⟨dq,osq⟩,hw''⟩:=hw'
 subst hw''
 go_wp2_with fail
 exact HQ _ _ _ _ _ _ _ _ _ _ _ _ _ _ _ _ _ _ _ _ _ _ _ _ _ _ _ _ _ _ _ _ _ _ _ _ _ _ _ (below_regrown w2 dq osq)
noncomputable def rgHs7:Code:=((Tryz.f6.body.bind (j2c 7)).getD .skip)
def RgHsQ7 (w2:World) (b M O:Hb) (p H m q:Nat) (owner:Int) (v0 v1 v3 v5 v6 v7 v8 Z2 KS J5 KF Z3 Z4 Z5 Z6 Z7 Z8 Z9 ZA ZB ZC ZD ZE ZF ZG ZH ZI ZJ ZK ZL ZM ZN ZO ZP ZQ ZR ZS ZT ZU ZV ZW ZX ZY ZZ Za Zb Zc Zd Ze Zf Zg Zh Zi Zj Zk Zl Zm Zn Zo Zp Zq Zr Zs Zt Zu Zv Zw Zx Zy Zz Y0 Y1 Y2 Y3 Y4 Y5 Y6 Y7 Y8 Y9 YA YB YC YD YE YF YG YH YI YJ YK YL YM YN YO YP YQ YR YS YT YU YV YW YX YY YZ Ya Yb Yc Yd Ye Yf Yg Yh Yi Yj Yk Yl Ym Yn Yo Yp Yq Yr Ys Yt Yu Yv Yw Yx Yy Yz X0 X1 X2 X3 X4 X5 X6 X7 X8 X9 XA XB XC XD XE XF XG XH XI XJ XK XL XM XN XO XP XQ XR XS XT XU XV XW XX XY XZ Xa Xb Xc Xd Xe Xf Xg Xh Xi Xj Xk Xl Xm Xn Xo Xp Xq Xr Xs Xt Xu Xv Xw Xx Xy Xz K0 K1 K2 K3 K4 K5:Value) (Q:Exit→Act→World→Prop):Prop:=∀ (J6 J7 J8 J9 JA JB JC JD JE JF JG JH JI JJ:Value) (r s u:Nat) (w':World),w'.heap[r]?=some (bs3 b M O)→w'.heap[s]?=some (.cells #[.int .i64 owner,.int .i64 (u:Int),.int .i64 owner] 3 (0,0))→w2.heap.size≤r→w2.heap.size≤s→w2.grownBy w' (some H)→Q .normal ⟨#[v0,v1,(Value.int .i64 owner),v3,(Value.pointer (some ⟨p,0,none⟩)),v5,v6,v7,v8,(Value.pointer (some ⟨H,0,none⟩)),(Value.pointer (some ⟨m,0,none⟩)),(Value.pointer (some ⟨q,0,none⟩)),(Value.slice (some ⟨r,0,none⟩) 3 3),(Value.slice (some ⟨s,0,none⟩) 3 3),J5,KF,Z3,Z4,Z5,Z6,Z7,Z8,Z9,ZA,ZB,ZC,ZD,ZE,ZF,ZG,ZH,ZI,ZJ,ZK,ZL,ZM,ZN,ZO,ZP,ZQ,ZR,ZS,ZT,ZU,ZV,ZW,ZX,J6,J7,J8,J9,JA,JB,JC,JD,JE,JF,JG,JH,JI,JJ,Zm,Zn,Zo,Zp,Zq,Zr,Zs,Zt,Zu,Zv,Zw,Zx,Zy,Zz,Y0,Y1,Y2,Y3,Y4,Y5,Y6,Y7,Y8,Y9,YA,YB,YC,YD,YE,YF,YG,YH,YI,YJ,YK,YL,YM,YN,YO,YP,YQ,YR,YS,YT,YU,YV,YW,YX,YY,YZ,Ya,Yb,Yc,Yd,Ye,Yf,Yg,Yh,Yi,Yj,Yk,Yl,Ym,Yn,Yo,Yp,Yq,Yr,Ys,Yt,Yu,Yv,Yw,Yx,Yy,Yz,X0,X1,X2,X3,X4,X5,X6,X7,X8,X9,XA,XB,XC,XD,XE,XF,XG,XH,XI,XJ,XK,XL,XM,XN,XO,XP,XQ,XR,XS,XT,XU,XV,XW,XX,XY,XZ,Xa,Xb,Xc,Xd,Xe,Xf,Xg,Xh,Xi,Xj,Xk,Xl,Xm,Xn,Xo,Xp,Xq,Xr,Xs,Xt,Xu,Xv,Xw,Xx,Xy,Xz,K0,K1,K2,K3,K4,K5],[]⟩ w'
theorem hs_lists (w2:World) (b M O:Hb) (p H m q N:Nat) (owner:Int) (v0 v1 v3 v5 v6 v7 v8 Z2 KS J5 KF Z3 Z4 Z5 Z6 Z7 Z8 Z9 ZA ZB ZC ZD ZE ZF ZG ZH ZI ZJ ZK ZL ZM ZN ZO ZP ZQ ZR ZS ZT ZU ZV ZW ZX ZY ZZ Za Zb Zc Zd Ze Zf Zg Zh Zi Zj Zk Zl Zm Zn Zo Zp Zq Zr Zs Zt Zu Zv Zw Zx Zy Zz Y0 Y1 Y2 Y3 Y4 Y5 Y6 Y7 Y8 Y9 YA YB YC YD YE YF YG YH YI YJ YK YL YM YN YO YP YQ YR YS YT YU YV YW YX YY YZ Ya Yb Yc Yd Ye Yf Yg Yh Yi Yj Yk Yl Ym Yn Yo Yp Yq Yr Ys Yt Yu Yv Yw Yx Yy Yz X0 X1 X2 X3 X4 X5 X6 X7 X8 X9 XA XB XC XD XE XF XG XH XI XJ XK XL XM XN XO XP XQ XR XS XT XU XV XW XX XY XZ Xa Xb Xc Xd Xe Xf Xg Xh Xi Xj Xk Xl Xm Xn Xo Xp Xq Xr Xs Xt Xu Xv Xw Xx Xy Xz K0 K1 K2 K3 K4 K5:Value) (Q:Exit→Act→World→Prop)
 (HS:Hid (∀ W,w2.grownBy W (some H)→W.heap[p]?=some b.obj∧W.heap[m]?=some M.obj∧W.heap[q]?=some O.obj)) (HH:Hid (Hd w2 H N)) (hN:N≤4611686018000000000) (hM:M.l.length≤20) (hHl:H<w2.heap.size) (hpl:p<w2.heap.size) (hml:m<w2.heap.size) (hql:q<w2.heap.size)
 (HQ:RgHsQ7 w2 b M O p H m q owner v0 v1 v3 v5 v6 v7 v8 Z2 KS J5 KF Z3 Z4 Z5 Z6 Z7 Z8 Z9 ZA ZB ZC ZD ZE ZF ZG ZH ZI ZJ ZK ZL ZM ZN ZO ZP ZQ ZR ZS ZT ZU ZV ZW ZX ZY ZZ Za Zb Zc Zd Ze Zf Zg Zh Zi Zj Zk Zl Zm Zn Zo Zp Zq Zr Zs Zt Zu Zv Zw Zx Zy Zz Y0 Y1 Y2 Y3 Y4 Y5 Y6 Y7 Y8 Y9 YA YB YC YD YE YF YG YH YI YJ YK YL YM YN YO YP YQ YR YS YT YU YV YW YX YY YZ Ya Yb Yc Yd Ye Yf Yg Yh Yi Yj Yk Yl Ym Yn Yo Yp Yq Yr Ys Yt Yu Yv Yw Yx Yy Yz X0 X1 X2 X3 X4 X5 X6 X7 X8 X9 XA XB XC XD XE XF XG XH XI XJ XK XL XM XN XO XP XQ XR XS XT XU XV XW XX XY XZ Xa Xb Xc Xd Xe Xf Xg Xh Xi Xj Xk Xl Xm Xn Xo Xp Xq Xr Xs Xt Xu Xv Xw Xx Xy Xz K0 K1 K2 K3 K4 K5 Q) :
 Code.wp Tryz.prog rgHs7 Q ⟨#[v0,v1,(Value.int .i64 owner),v3,(Value.pointer (some ⟨p,0,none⟩)),v5,v6,v7,v8,(Value.pointer (some ⟨H,0,none⟩)),(Value.pointer (some ⟨m,0,none⟩)),(Value.pointer (some ⟨q,0,none⟩)),Z2,KS,J5,KF,Z3,Z4,Z5,Z6,Z7,Z8,Z9,ZA,ZB,ZC,ZD,ZE,ZF,ZG,ZH,ZI,ZJ,ZK,ZL,ZM,ZN,ZO,ZP,ZQ,ZR,ZS,ZT,ZU,ZV,ZW,ZX,ZY,ZZ,Za,Zb,Zc,Zd,Ze,Zf,Zg,Zh,Zi,Zj,Zk,Zl,Zm,Zn,Zo,Zp,Zq,Zr,Zs,Zt,Zu,Zv,Zw,Zx,Zy,Zz,Y0,Y1,Y2,Y3,Y4,Y5,Y6,Y7,Y8,Y9,YA,YB,YC,YD,YE,YF,YG,YH,YI,YJ,YK,YL,YM,YN,YO,YP,YQ,YR,YS,YT,YU,YV,YW,YX,YY,YZ,Ya,Yb,Yc,Yd,Ye,Yf,Yg,Yh,Yi,Yj,Yk,Yl,Ym,Yn,Yo,Yp,Yq,Yr,Ys,Yt,Yu,Yv,Yw,Yx,Yy,Yz,X0,X1,X2,X3,X4,X5,X6,X7,X8,X9,XA,XB,XC,XD,XE,XF,XG,XH,XI,XJ,XK,XL,XM,XN,XO,XP,XQ,XR,XS,XT,XU,XV,XW,XX,XY,XZ,Xa,Xb,Xc,Xd,Xe,Xf,Xg,Xh,Xi,Xj,Xk,Xl,Xm,Xn,Xo,Xp,Xq,Xr,Xs,Xt,Xu,Xv,Xw,Xx,Xy,Xz,K0,K1,K2,K3,K4,K5],[]⟩ w2:=by
 dsimp only
 conv=>arg 2;whnf
 have HK:=zQ9 (fun W (hW:w2.grownBy W (some H))=>show(W.cell? ⟨p,0,none⟩=some (.int .i64 b.t)∧W.cell? ⟨p,1,none⟩=some b.vm∧W.cell? ⟨p,2,none⟩=some b.vk∧W.cell? ⟨p,3,none⟩=some b.vh∧W.cell? ⟨p,4,none⟩=some b.vd)∧(W.cell? ⟨m,0,none⟩=some (.int .i64 M.t)∧W.cell? ⟨m,1,none⟩=some M.vm∧W.cell? ⟨m,2,none⟩=some M.vk∧W.cell? ⟨m,3,none⟩=some M.vh∧W.cell? ⟨m,4,none⟩=some M.vd)∧(W.cell? ⟨q,0,none⟩=some (.int .i64 O.t)∧W.cell? ⟨q,1,none⟩=some O.vm∧W.cell? ⟨q,2,none⟩=some O.vk∧W.cell? ⟨q,3,none⟩=some O.vh∧W.cell? ⟨q,4,none⟩=some O.vd) from⟨j0h (HS.out W hW).1,j0h (HS.out W hW).2.1,j0h (HS.out W hW).2.2⟩)
 have ⟨⟨c0,c1,c2,c3,c4⟩,⟨d0,d1,d2,d3,d4⟩,⟨e0,e1,e2,e3,e4⟩⟩:=HK.out w2 (World.grownBy.refl _ _)
 have hwr:IntKind.i64.wrap ((M.l.length:Int)-1)=(M.l.length:Int)-1:=IntWalk.i64_in _ (by omega)
 go_region_held3 (fun w'=>(w'.cell? ⟨p,0,none⟩=some (.int .i64 b.t)∧w'.cell? ⟨p,1,none⟩=some b.vm∧w'.cell? ⟨p,2,none⟩=some b.vk∧w'.cell? ⟨p,3,none⟩=some b.vh∧w'.cell? ⟨p,4,none⟩=some b.vd)∧(w'.cell? ⟨m,0,none⟩=some (.int .i64 M.t)∧w'.cell? ⟨m,1,none⟩=some M.vm∧w'.cell? ⟨m,2,none⟩=some M.vk∧w'.cell? ⟨m,3,none⟩=some M.vh∧w'.cell? ⟨m,4,none⟩=some M.vd)∧(w'.cell? ⟨q,0,none⟩=some (.int .i64 O.t)∧w'.cell? ⟨q,1,none⟩=some O.vm∧w'.cell? ⟨q,2,none⟩=some O.vk∧w'.cell? ⟨q,3,none⟩=some O.vh∧w'.cell? ⟨q,4,none⟩=some O.vd))
  ((refine HK.out _ ?_
    repeat' (first|(with_reducible exact World.grownBy.refl _ _)|(with_reducible refine World.grownBy.trans ?_ (k5h _ _))|(with_reducible refine World.grownBy.trans ?_ (World.grownBy_alloc _ _ _))|(with_reducible refine World.grownBy.trans ?_ hd3.gr)|(with_reducible exact HH.out)|(with_reducible refine Hd.drew ?_)|(with_reducible refine Hd.alloc ?_ _)|omega|exact zL9 _|(simp;done)|(simp;omega)|fail)))
  (first|(go_at_call 12;(with_reducible refine(j1o H N ((M.l.length:Int)-1) _ ?_ ?_ ?_).mono ?_);(repeat' (first|(with_reducible exact World.grownBy.refl _ _)|(with_reducible refine World.grownBy.trans ?_ (k5h _ _))|(with_reducible refine World.grownBy.trans ?_ (World.grownBy_alloc _ _ _))|(with_reducible refine World.grownBy.trans ?_ hd3.gr)|(with_reducible exact HH.out)|(with_reducible refine Hd.drew ?_)|(with_reducible refine Hd.alloc ?_ _)|omega|exact zL9 _|(simp;done)|(simp;omega)|fail));rintro e w3 ⟨u,rfl,hu,hd3⟩;have hs3:=hd3.gr.size;(try simp at hs3))|fail)
 all_goals
  go_wp2_with fail
  first
   | refine HQ _ _ _ _ _ _ _ _ _ _ _ _ _ _ _ _ u _ (j0c (by first|rfl|(simp;done))) (j0b (j0c (by first|rfl|(simp;done))) _) ?_ ?_ ?_
   | refine HQ _ _ _ _ _ _ _ _ _ _ _ _ _ _ _ _ u _ (j0b (j0c (by first|rfl|(simp;done))) _) (j0c (by first|rfl|(simp;done))) ?_ ?_ ?_
   | refine HQ _ _ _ _ _ _ _ _ _ _ _ _ _ _ _ _ u _ (j0b ((hd3.gr.block w2.heap.size (by simp) (fun e=>by injection e with e;omega)).trans (j0c (by first|rfl|(simp;done)))) _) (j0c (by first|rfl|(simp;done))) ?_ ?_ ?_
 all_goals
  repeat' (first|(with_reducible exact World.grownBy.refl _ _)|(with_reducible refine World.grownBy.trans ?_ (k5h _ _))|(with_reducible refine World.grownBy.trans ?_ (World.grownBy_alloc _ _ _))|(with_reducible refine World.grownBy.trans ?_ hd3.gr)|(with_reducible exact HH.out)|(with_reducible refine Hd.drew ?_)|(with_reducible refine Hd.alloc ?_ _)|omega|exact zL9 _|(simp;done)|(simp;omega)|fail)
def j4w (f o:Nat) (g:Gr):Int:=getG g f o
def j5q (E:List Gr) (n k:Nat):List (List Rn):=(List.range k).map fun f=>(List.range n).map fun o=>rnOf (j4w f o) E
theorem q1u (E:List Gr) (n k:Nat):j5q E n (k+1)=j5q E n k++[(List.range n).map fun o=>rnOf (j4w k o) E]:=by unfold j5q;rw[List.range_succ,List.map_append];rfl
theorem q3w (E:List Gr) (n k:Nat):(j5q E n k).length=k:=by simp[j5q]
theorem k7m (b:Hb) (w:World) (hin:HbIn w b):Calls Tryz.prog 37 #[b.v] w (HasR b w):=by
 obtain⟨V,hV⟩:∃ V,V=w.alloc b.obj:=⟨_,rfl⟩
 obtain⟨p,hp⟩:∃ p,p=w.heap.size:=⟨_,rfl⟩
 have HB:=zQ9 (show BB9 w b p V by rw[hV,hp];exact BB9.start hin)
 obtain⟨c0,c1,c2,c3,c4⟩:=j0h HB.out.1
 have hlp:=j0a HB.out.1
 by_cases ha:askE b=0
 ·have hck:=j6q b V HB.out.2.1 ha
  have hok:=k3w ha
  have hsh:=eg_sh hok
  have hl4:=k1w hok
  have hfin:j5q b.eg b.l.length b.ks.length=hasR b:=by
   unfold hasR
   rw[if_pos ha]
   unfold hasL j5q
   refine List.map_congr_left fun f hf=>List.map_congr_left fun o ho=>?_
   have hf:=List.mem_range.1 hf
   have ho:=List.mem_range.1 ho
   exact j9v hok fun g hg=>(j0w g (by have:=hok.f3;omega) (by have:=hok.n5;omega)).symm
  unfold Hb.v at hck ⊢
  obtain⟨E,hE⟩:∃ E,E=b.eg:=⟨_,rfl⟩
  rw[←hE] at hck hsh hfin hl4
  have hn5:=hok.n5
  have hf3:=hok.f3
  have HX:=zQ9 (zA9 hsh (zA9 hfin ha))
  clear hin hok hsh hfin ha hE
  go_enter Tryz.func37,Tryz.ntmps37
  go_upto_region 1 with (fail)
  rw[←hV,←hp]
  clear hV hp
  go_upto_region 4 with (go_at_call 88;(with_reducible refine hck.mono ?_);rintro e w2 ⟨⟨v,rfl,hG⟩,hb2⟩;have H2:=zQ9 (zA9 hG hb2);replace HB:=zQ9 (HB.out.step hb2);clear hG hb2 c0 c1 c2 c3 c4 hlp)
  clear hck
  obtain⟨A,c,rfl,hAc,hcm⟩:=H2.out.1.form
  obtain⟨c0,c1,c2,c3,c4⟩:=j0h HB.out.1
  have hlp:=j0a HB.out.1
  obtain⟨n,hn⟩:∃ n,n=b.l.length:=⟨_,rfl⟩
  obtain⟨nk,hnk⟩:∃ nk,nk=b.ks.length:=⟨_,rfl⟩
  have hn5':n≤5:=by omega
  have hnk3:nk≤3:=by omega
  rw[←hn] at c1
  rw[←hnk] at c2
  have HN:=zQ9 (zA9 hn hnk)
  clear hn hnk
  go_upto_region 6 with (fail)
  go_loopg [6,7,8,9,10] nk (fun gh v6 v7 _ _ _ wr=>∃ f:Nat,f+gh=nk∧v7=.int .i64 f∧OwnT wr w2.heap.size v6 (j5q E n f)∧Below w2.heap.size w2 wr)
  case atStart=>exact⟨0,by omega,rfl,OwnA.nil_,Below.refl _ _⟩
  case round =>
   obtain⟨f,hf,rfl,hT,hb⟩:=hrel
   obtain⟨g0,rfl⟩:∃ g0:Nat,g0=gk:=⟨_,rfl⟩
   obtain⟨w3,hw3⟩:∃ W:World,W=wr:=⟨_,rfl⟩
   rw[←hw3] at hT hb ⊢
   clear hw3 c0 c1 c2 c3 c4 hlp
   obtain⟨c0,c1,c2,c3,c4⟩:=j0h (j0e HB.out.1 hb (zL9 _))
   have hlp:=j0a (j0e HB.out.1 hb (zL9 _))
   rw[←HN.out.1] at c1
   rw[←HN.out.2] at c2
   by_cases hlf:f<nk
   ·have i0:(f:Int)<(nk:Int):=by omega
    have hmk:=fun W=>k5n W hn5'
    have HF:=zQ9 (zA9 hf (zA9 hT hb))
    clear hf hT hb
    go_upto_region 10 with (fail)
    obtain⟨g,hg⟩:∃ g,g=w3.heap.size:=⟨_,rfl⟩
    obtain⟨w4,hw4⟩:∃ w4,w4=w3.alloc (.cells (j7j n) 72):=⟨_,rfl⟩
    have hR0:OwnR w4 w3.heap.size (.slice (some ⟨g,0,none⟩) n n) (rowS (j4w f) E n 0 0):=by rw[hw4,hg,k1l];exact k1g w3 hn5' (zL9 _)
    have hb4:Below w3.heap.size w3 w4:=by rw[hw4];exact bal0 w3 _
    rw[←hw4,←hg]
    have H4:=zQ9 (zA9 hR0 hb4)
    have hgg:w3.heap.size≤g:=Nat.le_of_eq hg.symm
    clear hw4 hg hR0 hb4 hmk c0 c1 c2 c3 c4 hlp
    go_loopg [9,10] n (fun gh v9 _ wr=>∃ o:Nat,o+gh=n∧v9=.int .i64 o∧OwnR wr w3.heap.size (.slice (some ⟨g,0,none⟩) n n) (rowS (j4w f) E n o 0)∧Below w3.heap.size w3 wr)
    case atStart=>exact⟨0,by omega,rfl,H4.out.1,H4.out.2⟩
    case round =>
     obtain⟨o,ho,rfl,hR,hb⟩:=hrel
     obtain⟨g1,rfl⟩:∃ g1:Nat,g1=gk:=⟨_,rfl⟩
     obtain⟨w5,hw5⟩:∃ W:World,W=wr:=⟨_,rfl⟩
     rw[←hw5] at hR hb ⊢
     clear hw5
     by_cases hlo:o<n
     ·have i1:(o:Int)<(n:Int):=by omega
      have HO:=zQ9 (zA9 ho (zA9 hR hb))
      clear ho hR hb
      go_upto_region 13 with (fail)
      go_loopg [10] E.length (fun gh Z0 wr=>∃ i:Nat,i+gh=E.length∧Z0=.int .i64 i∧OwnR wr w3.heap.size (.slice (some ⟨g,0,none⟩) n n) (rowS (j4w f) E n o i)∧Below w3.heap.size w3 wr)
      case atStart=>exact⟨0,by omega,rfl,HO.out.2.1,HO.out.2.2⟩
      case round =>
       obtain⟨i,hi,rfl,hR,hb⟩:=hrel
       obtain⟨w6,hw6⟩:∃ W:World,W=wr:=⟨_,rfl⟩
       rw[←hw6] at hR hb ⊢
       clear hw6
       by_cases hli:i<E.length
       ·obtain⟨bE,oE,cap,Ag,cg,gi,eE,-,-,hgi,y0,hcg,hcgm,hgz⟩:=H2.out.1.get2 hli
        cases eE
        have hb26:Below w2.heap.size w2 w6:=HF.out.2.2.trans (hb.mono HF.out.2.2.size)
        have y0:=j2k y0 hb26 (zL9 _)
        obtain⟨sg,bg⟩:=HX.out.1 gi (List.mem_of_getElem? hgi)
        obtain⟨b1,o1,B1,row,cr,rfl,hb1,hrow,y1,hri,hrc,hrm,-⟩:=(hgz w6 hb26).get (show f<b.ks.length by rw[←HN.out.2];exact hlf)
        have hrl:=sg.r row (List.mem_of_getElem? hrow)
        obtain⟨b2,o2,x,rfl,hb2,hx,y2⟩:=Ints.get hri (show o<row.length by rw[hrl,←HN.out.1];exact hlo)
        rw[hrl,←HN.out.1] at y1 hrc
        rw[←HN.out.2] at y0 hcg
        have hxg:j4w f o gi=x:=by unfold j4w getG;rw[List.getD_eq_getElem?_getD (l:=gi),hrow,Option.getD_some,List.getD_eq_getElem?_getD,hx];rfl
        obtain⟨gr,e,hgb,hgl,z0,z1,f0,f1,-,-,-,-⟩:=OwnR.put2 hR (j7t hlo) 0 0
        cases e
        obtain⟨fb,hfb⟩:∃ fb,fb=decide (i=0):=⟨_,rfl⟩
        have e1:((i:Int)==0)=fb:=by
         rw[hfb]
         by_cases h:i=0
         ·simp[h]
         ·rw[decide_eq_false h];exact beq_eq_false_iff_ne.2 (by omega)
        have hst:=j8v (φ:=j4w f o) hgi
        rw[hxg,←hfb] at hst
        obtain⟨r0,hr0⟩:∃ r0,r0=rnOf (j4w f o) (E.take i):=⟨_,rfl⟩
        rw[←hr0] at hst z0 z1
        have cW:∀ (a c y:Int) (q:Bool) d' os,Calls Tryz.prog 90 #[.agg #[.int .i64 a,.int .i64 c],.int .i64 y,.bool q] (Sort.grow (redrawn w6 d') os) (fun e w''=>e=.returned (.agg #[.int .i64 (widR a c y q).lo,.int .i64 (widR a c y q).hi])∧∃ p:Regrown,w''=Sort.grow (redrawn w6 p.d) p.os):=fun a c y q d' os =>
         Calls.regrown_of (j7o a c y q _)
        have HC:=zQ9 cW
        have k0:=cell_regrown y0
        have k1:=cell_regrown z0
        have k2:=cell_regrown z1
        have k3:=cell_regrown y1
        have k4:=cell_regrown y2
        have hbE:=j2b y0
        have i2:(i:Int)<(E.length:Int):=by omega
        have HI:=zQ9 (zA9 hi (zA9 hR (zA9 hb (zA9 hst (zA9 hgb hr0)))))
        clear hi hR hb hst cW hx hfb hr0 hgi hgz sg bg y0 y1 y2 z0 z1 f0 f1 hb26 hrow hri hrl hxg
        go_upto_region 15 with (fail)
        refine j1q 19 (by kernel_rfl) (by kernel_rfl) ?_
        simp only[List.take_succ_cons,List.take_zero,List.drop_succ_cons,List.drop_zero]
        repeat (quiet_step (exact HC.out _ _ _ _ _ _))
        refine wpQuiet_nil ?_
        intro _ hw'
        obtain⟨⟨dq,osq⟩,hw''⟩:=hw'
        subst hw''
        obtain⟨w7,hW7⟩:∃ w7,w7=Sort.grow (redrawn w6 dq) osq:=⟨_,rfl⟩
        have hb7:Below w6.heap.size w6 w7:=by rw[hW7];exact below_regrown w6 dq osq
        rw[←hW7]
        have hB7:Below w3.heap.size w3 w7:=HI.out.2.2.1.trans (hb7.mono HI.out.2.2.1.size)
        have hR7:=HI.out.2.1.below hb7 (zL9 _)
        obtain⟨gd,e,-,hgl7,z0,z1,f0,f1,hown,-⟩:=OwnR.put2 hR7 (j7t hlo) (widR r0.lo r0.hi x fb).lo (widR r0.lo r0.hi x fb).hi
        cases e
        rw[HI.out.2.2.2.1,k3p] at hown
        have hB8:=Below.setCell (Below.setCell hB7 (p:=⟨g,o*2,none⟩) hgg (.int .i64 (rnOf (j4w f o) (E.take (i+1))).lo)) (p:=⟨g,o*2+1,none⟩) hgg (.int .i64 (rnOf (j4w f o) (E.take (i+1))).hi)
        have H8:=zQ9 (zA9 hown hB8)
        clear hW7 hb7 hB7 hR7 hown hB8 k0 k1 k2 k3 k4
        rw[HI.out.2.2.2.1]
        go_wp2_with fail
        go_roundg (gk-1)
        case measure=>have:=HI.out.1;omega
        case rel=>exact⟨i+1,by have:=HI.out.1;omega,by go_num,H8.out.1,H8.out.2⟩
       ·obtain rfl:i=E.length:=by omega
        rw[k1k] at hR
        have HI:=zQ9 (zA9 hR hb)
        clear hR hb hi
        go_wp2_with fail
        go_roundg (g1-1)
        case measure=>have:=HO.out.1;omega
        case rel=>exact⟨o+1,by have:=HO.out.1;omega,by go_num,HI.out.1,HI.out.2⟩
     ·obtain rfl:o=n:=by omega
      rw[k3o] at hR
      have hT5:OwnT w5 w2.heap.size u6 (j5q E o f):=OwnA.below HF.out.2.1 hb (zL9 _)
      have hR5:OwnR w5 w2.heap.size (.slice (some ⟨g,0,none⟩) o o) ((List.range o).map fun x=>rnOf (j4w f x) E):=Own.mono hR HF.out.2.2.size
      have hll:(j5q E o f).length<4294967296:=by rw[q3w];omega
      have hz5:w2.heap.size≤w5.heap.size:=Nat.le_trans HF.out.2.2.size hb.size
      have HE:=zQ9 (zA9 hT5 (zA9 hR5 (HF.out.2.2.trans (hb.mono HF.out.2.2.size))))
      clear hR hb ho hT5 hR5
      go_wp2_with (at_builtin;refine k2y okRns (by decide) rfl (.tmp 63) (.tmp 65) rfl w2.heap.size _ _ (j5q E o f) _ rfl rfl HE.out.1 HE.out.2.1 hll hz5 ?_;intro v' w9 hown9 hb9 _;have H9:=zQ9 (zA9 hown9 hb9);clear hown9 hb9)
      go_roundg (g0-1)
      case measure=>have:=HF.out.1;omega
      case rel=>exact⟨f+1,by have:=HF.out.1;omega,by go_num,by rw[q1u];exact H9.out.1,HE.out.2.2.trans H9.out.2⟩
   ·obtain rfl:f=nk:=by omega
    have HE:=zQ9 (zA9 hT hb)
    clear hT hb hf
    go_wp2_with fail
    go_ret2
    refine⟨⟨_,by rw[HX.out.2.2];rfl,?_⟩,HB.out.2.2.trans (HE.out.2.mono HB.out.2.2.size)⟩
    have h:=HE.out.1
    rw[HN.out.1,HN.out.2,HX.out.2.1] at h
    exact OwnA.mono h HB.out.2.2.size
 ·have hck:=j6p b V HB.out.2.1 ha
  obtain⟨ae,hae⟩:∃ ae,ae=askE b:=⟨_,rfl⟩
  rw[←hae] at hck ha
  have x1:(ae != 0)=true:=by simp[ha]
  have HA:=zQ9 (zA9 ha hae)
  unfold Hb.v at hck ⊢
  clear hin ha hae
  go_enter Tryz.func37,Tryz.ntmps37
  go_upto_region 1 with (fail)
  rw[←hV,←hp]
  clear hV hp
  go_wp2_with (go_at_call 88;(with_reducible refine hck.mono ?_);rintro e w2 ⟨rfl,hb2⟩;replace HB:=zQ9 (HB.out.step hb2);clear hb2 c0 c1 c2 c3 c4 hlp)
  go_ret2
  refine⟨⟨_,by rw[←HA.out.2];rfl,?_⟩,HB.out.2.2⟩
  unfold hasR
  rw[if_neg (by rw[←HA.out.2];exact HA.out.1)]
  exact OwnA.nil_
end Go.Proofs.YtmennjmjakdkcaaGreat
