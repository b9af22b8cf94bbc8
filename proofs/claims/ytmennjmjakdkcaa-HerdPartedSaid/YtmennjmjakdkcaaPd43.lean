/- HerdParted 43: ParS, ParT, ParU, Ent. -/
import Derived.Test.YtmennjmjakdkcaaPd29
import Derived.Test.YtmennjmjakdkcaaPd26
import Derived.Test.YtmennjmjakdkcaaPd35
import Derived.Test.YtmennjmjakdkcaaPd41
import Derived.Test.YtmennjmjakdkcaaPd42
import Derived.BigRegion
import Derived.Deep.CutBlock
import Derived.Test.YtmennjmjakdkcaaPd28
namespace Go.Proofs.Ytmennjmjakdkcaa
open Go.RowKit
set_option linter.unusedVariables false
set_option linter.unusedSimpArgs false
set_option maxRecDepth 1000000
theorem OwnR.put2 {w : World} {base : Nat} {A : Option Addr} {n c : Nat} {l : List Rn} (h : OwnR w base (.slice A n c) l) {o : Nat} {r : Rn} (ho : l[o]? = some r) (x y : Int) :
 ∃ g,A = some ⟨g,0,none⟩ ∧ base ≤ g ∧ g < w.heap.size ∧ w.cell? ⟨g,o * 2,none⟩ = some (.int .i64 r.lo) ∧ w.cell? ⟨g,o * 2 + 1,none⟩ = some (.int .i64 r.hi) ∧ w.frozen? ⟨g,o * 2,none⟩ = false ∧ w.frozen? ⟨g,o * 2 + 1,none⟩ = false ∧
  OwnR ((w.setCell ⟨g,o * 2,none⟩ (.int .i64 x)).setCell ⟨g,o * 2 + 1,none⟩ (.int .i64 y)) base (.slice A n c) (l.set o ⟨x,y⟩) ∧ n = l.length ∧ n ≤ c ∧ c ≤ maxLen:=by
 have hol:=(List.getElem?_eq_some_iff.1 ho).1
 have hat : ∀ (l : List Rn) (o : Nat) (r : Rn),l[o]? = some r → (l.flatMap eRn)[o * 2]? = some (Value.int .i64 r.lo) ∧ (l.flatMap eRn)[o * 2 + 1]? = some (Value.int .i64 r.hi):=fun l => by
  induction l with
  | nil => intro o r h;simp at h
  | cons z l ih =>
    intro o r h
    cases o with
    | zero => simp at h;subst h;exact ⟨rfl,rfl⟩
    | succ o =>
      have:=ih o r (by simpa using h)
      rw [List.flatMap_cons,show (o + 1) * 2 = o * 2 + 1 + 1 by omega]
      exact ⟨by simpa [eRn] using this.1,by simpa [eRn] using this.2⟩
 have hset : ∀ (l : List Rn) (o : Nat),o < l.length → ((l.flatMap eRn).set (o * 2) (Value.int .i64 x)).set (o * 2 + 1) (Value.int .i64 y) = (l.set o ⟨x,y⟩).flatMap eRn:=fun l => by
  induction l with
  | nil => intro o h;simp at h
  | cons z l ih =>
    intro o h
    cases o with
    | zero => simp [eRn]
    | succ o =>
      have:=ih o (by simpa using h)
      rw [List.set_cons_succ,List.flatMap_cons,List.flatMap_cons,← this,show (o + 1) * 2 = o * 2 + 1 + 1 by omega]
      simp [eRn]
 have hlen : (l.flatMap eRn).length = l.length * 2:=by
  clear hat hset ho hol h
  induction l with
  | nil => rfl
  | cons z l ih => rw [List.flatMap_cons,List.length_append,ih,List.length_cons];simp [eRn];omega
 obtain ⟨h1,h2⟩:=h
 rcases h2 with ⟨hv,h0⟩ | ⟨g,cap,cur,hv,hg,hh,hnc,hcm,hsz,htk⟩
 ·rw [List.eq_nil_of_length_eq_zero h0] at hol;cases hol
 ·cases hv
  have hc1 : ∀ (i : Nat) v,(l.flatMap eRn)[i]? = some v → cur[i]? = some v:=fun i v hv => by
   have hi:=(List.getElem?_eq_some_iff.1 hv).1
   rw [← htk,List.getElem?_take_of_lt (by omega),Array.getElem?_toList] at hv
   exact hv
  obtain ⟨a1,a2⟩:=hat l o r ho
  have b1:=hc1 _ _ a1
  have b2:=hc1 _ _ a2
  refine ⟨g,rfl,hg,heap_lt hh,?_,?_,frz hh _,frz hh _,?_,rfl,hnc,hcm⟩
  ·unfold World.cell?;simp [hh,b1]
  ·unfold World.cell?;simp [hh,b2]
  ·refine ⟨by rw [← hset l o hol,List.length_set,List.length_set,List.length_set];exact h1,.inr ⟨g,c,(cur.setIfInBounds (o * 2) (.int .i64 x)).setIfInBounds (o * 2 + 1) (.int .i64 y),by simp,hg,set_blk (set_blk hh),by simpa using hnc,hcm,by simpa using hsz,?_⟩⟩
   rw [Array.toList_setIfInBounds,Array.toList_setIfInBounds,List.take_set,List.take_set,List.length_set,htk,hset l o hol]
noncomputable def rgPar35 : Code:=((Try.f5.body.bind (findRgn 35)).getD .skip)
def RgParQ35 (w2 : World) (base bh oh n ch o : Nat) (h : Int) (D : List Rn) (v0 v1 v2 v3 v4 v5 v6 v7 v8 v9 Z0 Z1 Z2 Z3 Z4 Z5 Z6 Z7 Z8 Z9 ZA ZB ZC ZD ZE ZF ZG ZH ZI ZJ ZK ZL ZM ZN ZO ZP ZQ ZR ZS ZT ZU ZV ZW ZX ZY ZZ Za Zb Zc Zd Ze Zf Zg Zh Zi Zj Zk Zl Zm Zn Zo Zp Zq Zr Zs Zt Zu Zv Zw Zx Zy Zz Y0 Y1 Y2 Y3 Y4 Y5 Y6 Y7 Y8 Y9 YA YB YC YD YE YF YG YH YI YJ YK YL YM YN YO YP YQ YR YS YT YU YV YW YX YY YZ Ya Yb Yc Yd Ye Yf Yg Yh Yi Yj Yk Yl Ym Yn Yo Yp Yq Yr Ys Yt Yu Yv Yw Yx Yy Yz X0 X1 X2 X3 X4 X5 X6 X7 X8 X9 XA XB XC XD XE XF XG XH XI XJ XK XL XM XN XO XP XQ XR XS XT XU XV XW XX XY XZ Xa Xb Xc Xd Xe Xf Xg Xh Xi Xj Xk Xl Xm Xn Xo Xp Xq Xr Xs Xt Xu Xv Xw Xx Xy Xz K0 K1 K2 K3 K4 K5 K6 K7 K8 K9 KA KB KC KD KE KF KG KH KI KJ KK KL KM KN KO KP KQ KR KS KT KU KV KW KX KY KZ Ka Kb : Value) (Q : Exit → Act → World → Prop) : Prop:=∀ (Kc Kd Ke Kf Kg Kh Ki Kj Kk Kl Km Kn : Value) (v' : Value) (w' : World),OwnR w' base v' (D ++ [⟨h,h⟩]) → Below base w2 w' → Q .normal ⟨#[v0,v1,v2,v3,v4,v5,v6,v7,v8,v9,Z0,Z1,Z2,Z3,Z4,v',Z6,Value.slice (some ⟨bh,oh,none⟩) n ch,Z7,Z8,Z9,ZA,ZB,Value.int .i64 (o : Int),ZC,ZD,ZE,ZF,ZG,ZH,ZI,ZJ,ZK,ZL,ZM,ZN,ZO,ZP,ZQ,ZR,ZS,ZT,ZU,ZV,ZW,ZX,ZY,ZZ,Za,Zb,Zc,Zd,Ze,Zf,Zg,Zh,Zi,Zj,Zk,Zl,Zm,Zn,Zo,Zp,Zq,Zr,Zs,Zt,Zu,Zv,Zw,Zx,Zy,Zz,Y0,Y1,Y2,Y3,Y4,Y5,Y6,Y7,Y8,Y9,YA,YB,YC,YD,YE,YF,YG,YH,YI,YJ,YK,YL,YM,YN,YO,YP,YQ,YR,YS,YT,YU,YV,YW,YX,YY,YZ,Ya,Yb,Yc,Yd,Ye,Yf,Yg,Yh,Yi,Yj,Yk,Yl,Ym,Yn,Yo,Yp,Yq,Yr,Ys,Yt,Yu,Yv,Yw,Yx,Yy,Yz,X0,X1,X2,X3,X4,X5,X6,X7,X8,X9,XA,XB,XC,XD,XE,XF,XG,XH,XI,XJ,XK,XL,XM,XN,XO,XP,XQ,XR,XS,XT,XU,XV,Kc,Kd,Ke,Kf,Kg,Kh,Ki,Kj,Kk,Kl,Km,Kn,Xi,Xj,Xk,Xl,Xm,Xn,Xo,Xp,Xq,Xr,Xs,Xt,Xu,Xv,Xw,Xx,Xy,Xz,K0,K1,K2,K3,K4,K5,K6,K7,K8,K9,KA,KB,KC,KD,KE,KF,KG,KH,KI,KJ,KK,KL,KM,KN,KO,KP,KQ,KR,KS,KT,KU,KV,KW,KX,KY,KZ,Ka,Kb],[]⟩ w'
set_option maxHeartbeats 8000000 in
theorem par_app (w2 : World) (base bh oh n ch o : Nat) (h : Int) (D : List Rn) (v0 v1 v2 v3 v4 v5 v6 v7 v8 v9 Z0 Z1 Z2 Z3 Z4 Z5 Z6 Z7 Z8 Z9 ZA ZB ZC ZD ZE ZF ZG ZH ZI ZJ ZK ZL ZM ZN ZO ZP ZQ ZR ZS ZT ZU ZV ZW ZX ZY ZZ Za Zb Zc Zd Ze Zf Zg Zh Zi Zj Zk Zl Zm Zn Zo Zp Zq Zr Zs Zt Zu Zv Zw Zx Zy Zz Y0 Y1 Y2 Y3 Y4 Y5 Y6 Y7 Y8 Y9 YA YB YC YD YE YF YG YH YI YJ YK YL YM YN YO YP YQ YR YS YT YU YV YW YX YY YZ Ya Yb Yc Yd Ye Yf Yg Yh Yi Yj Yk Yl Ym Yn Yo Yp Yq Yr Ys Yt Yu Yv Yw Yx Yy Yz X0 X1 X2 X3 X4 X5 X6 X7 X8 X9 XA XB XC XD XE XF XG XH XI XJ XK XL XM XN XO XP XQ XR XS XT XU XV XW XX XY XZ Xa Xb Xc Xd Xe Xf Xg Xh Xi Xj Xk Xl Xm Xn Xo Xp Xq Xr Xs Xt Xu Xv Xw Xx Xy Xz K0 K1 K2 K3 K4 K5 K6 K7 K8 K9 KA KB KC KD KE KF KG KH KI KJ KK KL KM KN KO KP KQ KR KS KT KU KV KW KX KY KZ Ka Kb : Value) (Q : Exit → Act → World → Prop)
 (HO : Hid (OwnR w2 base Z5 D)) (y : w2.cell? ⟨bh,oh + o,none⟩ = some (.int .i64 h)) (i1 : (o : Int) < (n : Int)) (hbb : bh < base) (hbh : bh < w2.heap.size) (hch : n ≤ ch) (hcm : ch ≤ maxLen) (hbs : base ≤ w2.heap.size) (hD : D.length < 4294967296)
 (HQ : RgParQ35 w2 base bh oh n ch o h D v0 v1 v2 v3 v4 v5 v6 v7 v8 v9 Z0 Z1 Z2 Z3 Z4 Z5 Z6 Z7 Z8 Z9 ZA ZB ZC ZD ZE ZF ZG ZH ZI ZJ ZK ZL ZM ZN ZO ZP ZQ ZR ZS ZT ZU ZV ZW ZX ZY ZZ Za Zb Zc Zd Ze Zf Zg Zh Zi Zj Zk Zl Zm Zn Zo Zp Zq Zr Zs Zt Zu Zv Zw Zx Zy Zz Y0 Y1 Y2 Y3 Y4 Y5 Y6 Y7 Y8 Y9 YA YB YC YD YE YF YG YH YI YJ YK YL YM YN YO YP YQ YR YS YT YU YV YW YX YY YZ Ya Yb Yc Yd Ye Yf Yg Yh Yi Yj Yk Yl Ym Yn Yo Yp Yq Yr Ys Yt Yu Yv Yw Yx Yy Yz X0 X1 X2 X3 X4 X5 X6 X7 X8 X9 XA XB XC XD XE XF XG XH XI XJ XK XL XM XN XO XP XQ XR XS XT XU XV XW XX XY XZ Xa Xb Xc Xd Xe Xf Xg Xh Xi Xj Xk Xl Xm Xn Xo Xp Xq Xr Xs Xt Xu Xv Xw Xx Xy Xz K0 K1 K2 K3 K4 K5 K6 K7 K8 K9 KA KB KC KD KE KF KG KH KI KJ KK KL KM KN KO KP KQ KR KS KT KU KV KW KX KY KZ Ka Kb Q) :
 Code.wp Try.prog rgPar35 Q ⟨#[v0,v1,v2,v3,v4,v5,v6,v7,v8,v9,Z0,Z1,Z2,Z3,Z4,Z5,Z6,Value.slice (some ⟨bh,oh,none⟩) n ch,Z7,Z8,Z9,ZA,ZB,Value.int .i64 (o : Int),ZC,ZD,ZE,ZF,ZG,ZH,ZI,ZJ,ZK,ZL,ZM,ZN,ZO,ZP,ZQ,ZR,ZS,ZT,ZU,ZV,ZW,ZX,ZY,ZZ,Za,Zb,Zc,Zd,Ze,Zf,Zg,Zh,Zi,Zj,Zk,Zl,Zm,Zn,Zo,Zp,Zq,Zr,Zs,Zt,Zu,Zv,Zw,Zx,Zy,Zz,Y0,Y1,Y2,Y3,Y4,Y5,Y6,Y7,Y8,Y9,YA,YB,YC,YD,YE,YF,YG,YH,YI,YJ,YK,YL,YM,YN,YO,YP,YQ,YR,YS,YT,YU,YV,YW,YX,YY,YZ,Ya,Yb,Yc,Yd,Ye,Yf,Yg,Yh,Yi,Yj,Yk,Yl,Ym,Yn,Yo,Yp,Yq,Yr,Ys,Yt,Yu,Yv,Yw,Yx,Yy,Yz,X0,X1,X2,X3,X4,X5,X6,X7,X8,X9,XA,XB,XC,XD,XE,XF,XG,XH,XI,XJ,XK,XL,XM,XN,XO,XP,XQ,XR,XS,XT,XU,XV,XW,XX,XY,XZ,Xa,Xb,Xc,Xd,Xe,Xf,Xg,Xh,Xi,Xj,Xk,Xl,Xm,Xn,Xo,Xp,Xq,Xr,Xs,Xt,Xu,Xv,Xw,Xx,Xy,Xz,K0,K1,K2,K3,K4,K5,K6,K7,K8,K9,KA,KB,KC,KD,KE,KF,KG,KH,KI,KJ,KK,KL,KM,KN,KO,KP,KQ,KR,KS,KT,KU,KV,KW,KX,KY,KZ,Ka,Kb],[]⟩ w2:=by
 dsimp only
 conv => arg 2;whnf
 have hV:=Lib.hid (fun k' hk' => (HO.out.lt k' hk').1)
 have yd : w2.drew.cell? ⟨bh,oh + o,none⟩ = some (.int .i64 h):=y
 have hb0 : Below w2.heap.size w2 w2.drew:=below_drewN (Below.refl _ _) 1
 have HB0:=Lib.hid hb0
 clear hb0
 go_region_held3 (fun w' => w'.cell? ⟨bh,oh + o,none⟩ = some (.int .i64 h))
  (first
    | (with_reducible exact yd)
    | (with_reducible exact q0)
    | (with_reducible exact bcell q0 (bal0 _ _) (Nat.le_refl _))
    | fail)
  (first
    | (go_at_call 29;refine (span9_any h h _).mono ?_;rintro e w5 ⟨rfl,hb5⟩;have hdx:=HB0.out.trans hb5;have hs5:=hdx.size;have q0:=bcell y hdx (Nat.le_refl _);clear hb5)
    | (refine step_app okRn (by rfl) _ _ (by rfl) base _ D (⟨h,h⟩ : Rn) #[.int .i64 h,.int .i64 h] w5.heap.size (by rfl) (by rfl) (heap_alloc_new w5 _) rfl rfl (one_eRn _) ?_ hD (by decide) (by simp;omega) ?_;(exact ((HO.out.below hdx (Nat.le_refl _)).alloc _));intro g7 cap7 w7 hown7 hgr7 hb7;have q0:=gcellS hgr7 (bcell q0 (bal0 _ _) (Nat.le_refl _)) hV.out hbb)
    | fail)
 go_wp2_with fail
 exact HQ _ _ _ _ _ _ _ _ _ _ _ _ _ _ hown7 ((hdx.mono hbs).trans ((bal (Below.refl _ _) (Nat.le_trans hbs hs5) _).trans hb7))
noncomputable def rgPar36 : Code:=((Try.f5.body.bind (findRgn 36)).getD .skip)
def RgParQ36 (w2 : World) (base bd dn cd bh oh n ch o : Nat) (h : Int) (D : List Rn) (r : Rn) (v0 v1 v2 v3 v4 v5 v6 v7 v8 v9 Z0 Z1 Z2 Z3 Z4 Z6 Z7 Z8 Z9 ZA ZB ZC ZD ZE ZF ZG ZH ZI ZJ ZK ZL ZM ZN ZO ZP ZQ ZR ZS ZT ZU ZV ZW ZX ZY ZZ Za Zb Zc Zd Ze Zf Zg Zh Zi Zj Zk Zl Zm Zn Zo Zp Zq Zr Zs Zt Zu Zv Zw Zx Zy Zz Y0 Y1 Y2 Y3 Y4 Y5 Y6 Y7 Y8 Y9 YA YB YC YD YE YF YG YH YI YJ YK YL YM YN YO YP YQ YR YS YT YU YV YW YX YY YZ Ya Yb Yc Yd Ye Yf Yg Yh Yi Yj Yk Yl Ym Yn Yo Yp Yq Yr Ys Yt Yu Yv Yw Yx Yy Yz X0 X1 X2 X3 X4 X5 X6 X7 X8 X9 XA XB XC XD XE XF XG XH XI XJ XK XL XM XN XO XP XQ XR XS XT XU XV XW XX XY XZ Xa Xb Xc Xd Xe Xf Xg Xh Xi Xj Xk Xl Xm Xn Xo Xp Xq Xr Xs Xt Xu Xv Xw Xx Xy Xz K0 K1 K2 K3 K4 K5 K6 K7 K8 K9 KA KB KC KD KE KF KG KH KI KJ KK KL KM KN KO KP KQ KR KS KT KU KV KW KX KY KZ Ka Kb : Value) (Q : Exit → Act → World → Prop) : Prop:=∀ (Ko Kp Kq Kr Ks Kt Ku Kv Kw Kx Ky Kz J0 J1 J2 J3 J4 J5 J6 J7 J8 J9 JA JB : Value) (w' : World),OwnR w' base (.slice (some ⟨bd,0,none⟩) dn cd) (D.set o ⟨min r.lo h,max r.hi h⟩) → Below base w2 w' → Q .normal ⟨#[v0,v1,v2,v3,v4,v5,v6,v7,v8,v9,Z0,Z1,Z2,Z3,Z4,Value.slice (some ⟨bd,0,none⟩) dn cd,Z6,Value.slice (some ⟨bh,oh,none⟩) n ch,Z7,Z8,Z9,ZA,ZB,Value.int .i64 (o : Int),ZC,ZD,ZE,ZF,ZG,ZH,ZI,ZJ,ZK,ZL,ZM,ZN,ZO,ZP,ZQ,ZR,ZS,ZT,ZU,ZV,ZW,ZX,ZY,ZZ,Za,Zb,Zc,Zd,Ze,Zf,Zg,Zh,Zi,Zj,Zk,Zl,Zm,Zn,Zo,Zp,Zq,Zr,Zs,Zt,Zu,Zv,Zw,Zx,Zy,Zz,Y0,Y1,Y2,Y3,Y4,Y5,Y6,Y7,Y8,Y9,YA,YB,YC,YD,YE,YF,YG,YH,YI,YJ,YK,YL,YM,YN,YO,YP,YQ,YR,YS,YT,YU,YV,YW,YX,YY,YZ,Ya,Yb,Yc,Yd,Ye,Yf,Yg,Yh,Yi,Yj,Yk,Yl,Ym,Yn,Yo,Yp,Yq,Yr,Ys,Yt,Yu,Yv,Yw,Yx,Yy,Yz,X0,X1,X2,X3,X4,X5,X6,X7,X8,X9,XA,XB,XC,XD,XE,XF,XG,XH,XI,XJ,XK,XL,XM,XN,XO,XP,XQ,XR,XS,XT,XU,XV,XW,XX,XY,XZ,Xa,Xb,Xc,Xd,Xe,Xf,Xg,Xh,Ko,Kp,Kq,Kr,Ks,Kt,Ku,Kv,Kw,Kx,Ky,Kz,J0,J1,J2,J3,J4,J5,J6,J7,J8,J9,JA,JB,K6,K7,K8,K9,KA,KB,KC,KD,KE,KF,KG,KH,KI,KJ,KK,KL,KM,KN,KO,KP,KQ,KR,KS,KT,KU,KV,KW,KX,KY,KZ,Ka,Kb],[]⟩ w'
set_option maxHeartbeats 8000000 in
theorem par_put (w2 : World) (base bd dn cd bh oh n ch o : Nat) (h : Int) (D : List Rn) (r : Rn) (v0 v1 v2 v3 v4 v5 v6 v7 v8 v9 Z0 Z1 Z2 Z3 Z4 Z6 Z7 Z8 Z9 ZA ZB ZC ZD ZE ZF ZG ZH ZI ZJ ZK ZL ZM ZN ZO ZP ZQ ZR ZS ZT ZU ZV ZW ZX ZY ZZ Za Zb Zc Zd Ze Zf Zg Zh Zi Zj Zk Zl Zm Zn Zo Zp Zq Zr Zs Zt Zu Zv Zw Zx Zy Zz Y0 Y1 Y2 Y3 Y4 Y5 Y6 Y7 Y8 Y9 YA YB YC YD YE YF YG YH YI YJ YK YL YM YN YO YP YQ YR YS YT YU YV YW YX YY YZ Ya Yb Yc Yd Ye Yf Yg Yh Yi Yj Yk Yl Ym Yn Yo Yp Yq Yr Ys Yt Yu Yv Yw Yx Yy Yz X0 X1 X2 X3 X4 X5 X6 X7 X8 X9 XA XB XC XD XE XF XG XH XI XJ XK XL XM XN XO XP XQ XR XS XT XU XV XW XX XY XZ Xa Xb Xc Xd Xe Xf Xg Xh Xi Xj Xk Xl Xm Xn Xo Xp Xq Xr Xs Xt Xu Xv Xw Xx Xy Xz K0 K1 K2 K3 K4 K5 K6 K7 K8 K9 KA KB KC KD KE KF KG KH KI KJ KK KL KM KN KO KP KQ KR KS KT KU KV KW KX KY KZ Ka Kb : Value) (Q : Exit → Act → World → Prop)
 (HO : Hid (OwnR w2 base (.slice (some ⟨bd,0,none⟩) dn cd) D)) (HD : Hid (D[o]? = some r)) (y : w2.cell? ⟨bh,oh + o,none⟩ = some (.int .i64 h)) (i1 : (o : Int) < (n : Int)) (hbh : bh < w2.heap.size) (hch : n ≤ ch) (hcm : ch ≤ maxLen) (hbs : base ≤ w2.heap.size)
 (HQ : RgParQ36 w2 base bd dn cd bh oh n ch o h D r v0 v1 v2 v3 v4 v5 v6 v7 v8 v9 Z0 Z1 Z2 Z3 Z4 Z6 Z7 Z8 Z9 ZA ZB ZC ZD ZE ZF ZG ZH ZI ZJ ZK ZL ZM ZN ZO ZP ZQ ZR ZS ZT ZU ZV ZW ZX ZY ZZ Za Zb Zc Zd Ze Zf Zg Zh Zi Zj Zk Zl Zm Zn Zo Zp Zq Zr Zs Zt Zu Zv Zw Zx Zy Zz Y0 Y1 Y2 Y3 Y4 Y5 Y6 Y7 Y8 Y9 YA YB YC YD YE YF YG YH YI YJ YK YL YM YN YO YP YQ YR YS YT YU YV YW YX YY YZ Ya Yb Yc Yd Ye Yf Yg Yh Yi Yj Yk Yl Ym Yn Yo Yp Yq Yr Ys Yt Yu Yv Yw Yx Yy Yz X0 X1 X2 X3 X4 X5 X6 X7 X8 X9 XA XB XC XD XE XF XG XH XI XJ XK XL XM XN XO XP XQ XR XS XT XU XV XW XX XY XZ Xa Xb Xc Xd Xe Xf Xg Xh Xi Xj Xk Xl Xm Xn Xo Xp Xq Xr Xs Xt Xu Xv Xw Xx Xy Xz K0 K1 K2 K3 K4 K5 K6 K7 K8 K9 KA KB KC KD KE KF KG KH KI KJ KK KL KM KN KO KP KQ KR KS KT KU KV KW KX KY KZ Ka Kb Q) :
 Code.wp Try.prog rgPar36 Q ⟨#[v0,v1,v2,v3,v4,v5,v6,v7,v8,v9,Z0,Z1,Z2,Z3,Z4,Value.slice (some ⟨bd,0,none⟩) dn cd,Z6,Value.slice (some ⟨bh,oh,none⟩) n ch,Z7,Z8,Z9,ZA,ZB,Value.int .i64 (o : Int),ZC,ZD,ZE,ZF,ZG,ZH,ZI,ZJ,ZK,ZL,ZM,ZN,ZO,ZP,ZQ,ZR,ZS,ZT,ZU,ZV,ZW,ZX,ZY,ZZ,Za,Zb,Zc,Zd,Ze,Zf,Zg,Zh,Zi,Zj,Zk,Zl,Zm,Zn,Zo,Zp,Zq,Zr,Zs,Zt,Zu,Zv,Zw,Zx,Zy,Zz,Y0,Y1,Y2,Y3,Y4,Y5,Y6,Y7,Y8,Y9,YA,YB,YC,YD,YE,YF,YG,YH,YI,YJ,YK,YL,YM,YN,YO,YP,YQ,YR,YS,YT,YU,YV,YW,YX,YY,YZ,Ya,Yb,Yc,Yd,Ye,Yf,Yg,Yh,Yi,Yj,Yk,Yl,Ym,Yn,Yo,Yp,Yq,Yr,Ys,Yt,Yu,Yv,Yw,Yx,Yy,Yz,X0,X1,X2,X3,X4,X5,X6,X7,X8,X9,XA,XB,XC,XD,XE,XF,XG,XH,XI,XJ,XK,XL,XM,XN,XO,XP,XQ,XR,XS,XT,XU,XV,XW,XX,XY,XZ,Xa,Xb,Xc,Xd,Xe,Xf,Xg,Xh,Xi,Xj,Xk,Xl,Xm,Xn,Xo,Xp,Xq,Xr,Xs,Xt,Xu,Xv,Xw,Xx,Xy,Xz,K0,K1,K2,K3,K4,K5,K6,K7,K8,K9,KA,KB,KC,KD,KE,KF,KG,KH,KI,KJ,KK,KL,KM,KN,KO,KP,KQ,KR,KS,KT,KU,KV,KW,KX,KY,KZ,Ka,Kb],[]⟩ w2:=by
 dsimp only
 conv => arg 2;whnf
 have cS : ∀ (x y : Int) d' os,Calls Try.prog 29 #[.int .i64 x,.int .i64 y] (Sort.grow (redrawn w2 d') os) (fun e w'' => e = .returned (.agg #[.int .i64 x,.int .i64 y]) ∧ ∃ p : Regrown,w'' = Sort.grow (redrawn w2 p.d) p.os):=fun x y d' os =>
  Calls.regrown_of (span9_any x y _)
 have HCS:=Lib.hid cS
 obtain ⟨g0,e,hgb,hbd,e0,e1,f0,f1,-,hdl,hdc,hdm⟩:=HO.out.put2 HD.out 0 0
 cases e
 have hod : o < dn:=by have:=(List.getElem?_eq_some_iff.1 HD.out).1;omega
 have i2 : (o : Int) < (dn : Int):=by omega
 have k0:=cell_regrown y
 have k1:=cell_regrown e0
 have k2:=cell_regrown e1
 clear cS y hdl
 refine wp_region_below_tail 24 (by kernel_rfl) (by kernel_rfl) ?_
 simp only [List.take_succ_cons,List.take_zero,List.drop_succ_cons,List.drop_zero]
 repeat (quiet_step (exact HCS.out _ _ _ _))
 refine wpQuiet_nil ?_
 intro _ hw'
 obtain ⟨⟨dq,osq⟩,hw''⟩:=hw'
 subst hw''
 obtain ⟨w1,hW1⟩ : ∃ w1,w1 = Sort.grow (redrawn w2 dq) osq:=⟨_,rfl⟩
 have hb1 : Below w2.heap.size w2 w1:=by rw [hW1];exact below_regrown w2 dq osq
 rw [← hW1]
 have hp:=fun X Y => OwnR.put2 (HO.out.below hb1 (Nat.le_refl _)) HD.out X Y
 obtain ⟨gd,e,-,hgl,z0,z1,fz0,fz1,-⟩:=hp 0 0
 cases e
 have hfin : ∀ X Y : Int,min r.lo h = X → max r.hi h = Y → OwnR ((w1.setCell ⟨bd,o * 2,none⟩ (.int .i64 X)).setCell ⟨bd,o * 2 + 1,none⟩ (.int .i64 Y)) base (.slice (some ⟨bd,0,none⟩) dn cd) (D.set o ⟨min r.lo h,max r.hi h⟩) ∧ Below base w2 ((w1.setCell ⟨bd,o * 2,none⟩ (.int .i64 X)).setCell ⟨bd,o * 2 + 1,none⟩ (.int .i64 Y)):=fun X Y em ex => by
  rw [em,ex]
  obtain ⟨gd,e,-,-,-,-,-,-,hown,-⟩:=hp X Y
  cases e
  exact ⟨hown,((hb1.mono hbs).setCell hgb _).setCell hgb _⟩
 have HFIN:=Lib.hid hfin
 clear hW1 hb1 k0 k1 k2 hp hfin
 go_wp2_with fail
 all_goals exact HQ _ _ _ _ _ _ _ _ _ _ _ _ _ _ _ _ _ _ _ _ _ _ _ _ _ (HFIN.out _ _ (by omega) (by omega)).1 (HFIN.out _ _ (by omega) (by omega)).2
end Go.Proofs.Ytmennjmjakdkcaa
namespace Go.Proofs.Ytmennjmjakdkcaa
open Go.RowKit
set_option linter.unusedVariables false
set_option linter.unusedSimpArgs false
set_option maxRecDepth 1000000
noncomputable def rgPar7 : Code:=((Try.f5.body.bind (findBlk 7)).getD .skip)
def RgParQ7 (w2 : World) (base bh oh n ch o : Nat) (D2 : List Rn) (v0 v1 v2 v3 v4 v5 v6 v7 v8 v9 Z0 Z1 Z2 Z3 Z4 Z6 Z7 Z8 Z9 ZA ZB ZC ZD ZE ZF ZG ZH ZI ZJ ZK ZL ZM ZN ZO ZP ZQ ZR ZS ZT ZU ZV ZW ZX ZY ZZ Za Zb Zc Zd Ze Zf Zg Zh Zi Zj Zk Zl Zm Zn Zo Zp Zq Zr Zs Zt Zu Zv Zw Zx Zy Zz Y0 Y1 Y2 Y3 Y4 Y5 Y6 Y7 Y8 Y9 YA YB YC YD YE YF YG YH YI YJ YK YL YM YN YO YP YQ YR YS YT YU YV YW YX YY YZ Ya Yb Yc Yd Ye Yf Yg Yh Yi Yj Yk Yl Ym Yn Yo Yp Yq Yr Ys Yt Yu Yv Yw Yx Yy Yz X0 X1 X2 X3 X4 X5 X6 X7 X8 X9 XA XB XC XD XE XF XG XH XI XJ XK XL XM XN XO XP XQ XR XS XT XU XV XW XX XY XZ Xa Xb Xc Xd Xe Xf Xg Xh Xi Xj Xk Xl Xm Xn Xo Xp Xq Xr Xs Xt Xu Xv Xw Xx Xy Xz K0 K1 K2 K3 K4 K5 K6 K7 K8 K9 KA KB KC KD KE KF KG KH KI KJ KK KL KM KN KO KP KQ KR KS KT KU KV KW KX KY KZ Ka Kb : Value) (Q : Exit → Act → World → Prop) : Prop:=∀ (JC JD JE JF Kc Kd Ke Kf Kg Kh Ki Kj Kk Kl Km Kn Ko Kp Kq Kr Ks Kt Ku Kv Kw Kx Ky Kz J0 J1 J2 J3 J4 J5 J6 J7 J8 J9 JA JB v' : Value) (w' : World),OwnR w' base v' D2 → Below base w2 w' → Q .normal ⟨#[v0,v1,v2,v3,v4,v5,v6,v7,v8,v9,Z0,Z1,Z2,Z3,Z4,v',Z6,Value.slice (some ⟨bh,oh,none⟩) n ch,Z7,Z8,Z9,ZA,ZB,Value.int .i64 (o : Int),ZC,ZD,ZE,ZF,ZG,ZH,ZI,ZJ,ZK,ZL,ZM,ZN,ZO,ZP,ZQ,ZR,ZS,ZT,ZU,ZV,ZW,ZX,ZY,ZZ,Za,Zb,Zc,Zd,Ze,Zf,Zg,Zh,Zi,Zj,Zk,Zl,Zm,Zn,Zo,Zp,Zq,Zr,Zs,Zt,Zu,Zv,Zw,Zx,Zy,Zz,Y0,Y1,Y2,Y3,Y4,Y5,Y6,Y7,Y8,Y9,YA,YB,YC,YD,YE,YF,YG,YH,YI,YJ,YK,YL,YM,YN,YO,YP,YQ,YR,YS,YT,YU,YV,YW,YX,YY,YZ,Ya,Yb,Yc,Yd,Ye,Yf,Yg,Yh,Yi,Yj,Yk,Yl,Ym,Yn,Yo,Yp,Yq,Yr,Ys,Yt,Yu,Yv,Yw,Yx,Yy,Yz,X0,X1,X2,X3,X4,X5,X6,X7,X8,X9,XA,XB,XC,XD,XE,XF,XG,XH,XI,XJ,XK,XL,XM,XN,XO,XP,XQ,XR,JC,JD,JE,JF,Kc,Kd,Ke,Kf,Kg,Kh,Ki,Kj,Kk,Kl,Km,Kn,Ko,Kp,Kq,Kr,Ks,Kt,Ku,Kv,Kw,Kx,Ky,Kz,J0,J1,J2,J3,J4,J5,J6,J7,J8,J9,JA,JB,K6,K7,K8,K9,KA,KB,KC,KD,KE,KF,KG,KH,KI,KJ,KK,KL,KM,KN,KO,KP,KQ,KR,KS,KT,KU,KV,KW,KX,KY,KZ,Ka,Kb],[]⟩ w'
set_option maxHeartbeats 8000000 in
theorem par_round (w2 : World) (base bh oh n ch o : Nat) (h : Int) (D D2 : List Rn) (vD v0 v1 v2 v3 v4 v5 v6 v7 v8 v9 Z0 Z1 Z2 Z3 Z4 Z6 Z7 Z8 Z9 ZA ZB ZC ZD ZE ZF ZG ZH ZI ZJ ZK ZL ZM ZN ZO ZP ZQ ZR ZS ZT ZU ZV ZW ZX ZY ZZ Za Zb Zc Zd Ze Zf Zg Zh Zi Zj Zk Zl Zm Zn Zo Zp Zq Zr Zs Zt Zu Zv Zw Zx Zy Zz Y0 Y1 Y2 Y3 Y4 Y5 Y6 Y7 Y8 Y9 YA YB YC YD YE YF YG YH YI YJ YK YL YM YN YO YP YQ YR YS YT YU YV YW YX YY YZ Ya Yb Yc Yd Ye Yf Yg Yh Yi Yj Yk Yl Ym Yn Yo Yp Yq Yr Ys Yt Yu Yv Yw Yx Yy Yz X0 X1 X2 X3 X4 X5 X6 X7 X8 X9 XA XB XC XD XE XF XG XH XI XJ XK XL XM XN XO XP XQ XR XS XT XU XV XW XX XY XZ Xa Xb Xc Xd Xe Xf Xg Xh Xi Xj Xk Xl Xm Xn Xo Xp Xq Xr Xs Xt Xu Xv Xw Xx Xy Xz K0 K1 K2 K3 K4 K5 K6 K7 K8 K9 KA KB KC KD KE KF KG KH KI KJ KK KL KM KN KO KP KQ KR KS KT KU KV KW KX KY KZ Ka Kb : Value) (Q : Exit → Act → World → Prop)
 (HO : Hid (OwnR w2 base vD D)) (hcase : D.length = o ∨ o < D.length)
 (HD : Hid ((D.length = o → (D ++ [(⟨h,h⟩ : Rn)])[o]? = some (⟨h,h⟩ : Rn) ∧ (D ++ [(⟨h,h⟩ : Rn)]).set o (⟨min h h,max h h⟩ : Rn) = D2) ∧ (o < D.length → ∃ r : Rn,D[o]? = some r ∧ D.set o (⟨min r.lo h,max r.hi h⟩ : Rn) = D2)))
 (y : w2.cell? ⟨bh,oh + o,none⟩ = some (.int .i64 h)) (i1 : (o : Int) < (n : Int)) (hbb : bh < base) (hbh : bh < w2.heap.size) (hch : n ≤ ch) (hcm : ch ≤ maxLen) (hbs : base ≤ w2.heap.size) (hD : D.length < 4294967296)
 (HY : Hid (∀ w',Below base w2 w' → w'.cell? ⟨bh,oh + o,none⟩ = some (.int .i64 h)))
 (HQ : RgParQ7 w2 base bh oh n ch o D2 v0 v1 v2 v3 v4 v5 v6 v7 v8 v9 Z0 Z1 Z2 Z3 Z4 Z6 Z7 Z8 Z9 ZA ZB ZC ZD ZE ZF ZG ZH ZI ZJ ZK ZL ZM ZN ZO ZP ZQ ZR ZS ZT ZU ZV ZW ZX ZY ZZ Za Zb Zc Zd Ze Zf Zg Zh Zi Zj Zk Zl Zm Zn Zo Zp Zq Zr Zs Zt Zu Zv Zw Zx Zy Zz Y0 Y1 Y2 Y3 Y4 Y5 Y6 Y7 Y8 Y9 YA YB YC YD YE YF YG YH YI YJ YK YL YM YN YO YP YQ YR YS YT YU YV YW YX YY YZ Ya Yb Yc Yd Ye Yf Yg Yh Yi Yj Yk Yl Ym Yn Yo Yp Yq Yr Ys Yt Yu Yv Yw Yx Yy Yz X0 X1 X2 X3 X4 X5 X6 X7 X8 X9 XA XB XC XD XE XF XG XH XI XJ XK XL XM XN XO XP XQ XR XS XT XU XV XW XX XY XZ Xa Xb Xc Xd Xe Xf Xg Xh Xi Xj Xk Xl Xm Xn Xo Xp Xq Xr Xs Xt Xu Xv Xw Xx Xy Xz K0 K1 K2 K3 K4 K5 K6 K7 K8 K9 KA KB KC KD KE KF KG KH KI KJ KK KL KM KN KO KP KQ KR KS KT KU KV KW KX KY KZ Ka Kb Q) :
 Code.wp Try.prog rgPar7 Q ⟨#[v0,v1,v2,v3,v4,v5,v6,v7,v8,v9,Z0,Z1,Z2,Z3,Z4,vD,Z6,Value.slice (some ⟨bh,oh,none⟩) n ch,Z7,Z8,Z9,ZA,ZB,Value.int .i64 (o : Int),ZC,ZD,ZE,ZF,ZG,ZH,ZI,ZJ,ZK,ZL,ZM,ZN,ZO,ZP,ZQ,ZR,ZS,ZT,ZU,ZV,ZW,ZX,ZY,ZZ,Za,Zb,Zc,Zd,Ze,Zf,Zg,Zh,Zi,Zj,Zk,Zl,Zm,Zn,Zo,Zp,Zq,Zr,Zs,Zt,Zu,Zv,Zw,Zx,Zy,Zz,Y0,Y1,Y2,Y3,Y4,Y5,Y6,Y7,Y8,Y9,YA,YB,YC,YD,YE,YF,YG,YH,YI,YJ,YK,YL,YM,YN,YO,YP,YQ,YR,YS,YT,YU,YV,YW,YX,YY,YZ,Ya,Yb,Yc,Yd,Ye,Yf,Yg,Yh,Yi,Yj,Yk,Yl,Ym,Yn,Yo,Yp,Yq,Yr,Ys,Yt,Yu,Yv,Yw,Yx,Yy,Yz,X0,X1,X2,X3,X4,X5,X6,X7,X8,X9,XA,XB,XC,XD,XE,XF,XG,XH,XI,XJ,XK,XL,XM,XN,XO,XP,XQ,XR,XS,XT,XU,XV,XW,XX,XY,XZ,Xa,Xb,Xc,Xd,Xe,Xf,Xg,Xh,Xi,Xj,Xk,Xl,Xm,Xn,Xo,Xp,Xq,Xr,Xs,Xt,Xu,Xv,Xw,Xx,Xy,Xz,K0,K1,K2,K3,K4,K5,K6,K7,K8,K9,KA,KB,KC,KD,KE,KF,KG,KH,KI,KJ,KK,KL,KM,KN,KO,KP,KQ,KR,KS,KT,KU,KV,KW,KX,KY,KZ,Ka,Kb],[]⟩ w2:=by
 obtain ⟨AD,cD,rfl,-,hcD,hmD⟩:=HO.out.form lenRn
 dsimp only
 conv => arg 2;whnf
 rcases hcase with hc | hc
 ·obtain ⟨d1,d2⟩:=HD.out.1 hc
  have HO' : Hid (OwnR w2 base (.slice AD o cD) D):=Lib.hid (by have h9:=HO.out;rw [hc] at h9;exact h9)
  have HD1:=Lib.hid (And.intro d1 d2)
  rw [hc]
  clear d1 d2 hc
  go_upto_region 35 with (fail)
  refine par_app w2 base bh oh n ch o h D _ _ _ _ _ _ _ _ _ _ _ _ _ _ _ _ _ _ _ _ _ _ _ _ _ _ _ _ _ _ _ _ _ _ _ _ _ _ _ _ _ _ _ _ _ _ _ _ _ _ _ _ _ _ _ _ _ _ _ _ _ _ _ _ _ _ _ _ _ _ _ _ _ _ _ _ _ _ _ _ _ _ _ _ _ _ _ _ _ _ _ _ _ _ _ _ _ _ _ _ _ _ _ _ _ _ _ _ _ _ _ _ _ _ _ _ _ _ _ _ _ _ _ _ _ _ _ _ _ _ _ _ _ _ _ _ _ _ _ _ _ _ _ _ _ _ _ _ _ _ _ _ _ _ _ _ _ _ _ _ _ _ _ _ _ _ _ _ _ _ _ _ _ _ _ _ _ _ _ _ _ _ _ _ _ _ _ _ _ _ _ _ _ _ _ _ _ _ _ _ _ _ _ _ _ _ _ _ _ _ _ _ _ _ _ _ _ _ _ _ _ _ _ _ _ _ _ _ _ _ _ _ _ _ _ HO' y i1 hbb hbh hch hcm hbs hD ?_
  intro Kc Kd Ke Kf Kg Kh Ki Kj Kk Kl Km Kn Z5 w3 hown3 hb3
  obtain ⟨AD',cD',rfl,-,-,-⟩:=hown3.form lenRn
  obtain ⟨bd,rfl,-⟩:=OwnR.put2 hown3 HD1.out.1 0 0
  obtain ⟨dn,hdn⟩ : ∃ dn,dn = (D ++ [(⟨h,h⟩ : Rn)]).length:=⟨_,rfl⟩
  rw [← hdn] at hown3 ⊢
  have HO3:=Lib.hid hown3
  have HR : Hid ((D ++ [(⟨h,h⟩ : Rn)])[o]? = some (⟨h,h⟩ : Rn)):=Lib.hid HD1.out.1
  have y3:=HY.out w3 hb3
  have hs3:=hb3.size
  have hbh3 : bh < w3.heap.size:=by omega
  have H3:=Lib.hid hb3
  clear hdn hown3 hb3 y
  go_upto_region 36 with (fail)
  refine par_put w3 base bd dn cD' bh oh n ch o h (D ++ [(⟨h,h⟩ : Rn)]) ⟨h,h⟩ _ _ _ _ _ _ _ _ _ _ _ _ _ _ _ _ _ _ _ _ _ _ _ _ _ _ _ _ _ _ _ _ _ _ _ _ _ _ _ _ _ _ _ _ _ _ _ _ _ _ _ _ _ _ _ _ _ _ _ _ _ _ _ _ _ _ _ _ _ _ _ _ _ _ _ _ _ _ _ _ _ _ _ _ _ _ _ _ _ _ _ _ _ _ _ _ _ _ _ _ _ _ _ _ _ _ _ _ _ _ _ _ _ _ _ _ _ _ _ _ _ _ _ _ _ _ _ _ _ _ _ _ _ _ _ _ _ _ _ _ _ _ _ _ _ _ _ _ _ _ _ _ _ _ _ _ _ _ _ _ _ _ _ _ _ _ _ _ _ _ _ _ _ _ _ _ _ _ _ _ _ _ _ _ _ _ _ _ _ _ _ _ _ _ _ _ _ _ _ _ _ _ _ _ _ _ _ _ _ _ _ _ _ _ _ _ _ _ _ _ _ _ _ _ _ _ _ _ _ _ _ _ _ _ HO3 HR y3 i1 hbh3 hch hcm (by omega) ?_
  intro Ko Kp Kq Kr Ks Kt Ku Kv Kw Kx Ky Kz J0 J1 J2 J3 J4 J5 J6 J7 J8 J9 JA JB w4 hown4 hb4
  have H4:=Lib.hid (And.intro hown4 hb4)
  clear hown4 hb4 y3
  go_wp2_with fail
  exact HQ _ _ _ _ _ _ _ _ _ _ _ _ _ _ _ _ _ _ _ _ _ _ _ _ _ _ _ _ _ _ _ _ _ _ _ _ _ _ _ _ _ _ (by rw [← HD1.out.2];exact H4.out.1) (H3.out.trans H4.out.2)
 ·obtain ⟨r,d1,d2⟩:=HD.out.2 hc
  obtain ⟨dn,hdn⟩ : ∃ dn,dn = D.length:=⟨_,rfl⟩
  have hown:=HO.out
  rw [← hdn] at hown hc ⊢
  obtain ⟨bd,e,-⟩:=OwnR.put2 hown d1 0 0
  subst e
  have HO3:=Lib.hid hown
  have HR:=Lib.hid d1
  have HD2:=Lib.hid d2
  have i4 : ¬ (dn : Int) ≤ (o : Int):=by omega
  clear hdn hown d1 d2 hc HO
  go_upto_region 36 with (fail)
  refine par_put w2 base bd dn cD bh oh n ch o h D r _ _ _ _ _ _ _ _ _ _ _ _ _ _ _ _ _ _ _ _ _ _ _ _ _ _ _ _ _ _ _ _ _ _ _ _ _ _ _ _ _ _ _ _ _ _ _ _ _ _ _ _ _ _ _ _ _ _ _ _ _ _ _ _ _ _ _ _ _ _ _ _ _ _ _ _ _ _ _ _ _ _ _ _ _ _ _ _ _ _ _ _ _ _ _ _ _ _ _ _ _ _ _ _ _ _ _ _ _ _ _ _ _ _ _ _ _ _ _ _ _ _ _ _ _ _ _ _ _ _ _ _ _ _ _ _ _ _ _ _ _ _ _ _ _ _ _ _ _ _ _ _ _ _ _ _ _ _ _ _ _ _ _ _ _ _ _ _ _ _ _ _ _ _ _ _ _ _ _ _ _ _ _ _ _ _ _ _ _ _ _ _ _ _ _ _ _ _ _ _ _ _ _ _ _ _ _ _ _ _ _ _ _ _ _ _ _ _ _ _ _ _ _ _ _ _ _ _ _ _ _ _ _ _ HO3 HR y i1 hbh hch hcm hbs ?_
  intro Ko Kp Kq Kr Ks Kt Ku Kv Kw Kx Ky Kz J0 J1 J2 J3 J4 J5 J6 J7 J8 J9 JA JB w4 hown4 hb4
  have H4:=Lib.hid (And.intro hown4 hb4)
  clear hown4 hb4 y
  go_wp2_with fail
  exact HQ _ _ _ _ _ _ _ _ _ _ _ _ _ _ _ _ _ _ _ _ _ _ _ _ _ _ _ _ _ _ _ _ _ _ _ _ _ _ _ _ _ _ (by rw [← HD2.out];exact H4.out.1) H4.out.2
end Go.Proofs.Ytmennjmjakdkcaa
namespace Go.Proofs.Ytmennjmjakdkcaa
open Go.RowKit
set_option linter.unusedVariables false
set_option linter.unusedSimpArgs false
set_option maxRecDepth 1000000
noncomputable def rgPar20 : Code:=((Try.f5.body.bind (findRgn 20)).getD .skip)
def RgParQ20 (w2 : World) (AL : Option Addr) (lw cL k : Nat) (v0 v1 v2 v3 v4 v5 v6 v7 v8 v9 Z0 Z1 Z2 Z3 Z5 Z6 JG Z9 ZA ZB JH ZC ZD ZE ZF ZG ZH ZI ZJ ZK ZL ZM ZN ZO ZP ZQ ZR ZS ZT ZU ZV ZW ZX ZY ZZ Za Zb Zc Zd Ze Zf Zg Zh Zi Zj Zk Zl Zm Zn Zo Zp Zq Zr Zs Zt Zu Zv Zw Zx Zy Zz Y0 Y1 Y2 Y3 Y4 Y5 Y6 Y7 Y8 Y9 YA YB YC YD YE YF YG YH YI YJ YK YL YM YN YO YP YQ YR YS YT YU YV YW YX YY YZ Ya Yb Yc Yd Ye Yf Yg Yh Yi Yj Yk Yl Ym Yn Yo Yp Yq Yr Ys Yt Yu Yv Yw Yx Yy Yz X0 X1 X2 X3 X4 X5 X6 X7 X8 X9 XA XB XC XD XE XF XG XH XI XJ XK XL XM XN XO XP XQ XR XS XT XU XV XW XX XY XZ Xa Xb Xc Xd Xe Xf Xg Xh Xi Xj Xk Xl Xm Xn Xo Xp Xq Xr Xs Xt Xu Xv Xw Xx Xy Xz K0 K1 K2 K3 K4 K5 K6 K7 K8 K9 KA KB KC KD KE KF KG KH KI KJ KK KL KM KN KO KP KQ KR KS KT KU KV KW KX KY KZ Ka Kb : Value) (Q : Exit → Act → World → Prop) : Prop:=∀ (JI JJ JK JL JM JN JO : Value),Q .normal ⟨#[v0,v1,v2,v3,v4,v5,v6,v7,v8,v9,Z0,Z1,Z2,Z3,Value.slice AL lw cL,Z5,Z6,JG,Value.bool true,Value.int .i64 (k : Int),Z9,ZA,ZB,JH,ZC,ZD,ZE,ZF,ZG,ZH,ZI,ZJ,ZK,ZL,ZM,ZN,ZO,ZP,ZQ,ZR,ZS,ZT,ZU,ZV,ZW,ZX,ZY,ZZ,Za,Zb,Zc,Zd,Ze,Zf,Zg,Zh,Zi,Zj,Zk,Zl,Zm,Zn,Zo,Zp,Zq,Zr,Zs,Zt,Zu,Zv,Zw,Zx,Zy,Zz,Y0,Y1,Y2,Y3,Y4,Y5,Y6,Y7,Y8,Y9,YA,YB,YC,YD,YE,YF,YG,YH,YI,YJ,YK,YL,YM,YN,JI,JJ,JK,JL,JM,JN,JO,Value.bool false,YW,YX,YY,YZ,Ya,Yb,Yc,Yd,Ye,Yf,Yg,Yh,Yi,Yj,Yk,Yl,Ym,Yn,Yo,Yp,Yq,Yr,Ys,Yt,Yu,Yv,Yw,Yx,Yy,Yz,X0,X1,X2,X3,X4,X5,X6,X7,X8,X9,XA,XB,XC,XD,XE,XF,XG,XH,XI,XJ,XK,XL,XM,XN,XO,XP,XQ,XR,XS,XT,XU,XV,XW,XX,XY,XZ,Xa,Xb,Xc,Xd,Xe,Xf,Xg,Xh,Xi,Xj,Xk,Xl,Xm,Xn,Xo,Xp,Xq,Xr,Xs,Xt,Xu,Xv,Xw,Xx,Xy,Xz,K0,K1,K2,K3,K4,K5,K6,K7,K8,K9,KA,KB,KC,KD,KE,KF,KG,KH,KI,KJ,KK,KL,KM,KN,KO,KP,KQ,KR,KS,KT,KU,KV,KW,KX,KY,KZ,Ka,Kb],[]⟩ w2
set_option maxHeartbeats 8000000 in
theorem par_test (w2 : World) (AL : Option Addr) (lw cL k : Nat) (v0 v1 v2 v3 v4 v5 v6 v7 v8 v9 Z0 Z1 Z2 Z3 Z5 Z6 JG Z9 ZA ZB JH ZC ZD ZE ZF ZG ZH ZI ZJ ZK ZL ZM ZN ZO ZP ZQ ZR ZS ZT ZU ZV ZW ZX ZY ZZ Za Zb Zc Zd Ze Zf Zg Zh Zi Zj Zk Zl Zm Zn Zo Zp Zq Zr Zs Zt Zu Zv Zw Zx Zy Zz Y0 Y1 Y2 Y3 Y4 Y5 Y6 Y7 Y8 Y9 YA YB YC YD YE YF YG YH YI YJ YK YL YM YN YO YP YQ YR YS YT YU YV YW YX YY YZ Ya Yb Yc Yd Ye Yf Yg Yh Yi Yj Yk Yl Ym Yn Yo Yp Yq Yr Ys Yt Yu Yv Yw Yx Yy Yz X0 X1 X2 X3 X4 X5 X6 X7 X8 X9 XA XB XC XD XE XF XG XH XI XJ XK XL XM XN XO XP XQ XR XS XT XU XV XW XX XY XZ Xa Xb Xc Xd Xe Xf Xg Xh Xi Xj Xk Xl Xm Xn Xo Xp Xq Xr Xs Xt Xu Xv Xw Xx Xy Xz K0 K1 K2 K3 K4 K5 K6 K7 K8 K9 KA KB KC KD KE KF KG KH KI KJ KK KL KM KN KO KP KQ KR KS KT KU KV KW KX KY KZ Ka Kb : Value) (Q : Exit → Act → World → Prop)
 (hk : k ≤ lw)
 (HQ : RgParQ20 w2 AL lw cL k v0 v1 v2 v3 v4 v5 v6 v7 v8 v9 Z0 Z1 Z2 Z3 Z5 Z6 JG Z9 ZA ZB JH ZC ZD ZE ZF ZG ZH ZI ZJ ZK ZL ZM ZN ZO ZP ZQ ZR ZS ZT ZU ZV ZW ZX ZY ZZ Za Zb Zc Zd Ze Zf Zg Zh Zi Zj Zk Zl Zm Zn Zo Zp Zq Zr Zs Zt Zu Zv Zw Zx Zy Zz Y0 Y1 Y2 Y3 Y4 Y5 Y6 Y7 Y8 Y9 YA YB YC YD YE YF YG YH YI YJ YK YL YM YN YO YP YQ YR YS YT YU YV YW YX YY YZ Ya Yb Yc Yd Ye Yf Yg Yh Yi Yj Yk Yl Ym Yn Yo Yp Yq Yr Ys Yt Yu Yv Yw Yx Yy Yz X0 X1 X2 X3 X4 X5 X6 X7 X8 X9 XA XB XC XD XE XF XG XH XI XJ XK XL XM XN XO XP XQ XR XS XT XU XV XW XX XY XZ Xa Xb Xc Xd Xe Xf Xg Xh Xi Xj Xk Xl Xm Xn Xo Xp Xq Xr Xs Xt Xu Xv Xw Xx Xy Xz K0 K1 K2 K3 K4 K5 K6 K7 K8 K9 KA KB KC KD KE KF KG KH KI KJ KK KL KM KN KO KP KQ KR KS KT KU KV KW KX KY KZ Ka Kb Q) :
 Code.wp Try.prog rgPar20 Q ⟨#[v0,v1,v2,v3,v4,v5,v6,v7,v8,v9,Z0,Z1,Z2,Z3,Value.slice AL lw cL,Z5,Z6,JG,Value.bool true,Value.int .i64 (k : Int),Z9,ZA,ZB,JH,ZC,ZD,ZE,ZF,ZG,ZH,ZI,ZJ,ZK,ZL,ZM,ZN,ZO,ZP,ZQ,ZR,ZS,ZT,ZU,ZV,ZW,ZX,ZY,ZZ,Za,Zb,Zc,Zd,Ze,Zf,Zg,Zh,Zi,Zj,Zk,Zl,Zm,Zn,Zo,Zp,Zq,Zr,Zs,Zt,Zu,Zv,Zw,Zx,Zy,Zz,Y0,Y1,Y2,Y3,Y4,Y5,Y6,Y7,Y8,Y9,YA,YB,YC,YD,YE,YF,YG,YH,YI,YJ,YK,YL,YM,YN,YO,YP,YQ,YR,YS,YT,YU,YV,YW,YX,YY,YZ,Ya,Yb,Yc,Yd,Ye,Yf,Yg,Yh,Yi,Yj,Yk,Yl,Ym,Yn,Yo,Yp,Yq,Yr,Ys,Yt,Yu,Yv,Yw,Yx,Yy,Yz,X0,X1,X2,X3,X4,X5,X6,X7,X8,X9,XA,XB,XC,XD,XE,XF,XG,XH,XI,XJ,XK,XL,XM,XN,XO,XP,XQ,XR,XS,XT,XU,XV,XW,XX,XY,XZ,Xa,Xb,Xc,Xd,Xe,Xf,Xg,Xh,Xi,Xj,Xk,Xl,Xm,Xn,Xo,Xp,Xq,Xr,Xs,Xt,Xu,Xv,Xw,Xx,Xy,Xz,K0,K1,K2,K3,K4,K5,K6,K7,K8,K9,KA,KB,KC,KD,KE,KF,KG,KH,KI,KJ,KK,KL,KM,KN,KO,KP,KQ,KR,KS,KT,KU,KV,KW,KX,KY,KZ,Ka,Kb],[]⟩ w2:=by
 dsimp only
 conv => arg 2;whnf
 rcases Nat.lt_or_ge k lw with h | h
 ·have i2 : (k : Int) < (lw : Int):=by omega
  go_wp2_with fail
  exact HQ _ _ _ _ _ _ _
 ·have i2 : ¬ (k : Int) < (lw : Int):=by omega
  go_wp2_with fail
  exact HQ _ _ _ _ _ _ _
end Go.Proofs.Ytmennjmjakdkcaa
namespace Go.Proofs.Ytmennjmjakdkcaa
open Go.RowKit
set_option linter.unusedVariables false
set_option linter.unusedSimpArgs false
theorem checkH_snoc {t : Int} {l : List Mk} {ks : List Int} {hs : List (List Int)} {ds : List De} {d : De} (h : checkH t l ks hs ds = 0) (h6 : ds.length < 6) (hd : deedE l.length ks.length d = 0) : checkH t l ks hs (ds ++ [d]) = 0:=by
 unfold checkH at h ⊢
 by_cases h1 : check t l = 0
 ·rw [if_neg (by rw [h1];simp)] at h ⊢
  by_cases h2 : flocksE l.length ks hs = 0
  ·rw [if_neg (by rw [h2];simp)] at h ⊢
   rw [if_neg (by omega)] at h
   rw [if_neg (by rw [List.length_append,List.length_singleton];omega)]
   rw [deedsE_snoc _ _ ds d h]
   exact hd
  ·rw [if_pos h2] at h;exact absurd h h2
 ·rw [if_pos h1] at h;exact absurd h h1
def enterE (b : Hb) (d : De) : Int :=
 if b.chk ≠ 0 then b.chk else if 6 ≤ b.ds.length then 6 else if deedE b.l.length b.ks.length d ≠ 0 then deedE b.l.length b.ks.length d
 else if b.ends (-1) 0 ≠ [] ∧ endsL b.t b.l b.hs (b.ds ++ [d]) (-1) 0 = [] then 12 else 0
def EnterR (b : Hb) (d : De) (w : World) (e : Ending) (w' : World) : Prop :=
 ((enterE b d = 0 ∧ ∃ A c Ak ck Ah ch Ad cd,e = .returned (.tuple #[Hb.v ⟨b.t,A,c,b.l,Ak,ck,b.ks,Ah,ch,b.hs,Ad,cd,b.ds ++ [d]⟩,.int .i64 0]) ∧ HbO w' w.heap.size ⟨b.t,A,c,b.l,Ak,ck,b.ks,Ah,ch,b.hs,Ad,cd,b.ds ++ [d]⟩) ∨
   (enterE b d ≠ 0 ∧ e = .returned (.tuple #[.agg #[.int .i64 0,.slice none 0 0,.slice none 0 0,.slice none 0 0,.slice none 0 0],.int .i64 (enterE b d)]))) ∧ Below w.heap.size w w'
theorem HbO.keptG {w w' : World} {base H : Nat} {b : Hb} (h : HbO w base b) (hg : w.grownBy w' (some H)) (hH : H < base) : HbO w' base b:=⟨h.m.keptH hg hH,h.k.keptH hg hH,h.h.keptH hg hH,h.d.keptH hg hH⟩
theorem HbO.now {w w' : World} {base p : Nat} {b : Hb} {O : Int → Obj} (h : HbO w base b) (hN : NowIn p O w w') (hp : p < base) : HbO w' base b :=
 h.keptG ⟨hN.os,hN.tape,hN.output,hN.size,fun j hj hne => hN.block j hj fun e => hne (by rw [e])⟩ hp
end Go.Proofs.Ytmennjmjakdkcaa
