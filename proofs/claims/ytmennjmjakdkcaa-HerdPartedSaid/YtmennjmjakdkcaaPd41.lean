/- HerdParted 41: ParR, HdAb, SameR, HdW. -/
import Derived.Test.YtmennjmjakdkcaaPd29
import Derived.Test.YtmennjmjakdkcaaPd26
import Derived.Test.YtmennjmjakdkcaaPd31
import Derived.Test.YtmennjmjakdkcaaPd03
import Derived.BigRegion
import Derived.Test.YtmennjmjakdkcaaPd36
import Derived.Test.YtmennjmjakdkcaaPd05
namespace Go.Proofs.Ytmennjmjakdkcaa
open Go.RowKit
set_option linter.unusedVariables false
set_option linter.unusedSimpArgs false
set_option maxRecDepth 1000000
noncomputable def rgPar27 : Code:=((Try.f5.body.bind (findRgn 27)).getD .skip)
def RgParQ27 (w2 : World) (p bs os m cs b2 o2 lw cw k s : Nat) (fb' : Bool) (v0 v1 v2 v3 v5 v6 v7 v8 Z0 Z1 Z2 Z3 Z4 Z5 Z6 Z7 Z8 Z9 ZA ZB ZC ZD ZE ZF ZG ZH ZI ZJ ZK ZL ZM ZN ZO ZP ZQ ZR ZS ZT ZU ZV ZW ZX ZY ZZ Za Zb Zc Zd Ze Zf Zg Zh Zi Zj Zk Zl Zm Zn Zo Zp Zq Zr Zs Zt Zu Zv Zw Zx Zy Zz Y0 Y1 Y2 Y3 Y4 Y5 Y6 Y7 Y8 Y9 YA YB YC YD YE YF YG YH YI YJ YK YL YM YN YO YP YQ YR YS YT YU YV YW YX YY YZ Ya Yb Yc Yd Ye Yf Yg Yh Yi Yj Yk Yl Ym Yn Yo Yp Yq Yr Ys Yt Yu Yv Yw Yx Yy Yz X0 X1 X2 X3 X4 X5 X6 X7 X8 X9 XA XB XC XD XE XF XG XH XI XJ XK XL XM XN XO XP XQ XR XS XT XU XV XW XX XY XZ Xa Xb Xc Xd Xe Xf Xg Xh Xi Xj Xk Xl Xm Xn Xo Xp Xq Xr Xs Xt Xu Xv Xw Xx Xy Xz K0 K1 K2 K3 K4 K5 K6 K7 K8 K9 KA KB KC KD KE KF KG KH KI KJ KK KL KM KN KO KP KQ KR KS KT KU KV KW KX KY KZ : Value) (Q : Exit → Act → World → Prop) : Prop:=∀ (Ka Kb Kc Kd Ke Kf Kg Kh Ki Kj Kk Kl Km Kn Ko Kp Kq Kr Ks Kt Ku Kv Kw : Value) (w' : World),Below w2.heap.size w2 w' → Q .normal ⟨#[v0,v1,v2,v3,Value.pointer (some ⟨p,0,none⟩),v5,v6,v7,v8,Value.slice (some ⟨bs,os,none⟩) m cs,Z0,Z1,Z2,Z3,Value.slice (some ⟨b2,o2,none⟩) lw cw,Z4,Z5,Z6,Z7,Value.int .i64 (k : Int),Value.bool fb',Z8,Value.int .i64 (s : Int),Z9,ZA,ZB,ZC,ZD,ZE,ZF,ZG,ZH,ZI,ZJ,ZK,ZL,ZM,ZN,ZO,ZP,ZQ,ZR,ZS,ZT,ZU,ZV,ZW,ZX,ZY,ZZ,Za,Zb,Zc,Zd,Ze,Zf,Zg,Zh,Zi,Zj,Zk,Zl,Zm,Zn,Zo,Zp,Zq,Zr,Zs,Zt,Zu,Zv,Zw,Zx,Zy,Zz,Y0,Y1,Y2,Y3,Y4,Y5,Y6,Y7,Y8,Y9,YA,YB,YC,YD,YE,YF,YG,YH,YI,YJ,YK,YL,YM,YN,YO,YP,YQ,YR,YS,YT,YU,YV,YW,YX,YY,YZ,Ya,Yb,Yc,Yd,Ka,Kb,Kc,Kd,Ke,Kf,Kg,Kh,Ki,Kj,Kk,Kl,Km,Kn,Ko,Kp,Kq,Kr,Ks,Kt,Ku,Kv,Kw,X1,X2,X3,X4,X5,X6,X7,X8,X9,XA,XB,XC,XD,XE,XF,XG,XH,XI,XJ,XK,XL,XM,XN,XO,XP,XQ,XR,XS,XT,XU,XV,XW,XX,XY,XZ,Xa,Xb,Xc,Xd,Xe,Xf,Xg,Xh,Xi,Xj,Xk,Xl,Xm,Xn,Xo,Xp,Xq,Xr,Xs,Xt,Xu,Xv,Xw,Xx,Xy,Xz,K0,K1,K2,K3,K4,K5,K6,K7,K8,K9,KA,KB,KC,KD,KE,KF,KG,KH,KI,KJ,KK,KL,KM,KN,KO,KP,KQ,KR,KS,KT,KU,KV,KW,KX,KY,KZ],[]⟩ w'
set_option maxHeartbeats 8000000 in
theorem par_fit (w2 : World) (b : Hb) (p bs os m cs b2 o2 lw cw k s b3 o3 c2 on : Nat) (ss : List Sg) (sg : Sg) (wd : List Int) (fb fb' : Bool) (v0 v1 v2 v3 v5 v6 v7 v8 Z0 Z1 Z2 Z3 Z4 Z5 Z6 Z7 Z8 Z9 ZA ZB ZC ZD ZE ZF ZG ZH ZI ZJ ZK ZL ZM ZN ZO ZP ZQ ZR ZS ZT ZU ZV ZW ZX ZY ZZ Za Zb Zc Zd Ze Zf Zg Zh Zi Zj Zk Zl Zm Zn Zo Zp Zq Zr Zs Zt Zu Zv Zw Zx Zy Zz Y0 Y1 Y2 Y3 Y4 Y5 Y6 Y7 Y8 Y9 YA YB YC YD YE YF YG YH YI YJ YK YL YM YN YO YP YQ YR YS YT YU YV YW YX YY YZ Ya Yb Yc Yd Ye Yf Yg Yh Yi Yj Yk Yl Ym Yn Yo Yp Yq Yr Ys Yt Yu Yv Yw Yx Yy Yz X0 X1 X2 X3 X4 X5 X6 X7 X8 X9 XA XB XC XD XE XF XG XH XI XJ XK XL XM XN XO XP XQ XR XS XT XU XV XW XX XY XZ Xa Xb Xc Xd Xe Xf Xg Xh Xi Xj Xk Xl Xm Xn Xo Xp Xq Xr Xs Xt Xu Xv Xw Xx Xy Xz K0 K1 K2 K3 K4 K5 K6 K7 K8 K9 KA KB KC KD KE KF KG KH KI KJ KK KL KM KN KO KP KQ KR KS KT KU KV KW KX KY KZ : Value) (Q : Exit → Act → World → Prop)
 (HIn : Hid (HbIn w2 b)) (HB : Hid (w2.heap[p]? = some (boxO b.t b.vm b.vk b.vh b.vd))) (HS : Hid (Sights w2 (some ⟨bs,os,none⟩) m ss ∧ ss[s]? = some sg ∧ seen sg 9 6 = 0)) (HW : Hid (Ints w2 (some ⟨b3,o3,none⟩) m wd ∧ wd[s]? = some (on : Int) ∧ HeOk b.t b.l b.ks b.hs b.ds))
 (y2 : w2.cell? ⟨b2,o2 + k,none⟩ = some (.slice (some ⟨b3,o3,none⟩) m c2)) (hsm : s < m) (hol : on < b.l.length) (i1 : (k : Int) < (lw : Int)) (hcw : lw ≤ cw) (hcm : cw ≤ maxLen) (hc2 : m ≤ c2) (hm2 : c2 ≤ maxLen) (hcs : m ≤ cs) (hms : cs ≤ maxLen) (hb2 : b2 < w2.heap.size)
 (HF : Hid (fb' = (fb && fits sg (mkAt b.l on) b.t)))
 (HQ : RgParQ27 w2 p bs os m cs b2 o2 lw cw k s fb' v0 v1 v2 v3 v5 v6 v7 v8 Z0 Z1 Z2 Z3 Z4 Z5 Z6 Z7 Z8 Z9 ZA ZB ZC ZD ZE ZF ZG ZH ZI ZJ ZK ZL ZM ZN ZO ZP ZQ ZR ZS ZT ZU ZV ZW ZX ZY ZZ Za Zb Zc Zd Ze Zf Zg Zh Zi Zj Zk Zl Zm Zn Zo Zp Zq Zr Zs Zt Zu Zv Zw Zx Zy Zz Y0 Y1 Y2 Y3 Y4 Y5 Y6 Y7 Y8 Y9 YA YB YC YD YE YF YG YH YI YJ YK YL YM YN YO YP YQ YR YS YT YU YV YW YX YY YZ Ya Yb Yc Yd Ye Yf Yg Yh Yi Yj Yk Yl Ym Yn Yo Yp Yq Yr Ys Yt Yu Yv Yw Yx Yy Yz X0 X1 X2 X3 X4 X5 X6 X7 X8 X9 XA XB XC XD XE XF XG XH XI XJ XK XL XM XN XO XP XQ XR XS XT XU XV XW XX XY XZ Xa Xb Xc Xd Xe Xf Xg Xh Xi Xj Xk Xl Xm Xn Xo Xp Xq Xr Xs Xt Xu Xv Xw Xx Xy Xz K0 K1 K2 K3 K4 K5 K6 K7 K8 K9 KA KB KC KD KE KF KG KH KI KJ KK KL KM KN KO KP KQ KR KS KT KU KV KW KX KY KZ Q) :
 Code.wp Try.prog rgPar27 Q ⟨#[v0,v1,v2,v3,Value.pointer (some ⟨p,0,none⟩),v5,v6,v7,v8,Value.slice (some ⟨bs,os,none⟩) m cs,Z0,Z1,Z2,Z3,Value.slice (some ⟨b2,o2,none⟩) lw cw,Z4,Z5,Z6,Z7,Value.int .i64 (k : Int),Value.bool fb,Z8,Value.int .i64 (s : Int),Z9,ZA,ZB,ZC,ZD,ZE,ZF,ZG,ZH,ZI,ZJ,ZK,ZL,ZM,ZN,ZO,ZP,ZQ,ZR,ZS,ZT,ZU,ZV,ZW,ZX,ZY,ZZ,Za,Zb,Zc,Zd,Ze,Zf,Zg,Zh,Zi,Zj,Zk,Zl,Zm,Zn,Zo,Zp,Zq,Zr,Zs,Zt,Zu,Zv,Zw,Zx,Zy,Zz,Y0,Y1,Y2,Y3,Y4,Y5,Y6,Y7,Y8,Y9,YA,YB,YC,YD,YE,YF,YG,YH,YI,YJ,YK,YL,YM,YN,YO,YP,YQ,YR,YS,YT,YU,YV,YW,YX,YY,YZ,Ya,Yb,Yc,Yd,Ye,Yf,Yg,Yh,Yi,Yj,Yk,Yl,Ym,Yn,Yo,Yp,Yq,Yr,Ys,Yt,Yu,Yv,Yw,Yx,Yy,Yz,X0,X1,X2,X3,X4,X5,X6,X7,X8,X9,XA,XB,XC,XD,XE,XF,XG,XH,XI,XJ,XK,XL,XM,XN,XO,XP,XQ,XR,XS,XT,XU,XV,XW,XX,XY,XZ,Xa,Xb,Xc,Xd,Xe,Xf,Xg,Xh,Xi,Xj,Xk,Xl,Xm,Xn,Xo,Xp,Xq,Xr,Xs,Xt,Xu,Xv,Xw,Xx,Xy,Xz,K0,K1,K2,K3,K4,K5,K6,K7,K8,K9,KA,KB,KC,KD,KE,KF,KG,KH,KI,KJ,KK,KL,KM,KN,KO,KP,KQ,KR,KS,KT,KU,KV,KW,KX,KY,KZ],[]⟩ w2:=by
 dsimp only
 conv => arg 2;whnf
 obtain ⟨c0,c1,-,-,-⟩:=blk5 HB.out
 have hlB:=heap_lt HB.out
 obtain ⟨bm,om,mk,eA,hbm,hmk,m0,m1,m2⟩:=Marks.get HIn.out.m hol
 unfold Hb.vm at c1
 rw [eA] at c1
 obtain ⟨bs',os',sg',e,hbs,hs,s0,s1,s2,s3,s4⟩:=Sights.get HS.out.1 hsm
 cases e
 rw [HS.out.2.1] at hs
 cases hs
 obtain ⟨b3',o3',x3,e,hb3,hx3,y3⟩:=Ints.get HW.out.1 hsm
 cases e
 rw [HW.out.2.1] at hx3
 cases hx3
 obtain ⟨hsn,hso,-,-⟩:=seen_ok HS.out.2.2
 have hmv:=(check_marks HW.out.2.2.ck mk (List.mem_of_getElem? hmk)).1
 have i2 : (on : Int) < (b.l.length : Int):=by omega
 have i3 : (s : Int) < (m : Int):=by omega
 have hmc:=HIn.out.mc
 have hmm:=HIn.out.mm
 have cM : ∀ d' os,Calls Try.prog 28 #[vSg sg,vMk mk,.int .i64 b.t] (Sort.grow (redrawn w2 d') os) (fun e w'' => e = .returned (.bool (fits sg mk b.t)) ∧ ∃ p : Regrown,w'' = Sort.grow (redrawn w2 p.d) p.os):=fun d' os =>
  Calls.regrown_of (rFits sg mk b.t _ hmv.1 hmv.2 hsn.1 hsn.2 hso)
 obtain ⟨F,hF⟩ : ∃ F,F = fits sg mk b.t:=⟨_,rfl⟩
 rw [← hF] at cM
 have hMB : fb' = (fb && F):=by
  rw [HF.out]
  unfold mkAt
  rw [Int.toNat_natCast,hmk,hF]
  rfl
 unfold vSg vMk at cM
 have HCM:=Lib.hid cM
 have k0:=cell_regrown c0
 have k1:=cell_regrown c1
 have k2:=cell_regrown y2
 have k5:=cell_regrown y3
 have k3:=And.intro (cell_regrown s0) (And.intro (cell_regrown s1) (And.intro (cell_regrown s2) (And.intro (cell_regrown s3) (cell_regrown s4))))
 have k4:=And.intro (cell_regrown m0) (And.intro (cell_regrown m1) (cell_regrown m2))
 clear c0 c1 s0 s1 s2 s3 s4 m0 m1 m2 y2 y3 cM hF hmk eA hsn hso hmv
 cases fb
 ·rw [Bool.false_and] at hMB
  subst hMB
  refine wp_region_quiet_below (by kernel_rfl) (by kernel_rfl) ?_
  repeat (go_big_quiet_step (exact HCM.out _ _))
  refine wpQuiet_nil ?_
  intro _ hw'
  obtain ⟨⟨dq,osq⟩,hw''⟩:=hw'
  subst hw''
  go_wp2_with fail
  exact HQ _ _ _ _ _ _ _ _ _ _ _ _ _ _ _ _ _ _ _ _ _ _ _ _ (below_regrown w2 dq osq)
 ·rw [Bool.true_and] at hMB
  cases F
  all_goals
   subst hMB
   refine wp_region_quiet_below (by kernel_rfl) (by kernel_rfl) ?_
   repeat (go_big_quiet_step (exact HCM.out _ _))
   refine wpQuiet_nil ?_
   intro _ hw'
   obtain ⟨⟨dq,osq⟩,hw''⟩:=hw'
   subst hw''
   go_wp2_with fail
   exact HQ _ _ _ _ _ _ _ _ _ _ _ _ _ _ _ _ _ _ _ _ _ _ _ _ (below_regrown w2 dq osq)
end Go.Proofs.Ytmennjmjakdkcaa
namespace Go.Proofs.Ytmennjmjakdkcaa
open Go.RowKit Go.MapKept
set_option linter.unusedVariables false
set_option linter.unusedSimpArgs false
def eGf (x : Gf) : List Value:=[.int .i64 x.f,.int .i64 x.o,.int .i64 x.r.lo,.int .i64 x.r.hi]
theorem Rns.get {w : World} {A : Option Addr} {n : Nat} {l : List Rn} (h : Sl eRn 2 w A n l) {k : Nat} (hk : k < n) :
 ∃ b off m,A = some ⟨b,off,none⟩ ∧ b < w.heap.size ∧ l[k]? = some m ∧ w.cell? ⟨b,off + k * 2,none⟩ = some (.int .i64 m.lo) ∧ w.cell? ⟨b,off + k * 2 + 1,none⟩ = some (.int .i64 m.hi):=by
 obtain ⟨b,off,x,hA,hx,hc⟩:=h.at_ hk
 have h0:=hc 0 _ rfl
 exact ⟨b,off,x,hA,cell_lt h0,hx,h0,hc 1 _ rfl⟩
def rowG (k : Int) (f : Nat) (row : List Rn) (j : Nat) : List Gf:=((List.range j).filter fun (o : Nat) => decide ((o : Int) ≠ k) && decide (0 < (row.getD o ⟨0,0⟩).hi)).map fun (o : Nat) => ⟨(f : Int),(o : Int),row.getD o ⟨0,0⟩⟩
end Go.Proofs.Ytmennjmjakdkcaa
namespace Go.Proofs.Ytmennjmjakdkcaa
open Go.RowKit
set_option linter.unusedVariables false
set_option linter.unusedSimpArgs false
set_option maxHeartbeats 1000000 in
theorem sameRanges_any (A : Option Addr) (n c : Nat) (x : List Rn) (B : Option Addr) (m d : Nat) (y : List Rn) (w : World) (hx : Sl eRn 2 w A n x) (hy : Sl eRn 2 w B m y) (hn : n ≤ maxLen) (hm : m ≤ maxLen) :
 Calls Try.prog 31 #[.slice A n c,.slice B m d] w fun e w' => e = .returned (.bool (sameL x y)) ∧ Below w.heap.size w w':=by
 have HL:=Lib.hid (And.intro hx.len hy.len)
 have HXY:=Lib.hid (And.intro hx hy)
 unfold maxLen at hn hm
 clear hx hy
 by_cases hnm : n = m
 ·subst hnm
  have h0 : (n != n) = false:=by simp
  have h0' : ((n : Int) != (n : Int)) = false:=by simp
  go_enter Try.func31,Try.ntmps31
  go_wp2_with fail
  go_loopg [5] n (fun g i wr => ∃ k : Nat,k + g = n ∧ i = .int .i64 k ∧ x.take k = y.take k ∧ ∃ q,wr = w.drewN q)
  case atStart => exact ⟨0,by omega,rfl,by simp,0,rfl⟩
  case round =>
   obtain ⟨k,hk,rfl,htk,q,rfl⟩:=hrel
   have HK:=Lib.hid (And.intro hk htk)
   have hkn : k ≤ n:=by omega
   clear hk htk
   by_cases hlt : k < n
   ·obtain ⟨b0,o0,u,rfl,hb0,hu,p0,p1⟩:=Rns.get HXY.out.1 hlt
    obtain ⟨b1,o1,v,rfl,hb1,hv,q0,q1⟩:=Rns.get HXY.out.2 hlt
    have i0 : (0 : Int) ≤ (k : Int):=by omega
    have i1 : (k : Int) < (n : Int):=by omega
    have HUV:=Lib.hid (And.intro hu hv)
    clear hu hv
    by_cases huv : u = v
    ·subst huv
     go_upto_region 6 with (fail)
     go_quiet (fail)
     go_wp2
     go_roundg (gk - 1)
     case measure => have:=HK.out.1;omega
     case rel => exact ⟨k + 1,by have:=HK.out.1;omega,by go_num,take_eq_snoc HK.out.2 HUV.out.1 HUV.out.2 rfl,_,rfl⟩
    ·have HNE:=Lib.hid huv
     cases e1 : (u.lo == v.lo) <;> cases e2 : (u.hi == v.hi)
     case true.true =>
      exfalso
      exact huv (by cases u;cases v;simp at e1 e2;simp [e1,e2])
     all_goals
      clear huv
      go_upto_region 6 with (fail)
      go_quiet (fail)
      go_wp2
      go_ret
      exact ⟨ret_bool (by unfold sameL;rw [decide_eq_false (ne_of_at HUV.out.1 HUV.out.2 HNE.out)]),below_drewN (below_drewN (Below.refl _ _) _) _⟩
   ·obtain rfl : k = n:=by omega
    go_wp2
    go_ret
    refine ⟨ret_bool ?_,below_drewN (Below.refl _ _) _⟩
    have h1:=HK.out.2
    rw [List.take_of_length_le (by have:=HL.out.1;omega),List.take_of_length_le (by have:=HL.out.2;omega)] at h1
    unfold sameL
    rw [decide_eq_true h1]
 ·have h0' : ((n : Int) != (m : Int)) = true:=by simp;omega
  have HNE:=Lib.hid hnm
  clear hnm
  go_enter Try.func31,Try.ntmps31
  go_wp2
  go_ret
  refine ⟨ret_bool ?_,Below.refl _ _⟩
  unfold sameL
  rw [decide_eq_false (fun h => HNE.out (by rw [← HL.out.1,← HL.out.2,h]))]
theorem GridA.len {α : Type} {enc : α → List Value} {sz : Nat} {w : World} {A : Option Addr} {n : Nat} {ls : List (List α)} (h : GridA enc sz w A n ls) : ls.length = n:=by
 obtain ⟨mv,h1,h2,_⟩:=h
 rw [← h2];exact h1.len
abbrev Table (w : World) (A : Option Addr) (n : Nat) (ls : List (List Rn)) : Prop:=GridA eRn 2 w A n ls
set_option maxRecDepth 100000 in
set_option maxHeartbeats 2000000 in
theorem sameTables_any (A : Option Addr) (n c : Nat) (x : List (List Rn)) (B : Option Addr) (m d : Nat) (y : List (List Rn)) (w : World) (hx : Table w A n x) (hy : Table w B m y) (hn : n ≤ maxLen) (hm : m ≤ maxLen) :
 Calls Try.prog 73 #[.slice A n c,.slice B m d] w fun e w' => e = .returned (.bool (sameL x y)) ∧ Below w.heap.size w w':=by
 have HL:=Lib.hid (And.intro hx.len hy.len)
 have HXY:=Lib.hid (And.intro hx hy)
 unfold maxLen at hn hm
 clear hx hy
 by_cases hnm : n = m
 ·subst hnm
  have h0 : (n != n) = false:=by simp
  have h0' : ((n : Int) != (n : Int)) = false:=by simp
  go_enter Try.func73,Try.ntmps73
  go_wp2_with fail
  go_loopg [5] n (fun g i wr => ∃ k : Nat,k + g = n ∧ i = .int .i64 k ∧ x.take k = y.take k ∧ Below w.heap.size w wr)
  case atStart => exact ⟨0,by omega,rfl,by simp,Below.refl _ _⟩
  case round =>
   obtain ⟨k,hk,rfl,htk,hbl⟩:=hrel
   have HK:=Lib.hid (And.intro hk htk)
   have hkn : k ≤ n:=by omega
   clear hk htk
   by_cases hlt : k < n
   ·obtain ⟨b0,o0,C0,u,c0,rfl,hb0,hu,p0,hi0,hc0,hm0⟩:=GridA.get (HXY.out.1.below hbl (Nat.le_refl _)) hlt
    obtain ⟨b1,o1,C1,v,c1,rfl,hb1,hv,q0,hi1,hc1,hm1⟩:=GridA.get (HXY.out.2.below hbl (Nat.le_refl _)) hlt
    have i0 : (0 : Int) ≤ (k : Int):=by omega
    have i1 : (k : Int) < (n : Int):=by omega
    have HUV:=Lib.hid (And.intro hu hv)
    have hmu : u.length ≤ maxLen:=Nat.le_trans hc0 hm0
    have hmv : v.length ≤ maxLen:=Nat.le_trans hc1 hm1
    have cS : ∀ d os,Calls Try.prog 31 #[.slice C0 u.length c0,.slice C1 v.length c1] (Sort.grow (redrawn wr d) os) (fun e w'' => e = .returned (.bool (sameL u v)) ∧ ∃ p : Regrown,w'' = Sort.grow (redrawn wr p.d) p.os):=fun d os =>
     Calls.regrown_of (sameRanges_any C0 u.length c0 u C1 v.length c1 v _ (hi0.below (below_regrown wr d os) (Nat.le_refl _)) (hi1.below (below_regrown wr d os) (Nat.le_refl _)) hmu hmv)
    clear hu hv hi0 hi1
    cases huv : sameL u v
    all_goals
     rw [huv] at cS
     have HC:=Lib.hid cS
     have HE:=Lib.hid huv
     clear cS huv
     go_upto_region 6 with (fail)
     have k0:=cell_regrown p0
     have k1:=cell_regrown q0
     refine wp_region_quiet_below (by kernel_rfl) (by kernel_rfl) ?_
     repeat (quiet_step (exact HC.out _ _))
     refine wpQuiet_nil ?_
     intro _ hw'
     obtain ⟨⟨dq,osq⟩,hw''⟩:=hw'
     subst hw''
     obtain ⟨w3,hW1⟩ : ∃ w3,w3 = Sort.grow (redrawn wr dq) osq:=⟨_,rfl⟩
     have hb3 : Below wr.heap.size wr w3:=by rw [hW1];exact below_regrown wr dq osq
     rw [← hW1]
     have hbl3:=hbl.trans (hb3.mono hbl.size)
     clear hW1 k0 k1 p0 q0
     go_wp2
    ·go_ret
     exact ⟨ret_bool (by unfold sameL;rw [decide_eq_false (ne_of_at HUV.out.1 HUV.out.2 (by have:=HE.out;unfold sameL at this;simpa using this))]),hbl3⟩
    ·go_roundg (gk - 1)
     case measure => have:=HK.out.1;omega
     case rel => exact ⟨k + 1,by have:=HK.out.1;omega,by go_num,take_eq_snoc HK.out.2 HUV.out.1 HUV.out.2 (by have:=HE.out;unfold sameL at this;simpa using this),hbl3⟩
   ·obtain rfl : k = n:=by omega
    go_wp2
    go_ret
    refine ⟨ret_bool ?_,hbl⟩
    have h1:=HK.out.2
    rw [List.take_of_length_le (by have:=HL.out.1;omega),List.take_of_length_le (by have:=HL.out.2;omega)] at h1
    unfold sameL
    rw [decide_eq_true h1]
 ·have h0' : ((n : Int) != (m : Int)) = true:=by simp;omega
  have HNE:=Lib.hid hnm
  clear hnm
  go_enter Try.func73,Try.ntmps73
  go_wp2
  go_ret
  refine ⟨ret_bool ?_,Below.refl _ _⟩
  unfold sameL
  rw [decide_eq_false (fun h => HNE.out (by rw [← HL.out.1,← HL.out.2,h]))]
end Go.Proofs.Ytmennjmjakdkcaa
namespace Go.Proofs.Ytmennjmjakdkcaa
open Go.RowKit Go.MapKept
set_option linter.unusedVariables false
set_option linter.unusedSimpArgs false
theorem NowIn.turn {p : Nat} {b : Hb} {d o d' o' : Int} {w w' : World} (h : NowIn p (b.bk d o) w w') : NowIn p (b.bk d' o') w ((w'.setCell ⟨p,5,none⟩ (.int .i64 d')).setCell ⟨p,6,none⟩ (.int .i64 o')):=by
 obtain ⟨n,hn⟩:=h.hp
 refine ⟨h.os,h.tape,h.output,by simpa using h.size,fun k hk hne => ((Below.heap_setCell _ ⟨p,6,none⟩ _ _ hne).trans (Below.heap_setCell _ ⟨p,5,none⟩ _ _ hne)).trans (h.block k hk hne),⟨n,?_⟩⟩
 exact (set_blk (set_blk hn)).trans (by simp)
theorem Work.turn {w0 w w' : World} {p : Nat} {b : Hb} {d o d' o' : Int} (h : Work w0 p b d o w) (k : NowIn p (b.bk d' o') w w') : Work w0 p b d' o' w':=⟨h.hin,h.hz,h.bel.trans (k.less h.hz h.bel.size),k.hp,h.ck⟩
theorem NowIn.other {p : Nat} {O O' : Int → Obj} {a b c : World} (h : NowIn p O a b) (k : NowIn p O' b c) : NowIn p O' a c :=
 ⟨k.os.trans h.os,k.tape.trans h.tape,k.output.trans h.output,Nat.le_trans h.size k.size,fun i hi hne => (k.block i (Nat.lt_of_lt_of_le hi h.size) hne).trans (h.block i hi hne),k.hp⟩
def whoseTo (b : Hb) (deed : Int) (k : Nat) : List Int:=((List.range k).filter fun (o : Nat) => !decide (b.ends deed (o : Int) = [])).map Int.ofNat
theorem whoseTo_succ (b : Hb) (deed : Int) (k : Nat) : whoseTo b deed (k + 1) = whoseTo b deed k ++ if (!decide (b.ends deed (k : Int) = [])) = true then [(k : Int)] else []:=by
 unfold whoseTo
 rw [List.range_succ,List.filter_append,List.map_append]
 congr 1
 by_cases h : b.ends deed (k : Int) = [] <;> simp [h]
theorem whoseTo_len (b : Hb) (deed : Int) (k : Nat) : (whoseTo b deed k).length ≤ k:=by
 unfold whoseTo
 rw [List.length_map]
 have:=List.length_filter_le (fun (o : Nat) => !decide (b.ends deed (o : Int) = [])) (List.range k)
 simpa using this
def whoseE (b : Hb) (deed : Int) : Int :=
 if b.chk ≠ 0 then b.chk else if ownB b.ds.length deed = false then 3 else if (b.ds[deed.toNat]?.map De.kind) ≠ some 5 then 8 else if whoseTo b deed b.l.length = [] then 11 else 0
def whoseR (b : Hb) (deed : Int) : List Int:=if whoseE b deed = 0 then whoseTo b deed b.l.length else []
def WhoseR (b : Hb) (deed : Int) (w : World) (e : Ending) (w' : World) : Prop:=(∃ v,e = .returned (.tuple #[v,.int .i64 (whoseE b deed)]) ∧ OwnI w' w.heap.size v (whoseR b deed)) ∧ Below w.heap.size w w'
theorem whose_nil {b : Hb} {deed : Int} {w w' : World} {e : Int} (he : whoseE b deed = e) (h0 : e ≠ 0) (hb : Below w.heap.size w w') : WhoseR b deed w (.returned (.tuple #[.slice none 0 0,.int .i64 e])) w':=by
 refine ⟨⟨_,by rw [he],?_⟩,hb⟩
 unfold whoseR
 rw [he,if_neg h0]
 exact Own.nil_
set_option maxRecDepth 100000 in
set_option maxHeartbeats 1000000 in
theorem Whose_any (b : Hb) (deed : Int) (w : World) (hin : HbIn w b) : Calls Try.prog 12 #[b.v,.int .i64 deed] w (WhoseR b deed w):=by
 obtain ⟨V,hV⟩ : ∃ V,V = w.alloc b.obj:=⟨_,rfl⟩
 obtain ⟨g,hg⟩ : ∃ g,g = w.heap.size:=⟨_,rfl⟩
 have b0 : V.heap[g]? = some b.obj:=by rw [hV,hg];exact alloc_at rfl
 have hBV : Below w.heap.size w V:=by rw [hV];exact bal0 w _
 have hiV:=hin.below hBV (Nat.le_refl _)
 obtain ⟨c0,c1,c2,c3,c4⟩:=blk5c b0
 have hak:=asked_any b V hiV
 unfold Hb.v at hak
 have HV:=Lib.hid (And.intro hBV (And.intro b0 (And.intro hiV hg)))
 unfold Hb.v
 go_enter Try.func12,Try.ntmps12
 go_upto_region 1 with (fail)
 rw [← hV,← hg]
 clear hV hg hin hBV hiV b0
 obtain ⟨R,hR⟩ : ∃ R,R = AskedR b b.chk V:=⟨_,rfl⟩
 rw [← hR] at hak
 have HR:=Lib.hid hR
 clear hR
 go_upto_region 2 with (go_at_call 55;refine hak.mono ?_;rintro e w2 hRR;rw [HR.out] at hRR;unfold AskedR at hRR;rcases hRR with ⟨h0,rfl,hb2⟩ | ⟨h0,p,rfl,hWk,hb2⟩)
 ·have xf : (b.chk != 0) = true:=by simp [h0]
  go_wp2_with fail
  go_ret2
  exact whose_nil (by unfold whoseE;rw [if_pos h0]) h0 (HV.out.1.trans (hb2.mono HV.out.1.size))
 have x0:=bheap HV.out.2.1 hb2 (Nat.le_refl _)
 have hok:=hWk.ok
 have hgp : g ≠ p:=by have:=hWk.hz;have:=heap_lt HV.out.2.1;omega
 clear c0 c1 c2 c3 c4 hak
 obtain ⟨c0,c1,c2,c3,c4⟩:=blk5c x0
 have hpl:=hWk.lt
 have hdw:=hWk.inn.d
 obtain ⟨n,hn⟩ : ∃ n,n = b.l.length:=⟨_,rfl⟩
 obtain ⟨nd,hnd⟩ : ∃ nd,nd = b.ds.length:=⟨_,rfl⟩
 obtain ⟨Ad,hAd⟩ : ∃ Ad,Ad = b.Ad:=⟨_,rfl⟩
 rw [← hn] at c1
 rw [← hnd,← hAd] at c4 hdw
 have hn0 : 0 < n ∧ n ≤ 5:=by rw [hn];exact ⟨hok.n0,hok.n5⟩
 have hd6 : nd ≤ 6:=by rw [hnd];exact hok.d6
 have H2:=Lib.hid (And.intro hb2 (And.intro hWk (And.intro h0 (And.intro hn (And.intro hnd (And.intro hok (And.intro hgp (And.intro x0 (HV.out.1.trans (hb2.mono HV.out.1.size))))))))))
 clear hb2 hWk h0 hn hnd hok hgp x0 hAd
 obtain ⟨ob,hob⟩ : ∃ ob,ob = ownB nd deed:=⟨_,rfl⟩
 have hbt:=betweenH_any deed 0 ((nd : Int) - 1) w2
 rw [show btw deed 0 ((nd : Int) - 1) = ob from hob.symm] at hbt
 have HOB:=Lib.hid hob
 clear hob
 cases ob with
 | false =>
   go_wp2_with (go_at_call 56;refine hbt.mono ?_;rintro e w' ⟨rfl,rfl⟩)
   go_ret2
   exact whose_nil (by unfold whoseE;rw [if_neg (by rw [H2.out.2.2.1];simp),← H2.out.2.2.2.2.1,← HOB.out,if_pos rfl]) (by decide) H2.out.2.2.2.2.2.2.2.2
 | true =>
 obtain ⟨hd0,hdl⟩:=ownB_iff.1 HOB.out.symm
 obtain ⟨dn,rfl⟩:=Int.eq_ofNat_of_zero_le hd0
 have hdn : dn < nd:=by omega
 obtain ⟨bi,oi,d,hA,hbi,hdk,d0,d1,d2,d3,d4,d5,d6,d7,d8,d9,d10,d11⟩:=Deeds.get hdw hdn
 subst hA
 have HD:=Lib.hid hdk
 clear hdk hdw hbi d1 d2 d3 d4 d5 d6 d7 d8 d9 d10 d11
 by_cases hk5 : d.kind = 5
 ·rw [hk5] at d0
  have hwe : whoseE b dn = if whoseTo b dn b.l.length = [] then 11 else 0:=by
   unfold whoseE
   rw [if_neg (by rw [H2.out.2.2.1];simp),← H2.out.2.2.2.2.1,← HOB.out,if_neg (by simp),if_neg (by rw [Int.toNat_natCast,HD.out];simp [hk5])]
  have HWE:=Lib.hid hwe
  clear hwe hk5
  go_wp2_with (go_at_call 56;refine hbt.mono ?_;rintro e w' ⟨rfl,rfl⟩)
  go_loopg [8,36] n (fun g' v8 ZM wr => ∃ k : Nat,k + g' = n ∧ ZM = .int .i64 k ∧ OwnI wr w2.heap.size v8 (whoseTo b dn k) ∧ ∃ dd oo,NowIn p (b.bk dd oo) w2 wr)
  case atStart => exact ⟨0,by omega,rfl,Own.nil_,_,_,H2.out.2.1.refl⟩
  case round =>
   obtain ⟨k,hk,rfl,hown,dd,oo,hN⟩:=hrel
   by_cases hlt : k < n
   ·have i1 : (k : Int) < (n : Int):=by omega
    obtain ⟨nw,hpb⟩:=hN.hp
    obtain ⟨p0,p1,p2,p3,p4,p5,p6,p7⟩:=blkB hpb
    have fz5:=frz hpb 5
    have fz6:=frz hpb 6
    have hpr:=heap_lt hpb
    have HK:=Lib.hid (And.intro hk (And.intro hown hN))
    clear hk hown hN hpb p0 p1 p2 p3 p4 p7
    go_upto_region 13 with (fail)
    have hN3:=HK.out.2.2.turn (d':=(dn : Int)) (o':=(k : Int))
    have hown3 : OwnI ((wr.setCell ⟨p,5,none⟩ (Value.int .i64 (dn : Int))).setCell ⟨p,6,none⟩ (Value.int .i64 (k : Int))) w2.heap.size u8 (whoseTo b dn k) :=
     Own.now (O:=b.bk dn k) HK.out.2.1 (a:=wr) ⟨rfl,rfl,rfl,by simp,fun j _ hne => (Below.heap_setCell _ ⟨p,6,none⟩ _ _ hne).trans (Below.heap_setCell _ ⟨p,5,none⟩ _ _ hne),hN3.hp⟩ hpl
    generalize ((wr.setCell ⟨p,5,none⟩ (Value.int .i64 (dn : Int))).setCell ⟨p,6,none⟩ (Value.int .i64 (k : Int))) = w3 at hN3 hown3 ⊢
    have htr:=truth_any V p b dn k w3 (H2.out.2.1.turn hN3)
    obtain ⟨tb,htb⟩ : ∃ tb,tb = !decide (b.ends (dn : Int) (k : Int) = []):=⟨_,rfl⟩
    rw [← htb] at htr
    have HTB:=Lib.hid htb
    have H3:=Lib.hid (And.intro hN3 hown3)
    clear htb hN3 hown3 p5 p6 fz5 fz6
    have hstp:=whoseTo_succ b dn k
    rw [← HTB.out] at hstp
    have HST:=Lib.hid hstp
    have hll:=whoseTo_len b dn k
    clear hstp
    cases tb with
    | false =>
      go_wp2_with (go_at_call 57;refine htr.mono ?_;rintro e w4 ⟨rfl,hN4⟩)
      go_roundg (gk - 1)
      case measure => have:=HK.out.1;omega
      case rel => exact ⟨k + 1,by have:=HK.out.1;omega,by go_num,by rw [HST.out];simpa using Own.now H3.out.2 hN4 hpl,dn,k,H3.out.1.other hN4⟩
    | true =>
      go_upto_region 14 with (go_at_call 57;refine htr.mono ?_;rintro e w4 ⟨rfl,hN4⟩)
      have hown4:=Own.now H3.out.2 hN4 hpl
      have hN4':=H3.out.1.other hN4
      have hz4:=hN4'.size
      have H4:=Lib.hid (And.intro hN4' hown4)
      clear hN4 hN4' hown4
      go_wp2_with (at_builtin;refine wp_app okInt rfl (.tmp 49) (.tmp 51) rfl w2.heap.size _ (whoseTo b dn k) (k : Int) _ rfl rfl rfl rfl (one_eInt _) H4.out.2 ?_ ?_ ?_ ?_;(omega);(omega);(omega);intro v' w5 hown5 hb5 _ hz5;have H5:=Lib.hid (And.intro hown5 hb5);clear hown5 hb5)
      go_roundg (gk - 1)
      case measure => have:=HK.out.1;omega
      case rel => exact ⟨k + 1,by have:=HK.out.1;omega,by go_num,by rw [HST.out];simpa using H5.out.1,dn,k,H4.out.1.below hpl H5.out.2 (Nat.le_refl _)⟩
   ·obtain rfl : k = n:=by omega
    obtain ⟨Av,cv,hve,hsl,hlc,hcm⟩:=hown.form lenInt
    have hbw : Below w.heap.size w wr:=H2.out.2.2.2.2.2.2.2.2.trans (hN.less (Nat.le_trans HV.out.1.size H2.out.2.1.hz) (Nat.le_trans HV.out.1.size H2.out.1.size))
    obtain ⟨L,hL⟩ : ∃ L,L = whoseTo b dn k:=⟨_,rfl⟩
    rw [← hL] at hve
    have hLl : L.length ≤ 5:=by rw [hL];have:=whoseTo_len b dn k;omega
    have HF:=Lib.hid (And.intro hown (And.intro hbw hL))
    subst hve
    clear hown hN hk hsl hlc hcm hbw hL
    by_cases hLn : L.length = 0
    ·have x0 : ((L.length : Int) == 0) = true:=by simp [hLn]
     have HLN:=Lib.hid hLn
     clear hLn
     go_wp2_with fail
     go_ret2
     refine whose_nil ?_ (by decide) HF.out.2.1
     rw [HWE.out,← H2.out.2.2.2.1,← HF.out.2.2,if_pos (List.eq_nil_of_length_eq_zero HLN.out)]
    ·have x0 : ((L.length : Int) == 0) = false:=by simp;exact fun e => hLn (by rw [e];rfl)
     have HLN:=Lib.hid hLn
     clear hLn
     go_wp2_with fail
     go_ret2
     have h0 : whoseE b dn = 0:=by
      rw [HWE.out,← H2.out.2.2.2.1,← HF.out.2.2,if_neg (fun e => HLN.out (by rw [e];rfl))]
     unfold WhoseR whoseR
     rw [h0,if_pos rfl]
     refine ⟨⟨_,rfl,?_⟩,HF.out.2.1⟩
     have:=HF.out.1
     rw [← HF.out.2.2] at this
     rw [← H2.out.2.2.2.1,← HF.out.2.2]
     exact this.mono (Nat.le_trans HV.out.1.size H2.out.1.size)
 ·have x5 : (d.kind != 5) = true:=by simp [hk5]
  have HK5:=Lib.hid hk5
  clear hk5
  go_wp2_with (go_at_call 56;refine hbt.mono ?_;rintro e w' ⟨rfl,rfl⟩)
  go_ret2
  refine whose_nil ?_ (by decide) H2.out.2.2.2.2.2.2.2.2
  unfold whoseE
  rw [if_neg (by rw [H2.out.2.2.1];simp),← H2.out.2.2.2.2.1,← HOB.out,if_neg (by simp),if_pos]
  rw [Int.toNat_natCast,HD.out]
  simpa using HK5.out
end Go.Proofs.Ytmennjmjakdkcaa
