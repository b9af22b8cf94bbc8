/- TopCounted 21: TcE. -/
import Derived.Test.YtgnjknihgjdedaaTc20
namespace Go.Proofs.Ytgnjknihgjdedaa
open Go.RowKit
set_option linter.unusedVariables false
set_option linter.unusedSimpArgs false
set_option maxRecDepth 1000000
def T26 (VC : Value) (j : Nat) (w w' : World) : Prop := match j with
  | 1 => w.grownBy w' VC.ownBlock
  | _ => Below w.heap.size w w'
def P26 (W : World) (B : Nat) (VC : Value) (ch : List Sp) (k : Nat) (w : World) : Prop := GE (fun j => VC.ownBlock = some j) W w ∧ (k = 1 → OwnSp w B VC ch)
section
variable {W : World} {B : Nat} {VC : Value} {ch : List Sp}
theorem T26.rf (w : World) : T26 VC 0 w w := Below.refl _ _
theorem T26.ge {j : Nat} {w w' : World} (h : T26 VC j w w') : GE (fun j => VC.ownBlock = some j) w w' := by
  unfold T26 at h
  split at h
  · exact GE.of h fun k e _ => e
  · exact GE.ofB h
theorem P26.start (h7 : OwnSp W B VC ch) (k : Nat) : P26 W B VC ch k W.drew := ⟨GE.ofB (bdraw (Below.refl _ _)), fun _ => Own.below h7 (bdraw (Below.refl _ _)) (Nat.le_refl _)⟩
theorem P26.st (k j : Nat) (w w' : World) (hc : j ≠ k ∨ k = 0) (hT : T26 VC j w w') (hp : P26 W B VC ch k w) : P26 W B VC ch k w' := by
  refine ⟨hp.1.tr hT.ge, fun e => ?_⟩
  have h := hp.2 e
  have hj : j ≠ 1 := by omega
  unfold T26 at hT
  split at hT
  · exact absurd rfl hj
  · exact Own.below h hT (Nat.le_refl _)
def FS1 (S : Nat) (c : Int) : VF := fun v w => ∃ r, v = .slice (some ⟨r, 0, none⟩) 1 1 ∧ S ≤ r ∧ w.heap[r]? = some (.cells #[.int .i64 c, .int .i64 c] 26 (0, 0))
theorem FS1.st {S : Nat} {c : Int} (h7 : ∀ k, VC.ownBlock = some k → k < S) (j : Nat) (v : Value) (w w' : World) (hT : T26 VC j w w') (h : FS1 S c v w) : FS1 S c v w' := by
  obtain ⟨r, h1, h2, h3⟩ := h
  exact ⟨r, h1, h2, (hT.ge.blk r (heap_lt h3) fun e => by have := h7 r e; omega).trans h3⟩
def FAS (S B n : Nat) (V : Value) (l : List Sp) : VF := fun v w => ∃ g c, v = .slice (some ⟨g, 0, none⟩) n c ∧ OwnSp w B v l ∧ (V.ownBlock = some g ∨ S ≤ g)
theorem FAS.st {S n : Nat} {l : List Sp} (j : Nat) (v : Value) (w w' : World) (hj : j ≠ 1) (hT : T26 VC j w w') (h : FAS S B n VC l v w) : FAS S B n VC l v w' := by
  obtain ⟨g, c, h1, h2, h3⟩ := h
  refine ⟨g, c, h1, ?_, h3⟩
  unfold T26 at hT
  split at hT
  · exact absurd rfl hj
  · exact Own.below h2 hT (Nat.le_refl _)
end
noncomputable def rgC26 : Code := ((Try.f4.body.bind (findRgn 26)).getD .skip)
def RgC26 (W : World) (B p6 : Nat) (c : Int) (VC : Value) (ch : List Sp) (g lo hi m : Int) (vK : Value) (v0 v1 v2 v3 v4 v5 v7 v8 v9 Z0 Z1 Z2 Z3 Z4 Z5 Z6 Z7 Z8 Z9 ZA ZB ZC ZD ZE ZF ZG ZH ZI ZJ ZK ZL ZM ZN ZO ZP ZQ ZR ZS ZT ZU ZV ZW ZX ZY ZZ Za Zb Zc Zd Ze Zf Zg Zh Zi Zj Zk Zl Zm Zn Zo Zp Zq Zr Zs Zt Zu Zv Zw Zx Zy Zz Y0 Y1 Y2 Y3 Y4 Y5 Y6 Y7 Y8 Y9 YA YB YC YD YE YF YG YH YI YJ YK YL YM YN YO YP YQ YR YS YT YU YV YW YX YY YZ Ya Yb Yc Yd Ye Yf Yg Yh Yi Yj Yk Yl Ym Yn Yo Yp Yq Yr Ys Yt Yu Yv Yw Yx Yy Yz X0 X1 X2 X3 X4 X5 X6 X7 X8 X9 XA XB XC XD XE XF XG XH XI XJ XK XL XM XN XO XP XQ XR XS XT XU XV XW XX XY XZ Xa Xb Xc Xd Xe Xf Xg Xh Xi Xj Xk Xl Xm Xn Xo Xp Xq Xr Xs Xt Xu Xv Xw Xx Xy Xz K0 K1 K2 K3 K4 K5 K6 K7 K8 K9 KA KB KC KD KE KF KG KH KI KJ KK KL KM KN KO KP KQ KR KS KT KU KV KW KX KY KZ Ka Kb Kc Kd Ke Kf Kg Kh Ki Kj Kk Kl Km Kn Ko Kp Kq Kr Ks Kt Ku Kv Kw Kx Ky Kz J0 J1 J2 J3 J4 J5 J6 J7 J8 J9 JA JB JC JD JE JF JG JH JI JJ JK JL JM JN JO JP JQ JR JS JT JU JV JW JX JY JZ Ja Jb Jc Jd Je Jf Jg Jh Ji Jj Jk Jl Jm Jn Jo Jp Jq Jr Js Jt Ju Jv Jw Jx : Value) (Q : Exit → Act → World → Prop) : Prop := ∀ (Jy Jz G0 G1 G2 G3 G4 G5 G6 G7 G8 G9 : Value) (g7 c7 : Nat) (w' : World), OwnSp w' B (.slice (some ⟨g7, 0, none⟩) (ch.length + 1) c7) (ch ++ [oneS c]) → (VC.ownBlock = some g7 ∨ W.heap.size ≤ g7) → w'.heap[p6]? = some (tyC (g + 1) lo hi (.slice (some ⟨g7, 0, none⟩) (ch.length + 1) c7) m vK) → GE (fun j => j = p6 ∨ VC.ownBlock = some j) W w' → Q .normal ⟨#[v0, v1, v2, v3, v4, v5, (Value.pointer (some ⟨p6, 0, none⟩)), v7, v8, v9, Z0, Z1, Z2, (Value.int .i64 c), Z3, Z4, Z5, Z6, Z7, Z8, Z9, ZA, ZB, ZC, ZD, ZE, ZF, ZG, ZH, ZI, ZJ, ZK, ZL, ZM, ZN, ZO, ZP, ZQ, ZR, ZS, ZT, ZU, ZV, ZW, ZX, ZY, ZZ, Za, Zb, Zc, Zd, Ze, Zf, Zg, Zh, Zi, Zj, Zk, Zl, Zm, Zn, Zo, Zp, Zq, Zr, Zs, Zt, Zu, Zv, Zw, Zx, Zy, Zz, Y0, Y1, Y2, Y3, Y4, Y5, Y6, Y7, Y8, Y9, YA, YB, YC, YD, YE, YF, YG, YH, YI, YJ, YK, YL, YM, YN, YO, YP, YQ, YR, YS, YT, YU, YV, YW, YX, YY, YZ, Ya, Yb, Yc, Yd, Ye, Yf, Yg, Yh, Yi, Jy, Jz, G0, G1, G2, G3, G4, G5, G6, G7, G8, G9, Yv, Yw, Yx, Yy, Yz, X0, X1, X2, X3, X4, X5, X6, X7, X8, X9, XA, XB, XC, XD, XE, XF, XG, XH, XI, XJ, XK, XL, XM, XN, XO, XP, XQ, XR, XS, XT, XU, XV, XW, XX, XY, XZ, Xa, Xb, Xc, Xd, Xe, Xf, Xg, Xh, Xi, Xj, Xk, Xl, Xm, Xn, Xo, Xp, Xq, Xr, Xs, Xt, Xu, Xv, Xw, Xx, Xy, Xz, K0, K1, K2, K3, K4, K5, K6, K7, K8, K9, KA, KB, KC, KD, KE, KF, KG, KH, KI, KJ, KK, KL, KM, KN, KO, KP, KQ, KR, KS, KT, KU, KV, KW, KX, KY, KZ, Ka, Kb, Kc, Kd, Ke, Kf, Kg, Kh, Ki, Kj, Kk, Kl, Km, Kn, Ko, Kp, Kq, Kr, Ks, Kt, Ku, Kv, Kw, Kx, Ky, Kz, J0, J1, J2, J3, J4, J5, J6, J7, J8, J9, JA, JB, JC, JD, JE, JF, JG, JH, JI, JJ, JK, JL, JM, JN, JO, JP, JQ, JR, JS, JT, JU, JV, JW, JX, JY, JZ, Ja, Jb, Jc, Jd, Je, Jf, Jg, Jh, Ji, Jj, Jk, Jl, Jm, Jn, Jo, Jp, Jq, Jr, Js, Jt, Ju, Jv, Jw, Jx], []⟩ w'
set_option maxHeartbeats 8000000 in
theorem cnt_chg (W : World) (B p6 : Nat) (c : Int) (AC : Option Addr) (cC : Nat) (ch : List Sp) (g lo hi m : Int) (vK : Value) (v0 v1 v2 v3 v4 v5 v7 v8 v9 Z0 Z1 Z2 Z3 Z4 Z5 Z6 Z7 Z8 Z9 ZA ZB ZC ZD ZE ZF ZG ZH ZI ZJ ZK ZL ZM ZN ZO ZP ZQ ZR ZS ZT ZU ZV ZW ZX ZY ZZ Za Zb Zc Zd Ze Zf Zg Zh Zi Zj Zk Zl Zm Zn Zo Zp Zq Zr Zs Zt Zu Zv Zw Zx Zy Zz Y0 Y1 Y2 Y3 Y4 Y5 Y6 Y7 Y8 Y9 YA YB YC YD YE YF YG YH YI YJ YK YL YM YN YO YP YQ YR YS YT YU YV YW YX YY YZ Ya Yb Yc Yd Ye Yf Yg Yh Yi Yj Yk Yl Ym Yn Yo Yp Yq Yr Ys Yt Yu Yv Yw Yx Yy Yz X0 X1 X2 X3 X4 X5 X6 X7 X8 X9 XA XB XC XD XE XF XG XH XI XJ XK XL XM XN XO XP XQ XR XS XT XU XV XW XX XY XZ Xa Xb Xc Xd Xe Xf Xg Xh Xi Xj Xk Xl Xm Xn Xo Xp Xq Xr Xs Xt Xu Xv Xw Xx Xy Xz K0 K1 K2 K3 K4 K5 K6 K7 K8 K9 KA KB KC KD KE KF KG KH KI KJ KK KL KM KN KO KP KQ KR KS KT KU KV KW KX KY KZ Ka Kb Kc Kd Ke Kf Kg Kh Ki Kj Kk Kl Km Kn Ko Kp Kq Kr Ks Kt Ku Kv Kw Kx Ky Kz J0 J1 J2 J3 J4 J5 J6 J7 J8 J9 JA JB JC JD JE JF JG JH JI JJ JK JL JM JN JO JP JQ JR JS JT JU JV JW JX JY JZ Ja Jb Jc Jd Je Jf Jg Jh Ji Jj Jk Jl Jm Jn Jo Jp Jq Jr Js Jt Ju Jv Jw Jx : Value) (Q : Exit → Act → World → Prop)
    (H6 : Hid (W.heap[p6]? = some (tyC g lo hi (.slice AC ch.length cC) m vK))) (hpB : p6 < B) (hg : 0 ≤ g ∧ g ≤ 100)
    (HO : Hid (OwnSp W B (.slice AC ch.length cC) ch)) (hl : ch.length ≤ 100) (hBW : B ≤ W.heap.size)
    (HQ : RgC26 W B p6 c (.slice AC ch.length cC) ch g lo hi m vK v0 v1 v2 v3 v4 v5 v7 v8 v9 Z0 Z1 Z2 Z3 Z4 Z5 Z6 Z7 Z8 Z9 ZA ZB ZC ZD ZE ZF ZG ZH ZI ZJ ZK ZL ZM ZN ZO ZP ZQ ZR ZS ZT ZU ZV ZW ZX ZY ZZ Za Zb Zc Zd Ze Zf Zg Zh Zi Zj Zk Zl Zm Zn Zo Zp Zq Zr Zs Zt Zu Zv Zw Zx Zy Zz Y0 Y1 Y2 Y3 Y4 Y5 Y6 Y7 Y8 Y9 YA YB YC YD YE YF YG YH YI YJ YK YL YM YN YO YP YQ YR YS YT YU YV YW YX YY YZ Ya Yb Yc Yd Ye Yf Yg Yh Yi Yj Yk Yl Ym Yn Yo Yp Yq Yr Ys Yt Yu Yv Yw Yx Yy Yz X0 X1 X2 X3 X4 X5 X6 X7 X8 X9 XA XB XC XD XE XF XG XH XI XJ XK XL XM XN XO XP XQ XR XS XT XU XV XW XX XY XZ Xa Xb Xc Xd Xe Xf Xg Xh Xi Xj Xk Xl Xm Xn Xo Xp Xq Xr Xs Xt Xu Xv Xw Xx Xy Xz K0 K1 K2 K3 K4 K5 K6 K7 K8 K9 KA KB KC KD KE KF KG KH KI KJ KK KL KM KN KO KP KQ KR KS KT KU KV KW KX KY KZ Ka Kb Kc Kd Ke Kf Kg Kh Ki Kj Kk Kl Km Kn Ko Kp Kq Kr Ks Kt Ku Kv Kw Kx Ky Kz J0 J1 J2 J3 J4 J5 J6 J7 J8 J9 JA JB JC JD JE JF JG JH JI JJ JK JL JM JN JO JP JQ JR JS JT JU JV JW JX JY JZ Ja Jb Jc Jd Je Jf Jg Jh Ji Jj Jk Jl Jm Jn Jo Jp Jq Jr Js Jt Ju Jv Jw Jx Q) :
    Code.wp Try.prog rgC26 Q ⟨#[v0, v1, v2, v3, v4, v5, (Value.pointer (some ⟨p6, 0, none⟩)), v7, v8, v9, Z0, Z1, Z2, (Value.int .i64 c), Z3, Z4, Z5, Z6, Z7, Z8, Z9, ZA, ZB, ZC, ZD, ZE, ZF, ZG, ZH, ZI, ZJ, ZK, ZL, ZM, ZN, ZO, ZP, ZQ, ZR, ZS, ZT, ZU, ZV, ZW, ZX, ZY, ZZ, Za, Zb, Zc, Zd, Ze, Zf, Zg, Zh, Zi, Zj, Zk, Zl, Zm, Zn, Zo, Zp, Zq, Zr, Zs, Zt, Zu, Zv, Zw, Zx, Zy, Zz, Y0, Y1, Y2, Y3, Y4, Y5, Y6, Y7, Y8, Y9, YA, YB, YC, YD, YE, YF, YG, YH, YI, YJ, YK, YL, YM, YN, YO, YP, YQ, YR, YS, YT, YU, YV, YW, YX, YY, YZ, Ya, Yb, Yc, Yd, Ye, Yf, Yg, Yh, Yi, Yj, Yk, Yl, Ym, Yn, Yo, Yp, Yq, Yr, Ys, Yt, Yu, Yv, Yw, Yx, Yy, Yz, X0, X1, X2, X3, X4, X5, X6, X7, X8, X9, XA, XB, XC, XD, XE, XF, XG, XH, XI, XJ, XK, XL, XM, XN, XO, XP, XQ, XR, XS, XT, XU, XV, XW, XX, XY, XZ, Xa, Xb, Xc, Xd, Xe, Xf, Xg, Xh, Xi, Xj, Xk, Xl, Xm, Xn, Xo, Xp, Xq, Xr, Xs, Xt, Xu, Xv, Xw, Xx, Xy, Xz, K0, K1, K2, K3, K4, K5, K6, K7, K8, K9, KA, KB, KC, KD, KE, KF, KG, KH, KI, KJ, KK, KL, KM, KN, KO, KP, KQ, KR, KS, KT, KU, KV, KW, KX, KY, KZ, Ka, Kb, Kc, Kd, Ke, Kf, Kg, Kh, Ki, Kj, Kk, Kl, Km, Kn, Ko, Kp, Kq, Kr, Ks, Kt, Ku, Kv, Kw, Kx, Ky, Kz, J0, J1, J2, J3, J4, J5, J6, J7, J8, J9, JA, JB, JC, JD, JE, JF, JG, JH, JI, JJ, JK, JL, JM, JN, JO, JP, JQ, JR, JS, JT, JU, JV, JW, JX, JY, JZ, Ja, Jb, Jc, Jd, Je, Jf, Jg, Jh, Ji, Jj, Jk, Jl, Jm, Jn, Jo, Jp, Jq, Jr, Js, Jt, Ju, Jv, Jw, Jx], []⟩ W := by
  dsimp only
  conv => arg 2; whnf
  obtain ⟨VC, hVC⟩ : ∃ VC, VC = Value.slice AC ch.length cC := ⟨_, rfl⟩
  have h7S : ∀ k, VC.ownBlock = some k → k < W.heap.size := fun k e => by rw [hVC] at e; exact (HO.out.lt k e).2
  have HVC := Lib.hid hVC
  have HC := Lib.hid (fun (w' : World) (hp : P26 W B VC ch 0 w') => show _ ∧ p6 < w'.heap.size from by
    have hb := (hp.1.blk p6 (heap_lt H6.out) (fun e => by rw [HVC.out] at e; have := (HO.out.lt p6 e).1; omega)).trans H6.out
    exact ⟨blk6 hb, heap_lt hb⟩)
  have HO2 := Lib.hid (show OwnSp W B VC ch by rw [hVC]; exact HO.out)
  obtain ⟨nC, hnC⟩ : ∃ nC, nC = ch.length := ⟨_, rfl⟩
  have HN := Lib.hid hnC
  clear hVC
  rw [← hnC] at HC
  clear hnC
  refine wp_region_tag 11 0 0 [] [] 0 (T26 VC) (P26 W B VC ch) [0, 0, 0, 0, 0, 0, 0, 0, 0, 1, 0] (by as_aux_lemma => kernel_rfl) (by as_aux_lemma => kernel_rfl) (by as_aux_lemma => kernel_rfl) (by as_aux_lemma => kernel_rfl) (by omega) (.inl rfl) rfl rfl (fun k i w1 w2 hc _ hT hp => P26.st k i w1 w2 hc hT hp) (fun k => P26.start HO2.out k) ?_
  apply Exists.intro
  refine ⟨fun ys => ?_, fun ops K hK => ?_⟩
  · simp only [List.take_succ_cons, List.take_zero, dstsOf, List.filterMap_cons, List.filterMap_nil, putAll]
    go_simp
    rfl
  simp only [List.take_succ_cons, List.take_zero, List.drop_succ_cons, List.drop_zero] at hK ⊢
  repeat
    refine LexT.const T26.rf ?_
    apply Exists.intro
    refine ⟨fun ys w' hp hpk hq hd => ?_, ?_⟩
    · try simp [DepsOf, depsGo, DF.holds, Region.binds, EqF] at hd
      try simp only [hd]
      obtain ⟨⟨k0, k1, k2, k3, k4, k5⟩, hl1⟩ := HC.out w' hp
      intro Q2 hQ2
      go_wp2_with fail
      rfl
    try simp only [List.nil_append, List.cons_append]
  refine LexT.some (FS1 W.heap.size c) (fun i v w1 w2 hc _ hT h => FS1.st h7S i v w1 w2 hT h) (fun ys w' hp hpk hq hd => ?_) ?_
  · try simp [DepsOf, depsGo, DF.holds, Region.binds, EqF] at hd
    try simp only [hd]
    have hpz : W.heap.size ≤ w'.heap.size := hp.1.size
    have HX := Lib.hid (show T26 VC 0 w' (w'.alloc (.cells #[.int .i64 c, .int .i64 c] 26 (0, 0))) ∧ FS1 W.heap.size c (.slice (some ⟨w'.heap.size, 0, none⟩) 1 1) (w'.alloc (.cells #[.int .i64 c, .int .i64 c] 26 (0, 0))) from ⟨bal0 _ _, w'.heap.size, rfl, hpz, alloc_at rfl⟩)
    clear hp hpk
    intro Q2 hQ2
    go_wp2_with fail
    exact HX.out
  try simp only [List.nil_append, List.cons_append]
  refine LexT.some (FAS W.heap.size B (ch.length + 1) VC (ch ++ [oneS c])) (fun i v w1 w2 hc _ hT h => FAS.st i v w1 w2 (by simpa using hc) hT h) (fun ys w' hp hpk hq hd => ?_) ?_
  · try simp [DepsOf, depsGo, DF.holds, Region.binds, EqF] at hd
    try simp only [hd]
    obtain ⟨e122, r, e126, hrS, hr⟩ := hd
    simp only [e126]
    have hpz : W.heap.size ≤ w'.heap.size := hp.1.size
    have hbz : B ≤ w'.heap.size := Nat.le_trans hBW hpz
    have hnsl : ch.length < 4294967296 := by omega
    have HX0 := Lib.hid (show OwnSp w' B (.slice AC nC cC) ch ∧ w'.heap[r]? = _ from ⟨by have := hpk.2 rfl; rw [HVC.out, ← HN.out] at this; exact this, hr⟩)
    clear hp hpk e122 e126 hrS hr
    intro Q2 hQ2
    go_wp2_with (at_builtin; refine wp_appL okSp rfl (.tmp 122) (.tmp 126) rfl B (.slice AC nC cC) ch (oneS c) #[.int .i64 c, .int .i64 c] r rfl rfl HX0.out.2 rfl rfl (one_eSp _) HX0.out.1 hnsl (by decide) hbz ?_; intro g7 c7 w7 ho7 hgr7 hl7; have HX := Lib.hid (And.intro ho7 (And.intro hgr7 hl7)); clear ho7 hgr7 hl7)
    have hgg := HX.out.2.1
    have hll := HX.out.2.2
    rw [HN.out, ← HVC.out] at hgg hll
    exact ⟨hgg, g7, c7, rfl, HX.out.1, hll.imp id (fun e => by omega)⟩
  try simp only [List.nil_append, List.cons_append]
  repeat
    refine LexT.const T26.rf ?_
    apply Exists.intro
    refine ⟨fun ys w' hp hpk hq hd => ?_, ?_⟩
    · try simp [DepsOf, depsGo, DF.holds, Region.binds, EqF] at hd
      try simp only [hd]
      obtain ⟨⟨k0, k1, k2, k3, k4, k5⟩, hl1⟩ := HC.out w' hp
      intro Q2 hQ2
      go_wp2_with fail
      rfl
    try simp only [List.nil_append, List.cons_append]
  refine hK _ fun ys w' hp hF => ?_
  simp [AllF, DF.holds] at hF
  obtain ⟨-, -, e120, -, -, -, -, -, -, ⟨g7, c7, e127, o7, l7⟩, e128⟩ := hF
  rw [e127] at o7
  have hbx := (hp.1.blk p6 (heap_lt H6.out) (fun e => by rw [HVC.out] at e; have := (HO.out.lt p6 e).1; omega)).trans H6.out
  simp only [e120, e127, e128]
  obtain ⟨k0, k1, k2, k3, k4, k5⟩ := blk6 hbx
  obtain ⟨f0, f3⟩ := And.intro (frz hbx 0) (frz hbx 3)
  have hl6 := heap_lt hbx
  rw [HVC.out] at l7
  have hge := hp.1
  rw [HVC.out] at hge
  have HX := Lib.hid (And.intro o7 (And.intro hbx hge))
  clear hK hp e120 e127 e128 o7 hbx hge
  go_wp2_with fail
  obtain ⟨Z, hZ⟩ : ∃ Z, Z = (w'.setCell ⟨p6, 0, none⟩ (.int .i64 (g + 1))).setCell ⟨p6, 3, none⟩ (.slice (some ⟨g7, 0, none⟩) (ch.length + 1) c7) := ⟨_, rfl⟩
  rw [← hZ]
  have hz : Z.heap[p6]? = some (tyC (g + 1) lo hi (.slice (some ⟨g7, 0, none⟩) (ch.length + 1) c7) m vK) := by rw [hZ]; exact (set_blk (set_blk HX.out.2.1)).trans rfl
  have hgz : w'.grownBy Z (some p6) := by rw [hZ]; exact (grownBy_cell _ _ _ _).trans (grownBy_cell _ _ _ _)
  refine HQ _ _ _ _ _ _ _ _ _ _ _ _ g7 c7 Z (Own.kept HX.out.1 hgz (.inr (Own.nb HX.out.1 hpB))) l7 hz ((HX.out.2.2.mono fun j _ e => .inr e).tr (GE.of hgz fun k e _ => .inl (by injection e with e; exact e.symm)))
end Go.Proofs.Ytgnjknihgjdedaa
