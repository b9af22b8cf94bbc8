/- TopCounted 27: TcJ. -/
import Derived.Test.YtgnjknihgjdedaaTc26
import Derived.Test.YtgnjknihgjdedaaTc13
import Derived.Deep.CutBlock
namespace Go.Proofs.Ytgnjknihgjdedaa
open Go.RowKit
set_option linter.unusedVariables false
set_option linter.unusedSimpArgs false
set_option maxRecDepth 1000000
def LI (W : World) (H B p5 p6 : Nat) (mk : Mk) (a : Int) (N j : Nat) (v4 V7 V8 : Value) (w' : World) : Prop := ∃ (ch ns ls : List Int) (ds : List De) (now : Int) (X : Hb) (AC : Option Addr) (cC : Nat), v4 = .int .i64 now ∧ ch.length = j ∧ ds.length = j ∧ TcL a ch ns ls ∧ TcB mk a ds now (sumL (fun k => ls.getD k 0) j) ∧ now = ns.getD j 0 ∧ TcI W H B p5 p6 mk a (ch.map oneS) ns ls ds V7 V8 (N + 1000 * j) X AC cC H w'
noncomputable def lpC1 : Code := ((Try.f4.body.bind (findBlk 0)).getD .skip)
def RgCL1 (W : World) (H B p5 p6 m0 : Nat) (mk : Mk) (a : Int) (N : Nat) (v0 v1 v2 Z0 Z1 Z2 Z3 Z4 Z5 Z6 Z7 Z8 Z9 ZA ZB ZC ZD ZE ZF ZG ZH ZI ZJ ZK ZL ZM ZN ZO ZP ZQ ZR ZS ZT ZU ZV ZW ZX ZY ZZ Za Zb Zc Zd Ze Zf Zg Zh Zi Zj Zk Zl Zm Zn Zo Zp Zq Zr Zs Zt Zu Zv Zw Zx Zy Zz Y0 Y1 Y2 Y3 Y4 Y5 Y6 Y7 Y8 Y9 YA YB YC YD YE YF YG YH YI YJ YK YL YM YN YO YP YQ YR YS YT YU YV YW YX YY YZ Ya Yb Yc Yd Ye Yf Yg Yh Yi Yj Yk Yl Ym Yn Yo Yp Yq Yr Ys Yt Yu Yv Yw Yx Yy Yz X1 X2 X3 X4 X5 X6 X7 X8 X9 XA XB XC XD XE XF XG XH XI XJ XK XL XM XN XO XP XQ XR XS XT XU XV XW XX XY XZ Xa Xb Xc Xd Xe Xf Xg Xh Xi Xj Xk Xl Xm Xn Xo Xp Xq Xr Xs Xt Xu Xv Xw Xx Xy Xz K0 K1 K2 K3 K4 K5 K6 K7 K8 K9 KA KB KC KD KE KF KG KH KI KJ KK KL KM KN KO KP KQ KR KS KT KU KV KW KX KY KZ Ka Kb Kc Kd Ke Kf Kg Kh Ki Kj Kk Kl Km Kn Ko Kp Kq Kr Ks Kt Ku Kv Kw Kx Ky Kz J0 J1 J2 J3 J4 J5 J6 J7 J8 J9 JA JB JC JD JE JF JG JH JI JJ JK JL JM JN JO JP JQ JR JS JT JU JV JW JX JY JZ Ja Jb Jc Jd Je Jf Jg Jh Ji Jj Jk Jl Jm Jn Jo Jp Jq Jr Js Jt Ju Jv Jw Jx Jy Jz : Value) (Q : Exit → Act → World → Prop) : Prop := ∀ (x2 x4 x7 x8 G0 G1 G2 G3 G4 G5 G6 G7 G8 G9 GA GB GC GD GE GF GG GH GI GJ GK GL GM GN GO GP GQ GR GS GT GU GV GW GX GY GZ Ga Gb Gc Gd Ge Gf Gg Gh Gi Gj Gk Gl Gm Gn Gp Gq Gr Gs Gt Gu Gv Gw Gx Gy Gz F0 F1 F2 F3 F4 F5 F6 F7 F8 F9 FA FB FC : Value) (w' : World), LI W H B p5 p6 mk a N m0 x4 x7 x8 w' → Q .normal ⟨#[v0, v1, x2, (Value.pointer (some ⟨H, 0, none⟩)), x4, (Value.pointer (some ⟨p5, 0, none⟩)), (Value.pointer (some ⟨p6, 0, none⟩)), x7, x8, (Value.int .i64 0), G0, G1, G2, G3, G4, Z5, Z6, Z7, Z8, Z9, ZA, ZB, ZC, ZD, ZE, ZF, ZG, ZH, ZI, ZJ, ZK, ZL, ZM, ZN, ZO, ZP, ZQ, ZR, ZS, ZT, ZU, ZV, ZW, ZX, ZY, ZZ, Za, Zb, Zc, Zd, Ze, Zf, Zg, Zh, Zi, Zj, Zk, Zl, Zm, Zn, Zo, G5, G6, G7, G8, G9, GA, GB, GC, GD, GE, GF, GG, GH, GI, GJ, GK, GL, GM, GN, GO, GP, GQ, GR, GS, GT, GU, GV, GW, GX, GY, GZ, Ga, Gb, Gc, Gd, Ge, Gf, Gg, Gh, Gi, Gj, Gk, Gl, Gm, Gn, Gp, Gq, Gr, Gs, Gt, Gu, Gv, Gw, Gx, Gy, Gz, F0, F1, F2, F3, F4, F5, F6, F7, F8, F9, FA, FB, FC, Yw, Yx, Yy, Yz, X1, X2, X3, X4, X5, X6, X7, X8, X9, XA, XB, XC, XD, XE, XF, XG, XH, XI, XJ, XK, XL, XM, XN, XO, XP, XQ, XR, XS, XT, XU, XV, XW, XX, XY, XZ, Xa, Xb, Xc, Xd, Xe, Xf, Xg, Xh, Xi, Xj, Xk, Xl, Xm, Xn, Xo, Xp, Xq, Xr, Xs, Xt, Xu, Xv, Xw, Xx, Xy, Xz, K0, K1, K2, K3, K4, K5, K6, K7, K8, K9, KA, KB, KC, KD, KE, KF, KG, KH, KI, KJ, KK, KL, KM, KN, KO, KP, KQ, KR, KS, KT, KU, KV, KW, KX, KY, KZ, Ka, Kb, Kc, Kd, Ke, Kf, Kg, Kh, Ki, Kj, Kk, Kl, Km, Kn, Ko, Kp, Kq, Kr, Ks, Kt, Ku, Kv, Kw, Kx, Ky, Kz, J0, J1, J2, J3, J4, J5, J6, J7, J8, J9, JA, JB, JC, JD, JE, JF, JG, JH, JI, JJ, JK, JL, JM, JN, JO, JP, JQ, JR, JS, JT, JU, JV, JW, JX, JY, JZ, Ja, Jb, Jc, Jd, Je, Jf, Jg, Jh, Ji, Jj, Jk, Jl, Jm, Jn, Jo, Jp, Jq, Jr, Js, Jt, Ju, Jv, Jw, Jx, Jy, Jz], []⟩ w'
theorem sumL_snoc {ls : List Int} {j : Nat} {l : Int} (h : ls.length = j) : sumL (fun k => (ls ++ [l]).getD k 0) (j + 1) = sumL (fun k => ls.getD k 0) j + l := by
  have e : ∀ i, i ≤ j → sumL (fun k => (ls ++ [l]).getD k 0) i = sumL (fun k => ls.getD k 0) i := fun i => by
    induction i with
    | zero => intro _; rfl
    | succ i ih =>
      intro hi
      show sumL _ i + (ls ++ [l]).getD i 0 = sumL _ i + ls.getD i 0
      rw [ih (by omega), getD_app1 (by omega)]
  show sumL _ j + (ls ++ [l]).getD j 0 = _
  rw [e j (Nat.le_refl _), getD_app2 h.symm]
theorem heads_ne {a : Int} {ch ns ls : List Int} (h : TcL a ch ns ls) {l y : Int} (hl : 0 ≤ l ∧ l ≤ 3) : (ls ++ [l]).getD 0 0 ≠ (ns ++ [y]).getD 0 0 := by
  have h1 : (ns ++ [y]).getD 0 0 = a := by rw [getD_app1 (by have := h.n; omega)]; exact h.f
  have ha := h.a0
  rw [h1]
  rcases Nat.eq_zero_or_pos ls.length with h0 | h0
  · rw [getD_app2 h0.symm]; omega
  · rw [getD_app1 h0]
    have := (h.s 0 (by have := h.l; omega)).2
    omega
theorem tcb_enter {mk : Mk} {a now gone now' gone' : Int} {ds : List De} {d : De} {X : Hb} (h : TcB mk a ds now gone) (h' : TcB mk a (ds ++ [d]) now' gone') (hX : X.t = 0 ∧ X.l = [mk] ∧ X.ks = [0] ∧ X.hs = [[a]] ∧ X.ds = ds) (hm : mkOk mk = true) (ha : 0 ≤ a ∧ a ≤ 20) (h6 : ds.length < 6) : enterE X d = 0 := by
  obtain ⟨x1, x2, x3, x4, x5⟩ := hX
  have hd := h'.d
  rw [deedsE_snoc _ _ _ _ h.d] at hd
  have hc : X.chk = 0 := by unfold Hb.chk; rw [x1, x2, x3, x4, x5]; exact h.chk hm ha (by omega)
  unfold enterE
  rw [if_neg (by rw [hc]; simp), if_neg (by rw [x5]; omega), if_neg (by rw [x2, x3]; show ¬ deedE 1 1 d ≠ 0; rw [hd]; simp), if_neg]
  rintro ⟨-, h2⟩
  rw [x1, x2, x4, x5, h'.e] at h2
  cases h2
theorem enter_ok {b : Hb} {d : De} {w w' : World} {e : Ending} (h : EnterR b d w e w') (h0 : enterE b d = 0) : (∃ Y : Hb, e = .returned (.tuple #[Y.v, .int .i64 0]) ∧ (Y.t = b.t ∧ Y.l = b.l ∧ Y.ks = b.ks ∧ Y.hs = b.hs ∧ Y.ds = b.ds ++ [d]) ∧ HbO w' w.heap.size Y) ∧ Below w.heap.size w w' := by
  obtain ⟨h1 | h1, hb⟩ := h
  · obtain ⟨-, A, c, Ak, ck, Ah, ch, Ad, cd, rfl, ho⟩ := h1
    exact ⟨⟨_, rfl, ⟨rfl, rfl, rfl, rfl, rfl⟩, ho⟩, hb⟩
  · exact absurd h0 h1.1
theorem TcI.elt {W w' : World} {H B p5 p6 : Nat} {mk : Mk} {a : Int} {CH : List Sp} {ns ls : List Int} {ds : List De} {V7 V8 : Value} {N : Nat} {X : Hb} {AC : Option Addr} {cC q : Nat} (h : TcI W H B p5 p6 mk a CH ns ls ds V7 V8 N X AC cC q w') (hq : q < w'.heap.size) : ∀ j, EI H p5 p6 V7 V8 (.slice AC CH.length cC) q j → j < w'.heap.size := fun j e => by
  rcases e with e | e | e | e | e | e | e
  · rw [e]; exact h.dl.hd.lt
  · rw [e]; exact heap_lt h.b5
  · rw [e]; exact heap_lt h.b6
  · exact (h.o7.lt j e).2
  · exact (h.o8.lt j e).2
  · exact (h.oc.lt j e).2
  · rw [e]; exact hq
theorem LI.next {W : World} {H B p5 p6 : Nat} {mk : Mk} {a : Int} {N j : Nat} {ch ns ls : List Int} {ds : List De} {now now' c l : Int} {d : De} {V7 V8 : Value} {w' : World} {X : Hb} {AC : Option Addr} {cC : Nat} (hL : TcL a ch ns ls) (hcl : ch.length = j) (hdl : ds.length = j) (hj : j < 4) (hnow : now = ns.getD j 0) (hc : -3 ≤ c ∧ c ≤ 3) (hl : 0 ≤ l ∧ l ≤ 3) (hy : now' = now + c - l)
    (hTB : TcB mk a (ds ++ [d]) now' (sumL (fun k => ls.getD k 0) j + l)) (hS : TcI W H B p5 p6 mk a (ch.map oneS ++ [oneS c]) (ns ++ [now']) (ls ++ [l]) (ds ++ [d]) V7 V8 (N + 1000 * (j + 1)) X AC cC H w') : LI W H B p5 p6 mk a N (j + 1) (.int .i64 now') V7 V8 w' := by
  have hy2 : now' = ns.getD ch.length 0 + c - l := by rw [hcl, ← hnow]; exact hy
  refine ⟨ch ++ [c], ns ++ [now'], ls ++ [l], ds ++ [d], now', X, AC, cC, rfl, by simp [hcl], by simp [hdl], ?_, ?_, ?_, ?_⟩
  · rw [hy2]; exact hL.snoc (by omega) hc hl (by rw [← hy2]; exact hTB.n)
  · rw [sumL_snoc (by have := hL.l; omega)]; exact hTB
  · rw [getD_app2 (by have := hL.n; omega)]
  · rw [List.map_append]; exact hS
set_option maxHeartbeats 8000000 in
theorem cnt_loop1 (W0 W : World) (H B p5 p6 m0 N : Nat) (mk : Mk) (a : Int) (V8 : Value) (X0 : Hb) (v0 v1 v2 Z0 Z1 Z2 Z3 Z4 Z5 Z6 Z7 Z8 Z9 ZA ZB ZC ZD ZE ZF ZG ZH ZI ZJ ZK ZL ZM ZN ZO ZP ZQ ZR ZS ZT ZU ZV ZW ZX ZY ZZ Za Zb Zc Zd Ze Zf Zg Zh Zi Zj Zk Zl Zm Zn Zo Zp Zq Zr Zs Zt Zu Zv Zw Zx Zy Zz Y0 Y1 Y2 Y3 Y4 Y5 Y6 Y7 Y8 Y9 YA YB YC YD YE YF YG YH YI YJ YK YL YM YN YO YP YQ YR YS YT YU YV YW YX YY YZ Ya Yb Yc Yd Ye Yf Yg Yh Yi Yj Yk Yl Ym Yn Yo Yp Yq Yr Ys Yt Yu Yv Yw Yx Yy Yz X1 X2 X3 X4 X5 X6 X7 X8 X9 XA XB XC XD XE XF XG XH XI XJ XK XL XM XN XO XP XQ XR XS XT XU XV XW XX XY XZ Xa Xb Xc Xd Xe Xf Xg Xh Xi Xj Xk Xl Xm Xn Xo Xp Xq Xr Xs Xt Xu Xv Xw Xx Xy Xz K0 K1 K2 K3 K4 K5 K6 K7 K8 K9 KA KB KC KD KE KF KG KH KI KJ KK KL KM KN KO KP KQ KR KS KT KU KV KW KX KY KZ Ka Kb Kc Kd Ke Kf Kg Kh Ki Kj Kk Kl Km Kn Ko Kp Kq Kr Ks Kt Ku Kv Kw Kx Ky Kz J0 J1 J2 J3 J4 J5 J6 J7 J8 J9 JA JB JC JD JE JF JG JH JI JJ JK JL JM JN JO JP JQ JR JS JT JU JV JW JX JY JZ Ja Jb Jc Jd Je Jf Jg Jh Ji Jj Jk Jl Jm Jn Jo Jp Jq Jr Js Jt Ju Jv Jw Jx Jy Jz : Value) (Q : Exit → Act → World → Prop)
    (HS : Hid (TcI W0 H B p5 p6 mk a [] [a] [] [] (.slice none 0 0) V8 N X0 none 0 H W)) (ha : 5 ≤ a ∧ a ≤ 20) (hmk : mkOk mk = true) (hm0 : m0 ≤ 4) (hN : N ≤ 4611686017000000000) (hBW : B ≤ W.heap.size)
    (HQ : RgCL1 W0 H B p5 p6 m0 mk a N v0 v1 v2 Z0 Z1 Z2 Z3 Z4 Z5 Z6 Z7 Z8 Z9 ZA ZB ZC ZD ZE ZF ZG ZH ZI ZJ ZK ZL ZM ZN ZO ZP ZQ ZR ZS ZT ZU ZV ZW ZX ZY ZZ Za Zb Zc Zd Ze Zf Zg Zh Zi Zj Zk Zl Zm Zn Zo Zp Zq Zr Zs Zt Zu Zv Zw Zx Zy Zz Y0 Y1 Y2 Y3 Y4 Y5 Y6 Y7 Y8 Y9 YA YB YC YD YE YF YG YH YI YJ YK YL YM YN YO YP YQ YR YS YT YU YV YW YX YY YZ Ya Yb Yc Yd Ye Yf Yg Yh Yi Yj Yk Yl Ym Yn Yo Yp Yq Yr Ys Yt Yu Yv Yw Yx Yy Yz X1 X2 X3 X4 X5 X6 X7 X8 X9 XA XB XC XD XE XF XG XH XI XJ XK XL XM XN XO XP XQ XR XS XT XU XV XW XX XY XZ Xa Xb Xc Xd Xe Xf Xg Xh Xi Xj Xk Xl Xm Xn Xo Xp Xq Xr Xs Xt Xu Xv Xw Xx Xy Xz K0 K1 K2 K3 K4 K5 K6 K7 K8 K9 KA KB KC KD KE KF KG KH KI KJ KK KL KM KN KO KP KQ KR KS KT KU KV KW KX KY KZ Ka Kb Kc Kd Ke Kf Kg Kh Ki Kj Kk Kl Km Kn Ko Kp Kq Kr Ks Kt Ku Kv Kw Kx Ky Kz J0 J1 J2 J3 J4 J5 J6 J7 J8 J9 JA JB JC JD JE JF JG JH JI JJ JK JL JM JN JO JP JQ JR JS JT JU JV JW JX JY JZ Ja Jb Jc Jd Je Jf Jg Jh Ji Jj Jk Jl Jm Jn Jo Jp Jq Jr Js Jt Ju Jv Jw Jx Jy Jz Q) :
    Code.wp Try.prog lpC1 Q ⟨#[v0, v1, v2, (Value.pointer (some ⟨H, 0, none⟩)), (Value.int .i64 a), (Value.pointer (some ⟨p5, 0, none⟩)), (Value.pointer (some ⟨p6, 0, none⟩)), (Value.slice none 0 0), V8, (Value.int .i64 (m0 : Int)), Z0, Z1, Z2, Z3, Z4, Z5, Z6, Z7, Z8, Z9, ZA, ZB, ZC, ZD, ZE, ZF, ZG, ZH, ZI, ZJ, ZK, ZL, ZM, ZN, ZO, ZP, ZQ, ZR, ZS, ZT, ZU, ZV, ZW, ZX, ZY, ZZ, Za, Zb, Zc, Zd, Ze, Zf, Zg, Zh, Zi, Zj, Zk, Zl, Zm, Zn, Zo, Zp, Zq, Zr, Zs, Zt, Zu, Zv, Zw, Zx, Zy, Zz, Y0, Y1, Y2, Y3, Y4, Y5, Y6, Y7, Y8, Y9, YA, YB, YC, YD, YE, YF, YG, YH, YI, YJ, YK, YL, YM, YN, YO, YP, YQ, YR, YS, YT, YU, YV, YW, YX, YY, YZ, Ya, Yb, Yc, Yd, Ye, Yf, Yg, Yh, Yi, Yj, Yk, Yl, Ym, Yn, Yo, Yp, Yq, Yr, Ys, Yt, Yu, Yv, Yw, Yx, Yy, Yz, X1, X2, X3, X4, X5, X6, X7, X8, X9, XA, XB, XC, XD, XE, XF, XG, XH, XI, XJ, XK, XL, XM, XN, XO, XP, XQ, XR, XS, XT, XU, XV, XW, XX, XY, XZ, Xa, Xb, Xc, Xd, Xe, Xf, Xg, Xh, Xi, Xj, Xk, Xl, Xm, Xn, Xo, Xp, Xq, Xr, Xs, Xt, Xu, Xv, Xw, Xx, Xy, Xz, K0, K1, K2, K3, K4, K5, K6, K7, K8, K9, KA, KB, KC, KD, KE, KF, KG, KH, KI, KJ, KK, KL, KM, KN, KO, KP, KQ, KR, KS, KT, KU, KV, KW, KX, KY, KZ, Ka, Kb, Kc, Kd, Ke, Kf, Kg, Kh, Ki, Kj, Kk, Kl, Km, Kn, Ko, Kp, Kq, Kr, Ks, Kt, Ku, Kv, Kw, Kx, Ky, Kz, J0, J1, J2, J3, J4, J5, J6, J7, J8, J9, JA, JB, JC, JD, JE, JF, JG, JH, JI, JJ, JK, JL, JM, JN, JO, JP, JQ, JR, JS, JT, JU, JV, JW, JX, JY, JZ, Ja, Jb, Jc, Jd, Je, Jf, Jg, Jh, Ji, Jj, Jk, Jl, Jm, Jn, Jo, Jp, Jq, Jr, Js, Jt, Ju, Jv, Jw, Jx, Jy, Jz], []⟩ W := by
  dsimp only
  conv => arg 2; whnf
  go_upto_region 8 with (fail)
  go_loopg [4, 7, 8, 9] m0 (fun gg v4 v7 v8 v9 wr => gg ≤ m0 ∧ B ≤ wr.heap.size ∧ v9 = .int .i64 (gg : Int) ∧ LI W0 H B p5 p6 mk a N (m0 - gg) v4 v7 v8 wr)
  case atStart => exact ⟨Nat.le_refl _, hBW, rfl, [], [a], [], [], a, X0, none, 0, rfl, by simp, by simp, TcL.start ha, by rw [Nat.sub_self]; exact TcB.start mk (by omega), by rw [Nat.sub_self]; rfl, HS.out.mono (by omega)⟩
  case round =>
    obtain ⟨hgm, hBr, rfl, ch, ns, ls, ds, now, X, AC, cC, rfl, hcl, hdl, hL, hTB, hnow, hS⟩ := hrel
    obtain ⟨j, hj⟩ : ∃ j, j = m0 - gk := ⟨_, rfl⟩
    rw [← hj] at hcl hdl hTB hnow hS
    by_cases hpos : 0 < gk
    · have hpos' : (0 : Int) < (gk : Int) := by omega
      obtain ⟨M, hM⟩ : ∃ M, M = N + 1000 * j := ⟨_, rfl⟩
      rw [← hM] at hS
      have hMN : M ≤ 4611686017000005000 := by omega
      have HHD := Lib.hid hS.dl.hd
      have hHw : H < wr.heap.size := hS.dl.hd.lt
      have HI := Lib.hid (And.intro hL (And.intro hTB (And.intro hcl (And.intro hdl (And.intro hnow (And.intro hj hM))))))
      have HS3 := Lib.hid hS
      clear hL hTB hcl hdl hnow hS hM
      go_upto_region 11 with (first
        | (go_at_call 23; refine (of_any H M 1 (some ⟨wr.heap.size, 0, none⟩) 3 3 [3, 4, 4] _ ?_ ?_ (ints3 wr 3 3 4 4) ?_ ?_).mono ?_; (exact Hd.alloc (w := wr) HHD.out _); (omega); (intro b off e; cases e; show wr.heap.size ≠ H; omega); (omega); rintro e w5 ⟨k, rfl, hk, hd5⟩)
        | (go_at_call 22; refine (among_any H (M + 1) 1 3 _ hd5.hd (by omega) (by omega) (by omega)).mono ?_; rintro e w6 ⟨m, rfl, hm1, hm2, hd6⟩))
      have hS6 := ((HS3.out.bel (bal0 wr (.cells #[.int .i64 3, .int .i64 4, .int .i64 4] 3 (0, 0)))).deal hd5).deal hd6
      have hof := hS6.off (Nat.le_refl _)
      obtain ⟨p10, hp10⟩ : ∃ p10, p10 = w6.heap.size := ⟨_, rfl⟩
      obtain ⟨W10, hW10⟩ : ∃ W10, W10 = w6.alloc (dObj (tcD k m)) := ⟨_, rfl⟩
      have hS10 := hS6.newq (dObj (tcD k m))
      have b10 : W10.heap[p10]? = some (dObj (tcD k m)) := by rw [hW10, hp10]; exact alloc_at rfl
      rw [← hW10, ← hp10] at hS10
      rw [← hp10] at hof
      rw [show w6.alloc (Obj.cells #[Value.int .i64 k, .int .i64 0, .int .i64 0, .int .i64 0, .int .i64 0, .int .i64 m, .int .i64 0, .int .i64 0, .bool false, .bool false, .int .i64 0, .int .i64 0] 67) = W10 from hW10.symm, ← hp10]
      have hWp : W0.heap.size ≤ p10 := by rw [hp10]; exact hS6.dl.size
      have hk134 : k = 1 ∨ k = 3 ∨ k = 4 := by
        rcases hk with hk | hk
        · exact .inl hk
        · simp at hk; omega
      have hm3 : m ≤ 3 := by omega
      have hlp := heap_lt b10
      have hblk := blkD b10
      unfold tcD at hblk
      dsimp only at hblk
      obtain ⟨d0, d1, d2, d3, d4, d5, d6, d7⟩ := hblk
      have f0 := frz b10 0
      have hBw : B ≤ W10.heap.size := by
        have h5 := hd5.size
        have h6 := hd6.size
        have h1 : wr.heap.size ≤ (wr.alloc (.cells #[.int .i64 3, .int .i64 4, .int .i64 4] 3 (0, 0))).heap.size := by simp
        rw [hW10]
        simp only [World.alloc, Array.size_push]
        omega
      have H10 := Lib.hid (And.intro hS10 (And.intro hof (And.intro b10 (And.intro hWp hBw))))
      clear hS6 hof hp10 hW10 hS10 b10 hd5 hd6 hk hBw
      have HK := Lib.hid hk134
      clear hk134
      rcases HK.out with rfl | rfl | rfl
      · skip
        go_upto_region 13 with (fail)
        obtain ⟨WX, hWX⟩ : ∃ WX, WX = W10 := ⟨_, rfl⟩
        have HX := Lib.hid (show WX.heap[p10]? = some (dObj (tcD 1 m)) ∧ TcI W0 H B p5 p6 mk a (ch.map oneS) ns ls ds u7 u8 (M + 1 + 1) X AC cC p10 WX from by rw [hWX]; exact ⟨H10.out.2.2.1, H10.out.1⟩)
        have HWX := Lib.hid (show W10.heap.size ≤ WX.heap.size from by rw [hWX]; exact Nat.le_refl _)
        rw [← hWX]
        clear hWX f0
        clear d0 d1 d2 d3 d4 d5 d6 d7 hlp
        have hTB2 : TcB mk a (ds ++ [tcD 1 m]) (now + m) (sumL (fun k => ls.getD k 0) j + 0) := by
          have h := HI.out.2.1.born (by omega) (by omega)
          simpa using h
        have h0 := tcb_enter HI.out.2.1 hTB2 HX.out.2.x hmk (by omega) (by have := HI.out.2.2.2.1; omega)
        have hen := Enter_any X (tcD 1 m) WX HX.out.2.st.now
        unfold dv at hen
        have hT2 := Lib.hid (And.intro hTB2 h0)
        have hblk := blkD HX.out.1
        obtain ⟨d0, d1, d2, d3, d4, d5, d6, d7, d8, d9, d10, d11⟩ := hblk
        obtain ⟨k0, k1, k2, k3, k4⟩ := blk5c HX.out.2.b5
        have hl5 := heap_lt HX.out.2.b5
        have hl10 := heap_lt HX.out.1
        clear hTB2 h0
        unfold tcD at hen d0 d1 d2 d3 d4 d5 d6 d7 d8 d9 d10 d11
        dsimp only at hen d0 d1 d2 d3 d4 d5 d6 d7 d8 d9 d10 d11
        go_wp2_with fail
        refine hen.mono ?_
        rintro e w13 hE
        obtain ⟨⟨Y, rfl, hM, hO⟩, hb13⟩ := enter_ok hE hT2.out.2
        have hYx : Y.t = 0 ∧ Y.l = [mk] ∧ Y.ks = [0] ∧ Y.hs = [[a]] ∧ Y.ds = ds ++ [tcD 1 m] := by
          obtain ⟨x1, x2, x3, x4, x5⟩ := HX.out.2.x
          obtain ⟨y1, y2, y3, y4, y5⟩ := hM
          exact ⟨y1.trans x1, y2.trans x2, y3.trans x3, y4.trans x4, y5.trans (by rw [x5]; rfl)⟩
        have hYs := hbO_st hO (HX.out.2.elt (heap_lt HX.out.1))
        obtain ⟨W13, hW13⟩ : ∃ W13, W13 = w13.alloc Y.obj := ⟨_, rfl⟩
        obtain ⟨p11, hp11⟩ : ∃ p11, p11 = w13.heap.size := ⟨_, rfl⟩
        have b11 : W13.heap[p11]? = some Y.obj := by rw [hW13, hp11]; exact alloc_at rfl
        have hbb : Below w13.heap.size w13 W13 := by rw [hW13]; exact bal0 w13 _
        have hS13 := (HX.out.2.bel hb13).bel hbb
        have hYs2 := hYs.step (E' := EI H p5 p6 u7 u8 (.slice AC (ch.map oneS).length cC) p10) hbb.size (fun j hj _ => hbb.block j hj) (fun j _ e => e)
        have b10 := bheap (bheap HX.out.1 hb13 (Nat.le_refl _)) hbb (Nat.le_refl _)
        have hlt11 : p5 < p11 ∧ (∀ k, u7.ownBlock = some k ∨ u8.ownBlock = some k → k ≠ p11) ∧ B ≤ W13.heap.size := by
          have hT := HX.out.2.bel hb13
          refine ⟨by rw [hp11]; exact heap_lt hT.b5, fun k e => ?_, ?_⟩
          · rcases e with e | e
            · have := (hT.o7.lt k e).2; omega
            · have := (hT.o8.lt k e).2; omega
          · have := H10.out.2.2.2.2
            have := hT.dl.size
            have := hbb.size
            have := hb13.size
            have := HX.out.2.dl.size
            have := HWX.out
            omega
        have HY := Lib.hid (And.intro hYx (And.intro hYs2 (And.intro hS13 (And.intro b11 (And.intro b10 hlt11)))))
        have hblk := blkD b10
        obtain ⟨d0', d1', d2', d3', d4', d5', -⟩ := hblk
        unfold tcD at d0' d1' d2' d3' d4' d5'
        dsimp only at d0' d1' d2' d3' d4' d5'
        have hl13 := heap_lt b10
        clear hE hM hO hb13 hYx hYs hbb hS13 hYs2 b11 b10 hlt11 d0 d1 d2 d3 d4 d5 d6 d7 d8 d9 d10 d11 k0 k1 k2 k3 k4 hl5 hl10 hen
        go_upto_region 16 with (fail)
        rw [show w13.alloc (Obj.cells #[.int .i64 Y.t, .slice Y.A Y.l.length Y.c, .slice Y.Ak Y.ks.length Y.ck, .slice Y.Ah Y.hs.length Y.ch, .slice Y.Ad Y.ds.length Y.cd] 64) = W13 from hW13.symm, ← hp11]
        clear hW13 hp11
        have hnb : 0 ≤ now ∧ now ≤ 40 := by
          have h1 := HI.out.2.1.n
          have h2 := HI.out.1.b j (by have := HI.out.2.2.1; omega)
          have h3 := HI.out.2.2.2.2.1
          omega
        have hlsn : ls.length ≤ 100 ∧ ns.length ≤ 100 := by
          have h1 := HI.out.1.n
          have h2 := HI.out.1.l
          have h3 := HI.out.1.c4
          omega
        have hcn : (ch.map oneS).length ≤ 4 := by
          have := HI.out.1.c4
          simp; omega
        obtain ⟨CH, hCH⟩ : ∃ CH, CH = ch.map oneS := ⟨_, rfl⟩
        rw [← hCH] at hcn
        have HCH := Lib.hid hCH
        clear hCH
        go_upto_region 25 with (fail)
        refine cnt_more W13 B p5 p11 _ _ u7 u8 ls ns Y.t Y.A Y.Ak Y.Ah Y.Ad Y.l.length Y.ks.length Y.hs.length Y.ds.length Y.c Y.ck Y.ch Y.cd X.vm X.vk X.vh X.vd X.t _ _ _ _ _ _ _ _ _ _ _ _ _ _ _ _ _ _ _ _ _ _ _ _ _ _ _ _ _ _ _ _ _ _ _ _ _ _ _ _ _ _ _ _ _ _ _ _ _ _ _ _ _ _ _ _ _ _ _ _ _ _ _ _ _ _ _ _ _ _ _ _ _ _ _ _ _ _ _ _ _ _ _ _ _ _ _ _ _ _ _ _ _ _ _ _ _ _ _ _ _ _ _ _ _ _ _ _ _ _ _ _ _ _ _ _ _ _ _ _ _ _ _ _ _ _ _ _ _ _ _ _ _ _ _ _ _ _ _ _ _ _ _ _ _ _ _ _ _ _ _ _ _ _ _ _ _ _ _ _ _ _ _ _ _ _ _ _ _ _ _ _ _ _ _ _ _ _ _ _ _ _ _ _ _ _ _ _ _ _ _ _ _ _ _ _ _ _ _ _ _ _ _ _ _ _ _ _ _ _ _ _ _ _ _ _ _ _ _ _ _ _ _ _ _ _ _ _ _ _ _ _ _ _ _ _ _ _ _ _ _ _ _ _ _ _ _ _ _ _ _ _ _ _ _ _ _ _ _ _ _ _ _ _ _ _ _ _ _ _ _ _ _ _ _ _ _ _ _ _ _ _ _ _ _ _ _ _ _ _ _ _ _ _ _ _ _ _ _ _ _ _ _ _ _ _ _ _ _ _ _ _ _ _ (Lib.hid (show W13.heap[p5]? = some (boxO X.t X.vm X.vk X.vh X.vd) from HY.out.2.2.1.b5)) (Lib.hid (show W13.heap[p11]? = some (boxO Y.t (.slice Y.A Y.l.length Y.c) (.slice Y.Ak Y.ks.length Y.ck) (.slice Y.Ah Y.hs.length Y.ch) (.slice Y.Ad Y.ds.length Y.cd)) from HY.out.2.2.2.1)) (Nat.ne_of_lt HY.out.2.2.2.2.2.1) (by have := HY.out.2.2.1.hB; have := HY.out.2.2.1.h6; omega) HY.out.2.2.2.2.2.2.1 (Lib.hid ⟨HY.out.2.2.1.o7, HY.out.2.2.1.o8, HY.out.2.2.1.ap⟩) hlsn.1 hlsn.2 (heads_ne HI.out.1 (by omega)) HY.out.2.2.2.2.2.2.2 ?_
        intro Gs Gt Gu Gv Gw Gx Gy Gz F0 g7 c7 g8 c8 w14 h7 h8 hgg l7 l8 hb5 hge
        have hbz : B ≤ w14.heap.size := Nat.le_trans HY.out.2.2.2.2.2.2.2 hge.size
        have hS14 := TcI.more (d := tcD 1 m) HY.out.2.2.1 HY.out.1 HY.out.2.1 h7 h8 hgg l7 l8 hb5 hge
        rw [← HCH.out] at hS14
        have HS14 := Lib.hid hS14
        clear h7 h8 hgg l7 l8 hb5 hge d0' d1' d2' d3' d4' d5' hl13 hS14
        go_upto_region 26 with (fail)
        refine cnt_chg w14 B p6 _ AC cC CH ((CH.length : Int) + 1) a a 3 (.slice none 0 0) _ _ _ _ _ _ _ _ _ _ _ _ _ _ _ _ _ _ _ _ _ _ _ _ _ _ _ _ _ _ _ _ _ _ _ _ _ _ _ _ _ _ _ _ _ _ _ _ _ _ _ _ _ _ _ _ _ _ _ _ _ _ _ _ _ _ _ _ _ _ _ _ _ _ _ _ _ _ _ _ _ _ _ _ _ _ _ _ _ _ _ _ _ _ _ _ _ _ _ _ _ _ _ _ _ _ _ _ _ _ _ _ _ _ _ _ _ _ _ _ _ _ _ _ _ _ _ _ _ _ _ _ _ _ _ _ _ _ _ _ _ _ _ _ _ _ _ _ _ _ _ _ _ _ _ _ _ _ _ _ _ _ _ _ _ _ _ _ _ _ _ _ _ _ _ _ _ _ _ _ _ _ _ _ _ _ _ _ _ _ _ _ _ _ _ _ _ _ _ _ _ _ _ _ _ _ _ _ _ _ _ _ _ _ _ _ _ _ _ _ _ _ _ _ _ _ _ _ _ _ _ _ _ _ _ _ _ _ _ _ _ _ _ _ _ _ _ _ _ _ _ _ _ _ _ _ _ _ _ _ _ _ _ _ _ _ _ _ _ _ _ _ _ _ _ _ _ _ _ _ _ _ _ _ _ _ _ _ _ _ _ _ _ _ _ _ _ _ _ _ _ _ _ _ _ _ _ _ _ _ _ _ _ _ _ _ _ _ (Lib.hid HS14.out.b6) HS14.out.hB (by omega) (Lib.hid HS14.out.oc) (by omega) hbz ?_
        intro F1 F2 F3 F4 F5 F6 F7 F8 F9 FA FB FC g9 c9 w15 ho l9 hb6 hge6
        have hz15 : w14.heap.size ≤ w15.heap.size := hge6.size
        have HS15 := Lib.hid (HS14.out.chg ho l9 hb6 hge6)
        clear ho l9 hb6 hge6
        go_wp2_with fail
        go_roundg (gk - 1)
        case measure => omega
        case rel =>
          have e : m0 - (gk - 1) = j + 1 := by have := HI.out.2.2.2.2.2.1; omega
          have hS := HS15.out
          rw [HCH.out] at hS
          refine ⟨by omega, Nat.le_trans hbz hz15, by go_num, ?_⟩
          rw [e]
          exact LI.next (c := m) (l := 0) HI.out.1 HI.out.2.2.1 HI.out.2.2.2.1 (by have := HI.out.2.2.2.2.2.1; omega) HI.out.2.2.2.2.1 (by omega) (by omega) (by omega) hT2.out.1 (hS.mono (by have := HI.out.2.2.2.2.2.2; omega))
      · by_cases hle : now < m
        · skip
          go_upto_region 13 with (fail)
          obtain ⟨WX, hWX⟩ : ∃ WX, WX = W10.setCell ⟨p10, 0, none⟩ (.int .i64 1) := ⟨_, rfl⟩
          have HX := Lib.hid (show WX.heap[p10]? = some (dObj (tcD 1 m)) ∧ TcI W0 H B p5 p6 mk a (ch.map oneS) ns ls ds u7 u8 (M + 1 + 1) X AC cC p10 WX from by rw [hWX]; exact ⟨(set_blk H10.out.2.2.1).trans rfl, H10.out.1.putq H10.out.2.1 H10.out.2.2.2.1 0 _⟩)
          have HWX := Lib.hid (show W10.heap.size ≤ WX.heap.size from by rw [hWX]; simp)
          rw [← hWX]
          clear hWX f0
          clear d0 d1 d2 d3 d4 d5 d6 d7 hlp
          have hTB2 : TcB mk a (ds ++ [tcD 1 m]) (now + m) (sumL (fun k => ls.getD k 0) j + 0) := by
            have h := HI.out.2.1.born (by omega) (by omega)
            simpa using h
          have h0 := tcb_enter HI.out.2.1 hTB2 HX.out.2.x hmk (by omega) (by have := HI.out.2.2.2.1; omega)
          have hen := Enter_any X (tcD 1 m) WX HX.out.2.st.now
          unfold dv at hen
          have hT2 := Lib.hid (And.intro hTB2 h0)
          have hblk := blkD HX.out.1
          obtain ⟨d0, d1, d2, d3, d4, d5, d6, d7, d8, d9, d10, d11⟩ := hblk
          obtain ⟨k0, k1, k2, k3, k4⟩ := blk5c HX.out.2.b5
          have hl5 := heap_lt HX.out.2.b5
          have hl10 := heap_lt HX.out.1
          clear hTB2 h0
          unfold tcD at hen d0 d1 d2 d3 d4 d5 d6 d7 d8 d9 d10 d11
          dsimp only at hen d0 d1 d2 d3 d4 d5 d6 d7 d8 d9 d10 d11
          go_wp2_with fail
          refine hen.mono ?_
          rintro e w13 hE
          obtain ⟨⟨Y, rfl, hM, hO⟩, hb13⟩ := enter_ok hE hT2.out.2
          have hYx : Y.t = 0 ∧ Y.l = [mk] ∧ Y.ks = [0] ∧ Y.hs = [[a]] ∧ Y.ds = ds ++ [tcD 1 m] := by
            obtain ⟨x1, x2, x3, x4, x5⟩ := HX.out.2.x
            obtain ⟨y1, y2, y3, y4, y5⟩ := hM
            exact ⟨y1.trans x1, y2.trans x2, y3.trans x3, y4.trans x4, y5.trans (by rw [x5]; rfl)⟩
          have hYs := hbO_st hO (HX.out.2.elt (heap_lt HX.out.1))
          obtain ⟨W13, hW13⟩ : ∃ W13, W13 = w13.alloc Y.obj := ⟨_, rfl⟩
          obtain ⟨p11, hp11⟩ : ∃ p11, p11 = w13.heap.size := ⟨_, rfl⟩
          have b11 : W13.heap[p11]? = some Y.obj := by rw [hW13, hp11]; exact alloc_at rfl
          have hbb : Below w13.heap.size w13 W13 := by rw [hW13]; exact bal0 w13 _
          have hS13 := (HX.out.2.bel hb13).bel hbb
          have hYs2 := hYs.step (E' := EI H p5 p6 u7 u8 (.slice AC (ch.map oneS).length cC) p10) hbb.size (fun j hj _ => hbb.block j hj) (fun j _ e => e)
          have b10 := bheap (bheap HX.out.1 hb13 (Nat.le_refl _)) hbb (Nat.le_refl _)
          have hlt11 : p5 < p11 ∧ (∀ k, u7.ownBlock = some k ∨ u8.ownBlock = some k → k ≠ p11) ∧ B ≤ W13.heap.size := by
            have hT := HX.out.2.bel hb13
            refine ⟨by rw [hp11]; exact heap_lt hT.b5, fun k e => ?_, ?_⟩
            · rcases e with e | e
              · have := (hT.o7.lt k e).2; omega
              · have := (hT.o8.lt k e).2; omega
            · have := H10.out.2.2.2.2
              have := hT.dl.size
              have := hbb.size
              have := hb13.size
              have := HX.out.2.dl.size
              have := HWX.out
              omega
          have HY := Lib.hid (And.intro hYx (And.intro hYs2 (And.intro hS13 (And.intro b11 (And.intro b10 hlt11)))))
          have hblk := blkD b10
          obtain ⟨d0', d1', d2', d3', d4', d5', -⟩ := hblk
          unfold tcD at d0' d1' d2' d3' d4' d5'
          dsimp only at d0' d1' d2' d3' d4' d5'
          have hl13 := heap_lt b10
          clear hE hM hO hb13 hYx hYs hbb hS13 hYs2 b11 b10 hlt11 d0 d1 d2 d3 d4 d5 d6 d7 d8 d9 d10 d11 k0 k1 k2 k3 k4 hl5 hl10 hen
          go_upto_region 16 with (fail)
          rw [show w13.alloc (Obj.cells #[.int .i64 Y.t, .slice Y.A Y.l.length Y.c, .slice Y.Ak Y.ks.length Y.ck, .slice Y.Ah Y.hs.length Y.ch, .slice Y.Ad Y.ds.length Y.cd] 64) = W13 from hW13.symm, ← hp11]
          clear hW13 hp11
          have hnb : 0 ≤ now ∧ now ≤ 40 := by
            have h1 := HI.out.2.1.n
            have h2 := HI.out.1.b j (by have := HI.out.2.2.1; omega)
            have h3 := HI.out.2.2.2.2.1
            omega
          have hlsn : ls.length ≤ 100 ∧ ns.length ≤ 100 := by
            have h1 := HI.out.1.n
            have h2 := HI.out.1.l
            have h3 := HI.out.1.c4
            omega
          have hcn : (ch.map oneS).length ≤ 4 := by
            have := HI.out.1.c4
            simp; omega
          obtain ⟨CH, hCH⟩ : ∃ CH, CH = ch.map oneS := ⟨_, rfl⟩
          rw [← hCH] at hcn
          have HCH := Lib.hid hCH
          clear hCH
          go_upto_region 25 with (fail)
          refine cnt_more W13 B p5 p11 _ _ u7 u8 ls ns Y.t Y.A Y.Ak Y.Ah Y.Ad Y.l.length Y.ks.length Y.hs.length Y.ds.length Y.c Y.ck Y.ch Y.cd X.vm X.vk X.vh X.vd X.t _ _ _ _ _ _ _ _ _ _ _ _ _ _ _ _ _ _ _ _ _ _ _ _ _ _ _ _ _ _ _ _ _ _ _ _ _ _ _ _ _ _ _ _ _ _ _ _ _ _ _ _ _ _ _ _ _ _ _ _ _ _ _ _ _ _ _ _ _ _ _ _ _ _ _ _ _ _ _ _ _ _ _ _ _ _ _ _ _ _ _ _ _ _ _ _ _ _ _ _ _ _ _ _ _ _ _ _ _ _ _ _ _ _ _ _ _ _ _ _ _ _ _ _ _ _ _ _ _ _ _ _ _ _ _ _ _ _ _ _ _ _ _ _ _ _ _ _ _ _ _ _ _ _ _ _ _ _ _ _ _ _ _ _ _ _ _ _ _ _ _ _ _ _ _ _ _ _ _ _ _ _ _ _ _ _ _ _ _ _ _ _ _ _ _ _ _ _ _ _ _ _ _ _ _ _ _ _ _ _ _ _ _ _ _ _ _ _ _ _ _ _ _ _ _ _ _ _ _ _ _ _ _ _ _ _ _ _ _ _ _ _ _ _ _ _ _ _ _ _ _ _ _ _ _ _ _ _ _ _ _ _ _ _ _ _ _ _ _ _ _ _ _ _ _ _ _ _ _ _ _ _ _ _ _ _ _ _ _ _ _ _ _ _ _ _ _ _ _ _ _ _ _ _ _ _ _ _ _ _ _ _ _ _ (Lib.hid (show W13.heap[p5]? = some (boxO X.t X.vm X.vk X.vh X.vd) from HY.out.2.2.1.b5)) (Lib.hid (show W13.heap[p11]? = some (boxO Y.t (.slice Y.A Y.l.length Y.c) (.slice Y.Ak Y.ks.length Y.ck) (.slice Y.Ah Y.hs.length Y.ch) (.slice Y.Ad Y.ds.length Y.cd)) from HY.out.2.2.2.1)) (Nat.ne_of_lt HY.out.2.2.2.2.2.1) (by have := HY.out.2.2.1.hB; have := HY.out.2.2.1.h6; omega) HY.out.2.2.2.2.2.2.1 (Lib.hid ⟨HY.out.2.2.1.o7, HY.out.2.2.1.o8, HY.out.2.2.1.ap⟩) hlsn.1 hlsn.2 (heads_ne HI.out.1 (by omega)) HY.out.2.2.2.2.2.2.2 ?_
          intro Gs Gt Gu Gv Gw Gx Gy Gz F0 g7 c7 g8 c8 w14 h7 h8 hgg l7 l8 hb5 hge
          have hbz : B ≤ w14.heap.size := Nat.le_trans HY.out.2.2.2.2.2.2.2 hge.size
          have hS14 := TcI.more (d := tcD 1 m) HY.out.2.2.1 HY.out.1 HY.out.2.1 h7 h8 hgg l7 l8 hb5 hge
          rw [← HCH.out] at hS14
          have HS14 := Lib.hid hS14
          clear h7 h8 hgg l7 l8 hb5 hge d0' d1' d2' d3' d4' d5' hl13 hS14
          go_upto_region 26 with (fail)
          refine cnt_chg w14 B p6 _ AC cC CH ((CH.length : Int) + 1) a a 3 (.slice none 0 0) _ _ _ _ _ _ _ _ _ _ _ _ _ _ _ _ _ _ _ _ _ _ _ _ _ _ _ _ _ _ _ _ _ _ _ _ _ _ _ _ _ _ _ _ _ _ _ _ _ _ _ _ _ _ _ _ _ _ _ _ _ _ _ _ _ _ _ _ _ _ _ _ _ _ _ _ _ _ _ _ _ _ _ _ _ _ _ _ _ _ _ _ _ _ _ _ _ _ _ _ _ _ _ _ _ _ _ _ _ _ _ _ _ _ _ _ _ _ _ _ _ _ _ _ _ _ _ _ _ _ _ _ _ _ _ _ _ _ _ _ _ _ _ _ _ _ _ _ _ _ _ _ _ _ _ _ _ _ _ _ _ _ _ _ _ _ _ _ _ _ _ _ _ _ _ _ _ _ _ _ _ _ _ _ _ _ _ _ _ _ _ _ _ _ _ _ _ _ _ _ _ _ _ _ _ _ _ _ _ _ _ _ _ _ _ _ _ _ _ _ _ _ _ _ _ _ _ _ _ _ _ _ _ _ _ _ _ _ _ _ _ _ _ _ _ _ _ _ _ _ _ _ _ _ _ _ _ _ _ _ _ _ _ _ _ _ _ _ _ _ _ _ _ _ _ _ _ _ _ _ _ _ _ _ _ _ _ _ _ _ _ _ _ _ _ _ _ _ _ _ _ _ _ _ _ _ _ _ _ _ _ _ _ _ _ _ _ _ (Lib.hid HS14.out.b6) HS14.out.hB (by omega) (Lib.hid HS14.out.oc) (by omega) hbz ?_
          intro F1 F2 F3 F4 F5 F6 F7 F8 F9 FA FB FC g9 c9 w15 ho l9 hb6 hge6
          have hz15 : w14.heap.size ≤ w15.heap.size := hge6.size
          have HS15 := Lib.hid (HS14.out.chg ho l9 hb6 hge6)
          clear ho l9 hb6 hge6
          go_wp2_with fail
          go_roundg (gk - 1)
          case measure => omega
          case rel =>
            have e : m0 - (gk - 1) = j + 1 := by have := HI.out.2.2.2.2.2.1; omega
            have hS := HS15.out
            rw [HCH.out] at hS
            refine ⟨by omega, Nat.le_trans hbz hz15, by go_num, ?_⟩
            rw [e]
            exact LI.next (c := m) (l := 0) HI.out.1 HI.out.2.2.1 HI.out.2.2.2.1 (by have := HI.out.2.2.2.2.2.1; omega) HI.out.2.2.2.2.1 (by omega) (by omega) (by omega) hT2.out.1 (hS.mono (by have := HI.out.2.2.2.2.2.2; omega))
        · skip
          go_upto_region 13 with (fail)
          obtain ⟨WX, hWX⟩ : ∃ WX, WX = W10 := ⟨_, rfl⟩
          have HX := Lib.hid (show WX.heap[p10]? = some (dObj (tcD 3 m)) ∧ TcI W0 H B p5 p6 mk a (ch.map oneS) ns ls ds u7 u8 (M + 1 + 1) X AC cC p10 WX from by rw [hWX]; exact ⟨H10.out.2.2.1, H10.out.1⟩)
          have HWX := Lib.hid (show W10.heap.size ≤ WX.heap.size from by rw [hWX]; exact Nat.le_refl _)
          rw [← hWX]
          clear hWX f0
          clear d0 d1 d2 d3 d4 d5 d6 d7 hlp
          have hTB2 : TcB mk a (ds ++ [tcD 3 m]) (now - m) (sumL (fun k => ls.getD k 0) j + 0) := by
            have h := HI.out.2.1.eaten (by omega) (by omega) (by omega)
            simpa using h
          have h0 := tcb_enter HI.out.2.1 hTB2 HX.out.2.x hmk (by omega) (by have := HI.out.2.2.2.1; omega)
          have hen := Enter_any X (tcD 3 m) WX HX.out.2.st.now
          unfold dv at hen
          have hT2 := Lib.hid (And.intro hTB2 h0)
          have hblk := blkD HX.out.1
          obtain ⟨d0, d1, d2, d3, d4, d5, d6, d7, d8, d9, d10, d11⟩ := hblk
          obtain ⟨k0, k1, k2, k3, k4⟩ := blk5c HX.out.2.b5
          have hl5 := heap_lt HX.out.2.b5
          have hl10 := heap_lt HX.out.1
          clear hTB2 h0
          unfold tcD at hen d0 d1 d2 d3 d4 d5 d6 d7 d8 d9 d10 d11
          dsimp only at hen d0 d1 d2 d3 d4 d5 d6 d7 d8 d9 d10 d11
          go_wp2_with fail
          refine hen.mono ?_
          rintro e w13 hE
          obtain ⟨⟨Y, rfl, hM, hO⟩, hb13⟩ := enter_ok hE hT2.out.2
          have hYx : Y.t = 0 ∧ Y.l = [mk] ∧ Y.ks = [0] ∧ Y.hs = [[a]] ∧ Y.ds = ds ++ [tcD 3 m] := by
            obtain ⟨x1, x2, x3, x4, x5⟩ := HX.out.2.x
            obtain ⟨y1, y2, y3, y4, y5⟩ := hM
            exact ⟨y1.trans x1, y2.trans x2, y3.trans x3, y4.trans x4, y5.trans (by rw [x5]; rfl)⟩
          have hYs := hbO_st hO (HX.out.2.elt (heap_lt HX.out.1))
          obtain ⟨W13, hW13⟩ : ∃ W13, W13 = w13.alloc Y.obj := ⟨_, rfl⟩
          obtain ⟨p11, hp11⟩ : ∃ p11, p11 = w13.heap.size := ⟨_, rfl⟩
          have b11 : W13.heap[p11]? = some Y.obj := by rw [hW13, hp11]; exact alloc_at rfl
          have hbb : Below w13.heap.size w13 W13 := by rw [hW13]; exact bal0 w13 _
          have hS13 := (HX.out.2.bel hb13).bel hbb
          have hYs2 := hYs.step (E' := EI H p5 p6 u7 u8 (.slice AC (ch.map oneS).length cC) p10) hbb.size (fun j hj _ => hbb.block j hj) (fun j _ e => e)
          have b10 := bheap (bheap HX.out.1 hb13 (Nat.le_refl _)) hbb (Nat.le_refl _)
          have hlt11 : p5 < p11 ∧ (∀ k, u7.ownBlock = some k ∨ u8.ownBlock = some k → k ≠ p11) ∧ B ≤ W13.heap.size := by
            have hT := HX.out.2.bel hb13
            refine ⟨by rw [hp11]; exact heap_lt hT.b5, fun k e => ?_, ?_⟩
            · rcases e with e | e
              · have := (hT.o7.lt k e).2; omega
              · have := (hT.o8.lt k e).2; omega
            · have := H10.out.2.2.2.2
              have := hT.dl.size
              have := hbb.size
              have := hb13.size
              have := HX.out.2.dl.size
              have := HWX.out
              omega
          have HY := Lib.hid (And.intro hYx (And.intro hYs2 (And.intro hS13 (And.intro b11 (And.intro b10 hlt11)))))
          have hblk := blkD b10
          obtain ⟨d0', d1', d2', d3', d4', d5', -⟩ := hblk
          unfold tcD at d0' d1' d2' d3' d4' d5'
          dsimp only at d0' d1' d2' d3' d4' d5'
          have hl13 := heap_lt b10
          clear hE hM hO hb13 hYx hYs hbb hS13 hYs2 b11 b10 hlt11 d0 d1 d2 d3 d4 d5 d6 d7 d8 d9 d10 d11 k0 k1 k2 k3 k4 hl5 hl10 hen
          go_upto_region 16 with (fail)
          rw [show w13.alloc (Obj.cells #[.int .i64 Y.t, .slice Y.A Y.l.length Y.c, .slice Y.Ak Y.ks.length Y.ck, .slice Y.Ah Y.hs.length Y.ch, .slice Y.Ad Y.ds.length Y.cd] 64) = W13 from hW13.symm, ← hp11]
          clear hW13 hp11
          have hnb : 0 ≤ now ∧ now ≤ 40 := by
            have h1 := HI.out.2.1.n
            have h2 := HI.out.1.b j (by have := HI.out.2.2.1; omega)
            have h3 := HI.out.2.2.2.2.1
            omega
          have hlsn : ls.length ≤ 100 ∧ ns.length ≤ 100 := by
            have h1 := HI.out.1.n
            have h2 := HI.out.1.l
            have h3 := HI.out.1.c4
            omega
          have hcn : (ch.map oneS).length ≤ 4 := by
            have := HI.out.1.c4
            simp; omega
          obtain ⟨CH, hCH⟩ : ∃ CH, CH = ch.map oneS := ⟨_, rfl⟩
          rw [← hCH] at hcn
          have HCH := Lib.hid hCH
          clear hCH
          go_upto_region 25 with (fail)
          refine cnt_more W13 B p5 p11 _ _ u7 u8 ls ns Y.t Y.A Y.Ak Y.Ah Y.Ad Y.l.length Y.ks.length Y.hs.length Y.ds.length Y.c Y.ck Y.ch Y.cd X.vm X.vk X.vh X.vd X.t _ _ _ _ _ _ _ _ _ _ _ _ _ _ _ _ _ _ _ _ _ _ _ _ _ _ _ _ _ _ _ _ _ _ _ _ _ _ _ _ _ _ _ _ _ _ _ _ _ _ _ _ _ _ _ _ _ _ _ _ _ _ _ _ _ _ _ _ _ _ _ _ _ _ _ _ _ _ _ _ _ _ _ _ _ _ _ _ _ _ _ _ _ _ _ _ _ _ _ _ _ _ _ _ _ _ _ _ _ _ _ _ _ _ _ _ _ _ _ _ _ _ _ _ _ _ _ _ _ _ _ _ _ _ _ _ _ _ _ _ _ _ _ _ _ _ _ _ _ _ _ _ _ _ _ _ _ _ _ _ _ _ _ _ _ _ _ _ _ _ _ _ _ _ _ _ _ _ _ _ _ _ _ _ _ _ _ _ _ _ _ _ _ _ _ _ _ _ _ _ _ _ _ _ _ _ _ _ _ _ _ _ _ _ _ _ _ _ _ _ _ _ _ _ _ _ _ _ _ _ _ _ _ _ _ _ _ _ _ _ _ _ _ _ _ _ _ _ _ _ _ _ _ _ _ _ _ _ _ _ _ _ _ _ _ _ _ _ _ _ _ _ _ _ _ _ _ _ _ _ _ _ _ _ _ _ _ _ _ _ _ _ _ _ _ _ _ _ _ _ _ _ _ _ _ _ _ _ _ _ _ _ _ _ (Lib.hid (show W13.heap[p5]? = some (boxO X.t X.vm X.vk X.vh X.vd) from HY.out.2.2.1.b5)) (Lib.hid (show W13.heap[p11]? = some (boxO Y.t (.slice Y.A Y.l.length Y.c) (.slice Y.Ak Y.ks.length Y.ck) (.slice Y.Ah Y.hs.length Y.ch) (.slice Y.Ad Y.ds.length Y.cd)) from HY.out.2.2.2.1)) (Nat.ne_of_lt HY.out.2.2.2.2.2.1) (by have := HY.out.2.2.1.hB; have := HY.out.2.2.1.h6; omega) HY.out.2.2.2.2.2.2.1 (Lib.hid ⟨HY.out.2.2.1.o7, HY.out.2.2.1.o8, HY.out.2.2.1.ap⟩) hlsn.1 hlsn.2 (heads_ne HI.out.1 (by omega)) HY.out.2.2.2.2.2.2.2 ?_
          intro Gs Gt Gu Gv Gw Gx Gy Gz F0 g7 c7 g8 c8 w14 h7 h8 hgg l7 l8 hb5 hge
          have hbz : B ≤ w14.heap.size := Nat.le_trans HY.out.2.2.2.2.2.2.2 hge.size
          have hS14 := TcI.more (d := tcD 3 m) HY.out.2.2.1 HY.out.1 HY.out.2.1 h7 h8 hgg l7 l8 hb5 hge
          rw [← HCH.out] at hS14
          have HS14 := Lib.hid hS14
          clear h7 h8 hgg l7 l8 hb5 hge d0' d1' d2' d3' d4' d5' hl13 hS14
          go_upto_region 26 with (fail)
          refine cnt_chg w14 B p6 _ AC cC CH ((CH.length : Int) + 1) a a 3 (.slice none 0 0) _ _ _ _ _ _ _ _ _ _ _ _ _ _ _ _ _ _ _ _ _ _ _ _ _ _ _ _ _ _ _ _ _ _ _ _ _ _ _ _ _ _ _ _ _ _ _ _ _ _ _ _ _ _ _ _ _ _ _ _ _ _ _ _ _ _ _ _ _ _ _ _ _ _ _ _ _ _ _ _ _ _ _ _ _ _ _ _ _ _ _ _ _ _ _ _ _ _ _ _ _ _ _ _ _ _ _ _ _ _ _ _ _ _ _ _ _ _ _ _ _ _ _ _ _ _ _ _ _ _ _ _ _ _ _ _ _ _ _ _ _ _ _ _ _ _ _ _ _ _ _ _ _ _ _ _ _ _ _ _ _ _ _ _ _ _ _ _ _ _ _ _ _ _ _ _ _ _ _ _ _ _ _ _ _ _ _ _ _ _ _ _ _ _ _ _ _ _ _ _ _ _ _ _ _ _ _ _ _ _ _ _ _ _ _ _ _ _ _ _ _ _ _ _ _ _ _ _ _ _ _ _ _ _ _ _ _ _ _ _ _ _ _ _ _ _ _ _ _ _ _ _ _ _ _ _ _ _ _ _ _ _ _ _ _ _ _ _ _ _ _ _ _ _ _ _ _ _ _ _ _ _ _ _ _ _ _ _ _ _ _ _ _ _ _ _ _ _ _ _ _ _ _ _ _ _ _ _ _ _ _ _ _ _ _ _ _ _ (Lib.hid HS14.out.b6) HS14.out.hB (by omega) (Lib.hid HS14.out.oc) (by omega) hbz ?_
          intro F1 F2 F3 F4 F5 F6 F7 F8 F9 FA FB FC g9 c9 w15 ho l9 hb6 hge6
          have hz15 : w14.heap.size ≤ w15.heap.size := hge6.size
          have HS15 := Lib.hid (HS14.out.chg ho l9 hb6 hge6)
          clear ho l9 hb6 hge6
          go_wp2_with fail
          go_roundg (gk - 1)
          case measure => omega
          case rel =>
            have e : m0 - (gk - 1) = j + 1 := by have := HI.out.2.2.2.2.2.1; omega
            have hS := HS15.out
            rw [HCH.out] at hS
            refine ⟨by omega, Nat.le_trans hbz hz15, by go_num, ?_⟩
            rw [e]
            exact LI.next (c := (-m)) (l := 0) HI.out.1 HI.out.2.2.1 HI.out.2.2.2.1 (by have := HI.out.2.2.2.2.2.1; omega) HI.out.2.2.2.2.1 (by omega) (by omega) (by omega) hT2.out.1 (hS.mono (by have := HI.out.2.2.2.2.2.2; omega))
      · by_cases hle : now < m
        · skip
          go_upto_region 13 with (fail)
          obtain ⟨WX, hWX⟩ : ∃ WX, WX = W10.setCell ⟨p10, 0, none⟩ (.int .i64 1) := ⟨_, rfl⟩
          have HX := Lib.hid (show WX.heap[p10]? = some (dObj (tcD 1 m)) ∧ TcI W0 H B p5 p6 mk a (ch.map oneS) ns ls ds u7 u8 (M + 1 + 1) X AC cC p10 WX from by rw [hWX]; exact ⟨(set_blk H10.out.2.2.1).trans rfl, H10.out.1.putq H10.out.2.1 H10.out.2.2.2.1 0 _⟩)
          have HWX := Lib.hid (show W10.heap.size ≤ WX.heap.size from by rw [hWX]; simp)
          rw [← hWX]
          clear hWX f0
          clear d0 d1 d2 d3 d4 d5 d6 d7 hlp
          have hTB2 : TcB mk a (ds ++ [tcD 1 m]) (now + m) (sumL (fun k => ls.getD k 0) j + 0) := by
            have h := HI.out.2.1.born (by omega) (by omega)
            simpa using h
          have h0 := tcb_enter HI.out.2.1 hTB2 HX.out.2.x hmk (by omega) (by have := HI.out.2.2.2.1; omega)
          have hen := Enter_any X (tcD 1 m) WX HX.out.2.st.now
          unfold dv at hen
          have hT2 := Lib.hid (And.intro hTB2 h0)
          have hblk := blkD HX.out.1
          obtain ⟨d0, d1, d2, d3, d4, d5, d6, d7, d8, d9, d10, d11⟩ := hblk
          obtain ⟨k0, k1, k2, k3, k4⟩ := blk5c HX.out.2.b5
          have hl5 := heap_lt HX.out.2.b5
          have hl10 := heap_lt HX.out.1
          clear hTB2 h0
          unfold tcD at hen d0 d1 d2 d3 d4 d5 d6 d7 d8 d9 d10 d11
          dsimp only at hen d0 d1 d2 d3 d4 d5 d6 d7 d8 d9 d10 d11
          go_wp2_with fail
          refine hen.mono ?_
          rintro e w13 hE
          obtain ⟨⟨Y, rfl, hM, hO⟩, hb13⟩ := enter_ok hE hT2.out.2
          have hYx : Y.t = 0 ∧ Y.l = [mk] ∧ Y.ks = [0] ∧ Y.hs = [[a]] ∧ Y.ds = ds ++ [tcD 1 m] := by
            obtain ⟨x1, x2, x3, x4, x5⟩ := HX.out.2.x
            obtain ⟨y1, y2, y3, y4, y5⟩ := hM
            exact ⟨y1.trans x1, y2.trans x2, y3.trans x3, y4.trans x4, y5.trans (by rw [x5]; rfl)⟩
          have hYs := hbO_st hO (HX.out.2.elt (heap_lt HX.out.1))
          obtain ⟨W13, hW13⟩ : ∃ W13, W13 = w13.alloc Y.obj := ⟨_, rfl⟩
          obtain ⟨p11, hp11⟩ : ∃ p11, p11 = w13.heap.size := ⟨_, rfl⟩
          have b11 : W13.heap[p11]? = some Y.obj := by rw [hW13, hp11]; exact alloc_at rfl
          have hbb : Below w13.heap.size w13 W13 := by rw [hW13]; exact bal0 w13 _
          have hS13 := (HX.out.2.bel hb13).bel hbb
          have hYs2 := hYs.step (E' := EI H p5 p6 u7 u8 (.slice AC (ch.map oneS).length cC) p10) hbb.size (fun j hj _ => hbb.block j hj) (fun j _ e => e)
          have b10 := bheap (bheap HX.out.1 hb13 (Nat.le_refl _)) hbb (Nat.le_refl _)
          have hlt11 : p5 < p11 ∧ (∀ k, u7.ownBlock = some k ∨ u8.ownBlock = some k → k ≠ p11) ∧ B ≤ W13.heap.size := by
            have hT := HX.out.2.bel hb13
            refine ⟨by rw [hp11]; exact heap_lt hT.b5, fun k e => ?_, ?_⟩
            · rcases e with e | e
              · have := (hT.o7.lt k e).2; omega
              · have := (hT.o8.lt k e).2; omega
            · have := H10.out.2.2.2.2
              have := hT.dl.size
              have := hbb.size
              have := hb13.size
              have := HX.out.2.dl.size
              have := HWX.out
              omega
          have HY := Lib.hid (And.intro hYx (And.intro hYs2 (And.intro hS13 (And.intro b11 (And.intro b10 hlt11)))))
          have hblk := blkD b10
          obtain ⟨d0', d1', d2', d3', d4', d5', -⟩ := hblk
          unfold tcD at d0' d1' d2' d3' d4' d5'
          dsimp only at d0' d1' d2' d3' d4' d5'
          have hl13 := heap_lt b10
          clear hE hM hO hb13 hYx hYs hbb hS13 hYs2 b11 b10 hlt11 d0 d1 d2 d3 d4 d5 d6 d7 d8 d9 d10 d11 k0 k1 k2 k3 k4 hl5 hl10 hen
          go_upto_region 16 with (fail)
          rw [show w13.alloc (Obj.cells #[.int .i64 Y.t, .slice Y.A Y.l.length Y.c, .slice Y.Ak Y.ks.length Y.ck, .slice Y.Ah Y.hs.length Y.ch, .slice Y.Ad Y.ds.length Y.cd] 64) = W13 from hW13.symm, ← hp11]
          clear hW13 hp11
          have hnb : 0 ≤ now ∧ now ≤ 40 := by
            have h1 := HI.out.2.1.n
            have h2 := HI.out.1.b j (by have := HI.out.2.2.1; omega)
            have h3 := HI.out.2.2.2.2.1
            omega
          have hlsn : ls.length ≤ 100 ∧ ns.length ≤ 100 := by
            have h1 := HI.out.1.n
            have h2 := HI.out.1.l
            have h3 := HI.out.1.c4
            omega
          have hcn : (ch.map oneS).length ≤ 4 := by
            have := HI.out.1.c4
            simp; omega
          obtain ⟨CH, hCH⟩ : ∃ CH, CH = ch.map oneS := ⟨_, rfl⟩
          rw [← hCH] at hcn
          have HCH := Lib.hid hCH
          clear hCH
          go_upto_region 25 with (fail)
          refine cnt_more W13 B p5 p11 _ _ u7 u8 ls ns Y.t Y.A Y.Ak Y.Ah Y.Ad Y.l.length Y.ks.length Y.hs.length Y.ds.length Y.c Y.ck Y.ch Y.cd X.vm X.vk X.vh X.vd X.t _ _ _ _ _ _ _ _ _ _ _ _ _ _ _ _ _ _ _ _ _ _ _ _ _ _ _ _ _ _ _ _ _ _ _ _ _ _ _ _ _ _ _ _ _ _ _ _ _ _ _ _ _ _ _ _ _ _ _ _ _ _ _ _ _ _ _ _ _ _ _ _ _ _ _ _ _ _ _ _ _ _ _ _ _ _ _ _ _ _ _ _ _ _ _ _ _ _ _ _ _ _ _ _ _ _ _ _ _ _ _ _ _ _ _ _ _ _ _ _ _ _ _ _ _ _ _ _ _ _ _ _ _ _ _ _ _ _ _ _ _ _ _ _ _ _ _ _ _ _ _ _ _ _ _ _ _ _ _ _ _ _ _ _ _ _ _ _ _ _ _ _ _ _ _ _ _ _ _ _ _ _ _ _ _ _ _ _ _ _ _ _ _ _ _ _ _ _ _ _ _ _ _ _ _ _ _ _ _ _ _ _ _ _ _ _ _ _ _ _ _ _ _ _ _ _ _ _ _ _ _ _ _ _ _ _ _ _ _ _ _ _ _ _ _ _ _ _ _ _ _ _ _ _ _ _ _ _ _ _ _ _ _ _ _ _ _ _ _ _ _ _ _ _ _ _ _ _ _ _ _ _ _ _ _ _ _ _ _ _ _ _ _ _ _ _ _ _ _ _ _ _ _ _ _ _ _ _ _ _ _ _ _ _ (Lib.hid (show W13.heap[p5]? = some (boxO X.t X.vm X.vk X.vh X.vd) from HY.out.2.2.1.b5)) (Lib.hid (show W13.heap[p11]? = some (boxO Y.t (.slice Y.A Y.l.length Y.c) (.slice Y.Ak Y.ks.length Y.ck) (.slice Y.Ah Y.hs.length Y.ch) (.slice Y.Ad Y.ds.length Y.cd)) from HY.out.2.2.2.1)) (Nat.ne_of_lt HY.out.2.2.2.2.2.1) (by have := HY.out.2.2.1.hB; have := HY.out.2.2.1.h6; omega) HY.out.2.2.2.2.2.2.1 (Lib.hid ⟨HY.out.2.2.1.o7, HY.out.2.2.1.o8, HY.out.2.2.1.ap⟩) hlsn.1 hlsn.2 (heads_ne HI.out.1 (by omega)) HY.out.2.2.2.2.2.2.2 ?_
          intro Gs Gt Gu Gv Gw Gx Gy Gz F0 g7 c7 g8 c8 w14 h7 h8 hgg l7 l8 hb5 hge
          have hbz : B ≤ w14.heap.size := Nat.le_trans HY.out.2.2.2.2.2.2.2 hge.size
          have hS14 := TcI.more (d := tcD 1 m) HY.out.2.2.1 HY.out.1 HY.out.2.1 h7 h8 hgg l7 l8 hb5 hge
          rw [← HCH.out] at hS14
          have HS14 := Lib.hid hS14
          clear h7 h8 hgg l7 l8 hb5 hge d0' d1' d2' d3' d4' d5' hl13 hS14
          go_upto_region 26 with (fail)
          refine cnt_chg w14 B p6 _ AC cC CH ((CH.length : Int) + 1) a a 3 (.slice none 0 0) _ _ _ _ _ _ _ _ _ _ _ _ _ _ _ _ _ _ _ _ _ _ _ _ _ _ _ _ _ _ _ _ _ _ _ _ _ _ _ _ _ _ _ _ _ _ _ _ _ _ _ _ _ _ _ _ _ _ _ _ _ _ _ _ _ _ _ _ _ _ _ _ _ _ _ _ _ _ _ _ _ _ _ _ _ _ _ _ _ _ _ _ _ _ _ _ _ _ _ _ _ _ _ _ _ _ _ _ _ _ _ _ _ _ _ _ _ _ _ _ _ _ _ _ _ _ _ _ _ _ _ _ _ _ _ _ _ _ _ _ _ _ _ _ _ _ _ _ _ _ _ _ _ _ _ _ _ _ _ _ _ _ _ _ _ _ _ _ _ _ _ _ _ _ _ _ _ _ _ _ _ _ _ _ _ _ _ _ _ _ _ _ _ _ _ _ _ _ _ _ _ _ _ _ _ _ _ _ _ _ _ _ _ _ _ _ _ _ _ _ _ _ _ _ _ _ _ _ _ _ _ _ _ _ _ _ _ _ _ _ _ _ _ _ _ _ _ _ _ _ _ _ _ _ _ _ _ _ _ _ _ _ _ _ _ _ _ _ _ _ _ _ _ _ _ _ _ _ _ _ _ _ _ _ _ _ _ _ _ _ _ _ _ _ _ _ _ _ _ _ _ _ _ _ _ _ _ _ _ _ _ _ _ _ _ _ _ _ (Lib.hid HS14.out.b6) HS14.out.hB (by omega) (Lib.hid HS14.out.oc) (by omega) hbz ?_
          intro F1 F2 F3 F4 F5 F6 F7 F8 F9 FA FB FC g9 c9 w15 ho l9 hb6 hge6
          have hz15 : w14.heap.size ≤ w15.heap.size := hge6.size
          have HS15 := Lib.hid (HS14.out.chg ho l9 hb6 hge6)
          clear ho l9 hb6 hge6
          go_wp2_with fail
          go_roundg (gk - 1)
          case measure => omega
          case rel =>
            have e : m0 - (gk - 1) = j + 1 := by have := HI.out.2.2.2.2.2.1; omega
            have hS := HS15.out
            rw [HCH.out] at hS
            refine ⟨by omega, Nat.le_trans hbz hz15, by go_num, ?_⟩
            rw [e]
            exact LI.next (c := m) (l := 0) HI.out.1 HI.out.2.2.1 HI.out.2.2.2.1 (by have := HI.out.2.2.2.2.2.1; omega) HI.out.2.2.2.2.1 (by omega) (by omega) (by omega) hT2.out.1 (hS.mono (by have := HI.out.2.2.2.2.2.2; omega))
        · skip
          go_upto_region 13 with (fail)
          obtain ⟨WX, hWX⟩ : ∃ WX, WX = W10 := ⟨_, rfl⟩
          have HX := Lib.hid (show WX.heap[p10]? = some (dObj (tcD 4 m)) ∧ TcI W0 H B p5 p6 mk a (ch.map oneS) ns ls ds u7 u8 (M + 1 + 1) X AC cC p10 WX from by rw [hWX]; exact ⟨H10.out.2.2.1, H10.out.1⟩)
          have HWX := Lib.hid (show W10.heap.size ≤ WX.heap.size from by rw [hWX]; exact Nat.le_refl _)
          rw [← hWX]
          clear hWX f0
          clear d0 d1 d2 d3 d4 d5 d6 d7 hlp
          have hTB2 : TcB mk a (ds ++ [tcD 4 m]) (now - m) (sumL (fun k => ls.getD k 0) j + m) := by
            have h := HI.out.2.1.lost (by omega) (by omega) (by omega)
            simpa using h
          have h0 := tcb_enter HI.out.2.1 hTB2 HX.out.2.x hmk (by omega) (by have := HI.out.2.2.2.1; omega)
          have hen := Enter_any X (tcD 4 m) WX HX.out.2.st.now
          unfold dv at hen
          have hT2 := Lib.hid (And.intro hTB2 h0)
          have hblk := blkD HX.out.1
          obtain ⟨d0, d1, d2, d3, d4, d5, d6, d7, d8, d9, d10, d11⟩ := hblk
          obtain ⟨k0, k1, k2, k3, k4⟩ := blk5c HX.out.2.b5
          have hl5 := heap_lt HX.out.2.b5
          have hl10 := heap_lt HX.out.1
          clear hTB2 h0
          unfold tcD at hen d0 d1 d2 d3 d4 d5 d6 d7 d8 d9 d10 d11
          dsimp only at hen d0 d1 d2 d3 d4 d5 d6 d7 d8 d9 d10 d11
          go_wp2_with fail
          refine hen.mono ?_
          rintro e w13 hE
          obtain ⟨⟨Y, rfl, hM, hO⟩, hb13⟩ := enter_ok hE hT2.out.2
          have hYx : Y.t = 0 ∧ Y.l = [mk] ∧ Y.ks = [0] ∧ Y.hs = [[a]] ∧ Y.ds = ds ++ [tcD 4 m] := by
            obtain ⟨x1, x2, x3, x4, x5⟩ := HX.out.2.x
            obtain ⟨y1, y2, y3, y4, y5⟩ := hM
            exact ⟨y1.trans x1, y2.trans x2, y3.trans x3, y4.trans x4, y5.trans (by rw [x5]; rfl)⟩
          have hYs := hbO_st hO (HX.out.2.elt (heap_lt HX.out.1))
          obtain ⟨W13, hW13⟩ : ∃ W13, W13 = w13.alloc Y.obj := ⟨_, rfl⟩
          obtain ⟨p11, hp11⟩ : ∃ p11, p11 = w13.heap.size := ⟨_, rfl⟩
          have b11 : W13.heap[p11]? = some Y.obj := by rw [hW13, hp11]; exact alloc_at rfl
          have hbb : Below w13.heap.size w13 W13 := by rw [hW13]; exact bal0 w13 _
          have hS13 := (HX.out.2.bel hb13).bel hbb
          have hYs2 := hYs.step (E' := EI H p5 p6 u7 u8 (.slice AC (ch.map oneS).length cC) p10) hbb.size (fun j hj _ => hbb.block j hj) (fun j _ e => e)
          have b10 := bheap (bheap HX.out.1 hb13 (Nat.le_refl _)) hbb (Nat.le_refl _)
          have hlt11 : p5 < p11 ∧ (∀ k, u7.ownBlock = some k ∨ u8.ownBlock = some k → k ≠ p11) ∧ B ≤ W13.heap.size := by
            have hT := HX.out.2.bel hb13
            refine ⟨by rw [hp11]; exact heap_lt hT.b5, fun k e => ?_, ?_⟩
            · rcases e with e | e
              · have := (hT.o7.lt k e).2; omega
              · have := (hT.o8.lt k e).2; omega
            · have := H10.out.2.2.2.2
              have := hT.dl.size
              have := hbb.size
              have := hb13.size
              have := HX.out.2.dl.size
              have := HWX.out
              omega
          have HY := Lib.hid (And.intro hYx (And.intro hYs2 (And.intro hS13 (And.intro b11 (And.intro b10 hlt11)))))
          have hblk := blkD b10
          obtain ⟨d0', d1', d2', d3', d4', d5', -⟩ := hblk
          unfold tcD at d0' d1' d2' d3' d4' d5'
          dsimp only at d0' d1' d2' d3' d4' d5'
          have hl13 := heap_lt b10
          clear hE hM hO hb13 hYx hYs hbb hS13 hYs2 b11 b10 hlt11 d0 d1 d2 d3 d4 d5 d6 d7 d8 d9 d10 d11 k0 k1 k2 k3 k4 hl5 hl10 hen
          go_upto_region 16 with (fail)
          rw [show w13.alloc (Obj.cells #[.int .i64 Y.t, .slice Y.A Y.l.length Y.c, .slice Y.Ak Y.ks.length Y.ck, .slice Y.Ah Y.hs.length Y.ch, .slice Y.Ad Y.ds.length Y.cd] 64) = W13 from hW13.symm, ← hp11]
          clear hW13 hp11
          have hnb : 0 ≤ now ∧ now ≤ 40 := by
            have h1 := HI.out.2.1.n
            have h2 := HI.out.1.b j (by have := HI.out.2.2.1; omega)
            have h3 := HI.out.2.2.2.2.1
            omega
          have hlsn : ls.length ≤ 100 ∧ ns.length ≤ 100 := by
            have h1 := HI.out.1.n
            have h2 := HI.out.1.l
            have h3 := HI.out.1.c4
            omega
          have hcn : (ch.map oneS).length ≤ 4 := by
            have := HI.out.1.c4
            simp; omega
          obtain ⟨CH, hCH⟩ : ∃ CH, CH = ch.map oneS := ⟨_, rfl⟩
          rw [← hCH] at hcn
          have HCH := Lib.hid hCH
          clear hCH
          go_upto_region 25 with (fail)
          refine cnt_more W13 B p5 p11 _ _ u7 u8 ls ns Y.t Y.A Y.Ak Y.Ah Y.Ad Y.l.length Y.ks.length Y.hs.length Y.ds.length Y.c Y.ck Y.ch Y.cd X.vm X.vk X.vh X.vd X.t _ _ _ _ _ _ _ _ _ _ _ _ _ _ _ _ _ _ _ _ _ _ _ _ _ _ _ _ _ _ _ _ _ _ _ _ _ _ _ _ _ _ _ _ _ _ _ _ _ _ _ _ _ _ _ _ _ _ _ _ _ _ _ _ _ _ _ _ _ _ _ _ _ _ _ _ _ _ _ _ _ _ _ _ _ _ _ _ _ _ _ _ _ _ _ _ _ _ _ _ _ _ _ _ _ _ _ _ _ _ _ _ _ _ _ _ _ _ _ _ _ _ _ _ _ _ _ _ _ _ _ _ _ _ _ _ _ _ _ _ _ _ _ _ _ _ _ _ _ _ _ _ _ _ _ _ _ _ _ _ _ _ _ _ _ _ _ _ _ _ _ _ _ _ _ _ _ _ _ _ _ _ _ _ _ _ _ _ _ _ _ _ _ _ _ _ _ _ _ _ _ _ _ _ _ _ _ _ _ _ _ _ _ _ _ _ _ _ _ _ _ _ _ _ _ _ _ _ _ _ _ _ _ _ _ _ _ _ _ _ _ _ _ _ _ _ _ _ _ _ _ _ _ _ _ _ _ _ _ _ _ _ _ _ _ _ _ _ _ _ _ _ _ _ _ _ _ _ _ _ _ _ _ _ _ _ _ _ _ _ _ _ _ _ _ _ _ _ _ _ _ _ _ _ _ _ _ _ _ _ _ _ _ _ (Lib.hid (show W13.heap[p5]? = some (boxO X.t X.vm X.vk X.vh X.vd) from HY.out.2.2.1.b5)) (Lib.hid (show W13.heap[p11]? = some (boxO Y.t (.slice Y.A Y.l.length Y.c) (.slice Y.Ak Y.ks.length Y.ck) (.slice Y.Ah Y.hs.length Y.ch) (.slice Y.Ad Y.ds.length Y.cd)) from HY.out.2.2.2.1)) (Nat.ne_of_lt HY.out.2.2.2.2.2.1) (by have := HY.out.2.2.1.hB; have := HY.out.2.2.1.h6; omega) HY.out.2.2.2.2.2.2.1 (Lib.hid ⟨HY.out.2.2.1.o7, HY.out.2.2.1.o8, HY.out.2.2.1.ap⟩) hlsn.1 hlsn.2 (heads_ne HI.out.1 (by omega)) HY.out.2.2.2.2.2.2.2 ?_
          intro Gs Gt Gu Gv Gw Gx Gy Gz F0 g7 c7 g8 c8 w14 h7 h8 hgg l7 l8 hb5 hge
          have hbz : B ≤ w14.heap.size := Nat.le_trans HY.out.2.2.2.2.2.2.2 hge.size
          have hS14 := TcI.more (d := tcD 4 m) HY.out.2.2.1 HY.out.1 HY.out.2.1 h7 h8 hgg l7 l8 hb5 hge
          rw [← HCH.out] at hS14
          have HS14 := Lib.hid hS14
          clear h7 h8 hgg l7 l8 hb5 hge d0' d1' d2' d3' d4' d5' hl13 hS14
          go_upto_region 26 with (fail)
          refine cnt_chg w14 B p6 _ AC cC CH ((CH.length : Int) + 1) a a 3 (.slice none 0 0) _ _ _ _ _ _ _ _ _ _ _ _ _ _ _ _ _ _ _ _ _ _ _ _ _ _ _ _ _ _ _ _ _ _ _ _ _ _ _ _ _ _ _ _ _ _ _ _ _ _ _ _ _ _ _ _ _ _ _ _ _ _ _ _ _ _ _ _ _ _ _ _ _ _ _ _ _ _ _ _ _ _ _ _ _ _ _ _ _ _ _ _ _ _ _ _ _ _ _ _ _ _ _ _ _ _ _ _ _ _ _ _ _ _ _ _ _ _ _ _ _ _ _ _ _ _ _ _ _ _ _ _ _ _ _ _ _ _ _ _ _ _ _ _ _ _ _ _ _ _ _ _ _ _ _ _ _ _ _ _ _ _ _ _ _ _ _ _ _ _ _ _ _ _ _ _ _ _ _ _ _ _ _ _ _ _ _ _ _ _ _ _ _ _ _ _ _ _ _ _ _ _ _ _ _ _ _ _ _ _ _ _ _ _ _ _ _ _ _ _ _ _ _ _ _ _ _ _ _ _ _ _ _ _ _ _ _ _ _ _ _ _ _ _ _ _ _ _ _ _ _ _ _ _ _ _ _ _ _ _ _ _ _ _ _ _ _ _ _ _ _ _ _ _ _ _ _ _ _ _ _ _ _ _ _ _ _ _ _ _ _ _ _ _ _ _ _ _ _ _ _ _ _ _ _ _ _ _ _ _ _ _ _ _ _ _ _ _ (Lib.hid HS14.out.b6) HS14.out.hB (by omega) (Lib.hid HS14.out.oc) (by omega) hbz ?_
          intro F1 F2 F3 F4 F5 F6 F7 F8 F9 FA FB FC g9 c9 w15 ho l9 hb6 hge6
          have hz15 : w14.heap.size ≤ w15.heap.size := hge6.size
          have HS15 := Lib.hid (HS14.out.chg ho l9 hb6 hge6)
          clear ho l9 hb6 hge6
          go_wp2_with fail
          go_roundg (gk - 1)
          case measure => omega
          case rel =>
            have e : m0 - (gk - 1) = j + 1 := by have := HI.out.2.2.2.2.2.1; omega
            have hS := HS15.out
            rw [HCH.out] at hS
            refine ⟨by omega, Nat.le_trans hbz hz15, by go_num, ?_⟩
            rw [e]
            exact LI.next (c := 0) (l := m) HI.out.1 HI.out.2.2.1 HI.out.2.2.2.1 (by have := HI.out.2.2.2.2.2.1; omega) HI.out.2.2.2.2.1 (by omega) (by omega) (by omega) hT2.out.1 (hS.mono (by have := HI.out.2.2.2.2.2.2; omega))
    · obtain rfl : gk = 0 := by omega
      have hj0 : j = m0 := by omega
      have hLI : LI W0 H B p5 p6 mk a N m0 (.int .i64 now) u7 u8 wr := by
        rw [hj0] at hcl hdl hTB hnow hS
        exact ⟨ch, ns, ls, ds, now, X, AC, cC, rfl, hcl, hdl, hL, hTB, hnow, hS⟩
      have HL := Lib.hid hLI
      clear hLI hS hTB hL hcl hdl hnow
      go_wp2_with fail
      exact HQ _ _ _ _ _ _ _ _ _ _ _ _ _ _ _ _ _ _ _ _ _ _ _ _ _ _ _ _ _ _ _ _ _ _ _ _ _ _ _ _ _ _ _ _ _ _ _ _ _ _ _ _ _ _ _ _ _ _ _ _ _ _ _ _ _ _ _ _ _ _ _ _ _ _ _ _ _ _ _ HL.out
end Go.Proofs.Ytgnjknihgjdedaa
