/- TopFold 24: TyZ, FldB. -/
import Derived.Test.YtgnjknihgjdedaaTf23
namespace Go.Proofs.Ytgnjknihgjdedaa
open Go.RowKit
set_option linter.unusedVariables false
set_option linter.unusedSimpArgs false
set_option maxRecDepth 1000000
def TW (H B : Nat) (z : Obj) (G : Obj → Prop) (n : Nat) (w w' : World) : Prop :=
  w'.os = w.os ∧ w'.tape = w.tape ∧ w'.output = w.output ∧ w.heap.size ≤ w'.heap.size ∧ (∀ (k : Nat) o, k ≠ H → w.heap[k]? = some o → w'.heap[k]? = some o ∨ (B ≤ k ∧ (o = z ∨ G o) ∧ ∃ t, G t ∧ w'.heap[k]? = some t)) ∧ ∀ N, Hd w H N → Hd w' H (N + 300 * n)
section
variable {H B : Nat} {z : Obj} {G : Obj → Prop}
theorem TW.tr : ∀ n a b c, TW H B z G n a b → TW H B z G 1 b c → TW H B z G (n + 1) a c := fun n a b c ⟨h1, h2, h3, h4, h5, h6⟩ ⟨k1, k2, k3, k4, k5, k6⟩ => by
  refine ⟨k1.trans h1, k2.trans h2, k3.trans h3, Nat.le_trans h4 k4, fun j o hj ho => ?_, fun N hN => ?_⟩
  · rcases h5 j o hj ho with h | ⟨hB, hz, t, ht, h⟩
    · exact k5 j o hj h
    · rcases k5 j t hj h with h' | ⟨_, _, t', ht', h'⟩
      · exact .inr ⟨hB, hz, t, ht, h'⟩
      · exact .inr ⟨hB, hz, t', ht', h'⟩
  · have := k6 _ (h6 N hN)
    rw [show N + 300 * (n + 1) = N + 300 * n + 300 * 1 by omega]; exact this
theorem TW.draw (w : World) : TW H B z G 0 w { w with drawn := w.drawn + 1 } := ⟨rfl, rfl, rfl, Nat.le_refl _, fun _ _ _ h => .inl h, fun N h => h⟩
theorem TW.rf : ∀ w, TW H B z G 1 w w := fun w => ⟨rfl, rfl, rfl, Nat.le_refl _, fun _ _ _ h => .inl h, fun N h => h.mono (by omega)⟩
theorem TW.of {w w' : World} (h : Below w.heap.size w w') : TW H B z G 1 w w' := ⟨h.os, h.tape, h.output, h.size, fun k o _ ho => .inl ((h.block k (heap_lt ho)).trans ho), fun N hN => (hN.below h hN.lt).mono (by omega)⟩
theorem TW.deal {w w' : World} {N k : Nat} (hmin : ∀ M, Hd w H M → N ≤ M) (h : Dealt w w' H (N + k)) (hk : k ≤ 300) : TW H B z G 1 w w' :=
  ⟨h.gr.os, h.gr.tape, h.gr.output, h.gr.size, fun j o hj ho => .inl (h.blk ho hj), fun M hM => h.hd.mono (by have := hmin M hM; omega)⟩
theorem TW.dealt {W w' : World} {n N : Nat} (h : TW H W.heap.size z G n W w') (hd : Hd W H N) : Dealt W w' H (N + 300 * n) := ⟨h.2.2.2.2.2 N hd, h.1, h.2.1, h.2.2.1, h.2.2.2.1, fun j hj hne => by
  have ho : W.heap[j]? = some (W.heap[j]'hj) := Array.getElem?_eq_getElem hj
  rcases h.2.2.2.2.1 j _ (fun e => hne (by rw [e])) ho with h' | ⟨h', _⟩
  · rw [h', ho]
  · omega⟩
def PzW (H B : Nat) (z : Obj) (G : Obj → Prop) : VF := fun v w => ∃ k, v = .pointer (some ⟨k, 0, none⟩) ∧ B ≤ k ∧ k ≠ H ∧ (w.heap[k]? = some z ∨ ∃ t, G t ∧ w.heap[k]? = some t)
def PtW (H B : Nat) (z : Obj) (G : Obj → Prop) : VF := fun v w => ∃ k, v = .pointer (some ⟨k, 0, none⟩) ∧ B ≤ k ∧ k ≠ H ∧ ∃ t, G t ∧ w.heap[k]? = some t
theorem PtW.st : ∀ n v w w', TW H B z G n w w' → PtW H B z G v w → PtW H B z G v w' := fun n v w w' h ⟨k, hv, hk, hH, t, ht, ho⟩ => by
  refine ⟨k, hv, hk, hH, ?_⟩
  rcases h.2.2.2.2.1 k t hH ho with h' | ⟨_, _, t', ht', h'⟩
  · exact ⟨t, ht, h'⟩
  · exact ⟨t', ht', h'⟩
theorem PzW.st : ∀ n v w w', TW H B z G n w w' → PzW H B z G v w → PzW H B z G v w' := fun n v w w' h ⟨k, hv, hk, hH, ho⟩ => by
  refine ⟨k, hv, hk, hH, ?_⟩
  rcases ho with ho | ⟨t, ht, ho⟩
  · rcases h.2.2.2.2.1 k z hH ho with h' | ⟨_, _, t', ht', h'⟩
    · exact .inl h'
    · exact .inr ⟨t', ht', h'⟩
  · rcases h.2.2.2.2.1 k t hH ho with h' | ⟨_, _, t', ht', h'⟩
    · exact .inr ⟨t, ht, h'⟩
    · exact .inr ⟨t', ht', h'⟩
theorem PzW.new (w : World) (hB : B ≤ w.heap.size) (hH : H < B) : TW H B z G 1 w (w.alloc z) ∧ PzW H B z G (.pointer (some ⟨w.heap.size, 0, none⟩)) (w.alloc z) :=
  ⟨TW.of (bal0 w z), w.heap.size, rfl, hB, by omega, .inl (heap_alloc_new w z)⟩
end
def SgOf (P : Sg → Prop) : Obj → Prop := fun t => ∃ s, P s ∧ t = sgObj s
theorem sgOf_put {H B k : Nat} {P : Sg → Prop} {R : Sg} {w : World} (hk : B ≤ k) (hH : k ≠ H) (hR : P R) (h : ∃ s', w.heap[k]? = some (sgObj s') ∧ (sgObj s' = sgObj ⟨0, false, false, 0, 0⟩ ∨ SgOf P (sgObj s'))) (hb : H < B) :
    TW H B (sgObj ⟨0, false, false, 0, 0⟩) (SgOf P) 1 w (((((w.setCell ⟨k, 0, none⟩ (.int .i64 R.n)).setCell ⟨k, 1, none⟩ (.bool R.l)).setCell ⟨k, 2, none⟩ (.bool R.r)).setCell ⟨k, 3, none⟩ (.int .i64 R.b)).setCell ⟨k, 4, none⟩ (.int .i64 R.p)) ∧
      PtW H B (sgObj ⟨0, false, false, 0, 0⟩) (SgOf P) (.pointer (some ⟨k, 0, none⟩)) (((((w.setCell ⟨k, 0, none⟩ (.int .i64 R.n)).setCell ⟨k, 1, none⟩ (.bool R.l)).setCell ⟨k, 2, none⟩ (.bool R.r)).setCell ⟨k, 3, none⟩ (.int .i64 R.b)).setCell ⟨k, 4, none⟩ (.int .i64 R.p)) := by
  obtain ⟨s', hs', ho⟩ := h
  obtain ⟨W', hW'⟩ : ∃ W', W' = (((((w.setCell ⟨k, 0, none⟩ (.int .i64 R.n)).setCell ⟨k, 1, none⟩ (.bool R.l)).setCell ⟨k, 2, none⟩ (.bool R.r)).setCell ⟨k, 3, none⟩ (.int .i64 R.b)).setCell ⟨k, 4, none⟩ (.int .i64 R.p)) := ⟨_, rfl⟩
  have hX : W'.heap[k]? = some (sgObj R) := by rw [hW']; exact set_blk (set_blk (set_blk (set_blk (set_blk hs'))))
  have hY : ∀ j, j ≠ k → W'.heap[j]? = w.heap[j]? := fun j hj => by
    rw [hW', Below.heap_setCell _ ⟨k, 4, none⟩ _ j hj, Below.heap_setCell _ ⟨k, 3, none⟩ _ j hj, Below.heap_setCell _ ⟨k, 2, none⟩ _ j hj, Below.heap_setCell _ ⟨k, 1, none⟩ _ j hj, Below.heap_setCell _ ⟨k, 0, none⟩ _ j hj]
  have hO : Out w W' := by rw [hW']; exact (((((Out.rf _).set _ _).set _ _).set _ _).set _ _ |>.set _ _)
  have hS : W'.heap.size = w.heap.size := by rw [hW']; simp
  rw [← hW']
  refine ⟨⟨hO.1, hO.2.1, hO.2.2, by omega, fun j o hj ho' => ?_, fun N hN => ?_⟩, k, rfl, hk, hH, sgObj R, ⟨R, hR, rfl⟩, hX⟩
  · by_cases hjk : j = k
    · subst hjk
      rw [hs'] at ho'; cases ho'
      exact .inr ⟨hk, ho, sgObj R, ⟨R, hR, rfl⟩, hX⟩
    · exact .inl ((hY j hjk).trans ho')
  · exact (hN.kept fun j hj => hY j (by omega)).mono (by omega)

noncomputable def rgF31 : Code := ((Try.f3.body.bind (findRgn 31)).getD .skip)
def RgFQ31 (W : World) (H x N o tn : Nat) (m : Mk) (v0 v1 v2 v4 v5 v6 v7 v8 v9 Z0 Z1 Z2 Z3 Z4 Z5 Z6 Z7 Z8 Z9 ZA ZB ZC ZD ZE ZF ZG ZH ZI ZJ ZK ZL ZM ZN ZO ZP ZQ ZR ZS ZT ZU ZV ZW ZX ZY ZZ Za Zb Zc Zd Ze Zf Zg Zh Zi Zj Zk Zl Zm Zn Zo Zp Zq Zr Zs Zt Zu Zv Zw Zx Zy Zz Y0 Y1 Y2 Y3 Y4 Y5 Y6 Y7 Y8 Y9 YA YB YC YD YE YF YG YH YI YJ YK YL YM YN YO YP YQ YR YS YT YU YV YW YX YY YZ Ya Yb Yc Yd Ye Yf Yg Yh Yi Yj Yk Yl Ym Yn Yo Yp Yq Yr Ys Yt Yu Yv Yw Yx Yy Yz X0 X1 X2 X3 X4 X5 X6 X7 X8 X9 XA XB XC XD XE XF XG XH XI XJ XK XL XM XN XO XP XQ XR XS XT XU XV XW XX XY XZ Xa Xb Xc Xd Xe Xf Xg Xh Xi Xj Xk Xl Xm Xn Xo Xp Xq Xr Xs Xt Xu Xv Xw Xx Xy Xz K0 K1 K2 K3 K4 K5 K6 K7 K8 K9 KA KB KC KD KE KF KG KH KI KJ KK KL KM KN KO KP KQ KR KS KT KU KV KW KX KY KZ Ka Kb Kc Kd Ke Kf Kg Kh Ki Kj Kk Kl Km Kn Ko Kp Kq Kr Ks Kt Ku Kv Kw Kx Ky Kz J0 J1 J2 J3 J4 J5 J6 J7 J8 J9 JA JB JC JD JE JF JG JH JI JJ JK JL JM JN JO JP JQ JR JS JT JU JV JW JX JY JZ Ja Jb : Value) (Q : Exit → Act → World → Prop) : Prop := ∀ (Jc Jd Je Jf Jg Jh Ji Jj Jk Jl : Value) (k : Nat) (s : Sg) (w' : World), seen s 9 6 = 0 → fits s m (tn : Int) = true → W.heap.size ≤ k → w'.heap[k]? = some (sgObj s) → Dealt W w' H (N + 30000) → Q .normal ⟨#[v0, v1, v2, (Value.pointer (some ⟨H, 0, none⟩)), v4, v5, v6, v7, v8, v9, Z0, Z1, (Value.pointer (some ⟨x, 0, none⟩)), Z2, Z3, Z4, Z5, (Value.int .i64 (o : Int)), Z6, (Value.pointer (some ⟨k, 0, none⟩)), (Value.int .i64 0), Z9, ZA, ZB, ZC, ZD, ZE, ZF, ZG, ZH, ZI, ZJ, ZK, ZL, ZM, ZN, ZO, ZP, ZQ, ZR, ZS, ZT, ZU, ZV, ZW, ZX, ZY, ZZ, Za, Zb, Zc, Zd, Ze, Zf, Zg, Zh, Zi, Zj, Zk, Zl, Zm, Zn, Zo, Zp, Zq, Zr, Zs, Zt, Zu, Zv, Zw, Zx, Zy, Zz, Y0, Y1, Y2, Y3, Y4, Y5, Y6, Y7, Y8, Y9, YA, YB, YC, YD, YE, YF, YG, YH, YI, YJ, YK, YL, YM, YN, YO, YP, YQ, YR, YS, YT, YU, YV, YW, YX, YY, YZ, Ya, Yb, Yc, Yd, Ye, Yf, Yg, Yh, Yi, Yj, Yk, Yl, Ym, Yn, Yo, Yp, Yq, Yr, Ys, Yt, Yu, Yv, Yw, Yx, Yy, Yz, X0, X1, X2, X3, X4, X5, X6, X7, X8, X9, XA, Jc, Jd, Je, Jf, Jg, Jh, Ji, Jj, Jk, Jl, XL, XM, XN, XO, XP, XQ, XR, XS, XT, XU, XV, XW, XX, XY, XZ, Xa, Xb, Xc, Xd, Xe, Xf, Xg, Xh, Xi, Xj, Xk, Xl, Xm, Xn, Xo, Xp, Xq, Xr, Xs, Xt, Xu, Xv, Xw, Xx, Xy, Xz, K0, K1, K2, K3, K4, K5, K6, K7, K8, K9, KA, KB, KC, KD, KE, KF, KG, KH, KI, KJ, KK, KL, KM, KN, KO, KP, KQ, KR, KS, KT, KU, KV, KW, KX, KY, KZ, Ka, Kb, Kc, Kd, Ke, Kf, Kg, Kh, Ki, Kj, Kk, Kl, Km, Kn, Ko, Kp, Kq, Kr, Ks, Kt, Ku, Kv, Kw, Kx, Ky, Kz, J0, J1, J2, J3, J4, J5, J6, J7, J8, J9, JA, JB, JC, JD, JE, JF, JG, JH, JI, JJ, JK, JL, JM, JN, JO, JP, JQ, JR, JS, JT, JU, JV, JW, JX, JY, JZ, Ja, Jb], []⟩ w'
set_option maxHeartbeats 8000000 in
theorem fold_show (W : World) (H x N o tn : Nat) (A1 : Option Addr) (n1 c1 : Nat) (l : List Mk) (m : Mk) (v0 v1 v2 v4 v5 v6 v7 v8 v9 Z0 Z1 Z2 Z3 Z4 Z5 Z6 Z7 Z8 Z9 ZA ZB ZC ZD ZE ZF ZG ZH ZI ZJ ZK ZL ZM ZN ZO ZP ZQ ZR ZS ZT ZU ZV ZW ZX ZY ZZ Za Zb Zc Zd Ze Zf Zg Zh Zi Zj Zk Zl Zm Zn Zo Zp Zq Zr Zs Zt Zu Zv Zw Zx Zy Zz Y0 Y1 Y2 Y3 Y4 Y5 Y6 Y7 Y8 Y9 YA YB YC YD YE YF YG YH YI YJ YK YL YM YN YO YP YQ YR YS YT YU YV YW YX YY YZ Ya Yb Yc Yd Ye Yf Yg Yh Yi Yj Yk Yl Ym Yn Yo Yp Yq Yr Ys Yt Yu Yv Yw Yx Yy Yz X0 X1 X2 X3 X4 X5 X6 X7 X8 X9 XA XB XC XD XE XF XG XH XI XJ XK XL XM XN XO XP XQ XR XS XT XU XV XW XX XY XZ Xa Xb Xc Xd Xe Xf Xg Xh Xi Xj Xk Xl Xm Xn Xo Xp Xq Xr Xs Xt Xu Xv Xw Xx Xy Xz K0 K1 K2 K3 K4 K5 K6 K7 K8 K9 KA KB KC KD KE KF KG KH KI KJ KK KL KM KN KO KP KQ KR KS KT KU KV KW KX KY KZ Ka Kb Kc Kd Ke Kf Kg Kh Ki Kj Kk Kl Km Kn Ko Kp Kq Kr Ks Kt Ku Kv Kw Kx Ky Kz J0 J1 J2 J3 J4 J5 J6 J7 J8 J9 JA JB JC JD JE JF JG JH JI JJ JK JL JM JN JO JP JQ JR JS JT JU JV JW JX JY JZ Ja Jb : Value) (Q : Exit → Act → World → Prop)
    (HB : Hid (W.heap[x]? = some (rgO (tn : Int) A1 n1 c1))) (HH : Hid (Hd W H N)) (hN : N ≤ 4611686018000000000) (HM : Hid (Marks W A1 n1 l ∧ n1 ≤ c1 ∧ c1 ≤ maxLen ∧ check (tn : Int) l = 0 ∧ l[o]? = some m)) (hHx : x ≠ H) (hA : Hid (OffH A1 H)) (htn : tn ≤ 100)
    (HQ : RgFQ31 W H x N o tn m v0 v1 v2 v4 v5 v6 v7 v8 v9 Z0 Z1 Z2 Z3 Z4 Z5 Z6 Z7 Z8 Z9 ZA ZB ZC ZD ZE ZF ZG ZH ZI ZJ ZK ZL ZM ZN ZO ZP ZQ ZR ZS ZT ZU ZV ZW ZX ZY ZZ Za Zb Zc Zd Ze Zf Zg Zh Zi Zj Zk Zl Zm Zn Zo Zp Zq Zr Zs Zt Zu Zv Zw Zx Zy Zz Y0 Y1 Y2 Y3 Y4 Y5 Y6 Y7 Y8 Y9 YA YB YC YD YE YF YG YH YI YJ YK YL YM YN YO YP YQ YR YS YT YU YV YW YX YY YZ Ya Yb Yc Yd Ye Yf Yg Yh Yi Yj Yk Yl Ym Yn Yo Yp Yq Yr Ys Yt Yu Yv Yw Yx Yy Yz X0 X1 X2 X3 X4 X5 X6 X7 X8 X9 XA XB XC XD XE XF XG XH XI XJ XK XL XM XN XO XP XQ XR XS XT XU XV XW XX XY XZ Xa Xb Xc Xd Xe Xf Xg Xh Xi Xj Xk Xl Xm Xn Xo Xp Xq Xr Xs Xt Xu Xv Xw Xx Xy Xz K0 K1 K2 K3 K4 K5 K6 K7 K8 K9 KA KB KC KD KE KF KG KH KI KJ KK KL KM KN KO KP KQ KR KS KT KU KV KW KX KY KZ Ka Kb Kc Kd Ke Kf Kg Kh Ki Kj Kk Kl Km Kn Ko Kp Kq Kr Ks Kt Ku Kv Kw Kx Ky Kz J0 J1 J2 J3 J4 J5 J6 J7 J8 J9 JA JB JC JD JE JF JG JH JI JJ JK JL JM JN JO JP JQ JR JS JT JU JV JW JX JY JZ Ja Jb Q) :
    Code.wp Try.prog rgF31 Q ⟨#[v0, v1, v2, (Value.pointer (some ⟨H, 0, none⟩)), v4, v5, v6, v7, v8, v9, Z0, Z1, (Value.pointer (some ⟨x, 0, none⟩)), Z2, Z3, Z4, Z5, (Value.int .i64 (o : Int)), Z6, Z7, Z8, Z9, ZA, ZB, ZC, ZD, ZE, ZF, ZG, ZH, ZI, ZJ, ZK, ZL, ZM, ZN, ZO, ZP, ZQ, ZR, ZS, ZT, ZU, ZV, ZW, ZX, ZY, ZZ, Za, Zb, Zc, Zd, Ze, Zf, Zg, Zh, Zi, Zj, Zk, Zl, Zm, Zn, Zo, Zp, Zq, Zr, Zs, Zt, Zu, Zv, Zw, Zx, Zy, Zz, Y0, Y1, Y2, Y3, Y4, Y5, Y6, Y7, Y8, Y9, YA, YB, YC, YD, YE, YF, YG, YH, YI, YJ, YK, YL, YM, YN, YO, YP, YQ, YR, YS, YT, YU, YV, YW, YX, YY, YZ, Ya, Yb, Yc, Yd, Ye, Yf, Yg, Yh, Yi, Yj, Yk, Yl, Ym, Yn, Yo, Yp, Yq, Yr, Ys, Yt, Yu, Yv, Yw, Yx, Yy, Yz, X0, X1, X2, X3, X4, X5, X6, X7, X8, X9, XA, XB, XC, XD, XE, XF, XG, XH, XI, XJ, XK, XL, XM, XN, XO, XP, XQ, XR, XS, XT, XU, XV, XW, XX, XY, XZ, Xa, Xb, Xc, Xd, Xe, Xf, Xg, Xh, Xi, Xj, Xk, Xl, Xm, Xn, Xo, Xp, Xq, Xr, Xs, Xt, Xu, Xv, Xw, Xx, Xy, Xz, K0, K1, K2, K3, K4, K5, K6, K7, K8, K9, KA, KB, KC, KD, KE, KF, KG, KH, KI, KJ, KK, KL, KM, KN, KO, KP, KQ, KR, KS, KT, KU, KV, KW, KX, KY, KZ, Ka, Kb, Kc, Kd, Ke, Kf, Kg, Kh, Ki, Kj, Kk, Kl, Km, Kn, Ko, Kp, Kq, Kr, Ks, Kt, Ku, Kv, Kw, Kx, Ky, Kz, J0, J1, J2, J3, J4, J5, J6, J7, J8, J9, JA, JB, JC, JD, JE, JF, JG, JH, JI, JJ, JK, JL, JM, JN, JO, JP, JQ, JR, JS, JT, JU, JV, JW, JX, JY, JZ, Ja, Jb], []⟩ W := by
  dsimp only
  conv => arg 2; whnf
  have hHW : H < W.heap.size := HH.out.lt
  obtain ⟨G, hG⟩ : ∃ G : Sg → Prop, G = fun s => seen s 9 6 = 0 ∧ fits s m (tn : Int) = true := ⟨_, rfl⟩
  obtain ⟨Z, hZ⟩ : ∃ Z : Obj, Z = sgObj ⟨0, false, false, 0, 0⟩ := ⟨_, rfl⟩
  have HG := Lib.hid hG
  have HZ := Lib.hid hZ
  clear hG hZ
  have HC : Hid (∀ k' w', TW H W.heap.size Z (SgOf G) k' W w' → Dealt W w' H (N + 300 * k') ∧ w'.cell? ⟨x, 0, none⟩ = some (.int .i64 (tn : Int)) ∧ w'.cell? ⟨x, 1, none⟩ = some (.slice A1 n1 c1) ∧ x < w'.heap.size) :=
    Lib.hid fun k' w' h => by
      have hd := h.dealt HH.out
      have hb := hd.blk HB.out hHx
      exact ⟨hd, (blk2 hb).1, (blk2 hb).2, heap_lt hb⟩
  refine wp_region_inv (TW H W.heap.size Z (SgOf G)) (by kernel_rfl) (by kernel_rfl) TW.tr (TW.draw _) ?_
  apply Exists.intro
  refine ⟨fun ys => ?_, fun ops K hK => ?_⟩
  · simp only [dstsOf, List.filterMap_cons, List.filterMap_nil, putAll]
    go_simp
    rfl
  repeat
    refine LexI.const TW.rf ?_
    apply Exists.intro
    refine ⟨fun n' ys w' hn' hT hd => ?_, ?_⟩
    · try simp [DepsOf, depsGo, DF.holds, Region.binds, EqF] at hd
      obtain ⟨_, y0, y1, hxl⟩ := HC.out n' w' hT
      intro Q2 hQ2
      go_wp2_with fail
      rfl
    try simp only [List.nil_append, List.cons_append]
  refine LexI.some (fun v _ => ∃ s, v = vSg s ∧ seen s 0 0 = 0 ∧ popI s.n ≤ tn) (pure_st) (fun n' ys w' hn' hT hd => ?_) ?_
  · try simp [DepsOf, depsGo, DF.holds, Region.binds, EqF] at hd
    try simp only [hd]
    have hdw := (HC.out n' w' hT).1
    intro Q2 hQ2
    go_wp2_with fail
    obtain ⟨N0, hle, hd0, hmin⟩ := hdw.hd.least
    refine (wearOf_any H N0 tn _ hd0 (by omega) htn).mono ?_
    rintro e w5 ⟨s, rfl, hs, hp, hd5⟩
    have HX := Lib.hid (show TW H W.heap.size Z (SgOf G) 1 w' w5 from TW.deal hmin hd5 (by decide))
    clear hd5 hdw hT hd0 hmin
    go_wp2
    exact ⟨_, rfl, HX.out, s, rfl, hs, hp⟩
  try simp only [List.nil_append, List.cons_append]
  refine LexI.some (fun v _ => ∃ s, v = .tuple #[vSg s, .int .i64 0] ∧ G s) (pure_st) (fun n' ys w' hn' hT hd => ?_) ?_
  · try simp [DepsOf, depsGo, DF.holds, Region.binds, EqF] at hd
    try simp only [hd]
    obtain ⟨h148, h149, s, h153, hs, hp⟩ := hd
    simp only [h148, h149, h153]
    have hdw := (HC.out n' w' hT).1
    have hm := HM.out.1.dealt hdw hA.out
    have hsl := show_law HM.out.2.2.2.1 HM.out.2.2.2.2 hs (by omega)
    have hsh := Show_any (tn : Int) A1 n1 c1 l (o : Int) s w' hm HM.out.2.1 HM.out.2.2.1
    rw [hsl.1, hsl.2.1] at hsh
    have HSL := Lib.hid (show G (wornS m s) by rw [HG.out]; exact hsl.2.2)
    clear hdw hm hsl hT
    intro Q2 hQ2
    go_wp2_with fail
    refine hsh.mono ?_
    rintro e w5 ⟨rfl, hb5⟩
    have HX := Lib.hid (show TW H W.heap.size Z (SgOf G) 1 w' w5 from TW.of hb5)
    clear hb5 hsh
    go_wp2
    exact ⟨_, rfl, HX.out, _, rfl, HSL.out⟩
  try simp only [List.nil_append, List.cons_append]
  refine LexI.some (fun v _ => ∃ s, v = .tuple #[vSg s, .int .i64 0] ∧ G s) (pure_st) (fun n' ys w' hn' hT hd => ?_) ?_
  · try simp [DepsOf, depsGo, DF.holds, Region.binds, EqF] at hd
    try simp only [hd]
    obtain ⟨s, h154, hs⟩ := hd
    simp only [h154]
    intro Q2 hQ2
    go_wp2_with fail
    exact ⟨TW.rf _, s, rfl, hs⟩
  try simp only [List.nil_append, List.cons_append]
  refine LexI.some (fun v _ => ∃ s, v = vSg s ∧ G s) (pure_st) (fun n' ys w' hn' hT hd => ?_) ?_
  · try simp [DepsOf, depsGo, DF.holds, Region.binds, EqF] at hd
    try simp only [hd]
    obtain ⟨s, h147, hs⟩ := hd
    simp only [h147]
    intro Q2 hQ2
    go_wp2_with fail
    exact ⟨TW.rf _, s, rfl, hs⟩
  try simp only [List.nil_append, List.cons_append]
  refine LexI.some (EqF (.int .i64 0)) (EqF.st) (fun n' ys w' hn' hT hd => ?_) ?_
  · try simp [DepsOf, depsGo, DF.holds, Region.binds, EqF] at hd
    try simp only [hd]
    obtain ⟨s, h147, hs⟩ := hd
    simp only [h147]
    intro Q2 hQ2
    go_wp2_with fail
    exact ⟨TW.rf _, rfl⟩
  try simp only [List.nil_append, List.cons_append]
  refine LexI.some (PzW H W.heap.size Z (SgOf G)) (PzW.st) (fun n' ys w' hn' hT hd => ?_) ?_
  · try simp [DepsOf, depsGo, DF.holds, Region.binds, EqF] at hd
    try simp only [hd]
    have hbw := (HC.out n' w' hT).1.size
    have HP := Lib.hid (PzW.new (H := H) (z := Z) (G := SgOf G) w' hbw hHW)
    rw [HZ.out] at HP ⊢
    clear hT hbw
    intro Q2 hQ2
    go_wp2_with fail
    exact HP.out
  try simp only [List.nil_append, List.cons_append]
  refine LexI.ref 19 (PtW H W.heap.size Z (SgOf G)) (PtW.st) rfl rfl (fun n' ys w' hn' hT hd => ?_) ?_
  · try simp [DepsOf, depsGo, DF.holds, Region.binds, EqF] at hd
    try simp only [hd]
    obtain ⟨⟨k, h19, hBk, hkH, ho⟩, ⟨s, h155, hs⟩, -⟩ := hd
    simp only [h19, h155]
    obtain ⟨s', hs', hos⟩ : ∃ s', w'.heap[k]? = some (sgObj s') ∧ (sgObj s' = sgObj ⟨0, false, false, 0, 0⟩ ∨ SgOf G (sgObj s')) := by
      rcases ho with ho | ⟨t, ⟨s', hs', rfl⟩, ho⟩
      · exact ⟨_, ho.trans (by rw [HZ.out]), .inl rfl⟩
      · exact ⟨s', ho, .inr ⟨s', hs', rfl⟩⟩
    unfold vSg
    obtain ⟨z0, z1, z2, z3, z4⟩ := blk5 hs'
    obtain ⟨f0, f1, f2, f3, f4⟩ := And.intro (frz hs' 0) (And.intro (frz hs' 1) (And.intro (frz hs' 2) (And.intro (frz hs' 3) (frz hs' 4))))
    have HS := Lib.hid (And.intro hs' hos)
    rw [HZ.out]
    clear hs' ho hos hT
    intro Q2 hQ2
    go_wp2_with fail
    exact sgOf_put hBk hkH hs ⟨s', HS.out⟩ hHW
  try simp only [List.nil_append, List.cons_append]
  repeat
    refine LexI.const TW.rf ?_
    apply Exists.intro
    refine ⟨fun n' ys w' hn' hT hd => ?_, ?_⟩
    · try simp [DepsOf, depsGo, DF.holds, Region.binds, EqF] at hd
      obtain ⟨_, y0, y1, hxl⟩ := HC.out n' w' hT
      intro Q2 hQ2
      go_wp2_with fail
      rfl
    try simp only [List.nil_append, List.cons_append]
  refine hK _ fun n' ys w' hn' hT hF => ?_
  simp only [AllF, DF.holds] at hF
  obtain ⟨-, -, -, -, -, -, -, -, -, -, -, ⟨k, h19, hBk, hkH, t, ⟨s, hs, rfl⟩, ho⟩, h20, -⟩ := hF
  rw [HG.out] at hs
  simp only [h19, h20]
  exact HQ _ _ _ _ _ _ _ _ _ _ k s w' hs.1 hs.2 hBk ho ((hT.dealt HH.out).mono (by omega))
end Go.Proofs.Ytgnjknihgjdedaa
namespace Go.Proofs.Ytgnjknihgjdedaa
open Go.RowKit
set_option linter.unusedVariables false
set_option linter.unusedSimpArgs false
set_option maxRecDepth 1000000
def FBr (W : World) (H N : Nat) (tn : Int) (l : List Mk) (S : List Int) (o i : Nat) (Z5 : Value) (w' : World) : Prop := ∃ ss os, OwnS w' W.heap.size Z5 ss ∧ ss.length = os.length ∧ FitL tn l ss os ∧ (∀ q : Nat, q < S.length → (cntI os (q : Int) : Int) = if q < o then S.getD q 0 else if q = o then (i : Int) else 0) ∧ ss.length ≤ 6 * o + i ∧ Dealt W w' H (N + 30000 * ss.length)
theorem FBr.start {W : World} {H N : Nat} {tn : Int} {l : List Mk} {S : List Int} (h : Hd W H N) : FBr W H N tn l S 0 0 (.slice none 0 0) W :=
  ⟨[], [], Own.nil_, rfl, (fun k s o h => by simp at h), (fun q _ => by by_cases h : q = 0 <;> simp [cntI, h]), by simp, (Dealt.refl h).mono (by omega)⟩
theorem FBr.next {W : World} {H N : Nat} {tn : Int} {l : List Mk} {S : List Int} {o i : Nat} {v : Value} {w' : World} (h : FBr W H N tn l S o i v w') (ho : o < S.length) (hi : S.getD o 0 = (i : Int)) (hi6 : i ≤ 6) : FBr W H N tn l S (o + 1) 0 v w' := by
  obtain ⟨ss, os, h1, h2, h3, h4, h5, h6⟩ := h
  refine ⟨ss, os, h1, h2, h3, fun q hq => ?_, by omega, h6⟩
  rw [h4 q hq]
  by_cases a : q < o
  · rw [if_pos a, if_pos (by omega)]
  · by_cases b : q = o
    · subst b
      rw [if_neg a, if_pos rfl, if_pos (by omega), hi]
    · rw [if_neg a, if_neg b, if_neg (by omega)]
      simp
noncomputable def lpF2 : Code := ((Try.f3.body.bind (findBlk 2)).getD .skip)
def RgFQL2 (W : World) (H x N nS cS tn : Nat) (AS : Option Addr) (l : List Mk) (S : List Int) (v0 v1 v2 v4 v5 v6 v7 v8 v9 Z0 Z1 Z2 Z3 Z6 Z7 Z8 Z9 ZA ZB ZC ZD ZE ZF ZG ZH ZI ZJ ZK ZL ZM ZN ZO ZP ZQ ZR ZS ZT ZU ZV ZW ZX ZY ZZ Za Zb Zc Zd Ze Zf Zg Zh Zi Zj Zk Zl Zm Zn Zo Zp Zq Zr Zs Zt Zu Zv Zw Zx Zy Zz Y0 Y1 Y2 Y3 Y4 Y5 Y6 Y7 Y8 Y9 YA YB YC YD YE YF YG YH YI YJ YK YL YM YN YO YP YQ YR YS YT YU YV YW YX YY YZ Ya Yb Yc Yd Ye Yf Yg Yh Yi Yj Yk Yl Ym Yn Yo Yp Yq Yr Ys Yt Yu Yv Yw Yx Yy Yz X0 X1 X2 X3 X4 X5 X6 X7 X8 X9 XA XB XC XD XE XF XG XH XI XJ XK XL XM XN XO XP XQ XR XS XT XU XV XW XX XY XZ Xa Xb Xc Xd Xe Xf Xg Xh Xi Xj Xk Xl Xm Xn Xo Xp Xq Xr Xs Xt Xu Xv Xw Xx Xy Xz K0 K1 K2 K3 K4 K5 K6 K7 K8 K9 KA KB KC KD KE KF KG KH KI KJ KK KL KM KN KO KP KQ KR KS KT KU KV KW KX KY KZ Ka Kb Kc Kd Ke Kf Kg Kh Ki Kj Kk Kl Km Kn Ko Kp Kq Kr Ks Kt Ku Kv Kw Kx Ky Kz J0 J1 J2 J3 J4 J5 J6 J7 J8 J9 JA JB JC JD JE JF JG JH JI JJ JK JL JM JN JO JP JQ JR JS JT JU JV JW JX JY JZ Ja Jb : Value) (Q : Exit → Act → World → Prop) : Prop := ∀ (x2 Jm Jn Jo Jp Jq Jr Js Jt Ju Jv Jw Jx Jy Jz G0 G1 G2 G3 G4 G5 G6 G7 Jc Jd Je Jf Jg Jh Ji Jj Jk Jl G8 G9 GA GB GC GD : Value) (w' : World), FBr W H N tn l S nS 0 Jm w' → Q .normal ⟨#[v0, v1, x2, (Value.pointer (some ⟨H, 0, none⟩)), v4, v5, v6, v7, v8, v9, Z0, Z1, (Value.pointer (some ⟨x, 0, none⟩)), Z2, Z3, (Value.slice AS nS cS), Jm, (Value.int .i64 (nS : Int)), Jn, Jo, Jp, Z9, ZA, ZB, ZC, ZD, ZE, ZF, ZG, ZH, ZI, ZJ, ZK, ZL, ZM, ZN, ZO, ZP, ZQ, ZR, ZS, ZT, ZU, ZV, ZW, ZX, ZY, ZZ, Za, Zb, Zc, Zd, Ze, Zf, Zg, Zh, Zi, Zj, Zk, Zl, Zm, Zn, Zo, Zp, Zq, Zr, Zs, Zt, Zu, Zv, Zw, Zx, Zy, Zz, Y0, Y1, Y2, Y3, Y4, Y5, Y6, Y7, Y8, Y9, YA, YB, YC, YD, YE, YF, YG, YH, YI, YJ, YK, YL, YM, YN, YO, YP, YQ, YR, YS, YT, YU, YV, YW, YX, YY, YZ, Ya, Yb, Yc, Yd, Ye, Yf, Yg, Yh, Yi, Yj, Yk, Yl, Ym, Yn, Yo, Yp, Yq, Yr, Ys, Jq, Jr, Js, Jt, Ju, Jv, Jw, Jx, Jy, Jz, G0, G1, G2, G3, G4, G5, G6, G7, Jc, Jd, Je, Jf, Jg, Jh, Ji, Jj, Jk, Jl, G8, G9, GA, GB, GC, GD, XR, XS, XT, XU, XV, XW, XX, XY, XZ, Xa, Xb, Xc, Xd, Xe, Xf, Xg, Xh, Xi, Xj, Xk, Xl, Xm, Xn, Xo, Xp, Xq, Xr, Xs, Xt, Xu, Xv, Xw, Xx, Xy, Xz, K0, K1, K2, K3, K4, K5, K6, K7, K8, K9, KA, KB, KC, KD, KE, KF, KG, KH, KI, KJ, KK, KL, KM, KN, KO, KP, KQ, KR, KS, KT, KU, KV, KW, KX, KY, KZ, Ka, Kb, Kc, Kd, Ke, Kf, Kg, Kh, Ki, Kj, Kk, Kl, Km, Kn, Ko, Kp, Kq, Kr, Ks, Kt, Ku, Kv, Kw, Kx, Ky, Kz, J0, J1, J2, J3, J4, J5, J6, J7, J8, J9, JA, JB, JC, JD, JE, JF, JG, JH, JI, JJ, JK, JL, JM, JN, JO, JP, JQ, JR, JS, JT, JU, JV, JW, JX, JY, JZ, Ja, Jb], []⟩ w'
set_option maxHeartbeats 8000000 in
theorem fold_loop (W : World) (H x N tn : Nat) (A1 : Option Addr) (n1 c1 : Nat) (l : List Mk) (AS : Option Addr) (nS cS : Nat) (S : List Int) (v0 v1 v2 v4 v5 v6 v7 v8 v9 Z0 Z1 Z2 Z3 Z6 Z7 Z8 Z9 ZA ZB ZC ZD ZE ZF ZG ZH ZI ZJ ZK ZL ZM ZN ZO ZP ZQ ZR ZS ZT ZU ZV ZW ZX ZY ZZ Za Zb Zc Zd Ze Zf Zg Zh Zi Zj Zk Zl Zm Zn Zo Zp Zq Zr Zs Zt Zu Zv Zw Zx Zy Zz Y0 Y1 Y2 Y3 Y4 Y5 Y6 Y7 Y8 Y9 YA YB YC YD YE YF YG YH YI YJ YK YL YM YN YO YP YQ YR YS YT YU YV YW YX YY YZ Ya Yb Yc Yd Ye Yf Yg Yh Yi Yj Yk Yl Ym Yn Yo Yp Yq Yr Ys Yt Yu Yv Yw Yx Yy Yz X0 X1 X2 X3 X4 X5 X6 X7 X8 X9 XA XB XC XD XE XF XG XH XI XJ XK XL XM XN XO XP XQ XR XS XT XU XV XW XX XY XZ Xa Xb Xc Xd Xe Xf Xg Xh Xi Xj Xk Xl Xm Xn Xo Xp Xq Xr Xs Xt Xu Xv Xw Xx Xy Xz K0 K1 K2 K3 K4 K5 K6 K7 K8 K9 KA KB KC KD KE KF KG KH KI KJ KK KL KM KN KO KP KQ KR KS KT KU KV KW KX KY KZ Ka Kb Kc Kd Ke Kf Kg Kh Ki Kj Kk Kl Km Kn Ko Kp Kq Kr Ks Kt Ku Kv Kw Kx Ky Kz J0 J1 J2 J3 J4 J5 J6 J7 J8 J9 JA JB JC JD JE JF JG JH JI JJ JK JL JM JN JO JP JQ JR JS JT JU JV JW JX JY JZ Ja Jb : Value) (Q : Exit → Act → World → Prop)
    (HB : Hid (W.heap[x]? = some (rgO (tn : Int) A1 n1 c1))) (HH : Hid (Hd W H N)) (hN : N ≤ 4611686017000000000) (HM : Hid (Marks W A1 n1 l ∧ n1 ≤ c1 ∧ c1 ≤ maxLen ∧ check (tn : Int) l = 0 ∧ l.length = nS)) (hnS : nS ≤ 5) (hHx : x ≠ H) (hA : Hid (OffH A1 H)) (htn : tn ≤ 100)
    (HS : Hid (Ints W AS nS S ∧ OffH AS H ∧ ∀ y ∈ S, 0 ≤ y ∧ y ≤ 5))
    (HQ : RgFQL2 W H x N nS cS tn AS l S v0 v1 v2 v4 v5 v6 v7 v8 v9 Z0 Z1 Z2 Z3 Z6 Z7 Z8 Z9 ZA ZB ZC ZD ZE ZF ZG ZH ZI ZJ ZK ZL ZM ZN ZO ZP ZQ ZR ZS ZT ZU ZV ZW ZX ZY ZZ Za Zb Zc Zd Ze Zf Zg Zh Zi Zj Zk Zl Zm Zn Zo Zp Zq Zr Zs Zt Zu Zv Zw Zx Zy Zz Y0 Y1 Y2 Y3 Y4 Y5 Y6 Y7 Y8 Y9 YA YB YC YD YE YF YG YH YI YJ YK YL YM YN YO YP YQ YR YS YT YU YV YW YX YY YZ Ya Yb Yc Yd Ye Yf Yg Yh Yi Yj Yk Yl Ym Yn Yo Yp Yq Yr Ys Yt Yu Yv Yw Yx Yy Yz X0 X1 X2 X3 X4 X5 X6 X7 X8 X9 XA XB XC XD XE XF XG XH XI XJ XK XL XM XN XO XP XQ XR XS XT XU XV XW XX XY XZ Xa Xb Xc Xd Xe Xf Xg Xh Xi Xj Xk Xl Xm Xn Xo Xp Xq Xr Xs Xt Xu Xv Xw Xx Xy Xz K0 K1 K2 K3 K4 K5 K6 K7 K8 K9 KA KB KC KD KE KF KG KH KI KJ KK KL KM KN KO KP KQ KR KS KT KU KV KW KX KY KZ Ka Kb Kc Kd Ke Kf Kg Kh Ki Kj Kk Kl Km Kn Ko Kp Kq Kr Ks Kt Ku Kv Kw Kx Ky Kz J0 J1 J2 J3 J4 J5 J6 J7 J8 J9 JA JB JC JD JE JF JG JH JI JJ JK JL JM JN JO JP JQ JR JS JT JU JV JW JX JY JZ Ja Jb Q) :
    Code.wp Try.prog lpF2 Q ⟨#[v0, v1, v2, (Value.pointer (some ⟨H, 0, none⟩)), v4, v5, v6, v7, v8, v9, Z0, Z1, (Value.pointer (some ⟨x, 0, none⟩)), Z2, Z3, (Value.slice AS nS cS), (Value.slice none 0 0), (Value.int .i64 0), Z6, Z7, Z8, Z9, ZA, ZB, ZC, ZD, ZE, ZF, ZG, ZH, ZI, ZJ, ZK, ZL, ZM, ZN, ZO, ZP, ZQ, ZR, ZS, ZT, ZU, ZV, ZW, ZX, ZY, ZZ, Za, Zb, Zc, Zd, Ze, Zf, Zg, Zh, Zi, Zj, Zk, Zl, Zm, Zn, Zo, Zp, Zq, Zr, Zs, Zt, Zu, Zv, Zw, Zx, Zy, Zz, Y0, Y1, Y2, Y3, Y4, Y5, Y6, Y7, Y8, Y9, YA, YB, YC, YD, YE, YF, YG, YH, YI, YJ, YK, YL, YM, YN, YO, YP, YQ, YR, YS, YT, YU, YV, YW, YX, YY, YZ, Ya, Yb, Yc, Yd, Ye, Yf, Yg, Yh, Yi, Yj, Yk, Yl, Ym, Yn, Yo, Yp, Yq, Yr, Ys, Yt, Yu, Yv, Yw, Yx, Yy, Yz, X0, X1, X2, X3, X4, X5, X6, X7, X8, X9, XA, XB, XC, XD, XE, XF, XG, XH, XI, XJ, XK, XL, XM, XN, XO, XP, XQ, XR, XS, XT, XU, XV, XW, XX, XY, XZ, Xa, Xb, Xc, Xd, Xe, Xf, Xg, Xh, Xi, Xj, Xk, Xl, Xm, Xn, Xo, Xp, Xq, Xr, Xs, Xt, Xu, Xv, Xw, Xx, Xy, Xz, K0, K1, K2, K3, K4, K5, K6, K7, K8, K9, KA, KB, KC, KD, KE, KF, KG, KH, KI, KJ, KK, KL, KM, KN, KO, KP, KQ, KR, KS, KT, KU, KV, KW, KX, KY, KZ, Ka, Kb, Kc, Kd, Ke, Kf, Kg, Kh, Ki, Kj, Kk, Kl, Km, Kn, Ko, Kp, Kq, Kr, Ks, Kt, Ku, Kv, Kw, Kx, Ky, Kz, J0, J1, J2, J3, J4, J5, J6, J7, J8, J9, JA, JB, JC, JD, JE, JF, JG, JH, JI, JJ, JK, JL, JM, JN, JO, JP, JQ, JR, JS, JT, JU, JV, JW, JX, JY, JZ, Ja, Jb], []⟩ W := by
  dsimp only
  conv => arg 2; whnf
  go_upto_region 26 with (fail)
  go_loopg [16, 17] nS (fun gg Z5 GE wr => ∃ o : Nat, o + gg = nS ∧ GE = .int .i64 (o : Int) ∧ FBr W H N tn l S o 0 Z5 wr)
  case atStart => exact ⟨0, by omega, rfl, FBr.start HH.out⟩
  case round =>
    obtain ⟨o, ho, rfl, hfb⟩ := hrel
    have HF := Lib.hid hfb
    clear hfb
    by_cases hlt : o < nS
    · have hlt' : (o : Int) < (nS : Int) := by omega
      have hSl := HS.out.1.len
      obtain ⟨bS, oS, y, hAS, -, hy, cy0⟩ := Ints.get HS.out.1 hlt
      obtain ⟨i0, hi0⟩ := Int.eq_ofNat_of_zero_le (HS.out.2.2 y (List.mem_of_getElem? hy)).1
      have hi5 : i0 ≤ 5 := by have := (HS.out.2.2 y (List.mem_of_getElem? hy)).2; omega
      subst hi0
      have hyo : S.getD o 0 = (i0 : Int) := by rw [List.getD_eq_getElem?_getD, hy]; rfl
      have hbS : bS ≠ H := HS.out.2.1 bS oS hAS
      subst hAS
      have HY := Lib.hid (And.intro hyo (And.intro cy0 hSl))
      have HLT := Lib.hid (And.intro ho hlt')
      clear hyo cy0 hSl hy
      obtain ⟨wo, hwo⟩ : ∃ wo, wo = wr := ⟨_, rfl⟩
      obtain ⟨go, hgo⟩ : ∃ go, go = gk := ⟨_, rfl⟩
      rw [← hwo] at HF ⊢
      rw [← hgo] at HLT
      clear hwo hgo
      have hoS : (0 : Int) ≤ (o : Int) := by omega
      go_wp2_with fail
      go_loopg [16, 18] i0 (fun gg Z5 Z6 wq => ∃ i : Nat, i + gg = i0 ∧ Z6 = .int .i64 (i : Int) ∧ FBr W H N tn l S o i Z5 wq)
      case atStart => exact ⟨0, by omega, rfl, HF.out⟩
      case round =>
        obtain ⟨i, hi, rfl, ss, os, h1, h2, h3, h4, h5, h6⟩ := hrel
        have hss : ss.length ≤ 40 := by omega
        have cy := h6.cell HY.out.2.1 hbS
        have hbSl := cell_lt cy
        have HK := Lib.hid (And.intro hi (And.intro h1 (And.intro h2 (And.intro h3 (And.intro h4 (And.intro h5 h6))))))
        clear h1 h2 h3 h4 h5 h6
        by_cases hil : i < i0
        · have hil' : (i : Int) < (i0 : Int) := by omega
          have hi6 : (i : Int) < 6 := by omega
          have hb1 := (HK.out.2.2.2.2.2.2).blk HB.out hHx
          obtain ⟨m, hm⟩ : ∃ m, l[o]? = some m := ⟨_, List.getElem?_eq_getElem (by have := HM.out.2.2.2.2; omega)⟩
          have HM2 := Lib.hid (And.intro (HM.out.1.dealt HK.out.2.2.2.2.2.2 hA.out) (And.intro HM.out.2.1 (And.intro HM.out.2.2.1 (And.intro HM.out.2.2.2.1 hm))))
          have HB1 := Lib.hid hb1
          have HMo := Lib.hid hm
          clear hb1 hm
          go_upto_region 31 with (fail)
          refine fold_show wr H x (N + 30000 * ss.length) o tn A1 n1 c1 l m _ _ _ _ _ _ _ _ _ _ _ _ _ _ _ _ _ _ _ _ _ _ _ _ _ _ _ _ _ _ _ _ _ _ _ _ _ _ _ _ _ _ _ _ _ _ _ _ _ _ _ _ _ _ _ _ _ _ _ _ _ _ _ _ _ _ _ _ _ _ _ _ _ _ _ _ _ _ _ _ _ _ _ _ _ _ _ _ _ _ _ _ _ _ _ _ _ _ _ _ _ _ _ _ _ _ _ _ _ _ _ _ _ _ _ _ _ _ _ _ _ _ _ _ _ _ _ _ _ _ _ _ _ _ _ _ _ _ _ _ _ _ _ _ _ _ _ _ _ _ _ _ _ _ _ _ _ _ _ _ _ _ _ _ _ _ _ _ _ _ _ _ _ _ _ _ _ _ _ _ _ _ _ _ _ _ _ _ _ _ _ _ _ _ _ _ _ _ _ _ _ _ _ _ _ _ _ _ _ _ _ _ _ _ _ _ _ _ _ _ _ _ _ _ _ _ _ _ _ _ _ _ _ _ _ _ _ _ _ _ _ _ _ _ _ _ _ _ _ _ _ _ _ _ _ _ _ _ _ _ _ _ _ _ _ _ _ _ _ _ _ _ _ _ _ _ _ _ _ _ _ _ _ _ _ _ _ _ _ _ _ _ _ _ _ _ HB1 (Lib.hid HK.out.2.2.2.2.2.2.hd) (by omega) HM2 hHx hA htn ?_
          intro Jc Jd Je Jf Jg Jh Ji Jj Jk Jl k s w4 hs hf hk hb hd
          obtain ⟨z0, z1, z2, z3, z4⟩ := blk5 hb
          have hkl := heap_lt hb
          have ho4 := HK.out.2.1.kept hd.gr (.inr (HK.out.2.1.nb (show H < W.heap.size from HH.out.lt)))
          have hb4 : W.heap.size ≤ w4.heap.size := by have := HK.out.2.2.2.2.2.2.size; have := hd.size; omega
          have HX := Lib.hid (And.intro ho4 (And.intro hd (And.intro hs hf)))
          have hss4 : ss.length < 4294967296 := by omega
          clear ho4 hd hs hf hb
          go_wp2_with (first
            | (at_builtin; refine wp_appL okSight rfl _ _ rfl W.heap.size u16 ss s #[.int .i64 s.n, .bool s.l, .bool s.r, .int .i64 s.b, .int .i64 s.p] w4.heap.size rfl rfl (alloc_at rfl) rfl rfl (one_eSg _) (HX.out.1.alloc _) hss4 (by decide) (by simp; omega) ?_; intro g7 c7 w7 ho7 hgr7 hl7; have HZ := Lib.hid (And.intro ho7 hgr7); clear ho7 hgr7 hl7)
            | fail)
          go_roundg (gk - 1)
          case measure => omega
          case rel =>
            obtain ⟨-, h1, h2, h3, h4, h5, h6⟩ := HK.out
            refine ⟨i + 1, by omega, by go_num, ss ++ [s], os ++ [(o : Int)], HZ.out.1, by simp [h2], FitL.snoc h3 h2 HX.out.2.2.1 HMo.out HX.out.2.2.2, fun q hq => ?_, by simp; omega, ?_⟩
            · rw [cntI_snoc]
              have h := h4 q hq
              by_cases a : q < o
              · rw [if_pos a] at h ⊢; rw [if_neg (by omega)]; omega
              · by_cases b : q = o
                · subst b
                  rw [if_neg a, if_pos rfl] at h
                  rw [if_neg a, if_pos rfl, if_pos rfl]; omega
                · rw [if_neg a, if_neg b] at h
                  rw [if_neg a, if_neg b, if_neg (by omega)]; omega
            · have hd7 := ((h6.trans HX.out.2.1).alloc (.cells #[.int .i64 s.n, .bool s.l, .bool s.r, .int .i64 s.b, .int .i64 s.p] 52)).ownG HZ.out.2 fun k e => by
                have := (h1.lt k e).1
                have := HH.out.lt
                exact ⟨by omega, by omega⟩
              exact hd7.mono (by simp; omega)
        · obtain rfl : i = i0 := by omega
          have hnl : ¬ (i : Int) < (i : Int) := by omega
          go_wp2_with fail
          go_roundg (go - 1)
          case measure => have := HLT.out.1; omega
          case rel =>
            obtain ⟨-, h1, h2, h3, h4, h5, h6⟩ := HK.out
            exact ⟨o + 1, by have := HLT.out.1; omega, by go_num, FBr.next ⟨ss, os, h1, h2, h3, h4, h5, h6⟩ (by have := HY.out.2.2; omega) HY.out.1 (by omega)⟩
    · obtain rfl : o = nS := by omega
      have hnl : ¬ (o : Int) < (o : Int) := by omega
      go_wp2_with fail
      exact HQ _ _ _ _ _ _ _ _ _ _ _ _ _ _ _ _ _ _ _ _ _ _ _ _ _ _ _ _ _ _ _ _ _ _ _ _ _ _ _ _ HF.out
end Go.Proofs.Ytgnjknihgjdedaa
