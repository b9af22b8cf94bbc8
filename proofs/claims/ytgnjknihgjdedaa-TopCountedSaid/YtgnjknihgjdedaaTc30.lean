/- TopCounted 30: TcK, TcC. -/
import Derived.Test.YtgnjknihgjdedaaTc26
import Derived.Test.YtgnjknihgjdedaaTc29
import Derived.Test.YtgnjknihgjdedaaTc13
import Derived.Test.YtgnjknihgjdedaaTc20
namespace Go.Proofs.Ytgnjknihgjdedaa
open Go.RowKit
set_option linter.unusedVariables false
set_option linter.unusedSimpArgs false
set_option maxRecDepth 1000000
theorem tyO_in {w : World} {B : Nat} {T : Ty} {p : Tp} (h : TyO w B T p) : TyIn w T p := by
  obtain ⟨a1, a2, a3⟩ := Own.sl h.1 lenSp
  obtain ⟨b1, b2, b3⟩ := Own.sl h.2 lenCt
  exact ⟨a1, a2, a3, b1, b2, b3⟩
theorem tyO_off {w : World} {B H : Nat} {T : Ty} {p : Tp} (h : TyO w B T p) (hH : H < B) : OffH p.A H ∧ OffH p.B H :=
  ⟨fun b off e => by have := (h.1.lt b (by rw [e]; rfl)).1; omega, fun b off e => by have := (h.2.lt b (by rw [e]; rfl)).1; omega⟩
theorem tyO_up {w w' : World} {B : Nat} {T : Ty} {p : Tp} (h : TyO w B T p) (hw : ∀ j, B ≤ j → j < w.heap.size → (∀ cs, w.heap[j]? ≠ some (.cells cs 30 (0, 0))) → w'.heap[j]? = w.heap[j]?) : TyO w' B T p := by
  refine ⟨⟨h.1.1, ?_⟩, ⟨h.2.1, ?_⟩⟩
  · rcases h.1.2 with hh | ⟨g, cap, cur, hv, hb, hg, r⟩
    · exact .inl hh
    · refine .inr ⟨g, cap, cur, hv, hb, (hw g hb (heap_lt hg) fun cs e => ?_).trans hg, r⟩
      rw [hg] at e; injection e with e; injection e with _ e _; exact absurd e (by decide)
  · rcases h.2.2 with hh | ⟨g, cap, cur, hv, hb, hg, r⟩
    · exact .inl hh
    · refine .inr ⟨g, cap, cur, hv, hb, (hw g hb (heap_lt hg) fun cs e => ?_).trans hg, r⟩
      rw [hg] at e; injection e with e; injection e with _ e _; exact absurd e (by decide)
theorem ownI_up {w w' : World} {B : Nat} {v : Value} {l : List Int} (h : OwnI w B v l) (hw : ∀ j, B ≤ j → j < w.heap.size → (∀ cs, w.heap[j]? ≠ some (.cells cs 30 (0, 0))) → w'.heap[j]? = w.heap[j]?) : OwnI w' B v l := by
  refine ⟨h.1, ?_⟩
  rcases h.2 with hh | ⟨g, cap, cur, hv, hb, hg, r⟩
  · exact .inl hh
  · refine .inr ⟨g, cap, cur, hv, hb, (hw g hb (heap_lt hg) fun cs e => ?_).trans hg, r⟩
    rw [hg] at e; injection e with e; injection e with _ e _; exact absurd e (by decide)
def EK (H p6 p17 : Nat) (j : Nat) : Prop := j = H ∨ j = p6 ∨ j = p17
structure TcK (W : World) (H B p5 p6 p17 : Nat) (X : Hb) (T U : Ty) (p pl : Tp) (ls ns : List Int) (V7 V8 : Value) (N : Nat) (w' : World) : Prop where
  hd : Hd w' H N
  ge : GE (EK H p6 p17) W w'
  lt : H < B ∧ H < p5 ∧ p5 < p6 ∧ p6 < B ∧ p6 < p17
  bz : B ≤ w'.heap.size
  b5 : w'.heap[p5]? = some X.obj
  b6 : w'.heap[p6]? = some (tyO T p)
  b17 : w'.heap[p17]? = some (tyO U pl)
  oT : TyO w' B T p
  oU : TyO w' B U pl
  o7 : OwnI w' B V7 ls
  o8 : OwnI w' B V8 ns
  st : StE (EK H p6 p17) w' (fun w => HbIn w X)
section
variable {W w' w'' : World} {H B p5 p6 p17 : Nat} {X : Hb} {T U T' U' : Ty} {p pl p' pl' : Tp} {ls ns : List Int} {V7 V8 : Value} {N M : Nat}
theorem TcK.mono (h : TcK W H B p5 p6 p17 X T U p pl ls ns V7 V8 N w') (hM : N ≤ M) : TcK W H B p5 p6 p17 X T U p pl ls ns V7 V8 M w' := ⟨h.hd.mono hM, h.ge, h.lt, h.bz, h.b5, h.b6, h.b17, h.oT, h.oU, h.o7, h.o8, h.st⟩
theorem TcK.deal (h : TcK W H B p5 p6 p17 X T U p pl ls ns V7 V8 N w') (hd : Dealt w' w'' H M) : TcK W H B p5 p6 p17 X T U p pl ls ns V7 V8 M w'' := by
  obtain ⟨l1, l2, l3, l4, l5⟩ := h.lt
  have hw : ∀ j, B ≤ j → j < w'.heap.size → (∀ cs, w'.heap[j]? ≠ some (.cells cs 30 (0, 0))) → w''.heap[j]? = w'.heap[j]? := fun j h1 h2 _ => hd.gr.block j h2 (fun e => by injection e with e; omega)
  exact ⟨hd.hd, h.ge.tr (GE.of hd.gr fun k e _ => .inl (by injection e with e; exact e.symm)), h.lt, Nat.le_trans h.bz hd.size, hd.blk h.b5 (by omega), hd.blk h.b6 (by omega), hd.blk h.b17 (by omega), tyO_up h.oT hw, tyO_up h.oU hw, ownI_up h.o7 hw, ownI_up h.o8 hw,
    h.st.step hd.size (fun j hj he => hd.gr.block j hj (fun e => he (.inl (by injection e)))) fun j _ e => e⟩
theorem TcK.put (h : TcK W H B p5 p6 p17 X T U p pl ls ns V7 V8 N w') (h6 : w''.heap[p6]? = some (tyO T' p')) (h17 : w''.heap[p17]? = some (tyO U' pl')) (hg : GE (fun j => j = p6 ∨ j = p17) w' w'') (oT : TyO w' B T' p') (oU : TyO w' B U' pl') : TcK W H B p5 p6 p17 X T' U' p' pl' ls ns V7 V8 N w'' := by
  obtain ⟨l1, l2, l3, l4, l5⟩ := h.lt
  have hw : ∀ j, B ≤ j → j < w'.heap.size → (∀ cs, w'.heap[j]? ≠ some (.cells cs 30 (0, 0))) → w''.heap[j]? = w'.heap[j]? := fun j h1 h2 hn => hg.blk j h2 (fun e => by
    rcases e with e | e
    · omega
    · exact hn _ ((congrArg (fun k => w'.heap[k]?) e).trans h.b17))
  exact ⟨h.hd.kept fun j hj => hg.blk j (by have := h.hd.lt; omega) (fun e => by omega), h.ge.tr (hg.mono fun j _ e => .inr e), h.lt, Nat.le_trans h.bz hg.size, (hg.blk p5 (heap_lt h.b5) (fun e => by omega)).trans h.b5, h6, h17, tyO_up oT hw, tyO_up oU hw, ownI_up h.o7 hw, ownI_up h.o8 hw,
    h.st.step hg.size (fun j hj he => hg.blk j hj (fun e => he (.inr e))) fun j _ e => e⟩
end
def exC (ns : List Int) (j : Nat) : List Ct := (List.range j).map fun (g : Nat) => (⟨(g : Int), 1, ns.getD g 0, 0⟩ : Ct)
theorem exC_succ (ns : List Int) (j : Nat) : exC ns (j + 1) = exC ns j ++ [⟨(j : Int), 1, ns.getD j 0, 0⟩] := by unfold exC; rw [List.range_succ, List.map_append]; rfl
theorem exC_len (ns : List Int) (j : Nat) : (exC ns j).length = j := by simp [exC]
def CtP (G : Int) (ns : List Int) (c : Ct) : Prop := CtOk G c ∧ (readsS c).has (ns.getD c.g.toNat 0)
theorem exC_ok {a : Int} {ch ns ls : List Int} (h : TcL a ch ns ls) {g : Nat} (hg : g < ns.length) : CtP ((ch.length : Int) + 1) ns ⟨(g : Int), 1, ns.getD g 0, 0⟩ := by
  have hn := h.n
  have hb := h.b g (by omega)
  have h4 := h.c4
  refine ⟨⟨⟨by dsimp only; omega, by dsimp only; omega⟩, ⟨by dsimp only; omega, by dsimp only; omega⟩, ⟨hb.1, by dsimp only; omega⟩, ⟨by dsimp only; omega, by dsimp only; omega⟩⟩, ?_⟩
  show (readsS _).has (ns.getD ((g : Int).toNat) 0)
  rw [reads_one hb.1, Int.toNat_natCast]
  exact ⟨Int.le_refl _, Int.le_refl _⟩
theorem exC_all {a : Int} {ch ns ls : List Int} (h : TcL a ch ns ls) {j : Nat} (hj : j ≤ ns.length) : ∀ c ∈ exC ns j, CtP ((ch.length : Int) + 1) ns c := fun c hc => by
  obtain ⟨g, hg, rfl⟩ := List.mem_map.1 hc
  exact exC_ok h (by have := List.mem_range.1 hg; omega)
theorem loose_ok {a : Int} {ch ns ls : List Int} (h : TcL a ch ns ls) {g : Nat} (hg : g < ns.length) {er : Int} (he : 0 ≤ er ∧ er ≤ 20) : ∀ c, CtL g er (ns.getD g 0) ((er * ns.getD g 0).tdiv 100) c → CtOk ((ch.length : Int) + 1) c ∧ CtP ((ch.length : Int) + 1) ns c := fun c hc => by
  obtain ⟨v, hv1, hv2, rfl⟩ := hc
  have hn := h.n
  have hb := h.b g (by omega)
  have h4 := h.c4
  obtain ⟨y, hy⟩ : ∃ y, y = ns.getD g 0 := ⟨_, rfl⟩
  rw [← hy] at hv1 hv2 hb ⊢
  have hm0 : 0 ≤ er * y := Int.mul_nonneg he.1 hb.1
  have hm1 : er * y ≤ 20 * y := Int.mul_le_mul_of_nonneg_right he.2 hb.1
  have hd : (er * y).tdiv 100 = er * y / 100 := Int.tdiv_eq_ediv_of_nonneg hm0
  have hk : CtOk ((ch.length : Int) + 1) ⟨(g : Int), 2, y + v, er⟩ := by
    rw [hd] at hv1 hv2
    exact ⟨⟨by dsimp only; omega, by dsimp only; omega⟩, ⟨by dsimp only; omega, by dsimp only; omega⟩, ⟨by dsimp only; omega, by dsimp only; omega⟩, he⟩
  refine ⟨hk, hk, ?_⟩
  show (readsS _).has (ns.getD ((g : Int).toNat) 0)
  rw [Int.toNat_natCast, ← hy]
  exact ct_has hk hb.1 rfl hv1 hv2 rfl
def L2 (W : World) (H B p5 p6 p17 : Nat) (X : Hb) (a : Int) (ch ns ls : List Int) (V7 V8 : Value) (N j : Nat) (w' : World) : Prop := ∃ (p pl : Tp) (LC : List Ct), LC.length = j ∧ (∀ c ∈ LC, CtP ((ch.length : Int) + 1) ns c) ∧ TcK W H B p5 p6 p17 X (tcT a ch (exC ns j)) (tcT a ch LC) p pl ls ns V7 V8 (N + 60010 * j) w'
noncomputable def lpC2 : Code := ((Try.f4.body.bind (findBlk 3)).getD .skip)
def RgCL2 (W : World) (H B p5 p6 p17 n8 c8 : Nat) (A8 : Option Addr) (X : Hb) (a : Int) (ch ns ls : List Int) (V7 : Value) (N : Nat) (v0 v1 v2 v4 v5 v7 v9 Z0 Z1 Z2 Z3 Z4 Z5 Z6 Z7 Z8 Z9 ZA ZB ZC ZD ZE ZF ZG ZH ZI ZJ ZK ZL ZM ZN ZO ZP ZQ ZR ZS ZT ZU ZV ZW ZX ZY ZZ Za Zb Zc Zd Ze Zf Zg Zh Zi Zj Zk Zl Zm Zn Zo Zp Zq Zr Zs Zt Zu Zv Zw Zx Zy Zz Y0 Y1 Y2 Y3 Y4 Y5 Y6 Y7 Y8 Y9 YA YB YC YD YE YF YG YH YI YJ YK YL YM YN YO YP YQ YR YS YT YU YV YW YX YY YZ Ya Yb Yc Yd Ye Yf Yg Yh Yi Yj Yk Yl Ym Yn Yo Yp Yq Yr Ys Yt Yu Yv Yw Yx Yy Yz X0 X1 X2 X3 X4 X5 X6 X7 X8 X9 XA XB XC XD XE XF XG XH XI XJ XK XL XM XN XO XP XQ XR XS XT XU XV XW XX XY XZ Xa Xb Xc Xd Xe Xf Xg Xh Xi Xj Xk Xl Xm Xn Xo Xp Xq Xr Xs Xt Xu Xv Xw Xx Xy Xz K0 K1 K2 K3 K4 K5 K6 K7 K8 K9 KA KB KC KD KE KF KG KH KI KJ KK KL KM KN KO KP KQ KR KS KT KU KV KW KX KY KZ Ka Kb Kc Kd Ke Kf Kg Kh Ki Kj Kk Kl Km Kn Ko Kp Kq Kr Ks Kt Ku Kv Kw Kx Ky Kz J0 J1 J2 J3 J4 J5 J6 J7 J8 J9 JA JB JC JD JE JF JG JH JI JJ JK JL JM JN JO JP JQ JR JS JT JU JV JW JX JY JZ Ja Jb Jc Jd Je Jf Jg Jh Ji Jj Jk Jl Jm Jn Jo Jp Jq Jr Js Jt Ju Jv Jw : Value) (Q : Exit → Act → World → Prop) : Prop := ∀ (x2 Jx Jy Jz G0 G1 G2 G3 G4 G5 G6 G7 G8 G9 GA GB GC GD GF GG GH GI GJ GK GL GM GN GO GP GQ GR GS GT GU GV GW GX GY GZ Ga Gb Gc Gd Ge Gf Gg Gh Gi Gj Gk Gl Gm Gn Gp Gq Gr Gs Gt Gu Gv Gw Gx Gy Gz : Value) (w' : World), L2 W H B p5 p6 p17 X a ch ns ls V7 (.slice A8 n8 c8) N n8 w' → Q .normal ⟨#[v0, v1, x2, (Value.pointer (some ⟨H, 0, none⟩)), v4, v5, (Value.pointer (some ⟨p6, 0, none⟩)), v7, (Value.slice A8 n8 c8), v9, Z0, Z1, Z2, Z3, Z4, Z5, Z6, (Value.pointer (some ⟨p17, 0, none⟩)), (Value.int .i64 (n8 : Int)), Jx, Jy, Jz, G0, G1, ZC, ZD, ZE, ZF, ZG, ZH, ZI, ZJ, ZK, ZL, ZM, ZN, ZO, ZP, ZQ, ZR, ZS, ZT, ZU, ZV, ZW, ZX, ZY, ZZ, Za, Zb, Zc, Zd, Ze, Zf, Zg, Zh, Zi, Zj, Zk, Zl, Zm, Zn, Zo, Zp, Zq, Zr, Zs, Zt, Zu, Zv, Zw, Zx, Zy, Zz, Y0, Y1, Y2, Y3, Y4, Y5, Y6, Y7, Y8, Y9, YA, YB, YC, YD, YE, YF, YG, YH, YI, YJ, YK, YL, YM, YN, YO, YP, YQ, YR, YS, YT, YU, YV, YW, YX, YY, YZ, Ya, Yb, Yc, Yd, Ye, Yf, Yg, Yh, Yi, Yj, Yk, Yl, Ym, Yn, Yo, Yp, Yq, Yr, Ys, Yt, Yu, Yv, Yw, Yx, Yy, Yz, X0, X1, X2, X3, X4, X5, X6, X7, X8, X9, XA, XB, XC, XD, XE, XF, XG, G2, G3, G4, G5, G6, G7, G8, G9, GA, GB, GC, GD, GF, GG, GH, GI, GJ, GK, GL, GM, GN, GO, GP, GQ, GR, GS, GT, GU, GV, GW, GX, GY, GZ, Ga, Gb, Gc, Gd, Ge, Gf, Gg, Gh, Gi, Gj, Gk, Gl, Gm, Gn, Gp, Gq, Gr, Gs, Gt, Gu, Gv, Gw, Gx, Gy, Gz, KD, KE, KF, KG, KH, KI, KJ, KK, KL, KM, KN, KO, KP, KQ, KR, KS, KT, KU, KV, KW, KX, KY, KZ, Ka, Kb, Kc, Kd, Ke, Kf, Kg, Kh, Ki, Kj, Kk, Kl, Km, Kn, Ko, Kp, Kq, Kr, Ks, Kt, Ku, Kv, Kw, Kx, Ky, Kz, J0, J1, J2, J3, J4, J5, J6, J7, J8, J9, JA, JB, JC, JD, JE, JF, JG, JH, JI, JJ, JK, JL, JM, JN, JO, JP, JQ, JR, JS, JT, JU, JV, JW, JX, JY, JZ, Ja, Jb, Jc, Jd, Je, Jf, Jg, Jh, Ji, Jj, Jk, Jl, Jm, Jn, Jo, Jp, Jq, Jr, Js, Jt, Ju, Jv, Jw], []⟩ w'
set_option maxHeartbeats 8000000 in
theorem cnt_loop2 (W0 W : World) (H B p5 p6 p17 n8 c8 N : Nat) (A8 : Option Addr) (X : Hb) (a : Int) (ch ns ls : List Int) (V7 : Value) (v0 v1 v2 v4 v5 v7 v9 Z0 Z1 Z2 Z3 Z4 Z5 Z6 Z7 Z8 Z9 ZA ZB ZC ZD ZE ZF ZG ZH ZI ZJ ZK ZL ZM ZN ZO ZP ZQ ZR ZS ZT ZU ZV ZW ZX ZY ZZ Za Zb Zc Zd Ze Zf Zg Zh Zi Zj Zk Zl Zm Zn Zo Zp Zq Zr Zs Zt Zu Zv Zw Zx Zy Zz Y0 Y1 Y2 Y3 Y4 Y5 Y6 Y7 Y8 Y9 YA YB YC YD YE YF YG YH YI YJ YK YL YM YN YO YP YQ YR YS YT YU YV YW YX YY YZ Ya Yb Yc Yd Ye Yf Yg Yh Yi Yj Yk Yl Ym Yn Yo Yp Yq Yr Ys Yt Yu Yv Yw Yx Yy Yz X0 X1 X2 X3 X4 X5 X6 X7 X8 X9 XA XB XC XD XE XF XG XH XI XJ XK XL XM XN XO XP XQ XR XS XT XU XV XW XX XY XZ Xa Xb Xc Xd Xe Xf Xg Xh Xi Xj Xk Xl Xm Xn Xo Xp Xq Xr Xs Xt Xu Xv Xw Xx Xy Xz K0 K1 K2 K3 K4 K5 K6 K7 K8 K9 KA KB KC KD KE KF KG KH KI KJ KK KL KM KN KO KP KQ KR KS KT KU KV KW KX KY KZ Ka Kb Kc Kd Ke Kf Kg Kh Ki Kj Kk Kl Km Kn Ko Kp Kq Kr Ks Kt Ku Kv Kw Kx Ky Kz J0 J1 J2 J3 J4 J5 J6 J7 J8 J9 JA JB JC JD JE JF JG JH JI JJ JK JL JM JN JO JP JQ JR JS JT JU JV JW JX JY JZ Ja Jb Jc Jd Je Jf Jg Jh Ji Jj Jk Jl Jm Jn Jo Jp Jq Jr Js Jt Ju Jv Jw : Value) (Q : Exit → Act → World → Prop)
    (HS : Hid (L2 W0 H B p5 p6 p17 X a ch ns ls V7 (.slice A8 n8 c8) N 0 W)) (HL : Hid (TcL a ch ns ls ∧ ns.length = n8)) (hn : n8 ≤ 5) (hN : N ≤ 4611686017000000000)
    (HQ : RgCL2 W0 H B p5 p6 p17 n8 c8 A8 X a ch ns ls V7 N v0 v1 v2 v4 v5 v7 v9 Z0 Z1 Z2 Z3 Z4 Z5 Z6 Z7 Z8 Z9 ZA ZB ZC ZD ZE ZF ZG ZH ZI ZJ ZK ZL ZM ZN ZO ZP ZQ ZR ZS ZT ZU ZV ZW ZX ZY ZZ Za Zb Zc Zd Ze Zf Zg Zh Zi Zj Zk Zl Zm Zn Zo Zp Zq Zr Zs Zt Zu Zv Zw Zx Zy Zz Y0 Y1 Y2 Y3 Y4 Y5 Y6 Y7 Y8 Y9 YA YB YC YD YE YF YG YH YI YJ YK YL YM YN YO YP YQ YR YS YT YU YV YW YX YY YZ Ya Yb Yc Yd Ye Yf Yg Yh Yi Yj Yk Yl Ym Yn Yo Yp Yq Yr Ys Yt Yu Yv Yw Yx Yy Yz X0 X1 X2 X3 X4 X5 X6 X7 X8 X9 XA XB XC XD XE XF XG XH XI XJ XK XL XM XN XO XP XQ XR XS XT XU XV XW XX XY XZ Xa Xb Xc Xd Xe Xf Xg Xh Xi Xj Xk Xl Xm Xn Xo Xp Xq Xr Xs Xt Xu Xv Xw Xx Xy Xz K0 K1 K2 K3 K4 K5 K6 K7 K8 K9 KA KB KC KD KE KF KG KH KI KJ KK KL KM KN KO KP KQ KR KS KT KU KV KW KX KY KZ Ka Kb Kc Kd Ke Kf Kg Kh Ki Kj Kk Kl Km Kn Ko Kp Kq Kr Ks Kt Ku Kv Kw Kx Ky Kz J0 J1 J2 J3 J4 J5 J6 J7 J8 J9 JA JB JC JD JE JF JG JH JI JJ JK JL JM JN JO JP JQ JR JS JT JU JV JW JX JY JZ Ja Jb Jc Jd Je Jf Jg Jh Ji Jj Jk Jl Jm Jn Jo Jp Jq Jr Js Jt Ju Jv Jw Q) :
    Code.wp Try.prog lpC2 Q ⟨#[v0, v1, v2, (Value.pointer (some ⟨H, 0, none⟩)), v4, v5, (Value.pointer (some ⟨p6, 0, none⟩)), v7, (Value.slice A8 n8 c8), v9, Z0, Z1, Z2, Z3, Z4, Z5, Z6, (Value.pointer (some ⟨p17, 0, none⟩)), (Value.int .i64 0), Z7, Z8, Z9, ZA, ZB, ZC, ZD, ZE, ZF, ZG, ZH, ZI, ZJ, ZK, ZL, ZM, ZN, ZO, ZP, ZQ, ZR, ZS, ZT, ZU, ZV, ZW, ZX, ZY, ZZ, Za, Zb, Zc, Zd, Ze, Zf, Zg, Zh, Zi, Zj, Zk, Zl, Zm, Zn, Zo, Zp, Zq, Zr, Zs, Zt, Zu, Zv, Zw, Zx, Zy, Zz, Y0, Y1, Y2, Y3, Y4, Y5, Y6, Y7, Y8, Y9, YA, YB, YC, YD, YE, YF, YG, YH, YI, YJ, YK, YL, YM, YN, YO, YP, YQ, YR, YS, YT, YU, YV, YW, YX, YY, YZ, Ya, Yb, Yc, Yd, Ye, Yf, Yg, Yh, Yi, Yj, Yk, Yl, Ym, Yn, Yo, Yp, Yq, Yr, Ys, Yt, Yu, Yv, Yw, Yx, Yy, Yz, X0, X1, X2, X3, X4, X5, X6, X7, X8, X9, XA, XB, XC, XD, XE, XF, XG, XH, XI, XJ, XK, XL, XM, XN, XO, XP, XQ, XR, XS, XT, XU, XV, XW, XX, XY, XZ, Xa, Xb, Xc, Xd, Xe, Xf, Xg, Xh, Xi, Xj, Xk, Xl, Xm, Xn, Xo, Xp, Xq, Xr, Xs, Xt, Xu, Xv, Xw, Xx, Xy, Xz, K0, K1, K2, K3, K4, K5, K6, K7, K8, K9, KA, KB, KC, KD, KE, KF, KG, KH, KI, KJ, KK, KL, KM, KN, KO, KP, KQ, KR, KS, KT, KU, KV, KW, KX, KY, KZ, Ka, Kb, Kc, Kd, Ke, Kf, Kg, Kh, Ki, Kj, Kk, Kl, Km, Kn, Ko, Kp, Kq, Kr, Ks, Kt, Ku, Kv, Kw, Kx, Ky, Kz, J0, J1, J2, J3, J4, J5, J6, J7, J8, J9, JA, JB, JC, JD, JE, JF, JG, JH, JI, JJ, JK, JL, JM, JN, JO, JP, JQ, JR, JS, JT, JU, JV, JW, JX, JY, JZ, Ja, Jb, Jc, Jd, Je, Jf, Jg, Jh, Ji, Jj, Jk, Jl, Jm, Jn, Jo, Jp, Jq, Jr, Js, Jt, Ju, Jv, Jw], []⟩ W := by
  dsimp only
  conv => arg 2; whnf
  go_upto_region 32 with (fail)
  go_loopg [18] n8 (fun gg F0 wr => ∃ j : Nat, j + gg = n8 ∧ F0 = .int .i64 (j : Int) ∧ L2 W0 H B p5 p6 p17 X a ch ns ls V7 (.slice A8 n8 c8) N j wr)
  case atStart => exact ⟨0, by omega, rfl, HS.out⟩
  case round =>
    obtain ⟨j, hj, rfl, p, pl, LC, hLC, hct, hK⟩ := hrel
    have HK := Lib.hid (And.intro hLC (And.intro hct hK))
    clear hLC hct hK
    by_cases hlt : j < n8
    · have hlt' : (j : Int) < (n8 : Int) := by omega
      obtain ⟨M, hM⟩ : ∃ M, M = N + 60010 * j := ⟨_, rfl⟩
      have hMN : M ≤ 4611686017000400000 := by omega
      have hK := HK.out.2.2
      rw [← hM] at hK
      have HK2 := Lib.hid hK
      have HM := Lib.hid hM
      have HHD := Lib.hid hK.hd
      have hHw : H < wr.heap.size := hK.hd.lt
      clear hK hM
      go_upto_region 35 with (first
        | (go_at_call 23; refine (of_any H M 0 (some ⟨wr.heap.size, 0, none⟩) 2 2 [5, 20] _ ?_ ?_ (ints2 wr 3 5 20) ?_ ?_).mono ?_; (exact Hd.alloc (w := wr) HHD.out _); (omega); (intro b off e; cases e; show wr.heap.size ≠ H; omega); (omega); rintro e w5 ⟨er, rfl, her, hd5⟩))
      have hd05 : Dealt wr w5 H (M + 1) := (((Dealt.refl HHD.out).alloc (.cells #[.int .i64 5, .int .i64 20] 3 (0, 0))).mono (by omega)).trans hd5
      have hK5 := HK2.out.deal hd05
      have her20 : 0 ≤ er ∧ er ≤ 20 := by
        rcases her with h | h
        · omega
        · simp at h; omega
      have HK5 := Lib.hid hK5
      have h7 : (tcT a ch (exC ns j)).cs.length < 7 ∧ (tcT a ch LC).cs.length < 7 := ⟨by show (exC ns j).length < 7; rw [exC_len]; omega, by show LC.length < 7; have := HK.out.1; omega⟩
      have hTok := HL.out.1.ok (cs := exC ns j) (by rw [exC_len]; omega) (fun c hc => (exC_all HL.out.1 (by have := HL.out.2; omega) c hc).1)
      have hUok := HL.out.1.ok (cs := LC) (by have := HK.out.1; omega) (fun c hc => (HK.out.2.1 c hc).1)
      have h8 := (Own.sl hK5.o8 lenInt).1
      rw [HL.out.2] at h8
      have h8H : OffH A8 H := fun b off e => by have := (HK5.out.o8.lt b (by rw [e]; rfl)).1; have := HK5.out.lt.1; omega
      have hl := hK5.lt
      have H6 := Lib.hid hK5.b6
      have HH5 := Lib.hid hK5.hd
      have HT5 := Lib.hid (And.intro hTok (And.intro (tyO_in hK5.oT) (tyO_off hK5.oT hl.1)))
      have HN5 := Lib.hid (And.intro h8 h8H)
      have hjn : j < ns.length := by have := HL.out.2; omega
      have HP5 := Lib.hid (show CtOk (tcT a ch (exC ns j)).g ⟨(j : Int), 1, ns.getD j 0, 0⟩ ∧ (fun c : Ct => c = ⟨(j : Int), 1, ns.getD j 0, 0⟩) ⟨(j : Int), 1, ns.getD j 0, 0⟩ from ⟨(exC_ok HL.out.1 hjn).1, rfl⟩)
      have hyb : 0 ≤ ns.getD j 0 ∧ ns.getD j 0 ≤ 100 := by
        have := HL.out.1.b j (by have := HL.out.1.n; omega)
        have := HL.out.1.c4
        omega
      have HLO := Lib.hid (loose_ok HL.out.1 hjn her20)
      clear hd05 hK5 her h8 hd5
      refine cnt_add w5 H (M + 1) p6 j n8 c8 A8 (tcT a ch (exC ns j)) p ns (fun c => c = ⟨(j : Int), 1, ns.getD j 0, 0⟩) _ _ _ _ _ _ _ _ _ _ _ _ _ _ _ _ _ _ _ _ _ _ _ _ _ _ _ _ _ _ _ _ _ _ _ _ _ _ _ _ _ _ _ _ _ _ _ _ _ _ _ _ _ _ _ _ _ _ _ _ _ _ _ _ _ _ _ _ _ _ _ _ _ _ _ _ _ _ _ _ _ _ _ _ _ _ _ _ _ _ _ _ _ _ _ _ _ _ _ _ _ _ _ _ _ _ _ _ _ _ _ _ _ _ _ _ _ _ _ _ _ _ _ _ _ _ _ _ _ _ _ _ _ _ _ _ _ _ _ _ _ _ _ _ _ _ _ _ _ _ _ _ _ _ _ _ _ _ _ _ _ _ _ _ _ _ _ _ _ _ _ _ _ _ _ _ _ _ _ _ _ _ _ _ _ _ _ _ _ _ _ _ _ _ _ _ _ _ _ _ _ _ _ _ _ _ _ _ _ _ _ _ _ _ _ _ _ _ _ _ _ _ _ _ _ _ _ _ _ _ _ _ _ _ _ _ _ _ _ _ _ _ _ _ _ _ _ _ _ _ _ _ _ _ _ _ _ _ _ _ _ _ _ _ _ _ _ _ _ _ _ _ _ _ _ _ _ _ _ _ _ _ _ _ _ _ _ _ _ _ _ _ _ _ _ _ _ _ _ _ _ _ _ _ _ _ _ _ _ _ _ _ _ _ _ _ _ H6 HH5 (by omega) HT5 h7.1 HN5 hlt HP5 ?_
      intro GB GC GD GF GG GH GI GJ GK GL GM k20 c20 p20 w6 hc20 hB20 hb20 ho20 hd6
      subst hc20
      have hK6 := HK5.out.deal hd6
      have HK6 := Lib.hid hK6
      have h86 := (Own.sl hK6.o8 lenInt).1
      rw [HL.out.2] at h86
      have H176 := Lib.hid hK6.b17
      have HH6 := Lib.hid hK6.hd
      have HU6 := Lib.hid (And.intro hUok (And.intro (tyO_in hK6.oU) (tyO_off hK6.oU hl.1)))
      have HN6 := Lib.hid (And.intro h86 h8H)
      have H20 := Lib.hid (And.intro hb20 (And.intro ho20 hB20))
      clear hK6 h86 hb20 ho20 hd6
      go_upto_region 36 with (fail)
      refine cnt_add2 w6 H (M + 1 + 30000) p17 j n8 c8 A8 er (tcT a ch LC) pl ns (CtP ((ch.length : Int) + 1) ns) _ _ _ _ _ _ _ _ _ _ _ _ _ _ _ _ _ _ _ _ _ _ _ _ _ _ _ _ _ _ _ _ _ _ _ _ _ _ _ _ _ _ _ _ _ _ _ _ _ _ _ _ _ _ _ _ _ _ _ _ _ _ _ _ _ _ _ _ _ _ _ _ _ _ _ _ _ _ _ _ _ _ _ _ _ _ _ _ _ _ _ _ _ _ _ _ _ _ _ _ _ _ _ _ _ _ _ _ _ _ _ _ _ _ _ _ _ _ _ _ _ _ _ _ _ _ _ _ _ _ _ _ _ _ _ _ _ _ _ _ _ _ _ _ _ _ _ _ _ _ _ _ _ _ _ _ _ _ _ _ _ _ _ _ _ _ _ _ _ _ _ _ _ _ _ _ _ _ _ _ _ _ _ _ _ _ _ _ _ _ _ _ _ _ _ _ _ _ _ _ _ _ _ _ _ _ _ _ _ _ _ _ _ _ _ _ _ _ _ _ _ _ _ _ _ _ _ _ _ _ _ _ _ _ _ _ _ _ _ _ _ _ _ _ _ _ _ _ _ _ _ _ _ _ _ _ _ _ _ _ _ _ _ _ _ _ _ _ _ _ _ _ _ _ _ _ _ _ _ _ _ _ _ _ _ _ _ _ _ _ _ _ _ _ _ _ _ _ _ _ _ _ _ _ _ _ _ _ _ _ _ _ _ _ _ H176 HH6 (by omega) (by omega) HU6 h7.2 HN6 hlt her20 hyb HLO ?_
      intro GN GO GP GQ GR GS GT GU GV GW GX GY GZ Ga Gb Gc Gd Ge Gf Gg Gh Gi Gj Gk Gl Gm Gn Gp Gq Gr k22 c22 p22 w7 hc22 hB22 hb22 ho22 hd7
      have hK7 := HK6.out.deal hd7
      have hs5 := HK5.out.bz
      have hs6 := HK6.out.bz
      have hwd : ∀ i, B ≤ i → i < w6.heap.size → (∀ cs, w6.heap[i]? ≠ some (.cells cs 30 (0, 0))) → w7.heap[i]? = w6.heap[i]? := fun i h1 h2 _ => hd7.gr.block i h2 (fun e => by injection e with e; omega)
      have ho207 : TyO w7 B (TyA (tcT a ch (exC ns j)) ⟨(j : Int), 1, ns.getD j 0, 0⟩) p20 := tyO_up (show TyO w6 B _ p20 from ⟨H20.out.2.1.1.mono hs5, H20.out.2.1.2.mono hs5⟩) hwd
      have ho227 : TyO w7 B (TyA (tcT a ch LC) c22) p22 := ⟨ho22.1.mono hs6, ho22.2.mono hs6⟩
      have h20n : p6 < k20 := by have := HK5.out.b6; have := heap_lt this; omega
      have h22n : p6 < k22 := by have := HK6.out.b6; have := heap_lt this; omega
      have HP7 := Lib.hid (And.intro hK7.b6 (And.intro hK7.b17 (And.intro (hd7.blk H20.out.1 (by omega)) hb22)))
      have H7 := Lib.hid (And.intro hK7 (And.intro ho207 (And.intro ho227 hc22)))
      clear hK7 hwd ho207 ho227 hb22 ho22 hd7 hc22
      go_upto_region 39 with (fail)
      refine cnt_put w7 p6 p17 k20 k22 (TyA (tcT a ch (exC ns j)) ⟨(j : Int), 1, ns.getD j 0, 0⟩) (TyA (tcT a ch LC) c22) (tcT a ch (exC ns j)) (tcT a ch LC) p20 p22 p pl _ _ _ _ _ _ _ _ _ _ _ _ _ _ _ _ _ _ _ _ _ _ _ _ _ _ _ _ _ _ _ _ _ _ _ _ _ _ _ _ _ _ _ _ _ _ _ _ _ _ _ _ _ _ _ _ _ _ _ _ _ _ _ _ _ _ _ _ _ _ _ _ _ _ _ _ _ _ _ _ _ _ _ _ _ _ _ _ _ _ _ _ _ _ _ _ _ _ _ _ _ _ _ _ _ _ _ _ _ _ _ _ _ _ _ _ _ _ _ _ _ _ _ _ _ _ _ _ _ _ _ _ _ _ _ _ _ _ _ _ _ _ _ _ _ _ _ _ _ _ _ _ _ _ _ _ _ _ _ _ _ _ _ _ _ _ _ _ _ _ _ _ _ _ _ _ _ _ _ _ _ _ _ _ _ _ _ _ _ _ _ _ _ _ _ _ _ _ _ _ _ _ _ _ _ _ _ _ _ _ _ _ _ _ _ _ _ _ _ _ _ _ _ _ _ _ _ _ _ _ _ _ _ _ _ _ _ _ _ _ _ _ _ _ _ _ _ _ _ _ _ _ _ _ _ _ _ _ _ _ _ _ _ _ _ _ _ _ _ _ _ _ _ _ _ _ _ _ _ _ _ _ _ _ _ _ _ _ _ _ _ _ _ _ _ _ _ _ _ _ _ _ _ _ _ _ _ _ _ _ _ _ _ _ _ _ HP7 (by omega) (by omega) (by omega) ?_
      intro Gy Gz w8 h6 h17 hge
      have HK8 := Lib.hid (H7.out.1.put h6 h17 hge H7.out.2.1 H7.out.2.2.1)
      clear h6 h17 hge
      go_wp2_with fail
      go_roundg (gk - 1)
      case measure => omega
      case rel =>
        refine ⟨j + 1, by omega, by go_num, p20, p22, LC ++ [c22], by simp; exact HK.out.1, fun c hc => ?_, ?_⟩
        · rcases List.mem_append.1 hc with h | h
          · exact HK.out.2.1 c h
          · rw [List.mem_singleton.1 h]; exact H7.out.2.2.2
        · have h := HK8.out.mono (M := N + 60010 * (j + 1)) (by have := HM.out; omega)
          rw [exC_succ]
          exact h
    · obtain rfl : j = n8 := by omega
      have hnl : ¬ (j : Int) < (j : Int) := by omega
      go_wp2_with fail
      exact HQ _ _ _ _ _ _ _ _ _ _ _ _ _ _ _ _ _ _ _ _ _ _ _ _ _ _ _ _ _ _ _ _ _ _ _ _ _ _ _ _ _ _ _ _ _ _ _ _ _ _ _ _ _ _ _ _ _ _ _ _ _ _ _ _ _ ⟨p, pl, LC, HK.out⟩
end Go.Proofs.Ytgnjknihgjdedaa
namespace Go.Proofs.Ytgnjknihgjdedaa
open Go.RowKit Go.MapKept Go.ChangeMaps
set_option linter.unusedVariables false
set_option linter.unusedSimpArgs false
set_option maxRecDepth 100000 in
set_option maxHeartbeats 2000000 in
theorem tTold_any (T : Ty) (p : Tp) (a : Nat) (n : Int) (w : World) (hk : TyOk T) (hi : TyIn w T p) (ht : TyT T) (ha : (a : Int) < T.g) (hn : 0 ≤ n) (hh : (T.outs.getD a sp0).has n) :
    Calls Try.prog 28 #[tyV T p, .int .i64 a, .int .i64 n] w fun e w' => e = .returned (.tuple #[.int .i64 (if (T.outs.getD a sp0).lo = (T.outs.getD a sp0).hi then 1 else 3), .int .i64 0]) ∧ Below w.heap.size w w' := by
  obtain ⟨G, hG⟩ := Int.eq_ofNat_of_zero_le (show 0 ≤ T.g by have := hk.g; omega)
  have hG5 : G ≤ 5 := by have := hk.g; omega
  have hGn : T.outs.length = G := by rw [outs_len]; omega
  have hg1 : T.g.toNat = G := by omega
  obtain ⟨W, hW⟩ : ∃ W, W = w.alloc (tyO T p) := ⟨_, rfl⟩
  obtain ⟨r, hr⟩ : ∃ r, r = w.heap.size := ⟨_, rfl⟩
  have b0 : W.heap[r]? = some (tyO T p) := by rw [hW, hr]; exact alloc_at rfl
  have hbW : Below w.heap.size w W := by rw [hW]; exact bal0 w _
  have hiW := hi.below hbW (Nat.le_refl _)
  have has := tasked_any T p W hk hiW
  unfold tyV at has
  obtain ⟨s, hs⟩ : ∃ s, s = T.outs.getD a sp0 := ⟨_, rfl⟩
  rw [← hs] at hh ⊢
  have c1 := fun w => tbt_ok (n := (a : Int)) (lo := 0) (hi := T.g - 1) (by omega) w
  have c2 := fun w => tbt_ok (n := n) (lo := s.lo) (hi := s.hi) hh w
  have hbG : a < G := by omega
  obtain ⟨z, hz⟩ : ∃ z : Int, z = if s.lo = s.hi then 1 else 3 := ⟨_, rfl⟩
  rw [← hz]
  have HI := Lib.hid (And.intro hk (And.intro hiW (And.intro b0 (And.intro hbW (And.intro ht (And.intro hGn (And.intro hg1 (And.intro hs (And.intro hz hh)))))))))
  have HW := Lib.hid (And.intro hW hr)
  obtain ⟨p0, p1, p2, p3, p4, p5⟩ := blk6 b0
  have hrl := heap_lt b0
  have hG1 := hk.g
  have HG := Lib.hid hG
  have hmn : ¬ n < 0 := by omega
  have ha0 : (0 : Int) ≤ (a : Int) := by omega
  clear hk hi ht hW hr b0 hbW hiW hGn hg1 hG hs hz hh ha
  unfold tyV
  go_enter Try.func28, Try.ntmps28
  go_upto_region 1 with (fail)
  rw [show w.alloc (Obj.cells #[Value.int .i64 T.g, .int .i64 T.f.lo, .int .i64 T.f.hi, .slice p.A T.ch.length p.c, .int .i64 T.m, .slice p.B T.cs.length p.d] 30) = W from HW.out.1.symm, ← HW.out.2]
  go_upto_region 2 with (go_at_call 32; (with_reducible refine has.mono ?_); rintro e w1 ⟨⟨k, M, rfl, hk1, hM1, hkM, bk, bM⟩, hb1⟩; have H1 := Lib.hid (And.intro hk1 (And.intro hM1 (And.intro hkM (And.intro bk (And.intro bM hb1))))); have b01 := bheap HI.out.2.2.1 hb1 (Nat.le_refl _); clear hk1 hM1 hkM bk bM hb1)
  obtain ⟨q0, q1, q2, q3, q4, q5⟩ := blk6 b01
  have hrl1 := heap_lt b01
  clear has p0 p1 p2 p3 p4 p5 hrl b01
  have hi1 := HI.out.2.1.below H1.out.2.2.2.2.2 (Nat.le_refl _)
  have hat1 : TyAt w1 T p k M := ⟨H1.out.2.2.2.1, hi1⟩
  have htr := ttruly_any T p k M 0 w1 HI.out.1 hat1 H1.out.2.2.2.2.1 HI.out.2.2.2.2.1
  rw [HI.out.2.2.2.2.2.2.1] at htr
  clear hat1 hi1
  go_upto_region 11 with (first
    | (go_at_call 33; (with_reducible refine (c1 _).mono ?_); rintro e w' ⟨rfl, rfl⟩)
    | (go_at_call 34; (with_reducible refine htr.mono ?_); rintro e w2 ⟨⟨g, rfl, hg, sg⟩, hgb⟩; have H2 := Lib.hid (And.intro hg (And.intro sg hgb)); clear hg sg hgb))
  clear c1 htr q0 q1 q2 q3 q4 q5
  have hWM : W.heap.size ≤ M := H1.out.2.1
  have hb12 : Below W.heap.size w1 w2 := gb_belowT H2.out.2.2 hWM (H1.out.2.2.2.2.2.size)
  have hbw2 : Below w.heap.size w w2 := HI.out.2.2.2.1.trans ((H1.out.2.2.2.2.2.trans hb12).mono HI.out.2.2.2.1.size)
  obtain ⟨u0, u1⟩ := H2.out.2.1.get (k := a) (by rw [HI.out.2.2.2.2.2.1]; exact hbG)
  rw [← HI.out.2.2.2.2.2.2.2.1] at u0 u1
  have hgl : g < w2.heap.size := heap_lt H2.out.2.1
  have haG : (a : Int) < (G : Int) := by omega
  have HF := Lib.hid hbw2
  clear hbw2 hb12
  obtain ⟨W3, hW3⟩ : ∃ W3, W3 = w2.alloc (.cells #[.int .i64 s.lo, .int .i64 s.hi] 91 (0, 0)) := ⟨_, rfl⟩
  have b3 : W3.heap[w2.heap.size]? = some (.cells #[.int .i64 s.lo, .int .i64 s.hi] 91 (0, 0)) := by rw [hW3]; exact alloc_at rfl
  have HF3 := Lib.hid (show Below w.heap.size w W3 from by rw [hW3]; exact HF.out.trans ((bal0 w2 _).mono HF.out.size))
  obtain ⟨v0, v1⟩ := blk2 b3
  have hl3 := heap_lt b3
  go_upto_region 12 with (fail)
  rw [← hW3]
  clear hW3 b3 u0 u1
  by_cases he : s.lo = s.hi
  · have hb : (s.lo == s.hi) = true := beq_iff_eq.2 he
    have HE := Lib.hid (show z = 1 by rw [HI.out.2.2.2.2.2.2.2.2.1, if_pos he])
    clear he
    go_wp2_with (go_at_call 33; (with_reducible refine (c2 _).mono ?_); rintro e w' ⟨rfl, rfl⟩)
    rw [HE.out]
    refine bodyPost_ret (v := .tuple #[.int .i64 1, .int .i64 0]) ?_ rfl ⟨rfl, HF3.out⟩
    simp [results, Try.f28, go_sem]
  · have hb : (s.lo == s.hi) = false := beq_eq_false_iff_ne.2 he
    have HE := Lib.hid (show z = 3 by rw [HI.out.2.2.2.2.2.2.2.2.1, if_neg he])
    clear he
    go_wp2_with (go_at_call 33; (with_reducible refine (c2 _).mono ?_); rintro e w' ⟨rfl, rfl⟩)
    rw [HE.out]
    refine bodyPost_ret (v := .tuple #[.int .i64 3, .int .i64 0]) ?_ rfl ⟨rfl, HF3.out⟩
    simp [results, Try.f28, go_sem]
end Go.Proofs.Ytgnjknihgjdedaa
