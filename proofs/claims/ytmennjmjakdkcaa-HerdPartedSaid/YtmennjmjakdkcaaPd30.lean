/- HerdParted 30: TruX, TruT. -/
import Derived.Test.YtmennjmjakdkcaaPd29
import Derived.Test.YtmennjmjakdkcaaPd26
import Derived.BigRegion
namespace Go.Proofs.Ytmennjmjakdkcaa
open Go.RowKit
set_option linter.unusedVariables false
set_option linter.unusedSimpArgs false
theorem EndG.two {w : World} {base bn off k cn n f o f' o' : Nat} {gs : List (List Int)} (h : EndG w base (.slice (some ⟨bn,off,none⟩) k cn) gs) (hl : ∀ r ∈ gs,r.length = n) (hf : f < gs.length) (ho : o < n) (hf' : f' < gs.length) (ho' : o' < n) (hne : f ≠ f' ∨ o ≠ o') :
 ∃ g cg g' cg',w.cell? ⟨bn,off + f,none⟩ = some (.slice (some ⟨g,0,none⟩) n cg) ∧ w.cell? ⟨bn,off + f',none⟩ = some (.slice (some ⟨g',0,none⟩) n cg') ∧
  (n ≤ cg ∧ cg ≤ maxLen ∧ n ≤ cg' ∧ cg' ≤ maxLen ∧ base ≤ g ∧ base ≤ g' ∧ g < w.heap.size ∧ g' < w.heap.size ∧ bn < w.heap.size ∧ (f = f' → g = g')) ∧
  w.cell? ⟨g,o,none⟩ = some (.int .i64 (getG gs f o)) ∧ w.frozen? ⟨g,o,none⟩ = false ∧ w.cell? ⟨g',o',none⟩ = some (.int .i64 (getG gs f' o')) ∧
  ∀ x p,x = getG gs f o + p → ((w.setCell ⟨g,o,none⟩ (.int .i64 x)).frozen? ⟨g',o',none⟩ = false ∧ (w.setCell ⟨g,o,none⟩ (.int .i64 x)).cell? ⟨g',o',none⟩ = some (.int .i64 (getG gs f' o')) ∧ g' < (w.setCell ⟨g,o,none⟩ (.int .i64 x)).heap.size) ∧
   ∀ y q,y = getG gs f' o' + q → EndG ((w.setCell ⟨g,o,none⟩ (.int .i64 x)).setCell ⟨g',o',none⟩ (.int .i64 y)) base (.slice (some ⟨bn,off,none⟩) k cn) (addG (addG gs f o p) f' o' q):=by
 have row : ∀ {j},j < gs.length → (gs.getD j []).length = n:=fun {j} hj => hl _ (by rw [List.getD_eq_getElem?_getD,List.getElem?_eq_getElem hj];exact List.getElem_mem hj)
 obtain ⟨b,off1,c,g,cg,e1,e2,e3,e4,e5,e6,e7,e8,e9⟩:=h.at (f:=f) (o:=o) hf (by rw [row hf];exact ho)
 obtain ⟨b',off2,c',g',cg',i1,i2,i3,i4,i5,i6,i7,i8,i9⟩:=h.at (f:=f') (o:=o') hf' (by rw [row hf'];exact ho')
 injection e1 with a1 a2 a3
 injection a1 with a1
 injection a1 with a1 a4 _
 subst a1 a4 a3
 injection i1 with b1 b2 b3
 injection b1 with b1
 injection b1 with b1 b4 _
 subst b1 b4 b3
 rw [row hf] at e2 e3
 rw [row hf'] at i2 i3
 refine ⟨g,cg,g',cg',e2,i2,⟨e3,e4,i3,i4,e5,i5,e6,i6,cell_lt e2,fun e => ?_⟩,e7,e8,i7,fun x p hx => ?_⟩
 ·subst e
  rw [e2] at i2
  cases i2
  rfl
 ·have h2:=e9 x
  rw [hx,show gs.set f ((gs.getD f []).set o (getG gs f o + p)) = addG gs f o p from rfl,← hx] at h2
  obtain ⟨b2,off3,c2,g2,cg2,j1,j2,j3,j4,j5,j6,j7,j8,j9⟩:=h2.at (f:=f') (o:=o') (by rw [addG_len];exact hf') (by rw [addG_row,row hf'];exact ho')
  injection j1 with a1 a2' a3
  injection a1 with a1
  injection a1 with a1 a4 _
  subst a1 a4 a3
  have hcell : (w.setCell ⟨g,o,none⟩ (.int .i64 x)).cell? ⟨bn,off + f',none⟩ = w.cell? ⟨bn,off + f',none⟩:=by
   by_cases hab : (⟨g,o,none⟩ : Addr) = ⟨bn,off + f',none⟩
   ·rw [← hab,e7] at i2
    cases i2
   ·exact World.cell?_setCell_other _ _ _ _ hab
  rw [hcell,i2,addG_row,row hf'] at j2
  cases j2
  have hge : ((addG gs f o p).getD f' []).getD o' 0 = getG gs f' o':=addG_get hne
  rw [hge] at j7
  refine ⟨⟨j8,j7,j6⟩,fun y q hy => ?_⟩
  have h3:=j9 y
  rw [show (addG gs f o p).set f' (((addG gs f o p).getD f' []).set o' y) = addG (addG gs f o p) f' o' q by unfold addG;rw [hy,← hge];rfl] at h3
  exact h3
theorem EndG.place {w : World} {base k cn f o : Nat} {An : Option Addr} {gs : List (List Int)} (h : EndG w base (.slice An k cn) gs) (hf : f < gs.length) (ho : o < (gs.getD f []).length) : ∃ bn off,An = some ⟨bn,off,none⟩:=by
 obtain ⟨b,off1,c,g,cg,e1,-⟩:=h.at (f:=f) (o:=o) hf ho
 injection e1 with a1 _ _
 exact ⟨b,off1,a1⟩
theorem addG_same {gs : List (List Int)} {f o : Nat} {k : Int} (hf : f < gs.length) (ho : o < (gs.getD f []).length) : getG (addG gs f o k) f o = getG gs f o + k:=by
 unfold getG addG
 rw [List.getD_eq_getElem?_getD (l:=gs.set _ _),List.getElem?_set_self hf,Option.getD_some,List.getD_eq_getElem?_getD (l:=List.set _ _ _),List.getElem?_set_self ho,Option.getD_some]
 rfl
theorem BdG.of {B : Int} {gs : List (List Int)} (h : ∀ f o,f < gs.length → o < (gs.getD f []).length → -B ≤ getG gs f o ∧ getG gs f o ≤ B) : BdG B gs:=by
 intro r hr x hx
 obtain ⟨f,hf,e⟩:=List.mem_iff_getElem.1 hr
 obtain ⟨o,ho,e2⟩:=List.mem_iff_getElem.1 hx
 have hg : gs.getD f [] = r:=by rw [List.getD_eq_getElem?_getD,List.getElem?_eq_getElem hf,Option.getD_some,e]
 have:=h f o hf (by rw [hg];exact ho)
 unfold getG at this
 rw [hg,List.getD_eq_getElem?_getD,List.getElem?_eq_getElem ho,Option.getD_some,e2] at this
 exact this
theorem BdG.add2 {B K : Int} {gs : List (List Int)} {f o f' o' : Nat} {k k' : Int} (h : BdG B gs) (hne : f ≠ f' ∨ o ≠ o') (hk : -K ≤ k ∧ k ≤ K) (hk' : -K ≤ k' ∧ k' ≤ K) (hK : 0 ≤ K) (hB : 0 ≤ B) : BdG (B + K) (addG (addG gs f o k) f' o' k'):=by
 refine BdG.of fun f1 o1 h1 h2 => ?_
 rw [addG_len,addG_len] at h1
 rw [addG_row,addG_row] at h2
 have hg:=getG_bd h hB f1 o1
 by_cases e : f' = f1 ∧ o' = o1
 ·obtain ⟨rfl,rfl⟩:=e
  rw [addG_same (by rw [addG_len];exact h1) (by rw [addG_row];exact h2),addG_get hne]
  omega
 ·rw [addG_get (by omega)]
  by_cases e2 : f = f1 ∧ o = o1
  ·obtain ⟨rfl,rfl⟩:=e2
   rw [addG_same h1 h2]
   omega
  ·rw [addG_get (by omega)]
   omega
theorem OwnG.rowG {w w' : World} {base : Nat} {v : Value} {ls : List (List Int)} {row : Option Nat} (h : OwnG w base v ls) (hg : w.grownBy w' row) (hr : ∀ k,row = some k → k < base) : OwnG w' base v ls:=by
 obtain ⟨mv,h1,h2,h3⟩:=h
 refine ⟨mv,h1.row hg hr,h2,fun i v hv => ?_⟩
 obtain ⟨l,a,b⟩:=h3 i v hv
 exact ⟨l,a,b.row hg hr⟩
section
variable {b : Hb} {z : Nat} {gs : List (List Int)} {Ag : Option Addr} {v v' : Value} {E E' : List (List Int)} {w w' : World}
theorem TruI.lt (h : TruI b z gs Ag v E w) : ∀ k,v.ownBlock = some k → k < w.heap.size:=fun k e => by
 obtain ⟨mv,ho,-⟩:=h.own
 exact (ho.lt k e).2
theorem TruE.block (h : TruE z v w v' E' w') {j : Nat} (hj : j < w.heap.size) (hne : ∀ k,v.ownBlock = some k → k ≠ j) : w'.heap[j]? = w.heap[j]?:=h.gr.block j hj (fun e => hne j e.symm rfl)
end
theorem subG_len {f : Nat} : ∀ {w : List Int} {gs : List (List Int)},(subG f w gs).length = gs.length
 | [],gs => rfl
 | o :: w,gs => (subG_len (w:=w)).trans (addG_len _ _ _ _)
theorem BdG.sub {f : Nat} : ∀ {w : List Int} {B : Int} {gs : List (List Int)},0 ≤ B → BdG B gs → BdG (B + w.length) (subG f w gs)
 | [],B,gs,_,h => by
   show BdG (B + ((0 : Nat) : Int)) gs
   exact h.mono (by omega)
 | o :: w,B,gs,hB,h => by
   have h1:=BdG.sub (f:=f) (w:=w) (B:=B + 1) (by omega) (h.add (f:=f) (o:=o.toNat) (k:=-1) (K:=1) (by omega) (by omega) hB)
   refine BdG.mono (show BdG (B + 1 + w.length) (subG f (o :: w) gs) from h1) ?_
   rw [List.length_cons]
   omega
def lostE (b : Hb) (deed owner : Int) (i fn : Nat) (gs E L : List (List Int)) : List (List Int):=trE E sortB (fun w => trG b.t b.l deed owner (b.ds.drop (i + 1)) (i + 1) (subG fn w gs)) L
theorem lost_all {b : Hb} {deed owner : Int} {i fn mn : Nat} {gs E : List (List Int)} {d : De} (hn : nnG gs = true) (hd : b.ds[i]? = some d) (h4 : d.kind = 4) (hf : d.flock = fn) (hm : d.many = mn) :
 addsE E (trG b.t b.l deed owner (b.ds.drop i) i gs) = lostE b deed owner i fn gs E (wordsL b.l.length mn):=by
 rw [trG_gen hn hd]
 unfold stepG
 rw [if_neg (by omega),if_neg (by omega),if_neg (by omega),if_neg (by omega),if_pos h4,hf,hm]
 unfold lostG lostE trE
 rw [flatMap_map']
 rfl
def strE (b : Hb) (deed owner : Int) (i fn tn : Nat) (s : Sg) (gs E : List (List Int)) (L : List Nat) : List (List Int):=trE E (mayB b.t b.l deed owner i s) (fun o => trG b.t b.l deed owner (b.ds.drop (i + 1)) (i + 1) (addG (addG gs fn o (-1)) tn o 1)) L
theorem str_all {b : Hb} {deed owner : Int} {i fn tn : Nat} {gs E : List (List Int)} {d : De} (hn : nnG gs = true) (hd : b.ds[i]? = some d) (h5 : d.kind = 5) (hf : d.flock = fn) (ht : d.tof = tn) :
 addsE E (trG b.t b.l deed owner (b.ds.drop i) i gs) = strE b deed owner i fn tn d.s gs E (List.range b.l.length):=by
 rw [trG_gen hn hd]
 unfold stepG
 rw [if_neg (by omega),if_neg (by omega),if_neg (by omega),if_neg (by omega),if_neg (by omega)]
 unfold strG strE trE
 rw [flatMap_map',hf,ht]
 rfl
theorem trG_c {b : Hb} {deed owner : Int} {ks : List Int} {hs : List (List Int)} {i m : Nat} (hok : HeOk b.t b.l ks hs b.ds) (him : i + (m + 1) = b.ds.length) (g : List (List Int)) : (trG b.t b.l deed owner (b.ds.drop (i + 1)) (i + 1) g).length ≤ 35 ^ m:=by
 have h:=trG_len (t:=b.t) (deed:=deed) (owner:=owner) hok.n5 (b.ds.drop (i + 1)) (i + 1) g (nf:=ks.length) fun d hd => hok.dI d (List.mem_of_mem_drop hd)
 rw [List.length_drop,show b.ds.length - (i + 1) = m by omega] at h
 exact h
end Go.Proofs.Ytmennjmjakdkcaa
namespace Go.Proofs.Ytmennjmjakdkcaa
open Go.RowKit
set_option linter.unusedVariables false
set_option linter.unusedSimpArgs false
set_option maxRecDepth 1000000
noncomputable def rgTru58 : Code:=((Try.f22.body.bind (findRgn 58)).getD .skip)
def RgTruQ58 (DK bn on0 k cn on : Nat) (v0 v1 v2 v3 v4 v5 v6 v7 v8 v9 Z0 Z1 Z2 Z3 Z4 Z5 Z6 Z7 Z8 Z9 ZA ZB ZC ZD ZE ZF ZG ZH ZI ZJ ZK ZL ZM ZN ZO ZP ZQ ZR ZS ZT ZU ZV ZW ZX ZY ZZ Za Zb Zc Zd Ze Zf Zg Zh Zi Zj Zk Zl Zm Zn Zo Zp Zq Zr Zs Zt Zu Zv Zw Zx Zy Zz Y0 Y1 Y2 Y3 Y4 Y5 Y6 Y7 Y8 Y9 YA YB YC YD YE YF YG YH YI YJ YK YL YM YN YO YP YQ YR YS YT YU YV YW YX YY YZ Ya Yb Yc Yd Ye Yf Yg Yh Yi Yj Yk Yl Ym Yn Yo Yp Yq Yr Ys Yt Yu Yv Yw Yx Yy Yz X0 X1 X2 X3 X4 X5 X6 X7 X8 X9 XA XB XC XD XE XF XG XH XI XJ XK XL XM XN XO XP XQ XR XS XT XU XV XW XX XY XZ Xa Xb Xc Xd Xe Xf Xg Xh Xi Xj Xk Xl Xm Xn Xo Xp Xq Xr Xs Xt Xu Xv Xw Xx Xy Xz K0 K1 K2 K3 K4 K5 K6 K7 K8 K9 KA KB KC KD KE KF KG KH KI KJ KK KL KM KN KO KP KQ KR KS KT KU KV KW KX KY KZ Ka Kb Kc Kd Ke Kf Kg Kh Ki Kj Kk Kl Km Kn Ko Kp Kq Kr Ks Kt Ku Kv Kw Kx Ky Kz J0 J1 J2 J3 J4 J5 J6 J7 J8 J9 JA JB JC JD JE JF JG JH JI JJ JK JL JM JN JO JP JQ JR JS JT JU JV JW JX JY JZ Ja Jb Jc Jd Je Jf Jg Jh Ji Jj Jk Jl Jm Jn Jo Jp Jq Jr Js Jt Ju Jv Jw Jx Jy Jz G0 G1 G2 G3 G4 G5 G6 G7 G8 G9 GA GB GC GD GE GF GG GH GI GJ GK GL GM GN GO GP GQ GR GS GT GU GV GW GX GY GZ Ga Gb Gc Gd Ge Gf Gg Gh Gi Gj Gk Gl Gm Gn Gp Gq Gr Gs Gt Gu Gv Gw Gx Gy Gz F0 F1 F2 F3 F4 F5 F6 F7 F8 F9 FA : Value) (Q : Exit → Act → World → Prop) (w' : World) : Prop:=∀ (FB FC FD FE FF FG FH FI FJ FK FL FM FN FO FP FQ FR FS FT FU FV FW FX FY FZ Fa Fb Fc Fd Fe Ff Fg : Value),Q .normal ⟨#[v0,v1,v2,v3,v4,v5,v6,v7,v8,v9,Z0,Z1,Z2,Z3,Z4,Z5,Z6,Z7,Value.pointer (some ⟨DK,0,none⟩),Value.slice (some ⟨bn,on0,none⟩) k cn,Z8,Z9,ZA,ZB,ZC,Value.int .i64 (on : Int),ZD,ZE,ZF,ZG,ZH,ZI,ZJ,ZK,ZL,ZM,ZN,ZO,ZP,ZQ,ZR,ZS,ZT,ZU,ZV,ZW,ZX,ZY,ZZ,Za,Zb,Zc,Zd,Ze,Zf,Zg,Zh,Zi,Zj,Zk,Zl,Zm,Zn,Zo,Zp,Zq,Zr,Zs,Zt,Zu,Zv,Zw,Zx,Zy,Zz,Y0,Y1,Y2,Y3,Y4,Y5,Y6,Y7,Y8,Y9,YA,YB,YC,YD,YE,YF,YG,YH,YI,YJ,YK,YL,YM,YN,YO,YP,YQ,YR,YS,YT,YU,YV,YW,YX,YY,YZ,Ya,Yb,Yc,Yd,Ye,Yf,Yg,Yh,Yi,Yj,Yk,Yl,Ym,Yn,Yo,Yp,Yq,Yr,Ys,Yt,Yu,Yv,Yw,Yx,Yy,Yz,X0,X1,X2,X3,X4,X5,X6,X7,X8,X9,XA,XB,XC,XD,XE,XF,XG,XH,XI,XJ,XK,XL,XM,XN,XO,XP,XQ,XR,XS,XT,XU,XV,XW,XX,XY,XZ,Xa,Xb,Xc,Xd,Xe,Xf,Xg,Xh,Xi,Xj,Xk,Xl,Xm,Xn,Xo,Xp,Xq,Xr,Xs,Xt,Xu,Xv,Xw,Xx,Xy,Xz,K0,K1,K2,K3,K4,K5,K6,K7,K8,K9,KA,KB,KC,KD,KE,KF,KG,KH,KI,KJ,KK,KL,KM,KN,KO,KP,KQ,KR,KS,KT,KU,KV,KW,KX,KY,KZ,Ka,Kb,Kc,Kd,Ke,Kf,Kg,Kh,Ki,Kj,Kk,Kl,Km,Kn,Ko,Kp,Kq,Kr,Ks,Kt,Ku,Kv,Kw,Kx,Ky,Kz,J0,J1,J2,J3,J4,J5,J6,J7,J8,J9,JA,JB,JC,JD,JE,JF,JG,JH,JI,JJ,JK,JL,JM,JN,JO,JP,JQ,JR,JS,JT,JU,JV,JW,JX,JY,JZ,Ja,Jb,Jc,Jd,Je,Jf,Jg,Jh,Ji,Jj,Jk,Jl,Jm,Jn,Jo,Jp,Jq,Jr,Js,Jt,Ju,Jv,Jw,Jx,Jy,Jz,G0,G1,G2,G3,G4,G5,G6,G7,G8,G9,GA,GB,GC,GD,GE,GF,GG,GH,GI,GJ,GK,GL,GM,GN,GO,GP,GQ,GR,GS,GT,GU,FB,FC,FD,FE,FF,FG,FH,FI,FJ,FK,FL,FM,FN,FO,FP,FQ,FR,FS,FT,FU,FV,FW,FX,FY,FZ,Fa,Fb,Fc,Fd,Fe,Ff,Fg,F2,F3,F4,F5,F6,F7,F8,F9,FA],[]⟩ w'
set_option maxHeartbeats 8000000 in
theorem tru_stray (DK bn on0 k cn on : Nat) (w2 V1 : World) (g cg g2 cg2 nl fn tn : Nat) (x y : Int) (v0 v1 v2 v3 v4 v5 v6 v7 v8 v9 Z0 Z1 Z2 Z3 Z4 Z5 Z6 Z7 Z8 Z9 ZA ZB ZC ZD ZE ZF ZG ZH ZI ZJ ZK ZL ZM ZN ZO ZP ZQ ZR ZS ZT ZU ZV ZW ZX ZY ZZ Za Zb Zc Zd Ze Zf Zg Zh Zi Zj Zk Zl Zm Zn Zo Zp Zq Zr Zs Zt Zu Zv Zw Zx Zy Zz Y0 Y1 Y2 Y3 Y4 Y5 Y6 Y7 Y8 Y9 YA YB YC YD YE YF YG YH YI YJ YK YL YM YN YO YP YQ YR YS YT YU YV YW YX YY YZ Ya Yb Yc Yd Ye Yf Yg Yh Yi Yj Yk Yl Ym Yn Yo Yp Yq Yr Ys Yt Yu Yv Yw Yx Yy Yz X0 X1 X2 X3 X4 X5 X6 X7 X8 X9 XA XB XC XD XE XF XG XH XI XJ XK XL XM XN XO XP XQ XR XS XT XU XV XW XX XY XZ Xa Xb Xc Xd Xe Xf Xg Xh Xi Xj Xk Xl Xm Xn Xo Xp Xq Xr Xs Xt Xu Xv Xw Xx Xy Xz K0 K1 K2 K3 K4 K5 K6 K7 K8 K9 KA KB KC KD KE KF KG KH KI KJ KK KL KM KN KO KP KQ KR KS KT KU KV KW KX KY KZ Ka Kb Kc Kd Ke Kf Kg Kh Ki Kj Kk Kl Km Kn Ko Kp Kq Kr Ks Kt Ku Kv Kw Kx Ky Kz J0 J1 J2 J3 J4 J5 J6 J7 J8 J9 JA JB JC JD JE JF JG JH JI JJ JK JL JM JN JO JP JQ JR JS JT JU JV JW JX JY JZ Ja Jb Jc Jd Je Jf Jg Jh Ji Jj Jk Jl Jm Jn Jo Jp Jq Jr Js Jt Ju Jv Jw Jx Jy Jz G0 G1 G2 G3 G4 G5 G6 G7 G8 G9 GA GB GC GD GE GF GG GH GI GJ GK GL GM GN GO GP GQ GR GS GT GU GV GW GX GY GZ Ga Gb Gc Gd Ge Gf Gg Gh Gi Gj Gk Gl Gm Gn Gp Gq Gr Gs Gt Gu Gv Gw Gx Gy Gz F0 F1 F2 F3 F4 F5 F6 F7 F8 F9 FA : Value) (Q : Exit → Act → World → Prop)
 (HCD : Hid (∀ w',PS1 w2.drew V1 0 w' → w'.cell? ⟨DK,1,none⟩ = some (.int .i64 (fn : Int)) ∧ w'.cell? ⟨DK,4,none⟩ = some (.int .i64 (tn : Int)) ∧ DK < w'.heap.size))
 (HV1 : Hid (V1 = w2.drew.setCell ⟨g,on,none⟩ (.int .i64 (x - 1))))
 (z1 : w2.cell? ⟨DK,1,none⟩ = some (.int .i64 (fn : Int))) (z4 : w2.cell? ⟨DK,4,none⟩ = some (.int .i64 (tn : Int))) (hlD : DK < w2.heap.size)
 (yr : w2.cell? ⟨bn,on0 + fn,none⟩ = some (.slice (some ⟨g,0,none⟩) nl cg)) (yr2 : w2.cell? ⟨bn,on0 + tn,none⟩ = some (.slice (some ⟨g2,0,none⟩) nl cg2)) (yc : w2.cell? ⟨g,on,none⟩ = some (.int .i64 x)) (yc' : w2.cell? ⟨g2,on,none⟩ = some (.int .i64 y)) (fz : w2.frozen? ⟨g,on,none⟩ = false)
 (ux : V1.cell? ⟨g2,on,none⟩ = some (.int .i64 y)) (uf : V1.frozen? ⟨g2,on,none⟩ = false) (ul : g2 < V1.heap.size)
 (hxb : -140 ≤ x ∧ x ≤ 140) (hyb : -140 ≤ y ∧ y ≤ 140) (i2 : (fn : Int) < (k : Int)) (i5 : (tn : Int) < (k : Int)) (i3 : (on : Int) < (nl : Int)) (hbn : bn < w2.heap.size) (hgl : g < w2.heap.size) (hgl2 : g2 < w2.heap.size) (hgc : nl ≤ cg) (hgm : cg ≤ maxLen) (hgc2 : nl ≤ cg2) (hgm2 : cg2 ≤ maxLen) (hcn : cn ≤ maxLen)
 (HQ : RgTruQ58 DK bn on0 k cn on v0 v1 v2 v3 v4 v5 v6 v7 v8 v9 Z0 Z1 Z2 Z3 Z4 Z5 Z6 Z7 Z8 Z9 ZA ZB ZC ZD ZE ZF ZG ZH ZI ZJ ZK ZL ZM ZN ZO ZP ZQ ZR ZS ZT ZU ZV ZW ZX ZY ZZ Za Zb Zc Zd Ze Zf Zg Zh Zi Zj Zk Zl Zm Zn Zo Zp Zq Zr Zs Zt Zu Zv Zw Zx Zy Zz Y0 Y1 Y2 Y3 Y4 Y5 Y6 Y7 Y8 Y9 YA YB YC YD YE YF YG YH YI YJ YK YL YM YN YO YP YQ YR YS YT YU YV YW YX YY YZ Ya Yb Yc Yd Ye Yf Yg Yh Yi Yj Yk Yl Ym Yn Yo Yp Yq Yr Ys Yt Yu Yv Yw Yx Yy Yz X0 X1 X2 X3 X4 X5 X6 X7 X8 X9 XA XB XC XD XE XF XG XH XI XJ XK XL XM XN XO XP XQ XR XS XT XU XV XW XX XY XZ Xa Xb Xc Xd Xe Xf Xg Xh Xi Xj Xk Xl Xm Xn Xo Xp Xq Xr Xs Xt Xu Xv Xw Xx Xy Xz K0 K1 K2 K3 K4 K5 K6 K7 K8 K9 KA KB KC KD KE KF KG KH KI KJ KK KL KM KN KO KP KQ KR KS KT KU KV KW KX KY KZ Ka Kb Kc Kd Ke Kf Kg Kh Ki Kj Kk Kl Km Kn Ko Kp Kq Kr Ks Kt Ku Kv Kw Kx Ky Kz J0 J1 J2 J3 J4 J5 J6 J7 J8 J9 JA JB JC JD JE JF JG JH JI JJ JK JL JM JN JO JP JQ JR JS JT JU JV JW JX JY JZ Ja Jb Jc Jd Je Jf Jg Jh Ji Jj Jk Jl Jm Jn Jo Jp Jq Jr Js Jt Ju Jv Jw Jx Jy Jz G0 G1 G2 G3 G4 G5 G6 G7 G8 G9 GA GB GC GD GE GF GG GH GI GJ GK GL GM GN GO GP GQ GR GS GT GU GV GW GX GY GZ Ga Gb Gc Gd Ge Gf Gg Gh Gi Gj Gk Gl Gm Gn Gp Gq Gr Gs Gt Gu Gv Gw Gx Gy Gz F0 F1 F2 F3 F4 F5 F6 F7 F8 F9 FA Q (V1.setCell ⟨g2,on,none⟩ (.int .i64 (y + 1)))) :
 Code.wp Try.prog rgTru58 Q ⟨#[v0,v1,v2,v3,v4,v5,v6,v7,v8,v9,Z0,Z1,Z2,Z3,Z4,Z5,Z6,Z7,Value.pointer (some ⟨DK,0,none⟩),Value.slice (some ⟨bn,on0,none⟩) k cn,Z8,Z9,ZA,ZB,ZC,Value.int .i64 (on : Int),ZD,ZE,ZF,ZG,ZH,ZI,ZJ,ZK,ZL,ZM,ZN,ZO,ZP,ZQ,ZR,ZS,ZT,ZU,ZV,ZW,ZX,ZY,ZZ,Za,Zb,Zc,Zd,Ze,Zf,Zg,Zh,Zi,Zj,Zk,Zl,Zm,Zn,Zo,Zp,Zq,Zr,Zs,Zt,Zu,Zv,Zw,Zx,Zy,Zz,Y0,Y1,Y2,Y3,Y4,Y5,Y6,Y7,Y8,Y9,YA,YB,YC,YD,YE,YF,YG,YH,YI,YJ,YK,YL,YM,YN,YO,YP,YQ,YR,YS,YT,YU,YV,YW,YX,YY,YZ,Ya,Yb,Yc,Yd,Ye,Yf,Yg,Yh,Yi,Yj,Yk,Yl,Ym,Yn,Yo,Yp,Yq,Yr,Ys,Yt,Yu,Yv,Yw,Yx,Yy,Yz,X0,X1,X2,X3,X4,X5,X6,X7,X8,X9,XA,XB,XC,XD,XE,XF,XG,XH,XI,XJ,XK,XL,XM,XN,XO,XP,XQ,XR,XS,XT,XU,XV,XW,XX,XY,XZ,Xa,Xb,Xc,Xd,Xe,Xf,Xg,Xh,Xi,Xj,Xk,Xl,Xm,Xn,Xo,Xp,Xq,Xr,Xs,Xt,Xu,Xv,Xw,Xx,Xy,Xz,K0,K1,K2,K3,K4,K5,K6,K7,K8,K9,KA,KB,KC,KD,KE,KF,KG,KH,KI,KJ,KK,KL,KM,KN,KO,KP,KQ,KR,KS,KT,KU,KV,KW,KX,KY,KZ,Ka,Kb,Kc,Kd,Ke,Kf,Kg,Kh,Ki,Kj,Kk,Kl,Km,Kn,Ko,Kp,Kq,Kr,Ks,Kt,Ku,Kv,Kw,Kx,Ky,Kz,J0,J1,J2,J3,J4,J5,J6,J7,J8,J9,JA,JB,JC,JD,JE,JF,JG,JH,JI,JJ,JK,JL,JM,JN,JO,JP,JQ,JR,JS,JT,JU,JV,JW,JX,JY,JZ,Ja,Jb,Jc,Jd,Je,Jf,Jg,Jh,Ji,Jj,Jk,Jl,Jm,Jn,Jo,Jp,Jq,Jr,Js,Jt,Ju,Jv,Jw,Jx,Jy,Jz,G0,G1,G2,G3,G4,G5,G6,G7,G8,G9,GA,GB,GC,GD,GE,GF,GG,GH,GI,GJ,GK,GL,GM,GN,GO,GP,GQ,GR,GS,GT,GU,GV,GW,GX,GY,GZ,Ga,Gb,Gc,Gd,Ge,Gf,Gg,Gh,Gi,Gj,Gk,Gl,Gm,Gn,Gp,Gq,Gr,Gs,Gt,Gu,Gv,Gw,Gx,Gy,Gz,F0,F1,F2,F3,F4,F5,F6,F7,F8,F9,FA],[]⟩ w2:=by
 dsimp only
 conv => arg 2;whnf
 refine wp_region_tag 32 31 1 [0,1,2,3,4,5,10,12,13,14,15,16,17,18,19,20,25,28,30] [] 0 (TS1 w2.drew V1) (PS1 w2.drew V1) [0,0,0,0,0,0,0,0,0,0,0,0,0,0,0,0,0,0,0,0,0,0,0,0,0,0,0,0,0,0,0,1] (by as_aux_lemma => kernel_rfl) (by as_aux_lemma => kernel_rfl) (by as_aux_lemma => kernel_rfl) (by as_aux_lemma => kernel_rfl) (by omega) (.inr rfl) (by as_aux_lemma => kernel_rfl) rfl (fun k j w1 w2 hc _ hT hp => PS1.st k j w1 w2 hc hT hp) (fun k => PS1.start k) ?_
 apply Exists.intro
 refine ⟨fun ys => ?_,fun ops K hK => ?_⟩
 ·simp only [List.take_succ_cons,List.take_zero,dstsOf,List.filterMap_cons,List.filterMap_nil,putAll]
  go_simp
  rfl
 simp only [List.take_succ_cons,List.take_zero,List.drop_succ_cons,List.drop_zero] at hK ⊢
 iterate 6
  refine LexT.const (fun _ => rfl) ?_
  apply Exists.intro
  refine ⟨fun ys w' hp hpk hq hd => ?_,?_⟩
  ·try simp [DepsOf,depsGo,DF.holds,Region.binds,EqF] at hd
   try simp only [hd]
   replace hq : w' = w2.drew:=hq (by simp)
   subst hq
   clear hpk hp
   intro Q2 hQ2
   go_wp2_with fail
   rfl
  try simp only [List.nil_append,List.cons_append]
 iterate 4
  refine LexT.const (fun _ => rfl) ?_
  apply Exists.intro
  refine ⟨fun ys w' hp hpk hq hd => ?_,?_⟩
  ·try simp [DepsOf,depsGo,DF.holds,Region.binds,EqF] at hd
   try simp only [hd]
   obtain ⟨d1,d4,dl⟩:=HCD.out w' hp
   clear hp hpk hq
   intro Q2 hQ2
   go_wp2_with fail
   rfl
  try simp only [List.nil_append,List.cons_append]
 iterate 1
  refine LexT.const (fun _ => rfl) ?_
  apply Exists.intro
  refine ⟨fun ys w' hp hpk hq hd => ?_,?_⟩
  ·try simp [DepsOf,depsGo,DF.holds,Region.binds,EqF] at hd
   try simp only [hd]
   replace hq : w' = w2.drew:=hq (by simp)
   subst hq
   clear hpk hp
   intro Q2 hQ2
   go_wp2_with fail
   rfl
  try simp only [List.nil_append,List.cons_append]
 iterate 1
  refine LexT.const (fun _ => rfl) ?_
  apply Exists.intro
  refine ⟨fun ys w' hp hpk hq hd => ?_,?_⟩
  ·try simp [DepsOf,depsGo,DF.holds,Region.binds,EqF] at hd
   try simp only [hd]
   obtain ⟨d1,d4,dl⟩:=HCD.out w' hp
   clear hp hpk hq
   intro Q2 hQ2
   go_wp2_with fail
   rfl
  try simp only [List.nil_append,List.cons_append]
 iterate 9
  refine LexT.const (fun _ => rfl) ?_
  apply Exists.intro
  refine ⟨fun ys w' hp hpk hq hd => ?_,?_⟩
  ·try simp [DepsOf,depsGo,DF.holds,Region.binds,EqF] at hd
   try simp only [hd]
   replace hq : w' = w2.drew:=hq (by simp)
   subst hq
   clear hpk hp
   intro Q2 hQ2
   go_wp2_with fail
   rfl
  try simp only [List.nil_append,List.cons_append]
 iterate 4
  refine LexT.const (fun _ => rfl) ?_
  apply Exists.intro
  refine ⟨fun ys w' hp hpk hq hd => ?_,?_⟩
  ·try simp [DepsOf,depsGo,DF.holds,Region.binds,EqF] at hd
   try simp only [hd]
   obtain ⟨d1,d4,dl⟩:=HCD.out w' hp
   clear hp hpk hq
   intro Q2 hQ2
   go_wp2_with fail
   rfl
  try simp only [List.nil_append,List.cons_append]
 iterate 1
  refine LexT.const (fun _ => rfl) ?_
  apply Exists.intro
  refine ⟨fun ys w' hp hpk hq hd => ?_,?_⟩
  ·try simp [DepsOf,depsGo,DF.holds,Region.binds,EqF] at hd
   try simp only [hd]
   replace hq : w' = w2.drew:=hq (by simp)
   subst hq
   clear hpk hp
   intro Q2 hQ2
   go_wp2_with fail
   rfl
  try simp only [List.nil_append,List.cons_append]
 iterate 2
  refine LexT.const (fun _ => rfl) ?_
  apply Exists.intro
  refine ⟨fun ys w' hp hpk hq hd => ?_,?_⟩
  ·try simp [DepsOf,depsGo,DF.holds,Region.binds,EqF] at hd
   try simp only [hd]
   obtain ⟨d1,d4,dl⟩:=HCD.out w' hp
   clear hp hpk hq
   intro Q2 hQ2
   go_wp2_with fail
   rfl
  try simp only [List.nil_append,List.cons_append]
 iterate 1
  refine LexT.const (fun _ => rfl) ?_
  apply Exists.intro
  refine ⟨fun ys w' hp hpk hq hd => ?_,?_⟩
  ·try simp [DepsOf,depsGo,DF.holds,Region.binds,EqF] at hd
   try simp only [hd]
   replace hq : w' = w2.drew:=hq (by simp)
   subst hq
   clear hpk hp
   intro Q2 hQ2
   go_wp2_with fail
   rfl
  try simp only [List.nil_append,List.cons_append]
 iterate 1
  refine LexT.const (fun _ => rfl) ?_
  apply Exists.intro
  refine ⟨fun ys w' hp hpk hq hd => ?_,?_⟩
  ·try simp [DepsOf,depsGo,DF.holds,Region.binds,EqF] at hd
   try simp only [hd]
   obtain ⟨d1,d4,dl⟩:=HCD.out w' hp
   clear hp hpk hq
   intro Q2 hQ2
   go_wp2_with fail
   rfl
  try simp only [List.nil_append,List.cons_append]
 iterate 1
  refine LexT.const (fun _ => rfl) ?_
  apply Exists.intro
  refine ⟨fun ys w' hp hpk hq hd => ?_,?_⟩
  ·try simp [DepsOf,depsGo,DF.holds,Region.binds,EqF] at hd
   try simp only [hd]
   replace hq : w' = w2.drew:=hq (by simp)
   subst hq
   clear hpk hp
   intro Q2 hQ2
   go_wp2_with fail
   rfl
  try simp only [List.nil_append,List.cons_append]
 refine LexT.some (fun _ w => w = V1) (fun j v w1 w2 hc _ hT h => TS1.keep j v w1 w2 hc hT h) (fun ys w' hp hpk hq hd => ?_) ?_
 ·try simp [DepsOf,depsGo,DF.holds,Region.binds,EqF] at hd
  try simp only [hd]
  replace hpk : w' = w2.drew:=hpk
  subst hpk
  intro Q2 hQ2
  go_wp2_with fail
  exact ⟨⟨rfl,HV1.out.symm⟩,HV1.out.symm⟩
 try simp only [List.nil_append,List.cons_append]
 refine hK _ fun ys w' hp hF => ?_
 simp [AllF,DF.holds] at hF
 obtain ⟨q0,q1,q2,q3,q4,q5,q6,q7,q8,q9,q10,q11,q12,q13,q14,q15,q16,q17,q18,q19,q20,q21,q22,q23,q24,q25,q26,q27,q28,q29,q30,hw⟩:=hF
 subst hw
 simp only [q0,q1,q2,q3,q4,q5,q6,q7,q8,q9,q10,q11,q12,q13,q14,q15,q16,q17,q18,q19,q20,q21,q22,q23,q24,q25,q26,q27,q28,q29,q30]
 clear q0 q1 q2 q3 q4 q5 q6 q7 q8 q9 q10 q11 q12 q13 q14 q15 q16 q17 q18 q19 q20 q21 q22 q23 q24 q25 q26 q27 q28 q29 q30 hp hK
 go_wp2_with fail
 exact HQ _ _ _ _ _ _ _ _ _ _ _ _ _ _ _ _ _ _ _ _ _ _ _ _ _ _ _ _ _ _ _ _
end Go.Proofs.Ytmennjmjakdkcaa
