/- HerdParted 29: OwnH, CopyHd, TruW, TruS, TruO, TruP. -/
import Derived.Test.YtmennjmjakdkcaaPd14
import Derived.Test.YtmennjmjakdkcaaPd25
import Derived.Lib.SliceRun
import Derived.Test.YtmennjmjakdkcaaPd27
import Derived.Test.YtmennjmjakdkcaaPd28
import Derived.Deep.OwnRows
import Derived.Test.YtmennjmjakdkcaaPd04
import Derived.Test.YtmennjmjakdkcaaPd18
import Derived.Test.YtmennjmjakdkcaaPd26
import Derived.BigRegion
namespace Go.Proofs.Ytmennjmjakdkcaa
open Go.RowKit
set_option linter.unusedVariables false
set_option linter.unusedSimpArgs false
def TBw (j : Nat) (w w' : World) : Prop:=Below w.heap.size w w'
theorem TBw.rf {j : Nat} (w : World) : TBw j w w:=Below.refl _ _
def PBw (ws : World) (k : Nat) (w : World) : Prop:=Below ws.heap.size ws w
theorem PBw.st {ws : World} (k i : Nat) (w w' : World) (hT : TBw i w w') (hp : PBw ws k w) : PBw ws k w':=Below.trans hp (Below.mono hT (Below.size hp))
def FOI (base : Nat) (l : List Int) : VF:=fun v w => OwnI w base v l
def FOD (base : Nat) (l : List De) : VF:=fun v w => OwnD w base v l
theorem FOI.st {base : Nat} {l : List Int} (i : Nat) (v : Value) (w w' : World) (hT : TBw i w w') (h : FOI base l v w) : FOI base l v w':=Own.below h hT (Nat.le_refl _)
theorem FOD.st {base : Nat} {l : List De} (i : Nat) (v : Value) (w w' : World) (hT : TBw i w w') (h : FOD base l v w) : FOD base l v w':=Own.below h hT (Nat.le_refl _)
def RwM (R n : Nat) (ls : List (List Int)) (k : Nat) (w : World) : Prop :=
 ∃ mv : List Value,mv.length = n ∧ w.heap[R]? = some (.cells mv.toArray 22 (0,0)) ∧ ∀ i v,i < k → mv[i]? = some v → ∃ l,ls[i]? = some l ∧ OwnI w (R + 1) v l
theorem RwM.start {R n : Nat} {ls : List (List Int)} {w w' : World} (hR : R = w.heap.size) (h : w' = w.alloc (.cells (madeCells #[.slice none 0 0] n) 22)) : RwM R n ls 0 w':=by
 subst hR h
 refine ⟨List.replicate n (.slice none 0 0),by simp,?_,fun i v hi => by omega⟩
 rw [show (List.replicate n (Value.slice none 0 0)).toArray = madeCells #[.slice none 0 0] n by
  apply Array.ext
  ·simp [size_madeCells]
  ·intro i h1 h2
   simp [madeCells,Nat.mod_one]]
 exact alloc_at rfl
theorem RwM.next {R n k : Nat} {ls : List (List Int)} {w w' : World} {v : Value} {l : List Int} (h : RwM R n ls k w) (hb : Below w.heap.size w w') (hl : ls[k]? = some l) (hv : OwnI w' (R + 1) v l) (hk : k < n) : RwM R n ls (k + 1) (w'.setCell ⟨R,k,none⟩ v):=by
 obtain ⟨mv,h1,h2,h3⟩:=h
 have hup : ∀ j,R + 1 ≤ j → (w'.setCell ⟨R,k,none⟩ v).heap[j]? = w'.heap[j]?:=fun j hj => Below.heap_setCell w' ⟨R,k,none⟩ _ j (by dsimp;omega)
 refine ⟨mv.set k v,by simpa using h1,?_,fun i u hi hu => ?_⟩
 ·rw [set_blk (bheap h2 hb (Nat.le_refl _)),List.setIfInBounds_toArray]
 ·rcases Nat.lt_or_ge i k with hik | hik
  ·rw [List.getElem?_set_ne (by omega)] at hu
   obtain ⟨l',hl',ho⟩:=h3 i u hik hu
   exact ⟨l',hl',(ho.below hb (Nat.le_refl _)).upon hup⟩
  ·obtain rfl : i = k:=by omega
   rw [List.getElem?_set_self (by omega)] at hu
   cases hu
   exact ⟨l,hl,hv.upon hup⟩
theorem RwM.upon {R n k : Nat} {ls : List (List Int)} {w w' : World} (h : RwM R n ls k w) (hup : ∀ j,R ≤ j → w'.heap[j]? = w.heap[j]?) : RwM R n ls k w':=by
 obtain ⟨mv,h1,h2,h3⟩:=h
 refine ⟨mv,h1,(hup R (Nat.le_refl _)).trans h2,fun i v hi hv => ?_⟩
 obtain ⟨l,hl,ho⟩:=h3 i v hi hv
 exact ⟨l,hl,ho.upon fun j hj => hup j (by omega)⟩
theorem RwM.fin {R n base : Nat} {ls : List (List Int)} {w : World} (h : RwM R n ls n w) (hn : ls.length = n) (hb : base ≤ R) (hm : n ≤ maxLen) : OwnG w base (.slice (some ⟨R,0,none⟩) n n) ls:=by
 obtain ⟨mv,h1,h2,h3⟩:=h
 refine ⟨mv,⟨by rw [lenFlatVal,Nat.mul_one],.inr ⟨R,n,mv.toArray,by rw [h1],hb,h2,by omega,hm,by simp [h1],?_⟩⟩,by rw [h1,hn],fun i v hv => ?_⟩
 ·rw [Nat.mul_one,List.take_of_length_le (by simp)]
  have : ∀ x : List Value,x.flatMap eVal = x:=fun x => by
   induction x with
   | nil => rfl
   | cons a r ih => rw [List.flatMap_cons,ih];rfl
  rw [this]
 ·obtain ⟨l,hl,ho⟩:=h3 i v (by have:=(List.getElem?_eq_some_iff.1 hv).1;omega) hv
  exact ⟨l,hl,ho.mono (by omega)⟩
end Go.Proofs.Ytmennjmjakdkcaa
namespace Go.Proofs.Ytmennjmjakdkcaa
open Go.RowKit
set_option linter.unusedVariables false
set_option linter.unusedSimpArgs false
structure HbZ (w : World) (b : Hb) : Prop where
 m : b.A = none → b.c = 0
 k : b.Ak = none → b.ck = 0
 h : GridZ w b.Ah b.hs.length b.hs
 d : b.Ad = none → b.cd = 0
theorem HbZ.below {w w' : World} {b : Hb} {B : Nat} (h : HbZ w b) (hb : Below B w w') (hB : w.heap.size ≤ B) : HbZ w' b:=⟨h.m,h.k,h.h.below hb hB,h.d⟩
theorem HbO.z {w : World} {base : Nat} {b : Hb} (h : HbO w base b) : HbZ w b:=by
 obtain ⟨A1,c1,e1,-,-,-,z1⟩:=h.m.formZ lenMk
 obtain ⟨A2,c2,e2,-,-,-,z2⟩:=h.k.formZ lenInt
 obtain ⟨A3,c3,e3,g3,-,-,z3⟩:=h.h.formZ
 obtain ⟨A4,c4,e4,-,-,-,z4⟩:=h.d.formZ lenDe
 injection e1 with a1 _ b1
 injection e2 with a2 _ b2
 injection e3 with a3 _ b3
 injection e4 with a4 _ b4
 exact ⟨fun e => by rw [b1];exact z1 (a1 ▸ e),fun e => by rw [b2];exact z2 (a2 ▸ e),a3 ▸ g3,fun e => by rw [b4];exact z4 (a4 ▸ e)⟩
def FOG (base : Nat) (l : List (List Int)) : VF:=fun v w => OwnG w base v l
theorem FOG.st {base : Nat} {l : List (List Int)} (i : Nat) (v : Value) (w w' : World) (hT : TBw i w w') (h : FOG base l v w) : FOG base l v w':=OwnG.below h hT (Nat.le_refl _)
def FE0 (base : Nat) : VF:=fun v w => ∃ q : Nat,v = .slice (some ⟨q,0,none⟩) 0 0 ∧ base ≤ q ∧ w.heap[q]? = some (.cells #[] 38 (0,0))
theorem FE0.st {base : Nat} (i : Nat) (v : Value) (w w' : World) (hT : TBw i w w') (h : FE0 base v w) : FE0 base v w':=by
 obtain ⟨q,h1,h2,h3⟩:=h
 exact ⟨q,h1,h2,bheap h3 hT (Nat.le_refl _)⟩
end Go.Proofs.Ytmennjmjakdkcaa
namespace Go.Proofs.Ytmennjmjakdkcaa
open Go.RowKit
set_option linter.unusedVariables false
set_option linter.unusedSimpArgs false
theorem gb_ofB {w w' : World} {row : Option Nat} (h : Below w.heap.size w w') : w.grownBy w' row:=⟨h.os,h.tape,h.output,h.size,fun j hj _ => h.block j hj⟩
structure TruI (b : Hb) (z : Nat) (gs : List (List Int)) (Ag : Option Addr) (v : Value) (E : List (List Int)) (w : World) : Prop where
 own : OwnG w z v E
 zw : z ≤ w.heap.size
 keep : ∀ w',w.grownBy w' v.ownBlock → GridZ w' Ag gs.length gs ∧ HbIn w' b
structure TruE (z : Nat) (v : Value) (w : World) (v' : Value) (E' : List (List Int)) (w' : World) : Prop where
 own : OwnG w' z v' E'
 gr : w.grownBy w' v.ownBlock
 lies : ∀ k,v'.ownBlock = some k → v.ownBlock = some k ∨ w.heap.size ≤ k
def TruR (z : Nat) (v : Value) (E' : List (List Int)) (w : World) (e : Ending) (w' : World) : Prop:=∃ v',e = .returned v' ∧ TruE z v w v' E' w'
section
variable {b : Hb} {z : Nat} {gs : List (List Int)} {Ag : Option Addr} {v v' v'' : Value} {E E' E'' : List (List Int)} {w w' w'' : World}
theorem TruI.at (h : TruI b z gs Ag v E w) : GridZ w Ag gs.length gs ∧ HbIn w b:=h.keep w (World.grownBy.refl _ _)
theorem TruI.below (h : TruI b z gs Ag v E w) (hb : Below w.heap.size w w') : TruI b z gs Ag v E w' :=
 ⟨h.own.below hb (Nat.le_refl _),Nat.le_trans h.zw hb.size,fun w'' hg => h.keep w'' ((gb_ofB hb).trans hg)⟩
theorem TruE.trans (h : TruE z v w v' E' w') (k : TruE z v' w' v'' E'' w'') : TruE z v w v'' E'' w'':=by
 refine ⟨k.own,⟨k.gr.os.trans h.gr.os,k.gr.tape.trans h.gr.tape,k.gr.output.trans h.gr.output,Nat.le_trans h.gr.size k.gr.size,fun j hj hne => ?_⟩,fun j hj => ?_⟩
 ·refine (k.gr.block j (Nat.lt_of_lt_of_le hj h.gr.size) (fun e => ?_)).trans (h.gr.block j hj hne)
  rcases h.lies j e.symm with h1 | h1
  ·exact hne h1.symm
  ·omega
 ·rcases k.lies j hj with h1 | h1
  ·exact h.lies j h1
  ·exact .inr (Nat.le_trans h.gr.size h1)
theorem TruE.refl (h : OwnG w z v E) : TruE z v w v E w:=⟨h,World.grownBy.refl _ _,fun k hk => .inl hk⟩
theorem TruE.before (hb : Below w.heap.size w w') (h : TruE z v w' v' E' w'') : TruE z v w v' E' w'' :=
 ⟨h.own,(gb_ofB hb).trans h.gr,fun k hk => (h.lies k hk).imp id fun h1 => Nat.le_trans hb.size h1⟩
theorem TruE.then (h : TruE z v w v' E' w') (hb : Below w'.heap.size w' w'') : TruE z v w v' E' w'':=⟨h.own.below hb (Nat.le_refl _),h.gr.trans (gb_ofB hb),h.lies⟩
theorem TruI.step (h : TruI b z gs Ag v E w) (k : TruE z v w v' E' w') : TruI b z gs Ag v' E' w':=by
 refine ⟨k.own,Nat.le_trans h.zw k.gr.size,fun w'' hg => h.keep w'' ⟨hg.os.trans k.gr.os,hg.tape.trans k.gr.tape,hg.output.trans k.gr.output,Nat.le_trans k.gr.size hg.size,fun j hj hne => ?_⟩⟩
 refine (hg.block j (Nat.lt_of_lt_of_le hj k.gr.size) (fun e => ?_)).trans (k.gr.block j hj hne)
 rcases k.lies j e.symm with h1 | h1
 ·exact hne h1.symm
 ·omega
end
theorem TruI.next {b : Hb} {z : Nat} {gs gs' : List (List Int)} {Ag An : Option Addr} {cn : Nat} {v : Value} {E : List (List Int)} {w1 W : World} (h : TruI b z gs Ag v E w1) (hB : Below w1.heap.size w1 W) (hE : EndG W w1.heap.size (.slice An gs'.length cn) gs') : TruI b z gs' An v E W:=by
 have hk:=h.below hB
 refine ⟨hk.own,hk.zw,fun w' hg => ⟨?_,(hk.keep w' hg).2⟩⟩
 obtain ⟨mv,ho,-⟩:=h.own
 have hE':=hE.grown hg fun k e => (ho.lt k e).2
 obtain ⟨A,c,e,hz,-,-,-⟩:=hE'.ownG.formZ
 injection e with e1 _ _
 rw [e1]
 exact hz
theorem trG_one {t : Int} {l : List Mk} {deed owner : Int} {ds : List De} {i : Nat} {gs g : List (List Int)} {d : De} (hn : nnG gs = true) (hd : ds[i]? = some d) (hs : stepG t l deed owner i d gs = [g]) : trG t l deed owner (ds.drop i) i gs = trG t l deed owner (ds.drop (i + 1)) (i + 1) g:=by
 obtain ⟨hi,e⟩:=List.getElem?_eq_some_iff.1 hd
 rw [List.drop_eq_getElem_cons hi,e]
 show (if nnG gs then (stepG t l deed owner i d gs).flatMap (trG t l deed owner (ds.drop (i + 1)) (i + 1)) else []) = _
 rw [if_pos hn,hs]
 simp
theorem trG_gen {t : Int} {l : List Mk} {deed owner : Int} {ds : List De} {i : Nat} {gs : List (List Int)} {d : De} (hn : nnG gs = true) (hd : ds[i]? = some d) : trG t l deed owner (ds.drop i) i gs = (stepG t l deed owner i d gs).flatMap (trG t l deed owner (ds.drop (i + 1)) (i + 1)):=by
 obtain ⟨hi,e⟩:=List.getElem?_eq_some_iff.1 hd
 rw [List.drop_eq_getElem_cons hi,e]
 show (if nnG gs then _ else []) = _
 rw [if_pos hn]
def BdG (B : Int) (gs : List (List Int)) : Prop:=∀ r ∈ gs,∀ x ∈ r,-B ≤ x ∧ x ≤ B
theorem BdG.add {B K : Int} {gs : List (List Int)} {f o : Nat} {k : Int} (h : BdG B gs) (hk : -K ≤ k ∧ k ≤ K) (hK : 0 ≤ K) (hB : 0 ≤ B) : BdG (B + K) (addG gs f o k):=by
 intro r hr x hx
 unfold addG at hr
 rcases List.mem_or_eq_of_mem_set hr with hr | rfl
 ·have:=h r hr x hx;omega
 ·rcases List.mem_or_eq_of_mem_set hx with hx | rfl
  ·rw [List.getD_eq_getElem?_getD] at hx
   cases hg : gs[f]? with
   | none => rw [hg] at hx;cases hx
   | some q =>
     rw [hg] at hx
     have:=h q (List.mem_of_getElem? hg) x hx;omega
  ·have hg : -B ≤ getG gs f o ∧ getG gs f o ≤ B:=by
    unfold getG
    rw [List.getD_eq_getElem?_getD,List.getD_eq_getElem?_getD]
    cases hg : gs[f]? with
    | none => simp;omega
    | some q =>
      simp only [Option.getD_some]
      cases ho : q[o]? with
      | none => simp;omega
      | some y => exact h q (List.mem_of_getElem? hg) y (List.mem_of_getElem? ho)
   omega
theorem getG_bd {B : Int} {gs : List (List Int)} (h : BdG B gs) (hB : 0 ≤ B) (f o : Nat) : -B ≤ getG gs f o ∧ getG gs f o ≤ B:=by
 unfold getG
 rw [List.getD_eq_getElem?_getD,List.getD_eq_getElem?_getD]
 cases hg : gs[f]? with
 | none => simp;omega
 | some q =>
   simp only [Option.getD_some]
   cases ho : q[o]? with
   | none => simp;omega
   | some y => exact h q (List.mem_of_getElem? hg) y (List.mem_of_getElem? ho)
theorem EndG.turn {w2 : World} {base bn on0 k cn g cg' n fn on nq : Nat} {gs : List (List Int)} {x y : Int} (hen : EndG w2 base (.slice (some ⟨bn,on0,none⟩) k cn) gs) (hfg : fn < gs.length) (hrl : (gs.getD fn []).length = n) (hol : on < n) (hx : x = getG gs fn on)
 (yr : w2.cell? ⟨bn,on0 + fn,none⟩ = some (.slice (some ⟨g,0,none⟩) n cg')) : EndG ((w2.drewN nq).setCell ⟨g,on,none⟩ (.int .i64 (x + y))) base (.slice (some ⟨bn,on0,none⟩) k cn) (addG gs fn on y):=by
 have hq : EndG (w2.drewN nq) base (.slice (some ⟨bn,on0,none⟩) k cn) gs:=hen.upon fun _ _ => rfl
 obtain ⟨bn',on',cn',g',cg'',e,yr',-,-,-,-,-,-,hput⟩:=hq.at (f:=fn) (o:=on) hfg (by rw [hrl];exact hol)
 injection e with e1 e2 e3
 injection e1 with e1
 injection e1 with e1 e4 _
 subst e1 e4
 have hyy : (w2.drewN nq).cell? ⟨bn,on0 + fn,none⟩ = some (.slice (some ⟨g,0,none⟩) n cg'):=yr
 rw [hyy] at yr'
 injection yr' with y1
 injection y1 with y1 _ _
 injection y1 with y1
 injection y1 with y1 _ _
 subst y1
 have h:=hput (x + y)
 unfold addG
 rw [← hx]
 exact h
theorem BdG.mono {B C : Int} {gs : List (List Int)} (h : BdG B gs) (hc : B ≤ C) : BdG C gs:=fun r hr x hx => by have:=h r hr x hx;omega
def TruC (b : Hb) (deed owner : Int) (m : Nat) : Prop:=∀ (i : Nat),i + m = b.ds.length → ∀ (z : Nat) (gs : List (List Int)) (Ag : Option Addr) (cg : Nat) (v : Value) (E : List (List Int)) (w : World),
 GSh b.l.length b.ks.length gs → BdG (20 + 20 * i) gs → gs.length ≤ cg → cg ≤ maxLen → TruI b z gs Ag v E w → E.length + 35 ^ m ≤ 35 ^ 6 →
 Calls Try.prog 22 #[b.v,.int .i64 i,.slice Ag gs.length cg,.int .i64 deed,.int .i64 owner,v] w (TruR z v (addsE E (trG b.t b.l deed owner (b.ds.drop i) i gs)) w)
theorem flat_sh_len {n : Nat} : ∀ {gs : List (List Int)},(∀ r ∈ gs,r.length = n) → gs.flatten.length = gs.length * n
 | [],_ => by simp
 | r :: gs,h => by
   rw [List.flatten_cons,List.length_append,flat_sh_len fun r hr => h r (List.mem_cons_of_mem _ hr),h r List.mem_cons_self,List.length_cons,Nat.succ_mul]
   omega
theorem take_flat {gs : List (List Int)} {k : Nat} {r : List Int} (h : gs[k]? = some r) : (gs.take (k + 1)).flatten = (gs.take k).flatten ++ r:=by
 rw [List.take_add_one,h,List.flatten_append];simp
theorem take_flat_len {n : Nat} {gs : List (List Int)} (h : ∀ r ∈ gs,r.length = n) (k : Nat) : (gs.take k).flatten.length ≤ gs.length * n:=by
 rw [flat_sh_len fun r hr => h r (List.mem_of_mem_take hr),List.length_take]
 exact Nat.mul_le_mul_right _ (Nat.min_le_right _ _)
theorem trG_no {t : Int} {l : List Mk} {deed owner : Int} {ds : List De} {i : Nat} {gs : List (List Int)} (h : ¬ nnG gs = true) : trG t l deed owner ds i gs = []:=by
 cases ds with
 | nil => exact if_neg h
 | cons d ds => exact if_neg h
end Go.Proofs.Ytmennjmjakdkcaa
namespace Go.Proofs.Ytmennjmjakdkcaa
open Go.RowKit
set_option linter.unusedVariables false
set_option linter.unusedSimpArgs false
set_option maxRecDepth 1000000
noncomputable def rgTru31 : Code:=((Try.f22.body.bind (findRgn 31)).getD .skip)
def RgTruQ31 (DK bn on0 k cn : Nat) (v0 v1 v2 v3 v4 v5 v6 v7 v8 v9 Z0 Z1 Z2 Z3 Z4 Z5 Z6 Z7 Z8 Z9 ZA ZB ZC ZD ZE ZF ZG ZH ZI ZJ ZK ZL ZM ZN ZO ZP ZQ ZR ZS ZT ZU ZV ZW ZX ZY ZZ Za Zb Zc Zd Ze Zf Zg Zh Zi Zj Zk Zl Zm Zn Zo Zp Zq Zr Zs Zt Zu Zv Zw Zx Zy Zz Y0 Y1 Y2 Y3 Y4 Y5 Y6 Y7 Y8 Y9 YA YB YC YD YE YF YG YH YI YJ YK YL YM YN YO YP YQ YR YS YT YU YV YW YX YY YZ Ya Yb Yc Yd Ye Yf Yg Yh Yi Yj Yk Yl Ym Yn Yo Yp Yq Yr Ys Yt Yu Yv Yw Yx Yy Yz X0 X1 X2 X3 X4 X5 X6 X7 X8 X9 XA XB XC XD XE XF XG XH XI XJ XK XL XM XN XO XP XQ XR XS XT XU XV XW XX XY XZ Xa Xb Xc Xd Xe Xf Xg Xh Xi Xj Xk Xl Xm Xn Xo Xp Xq Xr Xs Xt Xu Xv Xw Xx Xy Xz K0 K1 K2 K3 K4 K5 K6 K7 K8 K9 KA KB KC KD KE KF KG KH KI KJ KK KL KM KN KO KP KQ KR KS KT KU KV KW KX KY KZ Ka Kb Kc Kd Ke Kf Kg Kh Ki Kj Kk Kl Km Kn Ko Kp Kq Kr Ks Kt Ku Kv Kw Kx Ky Kz J0 J1 J2 J3 J4 J5 J6 J7 J8 J9 JA JB JC JD JE JF JG JH JI JJ JK JL JM JN JO JP JQ JR JS JT JU JV JW JX JY JZ Ja Jb Jc Jd Je Jf Jg Jh Ji Jj Jk Jl Jm Jn Jo Jp Jq Jr Js Jt Ju Jv Jw Jx Jy Jz G0 G1 G2 G3 G4 G5 G6 G7 G8 G9 GA GB GC GD GE GF GG GH GI GJ GK GL GM GN GO GP GQ GR GS GT GU GV GW GX GY GZ Ga Gb Gc Gd Ge Gf Gg Gh Gi Gj Gk Gl Gm Gn Gp Gq Gr Gs Gt Gu Gv Gw Gx Gy Gz F0 F1 F2 F3 F4 F5 F6 F7 F8 F9 FA FB : Value) (Q : Exit → Act → World → Prop) (w' : World) : Prop:=∀ (FC FD FE FF FG FH FI FJ FK FL FM FN FO FP FQ FR FS FT FU FV FW FX FY FZ Fa Fb Fc Fd Fe Ff Fg Fh Fi Fj Fk Fl Fm Fn Fo Fp : Value),Q .normal ⟨#[v0,v1,v2,v3,v4,v5,v6,v7,v8,v9,Z0,Z1,Z2,Z3,Z4,Z5,Z6,Z7,Value.pointer (some ⟨DK,0,none⟩),Value.slice (some ⟨bn,on0,none⟩) k cn,Z8,Z9,ZA,ZB,ZC,ZD,ZE,ZF,ZG,ZH,ZI,ZJ,ZK,ZL,ZM,ZN,ZO,ZP,ZQ,ZR,ZS,ZT,ZU,ZV,ZW,ZX,ZY,ZZ,Za,Zb,Zc,Zd,Ze,Zf,Zg,Zh,Zi,Zj,Zk,Zl,Zm,Zn,Zo,Zp,Zq,Zr,Zs,Zt,Zu,Zv,Zw,Zx,Zy,Zz,Y0,Y1,Y2,Y3,Y4,Y5,Y6,Y7,Y8,Y9,YA,YB,YC,YD,YE,YF,YG,YH,YI,YJ,YK,YL,YM,YN,YO,YP,YQ,YR,YS,YT,YU,YV,YW,YX,YY,YZ,Ya,Yb,Yc,Yd,Ye,Yf,Yg,Yh,Yi,Yj,Yk,Yl,Ym,Yn,Yo,Yp,Yq,Yr,Ys,Yt,Yu,Yv,Yw,Yx,Yy,Yz,X0,X1,X2,X3,X4,X5,X6,X7,X8,X9,XA,XB,XC,XD,XE,XF,XG,XH,XI,FC,FD,FE,FF,FG,FH,FI,FJ,FK,FL,FM,FN,FO,FP,FQ,FR,FS,FT,FU,FV,FW,FX,FY,FZ,Fa,Fb,Fc,Fd,Fe,Ff,Fg,Fh,Fi,Fj,Fk,Fl,Fm,Fn,Fo,Fp,Xx,Xy,Xz,K0,K1,K2,K3,K4,K5,K6,K7,K8,K9,KA,KB,KC,KD,KE,KF,KG,KH,KI,KJ,KK,KL,KM,KN,KO,KP,KQ,KR,KS,KT,KU,KV,KW,KX,KY,KZ,Ka,Kb,Kc,Kd,Ke,Kf,Kg,Kh,Ki,Kj,Kk,Kl,Km,Kn,Ko,Kp,Kq,Kr,Ks,Kt,Ku,Kv,Kw,Kx,Ky,Kz,J0,J1,J2,J3,J4,J5,J6,J7,J8,J9,JA,JB,JC,JD,JE,JF,JG,JH,JI,JJ,JK,JL,JM,JN,JO,JP,JQ,JR,JS,JT,JU,JV,JW,JX,JY,JZ,Ja,Jb,Jc,Jd,Je,Jf,Jg,Jh,Ji,Jj,Jk,Jl,Jm,Jn,Jo,Jp,Jq,Jr,Js,Jt,Ju,Jv,Jw,Jx,Jy,Jz,G0,G1,G2,G3,G4,G5,G6,G7,G8,G9,GA,GB,GC,GD,GE,GF,GG,GH,GI,GJ,GK,GL,GM,GN,GO,GP,GQ,GR,GS,GT,GU,GV,GW,GX,GY,GZ,Ga,Gb,Gc,Gd,Ge,Gf,Gg,Gh,Gi,Gj,Gk,Gl,Gm,Gn,Gp,Gq,Gr,Gs,Gt,Gu,Gv,Gw,Gx,Gy,Gz,F0,F1,F2,F3,F4,F5,F6,F7,F8,F9,FA,FB],[]⟩ w'
set_option maxHeartbeats 8000000 in
theorem tru_sold (DK bn on0 k cn : Nat) (w2 V1 : World) (g cg nl fn on xn : Nat) (x y many : Int) (v0 v1 v2 v3 v4 v5 v6 v7 v8 v9 Z0 Z1 Z2 Z3 Z4 Z5 Z6 Z7 Z8 Z9 ZA ZB ZC ZD ZE ZF ZG ZH ZI ZJ ZK ZL ZM ZN ZO ZP ZQ ZR ZS ZT ZU ZV ZW ZX ZY ZZ Za Zb Zc Zd Ze Zf Zg Zh Zi Zj Zk Zl Zm Zn Zo Zp Zq Zr Zs Zt Zu Zv Zw Zx Zy Zz Y0 Y1 Y2 Y3 Y4 Y5 Y6 Y7 Y8 Y9 YA YB YC YD YE YF YG YH YI YJ YK YL YM YN YO YP YQ YR YS YT YU YV YW YX YY YZ Ya Yb Yc Yd Ye Yf Yg Yh Yi Yj Yk Yl Ym Yn Yo Yp Yq Yr Ys Yt Yu Yv Yw Yx Yy Yz X0 X1 X2 X3 X4 X5 X6 X7 X8 X9 XA XB XC XD XE XF XG XH XI XJ XK XL XM XN XO XP XQ XR XS XT XU XV XW XX XY XZ Xa Xb Xc Xd Xe Xf Xg Xh Xi Xj Xk Xl Xm Xn Xo Xp Xq Xr Xs Xt Xu Xv Xw Xx Xy Xz K0 K1 K2 K3 K4 K5 K6 K7 K8 K9 KA KB KC KD KE KF KG KH KI KJ KK KL KM KN KO KP KQ KR KS KT KU KV KW KX KY KZ Ka Kb Kc Kd Ke Kf Kg Kh Ki Kj Kk Kl Km Kn Ko Kp Kq Kr Ks Kt Ku Kv Kw Kx Ky Kz J0 J1 J2 J3 J4 J5 J6 J7 J8 J9 JA JB JC JD JE JF JG JH JI JJ JK JL JM JN JO JP JQ JR JS JT JU JV JW JX JY JZ Ja Jb Jc Jd Je Jf Jg Jh Ji Jj Jk Jl Jm Jn Jo Jp Jq Jr Js Jt Ju Jv Jw Jx Jy Jz G0 G1 G2 G3 G4 G5 G6 G7 G8 G9 GA GB GC GD GE GF GG GH GI GJ GK GL GM GN GO GP GQ GR GS GT GU GV GW GX GY GZ Ga Gb Gc Gd Ge Gf Gg Gh Gi Gj Gk Gl Gm Gn Gp Gq Gr Gs Gt Gu Gv Gw Gx Gy Gz F0 F1 F2 F3 F4 F5 F6 F7 F8 F9 FA FB : Value) (Q : Exit → Act → World → Prop)
 (HCD : Hid (∀ w',PS1 w2.drew V1 0 w' → w'.cell? ⟨DK,1,none⟩ = some (.int .i64 (fn : Int)) ∧ w'.cell? ⟨DK,2,none⟩ = some (.int .i64 (on : Int)) ∧ w'.cell? ⟨DK,3,none⟩ = some (.int .i64 (xn : Int)) ∧ w'.cell? ⟨DK,5,none⟩ = some (.int .i64 many) ∧ DK < w'.heap.size))
 (HV1 : Hid (V1 = w2.drew.setCell ⟨g,on,none⟩ (.int .i64 (x - many))))
 (z1 : w2.cell? ⟨DK,1,none⟩ = some (.int .i64 (fn : Int))) (z2 : w2.cell? ⟨DK,2,none⟩ = some (.int .i64 (on : Int))) (z3 : w2.cell? ⟨DK,3,none⟩ = some (.int .i64 (xn : Int))) (z5 : w2.cell? ⟨DK,5,none⟩ = some (.int .i64 many)) (hlD : DK < w2.heap.size)
 (yr : w2.cell? ⟨bn,on0 + fn,none⟩ = some (.slice (some ⟨g,0,none⟩) nl cg)) (yc : w2.cell? ⟨g,on,none⟩ = some (.int .i64 x)) (yc' : w2.cell? ⟨g,xn,none⟩ = some (.int .i64 y)) (fz : w2.frozen? ⟨g,on,none⟩ = false)
 (ux : V1.cell? ⟨g,xn,none⟩ = some (.int .i64 y)) (uf : V1.frozen? ⟨g,xn,none⟩ = false) (ul : g < V1.heap.size)
 (hxb : -140 ≤ x ∧ x ≤ 140) (hyb : -140 ≤ y ∧ y ≤ 140) (hm : 0 ≤ many ∧ many ≤ 20) (i2 : (fn : Int) < (k : Int)) (i3 : (on : Int) < (nl : Int)) (i4 : (xn : Int) < (nl : Int)) (hbn : bn < w2.heap.size) (hgl : g < w2.heap.size) (hgc : nl ≤ cg) (hgm : cg ≤ maxLen) (hcn : cn ≤ maxLen)
 (HQ : RgTruQ31 DK bn on0 k cn v0 v1 v2 v3 v4 v5 v6 v7 v8 v9 Z0 Z1 Z2 Z3 Z4 Z5 Z6 Z7 Z8 Z9 ZA ZB ZC ZD ZE ZF ZG ZH ZI ZJ ZK ZL ZM ZN ZO ZP ZQ ZR ZS ZT ZU ZV ZW ZX ZY ZZ Za Zb Zc Zd Ze Zf Zg Zh Zi Zj Zk Zl Zm Zn Zo Zp Zq Zr Zs Zt Zu Zv Zw Zx Zy Zz Y0 Y1 Y2 Y3 Y4 Y5 Y6 Y7 Y8 Y9 YA YB YC YD YE YF YG YH YI YJ YK YL YM YN YO YP YQ YR YS YT YU YV YW YX YY YZ Ya Yb Yc Yd Ye Yf Yg Yh Yi Yj Yk Yl Ym Yn Yo Yp Yq Yr Ys Yt Yu Yv Yw Yx Yy Yz X0 X1 X2 X3 X4 X5 X6 X7 X8 X9 XA XB XC XD XE XF XG XH XI XJ XK XL XM XN XO XP XQ XR XS XT XU XV XW XX XY XZ Xa Xb Xc Xd Xe Xf Xg Xh Xi Xj Xk Xl Xm Xn Xo Xp Xq Xr Xs Xt Xu Xv Xw Xx Xy Xz K0 K1 K2 K3 K4 K5 K6 K7 K8 K9 KA KB KC KD KE KF KG KH KI KJ KK KL KM KN KO KP KQ KR KS KT KU KV KW KX KY KZ Ka Kb Kc Kd Ke Kf Kg Kh Ki Kj Kk Kl Km Kn Ko Kp Kq Kr Ks Kt Ku Kv Kw Kx Ky Kz J0 J1 J2 J3 J4 J5 J6 J7 J8 J9 JA JB JC JD JE JF JG JH JI JJ JK JL JM JN JO JP JQ JR JS JT JU JV JW JX JY JZ Ja Jb Jc Jd Je Jf Jg Jh Ji Jj Jk Jl Jm Jn Jo Jp Jq Jr Js Jt Ju Jv Jw Jx Jy Jz G0 G1 G2 G3 G4 G5 G6 G7 G8 G9 GA GB GC GD GE GF GG GH GI GJ GK GL GM GN GO GP GQ GR GS GT GU GV GW GX GY GZ Ga Gb Gc Gd Ge Gf Gg Gh Gi Gj Gk Gl Gm Gn Gp Gq Gr Gs Gt Gu Gv Gw Gx Gy Gz F0 F1 F2 F3 F4 F5 F6 F7 F8 F9 FA FB Q (V1.setCell ⟨g,xn,none⟩ (.int .i64 (y + many)))) :
 Code.wp Try.prog rgTru31 Q ⟨#[v0,v1,v2,v3,v4,v5,v6,v7,v8,v9,Z0,Z1,Z2,Z3,Z4,Z5,Z6,Z7,Value.pointer (some ⟨DK,0,none⟩),Value.slice (some ⟨bn,on0,none⟩) k cn,Z8,Z9,ZA,ZB,ZC,ZD,ZE,ZF,ZG,ZH,ZI,ZJ,ZK,ZL,ZM,ZN,ZO,ZP,ZQ,ZR,ZS,ZT,ZU,ZV,ZW,ZX,ZY,ZZ,Za,Zb,Zc,Zd,Ze,Zf,Zg,Zh,Zi,Zj,Zk,Zl,Zm,Zn,Zo,Zp,Zq,Zr,Zs,Zt,Zu,Zv,Zw,Zx,Zy,Zz,Y0,Y1,Y2,Y3,Y4,Y5,Y6,Y7,Y8,Y9,YA,YB,YC,YD,YE,YF,YG,YH,YI,YJ,YK,YL,YM,YN,YO,YP,YQ,YR,YS,YT,YU,YV,YW,YX,YY,YZ,Ya,Yb,Yc,Yd,Ye,Yf,Yg,Yh,Yi,Yj,Yk,Yl,Ym,Yn,Yo,Yp,Yq,Yr,Ys,Yt,Yu,Yv,Yw,Yx,Yy,Yz,X0,X1,X2,X3,X4,X5,X6,X7,X8,X9,XA,XB,XC,XD,XE,XF,XG,XH,XI,XJ,XK,XL,XM,XN,XO,XP,XQ,XR,XS,XT,XU,XV,XW,XX,XY,XZ,Xa,Xb,Xc,Xd,Xe,Xf,Xg,Xh,Xi,Xj,Xk,Xl,Xm,Xn,Xo,Xp,Xq,Xr,Xs,Xt,Xu,Xv,Xw,Xx,Xy,Xz,K0,K1,K2,K3,K4,K5,K6,K7,K8,K9,KA,KB,KC,KD,KE,KF,KG,KH,KI,KJ,KK,KL,KM,KN,KO,KP,KQ,KR,KS,KT,KU,KV,KW,KX,KY,KZ,Ka,Kb,Kc,Kd,Ke,Kf,Kg,Kh,Ki,Kj,Kk,Kl,Km,Kn,Ko,Kp,Kq,Kr,Ks,Kt,Ku,Kv,Kw,Kx,Ky,Kz,J0,J1,J2,J3,J4,J5,J6,J7,J8,J9,JA,JB,JC,JD,JE,JF,JG,JH,JI,JJ,JK,JL,JM,JN,JO,JP,JQ,JR,JS,JT,JU,JV,JW,JX,JY,JZ,Ja,Jb,Jc,Jd,Je,Jf,Jg,Jh,Ji,Jj,Jk,Jl,Jm,Jn,Jo,Jp,Jq,Jr,Js,Jt,Ju,Jv,Jw,Jx,Jy,Jz,G0,G1,G2,G3,G4,G5,G6,G7,G8,G9,GA,GB,GC,GD,GE,GF,GG,GH,GI,GJ,GK,GL,GM,GN,GO,GP,GQ,GR,GS,GT,GU,GV,GW,GX,GY,GZ,Ga,Gb,Gc,Gd,Ge,Gf,Gg,Gh,Gi,Gj,Gk,Gl,Gm,Gn,Gp,Gq,Gr,Gs,Gt,Gu,Gv,Gw,Gx,Gy,Gz,F0,F1,F2,F3,F4,F5,F6,F7,F8,F9,FA,FB],[]⟩ w2:=by
 dsimp only
 conv => arg 2;whnf
 refine wp_region_tag 40 39 1 [0,1,2,3,4,5,6,11,14,15,16,17,18,19,20,21,22,23,24,25,30,34,38] [] 0 (TS1 w2.drew V1) (PS1 w2.drew V1) [0,0,0,0,0,0,0,0,0,0,0,0,0,0,0,0,0,0,0,0,0,0,0,0,0,0,0,0,0,0,0,0,0,0,0,0,0,0,0,1] (by as_aux_lemma => kernel_rfl) (by as_aux_lemma => kernel_rfl) (by as_aux_lemma => kernel_rfl) (by as_aux_lemma => kernel_rfl) (by omega) (.inr rfl) (by as_aux_lemma => kernel_rfl) rfl (fun k j w1 w2 hc _ hT hp => PS1.st k j w1 w2 hc hT hp) (fun k => PS1.start k) ?_
 apply Exists.intro
 refine ⟨fun ys => ?_,fun ops K hK => ?_⟩
 ·simp only [List.take_succ_cons,List.take_zero,dstsOf,List.filterMap_cons,List.filterMap_nil,putAll]
  go_simp
  rfl
 simp only [List.take_succ_cons,List.take_zero,List.drop_succ_cons,List.drop_zero] at hK ⊢
 iterate 7
  refine LexT.const (fun _ => rfl) ?_
  apply Exists.intro
  refine ⟨fun ys w' hp hpk hq hd => ?_,?_⟩
  ·try simp [DepsOf,depsGo,DF.holds,Region.binds,EqF] at hd
   try simp only [hd]
   replace hq : w' = w2.drew:=hq (by simp)
   subst hq
   clear hpk hp
   intro Q2 hQ2
   go_wp2_with fail
   rfl
  try simp only [List.nil_append,List.cons_append]
 iterate 4
  refine LexT.const (fun _ => rfl) ?_
  apply Exists.intro
  refine ⟨fun ys w' hp hpk hq hd => ?_,?_⟩
  ·try simp [DepsOf,depsGo,DF.holds,Region.binds,EqF] at hd
   try simp only [hd]
   obtain ⟨d1,d2,d3,d5,dl⟩:=HCD.out w' hp
   clear hp hpk hq
   intro Q2 hQ2
   go_wp2_with fail
   rfl
  try simp only [List.nil_append,List.cons_append]
 iterate 1
  refine LexT.const (fun _ => rfl) ?_
  apply Exists.intro
  refine ⟨fun ys w' hp hpk hq hd => ?_,?_⟩
  ·try simp [DepsOf,depsGo,DF.holds,Region.binds,EqF] at hd
   try simp only [hd]
   replace hq : w' = w2.drew:=hq (by simp)
   subst hq
   clear hpk hp
   intro Q2 hQ2
   go_wp2_with fail
   rfl
  try simp only [List.nil_append,List.cons_append]
 iterate 2
  refine LexT.const (fun _ => rfl) ?_
  apply Exists.intro
  refine ⟨fun ys w' hp hpk hq hd => ?_,?_⟩
  ·try simp [DepsOf,depsGo,DF.holds,Region.binds,EqF] at hd
   try simp only [hd]
   obtain ⟨d1,d2,d3,d5,dl⟩:=HCD.out w' hp
   clear hp hpk hq
   intro Q2 hQ2
   go_wp2_with fail
   rfl
  try simp only [List.nil_append,List.cons_append]
 iterate 12
  refine LexT.const (fun _ => rfl) ?_
  apply Exists.intro
  refine ⟨fun ys w' hp hpk hq hd => ?_,?_⟩
  ·try simp [DepsOf,depsGo,DF.holds,Region.binds,EqF] at hd
   try simp only [hd]
   replace hq : w' = w2.drew:=hq (by simp)
   subst hq
   clear hpk hp
   intro Q2 hQ2
   go_wp2_with fail
   rfl
  try simp only [List.nil_append,List.cons_append]
 iterate 4
  refine LexT.const (fun _ => rfl) ?_
  apply Exists.intro
  refine ⟨fun ys w' hp hpk hq hd => ?_,?_⟩
  ·try simp [DepsOf,depsGo,DF.holds,Region.binds,EqF] at hd
   try simp only [hd]
   obtain ⟨d1,d2,d3,d5,dl⟩:=HCD.out w' hp
   clear hp hpk hq
   intro Q2 hQ2
   go_wp2_with fail
   rfl
  try simp only [List.nil_append,List.cons_append]
 iterate 1
  refine LexT.const (fun _ => rfl) ?_
  apply Exists.intro
  refine ⟨fun ys w' hp hpk hq hd => ?_,?_⟩
  ·try simp [DepsOf,depsGo,DF.holds,Region.binds,EqF] at hd
   try simp only [hd]
   replace hq : w' = w2.drew:=hq (by simp)
   subst hq
   clear hpk hp
   intro Q2 hQ2
   go_wp2_with fail
   rfl
  try simp only [List.nil_append,List.cons_append]
 iterate 3
  refine LexT.const (fun _ => rfl) ?_
  apply Exists.intro
  refine ⟨fun ys w' hp hpk hq hd => ?_,?_⟩
  ·try simp [DepsOf,depsGo,DF.holds,Region.binds,EqF] at hd
   try simp only [hd]
   obtain ⟨d1,d2,d3,d5,dl⟩:=HCD.out w' hp
   clear hp hpk hq
   intro Q2 hQ2
   go_wp2_with fail
   rfl
  try simp only [List.nil_append,List.cons_append]
 iterate 1
  refine LexT.const (fun _ => rfl) ?_
  apply Exists.intro
  refine ⟨fun ys w' hp hpk hq hd => ?_,?_⟩
  ·try simp [DepsOf,depsGo,DF.holds,Region.binds,EqF] at hd
   try simp only [hd]
   replace hq : w' = w2.drew:=hq (by simp)
   subst hq
   clear hpk hp
   intro Q2 hQ2
   go_wp2_with fail
   rfl
  try simp only [List.nil_append,List.cons_append]
 iterate 3
  refine LexT.const (fun _ => rfl) ?_
  apply Exists.intro
  refine ⟨fun ys w' hp hpk hq hd => ?_,?_⟩
  ·try simp [DepsOf,depsGo,DF.holds,Region.binds,EqF] at hd
   try simp only [hd]
   obtain ⟨d1,d2,d3,d5,dl⟩:=HCD.out w' hp
   clear hp hpk hq
   intro Q2 hQ2
   go_wp2_with fail
   rfl
  try simp only [List.nil_append,List.cons_append]
 iterate 1
  refine LexT.const (fun _ => rfl) ?_
  apply Exists.intro
  refine ⟨fun ys w' hp hpk hq hd => ?_,?_⟩
  ·try simp [DepsOf,depsGo,DF.holds,Region.binds,EqF] at hd
   try simp only [hd]
   replace hq : w' = w2.drew:=hq (by simp)
   subst hq
   clear hpk hp
   intro Q2 hQ2
   go_wp2_with fail
   rfl
  try simp only [List.nil_append,List.cons_append]
 refine LexT.some (fun _ w => w = V1) (fun j v w1 w2 hc _ hT h => TS1.keep j v w1 w2 hc hT h) (fun ys w' hp hpk hq hd => ?_) ?_
 ·try simp [DepsOf,depsGo,DF.holds,Region.binds,EqF] at hd
  try simp only [hd]
  replace hpk : w' = w2.drew:=hpk
  subst hpk
  intro Q2 hQ2
  go_wp2_with fail
  exact ⟨⟨rfl,HV1.out.symm⟩,HV1.out.symm⟩
 try simp only [List.nil_append,List.cons_append]
 refine hK _ fun ys w' hp hF => ?_
 simp [AllF,DF.holds] at hF
 obtain ⟨q0,q1,q2,q3,q4,q5,q6,q7,q8,q9,q10,q11,q12,q13,q14,q15,q16,q17,q18,q19,q20,q21,q22,q23,q24,q25,q26,q27,q28,q29,q30,q31,q32,q33,q34,q35,q36,q37,q38,hw⟩:=hF
 subst hw
 simp only [q0,q1,q2,q3,q4,q5,q6,q7,q8,q9,q10,q11,q12,q13,q14,q15,q16,q17,q18,q19,q20,q21,q22,q23,q24,q25,q26,q27,q28,q29,q30,q31,q32,q33,q34,q35,q36,q37,q38]
 clear q0 q1 q2 q3 q4 q5 q6 q7 q8 q9 q10 q11 q12 q13 q14 q15 q16 q17 q18 q19 q20 q21 q22 q23 q24 q25 q26 q27 q28 q29 q30 q31 q32 q33 q34 q35 q36 q37 q38 hp hK
 go_wp2_with fail
 exact HQ _ _ _ _ _ _ _ _ _ _ _ _ _ _ _ _ _ _ _ _ _ _ _ _ _ _ _ _ _ _ _ _ _ _ _ _ _ _ _ _
end Go.Proofs.Ytmennjmjakdkcaa
namespace Go.Proofs.Ytmennjmjakdkcaa
set_option linter.unusedVariables false
set_option linter.unusedSimpArgs false
theorem srt_len {n m : Nat} (hn : n ≤ 5) (hm : m ≤ 3) : ((wordsL n m).filter sortB).length ≤ 35:=by
 have h : ∀ n,n < 6 → ∀ m,m < 4 → ((wordsL n m).filter sortB).length ≤ 35:=by decide +kernel
 exact h n (by omega) m (by omega)
theorem step_len {t : Int} {l : List Mk} {deed owner : Int} {i : Nat} {d : De} {gs : List (List Int)} {nf : Nat} (hn : l.length ≤ 5) (hd : DeIn l.length nf d) : (stepG t l deed owner i d gs).length ≤ 35:=by
 unfold stepG
 split
 ·simp
 split
 ·simp
 split
 ·simp
 split
 ·split <;> simp
 split
 ·rename_i h4
  unfold lostG
  rw [List.length_map]
  exact srt_len hn (by have:=hd.l h4;omega)
 ·unfold strG
  rw [List.length_map]
  refine Nat.le_trans (List.length_filter_le _ _) ?_
  rw [List.length_range]
  omega
theorem addsE_len : ∀ (G : List (List (List Int))) (E : List (List Int)),(addsE E G).length ≤ E.length + G.length
 | [],E => Nat.le_refl _
 | g :: G,E => by
   have h:=addsE_len G (addE E g)
   have h2 : (addE E g).length ≤ E.length + 1:=by
    unfold addE
    split
    ·omega
    ·simp
   show (addsE (addE E g) G).length ≤ _
   rw [List.length_cons]
   omega
theorem trG_len {t : Int} {l : List Mk} {deed owner : Int} {nf : Nat} (hn : l.length ≤ 5) : ∀ (ds : List De) (i : Nat) (gs : List (List Int)),(∀ d ∈ ds,DeIn l.length nf d) → (trG t l deed owner ds i gs).length ≤ 35 ^ ds.length
 | [],i,gs,_ => by
   unfold trG
   split <;> simp
 | d :: ds,i,gs,hd => by
   unfold trG
   split
   ·refine Nat.le_trans (flatMap_len (c:=35 ^ ds.length) fun g _ => trG_len hn ds (i + 1) g fun d hd' => hd d (List.mem_cons_of_mem _ hd')) ?_
    rw [List.length_cons,Nat.pow_succ,Nat.mul_comm (35 ^ ds.length)]
    exact Nat.mul_le_mul_right _ (step_len hn (hd d List.mem_cons_self))
   ·simp
end Go.Proofs.Ytmennjmjakdkcaa
namespace Go.Proofs.Ytmennjmjakdkcaa
set_option linter.unusedVariables false
set_option linter.unusedSimpArgs false
section
variable {α : Type}
def trE (E : List (List Int)) (P : α → Bool) (F : α → List (List (List Int))) (L : List α) : List (List Int):=addsE E ((L.filter P).flatMap F)
theorem trE_yes {E : List (List Int)} {P : α → Bool} {F : α → List (List (List Int))} {L : List α} {k : Nat} {w : α} (h : L[k]? = some w) (hp : P w = true) : trE E P F (L.take (k + 1)) = addsE (trE E P F (L.take k)) (F w):=by
 unfold trE
 rw [List.take_add_one,h,List.filter_append,List.flatMap_append,addsE_append]
 simp [hp]
theorem trE_no {E : List (List Int)} {P : α → Bool} {F : α → List (List (List Int))} {L : List α} {k : Nat} {w : α} (h : L[k]? = some w) (hp : P w = false) : trE E P F (L.take (k + 1)) = trE E P F (L.take k):=by
 unfold trE
 rw [List.take_add_one,h,List.filter_append,List.flatMap_append,addsE_append]
 simp [hp,addsE]
theorem trE_len {E : List (List Int)} {P : α → Bool} {F : α → List (List (List Int))} {L : List α} {c : Nat} (hF : ∀ w ∈ L,(F w).length ≤ c) : (trE E P F L).length ≤ E.length + (L.filter P).length * c:=by
 refine Nat.le_trans (addsE_len _ _) (Nat.add_le_add_left ?_ _)
 exact flatMap_len fun w hw => hF w (List.mem_filter.1 hw).1
theorem trE_room {E : List (List Int)} {P : α → Bool} {F : α → List (List (List Int))} {L : List α} {c K k : Nat} {w : α} (hF : ∀ w ∈ L,(F w).length ≤ c) (h : L[k]? = some w) (hp : P w = true) (hK : (L.filter P).length ≤ K) : (trE E P F (L.take k)).length + c ≤ E.length + c * K:=by
 have h1:=trE_len (E:=E) (P:=P) (L:=L.take k) (F:=F) fun w hw => hF w (List.mem_of_mem_take hw)
 have h2 : ((L.take k).filter P).length + 1 ≤ (L.filter P).length:=by
  have h3 : ((L.take (k + 1)).filter P).length ≤ (L.filter P).length:=((List.take_sublist (k + 1) L).filter P).length_le
  rw [List.take_add_one,h,List.filter_append,List.length_append] at h3
  simpa [hp] using h3
 have h4:=Nat.mul_le_mul_right c (Nat.le_trans h2 hK)
 rw [Nat.succ_mul,Nat.mul_comm K] at h4
 omega
end
theorem sortB_snoc (a b : Int) : ∀ l : List Int,sortB (l ++ [a,b]) = (sortB (l ++ [a]) && decide (a ≤ b))
 | [] => by simp [sortB]
 | [x] => by simp [sortB]
 | x :: y :: l => by
   have h:=sortB_snoc a b (y :: l)
   show (decide (x ≤ y) && sortB ((y :: l) ++ [a,b])) = ((decide (x ≤ y) && sortB ((y :: l) ++ [a])) && decide (a ≤ b))
   rw [h,Bool.and_assoc]
theorem sortB_take {w : List Int} {k : Nat} {a b : Int} (ha : w[k]? = some a) (hb : w[k + 1]? = some b) : sortB (w.take (k + 1 + 1)) = (sortB (w.take (k + 1)) && decide (a ≤ b)):=by
 have e1 : w.take (k + 1) = w.take k ++ [a]:=by rw [List.take_add_one,ha];rfl
 have e2 : w.take (k + 1 + 1) = w.take k ++ [a,b]:=by rw [List.take_add_one,hb,e1,List.append_assoc];rfl
 rw [e2,e1,sortB_snoc]
theorem subG_take {w : List Int} {k f : Nat} {b : Int} {gs : List (List Int)} (hb : w[k]? = some b) : subG f (w.take (k + 1)) gs = addG (subG f (w.take k) gs) f b.toNat (-1):=by
 unfold subG
 rw [List.take_add_one,hb,List.foldl_append]
 rfl
theorem flatMap_map' {α β γ : Type} (l : List α) (f : α → β) (g : β → List γ) : (l.map f).flatMap g = l.flatMap fun x => g (f x):=by
 induction l with
 | nil => rfl
 | cons x l ih => rw [List.map_cons,List.flatMap_cons,List.flatMap_cons,ih]
end Go.Proofs.Ytmennjmjakdkcaa
