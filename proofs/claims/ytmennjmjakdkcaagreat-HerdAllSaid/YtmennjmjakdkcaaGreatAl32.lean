/- HerdAll 32: RefA, TruV. -/
import Derived.Test.YtmennjmjakdkcaaGreatAl03
import Derived.Test.YtmennjmjakdkcaaGreatAl01
import Derived.Test.YtmennjmjakdkcaaGreatAl04
import Derived.Test.YtmennjmjakdkcaaGreatAl29
import Derived.Test.YtmennjmjakdkcaaGreatAl26
import Derived.BigRegion
namespace Go.Proofs.YtmennjmjakdkcaaGreat
open Go.RowKit
set_option linter.unusedVariables false
set_option linter.unusedSimpArgs false
theorem rHas (n:Int) (b:Nat) (w:World) (hn:0 ≤ n) (hn':n ≤ 255) (hb:b ≤ 8) :
 Calls Tryz.prog 123 #[.int .i64 n,.int .i64 b] w fun e w' => e = .returned (.bool (bit n b))∧w = w':=by
 obtain ⟨l,rfl⟩:=Int.eq_ofNat_of_zero_le hn
 have hl:l ≤ 255:=by omega
 go_enter Tryz.func123,Tryz.ntmps123
 go_wp2_with fail
 go_loopg [0,5] b (fun g x i wr => ∃ k:Nat,k + g = b∧i = .int .i64 k∧∃ q:Nat,x = .int .i64 q∧q = l / 2 ^ k∧w = wr)
 case atStart => exact ⟨0,by omega,rfl,l,rfl,by simp,rfl⟩
 case round =>
  obtain ⟨k,hk,rfl,q,rfl,hq,rfl⟩:=hrel
  have HK:=Lib.hid (And.intro hk hq)
  have hkb:k ≤ b:=by omega
  have hql:q ≤ 255:=by have:=Nat.div_le_self l (2 ^ k);omega
  clear hk hq
  by_cases hlt:k < b
  ·go_wp2
   go_roundg (gk - 1)
   case measure => have:=HK.out.1;omega
   case rel =>
    refine ⟨k + 1,by have:=HK.out.1;omega,by go_num,q / 2,?_,by rw [HK.out.2,Nat.pow_succ,Nat.div_div_eq_div_mul],rfl⟩
    congr 1
  ·obtain rfl:k = b:=by omega
   go_wp2
   go_ret
   refine ⟨ret_bool ?_,rfl⟩
   unfold bit
   rw [Int.toNat_natCast,Nat.testBit_eq_decide_div_mod_eq,← HK.out.2,Bool.eq_iff_iff]
   simp only [beq_iff_eq,decide_eq_true_eq]
   omega
theorem rTorn (s:Sg) (b:Nat) (w:World) (hb:b ≤ 8) :
 Calls Tryz.prog 122 #[vSg s,.int .i64 b] w fun e w' => e = .returned (.bool (tornB s.l s.r b))∧Below w.heap.size w w':=by
 obtain ⟨sn,l,r,sb,sp⟩:=s
 unfold vSg
 by_cases h4:b < 4
 ·have h4':(b:Int) < 4:=by omega
  have h4c:¬ (4:Int) ≤ (b:Int):=by omega
  have h4n:¬ 4 ≤ b:=by omega
  cases l
  all_goals
   go_enter Tryz.func122,Tryz.ntmps122
   go_wp2
   go_ret
   exact ⟨ret_bool (by simp [tornB,h4,h4n]),bal0 _ _⟩
 ·have h4':¬ (b:Int) < 4:=by omega
  have h4c:(4:Int) ≤ (b:Int):=by omega
  have h4n:4 ≤ b:=by omega
  cases r
  all_goals
   go_enter Tryz.func122,Tryz.ntmps122
   go_wp2
   go_ret
   exact ⟨ret_bool (by simp [tornB,h4,h4n]),bal0 _ _⟩
end Go.Proofs.YtmennjmjakdkcaaGreat
namespace Go.Proofs.YtmennjmjakdkcaaGreat
open Go.RowKit
set_option linter.unusedVariables false
set_option linter.unusedSimpArgs false
end Go.Proofs.YtmennjmjakdkcaaGreat
namespace Go.Proofs.YtmennjmjakdkcaaGreat
open Go.RowKit
set_option linter.unusedVariables false
set_option linter.unusedSimpArgs false
def missB (s:Sg) (m:Mk) (i:Nat):Bool:=!tornB s.l s.r i && (bit m.n i && !bit s.n i)
def moreB (s:Sg) (m:Mk) (i:Nat):Bool:=!tornB s.l s.r i && (!bit m.n i && bit s.n i)
def anyTo (p:Nat→Bool) (k:Nat):Bool:=(List.range k).any p
def cntTo (p:Nat→Bool) (k:Nat):Nat:=(List.range k).countP p
theorem anyTo_succ (p:Nat→Bool) (k:Nat):anyTo p (k + 1) = (anyTo p k || p k):=by unfold anyTo;rw [List.range_succ,List.any_append];simp
theorem cntTo_succ (p:Nat→Bool) (k:Nat):cntTo p (k + 1) = cntTo p k + if p k then 1 else 0:=by
 unfold cntTo;rw [List.range_succ,List.countP_append];cases h:p k <;> simp [h]
theorem cntTo_le (p:Nat→Bool) (k:Nat):cntTo p k ≤ k:=by have:=List.countP_le_length (p:=p) (l:=List.range k);simpa [cntTo] using this
theorem anyTo_at {p:Nat→Bool} {k:Nat} (hk:k < 8) (h:p k = true):anyTo p 8 = true:=List.any_eq_true.2 ⟨k,by simpa using hk,h⟩
theorem fits_ref {s:Sg} {m:Mk} {t:Int} (hm:m.n ≤ 255) (hs0:0 ≤ s.n) (hs1:s.n ≤ 255) (ho:onI s.n s.l s.r = s.n) :
 fits s m t = (alikeBP s m && (!anyTo (missB s m) 8 && decide ((cntTo (moreB s m) 8:Int) ≤ t))):=by
 have htorn:∀ i,i < 8→tornB s.l s.r i = true→bit s.n i = false:=fun i hi h => by
  have:=bit_on s.n s.l s.r i hi
  rw [ho,h] at this
  simpa using this
 have e1:decide (butI (onI m.n s.l s.r) s.n = 0) = !anyTo (missB s m) 8:=by
  rw [Bool.eq_iff_iff,decide_eq_true_eq,eq_zero_iff (butI_lo _ _) (butI_hi _ _)]
  simp only [Bool.not_eq_true']
  constructor
  ·intro h
   refine List.any_eq_false.2 fun i hi => ?_
   have hi':i < 8:=by simpa using hi
   have:=h i hi'
   rw [bit_but _ _ hs1 i hi',bit_on _ _ _ _ hi'] at this
   unfold missB
   revert this
   cases bit m.n i <;> cases bit s.n i <;> cases tornB s.l s.r i <;> simp
  ·intro h i hi
   have:=(List.any_eq_false.1 h) i (by simpa using hi)
   rw [bit_but _ _ hs1 i hi,bit_on _ _ _ _ hi]
   unfold missB at this
   revert this
   cases bit m.n i <;> cases bit s.n i <;> cases tornB s.l s.r i <;> simp
 have e2:popI (butI s.n (onI m.n s.l s.r)) = cntTo (moreB s m) 8:=by
  unfold popI
  show cnt _ = cnt _
  refine cnt_congr fun i hi => ?_
  rw [bit_but _ _ (onI_hi _ _ _) i hi,bit_on _ _ _ _ hi]
  unfold moreB
  have:=htorn i hi
  revert this
  cases bit m.n i <;> cases bit s.n i <;> cases tornB s.l s.r i <;> simp
 unfold fits
 rw [e1,e2,Bool.and_assoc]
set_option maxRecDepth 100000 in
set_option maxHeartbeats 2000000 in
theorem rFits (s:Sg) (m:Mk) (t:Int) (w:World) (hm0:0 ≤ m.n) (hm1:m.n ≤ 255) (hs0:0 ≤ s.n) (hs1:s.n ≤ 255) (ho:onI s.n s.l s.r = s.n) :
 Calls Tryz.prog 94 #[vSg s,vMk m,.int .i64 t] w fun e w' => e = .returned (.bool (fits s m t))∧Below w.heap.size w w':=by
 have HF:=Lib.hid (fits_ref (t:=t) hm1 hs0 hs1 ho)
 obtain ⟨R,hR⟩:∃ R,R = fits s m t:=⟨_,rfl⟩
 rw [← hR]
 have HRR:=Lib.hid hR
 clear hR ho
 go_enter Tryz.func94,Tryz.ntmps94
 unfold vSg vMk
 go_upto_region 1 with (fail)
 go_cut [30] (fun q wc => q = .bool (!alikeBP s m)∧((w.alloc (Obj.cells #[Value.int .i64 s.n,.bool s.l,.bool s.r,.int .i64 s.b,.int .i64 s.p] 31)).alloc (Obj.cells #[Value.int .i64 m.n,.int .i64 m.b,.int .i64 m.p] 117)) = wc)
 case first =>
  cases e1:(s.b != -1) <;> cases e2:(s.b != m.b) <;> cases e3:(s.p != -1) <;> cases e4:(s.p != m.p)
  all_goals
   go_wp2
   go_meet
   exact ⟨by simp_all [alikeBP],rfl⟩
 case rest =>
  obtain ⟨rfl,rfl⟩:=hcut
  obtain ⟨W0,hW⟩:∃ W0,W0 = (w.alloc (Obj.cells #[Value.int .i64 s.n,.bool s.l,.bool s.r,.int .i64 s.b,.int .i64 s.p] 31)).alloc (Obj.cells #[Value.int .i64 m.n,.int .i64 m.b,.int .i64 m.p] 117):=⟨_,rfl⟩
  rw [← hW]
  have hB0:Below w.heap.size w W0:=by rw [hW];exact bal (bal0 w _) (Nat.le_refl _) _
  have b0:W0.heap[w.heap.size]? = some (Obj.cells #[Value.int .i64 s.n,.bool s.l,.bool s.r,.int .i64 s.b,.int .i64 s.p] 31 (0,0)):=by rw [hW];exact hblk_alloc (alloc_at rfl) _
  have b1:W0.heap[w.heap.size + 1]? = some (Obj.cells #[Value.int .i64 m.n,.int .i64 m.b,.int .i64 m.p] 117 (0,0)):=by rw [hW];exact alloc_at (by simp)
  clear hW
  have HB:=Lib.hid (And.intro b0 (And.intro b1 hB0))
  clear b0 b1 hB0
  cases hal:alikeBP s m
  ·have HE:=Lib.hid hal
   go_wp2
   go_ret
   exact ⟨ret_bool (by rw [HRR.out,HF.out,HE.out];rfl),HB.out.2.2⟩
  ·have HE:=Lib.hid hal
   clear hal
   simp only [Bool.not_true]
   go_wp2_with fail
   go_loopg [7,8] 8 (fun g x i wr => ∃ k:Nat,k + g = 8∧i = .int .i64 k∧∃ q:Nat,x = .int .i64 q∧q = cntTo (moreB s m) k∧anyTo (missB s m) k = false∧Below W0.heap.size W0 wr)
   case atStart => exact ⟨0,by omega,rfl,0,rfl,rfl,rfl,Below.refl _ _⟩
   case round =>
    obtain ⟨k,hk,rfl,q,rfl,hq,hno,hbl⟩:=hrel
    have hqk:q ≤ k:=by rw [hq];exact cntTo_le _ _
    have HK:=Lib.hid (And.intro hk (And.intro hq hno))
    have hk8:k ≤ 8:=by omega
    clear hk hq hno
    obtain ⟨s0,s1,s2,s3,s4⟩:=blk5 (bheap HB.out.1 hbl (Nat.le_refl _))
    by_cases hlt:k < 8
    ·have hlt':(k:Int) < 8:=by omega
     go_wp2_with fail
     refine (rTorn s k _ hk8).mono ?_
     rintro e w2 ⟨rfl,hb2⟩
     have hbl2:=hbl.trans (hb2.mono hbl.size)
     clear s0 s1 s2 s3 s4 hb2
     obtain ⟨s0,s1,s2,s3,s4⟩:=blk5 (bheap HB.out.1 hbl2 (Nat.le_refl _))
     obtain ⟨m0,m1,m2⟩:=blk3 (bheap HB.out.2.1 hbl2 (Nat.le_refl _))
     cases ht:tornB s.l s.r k
     ·cases hbm:bit m.n k <;> cases hbs:bit s.n k
      ·have HT:=Lib.hid (And.intro ht (And.intro hbm hbs))
       go_wp2_with (go_at_call 123;refine (rHas _ k _ (by assumption) (by assumption) hk8).mono ?_;rintro e w3 ⟨rfl,rfl⟩)
       go_roundg (gk - 1)
       case measure => have:=HK.out.1;omega
       case rel => exact ⟨k + 1,by have:=HK.out.1;omega,by go_num,q,rfl,by rw [cntTo_succ,HK.out.2.1];simp [moreB,HT.out.1,HT.out.2.1,HT.out.2.2],by rw [anyTo_succ,HK.out.2.2];simp [missB,HT.out.1,HT.out.2.1,HT.out.2.2],hbl2⟩
      ·have HT:=Lib.hid (And.intro ht (And.intro hbm hbs))
       go_wp2_with (go_at_call 123;refine (rHas _ k _ (by assumption) (by assumption) hk8).mono ?_;rintro e w3 ⟨rfl,rfl⟩)
       go_roundg (gk - 1)
       case measure => have:=HK.out.1;omega
       case rel => exact ⟨k + 1,by have:=HK.out.1;omega,by go_num,q + 1,by go_num,by rw [cntTo_succ,HK.out.2.1];simp [moreB,HT.out.1,HT.out.2.1,HT.out.2.2],by rw [anyTo_succ,HK.out.2.2];simp [missB,HT.out.1,HT.out.2.1,HT.out.2.2],hbl2⟩
      ·have HT:=Lib.hid (And.intro ht (And.intro hbm hbs))
       go_wp2_with (go_at_call 123;refine (rHas _ k _ (by assumption) (by assumption) hk8).mono ?_;rintro e w3 ⟨rfl,rfl⟩)
       go_ret
       have h8:=anyTo_at (p:=missB s m) hlt (by simp [missB,HT.out.1,HT.out.2.1,HT.out.2.2])
       exact ⟨ret_bool (by rw [HRR.out,HF.out,h8];simp),HB.out.2.2.trans (hbl2.mono HB.out.2.2.size)⟩
      ·have HT:=Lib.hid (And.intro ht (And.intro hbm hbs))
       go_wp2_with (go_at_call 123;refine (rHas _ k _ (by assumption) (by assumption) hk8).mono ?_;rintro e w3 ⟨rfl,rfl⟩)
       go_roundg (gk - 1)
       case measure => have:=HK.out.1;omega
       case rel => exact ⟨k + 1,by have:=HK.out.1;omega,by go_num,q,rfl,by rw [cntTo_succ,HK.out.2.1];simp [moreB,HT.out.1,HT.out.2.1,HT.out.2.2],by rw [anyTo_succ,HK.out.2.2];simp [missB,HT.out.1,HT.out.2.1,HT.out.2.2],hbl2⟩
     ·have HT:=Lib.hid ht
      go_wp2
      go_roundg (gk - 1)
      case measure => have:=HK.out.1;omega
      case rel => exact ⟨k + 1,by have:=HK.out.1;omega,by go_num,q,rfl,by rw [cntTo_succ,HK.out.2.1];simp [moreB,HT.out],by rw [anyTo_succ,HK.out.2.2];simp [missB,HT.out],hbl2⟩
    ·obtain rfl:k = 8:=by omega
     go_wp2
     go_ret
     exact ⟨ret_bool (by rw [HRR.out,HF.out,HE.out,HK.out.2.2,← HK.out.2.1];simp),HB.out.2.2.trans (hbl.mono HB.out.2.2.size)⟩
end Go.Proofs.YtmennjmjakdkcaaGreat
namespace Go.Proofs.YtmennjmjakdkcaaGreat
open Go.RowKit
set_option linter.unusedVariables false
set_option linter.unusedSimpArgs false
set_option maxRecDepth 1000000
noncomputable def rgTru56:Code:=((Tryz.f28.body.bind (findRgn 56)).getD .skip)
def RgTruQ56 (w2:World) (BB DK o i:Nat) (deed owner:Int) (mb:Bool) (v0 v2 v5 v7 v8 v9 Z0 Z1 Z2 Z3 Z4 Z5 Z6 Z7 Z8 Z9 ZA ZB ZC ZD ZE ZF ZG ZH ZI ZJ ZK ZL ZM ZN ZO ZP ZQ ZR ZS ZT ZU ZV ZW ZX ZY ZZ Za Zb Zc Zd Ze Zf Zg Zh Zi Zj Zk Zl Zm Zn Zo Zp Zq Zr Zs Zt Zu Zv Zw Zx Zy Zz Y0 Y1 Y2 Y3 Y4 Y5 Y6 Y7 Y8 Y9 YA YB YC YD YE YF YG YH YI YJ YK YL YM YN YO YP YQ YR YS YT YU YV YW YX YY YZ Ya Yb Yc Yd Ye Yf Yg Yh Yi Yj Yk Yl Ym Yn Yo Yp Yq Yr Ys Yt Yu Yv Yw Yx Yy Yz X0 X1 X2 X3 X4 X5 X6 X7 X8 X9 XA XB XC XD XE XF XG XH XI XJ XK XL XM XN XO XP XQ XR XS XT XU XV XW XX XY XZ Xa Xb Xc Xd Xe Xf Xg Xh Xi Xj Xk Xl Xm Xn Xo Xp Xq Xr Xs Xt Xu Xv Xw Xx Xy Xz K0 K1 K2 K3 K4 K5 K6 K7 K8 K9 KA KB KC KD KE KF KG KH KI KJ KK KL KM KN KO KP KQ KR KS KT KU KV KW KX KY KZ Ka Kb Kc Kd Ke Kf Kg Kh Ki Kj Kk Kl Km Kn Ko Kp Kq Kr Ks Kt Ku Kv Kw Kx Ky Kz J0 J1 J2 J3 J4 J5 J6 J7 J8 J9 JA JB JC JD JE JF JG JH JI JJ JK JL JM JN JO JP JQ JR JS JT JU JV JW JX JY JZ Ja Jb Jc Jd Je Jf Jg Jh Ji Jj Jk Jl Jm Jn Jo Jp Jq Jr Js Jt Ju Jv Jw Jx Jy Jz G0 G1 G2 G3 G4 G5 G6 G7 G8 G9 GA GB GC GD GE GF GG GH GI GJ GK GL GM GN GO GP GQ GR GS GT GU GV GW GX GY GZ Ga Gb Gc Gd Ge Gf Gg Gh Gi Gj Gk Gl Gm Gn Gp Gq Gr Gs Gt Gu Gv Gw Gx Gy Gz F0 F1 F2 F3 F4 F5 F6 F7 F8 F9 FA FB:Value) (Q:Exit→Act→World→Prop):Prop:=∀ (FC FD FE FF FG FH FI FJ FK FL FM FN FO FP FQ FR FS FT FU FV FW FX:Value) (w':World),Below w2.heap.size w2 w'→Q .normal ⟨#[v0,Value.int .i64 (i:Int),v2,Value.int .i64 deed,Value.int .i64 owner,v5,Value.pointer (some ⟨BB,0,none⟩),v7,v8,v9,Z0,Z1,Z2,Z3,Z4,Z5,Z6,Z7,Value.pointer (some ⟨DK,0,none⟩),Z8,Z9,ZA,ZB,ZC,ZD,Value.int .i64 (o:Int),ZE,ZF,ZG,ZH,ZI,ZJ,ZK,ZL,ZM,ZN,ZO,ZP,ZQ,ZR,ZS,ZT,ZU,ZV,ZW,ZX,ZY,ZZ,Za,Zb,Zc,Zd,Ze,Zf,Zg,Zh,Zi,Zj,Zk,Zl,Zm,Zn,Zo,Zp,Zq,Zr,Zs,Zt,Zu,Zv,Zw,Zx,Zy,Zz,Y0,Y1,Y2,Y3,Y4,Y5,Y6,Y7,Y8,Y9,YA,YB,YC,YD,YE,YF,YG,YH,YI,YJ,YK,YL,YM,YN,YO,YP,YQ,YR,YS,YT,YU,YV,YW,YX,YY,YZ,Ya,Yb,Yc,Yd,Ye,Yf,Yg,Yh,Yi,Yj,Yk,Yl,Ym,Yn,Yo,Yp,Yq,Yr,Ys,Yt,Yu,Yv,Yw,Yx,Yy,Yz,X0,X1,X2,X3,X4,X5,X6,X7,X8,X9,XA,XB,XC,XD,XE,XF,XG,XH,XI,XJ,XK,XL,XM,XN,XO,XP,XQ,XR,XS,XT,XU,XV,XW,XX,XY,XZ,Xa,Xb,Xc,Xd,Xe,Xf,Xg,Xh,Xi,Xj,Xk,Xl,Xm,Xn,Xo,Xp,Xq,Xr,Xs,Xt,Xu,Xv,Xw,Xx,Xy,Xz,K0,K1,K2,K3,K4,K5,K6,K7,K8,K9,KA,KB,KC,KD,KE,KF,KG,KH,KI,KJ,KK,KL,KM,KN,KO,KP,KQ,KR,KS,KT,KU,KV,KW,KX,KY,KZ,Ka,Kb,Kc,Kd,Ke,Kf,Kg,Kh,Ki,Kj,Kk,Kl,Km,Kn,Ko,Kp,Kq,Kr,Ks,Kt,Ku,Kv,Kw,Kx,Ky,Kz,J0,J1,J2,J3,J4,J5,J6,J7,J8,J9,JA,JB,JC,JD,JE,JF,JG,JH,JI,JJ,JK,JL,JM,JN,JO,JP,JQ,JR,JS,JT,JU,JV,JW,JX,JY,JZ,Ja,Jb,Jc,Jd,Je,Jf,Jg,Jh,Ji,Jj,Jk,Jl,Jm,Jn,Jo,Jp,Jq,Jr,Js,Jt,Ju,Jv,Jw,Jx,Jy,Jz,G0,G1,G2,G3,G4,G5,G6,FC,FD,FE,FF,FG,FH,FI,FJ,FK,FL,FM,FN,FO,FP,FQ,FR,FS,FT,FU,FV,FW,FX,Value.bool mb,GU,GV,GW,GX,GY,GZ,Ga,Gb,Gc,Gd,Ge,Gf,Gg,Gh,Gi,Gj,Gk,Gl,Gm,Gn,Gp,Gq,Gr,Gs,Gt,Gu,Gv,Gw,Gx,Gy,Gz,F0,F1,F2,F3,F4,F5,F6,F7,F8,F9,FA,FB],[]⟩ w'
set_option maxHeartbeats 8000000 in
theorem tru_may (w2:World) (b:Hb) (d:De) (BB DK o i:Nat) (deed owner:Int) (mb:Bool) (v0 v2 v5 v7 v8 v9 Z0 Z1 Z2 Z3 Z4 Z5 Z6 Z7 Z8 Z9 ZA ZB ZC ZD ZE ZF ZG ZH ZI ZJ ZK ZL ZM ZN ZO ZP ZQ ZR ZS ZT ZU ZV ZW ZX ZY ZZ Za Zb Zc Zd Ze Zf Zg Zh Zi Zj Zk Zl Zm Zn Zo Zp Zq Zr Zs Zt Zu Zv Zw Zx Zy Zz Y0 Y1 Y2 Y3 Y4 Y5 Y6 Y7 Y8 Y9 YA YB YC YD YE YF YG YH YI YJ YK YL YM YN YO YP YQ YR YS YT YU YV YW YX YY YZ Ya Yb Yc Yd Ye Yf Yg Yh Yi Yj Yk Yl Ym Yn Yo Yp Yq Yr Ys Yt Yu Yv Yw Yx Yy Yz X0 X1 X2 X3 X4 X5 X6 X7 X8 X9 XA XB XC XD XE XF XG XH XI XJ XK XL XM XN XO XP XQ XR XS XT XU XV XW XX XY XZ Xa Xb Xc Xd Xe Xf Xg Xh Xi Xj Xk Xl Xm Xn Xo Xp Xq Xr Xs Xt Xu Xv Xw Xx Xy Xz K0 K1 K2 K3 K4 K5 K6 K7 K8 K9 KA KB KC KD KE KF KG KH KI KJ KK KL KM KN KO KP KQ KR KS KT KU KV KW KX KY KZ Ka Kb Kc Kd Ke Kf Kg Kh Ki Kj Kk Kl Km Kn Ko Kp Kq Kr Ks Kt Ku Kv Kw Kx Ky Kz J0 J1 J2 J3 J4 J5 J6 J7 J8 J9 JA JB JC JD JE JF JG JH JI JJ JK JL JM JN JO JP JQ JR JS JT JU JV JW JX JY JZ Ja Jb Jc Jd Je Jf Jg Jh Ji Jj Jk Jl Jm Jn Jo Jp Jq Jr Js Jt Ju Jv Jw Jx Jy Jz G0 G1 G2 G3 G4 G5 G6 G7 G8 G9 GA GB GC GD GE GF GG GH GI GJ GK GL GM GN GO GP GQ GR GS GT GU GV GW GX GY GZ Ga Gb Gc Gd Ge Gf Gg Gh Gi Gj Gk Gl Gm Gn Gp Gq Gr Gs Gt Gu Gv Gw Gx Gy Gz F0 F1 F2 F3 F4 F5 F6 F7 F8 F9 FA FB:Value) (Q:Exit→Act→World→Prop)
 (HIn:Hid (HbIn w2 b)) (HB:Hid (w2.heap[BB]? = some b.obj)) (HD:Hid (w2.heap[DK]? = some (dObj d))) (HOK:Hid (HeOk b.t b.l b.ks b.hs b.ds∧seen d.s 9 6 = 0)) (hol:o < b.l.length)
 (HM:Hid (mb = !mayB b.t b.l deed owner i d.s o))
 (HQ:RgTruQ56 w2 BB DK o i deed owner mb v0 v2 v5 v7 v8 v9 Z0 Z1 Z2 Z3 Z4 Z5 Z6 Z7 Z8 Z9 ZA ZB ZC ZD ZE ZF ZG ZH ZI ZJ ZK ZL ZM ZN ZO ZP ZQ ZR ZS ZT ZU ZV ZW ZX ZY ZZ Za Zb Zc Zd Ze Zf Zg Zh Zi Zj Zk Zl Zm Zn Zo Zp Zq Zr Zs Zt Zu Zv Zw Zx Zy Zz Y0 Y1 Y2 Y3 Y4 Y5 Y6 Y7 Y8 Y9 YA YB YC YD YE YF YG YH YI YJ YK YL YM YN YO YP YQ YR YS YT YU YV YW YX YY YZ Ya Yb Yc Yd Ye Yf Yg Yh Yi Yj Yk Yl Ym Yn Yo Yp Yq Yr Ys Yt Yu Yv Yw Yx Yy Yz X0 X1 X2 X3 X4 X5 X6 X7 X8 X9 XA XB XC XD XE XF XG XH XI XJ XK XL XM XN XO XP XQ XR XS XT XU XV XW XX XY XZ Xa Xb Xc Xd Xe Xf Xg Xh Xi Xj Xk Xl Xm Xn Xo Xp Xq Xr Xs Xt Xu Xv Xw Xx Xy Xz K0 K1 K2 K3 K4 K5 K6 K7 K8 K9 KA KB KC KD KE KF KG KH KI KJ KK KL KM KN KO KP KQ KR KS KT KU KV KW KX KY KZ Ka Kb Kc Kd Ke Kf Kg Kh Ki Kj Kk Kl Km Kn Ko Kp Kq Kr Ks Kt Ku Kv Kw Kx Ky Kz J0 J1 J2 J3 J4 J5 J6 J7 J8 J9 JA JB JC JD JE JF JG JH JI JJ JK JL JM JN JO JP JQ JR JS JT JU JV JW JX JY JZ Ja Jb Jc Jd Je Jf Jg Jh Ji Jj Jk Jl Jm Jn Jo Jp Jq Jr Js Jt Ju Jv Jw Jx Jy Jz G0 G1 G2 G3 G4 G5 G6 G7 G8 G9 GA GB GC GD GE GF GG GH GI GJ GK GL GM GN GO GP GQ GR GS GT GU GV GW GX GY GZ Ga Gb Gc Gd Ge Gf Gg Gh Gi Gj Gk Gl Gm Gn Gp Gq Gr Gs Gt Gu Gv Gw Gx Gy Gz F0 F1 F2 F3 F4 F5 F6 F7 F8 F9 FA FB Q) :
 Code.wp Tryz.prog rgTru56 Q ⟨#[v0,Value.int .i64 (i:Int),v2,Value.int .i64 deed,Value.int .i64 owner,v5,Value.pointer (some ⟨BB,0,none⟩),v7,v8,v9,Z0,Z1,Z2,Z3,Z4,Z5,Z6,Z7,Value.pointer (some ⟨DK,0,none⟩),Z8,Z9,ZA,ZB,ZC,ZD,Value.int .i64 (o:Int),ZE,ZF,ZG,ZH,ZI,ZJ,ZK,ZL,ZM,ZN,ZO,ZP,ZQ,ZR,ZS,ZT,ZU,ZV,ZW,ZX,ZY,ZZ,Za,Zb,Zc,Zd,Ze,Zf,Zg,Zh,Zi,Zj,Zk,Zl,Zm,Zn,Zo,Zp,Zq,Zr,Zs,Zt,Zu,Zv,Zw,Zx,Zy,Zz,Y0,Y1,Y2,Y3,Y4,Y5,Y6,Y7,Y8,Y9,YA,YB,YC,YD,YE,YF,YG,YH,YI,YJ,YK,YL,YM,YN,YO,YP,YQ,YR,YS,YT,YU,YV,YW,YX,YY,YZ,Ya,Yb,Yc,Yd,Ye,Yf,Yg,Yh,Yi,Yj,Yk,Yl,Ym,Yn,Yo,Yp,Yq,Yr,Ys,Yt,Yu,Yv,Yw,Yx,Yy,Yz,X0,X1,X2,X3,X4,X5,X6,X7,X8,X9,XA,XB,XC,XD,XE,XF,XG,XH,XI,XJ,XK,XL,XM,XN,XO,XP,XQ,XR,XS,XT,XU,XV,XW,XX,XY,XZ,Xa,Xb,Xc,Xd,Xe,Xf,Xg,Xh,Xi,Xj,Xk,Xl,Xm,Xn,Xo,Xp,Xq,Xr,Xs,Xt,Xu,Xv,Xw,Xx,Xy,Xz,K0,K1,K2,K3,K4,K5,K6,K7,K8,K9,KA,KB,KC,KD,KE,KF,KG,KH,KI,KJ,KK,KL,KM,KN,KO,KP,KQ,KR,KS,KT,KU,KV,KW,KX,KY,KZ,Ka,Kb,Kc,Kd,Ke,Kf,Kg,Kh,Ki,Kj,Kk,Kl,Km,Kn,Ko,Kp,Kq,Kr,Ks,Kt,Ku,Kv,Kw,Kx,Ky,Kz,J0,J1,J2,J3,J4,J5,J6,J7,J8,J9,JA,JB,JC,JD,JE,JF,JG,JH,JI,JJ,JK,JL,JM,JN,JO,JP,JQ,JR,JS,JT,JU,JV,JW,JX,JY,JZ,Ja,Jb,Jc,Jd,Je,Jf,Jg,Jh,Ji,Jj,Jk,Jl,Jm,Jn,Jo,Jp,Jq,Jr,Js,Jt,Ju,Jv,Jw,Jx,Jy,Jz,G0,G1,G2,G3,G4,G5,G6,G7,G8,G9,GA,GB,GC,GD,GE,GF,GG,GH,GI,GJ,GK,GL,GM,GN,GO,GP,GQ,GR,GS,GT,GU,GV,GW,GX,GY,GZ,Ga,Gb,Gc,Gd,Ge,Gf,Gg,Gh,Gi,Gj,Gk,Gl,Gm,Gn,Gp,Gq,Gr,Gs,Gt,Gu,Gv,Gw,Gx,Gy,Gz,F0,F1,F2,F3,F4,F5,F6,F7,F8,F9,FA,FB],[]⟩ w2:=by
 dsimp only
 conv => arg 2;whnf
 obtain ⟨c0,c1,-,-,-⟩:=blk5c HB.out
 obtain ⟨-,-,-,-,-,-,-,z7,z8,z9,z10,z11⟩:=blkD HD.out
 have hlB:=heap_lt HB.out
 have hlD:=heap_lt HD.out
 obtain ⟨bm,om,mk,eA,hbm,hmk,m0,m1,m2⟩:=Marks.get HIn.out.m hol
 rw [eA] at c1
 obtain ⟨hsn,hso,-,-⟩:=seen_ok HOK.out.2
 have hmv:=(check_marks HOK.out.1.ck mk (List.mem_of_getElem? hmk)).1
 have i1:(o:Int) < (b.l.length:Int):=by omega
 have hmc:=HIn.out.mc
 have hmm:=HIn.out.mm
 have cM:∀ d' os,Calls Tryz.prog 94 #[vSg d.s,vMk mk,.int .i64 b.t] (Sort.grow (redrawn w2 d') os) (fun e w'' => e = .returned (.bool (fits d.s mk b.t))∧∃ p:Regrown,w'' = Sort.grow (redrawn w2 p.d) p.os):=fun d' os =>
  Calls.regrown_of (rFits d.s mk b.t _ hmv.1 hmv.2 hsn.1 hsn.2 hso)
 obtain ⟨F,hF⟩:∃ F,F = fits d.s mk b.t:=⟨_,rfl⟩
 rw [← hF] at cM
 have hMB:mb = !(passB deed owner i o && F):=by
  rw [HM.out]
  unfold mayB
  rw [hmk,hF]
  rfl
 unfold vSg vMk at cM
 have HCM:=Lib.hid cM
 have k0:=cell_regrown c0
 have k1:=cell_regrown c1
 have k3:=And.intro (cell_regrown z7) (And.intro (cell_regrown z8) (And.intro (cell_regrown z9) (And.intro (cell_regrown z10) (cell_regrown z11))))
 have k4:=And.intro (cell_regrown m0) (And.intro (cell_regrown m1) (cell_regrown m2))
 have hcase:(((i:Int) == deed) = true∧((o:Int) != owner) = true∧mb = true) ∨ (((i:Int) == deed) = true∧((o:Int) != owner) = false∧mb = !F) ∨ (((i:Int) == deed) = false∧mb = !F):=by
  rw [hMB]
  unfold passB
  by_cases h1:(i:Int) = deed
  ·by_cases h2:(o:Int) = owner
   ·exact .inr (.inl ⟨by simp [h1],by simp [h2],by simp [h2]⟩)
   ·exact .inl ⟨by simp [h1],by simp [h2],by simp [h1,h2]⟩
  ·exact .inr (.inr ⟨by simp [h1],by simp [h1]⟩)
 clear c0 c1 z7 z8 z9 z10 z11 m0 m1 m2 cM hMB hF hmk eA hsn hso hmv
 rcases hcase with ⟨e1,e2,rfl⟩ | ⟨e1,e2,hm⟩ | ⟨e1,hm⟩
 ·refine wp_region_quiet_below (by kernel_rfl) (by kernel_rfl) ?_
  repeat (go_big_quiet_step (exact HCM.out _ _))
  refine wpQuiet_nil ?_
  intro _ hw'
  obtain ⟨⟨dq,osq⟩,hw''⟩:=hw'
  subst hw''
  go_wp2_with fail
  exact HQ _ _ _ _ _ _ _ _ _ _ _ _ _ _ _ _ _ _ _ _ _ _ _ (below_regrown w2 dq osq)
 all_goals
  cases F
  all_goals
   simp only [Bool.not_true,Bool.not_false] at hm
   subst hm
   refine wp_region_quiet_below (by kernel_rfl) (by kernel_rfl) ?_
   repeat (go_big_quiet_step (exact HCM.out _ _))
   refine wpQuiet_nil ?_
   intro _ hw'
   obtain ⟨⟨dq,osq⟩,hw''⟩:=hw'
   subst hw''
   go_wp2_with fail
   exact HQ _ _ _ _ _ _ _ _ _ _ _ _ _ _ _ _ _ _ _ _ _ _ _ (below_regrown w2 dq osq)
end Go.Proofs.YtmennjmjakdkcaaGreat
