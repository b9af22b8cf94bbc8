/- HerdChecks 35: Rf9G. -/
import Derived.Test.YtmennjmjakdkcaaGreatCk01
import Derived.Test.YtmennjmjakdkcaaGreatCk34
import Derived.Test.YtmennjmjakdkcaaGreatCk31
import Derived.Test.YtmennjmjakdkcaaGreatCk14
import Derived.Test.YtmennjmjakdkcaaGreatCk19
import Derived.Test.YtmennjmjakdkcaaGreatCk07
import Derived.Test.YtmennjmjakdkcaaGreatCk29
import Derived.BigRegion
set_option linter.unusedVariables false
set_option linter.unusedSimpArgs false
namespace Go.Proofs.YtmennjmjakdkcaaGreat
open Go.RowKit
set_option maxRecDepth 1000000
theorem EndG.keepZ {w2:World} {base cn nf:Nat} {An:Option Addr} {g:Gr} {v:Value} (hen:EndG w2 base (.slice An nf cn) g) (hl:g.length = nf) (hv:∀ k,v.ownBlock = some k→k < base):∀ w',w2.grownBy w' v.ownBlock→j1a w' An nf g:=fun w' hg => by
 have h1:=hen.grown hg hv
 obtain ⟨A9,c9,e9,hz9,-,-,-⟩:=h1.ownG.formZ
 injection e9 with e9 _ _
 rw [e9]
 rwa [hl] at hz9
def FEn (base nf:Nat) (g:Gr):VF:=fun v w => ∃ An cn,v = .slice An nf cn∧nf ≤ cn∧cn ≤ maxLen∧EndG w base (.slice An nf cn) g
theorem FEn.st {base nf:Nat} {g:Gr} (i:Nat) (v:Value) (w w':World) (hT:TBw i w w') (h:FEn base nf g v w):FEn base nf g v w':=by
 obtain ⟨An,cn,a,b,c,d⟩:=h
 exact ⟨An,cn,a,b,c,d.below hT (zL9 _)⟩
theorem j5z {z n nf:Nat} {v:Value} {E:List Gr} {w w2:World} {base cn:Nat} {An:Option Addr} {g:Gr} (h:OwnGG z n nf v E w) (hb:Below w.heap.size w w2) (hv:w.heap.size ≤ base) (hen:EndG w2 base (.slice An nf cn) g) (hg:GSh n nf g) (hc:nf ≤ cn∧cn ≤ maxLen) (hn:n ≤ 1000) (hnf:nf ≤ 1000) (hE:E.length < 4294967296) :
 Calls Tryz.prog 143 #[v,.slice An nf cn] w2 fun e w' => ∃ v',e = .returned v'∧GgE z n nf v w v' (addR E g) w':=by
 refine (j8o z n nf v E An cn g w2 (h.below hb) hg (hen.keepZ hg.l (fun k e => Nat.lt_of_lt_of_le (h.lt k e).2 hv)) hc hn hnf hE).mono ?_
 rintro e w' ⟨v',rfl,hE⟩
 exact ⟨v',rfl,GgE.before hb hE⟩
theorem EndG.zz {w2:World} {base cn nf:Nat} {An:Option Addr} {g:Gr} (hen:EndG w2 base (.slice An nf cn) g) (hl:g.length = nf):j1a w2 An nf g :=
 hen.keepZ (v:=.slice none 0 0) hl (fun k e => by simp [Value.ownBlock] at e) w2 (World.grownBy.refl _ _)
theorem EndG.fm {w2:World} {base nf:Nat} {v:Value} {g:Gr} (hen:EndG w2 base v g) (hl:g.length = nf):∃ An cn,v = .slice An nf cn∧nf ≤ cn∧cn ≤ maxLen:=by
 obtain ⟨An,cn,rfl,-,h1,h2⟩:=hen.ownG.form
 rw [hl] at h1
 exact ⟨An,cn,by rw [hl],h1,h2⟩
theorem k9c:∀ {l:List Int},(∀ x ∈ l,0 ≤ x)→0 ≤ l.sum
 | [],_ => by simp
 | x :: l,h => by
   have h1:=h x List.mem_cons_self
   have h2:=k9c (l:=l) fun y hy => h y (List.mem_cons_of_mem _ hy)
   rw [List.sum_cons]
   omega
structure DnX (z n nf:Nat) (v:Value) (E:List Gr) (Ah:Option Addr) (g g1:Gr) (pd:Nat) (d:De) (fn o1:Nat) (k1:Int) (f2 o2:Nat) (w1:World):Prop where
 og:OwnGG z n nf v E w1
 gs:GSh n nf g
 gz:∀ w',Below w1.heap.size w1 w'→j1a w' Ah nf g
 dp:w1.heap[pd]? = some (dObj d)
 df:d.flock = (fn:Int)
 s1:GSh n nf g1
 e1:g1 = addG g fn o1 k1
 b1:-100000 ≤ getG g fn o1∧getG g fn o1 ≤ 100000
 b2:-100000 ≤ getG g1 f2 o2∧getG g1 f2 o2 ≤ 100000
noncomputable def rgDn7:Code:=((Tryz.f129.body.bind (j1x 7)).getD .skip)
def RgDnQ7 (w1:World) (z n nf:Nat) (v:Value) (E:List Gr) (Ah:Option Addr) (ch:Nat) (g1:Gr) (pd:Nat) (d:De) (fn xn:Nat) (v0 v3 v4 v5 v6 v7 v9 Z0 Z1 Z2 Z3 Z4 Z5 Z6 Z7 Z8 Z9 ZA ZB ZC ZD ZE ZF ZG ZH ZI ZJ ZK ZL ZM ZN ZO ZP ZQ ZR ZS ZT ZU ZV ZW ZX ZY ZZ Za Zb Zc Zd Ze Zf Zg Zh Zi Zj Zk Zl Zm Zn Zo Zp Zq Zr Zs Zt Zu Zv Zw Zx Zy Zz Y0 Y1 Y2 Y3 Y4 Y5 Y6 Y7 Y8 Y9 YA YB YC YD YE YF YG YH YI YJ YK YL YM YN YO YP YQ YR YS YT YU YV YW YX YY YZ Ya Yb Yc Yd Ye Yf Yg Yh Yi Yj Yk Yl Ym Yn Yo Yp Yq:Value) (Q:Exit→Act→World→Prop):Prop:=∀ (Yr Ys Yt Yu Yv Yw Yx Yy Yz X0 X1 X2 X3 X4 X5 X6 X7 X8:Value) (v':Value) (w':World),GgE z n nf v w1 v' (addR E (addG g1 fn xn d.many)) w'→Q .normal ⟨#[v0,v,(Value.slice Ah nf ch),v3,v4,v5,v6,v7,(Value.pointer (some ⟨pd,0,none⟩)),v9,v',Z1,Z2,Z3,Z4,Z5,Z6,Z7,Z8,Z9,ZA,ZB,ZC,ZD,ZE,ZF,ZG,ZH,ZI,ZJ,ZK,ZL,ZM,ZN,ZO,ZP,ZQ,ZR,ZS,ZT,ZU,Yr,Ys,Yt,Yu,Yv,Yw,Yx,Yy,Yz,X0,X1,X2,X3,X4,X5,X6,X7,X8,Zn,Zo,Zp,Zq,Zr,Zs,Zt,Zu,Zv,Zw,Zx,Zy,Zz,Y0,Y1,Y2,Y3,Y4,Y5,Y6,Y7,Y8,Y9,YA,YB,YC,YD,YE,YF,YG,YH,YI,YJ,YK,YL,YM,YN,YO,YP,YQ,YR,YS,YT,YU,YV,YW,YX,YY,YZ,Ya,Yb,Yc,Yd,Ye,Yf,Yg,Yh,Yi,Yj,Yk,Yl,Ym,Yn,Yo,Yp,Yq],[]⟩ w'
set_option maxHeartbeats 8000000 in
theorem q1a (w1:World) (z n nf:Nat) (v:Value) (E:List Gr) (Ah:Option Addr) (ch:Nat) (g g1:Gr) (pd:Nat) (d:De) (fn on xn:Nat) (v0 v3 v4 v5 v6 v7 v9 Z0 Z1 Z2 Z3 Z4 Z5 Z6 Z7 Z8 Z9 ZA ZB ZC ZD ZE ZF ZG ZH ZI ZJ ZK ZL ZM ZN ZO ZP ZQ ZR ZS ZT ZU ZV ZW ZX ZY ZZ Za Zb Zc Zd Ze Zf Zg Zh Zi Zj Zk Zl Zm Zn Zo Zp Zq Zr Zs Zt Zu Zv Zw Zx Zy Zz Y0 Y1 Y2 Y3 Y4 Y5 Y6 Y7 Y8 Y9 YA YB YC YD YE YF YG YH YI YJ YK YL YM YN YO YP YQ YR YS YT YU YV YW YX YY YZ Ya Yb Yc Yd Ye Yf Yg Yh Yi Yj Yk Yl Ym Yn Yo Yp Yq:Value) (Q:Exit→Act→World→Prop)
 (HX:Hid (DnX z n nf v E Ah g g1 pd d fn on (-d.many) fn xn w1)) (HO:Hid (d.owner = (on:Int)∧d.other = (xn:Int)))
 (hm:0 ≤ d.many∧d.many ≤ 1000) (hfk:fn < nf) (hon:on < n) (hxn:xn < n) (hn:n ≤ 1000) (hnf:nf ≤ 1000) (hE:E.length < 4294967296)
 (HQ:RgDnQ7 w1 z n nf v E Ah ch g1 pd d fn xn v0 v3 v4 v5 v6 v7 v9 Z0 Z1 Z2 Z3 Z4 Z5 Z6 Z7 Z8 Z9 ZA ZB ZC ZD ZE ZF ZG ZH ZI ZJ ZK ZL ZM ZN ZO ZP ZQ ZR ZS ZT ZU ZV ZW ZX ZY ZZ Za Zb Zc Zd Ze Zf Zg Zh Zi Zj Zk Zl Zm Zn Zo Zp Zq Zr Zs Zt Zu Zv Zw Zx Zy Zz Y0 Y1 Y2 Y3 Y4 Y5 Y6 Y7 Y8 Y9 YA YB YC YD YE YF YG YH YI YJ YK YL YM YN YO YP YQ YR YS YT YU YV YW YX YY YZ Ya Yb Yc Yd Ye Yf Yg Yh Yi Yj Yk Yl Ym Yn Yo Yp Yq Q) :
 Code.wp Tryz.prog rgDn7 Q ⟨#[v0,v,(Value.slice Ah nf ch),v3,v4,v5,v6,v7,(Value.pointer (some ⟨pd,0,none⟩)),v9,Z0,Z1,Z2,Z3,Z4,Z5,Z6,Z7,Z8,Z9,ZA,ZB,ZC,ZD,ZE,ZF,ZG,ZH,ZI,ZJ,ZK,ZL,ZM,ZN,ZO,ZP,ZQ,ZR,ZS,ZT,ZU,ZV,ZW,ZX,ZY,ZZ,Za,Zb,Zc,Zd,Ze,Zf,Zg,Zh,Zi,Zj,Zk,Zl,Zm,Zn,Zo,Zp,Zq,Zr,Zs,Zt,Zu,Zv,Zw,Zx,Zy,Zz,Y0,Y1,Y2,Y3,Y4,Y5,Y6,Y7,Y8,Y9,YA,YB,YC,YD,YE,YF,YG,YH,YI,YJ,YK,YL,YM,YN,YO,YP,YQ,YR,YS,YT,YU,YV,YW,YX,YY,YZ,Ya,Yb,Yc,Yd,Ye,Yf,Yg,Yh,Yi,Yj,Yk,Yl,Ym,Yn,Yo,Yp,Yq],[]⟩ w1:=by
 dsimp only
 conv => arg 2;whnf
 have hbd:Below w1.heap.size w1 w1.drew:=j1j (Below.refl _ _)
 have hl1:g1.length = nf:=HX.out.s1.l
 have hC:=fun (w':World) (hp:Below w1.drew.heap.size w1.drew w') => zA9 (blkD (j0f (j0f HX.out.dp hbd (zL9 _)) hp (zL9 _))) (j0a (j0f (j0f HX.out.dp hbd (zL9 _)) hp (zL9 _)))
 simp only [HX.out.df,HO.out.1,HO.out.2] at hC
 have HC:=zQ9 hC
 clear hbd hC
 refine j0w 17 0 0 [] [] 0 (TBw) (PBw w1.drew) [0,0,0,0,0,0,0,0,0,0,0,0,0,0,0,0,0] (by as_aux_lemma => kernel_rfl) (by as_aux_lemma => kernel_rfl) (by as_aux_lemma => kernel_rfl) (by as_aux_lemma => kernel_rfl) (by omega) (.inl rfl) rfl rfl (fun k i w1 w2 hc _ hT hp => PBw.st k i w1 w2 hT hp) (fun k => Below.refl _ _) ?_
 apply Exists.intro
 refine ⟨fun ys => ?_,fun ops K hK => ?_⟩
 ·simp only [List.take_succ_cons,List.take_zero,j0p,List.filterMap_cons,List.filterMap_nil,j0q]
  go_simp
  rfl
 simp only [List.take_succ_cons,List.take_zero,List.drop_succ_cons,List.drop_zero] at hK ⊢
 repeat
  refine LexT.const TBw.rf ?_
  apply Exists.intro
  refine ⟨fun ys w' hp hpk hq hd => ?_,?_⟩
  ·try simp [j0e,j0g,DF.holds,Region.binds,EqF] at hd
   try simp only [hd]
   obtain ⟨⟨z0,z1,z2,z3,z4,z5,z6,-,-,-,-,-⟩,hlg⟩:=HC.out w' hp
   intro Q2 hQ2
   go_wp2_with fail
   rfl
  try simp only [List.nil_append,List.cons_append]
 refine LexT.some (FEn w1.drew.heap.size nf g1) (fun i v w1 w2 hc _ hT h => FEn.st i v w1 w2 hT h) (fun ys w' hp hpk hq hd => ?_) ?_
 ·try simp [j0e,j0g,DF.holds,Region.binds,EqF] at hd
  try simp only [hd]
  have hpB:Below w1.heap.size w1 w':=(j1j (Below.refl _ _)).trans (Below.mono hp (zL9 _))
  have hpz:=Below.size hp
  have hwi:=j3y Ah nf ch n g fn on (-d.many) w' (HX.out.gz w' hpB) hnf HX.out.gs.r hn hfk hon HX.out.b1 (by omega)
  rw [← HX.out.e1] at hwi
  clear hp hpk
  intro Q2 hQ2
  go_wp2_with fail
  refine hwi.mono ?_
  rintro e w4 ⟨⟨v,rfl,hen⟩,hb⟩
  obtain ⟨An,cn,rfl,hcn1,hcn2⟩:=hen.fm hl1
  have HX2:=zQ9 (show TBw 0 w' w4∧FEn w1.drew.heap.size nf g1 (.slice An nf cn) w4 from ⟨hb,An,cn,rfl,hcn1,hcn2,hen.mono hpz⟩)
  clear hen hb hwi
  go_wp2
  exact ⟨_,rfl,HX2.out⟩
 try simp only [List.nil_append,List.cons_append]
 repeat
  refine LexT.const TBw.rf ?_
  apply Exists.intro
  refine ⟨fun ys w' hp hpk hq hd => ?_,?_⟩
  ·try simp [j0e,j0g,DF.holds,Region.binds,EqF] at hd
   try simp only [hd]
   obtain ⟨⟨z0,z1,z2,z3,z4,z5,z6,-,-,-,-,-⟩,hlg⟩:=HC.out w' hp
   intro Q2 hQ2
   go_wp2_with fail
   rfl
  try simp only [List.nil_append,List.cons_append]
 refine LexT.some (FEn w1.drew.heap.size nf (addG g1 fn xn d.many)) (fun i v w1 w2 hc _ hT h => FEn.st i v w1 w2 hT h) (fun ys w' hp hpk hq hd => ?_) ?_
 ·try simp [j0e,j0g,DF.holds,Region.binds,EqF] at hd
  try simp only [hd]
  obtain ⟨⟨An,cn,e9,hn1,hn2,hen⟩,hd⟩:=hd
  simp only [e9,hd]
  have hpz:=Below.size hp
  have hwi:=j3y An nf cn n g1 fn xn d.many w' (hen.zz hl1) hnf HX.out.s1.r hn hfk hxn HX.out.b2 (by omega)
  clear hp hpk e9 hd hen
  intro Q2 hQ2
  go_wp2_with fail
  refine hwi.mono ?_
  rintro e w4 ⟨⟨v,rfl,hen⟩,hb⟩
  obtain ⟨Am,cm,rfl,hcn1,hcn2⟩:=hen.fm (show (addG g1 fn xn d.many).length = nf by rw [j3l];exact hl1)
  have HX2:=zQ9 (show TBw 0 w' w4∧FEn w1.drew.heap.size nf (addG g1 fn xn d.many) (.slice Am nf cm) w4 from ⟨hb,Am,cm,rfl,hcn1,hcn2,hen.mono hpz⟩)
  clear hen hb hwi
  go_wp2
  exact ⟨_,rfl,HX2.out⟩
 try simp only [List.nil_append,List.cons_append]
 repeat
  refine LexT.const TBw.rf ?_
  apply Exists.intro
  refine ⟨fun ys w' hp hpk hq hd => ?_,?_⟩
  ·try simp [j0e,j0g,DF.holds,Region.binds,EqF] at hd
   try simp only [hd]
   obtain ⟨⟨z0,z1,z2,z3,z4,z5,z6,-,-,-,-,-⟩,hlg⟩:=HC.out w' hp
   intro Q2 hQ2
   go_wp2_with fail
   rfl
  try simp only [List.nil_append,List.cons_append]
 refine hK _ fun ys w' hp hF => ?_
 simp [AllF,DF.holds] at hF
 obtain ⟨f41,-,-,-,-,-,-,-,-,-,-,-,-,-,-,-,Am,cm,e57,hm1,hm2,hen⟩:=hF
 simp only [f41,e57]
 have hpB:Below w1.heap.size w1 w':=(j1j (Below.refl _ _)).trans (Below.mono hp (zL9 _))
 have had:=j5z HX.out.og hpB (zL9 _) hen (HX.out.s1.add hfk xn d.many) ⟨hm1,hm2⟩ hn hnf hE
 clear hK f41 e57 hen hp hpB
 go_wp2_with (go_at_call 143;(with_reducible refine had.mono ?_);rintro e w3 ⟨v3,rfl,hE3⟩;have H3:=zQ9 hE3;clear hE3)
 exact HQ _ _ _ _ _ _ _ _ _ _ _ _ _ _ _ _ _ _ _ _ H3.out
noncomputable def rgDn15:Code:=((Tryz.f129.body.bind (j1x 15)).getD .skip)
def RgDnQ15 (w1:World) (z n nf:Nat) (v:Value) (E:List Gr) (Ah:Option Addr) (ch:Nat) (g1:Gr) (pd:Nat) (d:De) (fn tn k:Nat) (v0 v3 v4 v5 v6 v7 v9 Z0 Z2 Z3 Z4 Z5 Z6 Z7 Z8 Z9 ZA ZB ZC ZD ZE ZF ZG ZH ZI ZJ ZK ZL ZM ZN ZO ZP ZQ ZR ZS ZT ZU ZV ZW ZX ZY ZZ Za Zb Zc Zd Ze Zf Zg Zh Zi Zj Zk Zl Zm Zn Zo Zp Zq Zr Zs Zt Zu Zv Zw Zx Zy Zz Y0 Y1 Y2 Y3 Y4 Y5 Y6 Y7 Y8 Y9 YA YB YC YD YE YF YG YH YI YJ YK YL YM YN YO YP YQ YR YS YT YU YV YW YX YY YZ Ya Yb Yc Yd Ye Yf Yg Yh Yi Yj Yk Yl Ym Yn Yo Yp Yq:Value) (Q:Exit→Act→World→Prop):Prop:=∀ (X9 XA XB XC XD XE XF XG XH XI XJ:Value) (v':Value) (w':World),GgE z n nf v w1 v' (addR E (addG g1 tn k 1)) w'→Q .normal ⟨#[v0,v',(Value.slice Ah nf ch),v3,v4,v5,v6,v7,(Value.pointer (some ⟨pd,0,none⟩)),v9,Z0,(Value.int .i64 (k:Int)),Z2,Z3,Z4,Z5,Z6,Z7,Z8,Z9,ZA,ZB,ZC,ZD,ZE,ZF,ZG,ZH,ZI,ZJ,ZK,ZL,ZM,ZN,ZO,ZP,ZQ,ZR,ZS,ZT,ZU,ZV,ZW,ZX,ZY,ZZ,Za,Zb,Zc,Zd,Ze,Zf,Zg,Zh,Zi,Zj,Zk,Zl,Zm,Zn,Zo,Zp,Zq,Zr,Zs,Zt,Zu,Zv,Zw,Zx,Zy,Zz,Y0,Y1,Y2,Y3,Y4,Y5,Y6,Y7,Y8,Y9,YA,YB,YC,YD,YE,YF,YG,YH,YI,YJ,YK,YL,YM,YN,YO,YP,YQ,X9,XA,XB,XC,XD,XE,XF,XG,XH,XI,XJ,Yc,Yd,Ye,Yf,Yg,Yh,Yi,Yj,Yk,Yl,Ym,Yn,Yo,Yp,Yq],[]⟩ w'
set_option maxHeartbeats 8000000 in
theorem k9j (w1:World) (z n nf:Nat) (v:Value) (E:List Gr) (Ah:Option Addr) (ch:Nat) (g g1:Gr) (pd:Nat) (d:De) (fn tn k:Nat) (v0 v3 v4 v5 v6 v7 v9 Z0 Z2 Z3 Z4 Z5 Z6 Z7 Z8 Z9 ZA ZB ZC ZD ZE ZF ZG ZH ZI ZJ ZK ZL ZM ZN ZO ZP ZQ ZR ZS ZT ZU ZV ZW ZX ZY ZZ Za Zb Zc Zd Ze Zf Zg Zh Zi Zj Zk Zl Zm Zn Zo Zp Zq Zr Zs Zt Zu Zv Zw Zx Zy Zz Y0 Y1 Y2 Y3 Y4 Y5 Y6 Y7 Y8 Y9 YA YB YC YD YE YF YG YH YI YJ YK YL YM YN YO YP YQ YR YS YT YU YV YW YX YY YZ Ya Yb Yc Yd Ye Yf Yg Yh Yi Yj Yk Yl Ym Yn Yo Yp Yq:Value) (Q:Exit→Act→World→Prop)
 (HX:Hid (DnX z n nf v E Ah g g1 pd d fn k (-1) tn k w1)) (HO:Hid (d.tof = (tn:Int)))
 (hfk:fn < nf) (htk:tn < nf) (hkn:k < n) (hn:n ≤ 1000) (hnf:nf ≤ 1000) (hE:E.length < 4294967296)
 (HQ:RgDnQ15 w1 z n nf v E Ah ch g1 pd d fn tn k v0 v3 v4 v5 v6 v7 v9 Z0 Z2 Z3 Z4 Z5 Z6 Z7 Z8 Z9 ZA ZB ZC ZD ZE ZF ZG ZH ZI ZJ ZK ZL ZM ZN ZO ZP ZQ ZR ZS ZT ZU ZV ZW ZX ZY ZZ Za Zb Zc Zd Ze Zf Zg Zh Zi Zj Zk Zl Zm Zn Zo Zp Zq Zr Zs Zt Zu Zv Zw Zx Zy Zz Y0 Y1 Y2 Y3 Y4 Y5 Y6 Y7 Y8 Y9 YA YB YC YD YE YF YG YH YI YJ YK YL YM YN YO YP YQ YR YS YT YU YV YW YX YY YZ Ya Yb Yc Yd Ye Yf Yg Yh Yi Yj Yk Yl Ym Yn Yo Yp Yq Q) :
 Code.wp Tryz.prog rgDn15 Q ⟨#[v0,v,(Value.slice Ah nf ch),v3,v4,v5,v6,v7,(Value.pointer (some ⟨pd,0,none⟩)),v9,Z0,(Value.int .i64 (k:Int)),Z2,Z3,Z4,Z5,Z6,Z7,Z8,Z9,ZA,ZB,ZC,ZD,ZE,ZF,ZG,ZH,ZI,ZJ,ZK,ZL,ZM,ZN,ZO,ZP,ZQ,ZR,ZS,ZT,ZU,ZV,ZW,ZX,ZY,ZZ,Za,Zb,Zc,Zd,Ze,Zf,Zg,Zh,Zi,Zj,Zk,Zl,Zm,Zn,Zo,Zp,Zq,Zr,Zs,Zt,Zu,Zv,Zw,Zx,Zy,Zz,Y0,Y1,Y2,Y3,Y4,Y5,Y6,Y7,Y8,Y9,YA,YB,YC,YD,YE,YF,YG,YH,YI,YJ,YK,YL,YM,YN,YO,YP,YQ,YR,YS,YT,YU,YV,YW,YX,YY,YZ,Ya,Yb,Yc,Yd,Ye,Yf,Yg,Yh,Yi,Yj,Yk,Yl,Ym,Yn,Yo,Yp,Yq],[]⟩ w1:=by
 dsimp only
 conv => arg 2;whnf
 have hbd:Below w1.heap.size w1 w1.drew:=j1j (Below.refl _ _)
 have hl1:g1.length = nf:=HX.out.s1.l
 have hC:=fun (w':World) (hp:Below w1.drew.heap.size w1.drew w') => zA9 (blkD (j0f (j0f HX.out.dp hbd (zL9 _)) hp (zL9 _))) (j0a (j0f (j0f HX.out.dp hbd (zL9 _)) hp (zL9 _)))
 simp only [HX.out.df,HO.out] at hC
 have HC:=zQ9 hC
 clear hbd hC
 refine j0w 10 0 0 [] [] 0 (TBw) (PBw w1.drew) [0,0,0,0,0,0,0,0,0,0] (by as_aux_lemma => kernel_rfl) (by as_aux_lemma => kernel_rfl) (by as_aux_lemma => kernel_rfl) (by as_aux_lemma => kernel_rfl) (by omega) (.inl rfl) rfl rfl (fun k i w1 w2 hc _ hT hp => PBw.st k i w1 w2 hT hp) (fun k => Below.refl _ _) ?_
 apply Exists.intro
 refine ⟨fun ys => ?_,fun ops K hK => ?_⟩
 ·simp only [List.take_succ_cons,List.take_zero,j0p,List.filterMap_cons,List.filterMap_nil,j0q]
  go_simp
  rfl
 simp only [List.take_succ_cons,List.take_zero,List.drop_succ_cons,List.drop_zero] at hK ⊢
 repeat
  refine LexT.const TBw.rf ?_
  apply Exists.intro
  refine ⟨fun ys w' hp hpk hq hd => ?_,?_⟩
  ·try simp [j0e,j0g,DF.holds,Region.binds,EqF] at hd
   try simp only [hd]
   obtain ⟨⟨z0,z1,z2,z3,z4,z5,z6,-,-,-,-,-⟩,hlg⟩:=HC.out w' hp
   intro Q2 hQ2
   go_wp2_with fail
   rfl
  try simp only [List.nil_append,List.cons_append]
 refine LexT.some (FEn w1.drew.heap.size nf g1) (fun i v w1 w2 hc _ hT h => FEn.st i v w1 w2 hT h) (fun ys w' hp hpk hq hd => ?_) ?_
 ·try simp [j0e,j0g,DF.holds,Region.binds,EqF] at hd
  try simp only [hd]
  have hpB:Below w1.heap.size w1 w':=(j1j (Below.refl _ _)).trans (Below.mono hp (zL9 _))
  have hpz:=Below.size hp
  have hwi:=j3y Ah nf ch n g fn k (-1) w' (HX.out.gz w' hpB) hnf HX.out.gs.r hn hfk hkn HX.out.b1 (by omega)
  rw [← HX.out.e1] at hwi
  clear hp hpk
  intro Q2 hQ2
  go_wp2_with fail
  refine hwi.mono ?_
  rintro e w4 ⟨⟨v,rfl,hen⟩,hb⟩
  obtain ⟨An,cn,rfl,hcn1,hcn2⟩:=hen.fm hl1
  have HX2:=zQ9 (show TBw 0 w' w4∧FEn w1.drew.heap.size nf g1 (.slice An nf cn) w4 from ⟨hb,An,cn,rfl,hcn1,hcn2,hen.mono hpz⟩)
  clear hen hb hwi
  go_wp2
  exact ⟨_,rfl,HX2.out⟩
 try simp only [List.nil_append,List.cons_append]
 repeat
  refine LexT.const TBw.rf ?_
  apply Exists.intro
  refine ⟨fun ys w' hp hpk hq hd => ?_,?_⟩
  ·try simp [j0e,j0g,DF.holds,Region.binds,EqF] at hd
   try simp only [hd]
   obtain ⟨⟨z0,z1,z2,z3,z4,z5,z6,-,-,-,-,-⟩,hlg⟩:=HC.out w' hp
   intro Q2 hQ2
   go_wp2_with fail
   rfl
  try simp only [List.nil_append,List.cons_append]
 refine LexT.some (FEn w1.drew.heap.size nf (addG g1 tn k 1)) (fun i v w1 w2 hc _ hT h => FEn.st i v w1 w2 hT h) (fun ys w' hp hpk hq hd => ?_) ?_
 ·try simp [j0e,j0g,DF.holds,Region.binds,EqF] at hd
  try simp only [hd]
  obtain ⟨⟨An,cn,e9,hn1,hn2,hen⟩,hd⟩:=hd
  simp only [e9,hd]
  have hpz:=Below.size hp
  have hwi:=j3y An nf cn n g1 tn k 1 w' (hen.zz hl1) hnf HX.out.s1.r hn htk hkn HX.out.b2 (by omega)
  clear hp hpk e9 hd hen
  intro Q2 hQ2
  go_wp2_with fail
  refine hwi.mono ?_
  rintro e w4 ⟨⟨v,rfl,hen⟩,hb⟩
  obtain ⟨Am,cm,rfl,hcn1,hcn2⟩:=hen.fm (show (addG g1 tn k 1).length = nf by rw [j3l];exact hl1)
  have HX2:=zQ9 (show TBw 0 w' w4∧FEn w1.drew.heap.size nf (addG g1 tn k 1) (.slice Am nf cm) w4 from ⟨hb,Am,cm,rfl,hcn1,hcn2,hen.mono hpz⟩)
  clear hen hb hwi
  go_wp2
  exact ⟨_,rfl,HX2.out⟩
 try simp only [List.nil_append,List.cons_append]
 repeat
  refine LexT.const TBw.rf ?_
  apply Exists.intro
  refine ⟨fun ys w' hp hpk hq hd => ?_,?_⟩
  ·try simp [j0e,j0g,DF.holds,Region.binds,EqF] at hd
   try simp only [hd]
   obtain ⟨⟨z0,z1,z2,z3,z4,z5,z6,-,-,-,-,-⟩,hlg⟩:=HC.out w' hp
   intro Q2 hQ2
   go_wp2_with fail
   rfl
  try simp only [List.nil_append,List.cons_append]
 refine hK _ fun ys w' hp hF => ?_
 simp [AllF,DF.holds] at hF
 obtain ⟨f99,-,-,-,-,-,-,-,-,Am,cm,e57,hm1,hm2,hen⟩:=hF
 simp only [f99,e57]
 have hpB:Below w1.heap.size w1 w':=(j1j (Below.refl _ _)).trans (Below.mono hp (zL9 _))
 have had:=j5z HX.out.og hpB (zL9 _) hen (HX.out.s1.add htk k 1) ⟨hm1,hm2⟩ hn hnf hE
 clear hK f99 e57 hen hp hpB
 go_wp2_with (go_at_call 143;(with_reducible refine had.mono ?_);rintro e w3 ⟨v3,rfl,hE3⟩;have H3:=zQ9 hE3;clear hE3)
 exact HQ _ _ _ _ _ _ _ _ _ _ _ _ _ H3.out
noncomputable def rgDn14:Code:=((Tryz.f129.body.bind (j1x 14)).getD .skip)
def RgDnQ14 (w2:World) (BB DK o:Nat) (own:Int) (mb:Bool) (v0 v1 v2 v3 v6 v7 v9 Z0 Z2 Z3 Z4 Z5 Z6 Z7 Z8 Z9 ZA ZB ZC ZD ZE ZF ZG ZH ZI ZJ ZK ZL ZM ZN ZO ZP ZQ ZR ZS ZT ZU ZV ZW ZX ZY ZZ Za Zb Zc Zd Ze Zf Zg Zh Zi Zj Zk Zl Zm Zn Zo Zp Zq Zr Zs Zt Zu Zv Zw Zx Zy Zz Y0 Y1 Y2 Y3 Y4 Y5 Y6 Y7 Y8 Y9 YA YB YC YD YE YF YG YH YI YJ YK YL YM YN YO YP YQ YR YS YT YU YV YW YX YY YZ Ya Yb Yc Yd Ye Yf Yg Yh Yi Yj Yk Yl Ym Yn Yo Yp Yq:Value) (Q:Exit→Act→World→Prop):Prop:=∀ (XK XL XM XN XO XP XQ XR XS XT XU XV XW XX XY XZ Xa Xb Xc Xd:Value) (w':World),Below w2.heap.size w2 w'→Q .normal ⟨#[v0,v1,v2,v3,(Value.int .i64 own),(Value.pointer (some ⟨BB,0,none⟩)),v6,v7,(Value.pointer (some ⟨DK,0,none⟩)),v9,Z0,(Value.int .i64 (o:Int)),Z2,Z3,Z4,Z5,Z6,Z7,Z8,Z9,ZA,ZB,ZC,ZD,ZE,ZF,ZG,ZH,ZI,ZJ,ZK,ZL,ZM,ZN,ZO,ZP,ZQ,ZR,ZS,ZT,ZU,ZV,ZW,ZX,ZY,ZZ,Za,Zb,Zc,Zd,Ze,Zf,Zg,Zh,Zi,Zj,Zk,Zl,Zm,Zn,Zo,Zp,Zq,Zr,Zs,Zt,Zu,Zv,Zw,Zx,Zy,Zz,Y0,Y1,Y2,Y3,Y4,Y5,XK,XL,XM,XN,XO,XP,XQ,XR,XS,XT,XU,XV,XW,XX,XY,XZ,Xa,Xb,Xc,Xd,(Value.bool mb),YR,YS,YT,YU,YV,YW,YX,YY,YZ,Ya,Yb,Yc,Yd,Ye,Yf,Yg,Yh,Yi,Yj,Yk,Yl,Ym,Yn,Yo,Yp,Yq],[]⟩ w'
set_option maxHeartbeats 8000000 in
theorem done_may (w2:World) (b:Hb) (d:De) (BB DK o i:Nat) (deed owner own:Int) (mb:Bool) (v0 v1 v2 v3 v6 v7 v9 Z0 Z2 Z3 Z4 Z5 Z6 Z7 Z8 Z9 ZA ZB ZC ZD ZE ZF ZG ZH ZI ZJ ZK ZL ZM ZN ZO ZP ZQ ZR ZS ZT ZU ZV ZW ZX ZY ZZ Za Zb Zc Zd Ze Zf Zg Zh Zi Zj Zk Zl Zm Zn Zo Zp Zq Zr Zs Zt Zu Zv Zw Zx Zy Zz Y0 Y1 Y2 Y3 Y4 Y5 Y6 Y7 Y8 Y9 YA YB YC YD YE YF YG YH YI YJ YK YL YM YN YO YP YQ YR YS YT YU YV YW YX YY YZ Ya Yb Yc Yd Ye Yf Yg Yh Yi Yj Yk Yl Ym Yn Yo Yp Yq:Value) (Q:Exit→Act→World→Prop)
 (HIn:Hid (HbIn w2 b)) (HB:Hid (w2.heap[BB]? = some b.obj)) (HD:Hid (w2.heap[DK]? = some (dObj d))) (HOK:Hid (HeOk b.t b.l b.ks b.hs b.ds∧seen d.s 9 6 = 0)) (hol:o < b.l.length)
 (HM:Hid (mb = mayB b.t b.l deed owner i d.s o)) (HW:Hid ((own = if (i:Int) = deed then owner else -1)∧((i:Int) = deed→0 ≤ owner)))
 (HQ:RgDnQ14 w2 BB DK o own mb v0 v1 v2 v3 v6 v7 v9 Z0 Z2 Z3 Z4 Z5 Z6 Z7 Z8 Z9 ZA ZB ZC ZD ZE ZF ZG ZH ZI ZJ ZK ZL ZM ZN ZO ZP ZQ ZR ZS ZT ZU ZV ZW ZX ZY ZZ Za Zb Zc Zd Ze Zf Zg Zh Zi Zj Zk Zl Zm Zn Zo Zp Zq Zr Zs Zt Zu Zv Zw Zx Zy Zz Y0 Y1 Y2 Y3 Y4 Y5 Y6 Y7 Y8 Y9 YA YB YC YD YE YF YG YH YI YJ YK YL YM YN YO YP YQ YR YS YT YU YV YW YX YY YZ Ya Yb Yc Yd Ye Yf Yg Yh Yi Yj Yk Yl Ym Yn Yo Yp Yq Q) :
 Code.wp Tryz.prog rgDn14 Q ⟨#[v0,v1,v2,v3,(Value.int .i64 own),(Value.pointer (some ⟨BB,0,none⟩)),v6,v7,(Value.pointer (some ⟨DK,0,none⟩)),v9,Z0,(Value.int .i64 (o:Int)),Z2,Z3,Z4,Z5,Z6,Z7,Z8,Z9,ZA,ZB,ZC,ZD,ZE,ZF,ZG,ZH,ZI,ZJ,ZK,ZL,ZM,ZN,ZO,ZP,ZQ,ZR,ZS,ZT,ZU,ZV,ZW,ZX,ZY,ZZ,Za,Zb,Zc,Zd,Ze,Zf,Zg,Zh,Zi,Zj,Zk,Zl,Zm,Zn,Zo,Zp,Zq,Zr,Zs,Zt,Zu,Zv,Zw,Zx,Zy,Zz,Y0,Y1,Y2,Y3,Y4,Y5,Y6,Y7,Y8,Y9,YA,YB,YC,YD,YE,YF,YG,YH,YI,YJ,YK,YL,YM,YN,YO,YP,YQ,YR,YS,YT,YU,YV,YW,YX,YY,YZ,Ya,Yb,Yc,Yd,Ye,Yf,Yg,Yh,Yi,Yj,Yk,Yl,Ym,Yn,Yo,Yp,Yq],[]⟩ w2:=by
 dsimp only
 conv => arg 2;whnf
 obtain ⟨c0,c1,-,-,-⟩:=j0i HB.out
 obtain ⟨-,-,-,-,-,-,-,z7,z8,z9,z10,z11⟩:=blkD HD.out
 have hlB:=j0a HB.out
 have hlD:=j0a HD.out
 obtain ⟨bm,om,mk,eA,hbm,hmk,m0,m1,m2⟩:=Marks.get HIn.out.m hol
 rw [eA] at c1
 obtain ⟨hsn,hso,-,-⟩:=j8k HOK.out.2
 have hmv:=(j4g HOK.out.1.ck mk (List.mem_of_getElem? hmk)).1
 have i1:(o:Int) < (b.l.length:Int):=by omega
 have hmc:=HIn.out.mc
 have hmm:=HIn.out.mm
 have cM:∀ d' os,Calls Tryz.prog 94 #[vSg d.s,vMk mk,.int .i64 b.t] (Sort.grow (redrawn w2 d') os) (fun e w'' => e = .returned (.bool (fits d.s mk b.t))∧∃ p:Regrown,w'' = Sort.grow (redrawn w2 p.d) p.os):=fun d' os =>
  Calls.regrown_of (rFits d.s mk b.t _ hmv.1 hmv.2 hsn.1 hsn.2 hso)
 obtain ⟨F,hF⟩:∃ F,F = fits d.s mk b.t:=⟨_,rfl⟩
 rw [← hF] at cM
 have hMB:mb = (j1u deed owner i o && F):=by
  rw [HM.out]
  unfold mayB
  rw [hmk,hF]
  rfl
 unfold vSg vMk at cM
 have HCM:=zQ9 cM
 have k0:=cell_regrown c0
 have k1:=cell_regrown c1
 have k3:=zA9 (cell_regrown z7) (zA9 (cell_regrown z8) (zA9 (cell_regrown z9) (zA9 (cell_regrown z10) (cell_regrown z11))))
 have k4:=zA9 (cell_regrown m0) (zA9 (cell_regrown m1) (cell_regrown m2))
 have hcase:(own < 0∧mb = F) ∨ (¬ own < 0∧((o:Int) == own) = true∧mb = F) ∨ (¬ own < 0∧((o:Int) == own) = false∧mb = false):=by
  rw [hMB]
  obtain ⟨h1,h2⟩:=HW.out
  unfold j1u
  by_cases h3:(i:Int) = deed
  ·rw [if_pos h3] at h1
   have h4:=h2 h3
   subst h1
   by_cases h5:(o:Int) = own
   ·exact .inr (.inl ⟨by omega,by simp [h5],by simp [h5]⟩)
   ·exact .inr (.inr ⟨by omega,by simp [h5],by simp [h3,h5]⟩)
  ·rw [if_neg h3] at h1
   exact .inl ⟨by omega,by simp [h3]⟩
 clear c0 c1 z7 z8 z9 z10 z11 m0 m1 m2 cM hMB hF hmk eA hsn hso hmv
 rcases hcase with ⟨e1,rfl⟩ | ⟨e1,e2,rfl⟩ | ⟨e1,e2,rfl⟩
 all_goals
  try cases mb
 all_goals
  refine wp_region_quiet_below (by kernel_rfl) (by kernel_rfl) ?_
  repeat (go_big_quiet_step (exact HCM.out _ _))
  refine wpQuiet_nil ?_
  intro _ hw'
  obtain ⟨⟨dq,osq⟩,hw''⟩:=hw'
  subst hw''
  go_wp2_with fail
  exact HQ _ _ _ _ _ _ _ _ _ _ _ _ _ _ _ _ _ _ _ _ _ (below_regrown w2 dq osq)
end Go.Proofs.YtmennjmjakdkcaaGreat
