/- HerdHas. -/
import Derived.Test.YtmennjmjakdkcaaGreatHs25
set_option linter.unusedVariables false
set_option linter.unusedSimpArgs false
set_option maxRecDepth 1000000
set_option maxHeartbeats 8000000
namespace Go.Proofs.YtmennjmjakdkcaaGreat
open Go.RowKit
theorem EndG.keepZ {w2:World} {base cn nf:Nat} {An:Option Addr} {g:Gr} {v:Value} (hen:EndG w2 base (.slice An nf cn) g) (hl:g.length=nf) (hv:∀ k,v.ownBlock=some k→k<base):∀ w',w2.grownBy w' v.ownBlock→j0z w' An nf g:=fun w' hg=>by
 have h1:=hen.grown hg hv
 obtain⟨A9,c9,e9,hz9,-,-,-⟩:=h1.ownG.formZ
 injection e9 with e9 _ _
 rw[e9]
 rwa [hl] at hz9
def FEn (base nf:Nat) (g:Gr):VF:=fun v w=>∃ An cn,v=.slice An nf cn∧nf≤cn∧cn≤maxLen∧EndG w base (.slice An nf cn) g
theorem FEn.st {base nf:Nat} {g:Gr} (i:Nat) (v:Value) (w w':World) (hT:TBw i w w') (h:FEn base nf g v w):FEn base nf g v w':=by
 obtain⟨An,cn,a,b,c,d⟩:=h
 exact⟨An,cn,a,b,c,d.below hT (zL9 _)⟩
theorem j6n {z n nf:Nat} {v:Value} {E:List Gr} {w w2:World} {base cn:Nat} {An:Option Addr} {g:Gr} (h:OwnGG z n nf v E w) (hb:Below w.heap.size w w2) (hv:w.heap.size≤base) (hen:EndG w2 base (.slice An nf cn) g) (hg:GSh n nf g) (hc:nf≤cn∧cn≤maxLen) (hn:n≤1000) (hnf:nf≤1000) (hE:E.length<4294967296) :
 Calls Tryz.prog 143 #[v,.slice An nf cn] w2 fun e w'=>∃ v',e=.returned v'∧GgE z n nf v w v' (addR E g) w':=by
 refine(j9q z n nf v E An cn g w2 (h.below hb) hg (hen.keepZ hg.l (fun k e=>Nat.lt_of_lt_of_le (h.lt k e).2 hv)) hc hn hnf hE).mono ?_
 rintro e w' ⟨v',rfl,hE⟩
 exact⟨v',rfl,GgE.before hb hE⟩
theorem EndG.zz {w2:World} {base cn nf:Nat} {An:Option Addr} {g:Gr} (hen:EndG w2 base (.slice An nf cn) g) (hl:g.length=nf):j0z w2 An nf g :=
 hen.keepZ (v:=.slice none 0 0) hl (fun k e=>by simp[Value.ownBlock] at e) w2 (World.grownBy.refl _ _)
theorem EndG.fm {w2:World} {base nf:Nat} {v:Value} {g:Gr} (hen:EndG w2 base v g) (hl:g.length=nf):∃ An cn,v=.slice An nf cn∧nf≤cn∧cn≤maxLen:=by
 obtain⟨An,cn,rfl,-,h1,h2⟩:=hen.ownG.form
 rw[hl] at h1
 exact⟨An,cn,by rw[hl],h1,h2⟩
theorem q1d:∀ {l:List Int},(∀ x∈l,0≤x)→0≤l.sum
 | [],_=>by simp
 | x::l,h=>by
   have h1:=h x List.mem_cons_self
   have h2:=q1d (l:=l) fun y hy=>h y (List.mem_cons_of_mem _ hy)
   rw[List.sum_cons]
   omega
structure DnX (z n nf:Nat) (v:Value) (E:List Gr) (Ah:Option Addr) (g g1:Gr) (pd:Nat) (d:De) (fn o1:Nat) (k1:Int) (f2 o2:Nat) (w1:World):Prop where
 og:OwnGG z n nf v E w1
 gs:GSh n nf g
 gz:∀ w',Below w1.heap.size w1 w'→j0z w' Ah nf g
 dp:w1.heap[pd]?=some (dObj d)
 df:d.flock=(fn:Int)
 s1:GSh n nf g1
 e1:g1=addG g fn o1 k1
 b1:-100000≤getG g fn o1∧getG g fn o1≤100000
 b2:-100000≤getG g1 f2 o2∧getG g1 f2 o2≤100000
noncomputable def rgDn7:Code:=((Tryz.f129.body.bind (j2c 7)).getD .skip)
def RgDnQ7 (w1:World) (z n nf:Nat) (v:Value) (E:List Gr) (Ah:Option Addr) (ch:Nat) (g1:Gr) (pd:Nat) (d:De) (fn xn:Nat) (v0 v3 v4 v5 v6 v7 v9 Z0 Z1 Z2 Z3 Z4 Z5 Z6 Z7 Z8 Z9 ZA ZB ZC ZD ZE ZF ZG ZH ZI ZJ ZK ZL ZM ZN ZO ZP ZQ ZR ZS ZT ZU ZV ZW ZX ZY ZZ Za Zb Zc Zd Ze Zf Zg Zh Zi Zj Zk Zl Zm Zn Zo Zp Zq Zr Zs Zt Zu Zv Zw Zx Zy Zz Y0 Y1 Y2 Y3 Y4 Y5 Y6 Y7 Y8 Y9 YA YB YC YD YE YF YG YH YI YJ YK YL YM YN YO YP YQ YR YS YT YU YV YW YX YY YZ Ya Yb Yc Yd Ye Yf Yg Yh Yi Yj Yk Yl Ym Yn Yo Yp Yq:Value) (Q:Exit→Act→World→Prop):Prop:=∀ (Yr Ys Yt Yu Yv Yw Yx Yy Yz X0 X1 X2 X3 X4 X5 X6 X7 X8:Value) (v':Value) (w':World),GgE z n nf v w1 v' (addR E (addG g1 fn xn d.many)) w'→Q .normal ⟨#[v0,v,(Value.slice Ah nf ch),v3,v4,v5,v6,v7,(Value.pointer (some ⟨pd,0,none⟩)),v9,v',Z1,Z2,Z3,Z4,Z5,Z6,Z7,Z8,Z9,ZA,ZB,ZC,ZD,ZE,ZF,ZG,ZH,ZI,ZJ,ZK,ZL,ZM,ZN,ZO,ZP,ZQ,ZR,ZS,ZT,ZU,Yr,Ys,Yt,Yu,Yv,Yw,Yx,Yy,Yz,X0,X1,X2,X3,X4,X5,X6,X7,X8,Zn,Zo,Zp,Zq,Zr,Zs,Zt,Zu,Zv,Zw,Zx,Zy,Zz,Y0,Y1,Y2,Y3,Y4,Y5,Y6,Y7,Y8,Y9,YA,YB,YC,YD,YE,YF,YG,YH,YI,YJ,YK,YL,YM,YN,YO,YP,YQ,YR,YS,YT,YU,YV,YW,YX,YY,YZ,Ya,Yb,Yc,Yd,Ye,Yf,Yg,Yh,Yi,Yj,Yk,Yl,Ym,Yn,Yo,Yp,Yq],[]⟩ w'
theorem q3g (w1:World) (z n nf:Nat) (v:Value) (E:List Gr) (Ah:Option Addr) (ch:Nat) (g g1:Gr) (pd:Nat) (d:De) (fn on xn:Nat) (v0 v3 v4 v5 v6 v7 v9 Z0 Z1 Z2 Z3 Z4 Z5 Z6 Z7 Z8 Z9 ZA ZB ZC ZD ZE ZF ZG ZH ZI ZJ ZK ZL ZM ZN ZO ZP ZQ ZR ZS ZT ZU ZV ZW ZX ZY ZZ Za Zb Zc Zd Ze Zf Zg Zh Zi Zj Zk Zl Zm Zn Zo Zp Zq Zr Zs Zt Zu Zv Zw Zx Zy Zz Y0 Y1 Y2 Y3 Y4 Y5 Y6 Y7 Y8 Y9 YA YB YC YD YE YF YG YH YI YJ YK YL YM YN YO YP YQ YR YS YT YU YV YW YX YY YZ Ya Yb Yc Yd Ye Yf Yg Yh Yi Yj Yk Yl Ym Yn Yo Yp Yq:Value) (Q:Exit→Act→World→Prop)
 (HX:Hid (DnX z n nf v E Ah g g1 pd d fn on (-d.many) fn xn w1)) (HO:Hid (d.owner=(on:Int)∧d.other=(xn:Int)))
 (hm:0≤d.many∧d.many≤1000) (hfk:fn<nf) (hon:on<n) (hxn:xn<n) (hn:n≤1000) (hnf:nf≤1000) (hE:E.length<4294967296)
 (HQ:RgDnQ7 w1 z n nf v E Ah ch g1 pd d fn xn v0 v3 v4 v5 v6 v7 v9 Z0 Z1 Z2 Z3 Z4 Z5 Z6 Z7 Z8 Z9 ZA ZB ZC ZD ZE ZF ZG ZH ZI ZJ ZK ZL ZM ZN ZO ZP ZQ ZR ZS ZT ZU ZV ZW ZX ZY ZZ Za Zb Zc Zd Ze Zf Zg Zh Zi Zj Zk Zl Zm Zn Zo Zp Zq Zr Zs Zt Zu Zv Zw Zx Zy Zz Y0 Y1 Y2 Y3 Y4 Y5 Y6 Y7 Y8 Y9 YA YB YC YD YE YF YG YH YI YJ YK YL YM YN YO YP YQ YR YS YT YU YV YW YX YY YZ Ya Yb Yc Yd Ye Yf Yg Yh Yi Yj Yk Yl Ym Yn Yo Yp Yq Q) :
 Code.wp Tryz.prog rgDn7 Q ⟨#[v0,v,(Value.slice Ah nf ch),v3,v4,v5,v6,v7,(Value.pointer (some ⟨pd,0,none⟩)),v9,Z0,Z1,Z2,Z3,Z4,Z5,Z6,Z7,Z8,Z9,ZA,ZB,ZC,ZD,ZE,ZF,ZG,ZH,ZI,ZJ,ZK,ZL,ZM,ZN,ZO,ZP,ZQ,ZR,ZS,ZT,ZU,ZV,ZW,ZX,ZY,ZZ,Za,Zb,Zc,Zd,Ze,Zf,Zg,Zh,Zi,Zj,Zk,Zl,Zm,Zn,Zo,Zp,Zq,Zr,Zs,Zt,Zu,Zv,Zw,Zx,Zy,Zz,Y0,Y1,Y2,Y3,Y4,Y5,Y6,Y7,Y8,Y9,YA,YB,YC,YD,YE,YF,YG,YH,YI,YJ,YK,YL,YM,YN,YO,YP,YQ,YR,YS,YT,YU,YV,YW,YX,YY,YZ,Ya,Yb,Yc,Yd,Ye,Yf,Yg,Yh,Yi,Yj,Yk,Yl,Ym,Yn,Yo,Yp,Yq],[]⟩ w1:=by
 dsimp only
 conv=>arg 2;whnf
 have hbd:Below w1.heap.size w1 w1.drew:=j1j (Below.refl _ _)
 have hl1:g1.length=nf:=HX.out.s1.l
 have hC:=fun(w':World) (hp:Below w1.drew.heap.size w1.drew w')=>zA9 (blkD (j0e (j0e HX.out.dp hbd (zL9 _)) hp (zL9 _))) (j0a (j0e (j0e HX.out.dp hbd (zL9 _)) hp (zL9 _)))
 simp only[HX.out.df,HO.out.1,HO.out.2] at hC
 have HC:=zQ9 hC
 clear hbd hC
 refine j0y 17 0 0 [] [] 0 (TBw) (PBw w1.drew) [0,0,0,0,0,0,0,0,0,0,0,0,0,0,0,0,0] (by as_aux_lemma=>kernel_rfl) (by as_aux_lemma=>kernel_rfl) (by as_aux_lemma=>kernel_rfl) (by as_aux_lemma=>kernel_rfl) (by omega) (.inl rfl) rfl rfl (fun k i w1 w2 hc _ hT hp=>PBw.st k i w1 w2 hT hp) (fun k=>Below.refl _ _) ?_
 apply Exists.intro
 refine⟨fun ys=>?_,fun ops K hK=>?_⟩
 ·simp only[List.take_succ_cons,List.take_zero,j0q,List.filterMap_cons,List.filterMap_nil,j0r]
  go_simp
  rfl
 simp only[List.take_succ_cons,List.take_zero,List.drop_succ_cons,List.drop_zero] at hK ⊢
 repeat
  refine LexT.const TBw.rf ?_
  apply Exists.intro
  refine⟨fun ys w' hp hpk hq hd=>?_,?_⟩
  ·try simp[j0f,j0g,DF.holds,Region.binds,EqF] at hd
   try simp only[hd]
   obtain⟨⟨z0,z1,z2,z3,z4,z5,z6,-,-,-,-,-⟩,hlg⟩:=HC.out w' hp
   intro Q2 hQ2
   go_wp2_with fail
   rfl
  try simp only[List.nil_append,List.cons_append]
 refine LexT.some (FEn w1.drew.heap.size nf g1) (fun i v w1 w2 hc _ hT h=>FEn.st i v w1 w2 hT h) (fun ys w' hp hpk hq hd=>?_) ?_
 ·try simp[j0f,j0g,DF.holds,Region.binds,EqF] at hd
  try simp only[hd]
  have hpB:Below w1.heap.size w1 w':=(j1j (Below.refl _ _)).trans (Below.mono hp (zL9 _))
  have hpz:=Below.size hp
  have hwi:=j4i Ah nf ch n g fn on (-d.many) w' (HX.out.gz w' hpB) hnf HX.out.gs.r hn hfk hon HX.out.b1 (by omega)
  rw[←HX.out.e1] at hwi
  clear hp hpk
  intro Q2 hQ2
  go_wp2_with fail
  refine hwi.mono ?_
  rintro e w4 ⟨⟨v,rfl,hen⟩,hb⟩
  obtain⟨An,cn,rfl,hcn1,hcn2⟩:=hen.fm hl1
  have HX2:=zQ9 (show TBw 0 w' w4∧FEn w1.drew.heap.size nf g1 (.slice An nf cn) w4 from⟨hb,An,cn,rfl,hcn1,hcn2,hen.mono hpz⟩)
  clear hen hb hwi
  go_wp2
  exact⟨_,rfl,HX2.out⟩
 try simp only[List.nil_append,List.cons_append]
 repeat
  refine LexT.const TBw.rf ?_
  apply Exists.intro
  refine⟨fun ys w' hp hpk hq hd=>?_,?_⟩
  ·try simp[j0f,j0g,DF.holds,Region.binds,EqF] at hd
   try simp only[hd]
   obtain⟨⟨z0,z1,z2,z3,z4,z5,z6,-,-,-,-,-⟩,hlg⟩:=HC.out w' hp
   intro Q2 hQ2
   go_wp2_with fail
   rfl
  try simp only[List.nil_append,List.cons_append]
 refine LexT.some (FEn w1.drew.heap.size nf (addG g1 fn xn d.many)) (fun i v w1 w2 hc _ hT h=>FEn.st i v w1 w2 hT h) (fun ys w' hp hpk hq hd=>?_) ?_
 ·try simp[j0f,j0g,DF.holds,Region.binds,EqF] at hd
  try simp only[hd]
  obtain⟨⟨An,cn,e9,hn1,hn2,hen⟩,hd⟩:=hd
  simp only[e9,hd]
  have hpz:=Below.size hp
  have hwi:=j4i An nf cn n g1 fn xn d.many w' (hen.zz hl1) hnf HX.out.s1.r hn hfk hxn HX.out.b2 (by omega)
  clear hp hpk e9 hd hen
  intro Q2 hQ2
  go_wp2_with fail
  refine hwi.mono ?_
  rintro e w4 ⟨⟨v,rfl,hen⟩,hb⟩
  obtain⟨Am,cm,rfl,hcn1,hcn2⟩:=hen.fm (show(addG g1 fn xn d.many).length=nf by rw[j3t];exact hl1)
  have HX2:=zQ9 (show TBw 0 w' w4∧FEn w1.drew.heap.size nf (addG g1 fn xn d.many) (.slice Am nf cm) w4 from⟨hb,Am,cm,rfl,hcn1,hcn2,hen.mono hpz⟩)
  clear hen hb hwi
  go_wp2
  exact⟨_,rfl,HX2.out⟩
 try simp only[List.nil_append,List.cons_append]
 repeat
  refine LexT.const TBw.rf ?_
  apply Exists.intro
  refine⟨fun ys w' hp hpk hq hd=>?_,?_⟩
  ·try simp[j0f,j0g,DF.holds,Region.binds,EqF] at hd
   try simp only[hd]
   obtain⟨⟨z0,z1,z2,z3,z4,z5,z6,-,-,-,-,-⟩,hlg⟩:=HC.out w' hp
   intro Q2 hQ2
   go_wp2_with fail
   rfl
  try simp only[List.nil_append,List.cons_append]
 refine hK _ fun ys w' hp hF=>?_
 simp[AllF,DF.holds] at hF
 obtain⟨f41,-,-,-,-,-,-,-,-,-,-,-,-,-,-,-,Am,cm,e57,hm1,hm2,hen⟩:=hF
 simp only[f41,e57]
 have hpB:Below w1.heap.size w1 w':=(j1j (Below.refl _ _)).trans (Below.mono hp (zL9 _))
 have had:=j6n HX.out.og hpB (zL9 _) hen (HX.out.s1.add hfk xn d.many) ⟨hm1,hm2⟩ hn hnf hE
 clear hK f41 e57 hen hp hpB
 go_wp2_with (go_at_call 143;(with_reducible refine had.mono ?_);rintro e w3 ⟨v3,rfl,hE3⟩;have H3:=zQ9 hE3;clear hE3)
 exact HQ _ _ _ _ _ _ _ _ _ _ _ _ _ _ _ _ _ _ _ _ H3.out
noncomputable def rgDn15:Code:=((Tryz.f129.body.bind (j2c 15)).getD .skip)
def RgDnQ15 (w1:World) (z n nf:Nat) (v:Value) (E:List Gr) (Ah:Option Addr) (ch:Nat) (g1:Gr) (pd:Nat) (d:De) (fn tn k:Nat) (v0 v3 v4 v5 v6 v7 v9 Z0 Z2 Z3 Z4 Z5 Z6 Z7 Z8 Z9 ZA ZB ZC ZD ZE ZF ZG ZH ZI ZJ ZK ZL ZM ZN ZO ZP ZQ ZR ZS ZT ZU ZV ZW ZX ZY ZZ Za Zb Zc Zd Ze Zf Zg Zh Zi Zj Zk Zl Zm Zn Zo Zp Zq Zr Zs Zt Zu Zv Zw Zx Zy Zz Y0 Y1 Y2 Y3 Y4 Y5 Y6 Y7 Y8 Y9 YA YB YC YD YE YF YG YH YI YJ YK YL YM YN YO YP YQ YR YS YT YU YV YW YX YY YZ Ya Yb Yc Yd Ye Yf Yg Yh Yi Yj Yk Yl Ym Yn Yo Yp Yq:Value) (Q:Exit→Act→World→Prop):Prop:=∀ (X9 XA XB XC XD XE XF XG XH XI XJ:Value) (v':Value) (w':World),GgE z n nf v w1 v' (addR E (addG g1 tn k 1)) w'→Q .normal ⟨#[v0,v',(Value.slice Ah nf ch),v3,v4,v5,v6,v7,(Value.pointer (some ⟨pd,0,none⟩)),v9,Z0,(Value.int .i64 (k:Int)),Z2,Z3,Z4,Z5,Z6,Z7,Z8,Z9,ZA,ZB,ZC,ZD,ZE,ZF,ZG,ZH,ZI,ZJ,ZK,ZL,ZM,ZN,ZO,ZP,ZQ,ZR,ZS,ZT,ZU,ZV,ZW,ZX,ZY,ZZ,Za,Zb,Zc,Zd,Ze,Zf,Zg,Zh,Zi,Zj,Zk,Zl,Zm,Zn,Zo,Zp,Zq,Zr,Zs,Zt,Zu,Zv,Zw,Zx,Zy,Zz,Y0,Y1,Y2,Y3,Y4,Y5,Y6,Y7,Y8,Y9,YA,YB,YC,YD,YE,YF,YG,YH,YI,YJ,YK,YL,YM,YN,YO,YP,YQ,X9,XA,XB,XC,XD,XE,XF,XG,XH,XI,XJ,Yc,Yd,Ye,Yf,Yg,Yh,Yi,Yj,Yk,Yl,Ym,Yn,Yo,Yp,Yq],[]⟩ w'
theorem q1o (w1:World) (z n nf:Nat) (v:Value) (E:List Gr) (Ah:Option Addr) (ch:Nat) (g g1:Gr) (pd:Nat) (d:De) (fn tn k:Nat) (v0 v3 v4 v5 v6 v7 v9 Z0 Z2 Z3 Z4 Z5 Z6 Z7 Z8 Z9 ZA ZB ZC ZD ZE ZF ZG ZH ZI ZJ ZK ZL ZM ZN ZO ZP ZQ ZR ZS ZT ZU ZV ZW ZX ZY ZZ Za Zb Zc Zd Ze Zf Zg Zh Zi Zj Zk Zl Zm Zn Zo Zp Zq Zr Zs Zt Zu Zv Zw Zx Zy Zz Y0 Y1 Y2 Y3 Y4 Y5 Y6 Y7 Y8 Y9 YA YB YC YD YE YF YG YH YI YJ YK YL YM YN YO YP YQ YR YS YT YU YV YW YX YY YZ Ya Yb Yc Yd Ye Yf Yg Yh Yi Yj Yk Yl Ym Yn Yo Yp Yq:Value) (Q:Exit→Act→World→Prop)
 (HX:Hid (DnX z n nf v E Ah g g1 pd d fn k (-1) tn k w1)) (HO:Hid (d.tof=(tn:Int)))
 (hfk:fn<nf) (htk:tn<nf) (hkn:k<n) (hn:n≤1000) (hnf:nf≤1000) (hE:E.length<4294967296)
 (HQ:RgDnQ15 w1 z n nf v E Ah ch g1 pd d fn tn k v0 v3 v4 v5 v6 v7 v9 Z0 Z2 Z3 Z4 Z5 Z6 Z7 Z8 Z9 ZA ZB ZC ZD ZE ZF ZG ZH ZI ZJ ZK ZL ZM ZN ZO ZP ZQ ZR ZS ZT ZU ZV ZW ZX ZY ZZ Za Zb Zc Zd Ze Zf Zg Zh Zi Zj Zk Zl Zm Zn Zo Zp Zq Zr Zs Zt Zu Zv Zw Zx Zy Zz Y0 Y1 Y2 Y3 Y4 Y5 Y6 Y7 Y8 Y9 YA YB YC YD YE YF YG YH YI YJ YK YL YM YN YO YP YQ YR YS YT YU YV YW YX YY YZ Ya Yb Yc Yd Ye Yf Yg Yh Yi Yj Yk Yl Ym Yn Yo Yp Yq Q) :
 Code.wp Tryz.prog rgDn15 Q ⟨#[v0,v,(Value.slice Ah nf ch),v3,v4,v5,v6,v7,(Value.pointer (some ⟨pd,0,none⟩)),v9,Z0,(Value.int .i64 (k:Int)),Z2,Z3,Z4,Z5,Z6,Z7,Z8,Z9,ZA,ZB,ZC,ZD,ZE,ZF,ZG,ZH,ZI,ZJ,ZK,ZL,ZM,ZN,ZO,ZP,ZQ,ZR,ZS,ZT,ZU,ZV,ZW,ZX,ZY,ZZ,Za,Zb,Zc,Zd,Ze,Zf,Zg,Zh,Zi,Zj,Zk,Zl,Zm,Zn,Zo,Zp,Zq,Zr,Zs,Zt,Zu,Zv,Zw,Zx,Zy,Zz,Y0,Y1,Y2,Y3,Y4,Y5,Y6,Y7,Y8,Y9,YA,YB,YC,YD,YE,YF,YG,YH,YI,YJ,YK,YL,YM,YN,YO,YP,YQ,YR,YS,YT,YU,YV,YW,YX,YY,YZ,Ya,Yb,Yc,Yd,Ye,Yf,Yg,Yh,Yi,Yj,Yk,Yl,Ym,Yn,Yo,Yp,Yq],[]⟩ w1:=by
 dsimp only
 conv=>arg 2;whnf
 have hbd:Below w1.heap.size w1 w1.drew:=j1j (Below.refl _ _)
 have hl1:g1.length=nf:=HX.out.s1.l
 have hC:=fun(w':World) (hp:Below w1.drew.heap.size w1.drew w')=>zA9 (blkD (j0e (j0e HX.out.dp hbd (zL9 _)) hp (zL9 _))) (j0a (j0e (j0e HX.out.dp hbd (zL9 _)) hp (zL9 _)))
 simp only[HX.out.df,HO.out] at hC
 have HC:=zQ9 hC
 clear hbd hC
 refine j0y 10 0 0 [] [] 0 (TBw) (PBw w1.drew) [0,0,0,0,0,0,0,0,0,0] (by as_aux_lemma=>kernel_rfl) (by as_aux_lemma=>kernel_rfl) (by as_aux_lemma=>kernel_rfl) (by as_aux_lemma=>kernel_rfl) (by omega) (.inl rfl) rfl rfl (fun k i w1 w2 hc _ hT hp=>PBw.st k i w1 w2 hT hp) (fun k=>Below.refl _ _) ?_
 apply Exists.intro
 refine⟨fun ys=>?_,fun ops K hK=>?_⟩
 ·simp only[List.take_succ_cons,List.take_zero,j0q,List.filterMap_cons,List.filterMap_nil,j0r]
  go_simp
  rfl
 simp only[List.take_succ_cons,List.take_zero,List.drop_succ_cons,List.drop_zero] at hK ⊢
 repeat
  refine LexT.const TBw.rf ?_
  apply Exists.intro
  refine⟨fun ys w' hp hpk hq hd=>?_,?_⟩
  ·try simp[j0f,j0g,DF.holds,Region.binds,EqF] at hd
   try simp only[hd]
   obtain⟨⟨z0,z1,z2,z3,z4,z5,z6,-,-,-,-,-⟩,hlg⟩:=HC.out w' hp
   intro Q2 hQ2
   go_wp2_with fail
   rfl
  try simp only[List.nil_append,List.cons_append]
 refine LexT.some (FEn w1.drew.heap.size nf g1) (fun i v w1 w2 hc _ hT h=>FEn.st i v w1 w2 hT h) (fun ys w' hp hpk hq hd=>?_) ?_
 ·try simp[j0f,j0g,DF.holds,Region.binds,EqF] at hd
  try simp only[hd]
  have hpB:Below w1.heap.size w1 w':=(j1j (Below.refl _ _)).trans (Below.mono hp (zL9 _))
  have hpz:=Below.size hp
  have hwi:=j4i Ah nf ch n g fn k (-1) w' (HX.out.gz w' hpB) hnf HX.out.gs.r hn hfk hkn HX.out.b1 (by omega)
  rw[←HX.out.e1] at hwi
  clear hp hpk
  intro Q2 hQ2
  go_wp2_with fail
  refine hwi.mono ?_
  rintro e w4 ⟨⟨v,rfl,hen⟩,hb⟩
  obtain⟨An,cn,rfl,hcn1,hcn2⟩:=hen.fm hl1
  have HX2:=zQ9 (show TBw 0 w' w4∧FEn w1.drew.heap.size nf g1 (.slice An nf cn) w4 from⟨hb,An,cn,rfl,hcn1,hcn2,hen.mono hpz⟩)
  clear hen hb hwi
  go_wp2
  exact⟨_,rfl,HX2.out⟩
 try simp only[List.nil_append,List.cons_append]
 repeat
  refine LexT.const TBw.rf ?_
  apply Exists.intro
  refine⟨fun ys w' hp hpk hq hd=>?_,?_⟩
  ·try simp[j0f,j0g,DF.holds,Region.binds,EqF] at hd
   try simp only[hd]
   obtain⟨⟨z0,z1,z2,z3,z4,z5,z6,-,-,-,-,-⟩,hlg⟩:=HC.out w' hp
   intro Q2 hQ2
   go_wp2_with fail
   rfl
  try simp only[List.nil_append,List.cons_append]
 refine LexT.some (FEn w1.drew.heap.size nf (addG g1 tn k 1)) (fun i v w1 w2 hc _ hT h=>FEn.st i v w1 w2 hT h) (fun ys w' hp hpk hq hd=>?_) ?_
 ·try simp[j0f,j0g,DF.holds,Region.binds,EqF] at hd
  try simp only[hd]
  obtain⟨⟨An,cn,e9,hn1,hn2,hen⟩,hd⟩:=hd
  simp only[e9,hd]
  have hpz:=Below.size hp
  have hwi:=j4i An nf cn n g1 tn k 1 w' (hen.zz hl1) hnf HX.out.s1.r hn htk hkn HX.out.b2 (by omega)
  clear hp hpk e9 hd hen
  intro Q2 hQ2
  go_wp2_with fail
  refine hwi.mono ?_
  rintro e w4 ⟨⟨v,rfl,hen⟩,hb⟩
  obtain⟨Am,cm,rfl,hcn1,hcn2⟩:=hen.fm (show(addG g1 tn k 1).length=nf by rw[j3t];exact hl1)
  have HX2:=zQ9 (show TBw 0 w' w4∧FEn w1.drew.heap.size nf (addG g1 tn k 1) (.slice Am nf cm) w4 from⟨hb,Am,cm,rfl,hcn1,hcn2,hen.mono hpz⟩)
  clear hen hb hwi
  go_wp2
  exact⟨_,rfl,HX2.out⟩
 try simp only[List.nil_append,List.cons_append]
 repeat
  refine LexT.const TBw.rf ?_
  apply Exists.intro
  refine⟨fun ys w' hp hpk hq hd=>?_,?_⟩
  ·try simp[j0f,j0g,DF.holds,Region.binds,EqF] at hd
   try simp only[hd]
   obtain⟨⟨z0,z1,z2,z3,z4,z5,z6,-,-,-,-,-⟩,hlg⟩:=HC.out w' hp
   intro Q2 hQ2
   go_wp2_with fail
   rfl
  try simp only[List.nil_append,List.cons_append]
 refine hK _ fun ys w' hp hF=>?_
 simp[AllF,DF.holds] at hF
 obtain⟨f99,-,-,-,-,-,-,-,-,Am,cm,e57,hm1,hm2,hen⟩:=hF
 simp only[f99,e57]
 have hpB:Below w1.heap.size w1 w':=(j1j (Below.refl _ _)).trans (Below.mono hp (zL9 _))
 have had:=j6n HX.out.og hpB (zL9 _) hen (HX.out.s1.add htk k 1) ⟨hm1,hm2⟩ hn hnf hE
 clear hK f99 e57 hen hp hpB
 go_wp2_with (go_at_call 143;(with_reducible refine had.mono ?_);rintro e w3 ⟨v3,rfl,hE3⟩;have H3:=zQ9 hE3;clear hE3)
 exact HQ _ _ _ _ _ _ _ _ _ _ _ _ _ H3.out
noncomputable def rgDn14:Code:=((Tryz.f129.body.bind (j2c 14)).getD .skip)
def RgDnQ14 (w2:World) (BB DK o:Nat) (own:Int) (mb:Bool) (v0 v1 v2 v3 v6 v7 v9 Z0 Z2 Z3 Z4 Z5 Z6 Z7 Z8 Z9 ZA ZB ZC ZD ZE ZF ZG ZH ZI ZJ ZK ZL ZM ZN ZO ZP ZQ ZR ZS ZT ZU ZV ZW ZX ZY ZZ Za Zb Zc Zd Ze Zf Zg Zh Zi Zj Zk Zl Zm Zn Zo Zp Zq Zr Zs Zt Zu Zv Zw Zx Zy Zz Y0 Y1 Y2 Y3 Y4 Y5 Y6 Y7 Y8 Y9 YA YB YC YD YE YF YG YH YI YJ YK YL YM YN YO YP YQ YR YS YT YU YV YW YX YY YZ Ya Yb Yc Yd Ye Yf Yg Yh Yi Yj Yk Yl Ym Yn Yo Yp Yq:Value) (Q:Exit→Act→World→Prop):Prop:=∀ (XK XL XM XN XO XP XQ XR XS XT XU XV XW XX XY XZ Xa Xb Xc Xd:Value) (w':World),Below w2.heap.size w2 w'→Q .normal ⟨#[v0,v1,v2,v3,(Value.int .i64 own),(Value.pointer (some ⟨BB,0,none⟩)),v6,v7,(Value.pointer (some ⟨DK,0,none⟩)),v9,Z0,(Value.int .i64 (o:Int)),Z2,Z3,Z4,Z5,Z6,Z7,Z8,Z9,ZA,ZB,ZC,ZD,ZE,ZF,ZG,ZH,ZI,ZJ,ZK,ZL,ZM,ZN,ZO,ZP,ZQ,ZR,ZS,ZT,ZU,ZV,ZW,ZX,ZY,ZZ,Za,Zb,Zc,Zd,Ze,Zf,Zg,Zh,Zi,Zj,Zk,Zl,Zm,Zn,Zo,Zp,Zq,Zr,Zs,Zt,Zu,Zv,Zw,Zx,Zy,Zz,Y0,Y1,Y2,Y3,Y4,Y5,XK,XL,XM,XN,XO,XP,XQ,XR,XS,XT,XU,XV,XW,XX,XY,XZ,Xa,Xb,Xc,Xd,(Value.bool mb),YR,YS,YT,YU,YV,YW,YX,YY,YZ,Ya,Yb,Yc,Yd,Ye,Yf,Yg,Yh,Yi,Yj,Yk,Yl,Ym,Yn,Yo,Yp,Yq],[]⟩ w'
theorem done_may (w2:World) (b:Hb) (d:De) (BB DK o i:Nat) (deed owner own:Int) (mb:Bool) (v0 v1 v2 v3 v6 v7 v9 Z0 Z2 Z3 Z4 Z5 Z6 Z7 Z8 Z9 ZA ZB ZC ZD ZE ZF ZG ZH ZI ZJ ZK ZL ZM ZN ZO ZP ZQ ZR ZS ZT ZU ZV ZW ZX ZY ZZ Za Zb Zc Zd Ze Zf Zg Zh Zi Zj Zk Zl Zm Zn Zo Zp Zq Zr Zs Zt Zu Zv Zw Zx Zy Zz Y0 Y1 Y2 Y3 Y4 Y5 Y6 Y7 Y8 Y9 YA YB YC YD YE YF YG YH YI YJ YK YL YM YN YO YP YQ YR YS YT YU YV YW YX YY YZ Ya Yb Yc Yd Ye Yf Yg Yh Yi Yj Yk Yl Ym Yn Yo Yp Yq:Value) (Q:Exit→Act→World→Prop)
 (HIn:Hid (HbIn w2 b)) (HB:Hid (w2.heap[BB]?=some b.obj)) (HD:Hid (w2.heap[DK]?=some (dObj d))) (HOK:Hid (HeOk b.t b.l b.ks b.hs b.ds∧seen d.s 9 6=0)) (hol:o<b.l.length)
 (HM:Hid (mb=mayB b.t b.l deed owner i d.s o)) (HW:Hid ((own=if (i:Int)=deed then owner else -1)∧((i:Int)=deed→0≤owner)))
 (HQ:RgDnQ14 w2 BB DK o own mb v0 v1 v2 v3 v6 v7 v9 Z0 Z2 Z3 Z4 Z5 Z6 Z7 Z8 Z9 ZA ZB ZC ZD ZE ZF ZG ZH ZI ZJ ZK ZL ZM ZN ZO ZP ZQ ZR ZS ZT ZU ZV ZW ZX ZY ZZ Za Zb Zc Zd Ze Zf Zg Zh Zi Zj Zk Zl Zm Zn Zo Zp Zq Zr Zs Zt Zu Zv Zw Zx Zy Zz Y0 Y1 Y2 Y3 Y4 Y5 Y6 Y7 Y8 Y9 YA YB YC YD YE YF YG YH YI YJ YK YL YM YN YO YP YQ YR YS YT YU YV YW YX YY YZ Ya Yb Yc Yd Ye Yf Yg Yh Yi Yj Yk Yl Ym Yn Yo Yp Yq Q) :
 Code.wp Tryz.prog rgDn14 Q ⟨#[v0,v1,v2,v3,(Value.int .i64 own),(Value.pointer (some ⟨BB,0,none⟩)),v6,v7,(Value.pointer (some ⟨DK,0,none⟩)),v9,Z0,(Value.int .i64 (o:Int)),Z2,Z3,Z4,Z5,Z6,Z7,Z8,Z9,ZA,ZB,ZC,ZD,ZE,ZF,ZG,ZH,ZI,ZJ,ZK,ZL,ZM,ZN,ZO,ZP,ZQ,ZR,ZS,ZT,ZU,ZV,ZW,ZX,ZY,ZZ,Za,Zb,Zc,Zd,Ze,Zf,Zg,Zh,Zi,Zj,Zk,Zl,Zm,Zn,Zo,Zp,Zq,Zr,Zs,Zt,Zu,Zv,Zw,Zx,Zy,Zz,Y0,Y1,Y2,Y3,Y4,Y5,Y6,Y7,Y8,Y9,YA,YB,YC,YD,YE,YF,YG,YH,YI,YJ,YK,YL,YM,YN,YO,YP,YQ,YR,YS,YT,YU,YV,YW,YX,YY,YZ,Ya,Yb,Yc,Yd,Ye,Yf,Yg,Yh,Yi,Yj,Yk,Yl,Ym,Yn,Yo,Yp,Yq],[]⟩ w2:=by
 dsimp only
 conv=>arg 2;whnf
 obtain⟨c0,c1,-,-,-⟩:=j0h HB.out
 obtain⟨-,-,-,-,-,-,-,z7,z8,z9,z10,z11⟩:=blkD HD.out
 have hlB:=j0a HB.out
 have hlD:=j0a HD.out
 obtain⟨bm,om,mk,eA,hbm,hmk,m0,m1,m2⟩:=Marks.get HIn.out.m hol
 rw[eA] at c1
 obtain⟨hsn,hso,-,-⟩:=j9m HOK.out.2
 have hmv:=(j4t HOK.out.1.ck mk (List.mem_of_getElem? hmk)).1
 have i1:(o:Int)<(b.l.length:Int):=by omega
 have hmc:=HIn.out.mc
 have hmm:=HIn.out.mm
 have cM:∀ d' os,Calls Tryz.prog 94 #[vSg d.s,vMk mk,.int .i64 b.t] (Sort.grow (redrawn w2 d') os) (fun e w''=>e=.returned (.bool (fits d.s mk b.t))∧∃ p:Regrown,w''=Sort.grow (redrawn w2 p.d) p.os):=fun d' os =>
  Calls.regrown_of (rFits d.s mk b.t _ hmv.1 hmv.2 hsn.1 hsn.2 hso)
 obtain⟨F,hF⟩:∃ F,F=fits d.s mk b.t:=⟨_,rfl⟩
 rw[←hF] at cM
 have hMB:mb=(j1s deed owner i o&&F):=by
  rw[HM.out]
  unfold mayB
  rw[hmk,hF]
  rfl
 unfold vSg vMk at cM
 have HCM:=zQ9 cM
 have k0:=cell_regrown c0
 have k1:=cell_regrown c1
 have k3:=zA9 (cell_regrown z7) (zA9 (cell_regrown z8) (zA9 (cell_regrown z9) (zA9 (cell_regrown z10) (cell_regrown z11))))
 have k4:=zA9 (cell_regrown m0) (zA9 (cell_regrown m1) (cell_regrown m2))
 have hcase:(own<0∧mb=F)∨(¬own<0∧((o:Int)==own)=true∧mb=F)∨(¬own<0∧((o:Int)==own)=false∧mb=false):=by
  rw[hMB]
  obtain⟨h1,h2⟩:=HW.out
  unfold j1s
  by_cases h3:(i:Int)=deed
  ·rw[if_pos h3] at h1
   have h4:=h2 h3
   subst h1
   by_cases h5:(o:Int)=own
   ·exact .inr (.inl ⟨by omega,by simp[h5],by simp[h5]⟩)
   ·exact .inr (.inr ⟨by omega,by simp[h5],by simp[h3,h5]⟩)
  ·rw[if_neg h3] at h1
   exact .inl ⟨by omega,by simp[h3]⟩
 clear c0 c1 z7 z8 z9 z10 z11 m0 m1 m2 cM hMB hF hmk eA hsn hso hmv
 rcases hcase with ⟨e1,rfl⟩|⟨e1,e2,rfl⟩|⟨e1,e2,rfl⟩
 all_goals
  try cases mb
 all_goals
  refine wp_region_quiet_below (by kernel_rfl) (by kernel_rfl) ?_
  repeat (go_big_quiet_step (exact HCM.out _ _))
  refine wpQuiet_nil ?_
  intro _ hw'
  obtain⟨⟨dq,osq⟩,hw''⟩:=hw'
  subst hw''
  go_wp2_with fail
  exact HQ _ _ _ _ _ _ _ _ _ _ _ _ _ _ _ _ _ _ _ _ _ (below_regrown w2 dq osq)
theorem q3f (b:Hb) (hok:HeOk b.t b.l b.ks b.hs b.ds) (deed owner:Int) (i:Nat) (d:De) (hd:b.ds[i]?=some d) (ho:(i:Int)=deed→0≤owner) (z:Nat) (v:Value) (E:List Gr) (Ah:Option Addr) (ch:Nat) (g:Gr) (w:World)
 (h:OwnGG z b.l.length b.ks.length v E w) (hg:GSh b.l.length b.ks.length g) (hn:nnG g=true) (hbd:BdG 1000 g) (hk:∀ w',w.grownBy w' v.ownBlock→j0z w' Ah b.ks.length g) (hi:∀ w',w.grownBy w' v.ownBlock→HbIn w' b) (hc:b.ks.length≤ch∧ch≤maxLen) (hE:E.length+125≤4294967295) :
 Calls Tryz.prog 129 #[b.v,v,.slice Ah b.ks.length ch,dv d,.int .i64 (if (i:Int)=deed then owner else -1)] w fun e w'=>∃ v',e=.returned v'∧GgE z b.l.length b.ks.length v w v' (j1e b.t b.l deed owner i d E g) w':=by
 have hdI:=hok.dI d (List.mem_of_getElem? hd)
 have how:=j7y (hok.dE d (List.mem_of_getElem? hd))
 obtain⟨own,hown⟩:∃ own,own=if (i:Int)=deed then owner else -1:=⟨_,rfl⟩
 rw[←hown]
 have hn5:=hok.n5
 have hf3:=hok.f3
 obtain⟨nf,hnf⟩:∃ nf,nf=b.ks.length:=⟨_,rfl⟩
 obtain⟨w1,hw1⟩:∃ W,W=(w.alloc b.obj).alloc (dObj d):=⟨_,rfl⟩
 obtain⟨p,hp⟩:∃ p,p=w.heap.size:=⟨_,rfl⟩
 have hb1:Below w.heap.size w w1:=by rw[hw1];exact bal (bal0 _ _) (zL9 _) _
 have bp:w1.heap[p]?=some b.obj:=by rw[hw1,hp];exact j0b (j0c rfl) _
 have dp:w1.heap[p+1]?=some (dObj d):=by rw[hw1,hp];exact j0c (by simp)
 have h1:=h.below hb1
 have hk1:∀ w',w1.grownBy w' v.ownBlock→j0z w' Ah b.ks.length g:=fun w' hg=>hk w' ((j3j hb1).trans hg)
 have hi1:∀ w',w1.grownBy w' v.ownBlock→HbIn w' b:=fun w' hg=>hi w' ((j3j hb1).trans hg)
 have hvl:∀ k,v.ownBlock=some k→k<w.heap.size:=fun k e=>(h.lt k e).2
 have hgb:∀ f o,-1000≤getG g f o∧getG g f o≤1000:=fun f o=>getG_bd hbd (by decide) f o
 obtain⟨fn,hfn⟩:=Int.eq_ofNat_of_zero_le how.f.1
 have hfk:fn<nf:=by have:=how.f.2;omega
 have hm0:=hdI.m
 have hnf3:nf≤3:=by omega
 rw[←hnf] at h1 hg hk1 how hdI hc ⊢
 have HX:=zQ9 (zA9 hg (zA9 hn (zA9 hgb (zA9 hb1 (zA9 h1 (zA9 hk1 (zA9 hi1 (zA9 hdI (zA9 how (zA9 hok (zA9 hown (zA9 ho (zA9 hnf (zA9 hfn hvl))))))))))))))
 obtain⟨c0,c1,-,-,-⟩:=j0h bp
 obtain⟨z0,z1,z2,z3,z4,z5,z6,z7,z8,z9,z10,z11⟩:=blkD dp
 have hlB:=j0a bp
 have hlD:=j0a dp
 rw[hfn] at z1
 have HP:=zQ9 (zA9 bp dp)
 have hHI:=zQ9 hi1
 clear h hg hn hbd hk hi hdI how hok hown ho hnf hfn hb1 h1 hk1 hi1 hvl hgb bp dp
 have hgk:∀ w',Below w1.heap.size w1 w'→j0z w' Ah nf g:=fun w' hb=>by
  exact HX.out.2.2.2.2.2.1 w' (j3j hb)
 have hgl:g.length=nf:=HX.out.1.l
 have HG:=zQ9 (zA9 hgk hgl)
 clear hgk hgl
 unfold Hb.v dv
 go_enter Tryz.func129,Tryz.ntmps129
 go_upto_region 1 with (fail)
 rw[show(w.alloc (Obj.cells #[Value.int .i64 b.t,b.vm,b.vk,b.vh,b.vd] 29)).alloc (Obj.cells #[Value.int .i64 d.kind,.int .i64 d.flock,.int .i64 d.owner,.int .i64 d.other,.int .i64 d.tof,.int .i64 d.many,.int .i64 d.err,.int .i64 d.s.n,.bool d.s.l,.bool d.s.r,.int .i64 d.s.b,.int .i64 d.s.p] 33)=w1 from hw1.symm,←hp]
 have HWP:=zQ9 (zA9 hw1 hp)
 clear hw1 hp
 obtain⟨kd,hkd⟩:∃ kd,kd=d.kind:=⟨_,rfl⟩
 rw[←hkd] at z0
 have hkr:=HX.out.2.2.2.2.2.2.2.2.1.k
 rw[←hkd] at hkr
 have hk6:kd=1∨kd=3∨kd=2∨kd=4∨kd=5∨kd=6:=by omega
 have HKD:=zQ9 hkd
 clear hkd hkr
 rcases hk6 with rfl|rfl|rfl|rfl|rfl|rfl
 ·have hkd:=HKD.out.symm
  obtain⟨ho0,ho1⟩:=HX.out.2.2.2.2.2.2.2.2.1.o (.inl hkd)
  obtain⟨on,hon⟩:=Int.eq_ofNat_of_zero_le ho0
  rw[hon] at z2 ho1
  have hres:∀ dd oo ii,j1e b.t b.l dd oo ii d E g=addR E (addG g fn on d.many):=fun dd oo ii=>by
   unfold j1e
   rw[if_pos hkd,HX.out.2.2.2.2.2.2.2.2.2.2.2.2.2.1,hon]
   rfl
  have HR:=zQ9 hres
  have hwi:=j4i Ah nf ch b.l.length g fn on d.many w1 (HG.out.1 w1 (Below.refl _ _)) (by omega) HX.out.1.r (by omega) hfk (by omega) (by have:=HX.out.2.2.1 fn on;omega) (by omega)
  clear hkd hres ho0 ho1 hon
  go_wp2_with (first
   | (go_at_call 144;(with_reducible refine hwi.mono ?_);rintro e w2 ⟨⟨vn,rfl,hen⟩,hb2⟩;obtain⟨An,cn,rfl,hcn1,hcn2⟩:=hen.fm (show(addG g fn on d.many).length=nf by rw[j3t];exact HG.out.2);have had:=j6n HX.out.2.2.2.2.1 hb2 (zL9 _) hen (HX.out.1.add hfk on d.many) ⟨hcn1,hcn2⟩ (by omega) (by omega) (by omega);clear hen hb2)
   | (go_at_call 143;(with_reducible refine had.mono ?_);rintro e w3 ⟨v3,rfl,hE3⟩;have H3:=zQ9 hE3;clear hE3))
  go_ret
  exact⟨_,rfl,by rw[HR.out];exact GgE.before HX.out.2.2.2.1 H3.out⟩
 ·have hkd:=HKD.out.symm
  obtain⟨ho0,ho1⟩:=HX.out.2.2.2.2.2.2.2.2.1.o (.inr (.inr hkd))
  obtain⟨on,hon⟩:=Int.eq_ofNat_of_zero_le ho0
  rw[hon] at z2 ho1
  have hres:∀ dd oo ii,j1e b.t b.l dd oo ii d E g=addR E (addG g fn on (-d.many)):=fun dd oo ii=>by
   unfold j1e
   rw[if_neg (by omega),if_pos hkd,HX.out.2.2.2.2.2.2.2.2.2.2.2.2.2.1,hon]
   rfl
  have HR:=zQ9 hres
  have hwi:=j4i Ah nf ch b.l.length g fn on (-d.many) w1 (HG.out.1 w1 (Below.refl _ _)) (by omega) HX.out.1.r (by omega) hfk (by omega) (by have:=HX.out.2.2.1 fn on;omega) (by omega)
  clear hkd hres ho0 ho1 hon
  go_wp2_with (first
   | (go_at_call 144;(with_reducible refine hwi.mono ?_);rintro e w2 ⟨⟨vn,rfl,hen⟩,hb2⟩;obtain⟨An,cn,rfl,hcn1,hcn2⟩:=hen.fm (show(addG g fn on (-d.many)).length=nf by rw[j3t];exact HG.out.2);have had:=j6n HX.out.2.2.2.2.1 hb2 (zL9 _) hen (HX.out.1.add hfk on (-d.many)) ⟨hcn1,hcn2⟩ (by omega) (by omega) (by omega);clear hen hb2)
   | (go_at_call 143;(with_reducible refine had.mono ?_);rintro e w3 ⟨v3,rfl,hE3⟩;have H3:=zQ9 hE3;clear hE3))
  go_ret
  exact⟨_,rfl,by rw[HR.out];exact GgE.before HX.out.2.2.2.1 H3.out⟩
 ·have hkd:=HKD.out.symm
  obtain⟨ho0,ho1⟩:=HX.out.2.2.2.2.2.2.2.2.1.o (.inr (.inl hkd))
  obtain⟨hx0,hx1⟩:=HX.out.2.2.2.2.2.2.2.2.1.x hkd
  obtain⟨on,hon⟩:=Int.eq_ofNat_of_zero_le ho0
  obtain⟨xn,hxn⟩:=Int.eq_ofNat_of_zero_le hx0
  rw[hon] at z2 ho1
  rw[hxn] at z3 hx1
  obtain⟨g1,hg1⟩:∃ g1,g1=addG g fn on (-d.many):=⟨_,rfl⟩
  have hres:∀ dd oo ii,j1e b.t b.l dd oo ii d E g=addR E (addG g1 fn xn d.many):=fun dd oo ii=>by
   unfold j1e
   rw[if_neg (by omega),if_neg (by omega),if_pos hkd,HX.out.2.2.2.2.2.2.2.2.2.2.2.2.2.1,hon,hxn,hg1]
   rfl
  have hs1:GSh b.l.length nf g1:=by rw[hg1];exact HX.out.1.add hfk on (-d.many)
  have hl1:g1.length=nf:=hs1.l
  have hb1:-100000≤getG g1 fn xn∧getG g1 fn xn≤100000:=by
   have h1:=HX.out.2.2.1 fn xn
   have h2:=HX.out.2.2.1 fn on
   by_cases e:on=xn
   ·subst e
    rw[hg1,j3u (by rw[HG.out.2];exact hfk) (by rw[HX.out.1.row hfk];omega)]
    omega
   ·rw[hg1,j5a (.inr e)]
    omega
  have HDX:=zQ9 (show DnX z b.l.length nf v E Ah g g1 (p+1) d fn on (-d.many) fn xn w1 from⟨HX.out.2.2.2.2.1,HX.out.1,HG.out.1,HP.out.2,HX.out.2.2.2.2.2.2.2.2.2.2.2.2.2.1,hs1,hg1,by have:=HX.out.2.2.1 fn on;omega,hb1⟩)
  have HDO:=zQ9 (show d.owner=(on:Int)∧d.other=(xn:Int) from⟨hon,hxn⟩)
  have HR:=zQ9 hres
  have hon1:on<b.l.length:=by omega
  have hxn1:xn<b.l.length:=by omega
  clear hkd hres ho0 hx0 hon hxn hg1 hs1 hl1 hb1
  go_upto_region 7 with (fail)
  refine q3g w1 z b.l.length nf v E Ah ch g g1 (p+1) d fn on xn _ _ _ _ _ _ _ _ _ _ _ _ _ _ _ _ _ _ _ _ _ _ _ _ _ _ _ _ _ _ _ _ _ _ _ _ _ _ _ _ _ _ _ _ _ _ _ _ _ _ _ _ _ _ _ _ _ _ _ _ _ _ _ _ _ _ _ _ _ _ _ _ _ _ _ _ _ _ _ _ _ _ _ _ _ _ _ _ _ _ _ _ _ _ _ _ _ _ _ _ _ _ _ _ _ _ _ _ _ _ _ _ _ _ _ _ _ _ _ _ _ _ _ HDX HDO (by omega) hfk hon1 hxn1 (by omega) (by omega) (by omega) ?_
  intro Yr Ys Yt Yu Yv Yw Yx Yy Yz X0 X1 X2 X3 X4 X5 X6 X7 X8 v3 w3 hE3
  have H3:=zQ9 hE3
  clear hE3
  go_wp2_with fail
  go_ret
  exact⟨_,rfl,by rw[HR.out];exact GgE.before HX.out.2.2.2.1 H3.out⟩
 ·have hkd:=HKD.out.symm
  obtain⟨mn,hmn⟩:=Int.eq_ofNat_of_zero_le hm0.1
  rw[hmn] at z5
  have hm3:=HX.out.2.2.2.2.2.2.2.1.l hkd
  rw[hmn] at hm3
  have hres:∀ dd oo ii,j1e b.t b.l dd oo ii d E g=j4x b.l.length fn mn 0 g E:=fun dd oo ii=>by
   unfold j1e
   rw[if_neg (by omega),if_neg (by omega),if_neg (by omega),if_neg (by omega),if_pos hkd,HX.out.2.2.2.2.2.2.2.2.2.2.2.2.2.1,hmn]
   rfl
  have HR:=zQ9 hres
  have hlo:=k6i b.l.length nf fn hn5 (by omega) hfk mn (by omega) z 0 v E Ah ch g w1 (by omega) HX.out.2.2.2.2.1 HX.out.1 HX.out.2.1 (fun x _=>(HX.out.2.2.1 fn x).2) HX.out.2.2.2.2.2.1 hc (by have:5 ^ mn≤5 ^ 3:=Nat.pow_le_pow_right (by decide) (by omega);omega)
  rw[show((0:Nat):Int)=0 from rfl] at hlo
  clear hkd hres hmn hm3
  go_wp2_with (go_at_call 145;(with_reducible refine hlo.mono ?_);rintro e w3 ⟨v3,rfl,hE3⟩;have H3:=zQ9 hE3;clear hE3)
  go_ret
  exact⟨_,rfl,by rw[HR.out];exact GgE.before HX.out.2.2.2.1 H3.out⟩
 ·have hkd:=HKD.out.symm
  obtain⟨ht0,ht1⟩:=HX.out.2.2.2.2.2.2.2.2.1.t hkd
  obtain⟨tn,htn⟩:=Int.eq_ofNat_of_zero_le ht0
  rw[htn] at z4 ht1
  have htk:tn<nf:=by omega
  have hst:=HX.out.2.2.2.2.2.2.2.1.st hkd
  obtain⟨F9,hF9⟩:∃ F9:List Gr→Nat→List Gr,F9=fun E o=>if mayB b.t b.l deed owner i d.s o then addR E (addG (addG g fn o (-1)) tn o 1) else E:=⟨_,rfl⟩
  have hres:j1e b.t b.l deed owner i d E g=(List.range b.l.length).foldl F9 E:=by
   unfold j1e
   rw[if_neg (by omega),if_neg (by omega),if_neg (by omega),if_neg (by omega),if_neg (by omega),HX.out.2.2.2.2.2.2.2.2.2.2.2.2.2.1,htn,hF9]
   rfl
  have htn':=zQ9 htn
  have HR:=zQ9 (zA9 hres (zA9 hF9 hst))
  clear hkd hres hF9 hst ht0 htn
  go_upto_region 12 with (fail)
  clear z0 z1 z2 z3 z4 z5 z6 z7 z8 z9 z10 z11 c0 c1
  go_loopg [1,11] b.l.length (fun gh v1 Z1 wr=>∃ k:Nat,k+gh=b.l.length∧Z1=.int .i64 k∧GgE z b.l.length nf v w1 v1 ((List.range k).foldl F9 E) wr)
  case atStart=>exact⟨0,by omega,rfl,GgE.refl HX.out.2.2.2.2.1⟩
  case round =>
   obtain⟨k,hk,rfl,hE⟩:=hrel
   obtain⟨w2,hw2⟩:∃ W:World,W=wr:=⟨_,rfl⟩
   rw[←hw2] at hE ⊢
   clear hw2
   have hPK:=hE.keep (P:=fun w'=>w'.heap[p]?=some b.obj∧w'.heap[p+1]?=some (dObj d)) (fun w' hg=>by
    have hp0:=HWP.out.2
    have hlp:=j0a HP.out.1
    have hld:=j0a HP.out.2
    exact⟨(hg.block p hlp (fun e=>by have:=HX.out.2.2.2.2.2.2.2.2.2.2.2.2.2.2 p e.symm;omega)).trans HP.out.1,(hg.block (p+1) hld (fun e=>by have:=HX.out.2.2.2.2.2.2.2.2.2.2.2.2.2.2 (p+1) e.symm;omega)).trans HP.out.2⟩) w2 (World.grownBy.refl _ _)
   have hIn:=hE.keep HX.out.2.2.2.2.2.2.1 w2 (World.grownBy.refl _ _)
   have hgk:=hE.keep HX.out.2.2.2.2.2.1
   obtain⟨c0,c1,-,-,-⟩:=j0h hPK.1
   obtain⟨-,-,-,-,-,-,-,z7,z8,z9,z10,z11⟩:=blkD hPK.2
   have hlB:=j0a hPK.1
   have hlD:=j0a hPK.2
   by_cases hlt:k<b.l.length
   ·have hnx:(List.range (k+1)).foldl F9 E=if mayB b.t b.l deed owner i d.s k then addR ((List.range k).foldl F9 E) (addG (addG g fn k (-1)) tn k 1) else (List.range k).foldl F9 E:=by
     rw[List.range_succ,List.foldl_append]
     simp only[List.foldl_cons,List.foldl_nil]
     rw[HR.out.2.1]
    have hFl:((List.range k).foldl F9 E).length≤E.length+5:=by
     have h1:=k0b (F:=F9) (K:=1) (L:=List.range k) (fun x _ l=>by
      rw[HR.out.2.1]
      dsimp only
      split
      ·exact k7q _ _
      ·omega) E
     rw[List.length_range] at h1
     omega
    obtain⟨G,hG⟩:∃ G,G=(List.range k).foldl F9 E:=⟨_,rfl⟩
    rw[←hG] at hE hnx hFl
    obtain⟨g1,hg1⟩:∃ g1,g1=addG g fn k (-1):=⟨_,rfl⟩
    rw[←hg1] at hnx
    have hs1:GSh b.l.length nf g1:=by rw[hg1];exact HX.out.1.add hfk k (-1)
    have hb1:-1001≤getG g1 tn k∧getG g1 tn k≤1001:=by
     have h1:=HX.out.2.2.1 fn k
     have h2:=HX.out.2.2.1 tn k
     by_cases e:fn=tn
     ·subst e
      rw[hg1,j3u (by rw[HG.out.2];exact hfk) (by rw[HX.out.1.row hfk];omega)]
      omega
     ·rw[hg1,j5a (.inl e)]
      omega
    obtain⟨mb,hmb⟩:∃ mb,mb=mayB b.t b.l deed owner i d.s k:=⟨_,rfl⟩
    rw[←hmb] at hnx
    have HM:=zQ9 hmb
    have HIN:=zQ9 hIn
    have HPB:=zQ9 hPK.1
    have HPD:=zQ9 hPK.2
    have HOK:=zQ9 (show HeOk b.t b.l b.ks b.hs b.ds∧seen d.s 9 6=0 from⟨HX.out.2.2.2.2.2.2.2.2.2.1,HR.out.2.2⟩)
    have HW:=zQ9 (show(own=if (i:Int)=deed then owner else -1)∧((i:Int)=deed→0≤owner) from⟨HX.out.2.2.2.2.2.2.2.2.2.2.1,HX.out.2.2.2.2.2.2.2.2.2.2.2.1⟩)
    have i1:(k:Int)<(b.l.length:Int):=by omega
    have HK:=zQ9 (zA9 hk (zA9 hE (zA9 hnx (zA9 hgk (zA9 hFl (zA9 hs1 (zA9 hb1 hg1)))))))
    clear hk hE hnx hgk hFl hs1 hb1 hPK hg1 hG hIn hmb z7 z8 z9 z10 z11 c0
    go_upto_region 14 with (fail)
    clear c1
    refine done_may w2 b d p (p+1) k i deed owner own mb _ _ _ _ _ _ _ _ _ _ _ _ _ _ _ _ _ _ _ _ _ _ _ _ _ _ _ _ _ _ _ _ _ _ _ _ _ _ _ _ _ _ _ _ _ _ _ _ _ _ _ _ _ _ _ _ _ _ _ _ _ _ _ _ _ _ _ _ _ _ _ _ _ _ _ _ _ _ _ _ _ _ _ _ _ _ _ _ _ _ _ _ _ _ _ _ _ _ _ _ _ _ _ _ _ _ _ _ _ _ _ _ _ _ _ _ _ _ _ _ _ _ HIN HPB HPD HOK hlt HM HW ?_
    intro XK XL XM XN XO XP XQ XR XS XT XU XV XW XX XY XZ Xa Xb Xc Xd w3 hb3
    cases mb
    ·have H3:=zQ9 hb3
     clear hb3
     go_wp2_with fail
     go_roundg (gk-1)
     case measure=>have:=HK.out.1;omega
     case rel =>
      refine⟨k+1,by have:=HK.out.1;omega,by go_num,?_⟩
      rw[HK.out.2.2.1,if_neg (by decide)]
      exact HK.out.2.1.then H3.out
    ·have HDX:=zQ9 (show DnX z b.l.length nf u1 G Ah g g1 (p+1) d fn k (-1) tn k w3 from⟨HK.out.2.1.gg.below hb3,HX.out.1,fun w' hb=>HK.out.2.2.2.1 w' (j3j (hb3.trans (hb.mono hb3.size))),j0e HPD.out hb3 (zL9 _),HX.out.2.2.2.2.2.2.2.2.2.2.2.2.2.1,HK.out.2.2.2.2.2.1,HK.out.2.2.2.2.2.2.2,by have:=HX.out.2.2.1 fn k;omega,by have:=HK.out.2.2.2.2.2.2.1;omega⟩)
     have H3:=zQ9 hb3
     clear hb3
     go_upto_region 15 with (fail)
     refine q1o w3 z b.l.length nf u1 G Ah ch g g1 (p+1) d fn tn k _ _ _ _ _ _ _ _ _ _ _ _ _ _ _ _ _ _ _ _ _ _ _ _ _ _ _ _ _ _ _ _ _ _ _ _ _ _ _ _ _ _ _ _ _ _ _ _ _ _ _ _ _ _ _ _ _ _ _ _ _ _ _ _ _ _ _ _ _ _ _ _ _ _ _ _ _ _ _ _ _ _ _ _ _ _ _ _ _ _ _ _ _ _ _ _ _ _ _ _ _ _ _ _ _ _ _ _ _ _ _ _ _ _ _ _ _ _ _ _ _ _ HDX htn' hfk htk hlt (by omega) (by omega) (by have:=HK.out.2.2.2.2.1;omega) ?_
     intro X9 XA XB XC XD XE XF XG XH XI XJ v4 w4 hE4
     have H4:=zQ9 hE4
     clear hE4
     go_wp2_with fail
     go_roundg (gk-1)
     case measure=>have:=HK.out.1;omega
     case rel =>
      refine⟨k+1,by have:=HK.out.1;omega,by go_num,?_⟩
      rw[HK.out.2.2.1]
      first|rw[if_pos rfl]|rw[if_pos trivial]
      exact HK.out.2.1.trans (GgE.before H3.out H4.out)
   ·have hkn:k=b.l.length:=by omega
    have i1:¬(k:Int)<(b.l.length:Int):=by omega
    have HK:=zQ9 (zA9 hE hkn)
    clear hk hE hkn hgk hPK hIn z7 z8 z9 z10 z11 c0
    go_wp2_with fail
    go_ret
    have h:=HK.out.1
    rw[HK.out.2,←HR.out.1] at h
    exact⟨_,rfl,GgE.before HX.out.2.2.2.1 h⟩
 ·have hkd:=HKD.out.symm
  have hres:∀ dd oo ii,j1e b.t b.l dd oo ii d E g=if cntB d (g.getD fn []).sum then addR E g else E:=fun dd oo ii=>by
   unfold j1e
   rw[if_neg (by omega),if_neg (by omega),if_neg (by omega),if_pos hkd,HX.out.2.2.2.2.2.2.2.2.2.2.2.2.2.1]
   rfl
  have hrl:(g.getD fn []).length=b.l.length:=HX.out.1.row hfk
  have hrow:∀ x∈g.getD fn [],0≤x∧x≤1000:=fun x hx=>by
   obtain⟨i,hi,rfl⟩:=List.getElem_of_mem hx
   have h1:=HX.out.2.2.1 fn i
   have h2:=(j8d HX.out.1).1 HX.out.2.1 fn i hfk (by rw[←hrl];exact hi)
   have e:getG g fn i=(g.getD fn [])[i]:=by unfold getG;rw[List.getD_eq_getElem?_getD,List.getElem?_eq_getElem hi];rfl
   rw[e] at h1 h2
   omega
  have hsb:=j8k (B:=1000) (by decide) (l:=g.getD fn []) fun x hx=>by have:=hrow x hx;omega
  have hs0:0≤(g.getD fn []).sum:=q1d fun x hx=>(hrow x hx).1
  obtain⟨S,hS⟩:∃ S,S=(g.getD fn []).sum:=⟨_,rfl⟩
  rw[hrl,←hS] at hsb
  rw[←hS] at hs0 hres
  have he0:=HX.out.2.2.2.2.2.2.2.1.e
  have cA:∀ d' os,Calls Tryz.prog 101 #[.slice Ah nf ch,.int .i64 fn] (Sort.grow (redrawn w1 d') os) (fun e w''=>e=.returned (.int .i64 S)∧∃ p:Regrown,w''=Sort.grow (redrawn w1 p.d) p.os):=fun d' os=>by
   have h1:=k7r Ah nf ch fn g (Sort.grow (redrawn w1 d') os) (HG.out.1 _ (below_regrown w1 d' os)) hfk (by omega) (fun x hx=>by have:=hrow x hx;omega)
   rw[←hS] at h1
   exact Calls.regrown_of (h1.mono fun e w' ⟨a,hw⟩=>⟨a,hw ▸ Below.refl _ _⟩)
  obtain⟨mb,hmb⟩:∃ mb,mb=cntB d S:=⟨_,rfl⟩
  have cP:∀ d' os,Calls Tryz.prog 146 #[.agg #[.int .i64 0,.int .i64 0,.int .i64 d.many,.int .i64 d.err],.int .i64 S] (Sort.grow (redrawn w1 d') os) (fun e w''=>e=.returned (.bool mb)∧∃ p:Regrown,w''=Sort.grow (redrawn w1 p.d) p.os):=fun d' os=>by
   rw[hmb]
   exact Calls.regrown_of (k7g d.many d.err S _ (by omega) (by omega) (by omega))
  rw[←hmb] at hres
  have k1:=cell_regrown z1
  have k5:=cell_regrown z5
  have k6:=cell_regrown z6
  have HC:=zQ9 (zA9 cA cP)
  have HR:=zQ9 hres
  clear hkd hres hrow hsb hs0 hS cA cP hmb he0
  go_upto_region 17 with (fail)
  clear z0 z1 z2 z3 z4 z5 z6 z7 z8 z9 z10 z11 c0 c1
  refine wp_region_quiet_below (by kernel_rfl) (by kernel_rfl) ?_
  repeat (go_big_quiet_step (first|exact HC.out.1 _ _|exact HC.out.2 _ _))
  refine wpQuiet_nil ?_
  intro _ hw'
  obtain⟨⟨dq,osq⟩,hw''⟩:=hw'
  subst hw''
  obtain⟨W3,hW3⟩:∃ W3,W3=Sort.grow (redrawn w1 dq) osq:=⟨_,rfl⟩
  have hb3:Below w1.heap.size w1 W3:=by rw[hW3];exact below_regrown w1 dq osq
  rw[←hW3]
  have had:=j9q z b.l.length nf v E Ah ch g W3 (HX.out.2.2.2.2.1.below hb3) HX.out.1 (fun w' hg=>HX.out.2.2.2.2.2.1 w' ((j3j hb3).trans hg)) hc (by omega) (by omega) (by omega)
  have HB3:=zQ9 hb3
  clear hW3 hb3 k1 k5 k6
  cases mb
  ·go_wp2_with fail
   go_ret
   exact⟨_,rfl,by rw[HR.out,if_neg (by decide)];exact GgE.before HX.out.2.2.2.1 (GgE.before HB3.out (GgE.refl (HX.out.2.2.2.2.1.below HB3.out)))⟩
  ·go_wp2_with (go_at_call 143;(with_reducible refine had.mono ?_);rintro e w3 ⟨v3,rfl,hE3⟩;have H3:=zQ9 hE3;clear hE3)
   go_ret
   refine⟨_,rfl,?_⟩
   rw[HR.out]
   first|rw[if_pos rfl]|rw[if_pos trivial]
   exact GgE.before HX.out.2.2.2.1 (GgE.before HB3.out H3.out)
theorem k6s {α:Type} [DecidableEq α]:∀ {l m:List α},l.Nodup→(∀ x∈l,x∈m)→l.length≤m.length
 | [],m,_,_=>Nat.zero_le _
 | a::l,m,hn,h=>by
   obtain⟨h1,h2⟩:=List.nodup_cons.1 hn
   have ha:=h a List.mem_cons_self
   have h3:=k6s (m:=m.erase a) h2 fun x hx=>(List.mem_erase_of_ne (fun e:x=a=>h1 (by rw[←e];exact hx))).2 (h x (List.mem_cons_of_mem _ hx))
   rw[List.length_erase_of_mem ha] at h3
   have:=List.length_pos_of_mem ha
   rw[List.length_cons]
   omega
section
variable {t:Int} {l:List Mk} {deed owner:Int} {nf:Nat}
theorem step_bd {i:Nat} {d:De} {g x:Gr} {B:Int} (hB:0≤B) (hb:BdG B g) (hm:0≤d.many∧d.many≤300) (hk:d.kind≠6→d.many≤20) (hx:x∈j1t t l deed owner i d g):BdG (B+40) x:=by
 unfold j1t at hx
 split at hx
 ·rw[List.mem_singleton.1 hx]
  exact(hb.add (K:=20) (by have:=hk (by omega);omega) (by omega) hB).mono (by omega)
 split at hx
 ·rw[List.mem_singleton.1 hx]
  exact(hb.add (K:=20) (by have:=hk (by omega);omega) (by omega) hB).mono (by omega)
 split at hx
 ·rw[List.mem_singleton.1 hx]
  exact((hb.add (K:=20) (by have:=hk (by omega);omega) (by omega) hB).add (K:=20) (by have:=hk (by omega);omega) (by omega) (by omega)).mono (by omega)
 split at hx
 ·split at hx
  ·rw[List.mem_singleton.1 hx];exact hb.mono (by omega)
  ·cases hx
 split at hx
 ·unfold k0h at hx
  obtain⟨w,hw,rfl⟩:=List.mem_map.1 hx
  obtain⟨hl,-⟩:=j7p (List.mem_filter.1 hw).1
  exact(BdG.sub (w:=w) hB hb).mono (by have:=hk (by omega);omega)
 ·unfold strG at hx
  obtain⟨o,-,rfl⟩:=List.mem_map.1 hx
  exact((hb.add (K:=1) (by omega) (by omega) hB).add (K:=1) (by omega) (by omega) (by omega)).mono (by omega)
def j1u (t:Int) (l:List Mk) (deed owner:Int) (ds:List De) (hs:Gr):Nat→List Gr
 | 0=>[hs]
 | i+1=>match ds[i]? with
   | some d=>(j1u t l deed owner ds hs i).foldl (fun F g=>j1e t l deed owner i d F g) []
   | none=>j1u t l deed owner ds hs i
theorem k3y {ds:List De} {hs:Gr} {i:Nat} {d:De} (h:ds[i]?=some d):j1u t l deed owner ds hs (i+1)=(j1u t l deed owner ds hs i).foldl (fun F g=>j1e t l deed owner i d F g) []:=by
 show(match ds[i]? with
  | some d=>(j1u t l deed owner ds hs i).foldl (fun F g=>j1e t l deed owner i d F g) []
  | none=>j1u t l deed owner ds hs i)=_
 rw[h]
structure EtOk (t:Int) (l:List Mk) (deed owner:Int) (nf:Nat) (ds:List De) (hs:Gr) (i:Nat):Prop where
 nd:(j1u t l deed owner ds hs i).Nodup
 sh:∀ g∈j1u t l deed owner ds hs i,GSh l.length nf g∧nnG g=true∧BdG (20+40*i) g
 ln:(j1u t l deed owner ds hs i).length≤35 ^ i
 tr:∀ x,x∈trG t l deed owner ds 0 hs↔∃ g∈j1u t l deed owner ds hs i,x∈trG t l deed owner (ds.drop i) i g
theorem k8v {i nf:Nat} {d:De} (hn:l.length≤5) (hd:DeIn l.length nf d) (how:DeOw l.length nf d):∀ (E:List Gr),(∀ g∈E,GSh l.length nf g∧nnG g=true) →
 (E.foldl (fun F g=>j1e t l deed owner i d F g) []).Nodup∧(∀ x,x∈E.foldl (fun F g=>j1e t l deed owner i d F g) []↔∃ g∈E,x∈j1t t l deed owner i d g∧nnG x=true)∧(E.foldl (fun F g=>j1e t l deed owner i d F g) []).length≤35*E.length:=fun E hE=>by
 have hnd:(E.foldl (fun F g=>j1e t l deed owner i d F g) []).Nodup:=j7h (fun g _ E' h=>q0d h) _ List.nodup_nil
 have hmem:∀ x,x∈E.foldl (fun F g=>j1e t l deed owner i d F g) []↔∃ g∈E,x∈j1t t l deed owner i d g∧nnG x=true:=fun x=>by
  rw[k0k (S:=fun(g:Gr) (x:Gr)=>x∈j1t t l deed owner i d g∧nnG x=true) fun g hg E'=>q4j (hE g hg).1 (hE g hg).2 how (fun _=>hd.m.1)]
  simp
 refine⟨hnd,hmem,?_⟩
 refine Nat.le_trans (k6s (m:=E.flatMap fun g=>j1t t l deed owner i d g) hnd fun x hx=>?_) ?_
 ·obtain⟨g,hg,h1,-⟩:=(hmem x).1 hx
  exact List.mem_flatMap.2 ⟨g,hg,h1⟩
 ·refine Nat.le_trans (j4u (c:=35) fun g _=>step_len hn hd) ?_
  rw[Nat.mul_comm]
  exact zL9 _
theorem etOk {ks:List Int} {hs:Gr} {ds:List De} (hok:HeOk t l ks hs ds):∀ i,i≤ds.length→EtOk t l deed owner ks.length ds hs i
 | 0,_=>by
   refine⟨by simp[j1u],fun g hg=>?_,by simp[j1u],fun x=>by simp[j1u]⟩
   rw[show g=hs by simpa[j1u] using hg]
   exact⟨⟨hok.hl,hok.rl⟩,j7s.2 fun r hr y hy=>(hok.rb r hr y hy).1,fun r hr x hx=>by have:=hok.rb r hr x hx;omega⟩
 | i+1,hi=>by
   have ih:=etOk hok i (by omega)
   obtain⟨d,hd⟩:∃ d,ds[i]?=some d:=⟨_,List.getElem?_eq_getElem (by omega)⟩
   have hdI:=hok.dI d (List.mem_of_getElem? hd)
   have how:=j7y (hok.dE d (List.mem_of_getElem? hd))
   obtain⟨h1,h2,h3⟩:=k8v (t:=t) (deed:=deed) (owner:=owner) (i:=i) hok.n5 hdI how (j1u t l deed owner ds hs i) fun g hg=>⟨(ih.sh g hg).1,(ih.sh g hg).2.1⟩
   have e:=k3y (t:=t) (l:=l) (deed:=deed) (owner:=owner) (hs:=hs) hd
   rw[←e] at h1 h2 h3
   refine⟨h1,fun x hx=>?_,?_,fun x=>?_⟩
   ·obtain⟨g,hg,h4,h5⟩:=(h2 x).1 hx
    have hs:=ih.sh g hg
    refine⟨k5o hs.1 how h4,h5,(step_bd (by omega) hs.2.2 hdI.m (fun hk=>hdI.s hk) h4).mono (by omega)⟩
   ·rw[Nat.pow_succ,Nat.mul_comm (35 ^ i)]
    exact Nat.le_trans h3 (Nat.mul_le_mul_left _ ih.ln)
   ·rw[ih.tr x]
    have hdr:ds.drop i=d::ds.drop (i+1):=by
     obtain⟨hl,e⟩:=List.getElem?_eq_some_iff.1 hd
     rw[List.drop_eq_getElem_cons hl,e]
    constructor
    ·rintro⟨g,hg,hx⟩
     rw[hdr] at hx
     unfold trG at hx
     rw[if_pos (ih.sh g hg).2.1] at hx
     obtain⟨y,hy,hx⟩:=List.mem_flatMap.1 hx
     have hny:nnG y=true:=by
      cases hny:nnG y with
      | true=>rfl
      | false=>rw[trG_no (by rw[hny];simp)] at hx;cases hx
     exact⟨y,(h2 y).2 ⟨g,hg,hy,hny⟩,hx⟩
    ·rintro⟨y,hy,hx⟩
     obtain⟨g,hg,h4,-⟩:=(h2 y).1 hy
     refine⟨g,hg,?_⟩
     rw[hdr]
     unfold trG
     rw[if_pos (ih.sh g hg).2.1]
     exact List.mem_flatMap.2 ⟨y,h4,hx⟩
end
def j4k (t:Int) (l:List Mk) (hs:Gr) (ds:List De) (deed owner:Int):List Gr:=j1u t l deed owner ds hs ds.length
theorem j9w {t:Int} {l:List Mk} {ks:List Int} {hs:Gr} {ds:List De} {deed owner:Int} (hok:HeOk t l ks hs ds) :
 ((j4k t l hs ds deed owner).map j0j).Perm (j2l t l hs ds deed owner)∧∀ g∈j4k t l hs ds deed owner,GSh l.length ks.length g∧nnG g=true∧BdG 260 g:=by
 have h:=etOk (deed:=deed) (owner:=owner) hok ds.length (zL9 _)
 have hsh:∀ g∈j4k t l hs ds deed owner,GSh l.length ks.length g∧nnG g=true∧BdG 260 g:=fun g hg=>by
  obtain⟨h1,h2,h3⟩:=h.sh g hg
  exact⟨h1,h2,h3.mono (by have:=hok.d6;omega)⟩
 have hmem:∀ g,g∈j4k t l hs ds deed owner↔g∈trG t l deed owner ds 0 hs:=fun g=>by
  rw[h.tr g,List.drop_length]
  constructor
  ·intro hg
   refine⟨g,hg,?_⟩
   unfold trG
   rw[if_pos (hsh g hg).2.1]
   exact List.mem_singleton.2 rfl
  ·rintro⟨y,hy,hx⟩
   unfold trG at hx
   rw[if_pos (h.sh y hy).2.1] at hx
   rw[List.mem_singleton.1 hx]
   exact hy
 refine⟨k2n ?_ (k1b _ _ _ _ _ _ _) fun x=>?_,hsh⟩
 ·rw[List.Nodup,List.pairwise_map]
  refine h.nd.imp_of_mem fun {a b} ha hb hab e=>hab ?_
  exact q1r (hsh a ha).1 (hsh b hb).1 hok.n5 hok.f3 e
 ·rw[tru_ends hok x,List.mem_map]
  exact⟨fun⟨g,hg,e⟩=>⟨g,(hmem g).1 hg,e.symm⟩,fun⟨g,hg,e⟩=>⟨g,(hmem g).2 hg,e.symm⟩⟩
theorem q3j {t:Int} {l:List Mk} {ks:List Int} {hs:Gr} {ds:List De} {deed owner:Int} (hok:HeOk t l ks hs ds):(j4k t l hs ds deed owner).length=(j2l t l hs ds deed owner).length:=by
 have:=(j9w (deed:=deed) (owner:=owner) hok).1.length_eq
 rwa [List.length_map] at this
theorem k9y {t:Int} {l:List Mk} {ks:List Int} {hs:Gr} {ds:List De} {deed owner:Int} {φ:Gr→Int} {ψ:List Int→Int} (hok:HeOk t l ks hs ds) (h:∀ g,GSh l.length ks.length g→φ g=ψ (j0j g)) :
 minL ((j4k t l hs ds deed owner).map φ)=(j0o (j2l t l hs ds deed owner) ψ).lo∧maxL ((j4k t l hs ds deed owner).map φ)=(j0o (j2l t l hs ds deed owner) ψ).hi:=by
 obtain⟨hp,hsh⟩:=j9w (deed:=deed) (owner:=owner) hok
 have hm:∀ x,x∈(j4k t l hs ds deed owner).map φ↔x∈(j2l t l hs ds deed owner).map ψ:=fun x=>by
  rw[←(hp.map ψ).mem_iff,List.map_map,List.mem_map,List.mem_map]
  exact⟨fun⟨g,hg,e⟩=>⟨g,hg,by rw[←e,h g (hsh g hg).1];rfl⟩,fun⟨g,hg,e⟩=>⟨g,hg,by rw[←e,h g (hsh g hg).1];rfl⟩⟩
 exact⟨k4n hm,k4l hm⟩
theorem j6b {w w':World} (h:w.grownBy w' none):Below w.heap.size w w':=⟨h.os,h.tape,h.output,h.size,fun j hj=>h.block j hj (fun e=>by cases e)⟩
end Go.Proofs.YtmennjmjakdkcaaGreat
