/- HerdHas. -/
import Derived.Test.YtmennjmjakdkcaaGreatHs09
set_option linter.unusedVariables false
set_option linter.unusedSimpArgs false
set_option maxRecDepth 100000
set_option maxHeartbeats 4000000
namespace Go.Proofs.YtmennjmjakdkcaaGreat
open Go.RowKit Go.MapKept
theorem j3q (n nf:Nat):∀ (l:List De) (d:De),j1n n nf l=0→j1n n nf (l++[d])=j0v n nf d
 | [],d,_=>by unfold j1n;simp[j1n];intro h;exact h.symm
 | x::l,d,h=>by
   unfold j1n at h
   split at h
   ·rename_i h1;exact absurd h h1
   ·rename_i h1
    rw[List.cons_append]
    conv=>lhs;unfold j1n
    rw[if_neg h1]
    exact j3q n nf l d h
theorem j9a (n nf:Nat):∀ (l m:List De),j1n n nf l≠0→j1n n nf (l++m)=j1n n nf l
 | [],m,h=>absurd rfl h
 | x::l,m,h=>by
   rw[List.cons_append]
   unfold j1n at h ⊢
   split
   ·rfl
   ·rename_i h1
    rw[if_neg h1] at h
    exact j9a n nf l m h
theorem j0h {w:World} {b:Nat} {t:TypeId} {v0 v1 v2 v3 v4:Value} (h:w.heap[b]?=some (.cells #[v0,v1,v2,v3,v4] t (0,0))):w.cell? ⟨b,0,none⟩=some v0∧w.cell? ⟨b,1,none⟩=some v1∧w.cell? ⟨b,2,none⟩=some v2∧w.cell? ⟨b,3,none⟩=some v3∧w.cell? ⟨b,4,none⟩=some v4:=blk5 h
abbrev Hb.obj (b:Hb):Obj:=.cells #[.int .i64 b.t,.slice b.A b.l.length b.c,.slice b.Ak b.ks.length b.ck,.slice b.Ah b.hs.length b.ch,.slice b.Ad b.ds.length b.cd] 29 (0,0)
theorem q1g (b:Hb) (w:World) (hin:HbIn w b) :
 Calls Tryz.prog 17 #[b.v] w fun e w'=>e=.returned (.int .i64 b.chk)∧Below w.heap.size w w':=by
 obtain⟨V,hV⟩:∃ V,V=w.alloc b.obj:=⟨_,rfl⟩
 obtain⟨g,hg⟩:∃ g,g=w.heap.size:=⟨_,rfl⟩
 have b0:V.heap[g]?=some b.obj:=by rw[hV,hg];exact j0c rfl
 have hBV:Below w.heap.size w V:=by rw[hV];exact bal0 w _
 have hiV:=hin.below hBV (zL9 _)
 obtain⟨c0,c1,c2,c3,c4⟩:=j0h b0
 have hmk:=j6u b.t b.A b.l.length b.c b.l V hiV.m hiV.mc hiV.mm
 have HV:=zQ9 (zA9 hBV (zA9 b0 (zA9 hiV hg)))
 have hdm:b.ds.length≤maxLen:=Nat.le_trans hin.dc hin.dm
 unfold maxLen at hdm
 unfold Hb.v
 go_enter Tryz.func17,Tryz.ntmps17
 go_upto_region 1 with (fail)
 rw[←hV,←hg]
 clear hV hg hin hBV hiV b0
 obtain⟨ck,hck⟩:∃ ck,ck=check b.t b.l:=⟨_,rfl⟩
 rw[←hck] at hmk
 by_cases h0:ck=0
 ·subst h0
  have HCK:=zQ9 hck.symm
  clear hck
  go_upto_region 4 with (go_at_call 62;refine hmk.mono ?_;rintro e w2 ⟨rfl,hb2⟩)
  have x0:=j0e HV.out.2.1 hb2 (zL9 _)
  have hi2:=HV.out.2.2.1.below hb2 (zL9 _)
  have hB2:=HV.out.1.trans (hb2.mono HV.out.1.size)
  clear c0 c1 c2 c3 c4 hmk hb2
  obtain⟨c0,c1,c2,c3,c4⟩:=j0h x0
  have H2:=zQ9 (zA9 hB2 (zA9 x0 hi2))
  clear x0 hi2 hB2
  have hbg:=k0u b w2
  unfold Hb.v at hbg
  go_upto_region 5 with (go_at_call 63;refine hbg.mono ?_;rintro e w3 ⟨p,rfl,hp,hpb,hb3⟩)
  have x0:=j0e H2.out.2.1 hb3 (zL9 _)
  have hi3:=H2.out.2.2.below hb3 (zL9 _)
  have hB3:=H2.out.1.trans (hb3.mono H2.out.1.size)
  have hfl:=q1s p b (-1) 0 0 w3 hpb hi3
  clear c0 c1 c2 c3 c4 hbg hb3 hp
  obtain⟨c0,c1,c2,c3,c4⟩:=j0h x0
  have H3:=zQ9 (zA9 hB3 (zA9 x0 (zA9 hi3 hpb)))
  clear x0 hi3 hB3 hpb
  obtain⟨fe,hfe⟩:∃ fe,fe=j1l b.l.length b.ks b.hs:=⟨_,rfl⟩
  rw[←hfe] at hfl
  by_cases hf0:fe=0
  ·subst hf0
   have HFE:=zQ9 hfe.symm
   clear hfe
   have hchk:b.chk=if 6<b.ds.length then 6 else j1n b.l.length b.ks.length b.ds:=by
    unfold Hb.chk j4s
    rw[if_neg (by rw[HCK.out];simp),if_neg (by rw[HFE.out];simp)]
   have HCH:=zQ9 hchk
   clear hchk
   by_cases h6:6<b.ds.length
   ·have x6:decide (6<(b.ds.length:Int))=true:=by simp;omega
    have HL:=zQ9 h6
    clear h6
    go_wp2_with (go_at_call 64;refine hfl.mono ?_;rintro e w' ⟨rfl,rfl⟩)
    go_ret
    exact⟨j0k (by rw[HCH.out,if_pos HL.out]),H3.out.1⟩
   ·have x6:decide (6<(b.ds.length:Int))=false:=by simp;omega
    have HL:=zQ9 h6
    clear h6
    obtain⟨Ad,hAd⟩:∃ Ad,Ad=b.Ad:=⟨_,rfl⟩
    rw[←hAd] at c4
    have hG:=H3.out.2.2.1.d
    rw[←hAd] at hG
    obtain⟨nd,hnd⟩:∃ nd,nd=b.ds.length:=⟨_,rfl⟩
    rw[←hnd] at c4 hG x6 hdm
    have HND:=zQ9 hnd
    have hg3:p<w3.heap.size:=j0a H3.out.2.2.2
    clear hAd hnd
    go_wp2_with (go_at_call 64;refine hfl.mono ?_;rintro e w' ⟨rfl,rfl⟩)
    go_loopg [29] nd (fun g v wr=>∃ k:Nat,k+g=nd∧v=.int .i64 k∧j1n b.l.length b.ks.length (b.ds.take k)=0∧Below w3.heap.size w3 wr)
    case atStart=>exact⟨0,by omega,rfl,rfl,Below.refl _ _⟩
    case round =>
     obtain⟨k,hk,rfl,hall,hBr⟩:=hrel
     have HK:=zQ9 (zA9 hk (zA9 hall hBr))
     by_cases hlt:k<nd
     ·obtain⟨bi,oi,d,hA,hbi,hdk,d0,d1,d2,d3,d4,d5,d6,d7,d8,d9,d10,d11⟩:=Deeds.get (hG.below hBr (zL9 _)) hlt
      subst hA
      have HD:=zQ9 hdk
      have bz:(wr.alloc dZ).heap[wr.heap.size]?=some dZ:=j0c rfl
      clear hk hall hBr hbi hdk
      go_upto_region 13 with ((with_reducible apply j8z bz rfl);(rfl);(rfl);(rfl);(rfl);intro w5 b5 g5 z5)
      obtain⟨gx,hgx⟩:∃ gx,gx=wr.heap.size:=⟨_,rfl⟩
      have hg5:wr.grownBy w5 none:=⟨g5.os,g5.tape,g5.output,by rw[z5];simp,fun j hj _=>(g5.block j (by simp;omega) (fun e=>by cases e;omega)).trans (Below.heap_alloc _ _ _ hj)⟩
      have hB5:Below w3.heap.size w3 w5:=HK.out.2.2.trans ((Below.refl _ _).grown hg5 HK.out.2.2.size (fun k e=>by cases e))
      have hcd:=q1k p b (-1) 0 0 d w5 (j0e H3.out.2.2.2 hB5 (zL9 _)) (H3.out.2.2.1.below hB5 (zL9 _)) HCK.out
      unfold dv at hcd
      obtain⟨de,hde⟩:∃ de,de=j0v b.l.length b.ks.length d:=⟨_,rfl⟩
      rw[←hde] at hcd
      rw[←hgx] at b5 ⊢
      obtain⟨y0,y1,y2,y3,y4,y5,y6,y7,y8,y9,y10,y11⟩:=blkD b5
      have H5:=zQ9 hB5
      clear hgx z5 g5 hg5 hB5 bz b5 d0 d1 d2 d3 d4 d5 d6 d7 d8 d9 d10 d11
      have htk:b.ds.take (k+1)=b.ds.take k++[d]:=by rw[List.take_add_one,HD.out];rfl
      have HTK:=zQ9 htk
      clear htk
      by_cases hd0:de=0
      ·subst hd0
       have HDE:=zQ9 hde.symm
       clear hde
       go_wp2_with (go_at_call 65;refine hcd.mono ?_;rintro e w6 ⟨rfl,hb6⟩)
       go_roundg (gk-1)
       case measure=>have:=HK.out.1;omega
       case rel=>exact⟨k+1,by have:=HK.out.1;omega,by go_num,by rw[HTK.out,j3q _ _ _ _ HK.out.2.1];exact HDE.out,H5.out.trans (hb6.mono H5.out.size)⟩
      ·have xd:(de != 0)=true:=by simp[hd0]
       have HD0:=zQ9 (zA9 hd0 hde)
       clear hd0 hde
       go_wp2_with (go_at_call 65;refine hcd.mono ?_;rintro e w6 ⟨rfl,hb6⟩)
       go_ret
       refine⟨j0k ?_,H3.out.1.trans ((H5.out.trans (hb6.mono H5.out.size)).mono H3.out.1.size)⟩
       rw[HCH.out,if_neg HL.out,←List.take_append_drop (k+1) b.ds,j9a,HTK.out,j3q _ _ _ _ HK.out.2.1]
       ·exact HD0.out.2
       ·rw[HTK.out,j3q _ _ _ _ HK.out.2.1,←HD0.out.2];exact HD0.out.1
     ·obtain rfl:k=nd:=by omega
      have HE:=zQ9 (show b.chk=0 by rw[HCH.out,if_neg HL.out];have:=HK.out.2.1;rw[HND.out,List.take_length] at this;exact this)
      have HB:=zQ9 (H3.out.1.trans (hBr.mono H3.out.1.size))
      clear hk hall hBr
      go_wp2_with fail
      go_ret
      exact⟨j0k HE.out.symm,HB.out⟩
  ·have xf:(fe != 0)=true:=by simp[hf0]
   have HF0:=zQ9 (zA9 hf0 hfe)
   clear hf0 hfe
   go_wp2_with (go_at_call 64;refine hfl.mono ?_;rintro e w' ⟨rfl,rfl⟩)
   go_ret
   refine⟨j0k ?_,H3.out.1⟩
   unfold Hb.chk j4s
   rw[if_neg (by rw[HCK.out];simp),←HF0.out.2,if_pos HF0.out.1]
 ·have xf:(ck != 0)=true:=by simp[h0]
  have HF0:=zQ9 (zA9 h0 hck)
  clear h0 hck
  go_wp2_with (go_at_call 62;refine hmk.mono ?_;rintro e w2 ⟨rfl,hb2⟩)
  go_ret
  refine⟨j0k ?_,HV.out.1.trans (hb2.mono HV.out.1.size)⟩
  unfold Hb.chk j4s
  rw[←HF0.out.2,if_pos HF0.out.1]
def j2v (b:Hb) (ck:Int) (w:World) (e:Ending) (w':World):Prop:=(ck≠0∧e=.returned (.tuple #[.pointer none,.int .i64 ck])∧Below w.heap.size w w') ∨
 (ck=0∧∃ p,e=.returned (.tuple #[.pointer (some ⟨p,0,none⟩),.int .i64 0])∧Work w p b (-1) 0 w'∧Below w.heap.size w w')
theorem j3v (b:Hb) (w:World) (hin:HbIn w b) :
 Calls Tryz.prog 55 #[b.v] w (j2v b b.chk w):=by
 obtain⟨V,hV⟩:∃ V,V=w.alloc b.obj:=⟨_,rfl⟩
 obtain⟨g,hg⟩:∃ g,g=w.heap.size:=⟨_,rfl⟩
 have b0:V.heap[g]?=some b.obj:=by rw[hV,hg];exact j0c rfl
 have hBV:Below w.heap.size w V:=by rw[hV];exact bal0 w _
 have hiV:=hin.below hBV (zL9 _)
 obtain⟨c0,c1,c2,c3,c4⟩:=j0h b0
 have hck:=q1g b V hiV
 unfold Hb.v at hck
 obtain⟨ce,hce⟩:∃ ce,ce=b.chk:=⟨_,rfl⟩
 rw[←hce] at hck ⊢
 have HV:=zQ9 (zA9 hBV (zA9 b0 (zA9 hin (zA9 hg hce.symm))))
 unfold Hb.v
 go_enter Tryz.func55,Tryz.ntmps55
 go_upto_region 1 with (fail)
 rw[←hV,←hg]
 clear hV hg hin hBV hiV b0 hce
 by_cases h0:ce=0
 ·subst h0
  go_upto_region 4 with (go_at_call 17;refine hck.mono ?_;rintro e w2 ⟨rfl,hb2⟩)
  have x0:=j0e HV.out.2.1 hb2 (zL9 _)
  have hB2:=HV.out.1.trans (hb2.mono HV.out.1.size)
  clear c0 c1 c2 c3 c4 hck hb2
  obtain⟨c0,c1,c2,c3,c4⟩:=j0h x0
  have H2:=zQ9 hB2
  have hbg:=k0u b w2
  unfold Hb.v at hbg
  clear x0 hB2
  go_wp2_with (go_at_call 63;refine hbg.mono ?_;rintro e w3 ⟨p,rfl,hp,hpb,hb3⟩)
  go_ret2
  have hB3:=H2.out.trans (hb3.mono H2.out.size)
  exact .inr ⟨rfl,p,rfl,⟨HV.out.2.2.1,Nat.le_trans H2.out.size hp,hB3,⟨_,hpb⟩,HV.out.2.2.2.2⟩,hB3⟩
 ·have xf:(ce != 0)=true:=by simp[h0]
  have H0:=zQ9 h0
  clear h0
  go_wp2_with (go_at_call 17;refine hck.mono ?_;rintro e w2 ⟨rfl,hb2⟩)
  go_ret2
  exact .inl ⟨H0.out,rfl,HV.out.1.trans (hb2.mono HV.out.1.size)⟩
theorem j2i (n lo hi:Int) (w:World):Calls Tryz.prog 105 #[.int .i64 n,.int .i64 lo,.int .i64 hi] w fun e w'=>e=.returned (.bool (btw n lo hi))∧w=w':=by
 go_enter Tryz.func105,Tryz.ntmps105
 by_cases h1:lo≤n
 ·by_cases h2:n≤hi
  ·have HB:=zQ9 (show btw n lo hi=true from j0n.2 ⟨h1,h2⟩)
   go_wp2_with fail
   go_ret
   exact⟨j0p (by rw[HB.out]),rfl⟩
  ·have HB:=zQ9 (show btw n lo hi=false by rw[←Bool.not_eq_true,j0n];omega)
   go_wp2_with fail
   go_ret
   exact⟨j0p (by rw[HB.out]),rfl⟩
 ·have HB:=zQ9 (show btw n lo hi=false by rw[←Bool.not_eq_true,j0n];omega)
  go_wp2_with fail
  go_ret
  exact⟨j0p (by rw[HB.out]),rfl⟩
theorem j5r (t:Int) (A Ak Ah Ad:Option Addr) (n c nk ck nh ch nd cd:Nat) (x:Int) (w:World) (hn:n≤maxLen) :
 Calls Tryz.prog 60 #[.agg #[.int .i64 t,.slice A n c,.slice Ak nk ck,.slice Ah nh ch,.slice Ad nd cd],.int .i64 x] w fun e w'=>e=.returned (.bool (ownB n x))∧Below w.heap.size w w':=by
 unfold maxLen at hn
 have HB:=zQ9 (bal0 w (Obj.cells #[.int .i64 t,.slice A n c,.slice Ak nk ck,.slice Ah nh ch,.slice Ad nd cd] 29))
 go_enter Tryz.func60,Tryz.ntmps60
 go_wp2_with (go_at_call 105;(with_reducible refine(j2i _ _ _ _).mono ?_);rintro e w' ⟨rfl,hw⟩;rw[←hw];clear hw w')
 go_ret
 exact⟨rfl,HB.out⟩
theorem k1f (t:Int) (A Ak Ah Ad:Option Addr) (n c nk ck nh ch nd cd:Nat) (x:Int) (w:World) (hn:nk≤maxLen) :
 Calls Tryz.prog 86 #[.agg #[.int .i64 t,.slice A n c,.slice Ak nk ck,.slice Ah nh ch,.slice Ad nd cd],.int .i64 x] w fun e w'=>e=.returned (.bool (ownB nk x))∧Below w.heap.size w w':=by
 unfold maxLen at hn
 have HB:=zQ9 (bal0 w (Obj.cells #[.int .i64 t,.slice A n c,.slice Ak nk ck,.slice Ah nh ch,.slice Ad nd cd] 29))
 go_enter Tryz.func86,Tryz.ntmps86
 go_wp2_with (go_at_call 105;(with_reducible refine(j2i _ _ _ _).mono ?_);rintro e w' ⟨rfl,hw⟩;rw[←hw];clear hw w')
 go_ret
 exact⟨rfl,HB.out⟩
theorem q1z (d:De) (w:World):Calls Tryz.prog 110 #[dv d] w fun e w'=>e=.returned (dv (namD d))∧Below w.heap.size w w':=by
 obtain⟨kind,flock,ow,other,tof,many,err,s⟩:=d
 unfold dv
 go_enter Tryz.func110,Tryz.ntmps110
 go_upto_block 0 with (fail)
 obtain⟨V,hV⟩:∃ V,V=((w.alloc (dObj ⟨kind,flock,ow,other,tof,many,err,s⟩)).alloc dZ).alloc (dObj ⟨kind,flock,0,0,0,0,0,⟨0,false,false,0,0⟩⟩):=⟨_,rfl⟩
 obtain⟨g,hg⟩:∃ g,g=w.heap.size:=⟨_,rfl⟩
 have b0:V.heap[g]?=some (dObj ⟨kind,flock,ow,other,tof,many,err,s⟩):=by rw[hV,hg];exact j0b (j0b (j0c rfl) _) _
 have b1:V.heap[g+1]?=some dZ:=by rw[hV,hg];exact j0b (j0c (by simp)) _
 have b2:V.heap[g+1+1]?=some (dObj ⟨kind,flock,0,0,0,0,0,⟨0,false,false,0,0⟩⟩):=by rw[hV,hg];exact j0c (by simp)
 have hBV:Below g w V:=by rw[hV,hg];exact bal (bal (bal0 w _) (zL9 _) _) (zL9 _) _
 rw[←hV,←hg]
 have HG:=zQ9 hg
 have HV:=zQ9 (zA9 hBV (zA9 b0 (zA9 b1 b2)))
 clear hV hg hBV b0 b1 b2
 go_cut [] from 11 to 49 (fun wx=>wx.heap[g+1]?=some dZ∧wx.heap[g+1+1]?=some (dObj (namD ⟨kind,flock,ow,other,tof,many,err,s⟩))∧Below g w wx)
 case first =>
  obtain⟨c0,c1,c2,c3,c4,c5,c6,c7,c8,c9,c10,c11⟩:=blkD HV.out.2.1
  obtain⟨e0,e1,e2,e3,e4,e5,e6,e7,e8,e9,e10,e11⟩:=blkD HV.out.2.2.2
  have fr:=frz HV.out.2.2.2
  obtain⟨f0,f1,f2,f3,f4,f5,f6,f7⟩:=zA9 (fr 2) (zA9 (fr 3) (zA9 (fr 4) (zA9 (fr 5) (zA9 (fr 6) (zA9 (fr 7) (zA9 (fr 8) (zA9 (fr 9) (zA9 (fr 10) (fr 11)))))))))
  have hl0:=j0a HV.out.2.1
  have hl2:=j0a HV.out.2.2.2
  clear fr
  obtain h|h|h|h|h|h:kind=1∨kind=3∨kind=2∨kind=4∨kind=5∨(kind≠1∧kind≠3∧kind≠2∧kind≠4∧kind≠5):=by omega
  ·subst h;have HK0:=zQ9 (show(0:Int)=0 from rfl)
   go_upto_region 6 with (fail)
   go_region
   all_goals
    go_wp2
    go_meet
    simp only[j3x]
    refine⟨?_,?_,?_⟩
    ·repeat refine(Below.heap_setCell _ _ _ _ (by simp)).trans ?_
     exact HV.out.2.2.1
    ·first
      | exact(j0d (j0d (HV.out.2.2.2))).trans (by simp[namD,HK0.out])
    ·refine j1j ?_
     repeat refine Below.setCell ?_ (by first|omega|(dsimp;omega)) _
     exact HV.out.1
  ·subst h;have HK0:=zQ9 (show(0:Int)=0 from rfl)
   go_upto_region 6 with (fail)
   go_region
   all_goals
    go_wp2
    go_meet
    simp only[j3x]
    refine⟨?_,?_,?_⟩
    ·repeat refine(Below.heap_setCell _ _ _ _ (by simp)).trans ?_
     exact HV.out.2.2.1
    ·first
      | exact(j0d (j0d (HV.out.2.2.2))).trans (by simp[namD,HK0.out])
    ·refine j1j ?_
     repeat refine Below.setCell ?_ (by first|omega|(dsimp;omega)) _
     exact HV.out.1
  ·subst h;have HK0:=zQ9 (show(0:Int)=0 from rfl)
   go_upto_region 8 with (fail)
   go_region
   all_goals
    go_wp2
    go_meet
    simp only[j3x]
    refine⟨?_,?_,?_⟩
    ·repeat refine(Below.heap_setCell _ _ _ _ (by simp)).trans ?_
     exact HV.out.2.2.1
    ·first
      | exact(j0d (j0d (j0d (HV.out.2.2.2)))).trans (by simp[namD,HK0.out])
    ·refine j1j ?_
     repeat refine Below.setCell ?_ (by first|omega|(dsimp;omega)) _
     exact HV.out.1
  ·subst h;have HK0:=zQ9 (show(0:Int)=0 from rfl)
   go_upto_region 10 with (fail)
   skip
   all_goals
    go_wp2
    go_meet
    skip
    refine⟨?_,?_,?_⟩
    ·repeat refine(Below.heap_setCell _ _ _ _ (by simp)).trans ?_
     exact HV.out.2.2.1
    ·first
      | exact(j0d (HV.out.2.2.2)).trans (by simp[namD,HK0.out])
    ·skip
     repeat refine Below.setCell ?_ (by first|omega|(dsimp;omega)) _
     exact HV.out.1
  ·subst h;have HK0:=zQ9 (show(0:Int)=0 from rfl)
   go_upto_region 12 with (fail)
   go_region
   all_goals
    go_wp2
    go_meet
    simp only[j3x]
    refine⟨?_,?_,?_⟩
    ·repeat refine(Below.heap_setCell _ _ _ _ (by simp)).trans ?_
     exact HV.out.2.2.1
    ·first
      | exact(j0d (j0d (j0d (j0d (j0d (j0d (HV.out.2.2.2))))))).trans (by simp[namD,HK0.out])
    ·refine j1j ?_
     repeat refine Below.setCell ?_ (by first|omega|(dsimp;omega)) _
     exact HV.out.1
  ·have HK0:=zQ9 (show(kind=1)=False∧(kind=3)=False∧(kind=2)=False∧(kind=4)=False∧(kind=5)=False from⟨by simp[h.1],by simp[h.2.1],by simp[h.2.2.1],by simp[h.2.2.2.1],by simp[h.2.2.2.2]⟩)
   have k1:(kind==1)=false:=beq_eq_false_iff_ne.2 h.1
   have k3:(kind==3)=false:=beq_eq_false_iff_ne.2 h.2.1
   have k2:(kind==2)=false:=beq_eq_false_iff_ne.2 h.2.2.1
   have k4:(kind==4)=false:=beq_eq_false_iff_ne.2 h.2.2.2.1
   have k5:(kind==5)=false:=beq_eq_false_iff_ne.2 h.2.2.2.2
   clear h
   go_upto_region 3 with (fail)
   go_region
   all_goals
    go_wp2
    go_meet
    simp only[j3x]
    refine⟨?_,?_,?_⟩
    ·repeat refine(Below.heap_setCell _ _ _ _ (by simp)).trans ?_
     exact HV.out.2.2.1
    ·first
      | exact(j0d (j0d (HV.out.2.2.2))).trans (by simp[namD,HK0.out])
    ·refine j1j ?_
     repeat refine Below.setCell ?_ (by first|omega|(dsimp;omega)) _
     exact HV.out.1
 case rest =>
  obtain⟨b1,b2,hBc⟩:=hcut
  obtain⟨D,hD⟩:∃ D,D=namD ⟨kind,flock,ow,other,tof,many,err,s⟩:=⟨_,rfl⟩
  rw[←hD] at b2
  have HD:=zQ9 hD
  clear hD
  obtain⟨y0,y1,y2,y3,y4,y5,y6,y7,y8,y9,y10,y11⟩:=blkD b2
  have hl1:=j0a b1
  go_wp2_with ((with_reducible apply j8z b1 rfl);(rfl);(rfl);(rfl);(rfl);intro w5 b5 g5 z5)
  have hB5:Below g w w5:=hBc.grown g5 (by omega) (fun k e=>by cases e;omega)
  have HZ:=zQ9 hB5
  obtain⟨r0,r1,r2,r3,r4,r5,r6,r7,r8,r9,r10,r11⟩:=blkD b5
  clear y0 y1 y2 y3 y4 y5 y6 y7 y8 y9 y10 y11 b1 b2 b5 hBc g5 z5 hB5
  exact bodyPost_ret (v:=dv D) (by simp[results,Tryz.f110,go_sem,r0,r1,r2,r3,r4,r5,r6,r7,r8,r9,r10,r11,dv]) rfl ⟨by rw[HD.out];rfl,by rw[←HG.out];exact HZ.out⟩
theorem j6h (n lo hi:Int) (w:World) :
 Calls Tryz.prog 121 #[.int .i64 n,.int .i64 lo,.int .i64 hi] w fun e w'=>e=.returned (.bool (btw n lo hi))∧w=w':=by
 by_cases h1:lo≤n<;>by_cases h2:n≤hi
 all_goals
  go_enter Tryz.func121,Tryz.ntmps121
  go_wp2
  go_ret
  exact⟨by simp[btw,h1,h2],rfl⟩
theorem rHas (n:Int) (b:Nat) (w:World) (hn:0≤n) (hn':n≤255) (hb:b≤8) :
 Calls Tryz.prog 123 #[.int .i64 n,.int .i64 b] w fun e w'=>e=.returned (.bool (bit n b))∧w=w':=by
 obtain⟨l,rfl⟩:=Int.eq_ofNat_of_zero_le hn
 have hl:l≤255:=by omega
 go_enter Tryz.func123,Tryz.ntmps123
 go_wp2_with fail
 go_loopg [0,5] b (fun g x i wr=>∃ k:Nat,k+g=b∧i=.int .i64 k∧∃ q:Nat,x=.int .i64 q∧q=l / 2 ^ k∧w=wr)
 case atStart=>exact⟨0,by omega,rfl,l,rfl,by simp,rfl⟩
 case round =>
  obtain⟨k,hk,rfl,q,rfl,hq,rfl⟩:=hrel
  have HK:=zQ9 (zA9 hk hq)
  have hkb:k≤b:=by omega
  have hql:q≤255:=by have:=Nat.div_le_self l (2 ^ k);omega
  clear hk hq
  by_cases hlt:k<b
  ·go_wp2
   go_roundg (gk-1)
   case measure=>have:=HK.out.1;omega
   case rel =>
    refine⟨k+1,by have:=HK.out.1;omega,by go_num,q / 2,?_,by rw[HK.out.2,Nat.pow_succ,Nat.div_div_eq_div_mul],rfl⟩
    congr 1
  ·obtain rfl:k=b:=by omega
   go_wp2
   go_ret
   refine⟨j0p ?_,rfl⟩
   unfold bit
   rw[Int.toNat_natCast,Nat.testBit_eq_decide_div_mod_eq,←HK.out.2,Bool.eq_iff_iff]
   simp only[beq_iff_eq,decide_eq_true_eq]
   omega
theorem rTorn (s:Sg) (b:Nat) (w:World) (hb:b≤8) :
 Calls Tryz.prog 122 #[vSg s,.int .i64 b] w fun e w'=>e=.returned (.bool (j1p s.l s.r b))∧Below w.heap.size w w':=by
 obtain⟨sn,l,r,sb,sp⟩:=s
 unfold vSg
 by_cases h4:b<4
 ·have h4':(b:Int)<4:=by omega
  have h4c:¬(4:Int)≤(b:Int):=by omega
  have h4n:¬4≤b:=by omega
  cases l
  all_goals
   go_enter Tryz.func122,Tryz.ntmps122
   go_wp2
   go_ret
   exact⟨j0p (by simp[j1p,h4,h4n]),bal0 _ _⟩
 ·have h4':¬(b:Int)<4:=by omega
  have h4c:(4:Int)≤(b:Int):=by omega
  have h4n:4≤b:=by omega
  cases r
  all_goals
   go_enter Tryz.func122,Tryz.ntmps122
   go_wp2
   go_ret
   exact⟨j0p (by simp[j1p,h4,h4n]),bal0 _ _⟩
theorem k4v (m:Mk) (w:World) :
 Calls Tryz.prog 130 #[vMk m] w fun e w'=>e=.returned (.int .i64 (if mkOk m then 0 else 1))∧Below w.heap.size w w':=by
 obtain⟨n,b,p⟩:=m
 obtain⟨R,hR⟩:∃ R:Int,R=if mkOk ⟨n,b,p⟩ then 0 else 1:=⟨_,rfl⟩
 rw[←hR]
 have HR:=zQ9 hR
 clear hR
 unfold vMk
 cases h1:btw n 0 255<;>cases h2:btw b 0 9<;>cases h3:btw p 0 6
 all_goals
  have HE:=zQ9 (zA9 h1 (zA9 h2 h3))
  go_enter Tryz.func130,Tryz.ntmps130
  go_wp2_with (go_at_call 121;refine(j6h _ _ _ _).mono ?_;rintro e w' ⟨rfl,rfl⟩)
  go_ret
  refine⟨j0k ?_,bal0 _ _⟩
  rw[HR.out]
  simp[mkOk,HE.out.1,HE.out.2.1,HE.out.2.2]
theorem rCheck (t:Int) (A:Option Addr) (n c:Nat) (l:List Mk) (w:World) (hc:Marks w A n l) (hlc:n≤c) (hcm:c≤maxLen) :
 Calls Tryz.prog 108 #[.agg #[.int .i64 t,.slice A n c]] w fun e w'=>e=.returned (.int .i64 (check t l))∧Below w.heap.size w w':=by
 have hl:=hc.len
 have HL:=zQ9 hl
 unfold maxLen at hcm
 have hb0:Below w.heap.size w (w.alloc (Obj.cells #[Value.int .i64 t,Value.slice A n c] 24)):=bal0 w _
 by_cases h1:btw t 0 2=true
 ·by_cases h2:n≤5
  ·have hck:check t l=chk l (n-0) 0:=by
    unfold check;rw[if_neg (by simp[h1]),if_neg (by omega),hl];rfl
   have HC:=zQ9 hck
   clear hl hck
   have h3:decide ((5:Int)<(n:Int))=false:=by simp;omega
   go_enter Tryz.func108,Tryz.ntmps108
   go_wp2_with (go_at_call 121;refine(j6h _ _ _ _).mono ?_;rintro e w' ⟨rfl,rfl⟩)
   obtain⟨W0,hW⟩:∃ W0,W0=w.alloc (Obj.cells #[Value.int .i64 t,Value.slice A n c] 24):=⟨_,rfl⟩
   rw[←hW]
   have hblk:W0.heap[w.heap.size]?=some (Obj.cells #[Value.int .i64 t,Value.slice A n c] 24 (0,0)):=by rw[hW];exact j0c rfl
   rw[←hW] at hb0
   have hc0:=hc.below hb0 (zL9 _)
   clear hW hc
   have hw0:=j0a hblk
   have HC0:=zQ9 (zA9 hc0 (zA9 hblk hb0))
   clear hc0 hblk hb0
   go_loopg [3] n (fun g i wr=>∃ k:Nat,k+g=n∧i=.int .i64 k∧chk l (n-0) 0=chk l (n-k) k∧Below W0.heap.size W0 wr)
   case atStart=>exact⟨0,by omega,rfl,rfl,Below.refl _ _⟩
   case round =>
    obtain⟨k,hk,rfl,hchk,hbl⟩:=hrel
    obtain⟨wo,rfl⟩:∃ wo:World,wo=wr:=⟨_,rfl⟩
    obtain⟨g1,rfl⟩:∃ g1:Nat,g1=gk:=⟨_,rfl⟩
    have HK:=zQ9 (zA9 hk hchk)
    have hk':k≤n:=by omega
    clear hchk hk
    have hs0:=hbl.size
    obtain⟨r0,r1⟩:=blk2 (j0e HC0.out.2.1 hbl (zL9 _))
    by_cases hlt:k<n
    ·obtain⟨b,off,m,rfl,hb,hm,c0,c1,c2⟩:=Marks.get (HC0.out.1.below hbl (zL9 _)) hlt
     have HM:=zQ9 hm
     have HS:=zQ9 (k7y HL.out hlt hm)
     clear hm
     cases hmk:mkOk m
     ·have HE:=zQ9 hmk
      clear hmk
      go_wp2_with fail
      have hcm2:=k4v m wo
      rw[HE.out] at hcm2
      refine hcm2.mono ?_
      rintro e w2 ⟨rfl,hb2⟩
      have hbl2:=hbl.trans (hb2.mono hs0)
      go_wp2
      go_ret
      exact⟨j0k (by rw[HC.out,HK.out.2,HS.out,if_pos HE.out]),HC0.out.2.2.trans (hbl2.mono HC0.out.2.2.size)⟩
     ·have HE:=zQ9 hmk
      clear hmk
      go_wp2_with fail
      have hcm2:=k4v m wo
      rw[HE.out] at hcm2
      refine hcm2.mono ?_
      rintro e w2 ⟨rfl,hb2⟩
      have hbl2:=hbl.trans (hb2.mono hs0)
      clear r0 r1 c0 c1 c2 hb2 hcm2
      simp only[if_true]
      go_wp2_with fail
      go_loopg [5] k (fun g i wr=>∃ q:Nat,q+g=k∧i=.int .i64 q∧(l.take q).contains m=false∧∃ d,wr=w2.drewN d)
      case atStart=>exact⟨0,by omega,rfl,by simp,0,rfl⟩
      case round =>
       obtain⟨q,hq,rfl,hno,d,rfl⟩:=hrel
       have HQ:=zQ9 (zA9 hq hno)
       have hq':q≤k:=by omega
       clear hno hq
       obtain⟨r0,r1⟩:=blk2 (j0e HC0.out.2.1 hbl2 (zL9 _))
       by_cases hqk:q<k
       ·obtain⟨b1,off1,x,hA,hb1,hx,d0,d1,d2⟩:=Marks.get (HC0.out.1.below hbl2 (zL9 _)) (show q<n by omega)
        obtain⟨b2,off2,y,hA2,hb2,hy,e0,e1,e2⟩:=Marks.get (HC0.out.1.below hbl2 (zL9 _)) hlt
        obtain⟨rfl,rfl⟩:b=b1∧off=off1:=by simpa using hA
        obtain⟨rfl,rfl⟩:b=b2∧off=off2:=by simpa using hA2
        obtain rfl:m=y:=Option.some.inj (HM.out.symm.trans hy)
        have HX:=zQ9 hx
        clear hx hA hA2 hy
        have i0:(0:Int)≤(q:Int):=by omega
        have i1:(q:Int)<(n:Int):=by omega
        have i2:(0:Int)≤(k:Int):=by omega
        have i3:(k:Int)<(n:Int):=by omega
        by_cases hxm:x=m
        ·subst hxm
         go_upto_region 14 with (fail)
         go_quiet (fail)
         go_wp2
         go_ret
         refine⟨j0k ?_,?_⟩
         ·rw[HC.out,HK.out.2,HS.out,if_neg (by simp[HE.out]),if_pos (k9o HX.out hqk)]
         ·exact HC0.out.2.2.trans ((j0l (j0l hbl2 _) _).mono HC0.out.2.2.size)
        ·have HNE:=zQ9 hxm
         cases f1:(x.n==m.n)<;>cases f2:(x.b==m.b)<;>cases f3:(x.p==m.p)
         case true.true.true =>
          exfalso
          exact hxm (by cases x;cases m;simp at f1 f2 f3;simp[f1,f2,f3])
         all_goals
          clear hxm
          go_upto_region 14 with (fail)
          go_quiet (fail)
          go_wp2
          go_roundg (gk-1)
          case measure=>have:=HQ.out.1;omega
          case rel=>exact⟨q+1,by have:=HQ.out.1;omega,by go_num,k5q HQ.out.2 HX.out HNE.out,_,rfl⟩
       ·obtain rfl:q=k:=by omega
        go_wp2
        go_roundg (g1-1)
        case measure=>have:=HK.out.1;omega
        case rel =>
         refine⟨q+1,by have:=HK.out.1;omega,by go_num,?_,j0l hbl2 _⟩
         rw[HK.out.2,HS.out,if_neg (by simp[HE.out]),if_neg (by rw[HQ.out.2];simp)]
    ·obtain rfl:k=n:=by omega
     go_wp2
     go_ret
     exact⟨j0k (by rw[HC.out,HK.out.2,Nat.sub_self];rfl),HC0.out.2.2.trans (hbl.mono HC0.out.2.2.size)⟩
  ·have h3:decide ((5:Int)<(n:Int))=true:=by simp;omega
   have hck:check t l=6:=by
    unfold check;rw[if_neg (by simp[h1]),if_pos (by omega)]
   have HC:=zQ9 hck
   clear hl hck
   go_enter Tryz.func108,Tryz.ntmps108
   go_wp2_with (go_at_call 121;refine(j6h _ _ _ _).mono ?_;rintro e w' ⟨rfl,rfl⟩)
   go_ret
   exact⟨j0k HC.out.symm,hb0⟩
 ·have h1':btw t 0 2=false:=by simpa using h1
  have hck:check t l=1:=by
   unfold check;rw[if_pos h1']
  have HC:=zQ9 hck
  clear hl hck h1
  go_enter Tryz.func108,Tryz.ntmps108
  go_wp2_with (go_at_call 121;refine(j6h _ _ _ _).mono ?_;rintro e w' ⟨rfl,rfl⟩)
  go_ret
  exact⟨j0k HC.out.symm,hb0⟩
def j5i (s:Sg) (k:Nat):Bool:=(List.range k).any fun i=>j1p s.l s.r i&&bit s.n i
theorem k1e (s:Sg) (k:Nat):j5i s (k+1)=(j5i s k || (j1p s.l s.r k&&bit s.n k)):=by
 unfold j5i;rw[List.range_succ,List.any_append];simp
theorem k4e {s:Sg} (h0:0≤s.n) (h1:s.n≤255):j5i s 8=false↔onI s.n s.l s.r=s.n:=by
 constructor
 ·intro h
  refine j5b (j5w _ _ _) (j3o _ _ _) h0 h1 fun i hi=>?_
  rw[j2q _ _ _ _ hi]
  have:=(List.any_eq_false.1 h) i (by simpa using hi)
  revert this
  cases j1p s.l s.r i<;>cases bit s.n i<;>simp
 ·intro h
  refine List.any_eq_false.2 fun i hi=>?_
  have hi':i<8:=by simpa using hi
  have:=j2q s.n s.l s.r i hi'
  rw[h] at this
  revert this
  cases j1p s.l s.r i<;>cases bit s.n i<;>simp
theorem k8f {s:Sg} {k:Nat} (hk:k<8) (h:(j1p s.l s.r k&&bit s.n k)=true):j5i s 8=true:=by
 refine List.any_eq_true.2 ⟨k,by simpa using hk,h⟩
theorem seen_ref {s:Sg}:seen s 9 6=if btw s.n 0 255=false then 1 else if j5i s 8 then 8 else if btw s.b (-1) 9&&btw s.p (-1) 6 then 0 else 1:=by
 unfold seen
 by_cases h1:btw s.n 0 255=false
 ·rw[if_pos h1,if_pos h1]
 ·rw[if_neg h1,if_neg h1]
  rw[Bool.not_eq_false,j0n] at h1
  by_cases h2:onI s.n s.l s.r=s.n
  ·rw[if_neg (by simp[h2]),(k4e h1.1 h1.2).2 h2]
   simp only[Bool.false_eq_true,if_false]
   have e3:(s.b≠-1∧btw s.b 0 9=false)↔btw s.b (-1) 9=false:=by rw[j9g,j9g];omega
   have e4:(s.p≠-1∧btw s.p 0 6=false)↔btw s.p (-1) 6=false:=by rw[j9g,j9g];omega
   simp only[e3,e4]
   cases btw s.b (-1) 9<;>cases btw s.p (-1) 6<;>rfl
  ·have h3:j5i s 8=true:=by
    rw[←Bool.not_eq_false];exact fun h=>h2 ((k4e h1.1 h1.2).1 h)
   rw[if_pos h2,h3];rfl
theorem q0e (s:Sg) (w:World) :
 Calls Tryz.prog 87 #[vSg s] w fun e w'=>e=.returned (.int .i64 (seen s 9 6))∧Below w.heap.size w w':=by
 have HR:=zQ9 (seen_ref (s:=s))
 obtain⟨R,hR⟩:∃ R,R=seen s 9 6:=⟨_,rfl⟩
 rw[←hR]
 have HRR:=zQ9 hR
 clear hR
 cases h1:btw s.n 0 255
 ·have HE:=zQ9 h1
  go_enter Tryz.func87,Tryz.ntmps87
  unfold vSg
  go_wp2_with (go_at_call 121;refine(j6h _ _ _ _).mono ?_;rintro e w' ⟨rfl,rfl⟩)
  go_ret
  exact⟨j0k (by rw[HRR.out,HR.out,if_pos HE.out]),bal0 _ _⟩
 ·have hn:=j0n.1 h1
  have HE:=zQ9 h1
  obtain⟨hn0,hn1⟩:=hn
  go_enter Tryz.func87,Tryz.ntmps87
  unfold vSg
  go_wp2_with (go_at_call 121;refine(j6h _ _ _ _).mono ?_;rintro e w' ⟨rfl,rfl⟩)
  clear h1
  obtain⟨W0,hW⟩:∃ W0,W0=w.alloc (Obj.cells #[Value.int .i64 s.n,.bool s.l,.bool s.r,.int .i64 s.b,.int .i64 s.p] 31):=⟨_,rfl⟩
  rw[←hW]
  have hblk:W0.heap[w.heap.size]?=some (Obj.cells #[Value.int .i64 s.n,.bool s.l,.bool s.r,.int .i64 s.b,.int .i64 s.p] 31 (0,0)):=by rw[hW];exact j0c rfl
  have hB0:Below w.heap.size w W0:=by rw[hW];exact bal0 w _
  clear hW
  have HB:=zQ9 (zA9 hblk hB0)
  clear hblk hB0
  go_loopg [3] 8 (fun g i wr=>∃ k:Nat,k+g=8∧i=.int .i64 k∧j5i s k=false∧Below W0.heap.size W0 wr)
  case atStart=>exact⟨0,by omega,rfl,rfl,Below.refl _ _⟩
  case round =>
   obtain⟨k,hk,rfl,hno,hbl⟩:=hrel
   have HK:=zQ9 (zA9 hk hno)
   have hk8:k≤8:=by omega
   clear hk hno
   obtain⟨s0,s1,s2,s3,s4⟩:=blk5 (j0e HB.out.1 hbl (zL9 _))
   by_cases hlt:k<8
   ·have hlt':(k:Int)<8:=by omega
    go_wp2_with fail
    refine(rTorn s k _ hk8).mono ?_
    rintro e w2 ⟨rfl,hb2⟩
    have hbl2:=hbl.trans (hb2.mono hbl.size)
    clear s0 s1 s2 s3 s4 hb2
    obtain⟨s0,s1,s2,s3,s4⟩:=blk5 (j0e HB.out.1 hbl2 (zL9 _))
    cases ht:j1p s.l s.r k
    ·have HT:=zQ9 ht
     go_wp2
     go_roundg (gk-1)
     case measure=>have:=HK.out.1;omega
     case rel=>exact⟨k+1,by have:=HK.out.1;omega,by go_num,by rw[k1e,HK.out.2,HT.out];rfl,hbl2⟩
    ·have HT:=zQ9 ht
     go_wp2_with fail
     refine(rHas s.n k _ hn0 hn1 hk8).mono ?_
     rintro e w3 ⟨rfl,rfl⟩
     cases hb:bit s.n k
     ·have HBT:=zQ9 hb
      go_wp2
      go_roundg (gk-1)
      case measure=>have:=HK.out.1;omega
      case rel=>exact⟨k+1,by have:=HK.out.1;omega,by go_num,by rw[k1e,HK.out.2,HT.out,HBT.out];rfl,hbl2⟩
     ·have HBT:=zQ9 hb
      go_wp2
      go_ret
      have h8:=k8f hlt (show(j1p s.l s.r k&&bit s.n k)=true by rw[HT.out,HBT.out];rfl)
      exact⟨j0k (by rw[HRR.out,HR.out,if_neg (by rw[HE.out];simp),h8];rfl),HB.out.2.trans (hbl2.mono HB.out.2.size)⟩
   ·obtain rfl:k=8:=by omega
    cases h2:btw s.b (-1) 9<;>cases h3:btw s.p (-1) 6
    all_goals
     have H23:=zQ9 (zA9 h2 h3)
     go_wp2_with (go_at_call 121;refine(j6h _ _ _ _).mono ?_;rintro e w' ⟨rfl,rfl⟩)
     go_ret
     refine⟨j0k ?_,HB.out.2.trans (hbl.mono HB.out.2.size)⟩
     rw[HRR.out,HR.out,if_neg (by rw[HE.out];simp),HK.out.2,H23.out.1,H23.out.2]
     rfl
def j5u (s:Sg) (m:Mk) (i:Nat):Bool:=!j1p s.l s.r i&&(bit m.n i&&!bit s.n i)
def j8u (s:Sg) (m:Mk) (i:Nat):Bool:=!j1p s.l s.r i&&(!bit m.n i&&bit s.n i)
def j9s (p:Nat→Bool) (k:Nat):Bool:=(List.range k).any p
def j8p (p:Nat→Bool) (k:Nat):Nat:=(List.range k).countP p
theorem j7b (p:Nat→Bool) (k:Nat):j9s p (k+1)=(j9s p k || p k):=by unfold j9s;rw[List.range_succ,List.any_append];simp
theorem j7c (p:Nat→Bool) (k:Nat):j8p p (k+1)=j8p p k+if p k then 1 else 0:=by
 unfold j8p;rw[List.range_succ,List.countP_append];cases h:p k<;>simp[h]
theorem cntTo_le (p:Nat→Bool) (k:Nat):j8p p k≤k:=by have:=List.countP_le_length (p:=p) (l:=List.range k);simpa[j8p] using this
theorem anyTo_at {p:Nat→Bool} {k:Nat} (hk:k<8) (h:p k=true):j9s p 8=true:=List.any_eq_true.2 ⟨k,by simpa using hk,h⟩
theorem fits_ref {s:Sg} {m:Mk} {t:Int} (hm:m.n≤255) (hs0:0≤s.n) (hs1:s.n≤255) (ho:onI s.n s.l s.r=s.n) :
 fits s m t=(j3p s m&&(!j9s (j5u s m) 8&&decide ((j8p (j8u s m) 8:Int)≤t))):=by
 have htorn:∀ i,i<8→j1p s.l s.r i=true→bit s.n i=false:=fun i hi h=>by
  have:=j2q s.n s.l s.r i hi
  rw[ho,h] at this
  simpa using this
 have e1:decide (butI (onI m.n s.l s.r) s.n=0)=!j9s (j5u s m) 8:=by
  rw[Bool.eq_iff_iff,decide_eq_true_eq,k2j (j5g _ _) (j5f _ _)]
  simp only[Bool.not_eq_true']
  constructor
  ·intro h
   refine List.any_eq_false.2 fun i hi=>?_
   have hi':i<8:=by simpa using hi
   have:=h i hi'
   rw[j4j _ _ hs1 i hi',j2q _ _ _ _ hi'] at this
   unfold j5u
   revert this
   cases bit m.n i<;>cases bit s.n i<;>cases j1p s.l s.r i<;>simp
  ·intro h i hi
   have:=(List.any_eq_false.1 h) i (by simpa using hi)
   rw[j4j _ _ hs1 i hi,j2q _ _ _ _ hi]
   unfold j5u at this
   revert this
   cases bit m.n i<;>cases bit s.n i<;>cases j1p s.l s.r i<;>simp
 have e2:popI (butI s.n (onI m.n s.l s.r))=j8p (j8u s m) 8:=by
  unfold popI
  show cnt _=cnt _
  refine q3d fun i hi=>?_
  rw[j4j _ _ (j3o _ _ _) i hi,j2q _ _ _ _ hi]
  unfold j8u
  have:=htorn i hi
  revert this
  cases bit m.n i<;>cases bit s.n i<;>cases j1p s.l s.r i<;>simp
 unfold fits
 rw[e1,e2,Bool.and_assoc]
theorem rFits (s:Sg) (m:Mk) (t:Int) (w:World) (hm0:0≤m.n) (hm1:m.n≤255) (hs0:0≤s.n) (hs1:s.n≤255) (ho:onI s.n s.l s.r=s.n) :
 Calls Tryz.prog 94 #[vSg s,vMk m,.int .i64 t] w fun e w'=>e=.returned (.bool (fits s m t))∧Below w.heap.size w w':=by
 have HF:=zQ9 (fits_ref (t:=t) hm1 hs0 hs1 ho)
 obtain⟨R,hR⟩:∃ R,R=fits s m t:=⟨_,rfl⟩
 rw[←hR]
 have HRR:=zQ9 hR
 clear hR ho
 go_enter Tryz.func94,Tryz.ntmps94
 unfold vSg vMk
 go_upto_region 1 with (fail)
 go_cut [30] (fun q wc=>q=.bool (!j3p s m)∧((w.alloc (Obj.cells #[Value.int .i64 s.n,.bool s.l,.bool s.r,.int .i64 s.b,.int .i64 s.p] 31)).alloc (Obj.cells #[Value.int .i64 m.n,.int .i64 m.b,.int .i64 m.p] 117))=wc)
 case first =>
  cases e1:(s.b != -1)<;>cases e2:(s.b != m.b)<;>cases e3:(s.p != -1)<;>cases e4:(s.p != m.p)
  all_goals
   go_wp2
   go_meet
   exact⟨by simp_all [j3p],rfl⟩
 case rest =>
  obtain⟨rfl,rfl⟩:=hcut
  obtain⟨W0,hW⟩:∃ W0,W0=(w.alloc (Obj.cells #[Value.int .i64 s.n,.bool s.l,.bool s.r,.int .i64 s.b,.int .i64 s.p] 31)).alloc (Obj.cells #[Value.int .i64 m.n,.int .i64 m.b,.int .i64 m.p] 117):=⟨_,rfl⟩
  rw[←hW]
  have hB0:Below w.heap.size w W0:=by rw[hW];exact bal (bal0 w _) (zL9 _) _
  have b0:W0.heap[w.heap.size]?=some (Obj.cells #[Value.int .i64 s.n,.bool s.l,.bool s.r,.int .i64 s.b,.int .i64 s.p] 31 (0,0)):=by rw[hW];exact j0b (j0c rfl) _
  have b1:W0.heap[w.heap.size+1]?=some (Obj.cells #[Value.int .i64 m.n,.int .i64 m.b,.int .i64 m.p] 117 (0,0)):=by rw[hW];exact j0c (by simp)
  clear hW
  have HB:=zQ9 (zA9 b0 (zA9 b1 hB0))
  clear b0 b1 hB0
  cases hal:j3p s m
  ·have HE:=zQ9 hal
   go_wp2
   go_ret
   exact⟨j0p (by rw[HRR.out,HF.out,HE.out];rfl),HB.out.2.2⟩
  ·have HE:=zQ9 hal
   clear hal
   simp only[Bool.not_true]
   go_wp2_with fail
   go_loopg [7,8] 8 (fun g x i wr=>∃ k:Nat,k+g=8∧i=.int .i64 k∧∃ q:Nat,x=.int .i64 q∧q=j8p (j8u s m) k∧j9s (j5u s m) k=false∧Below W0.heap.size W0 wr)
   case atStart=>exact⟨0,by omega,rfl,0,rfl,rfl,rfl,Below.refl _ _⟩
   case round =>
    obtain⟨k,hk,rfl,q,rfl,hq,hno,hbl⟩:=hrel
    have hqk:q≤k:=by rw[hq];exact cntTo_le _ _
    have HK:=zQ9 (zA9 hk (zA9 hq hno))
    have hk8:k≤8:=by omega
    clear hk hq hno
    obtain⟨s0,s1,s2,s3,s4⟩:=blk5 (j0e HB.out.1 hbl (zL9 _))
    by_cases hlt:k<8
    ·have hlt':(k:Int)<8:=by omega
     go_wp2_with fail
     refine(rTorn s k _ hk8).mono ?_
     rintro e w2 ⟨rfl,hb2⟩
     have hbl2:=hbl.trans (hb2.mono hbl.size)
     clear s0 s1 s2 s3 s4 hb2
     obtain⟨s0,s1,s2,s3,s4⟩:=blk5 (j0e HB.out.1 hbl2 (zL9 _))
     obtain⟨m0,m1,m2⟩:=blk3 (j0e HB.out.2.1 hbl2 (zL9 _))
     cases ht:j1p s.l s.r k
     ·cases hbm:bit m.n k<;>cases hbs:bit s.n k
      ·have HT:=zQ9 (zA9 ht (zA9 hbm hbs))
       go_wp2_with (go_at_call 123;refine(rHas _ k _ (by assumption) (by assumption) hk8).mono ?_;rintro e w3 ⟨rfl,rfl⟩)
       go_roundg (gk-1)
       case measure=>have:=HK.out.1;omega
       case rel=>exact⟨k+1,by have:=HK.out.1;omega,by go_num,q,rfl,by rw[j7c,HK.out.2.1];simp[j8u,HT.out.1,HT.out.2.1,HT.out.2.2],by rw[j7b,HK.out.2.2];simp[j5u,HT.out.1,HT.out.2.1,HT.out.2.2],hbl2⟩
      ·have HT:=zQ9 (zA9 ht (zA9 hbm hbs))
       go_wp2_with (go_at_call 123;refine(rHas _ k _ (by assumption) (by assumption) hk8).mono ?_;rintro e w3 ⟨rfl,rfl⟩)
       go_roundg (gk-1)
       case measure=>have:=HK.out.1;omega
       case rel=>exact⟨k+1,by have:=HK.out.1;omega,by go_num,q+1,by go_num,by rw[j7c,HK.out.2.1];simp[j8u,HT.out.1,HT.out.2.1,HT.out.2.2],by rw[j7b,HK.out.2.2];simp[j5u,HT.out.1,HT.out.2.1,HT.out.2.2],hbl2⟩
      ·have HT:=zQ9 (zA9 ht (zA9 hbm hbs))
       go_wp2_with (go_at_call 123;refine(rHas _ k _ (by assumption) (by assumption) hk8).mono ?_;rintro e w3 ⟨rfl,rfl⟩)
       go_ret
       have h8:=anyTo_at (p:=j5u s m) hlt (by simp[j5u,HT.out.1,HT.out.2.1,HT.out.2.2])
       exact⟨j0p (by rw[HRR.out,HF.out,h8];simp),HB.out.2.2.trans (hbl2.mono HB.out.2.2.size)⟩
      ·have HT:=zQ9 (zA9 ht (zA9 hbm hbs))
       go_wp2_with (go_at_call 123;refine(rHas _ k _ (by assumption) (by assumption) hk8).mono ?_;rintro e w3 ⟨rfl,rfl⟩)
       go_roundg (gk-1)
       case measure=>have:=HK.out.1;omega
       case rel=>exact⟨k+1,by have:=HK.out.1;omega,by go_num,q,rfl,by rw[j7c,HK.out.2.1];simp[j8u,HT.out.1,HT.out.2.1,HT.out.2.2],by rw[j7b,HK.out.2.2];simp[j5u,HT.out.1,HT.out.2.1,HT.out.2.2],hbl2⟩
     ·have HT:=zQ9 ht
      go_wp2
      go_roundg (gk-1)
      case measure=>have:=HK.out.1;omega
      case rel=>exact⟨k+1,by have:=HK.out.1;omega,by go_num,q,rfl,by rw[j7c,HK.out.2.1];simp[j8u,HT.out],by rw[j7b,HK.out.2.2];simp[j5u,HT.out],hbl2⟩
    ·obtain rfl:k=8:=by omega
     go_wp2
     go_ret
     exact⟨j0p (by rw[HRR.out,HF.out,HE.out,HK.out.2.2,←HK.out.2.1];simp),HB.out.2.2.trans (hbl.mono HB.out.2.2.size)⟩
end Go.Proofs.YtmennjmjakdkcaaGreat
