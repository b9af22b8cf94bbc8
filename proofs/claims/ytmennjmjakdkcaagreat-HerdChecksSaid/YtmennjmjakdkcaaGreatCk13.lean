/- HerdChecks 13: HdJ, HdZ, Rf9N. -/
import Derived.Test.YtmennjmjakdkcaaGreatCk01
import Derived.Test.YtmennjmjakdkcaaGreatCk12
import Derived.BigQuiet
import Derived.Deep.CutBlock
set_option linter.unusedVariables false
set_option linter.unusedSimpArgs false
namespace Go.Proofs.YtmennjmjakdkcaaGreat
open Go.RowKit Go.MapKept
set_option maxRecDepth 100000 in
set_option maxHeartbeats 1000000 in
theorem k9f (p:Nat) (b:Hb) (deed owner now:Int) (d:De) (w:World) (hp:w.heap[p]? = some (b.bk deed owner now)) (hin:HbIn w b) (hck:check b.t b.l = 0) :
 Calls Tryz.prog 65 #[.pointer (some ⟨p,0,none⟩),dv d] w fun e w' => e = .returned (.int .i64 (j0u b.l.length b.ks.length d))∧Below w.heap.size w w':=by
 obtain ⟨V,hV⟩:∃ V,V = w.alloc (dObj d):=⟨_,rfl⟩
 obtain ⟨g,hg⟩:∃ g,g = w.heap.size:=⟨_,rfl⟩
 have b0:V.heap[g]? = some (dObj d):=by rw [hV,hg];exact j0c rfl
 have hBV:Below w.heap.size w V:=by rw [hV];exact bal0 w _
 have hpV:=j0f hp hBV (zL9 _)
 have hiV:=hin.below hBV (zL9 _)
 obtain ⟨c0,c1,c2,c3,c4,c5,c6,c7,c8,c9,c10,c11⟩:=blkD b0
 have hkm:b.ks.length ≤ maxLen:=Nat.le_trans hin.kc hin.km
 have hbt:=j2d d.kind 1 6 V
 have hif:=j8c p b.t b.A b.l.length b.c b.Ak b.ks.length b.ck b.vh b.vd deed owner now d.flock V hpV hkm
 obtain ⟨k1,hk1⟩:∃ k1,k1 = btw d.kind 1 6:=⟨_,rfl⟩
 obtain ⟨k2,hk2⟩:∃ k2,k2 = ownB b.ks.length d.flock:=⟨_,rfl⟩
 rw [← hk1] at hbt
 rw [← hk2] at hif
 have HK:=zQ9 (zA9 hk1.symm hk2.symm)
 have HV:=zQ9 (zA9 hBV (zA9 b0 (zA9 hpV (zA9 hiV hck))))
 have HG:=zQ9 hg
 clear hk1 hk2
 unfold dv
 go_enter Tryz.func65,Tryz.ntmps65
 go_upto_region 1 with (fail)
 rw [← hV,← hg]
 clear hV hg hp hin hck hBV hpV hiV b0
 cases k1 with
 | false =>
   go_wp2_with (go_at_call 102;refine hbt.mono ?_;rintro e w' ⟨rfl,rfl⟩)
   go_ret
   exact ⟨j0k (by unfold j0u;rw [if_pos HK.out.1]),HV.out.1⟩
 | true =>
 cases k2 with
 | false =>
   go_wp2_with (first
    | (go_at_call 102;refine hbt.mono ?_;rintro e w' ⟨rfl,rfl⟩)
    | (go_at_call 79;refine hif.mono ?_;rintro e w' ⟨rfl,rfl⟩))
   go_ret
   exact ⟨j0k (by unfold j0u;rw [if_neg (by rw [HK.out.1];simp),if_pos HK.out.2]),HV.out.1⟩
 | true =>
 have hchk:=k7u p b deed owner now d V HV.out.2.2.1 HV.out.2.2.2.1 HV.out.2.2.2.2 (j0n.1 HK.out.1)
 unfold dv at hchk
 go_upto_region 6 with (first
  | (go_at_call 102;refine hbt.mono ?_;rintro e w' ⟨rfl,rfl⟩)
  | (go_at_call 79;refine hif.mono ?_;rintro e w' ⟨rfl,rfl⟩)
  | (go_at_call 107;refine hchk.mono ?_;rintro e w2 ⟨⟨x,rfl,hx⟩,hb2⟩))
 obtain ⟨Y,hY⟩:∃ Y,Y = w2.alloc (dObj x):=⟨_,rfl⟩
 obtain ⟨gx,hgx⟩:∃ gx,gx = w2.heap.size:=⟨_,rfl⟩
 have y1:Y.heap[gx]? = some (dObj x):=by rw [hY,hgx];exact j0c rfl
 have y0:Y.heap[g]? = some (dObj d):=by rw [hY];exact j0b (j0f HV.out.2.1 hb2 (zL9 _)) _
 have hBY:Below w.heap.size w Y:=by rw [hY];exact bal (HV.out.1.trans (hb2.mono HV.out.1.size)) (zL9 _) _
 obtain ⟨e0,e1,e2,e3,e4,e5,e6,e7,e8,e9,e10,e11⟩:=blkD y0
 obtain ⟨r0,r1,r2,r3,r4,r5,r6,r7,r8,r9,r10,r11⟩:=blkD y1
 rw [← hY,← hgx]
 have HY:=zQ9 (zA9 hBY hx)
 clear hY hgx y1 y0 hBY hb2 hx c0 c1 c2 c3 c4 c5 c6 c7 c8 c9 c10 c11 hbt hif hchk
 obtain ⟨fe,hfe⟩:∃ fe,fe = fldE b.l.length b.ks.length d:=⟨_,rfl⟩
 have HFE:=zQ9 hfe
 rw [← hfe]
 clear hfe
 by_cases h0:fe = 0
 ·subst h0
  have hxn:x = namD d:=HY.out.2 HFE.out.symm
  by_cases hdx:x = d
  ·have hde:j0u b.l.length b.ks.length d = 0:=by
    unfold j0u
    rw [if_neg (by rw [HK.out.1];simp),if_neg (by rw [HK.out.2];simp),if_neg (by rw [← HFE.out];simp),if_neg (fun h => h (hdx.symm.trans hxn))]
   have HDE:=zQ9 (zA9 hde HY.out.1)
   clear HY HFE HK HV hde hxn
   subst hdx
   go_wp2_with fail
   go_ret
   exact ⟨j0k HDE.out.1.symm,HDE.out.2⟩
  ·have hde:j0u b.l.length b.ks.length d = 1:=by
    unfold j0u
    rw [if_neg (by rw [HK.out.1];simp),if_neg (by rw [HK.out.2];simp),if_neg (by rw [← HFE.out];simp),if_pos (fun h => hdx (hxn.trans h.symm))]
   have HDE:=zQ9 (zA9 hde (zA9 HY.out.1 hdx))
   clear HY HFE HK HV hde hxn hdx
   obtain ⟨dk,df,dow,dot,dt,dm,de,⟨dsn,dsl,dsr,dsb,dsp⟩⟩:=d
   obtain ⟨xk,xf,xow,xot,xt,xm,xe,⟨xsn,xsl,xsr,xsb,xsp⟩⟩:=x
   dsimp only at *
   go_wp2_with fail
   all_goals
    first
     | (go_ret
        exact ⟨j0k HDE.out.1.symm,HDE.out.2.1⟩)
     | (exfalso
        subst_vars
        exact HDE.out.2.2 rfl)
 ·have x0:(fe == 0) = false:=beq_eq_false_iff_ne.2 h0
  have H0:=zQ9 h0
  clear h0
  go_wp2_with fail
  go_ret
  refine ⟨j0k ?_,HY.out.1⟩
  unfold j0u
  rw [if_neg (by rw [HK.out.1];simp),if_neg (by rw [HK.out.2];simp),← HFE.out,if_pos H0.out]
set_option maxRecDepth 100000 in
theorem k4c (b:Hb) (w:World) :
 Calls Tryz.prog 63 #[b.v] w fun e w' => ∃ p,e = .returned (.pointer (some ⟨p,0,none⟩))∧w.heap.size ≤ p∧w'.heap[p]? = some (b.bk (-1) 0 0)∧Below w.heap.size w w':=by
 unfold Hb.v
 go_enter Tryz.func63,Tryz.ntmps63
 go_wp2
 go_ret
 exact ⟨_,rfl,by omega,j0c (by simp),bal (bal0 w _) (zL9 _) _⟩
theorem j3h (n nf:Nat):∀ (l:List De) (d:De),j1k n nf l = 0→j1k n nf (l ++ [d]) = j0u n nf d
 | [],d,_ => by unfold j1k;simp [j1k];intro h;exact h.symm
 | x :: l,d,h => by
   unfold j1k at h
   split at h
   ·rename_i h1;exact absurd h h1
   ·rename_i h1
    rw [List.cons_append]
    conv => lhs;unfold j1k
    rw [if_neg h1]
    exact j3h n nf l d h
theorem j8b (n nf:Nat):∀ (l m:List De),j1k n nf l ≠ 0→j1k n nf (l ++ m) = j1k n nf l
 | [],m,h => absurd rfl h
 | x :: l,m,h => by
   rw [List.cons_append]
   unfold j1k at h ⊢
   split
   ·rfl
   ·rename_i h1
    rw [if_neg h1] at h
    exact j8b n nf l m h
theorem j0i {w:World} {b:Nat} {t:TypeId} {v0 v1 v2 v3 v4:Value} (h:w.heap[b]? = some (.cells #[v0,v1,v2,v3,v4] t (0,0))):w.cell? ⟨b,0,none⟩ = some v0∧w.cell? ⟨b,1,none⟩ = some v1∧w.cell? ⟨b,2,none⟩ = some v2∧w.cell? ⟨b,3,none⟩ = some v3∧w.cell? ⟨b,4,none⟩ = some v4:=blk5 h
abbrev Hb.obj (b:Hb):Obj:=.cells #[.int .i64 b.t,.slice b.A b.l.length b.c,.slice b.Ak b.ks.length b.ck,.slice b.Ah b.hs.length b.ch,.slice b.Ad b.ds.length b.cd] 29 (0,0)
set_option maxRecDepth 100000 in
set_option maxHeartbeats 1000000 in
theorem k2e (b:Hb) (w:World) (hin:HbIn w b) :
 Calls Tryz.prog 17 #[b.v] w fun e w' => e = .returned (.int .i64 b.chk)∧Below w.heap.size w w':=by
 obtain ⟨V,hV⟩:∃ V,V = w.alloc b.obj:=⟨_,rfl⟩
 obtain ⟨g,hg⟩:∃ g,g = w.heap.size:=⟨_,rfl⟩
 have b0:V.heap[g]? = some b.obj:=by rw [hV,hg];exact j0c rfl
 have hBV:Below w.heap.size w V:=by rw [hV];exact bal0 w _
 have hiV:=hin.below hBV (zL9 _)
 obtain ⟨c0,c1,c2,c3,c4⟩:=j0i b0
 have hmk:=j6e b.t b.A b.l.length b.c b.l V hiV.m hiV.mc hiV.mm
 have HV:=zQ9 (zA9 hBV (zA9 b0 (zA9 hiV hg)))
 have hdm:b.ds.length ≤ maxLen:=Nat.le_trans hin.dc hin.dm
 unfold maxLen at hdm
 unfold Hb.v
 go_enter Tryz.func17,Tryz.ntmps17
 go_upto_region 1 with (fail)
 rw [← hV,← hg]
 clear hV hg hin hBV hiV b0
 obtain ⟨ck,hck⟩:∃ ck,ck = check b.t b.l:=⟨_,rfl⟩
 rw [← hck] at hmk
 by_cases h0:ck = 0
 ·subst h0
  have HCK:=zQ9 hck.symm
  clear hck
  go_upto_region 4 with (go_at_call 62;refine hmk.mono ?_;rintro e w2 ⟨rfl,hb2⟩)
  have x0:=j0f HV.out.2.1 hb2 (zL9 _)
  have hi2:=HV.out.2.2.1.below hb2 (zL9 _)
  have hB2:=HV.out.1.trans (hb2.mono HV.out.1.size)
  clear c0 c1 c2 c3 c4 hmk hb2
  obtain ⟨c0,c1,c2,c3,c4⟩:=j0i x0
  have H2:=zQ9 (zA9 hB2 (zA9 x0 hi2))
  clear x0 hi2 hB2
  have hbg:=k4c b w2
  unfold Hb.v at hbg
  go_upto_region 5 with (go_at_call 63;refine hbg.mono ?_;rintro e w3 ⟨p,rfl,hp,hpb,hb3⟩)
  have x0:=j0f H2.out.2.1 hb3 (zL9 _)
  have hi3:=H2.out.2.2.below hb3 (zL9 _)
  have hB3:=H2.out.1.trans (hb3.mono H2.out.1.size)
  have hfl:=k9o p b (-1) 0 0 w3 hpb hi3
  clear c0 c1 c2 c3 c4 hbg hb3 hp
  obtain ⟨c0,c1,c2,c3,c4⟩:=j0i x0
  have H3:=zQ9 (zA9 hB3 (zA9 x0 (zA9 hi3 hpb)))
  clear x0 hi3 hB3 hpb
  obtain ⟨fe,hfe⟩:∃ fe,fe = j1h b.l.length b.ks b.hs:=⟨_,rfl⟩
  rw [← hfe] at hfl
  by_cases hf0:fe = 0
  ·subst hf0
   have HFE:=zQ9 hfe.symm
   clear hfe
   have hchk:b.chk = if 6 < b.ds.length then 6 else j1k b.l.length b.ks.length b.ds:=by
    unfold Hb.chk j4f
    rw [if_neg (by rw [HCK.out];simp),if_neg (by rw [HFE.out];simp)]
   have HCH:=zQ9 hchk
   clear hchk
   by_cases h6:6 < b.ds.length
   ·have x6:decide (6 < (b.ds.length:Int)) = true:=by simp;omega
    have HL:=zQ9 h6
    clear h6
    go_wp2_with (go_at_call 64;refine hfl.mono ?_;rintro e w' ⟨rfl,rfl⟩)
    go_ret
    exact ⟨j0k (by rw [HCH.out,if_pos HL.out]),H3.out.1⟩
   ·have x6:decide (6 < (b.ds.length:Int)) = false:=by simp;omega
    have HL:=zQ9 h6
    clear h6
    obtain ⟨Ad,hAd⟩:∃ Ad,Ad = b.Ad:=⟨_,rfl⟩
    rw [← hAd] at c4
    have hG:=H3.out.2.2.1.d
    rw [← hAd] at hG
    obtain ⟨nd,hnd⟩:∃ nd,nd = b.ds.length:=⟨_,rfl⟩
    rw [← hnd] at c4 hG x6 hdm
    have HND:=zQ9 hnd
    have hg3:p < w3.heap.size:=j0a H3.out.2.2.2
    clear hAd hnd
    go_wp2_with (go_at_call 64;refine hfl.mono ?_;rintro e w' ⟨rfl,rfl⟩)
    go_loopg [29] nd (fun g v wr => ∃ k:Nat,k + g = nd∧v = .int .i64 k∧j1k b.l.length b.ks.length (b.ds.take k) = 0∧Below w3.heap.size w3 wr)
    case atStart => exact ⟨0,by omega,rfl,rfl,Below.refl _ _⟩
    case round =>
     obtain ⟨k,hk,rfl,hall,hBr⟩:=hrel
     have HK:=zQ9 (zA9 hk (zA9 hall hBr))
     by_cases hlt:k < nd
     ·obtain ⟨bi,oi,d,hA,hbi,hdk,d0,d1,d2,d3,d4,d5,d6,d7,d8,d9,d10,d11⟩:=Deeds.get (hG.below hBr (zL9 _)) hlt
      subst hA
      have HD:=zQ9 hdk
      have bz:(wr.alloc dZ).heap[wr.heap.size]? = some dZ:=j0c rfl
      clear hk hall hBr hbi hdk
      go_upto_region 13 with ((with_reducible apply j8a bz rfl);(rfl);(rfl);(rfl);(rfl);intro w5 b5 g5 z5)
      obtain ⟨gx,hgx⟩:∃ gx,gx = wr.heap.size:=⟨_,rfl⟩
      have hg5:wr.grownBy w5 none:=⟨g5.os,g5.tape,g5.output,by rw [z5];simp,fun j hj _ => (g5.block j (by simp;omega) (fun e => by cases e;omega)).trans (Below.heap_alloc _ _ _ hj)⟩
      have hB5:Below w3.heap.size w3 w5:=HK.out.2.2.trans ((Below.refl _ _).grown hg5 HK.out.2.2.size (fun k e => by cases e))
      have hcd:=k9f p b (-1) 0 0 d w5 (j0f H3.out.2.2.2 hB5 (zL9 _)) (H3.out.2.2.1.below hB5 (zL9 _)) HCK.out
      unfold dv at hcd
      obtain ⟨de,hde⟩:∃ de,de = j0u b.l.length b.ks.length d:=⟨_,rfl⟩
      rw [← hde] at hcd
      rw [← hgx] at b5 ⊢
      obtain ⟨y0,y1,y2,y3,y4,y5,y6,y7,y8,y9,y10,y11⟩:=blkD b5
      have H5:=zQ9 hB5
      clear hgx z5 g5 hg5 hB5 bz b5 d0 d1 d2 d3 d4 d5 d6 d7 d8 d9 d10 d11
      have htk:b.ds.take (k + 1) = b.ds.take k ++ [d]:=by rw [List.take_add_one,HD.out];rfl
      have HTK:=zQ9 htk
      clear htk
      by_cases hd0:de = 0
      ·subst hd0
       have HDE:=zQ9 hde.symm
       clear hde
       go_wp2_with (go_at_call 65;refine hcd.mono ?_;rintro e w6 ⟨rfl,hb6⟩)
       go_roundg (gk - 1)
       case measure => have:=HK.out.1;omega
       case rel => exact ⟨k + 1,by have:=HK.out.1;omega,by go_num,by rw [HTK.out,j3h _ _ _ _ HK.out.2.1];exact HDE.out,H5.out.trans (hb6.mono H5.out.size)⟩
      ·have xd:(de != 0) = true:=by simp [hd0]
       have HD0:=zQ9 (zA9 hd0 hde)
       clear hd0 hde
       go_wp2_with (go_at_call 65;refine hcd.mono ?_;rintro e w6 ⟨rfl,hb6⟩)
       go_ret
       refine ⟨j0k ?_,H3.out.1.trans ((H5.out.trans (hb6.mono H5.out.size)).mono H3.out.1.size)⟩
       rw [HCH.out,if_neg HL.out,← List.take_append_drop (k + 1) b.ds,j8b,HTK.out,j3h _ _ _ _ HK.out.2.1]
       ·exact HD0.out.2
       ·rw [HTK.out,j3h _ _ _ _ HK.out.2.1,← HD0.out.2];exact HD0.out.1
     ·obtain rfl:k = nd:=by omega
      have HE:=zQ9 (show b.chk = 0 by rw [HCH.out,if_neg HL.out];have:=HK.out.2.1;rw [HND.out,List.take_length] at this;exact this)
      have HB:=zQ9 (H3.out.1.trans (hBr.mono H3.out.1.size))
      clear hk hall hBr
      go_wp2_with fail
      go_ret
      exact ⟨j0k HE.out.symm,HB.out⟩
  ·have xf:(fe != 0) = true:=by simp [hf0]
   have HF0:=zQ9 (zA9 hf0 hfe)
   clear hf0 hfe
   go_wp2_with (go_at_call 64;refine hfl.mono ?_;rintro e w' ⟨rfl,rfl⟩)
   go_ret
   refine ⟨j0k ?_,H3.out.1⟩
   unfold Hb.chk j4f
   rw [if_neg (by rw [HCK.out];simp),← HF0.out.2,if_pos HF0.out.1]
 ·have xf:(ck != 0) = true:=by simp [h0]
  have HF0:=zQ9 (zA9 h0 hck)
  clear h0 hck
  go_wp2_with (go_at_call 62;refine hmk.mono ?_;rintro e w2 ⟨rfl,hb2⟩)
  go_ret
  refine ⟨j0k ?_,HV.out.1.trans (hb2.mono HV.out.1.size)⟩
  unfold Hb.chk j4f
  rw [← HF0.out.2,if_pos HF0.out.1]
def j3k (b:Hb) (ck:Int) (w:World) (e:Ending) (w':World):Prop:=(ck ≠ 0∧e = .returned (.tuple #[.pointer none,.int .i64 ck])∧Below w.heap.size w w') ∨
 (ck = 0∧∃ p,e = .returned (.tuple #[.pointer (some ⟨p,0,none⟩),.int .i64 0])∧Work w p b (-1) 0 w'∧Below w.heap.size w w')
set_option maxRecDepth 100000 in
set_option maxHeartbeats 1000000 in
theorem j6d (b:Hb) (w:World) (hin:HbIn w b) :
 Calls Tryz.prog 55 #[b.v] w (j3k b b.chk w):=by
 obtain ⟨V,hV⟩:∃ V,V = w.alloc b.obj:=⟨_,rfl⟩
 obtain ⟨g,hg⟩:∃ g,g = w.heap.size:=⟨_,rfl⟩
 have b0:V.heap[g]? = some b.obj:=by rw [hV,hg];exact j0c rfl
 have hBV:Below w.heap.size w V:=by rw [hV];exact bal0 w _
 have hiV:=hin.below hBV (zL9 _)
 obtain ⟨c0,c1,c2,c3,c4⟩:=j0i b0
 have hck:=k2e b V hiV
 unfold Hb.v at hck
 obtain ⟨ce,hce⟩:∃ ce,ce = b.chk:=⟨_,rfl⟩
 rw [← hce] at hck ⊢
 have HV:=zQ9 (zA9 hBV (zA9 b0 (zA9 hin (zA9 hg hce.symm))))
 unfold Hb.v
 go_enter Tryz.func55,Tryz.ntmps55
 go_upto_region 1 with (fail)
 rw [← hV,← hg]
 clear hV hg hin hBV hiV b0 hce
 by_cases h0:ce = 0
 ·subst h0
  go_upto_region 4 with (go_at_call 17;refine hck.mono ?_;rintro e w2 ⟨rfl,hb2⟩)
  have x0:=j0f HV.out.2.1 hb2 (zL9 _)
  have hB2:=HV.out.1.trans (hb2.mono HV.out.1.size)
  clear c0 c1 c2 c3 c4 hck hb2
  obtain ⟨c0,c1,c2,c3,c4⟩:=j0i x0
  have H2:=zQ9 hB2
  have hbg:=k4c b w2
  unfold Hb.v at hbg
  clear x0 hB2
  go_wp2_with (go_at_call 63;refine hbg.mono ?_;rintro e w3 ⟨p,rfl,hp,hpb,hb3⟩)
  go_ret2
  have hB3:=H2.out.trans (hb3.mono H2.out.size)
  exact .inr ⟨rfl,p,rfl,⟨HV.out.2.2.1,Nat.le_trans H2.out.size hp,hB3,⟨_,hpb⟩,HV.out.2.2.2.2⟩,hB3⟩
 ·have xf:(ce != 0) = true:=by simp [h0]
  have H0:=zQ9 h0
  clear h0
  go_wp2_with (go_at_call 17;refine hck.mono ?_;rintro e w2 ⟨rfl,hb2⟩)
  go_ret2
  exact .inl ⟨H0.out,rfl,HV.out.1.trans (hb2.mono HV.out.1.size)⟩
theorem j2c (n lo hi:Int) (w:World):Calls Tryz.prog 105 #[.int .i64 n,.int .i64 lo,.int .i64 hi] w fun e w' => e = .returned (.bool (btw n lo hi))∧w = w':=by
 go_enter Tryz.func105,Tryz.ntmps105
 by_cases h1:lo ≤ n
 ·by_cases h2:n ≤ hi
  ·have HB:=zQ9 (show btw n lo hi = true from j0n.2 ⟨h1,h2⟩)
   go_wp2_with fail
   go_ret
   exact ⟨j0o (by rw [HB.out]),rfl⟩
  ·have HB:=zQ9 (show btw n lo hi = false by rw [← Bool.not_eq_true,j0n];omega)
   go_wp2_with fail
   go_ret
   exact ⟨j0o (by rw [HB.out]),rfl⟩
 ·have HB:=zQ9 (show btw n lo hi = false by rw [← Bool.not_eq_true,j0n];omega)
  go_wp2_with fail
  go_ret
  exact ⟨j0o (by rw [HB.out]),rfl⟩
theorem j5e (t:Int) (A Ak Ah Ad:Option Addr) (n c nk ck nh ch nd cd:Nat) (x:Int) (w:World) (hn:n ≤ maxLen) :
 Calls Tryz.prog 60 #[.agg #[.int .i64 t,.slice A n c,.slice Ak nk ck,.slice Ah nh ch,.slice Ad nd cd],.int .i64 x] w fun e w' => e = .returned (.bool (ownB n x))∧Below w.heap.size w w':=by
 unfold maxLen at hn
 have HB:=zQ9 (bal0 w (Obj.cells #[.int .i64 t,.slice A n c,.slice Ak nk ck,.slice Ah nh ch,.slice Ad nd cd] 29))
 go_enter Tryz.func60,Tryz.ntmps60
 go_wp2_with (go_at_call 105;(with_reducible refine (j2c _ _ _ _).mono ?_);rintro e w' ⟨rfl,hw⟩;rw [← hw];clear hw w')
 go_ret
 exact ⟨rfl,HB.out⟩
theorem j9y (t:Int) (A Ak Ah Ad:Option Addr) (n c nk ck nh ch nd cd:Nat) (x:Int) (w:World) (hn:nk ≤ maxLen) :
 Calls Tryz.prog 86 #[.agg #[.int .i64 t,.slice A n c,.slice Ak nk ck,.slice Ah nh ch,.slice Ad nd cd],.int .i64 x] w fun e w' => e = .returned (.bool (ownB nk x))∧Below w.heap.size w w':=by
 unfold maxLen at hn
 have HB:=zQ9 (bal0 w (Obj.cells #[.int .i64 t,.slice A n c,.slice Ak nk ck,.slice Ah nh ch,.slice Ad nd cd] 29))
 go_enter Tryz.func86,Tryz.ntmps86
 go_wp2_with (go_at_call 105;(with_reducible refine (j2c _ _ _ _).mono ?_);rintro e w' ⟨rfl,hw⟩;rw [← hw];clear hw w')
 go_ret
 exact ⟨rfl,HB.out⟩
set_option maxRecDepth 100000 in
set_option maxHeartbeats 4000000 in
theorem k9w (d:De) (w:World):Calls Tryz.prog 110 #[dv d] w fun e w' => e = .returned (dv (namD d))∧Below w.heap.size w w':=by
 obtain ⟨kind,flock,ow,other,tof,many,err,s⟩:=d
 unfold dv
 go_enter Tryz.func110,Tryz.ntmps110
 go_upto_block 0 with (fail)
 obtain ⟨V,hV⟩:∃ V,V = ((w.alloc (dObj ⟨kind,flock,ow,other,tof,many,err,s⟩)).alloc dZ).alloc (dObj ⟨kind,flock,0,0,0,0,0,⟨0,false,false,0,0⟩⟩):=⟨_,rfl⟩
 obtain ⟨g,hg⟩:∃ g,g = w.heap.size:=⟨_,rfl⟩
 have b0:V.heap[g]? = some (dObj ⟨kind,flock,ow,other,tof,many,err,s⟩):=by rw [hV,hg];exact j0b (j0b (j0c rfl) _) _
 have b1:V.heap[g + 1]? = some dZ:=by rw [hV,hg];exact j0b (j0c (by simp)) _
 have b2:V.heap[g + 1 + 1]? = some (dObj ⟨kind,flock,0,0,0,0,0,⟨0,false,false,0,0⟩⟩):=by rw [hV,hg];exact j0c (by simp)
 have hBV:Below g w V:=by rw [hV,hg];exact bal (bal (bal0 w _) (zL9 _) _) (zL9 _) _
 rw [← hV,← hg]
 have HG:=zQ9 hg
 have HV:=zQ9 (zA9 hBV (zA9 b0 (zA9 b1 b2)))
 clear hV hg hBV b0 b1 b2
 go_cut [] from 11 to 49 (fun wx => wx.heap[g + 1]? = some dZ∧wx.heap[g + 1 + 1]? = some (dObj (namD ⟨kind,flock,ow,other,tof,many,err,s⟩))∧Below g w wx)
 case first =>
  obtain ⟨c0,c1,c2,c3,c4,c5,c6,c7,c8,c9,c10,c11⟩:=blkD HV.out.2.1
  obtain ⟨e0,e1,e2,e3,e4,e5,e6,e7,e8,e9,e10,e11⟩:=blkD HV.out.2.2.2
  have fr:=frz HV.out.2.2.2
  obtain ⟨f0,f1,f2,f3,f4,f5,f6,f7⟩:=zA9 (fr 2) (zA9 (fr 3) (zA9 (fr 4) (zA9 (fr 5) (zA9 (fr 6) (zA9 (fr 7) (zA9 (fr 8) (zA9 (fr 9) (zA9 (fr 10) (fr 11)))))))))
  have hl0:=j0a HV.out.2.1
  have hl2:=j0a HV.out.2.2.2
  clear fr
  obtain h | h | h | h | h | h:kind = 1 ∨ kind = 3 ∨ kind = 2 ∨ kind = 4 ∨ kind = 5 ∨ (kind ≠ 1∧kind ≠ 3∧kind ≠ 2∧kind ≠ 4∧kind ≠ 5):=by omega
  ·subst h;have HK0:=zQ9 (show (0:Int) = 0 from rfl)
   go_upto_region 6 with (fail)
   go_region
   all_goals
    go_wp2
    go_meet
    simp only [j3n]
    refine ⟨?_,?_,?_⟩
    ·repeat refine (Below.heap_setCell _ _ _ _ (by simp)).trans ?_
     exact HV.out.2.2.1
    ·first
      | exact (j0d (j0d (HV.out.2.2.2))).trans (by simp [namD,HK0.out])
    ·refine j1j ?_
     repeat refine Below.setCell ?_ (by first | omega | (dsimp;omega)) _
     exact HV.out.1
  ·subst h;have HK0:=zQ9 (show (0:Int) = 0 from rfl)
   go_upto_region 6 with (fail)
   go_region
   all_goals
    go_wp2
    go_meet
    simp only [j3n]
    refine ⟨?_,?_,?_⟩
    ·repeat refine (Below.heap_setCell _ _ _ _ (by simp)).trans ?_
     exact HV.out.2.2.1
    ·first
      | exact (j0d (j0d (HV.out.2.2.2))).trans (by simp [namD,HK0.out])
    ·refine j1j ?_
     repeat refine Below.setCell ?_ (by first | omega | (dsimp;omega)) _
     exact HV.out.1
  ·subst h;have HK0:=zQ9 (show (0:Int) = 0 from rfl)
   go_upto_region 8 with (fail)
   go_region
   all_goals
    go_wp2
    go_meet
    simp only [j3n]
    refine ⟨?_,?_,?_⟩
    ·repeat refine (Below.heap_setCell _ _ _ _ (by simp)).trans ?_
     exact HV.out.2.2.1
    ·first
      | exact (j0d (j0d (j0d (HV.out.2.2.2)))).trans (by simp [namD,HK0.out])
    ·refine j1j ?_
     repeat refine Below.setCell ?_ (by first | omega | (dsimp;omega)) _
     exact HV.out.1
  ·subst h;have HK0:=zQ9 (show (0:Int) = 0 from rfl)
   go_upto_region 10 with (fail)
   skip
   all_goals
    go_wp2
    go_meet
    skip
    refine ⟨?_,?_,?_⟩
    ·repeat refine (Below.heap_setCell _ _ _ _ (by simp)).trans ?_
     exact HV.out.2.2.1
    ·first
      | exact (j0d (HV.out.2.2.2)).trans (by simp [namD,HK0.out])
    ·skip
     repeat refine Below.setCell ?_ (by first | omega | (dsimp;omega)) _
     exact HV.out.1
  ·subst h;have HK0:=zQ9 (show (0:Int) = 0 from rfl)
   go_upto_region 12 with (fail)
   go_region
   all_goals
    go_wp2
    go_meet
    simp only [j3n]
    refine ⟨?_,?_,?_⟩
    ·repeat refine (Below.heap_setCell _ _ _ _ (by simp)).trans ?_
     exact HV.out.2.2.1
    ·first
      | exact (j0d (j0d (j0d (j0d (j0d (j0d (HV.out.2.2.2))))))).trans (by simp [namD,HK0.out])
    ·refine j1j ?_
     repeat refine Below.setCell ?_ (by first | omega | (dsimp;omega)) _
     exact HV.out.1
  ·have HK0:=zQ9 (show (kind = 1) = False∧(kind = 3) = False∧(kind = 2) = False∧(kind = 4) = False∧(kind = 5) = False from ⟨by simp [h.1],by simp [h.2.1],by simp [h.2.2.1],by simp [h.2.2.2.1],by simp [h.2.2.2.2]⟩)
   have k1:(kind == 1) = false:=beq_eq_false_iff_ne.2 h.1
   have k3:(kind == 3) = false:=beq_eq_false_iff_ne.2 h.2.1
   have k2:(kind == 2) = false:=beq_eq_false_iff_ne.2 h.2.2.1
   have k4:(kind == 4) = false:=beq_eq_false_iff_ne.2 h.2.2.2.1
   have k5:(kind == 5) = false:=beq_eq_false_iff_ne.2 h.2.2.2.2
   clear h
   go_upto_region 3 with (fail)
   go_region
   all_goals
    go_wp2
    go_meet
    simp only [j3n]
    refine ⟨?_,?_,?_⟩
    ·repeat refine (Below.heap_setCell _ _ _ _ (by simp)).trans ?_
     exact HV.out.2.2.1
    ·first
      | exact (j0d (j0d (HV.out.2.2.2))).trans (by simp [namD,HK0.out])
    ·refine j1j ?_
     repeat refine Below.setCell ?_ (by first | omega | (dsimp;omega)) _
     exact HV.out.1
 case rest =>
  obtain ⟨b1,b2,hBc⟩:=hcut
  obtain ⟨D,hD⟩:∃ D,D = namD ⟨kind,flock,ow,other,tof,many,err,s⟩:=⟨_,rfl⟩
  rw [← hD] at b2
  have HD:=zQ9 hD
  clear hD
  obtain ⟨y0,y1,y2,y3,y4,y5,y6,y7,y8,y9,y10,y11⟩:=blkD b2
  have hl1:=j0a b1
  go_wp2_with ((with_reducible apply j8a b1 rfl);(rfl);(rfl);(rfl);(rfl);intro w5 b5 g5 z5)
  have hB5:Below g w w5:=hBc.grown g5 (by omega) (fun k e => by cases e;omega)
  have HZ:=zQ9 hB5
  obtain ⟨r0,r1,r2,r3,r4,r5,r6,r7,r8,r9,r10,r11⟩:=blkD b5
  clear y0 y1 y2 y3 y4 y5 y6 y7 y8 y9 y10 y11 b1 b2 b5 hBc g5 z5 hB5
  exact bodyPost_ret (v:=dv D) (by simp [results,Tryz.f110,go_sem,r0,r1,r2,r3,r4,r5,r6,r7,r8,r9,r10,r11,dv]) rfl ⟨by rw [HD.out];rfl,by rw [← HG.out];exact HZ.out⟩
end Go.Proofs.YtmennjmjakdkcaaGreat
