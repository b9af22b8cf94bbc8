/- HerdHas. -/
import Derived.Test.YtmennjmjakdkcaaGreatHs30
set_option linter.unusedVariables false
set_option linter.unusedSimpArgs false
set_option maxRecDepth 100000
set_option maxHeartbeats 8000000
namespace Go.Proofs.YtmennjmjakdkcaaGreat
open Go.RowKit
def GR9 (V:World) (b:Hb) (p:Nat) (w:World):Prop:=w.heap[p]?=some b.obj∧w.heap[p+1]?=some (rnO 0 0)∧Below p V w∧HbIn w b
theorem GR9.step {V w w':World} {b:Hb} {p:Nat} (h:GR9 V b p w) (hb:Below w.heap.size w w'):GR9 V b p w':=⟨j0e h.1 hb (zL9 _),j0e h.2.1 hb (zL9 _),h.2.2.1.trans (hb.mono (by have:=j0a h.1;omega)),h.2.2.2.below hb (zL9 _)⟩
theorem q2s (b:Hb) (o:Int) (w:World) (hin:HbIn w b):Calls Tryz.prog 43 #[b.v,.int .i64 o] w (GoneR b o w):=by
 obtain⟨V,hV⟩:∃ V,V=(w.alloc b.obj).alloc (rnO 0 0):=⟨_,rfl⟩
 obtain⟨p,hp⟩:∃ p,p=w.heap.size:=⟨_,rfl⟩
 have HB:=zQ9 (show GR9 w b p V by rw[hV,hp];exact⟨j0b (j0c rfl) _,j0c (by simp),bal (bal0 _ _) (zL9 _) _,hin.below (bal (bal0 _ _) (zL9 _) _) (zL9 _)⟩)
 obtain⟨c0,c1,c2,c3,c4⟩:=j0h HB.out.1
 have hlp:=j0a HB.out.1
 have hck:=k3t b V HB.out.2.2.2
 obtain⟨ce,hce⟩:∃ ce,ce=b.chk:=⟨_,rfl⟩
 rw[←hce] at hck
 obtain⟨ob,hob⟩:∃ ob,ob=ownB b.l.length o:=⟨_,rfl⟩
 have hio:∀ W,Calls Tryz.prog 60 #[.agg #[.int .i64 b.t,.slice b.A b.l.length b.c,.slice b.Ak b.ks.length b.ck,.slice b.Ah b.hs.length b.ch,.slice b.Ad b.ds.length b.cd],.int .i64 o] W fun e w'=>e=.returned (.bool ob)∧Below W.heap.size W w':=fun W=>by rw[hob];exact j5r _ _ _ _ _ _ _ _ _ _ _ _ _ _ W (Nat.le_trans hin.mc hin.mm)
 have HCE:=zQ9 (zA9 hce (zA9 hob hp))
 unfold Hb.v at hck ⊢
 clear hin hce hob
 go_enter Tryz.func43,Tryz.ntmps43
 go_upto_region 1 with (fail)
 rw[show(w.alloc (Obj.cells #[Value.int .i64 b.t,b.vm,b.vk,b.vh,b.vd] 29)).alloc (Obj.cells #[Value.int .i64 0,.int .i64 0] 72)=V from hV.symm,←hp]
 clear hV hp
 have fin:∀ (W:World) (e:Int) (x:Rn),GR9 w b p W→j1x b o=e→j2y b o=x→∀ Z,Z=((W.setCell ⟨p+1,0,none⟩ (.int .i64 x.lo)).setCell ⟨p+1,1,none⟩ (.int .i64 x.hi)) →
  Z.heap[p+1]?=some (rnO x.lo x.hi)∧GoneR b o w (.returned (.tuple #[.agg #[.int .i64 x.lo,.int .i64 x.hi],.int .i64 e])) Z:=fun W e x hS he hx Z hZ=>by
  have hgr:W.grownBy Z (some (p+1)):=by rw[hZ];exact(j0i _ _ _ _).trans (j0i _ _ _ _)
  refine⟨by rw[hZ];exact(j0d (j0d hS.2.1)).trans (by simp),?_⟩
  refine k0c he hx ?_
  rw[←HCE.out.2.2]
  exact hS.2.2.1.grown hgr (by have:=j0a hS.1;omega) (fun k e=>by cases e;omega)
 have HF:=zQ9 fin
 clear fin
 by_cases h0:ce=0
 ·subst h0
  have hok:=j3a HCE.out.1.symm
  go_upto_region 4 with (go_at_call 18;(with_reducible refine hck.mono ?_);rintro e w1 ⟨rfl,hb1⟩;replace HB:=zQ9 (HB.out.step hb1);clear hb1 c0 c1 c2 c3 c4 hlp)
  clear hck
  obtain⟨c0,c1,c2,c3,c4⟩:=j0h HB.out.1
  have hlp:=j0a HB.out.1
  cases ob
  ·go_upto_region 5 with (go_at_call 60;(with_reducible refine(hio _).mono ?_);rintro e w2 ⟨rfl,hb2⟩;replace HB:=zQ9 (HB.out.step hb2);clear hb2 c0 c1 c2 c3 c4 hlp)
   obtain⟨z0,z1⟩:=blk2 HB.out.2.1
   obtain⟨f0,f1⟩:=zA9 (frz HB.out.2.1 0) (frz HB.out.2.1 1)
   have hl1:=j0a HB.out.2.1
   clear hio hok
   go_wp2_with fail
   obtain⟨Z,hZ⟩:∃ Z,Z=((w2.setCell ⟨p+1,0,none⟩ (.int .i64 0)).setCell ⟨p+1,1,none⟩ (.int .i64 0)):=⟨_,rfl⟩
   rw[←hZ]
   have hs:sumE b o=3:=by unfold sumE;rw[if_neg (by rw[←HCE.out.1];simp),if_pos HCE.out.2.1.symm]
   have he:j1x b o=3:=by unfold j1x;rw[hs];rfl
   obtain⟨bZ,hR⟩:=HF.out w2 3 ⟨0,0⟩ HB.out he (by unfold j2y;rw[he,if_neg (by decide)]) Z hZ
   obtain⟨q0,q1⟩:=blk2 bZ
   clear hZ z0 z1 f0 f1
   exact bodyPost_ret (v:=.tuple #[.agg #[.int .i64 0,.int .i64 0],.int .i64 3]) (by simp[results,Tryz.f43,go_sem,q0,q1]) rfl hR
  ·obtain⟨ho0,ho1⟩:=j1i.1 HCE.out.2.1.symm
   obtain⟨k,rfl⟩:=Int.eq_ofNat_of_zero_le ho0
   have hs:sumE b k=0:=by unfold sumE;rw[if_neg (by rw[←HCE.out.1];simp),if_neg (by rw[←HCE.out.2.1];simp)]
   have hkl:k<b.l.length:=by omega
   go_upto_region 6 with (go_at_call 60;(with_reducible refine(hio _).mono ?_);rintro e w2 ⟨rfl,hb2⟩;replace HB:=zQ9 (HB.out.step hb2);clear hb2 c0 c1 c2 c3 c4 hlp)
   clear hio
   obtain⟨c0,c1,c2,c3,c4⟩:=j0h HB.out.1
   have hlp:=j0a HB.out.1
   by_cases ha:askE b=0
   ·have hck:=j6q b w2 HB.out.2.2.2 ha
    have hsh:=eg_sh hok
    have hl4:=k1w hok
    have hne:b.ends (-1) 0≠[]:=fun h=>by rw[j5e HCE.out.1.symm h] at ha;cases ha
    have he:j1x b k=0:=by unfold j1x;rw[hs,if_neg (by decide),if_neg hne]
    have hres:j2y b k=rnOf (fun g=>hasS (sumS b.hs k b.ds)-j1m k g) b.eg:=by
     unfold j2y
     rw[if_pos he]
     exact(j9v hok fun g hg=>by unfold j1m;rw[k3j (by rw[hg.l];exact hok.f3) (by have:=hok.n5;omega)];rfl).symm
    have hsm:=fun W (h:HbIn W b)=>sum9_any b hok k hkl W h
    have hf0:0≤j0s (j0j b.hs) k∧j0s (j0j b.hs) k≤3000:=by
     have hfb:HBd 20 (j0j b.hs):=j5h hok.rb
     have hk5:k<5:=by have:=hok.n5;omega
     have h0:=hfb.get (show 0<3 by decide) hk5
     have h1:=hfb.get (show 1<3 by decide) hk5
     have h2:=hfb.get (show 2<3 by decide) hk5
     unfold j0s;omega
    have hsb:=j9n (ds:=b.ds) hf0 (fun d hd=>by have:=(hok.dI d hd).m;omega) b.ds.length (zL9 _)
    rw[List.take_length] at hsb
    obtain⟨x,hx⟩:∃ x,x=sumS b.hs k b.ds:=⟨_,rfl⟩
    simp only[←hx] at hsm hsb hres
    obtain⟨E,hE⟩:∃ E,E=b.eg:=⟨_,rfl⟩
    rw[←hE] at hck hsh hres hl4
    have hd6:=hok.d6
    have hn5:=hok.n5
    have hf3:=hok.f3
    unfold Hb.v at hck hsm
    unfold smV at hsm
    have HX:=zQ9 (zA9 hsh (zA9 hres (zA9 he hsm)))
    obtain⟨⟨m0,m0'⟩,⟨m1,m1'⟩,⟨m2,m2'⟩,⟨m3,m3'⟩,⟨m4,m4'⟩⟩:=hsb
    clear hok hsh hres he hsm hx hE hf0 hne ha ho0 ho1 hs
    go_upto_region 9 with (go_at_call 88;(with_reducible refine hck.mono ?_);rintro e w3 ⟨⟨v,rfl,hG⟩,hb3⟩;have H3:=zQ9 hG;replace HB:=zQ9 (HB.out.step hb3);clear hG hb3 c0 c1 c2 c3 c4 hlp)
    clear hck
    obtain⟨A,c,rfl,hAc,hcm⟩:=H3.out.form
    obtain⟨c0,c1,c2,c3,c4⟩:=j0h HB.out.1
    have hlp:=j0a HB.out.1
    have hsm:=HX.out.2.2.2 w3 HB.out.2.2.2
    go_upto_region 10 with (go_at_call 61;(with_reducible refine hsm.mono ?_);rintro e w4 ⟨rfl,hb4⟩;have H4:=zQ9 hb4;replace HB:=zQ9 (HB.out.step hb4);clear hb4 c0 c1 c2 c3 c4 hlp)
    clear hsm
    obtain⟨s,hsq⟩:∃ s,s=w4.heap.size:=⟨_,rfl⟩
    obtain⟨w5,hw5⟩:∃ w5,w5=w4.alloc (Obj.cells #[.int .i64 x.first,.int .i64 x.born,.int .i64 x.bought,.int .i64 x.sold,.int .i64 x.eaten] 46):=⟨_,rfl⟩
    rw[←hw5,←hsq]
    have bs5:w5.heap[s]?=some (smO x.first x.born x.bought x.sold x.eaten):=by rw[hw5,hsq];exact j0c rfl
    have hb5:Below w3.heap.size w3 w5:=by rw[hw5];exact bal H4.out (zL9 _) _
    have hB5:=HB.out.step (show Below w4.heap.size w4 w5 by rw[hw5];exact bal0 w4 _)
    obtain⟨q,hq⟩:∃ q,q=w5.heap.size:=⟨_,rfl⟩
    obtain⟨w6,hw6⟩:∃ w6,w6=w5.alloc (Obj.cells #[.int .i64 0,.int .i64 0] 72):=⟨_,rfl⟩
    have bq6:w6.heap[q]?=some (rnO 0 0):=by rw[hw6,hq];exact j0c rfl
    have hb6:Below w5.heap.size w5 w6:=by rw[hw6];exact bal0 w5 _
    have hqz:w5.heap.size≤q:=Nat.le_of_eq hq.symm
    have H6:=zQ9 (zA9 bs5 (zA9 hb5 (zA9 bq6 (zA9 hb6 hB5))))
    clear hw5 hsq bs5 hb5 hB5
    go_upto_region 12 with (fail)
    rw[←hw6,←hq]
    clear hw6 hq bq6 hb6
    go_loopg [11] E.length (fun gh v11 wr=>∃ i:Nat,i+gh=E.length∧v11=.int .i64 i∧wr.heap[q]?=some (rnO (rnOf (fun g=>hasS x-j1m k g) (E.take i)).lo (rnOf (fun g=>hasS x-j1m k g) (E.take i)).hi)∧Below w5.heap.size w5 wr)
    case atStart=>exact⟨0,by omega,rfl,H6.out.2.2.1,H6.out.2.2.2.1⟩
    case round =>
     obtain⟨i,hi,rfl,bq,hb⟩:=hrel
     obtain⟨w7,hw7⟩:∃ W:World,W=wr:=⟨_,rfl⟩
     rw[←hw7] at bq hb ⊢
     clear hw7
     obtain⟨r0,hr0⟩:∃ r0,r0=rnOf (fun g=>hasS x-j1m k g) (E.take i):=⟨_,rfl⟩
     rw[←hr0] at bq
     by_cases hli:i<E.length
     ·obtain⟨bE,oE,cap,Ag,cg,gi,eE,-,-,hgi,y0,hcg,hcgm,hgz⟩:=H3.out.get2 hli
      cases eE
      have hb37:Below w3.heap.size w3 w7:=H6.out.2.1.trans (hb.mono H6.out.2.1.size)
      have y0:=j2k y0 hb37 (zL9 _)
      obtain⟨sg,bg⟩:=HX.out.1 gi (List.mem_of_getElem? hgi)
      obtain⟨y,hy⟩:∃ y,y=j1m k gi:=⟨_,rfl⟩
      have hyb:-100000≤y∧y≤100000:=by
       have hsb:=j8k (B:=260) (by decide) (l:=gi.map fun r=>r.getD k 0) fun z hz=>by
        obtain⟨r,hr,rfl⟩:=List.mem_map.1 hz
        have hrl:=sg.r r hr
        exact bg r hr _ (by rw[List.getD_eq_getElem?_getD,List.getElem?_eq_getElem (show k<r.length by omega)];exact List.getElem_mem _)
       rw[List.length_map,sg.l] at hsb
       rw[hy]
       unfold j1m
       omega
      obtain⟨fb,hfb⟩:∃ fb,fb=decide (i=0):=⟨_,rfl⟩
      have e1:((i:Int)==0)=fb:=by
       rw[hfb]
       by_cases h:i=0
       ·simp[h]
       ·rw[decide_eq_false h];exact beq_eq_false_iff_ne.2 (by omega)
      obtain⟨T,hT⟩:∃ T,T=x.first+x.born+x.bought-x.sold-x.eaten:=⟨_,rfl⟩
      have hst:=j8v (φ:=fun g=>hasS x-j1m k g) hgi
      rw[←hr0,←hfb] at hst
      have hst:widR r0.lo r0.hi (T-y) fb=rnOf (fun g=>hasS x-j1m k g) (E.take (i+1)):=by rw[hT,hy];exact hst
      have cO:∀ d' os,Calls Tryz.prog 100 #[.slice Ag b.ks.length cg,.int .i64 k] (Sort.grow (redrawn w7 d') os) (fun e w''=>e=.returned (.int .i64 y)∧∃ p:Regrown,w''=Sort.grow (redrawn w7 p.d) p.os):=fun d' os=>by
       have hw:Below w3.heap.size w3 (Sort.grow (redrawn w7 d') os):=hb37.trans ((below_regrown w7 d' os).mono hb37.size)
       have:=k4r Ag b.ks.length cg b.l.length k gi _ (hgz _ hw) (by omega) sg.r hkl (fun r hr y hy=>by have:=bg r hr y hy;omega)
       rw[hy]
       exact Calls.regrown_of (this.mono fun e w' ⟨h1,h2⟩=>⟨h1,h2 ▸ Below.refl _ _⟩)
      have cW:∀ (a c y:Int) (q:Bool) d' os,Calls Tryz.prog 90 #[.agg #[.int .i64 a,.int .i64 c],.int .i64 y,.bool q] (Sort.grow (redrawn w7 d') os) (fun e w''=>e=.returned (.agg #[.int .i64 (widR a c y q).lo,.int .i64 (widR a c y q).hi])∧∃ p:Regrown,w''=Sort.grow (redrawn w7 p.d) p.os):=fun a c y q d' os =>
       Calls.regrown_of (j7o a c y q _)
      have HC:=zQ9 (zA9 cO cW)
      obtain⟨s0,s1,s2,s3,s4⟩:=j0h (j0e H6.out.1 hb (zL9 _))
      obtain⟨z0,z1⟩:=blk2 bq
      have hls:=j0a (j0e H6.out.1 hb (zL9 _))
      have hlq:=j0a bq
      have k0:=cell_regrown y0
      have k1:=zA9 (cell_regrown z0) (cell_regrown z1)
      have k2:=zA9 (cell_regrown s0) (zA9 (cell_regrown s1) (zA9 (cell_regrown s2) (zA9 (cell_regrown s3) (cell_regrown s4))))
      have hbE:=j2b y0
      have i2:(i:Int)<(E.length:Int):=by omega
      have HI:=zQ9 (zA9 hi (zA9 bq (zA9 hb (zA9 hst hT))))
      clear hi bq hb hst cO cW hy hfb hr0 hgi hgz sg bg y0 z0 z1 hb37 s0 s1 s2 s3 s4 hT
      have e2:IntKind.i64.wrap (x.first+x.born)=x.first+x.born:=IntWalk.i64_in _ (by omega)
      have e3:IntKind.i64.wrap (x.first+x.born+x.bought)=x.first+x.born+x.bought:=IntWalk.i64_in _ (by clear e2;omega)
      have e4:IntKind.i64.wrap (x.first+x.born+x.bought-x.sold)=x.first+x.born+x.bought-x.sold:=IntWalk.i64_in _ (by clear e2 e3;omega)
      have e5:IntKind.i64.wrap (x.first+x.born+x.bought-x.sold-x.eaten)=x.first+x.born+x.bought-x.sold-x.eaten:=IntWalk.i64_in _ (by clear e2 e3 e4;omega)
      have e6:IntKind.i64.wrap (x.first+x.born+x.bought-x.sold-x.eaten-y)=x.first+x.born+x.bought-x.sold-x.eaten-y:=IntWalk.i64_in _ (by clear e2 e3 e4 e5;omega)
      go_upto_region 14 with (fail)
      refine j1q 25 (by kernel_rfl) (by kernel_rfl) ?_
      simp only[List.take_succ_cons,List.take_zero,List.drop_succ_cons,List.drop_zero]
      repeat (quiet_step (first|exact HC.out.1 _ _|exact HC.out.2 _ _ _ _ _ _))
      refine wpQuiet_nil ?_
      intro _ hw'
      obtain⟨⟨dq,osq⟩,hw''⟩:=hw'
      subst hw''
      obtain⟨w8,hW8⟩:∃ w8,w8=Sort.grow (redrawn w7 dq) osq:=⟨_,rfl⟩
      have hb8:Below w7.heap.size w7 w8:=by rw[hW8];exact below_regrown w7 dq osq
      rw[←hW8]
      have bq8:=j0e HI.out.2.1 hb8 (zL9 _)
      have hB8:Below w5.heap.size w5 w8:=HI.out.2.2.1.trans (hb8.mono HI.out.2.2.1.size)
      obtain⟨z0,z1⟩:=blk2 bq8
      obtain⟨f0,f1⟩:=zA9 (frz bq8 0) (frz bq8 1)
      have hlq8:=j0a bq8
      have H8:=zQ9 (zA9 bq8 hB8)
      clear hW8 hb8 bq8 hB8 k0 k1 k2
      clear e2 e3 e4 e5 e6
      rw[←HI.out.2.2.2.2]
      rw[HI.out.2.2.2.1]
      obtain⟨r1,hr1⟩:∃ r1,r1=rnOf (fun g=>hasS x-j1m k g) (E.take (i+1)):=⟨_,rfl⟩
      rw[←hr1]
      have HR1:=zQ9 hr1
      clear hr1
      go_wp2_with fail
      go_roundg (gk-1)
      case measure=>have:=HI.out.1;omega
      case rel =>
       refine⟨i+1,by have:=HI.out.1;omega,by go_num,?_,Below.setCell (Below.setCell H8.out.2 (p:=⟨q,0,none⟩) hqz _) (p:=⟨q,1,none⟩) hqz _⟩
       rw[←HR1.out]
       exact(j0d (j0d H8.out.1)).trans (by simp)
     ·obtain rfl:i=E.length:=by omega
      rw[List.take_length] at hr0
      have hBB:=H6.out.2.2.2.2.step hb
      obtain⟨z0,z1⟩:=blk2 bq
      obtain⟨u0,u1⟩:=blk2 hBB.2.1
      obtain⟨f0,f1⟩:=zA9 (frz hBB.2.1 0) (frz hBB.2.1 1)
      have hlq:=j0a bq
      have hlr:=j0a hBB.2.1
      have HI:=zQ9 (zA9 hBB (show j2y b k=r0 by rw[HX.out.2.1,hr0]))
      clear bq hb hi hBB hr0
      go_wp2_with fail
      obtain⟨Z,hZ⟩:∃ Z,Z=((w7.setCell ⟨p+1,0,none⟩ (.int .i64 r0.lo)).setCell ⟨p+1,1,none⟩ (.int .i64 r0.hi)):=⟨_,rfl⟩
      rw[←hZ]
      obtain⟨bZ,hR⟩:=HF.out w7 0 r0 HI.out.1 HX.out.2.2.1 HI.out.2 Z hZ
      obtain⟨q0,q1⟩:=blk2 bZ
      clear hZ z0 z1 u0 u1 f0 f1
      exact bodyPost_ret (v:=.tuple #[.agg #[.int .i64 r0.lo,.int .i64 r0.hi],.int .i64 0]) (by simp[results,Tryz.f43,go_sem,q0,q1]) rfl hR
   ·have hck:=j6p b w2 HB.out.2.2.2 ha
    have h11:askE b=11:=by
     by_cases h:b.ends (-1) 0=[]
     ·exact j5e HCE.out.1.symm h
     ·exact absurd (j6a HCE.out.1.symm h) ha
    have hnil:b.ends (-1) 0=[]:=by
     by_cases h:b.ends (-1) 0=[]
     ·exact h
     ·exact absurd (j6a HCE.out.1.symm h) ha
    rw[h11] at hck
    have he:j1x b k=11:=by unfold j1x;rw[hs,if_neg (by decide),if_pos hnil]
    have HE:=zQ9 he
    unfold Hb.v at hck
    clear hok ha h11 hnil he hs ho0 ho1
    go_upto_region 8 with (go_at_call 88;(with_reducible refine hck.mono ?_);rintro e w3 ⟨rfl,hb3⟩;replace HB:=zQ9 (HB.out.step hb3);clear hb3 c0 c1 c2 c3 c4 hlp)
    obtain⟨z0,z1⟩:=blk2 HB.out.2.1
    obtain⟨f0,f1⟩:=zA9 (frz HB.out.2.1 0) (frz HB.out.2.1 1)
    have hl1:=j0a HB.out.2.1
    go_wp2_with fail
    obtain⟨Z,hZ⟩:∃ Z,Z=((w3.setCell ⟨p+1,0,none⟩ (.int .i64 0)).setCell ⟨p+1,1,none⟩ (.int .i64 0)):=⟨_,rfl⟩
    rw[←hZ]
    obtain⟨bZ,hR⟩:=HF.out w3 11 ⟨0,0⟩ HB.out HE.out (by unfold j2y;rw[HE.out,if_neg (by decide)]) Z hZ
    obtain⟨q0,q1⟩:=blk2 bZ
    clear hZ z0 z1 f0 f1
    exact bodyPost_ret (v:=.tuple #[.agg #[.int .i64 0,.int .i64 0],.int .i64 11]) (by simp[results,Tryz.f43,go_sem,q0,q1]) rfl hR
 ·have x1:(ce != 0)=true:=by simp[h0]
  have H0:=zQ9 h0
  clear h0 hio
  go_upto_region 3 with (go_at_call 18;(with_reducible refine hck.mono ?_);rintro e w1 ⟨rfl,hb1⟩;replace HB:=zQ9 (HB.out.step hb1);clear hb1 c0 c1 c2 c3 c4 hlp)
  obtain⟨z0,z1⟩:=blk2 HB.out.2.1
  obtain⟨f0,f1⟩:=zA9 (frz HB.out.2.1 0) (frz HB.out.2.1 1)
  have hl1:=j0a HB.out.2.1
  clear hck
  go_wp2_with fail
  obtain⟨Z,hZ⟩:∃ Z,Z=((w1.setCell ⟨p+1,0,none⟩ (.int .i64 0)).setCell ⟨p+1,1,none⟩ (.int .i64 0)):=⟨_,rfl⟩
  rw[←hZ]
  have hs:sumE b o=ce:=by unfold sumE;rw[←HCE.out.1,if_pos H0.out]
  have he:j1x b o=ce:=by unfold j1x;rw[hs,if_pos H0.out]
  obtain⟨bZ,hR⟩:=HF.out w1 ce ⟨0,0⟩ HB.out he (by unfold j2y;rw[he,if_neg H0.out]) Z hZ
  obtain⟨q0,q1⟩:=blk2 bZ
  clear hZ z0 z1 f0 f1
  exact bodyPost_ret (v:=.tuple #[.agg #[.int .i64 0,.int .i64 0],.int .i64 ce]) (by simp[results,Tryz.f43,go_sem,q0,q1]) rfl hR
end Go.Proofs.YtmennjmjakdkcaaGreat
namespace Go.Proofs.YtmennjmjakdkcaaGreat
open Go.RowKit Go.MapKept
def eGf (x:Gf):List Value:=[.int .i64 x.f,.int .i64 x.o,.int .i64 x.r.lo,.int .i64 x.r.hi]
theorem lenGf (x:Gf):(eGf x).length=4:=rfl
theorem q0x (x:Gf):∀ u∈eGf x,u.oneCell'=true:=by intro u hu;simp[eGf] at hu;rcases hu with rfl|rfl|rfl|rfl<;>rfl
theorem okGf:ElemOk Tryz.prog 80 151 4 32:=ElemOk.mk' (z:=.agg #[.int .i64 0,.int .i64 0,.int .i64 0,.int .i64 0]) Tryz.underlying80 (by kernel_rfl) rfl (by decide)
abbrev OwnGf (w:World) (base:Nat) (v:Value) (l:List Gf):Prop:=Own eGf 151 4 w base v l
theorem Rns.get {w:World} {A:Option Addr} {n:Nat} {l:List Rn} (h:Sl eRn 2 w A n l) {k:Nat} (hk:k<n) :
 ∃ b off m,A=some ⟨b,off,none⟩∧b<w.heap.size∧l[k]?=some m∧w.cell? ⟨b,off+k*2,none⟩=some (.int .i64 m.lo)∧w.cell? ⟨b,off+k*2+1,none⟩=some (.int .i64 m.hi):=by
 obtain⟨b,off,x,hA,hx,hc⟩:=h.at_ hk
 have h0:=hc 0 _ rfl
 exact⟨b,off,x,hA,j2b h0,hx,h0,hc 1 _ rfl⟩
def rowG (k:Int) (f:Nat) (row:List Rn) (j:Nat):List Gf:=((List.range j).filter fun(o:Nat)=>decide ((o:Int)≠k)&&decide (0<(row.getD o ⟨0,0⟩).hi)).map fun(o:Nat)=>⟨(f:Int),(o:Int),row.getD o ⟨0,0⟩⟩
theorem k6v {k:Int} {f:Nat} {row:List Rn} {j:Nat} {r:Rn} (h:row[j]?=some r):rowG k f row (j+1)=rowG k f row j++if (decide ((j:Int)≠k)&&decide (0<r.hi))=true then [⟨(f:Int),(j:Int),r⟩] else []:=by
 unfold rowG
 rw[List.range_succ,List.filter_append,List.map_append]
 have e:row.getD j ⟨0,0⟩=r:=by rw[List.getD_eq_getElem?_getD,h];rfl
 congr 1
 simp only[List.filter_cons,List.filter_nil,e]
 split
 ·simp only[List.map_cons,List.map_nil,e]
 ·rfl
theorem k3n (k:Int) (f:Nat) (row:List Rn) (j:Nat):(rowG k f row j).length≤j:=by
 unfold rowG
 rw[List.length_map]
 have:=List.length_filter_le (fun(o:Nat)=>decide ((o:Int)≠k)&&decide (0<(row.getD o ⟨0,0⟩).hi)) (List.range j)
 simpa using this
def j1y (ks:List Int) (T:List (List Rn)) (k:Nat):List Gf:=(List.range k).flatMap fun f=>k3d (ks.getD f 0) f (T.getD f [])
theorem k1d {ks:List Int} {T:List (List Rn)} {k:Nat} {row:List Rn} {x:Int} (h:T[k]?=some row) (hx:ks[k]?=some x):j1y ks T (k+1)=j1y ks T k++rowG x k row row.length:=by
 unfold j1y
 rw[List.range_succ,List.flatMap_append]
 congr 1
 rw[List.flatMap_singleton,List.getD_eq_getElem?_getD,hx,List.getD_eq_getElem?_getD,h]
 rfl
theorem j9b {ks:List Int} {T:List (List Rn)} (h:∀ r∈T,r.length≤5):∀ k,k≤T.length→(j1y ks T k).length≤5*k
 | 0,_=>by simp[j1y]
 | k+1,hk=>by
   have ih:=j9b (ks:=ks) h k (by omega)
   unfold j1y at ih ⊢
   rw[List.range_succ,List.flatMap_append,List.length_append,List.flatMap_singleton]
   have h1:(T.getD k []).length≤5:=by
    rw[List.getD_eq_getElem?_getD]
    cases e:T[k]? with
    | none=>simp
    | some r=>exact h r (List.mem_of_getElem? e)
   have h2:=k3n (ks.getD k 0) k (T.getD k []) (T.getD k []).length
   have e:k3d (ks.getD k 0) k (T.getD k [])=rowG (ks.getD k 0) k (T.getD k []) (T.getD k []).length:=rfl
   rw[e]
   omega
def j9e (b:Hb) (w:World) (e:Ending) (w':World):Prop:=(∃ v,e=.returned (.tuple #[v,.int .i64 (askE b)])∧OwnGf w' w.heap.size v (if askE b=0 then giftsL b.ks (hasR b) else []))∧Below w.heap.size w w'
theorem k6e (E:List (List Int)) (n nf:Nat):(hasL E n nf).length=nf∧∀ r∈hasL E n nf,r.length=n:=by
 unfold hasL
 refine⟨by simp,fun r hr=>?_⟩
 obtain⟨f,_,rfl⟩:=List.mem_map.1 hr
 simp
theorem q2r (b:Hb) (w:World) (hin:HbIn w b):Calls Tryz.prog 41 #[b.v] w (j9e b w):=by
 obtain⟨V,hV⟩:∃ V,V=w.alloc b.obj:=⟨_,rfl⟩
 obtain⟨g,hg⟩:∃ g,g=w.heap.size:=⟨_,rfl⟩
 have b0:V.heap[g]?=some b.obj:=by rw[hV,hg];exact j0c rfl
 have hBV:Below w.heap.size w V:=by rw[hV];exact bal0 w _
 have hiV:=hin.below hBV (zL9 _)
 obtain⟨c0,c1,c2,c3,c4⟩:=j0h b0
 have hak:=k5b b V hiV
 unfold Hb.v at hak
 have HV:=zQ9 (zA9 hBV (zA9 b0 (zA9 hiV hg)))
 unfold Hb.v
 go_enter Tryz.func41,Tryz.ntmps41
 go_upto_region 1 with (fail)
 rw[←hV,←hg]
 clear hV hg hin hBV hiV b0
 obtain⟨R,hR⟩:∃ R,R=HasR b V:=⟨_,rfl⟩
 rw[←hR] at hak
 have HR:=zQ9 hR
 clear hR
 obtain⟨ae,hae⟩:∃ ae,ae=askE b:=⟨_,rfl⟩
 have HAE:=zQ9 hae
 clear hae
 go_upto_region 2 with (go_at_call 29;refine hak.mono ?_;rintro e w2 hRR;rw[HR.out] at hRR;unfold HasR at hRR;rw[←HAE.out] at hRR;obtain⟨⟨v,rfl,hov⟩,hb2⟩:=hRR)
 have H2:=zQ9 (zA9 hb2 hov)
 by_cases h0:ae=0
 ·subst h0
  have hck:b.chk=0:=by
   have:=HAE.out
   unfold askE at this
   by_cases h:b.chk=0
   ·exact h
   ·rw[if_pos h] at this;exact absurd this.symm h
  have hok:=j3a hck
  obtain⟨T,hT⟩:∃ T,T=hasR b:=⟨_,rfl⟩
  have hTl:T.length=b.ks.length∧∀ r∈T,r.length=b.l.length:=by rw[hT];unfold hasR;rw[if_pos HAE.out.symm];exact k6e _ _ _
  rw[←hT] at hov
  obtain⟨A,cA,rfl,hG,hcA,hcm⟩:=OwnA.form j3m hov
  have hiw:=HV.out.2.2.1.below hb2 (zL9 _)
  have x0:=j0e HV.out.2.1 hb2 (zL9 _)
  clear c0 c1 c2 c3 c4 hak
  obtain⟨c0,c1,c2,c3,c4⟩:=j0h x0
  have hkk:=hiw.k
  obtain⟨Ak,hAk⟩:∃ Ak,Ak=b.Ak:=⟨_,rfl⟩
  rw[←hAk] at c2 hkk
  obtain⟨nk,hnk⟩:∃ nk,nk=b.ks.length:=⟨_,rfl⟩
  rw[←hnk] at c2 hkk
  obtain⟨nt,hnt⟩:∃ nt,nt=T.length:=⟨_,rfl⟩
  rw[←hnt] at hG hcA ⊢
  have hnn:nt≤nk∧nk≤nt:=by rw[hnt,hnk];have:=hTl.1;omega
  have hn3:nk≤3:=by rw[hnk];exact hok.f3
  have H3:=zQ9 (zA9 hnt (zA9 hnk (zA9 hTl (zA9 hok (zA9 hT x0)))))
  have hg2:=j0a x0
  clear hov hnt hnk hTl hok hT x0 hAk hiw hck hb2
  go_wp2_with fail
  go_loopg [6,21] nt (fun g' v6 v21 wr=>∃ k:Nat,k+g'=nt∧v21=.int .i64 k∧OwnGf wr w2.heap.size v6 (j1y b.ks T k)∧Below w2.heap.size w2 wr)
  case atStart=>exact⟨0,by omega,rfl,Own.nil_,Below.refl _ _⟩
  case round =>
   obtain⟨k,hk,rfl,hown,hBr⟩:=hrel
   by_cases hlt:k<nt
   ·obtain⟨bt,ot,B,row,cr,hA,hbt,hrow,d0,hin,hlr,hcr⟩:=hG.get hlt
    subst hA
    obtain⟨bk,ok,x,hAk,hbk,hx,k0⟩:=Ints.get hkk (show k<nk by omega)
    subst hAk
    have hrl:row.length≤5:=by have:=H3.out.2.2.1.2 row (List.mem_of_getElem? hrow);have:=H3.out.2.2.2.1.n5;omega
    have hgl:(j1y b.ks T k).length≤5*k:=j9b (fun r hr=>by have:=H3.out.2.2.1.2 r hr;have:=H3.out.2.2.2.1.n5;omega) k (by have:=H3.out.1;omega)
    have HK:=zQ9 (zA9 hk (zA9 hown (zA9 hBr (zA9 hrow hx))))
    have hzr:=hBr.size
    unfold maxLen at hcr
    have HC:=zQ9 (zA9 k0 c2)
    have d0:=j2k d0 hBr (zL9 _)
    clear hk hown hBr hrow hx c0 c1 c3 c4 k0 c2
    go_wp2_with fail
    obtain⟨wo,rfl⟩:∃ wo:World,wo=wr:=⟨_,rfl⟩
    obtain⟨go,rfl⟩:∃ go:Nat,go=gk:=⟨_,rfl⟩
    go_loopg [6,28] row.length (fun g' v6 v28 wq=>∃ j:Nat,j+g'=row.length∧v28=.int .i64 j∧OwnGf wq w2.heap.size v6 (j1y b.ks T k++rowG x k row j)∧Below w2.heap.size w2 wq∧Below wo.heap.size wo wo)
    case atStart=>exact⟨0,by omega,rfl,by simpa[rowG] using HK.out.2.1,HK.out.2.2.1,Below.refl _ _⟩
    case round =>
     obtain⟨j,hj,rfl,hownj,hBq,-⟩:=hrel
     by_cases hjl:j<row.length
     ·obtain⟨bb,ob,r,hB,hbb,hr,r0,r1⟩:=Rns.get hin hjl
      subst hB
      have r0:=j2k r0 hBq (zL9 _)
      have r1:=j2k r1 hBq (zL9 _)
      have k0:=j2k HC.out.1 hBq (zL9 _)
      have c2:=j2k HC.out.2 hBq (zL9 _)
      have hbkq:bk<wr.heap.size:=by have:=hBq.size;omega
      have hzq:=hBq.size
      have hgw:g<wr.heap.size:=by omega
      have hst:=k6v (k:=x) (f:=k) hr
      have hrg:=k3n x k row j
      have HJ:=zQ9 (zA9 hj (zA9 hownj (zA9 hBq (zA9 hr hst))))
      have hjk:(k:Int)<(nk:Int):=by omega
      clear hj hownj hBq hr hst
      by_cases e1:(j:Int)=x
      ·have x1:((j:Int) != x)=false:=by simp[e1]
       have HE:=zQ9 e1
       clear e1
       go_wp2_with fail
       go_roundg (gk-1)
       case measure=>have:=HJ.out.1;omega
       case rel=>exact⟨j+1,by have:=HJ.out.1;omega,by go_num,by rw[HJ.out.2.2.2.2,if_neg (by simp[HE.out]),List.append_nil];exact Own.alloc HJ.out.2.1 _,bal HJ.out.2.2.1 (zL9 _) _,Below.refl _ _⟩
      ·have x1:((j:Int) != x)=true:=by simp[e1]
       have HE:=zQ9 e1
       clear e1
       by_cases e2:0<r.hi
       ·have x2:decide (0<r.hi)=true:=by simp[e2]
        have HE2:=zQ9 e2
        clear e2
        have hownq:=Own.alloc HJ.out.2.1 (Obj.cells #[Value.int .i64 r.lo,.int .i64 r.hi] 72)
        have HOQ:=zQ9 hownq
        have hll:(j1y b.ks T k++rowG x k row j).length<4294967296:=by rw[List.length_append];omega
        clear hownq
        go_upto_region 12 with (fail)
        obtain⟨w5,hw5⟩:∃ w5,w5=wr.alloc (Obj.cells #[Value.int .i64 r.lo,.int .i64 r.hi] 72):=⟨_,rfl⟩
        obtain⟨g5,hg5⟩:∃ g5,g5=wr.heap.size:=⟨_,rfl⟩
        have y:=blk2 (show w5.heap[g5]?=some (Obj.cells #[Value.int .i64 r.lo,.int .i64 r.hi] 72 (0,0)) by rw[hw5,hg5];exact j0c rfl)
        obtain⟨y0,y1⟩:=y
        have hz5:w2.heap.size≤w5.heap.size:=by rw[hw5];simp;omega
        have hB5:Below w2.heap.size w2 w5:=by rw[hw5];exact bal HJ.out.2.2.1 (zL9 _) _
        have hO5:=HOQ.out
        rw[←hw5] at hO5
        rw[←hw5,←hg5]
        have H5:=zQ9 (zA9 hB5 hO5)
        clear hw5 hg5 hB5 hO5 r0 r1 k0 c2
        go_wp2_with (at_builtin;refine j6x okGf rfl (.tmp 45) (.tmp 50) rfl w2.heap.size _ (j1y b.ks T k++rowG x k row j) (⟨(k:Int),(j:Int),r⟩:Gf) _ rfl rfl rfl rfl (q0x _) H5.out.2 ?_ ?_ ?_ ?_;(omega);(omega);(omega);intro v' w6 hown6 hb6 _ hz6;have H6:=zQ9 (zA9 hown6 hb6);clear hown6 hb6)
        go_roundg (gk-1)
        case measure=>have:=HJ.out.1;omega
        case rel=>exact⟨j+1,by have:=HJ.out.1;omega,by go_num,by rw[HJ.out.2.2.2.2,if_pos (by simp[HE.out,HE2.out]),←List.append_assoc];exact H6.out.1,H5.out.1.trans H6.out.2,Below.refl _ _⟩
       ·have x2:decide (0<r.hi)=false:=by simpa using e2
        have HE2:=zQ9 e2
        clear e2
        go_wp2_with fail
        go_roundg (gk-1)
        case measure=>have:=HJ.out.1;omega
        case rel=>exact⟨j+1,by have:=HJ.out.1;omega,by go_num,by rw[HJ.out.2.2.2.2,if_neg (by simp[HE2.out]),List.append_nil];exact Own.alloc HJ.out.2.1 _,bal HJ.out.2.2.1 (zL9 _) _,Below.refl _ _⟩
     ·obtain rfl:j=row.length:=by omega
      have HF:=zQ9 (zA9 hownj hBq)
      clear hj hownj hBq
      go_wp2_with fail
      go_roundg (go-1)
      case measure=>have:=HK.out.1;omega
      case rel=>exact⟨k+1,by have:=HK.out.1;omega,by go_num,by rw[k1d HK.out.2.2.2.1 HK.out.2.2.2.2];exact HF.out.1,HF.out.2⟩
   ·obtain rfl:k=nt:=by omega
    have HF:=zQ9 (zA9 hown hBr)
    clear hk hown hBr
    go_wp2_with fail
    go_ret2
    unfold j9e
    rw[←HAE.out,if_pos rfl]
    refine⟨⟨_,rfl,?_⟩,HV.out.1.trans ((H2.out.1.mono HV.out.1.size).trans (HF.out.2.mono (Nat.le_trans HV.out.1.size H2.out.1.size)))⟩
    have:=HF.out.1
    rw[H3.out.1] at this
    rw[←H3.out.2.2.2.2.1]
    exact Own.mono this (Nat.le_trans HV.out.1.size H2.out.1.size)
 ·have xf:(ae != 0)=true:=by simp[h0]
  have H0:=zQ9 h0
  clear h0 hov hb2
  go_wp2_with fail
  go_ret2
  unfold j9e
  rw[←HAE.out,if_neg H0.out]
  exact⟨⟨_,rfl,Own.nil_⟩,HV.out.1.trans (H2.out.1.mono HV.out.1.size)⟩
theorem j4q (A:Option Addr) (n c:Nat) (x:List Rn) (B:Option Addr) (m d:Nat) (y:List Rn) (w:World) (hx:Sl eRn 2 w A n x) (hy:Sl eRn 2 w B m y) (hn:n≤maxLen) (hm:m≤maxLen) :
 Calls Tryz.prog 26 #[.slice A n c,.slice B m d] w fun e w'=>e=.returned (.bool (j1h x y))∧Below w.heap.size w w':=by
 have HL:=zQ9 (zA9 hx.len hy.len)
 have HXY:=zQ9 (zA9 hx hy)
 unfold maxLen at hn hm
 clear hx hy
 by_cases hnm:n=m
 ·subst hnm
  have h0:(n != n)=false:=by simp
  have h0':((n:Int) != (n:Int))=false:=by simp
  go_enter Tryz.func26,Tryz.ntmps26
  go_wp2_with fail
  go_loopg [5] n (fun g i wr=>∃ k:Nat,k+g=n∧i=.int .i64 k∧x.take k=y.take k∧∃ q,wr=w.drewN q)
  case atStart=>exact⟨0,by omega,rfl,by simp,0,rfl⟩
  case round =>
   obtain⟨k,hk,rfl,htk,q,rfl⟩:=hrel
   have HK:=zQ9 (zA9 hk htk)
   have hkn:k≤n:=by omega
   clear hk htk
   by_cases hlt:k<n
   ·obtain⟨b0,o0,u,rfl,hb0,hu,p0,p1⟩:=Rns.get HXY.out.1 hlt
    obtain⟨b1,o1,v,rfl,hb1,hv,q0,q1⟩:=Rns.get HXY.out.2 hlt
    have i0:(0:Int)≤(k:Int):=by omega
    have i1:(k:Int)<(n:Int):=by omega
    have HUV:=zQ9 (zA9 hu hv)
    clear hu hv
    by_cases huv:u=v
    ·subst huv
     go_upto_region 6 with (fail)
     go_quiet (fail)
     go_wp2
     go_roundg (gk-1)
     case measure=>have:=HK.out.1;omega
     case rel=>exact⟨k+1,by have:=HK.out.1;omega,by go_num,j4g HK.out.2 HUV.out.1 HUV.out.2 rfl,_,rfl⟩
    ·have HNE:=zQ9 huv
     cases e1:(u.lo==v.lo)<;>cases e2:(u.hi==v.hi)
     case true.true =>
      exfalso
      exact huv (by cases u;cases v;simp at e1 e2;simp[e1,e2])
     all_goals
      clear huv
      go_upto_region 6 with (fail)
      go_quiet (fail)
      go_wp2
      go_ret
      exact⟨j0p (by unfold j1h;rw[decide_eq_false (j8c HUV.out.1 HUV.out.2 HNE.out)]),j0l (j0l (Below.refl _ _) _) _⟩
   ·obtain rfl:k=n:=by omega
    go_wp2
    go_ret
    refine⟨j0p ?_,j0l (Below.refl _ _) _⟩
    have h1:=HK.out.2
    rw[List.take_of_length_le (by have:=HL.out.1;omega),List.take_of_length_le (by have:=HL.out.2;omega)] at h1
    unfold j1h
    rw[decide_eq_true h1]
 ·have h0':((n:Int) != (m:Int))=true:=by simp;omega
  have HNE:=zQ9 hnm
  clear hnm
  go_enter Tryz.func26,Tryz.ntmps26
  go_wp2
  go_ret
  refine⟨j0p ?_,Below.refl _ _⟩
  unfold j1h
  rw[decide_eq_false (fun h=>HNE.out (by rw[←HL.out.1,←HL.out.2,h]))]
theorem j2f.len {α:Type} {enc:α→List Value} {sz:Nat} {w:World} {A:Option Addr} {n:Nat} {ls:List (List α)} (h:j2f enc sz w A n ls):ls.length=n:=by
 obtain⟨mv,h1,h2,_⟩:=h
 rw[←h2];exact h1.len
abbrev Table (w:World) (A:Option Addr) (n:Nat) (ls:List (List Rn)):Prop:=j2f eRn 2 w A n ls
theorem j9l (A:Option Addr) (n c:Nat) (x:List (List Rn)) (B:Option Addr) (m d:Nat) (y:List (List Rn)) (w:World) (hx:Table w A n x) (hy:Table w B m y) (hn:n≤maxLen) (hm:m≤maxLen) :
 Calls Tryz.prog 39 #[.slice A n c,.slice B m d] w fun e w'=>e=.returned (.bool (j1h x y))∧Below w.heap.size w w':=by
 have HL:=zQ9 (zA9 hx.len hy.len)
 have HXY:=zQ9 (zA9 hx hy)
 unfold maxLen at hn hm
 clear hx hy
 by_cases hnm:n=m
 ·subst hnm
  have h0:(n != n)=false:=by simp
  have h0':((n:Int) != (n:Int))=false:=by simp
  go_enter Tryz.func39,Tryz.ntmps39
  go_wp2_with fail
  go_loopg [5] n (fun g i wr=>∃ k:Nat,k+g=n∧i=.int .i64 k∧x.take k=y.take k∧Below w.heap.size w wr)
  case atStart=>exact⟨0,by omega,rfl,by simp,Below.refl _ _⟩
  case round =>
   obtain⟨k,hk,rfl,htk,hbl⟩:=hrel
   have HK:=zQ9 (zA9 hk htk)
   have hkn:k≤n:=by omega
   clear hk htk
   by_cases hlt:k<n
   ·obtain⟨b0,o0,C0,u,c0,rfl,hb0,hu,p0,hi0,hc0,hm0⟩:=j2f.get (HXY.out.1.below hbl (zL9 _)) hlt
    obtain⟨b1,o1,C1,v,c1,rfl,hb1,hv,q0,hi1,hc1,hm1⟩:=j2f.get (HXY.out.2.below hbl (zL9 _)) hlt
    have i0:(0:Int)≤(k:Int):=by omega
    have i1:(k:Int)<(n:Int):=by omega
    have HUV:=zQ9 (zA9 hu hv)
    have hmu:u.length≤maxLen:=Nat.le_trans hc0 hm0
    have hmv:v.length≤maxLen:=Nat.le_trans hc1 hm1
    have cS:∀ d os,Calls Tryz.prog 26 #[.slice C0 u.length c0,.slice C1 v.length c1] (Sort.grow (redrawn wr d) os) (fun e w''=>e=.returned (.bool (j1h u v))∧∃ p:Regrown,w''=Sort.grow (redrawn wr p.d) p.os):=fun d os =>
     Calls.regrown_of (j4q C0 u.length c0 u C1 v.length c1 v _ (hi0.below (below_regrown wr d os) (zL9 _)) (hi1.below (below_regrown wr d os) (zL9 _)) hmu hmv)
    clear hu hv hi0 hi1
    cases huv:j1h u v
    all_goals
     rw[huv] at cS
     have HC:=zQ9 cS
     have HE:=zQ9 huv
     clear cS huv
     go_upto_region 6 with (fail)
     have k0:=cell_regrown p0
     have k1:=cell_regrown q0
     refine wp_region_quiet_below (by kernel_rfl) (by kernel_rfl) ?_
     repeat (quiet_step (exact HC.out _ _))
     refine wpQuiet_nil ?_
     intro _ hw'
     obtain⟨⟨dq,osq⟩,hw''⟩:=hw'
     subst hw''
     obtain⟨w3,hW1⟩:∃ w3,w3=Sort.grow (redrawn wr dq) osq:=⟨_,rfl⟩
     have hb3:Below wr.heap.size wr w3:=by rw[hW1];exact below_regrown wr dq osq
     rw[←hW1]
     have hbl3:=hbl.trans (hb3.mono hbl.size)
     clear hW1 k0 k1 p0 q0
     go_wp2
    ·go_ret
     exact⟨j0p (by unfold j1h;rw[decide_eq_false (j8c HUV.out.1 HUV.out.2 (by have:=HE.out;unfold j1h at this;simpa using this))]),hbl3⟩
    ·go_roundg (gk-1)
     case measure=>have:=HK.out.1;omega
     case rel=>exact⟨k+1,by have:=HK.out.1;omega,by go_num,j4g HK.out.2 HUV.out.1 HUV.out.2 (by have:=HE.out;unfold j1h at this;simpa using this),hbl3⟩
   ·obtain rfl:k=n:=by omega
    go_wp2
    go_ret
    refine⟨j0p ?_,hbl⟩
    have h1:=HK.out.2
    rw[List.take_of_length_le (by have:=HL.out.1;omega),List.take_of_length_le (by have:=HL.out.2;omega)] at h1
    unfold j1h
    rw[decide_eq_true h1]
 ·have h0':((n:Int) != (m:Int))=true:=by simp;omega
  have HNE:=zQ9 hnm
  clear hnm
  go_enter Tryz.func39,Tryz.ntmps39
  go_wp2
  go_ret
  refine⟨j0p ?_,Below.refl _ _⟩
  unfold j1h
  rw[decide_eq_false (fun h=>HNE.out (by rw[←HL.out.1,←HL.out.2,h]))]
theorem Gfs.get {w:World} {A:Option Addr} {n:Nat} {l:List Gf} (h:Sl eGf 4 w A n l) {k:Nat} (hk:k<n) :
 ∃ b off x,A=some ⟨b,off,none⟩∧b<w.heap.size∧l[k]?=some x∧w.cell? ⟨b,off+k*4,none⟩=some (.int .i64 x.f)∧w.cell? ⟨b,off+k*4+1,none⟩=some (.int .i64 x.o)∧w.cell? ⟨b,off+k*4+2,none⟩=some (.int .i64 x.r.lo)∧w.cell? ⟨b,off+k*4+3,none⟩=some (.int .i64 x.r.hi):=by
 obtain⟨b,off,x,hA,hx,hc⟩:=h.at_ hk
 have h0:=hc 0 _ rfl
 exact⟨b,off,x,hA,j2b h0,hx,h0,hc 1 _ rfl,hc 2 _ rfl,hc 3 _ rfl⟩
theorem k7h (A:Option Addr) (n c:Nat) (x:List Gf) (B:Option Addr) (d:Nat) (w:World) (hx:Sl eGf 4 w A n x) (hy:Sl eGf 4 w B n x) (hn:n≤maxLen) :
 Calls Tryz.prog 44 #[.slice A n c,.slice B n d] w fun e w'=>e=.returned (.bool true)∧Below w.heap.size w w':=by
 have HXY:=zQ9 (zA9 hx hy)
 unfold maxLen at hn
 clear hx hy
 have h0':((n:Int) != (n:Int))=false:=by simp
 go_enter Tryz.func44,Tryz.ntmps44
 go_wp2_with fail
 go_loopg [5] n (fun g i wr=>∃ k:Nat,k+g=n∧i=.int .i64 k∧∃ q,wr=w.drewN q)
 case atStart=>exact⟨0,by omega,rfl,0,rfl⟩
 case round =>
  obtain⟨k,hk,rfl,q,rfl⟩:=hrel
  have HK:=zQ9 hk
  have hkn:k≤n:=by omega
  clear hk
  by_cases hlt:k<n
  ·obtain⟨b0,o0,u,rfl,hb0,hu,p0,p1,p2,p3⟩:=Gfs.get HXY.out.1 hlt
   obtain⟨b1,o1,v,rfl,hb1,hv,q0,q1,q2,q3⟩:=Gfs.get HXY.out.2 hlt
   rw[hu] at hv
   cases hv
   have i0:(0:Int)≤(k:Int):=by omega
   have i1:(k:Int)<(n:Int):=by omega
   clear hu
   go_upto_region 6 with (fail)
   go_quiet (fail)
   go_wp2
   go_roundg (gk-1)
   case measure=>have:=HK.out;omega
   case rel=>exact⟨k+1,by have:=HK.out;omega,by go_num,_,rfl⟩
  ·obtain rfl:k=n:=by omega
   go_wp2
   go_ret
   exact⟨rfl,j0l (Below.refl _ _) _⟩
end Go.Proofs.YtmennjmjakdkcaaGreat
