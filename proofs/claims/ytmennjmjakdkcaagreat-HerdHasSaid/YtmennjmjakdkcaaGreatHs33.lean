/- HerdHas. -/
import Derived.Test.YtmennjmjakdkcaaGreatHs32
import Derived.Defers
set_option linter.unusedVariables false
set_option linter.unusedSimpArgs false
set_option maxRecDepth 100000
set_option maxHeartbeats 4000000
namespace Go.Proofs.YtmennjmjakdkcaaGreat
open Go.RowKit
theorem q1h (b:Hb) (w:World) (hin:HbIn w b):Calls Tryz.prog 42 #[b.v] w (j9e b w):=by
 obtain⟨V,hV⟩:∃ V,V=w.alloc b.obj:=⟨_,rfl⟩
 obtain⟨p,hp⟩:∃ p,p=w.heap.size:=⟨_,rfl⟩
 have HB:=zQ9 (show BB9 w b p V by rw[hV,hp];exact BB9.start hin)
 obtain⟨c0,c1,c2,c3,c4⟩:=j0h HB.out.1
 have hlp:=j0a HB.out.1
 have hak:=k7m b V HB.out.2.1
 unfold Hb.v at hak ⊢
 clear hin
 obtain⟨R,hR⟩:∃ R,R=HasR b V:=⟨_,rfl⟩
 rw[←hR] at hak
 have HR:=zQ9 hR
 clear hR
 obtain⟨ae,hae⟩:∃ ae,ae=askE b:=⟨_,rfl⟩
 have HAE:=zQ9 hae
 clear hae
 go_enter Tryz.func42,Tryz.ntmps42
 go_upto_region 1 with (fail)
 rw[←hV,←hp]
 clear hV hp
 go_upto_region 2 with (go_at_call 37;(with_reducible refine hak.mono ?_);rintro e w2 hRR;rw[HR.out] at hRR;unfold HasR at hRR;rw[←HAE.out] at hRR;obtain⟨⟨v,rfl,hov⟩,hb2⟩:=hRR;have H2:=zQ9 hov;replace HB:=zQ9 (HB.out.step hb2);clear hov hb2 c0 c1 c2 c3 c4 hlp)
 clear hak
 by_cases h0:ae=0
 ·subst h0
  have hok:=k3w HAE.out.symm
  obtain⟨T,hT⟩:∃ T,T=hasR b:=⟨_,rfl⟩
  have hTl:T.length=b.ks.length∧∀ r∈T,r.length=b.l.length:=by rw[hT];unfold hasR;rw[if_pos HAE.out.symm];exact k6e _ _ _
  have hov:=H2.out
  rw[←hT] at hov
  obtain⟨A,cA,rfl,hG,hcA,hcm⟩:=OwnA.form j3m hov
  obtain⟨nt,hnt⟩:∃ nt,nt=T.length:=⟨_,rfl⟩
  rw[←hnt] at hG hcA ⊢
  have hn3:nt≤3:=by rw[hnt,hTl.1];exact hok.f3
  have hn5:=hok.n5
  have H3:=zQ9 (zA9 hnt (zA9 hTl (zA9 hT hG)))
  clear hov hnt hTl hok hT hG
  go_upto_region 6 with (fail)
  go_loopg [6,7,8] nt (fun g' v6 v7 _ wr=>∃ k:Nat,k+g'=nt∧v7=.int .i64 k∧OwnGf wr w2.heap.size v6 (j1y b.ks T k)∧Below w2.heap.size w2 wr)
  case atStart=>exact⟨0,by omega,rfl,Own.nil_,Below.refl _ _⟩
  case round =>
   obtain⟨k,hk,rfl,hown,hb⟩:=hrel
   obtain⟨g0,rfl⟩:∃ g0:Nat,g0=gk:=⟨_,rfl⟩
   obtain⟨w3,hw3⟩:∃ W:World,W=wr:=⟨_,rfl⟩
   rw[←hw3] at hown hb ⊢
   clear hw3
   by_cases hlt:k<nt
   ·have i1:(k:Int)<(nt:Int):=by omega
    obtain⟨row,hrow⟩:∃ row,T[k]?=some row:=⟨_,List.getElem?_eq_getElem (by rw[←H3.out.1];exact hlt)⟩
    have hrl:row.length≤5:=by have:=H3.out.2.1.2 row (List.mem_of_getElem? hrow);omega
    have hgl:(j1y b.ks T k).length≤5*k:=j9b (fun r hr=>by have:=H3.out.2.1.2 r hr;omega) k (by have:=H3.out.1;omega)
    have HK:=zQ9 (zA9 hk (zA9 hown (zA9 hb hrow)))
    clear hk hown hb hrow
    go_upto_region 9 with (fail)
    go_loopg [6,8] row.length (fun g' v6 v8 wq=>∃ j:Nat,j+g'=row.length∧v8=.int .i64 j∧OwnGf wq w2.heap.size v6 (j1y b.ks T k++rowG (b.ks.getD k 0) k row j)∧Below w2.heap.size w2 wq)
    case atStart=>exact⟨0,by omega,rfl,by simpa[rowG] using HK.out.2.1,HK.out.2.2.1⟩
    case round =>
     obtain⟨j,hj,rfl,hownj,hb⟩:=hrel
     obtain⟨w4,hw4⟩:∃ W:World,W=wr:=⟨_,rfl⟩
     rw[←hw4] at hownj hb ⊢
     clear hw4
     obtain⟨c0,c1,c2,c3,c4⟩:=j0h (j0e HB.out.1 hb (zL9 _))
     have hlp:=j0a (j0e HB.out.1 hb (zL9 _))
     obtain⟨bt,ot,B,row',cr,hA,hbt,hrow',d0,hin,hlr,hcr⟩:=(H3.out.2.2.2.below hb (zL9 _)).get hlt
     rw[HK.out.2.2.2] at hrow'
     cases hrow'
     subst hA
     by_cases hjl:j<row.length
     ·obtain⟨bb,ob,r,hB,hbb,hr,r0,r1⟩:=Rns.get hin hjl
      subst hB
      obtain⟨bk,ok,x,hAk,hbk,hx,k0⟩:=Ints.get (HB.out.2.1.below hb (zL9 _)).k (show k<b.ks.length by rw[←H3.out.2.1.1,←H3.out.1];exact hlt)
      rw[hAk] at c2
      have hxx:b.ks.getD k 0=x:=by rw[List.getD_eq_getElem?_getD,hx];rfl
      rw[hxx] at hownj
      have hkc:=HB.out.2.1.kc
      have hkm:=HB.out.2.1.km
      have hst:=k6v (k:=x) (f:=k) hr
      have hrg:=k3n x k row j
      have hjk:(k:Int)<(b.ks.length:Int):=by rw[←H3.out.2.1.1,←H3.out.1];exact i1
      have i2:(j:Int)<(row.length:Int):=by omega
      have hzq:=hb.size
      have HJ:=zQ9 (zA9 hj (zA9 hownj (zA9 hb (zA9 hst hxx))))
      clear hj hownj hb hr hst hx hAk hin hxx
      by_cases e1:(j:Int)=x
      ·have x1:((j:Int)==x)=true:=by simp[e1]
       have HE:=zQ9 e1
       clear e1
       go_wp2_with fail
       go_roundg (gk-1)
       case measure=>have:=HJ.out.1;omega
       case rel=>exact⟨j+1,by have:=HJ.out.1;omega,by go_num,by rw[HJ.out.2.2.2.2,HJ.out.2.2.2.1,if_neg (by simp[HE.out]),List.append_nil];exact HJ.out.2.1,HJ.out.2.2.1⟩
      ·have x1:((j:Int)==x)=false:=beq_eq_false_iff_ne.2 e1
       have HE:=zQ9 e1
       clear e1
       by_cases e2:0<r.hi
       ·have HE2:=zQ9 e2
        have hll:(j1y b.ks T k++rowG x k row j).length<4294967296:=by rw[List.length_append];omega
        go_wp2_with (at_builtin;refine j6x okGf rfl (.tmp 50) (.tmp 61) rfl w2.heap.size _ (j1y b.ks T k++rowG x k row j) ⟨(k:Int),(j:Int),r⟩ _ rfl rfl rfl rfl (q0x _) HJ.out.2.1 ?_ ?_ ?_ ?_;(omega);(omega);(omega);intro v' w5 hown5 hb5 _ hz5;have H5:=zQ9 (zA9 hown5 hb5);clear hown5 hb5)
        go_roundg (gk-1)
        case measure=>have:=HJ.out.1;omega
        case rel=>exact⟨j+1,by have:=HJ.out.1;omega,by go_num,by rw[HJ.out.2.2.2.2,HJ.out.2.2.2.1,if_pos (by simp[HE.out,HE2.out]),←List.append_assoc];exact H5.out.1,HJ.out.2.2.1.trans H5.out.2⟩
       ·have HE2:=zQ9 e2
        go_wp2_with fail
        go_roundg (gk-1)
        case measure=>have:=HJ.out.1;omega
        case rel=>exact⟨j+1,by have:=HJ.out.1;omega,by go_num,by rw[HJ.out.2.2.2.2,HJ.out.2.2.2.1,if_neg (by simp[HE2.out]),List.append_nil];exact HJ.out.2.1,HJ.out.2.2.1⟩
     ·obtain rfl:j=row.length:=by omega
      have hkl:k<b.ks.length:=by rw[←H3.out.2.1.1,←H3.out.1];exact hlt
      have hxk:b.ks[k]?=some (b.ks.getD k 0):=by rw[List.getD_eq_getElem?_getD,List.getElem?_eq_getElem hkl];rfl
      have hnx:=k1d HK.out.2.2.2 hxk
      have HJ:=zQ9 (zA9 hownj (zA9 hb hnx))
      clear hj hownj hb hxk hnx hin
      go_wp2_with fail
      go_roundg (g0-1)
      case measure=>have:=HK.out.1;omega
      case rel=>exact⟨k+1,by have:=HK.out.1;omega,by go_num,by rw[HJ.out.2.2];exact HJ.out.1,HJ.out.2.1⟩
   ·obtain rfl:k=nt:=by omega
    have HE:=zQ9 (zA9 hown hb)
    clear hown hb hk
    go_wp2_with fail
    go_ret2
    unfold j9e
    rw[←HAE.out,if_pos rfl]
    refine⟨⟨_,rfl,?_⟩,HB.out.2.2.trans (HE.out.2.mono HB.out.2.2.size)⟩
    have h:=Own.mono HE.out.1 HB.out.2.2.size
    rw[H3.out.1] at h
    rw[←H3.out.2.2.1]
    exact h
 ·have x1:(ae != 0)=true:=by simp[h0]
  have H0:=zQ9 h0
  clear h0
  go_wp2_with fail
  go_ret2
  unfold j9e
  rw[←HAE.out,if_neg H0.out]
  exact⟨⟨_,rfl,Own.nil_⟩,HB.out.2.2⟩
end Go.Proofs.YtmennjmjakdkcaaGreat
namespace Go.Proofs.YtmennjmjakdkcaaGreat
open Go.RowKit Go.MapKept
theorem NowIn.turn {p:Nat} {b:Hb} {d o d' o':Int} {w w':World} (h:NowIn p (b.bk d o) w w'):NowIn p (b.bk d' o') w ((w'.setCell ⟨p,5,none⟩ (.int .i64 d')).setCell ⟨p,6,none⟩ (.int .i64 o')):=by
 obtain⟨n,hn⟩:=h.hp
 refine⟨h.os,h.tape,h.output,by simpa using h.size,fun k hk hne=>((Below.heap_setCell _ ⟨p,6,none⟩ _ _ hne).trans (Below.heap_setCell _ ⟨p,5,none⟩ _ _ hne)).trans (h.block k hk hne),⟨n,?_⟩⟩
 exact(j0d (j0d hn)).trans (by simp)
theorem Work.turn {w0 w w':World} {p:Nat} {b:Hb} {d o d' o':Int} (h:Work w0 p b d o w) (k:NowIn p (b.bk d' o') w w'):Work w0 p b d' o' w':=⟨h.hin,h.hz,h.bel.trans (k.less h.hz h.bel.size),k.hp,h.ck⟩
theorem NowIn.other {p:Nat} {O O':Int→Obj} {a b c:World} (h:NowIn p O a b) (k:NowIn p O' b c):NowIn p O' a c :=
 ⟨k.os.trans h.os,k.tape.trans h.tape,k.output.trans h.output,Nat.le_trans h.size k.size,fun i hi hne=>(k.block i (Nat.lt_of_lt_of_le hi h.size) hne).trans (h.block i hi hne),k.hp⟩
def j2u (b:Hb) (deed:Int) (k:Nat):List Int:=((List.range k).filter fun(o:Nat)=>!decide (b.ends deed (o:Int)=[])).map Int.ofNat
theorem k9r (b:Hb) (deed:Int) (k:Nat):j2u b deed (k+1)=j2u b deed k++if (!decide (b.ends deed (k:Int)=[]))=true then [(k:Int)] else []:=by
 unfold j2u
 rw[List.range_succ,List.filter_append,List.map_append]
 congr 1
 by_cases h:b.ends deed (k:Int)=[]<;>simp[h]
theorem k2w (b:Hb) (deed:Int) (k:Nat):(j2u b deed k).length≤k:=by
 unfold j2u
 rw[List.length_map]
 have:=List.length_filter_le (fun(o:Nat)=>!decide (b.ends deed (o:Int)=[])) (List.range k)
 simpa using this
def j4h (b:Hb) (deed:Int):Int :=
 if b.chk≠0 then b.chk else if ownB b.ds.length deed=false then 3 else if (b.ds[deed.toNat]?.map De.kind)≠some 5 then 8 else if j2u b deed b.l.length=[] then 11 else 0
def k1t (b:Hb) (deed:Int):List Int:=if j4h b deed=0 then j2u b deed b.l.length else []
def k3v (b:Hb) (deed:Int) (w:World) (e:Ending) (w':World):Prop:=(∃ v,e=.returned (.tuple #[v,.int .i64 (j4h b deed)])∧OwnI w' w.heap.size v (k1t b deed))∧Below w.heap.size w w'
theorem j8y {b:Hb} {deed:Int} {w w':World} {e:Int} (he:j4h b deed=e) (h0:e≠0) (hb:Below w.heap.size w w'):k3v b deed w (.returned (.tuple #[.slice none 0 0,.int .i64 e])) w':=by
 refine⟨⟨_,by rw[he],?_⟩,hb⟩
 unfold k1t
 rw[he,if_neg h0]
 exact Own.nil_
theorem q2w (b:Hb) (deed:Int) (w:World) (hin:HbIn w b):Calls Tryz.prog 46 #[b.v,.int .i64 deed] w (k3v b deed w):=by
 obtain⟨V,hV⟩:∃ V,V=w.alloc b.obj:=⟨_,rfl⟩
 obtain⟨g,hg⟩:∃ g,g=w.heap.size:=⟨_,rfl⟩
 have b0:V.heap[g]?=some b.obj:=by rw[hV,hg];exact j0c rfl
 have hBV:Below w.heap.size w V:=by rw[hV];exact bal0 w _
 have hiV:=hin.below hBV (zL9 _)
 obtain⟨c0,c1,c2,c3,c4⟩:=j0h b0
 have hak:=j3v b V hiV
 unfold Hb.v at hak
 have HV:=zQ9 (zA9 hBV (zA9 b0 (zA9 hiV hg)))
 unfold Hb.v
 go_enter Tryz.func46,Tryz.ntmps46
 go_upto_region 1 with (fail)
 rw[←hV,←hg]
 clear hV hg hin hBV hiV b0
 obtain⟨R,hR⟩:∃ R,R=j2v b b.chk V:=⟨_,rfl⟩
 rw[←hR] at hak
 have HR:=zQ9 hR
 clear hR
 go_upto_region 2 with (go_at_call 55;refine hak.mono ?_;rintro e w2 hRR;rw[HR.out] at hRR;unfold j2v at hRR;rcases hRR with ⟨h0,rfl,hb2⟩|⟨h0,p,rfl,hWk,hb2⟩)
 ·have xf:(b.chk != 0)=true:=by simp[h0]
  go_wp2_with fail
  go_ret2
  exact j8y (by unfold j4h;rw[if_pos h0]) h0 (HV.out.1.trans (hb2.mono HV.out.1.size))
 have x0:=j0e HV.out.2.1 hb2 (zL9 _)
 have hok:=hWk.ok
 have hgp:g≠p:=by have:=hWk.hz;have:=j0a HV.out.2.1;omega
 clear c0 c1 c2 c3 c4 hak
 obtain⟨c0,c1,c2,c3,c4⟩:=j0h x0
 have hpl:=hWk.lt
 have hdw:=hWk.inn.d
 obtain⟨n,hn⟩:∃ n,n=b.l.length:=⟨_,rfl⟩
 obtain⟨nd,hnd⟩:∃ nd,nd=b.ds.length:=⟨_,rfl⟩
 obtain⟨Ad,hAd⟩:∃ Ad,Ad=b.Ad:=⟨_,rfl⟩
 rw[←hn] at c1
 rw[←hnd,←hAd] at c4 hdw
 have hn0:0<n∧n≤5:=by rw[hn];exact⟨hok.n0,hok.n5⟩
 have hd6:nd≤6:=by rw[hnd];exact hok.d6
 have H2:=zQ9 (zA9 hb2 (zA9 hWk (zA9 h0 (zA9 hn (zA9 hnd (zA9 hok (zA9 hgp (zA9 x0 (HV.out.1.trans (hb2.mono HV.out.1.size))))))))))
 clear hb2 hWk h0 hn hnd hok hgp x0 hAd
 obtain⟨ob,hob⟩:∃ ob,ob=ownB nd deed:=⟨_,rfl⟩
 have hbt:=j2j deed 0 ((nd:Int)-1) w2
 rw[show btw deed 0 ((nd:Int)-1)=ob from hob.symm] at hbt
 have HOB:=zQ9 hob
 clear hob
 cases ob with
 | false =>
   go_wp2_with (go_at_call 102;refine hbt.mono ?_;rintro e w' ⟨rfl,rfl⟩)
   go_ret2
   exact j8y (by unfold j4h;rw[if_neg (by rw[H2.out.2.2.1];simp),←H2.out.2.2.2.2.1,←HOB.out,if_pos rfl]) (by decide) H2.out.2.2.2.2.2.2.2.2
 | true =>
 obtain⟨hd0,hdl⟩:=j1i.1 HOB.out.symm
 obtain⟨dn,rfl⟩:=Int.eq_ofNat_of_zero_le hd0
 have hdn:dn<nd:=by omega
 obtain⟨bi,oi,d,hA,hbi,hdk,d0,d1,d2,d3,d4,d5,d6,d7,d8,d9,d10,d11⟩:=Deeds.get hdw hdn
 subst hA
 have HD:=zQ9 hdk
 clear hdk hdw hbi d1 d2 d3 d4 d5 d6 d7 d8 d9 d10 d11
 by_cases hk5:d.kind=5
 ·rw[hk5] at d0
  have hwe:j4h b dn=if j2u b dn b.l.length=[] then 11 else 0:=by
   unfold j4h
   rw[if_neg (by rw[H2.out.2.2.1];simp),←H2.out.2.2.2.2.1,←HOB.out,if_neg (by simp),if_neg (by rw[Int.toNat_natCast,HD.out];simp[hk5])]
  have HWE:=zQ9 hwe
  clear hwe hk5
  go_wp2_with (go_at_call 102;refine hbt.mono ?_;rintro e w' ⟨rfl,rfl⟩)
  go_loopg [8,36] n (fun g' v8 v36 wr=>∃ k:Nat,k+g'=n∧v36=.int .i64 k∧OwnI wr w2.heap.size v8 (j2u b dn k)∧∃ dd oo,NowIn p (b.bk dd oo) w2 wr)
  case atStart=>exact⟨0,by omega,rfl,Own.nil_,_,_,H2.out.2.1.refl⟩
  case round =>
   obtain⟨k,hk,rfl,hown,dd,oo,hN⟩:=hrel
   by_cases hlt:k<n
   ·have i1:(k:Int)<(n:Int):=by omega
    obtain⟨nw,hpb⟩:=hN.hp
    obtain⟨p0,p1,p2,p3,p4,p5,p6,p7⟩:=blkB hpb
    have fz5:=frz hpb 5
    have fz6:=frz hpb 6
    have hpr:=j0a hpb
    have HK:=zQ9 (zA9 hk (zA9 hown hN))
    clear hk hown hN hpb p0 p1 p2 p3 p4 p7
    go_upto_region 13 with (fail)
    have hN3:=HK.out.2.2.turn (d':=(dn:Int)) (o':=(k:Int))
    have hown3:OwnI ((wr.setCell ⟨p,5,none⟩ (Value.int .i64 (dn:Int))).setCell ⟨p,6,none⟩ (Value.int .i64 (k:Int))) w2.heap.size u8 (j2u b dn k) :=
     Own.now (O:=b.bk dn k) HK.out.2.1 (a:=wr) ⟨rfl,rfl,rfl,by simp,fun j _ hne=>(Below.heap_setCell _ ⟨p,6,none⟩ _ _ hne).trans (Below.heap_setCell _ ⟨p,5,none⟩ _ _ hne),hN3.hp⟩ hpl
    generalize ((wr.setCell ⟨p,5,none⟩ (Value.int .i64 (dn:Int))).setCell ⟨p,6,none⟩ (Value.int .i64 (k:Int)))=w3 at hN3 hown3 ⊢
    have htr:=k7a V p b dn k w3 (H2.out.2.1.turn hN3)
    obtain⟨tb,htb⟩:∃ tb,tb=!decide (b.ends (dn:Int) (k:Int)=[]):=⟨_,rfl⟩
    rw[←htb] at htr
    have HTB:=zQ9 htb
    have H3:=zQ9 (zA9 hN3 hown3)
    clear htb hN3 hown3 p5 p6 fz5 fz6
    have hstp:=k9r b dn k
    rw[←HTB.out] at hstp
    have HST:=zQ9 hstp
    have hll:=k2w b dn k
    clear hstp
    cases tb with
    | false =>
      go_wp2_with (go_at_call 81;refine htr.mono ?_;rintro e w4 ⟨rfl,hN4⟩)
      go_roundg (gk-1)
      case measure=>have:=HK.out.1;omega
      case rel=>exact⟨k+1,by have:=HK.out.1;omega,by go_num,by rw[HST.out];simpa using Own.now H3.out.2 hN4 hpl,dn,k,H3.out.1.other hN4⟩
    | true =>
      go_upto_region 14 with (go_at_call 81;refine htr.mono ?_;rintro e w4 ⟨rfl,hN4⟩)
      have hown4:=Own.now H3.out.2 hN4 hpl
      have hN4':=H3.out.1.other hN4
      have hz4:=hN4'.size
      have H4:=zQ9 (zA9 hN4' hown4)
      clear hN4 hN4' hown4
      go_wp2_with (at_builtin;refine j6x j5v rfl (.tmp 49) (.tmp 51) rfl w2.heap.size _ (j2u b dn k) (k:Int) _ rfl rfl rfl rfl (j4b _) H4.out.2 ?_ ?_ ?_ ?_;(omega);(omega);(omega);intro v' w5 hown5 hb5 _ hz5;have H5:=zQ9 (zA9 hown5 hb5);clear hown5 hb5)
      go_roundg (gk-1)
      case measure=>have:=HK.out.1;omega
      case rel=>exact⟨k+1,by have:=HK.out.1;omega,by go_num,by rw[HST.out];simpa using H5.out.1,dn,k,H4.out.1.below hpl H5.out.2 (zL9 _)⟩
   ·obtain rfl:k=n:=by omega
    obtain⟨Av,cv,hve,hsl,hlc,hcm⟩:=hown.form j0u
    have hbw:Below w.heap.size w wr:=H2.out.2.2.2.2.2.2.2.2.trans (hN.less (Nat.le_trans HV.out.1.size H2.out.2.1.hz) (Nat.le_trans HV.out.1.size H2.out.1.size))
    obtain⟨L,hL⟩:∃ L,L=j2u b dn k:=⟨_,rfl⟩
    rw[←hL] at hve
    have hLl:L.length≤5:=by rw[hL];have:=k2w b dn k;omega
    have HF:=zQ9 (zA9 hown (zA9 hbw hL))
    subst hve
    clear hown hN hk hsl hlc hcm hbw hL
    by_cases hLn:L.length=0
    ·have x0:((L.length:Int)==0)=true:=by simp[hLn]
     have HLN:=zQ9 hLn
     clear hLn
     go_wp2_with fail
     go_ret2
     refine j8y ?_ (by decide) HF.out.2.1
     rw[HWE.out,←H2.out.2.2.2.1,←HF.out.2.2,if_pos (List.eq_nil_of_length_eq_zero HLN.out)]
    ·have x0:((L.length:Int)==0)=false:=by simp;exact fun e=>hLn (by rw[e];rfl)
     have HLN:=zQ9 hLn
     clear hLn
     go_wp2_with fail
     go_ret2
     have h0:j4h b dn=0:=by
      rw[HWE.out,←H2.out.2.2.2.1,←HF.out.2.2,if_neg (fun e=>HLN.out (by rw[e];rfl))]
     unfold k3v k1t
     rw[h0,if_pos rfl]
     refine⟨⟨_,rfl,?_⟩,HF.out.2.1⟩
     have:=HF.out.1
     rw[←HF.out.2.2] at this
     rw[←H2.out.2.2.2.1,←HF.out.2.2]
     exact this.mono (Nat.le_trans HV.out.1.size H2.out.1.size)
 ·have x5:(d.kind != 5)=true:=by simp[hk5]
  have HK5:=zQ9 hk5
  clear hk5
  go_wp2_with (go_at_call 102;refine hbt.mono ?_;rintro e w' ⟨rfl,rfl⟩)
  go_ret2
  refine j8y ?_ (by decide) H2.out.2.2.2.2.2.2.2.2
  unfold j4h
  rw[if_neg (by rw[H2.out.2.2.1];simp),←H2.out.2.2.2.2.1,←HOB.out,if_neg (by simp),if_pos]
  rw[Int.toNat_natCast,HD.out]
  simpa using HK5.out
end Go.Proofs.YtmennjmjakdkcaaGreat
namespace Go.Proofs.YtmennjmjakdkcaaGreat
open Go.RowKit Go.Sort
section
variable {F:Fence} {n:Nat} {P:Program} {ops:Array Oper} {md:Region.Mode} {C:World→Prop}
def j9f (F:Fence) (n:Nat) (P:Program) (md:Region.Mode) (ops:Array Oper) (C:World→Prop) (m:Nat) (L:Array Bool→Act→Prop):Nat→Array Bool→Act→Prop
 | 0,listed,a=>L listed a
 | f+1,listed,a =>
   Region.ready md ops listed≠[]∧∀ i∈Region.ready md ops listed,i<m∧qOpIn F n P ops C i (j9f F n P md ops C m L f (listed.setIfInBounds i true)) a
theorem k7f (hnd:∀ (i:Nat) o,ops[i]?=some o→∀ c,o.op≠.defer c) {i:Nat} {a:Act} {K:Act→Prop} {K':Act→World→Prop} {Q':Exit→Act→World→Prop} {w:World} (hC:C w) (h:∀ a w',C w'→K a→K' a w')
 (hh:qOpIn F n P ops C i K a):wpOpIn F n P ops Q' i K' a w:=by
 unfold qOpIn at hh
 unfold wpOpIn
 cases ho:ops[i]? with
 | none=>simp only[ho] at hh ⊢;exact h _ _ hC hh
 | some o =>
   simp only[ho] at hh ⊢
   obtain⟨ha,hh⟩:=hh
   split
   ·rename_i hw
    simp only[hw,if_true] at hh
    exact k4u (hnd i o ho) hC h ha hh
   ·rename_i hw
    simp only[hw] at hh
    exact⟨ha w hC,h _ _ hC hh⟩
theorem k0r (hnd:∀ (i:Nat) o,ops[i]?=some o→∀ c,o.op≠.defer c) {m g:Nat} {L:Array Bool→Act→Prop} {Q':Exit→Act→World→Prop} (hL:∀ listed a w,C w→L listed a→wpAnyIn F n P md ops Q' g listed a w) :
 ∀ (f:Nat) (listed:Array Bool) (a:Act) (w:World),C w→j9f F n P md ops C m L f listed a→wpAnyIn F n P md ops Q' (f+g) listed a w
 | 0,listed,a,w,hw,h=>by rw[Nat.zero_add];exact hL _ _ _ hw h
 | f+1,listed,a,w,hw,h=>by
   rw[show f+1+g=(f+g)+1 by omega]
   exact⟨fun h0=>absurd h0 h.1,fun i hi=>k7f hnd hw (fun a' w' hw' h'=>k0r hnd hL f _ a' w' hw' h') (h.2 i hi).2⟩
theorem k7e {m i:Nat} {oi:Oper} {v:Value} {L:Array Bool→Act→Prop} (hi:ops[i]?=some oi) (hsel:∀ (j:Nat) (o:Oper) cs b,ops[j]?=some o→o.op≠.select cs b)
 (hs:Region.sinkB md ops m=true) (hc:Region.chainB md ops m=true) (hn:m<ops.size) (hin:i<m)
 (hdone:∀ listed a,L listed a→∀ j∈Region.ready md ops listed,m≤j) :
 ∀ (f:Nat) (listed:Array Bool) (a:Act),HeadInv md ops m listed →
  (∀ j oj,ops[j]?=some oj→j≠i→listed.getD j true=false→(∀ e∈oj.after,Region.binds md e=true→e.on≠i)→oi.apart ops oj=true) →
  i∈Region.ready md ops listed→YieldsQuiet F n P ops C oi v a →
  j9f F n P md ops C m L f (listed.setIfInBounds i true) (a.put oi.dst v)→j9f F n P md ops C m L (f+1) listed a:=by
 intro f
 induction f with
 | zero =>
   intro listed a inv _ hr hy H
   have hun:=(mem_ready.1 hr).1
   refine⟨fun h=>(by rw[h] at hr;cases hr),fun j hj=>?_⟩
   have hjn:j<m:=by
    rcases Nat.lt_or_ge j m with h|h
    ·exact h
    ·exact absurd hj (tail_waits hs hc hn inv _ i rfl hin hun j h)
   refine⟨hjn,?_⟩
   by_cases hji:j=i
   ·subst hji;exact hy.qOpIn hi H
   ·have:=hdone _ _ H j (ready_mono hj hji)
    omega
 | succ f ih =>
   intro listed a inv hfree hr hy H
   have hun:=(mem_ready.1 hr).1
   refine⟨fun h=>(by rw[h] at hr;cases hr),fun j hj=>?_⟩
   have hjn:j<m:=by
    rcases Nat.lt_or_ge j m with h|h
    ·exact h
    ·exact absurd hj (tail_waits hs hc hn inv _ i rfl hin hun j h)
   refine⟨hjn,?_⟩
   by_cases hji:j=i
   ·subst hji;exact hy.qOpIn hi H
   ·have h1:=(H.2 j (ready_mono hj hji)).2
    obtain⟨hjun,oj,hoj,hall⟩:=mem_ready.1 hj
    have hnot:∀ e∈oj.after,Region.binds md e=true→e.on≠i:=fun e he hb heq=>by
     have h1:=hall e he hb
     rw[heq,getD_both hun] at h1
     cases h1
    have h2:=qOpIn_put hoj (hfree j oj hoj hji hjun hnot) (fun cs b=>hsel i oi cs b hi) (fun cs b=>hsel j oj cs b hoj) hy h1
    have hfree':∀ k ok,ops[k]?=some ok→k≠i→(listed.setIfInBounds j true).getD k true=false →
     (∀ e∈ok.after,Region.binds md e=true→e.on≠i)→oi.apart ops ok=true:=fun k ok hk hki hun hno=>by
     refine hfree k ok hk hki ?_ hno
     by_cases hjk:j=k
     ·subst hjk;exact hjun
     ·rw[getD_set_ne true hjk] at hun;exact hun
    refine qOpIn_mono (fun a' h3=>ih (listed.setIfInBounds j true) a' (inv.set hj hjn) hfree' (ready_mono hr (Ne.symm hji)) h3.1 ?_) h2
    rw[Array.setIfInBounds_comm _ _ hji]
    exact h3.2
theorem k2g {m g:Nat} {Lq:Act→Prop} (hsel:Region.noSelect ops=true) (hs:Region.sinkB md ops m=true) (hc:Region.chainB md ops m=true) (hn:m<ops.size) :
 ∀ (l:List Oper) (k:Nat) (listed:Array Bool) (a:Act),(∀ j,j<l.length→l[j]?=ops[k+j]?)→k+l.length=m→HeadInv md ops m listed →
 Region.lexHead md ops g l.length k listed=true→wpQuietIn F n P ops C Lq l a →
 j9f F n P md ops C m (fun listed' a'=>Region.seqB md ops g m listed'=true∧Lq a') l.length listed a
 | [],k,listed,a,_,hk,_,hB,h=>by
   have:k=m:=by simpa using hk
   subst this
   exact⟨by simpa[Region.lexHead] using hB,h⟩
 | o::l,k,listed,a,hl,hk,inv,hB,h=>by
   have h0:ops[k]?=some o:=by simpa using (hl 0 (by simp)).symm
   simp only[List.length_cons,Region.lexHead,Bool.and_eq_true] at hB
   obtain⟨⟨hr,hf⟩,hB'⟩:=hB
   have hkn:k<m:=by simp only[List.length_cons] at hk;omega
   have hr':k∈Region.ready md ops listed:=by simpa using hr
   have hst:qOpIn F n P ops C k (wpQuietIn F n P ops C Lq l) a:=by unfold qOpIn;simp only[h0];exact h
   obtain⟨v,hy,hK⟩:=yieldsQuiet_of_qOpIn h0 hst
   exact k7e h0 (Region.noSelect_spec hsel) hs hc hn hkn (fun listed' a' hL=>seqB_ready hL.1) l.length listed a inv (Region.free_spec h0 hf) hr' hy
    (k2g hsel hs hc hn l (k+1) _ _ (fun j hj=>by have:=hl (j+1) (by simp;omega);simpa[Nat.add_assoc,Nat.add_comm 1 j] using this) (by simp only[List.length_cons] at hk;omega) (inv.set hr' hkn) hB' hK)
theorem k0s {Q':Exit→Act→World→Prop}:∀ (l:List Oper) (k:Nat) (listed:Array Bool) (a:Act) (w:World),(∀ j,l[j]?=ops[k+j]?) →
 Region.seqB md ops l.length k listed=true→wpListIn F n P ops Q' l a w→wpAnyIn F n P md ops Q' l.length listed a w
 | [],_,_,_,_,_,hB,h=>⟨by simpa[Region.seqB] using hB,h⟩
 | o::l,k,listed,a,w,hl,hB,h=>by
   have h0:ops[k]?=some o:=by simpa using (hl 0).symm
   simp only[List.length_cons,Region.seqB,Bool.and_eq_true,decide_eq_true_eq] at hB
   refine⟨fun h1=>(by rw[hB.1] at h1;cases h1),fun i hi=>?_⟩
   rw[hB.1] at hi
   have hik:i=k:=by simpa using hi
   subst hik
   have hw:wpOpIn F n P ops Q' i (wpListIn F n P ops Q' l) a w:=by unfold wpOpIn;simp only[h0];exact h
   exact wpOpIn_mono (fun a' w' h'=>k0s l (i+1) _ a' w' (fun j=>by have:=hl (j+1);simpa[Nat.add_assoc,Nat.add_comm 1 j] using this) hB.2 h') hw
theorem k3m {id:Nat} {Q:Exit→Act→World→Prop} {a:Act} {w:World} {l:List Oper} (m:Nat) (hm:P.follows .mixedOrders=true) (hB:Region.lexTailB .any l.toArray m=true) (hnd:k5i l=true)
 (hC:C { w with drawn:=w.drawn+1 })
 (h:wpQuietIn F n P l.toArray C (fun a'=>∀ w',C w'→wpListIn F n P l.toArray Q (l.drop m) a' w') (l.take m) a):(Code.region id l.toArray true).wpIn F n P Q a w:=by
 simp only[Region.lexTailB,Bool.and_eq_true,decide_eq_true_eq] at hB
 obtain⟨⟨⟨⟨hsel,hn⟩,hs⟩,hc⟩,hlex⟩:=hB
 have hn':m<l.length:=by simpa using hn
 have htl:(l.take m).length=m:=by simp;omega
 have hdl:(l.drop m).length=l.toArray.size-m:=by simp
 have hd:∀ (i:Nat) o,l.toArray[i]?=some o→∀ c,o.op≠.defer c:=by
  intro i o ho c hc
  have hmem:o∈l:=by
   rw[List.getElem?_toArray] at ho
   exact List.mem_of_getElem? ho
  have:=List.all_eq_true.1 hnd o hmem
  rw[hc] at this
  cases this
 have inv0:HeadInv .any l.toArray m (Array.replicate l.toArray.size false) :=
  ⟨by simp,fun j oj _ hl=>(by rw[getD_replicate_false] at hl;cases hl),fun t _ ht=>getD_in (by simpa using ht) (getD_replicate_false _ _)⟩
 have H:=k2g (C:=C) (F:=F) (n:=n) (P:=P) (md:=.any) (g:=l.toArray.size-m) hsel hs hc hn (l.take m) 0 _ a (fun j hj=>by
  have hj':j<m:=by rw[htl] at hj;exact hj
  simp[hj']) (by simpa using htl) inv0 (by rw[htl];exact hlex) h
 refine wpIn_region_any hm ?_
 have:=k0r (Q':=Q) (g:=l.toArray.size-m) hd (fun listed a' w' hw' hL=>by
  have:=k0s (md:=.any) (Q':=Q) (l.drop m) m listed a' w' (fun j=>by simp[List.getElem?_drop]) (by rw[hdl];exact hL.1) (hL.2 w' hw')
  rwa [hdl] at this) _ _ _ { w with drawn:=w.drawn+1 } hC H
 rw[htl,show m+(l.toArray.size-m)=l.toArray.size by omega] at this
 exact this
theorem k3l {id:Nat} {Q:Exit→Act→World→Prop} {a:Act} {w:World} {l:List Oper} (m:Nat) (hm:P.follows .mixedOrders=true) (hB:Region.lexTailB .any l.toArray m=true) (hnd:k5i l=true)
 (h:wpQuietIn F n P l.toArray (fun w'=>∃ p:Regrown,w'=Sort.grow (redrawn w p.d) p.os) (fun a'=>∀ w',(∃ p:Regrown,w'=Sort.grow (redrawn w p.d) p.os)→wpListIn F n P l.toArray Q (l.drop m) a' w') (l.take m) a):(Code.region id l.toArray true).wpIn F n P Q a w :=
 k3m (C:=fun w'=>∃ p:Regrown,w'=Sort.grow (redrawn w p.d) p.os) m hm hB hnd ⟨⟨w.drawn+1,#[]⟩,by rw[Sort.grow_empty];rfl⟩ h
end
structure Cn where
 a:Int
 b:Int
 c:Int
 d:Int
 e:Int
 s:Int
 deriving DecidableEq
def kv (k:Cn):Value:=.agg #[.int .i64 k.a,.int .i64 k.b,.int .i64 k.c,.int .i64 k.d,.int .i64 k.e,.int .i64 k.s]
def Cn.cs (k:Cn):Array Value:=#[.int .i64 k.a,.int .i64 k.b,.int .i64 k.c,.int .i64 k.d,.int .i64 k.e,.int .i64 k.s]
theorem info_int:(Tryz.prog.info? 3).map (fun i=>i.size)=some 1:=by kernel_rfl
theorem j8i (w:World):(sizeOf 3).run Tryz.prog w=.ok 1 w:=by
 have h:=info_int
 cases hi:Tryz.prog.info? 3 with
 | none=>rw[hi] at h;cases h
 | some i=>rw[hi] at h;simp at h;simp[sizeOf,typeInfo,hi,h]
theorem j8h (cs:Array Value) (off:Nat) (v:Value) (h:cs[off]?=some v) (w:World):(part 3 cs off).run Tryz.prog w=.ok v w:=by
 have hi:=run_underlying (P:=Tryz.prog) (w:=w) Tryz.underlying3
 simp[part,isAgg,hi,h]
theorem j4d (d:Nat) (a b:Int) (w:World):(Op.equalIn (d+1) 3 (.int .i64 a) (.int .i64 b)).run Tryz.prog w=.ok (a==b) w:=by
 have hi:=run_underlying (P:=Tryz.prog) (w:=w) Tryz.underlying3
 simp[Op.equalIn,hi]
theorem k9c (d:Nat) (x y:Cn) (w:World):(Op.equalIn (d+2) 186 (kv x) (kv y)).run Tryz.prog w=.ok (decide (x=y)) w:=by
 have h:=run_underlying (P:=Tryz.prog) (w:=w) Tryz.underlying186
 unfold Op.equalIn kv
 simp only[Sem.run_bind,h,Result.andThen_ok,j8i]
 have hp:∀ i (v:Value),x.cs[i]?=some v→∀ w,(part 3 #[.int .i64 x.a,.int .i64 x.b,.int .i64 x.c,.int .i64 x.d,.int .i64 x.e,.int .i64 x.s] i).run Tryz.prog w=.ok v w:=fun i v h w=>j8h _ _ _ h w
 have hq:∀ i (v:Value),y.cs[i]?=some v→∀ w,(part 3 #[.int .i64 y.a,.int .i64 y.b,.int .i64 y.c,.int .i64 y.d,.int .i64 y.e,.int .i64 y.s] i).run Tryz.prog w=.ok v w:=fun i v h w=>j8h _ _ _ h w
 have p0:=hp 0 (.int .i64 x.a) rfl
 have p1:=hp 1 (.int .i64 x.b) rfl
 have p2:=hp 2 (.int .i64 x.c) rfl
 have p3:=hp 3 (.int .i64 x.d) rfl
 have p4:=hp 4 (.int .i64 x.e) rfl
 have p5:=hp 5 (.int .i64 x.s) rfl
 have q0:=hq 0 (.int .i64 y.a) rfl
 have q1:=hq 1 (.int .i64 y.b) rfl
 have q2:=hq 2 (.int .i64 y.c) rfl
 have q3:=hq 3 (.int .i64 y.d) rfl
 have q4:=hq 4 (.int .i64 y.e) rfl
 have q5:=hq 5 (.int .i64 y.s) rfl
 clear hp hq
 have hr:List.range' 0 6=[0,1,2,3,4,5]:=rfl
 have hd:decide (x=y)=(x.a==y.a&&(x.b==y.b&&(x.c==y.c&&(x.d==y.d&&(x.e==y.e&&x.s==y.s))))):=by
  obtain⟨a0,a1,a2,a3,a4,a5⟩:=x
  obtain⟨b0,b1,b2,b3,b4,b5⟩:=y
  rw[Bool.eq_iff_iff]
  simp only[decide_eq_true_eq,Cn.mk.injEq,Bool.and_eq_true,beq_iff_eq]
 rw[hd]
 cases e0:(x.a==y.a)
 ·simp[hr,p0,q0,j4d,e0]
 ·cases e1:(x.b==y.b)
  ·simp[hr,p0,q0,p1,q1,j4d,e0,e1]
  ·cases e2:(x.c==y.c)
   ·simp[hr,p0,q0,p1,q1,p2,q2,j4d,e0,e1,e2]
   ·cases e3:(x.d==y.d)
    ·simp[hr,p0,q0,p1,q1,p2,q2,p3,q3,j4d,e0,e1,e2,e3]
    ·cases e4:(x.e==y.e)
     ·simp[hr,p0,q0,p1,q1,p2,q2,p3,q3,p4,q4,j4d,e0,e1,e2,e3,e4]
     ·cases e5:(x.s==y.s)
      ·simp[hr,p0,q0,p1,q1,p2,q2,p3,q3,p4,q4,p5,q5,j4d,e0,e1,e2,e3,e4,e5]
      ·simp[hr,p0,q0,p1,q1,p2,q2,p3,q3,p4,q4,p5,q5,j4d,e0,e1,e2,e3,e4,e5]
theorem k4w (x y:Cn) (w:World):(Op.equal 186 (kv x) (kv y)).run Tryz.prog w=.ok (decide (x=y)) w:=k9c 9998 x y w
theorem k9b (b:Bool) (d:Nat) (a:Int) (w:World):(Instr.checkKey b (d+1) 3 (.int .i64 a)).run Tryz.prog w=.ok () w:=by
 have hi:=run_underlying (P:=Tryz.prog) (w:=w) Tryz.underlying3
 simp[Instr.checkKey,hi]
theorem k9a (b:Bool) (d:Nat) (x:Cn) (w:World):(Instr.checkKey b (d+2) 186 (kv x)).run Tryz.prog w=.ok () w:=by
 have h:=run_underlying (P:=Tryz.prog) (w:=w) Tryz.underlying186
 unfold Instr.checkKey kv
 simp only[Sem.run_bind,h,Result.andThen_ok,j8i]
 have hp:∀ i (v:Value),x.cs[i]?=some v→∀ w,(part 3 #[.int .i64 x.a,.int .i64 x.b,.int .i64 x.c,.int .i64 x.d,.int .i64 x.e,.int .i64 x.s] i).run Tryz.prog w=.ok v w:=fun i v h w=>j8h _ _ _ h w
 have p0:=hp 0 (.int .i64 x.a) rfl
 have p1:=hp 1 (.int .i64 x.b) rfl
 have p2:=hp 2 (.int .i64 x.c) rfl
 have p3:=hp 3 (.int .i64 x.d) rfl
 have p4:=hp 4 (.int .i64 x.e) rfl
 have p5:=hp 5 (.int .i64 x.s) rfl
 have hr:List.range' 0 6=[0,1,2,3,4,5]:=rfl
 have hs:=j8i
 simp[hr,hs,p0,p1,p2,p3,p4,p5,k9b]
theorem j7k (b:Bool) (x:Cn) (w:World):(Instr.checkKey b 10000 186 (kv x)).run Tryz.prog w=.ok () w:=k9a b 9998 x w
def j5m (w:World) (M:Nat) (K:List Cn):Prop :=
 ∃ es clock,w.heap[M]?=some (.map es clock)∧es.toList.map (fun e=>(e.key,e.val))=K.map (fun k=>(kv k,Value.bool true))
theorem j6j (x:Cn) (w:World):∀ (es:List MapEntry) (K:List Cn) (i:Nat),es.map (fun e=>(e.key,e.val))=K.map (fun k=>(kv k,Value.bool true)) →
 ∃ r,(Instr.findAsking 186 (kv x) es i).run Tryz.prog w=.ok r w∧((x∈K∧∃ j e,es[j]?=some e∧e.key=kv x∧r=some (i+j,.bool true))∨(x∉K∧r=none))
 | [],K,i,h=>by
   have hK:K=[]:=by cases K with
    | nil=>rfl
    | cons a b=>simp at h
   subst hK
   exact⟨none,by simp[Instr.findAsking],.inr ⟨by simp,rfl⟩⟩
 | e::es,K,i,h=>by
   cases K with
   | nil=>simp at h
   | cons k K =>
     simp only[List.map_cons,List.cons.injEq,Prod.mk.injEq] at h
     obtain⟨⟨hk,hv⟩,hr⟩:=h
     by_cases hx:x=k
     ·subst hx
      refine⟨some (i,.bool true),by simp[Instr.findAsking,hk,k4w,hv],.inl ⟨by simp,0,e,rfl,hk,rfl⟩⟩
     ·obtain⟨r,hrun,hcase⟩:=j6j x w es K (i+1) hr
      refine⟨r,by simp[Instr.findAsking,hk,k4w,hx,hrun],?_⟩
      rcases hcase with ⟨hin,j,e',he',hke,hre⟩|⟨hout,hre⟩
      ·exact .inl ⟨by simp[hin],j+1,e',by simpa using he',hke,by rw[hre,Nat.add_assoc,Nat.add_comm 1 j]⟩
      ·exact .inr ⟨by simp[hx,hout],hre⟩
theorem k2q (x:Cn) (w:World) (es:List MapEntry) (K:List Cn) (h:es.map (fun e=>(e.key,e.val))=K.map (fun k=>(kv k,Value.bool true))) :
 ∃ r,(Instr.findKey 186 (kv x) es).run Tryz.prog w=.ok r w∧((x∈K∧∃ j e,es[j]?=some e∧e.key=kv x∧r=some (j,.bool true))∨(x∉K∧r=none)):=by
 have hu:=run_underlying (P:=Tryz.prog) (w:=w) Tryz.underlying186
 cases es with
 | nil =>
   obtain⟨r,h1,h2⟩:=j6j x w [] K 0 h
   refine⟨r,?_,by simpa using h2⟩
   simp[Instr.findKey,hu,Instr.findNow]
   simpa[Instr.findAsking] using h1
 | cons e es =>
   obtain⟨r,h1,h2⟩:=j6j x w (e::es) K 0 h
   refine⟨r,?_,by simpa using h2⟩
   have hk:e.key=kv (K.headD ⟨0,0,0,0,0,0⟩):=by
    cases K with
    | nil=>simp at h
    | cons k K=>simp only[List.map_cons,List.cons.injEq,Prod.mk.injEq] at h;exact h.1.1
   simp[Instr.findKey,hu,Instr.findNow,Instr.sameNow,h1]
theorem q4t (x:Cn) (w:World) (M:Nat) (K:List Cn) (h:j5m w M K):(Instr.lookup 187 (.map (some M)) (kv x) false).run Tryz.prog w=.ok (.bool (decide (x∈K))) w:=by
 obtain⟨es,clock,hh,hes⟩:=h
 obtain⟨r,hr,hc⟩:=k2q x w es.toList K hes
 have hu:=run_underlying (P:=Tryz.prog) (w:=w) Tryz.underlying187
 have hz:(zeroValue 4).run Tryz.prog w=.ok (.bool false) w:=by kernel_rfl
 have hg:(getObj M).run Tryz.prog w=.ok (.map es clock) w:=by simp[getObj,Sem.run,hh]
 rcases hc with ⟨hin,j,e,he,hke,rfl⟩|⟨hout,rfl⟩
 ·simp[Instr.lookup,hu,hg,j7k,hr,hin]
 ·simp[Instr.lookup,hu,hg,j7k,hr,hout,hz]
theorem q0g (x:Cn):Instr.sameBits 10000 (kv x) (kv x)=true:=by
 simp[kv,Instr.sameBits]
theorem run_put6 (x:Cn) (w:World) (M:Nat) (K:List Cn) (h:j5m w M K) :
 ∃ ob,(Instr.mapUpdate 187 (.map (some M)) (kv x) (.bool true)).run Tryz.prog w=.ok () { w with heap:=w.heap.setIfInBounds M ob }∧M<w.heap.size
  ∧ ∃ K',(∀ w':World,w'.heap[M]?=some ob→j5m w' M K')∧∀ k,k∈K'↔k∈K∨k=x:=by
 obtain⟨es,clock,hh,hes⟩:=h
 obtain⟨r,hr,hc⟩:=k2q x w es.toList K hes
 have hu:=run_underlying (P:=Tryz.prog) (w:=w) Tryz.underlying187
 have hg:(getObj M).run Tryz.prog w=.ok (.map es clock) w:=by simp[getObj,Sem.run,hh]
 have hs:∀ o,(setObj M o).run Tryz.prog w=.ok () { w with heap:=w.heap.setIfInBounds M o }:=fun o=>by simp[setObj,Sem.run,hh]
 have hlt:M<w.heap.size:=(Array.getElem?_eq_some_iff.1 hh).1
 rcases hc with ⟨hin,j,e,he,hke,rfl⟩|⟨hout,rfl⟩
 ·have hj:es[j]?=some e:=by simpa using he
  refine⟨.map (es.modify j fun e=>{ e with key:=kv x,val:=.bool true }) clock,?_,hlt,K,?_,fun k=>⟨.inl,fun h=>h.elim id (fun h=>h ▸ hin)⟩⟩
  ·simp[Instr.mapUpdate,hu,hg,j7k,hr,hj,hke,Instr.keyThatStays,q0g,hs]
  ·intro w' hw'
   refine⟨_,_,hw',?_⟩
   rw[←hes]
   apply List.ext_getElem?
   intro i
   simp only[List.getElem?_map,Array.getElem?_toList,Array.getElem?_modify]
   by_cases hij:j=i
   ·subst hij
    have hv:e.val=.bool true:=by
     have h2:=congrArg (fun l=>l[j]?) hes
     simp only[List.getElem?_map,Array.getElem?_toList,hj,Option.map_some] at h2
     cases hk:K[j]? with
     | none=>simp[hk] at h2
     | some k=>simp only[hk,Option.map_some,Option.some.injEq,Prod.mk.injEq] at h2;exact h2.2
    simp[hj,hke,hv]
   ·simp[hij]
 ·refine⟨.map (es.push { key:=kv x,val:=.bool true,born:=clock }) (clock+1),?_,hlt,K++[x],?_,fun k=>by simp⟩
  ·simp[Instr.mapUpdate,hu,hg,j7k,hr,hs]
  ·intro w' hw'
   refine⟨_,_,hw',?_⟩
   simp[hes]
theorem q1f {w:World} {ops:Array Oper} {rest:List Oper} {o:Oper} {a:Act} {Q:Exit→Act→World→Prop}
 (hg:o.guard=none) (m x v:Operand) (hop:o.op=Op.mapUpdate 187 m x v) (M:Nat) (K:List Cn) (k:Cn)
 (hm:a.eval m=.map (some M)) (hx:a.eval x=kv k) (hv:a.eval v=.bool true) (h:j5m w M K)
 (hK:∀ ob K',M<w.heap.size→(∀ w':World,w'.heap[M]?=some ob→j5m w' M K')→(∀ q,q∈K'↔q∈K∨q=k)→wpList Tryz.prog ops Q rest (a.put o.dst undef) { w with heap:=w.heap.setIfInBounds M ob }) :
 wpList Tryz.prog ops Q (o::rest) a w:=by
 refine wpList_plain hg fun K' hK'=>?_
 obtain⟨ob,hrun,hlt,K2,h1,h2⟩:=run_put6 k w M K h
 unfold Oper.wp
 simp[execOp,hop,hm,hx,hv,hrun,Result.andThen]
 exact hK' _ _ (hK ob K2 hlt h1 h2)
theorem q4k {w:World} {M clock:Nat} (h:w.heap[M]?=some (.map #[] clock)):j5m w M []:=⟨_,_,h,rfl⟩
theorem j5m.keep {w w':World} {M:Nat} {K:List Cn} (h:j5m w M K) (e:w'.heap[M]?=w.heap[M]?):j5m w' M K:=by
 obtain⟨es,c,h1,h2⟩:=h
 exact⟨es,c,by rw[e];exact h1,h2⟩
def Cn.at (c:Cn):Nat→Int
 | 0=>c.a
 | 1=>c.b
 | 2=>c.c
 | 3=>c.d
 | 4=>c.e
 | _=>c.s
def Cn.add (c:Cn) (k:Int):Nat→Cn
 | 0=>{ c with a:=c.a+k }
 | 1=>{ c with b:=c.b+k }
 | 2=>{ c with c:=c.c+k }
 | 3=>{ c with d:=c.d+k }
 | 4=>{ c with e:=c.e+k }
 | _=>{ c with s:=c.s+k }
def Cn.up (c:Cn) (i:Nat):Cn:=(c.add 1 i).add 1 5
def Cn.skip (c:Cn):Cn:=c.add 1 5
theorem Cn.at_cs (c:Cn) {i:Nat} (h:i<6):c.cs[i]?=some (.int .i64 (c.at i)):=by
 match i,h with
 | 0,_=>rfl
 | 1,_=>rfl
 | 2,_=>rfl
 | 3,_=>rfl
 | 4,_=>rfl
 | 5,_=>rfl
def Now (w:World) (B:Nat) (c:Cn):Prop:=w.heap[B]?=some (.cells c.cs 186 (0,0))
theorem Now.cell {w:World} {B:Nat} {c:Cn} (h:Now w B c) {i:Nat} (hi:i<6):w.cell? ⟨B,i,none⟩=some (.int .i64 (c.at i)):=by
 unfold Now at h
 simp[World.cell?,h,c.at_cs hi]
theorem Now.free {w:World} {B:Nat} {c:Cn} (h:Now w B c) (i:Nat):w.frozen? ⟨B,i,none⟩=false:=by
 unfold Now at h
 simp[World.frozen?,h]
theorem Now.set {w:World} {B:Nat} {c:Cn} (h:Now w B c) {i:Nat} (hi:i<6) (k x:Int) (hx:x=c.at i+k):Now (w.setCell ⟨B,i,none⟩ (.int .i64 x)) B (c.add k i):=by
 unfold Now at *
 subst hx
 match i,hi with
 | 0,_=>simp[World.setCell,Array.getElem?_modify,h,Cn.cs,Cn.add,Cn.at]
 | 1,_=>simp[World.setCell,Array.getElem?_modify,h,Cn.cs,Cn.add,Cn.at]
 | 2,_=>simp[World.setCell,Array.getElem?_modify,h,Cn.cs,Cn.add,Cn.at]
 | 3,_=>simp[World.setCell,Array.getElem?_modify,h,Cn.cs,Cn.add,Cn.at]
 | 4,_=>simp[World.setCell,Array.getElem?_modify,h,Cn.cs,Cn.add,Cn.at]
 | 5,_=>simp[World.setCell,Array.getElem?_modify,h,Cn.cs,Cn.add,Cn.at]
theorem Now.keep {w w':World} {B:Nat} {c:Cn} (h:Now w B c) (e:w'.heap[B]?=w.heap[B]?):Now w' B c:=by unfold Now at *;rw[e];exact h
theorem undo_any (w:World) (u:FrameMode) (Bd Bn Bw Bo Bs:Nat) (done:Bool) (c:Cn) (o st:Nat) (A:Addr) (n cap:Nat)
 (hd:w.cell? ⟨Bd,0,none⟩=some (.bool done)) (hn:Now w Bn c) (hw:w.cell? ⟨Bw,0,none⟩=some (.int .i64 o)) (hb:w.cell? ⟨Bo,0,none⟩=some (.slice (some A) n cap)) (hs:w.cell? ⟨Bs,0,none⟩=some (.int .i64 st))
 (fo:w.frozen? ⟨Bo,0,none⟩=false) (ho:o<5) (hcap:st<cap) (hcm:cap≤maxLen) (n1:Bw≠Bn) (n2:Bo≠Bn) (n3:Bs≠Bn)
 (b1:-9223372036854775807≤c.at o) (b2:c.at o≤9223372036854775807) (b3:-9223372036854775807≤c.at 5) (b4:c.at 5≤9223372036854775807) :
 CallsD Tryz.prog 140 #[.pointer (some ⟨Bd,0,none⟩),.pointer (some ⟨Bn,0,none⟩),.pointer (some ⟨Bw,0,none⟩),.pointer (some ⟨Bo,0,none⟩),.pointer (some ⟨Bs,0,none⟩)] u w fun e u' w'=>u'=u∧e=.returned (.tuple #[]) ∧
  w'=if done then w else ((w.setCell ⟨Bn,o,none⟩ (.int .i64 (c.at o-1))).setCell ⟨Bn,5,none⟩ (.int .i64 (c.at 5-1))).setCell ⟨Bo,0,none⟩ (.slice (some A) st cap):=by
 have f0:=hn.free o
 have f5:=hn.free 5
 have c0:=hn.cell (i:=o) (by omega)
 have c5:=hn.cell (i:=5) (by omega)
 have hm:maxLen=9223372036854775807:=rfl
 generalize c.at o=x at *
 generalize c.at 5=y at *
 obtain rfl|rfl|rfl|rfl|rfl:o=0∨o=1∨o=2∨o=3∨o=4:=by omega
 all_goals
  cases done
  ·go_enter_d Tryz.func140,Tryz.ntmps140
   go_wp2
   go_end0
   first|rfl|exact⟨rfl,rfl⟩|exact⟨rfl,rfl,rfl⟩
  ·go_enter_d Tryz.func140,Tryz.ntmps140
   go_wp2
   go_end0
   first|rfl|exact⟨rfl,rfl⟩|exact⟨rfl,rfl,rfl⟩
structure Srch where
 b:Nat
 L:Nat
 may:List (List Int)
 mis:List Int
 left:Nat
 lf:Nat→Int→Bool
def Srch.rest (S:Srch):Nat→Cn→Option (List Int)
 | 0,_=>some []
 | n+1,c =>
   if S.left.testBit (S.L-(n+1)) then (S.rest n c.skip).map (fun r=>(-1:Int)::r)
   else (S.may.getD (S.L-(n+1)) []).findSome? fun o=>if c.at o.toNat<S.mis.getD o.toNat 0&&S.lf (S.L-(n+1)) o then (S.rest n (c.up o.toNat)).map (fun r=>o::r) else none
def Srch.giveCaps (S:Srch):Array Value:=#[.pointer (some ⟨S.b+3,0,none⟩),.pointer (some ⟨S.b+7,0,none⟩),.pointer (some ⟨S.b+8,0,none⟩)]
def Srch.growCaps (S:Srch):Array Value:=#[.pointer (some ⟨S.b+3,0,none⟩),.pointer (some ⟨S.b,0,none⟩),.pointer (some ⟨S.b+5,0,none⟩),.pointer (some ⟨S.b+1,0,none⟩),.pointer (some ⟨S.b+7,0,none⟩),.pointer (some ⟨S.b+8,0,none⟩),.pointer (some ⟨S.b+2,0,none⟩),.pointer (some ⟨S.b+9,0,none⟩)]
theorem j2m {W:World} {k g i:Nat} {o:Obj} {x:Value} (h:W.heap[k]?=some o) (hne:k≠g):(W.setCell ⟨g,i,none⟩ x).heap[k]?=some o:=(Below.heap_setCell W ⟨g,i,none⟩ x k hne).trans h
theorem j3s {w w':World} {b:Nat} {e:TypeId} {sz g cap n:Nat} {xs:List Value} (h:w.ownsRow b e sz (.slice (some ⟨g,0,none⟩) n cap) n xs) (k:w'.heap[g]?=w.heap[g]?) :
 w'.ownsRow b e sz (.slice (some ⟨g,0,none⟩) n cap) n xs:=by
 refine⟨h.1,?_⟩
 rcases h.2 with ⟨hv,_⟩|⟨g',cap',cur,hv,h1,h2,h3⟩
 ·cases hv
 ·cases hv
  exact .inr ⟨_,_,_,rfl,h1,k.trans h2,h3⟩
structure Env (S:Srch) (xs:Array Value) (lt:Value) (w:World):Prop where
 x:w.heap[S.b]?=some (.cells xs 172 (0,0))
 l:w.heap[S.b+1]?=some (.cells #[.int .u64 S.left] 155 (0,0))
 t:w.heap[S.b+2]?=some (.cells #[lt] 92 (0,0))
 m:w.heap[S.b+5]?=some (.cells #[.map (some (S.b+4))] 187 (0,0))
 v:w.heap[S.b+8]?=some (.cells #[.func (.func 141) #[] S.growCaps] 35 (0,0))
 g:w.heap[S.b+9]?=some (.cells #[.func (.func 139) #[] S.giveCaps] 92 (0,0))
structure St (S:Srch) (w:World) (c:Cn) (o:List Int) (K:List Cn):Prop where
 now:Now w (S.b+3) c
 out:w.heap[S.b+7]?=some (.cells #[.slice (some ⟨S.b+6,0,none⟩) o.length S.L] 25 (0,0))
 buf:w.ownsRow S.b 3 1 (.slice (some ⟨S.b+6,0,none⟩) o.length S.L) o.length (o.flatMap eInt)
 met:j5m w (S.b+4) K
 len:c.s=o.length
 ok:∀ i,i<5→0≤c.at i∧c.at i≤c.s
structure Fr (b:Nat) (w w':World):Prop where
 below:Below b w w'
 rest:∀ j,j<w.heap.size→j≠b+3→j≠b+4→j≠b+6→j≠b+7→w'.heap[j]?=w.heap[j]?
section
variable {b:Nat} {w w' w'':World}
theorem Fr.refl (b:Nat) (w:World):Fr b w w:=⟨Below.refl _ _,fun _ _ _ _ _ _=>rfl⟩
theorem Fr.trans (h:Fr b w w') (k:Fr b w' w''):Fr b w w'' :=
 ⟨h.below.trans k.below,fun j hj a c d e=>(k.rest j (Nat.lt_of_lt_of_le hj h.below.size) a c d e).trans (h.rest j hj a c d e)⟩
theorem Fr.of_below {B:Nat} (h:Below B w w') (hB:w.heap.size≤B) (hb:b≤w.heap.size):Fr b w w':=⟨h.mono (Nat.le_trans hb hB),fun j hj _ _ _ _=>h.block j (Nat.lt_of_lt_of_le hj hB)⟩
theorem Fr.set (h:Fr b w w') (hb:b≤w.heap.size) (a:Addr) (v:Value) (ha:a.block=b+3∨a.block=b+7∨w.heap.size≤a.block):Fr b w (w'.setCell a v) :=
 ⟨h.below.setCell (by omega) v,fun j hj h3 h4 h6 h7=>(Below.heap_setCell w' a v j (by omega)).trans (h.rest j hj h3 h4 h6 h7)⟩
theorem Fr.grown (h:Fr b w w') (hb:b+6<w.heap.size) (hg:w'.grownBy w'' (some (b+6))):Fr b w w'' :=
 h.trans ⟨(Below.refl _ _).grown hg (by have:=h.below.size;omega) (fun k hk=>by cases hk;omega),fun j hj _ _ h6 _=>hg.block j hj (fun e=>h6 (by cases e;rfl))⟩
theorem Fr.put (h:Fr b w w') (hb:b≤w.heap.size) (ob:Obj) (hM:b+4<w'.heap.size):Fr b w { w' with heap:=w'.heap.setIfInBounds (b+4) ob } :=
 h.trans ⟨⟨rfl,rfl,rfl,by simp,fun k hk=>by show(w'.heap.setIfInBounds (b+4) ob)[k]?=_;rw[Array.getElem?_setIfInBounds_ne (by omega)]⟩,fun j hj _ h4 _ _=>by simp[Ne.symm h4]⟩
end
theorem Env.fr {S:Srch} {xs:Array Value} {lt:Value} {w w':World} (h:Env S xs lt w) (k:Fr S.b w w'):Env S xs lt w':=by
 obtain⟨h0,h1,h2,h3,h4,h5⟩:=h
 exact⟨(k.rest _ (j0a h0) (by omega) (by omega) (by omega) (by omega)).trans h0,(k.rest _ (j0a h1) (by omega) (by omega) (by omega) (by omega)).trans h1,(k.rest _ (j0a h2) (by omega) (by omega) (by omega) (by omega)).trans h2,
  (k.rest _ (j0a h3) (by omega) (by omega) (by omega) (by omega)).trans h3,(k.rest _ (j0a h4) (by omega) (by omega) (by omega) (by omega)).trans h4,(k.rest _ (j0a h5) (by omega) (by omega) (by omega) (by omega)).trans h5⟩
def Srch.sound (S:Srch) (K:List Cn):Prop:=∀ k,k∈K→∀ n,n≤S.L→k.s=(S.L-n:Nat)→S.rest n k=none
def Srch.Grows (S:Srch) (xs:Array Value) (lt:Value) (w0:World) (n:Nat):Prop :=
 ∀ (w:World) (c:Cn) (o:List Int) (K:List Cn),Below S.b w0 w→Env S xs lt w→St S w c o K→S.sound K→n≤S.L→o.length=S.L-n →
  Calls Tryz.prog 141 S.growCaps w fun e w'=>e=.returned (.bool (S.rest n c).isSome)∧Fr S.b w w' ∧
   ∃ c' o' K',St S w' c' o' K'∧S.sound K'∧(∀ r,S.rest n c=some r→o'=o++r)∧(S.rest n c=none→c'=c∧o'=o)
theorem Cn.up_s (c:Cn) {i:Nat} (h:i<5):(c.up i).s=c.s+1:=by
 obtain rfl|rfl|rfl|rfl|rfl:i=0∨i=1∨i=2∨i=3∨i=4:=by omega
 all_goals rfl
theorem Cn.up_at (c:Cn) {i j:Nat} (h:i<5) (hj:j<5):(c.up i).at j=if j=i then c.at j+1 else c.at j:=by
 obtain rfl|rfl|rfl|rfl|rfl:i=0∨i=1∨i=2∨i=3∨i=4:=by omega
 all_goals
  obtain rfl|rfl|rfl|rfl|rfl:j=0∨j=1∨j=2∨j=3∨j=4:=by omega
  all_goals rfl
theorem Cn.up_down (c:Cn) {i:Nat} (h:i<5):(((c.up i).add (-1) i).add (-1) 5)=c:=by
 obtain rfl|rfl|rfl|rfl|rfl:i=0∨i=1∨i=2∨i=3∨i=4:=by omega
 all_goals simp[Cn.up,Cn.add,Int.add_neg_cancel_right]
theorem Cn.skip_s (c:Cn):c.skip.s=c.s+1:=rfl
theorem Cn.skip_at (c:Cn) {j:Nat} (hj:j<5):c.skip.at j=c.at j:=by
 obtain rfl|rfl|rfl|rfl|rfl:j=0∨j=1∨j=2∨j=3∨j=4:=by omega
 all_goals rfl
theorem Cn.skip_down (c:Cn):c.skip.add (-1) 5=c:=by simp[Cn.skip,Cn.add,Int.add_neg_cancel_right]
theorem k8u {w:World} {b:Nat} {e:TypeId} {g cap:Nat} {l r:List Int} (h:w.ownsRow b e 1 (.slice (some ⟨g,0,none⟩) (l++r).length cap) (l++r).length ((l++r).flatMap eInt)) :
 w.ownsRow b e 1 (.slice (some ⟨g,0,none⟩) l.length cap) l.length (l.flatMap eInt):=by
 have hl:∀ z:List Int,(z.flatMap eInt).length=z.length:=fun z=>by induction z with
  | nil=>rfl
  | cons a z ih=>simp[eInt] at *;exact ih
 refine⟨by simp[hl],?_⟩
 rcases h.2 with ⟨hv,_⟩|⟨g',cap',cur,hv,h1,h2,h3,h4,h5,h6⟩
 ·cases hv
 ·cases hv
  refine .inr ⟨_,_,_,rfl,h1,h2,by simp at h3;omega,h4,h5,?_⟩
  have:=congrArg (List.take l.length) h6
  rw[List.take_take] at this
  simp only[Nat.mul_one] at this ⊢
  rw[Nat.min_eq_left (by simp)] at this
  rw[this,List.flatMap_append,List.take_append_of_le_length (by rw[hl];exact zL9 _),List.take_of_length_le (by rw[hl];exact zL9 _)]
end Go.Proofs.YtmennjmjakdkcaaGreat
