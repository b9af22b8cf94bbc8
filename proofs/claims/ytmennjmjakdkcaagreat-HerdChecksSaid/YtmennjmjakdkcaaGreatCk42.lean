/- HerdChecks 42: HdW, QTailIn. -/
import Derived.Test.YtmennjmjakdkcaaGreatCk01
import Derived.Test.YtmennjmjakdkcaaGreatCk39
import Derived.Test.YtmennjmjakdkcaaGreatCk37
import Derived.StillTail
set_option linter.unusedVariables false
set_option linter.unusedSimpArgs false
namespace Go.Proofs.YtmennjmjakdkcaaGreat
open Go.RowKit Go.MapKept
theorem NowIn.turn {p:Nat} {b:Hb} {d o d' o':Int} {w w':World} (h:NowIn p (b.bk d o) w w'):NowIn p (b.bk d' o') w ((w'.setCell ⟨p,5,none⟩ (.int .i64 d')).setCell ⟨p,6,none⟩ (.int .i64 o')):=by
 obtain ⟨n,hn⟩:=h.hp
 refine ⟨h.os,h.tape,h.output,by simpa using h.size,fun k hk hne => ((Below.heap_setCell _ ⟨p,6,none⟩ _ _ hne).trans (Below.heap_setCell _ ⟨p,5,none⟩ _ _ hne)).trans (h.block k hk hne),⟨n,?_⟩⟩
 exact (j0d (j0d hn)).trans (by simp)
theorem Work.turn {w0 w w':World} {p:Nat} {b:Hb} {d o d' o':Int} (h:Work w0 p b d o w) (k:NowIn p (b.bk d' o') w w'):Work w0 p b d' o' w':=⟨h.hin,h.hz,h.bel.trans (k.less h.hz h.bel.size),k.hp,h.ck⟩
theorem NowIn.other {p:Nat} {O O':Int→Obj} {a b c:World} (h:NowIn p O a b) (k:NowIn p O' b c):NowIn p O' a c :=
 ⟨k.os.trans h.os,k.tape.trans h.tape,k.output.trans h.output,Nat.le_trans h.size k.size,fun i hi hne => (k.block i (Nat.lt_of_lt_of_le hi h.size) hne).trans (h.block i hi hne),k.hp⟩
def j2n (b:Hb) (deed:Int) (k:Nat):List Int:=((List.range k).filter fun (o:Nat) => !decide (b.ends deed (o:Int) = [])).map Int.ofNat
theorem k7o (b:Hb) (deed:Int) (k:Nat):j2n b deed (k + 1) = j2n b deed k ++ if (!decide (b.ends deed (k:Int) = [])) = true then [(k:Int)] else []:=by
 unfold j2n
 rw [List.range_succ,List.filter_append,List.map_append]
 congr 1
 by_cases h:b.ends deed (k:Int) = [] <;> simp [h]
theorem k1n (b:Hb) (deed:Int) (k:Nat):(j2n b deed k).length ≤ k:=by
 unfold j2n
 rw [List.length_map]
 have:=List.length_filter_le (fun (o:Nat) => !decide (b.ends deed (o:Int) = [])) (List.range k)
 simpa using this
def j3x (b:Hb) (deed:Int):Int :=
 if b.chk ≠ 0 then b.chk else if ownB b.ds.length deed = false then 3 else if (b.ds[deed.toNat]?.map De.kind) ≠ some 5 then 8 else if j2n b deed b.l.length = [] then 11 else 0
def k0j (b:Hb) (deed:Int):List Int:=if j3x b deed = 0 then j2n b deed b.l.length else []
def k2g (b:Hb) (deed:Int) (w:World) (e:Ending) (w':World):Prop:=(∃ v,e = .returned (.tuple #[v,.int .i64 (j3x b deed)])∧OwnI w' w.heap.size v (k0j b deed))∧Below w.heap.size w w'
theorem j7z {b:Hb} {deed:Int} {w w':World} {e:Int} (he:j3x b deed = e) (h0:e ≠ 0) (hb:Below w.heap.size w w'):k2g b deed w (.returned (.tuple #[.slice none 0 0,.int .i64 e])) w':=by
 refine ⟨⟨_,by rw [he],?_⟩,hb⟩
 unfold k0j
 rw [he,if_neg h0]
 exact Own.nil_
set_option maxRecDepth 100000 in
set_option maxHeartbeats 1000000 in
theorem q0p (b:Hb) (deed:Int) (w:World) (hin:HbIn w b):Calls Tryz.prog 46 #[b.v,.int .i64 deed] w (k2g b deed w):=by
 obtain ⟨V,hV⟩:∃ V,V = w.alloc b.obj:=⟨_,rfl⟩
 obtain ⟨g,hg⟩:∃ g,g = w.heap.size:=⟨_,rfl⟩
 have b0:V.heap[g]? = some b.obj:=by rw [hV,hg];exact j0c rfl
 have hBV:Below w.heap.size w V:=by rw [hV];exact bal0 w _
 have hiV:=hin.below hBV (zL9 _)
 obtain ⟨c0,c1,c2,c3,c4⟩:=j0i b0
 have hak:=j6d b V hiV
 unfold Hb.v at hak
 have HV:=zQ9 (zA9 hBV (zA9 b0 (zA9 hiV hg)))
 unfold Hb.v
 go_enter Tryz.func46,Tryz.ntmps46
 go_upto_region 1 with (fail)
 rw [← hV,← hg]
 clear hV hg hin hBV hiV b0
 obtain ⟨R,hR⟩:∃ R,R = j3k b b.chk V:=⟨_,rfl⟩
 rw [← hR] at hak
 have HR:=zQ9 hR
 clear hR
 go_upto_region 2 with (go_at_call 55;refine hak.mono ?_;rintro e w2 hRR;rw [HR.out] at hRR;unfold j3k at hRR;rcases hRR with ⟨h0,rfl,hb2⟩ | ⟨h0,p,rfl,hWk,hb2⟩)
 ·have xf:(b.chk != 0) = true:=by simp [h0]
  go_wp2_with fail
  go_ret2
  exact j7z (by unfold j3x;rw [if_pos h0]) h0 (HV.out.1.trans (hb2.mono HV.out.1.size))
 have x0:=j0f HV.out.2.1 hb2 (zL9 _)
 have hok:=hWk.ok
 have hgp:g ≠ p:=by have:=hWk.hz;have:=j0a HV.out.2.1;omega
 clear c0 c1 c2 c3 c4 hak
 obtain ⟨c0,c1,c2,c3,c4⟩:=j0i x0
 have hpl:=hWk.lt
 have hdw:=hWk.inn.d
 obtain ⟨n,hn⟩:∃ n,n = b.l.length:=⟨_,rfl⟩
 obtain ⟨nd,hnd⟩:∃ nd,nd = b.ds.length:=⟨_,rfl⟩
 obtain ⟨Ad,hAd⟩:∃ Ad,Ad = b.Ad:=⟨_,rfl⟩
 rw [← hn] at c1
 rw [← hnd,← hAd] at c4 hdw
 have hn0:0 < n∧n ≤ 5:=by rw [hn];exact ⟨hok.n0,hok.n5⟩
 have hd6:nd ≤ 6:=by rw [hnd];exact hok.d6
 have H2:=zQ9 (zA9 hb2 (zA9 hWk (zA9 h0 (zA9 hn (zA9 hnd (zA9 hok (zA9 hgp (zA9 x0 (HV.out.1.trans (hb2.mono HV.out.1.size))))))))))
 clear hb2 hWk h0 hn hnd hok hgp x0 hAd
 obtain ⟨ob,hob⟩:∃ ob,ob = ownB nd deed:=⟨_,rfl⟩
 have hbt:=j2d deed 0 ((nd:Int) - 1) w2
 rw [show btw deed 0 ((nd:Int) - 1) = ob from hob.symm] at hbt
 have HOB:=zQ9 hob
 clear hob
 cases ob with
 | false =>
   go_wp2_with (go_at_call 102;refine hbt.mono ?_;rintro e w' ⟨rfl,rfl⟩)
   go_ret2
   exact j7z (by unfold j3x;rw [if_neg (by rw [H2.out.2.2.1];simp),← H2.out.2.2.2.2.1,← HOB.out,if_pos rfl]) (by decide) H2.out.2.2.2.2.2.2.2.2
 | true =>
 obtain ⟨hd0,hdl⟩:=j1l.1 HOB.out.symm
 obtain ⟨dn,rfl⟩:=Int.eq_ofNat_of_zero_le hd0
 have hdn:dn < nd:=by omega
 obtain ⟨bi,oi,d,hA,hbi,hdk,d0,d1,d2,d3,d4,d5,d6,d7,d8,d9,d10,d11⟩:=Deeds.get hdw hdn
 subst hA
 have HD:=zQ9 hdk
 clear hdk hdw hbi d1 d2 d3 d4 d5 d6 d7 d8 d9 d10 d11
 by_cases hk5:d.kind = 5
 ·rw [hk5] at d0
  have hwe:j3x b dn = if j2n b dn b.l.length = [] then 11 else 0:=by
   unfold j3x
   rw [if_neg (by rw [H2.out.2.2.1];simp),← H2.out.2.2.2.2.1,← HOB.out,if_neg (by simp),if_neg (by rw [Int.toNat_natCast,HD.out];simp [hk5])]
  have HWE:=zQ9 hwe
  clear hwe hk5
  go_wp2_with (go_at_call 102;refine hbt.mono ?_;rintro e w' ⟨rfl,rfl⟩)
  go_loopg [8,36] n (fun g' v8 v36 wr => ∃ k:Nat,k + g' = n∧v36 = .int .i64 k∧OwnI wr w2.heap.size v8 (j2n b dn k)∧∃ dd oo,NowIn p (b.bk dd oo) w2 wr)
  case atStart => exact ⟨0,by omega,rfl,Own.nil_,_,_,H2.out.2.1.refl⟩
  case round =>
   obtain ⟨k,hk,rfl,hown,dd,oo,hN⟩:=hrel
   by_cases hlt:k < n
   ·have i1:(k:Int) < (n:Int):=by omega
    obtain ⟨nw,hpb⟩:=hN.hp
    obtain ⟨p0,p1,p2,p3,p4,p5,p6,p7⟩:=blkB hpb
    have fz5:=frz hpb 5
    have fz6:=frz hpb 6
    have hpr:=j0a hpb
    have HK:=zQ9 (zA9 hk (zA9 hown hN))
    clear hk hown hN hpb p0 p1 p2 p3 p4 p7
    go_upto_region 13 with (fail)
    have hN3:=HK.out.2.2.turn (d':=(dn:Int)) (o':=(k:Int))
    have hown3:OwnI ((wr.setCell ⟨p,5,none⟩ (Value.int .i64 (dn:Int))).setCell ⟨p,6,none⟩ (Value.int .i64 (k:Int))) w2.heap.size u8 (j2n b dn k) :=
     Own.now (O:=b.bk dn k) HK.out.2.1 (a:=wr) ⟨rfl,rfl,rfl,by simp,fun j _ hne => (Below.heap_setCell _ ⟨p,6,none⟩ _ _ hne).trans (Below.heap_setCell _ ⟨p,5,none⟩ _ _ hne),hN3.hp⟩ hpl
    generalize ((wr.setCell ⟨p,5,none⟩ (Value.int .i64 (dn:Int))).setCell ⟨p,6,none⟩ (Value.int .i64 (k:Int))) = w3 at hN3 hown3 ⊢
    have htr:=k5e V p b dn k w3 (H2.out.2.1.turn hN3)
    obtain ⟨tb,htb⟩:∃ tb,tb = !decide (b.ends (dn:Int) (k:Int) = []):=⟨_,rfl⟩
    rw [← htb] at htr
    have HTB:=zQ9 htb
    have H3:=zQ9 (zA9 hN3 hown3)
    clear htb hN3 hown3 p5 p6 fz5 fz6
    have hstp:=k7o b dn k
    rw [← HTB.out] at hstp
    have HST:=zQ9 hstp
    have hll:=k1n b dn k
    clear hstp
    cases tb with
    | false =>
      go_wp2_with (go_at_call 81;refine htr.mono ?_;rintro e w4 ⟨rfl,hN4⟩)
      go_roundg (gk - 1)
      case measure => have:=HK.out.1;omega
      case rel => exact ⟨k + 1,by have:=HK.out.1;omega,by go_num,by rw [HST.out];simpa using Own.now H3.out.2 hN4 hpl,dn,k,H3.out.1.other hN4⟩
    | true =>
      go_upto_region 14 with (go_at_call 81;refine htr.mono ?_;rintro e w4 ⟨rfl,hN4⟩)
      have hown4:=Own.now H3.out.2 hN4 hpl
      have hN4':=H3.out.1.other hN4
      have hz4:=hN4'.size
      have H4:=zQ9 (zA9 hN4' hown4)
      clear hN4 hN4' hown4
      go_wp2_with (at_builtin;refine j8l j5i rfl (.tmp 49) (.tmp 51) rfl w2.heap.size _ (j2n b dn k) (k:Int) _ rfl rfl rfl rfl (j3r _) H4.out.2 ?_ ?_ ?_ ?_;(omega);(omega);(omega);intro v' w5 hown5 hb5 _ hz5;have H5:=zQ9 (zA9 hown5 hb5);clear hown5 hb5)
      go_roundg (gk - 1)
      case measure => have:=HK.out.1;omega
      case rel => exact ⟨k + 1,by have:=HK.out.1;omega,by go_num,by rw [HST.out];simpa using H5.out.1,dn,k,H4.out.1.below hpl H5.out.2 (zL9 _)⟩
   ·obtain rfl:k = n:=by omega
    obtain ⟨Av,cv,hve,hsl,hlc,hcm⟩:=hown.form j0s
    have hbw:Below w.heap.size w wr:=H2.out.2.2.2.2.2.2.2.2.trans (hN.less (Nat.le_trans HV.out.1.size H2.out.2.1.hz) (Nat.le_trans HV.out.1.size H2.out.1.size))
    obtain ⟨L,hL⟩:∃ L,L = j2n b dn k:=⟨_,rfl⟩
    rw [← hL] at hve
    have hLl:L.length ≤ 5:=by rw [hL];have:=k1n b dn k;omega
    have HF:=zQ9 (zA9 hown (zA9 hbw hL))
    subst hve
    clear hown hN hk hsl hlc hcm hbw hL
    by_cases hLn:L.length = 0
    ·have x0:((L.length:Int) == 0) = true:=by simp [hLn]
     have HLN:=zQ9 hLn
     clear hLn
     go_wp2_with fail
     go_ret2
     refine j7z ?_ (by decide) HF.out.2.1
     rw [HWE.out,← H2.out.2.2.2.1,← HF.out.2.2,if_pos (List.eq_nil_of_length_eq_zero HLN.out)]
    ·have x0:((L.length:Int) == 0) = false:=by simp;exact fun e => hLn (by rw [e];rfl)
     have HLN:=zQ9 hLn
     clear hLn
     go_wp2_with fail
     go_ret2
     have h0:j3x b dn = 0:=by
      rw [HWE.out,← H2.out.2.2.2.1,← HF.out.2.2,if_neg (fun e => HLN.out (by rw [e];rfl))]
     unfold k2g k0j
     rw [h0,if_pos rfl]
     refine ⟨⟨_,rfl,?_⟩,HF.out.2.1⟩
     have:=HF.out.1
     rw [← HF.out.2.2] at this
     rw [← H2.out.2.2.2.1,← HF.out.2.2]
     exact this.mono (Nat.le_trans HV.out.1.size H2.out.1.size)
 ·have x5:(d.kind != 5) = true:=by simp [hk5]
  have HK5:=zQ9 hk5
  clear hk5
  go_wp2_with (go_at_call 102;refine hbt.mono ?_;rintro e w' ⟨rfl,rfl⟩)
  go_ret2
  refine j7z ?_ (by decide) H2.out.2.2.2.2.2.2.2.2
  unfold j3x
  rw [if_neg (by rw [H2.out.2.2.1];simp),← H2.out.2.2.2.2.1,← HOB.out,if_neg (by simp),if_pos]
  rw [Int.toNat_natCast,HD.out]
  simpa using HK5.out
end Go.Proofs.YtmennjmjakdkcaaGreat
namespace Go.Proofs.YtmennjmjakdkcaaGreat
open Go.RowKit Go.Sort
section
variable {F:Fence} {n:Nat} {P:Program} {ops:Array Oper} {md:Region.Mode} {C:World→Prop}
def j8e (F:Fence) (n:Nat) (P:Program) (md:Region.Mode) (ops:Array Oper) (C:World→Prop) (m:Nat) (L:Array Bool→Act→Prop):Nat→Array Bool→Act→Prop
 | 0,listed,a => L listed a
 | f + 1,listed,a =>
   Region.ready md ops listed ≠ []∧∀ i ∈ Region.ready md ops listed,i < m∧qOpIn F n P ops C i (j8e F n P md ops C m L f (listed.setIfInBounds i true)) a
theorem k5j (hnd:∀ (i:Nat) o,ops[i]? = some o→∀ c,o.op ≠ .defer c) {i:Nat} {a:Act} {K:Act→Prop} {K':Act→World→Prop} {Q':Exit→Act→World→Prop} {w:World} (hC:C w) (h:∀ a w',C w'→K a→K' a w')
 (hh:qOpIn F n P ops C i K a):wpOpIn F n P ops Q' i K' a w:=by
 unfold qOpIn at hh
 unfold wpOpIn
 cases ho:ops[i]? with
 | none => simp only [ho] at hh ⊢;exact h _ _ hC hh
 | some o =>
   simp only [ho] at hh ⊢
   obtain ⟨ha,hh⟩:=hh
   split
   ·rename_i hw
    simp only [hw,if_true] at hh
    exact k3b (hnd i o ho) hC h ha hh
   ·rename_i hw
    simp only [hw] at hh
    exact ⟨ha w hC,h _ _ hC hh⟩
theorem j9m (hnd:∀ (i:Nat) o,ops[i]? = some o→∀ c,o.op ≠ .defer c) {m g:Nat} {L:Array Bool→Act→Prop} {Q':Exit→Act→World→Prop} (hL:∀ listed a w,C w→L listed a→wpAnyIn F n P md ops Q' g listed a w) :
 ∀ (f:Nat) (listed:Array Bool) (a:Act) (w:World),C w→j8e F n P md ops C m L f listed a→wpAnyIn F n P md ops Q' (f + g) listed a w
 | 0,listed,a,w,hw,h => by rw [Nat.zero_add];exact hL _ _ _ hw h
 | f + 1,listed,a,w,hw,h => by
   rw [show f + 1 + g = (f + g) + 1 by omega]
   exact ⟨fun h0 => absurd h0 h.1,fun i hi => k5j hnd hw (fun a' w' hw' h' => j9m hnd hL f _ a' w' hw' h') (h.2 i hi).2⟩
theorem k5i {m i:Nat} {oi:Oper} {v:Value} {L:Array Bool→Act→Prop} (hi:ops[i]? = some oi) (hsel:∀ (j:Nat) (o:Oper) cs b,ops[j]? = some o→o.op ≠ .select cs b)
 (hs:Region.sinkB md ops m = true) (hc:Region.chainB md ops m = true) (hn:m < ops.size) (hin:i < m)
 (hdone:∀ listed a,L listed a→∀ j ∈ Region.ready md ops listed,m ≤ j) :
 ∀ (f:Nat) (listed:Array Bool) (a:Act),HeadInv md ops m listed →
  (∀ j oj,ops[j]? = some oj→j ≠ i→listed.getD j true = false→(∀ e ∈ oj.after,Region.binds md e = true→e.on ≠ i)→oi.apart ops oj = true) →
  i ∈ Region.ready md ops listed→YieldsQuiet F n P ops C oi v a →
  j8e F n P md ops C m L f (listed.setIfInBounds i true) (a.put oi.dst v)→j8e F n P md ops C m L (f + 1) listed a:=by
 intro f
 induction f with
 | zero =>
   intro listed a inv _ hr hy H
   have hun:=(mem_ready.1 hr).1
   refine ⟨fun h => (by rw [h] at hr;cases hr),fun j hj => ?_⟩
   have hjn:j < m:=by
    rcases Nat.lt_or_ge j m with h | h
    ·exact h
    ·exact absurd hj (tail_waits hs hc hn inv _ i rfl hin hun j h)
   refine ⟨hjn,?_⟩
   by_cases hji:j = i
   ·subst hji;exact hy.qOpIn hi H
   ·have:=hdone _ _ H j (ready_mono hj hji)
    omega
 | succ f ih =>
   intro listed a inv hfree hr hy H
   have hun:=(mem_ready.1 hr).1
   refine ⟨fun h => (by rw [h] at hr;cases hr),fun j hj => ?_⟩
   have hjn:j < m:=by
    rcases Nat.lt_or_ge j m with h | h
    ·exact h
    ·exact absurd hj (tail_waits hs hc hn inv _ i rfl hin hun j h)
   refine ⟨hjn,?_⟩
   by_cases hji:j = i
   ·subst hji;exact hy.qOpIn hi H
   ·have h1:=(H.2 j (ready_mono hj hji)).2
    obtain ⟨hjun,oj,hoj,hall⟩:=mem_ready.1 hj
    have hnot:∀ e ∈ oj.after,Region.binds md e = true→e.on ≠ i:=fun e he hb heq => by
     have h1:=hall e he hb
     rw [heq,getD_both hun] at h1
     cases h1
    have h2:=qOpIn_put hoj (hfree j oj hoj hji hjun hnot) (fun cs b => hsel i oi cs b hi) (fun cs b => hsel j oj cs b hoj) hy h1
    have hfree':∀ k ok,ops[k]? = some ok→k ≠ i→(listed.setIfInBounds j true).getD k true = false →
     (∀ e ∈ ok.after,Region.binds md e = true→e.on ≠ i)→oi.apart ops ok = true:=fun k ok hk hki hun hno => by
     refine hfree k ok hk hki ?_ hno
     by_cases hjk:j = k
     ·subst hjk;exact hjun
     ·rw [getD_set_ne true hjk] at hun;exact hun
    refine qOpIn_mono (fun a' h3 => ih (listed.setIfInBounds j true) a' (inv.set hj hjn) hfree' (ready_mono hr (Ne.symm hji)) h3.1 ?_) h2
    rw [Array.setIfInBounds_comm _ _ hji]
    exact h3.2
theorem k0x {m g:Nat} {Lq:Act→Prop} (hsel:Region.noSelect ops = true) (hs:Region.sinkB md ops m = true) (hc:Region.chainB md ops m = true) (hn:m < ops.size) :
 ∀ (l:List Oper) (k:Nat) (listed:Array Bool) (a:Act),(∀ j,j < l.length→l[j]? = ops[k + j]?)→k + l.length = m→HeadInv md ops m listed →
 Region.lexHead md ops g l.length k listed = true→wpQuietIn F n P ops C Lq l a →
 j8e F n P md ops C m (fun listed' a' => Region.seqB md ops g m listed' = true∧Lq a') l.length listed a
 | [],k,listed,a,_,hk,_,hB,h => by
   have:k = m:=by simpa using hk
   subst this
   exact ⟨by simpa [Region.lexHead] using hB,h⟩
 | o :: l,k,listed,a,hl,hk,inv,hB,h => by
   have h0:ops[k]? = some o:=by simpa using (hl 0 (by simp)).symm
   simp only [List.length_cons,Region.lexHead,Bool.and_eq_true] at hB
   obtain ⟨⟨hr,hf⟩,hB'⟩:=hB
   have hkn:k < m:=by simp only [List.length_cons] at hk;omega
   have hr':k ∈ Region.ready md ops listed:=by simpa using hr
   have hst:qOpIn F n P ops C k (wpQuietIn F n P ops C Lq l) a:=by unfold qOpIn;simp only [h0];exact h
   obtain ⟨v,hy,hK⟩:=yieldsQuiet_of_qOpIn h0 hst
   exact k5i h0 (Region.noSelect_spec hsel) hs hc hn hkn (fun listed' a' hL => seqB_ready hL.1) l.length listed a inv (Region.free_spec h0 hf) hr' hy
    (k0x hsel hs hc hn l (k + 1) _ _ (fun j hj => by have:=hl (j + 1) (by simp;omega);simpa [Nat.add_assoc,Nat.add_comm 1 j] using this) (by simp only [List.length_cons] at hk;omega) (inv.set hr' hkn) hB' hK)
theorem j9o {Q':Exit→Act→World→Prop}:∀ (l:List Oper) (k:Nat) (listed:Array Bool) (a:Act) (w:World),(∀ j,l[j]? = ops[k + j]?) →
 Region.seqB md ops l.length k listed = true→wpListIn F n P ops Q' l a w→wpAnyIn F n P md ops Q' l.length listed a w
 | [],_,_,_,_,_,hB,h => ⟨by simpa [Region.seqB] using hB,h⟩
 | o :: l,k,listed,a,w,hl,hB,h => by
   have h0:ops[k]? = some o:=by simpa using (hl 0).symm
   simp only [List.length_cons,Region.seqB,Bool.and_eq_true,decide_eq_true_eq] at hB
   refine ⟨fun h1 => (by rw [hB.1] at h1;cases h1),fun i hi => ?_⟩
   rw [hB.1] at hi
   have hik:i = k:=by simpa using hi
   subst hik
   have hw:wpOpIn F n P ops Q' i (wpListIn F n P ops Q' l) a w:=by unfold wpOpIn;simp only [h0];exact h
   exact wpOpIn_mono (fun a' w' h' => j9o l (i + 1) _ a' w' (fun j => by have:=hl (j + 1);simpa [Nat.add_assoc,Nat.add_comm 1 j] using this) hB.2 h') hw
theorem k2a {id:Nat} {Q:Exit→Act→World→Prop} {a:Act} {w:World} {l:List Oper} (m:Nat) (hm:P.follows .mixedOrders = true) (hB:Region.lexTailB .any l.toArray m = true) (hnd:k3p l = true)
 (hC:C { w with drawn:=w.drawn + 1 })
 (h:wpQuietIn F n P l.toArray C (fun a' => ∀ w',C w'→wpListIn F n P l.toArray Q (l.drop m) a' w') (l.take m) a):(Code.region id l.toArray true).wpIn F n P Q a w:=by
 simp only [Region.lexTailB,Bool.and_eq_true,decide_eq_true_eq] at hB
 obtain ⟨⟨⟨⟨hsel,hn⟩,hs⟩,hc⟩,hlex⟩:=hB
 have hn':m < l.length:=by simpa using hn
 have htl:(l.take m).length = m:=by simp;omega
 have hdl:(l.drop m).length = l.toArray.size - m:=by simp
 have hd:∀ (i:Nat) o,l.toArray[i]? = some o→∀ c,o.op ≠ .defer c:=by
  intro i o ho c hc
  have hmem:o ∈ l:=by
   rw [List.getElem?_toArray] at ho
   exact List.mem_of_getElem? ho
  have:=List.all_eq_true.1 hnd o hmem
  rw [hc] at this
  cases this
 have inv0:HeadInv .any l.toArray m (Array.replicate l.toArray.size false) :=
  ⟨by simp,fun j oj _ hl => (by rw [getD_replicate_false] at hl;cases hl),fun t _ ht => getD_in (by simpa using ht) (getD_replicate_false _ _)⟩
 have H:=k0x (C:=C) (F:=F) (n:=n) (P:=P) (md:=.any) (g:=l.toArray.size - m) hsel hs hc hn (l.take m) 0 _ a (fun j hj => by
  have hj':j < m:=by rw [htl] at hj;exact hj
  simp [hj']) (by simpa using htl) inv0 (by rw [htl];exact hlex) h
 refine wpIn_region_any hm ?_
 have:=j9m (Q':=Q) (g:=l.toArray.size - m) hd (fun listed a' w' hw' hL => by
  have:=j9o (md:=.any) (Q':=Q) (l.drop m) m listed a' w' (fun j => by simp [List.getElem?_drop]) (by rw [hdl];exact hL.1) (hL.2 w' hw')
  rwa [hdl] at this) _ _ _ { w with drawn:=w.drawn + 1 } hC H
 rw [htl,show m + (l.toArray.size - m) = l.toArray.size by omega] at this
 exact this
theorem k1z {id:Nat} {Q:Exit→Act→World→Prop} {a:Act} {w:World} {l:List Oper} (m:Nat) (hm:P.follows .mixedOrders = true) (hB:Region.lexTailB .any l.toArray m = true) (hnd:k3p l = true)
 (h:wpQuietIn F n P l.toArray (fun w' => ∃ p:Regrown,w' = Sort.grow (redrawn w p.d) p.os) (fun a' => ∀ w',(∃ p:Regrown,w' = Sort.grow (redrawn w p.d) p.os)→wpListIn F n P l.toArray Q (l.drop m) a' w') (l.take m) a):(Code.region id l.toArray true).wpIn F n P Q a w :=
 k2a (C:=fun w' => ∃ p:Regrown,w' = Sort.grow (redrawn w p.d) p.os) m hm hB hnd ⟨⟨w.drawn + 1,#[]⟩,by rw [Sort.grow_empty];rfl⟩ h
end
end Go.Proofs.YtmennjmjakdkcaaGreat
