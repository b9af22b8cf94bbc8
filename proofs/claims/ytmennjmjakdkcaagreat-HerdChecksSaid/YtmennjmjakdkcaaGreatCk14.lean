/- HerdChecks 14: RefA, Rf9O. -/
import Derived.Test.YtmennjmjakdkcaaGreatCk04
import Derived.Test.YtmennjmjakdkcaaGreatCk01
import Derived.Test.YtmennjmjakdkcaaGreatCk06
import Derived.Test.YtmennjmjakdkcaaGreatCk13
set_option linter.unusedVariables false
set_option linter.unusedSimpArgs false
namespace Go.Proofs.YtmennjmjakdkcaaGreat
open Go.RowKit
theorem j5t (n lo hi:Int) (w:World) :
 Calls Tryz.prog 121 #[.int .i64 n,.int .i64 lo,.int .i64 hi] w fun e w' => e = .returned (.bool (btw n lo hi))∧w = w':=by
 by_cases h1:lo ≤ n <;> by_cases h2:n ≤ hi
 all_goals
  go_enter Tryz.func121,Tryz.ntmps121
  go_wp2
  go_ret
  exact ⟨by simp [btw,h1,h2],rfl⟩
theorem rHas (n:Int) (b:Nat) (w:World) (hn:0 ≤ n) (hn':n ≤ 255) (hb:b ≤ 8) :
 Calls Tryz.prog 123 #[.int .i64 n,.int .i64 b] w fun e w' => e = .returned (.bool (bit n b))∧w = w':=by
 obtain ⟨l,rfl⟩:=Int.eq_ofNat_of_zero_le hn
 have hl:l ≤ 255:=by omega
 go_enter Tryz.func123,Tryz.ntmps123
 go_wp2_with fail
 go_loopg [0,5] b (fun g x i wr => ∃ k:Nat,k + g = b∧i = .int .i64 k∧∃ q:Nat,x = .int .i64 q∧q = l / 2 ^ k∧w = wr)
 case atStart => exact ⟨0,by omega,rfl,l,rfl,by simp,rfl⟩
 case round =>
  obtain ⟨k,hk,rfl,q,rfl,hq,rfl⟩:=hrel
  have HK:=zQ9 (zA9 hk hq)
  have hkb:k ≤ b:=by omega
  have hql:q ≤ 255:=by have:=Nat.div_le_self l (2 ^ k);omega
  clear hk hq
  by_cases hlt:k < b
  ·go_wp2
   go_roundg (gk - 1)
   case measure => have:=HK.out.1;omega
   case rel =>
    refine ⟨k + 1,by have:=HK.out.1;omega,by go_num,q / 2,?_,by rw [HK.out.2,Nat.pow_succ,Nat.div_div_eq_div_mul],rfl⟩
    congr 1
  ·obtain rfl:k = b:=by omega
   go_wp2
   go_ret
   refine ⟨j0o ?_,rfl⟩
   unfold bit
   rw [Int.toNat_natCast,Nat.testBit_eq_decide_div_mod_eq,← HK.out.2,Bool.eq_iff_iff]
   simp only [beq_iff_eq,decide_eq_true_eq]
   omega
theorem rTorn (s:Sg) (b:Nat) (w:World) (hb:b ≤ 8) :
 Calls Tryz.prog 122 #[vSg s,.int .i64 b] w fun e w' => e = .returned (.bool (j1n s.l s.r b))∧Below w.heap.size w w':=by
 obtain ⟨sn,l,r,sb,sp⟩:=s
 unfold vSg
 by_cases h4:b < 4
 ·have h4':(b:Int) < 4:=by omega
  have h4c:¬ (4:Int) ≤ (b:Int):=by omega
  have h4n:¬ 4 ≤ b:=by omega
  cases l
  all_goals
   go_enter Tryz.func122,Tryz.ntmps122
   go_wp2
   go_ret
   exact ⟨j0o (by simp [j1n,h4,h4n]),bal0 _ _⟩
 ·have h4':¬ (b:Int) < 4:=by omega
  have h4c:(4:Int) ≤ (b:Int):=by omega
  have h4n:4 ≤ b:=by omega
  cases r
  all_goals
   go_enter Tryz.func122,Tryz.ntmps122
   go_wp2
   go_ret
   exact ⟨j0o (by simp [j1n,h4,h4n]),bal0 _ _⟩
theorem k3c (m:Mk) (w:World) :
 Calls Tryz.prog 130 #[vMk m] w fun e w' => e = .returned (.int .i64 (if mkOk m then 0 else 1))∧Below w.heap.size w w':=by
 obtain ⟨n,b,p⟩:=m
 obtain ⟨R,hR⟩:∃ R:Int,R = if mkOk ⟨n,b,p⟩ then 0 else 1:=⟨_,rfl⟩
 rw [← hR]
 have HR:=zQ9 hR
 clear hR
 unfold vMk
 cases h1:btw n 0 255 <;> cases h2:btw b 0 9 <;> cases h3:btw p 0 6
 all_goals
  have HE:=zQ9 (zA9 h1 (zA9 h2 h3))
  go_enter Tryz.func130,Tryz.ntmps130
  go_wp2_with (go_at_call 121;refine (j5t _ _ _ _).mono ?_;rintro e w' ⟨rfl,rfl⟩)
  go_ret
  refine ⟨j0k ?_,bal0 _ _⟩
  rw [HR.out]
  simp [mkOk,HE.out.1,HE.out.2.1,HE.out.2.2]
set_option maxRecDepth 100000 in
set_option maxHeartbeats 2000000 in
theorem rCheck (t:Int) (A:Option Addr) (n c:Nat) (l:List Mk) (w:World) (hc:Marks w A n l) (hlc:n ≤ c) (hcm:c ≤ maxLen) :
 Calls Tryz.prog 108 #[.agg #[.int .i64 t,.slice A n c]] w fun e w' => e = .returned (.int .i64 (check t l))∧Below w.heap.size w w':=by
 have hl:=hc.len
 have HL:=zQ9 hl
 unfold maxLen at hcm
 have hb0:Below w.heap.size w (w.alloc (Obj.cells #[Value.int .i64 t,Value.slice A n c] 24)):=bal0 w _
 by_cases h1:btw t 0 2 = true
 ·by_cases h2:n ≤ 5
  ·have hck:check t l = chk l (n - 0) 0:=by
    unfold check;rw [if_neg (by simp [h1]),if_neg (by omega),hl];rfl
   have HC:=zQ9 hck
   clear hl hck
   have h3:decide ((5:Int) < (n:Int)) = false:=by simp;omega
   go_enter Tryz.func108,Tryz.ntmps108
   go_wp2_with (go_at_call 121;refine (j5t _ _ _ _).mono ?_;rintro e w' ⟨rfl,rfl⟩)
   obtain ⟨W0,hW⟩:∃ W0,W0 = w.alloc (Obj.cells #[Value.int .i64 t,Value.slice A n c] 24):=⟨_,rfl⟩
   rw [← hW]
   have hblk:W0.heap[w.heap.size]? = some (Obj.cells #[Value.int .i64 t,Value.slice A n c] 24 (0,0)):=by rw [hW];exact j0c rfl
   rw [← hW] at hb0
   have hc0:=hc.below hb0 (zL9 _)
   clear hW hc
   have hw0:=j0a hblk
   have HC0:=zQ9 (zA9 hc0 (zA9 hblk hb0))
   clear hc0 hblk hb0
   go_loopg [3] n (fun g i wr => ∃ k:Nat,k + g = n∧i = .int .i64 k∧chk l (n - 0) 0 = chk l (n - k) k∧Below W0.heap.size W0 wr)
   case atStart => exact ⟨0,by omega,rfl,rfl,Below.refl _ _⟩
   case round =>
    obtain ⟨k,hk,rfl,hchk,hbl⟩:=hrel
    obtain ⟨wo,rfl⟩:∃ wo:World,wo = wr:=⟨_,rfl⟩
    obtain ⟨g1,rfl⟩:∃ g1:Nat,g1 = gk:=⟨_,rfl⟩
    have HK:=zQ9 (zA9 hk hchk)
    have hk':k ≤ n:=by omega
    clear hchk hk
    have hs0:=hbl.size
    obtain ⟨r0,r1⟩:=blk2 (j0f HC0.out.2.1 hbl (zL9 _))
    by_cases hlt:k < n
    ·obtain ⟨b,off,m,rfl,hb,hm,c0,c1,c2⟩:=Marks.get (HC0.out.1.below hbl (zL9 _)) hlt
     have HM:=zQ9 hm
     have HS:=zQ9 (k5y HL.out hlt hm)
     clear hm
     cases hmk:mkOk m
     ·have HE:=zQ9 hmk
      clear hmk
      go_wp2_with fail
      have hcm2:=k3c m wo
      rw [HE.out] at hcm2
      refine hcm2.mono ?_
      rintro e w2 ⟨rfl,hb2⟩
      have hbl2:=hbl.trans (hb2.mono hs0)
      go_wp2
      go_ret
      exact ⟨j0k (by rw [HC.out,HK.out.2,HS.out,if_pos HE.out]),HC0.out.2.2.trans (hbl2.mono HC0.out.2.2.size)⟩
     ·have HE:=zQ9 hmk
      clear hmk
      go_wp2_with fail
      have hcm2:=k3c m wo
      rw [HE.out] at hcm2
      refine hcm2.mono ?_
      rintro e w2 ⟨rfl,hb2⟩
      have hbl2:=hbl.trans (hb2.mono hs0)
      clear r0 r1 c0 c1 c2 hb2 hcm2
      simp only [if_true]
      go_wp2_with fail
      go_loopg [5] k (fun g i wr => ∃ q:Nat,q + g = k∧i = .int .i64 q∧(l.take q).contains m = false∧∃ d,wr = w2.drewN d)
      case atStart => exact ⟨0,by omega,rfl,by simp,0,rfl⟩
      case round =>
       obtain ⟨q,hq,rfl,hno,d,rfl⟩:=hrel
       have HQ:=zQ9 (zA9 hq hno)
       have hq':q ≤ k:=by omega
       clear hno hq
       obtain ⟨r0,r1⟩:=blk2 (j0f HC0.out.2.1 hbl2 (zL9 _))
       by_cases hqk:q < k
       ·obtain ⟨b1,off1,x,hA,hb1,hx,d0,d1,d2⟩:=Marks.get (HC0.out.1.below hbl2 (zL9 _)) (show q < n by omega)
        obtain ⟨b2,off2,y,hA2,hb2,hy,e0,e1,e2⟩:=Marks.get (HC0.out.1.below hbl2 (zL9 _)) hlt
        obtain ⟨rfl,rfl⟩:b = b1∧off = off1:=by simpa using hA
        obtain ⟨rfl,rfl⟩:b = b2∧off = off2:=by simpa using hA2
        obtain rfl:m = y:=Option.some.inj (HM.out.symm.trans hy)
        have HX:=zQ9 hx
        clear hx hA hA2 hy
        have i0:(0:Int) ≤ (q:Int):=by omega
        have i1:(q:Int) < (n:Int):=by omega
        have i2:(0:Int) ≤ (k:Int):=by omega
        have i3:(k:Int) < (n:Int):=by omega
        by_cases hxm:x = m
        ·subst hxm
         go_upto_region 14 with (fail)
         go_quiet (fail)
         go_wp2
         go_ret
         refine ⟨j0k ?_,?_⟩
         ·rw [HC.out,HK.out.2,HS.out,if_neg (by simp [HE.out]),if_pos (k7m HX.out hqk)]
         ·exact HC0.out.2.2.trans ((j0l (j0l hbl2 _) _).mono HC0.out.2.2.size)
        ·have HNE:=zQ9 hxm
         cases f1:(x.n == m.n) <;> cases f2:(x.b == m.b) <;> cases f3:(x.p == m.p)
         case true.true.true =>
          exfalso
          exact hxm (by cases x;cases m;simp at f1 f2 f3;simp [f1,f2,f3])
         all_goals
          clear hxm
          go_upto_region 14 with (fail)
          go_quiet (fail)
          go_wp2
          go_roundg (gk - 1)
          case measure => have:=HQ.out.1;omega
          case rel => exact ⟨q + 1,by have:=HQ.out.1;omega,by go_num,k3x HQ.out.2 HX.out HNE.out,_,rfl⟩
       ·obtain rfl:q = k:=by omega
        go_wp2
        go_roundg (g1 - 1)
        case measure => have:=HK.out.1;omega
        case rel =>
         refine ⟨q + 1,by have:=HK.out.1;omega,by go_num,?_,j0l hbl2 _⟩
         rw [HK.out.2,HS.out,if_neg (by simp [HE.out]),if_neg (by rw [HQ.out.2];simp)]
    ·obtain rfl:k = n:=by omega
     go_wp2
     go_ret
     exact ⟨j0k (by rw [HC.out,HK.out.2,Nat.sub_self];rfl),HC0.out.2.2.trans (hbl.mono HC0.out.2.2.size)⟩
  ·have h3:decide ((5:Int) < (n:Int)) = true:=by simp;omega
   have hck:check t l = 6:=by
    unfold check;rw [if_neg (by simp [h1]),if_pos (by omega)]
   have HC:=zQ9 hck
   clear hl hck
   go_enter Tryz.func108,Tryz.ntmps108
   go_wp2_with (go_at_call 121;refine (j5t _ _ _ _).mono ?_;rintro e w' ⟨rfl,rfl⟩)
   go_ret
   exact ⟨j0k HC.out.symm,hb0⟩
 ·have h1':btw t 0 2 = false:=by simpa using h1
  have hck:check t l = 1:=by
   unfold check;rw [if_pos h1']
  have HC:=zQ9 hck
  clear hl hck h1
  go_enter Tryz.func108,Tryz.ntmps108
  go_wp2_with (go_at_call 121;refine (j5t _ _ _ _).mono ?_;rintro e w' ⟨rfl,rfl⟩)
  go_ret
  exact ⟨j0k HC.out.symm,hb0⟩
def j4v (s:Sg) (k:Nat):Bool:=(List.range k).any fun i => j1n s.l s.r i && bit s.n i
theorem j9x (s:Sg) (k:Nat):j4v s (k + 1) = (j4v s k || (j1n s.l s.r k && bit s.n k)):=by
 unfold j4v;rw [List.range_succ,List.any_append];simp
theorem k2o {s:Sg} (h0:0 ≤ s.n) (h1:s.n ≤ 255):j4v s 8 = false ↔ onI s.n s.l s.r = s.n:=by
 constructor
 ·intro h
  refine j4n (j5j _ _ _) (j3e _ _ _) h0 h1 fun i hi => ?_
  rw [j2i _ _ _ _ hi]
  have:=(List.any_eq_false.1 h) i (by simpa using hi)
  revert this
  cases j1n s.l s.r i <;> cases bit s.n i <;> simp
 ·intro h
  refine List.any_eq_false.2 fun i hi => ?_
  have hi':i < 8:=by simpa using hi
  have:=j2i s.n s.l s.r i hi'
  rw [h] at this
  revert this
  cases j1n s.l s.r i <;> cases bit s.n i <;> simp
theorem k6f {s:Sg} {k:Nat} (hk:k < 8) (h:(j1n s.l s.r k && bit s.n k) = true):j4v s 8 = true:=by
 refine List.any_eq_true.2 ⟨k,by simpa using hk,h⟩
theorem seen_ref {s:Sg}:seen s 9 6 = if btw s.n 0 255 = false then 1 else if j4v s 8 then 8 else if btw s.b (-1) 9 && btw s.p (-1) 6 then 0 else 1:=by
 unfold seen
 by_cases h1:btw s.n 0 255 = false
 ·rw [if_pos h1,if_pos h1]
 ·rw [if_neg h1,if_neg h1]
  rw [Bool.not_eq_false,j0n] at h1
  by_cases h2:onI s.n s.l s.r = s.n
  ·rw [if_neg (by simp [h2]),(k2o h1.1 h1.2).2 h2]
   simp only [Bool.false_eq_true,if_false]
   have e3:(s.b ≠ -1∧btw s.b 0 9 = false) ↔ btw s.b (-1) 9 = false:=by rw [j8f,j8f];omega
   have e4:(s.p ≠ -1∧btw s.p 0 6 = false) ↔ btw s.p (-1) 6 = false:=by rw [j8f,j8f];omega
   simp only [e3,e4]
   cases btw s.b (-1) 9 <;> cases btw s.p (-1) 6 <;> rfl
  ·have h3:j4v s 8 = true:=by
    rw [← Bool.not_eq_false];exact fun h => h2 ((k2o h1.1 h1.2).1 h)
   rw [if_pos h2,h3];rfl
set_option maxRecDepth 100000 in
set_option maxHeartbeats 1000000 in
theorem k8b (s:Sg) (w:World) :
 Calls Tryz.prog 87 #[vSg s] w fun e w' => e = .returned (.int .i64 (seen s 9 6))∧Below w.heap.size w w':=by
 have HR:=zQ9 (seen_ref (s:=s))
 obtain ⟨R,hR⟩:∃ R,R = seen s 9 6:=⟨_,rfl⟩
 rw [← hR]
 have HRR:=zQ9 hR
 clear hR
 cases h1:btw s.n 0 255
 ·have HE:=zQ9 h1
  go_enter Tryz.func87,Tryz.ntmps87
  unfold vSg
  go_wp2_with (go_at_call 121;refine (j5t _ _ _ _).mono ?_;rintro e w' ⟨rfl,rfl⟩)
  go_ret
  exact ⟨j0k (by rw [HRR.out,HR.out,if_pos HE.out]),bal0 _ _⟩
 ·have hn:=j0n.1 h1
  have HE:=zQ9 h1
  obtain ⟨hn0,hn1⟩:=hn
  go_enter Tryz.func87,Tryz.ntmps87
  unfold vSg
  go_wp2_with (go_at_call 121;refine (j5t _ _ _ _).mono ?_;rintro e w' ⟨rfl,rfl⟩)
  clear h1
  obtain ⟨W0,hW⟩:∃ W0,W0 = w.alloc (Obj.cells #[Value.int .i64 s.n,.bool s.l,.bool s.r,.int .i64 s.b,.int .i64 s.p] 31):=⟨_,rfl⟩
  rw [← hW]
  have hblk:W0.heap[w.heap.size]? = some (Obj.cells #[Value.int .i64 s.n,.bool s.l,.bool s.r,.int .i64 s.b,.int .i64 s.p] 31 (0,0)):=by rw [hW];exact j0c rfl
  have hB0:Below w.heap.size w W0:=by rw [hW];exact bal0 w _
  clear hW
  have HB:=zQ9 (zA9 hblk hB0)
  clear hblk hB0
  go_loopg [3] 8 (fun g i wr => ∃ k:Nat,k + g = 8∧i = .int .i64 k∧j4v s k = false∧Below W0.heap.size W0 wr)
  case atStart => exact ⟨0,by omega,rfl,rfl,Below.refl _ _⟩
  case round =>
   obtain ⟨k,hk,rfl,hno,hbl⟩:=hrel
   have HK:=zQ9 (zA9 hk hno)
   have hk8:k ≤ 8:=by omega
   clear hk hno
   obtain ⟨s0,s1,s2,s3,s4⟩:=blk5 (j0f HB.out.1 hbl (zL9 _))
   by_cases hlt:k < 8
   ·have hlt':(k:Int) < 8:=by omega
    go_wp2_with fail
    refine (rTorn s k _ hk8).mono ?_
    rintro e w2 ⟨rfl,hb2⟩
    have hbl2:=hbl.trans (hb2.mono hbl.size)
    clear s0 s1 s2 s3 s4 hb2
    obtain ⟨s0,s1,s2,s3,s4⟩:=blk5 (j0f HB.out.1 hbl2 (zL9 _))
    cases ht:j1n s.l s.r k
    ·have HT:=zQ9 ht
     go_wp2
     go_roundg (gk - 1)
     case measure => have:=HK.out.1;omega
     case rel => exact ⟨k + 1,by have:=HK.out.1;omega,by go_num,by rw [j9x,HK.out.2,HT.out];rfl,hbl2⟩
    ·have HT:=zQ9 ht
     go_wp2_with fail
     refine (rHas s.n k _ hn0 hn1 hk8).mono ?_
     rintro e w3 ⟨rfl,rfl⟩
     cases hb:bit s.n k
     ·have HBT:=zQ9 hb
      go_wp2
      go_roundg (gk - 1)
      case measure => have:=HK.out.1;omega
      case rel => exact ⟨k + 1,by have:=HK.out.1;omega,by go_num,by rw [j9x,HK.out.2,HT.out,HBT.out];rfl,hbl2⟩
     ·have HBT:=zQ9 hb
      go_wp2
      go_ret
      have h8:=k6f hlt (show (j1n s.l s.r k && bit s.n k) = true by rw [HT.out,HBT.out];rfl)
      exact ⟨j0k (by rw [HRR.out,HR.out,if_neg (by rw [HE.out];simp),h8];rfl),HB.out.2.trans (hbl2.mono HB.out.2.size)⟩
   ·obtain rfl:k = 8:=by omega
    cases h2:btw s.b (-1) 9 <;> cases h3:btw s.p (-1) 6
    all_goals
     have H23:=zQ9 (zA9 h2 h3)
     go_wp2_with (go_at_call 121;refine (j5t _ _ _ _).mono ?_;rintro e w' ⟨rfl,rfl⟩)
     go_ret
     refine ⟨j0k ?_,HB.out.2.trans (hbl.mono HB.out.2.size)⟩
     rw [HRR.out,HR.out,if_neg (by rw [HE.out];simp),HK.out.2,H23.out.1,H23.out.2]
     rfl
def j5h (s:Sg) (m:Mk) (i:Nat):Bool:=!j1n s.l s.r i && (bit m.n i && !bit s.n i)
def j7w (s:Sg) (m:Mk) (i:Nat):Bool:=!j1n s.l s.r i && (!bit m.n i && bit s.n i)
def j8q (p:Nat→Bool) (k:Nat):Bool:=(List.range k).any p
def j7q (p:Nat→Bool) (k:Nat):Nat:=(List.range k).countP p
theorem j6j (p:Nat→Bool) (k:Nat):j8q p (k + 1) = (j8q p k || p k):=by unfold j8q;rw [List.range_succ,List.any_append];simp
theorem j6k (p:Nat→Bool) (k:Nat):j7q p (k + 1) = j7q p k + if p k then 1 else 0:=by
 unfold j7q;rw [List.range_succ,List.countP_append];cases h:p k <;> simp [h]
theorem cntTo_le (p:Nat→Bool) (k:Nat):j7q p k ≤ k:=by have:=List.countP_le_length (p:=p) (l:=List.range k);simpa [j7q] using this
theorem anyTo_at {p:Nat→Bool} {k:Nat} (hk:k < 8) (h:p k = true):j8q p 8 = true:=List.any_eq_true.2 ⟨k,by simpa using hk,h⟩
theorem fits_ref {s:Sg} {m:Mk} {t:Int} (hm:m.n ≤ 255) (hs0:0 ≤ s.n) (hs1:s.n ≤ 255) (ho:onI s.n s.l s.r = s.n) :
 fits s m t = (j3f s m && (!j8q (j5h s m) 8 && decide ((j7q (j7w s m) 8:Int) ≤ t))):=by
 have htorn:∀ i,i < 8→j1n s.l s.r i = true→bit s.n i = false:=fun i hi h => by
  have:=j2i s.n s.l s.r i hi
  rw [ho,h] at this
  simpa using this
 have e1:decide (butI (onI m.n s.l s.r) s.n = 0) = !j8q (j5h s m) 8:=by
  rw [Bool.eq_iff_iff,decide_eq_true_eq,k1a (j4s _ _) (j4r _ _)]
  simp only [Bool.not_eq_true']
  constructor
  ·intro h
   refine List.any_eq_false.2 fun i hi => ?_
   have hi':i < 8:=by simpa using hi
   have:=h i hi'
   rw [j3z _ _ hs1 i hi',j2i _ _ _ _ hi'] at this
   unfold j5h
   revert this
   cases bit m.n i <;> cases bit s.n i <;> cases j1n s.l s.r i <;> simp
  ·intro h i hi
   have:=(List.any_eq_false.1 h) i (by simpa using hi)
   rw [j3z _ _ hs1 i hi,j2i _ _ _ _ hi]
   unfold j5h at this
   revert this
   cases bit m.n i <;> cases bit s.n i <;> cases j1n s.l s.r i <;> simp
 have e2:popI (butI s.n (onI m.n s.l s.r)) = j7q (j7w s m) 8:=by
  unfold popI
  show cnt _ = cnt _
  refine q0x fun i hi => ?_
  rw [j3z _ _ (j3e _ _ _) i hi,j2i _ _ _ _ hi]
  unfold j7w
  have:=htorn i hi
  revert this
  cases bit m.n i <;> cases bit s.n i <;> cases j1n s.l s.r i <;> simp
 unfold fits
 rw [e1,e2,Bool.and_assoc]
set_option maxRecDepth 100000 in
set_option maxHeartbeats 2000000 in
theorem rFits (s:Sg) (m:Mk) (t:Int) (w:World) (hm0:0 ≤ m.n) (hm1:m.n ≤ 255) (hs0:0 ≤ s.n) (hs1:s.n ≤ 255) (ho:onI s.n s.l s.r = s.n) :
 Calls Tryz.prog 94 #[vSg s,vMk m,.int .i64 t] w fun e w' => e = .returned (.bool (fits s m t))∧Below w.heap.size w w':=by
 have HF:=zQ9 (fits_ref (t:=t) hm1 hs0 hs1 ho)
 obtain ⟨R,hR⟩:∃ R,R = fits s m t:=⟨_,rfl⟩
 rw [← hR]
 have HRR:=zQ9 hR
 clear hR ho
 go_enter Tryz.func94,Tryz.ntmps94
 unfold vSg vMk
 go_upto_region 1 with (fail)
 go_cut [30] (fun q wc => q = .bool (!j3f s m)∧((w.alloc (Obj.cells #[Value.int .i64 s.n,.bool s.l,.bool s.r,.int .i64 s.b,.int .i64 s.p] 31)).alloc (Obj.cells #[Value.int .i64 m.n,.int .i64 m.b,.int .i64 m.p] 117)) = wc)
 case first =>
  cases e1:(s.b != -1) <;> cases e2:(s.b != m.b) <;> cases e3:(s.p != -1) <;> cases e4:(s.p != m.p)
  all_goals
   go_wp2
   go_meet
   exact ⟨by simp_all [j3f],rfl⟩
 case rest =>
  obtain ⟨rfl,rfl⟩:=hcut
  obtain ⟨W0,hW⟩:∃ W0,W0 = (w.alloc (Obj.cells #[Value.int .i64 s.n,.bool s.l,.bool s.r,.int .i64 s.b,.int .i64 s.p] 31)).alloc (Obj.cells #[Value.int .i64 m.n,.int .i64 m.b,.int .i64 m.p] 117):=⟨_,rfl⟩
  rw [← hW]
  have hB0:Below w.heap.size w W0:=by rw [hW];exact bal (bal0 w _) (zL9 _) _
  have b0:W0.heap[w.heap.size]? = some (Obj.cells #[Value.int .i64 s.n,.bool s.l,.bool s.r,.int .i64 s.b,.int .i64 s.p] 31 (0,0)):=by rw [hW];exact j0b (j0c rfl) _
  have b1:W0.heap[w.heap.size + 1]? = some (Obj.cells #[Value.int .i64 m.n,.int .i64 m.b,.int .i64 m.p] 117 (0,0)):=by rw [hW];exact j0c (by simp)
  clear hW
  have HB:=zQ9 (zA9 b0 (zA9 b1 hB0))
  clear b0 b1 hB0
  cases hal:j3f s m
  ·have HE:=zQ9 hal
   go_wp2
   go_ret
   exact ⟨j0o (by rw [HRR.out,HF.out,HE.out];rfl),HB.out.2.2⟩
  ·have HE:=zQ9 hal
   clear hal
   simp only [Bool.not_true]
   go_wp2_with fail
   go_loopg [7,8] 8 (fun g x i wr => ∃ k:Nat,k + g = 8∧i = .int .i64 k∧∃ q:Nat,x = .int .i64 q∧q = j7q (j7w s m) k∧j8q (j5h s m) k = false∧Below W0.heap.size W0 wr)
   case atStart => exact ⟨0,by omega,rfl,0,rfl,rfl,rfl,Below.refl _ _⟩
   case round =>
    obtain ⟨k,hk,rfl,q,rfl,hq,hno,hbl⟩:=hrel
    have hqk:q ≤ k:=by rw [hq];exact cntTo_le _ _
    have HK:=zQ9 (zA9 hk (zA9 hq hno))
    have hk8:k ≤ 8:=by omega
    clear hk hq hno
    obtain ⟨s0,s1,s2,s3,s4⟩:=blk5 (j0f HB.out.1 hbl (zL9 _))
    by_cases hlt:k < 8
    ·have hlt':(k:Int) < 8:=by omega
     go_wp2_with fail
     refine (rTorn s k _ hk8).mono ?_
     rintro e w2 ⟨rfl,hb2⟩
     have hbl2:=hbl.trans (hb2.mono hbl.size)
     clear s0 s1 s2 s3 s4 hb2
     obtain ⟨s0,s1,s2,s3,s4⟩:=blk5 (j0f HB.out.1 hbl2 (zL9 _))
     obtain ⟨m0,m1,m2⟩:=blk3 (j0f HB.out.2.1 hbl2 (zL9 _))
     cases ht:j1n s.l s.r k
     ·cases hbm:bit m.n k <;> cases hbs:bit s.n k
      ·have HT:=zQ9 (zA9 ht (zA9 hbm hbs))
       go_wp2_with (go_at_call 123;refine (rHas _ k _ (by assumption) (by assumption) hk8).mono ?_;rintro e w3 ⟨rfl,rfl⟩)
       go_roundg (gk - 1)
       case measure => have:=HK.out.1;omega
       case rel => exact ⟨k + 1,by have:=HK.out.1;omega,by go_num,q,rfl,by rw [j6k,HK.out.2.1];simp [j7w,HT.out.1,HT.out.2.1,HT.out.2.2],by rw [j6j,HK.out.2.2];simp [j5h,HT.out.1,HT.out.2.1,HT.out.2.2],hbl2⟩
      ·have HT:=zQ9 (zA9 ht (zA9 hbm hbs))
       go_wp2_with (go_at_call 123;refine (rHas _ k _ (by assumption) (by assumption) hk8).mono ?_;rintro e w3 ⟨rfl,rfl⟩)
       go_roundg (gk - 1)
       case measure => have:=HK.out.1;omega
       case rel => exact ⟨k + 1,by have:=HK.out.1;omega,by go_num,q + 1,by go_num,by rw [j6k,HK.out.2.1];simp [j7w,HT.out.1,HT.out.2.1,HT.out.2.2],by rw [j6j,HK.out.2.2];simp [j5h,HT.out.1,HT.out.2.1,HT.out.2.2],hbl2⟩
      ·have HT:=zQ9 (zA9 ht (zA9 hbm hbs))
       go_wp2_with (go_at_call 123;refine (rHas _ k _ (by assumption) (by assumption) hk8).mono ?_;rintro e w3 ⟨rfl,rfl⟩)
       go_ret
       have h8:=anyTo_at (p:=j5h s m) hlt (by simp [j5h,HT.out.1,HT.out.2.1,HT.out.2.2])
       exact ⟨j0o (by rw [HRR.out,HF.out,h8];simp),HB.out.2.2.trans (hbl2.mono HB.out.2.2.size)⟩
      ·have HT:=zQ9 (zA9 ht (zA9 hbm hbs))
       go_wp2_with (go_at_call 123;refine (rHas _ k _ (by assumption) (by assumption) hk8).mono ?_;rintro e w3 ⟨rfl,rfl⟩)
       go_roundg (gk - 1)
       case measure => have:=HK.out.1;omega
       case rel => exact ⟨k + 1,by have:=HK.out.1;omega,by go_num,q,rfl,by rw [j6k,HK.out.2.1];simp [j7w,HT.out.1,HT.out.2.1,HT.out.2.2],by rw [j6j,HK.out.2.2];simp [j5h,HT.out.1,HT.out.2.1,HT.out.2.2],hbl2⟩
     ·have HT:=zQ9 ht
      go_wp2
      go_roundg (gk - 1)
      case measure => have:=HK.out.1;omega
      case rel => exact ⟨k + 1,by have:=HK.out.1;omega,by go_num,q,rfl,by rw [j6k,HK.out.2.1];simp [j7w,HT.out],by rw [j6j,HK.out.2.2];simp [j5h,HT.out],hbl2⟩
    ·obtain rfl:k = 8:=by omega
     go_wp2
     go_ret
     exact ⟨j0o (by rw [HRR.out,HF.out,HE.out,HK.out.2.2,← HK.out.2.1];simp),HB.out.2.2.trans (hbl.mono HB.out.2.2.size)⟩
def DB9 (V:World) (b:Hb) (d:De) (p:Nat) (w:World):Prop:=w.heap[p]? = some b.obj∧w.heap[p + 1]? = some (dObj d)∧Below V.heap.size V w
theorem DB9.step {V w w':World} {b:Hb} {d:De} {p:Nat} (h:DB9 V b d p w) (hb:Below w.heap.size w w'):DB9 V b d p w':=⟨j0f h.1 hb (zL9 _),j0f h.2.1 hb (zL9 _),h.2.2.trans (hb.mono h.2.2.size)⟩
theorem DB9.start (w:World) (b:Hb) (d:De):DB9 w b d w.heap.size ((w.alloc b.obj).alloc (dObj d)):=⟨j0b (j0c rfl) _,j0c (by simp),bal (bal0 _ _) (zL9 _) _⟩
set_option maxRecDepth 100000 in
set_option maxHeartbeats 4000000 in
theorem k1q (b:Hb) (d:De) (w:World) (hn:b.l.length ≤ maxLen) (hk:b.ks.length ≤ maxLen) :
 Calls Tryz.prog 109 #[b.v,dv d] w fun e w' => e = .returned (.int .i64 (fldE b.l.length b.ks.length d))∧Below w.heap.size w w':=by
 obtain ⟨V,hV⟩:∃ V,V = (w.alloc b.obj).alloc (dObj d):=⟨_,rfl⟩
 obtain ⟨p,hp⟩:∃ p,p = w.heap.size:=⟨_,rfl⟩
 have HB:=zQ9 (show DB9 w b d p V by rw [hV,hp];exact DB9.start w b d)
 obtain ⟨z0,z1,z2,z3,z4,z5,z6,z7,z8,z9,z10,z11⟩:=blkD HB.out.2.1
 obtain ⟨c0,c1,c2,c3,c4⟩:=j0i HB.out.1
 have hlp:=j0a HB.out.1
 have hlq:=j0a HB.out.2.1
 obtain ⟨o1,ho1⟩:∃ o1,o1 = ownB b.l.length d.owner:=⟨_,rfl⟩
 obtain ⟨o2,ho2⟩:∃ o2,o2 = ownB b.l.length d.other:=⟨_,rfl⟩
 obtain ⟨f1,hf1⟩:∃ f1,f1 = ownB b.ks.length d.tof:=⟨_,rfl⟩
 have hio:∀ W,Calls Tryz.prog 60 #[.agg #[.int .i64 b.t,.slice b.A b.l.length b.c,.slice b.Ak b.ks.length b.ck,.slice b.Ah b.hs.length b.ch,.slice b.Ad b.ds.length b.cd],.int .i64 d.owner] W fun e w' => e = .returned (.bool o1)∧Below W.heap.size W w':=fun W => by rw [ho1];exact j5e _ _ _ _ _ _ _ _ _ _ _ _ _ _ W hn
 have hix:∀ W,Calls Tryz.prog 60 #[.agg #[.int .i64 b.t,.slice b.A b.l.length b.c,.slice b.Ak b.ks.length b.ck,.slice b.Ah b.hs.length b.ch,.slice b.Ad b.ds.length b.cd],.int .i64 d.other] W fun e w' => e = .returned (.bool o2)∧Below W.heap.size W w':=fun W => by rw [ho2];exact j5e _ _ _ _ _ _ _ _ _ _ _ _ _ _ W hn
 have hif:∀ W,Calls Tryz.prog 86 #[.agg #[.int .i64 b.t,.slice b.A b.l.length b.c,.slice b.Ak b.ks.length b.ck,.slice b.Ah b.hs.length b.ch,.slice b.Ad b.ds.length b.cd],.int .i64 d.tof] W fun e w' => e = .returned (.bool f1)∧Below W.heap.size W w':=fun W => by rw [hf1];exact j9y _ _ _ _ _ _ _ _ _ _ _ _ _ _ W hk
 have HO:=zQ9 (zA9 ho1 (zA9 ho2 hf1))
 obtain ⟨kd,hkd⟩:∃ kd,kd = d.kind:=⟨_,rfl⟩
 have HKD:=zQ9 hkd
 rw [← hkd] at z0
 unfold Hb.v dv
 go_enter Tryz.func109,Tryz.ntmps109
 go_upto_region 1 with (fail)
 rw [show (w.alloc (Obj.cells #[Value.int .i64 b.t,b.vm,b.vk,b.vh,b.vd] 29)).alloc (Obj.cells #[Value.int .i64 d.kind,.int .i64 d.flock,.int .i64 d.owner,.int .i64 d.other,.int .i64 d.tof,.int .i64 d.many,.int .i64 d.err,.int .i64 d.s.n,.bool d.s.l,.bool d.s.r,.int .i64 d.s.b,.int .i64 d.s.p] 33) = V from hV.symm,← hp]
 clear hV hp ho1 ho2 hf1 hkd
 obtain hkk | h:(kd = 1 ∨ kd = 3) ∨ (kd ≠ 1∧kd ≠ 3):=by omega
 ·have hfl:fldE b.l.length b.ks.length d = if o1 = false then 3 else if btw d.many 1 20 = false then 1 else 0:=by
   unfold fldE
   rw [if_pos (by rw [← HKD.out];exact hkk),HO.out.1]
  obtain ⟨m1,hm1⟩:∃ m1,m1 = btw d.many 1 20:=⟨_,rfl⟩
  have hwi:∀ W,Calls Tryz.prog 105 #[.int .i64 d.many,.int .i64 1,.int .i64 20] W fun e w' => e = .returned (.bool m1)∧Below W.heap.size W w':=fun W => by rw [hm1];exact (j2c _ _ _ _).mono fun e w' ⟨a,c⟩ => ⟨a,c ▸ Below.refl _ _⟩
  rw [← hm1] at hfl
  have HFL:=zQ9 hfl
  clear hm1 hfl
  rcases hkk with rfl | rfl
  all_goals
   cases o1
   ·go_wp2_with (first | (go_at_call 60;(with_reducible refine (hio _).mono ?_);rintro e wn ⟨rfl,hbn⟩;replace HB:=zQ9 (HB.out.step hbn);clear hbn;(try clear z0 z1 z2 z3 z4 z5 z6 z7 z8 z9 z10 z11 c0 c1 c2 c3 c4 hlp hlq);obtain ⟨z0,z1,z2,z3,z4,z5,z6,z7,z8,z9,z10,z11⟩:=blkD HB.out.2.1;obtain ⟨c0,c1,c2,c3,c4⟩:=j0i HB.out.1;have hlp:=j0a HB.out.1;have hlq:=j0a HB.out.2.1;try rw [← HKD.out] at z0))
    go_ret
    exact ⟨j0k (by rw [HFL.out];rfl),HB.out.2.2⟩
   ·cases m1
    all_goals
     go_wp2_with (first | (go_at_call 60;(with_reducible refine (hio _).mono ?_);rintro e wn ⟨rfl,hbn⟩;replace HB:=zQ9 (HB.out.step hbn);clear hbn;(try clear z0 z1 z2 z3 z4 z5 z6 z7 z8 z9 z10 z11 c0 c1 c2 c3 c4 hlp hlq);obtain ⟨z0,z1,z2,z3,z4,z5,z6,z7,z8,z9,z10,z11⟩:=blkD HB.out.2.1;obtain ⟨c0,c1,c2,c3,c4⟩:=j0i HB.out.1;have hlp:=j0a HB.out.1;have hlq:=j0a HB.out.2.1;try rw [← HKD.out] at z0) | (go_at_call 105;(with_reducible refine (hwi _).mono ?_);rintro e wn ⟨rfl,hbn⟩;replace HB:=zQ9 (HB.out.step hbn);clear hbn;(try clear z0 z1 z2 z3 z4 z5 z6 z7 z8 z9 z10 z11 c0 c1 c2 c3 c4 hlp hlq);obtain ⟨z0,z1,z2,z3,z4,z5,z6,z7,z8,z9,z10,z11⟩:=blkD HB.out.2.1;obtain ⟨c0,c1,c2,c3,c4⟩:=j0i HB.out.1;have hlp:=j0a HB.out.1;have hlq:=j0a HB.out.2.1;try rw [← HKD.out] at z0))
     go_ret
     exact ⟨j0k (by rw [HFL.out];rfl),HB.out.2.2⟩
 obtain rfl | h2:kd = 2 ∨ kd ≠ 2:=by omega
 ·have hfl:fldE b.l.length b.ks.length d = if o1 = false ∨ o2 = false then 3 else if d.owner = d.other then 4 else if btw d.many 1 20 = false then 1 else 0:=by
   unfold fldE
   rw [if_neg (by rw [← HKD.out];omega),if_pos HKD.out.symm,HO.out.1,HO.out.2.1]
  obtain ⟨m1,hm1⟩:∃ m1,m1 = btw d.many 1 20:=⟨_,rfl⟩
  have hwi:∀ W,Calls Tryz.prog 105 #[.int .i64 d.many,.int .i64 1,.int .i64 20] W fun e w' => e = .returned (.bool m1)∧Below W.heap.size W w':=fun W => by rw [hm1];exact (j2c _ _ _ _).mono fun e w' ⟨a,c⟩ => ⟨a,c ▸ Below.refl _ _⟩
  rw [← hm1] at hfl
  have HFL:=zQ9 hfl
  clear hm1 hfl
  cases o1
  ·go_wp2_with (first | (go_at_call 60;(with_reducible refine (hio _).mono ?_);rintro e wn ⟨rfl,hbn⟩;replace HB:=zQ9 (HB.out.step hbn);clear hbn;(try clear z0 z1 z2 z3 z4 z5 z6 z7 z8 z9 z10 z11 c0 c1 c2 c3 c4 hlp hlq);obtain ⟨z0,z1,z2,z3,z4,z5,z6,z7,z8,z9,z10,z11⟩:=blkD HB.out.2.1;obtain ⟨c0,c1,c2,c3,c4⟩:=j0i HB.out.1;have hlp:=j0a HB.out.1;have hlq:=j0a HB.out.2.1;try rw [← HKD.out] at z0))
   go_ret
   exact ⟨j0k (by rw [HFL.out];rfl),HB.out.2.2⟩
  cases o2
  ·go_wp2_with (first | (go_at_call 60;(with_reducible refine (hio _).mono ?_);rintro e wn ⟨rfl,hbn⟩;replace HB:=zQ9 (HB.out.step hbn);clear hbn;(try clear z0 z1 z2 z3 z4 z5 z6 z7 z8 z9 z10 z11 c0 c1 c2 c3 c4 hlp hlq);obtain ⟨z0,z1,z2,z3,z4,z5,z6,z7,z8,z9,z10,z11⟩:=blkD HB.out.2.1;obtain ⟨c0,c1,c2,c3,c4⟩:=j0i HB.out.1;have hlp:=j0a HB.out.1;have hlq:=j0a HB.out.2.1;try rw [← HKD.out] at z0) | (go_at_call 60;(with_reducible refine (hix _).mono ?_);rintro e wn ⟨rfl,hbn⟩;replace HB:=zQ9 (HB.out.step hbn);clear hbn;(try clear z0 z1 z2 z3 z4 z5 z6 z7 z8 z9 z10 z11 c0 c1 c2 c3 c4 hlp hlq);obtain ⟨z0,z1,z2,z3,z4,z5,z6,z7,z8,z9,z10,z11⟩:=blkD HB.out.2.1;obtain ⟨c0,c1,c2,c3,c4⟩:=j0i HB.out.1;have hlp:=j0a HB.out.1;have hlq:=j0a HB.out.2.1;try rw [← HKD.out] at z0))
   go_ret
   exact ⟨j0k (by rw [HFL.out];rfl),HB.out.2.2⟩
  by_cases hoo:d.owner = d.other
  ·have e1:(d.other == d.owner) = true:=by simp [hoo]
   have HOO:=zQ9 hoo
   clear hoo
   go_wp2_with (first | (go_at_call 60;(with_reducible refine (hio _).mono ?_);rintro e wn ⟨rfl,hbn⟩;replace HB:=zQ9 (HB.out.step hbn);clear hbn;(try clear z0 z1 z2 z3 z4 z5 z6 z7 z8 z9 z10 z11 c0 c1 c2 c3 c4 hlp hlq);obtain ⟨z0,z1,z2,z3,z4,z5,z6,z7,z8,z9,z10,z11⟩:=blkD HB.out.2.1;obtain ⟨c0,c1,c2,c3,c4⟩:=j0i HB.out.1;have hlp:=j0a HB.out.1;have hlq:=j0a HB.out.2.1;try rw [← HKD.out] at z0) | (go_at_call 60;(with_reducible refine (hix _).mono ?_);rintro e wn ⟨rfl,hbn⟩;replace HB:=zQ9 (HB.out.step hbn);clear hbn;(try clear z0 z1 z2 z3 z4 z5 z6 z7 z8 z9 z10 z11 c0 c1 c2 c3 c4 hlp hlq);obtain ⟨z0,z1,z2,z3,z4,z5,z6,z7,z8,z9,z10,z11⟩:=blkD HB.out.2.1;obtain ⟨c0,c1,c2,c3,c4⟩:=j0i HB.out.1;have hlp:=j0a HB.out.1;have hlq:=j0a HB.out.2.1;try rw [← HKD.out] at z0))
   go_ret
   exact ⟨j0k (by rw [HFL.out,if_neg (by decide),if_pos HOO.out]),HB.out.2.2⟩
  ·have e1:(d.other == d.owner) = false:=beq_eq_false_iff_ne.2 (fun e => hoo e.symm)
   have HOO:=zQ9 hoo
   clear hoo
   cases m1
   all_goals
    go_wp2_with (first | (go_at_call 60;(with_reducible refine (hio _).mono ?_);rintro e wn ⟨rfl,hbn⟩;replace HB:=zQ9 (HB.out.step hbn);clear hbn;(try clear z0 z1 z2 z3 z4 z5 z6 z7 z8 z9 z10 z11 c0 c1 c2 c3 c4 hlp hlq);obtain ⟨z0,z1,z2,z3,z4,z5,z6,z7,z8,z9,z10,z11⟩:=blkD HB.out.2.1;obtain ⟨c0,c1,c2,c3,c4⟩:=j0i HB.out.1;have hlp:=j0a HB.out.1;have hlq:=j0a HB.out.2.1;try rw [← HKD.out] at z0) | (go_at_call 60;(with_reducible refine (hix _).mono ?_);rintro e wn ⟨rfl,hbn⟩;replace HB:=zQ9 (HB.out.step hbn);clear hbn;(try clear z0 z1 z2 z3 z4 z5 z6 z7 z8 z9 z10 z11 c0 c1 c2 c3 c4 hlp hlq);obtain ⟨z0,z1,z2,z3,z4,z5,z6,z7,z8,z9,z10,z11⟩:=blkD HB.out.2.1;obtain ⟨c0,c1,c2,c3,c4⟩:=j0i HB.out.1;have hlp:=j0a HB.out.1;have hlq:=j0a HB.out.2.1;try rw [← HKD.out] at z0) | (go_at_call 105;(with_reducible refine (hwi _).mono ?_);rintro e wn ⟨rfl,hbn⟩;replace HB:=zQ9 (HB.out.step hbn);clear hbn;(try clear z0 z1 z2 z3 z4 z5 z6 z7 z8 z9 z10 z11 c0 c1 c2 c3 c4 hlp hlq);obtain ⟨z0,z1,z2,z3,z4,z5,z6,z7,z8,z9,z10,z11⟩:=blkD HB.out.2.1;obtain ⟨c0,c1,c2,c3,c4⟩:=j0i HB.out.1;have hlp:=j0a HB.out.1;have hlq:=j0a HB.out.2.1;try rw [← HKD.out] at z0))
    go_ret
    exact ⟨j0k (by rw [HFL.out,if_neg (by decide),if_neg HOO.out];rfl),HB.out.2.2⟩
 obtain rfl | h4:kd = 4 ∨ kd ≠ 4:=by omega
 ·have hfl:fldE b.l.length b.ks.length d = if btw d.many 1 3 = false then 1 else 0:=by
   unfold fldE
   rw [if_neg (by rw [← HKD.out];omega),if_neg (by rw [← HKD.out];omega),if_pos HKD.out.symm]
  obtain ⟨m1,hm1⟩:∃ m1,m1 = btw d.many 1 3:=⟨_,rfl⟩
  have hwi:∀ W,Calls Tryz.prog 105 #[.int .i64 d.many,.int .i64 1,.int .i64 3] W fun e w' => e = .returned (.bool m1)∧Below W.heap.size W w':=fun W => by rw [hm1];exact (j2c _ _ _ _).mono fun e w' ⟨a,c⟩ => ⟨a,c ▸ Below.refl _ _⟩
  rw [← hm1] at hfl
  have HFL:=zQ9 hfl
  clear hm1 hfl
  cases m1
  all_goals
   go_wp2_with (first | (go_at_call 105;(with_reducible refine (hwi _).mono ?_);rintro e wn ⟨rfl,hbn⟩;replace HB:=zQ9 (HB.out.step hbn);clear hbn;(try clear z0 z1 z2 z3 z4 z5 z6 z7 z8 z9 z10 z11 c0 c1 c2 c3 c4 hlp hlq);obtain ⟨z0,z1,z2,z3,z4,z5,z6,z7,z8,z9,z10,z11⟩:=blkD HB.out.2.1;obtain ⟨c0,c1,c2,c3,c4⟩:=j0i HB.out.1;have hlp:=j0a HB.out.1;have hlq:=j0a HB.out.2.1;try rw [← HKD.out] at z0))
   go_ret
   exact ⟨j0k (by rw [HFL.out];rfl),HB.out.2.2⟩
 obtain rfl | h5:kd = 5 ∨ kd ≠ 5:=by omega
 ·have hfl:fldE b.l.length b.ks.length d = if f1 = false then 3 else if d.tof = d.flock then 4 else seen d.s 9 6:=by
   unfold fldE
   rw [if_neg (by rw [← HKD.out];omega),if_neg (by rw [← HKD.out];omega),if_neg (by rw [← HKD.out];omega),if_pos HKD.out.symm,HO.out.2.2]
  obtain ⟨m1,hm1⟩:∃ m1,m1 = seen d.s 9 6:=⟨_,rfl⟩
  have hcs:∀ W,Calls Tryz.prog 87 #[.agg #[.int .i64 d.s.n,.bool d.s.l,.bool d.s.r,.int .i64 d.s.b,.int .i64 d.s.p]] W fun e w' => e = .returned (.int .i64 m1)∧Below W.heap.size W w':=fun W => by rw [hm1];exact k8b d.s W
  rw [← hm1] at hfl
  have HFL:=zQ9 hfl
  clear hm1 hfl
  cases f1
  ·go_wp2_with (first | (go_at_call 86;(with_reducible refine (hif _).mono ?_);rintro e wn ⟨rfl,hbn⟩;replace HB:=zQ9 (HB.out.step hbn);clear hbn;(try clear z0 z1 z2 z3 z4 z5 z6 z7 z8 z9 z10 z11 c0 c1 c2 c3 c4 hlp hlq);obtain ⟨z0,z1,z2,z3,z4,z5,z6,z7,z8,z9,z10,z11⟩:=blkD HB.out.2.1;obtain ⟨c0,c1,c2,c3,c4⟩:=j0i HB.out.1;have hlp:=j0a HB.out.1;have hlq:=j0a HB.out.2.1;try rw [← HKD.out] at z0))
   go_ret
   exact ⟨j0k (by rw [HFL.out];rfl),HB.out.2.2⟩
  by_cases hoo:d.tof = d.flock
  ·have e1:(d.tof == d.flock) = true:=by simp [hoo]
   have HOO:=zQ9 hoo
   clear hoo
   go_wp2_with (first | (go_at_call 86;(with_reducible refine (hif _).mono ?_);rintro e wn ⟨rfl,hbn⟩;replace HB:=zQ9 (HB.out.step hbn);clear hbn;(try clear z0 z1 z2 z3 z4 z5 z6 z7 z8 z9 z10 z11 c0 c1 c2 c3 c4 hlp hlq);obtain ⟨z0,z1,z2,z3,z4,z5,z6,z7,z8,z9,z10,z11⟩:=blkD HB.out.2.1;obtain ⟨c0,c1,c2,c3,c4⟩:=j0i HB.out.1;have hlp:=j0a HB.out.1;have hlq:=j0a HB.out.2.1;try rw [← HKD.out] at z0))
   go_ret
   exact ⟨j0k (by rw [HFL.out,if_neg (by decide),if_pos HOO.out]),HB.out.2.2⟩
  ·have e1:(d.tof == d.flock) = false:=beq_eq_false_iff_ne.2 hoo
   have HOO:=zQ9 hoo
   clear hoo
   go_wp2_with (first | (go_at_call 86;(with_reducible refine (hif _).mono ?_);rintro e wn ⟨rfl,hbn⟩;replace HB:=zQ9 (HB.out.step hbn);clear hbn;(try clear z0 z1 z2 z3 z4 z5 z6 z7 z8 z9 z10 z11 c0 c1 c2 c3 c4 hlp hlq);obtain ⟨z0,z1,z2,z3,z4,z5,z6,z7,z8,z9,z10,z11⟩:=blkD HB.out.2.1;obtain ⟨c0,c1,c2,c3,c4⟩:=j0i HB.out.1;have hlp:=j0a HB.out.1;have hlq:=j0a HB.out.2.1;try rw [← HKD.out] at z0) | (go_at_call 87;(with_reducible refine (hcs _).mono ?_);rintro e wn ⟨rfl,hbn⟩;replace HB:=zQ9 (HB.out.step hbn);clear hbn;(try clear z0 z1 z2 z3 z4 z5 z6 z7 z8 z9 z10 z11 c0 c1 c2 c3 c4 hlp hlq);obtain ⟨z0,z1,z2,z3,z4,z5,z6,z7,z8,z9,z10,z11⟩:=blkD HB.out.2.1;obtain ⟨c0,c1,c2,c3,c4⟩:=j0i HB.out.1;have hlp:=j0a HB.out.1;have hlq:=j0a HB.out.2.1;try rw [← HKD.out] at z0))
   go_ret
   exact ⟨j0k (by rw [HFL.out,if_neg (by decide),if_neg HOO.out]),HB.out.2.2⟩
 ·have hfl:fldE b.l.length b.ks.length d = if btw d.many 0 300 = false ∨ btw d.err 0 20 = false then 1 else 0:=by
   unfold fldE
   rw [if_neg (by rw [← HKD.out];omega),if_neg (by rw [← HKD.out];omega),if_neg (by rw [← HKD.out];omega),if_neg (by rw [← HKD.out];omega)]
  obtain ⟨m1,hm1⟩:∃ m1,m1 = btw d.many 0 300:=⟨_,rfl⟩
  obtain ⟨m2,hm2⟩:∃ m2,m2 = btw d.err 0 20:=⟨_,rfl⟩
  have hwi:∀ W,Calls Tryz.prog 105 #[.int .i64 d.many,.int .i64 0,.int .i64 300] W fun e w' => e = .returned (.bool m1)∧Below W.heap.size W w':=fun W => by rw [hm1];exact (j2c _ _ _ _).mono fun e w' ⟨a,c⟩ => ⟨a,c ▸ Below.refl _ _⟩
  have hwe:∀ W,Calls Tryz.prog 105 #[.int .i64 d.err,.int .i64 0,.int .i64 20] W fun e w' => e = .returned (.bool m2)∧Below W.heap.size W w':=fun W => by rw [hm2];exact (j2c _ _ _ _).mono fun e w' ⟨a,c⟩ => ⟨a,c ▸ Below.refl _ _⟩
  rw [← hm1,← hm2] at hfl
  have HFL:=zQ9 hfl
  have k1:(kd == 1) = false:=beq_eq_false_iff_ne.2 h.1
  have k3:(kd == 3) = false:=beq_eq_false_iff_ne.2 h.2
  have k2:(kd == 2) = false:=beq_eq_false_iff_ne.2 h2
  have k4:(kd == 4) = false:=beq_eq_false_iff_ne.2 h4
  have k5:(kd == 5) = false:=beq_eq_false_iff_ne.2 h5
  clear hm1 hm2 hfl h h2 h4 h5
  cases m1
  ·go_wp2_with (first | (go_at_call 105;(with_reducible refine (hwi _).mono ?_);rintro e wn ⟨rfl,hbn⟩;replace HB:=zQ9 (HB.out.step hbn);clear hbn;(try clear z0 z1 z2 z3 z4 z5 z6 z7 z8 z9 z10 z11 c0 c1 c2 c3 c4 hlp hlq);obtain ⟨z0,z1,z2,z3,z4,z5,z6,z7,z8,z9,z10,z11⟩:=blkD HB.out.2.1;obtain ⟨c0,c1,c2,c3,c4⟩:=j0i HB.out.1;have hlp:=j0a HB.out.1;have hlq:=j0a HB.out.2.1;try rw [← HKD.out] at z0))
   go_ret
   exact ⟨j0k (by rw [HFL.out];rfl),HB.out.2.2⟩
  cases m2
  all_goals
   go_wp2_with (first | (go_at_call 105;(with_reducible refine (hwi _).mono ?_);rintro e wn ⟨rfl,hbn⟩;replace HB:=zQ9 (HB.out.step hbn);clear hbn;(try clear z0 z1 z2 z3 z4 z5 z6 z7 z8 z9 z10 z11 c0 c1 c2 c3 c4 hlp hlq);obtain ⟨z0,z1,z2,z3,z4,z5,z6,z7,z8,z9,z10,z11⟩:=blkD HB.out.2.1;obtain ⟨c0,c1,c2,c3,c4⟩:=j0i HB.out.1;have hlp:=j0a HB.out.1;have hlq:=j0a HB.out.2.1;try rw [← HKD.out] at z0) | (go_at_call 105;(with_reducible refine (hwe _).mono ?_);rintro e wn ⟨rfl,hbn⟩;replace HB:=zQ9 (HB.out.step hbn);clear hbn;(try clear z0 z1 z2 z3 z4 z5 z6 z7 z8 z9 z10 z11 c0 c1 c2 c3 c4 hlp hlq);obtain ⟨z0,z1,z2,z3,z4,z5,z6,z7,z8,z9,z10,z11⟩:=blkD HB.out.2.1;obtain ⟨c0,c1,c2,c3,c4⟩:=j0i HB.out.1;have hlp:=j0a HB.out.1;have hlq:=j0a HB.out.2.1;try rw [← HKD.out] at z0))
   go_ret
   exact ⟨j0k (by rw [HFL.out];rfl),HB.out.2.2⟩
end Go.Proofs.YtmennjmjakdkcaaGreat
