/- HerdChecks 11: HdG. -/
import Derived.Test.YtmennjmjakdkcaaGreatCk01
import Derived.Test.YtmennjmjakdkcaaGreatCk10
set_option linter.unusedVariables false
set_option linter.unusedSimpArgs false
namespace Go.Proofs.YtmennjmjakdkcaaGreat
open Go.RowKit Go.MapKept
theorem j3i (p:Nat) (O:Value) (t:Int) (A:Option Addr) (n c:Nat) (ks hs ds:Value) (deed owner now:Int) (AL:Option Addr) (m cl:Nat) (L:List Int) (w:World) (hp:w.heap[p]? = some (bkObj t A n c ks hs ds deed owner now)) (hL:Ints w AL m L) (hn:n ≤ maxLen) (hm:m ≤ maxLen) :
 Calls Tryz.prog 58 #[.pointer (some ⟨p,0,none⟩),.slice AL m cl] w fun e w' => e = .returned (.bool (L.all (ownB n)))∧w = w':=by
 unfold maxLen at hn hm
 have HL:=zQ9 hL.len
 obtain ⟨p0,p1,p2,p3,p4,p5,p6,p7⟩:=blkB hp
 have hpl:=j0a hp
 clear hp
 go_enter Tryz.func58,Tryz.ntmps58
 go_wp2
 go_loopg [9] m (fun g i wr => ∃ q:Nat,q + g = m∧i = .int .i64 q∧(L.take q).all (ownB n) = true∧w = wr)
 case atStart => exact ⟨0,by omega,rfl,by simp,rfl⟩
 case round =>
  obtain ⟨q,hq,rfl,hall,rfl⟩:=hrel
  have HQ:=zQ9 hq
  have HA:=zQ9 hall
  have hqm:q ≤ m:=by omega
  clear hq hall
  by_cases hlt:q < m
  ·obtain ⟨b,off,x,rfl,hb,hx,d0⟩:=Ints.get hL hlt
   have HX:=zQ9 hx
   clear hx
   go_wp2_with (go_at_call 102;refine (j2d _ _ _ _).mono ?_;rintro e w' ⟨rfl,rfl⟩)
   ·have hin:ownB n x = false:=by simpa [ownB] using ‹(!btw x 0 (↑n - 1)) = true›
    go_ret
    exact ⟨j0o (by rw [k0k HX.out hin]),rfl⟩
   ·have hin:ownB n x = true:=by simpa [ownB] using ‹(!btw x 0 (↑n - 1)) = false›
    go_roundg (gk - 1)
    case measure => have:=HQ.out;omega
    case rel => exact ⟨q + 1,by have:=HQ.out;omega,by go_num,j8p HA.out HX.out hin,rfl⟩
  ·obtain rfl:q = m:=by omega
   go_wp2
   go_ret
   exact ⟨j0o (by have:=HA.out;rw [← HL.out,List.take_length] at this;exact this.symm),rfl⟩
theorem j8c (p:Nat) (t:Int) (A:Option Addr) (n c:Nat) (Ak:Option Addr) (nk ck:Nat) (hs ds:Value) (deed owner now:Int) (x:Int) (w:World) (hp:w.heap[p]? = some (bkObj t A n c (.slice Ak nk ck) hs ds deed owner now)) (hn:nk ≤ maxLen) :
 Calls Tryz.prog 79 #[.pointer (some ⟨p,0,none⟩),.int .i64 x] w fun e w' => e = .returned (.bool (ownB nk x))∧w = w':=by
 unfold maxLen at hn
 obtain ⟨p0,p1,p2,p3,p4,p5,p6,p7⟩:=blkB hp
 have hpl:=j0a hp
 clear hp
 go_enter Tryz.func79,Tryz.ntmps79
 go_wp2_with (go_at_call 102;refine (j2d _ _ _ _).mono ?_;rintro e w' ⟨rfl,rfl⟩)
 go_ret
 exact ⟨rfl,rfl⟩
set_option maxRecDepth 100000 in
set_option maxHeartbeats 1000000 in
theorem k9o (p:Nat) (b:Hb) (deed owner now:Int) (w:World) (hp:w.heap[p]? = some (b.bk deed owner now)) (hin:HbIn w b) :
 Calls Tryz.prog 64 #[.pointer (some ⟨p,0,none⟩)] w fun e w' => e = .returned (.int .i64 (j1h b.l.length b.ks b.hs))∧w = w':=by
 have hk:=hin.k
 have hkm:b.ks.length ≤ maxLen:=Nat.le_trans hin.kc hin.km
 have hnm:b.l.length ≤ maxLen:=Nat.le_trans hin.mc hin.mm
 have hhm:b.hs.length ≤ maxLen:=Nat.le_trans hin.hc hin.hm
 have hG:=hin.h
 have HO:=zQ9 (j3i p .nilFunc b.t b.A b.l.length b.c b.vk b.vh b.vd deed owner now b.Ak b.ks.length b.ck b.ks w hp hk hnm hkm)
 obtain ⟨p0,p1,p2,p3,p4,p5,p6,p7⟩:=blkB hp
 have hpl:=j0a hp
 replace p2:w.cell? ⟨p,2,none⟩ = some (.slice b.Ak b.ks.length b.ck):=p2
 obtain ⟨Ah,hAh⟩:∃ Ah,Ah = b.Ah:=⟨_,rfl⟩
 replace p3:w.cell? ⟨p,3,none⟩ = some (.slice Ah b.hs.length b.ch):=by rw [hAh];exact p3
 rw [← hAh] at hG
 obtain ⟨nk,hnk⟩:∃ nk,nk = b.ks.length:=⟨_,rfl⟩
 obtain ⟨nh,hnh⟩:∃ nh,nh = b.hs.length:=⟨_,rfl⟩
 obtain ⟨n,hnn⟩:∃ n,n = b.l.length:=⟨_,rfl⟩
 rw [← hnk] at p2 hkm
 rw [← hnh] at p3 hG hhm
 rw [← hnn] at p1 hnm
 have HN:=zQ9 (zA9 hnk (zA9 hnh hnn))
 unfold maxLen at hkm hnm hhm
 clear hp hin hk hAh hnk hnh hnn p0 p4 p5 p6 p7
 go_enter Tryz.func64,Tryz.ntmps64
 obtain ⟨ab,hab⟩:∃ ab,ab = b.ks.all (ownB b.l.length):=⟨_,rfl⟩
 rw [← hab,← HN.out.1] at HO
 have HAB:=zQ9 hab
 clear hab
 by_cases h0:nk = 0
 ·have x0:((nk:Int) == 0) = true:=by simp [h0]
  have H0:=zQ9 h0
  clear h0
  go_wp2_with fail
  go_ret
  exact ⟨j0k (by unfold j1h;rw [if_pos (by rw [← HN.out.1];exact H0.out)]),rfl⟩
 have x0:((nk:Int) == 0) = false:=by simp [h0]
 have H0:=zQ9 h0
 clear h0
 by_cases h3:3 < nk
 ·have x3:decide (3 < (nk:Int)) = true:=by simp;omega
  have H3:=zQ9 h3
  clear h3
  go_wp2_with fail
  go_ret
  exact ⟨j0k (by unfold j1h;rw [if_neg (by rw [← HN.out.1];exact H0.out),if_pos (by rw [← HN.out.1];exact H3.out)]),rfl⟩
 have x3:decide (3 < (nk:Int)) = false:=by simp;omega
 have H3:=zQ9 h3
 clear h3
 cases ab with
 | false =>
   go_wp2_with (go_at_call 58;refine HO.out.mono ?_;rintro e w' ⟨rfl,rfl⟩)
   go_ret
   exact ⟨j0k (by unfold j1h;rw [if_neg (by rw [← HN.out.1];exact H0.out),if_neg (by rw [← HN.out.1];exact H3.out),if_pos HAB.out.symm]),rfl⟩
 | true =>
 by_cases hh:nh = nk
 ·have x4:((nh:Int) != (nk:Int)) = false:=by simp [hh]
  have HE:=zQ9 (show j1h b.l.length b.ks b.hs = if b.hs.all (fun r => decide (r.length = b.l.length)) = false then 2 else if b.hs.all (fun r => r.all fun x => btw x 0 20) = false then 1 else 0 by
   unfold j1h;rw [if_neg (by rw [← HN.out.1];exact H0.out),if_neg (by rw [← HN.out.1];exact H3.out),if_neg (by rw [← HAB.out];simp),if_neg (by rw [← HN.out.1,← HN.out.2.1];simpa using hh)])
  clear hh H0 H3 HAB
  go_wp2_with (go_at_call 58;refine HO.out.mono ?_;rintro e w' ⟨rfl,rfl⟩)
  clear x0 x3 x4 HO
  go_loopg [46] nh (fun g v wr => ∃ k:Nat,k + g = nh∧v = .int .i64 k∧(b.hs.take k).all (fun r => decide (r.length = b.l.length)) = true∧w = wr)
  case atStart => exact ⟨0,by omega,rfl,by simp,rfl⟩
  case round =>
   obtain ⟨k,hk,rfl,hall,rfl⟩:=hrel
   have HK:=zQ9 (zA9 hk hall)
   clear hk hall
   by_cases hlt:k < nh
   ·obtain ⟨bi,off,B,row,cx,hA,hb,hr,d0,hin,hlc,hcm⟩:=hG.get hlt
    subst hA
    unfold maxLen at hcm
    have HR:=zQ9 (zA9 hr hin)
    clear hr hin
    by_cases hrl:row.length = n
    ·have y0:((row.length:Int) != (n:Int)) = false:=by simp [hrl]
     have HL:=zQ9 hrl
     clear hrl
     go_wp2_with fail
     go_roundg (gk - 1)
     case measure => have:=HK.out;omega
     case rel => exact ⟨k + 1,by have:=HK.out;omega,by go_num,by rw [List.take_add_one,HR.out.1,List.all_append,HK.out.2];simp [HL.out,← HN.out.2.2],rfl⟩
    ·have y0:((row.length:Int) != (n:Int)) = true:=by simp;omega
     have HL:=zQ9 hrl
     clear hrl
     go_wp2_with fail
     go_ret
     have h2:b.hs.all (fun r => decide (r.length = b.l.length)) = false:=by
      rw [List.all_eq_false]
      exact ⟨row,List.mem_of_getElem? HR.out.1,by have:=HL.out;rw [HN.out.2.2] at this;simpa using this⟩
     exact ⟨j0k (by rw [HE.out,if_pos h2]),rfl⟩
   ·obtain rfl:k = nh:=by have:=HK.out.1;omega
    have HAL:=zQ9 (show b.hs.all (fun r => decide (r.length = b.l.length)) = true by have:=HK.out.2;rw [HN.out.2.1,List.take_length] at this;exact this)
    clear hlt
    go_wp2_with fail
    go_loopg [67] k (fun g v wr => ∃ q:Nat,q + g = k∧v = .int .i64 q∧(b.hs.take q).all (fun r => r.all fun x => btw x 0 20) = true∧w = wr)
    case atStart => exact ⟨0,by omega,rfl,by simp,rfl⟩
    case round =>
     obtain ⟨q,hq,rfl,hall,rfl⟩:=hrel
     have HQ:=zQ9 (zA9 hq hall)
     clear hq hall
     by_cases hlt:q < k
     ·obtain ⟨bi,off,B,row,cx,hA,hb,hr,d0,hin,hlc,hcm⟩:=hG.get hlt
      subst hA
      unfold maxLen at hcm
      have HR:=zQ9 hr
      clear hr
      go_wp2_with fail
      obtain ⟨go,rfl⟩:∃ go:Nat,go = gk:=⟨_,rfl⟩
      go_loopg [73] row.length (fun g v wr => ∃ j:Nat,j + g = row.length∧v = .int .i64 j∧(row.take j).all (fun x => btw x 0 20) = true∧w = wr)
      case atStart => exact ⟨0,by omega,rfl,by simp,rfl⟩
      case round =>
       obtain ⟨j,hj,rfl,hall,rfl⟩:=hrel
       have HJ:=zQ9 (zA9 hj hall)
       clear hj hall
       by_cases hjl:j < row.length
       ·obtain ⟨bx,ofx,x,rfl,hbx,hx,dx⟩:=Ints.get hin hjl
        have HX:=zQ9 hx
        clear hx
        go_wp2_with (go_at_call 102;refine (j2d _ _ _ _).mono ?_;rintro e w' ⟨rfl,rfl⟩)
        ·have hb:btw x 0 20 = false:=by simpa using ‹(!btw x 0 20) = true›
         go_ret
         have h2:b.hs.all (fun r => r.all fun x => btw x 0 20) = false:=List.all_eq_false.2 ⟨row,List.mem_of_getElem? HR.out,by rw [k0k (f:=fun x => btw x 0 20) HX.out hb];simp⟩
         exact ⟨j0k (by rw [HE.out,if_neg (by rw [HAL.out];simp),if_pos h2]),rfl⟩
        ·have hb:btw x 0 20 = true:=by simpa using ‹(!btw x 0 20) = false›
         go_roundg (gk - 1)
         case measure => have:=HJ.out;omega
         case rel => exact ⟨j + 1,by have:=HJ.out;omega,by go_num,j8p HJ.out.2 HX.out hb,rfl⟩
       ·obtain rfl:j = row.length:=by have:=HJ.out.1;omega
        go_wp2_with fail
        go_roundg (go - 1)
        case measure => have:=HQ.out;omega
        case rel => exact ⟨q + 1,by have:=HQ.out;omega,by go_num,by have:=HJ.out.2;rw [List.take_length] at this;rw [List.take_add_one,HR.out,List.all_append,HQ.out.2];simp only [Option.toList,List.all_cons,List.all_nil,Bool.and_true,Bool.true_and];exact this,rfl⟩
     ·obtain rfl:q = k:=by have:=HQ.out.1;omega
      go_wp2_with fail
      go_ret
      have h2:b.hs.all (fun r => r.all fun x => btw x 0 20) = true:=by have:=HQ.out.2;rw [HN.out.2.1,List.take_length] at this;exact this
      exact ⟨j0k (by rw [HE.out,if_neg (by rw [HAL.out];simp),if_neg (by rw [h2];simp)]),rfl⟩
 ·have x4:((nh:Int) != (nk:Int)) = true:=by simp;omega
  have HH:=zQ9 hh
  clear hh
  go_wp2_with (go_at_call 58;refine HO.out.mono ?_;rintro e w' ⟨rfl,rfl⟩)
  go_ret
  exact ⟨j0k (by unfold j1h;rw [if_neg (by rw [← HN.out.1];exact H0.out),if_neg (by rw [← HN.out.1];exact H3.out),if_neg (by rw [← HAB.out];simp),if_pos (by rw [← HN.out.1,← HN.out.2.1];exact HH.out)]),rfl⟩
end Go.Proofs.YtmennjmjakdkcaaGreat
