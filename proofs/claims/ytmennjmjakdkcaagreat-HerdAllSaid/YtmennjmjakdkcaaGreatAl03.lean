/- HerdAll 3: Check, Show, Fits, May, Grid. -/
import Derived.Test.YtmennjmjakdkcaaGreatAl01
import Derived.Deep.AppendLies
import Derived.Deep.RegionHeld3
namespace Go.Proofs.YtmennjmjakdkcaaGreat
open Go.RowKit
set_option linter.unusedVariables false
set_option linter.unusedSimpArgs false
theorem between_any (n lo hi:Int) (w:World) :
 Calls Tryz.prog 106 #[.int .i64 n,.int .i64 lo,.int .i64 hi] w fun e w' => e = .returned (.bool (btw n lo hi))∧w = w':=by
 by_cases h1:lo ≤ n <;> by_cases h2:n ≤ hi
 all_goals
  go_enter Tryz.func106,Tryz.ntmps106
  go_wp2
  go_ret
  exact ⟨by simp [btw,h1,h2],rfl⟩
theorem but_any (n m:Int) (w:World) (hn:0 ≤ n) (hn':n ≤ 255) (hm:0 ≤ m) (hm':m ≤ 255) :
 Calls Tryz.prog 148 #[.int .i64 n,.int .i64 m] w fun e w' => e = .returned (.int .i64 (butI n m))∧w = w':=by
 go_enter Tryz.func148,Tryz.ntmps148
 go_wp2
 go_ret
 exact ⟨ret_int (bits_andNot n m hn hn' hm hm'),rfl⟩
theorem ones64 (x:Int) (w:World) (h0:0 ≤ x) (h1:x ≤ 255) :
 Calls Tryz.prog 158 #[.int .u64 x] w fun e w' => e = .returned (.int .i64 (popI x))∧w = w':=by
 go_enter Tryz.func158,Tryz.ntmps158
 go_wp2
 go_ret
 refine ⟨ret_int ?_,rfl⟩
 obtain ⟨y,rfl⟩:=Int.eq_ofNat_of_zero_le h0
 have h:y < 256:=by omega
 clear h0 h1
 revert y
 decide +kernel
theorem count_any (n:Int) (w:World) (hn:0 ≤ n) (hn':n ≤ 255) :
 Calls Tryz.prog 149 #[.int .i64 n] w fun e w' => e = .returned (.int .i64 (popI n))∧w = w':=by
 have hw:IntKind.u64.wrap n = n:=IntWalk.u64_in _ (by omega)
 go_enter Tryz.func149,Tryz.ntmps149
 go_wp2_with (first | (go_at_call 158;refine (ones64 n _ hn hn').mono ?_;rintro e w' ⟨rfl,rfl⟩) | go_in)
 go_ret
 exact ⟨rfl,rfl⟩
theorem on_any (n:Int) (s:Sg) (w:World) (hn:0 ≤ n) (hn':n ≤ 255) :
 Calls Tryz.prog 147 #[.int .i64 n,vSg s] w fun e w' => e = .returned (.int .i64 (onI n s.l s.r))∧Below w.heap.size w w':=by
 obtain ⟨sn,l,r,sb,sp⟩:=s
 unfold vSg
 have h1:=bits_andNot n 15 hn hn' (by omega) (by omega)
 have h2:=bits_andNot n 240 hn hn' (by omega) (by omega)
 have h3:=bits_andNot (butI n 15) 240 (butI_lo _ _) (butI_hi _ _) (by omega) (by omega)
 have H:=Lib.hid (And.intro h1 (And.intro h2 h3))
 clear h1 h2 h3
 cases l <;> cases r
 all_goals
  go_enter Tryz.func147,Tryz.ntmps147
  go_wp2
  go_ret
  refine ⟨ret_int ?_,(Below.refl _ _).alloc (Nat.le_refl _) _⟩
 ·exact (onI_ff n hn hn').symm
 ·exact H.out.2.1.trans (onI_ft n hn hn').symm
 ·exact H.out.1.trans (onI_tf n hn hn').symm
 ·refine Eq.trans ?_ (onI_tt n hn hn').symm
  show bits .andNot .i64 (bits .andNot .i64 n 15) 240 = _
  rw [H.out.1,H.out.2.2]
end Go.Proofs.YtmennjmjakdkcaaGreat
namespace Go.Proofs.YtmennjmjakdkcaaGreat
open Go.RowKit
set_option linter.unusedVariables false
set_option linter.unusedSimpArgs false
theorem seen_any (s:Sg) (b p:Int) (w:World) :
 Calls Tryz.prog 131 #[vSg s,.int .i64 b,.int .i64 p] w fun e w' => e = .returned (.int .i64 (seen s b p))∧Below w.heap.size w w':=by
 by_cases h1:btw s.n 0 255 = true
 ·have h1':=btw_iff.1 h1
  go_enter Tryz.func131,Tryz.ntmps131
  unfold vSg
  go_wp2_with (first
   | (go_at_call 106;refine (between_any _ _ _ _).mono ?_;rintro e w' ⟨rfl,rfl⟩)
   | (go_at_call 147;refine (on_any s.n s _ h1'.1 h1'.2).mono ?_;rintro e w1 ⟨rfl,hb1⟩;obtain ⟨hc1,hf1⟩:=bc hb1;have hz1:=hb1.size))
  all_goals
   go_ret
   refine ⟨ret_int ?_,?_⟩
   ·simp_all [seen]
   ·exact ((Below.refl _ _).alloc (Nat.le_refl _) _).trans (hb1.mono (by simp))
 ·have h1':btw s.n 0 255 = false:=by simpa using h1
  go_enter Tryz.func131,Tryz.ntmps131
  unfold vSg
  go_wp2_with (go_at_call 106;refine (between_any _ _ _ _).mono ?_;rintro e w' ⟨rfl,rfl⟩)
  go_ret
  exact ⟨ret_int (by simp [seen,h1']),(Below.refl _ _).alloc (Nat.le_refl _) _⟩
theorem sight_any (s:Sg) (w:World) :
 Calls Tryz.prog 113 #[vSg s] w fun e w' => e = .returned (.int .i64 (seen s 9 6))∧Below w.heap.size w w':=by
 go_enter Tryz.func113,Tryz.ntmps113
 unfold vSg
 go_wp2_with (go_at_call 131;refine (seen_any s 9 6 _).mono ?_;rintro e w1 ⟨rfl,hb1⟩)
 go_ret
 exact ⟨rfl,((Below.refl _ _).alloc (Nat.le_refl _) _).trans (hb1.mono (by simp))⟩
theorem all_step {L:List Int} {q:Nat} {x:Int} {f:Int→Bool} (h:(L.take q).all f = true) (hx:L[q]? = some x) (hf:f x = true):(L.take (q + 1)).all f = true:=by
 rw [List.take_add_one,hx,List.all_append,h];simp [hf]
theorem all_not {L:List Int} {q:Nat} {x:Int} {f:Int→Bool} (hx:L[q]? = some x) (hf:f x = false):L.all f = false:=by
 rw [List.all_eq_false];exact ⟨x,List.mem_of_getElem? hx,by simp [hf]⟩
end Go.Proofs.YtmennjmjakdkcaaGreat
namespace Go.Proofs.YtmennjmjakdkcaaGreat
open Go.RowKit
set_option linter.unusedVariables false
set_option linter.unusedSimpArgs false
theorem chk_step {l:List Mk} {n k:Nat} {m:Mk} (hl:l.length = n) (hk:k < n) (hm:l[k]? = some m) :
 chk l (n - k) k = if mkOk m = false then 1 else if (l.take k).contains m then 4 else chk l (n - (k + 1)) (k + 1):=by
 obtain ⟨j,hj⟩:∃ j,n - k = j + 1:=⟨n - k - 1,by omega⟩
 rw [hj,show n - (k + 1) = j by omega]
 simp only [chk,hm]
theorem take_no {l:List Mk} {q:Nat} {x m:Mk} (h:(l.take q).contains m = false) (hx:l[q]? = some x) (hne:¬ x = m):(l.take (q + 1)).contains m = false:=by
 have hlt:q < l.length:=(List.getElem?_eq_some_iff.1 hx).1
 rw [List.take_add_one,hx]
 simp only [Option.toList,List.contains_eq_mem,decide_eq_false_iff_not,List.mem_append,List.mem_singleton,not_or] at h ⊢
 exact ⟨h,fun e => hne e.symm⟩
theorem take_yes {l:List Mk} {q k:Nat} {m:Mk} (hx:l[q]? = some m) (hq:q < k):(l.take k).contains m = true:=by
 simp only [List.contains_eq_mem,decide_eq_true_eq]
 exact List.mem_of_getElem? (i:=q) (by rw [List.getElem?_take,if_pos hq];exact hx)
set_option maxHeartbeats 1000000 in
theorem check_any (t:Int) (A:Option Addr) (n c:Nat) (l:List Mk) (w:World) (hc:Marks w A n l) (hlc:n ≤ c) (hcm:c ≤ maxLen) :
 Calls Tryz.prog 62 #[.agg #[.int .i64 t,.slice A n c]] w fun e w' => e = .returned (.int .i64 (check t l))∧Below w.heap.size w w':=by
 have hl:=hc.len
 have HL:=Lib.hid hl
 unfold maxLen at hcm
 have hb0:Below w.heap.size w (w.alloc (Obj.cells #[Value.int IntKind.i64 t,Value.slice A n c] 24)):=(Below.refl _ _).alloc (Nat.le_refl _) _
 by_cases h1:btw t 0 2 = true
 ·by_cases h2:n ≤ 5
  ·have hck:check t l = chk l (n - 0) 0:=by
    unfold check;rw [if_neg (by simp [h1]),if_neg (by omega),hl];rfl
   have HC:=Lib.hid hck
   clear hl hck
   have h3:decide ((5:Int) < (n:Int)) = false:=by simp;omega
   have hc0:=hc.alloc (Obj.cells #[Value.int IntKind.i64 t,Value.slice A n c] 24)
   have hblk:(w.alloc (Obj.cells #[Value.int IntKind.i64 t,Value.slice A n c] 24)).heap[w.heap.size]? = some (Obj.cells #[Value.int IntKind.i64 t,Value.slice A n c] 24 (0,0)):=heap_alloc_new w _
   go_enter Tryz.func62,Tryz.ntmps62
   go_wp2_with (go_at_call 106;refine (between_any _ _ _ _).mono ?_;rintro e w' ⟨rfl,rfl⟩)
   generalize hW:(w.alloc (Obj.cells #[Value.int IntKind.i64 t,Value.slice A n c] 24)) = W0 at hc0 hblk hb0 ⊢
   clear hW
   have hw0:=heap_lt hblk
   go_loopg [18] n (fun g i wr => ∃ k:Nat,k + g = n∧i = .int .i64 k∧chk l (n - 0) 0 = chk l (n - k) k∧Below W0.heap.size W0 wr)
   case atStart => exact ⟨0,by omega,rfl,rfl,Below.refl _ _⟩
   case round =>
    obtain ⟨k,hk,rfl,hchk,hbl⟩:=hrel
    obtain ⟨wo,rfl⟩:∃ wo:World,wo = wr:=⟨_,rfl⟩
    obtain ⟨g1,rfl⟩:∃ g1:Nat,g1 = gk:=⟨_,rfl⟩
    have HK:=Lib.hid hchk
    have HKG:=Lib.hid hk
    have hk':k ≤ n:=by omega
    clear hchk hk
    have hs0:=hbl.size
    by_cases hlt:k < n
    ·obtain ⟨b,off,m,rfl,hb,hm,c0,c1,c2⟩:=Marks.get (hc0.below hbl (Nat.le_refl _)) hlt
     have HM:=Lib.hid hm
     have HS:=Lib.hid (chk_step HL.out hlt hm)
     clear hm
     have r1:wo.cell? ⟨w.heap.size,1,none⟩ = some (.slice (some ⟨b,off,none⟩) n c):=by
      have:=bheap hblk hbl (Nat.le_refl _);simp [World.cell?,this]
     have hmarks:=(hc0.below hbl (Nat.le_refl _)).alloc (Obj.cells #[Value.int IntKind.i64 m.n,Value.int IntKind.i64 m.b,Value.int IntKind.i64 m.p] 117)
     have hwr:w.heap.size < wo.heap.size:=by omega
     by_cases hmk:mkOk m = true
     ·have h4:btw m.n 0 255 = true:=by simp [mkOk] at hmk;exact hmk.1
      have h5:btw m.b 0 9 = true:=by simp [mkOk] at hmk;exact hmk.2.1
      have h6:btw m.p 0 6 = true:=by simp [mkOk] at hmk;exact hmk.2.2
      go_wp2_with (go_at_call 106;refine (between_any _ _ _ _).mono ?_;rintro e w' ⟨rfl,rfl⟩)
      generalize hW1:(wo.alloc (Obj.cells #[Value.int IntKind.i64 m.n,Value.int IntKind.i64 m.b,Value.int IntKind.i64 m.p] 117)) = W1 at hmarks ⊢
      have hblk1:W1.heap[wo.heap.size]? = some (Obj.cells #[Value.int IntKind.i64 m.n,Value.int IntKind.i64 m.b,Value.int IntKind.i64 m.p] 117 (0,0)):=by rw [← hW1];exact heap_alloc_new wo _
      have hb1:Below W0.heap.size W0 W1:=by rw [← hW1];exact hbl.alloc hbl.size _
      clear hW1
      have hw1:=heap_lt hblk1
      go_loopg [44] k (fun g i wr => ∃ q:Nat,q + g = k∧i = .int .i64 q∧(l.take q).contains m = false∧Below W1.heap.size W1 wr)
      case atStart => exact ⟨0,by omega,rfl,by simp,Below.refl _ _⟩
      case round =>
       obtain ⟨q,hq,rfl,hno,hbi⟩:=hrel
       have HN:=Lib.hid hno
       have HQ:=Lib.hid hq
       have hq':q ≤ k:=by omega
       clear hno hq
       have hs1:=hbi.size
       by_cases hqk:q < k
       ·obtain ⟨b',off',x,hA,hb',hx,d0,d1,d2⟩:=Marks.get (hmarks.below hbi (Nat.le_refl _)) (show q < n by omega)
        obtain ⟨rfl,rfl⟩:b' = b∧off' = off:=by simpa [eq_comm] using hA
        have HX:=Lib.hid hx
        clear hx hA
        have e0:wr.cell? ⟨wo.heap.size,0,none⟩ = some (.int .i64 m.n):=by have:=bheap hblk1 hbi (Nat.le_refl _);simp [World.cell?,this]
        have e1:wr.cell? ⟨wo.heap.size,1,none⟩ = some (.int .i64 m.b):=by have:=bheap hblk1 hbi (Nat.le_refl _);simp [World.cell?,this]
        have e2:wr.cell? ⟨wo.heap.size,2,none⟩ = some (.int .i64 m.p):=by have:=bheap hblk1 hbi (Nat.le_refl _);simp [World.cell?,this]
        have hwi:wo.heap.size < wr.heap.size:=by omega
        by_cases hxm:x = m
        ·subst hxm
         go_wp2
         go_ret
         refine ⟨ret_int ?_,?_⟩
         ·rw [HC.out,HK.out,HS.out,if_neg (by simp [hmk]),if_pos (take_yes HX.out hqk)]
         ·exact hb0.trans ((hb1.trans (hbi.mono hb1.size)).mono hb0.size |>.alloc (by omega) _)
        ·have hne:¬ (x.n = m.n∧x.b = m.b∧x.p = m.p):=fun h => hxm (by cases x;cases m;simp_all)
         have HNE:=Lib.hid hne
         clear hne hxm
         go_wp2
         ·exact absurd ⟨‹_›,‹_›,‹_›⟩ HNE.out
         all_goals
          go_roundg (gk - 1)
          case measure => have:=HQ.out;omega
          case rel => exact ⟨q + 1,by have:=HQ.out;omega,by go_num,take_no HN.out HX.out (fun e => HNE.out (by rw [e];exact ⟨rfl,rfl,rfl⟩)),hbi.alloc hbi.size _⟩
       ·obtain rfl:q = k:=by omega
        go_wp2
        go_roundg (g1 - 1)
        case measure => have:=HKG.out;omega
        case rel =>
         refine ⟨q + 1,by have:=HKG.out;omega,by go_num,?_,(hb1.trans (hbi.mono hb1.size))⟩
         rw [HK.out,HS.out,if_neg (by simp [hmk]),if_neg (by rw [HN.out];simp)]
     ·have hmk':mkOk m = false:=by simpa using hmk
      have hsp:¬ (btw m.n 0 255 = true∧btw m.b 0 9 = true∧btw m.p 0 6 = true):=by simpa [mkOk] using hmk
      have HSP:=Lib.hid hsp
      clear hsp hmk
      go_wp2_with (go_at_call 106;refine (between_any _ _ _ _).mono ?_;rintro e w' ⟨rfl,rfl⟩)
      all_goals first
       | (go_ret
          exact ⟨ret_int (by rw [HC.out,HK.out,HS.out,if_pos hmk']),hb0.trans ((hbl.alloc hbl.size _).mono hb0.size)⟩)
       | (exfalso;exact HSP.out ⟨‹_›,‹_›,by simpa using ‹(!btw m.p 0 6) = false›⟩)
    ·obtain rfl:k = n:=by omega
     go_wp2
     go_ret
     exact ⟨ret_int (by rw [HC.out,HK.out,Nat.sub_self];rfl),hb0.trans (hbl.mono hb0.size)⟩
  ·have h3:decide ((5:Int) < (n:Int)) = true:=by simp;omega
   have hck:check t l = 6:=by
    unfold check;rw [if_neg (by simp [h1]),if_pos (by omega)]
   have HC:=Lib.hid hck
   clear hl hck
   go_enter Tryz.func62,Tryz.ntmps62
   go_wp2_with (go_at_call 106;refine (between_any _ _ _ _).mono ?_;rintro e w' ⟨rfl,rfl⟩)
   go_ret
   exact ⟨ret_int HC.out.symm,hb0⟩
 ·have h1':btw t 0 2 = false:=by simpa using h1
  have hck:check t l = 1:=by
   unfold check;rw [if_pos h1']
  have HC:=Lib.hid hck
  clear hl hck h1
  go_enter Tryz.func62,Tryz.ntmps62
  go_wp2_with (go_at_call 106;refine (between_any _ _ _ _).mono ?_;rintro e w' ⟨rfl,rfl⟩)
  go_ret
  exact ⟨ret_int HC.out.symm,hb0⟩
end Go.Proofs.YtmennjmjakdkcaaGreat
namespace Go.Proofs.YtmennjmjakdkcaaGreat
open Go.RowKit
set_option linter.unusedVariables false
set_option linter.unusedSimpArgs false
def wornS (m:Mk) (s:Sg):Sg:=⟨onI (orI m.n s.n) s.l s.r,s.l,s.r,if s.b = -1 then -1 else m.b,if s.p = -1 then -1 else m.p⟩
end Go.Proofs.YtmennjmjakdkcaaGreat
namespace Go.Proofs.YtmennjmjakdkcaaGreat
open Go.RowKit
set_option linter.unusedVariables false
set_option linter.unusedSimpArgs false
set_option maxHeartbeats 1000000 in
theorem fits_any (t:Int) (v:Value) (s:Sg) (m:Mk) (w:World) (hs:0 ≤ s.n) (hs':s.n ≤ 255) (hm:0 ≤ m.n) (hm':m.n ≤ 255) :
 Calls Tryz.prog 132 #[.agg #[.int .i64 t,v],vSg s,vMk m] w fun e w' => e = .returned (.bool (fits s m t))∧Below w.heap.size w w':=by
 have ho:=onI_lo m.n s.l s.r
 have ho':=onI_hi m.n s.l s.r
 have hb:=butI_lo s.n (onI m.n s.l s.r)
 have hb':=butI_hi s.n (onI m.n s.l s.r)
 go_enter Tryz.func132,Tryz.ntmps132
 unfold vSg vMk
 go_upto_region 1 with (fail)
 go_cut [30] (fun q wc => q = .bool (!alikeBP s m)∧(((w.alloc (Obj.cells #[Value.int .i64 t,v] 163)).alloc (Obj.cells #[Value.int .i64 s.n,.bool s.l,.bool s.r,.int .i64 s.b,.int .i64 s.p] 31)).alloc (Obj.cells #[Value.int .i64 m.n,.int .i64 m.b,.int .i64 m.p] 117)) = wc)
 case first =>
  cases e1:(s.b != -1) <;> cases e2:(s.b != m.b) <;> cases e3:(s.p != -1) <;> cases e4:(s.p != m.p)
  all_goals
   go_wp2
   go_meet
   exact ⟨by simp_all [alikeBP],rfl⟩
 case rest =>
  obtain ⟨rfl,rfl⟩:=hcut
  cases hal:alikeBP s m
  ·have HF:=Lib.hid (show fits s m t = false by simp [fits,hal])
   go_wp2_with fail
   go_ret
   exact ⟨ret_bool HF.out.symm,(((Below.refl _ _).alloc (Nat.le_refl _) _).alloc (by simp) _).alloc (by simp;omega) _⟩
  ·have HF:=Lib.hid hal
   clear hal
   go_wp2_with fail
   obtain ⟨W2,hW2⟩:∃ W2,W2 = ((w.alloc (Obj.cells #[Value.int .i64 t,v] 163)).alloc (Obj.cells #[Value.int .i64 s.n,.bool s.l,.bool s.r,.int .i64 s.b,.int .i64 s.p] 31)).alloc (Obj.cells #[Value.int .i64 m.n,.int .i64 m.b,.int .i64 m.p] 117):=⟨_,rfl⟩
   rw [← hW2]
   have hB:Below w.heap.size w W2:=by rw [hW2];exact (((Below.refl _ _).alloc (Nat.le_refl _) _).alloc (by simp) _).alloc (by simp;omega) _
   have b3:W2.heap[w.heap.size]? = some (Obj.cells #[Value.int .i64 t,v] 163 (0,0)):=by rw [hW2];exact hblk_alloc (hblk_alloc (alloc_at rfl) _) _
   have b4:W2.heap[w.heap.size + 1]? = some (Obj.cells #[Value.int .i64 s.n,.bool s.l,.bool s.r,.int .i64 s.b,.int .i64 s.p] 31 (0,0)):=by rw [hW2];exact hblk_alloc (alloc_at (by simp)) _
   have b5:W2.heap[w.heap.size + 1 + 1]? = some (Obj.cells #[Value.int .i64 m.n,.int .i64 m.b,.int .i64 m.p] 117 (0,0)):=by rw [hW2];exact alloc_at (by simp)
   clear hW2
   obtain ⟨c0,c1,c2,c3,c4⟩:=blk5 b4
   have k0:=cell_regrown c0
   have k1:=cell_regrown c1
   have k2:=cell_regrown c2
   have k3:=cell_regrown c3
   have k4:=cell_regrown c4
   have k5:=cell_regrown (blk3 b5).1
   have cOn:∀ d os,Calls Tryz.prog 147 #[.int .i64 m.n,vSg s] (Sort.grow (redrawn W2 d) os) (fun e w'' => e = .returned (.int .i64 (onI m.n s.l s.r))∧∃ p:Regrown,w'' = Sort.grow (redrawn W2 p.d) p.os):=fun d os => Calls.regrown_of (on_any m.n s _ hm hm')
   have HCon:=Lib.hid cOn
   clear cOn c0 c1 c2 c3 c4
   refine wp_region_quiet_below (by kernel_rfl) (by kernel_rfl) ?_
   repeat (quiet_step (exact HCon.out _ _))
   refine wpQuiet_nil ?_
   intro _ hw'
   obtain ⟨⟨dq,osq⟩,hw''⟩:=hw'
   subst hw''
   obtain ⟨W3,hW3⟩:∃ W3,W3 = Sort.grow (redrawn W2 dq) osq:=⟨_,rfl⟩
   have hB3:Below W2.heap.size W2 W3:=by rw [hW3];exact below_regrown W2 dq osq
   rw [← hW3]
   have hs2:w.heap.size + 2 < W2.heap.size:=by have:=heap_lt b5;omega
   have q0:W3.cell? ⟨w.heap.size,0,none⟩ = some (.int .i64 t):=bcell (blk2 b3).1 hB3 (Nat.le_refl _)
   clear hW3 k0 k1 k2 k3 k4 k5 HCon
   cases hg:(butI (onI m.n s.l s.r) s.n == 0)
   all_goals
    go_wp2_with fail
    go_quiet (first
     | (go_at_call 148;exact quiet_left (but_any _ _ _ (by assumption) (by assumption) (by assumption) (by assumption)))
     | (go_at_call 149;exact quiet_left (count_any _ _ hb hb')))
    go_wp2
    go_ret
    refine ⟨ret_bool ?_,hB.trans (((hB3.mono (by omega)).trans (below_drewN (Below.refl _ _) _)))⟩
   ·have h0:¬ butI (onI m.n s.l s.r) s.n = 0:=by simpa using hg
    simp [fits,HF.out,h0]
   ·have h0:butI (onI m.n s.l s.r) s.n = 0:=by simpa using hg
    simp [fits,HF.out,h0]
end Go.Proofs.YtmennjmjakdkcaaGreat
namespace Go.Proofs.YtmennjmjakdkcaaGreat
open Go.RowKit
set_option linter.unusedVariables false
set_option linter.unusedSimpArgs false
set_option maxHeartbeats 1000000 in
theorem mayB_any (t:Int) (A:Option Addr) (n c:Nat) (l:List Mk) (s:Sg) (w:World) (hl:Marks w A n l) (hn:n ≤ 4294967295) (hs:0 ≤ s.n) (hs':s.n ≤ 255) (hv:∀ m ∈ l,0 ≤ m.n∧m.n ≤ 255) :
 Calls Tryz.prog 114 #[.agg #[.int .i64 t,.slice A n c],vSg s] w fun e w' => ∃ v,e = .returned v∧OwnI w' w.heap.size v (mayL t l s)∧Below w.heap.size w w':=by
 have HV:=Lib.hid hv
 have HL:=Lib.hid hl
 have hB0:Below w.heap.size w ((w.alloc (Obj.cells #[Value.int .i64 t,.slice A n c] 163)).alloc (Obj.cells #[Value.int .i64 s.n,.bool s.l,.bool s.r,.int .i64 s.b,.int .i64 s.p] 31)):=((Below.refl _ _).alloc (Nat.le_refl _) _).alloc (by simp) _
 have b2:((w.alloc (Obj.cells #[Value.int .i64 t,.slice A n c] 163)).alloc (Obj.cells #[Value.int .i64 s.n,.bool s.l,.bool s.r,.int .i64 s.b,.int .i64 s.p] 31)).heap[w.heap.size]? = some (Obj.cells #[Value.int .i64 t,.slice A n c] 163 (0,0)):=hblk_alloc (alloc_at rfl) _
 have b3:((w.alloc (Obj.cells #[Value.int .i64 t,.slice A n c] 163)).alloc (Obj.cells #[Value.int .i64 s.n,.bool s.l,.bool s.r,.int .i64 s.b,.int .i64 s.p] 31)).heap[w.heap.size + 1]? = some (Obj.cells #[Value.int .i64 s.n,.bool s.l,.bool s.r,.int .i64 s.b,.int .i64 s.p] 31 (0,0)):=alloc_at (by simp)
 have hl0:=(hl.alloc (Obj.cells #[Value.int .i64 t,.slice A n c] 163)).alloc (Obj.cells #[Value.int .i64 s.n,.bool s.l,.bool s.r,.int .i64 s.b,.int .i64 s.p] 31)
 clear hv hl
 go_enter Tryz.func114,Tryz.ntmps114
 unfold vSg
 go_wp2_with fail
 generalize ((w.alloc (Obj.cells #[Value.int .i64 t,.slice A n c] 163)).alloc (Obj.cells #[Value.int .i64 s.n,.bool s.l,.bool s.r,.int .i64 s.b,.int .i64 s.p] 31)) = W0 at hB0 b2 b3 hl0 ⊢
 have hw0:w.heap.size + 1 < W0.heap.size:=heap_lt b3
 have HB:=Lib.hid (And.intro b2 b3)
 clear b2 b3
 go_loopg [5,12] n (fun g v i wr => ∃ k:Nat,k + g = n∧i = .int .i64 k∧OwnI wr W0.heap.size v (mayTo t l s k)∧Below W0.heap.size W0 wr)
 case atStart => exact ⟨0,by omega,rfl,Own.nil_,Below.refl _ _⟩
 case round =>
  obtain ⟨k,hk,rfl,hown,hbl⟩:=hrel
  have HK:=Lib.hid hk
  have HO:=Lib.hid hown
  have hkn:k ≤ n:=by omega
  clear hk hown
  have hz:=hbl.size
  have g0:w.heap.size < wr.heap.size:=by omega
  have g1:w.heap.size + 1 < wr.heap.size:=by omega
  by_cases hlt:k < n
  ·obtain ⟨b,off,m,rfl,hb,hm,c0,c1,c2⟩:=Marks.get (hl0.below hbl (Nat.le_refl _)) hlt
   have HM:=Lib.hid hm
   have hmv:=HV.out m (List.mem_of_getElem? hm)
   clear hm
   obtain ⟨r0,r1⟩:=blk2 (bheap HB.out.1 hbl (Nat.le_refl _))
   obtain ⟨s0,s1,s2,s3,s4⟩:=blk5 (bheap HB.out.2 hbl (Nat.le_refl _))
   go_wp2_with fail
   refine (fits_any t _ s m _ hs hs' hmv.1 hmv.2).mono ?_
   rintro e w1 ⟨rfl,hb1⟩
   have hz1:=hb1.size
   have hbl1:Below W0.heap.size W0 w1:=(hbl.alloc hz _).trans (hb1.mono (by simp;omega))
   have hown1:=Lib.hid ((HO.out.alloc (Obj.cells #[Value.int .i64 m.n,.int .i64 m.b,.int .i64 m.p] 117)).below hb1 (Nat.le_refl _))
   have hlen:=mayTo_len t l s k
   have HS:=Lib.hid (mayTo_succ (t:=t) (s:=s) HM.out)
   have hz1':=hbl1.size
   cases hf:fits s m t
   all_goals
    go_wp2_with (at_builtin;refine wp_app okInt rfl (.tmp 21) (.tmp 23) rfl W0.heap.size _ (mayTo t l s k) (k:Int) _ rfl rfl rfl rfl (one_eInt _) hown1.out ?_ ?_ ?_ ?_;(omega);(omega);(omega);intro v' w2 hown2 hb2 _ hz2;have HO2:=Lib.hid hown2;clear hown2)
    go_roundg (gk - 1)
    case measure => have:=HK.out;omega
   ·exact ⟨k + 1,by have:=HK.out;omega,by go_num,by rw [HS.out,hf];simpa using hown1.out,hbl1⟩
   ·exact ⟨k + 1,by have:=HK.out;omega,by go_num,by rw [HS.out,hf];simpa using HO2.out,hbl1.trans hb2⟩
  ·obtain rfl:k = n:=by omega
   go_wp2
   go_ret
   exact ⟨_,rfl,by have:=HL.out.len;unfold mayL;rw [this];exact HO.out.mono (by omega),hB0.trans (hbl.mono (by omega))⟩
end Go.Proofs.YtmennjmjakdkcaaGreat
namespace Go.Proofs.YtmennjmjakdkcaaGreat
open Go.RowKit
set_option linter.unusedVariables false
set_option linter.unusedSimpArgs false
set_option maxHeartbeats 1000000 in
theorem May_any (t:Int) (A:Option Addr) (n c:Nat) (l:List Mk) (s:Sg) (w:World) (hl:Marks w A n l) (hlc:n ≤ c) (hcm:c ≤ maxLen) :
 Calls Tryz.prog 80 #[.agg #[.int .i64 t,.slice A n c],vSg s] w fun e w' => ∃ v,e = .returned (.tuple #[v,.int .i64 (mayE t l s)])∧OwnI w' w.heap.size v (mayR t l s)∧Below w.heap.size w w':=by
 have HL:=Lib.hid hl
 have hb0:Below w.heap.size w ((w.alloc (Obj.cells #[Value.int .i64 t,.slice A n c] 24)).alloc (Obj.cells #[Value.int .i64 s.n,.bool s.l,.bool s.r,.int .i64 s.b,.int .i64 s.p] 31)):=((Below.refl _ _).alloc (Nat.le_refl _) _).alloc (by simp) _
 clear hl
 by_cases hck:check t l = 0
 ·have h0:(check t l != 0) = false:=by simp [hck]
  have HC:=Lib.hid hck
  clear hck
  by_cases hse:seen s 9 6 = 0
  ·have h1:(seen s 9 6 != 0) = false:=by simp [hse]
   have HS:=Lib.hid hse
   have hv:=(seen_ok hse).1
   have hm:∀ m ∈ l,0 ≤ m.n∧m.n ≤ 255:=fun m hm => (check_marks HC.out m hm).1
   have HM:=Lib.hid hm
   have hn5:n ≤ 5:=by have:=(check_ok HC.out).2.2.1;have:=HL.out.len;omega
   clear hse hm
   go_enter Tryz.func80,Tryz.ntmps80
   unfold vSg
   go_wp2_with (first
    | (go_at_call 62;refine (check_any t A n c l _ ((HL.out.alloc _).alloc _) hlc hcm).mono ?_;rintro e w1 ⟨rfl,hb1⟩;obtain ⟨hc1,hf1⟩:=bc hb1;have hz1:=hb1.size;simp at hz1;have g1:w.heap.size < w1.heap.size:=(by omega);have g2:w.heap.size + 1 < w1.heap.size:=(by omega);have HB1:=Lib.hid hb1;clear hb1)
    | (go_at_call 113;refine (sight_any s _).mono ?_;rintro e w2 ⟨rfl,hb2⟩;obtain ⟨hc2,hf2⟩:=bc hb2;have hz2:=hb2.size;have g3:w.heap.size < w2.heap.size:=(by omega);have g4:w.heap.size + 1 < w2.heap.size:=(by omega);have HB2:=Lib.hid hb2;clear hb2)
    | (go_at_call 114;refine (mayB_any t A n c l s _ ((((HL.out.alloc _).alloc _).below HB1.out (Nat.le_refl _)).below HB2.out (Nat.le_refl _)) (by omega) hv.1 hv.2 HM.out).mono ?_;rintro e w3 ⟨v,rfl,ho3,hb3⟩;have HB3:=Lib.hid (And.intro ho3 hb3);clear ho3 hb3))
   go_ret2
   exact ⟨v,by simp [mayE,HC.out,HS.out],by simpa [mayR,mayE,HC.out,HS.out] using HB3.out.1.mono (by omega),hb0.trans ((HB1.out.mono (by simp;omega)).trans ((HB2.out.mono (by omega)).trans (HB3.out.2.mono (by omega))))⟩
  ·have h1:(seen s 9 6 != 0) = true:=by simp [hse]
   have HS:=Lib.hid hse
   clear hse
   go_enter Tryz.func80,Tryz.ntmps80
   unfold vSg
   go_wp2_with (first
    | (go_at_call 62;refine (check_any t A n c l _ ((HL.out.alloc _).alloc _) hlc hcm).mono ?_;rintro e w1 ⟨rfl,hb1⟩;obtain ⟨hc1,hf1⟩:=bc hb1;have hz1:=hb1.size;simp at hz1;have g1:w.heap.size < w1.heap.size:=(by omega);have g2:w.heap.size + 1 < w1.heap.size:=(by omega);have HB1:=Lib.hid hb1;clear hb1)
    | (go_at_call 113;refine (sight_any s _).mono ?_;rintro e w2 ⟨rfl,hb2⟩;have hz2:=hb2.size;have g3:w.heap.size < w2.heap.size:=(by omega);have g4:w.heap.size + 1 < w2.heap.size:=(by omega);have HB2:=Lib.hid hb2;clear hb2))
   go_ret2
   exact ⟨.slice none 0 0,by simp [mayE,HC.out],by simpa [mayR,mayE,HC.out,HS.out] using Own.nil_,hb0.trans ((HB1.out.mono (by simp;omega)).trans (HB2.out.mono (by omega)))⟩
 ·have h0:(check t l != 0) = true:=by simp [hck]
  have HC:=Lib.hid hck
  clear hck
  go_enter Tryz.func80,Tryz.ntmps80
  unfold vSg
  go_wp2_with (go_at_call 62;refine (check_any t A n c l _ ((HL.out.alloc _).alloc _) hlc hcm).mono ?_;rintro e w1 ⟨rfl,hb1⟩;have HB1:=Lib.hid hb1;clear hb1)
  go_ret2
  exact ⟨.slice none 0 0,by simp [mayE,HC.out],by simpa [mayR,mayE,HC.out] using Own.nil_,hb0.trans (HB1.out.mono (by simp;omega))⟩
end Go.Proofs.YtmennjmjakdkcaaGreat
namespace Go.Proofs.YtmennjmjakdkcaaGreat
open Go.RowKit
set_option linter.unusedVariables false
set_option linter.unusedSimpArgs false
end Go.Proofs.YtmennjmjakdkcaaGreat
namespace Go.Proofs.YtmennjmjakdkcaaGreat
open Go.RowKit
set_option linter.unusedVariables false
set_option linter.unusedSimpArgs false
theorem okInts:ElemOk Tryz.prog 26 25 1 24:=ElemOk.mk' (z:=.slice none 0 0) Tryz.underlying26 (by kernel_rfl) rfl (by decide)
def Rws (w:World) (base:Nat) (mv:List Value) (ls:List (List Int)):Prop :=
 mv.length = ls.length∧∀ (i:Nat) v,mv[i]? = some v→∃ l,ls[i]? = some l∧OwnI w base v l
def OwnG (w:World) (base:Nat) (v:Value) (ls:List (List Int)):Prop:=∃ mv,Own eVal 25 1 w base v mv∧Rws w base mv ls
theorem lenFlatVal (l:List Value):(l.flatMap eVal).length = l.length:=by
 induction l with
 | nil => rfl
 | cons a r ih => rw [List.flatMap_cons,List.length_append,ih];simp [eVal];omega
theorem own_ne {α β:Type} {ea:α→List Value} {eb:β→List Value} {t u:TypeId} {s r:Nat} {w:World} {b c:Nat} {x y:Value} {l:List α} {m:List β} (h:Own ea t s w b x l) (k:Own eb u r w c y m) (hne:t ≠ u) :
 x.ownBlock = none ∨ x.ownBlock ≠ y.ownBlock:=by
 rcases h.2 with ⟨rfl,_⟩ | ⟨g,cap,cur,rfl,_,h2,_⟩
 ·exact .inl rfl
 ·refine .inr ?_
  rcases k.2 with ⟨rfl,_⟩ | ⟨g',cap',cur',rfl,_,k2,_⟩
  ·simp [Value.ownBlock]
  ·intro e
   simp only [Value.ownBlock,Option.some.injEq] at e
   subst e
   rw [h2] at k2
   cases k2
   exact hne rfl
theorem OwnG.nil_ {w:World} {base:Nat}:OwnG w base (.slice none 0 0) []:=⟨[],Own.nil_,rfl,fun i v h => by simp at h⟩
theorem OwnG.below {w w':World} {base B:Nat} {v:Value} {ls:List (List Int)} (h:OwnG w base v ls) (hb:Below B w w') (hB:w.heap.size ≤ B):OwnG w' base v ls:=by
 obtain ⟨mv,h1,h2,h3⟩:=h
 exact ⟨mv,h1.below hb hB,h2,fun i v hv => by
  obtain ⟨l,hl,ho⟩:=h3 i v hv
  exact ⟨l,hl,ho.below hb hB⟩⟩
theorem OwnG.mono {w:World} {base b:Nat} {v:Value} {ls:List (List Int)} (h:OwnG w base v ls) (hb:b ≤ base):OwnG w b v ls:=by
 obtain ⟨mv,h1,h2,h3⟩:=h
 exact ⟨mv,h1.mono hb,h2,fun i v hv => by
  obtain ⟨l,hl,ho⟩:=h3 i v hv
  exact ⟨l,hl,ho.mono hb⟩⟩
theorem OwnG.upon {w w':World} {base:Nat} {v:Value} {ls:List (List Int)} (h:OwnG w base v ls) (k:∀ j,base ≤ j→w'.heap[j]? = w.heap[j]?):OwnG w' base v ls:=by
 obtain ⟨mv,h1,h2,h3⟩:=h
 exact ⟨mv,h1.upon k,h2,fun i v hv => by
  obtain ⟨l,hl,ho⟩:=h3 i v hv
  exact ⟨l,hl,ho.upon k⟩⟩
theorem OwnG.snoc {w w':World} {base:Nat} {v v' u:Value} {mv:List Value} {ls:List (List Int)} {l:List Int} (h1:Own eVal 25 1 w base v mv) (h2:Rws w base mv ls) (hu:OwnI w base u l)
 (h3:Own eVal 25 1 w' base v' (mv ++ [u])) (hg:w.grownBy w' v.ownBlock):OwnG w' base v' (ls ++ [l]):=by
 refine ⟨mv ++ [u],h3,by simp [h2.1],fun i x hx => ?_⟩
 rcases Nat.lt_or_ge i mv.length with hi | hi
 ·rw [List.getElem?_append_left hi] at hx
  obtain ⟨l',hl',ho⟩:=h2.2 i x hx
  exact ⟨l',by rw [List.getElem?_append_left (by rw [← h2.1];exact hi)];exact hl',ho.kept hg (own_ne ho h1 (by decide))⟩
 ·rw [List.getElem?_append_right hi] at hx
  have h0:i - mv.length = 0:=by
   cases hd:i - mv.length with
   | zero => rfl
   | succ k => rw [hd] at hx;simp at hx
  rw [h0] at hx
  simp only [List.getElem?_cons_zero,Option.some.injEq] at hx
  subst hx
  refine ⟨l,?_,hu.kept hg (own_ne hu h1 (by decide))⟩
  rw [List.getElem?_append_right (by rw [← h2.1];exact hi),show i - ls.length = 0 by rw [← h2.1];exact h0]
  rfl
theorem set4_2 {W:World} {g:Nat} {t:TypeId} {a b c d z:Value} (h:W.heap[g]? = some (.cells #[a,b,c,d] t (0,0))):(W.setCell ⟨g,2,none⟩ z).heap[g]? = some (.cells #[a,b,z,d] t (0,0)):=by
 simp [World.setCell,Array.getElem?_modify,h]
theorem grid_next {base gx:Nat} {Wy w3 w4:World} {T:TypeId} {a b d v v4 u:Value} {mv:List Value} {ls:List (List Int)} {l:List Int} {o:Obj}
 (bx:Wy.heap[gx]? = some (.cells #[a,b,v,d] T (0,0))) (hov:Own eVal 25 1 Wy base v mv) (hrw:Rws Wy base mv ls) (hgb:gx < base) (hbz:base ≤ Wy.heap.size)
 (hb3:Below Wy.heap.size Wy w3) (hu:OwnI w3 Wy.heap.size u l) (hov4:Own eVal 25 1 w4 base v4 (mv ++ [u])) (hgr:(w3.alloc o).grownBy w4 v.ownBlock) :
 (w4.setCell ⟨gx,2,none⟩ v4).heap[gx]? = some (.cells #[a,b,v4,d] T (0,0))∧Own eVal 25 1 (w4.setCell ⟨gx,2,none⟩ v4) base v4 (mv ++ [u]) ∧
   Rws (w4.setCell ⟨gx,2,none⟩ v4) base (mv ++ [u]) (ls ++ [l])∧Below gx Wy (w4.setCell ⟨gx,2,none⟩ v4):=by
 have hz3:=hb3.size
 have hov3:=(hov.below hb3 (Nat.le_refl _)).alloc o
 have hvl:=hov.lt
 have hne:v.ownBlock ≠ some gx:=fun h => by have:=hvl _ h;omega
 have h4:w4.heap[gx]? = some (.cells #[a,b,v,d] T (0,0)) :=
  (hgr.block gx (by simp;omega) (fun e => hne e.symm)).trans (hblk_alloc ((hb3.block gx (by omega)).trans bx) o)
 have hfar:∀ j,j ≠ gx→(w4.setCell ⟨gx,2,none⟩ v4).heap[j]? = w4.heap[j]?:=fun j hj => Below.heap_setCell w4 ⟨gx,2,none⟩ v4 j hj
 have keep:∀ {α:Type} {enc:α→List Value} {t:TypeId} {s:Nat} {x:Value} {l:List α},Own enc t s w4 base x l→Own enc t s (w4.setCell ⟨gx,2,none⟩ v4) base x l:=fun {α enc t s x l} h => by
  refine ⟨h.1,?_⟩
  rcases h.2 with h2 | ⟨g,cap,cur,hv,hg,hh,r⟩
  ·exact .inl h2
  ·exact .inr ⟨g,cap,cur,hv,hg,(hfar g (by omega)).trans hh,r⟩
 have hR:Rws (w3.alloc o) base mv ls:=⟨hrw.1,fun i x hx => by
  obtain ⟨l',hl',ho⟩:=hrw.2 i x hx
  exact ⟨l',hl',(ho.below hb3 (Nat.le_refl _)).alloc o⟩⟩
 obtain ⟨mv',m1,m2⟩:=OwnG.snoc hov3 hR ((hu.mono hbz).alloc o) hov4 hgr
 have hR4:Rws w4 base (mv ++ [u]) (ls ++ [l]):=by
  refine ⟨by simp [hrw.1],fun i x hx => ?_⟩
  rcases Nat.lt_or_ge i mv.length with hi | hi
  ·rw [List.getElem?_append_left hi] at hx
   obtain ⟨l',hl',ho⟩:=hR.2 i x hx
   exact ⟨l',by rw [List.getElem?_append_left (by rw [← hrw.1];exact hi)];exact hl',ho.kept hgr (own_ne ho hov3 (by decide))⟩
  ·have h0:i = mv.length:=by
    have:=(List.getElem?_eq_some_iff.1 hx).1
    simp at this;omega
   subst h0
   simp at hx
   subst hx
   exact ⟨l,by rw [hrw.1];simp,((hu.mono hbz).alloc o).kept hgr (own_ne ((hu.mono hbz).alloc o) hov3 (by decide))⟩
 refine ⟨set4_2 h4,keep hov4,⟨hR4.1,fun i x hx => ?_⟩,?_⟩
 ·obtain ⟨l',hl',ho⟩:=hR4.2 i x hx
  exact ⟨l',hl',keep ho⟩
 ·have hbb:Below gx Wy w4:=((hb3.mono (by omega)).trans ((bal0 w3 o).mono (by omega))).trans ((Below.refl _ _).grown hgr (by simp;omega) (fun k hk => by have:=hvl _ hk;omega))
  exact hbb.setCell (Nat.le_refl gx:gx ≤ (⟨gx,2,none⟩:Addr).block) _
def Grid (w:World) (A:Option Addr) (n:Nat) (ls:List (List Int)):Prop :=
 ∃ mv,Sl eVal 1 w A n mv∧mv.length = ls.length∧∀ (i:Nat) v,mv[i]? = some v→∃ B l c,ls[i]? = some l∧v = .slice B l.length c∧Ints w B l.length l∧l.length ≤ c∧c ≤ maxLen
theorem OwnG.form {w:World} {base:Nat} {v:Value} {ls:List (List Int)} (h:OwnG w base v ls):∃ A c,v = .slice A ls.length c∧Grid w A ls.length ls∧ls.length ≤ c∧c ≤ maxLen:=by
 obtain ⟨mv,h1,h2,h3⟩:=h
 obtain ⟨A,c,hv,hs,hc,hm⟩:=h1.form lenVal
 rw [h2] at hv hs hc
 refine ⟨A,c,hv,⟨mv,hs,h2,fun i v hv => ?_⟩,hc,hm⟩
 obtain ⟨l,hl,ho⟩:=h3 i v hv
 obtain ⟨B,c',hv',hs',hc',hm'⟩:=ho.form lenInt
 exact ⟨B,l,c',hl,hv',hs',hc',hm'⟩
theorem Grid.below {w w':World} {B:Nat} {A:Option Addr} {n:Nat} {ls:List (List Int)} (h:Grid w A n ls) (hb:Below B w w') (hB:w.heap.size ≤ B):Grid w' A n ls:=by
 obtain ⟨mv,h1,h2,h3⟩:=h
 exact ⟨mv,h1.below hb hB,h2,fun i v hv => by
  obtain ⟨C,l,c,a1,a2,a3,a4,a5⟩:=h3 i v hv
  exact ⟨C,l,c,a1,a2,a3.below hb hB,a4,a5⟩⟩
theorem Grid.get {w:World} {A:Option Addr} {n:Nat} {ls:List (List Int)} (h:Grid w A n ls) {k:Nat} (hk:k < n) :
 ∃ b off B l c,A = some ⟨b,off,none⟩∧b < w.heap.size∧ls[k]? = some l∧w.cell? ⟨b,off + k,none⟩ = some (.slice B l.length c)∧Ints w B l.length l∧l.length ≤ c∧c ≤ maxLen:=by
 obtain ⟨mv,h1,h2,h3⟩:=h
 obtain ⟨b,off,x,hA,hb,hx,hc⟩:=Vals.get h1 hk
 obtain ⟨B,l,c,a1,a2,a3,a4,a5⟩:=h3 k x hx
 subst a2
 exact ⟨b,off,B,l,c,hA,hb,a1,hc,a3,a4,a5⟩
theorem step_app {α:Type} {enc:α→List Value} {P:Program} {t e:TypeId} {sz bytes:Nat} (E:ElemOk P t e sz bytes) {ops:Array Oper} {o:Oper} {a:Act} {K:Act→World→Prop} {Q:Exit→Act→World→Prop} {F:Prop} {w:World}
 (hgd:o.guard = none) (s x:Operand) (ho:o.op = .call { callee:=.builtin .append,args:=#[s,x],argTypes:=#[t,t] })
 (base:Nat) (v:Value) (l:List α) (y:α) (cs:Array Value) (g:Nat) (hs:a.eval s = v) (hx:a.eval x = .slice (some ⟨g,0,none⟩) 1 1) (hg:w.heap[g]? = some (.cells cs e (0,0))) (hcs:cs.toList = enc y)
 (hlen:(enc y).length = sz) (h1:∀ u ∈ enc y,u.oneCell' = true)
 (hown:Own enc e sz w base v l) (hll:l.length < 4294967296) (hby:bytes ≤ 4096) (hbase:base ≤ w.heap.size)
 (h:∀ g' cap w',Own enc e sz w' base (.slice (some ⟨g',0,none⟩) (l.length + 1) cap) (l ++ [y])→w.grownBy w' v.ownBlock→Below base w w'→K (a.put o.dst (.slice (some ⟨g',0,none⟩) (l.length + 1) cap)) w') :
 if Region.wanted o (yielded ops a.tmps) = true then Oper.wp P o a w K Q else F:=by
 obtain ⟨i,z,hi,hz,hsize,hbytes,hzs⟩:=E.info
 refine step_append_lies w hgd s x t ho base e i z sz bytes E.sl hi hz hsize hbytes hzs E.pos v l.length (l.flatMap enc) hs hown ⟨g,0,none⟩ 1 1 (enc y) hx (by omega) ?_ h1 (by omega) (by unfold maxLen;omega) ?_ hbase w.heap.size rfl ?_
 ·rw [← hcs];exact World.news_of_block hg
 ·calc (l.length + 1) * bytes ≤ 4294967296 * 4096:=Nat.mul_le_mul (by omega) hby
   _ ≤ 140737488355328:=by omega
 ·intro g' cap w' hown' hgr _ _
  refine h g' cap w' ?_ hgr ((Below.refl _ _).grown hgr hbase (fun k hk => (Own.lt hown k hk).1))
  have e2:(l ++ [y]).flatMap enc = l.flatMap enc ++ enc y:=by simp
  unfold Own
  rw [e2,List.length_append]
  exact hown'
theorem wp_appx {α:Type} {enc:α→List Value} {P:Program} {t e:TypeId} {sz bytes:Nat} (E:ElemOk P t e sz bytes) {ops:Array Oper} {rest:List Oper} {o:Oper} {a:Act} {Q:Exit→Act→World→Prop} {w:World}
 (hgd:o.guard = none) (s x:Operand) (ho:o.op = .call { callee:=.builtin .append,args:=#[s,x],argTypes:=#[t,t] })
 (base:Nat) (v:Value) (l:List α) (y:α) (cs:Array Value) (hs:a.eval s = v) (hx:a.eval x = .slice (some ⟨w.heap.size,0,none⟩) 1 1) (hcs:cs.toList = enc y)
 (hlen:(enc y).length = sz) (h1:∀ u ∈ enc y,u.oneCell' = true)
 (hown:Own enc e sz w base v l) (hll:l.length < 4294967296) (hby:bytes ≤ 4096) (hbase:base ≤ w.heap.size)
 (h:∀ g' cap w',Own enc e sz w' base (.slice (some ⟨g',0,none⟩) (l.length + 1) cap) (l ++ [y])→w.grownBy w' v.ownBlock→Below base w w'→wpList P ops Q rest (a.put o.dst (.slice (some ⟨g',0,none⟩) (l.length + 1) cap)) w') :
 wpList P ops Q (o :: rest) a (w.alloc (.cells cs e)):=by
 obtain ⟨i,z,hi,hz,hsize,hbytes,hzs⟩:=E.info
 refine wpList_append_lies _ hgd s x t ho base e i z sz bytes E.sl hi hz hsize hbytes hzs E.pos v l.length (l.flatMap enc) hs (World.ownsRow.alloc hown _) ⟨w.heap.size,0,none⟩ 1 1 (enc y) hx (by omega) ?_ h1 (by omega) (by unfold maxLen;omega) ?_ (by simp;omega) (w.heap.size + 1) (by simp) ?_
 ·rw [← hcs];exact World.news_of_block (heap_alloc_new w _)
 ·calc (l.length + 1) * bytes ≤ 4294967296 * 4096:=Nat.mul_le_mul (by omega) hby
   _ ≤ 140737488355328:=by omega
 ·intro g' cap w' hown' hgr _ _
  have hg0:w.grownBy w' v.ownBlock:=⟨hgr.os,hgr.tape,hgr.output,Nat.le_trans (by simp) hgr.size,fun k hk hne => (hgr.block k (by simp;omega) hne).trans (Below.heap_alloc _ _ _ hk)⟩
  refine h g' cap w' ?_ hg0 ((Below.refl _ _).grown hg0 hbase (fun k hk => (Own.lt hown k hk).1))
  have e2:(l ++ [y]).flatMap enc = l.flatMap enc ++ enc y:=by simp
  unfold Own
  rw [e2,List.length_append]
  exact hown'
end Go.Proofs.YtmennjmjakdkcaaGreat
