/- HerdChecks 8: HdC, HdO, HdP. -/
import Derived.Test.YtmennjmjakdkcaaGreatCk01
import Derived.Test.YtmennjmjakdkcaaGreatCk07
import Derived.Test.YtmennjmjakdkcaaGreatCk06
import Derived.BigQuiet
set_option linter.unusedVariables false
set_option linter.unusedSimpArgs false
namespace Go.Proofs.YtmennjmjakdkcaaGreat
open Go.RowKit Go.MapKept
theorem j2d (n lo hi:Int) (w:World) :
 Calls Tryz.prog 102 #[.int .i64 n,.int .i64 lo,.int .i64 hi] w fun e w' => e = .returned (.bool (btw n lo hi))∧w = w':=by
 by_cases h1:lo ≤ n <;> by_cases h2:n ≤ hi
 all_goals
  go_enter Tryz.func102,Tryz.ntmps102
  go_wp2
  go_ret
  exact ⟨by simp [btw,h1,h2],rfl⟩
theorem j5b (n lo hi:Int) (w:World) :
 Calls Tryz.prog 159 #[.int .i64 n,.int .i64 lo,.int .i64 hi] w fun e w' => e = .returned (.bool (btw n lo hi))∧w = w':=by
 by_cases h1:lo ≤ n <;> by_cases h2:n ≤ hi
 all_goals
  go_enter Tryz.func159,Tryz.ntmps159
  go_wp2
  go_ret
  exact ⟨by simp [btw,h1,h2],rfl⟩
theorem k6a (N E:Int) (w:World) (hN:0 ≤ N∧N ≤ 300) (hE:0 ≤ E∧E ≤ 20) :
 Calls Tryz.prog 155 #[.agg #[.int .i64 0,.int .i64 1,.int .i64 N,.int .i64 E],.int .i64 5] w fun e w' => e = .returned (.int .i64 0)∧Below w.heap.size w w':=by
 have e1:btw N 0 300 = true:=j0n.2 hN
 have e2:btw E 0 20 = true:=j0n.2 hE
 have c0:=fun w => j5b 0 0 4 w
 have c1:=fun w => j5b 1 1 9 w
 have c2:=fun w => j5b N 0 300 w
 have c3:=fun w => j5b E 0 20 w
 rw [show btw 0 0 4 = true from rfl] at c0
 rw [show btw 1 1 9 = true from rfl] at c1
 rw [e1] at c2
 rw [e2] at c3
 clear e1 e2
 go_enter Tryz.func155,Tryz.ntmps155
 go_wp2_with (go_at_call 159;(first | (with_reducible refine (c0 _).mono ?_) | (with_reducible refine (c1 _).mono ?_) | (with_reducible refine (c2 _).mono ?_) | (with_reducible refine (c3 _).mono ?_));rintro e w' ⟨rfl,rfl⟩)
 go_ret
 exact ⟨rfl,bal0 w _⟩
def loC (N E:Int):Int:=(100 * N + 99 + E).tdiv (100 + E)
def hiC (N E:Int):Int:=(100 * N).tdiv (100 - E)
set_option maxRecDepth 100000 in
theorem q0d (N E:Int) (w:World) (hN:0 ≤ N∧N ≤ 300) (hE:0 ≤ E∧E ≤ 20) :
 Calls Tryz.prog 156 #[.agg #[.int .i64 0,.int .i64 1,.int .i64 N,.int .i64 E]] w fun e w' => e = .returned (.agg #[.int .i64 (loC N E),.int .i64 (hiC N E)])∧Below w.heap.size w w':=by
 obtain ⟨hN0,hN1⟩:=hN
 obtain ⟨hE0,hE1⟩:=hE
 have q1:wrap64 (100 * N) = 100 * N:=IntWalk.wrap64_in _ (by omega)
 have q2:wrap64 (100 * N + 99) = 100 * N + 99:=IntWalk.wrap64_in _ (by omega)
 have q3:wrap64 (100 * N + 99 + E) = 100 * N + 99 + E:=IntWalk.wrap64_in _ (by omega)
 have q4:wrap64 (100 + E) = 100 + E:=IntWalk.wrap64_in _ (by omega)
 have q5:wrap64 (100 - E) = 100 - E:=IntWalk.wrap64_in _ (by omega)
 have z1:((100 + E:Int) == 0) = false:=beq_eq_false_iff_ne.2 (by omega)
 have z2:((100 - E:Int) == 0) = false:=beq_eq_false_iff_ne.2 (by omega)
 have l1:0 ≤ loC N E∧loC N E ≤ 100 * N + 99 + E:=⟨Int.tdiv_nonneg (by omega) (by omega),Int.tdiv_le_self _ (by omega)⟩
 have l2:0 ≤ hiC N E∧hiC N E ≤ 100 * N:=⟨Int.tdiv_nonneg (by omega) (by omega),Int.tdiv_le_self _ (by omega)⟩
 have d1:(100 * N + 99 + E).tdiv (100 + E) = loC N E:=rfl
 have d2:(100 * N).tdiv (100 - E) = hiC N E:=rfl
 have w1:wrap64 (loC N E) = loC N E:=IntWalk.wrap64_in _ (by omega)
 have w2:wrap64 (hiC N E) = hiC N E:=IntWalk.wrap64_in _ (by omega)
 generalize loC N E = LO at d1 l1 w1 ⊢
 generalize hiC N E = HI at d2 l2 w2 ⊢
 go_enter Tryz.func156,Tryz.ntmps156
 go_upto_region 1 with (fail)
 go_region
 go_wp2
 refine bodyPost_ret (v:=.agg #[.int .i64 LO,.int .i64 HI]) (by simp [results,Tryz.f156,go_sem]) rfl ?_
 exact ⟨rfl,j1j (bal (bal0 w _) (zL9 _) _)⟩
set_option maxRecDepth 100000 in
theorem q0o (N E:Int) (w:World) (hN:0 ≤ N∧N ≤ 300) (hE:0 ≤ E∧E ≤ 20) :
 Calls Tryz.prog 152 #[.agg #[.int .i64 0,.int .i64 1,.int .i64 N,.int .i64 E]] w fun e w' => e = .returned (.tuple #[.agg #[.int .i64 (loC N E),.int .i64 (hiC N E)],.int .i64 0])∧Below w.heap.size w w':=by
 have c1:=fun w => k6a N E w hN hE
 have c2:=fun w => q0d N E w hN hE
 generalize loC N E = LO at c2 ⊢
 generalize hiC N E = HI at c2 ⊢
 clear hN hE
 go_enter Tryz.func152,Tryz.ntmps152
 go_upto_region 1 with (fail)
 obtain ⟨W,hW⟩:∃ W,W = (w.alloc (Obj.cells #[Value.int .i64 0,.int .i64 1,.int .i64 N,.int .i64 E] 194)).alloc (Obj.cells #[.int .i64 0,.int .i64 0] 72):=⟨_,rfl⟩
 have b0:W.heap[w.heap.size]? = some (Obj.cells #[Value.int .i64 0,.int .i64 1,.int .i64 N,.int .i64 E] 194 (0,0)):=by rw [hW];exact j0b (j0c rfl) _
 have b1:W.heap[w.heap.size + 1]? = some (Obj.cells #[Value.int .i64 0,.int .i64 0] 72 (0,0)):=by rw [hW];exact j0c (by simp)
 have hB:Below w.heap.size w W:=by rw [hW];exact bal (bal0 w _) (zL9 _) _
 rw [← hW]
 clear hW
 obtain ⟨r,hr⟩:∃ r,r = w.heap.size:=⟨_,rfl⟩
 have HR:=zQ9 hr
 rw [← hr] at b0 b1 hB ⊢
 clear hr
 obtain ⟨p0,p1,p2,p3⟩:=blk4 b0
 go_upto_region 2 with (go_at_call 155;refine (c1 _).mono ?_;rintro e w1 ⟨rfl,hb1⟩)
 replace b0:=j0f b0 hb1 (zL9 _)
 replace b1:=j0f b1 hb1 (zL9 _)
 replace hB:=hB.trans (hb1.mono (by have:=j0a b1;have:=hB.size;have:=hb1.size;exact Nat.le_trans (Nat.le_of_eq HR.out) hB.size))
 clear p0 p1 p2 p3 hb1
 obtain ⟨p0,p1,p2,p3⟩:=blk4 b0
 go_wp2_with (go_at_call 156;refine (c2 _).mono ?_;rintro e w2 ⟨rfl,hb2⟩;have b12:=j0f b1 hb2 (zL9 _);obtain ⟨q0,q1⟩:=blk2 b12;have f0:=frz b12 0;have f1:=frz b12 1;have HB2:=zQ9 (hB.trans (hb2.mono (Nat.le_trans (Nat.le_of_eq HR.out) hB.size))))
 have hz:((w2.setCell ⟨r + 1,0,none⟩ (.int .i64 LO)).setCell ⟨r + 1,1,none⟩ (.int .i64 HI)).heap[r + 1]? = some (Obj.cells #[Value.int .i64 LO,.int .i64 HI] 72 (0,0)):=j0d (j0d b12)
 have hbz:Below r w ((w2.setCell ⟨r + 1,0,none⟩ (.int .i64 LO)).setCell ⟨r + 1,1,none⟩ (.int .i64 HI)):=Below.setCell (Below.setCell HB2.out (p:=⟨r + 1,0,none⟩) (by dsimp;omega) _) (p:=⟨r + 1,1,none⟩) (by dsimp;omega) _
 have HBZ:=zQ9 hbz
 generalize (w2.setCell ⟨r + 1,0,none⟩ (.int .i64 LO)).setCell ⟨r + 1,1,none⟩ (.int .i64 HI) = Z at hz HBZ ⊢
 clear hbz q0 q1 f0 f1
 obtain ⟨q0,q1⟩:=blk2 hz
 exact bodyPost_ret (v:=.tuple #[.agg #[.int .i64 LO,.int .i64 HI],.int .i64 0]) (by simp [results,Tryz.f152,go_sem,q0,q1]) rfl ⟨rfl,by rw [← HR.out];exact HBZ.out⟩
set_option maxRecDepth 100000 in
theorem q0e (x0 x1 x2 x3 x4:Int) (w:World) :
 (Instr.index 131 (.agg #[.int .i64 x0,.int .i64 x1,.int .i64 x2,.int .i64 x3,.int .i64 x4]) (.int .i64 0)).run Tryz.prog w = .ok (.int .i64 x0) w ∧
 (Instr.index 131 (.agg #[.int .i64 x0,.int .i64 x1,.int .i64 x2,.int .i64 x3,.int .i64 x4]) (.int .i64 1)).run Tryz.prog w = .ok (.int .i64 x1) w ∧
 (Instr.index 131 (.agg #[.int .i64 x0,.int .i64 x1,.int .i64 x2,.int .i64 x3,.int .i64 x4]) (.int .i64 2)).run Tryz.prog w = .ok (.int .i64 x2) w ∧
 (Instr.index 131 (.agg #[.int .i64 x0,.int .i64 x1,.int .i64 x2,.int .i64 x3,.int .i64 x4]) (.int .i64 3)).run Tryz.prog w = .ok (.int .i64 x3) w ∧
 (Instr.index 131 (.agg #[.int .i64 x0,.int .i64 x1,.int .i64 x2,.int .i64 x3,.int .i64 x4]) (.int .i64 4)).run Tryz.prog w = .ok (.int .i64 x4) w:=⟨by kernel_rfl,by kernel_rfl,by kernel_rfl,by kernel_rfl,by kernel_rfl⟩
def j2y (r:List Int):Nat→Int
 | 0 => 0
 | k + 1 => j2y r k + r.getD k 0
theorem k2d {r:List Int} (h:∀ x ∈ r,0 ≤ x∧x ≤ 1000):∀ k,0 ≤ j2y r k∧j2y r k ≤ 1000 * k
 | 0 => by simp [j2y]
 | k + 1 => by
   have ih:=k2d h k
   unfold j2y
   have:0 ≤ r.getD k 0∧r.getD k 0 ≤ 1000:=by
    rw [List.getD_eq_getElem?_getD]
    cases e:r[k]? with
    | none => simp
    | some x => exact h x (List.mem_of_getElem? e)
   push_cast
   omega
set_option maxRecDepth 100000 in
set_option maxHeartbeats 2000000 in
theorem k8m (h:List Int) (f:Nat) (w:World) (hh:HBd 1000 h) (hf:f < 3) :
 Calls Tryz.prog 83 #[.agg (hcs h),.int .i64 f] w fun e w' => e = .returned (.int .i64 (hall h f))∧Below w.heap.size w w':=by
 have hl:=hh.1
 obtain ⟨x0,h0⟩:∃ x,x = hget h f 0:=⟨_,rfl⟩
 obtain ⟨x1,h1⟩:∃ x,x = hget h f 1:=⟨_,rfl⟩
 obtain ⟨x2,h2⟩:∃ x,x = hget h f 2:=⟨_,rfl⟩
 obtain ⟨x3,h3⟩:∃ x,x = hget h f 3:=⟨_,rfl⟩
 obtain ⟨x4,h4⟩:∃ x,x = hget h f 4:=⟨_,rfl⟩
 obtain ⟨R,hR⟩:∃ R,R = [x0,x1,x2,x3,x4]:=⟨_,rfl⟩
 have hbd:∀ x ∈ R,0 ≤ x∧x ≤ 1000:=by
  rw [hR,h0,h1,h2,h3,h4]
  intro x hx
  simp only [List.mem_cons,List.not_mem_nil,or_false] at hx
  rcases hx with rfl | rfl | rfl | rfl | rfl
  ·exact hh.get hf (by decide)
  ·exact hh.get hf (by decide)
  ·exact hh.get hf (by decide)
  ·exact hh.get hf (by decide)
  ·exact hh.get hf (by decide)
 have hs5:j2y R 5 = hall h f:=by rw [hR];unfold hall;rw [← h0,← h1,← h2,← h3,← h4];simp [j2y]
 have HS:=zQ9 (zA9 hbd (zA9 hs5 hR))
 have hb:(w.alloc (Obj.cells (hcs h) 133)).heap[w.heap.size]? = some (hObj h):=j0c rfl
 have hB:Below w.heap.size w (w.alloc (Obj.cells (hcs h) 133)):=bal0 w _
 have c0:(w.alloc (Obj.cells (hcs h) 133)).cell? ⟨w.heap.size,f * 5,none⟩ = some (.int .i64 x0):=by rw [h0,Nat.mul_comm f 5];exact blkH hb (by omega)
 have c1:(w.alloc (Obj.cells (hcs h) 133)).cell? ⟨w.heap.size,f * 5 + 1,none⟩ = some (.int .i64 x1):=by rw [h1,Nat.mul_comm f 5];exact blkH hb (by omega)
 have c2:(w.alloc (Obj.cells (hcs h) 133)).cell? ⟨w.heap.size,f * 5 + 2,none⟩ = some (.int .i64 x2):=by rw [h2,Nat.mul_comm f 5];exact blkH hb (by omega)
 have c3:(w.alloc (Obj.cells (hcs h) 133)).cell? ⟨w.heap.size,f * 5 + 3,none⟩ = some (.int .i64 x3):=by rw [h3,Nat.mul_comm f 5];exact blkH hb (by omega)
 have c4:(w.alloc (Obj.cells (hcs h) 133)).cell? ⟨w.heap.size,f * 5 + 4,none⟩ = some (.int .i64 x4):=by rw [h4,Nat.mul_comm f 5];exact blkH hb (by omega)
 have HB:=zQ9 hB
 have i0:(0:Int) ≤ (f:Int):=by omega
 have i1:(f:Int) < 3:=by omega
 clear h0 h1 h2 h3 h4 hR hbd hs5 hB hb hl hh
 go_enter Tryz.func83,Tryz.ntmps83
 go_upto_region 1 with (fail)
 obtain ⟨W,hW⟩:∃ W,W = w.alloc (Obj.cells (hcs h) 133):=⟨_,rfl⟩
 rw [← hW] at c0 c1 c2 c3 c4 HB ⊢
 clear hW
 go_wp2_with fail
 go_loopg [5,11] 5 (fun g sv iv wr => ∃ k:Nat,k + g = 5∧iv = .int .i64 k∧sv = .int .i64 (j2y R k)∧wr = W)
 case atStart => exact ⟨0,rfl,rfl,rfl,rfl⟩
 case round =>
  obtain ⟨k,hk,rfl,rfl,rfl⟩:=hrel
  have HK:=zQ9 hk
  by_cases hlt:k < 5
  ·have hsb:=k2d HS.out.1 k
   have hnx:j2y R (k + 1) = j2y R k + R.getD k 0:=rfl
   have hrb:0 ≤ R.getD k 0∧R.getD k 0 ≤ 1000:=by
    rw [HS.out.2.2]
    have hb5:=HS.out.1
    rw [HS.out.2.2] at hb5
    rw [List.getD_eq_getElem?_getD,List.getElem?_eq_getElem (by simpa using hlt)]
    exact hb5 _ (List.getElem_mem _)
   have hgd:R.getD k 0 = [x0,x1,x2,x3,x4].getD k 0:=by rw [HS.out.2.2]
   rw [hgd] at hnx hrb
   obtain ⟨S,hS⟩:∃ S,S = j2y R k:=⟨_,rfl⟩
   rw [← hS] at hsb hnx ⊢
   have HN:=zQ9 hnx
   clear hS hgd hnx hk
   obtain rfl | rfl | rfl | rfl | rfl:k = 0 ∨ k = 1 ∨ k = 2 ∨ k = 3 ∨ k = 4:=by omega
   all_goals
    simp only [List.getD_cons_zero,List.getD_cons_succ] at hrb
    have hix:=q0e x0 x1 x2 x3 x4 wr
    obtain ⟨e0,e1,e2,e3,e4⟩:=hix
    go_wp2
    go_roundg (gk - 1)
    case measure => have:=HK.out;omega
    case rel => first | exact ⟨1,by have:=HK.out;omega,by go_num,by rw [HN.out];rfl,rfl⟩ | exact ⟨2,by have:=HK.out;omega,by go_num,by rw [HN.out];rfl,rfl⟩ | exact ⟨3,by have:=HK.out;omega,by go_num,by rw [HN.out];rfl,rfl⟩ | exact ⟨4,by have:=HK.out;omega,by go_num,by rw [HN.out];rfl,rfl⟩ | exact ⟨5,by have:=HK.out;omega,by go_num,by rw [HN.out];rfl,rfl⟩
  ·obtain rfl:k = 5:=by omega
   clear hk
   go_wp2
   go_ret
   exact ⟨j0k HS.out.2.1,HB.out⟩
set_option maxRecDepth 100000 in
set_option maxHeartbeats 2000000 in
theorem k7v (p:Value) (h:List Int) (d:De) (n nf:Nat) (B M:Nat) (K:List (List Int)) (w:World) (hA:Ask n nf B M K h d w) (hk:d.kind = 6) :
 Calls Tryz.prog 138 #[p,.agg (hcs h),dv d,.func (.func 117) #[] #[.pointer (some ⟨B,0,none⟩)]] w fun e w' => e = .returned (.tuple #[])∧PutsH w w' M (if j6f d h = true then [h] else []):=by
 obtain ⟨hb,hm,hh,hd,hnf⟩:=hA
 have hM:=hm.lt
 have hl:=hh.1
 obtain ⟨kind,flock,owner,other,tof,many,err,s⟩:=d
 obtain ⟨f,rfl⟩:=Int.eq_ofNat_of_zero_le hd.f.1
 have hf:f < 3:=by have:=hd.f.2;dsimp at this;omega
 have hmy:0 ≤ many∧many ≤ 300:=hd.m
 have hey:0 ≤ err∧err ≤ 20:=hd.e
 obtain ⟨b,hbb⟩:∃ b,b = btw (hall h f) (loC many err) (hiC many err):=⟨_,rfl⟩
 have hcb:j6f ⟨kind,f,owner,other,tof,many,err,s⟩ h = b:=by rw [hbb];rfl
 rw [hcb]
 have c1:=fun w => q0o many err w hmy hey
 have c2:=fun w => k8m h f w hh hf
 have c3:=fun w => j2d (hall h f) (loC many err) (hiC many err) w
 rw [← hbb] at c3
 have hxo:HOk h:=HOk.of hh (by omega)
 obtain ⟨LO,hLO⟩:∃ x,x = loC many err:=⟨_,rfl⟩
 obtain ⟨HI,hHI⟩:∃ x,x = hiC many err:=⟨_,rfl⟩
 obtain ⟨AL,hAL⟩:∃ x,x = hall h f:=⟨_,rfl⟩
 rw [← hLO,← hHI] at c1 c3
 rw [← hAL] at c2 c3
 have HX:=zQ9 (zA9 hb hm)
 clear hd hk hh hb hm hbb hcb hLO hHI hAL hmy hey
 unfold dv
 go_enter Tryz.func138,Tryz.ntmps138
 go_upto_region 1 with (fail)
 obtain ⟨W,hW⟩:∃ W,W = (w.alloc (Obj.cells (hcs h) 133)).alloc (dObj ⟨kind,f,owner,other,tof,many,err,s⟩):=⟨_,rfl⟩
 have b0:W.heap[w.heap.size]? = some (hObj h):=by rw [hW];exact j0b (j0c rfl) _
 have b1:W.heap[w.heap.size + 1]? = some (dObj ⟨kind,f,owner,other,tof,many,err,s⟩):=by rw [hW];exact j0c (by simp)
 have hP:PutsH w W M []:=by rw [hW];exact (PutsH.refl w M).below hM (bal (bal0 w _) (zL9 _) _) (zL9 _)
 rw [← hW]
 clear hW
 obtain ⟨r,hr⟩:∃ r,r = w.heap.size:=⟨_,rfl⟩
 have HR:=zQ9 (show w.heap.size ≤ r by omega)
 rw [← hr] at b0 b1 ⊢
 clear hr
 obtain ⟨d0,d1,d2,d3,d4,d5,d6,d7⟩:=blkD b1
 go_upto_region 2 with (go_at_call 152;refine (c1 _).mono ?_;rintro e w1 ⟨rfl,hb1⟩)
 obtain ⟨W2,hW⟩:∃ W2,W2 = w1.alloc (Obj.cells #[Value.int .i64 LO,.int .i64 HI] 72):=⟨_,rfl⟩
 have e0:W2.heap[r]? = some (hObj h):=by rw [hW];exact j0b (j0f b0 hb1 (zL9 _)) _
 have e1:W2.heap[r + 1]? = some (dObj ⟨kind,f,owner,other,tof,many,err,s⟩):=by rw [hW];exact j0b (j0f b1 hb1 (zL9 _)) _
 have e2:W2.heap[w1.heap.size]? = some (Obj.cells #[Value.int .i64 LO,.int .i64 HI] 72 (0,0)):=by rw [hW];exact j0c rfl
 have hP2:PutsH w W2 M []:=by rw [hW];exact (hP.below hM hb1 hP.size).below hM (bal0 w1 _) (hP.below hM hb1 hP.size).size
 rw [← hW]
 clear hW hb1 b0 b1 d0 d1 d2 d3 d4 d5 d6 d7 hP
 obtain ⟨g,hg⟩:∃ g,g = w1.heap.size:=⟨_,rfl⟩
 rw [← hg] at e2 ⊢
 clear hg
 obtain ⟨-,d1,-⟩:=blkD e1
 obtain ⟨q0,q1⟩:=blk2 e2
 obtain ⟨a0,a1,a2,a3,a4,a5,a6,a7,a8,a9,a10,a11,a12,a13,a14,hc15,hcell⟩:=j6y hl
 obtain ⟨y0,y1,y2,y3,y4,y5,y6,y7,y8,y9,y10,y11,y12,y13,y14⟩:=hcell _ _ e0
 have z0:=cell_regrown y0
 have z1:=cell_regrown y1
 have z2:=cell_regrown y2
 have z3:=cell_regrown y3
 have z4:=cell_regrown y4
 have z5:=cell_regrown y5
 have z6:=cell_regrown y6
 have z7:=cell_regrown y7
 have z8:=cell_regrown y8
 have z9:=cell_regrown y9
 have z10:=cell_regrown y10
 have z11:=cell_regrown y11
 have z12:=cell_regrown y12
 have z13:=cell_regrown y13
 have z14:=cell_regrown y14
 have v1:=cell_regrown d1
 have v2:=cell_regrown q0
 have v3:=cell_regrown q1
 have cA:∀ dd os,Calls Tryz.prog 83 #[.agg (hcs h),.int .i64 f] (Sort.grow (redrawn W2 dd) os) (fun e w'' => e = .returned (.int .i64 AL)∧∃ p:Regrown,w'' = Sort.grow (redrawn W2 p.d) p.os):=fun dd os => Calls.regrown_of (c2 _)
 have cB:∀ dd os,Calls Tryz.prog 102 #[.int .i64 AL,.int .i64 LO,.int .i64 HI] (Sort.grow (redrawn W2 dd) os) (fun e w'' => e = .returned (.bool b)∧∃ p:Regrown,w'' = Sort.grow (redrawn W2 p.d) p.os):=fun dd os => k6z (c3 _)
 have HCC:=zQ9 (zA9 cA cB)
 clear cA cB c1 c2 c3
 refine wp_region_quiet_below (by kernel_rfl) (by kernel_rfl) ?_
 repeat (quiet_step (with_reducible first | exact HCC.out.1 _ _ | exact HCC.out.2 _ _))
 refine wpQuiet_nil ?_
 intro _ hw'
 obtain ⟨⟨dq,osq⟩,hw''⟩:=hw'
 subst hw''
 obtain ⟨W9,hW9⟩:∃ W9,W9 = Sort.grow (redrawn W2 dq) osq:=⟨_,rfl⟩
 have hB9:Below W2.heap.size W2 W9:=by rw [hW9];exact below_regrown W2 dq osq
 have hP9:=hP2.below hM hB9 hP2.size
 have e9:=j0f e0 hB9 (zL9 _)
 rw [← hW9]
 clear hW9 hB9 y0 y1 y2 y3 y4 y5 y6 y7 y8 y9 y10 y11 y12 y13 y14 z0 z1 z2 z3 z4 z5 z6 z7 z8 z9 z10 z11 z12 z13 z14 v1 v2 v3 hcell hc15
 cases b with
 | false =>
   go_wp2_with fail
   go_end0
   exact ⟨rfl,hP9⟩
 | true =>
   go_wp2_with (first
    | ((with_reducible apply j0t e9 hl);(rfl);(rfl);(rfl))
    | (go_at_call 117;refine (j6g hP9 HX.out.1 HX.out.2 hxo).mono ?_;rintro e w5 ⟨rfl,hP5⟩))
   go_end0
   exact ⟨rfl,hP5⟩
abbrev bkObj (t:Int) (A:Option Addr) (n c:Nat) (ks hs ds:Value) (deed owner now:Int):Obj:=.cells #[.int .i64 t,.slice A n c,ks,hs,ds,.int .i64 deed,.int .i64 owner,.int .i64 now] 154 (0,0)
structure Book (w:World) (p:Nat) (t:Int) (A:Option Addr) (n c:Nat) (l:List Mk) (ks hs ds:Value) (deed owner now:Int):Prop where
 hp:w.heap[p]? = some (bkObj t A n c ks hs ds deed owner now)
 hl:Marks w A n l
 nc:n ≤ c
 cm:c ≤ maxLen
 ck:check t l = 0
theorem blkB {w:World} {p:Nat} {t:Int} {A:Option Addr} {n c:Nat} {ks hs ds:Value} {deed owner now:Int} (h:w.heap[p]? = some (bkObj t A n c ks hs ds deed owner now)) :
 w.cell? ⟨p,0,none⟩ = some (.int .i64 t)∧w.cell? ⟨p,1,none⟩ = some (.slice A n c)∧w.cell? ⟨p,2,none⟩ = some ks∧w.cell? ⟨p,3,none⟩ = some hs∧w.cell? ⟨p,4,none⟩ = some ds ∧
 w.cell? ⟨p,5,none⟩ = some (.int .i64 deed)∧w.cell? ⟨p,6,none⟩ = some (.int .i64 owner)∧w.cell? ⟨p,7,none⟩ = some (.int .i64 now):=by simp [World.cell?,h]
theorem Book.puts {w w':World} {p:Nat} {t:Int} {A:Option Addr} {n c:Nat} {l:List Mk} {ks hs ds:Value} {deed owner now:Int} {M:Nat} {L K:List (List Int)} (h:Book w p t A n c l ks hs ds deed owner now) (hP:PutsH w w' M L) (hm:MetH w M K):Book w' p t A n c l ks hs ds deed owner now :=
 ⟨hP.blk h.hp (hm.ne h.hp),hP.sl hm h.hl,h.nc,h.cm,h.ck⟩
theorem k4d {W w1:World} {n:Nat} (h:Below (W.drewN n).heap.size (W.drewN n) w1):Below W.heap.size W w1:=⟨h.os,h.tape,h.output,h.size,h.block⟩
def j2b (deed owner now o:Int):Bool:=!(decide (now = deed) && decide (o ≠ owner))
def j5x (f g:Nat) (h:List Int) (pass:Int→Bool) (os:List Int) (k:Nat):List (List Int):=j3v f g h ((os.take k).filter pass)
theorem k7j {f g:Nat} {h:List Int} {pass:Int→Bool} {os:List Int} {k:Nat} {o:Int} (ho:os[k]? = some o) :
 j5x f g h pass os (k + 1) = j5x f g h pass os k ++ (if pass o = true then (match mvd h f o.toNat (-1) with | some x => [hadd x g o.toNat 1] | none => []) else []):=by
 unfold j5x j3v
 rw [List.take_add_one,ho,List.filter_append,List.flatMap_append]
 congr 1
 by_cases hp:pass o = true
 ·simp only [hp,List.filter_cons,List.filter_nil,Option.toList,if_true,List.flatMap_cons,List.flatMap_nil,List.append_nil]
  cases mvd h f o.toNat (-1) <;> rfl
 ·simp [hp]
theorem k5d {h x:List Int} {f g o:Nat} {b:Bool} (hx:x = hadd h f o (-1)) (hb:b = decide (0 ≤ hget h f o + -1)) :
 (match mvd h f (o:Int).toNat (-1) with | some x => [hadd x g (o:Int).toNat 1] | none => []) = if b = true then [hadd x g o 1] else []:=by
 simp only [Int.toNat_natCast]
 unfold mvd
 rw [hb,hx]
 by_cases h0:0 ≤ hget h f o + -1 <;> simp [h0]
set_option maxRecDepth 100000 in
set_option maxHeartbeats 2000000 in
theorem k8f (p:Nat) (t:Int) (A:Option Addr) (n c:Nat) (l:List Mk) (ks hs ds:Value) (deed owner now:Int) (h:List Int) (d:De) (nf:Nat) (B M:Nat) (K:List (List Int)) (w:World) (hA:Ask l.length nf B M K h d w) (hB:Book w p t A n c l ks hs ds deed owner now) (hk:d.kind = 5) :
 Calls Tryz.prog 137 #[.pointer (some ⟨p,0,none⟩),.agg (hcs h),dv d,.func (.func 117) #[] #[.pointer (some ⟨B,0,none⟩)]] w fun e w' => e = .returned (.tuple #[])∧PutsH w w' M (j3v d.flock.toNat d.tof.toNat h ((mayL t l d.s).filter (j2b deed owner now))):=by
 obtain ⟨hb,hm,hh,hd,hnf⟩:=hA
 have hM:=hm.lt
 have hl:=hh.1
 have hl5:l.length ≤ 5:=(j2w hB.ck).2.2.1
 obtain ⟨kind,flock,ow,other,tof,many,err,s⟩:=d
 obtain ⟨f,rfl⟩:=Int.eq_ofNat_of_zero_le hd.f.1
 obtain ⟨g,rfl⟩:=Int.eq_ofNat_of_zero_le hd.t.1
 have hf:f < 3:=by have:=hd.f.2;dsimp at this;omega
 have hg:g < 3:=by have:=hd.t.2;dsimp at this;omega
 have hse:seen s 9 6 = 0:=hd.st hk
 have hmr:mayR t l s = mayL t l s:=by
  have:mayE t l s = 0:=by unfold mayE;rw [if_neg (by rw [hB.ck];simp),hse]
  unfold mayR;rw [if_pos this]
 simp only [Int.toNat_natCast]
 have hmv:∀ (o:Nat) (x:List Int) (b:Bool) (w:World),o < 5→x = hadd h f o (-1)→b = decide (0 ≤ hget h f o + -1)→Calls Tryz.prog 150 #[.agg (hcs h),.int .i64 f,.int .i64 o,.int .i64 (-1)] w fun e w' => e = .returned (.tuple #[.agg (hcs x),.bool b])∧Below w.heap.size w w' :=
  fun o x b w ho hx hb => j5r w hx hb hl hf ho (by have:=hh.get hf ho;omega) (by omega)
 have hmv2:∀ (o:Nat) (x y:List Int) (w:World),o < 5→HBd 1000 x→y = hadd x g o 1→Calls Tryz.prog 150 #[.agg (hcs x),.int .i64 g,.int .i64 o,.int .i64 1] w fun e w' => e = .returned (.tuple #[.agg (hcs y),.bool (decide (0 ≤ hget x g o + 1))])∧Below w.heap.size w w' :=
  fun o x y w ho hxb hy => j5r w hy rfl hxb.1 hg ho (by have:=hxb.get hg ho;omega) (by omega)
 have HMV:=zQ9 (zA9 hmv hmv2)
 have HX:=zQ9 (zA9 hb (zA9 hm (zA9 hB (zA9 hh (zA9 hmr hl5)))))
 clear hd hk hh hb hm hB hmr hmv hmv2 hse
 unfold dv
 go_enter Tryz.func137,Tryz.ntmps137
 go_upto_region 1 with (fail)
 obtain ⟨W,hW⟩:∃ W,W = (w.alloc (Obj.cells (hcs h) 133)).alloc (dObj ⟨kind,f,ow,other,g,many,err,s⟩):=⟨_,rfl⟩
 have b0:W.heap[w.heap.size]? = some (hObj h):=by rw [hW];exact j0b (j0c rfl) _
 have b1:W.heap[w.heap.size + 1]? = some (dObj ⟨kind,f,ow,other,g,many,err,s⟩):=by rw [hW];exact j0c (by simp)
 have hP:PutsH w W M []:=by rw [hW];exact (PutsH.refl w M).below hM (bal (bal0 w _) (zL9 _) _) (zL9 _)
 rw [← hW]
 clear hW
 obtain ⟨r,hr⟩:∃ r,r = w.heap.size:=⟨_,rfl⟩
 have HR:=zQ9 (show w.heap.size ≤ r by omega)
 rw [← hr] at b0 b1 ⊢
 clear hr
 have hBW:=HX.out.2.2.1.puts hP HX.out.2.1
 obtain ⟨d0,d1,d2,d3,d4,d5,d6,d7,d8,d9,d10,d11⟩:=blkD b1
 obtain ⟨p0,p1,p2,p3,p4,p5,p6,p7⟩:=blkB hBW.hp
 have HMW:=zQ9 (zA9 hBW.hl (zA9 hBW.nc hBW.cm))
 clear hBW
 refine j5m (C:=fun w' => ∃ n,w' = W.drewN n) 7 (by kernel_rfl) (by kernel_rfl) ⟨1,rfl⟩ ?_
 simp only [List.take_succ_cons,List.take_zero,List.drop_succ_cons,List.drop_zero]
 repeat (quiet_step (fail))
 refine wpQuiet_nil ?_
 intro _ hw'
 obtain ⟨nq,hw''⟩:=hw'
 subst hw''
 intro Q2 hQ2
 go_wp2_with fail
 refine (k3k t A n c l s (W.drewN nq) (HMW.out.1.drewN nq) HMW.out.2.1 HMW.out.2.2).mono ?_
 rintro e w1 ⟨v,rfl,hown,hb1⟩
 obtain ⟨A1,c1,rfl,hsl,hlc1,hcm1⟩:=hown.form j0s
 replace hb1:Below W.heap.size W w1:=k4d hb1
 rw [HX.out.2.2.2.2.1] at hsl hlc1 ⊢
 have hP1:=hP.below hM hb1 hP.size
 have e0:=j0f b0 hb1 (zL9 _)
 have e1:=j0f b1 hb1 (zL9 _)
 have HP1:=zQ9 (zA9 hP1 (zA9 e0 (zA9 e1 hsl)))
 clear hb1 hown d0 d1 d2 d3 d4 d5 d6 d7 d8 d9 d10 d11 p0 p1 p2 p3 p4 p5 p6 p7 hP hP1 e0 e1 hsl b0 b1
 obtain ⟨os,hos⟩:∃ os,os = mayL t l s:=⟨_,rfl⟩
 have hol:∀ o ∈ os,0 ≤ o∧o < 5:=fun o ho => by rw [hos] at ho;have:=k1x o ho;have:=HX.out.2.2.2.2.2;omega
 have HO:=zQ9 hol
 have HOS:=zQ9 hos
 rw [← hos] at HP1 hlc1 ⊢
 clear hos hol
 go_wp2
 repeat (quiet_step (fail))
 refine wpQuiet_nil ?_
 obtain ⟨K1,hm1,-⟩:=HP1.out.1.met K HX.out.2.1
 have hB1:=HX.out.2.2.1.puts HP1.out.1 HX.out.2.1
 have hbx:=HP1.out.1.blk HX.out.1 (HX.out.2.1.ne HX.out.1)
 have HM1:=zQ9 (zA9 hm1 (zA9 hB1 hbx))
 have hM1:=hm1.lt
 clear hm1 hB1 hbx
 go_wp2_with fail
 go_loopg [27] os.length (fun gk' iv wr => ∃ k:Nat,k + gk' = os.length∧iv = .int .i64 k∧PutsH w1 wr M (j5x f g h (j2b deed owner now) os k))
 case atStart => exact ⟨0,by omega,rfl,PutsH.refl _ _⟩
 case round =>
  obtain ⟨k,hk',rfl,hPr⟩:=hrel
  have HK:=zQ9 hk'
  by_cases hlt:k < os.length
  ·obtain ⟨bi,oi,x,hA1,hbi,hxk,hcx⟩:=Ints.get (hPr.sl HM1.out.1 HP1.out.2.2.2) hlt
   cases hA1
   have hxr:=HO.out x (List.mem_of_getElem? hxk)
   obtain ⟨o,rfl⟩:=Int.eq_ofNat_of_zero_le hxr.1
   have ho5:o < 5:=by omega
   have hst:=k7j (f:=f) (g:=g) (h:=h) (pass:=j2b deed owner now) hxk
   have hBr:=HM1.out.2.1.puts hPr HM1.out.1
   have f0:=hPr.blk HP1.out.2.1 (HM1.out.1.ne HP1.out.2.1)
   have f1:=hPr.blk HP1.out.2.2.1 (HM1.out.1.ne HP1.out.2.2.1)
   obtain ⟨d0,d1,d2,d3,d4,-⟩:=blkD f1
   obtain ⟨p0,p1,p2,p3,p4,p5,p6,p7⟩:=blkB hBr.hp
   have HST:=zQ9 (zA9 hst (zA9 hPr hBr.hp))
   have i0:(0:Int) ≤ (k:Int):=by omega
   have i1:(k:Int) < (os.length:Int):=by omega
   have i2:wrap64 ((k:Int) + 1) = (k:Int) + 1:=IntWalk.wrap64_in _ (by unfold maxLen at hcm1;omega)
   have hwr:=hPr.size
   have HKM:=zQ9 (zA9 (show gk - 1 < gk by omega) (zA9 (show k + 1 + (gk - 1) = os.length by omega) (show Value.int .i64 (wrap64 ((k:Int) + 1)) = Value.int .i64 ((k + 1:Nat):Int) by rw [i2];push_cast;rfl)))
   have HD:=zQ9 (show ∀ q,PutsH w1 (wr.drewN q) M (j5x f g h (j2b deed owner now) os k) from fun q => hPr.below hM1 (j0l (Below.refl wr.heap.size wr) q) hPr.size)
   clear i2 hst hPr hBr hxk hxr hk'
   by_cases h1:now = deed
   ·subst h1
    by_cases h2:(o:Int) = owner
    ·subst h2
     have HQ:=zQ9 (show j2b now (o:Int) now (o:Int) = true by unfold j2b;simp)
     go_wp2_with fail
     go_quiet (fail)
     obtain ⟨x,hx⟩:∃ x,x = hadd h f o (-1):=⟨_,rfl⟩
     obtain ⟨bb,hbb⟩:∃ b,b = decide (0 ≤ hget h f o + -1):=⟨_,rfl⟩
     have hmvx:=fun w => HMV.out.1 o x bb w ho5 hx hbb
     have hxo:HOk x:=by rw [hx];exact j4b HX.out.2.2.2.1 (by omega) hf ho5 (by omega)
     have hlx:=hxo.1
     have hxb:bb = true→HBd 1000 x:=fun e => by rw [hx];rw [hbb,decide_eq_true_eq] at e;have:=HX.out.2.2.2.1.get hf ho5;exact HX.out.2.2.2.1.add e (by omega) (Int.le_refl _)
     have HN:=zQ9 (HST.out.1.trans (by rw [HQ.out,if_pos rfl,k5d hx hbb]))
     have HXB:=zQ9 hxb
     have f0q:(wr.drewN nq).heap[r]? = some (hObj h):=f0
     have f1q:(wr.drewN nq).heap[r + 1]? = _:=f1
     have hPq:=HD.out nq
     clear hx hbb hxb
     go_upto_region 7 with (first
      | ((with_reducible apply j0t f0q hl);(rfl);(rfl);(rfl))
      | (go_at_call 150;refine (hmvx _).mono ?_;rintro e w2 ⟨rfl,hb2⟩;have hP2:=hPq.below hM1 hb2 hPq.size;have f12:=j0f f1q hb2 (zL9 _);have bz:(w2.alloc (.cells #[.int .i64 0,.int .i64 0,.int .i64 0,.int .i64 0,.int .i64 0,.int .i64 0,.int .i64 0,.int .i64 0,.int .i64 0,.int .i64 0,.int .i64 0,.int .i64 0,.int .i64 0,.int .i64 0,.int .i64 0] 133)).heap[w2.heap.size]? = _:=j0c rfl;clear hb2)
      | ((with_reducible apply j1v bz rfl hlx);(rfl);(rfl);(rfl);(rfl);intro w3 b03 g3 z3;have hP3:=(hP2.below hM1 (bal0 w2 _) hP2.size).grown hM1 g3 hP2.size;have f13:=gblk g3 (j0b f12 _) (Nat.ne_of_lt (j0a f12));have hrr:=hP2.size))
     obtain ⟨gg,hgg⟩:∃ gg,gg = w2.heap.size:=⟨_,rfl⟩
     rw [← hgg] at b03 hrr ⊢
     clear hgg g3 z3 hP2 hPq f12 bz f0q f1q d0 d1 d2 d3 d4 p0 p1 p2 p3 p4 p5 p6 p7 hcx f0 f1
     cases bb with
     | false =>
       go_wp2_with fail
       go_roundg (gk - 1)
       case measure => exact HKM.out.1
       case rel => exact ⟨k + 1,HKM.out.2.1,HKM.out.2.2,by rw [HN.out,if_neg Bool.false_ne_true,List.append_nil];exact hP3⟩
     | true =>
       have hxy:=HXB.out rfl
       obtain ⟨y,hy⟩:∃ y,y = hadd x g o 1:=⟨_,rfl⟩
       have hyo:HOk y:=by rw [hy];exact j4b hxy (by omega) hg ho5 (by omega)
       have hly:=hyo.1
       have hmvy:=fun w => HMV.out.2 o x y w ho5 hxy hy
       have HY:=zQ9 hy
       clear hy hxy
       obtain ⟨d0,d1,d2,d3,d4,-⟩:=blkD f13
       have h15:=j2h x
       go_upto_region 9 with (first
        | ((with_reducible apply j0t b03 hlx);(rfl);(rfl);(rfl))
        | (go_at_call 150;refine (hmvy _).mono ?_;rintro e w4 ⟨rfl,hb4⟩;have hP4:=hP3.below hM1 hb4 hP3.size;have b04:=j0f b03 hb4 (zL9 _);clear hb4)
        | ((with_reducible apply j1v b04 (h15.trans hlx) hly);(rfl);(rfl);(rfl);(rfl);intro w5 b05 g5 z5;have hP5:=hP4.grown hM1 g5 hrr))
       go_wp2_with (first
        | ((with_reducible apply j0t b05 hly);(rfl);(rfl);(rfl))
        | (go_at_call 117;refine (j6g hP5 HM1.out.2.2 HM1.out.1 hyo).mono ?_;rintro e w6 ⟨rfl,hP6⟩))
       go_roundg (gk - 1)
       case measure => exact HKM.out.1
       case rel => exact ⟨k + 1,HKM.out.2.1,HKM.out.2.2,by rw [HN.out,if_pos trivial,← HY.out];exact hP6⟩
    ·have HQ:=zQ9 (show j2b now owner now (o:Int) = false by unfold j2b;simp [h2])
     have hq2:((o:Int) != owner) = true:=bne_iff_ne.2 h2
     clear h2
     go_wp2_with fail
     go_quiet (fail)
     go_wp2_with fail
     go_roundg (gk - 1)
     case measure => exact HKM.out.1
     case rel => exact ⟨k + 1,HKM.out.2.1,HKM.out.2.2,by rw [HST.out.1,HQ.out,if_neg Bool.false_ne_true,List.append_nil];exact HD.out nq⟩
   ·have HQ:=zQ9 (show j2b deed owner now (o:Int) = true by unfold j2b;simp [h1])
    have hq1:(now == deed) = false:=beq_eq_false_iff_ne.2 h1
    go_wp2_with fail
    go_quiet (fail)
    obtain ⟨x,hx⟩:∃ x,x = hadd h f o (-1):=⟨_,rfl⟩
    obtain ⟨bb,hbb⟩:∃ b,b = decide (0 ≤ hget h f o + -1):=⟨_,rfl⟩
    have hmvx:=fun w => HMV.out.1 o x bb w ho5 hx hbb
    have hxo:HOk x:=by rw [hx];exact j4b HX.out.2.2.2.1 (by omega) hf ho5 (by omega)
    have hlx:=hxo.1
    have hxb:bb = true→HBd 1000 x:=fun e => by rw [hx];rw [hbb,decide_eq_true_eq] at e;have:=HX.out.2.2.2.1.get hf ho5;exact HX.out.2.2.2.1.add e (by omega) (Int.le_refl _)
    have HN:=zQ9 (HST.out.1.trans (by rw [HQ.out,if_pos rfl,k5d hx hbb]))
    have HXB:=zQ9 hxb
    have f0q:(wr.drewN nq).heap[r]? = some (hObj h):=f0
    have f1q:(wr.drewN nq).heap[r + 1]? = _:=f1
    have hPq:=HD.out nq
    clear hx hbb hxb
    go_upto_region 7 with (first
     | ((with_reducible apply j0t f0q hl);(rfl);(rfl);(rfl))
     | (go_at_call 150;refine (hmvx _).mono ?_;rintro e w2 ⟨rfl,hb2⟩;have hP2:=hPq.below hM1 hb2 hPq.size;have f12:=j0f f1q hb2 (zL9 _);have bz:(w2.alloc (.cells #[.int .i64 0,.int .i64 0,.int .i64 0,.int .i64 0,.int .i64 0,.int .i64 0,.int .i64 0,.int .i64 0,.int .i64 0,.int .i64 0,.int .i64 0,.int .i64 0,.int .i64 0,.int .i64 0,.int .i64 0] 133)).heap[w2.heap.size]? = _:=j0c rfl;clear hb2)
     | ((with_reducible apply j1v bz rfl hlx);(rfl);(rfl);(rfl);(rfl);intro w3 b03 g3 z3;have hP3:=(hP2.below hM1 (bal0 w2 _) hP2.size).grown hM1 g3 hP2.size;have f13:=gblk g3 (j0b f12 _) (Nat.ne_of_lt (j0a f12));have hrr:=hP2.size))
    obtain ⟨gg,hgg⟩:∃ gg,gg = w2.heap.size:=⟨_,rfl⟩
    rw [← hgg] at b03 hrr ⊢
    clear hgg g3 z3 hP2 hPq f12 bz f0q f1q d0 d1 d2 d3 d4 p0 p1 p2 p3 p4 p5 p6 p7 hcx f0 f1
    cases bb with
    | false =>
      go_wp2_with fail
      go_roundg (gk - 1)
      case measure => exact HKM.out.1
      case rel => exact ⟨k + 1,HKM.out.2.1,HKM.out.2.2,by rw [HN.out,if_neg Bool.false_ne_true,List.append_nil];exact hP3⟩
    | true =>
      have hxy:=HXB.out rfl
      obtain ⟨y,hy⟩:∃ y,y = hadd x g o 1:=⟨_,rfl⟩
      have hyo:HOk y:=by rw [hy];exact j4b hxy (by omega) hg ho5 (by omega)
      have hly:=hyo.1
      have hmvy:=fun w => HMV.out.2 o x y w ho5 hxy hy
      have HY:=zQ9 hy
      clear hy hxy
      obtain ⟨d0,d1,d2,d3,d4,-⟩:=blkD f13
      have h15:=j2h x
      go_upto_region 9 with (first
       | ((with_reducible apply j0t b03 hlx);(rfl);(rfl);(rfl))
       | (go_at_call 150;refine (hmvy _).mono ?_;rintro e w4 ⟨rfl,hb4⟩;have hP4:=hP3.below hM1 hb4 hP3.size;have b04:=j0f b03 hb4 (zL9 _);clear hb4)
       | ((with_reducible apply j1v b04 (h15.trans hlx) hly);(rfl);(rfl);(rfl);(rfl);intro w5 b05 g5 z5;have hP5:=hP4.grown hM1 g5 hrr))
      go_wp2_with (first
       | ((with_reducible apply j0t b05 hly);(rfl);(rfl);(rfl))
       | (go_at_call 117;refine (j6g hP5 HM1.out.2.2 HM1.out.1 hyo).mono ?_;rintro e w6 ⟨rfl,hP6⟩))
      go_roundg (gk - 1)
      case measure => exact HKM.out.1
      case rel => exact ⟨k + 1,HKM.out.2.1,HKM.out.2.2,by rw [HN.out,if_pos trivial,← HY.out];exact hP6⟩
  ·obtain rfl:k = os.length:=by omega
   have hfin:j5x f g h (j2b deed owner now) os os.length = j3v f g h (os.filter (j2b deed owner now)):=by unfold j5x;rw [List.take_length]
   have HF:=zQ9 (HP1.out.1.trans hPr)
   have HFI:=zQ9 hfin
   clear hPr hfin
   go_wp2_with fail
   go_end0
   exact ⟨rfl,by have:=HF.out;rw [HFI.out,HOS.out] at this;exact this⟩
end Go.Proofs.YtmennjmjakdkcaaGreat
