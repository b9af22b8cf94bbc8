/- HerdChecks 5: WearOf, MarkOf, Owner, Grid. -/
import Derived.Test.YtmennjmjakdkcaaGreatCk04
import Derived.Test.YtmennjmjakdkcaaGreatCk03
import Derived.Test.YtmennjmjakdkcaaGreatCk01
import Derived.Deep.AppendLies
import Derived.Deep.RegionHeld3
set_option linter.unusedVariables false
set_option linter.unusedSimpArgs false
namespace Go.Proofs.YtmennjmjakdkcaaGreat
open Go.RowKit
theorem bit_i64 (l p:Nat) (hl:l < 256) (hp:p ≤ 7):(bits BinOp.and IntKind.i64 ((l:Int) / 2 ^ p) 1 == 1) = l.testBit p:=by
 have e2:(l:Int) / 2 ^ p = ((l / 2 ^ p:Nat):Int):=by simp
 rw [e2]
 have hle:l / 2 ^ p ≤ l:=Nat.div_le_self _ _
 show (IntKind.i64.wrap ((BitVec.ofInt 64 ((l / 2 ^ p:Nat):Int) &&& BitVec.ofInt 64 ((1:Nat):Int)).toNat:Int) == 1) = _
 rw [BitVec.toNat_and,ofInt_u64 _ (by omega),ofInt_u64 1 (by omega),Nat.and_one_is_mod,Nat.testBit_eq_decide_div_mod_eq]
 have h2:=Nat.mod_lt (l / 2 ^ p) (show 0 < 2 by omega)
 rw [IntWalk.i64_in _ (by omega)]
 rw [Bool.eq_iff_iff]
 simp only [beq_iff_eq,decide_eq_true_eq]
 omega
theorem bit_kit (n:Int) (b:Nat) (w:World) (hn:0 ≤ n) (hn':n ≤ 255) (hb:b ≤ 7) :
 Calls Tryz.prog 112 #[.int .i64 n,.int .i64 b] w fun e w' => e = .returned (.bool (bit n b))∧w = w':=by
 obtain ⟨l,rfl⟩:=Int.eq_ofNat_of_zero_le hn
 have h:=bit_i64 l b (by omega) hb
 have hb':(b:Int) ≤ 7:=by omega
 have hl:l < 256:=by omega
 obtain rfl | rfl | rfl | rfl | rfl | rfl | rfl | rfl:b = 0 ∨ b = 1 ∨ b = 2 ∨ b = 3 ∨ b = 4 ∨ b = 5 ∨ b = 6 ∨ b = 7:=by omega
 all_goals
  have H:=zQ9 h
  clear h
  go_enter Tryz.func112,Tryz.ntmps112
  go_wp2
  go_ret
  refine ⟨j0o ?_,rfl⟩
  unfold bit
  rw [Int.toNat_natCast,← H.out]
  first | rfl | simp
theorem wear_tab:∀ n:Fin 256,∀ b:Fin 8,∀ l r:Bool,onI (n.1:Int) l r = n.1→n.1.testBit b.1 = false→((b.1 < 4∧l = false) ∨ (4 ≤ b.1∧r = false))→n.1 + 2 ^ b.1 < 256∧popI ((n.1 + 2 ^ b.1:Nat):Int) = popI (n.1:Int) + 1∧onI ((n.1 + 2 ^ b.1:Nat):Int) l r = ((n.1 + 2 ^ b.1:Nat):Int):=by
 decide +kernel
theorem k7n {n:Int} {b:Nat} {l r:Bool} (h0:0 ≤ n) (h1:n ≤ 255) (hb:b ≤ 7) (ho:onI n l r = n) (hz:bit n b = false) (he:(b < 4∧l = false) ∨ (4 ≤ b∧r = false)) :
 n + (2 ^ b:Nat) ≤ 255∧popI (n + (2 ^ b:Nat)) = popI n + 1∧onI (n + (2 ^ b:Nat)) l r = n + (2 ^ b:Nat):=by
 obtain ⟨k,rfl⟩:=Int.eq_ofNat_of_zero_le h0
 have h:=wear_tab ⟨k,by omega⟩ ⟨b,by omega⟩ l r ho (by unfold bit at hz;simpa using hz) he
 have e:((k:Int) + (2 ^ b:Nat)) = ((k + 2 ^ b:Nat):Int):=by simp
 rw [e]
 exact ⟨by have:=h.1;dsimp only at this;omega,h.2.1,h.2.2⟩
def WearRes (w:World) (H N o:Nat) (e:Ending) (w':World):Prop:=∃ s:Sg,e = .returned (vSg s)∧seen s 0 0 = 0∧popI s.n ≤ o∧Dealt w w' H N
theorem j7x {n:Int} {l r:Bool} {b p:Int} (h0:0 ≤ n) (h1:n ≤ 255) (ho:onI n l r = n) (hb:b = 0 ∨ b = -1) (hp:p = 0 ∨ p = -1):seen ⟨n,l,r,b,p⟩ 0 0 = 0:=by
 unfold seen
 dsimp only
 rw [if_neg (by simp [j0n,h0,h1]),if_neg (by simp [ho]),if_neg,if_neg]
 ·rcases hp with rfl | rfl <;> simp [btw]
 ·rcases hb with rfl | rfl <;> simp [btw]
theorem set5_0 {W:World} {g:Nat} {t:TypeId} {a b c d e z:Value} (h:W.heap[g]? = some (.cells #[a,b,c,d,e] t (0,0))):(W.setCell ⟨g,0,none⟩ z).heap[g]? = some (.cells #[z,b,c,d,e] t (0,0)):=by
 simp [World.setCell,Array.getElem?_modify,h]
theorem set5_3 {W:World} {g:Nat} {t:TypeId} {a b c d e z:Value} (h:W.heap[g]? = some (.cells #[a,b,c,d,e] t (0,0))):(W.setCell ⟨g,3,none⟩ z).heap[g]? = some (.cells #[a,b,c,z,e] t (0,0)):=by
 simp [World.setCell,Array.getElem?_modify,h]
set_option maxRecDepth 100000 in
set_option maxHeartbeats 2000000 in
theorem q0l (H N o:Nat) (w:World) (h:Hd w H N) (hN:N ≤ 4611686018427387000) (ho:o ≤ 100) :
 Calls Tryz.prog 77 #[.pointer (some ⟨H,0,none⟩),.int .i64 o] w (WearRes w H (N + 110) o):=by
 have hH:=h.lt
 have hzz:Value.agg #[Value.int .i64 0,.bool false,.bool false,.int .i64 0,.int .i64 0] = Value.agg #[Value.int .i64 0,.bool false,.bool false,.int .i64 0,.int .i64 0]:=rfl
 clear hzz
 go_enter Tryz.func77,Tryz.ntmps77
 go_wp2_with fail
 have hD0:=(Dealt.refl h).alloc (Obj.cells #[Value.int .i64 0,.bool false,.bool false,.int .i64 0,.int .i64 0] 31)
 have br0:(w.alloc (Obj.cells #[Value.int .i64 0,.bool false,.bool false,.int .i64 0,.int .i64 0] 31)).heap[w.heap.size]? = some (Obj.cells #[Value.int .i64 0,.bool false,.bool false,.int .i64 0,.int .i64 0] 31 (0,0)):=j0c rfl
 refine (j3p H N 1 4 _ hD0.hd (by omega) (by omega) (by omega)).mono ?_
 rintro e w1 ⟨sl,rfl,hd1⟩
 have hD1:=hD0.trans hd1
 have br1:=hd1.blk br0 (by omega)
 clear hd1 hD0 br0 h
 go_wp2_with fail
 refine (j3p H (N + 1) 1 4 _ hD1.hd (by omega) (by omega) (by omega)).mono ?_
 rintro e w2 ⟨sr,rfl,hd2⟩
 have hD2:=(hD1.trans hd2).alloc (Obj.cells #[Value.int .i64 0,.bool sl,.bool sr,.int .i64 0,.int .i64 0] 31)
 have br2:=j0b (hd2.blk br1 (by omega)) (Obj.cells #[Value.int .i64 0,.bool sl,.bool sr,.int .i64 0,.int .i64 0] 31)
 have bs2:(w2.alloc (Obj.cells #[Value.int .i64 0,.bool sl,.bool sr,.int .i64 0,.int .i64 0] 31)).heap[w2.heap.size]? = some (Obj.cells #[Value.int .i64 0,.bool sl,.bool sr,.int .i64 0,.int .i64 0] 31 (0,0)):=j0c rfl
 have hz:w.heap.size < w2.heap.size:=Nat.lt_of_lt_of_le (j0a br1) hd2.size
 clear hd2 hD1 br1
 go_wp2_with fail
 refine (j1m H (N + 1 + 1) o _ hD2.hd (by omega) (by omega)).mono ?_
 rintro e w3 ⟨n0,rfl,hn0,hd3⟩
 have hD3:=hD2.trans hd3
 have br3:=hd3.blk br2 (by omega)
 have bs3:=hd3.blk bs2 (by omega)
 have hno:n0 ≤ o:=by omega
 clear hd3 hD2 br2 bs2 hn0
 go_wp2_with fail
 go_loopg [6] n0 (fun g i wr => i = .int .i64 g∧g ≤ n0∧∃ n:Int,0 ≤ n∧n ≤ 255∧onI n sl sr = n∧popI n + g ≤ n0∧wr.heap[w2.heap.size]? = some (Obj.cells #[Value.int .i64 n,.bool sl,.bool sr,.int .i64 0,.int .i64 0] 31 (0,0)) ∧
  wr.heap[w.heap.size]? = some (Obj.cells #[Value.int .i64 0,.bool false,.bool false,.int .i64 0,.int .i64 0] 31 (0,0))∧Dealt w wr H (N + 3 + (n0 - g)))
 case atStart => exact ⟨rfl,zL9 _,0,by omega,by omega,by simp [onI],by (have:popI 0 = 0:=by decide);omega,bs3,br3,hD3.mono (by omega)⟩
 case round =>
  obtain ⟨rfl,hgn,n,hn0,hn1,hon,hpop,bs,br,hD⟩:=hrel
  have HON:=zQ9 (zA9 hon hpop)
  clear hon hpop
  by_cases hg:0 < gk
  ·have hg':(0:Int) < (gk:Int):=by omega
   go_wp2_with fail
   refine (j1m H _ 7 _ hD.hd (by omega) (by omega)).mono ?_
   rintro e w4 ⟨b,rfl,hb,hd4⟩
   have hD4:=hD.trans hd4
   have br4:=hd4.blk br (by omega)
   have bs4:=hd4.blk bs (by omega)
   have hb7:b ≤ 7:=by omega
   clear hd4 hD br bs hb
   obtain ⟨s0,s1,s2,s3,s4⟩:=blk5 bs4
   have f0:=frz bs4 0
   have HO:=zQ9 (zA9 hD4 (zA9 br4 bs4))
   clear hD4 br4 bs4
   go_wp2_with fail
   refine (bit_kit n b _ hn0 hn1 hb7).mono ?_
   rintro e w5 ⟨rfl,rfl⟩
   have fin0:Handed = Handed:=rfl
   clear fin0
   cases hbit:bit n b
   ·by_cases hb4:b < 4
    ·have hb4':(b:Int) < 4:=by omega
     have hb4c:¬ (4:Int) ≤ (b:Int):=by omega
     cases sl
     ·have hw:=k7n hn0 hn1 hb7 HON.out.1 hbit (.inl ⟨hb4,rfl⟩)
      clear hbit
      obtain rfl | rfl | rfl | rfl:b = 0 ∨ b = 1 ∨ b = 2 ∨ b = 3:=by omega
      all_goals
       first | rw [show (((2:Nat) ^ 0:Nat):Int) = 1 from rfl] at hw | rw [show (((2:Nat) ^ 1:Nat):Int) = 2 from rfl] at hw | rw [show (((2:Nat) ^ 2:Nat):Int) = 4 from rfl] at hw | rw [show (((2:Nat) ^ 3:Nat):Int) = 8 from rfl] at hw | rw [show (((2:Nat) ^ 4:Nat):Int) = 16 from rfl] at hw | rw [show (((2:Nat) ^ 5:Nat):Int) = 32 from rfl] at hw | rw [show (((2:Nat) ^ 6:Nat):Int) = 64 from rfl] at hw | rw [show (((2:Nat) ^ 7:Nat):Int) = 128 from rfl] at hw
       have hle:=hw.1
       have HW:=zQ9 hw.2
       clear hw
       go_wp2
       go_roundg (gk - 1)
       case measure => omega
       case rel =>
        obtain ⟨hD4,br4,bs4⟩:=HO.out
        refine ⟨by congr 1;omega,by omega,_,?_,?_,HW.out.2,?_,set5_0 bs4,(Below.heap_setCell _ ⟨w2.heap.size,0,none⟩ _ _ (by dsimp;omega)).trans br4,(hD4.mono (by omega)).set (by dsimp;omega) (by dsimp;omega) _⟩
        ·omega
        ·omega
        ·rw [HW.out.1];have:=HON.out.2;omega
     ·go_wp2
      go_roundg (gk - 1)
      case measure => omega
      case rel => exact ⟨by congr 1;omega,by omega,n,hn0,hn1,HON.out.1,by have:=HON.out.2;omega,HO.out.2.2,HO.out.2.1,HO.out.1.mono (by omega)⟩
    ·have hb4':¬ (b:Int) < 4:=by omega
     have hb4c:(4:Int) ≤ (b:Int):=by omega
     cases sr
     ·have hw:=k7n hn0 hn1 hb7 HON.out.1 hbit (.inr ⟨by omega,rfl⟩)
      clear hbit
      obtain rfl | rfl | rfl | rfl:b = 4 ∨ b = 5 ∨ b = 6 ∨ b = 7:=by omega
      all_goals
       first | rw [show (((2:Nat) ^ 0:Nat):Int) = 1 from rfl] at hw | rw [show (((2:Nat) ^ 1:Nat):Int) = 2 from rfl] at hw | rw [show (((2:Nat) ^ 2:Nat):Int) = 4 from rfl] at hw | rw [show (((2:Nat) ^ 3:Nat):Int) = 8 from rfl] at hw | rw [show (((2:Nat) ^ 4:Nat):Int) = 16 from rfl] at hw | rw [show (((2:Nat) ^ 5:Nat):Int) = 32 from rfl] at hw | rw [show (((2:Nat) ^ 6:Nat):Int) = 64 from rfl] at hw | rw [show (((2:Nat) ^ 7:Nat):Int) = 128 from rfl] at hw
       have hle:=hw.1
       have HW:=zQ9 hw.2
       clear hw
       go_wp2
       go_roundg (gk - 1)
       case measure => omega
       case rel =>
        obtain ⟨hD4,br4,bs4⟩:=HO.out
        refine ⟨by congr 1;omega,by omega,_,?_,?_,HW.out.2,?_,set5_0 bs4,(Below.heap_setCell _ ⟨w2.heap.size,0,none⟩ _ _ (by dsimp;omega)).trans br4,(hD4.mono (by omega)).set (by dsimp;omega) (by dsimp;omega) _⟩
        ·omega
        ·omega
        ·rw [HW.out.1];have:=HON.out.2;omega
     ·go_wp2
      go_roundg (gk - 1)
      case measure => omega
      case rel => exact ⟨by congr 1;omega,by omega,n,hn0,hn1,HON.out.1,by have:=HON.out.2;omega,HO.out.2.2,HO.out.2.1,HO.out.1.mono (by omega)⟩
   ·go_wp2
    go_roundg (gk - 1)
    case measure => omega
    case rel =>
     refine ⟨by congr 1;omega,by omega,n,hn0,hn1,HON.out.1,by have:=HON.out.2;omega,HO.out.2.2,HO.out.2.1,HO.out.1.mono (by omega)⟩
  ·obtain rfl:gk = 0:=by omega
   go_wp2_with fail
   refine (j3p H _ 1 3 _ hD.hd (by omega) (by omega) (by omega)).mono ?_
   rintro e w4 ⟨o1,rfl,hd4⟩
   have hD4:=hD.trans hd4
   have br4:=hd4.blk br (by omega)
   have bs4:=hd4.blk bs (by omega)
   clear hd4 hD br bs
   have hzs:=j0a bs4
   cases o1
   ·have hD5:=hD4
    have br5:=br4
    have bs5:=bs4
    clear hD4 br4 bs4
    go_wp2_with fail
    refine (j3p H _ 1 3 _ hD5.hd (by omega) (by omega) (by omega)).mono ?_
    rintro e w6 ⟨o2,rfl,hd6⟩
    have hD6:=hD5.trans hd6
    have br6:=hd6.blk br5 (by omega)
    have bs6:=hd6.blk bs5 (by omega)
    clear hd6 hD5 br5 bs5
    have z6:=j0a bs6
    have fr0:=frz br6 0
    have fr1:=frz br6 1
    have fr2:=frz br6 2
    have fr3:=frz br6 3
    have fr4:=frz br6 4
    have f4:=frz bs6 4
    obtain ⟨s0,s1,s2,s3,s4⟩:=blk5 bs6
    obtain ⟨r0,r1,r2,r3,r4⟩:=blk5 br6
    have HD:=zQ9 hD6
    clear hD6 bs6 br6
    cases o2
    ·go_wp2
     refine bodyPost_ret (v:=vSg ⟨n,sl,sr,0,0⟩) (by simp [results,Tryz.f77,go_sem,vSg,s0,s1,s2,s3,s4,r0,r1,r2,r3,r4]) rfl ⟨⟨n,sl,sr,0,0⟩,rfl,j7x hn0 hn1 HON.out.1 (by omega) (by omega),by have:=HON.out.2;dsimp only;omega,?_⟩
     have hD:=HD.out.mono (by omega:N + 3 + (n0 - 0) + 1 + 1 ≤ N + 110)
     exact ((((hD.set (by dsimp;omega) (by dsimp;omega) _).set (by dsimp;omega) (by dsimp;omega) _).set (by dsimp;omega) (by dsimp;omega) _).set (by dsimp;omega) (by dsimp;omega) _).set (by dsimp;omega) (by dsimp;omega) _
    ·go_wp2
     refine bodyPost_ret (v:=vSg ⟨n,sl,sr,0,-1⟩) (by simp [results,Tryz.f77,go_sem,vSg,s0,s1,s2,s3,s4,r0,r1,r2,r3,r4]) rfl ⟨⟨n,sl,sr,0,-1⟩,rfl,j7x hn0 hn1 HON.out.1 (by omega) (by omega),by have:=HON.out.2;dsimp only;omega,?_⟩
     have hD:=HD.out.mono (by omega:N + 3 + (n0 - 0) + 1 + 1 ≤ N + 110)
     exact (((((hD.set (by dsimp;omega) (by dsimp;omega) _).set (by dsimp;omega) (by dsimp;omega) _).set (by dsimp;omega) (by dsimp;omega) _).set (by dsimp;omega) (by dsimp;omega) _).set (by dsimp;omega) (by dsimp;omega) _).set (by dsimp;omega) (by dsimp;omega) _
   ·have f3:=frz bs4 3
    obtain ⟨q0,q1,q2,q3,q4⟩:=blk5 bs4
    go_wp2_with fail
    obtain ⟨w5,hW⟩:∃ w5,w5 = w4.setCell ⟨w2.heap.size,3,none⟩ (.int .i64 (-1)):=⟨_,rfl⟩
    rw [← hW]
    have hD5:Dealt w w5 H (N + 3 + (n0 - 0) + 1):=by rw [hW];exact hD4.set (by dsimp;omega) (by dsimp;omega) _
    have bs5:w5.heap[w2.heap.size]? = some (Obj.cells #[Value.int .i64 n,.bool sl,.bool sr,.int .i64 (-1),.int .i64 0] 31 (0,0)):=by rw [hW];exact set5_3 bs4
    have br5:w5.heap[w.heap.size]? = some (Obj.cells #[Value.int .i64 0,.bool false,.bool false,.int .i64 0,.int .i64 0] 31 (0,0)):=by rw [hW];exact (Below.heap_setCell _ ⟨w2.heap.size,3,none⟩ _ _ (by dsimp;omega)).trans br4
    clear hW f3 q0 q1 q2 q3 q4 bs4 br4 hD4
    refine (j3p H _ 1 3 _ hD5.hd (by omega) (by omega) (by omega)).mono ?_
    rintro e w6 ⟨o2,rfl,hd6⟩
    have hD6:=hD5.trans hd6
    have br6:=hd6.blk br5 (by omega)
    have bs6:=hd6.blk bs5 (by omega)
    clear hd6 hD5 br5 bs5
    have z6:=j0a bs6
    have fr0:=frz br6 0
    have fr1:=frz br6 1
    have fr2:=frz br6 2
    have fr3:=frz br6 3
    have fr4:=frz br6 4
    have f4:=frz bs6 4
    obtain ⟨s0,s1,s2,s3,s4⟩:=blk5 bs6
    obtain ⟨r0,r1,r2,r3,r4⟩:=blk5 br6
    have HD:=zQ9 hD6
    clear hD6 bs6 br6
    cases o2
    ·go_wp2
     refine bodyPost_ret (v:=vSg ⟨n,sl,sr,-1,0⟩) (by simp [results,Tryz.f77,go_sem,vSg,s0,s1,s2,s3,s4,r0,r1,r2,r3,r4]) rfl ⟨⟨n,sl,sr,-1,0⟩,rfl,j7x hn0 hn1 HON.out.1 (by omega) (by omega),by have:=HON.out.2;dsimp only;omega,?_⟩
     have hD:=HD.out.mono (by omega:N + 3 + (n0 - 0) + 1 + 1 ≤ N + 110)
     exact ((((hD.set (by dsimp;omega) (by dsimp;omega) _).set (by dsimp;omega) (by dsimp;omega) _).set (by dsimp;omega) (by dsimp;omega) _).set (by dsimp;omega) (by dsimp;omega) _).set (by dsimp;omega) (by dsimp;omega) _
    ·go_wp2
     refine bodyPost_ret (v:=vSg ⟨n,sl,sr,-1,-1⟩) (by simp [results,Tryz.f77,go_sem,vSg,s0,s1,s2,s3,s4,r0,r1,r2,r3,r4]) rfl ⟨⟨n,sl,sr,-1,-1⟩,rfl,j7x hn0 hn1 HON.out.1 (by omega) (by omega),by have:=HON.out.2;dsimp only;omega,?_⟩
     have hD:=HD.out.mono (by omega:N + 3 + (n0 - 0) + 1 + 1 ≤ N + 110)
     exact (((((hD.set (by dsimp;omega) (by dsimp;omega) _).set (by dsimp;omega) (by dsimp;omega) _).set (by dsimp;omega) (by dsimp;omega) _).set (by dsimp;omega) (by dsimp;omega) _).set (by dsimp;omega) (by dsimp;omega) _).set (by dsimp;omega) (by dsimp;omega) _
def mk8:List Int:=[1,2,16,4,32,8,64,128]
theorem k6o:∀ i,i < 9→(mk8.take i).sum ≤ 255:=by decide
theorem sum_take {l:List Int} {i:Nat} {x:Int} (h:l[i]? = some x):(l.take (i + 1)).sum = (l.take i).sum + x:=by
 rw [List.take_add_one,h];simp
theorem k8w {n b p:Int} (h1:0 ≤ n∧n ≤ 255) (h2:0 ≤ b∧b ≤ 9) (h3:0 ≤ p∧p ≤ 6):mkOk ⟨n,b,p⟩ = true:=k6p.2 ⟨h1,h2,h3⟩
theorem mk8_step:∀ i,i < 8→(mk8.take i).sum ≤ (mk8.take (i + 1)).sum:=by decide
def MkRes (w:World) (H N:Nat) (e:Ending) (w':World):Prop:=∃ m:Mk,e = .returned (vMk m)∧mkOk m = true∧Dealt w w' H N
set_option maxRecDepth 100000 in
set_option maxHeartbeats 2000000 in
theorem k2u (H N:Nat) (w:World) (h:Hd w H N) (hN:N ≤ 4611686018427387000) :
 Calls Tryz.prog 71 #[.pointer (some ⟨H,0,none⟩)] w (MkRes w H (N + 16)):=by
 have hH:=h.lt
 go_enter Tryz.func71,Tryz.ntmps71
 go_wp2_with fail
 refine (j1m H N 9 _ (h.alloc _) (by omega) (by omega)).mono ?_
 rintro e w1 ⟨n1,rfl,hn1,hd1⟩
 have hD1:=(((Dealt.refl h).mono (by omega:N ≤ N + 1)).alloc (Obj.cells #[Value.int .i64 0,.int .i64 0,.int .i64 0] 117)).trans hd1
 have br1:=hd1.blk (j0c rfl:(w.alloc (Obj.cells #[Value.int .i64 0,.int .i64 0,.int .i64 0] 117)).heap[w.heap.size]? = some _) (by omega)
 clear hd1 h
 go_wp2_with fail
 refine (j3q H (N + 1) 0 (some ⟨w1.heap.size,0,none⟩) 3 3 [0,1,n1] _ (hD1.hd.alloc _) (by omega) (j6o _ _ _ _ _) (j3d hD1.hd (zL9 _) 0) (by omega)).mono ?_
 rintro e w2 ⟨b,rfl,hb,hd2⟩
 have hD2:=(hD1.mono (by omega:N + 1 ≤ N + 2)).alloc (Obj.cells #[Value.int .i64 0,.int .i64 1,.int .i64 n1] 3) |>.trans hd2
 have br2:=hd2.blk (j0b br1 _) (by omega)
 have hb':0 ≤ b∧b ≤ 9:=by
  simp only [List.mem_cons,List.not_mem_nil,or_false] at hb
  omega
 clear hd2 hD1 hb hn1 br1
 go_wp2_with fail
 refine (j1m H (N + 2) 6 _ hD2.hd (by omega) (by omega)).mono ?_
 rintro e w3 ⟨n2,rfl,hn2,hd3⟩
 have hD3:=hD2.trans hd3
 have br3:=hd3.blk br2 (by omega)
 clear hd3 hD2 br2
 go_wp2_with fail
 refine (j3q H (N + 2 + 1) 0 (some ⟨w3.heap.size,0,none⟩) 4 4 [0,1,2,n2] _ (hD3.hd.alloc _) (by omega) (Sl.lit w3 _ _ [0,1,2,(n2:Int)] rfl j0s (by simp [maxLen])) (j3d hD3.hd (zL9 _) 0) (by omega)).mono ?_
 rintro e w4 ⟨p,rfl,hp,hd4⟩
 have hD4:=(hD3.mono (by omega:N + 2 + 1 ≤ N + 4)).alloc (Obj.cells #[Value.int .i64 0,.int .i64 1,.int .i64 2,.int .i64 n2] 3) |>.trans hd4
 have br4:=hd4.blk (j0b br3 _) (by omega)
 have hp':0 ≤ p∧p ≤ 6:=by
  simp only [List.mem_cons,List.not_mem_nil,or_false] at hp
  omega
 clear hd4 hD3 hp hn2 br3
 go_wp2_with fail
 have hD5:=hD4.alloc (Obj.cells #[Value.int .i64 0,.int .i64 b,.int .i64 p] 117)
 have br5:=j0b br4 (Obj.cells #[Value.int .i64 0,.int .i64 b,.int .i64 p] 117)
 have bm5:(w4.alloc (Obj.cells #[Value.int .i64 0,.int .i64 b,.int .i64 p] 117)).heap[w4.heap.size]? = some (Obj.cells #[Value.int .i64 0,.int .i64 b,.int .i64 p] 117 (0,0)):=j0c rfl
 have hz4:w.heap.size < w4.heap.size:=j0a br4
 refine (j3p H (N + 2 + 1 + 1) 1 4 _ hD5.hd (by omega) (by omega) (by omega)).mono ?_
 rintro e w6 ⟨o,rfl,hd6⟩
 have hD6:=hD5.trans hd6
 have br6:=hd6.blk br5 (by omega)
 have bm6:=hd6.blk bm5 (by omega)
 clear hd6 hD5 hD4 br5 bm5 br4
 cases o
 ·go_wp2_with fail
  obtain ⟨W,hW⟩:∃ W,W = w6.alloc (Obj.cells #[Value.int .i64 1,.int .i64 2,.int .i64 16,.int .i64 4,.int .i64 32,.int .i64 8,.int .i64 64,.int .i64 128] 3):=⟨_,rfl⟩
  rw [← hW]
  have hDW:Dealt w W H (N + 2 + 1 + 1 + 1):=by rw [hW];exact hD6.alloc _
  have brW:W.heap[w.heap.size]? = some (Obj.cells #[Value.int .i64 0,.int .i64 0,.int .i64 0] 117 (0,0)):=by rw [hW];exact j0b br6 _
  have bmW:W.heap[w4.heap.size]? = some (Obj.cells #[Value.int .i64 0,.int .i64 b,.int .i64 p] 117 (0,0)):=by rw [hW];exact j0b bm6 _
  have hLW:Ints W (some ⟨w6.heap.size,0,none⟩) 8 mk8:=by rw [hW];exact Sl.lit w6 _ _ mk8 rfl j0s (by decide)
  have hbW:W.heap[w6.heap.size]? = some (Obj.cells #[Value.int .i64 1,.int .i64 2,.int .i64 16,.int .i64 4,.int .i64 32,.int .i64 8,.int .i64 64,.int .i64 128] 3 (0,0)):=by rw [hW];exact j0c rfl
  have hz6:w4.heap.size < w6.heap.size:=j0a bm6
  clear hW br6 bm6 hD6
  go_loopg [5] 8 (fun g i wr => ∃ k:Nat,k + g = 8∧i = .int .i64 k∧∃ x:Int,0 ≤ x∧x ≤ (mk8.take k).sum∧wr.heap[w4.heap.size]? = some (Obj.cells #[Value.int .i64 x,.int .i64 b,.int .i64 p] 117 (0,0)) ∧
   wr.heap[w.heap.size]? = some (Obj.cells #[Value.int .i64 0,.int .i64 0,.int .i64 0] 117 (0,0))∧Ints wr (some ⟨w6.heap.size,0,none⟩) 8 mk8∧Dealt w wr H (N + 5 + k))
  case atStart => exact ⟨0,by omega,rfl,0,by omega,by decide,bmW,brW,hLW,hDW⟩
  case round =>
   obtain ⟨k,hk,rfl,x,hx0,hx1,bmr,brr,hLr,hDr⟩:=hrel
   have HK:=zQ9 hk
   have hk8:k ≤ 8:=by omega
   clear hk
   by_cases hlt:k < 8
   ·have hk3:(k:Int) + 3 ≤ 11:=by omega
    go_wp2_with fail
    refine (j3p H (N + 5 + k) 1 (k + 3) _ hDr.hd (by omega) (by omega) (by omega)).mono ?_
    rintro e w8 ⟨o,rfl,hd8⟩
    have bm8:=hd8.blk bmr (by omega)
    have br8:=hd8.blk brr (by omega)
    have hL8:=hLr.dealt hd8 (fun b' off' e => by cases e;omega)
    have hD8:=hDr.trans hd8
    clear hd8 bmr brr hLr hDr
    have hm8:=k6o k (by omega)
    cases o
    ·go_wp2
     go_roundg (gk - 1)
     case measure => have:=HK.out;omega
     case rel =>
      have h9:=mk8_step k hlt
      exact ⟨k + 1,by have:=HK.out;omega,by go_num,x,hx0,by omega,bm8,br8,hL8,hD8.mono (by omega)⟩
    ·obtain ⟨b8,off8,y,hA8,hb8,hy,q0⟩:=Ints.get hL8 hlt
     cases hA8
     rw [Nat.zero_add] at q0
     have hs:=sum_take hy
     have hm9:=k6o (k + 1) (by omega)
     have hy0:0 ≤ y:=by
      have:∀ z ∈ mk8,0 ≤ z:=by decide
      exact this y (List.mem_of_getElem? hy)
     have HS:=zQ9 hs
     have hxy:x + y ≤ 255:=by omega
     clear hs hy
     obtain ⟨m0,m1,m2⟩:=blk3 bm8
     have fm0:=frz bm8 0
     have i0:(0:Int) ≤ (k:Int):=by omega
     have i1:(k:Int) < 8:=by omega
     go_upto_region 10 with (fail)
     refine j1o (C:=fun w' => ∃ n,w' = w8.drewN n) 8 (by kernel_rfl) (by kernel_rfl) ⟨1,rfl⟩ ?_
     simp only [List.take_succ_cons,List.take_zero,List.drop_succ_cons,List.drop_zero]
     repeat (quiet_step (fail))
     refine wpQuiet_nil ?_
     intro _ hw'
     obtain ⟨nq,hw''⟩:=hw'
     subst hw''
     go_wp2
     go_roundg (gk - 1)
     case measure => have:=HK.out;omega
     case rel =>
      refine ⟨k + 1,by have:=HK.out;omega,by go_num,x + y,by omega,by rw [HS.out];omega,set3_0 bm8,?_,?_,?_⟩
      ·exact (Below.heap_setCell _ ⟨w4.heap.size,0,none⟩ _ _ (by dsimp;omega)).trans br8
      ·refine ⟨hL8.1,fun hn => ?_⟩
       obtain ⟨bb,oo,hA,hc⟩:=hL8.2 hn
       refine ⟨bb,oo,hA,fun i x hx j u hu => ?_⟩
       have h0:=hc i x hx j u hu
       cases hA
       unfold World.cell? at h0 ⊢
       rw [Below.heap_setCell _ ⟨w4.heap.size,0,none⟩ _ _ (by dsimp;omega)]
       exact h0
      ·exact ((hD8.mono (by omega:N + 5 + k + 1 ≤ N + 5 + (k + 1))).drewN nq).set (by dsimp;omega) (by dsimp;omega) _
   ·obtain rfl:k = 8:=by omega
    have hm8:=k6o 8 (by omega)
    have fr0:=frz brr 0
    have fr1:=frz brr 1
    have fr2:=frz brr 2
    obtain ⟨m0,m1,m2⟩:=blk3 bmr
    obtain ⟨r0,r1,r2⟩:=blk3 brr
    have zr:=j0a bmr
    have HD:=zQ9 hDr
    clear hDr
    go_wp2
    refine bodyPost_ret (v:=vMk ⟨x,b,p⟩) (by simp [results,Tryz.f71,go_sem,vMk,m0,m1,m2,r0,r1,r2]) rfl ⟨⟨x,b,p⟩,rfl,k8w (by omega) hb' hp',?_⟩
    have hD:=HD.out.mono (by omega:N + 5 + 8 ≤ N + 16)
    exact ((hD.set (by dsimp;omega) (by dsimp;omega) _).set (by dsimp;omega) (by dsimp;omega) _).set (by dsimp;omega) (by dsimp;omega) _
 ·go_wp2_with fail
  refine (j1m H (N + 2 + 1 + 1 + 1) 255 _ hD6.hd (by omega) (by omega)).mono ?_
  rintro e w7 ⟨n3,rfl,hn3,hd7⟩
  have hD7:=hD6.trans hd7
  have br7:=hd7.blk br6 (by omega)
  have bm7:=hd7.blk bm6 (by omega)
  clear hd7 hD6 br6 bm6
  have fm0:=frz bm7 0
  have fr0:=frz br7 0
  have fr1:=frz br7 1
  have fr2:=frz br7 2
  obtain ⟨m0,m1,m2⟩:=blk3 bm7
  obtain ⟨r0,r1,r2⟩:=blk3 br7
  have z7:=j0a bm7
  have HD:=zQ9 hD7
  clear hD7
  go_wp2
  refine bodyPost_ret (v:=vMk ⟨n3,b,p⟩) (by simp [results,Tryz.f71,go_sem,vMk,m0,m1,m2,r0,r1,r2]) rfl ⟨⟨n3,b,p⟩,rfl,k8w (by omega) hb' hp',?_⟩
  have hD:=HD.out.mono (by omega:N + 2 + 1 + 1 + 1 + 1 ≤ N + 16)
  exact (((hD.set (by dsimp;omega) (by dsimp;omega) _).set (by dsimp;omega) (by dsimp;omega) _).set (by dsimp;omega) (by dsimp;omega) _).set (by dsimp;omega) (by dsimp;omega) _
set_option maxRecDepth 100000 in
set_option maxHeartbeats 1000000 in
theorem q2j (t:Int) (A:Option Addr) (n c:Nat) (l:List Mk) (m:Mk) (w:World) (hl:Marks w A n l) (hn:n ≤ maxLen) :
 Calls Tryz.prog 111 #[.agg #[.int .i64 t,.slice A n c],vMk m] w fun e w' => ∃ o:Int,e = .returned (.int .i64 o)∧((o < 0) = (m ∉ l))∧Below w.heap.size w w':=by
 have HL:=zQ9 hl.len
 unfold maxLen at hn
 obtain ⟨W,hW⟩:∃ W,W = (w.alloc (Obj.cells #[Value.int .i64 t,.slice A n c] 24)).alloc (Obj.cells #[Value.int .i64 m.n,.int .i64 m.b,.int .i64 m.p] 117):=⟨_,rfl⟩
 have hB:Below w.heap.size w W:=by rw [hW];exact bal (bal0 w _) (zL9 _) _
 have b0:W.heap[w.heap.size]? = some (Obj.cells #[Value.int .i64 t,.slice A n c] 24 (0,0)):=by rw [hW];exact j0b (j0c rfl) _
 have b1:W.heap[w.heap.size + 1]? = some (Obj.cells #[Value.int .i64 m.n,.int .i64 m.b,.int .i64 m.p] 117 (0,0)):=by rw [hW];exact j0c (by simp)
 have hl1:=hl.below hB (zL9 _)
 obtain ⟨r0,r1⟩:=blk2 b0
 obtain ⟨m0,m1,m2⟩:=blk3 b1
 have z1:=j0a b1
 have HB:=zQ9 hB
 have HL1:=zQ9 hl1
 clear hl hl1 hB b0 b1
 go_enter Tryz.func111,Tryz.ntmps111
 unfold vMk
 go_wp2_with fail
 rw [← hW]
 clear hW
 go_loopg [5] n (fun g i wr => ∃ k:Nat,k + g = n∧i = .int .i64 k∧(l.take k).contains m = false∧∃ q,wr = W.drewN q)
 case atStart => exact ⟨0,by omega,rfl,by simp,0,rfl⟩
 case round =>
  obtain ⟨k,hk,rfl,hno,q,rfl⟩:=hrel
  have HK:=zQ9 (zA9 hk hno)
  have hkn:k ≤ n:=by omega
  clear hk hno
  by_cases hlt:k < n
  ·obtain ⟨b,off,x,rfl,hb,hx,p0,p1,p2⟩:=Marks.get HL1.out hlt
   have HX:=zQ9 hx
   clear hx
   have i0:(0:Int) ≤ (k:Int):=by omega
   have i1:(k:Int) < (n:Int):=by omega
   by_cases hxm:x = m
   ·subst hxm
    go_upto_region 4 with (fail)
    go_quiet (fail)
    go_wp2
    go_ret
    refine ⟨k,rfl,?_,j0l (j0l HB.out _) _⟩
    have:=List.mem_of_getElem? HX.out
    simp only [eq_iff_iff]
    exact ⟨fun h => by omega,fun h => absurd this h⟩
   ·have HNE:=zQ9 hxm
    cases e1:(x.n == m.n) <;> cases e2:(x.b == m.b) <;> cases e3:(x.p == m.p)
    case true.true.true =>
     exfalso
     exact hxm (by cases x;cases m;simp at e1 e2 e3;simp [e1,e2,e3])
    all_goals
     clear hxm
     go_upto_region 4 with (fail)
     go_quiet (fail)
     go_wp2
     go_roundg (gk - 1)
     case measure => have:=HK.out.1;omega
     case rel => exact ⟨k + 1,by have:=HK.out.1;omega,by go_num,k3x HK.out.2 HX.out HNE.out,_,rfl⟩
  ·obtain rfl:k = n:=by omega
   go_wp2
   go_ret
   refine ⟨-1,rfl,?_,j0l HB.out _⟩
   have h:=HK.out.2
   rw [List.take_of_length_le (by rw [HL.out];omega),List.contains_eq_mem,decide_eq_false_iff_not] at h
   simp [h]
theorem k2x:ElemOk Tryz.prog 26 25 1 24:=ElemOk.mk' (z:=.slice none 0 0) Tryz.underlying26 (by kernel_rfl) rfl (by decide)
def Rws (w:World) (base:Nat) (mv:List Value) (ls:List (List Int)):Prop :=
 mv.length = ls.length∧∀ (i:Nat) v,mv[i]? = some v→∃ l,ls[i]? = some l∧OwnI w base v l
def OwnG (w:World) (base:Nat) (v:Value) (ls:List (List Int)):Prop:=∃ mv,Own eVal 25 1 w base v mv∧Rws w base mv ls
theorem j1d {α β:Type} {ea:α→List Value} {eb:β→List Value} {t u:TypeId} {s r:Nat} {w:World} {b c:Nat} {x y:Value} {l:List α} {m:List β} (h:Own ea t s w b x l) (k:Own eb u r w c y m) (hne:t ≠ u) :
 x.ownBlock = none ∨ x.ownBlock ≠ y.ownBlock:=by
 rcases h.2 with ⟨rfl,_⟩ | ⟨g,cap,cur,rfl,_,h2,_⟩
 ·exact .inl rfl
 ·refine .inr ?_
  rcases k.2 with ⟨rfl,_⟩ | ⟨g',cap',cur',rfl,_,k2,_⟩
  ·simp [Value.ownBlock]
  ·intro e
   simp only [Value.ownBlock,Option.some.injEq] at e
   subst e
   rw [h2] at k2
   cases k2
   exact hne rfl
theorem OwnG.below {w w':World} {base B:Nat} {v:Value} {ls:List (List Int)} (h:OwnG w base v ls) (hb:Below B w w') (hB:w.heap.size ≤ B):OwnG w' base v ls:=by
 obtain ⟨mv,h1,h2,h3⟩:=h
 exact ⟨mv,h1.below hb hB,h2,fun i v hv => by
  obtain ⟨l,hl,ho⟩:=h3 i v hv
  exact ⟨l,hl,ho.below hb hB⟩⟩
theorem OwnG.mono {w:World} {base b:Nat} {v:Value} {ls:List (List Int)} (h:OwnG w base v ls) (hb:b ≤ base):OwnG w b v ls:=by
 obtain ⟨mv,h1,h2,h3⟩:=h
 exact ⟨mv,h1.mono hb,h2,fun i v hv => by
  obtain ⟨l,hl,ho⟩:=h3 i v hv
  exact ⟨l,hl,ho.mono hb⟩⟩
theorem OwnG.upon {w w':World} {base:Nat} {v:Value} {ls:List (List Int)} (h:OwnG w base v ls) (k:∀ j,base ≤ j→w'.heap[j]? = w.heap[j]?):OwnG w' base v ls:=by
 obtain ⟨mv,h1,h2,h3⟩:=h
 exact ⟨mv,h1.upon k,h2,fun i v hv => by
  obtain ⟨l,hl,ho⟩:=h3 i v hv
  exact ⟨l,hl,ho.upon k⟩⟩
theorem OwnG.snoc {w w':World} {base:Nat} {v v' u:Value} {mv:List Value} {ls:List (List Int)} {l:List Int} (h1:Own eVal 25 1 w base v mv) (h2:Rws w base mv ls) (hu:OwnI w base u l)
 (h3:Own eVal 25 1 w' base v' (mv ++ [u])) (hg:w.grownBy w' v.ownBlock):OwnG w' base v' (ls ++ [l]):=by
 refine ⟨mv ++ [u],h3,by simp [h2.1],fun i x hx => ?_⟩
 rcases Nat.lt_or_ge i mv.length with hi | hi
 ·rw [List.getElem?_append_left hi] at hx
  obtain ⟨l',hl',ho⟩:=h2.2 i x hx
  exact ⟨l',by rw [List.getElem?_append_left (by rw [← h2.1];exact hi)];exact hl',ho.kept hg (j1d ho h1 (by decide))⟩
 ·rw [List.getElem?_append_right hi] at hx
  have h0:i - mv.length = 0:=by
   cases hd:i - mv.length with
   | zero => rfl
   | succ k => rw [hd] at hx;simp at hx
  rw [h0] at hx
  simp only [List.getElem?_cons_zero,Option.some.injEq] at hx
  subst hx
  refine ⟨l,?_,hu.kept hg (j1d hu h1 (by decide))⟩
  rw [List.getElem?_append_right (by rw [← h2.1];exact hi),show i - ls.length = 0 by rw [← h2.1];exact h0]
  rfl
theorem set4_2 {W:World} {g:Nat} {t:TypeId} {a b c d z:Value} (h:W.heap[g]? = some (.cells #[a,b,c,d] t (0,0))):(W.setCell ⟨g,2,none⟩ z).heap[g]? = some (.cells #[a,b,z,d] t (0,0)):=by
 simp [World.setCell,Array.getElem?_modify,h]
theorem q1j {base gx:Nat} {Wy w3 w4:World} {T:TypeId} {a b d v v4 u:Value} {mv:List Value} {ls:List (List Int)} {l:List Int} {o:Obj}
 (bx:Wy.heap[gx]? = some (.cells #[a,b,v,d] T (0,0))) (hov:Own eVal 25 1 Wy base v mv) (hrw:Rws Wy base mv ls) (hgb:gx < base) (hbz:base ≤ Wy.heap.size)
 (hb3:Below Wy.heap.size Wy w3) (hu:OwnI w3 Wy.heap.size u l) (hov4:Own eVal 25 1 w4 base v4 (mv ++ [u])) (hgr:(w3.alloc o).grownBy w4 v.ownBlock) :
 (w4.setCell ⟨gx,2,none⟩ v4).heap[gx]? = some (.cells #[a,b,v4,d] T (0,0))∧Own eVal 25 1 (w4.setCell ⟨gx,2,none⟩ v4) base v4 (mv ++ [u]) ∧
   Rws (w4.setCell ⟨gx,2,none⟩ v4) base (mv ++ [u]) (ls ++ [l])∧Below gx Wy (w4.setCell ⟨gx,2,none⟩ v4):=by
 have hz3:=hb3.size
 have hov3:=(hov.below hb3 (zL9 _)).alloc o
 have hvl:=hov.lt
 have hne:v.ownBlock ≠ some gx:=fun h => by have:=hvl _ h;omega
 have h4:w4.heap[gx]? = some (.cells #[a,b,v,d] T (0,0)) :=
  (hgr.block gx (by simp;omega) (fun e => hne e.symm)).trans (j0b ((hb3.block gx (by omega)).trans bx) o)
 have hfar:∀ j,j ≠ gx→(w4.setCell ⟨gx,2,none⟩ v4).heap[j]? = w4.heap[j]?:=fun j hj => Below.heap_setCell w4 ⟨gx,2,none⟩ v4 j hj
 have keep:∀ {α:Type} {enc:α→List Value} {t:TypeId} {s:Nat} {x:Value} {l:List α},Own enc t s w4 base x l→Own enc t s (w4.setCell ⟨gx,2,none⟩ v4) base x l:=fun {α enc t s x l} h => by
  refine ⟨h.1,?_⟩
  rcases h.2 with h2 | ⟨g,cap,cur,hv,hg,hh,r⟩
  ·exact .inl h2
  ·exact .inr ⟨g,cap,cur,hv,hg,(hfar g (by omega)).trans hh,r⟩
 have hR:Rws (w3.alloc o) base mv ls:=⟨hrw.1,fun i x hx => by
  obtain ⟨l',hl',ho⟩:=hrw.2 i x hx
  exact ⟨l',hl',(ho.below hb3 (zL9 _)).alloc o⟩⟩
 obtain ⟨mv',m1,m2⟩:=OwnG.snoc hov3 hR ((hu.mono hbz).alloc o) hov4 hgr
 have hR4:Rws w4 base (mv ++ [u]) (ls ++ [l]):=by
  refine ⟨by simp [hrw.1],fun i x hx => ?_⟩
  rcases Nat.lt_or_ge i mv.length with hi | hi
  ·rw [List.getElem?_append_left hi] at hx
   obtain ⟨l',hl',ho⟩:=hR.2 i x hx
   exact ⟨l',by rw [List.getElem?_append_left (by rw [← hrw.1];exact hi)];exact hl',ho.kept hgr (j1d ho hov3 (by decide))⟩
  ·have h0:i = mv.length:=by
    have:=(List.getElem?_eq_some_iff.1 hx).1
    simp at this;omega
   subst h0
   simp at hx
   subst hx
   exact ⟨l,by rw [hrw.1];simp,((hu.mono hbz).alloc o).kept hgr (j1d ((hu.mono hbz).alloc o) hov3 (by decide))⟩
 refine ⟨set4_2 h4,keep hov4,⟨hR4.1,fun i x hx => ?_⟩,?_⟩
 ·obtain ⟨l',hl',ho⟩:=hR4.2 i x hx
  exact ⟨l',hl',keep ho⟩
 ·have hbb:Below gx Wy w4:=((hb3.mono (by omega)).trans ((bal0 w3 o).mono (by omega))).trans ((Below.refl _ _).grown hgr (by simp;omega) (fun k hk => by have:=hvl _ hk;omega))
  exact hbb.setCell (zL9 gx:gx ≤ (⟨gx,2,none⟩:Addr).block) _
def Grid (w:World) (A:Option Addr) (n:Nat) (ls:List (List Int)):Prop :=
 ∃ mv,Sl eVal 1 w A n mv∧mv.length = ls.length∧∀ (i:Nat) v,mv[i]? = some v→∃ B l c,ls[i]? = some l∧v = .slice B l.length c∧Ints w B l.length l∧l.length ≤ c∧c ≤ maxLen
theorem OwnG.form {w:World} {base:Nat} {v:Value} {ls:List (List Int)} (h:OwnG w base v ls):∃ A c,v = .slice A ls.length c∧Grid w A ls.length ls∧ls.length ≤ c∧c ≤ maxLen:=by
 obtain ⟨mv,h1,h2,h3⟩:=h
 obtain ⟨A,c,hv,hs,hc,hm⟩:=h1.form j2t
 rw [h2] at hv hs hc
 refine ⟨A,c,hv,⟨mv,hs,h2,fun i v hv => ?_⟩,hc,hm⟩
 obtain ⟨l,hl,ho⟩:=h3 i v hv
 obtain ⟨B,c',hv',hs',hc',hm'⟩:=ho.form j0s
 exact ⟨B,l,c',hl,hv',hs',hc',hm'⟩
theorem Grid.below {w w':World} {B:Nat} {A:Option Addr} {n:Nat} {ls:List (List Int)} (h:Grid w A n ls) (hb:Below B w w') (hB:w.heap.size ≤ B):Grid w' A n ls:=by
 obtain ⟨mv,h1,h2,h3⟩:=h
 exact ⟨mv,h1.below hb hB,h2,fun i v hv => by
  obtain ⟨C,l,c,a1,a2,a3,a4,a5⟩:=h3 i v hv
  exact ⟨C,l,c,a1,a2,a3.below hb hB,a4,a5⟩⟩
theorem Grid.get {w:World} {A:Option Addr} {n:Nat} {ls:List (List Int)} (h:Grid w A n ls) {k:Nat} (hk:k < n) :
 ∃ b off B l c,A = some ⟨b,off,none⟩∧b < w.heap.size∧ls[k]? = some l∧w.cell? ⟨b,off + k,none⟩ = some (.slice B l.length c)∧Ints w B l.length l∧l.length ≤ c∧c ≤ maxLen:=by
 obtain ⟨mv,h1,h2,h3⟩:=h
 obtain ⟨b,off,x,hA,hb,hx,hc⟩:=Vals.get h1 hk
 obtain ⟨B,l,c,a1,a2,a3,a4,a5⟩:=h3 k x hx
 subst a2
 exact ⟨b,off,B,l,c,hA,hb,a1,hc,a3,a4,a5⟩
theorem k7i {α:Type} {enc:α→List Value} {P:Program} {t e:TypeId} {sz bytes:Nat} (E:ElemOk P t e sz bytes) {ops:Array Oper} {o:Oper} {a:Act} {K:Act→World→Prop} {Q:Exit→Act→World→Prop} {F:Prop} {w:World}
 (hgd:o.guard = none) (s x:Operand) (ho:o.op = .call { callee:=.builtin .append,args:=#[s,x],argTypes:=#[t,t] })
 (base:Nat) (v:Value) (l:List α) (y:α) (cs:Array Value) (g:Nat) (hs:a.eval s = v) (hx:a.eval x = .slice (some ⟨g,0,none⟩) 1 1) (hg:w.heap[g]? = some (.cells cs e (0,0))) (hcs:cs.toList = enc y)
 (hlen:(enc y).length = sz) (h1:∀ u ∈ enc y,u.oneCell' = true)
 (hown:Own enc e sz w base v l) (hll:l.length < 4294967296) (hby:bytes ≤ 4096) (hbase:base ≤ w.heap.size)
 (h:∀ g' cap w',Own enc e sz w' base (.slice (some ⟨g',0,none⟩) (l.length + 1) cap) (l ++ [y])→w.grownBy w' v.ownBlock→Below base w w'→K (a.put o.dst (.slice (some ⟨g',0,none⟩) (l.length + 1) cap)) w') :
 if Region.wanted o (yielded ops a.tmps) = true then Oper.wp P o a w K Q else F:=by
 obtain ⟨i,z,hi,hz,hsize,hbytes,hzs⟩:=E.info
 refine step_append_lies w hgd s x t ho base e i z sz bytes E.sl hi hz hsize hbytes hzs E.pos v l.length (l.flatMap enc) hs hown ⟨g,0,none⟩ 1 1 (enc y) hx (by omega) ?_ h1 (by omega) (by unfold maxLen;omega) ?_ hbase w.heap.size rfl ?_
 ·rw [← hcs];exact World.news_of_block hg
 ·calc (l.length + 1) * bytes ≤ 4294967296 * 4096:=Nat.mul_le_mul (by omega) hby
   _ ≤ 140737488355328:=by omega
 ·intro g' cap w' hown' hgr _ _
  refine h g' cap w' ?_ hgr ((Below.refl _ _).grown hgr hbase (fun k hk => (Own.lt hown k hk).1))
  have e2:(l ++ [y]).flatMap enc = l.flatMap enc ++ enc y:=by simp
  unfold Own
  rw [e2,List.length_append]
  exact hown'
theorem k0u {α:Type} {enc:α→List Value} {P:Program} {t e:TypeId} {sz bytes:Nat} (E:ElemOk P t e sz bytes) {ops:Array Oper} {rest:List Oper} {o:Oper} {a:Act} {Q:Exit→Act→World→Prop} {w:World}
 (hgd:o.guard = none) (s x:Operand) (ho:o.op = .call { callee:=.builtin .append,args:=#[s,x],argTypes:=#[t,t] })
 (base:Nat) (v:Value) (l:List α) (y:α) (cs:Array Value) (hs:a.eval s = v) (hx:a.eval x = .slice (some ⟨w.heap.size,0,none⟩) 1 1) (hcs:cs.toList = enc y)
 (hlen:(enc y).length = sz) (h1:∀ u ∈ enc y,u.oneCell' = true)
 (hown:Own enc e sz w base v l) (hll:l.length < 4294967296) (hby:bytes ≤ 4096) (hbase:base ≤ w.heap.size)
 (h:∀ g' cap w',Own enc e sz w' base (.slice (some ⟨g',0,none⟩) (l.length + 1) cap) (l ++ [y])→w.grownBy w' v.ownBlock→Below base w w'→wpList P ops Q rest (a.put o.dst (.slice (some ⟨g',0,none⟩) (l.length + 1) cap)) w') :
 wpList P ops Q (o :: rest) a (w.alloc (.cells cs e)):=by
 obtain ⟨i,z,hi,hz,hsize,hbytes,hzs⟩:=E.info
 refine wpList_append_lies _ hgd s x t ho base e i z sz bytes E.sl hi hz hsize hbytes hzs E.pos v l.length (l.flatMap enc) hs (World.ownsRow.alloc hown _) ⟨w.heap.size,0,none⟩ 1 1 (enc y) hx (by omega) ?_ h1 (by omega) (by unfold maxLen;omega) ?_ (by simp;omega) (w.heap.size + 1) (by simp) ?_
 ·rw [← hcs];exact World.news_of_block (heap_alloc_new w _)
 ·calc (l.length + 1) * bytes ≤ 4294967296 * 4096:=Nat.mul_le_mul (by omega) hby
   _ ≤ 140737488355328:=by omega
 ·intro g' cap w' hown' hgr _ _
  have hg0:w.grownBy w' v.ownBlock:=⟨hgr.os,hgr.tape,hgr.output,Nat.le_trans (by simp) hgr.size,fun k hk hne => (hgr.block k (by simp;omega) hne).trans (Below.heap_alloc _ _ _ hk)⟩
  refine h g' cap w' ?_ hg0 ((Below.refl _ _).grown hg0 hbase (fun k hk => (Own.lt hown k hk).1))
  have e2:(l ++ [y]).flatMap enc = l.flatMap enc ++ enc y:=by simp
  unfold Own
  rw [e2,List.length_append]
  exact hown'
end Go.Proofs.YtmennjmjakdkcaaGreat
