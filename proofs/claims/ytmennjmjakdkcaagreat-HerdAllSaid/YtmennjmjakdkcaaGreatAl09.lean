/- HerdAll 9: RegOf, SightOf, Regs, HdK. -/
import Derived.Test.YtmennjmjakdkcaaGreatAl08
import Derived.Test.YtmennjmjakdkcaaGreatAl03
import Derived.Test.YtmennjmjakdkcaaGreatAl04
import Derived.Deep.RegionHeld3
import Derived.Test.YtmennjmjakdkcaaGreatAl07
import Derived.Test.YtmennjmjakdkcaaGreatAl06
import Derived.Deep.WholeRow
namespace Go.Proofs.YtmennjmjakdkcaaGreat
open Go.RowKit
set_option linter.unusedVariables false
set_option linter.unusedSimpArgs false
theorem chk_zero {l:List Mk} (h1:∀ m ∈ l,mkOk m = true) (h2:l.Nodup):∀ j k,chk l j k = 0
 | 0,_ => rfl
 | j + 1,k => by
   unfold chk
   cases hk:l[k]? with
   | none => rfl
   | some m =>
     dsimp only
     have hm:=h1 m (List.mem_of_getElem? hk)
     rw [if_neg (by simp [hm]),if_neg,chk_zero h1 h2 j (k + 1)]
     intro hc
     rw [List.contains_eq_mem,decide_eq_true_eq,List.mem_take_iff_getElem] at hc
     obtain ⟨i,hi,he⟩:=hc
     have hk':=List.getElem?_eq_some_iff.1 hk
     obtain ⟨hlt,hk2⟩:=hk'
     have h3:=(List.pairwise_iff_getElem.1 h2) i k (by omega) hlt (by omega)
     exact h3 (he.trans hk2.symm)
theorem check_zero {t:Int} {l:List Mk} (ht:0 ≤ t∧t ≤ 2) (hl:l.length ≤ 5) (h1:∀ m ∈ l,mkOk m = true) (h2:l.Nodup):check t l = 0:=by
 unfold check
 rw [if_neg (by simp [btw_iff,ht.1,ht.2]),if_neg (by omega),chk_zero h1 h2]
def RegOut (w:World) (H N o:Nat) (e:Ending) (w':World):Prop:=∃ t l A c,e = .returned (.agg #[.int .i64 t,.slice A l.length c])∧check t l = 0∧l.length ≤ o∧OwnM w' w.heap.size (.slice A l.length c) l∧Marks w' A l.length l∧l.length ≤ c∧c ≤ maxLen∧Dealt w w' H N
theorem set2_1 {W:World} {g:Nat} {t:TypeId} {a b z:Value} (h:W.heap[g]? = some (.cells #[a,b] t (0,0))):(W.setCell ⟨g,1,none⟩ z).heap[g]? = some (.cells #[a,z] t (0,0)):=by
 simp [World.setCell,Array.getElem?_modify,h]
set_option maxRecDepth 100000 in
set_option maxHeartbeats 2000000 in
theorem registerOf_any (H N o:Nat) (w:World) (h:Hd w H N) (hN:N ≤ 4611686018427380000) (ho:o ≤ 5) :
 Calls Tryz.prog 70 #[.pointer (some ⟨H,0,none⟩),.int .i64 o] w (RegOut w H (N + 100) o):=by
 have hH:=h.lt
 go_enter Tryz.func70,Tryz.ntmps70
 go_wp2_with fail
 have hD0:=((Dealt.refl h).alloc (Obj.cells #[Value.int .i64 0,.slice none 0 0] 24)).alloc (Obj.cells #[Value.int .i64 1,.int .i64 1,.int .i64 2] 3)
 have br0:((w.alloc (Obj.cells #[Value.int .i64 0,.slice none 0 0] 24)).alloc (Obj.cells #[Value.int .i64 1,.int .i64 1,.int .i64 2] 3)).heap[w.heap.size]? = some (Obj.cells #[Value.int .i64 0,.slice none 0 0] 24 (0,0)):=hblk_alloc (alloc_at rfl) _
 have hi0:=ints3 (w.alloc (Obj.cells #[Value.int .i64 0,.slice none 0 0] 24)) 3 1 1 2
 rw [World.size_alloc] at hi0
 refine (of_any H N 0 (some ⟨w.heap.size + 1,0,none⟩) 3 3 [1,1,2] _ hD0.hd (by omega) hi0 (fun b off e => by cases e;omega) (by omega)).mono ?_
 rintro e w1 ⟨t,rfl,ht,hd1⟩
 have hD1:=hD0.trans hd1
 have br1:=hd1.blk br0 (by omega)
 have ht':0 ≤ t∧t ≤ 2:=by
  simp only [List.mem_cons,List.not_mem_nil,or_false] at ht
  omega
 clear hd1 hD0 br0 ht hi0 h
 go_wp2_with fail
 refine (upto_any H (N + 1) o _ (hD1.alloc _).hd (by omega) (by omega)).mono ?_
 rintro e w2 ⟨n0,rfl,hn0,hd2⟩
 have hD2:=(hD1.alloc (Obj.cells #[Value.int .i64 t,.slice none 0 0] 24)).trans hd2
 have br2:=hd2.blk (hblk_alloc br1 (Obj.cells #[Value.int .i64 t,.slice none 0 0] 24)) (by omega)
 have bq2:=hd2.blk (alloc_at rfl:(w1.alloc (Obj.cells #[Value.int .i64 t,.slice none 0 0] 24)).heap[w1.heap.size]? = some _) (by have:=heap_lt br1;omega)
 have hz1:w.heap.size < w1.heap.size:=heap_lt br1
 have hz2:w1.heap.size < w2.heap.size:=heap_lt bq2
 have hn5:n0 ≤ o:=by omega
 clear hd2 hD1 br1 hn0
 go_wp2_with fail
 go_loopg [6] n0 (fun g i wr => i = .int .i64 g∧g ≤ n0∧∃ v l,wr.heap[w1.heap.size]? = some (Obj.cells #[Value.int .i64 t,v] 24 (0,0))∧wr.heap[w.heap.size]? = some (Obj.cells #[Value.int .i64 0,.slice none 0 0] 24 (0,0)) ∧
  OwnM wr (w1.heap.size + 1) v l∧(∀ m ∈ l,mkOk m = true)∧l.Nodup∧l.length + g ≤ n0∧Dealt w wr H (N + 2 + 16 * (n0 - g)))
 case atStart => exact ⟨rfl,Nat.le_refl _,_,[],bq2,br2,Own.nil_,(fun m hm => nomatch hm),List.nodup_nil,Nat.le_of_eq (Nat.zero_add _),hD2.mono (by omega)⟩
 case round =>
  obtain ⟨rfl,hgn,v,l,bq,br,hown,hok,hnd,hlen,hD⟩:=hrel
  have HL:=Lib.hid (And.intro hok hnd)
  clear hok hnd
  by_cases hg:0 < gk
  ·obtain ⟨A,c,rfl,hsl,hlc,hcm⟩:=hown.form lenMk
   have hg':(0:Int) < (gk:Int):=by omega
   go_wp2_with fail
   refine (markOf_any H _ _ hD.hd (by omega)).mono ?_
   rintro e w3 ⟨m,rfl,hm,hd3⟩
   unfold vMk
   go_upto_region 6 with (fail)
   obtain ⟨W3,hW⟩:∃ W3,W3 = w3.alloc (Obj.cells #[Value.int .i64 m.n,.int .i64 m.b,.int .i64 m.p] 117):=⟨_,rfl⟩
   have hD3:Dealt w W3 H (N + 2 + 16 * (n0 - gk) + 16):=by rw [hW];exact (hD.trans hd3).alloc _
   have bq3:W3.heap[w1.heap.size]? = some (Obj.cells #[Value.int .i64 t,.slice A l.length c] 24 (0,0)):=by rw [hW];exact hblk_alloc (hd3.blk bq (by omega)) _
   have br3:W3.heap[w.heap.size]? = some (Obj.cells #[Value.int .i64 0,.slice none 0 0] 24 (0,0)):=by rw [hW];exact hblk_alloc (hd3.blk br (by omega)) _
   have hown3:OwnM W3 (w1.heap.size + 1) (.slice A l.length c) l:=by rw [hW];exact (hown.kept hd3.gr (.inr (fun e => by have:=hown.lt _ e;omega))).alloc _
   have bm3:W3.heap[w3.heap.size]? = some (Obj.cells #[Value.int .i64 m.n,.int .i64 m.b,.int .i64 m.p] 117 (0,0)):=by rw [hW];exact alloc_at rfl
   have hsz:w1.heap.size < w3.heap.size:=Nat.lt_of_lt_of_le (heap_lt bq) hd3.size
   rw [← hW]
   clear hW hd3 bq br hown hsl hlc hD
   obtain ⟨r0,r1⟩:=blk2 bq3
   obtain ⟨m0,m1,m2⟩:=blk3 bm3
   go_wp2_with fail
   obtain ⟨hs3,hc3,hm3⟩:=hown3.sl lenMk
   refine (owner_kit t A l.length c l m _ hs3 (by omega)).mono ?_
   rintro e w4 ⟨oo,rfl,hoo,hb4⟩
   have hD4:=hD3.less hb4 (Nat.le_refl _)
   have bq4:=bheap bq3 hb4 (Nat.le_refl _)
   have br4:=bheap br3 hb4 (Nat.le_refl _)
   have bm4:=bheap bm3 hb4 (Nat.le_refl _)
   have hown4:=hown3.below hb4 (Nat.le_refl _)
   have hz4:=hb4.size
   have hzm:=heap_lt bm3
   clear hD3 bq3 br3 bm3 hown3 hs3 r0 r1 m0 m1 m2 hb4
   obtain ⟨r0,r1⟩:=blk2 bq4
   obtain ⟨m0,m1,m2⟩:=blk3 bm4
   have f1:=frz bq4 1
   by_cases hin:m ∈ l
   ·have ho1:¬ oo < 0:=by simpa [hin] using hoo
    have ho2:0 ≤ oo:=by omega
    clear hoo
    go_wp2
    go_roundg (gk - 1)
    case measure => omega
    case rel =>
     refine ⟨by congr 1;omega,by omega,_,l,bq4,br4,hown4,HL.out.1,HL.out.2,by omega,hD4.mono (by omega)⟩
   ·have ho1:oo < 0:=by simpa [hin] using hoo
    have HO:=Lib.hid (And.intro hown4 (And.intro hD4 (And.intro bq4 br4)))
    have HIN:=Lib.hid hin
    clear hoo hown4 hD4 bq4 br4 hin
    have hll:l.length < 4294967296:=by omega
    go_wp2_with (at_builtin;refine wp_appx okMark rfl (.tmp 27) (.tmp 29) rfl (w1.heap.size + 1) (Value.slice A l.length c) l m _ rfl rfl rfl rfl (one_eMk _) HO.out.1 hll ?_ ?_ ?_;(omega);(omega);intro g5 c5 w5 hown5 hgr5 hb5;have bq5:=(hgr5.block _ (heap_lt HO.out.2.2.1) (fun e => by have:=HO.out.1.lt _ e.symm;omega)).trans HO.out.2.2.1;have q5:=(blk2 bq5).2;have f5:=frz bq5 1;have H5:=Lib.hid (And.intro hown5 (And.intro hgr5 (And.intro hb5 bq5)));clear hown5 hgr5 hb5 bq5)
    obtain ⟨hown5,hgr5,hb5,bq5⟩:=H5.out
    obtain ⟨hown4,hD4,bq4,br4⟩:=HO.out
    go_roundg (gk - 1)
    case measure => omega
    case rel =>
     have hfar:∀ j,j ≠ w1.heap.size→(w5.setCell ⟨w1.heap.size,1,none⟩ (.slice (some ⟨g5,0,none⟩) (l.length + 1) c5)).heap[j]? = w5.heap[j]?:=fun j hj => Below.heap_setCell _ ⟨w1.heap.size,1,none⟩ _ _ hj
     have hrs:w5.heap[w.heap.size]? = some (Obj.cells #[Value.int .i64 0,.slice none 0 0] 24 (0,0)):=(hgr5.block _ (heap_lt br4) (fun e => by have:=hown4.lt _ e.symm;omega)).trans br4
     have hD5:Dealt w w5 H (N + 2 + 16 * (n0 - gk) + 16):=by
      refine ⟨hD4.hd.kept fun j hj => hgr5.block j (Nat.lt_of_le_of_lt hj hD4.hd.lt) (fun e => by have:=hown4.lt _ e.symm;omega),⟨hgr5.os.trans hD4.gr.os,hgr5.tape.trans hD4.gr.tape,hgr5.output.trans hD4.gr.output,Nat.le_trans hD4.gr.size hgr5.size,fun j hj hne => ?_⟩⟩
      exact (hgr5.block j (Nat.lt_of_lt_of_le hj hD4.gr.size) (fun e => by have:=hown4.lt _ e.symm;omega)).trans (hD4.gr.block j hj hne)
     refine ⟨by congr 1;omega,by omega,_,l ++ [m],set2_1 bq5,(hfar _ (by omega)).trans hrs,hown5.upon (fun j hj => hfar j (by omega)),?_,?_,by simp;omega,(hD5.mono (by omega)).set (by dsimp;omega) (by dsimp;omega) _⟩
     ·intro x hx
      rcases List.mem_append.1 hx with h | h
      ·exact HL.out.1 x h
      ·rw [List.mem_singleton.1 h];exact hm
     ·rw [List.nodup_append]
      refine ⟨HL.out.2,by simp,fun a ha b hb => ?_⟩
      rw [List.mem_singleton.1 hb]
      intro e
      exact HIN.out (e ▸ ha)
  ·obtain rfl:gk = 0:=by omega
   have fr0:=frz br 0
   have fr1:=frz br 1
   obtain ⟨A,c,rfl,hsl,hlc,hcm⟩:=hown.form lenMk
   obtain ⟨q0,q1⟩:=blk2 bq
   obtain ⟨r0,r1⟩:=blk2 br
   have HO:=Lib.hid (And.intro hown (And.intro hsl (And.intro hlc (And.intro hcm hD))))
   clear hown hsl hlc hcm hD
   go_wp2
   refine bodyPost_ret (v:=.agg #[.int .i64 t,.slice A l.length c]) (by simp [results,Tryz.f70,go_sem,q0,q1,r0,r1]) rfl ?_
   obtain ⟨hown,hsl,hlc,hcm,hD⟩:=HO.out
   have hfar:∀ j,j ≠ w.heap.size→((wr.setCell ⟨w.heap.size,0,none⟩ (.int .i64 t)).setCell ⟨w.heap.size,1,none⟩ (.slice A l.length c)).heap[j]? = wr.heap[j]?:=fun j hj => (Below.heap_setCell _ ⟨w.heap.size,1,none⟩ _ _ hj).trans (Below.heap_setCell _ ⟨w.heap.size,0,none⟩ _ _ hj)
   have hown':=hown.upon (w':=(wr.setCell ⟨w.heap.size,0,none⟩ (.int .i64 t)).setCell ⟨w.heap.size,1,none⟩ (.slice A l.length c)) (fun j hj => hfar j (by omega))
   refine ⟨t,l,A,c,rfl,check_zero ht' (by omega) HL.out.1 HL.out.2,by omega,hown'.mono (by omega),(hown'.sl lenMk).1,hlc,hcm,?_⟩
   exact ((hD.mono (by omega)).set (by dsimp;omega) (by dsimp;omega) _).set (by dsimp;omega) (by dsimp;omega) _
end Go.Proofs.YtmennjmjakdkcaaGreat
namespace Go.Proofs.YtmennjmjakdkcaaGreat
open Go.RowKit
set_option linter.unusedVariables false
set_option linter.unusedSimpArgs false
theorem Dealt.cell {w w':World} {H N:Nat} (h:Dealt w w' H N) {b o:Nat} {v:Value} (hc:w.cell? ⟨b,o,none⟩ = some v) (hne:b ≠ H):w'.cell? ⟨b,o,none⟩ = some v:=h.gr.cell hc (fun e => hne (by simpa using e))
theorem Dealt.undrew {w w':World} {H N:Nat} (h:Dealt w.drew w' H N):Dealt w w' H N:=⟨h.hd,⟨h.gr.os,h.gr.tape,h.gr.output,h.gr.size,h.gr.block⟩⟩
end Go.Proofs.YtmennjmjakdkcaaGreat
namespace Go.Proofs.YtmennjmjakdkcaaGreat
open Go.RowKit
set_option linter.unusedVariables false
set_option linter.unusedSimpArgs false
structure Rg where
 t:Int
 A:Option Addr
 n:Nat
 c:Nat
 l:List Mk
def eRg (g:Rg):List Value:=[.int .i64 g.t,.slice g.A g.n g.c]
structure RgOk (w:World) (g:Rg):Prop where
 m:Marks w g.A g.n g.l
 nc:g.n ≤ g.c
 cm:g.c ≤ maxLen
 z:g.A = none→g.c = 0
 s:g.n ≤ 4294967295
theorem RgOk.below {w w':World} {g:Rg} (h:RgOk w g) {B:Nat} (hb:Below B w w') (hB:w.heap.size ≤ B):RgOk w' g:=⟨h.m.below hb hB,h.nc,h.cm,h.z,h.s⟩
theorem Regs.get {w:World} {A:Option Addr} {n:Nat} {l:List Rg} (h:Sl eRg 2 w A n l) {k:Nat} (hk:k < n) :
 ∃ b off g,A = some ⟨b,off,none⟩∧b < w.heap.size∧l[k]? = some g∧w.cell? ⟨b,off + k * 2,none⟩ = some (.int .i64 g.t)∧w.cell? ⟨b,off + k * 2 + 1,none⟩ = some (.slice g.A g.n g.c):=by
 obtain ⟨b,off,x,hA,hx,hc⟩:=h.at_ hk
 have h0:=hc 0 _ rfl
 exact ⟨b,off,x,hA,cell_lt h0,hx,h0,hc 1 _ rfl⟩
theorem Hd.drew {w:World} {H N:Nat} (h:Hd w H N):Hd w.drew H N:=h
theorem hb_drew {w:World} {b:Nat} {o:Obj} (h:w.heap[b]? = some o):w.drew.heap[b]? = some o:=h
theorem gb_cell {w w':World} {H b o:Nat} {v:Value} (hg:w.grownBy w' (some H)) (hne:b ≠ H) (hc:w.cell? ⟨b,o,none⟩ = some v):w'.cell? ⟨b,o,none⟩ = some v:=hg.cell hc (fun e => hne (by simpa using e))
theorem gb_blk {w w':World} {H b:Nat} {o:Obj} (hg:w.grownBy w' (some H)) (hne:b ≠ H) (hc:w.heap[b]? = some o):w'.heap[b]? = some o :=
 (hg.block b (heap_lt hc) (fun e => hne (by cases e;rfl))).trans hc
theorem Sl.gb {α:Type} {enc:α→List Value} {sz:Nat} {w w':World} {A:Option Addr} {n:Nat} {l:List α} {H:Nat} (h:Sl enc sz w A n l) (hg:w.grownBy w' (some H)) (hne:OffH A H):Sl enc sz w' A n l :=
 ⟨h.1,fun hn => by
  obtain ⟨b,off,hA,hc⟩:=h.2 hn
  exact ⟨b,off,hA,fun i x hx j u hu => gb_cell hg (hne b off hA) (hc i x hx j u hu)⟩⟩
theorem flat_get {α:Type} {enc:α→List Value} {sz:Nat} (henc:∀ x,(enc x).length = sz):∀ (l:List α) (i j:Nat) (x:α) (u:Value),l[i]? = some x→(enc x)[j]? = some u→(l.flatMap enc)[i * sz + j]? = some u
 | [],i,j,x,u,hx,hu => by simp at hx
 | y :: r,i,j,x,u,hx,hu => by
   have hj:j < sz:=by have:=henc x;have:=(List.getElem?_eq_some_iff.1 hu).1;omega
   rw [List.flatMap_cons]
   cases i with
   | zero =>
     simp at hx
     subst hx
     rw [List.getElem?_append_left (by rw [henc];omega)]
     simpa using hu
   | succ i =>
     rw [List.getElem?_append_right (by rw [henc,Nat.succ_mul];omega),henc]
     have:=flat_get henc r i j x u (by simpa using hx) hu
     rw [show (i + 1) * sz + j - sz = i * sz + j by rw [Nat.succ_mul];omega]
     exact this
theorem Sl.of_blk {α:Type} {enc:α→List Value} {sz:Nat} {w:World} {b:Nat} {cs:Array Value} {t:TypeId} {l:List α} (h:w.heap[b]? = some (.cells cs t (0,0))) (hcs:cs.toList = l.flatMap enc) (henc:∀ x,(enc x).length = sz):Sl enc sz w (some ⟨b,0,none⟩) l.length l:=by
 refine ⟨rfl,fun _ => ⟨b,0,rfl,?_⟩⟩
 intro i x hx j u hu
 have hc:w.cell? ⟨b,0 + i * sz + j,none⟩ = cs[0 + i * sz + j]?:=by unfold World.cell?;simp [h]
 rw [hc,← Array.getElem?_toList,hcs,Nat.zero_add]
 exact flat_get henc l i j x u hx hu
end Go.Proofs.YtmennjmjakdkcaaGreat
namespace Go.Proofs.YtmennjmjakdkcaaGreat
open Go.RowKit
set_option linter.unusedVariables false
set_option linter.unusedSimpArgs false
def TH (H:Nat) (n:Nat) (w w':World):Prop:=w.grownBy w' (some H)∧∀ N,Hd w H N→Hd w' H (N + 300 * n)
theorem TH.tr {H:Nat}:∀ n a b c,TH H n a b→TH H 1 b c→TH H (n + 1) a c:=fun n a b c h k =>
 ⟨h.1.trans k.1,fun N hN => by have:=k.2 _ (h.2 N hN);rw [show N + 300 * (n + 1) = N + 300 * n + 300 * 1 by omega];exact this⟩
theorem TH.draw {H:Nat} (w:World):TH H 0 w { w with drawn:=w.drawn + 1 }:=⟨⟨rfl,rfl,rfl,Nat.le_refl _,fun _ _ _ => rfl⟩,fun N h => h⟩
theorem TH.rf {H:Nat}:∀ w,TH H 1 w w:=fun w => ⟨World.grownBy.refl _ _,fun N h => h.mono (by omega)⟩
theorem TH.al {H:Nat} (w:World) (o:Obj):TH H 1 w (w.alloc o):=⟨World.grownBy_alloc _ _ _,fun N h => (h.alloc o).mono (by omega)⟩
theorem Hd.least {w:World} {H N:Nat} (h:Hd w H N):∃ N0,N0 ≤ N∧Hd w H N0∧∀ M,Hd w H M→N0 ≤ M:=by
 obtain ⟨A,n,c,next,state,h1,h2,h3,h4,h5⟩:=h
 refine ⟨next.toNat,by omega,⟨A,n,c,next,state,h1,h2,h3,by omega,h5⟩,fun M hM => ?_⟩
 obtain ⟨A',n',c',next',state',k1,k2,k3,k4,k5⟩:=hM
 rw [h1] at k1
 cases k1
 omega
theorem TH.of {w w':World} {H N k:Nat} (hmin:∀ M,Hd w H M→N ≤ M) (h:Dealt w w' H (N + k)) (hk:k ≤ 300):TH H 1 w w' :=
 ⟨h.gr,fun M hM => h.hd.mono (by have:=hmin M hM;omega)⟩
theorem TH.blk {w w':World} {H n b:Nat} {o:Obj} (h:TH H n w w') (hne:b ≠ H) (hb:w.heap[b]? = some o):w'.heap[b]? = some o:=gb_blk h.1 hne hb
theorem TH.hd {w w':World} {H n N M:Nat} (h:TH H n w w') (hd:Hd w H N) (hn:N + 300 * n ≤ M):Hd w' H M:=(h.2 N hd).mono hn
def SlF (H:Nat) (e:TypeId) (n:Nat) (S:Array Value→Prop):VF:=fun v w => ∃ b cs,v = .slice (some ⟨b,0,none⟩) n n∧b ≠ H∧w.heap[b]? = some (.cells cs e (0,0))∧S cs
theorem SlF.st {H:Nat} {e:TypeId} {n:Nat} {S:Array Value→Prop}:∀ m v w w',TH H m w w'→SlF H e n S v w→SlF H e n S v w':=fun m v w w' h ⟨b,cs,h1,h2,h3,h4⟩ => ⟨b,cs,h1,h2,h.blk h2 h3,h4⟩
theorem SlF.new {H:Nat} {e:TypeId} {n:Nat} {S:Array Value→Prop} {w:World} {cs:Array Value} (hH:H < w.heap.size) (hS:S cs) :
 TH H 1 w (w.alloc (.cells cs e))∧SlF H e n S (.slice (some ⟨w.heap.size,0,none⟩) n n) (w.alloc (.cells cs e)) :=
 ⟨TH.al _ _,w.heap.size,cs,rfl,by omega,heap_alloc_new w _,hS⟩
def EqF (c:Value):VF:=fun v _ => v = c
theorem EqF.st {T:Nat→World→World→Prop} {c:Value}:∀ (m:Nat) v w w',T m w w'→EqF c v w→EqF c v w':=fun _ _ _ _ _ h => h
def NatF:VF:=fun v _ => ∃ k:Nat,v = .int .i64 k
def NatLe (m:Int):VF:=fun v _ => ∃ k:Nat,v = .int .i64 k∧((k:Int) ≤ m ∨ k = 0)
def SgF:VF:=fun v _ => ∃ S:Sg,v = vSg S
theorem NatF.st {T:Nat→World→World→Prop}:∀ (m:Nat) v w w',T m w w'→NatF v w→NatF v w':=fun _ _ _ _ _ h => h
theorem NatLe.st {T:Nat→World→World→Prop} {M:Int}:∀ (m:Nat) v w w',T m w w'→NatLe M v w→NatLe M v w':=fun _ _ _ _ _ h => h
theorem SgF.st {T:Nat→World→World→Prop}:∀ (m:Nat) v w w',T m w w'→SgF v w→SgF v w':=fun _ _ _ _ _ h => h
theorem Hd.bb {w w':World} {H N B:Nat} (h:Hd w H N) (hb:Below B w w') (hB:H < B):Hd w' H N:=h.below hb hB
def TB (n:Nat) (w w':World):Prop:=Below w.heap.size w w'
theorem TB.tr:∀ n a b c,TB n a b→TB 1 b c→TB (n + 1) a c:=fun n a b c h k => Below.trans h (k.mono h.size)
theorem TB.draw (w:World):TB 0 w { w with drawn:=w.drawn + 1 }:=bdraw (Below.refl _ _)
theorem TB.rf:∀ w,TB 1 w w:=fun w => Below.refl _ _
def TZ (B:Nat) (z t:Obj) (n:Nat) (w w':World):Prop :=
 w'.os = w.os∧w'.tape = w.tape∧w'.output = w.output∧w.heap.size ≤ w'.heap.size∧∀ (k:Nat) o,w.heap[k]? = some o→w'.heap[k]? = some o ∨ (B ≤ k∧o = z∧w'.heap[k]? = some t)
theorem TZ.tr {B:Nat} {z t:Obj}:∀ n a b c,TZ B z t n a b→TZ B z t 1 b c→TZ B z t (n + 1) a c:=fun n a b c h k => by
 obtain ⟨h1,h2,h3,h4,h5⟩:=h
 obtain ⟨k1,k2,k3,k4,k5⟩:=k
 refine ⟨k1.trans h1,k2.trans h2,k3.trans h3,Nat.le_trans h4 k4,fun j o ho => ?_⟩
 rcases h5 j o ho with h | ⟨hB,hz,h⟩
 ·exact k5 j o h
 ·rcases k5 j t h with h' | ⟨_,_,h'⟩
  ·exact .inr ⟨hB,hz,h'⟩
  ·exact .inr ⟨hB,hz,h'⟩
theorem TZ.draw {B:Nat} {z t:Obj} (w:World):TZ B z t 0 w { w with drawn:=w.drawn + 1 }:=⟨rfl,rfl,rfl,Nat.le_refl _,fun _ _ h => .inl h⟩
theorem TZ.rf {B:Nat} {z t:Obj}:∀ w,TZ B z t 1 w w:=fun w => ⟨rfl,rfl,rfl,Nat.le_refl _,fun _ _ h => .inl h⟩
theorem TZ.of {B:Nat} {z t:Obj} {n:Nat} {w w':World} (h:Below w.heap.size w w'):TZ B z t n w w':=⟨h.os,h.tape,h.output,h.size,fun k o ho => .inl ((h.block k (heap_lt ho)).trans ho)⟩
theorem TZ.below {B:Nat} {z t:Obj} {n:Nat} {w w':World} (h:TZ B z t n w w') (hB:B ≤ w.heap.size):Below B w w':=by
 obtain ⟨h1,h2,h3,h4,h5⟩:=h
 refine ⟨h1,h2,h3,h4,fun k hk => ?_⟩
 have ho:w.heap[k]? = some (w.heap[k]'(by omega)):=Array.getElem?_eq_getElem (by omega)
 rcases h5 k _ ho with h | ⟨h,_⟩
 ·rw [h,ho]
 ·omega
def PtZ (B:Nat) (z t:Obj):VF:=fun v w => ∃ k,v = .pointer (some ⟨k,0,none⟩)∧B ≤ k∧(w.heap[k]? = some z ∨ w.heap[k]? = some t)
def PtT (B:Nat) (t:Obj):VF:=fun v w => ∃ k,v = .pointer (some ⟨k,0,none⟩)∧B ≤ k∧w.heap[k]? = some t
theorem PtZ.st {B:Nat} {z t:Obj}:∀ n v w w',TZ B z t n w w'→PtZ B z t v w→PtZ B z t v w':=fun n v w w' h ⟨k,hv,hk,ho⟩ => by
 refine ⟨k,hv,hk,?_⟩
 rcases ho with ho | ho
 ·rcases h.2.2.2.2 k z ho with h' | ⟨_,_,h'⟩
  ·exact .inl h'
  ·exact .inr h'
 ·rcases h.2.2.2.2 k t ho with h' | ⟨_,_,h'⟩
  ·exact .inr h'
  ·exact .inr h'
theorem PtT.st {B:Nat} {z t:Obj}:∀ n v w w',TZ B z t n w w'→PtT B t v w→PtT B t v w':=fun n v w w' h ⟨k,hv,hk,ho⟩ => by
 refine ⟨k,hv,hk,?_⟩
 rcases h.2.2.2.2 k t ho with h' | ⟨_,_,h'⟩
 ·exact h'
 ·exact h'
theorem PtZ.new {B:Nat} {z t:Obj} (w:World) (hB:B ≤ w.heap.size):TZ B z t 1 w (w.alloc z)∧PtZ B z t (.pointer (some ⟨w.heap.size,0,none⟩)) (w.alloc z) :=
 ⟨TZ.of (bal0 w z),w.heap.size,rfl,hB,.inl (heap_alloc_new w z)⟩
theorem PtZ.put {B k:Nat} {z t:Obj} {w w':World} (hk:B ≤ k) (ho:w.heap[k]? = some z ∨ w.heap[k]? = some t) (h1:w'.os = w.os∧w'.tape = w.tape∧w'.output = w.output) (h2:w'.heap.size = w.heap.size) (h3:∀ j,j ≠ k→w'.heap[j]? = w.heap[j]?) (h4:w'.heap[k]? = some t) :
 TZ B z t 1 w w'∧PtT B t (.pointer (some ⟨k,0,none⟩)) w':=by
 refine ⟨⟨h1.1,h1.2.1,h1.2.2,by omega,fun j o hj => ?_⟩,k,rfl,hk,h4⟩
 by_cases hjk:j = k
 ·subst hjk
  rcases ho with ho | ho
  ·rw [ho] at hj;cases hj;exact .inr ⟨hk,rfl,h4⟩
  ·rw [ho] at hj;cases hj;exact .inl h4
 ·exact .inl ((h3 j hjk).trans hj)
theorem set_blk {w:World} {k i:Nat} {t:TypeId} {cs:Array Value} {x:Nat × Nat} {v:Value} (h:w.heap[k]? = some (.cells cs t x)):(w.setCell ⟨k,i,none⟩ v).heap[k]? = some (.cells (cs.setIfInBounds i v) t x):=by
 simp [World.setCell,Array.getElem?_modify,h]
def Out (w w':World):Prop:=w'.os = w.os∧w'.tape = w.tape∧w'.output = w.output
theorem Out.set {w w':World} (h:Out w w') (a:Addr) (v:Value):Out w (w'.setCell a v):=⟨h.1,h.2.1,h.2.2⟩
theorem Out.rf (w:World):Out w w:=⟨rfl,rfl,rfl⟩
end Go.Proofs.YtmennjmjakdkcaaGreat
namespace Go.Proofs.YtmennjmjakdkcaaGreat
open Go.RowKit Go.MapKept
set_option linter.unusedVariables false
set_option linter.unusedSimpArgs false
def hcs (h:List Int):Array Value:=(h.map (Value.int .i64)).toArray
theorem hv_cs (h:List Int):hv h = .agg (hcs h):=rfl
abbrev hObj (h:List Int):Obj:=.cells (hcs h) 133 (0,0)
theorem hcs_size (h:List Int):(hcs h).size = h.length:=by simp [hcs]
theorem hcs_at {h:List Int} {i:Nat} (hi:i < h.length):(hcs h)[i]? = some (.int .i64 (h.getD i 0)):=by
 unfold hcs
 rw [List.getElem?_toArray,List.getElem?_map,List.getElem?_eq_getElem hi,List.getD_eq_getElem?_getD,List.getElem?_eq_getElem hi]
 rfl
theorem hcs_one (h:List Int):(hcs h).all (·.oneCell') = true:=by
 rw [Array.all_eq_true_iff_forall_mem]
 intro x hx
 unfold hcs at hx
 simp at hx
 obtain ⟨a,_,rfl⟩:=hx
 rfl
theorem info_hds:(Tryz.prog.info? 133).map (·.size) = some 15:=by kernel_rfl
theorem blkH {w:World} {b:Nat} {h:List Int} (hb:w.heap[b]? = some (hObj h)) {i:Nat} (hi:i < h.length):w.cell? ⟨b,i,none⟩ = some (.int .i64 (h.getD i 0)):=by
 rw [cell_of_row w b i (hcs h) _ _ hb];exact hcs_at hi
theorem split15 {y:List Int} (hl:y.length = 15):∃ a0 a1 a2 a3 a4 a5 a6 a7 a8 a9 a10 a11 a12 a13 a14:Int,#[Value.int .i64 a0,Value.int .i64 a1,Value.int .i64 a2,Value.int .i64 a3,Value.int .i64 a4,Value.int .i64 a5,Value.int .i64 a6,Value.int .i64 a7,Value.int .i64 a8,Value.int .i64 a9,Value.int .i64 a10,Value.int .i64 a11,Value.int .i64 a12,Value.int .i64 a13,Value.int .i64 a14] = hcs y∧∀ (w:World) (b:Nat),w.heap[b]? = some (hObj y)→w.cell? ⟨b,0,none⟩ = some (.int .i64 a0)∧w.cell? ⟨b,1,none⟩ = some (.int .i64 a1)∧w.cell? ⟨b,2,none⟩ = some (.int .i64 a2)∧w.cell? ⟨b,3,none⟩ = some (.int .i64 a3)∧w.cell? ⟨b,4,none⟩ = some (.int .i64 a4)∧w.cell? ⟨b,5,none⟩ = some (.int .i64 a5)∧w.cell? ⟨b,6,none⟩ = some (.int .i64 a6)∧w.cell? ⟨b,7,none⟩ = some (.int .i64 a7)∧w.cell? ⟨b,8,none⟩ = some (.int .i64 a8)∧w.cell? ⟨b,9,none⟩ = some (.int .i64 a9)∧w.cell? ⟨b,10,none⟩ = some (.int .i64 a10)∧w.cell? ⟨b,11,none⟩ = some (.int .i64 a11)∧w.cell? ⟨b,12,none⟩ = some (.int .i64 a12)∧w.cell? ⟨b,13,none⟩ = some (.int .i64 a13)∧w.cell? ⟨b,14,none⟩ = some (.int .i64 a14):=by
 obtain ⟨a,b,c,d,e,f,g,i,j,k,m,n,o,p,q,rfl⟩:=list15' hl
 refine ⟨a,b,c,d,e,f,g,i,j,k,m,n,o,p,q,rfl,fun w b hb => ⟨blkH hb (by simp),blkH hb (by simp),blkH hb (by simp),blkH hb (by simp),blkH hb (by simp),blkH hb (by simp),blkH hb (by simp),blkH hb (by simp),blkH hb (by simp),blkH hb (by simp),blkH hb (by simp),blkH hb (by simp),blkH hb (by simp),blkH hb (by simp),blkH hb (by simp)⟩⟩
def setsL (b:Nat):Nat→List Value→World→World
 | _,[],w => w
 | i,v :: l,w => setsL b (i + 1) l (w.setCell ⟨b,i,none⟩ v)
def setsA:Nat→List Value→Array Value→Array Value
 | _,[],cs => cs
 | i,v :: l,cs => setsA (i + 1) l (cs.setIfInBounds i v)
theorem setsL_heap {b:Nat} {t:TypeId} {x:Nat × Nat}:∀ (l:List Value) (i:Nat) (w:World) (cs:Array Value),w.heap[b]? = some (.cells cs t x)→(setsL b i l w).heap[b]? = some (.cells (setsA i l cs) t x)
 | [],_,_,_,h => h
 | v :: l,i,w,cs,h => setsL_heap l (i + 1) _ _ (set_blk h)
theorem setsL_below {B b:Nat} {w:World} (hb:B ≤ b):∀ (l:List Value) (i:Nat) (w':World),Below B w w'→Below B w (setsL b i l w')
 | [],_,_,h => h
 | v :: l,i,w',h => setsL_below hb l (i + 1) _ (h.setCell (p:=⟨b,i,none⟩) hb _)
def setsLL:Nat→List Value→List Value→List Value
 | _,[],cs => cs
 | i,v :: l,cs => setsLL (i + 1) l (cs.set i v)
theorem setsA_list:∀ (l:List Value) (i:Nat) (cs:Array Value),(setsA i l cs).toList = setsLL i l cs.toList
 | [],_,_ => rfl
 | v :: l,i,cs => by unfold setsA setsLL;rw [setsA_list l,Array.toList_setIfInBounds]
theorem setsA15 (a0 a1 a2 a3 a4 a5 a6 a7 a8 a9 a10 a11 a12 a13 a14:Int) {x:List Int} (hx:x.length = 15):setsA 0 [Value.int .i64 a0,Value.int .i64 a1,Value.int .i64 a2,Value.int .i64 a3,Value.int .i64 a4,Value.int .i64 a5,Value.int .i64 a6,Value.int .i64 a7,Value.int .i64 a8,Value.int .i64 a9,Value.int .i64 a10,Value.int .i64 a11,Value.int .i64 a12,Value.int .i64 a13,Value.int .i64 a14] (hcs x) = #[Value.int .i64 a0,Value.int .i64 a1,Value.int .i64 a2,Value.int .i64 a3,Value.int .i64 a4,Value.int .i64 a5,Value.int .i64 a6,Value.int .i64 a7,Value.int .i64 a8,Value.int .i64 a9,Value.int .i64 a10,Value.int .i64 a11,Value.int .i64 a12,Value.int .i64 a13,Value.int .i64 a14]:=by
 obtain ⟨a,b',c,d,e,f,g,i,j,k,m,n,o,p,q,rfl⟩:=list15' hx
 apply Array.ext'
 rw [setsA_list]
 rfl
theorem zero15_sets {w:World} {b:Nat} (a0 a1 a2 a3 a4 a5 a6 a7 a8 a9 a10 a11 a12 a13 a14:Int) {y:List Int} (hy:#[Value.int .i64 a0,Value.int .i64 a1,Value.int .i64 a2,Value.int .i64 a3,Value.int .i64 a4,Value.int .i64 a5,Value.int .i64 a6,Value.int .i64 a7,Value.int .i64 a8,Value.int .i64 a9,Value.int .i64 a10,Value.int .i64 a11,Value.int .i64 a12,Value.int .i64 a13,Value.int .i64 a14] = hcs y) (hb:w.heap[b]? = some (hObj (List.replicate 15 0))):(setsL b 0 [Value.int .i64 a0,Value.int .i64 a1,Value.int .i64 a2,Value.int .i64 a3,Value.int .i64 a4,Value.int .i64 a5,Value.int .i64 a6,Value.int .i64 a7,Value.int .i64 a8,Value.int .i64 a9,Value.int .i64 a10,Value.int .i64 a11,Value.int .i64 a12,Value.int .i64 a13,Value.int .i64 a14] w).heap[b]? = some (hObj y):=by
 have h:=setsL_heap [Value.int .i64 a0,Value.int .i64 a1,Value.int .i64 a2,Value.int .i64 a3,Value.int .i64 a4,Value.int .i64 a5,Value.int .i64 a6,Value.int .i64 a7,Value.int .i64 a8,Value.int .i64 a9,Value.int .i64 a10,Value.int .i64 a11,Value.int .i64 a12,Value.int .i64 a13,Value.int .i64 a14] 0 w _ hb
 have e:setsA 0 [Value.int .i64 a0,Value.int .i64 a1,Value.int .i64 a2,Value.int .i64 a3,Value.int .i64 a4,Value.int .i64 a5,Value.int .i64 a6,Value.int .i64 a7,Value.int .i64 a8,Value.int .i64 a9,Value.int .i64 a10,Value.int .i64 a11,Value.int .i64 a12,Value.int .i64 a13,Value.int .i64 a14] (hcs (List.replicate 15 0)) = hcs y:=(setsA15 a0 a1 a2 a3 a4 a5 a6 a7 a8 a9 a10 a11 a12 a13 a14 (x:=List.replicate 15 0) List.length_replicate).trans hy
 rw [e] at h
 exact h
set_option maxRecDepth 100000 in
set_option maxHeartbeats 2000000 in
theorem moved_any (h:List Int) (f o:Nat) (k:Int) (w:World) (hl:h.length = 15) (hf:f < 3) (ho:o < 5) (hg:-1000000 ≤ hget h f o∧hget h f o ≤ 1000000) (hk:-1000000 ≤ k∧k ≤ 1000000) :
 Calls Tryz.prog 150 #[hv h,.int .i64 f,.int .i64 o,.int .i64 k] w fun e w' => e = .returned (.tuple #[hv (hadd h f o k),.bool (decide (0 ≤ hget h f o + k))])∧Below w.heap.size w w':=by
 rw [hv_cs]
 go_enter Tryz.func150,Tryz.ntmps150
 go_upto_region 1 with (fail)
 obtain ⟨W,hW⟩:∃ W,W = (w.alloc (Obj.cells (hcs h) 133)).alloc (Obj.cells #[.int .i64 0,.int .i64 0,.int .i64 0,.int .i64 0,.int .i64 0,.int .i64 0,.int .i64 0,.int .i64 0,.int .i64 0,.int .i64 0,.int .i64 0,.int .i64 0,.int .i64 0,.int .i64 0,.int .i64 0] 133):=⟨_,rfl⟩
 have b0:W.heap[w.heap.size]? = some (hObj h):=by rw [hW];exact hblk_alloc (alloc_at rfl) _
 have b1:W.heap[w.heap.size + 1]? = some (hObj (List.replicate 15 0)):=by rw [hW];exact alloc_at (by simp)
 have hBW:Below w.heap.size w W:=by rw [hW];exact bal (bal0 w _) (Nat.le_refl _) _
 rw [← hW]
 clear hW
 obtain ⟨r,hr⟩:∃ r,r = w.heap.size:=⟨_,rfl⟩
 have HR:=Lib.hid (And.intro hr hBW)
 rw [← hr] at b0 b1 ⊢
 clear hr hBW
 obtain ⟨x,hx⟩:∃ x,x = hget h f o:=⟨_,rfl⟩
 rw [← hx] at hg
 have c0:W.cell? ⟨r,f * 5 + o,none⟩ = some (.int .i64 x):=by rw [hx,Nat.mul_comm f 5];exact blkH b0 (by omega)
 have HX:=Lib.hid hx
 clear hx
 have i0:(0:Int) ≤ (f:Int):=by omega
 have i1:(f:Int) < 3:=by omega
 have i2:(0:Int) ≤ (o:Int):=by omega
 have i3:(o:Int) < 5:=by omega
 have fz:=fun i => frz b0 i
 go_region
 obtain ⟨W1,hW1⟩:∃ W1,W1 = (W.setCell ⟨r,f * 5 + o,none⟩ (.int .i64 (x + k))).drew:=⟨_,rfl⟩
 have d0:W1.heap[r]? = some (hObj (hadd h f o k)):=by
  rw [hW1]
  have h1:=set_blk (i:=f * 5 + o) (v:=.int .i64 (x + k)) b0
  have e:(hcs h).setIfInBounds (f * 5 + o) (.int .i64 (x + k)) = hcs (hadd h f o k):=by
   unfold hcs hadd
   rw [List.map_set,HX.out,Nat.mul_comm f 5]
   simp
  rw [e] at h1
  exact h1
 have d1:W1.heap[r + 1]? = some (hObj (List.replicate 15 0)):=by rw [hW1];exact (Below.heap_setCell _ ⟨r,_,none⟩ _ _ (by dsimp;omega)).trans b1
 have hBW1:Below r w W1:=by rw [hW1];exact bdraw (Below.setCell (by rw [HR.out.1];exact HR.out.2) (p:=⟨r,f * 5 + o,none⟩) (Nat.le_refl _) _)
 have HB1:=Lib.hid hBW1
 rw [← hW1]
 clear hW1 hBW1 b0 b1 c0 fz
 have hl1:(hadd h f o k).length = 15:=by unfold hadd;rw [List.length_set];exact hl
 obtain ⟨y,hy⟩:∃ y,y = hadd h f o k:=⟨_,rfl⟩
 have HY:=Lib.hid hy
 rw [← hy] at d0 hl1
 have c1:W1.cell? ⟨r,f * 5 + o,none⟩ = some (.int .i64 (x + k)):=by
  have e:y.getD (5 * f + o) 0 = x + k:=by rw [hy,HX.out];exact (hget_hadd hl hf ho ho).trans (if_pos ⟨rfl,rfl⟩)
  rw [← e,Nat.mul_comm f 5]
  exact blkH d0 (by omega)
 clear hy
 obtain ⟨a0,a1,a2,a3,a4,a5,a6,a7,a8,a9,a10,a11,a12,a13,a14,hc15,hcell⟩:=split15 hl1
 have HCE:=Lib.hid (And.intro hc15 hcell)
 obtain ⟨y0,y1,y2,y3,y4,y5,y6,y7,y8,y9,y10,y11,y12,y13,y14⟩:=hcell _ _ d0
 clear hcell hc15
 have d1n:∀ n,(W1.drewN n).heap[r + 1]? = some (hObj (List.replicate 15 0)):=fun n => d1
 go_upto_region 2 with (fail)
 have fz:=fun i => frz d1 i
 have hsz:=heap_lt d1
 have z:∀ i,i < 15→W1.cell? ⟨r + 1,i,none⟩ = some (.int .i64 0):=fun i hi => by
  rw [blkH d1 (by simpa using hi),List.getD_eq_getElem?_getD,List.getElem?_replicate,if_pos hi];rfl
 obtain ⟨z0,z1,z2,z3,z4⟩:=And.intro (z 0 (by decide)) (And.intro (z 1 (by decide)) (And.intro (z 2 (by decide)) (And.intro (z 3 (by decide)) (z 4 (by decide)))))
 obtain ⟨z5,z6,z7,z8,z9⟩:=And.intro (z 5 (by decide)) (And.intro (z 6 (by decide)) (And.intro (z 7 (by decide)) (And.intro (z 8 (by decide)) (z 9 (by decide)))))
 obtain ⟨z10,z11,z12,z13,z14⟩:=And.intro (z 10 (by decide)) (And.intro (z 11 (by decide)) (And.intro (z 12 (by decide)) (And.intro (z 13 (by decide)) (z 14 (by decide)))))
 clear z
 go_region
 have hz9:=zero15_sets a0 a1 a2 a3 a4 a5 a6 a7 a8 a9 a10 a11 a12 a13 a14 HCE.out.1 d1
 have hb9:=bdraw (setsL_below (show r ≤ r + 1 by omega) [Value.int .i64 a0,Value.int .i64 a1,Value.int .i64 a2,Value.int .i64 a3,Value.int .i64 a4,Value.int .i64 a5,Value.int .i64 a6,Value.int .i64 a7,Value.int .i64 a8,Value.int .i64 a9,Value.int .i64 a10,Value.int .i64 a11,Value.int .i64 a12,Value.int .i64 a13,Value.int .i64 a14] 0 _ HB1.out)
 clear y0 z0 y1 z1 y2 z2 y3 z3 y4 z4 y5 z5 y6 z6 y7 z7 y8 z8 y9 z9 y10 z10 y11 z11 y12 z12 y13 z13 y14 z14 fz d0 d1 d1n c1
 have HBZ:=Lib.hid (And.intro hz9 hb9)
 obtain ⟨Z,hZ⟩:∃ Z,Z = (setsL (r + 1) 0 [Value.int .i64 a0,Value.int .i64 a1,Value.int .i64 a2,Value.int .i64 a3,Value.int .i64 a4,Value.int .i64 a5,Value.int .i64 a6,Value.int .i64 a7,Value.int .i64 a8,Value.int .i64 a9,Value.int .i64 a10,Value.int .i64 a11,Value.int .i64 a12,Value.int .i64 a13,Value.int .i64 a14] W1).drew:=⟨_,rfl⟩
 have HZ:=Lib.hid hZ
 simp only [setsL,Nat.reduceAdd] at hZ
 rw [← hZ]
 clear hZ hz9 hb9
 have e1:Z.heap[r + 1]? = some (hObj y):=by rw [HZ.out];exact hb_drew HBZ.out.1
 have HBY:=Lib.hid (show Below r w Z by rw [HZ.out];exact HBZ.out.2)
 clear HZ HBZ
 go_wp2
 have hc15:=HCE.out.1
 obtain ⟨y0,y1,y2,y3,y4,y5,y6,y7,y8,y9,y10,y11,y12,y13,y14⟩:=HCE.out.2 _ _ e1
 refine bodyPost_ret (v:=.tuple #[.agg (hcs y),.bool (decide (0 ≤ x + k))]) (by simp [results,Tryz.f150,go_sem,← hc15,y0,y1,y2,y3,y4,y5,y6,y7,y8,y9,y10,y11,y12,y13,y14]) rfl ?_
 exact ⟨by rw [HY.out,hv_cs,HX.out],by rw [← HR.out.1];exact HBY.out⟩
end Go.Proofs.YtmennjmjakdkcaaGreat
