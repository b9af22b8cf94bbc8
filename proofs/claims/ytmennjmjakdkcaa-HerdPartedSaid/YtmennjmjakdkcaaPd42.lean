/- HerdParted 42: Book9, ShwA. -/
import Derived.Test.YtmennjmjakdkcaaPd27
import Derived.Test.YtmennjmjakdkcaaPd41
import Derived.Test.YtmennjmjakdkcaaPd07
import Derived.Test.YtmennjmjakdkcaaPd39
import Derived.Test.YtmennjmjakdkcaaPd40
import Derived.Test.YtmennjmjakdkcaaPd08
import Derived.Test.YtmennjmjakdkcaaPd09
import Derived.Test.YtmennjmjakdkcaaPd14
import Derived.Test.YtmennjmjakdkcaaPd28
import Derived.Deep.RegionHeld3
namespace Go.Proofs.Ytmennjmjakdkcaa
open Go.RowKit
set_option linter.unusedVariables false
set_option linter.unusedSimpArgs false
theorem half9_any (w : World) : Calls Try.prog 72 #[] w fun e w' => e = .returned (vSg ⟨3,false,false,0,-1⟩) ∧ Below w.heap.size w w':=by
 go_enter Try.func72,Try.ntmps72
 go_wp2
 exact bodyPost_ret (v:=vSg ⟨3,false,false,0,-1⟩) (by simp [results,Try.f72,go_sem,vSg]) rfl ⟨rfl,bal0 w _⟩
theorem span9_any (x y : Int) (w : World) : Calls Try.prog 29 #[.int .i64 x,.int .i64 y] w fun e w' => e = .returned (.agg #[.int .i64 x,.int .i64 y]) ∧ Below w.heap.size w w':=by
 go_enter Try.func29,Try.ntmps29
 go_wp2
 exact bodyPost_ret (v:=.agg #[.int .i64 x,.int .i64 y]) (by simp [results,Try.f29,go_sem]) rfl ⟨rfl,bal0 w _⟩
abbrev bkM : List Mk:=[⟨1,0,0⟩,⟨3,0,1⟩,⟨16,3,0⟩]
abbrev bkHs : List (List Int):=[[5,2,0],[0,2,1]]
abbrev bkDs : List De:=[⟨1,0,0,0,0,2,0,⟨0,false,false,0,0⟩⟩,⟨5,0,0,0,1,0,0,⟨3,false,false,0,-1⟩⟩,⟨4,1,0,0,0,1,0,⟨0,false,false,0,0⟩⟩,⟨6,1,0,0,0,3,0,⟨0,false,false,0,0⟩⟩]
def HB9 (r : Nat) (w : World) : Prop:=∃ t vm vk vh vd,w.heap[r]? = some (boxO t vm vk vh vd)
def TB9 (r : Nat) (G : World → Prop) (n : Nat) (w w' : World) : Prop:=w.grownBy w' (some r) ∧ (HB9 r w → HB9 r w') ∧ (G w → G w')
theorem TB9.tr {r : Nat} {G : World → Prop} : ∀ n a b c,TB9 r G n a b → TB9 r G 1 b c → TB9 r G (n + 1) a c:=fun n a b c h k => ⟨h.1.trans k.1,fun g => k.2.1 (h.2.1 g),fun g => k.2.2 (h.2.2 g)⟩
def G9 (r : Nat) (ms : List Mk) (hs : List (List Int)) (ds : List De) (w : World) : Prop:=∃ vm vk vh vd,w.heap[r]? = some (boxO 1 vm vk vh vd) ∧ OwnM w (r + 1) vm ms ∧ OwnI w (r + 1) vk [0,1] ∧ OwnG w (r + 1) vh hs ∧ OwnD w (r + 1) vd ds
section
variable {r : Nat} {ms : List Mk} {hs : List (List Int)} {ds : List De}
theorem TB9.gr {n : Nat} {w w' : World} (hg : w.grownBy w' (some r)) (hr : w'.heap[r]? = w.heap[r]?) : TB9 r (G9 r ms hs ds) n w w' :=
 ⟨hg,fun ⟨t,vm,vk,vh,vd,h⟩ => ⟨t,vm,vk,vh,vd,hr.trans h⟩,fun ⟨vm,vk,vh,vd,h1,h2,h3,h4,h5⟩ => ⟨vm,vk,vh,vd,hr.trans h1,h2.keptH hg (by omega),h3.keptH hg (by omega),h4.keptH hg (by omega),h5.keptH hg (by omega)⟩⟩
theorem TB9.rf : ∀ w,TB9 r (G9 r ms hs ds) 1 w w:=fun w => .gr (World.grownBy.refl _ _) rfl
theorem TB9.draw (w : World) : TB9 r (G9 r ms hs ds) 0 w { w with drawn:=w.drawn + 1 }:=.gr (grownBy_drew w 1 _) rfl
theorem TB9.bel {w w' : World} (hb : Below w.heap.size w w') (hr : r < w.heap.size) : TB9 r (G9 r ms hs ds) 1 w w':=.gr ⟨hb.os,hb.tape,hb.output,hb.size,fun k hk _ => hb.block k hk⟩ (hb.block r hr)
theorem TB9.sz {n : Nat} {w w' : World} (h : TB9 r (G9 r ms hs ds) n w w') (hr : r < w.heap.size) : r < w'.heap.size:=Nat.lt_of_lt_of_le hr h.1.size
def OF {α : Type} (enc : α → List Value) (e : TypeId) (sz base n : Nat) (l : List α) : VF:=fun v w => ∃ k,v = .slice (some ⟨k,0,none⟩) n n ∧ Own enc e sz w base (.slice (some ⟨k,0,none⟩) n n) l
def OFG (base n : Nat) (l : List (List Int)) : VF:=fun v w => ∃ k,v = .slice (some ⟨k,0,none⟩) n n ∧ OwnG w base (.slice (some ⟨k,0,none⟩) n n) l
theorem OF.st {α : Type} {enc : α → List Value} {e : TypeId} {sz n : Nat} {l : List α} : ∀ m v w w',TB9 r (G9 r ms hs ds) m w w' → OF enc e sz (r + 1) n l v w → OF enc e sz (r + 1) n l v w':=fun m v w w' h ⟨k,h1,h2⟩ => ⟨k,h1,h2.keptH h.1 (by omega)⟩
theorem OFG.st {n : Nat} {l : List (List Int)} : ∀ m v w w',TB9 r (G9 r ms hs ds) m w w' → OFG (r + 1) n l v w → OFG (r + 1) n l v w':=fun m v w w' h ⟨k,h1,h2⟩ => ⟨k,h1,h2.keptH h.1 (by omega)⟩
theorem OF.new {α : Type} {enc : α → List Value} {e : TypeId} {sz : Nat} {w : World} (cs : Array Value) (l : List α) (hcs : cs.toList = l.flatMap enc) (henc : ∀ x,(enc x).length = sz) (hr : r < w.heap.size) (hm : l.length ≤ maxLen) :
 TB9 r (G9 r ms hs ds) 1 w (w.alloc (.cells cs e)) ∧ OF enc e sz (r + 1) l.length l (.slice (some ⟨w.heap.size,0,none⟩) l.length l.length) (w.alloc (.cells cs e)) :=
 ⟨.bel (bal0 w _) hr,_,rfl,Own.lit w (r + 1) cs l hcs henc hr hm⟩
def F9 (r s nm nd : Nat) (hs : List (List Int)) (ds : List De) : VF:=fun v w => ∃ k1 k2 k3,v = .agg #[.int .i64 1,.slice (some ⟨s,0,none⟩) nm nm,.slice (some ⟨k1,0,none⟩) 2 2,.slice (some ⟨k2,0,none⟩) 2 2,.slice (some ⟨k3,0,none⟩) nd nd] ∧
 OwnI w (r + 1) (.slice (some ⟨k1,0,none⟩) 2 2) [0,1] ∧ OwnG w (r + 1) (.slice (some ⟨k2,0,none⟩) 2 2) hs ∧ OwnD w (r + 1) (.slice (some ⟨k3,0,none⟩) nd nd) ds
theorem F9.st {s nm nd : Nat} : ∀ m v w w',TB9 r (G9 r ms hs ds) m w w' → F9 r s nm nd hs ds v w → F9 r s nm nd hs ds v w':=fun m v w w' h ⟨k1,k2,k3,h1,h2,h3,h4⟩ => ⟨k1,k2,k3,h1,h2.keptH h.1 (by omega),h3.keptH h.1 (by omega),h4.keptH h.1 (by omega)⟩
theorem G9.put {s nm nd k1 k2 k3 : Nat} {w : World} (hb : HB9 r w) (hm : OwnM w (r + 1) (.slice (some ⟨s,0,none⟩) nm nm) ms) (h1 : OwnI w (r + 1) (.slice (some ⟨k1,0,none⟩) 2 2) [0,1]) (h2 : OwnG w (r + 1) (.slice (some ⟨k2,0,none⟩) 2 2) hs) (h3 : OwnD w (r + 1) (.slice (some ⟨k3,0,none⟩) nd nd) ds)
 {W : World} (hW : W = (((((w.setCell ⟨r,0,none⟩ (.int .i64 1)).setCell ⟨r,1,none⟩ (.slice (some ⟨s,0,none⟩) nm nm)).setCell ⟨r,2,none⟩ (.slice (some ⟨k1,0,none⟩) 2 2)).setCell ⟨r,3,none⟩ (.slice (some ⟨k2,0,none⟩) 2 2)).setCell ⟨r,4,none⟩ (.slice (some ⟨k3,0,none⟩) nd nd))) :
 TB9 r (G9 r ms hs ds) 1 w W ∧ G9 r ms hs ds W:=by
 obtain ⟨t,vm,vk,vh,vd,hb⟩:=hb
 have hW' : W.heap[r]? = some (boxO 1 (.slice (some ⟨s,0,none⟩) nm nm) (.slice (some ⟨k1,0,none⟩) 2 2) (.slice (some ⟨k2,0,none⟩) 2 2) (.slice (some ⟨k3,0,none⟩) nd nd)):=by rw [hW];exact (set_blk (set_blk (set_blk (set_blk (set_blk hb))))).trans (by simp;rfl)
 have hgr : w.grownBy W (some r):=by rw [hW];exact ((((grownBy_cell _ r _ _).trans (grownBy_cell _ r _ _)).trans (grownBy_cell _ r _ _)).trans (grownBy_cell _ r _ _)).trans (grownBy_cell _ r _ _)
 have hG : G9 r ms hs ds W:=⟨_,_,_,_,hW',hm.keptH hgr (by omega),h1.keptH hgr (by omega),h2.keptH hgr (by omega),h3.keptH hgr (by omega)⟩
 exact ⟨⟨hgr,fun _ => ⟨_,_,_,_,_,hW'⟩,fun _ => hG⟩,hG⟩
end
theorem OwnG.lit2 {w : World} {base : Nat} {u v : Value} {x y : List Int} (hu : OwnI w base u x) (hv : OwnI w base v y) (hb : base ≤ w.heap.size) : OwnG (w.alloc (.cells #[u,v] 22)) base (.slice (some ⟨w.heap.size,0,none⟩) 2 2) [x,y]:=by
 refine ⟨[u,v],Own.lit (enc:=eVal) w base #[u,v] [u,v] rfl lenVal hb (by simp [maxLen]),rfl,fun i v' hv' => ?_⟩
 match i,hv' with
 | 0,hv' => simp at hv';subst hv';exact ⟨x,rfl,hu.alloc _⟩
 | 1,hv' => simp at hv';subst hv';exact ⟨y,rfl,hv.alloc _⟩
 | i + 2,hv' => simp at hv'
def Book9R (w : World) (ms : List Mk) (hs : List (List Int)) (ds : List De) (e : Ending) (w' : World) : Prop :=
 (∃ A c Ak ck Ah ch Ad cd,e = .returned (Hb.v ⟨1,A,c,ms,Ak,ck,[0,1],Ah,ch,hs,Ad,cd,ds⟩) ∧ HbO w' w.heap.size ⟨1,A,c,ms,Ak,ck,[0,1],Ah,ch,hs,Ad,cd,ds⟩) ∧ Below w.heap.size w w'
set_option maxRecDepth 400000 in
set_option maxHeartbeats 4000000 in
theorem book9_any (w : World) : Calls Try.prog 71 #[] w (Book9R w bkM bkHs bkDs):=by
 obtain ⟨r,hr⟩ : ∃ r,r = w.heap.size:=⟨_,rfl⟩
 obtain ⟨V,hV⟩ : ∃ V,V = w.alloc (Obj.cells #[.int .i64 0,.slice none 0 0,.slice none 0 0,.slice none 0 0,.slice none 0 0] 29):=⟨_,rfl⟩
 have bV : V.heap[r]? = some (boxO 0 (.slice none 0 0) (.slice none 0 0) (.slice none 0 0) (.slice none 0 0)):=by rw [hV,hr];exact alloc_at rfl
 have hBV : Below w.heap.size w V:=by rw [hV];exact bal0 w _
 have hzV : V.heap.size = r + 1:=by rw [hV,hr];simp
 have HV:=Lib.hid (And.intro bV (And.intro hBV (And.intro hzV hr)))
 go_enter Try.func71,Try.ntmps71
 go_upto_region 1 with (fail)
 rw [← hV]
 rw [← hr]
 clear hV hr hzV bV hBV
 go_upto_region 2 with (fail)
 obtain ⟨s,hs⟩ : ∃ s,s = V.heap.size:=⟨_,rfl⟩
 obtain ⟨U,hU⟩ : ∃ U,U = (V.alloc (Obj.cells #[Value.int .i64 1,.int .i64 0,.int .i64 0,.int .i64 3,.int .i64 0,.int .i64 1,.int .i64 16,.int .i64 3,.int .i64 0] 62)).alloc (Obj.cells #[Value.int .i64 1,.slice (some ⟨V.heap.size,0,none⟩) 3 3] 25):=⟨_,rfl⟩
 rw [← hU,← hs]
 have hzs : s = r + 1:=hs.trans HV.out.2.2.1
 have hBU : Below V.heap.size V U:=by rw [hU];exact bal (bal0 V _) (Nat.le_refl _) _
 have hmU : OwnM U (r + 1) (.slice (some ⟨s,0,none⟩) 3 3) bkM:=by rw [hU,hs];exact (Own.lit (enc:=eMk) V (r + 1) _ bkM rfl lenMk (by omega) (by simp [maxLen])).alloc _
 have bR : U.heap[s + 1]? = some (Obj.cells #[Value.int .i64 1,.slice (some ⟨s,0,none⟩) 3 3] 25 (0,0)):=by rw [hU,hs];exact alloc_at (by simp)
 have hHB : HB9 r U:=⟨_,_,_,_,_,bheap HV.out.1 hBU (Nat.le_refl _)⟩
 have hrU : r < U.heap.size:=by have:=hBU.size;omega
 have HC : Hid (∀ k w',TB9 r (G9 r bkM bkHs bkDs) k U w' → w'.cell? ⟨s + 1,0,none⟩ = some (.int .i64 1) ∧ w'.cell? ⟨s + 1,1,none⟩ = some (.slice (some ⟨s,0,none⟩) 3 3)) :=
  Lib.hid fun k w' h => blk2 ((h.1.block (s + 1) (heap_lt bR) (fun e => by cases e;omega)).trans bR)
 have HU:=Lib.hid (And.intro hBU (And.intro hmU (And.intro hHB (And.intro hrU hzs))))
 clear hU hs hBU hmU bR hHB hrU hzs
 refine wp_region_inv (TB9 r (G9 r bkM bkHs bkDs)) (by kernel_rfl) (by kernel_rfl) TB9.tr (TB9.draw _) ?_
 apply Exists.intro
 refine ⟨fun ys => ?_,fun ops K hK => ?_⟩
 ·simp only [dstsOf,List.filterMap_cons,List.filterMap_nil,putAll]
  go_simp
  rfl
 repeat
  refine LexI.const TB9.rf ?_
  apply Exists.intro
  refine ⟨fun n' ys w' hn' hT hd => ?_,?_⟩
  ·try simp [DepsOf,depsGo,DF.holds,Region.binds,EqF] at hd
   obtain ⟨y0,y1⟩:=HC.out n' w' hT
   intro Q2 hQ2
   go_wp2_with fail
   rfl
  try simp only [List.nil_append,List.cons_append]
 refine LexI.some (OF eInt 3 1 (r + 1) 2 [0,1]) (OF.st) (fun n' ys w' hn' hT hd => ?_) ?_
 ·try simp [DepsOf,depsGo,DF.holds,Region.binds,EqF] at hd
  try simp only [hd]
  have hl:=hT.sz HU.out.2.2.2.1
  intro Q2 hQ2
  go_wp2_with fail
  exact OF.new _ [0,1] rfl lenInt hl (by simp [maxLen])
 try simp only [List.nil_append,List.cons_append]
 refine LexI.some (OF eInt 3 1 (r + 1) 3 [5,2,0]) (OF.st) (fun n' ys w' hn' hT hd => ?_) ?_
 ·try simp [DepsOf,depsGo,DF.holds,Region.binds,EqF] at hd
  try simp only [hd]
  have hl:=hT.sz HU.out.2.2.2.1
  intro Q2 hQ2
  go_wp2_with fail
  exact OF.new _ [5,2,0] rfl lenInt hl (by simp [maxLen])
 try simp only [List.nil_append,List.cons_append]
 refine LexI.some (OF eInt 3 1 (r + 1) 3 [0,2,1]) (OF.st) (fun n' ys w' hn' hT hd => ?_) ?_
 ·try simp [DepsOf,depsGo,DF.holds,Region.binds,EqF] at hd
  try simp only [hd]
  have hl:=hT.sz HU.out.2.2.2.1
  intro Q2 hQ2
  go_wp2_with fail
  exact OF.new _ [0,2,1] rfl lenInt hl (by simp [maxLen])
 try simp only [List.nil_append,List.cons_append]
 refine LexI.some (OFG (r + 1) 2 bkHs) (OFG.st) (fun n' ys w' hn' hT hd => ?_) ?_
 ·try simp [DepsOf,depsGo,DF.holds,Region.binds,EqF] at hd
  try simp only [hd]
  obtain ⟨⟨k1,e1,o1⟩,k2,e2,o2⟩:=hd
  simp only [e1,e2]
  have hl:=hT.sz HU.out.2.2.2.1
  have HO:=Lib.hid (And.intro o1 o2)
  clear o1 o2
  intro Q2 hQ2
  go_wp2_with fail
  exact ⟨.bel (bal0 w' _) hl,_,rfl,OwnG.lit2 HO.out.1 HO.out.2 hl⟩
 try simp only [List.nil_append,List.cons_append]
 repeat
  refine LexI.const TB9.rf ?_
  apply Exists.intro
  refine ⟨fun n' ys w' hn' hT hd => ?_,?_⟩
  ·try simp [DepsOf,depsGo,DF.holds,Region.binds,EqF] at hd
   obtain ⟨y0,y1⟩:=HC.out n' w' hT
   intro Q2 hQ2
   go_wp2_with fail
   rfl
  try simp only [List.nil_append,List.cons_append]
 refine LexI.some (EqF (.agg #[.int .i64 3,.bool false,.bool false,.int .i64 0,.int .i64 (-1)])) (EqF.st) (fun n' ys w' hn' hT hd => ?_) ?_
 ·try simp [DepsOf,depsGo,DF.holds,Region.binds,EqF] at hd
  try simp only [hd]
  have hl:=hT.sz HU.out.2.2.2.1
  intro Q2 hQ2
  go_wp2_with fail
  refine (half9_any w').mono ?_
  rintro e wU ⟨rfl,hb⟩
  go_wp2
  exact ⟨_,rfl,.bel hb hl,rfl⟩
 try simp only [List.nil_append,List.cons_append]
 refine LexI.const TB9.rf ?_
 refine ⟨.agg #[.int .i64 5,.int .i64 0,.int .i64 0,.int .i64 0,.int .i64 1,.int .i64 0,.int .i64 0,.int .i64 3,.bool false,.bool false,.int .i64 0,.int .i64 (-1)],fun n' ys w' hn' hT hd => ?_,?_⟩
 ·try simp [DepsOf,depsGo,DF.holds,Region.binds,EqF] at hd
  try simp only [hd]
  obtain ⟨y0,y1⟩:=HC.out n' w' hT
  intro Q2 hQ2
  go_wp2_with fail
  try rfl
 try simp only [List.nil_append,List.cons_append]
 repeat
  refine LexI.const TB9.rf ?_
  apply Exists.intro
  refine ⟨fun n' ys w' hn' hT hd => ?_,?_⟩
  ·try simp [DepsOf,depsGo,DF.holds,Region.binds,EqF] at hd
   obtain ⟨y0,y1⟩:=HC.out n' w' hT
   intro Q2 hQ2
   go_wp2_with fail
   rfl
  try simp only [List.nil_append,List.cons_append]
 refine LexI.some (OF eDe 38 12 (r + 1) 4 bkDs) (OF.st) (fun n' ys w' hn' hT hd => ?_) ?_
 ·try simp [DepsOf,depsGo,DF.holds,Region.binds,EqF] at hd
  try simp only [hd]
  have hl:=hT.sz HU.out.2.2.2.1
  intro Q2 hQ2
  go_wp2_with fail
  exact OF.new _ bkDs rfl lenDe hl (by simp [maxLen])
 try simp only [List.nil_append,List.cons_append]
 refine LexI.some (F9 r s 3 4 bkHs bkDs) (F9.st) (fun n' ys w' hn' hT hd => ?_) ?_
 ·try simp [DepsOf,depsGo,DF.holds,Region.binds,EqF] at hd
  try simp only [hd]
  obtain ⟨e7,⟨k1,e1,o1⟩,⟨k2,e2,o2⟩,k3,e3,o3⟩:=hd
  simp only [e7,e1,e2,e3]
  have HO:=Lib.hid (And.intro o1 (And.intro o2 o3))
  clear o1 o2 o3
  intro Q2 hQ2
  go_wp2_with fail
  exact ⟨TB9.rf _,k1,k2,k3,rfl,HO.out.1,HO.out.2.1,HO.out.2.2⟩
 try simp only [List.nil_append,List.cons_append]
 refine LexI.some ((fun _ w => G9 r bkM bkHs bkDs w)) (fun m v w w' h g => h.2.2 g) (fun n' ys w' hn' hT hd => ?_) ?_
 ·try simp [DepsOf,depsGo,DF.holds,Region.binds,EqF] at hd
  try simp only [hd]
  obtain ⟨⟨k1,k2,k3,e18,o1,o2,o3⟩,-⟩:=hd
  simp only [e18]
  have hb:=hT.2.1 HU.out.2.2.1
  have hm:=HU.out.2.1.keptH hT.1 (show r < r + 1 by omega)
  have HO:=Lib.hid (And.intro hb (And.intro hm (And.intro o1 (And.intro o2 o3))))
  obtain ⟨t0,vm0,vk0,vh0,vd0,hb0⟩:=hb
  obtain ⟨z0,z1,z2,z3,z4⟩:=blk5 hb0
  obtain ⟨f0,f1,f2,f3,f4⟩:=And.intro (frz hb0 0) (And.intro (frz hb0 1) (And.intro (frz hb0 2) (And.intro (frz hb0 3) (frz hb0 4))))
  have hlb:=heap_lt hb0
  clear hm o1 o2 o3 hb0
  intro Q2 hQ2
  go_wp2_with fail
  exact ⟨(G9.put HO.out.1 HO.out.2.1 HO.out.2.2.1 HO.out.2.2.2.1 HO.out.2.2.2.2 rfl).1,(G9.put HO.out.1 HO.out.2.1 HO.out.2.2.1 HO.out.2.2.2.1 HO.out.2.2.2.2 rfl).2⟩
 try simp only [List.nil_append,List.cons_append]
 refine hK _ (fun n' ys wc hn' hT hF => ?_)
 simp only [AllF,DF.holds] at hF
 have hG : G9 r bkM bkHs bkDs wc:=by
  obtain ⟨-,-,-,-,-,-,-,-,-,-,-,-,⟨_,h⟩,-⟩:=hF
  exact h
 obtain ⟨vm,vk,vh,vd,hb,h1,h2,h3,h4⟩:=hG
 obtain ⟨A,c,rfl,-⟩:=h1.form lenMk
 obtain ⟨Ak,ck,rfl,-⟩:=h2.form lenInt
 obtain ⟨Ah,ch,rfl,-⟩:=h3.form
 obtain ⟨Ad,cd,rfl,-⟩:=h4.form lenDe
 obtain ⟨p0,p1,p2,p3,p4⟩:=blk5 hb
 have hB : Below w.heap.size w wc:=by
  have h1:=HV.out
  have h2:=HU.out.1
  have h3 : Below r w U:=(h1.2.1.mono (Nat.le_of_eq h1.2.2.2)).trans (h2.mono (by omega))
  rw [← h1.2.2.2]
  exact h3.grown hT.1 (by have:=HU.out.2.2.2.1;omega) (fun k e => by cases e;exact Nat.le_refl _)
 have HF:=Lib.hid (And.intro h1 (And.intro h2 (And.intro h3 (And.intro h4 hB))))
 have hlb:=heap_lt hb
 have hwr:=HV.out.2.2.2
 clear h1 h2 h3 h4 hB hF hT
 go_wp2
 refine bodyPost_ret (v:=Hb.v ⟨1,A,c,bkM,Ak,ck,[0,1],Ah,ch,bkHs,Ad,cd,bkDs⟩) (by simp [results,Try.f71,go_sem,p0,p1,p2,p3,p4]) rfl ⟨⟨A,c,Ak,ck,Ah,ch,Ad,cd,rfl,?_⟩,HF.out.2.2.2.2⟩
 have h:=HF.out
 exact ⟨h.1.mono (by omega),h.2.1.mono (by omega),h.2.2.1.mono (by omega),h.2.2.2.1.mono (by omega)⟩
end Go.Proofs.Ytmennjmjakdkcaa
namespace Go.Proofs.Ytmennjmjakdkcaa
open Go.RowKit
set_option linter.unusedVariables false
set_option linter.unusedSimpArgs false
theorem gcellS {w w' : World} {v u : Value} {b o base : Nat} (hg : w.grownBy w' v.ownBlock) (hc : w.cell? ⟨b,o,none⟩ = some u) (hv : ∀ k,v.ownBlock = some k → base ≤ k) (hb : b < base) : w'.cell? ⟨b,o,none⟩ = some u :=
 hg.cell hc (fun e => by have:=hv b e.symm;omega)
theorem Own.nbS {α : Type} {enc : α → List Value} {e : TypeId} {sz : Nat} {w : World} {base b : Nat} {v : Value} {l : List α} (h : Own enc e sz w base v l) (hb : b < base) : v.ownBlock ≠ some b:=fun k => by
 have:=(h.lt _ k).1;omega
def ShwQ (b : Hb) (row : List Int) (H N : Nat) (w : World) (e : Ending) (w' : World) : Prop:=∃ v ss,e = .returned v ∧ OwnS w' w.heap.size v ss ∧ ShwR b.t b.l row ss ∧ Dealt w w' H (N + 90000)
set_option maxRecDepth 100000 in
set_option maxHeartbeats 4000000 in
theorem shown_any (H N : Nat) (b : Hb) (Ae : Option Addr) (ne ce : Nat) (gs : List (List Int)) (f base : Nat) (w : World) (h : Hd w H N) (hN : N ≤ 4611686018426000000) (hO : HbO w base b) (hE : OwnG w base (.slice Ae ne ce) gs) (hne : gs.length = ne) (hH : H < base) (hbw : base ≤ w.heap.size) (hck : check b.t b.l = 0) (hf : f < ne) (hrow : (gs.getD f []).length = b.l.length) (hbd : ∀ o,0 ≤ (gs.getD f []).getD o 0 ∧ (gs.getD f []).getD o 0 ≤ 140) :
 Calls Try.prog 25 #[.pointer (some ⟨H,0,none⟩),b.v,.slice Ae ne ce,.int .i64 f] w (ShwQ b (gs.getD f []) H N w):=by
 have hi:=hO.inn
 have hn5:=(check_ok hck).2.2.1
 obtain ⟨t0,t1,-,-⟩:=check_ok hck
 obtain ⟨tn,htn⟩:=Int.eq_ofNat_of_zero_le t0
 obtain ⟨row,hrw⟩ : ∃ row,row = gs.getD f []:=⟨_,rfl⟩
 rw [← hrw] at hrow hbd ⊢
 have hgf : gs[f]? = some row:=by rw [hrw,List.getD_eq_getElem?_getD,List.getElem?_eq_getElem (by omega)];rfl
 obtain ⟨nl,hnl⟩ : ∃ nl,nl = b.l.length:=⟨_,rfl⟩
 rw [← hnl] at hrow hn5
 have hmc:=hi.mc
 have hmm:=hi.mm
 rw [← hnl] at hmc
 have HX:=Lib.hid (And.intro h (And.intro hO (And.intro hE (And.intro hck (And.intro hrow (And.intro hbd (And.intro htn (And.intro hgf (And.intro hnl hne)))))))))
 have hHw:=h.lt
 obtain ⟨p,hp⟩ : ∃ p,p = w.heap.size:=⟨_,rfl⟩
 obtain ⟨w1,hw1⟩ : ∃ W,W = w.alloc b.obj:=⟨_,rfl⟩
 have hbp : w1.heap[p]? = some b.obj:=by rw [hw1,hp];exact alloc_at rfl
 have hD1 : Dealt w w1 H N:=by rw [hw1];exact (Dealt.refl h).alloc _
 have hpw : p < w1.heap.size:=heap_lt hbp
 have hpH : p ≠ H:=by omega
 have hww1:=hD1.size
 clear h hO hE hck hrow hbd htn hgf hnl hi t0 hne hrw
 unfold Hb.v
 go_enter Try.func25,Try.ntmps25
 go_upto_region 3 with (fail)
 rw [show w.alloc (Obj.cells #[Value.int .i64 b.t,b.vm,b.vk,b.vh,b.vd] 29) = w1 from hw1.symm,← hp]
 have HP:=Lib.hid (And.intro hbp (And.intro hD1 hp))
 clear hw1 hbp hD1 hp
 go_loopg [9,10] nl (fun g v9 v10 wr => ∃ (o : Nat) (ss : List Sg),o + g = nl ∧ v10 = .int .i64 o ∧ OwnS wr w1.heap.size v9 ss ∧ ShF b.t b.l ss (osL row o) ∧ Dealt w1 wr H (N + 110 * ss.length))
 case atStart => exact ⟨0,[],by omega,rfl,Own.nil_,ShF.nil,Dealt.refl HP.out.2.1.hd⟩
 case round =>
  obtain ⟨o,ss,ho,rfl,hown,hsf,hdr⟩:=hrel
  obtain ⟨go,rfl⟩ : ∃ go : Nat,go = gk:=⟨_,rfl⟩
  have hdw:=HP.out.2.1.trans hdr
  have hEr:=HX.out.2.2.1.keptH hdw.gr hH
  obtain ⟨b1,o1,c0,B1,row',c1,ev,hr',y1,hri,hrc,hrm,-⟩:=hEr.get (k:=f) (by rw [HX.out.2.2.2.2.2.2.2.2.2];exact hf)
  injection ev with e1 e2 e3
  subst e1 e3
  rw [HX.out.2.2.2.2.2.2.2.1] at hr'
  obtain rfl:=Option.some.inj hr'
  rw [HX.out.2.2.2.2.1] at y1 hri hrc
  have i0 : (f : Int) < (ne : Int):=by omega
  by_cases hlo : o < nl
  ·have i1 : (o : Int) < (nl : Int):=by omega
   obtain ⟨y,hy⟩:=Int.eq_ofNat_of_zero_le (HX.out.2.2.2.2.2.1 o).1
   have hy140 : y ≤ 140:=by have:=(HX.out.2.2.2.2.2.1 o).2;omega
   have HO:=Lib.hid (And.intro ho (And.intro hown (And.intro hsf (And.intro hdr hy))))
   clear ho hown hsf hdr hy hdw hEr hri hr' e2
   go_upto_region 6 with (fail)
   clear y1 hrc hrm
   go_loopg [9,11] y (fun g v9 v11 wr => ∃ (k : Nat) (ss : List Sg),k + g = y ∧ v11 = .int .i64 k ∧ OwnS wr w1.heap.size v9 ss ∧ ShF b.t b.l ss (osL row o ++ List.replicate k (o : Int)) ∧ Dealt w1 wr H (N + 110 * ss.length))
   case atStart => exact ⟨0,ss,by omega,rfl,HO.out.2.1,by simpa using HO.out.2.2.1,HO.out.2.2.2.1⟩
   case round =>
    obtain ⟨k,ss,hk,rfl,hown,hsf,hdr⟩:=hrel
    have hdw:=HP.out.2.1.trans hdr
    have hEr:=HX.out.2.2.1.keptH hdw.gr hH
    obtain ⟨b2,o2,c0,B1,row',c1,ev,hr',y1,hri,hrc,hrm,-⟩:=hEr.get (k:=f) (by rw [HX.out.2.2.2.2.2.2.2.2.2];exact hf)
    cases ev
    rw [HX.out.2.2.2.2.2.2.2.1] at hr'
    obtain rfl:=Option.some.inj hr'
    rw [HX.out.2.2.2.2.1] at y1 hri hrc
    obtain ⟨b3,o3,x3,rfl,hb3,hx3,y3⟩:=Ints.get hri hlo
    have hx3y : x3 = (y : Int):=by
     have:=HO.out.2.2.2.2
     rw [List.getD_eq_getElem?_getD,hx3] at this
     exact this
    rw [hx3y] at y3
    have hsl : ss.length ≤ 840:=by
     have h1:=osL_len (row:=row) (k:=o) (B:=140) (fun o => (HX.out.2.2.2.2.2.1 o).2)
     have h2:=hsf.1
     rw [List.length_append,List.length_replicate] at h2
     have : o * 140 ≤ 4 * 140:=Nat.mul_le_mul_right _ (by omega)
     omega
    clear hri hr' hx3 hx3y hEr
    by_cases hlk : k < y
    ·have i2 : (k : Int) < (y : Int):=by omega
     obtain ⟨bm,om,mk,hA1,hbm,hmk,m0,m1,m2⟩:=Marks.get ((HX.out.2.1.m.keptH hdw.gr hH).form lenMk |> fun ⟨A,c,e,hs,_⟩ => by injection e with e _ _;rw [← e] at hs;exact hs) (show o < b.l.length by rw [← HX.out.2.2.2.2.2.2.2.2.1];exact hlo)
     obtain ⟨hmv1,hmv2,hmv3⟩:=check_marks HX.out.2.2.2.1 mk (List.mem_of_getElem? hmk)
     have bpr:=hdr.blk HP.out.1 hpH
     obtain ⟨r0,r1,-,-,-⟩:=blk5c bpr
     rw [hA1,← HX.out.2.2.2.2.2.2.2.2.1] at r1
     rw [HX.out.2.2.2.2.2.2.1] at r0
     have hbmb : base ≤ bm:=by
      have:=HX.out.2.1.m.lt bm (by unfold Hb.vm;rw [hA1];rfl)
      exact this.1
     have hbmw : bm < w1.heap.size:=by
      have:=HX.out.2.1.m.lt bm (by unfold Hb.vm;rw [hA1];rfl)
      have:=HP.out.2.1.size
      omega
     have hbmH : bm ≠ H:=by omega
     have hprw : p < wr.heap.size:=heap_lt bpr
     have hwr1:=hdr.size
     have HK:=Lib.hid (And.intro hk (And.intro hown (And.intro hsf (And.intro hdr (And.intro hmk bpr)))))
     have HV:=Lib.hid (fun k' hk' => (hown.lt k' hk').1)
     have HVH:=Lib.hid (hown.nbS (show H < w1.heap.size by omega))
     clear hk hown hsf hmk bpr hA1 hdw hdr
     have htn2 : (tn : Int) ≤ 2:=by have:=HX.out.2.2.2.2.2.2.1;omega
     go_upto_region 8 with (fail)
     clear y1 y3 hrc hrm hb3
     have r0d : wr.drew.cell? ⟨p,0,none⟩ = some (.int .i64 (tn : Int)):=r0
     have r1d : wr.drew.cell? ⟨p,1,none⟩ = some (.slice (some ⟨bm,om,none⟩) nl b.c):=r1
     have m0d : wr.drew.cell? ⟨bm,om + o * 3,none⟩ = some (.int .i64 mk.n):=m0
     have m1d : wr.drew.cell? ⟨bm,om + o * 3 + 1,none⟩ = some (.int .i64 mk.b):=m1
     have m2d : wr.drew.cell? ⟨bm,om + o * 3 + 2,none⟩ = some (.int .i64 mk.p):=m2
     have hss4 : ss.length < 4294967296:=by omega
     go_region_held3 (fun w' => w'.cell? ⟨p,0,none⟩ = some (.int .i64 (tn : Int)) ∧ w'.cell? ⟨p,1,none⟩ = some (.slice (some ⟨bm,om,none⟩) nl b.c) ∧ w'.cell? ⟨bm,om + o * 3,none⟩ = some (.int .i64 mk.n) ∧ w'.cell? ⟨bm,om + o * 3 + 1,none⟩ = some (.int .i64 mk.b) ∧ w'.cell? ⟨bm,om + o * 3 + 2,none⟩ = some (.int .i64 mk.p))
      ((go_split_ands
        refine ⟨?_,?_,?_,?_,?_⟩
        all_goals first
         | (with_reducible exact r0d)
         | (with_reducible exact r1d)
         | (with_reducible exact m0d)
         | (with_reducible exact m1d)
         | (with_reducible exact m2d)
         | (with_reducible exact q0)
         | (with_reducible exact q1)
         | (with_reducible exact q2)
         | (with_reducible exact q3)
         | (with_reducible exact q4)
         | (with_reducible exact bcell q0 (bal0 _ _) (Nat.le_refl _))
         | (with_reducible exact bcell q1 (bal0 _ _) (Nat.le_refl _))
         | (with_reducible exact bcell q2 (bal0 _ _) (Nat.le_refl _))
         | (with_reducible exact bcell q3 (bal0 _ _) (Nat.le_refl _))
         | (with_reducible exact bcell q4 (bal0 _ _) (Nat.le_refl _))
         | fail))
      (first
        | (go_at_call 54;refine (wearOf_any H (N + 110 * ss.length) tn _ ?_ ?_ ?_).mono ?_;(exact HK.out.2.2.2.1.hd);(omega);(omega);rintro e w5 ⟨s,rfl,hs,hp,hd5⟩;have hdx:=hd5.undrew;have hsv:=(seen_ok hs).1;have q0:=hdx.cell r0 hpH;have q1:=hdx.cell r1 hpH;have q2:=hdx.cell m0 hbmH;have q3:=hdx.cell m1 hbmH;have q4:=hdx.cell m2 hbmH;clear hd5)
        | (go_at_call 53;refine (wornK_any mk s _ ?_ ?_ ?_ ?_).mono ?_;(omega);(omega);(omega);(omega);rintro e w6 ⟨rfl,hb6⟩;have hdx:=hdx.less hb6 (Nat.le_refl _);have q0:=bcell q0 hb6 (Nat.le_refl _);have q1:=bcell q1 hb6 (Nat.le_refl _);have q2:=bcell q2 hb6 (Nat.le_refl _);have q3:=bcell q3 hb6 (Nat.le_refl _);have q4:=bcell q4 hb6 (Nat.le_refl _);obtain ⟨S,hS⟩ : ∃ S,S = wornS mk s:=⟨_,rfl⟩;rw [← hS];have HS:=Lib.hid hS;clear hS;unfold vSg;have hsz6:=hdx.size;clear hb6)
        | (refine step_app okSight (by rfl) _ _ (by rfl) w1.heap.size _ ss S #[.int .i64 S.n,.bool S.l,.bool S.r,.int .i64 S.b,.int .i64 S.p] w6.heap.size (by rfl) (by rfl) (heap_alloc_new w6 _) rfl rfl (one_eSg S) ?_ hss4 (by decide) (by simp;omega) ?_;(exact ((HK.out.2.1.kept hdx.gr (.inr HVH.out)).alloc _));intro g7 cap7 w7 hown7 hgr7 hb7;have q0:=gcellS hgr7 (bcell q0 (bal0 _ _) (Nat.le_refl _)) HV.out hpw;have q1:=gcellS hgr7 (bcell q1 (bal0 _ _) (Nat.le_refl _)) HV.out hpw;have q2:=gcellS hgr7 (bcell q2 (bal0 _ _) (Nat.le_refl _)) HV.out hbmw;have q3:=gcellS hgr7 (bcell q3 (bal0 _ _) (Nat.le_refl _)) HV.out hbmw;have q4:=gcellS hgr7 (bcell q4 (bal0 _ _) (Nat.le_refl _)) HV.out hbmw)
        | fail)
     have hD7:=(HK.out.2.2.2.1.trans (hdx.alloc (Obj.cells #[Value.int .i64 S.n,.bool S.l,.bool S.r,.int .i64 S.b,.int .i64 S.p] 36))).ownG hgr7 (fun k' hk' => by have:=HV.out k' hk';omega)
     have hfit : fits S mk b.t = true:=by rw [HS.out];exact fits_worn hmv1 hsv (by have:=HX.out.2.2.2.2.2.2.1;omega)
     have hsee : seen S 9 6 = 0:=by rw [HS.out];exact seen_worn (by omega)
     have H7:=Lib.hid (And.intro hown7 (And.intro hD7 (And.intro hfit hsee)))
     clear hown7 hD7 hfit hsee q0 q1 q2 q3 q4 hgr7 hb7
     go_wp2_with fail
     go_roundg (gk - 1)
     case measure => have:=HK.out.1;omega
     case rel =>
      refine ⟨k + 1,ss ++ [S],by have:=HK.out.1;omega,by go_num,H7.out.1,?_,?_⟩
      ·rw [List.replicate_succ',← List.append_assoc]
       exact HK.out.2.2.1.snoc HK.out.2.2.2.2.1 H7.out.2.2.1 H7.out.2.2.2
      ·rw [List.length_append,List.length_singleton]
       exact H7.out.2.1.mono (by omega)
    ·obtain rfl : k = y:=by omega
     have HK:=Lib.hid (And.intro hown (And.intro hsf hdr))
     clear hown hsf hdr hdw hk
     go_wp2_with fail
     go_roundg (go - 1)
     case measure => have:=HO.out.1;omega
     case rel =>
      refine ⟨o + 1,ss,by have:=HO.out.1;omega,by go_num,HK.out.1,?_,HK.out.2.2⟩
      rw [osL_succ,HO.out.2.2.2.2,Int.toNat_natCast]
      exact HK.out.2.1
  ·obtain rfl : o = nl:=by omega
   have hsl : ss.length ≤ 700:=by
    have h1:=osL_len (row:=row) (k:=o) (B:=140) (fun o => (HX.out.2.2.2.2.2.1 o).2)
    have h2:=hsf.1
    have : o * 140 ≤ 5 * 140:=Nat.mul_le_mul_right _ (by omega)
    omega
   have hrw3:=row_any H (N + 110 * ss.length) ss.length wr hdr.hd (by omega) (by omega)
   obtain ⟨A9,c9,rfl,hs9,hc9,hm9⟩:=hown.form (fun l => by simp [eSg])
   obtain ⟨w2,hw2⟩ : ∃ W,W = wr:=⟨_,rfl⟩
   rw [← hw2] at hown hdr hrw3 y1 ⊢
   obtain ⟨ns,hns⟩ : ∃ ns,ns = ss.length:=⟨_,rfl⟩
   rw [← hns] at hrw3 hsl hc9 ⊢
   have HO:=Lib.hid (And.intro hown (And.intro hsf (And.intro hdr hns)))
   have hwr1:=hdr.size
   clear hown hsf hdr hns hw2 hs9 hdw hEr hri hr' ho
   go_upto_region 10 with (go_at_call 45;(with_reducible refine hrw3.mono ?_);rintro e w3 ⟨A3,c3,L,rfl,hL,hLp,hd3⟩)
   have hown3:=HO.out.1.kept hd3.gr (.inr (HO.out.1.nbS (show H < w1.heap.size by omega)))
   have hLl : L.length = ns:=by rw [hLp.length_eq,upI_len]
   have hLm:=perm_upI hLp
   have hs3:=hd3.size
   obtain ⟨hsL,c3a,c3b⟩ : Ints w3 A3 ns L ∧ ns ≤ c3 ∧ c3 ≤ maxLen:=by
    obtain ⟨A',c',e',h0,h1,h2⟩:=hL.form lenInt
    injection e' with e1 e2 e3
    subst e1 e3
    rw [hLl] at h0 h1
    exact ⟨h0,h1,h2⟩
   have hs9 : Sights w3 A9 ns ss:=by
    obtain ⟨A',c',e',h0,h1,h2⟩:=hown3.form (fun l => by simp [eSg])
    injection e' with e1 e2 e3
    subst e1
    rw [← HO.out.2.2.2] at h0
    exact h0
   obtain ⟨mn,hmn⟩ : ∃ mn,mn = min ns 7:=⟨_,rfl⟩
   have hmn7 : mn ≤ 7 ∧ mn ≤ ns:=by omega
   have HL:=Lib.hid (And.intro hsL (And.intro hs9 (And.intro hLp (And.intro hLl (And.intro hLm (And.intro hd3 hmn))))))
   clear hL hsL hs9 hLp hLl hLm hd3 hmn hown3 hrw3 y1
   go_upto_region 12 with (fail)
   go_loopg [13,14] mn (fun g v13 v14 wr => ∃ i : Nat,i + g = mn ∧ v14 = .int .i64 i ∧ OwnS wr w3.heap.size v13 ((L.take i).map fun (x : Int) => ss.getD x.toNat ⟨0,false,false,0,0⟩) ∧ Below w3.heap.size w3 wr)
   case atStart => exact ⟨0,by omega,rfl,Own.nil_,Below.refl _ _⟩
   case round =>
    obtain ⟨i,hi,rfl,hown,hb⟩:=hrel
    by_cases hli : i < mn
    ·have hin : i < ns:=by omega
     obtain ⟨b4,o4,x,eA3,hb4,hx,y4⟩:=Ints.get (HL.out.1.below hb (Nat.le_refl _)) hin
     obtain ⟨hx0,hxn⟩:=HL.out.2.2.2.2.1 x (List.mem_of_getElem? hx)
     obtain ⟨xn,rfl⟩:=Int.eq_ofNat_of_zero_le hx0
     have hxl : xn < ns:=by have:=HO.out.2.2.2;omega
     obtain ⟨b5,o5,s,eA9,hb5,hs,s0,s1,s2,s3,s4⟩:=Sights.get (HL.out.2.1.below hb (Nat.le_refl _)) hxl
     subst eA3 eA9
     have i1 : (i : Int) < (ns : Int):=by omega
     have i2 : (i : Int) < 7:=by omega
     have i3 : (xn : Int) < (ns : Int):=by omega
     have hzb:=hb.size
     have hll : ((L.take i).map fun (x : Int) => ss.getD x.toNat ⟨0,false,false,0,0⟩).length < 4294967296:=by rw [List.length_map,List.length_take];omega
     have HI:=Lib.hid (And.intro hi (And.intro hown (And.intro hb (And.intro hx hs))))
     clear hi hown hb hx hs hx0 hxn
     go_wp2_with (at_builtin;refine wp_app okSight rfl (.tmp 64) (.tmp 72) rfl w3.heap.size _ ((L.take i).map fun (x : Int) => ss.getD x.toNat ⟨0,false,false,0,0⟩) s _ rfl rfl rfl rfl (one_eSg _) HI.out.2.1 hll ?_ ?_ ?_;(omega);(omega);intro v5 w5 hown5 hb5 hk5 hz5;have H5:=Lib.hid (And.intro hown5 hb5);clear hown5 hb5 hk5 hz5)
     go_roundg (gk - 1)
     case measure => have:=HI.out.1;omega
     case rel =>
      refine ⟨i + 1,by have:=HI.out.1;omega,by go_num,?_,HI.out.2.2.1.trans H5.out.2⟩
      rw [List.take_add_one,HI.out.2.2.2.1,List.map_append]
      have : ss.getD (xn : Int).toNat ⟨0,false,false,0,0⟩ = s:=by rw [Int.toNat_natCast,List.getD_eq_getElem?_getD,HI.out.2.2.2.2];rfl
      show OwnS _ _ _ (_ ++ [ss.getD (xn : Int).toNat ⟨0,false,false,0,0⟩])
      rw [this]
      exact H5.out.1
    ·obtain rfl : i = mn:=by omega
     have htk : (L.take i).map (fun (x : Int) => ss.getD x.toNat ⟨0,false,false,0,0⟩) = (L.take 7).map fun (x : Int) => ss.getD x.toNat ⟨0,false,false,0,0⟩:=by
      congr 1
      have h1:=HL.out.2.2.2.2.2.2
      have h2:=HL.out.2.2.2.1
      by_cases h7 : ns ≤ 7
      ·rw [List.take_of_length_le (by omega),List.take_of_length_le (by omega)]
      ·rw [show i = 7 by omega]
     rw [htk] at hown
     have HI:=Lib.hid (And.intro hown hb)
     clear hown hb htk hi
     by_cases hin : i < ns
     ·have hi7 : i = 7:=by have:=HL.out.2.2.2.2.2.2;omega
      have i1 : (i : Int) < (ns : Int):=by omega
      have i2 : ¬ (i : Int) < 7:=by omega
      clear hi7
      go_wp2_with fail
      go_ret
      have hfin:=ShwR.mk' (t:=b.t) (l:=b.l) (row:=row) (ss:=ss) (L:=L) (by rw [← HX.out.2.2.2.2.2.2.2.2.1];exact HO.out.2.1) (by rw [← HO.out.2.2.2];exact HL.out.2.2.1)
      exact ⟨_,_,rfl,HI.out.1.mono (Nat.le_trans HP.out.2.1.size (Nat.le_trans hwr1 hs3)),hfin,((HP.out.2.1.trans HO.out.2.2.1).trans (HL.out.2.2.2.2.2.1.less HI.out.2 (Nat.le_refl _))).mono (by have:=HO.out.2.2.2;omega)⟩
     ·have i1 : ¬ (i : Int) < (ns : Int):=by omega
      go_wp2_with fail
      go_ret
      have hfin:=ShwR.mk' (t:=b.t) (l:=b.l) (row:=row) (ss:=ss) (L:=L) (by rw [← HX.out.2.2.2.2.2.2.2.2.1];exact HO.out.2.1) (by rw [← HO.out.2.2.2];exact HL.out.2.2.1)
      exact ⟨_,_,rfl,HI.out.1.mono (Nat.le_trans HP.out.2.1.size (Nat.le_trans hwr1 hs3)),hfin,((HP.out.2.1.trans HO.out.2.2.1).trans (HL.out.2.2.2.2.2.1.less HI.out.2 (Nat.le_refl _))).mono (by have:=HO.out.2.2.2;omega)⟩
end Go.Proofs.Ytmennjmjakdkcaa
