/- HerdHas. -/
import Derived.Test.YtmennjmjakdkcaaGreatHs27
set_option linter.unusedVariables false
set_option linter.unusedSimpArgs false
set_option maxRecDepth 100000
set_option maxHeartbeats 2000000
namespace Go.Proofs.YtmennjmjakdkcaaGreat
open Go.RowKit Go.MapKept
attribute [local go_sem] Oper.semAt_some
theorem k2h {W W':World} (h:Below W.heap.size W W'):KeepsWalks W W':=⟨h.size,fun k o hk _=>(h.block k (j0a hk)).trans hk⟩
theorem k6t {β:Type} {p:Nat} {O:Int→Obj} {w:World} {B:Nat} (hp:p<w.heap.size) (hB:w.heap.size≤B):OwnFrom B (fun(_:β) W=>NowIn p O w W) :=
 fun _ _ _ _ hs hg hr=>hs.grown hp hg fun i e=>Nat.le_trans hB (hr i e).1
theorem k1n {E pre:List (List Int)} {x:List Int} (h:∃ r,(pre++[x]++r).Perm E):x∈E:=by obtain⟨r,hr⟩:=h;exact hr.mem_iff.1 (by simp)
theorem sp_len {E pre:List (List Int)} {x:List Int} (h:∃ r,(pre++[x]++r).Perm E):pre.length+1≤E.length:=by obtain⟨r,hr⟩:=h;have:=hr.length_eq;simp at this;omega
theorem k2e {ps:Array Tmp} {assign body:Code} {Q:Exit→Act→World→Prop} {a:Act} {g:Operand} {w w0 wb:World} {p q:Nat} {b:Hb} {deed owner:Int} (hW:Work w0 p b deed owner w) (hb:NowIn p (b.bk deed owner) wb w) (hpb:p<wb.heap.size)
 (hq:w.heap[q]?=some (Obj.cells #[.pointer (some ⟨p,0,none⟩)] 98 (0,0))) (hg:a.eval g=.func (.func 115) #[] #[.pointer (some ⟨q,0,none⟩)]) (hps:ps.size=1)
 (I:List (List Int)→World→Prop) (Ix:Code→List (List Int)→World→Prop) (hI:OwnFrom w.heap.size I) (hIx:∀ c,OwnFrom w.heap.size (Ix c)) (hIE:∀ s A B,I s A→ExN p A B→I s B) (h0:I [] w)
 (Ax:List Int→Act→World→Prop) (hAx:∀ x a',OwnFrom w.heap.size (fun(_:Unit) W=>Ax x a' W))
 (hassign:∀ (l:Nat) (pre:List (List Int)) (x:List Int) (W:World) (K:Act→World→Prop),NowIn p (b.bk deed owner) wb W→I pre W→(∃ r,(pre++[x]++r).Perm (b.ends deed owner)) →
   (∀ a' W',KeepsFrom w.heap.size W W'→KeepsWalks W W'→NowIn p (b.bk deed owner) wb W'→I pre W'→Ax x a' W'→K a' W') →
   assign.wpIn (Fence.wide.inRound l) 7 Tryz.prog (Exit.then K (fun _ _ _=>False)) { tmps:=(ps.zip #[.agg (hcs x)]).foldl (fun t (p,v)=>t.setIfInBounds p v) a.tmps,defers:=[] } W)
 (hbody:∀ (l:Nat) (pre:List (List Int)) (x:List Int) (a':Act) (W:World),NowIn p (b.bk deed owner) wb W→I pre W→Ax x a' W→(∃ r,(pre++[x]++r).Perm (b.ends deed owner)) →
   body.wpIn (Fence.wide.inRound l) 7 Tryz.prog (k3k w.heap.size (fun s W=>NowIn p (b.bk deed owner) wb W∧I s W) (fun c s W=>NowIn p (b.bk deed owner) wb W∧Ix c s W) (pre++[x]) W) a' W)
 (hdone:∀ (D:Nat) (xs:List (List Int)) (W:World),w.heap.size≤D→xs.Perm (b.ends deed owner)→NowIn p (b.bk deed owner) wb W→I xs W→W.heap[D]?=some (.deferred (some []))→Q .normal { a with defers:={ target:=.collected D,args:=#[] }::a.defers } W)
 (hstop:∀ (D:Nat) (c:Code) (pre:List (List Int)) (W:World),w.heap.size≤D→(∃ r,(pre++r).Perm (b.ends deed owner))→NowIn p (b.bk deed owner) wb W→Ix c pre W→W.heap[D]?=some (.deferred (some []))→c.wp Tryz.prog Q { a with defers:={ target:=.collected D,args:=#[] }::a.defers } W) :
 (Code.rangeFunc g ps assign body).wp Tryz.prog Q a w:=by
 have hpl:=hW.lt
 refine(wpIn_wide (n:=9)).1 ?_
 refine q0m rfl (by omega) (gf:=115) (lb:=#[.pointer (some ⟨q,0,none⟩)]) hg trivial (enters_of Tryz.func115 (by kernel_rfl) rfl)
  (ends_it 8 (by omega) w0 p q b deed owner w hW hq) ExN.others (fun _=>hps.symm)
  (fun s W=>NowIn p (b.bk deed owner) wb W∧I s W) (fun c s W=>NowIn p (b.bk deed owner) wb W∧Ix c s W)
  (OwnFrom.and (k6t hpb hb.size) hI) (fun c=>OwnFrom.and (k6t hpb hb.size) (hIx c)) (fun s A B h hx=>⟨by obtain⟨i,rfl⟩:=hx;exact h.1.set i,hIE s A B h.2 hx⟩)
  ⟨hb,h0⟩ Ax hAx
  (fun l pre x W K hi hsp hK=>hassign l pre x W K hi.1 hi.2 hsp fun a' W' k1 k2 k3 k4 k5=>hK a' W' k1 k2 ⟨k3,k4⟩ k5)
  (fun l pre x a' W hi hax hsp=>hbody l pre x a' W hi.1 hi.2 hax hsp)
  (fun D xs W hD hS hi hd=>hdone D xs W hD hS hi.1 hi.2 hd)
  (fun D c pre W hD hS hi hd=>wpIn_wide.2 (hstop D c pre W hD hS hi.1 hi.2 hd))
theorem NowIn.undo {p:Nat} {O:Int→Obj} {w W:World} {D:Nat} (h:NowIn p O w W) (hp:p<w.heap.size) (hD:w.heap.size≤D) (o:Obj):NowIn p O w (W.putObj D o) :=
 h.grown hp (grownBy_putObj' W D o) (fun i e=>by cases e;exact hD)
theorem j6d (p:Nat) (w:World) :
 Calls Tryz.prog 82 #[.pointer (some ⟨p,0,none⟩)] w fun e w'=>e=.returned (.func (.func 115) #[] #[.pointer (some ⟨w.heap.size,0,none⟩)])∧w'=w.alloc (.cells #[.pointer (some ⟨p,0,none⟩)] 98):=by
 go_enter Tryz.func82,Tryz.ntmps82
 go_wp2
 go_ret
 exact⟨rfl,rfl⟩
theorem many_any (w0:World) (p:Nat) (b:Hb) (deed owner:Int) (w:World) (hW:Work w0 p b deed owner w) :
 Calls Tryz.prog 56 #[.pointer (some ⟨p,0,none⟩)] w fun e w'=>e=.returned (.int .i64 (b.ends deed owner).length)∧NowIn p (b.bk deed owner) w w':=by
 have hpl:=hW.lt
 refine(callsIn_wide (n:=9)).1 ?_
 refine callsIn_of_wp_marks Tryz.func56 rfl trivial ?_ rfl
 simp only[Tryz.ntmps56,List.size_toArray,List.length_cons,List.length_nil,Nat.reduceAdd,Nat.reduceSub,Array.replicate_succ,Array.replicate_zero,List.push_toArray,List.append_toArray,List.nil_append,List.cons_append]
 refine wpIn_wide.2 ?_
 go_wp2_with (go_at_call 82;refine(j6d p _).mono ?_;rintro e w' ⟨rfl,rfl⟩)
 obtain⟨r,hr⟩:∃ r,r=w.heap.size:=⟨_,rfl⟩
 obtain⟨w1,hw1⟩:∃ w1,w1=(w.alloc (Obj.cells #[Value.int .i64 0] 3)).alloc (Obj.cells #[Value.pointer (some ⟨p,0,none⟩)] 98):=⟨_,rfl⟩
 have br:w1.heap[r]?=some (Obj.cells #[Value.int .i64 0] 3 (0,0)):=by rw[hw1,hr];exact j0b (j0c rfl) _
 have bq:w1.heap[r+1]?=some (Obj.cells #[Value.pointer (some ⟨p,0,none⟩)] 98 (0,0)):=by rw[hw1,hr];exact j0c (by simp)
 have hB1:Below w.heap.size w w1:=by rw[hw1];exact bal (bal0 w _) (zL9 _) _
 have hz1:r+1<w1.heap.size:=j0a bq
 have hpr:p<r:=by omega
 have hln:=q3l (deed:=deed) (owner:=owner) hW.ok
 have HW:=zQ9 (zA9 hW hB1)
 rw[←hw1,←hr]
 have HR:=zQ9 hr
 clear hw1 hr hW hB1
 refine k2e (HW.out.1.below HW.out.2 (zL9 _)) (NowIn.of_below HW.out.2 HW.out.1.hp (zL9 _)) hpl bq rfl rfl
  (fun pre W=>W.heap[r]?=some (Obj.cells #[Value.int .i64 (pre.length:Int)] 3 (0,0))) (fun _ _ _=>False)
  (fun s A B row hs hg hr=>j2w hs rfl hg (fun i e=>(hr i e).2)) (fun c s A B row hs hg hr=>hs.elim) (fun s A B hs hx=>by obtain⟨i,rfl⟩:=hx;exact(Below.heap_setCell _ ⟨p,7,none⟩ _ _ (show r≠p by omega)).trans hs) br
  (fun x a' W=>a'={ tmps:=#[.pointer (some ⟨p,0,none⟩),undef,.int .i64 0,.pointer (some ⟨r,0,none⟩),.pointer (some ⟨p,0,none⟩),.func (.func 115) #[] #[.pointer (some ⟨r+1,0,none⟩)],.agg (hcs x),undef,undef,undef],defers:=[] })
  (fun x a' s A B row hs hg hr=>hs) ?assign ?body ?done ?stop
 case assign =>
  intro l pre x W K hN hI hx hK
  gi_wp2
  exact hK _ W (KeepsFrom.refl _ _) (KeepsWalks.refl _) hN hI (by simp)
 case body =>
  rintro l pre x a' W hN hI rfl hx
  have c0:=blk1 hI
  have f0:=frz hI 0
  have hlx:=sp_len hx
  have i0:(0:Int)≤(pre.length:Int):=by omega
  have i1:(pre.length:Int)+1≤9223372036854775807:=by have:(b.ends deed owner).length≤1152921504606846976:=hln;omega
  have HN:=zQ9 (zA9 hN hI)
  clear hN hI hx hlx
  gi_wp2
  have hpp:=j0a HN.out.2
  refine⟨(KeepsOthers.setCell _ _ _).from _,(KeepsOthers.setCell _ _ _).walks,?_,?_⟩
  ·have hrr:=HR.out
   exact HN.out.1.then hpl rfl rfl rfl (by simpa using HN.out.1.size) (fun k hk=>Below.heap_setCell _ ⟨r,0,none⟩ _ _ (show k≠r by omega))
  ·show(W.setCell ⟨r,0,none⟩ _).heap[r]?=_
   rw[j0d HN.out.2]
   simp
 case done =>
  rintro D xs W hD hS hN hI hd
  have c0:=blk1 hI
  have HN:=zQ9 (zA9 hN hS)
  have hxl:=hS.length_eq
  rw[hxl] at c0
  clear hN hS hI hxl
  go_wp2
  refine⟨by simp,.inl ⟨_,_,rfl,run_takeDeferred hd,?_⟩⟩
  refine⟨_,results_tmp rfl _ _ _,rfl,?_⟩
  exact HN.out.1.undo hpl (by have:=HW.out.2.size;omega) _
 case stop=>exact fun D c pre W _ _ _ h=>h.elim
theorem k7a (w0:World) (p:Nat) (b:Hb) (deed owner:Int) (w:World) (hW:Work w0 p b deed owner w) :
 Calls Tryz.prog 81 #[.pointer (some ⟨p,0,none⟩)] w fun e w'=>e=.returned (.bool (!decide (b.ends deed owner=[])))∧NowIn p (b.bk deed owner) w w':=by
 have hpl:=hW.lt
 refine(callsIn_wide (n:=9)).1 ?_
 refine callsIn_of_wp_marks Tryz.func81 rfl trivial ?_ rfl
 simp only[Tryz.ntmps81,List.size_toArray,List.length_cons,List.length_nil,Nat.reduceAdd,Nat.reduceSub,Array.replicate_succ,Array.replicate_zero,List.push_toArray,List.append_toArray,List.nil_append,List.cons_append]
 refine wpIn_wide.2 ?_
 go_wp2_with (go_at_call 82;refine(j6d p _).mono ?_;rintro e w' ⟨rfl,rfl⟩)
 try go_step3
 go_wp2_with (go_at_call 82;refine(j6d p _).mono ?_;rintro e w' ⟨rfl,rfl⟩)
 try go_step3
 go_wp2_with (go_at_call 82;refine(j6d p _).mono ?_;rintro e w' ⟨rfl,rfl⟩)
 obtain⟨r,hr⟩:∃ r,r=w.heap.size:=⟨_,rfl⟩
 obtain⟨w1,hw1⟩:∃ w1,w1=(w.alloc (Obj.cells #[Value.bool false] 4)).alloc (Obj.cells #[Value.pointer (some ⟨p,0,none⟩)] 98):=⟨_,rfl⟩
 have br:w1.heap[r]?=some (Obj.cells #[Value.bool false] 4 (0,0)):=by rw[hw1,hr];exact j0b (j0c rfl) _
 have bq:w1.heap[r+1]?=some (Obj.cells #[Value.pointer (some ⟨p,0,none⟩)] 98 (0,0)):=by rw[hw1,hr];exact j0c (by simp)
 have hB1:Below w.heap.size w w1:=by rw[hw1];exact bal (bal0 w _) (zL9 _) _
 have hz1:r+1<w1.heap.size:=j0a bq
 have hpr:p<r:=by omega
 have HW:=zQ9 (zA9 hW hB1)
 rw[←hw1,←hr]
 have HR:=zQ9 hr
 clear hw1 hr hW hB1
 refine k2e (HW.out.1.below HW.out.2 (zL9 _)) (NowIn.of_below HW.out.2 HW.out.1.hp (zL9 _)) hpl bq rfl rfl
  (fun pre W=>pre=[]∧W.heap[r]?=some (Obj.cells #[Value.bool false] 4 (0,0))) (fun c pre W=>c=.exit 0∧pre≠[]∧W.heap[r]?=some (Obj.cells #[Value.bool true] 4 (0,0)))
  (fun s A B row hs hg hr=>⟨hs.1,j2w hs.2 rfl hg (fun i e=>(hr i e).2)⟩) (fun c s A B row hs hg hr=>⟨hs.1,hs.2.1,j2w hs.2.2 rfl hg (fun i e=>(hr i e).2)⟩) (fun s A B hs hx=>⟨hs.1,by obtain⟨i,rfl⟩:=hx;exact(Below.heap_setCell _ ⟨p,7,none⟩ _ _ (show r≠p by omega)).trans hs.2⟩) ⟨rfl,br⟩
  (fun x a' W=>a'={ tmps:=#[.pointer (some ⟨p,0,none⟩),undef,.bool false,.pointer (some ⟨r,0,none⟩),.pointer (some ⟨p,0,none⟩),.func (.func 115) #[] #[.pointer (some ⟨r+1,0,none⟩)],.agg (hcs x),undef],defers:=[] })
  (fun x a' s A B row hs hg hr=>hs) ?assign ?body ?done ?stop
 case assign =>
  intro l pre x W K hN hI hx hK
  gi_wp2
  exact hK _ W (KeepsFrom.refl _ _) (KeepsWalks.refl _) hN hI (by simp)
 case body =>
  rintro l pre x a' W hN hI rfl hx
  have c0:=blk1 hI.2
  have f0:=frz hI.2 0
  have HN:=zQ9 (zA9 hN hI)
  clear hN hI hx
  gi_wp2
  have hpp:=j0a HN.out.2.2
  refine⟨(KeepsOthers.setCell _ _ _).from _,?_,rfl,by simp,?_⟩
  ·have hrr:=HR.out
   exact HN.out.1.then hpl rfl rfl rfl (by simpa using HN.out.1.size) (fun k hk=>Below.heap_setCell _ ⟨r,0,none⟩ _ _ (show k≠r by omega))
  ·show(W.setCell ⟨r,0,none⟩ _).heap[r]?=_
   rw[j0d HN.out.2.2]
   simp
 case done =>
  rintro D xs W hD hS hN hI hd
  have c0:=blk1 hI.2
  have HN:=zQ9 (zA9 hN (zA9 hS hI.1))
  clear hN hS hI
  go_wp2
  rw[Exit.noGoto_ret]
  refine⟨by simp,.inl ⟨_,_,rfl,run_takeDeferred hd,?_⟩⟩
  refine⟨_,results_tmp rfl _ _ _,?_,?_⟩
  ·have h:=HN.out.2.1
   rw[HN.out.2.2] at h
   rw[h.nil_eq.symm]
   rfl
  ·exact HN.out.1.undo hpl (by have:=HW.out.2.size;omega) _
 case stop =>
  rintro D c pre W hD hS hN ⟨rfl,hne,hI⟩ hd
  have c0:=blk1 hI
  have HN:=zQ9 (zA9 hN (zA9 hS hne))
  clear hN hS hI hne
  go_wp2
  rw[Exit.noGoto_ret]
  refine⟨by simp,.inl ⟨_,_,rfl,run_takeDeferred hd,?_⟩⟩
  refine⟨_,results_tmp rfl _ _ _,?_,?_⟩
  ·obtain⟨r,hr⟩:=HN.out.2.1
   have:b.ends deed owner≠[]:=fun e=>by
    rw[e] at hr
    have:=hr.length_eq
    simp at this
    exact HN.out.2.2 this.1
   rw[decide_eq_false this]
   rfl
  ·exact HN.out.1.undo hpl (by have:=HW.out.2.size;omega) _
attribute [local go_sem] Oper.semAt_some
def j2o (s:Rn) (some:Bool) (n:Int):Rn:=if some then ⟨min s.lo n,max s.hi n⟩ else ⟨n,n⟩
def vSp (s:Rn) (some:Bool):Value:=.agg #[.int .i64 s.lo,.int .i64 s.hi,.bool some]
abbrev spObj (s:Rn) (some:Bool):Obj:=.cells #[.int .i64 s.lo,.int .i64 s.hi,.bool some] 136 (0,0)
theorem k7c (s:Rn) (some:Bool) (n:Int) (w:World) :
 Calls Tryz.prog 85 #[vSp s some,.int .i64 n] w fun e w'=>e=.returned (vSp (j2o s some n) true)∧Below w.heap.size w w':=by
 unfold vSp
 cases some
 ·go_enter Tryz.func85,Tryz.ntmps85
  go_wp2
  obtain⟨W,hW⟩:∃ W,W=(w.alloc (Obj.cells #[Value.int .i64 s.lo,.int .i64 s.hi,.bool false] 136)).alloc (Obj.cells #[Value.int .i64 n,.int .i64 n,.bool true] 136):=⟨_,rfl⟩
  have b4:W.heap[w.heap.size+1]?=some (spObj ⟨n,n⟩ true):=by rw[hW];exact j0c (by simp)
  obtain⟨c0,c1,c2⟩:=blk3 b4
  rw[←hW]
  exact bodyPost_ret (v:=vSp (j2o s false n) true) (by simp[results,Tryz.f85,go_sem,c0,c1,c2,vSp,j2o]) rfl ⟨rfl,by rw[hW];exact bal (bal0 w _) (zL9 _) _⟩
 ·go_enter Tryz.func85,Tryz.ntmps85
  go_wp2
  all_goals
   obtain⟨W,hW⟩:∃ W,W=(w.alloc (Obj.cells #[Value.int .i64 s.lo,.int .i64 s.hi,.bool true] 136)).alloc (Obj.cells #[Value.int .i64 (min s.lo n),.int .i64 (max s.hi n),.bool true] 136):=⟨_,rfl⟩
   have b4:W.heap[w.heap.size+1]?=some (spObj ⟨min s.lo n,max s.hi n⟩ true):=by rw[hW];exact j0c (by simp)
   obtain⟨c0,c1,c2⟩:=blk3 b4
   first
    | rw[←hW]
    | (rw[show min s.lo n=n by omega,show max s.hi n=n by omega] at hW;rw[←hW])
    | (rw[show min s.lo n=n by omega,show max s.hi n=s.hi by omega] at hW;rw[←hW])
    | (rw[show min s.lo n=s.lo by omega,show max s.hi n=n by omega] at hW;rw[←hW])
    | (rw[show min s.lo n=s.lo by omega,show max s.hi n=s.hi by omega] at hW;rw[←hW])
   exact bodyPost_ret (v:=vSp (j2o s true n) true) (by simp[results,Tryz.f85,go_sem,c0,c1,c2,vSp,j2o]) rfl ⟨rfl,by rw[hW];exact bal (bal0 w _) (zL9 _) _⟩
theorem k4x {w:World} {g:Nat} {x:List Int} {cur:Array Value} (hg:w.heap[g]?=some (.cells cur 133 (0,0))) (hc:cur.size=15) (hx:x.length=15) :
 ∃ w2,(storeCells ⟨g,0,none⟩ (hcs x).toList).run Tryz.prog w=.ok () w2∧w2.heap[g]?=some (hObj x)∧w.grownBy w2 (some g)∧w2.heap.size=w.heap.size:=by
 have hs:=j2p x
 have h1:=run_storeCells_from (P:=Tryz.prog) g 133 (hcs x).toList 0 cur w hg (by simp;omega) (fun v hv=>Array.all_eq_true_iff_forall_mem.1 (q0t x) v (by simpa using hv))
 have e:(cur.toList.take 0++(hcs x).toList).toArray=hcs x:=by simp
 rw[e] at h1
 refine⟨_,h1,setRow_heap _ _ _ _ _ _ hg,⟨rfl,rfl,rfl,by simp[World.setRow],fun k hk hne=>?_⟩,by simp[World.setRow]⟩
 unfold World.setRow
 rw[Array.getElem?_modify,if_neg (fun e=>hne (by rw[e]))]
theorem k9f (w0:World) (p:Nat) (b:Hb) (deed owner:Int) (w:World) (hW:Work w0 p b deed owner w) (f:FuncId) (bd:Array Value) (g:List Int→Int)
 (hent:∀ (args:Array Value) (w:World),(callFunc f args).run Tryz.prog w=.ok (.enter f args) w)
 (hof:∀ x∈b.ends deed owner,∀ W,NowIn p (b.bk deed owner) w W→Calls Tryz.prog f (#[.agg (hcs x)]++bd) W fun e W'=>e=.returned (.int .i64 (g x))∧Below W.heap.size W W') :
 Calls Tryz.prog 98 #[.pointer (some ⟨p,0,none⟩),.func (.func f) #[] bd] w fun e w'=>e=.returned (.tuple #[.agg #[.int .i64 (j0o (b.ends deed owner) g).lo,.int .i64 (j0o (b.ends deed owner) g).hi],.bool (!decide (b.ends deed owner=[]))])∧NowIn p (b.bk deed owner) w w':=by
 have hpl:=hW.lt
 refine(callsIn_wide (n:=9)).1 ?_
 refine callsIn_of_wp_marks Tryz.func98 rfl trivial ?_ rfl
 simp only[Tryz.ntmps98,List.size_toArray,List.length_cons,List.length_nil,Nat.reduceAdd,Nat.reduceSub,Array.replicate_succ,Array.replicate_zero,List.push_toArray,List.append_toArray,List.nil_append,List.cons_append]
 refine wpIn_wide.2 ?_
 go_wp2_with (go_at_call 82;refine(j6d p _).mono ?_;rintro e w' ⟨rfl,rfl⟩)
 obtain⟨r,hr⟩:∃ r,r=w.heap.size:=⟨_,rfl⟩
 obtain⟨w1,hw1⟩:∃ w1,w1=(((w.alloc (Obj.cells #[Value.func (.func f) #[] bd] 149)).alloc (Obj.cells #[Value.int .i64 0,.int .i64 0] 72)).alloc (spObj ⟨0,0⟩ false)).alloc (Obj.cells #[Value.pointer (some ⟨p,0,none⟩)] 98):=⟨_,rfl⟩
 have br:w1.heap[r]?=some (Obj.cells #[Value.func (.func f) #[] bd] 149 (0,0)):=by rw[hw1,hr];exact j0b (j0b (j0b (j0c rfl) _) _) _
 have br1:w1.heap[r+1]?=some (Obj.cells #[Value.int .i64 0,.int .i64 0] 72 (0,0)):=by rw[hw1,hr];exact j0b (j0b (j0c (by simp)) _) _
 have br2:w1.heap[r+1+1]?=some (spObj ⟨0,0⟩ false):=by rw[hw1,hr];exact j0b (j0c (by simp)) _
 have bq:w1.heap[r+1+1+1]?=some (Obj.cells #[Value.pointer (some ⟨p,0,none⟩)] 98 (0,0)):=by rw[hw1,hr];exact j0c (by simp)
 have hB1:Below w.heap.size w w1:=by rw[hw1];exact bal (bal (bal (bal0 w _) (zL9 _) _) (zL9 _) _) (zL9 _) _
 have hz1:r+3<w1.heap.size:=j0a bq
 have hpr:p<r:=by omega
 have hxl15:∀ x∈b.ends deed owner,x.length=15:=fun x hx=>(j3w hW.ok.f3 hW.ok.n5 hW.ok.rb hW.ok.dI _ x hx).1
 have HW:=zQ9 (zA9 hW (zA9 hB1 hof))
 rw[←hw1,←hr]
 have HR:=zQ9 hr
 clear hw1 hr hW hB1 hof
 refine k2e (HW.out.1.below HW.out.2.1 (zL9 _)) (NowIn.of_below HW.out.2.1 HW.out.1.hp (zL9 _)) hpl bq rfl rfl
  (fun pre W=>w1.heap.size≤W.heap.size∧W.heap[r]?=some (Obj.cells #[Value.func (.func f) #[] bd] 149 (0,0))∧W.heap[r+1]?=some (Obj.cells #[Value.int .i64 0,.int .i64 0] 72 (0,0))∧W.heap[r+1+1]?=some (spObj (j0o pre g) (!decide (pre=[])))) (fun _ _ _=>False)
  (fun s A B row hs hg hr=>⟨Nat.le_trans hs.1 hg.size,j2w hs.2.1 rfl hg (fun i e=>(hr i e).2),j2w hs.2.2.1 rfl hg (fun i e=>(hr i e).2),j2w hs.2.2.2 rfl hg (fun i e=>(hr i e).2)⟩) (fun c s A B row hs hg hr=>hs.elim)
  (fun s A B hs hx=>by obtain⟨i,rfl⟩:=hx;exact⟨by simpa using hs.1,(Below.heap_setCell _ ⟨p,7,none⟩ _ _ (show r≠p by omega)).trans hs.2.1,(Below.heap_setCell _ ⟨p,7,none⟩ _ _ (show r+1≠p by omega)).trans hs.2.2.1,(Below.heap_setCell _ ⟨p,7,none⟩ _ _ (show r+1+1≠p by omega)).trans hs.2.2.2⟩) ⟨zL9 _,br,br1,br2⟩
  (fun x a' W=>∃ Bx,w1.heap.size≤Bx∧W.heap[Bx]?=some (hObj x)∧a'={ tmps:=#[.pointer (some ⟨p,0,none⟩),.func (.func f) #[] bd,undef,.pointer (some ⟨r,0,none⟩),.pointer (some ⟨r+1,0,none⟩),.bool false,.pointer (some ⟨r+1+1,0,none⟩),.pointer (some ⟨Bx,0,none⟩),.pointer (some ⟨p,0,none⟩),.func (.func 115) #[] #[.pointer (some ⟨r+1+1+1,0,none⟩)],.agg (hcs x),undef,undef,undef,undef,undef,undef,undef,undef,undef,undef,undef,undef],defers:=[] })
  (fun x a' _ A B row hs hg hr=>by obtain⟨Bx,h1,h2,h3⟩:=hs;exact⟨Bx,h1,j2w h2 rfl hg (fun r e=>(hr r e).2),h3⟩) ?assign ?body ?done ?stop
 case assign =>
  intro l pre x W K hN hI hx hK
  have hxl:=hxl15 x (k1n hx)
  obtain⟨w2,hsc,b2,g2,z2⟩:=k4x (w:=W.alloc (.cells #[.int .i64 0,.int .i64 0,.int .i64 0,.int .i64 0,.int .i64 0,.int .i64 0,.int .i64 0,.int .i64 0,.int .i64 0,.int .i64 0,.int .i64 0,.int .i64 0,.int .i64 0,.int .i64 0,.int .i64 0] 133)) (g:=W.heap.size) (x:=x) (j0c rfl) rfl hxl
  have hg2:W.grownBy w2 none:=⟨g2.os,g2.tape,g2.output,by rw[z2];simp,fun j hj _=>(g2.block j (by simp;omega) (fun e=>by cases e;omega)).trans (Below.heap_alloc _ _ _ hj)⟩
  have HB:=zQ9 (zA9 b2 hg2)
  have HN:=zQ9 (zA9 hN hI)
  have hcsz:(hcs x).size=15:=by rw[j2p,hxl]
  clear z2 g2 b2 hg2 hN hI hxl hx
  gi_wp2
  have hg2:=HB.out.2
  have hrr:=HR.out
  refine hK _ w2 ((KeepsFrom.of_grownBy hg2 (fun j e=>by cases e))) ⟨hg2.size,fun k o hk _=>(hg2.block k (j0a hk) (fun e=>by cases e)).trans hk⟩ (HN.out.1.grown hpl hg2 (fun i e=>by cases e)) ?_ ⟨W.heap.size,?_,HB.out.1,rfl⟩
  ·exact⟨Nat.le_trans HN.out.2.1 hg2.size,(hg2.block _ (j0a HN.out.2.2.1) (fun e=>by cases e)).trans HN.out.2.2.1,(hg2.block _ (j0a HN.out.2.2.2.1) (fun e=>by cases e)).trans HN.out.2.2.2.1,(hg2.block _ (j0a HN.out.2.2.2.2) (fun e=>by cases e)).trans HN.out.2.2.2.2⟩
  ·exact HN.out.2.1
 case body =>
  rintro l pre x a' W hN hI ⟨Bx,hBx,hbx,rfl⟩ hx
  have hxl:=hxl15 x (k1n hx)
  obtain⟨a0,a1,a2,a3,a4,a5,a6,a7,a8,a9,a10,a11,a12,a13,a14,hc15,hcell⟩:=j7u hxl
  obtain⟨y0,y1,y2,y3,y4,y5,y6,y7,y8,y9,y10,y11,y12,y13,y14⟩:=hcell _ _ hbx
  have c0:=blk1 hI.2.1
  obtain⟨s0,s1,s2⟩:=blk3 hI.2.2.2
  have f0:=frz hI.2.2.2 0
  have f1:=frz hI.2.2.2 1
  have f2:=frz hI.2.2.2 2
  obtain⟨sb,hsb⟩:∃ sb,sb=(!decide (pre=[])):=⟨_,rfl⟩
  obtain⟨sr,hsr⟩:∃ sr,sr=j0o pre g:=⟨_,rfl⟩
  rw[←hsb] at s2
  rw[←hsr] at s0 s1
  have HS:=zQ9 (zA9 hsb hsr)
  have HN:=zQ9 (zA9 hN hI)
  have hofx:=HW.out.2.2 x (k1n hx)
  have HX:=zQ9 hx
  clear hsb hsr hN hI hx hcell hxl hbx
  have HBW:=zQ9 (show W.heap[r+1+1]?=some (spObj sr sb) by rw[HS.out.1,HS.out.2];exact HN.out.2.2.2.2)
  have hmo:Tryz.prog.follows .mixedOrders=true:=by kernel_rfl
  have hwid:=fun w=>k7c sr sb (g x) w
  unfold vSp at hwid
  have HWD:=zQ9 hwid
  have hofd:=hofx W.drew HN.out.1.drew
  clear hwid hofx
  gi_wp2_with fail
  gi_region_with_o (first
   | (refine⟨trivial,?_⟩;gi_at_call 85;refine(k4g (HWD.out _)).mono ?_;rintro e w3 ⟨rfl,hb3⟩;have h3:=j0e HB2.out.1 hb3 (zL9 _);obtain⟨z0,z1,z2⟩:=blk3 h3;have fz0:=frz h3 0;have fz1:=frz h3 1;have fz2:=frz h3 2;have HB3:=zQ9 (zA9 h3 hb3);clear h3 hb3)
   | (refine⟨trivial,?_⟩;refine(k4g hofd).mono ?_;rintro e w2 ⟨rfl,hb2⟩;have h2:=j0e (w:=W.drew) HBW.out hb2 (zL9 _);obtain⟨t0,t1,t2⟩:=blk3 h2;have HB2:=zQ9 (zA9 h2 hb2);clear h2 hb2))
  all_goals
   have hrr:=HR.out
   have hb2:Below W.heap.size W w2:=⟨HB2.out.2.os,HB2.out.2.tape,HB2.out.2.output,HB2.out.2.size,HB2.out.2.block⟩
   have hbw:Below W.heap.size W w3:=hb2.trans (HB3.out.2.mono hb2.size)
   have hoff:∀ k,k≠r+1+1→(((w3.setCell ⟨r+1+1,0,none⟩ (.int .i64 (j2o sr sb (g x)).lo)).setCell ⟨r+1+1,1,none⟩ (.int .i64 (j2o sr sb (g x)).hi)).setCell ⟨r+1+1,2,none⟩ (.bool true)).heap[k]?=w3.heap[k]?:=fun k hk=>by
    rw[Below.heap_setCell _ ⟨r+1+1,2,none⟩ _ _ hk,Below.heap_setCell _ ⟨r+1+1,1,none⟩ _ _ hk,Below.heap_setCell _ ⟨r+1+1,0,none⟩ _ _ hk]
   have hon:=j0d (i:=2) (v:=.bool true) (j0d (i:=1) (v:=.int .i64 (j2o sr sb (g x)).hi) (j0d (i:=0) (v:=.int .i64 (j2o sr sb (g x)).lo) HB3.out.1))
   have hkw:KeepsOthers w3 (((w3.setCell ⟨r+1+1,0,none⟩ (.int .i64 (j2o sr sb (g x)).lo)).setCell ⟨r+1+1,1,none⟩ (.int .i64 (j2o sr sb (g x)).hi)).setCell ⟨r+1+1,2,none⟩ (.bool true)):=((KeepsOthers.setCell _ _ _).trans (KeepsOthers.setCell _ _ _)).trans (KeepsOthers.setCell _ _ _)
   refine⟨(j8t hbw).trans (hkw.from _),(k2h hbw).trans hkw.walks,?_,?_,?_,?_,?_⟩
   ·exact HN.out.1.then hpl hbw.os hbw.tape hbw.output (by simpa using Nat.le_trans HN.out.1.size hbw.size) (fun k hk=>(hoff k (by omega)).trans (hbw.block k (by have:=HN.out.1.size;omega)))
   ·simpa using Nat.le_trans HN.out.2.1 hbw.size
   ·exact(hoff r (by omega)).trans ((hbw.block _ (j0a HN.out.2.2.1)).trans HN.out.2.2.1)
   ·exact(hoff (r+1) (by omega)).trans ((hbw.block _ (j0a HN.out.2.2.2.1)).trans HN.out.2.2.2.1)
   ·refine hon.trans ?_
    have e1:j0o (pre++[x]) g=j2o sr sb (g x):=by rw[k2p,HS.out.1,HS.out.2];unfold j2o;by_cases h:pre=[]<;>simp[h]
    rw[e1]
    simp
 case done =>
  rintro D xs W hD hS hN hI hd
  obtain⟨s0,s1,s2⟩:=blk3 hI.2.2.2
  obtain⟨t0,t1⟩:=blk2 hI.2.2.1
  have f0:=frz hI.2.2.1 0
  have f1:=frz hI.2.2.1 1
  have HN:=zQ9 (zA9 hN (zA9 hS hI))
  have hdl:=j0a hd
  clear hN hS hI
  go_wp2_with fail
  go_region
  all_goals
   obtain⟨W5,hW5⟩:∃ W5,W5=((W.setCell ⟨r+1,0,none⟩ (Value.int .i64 (j0o xs g).lo)).setCell ⟨r+1,1,none⟩ (Value.int .i64 (j0o xs g).hi)).drew:=⟨_,rfl⟩
   have hoff:∀ k,k≠r+1→W5.heap[k]?=W.heap[k]?:=fun k hk=>by
    rw[hW5]
    show((W.setCell ⟨r+1,0,none⟩ (Value.int .i64 (j0o xs g).lo)).setCell ⟨r+1,1,none⟩ (Value.int .i64 (j0o xs g).hi)).heap[k]?=_
    rw[Below.heap_setCell _ ⟨r+1,1,none⟩ _ _ hk,Below.heap_setCell _ ⟨r+1,0,none⟩ _ _ hk]
   have hon:W5.heap[r+1]?=some (Obj.cells #[.int .i64 (j0o xs g).lo,.int .i64 (j0o xs g).hi] 72 (0,0)):=by
    rw[hW5]
    exact(j0d (i:=1) (v:=.int .i64 (j0o xs g).hi) (j0d (i:=0) (v:=.int .i64 (j0o xs g).lo) HN.out.2.2.2.2.1)).trans (by simp)
   have hrr:=HR.out
   have hN5:NowIn p (b.bk deed owner) w W5:=HN.out.1.then hpl (by rw[hW5];rfl) (by rw[hW5];rfl) (by rw[hW5];rfl) (by rw[hW5];simpa using HN.out.1.size) (fun k hk=>hoff k (by omega))
   have hd5:W5.heap[D]?=some (.deferred (some [])):=(hoff D (by omega)).trans hd
   have hrg:=k2o (f:=g) HN.out.2.1
   have hxe:decide (xs=[])=decide (b.ends deed owner=[]):=by
    have:=HN.out.2.1
    by_cases h:xs=[]
    ·subst h;rw[this.nil_eq.symm]
    ·rw[decide_eq_false h,decide_eq_false (fun e=>h (by rw[e] at this;exact this.eq_nil))]
   rw[←hW5]
   rw[hrg] at hon ⊢
   rw[hxe]
   clear hW5 s0 s1 s2 t0 t1 f0 f1 hoff hrg hxe
   have hon6:(W5.putObj D (.deferred none)).heap[r+1]?=_:=(World.putObj_heap_other (by omega)).trans hon
   obtain⟨u0,u1⟩:=blk2 hon6
   have H5:=zQ9 (zA9 hN5 hon6)
   clear hN5 hon hon6
   go_wp2
   refine⟨by simp,.inl ⟨_,_,rfl,run_takeDeferred hd5,?_⟩⟩
   refine⟨.tuple #[.agg #[.int .i64 (j0o (b.ends deed owner) g).lo,.int .i64 (j0o (b.ends deed owner) g).hi],.bool (!decide (b.ends deed owner=[]))],by simp[results,Tryz.f98,go_sem,u0,u1],rfl,?_⟩
   exact H5.out.1.undo hpl (by have:=HW.out.2.1.size;omega) _
 case stop=>exact fun D c pre W _ _ _ h=>h.elim
def eRn (x:Rn):List Value:=[.int .i64 x.lo,.int .i64 x.hi]
theorem j3m (x:Rn):(eRn x).length=2:=rfl
theorem q0y (x:Rn):∀ u∈eRn x,u.oneCell'=true:=by intro u hu;simp[eRn] at hu;rcases hu with rfl|rfl<;>rfl
theorem okRn:ElemOk Tryz.prog 57 72 2 16:=ElemOk.mk' (z:=.agg #[.int .i64 0,.int .i64 0]) Tryz.underlying57 (by kernel_rfl) rfl (by decide)
abbrev OwnR (w:World) (base:Nat) (v:Value) (l:List Rn):Prop:=Own eRn 72 2 w base v l
theorem Own.now {α:Type} {enc:α→List Value} {e:TypeId} {sz:Nat} {a c:World} {base p:Nat} {v:Value} {l:List α} {O:Int→Obj} (h:Own enc e sz a base v l) (k:NowIn p O a c) (hp:p<base):Own enc e sz c base v l :=
 h.kept (row:=some p) ⟨k.os,k.tape,k.output,k.size,fun j hj hne=>k.block j hj (fun e=>hne (by rw[e]))⟩ (by
  cases e:v.ownBlock with
  | none=>exact .inl rfl
  | some b=>right;intro e';cases e';have:=(Own.lt h _ e).1;omega)
theorem q2l (F:FuncId) (bd:Array Value) (y:Int) (x:List Int) (i:Nat) (r5 ri:Nat) (W:World) (hxl:x.length=15)
 (hent:∀ (args:Array Value) (w:World),(callFunc F args).run Tryz.prog w=.ok (.enter F args) w)
 (h5:W.heap[r5]?=some (Obj.cells #[.func (.func F) #[] bd] 146 (0,0))) (hi:W.heap[ri]?=some (Obj.cells #[.int .i64 (i:Int)] 3 (0,0)))
 (hc:∀ W',Below W.heap.size W W'→Calls Tryz.prog F (#[.agg (hcs x),.int .i64 (i:Int)]++bd) W' fun e W''=>e=.returned (.int .i64 y)∧Below W'.heap.size W' W'') :
 Calls Tryz.prog 128 #[.agg (hcs x),.pointer (some ⟨r5,0,none⟩),.pointer (some ⟨ri,0,none⟩)] W fun e W'=>e=.returned (.int .i64 y)∧Below W.heap.size W W':=by
 obtain⟨V,hV⟩:∃ V,V=W.alloc (Obj.cells (hcs x) 133):=⟨_,rfl⟩
 have b0:V.heap[W.heap.size]?=some (hObj x):=by rw[hV];exact j0c rfl
 have c5:=blk1 (show V.heap[r5]?=_ by rw[hV];exact j0b h5 _)
 have ci:=blk1 (show V.heap[ri]?=_ by rw[hV];exact j0b hi _)
 have hBV:Below W.heap.size W V:=by rw[hV];exact bal0 W _
 have hcV:=hc V hBV
 have HV:=zQ9 (zA9 hV hBV)
 clear hc
 go_enter Tryz.func128,Tryz.ntmps128
 go_upto_region 1 with (fail)
 rw[←hV]
 obtain⟨g,hg⟩:∃ g,g=W.heap.size:=⟨_,rfl⟩
 have HG:=zQ9 hg
 rw[←hg] at b0 ⊢
 clear hV hg hBV
 go_wp2_with (first
  | ((with_reducible apply j0t b0 hxl);(rfl);(rfl);(rfl))
  | (go_at_fn F;refine hcV.mono ?_;rintro e w6 ⟨rfl,hb6⟩))
 go_ret
 exact⟨rfl,HV.out.2.trans (hb6.mono HV.out.2.size)⟩
def j1b (E:List (List Int)) (G:Nat→List Int→Int) (k:Nat):List Rn:=(List.range k).map fun i=>j0o E (G i)
theorem k1o (E:List (List Int)) (G:Nat→List Int→Int) (k:Nat):j1b E G (k+1)=j1b E G k++[j0o E (G k)]:=by unfold j1b;rw[List.range_succ,List.map_append];rfl
theorem k2t (E:List (List Int)) (G:Nat→List Int→Int) (k:Nat):(j1b E G k).length=k:=by simp[j1b]
def k9g (E:List (List Int)):Int:=if E=[] then 11 else 0
theorem j7n {E:List (List Int)} (h:E=[]):k9g E=11:=if_pos h
theorem j7m {E:List (List Int)} (h:E≠[]):k9g E=0:=if_neg h
def j5y (E:List (List Int)) (G:Nat→List Int→Int) (n:Nat):List Rn:=if E=[] then [] else j1b E G n
theorem k1p (w0:World) (p:Nat) (b:Hb) (deed owner:Int) (w:World) (hW:Work w0 p b deed owner w) (n:Nat) (hn:0<n) (hn5:n≤100) (F:FuncId) (bd:Array Value) (G:Nat→List Int→Int)
 (hent:∀ (args:Array Value) (w:World),(callFunc F args).run Tryz.prog w=.ok (.enter F args) w)
 (hF:∀ x∈b.ends deed owner,∀ i:Nat,i<n→∀ W,NowIn p (b.bk deed owner) w W→Calls Tryz.prog F (#[.agg (hcs x),.int .i64 (i:Int)]++bd) W fun e W'=>e=.returned (.int .i64 (G i x))∧Below W.heap.size W W') :
 Calls Tryz.prog 95 #[.pointer (some ⟨p,0,none⟩),.int .i64 (n:Int),.func (.func F) #[] bd] w fun e w'=>(∃ v,e=.returned (.tuple #[v,.int .i64 (k9g (b.ends deed owner))])∧OwnR w' w.heap.size v (j5y (b.ends deed owner) G n))∧NowIn p (b.bk deed owner) w w':=by
 have hpl:=hW.lt
 obtain⟨V,hV⟩:∃ V,V=w.alloc (Obj.cells #[.func (.func F) #[] bd] 146):=⟨_,rfl⟩
 obtain⟨r,hr⟩:∃ r,r=w.heap.size:=⟨_,rfl⟩
 have b5:V.heap[r]?=some (Obj.cells #[.func (.func F) #[] bd] 146 (0,0)):=by rw[hV,hr];exact j0c rfl
 have hNV:NowIn p (b.bk deed owner) w V:=by rw[hV];exact NowIn.of_below (bal0 w _) hW.hp (zL9 _)
 have hxl15:∀ x∈b.ends deed owner,x.length=15:=fun x hx=>(j3w hW.ok.f3 hW.ok.n5 hW.ok.rb hW.ok.dI _ x hx).1
 have hzV:V.heap.size=r+1:=by rw[hV,hr];simp
 have HH:=zQ9 (zA9 hW (zA9 hF (zA9 hNV (zA9 hxl15 (zA9 hzV (zA9 hr b5))))))
 have hent':∀ (args:Array Value) (w:World),(callFunc 128 args).run Tryz.prog w=.ok (.enter 128 args) w:=enters_of Tryz.func128 (by kernel_rfl) rfl
 go_enter Tryz.func95,Tryz.ntmps95
 go_upto_region 1 with (fail)
 rw[←hV,←hr]
 clear hW hF hV hNV hxl15 hr hzV b5
 go_wp2_with fail
 go_loopg [8,13] n (fun g v8 v13 wr=>∃ k:Nat,k+g=n∧v13=.int .i64 k∧(0<k→b.ends deed owner≠[])∧OwnR wr V.heap.size v8 (j1b (b.ends deed owner) G k)∧NowIn p (b.bk deed owner) w wr∧wr.heap[r]?=some (Obj.cells #[.func (.func F) #[] bd] 146 (0,0))∧V.heap.size≤wr.heap.size)
 case atStart=>exact⟨0,by omega,rfl,fun h=>absurd h (by omega),Own.nil_,HH.out.2.2.1,HH.out.2.2.2.2.2.2,zL9 _⟩
 case round =>
  obtain⟨k,hk,rfl,hne,hown,hN,hbr,hVz⟩:=hrel
  by_cases hlt:k<n
  ·have i1:(k:Int)<(n:Int):=by omega
   have i2:(n:Int)≤100:=by omega
   have HK:=zQ9 (zA9 hk (zA9 hne (zA9 hown (zA9 hN (zA9 hbr hVz)))))
   clear hk hne hown hN hbr hVz
   go_upto_region 5 with (fail)
   obtain⟨wi,hwi⟩:∃ wi,wi=wr.alloc (Obj.cells #[Value.int .i64 (k:Int)] 3):=⟨_,rfl⟩
   obtain⟨gi,hgi⟩:∃ gi,gi=wr.heap.size:=⟨_,rfl⟩
   have hNi:NowIn p (b.bk deed owner) w wi:=by rw[hwi];exact HK.out.2.2.2.1.below hpl (bal0 wr _) HK.out.2.2.2.1.size
   have bri:wi.heap[r]?=some (Obj.cells #[.func (.func F) #[] bd] 146 (0,0)):=by rw[hwi];exact j0b HK.out.2.2.2.2.1 _
   have bii:wi.heap[gi]?=some (Obj.cells #[Value.int .i64 (k:Int)] 3 (0,0)):=by rw[hwi,hgi];exact j0c rfl
   have hrp:r≠p:=by have:=HH.out.2.2.2.2.2.1;omega
   have hgp:gi≠p:=by have:=HK.out.2.2.2.1.lt;omega
   have howni:OwnR wi V.heap.size u8 (j1b (b.ends deed owner) G k):=by rw[hwi];exact Own.alloc HK.out.2.2.1 _
   have hzi:V.heap.size≤wi.heap.size:=by rw[hwi];simp;have:=HK.out.2.2.2.2.2;omega
   have hsp:=k9f w0 p b deed owner wi (HH.out.1.now hNi) 128 #[.pointer (some ⟨r,0,none⟩),.pointer (some ⟨gi,0,none⟩)] (G k) hent' (fun x hx W hNW =>
    q2l F bd (G k x) x k r gi W (HH.out.2.2.2.1 x hx) hent (hNW.blk bri hrp) (hNW.blk bii hgp) (fun W' hb=>HH.out.2.1 x hx k hlt W' (hNi.trans (hNW.below hNi.lt hb hNW.size))))
   rw[←hwi,←hgi]
   have HI:=zQ9 (zA9 hNi (zA9 bri (zA9 howni hzi)))
   clear hwi hgi hNi bri bii hrp hgp howni hzi
   go_upto_region 6 with (go_at_call 98;refine hsp.mono ?_;rintro e w2 ⟨rfl,hN2⟩)
   obtain⟨eb,heb⟩:∃ eb,eb=!decide (b.ends deed owner=[]):=⟨_,rfl⟩
   obtain⟨y,hy⟩:∃ y,y=j0o (b.ends deed owner) (G k):=⟨_,rfl⟩
   rw[←heb,←hy]
   obtain⟨w3,hw3⟩:∃ w3,w3=w2.alloc (Obj.cells #[Value.int .i64 y.lo,.int .i64 y.hi] 72):=⟨_,rfl⟩
   have hN3:NowIn p (b.bk deed owner) w w3:=by rw[hw3];exact(HI.out.1.trans hN2).below hpl (bal0 w2 _) (Nat.le_trans HI.out.1.size hN2.size)
   have hpV:p<V.heap.size:=by have:=HH.out.2.2.2.2.1;have:=HH.out.2.2.2.2.2.1;omega
   have hrV:r<V.heap.size:=by have:=HH.out.2.2.2.2.1;omega
   have hown3:OwnR w3 V.heap.size u8 (j1b (b.ends deed owner) G k):=by rw[hw3];exact Own.alloc (HI.out.2.2.1.now hN2 hpV) _
   have br3:w3.heap[r]?=some (Obj.cells #[.func (.func F) #[] bd] 146 (0,0)):=by rw[hw3];exact j0b (hN2.blk HI.out.2.1 (by have:=HH.out.2.2.2.2.2.1;omega)) _
   have by3:w3.heap[w2.heap.size]?=some (Obj.cells #[Value.int .i64 y.lo,.int .i64 y.hi] 72 (0,0)):=by rw[hw3];exact j0c rfl
   have hz3:V.heap.size≤w3.heap.size:=by rw[hw3];simp;have:=HI.out.2.2.2;have:=hN2.size;omega
   obtain⟨x0,x1⟩:=blk2 by3
   rw[←hw3]
   have hlen:=k2t (b.ends deed owner) G k
   have HY:=zQ9 (zA9 heb (zA9 hy (zA9 hN3 (zA9 hpV (zA9 hrV (zA9 br3 hlen))))))
   have hll:(j1b (b.ends deed owner) G k).length<4294967296:=by omega
   clear heb hy hw3 hN3 hpV hrV br3 by3 hN2 hlen
   cases eb with
   | false =>
     have hE:b.ends deed owner=[]:=by have:=HY.out.1;by_cases h:b.ends deed owner=[];exact h;simp[h] at this
     have HE:=zQ9 hE
     clear hE
     go_wp2_with fail
     go_ret2
     rw[j7n HE.out]
     refine⟨⟨_,rfl,?_⟩,HY.out.2.2.1⟩
     unfold j5y
     rw[if_pos HE.out]
     exact Own.nil_
   | true =>
     have hE:b.ends deed owner≠[]:=by have:=HY.out.1;intro h;simp[h] at this
     have HE:=zQ9 hE
     have HO3:=zQ9 hown3
     clear hE hown3
     go_wp2_with (at_builtin;refine j6x okRn rfl (.tmp 24) (.tmp 26) rfl V.heap.size _ (j1b (b.ends deed owner) G k) y _ rfl rfl rfl rfl (q0y _) HO3.out ?_ ?_ ?_ ?_;(omega);(omega);(omega);intro v' w4 hown4 hb4 _ hz4;have HO4:=zQ9 (zA9 hown4 hb4);clear hown4 hb4)
     go_roundg (gk-1)
     case measure=>have:=HK.out.1;omega
     case rel =>
      refine⟨k+1,by have:=HK.out.1;omega,by go_num,fun _=>HE.out,by rw[k1o,←HY.out.2.1];exact HO4.out.1,HY.out.2.2.1.below hpl HO4.out.2 (by have:=HH.out.2.2.2.2.1;have:=HH.out.2.2.2.2.2.1;omega),(HO4.out.2.block r HY.out.2.2.2.2.1).trans HY.out.2.2.2.2.2.1,by omega⟩
  ·obtain rfl:k=n:=by omega
   have HF:=zQ9 (zA9 (hne hn) (zA9 hown hN))
   clear hne hown hN hbr hVz
   go_wp2_with fail
   go_ret2
   rw[j7m HF.out.1]
   refine⟨⟨_,rfl,?_⟩,HF.out.2.2⟩
   unfold j5y
   rw[if_neg HF.out.1]
   exact HF.out.2.1.mono (by have:=HH.out.2.2.2.2.1;have:=HH.out.2.2.2.2.2.1;omega)
def k1u (b:Hb) (w:World) (e:Ending) (w':World):Prop:=e=.returned (.tuple #[.int .i64 (if b.chk=0 then ((b.ends (-1) 0).length:Int) else 0),.int .i64 b.chk])∧Below w.heap.size w w'
theorem q1j (b:Hb) (w:World) (hin:HbIn w b):Calls Tryz.prog 13 #[b.v] w (k1u b w):=by
 obtain⟨V,hV⟩:∃ V,V=w.alloc b.obj:=⟨_,rfl⟩
 obtain⟨g,hg⟩:∃ g,g=w.heap.size:=⟨_,rfl⟩
 have b0:V.heap[g]?=some b.obj:=by rw[hV,hg];exact j0c rfl
 have hBV:Below w.heap.size w V:=by rw[hV];exact bal0 w _
 have hiV:=hin.below hBV (zL9 _)
 obtain⟨c0,c1,c2,c3,c4⟩:=j0h b0
 have hak:=j3v b V hiV
 unfold Hb.v at hak
 have HV:=zQ9 (zA9 hBV (zA9 b0 (zA9 hiV hg)))
 unfold Hb.v
 go_enter Tryz.func13,Tryz.ntmps13
 go_upto_region 1 with (fail)
 rw[←hV,←hg]
 clear hV hg hin hBV hiV b0
 obtain⟨R,hR⟩:∃ R,R=j2v b b.chk V:=⟨_,rfl⟩
 rw[←hR] at hak
 have HR:=zQ9 hR
 clear hR
 go_wp2_with (go_at_call 55;refine hak.mono ?_;rintro e w2 hRR;rw[HR.out] at hRR;unfold j2v at hRR;rcases hRR with ⟨h0,rfl,hb2⟩|⟨h0,p,rfl,hWk,hb2⟩)
 ·go_ret2
  unfold k1u
  rw[if_neg h0]
  exact⟨rfl,HV.out.1.trans (hb2.mono HV.out.1.size)⟩
 ·have H2:=zQ9 (zA9 (HV.out.1.trans (hb2.mono HV.out.1.size)) (zA9 hWk h0))
  refine(many_any V p b (-1) 0 w2 hWk).mono ?_
  rintro e w3 ⟨rfl,hN3⟩
  have hb3:Below w.heap.size w w3:=H2.out.1.trans (hN3.less (Nat.le_trans HV.out.1.size hWk.hz) H2.out.1.size)
  clear hWk hb2 hN3
  go_wp2
  go_ret2
  unfold k1u
  rw[H2.out.2.2,if_pos rfl]
  exact⟨rfl,hb3⟩
theorem okRns:ElemOk Tryz.prog 66 57 1 24:=ElemOk.mk' (z:=.slice none 0 0) Tryz.underlying66 (by kernel_rfl) rfl (by decide)
abbrev OwnT (w:World) (base:Nat) (v:Value) (ls:List (List Rn)):Prop:=OwnA eRn 72 57 2 w base v ls
theorem OwnT.now {a c:World} {base p:Nat} {v:Value} {l:List (List Rn)} {O:Int→Obj} (h:OwnT a base v l) (k:NowIn p O a c) (hp:p<base):OwnT c base v l :=
 h.map (fun _ h=>Own.now h k hp) (fun _ _ h=>Own.now h k hp)
theorem hasF_any (x:List Int) (f i:Nat) (q:Nat) (W:World) (hxl:x.length=15) (hf:f<3) (hi:i<5) (hq:W.heap[q]?=some (Obj.cells #[.int .i64 (f:Int)] 3 (0,0))) :
 Calls Tryz.prog 96 (#[.agg (hcs x),.int .i64 (i:Int)]++#[.pointer (some ⟨q,0,none⟩)]) W fun e W'=>e=.returned (.int .i64 (hget x f i))∧Below W.heap.size W W':=by
 obtain⟨V,hV⟩:∃ V,V=W.alloc (Obj.cells (hcs x) 133):=⟨_,rfl⟩
 have b0:V.heap[W.heap.size]?=some (hObj x):=by rw[hV];exact j0c rfl
 have cq:=blk1 (show V.heap[q]?=_ by rw[hV];exact j0b hq _)
 have hBV:Below W.heap.size W V:=by rw[hV];exact bal0 W _
 have HV:=zQ9 hBV
 obtain⟨g,hg⟩:∃ g,g=W.heap.size:=⟨_,rfl⟩
 obtain⟨y,hy⟩:∃ y,y=hget x f i:=⟨_,rfl⟩
 rw[←hg] at b0
 rw[←hy]
 have c0:V.cell? ⟨g,f*5+i,none⟩=some (.int .i64 y):=by rw[hy,Nat.mul_comm f 5];exact blkH b0 (by omega)
 have i0:(0:Int)≤(f:Int):=by omega
 have i1:(f:Int)<3:=by omega
 have i2:(0:Int)≤(i:Int):=by omega
 have i3:(i:Int)<5:=by omega
 simp only[List.append_toArray,List.cons_append,List.nil_append]
 clear hq hy b0 hBV
 go_enter Tryz.func96,Tryz.ntmps96
 go_upto_region 1 with (fail)
 rw[←hV,←hg]
 clear hV hg
 go_wp2
 go_ret
 exact⟨rfl,HV.out⟩
def askE (b:Hb):Int:=if b.chk≠0 then b.chk else if b.ends (-1) 0=[] then 11 else 0
theorem j7w {b:Hb} (h:b.chk≠0):askE b=b.chk:=if_pos h
theorem j5e {b:Hb} (h:b.chk=0) (h':b.ends (-1) 0=[]):askE b=11:=by unfold askE;rw[if_neg (by rw[h];simp),if_pos h']
theorem j6a {b:Hb} (h:b.chk=0) (h':b.ends (-1) 0≠[]):askE b=0:=by unfold askE;rw[if_neg (by rw[h];simp),if_neg h']
def j6r (E:List (List Int)) (n k:Nat):List (List Rn):=(List.range k).map fun f=>(List.range n).map fun o=>j0o E fun h=>hget h f o
theorem q1v (E:List (List Int)) (n k:Nat):j6r E n (k+1)=j6r E n k++[j1b E (fun i x=>hget x k i) n]:=by unfold j6r;rw[List.range_succ,List.map_append];rfl
theorem q3y (E:List (List Int)) (n k:Nat):(j6r E n k).length=k:=by simp[j6r]
def hasR (b:Hb):List (List Rn):=if askE b=0 then hasL (b.ends (-1) 0) b.l.length b.ks.length else []
def HasR (b:Hb) (w:World) (e:Ending) (w':World):Prop:=(∃ v,e=.returned (.tuple #[v,.int .i64 (askE b)])∧OwnT w' w.heap.size v (hasR b))∧Below w.heap.size w w'
theorem k5b (b:Hb) (w:World) (hin:HbIn w b):Calls Tryz.prog 29 #[b.v] w (HasR b w):=by
 obtain⟨V,hV⟩:∃ V,V=w.alloc b.obj:=⟨_,rfl⟩
 obtain⟨g,hg⟩:∃ g,g=w.heap.size:=⟨_,rfl⟩
 have b0:V.heap[g]?=some b.obj:=by rw[hV,hg];exact j0c rfl
 have hBV:Below w.heap.size w V:=by rw[hV];exact bal0 w _
 have hiV:=hin.below hBV (zL9 _)
 obtain⟨c0,c1,c2,c3,c4⟩:=j0h b0
 have hak:=j3v b V hiV
 unfold Hb.v at hak
 have HV:=zQ9 (zA9 hBV (zA9 b0 (zA9 hiV hg)))
 have hent:∀ (args:Array Value) (w:World),(callFunc 96 args).run Tryz.prog w=.ok (.enter 96 args) w:=enters_of Tryz.func96 (by kernel_rfl) rfl
 have HENT:=zQ9 hent
 unfold Hb.v
 go_enter Tryz.func29,Tryz.ntmps29
 go_upto_region 1 with (fail)
 rw[←hV,←hg]
 clear hV hg hin hBV hiV b0 hent
 obtain⟨R,hR⟩:∃ R,R=j2v b b.chk V:=⟨_,rfl⟩
 rw[←hR] at hak
 have HR:=zQ9 hR
 clear hR
 go_upto_region 2 with (go_at_call 55;refine hak.mono ?_;rintro e w2 hRR;rw[HR.out] at hRR;unfold j2v at hRR;rcases hRR with ⟨h0,rfl,hb2⟩|⟨h0,p,rfl,hWk,hb2⟩)
 ·have xf:(b.chk != 0)=true:=by simp[h0]
  go_wp2_with fail
  go_ret2
  unfold HasR hasR
  rw[j7w h0,if_neg h0]
  exact⟨⟨_,rfl,OwnA.nil_⟩,HV.out.1.trans (hb2.mono HV.out.1.size)⟩
 have x0:=j0e HV.out.2.1 hb2 (zL9 _)
 have hok:=hWk.ok
 have hgp:g≠p:=by have:=hWk.hz;have:=j0a HV.out.2.1;omega
 clear c0 c1 c2 c3 c4 hak
 obtain⟨c0,c1,c2,c3,c4⟩:=j0h x0
 have hpl:=hWk.lt
 obtain⟨n,hn⟩:∃ n,n=b.l.length:=⟨_,rfl⟩
 obtain⟨nk,hnk⟩:∃ nk,nk=b.ks.length:=⟨_,rfl⟩
 rw[←hn] at c1
 rw[←hnk] at c2
 have hn0:0<n∧n≤5:=by rw[hn];exact⟨hok.n0,hok.n5⟩
 have hk0:0<nk∧nk≤3:=by rw[hnk];exact⟨hok.f0,hok.f3⟩
 have H2:=zQ9 (zA9 hb2 (zA9 hWk (zA9 h0 (zA9 hn (zA9 hnk (zA9 hok (zA9 hgp x0)))))))
 clear hb2 hWk h0 hn hnk hok hgp x0
 go_wp2_with fail
 go_loopg [6,21] nk (fun g' v6 v21 wr=>∃ k:Nat,k+g'=nk∧v21=.int .i64 k∧(0<k→b.ends (-1) 0≠[])∧OwnT wr w2.heap.size v6 (j6r (b.ends (-1) 0) n k)∧NowIn p (b.bk (-1) 0) w2 wr)
 case atStart=>exact⟨0,by omega,rfl,fun h=>absurd h (by omega),OwnA.nil_,H2.out.2.1.refl⟩
 case round =>
  obtain⟨k,hk,rfl,hne,hown,hN⟩:=hrel
  by_cases hlt:k<nk
  ·have i1:(k:Int)<(nk:Int):=by omega
   have i2:(nk:Int)≤3:=by omega
   obtain⟨wi,hwi⟩:∃ wi,wi=wr.alloc (Obj.cells #[Value.int .i64 (k:Int)] 3):=⟨_,rfl⟩
   obtain⟨gi,hgi⟩:∃ gi,gi=wr.heap.size:=⟨_,rfl⟩
   have hNi:NowIn p (b.bk (-1) 0) w2 wi:=by rw[hwi];exact hN.below hpl (bal0 wr _) hN.size
   have bii:wi.heap[gi]?=some (Obj.cells #[Value.int .i64 (k:Int)] 3 (0,0)):=by rw[hwi,hgi];exact j0c rfl
   have hgpi:gi≠p:=by have:=hN.lt;omega
   have howni:OwnT wi w2.heap.size u6 (j6r (b.ends (-1) 0) n k):=by rw[hwi];exact OwnA.alloc hown _
   have hzi:w2.heap.size≤wi.heap.size:=hNi.size
   have xg:=hNi.blk H2.out.2.2.2.2.2.2.2 H2.out.2.2.2.2.2.2.1
   clear c0 c1 c2 c3 c4
   obtain⟨c0,c1,c2,c3,c4⟩:=j0h xg
   rw[←H2.out.2.2.2.1] at c1
   have hsp:=k1p V p b (-1) 0 wi (H2.out.2.1.now hNi) n hn0.1 (by omega) 96 #[.pointer (some ⟨gi,0,none⟩)] (fun i x=>hget x k i) HENT.out (fun x hx i hi W hNW =>
    hasF_any x k i gi W ((j3w H2.out.2.2.2.2.2.1.f3 H2.out.2.2.2.2.2.1.n5 H2.out.2.2.2.2.2.1.rb H2.out.2.2.2.2.2.1.dI _ x hx).1) (by omega) (by omega) (hNW.blk bii hgpi))
   have HI:=zQ9 (zA9 hNi (zA9 bii (zA9 howni (zA9 hzi (zA9 hne hk)))))
   have HWI:=zQ9 hwi
   have HGI:=zQ9 hgi
   clear hNi bii hgpi howni hzi hne hk hown hN xg hwi hgi
   go_upto_region 8 with (fail)
   rw[←HWI.out,←HGI.out]
   go_upto_region 9 with (go_at_call 95;refine hsp.mono ?_;rintro e w3 ⟨⟨v,rfl,hov⟩,hN3⟩)
   have hN3':=HI.out.1.trans hN3
   have hb3:Below w.heap.size w w3:=(HV.out.1.trans (H2.out.1.mono HV.out.1.size)).trans (hN3'.less (Nat.le_trans HV.out.1.size H2.out.2.1.hz) (Nat.le_trans HV.out.1.size H2.out.1.size))
   have hp2:p<w2.heap.size:=hpl
   have hovw:OwnR w3 w2.heap.size v (j5y (b.ends (-1) 0) (fun i x=>hget x k i) n):=hov.mono HI.out.2.2.2.1
   have hownw:OwnT w3 w2.heap.size u6 (j6r (b.ends (-1) 0) n k):=HI.out.2.2.1.now hN3 hp2
   have H3:=zQ9 (zA9 hN3' (zA9 hb3 (zA9 hovw hownw)))
   have hz3:=hN3'.size
   clear hN3 hN3' hb3 hov hovw hownw hsp
   by_cases hE:b.ends (-1) 0=[]
   ·have HE:=zQ9 hE
    rw[j7n hE]
    clear hE
    go_wp2_with fail
    go_ret2
    unfold HasR hasR
    rw[j5e H2.out.2.2.1 HE.out,if_neg (by decide)]
    exact⟨⟨_,rfl,OwnA.nil_⟩,H3.out.2.1⟩
   ·have HE:=zQ9 hE
    rw[j7m hE]
    clear hE
    have hll:(j6r (b.ends (-1) 0) n k).length<4294967296:=by rw[q3y];omega
    have hov1:=H3.out.2.2.1
    unfold j5y at hov1
    rw[if_neg HE.out] at hov1
    obtain⟨Av,cv,hve,-,-,-⟩:=hov1.form j3m
    have HOV:=zQ9 hov1
    clear hov1
    subst hve
    go_wp2_with (at_builtin;refine k2y okRns (by decide) rfl (.tmp 37) (.tmp 39) rfl w2.heap.size _ _ (j6r (b.ends (-1) 0) n k) _ rfl rfl H3.out.2.2.2 HOV.out hll hz3 ?_;intro v' w4 hown4 hb4 _;have H4:=zQ9 (zA9 hown4 hb4);clear hown4 hb4)
    go_roundg (gk-1)
    case measure=>have:=HI.out.2.2.2.2.2;omega
    case rel=>exact⟨k+1,by have:=HI.out.2.2.2.2.2;omega,by go_num,fun _=>HE.out,by rw[q1v];exact H4.out.1,H3.out.1.below hpl H4.out.2 (zL9 _)⟩
  ·obtain rfl:k=nk:=by omega
   have HF:=zQ9 (zA9 (hne hk0.1) (zA9 hown hN))
   clear hne hown hN hk
   go_wp2_with fail
   go_ret2
   unfold HasR hasR
   rw[j6a H2.out.2.2.1 HF.out.1,if_pos rfl]
   refine⟨⟨_,rfl,?_⟩,(HV.out.1.trans (H2.out.1.mono HV.out.1.size)).trans (HF.out.2.2.less (Nat.le_trans HV.out.1.size H2.out.2.1.hz) (Nat.le_trans HV.out.1.size H2.out.1.size))⟩
   have:=HF.out.2.1
   rw[H2.out.2.2.2.1,H2.out.2.2.2.2.1] at this
   exact OwnA.mono this (Nat.le_trans HV.out.1.size H2.out.1.size)
theorem run_row3 (x0 x1 x2 x3 x4 x5 x6 x7 x8 x9 x10 x11 x12 x13 x14:Int) (w:World) :
 (Instr.index 133 (.agg #[.int .i64 x0,.int .i64 x1,.int .i64 x2,.int .i64 x3,.int .i64 x4,.int .i64 x5,.int .i64 x6,.int .i64 x7,.int .i64 x8,.int .i64 x9,.int .i64 x10,.int .i64 x11,.int .i64 x12,.int .i64 x13,.int .i64 x14]) (.int .i64 0)).run Tryz.prog w=.ok (.agg #[.int .i64 x0,.int .i64 x1,.int .i64 x2,.int .i64 x3,.int .i64 x4]) w ∧
 (Instr.index 133 (.agg #[.int .i64 x0,.int .i64 x1,.int .i64 x2,.int .i64 x3,.int .i64 x4,.int .i64 x5,.int .i64 x6,.int .i64 x7,.int .i64 x8,.int .i64 x9,.int .i64 x10,.int .i64 x11,.int .i64 x12,.int .i64 x13,.int .i64 x14]) (.int .i64 1)).run Tryz.prog w=.ok (.agg #[.int .i64 x5,.int .i64 x6,.int .i64 x7,.int .i64 x8,.int .i64 x9]) w ∧
 (Instr.index 133 (.agg #[.int .i64 x0,.int .i64 x1,.int .i64 x2,.int .i64 x3,.int .i64 x4,.int .i64 x5,.int .i64 x6,.int .i64 x7,.int .i64 x8,.int .i64 x9,.int .i64 x10,.int .i64 x11,.int .i64 x12,.int .i64 x13,.int .i64 x14]) (.int .i64 2)).run Tryz.prog w=.ok (.agg #[.int .i64 x10,.int .i64 x11,.int .i64 x12,.int .i64 x13,.int .i64 x14]) w:=⟨by kernel_rfl,by kernel_rfl,by kernel_rfl⟩
theorem run_row (h:List Int) (hl:h.length=15) (w:World) (k:Nat) (hk:k<3) :
 (Instr.index 133 (.agg (hcs h)) (.int .i64 (k:Int))).run Tryz.prog w=.ok (.agg #[.int .i64 (hget h k 0),.int .i64 (hget h k 1),.int .i64 (hget h k 2),.int .i64 (hget h k 3),.int .i64 (hget h k 4)]) w:=by
 obtain⟨a,b,c,d,e,f,g,i,j,l,m,n,o,p,q,rfl⟩:=k1y hl
 obtain⟨h0,h1,h2⟩:=run_row3 a b c d e f g i j l m n o p q w
 obtain rfl|rfl|rfl:k=0∨k=1∨k=2:=by omega
 ·exact h0
 ·exact h1
 ·exact h2
theorem cell5 (x0 x1 x2 x3 x4:Int) (w:World) (e:TypeId) (o:Nat) (ho:o<5):(w.alloc (Obj.cells #[.int .i64 x0,.int .i64 x1,.int .i64 x2,.int .i64 x3,.int .i64 x4] e)).cell? ⟨w.heap.size,o,none⟩=some (.int .i64 ([x0,x1,x2,x3,x4].getD o 0)):=by
 have h:(w.alloc (Obj.cells #[.int .i64 x0,.int .i64 x1,.int .i64 x2,.int .i64 x3,.int .i64 x4] e)).heap[w.heap.size]?=some (Obj.cells #[.int .i64 x0,.int .i64 x1,.int .i64 x2,.int .i64 x3,.int .i64 x4] e):=j0c rfl
 obtain rfl|rfl|rfl|rfl|rfl:o=0∨o=1∨o=2∨o=3∨o=4:=by omega
 all_goals
  unfold World.cell?
  rw[h]
  rfl
theorem row_getD (h:List Int) (k o:Nat) (ho:o<5):[hget h k 0,hget h k 1,hget h k 2,hget h k 3,hget h k 4].getD o 0=hget h k o:=by
 obtain rfl|rfl|rfl|rfl|rfl:o=0∨o=1∨o=2∨o=3∨o=4:=by omega
 all_goals rfl
theorem k1i (h:List Int) (o:Nat) (w:World) (hh:HBd 1000 h) (ho:o<5) :
 Calls Tryz.prog 97 #[.agg (hcs h),.int .i64 o] w fun e w'=>e=.returned (.int .i64 (j0s h o))∧Below w.heap.size w w':=by
 have hl:=hh.1
 obtain⟨V,hV⟩:∃ V,V=w.alloc (Obj.cells (hcs h) 133):=⟨_,rfl⟩
 obtain⟨r,hr⟩:∃ r,r=w.heap.size:=⟨_,rfl⟩
 have b0:V.heap[r]?=some (hObj h):=by rw[hV,hr];exact j0c rfl
 have hB:Below w.heap.size w V:=by rw[hV];exact bal0 w _
 have HV:=zQ9 (zA9 hB hh)
 go_enter Tryz.func97,Tryz.ntmps97
 go_upto_region 1 with (fail)
 rw[←hV,←hr]
 clear hV hr hB hh
 go_upto_region 3 with ((with_reducible apply j0t b0 hl);(rfl);(rfl);(rfl))
 go_loopg [5,9] 3 (fun g sv iv wr=>∃ k:Nat,k+g=3∧iv=.int .i64 k∧sv=.int .i64 (j3h [hget h 0 o,hget h 1 o,hget h 2 o] k)∧Below V.heap.size V wr)
 case atStart=>exact⟨0,rfl,rfl,rfl,Below.refl _ _⟩
 case round =>
  obtain⟨k,hk,rfl,rfl,hb⟩:=hrel
  by_cases hlt:k<3
  ·have hsb:=k3s (r:=[hget h 0 o,hget h 1 o,hget h 2 o]) (fun x hx=>by
    simp only[List.mem_cons,List.not_mem_nil,or_false] at hx
    rcases hx with rfl|rfl|rfl
    ·exact HV.out.2.get (by decide) ho
    ·exact HV.out.2.get (by decide) ho
    ·exact HV.out.2.get (by decide) ho) k
   have hnx:j3h [hget h 0 o,hget h 1 o,hget h 2 o] (k+1)=j3h [hget h 0 o,hget h 1 o,hget h 2 o] k+hget h k o:=by
    show _+[hget h 0 o,hget h 1 o,hget h 2 o].getD k 0=_
    obtain rfl|rfl|rfl:k=0∨k=1∨k=2:=by omega
    all_goals rfl
   have hix:=run_row h hl wr k hlt
   have hc5:=cell5 (hget h k 0) (hget h k 1) (hget h k 2) (hget h k 3) (hget h k 4) wr 131 o ho
   rw[row_getD h k o ho] at hc5
   have hgb:=HV.out.2.get (f:=k) hlt ho
   obtain⟨S,hS⟩:∃ S,S=j3h [hget h 0 o,hget h 1 o,hget h 2 o] k:=⟨_,rfl⟩
   rw[←hS] at hsb hnx ⊢
   have HN:=zQ9 (zA9 hnx (zA9 hk hb))
   have hi1:(o:Int)<5:=by omega
   have hk3:(k:Int)<3:=by omega
   clear hS hnx hk hb
   go_wp2_with fail
   go_roundg (gk-1)
   case measure=>have:=HN.out.2.1;omega
   case rel=>exact⟨k+1,by have:=HN.out.2.1;omega,by go_num,by rw[HN.out.1],bal HN.out.2.2 (zL9 _) _⟩
  ·obtain rfl:k=3:=by omega
   have HN:=zQ9 hb
   clear hk hb
   go_wp2
   go_ret
   exact⟨j0k (by simp[j3h,j0s]),HV.out.1.trans (HN.out.mono HV.out.1.size)⟩
end Go.Proofs.YtmennjmjakdkcaaGreat
