/- HerdChecks 17: GridB, GridA, TalB. -/
import Derived.Test.YtmennjmjakdkcaaGreatCk01
import Derived.Test.YtmennjmjakdkcaaGreatCk05
import Derived.Test.YtmennjmjakdkcaaGreatCk06
import Derived.Test.YtmennjmjakdkcaaGreatCk16
set_option linter.unusedVariables false
set_option linter.unusedSimpArgs false
namespace Go.Proofs.YtmennjmjakdkcaaGreat
open Go.RowKit
theorem j9h {x:Value} (h:x.oneCell' = true):∀ u ∈ eVal x,u.oneCell' = true:=by
 intro u hu;simp [eVal] at hu;subst hu;exact h
theorem Grid.len {w:World} {A:Option Addr} {n:Nat} {ls:List (List Int)} (h:Grid w A n ls):ls.length = n:=by
 obtain ⟨mv,h1,h2,_⟩:=h
 rw [← h2];exact h1.len
set_option maxRecDepth 100000 in
set_option maxHeartbeats 2000000 in
theorem k5l (A:Option Addr) (n c:Nat) (x:List (List Int)) (B:Option Addr) (m d:Nat) (y:List (List Int)) (w:World) (hx:Grid w A n x) (hy:Grid w B m y) (hn:n ≤ maxLen) (hm:m ≤ maxLen) :
 Calls Tryz.prog 69 #[.slice A n c,.slice B m d] w fun e w' => e = .returned (.bool (j1e x y))∧Below w.heap.size w w':=by
 have HL:=zQ9 (zA9 hx.len hy.len)
 have HXY:=zQ9 (zA9 hx hy)
 unfold maxLen at hn hm
 clear hx hy
 by_cases hnm:n = m
 ·subst hnm
  have h0:(n != n) = false:=by simp
  have h0':((n:Int) != (n:Int)) = false:=by simp
  go_enter Tryz.func69,Tryz.ntmps69
  go_wp2_with fail
  go_loopg [5] n (fun g i wr => ∃ k:Nat,k + g = n∧i = .int .i64 k∧x.take k = y.take k∧Below w.heap.size w wr)
  case atStart => exact ⟨0,by omega,rfl,by simp,Below.refl _ _⟩
  case round =>
   obtain ⟨k,hk,rfl,htk,hbl⟩:=hrel
   have HK:=zQ9 (zA9 hk htk)
   have hkn:k ≤ n:=by omega
   clear hk htk
   by_cases hlt:k < n
   ·obtain ⟨b0,o0,C0,u,c0,rfl,hb0,hu,p0,hi0,hc0,hm0⟩:=Grid.get (HXY.out.1.below hbl (zL9 _)) hlt
    obtain ⟨b1,o1,C1,v,c1,rfl,hb1,hv,q0,hi1,hc1,hm1⟩:=Grid.get (HXY.out.2.below hbl (zL9 _)) hlt
    have i0:(0:Int) ≤ (k:Int):=by omega
    have i1:(k:Int) < (n:Int):=by omega
    have HUV:=zQ9 (zA9 hu hv)
    have hmu:u.length ≤ maxLen:=Nat.le_trans hc0 hm0
    have hmv:v.length ≤ maxLen:=Nat.le_trans hc1 hm1
    have cS:∀ d os,Calls Tryz.prog 48 #[.slice C0 u.length c0,.slice C1 v.length c1] (Sort.grow (redrawn wr d) os) (fun e w'' => e = .returned (.bool (j1e u v))∧∃ p:Regrown,w'' = Sort.grow (redrawn wr p.d) p.os):=fun d os =>
     Calls.regrown_of (j7m C0 u.length c0 u C1 v.length c1 v _ (hi0.below (below_regrown wr d os) (zL9 _)) (hi1.below (below_regrown wr d os) (zL9 _)) hmu hmv)
    clear hu hv hi0 hi1
    cases huv:j1e u v
    all_goals
     rw [huv] at cS
     have HC:=zQ9 cS
     have HE:=zQ9 huv
     clear cS huv
     go_upto_region 6 with (fail)
     have k0:=cell_regrown p0
     have k1:=cell_regrown q0
     refine wp_region_quiet_below (by kernel_rfl) (by kernel_rfl) ?_
     repeat (quiet_step (exact HC.out _ _))
     refine wpQuiet_nil ?_
     intro _ hw'
     obtain ⟨⟨dq,osq⟩,hw''⟩:=hw'
     subst hw''
     obtain ⟨w3,hW1⟩:∃ w3,w3 = Sort.grow (redrawn wr dq) osq:=⟨_,rfl⟩
     have hb3:Below wr.heap.size wr w3:=by rw [hW1];exact below_regrown wr dq osq
     rw [← hW1]
     have hbl3:=hbl.trans (hb3.mono hbl.size)
     clear hW1 k0 k1 p0 q0
     go_wp2
    ·go_ret
     exact ⟨j0o (by unfold j1e;rw [decide_eq_false (j7f HUV.out.1 HUV.out.2 (by have:=HE.out;unfold j1e at this;simpa using this))]),hbl3⟩
    ·go_roundg (gk - 1)
     case measure => have:=HK.out.1;omega
     case rel => exact ⟨k + 1,by have:=HK.out.1;omega,by go_num,j3w HK.out.2 HUV.out.1 HUV.out.2 (by have:=HE.out;unfold j1e at this;simpa using this),hbl3⟩
   ·obtain rfl:k = n:=by omega
    go_wp2
    go_ret
    refine ⟨j0o ?_,hbl⟩
    have h1:=HK.out.2
    rw [List.take_of_length_le (by have:=HL.out.1;omega),List.take_of_length_le (by have:=HL.out.2;omega)] at h1
    unfold j1e
    rw [decide_eq_true h1]
 ·have h0':((n:Int) != (m:Int)) = true:=by simp;omega
  have HNE:=zQ9 hnm
  clear hnm
  go_enter Tryz.func69,Tryz.ntmps69
  go_wp2
  go_ret
  refine ⟨j0o ?_,Below.refl _ _⟩
  unfold j1e
  rw [decide_eq_false (fun h => HNE.out (by rw [← HL.out.1,← HL.out.2,h]))]
section
variable {α:Type} {enc:α→List Value} {e te:TypeId} {sz:Nat} {w w':World} {base B:Nat} {v v' u:Value} {mv:List Value} {ls:List (List α)} {l:List α}
def RwsA (enc:α→List Value) (e:TypeId) (sz:Nat) (w:World) (base:Nat) (mv:List Value) (ls:List (List α)):Prop :=
 mv.length = ls.length∧∀ (i:Nat) v,mv[i]? = some v→∃ l,ls[i]? = some l∧Own enc e sz w base v l
def OwnA (enc:α→List Value) (e te:TypeId) (sz:Nat) (w:World) (base:Nat) (v:Value) (ls:List (List α)):Prop:=∃ mv,Own eVal te 1 w base v mv∧RwsA enc e sz w base mv ls
theorem OwnA.nil_:OwnA enc e te sz w base (.slice none 0 0) []:=⟨[],Own.nil_,rfl,fun i v h => by simp at h⟩
theorem OwnA.below (h:OwnA enc e te sz w base v ls) (hb:Below B w w') (hB:w.heap.size ≤ B):OwnA enc e te sz w' base v ls:=by
 obtain ⟨mv,h1,h2,h3⟩:=h
 exact ⟨mv,h1.below hb hB,h2,fun i v hv => by obtain ⟨l,hl,ho⟩:=h3 i v hv;exact ⟨l,hl,ho.below hb hB⟩⟩
theorem OwnA.alloc (h:OwnA enc e te sz w base v ls) (o:Obj):OwnA enc e te sz (w.alloc o) base v ls:=h.below (bal0 w o) (zL9 _)
theorem OwnA.mono {b:Nat} (h:OwnA enc e te sz w base v ls) (hb:b ≤ base):OwnA enc e te sz w b v ls:=by
 obtain ⟨mv,h1,h2,h3⟩:=h
 exact ⟨mv,h1.mono hb,h2,fun i v hv => by obtain ⟨l,hl,ho⟩:=h3 i v hv;exact ⟨l,hl,ho.mono hb⟩⟩
theorem OwnA.map {w':World} (h:OwnA enc e te sz w base v ls) (k1:∀ mv,Own eVal te 1 w base v mv→Own eVal te 1 w' base v mv) (k2:∀ u l,Own enc e sz w base u l→Own enc e sz w' base u l):OwnA enc e te sz w' base v ls:=by
 obtain ⟨mv,h1,h2,h3⟩:=h
 exact ⟨mv,k1 _ h1,h2,fun i v hv => by obtain ⟨l,hl,ho⟩:=h3 i v hv;exact ⟨l,hl,k2 _ _ ho⟩⟩
theorem OwnA.snoc (hne:e ≠ te) (h1:Own eVal te 1 w base v mv) (h2:RwsA enc e sz w base mv ls) (hu:Own enc e sz w base u l)
 (h3:Own eVal te 1 w' base v' (mv ++ [u])) (hg:w.grownBy w' v.ownBlock):OwnA enc e te sz w' base v' (ls ++ [l]):=by
 refine ⟨mv ++ [u],h3,by simp [h2.1],fun i x hx => ?_⟩
 rcases Nat.lt_or_ge i mv.length with hi | hi
 ·rw [List.getElem?_append_left hi] at hx
  obtain ⟨l',hl',ho⟩:=h2.2 i x hx
  exact ⟨l',by rw [List.getElem?_append_left (by rw [← h2.1];exact hi)];exact hl',ho.kept hg (j1d ho h1 hne)⟩
 ·rw [List.getElem?_append_right hi] at hx
  have h0:i - mv.length = 0:=by
   cases hd:i - mv.length with
   | zero => rfl
   | succ k => rw [hd] at hx;simp at hx
  rw [h0] at hx
  simp only [List.getElem?_cons_zero,Option.some.injEq] at hx
  subst hx
  refine ⟨l,?_,hu.kept hg (j1d hu h1 hne)⟩
  rw [List.getElem?_append_right (by rw [← h2.1];exact hi),show i - ls.length = 0 by rw [← h2.1];exact h0]
  rfl
theorem k8k {P:Program} {tt:TypeId} (E:ElemOk P tt te 1 24) (hne:e ≠ te) {ops:Array Oper} {rest:List Oper} {o:Oper} {a:Act} {Q:Exit→Act→World→Prop} {w:World}
 (hgd:o.guard = none) (s x:Operand) (ho:o.op = .call { callee:=.builtin .append,args:=#[s,x],argTypes:=#[tt,tt] })
 (base:Nat) (v u:Value) (ls:List (List α)) (l:List α) (hs:a.eval s = v) (hx:a.eval x = .slice (some ⟨w.heap.size,0,none⟩) 1 1)
 (hown:OwnA enc e te sz w base v ls) (hu:Own enc e sz w base u l) (hll:ls.length < 4294967296) (hbase:base ≤ w.heap.size)
 (h:∀ v' w',OwnA enc e te sz w' base v' (ls ++ [l])→Below base w w'→(∀ (k:Nat) cs T,T ≠ te→w.heap[k]? = some (.cells cs T (0,0))→w'.heap[k]? = some (.cells cs T (0,0)))→wpList P ops Q rest (a.put o.dst v') w') :
 wpList P ops Q (o :: rest) a (w.alloc (.cells #[u] te)):=by
 obtain ⟨mv,h1,h2⟩:=hown
 have h1u:u.oneCell' = true:=by
  rcases hu.2 with ⟨rfl,_⟩ | ⟨g,cap,cur,rfl,_⟩ <;> rfl
 refine k0u (P:=P) E hgd s x ho base v mv u #[u] hs hx rfl rfl (j9h h1u) h1 (by rw [h2.1];exact hll) (by decide) hbase ?_
 intro g' cap w' ho' hg hb
 refine h _ _ (OwnA.snoc hne h1 h2 hu ho' hg) hb fun k cs T hT hk => (hg.block k (j0a hk) fun e => ?_).trans hk
 rcases h1.2 with ⟨rfl,_⟩ | ⟨g,cap,cur,rfl,_,k2,_⟩
 ·cases e
 ·simp only [Value.ownBlock,Option.some.injEq] at e
  subst e
  rw [k2] at hk
  cases hk
  exact hT rfl
def j2j (enc:α→List Value) (sz:Nat) (w:World) (A:Option Addr) (n:Nat) (ls:List (List α)):Prop :=
 ∃ mv,Sl eVal 1 w A n mv∧mv.length = ls.length∧∀ (i:Nat) v,mv[i]? = some v→∃ B l c,ls[i]? = some l∧v = .slice B l.length c∧Sl enc sz w B l.length l∧l.length ≤ c∧c ≤ maxLen
theorem OwnA.form (henc:∀ x,(enc x).length = sz) (h:OwnA enc e te sz w base v ls):∃ A c,v = .slice A ls.length c∧j2j enc sz w A ls.length ls∧ls.length ≤ c∧c ≤ maxLen:=by
 obtain ⟨mv,h1,h2,h3⟩:=h
 obtain ⟨A,c,hv,hs,hc,hm⟩:=h1.form j2t
 rw [h2] at hv hs hc
 refine ⟨A,c,hv,⟨mv,hs,h2,fun i v hv => ?_⟩,hc,hm⟩
 obtain ⟨l,hl,ho⟩:=h3 i v hv
 obtain ⟨B,c',hv',hs',hc',hm'⟩:=ho.form henc
 exact ⟨B,l,c',hl,hv',hs',hc',hm'⟩
theorem j2j.below {A:Option Addr} {n:Nat} (h:j2j enc sz w A n ls) (hb:Below B w w') (hB:w.heap.size ≤ B):j2j enc sz w' A n ls:=by
 obtain ⟨mv,h1,h2,h3⟩:=h
 exact ⟨mv,h1.below hb hB,h2,fun i v hv => by
  obtain ⟨C,l,c,a1,a2,a3,a4,a5⟩:=h3 i v hv
  exact ⟨C,l,c,a1,a2,a3.below hb hB,a4,a5⟩⟩
theorem j2j.get {A:Option Addr} {n:Nat} (h:j2j enc sz w A n ls) {k:Nat} (hk:k < n) :
 ∃ b off B l c,A = some ⟨b,off,none⟩∧b < w.heap.size∧ls[k]? = some l∧w.cell? ⟨b,off + k,none⟩ = some (.slice B l.length c)∧Sl enc sz w B l.length l∧l.length ≤ c∧c ≤ maxLen:=by
 obtain ⟨mv,h1,h2,h3⟩:=h
 obtain ⟨b,off,x,hA,hb,hx,hc⟩:=Vals.get h1 hk
 obtain ⟨B,l,c,a1,a2,a3,a4,a5⟩:=h3 k x hx
 subst a2
 exact ⟨b,off,B,l,c,hA,hb,a1,hc,a3,a4,a5⟩
end
theorem k3j {P:Program} {tt:TypeId} (E:ElemOk P tt 25 1 24) {ops:Array Oper} {rest:List Oper} {o:Oper} {a:Act} {Q:Exit→Act→World→Prop} {w0 w:World}
 (hgd:o.guard = none) (s x:Operand) (ho:o.op = .call { callee:=.builtin .append,args:=#[s,x],argTypes:=#[tt,tt] })
 (base:Nat) (v u:Value) (ls:List (List Int)) (l:List Int) (hs:a.eval s = v) (hx:a.eval x = .slice (some ⟨w.heap.size,0,none⟩) 1 1)
 (hown:EndG w0 base v ls) (hb0:Below w0.heap.size w0 w) (hu:OwnI w w0.heap.size u l) (hll:ls.length < 4294967296) (hbase:base ≤ w0.heap.size)
 (h:∀ v' w',EndG w' base v' (ls ++ [l])→Below base w w'→(∀ (k:Nat) cs T,T ≠ 25→w.heap[k]? = some (.cells cs T (0,0))→w'.heap[k]? = some (.cells cs T (0,0)))→(∀ k,k < w.heap.size→v.ownBlock ≠ some k→w'.heap[k]? = w.heap[k]?)→wpList P ops Q rest (a.put o.dst v') w') :
 wpList P ops Q (o :: rest) a (w.alloc (.cells #[u] 25)):=by
 obtain ⟨mv,h1,h2,h4⟩:=hown
 have h1u:u.oneCell' = true:=by
  rcases hu.2 with ⟨rfl,_⟩ | ⟨g,cap,cur,rfl,_⟩ <;> rfl
 have h1w:=h1.below hb0 (zL9 _)
 have h2w:Rws w base mv ls:=⟨h2.1,fun i v hv => by obtain ⟨l,hl,ho⟩:=h2.2 i v hv;exact ⟨l,hl,ho.below hb0 (zL9 _)⟩⟩
 refine k0u (P:=P) E hgd s x ho base v mv u #[u] hs hx rfl rfl (j9h h1u) h1w (by rw [h2.1];exact hll) (by decide) (Nat.le_trans hbase hb0.size) ?_
 intro g' cap w' ho' hg hb
 refine h _ _ (EndG.snoc h1w h2w h4 hu hbase (fun x hx k hk => ?_) ho' hg) hb (fun k cs T hT hk => (hg.block k (j0a hk) fun e => ?_).trans hk) fun k hk hne => hg.block k hk (fun e => hne e.symm)
 ·obtain ⟨i,hi⟩:=List.mem_iff_getElem?.1 hx
  obtain ⟨l',_,ho⟩:=h2.2 i x hi
  exact (ho.lt k hk).2
 ·rcases h1w.2 with ⟨rfl,_⟩ | ⟨g,cap,cur,rfl,_,k2,_⟩
  ·cases e
  ·simp only [Value.ownBlock,Option.some.injEq] at e
   subst e
   rw [k2] at hk
   cases hk
   exact hT rfl
def j1a (w:World) (A:Option Addr) (n:Nat) (ls:List (List Int)):Prop :=
 ∃ mv,Sl eVal 1 w A n mv∧mv.length = ls.length∧∀ (i:Nat) v,mv[i]? = some v→∃ B l c,ls[i]? = some l∧v = .slice B l.length c∧Ints w B l.length l∧l.length ≤ c∧c ≤ maxLen∧(B = none→c = 0)
theorem j1a.below {w w':World} {A:Option Addr} {n B:Nat} {ls:List (List Int)} (h:j1a w A n ls) (hb:Below B w w') (hB:w.heap.size ≤ B):j1a w' A n ls:=by
 obtain ⟨mv,h1,h2,h3⟩:=h
 exact ⟨mv,h1.below hb hB,h2,fun i v hv => by
  obtain ⟨C,l,c,a1,a2,a3,a4,a5,a6⟩:=h3 i v hv
  exact ⟨C,l,c,a1,a2,a3.below hb hB,a4,a5,a6⟩⟩
theorem j1a.grid {w:World} {A:Option Addr} {n:Nat} {ls:List (List Int)} (h:j1a w A n ls):Grid w A n ls:=by
 obtain ⟨mv,h1,h2,h3⟩:=h
 exact ⟨mv,h1,h2,fun i v hv => by
  obtain ⟨C,l,c,a1,a2,a3,a4,a5,a6⟩:=h3 i v hv
  exact ⟨C,l,c,a1,a2,a3,a4,a5⟩⟩
theorem j1a.get {w:World} {A:Option Addr} {n:Nat} {ls:List (List Int)} (h:j1a w A n ls) {k:Nat} (hk:k < n) :
 ∃ b off B l c,A = some ⟨b,off,none⟩∧b < w.heap.size∧ls[k]? = some l∧w.cell? ⟨b,off + k,none⟩ = some (.slice B l.length c)∧Ints w B l.length l∧l.length ≤ c∧c ≤ maxLen∧(B = none→c = 0):=by
 obtain ⟨mv,h1,h2,h3⟩:=h
 obtain ⟨b,off,x,hA,hb,hx,hc⟩:=Vals.get h1 hk
 obtain ⟨B,l,c,a1,a2,a3,a4,a5,a6⟩:=h3 k x hx
 subst a2
 exact ⟨b,off,B,l,c,hA,hb,a1,hc,a3,a4,a5,a6⟩
theorem Own.formZ {α:Type} {enc:α→List Value} {e:TypeId} {sz:Nat} {w:World} {base:Nat} {v:Value} {l:List α} (h:Own enc e sz w base v l) (henc:∀ x,(enc x).length = sz):∃ A c,v = .slice A l.length c∧Sl enc sz w A l.length l∧l.length ≤ c∧c ≤ maxLen∧(A = none→c = 0):=by
 obtain ⟨A,c,e,h1,h2,h3⟩:=h.form henc
 refine ⟨A,c,e,h1,h2,h3,fun hA => ?_⟩
 rcases h.2 with ⟨hv,_⟩ | ⟨g,cap,cur,hv,_⟩
 ·rw [e] at hv;injection hv with _ _ e3
 ·rw [e,hA] at hv;injection hv with e1;cases e1
theorem OwnG.formZ {w:World} {base:Nat} {v:Value} {ls:List (List Int)} (h:OwnG w base v ls):∃ A c,v = .slice A ls.length c∧j1a w A ls.length ls∧ls.length ≤ c∧c ≤ maxLen∧(A = none→c = 0):=by
 obtain ⟨mv,h1,h2,h3⟩:=h
 obtain ⟨A,c,hv,hs,hc,hm,hz⟩:=h1.formZ j2t
 rw [h2] at hv hs hc
 refine ⟨A,c,hv,⟨mv,hs,h2,fun i v hv => ?_⟩,hc,hm,hz⟩
 obtain ⟨l,hl,ho⟩:=h3 i v hv
 obtain ⟨B,c',hv',hs',hc',hm',hz'⟩:=ho.formZ j0s
 exact ⟨B,l,c',hl,hv',hs',hc',hm',hz'⟩
set_option maxRecDepth 100000 in
set_option maxHeartbeats 1000000 in
theorem j9q (A:Option Addr) (n c:Nat) (ls:List (List Int)) (w:World) (hl:j1a w A n ls) (hn:n ≤ 1000) (hr:∀ r ∈ ls,r.length ≤ 1000) :
 Calls Tryz.prog 53 #[.slice A n c] w fun e w' => (∃ v,e = .returned v∧EndG w' w.heap.size v ls)∧Below w.heap.size w w':=by
 have hlen:ls.length = n:=hl.grid.len
 have HL:=zQ9 (zA9 hl (zA9 hlen hr))
 clear hl hlen hr
 go_enter Tryz.func53,Tryz.ntmps53
 go_wp2_with fail
 go_loopg [3,4] n (fun g v3 v4 wr => ∃ k:Nat,k + g = n∧v4 = .int .i64 k∧EndG wr w.heap.size v3 (ls.take k)∧Below w.heap.size w wr)
 case atStart => exact ⟨0,by omega,rfl,by simpa using EndG.nil_,Below.refl _ _⟩
 case round =>
  obtain ⟨k,hk,rfl,hown,hB⟩:=hrel
  have hBz:=hB.size
  by_cases hlt:k < n
  ·obtain ⟨b,off,B,l,c',rfl,hbb,hl,hc,hi,hlc,hcm,hz⟩:=(HL.out.1.below hB (zL9 _)).get hlt
   have hll:=HL.out.2.2 l (List.mem_of_getElem? hl)
   have hci:=j9s B l.length c' l wr hi hz (by omega)
   obtain ⟨m,hm⟩:∃ m,m = l.length:=⟨_,rfl⟩
   rw [← hm] at hc hci
   have htl:(ls.take k).length < 4294967296:=by rw [List.length_take];omega
   have h1:(k:Int) < (n:Int):=by omega
   have h2:(n:Int) ≤ 1000:=by omega
   have HK:=zQ9 (zA9 hk (zA9 hown (zA9 hB (zA9 hl hm))))
   have HC:=zQ9 hci
   clear hk hown hB hl hm hci hi hll hlc hz
   go_wp2_with (first
    | (go_at_call 52;refine HC.out.mono ?_;rintro e w2 ⟨v2,rfl,hov,hb2⟩;obtain ⟨A2,c2,rfl,_,_,_⟩:=hov.form j0s;have H2:=zQ9 (zA9 hov hb2);clear hov hb2)
    | (at_builtin;refine k3j k2x rfl (.tmp 11) (.tmp 17) rfl w.heap.size _ _ (ls.take k) _ rfl rfl HK.out.2.1 H2.out.2 H2.out.1 htl hBz ?_;intro v' w4 hown4 hb4 _ _;have H4:=zQ9 (zA9 hown4 hb4);clear hown4 hb4))
   go_roundg (gk - 1)
   case measure => have:=HK.out.1;omega
   case rel =>
    refine ⟨k + 1,by have:=HK.out.1;omega,by go_num,?_,HK.out.2.2.1.trans ((H2.out.2.mono hBz).trans (H4.out.2.mono ?_))⟩
    ·rw [List.take_add_one,HK.out.2.2.2.1];exact H4.out.1
    ·exact zL9 _
  ·obtain rfl:k = n:=by omega
   have e:ls.take k = ls:=List.take_of_length_le (by rw [HL.out.2.1];exact zL9 _)
   rw [e] at hown
   have HF:=zQ9 (zA9 hown hB)
   clear hown hB e
   go_wp2_with fail
   go_ret
   exact ⟨⟨_,rfl,HF.out.1⟩,HF.out.2⟩
end Go.Proofs.YtmennjmjakdkcaaGreat
