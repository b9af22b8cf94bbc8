/- HerdChecks 39: HdU, HdOw, HdSm, HdGo. -/
import Derived.Test.YtmennjmjakdkcaaGreatCk01
import Derived.Test.YtmennjmjakdkcaaGreatCk38
import Derived.Test.YtmennjmjakdkcaaGreatCk08
import Derived.Test.YtmennjmjakdkcaaGreatCk16
set_option linter.unusedVariables false
set_option linter.unusedSimpArgs false
namespace Go.Proofs.YtmennjmjakdkcaaGreat
open Go.RowKit Go.MapKept
def askE (b:Hb):Int:=if b.chk ≠ 0 then b.chk else if b.ends (-1) 0 = [] then 11 else 0
theorem askE_chk {b:Hb} (h:b.chk ≠ 0):askE b = b.chk:=if_pos h
theorem q0r {b:Hb} (h:b.chk = 0) (h':b.ends (-1) 0 = []):askE b = 11:=by unfold askE;rw [if_neg (by rw [h];simp),if_pos h']
theorem k8n {b:Hb} (h:b.chk = 0) (h':b.ends (-1) 0 ≠ []):askE b = 0:=by unfold askE;rw [if_neg (by rw [h];simp),if_neg h']
def j6a (E:List (List Int)) (n k:Nat):List (List Rn):=(List.range k).map fun f => (List.range n).map fun o => j0r E fun h => hget h f o
theorem k9q (E:List (List Int)) (n k:Nat):j6a E n (k + 1) = j6a E n k ++ [j1i E (fun i x => hget x k i) n]:=by unfold j6a;rw [List.range_succ,List.map_append];rfl
theorem q1p (E:List (List Int)) (n k:Nat):(j6a E n k).length = k:=by simp [j6a]
def hasR (b:Hb):List (List Rn):=if askE b = 0 then hasL (b.ends (-1) 0) b.l.length b.ks.length else []
def HasR (b:Hb) (w:World) (e:Ending) (w':World):Prop:=(∃ v,e = .returned (.tuple #[v,.int .i64 (askE b)])∧OwnT w' w.heap.size v (hasR b))∧Below w.heap.size w w'
set_option maxRecDepth 100000 in
set_option maxHeartbeats 1000000 in
theorem Has_any (b:Hb) (w:World) (hin:HbIn w b):Calls Tryz.prog 29 #[b.v] w (HasR b w):=by
 obtain ⟨V,hV⟩:∃ V,V = w.alloc b.obj:=⟨_,rfl⟩
 obtain ⟨g,hg⟩:∃ g,g = w.heap.size:=⟨_,rfl⟩
 have b0:V.heap[g]? = some b.obj:=by rw [hV,hg];exact j0c rfl
 have hBV:Below w.heap.size w V:=by rw [hV];exact bal0 w _
 have hiV:=hin.below hBV (zL9 _)
 obtain ⟨c0,c1,c2,c3,c4⟩:=j0i b0
 have hak:=j6d b V hiV
 unfold Hb.v at hak
 have HV:=zQ9 (zA9 hBV (zA9 b0 (zA9 hiV hg)))
 have hent:∀ (args:Array Value) (w:World),(callFunc 96 args).run Tryz.prog w = .ok (.enter 96 args) w:=enters_of Tryz.func96 (by kernel_rfl) rfl
 have HENT:=zQ9 hent
 unfold Hb.v
 go_enter Tryz.func29,Tryz.ntmps29
 go_upto_region 1 with (fail)
 rw [← hV,← hg]
 clear hV hg hin hBV hiV b0 hent
 obtain ⟨R,hR⟩:∃ R,R = j3k b b.chk V:=⟨_,rfl⟩
 rw [← hR] at hak
 have HR:=zQ9 hR
 clear hR
 go_upto_region 2 with (go_at_call 55;refine hak.mono ?_;rintro e w2 hRR;rw [HR.out] at hRR;unfold j3k at hRR;rcases hRR with ⟨h0,rfl,hb2⟩ | ⟨h0,p,rfl,hWk,hb2⟩)
 ·have xf:(b.chk != 0) = true:=by simp [h0]
  go_wp2_with fail
  go_ret2
  unfold HasR hasR
  rw [askE_chk h0,if_neg h0]
  exact ⟨⟨_,rfl,OwnA.nil_⟩,HV.out.1.trans (hb2.mono HV.out.1.size)⟩
 have x0:=j0f HV.out.2.1 hb2 (zL9 _)
 have hok:=hWk.ok
 have hgp:g ≠ p:=by have:=hWk.hz;have:=j0a HV.out.2.1;omega
 clear c0 c1 c2 c3 c4 hak
 obtain ⟨c0,c1,c2,c3,c4⟩:=j0i x0
 have hpl:=hWk.lt
 obtain ⟨n,hn⟩:∃ n,n = b.l.length:=⟨_,rfl⟩
 obtain ⟨nk,hnk⟩:∃ nk,nk = b.ks.length:=⟨_,rfl⟩
 rw [← hn] at c1
 rw [← hnk] at c2
 have hn0:0 < n∧n ≤ 5:=by rw [hn];exact ⟨hok.n0,hok.n5⟩
 have hk0:0 < nk∧nk ≤ 3:=by rw [hnk];exact ⟨hok.f0,hok.f3⟩
 have H2:=zQ9 (zA9 hb2 (zA9 hWk (zA9 h0 (zA9 hn (zA9 hnk (zA9 hok (zA9 hgp x0)))))))
 clear hb2 hWk h0 hn hnk hok hgp x0
 go_wp2_with fail
 go_loopg [6,21] nk (fun g' v6 v21 wr => ∃ k:Nat,k + g' = nk∧v21 = .int .i64 k∧(0 < k→b.ends (-1) 0 ≠ [])∧OwnT wr w2.heap.size v6 (j6a (b.ends (-1) 0) n k)∧NowIn p (b.bk (-1) 0) w2 wr)
 case atStart => exact ⟨0,by omega,rfl,fun h => absurd h (by omega),OwnA.nil_,H2.out.2.1.refl⟩
 case round =>
  obtain ⟨k,hk,rfl,hne,hown,hN⟩:=hrel
  by_cases hlt:k < nk
  ·have i1:(k:Int) < (nk:Int):=by omega
   have i2:(nk:Int) ≤ 3:=by omega
   obtain ⟨wi,hwi⟩:∃ wi,wi = wr.alloc (Obj.cells #[Value.int .i64 (k:Int)] 3):=⟨_,rfl⟩
   obtain ⟨gi,hgi⟩:∃ gi,gi = wr.heap.size:=⟨_,rfl⟩
   have hNi:NowIn p (b.bk (-1) 0) w2 wi:=by rw [hwi];exact hN.below hpl (bal0 wr _) hN.size
   have bii:wi.heap[gi]? = some (Obj.cells #[Value.int .i64 (k:Int)] 3 (0,0)):=by rw [hwi,hgi];exact j0c rfl
   have hgpi:gi ≠ p:=by have:=hN.lt;omega
   have howni:OwnT wi w2.heap.size u6 (j6a (b.ends (-1) 0) n k):=by rw [hwi];exact OwnA.alloc hown _
   have hzi:w2.heap.size ≤ wi.heap.size:=hNi.size
   have xg:=hNi.blk H2.out.2.2.2.2.2.2.2 H2.out.2.2.2.2.2.2.1
   clear c0 c1 c2 c3 c4
   obtain ⟨c0,c1,c2,c3,c4⟩:=j0i xg
   rw [← H2.out.2.2.2.1] at c1
   have hsp:=q2q V p b (-1) 0 wi (H2.out.2.1.now hNi) n hn0.1 (by omega) 96 #[.pointer (some ⟨gi,0,none⟩)] (fun i x => hget x k i) HENT.out (fun x hx i hi W hNW =>
    hasF_any x k i gi W ((j4u H2.out.2.2.2.2.2.1.f3 H2.out.2.2.2.2.2.1.n5 H2.out.2.2.2.2.2.1.rb H2.out.2.2.2.2.2.1.dI _ x hx).1) (by omega) (by omega) (hNW.blk bii hgpi))
   have HI:=zQ9 (zA9 hNi (zA9 bii (zA9 howni (zA9 hzi (zA9 hne hk)))))
   have HWI:=zQ9 hwi
   have HGI:=zQ9 hgi
   clear hNi bii hgpi howni hzi hne hk hown hN xg hwi hgi
   go_upto_region 8 with (fail)
   rw [← HWI.out,← HGI.out]
   go_upto_region 9 with (go_at_call 95;refine hsp.mono ?_;rintro e w3 ⟨⟨v,rfl,hov⟩,hN3⟩)
   have hN3':=HI.out.1.trans hN3
   have hb3:Below w.heap.size w w3:=(HV.out.1.trans (H2.out.1.mono HV.out.1.size)).trans (hN3'.less (Nat.le_trans HV.out.1.size H2.out.2.1.hz) (Nat.le_trans HV.out.1.size H2.out.1.size))
   have hp2:p < w2.heap.size:=hpl
   have hovw:OwnR w3 w2.heap.size v (k0d (b.ends (-1) 0) (fun i x => hget x k i) n):=hov.mono HI.out.2.2.2.1
   have hownw:OwnT w3 w2.heap.size u6 (j6a (b.ends (-1) 0) n k):=HI.out.2.2.1.now hN3 hp2
   have H3:=zQ9 (zA9 hN3' (zA9 hb3 (zA9 hovw hownw)))
   have hz3:=hN3'.size
   clear hN3 hN3' hb3 hov hovw hownw hsp
   by_cases hE:b.ends (-1) 0 = []
   ·have HE:=zQ9 hE
    rw [k3i hE]
    clear hE
    go_wp2_with fail
    go_ret2
    unfold HasR hasR
    rw [q0r H2.out.2.2.1 HE.out,if_neg (by decide)]
    exact ⟨⟨_,rfl,OwnA.nil_⟩,H3.out.2.1⟩
   ·have HE:=zQ9 hE
    rw [k3h hE]
    clear hE
    have hll:(j6a (b.ends (-1) 0) n k).length < 4294967296:=by rw [q1p];omega
    have hov1:=H3.out.2.2.1
    unfold k0d at hov1
    rw [if_neg HE.out] at hov1
    obtain ⟨Av,cv,hve,-,-,-⟩:=hov1.form k0m
    have HOV:=zQ9 hov1
    clear hov1
    subst hve
    go_wp2_with (at_builtin;refine k8k okRns (by decide) rfl (.tmp 37) (.tmp 39) rfl w2.heap.size _ _ (j6a (b.ends (-1) 0) n k) _ rfl rfl H3.out.2.2.2 HOV.out hll hz3 ?_;intro v' w4 hown4 hb4 _;have H4:=zQ9 (zA9 hown4 hb4);clear hown4 hb4)
    go_roundg (gk - 1)
    case measure => have:=HI.out.2.2.2.2.2;omega
    case rel => exact ⟨k + 1,by have:=HI.out.2.2.2.2.2;omega,by go_num,fun _ => HE.out,by rw [k9q];exact H4.out.1,H3.out.1.below hpl H4.out.2 (zL9 _)⟩
  ·obtain rfl:k = nk:=by omega
   have HF:=zQ9 (zA9 (hne hk0.1) (zA9 hown hN))
   clear hne hown hN hk
   go_wp2_with fail
   go_ret2
   unfold HasR hasR
   rw [k8n H2.out.2.2.1 HF.out.1,if_pos rfl]
   refine ⟨⟨_,rfl,?_⟩,(HV.out.1.trans (H2.out.1.mono HV.out.1.size)).trans (HF.out.2.2.less (Nat.le_trans HV.out.1.size H2.out.2.1.hz) (Nat.le_trans HV.out.1.size H2.out.1.size))⟩
   have:=HF.out.2.1
   rw [H2.out.2.2.2.1,H2.out.2.2.2.2.1] at this
   exact OwnA.mono this (Nat.le_trans HV.out.1.size H2.out.1.size)
set_option maxRecDepth 100000 in
theorem run_row3 (x0 x1 x2 x3 x4 x5 x6 x7 x8 x9 x10 x11 x12 x13 x14:Int) (w:World) :
 (Instr.index 133 (.agg #[.int .i64 x0,.int .i64 x1,.int .i64 x2,.int .i64 x3,.int .i64 x4,.int .i64 x5,.int .i64 x6,.int .i64 x7,.int .i64 x8,.int .i64 x9,.int .i64 x10,.int .i64 x11,.int .i64 x12,.int .i64 x13,.int .i64 x14]) (.int .i64 0)).run Tryz.prog w = .ok (.agg #[.int .i64 x0,.int .i64 x1,.int .i64 x2,.int .i64 x3,.int .i64 x4]) w ∧
 (Instr.index 133 (.agg #[.int .i64 x0,.int .i64 x1,.int .i64 x2,.int .i64 x3,.int .i64 x4,.int .i64 x5,.int .i64 x6,.int .i64 x7,.int .i64 x8,.int .i64 x9,.int .i64 x10,.int .i64 x11,.int .i64 x12,.int .i64 x13,.int .i64 x14]) (.int .i64 1)).run Tryz.prog w = .ok (.agg #[.int .i64 x5,.int .i64 x6,.int .i64 x7,.int .i64 x8,.int .i64 x9]) w ∧
 (Instr.index 133 (.agg #[.int .i64 x0,.int .i64 x1,.int .i64 x2,.int .i64 x3,.int .i64 x4,.int .i64 x5,.int .i64 x6,.int .i64 x7,.int .i64 x8,.int .i64 x9,.int .i64 x10,.int .i64 x11,.int .i64 x12,.int .i64 x13,.int .i64 x14]) (.int .i64 2)).run Tryz.prog w = .ok (.agg #[.int .i64 x10,.int .i64 x11,.int .i64 x12,.int .i64 x13,.int .i64 x14]) w:=⟨by kernel_rfl,by kernel_rfl,by kernel_rfl⟩
theorem run_row (h:List Int) (hl:h.length = 15) (w:World) (k:Nat) (hk:k < 3) :
 (Instr.index 133 (.agg (hcs h)) (.int .i64 (k:Int))).run Tryz.prog w = .ok (.agg #[.int .i64 (hget h k 0),.int .i64 (hget h k 1),.int .i64 (hget h k 2),.int .i64 (hget h k 3),.int .i64 (hget h k 4)]) w:=by
 obtain ⟨a,b,c,d,e,f,g,i,j,l,m,n,o,p,q,rfl⟩:=k0n hl
 obtain ⟨h0,h1,h2⟩:=run_row3 a b c d e f g i j l m n o p q w
 obtain rfl | rfl | rfl:k = 0 ∨ k = 1 ∨ k = 2:=by omega
 ·exact h0
 ·exact h1
 ·exact h2
theorem cell5 (x0 x1 x2 x3 x4:Int) (w:World) (e:TypeId) (o:Nat) (ho:o < 5):(w.alloc (Obj.cells #[.int .i64 x0,.int .i64 x1,.int .i64 x2,.int .i64 x3,.int .i64 x4] e)).cell? ⟨w.heap.size,o,none⟩ = some (.int .i64 ([x0,x1,x2,x3,x4].getD o 0)):=by
 have h:(w.alloc (Obj.cells #[.int .i64 x0,.int .i64 x1,.int .i64 x2,.int .i64 x3,.int .i64 x4] e)).heap[w.heap.size]? = some (Obj.cells #[.int .i64 x0,.int .i64 x1,.int .i64 x2,.int .i64 x3,.int .i64 x4] e):=j0c rfl
 obtain rfl | rfl | rfl | rfl | rfl:o = 0 ∨ o = 1 ∨ o = 2 ∨ o = 3 ∨ o = 4:=by omega
 all_goals
  unfold World.cell?
  rw [h]
  rfl
theorem row_getD (h:List Int) (k o:Nat) (ho:o < 5):[hget h k 0,hget h k 1,hget h k 2,hget h k 3,hget h k 4].getD o 0 = hget h k o:=by
 obtain rfl | rfl | rfl | rfl | rfl:o = 0 ∨ o = 1 ∨ o = 2 ∨ o = 3 ∨ o = 4:=by omega
 all_goals rfl
set_option maxRecDepth 100000 in
set_option maxHeartbeats 2000000 in
theorem q2i (h:List Int) (o:Nat) (w:World) (hh:HBd 1000 h) (ho:o < 5) :
 Calls Tryz.prog 97 #[.agg (hcs h),.int .i64 o] w fun e w' => e = .returned (.int .i64 (j1r h o))∧Below w.heap.size w w':=by
 have hl:=hh.1
 obtain ⟨V,hV⟩:∃ V,V = w.alloc (Obj.cells (hcs h) 133):=⟨_,rfl⟩
 obtain ⟨r,hr⟩:∃ r,r = w.heap.size:=⟨_,rfl⟩
 have b0:V.heap[r]? = some (hObj h):=by rw [hV,hr];exact j0c rfl
 have hB:Below w.heap.size w V:=by rw [hV];exact bal0 w _
 have HV:=zQ9 (zA9 hB hh)
 go_enter Tryz.func97,Tryz.ntmps97
 go_upto_region 1 with (fail)
 rw [← hV,← hr]
 clear hV hr hB hh
 go_upto_region 3 with ((with_reducible apply j0t b0 hl);(rfl);(rfl);(rfl))
 go_loopg [5,9] 3 (fun g sv iv wr => ∃ k:Nat,k + g = 3∧iv = .int .i64 k∧sv = .int .i64 (j2y [hget h 0 o,hget h 1 o,hget h 2 o] k)∧Below V.heap.size V wr)
 case atStart => exact ⟨0,rfl,rfl,rfl,Below.refl _ _⟩
 case round =>
  obtain ⟨k,hk,rfl,rfl,hb⟩:=hrel
  by_cases hlt:k < 3
  ·have hsb:=k2d (r:=[hget h 0 o,hget h 1 o,hget h 2 o]) (fun x hx => by
    simp only [List.mem_cons,List.not_mem_nil,or_false] at hx
    rcases hx with rfl | rfl | rfl
    ·exact HV.out.2.get (by decide) ho
    ·exact HV.out.2.get (by decide) ho
    ·exact HV.out.2.get (by decide) ho) k
   have hnx:j2y [hget h 0 o,hget h 1 o,hget h 2 o] (k + 1) = j2y [hget h 0 o,hget h 1 o,hget h 2 o] k + hget h k o:=by
    show _ + [hget h 0 o,hget h 1 o,hget h 2 o].getD k 0 = _
    obtain rfl | rfl | rfl:k = 0 ∨ k = 1 ∨ k = 2:=by omega
    all_goals rfl
   have hix:=run_row h hl wr k hlt
   have hc5:=cell5 (hget h k 0) (hget h k 1) (hget h k 2) (hget h k 3) (hget h k 4) wr 131 o ho
   rw [row_getD h k o ho] at hc5
   have hgb:=HV.out.2.get (f:=k) hlt ho
   obtain ⟨S,hS⟩:∃ S,S = j2y [hget h 0 o,hget h 1 o,hget h 2 o] k:=⟨_,rfl⟩
   rw [← hS] at hsb hnx ⊢
   have HN:=zQ9 (zA9 hnx (zA9 hk hb))
   have hi1:(o:Int) < 5:=by omega
   have hk3:(k:Int) < 3:=by omega
   clear hS hnx hk hb
   go_wp2_with fail
   go_roundg (gk - 1)
   case measure => have:=HN.out.2.1;omega
   case rel => exact ⟨k + 1,by have:=HN.out.2.1;omega,by go_num,by rw [HN.out.1],bal HN.out.2.2 (zL9 _) _⟩
  ·obtain rfl:k = 3:=by omega
   have HN:=zQ9 hb
   clear hk hb
   go_wp2
   go_ret
   exact ⟨j0k (by simp [j2y,j1r]),HV.out.1.trans (HN.out.mono HV.out.1.size)⟩
def smV (s:Sm):Value:=.agg #[.int .i64 s.first,.int .i64 s.born,.int .i64 s.bought,.int .i64 s.sold,.int .i64 s.eaten]
abbrev smO (a b c d e:Int):Obj:=.cells #[.int .i64 a,.int .i64 b,.int .i64 c,.int .i64 d,.int .i64 e] 46 (0,0)
def SmB (B:Int) (s:Sm):Prop:=(0 ≤ s.first∧s.first ≤ B)∧(0 ≤ s.born∧s.born ≤ B)∧(0 ≤ s.bought∧s.bought ≤ B)∧(0 ≤ s.sold∧s.sold ≤ B)∧(0 ≤ s.eaten∧s.eaten ≤ B)
theorem stepS_bd {B:Int} {o:Int} {s:Sm} {d:De} (h:SmB B s) (hm:0 ≤ d.many∧d.many ≤ 300):SmB (B + 300) (j1c o s d):=by
 obtain ⟨h1,h2,h3,h4,h5⟩:=h
 unfold j1c SmB
 split
 ·exact ⟨by dsimp;omega,by dsimp;omega,by dsimp;omega,by dsimp;omega,by dsimp;omega⟩
 split
 ·exact ⟨by dsimp;omega,by dsimp;omega,by dsimp;omega,by dsimp;omega,by dsimp;omega⟩
 split
 ·exact ⟨by dsimp;omega,by dsimp;omega,by dsimp;omega,by dsimp;omega,by dsimp;omega⟩
 split
 ·exact ⟨by dsimp;omega,by dsimp;omega,by dsimp;omega,by dsimp;omega,by dsimp;omega⟩
 ·exact ⟨by omega,by omega,by omega,by omega,by omega⟩
theorem k3w {hs:List (List Int)} {o:Nat} {ds:List De} (h0:0 ≤ j1r (j0j hs) o∧j1r (j0j hs) o ≤ 3000) (hm:∀ d ∈ ds,0 ≤ d.many∧d.many ≤ 300):∀ k,k ≤ ds.length→SmB (3000 + 300 * (k:Int)) (sumS hs o (ds.take k))
 | 0,_ => by simp [sumS,SmB];omega
 | k + 1,hk => by
   have hg:ds[k]? = some ds[k]:=List.getElem?_eq_getElem (by omega)
   rw [k0g hs o ds hg]
   have:=stepS_bd (o:=o) (k3w h0 hm k (by omega)) (hm _ (List.getElem_mem (l:=ds) (show k < ds.length by omega)))
   rw [show (3000:Int) + 300 * ((k + 1:Nat):Int) = 3000 + 300 * (k:Int) + 300 by omega]
   exact this
set_option maxRecDepth 100000 in
set_option maxHeartbeats 2000000 in
theorem sum_any (w0:World) (p:Nat) (b:Hb) (deed owner:Int) (w:World) (hW:Work w0 p b deed owner w) (o:Nat) (ho:o < 5) :
 Calls Tryz.prog 59 #[.pointer (some ⟨p,0,none⟩),.int .i64 o] w fun e w' => e = .returned (smV (sumS b.hs o b.ds))∧Below w.heap.size w w':=by
 obtain ⟨V,hV⟩:∃ V,V = w.alloc (Obj.cells #[.int .i64 0,.int .i64 0,.int .i64 0,.int .i64 0,.int .i64 0] 46):=⟨_,rfl⟩
 obtain ⟨r,hr⟩:∃ r,r = w.heap.size:=⟨_,rfl⟩
 have b0:V.heap[r]? = some (smO 0 0 0 0 0):=by rw [hV,hr];exact j0c rfl
 have hBV:Below w.heap.size w V:=by rw [hV];exact bal0 w _
 have hWV:=hW.below hBV (zL9 _)
 obtain ⟨now,hp⟩:=hWV.hp
 have hok:=hWV.ok
 have hfi:=k4i p b.t b.A b.l.length b.c b.l b.vk b.vd b.Ah b.ch b.hs deed owner now V (hWV.book hp) hWV.inn.h (by have:=hok.f3;have:=hok.hl;omega) (fun x hx => by have:=hok.rl x hx;have:=hok.n5;omega)
 have hfb:HBd 20 (j0j b.hs):=j7t hok.rb
 have hob:=q2i (j0j b.hs) o
 have hpl:=hW.lt
 have HV:=zQ9 (zA9 hBV (zA9 b0 (zA9 hWV (zA9 hr hok))))
 have HF:=zQ9 hfb
 go_enter Tryz.func59,Tryz.ntmps59
 go_upto_region 1 with (fail)
 rw [← hV,← hr]
 clear hV hBV b0 hWV hp hok hfb
 rw [← hr] at hpl
 clear hr
 go_upto_region 2 with (first
  | (go_at_call 104;refine hfi.mono ?_;rintro e w1 ⟨rfl,hb1⟩)
  | (go_at_call 97;refine (hob w1 (HF.out.mono (by omega)) ho).mono ?_;rintro e w2 ⟨rfl,hb2⟩))
 have hb2':Below V.heap.size V w2:=hb1.trans (hb2.mono hb1.size)
 clear hb1 hb2 hfi hob
 obtain ⟨f0,hf0⟩:∃ f,f = j1r (j0j b.hs) o:=⟨_,rfl⟩
 have hf3:0 ≤ f0∧f0 ≤ 3000:=by
  have h0:=HF.out.get (show 0 < 3 by decide) ho
  have h1:=HF.out.get (show 1 < 3 by decide) ho
  have h2:=HF.out.get (show 2 < 3 by decide) ho
  rw [hf0];unfold j1r;omega
 rw [← hf0]
 obtain ⟨s,hs⟩:∃ s,s = w2.heap.size:=⟨_,rfl⟩
 obtain ⟨U,hU⟩:∃ U,U = w2.alloc (Obj.cells #[.int .i64 f0,.int .i64 0,.int .i64 0,.int .i64 0,.int .i64 0] 46):=⟨_,rfl⟩
 rw [← hU,← hs]
 have hbU:Below V.heap.size V U:=by rw [hU];exact bal hb2' (zL9 _) _
 have bS:U.heap[s]? = some (smO f0 0 0 0 0):=by rw [hU,hs];exact j0c rfl
 have hVs:V.heap.size ≤ s:=by rw [hs];exact hb2'.size
 have hWU:=HV.out.2.2.1.below hbU (zL9 _)
 obtain ⟨now2,hp2⟩:=hWU.hp
 obtain ⟨a0,a1,a2,a3,a4,a5,a6,a7⟩:=blkB hp2
 obtain ⟨nd,hnd⟩:∃ nd,nd = b.ds.length:=⟨_,rfl⟩
 have hsb:∀ k,k ≤ nd→SmB (3000 + 300 * (k:Int)) (sumS b.hs o (b.ds.take k)):=fun k hk => k3w (by rw [← hf0];exact hf3) (fun d hd => by have:=(HV.out.2.2.2.2.dI d hd).m;omega) k (by omega)
 have hd6:nd ≤ 6:=by rw [hnd];exact HV.out.2.2.2.2.d6
 obtain ⟨Dx,hDx⟩:∃ D,D = b.Ad:=⟨_,rfl⟩
 obtain ⟨cx,hcx⟩:∃ D,D = b.cd:=⟨_,rfl⟩
 have hcd:nd ≤ cx∧cx ≤ maxLen:=by rw [hnd,hcx];exact ⟨hWU.inn.dc,hWU.inn.dm⟩
 unfold Hb.vd at a4
 rw [← hnd,← hDx,← hcx] at a4
 have hds:Deeds w0 Dx nd b.ds:=by rw [hnd,hDx];exact hWU.hin.d
 have HU:=zQ9 (zA9 hbU (zA9 bS (zA9 hVs (zA9 hWU (zA9 hnd (zA9 hsb (zA9 hf0 hds)))))))
 clear hbU bS hVs hWU hnd hsb hf0 hp2 hU hs hDx hcx hds hb2'
 go_wp2_with fail
 go_loopg [20] nd (fun g v20 wr => ∃ k:Nat,k + g = nd∧v20 = .int .i64 k∧(∃ x:Sm,x = sumS b.hs o (b.ds.take k)∧wr.heap[s]? = some (smO x.first x.born x.bought x.sold x.eaten))∧(∀ j,j < U.heap.size→j ≠ s→wr.heap[j]? = U.heap[j]?)∧U.heap.size ≤ wr.heap.size∧wr.os = U.os∧wr.tape = U.tape∧wr.output = U.output)
 case atStart => exact ⟨0,by omega,rfl,⟨⟨f0,0,0,0,0⟩,by rw [List.take_zero];unfold sumS;rw [HU.out.2.2.2.2.2.2.1];rfl,HU.out.2.1⟩,fun _ _ _ => rfl,zL9 _,rfl,rfl,rfl⟩
 case round =>
  obtain ⟨k,hk,rfl,⟨x,hx,bs⟩,hfar,hsz,ho1,ho2,ho3⟩:=hrel
  by_cases hlt:k < nd
  ·have hWr:Below w0.heap.size w0 wr:=HU.out.2.2.2.1.bel.trans ⟨ho1,ho2,ho3,hsz,fun j hj => hfar j (by have:=HU.out.2.2.2.1.bel.size;omega) (by have:=HU.out.2.2.2.1.hz;have:=HU.out.2.2.1;have:=HV.out.1.size;have:=HV.out.2.2.2.1;omega)⟩
   obtain ⟨bd,od,⟨kind,flock,ow,other,tof,many,err,sg⟩,rfl,hbl,hd,e0,e1,e2,e3,e4,e5,e6,e7,e8,e9,e10,e11⟩:=Deeds.get (HU.out.2.2.2.2.2.2.2.below hWr (zL9 _)) hlt
   obtain ⟨x1,x2,x3,x4,x5⟩:=x
   obtain ⟨b1,b2,b3,b4,b5⟩:=HU.out.2.2.2.2.2.1 k (by omega)
   rw [← hx] at b1 b2 b3 b4 b5
   have hsn:=k0g b.hs o b.ds hd
   rw [← hx] at hsn
   have hdm:=(HV.out.2.2.2.2.dI _ (List.mem_of_getElem? hd)).m
   have hdk:=(HV.out.2.2.2.2.dI _ (List.mem_of_getElem? hd)).k
   dsimp only at hdm hdk e0 e1 e2 e3 e4 e5 e6 e7 e8 e9 e10 e11 b1 b2 b3 b4 b5 bs
   have gs1:=frz bs 1
   have gs2:=frz bs 2
   have gs3:=frz bs 3
   have gs4:=frz bs 4
   have hslt:=j0a bs
   obtain ⟨w0',w1',w2',w3',w4'⟩:=j0i bs
   by_cases how:ow = (o:Int)
   ·have eo:(ow == (o:Int)) = true:=by simp [how]
    by_cases h1:kind = 1
    ·subst h1
     simp [j1c,how] at hsn
     have HN:=zQ9 (zA9 bs (zA9 hk (zA9 hfar (zA9 hsz (zA9 ho1 (zA9 ho2 (zA9 ho3 hsn)))))))
     clear bs hk hfar hsz ho1 ho2 ho3 hsn hx hd hdk hWr
     go_wp2_with fail
     go_roundg (gk - 1)
     case measure => have:=HN.out.2.1;omega
     case rel => exact ⟨k + 1,by have:=HN.out.2.1;omega,by go_num,⟨_,HN.out.2.2.2.2.2.2.2.symm,j0b ((j0d HN.out.1).trans (by simp)) _⟩,fun j hj hne => (Below.heap_alloc _ _ _ (by have:=HN.out.2.2.2.1;simp;omega)).trans ((Below.heap_setCell _ ⟨s,_,none⟩ _ _ hne).trans (HN.out.2.2.1 j hj hne)),by have:=HN.out.2.2.2.1;simp;omega,HN.out.2.2.2.2.1,HN.out.2.2.2.2.2.1,HN.out.2.2.2.2.2.2.1⟩
    by_cases h2:kind = 2
    ·subst h2
     simp [j1c,how] at hsn
     have HN:=zQ9 (zA9 bs (zA9 hk (zA9 hfar (zA9 hsz (zA9 ho1 (zA9 ho2 (zA9 ho3 hsn)))))))
     clear bs hk hfar hsz ho1 ho2 ho3 hsn hx hd hdk hWr
     go_wp2_with fail
     go_roundg (gk - 1)
     case measure => have:=HN.out.2.1;omega
     case rel => exact ⟨k + 1,by have:=HN.out.2.1;omega,by go_num,⟨_,HN.out.2.2.2.2.2.2.2.symm,j0b ((j0d HN.out.1).trans (by simp)) _⟩,fun j hj hne => (Below.heap_alloc _ _ _ (by have:=HN.out.2.2.2.1;simp;omega)).trans ((Below.heap_setCell _ ⟨s,_,none⟩ _ _ hne).trans (HN.out.2.2.1 j hj hne)),by have:=HN.out.2.2.2.1;simp;omega,HN.out.2.2.2.2.1,HN.out.2.2.2.2.2.1,HN.out.2.2.2.2.2.2.1⟩
    by_cases h3:kind = 3
    ·subst h3
     simp [j1c,how] at hsn
     have HN:=zQ9 (zA9 bs (zA9 hk (zA9 hfar (zA9 hsz (zA9 ho1 (zA9 ho2 (zA9 ho3 hsn)))))))
     clear bs hk hfar hsz ho1 ho2 ho3 hsn hx hd hdk hWr
     go_wp2_with fail
     go_roundg (gk - 1)
     case measure => have:=HN.out.2.1;omega
     case rel => exact ⟨k + 1,by have:=HN.out.2.1;omega,by go_num,⟨_,HN.out.2.2.2.2.2.2.2.symm,j0b ((j0d HN.out.1).trans (by simp)) _⟩,fun j hj hne => (Below.heap_alloc _ _ _ (by have:=HN.out.2.2.2.1;simp;omega)).trans ((Below.heap_setCell _ ⟨s,_,none⟩ _ _ hne).trans (HN.out.2.2.1 j hj hne)),by have:=HN.out.2.2.2.1;simp;omega,HN.out.2.2.2.2.1,HN.out.2.2.2.2.2.1,HN.out.2.2.2.2.2.2.1⟩
    have k1:(kind == 1) = false:=by simp [h1]
    have k2:(kind == 2) = false:=by simp [h2]
    have k3:(kind == 3) = false:=by simp [h3]
    simp [j1c,how,h1,h2,h3] at hsn
    have HN:=zQ9 (zA9 bs (zA9 hk (zA9 hfar (zA9 hsz (zA9 ho1 (zA9 ho2 (zA9 ho3 hsn)))))))
    clear bs hk hfar hsz ho1 ho2 ho3 hsn hx hd hdk hWr
    go_wp2_with fail
    go_roundg (gk - 1)
    case measure => have:=HN.out.2.1;omega
    case rel => exact ⟨k + 1,by have:=HN.out.2.1;omega,by go_num,⟨_,HN.out.2.2.2.2.2.2.2.symm,j0b HN.out.1 _⟩,fun j hj hne => (Below.heap_alloc _ _ _ (by have:=HN.out.2.2.2.1;omega)).trans (HN.out.2.2.1 j hj hne),by have:=HN.out.2.2.2.1;simp;omega,HN.out.2.2.2.2.1,HN.out.2.2.2.2.2.1,HN.out.2.2.2.2.2.2.1⟩
   ·have eo:(ow == (o:Int)) = false:=by simp [how]
    by_cases h2:kind = 2
    ·subst h2
     by_cases hot:other = (o:Int)
     ·have et:(other == (o:Int)) = true:=by simp [hot]
      simp [j1c,how,hot] at hsn
      have HN:=zQ9 (zA9 bs (zA9 hk (zA9 hfar (zA9 hsz (zA9 ho1 (zA9 ho2 (zA9 ho3 hsn)))))))
      clear bs hk hfar hsz ho1 ho2 ho3 hsn hx hd hdk hWr
      go_wp2_with fail
      go_roundg (gk - 1)
      case measure => have:=HN.out.2.1;omega
      case rel => exact ⟨k + 1,by have:=HN.out.2.1;omega,by go_num,⟨_,HN.out.2.2.2.2.2.2.2.symm,j0b ((j0d HN.out.1).trans (by simp)) _⟩,fun j hj hne => (Below.heap_alloc _ _ _ (by have:=HN.out.2.2.2.1;simp;omega)).trans ((Below.heap_setCell _ ⟨s,_,none⟩ _ _ hne).trans (HN.out.2.2.1 j hj hne)),by have:=HN.out.2.2.2.1;simp;omega,HN.out.2.2.2.2.1,HN.out.2.2.2.2.2.1,HN.out.2.2.2.2.2.2.1⟩
     ·have et:(other == (o:Int)) = false:=by simp [hot]
      simp [j1c,how,hot] at hsn
      have HN:=zQ9 (zA9 bs (zA9 hk (zA9 hfar (zA9 hsz (zA9 ho1 (zA9 ho2 (zA9 ho3 hsn)))))))
      clear bs hk hfar hsz ho1 ho2 ho3 hsn hx hd hdk hWr
      go_wp2_with fail
      go_roundg (gk - 1)
      case measure => have:=HN.out.2.1;omega
      case rel => exact ⟨k + 1,by have:=HN.out.2.1;omega,by go_num,⟨_,HN.out.2.2.2.2.2.2.2.symm,j0b HN.out.1 _⟩,fun j hj hne => (Below.heap_alloc _ _ _ (by have:=HN.out.2.2.2.1;omega)).trans (HN.out.2.2.1 j hj hne),by have:=HN.out.2.2.2.1;simp;omega,HN.out.2.2.2.2.1,HN.out.2.2.2.2.2.1,HN.out.2.2.2.2.2.2.1⟩
    have k2:(kind == 2) = false:=by simp [h2]
    simp [j1c,how,h2] at hsn
    have HN:=zQ9 (zA9 bs (zA9 hk (zA9 hfar (zA9 hsz (zA9 ho1 (zA9 ho2 (zA9 ho3 hsn)))))))
    clear bs hk hfar hsz ho1 ho2 ho3 hsn hx hd hdk hWr
    go_wp2_with fail
    go_roundg (gk - 1)
    case measure => have:=HN.out.2.1;omega
    case rel => exact ⟨k + 1,by have:=HN.out.2.1;omega,by go_num,⟨_,HN.out.2.2.2.2.2.2.2.symm,j0b HN.out.1 _⟩,fun j hj hne => (Below.heap_alloc _ _ _ (by have:=HN.out.2.2.2.1;omega)).trans (HN.out.2.2.1 j hj hne),by have:=HN.out.2.2.2.1;simp;omega,HN.out.2.2.2.2.1,HN.out.2.2.2.2.2.1,HN.out.2.2.2.2.2.2.1⟩
  ·obtain rfl:k = nd:=by omega
   obtain ⟨w0',w1',w2',w3',w4'⟩:=j0i bs
   have hr0:wr.heap[r]? = some (smO 0 0 0 0 0):=(hfar r (by have:=HU.out.1.size;have:=j0a HV.out.2.1;omega) (by have:=HU.out.2.2.1;have:=j0a HV.out.2.1;omega)).trans (j0f HV.out.2.1 HU.out.1 (zL9 _))
   obtain ⟨z0,z1,z2,z3,z4⟩:=j0i hr0
   obtain ⟨f0',f1,f2,f3,f4⟩:=zA9 (frz hr0 0) (zA9 (frz hr0 1) (zA9 (frz hr0 2) (zA9 (frz hr0 3) (frz hr0 4))))
   have hlr:=j0a hr0
   have hxx:x = sumS b.hs o b.ds:=by rw [hx,HU.out.2.2.2.2.1,List.take_length]
   obtain ⟨x1,x2,x3,x4,x5⟩:=x
   dsimp only at w0' w1' w2' w3' w4'
   have HN:=zQ9 (zA9 hr0 (zA9 hxx (zA9 hfar (zA9 hsz (zA9 ho1 (zA9 ho2 ho3))))))
   clear hr0 hxx hfar hsz ho1 ho2 ho3 hx bs hk
   go_wp2_with fail
   obtain ⟨Z,hZ⟩:∃ Z,Z = (((((wr.setCell ⟨r,0,none⟩ (.int .i64 x1)).setCell ⟨r,1,none⟩ (.int .i64 x2)).setCell ⟨r,2,none⟩ (.int .i64 x3)).setCell ⟨r,3,none⟩ (.int .i64 x4)).setCell ⟨r,4,none⟩ (.int .i64 x5)):=⟨_,rfl⟩
   rw [← hZ]
   have bZ:Z.heap[r]? = some (smO x1 x2 x3 x4 x5):=by rw [hZ];exact (j0d (j0d (j0d (j0d (j0d HN.out.1))))).trans (by simp)
   have hgr:wr.grownBy Z (some r):=by rw [hZ];exact ((((j0h _ r _ _).trans (j0h _ r _ _)).trans (j0h _ r _ _)).trans (j0h _ r _ _)).trans (j0h _ r _ _)
   obtain ⟨q0,q1,q2,q3,q4⟩:=j0i bZ
   clear hZ
   refine bodyPost_ret (v:=.agg #[.int .i64 x1,.int .i64 x2,.int .i64 x3,.int .i64 x4,.int .i64 x5]) (by simp [results,Tryz.f59,go_sem,q0,q1,q2,q3,q4]) rfl ⟨by rw [← HN.out.2.1];rfl,?_⟩
   have hn:=HN.out
   have hBU:Below w.heap.size w U:=HV.out.1.trans (HU.out.1.mono HV.out.1.size)
   refine hBU.trans ⟨hgr.os.trans hn.2.2.2.2.1,hgr.tape.trans hn.2.2.2.2.2.1,hgr.output.trans hn.2.2.2.2.2.2,Nat.le_trans hn.2.2.2.1 hgr.size,fun j hj => ?_⟩
   have h1:=HV.out.2.2.2.1
   have h2:=HU.out.2.2.1
   have h3:=HV.out.1.size
   have h4:=hBU.size
   exact (hgr.block j (by omega) (fun e => by cases e;omega)).trans (hn.2.2.1 j (by omega) (by omega))
def sumE (b:Hb) (o:Int):Int:=if b.chk ≠ 0 then b.chk else if ownB b.l.length o = false then 3 else 0
def sumR (b:Hb) (o:Int):Sm:=if sumE b o = 0 then sumS b.hs o.toNat b.ds else ⟨0,0,0,0,0⟩
def SumR (b:Hb) (o:Int) (w:World) (e:Ending) (w':World):Prop:=e = .returned (.tuple #[smV (sumR b o),.int .i64 (sumE b o)])∧Below w.heap.size w w'
theorem k0s {b:Hb} {o e:Int} {s:Sm} {w Z w':World} {r:Nat} (he:sumE b o = e) (hs:sumR b o = s) (hb:Below w.heap.size w w'):SumR b o w (.returned (.tuple #[.agg #[.int .i64 s.first,.int .i64 s.born,.int .i64 s.bought,.int .i64 s.sold,.int .i64 s.eaten],.int .i64 e])) w':=by
 subst he hs;exact ⟨rfl,hb⟩
set_option maxRecDepth 100000 in
set_option maxHeartbeats 2000000 in
theorem Sum_any (b:Hb) (o:Int) (w:World) (hin:HbIn w b):Calls Tryz.prog 15 #[b.v,.int .i64 o] w (SumR b o w):=by
 obtain ⟨g,hg⟩:∃ g,g = w.heap.size:=⟨_,rfl⟩
 obtain ⟨V,hV⟩:∃ V,V = (w.alloc b.obj).alloc (Obj.cells #[.int .i64 0,.int .i64 0,.int .i64 0,.int .i64 0,.int .i64 0] 46):=⟨_,rfl⟩
 have b0:V.heap[g]? = some b.obj:=by rw [hV,hg];exact j0b (j0c rfl) _
 have b1:V.heap[g + 1]? = some (smO 0 0 0 0 0):=by rw [hV,hg];exact j0c (by simp)
 have hBV:Below w.heap.size w V:=by rw [hV];exact bal (bal0 w _) (zL9 _) _
 have hiV:=hin.below hBV (zL9 _)
 obtain ⟨c0,c1,c2,c3,c4⟩:=j0i b0
 have hak:=j6d b V hiV
 unfold Hb.v at hak
 have HV:=zQ9 (zA9 hBV (zA9 b0 (zA9 b1 hg)))
 unfold Hb.v
 go_enter Tryz.func15,Tryz.ntmps15
 go_upto_region 1 with (fail)
 rw [← hV,← hg]
 clear hV hg hin hBV hiV b0 b1
 obtain ⟨R,hR⟩:∃ R,R = j3k b b.chk V:=⟨_,rfl⟩
 rw [← hR] at hak
 have HR:=zQ9 hR
 clear hR
 go_upto_region 2 with (go_at_call 55;refine hak.mono ?_;rintro e w2 hRR;rw [HR.out] at hRR;unfold j3k at hRR;rcases hRR with ⟨h0,rfl,hb2⟩ | ⟨h0,p,rfl,hWk,hb2⟩)
 ·have xf:(b.chk == 0) = false:=by simp [h0]
  have xg:(b.chk != 0) = true:=by simp [h0]
  have y1:=j0f HV.out.2.2.1 hb2 (zL9 _)
  obtain ⟨z0,z1,z2,z3,z4⟩:=j0i y1
  obtain ⟨f0,f1,f2,f3,f4⟩:=zA9 (frz y1 0) (zA9 (frz y1 1) (zA9 (frz y1 2) (zA9 (frz y1 3) (frz y1 4))))
  have hl1:=j0a y1
  have H2:=zQ9 (zA9 h0 (zA9 hb2 y1))
  clear h0 hb2 y1 hak c0 c1 c2 c3 c4
  go_wp2_with fail
  obtain ⟨Z,hZ⟩:∃ Z,Z = (((((w2.setCell ⟨g + 1,0,none⟩ (.int .i64 0)).setCell ⟨g + 1,1,none⟩ (.int .i64 0)).setCell ⟨g + 1,2,none⟩ (.int .i64 0)).setCell ⟨g + 1,3,none⟩ (.int .i64 0)).setCell ⟨g + 1,4,none⟩ (.int .i64 0)):=⟨_,rfl⟩
  rw [← hZ]
  have bZ:Z.heap[g + 1]? = some (smO 0 0 0 0 0):=by rw [hZ];exact (j0d (j0d (j0d (j0d (j0d H2.out.2.2))))).trans (by simp)
  have hgr:w2.grownBy Z (some (g + 1)):=by rw [hZ];exact ((((j0h _ _ _ _).trans (j0h _ _ _ _)).trans (j0h _ _ _ _)).trans (j0h _ _ _ _)).trans (j0h _ _ _ _)
  obtain ⟨q0,q1,q2,q3,q4⟩:=j0i bZ
  clear hZ
  refine bodyPost_ret (v:=.tuple #[.agg #[.int .i64 0,.int .i64 0,.int .i64 0,.int .i64 0,.int .i64 0],.int .i64 b.chk]) (by simp [results,Tryz.f15,go_sem,q0,q1,q2,q3,q4]) rfl ?_
  have he:sumE b o = b.chk:=by unfold sumE;rw [if_pos H2.out.1]
  refine k0s (s:=⟨0,0,0,0,0⟩) (Z:=w) (r:=0) he (by unfold sumR;rw [he,if_neg H2.out.1]) ((HV.out.1.trans (H2.out.2.1.mono HV.out.1.size)).grown hgr ?_ (fun k e => by cases e;rw [← HV.out.2.2.2];omega))
  have h1:=HV.out.1.size;have h2:=H2.out.2.1.size;omega
 have y0:=j0f HV.out.2.1 hb2 (zL9 _)
 have y1:=j0f HV.out.2.2.1 hb2 (zL9 _)
 clear c0 c1 c2 c3 c4 hak
 obtain ⟨z0,z1,z2,z3,z4⟩:=j0i y1
 obtain ⟨f0,f1,f2,f3,f4⟩:=zA9 (frz y1 0) (zA9 (frz y1 1) (zA9 (frz y1 2) (zA9 (frz y1 3) (frz y1 4))))
 have hl1:=j0a y1
 obtain ⟨now,hp⟩:=hWk.hp
 obtain ⟨T,hT⟩:∃ T,T = w2.alloc (Obj.cells #[Value.int .i64 o] 3):=⟨_,rfl⟩
 have hbT:Below w2.heap.size w2 T:=by rw [hT];exact bal0 w2 _
 have hio:=j3i p .nilFunc b.t b.A b.l.length b.c b.vk b.vh b.vd (-1) 0 now (some ⟨w2.heap.size,0,none⟩) 1 1 [o] T (j0f hp hbT (zL9 _)) (by rw [hT];exact ints1 w2 3 o) (Nat.le_trans hWk.inn.mc hWk.inn.mm) (by unfold maxLen;omega)
 simp only [List.all_cons,List.all_nil,Bool.and_true] at hio
 obtain ⟨ob,hob⟩:∃ ob,ob = ownB b.l.length o:=⟨_,rfl⟩
 rw [← hob] at hio
 have y1T:=j0f y1 hbT (zL9 _)
 have hWT:=hWk.below hbT (zL9 _)
 have H2:=zQ9 (zA9 h0 (zA9 (hb2.trans (hbT.mono hb2.size)) (zA9 y1T (zA9 hWT hob))))
 have hpl:=hWk.lt
 have hzz:=hb2.size
 clear h0 hb2 y0 y1 hp hWk hob hWT
 obtain ⟨z0',z1',z2',z3',z4'⟩:=j0i y1T
 obtain ⟨f0',f1',f2',f3',f4'⟩:=zA9 (frz y1T 0) (zA9 (frz y1T 1) (zA9 (frz y1T 2) (zA9 (frz y1T 3) (frz y1T 4))))
 have hl1':=j0a y1T
 have HT:=zQ9 hT
 clear hbT y1T hT
 go_upto_if 21 with (go_at_call 58;rw [← HT.out];refine hio.mono ?_;rintro e w3 ⟨rfl,rfl⟩)
 cases ob with
 | false =>
   clear z0 z1 z2 z3 z4 f0 f1 f2 f3 f4 hl1 hio
   go_wp2_with fail
   obtain ⟨Z,hZ⟩:∃ Z,Z = (((((T.setCell ⟨g + 1,0,none⟩ (.int .i64 0)).setCell ⟨g + 1,1,none⟩ (.int .i64 0)).setCell ⟨g + 1,2,none⟩ (.int .i64 0)).setCell ⟨g + 1,3,none⟩ (.int .i64 0)).setCell ⟨g + 1,4,none⟩ (.int .i64 0)):=⟨_,rfl⟩
   rw [← hZ]
   have bZ:Z.heap[g + 1]? = some (smO 0 0 0 0 0):=by rw [hZ];exact (j0d (j0d (j0d (j0d (j0d H2.out.2.2.1))))).trans (by simp)
   have hgr:T.grownBy Z (some (g + 1)):=by rw [hZ];exact ((((j0h _ _ _ _).trans (j0h _ _ _ _)).trans (j0h _ _ _ _)).trans (j0h _ _ _ _)).trans (j0h _ _ _ _)
   obtain ⟨q0,q1,q2,q3,q4⟩:=j0i bZ
   clear hZ
   refine bodyPost_ret (v:=.tuple #[.agg #[.int .i64 0,.int .i64 0,.int .i64 0,.int .i64 0,.int .i64 0],.int .i64 3]) (by simp [results,Tryz.f15,go_sem,q0,q1,q2,q3,q4]) rfl ?_
   have he:sumE b o = 3:=by unfold sumE;rw [if_neg (by rw [H2.out.1];simp),if_pos H2.out.2.2.2.2.symm]
   refine k0s (s:=⟨0,0,0,0,0⟩) (Z:=w) (r:=0) he (by unfold sumR;rw [he,if_neg (by decide)]) ((HV.out.1.trans (H2.out.2.1.mono HV.out.1.size)).grown hgr ?_ (fun k e => by cases e;rw [← HV.out.2.2.2];omega))
   have h1:=HV.out.1.size;have h2:=H2.out.2.1.size;omega
 | true =>
   obtain ⟨ho0,ho1⟩:=j1l.1 H2.out.2.2.2.2.symm
   obtain ⟨k,rfl⟩:=Int.eq_ofNat_of_zero_le ho0
   have hok:=H2.out.2.2.2.1.ok
   have hk5:k < 5:=by have:=hok.n5;omega
   have hsm:=sum_any V p b (-1) 0 T H2.out.2.2.2.1 k hk5
   clear z0 z1 z2 z3 z4 f0 f1 f2 f3 f4 hl1 hio z0' z1' z2' z3' z4' f0' f1' f2' f3' f4' hl1' ho0 ho1 hok
   obtain ⟨sv,hsv⟩:∃ sv,sv = sumS b.hs k b.ds:=⟨_,rfl⟩
   rw [← hsv] at hsm
   have HS:=zQ9 hsv
   clear hsv
   go_wp2_with (go_at_call 59;refine hsm.mono ?_;rintro e w3 ⟨rfl,hb3⟩;unfold smV;have y1:=j0f H2.out.2.2.1 hb3 (zL9 _);obtain ⟨z0,z1,z2,z3,z4⟩:=j0i y1;obtain ⟨f0,f1,f2,f3,f4⟩:=zA9 (frz y1 0) (zA9 (frz y1 1) (zA9 (frz y1 2) (zA9 (frz y1 3) (frz y1 4))));have hl1:=j0a y1;have H3:=zQ9 (zA9 y1 hb3);clear y1 hb3)
   obtain ⟨Z,hZ⟩:∃ Z,Z = (((((w3.setCell ⟨g + 1,0,none⟩ (.int .i64 sv.first)).setCell ⟨g + 1,1,none⟩ (.int .i64 sv.born)).setCell ⟨g + 1,2,none⟩ (.int .i64 sv.bought)).setCell ⟨g + 1,3,none⟩ (.int .i64 sv.sold)).setCell ⟨g + 1,4,none⟩ (.int .i64 sv.eaten)):=⟨_,rfl⟩
   rw [← hZ]
   have bZ:Z.heap[g + 1]? = some (smO sv.first sv.born sv.bought sv.sold sv.eaten):=by rw [hZ];exact (j0d (j0d (j0d (j0d (j0d H3.out.1))))).trans (by simp)
   have hgr:w3.grownBy Z (some (g + 1)):=by rw [hZ];exact ((((j0h _ _ _ _).trans (j0h _ _ _ _)).trans (j0h _ _ _ _)).trans (j0h _ _ _ _)).trans (j0h _ _ _ _)
   obtain ⟨q0,q1,q2,q3,q4⟩:=j0i bZ
   clear hZ
   refine bodyPost_ret (v:=.tuple #[.agg #[.int .i64 sv.first,.int .i64 sv.born,.int .i64 sv.bought,.int .i64 sv.sold,.int .i64 sv.eaten],.int .i64 0]) (by simp [results,Tryz.f15,go_sem,q0,q1,q2,q3,q4]) rfl ?_
   have he:sumE b k = 0:=by unfold sumE;rw [if_neg (by rw [H2.out.1];simp),if_neg (by rw [← H2.out.2.2.2.2];simp)]
   have hbb:Below w.heap.size w w3:=(HV.out.1.trans (H2.out.2.1.mono HV.out.1.size)).trans (H3.out.2.mono (Nat.le_trans HV.out.1.size H2.out.2.1.size))
   refine k0s (s:=sv) (Z:=w) (r:=0) he (by unfold sumR;rw [he,if_pos rfl,HS.out];rfl) (hbb.grown hgr ?_ (fun k e => by cases e;rw [← HV.out.2.2.2];omega))
   exact hbb.size
end Go.Proofs.YtmennjmjakdkcaaGreat
