/- HerdHas. -/
import Derived.Test.YtmennjmjakdkcaaGreatHs29
set_option linter.unusedVariables false
set_option linter.unusedSimpArgs false
set_option maxRecDepth 100000
set_option maxHeartbeats 4000000
namespace Go.Proofs.YtmennjmjakdkcaaGreat
open Go.RowKit
abbrev rnO (a b:Int):Obj:=.cells #[.int .i64 a,.int .i64 b] 72 (0,0)
def widR (lo hi n:Int) (first:Bool):Rn:=if first then ⟨n,n⟩ else ⟨min lo n,max hi n⟩
theorem j7o (lo hi n:Int) (first:Bool) (w:World) :
 Calls Tryz.prog 90 #[.agg #[.int .i64 lo,.int .i64 hi],.int .i64 n,.bool first] w fun e w'=>e=.returned (.agg #[.int .i64 (widR lo hi n first).lo,.int .i64 (widR lo hi n first).hi])∧Below w.heap.size w w':=by
 cases first
 ·go_enter Tryz.func90,Tryz.ntmps90
  go_wp2
  all_goals
   obtain⟨W,hW⟩:∃ W,W=(w.alloc (Obj.cells #[Value.int .i64 lo,.int .i64 hi] 72)).alloc (Obj.cells #[Value.int .i64 (min lo n),.int .i64 (max hi n)] 72):=⟨_,rfl⟩
   have b4:W.heap[w.heap.size+1]?=some (rnO (min lo n) (max hi n)):=by rw[hW];exact j0c (by simp)
   obtain⟨c0,c1⟩:=blk2 b4
   first
    | rw[←hW]
    | (rw[show min lo n=n by omega,show max hi n=n by omega] at hW;rw[←hW])
    | (rw[show min lo n=n by omega,show max hi n=hi by omega] at hW;rw[←hW])
    | (rw[show min lo n=lo by omega,show max hi n=n by omega] at hW;rw[←hW])
    | (rw[show min lo n=lo by omega,show max hi n=hi by omega] at hW;rw[←hW])
   exact bodyPost_ret (v:=.agg #[.int .i64 (min lo n),.int .i64 (max hi n)]) (by simp[results,Tryz.f90,go_sem,c0,c1]) rfl ⟨rfl,by rw[hW];exact bal (bal0 w _) (zL9 _) _⟩
 ·go_enter Tryz.func90,Tryz.ntmps90
  go_wp2
  obtain⟨W,hW⟩:∃ W,W=(w.alloc (Obj.cells #[Value.int .i64 lo,.int .i64 hi] 72)).alloc (Obj.cells #[Value.int .i64 n,.int .i64 n] 72):=⟨_,rfl⟩
  have b4:W.heap[w.heap.size+1]?=some (rnO n n):=by rw[hW];exact j0c (by simp)
  obtain⟨c0,c1⟩:=blk2 b4
  rw[←hW]
  exact bodyPost_ret (v:=.agg #[.int .i64 n,.int .i64 n]) (by simp[results,Tryz.f90,go_sem,c0,c1]) rfl ⟨rfl,by rw[hW];exact bal (bal0 w _) (zL9 _) _⟩
def rnOf (φ:Gr→Int) (E:List Gr):Rn:=⟨minL (E.map φ),maxL (E.map φ)⟩
theorem j8v {φ:Gr→Int} {E:List Gr} {i:Nat} {g:Gr} (h:E[i]?=some g):widR (rnOf φ (E.take i)).lo (rnOf φ (E.take i)).hi (φ g) (decide (i=0))=rnOf φ (E.take (i+1)):=by
 unfold widR rnOf
 rw[List.take_add_one,h,Option.toList_some,List.map_append,List.map_singleton,k6p,k6m]
 have hil:=(List.getElem?_eq_some_iff.1 h).1
 cases i with
 | zero=>simp
 | succ i =>
   have:((E.take (i+1)).map φ)≠[]:=by
    intro e
    have:=congrArg List.length e
    rw[List.length_map,List.length_take,List.length_nil] at this
    omega
   rw[if_neg this,if_neg this]
   simp
def rowS (φ:Nat→Gr→Int) (E:List Gr) (n o i:Nat):List Rn:=(List.range n).map fun x=>if x<o then rnOf (φ x) E else if x=o then rnOf (φ o) (E.take i) else ⟨0,0⟩
theorem j7t {φ:Nat→Gr→Int} {E:List Gr} {n o i:Nat} (ho:o<n):(rowS φ E n o i)[o]?=some (rnOf (φ o) (E.take i)):=by
 unfold rowS
 rw[List.getElem?_map,List.getElem?_range ho]
 simp
theorem k3p {φ:Nat→Gr→Int} {E:List Gr} {n o i j:Nat}:(rowS φ E n o i).set o (rnOf (φ o) (E.take j))=rowS φ E n o j:=by
 refine List.ext_getElem? fun x=>?_
 rw[List.getElem?_set]
 unfold rowS
 by_cases hx:x<n
 ·rw[List.getElem?_map,List.getElem?_range hx,List.getElem?_map,List.getElem?_range hx]
  by_cases e:o=x
  ·subst e
   simp[hx]
  ·rw[if_neg e]
   simp[Ne.symm e,show ¬x=o from fun h=>e h.symm]
 ·rw[List.getElem?_eq_none (by simp;omega),List.getElem?_eq_none (by simp;omega)]
  split<;>simp_all
theorem k1k {φ:Nat→Gr→Int} {E:List Gr} {n o:Nat}:rowS φ E n o E.length=rowS φ E n (o+1) 0:=by
 unfold rowS
 refine List.map_congr_left fun x _=>?_
 rw[List.take_length]
 by_cases h1:x<o
 ·rw[if_pos h1,if_pos (by omega)]
 ·rw[if_neg h1]
  by_cases h2:x=o
  ·subst h2;rw[if_pos rfl,if_pos (by omega)]
  ·rw[if_neg h2,if_neg (by omega)]
   split
   ·rfl
   ·rfl
theorem k1l {φ:Nat→Gr→Int} {E:List Gr} {n:Nat}:rowS φ E n 0 0=List.replicate n ⟨0,0⟩:=by
 unfold rowS
 refine List.ext_getElem (by simp) fun x h1 h2=>?_
 simp
 intro _
 rfl
theorem k3o {φ:Nat→Gr→Int} {E:List Gr} {n:Nat}:rowS φ E n n 0=(List.range n).map fun x=>rnOf (φ x) E:=by
 unfold rowS
 refine List.map_congr_left fun x hx=>?_
 rw[if_pos (List.mem_range.1 hx)]
theorem info_rn:(Tryz.prog.info? 72).map (fun i=>(i.zero,i.size,i.bytes))=some (some (.agg #[.int .i64 0,.int .i64 0]),2,16):=by kernel_rfl
def j7j (n:Nat):Array Value:=((List.replicate n (⟨0,0⟩:Rn)).flatMap eRn).toArray
theorem made_rn {n:Nat} (h:n≤5):madeCells #[.int .i64 0,.int .i64 0] (n*2)=j7j n:=by
 obtain rfl|rfl|rfl|rfl|rfl|rfl:n=0∨n=1∨n=2∨n=3∨n=4∨n=5:=by omega
 all_goals
  unfold madeCells j7j
  rw[←List.toArray_range,List.map_toArray]
  simp[eRn,List.range_succ,List.replicate]
theorem k5n (W:World) {n:Nat} (h:n≤5):(Instr.makeSlice 57 (.int .i64 (n:Int)) (.int .i64 (n:Int))).run Tryz.prog W=.ok (.slice (some ⟨W.heap.size,0,none⟩) n n) (W.alloc (.cells (j7j n) 72)):=by
 obtain⟨i,hi,a,b,c⟩:=info_parts info_rn
 have:=run_make (P:=Tryz.prog) W 57 72 i _ Tryz.underlying57 hi a .i64 .i64 (n:Int) (n:Int) (by omega) (Int.le_refl _) (by rw[c];omega) (by omega)
 rw[b,Int.toNat_natCast] at this
 rw[this,←made_rn h]
 rfl
theorem k1g (W:World) {n base:Nat} (h:n≤5) (hb:base≤W.heap.size):OwnR (W.alloc (.cells (j7j n) 72)) base (.slice (some ⟨W.heap.size,0,none⟩) n n) (List.replicate n ⟨0,0⟩):=by
 have h1:=Own.lit (enc:=eRn) (e:=72) (sz:=2) W base (j7j n) (List.replicate n ⟨0,0⟩) (by unfold j7j;simp) j3m hb (by rw[List.length_replicate];unfold maxLen;omega)
 rwa [List.length_replicate] at h1
def j1m (o:Nat) (g:Gr):Int:=(g.map fun r=>r.getD o 0).sum
theorem k4r (A:Option Addr) (n c m o:Nat) (gs:Gr) (w:World) (hl:j0z w A n gs) (hn:n≤1000) (hs:∀ r∈gs,r.length=m) (ho:o<m) (hb:∀ r∈gs,∀ x∈r,-100000≤x∧x≤100000) :
 Calls Tryz.prog 100 #[.slice A n c,.int .i64 o] w fun e w'=>e=.returned (.int .i64 (j1m o gs))∧w=w':=by
 have hlen:gs.length=n:=hl.grid.len
 have HX:=zQ9 (zA9 hl (zA9 hlen (zA9 hs hb)))
 clear hl hlen hs hb
 go_enter Tryz.func100,Tryz.ntmps100
 go_upto_region 3 with (fail)
 go_loopg [5,6] n (fun gh v5 v6 wr=>∃ k:Nat,k+gh=n∧v6=.int .i64 k∧v5=.int .i64 (j1m o (gs.take k))∧w=wr)
 case atStart=>exact⟨0,by omega,rfl,rfl,rfl⟩
 case round =>
  obtain⟨k,hk,rfl,rfl,rfl⟩:=hrel
  have hsb:=j8k (B:=100000) (by decide) (l:=(gs.take k).map fun r=>r.getD o 0) fun z hz=>by
   obtain⟨r,hr,rfl⟩:=List.mem_map.1 hz
   have hr':=List.mem_of_mem_take hr
   have hrl:=HX.out.2.2.1 r hr'
   exact HX.out.2.2.2 r hr' _ (by rw[List.getD_eq_getElem?_getD,List.getElem?_eq_getElem (show o<r.length by omega)];exact List.getElem_mem _)
  have hlk:(((gs.take k).map fun r=>r.getD o 0).length:Int)≤1000:=by rw[List.length_map,List.length_take];omega
  obtain⟨S,hS⟩:∃ S,S=j1m o (gs.take k):=⟨_,rfl⟩
  have hSb:-100000000≤S∧S≤100000000:=by rw[hS];unfold j1m;omega
  rw[←hS]
  by_cases hlt:k<n
  ·obtain⟨b1,o1,B1,row,c1,rfl,hb1,hrow,y1,hri,hrc,hrm,-⟩:=HX.out.1.get hlt
   have hrl:=HX.out.2.2.1 row (List.mem_of_getElem? hrow)
   obtain⟨b2,o2,x,rfl,hb2,hx,y2⟩:=Ints.get hri (show o<row.length by omega)
   have hxb:=HX.out.2.2.2 row (List.mem_of_getElem? hrow) x (List.mem_of_getElem? hx)
   rw[hrl] at y1 hrc
   have hnx:j1m o (gs.take (k+1))=S+x:=by
    unfold j1m
    rw[List.take_add_one,hrow,List.map_append,List.sum_append,hS]
    simp[j1m,List.getD_eq_getElem?_getD,hx]
   have i1:(k:Int)<(n:Int):=by omega
   have i2:(o:Int)<(m:Int):=by omega
   have HK:=zQ9 (zA9 hk hnx)
   clear hk hnx hS hsb hlk hri hrow hrl hx
   go_wp2_with fail
   go_roundg (gk-1)
   case measure=>have:=HK.out.1;omega
   case rel=>exact⟨k+1,by have:=HK.out.1;omega,by go_num,by rw[HK.out.2],rfl⟩
  ·obtain rfl:k=n:=by omega
   have hST:j1m o gs=S:=by rw[hS,List.take_of_length_le (by rw[HX.out.2.1];exact zL9 _)]
   have HS:=zQ9 hST
   clear hS hST hk hsb hlk
   go_wp2_with fail
   go_ret
   exact⟨by rw[HS.out];rfl,rfl⟩
theorem j6q (b:Hb) (w:World) (hin:HbIn w b) (ha:askE b=0):Calls Tryz.prog 88 #[b.v] w fun e w'=>(∃ v,e=.returned (.tuple #[v,.int .i64 0])∧OwnGG w.heap.size b.l.length b.ks.length v b.eg w')∧Below w.heap.size w w' :=
 (k0v b w hin).mono fun e w' h=>by
   obtain⟨h|⟨-,v,h1,h2⟩,h3⟩:=h
   ·exact absurd ha h.1
   ·exact⟨⟨v,h1,h2⟩,h3⟩
theorem j6p (b:Hb) (w:World) (hin:HbIn w b) (ha:askE b≠0):Calls Tryz.prog 88 #[b.v] w fun e w'=>e=.returned (.tuple #[.slice none 0 0,.int .i64 (askE b)])∧Below w.heap.size w w' :=
 (k0v b w hin).mono fun e w' h=>by
   obtain⟨⟨-,h1⟩|⟨h0,-⟩,h3⟩:=h
   ·exact⟨h1,h3⟩
   ·exact absurd h0 ha
theorem k3w {b:Hb} (ha:askE b=0):HeOk b.t b.l b.ks b.hs b.ds:=by
 refine j3a ?_
 by_cases h:b.chk=0
 ·exact h
 ·rw[j7w h] at ha;exact absurd ha h
theorem q3m (b:Hb):b.ends (-1) (-1)=b.ends (-1) 0:=by
 have hp:∀ i:Nat,j1s (-1) (-1) i=j1s (-1) 0 i:=fun i=>by
  funext o
  unfold j1s
  rw[show decide ((i:Int)=-1)=false from decide_eq_false (by omega)]
  rfl
 have h:∀ k,j1d b.t b.l b.hs b.ds (-1) (-1) k=j1d b.t b.l b.hs b.ds (-1) 0 k:=fun k=>by
  induction k with
  | zero=>rfl
  | succ k ih=>unfold j1d;rw[ih,hp]
 exact h _
theorem eg_sh {b:Hb} (hok:HeOk b.t b.l b.ks b.hs b.ds):∀ g∈b.eg,GSh b.l.length b.ks.length g∧∀ r∈g,∀ x∈r,-260≤x∧x≤260:=fun g hg=>by
 obtain⟨h1,-,h3⟩:=(j9w (deed:=-1) (owner:=-1) hok).2 g hg
 exact⟨h1,fun r hr x hx=>h3 r hr x hx⟩
theorem j9v {b:Hb} {φ:Gr→Int} {ψ:List Int→Int} (hok:HeOk b.t b.l b.ks b.hs b.ds) (h:∀ g,GSh b.l.length b.ks.length g→φ g=ψ (j0j g)):rnOf φ b.eg=j0o (b.ends (-1) 0) ψ:=by
 obtain⟨h1,h2⟩:=k9y (deed:=-1) (owner:=-1) hok h
 unfold rnOf Hb.eg
 rw[h1,h2]
 show j0o (b.ends (-1) (-1)) ψ=_
 rw[q3m b]
theorem k1w {b:Hb} (hok:HeOk b.t b.l b.ks b.hs b.ds):b.eg.length<4294967296:=by
 have h:=(etOk (deed:=-1) (owner:=-1) hok b.ds.length (zL9 _)).ln
 have:=Nat.pow_le_pow_right (show 0<35 by decide) hok.d6
 unfold Hb.eg j4k
 omega
theorem q2t (b:Hb) (w:World) (hin:HbIn w b):Calls Tryz.prog 38 #[b.v] w (OwnsR b w):=by
 obtain⟨V,hV⟩:∃ V,V=w.alloc b.obj:=⟨_,rfl⟩
 obtain⟨p,hp⟩:∃ p,p=w.heap.size:=⟨_,rfl⟩
 have HB:=zQ9 (show BB9 w b p V by rw[hV,hp];exact BB9.start hin)
 obtain⟨c0,c1,c2,c3,c4⟩:=j0h HB.out.1
 have hlp:=j0a HB.out.1
 by_cases ha:askE b=0
 ·have hck:=j6q b V HB.out.2.1 ha
  have hok:=k3w ha
  have hsh:=eg_sh hok
  have hl4:=k1w hok
  have hfin:(List.range b.l.length).map (fun x=>rnOf (j1m x) b.eg)=k0n b:=by
   unfold k0n
   rw[if_pos ha]
   unfold ownsL
   refine List.map_congr_left fun o ho=>?_
   have ho:=List.mem_range.1 ho
   exact j9v hok fun g hg=>by unfold j1m;exact k3j (by rw[hg.l];exact hok.f3) (by have:=hok.n5;omega)
  unfold Hb.v at hck ⊢
  obtain⟨E,hE⟩:∃ E,E=b.eg:=⟨_,rfl⟩
  rw[←hE] at hck hsh hfin hl4
  have hn5:=hok.n5
  have hf3:=hok.f3
  have HX:=zQ9 (zA9 hsh (zA9 hfin ha))
  clear hin hok hsh hfin ha hE
  go_enter Tryz.func38,Tryz.ntmps38
  go_upto_region 1 with (fail)
  rw[←hV,←hp]
  clear hV hp
  go_upto_region 4 with (go_at_call 88;(with_reducible refine hck.mono ?_);rintro e w2 ⟨⟨v,rfl,hG⟩,hb2⟩;have H2:=zQ9 (zA9 hG hb2);replace HB:=zQ9 (HB.out.step hb2);clear hG hb2 c0 c1 c2 c3 c4 hlp)
  clear hck
  obtain⟨A,c,rfl,hAc,hcm⟩:=H2.out.1.form
  obtain⟨c0,c1,c2,c3,c4⟩:=j0h HB.out.1
  have hlp:=j0a HB.out.1
  obtain⟨n,hn⟩:∃ n,n=b.l.length:=⟨_,rfl⟩
  have hn5':n≤5:=by omega
  rw[←hn] at c1
  have hmk:=fun W=>k5n W hn5'
  have HN:=zQ9 hn
  clear hn
  go_upto_region 6 with (fail)
  obtain⟨g,hg⟩:∃ g,g=w2.heap.size:=⟨_,rfl⟩
  obtain⟨w3,hw3⟩:∃ w3,w3=w2.alloc (.cells (j7j n) 72):=⟨_,rfl⟩
  have hR0:OwnR w3 w2.heap.size (.slice (some ⟨g,0,none⟩) n n) (rowS j1m E n 0 0):=by rw[hw3,hg,k1l];exact k1g w2 hn5' (zL9 _)
  have hb3:Below w2.heap.size w2 w3:=by rw[hw3];exact bal0 w2 _
  rw[←hw3,←hg]
  have H3:=zQ9 (zA9 hR0 hb3)
  clear hw3 hg hR0 hb3 hmk c0 c1 c2 c3 c4 hlp
  go_loopg [7,8] n (fun gh v7 _ wr=>∃ o:Nat,o+gh=n∧v7=.int .i64 o∧OwnR wr w2.heap.size (.slice (some ⟨g,0,none⟩) n n) (rowS j1m E n o 0)∧Below w2.heap.size w2 wr)
  case atStart=>exact⟨0,by omega,rfl,H3.out.1,H3.out.2⟩
  case round =>
   obtain⟨o,ho,rfl,hR,hb⟩:=hrel
   obtain⟨g1,rfl⟩:∃ g1:Nat,g1=gk:=⟨_,rfl⟩
   obtain⟨w4,hw4⟩:∃ W:World,W=wr:=⟨_,rfl⟩
   rw[←hw4] at hR hb ⊢
   clear hw4
   by_cases hlo:o<n
   ·have i1:(o:Int)<(n:Int):=by omega
    have HO:=zQ9 (zA9 ho (zA9 hR hb))
    clear ho hR hb
    go_upto_region 9 with (fail)
    go_loopg [8] E.length (fun gh v8 wr=>∃ i:Nat,i+gh=E.length∧v8=.int .i64 i∧OwnR wr w2.heap.size (.slice (some ⟨g,0,none⟩) n n) (rowS j1m E n o i)∧Below w2.heap.size w2 wr)
    case atStart=>exact⟨0,by omega,rfl,HO.out.2.1,HO.out.2.2⟩
    case round =>
     obtain⟨i,hi,rfl,hR,hb⟩:=hrel
     obtain⟨w5,hw5⟩:∃ W:World,W=wr:=⟨_,rfl⟩
     rw[←hw5] at hR hb ⊢
     clear hw5
     by_cases hli:i<E.length
     ·obtain⟨bE,oE,cap,Ag,cg,gi,eE,-,-,hgi,y0,hcg,hcgm,hgz⟩:=H2.out.1.get2 hli
      cases eE
      have hoc:o<b.l.length:=by rw[←HN.out];exact hlo
      have y0:=j2k y0 hb (zL9 _)
      obtain⟨sg,bg⟩:=HX.out.1 gi (List.mem_of_getElem? hgi)
      obtain⟨g0,e,hgb,hgl,z0,z1,f0,f1,-,-,-,-⟩:=OwnR.put2 hR (j7t hlo) 0 0
      cases e
      obtain⟨x,hx⟩:∃ x,x=j1m o gi:=⟨_,rfl⟩
      obtain⟨fb,hfb⟩:∃ fb,fb=decide (i=0):=⟨_,rfl⟩
      have e1:((i:Int)==0)=fb:=by
       rw[hfb]
       by_cases h:i=0
       ·simp[h]
       ·rw[decide_eq_false h];exact beq_eq_false_iff_ne.2 (by omega)
      have hst:=j8v (φ:=j1m o) hgi
      rw[←hx,←hfb] at hst
      obtain⟨r0,hr0⟩:∃ r0,r0=rnOf (j1m o) (E.take i):=⟨_,rfl⟩
      rw[←hr0] at hst z0 z1
      have cO:∀ d' os,Calls Tryz.prog 100 #[.slice Ag b.ks.length cg,.int .i64 o] (Sort.grow (redrawn w5 d') os) (fun e w''=>e=.returned (.int .i64 x)∧∃ p:Regrown,w''=Sort.grow (redrawn w5 p.d) p.os):=fun d' os=>by
       have hw:Below w2.heap.size w2 (Sort.grow (redrawn w5 d') os):=hb.trans ((below_regrown w5 d' os).mono hb.size)
       have:=k4r Ag b.ks.length cg b.l.length o gi _ (hgz _ hw) (by omega) sg.r (by omega) (fun r hr y hy=>by have:=bg r hr y hy;omega)
       rw[hx]
       exact Calls.regrown_of (this.mono fun e w' ⟨h1,h2⟩=>⟨h1,h2 ▸ Below.refl _ _⟩)
      have cW:∀ (a c y:Int) (q:Bool) d' os,Calls Tryz.prog 90 #[.agg #[.int .i64 a,.int .i64 c],.int .i64 y,.bool q] (Sort.grow (redrawn w5 d') os) (fun e w''=>e=.returned (.agg #[.int .i64 (widR a c y q).lo,.int .i64 (widR a c y q).hi])∧∃ p:Regrown,w''=Sort.grow (redrawn w5 p.d) p.os):=fun a c y q d' os =>
       Calls.regrown_of (j7o a c y q _)
      have HC:=zQ9 (zA9 cO cW)
      have k0:=cell_regrown y0
      have k1:=cell_regrown z0
      have k2:=cell_regrown z1
      have hbE:=j2b y0
      have i2:(i:Int)<(E.length:Int):=by omega
      have HI:=zQ9 (zA9 hi (zA9 hR (zA9 hb (zA9 hst (zA9 hgb hr0)))))
      clear hi hR hb hst cO cW hx hfb hr0 hgi hgz sg bg y0 z0 z1 f0 f1
      go_upto_region 11 with (fail)
      refine j1q 15 (by kernel_rfl) (by kernel_rfl) ?_
      simp only[List.take_succ_cons,List.take_zero,List.drop_succ_cons,List.drop_zero]
      repeat (quiet_step (first|exact HC.out.1 _ _|exact HC.out.2 _ _ _ _ _ _))
      refine wpQuiet_nil ?_
      intro _ hw'
      obtain⟨⟨dq,osq⟩,hw''⟩:=hw'
      subst hw''
      obtain⟨w6,hW6⟩:∃ w6,w6=Sort.grow (redrawn w5 dq) osq:=⟨_,rfl⟩
      have hb6:Below w5.heap.size w5 w6:=by rw[hW6];exact below_regrown w5 dq osq
      rw[←hW6]
      have hB6:Below w2.heap.size w2 w6:=HI.out.2.2.1.trans (hb6.mono HI.out.2.2.1.size)
      have hR6:=HI.out.2.1.below hb6 (zL9 _)
      obtain⟨gd,e,-,hgl6,z0,z1,f0,f1,hown,-⟩:=OwnR.put2 hR6 (j7t hlo) (widR r0.lo r0.hi x fb).lo (widR r0.lo r0.hi x fb).hi
      cases e
      rw[HI.out.2.2.2.1,k3p] at hown
      have hB7:=Below.setCell (Below.setCell hB6 (p:=⟨g,o*2,none⟩) HI.out.2.2.2.2.1 (.int .i64 (rnOf (j1m o) (E.take (i+1))).lo)) (p:=⟨g,o*2+1,none⟩) HI.out.2.2.2.2.1 (.int .i64 (rnOf (j1m o) (E.take (i+1))).hi)
      have H7:=zQ9 (zA9 hown hB7)
      have HST:=zQ9 HI.out.2.2.2.1
      clear hW6 hb6 hB6 hR6 hown hB7 k0 k1 k2
      rw[HI.out.2.2.2.1]
      go_wp2_with fail
      go_roundg (gk-1)
      case measure=>have:=HI.out.1;omega
      case rel=>exact⟨i+1,by have:=HI.out.1;omega,by go_num,H7.out.1,H7.out.2⟩
     ·obtain rfl:i=E.length:=by omega
      rw[k1k] at hR
      have HI:=zQ9 (zA9 hR hb)
      clear hR hb hi
      go_wp2_with fail
      go_roundg (g1-1)
      case measure=>have:=HO.out.1;omega
      case rel=>exact⟨o+1,by have:=HO.out.1;omega,by go_num,HI.out.1,HI.out.2⟩
   ·obtain rfl:o=n:=by omega
    rw[k3o] at hR
    have HE:=zQ9 (zA9 hR hb)
    clear hR hb ho
    go_wp2_with fail
    go_ret2
    refine⟨⟨_,by rw[HX.out.2.2];rfl,?_⟩,HB.out.2.2.trans (HE.out.2.mono HB.out.2.2.size)⟩
    have h:=HE.out.1
    rw[HN.out,HX.out.2.1] at h
    rw[HN.out]
    exact Own.mono h HB.out.2.2.size
 ·have hck:=j6p b V HB.out.2.1 ha
  obtain⟨ae,hae⟩:∃ ae,ae=askE b:=⟨_,rfl⟩
  rw[←hae] at hck ha
  have x1:(ae != 0)=true:=by simp[ha]
  have HA:=zQ9 (zA9 ha hae)
  unfold Hb.v at hck ⊢
  clear hin ha hae
  go_enter Tryz.func38,Tryz.ntmps38
  go_upto_region 1 with (fail)
  rw[←hV,←hp]
  clear hV hp
  go_wp2_with (go_at_call 88;(with_reducible refine hck.mono ?_);rintro e w2 ⟨rfl,hb2⟩;replace HB:=zQ9 (HB.out.step hb2);clear hb2 c0 c1 c2 c3 c4 hlp)
  go_ret2
  refine⟨⟨_,by rw[←HA.out.2];rfl,?_⟩,HB.out.2.2⟩
  unfold k0n
  rw[if_neg (by rw[←HA.out.2];exact HA.out.1)]
  exact Own.nil_
def j6o (f:Nat) (g:Gr):Int:=(g.getD f []).sum
theorem q1i (b:Hb) (w:World) (hin:HbIn w b):Calls Tryz.prog 40 #[b.v] w (k3u b w):=by
 obtain⟨V,hV⟩:∃ V,V=w.alloc b.obj:=⟨_,rfl⟩
 obtain⟨p,hp⟩:∃ p,p=w.heap.size:=⟨_,rfl⟩
 have HB:=zQ9 (show BB9 w b p V by rw[hV,hp];exact BB9.start hin)
 obtain⟨c0,c1,c2,c3,c4⟩:=j0h HB.out.1
 have hlp:=j0a HB.out.1
 by_cases ha:askE b=0
 ·have hck:=j6q b V HB.out.2.1 ha
  have hok:=k3w ha
  have hsh:=eg_sh hok
  have hl4:=k1w hok
  have hfin:(List.range b.ks.length).map (fun x=>rnOf (j6o x) b.eg)=j8l b:=by
   unfold j8l
   rw[if_pos ha]
   unfold k9p
   refine List.map_congr_left fun o ho=>?_
   have ho:=List.mem_range.1 ho
   exact j9v hok fun g hg=>by unfold j6o;exact j9k (by have:=hok.f3;omega) (by rw[hg.row (by omega)];exact hok.n5)
  unfold Hb.v at hck ⊢
  obtain⟨E,hE⟩:∃ E,E=b.eg:=⟨_,rfl⟩
  rw[←hE] at hck hsh hfin hl4
  have hn5:=hok.n5
  have hf3:=hok.f3
  have HX:=zQ9 (zA9 hsh (zA9 hfin ha))
  clear hin hok hsh hfin ha hE
  go_enter Tryz.func40,Tryz.ntmps40
  go_upto_region 1 with (fail)
  rw[←hV,←hp]
  clear hV hp
  go_upto_region 4 with (go_at_call 88;(with_reducible refine hck.mono ?_);rintro e w2 ⟨⟨v,rfl,hG⟩,hb2⟩;have H2:=zQ9 (zA9 hG hb2);replace HB:=zQ9 (HB.out.step hb2);clear hG hb2 c0 c1 c2 c3 c4 hlp)
  clear hck
  obtain⟨A,c,rfl,hAc,hcm⟩:=H2.out.1.form
  obtain⟨c0,c1,c2,c3,c4⟩:=j0h HB.out.1
  have hlp:=j0a HB.out.1
  obtain⟨n,hn⟩:∃ n,n=b.ks.length:=⟨_,rfl⟩
  have hn5':n≤5:=by omega
  rw[←hn] at c2
  have hmk:=fun W=>k5n W hn5'
  have HN:=zQ9 hn
  clear hn
  go_upto_region 6 with (fail)
  obtain⟨g,hg⟩:∃ g,g=w2.heap.size:=⟨_,rfl⟩
  obtain⟨w3,hw3⟩:∃ w3,w3=w2.alloc (.cells (j7j n) 72):=⟨_,rfl⟩
  have hR0:OwnR w3 w2.heap.size (.slice (some ⟨g,0,none⟩) n n) (rowS j6o E n 0 0):=by rw[hw3,hg,k1l];exact k1g w2 hn5' (zL9 _)
  have hb3:Below w2.heap.size w2 w3:=by rw[hw3];exact bal0 w2 _
  rw[←hw3,←hg]
  have H3:=zQ9 (zA9 hR0 hb3)
  clear hw3 hg hR0 hb3 hmk c0 c1 c2 c3 c4 hlp
  go_loopg [7,8] n (fun gh v7 _ wr=>∃ o:Nat,o+gh=n∧v7=.int .i64 o∧OwnR wr w2.heap.size (.slice (some ⟨g,0,none⟩) n n) (rowS j6o E n o 0)∧Below w2.heap.size w2 wr)
  case atStart=>exact⟨0,by omega,rfl,H3.out.1,H3.out.2⟩
  case round =>
   obtain⟨o,ho,rfl,hR,hb⟩:=hrel
   obtain⟨g1,rfl⟩:∃ g1:Nat,g1=gk:=⟨_,rfl⟩
   obtain⟨w4,hw4⟩:∃ W:World,W=wr:=⟨_,rfl⟩
   rw[←hw4] at hR hb ⊢
   clear hw4
   by_cases hlo:o<n
   ·have i1:(o:Int)<(n:Int):=by omega
    have HO:=zQ9 (zA9 ho (zA9 hR hb))
    clear ho hR hb
    go_upto_region 9 with (fail)
    go_loopg [8] E.length (fun gh v8 wr=>∃ i:Nat,i+gh=E.length∧v8=.int .i64 i∧OwnR wr w2.heap.size (.slice (some ⟨g,0,none⟩) n n) (rowS j6o E n o i)∧Below w2.heap.size w2 wr)
    case atStart=>exact⟨0,by omega,rfl,HO.out.2.1,HO.out.2.2⟩
    case round =>
     obtain⟨i,hi,rfl,hR,hb⟩:=hrel
     obtain⟨w5,hw5⟩:∃ W:World,W=wr:=⟨_,rfl⟩
     rw[←hw5] at hR hb ⊢
     clear hw5
     by_cases hli:i<E.length
     ·obtain⟨bE,oE,cap,Ag,cg,gi,eE,-,-,hgi,y0,hcg,hcgm,hgz⟩:=H2.out.1.get2 hli
      cases eE
      have hoc:o<b.ks.length:=by rw[←HN.out];exact hlo
      have y0:=j2k y0 hb (zL9 _)
      obtain⟨sg,bg⟩:=HX.out.1 gi (List.mem_of_getElem? hgi)
      obtain⟨g0,e,hgb,hgl,z0,z1,f0,f1,-,-,-,-⟩:=OwnR.put2 hR (j7t hlo) 0 0
      cases e
      obtain⟨x,hx⟩:∃ x,x=j6o o gi:=⟨_,rfl⟩
      obtain⟨fb,hfb⟩:∃ fb,fb=decide (i=0):=⟨_,rfl⟩
      have e1:((i:Int)==0)=fb:=by
       rw[hfb]
       by_cases h:i=0
       ·simp[h]
       ·rw[decide_eq_false h];exact beq_eq_false_iff_ne.2 (by omega)
      have hst:=j8v (φ:=j6o o) hgi
      rw[←hx,←hfb] at hst
      obtain⟨r0,hr0⟩:∃ r0,r0=rnOf (j6o o) (E.take i):=⟨_,rfl⟩
      rw[←hr0] at hst z0 z1
      have cO:∀ d' os,Calls Tryz.prog 101 #[.slice Ag b.ks.length cg,.int .i64 o] (Sort.grow (redrawn w5 d') os) (fun e w''=>e=.returned (.int .i64 x)∧∃ p:Regrown,w''=Sort.grow (redrawn w5 p.d) p.os):=fun d' os=>by
       have hw:Below w2.heap.size w2 (Sort.grow (redrawn w5 d') os):=hb.trans ((below_regrown w5 d' os).mono hb.size)
       have:=k7r Ag b.ks.length cg o gi _ (hgz _ hw) (by omega) (by rw[sg.row (by omega)];omega) (fun y hy=>by have:=bg _ (by rw[List.getD_eq_getElem?_getD,List.getElem?_eq_getElem (show o<gi.length by rw[sg.l];omega)];exact List.getElem_mem _) y hy;omega)
       rw[hx]
       exact Calls.regrown_of (this.mono fun e w' ⟨h1,h2⟩=>⟨h1,h2 ▸ Below.refl _ _⟩)
      have cW:∀ (a c y:Int) (q:Bool) d' os,Calls Tryz.prog 90 #[.agg #[.int .i64 a,.int .i64 c],.int .i64 y,.bool q] (Sort.grow (redrawn w5 d') os) (fun e w''=>e=.returned (.agg #[.int .i64 (widR a c y q).lo,.int .i64 (widR a c y q).hi])∧∃ p:Regrown,w''=Sort.grow (redrawn w5 p.d) p.os):=fun a c y q d' os =>
       Calls.regrown_of (j7o a c y q _)
      have HC:=zQ9 (zA9 cO cW)
      have k0:=cell_regrown y0
      have k1:=cell_regrown z0
      have k2:=cell_regrown z1
      have hbE:=j2b y0
      have i2:(i:Int)<(E.length:Int):=by omega
      have HI:=zQ9 (zA9 hi (zA9 hR (zA9 hb (zA9 hst (zA9 hgb hr0)))))
      clear hi hR hb hst cO cW hx hfb hr0 hgi hgz sg bg y0 z0 z1 f0 f1
      go_upto_region 11 with (fail)
      refine j1q 15 (by kernel_rfl) (by kernel_rfl) ?_
      simp only[List.take_succ_cons,List.take_zero,List.drop_succ_cons,List.drop_zero]
      repeat (quiet_step (first|exact HC.out.1 _ _|exact HC.out.2 _ _ _ _ _ _))
      refine wpQuiet_nil ?_
      intro _ hw'
      obtain⟨⟨dq,osq⟩,hw''⟩:=hw'
      subst hw''
      obtain⟨w6,hW6⟩:∃ w6,w6=Sort.grow (redrawn w5 dq) osq:=⟨_,rfl⟩
      have hb6:Below w5.heap.size w5 w6:=by rw[hW6];exact below_regrown w5 dq osq
      rw[←hW6]
      have hB6:Below w2.heap.size w2 w6:=HI.out.2.2.1.trans (hb6.mono HI.out.2.2.1.size)
      have hR6:=HI.out.2.1.below hb6 (zL9 _)
      obtain⟨gd,e,-,hgl6,z0,z1,f0,f1,hown,-⟩:=OwnR.put2 hR6 (j7t hlo) (widR r0.lo r0.hi x fb).lo (widR r0.lo r0.hi x fb).hi
      cases e
      rw[HI.out.2.2.2.1,k3p] at hown
      have hB7:=Below.setCell (Below.setCell hB6 (p:=⟨g,o*2,none⟩) HI.out.2.2.2.2.1 (.int .i64 (rnOf (j6o o) (E.take (i+1))).lo)) (p:=⟨g,o*2+1,none⟩) HI.out.2.2.2.2.1 (.int .i64 (rnOf (j6o o) (E.take (i+1))).hi)
      have H7:=zQ9 (zA9 hown hB7)
      have HST:=zQ9 HI.out.2.2.2.1
      clear hW6 hb6 hB6 hR6 hown hB7 k0 k1 k2
      rw[HI.out.2.2.2.1]
      go_wp2_with fail
      go_roundg (gk-1)
      case measure=>have:=HI.out.1;omega
      case rel=>exact⟨i+1,by have:=HI.out.1;omega,by go_num,H7.out.1,H7.out.2⟩
     ·obtain rfl:i=E.length:=by omega
      rw[k1k] at hR
      have HI:=zQ9 (zA9 hR hb)
      clear hR hb hi
      go_wp2_with fail
      go_roundg (g1-1)
      case measure=>have:=HO.out.1;omega
      case rel=>exact⟨o+1,by have:=HO.out.1;omega,by go_num,HI.out.1,HI.out.2⟩
   ·obtain rfl:o=n:=by omega
    rw[k3o] at hR
    have HE:=zQ9 (zA9 hR hb)
    clear hR hb ho
    go_wp2_with fail
    go_ret2
    refine⟨⟨_,by rw[HX.out.2.2];rfl,?_⟩,HB.out.2.2.trans (HE.out.2.mono HB.out.2.2.size)⟩
    have h:=HE.out.1
    rw[HN.out,HX.out.2.1] at h
    rw[HN.out]
    exact Own.mono h HB.out.2.2.size
 ·have hck:=j6p b V HB.out.2.1 ha
  obtain⟨ae,hae⟩:∃ ae,ae=askE b:=⟨_,rfl⟩
  rw[←hae] at hck ha
  have x1:(ae != 0)=true:=by simp[ha]
  have HA:=zQ9 (zA9 ha hae)
  unfold Hb.v at hck ⊢
  clear hin ha hae
  go_enter Tryz.func40,Tryz.ntmps40
  go_upto_region 1 with (fail)
  rw[←hV,←hp]
  clear hV hp
  go_wp2_with (go_at_call 88;(with_reducible refine hck.mono ?_);rintro e w2 ⟨rfl,hb2⟩;replace HB:=zQ9 (HB.out.step hb2);clear hb2 c0 c1 c2 c3 c4 hlp)
  go_ret2
  refine⟨⟨_,by rw[←HA.out.2];rfl,?_⟩,HB.out.2.2⟩
  unfold j8l
  rw[if_neg (by rw[←HA.out.2];exact HA.out.1)]
  exact Own.nil_
end Go.Proofs.YtmennjmjakdkcaaGreat
namespace Go.Proofs.YtmennjmjakdkcaaGreat
open Go.RowKit Go.MapKept
def TBl (n:Nat) (w w':World):Prop:=Below w.heap.size w w'
theorem TBl.tr:∀ n a b c,TBl n a b→TBl 1 b c→TBl (n+1) a c:=fun n a b c h k=>Below.trans h (Below.mono k (Below.size h))
theorem TBl.rf:∀ w,TBl 1 w w:=fun w=>Below.refl _ _
theorem TBl.draw (w:World):TBl 0 w { w with drawn:=w.drawn+1 }:=j1j (Below.refl _ _)
theorem q3q (x:List Int) (all:Int) (o q1 q2:Nat) (W:World) (hx:HBd 1000 x) (ho:o<5) (ha:-100000≤all∧all≤100000) (h1:W.heap[q1]?=some (Obj.cells #[.int .i64 all] 3 (0,0))) (h2:W.heap[q2]?=some (Obj.cells #[.int .i64 (o:Int)] 3 (0,0))) :
 Calls Tryz.prog 99 (#[.agg (hcs x)]++#[.pointer (some ⟨q1,0,none⟩),.pointer (some ⟨q2,0,none⟩)]) W fun e W'=>e=.returned (.int .i64 (all-j0s x o))∧Below W.heap.size W W':=by
 have hl:=hx.1
 obtain⟨V,hV⟩:∃ V,V=W.alloc (Obj.cells (hcs x) 133):=⟨_,rfl⟩
 obtain⟨g,hg⟩:∃ g,g=W.heap.size:=⟨_,rfl⟩
 have b0:V.heap[g]?=some (hObj x):=by rw[hV,hg];exact j0c rfl
 have b1:V.heap[q1]?=some (Obj.cells #[.int .i64 all] 3 (0,0)):=by rw[hV];exact j0b h1 _
 have b2:V.heap[q2]?=some (Obj.cells #[.int .i64 (o:Int)] 3 (0,0)):=by rw[hV];exact j0b h2 _
 have hBV:Below W.heap.size W V:=by rw[hV];exact bal0 W _
 have HV:=zQ9 (zA9 hBV hx)
 obtain⟨ow,how⟩:∃ ow,ow=j0s x o:=⟨_,rfl⟩
 have hob:0≤ow∧ow≤3000:=by
  have a0:=hx.get (show 0<3 by decide) ho
  have a1:=hx.get (show 1<3 by decide) ho
  have a2:=hx.get (show 2<3 by decide) ho
  rw[how];unfold j0s;omega
 rw[←how]
 have HO:=zQ9 how
 simp only[List.append_toArray,List.cons_append,List.nil_append]
 clear h1 h2 hBV hx how
 go_enter Tryz.func99,Tryz.ntmps99
 go_upto_region 1 with (fail)
 rw[←hV,←hg]
 clear hV hg
 have HB:=zQ9 (zA9 b0 (zA9 b1 b2))
 have HC:Hid (∀ k w',TBl k V w'→w'.cell? ⟨q1,0,none⟩=some (.int .i64 all)∧w'.cell? ⟨q2,0,none⟩=some (.int .i64 (o:Int))∧w'.heap[g]?=some (hObj x)) :=
  zQ9 fun k w' h=>⟨blk1 (j0e HB.out.2.1 h (zL9 _)),blk1 (j0e HB.out.2.2 h (zL9 _)),j0e HB.out.1 h (zL9 _)⟩
 clear b0 b1 b2
 refine j6z (TBl) (by kernel_rfl) (by kernel_rfl) TBl.tr (TBl.draw _) ?_
 apply Exists.intro
 refine⟨fun ys=>?_,fun ops K hK=>?_⟩
 ·simp only[j0q,List.filterMap_cons,List.filterMap_nil,j0r]
  go_simp
  rfl
 refine LexI.const TBl.rf ?_
 refine⟨.int .i64 all,fun n' ys w' hn' hT hd=>?_,?_⟩
 ·try simp[j0f,j0g,DF.holds,Region.binds,EqF] at hd
  try simp only[hd]
  obtain⟨y0,y1,-⟩:=HC.out n' w' hT
  intro Q2 hQ2
  go_wp2_with fail
  try rfl
 try simp only[List.nil_append,List.cons_append]
 refine LexI.some (EqF (.agg (hcs x))) (EqF.st) (fun n' ys w' hn' hT hd=>?_) ?_
 ·try simp[j0f,j0g,DF.holds,Region.binds,EqF] at hd
  try simp only[hd]
  obtain⟨-,-,bh⟩:=HC.out n' w' hT
  intro Q2 hQ2
  go_wp2_with ((with_reducible apply j0t bh hl);(rfl);(rfl);(rfl))
  exact⟨TBl.rf _,rfl⟩
 try simp only[List.nil_append,List.cons_append]
 refine LexI.const TBl.rf ?_
 refine⟨.int .i64 o,fun n' ys w' hn' hT hd=>?_,?_⟩
 ·try simp[j0f,j0g,DF.holds,Region.binds,EqF] at hd
  try simp only[hd]
  obtain⟨y0,y1,-⟩:=HC.out n' w' hT
  intro Q2 hQ2
  go_wp2_with fail
  try rfl
 try simp only[List.nil_append,List.cons_append]
 refine LexI.some (EqF (.int .i64 ow)) (EqF.st) (fun n' ys w' hn' hT hd=>?_) ?_
 ·try simp[j0f,j0g,DF.holds,Region.binds,EqF] at hd
  try simp only[hd]
  intro Q2 hQ2
  go_wp2_with fail
  refine(k1i x o w' HV.out.2 ho).mono ?_
  rintro e wU ⟨rfl,hb⟩
  rw[←HO.out]
  go_wp2
  exact⟨_,rfl,hb,rfl⟩
 try simp only[List.nil_append,List.cons_append]
 refine LexI.some (EqF (.int .i64 (all-ow))) (EqF.st) (fun n' ys w' hn' hT hd=>?_) ?_
 ·try simp[j0f,j0g,DF.holds,Region.binds,EqF] at hd
  try simp only[hd]
  intro Q2 hQ2
  go_wp2_with fail
  exact⟨TBl.rf _,rfl⟩
 try simp only[List.nil_append,List.cons_append]
 refine LexI.some (EqF (.int .i64 (all-ow))) (EqF.st) (fun n' ys w' hn' hT hd=>?_) ?_
 ·try simp[j0f,j0g,DF.holds,Region.binds,EqF] at hd
  try simp only[hd]
  intro Q2 hQ2
  go_wp2_with fail
  exact⟨TBl.rf _,rfl⟩
 try simp only[List.nil_append,List.cons_append]
 refine hK _ (fun n' ys wc hn' hT hF=>?_)
 simp only[AllF,DF.holds] at hF
 obtain⟨-,-,-,-,-,h4,-⟩:=hF
 unfold EqF at h4
 rw[h4]
 have HT:=zQ9 hT
 clear hT h4
 go_wp2
 go_ret
 exact⟨rfl,HV.out.1.trans (Below.mono HT.out HV.out.1.size)⟩
def j1x (b:Hb) (o:Int):Int:=if sumE b o≠0 then sumE b o else if b.ends (-1) 0=[] then 11 else 0
def j2y (b:Hb) (o:Int):Rn:=if j1x b o=0 then j0o (b.ends (-1) 0) (fun h=>hasS (sumS b.hs o.toNat b.ds)-j0s h o.toNat) else ⟨0,0⟩
def GoneR (b:Hb) (o:Int) (w:World) (e:Ending) (w':World):Prop:=e=.returned (.tuple #[.agg #[.int .i64 (j2y b o).lo,.int .i64 (j2y b o).hi],.int .i64 (j1x b o)])∧Below w.heap.size w w'
theorem k0c {b:Hb} {o e:Int} {r:Rn} {w w':World} (he:j1x b o=e) (hr:j2y b o=r) (hb:Below w.heap.size w w'):GoneR b o w (.returned (.tuple #[.agg #[.int .i64 r.lo,.int .i64 r.hi],.int .i64 e])) w':=by
 subst he hr;exact⟨rfl,hb⟩
theorem Gone_any (b:Hb) (o:Int) (w:World) (hin:HbIn w b):Calls Tryz.prog 34 #[b.v,.int .i64 o] w (GoneR b o w):=by
 obtain⟨g,hg⟩:∃ g,g=w.heap.size:=⟨_,rfl⟩
 obtain⟨V,hV⟩:∃ V,V=((w.alloc b.obj).alloc (Obj.cells #[Value.int .i64 o] 3)).alloc (Obj.cells #[.int .i64 0,.int .i64 0] 72):=⟨_,rfl⟩
 have b0:V.heap[g]?=some b.obj:=by rw[hV,hg];exact j0b (j0b (j0c rfl) _) _
 have b1:V.heap[g+1]?=some (Obj.cells #[Value.int .i64 o] 3 (0,0)):=by rw[hV,hg];exact j0b (j0c (by simp)) _
 have b2:V.heap[g+1+1]?=some (Obj.cells #[.int .i64 0,.int .i64 0] 72 (0,0)):=by rw[hV,hg];exact j0c (by simp)
 have hBV:Below w.heap.size w V:=by rw[hV];exact bal (bal (bal0 w _) (zL9 _) _) (zL9 _) _
 have hiV:=hin.below hBV (zL9 _)
 obtain⟨c0,c1,c2,c3,c4⟩:=j0h b0
 have p0:=blk1 b1
 have hsm:=Sum_any b o V hiV
 unfold Hb.v at hsm
 have HV:=zQ9 (zA9 hBV (zA9 b0 (zA9 b1 (zA9 b2 (zA9 hiV hg)))))
 unfold Hb.v
 go_enter Tryz.func34,Tryz.ntmps34
 go_upto_region 1 with (fail)
 rw[←hV,←hg]
 clear hV hg hin hBV hiV b0 b1 b2
 obtain⟨se,hse⟩:∃ se,se=sumE b o:=⟨_,rfl⟩
 obtain⟨sv,hsv⟩:∃ sv,sv=sumR b o:=⟨_,rfl⟩
 unfold SumR at hsm
 rw[←hse,←hsv] at hsm
 have HS:=zQ9 (zA9 hse hsv)
 clear hse hsv
 go_upto_region 2 with (go_at_call 15;refine hsm.mono ?_;rintro e w2 ⟨rfl,hb2⟩;unfold smV)
 obtain⟨S,hS⟩:∃ S,S=w2.heap.size:=⟨_,rfl⟩
 obtain⟨U,hU⟩:∃ U,U=w2.alloc (Obj.cells #[Value.int .i64 sv.first,.int .i64 sv.born,.int .i64 sv.bought,.int .i64 sv.sold,.int .i64 sv.eaten] 46):=⟨_,rfl⟩
 rw[←hU,←hS]
 have hbU:Below V.heap.size V U:=by rw[hU];exact bal hb2 (zL9 _) _
 have bS:U.heap[S]?=some (smO sv.first sv.born sv.bought sv.sold sv.eaten):=by rw[hU,hS];exact j0c rfl
 have hVS:V.heap.size≤S:=by rw[hS];exact hb2.size
 have b0:=j0e HV.out.2.1 hbU (zL9 _)
 have b1:=j0e HV.out.2.2.1 hbU (zL9 _)
 have b2:=j0e HV.out.2.2.2.1 hbU (zL9 _)
 have HU:=zQ9 (zA9 hbU (zA9 bS (zA9 hVS (zA9 b0 (zA9 b1 b2)))))
 clear c0 c1 c2 c3 c4 p0 hsm hb2 hU hS hbU bS hVS
 obtain⟨c0,c1,c2,c3,c4⟩:=j0h b0
 obtain⟨s0,s1,s2,s3,s4⟩:=j0h HU.out.2.1
 obtain⟨r0,r1⟩:=blk2 b2
 obtain⟨fr0,fr1⟩:=zA9 (frz b2 0) (frz b2 1)
 have hl2:=j0a b2
 have hzz:=HU.out.1.size
 clear b0 b1 b2
 by_cases h0:se=0
 ·subst h0
  have h0:b.chk=0∧ownB b.l.length o=true:=by
   have h:=HS.out.1
   unfold sumE at h
   split at h
   ·rename_i hc;exact absurd h.symm hc
   ·rename_i hc
    split at h
    ·cases h
    ·rename_i hc2;exact⟨Classical.not_not.1 hc,by simpa using hc2⟩
  have hok:=j3a h0.1
  obtain⟨ho0,ho1⟩:=j1i.1 h0.2
  obtain⟨k,rfl⟩:=Int.eq_ofNat_of_zero_le ho0
  have hk5:k<5:=by have:=hok.n5;omega
  have hsv:sv=sumS b.hs k b.ds:=by rw[HS.out.2];unfold sumR;rw[←HS.out.1,if_pos rfl];rfl
  have hfb:HBd 20 (j0j b.hs):=j5h hok.rb
  have hsb:=j9n (hs:=b.hs) (o:=k) (ds:=b.ds) (by
   have a0:=hfb.get (show 0<3 by decide) hk5
   have a1:=hfb.get (show 1<3 by decide) hk5
   have a2:=hfb.get (show 2<3 by decide) hk5
   unfold j0s;omega) (fun d hd=>by have:=(hok.dI d hd).m;omega) b.ds.length (zL9 _)
  rw[List.take_length,←hsv] at hsb
  have hd6:=hok.d6
  obtain⟨x1,x2,x3,x4,x5⟩:=sv
  obtain⟨⟨l1,u1⟩,⟨l2,u2⟩,⟨l3,u3⟩,⟨l4,u4⟩,l5,u5⟩:=hsb
  dsimp only at l1 u1 l2 u2 l3 u3 l4 u4 l5 u5 s0 s1 s2 s3 s4
  have hB:(3000:Int)+300*(b.ds.length:Int)≤4800:=by omega
  have v1:=Int.le_trans u1 hB
  have v2:=Int.le_trans u2 hB
  have v3:=Int.le_trans u3 hB
  have v4:=Int.le_trans u4 hB
  have v5:=Int.le_trans u5 hB
  have H0:=zQ9 (zA9 h0.1 (zA9 hsv hok))
  have hent:∀ (args:Array Value) (w:World),(callFunc 99 args).run Tryz.prog w=.ok (.enter 99 args) w:=enters_of Tryz.func99 (by kernel_rfl) rfl
  have HENT:=zQ9 hent
  clear h0 hok ho0 ho1 hsv hfb hd6 u1 u2 u3 u4 u5 hB hent
  go_upto_region 5 with (fail)
  obtain⟨all,hall'⟩:∃ a,a=x1+x2+x3-x4-x5:=⟨_,rfl⟩
  have hab:-100000≤all∧all≤100000:=by omega
  rw[←hall']
  obtain⟨q,hq⟩:∃ q,q=U.heap.size:=⟨_,rfl⟩
  obtain⟨T,hT⟩:∃ T,T=U.alloc (Obj.cells #[Value.int .i64 all] 3):=⟨_,rfl⟩
  rw[←hT,←hq]
  have hbT:Below V.heap.size V T:=by rw[hT];exact bal HU.out.1 (zL9 _) _
  have bq:T.heap[q]?=some (Obj.cells #[Value.int .i64 all] 3 (0,0)):=by rw[hT,hq];exact j0c rfl
  have b0:=j0e HV.out.2.1 hbT (zL9 _)
  have b1:=j0e HV.out.2.2.1 hbT (zL9 _)
  have b2:=j0e HV.out.2.2.2.1 hbT (zL9 _)
  have hVq:V.heap.size≤q:=by rw[hq];exact HU.out.1.size
  have hiT:=HV.out.2.2.2.2.1.below hbT (zL9 _)
  have HT:=zQ9 (zA9 hbT (zA9 bq (zA9 b1 (zA9 b2 (zA9 hiT (zA9 hall' hVq))))))
  have hbg:=k0u b T
  unfold Hb.v at hbg
  clear hT hq hbT bq b1 b2 hVq hiT hall' s0 s1 s2 s3 s4 c0 c1 c2 c3 c4 r0 r1 fr0 fr1 hl2
  obtain⟨c0,c1,c2,c3,c4⟩:=j0h b0
  clear b0
  obtain⟨bE,hbE⟩:∃ bE,bE=!decide (b.ends (-1) 0=[]):=⟨_,rfl⟩
  have HBE:=zQ9 hbE
  clear hbE
  go_upto_if 43 with (first
   | (go_at_call 63;refine hbg.mono ?_;rintro e w3 ⟨p,rfl,hp,hpb,hb3⟩;have hWk:Work T p b (-1) 0 w3:=⟨HT.out.2.2.2.2.1,hp,hb3,⟨_,hpb⟩,H0.out.1⟩;have bq3:=j0e HT.out.2.1 hb3 (zL9 _);have bo3:=j0e HT.out.2.2.1 hb3 (zL9 _);have hqp:=j0a HT.out.2.1;have hop:=j0a HT.out.2.2.1;have H3:=zQ9 (zA9 hWk (zA9 bq3 (zA9 bo3 hb3)));clear hpb hb3 hWk bq3 bo3)
   | (go_at_call 98;refine(k9f T p b (-1) 0 w3 H3.out.1 99 #[.pointer (some ⟨q,0,none⟩),.pointer (some ⟨g+1,0,none⟩)] (fun h=>all-j0s h k) HENT.out (fun x hx W hN=>q3q x all k q (g+1) W (hb_of H0.out.2.2 x hx) hk5 hab (hN.blk H3.out.2.1 (by omega)) (hN.blk H3.out.2.2.1 (by omega)))).mono ?_;rintro e w4 ⟨rfl,hN4⟩;rw[←HBE.out]))
  obtain⟨rg,hrg⟩:∃ rg,rg=j0o (b.ends (-1) 0) (fun h=>all-j0s h k):=⟨_,rfl⟩
  rw[←hrg]
  obtain⟨Y,hY⟩:∃ Y,Y=w4.alloc (Obj.cells #[Value.int .i64 rg.lo,.int .i64 rg.hi] 72):=⟨_,rfl⟩
  obtain⟨y,hy⟩:∃ y,y=w4.heap.size:=⟨_,rfl⟩
  rw[←hY,←hy]
  have bY:Y.heap[y]?=some (Obj.cells #[Value.int .i64 rg.lo,.int .i64 rg.hi] 72 (0,0)):=by rw[hY,hy];exact j0c rfl
  have hg2:g+1+1<T.heap.size:=j0a HT.out.2.2.2.1
  have b2Y:Y.heap[g+1+1]?=some (Obj.cells #[.int .i64 0,.int .i64 0] 72 (0,0)):=by rw[hY];exact j0b (hN4.blk (j0e HT.out.2.2.2.1 H3.out.2.2.2 (zL9 _)) (by omega)) _
  have hBY:Below w.heap.size w Y:=by
   have h1:=HV.out.1
   have h2:=HT.out.1
   have h3:=H3.out.2.2.2
   have h4:Below T.heap.size w3 w4:=hN4.less hp h3.size
   have h5:Below w4.heap.size w4 Y:=by rw[hY];exact bal0 w4 _
   have s1:=h1.size;have s2:=h2.size;have s3:=h3.size;have s4:=h4.size
   exact(h1.trans (h2.mono s1)).trans (((h3.mono (by omega)).trans (h4.mono (by omega))).trans (h5.mono (by omega)))
  have HRG:=zQ9 (zA9 hrg hp)
  have HY:=zQ9 (zA9 b2Y hBY)
  obtain⟨y0,y1⟩:=blk2 bY
  obtain⟨r0,r1⟩:=blk2 b2Y
  obtain⟨fr0,fr1⟩:=zA9 (frz b2Y 0) (frz b2Y 1)
  have hl2:=j0a b2Y
  clear hrg hY hy bY b2Y hBY hN4 hp
  have hse:sumE b k=0:=HS.out.1.symm
  cases bE with
  | false =>
    go_wp2_with fail
    obtain⟨Z,hZ⟩:∃ Z,Z=(Y.setCell ⟨g+1+1,0,none⟩ (.int .i64 0)).setCell ⟨g+1+1,1,none⟩ (.int .i64 0):=⟨_,rfl⟩
    rw[←hZ]
    have bZ:Z.heap[g+1+1]?=some (Obj.cells #[.int .i64 0,.int .i64 0] 72 (0,0)):=by rw[hZ];exact(j0d (j0d HY.out.1)).trans (by simp)
    have hgr:Y.grownBy Z (some (g+1+1)):=by rw[hZ];exact(j0i _ _ _ _).trans (j0i _ _ _ _)
    obtain⟨q0,q1⟩:=blk2 bZ
    clear hZ
    refine bodyPost_ret (v:=.tuple #[.agg #[.int .i64 0,.int .i64 0],.int .i64 11]) (by simp[results,Tryz.f34,go_sem,q0,q1]) rfl ?_
    have hE:b.ends (-1) 0=[]:=by have h:=HBE.out;simpa using h.symm
    have he:j1x b k=11:=by unfold j1x;rw[if_neg (by rw[hse];simp),if_pos hE]
    exact k0c (r:=⟨0,0⟩) he (by unfold j2y;rw[he,if_neg (by decide)]) (HY.out.2.grown hgr HY.out.2.size (fun k e=>by cases e;rw[←HV.out.2.2.2.2.2];omega))
  | true =>
    go_wp2_with fail
    obtain⟨Z,hZ⟩:∃ Z,Z=(Y.setCell ⟨g+1+1,0,none⟩ (.int .i64 rg.lo)).setCell ⟨g+1+1,1,none⟩ (.int .i64 rg.hi):=⟨_,rfl⟩
    rw[←hZ]
    have bZ:Z.heap[g+1+1]?=some (Obj.cells #[.int .i64 rg.lo,.int .i64 rg.hi] 72 (0,0)):=by rw[hZ];exact(j0d (j0d HY.out.1)).trans (by simp)
    have hgr:Y.grownBy Z (some (g+1+1)):=by rw[hZ];exact(j0i _ _ _ _).trans (j0i _ _ _ _)
    obtain⟨q0,q1⟩:=blk2 bZ
    clear hZ
    refine bodyPost_ret (v:=.tuple #[.agg #[.int .i64 rg.lo,.int .i64 rg.hi],.int .i64 0]) (by simp[results,Tryz.f34,go_sem,q0,q1]) rfl ?_
    have hE:b.ends (-1) 0≠[]:=by have h:=HBE.out;simpa using h
    have he:j1x b k=0:=by unfold j1x;rw[if_neg (by rw[hse];simp),if_neg hE]
    exact k0c (r:=rg) he (by unfold j2y;rw[he,if_pos rfl,HRG.out.1,HT.out.2.2.2.2.2.1];show j0o _ (fun h=>hasS (sumS b.hs k b.ds)-j0s h k)=_;rw[←H0.out.2.1];rfl) (HY.out.2.grown hgr HY.out.2.size (fun k e=>by cases e;rw[←HV.out.2.2.2.2.2];omega))
 ·have xg:(se != 0)=true:=by simp[h0]
  have H0:=zQ9 h0
  clear h0
  go_wp2_with fail
  obtain⟨Z,hZ⟩:∃ Z,Z=(U.setCell ⟨g+1+1,0,none⟩ (.int .i64 0)).setCell ⟨g+1+1,1,none⟩ (.int .i64 0):=⟨_,rfl⟩
  rw[←hZ]
  have bZ:Z.heap[g+1+1]?=some (Obj.cells #[.int .i64 0,.int .i64 0] 72 (0,0)):=by rw[hZ];exact(j0d (j0d HU.out.2.2.2.2.2)).trans (by simp)
  have hgr:U.grownBy Z (some (g+1+1)):=by rw[hZ];exact(j0i _ _ _ _).trans (j0i _ _ _ _)
  obtain⟨q0,q1⟩:=blk2 bZ
  clear hZ
  refine bodyPost_ret (v:=.tuple #[.agg #[.int .i64 0,.int .i64 0],.int .i64 se]) (by simp[results,Tryz.f34,go_sem,q0,q1]) rfl ?_
  have he:j1x b o=se:=by unfold j1x;rw[←HS.out.1,if_pos H0.out]
  refine k0c (r:=⟨0,0⟩) he (by unfold j2y;rw[he,if_neg H0.out]) ((HV.out.1.trans (HU.out.1.mono HV.out.1.size)).grown hgr ?_ (fun k e=>by cases e;rw[←HV.out.2.2.2.2.2];omega))
  have h1:=HV.out.1.size;omega
end Go.Proofs.YtmennjmjakdkcaaGreat
