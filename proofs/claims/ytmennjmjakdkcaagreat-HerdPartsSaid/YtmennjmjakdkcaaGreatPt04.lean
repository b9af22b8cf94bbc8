/- HerdParts. -/
import Derived.Maps.AppendAt
import Derived.Test.YtmennjmjakdkcaaGreatPt03
set_option linter.unusedVariables false
set_option linter.unusedSimpArgs false
set_option maxRecDepth 100000
set_option maxHeartbeats 2000000
namespace Go.Proofs.YtmennjmjakdkcaaGreat
open Go.RowKit
theorem j2g (n lo hi:Int) (w:World) :
 Calls Tryz.prog 106 #[.int .i64 n,.int .i64 lo,.int .i64 hi] w fun e w'=>e=.returned (.bool (btw n lo hi))∧w=w':=by
 by_cases h1:lo<=n<;>by_cases h2:n<=hi
 all_goals
  go_enter Tryz.func106,Tryz.ntmps106
  go_wp2
  go_ret
  exact⟨by simp[btw,h1,h2],rfl⟩
theorem but_any (n m:Int) (w:World) (hn:0<=n) (a1:n<=255) (hm:0<=m) (a0:m<=255) :
 Calls Tryz.prog 148 #[.int .i64 n,.int .i64 m] w fun e w'=>e=.returned (.int .i64 (butI n m))∧w=w':=by
 go_enter Tryz.func148,Tryz.ntmps148
 go_wp2
 go_ret
 exact⟨j0j (j3g n m hn a1 hm a0),rfl⟩
theorem ones64 (x:Int) (w:World) (h0:0<=x) (h1:x<=255) :
 Calls Tryz.prog 158 #[.int .u64 x] w fun e w'=>e=.returned (.int .i64 (popI x))∧w=w':=by
 go_enter Tryz.func158,Tryz.ntmps158
 go_wp2
 go_ret
 refine⟨j0j ?_,rfl⟩;obtain⟨y,rfl⟩:=zB7 h0;have h:y<256:=by omega
 clear h0 h1;revert y;decide +kernel
theorem q4f (n:Int) (w:World) (hn:0<=n) (a0:n<=255) :
 Calls Tryz.prog 149 #[.int .i64 n] w fun e w'=>e=.returned (.int .i64 (popI n))∧w=w':=by
 have hw:IntKind.u64.wrap n=n:=IntWalk.u64_in _ (by omega)
 go_enter Tryz.func149,Tryz.ntmps149
 go_wp2_with (first|(go_at_call 158;refine(ones64 n _ hn a0).mono ?_;rintro e w' ⟨rfl,rfl⟩)|go_in)
 go_ret
 exact⟨rfl,rfl⟩
theorem on_any (n:Int) (s:Sg) (w:World) (hn:0<=n) (a0:n<=255) :
 Calls Tryz.prog 147 #[.int .i64 n,vSg s] w fun e w'=>e=.returned (.int .i64 (onI n s.l s.r))∧Below w.heap.size w w':=by
 obtain⟨sn,l,r,sb,sp⟩:=s;unfold vSg;have h1:=j3g n 15 hn a0 (by omega) (by omega)
 have h2:=j3g n 240 hn a0 (by omega) (by omega)
 have h3:=j3g (butI n 15) 240 (j5g _ _) (j5f _ _) (by omega) (by omega)
 have H:=zQ9 (zA9 h1 (zA9 h2 h3));clear h1 h2 h3;cases l<;>cases r
 all_goals
  go_enter Tryz.func147,Tryz.ntmps147
  go_wp2
  go_ret
  refine⟨j0j ?_,(zB2 _ _).alloc (zL9 _) _⟩
 ·exact(onI_ff n hn a0).symm
 ·exact H.o.2.1.trans (onI_ft n hn a0).symm
 ·exact H.o.1.trans (onI_tf n hn a0).symm
 ·refine Eq.trans ?_ (onI_tt n hn a0).symm;show bits .andNot .i64 (bits .andNot .i64 n 15) 240=_;rw[H.o.1,H.o.2.2]
theorem seen_any (s:Sg) (b p:Int) (w:World) :
 Calls Tryz.prog 131 #[vSg s,.int .i64 b,.int .i64 p] w fun e w'=>e=.returned (.int .i64 (seen s b p))∧Below w.heap.size w w':=by
 by_cases h1:btw s.n 0 255=true
 ·have a0:=j0o.1 h1;go_enter Tryz.func131,Tryz.ntmps131
  unfold vSg;go_wp2_with (first
   | (go_at_call 106;refine(j2g _ _ _ _).mono ?_;rintro e w' ⟨rfl,rfl⟩)
   | (go_at_call 147;refine(on_any s.n s _ a0.1 a0.2).mono ?_;rintro e w1 ⟨rfl,a1⟩;obtain⟨a2,a3⟩:=bc a1;have a4:=a1.size))
  all_goals
   go_ret
   refine⟨j0j ?_,?_⟩
   ·simp_all [seen]
   ·exact((zB2 _ _).alloc (zL9 _) _).trans (a1.mono (by simp))
 ·have a0:btw s.n 0 255=false:=by simpa using h1
  go_enter Tryz.func131,Tryz.ntmps131
  unfold vSg;go_wp2_with (go_at_call 106;refine(j2g _ _ _ _).mono ?_;rintro e w' ⟨rfl,rfl⟩)
  go_ret
  exact⟨j0j (by simp[seen,a0]),(zB2 _ _).alloc (zL9 _) _⟩
theorem j9c (s:Sg) (w:World) :
 Calls Tryz.prog 113 #[vSg s] w fun e w'=>e=.returned (.int .i64 (seen s 9 6))∧Below w.heap.size w w':=by
 go_enter Tryz.func113,Tryz.ntmps113
 unfold vSg;go_wp2_with (go_at_call 131;refine(seen_any s 9 6 _).mono ?_;rintro e w1 ⟨rfl,a0⟩)
 go_ret
 exact⟨rfl,((zB2 _ _).alloc (zL9 _) _).trans (a0.mono (by simp))⟩
theorem k0b {L:List Int} {q:Nat} {x:Int} {f:Int->Bool} (h:(L.take q).all f=true) (hx:L[q]?=some x) (hf:f x=true):(L.take (q+1)).all f=true:=by
 rw[List.take_add_one,hx,List.all_append,h];simp[hf]
theorem k2c {L:List Int} {q:Nat} {x:Int} {f:Int->Bool} (hx:L[q]?=some x) (hf:f x=false):L.all f=false:=by
 rw[List.all_eq_false];exact⟨x,zB4 hx,by simp[hf]⟩
theorem k8o {l:List Mk} {n k:Nat} {m:Mk} (hl:l.length=n) (hk:k<n) (hm:l[k]?=some m) :
 chk l (n-k) k=if mkOk m=false then 1 else if (l.take k).contains m then 4 else chk l (n-(k+1)) (k+1):=by
 obtain⟨j,hj⟩:∃ j,n-k=j+1:=⟨n-k-1,by omega⟩
 rw[hj,show n-(k+1)=j by omega]
 simp only[chk,hm]
theorem k6c {l:List Mk} {q:Nat} {x m:Mk} (h:(l.take q).contains m=false) (hx:l[q]?=some x) (a0:¬x=m):(l.take (q+1)).contains m=false:=by
 have a1:q<l.length:=(List.getElem?_eq_some_iff.1 hx).1;rw[List.take_add_one,hx];simp only[Option.toList,List.contains_eq_mem,decide_eq_false_iff_not,List.mem_append,List.mem_singleton,not_or] at h ⊢;exact⟨h,fun e=>a0 e.symm⟩
theorem q0l {l:List Mk} {q k:Nat} {m:Mk} (hx:l[q]?=some m) (hq:q<k):(l.take k).contains m=true:=by
 simp only[List.contains_eq_mem,decide_eq_true_eq];exact zB4 (i:=q) (by rw[List.getElem?_take,if_pos hq];exact hx)
theorem j6x (t:Int) (A:Option Addr) (n c:Nat) (l:List Mk) (w:World) (hc:Marks w A n l) (ax:n<=c) (aj:c<=maxLen) :
 Calls Tryz.prog 62 #[.agg #[.int .i64 t,.slice A n c]] w fun e w'=>e=.returned (.int .i64 (check t l))∧Below w.heap.size w w':=by
 have hl:=hc.len;have HL:=zQ9 hl;unfold maxLen at aj;have a2:Below w.heap.size w (w.alloc (.cells #[.int IntKind.i64 t,Value.slice A n c] 24)):=(zB2 _ _).alloc (zL9 _) _;by_cases h1:btw t 0 2=true
 ·by_cases h2:n<=5
  ·have a5:check t l=chk l (n-0) 0:=by
    unfold check;rw[if_neg (by simp[h1]),if_neg (by omega),hl];rfl
   have HC:=zQ9 a5;clear hl a5;have h3:decide ((5:Int)<(n:Int))=false:=by simp;omega
   have a9:=hc.alloc (.cells #[.int IntKind.i64 t,Value.slice A n c] 24);have a6:(w.alloc (.cells #[.int IntKind.i64 t,Value.slice A n c] 24)).heap[w.heap.size]?=some (.cells #[.int IntKind.i64 t,Value.slice A n c] 24 (0,0)):=heap_alloc_new w _;go_enter Tryz.func62,Tryz.ntmps62
   go_wp2_with (go_at_call 106;refine(j2g _ _ _ _).mono ?_;rintro e w' ⟨rfl,rfl⟩)
   generalize hW:(w.alloc (.cells #[.int IntKind.i64 t,Value.slice A n c] 24))=W0 at a9 a6 a2 ⊢;clear hW;have an:=j0a a6;go_loopg [18] n (fun g i wr=>∃ k:Nat,k+g=n∧i=.int .i64 k∧chk l (n-0) 0=chk l (n-k) k∧Below W0.heap.size W0 wr)
   case atStart=>exact⟨0,by omega,rfl,rfl,zB2 _ _⟩
   case round =>
    obtain⟨k,hk,rfl,a7,a4⟩:=hrel;obtain⟨wo,rfl⟩:∃ wo:World,wo=wr:=⟨_,rfl⟩;obtain⟨g1,rfl⟩:∃ g1:Nat,g1=gk:=⟨_,rfl⟩;have HK:=zQ9 a7;have ah:=zQ9 hk;have ay:k<=n:=by omega
    clear a7 hk;have aw:=a4.size;by_cases hlt:k<n
    ·obtain⟨b,off,m,rfl,hb,hm,c0,c1,c2⟩:=Marks.get (a9.below a4 (zL9 _)) hlt;have HM:=zQ9 hm;have HS:=zQ9 (k8o HL.o hlt hm);clear hm;have r1:wo.cell? ⟨w.heap.size,1,none⟩=some (.slice (some ⟨b,off,none⟩) n c):=by
      have:=j0e a6 a4 (zL9 _);simp[World.cell?,this]
     have a1:=(a9.below a4 (zL9 _)).alloc (.cells #[.int IntKind.i64 m.n,Value.int IntKind.i64 m.b,Value.int IntKind.i64 m.p] 117);have aq:w.heap.size<wo.heap.size:=by omega
     by_cases hmk:mkOk m=true
     ·have h4:btw m.n 0 255=true:=by simp[mkOk] at hmk;exact hmk.1
      have h5:btw m.b 0 9=true:=by simp[mkOk] at hmk;exact hmk.2.1
      have h6:btw m.p 0 6=true:=by simp[mkOk] at hmk;exact hmk.2.2
      go_wp2_with (go_at_call 106;refine(j2g _ _ _ _).mono ?_;rintro e w' ⟨rfl,rfl⟩)
      generalize hW1:(wo.alloc (.cells #[.int IntKind.i64 m.n,Value.int IntKind.i64 m.b,Value.int IntKind.i64 m.p] 117))=W1 at a1 ⊢;have a0:W1.heap[wo.heap.size]?=some (.cells #[.int IntKind.i64 m.n,Value.int IntKind.i64 m.b,Value.int IntKind.i64 m.p] 117 (0,0)):=by rw[<-hW1];exact heap_alloc_new wo _
      have a8:Below W0.heap.size W0 W1:=by rw[<-hW1];exact a4.alloc a4.size _
      clear hW1;have az:=j0a a0;go_loopg [44] k (fun g i wr=>∃ q:Nat,q+g=k∧i=.int .i64 q∧(l.take q).contains m=false∧Below W1.heap.size W1 wr)
      case atStart=>exact⟨0,by omega,rfl,by simp,zB2 _ _⟩
      case round =>
       obtain⟨q,hq,rfl,ae,a3⟩:=hrel;have HN:=zQ9 ae;have HQ:=zQ9 hq;have ao:q<=k:=by omega
       clear ae hq;have av:=a3.size;by_cases hqk:q<k
       ·obtain⟨b',ac,x,hA,ar,hx,d0,d1,d2⟩:=Marks.get (a1.below a3 (zL9 _)) (show q<n by omega)
        obtain⟨rfl,rfl⟩:b'=b∧ac=off:=by simpa[eq_comm] using hA
        have HX:=zQ9 hx;clear hx hA;have e0:wr.cell? ⟨wo.heap.size,0,none⟩=some (.int .i64 m.n):=by have:=j0e a0 a3 (zL9 _);simp[World.cell?,this]
        have e1:wr.cell? ⟨wo.heap.size,1,none⟩=some (.int .i64 m.b):=by have:=j0e a0 a3 (zL9 _);simp[World.cell?,this]
        have e2:wr.cell? ⟨wo.heap.size,2,none⟩=some (.int .i64 m.p):=by have:=j0e a0 a3 (zL9 _);simp[World.cell?,this]
        have am:wo.heap.size<wr.heap.size:=by omega
        by_cases hxm:x=m
        ·subst hxm;go_wp2
         go_ret
         refine⟨j0j ?_,?_⟩
         ·rw[HC.o,HK.o,HS.o,if_neg (by simp[hmk]),if_pos (q0l HX.o hqk)]
         ·exact a2.trans ((a8.trans (a3.mono a8.size)).mono a2.size |>.alloc (by omega) _)
        ·have af:¬(x.n=m.n∧x.b=m.b∧x.p=m.p):=fun h=>hxm (by cases x;cases m;simp_all)
         have ag:=zQ9 af;clear af hxm;go_wp2
         ·exact absurd ⟨‹_›,‹_›,‹_›⟩ ag.o
         all_goals
          go_roundg (gk-1)
          case measure=>have:=HQ.o;omega
          case rel=>exact⟨q+1,by have:=HQ.o;omega,by go_num,k6c HN.o HX.o (fun e=>ag.o (by rw[e];exact⟨rfl,rfl,rfl⟩)),a3.alloc a3.size _⟩
       ·obtain rfl:q=k:=by omega
        go_wp2
        go_roundg (g1-1)
        case measure=>have:=ah.o;omega
        case rel =>
         refine⟨q+1,by have:=ah.o;omega,by go_num,?_,(a8.trans (a3.mono a8.size))⟩
         rw[HK.o,HS.o,if_neg (by simp[hmk]),if_neg (by rw[HN.o];simp)]
     ·have aa:mkOk m=false:=by simpa using hmk
      have ad:¬(btw m.n 0 255=true∧btw m.b 0 9=true∧btw m.p 0 6=true):=by simpa[mkOk] using hmk
      have ak:=zQ9 ad;clear ad hmk;go_wp2_with (go_at_call 106;refine(j2g _ _ _ _).mono ?_;rintro e w' ⟨rfl,rfl⟩)
      all_goals first
       | (go_ret
          exact⟨j0j (by rw[HC.o,HK.o,HS.o,if_pos aa]),a2.trans ((a4.alloc a4.size _).mono a2.size)⟩)
       | (exfalso;exact ak.o ⟨‹_›,‹_›,by simpa using ‹(!btw m.p 0 6)=false›⟩)
    ·obtain rfl:k=n:=by omega
     go_wp2
     go_ret
     exact⟨j0j (by rw[HC.o,HK.o,Nat.sub_self];rfl),a2.trans (a4.mono a2.size)⟩
  ·have h3:decide ((5:Int)<(n:Int))=true:=by simp;omega
   have a5:check t l=6:=by
    unfold check;rw[if_neg (by simp[h1]),if_pos (by omega)]
   have HC:=zQ9 a5;clear hl a5;go_enter Tryz.func62,Tryz.ntmps62
   go_wp2_with (go_at_call 106;refine(j2g _ _ _ _).mono ?_;rintro e w' ⟨rfl,rfl⟩)
   go_ret
   exact⟨j0j HC.o.symm,a2⟩
 ·have ai:btw t 0 2=false:=by simpa using h1
  have a5:check t l=1:=by
   unfold check;rw[if_pos ai]
  have HC:=zQ9 a5;clear hl a5 h1;go_enter Tryz.func62,Tryz.ntmps62
  go_wp2_with (go_at_call 106;refine(j2g _ _ _ _).mono ?_;rintro e w' ⟨rfl,rfl⟩)
  go_ret
  exact⟨j0j HC.o.symm,a2⟩
def j2p (m:Mk) (s:Sg):Sg:=⟨onI (orI m.n s.n) s.l s.r,s.l,s.r,if s.b=-1 then -1 else m.b,if s.p=-1 then -1 else m.p⟩
theorem onI_of (n:Int) (l r:Bool) (h0:0<=n) (h1:n<=255):onI n l r=(if l then (if r then bits .andNot .i64 (bits .andNot .i64 n 15) 240 else bits .andNot .i64 n 15) else (if r then bits .andNot .i64 n 240 else n)):=by
 have e1:=j3g n 15 h0 h1 (by omega) (by omega)
 have e2:=j3g n 240 h0 h1 (by omega) (by omega)
 have e3:=j3g (butI n 15) 240 (j5g _ _) (j5f _ _) (by omega) (by omega)
 cases l<;>cases r
 ·simpa using onI_ff n h0 h1
 ·simpa[e2] using onI_ft n h0 h1
 ·simpa[e1] using onI_tf n h0 h1
 ·simpa[e1,e3] using onI_tt n h0 h1
theorem k7u (m:Mk) (s:Sg) (w:World) (hm:0<=m.n) (a1:m.n<=255) (hs:0<=s.n) (a0:s.n<=255) :
 Calls Tryz.prog 76 #[vMk m,vSg s] w fun e w'=>e=.returned (vSg (j2p m s))∧Below w.heap.size w w':=by
 obtain⟨mn,mb,mp⟩:=m;obtain⟨sn,sl,sr,sb,sp⟩:=s;dsimp only at hm a1 hs a0;have ho:=bits_or mn sn hm a1 hs a0;have HW:=zQ9 (onI_of (orI mn sn) sl sr (orI_lo _ _) (orI_hi a1 a0));have HO:=zQ9 ho;clear ho;have hv:∀ x:Sg,Ending.returned (vSg x)=Ending.returned (vSg x):=fun _=>rfl
 clear hv;obtain⟨R,hR⟩:∃ R,R=j2p ⟨mn,mb,mp⟩ ⟨sn,sl,sr,sb,sp⟩:=⟨_,rfl⟩;rw[<-hR];have HR:=zQ9 hR;clear hR;unfold vMk vSg;dsimp only;cases e3:(sb != -1)<;>cases e4:(sp != -1)<;>cases sl<;>cases sr
 all_goals
  have HE:=zQ9 (zA9 e3 e4);go_enter Tryz.func76,Tryz.ntmps76
  go_wp2
  refine bodyPost_ret (v:=.agg #[.int .i64 _,.bool _,.bool _,.int .i64 _,.int .i64 _]) (by simp[results,Tryz.f76,go_sem];exact⟨rfl,rfl,rfl,rfl,rfl⟩) rfl ⟨?_,?_⟩
  ·have h:=HW.o;have h3:=HE.o.1;have h4:=HE.o.2;simp only[bne_iff_ne,ne_eq,bne_eq_false_iff_eq] at h3 h4;rw[HR.o];unfold j2p;simp[h,h3,h4,HO.o]
  ·have hb:Below w.heap.size w (((w.alloc (.cells #[.int .i64 mn,.int .i64 mb,.int .i64 mp] 117)).alloc (.cells #[.int .i64 sn,.bool false,.bool false,.int .i64 sb,.int .i64 sp] 31))):=bal (bal0 w _) (zL9 _) _
   repeat' (first|exact zB2 _ _|refine Below.setCell ?_ (by dsimp;omega) _|refine bal ?_ (zL9 _) _)
def Hd (w:World) (H N:Nat):Prop:=∃ (A:Option Addr) (n c:Nat) (next state:Int),w.heap[H]?=some (.cells #[.slice A n c,.int .i64 next,.int .u64 state] 91 (0,0))∧n<=9223372036854775807∧0<=next∧next<=N ∧
 ∀ k,k<n->∃ b off x,A=some ⟨b,off,none⟩∧b<H∧w.cell? ⟨b,off+k,none⟩=some (.int .i64 x)
theorem Hd.lt {w:World} {H N:Nat} (h:Hd w H N):H<w.heap.size:=by
 obtain⟨A,n,c,next,state,h1,_⟩:=h;exact j0a h1
theorem Hd.kept {w w':World} {H N:Nat} (h:Hd w H N) (k:∀ j,j<=H->w'.heap[j]?=w.heap[j]?):Hd w' H N:=by
 obtain⟨A,n,c,next,state,h1,h2,h3,h4,h5⟩:=h;refine⟨A,n,c,next,state,(k H (zL9 _)).trans h1,h2,h3,h4,fun i hi=>?_⟩
 obtain⟨b,off,x,hA,hb,hc⟩:=h5 i hi;refine⟨b,off,x,hA,hb,?_⟩;have e:=k b (by omega)
 unfold World.cell? at hc ⊢;rw[e];exact hc
theorem Hd.below {w w':World} {H N B:Nat} (h:Hd w H N) (hb:Below B w w') (hB:H<B):Hd w' H N:=h.kept fun j hj=>hb.block j (by omega)
theorem Hd.mono {w:World} {H N M:Nat} (h:Hd w H N) (hM:N<=M):Hd w H M:=by
 obtain⟨A,n,c,next,state,h1,h2,h3,h4,h5⟩:=h;exact⟨A,n,c,next,state,h1,h2,h3,by omega,h5⟩
structure Dealt (w w':World) (H N:Nat):Prop where
 hd:Hd w' H N
 gr:w.grownBy w' (some H)
theorem k8j (op:BinOp) (x y:Int):0<=bits op .u64 x y∧bits op .u64 x y<=18446744073709551615:=bounds_u64 (wf_bits op .u64 x y)
theorem q1y {w w':World} {H N n c:Nat} {A:Option Addr} {q st x:Int} (h1:w.heap[H]?=some (.cells #[.slice A n c,.int .i64 q,.int .u64 st] 91 (0,0))) (h2:n<=9223372036854775807) (h3:0<=q) (h4:q<=N)
 (h5:∀ k,k<n->∃ b off x,A=some ⟨b,off,none⟩∧b<H∧w.cell? ⟨b,off+k,none⟩=some (.int .i64 x)) (hb:w.heap.size=w'.heap.size) (ho:w'.os=w.os∧w'.tape=w.tape∧w'.output=w.output) (hh:∀ j:Nat,w'.heap[j]?=w.heap[j]?) :
 Dealt w ((w'.setCell ⟨H,1,none⟩ (.int .i64 (q+1))).setCell ⟨H,2,none⟩ (.int .u64 x)) H (N+1):=by
 have a0:∀ j:Nat,j≠H->((w'.setCell ⟨H,1,none⟩ (.int .i64 (q+1))).setCell ⟨H,2,none⟩ (.int .u64 x)).heap[j]?=w.heap[j]?:=fun j hj =>
  (zB1 _ ⟨H,2,none⟩ _ j hj).trans ((zB1 _ ⟨H,1,none⟩ _ j hj).trans (hh j))
 refine⟨⟨A,n,c,q+1,x,?_,h2,by omega,by omega,fun k hk=>?_⟩,⟨ho.1,ho.2.1,ho.2.2,by simp[hb],fun j _ hj=>a0 j (fun e=>hj (by rw[e]))⟩⟩
 ·have h0:=(hh H).trans h1;simp[World.setCell,Array.getElem?_modify,h0]
 ·obtain⟨b,off,y,hA,a1,hc⟩:=h5 k hk;refine⟨b,off,y,hA,a1,?_⟩;unfold World.cell? at hc ⊢;rw[a0 b (by omega)]
  exact hc
theorem pull_any (H N:Nat) (w:World) (h:Hd w H N) (hN:N<=4611686018427387904) :
 Calls Tryz.prog 54 #[.pointer (some ⟨H,0,none⟩)] w fun e w'=>∃ u:Int,e=.returned (.int .u64 u)∧0<=u∧u<18446744073709551616∧Dealt w w' H (N+1):=by
 obtain⟨A,n,c,next,state,h1,h2,h3,h4,h5⟩:=h;obtain⟨q,rfl⟩:=zB7 h3;obtain⟨c0,c1,c2⟩:=blk3 h1;have f1:=frz h1 1;have f2:=frz h1 2;have hq:(q:Int)<=4611686018427387904:=by omega
 by_cases hlt:q<n
 ·obtain⟨b,off,x,rfl,hb,hx⟩:=h5 q hlt;have a0:(q:Int)<(n:Int):=by omega
  go_enter Tryz.func54,Tryz.ntmps54
  go_upto_region 2 with (fail)
  go_quiet (fail)
  go_upto_region 3 with (fail)
  go_quiet (fail)
  go_upto_region 5 with (fail)
  generalize IntKind.u64.wrap x=u0;go_upto_region 6 with (fail)
  generalize bits BinOp.xor IntKind.u64 state (IntKind.u64.wrap (u0*11400714819323198485))=s1;go_upto_region 7 with (fail)
  generalize bits BinOp.xor IntKind.u64 s1 (IntKind.u64.wrap (s1*8192))=s2;go_upto_region 8 with (fail)
  generalize bits BinOp.xor IntKind.u64 s2 (s2 / 128)=s3;go_upto_region 9 with (fail)
  generalize bits BinOp.xor IntKind.u64 s3 (IntKind.u64.wrap (s3*131072))=s4;go_upto_region 10 with (fail)
  generalize IntKind.u64.wrap (s4+7146057691288625177)=s5;go_upto_region 11 with (fail)
  generalize IntKind.u64.wrap (bits BinOp.xor IntKind.u64 s4 (s4 / 2147483648)*13787848793156543929)=s6;go_wp2
  go_ret
  have a1:=k8j .xor s6 (s6 / 536870912);exact⟨_,rfl,by omega,by omega,q1y h1 h2 h3 h4 h5 rfl ⟨rfl,rfl,rfl⟩ (fun _=>rfl)⟩
 ·have a0:¬(q:Int)<(n:Int):=by omega
  have a2:decide (q<n)=false:=by simpa using hlt
  have a3:decide ((q:Int)<(n:Int))=false:=by simpa using a0
  go_enter Tryz.func54,Tryz.ntmps54
  go_upto_region 2 with (fail)
  go_quiet (fail)
  go_upto_region 5 with (fail)
  go_upto_region 6 with (fail)
  generalize bits BinOp.xor IntKind.u64 state (IntKind.u64.wrap ((q:Int)*11400714819323198485))=s1;go_upto_region 7 with (fail)
  generalize bits BinOp.xor IntKind.u64 s1 (IntKind.u64.wrap (s1*8192))=s2;go_upto_region 8 with (fail)
  generalize bits BinOp.xor IntKind.u64 s2 (s2 / 128)=s3;go_upto_region 9 with (fail)
  generalize bits BinOp.xor IntKind.u64 s3 (IntKind.u64.wrap (s3*131072))=s4;go_upto_region 10 with (fail)
  generalize IntKind.u64.wrap (s4+7146057691288625177)=s5;go_upto_region 11 with (fail)
  generalize IntKind.u64.wrap (bits BinOp.xor IntKind.u64 s4 (s4 / 2147483648)*13787848793156543929)=s6;go_wp2
  go_ret
  have a1:=k8j .xor s6 (s6 / 536870912);exact⟨_,rfl,by omega,by omega,q1y h1 h2 h3 h4 h5 rfl ⟨rfl,rfl,rfl⟩ (fun _=>rfl)⟩
theorem Dealt.refl {w:World} {H N:Nat} (h:Hd w H N):Dealt w w H N:=⟨h,World.grownBy.refl w _⟩
theorem Dealt.mono {w w':World} {H N M:Nat} (h:Dealt w w' H N) (hM:N<=M):Dealt w w' H M:=⟨h.hd.mono hM,h.gr⟩
theorem Dealt.trans {w w' a0:World} {H N M:Nat} (h:Dealt w w' H N) (k:Dealt w' a0 H M):Dealt w a0 H M:=⟨k.hd,h.gr.trans k.gr⟩
theorem Dealt.blk {w w':World} {H N:Nat} (h:Dealt w w' H N) {j:Nat} {o:Obj} (hj:w.heap[j]?=some o) (a0:j≠H):w'.heap[j]?=some o:=(h.gr.block j (j0a hj) (by intro e;cases e;exact a0 rfl)).trans hj
theorem Dealt.size {w w':World} {H N:Nat} (h:Dealt w w' H N):w.heap.size<=w'.heap.size:=h.gr.size
theorem j1l (H N:Nat) (m:Int) (w:World) (h:Hd w H N) (hN:N<=4611686018427387904) (hm:m<=4611686018427387904) :
 Calls Tryz.prog 12 #[.pointer (some ⟨H,0,none⟩),.int .i64 m] w fun e w'=>∃ n:Nat,e=.returned (.int .i64 n)∧((n:Int)<=m∨n=0)∧Dealt w w' H (N+1):=by
 by_cases h0:m<=0
 ·go_enter Tryz.func12,Tryz.ntmps12
  go_wp2_with fail
  go_ret
  exact⟨0,rfl,.inr rfl,(Dealt.refl h).mono (by omega)⟩
 ·go_enter Tryz.func12,Tryz.ntmps12
  go_wp2_with fail
  refine(pull_any H N _ h hN).mono ?_;rintro e w1 ⟨u,rfl,a3,a4,hd⟩;have a0:=zQ9 hd;clear hd h;have a1:0<=u % (m+1):=Int.emod_nonneg _ (by omega)
  have a2:u % (m+1)<m+1:=Int.emod_lt_of_pos _ (by omega)
  go_wp2
  go_ret
  refine⟨(u % (m+1)).toNat,?_,.inl (by omega),a0.o⟩
  exact j0j (by omega)
def OffH (A:Option Addr) (H:Nat):Prop:=∀ b off,A=some ⟨b,off,none⟩->b≠H
theorem Sl.dealt {α:Type} {enc:α->List Value} {sz:Nat} {w w':World} {A:Option Addr} {n:Nat} {l:List α} {H N:Nat} (h:Sl enc sz w A n l) (hd:Dealt w w' H N) (a0:OffH A H):Sl enc sz w' A n l :=
 ⟨h.1,fun hn=>by
  obtain⟨b,off,hA,hc⟩:=h.2 hn;refine⟨b,off,hA,fun i x hx j u hu=>?_⟩
  exact hd.gr.cell (hc i x hx j u hu) (fun e=>a0 b off hA (by simpa using e))⟩
theorem j4f (H N:Nat) (a b:Int) (w:World) (h:Hd w H N) (hN:N<=4611686018427387904) (hb:-4611686018427387904<=b) (a1:b<=4611686018427387904) :
 Calls Tryz.prog 49 #[.pointer (some ⟨H,0,none⟩),.int .i64 a,.int .i64 b] w fun e w'=>∃ o:Bool,e=.returned (.bool o)∧Dealt w w' H (N+1):=by
 go_enter Tryz.func49,Tryz.ntmps49
 go_wp2_with fail
 refine(j1l H N (b-1) _ h hN (by omega)).mono ?_
 rintro e w1 ⟨n,rfl,_,hd⟩;have a0:=zQ9 hd;clear hd h;go_wp2
 go_ret
 exact⟨_,rfl,a0.o⟩
theorem j4g (H N:Nat) (f:Int) (B:Option Addr) (m d:Nat) (L:List Int) (w:World) (h:Hd w H N) (hN:N<=4611686018427387904) (hL:Ints w B m L) (hB:OffH B H) (hm:m<=4611686018427387904) :
 Calls Tryz.prog 72 #[.pointer (some ⟨H,0,none⟩),.int .i64 f,.slice B m d] w fun e w'=>∃ x:Int,e=.returned (.int .i64 x)∧(x=f∨x∈L)∧Dealt w w' H (N+1):=by
 have HL:=zQ9 hL;go_enter Tryz.func72,Tryz.ntmps72
 go_wp2_with fail
 refine(j1l H N m _ h hN (by omega)).mono ?_
 rintro e w1 ⟨n,rfl,hn,hd⟩;have a0:=zQ9 hd;have a1:=hL.dealt hd hB;clear hd h hL;by_cases h0:n=0
 ·subst h0;go_wp2
  go_ret
  exact⟨_,rfl,.inl rfl,a0.o⟩
 ·have a4:n<=m:=by omega
  obtain⟨k,rfl⟩:∃ k,n=k+1:=⟨n-1,by omega⟩
  obtain⟨b,off,x,rfl,hb,hx,hc⟩:=Ints.get a1 (show k<m by omega)
  have HX:=zQ9 hx;clear hx;have e1:((k+1:Nat):Int)=(k:Int)+1:=by omega
  rw[e1];clear e1 hn h0;have a3:(k:Int)<(m:Int):=by omega
  have a2:(k:Int)<=4611686018427387904:=by omega
  go_wp2
  go_ret
  exact⟨_,rfl,.inr (zB4 HX.o),a0.o⟩
theorem q1b (A:Option Addr) (n c:Nat) (l:List Int) (w:World) (hl:Ints w A n l) (hn:n<=9223372036854775807) :
 Calls Tryz.prog 9 #[.slice A n c] w fun e w'=>e=.returned (.pointer (some ⟨w.heap.size,0,none⟩))∧Hd w' w.heap.size 0∧Below w.heap.size w w'∧w'.heap.size=w.heap.size+1:=by
 have HL:=zQ9 hl;clear hl;go_enter Tryz.func9,Tryz.ntmps9
 go_wp2
 go_ret
 refine⟨rfl,⟨A,n,c,0,88172645463325252,j0c rfl,hn,by omega,by omega,fun k hk=>?_⟩,bal0 _ _,by simp⟩
 obtain⟨b,off,x,hA,hb,hx,hc⟩:=Ints.get HL.o hk;exact⟨b,off,x,hA,hb,j0u hc (bal0 w _) (zL9 _)⟩
theorem Dealt.alloc {w w':World} {H N:Nat} (h:Dealt w w' H N) (o:Obj):Dealt w (w'.alloc o) H N :=
 ⟨h.hd.below (bal0 w' o) h.hd.lt,h.gr.trans (World.grownBy_alloc _ _ _)⟩
theorem Dealt.set {w w':World} {H N:Nat} (h:Dealt w w' H N) {a:Addr} (hH:H<a.block) (ha:w.heap.size<=a.block) (v:Value):Dealt w (w'.setCell a v) H N:=by
 refine⟨h.hd.kept fun j hj=>zB1 _ _ _ _ (by omega),⟨h.gr.os,h.gr.tape,h.gr.output,by simpa using h.gr.size,fun j hj hne=>?_⟩⟩
 exact(zB1 _ _ _ _ (by omega)).trans (h.gr.block j hj hne)
theorem Dealt.drewN {w w':World} {H N:Nat} (h:Dealt w w' H N) (k:Nat):Dealt w (w'.drewN k) H N:=⟨h.hd,⟨h.gr.os,h.gr.tape,h.gr.output,h.gr.size,h.gr.block⟩⟩
theorem Dealt.less {w w':World} {H N B:Nat} (h:Dealt w w' H N) {a0:World} (hb:Below B w' a0) (hB:w'.heap.size<=B):Dealt w a0 H N :=
 ⟨h.hd.below hb (Nat.lt_of_lt_of_le h.hd.lt hB),⟨hb.os.trans h.gr.os,hb.tape.trans h.gr.tape,hb.output.trans h.gr.output,zB6 h.gr.size hb.size,fun j hj hne=>(hb.block j (Nat.lt_of_lt_of_le hj (zB6 h.gr.size hB))).trans (h.gr.block j hj hne)⟩⟩
theorem Hd.alloc {w:World} {H N:Nat} (h:Hd w H N) (o:Obj):Hd (w.alloc o) H N:=h.below (bal0 w o) h.lt
theorem j3r {w:World} {H N:Nat} (h:Hd w H N) {k:Nat} (hk:w.heap.size<=k) (off:Nat):OffH (some ⟨k,off,none⟩) H:=fun b o e=>by
 have:=h.lt;cases e;omega
theorem bit_i64 (l p:Nat) (hl:l<256) (hp:p<=7):(bits BinOp.and IntKind.i64 ((l:Int) / 2 ^ p) 1==1)=l.testBit p:=by
 have e2:(l:Int) / 2 ^ p=((l / 2 ^ p:Nat):Int):=by simp
 rw[e2];have a0:l / 2 ^ p<=l:=Nat.div_le_self _ _;show(IntKind.i64.wrap ((BitVec.ofInt 64 ((l / 2 ^ p:Nat):Int) &&& BitVec.ofInt 64 ((1:Nat):Int)).toNat:Int)==1)=_;rw[BitVec.toNat_and,ofInt_u64 _ (by omega),ofInt_u64 1 (by omega),Nat.and_one_is_mod,Nat.testBit_eq_decide_div_mod_eq]
 have h2:=Nat.mod_lt (l / 2 ^ p) (show 0<2 by omega)
 rw[IntWalk.i64_in _ (by omega)]
 rw[Bool.eq_iff_iff];simp only[beq_iff_eq,decide_eq_true_eq];omega
theorem bit_kit (n:Int) (b:Nat) (w:World) (hn:0<=n) (a0:n<=255) (hb:b<=7) :
 Calls Tryz.prog 112 #[.int .i64 n,.int .i64 b] w fun e w'=>e=.returned (.bool (bit n b))∧w=w':=by
 obtain⟨l,rfl⟩:=zB7 hn;have h:=bit_i64 l b (by omega) hb
 have a1:(b:Int)<=7:=by omega
 have hl:l<256:=by omega
 obtain rfl|rfl|rfl|rfl|rfl|rfl|rfl|rfl:b=0∨b=1∨b=2∨b=3∨b=4∨b=5∨b=6∨b=7:=by omega
 all_goals
  have H:=zQ9 h;clear h;go_enter Tryz.func112,Tryz.ntmps112
  go_wp2
  go_ret
  refine⟨j0s ?_,rfl⟩;unfold bit;rw[Int.toNat_natCast,<-H.o]
  first|rfl|simp
theorem wear_tab:∀ n:Fin 256,∀ b:Fin 8,∀ l r:Bool,onI (n.1:Int) l r=n.1->n.1.testBit b.1=false->((b.1<4∧l=false)∨(4<=b.1∧r=false))->n.1+2 ^ b.1<256∧popI ((n.1+2 ^ b.1:Nat):Int)=popI (n.1:Int)+1∧onI ((n.1+2 ^ b.1:Nat):Int) l r=((n.1+2 ^ b.1:Nat):Int):=by
 decide +kernel
theorem q0m {n:Int} {b:Nat} {l r:Bool} (h0:0<=n) (h1:n<=255) (hb:b<=7) (ho:onI n l r=n) (hz:bit n b=false) (he:(b<4∧l=false)∨(4<=b∧r=false)) :
 n+(2 ^ b:Nat)<=255∧popI (n+(2 ^ b:Nat))=popI n+1∧onI (n+(2 ^ b:Nat)) l r=n+(2 ^ b:Nat):=by
 obtain⟨k,rfl⟩:=zB7 h0;have h:=wear_tab ⟨k,by omega⟩ ⟨b,by omega⟩ l r ho (by unfold bit at hz;simpa using hz) he
 have e:((k:Int)+(2 ^ b:Nat))=((k+2 ^ b:Nat):Int):=by simp
 rw[e];exact⟨by have:=h.1;dsimp only at this;omega,h.2.1,h.2.2⟩
def WearRes (w:World) (H N o:Nat) (e:Ending) (w':World):Prop:=∃ s:Sg,e=.returned (vSg s)∧seen s 0 0=0∧popI s.n<=o∧Dealt w w' H N
theorem j9b {n:Int} {l r:Bool} {b p:Int} (h0:0<=n) (h1:n<=255) (ho:onI n l r=n) (hb:b=0∨b=-1) (hp:p=0∨p=-1):seen ⟨n,l,r,b,p⟩ 0 0=0:=by
 unfold seen;dsimp only;rw[if_neg (by simp[j0o,h0,h1]),if_neg (by simp[ho]),if_neg,if_neg]
 ·rcases hp with rfl|rfl<;>simp[btw]
 ·rcases hb with rfl|rfl<;>simp[btw]
theorem set5_0 {W:World} {g:Nat} {t:TypeId} {a b c d e z:Value} (h:W.heap[g]?=some (.cells #[a,b,c,d,e] t (0,0))):(W.setCell ⟨g,0,none⟩ z).heap[g]?=some (.cells #[z,b,c,d,e] t (0,0)):=by
 simp[World.setCell,Array.getElem?_modify,h]
theorem set5_3 {W:World} {g:Nat} {t:TypeId} {a b c d e z:Value} (h:W.heap[g]?=some (.cells #[a,b,c,d,e] t (0,0))):(W.setCell ⟨g,3,none⟩ z).heap[g]?=some (.cells #[a,b,c,z,e] t (0,0)):=by
 simp[World.setCell,Array.getElem?_modify,h]
theorem k5m (H N o:Nat) (w:World) (h:Hd w H N) (hN:N<=4611686018427387000) (ho:o<=100) :
 Calls Tryz.prog 77 #[.pointer (some ⟨H,0,none⟩),.int .i64 o] w (WearRes w H (N+110) o):=by
 have hH:=h.lt;have aB:Value.agg #[Value.int .i64 0,.bool false,.bool false,.int .i64 0,.int .i64 0]=Value.agg #[Value.int .i64 0,.bool false,.bool false,.int .i64 0,.int .i64 0]:=rfl;clear aB;go_enter Tryz.func77,Tryz.ntmps77
 go_wp2_with fail
 have ai:=(Dealt.refl h).alloc (.cells #[.int .i64 0,.bool false,.bool false,.int .i64 0,.int .i64 0] 31);have ax:(w.alloc (.cells #[.int .i64 0,.bool false,.bool false,.int .i64 0,.int .i64 0] 31)).heap[w.heap.size]?=some (.cells #[.int .i64 0,.bool false,.bool false,.int .i64 0,.int .i64 0] 31 (0,0)):=j0c rfl;refine(j4f H N 1 4 _ ai.hd (by omega) (by omega) (by omega)).mono ?_
 rintro e w1 ⟨sl,rfl,an⟩;have aq:=ai.trans an;have am:=an.blk ax (by omega)
 clear an ai ax h;go_wp2_with fail
 refine(j4f H (N+1) 1 4 _ aq.hd (by omega) (by omega) (by omega)).mono ?_
 rintro e w2 ⟨sr,rfl,ag⟩;have ak:=(aq.trans ag).alloc (.cells #[.int .i64 0,.bool sl,.bool sr,.int .i64 0,.int .i64 0] 31);have ay:=j0b (ag.blk am (by omega)) (.cells #[.int .i64 0,.bool sl,.bool sr,.int .i64 0,.int .i64 0] 31)
 have aw:(w2.alloc (.cells #[.int .i64 0,.bool sl,.bool sr,.int .i64 0,.int .i64 0] 31)).heap[w2.heap.size]?=some (.cells #[.int .i64 0,.bool sl,.bool sr,.int .i64 0,.int .i64 0] 31 (0,0)):=j0c rfl;have hz:w.heap.size<w2.heap.size:=Nat.lt_of_lt_of_le (j0a am) ag.size;clear ag aq am;go_wp2_with fail
 refine(j1l H (N+1+1) o _ ak.hd (by omega) (by omega)).mono ?_
 rintro e w3 ⟨n0,rfl,a2,af⟩;have aG:=ak.trans af;have az:=af.blk ay (by omega)
 have aH:=af.blk aw (by omega)
 have b5:n0<=o:=by omega
 clear af ak ay aw a2;go_wp2_with fail
 go_loopg [6] n0 (fun g i wr=>i=.int .i64 g∧g<=n0∧∃ n:Int,0<=n∧n<=255∧onI n sl sr=n∧popI n+g<=n0∧wr.heap[w2.heap.size]?=some (.cells #[.int .i64 n,.bool sl,.bool sr,.int .i64 0,.int .i64 0] 31 (0,0)) ∧
  wr.heap[w.heap.size]?=some (.cells #[.int .i64 0,.bool false,.bool false,.int .i64 0,.int .i64 0] 31 (0,0))∧Dealt w wr H (N+3+(n0-g)))
 case atStart=>exact⟨rfl,zL9 _,0,by omega,by omega,by simp[onI],by(have:popI 0=0:=by decide);omega,aH,az,aG.mono (by omega)⟩
 case round =>
  obtain⟨rfl,b6,n,a2,a5,av,aa,bs,br,hD⟩:=hrel;have a0:=zQ9 (zA9 av aa);clear av aa;by_cases hg:0<gk
  ·have b3:(0:Int)<(gk:Int):=by omega
   go_wp2_with fail
   refine(j1l H _ 7 _ hD.hd (by omega) (by omega)).mono ?_
   rintro e w4 ⟨b,rfl,hb,a7⟩;have a4:=hD.trans a7;have a3:=a7.blk br (by omega)
   have bs4:=a7.blk bs (by omega)
   have ah:b<=7:=by omega
   clear a7 hD br bs hb;obtain⟨s0,s1,s2,s3,s4⟩:=blk5 bs4;have f0:=frz bs4 0;have HO:=zQ9 (zA9 a4 (zA9 a3 bs4));clear a4 a3 bs4;go_wp2_with fail
   refine(bit_kit n b _ a2 a5 ah).mono ?_;rintro e w5 ⟨rfl,rfl⟩;have ao:Handed=Handed:=rfl;clear ao;cases hbit:bit n b
   ·by_cases hb4:b<4
    ·have aj:(b:Int)<4:=by omega
     have ar:¬(4:Int)<=(b:Int):=by omega
     cases sl
     ·have hw:=q0m a2 a5 ah a0.o.1 hbit (.inl ⟨hb4,rfl⟩);clear hbit;obtain rfl|rfl|rfl|rfl:b=0∨b=1∨b=2∨b=3:=by omega
      all_goals
       first|rw[show(((2:Nat) ^ 0:Nat):Int)=1 from rfl] at hw|rw[show(((2:Nat) ^ 1:Nat):Int)=2 from rfl] at hw|rw[show(((2:Nat) ^ 2:Nat):Int)=4 from rfl] at hw|rw[show(((2:Nat) ^ 3:Nat):Int)=8 from rfl] at hw|rw[show(((2:Nat) ^ 4:Nat):Int)=16 from rfl] at hw|rw[show(((2:Nat) ^ 5:Nat):Int)=32 from rfl] at hw|rw[show(((2:Nat) ^ 6:Nat):Int)=64 from rfl] at hw|rw[show(((2:Nat) ^ 7:Nat):Int)=128 from rfl] at hw
       have aC:=hw.1;have HW:=zQ9 hw.2;clear hw;go_wp2
       go_roundg (gk-1)
       case measure=>omega
       case rel =>
        obtain⟨a4,a3,bs4⟩:=HO.o;refine⟨by congr 1;omega,by omega,_,?_,?_,HW.o.2,?_,set5_0 bs4,(zB1 _ ⟨w2.heap.size,0,none⟩ _ _ (by dsimp;omega)).trans a3,(a4.mono (by omega)).set (by dsimp;omega) (by dsimp;omega) _⟩
        ·omega
        ·omega
        ·rw[HW.o.1];have:=a0.o.2;omega
     ·go_wp2
      go_roundg (gk-1)
      case measure=>omega
      case rel=>exact⟨by congr 1;omega,by omega,n,a2,a5,a0.o.1,by have:=a0.o.2;omega,HO.o.2.2,HO.o.2.1,HO.o.1.mono (by omega)⟩
    ·have aj:¬(b:Int)<4:=by omega
     have ar:(4:Int)<=(b:Int):=by omega
     cases sr
     ·have hw:=q0m a2 a5 ah a0.o.1 hbit (.inr ⟨by omega,rfl⟩)
      clear hbit;obtain rfl|rfl|rfl|rfl:b=4∨b=5∨b=6∨b=7:=by omega
      all_goals
       first|rw[show(((2:Nat) ^ 0:Nat):Int)=1 from rfl] at hw|rw[show(((2:Nat) ^ 1:Nat):Int)=2 from rfl] at hw|rw[show(((2:Nat) ^ 2:Nat):Int)=4 from rfl] at hw|rw[show(((2:Nat) ^ 3:Nat):Int)=8 from rfl] at hw|rw[show(((2:Nat) ^ 4:Nat):Int)=16 from rfl] at hw|rw[show(((2:Nat) ^ 5:Nat):Int)=32 from rfl] at hw|rw[show(((2:Nat) ^ 6:Nat):Int)=64 from rfl] at hw|rw[show(((2:Nat) ^ 7:Nat):Int)=128 from rfl] at hw
       have aC:=hw.1;have HW:=zQ9 hw.2;clear hw;go_wp2
       go_roundg (gk-1)
       case measure=>omega
       case rel =>
        obtain⟨a4,a3,bs4⟩:=HO.o;refine⟨by congr 1;omega,by omega,_,?_,?_,HW.o.2,?_,set5_0 bs4,(zB1 _ ⟨w2.heap.size,0,none⟩ _ _ (by dsimp;omega)).trans a3,(a4.mono (by omega)).set (by dsimp;omega) (by dsimp;omega) _⟩
        ·omega
        ·omega
        ·rw[HW.o.1];have:=a0.o.2;omega
     ·go_wp2
      go_roundg (gk-1)
      case measure=>omega
      case rel=>exact⟨by congr 1;omega,by omega,n,a2,a5,a0.o.1,by have:=a0.o.2;omega,HO.o.2.2,HO.o.2.1,HO.o.1.mono (by omega)⟩
   ·go_wp2
    go_roundg (gk-1)
    case measure=>omega
    case rel =>
     refine⟨by congr 1;omega,by omega,n,a2,a5,a0.o.1,by have:=a0.o.2;omega,HO.o.2.2,HO.o.2.1,HO.o.1.mono (by omega)⟩
  ·obtain rfl:gk=0:=by omega
   go_wp2_with fail
   refine(j4f H _ 1 3 _ hD.hd (by omega) (by omega) (by omega)).mono ?_
   rintro e w4 ⟨o1,rfl,a7⟩;have a4:=hD.trans a7;have a3:=a7.blk br (by omega)
   have bs4:=a7.blk bs (by omega)
   clear a7 hD br bs;have b4:=j0a bs4;cases o1
   ·have a9:=a4;have ac:=a3;have ae:=bs4;clear a4 a3 bs4;go_wp2_with fail
    refine(j4f H _ 1 3 _ a9.hd (by omega) (by omega) (by omega)).mono ?_
    rintro e w6 ⟨o2,rfl,a8⟩;have ad:=a9.trans a8;have a1:=a8.blk ac (by omega)
    have a6:=a8.blk ae (by omega)
    clear a8 a9 ac ae;have z6:=j0a a6;have aA:=frz a1 0;have aD:=frz a1 1;have aF:=frz a1 2;have aE:=frz a1 3;have b0:=frz a1 4;have f4:=frz a6 4;obtain⟨s0,s1,s2,s3,s4⟩:=blk5 a6;obtain⟨r0,r1,r2,r3,r4⟩:=blk5 a1;have HD:=zQ9 ad;clear ad a6 a1;cases o2
    ·go_wp2
     refine bodyPost_ret (v:=vSg ⟨n,sl,sr,0,0⟩) (by simp[results,Tryz.f77,go_sem,vSg,s0,s1,s2,s3,s4,r0,r1,r2,r3,r4]) rfl ⟨⟨n,sl,sr,0,0⟩,rfl,j9b a2 a5 a0.o.1 (by omega) (by omega),by have:=a0.o.2;dsimp only;omega,?_⟩
     have hD:=HD.o.mono (by omega:N+3+(n0-0)+1+1<=N+110)
     exact((((hD.set (by dsimp;omega) (by dsimp;omega) _).set (by dsimp;omega) (by dsimp;omega) _).set (by dsimp;omega) (by dsimp;omega) _).set (by dsimp;omega) (by dsimp;omega) _).set (by dsimp;omega) (by dsimp;omega) _
    ·go_wp2
     refine bodyPost_ret (v:=vSg ⟨n,sl,sr,0,-1⟩) (by simp[results,Tryz.f77,go_sem,vSg,s0,s1,s2,s3,s4,r0,r1,r2,r3,r4]) rfl ⟨⟨n,sl,sr,0,-1⟩,rfl,j9b a2 a5 a0.o.1 (by omega) (by omega),by have:=a0.o.2;dsimp only;omega,?_⟩
     have hD:=HD.o.mono (by omega:N+3+(n0-0)+1+1<=N+110)
     exact(((((hD.set (by dsimp;omega) (by dsimp;omega) _).set (by dsimp;omega) (by dsimp;omega) _).set (by dsimp;omega) (by dsimp;omega) _).set (by dsimp;omega) (by dsimp;omega) _).set (by dsimp;omega) (by dsimp;omega) _).set (by dsimp;omega) (by dsimp;omega) _
   ·have f3:=frz bs4 3;obtain⟨q0,q1,q2,q3,q4⟩:=blk5 bs4;go_wp2_with fail
    obtain⟨w5,hW⟩:∃ w5,w5=w4.setCell ⟨w2.heap.size,3,none⟩ (.int .i64 (-1)):=⟨_,rfl⟩;rw[<-hW];have a9:Dealt w w5 H (N+3+(n0-0)+1):=by rw[hW];exact a4.set (by dsimp;omega) (by dsimp;omega) _
    have ae:w5.heap[w2.heap.size]?=some (.cells #[.int .i64 n,.bool sl,.bool sr,.int .i64 (-1),.int .i64 0] 31 (0,0)):=by rw[hW];exact set5_3 bs4
    have ac:w5.heap[w.heap.size]?=some (.cells #[.int .i64 0,.bool false,.bool false,.int .i64 0,.int .i64 0] 31 (0,0)):=by rw[hW];exact(zB1 _ ⟨w2.heap.size,3,none⟩ _ _ (by dsimp;omega)).trans a3
    clear hW f3 q0 q1 q2 q3 q4 bs4 a3 a4;refine(j4f H _ 1 3 _ a9.hd (by omega) (by omega) (by omega)).mono ?_
    rintro e w6 ⟨o2,rfl,a8⟩;have ad:=a9.trans a8;have a1:=a8.blk ac (by omega)
    have a6:=a8.blk ae (by omega)
    clear a8 a9 ac ae;have z6:=j0a a6;have aA:=frz a1 0;have aD:=frz a1 1;have aF:=frz a1 2;have aE:=frz a1 3;have b0:=frz a1 4;have f4:=frz a6 4;obtain⟨s0,s1,s2,s3,s4⟩:=blk5 a6;obtain⟨r0,r1,r2,r3,r4⟩:=blk5 a1;have HD:=zQ9 ad;clear ad a6 a1;cases o2
    ·go_wp2
     refine bodyPost_ret (v:=vSg ⟨n,sl,sr,-1,0⟩) (by simp[results,Tryz.f77,go_sem,vSg,s0,s1,s2,s3,s4,r0,r1,r2,r3,r4]) rfl ⟨⟨n,sl,sr,-1,0⟩,rfl,j9b a2 a5 a0.o.1 (by omega) (by omega),by have:=a0.o.2;dsimp only;omega,?_⟩
     have hD:=HD.o.mono (by omega:N+3+(n0-0)+1+1<=N+110)
     exact((((hD.set (by dsimp;omega) (by dsimp;omega) _).set (by dsimp;omega) (by dsimp;omega) _).set (by dsimp;omega) (by dsimp;omega) _).set (by dsimp;omega) (by dsimp;omega) _).set (by dsimp;omega) (by dsimp;omega) _
    ·go_wp2
     refine bodyPost_ret (v:=vSg ⟨n,sl,sr,-1,-1⟩) (by simp[results,Tryz.f77,go_sem,vSg,s0,s1,s2,s3,s4,r0,r1,r2,r3,r4]) rfl ⟨⟨n,sl,sr,-1,-1⟩,rfl,j9b a2 a5 a0.o.1 (by omega) (by omega),by have:=a0.o.2;dsimp only;omega,?_⟩
     have hD:=HD.o.mono (by omega:N+3+(n0-0)+1+1<=N+110)
     exact(((((hD.set (by dsimp;omega) (by dsimp;omega) _).set (by dsimp;omega) (by dsimp;omega) _).set (by dsimp;omega) (by dsimp;omega) _).set (by dsimp;omega) (by dsimp;omega) _).set (by dsimp;omega) (by dsimp;omega) _).set (by dsimp;omega) (by dsimp;omega) _
def mk8:List Int:=[1,2,16,4,32,8,64,128]
theorem k9l:∀ i,i<9->(mk8.take i).sum<=255:=by decide
theorem sum_take {l:List Int} {i:Nat} {x:Int} (h:l[i]?=some x):(l.take (i+1)).sum=(l.take i).sum+x:=by
 rw[List.take_add_one,h];simp
theorem q2a {n b p:Int} (h1:0<=n∧n<=255) (h2:0<=b∧b<=9) (h3:0<=p∧p<=6):mkOk ⟨n,b,p⟩=true:=k9m.2 ⟨h1,h2,h3⟩
theorem mk8_step:∀ i,i<8->(mk8.take i).sum<=(mk8.take (i+1)).sum:=by decide
def MkRes (w:World) (H N:Nat) (e:Ending) (w':World):Prop:=∃ m:Mk,e=.returned (vMk m)∧mkOk m=true∧Dealt w w' H N
theorem k4s (H N:Nat) (w:World) (h:Hd w H N) (hN:N<=4611686018427387000) :
 Calls Tryz.prog 71 #[.pointer (some ⟨H,0,none⟩)] w (MkRes w H (N+16)):=by
 have hH:=h.lt;go_enter Tryz.func71,Tryz.ntmps71
 go_wp2_with fail
 refine(j1l H N 9 _ (h.alloc _) (by omega) (by omega)).mono ?_
 rintro e w1 ⟨n1,rfl,aH,an⟩;have aa:=(((Dealt.refl h).mono (by omega:N<=N+1)).alloc (.cells #[.int .i64 0,.int .i64 0,.int .i64 0] 117)).trans an
 have ay:=an.blk (j0c rfl:(w.alloc (.cells #[.int .i64 0,.int .i64 0,.int .i64 0] 117)).heap[w.heap.size]?=some _) (by omega)
 clear an h;go_wp2_with fail
 refine(j4g H (N+1) 0 (some ⟨w1.heap.size,0,none⟩) 3 3 [0,1,n1] _ (aa.hd.alloc _) (by omega) (j7j _ _ _ _ _) (j3r aa.hd (zL9 _) 0) (by omega)).mono ?_
 rintro e w2 ⟨b,rfl,hb,aj⟩;have am:=(aa.mono (by omega:N+1<=N+2)).alloc (.cells #[.int .i64 0,.int .i64 1,.int .i64 n1] 3) |>.trans aj
 have aD:=aj.blk (j0b ay _) (by omega)
 have az:0<=b∧b<=9:=by
  simp only[List.mem_cons,List.not_mem_nil,or_false] at hb;omega
 clear aj aa hb aH ay;go_wp2_with fail
 refine(j1l H (N+2) 6 _ am.hd (by omega) (by omega)).mono ?_
 rintro e w3 ⟨n2,rfl,bf,ai⟩;have a8:=am.trans ai;have av:=ai.blk aD (by omega)
 clear ai am aD;go_wp2_with fail
 refine(j4g H (N+2+1) 0 (some ⟨w3.heap.size,0,none⟩) 4 4 [0,1,2,n2] _ (a8.hd.alloc _) (by omega) (Sl.lit w3 _ _ [0,1,2,(n2:Int)] rfl j0n (by simp[maxLen])) (j3r a8.hd (zL9 _) 0) (by omega)).mono ?_
 rintro e w4 ⟨p,rfl,hp,ak⟩;have aC:=(a8.mono (by omega:N+2+1<=N+4)).alloc (.cells #[.int .i64 0,.int .i64 1,.int .i64 2,.int .i64 n2] 3) |>.trans ak
 have ah:=ak.blk (j0b av _) (by omega)
 have aB:0<=p∧p<=6:=by
  simp only[List.mem_cons,List.not_mem_nil,or_false] at hp;omega
 clear ak a8 hp bf av;go_wp2_with fail
 have ag:=aC.alloc (.cells #[.int .i64 0,.int .i64 b,.int .i64 p] 117);have aq:=j0b ah (.cells #[.int .i64 0,.int .i64 b,.int .i64 p] 117);have aA:(w4.alloc (.cells #[.int .i64 0,.int .i64 b,.int .i64 p] 117)).heap[w4.heap.size]?=some (.cells #[.int .i64 0,.int .i64 b,.int .i64 p] 117 (0,0)):=j0c rfl;have bp:w.heap.size<w4.heap.size:=j0a ah;refine(j4f H (N+2+1+1) 1 4 _ ag.hd (by omega) (by omega) (by omega)).mono ?_
 rintro e w6 ⟨o,rfl,ae⟩;have a1:=ag.trans ae;have a5:=ae.blk aq (by omega)
 have a2:=ae.blk aA (by omega)
 clear ae ag aC aq aA ah;cases o
 ·go_wp2_with fail
  obtain⟨W,hW⟩:∃ W,W=w6.alloc (.cells #[.int .i64 1,.int .i64 2,.int .i64 16,.int .i64 4,.int .i64 32,.int .i64 8,.int .i64 64,.int .i64 128] 3):=⟨_,rfl⟩;rw[<-hW];have b7:Dealt w W H (N+2+1+1+1):=by rw[hW];exact a1.alloc _
  have bi:W.heap[w.heap.size]?=some (.cells #[.int .i64 0,.int .i64 0,.int .i64 0] 117 (0,0)):=by rw[hW];exact j0b a5 _
  have b9:W.heap[w4.heap.size]?=some (.cells #[.int .i64 0,.int .i64 b,.int .i64 p] 117 (0,0)):=by rw[hW];exact j0b a2 _
  have b3:Ints W (some ⟨w6.heap.size,0,none⟩) 8 mk8:=by rw[hW];exact Sl.lit w6 _ _ mk8 rfl j0n (by decide)
  have bt:W.heap[w6.heap.size]?=some (.cells #[.int .i64 1,.int .i64 2,.int .i64 16,.int .i64 4,.int .i64 32,.int .i64 8,.int .i64 64,.int .i64 128] 3 (0,0)):=by rw[hW];exact j0c rfl
  have bv:w4.heap.size<w6.heap.size:=j0a a2;clear hW a5 a2 a1;go_loopg [5] 8 (fun g i wr=>∃ k:Nat,k+g=8∧i=.int .i64 k∧∃ x:Int,0<=x∧x<=(mk8.take k).sum∧wr.heap[w4.heap.size]?=some (.cells #[.int .i64 x,.int .i64 b,.int .i64 p] 117 (0,0)) ∧
   wr.heap[w.heap.size]?=some (.cells #[.int .i64 0,.int .i64 0,.int .i64 0] 117 (0,0))∧Ints wr (some ⟨w6.heap.size,0,none⟩) 8 mk8∧Dealt w wr H (N+5+k))
  case atStart=>exact⟨0,by omega,rfl,0,by omega,by decide,b9,bi,b3,b7⟩
  case round =>
   obtain⟨k,hk,rfl,x,be,bj,ad,a0,ar,a4⟩:=hrel;have HK:=zQ9 hk;have bm:k<=8:=by omega
   clear hk;by_cases hlt:k<8
   ·have bn:(k:Int)+3<=11:=by omega
    go_wp2_with fail
    refine(j4f H (N+5+k) 1 (k+3) _ a4.hd (by omega) (by omega) (by omega)).mono ?_
    rintro e w8 ⟨o,rfl,a3⟩;have a9:=a3.blk ad (by omega)
    have ax:=a3.blk a0 (by omega)
    have ac:=ar.dealt a3 (fun b' off' e=>by cases e;omega)
    have aw:=a4.trans a3;clear a3 ad a0 ar a4;have aG:=k9l k (by omega)
    cases o
    ·go_wp2
     go_roundg (gk-1)
     case measure=>have:=HK.o;omega
     case rel =>
      have h9:=mk8_step k hlt;exact⟨k+1,by have:=HK.o;omega,by go_num,x,be,by omega,a9,ax,ac,aw.mono (by omega)⟩
    ·obtain⟨b8,b4,y,bh,bq,hy,q0⟩:=Ints.get ac hlt;cases bh;rw[Nat.zero_add] at q0;have hs:=sum_take hy;have bo:=k9l (k+1) (by omega)
     have bs:0<=y:=by
      have:∀ z∈mk8,0<=z:=by decide
      exact this y (zB4 hy)
     have HS:=zQ9 hs;have bu:x+y<=255:=by omega
     clear hs hy;obtain⟨m0,m1,m2⟩:=blk3 a9;have ba:=frz a9 0;have i0:(0:Int)<=(k:Int):=by omega
     have i1:(k:Int)<8:=by omega
     go_upto_region 10 with (fail)
     refine j1c (C:=fun w'=>∃ n,w'=w8.drewN n) 8 (by kernel_rfl) (by kernel_rfl) ⟨1,rfl⟩ ?_
     simp only[List.take_succ_cons,List.take_zero,List.drop_succ_cons,List.drop_zero]
     repeat (quiet_step (fail))
     refine wpQuiet_nil ?_;intro _ b0;obtain⟨nq,ao⟩:=b0;subst ao;go_wp2
     go_roundg (gk-1)
     case measure=>have:=HK.o;omega
     case rel =>
      refine⟨k+1,by have:=HK.o;omega,by go_num,x+y,by omega,by rw[HS.o];omega,set3_0 a9,?_,?_,?_⟩
      ·exact(zB1 _ ⟨w4.heap.size,0,none⟩ _ _ (by dsimp;omega)).trans ax
      ·refine⟨ac.1,fun hn=>?_⟩
       obtain⟨bb,oo,hA,hc⟩:=ac.2 hn;refine⟨bb,oo,hA,fun i x hx j u hu=>?_⟩
       have h0:=hc i x hx j u hu;cases hA;unfold World.cell? at h0 ⊢;rw[zB1 _ ⟨w4.heap.size,0,none⟩ _ _ (by dsimp;omega)]
       exact h0
      ·exact((aw.mono (by omega:N+5+k+1<=N+5+(k+1))).drewN nq).set (by dsimp;omega) (by dsimp;omega) _
   ·obtain rfl:k=8:=by omega
    have aG:=k9l 8 (by omega)
    have aF:=frz a0 0;have b5:=frz a0 1;have b6:=frz a0 2;obtain⟨m0,m1,m2⟩:=blk3 ad;obtain⟨r0,r1,r2⟩:=blk3 a0;have zr:=j0a ad;have HD:=zQ9 a4;clear a4;go_wp2
    refine bodyPost_ret (v:=vMk ⟨x,b,p⟩) (by simp[results,Tryz.f71,go_sem,vMk,m0,m1,m2,r0,r1,r2]) rfl ⟨⟨x,b,p⟩,rfl,q2a (by omega) az aB,?_⟩
    have hD:=HD.o.mono (by omega:N+5+8<=N+16)
    exact((hD.set (by dsimp;omega) (by dsimp;omega) _).set (by dsimp;omega) (by dsimp;omega) _).set (by dsimp;omega) (by dsimp;omega) _
 ·go_wp2_with fail
  refine(j1l H (N+2+1+1+1) 255 _ a1.hd (by omega) (by omega)).mono ?_
  rintro e w7 ⟨n3,rfl,br,a6⟩;have aE:=a1.trans a6;have a7:=a6.blk a5 (by omega)
  have af:=a6.blk a2 (by omega)
  clear a6 a1 a5 a2;have ba:=frz af 0;have aF:=frz a7 0;have b5:=frz a7 1;have b6:=frz a7 2;obtain⟨m0,m1,m2⟩:=blk3 af;obtain⟨r0,r1,r2⟩:=blk3 a7;have z7:=j0a af;have HD:=zQ9 aE;clear aE;go_wp2
  refine bodyPost_ret (v:=vMk ⟨n3,b,p⟩) (by simp[results,Tryz.f71,go_sem,vMk,m0,m1,m2,r0,r1,r2]) rfl ⟨⟨n3,b,p⟩,rfl,q2a (by omega) az aB,?_⟩
  have hD:=HD.o.mono (by omega:N+2+1+1+1+1<=N+16)
  exact(((hD.set (by dsimp;omega) (by dsimp;omega) _).set (by dsimp;omega) (by dsimp;omega) _).set (by dsimp;omega) (by dsimp;omega) _).set (by dsimp;omega) (by dsimp;omega) _
theorem q5r (t:Int) (A:Option Addr) (n c:Nat) (l:List Mk) (m:Mk) (w:World) (hl:Marks w A n l) (hn:n<=maxLen) :
 Calls Tryz.prog 111 #[.agg #[.int .i64 t,.slice A n c],vMk m] w fun e w'=>∃ o:Int,e=.returned (.int .i64 o)∧((o<0)=(m∉l))∧Below w.heap.size w w':=by
 have HL:=zQ9 hl.len;unfold maxLen at hn;obtain⟨W,hW⟩:∃ W,W=(w.alloc (.cells #[.int .i64 t,.slice A n c] 24)).alloc (.cells #[.int .i64 m.n,.int .i64 m.b,.int .i64 m.p] 117):=⟨_,rfl⟩;have hB:Below w.heap.size w W:=by rw[hW];exact bal (bal0 w _) (zL9 _) _
 have b0:W.heap[w.heap.size]?=some (.cells #[.int .i64 t,.slice A n c] 24 (0,0)):=by rw[hW];exact j0b (j0c rfl) _
 have b1:W.heap[w.heap.size+1]?=some (.cells #[.int .i64 m.n,.int .i64 m.b,.int .i64 m.p] 117 (0,0)):=by rw[hW];exact j0c (by simp)
 have a1:=hl.below hB (zL9 _);obtain⟨r0,r1⟩:=blk2 b0;obtain⟨m0,m1,m2⟩:=blk3 b1;have z1:=j0a b1;have HB:=zQ9 hB;have a2:=zQ9 a1;clear hl a1 hB b0 b1;go_enter Tryz.func111,Tryz.ntmps111
 unfold vMk;go_wp2_with fail
 rw[<-hW];clear hW;go_loopg [5] n (fun g i wr=>∃ k:Nat,k+g=n∧i=.int .i64 k∧(l.take k).contains m=false∧∃ q,wr=W.drewN q)
 case atStart=>exact⟨0,by omega,rfl,by simp,0,rfl⟩
 case round =>
  obtain⟨k,hk,rfl,a0,q,rfl⟩:=hrel;have HK:=zQ9 (zA9 hk a0);have a4:k<=n:=by omega
  clear hk a0;by_cases hlt:k<n
  ·obtain⟨b,off,x,rfl,hb,hx,p0,p1,p2⟩:=Marks.get a2.o hlt;have HX:=zQ9 hx;clear hx;have i0:(0:Int)<=(k:Int):=by omega
   have i1:(k:Int)<(n:Int):=by omega
   by_cases hxm:x=m
   ·subst hxm;go_upto_region 4 with (fail)
    go_quiet (fail)
    go_wp2
    go_ret
    refine⟨k,rfl,?_,j0k (j0k HB.o _) _⟩;have:=zB4 HX.o;simp only[eq_iff_iff];exact⟨fun h=>by omega,fun h=>absurd this h⟩
   ·have a3:=zQ9 hxm;cases e1:(x.n==m.n)<;>cases e2:(x.b==m.b)<;>cases e3:(x.p==m.p)
    case true.true.true =>
     exfalso;exact hxm (by cases x;cases m;simp at e1 e2 e3;simp[e1,e2,e3])
    all_goals
     clear hxm;go_upto_region 4 with (fail)
     go_quiet (fail)
     go_wp2
     go_roundg (gk-1)
     case measure=>have:=HK.o.1;omega
     case rel=>exact⟨k+1,by have:=HK.o.1;omega,by go_num,k6c HK.o.2 HX.o a3.o,_,rfl⟩
  ·obtain rfl:k=n:=by omega
   go_wp2
   go_ret
   refine⟨-1,rfl,?_,j0k HB.o _⟩;have h:=HK.o.2;rw[zB8 (by rw[HL.o];omega),List.contains_eq_mem,decide_eq_false_iff_not] at h
   simp[h]
end Go.Proofs.YtmennjmjakdkcaaGreat
