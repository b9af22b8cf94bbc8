/- HerdAll 38: HdU, HdAb, SameR, HdW, QTailIn. -/
import Derived.Test.YtmennjmjakdkcaaGreatAl37
import Derived.Test.YtmennjmjakdkcaaGreatAl05
import Derived.Test.YtmennjmjakdkcaaGreatAl36
import Derived.StillTail
namespace Go.Proofs.YtmennjmjakdkcaaGreat
open Go.RowKit Go.MapKept
set_option linter.unusedVariables false
set_option linter.unusedSimpArgs false
def askE (b:Hb):Int:=if b.chk ≠ 0 then b.chk else if b.ends (-1) 0 = [] then 11 else 0
theorem askE_chk {b:Hb} (h:b.chk ≠ 0):askE b = b.chk:=if_pos h
theorem askE_none {b:Hb} (h:b.chk = 0) (h':b.ends (-1) 0 = []):askE b = 11:=by unfold askE;rw [if_neg (by rw [h];simp),if_pos h']
theorem askE_ok {b:Hb} (h:b.chk = 0) (h':b.ends (-1) 0 ≠ []):askE b = 0:=by unfold askE;rw [if_neg (by rw [h];simp),if_neg h']
def hasTo (E:List (List Int)) (n k:Nat):List (List Rn):=(List.range k).map fun f => (List.range n).map fun o => rangeE E fun h => hget h f o
theorem hasTo_succ (E:List (List Int)) (n k:Nat):hasTo E n (k + 1) = hasTo E n k ++ [spansTo E (fun i x => hget x k i) n]:=by unfold hasTo;rw [List.range_succ,List.map_append];rfl
theorem hasTo_len (E:List (List Int)) (n k:Nat):(hasTo E n k).length = k:=by simp [hasTo]
def hasR (b:Hb):List (List Rn):=if askE b = 0 then hasL (b.ends (-1) 0) b.l.length b.ks.length else []
def HasR (b:Hb) (w:World) (e:Ending) (w':World):Prop:=(∃ v,e = .returned (.tuple #[v,.int .i64 (askE b)])∧OwnT w' w.heap.size v (hasR b))∧Below w.heap.size w w'
set_option maxRecDepth 100000 in
set_option maxHeartbeats 1000000 in
theorem Has_any (b:Hb) (w:World) (hin:HbIn w b):Calls Tryz.prog 29 #[b.v] w (HasR b w):=by
 obtain ⟨V,hV⟩:∃ V,V = w.alloc b.obj:=⟨_,rfl⟩
 obtain ⟨g,hg⟩:∃ g,g = w.heap.size:=⟨_,rfl⟩
 have b0:V.heap[g]? = some b.obj:=by rw [hV,hg];exact alloc_at rfl
 have hBV:Below w.heap.size w V:=by rw [hV];exact bal0 w _
 have hiV:=hin.below hBV (Nat.le_refl _)
 obtain ⟨c0,c1,c2,c3,c4⟩:=blk5c b0
 have hak:=asked_any b V hiV
 unfold Hb.v at hak
 have HV:=Lib.hid (And.intro hBV (And.intro b0 (And.intro hiV hg)))
 have hent:∀ (args:Array Value) (w:World),(callFunc 96 args).run Tryz.prog w = .ok (.enter 96 args) w:=enters_of Tryz.func96 (by kernel_rfl) rfl
 have HENT:=Lib.hid hent
 unfold Hb.v
 go_enter Tryz.func29,Tryz.ntmps29
 go_upto_region 1 with (fail)
 rw [← hV,← hg]
 clear hV hg hin hBV hiV b0 hent
 obtain ⟨R,hR⟩:∃ R,R = AskedR b b.chk V:=⟨_,rfl⟩
 rw [← hR] at hak
 have HR:=Lib.hid hR
 clear hR
 go_upto_region 2 with (go_at_call 55;refine hak.mono ?_;rintro e w2 hRR;rw [HR.out] at hRR;unfold AskedR at hRR;rcases hRR with ⟨h0,rfl,hb2⟩ | ⟨h0,p,rfl,hWk,hb2⟩)
 ·have xf:(b.chk != 0) = true:=by simp [h0]
  go_wp2_with fail
  go_ret2
  unfold HasR hasR
  rw [askE_chk h0,if_neg h0]
  exact ⟨⟨_,rfl,OwnA.nil_⟩,HV.out.1.trans (hb2.mono HV.out.1.size)⟩
 have x0:=bheap HV.out.2.1 hb2 (Nat.le_refl _)
 have hok:=hWk.ok
 have hgp:g ≠ p:=by have:=hWk.hz;have:=heap_lt HV.out.2.1;omega
 clear c0 c1 c2 c3 c4 hak
 obtain ⟨c0,c1,c2,c3,c4⟩:=blk5c x0
 have hpl:=hWk.lt
 obtain ⟨n,hn⟩:∃ n,n = b.l.length:=⟨_,rfl⟩
 obtain ⟨nk,hnk⟩:∃ nk,nk = b.ks.length:=⟨_,rfl⟩
 rw [← hn] at c1
 rw [← hnk] at c2
 have hn0:0 < n∧n ≤ 5:=by rw [hn];exact ⟨hok.n0,hok.n5⟩
 have hk0:0 < nk∧nk ≤ 3:=by rw [hnk];exact ⟨hok.f0,hok.f3⟩
 have H2:=Lib.hid (And.intro hb2 (And.intro hWk (And.intro h0 (And.intro hn (And.intro hnk (And.intro hok (And.intro hgp x0)))))))
 clear hb2 hWk h0 hn hnk hok hgp x0
 go_wp2_with fail
 go_loopg [6,21] nk (fun g' v6 v21 wr => ∃ k:Nat,k + g' = nk∧v21 = .int .i64 k∧(0 < k→b.ends (-1) 0 ≠ [])∧OwnT wr w2.heap.size v6 (hasTo (b.ends (-1) 0) n k)∧NowIn p (b.bk (-1) 0) w2 wr)
 case atStart => exact ⟨0,by omega,rfl,fun h => absurd h (by omega),OwnA.nil_,H2.out.2.1.refl⟩
 case round =>
  obtain ⟨k,hk,rfl,hne,hown,hN⟩:=hrel
  by_cases hlt:k < nk
  ·have i1:(k:Int) < (nk:Int):=by omega
   have i2:(nk:Int) ≤ 3:=by omega
   obtain ⟨wi,hwi⟩:∃ wi,wi = wr.alloc (Obj.cells #[Value.int .i64 (k:Int)] 3):=⟨_,rfl⟩
   obtain ⟨gi,hgi⟩:∃ gi,gi = wr.heap.size:=⟨_,rfl⟩
   have hNi:NowIn p (b.bk (-1) 0) w2 wi:=by rw [hwi];exact hN.below hpl (bal0 wr _) hN.size
   have bii:wi.heap[gi]? = some (Obj.cells #[Value.int .i64 (k:Int)] 3 (0,0)):=by rw [hwi,hgi];exact alloc_at rfl
   have hgpi:gi ≠ p:=by have:=hN.lt;omega
   have howni:OwnT wi w2.heap.size u6 (hasTo (b.ends (-1) 0) n k):=by rw [hwi];exact OwnA.alloc hown _
   have hzi:w2.heap.size ≤ wi.heap.size:=hNi.size
   have xg:=hNi.blk H2.out.2.2.2.2.2.2.2 H2.out.2.2.2.2.2.2.1
   clear c0 c1 c2 c3 c4
   obtain ⟨c0,c1,c2,c3,c4⟩:=blk5c xg
   rw [← H2.out.2.2.2.1] at c1
   have hsp:=spans_any V p b (-1) 0 wi (H2.out.2.1.now hNi) n hn0.1 (by omega) 96 #[.pointer (some ⟨gi,0,none⟩)] (fun i x => hget x k i) HENT.out (fun x hx i hi W hNW =>
    hasF_any x k i gi W ((endsTo_bd H2.out.2.2.2.2.2.1.f3 H2.out.2.2.2.2.2.1.n5 H2.out.2.2.2.2.2.1.rb H2.out.2.2.2.2.2.1.dI _ x hx).1) (by omega) (by omega) (hNW.blk bii hgpi))
   have HI:=Lib.hid (And.intro hNi (And.intro bii (And.intro howni (And.intro hzi (And.intro hne hk)))))
   have HWI:=Lib.hid hwi
   have HGI:=Lib.hid hgi
   clear hNi bii hgpi howni hzi hne hk hown hN xg hwi hgi
   go_upto_region 8 with (fail)
   rw [← HWI.out,← HGI.out]
   go_upto_region 9 with (go_at_call 95;refine hsp.mono ?_;rintro e w3 ⟨⟨v,rfl,hov⟩,hN3⟩)
   have hN3':=HI.out.1.trans hN3
   have hb3:Below w.heap.size w w3:=(HV.out.1.trans (H2.out.1.mono HV.out.1.size)).trans (hN3'.less (Nat.le_trans HV.out.1.size H2.out.2.1.hz) (Nat.le_trans HV.out.1.size H2.out.1.size))
   have hp2:p < w2.heap.size:=hpl
   have hovw:OwnR w3 w2.heap.size v (spansR (b.ends (-1) 0) (fun i x => hget x k i) n):=hov.mono HI.out.2.2.2.1
   have hownw:OwnT w3 w2.heap.size u6 (hasTo (b.ends (-1) 0) n k):=HI.out.2.2.1.now hN3 hp2
   have H3:=Lib.hid (And.intro hN3' (And.intro hb3 (And.intro hovw hownw)))
   have hz3:=hN3'.size
   clear hN3 hN3' hb3 hov hovw hownw hsp
   by_cases hE:b.ends (-1) 0 = []
   ·have HE:=Lib.hid hE
    rw [spansE_pos hE]
    clear hE
    go_wp2_with fail
    go_ret2
    unfold HasR hasR
    rw [askE_none H2.out.2.2.1 HE.out,if_neg (by decide)]
    exact ⟨⟨_,rfl,OwnA.nil_⟩,H3.out.2.1⟩
   ·have HE:=Lib.hid hE
    rw [spansE_neg hE]
    clear hE
    have hll:(hasTo (b.ends (-1) 0) n k).length < 4294967296:=by rw [hasTo_len];omega
    have hov1:=H3.out.2.2.1
    unfold spansR at hov1
    rw [if_neg HE.out] at hov1
    obtain ⟨Av,cv,hve,-,-,-⟩:=hov1.form lenRn
    have HOV:=Lib.hid hov1
    clear hov1
    subst hve
    go_wp2_with (at_builtin;refine wp_app_rowA okRns (by decide) rfl (.tmp 37) (.tmp 39) rfl w2.heap.size _ _ (hasTo (b.ends (-1) 0) n k) _ rfl rfl H3.out.2.2.2 HOV.out hll hz3 ?_;intro v' w4 hown4 hb4 _;have H4:=Lib.hid (And.intro hown4 hb4);clear hown4 hb4)
    go_roundg (gk - 1)
    case measure => have:=HI.out.2.2.2.2.2;omega
    case rel => exact ⟨k + 1,by have:=HI.out.2.2.2.2.2;omega,by go_num,fun _ => HE.out,by rw [hasTo_succ];exact H4.out.1,H3.out.1.below hpl H4.out.2 (Nat.le_refl _)⟩
  ·obtain rfl:k = nk:=by omega
   have HF:=Lib.hid (And.intro (hne hk0.1) (And.intro hown hN))
   clear hne hown hN hk
   go_wp2_with fail
   go_ret2
   unfold HasR hasR
   rw [askE_ok H2.out.2.2.1 HF.out.1,if_pos rfl]
   refine ⟨⟨_,rfl,?_⟩,(HV.out.1.trans (H2.out.1.mono HV.out.1.size)).trans (HF.out.2.2.less (Nat.le_trans HV.out.1.size H2.out.2.1.hz) (Nat.le_trans HV.out.1.size H2.out.1.size))⟩
   have:=HF.out.2.1
   rw [H2.out.2.2.2.1,H2.out.2.2.2.2.1] at this
   exact OwnA.mono this (Nat.le_trans HV.out.1.size H2.out.1.size)
end Go.Proofs.YtmennjmjakdkcaaGreat
namespace Go.Proofs.YtmennjmjakdkcaaGreat
open Go.RowKit Go.MapKept
set_option linter.unusedVariables false
set_option linter.unusedSimpArgs false
def eGf (x:Gf):List Value:=[.int .i64 x.f,.int .i64 x.o,.int .i64 x.r.lo,.int .i64 x.r.hi]
theorem Rns.get {w:World} {A:Option Addr} {n:Nat} {l:List Rn} (h:Sl eRn 2 w A n l) {k:Nat} (hk:k < n) :
 ∃ b off m,A = some ⟨b,off,none⟩∧b < w.heap.size∧l[k]? = some m∧w.cell? ⟨b,off + k * 2,none⟩ = some (.int .i64 m.lo)∧w.cell? ⟨b,off + k * 2 + 1,none⟩ = some (.int .i64 m.hi):=by
 obtain ⟨b,off,x,hA,hx,hc⟩:=h.at_ hk
 have h0:=hc 0 _ rfl
 exact ⟨b,off,x,hA,cell_lt h0,hx,h0,hc 1 _ rfl⟩
def rowG (k:Int) (f:Nat) (row:List Rn) (j:Nat):List Gf:=((List.range j).filter fun (o:Nat) => decide ((o:Int) ≠ k) && decide (0 < (row.getD o ⟨0,0⟩).hi)).map fun (o:Nat) => ⟨(f:Int),(o:Int),row.getD o ⟨0,0⟩⟩
theorem hasL_rows (E:List (List Int)) (n nf:Nat):(hasL E n nf).length = nf∧∀ r ∈ hasL E n nf,r.length = n:=by
 unfold hasL
 refine ⟨by simp,fun r hr => ?_⟩
 obtain ⟨f,_,rfl⟩:=List.mem_map.1 hr
 simp
end Go.Proofs.YtmennjmjakdkcaaGreat
namespace Go.Proofs.YtmennjmjakdkcaaGreat
open Go.RowKit
set_option linter.unusedVariables false
set_option linter.unusedSimpArgs false
set_option maxHeartbeats 1000000 in
theorem sameRanges_any (A:Option Addr) (n c:Nat) (x:List Rn) (B:Option Addr) (m d:Nat) (y:List Rn) (w:World) (hx:Sl eRn 2 w A n x) (hy:Sl eRn 2 w B m y) (hn:n ≤ maxLen) (hm:m ≤ maxLen) :
 Calls Tryz.prog 26 #[.slice A n c,.slice B m d] w fun e w' => e = .returned (.bool (sameL x y))∧Below w.heap.size w w':=by
 have HL:=Lib.hid (And.intro hx.len hy.len)
 have HXY:=Lib.hid (And.intro hx hy)
 unfold maxLen at hn hm
 clear hx hy
 by_cases hnm:n = m
 ·subst hnm
  have h0:(n != n) = false:=by simp
  have h0':((n:Int) != (n:Int)) = false:=by simp
  go_enter Tryz.func26,Tryz.ntmps26
  go_wp2_with fail
  go_loopg [5] n (fun g i wr => ∃ k:Nat,k + g = n∧i = .int .i64 k∧x.take k = y.take k∧∃ q,wr = w.drewN q)
  case atStart => exact ⟨0,by omega,rfl,by simp,0,rfl⟩
  case round =>
   obtain ⟨k,hk,rfl,htk,q,rfl⟩:=hrel
   have HK:=Lib.hid (And.intro hk htk)
   have hkn:k ≤ n:=by omega
   clear hk htk
   by_cases hlt:k < n
   ·obtain ⟨b0,o0,u,rfl,hb0,hu,p0,p1⟩:=Rns.get HXY.out.1 hlt
    obtain ⟨b1,o1,v,rfl,hb1,hv,q0,q1⟩:=Rns.get HXY.out.2 hlt
    have i0:(0:Int) ≤ (k:Int):=by omega
    have i1:(k:Int) < (n:Int):=by omega
    have HUV:=Lib.hid (And.intro hu hv)
    clear hu hv
    by_cases huv:u = v
    ·subst huv
     go_upto_region 6 with (fail)
     go_quiet (fail)
     go_wp2
     go_roundg (gk - 1)
     case measure => have:=HK.out.1;omega
     case rel => exact ⟨k + 1,by have:=HK.out.1;omega,by go_num,take_eq_snoc HK.out.2 HUV.out.1 HUV.out.2 rfl,_,rfl⟩
    ·have HNE:=Lib.hid huv
     cases e1:(u.lo == v.lo) <;> cases e2:(u.hi == v.hi)
     case true.true =>
      exfalso
      exact huv (by cases u;cases v;simp at e1 e2;simp [e1,e2])
     all_goals
      clear huv
      go_upto_region 6 with (fail)
      go_quiet (fail)
      go_wp2
      go_ret
      exact ⟨ret_bool (by unfold sameL;rw [decide_eq_false (ne_of_at HUV.out.1 HUV.out.2 HNE.out)]),below_drewN (below_drewN (Below.refl _ _) _) _⟩
   ·obtain rfl:k = n:=by omega
    go_wp2
    go_ret
    refine ⟨ret_bool ?_,below_drewN (Below.refl _ _) _⟩
    have h1:=HK.out.2
    rw [List.take_of_length_le (by have:=HL.out.1;omega),List.take_of_length_le (by have:=HL.out.2;omega)] at h1
    unfold sameL
    rw [decide_eq_true h1]
 ·have h0':((n:Int) != (m:Int)) = true:=by simp;omega
  have HNE:=Lib.hid hnm
  clear hnm
  go_enter Tryz.func26,Tryz.ntmps26
  go_wp2
  go_ret
  refine ⟨ret_bool ?_,Below.refl _ _⟩
  unfold sameL
  rw [decide_eq_false (fun h => HNE.out (by rw [← HL.out.1,← HL.out.2,h]))]
theorem GridA.len {α:Type} {enc:α→List Value} {sz:Nat} {w:World} {A:Option Addr} {n:Nat} {ls:List (List α)} (h:GridA enc sz w A n ls):ls.length = n:=by
 obtain ⟨mv,h1,h2,_⟩:=h
 rw [← h2];exact h1.len
abbrev Table (w:World) (A:Option Addr) (n:Nat) (ls:List (List Rn)):Prop:=GridA eRn 2 w A n ls
set_option maxRecDepth 100000 in
set_option maxHeartbeats 2000000 in
theorem sameTables_any (A:Option Addr) (n c:Nat) (x:List (List Rn)) (B:Option Addr) (m d:Nat) (y:List (List Rn)) (w:World) (hx:Table w A n x) (hy:Table w B m y) (hn:n ≤ maxLen) (hm:m ≤ maxLen) :
 Calls Tryz.prog 39 #[.slice A n c,.slice B m d] w fun e w' => e = .returned (.bool (sameL x y))∧Below w.heap.size w w':=by
 have HL:=Lib.hid (And.intro hx.len hy.len)
 have HXY:=Lib.hid (And.intro hx hy)
 unfold maxLen at hn hm
 clear hx hy
 by_cases hnm:n = m
 ·subst hnm
  have h0:(n != n) = false:=by simp
  have h0':((n:Int) != (n:Int)) = false:=by simp
  go_enter Tryz.func39,Tryz.ntmps39
  go_wp2_with fail
  go_loopg [5] n (fun g i wr => ∃ k:Nat,k + g = n∧i = .int .i64 k∧x.take k = y.take k∧Below w.heap.size w wr)
  case atStart => exact ⟨0,by omega,rfl,by simp,Below.refl _ _⟩
  case round =>
   obtain ⟨k,hk,rfl,htk,hbl⟩:=hrel
   have HK:=Lib.hid (And.intro hk htk)
   have hkn:k ≤ n:=by omega
   clear hk htk
   by_cases hlt:k < n
   ·obtain ⟨b0,o0,C0,u,c0,rfl,hb0,hu,p0,hi0,hc0,hm0⟩:=GridA.get (HXY.out.1.below hbl (Nat.le_refl _)) hlt
    obtain ⟨b1,o1,C1,v,c1,rfl,hb1,hv,q0,hi1,hc1,hm1⟩:=GridA.get (HXY.out.2.below hbl (Nat.le_refl _)) hlt
    have i0:(0:Int) ≤ (k:Int):=by omega
    have i1:(k:Int) < (n:Int):=by omega
    have HUV:=Lib.hid (And.intro hu hv)
    have hmu:u.length ≤ maxLen:=Nat.le_trans hc0 hm0
    have hmv:v.length ≤ maxLen:=Nat.le_trans hc1 hm1
    have cS:∀ d os,Calls Tryz.prog 26 #[.slice C0 u.length c0,.slice C1 v.length c1] (Sort.grow (redrawn wr d) os) (fun e w'' => e = .returned (.bool (sameL u v))∧∃ p:Regrown,w'' = Sort.grow (redrawn wr p.d) p.os):=fun d os =>
     Calls.regrown_of (sameRanges_any C0 u.length c0 u C1 v.length c1 v _ (hi0.below (below_regrown wr d os) (Nat.le_refl _)) (hi1.below (below_regrown wr d os) (Nat.le_refl _)) hmu hmv)
    clear hu hv hi0 hi1
    cases huv:sameL u v
    all_goals
     rw [huv] at cS
     have HC:=Lib.hid cS
     have HE:=Lib.hid huv
     clear cS huv
     go_upto_region 6 with (fail)
     have k0:=cell_regrown p0
     have k1:=cell_regrown q0
     refine wp_region_quiet_below (by kernel_rfl) (by kernel_rfl) ?_
     repeat (quiet_step (exact HC.out _ _))
     refine wpQuiet_nil ?_
     intro _ hw'
     obtain ⟨⟨dq,osq⟩,hw''⟩:=hw'
     subst hw''
     obtain ⟨w3,hW1⟩:∃ w3,w3 = Sort.grow (redrawn wr dq) osq:=⟨_,rfl⟩
     have hb3:Below wr.heap.size wr w3:=by rw [hW1];exact below_regrown wr dq osq
     rw [← hW1]
     have hbl3:=hbl.trans (hb3.mono hbl.size)
     clear hW1 k0 k1 p0 q0
     go_wp2
    ·go_ret
     exact ⟨ret_bool (by unfold sameL;rw [decide_eq_false (ne_of_at HUV.out.1 HUV.out.2 (by have:=HE.out;unfold sameL at this;simpa using this))]),hbl3⟩
    ·go_roundg (gk - 1)
     case measure => have:=HK.out.1;omega
     case rel => exact ⟨k + 1,by have:=HK.out.1;omega,by go_num,take_eq_snoc HK.out.2 HUV.out.1 HUV.out.2 (by have:=HE.out;unfold sameL at this;simpa using this),hbl3⟩
   ·obtain rfl:k = n:=by omega
    go_wp2
    go_ret
    refine ⟨ret_bool ?_,hbl⟩
    have h1:=HK.out.2
    rw [List.take_of_length_le (by have:=HL.out.1;omega),List.take_of_length_le (by have:=HL.out.2;omega)] at h1
    unfold sameL
    rw [decide_eq_true h1]
 ·have h0':((n:Int) != (m:Int)) = true:=by simp;omega
  have HNE:=Lib.hid hnm
  clear hnm
  go_enter Tryz.func39,Tryz.ntmps39
  go_wp2
  go_ret
  refine ⟨ret_bool ?_,Below.refl _ _⟩
  unfold sameL
  rw [decide_eq_false (fun h => HNE.out (by rw [← HL.out.1,← HL.out.2,h]))]
end Go.Proofs.YtmennjmjakdkcaaGreat
namespace Go.Proofs.YtmennjmjakdkcaaGreat
open Go.RowKit Go.MapKept
set_option linter.unusedVariables false
set_option linter.unusedSimpArgs false
theorem NowIn.turn {p:Nat} {b:Hb} {d o d' o':Int} {w w':World} (h:NowIn p (b.bk d o) w w'):NowIn p (b.bk d' o') w ((w'.setCell ⟨p,5,none⟩ (.int .i64 d')).setCell ⟨p,6,none⟩ (.int .i64 o')):=by
 obtain ⟨n,hn⟩:=h.hp
 refine ⟨h.os,h.tape,h.output,by simpa using h.size,fun k hk hne => ((Below.heap_setCell _ ⟨p,6,none⟩ _ _ hne).trans (Below.heap_setCell _ ⟨p,5,none⟩ _ _ hne)).trans (h.block k hk hne),⟨n,?_⟩⟩
 exact (set_blk (set_blk hn)).trans (by simp)
theorem Work.turn {w0 w w':World} {p:Nat} {b:Hb} {d o d' o':Int} (h:Work w0 p b d o w) (k:NowIn p (b.bk d' o') w w'):Work w0 p b d' o' w':=⟨h.hin,h.hz,h.bel.trans (k.less h.hz h.bel.size),k.hp,h.ck⟩
theorem NowIn.other {p:Nat} {O O':Int→Obj} {a b c:World} (h:NowIn p O a b) (k:NowIn p O' b c):NowIn p O' a c :=
 ⟨k.os.trans h.os,k.tape.trans h.tape,k.output.trans h.output,Nat.le_trans h.size k.size,fun i hi hne => (k.block i (Nat.lt_of_lt_of_le hi h.size) hne).trans (h.block i hi hne),k.hp⟩
def whoseTo (b:Hb) (deed:Int) (k:Nat):List Int:=((List.range k).filter fun (o:Nat) => !decide (b.ends deed (o:Int) = [])).map Int.ofNat
theorem whoseTo_succ (b:Hb) (deed:Int) (k:Nat):whoseTo b deed (k + 1) = whoseTo b deed k ++ if (!decide (b.ends deed (k:Int) = [])) = true then [(k:Int)] else []:=by
 unfold whoseTo
 rw [List.range_succ,List.filter_append,List.map_append]
 congr 1
 by_cases h:b.ends deed (k:Int) = [] <;> simp [h]
theorem whoseTo_len (b:Hb) (deed:Int) (k:Nat):(whoseTo b deed k).length ≤ k:=by
 unfold whoseTo
 rw [List.length_map]
 have:=List.length_filter_le (fun (o:Nat) => !decide (b.ends deed (o:Int) = [])) (List.range k)
 simpa using this
def whoseE (b:Hb) (deed:Int):Int :=
 if b.chk ≠ 0 then b.chk else if ownB b.ds.length deed = false then 3 else if (b.ds[deed.toNat]?.map De.kind) ≠ some 5 then 8 else if whoseTo b deed b.l.length = [] then 11 else 0
def whoseR (b:Hb) (deed:Int):List Int:=if whoseE b deed = 0 then whoseTo b deed b.l.length else []
def WhoseR (b:Hb) (deed:Int) (w:World) (e:Ending) (w':World):Prop:=(∃ v,e = .returned (.tuple #[v,.int .i64 (whoseE b deed)])∧OwnI w' w.heap.size v (whoseR b deed))∧Below w.heap.size w w'
theorem whose_nil {b:Hb} {deed:Int} {w w':World} {e:Int} (he:whoseE b deed = e) (h0:e ≠ 0) (hb:Below w.heap.size w w'):WhoseR b deed w (.returned (.tuple #[.slice none 0 0,.int .i64 e])) w':=by
 refine ⟨⟨_,by rw [he],?_⟩,hb⟩
 unfold whoseR
 rw [he,if_neg h0]
 exact Own.nil_
set_option maxRecDepth 100000 in
set_option maxHeartbeats 1000000 in
theorem Whose_any (b:Hb) (deed:Int) (w:World) (hin:HbIn w b):Calls Tryz.prog 46 #[b.v,.int .i64 deed] w (WhoseR b deed w):=by
 obtain ⟨V,hV⟩:∃ V,V = w.alloc b.obj:=⟨_,rfl⟩
 obtain ⟨g,hg⟩:∃ g,g = w.heap.size:=⟨_,rfl⟩
 have b0:V.heap[g]? = some b.obj:=by rw [hV,hg];exact alloc_at rfl
 have hBV:Below w.heap.size w V:=by rw [hV];exact bal0 w _
 have hiV:=hin.below hBV (Nat.le_refl _)
 obtain ⟨c0,c1,c2,c3,c4⟩:=blk5c b0
 have hak:=asked_any b V hiV
 unfold Hb.v at hak
 have HV:=Lib.hid (And.intro hBV (And.intro b0 (And.intro hiV hg)))
 unfold Hb.v
 go_enter Tryz.func46,Tryz.ntmps46
 go_upto_region 1 with (fail)
 rw [← hV,← hg]
 clear hV hg hin hBV hiV b0
 obtain ⟨R,hR⟩:∃ R,R = AskedR b b.chk V:=⟨_,rfl⟩
 rw [← hR] at hak
 have HR:=Lib.hid hR
 clear hR
 go_upto_region 2 with (go_at_call 55;refine hak.mono ?_;rintro e w2 hRR;rw [HR.out] at hRR;unfold AskedR at hRR;rcases hRR with ⟨h0,rfl,hb2⟩ | ⟨h0,p,rfl,hWk,hb2⟩)
 ·have xf:(b.chk != 0) = true:=by simp [h0]
  go_wp2_with fail
  go_ret2
  exact whose_nil (by unfold whoseE;rw [if_pos h0]) h0 (HV.out.1.trans (hb2.mono HV.out.1.size))
 have x0:=bheap HV.out.2.1 hb2 (Nat.le_refl _)
 have hok:=hWk.ok
 have hgp:g ≠ p:=by have:=hWk.hz;have:=heap_lt HV.out.2.1;omega
 clear c0 c1 c2 c3 c4 hak
 obtain ⟨c0,c1,c2,c3,c4⟩:=blk5c x0
 have hpl:=hWk.lt
 have hdw:=hWk.inn.d
 obtain ⟨n,hn⟩:∃ n,n = b.l.length:=⟨_,rfl⟩
 obtain ⟨nd,hnd⟩:∃ nd,nd = b.ds.length:=⟨_,rfl⟩
 obtain ⟨Ad,hAd⟩:∃ Ad,Ad = b.Ad:=⟨_,rfl⟩
 rw [← hn] at c1
 rw [← hnd,← hAd] at c4 hdw
 have hn0:0 < n∧n ≤ 5:=by rw [hn];exact ⟨hok.n0,hok.n5⟩
 have hd6:nd ≤ 6:=by rw [hnd];exact hok.d6
 have H2:=Lib.hid (And.intro hb2 (And.intro hWk (And.intro h0 (And.intro hn (And.intro hnd (And.intro hok (And.intro hgp (And.intro x0 (HV.out.1.trans (hb2.mono HV.out.1.size))))))))))
 clear hb2 hWk h0 hn hnd hok hgp x0 hAd
 obtain ⟨ob,hob⟩:∃ ob,ob = ownB nd deed:=⟨_,rfl⟩
 have hbt:=betweenH_any deed 0 ((nd:Int) - 1) w2
 rw [show btw deed 0 ((nd:Int) - 1) = ob from hob.symm] at hbt
 have HOB:=Lib.hid hob
 clear hob
 cases ob with
 | false =>
   go_wp2_with (go_at_call 102;refine hbt.mono ?_;rintro e w' ⟨rfl,rfl⟩)
   go_ret2
   exact whose_nil (by unfold whoseE;rw [if_neg (by rw [H2.out.2.2.1];simp),← H2.out.2.2.2.2.1,← HOB.out,if_pos rfl]) (by decide) H2.out.2.2.2.2.2.2.2.2
 | true =>
 obtain ⟨hd0,hdl⟩:=ownB_iff.1 HOB.out.symm
 obtain ⟨dn,rfl⟩:=Int.eq_ofNat_of_zero_le hd0
 have hdn:dn < nd:=by omega
 obtain ⟨bi,oi,d,hA,hbi,hdk,d0,d1,d2,d3,d4,d5,d6,d7,d8,d9,d10,d11⟩:=Deeds.get hdw hdn
 subst hA
 have HD:=Lib.hid hdk
 clear hdk hdw hbi d1 d2 d3 d4 d5 d6 d7 d8 d9 d10 d11
 by_cases hk5:d.kind = 5
 ·rw [hk5] at d0
  have hwe:whoseE b dn = if whoseTo b dn b.l.length = [] then 11 else 0:=by
   unfold whoseE
   rw [if_neg (by rw [H2.out.2.2.1];simp),← H2.out.2.2.2.2.1,← HOB.out,if_neg (by simp),if_neg (by rw [Int.toNat_natCast,HD.out];simp [hk5])]
  have HWE:=Lib.hid hwe
  clear hwe hk5
  go_wp2_with (go_at_call 102;refine hbt.mono ?_;rintro e w' ⟨rfl,rfl⟩)
  go_loopg [8,36] n (fun g' v8 v36 wr => ∃ k:Nat,k + g' = n∧v36 = .int .i64 k∧OwnI wr w2.heap.size v8 (whoseTo b dn k)∧∃ dd oo,NowIn p (b.bk dd oo) w2 wr)
  case atStart => exact ⟨0,by omega,rfl,Own.nil_,_,_,H2.out.2.1.refl⟩
  case round =>
   obtain ⟨k,hk,rfl,hown,dd,oo,hN⟩:=hrel
   by_cases hlt:k < n
   ·have i1:(k:Int) < (n:Int):=by omega
    obtain ⟨nw,hpb⟩:=hN.hp
    obtain ⟨p0,p1,p2,p3,p4,p5,p6,p7⟩:=blkB hpb
    have fz5:=frz hpb 5
    have fz6:=frz hpb 6
    have hpr:=heap_lt hpb
    have HK:=Lib.hid (And.intro hk (And.intro hown hN))
    clear hk hown hN hpb p0 p1 p2 p3 p4 p7
    go_upto_region 13 with (fail)
    have hN3:=HK.out.2.2.turn (d':=(dn:Int)) (o':=(k:Int))
    have hown3:OwnI ((wr.setCell ⟨p,5,none⟩ (Value.int .i64 (dn:Int))).setCell ⟨p,6,none⟩ (Value.int .i64 (k:Int))) w2.heap.size u8 (whoseTo b dn k) :=
     Own.now (O:=b.bk dn k) HK.out.2.1 (a:=wr) ⟨rfl,rfl,rfl,by simp,fun j _ hne => (Below.heap_setCell _ ⟨p,6,none⟩ _ _ hne).trans (Below.heap_setCell _ ⟨p,5,none⟩ _ _ hne),hN3.hp⟩ hpl
    generalize ((wr.setCell ⟨p,5,none⟩ (Value.int .i64 (dn:Int))).setCell ⟨p,6,none⟩ (Value.int .i64 (k:Int))) = w3 at hN3 hown3 ⊢
    have htr:=truth_any V p b dn k w3 (H2.out.2.1.turn hN3)
    obtain ⟨tb,htb⟩:∃ tb,tb = !decide (b.ends (dn:Int) (k:Int) = []):=⟨_,rfl⟩
    rw [← htb] at htr
    have HTB:=Lib.hid htb
    have H3:=Lib.hid (And.intro hN3 hown3)
    clear htb hN3 hown3 p5 p6 fz5 fz6
    have hstp:=whoseTo_succ b dn k
    rw [← HTB.out] at hstp
    have HST:=Lib.hid hstp
    have hll:=whoseTo_len b dn k
    clear hstp
    cases tb with
    | false =>
      go_wp2_with (go_at_call 81;refine htr.mono ?_;rintro e w4 ⟨rfl,hN4⟩)
      go_roundg (gk - 1)
      case measure => have:=HK.out.1;omega
      case rel => exact ⟨k + 1,by have:=HK.out.1;omega,by go_num,by rw [HST.out];simpa using Own.now H3.out.2 hN4 hpl,dn,k,H3.out.1.other hN4⟩
    | true =>
      go_upto_region 14 with (go_at_call 81;refine htr.mono ?_;rintro e w4 ⟨rfl,hN4⟩)
      have hown4:=Own.now H3.out.2 hN4 hpl
      have hN4':=H3.out.1.other hN4
      have hz4:=hN4'.size
      have H4:=Lib.hid (And.intro hN4' hown4)
      clear hN4 hN4' hown4
      go_wp2_with (at_builtin;refine wp_app okInt rfl (.tmp 49) (.tmp 51) rfl w2.heap.size _ (whoseTo b dn k) (k:Int) _ rfl rfl rfl rfl (one_eInt _) H4.out.2 ?_ ?_ ?_ ?_;(omega);(omega);(omega);intro v' w5 hown5 hb5 _ hz5;have H5:=Lib.hid (And.intro hown5 hb5);clear hown5 hb5)
      go_roundg (gk - 1)
      case measure => have:=HK.out.1;omega
      case rel => exact ⟨k + 1,by have:=HK.out.1;omega,by go_num,by rw [HST.out];simpa using H5.out.1,dn,k,H4.out.1.below hpl H5.out.2 (Nat.le_refl _)⟩
   ·obtain rfl:k = n:=by omega
    obtain ⟨Av,cv,hve,hsl,hlc,hcm⟩:=hown.form lenInt
    have hbw:Below w.heap.size w wr:=H2.out.2.2.2.2.2.2.2.2.trans (hN.less (Nat.le_trans HV.out.1.size H2.out.2.1.hz) (Nat.le_trans HV.out.1.size H2.out.1.size))
    obtain ⟨L,hL⟩:∃ L,L = whoseTo b dn k:=⟨_,rfl⟩
    rw [← hL] at hve
    have hLl:L.length ≤ 5:=by rw [hL];have:=whoseTo_len b dn k;omega
    have HF:=Lib.hid (And.intro hown (And.intro hbw hL))
    subst hve
    clear hown hN hk hsl hlc hcm hbw hL
    by_cases hLn:L.length = 0
    ·have x0:((L.length:Int) == 0) = true:=by simp [hLn]
     have HLN:=Lib.hid hLn
     clear hLn
     go_wp2_with fail
     go_ret2
     refine whose_nil ?_ (by decide) HF.out.2.1
     rw [HWE.out,← H2.out.2.2.2.1,← HF.out.2.2,if_pos (List.eq_nil_of_length_eq_zero HLN.out)]
    ·have x0:((L.length:Int) == 0) = false:=by simp;exact fun e => hLn (by rw [e];rfl)
     have HLN:=Lib.hid hLn
     clear hLn
     go_wp2_with fail
     go_ret2
     have h0:whoseE b dn = 0:=by
      rw [HWE.out,← H2.out.2.2.2.1,← HF.out.2.2,if_neg (fun e => HLN.out (by rw [e];rfl))]
     unfold WhoseR whoseR
     rw [h0,if_pos rfl]
     refine ⟨⟨_,rfl,?_⟩,HF.out.2.1⟩
     have:=HF.out.1
     rw [← HF.out.2.2] at this
     rw [← H2.out.2.2.2.1,← HF.out.2.2]
     exact this.mono (Nat.le_trans HV.out.1.size H2.out.1.size)
 ·have x5:(d.kind != 5) = true:=by simp [hk5]
  have HK5:=Lib.hid hk5
  clear hk5
  go_wp2_with (go_at_call 102;refine hbt.mono ?_;rintro e w' ⟨rfl,rfl⟩)
  go_ret2
  refine whose_nil ?_ (by decide) H2.out.2.2.2.2.2.2.2.2
  unfold whoseE
  rw [if_neg (by rw [H2.out.2.2.1];simp),← H2.out.2.2.2.2.1,← HOB.out,if_neg (by simp),if_pos]
  rw [Int.toNat_natCast,HD.out]
  simpa using HK5.out
end Go.Proofs.YtmennjmjakdkcaaGreat
namespace Go.Proofs.YtmennjmjakdkcaaGreat
open Go.RowKit Go.Sort
set_option linter.unusedVariables false
section
variable {F:Fence} {n:Nat} {P:Program} {ops:Array Oper} {md:Region.Mode} {C:World→Prop}
def anyLQIn (F:Fence) (n:Nat) (P:Program) (md:Region.Mode) (ops:Array Oper) (C:World→Prop) (m:Nat) (L:Array Bool→Act→Prop):Nat→Array Bool→Act→Prop
 | 0,listed,a => L listed a
 | f + 1,listed,a =>
   Region.ready md ops listed ≠ []∧∀ i ∈ Region.ready md ops listed,i < m∧qOpIn F n P ops C i (anyLQIn F n P md ops C m L f (listed.setIfInBounds i true)) a
theorem opIn_of_quiet (hnd:∀ (i:Nat) o,ops[i]? = some o→∀ c,o.op ≠ .defer c) {i:Nat} {a:Act} {K:Act→Prop} {K':Act→World→Prop} {Q':Exit→Act→World→Prop} {w:World} (hC:C w) (h:∀ a w',C w'→K a→K' a w')
 (hh:qOpIn F n P ops C i K a):wpOpIn F n P ops Q' i K' a w:=by
 unfold qOpIn at hh
 unfold wpOpIn
 cases ho:ops[i]? with
 | none => simp only [ho] at hh ⊢;exact h _ _ hC hh
 | some o =>
   simp only [ho] at hh ⊢
   obtain ⟨ha,hh⟩:=hh
   split
   ·rename_i hw
    simp only [hw,if_true] at hh
    exact quiet_wpIn (hnd i o ho) hC h ha hh
   ·rename_i hw
    simp only [hw] at hh
    exact ⟨ha w hC,h _ _ hC hh⟩
theorem anyIn_of_head (hnd:∀ (i:Nat) o,ops[i]? = some o→∀ c,o.op ≠ .defer c) {m g:Nat} {L:Array Bool→Act→Prop} {Q':Exit→Act→World→Prop} (hL:∀ listed a w,C w→L listed a→wpAnyIn F n P md ops Q' g listed a w) :
 ∀ (f:Nat) (listed:Array Bool) (a:Act) (w:World),C w→anyLQIn F n P md ops C m L f listed a→wpAnyIn F n P md ops Q' (f + g) listed a w
 | 0,listed,a,w,hw,h => by rw [Nat.zero_add];exact hL _ _ _ hw h
 | f + 1,listed,a,w,hw,h => by
   rw [show f + 1 + g = (f + g) + 1 by omega]
   exact ⟨fun h0 => absurd h0 h.1,fun i hi => opIn_of_quiet hnd hw (fun a' w' hw' h' => anyIn_of_head hnd hL f _ a' w' hw' h') (h.2 i hi).2⟩
theorem anyLQIn_first {m i:Nat} {oi:Oper} {v:Value} {L:Array Bool→Act→Prop} (hi:ops[i]? = some oi) (hsel:∀ (j:Nat) (o:Oper) cs b,ops[j]? = some o→o.op ≠ .select cs b)
 (hs:Region.sinkB md ops m = true) (hc:Region.chainB md ops m = true) (hn:m < ops.size) (hin:i < m)
 (hdone:∀ listed a,L listed a→∀ j ∈ Region.ready md ops listed,m ≤ j) :
 ∀ (f:Nat) (listed:Array Bool) (a:Act),HeadInv md ops m listed →
  (∀ j oj,ops[j]? = some oj→j ≠ i→listed.getD j true = false→(∀ e ∈ oj.after,Region.binds md e = true→e.on ≠ i)→oi.apart ops oj = true) →
  i ∈ Region.ready md ops listed→YieldsQuiet F n P ops C oi v a →
  anyLQIn F n P md ops C m L f (listed.setIfInBounds i true) (a.put oi.dst v)→anyLQIn F n P md ops C m L (f + 1) listed a:=by
 intro f
 induction f with
 | zero =>
   intro listed a inv _ hr hy H
   have hun:=(mem_ready.1 hr).1
   refine ⟨fun h => (by rw [h] at hr;cases hr),fun j hj => ?_⟩
   have hjn:j < m:=by
    rcases Nat.lt_or_ge j m with h | h
    ·exact h
    ·exact absurd hj (tail_waits hs hc hn inv _ i rfl hin hun j h)
   refine ⟨hjn,?_⟩
   by_cases hji:j = i
   ·subst hji;exact hy.qOpIn hi H
   ·have:=hdone _ _ H j (ready_mono hj hji)
    omega
 | succ f ih =>
   intro listed a inv hfree hr hy H
   have hun:=(mem_ready.1 hr).1
   refine ⟨fun h => (by rw [h] at hr;cases hr),fun j hj => ?_⟩
   have hjn:j < m:=by
    rcases Nat.lt_or_ge j m with h | h
    ·exact h
    ·exact absurd hj (tail_waits hs hc hn inv _ i rfl hin hun j h)
   refine ⟨hjn,?_⟩
   by_cases hji:j = i
   ·subst hji;exact hy.qOpIn hi H
   ·have h1:=(H.2 j (ready_mono hj hji)).2
    obtain ⟨hjun,oj,hoj,hall⟩:=mem_ready.1 hj
    have hnot:∀ e ∈ oj.after,Region.binds md e = true→e.on ≠ i:=fun e he hb heq => by
     have h1:=hall e he hb
     rw [heq,getD_both hun] at h1
     cases h1
    have h2:=qOpIn_put hoj (hfree j oj hoj hji hjun hnot) (fun cs b => hsel i oi cs b hi) (fun cs b => hsel j oj cs b hoj) hy h1
    have hfree':∀ k ok,ops[k]? = some ok→k ≠ i→(listed.setIfInBounds j true).getD k true = false →
     (∀ e ∈ ok.after,Region.binds md e = true→e.on ≠ i)→oi.apart ops ok = true:=fun k ok hk hki hun hno => by
     refine hfree k ok hk hki ?_ hno
     by_cases hjk:j = k
     ·subst hjk;exact hjun
     ·rw [getD_set_ne true hjk] at hun;exact hun
    refine qOpIn_mono (fun a' h3 => ih (listed.setIfInBounds j true) a' (inv.set hj hjn) hfree' (ready_mono hr (Ne.symm hji)) h3.1 ?_) h2
    rw [Array.setIfInBounds_comm _ _ hji]
    exact h3.2
theorem anyLQIn_lex {m g:Nat} {Lq:Act→Prop} (hsel:Region.noSelect ops = true) (hs:Region.sinkB md ops m = true) (hc:Region.chainB md ops m = true) (hn:m < ops.size) :
 ∀ (l:List Oper) (k:Nat) (listed:Array Bool) (a:Act),(∀ j,j < l.length→l[j]? = ops[k + j]?)→k + l.length = m→HeadInv md ops m listed →
 Region.lexHead md ops g l.length k listed = true→wpQuietIn F n P ops C Lq l a →
 anyLQIn F n P md ops C m (fun listed' a' => Region.seqB md ops g m listed' = true∧Lq a') l.length listed a
 | [],k,listed,a,_,hk,_,hB,h => by
   have:k = m:=by simpa using hk
   subst this
   exact ⟨by simpa [Region.lexHead] using hB,h⟩
 | o :: l,k,listed,a,hl,hk,inv,hB,h => by
   have h0:ops[k]? = some o:=by simpa using (hl 0 (by simp)).symm
   simp only [List.length_cons,Region.lexHead,Bool.and_eq_true] at hB
   obtain ⟨⟨hr,hf⟩,hB'⟩:=hB
   have hkn:k < m:=by simp only [List.length_cons] at hk;omega
   have hr':k ∈ Region.ready md ops listed:=by simpa using hr
   have hst:qOpIn F n P ops C k (wpQuietIn F n P ops C Lq l) a:=by unfold qOpIn;simp only [h0];exact h
   obtain ⟨v,hy,hK⟩:=yieldsQuiet_of_qOpIn h0 hst
   exact anyLQIn_first h0 (Region.noSelect_spec hsel) hs hc hn hkn (fun listed' a' hL => seqB_ready hL.1) l.length listed a inv (Region.free_spec h0 hf) hr' hy
    (anyLQIn_lex hsel hs hc hn l (k + 1) _ _ (fun j hj => by have:=hl (j + 1) (by simp;omega);simpa [Nat.add_assoc,Nat.add_comm 1 j] using this) (by simp only [List.length_cons] at hk;omega) (inv.set hr' hkn) hB' hK)
theorem anyIn_of_seq {Q':Exit→Act→World→Prop}:∀ (l:List Oper) (k:Nat) (listed:Array Bool) (a:Act) (w:World),(∀ j,l[j]? = ops[k + j]?) →
 Region.seqB md ops l.length k listed = true→wpListIn F n P ops Q' l a w→wpAnyIn F n P md ops Q' l.length listed a w
 | [],_,_,_,_,_,hB,h => ⟨by simpa [Region.seqB] using hB,h⟩
 | o :: l,k,listed,a,w,hl,hB,h => by
   have h0:ops[k]? = some o:=by simpa using (hl 0).symm
   simp only [List.length_cons,Region.seqB,Bool.and_eq_true,decide_eq_true_eq] at hB
   refine ⟨fun h1 => (by rw [hB.1] at h1;cases h1),fun i hi => ?_⟩
   rw [hB.1] at hi
   have hik:i = k:=by simpa using hi
   subst hik
   have hw:wpOpIn F n P ops Q' i (wpListIn F n P ops Q' l) a w:=by unfold wpOpIn;simp only [h0];exact h
   exact wpOpIn_mono (fun a' w' h' => anyIn_of_seq l (i + 1) _ a' w' (fun j => by have:=hl (j + 1);simpa [Nat.add_assoc,Nat.add_comm 1 j] using this) hB.2 h') hw
theorem round_quiet_tail {id:Nat} {Q:Exit→Act→World→Prop} {a:Act} {w:World} {l:List Oper} (m:Nat) (hm:P.follows .mixedOrders = true) (hB:Region.lexTailB .any l.toArray m = true) (hnd:noDefer l = true)
 (hC:C { w with drawn:=w.drawn + 1 })
 (h:wpQuietIn F n P l.toArray C (fun a' => ∀ w',C w'→wpListIn F n P l.toArray Q (l.drop m) a' w') (l.take m) a):(Code.region id l.toArray true).wpIn F n P Q a w:=by
 simp only [Region.lexTailB,Bool.and_eq_true,decide_eq_true_eq] at hB
 obtain ⟨⟨⟨⟨hsel,hn⟩,hs⟩,hc⟩,hlex⟩:=hB
 have hn':m < l.length:=by simpa using hn
 have htl:(l.take m).length = m:=by simp;omega
 have hdl:(l.drop m).length = l.toArray.size - m:=by simp
 have hd:∀ (i:Nat) o,l.toArray[i]? = some o→∀ c,o.op ≠ .defer c:=by
  intro i o ho c hc
  have hmem:o ∈ l:=by
   rw [List.getElem?_toArray] at ho
   exact List.mem_of_getElem? ho
  have:=List.all_eq_true.1 hnd o hmem
  rw [hc] at this
  cases this
 have inv0:HeadInv .any l.toArray m (Array.replicate l.toArray.size false) :=
  ⟨by simp,fun j oj _ hl => (by rw [getD_replicate_false] at hl;cases hl),fun t _ ht => getD_in (by simpa using ht) (getD_replicate_false _ _)⟩
 have H:=anyLQIn_lex (C:=C) (F:=F) (n:=n) (P:=P) (md:=.any) (g:=l.toArray.size - m) hsel hs hc hn (l.take m) 0 _ a (fun j hj => by
  have hj':j < m:=by rw [htl] at hj;exact hj
  simp [hj']) (by simpa using htl) inv0 (by rw [htl];exact hlex) h
 refine wpIn_region_any hm ?_
 have:=anyIn_of_head (Q':=Q) (g:=l.toArray.size - m) hd (fun listed a' w' hw' hL => by
  have:=anyIn_of_seq (md:=.any) (Q':=Q) (l.drop m) m listed a' w' (fun j => by simp [List.getElem?_drop]) (by rw [hdl];exact hL.1) (hL.2 w' hw')
  rwa [hdl] at this) _ _ _ { w with drawn:=w.drawn + 1 } hC H
 rw [htl,show m + (l.toArray.size - m) = l.toArray.size by omega] at this
 exact this
theorem round_below_tail {id:Nat} {Q:Exit→Act→World→Prop} {a:Act} {w:World} {l:List Oper} (m:Nat) (hm:P.follows .mixedOrders = true) (hB:Region.lexTailB .any l.toArray m = true) (hnd:noDefer l = true)
 (h:wpQuietIn F n P l.toArray (fun w' => ∃ p:Regrown,w' = Sort.grow (redrawn w p.d) p.os) (fun a' => ∀ w',(∃ p:Regrown,w' = Sort.grow (redrawn w p.d) p.os)→wpListIn F n P l.toArray Q (l.drop m) a' w') (l.take m) a):(Code.region id l.toArray true).wpIn F n P Q a w :=
 round_quiet_tail (C:=fun w' => ∃ p:Regrown,w' = Sort.grow (redrawn w p.d) p.os) m hm hB hnd ⟨⟨w.drawn + 1,#[]⟩,by rw [Sort.grow_empty];rfl⟩ h
end
end Go.Proofs.YtmennjmjakdkcaaGreat
