/- HerdParted 36: HdU, QTailIn, Home1. -/
import Derived.Test.YtmennjmjakdkcaaPd35
import Derived.Test.YtmennjmjakdkcaaPd34
import Derived.StillTail
import Derived.Test.YtmennjmjakdkcaaPd01
import Derived.Maps.Own
import Derived.Defers
namespace Go.Proofs.Ytmennjmjakdkcaa
open Go.RowKit Go.MapKept
set_option linter.unusedVariables false
set_option linter.unusedSimpArgs false
def askE (b : Hb) : Int:=if b.chk ≠ 0 then b.chk else if b.ends (-1) 0 = [] then 11 else 0
theorem askE_chk {b : Hb} (h : b.chk ≠ 0) : askE b = b.chk:=if_pos h
theorem askE_none {b : Hb} (h : b.chk = 0) (h' : b.ends (-1) 0 = []) : askE b = 11:=by unfold askE;rw [if_neg (by rw [h];simp),if_pos h']
theorem askE_ok {b : Hb} (h : b.chk = 0) (h' : b.ends (-1) 0 ≠ []) : askE b = 0:=by unfold askE;rw [if_neg (by rw [h];simp),if_neg h']
def hasTo (E : List (List Int)) (n k : Nat) : List (List Rn):=(List.range k).map fun f => (List.range n).map fun o => rangeE E fun h => hget h f o
theorem hasTo_succ (E : List (List Int)) (n k : Nat) : hasTo E n (k + 1) = hasTo E n k ++ [spansTo E (fun i x => hget x k i) n]:=by unfold hasTo;rw [List.range_succ,List.map_append];rfl
theorem hasTo_len (E : List (List Int)) (n k : Nat) : (hasTo E n k).length = k:=by simp [hasTo]
def hasR (b : Hb) : List (List Rn):=if askE b = 0 then hasL (b.ends (-1) 0) b.l.length b.ks.length else []
def HasR (b : Hb) (w : World) (e : Ending) (w' : World) : Prop:=(∃ v,e = .returned (.tuple #[v,.int .i64 (askE b)]) ∧ OwnT w' w.heap.size v (hasR b)) ∧ Below w.heap.size w w'
set_option maxRecDepth 100000 in
set_option maxHeartbeats 1000000 in
theorem Has_any (b : Hb) (w : World) (hin : HbIn w b) : Calls Try.prog 32 #[b.v] w (HasR b w):=by
 obtain ⟨V,hV⟩ : ∃ V,V = w.alloc b.obj:=⟨_,rfl⟩
 obtain ⟨g,hg⟩ : ∃ g,g = w.heap.size:=⟨_,rfl⟩
 have b0 : V.heap[g]? = some b.obj:=by rw [hV,hg];exact alloc_at rfl
 have hBV : Below w.heap.size w V:=by rw [hV];exact bal0 w _
 have hiV:=hin.below hBV (Nat.le_refl _)
 obtain ⟨c0,c1,c2,c3,c4⟩:=blk5c b0
 have hak:=asked_any b V hiV
 unfold Hb.v at hak
 have HV:=Lib.hid (And.intro hBV (And.intro b0 (And.intro hiV hg)))
 have hent : ∀ (args : Array Value) (w : World),(callFunc 82 args).run Try.prog w = .ok (.enter 82 args) w:=enters_of Try.func82 (by kernel_rfl) rfl
 have HENT:=Lib.hid hent
 unfold Hb.v
 go_enter Try.func32,Try.ntmps32
 go_upto_region 1 with (fail)
 rw [← hV,← hg]
 clear hV hg hin hBV hiV b0 hent
 obtain ⟨R,hR⟩ : ∃ R,R = AskedR b b.chk V:=⟨_,rfl⟩
 rw [← hR] at hak
 have HR:=Lib.hid hR
 clear hR
 go_upto_region 2 with (go_at_call 55;refine hak.mono ?_;rintro e w2 hRR;rw [HR.out] at hRR;unfold AskedR at hRR;rcases hRR with ⟨h0,rfl,hb2⟩ | ⟨h0,p,rfl,hWk,hb2⟩)
 ·have xf : (b.chk != 0) = true:=by simp [h0]
  go_wp2_with fail
  go_ret2
  unfold HasR hasR
  rw [askE_chk h0,if_neg h0]
  exact ⟨⟨_,rfl,OwnA.nil_⟩,HV.out.1.trans (hb2.mono HV.out.1.size)⟩
 have x0:=bheap HV.out.2.1 hb2 (Nat.le_refl _)
 have hok:=hWk.ok
 have hgp : g ≠ p:=by have:=hWk.hz;have:=heap_lt HV.out.2.1;omega
 clear c0 c1 c2 c3 c4 hak
 obtain ⟨c0,c1,c2,c3,c4⟩:=blk5c x0
 have hpl:=hWk.lt
 obtain ⟨n,hn⟩ : ∃ n,n = b.l.length:=⟨_,rfl⟩
 obtain ⟨nk,hnk⟩ : ∃ nk,nk = b.ks.length:=⟨_,rfl⟩
 rw [← hn] at c1
 rw [← hnk] at c2
 have hn0 : 0 < n ∧ n ≤ 5:=by rw [hn];exact ⟨hok.n0,hok.n5⟩
 have hk0 : 0 < nk ∧ nk ≤ 3:=by rw [hnk];exact ⟨hok.f0,hok.f3⟩
 have H2:=Lib.hid (And.intro hb2 (And.intro hWk (And.intro h0 (And.intro hn (And.intro hnk (And.intro hok (And.intro hgp x0)))))))
 clear hb2 hWk h0 hn hnk hok hgp x0
 go_wp2_with fail
 go_loopg [6,21] nk (fun g' v6 v21 wr => ∃ k : Nat,k + g' = nk ∧ v21 = .int .i64 k ∧ (0 < k → b.ends (-1) 0 ≠ []) ∧ OwnT wr w2.heap.size v6 (hasTo (b.ends (-1) 0) n k) ∧ NowIn p (b.bk (-1) 0) w2 wr)
 case atStart => exact ⟨0,by omega,rfl,fun h => absurd h (by omega),OwnA.nil_,H2.out.2.1.refl⟩
 case round =>
  obtain ⟨k,hk,rfl,hne,hown,hN⟩:=hrel
  by_cases hlt : k < nk
  ·have i1 : (k : Int) < (nk : Int):=by omega
   have i2 : (nk : Int) ≤ 3:=by omega
   obtain ⟨wi,hwi⟩ : ∃ wi,wi = wr.alloc (Obj.cells #[Value.int .i64 (k : Int)] 3):=⟨_,rfl⟩
   obtain ⟨gi,hgi⟩ : ∃ gi,gi = wr.heap.size:=⟨_,rfl⟩
   have hNi : NowIn p (b.bk (-1) 0) w2 wi:=by rw [hwi];exact hN.below hpl (bal0 wr _) hN.size
   have bii : wi.heap[gi]? = some (Obj.cells #[Value.int .i64 (k : Int)] 3 (0,0)):=by rw [hwi,hgi];exact alloc_at rfl
   have hgpi : gi ≠ p:=by have:=hN.lt;omega
   have howni : OwnT wi w2.heap.size u6 (hasTo (b.ends (-1) 0) n k):=by rw [hwi];exact OwnA.alloc hown _
   have hzi : w2.heap.size ≤ wi.heap.size:=hNi.size
   have xg:=hNi.blk H2.out.2.2.2.2.2.2.2 H2.out.2.2.2.2.2.2.1
   clear c0 c1 c2 c3 c4
   obtain ⟨c0,c1,c2,c3,c4⟩:=blk5c xg
   rw [← H2.out.2.2.2.1] at c1
   have hsp:=spans_any V p b (-1) 0 wi (H2.out.2.1.now hNi) n hn0.1 (by omega) 82 #[.pointer (some ⟨gi,0,none⟩)] (fun i x => hget x k i) HENT.out (fun x hx i hi W hNW =>
    hasF_any x k i gi W ((endsTo_bd H2.out.2.2.2.2.2.1.f3 H2.out.2.2.2.2.2.1.n5 H2.out.2.2.2.2.2.1.rb H2.out.2.2.2.2.2.1.dI _ x hx).1) (by omega) (by omega) (hNW.blk bii hgpi))
   have HI:=Lib.hid (And.intro hNi (And.intro bii (And.intro howni (And.intro hzi (And.intro hne hk)))))
   have HWI:=Lib.hid hwi
   have HGI:=Lib.hid hgi
   clear hNi bii hgpi howni hzi hne hk hown hN xg hwi hgi
   go_upto_region 8 with (fail)
   rw [← HWI.out,← HGI.out]
   go_upto_region 9 with (go_at_call 81;refine hsp.mono ?_;rintro e w3 ⟨⟨v,rfl,hov⟩,hN3⟩)
   have hN3':=HI.out.1.trans hN3
   have hb3 : Below w.heap.size w w3:=(HV.out.1.trans (H2.out.1.mono HV.out.1.size)).trans (hN3'.less (Nat.le_trans HV.out.1.size H2.out.2.1.hz) (Nat.le_trans HV.out.1.size H2.out.1.size))
   have hp2 : p < w2.heap.size:=hpl
   have hovw : OwnR w3 w2.heap.size v (spansR (b.ends (-1) 0) (fun i x => hget x k i) n):=hov.mono HI.out.2.2.2.1
   have hownw : OwnT w3 w2.heap.size u6 (hasTo (b.ends (-1) 0) n k):=HI.out.2.2.1.now hN3 hp2
   have H3:=Lib.hid (And.intro hN3' (And.intro hb3 (And.intro hovw hownw)))
   have hz3:=hN3'.size
   clear hN3 hN3' hb3 hov hovw hownw hsp
   by_cases hE : b.ends (-1) 0 = []
   ·have HE:=Lib.hid hE
    rw [spansE_pos hE]
    clear hE
    go_wp2_with fail
    go_ret2
    unfold HasR hasR
    rw [askE_none H2.out.2.2.1 HE.out,if_neg (by decide)]
    exact ⟨⟨_,rfl,OwnA.nil_⟩,H3.out.2.1⟩
   ·have HE:=Lib.hid hE
    rw [spansE_neg hE]
    clear hE
    have hll : (hasTo (b.ends (-1) 0) n k).length < 4294967296:=by rw [hasTo_len];omega
    have hov1:=H3.out.2.2.1
    unfold spansR at hov1
    rw [if_neg HE.out] at hov1
    obtain ⟨Av,cv,hve,-,-,-⟩:=hov1.form lenRn
    have HOV:=Lib.hid hov1
    clear hov1
    subst hve
    go_wp2_with (at_builtin;refine wp_app_rowA okRns (by decide) rfl (.tmp 37) (.tmp 39) rfl w2.heap.size _ _ (hasTo (b.ends (-1) 0) n k) _ rfl rfl H3.out.2.2.2 HOV.out hll hz3 ?_;intro v' w4 hown4 hb4 _;have H4:=Lib.hid (And.intro hown4 hb4);clear hown4 hb4)
    go_roundg (gk - 1)
    case measure => have:=HI.out.2.2.2.2.2;omega
    case rel => exact ⟨k + 1,by have:=HI.out.2.2.2.2.2;omega,by go_num,fun _ => HE.out,by rw [hasTo_succ];exact H4.out.1,H3.out.1.below hpl H4.out.2 (Nat.le_refl _)⟩
  ·obtain rfl : k = nk:=by omega
   have HF:=Lib.hid (And.intro (hne hk0.1) (And.intro hown hN))
   clear hne hown hN hk
   go_wp2_with fail
   go_ret2
   unfold HasR hasR
   rw [askE_ok H2.out.2.2.1 HF.out.1,if_pos rfl]
   refine ⟨⟨_,rfl,?_⟩,(HV.out.1.trans (H2.out.1.mono HV.out.1.size)).trans (HF.out.2.2.less (Nat.le_trans HV.out.1.size H2.out.2.1.hz) (Nat.le_trans HV.out.1.size H2.out.1.size))⟩
   have:=HF.out.2.1
   rw [H2.out.2.2.2.1,H2.out.2.2.2.2.1] at this
   exact OwnA.mono this (Nat.le_trans HV.out.1.size H2.out.1.size)
end Go.Proofs.Ytmennjmjakdkcaa
namespace Go.Proofs.Ytmennjmjakdkcaa
open Go.RowKit Go.Sort
set_option linter.unusedVariables false
section
variable {F : Fence} {n : Nat} {P : Program} {ops : Array Oper} {md : Region.Mode} {C : World → Prop}
def anyLQIn (F : Fence) (n : Nat) (P : Program) (md : Region.Mode) (ops : Array Oper) (C : World → Prop) (m : Nat) (L : Array Bool → Act → Prop) : Nat → Array Bool → Act → Prop
 | 0,listed,a => L listed a
 | f + 1,listed,a =>
   Region.ready md ops listed ≠ [] ∧ ∀ i ∈ Region.ready md ops listed,i < m ∧ qOpIn F n P ops C i (anyLQIn F n P md ops C m L f (listed.setIfInBounds i true)) a
theorem opIn_of_quiet (hnd : ∀ (i : Nat) o,ops[i]? = some o → ∀ c,o.op ≠ .defer c) {i : Nat} {a : Act} {K : Act → Prop} {K' : Act → World → Prop} {Q' : Exit → Act → World → Prop} {w : World} (hC : C w) (h : ∀ a w',C w' → K a → K' a w')
 (hh : qOpIn F n P ops C i K a) : wpOpIn F n P ops Q' i K' a w:=by
 unfold qOpIn at hh
 unfold wpOpIn
 cases ho : ops[i]? with
 | none => simp only [ho] at hh ⊢;exact h _ _ hC hh
 | some o =>
   simp only [ho] at hh ⊢
   obtain ⟨ha,hh⟩:=hh
   split
   ·rename_i hw
    simp only [hw,if_true] at hh
    exact quiet_wpIn (hnd i o ho) hC h ha hh
   ·rename_i hw
    simp only [hw] at hh
    exact ⟨ha w hC,h _ _ hC hh⟩
theorem anyIn_of_head (hnd : ∀ (i : Nat) o,ops[i]? = some o → ∀ c,o.op ≠ .defer c) {m g : Nat} {L : Array Bool → Act → Prop} {Q' : Exit → Act → World → Prop} (hL : ∀ listed a w,C w → L listed a → wpAnyIn F n P md ops Q' g listed a w) :
 ∀ (f : Nat) (listed : Array Bool) (a : Act) (w : World),C w → anyLQIn F n P md ops C m L f listed a → wpAnyIn F n P md ops Q' (f + g) listed a w
 | 0,listed,a,w,hw,h => by rw [Nat.zero_add];exact hL _ _ _ hw h
 | f + 1,listed,a,w,hw,h => by
   rw [show f + 1 + g = (f + g) + 1 by omega]
   exact ⟨fun h0 => absurd h0 h.1,fun i hi => opIn_of_quiet hnd hw (fun a' w' hw' h' => anyIn_of_head hnd hL f _ a' w' hw' h') (h.2 i hi).2⟩
theorem anyLQIn_first {m i : Nat} {oi : Oper} {v : Value} {L : Array Bool → Act → Prop} (hi : ops[i]? = some oi) (hsel : ∀ (j : Nat) (o : Oper) cs b,ops[j]? = some o → o.op ≠ .select cs b)
 (hs : Region.sinkB md ops m = true) (hc : Region.chainB md ops m = true) (hn : m < ops.size) (hin : i < m)
 (hdone : ∀ listed a,L listed a → ∀ j ∈ Region.ready md ops listed,m ≤ j) :
 ∀ (f : Nat) (listed : Array Bool) (a : Act),HeadInv md ops m listed →
  (∀ j oj,ops[j]? = some oj → j ≠ i → listed.getD j true = false → (∀ e ∈ oj.after,Region.binds md e = true → e.on ≠ i) → oi.apart ops oj = true) →
  i ∈ Region.ready md ops listed → YieldsQuiet F n P ops C oi v a →
  anyLQIn F n P md ops C m L f (listed.setIfInBounds i true) (a.put oi.dst v) → anyLQIn F n P md ops C m L (f + 1) listed a:=by
 intro f
 induction f with
 | zero =>
   intro listed a inv _ hr hy H
   have hun:=(mem_ready.1 hr).1
   refine ⟨fun h => (by rw [h] at hr;cases hr),fun j hj => ?_⟩
   have hjn : j < m:=by
    rcases Nat.lt_or_ge j m with h | h
    ·exact h
    ·exact absurd hj (tail_waits hs hc hn inv _ i rfl hin hun j h)
   refine ⟨hjn,?_⟩
   by_cases hji : j = i
   ·subst hji;exact hy.qOpIn hi H
   ·have:=hdone _ _ H j (ready_mono hj hji)
    omega
 | succ f ih =>
   intro listed a inv hfree hr hy H
   have hun:=(mem_ready.1 hr).1
   refine ⟨fun h => (by rw [h] at hr;cases hr),fun j hj => ?_⟩
   have hjn : j < m:=by
    rcases Nat.lt_or_ge j m with h | h
    ·exact h
    ·exact absurd hj (tail_waits hs hc hn inv _ i rfl hin hun j h)
   refine ⟨hjn,?_⟩
   by_cases hji : j = i
   ·subst hji;exact hy.qOpIn hi H
   ·have h1:=(H.2 j (ready_mono hj hji)).2
    obtain ⟨hjun,oj,hoj,hall⟩:=mem_ready.1 hj
    have hnot : ∀ e ∈ oj.after,Region.binds md e = true → e.on ≠ i:=fun e he hb heq => by
     have h1:=hall e he hb
     rw [heq,getD_both hun] at h1
     cases h1
    have h2:=qOpIn_put hoj (hfree j oj hoj hji hjun hnot) (fun cs b => hsel i oi cs b hi) (fun cs b => hsel j oj cs b hoj) hy h1
    have hfree' : ∀ k ok,ops[k]? = some ok → k ≠ i → (listed.setIfInBounds j true).getD k true = false →
     (∀ e ∈ ok.after,Region.binds md e = true → e.on ≠ i) → oi.apart ops ok = true:=fun k ok hk hki hun hno => by
     refine hfree k ok hk hki ?_ hno
     by_cases hjk : j = k
     ·subst hjk;exact hjun
     ·rw [getD_set_ne true hjk] at hun;exact hun
    refine qOpIn_mono (fun a' h3 => ih (listed.setIfInBounds j true) a' (inv.set hj hjn) hfree' (ready_mono hr (Ne.symm hji)) h3.1 ?_) h2
    rw [Array.setIfInBounds_comm _ _ hji]
    exact h3.2
theorem anyLQIn_lex {m g : Nat} {Lq : Act → Prop} (hsel : Region.noSelect ops = true) (hs : Region.sinkB md ops m = true) (hc : Region.chainB md ops m = true) (hn : m < ops.size) :
 ∀ (l : List Oper) (k : Nat) (listed : Array Bool) (a : Act),(∀ j,j < l.length → l[j]? = ops[k + j]?) → k + l.length = m → HeadInv md ops m listed →
 Region.lexHead md ops g l.length k listed = true → wpQuietIn F n P ops C Lq l a →
 anyLQIn F n P md ops C m (fun listed' a' => Region.seqB md ops g m listed' = true ∧ Lq a') l.length listed a
 | [],k,listed,a,_,hk,_,hB,h => by
   have : k = m:=by simpa using hk
   subst this
   exact ⟨by simpa [Region.lexHead] using hB,h⟩
 | o :: l,k,listed,a,hl,hk,inv,hB,h => by
   have h0 : ops[k]? = some o:=by simpa using (hl 0 (by simp)).symm
   simp only [List.length_cons,Region.lexHead,Bool.and_eq_true] at hB
   obtain ⟨⟨hr,hf⟩,hB'⟩:=hB
   have hkn : k < m:=by simp only [List.length_cons] at hk;omega
   have hr' : k ∈ Region.ready md ops listed:=by simpa using hr
   have hst : qOpIn F n P ops C k (wpQuietIn F n P ops C Lq l) a:=by unfold qOpIn;simp only [h0];exact h
   obtain ⟨v,hy,hK⟩:=yieldsQuiet_of_qOpIn h0 hst
   exact anyLQIn_first h0 (Region.noSelect_spec hsel) hs hc hn hkn (fun listed' a' hL => seqB_ready hL.1) l.length listed a inv (Region.free_spec h0 hf) hr' hy
    (anyLQIn_lex hsel hs hc hn l (k + 1) _ _ (fun j hj => by have:=hl (j + 1) (by simp;omega);simpa [Nat.add_assoc,Nat.add_comm 1 j] using this) (by simp only [List.length_cons] at hk;omega) (inv.set hr' hkn) hB' hK)
theorem anyIn_of_seq {Q' : Exit → Act → World → Prop} : ∀ (l : List Oper) (k : Nat) (listed : Array Bool) (a : Act) (w : World),(∀ j,l[j]? = ops[k + j]?) →
 Region.seqB md ops l.length k listed = true → wpListIn F n P ops Q' l a w → wpAnyIn F n P md ops Q' l.length listed a w
 | [],_,_,_,_,_,hB,h => ⟨by simpa [Region.seqB] using hB,h⟩
 | o :: l,k,listed,a,w,hl,hB,h => by
   have h0 : ops[k]? = some o:=by simpa using (hl 0).symm
   simp only [List.length_cons,Region.seqB,Bool.and_eq_true,decide_eq_true_eq] at hB
   refine ⟨fun h1 => (by rw [hB.1] at h1;cases h1),fun i hi => ?_⟩
   rw [hB.1] at hi
   have hik : i = k:=by simpa using hi
   subst hik
   have hw : wpOpIn F n P ops Q' i (wpListIn F n P ops Q' l) a w:=by unfold wpOpIn;simp only [h0];exact h
   exact wpOpIn_mono (fun a' w' h' => anyIn_of_seq l (i + 1) _ a' w' (fun j => by have:=hl (j + 1);simpa [Nat.add_assoc,Nat.add_comm 1 j] using this) hB.2 h') hw
theorem round_quiet_tail {id : Nat} {Q : Exit → Act → World → Prop} {a : Act} {w : World} {l : List Oper} (m : Nat) (hm : P.follows .mixedOrders = true) (hB : Region.lexTailB .any l.toArray m = true) (hnd : noDefer l = true)
 (hC : C { w with drawn:=w.drawn + 1 })
 (h : wpQuietIn F n P l.toArray C (fun a' => ∀ w',C w' → wpListIn F n P l.toArray Q (l.drop m) a' w') (l.take m) a) : (Code.region id l.toArray true).wpIn F n P Q a w:=by
 simp only [Region.lexTailB,Bool.and_eq_true,decide_eq_true_eq] at hB
 obtain ⟨⟨⟨⟨hsel,hn⟩,hs⟩,hc⟩,hlex⟩:=hB
 have hn' : m < l.length:=by simpa using hn
 have htl : (l.take m).length = m:=by simp;omega
 have hdl : (l.drop m).length = l.toArray.size - m:=by simp
 have hd : ∀ (i : Nat) o,l.toArray[i]? = some o → ∀ c,o.op ≠ .defer c:=by
  intro i o ho c hc
  have hmem : o ∈ l:=by
   rw [List.getElem?_toArray] at ho
   exact List.mem_of_getElem? ho
  have:=List.all_eq_true.1 hnd o hmem
  rw [hc] at this
  cases this
 have inv0 : HeadInv .any l.toArray m (Array.replicate l.toArray.size false) :=
  ⟨by simp,fun j oj _ hl => (by rw [getD_replicate_false] at hl;cases hl),fun t _ ht => getD_in (by simpa using ht) (getD_replicate_false _ _)⟩
 have H:=anyLQIn_lex (C:=C) (F:=F) (n:=n) (P:=P) (md:=.any) (g:=l.toArray.size - m) hsel hs hc hn (l.take m) 0 _ a (fun j hj => by
  have hj' : j < m:=by rw [htl] at hj;exact hj
  simp [hj']) (by simpa using htl) inv0 (by rw [htl];exact hlex) h
 refine wpIn_region_any hm ?_
 have:=anyIn_of_head (Q':=Q) (g:=l.toArray.size - m) hd (fun listed a' w' hw' hL => by
  have:=anyIn_of_seq (md:=.any) (Q':=Q) (l.drop m) m listed a' w' (fun j => by simp [List.getElem?_drop]) (by rw [hdl];exact hL.1) (hL.2 w' hw')
  rwa [hdl] at this) _ _ _ { w with drawn:=w.drawn + 1 } hC H
 rw [htl,show m + (l.toArray.size - m) = l.toArray.size by omega] at this
 exact this
theorem round_below_tail {id : Nat} {Q : Exit → Act → World → Prop} {a : Act} {w : World} {l : List Oper} (m : Nat) (hm : P.follows .mixedOrders = true) (hB : Region.lexTailB .any l.toArray m = true) (hnd : noDefer l = true)
 (h : wpQuietIn F n P l.toArray (fun w' => ∃ p : Regrown,w' = Sort.grow (redrawn w p.d) p.os) (fun a' => ∀ w',(∃ p : Regrown,w' = Sort.grow (redrawn w p.d) p.os) → wpListIn F n P l.toArray Q (l.drop m) a' w') (l.take m) a) : (Code.region id l.toArray true).wpIn F n P Q a w :=
 round_quiet_tail (C:=fun w' => ∃ p : Regrown,w' = Sort.grow (redrawn w p.d) p.os) m hm hB hnd ⟨⟨w.drawn + 1,#[]⟩,by rw [Sort.grow_empty];rfl⟩ h
end
end Go.Proofs.Ytmennjmjakdkcaa
namespace Go.Proofs.Ytmennjmjakdkcaa
open Go.RowKit
set_option linter.unusedVariables false
set_option linter.unusedSimpArgs false
structure Cn where
 a : Int
 b : Int
 c : Int
 d : Int
 e : Int
 s : Int
 deriving DecidableEq
def kv (k : Cn) : Value:=.agg #[.int .i64 k.a,.int .i64 k.b,.int .i64 k.c,.int .i64 k.d,.int .i64 k.e,.int .i64 k.s]
def Cn.cs (k : Cn) : Array Value:=#[.int .i64 k.a,.int .i64 k.b,.int .i64 k.c,.int .i64 k.d,.int .i64 k.e,.int .i64 k.s]
theorem info_int : (Try.prog.info? 3).map (fun i => i.size) = some 1:=by kernel_rfl
theorem run_size_int (w : World) : (sizeOf 3).run Try.prog w = .ok 1 w:=by
 have h:=info_int
 cases hi : Try.prog.info? 3 with
 | none => rw [hi] at h;cases h
 | some i => rw [hi] at h;simp at h;simp [sizeOf,typeInfo,hi,h]
theorem run_part_int (cs : Array Value) (off : Nat) (v : Value) (h : cs[off]? = some v) (w : World) : (part 3 cs off).run Try.prog w = .ok v w:=by
 have hi:=run_underlying (P:=Try.prog) (w:=w) Try.underlying3
 simp [part,isAgg,hi,h]
theorem run_eqInt (d : Nat) (a b : Int) (w : World) : (Op.equalIn (d + 1) 3 (.int .i64 a) (.int .i64 b)).run Try.prog w = .ok (a == b) w:=by
 have hi:=run_underlying (P:=Try.prog) (w:=w) Try.underlying3
 simp [Op.equalIn,hi]
theorem run_equalIn6 (d : Nat) (x y : Cn) (w : World) : (Op.equalIn (d + 2) 157 (kv x) (kv y)).run Try.prog w = .ok (decide (x = y)) w:=by
 have h:=run_underlying (P:=Try.prog) (w:=w) Try.underlying157
 unfold Op.equalIn kv
 simp only [Sem.run_bind,h,Result.andThen_ok,run_size_int]
 have hp : ∀ i (v : Value),x.cs[i]? = some v → ∀ w,(part 3 #[.int .i64 x.a,.int .i64 x.b,.int .i64 x.c,.int .i64 x.d,.int .i64 x.e,.int .i64 x.s] i).run Try.prog w = .ok v w:=fun i v h w => run_part_int _ _ _ h w
 have hq : ∀ i (v : Value),y.cs[i]? = some v → ∀ w,(part 3 #[.int .i64 y.a,.int .i64 y.b,.int .i64 y.c,.int .i64 y.d,.int .i64 y.e,.int .i64 y.s] i).run Try.prog w = .ok v w:=fun i v h w => run_part_int _ _ _ h w
 have p0:=hp 0 (.int .i64 x.a) rfl
 have p1:=hp 1 (.int .i64 x.b) rfl
 have p2:=hp 2 (.int .i64 x.c) rfl
 have p3:=hp 3 (.int .i64 x.d) rfl
 have p4:=hp 4 (.int .i64 x.e) rfl
 have p5:=hp 5 (.int .i64 x.s) rfl
 have q0:=hq 0 (.int .i64 y.a) rfl
 have q1:=hq 1 (.int .i64 y.b) rfl
 have q2:=hq 2 (.int .i64 y.c) rfl
 have q3:=hq 3 (.int .i64 y.d) rfl
 have q4:=hq 4 (.int .i64 y.e) rfl
 have q5:=hq 5 (.int .i64 y.s) rfl
 clear hp hq
 have hr : List.range' 0 6 = [0,1,2,3,4,5]:=rfl
 have hd : decide (x = y) = (x.a == y.a && (x.b == y.b && (x.c == y.c && (x.d == y.d && (x.e == y.e && x.s == y.s))))):=by
  obtain ⟨a0,a1,a2,a3,a4,a5⟩:=x
  obtain ⟨b0,b1,b2,b3,b4,b5⟩:=y
  rw [Bool.eq_iff_iff]
  simp only [decide_eq_true_eq,Cn.mk.injEq,Bool.and_eq_true,beq_iff_eq]
 rw [hd]
 cases e0 : (x.a == y.a)
 ·simp [hr,p0,q0,run_eqInt,e0]
 ·cases e1 : (x.b == y.b)
  ·simp [hr,p0,q0,p1,q1,run_eqInt,e0,e1]
  ·cases e2 : (x.c == y.c)
   ·simp [hr,p0,q0,p1,q1,p2,q2,run_eqInt,e0,e1,e2]
   ·cases e3 : (x.d == y.d)
    ·simp [hr,p0,q0,p1,q1,p2,q2,p3,q3,run_eqInt,e0,e1,e2,e3]
    ·cases e4 : (x.e == y.e)
     ·simp [hr,p0,q0,p1,q1,p2,q2,p3,q3,p4,q4,run_eqInt,e0,e1,e2,e3,e4]
     ·cases e5 : (x.s == y.s)
      ·simp [hr,p0,q0,p1,q1,p2,q2,p3,q3,p4,q4,p5,q5,run_eqInt,e0,e1,e2,e3,e4,e5]
      ·simp [hr,p0,q0,p1,q1,p2,q2,p3,q3,p4,q4,p5,q5,run_eqInt,e0,e1,e2,e3,e4,e5]
theorem run_equal6 (x y : Cn) (w : World) : (Op.equal 157 (kv x) (kv y)).run Try.prog w = .ok (decide (x = y)) w:=run_equalIn6 9998 x y w
theorem run_checkInt (b : Bool) (d : Nat) (a : Int) (w : World) : (Instr.checkKey b (d + 1) 3 (.int .i64 a)).run Try.prog w = .ok () w:=by
 have hi:=run_underlying (P:=Try.prog) (w:=w) Try.underlying3
 simp [Instr.checkKey,hi]
theorem run_checkIn6 (b : Bool) (d : Nat) (x : Cn) (w : World) : (Instr.checkKey b (d + 2) 157 (kv x)).run Try.prog w = .ok () w:=by
 have h:=run_underlying (P:=Try.prog) (w:=w) Try.underlying157
 unfold Instr.checkKey kv
 simp only [Sem.run_bind,h,Result.andThen_ok,run_size_int]
 have hp : ∀ i (v : Value),x.cs[i]? = some v → ∀ w,(part 3 #[.int .i64 x.a,.int .i64 x.b,.int .i64 x.c,.int .i64 x.d,.int .i64 x.e,.int .i64 x.s] i).run Try.prog w = .ok v w:=fun i v h w => run_part_int _ _ _ h w
 have p0:=hp 0 (.int .i64 x.a) rfl
 have p1:=hp 1 (.int .i64 x.b) rfl
 have p2:=hp 2 (.int .i64 x.c) rfl
 have p3:=hp 3 (.int .i64 x.d) rfl
 have p4:=hp 4 (.int .i64 x.e) rfl
 have p5:=hp 5 (.int .i64 x.s) rfl
 have hr : List.range' 0 6 = [0,1,2,3,4,5]:=rfl
 have hs:=run_size_int
 simp [hr,hs,p0,p1,p2,p3,p4,p5,run_checkInt]
theorem run_check6 (b : Bool) (x : Cn) (w : World) : (Instr.checkKey b 10000 157 (kv x)).run Try.prog w = .ok () w:=run_checkIn6 b 9998 x w
def MetAt (w : World) (M : Nat) (K : List Cn) : Prop :=
 ∃ es clock,w.heap[M]? = some (.map es clock) ∧ es.toList.map (fun e => (e.key,e.val)) = K.map (fun k => (kv k,Value.bool true))
theorem run_findAsking (x : Cn) (w : World) : ∀ (es : List MapEntry) (K : List Cn) (i : Nat),es.map (fun e => (e.key,e.val)) = K.map (fun k => (kv k,Value.bool true)) →
 ∃ r,(Instr.findAsking 157 (kv x) es i).run Try.prog w = .ok r w ∧ ((x ∈ K ∧ ∃ j e,es[j]? = some e ∧ e.key = kv x ∧ r = some (i + j,.bool true)) ∨ (x ∉ K ∧ r = none))
 | [],K,i,h => by
   have hK : K = []:=by cases K with
    | nil => rfl
    | cons a b => simp at h
   subst hK
   exact ⟨none,by simp [Instr.findAsking],.inr ⟨by simp,rfl⟩⟩
 | e :: es,K,i,h => by
   cases K with
   | nil => simp at h
   | cons k K =>
     simp only [List.map_cons,List.cons.injEq,Prod.mk.injEq] at h
     obtain ⟨⟨hk,hv⟩,hr⟩:=h
     by_cases hx : x = k
     ·subst hx
      refine ⟨some (i,.bool true),by simp [Instr.findAsking,hk,run_equal6,hv],.inl ⟨by simp,0,e,rfl,hk,rfl⟩⟩
     ·obtain ⟨r,hrun,hcase⟩:=run_findAsking x w es K (i + 1) hr
      refine ⟨r,by simp [Instr.findAsking,hk,run_equal6,hx,hrun],?_⟩
      rcases hcase with ⟨hin,j,e',he',hke,hre⟩ | ⟨hout,hre⟩
      ·exact .inl ⟨by simp [hin],j + 1,e',by simpa using he',hke,by rw [hre,Nat.add_assoc,Nat.add_comm 1 j]⟩
      ·exact .inr ⟨by simp [hx,hout],hre⟩
theorem run_findKey (x : Cn) (w : World) (es : List MapEntry) (K : List Cn) (h : es.map (fun e => (e.key,e.val)) = K.map (fun k => (kv k,Value.bool true))) :
 ∃ r,(Instr.findKey 157 (kv x) es).run Try.prog w = .ok r w ∧ ((x ∈ K ∧ ∃ j e,es[j]? = some e ∧ e.key = kv x ∧ r = some (j,.bool true)) ∨ (x ∉ K ∧ r = none)):=by
 have hu:=run_underlying (P:=Try.prog) (w:=w) Try.underlying157
 cases es with
 | nil =>
   obtain ⟨r,h1,h2⟩:=run_findAsking x w [] K 0 h
   refine ⟨r,?_,by simpa using h2⟩
   simp [Instr.findKey,hu,Instr.findNow]
   simpa [Instr.findAsking] using h1
 | cons e es =>
   obtain ⟨r,h1,h2⟩:=run_findAsking x w (e :: es) K 0 h
   refine ⟨r,?_,by simpa using h2⟩
   have hk : e.key = kv (K.headD ⟨0,0,0,0,0,0⟩):=by
    cases K with
    | nil => simp at h
    | cons k K => simp only [List.map_cons,List.cons.injEq,Prod.mk.injEq] at h;exact h.1.1
   simp [Instr.findKey,hu,Instr.findNow,Instr.sameNow,h1]
theorem run_look6 (x : Cn) (w : World) (M : Nat) (K : List Cn) (h : MetAt w M K) : (Instr.lookup 158 (.map (some M)) (kv x) false).run Try.prog w = .ok (.bool (decide (x ∈ K))) w:=by
 obtain ⟨es,clock,hh,hes⟩:=h
 obtain ⟨r,hr,hc⟩:=run_findKey x w es.toList K hes
 have hu:=run_underlying (P:=Try.prog) (w:=w) Try.underlying158
 have hz : (zeroValue 4).run Try.prog w = .ok (.bool false) w:=by kernel_rfl
 have hg : (getObj M).run Try.prog w = .ok (.map es clock) w:=by simp [getObj,Sem.run,hh]
 rcases hc with ⟨hin,j,e,he,hke,rfl⟩ | ⟨hout,rfl⟩
 ·simp [Instr.lookup,hu,hg,run_check6,hr,hin]
 ·simp [Instr.lookup,hu,hg,run_check6,hr,hout,hz]
theorem sameBits_kv (x : Cn) : Instr.sameBits 10000 (kv x) (kv x) = true:=by
 simp [kv,Instr.sameBits]
theorem run_put6 (x : Cn) (w : World) (M : Nat) (K : List Cn) (h : MetAt w M K) :
 ∃ ob,(Instr.mapUpdate 158 (.map (some M)) (kv x) (.bool true)).run Try.prog w = .ok () { w with heap:=w.heap.setIfInBounds M ob } ∧ M < w.heap.size
  ∧ ∃ K',(∀ w' : World,w'.heap[M]? = some ob → MetAt w' M K') ∧ ∀ k,k ∈ K' ↔ k ∈ K ∨ k = x:=by
 obtain ⟨es,clock,hh,hes⟩:=h
 obtain ⟨r,hr,hc⟩:=run_findKey x w es.toList K hes
 have hu:=run_underlying (P:=Try.prog) (w:=w) Try.underlying158
 have hg : (getObj M).run Try.prog w = .ok (.map es clock) w:=by simp [getObj,Sem.run,hh]
 have hs : ∀ o,(setObj M o).run Try.prog w = .ok () { w with heap:=w.heap.setIfInBounds M o }:=fun o => by simp [setObj,Sem.run,hh]
 have hlt : M < w.heap.size:=(Array.getElem?_eq_some_iff.1 hh).1
 rcases hc with ⟨hin,j,e,he,hke,rfl⟩ | ⟨hout,rfl⟩
 ·have hj : es[j]? = some e:=by simpa using he
  refine ⟨.map (es.modify j fun e => { e with key:=kv x,val:=.bool true }) clock,?_,hlt,K,?_,fun k => ⟨.inl,fun h => h.elim id (fun h => h ▸ hin)⟩⟩
  ·simp [Instr.mapUpdate,hu,hg,run_check6,hr,hj,hke,Instr.keyThatStays,sameBits_kv,hs]
  ·intro w' hw'
   refine ⟨_,_,hw',?_⟩
   rw [← hes]
   apply List.ext_getElem?
   intro i
   simp only [List.getElem?_map,Array.getElem?_toList,Array.getElem?_modify]
   by_cases hij : j = i
   ·subst hij
    have hv : e.val = .bool true:=by
     have h2:=congrArg (fun l => l[j]?) hes
     simp only [List.getElem?_map,Array.getElem?_toList,hj,Option.map_some] at h2
     cases hk : K[j]? with
     | none => simp [hk] at h2
     | some k => simp only [hk,Option.map_some,Option.some.injEq,Prod.mk.injEq] at h2;exact h2.2
    simp [hj,hke,hv]
   ·simp [hij]
 ·refine ⟨.map (es.push { key:=kv x,val:=.bool true,born:=clock }) (clock + 1),?_,hlt,K ++ [x],?_,fun k => by simp⟩
  ·simp [Instr.mapUpdate,hu,hg,run_check6,hr,hs]
  ·intro w' hw'
   refine ⟨_,_,hw',?_⟩
   simp [hes]
theorem wp_put6 {w : World} {ops : Array Oper} {rest : List Oper} {o : Oper} {a : Act} {Q : Exit → Act → World → Prop}
 (hg : o.guard = none) (m x v : Operand) (hop : o.op = Op.mapUpdate 158 m x v) (M : Nat) (K : List Cn) (k : Cn)
 (hm : a.eval m = .map (some M)) (hx : a.eval x = kv k) (hv : a.eval v = .bool true) (h : MetAt w M K)
 (hK : ∀ ob K',M < w.heap.size → (∀ w' : World,w'.heap[M]? = some ob → MetAt w' M K') → (∀ q,q ∈ K' ↔ q ∈ K ∨ q = k) → wpList Try.prog ops Q rest (a.put o.dst undef) { w with heap:=w.heap.setIfInBounds M ob }) :
 wpList Try.prog ops Q (o :: rest) a w:=by
 refine wpList_plain hg fun K' hK' => ?_
 obtain ⟨ob,hrun,hlt,K2,h1,h2⟩:=run_put6 k w M K h
 unfold Oper.wp
 simp [execOp,hop,hm,hx,hv,hrun,Result.andThen]
 exact hK' _ _ (hK ob K2 hlt h1 h2)
theorem met_empty {w : World} {M clock : Nat} (h : w.heap[M]? = some (.map #[] clock)) : MetAt w M []:=⟨_,_,h,rfl⟩
theorem MetAt.keep {w w' : World} {M : Nat} {K : List Cn} (h : MetAt w M K) (e : w'.heap[M]? = w.heap[M]?) : MetAt w' M K:=by
 obtain ⟨es,c,h1,h2⟩:=h
 exact ⟨es,c,by rw [e];exact h1,h2⟩
end Go.Proofs.Ytmennjmjakdkcaa
namespace Go.Proofs.Ytmennjmjakdkcaa
open Go.RowKit
set_option linter.unusedVariables false
set_option linter.unusedSimpArgs false
def Cn.at (c : Cn) : Nat → Int
 | 0 => c.a
 | 1 => c.b
 | 2 => c.c
 | 3 => c.d
 | 4 => c.e
 | _ => c.s
def Cn.add (c : Cn) (k : Int) : Nat → Cn
 | 0 => { c with a:=c.a + k }
 | 1 => { c with b:=c.b + k }
 | 2 => { c with c:=c.c + k }
 | 3 => { c with d:=c.d + k }
 | 4 => { c with e:=c.e + k }
 | _ => { c with s:=c.s + k }
def Cn.up (c : Cn) (i : Nat) : Cn:=(c.add 1 i).add 1 5
def Cn.skip (c : Cn) : Cn:=c.add 1 5
theorem Cn.at_cs (c : Cn) {i : Nat} (h : i < 6) : c.cs[i]? = some (.int .i64 (c.at i)):=by
 match i,h with
 | 0,_ => rfl
 | 1,_ => rfl
 | 2,_ => rfl
 | 3,_ => rfl
 | 4,_ => rfl
 | 5,_ => rfl
def Now (w : World) (B : Nat) (c : Cn) : Prop:=w.heap[B]? = some (.cells c.cs 157 (0,0))
theorem Now.cell {w : World} {B : Nat} {c : Cn} (h : Now w B c) {i : Nat} (hi : i < 6) : w.cell? ⟨B,i,none⟩ = some (.int .i64 (c.at i)):=by
 unfold Now at h
 simp [World.cell?,h,c.at_cs hi]
theorem Now.free {w : World} {B : Nat} {c : Cn} (h : Now w B c) (i : Nat) : w.frozen? ⟨B,i,none⟩ = false:=by
 unfold Now at h
 simp [World.frozen?,h]
theorem Now.set {w : World} {B : Nat} {c : Cn} (h : Now w B c) {i : Nat} (hi : i < 6) (k x : Int) (hx : x = c.at i + k) : Now (w.setCell ⟨B,i,none⟩ (.int .i64 x)) B (c.add k i):=by
 unfold Now at *
 subst hx
 match i,hi with
 | 0,_ => simp [World.setCell,Array.getElem?_modify,h,Cn.cs,Cn.add,Cn.at]
 | 1,_ => simp [World.setCell,Array.getElem?_modify,h,Cn.cs,Cn.add,Cn.at]
 | 2,_ => simp [World.setCell,Array.getElem?_modify,h,Cn.cs,Cn.add,Cn.at]
 | 3,_ => simp [World.setCell,Array.getElem?_modify,h,Cn.cs,Cn.add,Cn.at]
 | 4,_ => simp [World.setCell,Array.getElem?_modify,h,Cn.cs,Cn.add,Cn.at]
 | 5,_ => simp [World.setCell,Array.getElem?_modify,h,Cn.cs,Cn.add,Cn.at]
theorem Now.keep {w w' : World} {B : Nat} {c : Cn} (h : Now w B c) (e : w'.heap[B]? = w.heap[B]?) : Now w' B c:=by unfold Now at *;rw [e];exact h
theorem undo_any (w : World) (u : FrameMode) (Bd Bn Bw Bo Bs : Nat) (done : Bool) (c : Cn) (o st : Nat) (A : Addr) (n cap : Nat)
 (hd : w.cell? ⟨Bd,0,none⟩ = some (.bool done)) (hn : Now w Bn c) (hw : w.cell? ⟨Bw,0,none⟩ = some (.int .i64 o)) (hb : w.cell? ⟨Bo,0,none⟩ = some (.slice (some A) n cap)) (hs : w.cell? ⟨Bs,0,none⟩ = some (.int .i64 st))
 (fo : w.frozen? ⟨Bo,0,none⟩ = false) (ho : o < 5) (hcap : st < cap) (hcm : cap ≤ maxLen) (n1 : Bw ≠ Bn) (n2 : Bo ≠ Bn) (n3 : Bs ≠ Bn)
 (b1 : -9223372036854775807 ≤ c.at o) (b2 : c.at o ≤ 9223372036854775807) (b3 : -9223372036854775807 ≤ c.at 5) (b4 : c.at 5 ≤ 9223372036854775807) :
 CallsD Try.prog 99 #[.pointer (some ⟨Bd,0,none⟩),.pointer (some ⟨Bn,0,none⟩),.pointer (some ⟨Bw,0,none⟩),.pointer (some ⟨Bo,0,none⟩),.pointer (some ⟨Bs,0,none⟩)] u w fun e u' w' => u' = u ∧ e = .returned (.tuple #[]) ∧
  w' = if done then w else ((w.setCell ⟨Bn,o,none⟩ (.int .i64 (c.at o - 1))).setCell ⟨Bn,5,none⟩ (.int .i64 (c.at 5 - 1))).setCell ⟨Bo,0,none⟩ (.slice (some A) st cap):=by
 have f0:=hn.free o
 have f5:=hn.free 5
 have c0:=hn.cell (i:=o) (by omega)
 have c5:=hn.cell (i:=5) (by omega)
 have hm : maxLen = 9223372036854775807:=rfl
 generalize c.at o = x at *
 generalize c.at 5 = y at *
 obtain rfl | rfl | rfl | rfl | rfl : o = 0 ∨ o = 1 ∨ o = 2 ∨ o = 3 ∨ o = 4:=by omega
 all_goals
  cases done
  ·go_enter_d Try.func99,Try.ntmps99
   go_wp2
   go_end0
   first | rfl | exact ⟨rfl,rfl⟩ | exact ⟨rfl,rfl,rfl⟩
  ·go_enter_d Try.func99,Try.ntmps99
   go_wp2
   go_end0
   first | rfl | exact ⟨rfl,rfl⟩ | exact ⟨rfl,rfl,rfl⟩
end Go.Proofs.Ytmennjmjakdkcaa
namespace Go.Proofs.Ytmennjmjakdkcaa
open Go.RowKit
set_option linter.unusedVariables false
set_option linter.unusedSimpArgs false
structure Srch where
 b : Nat
 L : Nat
 may : List (List Int)
 mis : List Int
 left : Nat
 lf : Nat → Int → Bool
def Srch.rest (S : Srch) : Nat → Cn → Option (List Int)
 | 0,_ => some []
 | n + 1,c =>
   if S.left.testBit (S.L - (n + 1)) then (S.rest n c.skip).map (fun r => (-1 : Int) :: r)
   else (S.may.getD (S.L - (n + 1)) []).findSome? fun o => if c.at o.toNat < S.mis.getD o.toNat 0 && S.lf (S.L - (n + 1)) o then (S.rest n (c.up o.toNat)).map (fun r => o :: r) else none
def Srch.giveCaps (S : Srch) : Array Value:=#[.pointer (some ⟨S.b + 3,0,none⟩),.pointer (some ⟨S.b + 7,0,none⟩),.pointer (some ⟨S.b + 8,0,none⟩)]
def Srch.growCaps (S : Srch) : Array Value:=#[.pointer (some ⟨S.b + 3,0,none⟩),.pointer (some ⟨S.b,0,none⟩),.pointer (some ⟨S.b + 5,0,none⟩),.pointer (some ⟨S.b + 1,0,none⟩),.pointer (some ⟨S.b + 7,0,none⟩),.pointer (some ⟨S.b + 8,0,none⟩),.pointer (some ⟨S.b + 2,0,none⟩),.pointer (some ⟨S.b + 9,0,none⟩)]
theorem far_put {W : World} {k g i : Nat} {o : Obj} {x : Value} (h : W.heap[k]? = some o) (hne : k ≠ g) : (W.setCell ⟨g,i,none⟩ x).heap[k]? = some o:=(Below.heap_setCell W ⟨g,i,none⟩ x k hne).trans h
theorem owns_at {w w' : World} {b : Nat} {e : TypeId} {sz g cap n : Nat} {xs : List Value} (h : w.ownsRow b e sz (.slice (some ⟨g,0,none⟩) n cap) n xs) (k : w'.heap[g]? = w.heap[g]?) :
 w'.ownsRow b e sz (.slice (some ⟨g,0,none⟩) n cap) n xs:=by
 refine ⟨h.1,?_⟩
 rcases h.2 with ⟨hv,_⟩ | ⟨g',cap',cur,hv,h1,h2,h3⟩
 ·cases hv
 ·cases hv
  exact .inr ⟨_,_,_,rfl,h1,k.trans h2,h3⟩
structure Env (S : Srch) (xs : Array Value) (lt : Value) (w : World) : Prop where
 x : w.heap[S.b]? = some (.cells xs 116 (0,0))
 l : w.heap[S.b + 1]? = some (.cells #[.int .u64 S.left] 121 (0,0))
 t : w.heap[S.b + 2]? = some (.cells #[lt] 122 (0,0))
 m : w.heap[S.b + 5]? = some (.cells #[.map (some (S.b + 4))] 158 (0,0))
 v : w.heap[S.b + 8]? = some (.cells #[.func (.func 100) #[] S.growCaps] 50 (0,0))
 g : w.heap[S.b + 9]? = some (.cells #[.func (.func 98) #[] S.giveCaps] 122 (0,0))
structure St (S : Srch) (w : World) (c : Cn) (o : List Int) (K : List Cn) : Prop where
 now : Now w (S.b + 3) c
 out : w.heap[S.b + 7]? = some (.cells #[.slice (some ⟨S.b + 6,0,none⟩) o.length S.L] 22 (0,0))
 buf : w.ownsRow S.b 3 1 (.slice (some ⟨S.b + 6,0,none⟩) o.length S.L) o.length (o.flatMap eInt)
 met : MetAt w (S.b + 4) K
 len : c.s = o.length
 ok : ∀ i,i < 5 → 0 ≤ c.at i ∧ c.at i ≤ c.s
structure Fr (b : Nat) (w w' : World) : Prop where
 below : Below b w w'
 rest : ∀ j,j < w.heap.size → j ≠ b + 3 → j ≠ b + 4 → j ≠ b + 6 → j ≠ b + 7 → w'.heap[j]? = w.heap[j]?
section
variable {b : Nat} {w w' w'' : World}
theorem Fr.refl (b : Nat) (w : World) : Fr b w w:=⟨Below.refl _ _,fun _ _ _ _ _ _ => rfl⟩
theorem Fr.trans (h : Fr b w w') (k : Fr b w' w'') : Fr b w w'' :=
 ⟨h.below.trans k.below,fun j hj a c d e => (k.rest j (Nat.lt_of_lt_of_le hj h.below.size) a c d e).trans (h.rest j hj a c d e)⟩
theorem Fr.of_below {B : Nat} (h : Below B w w') (hB : w.heap.size ≤ B) (hb : b ≤ w.heap.size) : Fr b w w':=⟨h.mono (Nat.le_trans hb hB),fun j hj _ _ _ _ => h.block j (Nat.lt_of_lt_of_le hj hB)⟩
theorem Fr.alloc (h : Fr b w w') (hb : b ≤ w.heap.size) (o : Obj) : Fr b w (w'.alloc o) :=
 h.trans (Fr.of_below ((Below.refl w'.heap.size w').alloc (Nat.le_refl _) o) (Nat.le_refl _) (Nat.le_trans hb h.below.size))
theorem Fr.set (h : Fr b w w') (hb : b ≤ w.heap.size) (a : Addr) (v : Value) (ha : a.block = b + 3 ∨ a.block = b + 7 ∨ w.heap.size ≤ a.block) : Fr b w (w'.setCell a v) :=
 ⟨h.below.setCell (by omega) v,fun j hj h3 h4 h6 h7 => (Below.heap_setCell w' a v j (by omega)).trans (h.rest j hj h3 h4 h6 h7)⟩
theorem Fr.drew (h : Fr b w w') (k : Nat) : Fr b w (w'.drewN k):=⟨below_drewN h.below k,h.rest⟩
theorem Fr.grown (h : Fr b w w') (hb : b + 6 < w.heap.size) (hg : w'.grownBy w'' (some (b + 6))) : Fr b w w'' :=
 h.trans ⟨(Below.refl _ _).grown hg (by have:=h.below.size;omega) (fun k hk => by cases hk;omega),fun j hj _ _ h6 _ => hg.block j hj (fun e => h6 (by cases e;rfl))⟩
theorem Fr.put (h : Fr b w w') (hb : b ≤ w.heap.size) (ob : Obj) (hM : b + 4 < w'.heap.size) : Fr b w { w' with heap:=w'.heap.setIfInBounds (b + 4) ob } :=
 h.trans ⟨⟨rfl,rfl,rfl,by simp,fun k hk => by show (w'.heap.setIfInBounds (b + 4) ob)[k]? = _;rw [Array.getElem?_setIfInBounds_ne (by omega)]⟩,fun j hj _ h4 _ _ => by simp [Ne.symm h4]⟩
end
theorem Env.fr {S : Srch} {xs : Array Value} {lt : Value} {w w' : World} (h : Env S xs lt w) (k : Fr S.b w w') : Env S xs lt w':=by
 obtain ⟨h0,h1,h2,h3,h4,h5⟩:=h
 exact ⟨(k.rest _ (heap_lt h0) (by omega) (by omega) (by omega) (by omega)).trans h0,(k.rest _ (heap_lt h1) (by omega) (by omega) (by omega) (by omega)).trans h1,(k.rest _ (heap_lt h2) (by omega) (by omega) (by omega) (by omega)).trans h2,
  (k.rest _ (heap_lt h3) (by omega) (by omega) (by omega) (by omega)).trans h3,(k.rest _ (heap_lt h4) (by omega) (by omega) (by omega) (by omega)).trans h4,(k.rest _ (heap_lt h5) (by omega) (by omega) (by omega) (by omega)).trans h5⟩
def Srch.sound (S : Srch) (K : List Cn) : Prop:=∀ k,k ∈ K → ∀ n,n ≤ S.L → k.s = (S.L - n : Nat) → S.rest n k = none
def Srch.Grows (S : Srch) (xs : Array Value) (lt : Value) (w0 : World) (n : Nat) : Prop :=
 ∀ (w : World) (c : Cn) (o : List Int) (K : List Cn),Below S.b w0 w → Env S xs lt w → St S w c o K → S.sound K → n ≤ S.L → o.length = S.L - n →
  Calls Try.prog 100 S.growCaps w fun e w' => e = .returned (.bool (S.rest n c).isSome) ∧ Fr S.b w w' ∧
   ∃ c' o' K',St S w' c' o' K' ∧ S.sound K' ∧ (∀ r,S.rest n c = some r → o' = o ++ r) ∧ (S.rest n c = none → c' = c ∧ o' = o)
theorem Cn.up_s (c : Cn) {i : Nat} (h : i < 5) : (c.up i).s = c.s + 1:=by
 obtain rfl | rfl | rfl | rfl | rfl : i = 0 ∨ i = 1 ∨ i = 2 ∨ i = 3 ∨ i = 4:=by omega
 all_goals rfl
theorem Cn.up_at (c : Cn) {i j : Nat} (h : i < 5) (hj : j < 5) : (c.up i).at j = if j = i then c.at j + 1 else c.at j:=by
 obtain rfl | rfl | rfl | rfl | rfl : i = 0 ∨ i = 1 ∨ i = 2 ∨ i = 3 ∨ i = 4:=by omega
 all_goals
  obtain rfl | rfl | rfl | rfl | rfl : j = 0 ∨ j = 1 ∨ j = 2 ∨ j = 3 ∨ j = 4:=by omega
  all_goals rfl
theorem Cn.up_down (c : Cn) {i : Nat} (h : i < 5) : (((c.up i).add (-1) i).add (-1) 5) = c:=by
 obtain rfl | rfl | rfl | rfl | rfl : i = 0 ∨ i = 1 ∨ i = 2 ∨ i = 3 ∨ i = 4:=by omega
 all_goals simp [Cn.up,Cn.add,Int.add_neg_cancel_right]
theorem Cn.skip_s (c : Cn) : c.skip.s = c.s + 1:=rfl
theorem Cn.skip_at (c : Cn) {j : Nat} (hj : j < 5) : c.skip.at j = c.at j:=by
 obtain rfl | rfl | rfl | rfl | rfl : j = 0 ∨ j = 1 ∨ j = 2 ∨ j = 3 ∨ j = 4:=by omega
 all_goals rfl
theorem Cn.skip_down (c : Cn) : c.skip.add (-1) 5 = c:=by simp [Cn.skip,Cn.add,Int.add_neg_cancel_right]
theorem owns_cut {w : World} {b : Nat} {e : TypeId} {g cap : Nat} {l r : List Int} (h : w.ownsRow b e 1 (.slice (some ⟨g,0,none⟩) (l ++ r).length cap) (l ++ r).length ((l ++ r).flatMap eInt)) :
 w.ownsRow b e 1 (.slice (some ⟨g,0,none⟩) l.length cap) l.length (l.flatMap eInt):=by
 have hl : ∀ z : List Int,(z.flatMap eInt).length = z.length:=fun z => by induction z with
  | nil => rfl
  | cons a z ih => simp [eInt] at *;exact ih
 refine ⟨by simp [hl],?_⟩
 rcases h.2 with ⟨hv,_⟩ | ⟨g',cap',cur,hv,h1,h2,h3,h4,h5,h6⟩
 ·cases hv
 ·cases hv
  refine .inr ⟨_,_,_,rfl,h1,h2,by simp at h3;omega,h4,h5,?_⟩
  have:=congrArg (List.take l.length) h6
  rw [List.take_take] at this
  simp only [Nat.mul_one] at this ⊢
  rw [Nat.min_eq_left (by simp)] at this
  rw [this,List.flatMap_append,List.take_append_of_le_length (by rw [hl];exact Nat.le_refl _),List.take_of_length_le (by rw [hl];exact Nat.le_refl _)]
end Go.Proofs.Ytmennjmjakdkcaa
