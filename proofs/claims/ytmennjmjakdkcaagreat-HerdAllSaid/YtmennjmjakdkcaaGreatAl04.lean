/- HerdAll 4: Kit, Law, TalL. -/
import Derived.Test.YtmennjmjakdkcaaGreatAl01
import Derived.Test.YtmennjmjakdkcaaGreatAl03
import Derived.Laws.AppendOwnNone
import Derived.Test.YtmennjmjakdkcaaGreatAl02
namespace Go.Proofs.YtmennjmjakdkcaaGreat
open Go.RowKit
set_option linter.unusedVariables false
set_option linter.unusedSimpArgs false
theorem take_eq_snoc {α:Type} {x y:List α} {k:Nat} {u v:α} (h:x.take k = y.take k) (hx:x[k]? = some u) (hy:y[k]? = some v) (he:u = v):x.take (k + 1) = y.take (k + 1):=by
 rw [List.take_add_one,List.take_add_one,hx,hy,h,he]
theorem ne_of_at {α:Type} {x y:List α} {k:Nat} {u v:α} (hx:x[k]? = some u) (hy:y[k]? = some v) (he:¬ u = v):¬ x = y:=fun h => by
 subst h;rw [hx] at hy;cases hy;exact he rfl
def sameL {α:Type} [DecidableEq α] (x y:List α):Bool:=decide (x = y)
set_option maxHeartbeats 1000000 in
theorem sameInts_any (A:Option Addr) (n c:Nat) (x:List Int) (B:Option Addr) (m d:Nat) (y:List Int) (w:World) (hx:Ints w A n x) (hy:Ints w B m y) (hn:n ≤ maxLen) (hm:m ≤ maxLen) :
 Calls Tryz.prog 48 #[.slice A n c,.slice B m d] w fun e w' => e = .returned (.bool (sameL x y))∧Below w.heap.size w w':=by
 have hxl:=hx.len
 have hyl:=hy.len
 have HL:=Lib.hid (And.intro hxl hyl)
 have HXY:=Lib.hid (And.intro hx hy)
 unfold maxLen at hn hm
 clear hxl hyl hx hy
 by_cases hnm:n = m
 ·subst hnm
  have h0:(n != n) = false:=by simp
  have h0':((n:Int) != (n:Int)) = false:=by simp
  go_enter Tryz.func48,Tryz.ntmps48
  go_wp2_with fail
  go_loopg [5] n (fun g i wr => ∃ k:Nat,k + g = n∧i = .int .i64 k∧x.take k = y.take k∧∃ q,wr = w.drewN q)
  case atStart => exact ⟨0,by omega,rfl,by simp,0,rfl⟩
  case round =>
   obtain ⟨k,hk,rfl,htk,q,rfl⟩:=hrel
   have HK:=Lib.hid (And.intro hk htk)
   have hkn:k ≤ n:=by omega
   clear hk htk
   by_cases hlt:k < n
   ·obtain ⟨b0,o0,u,rfl,hb0,hu,p0⟩:=Ints.get HXY.out.1 hlt
    obtain ⟨b1,o1,v,rfl,hb1,hv,q0⟩:=Ints.get HXY.out.2 hlt
    have i0:(0:Int) ≤ (k:Int):=by omega
    have i1:(k:Int) < (n:Int):=by omega
    have HUV:=Lib.hid (And.intro hu hv)
    clear hu hv
    by_cases huv:u = v
    ·have h1:(u != v) = false:=by simp [huv]
     have HE:=Lib.hid huv
     clear huv
     go_upto_region 6 with (fail)
     go_quiet (fail)
     go_wp2
     go_roundg (gk - 1)
     case measure => have:=HK.out.1;omega
     case rel => exact ⟨k + 1,by have:=HK.out.1;omega,by go_num,take_eq_snoc HK.out.2 HUV.out.1 HUV.out.2 HE.out,_,rfl⟩
    ·have h1:(u != v) = true:=by simp [huv]
     have HE:=Lib.hid huv
     clear huv
     go_upto_region 6 with (fail)
     go_quiet (fail)
     go_wp2
     go_ret
     exact ⟨ret_bool (by unfold sameL;rw [decide_eq_false (ne_of_at HUV.out.1 HUV.out.2 HE.out)]),below_drewN (below_drewN (Below.refl _ _) _) _⟩
   ·obtain rfl:k = n:=by omega
    go_wp2
    go_ret
    refine ⟨ret_bool ?_,below_drewN (Below.refl _ _) _⟩
    have h:=HK.out.2
    rw [List.take_of_length_le (by rw [HL.out.1];omega),List.take_of_length_le (by rw [HL.out.2];omega)] at h
    unfold sameL;rw [decide_eq_true h]
 ·have h0:(n != m) = true:=by simpa using hnm
  have h0':((n:Int) != (m:Int)) = true:=by simp;omega
  have HE:=Lib.hid hnm
  clear hnm
  go_enter Tryz.func48,Tryz.ntmps48
  go_wp2
  go_ret
  exact ⟨ret_bool (by unfold sameL;rw [decide_eq_false (fun h => HE.out (by rw [← HL.out.1,← HL.out.2,h]))]),Below.refl _ _⟩
end Go.Proofs.YtmennjmjakdkcaaGreat
namespace Go.Proofs.YtmennjmjakdkcaaGreat
open Go.RowKit
set_option linter.unusedVariables false
set_option linter.unusedSimpArgs false
theorem flat_len {α:Type} {enc:α→List Value} {sz:Nat} (h:∀ x,(enc x).length = sz) (l:List α):(l.flatMap enc).length = l.length * sz:=by
 induction l with
 | nil => simp
 | cons a r ih => rw [List.flatMap_cons,List.length_append,ih,h,List.length_cons,Nat.succ_mul];omega
theorem flat_at {α:Type} {enc:α→List Value} {sz:Nat} (hsz:0 < sz) (h:∀ x,(enc x).length = sz):∀ (l:List α) (j:Nat) (u:Value),(l.flatMap enc)[j]? = some u→∃ x,l[j / sz]? = some x∧(enc x)[j % sz]? = some u
 | [],j,u,hu => by simp at hu
 | a :: r,j,u,hu => by
   rw [List.flatMap_cons] at hu
   rcases Nat.lt_or_ge j sz with hj | hj
   ·rw [List.getElem?_append_left (by rw [h];exact hj)] at hu
    exact ⟨a,by rw [Nat.div_eq_of_lt hj];rfl,by rw [Nat.mod_eq_of_lt hj];exact hu⟩
   ·rw [List.getElem?_append_right (by rw [h];exact hj),h] at hu
    obtain ⟨x,h1,h2⟩:=flat_at hsz h r (j - sz) u hu
    have e1:j = (j - sz) + sz:=by omega
    refine ⟨x,?_,?_⟩
    ·rw [e1,Nat.add_div_right _ hsz];simpa using h1
    ·rw [e1,Nat.add_mod_right];exact h2
theorem wp_apps {α:Type} {enc:α→List Value} {P:Program} {t e:TypeId} {sz bytes:Nat} (E:ElemOk P t e sz bytes) {ops:Array Oper} {rest:List Oper} {o:Oper} {a:Act} {Q:Exit→Act→World→Prop} {w:World}
 (hgd:o.guard = none) (s x:Operand) (ho:o.op = .call { callee:=.builtin .append,args:=#[s,x],argTypes:=#[t,t] })
 (base:Nat) (v:Value) (l:List α) (A:Option Addr) (m c:Nat) (l2:List α) (hs:a.eval s = v) (hx:a.eval x = .slice A m c) (hl2:Sl enc sz w A m l2) (hz:A = none→c = 0)
 (hlen:∀ x,(enc x).length = sz) (h1:∀ x,∀ u ∈ enc x,u.oneCell' = true)
 (hown:Own enc e sz w base v l) (hll:l.length + m < 4294967296) (hby:bytes ≤ 4096) (hbase:base ≤ w.heap.size)
 (h:∀ v' w',Own enc e sz w' base v' (l ++ l2)→w.grownBy w' v.ownBlock→Below base w w'→wpList P ops Q rest (a.put o.dst v') w') :
 wpList P ops Q (o :: rest) a w:=by
 obtain ⟨i,z,hi,hzz,hsize,hbytes,hzs⟩:=E.info
 cases A with
 | none =>
   have hc:=hz rfl
   subst hc
   have hm:m = 0:=by
    rcases Nat.eq_zero_or_pos m with h0 | h0
    ·exact h0
    ·obtain ⟨b,off,hA,_⟩:=hl2.2 h0;cases hA
   subst hm
   have hl0:l2 = []:=List.eq_nil_of_length_eq_zero hl2.1
   subst hl0
   refine wpList_append_own_none hgd s x t ho base e i sz E.sl hi v l.length (l.flatMap enc) hs hown hx ?_
   exact h v w (by rw [List.append_nil];exact hown) (World.grownBy.refl w _) (Below.refl _ _)
 | some ad =>
   refine wpList_append_own w hgd s x t ho base e i z sz bytes E.sl hi hzz hsize hbytes hzs E.pos v l.length (l.flatMap enc) hs hown ad m c (l2.flatMap enc) hx (by rw [flat_len hlen,hl2.1]) ?_ ?_ (by unfold maxLen;omega) ?_ hbase ?_
   ·intro j u hu
    obtain ⟨y,hy,hu2⟩:=flat_at E.pos hlen l2 j u hu
    have hlt:=(List.getElem?_eq_some_iff.1 hy).1
    obtain ⟨b,off,hA,hc⟩:=hl2.2 (hl2.1 ▸ Nat.lt_of_le_of_lt (Nat.zero_le _) hlt)
    cases hA
    have:=hc _ y hy _ u hu2
    rw [Addr.add_lit]
    have e1:off + j / sz * sz + j % sz = off + j:=by rw [Nat.add_assoc,Nat.div_add_mod']
    rw [e1] at this
    exact this
   ·intro u hu
    obtain ⟨y,hy,hu2⟩:=List.mem_flatMap.1 hu
    exact h1 y u hu2
   ·calc (l.length + m) * bytes ≤ 4294967296 * 4096:=Nat.mul_le_mul (by omega) hby
     _ ≤ 140737488355328:=by omega
   ·intro v' w' hown' hg _
    refine h v' w' ?_ hg ((Below.refl _ _).grown hg hbase (fun k hk => (Own.lt hown k hk).1))
    have e2:(l ++ l2).flatMap enc = l.flatMap enc ++ l2.flatMap enc:=by simp
    unfold Own
    rw [e2,List.length_append,hl2.1]
    exact hown'
end Go.Proofs.YtmennjmjakdkcaaGreat
namespace Go.Proofs.YtmennjmjakdkcaaGreat
open Go.RowKit
set_option linter.unusedVariables false
set_option linter.unusedSimpArgs false
theorem own_shape {α:Type} {enc:α→List Value} {e:TypeId} {sz:Nat} {w:World} {base:Nat} {v:Value} {l:List α} (h:Own enc e sz w base v l) (henc:∀ x,(enc x).length = sz) :
 ∃ A c,v = .slice A l.length c∧Sl enc sz w A l.length l∧l.length ≤ c∧c ≤ maxLen∧(A = none→c = 0):=by
 rcases h.2 with ⟨hv,h0⟩ | ⟨g,cap,cur,hv,hg,hh,hnc,hcm,r⟩
 ·have hl:l = []:=List.eq_nil_of_length_eq_zero h0
  subst hl
  exact ⟨none,0,hv,Sl.nil_,Nat.le_refl _,Nat.zero_le _,fun _ => rfl⟩
 ·subst hv
  exact ⟨_,cap,rfl,Sl.of_own (fun x _ => henc x) h rfl,hnc,hcm,fun h => by cases h⟩
end Go.Proofs.YtmennjmjakdkcaaGreat
namespace Go.Proofs.YtmennjmjakdkcaaGreat
set_option linter.unusedVariables false
set_option linter.unusedSimpArgs false
theorem cnt_mono {p q:Nat→Bool} (h:∀ i,i < 8→p i = true→q i = true):cnt p ≤ cnt q :=
 List.countP_mono_left fun i hi => h i (by simpa using hi)
theorem wornS_n (m:Mk) (s:Sg):(wornS m s).n = onI (orI m.n s.n) s.l s.r:=rfl
theorem onI_on (n:Int) (l r:Bool):onI (onI n l r) l r = onI n l r :=
 bits_ext (onI_lo _ _ _) (onI_hi _ _ _) (onI_lo _ _ _) (onI_hi _ _ _) fun i hi => by
  rw [bit_on _ _ _ _ hi,bit_on _ _ _ _ hi];cases bit n i <;> cases tornB l r i <;> rfl
theorem fits_worn {m:Mk} {s:Sg} {t:Int} (hm:0 ≤ m.n∧m.n ≤ 255) (hs:0 ≤ s.n∧s.n ≤ 255) (hp:(popI s.n:Int) ≤ t):fits (wornS m s) m t = true:=by
 have e1:alikeBP (wornS m s) m = true:=by
  unfold alikeBP wornS
  dsimp only
  by_cases h1:s.b = -1 <;> by_cases h2:s.p = -1 <;> simp [h1,h2]
 have e2:butI (onI m.n s.l s.r) (wornS m s).n = 0:=by
  rw [eq_zero_iff (butI_lo _ _) (butI_hi _ _)]
  intro i hi
  rw [wornS_n,bit_but _ _ (onI_hi _ _ _) i hi,bit_on _ _ _ _ hi,bit_on _ _ _ _ hi,bit_or]
  cases bit m.n i <;> cases bit s.n i <;> cases tornB s.l s.r i <;> rfl
 have e3:popI (butI (wornS m s).n (onI m.n s.l s.r)) ≤ popI s.n:=by
  unfold popI
  refine cnt_mono fun i hi h => ?_
  rw [wornS_n,bit_but _ _ (onI_hi _ _ _) i hi,bit_on _ _ _ _ hi,bit_on _ _ _ _ hi,bit_or] at h
  revert h
  cases bit m.n i <;> cases bit s.n i <;> cases tornB s.l s.r i <;> simp
 unfold fits
 rw [e1]
 have e4:(wornS m s).l = s.l:=rfl
 have e5:(wornS m s).r = s.r:=rfl
 rw [e4,e5,e2]
 simp
 omega
theorem seen_worn {m:Mk} {s:Sg} (hm:(0 ≤ m.n∧m.n ≤ 255)∧(0 ≤ m.b∧m.b ≤ 9)∧0 ≤ m.p∧m.p ≤ 6):seen (wornS m s) 9 6 = 0:=by
 unfold seen
 rw [if_neg (by simp [btw_iff,wornS_n,onI_lo,onI_hi]),if_neg (by rw [wornS_n];show ¬ onI (onI (orI m.n s.n) s.l s.r) s.l s.r ≠ onI (orI m.n s.n) s.l s.r;rw [onI_on];simp),if_neg,if_neg]
 ·rintro ⟨h1,h2⟩
  have e:(wornS m s).p = m.p:=by unfold wornS at h1 ⊢;dsimp only at h1 ⊢;split <;> simp_all
  rw [e,btw_no] at h2
  exact h2 hm.2.2
 ·rintro ⟨h1,h2⟩
  have e:(wornS m s).b = m.b:=by unfold wornS at h1 ⊢;dsimp only at h1 ⊢;split <;> simp_all
  rw [e,btw_no] at h2
  exact h2 hm.2.1
theorem mem_mayL {t:Int} {l:List Mk} {s:Sg} {o:Nat} {m:Mk} (hm:l[o]? = some m) (hf:fits s m t = true):(o:Int) ∈ mayL t l s:=by
 unfold mayL mayTo
 refine List.mem_map.2 ⟨o,List.mem_filter.2 ⟨?_,?_⟩,rfl⟩
 ·rw [List.mem_range];exact (List.getElem?_eq_some_iff.1 hm).1
 ·rw [hm];simpa using hf
end Go.Proofs.YtmennjmjakdkcaaGreat
namespace Go.Proofs.YtmennjmjakdkcaaGreat
set_option linter.unusedVariables false
set_option linter.unusedSimpArgs false
theorem mayL_iff {t:Int} {l:List Mk} {s:Sg} {o:Nat} {m:Mk} (hm:l[o]? = some m):(o:Int) ∈ mayL t l s ↔ fits s m t = true:=by
 refine ⟨fun h => ?_,mem_mayL hm⟩
 unfold mayL mayTo at h
 obtain ⟨i,hi,he⟩:=List.mem_map.1 h
 have:i = o:=by have he':(i:Int) = (o:Int):=he;omega
 subst this
 have:=(List.mem_filter.1 hi).2
 rw [hm] at this
 simpa using this
end Go.Proofs.YtmennjmjakdkcaaGreat
namespace Go.Proofs.YtmennjmjakdkcaaGreat
set_option linter.unusedVariables false
set_option linter.unusedSimpArgs false
def getG (gs:List (List Int)) (f o:Nat):Int:=(gs.getD f []).getD o 0
def addG (gs:List (List Int)) (f o:Nat) (k:Int):List (List Int):=gs.set f ((gs.getD f []).set o (getG gs f o + k))
structure GSh (n nf:Nat) (gs:List (List Int)):Prop where
 l:gs.length = nf
 r:∀ r ∈ gs,r.length = n
theorem GSh.row {n nf:Nat} {gs:List (List Int)} (h:GSh n nf gs) {f:Nat} (hf:f < nf):(gs.getD f []).length = n:=by
 rw [List.getD_eq_getElem?_getD,List.getElem?_eq_getElem (by rw [h.l];exact hf),Option.getD_some]
 exact h.r _ (List.getElem_mem _)
theorem GSh.add {n nf:Nat} {gs:List (List Int)} (h:GSh n nf gs) {f:Nat} (hf:f < nf) (o:Nat) (k:Int):GSh n nf (addG gs f o k):=by
 refine ⟨by unfold addG;rw [List.length_set];exact h.l,fun r hr => ?_⟩
 rcases List.mem_or_eq_of_mem_set hr with hr | rfl
 ·exact h.r r hr
 ·rw [List.length_set];exact h.row hf
theorem firstH_at (gs:List (List Int)) {i:Nat} (hi:i < 15):(firstH gs)[i]? = some (getG gs (i / 5) (i % 5)):=by
 unfold firstH getG
 rw [List.getElem?_map,List.getElem?_range hi]
 rfl
theorem firstH_get (gs:List (List Int)) {f o:Nat} (hf:f < 3) (ho:o < 5):hget (firstH gs) f o = getG gs f o:=by
 unfold hget
 rw [List.getD_eq_getElem?_getD,firstH_at gs (by omega),show (5 * f + o) / 5 = f by omega,show (5 * f + o) % 5 = o by omega]
 rfl
theorem firstH_l (gs:List (List Int)):(firstH gs).length = 15:=by simp [firstH]
theorem firstH_add {n nf:Nat} {gs:List (List Int)} (h:GSh n nf gs) (hn:n ≤ 5) (hnf:nf ≤ 3) {f o:Nat} (hf:f < nf) (ho:o < n) (k:Int):firstH (addG gs f o k) = hadd (firstH gs) f o k:=by
 have hrl:=h.row hf
 have hfl:f < gs.length:=by rw [h.l];exact hf
 apply List.ext_getElem?
 intro i
 unfold hadd
 by_cases hi:i < 15
 ·rw [firstH_at _ hi,List.getElem?_set,firstH_l]
  by_cases e:5 * f + o = i
  ·rw [if_pos e,if_pos (by omega),← e,show (5 * f + o) / 5 = f by omega,show (5 * f + o) % 5 = o by omega,firstH_get gs (by omega) (by omega)]
   unfold getG addG
   rw [List.getD_eq_getElem?_getD,List.getD_eq_getElem?_getD (l:=gs.set _ _),List.getElem?_set_self hfl,Option.getD_some,List.getElem?_set_self (by omega)]
   rfl
  ·rw [if_neg e,firstH_at _ hi]
   congr 1
   unfold getG addG
   by_cases ef:f = i / 5
   ·subst ef
    have eo:o ≠ i % 5:=by omega
    rw [List.getD_eq_getElem?_getD (l:=gs.set _ _),List.getElem?_set_self hfl,Option.getD_some,List.getD_eq_getElem?_getD,List.getElem?_set_ne eo,List.getD_eq_getElem?_getD (l:=gs.getD _ _)]
   ·rw [List.getD_eq_getElem?_getD (l:=gs.set _ _),List.getElem?_set_ne ef,← List.getD_eq_getElem?_getD (l:=gs)]
 ·rw [List.getElem?_eq_none (by rw [firstH_l];omega),List.getElem?_eq_none (by rw [List.length_set,firstH_l];omega)]
theorem sum5 {l:List Int} (h:l.length ≤ 5):l.sum = l.getD 0 0 + l.getD 1 0 + l.getD 2 0 + l.getD 3 0 + l.getD 4 0:=by
 match l,h with
 | [],_ => simp
 | [a],_ => simp
 | [a,b],_ => simp
 | [a,b,c],_ => simp;omega
 | [a,b,c,d],_ => simp;omega
 | [a,b,c,d,e],_ => simp;omega
 | _ :: _ :: _ :: _ :: _ :: _ :: _,h => simp at h
theorem row_sum {gs:List (List Int)} {f:Nat} (hf:f < 3) (hl:(gs.getD f []).length ≤ 5):(gs.getD f []).sum = hall (firstH gs) f:=by
 rw [sum5 hl]
 unfold hall
 rw [firstH_get gs hf (by omega),firstH_get gs hf (by omega),firstH_get gs hf (by omega),firstH_get gs hf (by omega),firstH_get gs hf (by omega)]
 rfl
theorem endsTo_snoc {t:Int} {l:List Mk} {hs:List (List Int)} {ds:List De} {d:De} {deed owner:Int}:∀ i,i ≤ ds.length→endsTo t l hs (ds ++ [d]) deed owner i = endsTo t l hs ds deed owner i
 | 0,_ => rfl
 | i + 1,hi => by
   unfold endsTo
   rw [endsTo_snoc i (by omega),List.getElem?_append_left (by omega)]
theorem endsL_snoc {t:Int} {l:List Mk} {hs:List (List Int)} {ds:List De} {d:De} {deed owner:Int} {x h:List Int} (hh:h ∈ endsL t l hs ds deed owner) (hx:x ∈ succ t l (passB deed owner ds.length) d h):x ∈ endsL t l hs (ds ++ [d]) deed owner:=by
 unfold endsL at hh ⊢
 rw [List.length_append]
 refine (endsTo_mem (i:=ds.length) (d:=d) (by simp) x).2 ⟨h,?_,hx⟩
 rw [endsTo_snoc _ (Nat.le_refl _)]
 exact hh
theorem endsTo_far {t:Int} {l:List Mk} {hs:List (List Int)} {ds:List De} {deed owner deed' owner':Int}:∀ i:Nat,(∀ j:Nat,j < i→(j:Int) ≠ deed∧(j:Int) ≠ deed')→endsTo t l hs ds deed owner i = endsTo t l hs ds deed' owner' i
 | 0,_ => rfl
 | i + 1,h => by
   unfold endsTo
   rw [endsTo_far i fun j hj => h j (by omega)]
   have e:passB deed owner i = passB deed' owner' i:=by
    funext o
    unfold passB
    have:=h i (by omega)
    rw [decide_eq_false this.1,decide_eq_false this.2]
    rfl
   rw [e]
theorem pass_far {deed owner:Int} {i:Nat} (h:(i:Int) ≠ deed) (o:Int):passB deed owner i o = true:=by unfold passB;rw [decide_eq_false h];rfl
theorem pass_own {deed:Int} {i:Nat} (o:Int):passB deed o i o = true:=by unfold passB;simp
theorem hadd_hadd {h:List Int} (hl:h.length = 15) {f o o':Nat} {k k':Int} (hf:f < 3) (ho:o < 5) (ho':o' < 5) (hne:o ≠ o'):hadd (hadd h f o k) f o' k' = hadd (hadd h f o' k') f o k:=by
 unfold hadd
 have e1:hget (h.set (5 * f + o) (hget h f o + k)) f o' = hget h f o':=by rw [show hget (h.set (5 * f + o) (hget h f o + k)) f o' = _ from hget_set hl hf ho ho',if_neg (by omega)];rfl
 have e2:hget (h.set (5 * f + o') (hget h f o' + k')) f o = hget h f o:=by rw [show hget (h.set (5 * f + o') (hget h f o' + k')) f o = _ from hget_set hl hf ho' ho,if_neg (by omega)];rfl
 rw [e1,e2,List.set_comm _ _ (by omega)]
theorem hadd_same {h:List Int} (hl:h.length = 15) {f o:Nat} {k k':Int} (hf:f < 3) (ho:o < 5):hadd (hadd h f o k) f o k' = hadd h f o (k + k'):=by
 unfold hadd
 have e1:hget (h.set (5 * f + o) (hget h f o + k)) f o = hget h f o + k:=by rw [show hget (h.set (5 * f + o) (hget h f o + k)) f o = _ from hget_set hl hf ho ho,if_pos ⟨rfl,rfl⟩]
 rw [e1,List.set_set,Int.add_assoc]
theorem hadd_zero {h:List Int} (hl:h.length = 15) {f o:Nat} (hf:f < 3) (ho:o < 5):hadd h f o 0 = h:=by
 unfold hadd hget
 rw [Int.add_zero,List.getD_eq_getElem?_getD,List.getElem?_eq_getElem (by omega),Option.getD_some,List.set_getElem_self]
theorem lostJ_zero {n f:Nat} (j:Nat) (h:List Int):lostJ n f j h 0 = [h]:=by cases j <;> simp [lostJ]
theorem lostJ_step {n f j m k:Nat} {h x:List Int} (hl:h.length = 15) (hf:f < 3) (hq:n - (j + 1) < 5) (hk:k ≤ m) (h0:0 ≤ hget h f (n - (j + 1)) + -(k:Int)) (hx:x ∈ lostJ n f j (hadd h f (n - (j + 1)) (-(k:Int))) (m - k)):x ∈ lostJ n f (j + 1) h m:=by
 unfold lostJ
 by_cases hm:m = 0
 ·subst hm
  obtain rfl:k = 0:=by omega
  rw [if_pos rfl]
  rw [lostJ_zero] at hx
  simp at hx
  rw [hx,hadd_zero hl hf hq]
  simp
 ·rw [if_neg hm]
  refine List.mem_flatMap.2 ⟨k,List.mem_range.2 (by omega),?_⟩
  unfold mvd
  rw [if_pos h0]
  exact hx
theorem lostJ_pick {n f:Nat} (hf:f < 3) (hn:n ≤ 5):∀ (j:Nat) (h:List Int) (m o:Nat) (x:List Int),j ≤ n→h.length = 15→(∀ o,o < 5→0 ≤ hget h f o)→n - j ≤ o→o < n→0 < hget h f o→x ∈ lostJ n f j (hadd h f o (-1)) m→x ∈ lostJ n f j h (m + 1)
 | 0,h,m,o,x,hj,hl,hnn,h1,h2,hp,hx => by omega
 | j + 1,h,m,o,x,hj,hl,hnn,h1,h2,hp,hx => by
   have hq5:n - (j + 1) < 5:=by omega
   have ho5:o < 5:=by omega
   by_cases e:o = n - (j + 1)
   ·subst e
    by_cases hm:m = 0
    ·subst hm
     rw [lostJ_zero] at hx
     simp at hx
     subst hx
     refine lostJ_step hl hf hq5 (k:=1) (by omega) (by omega) ?_
     rw [lostJ_zero]
     simp
    ·unfold lostJ at hx
     rw [if_neg hm] at hx
     obtain ⟨k,hk,hx⟩:=List.mem_flatMap.1 hx
     have hkm:k ≤ m:=by have:=List.mem_range.1 hk;omega
     cases hmv:mvd (hadd h f (n - (j + 1)) (-1)) f (n - (j + 1)) (-(k:Int)) with
     | none => rw [hmv] at hx;cases hx
     | some y =>
       rw [hmv] at hx
       obtain ⟨h0,rfl⟩:=mvd_some hmv
       rw [hget_hadd hl hf ho5 ho5,if_pos ⟨rfl,rfl⟩] at h0
       rw [hadd_same hl hf ho5] at hx
       refine lostJ_step hl hf hq5 (k:=k + 1) (by omega) (by omega) ?_
       rw [show -((k + 1:Nat):Int) = -1 + -(k:Int) by omega,show m + 1 - (k + 1) = m - k by omega]
       exact hx
   ·by_cases hm:m = 0
    ·subst hm
     rw [lostJ_zero] at hx
     simp at hx
     subst hx
     refine lostJ_step hl hf hq5 (k:=0) (by omega) (by have:=hnn _ hq5;omega) ?_
     rw [show -((0:Nat):Int) = 0 from rfl,hadd_zero hl hf hq5]
     exact lostJ_pick hf hn j h 0 o _ (by omega) hl hnn (by omega) h2 hp (by rw [lostJ_zero];simp)
    ·unfold lostJ at hx
     rw [if_neg hm] at hx
     obtain ⟨k,hk,hx⟩:=List.mem_flatMap.1 hx
     have hkm:k ≤ m:=by have:=List.mem_range.1 hk;omega
     cases hmv:mvd (hadd h f o (-1)) f (n - (j + 1)) (-(k:Int)) with
     | none => rw [hmv] at hx;cases hx
     | some y =>
       rw [hmv] at hx
       obtain ⟨h0,rfl⟩:=mvd_some hmv
       rw [hget_hadd hl hf ho5 hq5,if_neg (by omega)] at h0
       rw [hadd_hadd hl hf ho5 hq5 e] at hx
       refine lostJ_step hl hf hq5 (k:=k) (by omega) h0 ?_
       rw [show m + 1 - k = m - k + 1 by omega]
       refine lostJ_pick hf hn j _ (m - k) o x (by omega) (hadd_l hl) (fun o' ho' => ?_) (by omega) h2 ?_ hx
       ·rw [hget_hadd hl hf hq5 ho']
        split
        ·exact h0
        ·exact hnn o' ho'
       ·rw [hget_hadd hl hf hq5 ho5,if_neg (by omega)]
        exact hp
structure TaleI (t:Int) (l:List Mk) (hs:List (List Int)) (ds:List De) (gs:List (List Int)) (gone whose:List Int):Prop where
 e:firstH gs ∈ endsL t l hs ds (-1) 0
 w:∀ (k:Nat) (o:Int),whose[k]? = some o→0 ≤ o→firstH gs ∈ endsL t l hs ds k o∧o < l.length∧∃ d,ds[k]? = some d∧d.kind = 5
 wn:whose.length = ds.length
 nn:∀ f o,f < 3→o < 5→0 ≤ hget (firstH gs) f o
 tot:htot (firstH gs) ≤ 60 + 3 * ds.length
 g:∀ o:Nat,o < l.length→gone.getD o 0 + howned (firstH gs) o = hasS (sumS hs o ds)
 gl:gone.length = l.length
theorem hget_tot {h:List Int} (hnn:∀ f o,f < 3→o < 5→0 ≤ hget h f o) {f o:Nat} (hf:f < 3) (ho:o < 5):hget h f o ≤ hall h f∧hall h f ≤ htot h:=by
 have a0:=fun f (hf:f < 3) => hnn f 0 hf (by omega)
 have a1:=fun f (hf:f < 3) => hnn f 1 hf (by omega)
 have a2:=fun f (hf:f < 3) => hnn f 2 hf (by omega)
 have a3:=fun f (hf:f < 3) => hnn f 3 hf (by omega)
 have a4:=fun f (hf:f < 3) => hnn f 4 hf (by omega)
 have b0:=a0 f hf;have b1:=a1 f hf;have b2:=a2 f hf;have b3:=a3 f hf;have b4:=a4 f hf
 have c:∀ f,f < 3→0 ≤ hall h f:=fun f hf => by unfold hall;have:=a0 f hf;have:=a1 f hf;have:=a2 f hf;have:=a3 f hf;have:=a4 f hf;omega
 constructor
 ·unfold hall
  rcases lt5 ho with rfl | rfl | rfl | rfl | rfl <;> omega
 ·unfold htot
  have:=c 0 (by omega);have:=c 1 (by omega);have:=c 2 (by omega)
  rcases lt3 hf with rfl | rfl | rfl <;> omega
theorem TaleI.start {t:Int} {l:List Mk} {hs:List (List Int)} (hnn:∀ f o,f < 3→o < 5→0 ≤ hget (firstH hs) f o) (ht:htot (firstH hs) ≤ 60):TaleI t l hs [] hs (List.replicate l.length 0) []:=by
 refine ⟨by simp [endsL,endsTo],by simp,rfl,hnn,by simpa using ht,fun o ho => ?_,by simp⟩
 rw [List.getD_eq_getElem?_getD,List.getElem?_replicate,if_pos ho]
 unfold sumS hasS
 simp
theorem TaleI.step {t:Int} {l:List Mk} {hs:List (List Int)} {ds:List De} {gs gs':List (List Int)} {gone gone' whose:List Int} {d:De} {ow:Int} (h:TaleI t l hs ds gs gone whose)
 (hsucc:∀ pass:Int→Bool,(d.kind = 5→pass ow = true)→firstH gs' ∈ succ t l pass d (firstH gs)) (how:ow = -1 ∨ 0 ≤ ow∧ow < l.length∧d.kind = 5) (hne:d.kind = 2→d.owner ≠ d.other)
 (hnn:∀ f o,f < 3→o < 5→0 ≤ hget (firstH gs') f o) (ht:htot (firstH gs') ≤ htot (firstH gs) + 3)
 (hg:∀ o:Nat,o < l.length→gone'.getD o 0 + howned (firstH gs') o = gone.getD o 0 + howned (firstH gs) o + delta o d) (hgl:gone'.length = gone.length):TaleI t l hs (ds ++ [d]) gs' gone' (whose ++ [ow]):=by
 refine ⟨endsL_snoc h.e (hsucc _ fun _ => pass_far (by omega) _),fun k o hk ho => ?_,by simp [h.wn],hnn,?_,fun o ho => ?_,hgl.trans h.gl⟩
 ·rcases Nat.lt_or_ge k whose.length with hkl | hkl
  ·rw [List.getElem?_append_left hkl] at hk
   obtain ⟨a1,a2,d',a3,a4⟩:=h.w k o hk ho
   exact ⟨endsL_snoc a1 (hsucc _ fun _ => pass_far (by have:=h.wn;omega) _),a2,d',by rw [List.getElem?_append_left (by have:=h.wn;omega)];exact a3,a4⟩
  ·rw [List.getElem?_append_right hkl] at hk
   have hk0:k - whose.length = 0:=by
    cases hd:k - whose.length with
    | zero => rfl
    | succ j => rw [hd] at hk;simp at hk
   rw [hk0] at hk
   simp at hk
   subst hk
   have hkl':k = ds.length:=by have:=h.wn;omega
   subst hkl'
   rcases how with e | ⟨a1,a2,a3⟩
   ·omega
   ·refine ⟨endsL_snoc (deed:=(ds.length:Int)) (owner:=ow) ?_ (hsucc _ fun _ => pass_own _),a2,d,by simp,a3⟩
    unfold endsL
    rw [endsTo_far (deed':=-1) (owner':=0) _ fun j hj => ⟨by omega,by omega⟩]
    exact h.e
 ·have:=h.tot
  rw [List.length_append,List.length_singleton]
  omega
 ·have hs1:sumS hs o (ds ++ [d]) = stepS o (sumS hs o ds) d:=by
   unfold sumS
   rw [List.foldl_append]
   rfl
  rw [hg o ho,h.g o ho,hs1,hasS_step _ _ _ hne]
end Go.Proofs.YtmennjmjakdkcaaGreat
