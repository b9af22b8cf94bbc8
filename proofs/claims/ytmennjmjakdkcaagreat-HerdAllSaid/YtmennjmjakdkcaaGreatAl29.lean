/- HerdAll 29: TruN, HdJ, HdZ, OwnH, CopyHd, TruW. -/
import Derived.Test.YtmennjmjakdkcaaGreatAl28
import Derived.Test.YtmennjmjakdkcaaGreatAl17
import Derived.Test.YtmennjmjakdkcaaGreatAl14
import Derived.Test.YtmennjmjakdkcaaGreatAl25
import Derived.Lib.SliceRun
import Derived.Deep.OwnRows
import Derived.Test.YtmennjmjakdkcaaGreatAl04
import Derived.Test.YtmennjmjakdkcaaGreatAl18
namespace Go.Proofs.YtmennjmjakdkcaaGreat
set_option linter.unusedVariables false
set_option linter.unusedSimpArgs false
def reachH (t:Int) (l:List Mk) (deed owner:Int):List De→Nat→List Int→List (List Int)
 | [],_,h => [h]
 | d :: ds,i,h => (succ t l (passB deed owner i) d h).flatMap (reachH t l deed owner ds (i + 1))
section
variable {t:Int} {l:List Mk} {deed owner:Int} {nf:Nat}
theorem trG_nn {g:List (List Int)}:∀ {ds:List De} {i:Nat} {gs:List (List Int)},g ∈ trG t l deed owner ds i gs→nnG gs = true
 | [],i,gs,h => by unfold trG at h;split at h;assumption;cases h
 | d :: ds,i,gs,h => by unfold trG at h;split at h;assumption;cases h
theorem str_sh {i:Nat} {d:De} {gs g:List (List Int)} (h:GSh l.length nf gs) (how:DeOw l.length nf d) (h5:d.kind = 5) {k:Nat} (hg:g ∈ strG t l deed owner i d gs k):GSh l.length nf g:=by
 unfold strG at hg
 obtain ⟨o,-,rfl⟩:=List.mem_map.1 hg
 have:=how.f;have:=how.t h5
 exact (h.add (by omega) _ _).add (by omega) _ _
theorem step_sh {i:Nat} {d:De} {gs g:List (List Int)} (h:GSh l.length nf gs) (how:DeOw l.length nf d) (hg:g ∈ stepG t l deed owner i d gs):GSh l.length nf g:=by
 have hff:d.flock.toNat < nf:=by have:=how.f;omega
 unfold stepG at hg
 split at hg
 ·rw [List.mem_singleton.1 hg];exact h.add hff _ _
 split at hg
 ·rw [List.mem_singleton.1 hg];exact h.add hff _ _
 split at hg
 ·rw [List.mem_singleton.1 hg];exact (h.add hff _ _).add hff _ _
 split at hg
 ·split at hg
  ·rw [List.mem_singleton.1 hg];exact h
  ·cases hg
 split at hg
 ·unfold lostG at hg
  obtain ⟨w,-,rfl⟩:=List.mem_map.1 hg
  exact sub_sh hff w h
 ·exact str_sh h how (by have:=how.k;omega) hg
theorem reach_iff (hn:l.length ≤ 5) (hnf:nf ≤ 3):∀ (ds:List De) (i:Nat) (gs:List (List Int)),GSh l.length nf gs→(∀ d ∈ ds,deedE l.length nf d = 0∧DeIn l.length nf d)→nnG gs = true→∀ x,
 (∃ g ∈ trG t l deed owner ds i gs,x = firstH g) ↔ x ∈ reachH t l deed owner ds i (firstH gs)
 | [],i,gs,h,hd,hnn,x => by
   unfold trG reachH
   rw [if_pos hnn]
   simp
 | d :: ds,i,gs,h,hd,hnn,x => by
   have h0:=hd d List.mem_cons_self
   have how:=deedE_ow h0.1
   have hs:=fun y => step_iff (t:=t) (deed:=deed) (owner:=owner) (i:=i) h hn hnf hnn h0.2 how (fun h5 => tof_ne h0.1 h5) y
   unfold trG reachH
   rw [if_pos hnn,List.mem_flatMap]
   constructor
   ·rintro ⟨g,hg,rfl⟩
    obtain ⟨g1,hg1,hg2⟩:=List.mem_flatMap.1 hg
    have hnn1:=trG_nn hg2
    exact ⟨firstH g1,(hs _).1 ⟨g1,hg1,hnn1,rfl⟩,(reach_iff hn hnf ds (i + 1) g1 (step_sh h how hg1) (fun d hd' => hd d (List.mem_cons_of_mem _ hd')) hnn1 _).1 ⟨g,hg2,rfl⟩⟩
   ·rintro ⟨y,hy,hx⟩
    obtain ⟨g1,hg1,hnn1,rfl⟩:=(hs y).2 hy
    obtain ⟨g,hg,e⟩:=(reach_iff hn hnf ds (i + 1) g1 (step_sh h how hg1) (fun d hd' => hd d (List.mem_cons_of_mem _ hd')) hnn1 x).2 hx
    exact ⟨g,List.mem_flatMap.2 ⟨g1,hg1,hg⟩,e⟩
theorem trG_sh:∀ (ds:List De) (i:Nat) (gs:List (List Int)),GSh l.length nf gs→(∀ d ∈ ds,DeOw l.length nf d)→∀ g ∈ trG t l deed owner ds i gs,GSh l.length nf g
 | [],i,gs,h,hd,g,hg => by
   unfold trG at hg
   split at hg
   ·rw [List.mem_singleton.1 hg];exact h
   ·cases hg
 | d :: ds,i,gs,h,hd,g,hg => by
   unfold trG at hg
   split at hg
   ·obtain ⟨g1,hg1,hg2⟩:=List.mem_flatMap.1 hg
    exact trG_sh ds (i + 1) g1 (step_sh h (hd d List.mem_cons_self) hg1) (fun d hd' => hd d (List.mem_cons_of_mem _ hd')) g hg2
   ·cases hg
theorem ends_reach {hs:List (List Int)} {ds:List De} (x:List Int):∀ k,k ≤ ds.length→(x ∈ endsL t l hs ds deed owner ↔ ∃ h ∈ endsTo t l hs ds deed owner (ds.length - k),x ∈ reachH t l deed owner (ds.drop (ds.length - k)) (ds.length - k) h)
 | 0,_ => by
   rw [Nat.sub_zero,List.drop_length]
   unfold endsL reachH
   simp
 | k + 1,hk => by
   rw [ends_reach x k (by omega)]
   obtain ⟨i,hi⟩:∃ i,i = ds.length - (k + 1):=⟨_,rfl⟩
   have e1:ds.length - k = i + 1:=by omega
   have hil:i < ds.length:=by omega
   rw [e1,← hi,List.drop_eq_getElem_cons hil]
   have hm:=fun y => endsTo_mem (t:=t) (l:=l) (heads:=hs) (deed:=deed) (owner:=owner) (List.getElem?_eq_getElem hil) y
   constructor
   ·rintro ⟨h',hh',hx⟩
    obtain ⟨h,hh,hs'⟩:=(hm h').1 hh'
    exact ⟨h,hh,List.mem_flatMap.2 ⟨h',hs',hx⟩⟩
   ·rintro ⟨h,hh,hx⟩
    obtain ⟨h',hs',hx⟩:=List.mem_flatMap.1 hx
    exact ⟨h',(hm h').2 ⟨h,hh,hs'⟩,hx⟩
end
theorem tru_ends {t:Int} {l:List Mk} {ks:List Int} {hs:List (List Int)} {ds:List De} {deed owner:Int} (hok:HeOk t l ks hs ds) (x:List Int):x ∈ endsL t l hs ds deed owner ↔ ∃ g ∈ trG t l deed owner ds 0 hs,x = firstH g:=by
 have hg:GSh l.length ks.length hs:=⟨hok.hl,hok.rl⟩
 have hnn:nnG hs = true:=nnG_iff.2 fun r hr y hy => (hok.rb r hr y hy).1
 rw [reach_iff hok.n5 hok.f3 ds 0 hs hg (fun d hd => ⟨hok.dE d hd,hok.dI d hd⟩) hnn,ends_reach x ds.length (Nat.le_refl _),Nat.sub_self]
 constructor
 ·rintro ⟨h,hh,hx⟩
  rw [show h = firstH hs by simpa [endsTo] using hh] at hx
  simpa using hx
 ·intro hx
  exact ⟨firstH hs,by simp [endsTo],by simpa using hx⟩
theorem flatten_get {n:Nat}:∀ (g:List (List Int)) (f o:Nat),(∀ r ∈ g,r.length = n)→o < n→g.flatten[f * n + o]? = (g[f]?).bind fun r => r[o]?
 | [],f,o,_,_ => by simp
 | r :: g,0,o,h,ho => by
   rw [List.flatten_cons,Nat.zero_mul,Nat.zero_add,List.getElem?_append_left (by rw [h r List.mem_cons_self];exact ho)]
   rfl
 | r :: g,f + 1,o,h,ho => by
   have hr:=h r List.mem_cons_self
   rw [List.flatten_cons,List.getElem?_append_right (by rw [hr,Nat.succ_mul];omega),hr,show (f + 1) * n + o - n = f * n + o by rw [Nat.succ_mul];omega,flatten_get g f o (fun r hr => h r (List.mem_cons_of_mem _ hr)) ho]
   rfl
def unfl (n nf:Nat) (e:List Int):List Int:=(List.range 15).map fun i => if i / 5 < nf∧i % 5 < n then e.getD (i / 5 * n + i % 5) 0 else 0
theorem flat_getG {n nf:Nat} {g:List (List Int)} (h:GSh n nf g) {f o:Nat} (hf:f < nf) (ho:o < n):g.flatten.getD (f * n + o) 0 = getG g f o:=by
 unfold getG
 rw [List.getD_eq_getElem?_getD,flatten_get g f o h.r ho,List.getD_eq_getElem?_getD,List.getD_eq_getElem?_getD]
 cases hg:g[f]? with
 | none => rw [List.getElem?_eq_none_iff,h.l] at hg;omega
 | some r => rfl
theorem unfl_flat {n nf:Nat} {g:List (List Int)} (h:GSh n nf g):unfl n nf g.flatten = firstH g:=by
 unfold unfl firstH
 refine List.map_congr_left fun i hi => ?_
 split
 ·rename_i hc
  rw [flat_getG h hc.1 hc.2];rfl
 ·rename_i hc
  by_cases hf:i / 5 < nf
  ·have ho:¬ i % 5 < n:=fun ho => hc ⟨hf,ho⟩
   rw [List.getD_eq_getElem?_getD (l:=g.getD (i / 5) []),List.getElem?_eq_none (by rw [h.row hf];omega)];rfl
  ·rw [List.getD_eq_getElem?_getD (l:=g),List.getElem?_eq_none (by rw [h.l];omega)];rfl
theorem firstH_inj {n nf:Nat} {g g':List (List Int)} (h:GSh n nf g) (h':GSh n nf g') (hn:n ≤ 5) (hf:nf ≤ 3) (e:firstH g = firstH g'):g = g':=by
 refine List.ext_getElem (by rw [h.l,h'.l]) fun f h1 h2 => ?_
 have hfn:f < nf:=by rw [← h.l];exact h1
 have e1:=h.r _ (List.getElem_mem h1)
 have e2:=h'.r _ (List.getElem_mem h2)
 refine List.ext_getElem (by rw [e1,e2]) fun o h3 h4 => ?_
 have hg:=firstH_get g (f:=f) (o:=o) (by omega) (by omega)
 have hg':=firstH_get g' (f:=f) (o:=o) (by omega) (by omega)
 rw [e,hg'] at hg
 unfold getG at hg
 rw [List.getD_eq_getElem?_getD (l:=g),List.getD_eq_getElem?_getD (l:=g'),List.getElem?_eq_getElem h1,List.getElem?_eq_getElem h2,Option.getD_some,Option.getD_some,List.getD_eq_getElem?_getD,List.getD_eq_getElem?_getD,List.getElem?_eq_getElem h3,List.getElem?_eq_getElem h4] at hg
 exact hg.symm
theorem tru_perm {t:Int} {l:List Mk} {ks:List Int} {hs:List (List Int)} {ds:List De} {deed owner:Int} (hok:HeOk t l ks hs ds) :
 ((addsE [] (trG t l deed owner ds 0 hs)).map (unfl l.length ks.length)).Perm (endsL t l hs ds deed owner)∧∀ e ∈ addsE [] (trG t l deed owner ds 0 hs),∃ g,GSh l.length ks.length g∧e = g.flatten:=by
 have hg:GSh l.length ks.length hs:=⟨hok.hl,hok.rl⟩
 have hsh:=trG_sh (t:=t) (l:=l) (deed:=deed) (owner:=owner) ds 0 hs hg fun d hd => deedE_ow (hok.dE d hd)
 have hmem:∀ e,e ∈ addsE [] (trG t l deed owner ds 0 hs) ↔ ∃ g ∈ trG t l deed owner ds 0 hs,e = g.flatten:=fun e => by rw [mem_addsE];simp
 refine ⟨perm_of_mem ?_ (endsTo_nodup _ _ _ _ _ _ _) fun x => ?_,fun e he => ?_⟩
 ·rw [List.Nodup,List.pairwise_map]
  refine (nodup_addsE List.nodup_nil).imp_of_mem fun {a b} ha hb hab e => hab ?_
  obtain ⟨g,hg1,rfl⟩:=(hmem a).1 ha
  obtain ⟨g',hg2,rfl⟩:=(hmem b).1 hb
  rw [unfl_flat (hsh g hg1),unfl_flat (hsh g' hg2)] at e
  rw [firstH_inj (hsh g hg1) (hsh g' hg2) hok.n5 hok.f3 e]
 ·rw [tru_ends hok x,List.mem_map]
  constructor
  ·rintro ⟨e,he,rfl⟩
   obtain ⟨g,hg1,rfl⟩:=(hmem e).1 he
   exact ⟨g,hg1,unfl_flat (hsh g hg1)⟩
  ·rintro ⟨g,hg1,rfl⟩
   exact ⟨g.flatten,(hmem _).2 ⟨g,hg1,rfl⟩,unfl_flat (hsh g hg1)⟩
 ·obtain ⟨g,hg1,rfl⟩:=(hmem e).1 he
  exact ⟨g,hsh g hg1,rfl⟩
end Go.Proofs.YtmennjmjakdkcaaGreat
namespace Go.Proofs.YtmennjmjakdkcaaGreat
open Go.RowKit Go.MapKept
set_option linter.unusedVariables false
set_option linter.unusedSimpArgs false
set_option maxRecDepth 100000 in
set_option maxHeartbeats 1000000 in
theorem checkD_any (p:Nat) (b:Hb) (deed owner now:Int) (d:De) (w:World) (hp:w.heap[p]? = some (b.bk deed owner now)) (hin:HbIn w b) (hck:check b.t b.l = 0) :
 Calls Tryz.prog 65 #[.pointer (some ⟨p,0,none⟩),dv d] w fun e w' => e = .returned (.int .i64 (deedE b.l.length b.ks.length d))∧Below w.heap.size w w':=by
 obtain ⟨V,hV⟩:∃ V,V = w.alloc (dObj d):=⟨_,rfl⟩
 obtain ⟨g,hg⟩:∃ g,g = w.heap.size:=⟨_,rfl⟩
 have b0:V.heap[g]? = some (dObj d):=by rw [hV,hg];exact alloc_at rfl
 have hBV:Below w.heap.size w V:=by rw [hV];exact bal0 w _
 have hpV:=bheap hp hBV (Nat.le_refl _)
 have hiV:=hin.below hBV (Nat.le_refl _)
 obtain ⟨c0,c1,c2,c3,c4,c5,c6,c7,c8,c9,c10,c11⟩:=blkD b0
 have hkm:b.ks.length ≤ maxLen:=Nat.le_trans hin.kc hin.km
 have hbt:=betweenH_any d.kind 1 6 V
 have hif:=isFlock_any p b.t b.A b.l.length b.c b.Ak b.ks.length b.ck b.vh b.vd deed owner now d.flock V hpV hkm
 obtain ⟨k1,hk1⟩:∃ k1,k1 = btw d.kind 1 6:=⟨_,rfl⟩
 obtain ⟨k2,hk2⟩:∃ k2,k2 = ownB b.ks.length d.flock:=⟨_,rfl⟩
 rw [← hk1] at hbt
 rw [← hk2] at hif
 have HK:=Lib.hid (And.intro hk1.symm hk2.symm)
 have HV:=Lib.hid (And.intro hBV (And.intro b0 (And.intro hpV (And.intro hiV hck))))
 have HG:=Lib.hid hg
 clear hk1 hk2
 unfold dv
 go_enter Tryz.func65,Tryz.ntmps65
 go_upto_region 1 with (fail)
 rw [← hV,← hg]
 clear hV hg hp hin hck hBV hpV hiV b0
 cases k1 with
 | false =>
   go_wp2_with (go_at_call 102;refine hbt.mono ?_;rintro e w' ⟨rfl,rfl⟩)
   go_ret
   exact ⟨ret_int (by unfold deedE;rw [if_pos HK.out.1]),HV.out.1⟩
 | true =>
 cases k2 with
 | false =>
   go_wp2_with (first
    | (go_at_call 102;refine hbt.mono ?_;rintro e w' ⟨rfl,rfl⟩)
    | (go_at_call 79;refine hif.mono ?_;rintro e w' ⟨rfl,rfl⟩))
   go_ret
   exact ⟨ret_int (by unfold deedE;rw [if_neg (by rw [HK.out.1];simp),if_pos HK.out.2]),HV.out.1⟩
 | true =>
 have hchk:=checked_any p b deed owner now d V HV.out.2.2.1 HV.out.2.2.2.1 HV.out.2.2.2.2 (btw_iff.1 HK.out.1)
 unfold dv at hchk
 go_upto_region 6 with (first
  | (go_at_call 102;refine hbt.mono ?_;rintro e w' ⟨rfl,rfl⟩)
  | (go_at_call 79;refine hif.mono ?_;rintro e w' ⟨rfl,rfl⟩)
  | (go_at_call 107;refine hchk.mono ?_;rintro e w2 ⟨⟨x,rfl,hx⟩,hb2⟩))
 obtain ⟨Y,hY⟩:∃ Y,Y = w2.alloc (dObj x):=⟨_,rfl⟩
 obtain ⟨gx,hgx⟩:∃ gx,gx = w2.heap.size:=⟨_,rfl⟩
 have y1:Y.heap[gx]? = some (dObj x):=by rw [hY,hgx];exact alloc_at rfl
 have y0:Y.heap[g]? = some (dObj d):=by rw [hY];exact hblk_alloc (bheap HV.out.2.1 hb2 (Nat.le_refl _)) _
 have hBY:Below w.heap.size w Y:=by rw [hY];exact bal (HV.out.1.trans (hb2.mono HV.out.1.size)) (Nat.le_refl _) _
 obtain ⟨e0,e1,e2,e3,e4,e5,e6,e7,e8,e9,e10,e11⟩:=blkD y0
 obtain ⟨r0,r1,r2,r3,r4,r5,r6,r7,r8,r9,r10,r11⟩:=blkD y1
 rw [← hY,← hgx]
 have HY:=Lib.hid (And.intro hBY hx)
 clear hY hgx y1 y0 hBY hb2 hx c0 c1 c2 c3 c4 c5 c6 c7 c8 c9 c10 c11 hbt hif hchk
 obtain ⟨fe,hfe⟩:∃ fe,fe = fldE b.l.length b.ks.length d:=⟨_,rfl⟩
 have HFE:=Lib.hid hfe
 rw [← hfe]
 clear hfe
 by_cases h0:fe = 0
 ·subst h0
  have hxn:x = namD d:=HY.out.2 HFE.out.symm
  by_cases hdx:x = d
  ·have hde:deedE b.l.length b.ks.length d = 0:=by
    unfold deedE
    rw [if_neg (by rw [HK.out.1];simp),if_neg (by rw [HK.out.2];simp),if_neg (by rw [← HFE.out];simp),if_neg (fun h => h (hdx.symm.trans hxn))]
   have HDE:=Lib.hid (And.intro hde HY.out.1)
   clear HY HFE HK HV hde hxn
   subst hdx
   go_wp2_with fail
   go_ret
   exact ⟨ret_int HDE.out.1.symm,HDE.out.2⟩
  ·have hde:deedE b.l.length b.ks.length d = 1:=by
    unfold deedE
    rw [if_neg (by rw [HK.out.1];simp),if_neg (by rw [HK.out.2];simp),if_neg (by rw [← HFE.out];simp),if_pos (fun h => hdx (hxn.trans h.symm))]
   have HDE:=Lib.hid (And.intro hde (And.intro HY.out.1 hdx))
   clear HY HFE HK HV hde hxn hdx
   obtain ⟨dk,df,dow,dot,dt,dm,de,⟨dsn,dsl,dsr,dsb,dsp⟩⟩:=d
   obtain ⟨xk,xf,xow,xot,xt,xm,xe,⟨xsn,xsl,xsr,xsb,xsp⟩⟩:=x
   dsimp only at *
   go_wp2_with fail
   all_goals
    first
     | (go_ret
        exact ⟨ret_int HDE.out.1.symm,HDE.out.2.1⟩)
     | (exfalso
        subst_vars
        exact HDE.out.2.2 rfl)
 ·have x0:(fe == 0) = false:=beq_eq_false_iff_ne.2 h0
  have H0:=Lib.hid h0
  clear h0
  go_wp2_with fail
  go_ret
  refine ⟨ret_int ?_,HY.out.1⟩
  unfold deedE
  rw [if_neg (by rw [HK.out.1];simp),if_neg (by rw [HK.out.2];simp),← HFE.out,if_pos H0.out]
set_option maxRecDepth 100000 in
theorem begin_any (b:Hb) (w:World) :
 Calls Tryz.prog 63 #[b.v] w fun e w' => ∃ p,e = .returned (.pointer (some ⟨p,0,none⟩))∧w.heap.size ≤ p∧w'.heap[p]? = some (b.bk (-1) 0 0)∧Below w.heap.size w w':=by
 unfold Hb.v
 go_enter Tryz.func63,Tryz.ntmps63
 go_wp2
 go_ret
 exact ⟨_,rfl,by omega,alloc_at (by simp),bal (bal0 w _) (Nat.le_refl _) _⟩
end Go.Proofs.YtmennjmjakdkcaaGreat
namespace Go.Proofs.YtmennjmjakdkcaaGreat
open Go.RowKit Go.MapKept
set_option linter.unusedVariables false
set_option linter.unusedSimpArgs false
theorem deedsE_snoc (n nf:Nat):∀ (l:List De) (d:De),deedsE n nf l = 0→deedsE n nf (l ++ [d]) = deedE n nf d
 | [],d,_ => by unfold deedsE;simp [deedsE];intro h;exact h.symm
 | x :: l,d,h => by
   unfold deedsE at h
   split at h
   ·rename_i h1;exact absurd h h1
   ·rename_i h1
    rw [List.cons_append]
    conv => lhs;unfold deedsE
    rw [if_neg h1]
    exact deedsE_snoc n nf l d h
theorem deedsE_stop (n nf:Nat):∀ (l m:List De),deedsE n nf l ≠ 0→deedsE n nf (l ++ m) = deedsE n nf l
 | [],m,h => absurd rfl h
 | x :: l,m,h => by
   rw [List.cons_append]
   unfold deedsE at h ⊢
   split
   ·rfl
   ·rename_i h1
    rw [if_neg h1] at h
    exact deedsE_stop n nf l m h
theorem blk5c {w:World} {b:Nat} {t:TypeId} {v0 v1 v2 v3 v4:Value} (h:w.heap[b]? = some (.cells #[v0,v1,v2,v3,v4] t (0,0))):w.cell? ⟨b,0,none⟩ = some v0∧w.cell? ⟨b,1,none⟩ = some v1∧w.cell? ⟨b,2,none⟩ = some v2∧w.cell? ⟨b,3,none⟩ = some v3∧w.cell? ⟨b,4,none⟩ = some v4:=blk5 h
abbrev Hb.obj (b:Hb):Obj:=.cells #[.int .i64 b.t,.slice b.A b.l.length b.c,.slice b.Ak b.ks.length b.ck,.slice b.Ah b.hs.length b.ch,.slice b.Ad b.ds.length b.cd] 29 (0,0)
set_option maxRecDepth 100000 in
set_option maxHeartbeats 1000000 in
theorem CheckH_any (b:Hb) (w:World) (hin:HbIn w b) :
 Calls Tryz.prog 17 #[b.v] w fun e w' => e = .returned (.int .i64 b.chk)∧Below w.heap.size w w':=by
 obtain ⟨V,hV⟩:∃ V,V = w.alloc b.obj:=⟨_,rfl⟩
 obtain ⟨g,hg⟩:∃ g,g = w.heap.size:=⟨_,rfl⟩
 have b0:V.heap[g]? = some b.obj:=by rw [hV,hg];exact alloc_at rfl
 have hBV:Below w.heap.size w V:=by rw [hV];exact bal0 w _
 have hiV:=hin.below hBV (Nat.le_refl _)
 obtain ⟨c0,c1,c2,c3,c4⟩:=blk5c b0
 have hmk:=check_any b.t b.A b.l.length b.c b.l V hiV.m hiV.mc hiV.mm
 have HV:=Lib.hid (And.intro hBV (And.intro b0 (And.intro hiV hg)))
 have hdm:b.ds.length ≤ maxLen:=Nat.le_trans hin.dc hin.dm
 unfold maxLen at hdm
 unfold Hb.v
 go_enter Tryz.func17,Tryz.ntmps17
 go_upto_region 1 with (fail)
 rw [← hV,← hg]
 clear hV hg hin hBV hiV b0
 obtain ⟨ck,hck⟩:∃ ck,ck = check b.t b.l:=⟨_,rfl⟩
 rw [← hck] at hmk
 by_cases h0:ck = 0
 ·subst h0
  have HCK:=Lib.hid hck.symm
  clear hck
  go_upto_region 4 with (go_at_call 62;refine hmk.mono ?_;rintro e w2 ⟨rfl,hb2⟩)
  have x0:=bheap HV.out.2.1 hb2 (Nat.le_refl _)
  have hi2:=HV.out.2.2.1.below hb2 (Nat.le_refl _)
  have hB2:=HV.out.1.trans (hb2.mono HV.out.1.size)
  clear c0 c1 c2 c3 c4 hmk hb2
  obtain ⟨c0,c1,c2,c3,c4⟩:=blk5c x0
  have H2:=Lib.hid (And.intro hB2 (And.intro x0 hi2))
  clear x0 hi2 hB2
  have hbg:=begin_any b w2
  unfold Hb.v at hbg
  go_upto_region 5 with (go_at_call 63;refine hbg.mono ?_;rintro e w3 ⟨p,rfl,hp,hpb,hb3⟩)
  have x0:=bheap H2.out.2.1 hb3 (Nat.le_refl _)
  have hi3:=H2.out.2.2.below hb3 (Nat.le_refl _)
  have hB3:=H2.out.1.trans (hb3.mono H2.out.1.size)
  have hfl:=flocks_any p b (-1) 0 0 w3 hpb hi3
  clear c0 c1 c2 c3 c4 hbg hb3 hp
  obtain ⟨c0,c1,c2,c3,c4⟩:=blk5c x0
  have H3:=Lib.hid (And.intro hB3 (And.intro x0 (And.intro hi3 hpb)))
  clear x0 hi3 hB3 hpb
  obtain ⟨fe,hfe⟩:∃ fe,fe = flocksE b.l.length b.ks b.hs:=⟨_,rfl⟩
  rw [← hfe] at hfl
  by_cases hf0:fe = 0
  ·subst hf0
   have HFE:=Lib.hid hfe.symm
   clear hfe
   have hchk:b.chk = if 6 < b.ds.length then 6 else deedsE b.l.length b.ks.length b.ds:=by
    unfold Hb.chk checkH
    rw [if_neg (by rw [HCK.out];simp),if_neg (by rw [HFE.out];simp)]
   have HCH:=Lib.hid hchk
   clear hchk
   by_cases h6:6 < b.ds.length
   ·have x6:decide (6 < (b.ds.length:Int)) = true:=by simp;omega
    have HL:=Lib.hid h6
    clear h6
    go_wp2_with (go_at_call 64;refine hfl.mono ?_;rintro e w' ⟨rfl,rfl⟩)
    go_ret
    exact ⟨ret_int (by rw [HCH.out,if_pos HL.out]),H3.out.1⟩
   ·have x6:decide (6 < (b.ds.length:Int)) = false:=by simp;omega
    have HL:=Lib.hid h6
    clear h6
    obtain ⟨Ad,hAd⟩:∃ Ad,Ad = b.Ad:=⟨_,rfl⟩
    rw [← hAd] at c4
    have hG:=H3.out.2.2.1.d
    rw [← hAd] at hG
    obtain ⟨nd,hnd⟩:∃ nd,nd = b.ds.length:=⟨_,rfl⟩
    rw [← hnd] at c4 hG x6 hdm
    have HND:=Lib.hid hnd
    have hg3:p < w3.heap.size:=heap_lt H3.out.2.2.2
    clear hAd hnd
    go_wp2_with (go_at_call 64;refine hfl.mono ?_;rintro e w' ⟨rfl,rfl⟩)
    go_loopg [29] nd (fun g v wr => ∃ k:Nat,k + g = nd∧v = .int .i64 k∧deedsE b.l.length b.ks.length (b.ds.take k) = 0∧Below w3.heap.size w3 wr)
    case atStart => exact ⟨0,by omega,rfl,rfl,Below.refl _ _⟩
    case round =>
     obtain ⟨k,hk,rfl,hall,hBr⟩:=hrel
     have HK:=Lib.hid (And.intro hk (And.intro hall hBr))
     by_cases hlt:k < nd
     ·obtain ⟨bi,oi,d,hA,hbi,hdk,d0,d1,d2,d3,d4,d5,d6,d7,d8,d9,d10,d11⟩:=Deeds.get (hG.below hBr (Nat.le_refl _)) hlt
      subst hA
      have HD:=Lib.hid hdk
      have bz:(wr.alloc dZ).heap[wr.heap.size]? = some dZ:=alloc_at rfl
      clear hk hall hBr hbi hdk
      go_upto_region 13 with ((with_reducible apply wp_storeD bz rfl);(rfl);(rfl);(rfl);(rfl);intro w5 b5 g5 z5)
      obtain ⟨gx,hgx⟩:∃ gx,gx = wr.heap.size:=⟨_,rfl⟩
      have hg5:wr.grownBy w5 none:=⟨g5.os,g5.tape,g5.output,by rw [z5];simp,fun j hj _ => (g5.block j (by simp;omega) (fun e => by cases e;omega)).trans (Below.heap_alloc _ _ _ hj)⟩
      have hB5:Below w3.heap.size w3 w5:=HK.out.2.2.trans ((Below.refl _ _).grown hg5 HK.out.2.2.size (fun k e => by cases e))
      have hcd:=checkD_any p b (-1) 0 0 d w5 (bheap H3.out.2.2.2 hB5 (Nat.le_refl _)) (H3.out.2.2.1.below hB5 (Nat.le_refl _)) HCK.out
      unfold dv at hcd
      obtain ⟨de,hde⟩:∃ de,de = deedE b.l.length b.ks.length d:=⟨_,rfl⟩
      rw [← hde] at hcd
      rw [← hgx] at b5 ⊢
      obtain ⟨y0,y1,y2,y3,y4,y5,y6,y7,y8,y9,y10,y11⟩:=blkD b5
      have H5:=Lib.hid hB5
      clear hgx z5 g5 hg5 hB5 bz b5 d0 d1 d2 d3 d4 d5 d6 d7 d8 d9 d10 d11
      have htk:b.ds.take (k + 1) = b.ds.take k ++ [d]:=by rw [List.take_add_one,HD.out];rfl
      have HTK:=Lib.hid htk
      clear htk
      by_cases hd0:de = 0
      ·subst hd0
       have HDE:=Lib.hid hde.symm
       clear hde
       go_wp2_with (go_at_call 65;refine hcd.mono ?_;rintro e w6 ⟨rfl,hb6⟩)
       go_roundg (gk - 1)
       case measure => have:=HK.out.1;omega
       case rel => exact ⟨k + 1,by have:=HK.out.1;omega,by go_num,by rw [HTK.out,deedsE_snoc _ _ _ _ HK.out.2.1];exact HDE.out,H5.out.trans (hb6.mono H5.out.size)⟩
      ·have xd:(de != 0) = true:=by simp [hd0]
       have HD0:=Lib.hid (And.intro hd0 hde)
       clear hd0 hde
       go_wp2_with (go_at_call 65;refine hcd.mono ?_;rintro e w6 ⟨rfl,hb6⟩)
       go_ret
       refine ⟨ret_int ?_,H3.out.1.trans ((H5.out.trans (hb6.mono H5.out.size)).mono H3.out.1.size)⟩
       rw [HCH.out,if_neg HL.out,← List.take_append_drop (k + 1) b.ds,deedsE_stop,HTK.out,deedsE_snoc _ _ _ _ HK.out.2.1]
       ·exact HD0.out.2
       ·rw [HTK.out,deedsE_snoc _ _ _ _ HK.out.2.1,← HD0.out.2];exact HD0.out.1
     ·obtain rfl:k = nd:=by omega
      have HE:=Lib.hid (show b.chk = 0 by rw [HCH.out,if_neg HL.out];have:=HK.out.2.1;rw [HND.out,List.take_length] at this;exact this)
      have HB:=Lib.hid (H3.out.1.trans (hBr.mono H3.out.1.size))
      clear hk hall hBr
      go_wp2_with fail
      go_ret
      exact ⟨ret_int HE.out.symm,HB.out⟩
  ·have xf:(fe != 0) = true:=by simp [hf0]
   have HF0:=Lib.hid (And.intro hf0 hfe)
   clear hf0 hfe
   go_wp2_with (go_at_call 64;refine hfl.mono ?_;rintro e w' ⟨rfl,rfl⟩)
   go_ret
   refine ⟨ret_int ?_,H3.out.1⟩
   unfold Hb.chk checkH
   rw [if_neg (by rw [HCK.out];simp),← HF0.out.2,if_pos HF0.out.1]
 ·have xf:(ck != 0) = true:=by simp [h0]
  have HF0:=Lib.hid (And.intro h0 hck)
  clear h0 hck
  go_wp2_with (go_at_call 62;refine hmk.mono ?_;rintro e w2 ⟨rfl,hb2⟩)
  go_ret
  refine ⟨ret_int ?_,HV.out.1.trans (hb2.mono HV.out.1.size)⟩
  unfold Hb.chk checkH
  rw [← HF0.out.2,if_pos HF0.out.1]
def AskedR (b:Hb) (ck:Int) (w:World) (e:Ending) (w':World):Prop:=(ck ≠ 0∧e = .returned (.tuple #[.pointer none,.int .i64 ck])∧Below w.heap.size w w') ∨
 (ck = 0∧∃ p,e = .returned (.tuple #[.pointer (some ⟨p,0,none⟩),.int .i64 0])∧Work w p b (-1) 0 w'∧Below w.heap.size w w')
set_option maxRecDepth 100000 in
set_option maxHeartbeats 1000000 in
theorem asked_any (b:Hb) (w:World) (hin:HbIn w b) :
 Calls Tryz.prog 55 #[b.v] w (AskedR b b.chk w):=by
 obtain ⟨V,hV⟩:∃ V,V = w.alloc b.obj:=⟨_,rfl⟩
 obtain ⟨g,hg⟩:∃ g,g = w.heap.size:=⟨_,rfl⟩
 have b0:V.heap[g]? = some b.obj:=by rw [hV,hg];exact alloc_at rfl
 have hBV:Below w.heap.size w V:=by rw [hV];exact bal0 w _
 have hiV:=hin.below hBV (Nat.le_refl _)
 obtain ⟨c0,c1,c2,c3,c4⟩:=blk5c b0
 have hck:=CheckH_any b V hiV
 unfold Hb.v at hck
 obtain ⟨ce,hce⟩:∃ ce,ce = b.chk:=⟨_,rfl⟩
 rw [← hce] at hck ⊢
 have HV:=Lib.hid (And.intro hBV (And.intro b0 (And.intro hin (And.intro hg hce.symm))))
 unfold Hb.v
 go_enter Tryz.func55,Tryz.ntmps55
 go_upto_region 1 with (fail)
 rw [← hV,← hg]
 clear hV hg hin hBV hiV b0 hce
 by_cases h0:ce = 0
 ·subst h0
  go_upto_region 4 with (go_at_call 17;refine hck.mono ?_;rintro e w2 ⟨rfl,hb2⟩)
  have x0:=bheap HV.out.2.1 hb2 (Nat.le_refl _)
  have hB2:=HV.out.1.trans (hb2.mono HV.out.1.size)
  clear c0 c1 c2 c3 c4 hck hb2
  obtain ⟨c0,c1,c2,c3,c4⟩:=blk5c x0
  have H2:=Lib.hid hB2
  have hbg:=begin_any b w2
  unfold Hb.v at hbg
  clear x0 hB2
  go_wp2_with (go_at_call 63;refine hbg.mono ?_;rintro e w3 ⟨p,rfl,hp,hpb,hb3⟩)
  go_ret2
  have hB3:=H2.out.trans (hb3.mono H2.out.size)
  exact .inr ⟨rfl,p,rfl,⟨HV.out.2.2.1,Nat.le_trans H2.out.size hp,hB3,⟨_,hpb⟩,HV.out.2.2.2.2⟩,hB3⟩
 ·have xf:(ce != 0) = true:=by simp [h0]
  have H0:=Lib.hid h0
  clear h0
  go_wp2_with (go_at_call 17;refine hck.mono ?_;rintro e w2 ⟨rfl,hb2⟩)
  go_ret2
  exact .inl ⟨H0.out,rfl,HV.out.1.trans (hb2.mono HV.out.1.size)⟩
end Go.Proofs.YtmennjmjakdkcaaGreat
namespace Go.Proofs.YtmennjmjakdkcaaGreat
open Go.RowKit
set_option linter.unusedVariables false
set_option linter.unusedSimpArgs false
def TBw (j:Nat) (w w':World):Prop:=Below w.heap.size w w'
theorem TBw.rf {j:Nat} (w:World):TBw j w w:=Below.refl _ _
def PBw (ws:World) (k:Nat) (w:World):Prop:=Below ws.heap.size ws w
theorem PBw.st {ws:World} (k i:Nat) (w w':World) (hT:TBw i w w') (hp:PBw ws k w):PBw ws k w':=Below.trans hp (Below.mono hT (Below.size hp))
def FOI (base:Nat) (l:List Int):VF:=fun v w => OwnI w base v l
def FOD (base:Nat) (l:List De):VF:=fun v w => OwnD w base v l
theorem FOI.st {base:Nat} {l:List Int} (i:Nat) (v:Value) (w w':World) (hT:TBw i w w') (h:FOI base l v w):FOI base l v w':=Own.below h hT (Nat.le_refl _)
theorem FOD.st {base:Nat} {l:List De} (i:Nat) (v:Value) (w w':World) (hT:TBw i w w') (h:FOD base l v w):FOD base l v w':=Own.below h hT (Nat.le_refl _)
def RwM (R n:Nat) (ls:List (List Int)) (k:Nat) (w:World):Prop :=
 ∃ mv:List Value,mv.length = n∧w.heap[R]? = some (.cells mv.toArray 25 (0,0))∧∀ i v,i < k→mv[i]? = some v→∃ l,ls[i]? = some l∧OwnI w (R + 1) v l
theorem RwM.start {R n:Nat} {ls:List (List Int)} {w w':World} (hR:R = w.heap.size) (h:w' = w.alloc (.cells (madeCells #[.slice none 0 0] n) 25)):RwM R n ls 0 w':=by
 subst hR h
 refine ⟨List.replicate n (.slice none 0 0),by simp,?_,fun i v hi => by omega⟩
 rw [show (List.replicate n (Value.slice none 0 0)).toArray = madeCells #[.slice none 0 0] n by
  apply Array.ext
  ·simp [size_madeCells]
  ·intro i h1 h2
   simp [madeCells,Nat.mod_one]]
 exact alloc_at rfl
theorem RwM.next {R n k:Nat} {ls:List (List Int)} {w w':World} {v:Value} {l:List Int} (h:RwM R n ls k w) (hb:Below w.heap.size w w') (hl:ls[k]? = some l) (hv:OwnI w' (R + 1) v l) (hk:k < n):RwM R n ls (k + 1) (w'.setCell ⟨R,k,none⟩ v):=by
 obtain ⟨mv,h1,h2,h3⟩:=h
 have hup:∀ j,R + 1 ≤ j→(w'.setCell ⟨R,k,none⟩ v).heap[j]? = w'.heap[j]?:=fun j hj => Below.heap_setCell w' ⟨R,k,none⟩ _ j (by dsimp;omega)
 refine ⟨mv.set k v,by simpa using h1,?_,fun i u hi hu => ?_⟩
 ·rw [set_blk (bheap h2 hb (Nat.le_refl _)),List.setIfInBounds_toArray]
 ·rcases Nat.lt_or_ge i k with hik | hik
  ·rw [List.getElem?_set_ne (by omega)] at hu
   obtain ⟨l',hl',ho⟩:=h3 i u hik hu
   exact ⟨l',hl',(ho.below hb (Nat.le_refl _)).upon hup⟩
  ·obtain rfl:i = k:=by omega
   rw [List.getElem?_set_self (by omega)] at hu
   cases hu
   exact ⟨l,hl,hv.upon hup⟩
theorem RwM.upon {R n k:Nat} {ls:List (List Int)} {w w':World} (h:RwM R n ls k w) (hup:∀ j,R ≤ j→w'.heap[j]? = w.heap[j]?):RwM R n ls k w':=by
 obtain ⟨mv,h1,h2,h3⟩:=h
 refine ⟨mv,h1,(hup R (Nat.le_refl _)).trans h2,fun i v hi hv => ?_⟩
 obtain ⟨l,hl,ho⟩:=h3 i v hi hv
 exact ⟨l,hl,ho.upon fun j hj => hup j (by omega)⟩
theorem RwM.fin {R n base:Nat} {ls:List (List Int)} {w:World} (h:RwM R n ls n w) (hn:ls.length = n) (hb:base ≤ R) (hm:n ≤ maxLen):OwnG w base (.slice (some ⟨R,0,none⟩) n n) ls:=by
 obtain ⟨mv,h1,h2,h3⟩:=h
 refine ⟨mv,⟨by rw [lenFlatVal,Nat.mul_one],.inr ⟨R,n,mv.toArray,by rw [h1],hb,h2,by omega,hm,by simp [h1],?_⟩⟩,by rw [h1,hn],fun i v hv => ?_⟩
 ·rw [Nat.mul_one,List.take_of_length_le (by simp)]
  have:∀ x:List Value,x.flatMap eVal = x:=fun x => by
   induction x with
   | nil => rfl
   | cons a r ih => rw [List.flatMap_cons,ih];rfl
  rw [this]
 ·obtain ⟨l,hl,ho⟩:=h3 i v (by have:=(List.getElem?_eq_some_iff.1 hv).1;omega) hv
  exact ⟨l,hl,ho.mono (by omega)⟩
end Go.Proofs.YtmennjmjakdkcaaGreat
namespace Go.Proofs.YtmennjmjakdkcaaGreat
open Go.RowKit
set_option linter.unusedVariables false
set_option linter.unusedSimpArgs false
structure HbZ (w:World) (b:Hb):Prop where
 m:b.A = none→b.c = 0
 k:b.Ak = none→b.ck = 0
 h:GridZ w b.Ah b.hs.length b.hs
 d:b.Ad = none→b.cd = 0
theorem HbZ.below {w w':World} {b:Hb} {B:Nat} (h:HbZ w b) (hb:Below B w w') (hB:w.heap.size ≤ B):HbZ w' b:=⟨h.m,h.k,h.h.below hb hB,h.d⟩
theorem HbO.z {w:World} {base:Nat} {b:Hb} (h:HbO w base b):HbZ w b:=by
 obtain ⟨A1,c1,e1,-,-,-,z1⟩:=h.m.formZ lenMk
 obtain ⟨A2,c2,e2,-,-,-,z2⟩:=h.k.formZ lenInt
 obtain ⟨A3,c3,e3,g3,-,-,z3⟩:=h.h.formZ
 obtain ⟨A4,c4,e4,-,-,-,z4⟩:=h.d.formZ lenDe
 injection e1 with a1 _ b1
 injection e2 with a2 _ b2
 injection e3 with a3 _ b3
 injection e4 with a4 _ b4
 exact ⟨fun e => by rw [b1];exact z1 (a1 ▸ e),fun e => by rw [b2];exact z2 (a2 ▸ e),a3 ▸ g3,fun e => by rw [b4];exact z4 (a4 ▸ e)⟩
def FOG (base:Nat) (l:List (List Int)):VF:=fun v w => OwnG w base v l
theorem FOG.st {base:Nat} {l:List (List Int)} (i:Nat) (v:Value) (w w':World) (hT:TBw i w w') (h:FOG base l v w):FOG base l v w':=OwnG.below h hT (Nat.le_refl _)
def FE0 (base:Nat):VF:=fun v w => ∃ q:Nat,v = .slice (some ⟨q,0,none⟩) 0 0∧base ≤ q∧w.heap[q]? = some (.cells #[] 33 (0,0))
theorem FE0.st {base:Nat} (i:Nat) (v:Value) (w w':World) (hT:TBw i w w') (h:FE0 base v w):FE0 base v w':=by
 obtain ⟨q,h1,h2,h3⟩:=h
 exact ⟨q,h1,h2,bheap h3 hT (Nat.le_refl _)⟩
end Go.Proofs.YtmennjmjakdkcaaGreat
namespace Go.Proofs.YtmennjmjakdkcaaGreat
open Go.RowKit
set_option linter.unusedVariables false
set_option linter.unusedSimpArgs false
theorem gb_ofB {w w':World} {row:Option Nat} (h:Below w.heap.size w w'):w.grownBy w' row:=⟨h.os,h.tape,h.output,h.size,fun j hj _ => h.block j hj⟩
structure TruI (b:Hb) (z:Nat) (gs:List (List Int)) (Ag:Option Addr) (v:Value) (E:List (List Int)) (w:World):Prop where
 own:OwnG w z v E
 zw:z ≤ w.heap.size
 keep:∀ w',w.grownBy w' v.ownBlock→GridZ w' Ag gs.length gs∧HbIn w' b
structure TruE (z:Nat) (v:Value) (w:World) (v':Value) (E':List (List Int)) (w':World):Prop where
 own:OwnG w' z v' E'
 gr:w.grownBy w' v.ownBlock
 lies:∀ k,v'.ownBlock = some k→v.ownBlock = some k ∨ w.heap.size ≤ k
def TruR (z:Nat) (v:Value) (E':List (List Int)) (w:World) (e:Ending) (w':World):Prop:=∃ v',e = .returned v'∧TruE z v w v' E' w'
section
variable {b:Hb} {z:Nat} {gs:List (List Int)} {Ag:Option Addr} {v v' v'':Value} {E E' E'':List (List Int)} {w w' w'':World}
theorem TruI.at (h:TruI b z gs Ag v E w):GridZ w Ag gs.length gs∧HbIn w b:=h.keep w (World.grownBy.refl _ _)
theorem TruI.below (h:TruI b z gs Ag v E w) (hb:Below w.heap.size w w'):TruI b z gs Ag v E w' :=
 ⟨h.own.below hb (Nat.le_refl _),Nat.le_trans h.zw hb.size,fun w'' hg => h.keep w'' ((gb_ofB hb).trans hg)⟩
theorem TruE.trans (h:TruE z v w v' E' w') (k:TruE z v' w' v'' E'' w''):TruE z v w v'' E'' w'':=by
 refine ⟨k.own,⟨k.gr.os.trans h.gr.os,k.gr.tape.trans h.gr.tape,k.gr.output.trans h.gr.output,Nat.le_trans h.gr.size k.gr.size,fun j hj hne => ?_⟩,fun j hj => ?_⟩
 ·refine (k.gr.block j (Nat.lt_of_lt_of_le hj h.gr.size) (fun e => ?_)).trans (h.gr.block j hj hne)
  rcases h.lies j e.symm with h1 | h1
  ·exact hne h1.symm
  ·omega
 ·rcases k.lies j hj with h1 | h1
  ·exact h.lies j h1
  ·exact .inr (Nat.le_trans h.gr.size h1)
theorem TruE.refl (h:OwnG w z v E):TruE z v w v E w:=⟨h,World.grownBy.refl _ _,fun k hk => .inl hk⟩
theorem TruE.before (hb:Below w.heap.size w w') (h:TruE z v w' v' E' w''):TruE z v w v' E' w'' :=
 ⟨h.own,(gb_ofB hb).trans h.gr,fun k hk => (h.lies k hk).imp id fun h1 => Nat.le_trans hb.size h1⟩
theorem TruE.then (h:TruE z v w v' E' w') (hb:Below w'.heap.size w' w''):TruE z v w v' E' w'':=⟨h.own.below hb (Nat.le_refl _),h.gr.trans (gb_ofB hb),h.lies⟩
theorem TruI.step (h:TruI b z gs Ag v E w) (k:TruE z v w v' E' w'):TruI b z gs Ag v' E' w':=by
 refine ⟨k.own,Nat.le_trans h.zw k.gr.size,fun w'' hg => h.keep w'' ⟨hg.os.trans k.gr.os,hg.tape.trans k.gr.tape,hg.output.trans k.gr.output,Nat.le_trans k.gr.size hg.size,fun j hj hne => ?_⟩⟩
 refine (hg.block j (Nat.lt_of_lt_of_le hj k.gr.size) (fun e => ?_)).trans (k.gr.block j hj hne)
 rcases k.lies j e.symm with h1 | h1
 ·exact hne h1.symm
 ·omega
end
theorem TruI.next {b:Hb} {z:Nat} {gs gs':List (List Int)} {Ag An:Option Addr} {cn:Nat} {v:Value} {E:List (List Int)} {w1 W:World} (h:TruI b z gs Ag v E w1) (hB:Below w1.heap.size w1 W) (hE:EndG W w1.heap.size (.slice An gs'.length cn) gs'):TruI b z gs' An v E W:=by
 have hk:=h.below hB
 refine ⟨hk.own,hk.zw,fun w' hg => ⟨?_,(hk.keep w' hg).2⟩⟩
 obtain ⟨mv,ho,-⟩:=h.own
 have hE':=hE.grown hg fun k e => (ho.lt k e).2
 obtain ⟨A,c,e,hz,-,-,-⟩:=hE'.ownG.formZ
 injection e with e1 _ _
 rw [e1]
 exact hz
theorem trG_one {t:Int} {l:List Mk} {deed owner:Int} {ds:List De} {i:Nat} {gs g:List (List Int)} {d:De} (hn:nnG gs = true) (hd:ds[i]? = some d) (hs:stepG t l deed owner i d gs = [g]):trG t l deed owner (ds.drop i) i gs = trG t l deed owner (ds.drop (i + 1)) (i + 1) g:=by
 obtain ⟨hi,e⟩:=List.getElem?_eq_some_iff.1 hd
 rw [List.drop_eq_getElem_cons hi,e]
 show (if nnG gs then (stepG t l deed owner i d gs).flatMap (trG t l deed owner (ds.drop (i + 1)) (i + 1)) else []) = _
 rw [if_pos hn,hs]
 simp
theorem trG_gen {t:Int} {l:List Mk} {deed owner:Int} {ds:List De} {i:Nat} {gs:List (List Int)} {d:De} (hn:nnG gs = true) (hd:ds[i]? = some d):trG t l deed owner (ds.drop i) i gs = (stepG t l deed owner i d gs).flatMap (trG t l deed owner (ds.drop (i + 1)) (i + 1)):=by
 obtain ⟨hi,e⟩:=List.getElem?_eq_some_iff.1 hd
 rw [List.drop_eq_getElem_cons hi,e]
 show (if nnG gs then _ else []) = _
 rw [if_pos hn]
def BdG (B:Int) (gs:List (List Int)):Prop:=∀ r ∈ gs,∀ x ∈ r,-B ≤ x∧x ≤ B
theorem BdG.add {B K:Int} {gs:List (List Int)} {f o:Nat} {k:Int} (h:BdG B gs) (hk:-K ≤ k∧k ≤ K) (hK:0 ≤ K) (hB:0 ≤ B):BdG (B + K) (addG gs f o k):=by
 intro r hr x hx
 unfold addG at hr
 rcases List.mem_or_eq_of_mem_set hr with hr | rfl
 ·have:=h r hr x hx;omega
 ·rcases List.mem_or_eq_of_mem_set hx with hx | rfl
  ·rw [List.getD_eq_getElem?_getD] at hx
   cases hg:gs[f]? with
   | none => rw [hg] at hx;cases hx
   | some q =>
     rw [hg] at hx
     have:=h q (List.mem_of_getElem? hg) x hx;omega
  ·have hg:-B ≤ getG gs f o∧getG gs f o ≤ B:=by
    unfold getG
    rw [List.getD_eq_getElem?_getD,List.getD_eq_getElem?_getD]
    cases hg:gs[f]? with
    | none => simp;omega
    | some q =>
      simp only [Option.getD_some]
      cases ho:q[o]? with
      | none => simp;omega
      | some y => exact h q (List.mem_of_getElem? hg) y (List.mem_of_getElem? ho)
   omega
theorem getG_bd {B:Int} {gs:List (List Int)} (h:BdG B gs) (hB:0 ≤ B) (f o:Nat):-B ≤ getG gs f o∧getG gs f o ≤ B:=by
 unfold getG
 rw [List.getD_eq_getElem?_getD,List.getD_eq_getElem?_getD]
 cases hg:gs[f]? with
 | none => simp;omega
 | some q =>
   simp only [Option.getD_some]
   cases ho:q[o]? with
   | none => simp;omega
   | some y => exact h q (List.mem_of_getElem? hg) y (List.mem_of_getElem? ho)
theorem EndG.turn {w2:World} {base bn on0 k cn g cg' n fn on nq:Nat} {gs:List (List Int)} {x y:Int} (hen:EndG w2 base (.slice (some ⟨bn,on0,none⟩) k cn) gs) (hfg:fn < gs.length) (hrl:(gs.getD fn []).length = n) (hol:on < n) (hx:x = getG gs fn on)
 (yr:w2.cell? ⟨bn,on0 + fn,none⟩ = some (.slice (some ⟨g,0,none⟩) n cg')):EndG ((w2.drewN nq).setCell ⟨g,on,none⟩ (.int .i64 (x + y))) base (.slice (some ⟨bn,on0,none⟩) k cn) (addG gs fn on y):=by
 have hq:EndG (w2.drewN nq) base (.slice (some ⟨bn,on0,none⟩) k cn) gs:=hen.upon fun _ _ => rfl
 obtain ⟨bn',on',cn',g',cg'',e,yr',-,-,-,-,-,-,hput⟩:=hq.at (f:=fn) (o:=on) hfg (by rw [hrl];exact hol)
 injection e with e1 e2 e3
 injection e1 with e1
 injection e1 with e1 e4 _
 subst e1 e4
 have hyy:(w2.drewN nq).cell? ⟨bn,on0 + fn,none⟩ = some (.slice (some ⟨g,0,none⟩) n cg'):=yr
 rw [hyy] at yr'
 injection yr' with y1
 injection y1 with y1 _ _
 injection y1 with y1
 injection y1 with y1 _ _
 subst y1
 have h:=hput (x + y)
 unfold addG
 rw [← hx]
 exact h
theorem BdG.mono {B C:Int} {gs:List (List Int)} (h:BdG B gs) (hc:B ≤ C):BdG C gs:=fun r hr x hx => by have:=h r hr x hx;omega
def TruC (b:Hb) (deed owner:Int) (m:Nat):Prop:=∀ (i:Nat),i + m = b.ds.length→∀ (z:Nat) (gs:List (List Int)) (Ag:Option Addr) (cg:Nat) (v:Value) (E:List (List Int)) (w:World),
 GSh b.l.length b.ks.length gs→BdG (20 + 20 * i) gs→gs.length ≤ cg→cg ≤ maxLen→TruI b z gs Ag v E w→E.length + 35 ^ m ≤ 35 ^ 6 →
 Calls Tryz.prog 28 #[b.v,.int .i64 i,.slice Ag gs.length cg,.int .i64 deed,.int .i64 owner,v] w (TruR z v (addsE E (trG b.t b.l deed owner (b.ds.drop i) i gs)) w)
theorem flat_sh_len {n:Nat}:∀ {gs:List (List Int)},(∀ r ∈ gs,r.length = n)→gs.flatten.length = gs.length * n
 | [],_ => by simp
 | r :: gs,h => by
   rw [List.flatten_cons,List.length_append,flat_sh_len fun r hr => h r (List.mem_cons_of_mem _ hr),h r List.mem_cons_self,List.length_cons,Nat.succ_mul]
   omega
theorem take_flat {gs:List (List Int)} {k:Nat} {r:List Int} (h:gs[k]? = some r):(gs.take (k + 1)).flatten = (gs.take k).flatten ++ r:=by
 rw [List.take_add_one,h,List.flatten_append];simp
theorem take_flat_len {n:Nat} {gs:List (List Int)} (h:∀ r ∈ gs,r.length = n) (k:Nat):(gs.take k).flatten.length ≤ gs.length * n:=by
 rw [flat_sh_len fun r hr => h r (List.mem_of_mem_take hr),List.length_take]
 exact Nat.mul_le_mul_right _ (Nat.min_le_right _ _)
theorem trG_no {t:Int} {l:List Mk} {deed owner:Int} {ds:List De} {i:Nat} {gs:List (List Int)} (h:¬ nnG gs = true):trG t l deed owner ds i gs = []:=by
 cases ds with
 | nil => exact if_neg h
 | cons d ds => exact if_neg h
end Go.Proofs.YtmennjmjakdkcaaGreat
