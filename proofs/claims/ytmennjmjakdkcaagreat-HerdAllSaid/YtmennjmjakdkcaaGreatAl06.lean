/- HerdAll 6: ConL, HdM. -/
import Derived.Test.YtmennjmjakdkcaaGreatAl04
import Derived.Test.YtmennjmjakdkcaaGreatAl02
import Derived.Maps.Own
import Derived.Maps.OwnOps
import Derived.Maps.RangeWalk
import Derived.DeepKeys4
namespace Go.Proofs.YtmennjmjakdkcaaGreat
set_option linter.unusedVariables false
set_option linter.unusedSimpArgs false
def sumN (f:Nat→Int):Nat→Int
 | 0 => 0
 | k + 1 => sumN f k + f k
theorem sumN_add (f g:Nat→Int):∀ n,sumN (fun o => f o + g o) n = sumN f n + sumN g n
 | 0 => rfl
 | n + 1 => by have:=sumN_add f g n;unfold sumN;omega
theorem sumN_congr {f g:Nat→Int}:∀ {n:Nat},(∀ o,o < n→f o = g o)→sumN f n = sumN g n
 | 0,_ => rfl
 | n + 1,h => by
   unfold sumN
   rw [sumN_congr fun o ho => h o (by omega),h n (by omega)]
theorem sumN_le {f g:Nat→Int}:∀ {n:Nat},(∀ o,o < n→f o ≤ g o)→sumN f n ≤ sumN g n
 | 0,_ => Int.le_refl _
 | n + 1,h => by
   have:=sumN_le (n:=n) fun o ho => h o (by omega)
   have:=h n (by omega)
   unfold sumN
   omega
theorem sumN_zero:∀ n,sumN (fun _ => 0) n = 0
 | 0 => rfl
 | n + 1 => by unfold sumN;rw [sumN_zero n];rfl
theorem sumN_one (m:Int) {x:Int} (h0:0 ≤ x):∀ n:Nat,sumN (fun o => if x = (o:Int) then m else 0) n = if x < n then m else 0
 | 0 => by rw [if_neg (by omega)];rfl
 | n + 1 => by
   unfold sumN
   rw [sumN_one m h0 n]
   by_cases h1:x < n
   ·rw [if_pos h1,if_neg (by omega),if_pos (by omega)];omega
   ·rw [if_neg h1]
    by_cases h2:x = n
    ·rw [if_pos h2,if_pos (by omega)];omega
    ·rw [if_neg h2,if_neg (by omega)];omega
structure Shp (n nf:Nat) (x:List Int):Prop where
 l:x.length = 15
 z:∀ f o,f < 3→o < 5→nf ≤ f ∨ n ≤ o→hget x f o = 0
theorem Shp.add {n nf:Nat} {x:List Int} (h:Shp n nf x) {f o:Nat} (hf:f < nf) (ho:o < n) (hf3:f < 3) (ho5:o < 5) (k:Int):Shp n nf (hadd x f o k) :=
 ⟨hadd_l h.l,fun f' o' h1 h2 h3 => by rw [hget_hadd h.l hf3 ho5 h2,if_neg (by omega)];exact h.z f' o' h1 h2 h3⟩
theorem Shp.first {n nf:Nat} {hs:List (List Int)} (h:GSh n nf hs):Shp n nf (firstH hs):=by
 refine ⟨firstH_l hs,fun f o h1 h2 h3 => ?_⟩
 rw [firstH_get hs h1 h2]
 unfold getG
 by_cases hf:f < nf
 ·rw [List.getD_eq_getElem?_getD,List.getElem?_eq_none (by rw [h.row hf];omega)]
  rfl
 ·rw [List.getD_eq_getElem?_getD (l:=hs),List.getElem?_eq_none (by rw [h.l];omega)]
  rfl
theorem lostJ_shp {n nf f:Nat} (hf:f < nf) (hf3:f < 3) (hn:n ≤ 5):∀ (j:Nat) (h:List Int) (m:Nat),j ≤ n→Shp n nf h→∀ x ∈ lostJ n f j h m,Shp n nf x
 | 0,h,m,_,hs,x,hx => by
   unfold lostJ at hx
   split at hx
   ·simp at hx;subst hx;exact hs
   ·cases hx
 | j + 1,h,m,hj,hs,x,hx => by
   unfold lostJ at hx
   split at hx
   ·simp at hx;subst hx;exact hs
   ·obtain ⟨k,hk,hx⟩:=List.mem_flatMap.1 hx
    cases hm:mvd h f (n - (j + 1)) (-(k:Int)) with
    | none => rw [hm] at hx;cases hx
    | some y =>
      rw [hm] at hx
      obtain ⟨-,rfl⟩:=mvd_some hm
      exact lostJ_shp hf hf3 hn j _ _ (by omega) (hs.add hf (by omega) hf3 (by omega) _) x hx
structure DeOw (n nf:Nat) (d:De):Prop where
 f:0 ≤ d.flock∧d.flock < nf
 o:d.kind = 1 ∨ d.kind = 2 ∨ d.kind = 3→0 ≤ d.owner∧d.owner < n
 x:d.kind = 2→0 ≤ d.other∧d.other < n
 t:d.kind = 5→0 ≤ d.tof∧d.tof < nf
 ne:d.kind = 2→d.owner ≠ d.other
 k:1 ≤ d.kind∧d.kind ≤ 6
theorem deedE_ow {n nf:Nat} {d:De} (h:deedE n nf d = 0):DeOw n nf d:=by
 unfold deedE at h
 obtain ⟨h1,h⟩:=ite0 (by decide) h
 obtain ⟨h2,h⟩:=ite0 (by decide) h
 split at h
 ·exact absurd h (by assumption)
 rename_i h3
 have h3:fldE n nf d = 0:=Classical.not_not.1 h3
 have hk:=btw_iff.1 ((Bool.not_eq_false _).mp h1)
 have hf:=ownB_iff.1 ((Bool.not_eq_false _).mp h2)
 unfold fldE at h3
 have nf':∀ {x:Int} {m:Nat},¬ ownB m x = false→0 ≤ x∧x < m:=fun h => ownB_iff.1 ((Bool.not_eq_false _).mp h)
 refine ⟨hf,fun hk1 => ?_,fun hk2 => ?_,fun hk5 => ?_,fun hk2 => ?_,hk⟩
 ·by_cases hk2:d.kind = 2
  ·rw [if_neg (by omega),if_pos hk2] at h3
   obtain ⟨a,-⟩:=ite0 (by decide) h3
   exact nf' fun h => a (.inl h)
  ·rw [if_pos (by omega)] at h3
   obtain ⟨a,-⟩:=ite0 (by decide) h3
   exact nf' a
 ·rw [if_neg (by omega),if_pos hk2] at h3
  obtain ⟨a,-⟩:=ite0 (by decide) h3
  exact nf' fun h => a (.inr h)
 ·rw [if_neg (by omega),if_neg (by omega),if_neg (by omega),if_pos hk5] at h3
  obtain ⟨a,-⟩:=ite0 (by decide) h3
  exact nf' a
 ·rw [if_neg (by omega),if_pos hk2] at h3
  obtain ⟨-,h3⟩:=ite0 (by decide) h3
  obtain ⟨a,-⟩:=ite0 (by decide) h3
  exact a
theorem succ_shp {t:Int} {l:List Mk} {pass:Int→Bool} {d:De} {h x:List Int} {nf:Nat} (hnf:nf ≤ 3) (hl5:l.length ≤ 5) (hd:DeOw l.length nf d) (hs:Shp l.length nf h) (hx:x ∈ succ t l pass d h):Shp l.length nf x:=by
 have hf:=hd.f
 have hk:=hd.k
 have hf1:d.flock.toNat < nf:=by omega
 have hf3:d.flock.toNat < 3:=by omega
 unfold succ at hx
 split at hx
 ·rename_i h1
  have ho:=hd.o (.inl h1)
  simp at hx
  subst hx
  exact hs.add hf1 (by omega) hf3 (by omega) _
 split at hx
 ·rename_i h2
  have ho:=hd.o (.inr (.inl h2))
  have hx':=hd.x h2
  cases hm:mvd h d.flock.toNat d.owner.toNat (-d.many) with
  | none => rw [hm] at hx;cases hx
  | some y =>
    rw [hm] at hx
    obtain ⟨-,rfl⟩:=mvd_some hm
    simp at hx
    subst hx
    exact (hs.add hf1 (by omega) hf3 (by omega) _).add hf1 (by omega) hf3 (by omega) _
 split at hx
 ·rename_i h3
  have ho:=hd.o (.inr (.inr h3))
  cases hm:mvd h d.flock.toNat d.owner.toNat (-d.many) with
  | none => rw [hm] at hx;cases hx
  | some y =>
    rw [hm] at hx
    obtain ⟨-,rfl⟩:=mvd_some hm
    simp at hx
    subst hx
    exact hs.add hf1 (by omega) hf3 (by omega) _
 split at hx
 ·exact lostJ_shp hf1 hf3 hl5 _ _ _ (Nat.le_refl _) hs x hx
 split at hx
 ·rename_i h5
  have ht:=hd.t h5
  unfold strayL at hx
  obtain ⟨o,ho',hx⟩:=List.mem_flatMap.1 hx
  have hol:=mayTo_lt o (List.mem_filter.1 ho').1
  cases hm:mvd h d.flock.toNat o.toNat (-1) with
  | none => rw [hm] at hx;cases hx
  | some y =>
    rw [hm] at hx
    obtain ⟨-,rfl⟩:=mvd_some hm
    simp at hx
    subst hx
    exact (hs.add hf1 (by omega) hf3 (by omega) _).add (by omega) (by omega) (by omega) (by omega) _
 ·split at hx
  ·simp at hx;subst hx;exact hs
  ·cases hx
theorem endsTo_shp {t:Int} {l:List Mk} {hs:List (List Int)} {ds:List De} {deed owner:Int} {nf:Nat} (hnf:nf ≤ 3) (hl5:l.length ≤ 5) (hg:GSh l.length nf hs) (hd:∀ d ∈ ds,DeOw l.length nf d):∀ i,∀ x ∈ endsTo t l hs ds deed owner i,Shp l.length nf x
 | 0,x,hx => by simp [endsTo] at hx;subst hx;exact Shp.first hg
 | i + 1,x,hx => by
   unfold endsTo at hx
   obtain ⟨h,hh,hx⟩:=List.mem_flatMap.1 (mem_ddup.1 hx)
   cases hi:ds[i]? with
   | none => rw [hi] at hx;cases hx
   | some d =>
     rw [hi] at hx
     exact succ_shp hnf hl5 (hd d (List.mem_of_getElem? hi)) (endsTo_shp hnf hl5 hg hd i h hh) hx
theorem Shp.owned {n nf:Nat} {x:List Int} (h:Shp n nf x) (hn:n ≤ 5):sumN (fun o => howned x o) n = htot x:=by
 have z:=fun f o (h1:f < 3) (h2:o < 5) (h3:n ≤ o) => h.z f o h1 h2 (.inr h3)
 unfold htot hall howned
 obtain rfl | rfl | rfl | rfl | rfl | rfl:n = 0 ∨ n = 1 ∨ n = 2 ∨ n = 3 ∨ n = 4 ∨ n = 5:=by omega
 all_goals
  simp only [sumN]
  have a00:=z 0 0 (by decide) (by decide);have a10:=z 1 0 (by decide) (by decide);have a20:=z 2 0 (by decide) (by decide)
  have a01:=z 0 1 (by decide) (by decide);have a11:=z 1 1 (by decide) (by decide);have a21:=z 2 1 (by decide) (by decide)
  have a02:=z 0 2 (by decide) (by decide);have a12:=z 1 2 (by decide) (by decide);have a22:=z 2 2 (by decide) (by decide)
  have a03:=z 0 3 (by decide) (by decide);have a13:=z 1 3 (by decide) (by decide);have a23:=z 2 3 (by decide) (by decide)
  have a04:=z 0 4 (by decide) (by decide);have a14:=z 1 4 (by decide) (by decide);have a24:=z 2 4 (by decide) (by decide)
  omega
theorem Shp.all {n nf:Nat} {x:List Int} (h:Shp n nf x) (hnf:nf ≤ 3):sumN (fun f => hall x f) nf = htot x:=by
 have z:∀ f,f < 3→nf ≤ f→hall x f = 0:=fun f h1 h2 => by
  unfold hall
  rw [h.z f 0 h1 (by omega) (.inl h2),h.z f 1 h1 (by omega) (.inl h2),h.z f 2 h1 (by omega) (.inl h2),h.z f 3 h1 (by omega) (.inl h2),h.z f 4 h1 (by omega) (.inl h2)]
  rfl
 have z0:=z 0 (by decide);have z1:=z 1 (by decide);have z2:=z 2 (by decide)
 unfold htot
 obtain rfl | rfl | rfl | rfl:nf = 0 ∨ nf = 1 ∨ nf = 2 ∨ nf = 3:=by omega
 all_goals
  simp only [sumN]
  omega
def lostD (d:De):Int:=if d.kind = 4 then d.many else 0
theorem delta_sum {n nf:Nat} {d:De} (h:DeOw n nf d):sumN (fun o => delta o d) n - lostD d = dTot d:=by
 have hk:=h.k
 unfold lostD dTot
 by_cases h1:d.kind = 1
 ·have ho:=h.o (.inl h1)
  have e:sumN (fun o => delta o d) n = d.many:=by
   rw [sumN_congr (g:=fun o => if d.owner = (o:Int) then d.many else 0) (fun o _ => by simp [delta,h1]),sumN_one _ ho.1,if_pos ho.2]
  rw [e,if_neg (by omega),if_pos h1];omega
 by_cases h2:d.kind = 2
 ·have ho:=h.o (.inr (.inl h2))
  have hx:=h.x h2
  have e:sumN (fun o => delta o d) n = 0:=by
   rw [sumN_congr (g:=fun o => (if d.other = (o:Int) then d.many else 0) + (if d.owner = (o:Int) then -d.many else 0)) (fun o _ => by
    simp only [delta,h2]
    by_cases a:d.other = (o:Int) <;> by_cases b:d.owner = (o:Int) <;> simp [a,b] <;> omega),sumN_add,sumN_one _ hx.1,sumN_one _ ho.1,if_pos hx.2,if_pos ho.2]
   omega
  rw [e,if_neg (by omega),if_neg (by omega),if_neg (by omega)];rfl
 by_cases h3:d.kind = 3
 ·have ho:=h.o (.inr (.inr h3))
  have e:sumN (fun o => delta o d) n = -d.many:=by
   rw [sumN_congr (g:=fun o => if d.owner = (o:Int) then -d.many else 0) (fun o _ => by
    simp only [delta,h3]
    by_cases b:d.owner = (o:Int) <;> simp [b]),sumN_one _ ho.1,if_pos ho.2]
  rw [e,if_neg (by omega),if_neg (by omega),if_pos (by omega)];omega
 ·have e:sumN (fun o => delta o d) n = 0:=by
   rw [sumN_congr (g:=fun _ => 0) (fun o _ => by simp [delta,h1,h2,h3]),sumN_zero]
  rw [e,if_neg h1]
  by_cases h4:d.kind = 4
  ·rw [if_pos h4,if_pos (by omega)];omega
  ·rw [if_neg h4,if_neg (by omega)];rfl
theorem sums_tot {n nf:Nat} {hs:List (List Int)} {ds:List De} (hn:n ≤ 5) (hg:GSh n nf hs) (hd:∀ d ∈ ds,DeOw n nf d):∀ i,i ≤ ds.length→sumN (fun o => hasS (sumS hs o (ds.take i))) n - ((ds.take i).map lostD).sum = htot (firstH hs) + ((ds.take i).map dTot).sum
 | 0,_ => by
   rw [sumN_congr (g:=fun o => howned (firstH hs) o) (fun o _ => by unfold sumS hasS;simp),(Shp.first hg).owned hn]
   simp
 | i + 1,hi => by
   have hgd:ds[i]? = some ds[i]:=List.getElem?_eq_getElem (by omega)
   have hm:=hd _ (List.getElem_mem (l:=ds) (show i < ds.length by omega))
   have ih:=sums_tot hn hg hd i (by omega)
   rw [sumN_congr (g:=fun o => hasS (sumS hs o (ds.take i)) + delta o ds[i]) (fun o _ => by rw [sumS_snoc hs o ds hgd,hasS_step _ _ _ hm.ne]),sumN_add,sum_takeD lostD hgd,sum_takeD dTot hgd]
   have:=delta_sum hm
   omega
theorem range_sub {E:List (List Int)} (hE:E ≠ []) (H:Int) (g:List Int→Int):rangeE E (fun h => H - g h) = ⟨H - (rangeE E g).hi,H - (rangeE E g).lo⟩:=by
 obtain ⟨⟨x1,m1,e1⟩,⟨x2,m2,e2⟩,a⟩:=rangeE_mem (f:=fun h => H - g h) hE
 obtain ⟨⟨y1,n1,f1⟩,⟨y2,n2,f2⟩,b⟩:=rangeE_mem (f:=g) hE
 have a1:=a y2 n2;have a2:=a y1 n1;have b1:=b x1 m1;have b2:=b x2 m2
 have:(rangeE E fun h => H - g h).lo = H - (rangeE E g).hi:=by omega
 have:(rangeE E fun h => H - g h).hi = H - (rangeE E g).lo:=by omega
 cases hr:rangeE E fun h => H - g h
 simp_all
end Go.Proofs.YtmennjmjakdkcaaGreat
namespace Go.Proofs.YtmennjmjakdkcaaGreat
open Go.RowKit Go.MapKept Go.ChangeMaps
set_option linter.unusedVariables false
set_option linter.unusedSimpArgs false
def hv (h:List Int):Value:=.agg (h.map (Value.int .i64)).toArray
def HOk (h:List Int):Prop:=h.length = 15∧∀ x ∈ h,-9223372036854775808 ≤ x∧x ≤ 9223372036854775807
theorem HBd.ok {B:Int} {h:List Int} (hh:HBd B h) (hB:B ≤ 9223372036854775807):HOk h:=⟨hh.1,fun x hx => by have:=hh.2 x hx;omega⟩
theorem hv_inj {h k:List Int} (e:hv h = hv k):h = k:=by
 unfold hv at e
 injection e with e
 have e2:=congrArg Array.toList e
 simp only at e2
 have:∀ (a b:List Int),a.map (Value.int .i64) = b.map (Value.int .i64)→a = b:=by
  intro a
  induction a with
  | nil => intro b hb;cases b with
    | nil => rfl
    | cons y b => simp at hb
  | cons x a ih => intro b hb;cases b with
    | nil => simp at hb
    | cons y b => simp at hb;rw [hb.1,ih b (by simpa using hb.2)]
 exact this h k e2
theorem laidOutH:laidOutB Tryz.prog = true:=by kernel_rfl
theorem hdsRow:(133:TypeId) < Tryz.prog.types.size:=of_decide_eq_true (by kernel_rfl)
theorem hdsWide:(match Tryz.prog.underlying 133 with | some (.array _ _) | some (.struct _) => true | _ => false) = true:=by rw [Tryz.underlying133]
set_option maxRecDepth 100000 in
theorem hdsLaw:WideMaps.KeyLaw Tryz.prog 133:=deep_law_laid laidOutH (m:=3) (by omega) hdsRow (by kernel_rfl) hdsWide
theorem hdsKeyed:Maps.Keyed Tryz.prog 133:=Maps.Keyed.of_law hdsLaw
theorem cells_row:Tryz.prog.cellsOf 131 = 5:=by kernel_rfl
theorem cells_hds:Tryz.prog.cellsOf 133 = 15:=by kernel_rfl
theorem cells_int:Tryz.prog.cellsOf 3 = 1:=by kernel_rfl
theorem lits_int (d:Nat) (x:Int) (hx:-9223372036854775808 ≤ x∧x ≤ 9223372036854775807):Tryz.prog.keyLits (d + 1) 3 [.int .i64 x] = some [.int .i64 x]:=by
 unfold Program.keyLits
 rw [Tryz.underlying3]
 simp [WalkArith.wf_i64 hx]
theorem lits_row (d:Nat) {a b c e f:Int} (ha:-9223372036854775808 ≤ a∧a ≤ 9223372036854775807) (hb:-9223372036854775808 ≤ b∧b ≤ 9223372036854775807) (hc:-9223372036854775808 ≤ c∧c ≤ 9223372036854775807)
 (he:-9223372036854775808 ≤ e∧e ≤ 9223372036854775807) (hf:-9223372036854775808 ≤ f∧f ≤ 9223372036854775807) :
 Tryz.prog.keyLits (d + 2) 131 [.int .i64 a,.int .i64 b,.int .i64 c,.int .i64 e,.int .i64 f] = some [.int .i64 a,.int .i64 b,.int .i64 c,.int .i64 e,.int .i64 f]:=by
 have h0:=lits_int d a ha
 have h1:=lits_int d b hb
 have h2:=lits_int d c hc
 have h3:=lits_int d e he
 have h4:=lits_int d f hf
 have hr:List.range 5 = [0,1,2,3,4]:=rfl
 unfold Program.keyLits
 rw [Tryz.underlying131]
 simp [cells_row,cells_int,hr,h0,h1,h2,h3,h4]
theorem list15' {α:Type} {l:List α} (h:l.length = 15):∃ a b c d e f g i j k m n o p q,l = [a,b,c,d,e,f,g,i,j,k,m,n,o,p,q]:=by
 match l,h with
 | [a,b,c,d,e,f,g,i,j,k,m,n,o,p,q],_ => exact ⟨a,b,c,d,e,f,g,i,j,k,m,n,o,p,q,rfl⟩
set_option maxRecDepth 100000 in
theorem hds_keyType:Tryz.prog.keyType 133 = true:=by kernel_rfl
theorem keyH {h:List Int} (hh:HOk h):∃ l,keyOf Tryz.prog 133 (hv h) = some l:=by
 obtain ⟨a,b,c,d,e,f,g,i,j,k,m,n,o,p,q,rfl⟩:=list15' hh.1
 have hw:=hh.2
 simp only [List.mem_cons,List.not_mem_nil,or_false,forall_eq_or_imp,forall_eq] at hw
 obtain ⟨h0,h1,h2,h3,h4,h5,h6,h7,h8,h9,h10,h11,h12,h13,h14⟩:=hw
 obtain ⟨d',hd⟩:∃ d',Tryz.prog.types.size + 1 = d' + 3:=⟨Tryz.prog.types.size - 2,by have:2 ≤ Tryz.prog.types.size:=of_decide_eq_true (by kernel_rfl);omega⟩
 have r0:=lits_row d' h0 h1 h2 h3 h4
 have r1:=lits_row d' h5 h6 h7 h8 h9
 have r2:=lits_row d' h10 h11 h12 h13 h14
 have hr:List.range 3 = [0,1,2]:=rfl
 have hu:=Tryz.underlying133
 have hform:(hv [a,b,c,d,e,f,g,i,j,k,m,n,o,p,q]).formed Tryz.prog 133 = true:=by simp [Value.formed,hu,cells_hds,hv]
 have hk:Tryz.prog.keyLits (d' + 3) 133 (hv [a,b,c,d,e,f,g,i,j,k,m,n,o,p,q]).cells.toList = some ([[Lit.int .i64 a,.int .i64 b,.int .i64 c,.int .i64 d,.int .i64 e],[.int .i64 f,.int .i64 g,.int .i64 i,.int .i64 j,.int .i64 k],[.int .i64 m,.int .i64 n,.int .i64 o,.int .i64 p,.int .i64 q]].flatten):=by
  unfold Program.keyLits
  rw [hu]
  simp [cells_hds,cells_row,hr,hv,Value.cells,r0,r1,r2]
 exact ⟨_,by unfold keyOf;rw [hu,hds_keyType,hform,hd,hk];rfl⟩
def MetH (w:World) (M:Nat) (K:List (List Int)):Prop :=
 ∃ es clock,w.heap[M]? = some (.map es clock)∧MapKept.Stamped es clock∧es.toList.map (fun e => (e.key,e.val)) = K.map (fun h => (hv h,Value.bool true))∧∀ h ∈ K,HOk h
theorem MetH.lt {w:World} {M:Nat} {K:List (List Int)} (h:MetH w M K):M < w.heap.size:=by obtain ⟨es,c,h1,_⟩:=h;exact heap_lt h1
theorem MetH.keep {w w':World} {M:Nat} {K:List (List Int)} (h:MetH w M K) (e:w'.heap[M]? = w.heap[M]?):MetH w' M K:=by
 obtain ⟨es,c,h1,h2⟩:=h
 exact ⟨es,c,by rw [e];exact h1,h2⟩
theorem metH_empty {w:World} {M clock:Nat} (h:w.heap[M]? = some (.map #[] clock)):MetH w M []:=⟨_,_,h,MapKept.stamped_empty _,rfl,fun h hh => by cases hh⟩
theorem keys_of {es:List MapEntry} {K:List (List Int)} (h:es.map (fun e => (e.key,e.val)) = K.map (fun h => (hv h,Value.bool true))):es.map (·.key) = K.map hv:=by
 have:=congrArg (List.map Prod.fst) h
 rw [List.map_map,List.map_map] at this
 exact this
theorem MetH.nodup {w:World} {M:Nat} {K:List (List Int)} (h:MetH w M K):K.Nodup:=by
 obtain ⟨es,c,h1,h2,h3,h4⟩:=h
 have hn:=h2.2.2
 rw [keys_of h3] at hn
 exact List.Pairwise.of_map hv (fun a b hab e => hab (by rw [e])) hn
theorem entry_key {es:List MapEntry} {K:List (List Int)} (h:es.map (fun e => (e.key,e.val)) = K.map (fun h => (hv h,Value.bool true))) {e:MapEntry} (he:e ∈ es):∃ k ∈ K,e.key = hv k∧e.val = .bool true:=by
 have hm:(e.key,e.val) ∈ es.map (fun e => (e.key,e.val)):=List.mem_map.2 ⟨e,he,rfl⟩
 rw [h] at hm
 obtain ⟨k,hk,e2⟩:=List.mem_map.1 hm
 injection e2 with e3 e4
 exact ⟨k,hk,e3.symm,e4.symm⟩
theorem run_putH (x:List Int) (hx:HOk x) (w:World) (M:Nat) (K:List (List Int)) (h:MetH w M K) :
 ∃ ob,(Instr.mapUpdate 166 (.map (some M)) (hv x) (.bool true)).run Tryz.prog w = .ok () { w with heap:=w.heap.setIfInBounds M ob }∧M < w.heap.size
  ∧ ∃ K',(∀ w':World,w'.heap[M]? = some ob→MetH w' M K')∧∀ k,k ∈ K' ↔ k ∈ K ∨ k = x:=by
 obtain ⟨es,clock,hh,hst,hes,hok⟩:=h
 obtain ⟨l,hl⟩:=keyH hx
 have hu:=run_underlying (P:=Tryz.prog) (w:=w) Tryz.underlying166
 have hg:(getObj M).run Tryz.prog w = .ok (.map es clock) w:=by simp [getObj,Sem.run,hh]
 have hs:∀ o,(setObj M o).run Tryz.prog w = .ok () { w with heap:=w.heap.setIfInBounds M o }:=fun o => by simp [setObj,Sem.run,hh]
 have hlt:M < w.heap.size:=heap_lt hh
 have hck:=fun em => hdsKeyed.check w em hl
 have hks:=hdsKeyed.stays w hl
 rcases hdsKeyed.find w hl es.toList (fun e he => by obtain ⟨k,hk,e1,_⟩:=entry_key hes he;rw [e1];exact keyH (hok k hk)) with ⟨hr,hno⟩ | ⟨j,e,hr,hj,hke⟩
 ·refine ⟨.map (es.push { key:=hv x,val:=.bool true,born:=clock }) (clock + 1),?_,hlt,K ++ [x],?_,fun k => by simp⟩
  ·simp [Instr.mapUpdate,hu,hg,hck,hr,hs]
  ·intro w' hw'
   exact ⟨_,_,hw',MapKept.stamped_push hst hno,by simp [hes],fun k hk => by
    rcases List.mem_append.1 hk with hk | hk
    ·exact hok k hk
    ·simp at hk;rw [hk];exact hx⟩
 ·have hj':es[j]? = some e:=by simpa using hj
  obtain ⟨k,hk,e1,e2⟩:=entry_key hes (List.mem_of_getElem? hj)
  have hxk:x = k:=hv_inj (hke.symm.trans e1)
  subst hxk
  refine ⟨.map (es.modify j fun e => { e with key:=hv x,val:=.bool true }) clock,?_,hlt,K,?_,fun k => ⟨.inl,fun h => h.elim id (fun h => h ▸ hk)⟩⟩
  ·simp [Instr.mapUpdate,hu,hg,hck,hr,hj',hke,hks,hs]
  ·intro w' hw'
   have hsame:es.modify j (fun e => { e with key:=hv x,val:=.bool true }) = es:=by
    apply Array.ext_getElem?
    intro i
    rw [Array.getElem?_modify]
    split
    ·rename_i hij
     subst hij
     rw [hj']
     simp only [Option.map_some]
     rw [← hke,← e2]
    ·rfl
   rw [hsame] at hw'
   exact ⟨es,clock,hw',hst,hes,hok⟩
theorem wp_putH {w:World} {ops:Array Oper} {rest:List Oper} {o:Oper} {a:Act} {Q:Exit→Act→World→Prop}
 (hg:o.guard = none) (m x v:Operand) (hop:o.op = Op.mapUpdate 166 m x v) (M:Nat) (K:List (List Int)) (k:List Int) (hk:HOk k)
 (hm:a.eval m = .map (some M)) (hx:a.eval x = hv k) (hv':a.eval v = .bool true) (h:MetH w M K)
 (hK:∀ ob K',M < w.heap.size→(∀ w':World,w'.heap[M]? = some ob→MetH w' M K')→(∀ q,q ∈ K' ↔ q ∈ K ∨ q = k)→wpList Tryz.prog ops Q rest (a.put o.dst undef) { w with heap:=w.heap.setIfInBounds M ob }) :
 wpList Tryz.prog ops Q (o :: rest) a w:=by
 refine wpList_plain hg fun K' hK' => ?_
 obtain ⟨ob,hrun,hlt,K2,h1,h2⟩:=run_putH k hk w M K h
 unfold Oper.wp
 simp [execOp,hop,hm,hx,hv',hrun,Result.andThen]
 exact hK' _ _ (hK ob K2 hlt h1 h2)
def IterH (w:World) (M r:Nat) (K L:List (List Int)):Prop :=
 ∃ es clock since seen c0,w.heap[M]? = some (.map es clock)∧MapKept.Stamped es clock∧es.toList.map (fun e => (e.key,e.val)) = K.map (fun h => (hv h,Value.bool true))∧(∀ h ∈ K,HOk h) ∧
  w.heap[r]? = some (.mapIter (some M) since seen c0)∧(∀ x ∈ es.toList,x.born < since)∧since ≤ c0∧since ≤ clock∧(leftOf es seen).toList.map (·.key) = L.map hv
theorem IterH.met {w:World} {M r:Nat} {K L:List (List Int)} (h:IterH w M r K L):MetH w M K:=by
 obtain ⟨es,clock,since,seen,c0,h1,h2,h3,h4,_⟩:=h
 exact ⟨es,clock,h1,h2,h3,h4⟩
theorem IterH.lt {w:World} {M r:Nat} {K L:List (List Int)} (h:IterH w M r K L):r < w.heap.size:=by
 obtain ⟨es,clock,since,seen,c0,h1,h2,h3,h4,h5,_⟩:=h
 exact heap_lt h5
theorem IterH.ne {w:World} {M r:Nat} {K L:List (List Int)} (h:IterH w M r K L):r ≠ M:=by
 obtain ⟨es,clock,since,seen,c0,h1,h2,h3,h4,h5,_⟩:=h
 intro e
 rw [e,h1] at h5
 cases h5
theorem IterH.keep {w w':World} {M r:Nat} {K L:List (List Int)} (h:IterH w M r K L) (e:w'.heap[M]? = w.heap[M]?) (e':w'.heap[r]? = w.heap[r]?):IterH w' M r K L:=by
 obtain ⟨es,clock,since,seen,c0,h1,h2,h3,h4,h5,h6⟩:=h
 exact ⟨es,clock,since,seen,c0,by rw [e];exact h1,h2,h3,h4,by rw [e'];exact h5,h6⟩
theorem IterH.left {w:World} {M r:Nat} {K L:List (List Int)} (h:IterH w M r K L):w.rangeLeft M r = L.length:=by
 obtain ⟨es,clock,since,seen,c0,h1,h2,h3,h4,h5,_,_,_,h6⟩:=h
 have:=congrArg List.length h6
 simp only [List.length_map,Array.length_toList] at this
 simp only [World.rangeLeft,h1,h5]
 exact this
theorem run_rangeH {w:World} {M:Nat} {K:List (List Int)} (h:MetH w M K) :
 ∃ w',(Instr.range 166 (.map (some M))).run Tryz.prog w = .ok (.pointer (some ⟨w.heap.size,0,none⟩)) w'∧IterH w' M w.heap.size K K∧w.grownBy w' none∧w'.heap.size = w.heap.size + 1:=by
 obtain ⟨es,clock,h1,h2,h3,h4⟩:=h
 have hlt:=heap_lt h1
 have hrun:=run_range_map w 166 133 4 M es clock Tryz.underlying166 h1
 refine ⟨_,hrun,⟨es,clock,clock,#[],clock,((MapKept.heap_alloc w _).2 M hlt).trans h1,h2,h3,h4,(MapKept.heap_alloc w _).1,h2.1,Nat.le_refl _,Nat.le_refl _,?_⟩,World.grownBy_alloc w _ none,by simp⟩
 have:leftOf es #[] = es:=by simp [leftOf]
 rw [this]
 exact keys_of h3
theorem keys_split {l:List MapEntry} {L:List (List Int)} (h:l.map (·.key) = L.map hv) {e:MapEntry} (he:e ∈ l) (hn:(l.map (·.born)).Nodup) :
 ∃ x L',L.Perm (x :: L')∧e.key = hv x∧(l.filter fun y => !(y.born == e.born)).map (·.key) = L'.map hv:=by
 induction l generalizing L with
 | nil => cases he
 | cons y l ih =>
   cases L with
   | nil => simp at h
   | cons z L =>
     simp only [List.map_cons,List.cons.injEq] at h
     obtain ⟨h1,h2⟩:=h
     simp only [List.map_cons,List.nodup_cons] at hn
     rcases List.mem_cons.1 he with rfl | he'
     ·refine ⟨z,L,List.Perm.refl _,h1,?_⟩
      have hf:(l.filter fun y => !(y.born == e.born)) = l:=by
       rw [List.filter_eq_self]
       intro a ha
       have:a.born ≠ e.born:=fun e' => hn.1 (e' ▸ List.mem_map.2 ⟨a,ha,rfl⟩)
       simp [this]
      rw [List.filter_cons]
      simp only [beq_self_eq_true,Bool.not_true,Bool.false_eq_true,if_false]
      rw [hf]
      exact h2
     ·obtain ⟨x,L',hp,hx,hL⟩:=ih h2 he' hn.2
      refine ⟨x,z :: L',(hp.cons z).trans (List.Perm.swap x z L'),hx,?_⟩
      have hne:y.born ≠ e.born:=fun e' => hn.1 (e' ▸ List.mem_map.2 ⟨e,he',rfl⟩)
      rw [List.filter_cons]
      simp only [show (y.born == e.born) = false from beq_eq_false_iff_ne.2 hne,Bool.not_false,if_true,List.map_cons,h1,hL]
theorem left_push (es:Array MapEntry) (seen:Array Nat) (b:Nat):(leftOf es (seen.push b)).toList = (leftOf es seen).toList.filter fun y => !(y.born == b):=by
 unfold leftOf
 simp only [Array.toList_filter,List.filter_filter]
 congr 1
 funext y
 simp only [Array.contains_eq_mem,Array.mem_push]
 by_cases h1:y.born ∈ seen <;> by_cases h2:y.born = b <;> simp [h1,h2]
theorem run_nextH {w:World} {M r:Nat} {K L:List (List Int)} (h:IterH w M r K L) (ty:TypeId) :
 (L = []∧(Instr.next (.pointer (some ⟨r,0,none⟩)) false ty).run Tryz.prog w = .ok (.tuple #[.bool false]) w) ∨
 ∃ x L' w',L.Perm (x :: L')∧HOk x∧(Instr.next (.pointer (some ⟨r,0,none⟩)) false ty).run Tryz.prog w = .ok (.tuple #[.bool true,hv x,.bool true]) w'∧IterH w' M r K L'∧w.grownBy w' (some r)∧w'.heap.size = w.heap.size ∧
  (Instr.entry (.pointer (some ⟨r,0,none⟩))).run Tryz.prog w' = .ok (.tuple #[hv x,.bool true]) w':=by
 have hne:=h.ne
 obtain ⟨es,clock,since,seen,c0,h1,h2,h3,h4,h5,h6,h7,h8,h9⟩:=h
 rcases run_next_at (P:=Tryz.prog) w ty r M since c0 seen es clock h5 h1 h6 h7 with ⟨h0,hrun⟩ | ⟨e,he,w1,hal,hrun⟩
 ·left
  refine ⟨?_,hrun⟩
  have:(leftOf es seen) = #[]:=Array.eq_empty_of_size_eq_zero h0
  rw [this] at h9
  cases L with
  | nil => rfl
  | cons a b => simp at h9
 ·right
  have hb:(es.toList.map (·.born)).Nodup:=h2.2.1
  have hsub:(leftOf es seen).toList.Sublist es.toList:=by unfold leftOf;rw [Array.toList_filter];exact List.filter_sublist
  have hbl:((leftOf es seen).toList.map (·.born)).Nodup:=(hsub.map _).nodup hb
  obtain ⟨x,L',hp,hx,hL⟩:=keys_split h9 he hbl
  obtain ⟨k,hk,e1,e2⟩:=entry_key h3 (hsub.subset he)
  have hxk:x = k:=hv_inj (hx.symm.trans e1)
  subst hxk
  have hr1:w1.heap[r]? = some (.mapIter (some M) since seen c0):=by rcases hal with rfl | rfl <;> exact h5
  have hb1:w1.heap[M]? = some (.map es clock):=by rcases hal with rfl | rfl <;> exact h1
  have hset:=heap_set (o':=.mapIter (some M) since (seen.push e.born) clock) hr1
  have hM:(setBlock w1 r (.mapIter (some M) since (seen.push e.born) clock)).heap[M]? = some (.map es clock):=(hset.2 M (fun e1 => hne e1.symm)).trans hb1
  have hen:=run_entry_at (P:=Tryz.prog) _ r M since seen es clock e hset.1 hM (hsub.subset he) hb
  rw [hx,e2] at hrun hen
  refine ⟨x,L',_,hp,h4 x hk,hrun,⟨es,clock,since,seen.push e.born,clock,hM,h2,h3,h4,hset.1,h6,h8,h8,by rw [left_push];exact hL⟩,?_,?_,hen⟩
  ·rcases hal with rfl | rfl <;> exact ⟨rfl,rfl,rfl,by simp [setBlock],fun i _ hi => hset.2 i (fun e1 => hi (by rw [e1]))⟩
  ·rcases hal with rfl | rfl <;> simp [setBlock]
theorem wp_rangeH {w:World} {ops:Array Oper} {rest:List Oper} {o:Oper} {a:Act} {Q:Exit→Act→World→Prop}
 (hg:o.guard = none) (m:Operand) (hop:o.op = Op.range 166 m) (M:Nat) (K:List (List Int)) (hm:a.eval m = .map (some M)) (h:MetH w M K)
 (hK:∀ w',IterH w' M w.heap.size K K→w.grownBy w' none→w'.heap.size = w.heap.size + 1→wpList Tryz.prog ops Q rest (a.put o.dst (.pointer (some ⟨w.heap.size,0,none⟩))) w'):wpList Tryz.prog ops Q (o :: rest) a w:=by
 refine wpList_plain hg fun K' hK' => ?_
 obtain ⟨w',hrun,r1,r2,r3⟩:=run_rangeH h
 unfold Oper.wp
 simp [execOp,hop,hm,hrun,Result.andThen]
 exact hK' _ _ (hK w' r1 r2 r3)
end Go.Proofs.YtmennjmjakdkcaaGreat
