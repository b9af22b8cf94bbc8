/- HerdAll 2: HdL, HdV, HdX. -/
import Derived.Test.YtmennjmjakdkcaaGreatAl01
namespace Go.Proofs.YtmennjmjakdkcaaGreat
set_option linter.unusedVariables false
set_option linter.unusedSimpArgs false
structure De where
 kind:Int
 flock:Int
 owner:Int
 other:Int
 tof:Int
 many:Int
 err:Int
 s:Sg
 deriving DecidableEq
def hget (h:List Int) (f o:Nat):Int:=h.getD (5 * f + o) 0
def hadd (h:List Int) (f o:Nat) (k:Int):List Int:=h.set (5 * f + o) (hget h f o + k)
def mvd (h:List Int) (f o:Nat) (k:Int):Option (List Int):=if 0 ≤ hget h f o + k then some (hadd h f o k) else none
def hall (h:List Int) (f:Nat):Int:=hget h f 0 + hget h f 1 + hget h f 2 + hget h f 3 + hget h f 4
def howned (h:List Int) (o:Nat):Int:=hget h 0 o + hget h 1 o + hget h 2 o
def lostJ (n f:Nat):Nat→List Int→Nat→List (List Int)
 | 0,h,m => if m = 0 then [h] else []
 | j + 1,h,m => if m = 0 then [h] else (List.range (m + 1)).flatMap fun (k:Nat) => match mvd h f (n - (j + 1)) (-(k:Int)) with
   | some x => lostJ n f j x (m - k)
   | none => []
def strayL (f g:Nat) (h:List Int):List Int→List (List Int):=fun os => os.flatMap fun o => match mvd h f o.toNat (-1) with | some x => [hadd x g o.toNat 1] | none => []
def countB (d:De) (h:List Int):Bool:=btw (hall h d.flock.toNat) ((100 * d.many + 99 + d.err).tdiv (100 + d.err)) ((100 * d.many).tdiv (100 - d.err))
def succ (t:Int) (l:List Mk) (pass:Int→Bool) (d:De) (h:List Int):List (List Int) :=
 if d.kind = 1 then [hadd h d.flock.toNat d.owner.toNat d.many]
 else if d.kind = 2 then (match mvd h d.flock.toNat d.owner.toNat (-d.many) with | some x => [hadd x d.flock.toNat d.other.toNat d.many] | none => [])
 else if d.kind = 3 then (match mvd h d.flock.toNat d.owner.toNat (-d.many) with | some x => [x] | none => [])
 else if d.kind = 4 then lostJ l.length d.flock.toNat l.length h d.many.toNat
 else if d.kind = 5 then strayL d.flock.toNat d.tof.toNat h ((mayL t l d.s).filter pass)
 else if countB d h = true then [h] else []
def ddup:List (List Int)→List (List Int)
 | [] => []
 | x :: l => if x ∈ l then ddup l else x :: ddup l
theorem mem_ddup {x:List Int}:∀ {l:List (List Int)},x ∈ ddup l ↔ x ∈ l
 | [] => by simp [ddup]
 | y :: l => by
   have ih:=mem_ddup (x:=x) (l:=l)
   unfold ddup
   split
   ·rename_i hy
    rw [ih,List.mem_cons]
    exact ⟨.inr,fun h => h.elim (fun e => e ▸ hy) id⟩
   ·rw [List.mem_cons,List.mem_cons,ih]
theorem nodup_ddup:∀ l:List (List Int),(ddup l).Nodup
 | [] => by simp [ddup]
 | y :: l => by
   have ih:=nodup_ddup l
   unfold ddup
   split
   ·exact ih
   ·rename_i hy
    exact List.nodup_cons.2 ⟨fun h => hy (mem_ddup.1 h),ih⟩
theorem perm_of_mem {l m:List (List Int)} (hl:l.Nodup) (hm:m.Nodup) (h:∀ x,x ∈ l ↔ x ∈ m):l.Perm m:=by
 rw [List.perm_iff_count]
 intro a
 by_cases ha:a ∈ l
 ·rw [hl.count,hm.count,if_pos ha,if_pos ((h a).1 ha)]
 ·rw [List.count_eq_zero_of_not_mem ha,List.count_eq_zero_of_not_mem (fun h' => ha ((h a).2 h'))]
def firstH (heads:List (List Int)):List Int:=(List.range 15).map fun i => (heads.getD (i / 5) []).getD (i % 5) 0
def passB (deed owner:Int) (i:Nat) (o:Int):Bool:=!(decide ((i:Int) = deed) && decide (o ≠ owner))
def endsTo (t:Int) (l:List Mk) (heads:List (List Int)) (ds:List De) (deed owner:Int):Nat→List (List Int)
 | 0 => [firstH heads]
 | i + 1 => ddup ((endsTo t l heads ds deed owner i).flatMap fun h => match ds[i]? with | some d => succ t l (passB deed owner i) d h | none => [])
def endsL (t:Int) (l:List Mk) (heads:List (List Int)) (ds:List De) (deed owner:Int):List (List Int):=endsTo t l heads ds deed owner ds.length
theorem endsTo_nodup (t:Int) (l:List Mk) (heads:List (List Int)) (ds:List De) (deed owner:Int):∀ i,(endsTo t l heads ds deed owner i).Nodup
 | 0 => by simp [endsTo]
 | i + 1 => nodup_ddup _
def HBd (B:Int) (h:List Int):Prop:=h.length = 15∧∀ x ∈ h,0 ≤ x∧x ≤ B
theorem HBd.mono {B C:Int} {h:List Int} (hh:HBd B h) (hc:B ≤ C):HBd C h:=⟨hh.1,fun x hx => by have:=hh.2 x hx;omega⟩
theorem HBd.get {B:Int} {h:List Int} (hh:HBd B h) {f o:Nat} (hf:f < 3) (ho:o < 5):0 ≤ hget h f o∧hget h f o ≤ B:=by
 unfold hget
 rw [List.getD_eq_getElem?_getD,List.getElem?_eq_getElem (by rw [hh.1];omega),Option.getD_some]
 exact hh.2 _ (List.getElem_mem _)
theorem HBd.add {B C:Int} {h:List Int} (hh:HBd B h) {f o:Nat} {k:Int} (h0:0 ≤ hget h f o + k) (h1:hget h f o + k ≤ C) (hc:B ≤ C):HBd C (hadd h f o k):=by
 unfold hadd
 refine ⟨by rw [List.length_set];exact hh.1,fun x hx => ?_⟩
 rcases List.mem_or_eq_of_mem_set hx with hx | rfl
 ·have:=hh.2 x hx;omega
 ·exact ⟨h0,h1⟩
theorem hget_set {h:List Int} {f o f' o':Nat} {v:Int} (hl:h.length = 15) (hf:f < 3) (ho:o < 5) (ho':o' < 5):(h.set (5 * f + o) v).getD (5 * f' + o') 0 = if f = f'∧o = o' then v else h.getD (5 * f' + o') 0:=by
 rw [List.getD_eq_getElem?_getD,List.getD_eq_getElem?_getD]
 by_cases e:f = f'∧o = o'
 ·obtain ⟨rfl,rfl⟩:=e
  rw [if_pos ⟨rfl,rfl⟩,List.getElem?_set_self (by omega)];rfl
 ·rw [if_neg e,List.getElem?_set_ne (by omega)]
theorem hget_hadd {h:List Int} {f o f' o':Nat} {k:Int} (hl:h.length = 15) (hf:f < 3) (ho:o < 5) (ho':o' < 5):hget (hadd h f o k) f' o' = if f = f'∧o = o' then hget h f o + k else hget h f' o':=hget_set hl hf ho ho'
theorem mvd_some {h x:List Int} {f o:Nat} {k:Int} (hm:mvd h f o k = some x):0 ≤ hget h f o + k∧x = hadd h f o k:=by
 unfold mvd at hm
 split at hm
 ·rename_i h0;injection hm with e;exact ⟨h0,e.symm⟩
 ·cases hm
theorem lostJ_bd {B:Int} {n f:Nat} (hf:f < 3) (hn:n ≤ 5):∀ (j:Nat) (h:List Int) (m:Nat),j ≤ n→HBd B h→∀ x ∈ lostJ n f j h m,HBd B x
 | 0,h,m,_,hh,x,hx => by
   unfold lostJ at hx
   split at hx
   ·simp at hx;rw [hx];exact hh
   ·cases hx
 | j + 1,h,m,hj,hh,x,hx => by
   unfold lostJ at hx
   split at hx
   ·simp at hx;rw [hx];exact hh
   ·obtain ⟨k,hk,hx⟩:=List.mem_flatMap.1 hx
    cases hm:mvd h f (n - (j + 1)) (-(k:Int)) with
    | none => rw [hm] at hx;cases hx
    | some y =>
      rw [hm] at hx
      obtain ⟨h0,rfl⟩:=mvd_some hm
      have hg:=hh.get hf (show n - (j + 1) < 5 by omega)
      exact lostJ_bd hf hn j _ _ (by omega) (hh.add h0 (by omega) (Int.le_refl _)) x hx
structure DeIn (n nf:Nat) (d:De):Prop where
 f:0 ≤ d.flock∧d.flock < nf
 o:0 ≤ d.owner∧d.owner < 5
 x:0 ≤ d.other∧d.other < 5
 t:0 ≤ d.tof∧d.tof < 3
 m:0 ≤ d.many∧d.many ≤ 300
 s:d.kind ≠ 6→d.many ≤ 20
 l:d.kind = 4→d.many ≤ 3
 e:0 ≤ d.err∧d.err ≤ 20
 k:1 ≤ d.kind∧d.kind ≤ 6
 st:d.kind = 5→seen d.s 9 6 = 0
theorem mayTo_lt {t:Int} {l:List Mk} {s:Sg}:∀ o ∈ mayL t l s,0 ≤ o∧o < l.length:=by
 intro o ho
 unfold mayL mayTo at ho
 obtain ⟨i,hi,rfl⟩:=List.mem_map.1 ho
 have:=List.mem_range.1 (List.mem_filter.1 hi).1
 simp;omega
theorem succ_bd {B:Int} {t:Int} {l:List Mk} {pass:Int→Bool} {d:De} {h:List Int} {nf:Nat} (hnf:nf ≤ 3) (hl:l.length ≤ 5) (hd:DeIn l.length nf d) (hh:HBd B h) (hB:0 ≤ B):∀ x ∈ succ t l pass d h,HBd (B + 20) x:=by
 intro x hx
 have hf:=hd.f
 have ho:=hd.o
 have hxo:=hd.x
 have hm:=hd.m
 have hs:=hd.s
 have fl:d.flock.toNat < 3:=by omega
 unfold succ at hx
 split at hx
 ·rename_i hk
  simp at hx
  subst hx
  have hg:=hh.get fl (show d.owner.toNat < 5 by omega)
  have:=hs (by omega)
  exact hh.add (by omega) (by omega) (by omega)
 split at hx
 ·rename_i hk1 hk
  have h20:=hs (by omega)
  cases hmv:mvd h d.flock.toNat d.owner.toNat (-d.many) with
  | none => rw [hmv] at hx;cases hx
  | some y =>
    rw [hmv] at hx
    obtain ⟨h0,rfl⟩:=mvd_some hmv
    simp at hx
    subst hx
    have hg:=hh.get fl (show d.owner.toNat < 5 by omega)
    have hy:HBd B (hadd h d.flock.toNat d.owner.toNat (-d.many)):=hh.add h0 (by omega) (Int.le_refl _)
    have hg2:=hy.get fl (show d.other.toNat < 5 by omega)
    exact hy.add (by omega) (by omega) (by omega)
 split at hx
 ·have h20:=hs (by omega)
  cases hmv:mvd h d.flock.toNat d.owner.toNat (-d.many) with
  | none => rw [hmv] at hx;cases hx
  | some y =>
    rw [hmv] at hx
    obtain ⟨h0,rfl⟩:=mvd_some hmv
    simp at hx
    subst hx
    have hg:=hh.get fl (show d.owner.toNat < 5 by omega)
    exact hh.add h0 (by omega) (by omega)
 split at hx
 ·exact (lostJ_bd fl hl _ _ _ (Nat.le_refl _) hh x hx).mono (by omega)
 split at hx
 ·unfold strayL at hx
  obtain ⟨o,ho',hx⟩:=List.mem_flatMap.1 hx
  have hol:=mayTo_lt o (List.mem_filter.1 ho').1
  cases hmv:mvd h d.flock.toNat o.toNat (-1) with
  | none => rw [hmv] at hx;cases hx
  | some y =>
    rw [hmv] at hx
    obtain ⟨h0,rfl⟩:=mvd_some hmv
    simp at hx
    subst hx
    have hg:=hh.get fl (show o.toNat < 5 by omega)
    have hy:HBd B (hadd h d.flock.toNat o.toNat (-1)):=hh.add h0 (by omega) (Int.le_refl _)
    have ht:=hd.t
    have hg2:=hy.get (show d.tof.toNat < 3 by omega) (show o.toNat < 5 by omega)
    exact hy.add (by omega) (by omega) (by omega)
 split at hx
 ·simp at hx;rw [hx];exact hh.mono (by omega)
 ·cases hx
theorem firstH_bd {heads:List (List Int)} (h:∀ r ∈ heads,∀ x ∈ r,0 ≤ x∧x ≤ 20):HBd 20 (firstH heads):=by
 refine ⟨by simp [firstH],fun x hx => ?_⟩
 obtain ⟨i,hi,rfl⟩:=List.mem_map.1 hx
 rw [List.getD_eq_getElem?_getD,List.getD_eq_getElem?_getD]
 cases h1:heads[i / 5]? with
 | none => simp
 | some r =>
   rw [Option.getD_some]
   cases h2:r[i % 5]? with
   | none => simp
   | some y => rw [Option.getD_some];exact h r (List.mem_of_getElem? h1) y (List.mem_of_getElem? h2)
theorem endsTo_bd {t:Int} {l:List Mk} {heads:List (List Int)} {ds:List De} {deed owner:Int} {nf:Nat} (hnf:nf ≤ 3) (hl:l.length ≤ 5) (hh:∀ r ∈ heads,∀ x ∈ r,0 ≤ x∧x ≤ 20) (hd:∀ d ∈ ds,DeIn l.length nf d) :
 ∀ i,∀ x ∈ endsTo t l heads ds deed owner i,HBd (20 + 20 * (i:Int)) x
 | 0,x,hx => by simp [endsTo] at hx;subst hx;exact (firstH_bd hh).mono (by omega)
 | i + 1,x,hx => by
   unfold endsTo at hx
   obtain ⟨h,hh',hx⟩:=List.mem_flatMap.1 (mem_ddup.1 hx)
   cases hi:ds[i]? with
   | none => rw [hi] at hx;cases hx
   | some d =>
     rw [hi] at hx
     have ih:=endsTo_bd hnf hl hh hd i h hh'
     exact (succ_bd hnf hl (hd d (List.mem_of_getElem? hi)) ih (by omega) x hx).mono (by omega)
theorem endsTo_mem {t:Int} {l:List Mk} {heads:List (List Int)} {ds:List De} {deed owner:Int} {i:Nat} {d:De} (hd:ds[i]? = some d) (x:List Int) :
 x ∈ endsTo t l heads ds deed owner (i + 1) ↔ ∃ h ∈ endsTo t l heads ds deed owner i,x ∈ succ t l (passB deed owner i) d h:=by
 conv => lhs;unfold endsTo
 rw [mem_ddup,List.mem_flatMap,hd]
end Go.Proofs.YtmennjmjakdkcaaGreat
namespace Go.Proofs.YtmennjmjakdkcaaGreat
set_option linter.unusedVariables false
set_option linter.unusedSimpArgs false
def minL:List Int→Int
 | [] => 0
 | x :: l => l.foldl min x
def maxL:List Int→Int
 | [] => 0
 | x :: l => l.foldl max x
theorem foldl_min (l:List Int):∀ a,(l.foldl min a = a ∨ l.foldl min a ∈ l)∧l.foldl min a ≤ a∧∀ y ∈ l,l.foldl min a ≤ y:=by
 induction l with
 | nil => intro a;simp
 | cons x l ih =>
   intro a
   rw [List.foldl_cons]
   obtain ⟨h1,h2,h3⟩:=ih (min a x)
   refine ⟨?_,by omega,fun y hy => ?_⟩
   ·rcases h1 with h1 | h1
    ·rw [h1]
     by_cases hax:a ≤ x
     ·left;omega
     ·right;rw [show min a x = x by omega];exact List.mem_cons_self
    ·exact .inr (List.mem_cons_of_mem _ h1)
   ·rcases List.mem_cons.1 hy with rfl | hy
    ·omega
    ·exact h3 y hy
theorem foldl_max (l:List Int):∀ a,(l.foldl max a = a ∨ l.foldl max a ∈ l)∧a ≤ l.foldl max a∧∀ y ∈ l,y ≤ l.foldl max a:=by
 induction l with
 | nil => intro a;simp
 | cons x l ih =>
   intro a
   rw [List.foldl_cons]
   obtain ⟨h1,h2,h3⟩:=ih (max a x)
   refine ⟨?_,by omega,fun y hy => ?_⟩
   ·rcases h1 with h1 | h1
    ·rw [h1]
     by_cases hax:x ≤ a
     ·left;omega
     ·right;rw [show max a x = x by omega];exact List.mem_cons_self
    ·exact .inr (List.mem_cons_of_mem _ h1)
   ·rcases List.mem_cons.1 hy with rfl | hy
    ·omega
    ·exact h3 y hy
theorem minL_spec {l:List Int} (h:l ≠ []):minL l ∈ l∧∀ y ∈ l,minL l ≤ y:=by
 cases l with
 | nil => exact absurd rfl h
 | cons x l =>
   obtain ⟨h1,h2,h3⟩:=foldl_min l x
   refine ⟨?_,fun y hy => ?_⟩
   ·show l.foldl min x ∈ x :: l
    rcases h1 with h1 | h1
    ·rw [h1];exact List.mem_cons_self
    ·exact List.mem_cons_of_mem _ h1
   ·rcases List.mem_cons.1 hy with rfl | hy
    ·exact h2
    ·exact h3 y hy
theorem maxL_spec {l:List Int} (h:l ≠ []):maxL l ∈ l∧∀ y ∈ l,y ≤ maxL l:=by
 cases l with
 | nil => exact absurd rfl h
 | cons x l =>
   obtain ⟨h1,h2,h3⟩:=foldl_max l x
   refine ⟨?_,fun y hy => ?_⟩
   ·show l.foldl max x ∈ x :: l
    rcases h1 with h1 | h1
    ·rw [h1];exact List.mem_cons_self
    ·exact List.mem_cons_of_mem _ h1
   ·rcases List.mem_cons.1 hy with rfl | hy
    ·exact h2
    ·exact h3 y hy
theorem minL_eq {l:List Int} {m:Int} (hm:m ∈ l) (h:∀ y ∈ l,m ≤ y):minL l = m:=by
 obtain ⟨h1,h2⟩:=minL_spec (List.ne_nil_of_mem hm)
 have:=h _ h1
 have:=h2 _ hm
 omega
theorem maxL_eq {l:List Int} {m:Int} (hm:m ∈ l) (h:∀ y ∈ l,y ≤ m):maxL l = m:=by
 obtain ⟨h1,h2⟩:=maxL_spec (List.ne_nil_of_mem hm)
 have:=h _ h1
 have:=h2 _ hm
 omega
theorem minL_congr {l m:List Int} (h:∀ x,x ∈ l ↔ x ∈ m):minL l = minL m:=by
 by_cases hm:m = []
 ·subst hm
  have:l = []:=List.eq_nil_iff_forall_not_mem.2 fun x hx => by have:=(h x).1 hx;cases this
  rw [this]
 ·obtain ⟨h1,h2⟩:=minL_spec hm
  exact minL_eq ((h _).2 h1) fun y hy => h2 y ((h y).1 hy)
theorem maxL_congr {l m:List Int} (h:∀ x,x ∈ l ↔ x ∈ m):maxL l = maxL m:=by
 by_cases hm:m = []
 ·subst hm
  have:l = []:=List.eq_nil_iff_forall_not_mem.2 fun x hx => by have:=(h x).1 hx;cases this
  rw [this]
 ·obtain ⟨h1,h2⟩:=maxL_spec hm
  exact maxL_eq ((h _).2 h1) fun y hy => h2 y ((h y).1 hy)
theorem minL_snoc (l:List Int) (x:Int):minL (l ++ [x]) = if l = [] then x else min (minL l) x:=by
 cases l with
 | nil => rfl
 | cons y l => rw [if_neg (by simp)];simp [minL,List.foldl_append]
theorem maxL_snoc (l:List Int) (x:Int):maxL (l ++ [x]) = if l = [] then x else max (maxL l) x:=by
 cases l with
 | nil => rfl
 | cons y l => rw [if_neg (by simp)];simp [maxL,List.foldl_append]
structure Rn where
 lo:Int
 hi:Int
 deriving DecidableEq
def rangeE (E:List (List Int)) (of:List Int→Int):Rn:=⟨minL (E.map of),maxL (E.map of)⟩
theorem rangeE_congr {E E':List (List Int)} {f g:List Int→Int} (h:∀ x,x ∈ E ↔ x ∈ E') (hfg:∀ x ∈ E',f x = g x):rangeE E f = rangeE E' g:=by
 have:∀ y,y ∈ E.map f ↔ y ∈ E'.map g:=fun y => by
  simp only [List.mem_map]
  exact ⟨fun ⟨x,hx,e⟩ => ⟨x,(h x).1 hx,by rw [← hfg x ((h x).1 hx),e]⟩,fun ⟨x,hx,e⟩ => ⟨x,(h x).2 hx,by rw [hfg x hx,e]⟩⟩
 unfold rangeE
 rw [minL_congr this,maxL_congr this]
theorem rangeE_perm {E E':List (List Int)} {f:List Int→Int} (h:E.Perm E'):rangeE E f = rangeE E' f:=rangeE_congr (fun x => h.mem_iff) fun _ _ => rfl
theorem rangeE_snoc (E:List (List Int)) (x:List Int) (f:List Int→Int):rangeE (E ++ [x]) f = if E = [] then ⟨f x,f x⟩ else ⟨min (rangeE E f).lo (f x),max (rangeE E f).hi (f x)⟩:=by
 unfold rangeE
 rw [List.map_append,List.map_singleton,minL_snoc,maxL_snoc]
 by_cases h:E = []
 ·simp [h]
 ·simp [h]
theorem rangeE_mem {E:List (List Int)} {f:List Int→Int} (hE:E ≠ []):(∃ x ∈ E,(rangeE E f).lo = f x)∧(∃ x ∈ E,(rangeE E f).hi = f x)∧∀ x ∈ E,(rangeE E f).lo ≤ f x∧f x ≤ (rangeE E f).hi:=by
 have hne:E.map f ≠ []:=by simpa using hE
 obtain ⟨h1,h2⟩:=minL_spec hne
 obtain ⟨h3,h4⟩:=maxL_spec hne
 obtain ⟨x,hx,e⟩:=List.mem_map.1 h1
 obtain ⟨y,hy,e'⟩:=List.mem_map.1 h3
 exact ⟨⟨x,hx,e.symm⟩,⟨y,hy,e'.symm⟩,fun z hz => ⟨h2 _ (List.mem_map.2 ⟨z,hz,rfl⟩),h4 _ (List.mem_map.2 ⟨z,hz,rfl⟩)⟩⟩
def hasL (E:List (List Int)) (n nf:Nat):List (List Rn):=(List.range nf).map fun f => (List.range n).map fun o => rangeE E fun h => hget h f o
def ownsL (E:List (List Int)) (n:Nat):List Rn:=(List.range n).map fun o => rangeE E fun h => howned h o
def totalL (E:List (List Int)) (nf:Nat):List Rn:=(List.range nf).map fun f => rangeE E fun h => hall h f
structure Gf where
 f:Int
 o:Int
 r:Rn
 deriving DecidableEq
def namD (d:De):De :=
 if d.kind = 1 ∨ d.kind = 3 then ⟨d.kind,d.flock,d.owner,0,0,d.many,0,⟨0,false,false,0,0⟩⟩
 else if d.kind = 2 then ⟨d.kind,d.flock,d.owner,d.other,0,d.many,0,⟨0,false,false,0,0⟩⟩
 else if d.kind = 4 then ⟨d.kind,d.flock,0,0,0,d.many,0,⟨0,false,false,0,0⟩⟩
 else if d.kind = 5 then ⟨d.kind,d.flock,0,0,d.tof,0,0,d.s⟩
 else ⟨d.kind,d.flock,0,0,0,d.many,d.err,⟨0,false,false,0,0⟩⟩
def ownB (n:Nat) (x:Int):Bool:=btw x 0 ((n:Int) - 1)
def fldE (n nf:Nat) (d:De):Int :=
 if d.kind = 1 ∨ d.kind = 3 then (if ownB n d.owner = false then 3 else if btw d.many 1 20 = false then 1 else 0)
 else if d.kind = 2 then (if ownB n d.owner = false ∨ ownB n d.other = false then 3 else if d.owner = d.other then 4 else if btw d.many 1 20 = false then 1 else 0)
 else if d.kind = 4 then (if btw d.many 1 3 = false then 1 else 0)
 else if d.kind = 5 then (if ownB nf d.tof = false then 3 else if d.tof = d.flock then 4 else seen d.s 9 6)
 else (if btw d.many 0 300 = false ∨ btw d.err 0 20 = false then 1 else 0)
def deedE (n nf:Nat) (d:De):Int :=
 if btw d.kind 1 6 = false then 8 else if ownB nf d.flock = false then 3 else if fldE n nf d ≠ 0 then fldE n nf d else if d ≠ namD d then 1 else 0
def flocksE (n:Nat) (ks:List Int) (hs:List (List Int)):Int :=
 if ks.length = 0 then 7 else if 3 < ks.length then 6 else if ks.all (ownB n) = false then 3 else if hs.length ≠ ks.length then 2
 else if hs.all (fun r => decide (r.length = n)) = false then 2 else if hs.all (fun r => r.all fun x => btw x 0 20) = false then 1 else 0
def deedsE (n nf:Nat):List De→Int
 | [] => 0
 | d :: l => if deedE n nf d ≠ 0 then deedE n nf d else deedsE n nf l
def checkH (t:Int) (l:List Mk) (ks:List Int) (hs:List (List Int)) (ds:List De):Int :=
 if check t l ≠ 0 then check t l else if flocksE l.length ks hs ≠ 0 then flocksE l.length ks hs else if 6 < ds.length then 6 else deedsE l.length ks.length ds
theorem ownB_iff {n:Nat} {x:Int}:ownB n x = true ↔ 0 ≤ x∧x < n:=by unfold ownB;rw [btw_iff];omega
theorem ite0 {c:Prop} [Decidable c] {k x:Int} (hk:k ≠ 0) (h:(if c then k else x) = 0):¬ c∧x = 0:=by
 split at h
 ·exact absurd h hk
 ·exact ⟨by assumption,h⟩
theorem deedE_in {n nf:Nat} {d:De} (hn:n ≤ 5) (hf:nf ≤ 3) (hf0:0 < nf) (hn0:0 < n) (h:deedE n nf d = 0):DeIn n nf d∧d = namD d:=by
 unfold deedE at h
 split at h
 ·cases h
 rename_i h1
 split at h
 ·cases h
 rename_i h2
 split at h
 ·exact absurd h (by assumption)
 rename_i h3
 split at h
 ·cases h
 rename_i h4
 have h4:d = namD d:=Classical.not_not.1 h4
 refine ⟨?_,h4⟩
 have hk:=btw_iff.1 ((Bool.not_eq_false _).mp h1)
 have hfl:=ownB_iff.1 ((Bool.not_eq_false _).mp h2)
 have h3:fldE n nf d = 0:=Classical.not_not.1 h3
 clear h1 h2
 unfold fldE at h3
 unfold namD at h4
 obtain ⟨kind,flock,owner,other,tof,many,err,s⟩:=d
 dsimp only at *
 obtain e | e | e | e | e | e:kind = 1 ∨ kind = 2 ∨ kind = 3 ∨ kind = 4 ∨ kind = 5 ∨ kind = 6:=by omega
 all_goals subst e
 ·rw [if_pos (by decide)] at h3 h4
  obtain ⟨a1,h3⟩:=ite0 (by decide) h3
  obtain ⟨a2,-⟩:=ite0 (by decide) h3
  injection h4 with _ _ _ e1 e2 _ e3 e4
  subst e1 e2 e3 e4
  have a1:=ownB_iff.1 ((Bool.not_eq_false _).mp a1)
  have a2:=btw_iff.1 ((Bool.not_eq_false _).mp a2)
  exact ⟨by dsimp;omega,by dsimp;omega,by dsimp;omega,by dsimp;omega,by dsimp;omega,by dsimp;omega,by dsimp;omega,by dsimp;omega,by dsimp;omega,by dsimp;intro h;omega⟩
 ·rw [if_neg (by decide),if_pos (by decide)] at h3 h4
  obtain ⟨a1,h3⟩:=ite0 (by decide) h3
  obtain ⟨a3,h3⟩:=ite0 (by decide) h3
  obtain ⟨a2,-⟩:=ite0 (by decide) h3
  injection h4 with _ _ _ _ e2 _ e3 e4
  subst e2 e3 e4
  have a0:=ownB_iff.1 ((Bool.not_eq_false _).mp (fun h => a1 (.inl h)))
  have a4:=ownB_iff.1 ((Bool.not_eq_false _).mp (fun h => a1 (.inr h)))
  have a2:=btw_iff.1 ((Bool.not_eq_false _).mp a2)
  exact ⟨by dsimp;omega,by dsimp;omega,by dsimp;omega,by dsimp;omega,by dsimp;omega,by dsimp;omega,by dsimp;omega,by dsimp;omega,by dsimp;omega,by dsimp;intro h;omega⟩
 ·rw [if_pos (by decide)] at h3 h4
  obtain ⟨a1,h3⟩:=ite0 (by decide) h3
  obtain ⟨a2,-⟩:=ite0 (by decide) h3
  injection h4 with _ _ _ e1 e2 _ e3 e4
  subst e1 e2 e3 e4
  have a1:=ownB_iff.1 ((Bool.not_eq_false _).mp a1)
  have a2:=btw_iff.1 ((Bool.not_eq_false _).mp a2)
  exact ⟨by dsimp;omega,by dsimp;omega,by dsimp;omega,by dsimp;omega,by dsimp;omega,by dsimp;omega,by dsimp;omega,by dsimp;omega,by dsimp;omega,by dsimp;intro h;omega⟩
 ·rw [if_neg (by decide),if_neg (by decide),if_pos (by decide)] at h3 h4
  obtain ⟨a2,-⟩:=ite0 (by decide) h3
  injection h4 with _ _ e0 e1 e2 _ e3 e4
  subst e0 e1 e2 e3 e4
  have a2:=btw_iff.1 ((Bool.not_eq_false _).mp a2)
  exact ⟨by dsimp;omega,by dsimp;omega,by dsimp;omega,by dsimp;omega,by dsimp;omega,by dsimp;omega,by dsimp;omega,by dsimp;omega,by dsimp;omega,by dsimp;intro h;omega⟩
 ·rw [if_neg (by decide),if_neg (by decide),if_neg (by decide),if_pos (by decide)] at h3 h4
  obtain ⟨a1,h3⟩:=ite0 (by decide) h3
  have hst:=(ite0 (by decide) h3).2
  injection h4 with _ _ e0 e1 _ e2 e3 _
  subst e0 e1 e2 e3
  have a1:=ownB_iff.1 ((Bool.not_eq_false _).mp a1)
  exact ⟨by dsimp;omega,by dsimp;omega,by dsimp;omega,by dsimp;omega,by dsimp;omega,by dsimp;omega,by dsimp;omega,by dsimp;omega,by dsimp;omega,fun _ => hst⟩
 ·rw [if_neg (by decide),if_neg (by decide),if_neg (by decide),if_neg (by decide)] at h3 h4
  obtain ⟨a1,-⟩:=ite0 (by decide) h3
  injection h4 with _ _ e0 e1 e2 _ _ e4
  subst e0 e1 e2 e4
  have a0:=btw_iff.1 ((Bool.not_eq_false _).mp (fun h => a1 (.inl h)))
  have a4:=btw_iff.1 ((Bool.not_eq_false _).mp (fun h => a1 (.inr h)))
  exact ⟨by dsimp;omega,by dsimp;omega,by dsimp;omega,by dsimp;omega,by dsimp;omega,by dsimp;omega,by dsimp;omega,by dsimp;omega,by dsimp;omega,by dsimp;intro h;omega⟩
theorem deedsE_all {n nf:Nat}:∀ {l:List De},deedsE n nf l = 0 ↔ ∀ d ∈ l,deedE n nf d = 0
 | [] => by simp [deedsE]
 | d :: l => by
   unfold deedsE
   by_cases h:deedE n nf d = 0
   ·rw [if_neg (by simpa using h),deedsE_all];simp [h]
   ·rw [if_pos h];simp [h]
structure HeOk (t:Int) (l:List Mk) (ks:List Int) (hs:List (List Int)) (ds:List De):Prop where
 ck:check t l = 0
 n5:l.length ≤ 5
 n0:0 < l.length
 f0:0 < ks.length
 f3:ks.length ≤ 3
 kk:∀ k ∈ ks,0 ≤ k∧k < l.length
 hl:hs.length = ks.length
 rl:∀ r ∈ hs,r.length = l.length
 rb:∀ r ∈ hs,∀ x ∈ r,0 ≤ x∧x ≤ 20
 d6:ds.length ≤ 6
 dE:∀ d ∈ ds,deedE l.length ks.length d = 0
 dI:∀ d ∈ ds,DeIn l.length ks.length d
theorem checkH_ok {t:Int} {l:List Mk} {ks:List Int} {hs:List (List Int)} {ds:List De} (h:checkH t l ks hs ds = 0):HeOk t l ks hs ds:=by
 unfold checkH at h
 split at h
 ·exact absurd h (by assumption)
 rename_i h1
 split at h
 ·exact absurd h (by assumption)
 rename_i h2
 split at h
 ·cases h
 rename_i h3
 have h1:check t l = 0:=Classical.not_not.1 h1
 have h2:flocksE l.length ks hs = 0:=Classical.not_not.1 h2
 have h5:=(check_ok h1).2.2.1
 unfold flocksE at h2
 split at h2
 ·cases h2
 rename_i f0
 split at h2
 ·cases h2
 rename_i f3
 split at h2
 ·cases h2
 rename_i fk
 split at h2
 ·cases h2
 rename_i fl
 split at h2
 ·cases h2
 rename_i fr
 split at h2
 ·cases h2
 rename_i fb
 have fk:=List.all_eq_true.1 ((Bool.not_eq_false _).mp fk)
 have fr:=List.all_eq_true.1 ((Bool.not_eq_false _).mp fr)
 have fb:=List.all_eq_true.1 ((Bool.not_eq_false _).mp fb)
 have kk:∀ k ∈ ks,0 ≤ k∧k < l.length:=fun k hk => ownB_iff.1 (fk k hk)
 have n0:0 < l.length:=by
  cases ks with
  | nil => exact absurd rfl f0
  | cons k ks => have:=kk k List.mem_cons_self;omega
 have dE:=deedsE_all.1 h
 exact ⟨h1,h5,n0,by omega,by omega,kk,by omega,fun r hr => by simpa using fr r hr,fun r hr x hx => btw_iff.1 (List.all_eq_true.1 (fb r hr) x hx),by omega,dE,fun d hd => (deedE_in h5 (by omega) (by omega) n0 (dE d hd)).1⟩
end Go.Proofs.YtmennjmjakdkcaaGreat
namespace Go.Proofs.YtmennjmjakdkcaaGreat
set_option linter.unusedVariables false
set_option linter.unusedSimpArgs false
structure Sm where
 first:Int
 born:Int
 bought:Int
 sold:Int
 eaten:Int
 deriving DecidableEq
def stepS (o:Int) (s:Sm) (d:De):Sm :=
 if d.owner = o∧d.kind = 1 then { s with born:=s.born + d.many }
 else if d.owner = o∧d.kind = 2 then { s with sold:=s.sold + d.many }
 else if d.owner = o∧d.kind = 3 then { s with eaten:=s.eaten + d.many }
 else if d.kind = 2∧d.other = o then { s with bought:=s.bought + d.many } else s
def sumS (hs:List (List Int)) (o:Nat) (ds:List De):Sm:=ds.foldl (stepS o) ⟨howned (firstH hs) o,0,0,0,0⟩
def hasS (s:Sm):Int:=s.first + s.born + s.bought - s.sold - s.eaten
theorem sumS_snoc (hs:List (List Int)) (o:Nat) (ds:List De) {k:Nat} {d:De} (h:ds[k]? = some d):sumS hs o (ds.take (k + 1)) = stepS o (sumS hs o (ds.take k)) d:=by
 unfold sumS
 rw [List.take_add_one,h,List.foldl_append]
 rfl
def delta (o:Int) (d:De):Int:=(if d.kind = 1∧d.owner = o then d.many else 0) + (if d.kind = 2∧d.other = o then d.many else 0) - (if d.kind = 2∧d.owner = o then d.many else 0) - (if d.kind = 3∧d.owner = o then d.many else 0)
theorem hasS_step (o:Int) (s:Sm) (d:De) (h:d.kind = 2→d.owner ≠ d.other):hasS (stepS o s d) = hasS s + delta o d:=by
 unfold stepS delta hasS
 by_cases h1:d.kind = 1
 ·by_cases h2:d.owner = o <;> simp [h1,h2] <;> omega
 ·by_cases h3:d.kind = 2
  ·have hne:=h h3
   by_cases h2:d.owner = o
   ·have:d.other ≠ o:=fun e => hne (h2.trans e.symm)
    simp [h3,h2,this];omega
   ·by_cases h4:d.other = o <;> simp [h3,h2,h4] <;> omega
  ·by_cases h4:d.kind = 3
   ·by_cases h2:d.owner = o <;> simp [h4,h2] <;> omega
   ·simp [h1,h3,h4]
def htot (h:List Int):Int:=hall h 0 + hall h 1 + hall h 2
theorem lt3 {f:Nat} (h:f < 3):f = 0 ∨ f = 1 ∨ f = 2:=by omega
theorem lt5 {f:Nat} (h:f < 5):f = 0 ∨ f = 1 ∨ f = 2 ∨ f = 3 ∨ f = 4:=by omega
theorem howned_hadd {h:List Int} (hl:h.length = 15) {f o o':Nat} {k:Int} (hf:f < 3) (ho:o < 5) (ho':o' < 5):howned (hadd h f o k) o' = howned h o' + if o = o' then k else 0:=by
 unfold howned
 rw [hget_hadd hl hf ho ho',hget_hadd hl hf ho ho',hget_hadd hl hf ho ho']
 by_cases e:o = o'
 ·subst e
  rcases lt3 hf with rfl | rfl | rfl <;> simp <;> omega
 ·simp [e]
theorem hall_hadd {h:List Int} (hl:h.length = 15) {f o f':Nat} {k:Int} (hf:f < 3) (ho:o < 5):hall (hadd h f o k) f' = hall h f' + if f = f' then k else 0:=by
 unfold hall
 rw [hget_hadd hl hf ho (by omega),hget_hadd hl hf ho (by omega),hget_hadd hl hf ho (by omega),hget_hadd hl hf ho (by omega),hget_hadd hl hf ho (by omega)]
 by_cases e:f = f'
 ·subst e
  rcases lt5 ho with rfl | rfl | rfl | rfl | rfl <;> simp <;> omega
 ·simp [e]
theorem htot_hadd {h:List Int} (hl:h.length = 15) {f o:Nat} {k:Int} (hf:f < 3) (ho:o < 5):htot (hadd h f o k) = htot h + k:=by
 unfold htot
 rw [hall_hadd hl hf ho,hall_hadd hl hf ho,hall_hadd hl hf ho]
 rcases lt3 hf with rfl | rfl | rfl <;> simp <;> omega
theorem hadd_l {h:List Int} {f o:Nat} {k:Int} (hl:h.length = 15):(hadd h f o k).length = 15:=by unfold hadd;rw [List.length_set];exact hl
theorem lostJ_kept {n f:Nat} (hf:f < 3) (hn:n ≤ 5):∀ (j:Nat) (h:List Int) (m:Nat),j ≤ n→h.length = 15→∀ x ∈ lostJ n f j h m,x.length = 15∧htot x = htot h - m∧∀ o,o < 5→howned x o ≤ howned h o
 | 0,h,m,_,hl,x,hx => by
   unfold lostJ at hx
   split at hx
   ·rename_i e;simp at hx;subst hx e;exact ⟨hl,by simp,fun _ _ => Int.le_refl _⟩
   ·cases hx
 | j + 1,h,m,hj,hl,x,hx => by
   unfold lostJ at hx
   split at hx
   ·rename_i e;simp at hx;subst hx e;exact ⟨hl,by simp,fun _ _ => Int.le_refl _⟩
   ·obtain ⟨k,hk,hx⟩:=List.mem_flatMap.1 hx
    have hkm:k ≤ m:=by have:=List.mem_range.1 hk;omega
    cases hm:mvd h f (n - (j + 1)) (-(k:Int)) with
    | none => rw [hm] at hx;cases hx
    | some y =>
      rw [hm] at hx
      obtain ⟨h0,rfl⟩:=mvd_some hm
      have ho5:n - (j + 1) < 5:=by omega
      obtain ⟨a1,a2,a3⟩:=lostJ_kept hf hn j _ _ (by omega) (hadd_l hl) x hx
      rw [htot_hadd hl hf ho5] at a2
      refine ⟨a1,by omega,fun o ho => ?_⟩
      have:=a3 o ho
      rw [howned_hadd hl hf ho5 ho] at this
      split at this <;> omega
def dTot (d:De):Int:=if d.kind = 1 then d.many else if d.kind = 3 ∨ d.kind = 4 then -d.many else 0
theorem succ_kept {t:Int} {l:List Mk} {pass:Int→Bool} {d:De} {h x:List Int} {nf:Nat} (hnf:nf ≤ 3) (hl5:l.length ≤ 5) (hd:DeIn l.length nf d) (hl:h.length = 15) (hx:x ∈ succ t l pass d h) :
 x.length = 15∧htot x = htot h + dTot d∧∀ o:Nat,o < 5→howned x o ≤ howned h o + delta o d:=by
 obtain ⟨kind,flock,owner,other,tof,many,err,s⟩:=d
 obtain ⟨f,rfl⟩:=Int.eq_ofNat_of_zero_le hd.f.1
 obtain ⟨ow,rfl⟩:=Int.eq_ofNat_of_zero_le hd.o.1
 obtain ⟨ot,rfl⟩:=Int.eq_ofNat_of_zero_le hd.x.1
 obtain ⟨tf,rfl⟩:=Int.eq_ofNat_of_zero_le hd.t.1
 have hf:f < 3:=by have:=hd.f.2;dsimp at this;omega
 have hw:ow < 5:=by have:=hd.o.2;dsimp at this;omega
 have ht:ot < 5:=by have:=hd.x.2;dsimp at this;omega
 have htf:tf < 3:=by have:=hd.t.2;dsimp at this;omega
 have hm:=hd.m
 have hk:=hd.k
 dsimp only at hm hk
 unfold succ at hx
 simp only [Int.toNat_natCast] at hx
 unfold dTot delta
 dsimp only at hx ⊢
 obtain e | e | e | e | e | e:kind = 1 ∨ kind = 2 ∨ kind = 3 ∨ kind = 4 ∨ kind = 5 ∨ kind = 6:=by omega
 all_goals subst e
 all_goals simp at hx ⊢
 ·subst hx
  refine ⟨hadd_l hl,htot_hadd hl hf hw,fun o ho => ?_⟩
  rw [howned_hadd hl hf hw ho]
  by_cases e:ow = o
  ·simp [e]
  ·have e':¬ (ow:Int) = (o:Int):=by omega
   simp [e,e']
 ·cases hmv:mvd h f ow (-many) with
  | none => rw [hmv] at hx;cases hx
  | some y =>
    rw [hmv] at hx
    obtain ⟨h0,rfl⟩:=mvd_some hmv
    simp at hx
    subst hx
    refine ⟨hadd_l (hadd_l hl),by rw [htot_hadd (hadd_l hl) hf ht,htot_hadd hl hf hw];omega,fun o ho => ?_⟩
    rw [howned_hadd (hadd_l hl) hf ht ho,howned_hadd hl hf hw ho]
    by_cases e:ow = o <;> by_cases e':ot = o <;> simp [e,e'] <;> omega
 ·cases hmv:mvd h f ow (-many) with
  | none => rw [hmv] at hx;cases hx
  | some y =>
    rw [hmv] at hx
    obtain ⟨h0,rfl⟩:=mvd_some hmv
    simp at hx
    subst hx
    refine ⟨hadd_l hl,htot_hadd hl hf hw,fun o ho => ?_⟩
    rw [howned_hadd hl hf hw ho]
    by_cases e:ow = o <;> simp [e] <;> omega
 ·obtain ⟨a1,a2,a3⟩:=lostJ_kept hf hl5 _ _ _ (Nat.le_refl _) hl x hx
  exact ⟨a1,by omega,a3⟩
 ·unfold strayL at hx
  obtain ⟨o,ho',hx⟩:=List.mem_flatMap.1 hx
  have hol:=mayTo_lt o (List.mem_filter.1 ho').1
  cases hmv:mvd h f o.toNat (-1) with
  | none => rw [hmv] at hx;cases hx
  | some y =>
    rw [hmv] at hx
    obtain ⟨h0,rfl⟩:=mvd_some hmv
    simp at hx
    subst hx
    have ho5:o.toNat < 5:=by omega
    refine ⟨hadd_l (hadd_l hl),by rw [htot_hadd (hadd_l hl) htf ho5,htot_hadd hl hf ho5];omega,fun o' ho' => ?_⟩
    rw [howned_hadd (hadd_l hl) htf ho5 ho',howned_hadd hl hf ho5 ho']
    split <;> omega
 ·obtain ⟨-,rfl⟩:=hx
  exact ⟨hl,rfl,fun _ _ => Int.le_refl _⟩
theorem sum_takeD {ds:List De} (f:De→Int) {k:Nat} {d:De} (h:ds[k]? = some d):((ds.take (k + 1)).map f).sum = ((ds.take k).map f).sum + f d:=by
 rw [List.take_add_one,h,List.map_append,List.sum_append]
 simp
theorem ends_kept {t:Int} {l:List Mk} {hs:List (List Int)} {ds:List De} {deed owner:Int} {nf:Nat} (hnf:nf ≤ 3) (hl5:l.length ≤ 5) (hd:∀ d ∈ ds,DeIn l.length nf d) (hne:∀ d ∈ ds,d.kind = 2→d.owner ≠ d.other) :
 ∀ i,i ≤ ds.length→∀ x ∈ endsTo t l hs ds deed owner i,x.length = 15∧htot x = htot (firstH hs) + ((ds.take i).map dTot).sum∧∀ o:Nat,o < 5→howned x o ≤ hasS (sumS hs o (ds.take i))
 | 0,_,x,hx => by
   simp [endsTo] at hx
   subst hx
   exact ⟨by simp [firstH],by simp,fun o ho => by unfold sumS hasS;simp⟩
 | i + 1,hi,x,hx => by
   have hg:ds[i]? = some ds[i]:=List.getElem?_eq_getElem (by omega)
   obtain ⟨h,hh,hx⟩:=(endsTo_mem hg x).1 hx
   obtain ⟨a1,a2,a3⟩:=ends_kept hnf hl5 hd hne i (by omega) h hh
   have hm:=List.getElem_mem (l:=ds) (show i < ds.length by omega)
   obtain ⟨b1,b2,b3⟩:=succ_kept hnf hl5 (hd _ hm) a1 hx
   refine ⟨b1,by rw [sum_takeD dTot hg];omega,fun o ho => ?_⟩
   rw [sumS_snoc hs o ds hg,hasS_step _ _ _ (hne _ hm)]
   have:=a3 o ho
   have:=b3 o ho
   omega
theorem flatMap_len {α β:Type} {f:α→List β} {c:Nat}:∀ {l:List α},(∀ x ∈ l,(f x).length ≤ c)→(l.flatMap f).length ≤ l.length * c
 | [],_ => by simp
 | x :: l,h => by
   rw [List.flatMap_cons,List.length_append,List.length_cons]
   have h1:=h x List.mem_cons_self
   have h2:=flatMap_len (l:=l) fun y hy => h y (List.mem_cons_of_mem _ hy)
   rw [Nat.add_mul]
   omega
theorem lostJ_len {n f:Nat}:∀ (j:Nat) (h:List Int) (m c:Nat),m ≤ c→(lostJ n f j h m).length ≤ (c + 1) ^ j
 | 0,h,m,c,hc => by unfold lostJ;split <;> simp
 | j + 1,h,m,c,hc => by
   have hp:0 < (c + 1) ^ j:=Nat.pow_pos (by omega)
   unfold lostJ
   split
   ·have:0 < (c + 1) ^ (j + 1):=Nat.pow_pos (by omega)
    simp only [List.length_cons,List.length_nil]
    omega
   ·refine Nat.le_trans (flatMap_len (c:=(c + 1) ^ j) fun k hk => ?_) ?_
    ·cases mvd h f (n - (j + 1)) (-(k:Int)) with
     | none => exact Nat.zero_le _
     | some x => exact lostJ_len j x (m - k) c (by omega)
    ·rw [List.length_range,Nat.pow_succ,Nat.mul_comm]
     exact Nat.mul_le_mul_left _ (by omega)
theorem ddup_len:∀ l:List (List Int),(ddup l).length ≤ l.length
 | [] => by simp [ddup]
 | x :: l => by
   have:=ddup_len l
   unfold ddup
   split
   ·simp;omega
   ·simp;omega
theorem succ_len {t:Int} {l:List Mk} {pass:Int→Bool} {d:De} {h:List Int} {nf:Nat} (hl5:l.length ≤ 5) (hd:DeIn l.length nf d):(succ t l pass d h).length ≤ 1024:=by
 have hm:=hd.m
 unfold succ
 split
 ·simp
 split
 ·cases mvd h d.flock.toNat d.owner.toNat (-d.many) <;> simp
 split
 ·cases mvd h d.flock.toNat d.owner.toNat (-d.many) <;> simp
 split
 ·rename_i h4
  have:=hd.l h4
  refine Nat.le_trans (lostJ_len l.length h d.many.toNat 3 (by omega)) ?_
  have e:∀ n:Fin 6,(3 + 1) ^ n.1 ≤ 1024:=by decide
  exact e ⟨l.length,by omega⟩
 split
 ·unfold strayL
  refine Nat.le_trans (flatMap_len (c:=1) fun o _ => ?_) ?_
  ·cases mvd h d.flock.toNat o.toNat (-1) <;> simp
  ·have h1:=List.length_filter_le pass (mayL t l d.s)
   have h2:=mayTo_len t l d.s l.length
   unfold mayL at *
   omega
 split <;> simp
theorem endsTo_len {t:Int} {l:List Mk} {hs:List (List Int)} {ds:List De} {deed owner:Int} {nf:Nat} (hl5:l.length ≤ 5) (hd:∀ d ∈ ds,DeIn l.length nf d):∀ i,(endsTo t l hs ds deed owner i).length ≤ 1024 ^ i
 | 0 => by simp [endsTo]
 | i + 1 => by
   unfold endsTo
   refine Nat.le_trans (ddup_len _) (Nat.le_trans (flatMap_len (c:=1024) fun h _ => ?_) ?_)
   ·cases hi:ds[i]? with
    | none => exact Nat.zero_le _
    | some d => exact succ_len hl5 (hd d (List.mem_of_getElem? hi))
   ·rw [Nat.pow_succ]
    exact Nat.mul_le_mul_right _ (endsTo_len hl5 hd i)
theorem endsL_len {t:Int} {l:List Mk} {ks:List Int} {hs:List (List Int)} {ds:List De} {deed owner:Int} (h:HeOk t l ks hs ds):(endsL t l hs ds deed owner).length ≤ 1152921504606846976:=by
 refine Nat.le_trans (endsTo_len h.n5 h.dI ds.length) ?_
 refine Nat.le_trans (Nat.pow_le_pow_right (by omega) h.d6) (by decide)
end Go.Proofs.YtmennjmjakdkcaaGreat
