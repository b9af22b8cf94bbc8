/- HerdParted 40: Gives, Owners, LawH, Row, ShwL, ParL. -/
import Derived.Test.YtmennjmjakdkcaaPd31
import Derived.Test.YtmennjmjakdkcaaPd03
import Derived.Test.YtmennjmjakdkcaaPd38
import Derived.Test.YtmennjmjakdkcaaPd14
import Derived.Test.YtmennjmjakdkcaaPd09
import Derived.Deep.OwnRows
import Derived.Deep.RegionLaw
import Derived.Test.YtmennjmjakdkcaaPd05
import Derived.Test.YtmennjmjakdkcaaPd04
import Derived.Test.YtmennjmjakdkcaaPd13
import Derived.Test.YtmennjmjakdkcaaPd34
import Derived.Test.YtmennjmjakdkcaaPd39
namespace Go.Proofs.Ytmennjmjakdkcaa
open Go.RowKit
set_option linter.unusedVariables false
set_option linter.unusedSimpArgs false
def cntI (x : List Int) (o : Int) : Nat:=x.countP (· == o)
def fitAt (t : Int) (l : List Mk) (ss : List Sg) (x : List Int) (i : Nat) : Bool:=decide (x.getD i 0 < 0) || fits (ss.getD i ⟨0,false,false,0,0⟩) (mkAt l (x.getD i 0)) t
def givesB (t : Int) (l : List Mk) (ss : List Sg) (mis x : List Int) : Bool:=((List.range l.length).all fun (o : Nat) => decide ((cntI x (o : Int) : Int) ≤ mis.getD o 0)) && (List.range x.length).all (fitAt t l ss x)
theorem cntI_snoc (x : List Int) (y o : Int) : cntI (x ++ [y]) o = cntI x o + if y = o then 1 else 0:=by
 unfold cntI
 rw [List.countP_append]
 by_cases h : y = o <;> simp [h]
theorem cntI_le (x : List Int) (o : Int) : cntI x o ≤ x.length:=List.countP_le_length
end Go.Proofs.Ytmennjmjakdkcaa
namespace Go.Proofs.Ytmennjmjakdkcaa
open Go.RowKit
set_option linter.unusedVariables false
set_option linter.unusedSimpArgs false
def letB (i : Nat) (o : Int) (p : Nat) (x : Int) : Bool:=decide (p ≠ i) || decide (x = o)
def ownsIn (may : List (List Int)) (mis : List Int) (i : Nat) (r : List Int) : List Int:=r.filter fun o => (giveL may mis 0 (letB i o)).isSome
def ownsRow (may : List (List Int)) (mis : List Int) (i : Nat) : List Int:=ownsIn may mis i ((may[i]?).getD [])
end Go.Proofs.Ytmennjmjakdkcaa
namespace Go.Proofs.Ytmennjmjakdkcaa
set_option linter.unusedVariables false
set_option linter.unusedSimpArgs false
def goodR (may : List (List Int)) (mis : List Int) (lf : Nat → Int → Bool) (L : Nat) : Nat → Cn → List Int → Bool
 | 0,_,_ => true
 | n + 1,c,[] => false
 | n + 1,c,o :: r => ((may.getD (L - (n + 1)) []).contains o && (decide (c.at o.toNat < mis.getD o.toNat 0) && lf (L - (n + 1)) o)) && goodR may mis lf L n (c.up o.toNat) r
theorem findSome_filter {α β : Type} (p : α → Bool) (h : α → Option β) : ∀ l : List α,(l.filter p).findSome? h = l.findSome? fun i => if p i then h i else none
 | [] => rfl
 | a :: l => by
   by_cases hp : p a = true
   ·rw [List.filter_cons_of_pos hp,List.findSome?_cons,List.findSome?_cons,if_pos hp,findSome_filter p h l]
   ·rw [List.filter_cons_of_neg hp,List.findSome?_cons,if_neg hp,findSome_filter p h l]
theorem findSome_map {α β γ : Type} (f : α → γ) (h : γ → Option β) : ∀ l : List α,(l.map f).findSome? h = l.findSome? fun i => h (f i)
 | [] => rfl
 | a :: l => by rw [List.map_cons,List.findSome?_cons,List.findSome?_cons,findSome_map f h l]
theorem find_flat {α β : Type} (f : α → List β) (p : β → Bool) : ∀ l : List α,(l.flatMap f).find? p = l.findSome? fun i => (f i).find? p
 | [] => rfl
 | a :: l => by
   rw [List.flatMap_cons,List.find?_append,List.findSome?_cons,find_flat f p l]
   cases (f a).find? p <;> rfl
theorem findSome_congr {α β : Type} {f g : α → Option β} : ∀ {l : List α},(∀ a ∈ l,f a = g a) → l.findSome? f = l.findSome? g
 | [],_ => rfl
 | a :: l,h => by rw [List.findSome?_cons,List.findSome?_cons,h a (by simp),findSome_congr fun b hb => h b (by simp [hb])]
theorem find_map' {α β : Type} (f : α → β) (p : β → Bool) : ∀ l : List α,(l.map f).find? p = (l.find? fun a => p (f a)).map f
 | [] => rfl
 | a :: l => by
   rw [List.map_cons,List.find?_cons,List.find?_cons,find_map' f p l]
   cases p (f a) <;> rfl
theorem find_congr {α : Type} {p q : α → Bool} : ∀ {l : List α},(∀ a ∈ l,p a = q a) → l.find? p = l.find? q
 | [],_ => rfl
 | a :: l,h => by rw [List.find?_cons,List.find?_cons,h a (by simp),find_congr fun b hb => h b (by simp [hb])]
theorem find_false {α : Type} (l : List α) : l.find? (fun _ => false) = none:=by
 rw [List.find?_eq_none];intro a _ h;cases h
theorem rest_find {b N L : Nat} {may : List (List Int)} {mis : List Int} {lf : Nat → Int → Bool} (hrow : ∀ k,∃ p : Nat → Bool,may.getD k [] = ((List.range N).filter p).map Int.ofNat) :
 ∀ n c,Srch.rest ⟨b,L,may,mis,0,lf⟩ n c = (wordsL N n).find? (goodR may mis lf L n c)
 | 0,c => rfl
 | n + 1,c => by
   unfold Srch.rest wordsL
   rw [if_neg (by simp),find_flat]
   obtain ⟨p,hp⟩:=hrow (L - (n + 1))
   dsimp only
   rw [hp,findSome_map,findSome_filter]
   refine findSome_congr fun i hi => ?_
   rw [find_map']
   have hc : (may.getD (L - (n + 1)) []).contains (Int.ofNat i) = p i:=by
    rw [hp,Bool.eq_iff_iff,List.contains_eq_mem,decide_eq_true_eq,List.mem_map]
    constructor
    ·rintro ⟨a,ha,he⟩
     have : a = i:=by injection he
     subst this
     exact (List.mem_filter.1 ha).2
    ·intro h
     exact ⟨i,List.mem_filter.2 ⟨hi,h⟩,rfl⟩
   have hg : ∀ r,goodR may mis lf L (n + 1) c ((i : Int) :: r) = ((p i && (decide (c.at i < mis.getD i 0) && lf (L - (n + 1)) i)) && goodR may mis lf L n (c.up i) r):=by
    intro r
    show (((may.getD (L - (n + 1)) []).contains (i : Int) && _) && _) = _
    rw [show (may.getD (L - (n + 1)) []).contains (i : Int) = p i from hc]
    rfl
   simp only [hg]
   rw [rest_find hrow n]
   cases hpi : p i
   ·simp only [Bool.false_and,find_false];rfl
   ·simp only [Bool.true_and,if_true]
    show (if (decide (c.at i < mis.getD i 0) && lf (L - (n + 1)) (i : Int)) = true then _ else none) = _
    cases hq : (decide (c.at i < mis.getD i 0) && lf (L - (n + 1)) (i : Int))
    ·simp only [Bool.false_and,find_false];rfl
    ·simp only [Bool.true_and,if_true];rfl
theorem cntI_cons (y : Int) (x : List Int) (o : Int) : cntI (y :: x) o = cntI x o + if y = o then 1 else 0:=by
 unfold cntI
 rw [List.countP_cons]
 by_cases h : y = o <;> simp [h]
theorem cntI_zero {x : List Int} {o : Int} (h : o ∉ x) : cntI x o = 0:=by
 unfold cntI
 rw [List.countP_eq_zero]
 intro a ha he
 simp at he
 subst he
 exact h ha
theorem good_iff {N L : Nat} {may : List (List Int)} {mis : List Int} {lf : Nat → Int → Bool} (hN : N ≤ 5) : ∀ (n : Nat) (c : Cn) (r : List Int),n ≤ L → r ∈ wordsL N n →
 (goodR may mis lf L n c r = true ↔ (∀ (j : Nat) (o : Int),r[j]? = some o → o ∈ may.getD (L - n + j) [] ∧ lf (L - n + j) o = true) ∧ ∀ o : Nat,(o : Int) ∈ r → c.at o + (cntI r o : Int) ≤ mis.getD o 0)
 | 0,c,r,_,hr => by
   simp [wordsL] at hr
   subst hr
   simp [goodR]
 | n + 1,c,r,hn,hr => by
   obtain ⟨i,hi,h2⟩:=List.mem_flatMap.1 hr
   obtain ⟨q,hq,rfl⟩:=List.mem_map.1 h2
   have hi5 : i < 5:=by have:=List.mem_range.1 hi;omega
   have hqm:=(wordsL_mem hq).2
   have ih:=good_iff (L:=L) (may:=may) (mis:=mis) (lf:=lf) hN n (c.up i) q (by omega) hq
   show (((may.getD (L - (n + 1)) []).contains (i : Int) && (decide (c.at i < mis.getD i 0) && lf (L - (n + 1)) i)) && goodR may mis lf L n (c.up i) q) = true ↔ _
   rw [Bool.and_eq_true,Bool.and_eq_true,Bool.and_eq_true,ih,List.contains_eq_mem,decide_eq_true_eq,decide_eq_true_eq]
   constructor
   ·rintro ⟨⟨h1,h2,h3⟩,h4,h5⟩
    refine ⟨fun j o hj => ?_,fun o ho => ?_⟩
    ·cases j with
     | zero => simp at hj;subst hj;exact ⟨h1,h3⟩
     | succ j =>
       have:=h4 j o (by simpa using hj)
       rw [show L - (n + 1) + (j + 1) = L - n + j by omega]
       exact this
    ·rw [cntI_cons]
     by_cases ho2 : (o : Int) ∈ q
     ·have h6:=h5 o ho2
      have ho5 : o < 5:=by have:=(hqm o ho2).2;omega
      rw [Cn.up_at c hi5 ho5] at h6
      by_cases hoi : o = i
      ·subst hoi;rw [if_pos rfl] at h6;rw [if_pos rfl];omega
      ·rw [if_neg hoi] at h6;rw [if_neg (by omega)];omega
     ·rw [cntI_zero ho2]
      have hoi : (o : Int) = (i : Int):=by
       rcases List.mem_cons.1 ho with h | h
       ·exact h
       ·exact absurd h ho2
      have : o = i:=by omega
      subst this
      rw [if_pos rfl]
      omega
   ·rintro ⟨h1,h2⟩
    have h0:=h1 0 i rfl
    have h3:=h2 i (by simp)
    rw [cntI_cons,if_pos rfl] at h3
    refine ⟨⟨h0.1,by omega,h0.2⟩,fun j o hj => ?_,fun o ho => ?_⟩
    ·have:=h1 (j + 1) o (by simpa using hj)
     rw [show L - (n + 1) + (j + 1) = L - n + j by omega] at this
     exact this
    ·have h6:=h2 o (by simp [ho])
     have ho5 : o < 5:=by have:=(hqm o ho).2;omega
     rw [Cn.up_at c hi5 ho5]
     rw [cntI_cons] at h6
     by_cases hoi : o = i
     ·subst hoi;rw [if_pos rfl] at h6 ⊢;omega
     ·rw [if_neg hoi];rw [if_neg (by omega)] at h6;omega
theorem mays_getD {t : Int} {l : List Mk} {ss : List Sg} {k : Nat} {s : Sg} (hs : ss[k]? = some s) : (mays t l ss).getD k [] = mayL t l s:=by
 unfold mays
 rw [List.getD_eq_getElem?_getD,List.getElem?_map,hs]
 rfl
theorem give_find {t : Int} {l : List Mk} {ss : List Sg} {mis : List Int} (hn5 : l.length ≤ 5) (hmis : ∀ x ∈ mis,0 ≤ x) (lf : Nat → Int → Bool) :
 giveL (mays t l ss) mis 0 lf = (wordsL l.length ss.length).find? fun x => givesB t l ss mis x && (List.range ss.length).all fun p => lf p (x.getD p 0):=by
 have hL : (mays t l ss).length = ss.length:=by unfold mays;simp
 unfold giveL Srch.all
 dsimp only
 rw [rest_find (N:=l.length),hL]
 ·refine find_congr fun x hx => ?_
  obtain ⟨hxl,hxv⟩:=wordsL_mem hx
  rw [Bool.eq_iff_iff,good_iff hn5 ss.length _ x (Nat.le_refl _) hx]
  unfold givesB
  simp only [Bool.and_eq_true,List.all_eq_true,List.mem_range,decide_eq_true_eq,hxl,Nat.sub_self,Nat.zero_add]
  have hat : ∀ o : Nat,(⟨0,0,0,0,0,0⟩ : Cn).at o = 0:=fun o => by unfold Cn.at;split <;> rfl
  simp only [hat,Int.zero_add]
  have hfit : ∀ (j : Nat) (o : Int),x[j]? = some o → (o ∈ (mays t l ss).getD j [] ↔ fitAt t l ss x j = true):=by
   intro j o hj
   have hjl : j < ss.length:=by have:=(List.getElem?_eq_some_iff.1 hj).1;omega
   have hs:=List.getElem?_eq_getElem hjl
   obtain ⟨h0,h1⟩:=hxv o (List.mem_of_getElem? hj)
   obtain ⟨on,rfl⟩:=Int.eq_ofNat_of_zero_le h0
   have hon : on < l.length:=by omega
   have hm:=List.getElem?_eq_getElem hon
   rw [mays_getD hs,mayL_iff hm]
   unfold fitAt mkAt
   rw [List.getD_eq_getElem?_getD,hj,List.getD_eq_getElem?_getD,hs]
   have hd : decide ((on : Int) < 0) = false:=decide_eq_false (by omega)
   simp only [Option.getD_some,hd,Bool.false_or]
   simp [hm]
  constructor
  ·rintro ⟨h1,h2⟩
   refine ⟨⟨fun o ho => ?_,fun j hj => ?_⟩,fun p hp => ?_⟩
   ·by_cases hm : (o : Int) ∈ x
    ·exact h2 o hm
    ·rw [cntI_zero hm,List.getD_eq_getElem?_getD]
     cases hmo : mis[o]? with
     | none => simp
     | some z => have:=hmis z (List.mem_of_getElem? hmo);simpa using this
   ·have hj':=List.getElem?_eq_getElem (show j < x.length by omega)
    exact (hfit j _ hj').1 (h1 j _ hj').1
   ·have hj':=List.getElem?_eq_getElem (show p < x.length by omega)
    rw [List.getD_eq_getElem?_getD,hj']
    exact (h1 p _ hj').2
  ·rintro ⟨⟨h1,h2⟩,h3⟩
   refine ⟨fun j o hj => ⟨(hfit j o hj).2 (h2 j (by have:=(List.getElem?_eq_some_iff.1 hj).1;omega)),?_⟩,fun o ho => h1 o (by have:=(hxv o ho).2;omega)⟩
   have:=h3 j (by have:=(List.getElem?_eq_some_iff.1 hj).1;omega)
   rwa [List.getD_eq_getElem?_getD,hj] at this
 ·intro k
  cases hs : ss[k]? with
  | none =>
    refine ⟨fun _ => false,?_⟩
    unfold mays
    rw [List.getD_eq_getElem?_getD,List.getElem?_map,hs,List.filter_eq_nil_iff.2 (by simp)]
    rfl
  | some s => exact ⟨_,mays_getD hs⟩
end Go.Proofs.Ytmennjmjakdkcaa
namespace Go.Proofs.Ytmennjmjakdkcaa
set_option linter.unusedVariables false
set_option linter.unusedSimpArgs false
def FirstIs (p : List Int → Bool) (all : List (List Int)) (i : Nat) (f : Int) : Prop :=
 (f = -1 ∧ ∀ (j : Nat) x,j < i → all[j]? = some x → p x = false) ∨ ∃ j : Nat,f = j ∧ j < i ∧ ∃ x,all[j]? = some x ∧ p x = true ∧ ∀ (j' : Nat) x',j' < j → all[j']? = some x' → p x' = false
theorem FirstIs.zero {p : List Int → Bool} {all : List (List Int)} : FirstIs p all 0 (-1):=.inl ⟨rfl,fun j x h => by omega⟩
theorem FirstIs.no {p : List Int → Bool} {all : List (List Int)} {i : Nat} {f : Int} {x : List Int} (h : FirstIs p all i f) (hx : all[i]? = some x) (hp : p x = false) : FirstIs p all (i + 1) f:=by
 rcases h with ⟨h1,h2⟩ | ⟨j,h1,h2,h3⟩
 ·refine .inl ⟨h1,fun j y hj hy => ?_⟩
  by_cases hji : j = i
  ·subst hji;rw [hx] at hy;cases hy;exact hp
  ·exact h2 j y (by omega) hy
 ·exact .inr ⟨j,h1,by omega,h3⟩
theorem FirstIs.more {p : List Int → Bool} {all : List (List Int)} {i : Nat} {f : Int} (h : FirstIs p all i f) (hf : 0 ≤ f) : FirstIs p all (i + 1) f:=by
 rcases h with ⟨h1,h2⟩ | ⟨j,h1,h2,h3⟩
 ·omega
 ·exact .inr ⟨j,h1,by omega,h3⟩
theorem FirstIs.lo {p : List Int → Bool} {all : List (List Int)} {i : Nat} {f : Int} (h : FirstIs p all i f) : f = -1 ∨ 0 ≤ f ∧ f < i:=by
 rcases h with ⟨h1,h2⟩ | ⟨j,h1,h2,h3⟩ <;> omega
section
variable {t : Int} {l : List Mk} {ss : List Sg} {mis : List Int} (hn5 : l.length ≤ 5) (hmis : ∀ x ∈ mis,0 ≤ x)
end
end Go.Proofs.Ytmennjmjakdkcaa
namespace Go.Proofs.Ytmennjmjakdkcaa
open Go.RowKit
set_option linter.unusedVariables false
set_option linter.unusedSimpArgs false
def upI (n : Nat) : List Int:=(List.range n).map Int.ofNat
theorem upI_len (n : Nat) : (upI n).length = n:=by simp [upI]
theorem upI_succ (n : Nat) : upI (n + 1) = upI n ++ [(n : Int)]:=by unfold upI;rw [List.range_succ,List.map_append];rfl
theorem swap_perm {L : List Int} {i k : Nat} (hi : i < L.length) (hk : k < L.length) : ((L.set i (L.getD k 0)).set k (L.getD i 0)).Perm L:=by
 rw [List.getD_eq_getElem?_getD,List.getD_eq_getElem?_getD,List.getElem?_eq_getElem hi,List.getElem?_eq_getElem hk]
 exact List.set_set_perm hi hk
def RowR (H N n : Nat) (w : World) (e : Ending) (w' : World) : Prop:=∃ A c L,e = .returned (.slice A n c) ∧ OwnI w' w.heap.size (.slice A n c) L ∧ L.Perm (upI n) ∧ Dealt w w' H N
set_option maxHeartbeats 1000000 in
theorem row_any (H N n : Nat) (w : World) (h : Hd w H N) (hN : N ≤ 4611686018427000000) (hn : n ≤ 1000) :
 Calls Try.prog 45 #[.pointer (some ⟨H,0,none⟩),.int .i64 n] w (RowR H (N + n) n w):=by
 have hHl:=h.lt
 have HH:=Lib.hid h
 clear h
 go_enter Try.func45,Try.ntmps45
 go_wp2_with fail
 go_loopg [5,6] n (fun g v5 v6 wr => ∃ k : Nat,k + g = n ∧ v6 = .int .i64 k ∧ OwnI wr w.heap.size v5 (upI k) ∧ Below w.heap.size w wr)
 case atStart => exact ⟨0,by omega,rfl,Own.nil_,Below.refl _ _⟩
 case round =>
  obtain ⟨k,hk,rfl,hown,hB⟩:=hrel
  have hBz:=hB.size
  by_cases hlt : k < n
  ·have hll : (upI k).length < 4294967296:=by rw [upI_len];omega
   have h3 : (k : Int) < (n : Int):=by omega
   have HK:=Lib.hid (And.intro hk (And.intro hown hB))
   clear hk hown hB
   go_wp2_with (at_builtin;refine wp_app okInt rfl (.tmp 15) (.tmp 17) rfl w.heap.size _ (upI k) (k : Int) _ rfl rfl rfl rfl (one_eInt _) HK.out.2.1 ?_ ?_ ?_ ?_;(omega);(omega);(omega);intro v' w4 hown4 hb4 _ hz4;have H4:=Lib.hid (And.intro hown4 hb4);clear hown4 hb4)
   go_roundg (gk - 1)
   case measure => have:=HK.out.1;omega
   case rel => exact ⟨k + 1,by have:=HK.out.1;omega,by go_num,by rw [upI_succ];exact H4.out.1,HK.out.2.2.trans H4.out.2⟩
  ·obtain rfl : k = n:=by omega
   have hhd : Hd wr H N:=HH.out.below hB hHl
   have hD : Dealt w wr H N:=⟨hhd,⟨hB.os,hB.tape,hB.output,hB.size,fun j hj _ => hB.block j hj⟩⟩
   obtain ⟨A5,c5,rfl,-,-,-⟩:=hown.form lenInt
   rw [upI_len] at hown ⊢
   have HK:=Lib.hid (And.intro hown hD)
   clear hown hD hk hB hlt hhd
   go_wp2_with fail
   go_loopg [7] k (fun g v7 wx => (g = 0 ∧ v7 = .int .i64 (-1) ∨ ∃ i : Nat,i + 1 = g ∧ v7 = .int .i64 i) ∧ g ≤ k ∧ ∃ L : List Int,OwnI wx w.heap.size (.slice A5 k c5) L ∧ L.Perm (upI k) ∧ Dealt w wx H (N + (k - g)))
   case atStart =>
    refine ⟨?_,Nat.le_refl _,upI k,HK.out.1,List.Perm.refl _,HK.out.2.mono (by omega)⟩
    rcases Nat.eq_zero_or_pos k with h0 | h0
    ·exact .inl ⟨h0,by rw [h0];rfl⟩
    ·exact .inr ⟨k - 1,by omega,by congr 1;omega⟩
   case round =>
    obtain ⟨hv7,hg,L,hown,hp,hD⟩:=hrel
    have hL : L.length = k:=by rw [hp.length_eq,upI_len]
    rcases hv7 with ⟨h0,rfl⟩ | ⟨i,hi,rfl⟩
    ·have HE:=Lib.hid (And.intro hown (And.intro hp hD))
     clear hown hp hD hL hg
     go_wp2_with fail
     go_ret
     exact ⟨A5,c5,L,rfl,HE.out.1,HE.out.2.1,HE.out.2.2.mono (by omega)⟩
    by_cases h2 : 0 < i
    ·have i1 : (0 : Int) < (i : Int):=by omega
     have hup:=upto_any H (N + (k - gk)) (i : Int) wr hD.hd (by omega) (by omega)
     have HU:=Lib.hid hup
     have HG:=Lib.hid (And.intro hown (And.intro hp (And.intro hD (And.intro hL (And.intro hi hg)))))
     clear hown hp hD hL hup hi hg
     go_upto_region 10 with (go_at_call 24;refine HU.out.mono ?_;rintro e w4 ⟨x,rfl,hx,hd4⟩)
     have ho4:=HG.out.1.row hd4.gr (fun k e => by cases e;exact hHl)
     have hxk : x < L.length ∧ i < L.length:=by have:=HG.out.2.2.2.1;have:=HG.out.2.2.2.2;omega
     obtain ⟨g5,rfl,hb5,hl5,hc1,-,-⟩:=Own.put1 ho4 hxk.1 0
     obtain ⟨g5',e5,-,-,hc2,hf2,ho5⟩:=Own.put1 ho4 hxk.2 (L.getD x 0)
     cases e5
     have hxk' : x < (L.set i (L.getD x 0)).length:=by rw [List.length_set];exact hxk.1
     obtain ⟨g5',e5,-,-,hc3,hf3,ho6⟩:=Own.put1 ho5 hxk' (L.getD i 0)
     cases e5
     have i3 : (i : Int) < (k : Int):=by have:=HG.out.2.2.2.1;omega
     have i4 : (x : Int) < (k : Int):=by have:=HG.out.2.2.2.1;omega
     obtain ⟨y,hy⟩ : ∃ y,y = L.getD x 0:=⟨_,rfl⟩
     obtain ⟨z,hz⟩ : ∃ z,z = L.getD i 0:=⟨_,rfl⟩
     have hpm:=swap_perm hxk.2 hxk.1
     rw [← hy,← hz] at hpm
     rw [← hy] at hc1 ho5 hc3 hf3 ho6
     rw [← hz] at hc2 ho6
     have hgr:=(grownBy_cell w4 g5 i (.int .i64 y)).trans (grownBy_cell _ g5 x (.int .i64 z))
     have hdd:=hd4
     have hs6 : g5 < (w4.setCell ⟨g5,i,none⟩ (.int .i64 y)).heap.size:=by simpa [World.setCell] using hl5
     have HO:=Lib.hid (And.intro ho6 (And.intro hpm (And.intro hdd hgr)))
     clear ho4 ho5 ho6 hpm hdd hgr hd4 hxk hxk' hy hz hx
     go_wp2_with fail
     go_roundg (gk - 1)
     case measure => have:=HG.out.2.2.2.2;omega
     case rel =>
      have hH5 : H < g5:=by omega
      refine ⟨.inr ⟨i - 1,by have:=HG.out.2.2.2.2;omega,by congr 1;omega⟩,by have:=HG.out.2.2.2.2;omega,_,HO.out.1,HO.out.2.1.trans HG.out.2.1,?_⟩
      have hD:=HG.out.2.2.1.trans HO.out.2.2.1
      refine Dealt.mono (M:=N + (k - (gk - 1))) (N:=N + (k - gk) + 1) ?_ (by have:=HG.out.2.2.2.2;omega)
      exact Dealt.set (Dealt.set hD (by omega) (by omega) _) (by omega) (by omega) _
    ·obtain rfl : i = 0:=by omega
     have HE:=Lib.hid (And.intro hown (And.intro hp hD))
     clear hown hp hD hL
     go_wp2_with fail
     go_ret
     exact ⟨A5,c5,L,rfl,HE.out.1,HE.out.2.1,HE.out.2.2.mono (by omega)⟩
end Go.Proofs.Ytmennjmjakdkcaa
namespace Go.Proofs.Ytmennjmjakdkcaa
set_option linter.unusedVariables false
set_option linter.unusedSimpArgs false
def osL (row : List Int) (k : Nat) : List Int:=(List.range k).flatMap fun i => List.replicate (row.getD i 0).toNat (i : Int)
theorem osL_succ (row : List Int) (k : Nat) : osL row (k + 1) = osL row k ++ List.replicate (row.getD k 0).toNat (k : Int):=by
 unfold osL
 rw [List.range_succ,List.flatMap_append]
 simp
theorem cntI_append (x y : List Int) (o : Int) : cntI (x ++ y) o = cntI x o + cntI y o:=List.countP_append
theorem cntI_rep (k : Nat) (a o : Int) : cntI (List.replicate k a) o = if a = o then k else 0:=by
 unfold cntI
 rw [List.countP_replicate]
 by_cases h : a = o <;> simp [h]
theorem osL_cnt (row : List Int) : ∀ (k o : Nat),cntI (osL row k) (o : Int) = if o < k then (row.getD o 0).toNat else 0
 | 0,o => by simp [osL,cntI]
 | k + 1,o => by
   rw [osL_succ,cntI_append,osL_cnt row k o,cntI_rep]
   by_cases h1 : o < k
   ·rw [if_pos h1,if_neg (by omega),if_pos (by omega)];rfl
   ·by_cases h2 : o = k
    ·subst h2;rw [if_neg h1,if_pos rfl,if_pos (by omega)];omega
    ·rw [if_neg h1,if_neg (by omega),if_neg (by omega)]
theorem osL_len {row : List Int} : ∀ {k B : Nat},(∀ o,row.getD o 0 ≤ B) → (osL row k).length ≤ k * B
 | 0,B,h => by simp [osL]
 | k + 1,B,h => by
   have ih:=osL_len (k:=k) h
   have:=h k
   rw [osL_succ,List.length_append,List.length_replicate,Nat.succ_mul]
   omega
def ShF (t : Int) (l : List Mk) (ss : List Sg) (os : List Int) : Prop:=ss.length = os.length ∧ ∀ (j : Nat) (s : Sg) (x : Int),ss[j]? = some s → os[j]? = some x → 0 ≤ x ∧ (∃ m,l[x.toNat]? = some m ∧ fits s m t = true) ∧ seen s 9 6 = 0
theorem ShF.nil {t : Int} {l : List Mk} : ShF t l [] []:=⟨rfl,fun j s x h => by simp at h⟩
theorem ShF.snoc {t : Int} {l : List Mk} {ss : List Sg} {os : List Int} {s : Sg} {o : Nat} {m : Mk} (h : ShF t l ss os) (hm : l[o]? = some m) (hf : fits s m t = true) (hs : seen s 9 6 = 0) : ShF t l (ss ++ [s]) (os ++ [(o : Int)]):=by
 refine ⟨by simp [h.1],fun j s' x h1 h2 => ?_⟩
 rcases Nat.lt_or_ge j ss.length with hj | hj
 ·rw [List.getElem?_append_left hj] at h1
  rw [List.getElem?_append_left (by rw [← h.1];exact hj)] at h2
  exact h.2 j s' x h1 h2
 ·rw [List.getElem?_append_right hj] at h1
  rw [List.getElem?_append_right (by rw [← h.1];exact hj)] at h2
  have hj0 : j - ss.length = 0:=by
   rcases Nat.eq_zero_or_pos (j - ss.length) with h0 | h0
   ·exact h0
   ·rw [List.getElem?_eq_none (by simp;omega)] at h1;cases h1
  rw [hj0] at h1
  rw [← h.1,hj0] at h2
  cases h1
  cases h2
  exact ⟨Int.natCast_nonneg o,⟨m,by simpa using hm,hf⟩,hs⟩
theorem ShF.perm {t : Int} {l : List Mk} {ss : List Sg} {os L : List Int} (h : ShF t l ss os) (hL : ∀ x ∈ L,0 ≤ x ∧ x < ss.length) : ShF t l (L.map fun x => ss.getD x.toNat ⟨0,false,false,0,0⟩) (L.map fun x => os.getD x.toNat 0):=by
 refine ⟨by simp,fun j s x h1 h2 => ?_⟩
 rw [List.getElem?_map] at h1 h2
 cases hj : L[j]? with
 | none => rw [hj] at h1;cases h1
 | some y =>
   rw [hj] at h1 h2
   have hy:=hL y (List.mem_of_getElem? hj)
   have hy2 : y.toNat < ss.length:=by omega
   have e1 : ss[y.toNat]? = some s:=by
    have:=Option.some.inj h1
    rw [← this]
    show _ = some (ss.getD y.toNat _)
    rw [List.getD_eq_getElem?_getD,List.getElem?_eq_getElem hy2];rfl
   have hy3 : y.toNat < os.length:=by rw [← h.1];exact hy2
   have e2 : os[y.toNat]? = some x:=by
    have:=Option.some.inj h2
    rw [← this]
    show _ = some (os.getD y.toNat _)
    rw [List.getD_eq_getElem?_getD,List.getElem?_eq_getElem hy3];rfl
   exact h.2 _ _ _ e1 e2
theorem map_upI {α : Type} (os : List α) (z : α) : (upI os.length).map (fun x => os.getD x.toNat z) = os:=by
 unfold upI
 rw [List.map_map]
 refine List.ext_getElem (by simp) fun i h1 h2 => ?_
 simp [List.getD_eq_getElem?_getD,h2]
theorem perm_upI {L : List Int} {n : Nat} (h : L.Perm (upI n)) : ∀ x ∈ L,0 ≤ x ∧ x < n:=fun x hx => by
 have:=h.mem_iff.1 hx
 unfold upI at this
 obtain ⟨i,hi,rfl⟩:=List.mem_map.1 this
 have:=List.mem_range.1 hi
 exact ⟨Int.natCast_nonneg i,by simpa using this⟩
theorem ShF.seen {t : Int} {l : List Mk} {ss : List Sg} {os : List Int} (h : ShF t l ss os) : ∀ s ∈ ss,seen s 9 6 = 0:=fun s hs => by
 obtain ⟨j,hj⟩:=List.mem_iff_getElem?.1 hs
 have hjl : j < os.length:=by rw [← h.1];exact (List.getElem?_eq_some_iff.1 hj).1
 exact (h.2 j s _ hj (List.getElem?_eq_getElem hjl)).2.2
structure ShwR (t : Int) (l : List Mk) (row : List Int) (out : List Sg) : Prop where
 le : out.length ≤ 7
 seen : ∀ s ∈ out,seen s 9 6 = 0
 os : out.length < 7 → ∃ os,ShF t l out os ∧ ∀ o : Nat,cntI os (o : Int) = if o < l.length then (row.getD o 0).toNat else 0
theorem ShwR.mk' {t : Int} {l : List Mk} {row : List Int} {ss : List Sg} {L : List Int} (h : ShF t l ss (osL row l.length)) (hL : L.Perm (upI ss.length)) :
 ShwR t l row ((L.take 7).map fun x => ss.getD x.toNat ⟨0,false,false,0,0⟩):=by
 have hm:=perm_upI hL
 have hl : L.length = ss.length:=by rw [hL.length_eq,upI_len]
 refine ⟨by rw [List.length_map,List.length_take];omega,?_,fun h7 => ?_⟩
 ·exact (h.perm (L:=L.take 7) fun x hx => hm x (List.mem_of_mem_take hx)).seen
 ·have : L.take 7 = L:=by
   refine List.take_of_length_le ?_
   rw [List.length_map,List.length_take] at h7
   omega
  rw [this]
  refine ⟨L.map fun x => (osL row l.length).getD x.toNat 0,h.perm hm,fun o => ?_⟩
  rw [← osL_cnt row l.length o]
  have hp:=hL.map fun x => (osL row l.length).getD x.toNat 0
  rw [h.1,map_upI] at hp
  exact hp.countP_eq _
end Go.Proofs.Ytmennjmjakdkcaa
namespace Go.Proofs.Ytmennjmjakdkcaa
set_option linter.unusedVariables false
set_option linter.unusedSimpArgs false
theorem passB_neg (a c : Int) : passB (-1) a = passB (-1) c:=by
 funext i o
 unfold passB
 have : ¬ (i : Int) = -1:=by omega
 simp [this]
theorem endsTo_neg (t : Int) (l : List Mk) (hs : List (List Int)) (ds : List De) (a c : Int) : ∀ k,endsTo t l hs ds (-1) a k = endsTo t l hs ds (-1) c k
 | 0 => rfl
 | k + 1 => by
   unfold endsTo
   rw [endsTo_neg t l hs ds a c k,passB_neg a c]
theorem ends_neg (b : Hb) (a c : Int) : b.ends (-1) a = b.ends (-1) c:=endsTo_neg _ _ _ _ _ _ _
def rowF (e : List Int) (f n : Nat) : List Int:=(e.drop (f * n)).take n
theorem rowF_flat {n nf f : Nat} {g : List (List Int)} (h : GSh n nf g) (hf : f < nf) : rowF g.flatten f n = g.getD f []:=by
 have hfl : f < g.length:=by rw [h.l];exact hf
 have e1 : g.flatten = (g.take f).flatten ++ (g[f] ++ (g.drop (f + 1)).flatten):=by
  conv => lhs;rw [← List.take_append_drop f g,List.flatten_append,List.drop_eq_getElem_cons hfl,List.flatten_cons]
 have e2 : (g.take f).flatten.length = f * n:=by
  rw [flat_sh_len fun r hr => h.r r (List.mem_of_mem_take hr),List.length_take]
  rw [Nat.min_eq_left (by omega)]
 have e3 : g[f].length = n:=h.r _ (List.getElem_mem hfl)
 unfold rowF
 rw [e1,List.drop_left' e2,List.take_left' e3,List.getD_eq_getElem?_getD,List.getElem?_eq_getElem hfl]
 rfl
theorem sum_ind (y : Int) : ∀ n : Nat,((List.range n).map fun o : Nat => if y = (o : Int) then (1 : Int) else 0).sum = if 0 ≤ y ∧ y < n then 1 else 0
 | 0 => by
   rw [if_neg (by omega)];rfl
 | n + 1 => by
   rw [List.range_succ,List.map_append,List.sum_append,sum_ind y n]
   simp only [List.map_cons,List.map_nil,List.sum_cons,List.sum_nil]
   by_cases h1 : 0 ≤ y ∧ y < n
   ·rw [if_pos h1,if_neg (by omega),if_pos (by omega)];rfl
   ·by_cases h2 : y = (n : Int)
    ·rw [if_neg h1,if_pos h2,if_pos (by omega)];rfl
    ·rw [if_neg h1,if_neg h2,if_neg (by omega)];rfl
theorem sum_add2 (a c : Nat → Int) : ∀ n : Nat,((List.range n).map fun o => a o + c o).sum = ((List.range n).map a).sum + ((List.range n).map c).sum
 | 0 => rfl
 | n + 1 => by
   rw [List.range_succ,List.map_append,List.map_append,List.map_append,List.sum_append,List.sum_append,List.sum_append,sum_add2 a c n]
   simp only [List.map_cons,List.map_nil,List.sum_cons,List.sum_nil]
   omega
def sumW (w : List Int) (n : Nat) : List Int:=(List.range n).map fun (o : Nat) => (cntI w (o : Int) : Int)
theorem sumW_sum {n : Nat} : ∀ {w : List Int},(∀ x ∈ w,0 ≤ x ∧ x < n) → (sumW w n).sum = w.length
 | [],_ => by
   have : ∀ n : Nat,(sumW [] n).sum = 0:=fun n => by
    induction n with
    | zero => rfl
    | succ n ih => unfold sumW at ih ⊢;rw [List.range_succ,List.map_append,List.sum_append,ih];rfl
   exact this n
 | y :: w,h => by
   have ih:=sumW_sum (w:=w) (n:=n) fun x hx => h x (List.mem_cons_of_mem _ hx)
   have hy:=h y List.mem_cons_self
   have e : sumW (y :: w) n = (List.range n).map fun o : Nat => (cntI w (o : Int) : Int) + if y = (o : Int) then 1 else 0:=by
    unfold sumW
    refine List.map_congr_left fun o _ => ?_
    rw [cntI_cons]
    split <;> simp
   rw [e,sum_add2 (fun (o : Nat) => (cntI w (o : Int) : Int)) (fun (o : Nat) => if y = (o : Int) then 1 else 0),sum_ind,if_pos hy]
   unfold sumW at ih
   rw [ih,List.length_cons]
   omega
theorem sum_le_eq : ∀ {a c : List Int},a.length = c.length → (∀ (o : Nat),o < a.length → a.getD o 0 ≤ c.getD o 0) → a.sum = c.sum → a = c:=by
 have hle : ∀ {a c : List Int},a.length = c.length → (∀ (o : Nat),o < a.length → a.getD o 0 ≤ c.getD o 0) → a.sum ≤ c.sum:=by
  intro a
  induction a with
  | nil => intro c hl h;cases c with
    | nil => exact Int.le_refl _
    | cons y c => simp at hl
  | cons x a ih => intro c hl h;cases c with
    | nil => simp at hl
    | cons y c =>
      have h0:=h 0 (by simp)
      have:=ih (c:=c) (by simpa using hl) fun o ho => by have:=h (o + 1) (by simpa using ho);simpa using this
      simp at h0
      rw [List.sum_cons,List.sum_cons]
      omega
 intro a
 induction a with
 | nil => intro c hl h hs;cases c with
   | nil => rfl
   | cons y c => simp at hl
 | cons x a ih => intro c hl h hs;cases c with
   | nil => simp at hl
   | cons y c =>
     have h0:=h 0 (by simp)
     have h1 : ∀ (o : Nat),o < a.length → a.getD o 0 ≤ c.getD o 0:=fun o ho => by have:=h (o + 1) (by simpa using ho);simpa using this
     have h2:=hle (a:=a) (c:=c) (by simpa using hl) h1
     simp at h0
     rw [List.sum_cons,List.sum_cons] at hs
     have e : x = y:=by omega
     rw [e,ih (c:=c) (by simpa using hl) h1 (by omega)]
theorem le_sum {l : List Int} : (∀ x ∈ l,0 ≤ x) → ∀ x ∈ l,x ≤ l.sum:=by
 induction l with
 | nil => intro _ x hx;cases hx
 | cons y l ih =>
   intro h x hx
   have hs : ∀ l : List Int,(∀ x ∈ l,0 ≤ x) → 0 ≤ l.sum:=fun l => by
    induction l with
    | nil => intro _;exact Int.le_refl _
    | cons y l ih2 => intro h;have:=h y List.mem_cons_self;have:=ih2 fun x hx => h x (List.mem_cons_of_mem _ hx);rw [List.sum_cons];omega
   have h1:=hs l fun x hx => h x (List.mem_cons_of_mem _ hx)
   have h2:=h y List.mem_cons_self
   rw [List.sum_cons]
   rcases List.mem_cons.1 hx with rfl | hx
   ·omega
   ·have:=ih (fun x hx => h x (List.mem_cons_of_mem _ hx)) x hx;omega
def canP (t : Int) (l : List Mk) (ss : List Sg) (heads w : List Int) : Bool:=(List.range ss.length).all (fitAt t l ss w) && sameL (sumW w l.length) heads
def canB (t : Int) (l : List Mk) (ss : List Sg) (heads : List Int) : Bool:=(wordsL l.length ss.length).any (canP t l ss heads)
theorem can_iff {t : Int} {l : List Mk} {ss : List Sg} {heads : List Int} (hck : check t l = 0) (hn5 : l.length ≤ 5) (hs6 : ss.length ≤ 6) (hse : ∀ s ∈ ss,seen s 9 6 = 0) (hl : heads.length = l.length) (h0 : ∀ x ∈ heads,0 ≤ x) :
 canB t l ss heads = (decide (heads.sum = (ss.length : Int)) && decide (homeE t l ss heads = 0)):=by
 have hga : heads.sum = (ss.length : Int) → gatherE t l ss heads = 0:=fun h => by
  unfold gatherE
  rw [if_neg (by rw [hck];simp),if_neg (by omega),if_neg (by rw [sightsE_ok.2 hse];simp),if_neg (by omega),if_neg (by omega),if_pos]
  rw [List.all_eq_true]
  intro x hx
  have:=le_sum h0 x hx
  have:=h0 x hx
  rw [btw_iff]
  omega
 rw [Bool.eq_iff_iff,Bool.and_eq_true,decide_eq_true_eq,decide_eq_true_eq]
 unfold canB
 rw [List.any_eq_true]
 have hfind:=give_find (t:=t) (l:=l) (ss:=ss) (mis:=heads) hn5 h0 (fun _ _ => true)
 constructor
 ·rintro ⟨w,hw,hP⟩
  obtain ⟨hwl,hwb⟩:=wordsL_mem hw
  unfold canP at hP
  rw [Bool.and_eq_true] at hP
  obtain ⟨hP1,hP2⟩:=hP
  have he : sumW w l.length = heads:=of_decide_eq_true hP2
  have hsum : heads.sum = (ss.length : Int):=by rw [← he,sumW_sum hwb,hwl]
  refine ⟨hsum,?_⟩
  unfold homeE
  rw [if_neg (by rw [hga hsum];simp),if_neg]
  rw [hfind]
  intro hno
  have:=List.find?_eq_none.1 hno w hw
  refine this ?_
  rw [Bool.and_eq_true]
  refine ⟨?_,by simp⟩
  unfold givesB
  rw [Bool.and_eq_true]
  refine ⟨?_,by rw [hwl];exact hP1⟩
  rw [List.all_eq_true]
  intro o ho
  have hol:=List.mem_range.1 ho
  rw [decide_eq_true_eq,← he]
  unfold sumW
  rw [List.getD_eq_getElem?_getD,List.getElem?_map,List.getElem?_range hol]
  exact Int.le_refl _
 ·rintro ⟨hsum,hho⟩
  unfold homeE at hho
  rw [if_neg (by rw [hga hsum];simp)] at hho
  have hne : giveL (mays t l ss) heads 0 (fun _ _ => true) ≠ none:=fun h => by rw [if_pos h] at hho;cases hho
  rw [hfind] at hne
  obtain ⟨w,hw⟩:=Option.ne_none_iff_exists'.1 hne
  have hwm:=List.mem_of_find?_eq_some hw
  have hwp:=List.find?_some hw
  rw [Bool.and_eq_true] at hwp
  obtain ⟨hwl,hwb⟩:=wordsL_mem hwm
  have hg:=hwp.1
  unfold givesB at hg
  rw [Bool.and_eq_true] at hg
  refine ⟨w,hwm,?_⟩
  unfold canP
  rw [Bool.and_eq_true]
  refine ⟨by rw [← hwl];exact hg.2,?_⟩
  have hsl : (sumW w l.length).length = l.length:=by unfold sumW;simp
  refine decide_eq_true (sum_le_eq (by rw [hsl,hl]) (fun o ho => ?_) (by rw [sumW_sum hwb,hwl,hsum]))
  rw [hsl] at ho
  have h1:=List.all_eq_true.1 hg.1 o (List.mem_range.2 ho)
  rw [decide_eq_true_eq] at h1
  unfold sumW
  rw [List.getD_eq_getElem?_getD,List.getElem?_map,List.getElem?_range ho]
  exact h1
theorem fit_can {b : Hb} {nf f : Nat} {ss : List Sg} {g : List (List Int)} (hok : HeOk b.t b.l b.ks b.hs b.ds) (hg : GSh b.l.length nf g) (hnf : nf ≤ 3) (hf : f < nf) (hnn : nnG g = true) (hs6 : ss.length ≤ 6) (hse : ∀ s ∈ ss,seen s 9 6 = 0) :
 fitP b f ss (firstH g) = canB b.t b.l ss (rowF g.flatten f b.l.length):=by
 have hrl:=hg.row hf
 have h5:=hok.n5
 have hr : rowH (firstH g) f b.l.length = g.getD f []:=by
  unfold rowH
  refine List.ext_getElem (by rw [List.length_map,List.length_range,hrl]) fun o h1 h2 => ?_
  have ho : o < b.l.length:=by simpa using h1
  rw [List.getElem_map,List.getElem_range,firstH_get g (by omega) (by omega)]
  unfold getG
  rw [List.getD_eq_getElem?_getD (l:=g.getD f []),List.getElem?_eq_getElem h2]
  rfl
 rw [rowF_flat hg hf,can_iff hok.ck h5 hs6 hse hrl fun x hx => ?_]
 ·unfold fitP
  rw [hr,← row_sum (by omega) (by omega)]
 ·refine nnG_iff.1 hnn (g.getD f []) ?_ x hx
  rw [List.getD_eq_getElem?_getD,List.getElem?_eq_getElem (by rw [hg.l];exact hf)]
  exact List.getElem_mem _
theorem rangeE_map (E : List (List Int)) (φ : List Int → List Int) (f : List Int → Int) : rangeE (E.map φ) f = rangeE E fun e => f (φ e):=by
 unfold rangeE
 rw [List.map_map]
 rfl
def canE (b : Hb) (f : Nat) (ss : List Sg) (E : List (List Int)) : List (List Int):=E.filter fun e => canB b.t b.l ss (rowF e f b.l.length)
def dueF (f n : Nat) (o : Nat) (e : List Int) : Int:=(rowF e f n).getD o 0
theorem trG_end {t : Int} {l : List Mk} {deed owner : Int} {g : List (List Int)} : ∀ {ds : List De} {i : Nat} {gs : List (List Int)},g ∈ trG t l deed owner ds i gs → nnG g = true
 | [],i,gs,h => by
   unfold trG at h
   split at h
   ·rw [List.mem_singleton.1 h];assumption
   ·cases h
 | d :: ds,i,gs,h => by
   unfold trG at h
   split at h
   ·obtain ⟨g1,-,h2⟩:=List.mem_flatMap.1 h
    exact trG_end h2
   ·cases h
theorem part_perm {b : Hb} {f : Nat} {ss : List Sg} (hok : HeOk b.t b.l b.ks b.hs b.ds) (hf : f < b.ks.length) (hs6 : ss.length ≤ 6) (hse : ∀ s ∈ ss,seen s 9 6 = 0) :
 ((canE b f ss (truN b (-1) (-1))).map (unfl b.l.length b.ks.length)).Perm (partL b f ss) ∧ ∀ e ∈ truN b (-1) (-1),∃ g,GSh b.l.length b.ks.length g ∧ nnG g = true ∧ e = g.flatten:=by
 obtain ⟨h1,-⟩:=tru_perm (deed:=-1) (owner:=-1) hok
 have hg : GSh b.l.length b.ks.length b.hs:=⟨hok.hl,hok.rl⟩
 have hsh:=trG_sh (t:=b.t) (l:=b.l) (deed:=-1) (owner:=-1) b.ds 0 b.hs hg fun d hd => deedE_ow (hok.dE d hd)
 have h2 : ∀ e ∈ truN b (-1) (-1),∃ g,GSh b.l.length b.ks.length g ∧ nnG g = true ∧ e = g.flatten:=fun e he => by
  unfold truN at he
  rw [mem_addsE] at he
  rcases he with he | ⟨g,hgm,e1⟩
  ·cases he
  ·exact ⟨g,hsh g hgm,trG_end hgm,e1⟩
 refine ⟨?_,h2⟩
 have h3:=h1.filter (fitP b f ss)
 rw [List.filter_map] at h3
 have h4 : (List.filter (fitP b f ss ∘ unfl b.l.length b.ks.length) (addsE [] (trG b.t b.l (-1) (-1) b.ds 0 b.hs))) = canE b f ss (truN b (-1) (-1)):=by
  unfold canE
  refine List.filter_congr fun e he => ?_
  obtain ⟨g,hg1,hg2,rfl⟩:=h2 e he
  show fitP b f ss (unfl _ _ g.flatten) = _
  rw [unfl_flat hg1]
  exact fit_can hok hg1 hok.f3 hf hg2 hs6 hse
 rw [h4] at h3
 unfold partL
 rw [ends_neg b 0 (-1)]
 exact h3
theorem part_due {b : Hb} {f : Nat} {ss : List Sg} (hok : HeOk b.t b.l b.ks b.hs b.ds) (hf : f < b.ks.length) (hs6 : ss.length ≤ 6) (hse : ∀ s ∈ ss,seen s 9 6 = 0) :
 spansTo (partL b f ss) (fun o x => hget x f o) b.l.length = spansTo (canE b f ss (truN b (-1) (-1))) (dueF f b.l.length) b.l.length:=by
 obtain ⟨h1,h2⟩:=part_perm (ss:=ss) hok hf hs6 hse
 unfold spansTo
 refine List.map_congr_left fun o ho => ?_
 have hol:=List.mem_range.1 ho
 rw [← rangeE_perm h1,rangeE_map]
 refine rangeE_congr (fun _ => Iff.rfl) fun e he => ?_
 obtain ⟨g,hg1,-,rfl⟩:=h2 e (List.mem_filter.1 he).1
 have h3:=hok.f3
 have h5:=hok.n5
 unfold dueF
 show hget (unfl _ _ g.flatten) f o = _
 rw [unfl_flat hg1,firstH_get g (by omega) (by omega),rowF_flat hg1 hf]
 rfl
theorem part_true {b : Hb} {f : Nat} {ss : List Sg} {g : List (List Int)} (hok : HeOk b.t b.l b.ks b.hs b.ds) (hg : GSh b.l.length b.ks.length g) (hnn : nnG g = true) (hf : f < b.ks.length) (he : firstH g ∈ b.ends (-1) 0) (hs6 : ss.length ≤ 6) (hr : ShwR b.t b.l (g.getD f []) ss) :
 firstH g ∈ partL b f ss:=by
 unfold partL
 refine List.mem_filter.2 ⟨he,?_⟩
 rw [fit_can hok hg hok.f3 hf hnn hs6 hr.seen,rowF_flat hg hf]
 obtain ⟨os,hos,hcnt⟩:=hr.os (by omega)
 have hrl:=hg.row hf
 have hnr : ∀ x ∈ g.getD f [],0 ≤ x:=fun x hx => by
  refine nnG_iff.1 hnn (g.getD f []) ?_ x hx
  rw [List.getD_eq_getElem?_getD,List.getElem?_eq_getElem (by rw [hg.l];exact hf)]
  exact List.getElem_mem _
 unfold canB
 rw [List.any_eq_true]
 have hob : ∀ x ∈ os,0 ≤ x ∧ x < b.l.length:=fun x hx => by
  obtain ⟨j,hj⟩:=List.mem_iff_getElem?.1 hx
  have hjl : j < ss.length:=by rw [hos.1];exact (List.getElem?_eq_some_iff.1 hj).1
  obtain ⟨h0,⟨m,hm,-⟩,-⟩:=hos.2 j _ x (List.getElem?_eq_getElem hjl) hj
  have:=(List.getElem?_eq_some_iff.1 hm).1
  omega
 refine ⟨os,mem_wordsL hos.1.symm hob,?_⟩
 unfold canP
 rw [Bool.and_eq_true]
 refine ⟨?_,decide_eq_true ?_⟩
 ·rw [List.all_eq_true]
  intro j hj
  have hjl:=List.mem_range.1 hj
  have hjo : j < os.length:=by rw [← hos.1];exact hjl
  obtain ⟨h0,⟨m,hm,hfit⟩,-⟩:=hos.2 j _ _ (List.getElem?_eq_getElem hjl) (List.getElem?_eq_getElem hjo)
  unfold fitAt mkAt
  rw [List.getD_eq_getElem?_getD (l:=os),List.getElem?_eq_getElem hjo,List.getD_eq_getElem?_getD (l:=ss),List.getElem?_eq_getElem hjl,Option.getD_some,Option.getD_some,hm,Option.getD_some,hfit,Bool.or_true]
 ·unfold sumW
  refine List.ext_getElem (by rw [List.length_map,List.length_range,hrl]) fun o h1 h2 => ?_
  have ho : o < b.l.length:=by simpa using h1
  rw [List.getElem_map,List.getElem_range,hcnt o,if_pos ho,List.getD_eq_getElem?_getD,List.getElem?_eq_getElem h2,Option.getD_some]
  exact Int.toNat_of_nonneg (hnr _ (List.getElem_mem h2))
end Go.Proofs.Ytmennjmjakdkcaa
