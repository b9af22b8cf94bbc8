/- HerdParted 45: PartedA, Frame. -/
import Derived.Test.YtmennjmjakdkcaaPd40
import Derived.Test.YtmennjmjakdkcaaPd41
import Derived.Test.YtmennjmjakdkcaaPd43
import Derived.Test.YtmennjmjakdkcaaPd27
import Derived.Test.YtmennjmjakdkcaaPd44
import Derived.Test.YtmennjmjakdkcaaPd01
import Derived.OpenShut
namespace Go.Proofs.Ytmennjmjakdkcaa
open Go.RowKit
set_option linter.unusedVariables false
set_option linter.unusedSimpArgs false
def dueT (b : Hb) (f : Nat) (ss : List Sg) (C : List (List Int)) : List Rn:=if canE b f ss C = [] then [] else spansTo (canE b f ss C) (dueF f b.l.length) b.l.length
def SumB (w : World) (G : Nat) (x : List Int) : Prop:=w.heap[G]? = some (.cells (x.map (Value.int .i64)).toArray 3 (0,0))
theorem SumB.cell {w : World} {G o : Nat} {x : List Int} (h : SumB w G x) (ho : o < x.length) : w.cell? ⟨G,o,none⟩ = some (.int .i64 (x.getD o 0)) ∧ w.frozen? ⟨G,o,none⟩ = false:=by
 refine ⟨?_,frz h o⟩
 unfold World.cell?
 rw [show w.heap[G]? = _ from h]
 simp [ho]
theorem SumB.ints {w : World} {G : Nat} {x : List Int} (h : SumB w G x) : Ints w (some ⟨G,0,none⟩) x.length x:=by
 have flat : ∀ x : List Int,x.map (Value.int .i64) = x.flatMap eInt:=fun x => by
  induction x with
  | nil => rfl
  | cons a r ih => rw [List.flatMap_cons,List.map_cons,ih];rfl
 exact Sl.of_blk h (flat x) lenInt
theorem SumB.set {w : World} {G o : Nat} {y : List Int} (h : SumB w G y) (x : Int) : SumB (w.setCell ⟨G,o,none⟩ (.int .i64 x)) G (y.set o x):=by
 unfold SumB
 rw [set_blk h,List.setIfInBounds_toArray,List.map_set]
theorem sumW_step {n on : Nat} {w : List Int} (ho : on < n) : sumW (w ++ [(on : Int)]) n = (sumW w n).set on ((sumW w n).getD on 0 + 1):=by
 unfold sumW
 refine List.ext_getElem (by simp) fun i h1 h2 => ?_
 have hi : i < n:=by simpa using h1
 rw [List.getElem_map,List.getElem_range,cntI_snoc,List.getElem_set]
 by_cases e : on = i
 ·subst e
  rw [if_pos rfl,if_pos rfl,List.getD_eq_getElem?_getD,List.getElem?_map,List.getElem?_range ho]
  simp
 ·rw [if_neg (by omega),if_neg e,List.getElem_map,List.getElem_range]
  rfl
theorem Ints.sub {w : World} {b off n q k : Nat} {l : List Int} (h : Ints w (some ⟨b,off,none⟩) n l) (hq : q + k ≤ n) : Ints w (some ⟨b,off + q,none⟩) k ((l.drop q).take k):=by
 have hlen:=h.len
 refine ⟨by rw [List.length_take,List.length_drop];omega,fun hk => ⟨b,off + q,rfl,fun i x hx j u hu => ?_⟩⟩
 have hik : i < k:=by
  have:=(List.getElem?_eq_some_iff.1 hx).1
  rw [List.length_take] at this
  omega
 rw [List.getElem?_take_of_lt hik,List.getElem?_drop] at hx
 obtain ⟨b',o',e,hc⟩:=h.2 (by omega)
 cases e
 have:=hc (q + i) x hx j u hu
 rw [show off + q + i * 1 + j = off + (q + i) * 1 + j by omega]
 exact this
theorem made_zero8 {n : Nat} : Array.replicate n (Value.int .i64 0) = ((sumW [] n).map (Value.int .i64)).toArray:=by
 apply Array.ext
 ·simp [sumW]
 ·intro i h1 h2
  simp [sumW,cntI]
def dueM (C : List (List Int)) (en : List Int) (F : Nat → List Int → Int) (n o : Nat) : List Rn:=spansTo (C ++ [en]) F o ++ (if C = [] then [] else (spansTo C F n).drop o)
theorem dueM_new {C : List (List Int)} {en : List Int} {F : Nat → List Int → Int} {n o : Nat} (hC : C = []) : (dueM C en F n o).length = o ∧ (dueM C en F n o ++ [(⟨F o en,F o en⟩ : Rn)])[o]? = some (⟨F o en,F o en⟩ : Rn) ∧ (dueM C en F n o ++ [(⟨F o en,F o en⟩ : Rn)]).set o (⟨min (F o en) (F o en),max (F o en) (F o en)⟩ : Rn) = dueM C en F n (o + 1):=by
 subst hC
 have hl : (dueM [] en F n o).length = o:=by unfold dueM;rw [if_pos rfl,List.append_nil,spansTo_len]
 refine ⟨hl,by rw [List.getElem?_append_right (by omega),hl,Nat.sub_self];rfl,?_⟩
 rw [List.set_append_right _ _ (by omega),hl,Nat.sub_self,Int.min_self,Int.max_self]
 unfold dueM
 rw [if_pos rfl,if_pos rfl,List.append_nil,List.append_nil,spansTo_succ]
 rfl
theorem dueM_old {C : List (List Int)} {en : List Int} {F : Nat → List Int → Int} {n o : Nat} (hC : C ≠ []) (ho : o < n) : (dueM C en F n o).length = n ∧ (dueM C en F n o)[o]? = some (rangeE C (F o)) ∧ (dueM C en F n o).set o ⟨min (rangeE C (F o)).lo (F o en),max (rangeE C (F o)).hi (F o en)⟩ = dueM C en F n (o + 1):=by
 have hl : (spansTo (C ++ [en]) F o).length = o:=spansTo_len _ _ _
 have hd : (spansTo C F n).drop o = rangeE C (F o) :: (spansTo C F n).drop (o + 1):=by
  rw [List.drop_eq_getElem_cons (by rw [spansTo_len];exact ho)]
  congr 1
  unfold spansTo
  rw [List.getElem_map,List.getElem_range]
 unfold dueM
 rw [if_neg hC,if_neg hC]
 refine ⟨by rw [List.length_append,hl,List.length_drop,spansTo_len];omega,by rw [List.getElem?_append_right (by omega),hl,Nat.sub_self,hd];rfl,?_⟩
 rw [List.set_append_right _ _ (by omega),hl,Nat.sub_self,hd,List.set_cons_zero,spansTo_succ,rangeE_snoc,if_neg hC,List.append_assoc]
 rfl
theorem dueM_start (b : Hb) (f : Nat) (ss : List Sg) (C : List (List Int)) (en : List Int) : dueM (canE b f ss C) en (dueF f b.l.length) b.l.length 0 = dueT b f ss C:=by
 unfold dueM dueT spansTo
 simp
theorem canE_yes {b : Hb} {f : Nat} {ss : List Sg} {E : List (List Int)} {i : Nat} {en : List Int} (h : E[i]? = some en) (hc : canB b.t b.l ss (rowF en f b.l.length) = true) : canE b f ss (E.take (i + 1)) = canE b f ss (E.take i) ++ [en]:=by
 unfold canE
 rw [List.take_add_one,h,List.filter_append]
 simp [hc]
theorem canE_no {b : Hb} {f : Nat} {ss : List Sg} {E : List (List Int)} {i : Nat} {en : List Int} (h : E[i]? = some en) (hc : canB b.t b.l ss (rowF en f b.l.length) = false) : canE b f ss (E.take (i + 1)) = canE b f ss (E.take i):=by
 unfold canE
 rw [List.take_add_one,h,List.filter_append]
 simp [hc]
theorem dueM_end {b : Hb} {f : Nat} {ss : List Sg} {E : List (List Int)} {i : Nat} {en : List Int} (h : E[i]? = some en) (hc : canB b.t b.l ss (rowF en f b.l.length) = true) : dueM (canE b f ss (E.take i)) en (dueF f b.l.length) b.l.length b.l.length = dueT b f ss (E.take (i + 1)):=by
 have hz : (if canE b f ss (E.take i) = [] then [] else (spansTo (canE b f ss (E.take i)) (dueF f b.l.length) b.l.length).drop b.l.length) = []:=by
  split
  ·rfl
  ·rw [List.drop_eq_nil_iff,spansTo_len];exact Nat.le_refl _
 unfold dueM
 rw [hz,List.append_nil]
 unfold dueT
 rw [canE_yes h hc,if_neg (by simp)]
set_option maxRecDepth 400000 in
set_option maxHeartbeats 40000000 in
theorem HerdParted_any (A : Option Addr) (n c : Nat) (nums : List Int) (w : World) (hl : Ints w A n nums) (hn : n ≤ 9223372036854775807) :
 Calls Try.prog 5 #[.slice A n c] w fun e w' => e = .returned (.bool true) ∧ Below w.heap.size w w':=by
 go_enter Try.func5,Try.ntmps5
 go_wp2_with fail
 refine (newHand_any A n c nums _ hl hn).mono ?_
 rintro e w1 ⟨rfl,hh,hb1,hz1⟩
 clear hl hz1
 go_wp2_with fail
 refine (taleOf_any w.heap.size 0 3 2 4 _ hh (by omega) (by omega) (by omega) (by omega)).mono ?_
 rintro e w2 ⟨b,vE,vG,vW,gs,gone,whose,rfl,hck,hln,hkn,hdn,om,ok,oh,od,oE,oG,oW,hsh,hti,hd2⟩
 have hO:=HbO.mk om ok oh od
 have hok:=checkH_ok hck
 have hB2:=hb1.trans (hd2.below (Nat.le_refl _) hb1.size)
 have hs1:=hb1.size
 have hs2:=hd2.size
 have hHs:=hh.lt
 obtain ⟨AE,cE,rfl,-,hcE,hmE⟩:=oE.ownG.form
 have HOE:=Lib.hid oE.ownG
 have hH2:=hd2.hd
 have HT:=Lib.hid (And.intro hO (And.intro hok (And.intro hck (And.intro hti (And.intro hsh hB2)))))
 unfold Hb.v
 clear hh hb1 hln hkn hdn om ok oh od oE oG oW hO hck hti hsh hB2 hok
 go_upto_region 3 with (fail)
 obtain ⟨B,hB⟩ : ∃ B,B = w2.heap.size:=⟨_,rfl⟩
 obtain ⟨W,hW⟩ : ∃ W,W = w2.alloc (Obj.cells #[Value.int .i64 b.t,.slice b.A b.l.length b.c,.slice b.Ak b.ks.length b.ck,.slice b.Ah b.hs.length b.ch,.slice b.Ad b.ds.length b.cd] 29):=⟨_,rfl⟩
 rw [← hW,← hB]
 have bW : W.heap[B]? = some (boxO b.t b.vm b.vk b.vh b.vd):=by rw [hW,hB];exact alloc_at rfl
 have hDW : Dealt w1 W w.heap.size 100000:=by rw [hW];exact hd2.alloc _
 have hBH : w.heap.size < B:=by omega
 have hnf : 0 < b.ks.length ∧ b.ks.length ≤ 3:=⟨HT.out.2.1.f0,HT.out.2.1.f3⟩
 have hnl : 0 < b.l.length ∧ b.l.length ≤ 5:=⟨HT.out.2.1.n0,HT.out.2.1.n5⟩
 have hbW : Below w2.heap.size w2 W:=by rw [hW];exact bal0 _ _
 have hsW:=hbW.size
 have HW:=Lib.hid (And.intro bW (And.intro hDW hbW))
 obtain ⟨x0,x1,x2,x3,x4⟩:=blk5 bW
 have hBl:=heap_lt bW
 clear hW hB hH2 hbW hd2 bW hDW
 go_upto_region 4 with (go_at_call 24;refine (upto_any w.heap.size 100000 ((b.ks.length : Int) - 1) _ HW.out.2.1.hd (by omega) (by omega)).mono ?_;rintro e w3 ⟨f,rfl,hf,hd3⟩)
 have hfk : f < b.ks.length:=by omega
 have b3:=hd3.blk HW.out.1 (Nat.ne_of_gt hBH)
 have hD3 : Dealt w1 w3 w.heap.size 100001:=HW.out.2.1.trans hd3
 have hsz3:=hd3.size
 have hOE3:=HOE.out.keptH (HW.out.2.2.os |> fun _ => hD3.gr.trans (World.grownBy.refl _ _) |> fun _ => (show w2.grownBy w3 (some w.heap.size) from (gb_ofB HW.out.2.2).trans hd3.gr)) hHs
 have hO3:=(HT.out.1.below HW.out.2.2 (Nat.le_refl _)).dealt hd3 hHs
 have hgl : gs.length = b.ks.length:=HT.out.2.2.2.2.1.l
 have hrl:=HT.out.2.2.2.2.1.row hfk
 have hbd : ∀ o,0 ≤ (gs.getD f []).getD o 0 ∧ (gs.getD f []).getD o 0 ≤ 140:=fun o => by
  rcases Nat.lt_or_ge o 5 with ho | ho
  ·have e:=firstH_get gs (f:=f) (o:=o) (by omega) ho
   unfold getG at e
   have h1:=HT.out.2.2.2.1.nn f o (by omega) ho
   have h2:=hget_tot HT.out.2.2.2.1.nn (f:=f) (o:=o) (by omega) ho
   have h3:=HT.out.2.2.2.1.tot
   have h4:=HT.out.2.1.d6
   omega
  ·rw [List.getD_eq_getElem?_getD,List.getElem?_eq_none (by omega)]
   exact ⟨Int.le_refl _,by decide⟩
 have hshw:=shown_any w.heap.size 100001 b AE gs.length cE gs f w1.heap.size w3 hd3.hd (by omega) hO3 hOE3 rfl hHs (by omega) HT.out.2.1.ck (by omega) hrl hbd
 unfold Hb.v at hshw
 obtain ⟨y0,y1,y2,y3,y4⟩:=blk5 b3
 have hBl3:=heap_lt b3
 have H3:=Lib.hid (And.intro b3 (And.intro hD3 (And.intro hOE3 (And.intro hO3 (And.intro hgl (And.intro hrl (And.intro hbd hd3)))))))
 clear b3 hD3 hOE3 hO3 hrl hbd hd3 x0 x1 x2 x3 x4 hf hgl
 go_upto_region 5 with (go_at_call 25;(with_reducible refine hshw.mono ?_);rintro e w4 ⟨vS,ss,rfl,hoS,hSR,hd4⟩)
 have b4:=hd4.blk H3.out.1 (Nat.ne_of_gt hBH)
 have hO4:=H3.out.2.2.2.1.dealt hd4 hHs
 have hOE4:=H3.out.2.2.1.keptH hd4.gr hHs
 have hsz4:=hd4.size
 have hss7:=hSR.le
 obtain ⟨AS,cS,rfl,hsS,hcS,hmS⟩:=hoS.form (fun l => by simp [eSg])
 obtain ⟨m,hm⟩ : ∃ m,m = ss.length:=⟨_,rfl⟩
 rw [← hm] at hsS hcS hss7 ⊢
 have hpt:=Part_any b f AS m cS ss w4 hO4.inn hsS (by omega)
 unfold Hb.v at hpt
 clear y0 y1 y2 y3 y4
 obtain ⟨y0,y1,y2,y3,y4⟩:=blk5 b4
 have hBl4:=heap_lt b4
 have hB4 : Below w.heap.size w w4:=HT.out.2.2.2.2.2.trans ((HW.out.2.2.trans ((Below.refl _ _))).mono (Nat.le_trans hs1 hs2) |>.trans (((H3.out.2.2.2.2.2.2.2.trans hd4).below (Nat.le_refl _) (Nat.le_trans hs1 (Nat.le_trans hs2 hsW)))))
 have H4:=Lib.hid (And.intro b4 (And.intro hO4 (And.intro hOE4 (And.intro hsS (And.intro hSR (And.intro hm hB4))))))
 clear b4 hO4 hOE4 hsS hSR hm hB4 hoS hd4 hshw
 obtain ⟨pe,hpe⟩ : ∃ pe,pe = partE b f ss:=⟨_,rfl⟩
 have HPE:=Lib.hid hpe
 clear hpe
 go_upto_region 6 with (go_at_call 26;(with_reducible refine hpt.mono ?_);rintro e w5 ⟨⟨vP,rfl,hoP⟩,hb5⟩;rw [← HPE.out])
 have b5:=bheap H4.out.1 hb5 (Nat.le_refl _)
 clear y0 y1 y2 y3 y4 hpt
 obtain ⟨y0,y1,y2,y3,y4⟩:=blk5 b5
 have hBl5:=heap_lt b5
 have hse:=H4.out.2.2.2.2.1.seen
 by_cases h6 : 6 < m
 ·have h6' : (6 : Int) < (m : Int):=by omega
  have he : pe = 6:=by
   rw [HPE.out]
   unfold partE
   rw [if_neg (by show ¬ b.chk ≠ 0;rw [HT.out.2.2.1];simp),if_neg (by rw [ownB_iff.2 (by omega)];simp),if_pos (by rw [← H4.out.2.2.2.2.2.1];exact h6)]
  subst he
  have HB5:=Lib.hid (H4.out.2.2.2.2.2.2.trans (hb5.mono H4.out.2.2.2.2.2.2.size))
  clear hb5 hoP b5 hse
  go_wp2_with (go_at_call 23;(with_reducible refine (herding_any _).mono ?_);rintro e w6 ⟨rfl,hb6⟩)
  go_ret
  exact ⟨rfl,HB5.out.trans (hb6.mono HB5.out.size)⟩
 ·have hm6 : m ≤ 6:=by omega
  have hs6 : ss.length ≤ 6:=by have:=H4.out.2.2.2.2.2.1;omega
  have hnn : nnG gs = true:=(nn_iff HT.out.2.2.2.2.1 hnl.2 hnf.2).2 HT.out.2.2.2.1.nn
  have hmem:=part_true (ss:=ss) HT.out.2.1 HT.out.2.2.2.2.1 hnn hfk HT.out.2.2.2.1.e hs6 H4.out.2.2.2.2.1
  have he : pe = 0:=by
   rw [HPE.out]
   unfold partE
   rw [if_neg (by show ¬ b.chk ≠ 0;rw [HT.out.2.2.1];simp),if_neg (by rw [ownB_iff.2 (by omega)];simp),if_neg (by omega),if_neg (by rw [sightsE_ok.2 hse];simp),if_neg (fun h => by have:=HT.out.2.2.2.1.e;rw [show b.ends (-1) 0 = endsL b.t b.l b.hs b.ds (-1) 0 from rfl] at h;rw [h] at this;cases this),if_neg (fun h => by rw [Int.toNat_natCast] at h;rw [h] at hmem;cases hmem)]
  have hdue:=part_due (ss:=ss) HT.out.2.1 hfk hs6 hse
  obtain ⟨PL,hPL⟩ : ∃ PL,PL = partR b f ss:=⟨_,rfl⟩
  have hPL2 : PL = spansTo (canE b f ss (truN b (-1) (-1))) (dueF f b.l.length) b.l.length:=by
   rw [hPL,← hdue]
   unfold partR
   rw [← HPE.out,he,if_pos rfl,Int.toNat_natCast]
  have hPLl : PL.length = b.l.length:=by rw [hPL2,spansTo_len]
  have hPLc : ∀ (o : Nat) (r : Rn),PL[o]? = some r → r.lo ≤ getG gs f o ∧ getG gs f o ≤ r.hi:=fun o r hr => by
   have ho:=(List.getElem?_eq_some_iff.1 hr).1
   rw [hPLl] at ho
   rw [hPL2,← hdue] at hr
   unfold spansTo at hr
   rw [List.getElem?_map,List.getElem?_range ho] at hr
   have e:=Option.some.inj hr
   rw [← e,← firstH_get gs (f:=f) (o:=o) (by omega) (by omega)]
   exact (rangeE_mem (List.ne_nil_of_mem hmem)).2.2 _ hmem
  have hPLd : dueT b f ss (truN b (-1) (-1)) = PL:=by
   unfold dueT
   rw [if_neg,hPL2]
   intro h
   have:=(part_perm (ss:=ss) HT.out.2.1 hfk hs6 hse).1
   rw [h] at this
   rw [List.nil_perm.1 this] at hmem
   cases hmem
  rw [← hPL] at hoP
  obtain ⟨AP,cP,rfl,hsP,hcP,hmP⟩:=hoP.form lenRn
  have hEg:=(part_perm (ss:=ss) HT.out.2.1 hfk hs6 hse).2
  subst he
  obtain ⟨nl,hnle⟩ : ∃ nl,nl = b.l.length:=⟨_,rfl⟩
  rw [← hnle] at hPLl hnl
  rw [hPLl] at hsP hcP ⊢
  have hin5:=(H4.out.2.1.below hb5 (Nat.le_refl _))
  have htr:=truths_any b HT.out.2.1 (-1) (-1) w5 hin5.inn hin5.z
  unfold Hb.v Hb.vh at htr
  rw [← hnle] at htr
  unfold Hb.vm at y1
  unfold Hb.vh at y3
  rw [← hnle] at y1
  unfold Hb.vk at y2
  unfold Hb.vd at y4
  obtain ⟨E,hE⟩ : ∃ E,E = truN b (-1) (-1):=⟨_,rfl⟩
  rw [← hE] at hPLd hEg htr
  have hOE5:=H4.out.2.2.1.below hb5 (Nat.le_refl _)
  have hsS5:=H4.out.2.2.2.1.below hb5 (Nat.le_refl _)
  have hB5:=H4.out.2.2.2.2.2.2.trans (hb5.mono H4.out.2.2.2.2.2.2.size)
  have H5:=Lib.hid (And.intro b5 (And.intro hin5 (And.intro hOE5 (And.intro hsS5 (And.intro hB5 (And.intro hse (And.intro hnle (And.intro hsP (And.intro hPLd (And.intro hPLc (And.intro hEg hPLl)))))))))))
  clear b5 hin5 hOE5 hsS5 hB5 hse hnle hsP hPLd hPLc hEg hoP hb5 hPL hPL2 hdue hmem hnn hPLl h6 hs6 hE
  go_upto_region 12 with (go_at_call 22;(with_reducible refine htr.mono ?_);rintro e w6 ⟨⟨vE6,rfl,hoE6⟩,hb6⟩)
  obtain ⟨AE6,cE6,rfl,-,hcE6,hmE6⟩:=hoE6.form
  have hwd:=words_any nl hnl.2 m hm6 w6
  obtain ⟨L,hL⟩ : ∃ L,L = wordsL nl m:=⟨_,rfl⟩
  rw [← hL] at hwd
  have H6:=Lib.hid (And.intro hoE6 (And.intro hb6 hL))
  clear hoE6 hb6 htr y0 y1 y2 y3 y4 hL
  go_upto_region 13 with (go_at_call 27;(with_reducible refine hwd.mono ?_);rintro e w7 ⟨vL,rfl,hoL,hb7⟩)
  obtain ⟨AL,cL,rfl,-,hcL,hmL⟩:=hoL.form
  have hb57 : Below w5.heap.size w5 w7:=H6.out.2.1.trans (hb7.mono H6.out.2.1.size)
  have b7:=bheap H5.out.1 hb57 (Nat.le_refl _)
  have hO7:=H5.out.2.1.below hb57 (Nat.le_refl _)
  have hOE7:=H5.out.2.2.1.below hb57 (Nat.le_refl _)
  have hS7:=H5.out.2.2.2.1.below hb57 (Nat.le_refl _)
  have hE7:=H6.out.1.below hb7 (Nat.le_refl _)
  have hP7:=H5.out.2.2.2.2.2.2.2.1.below hb57 (Nat.le_refl _)
  have hB7:=H5.out.2.2.2.2.1.trans (hb57.mono H5.out.2.2.2.2.1.size)
  have hsz7:=hb57.size
  have H7:=Lib.hid (And.intro b7 (And.intro hO7 (And.intro hOE7 (And.intro hS7 (And.intro hE7 (And.intro hP7 (And.intro hB7 hoL)))))))
  have hEb : E.length ≤ 9223372036854775807:=by have h1:=hcE6;have h2:=hmE6;unfold maxLen at h2;omega
  have hLb : L.length ≤ 9223372036854775807:=by have h1:=hcL;have h2:=hmL;unfold maxLen at h2;omega
  obtain ⟨fn,hfn⟩ : ∃ q : Nat,q = f * nl:=⟨_,rfl⟩
  have hfn1 : (f : Int) * (nl : Int) = (fn : Int):=by rw [hfn,Int.natCast_mul]
  have hfn2 : ((f : Int) + 1) * (nl : Int) = (fn : Int) + (nl : Int):=by rw [Int.add_mul,hfn1,Int.one_mul]
  have hfn10 : fn ≤ 10:=by rw [hfn];exact Nat.le_trans (Nat.mul_le_mul (show f ≤ 2 by omega) hnl.2) (by decide)
  have HFN:=Lib.hid hfn
  clear b7 hO7 hOE7 hS7 hE7 hP7 hB7 hoL hwd hb57 hb7 hfn
  go_upto_region 15 with (fail)
  go_loopg [15,16] E.length (fun g v15 v16 wr => ∃ i : Nat,i + g = E.length ∧ v16 = .int .i64 i ∧ OwnR wr w7.heap.size v15 (dueT b f ss (E.take i)) ∧ Below w7.heap.size w7 wr)
  case atStart => exact ⟨0,by omega,rfl,Own.nil_,Below.refl _ _⟩
  case round =>
   obtain ⟨i,hi,rfl,hown,hbr⟩:=hrel
   obtain ⟨g1,rfl⟩ : ∃ g1 : Nat,g1 = gk:=⟨_,rfl⟩
   obtain ⟨w8,hw8⟩ : ∃ w8 : World,w8 = wr:=⟨_,rfl⟩
   rw [← hw8] at hown hbr ⊢
   clear hw8
   by_cases hlt : i < E.length
   ·obtain ⟨b1,o1,cap,B1,en,c1,ev,hen,u17,hri,hrc,hrm,-⟩:=H7.out.2.2.2.2.1.get hlt
    cases ev
    have u1:=bcell u17 hbr (Nat.le_refl _)
    clear u17
    obtain ⟨g,hg1,hg2,hge⟩:=H5.out.2.2.2.2.2.2.2.2.2.2.1 en (List.mem_of_getElem? hen)
    have hel : en.length = b.ks.length * nl:=by rw [hge,flat_sh_len hg1.r,hg1.l,H5.out.2.2.2.2.2.2.1]
    have hfe : fn + nl ≤ en.length:=by
     rw [hel,HFN.out,← Nat.succ_mul]
     exact Nat.mul_le_mul_right _ hfk
    obtain ⟨bq,oq,x0,rfl,hbq,-,-⟩:=Ints.get hri (show 0 < en.length by omega)
    have hsub:=hri.sub (q:=fn) (k:=nl) hfe
    have hrowF : (en.drop fn).take nl = rowF en f b.l.length:=by unfold rowF;rw [HFN.out,H5.out.2.2.2.2.2.2.1]
    rw [hrowF] at hsub
    obtain ⟨el,hell⟩ : ∃ el,el = en.length:=⟨_,rfl⟩
    rw [← hell] at u1 hrc hfe
    have hbl1:=cell_lt u1
    have i1 : (i : Int) < (E.length : Int):=by omega
    have HI:=Lib.hid (And.intro hi (And.intro hown (And.intro hbr (And.intro hen (And.intro hsub hell)))))
    clear hi hown hbr hen hri hsub hell hge hel hrowF hg1 hg2
    go_upto_region 18 with (fail)
    rw [show fn + nl - fn = nl by omega]
    obtain ⟨ch,hch⟩ : ∃ ch,ch = c1 - fn:=⟨_,rfl⟩
    rw [← hch]
    have hch1 : nl ≤ ch ∧ ch ≤ maxLen:=by omega
    obtain ⟨oh,hoh⟩ : ∃ oh,oh = oq + fn:=⟨_,rfl⟩
    obtain ⟨hd,hhd⟩ : ∃ hd,hd = rowF en f b.l.length:=⟨_,rfl⟩
    have hsub:=HI.out.2.2.2.2.1
    rw [← hoh,← hhd] at hsub
    rw [← hoh]
    have hhl : hd.length = nl:=hsub.len
    have HHD:=Lib.hid (And.intro hsub (And.intro hhd hhl))
    have hbq8 : bq < w8.heap.size:=Nat.lt_of_lt_of_le hbq HI.out.2.2.1.size
    clear hch hoh hsub hhd hhl u1
    have hmk:=fun W => run_mkI W hnl.2
    go_upto_region 20 with (fail)
    go_loopg [18,19] L.length (fun g v18 v19 wr => ∃ k : Nat,k + g = L.length ∧ v19 = .int .i64 k ∧ v18 = .bool ((L.take k).any (canP b.t b.l ss hd)) ∧ Below w8.heap.size w8 wr)
    case atStart => exact ⟨0,by omega,rfl,rfl,Below.refl _ _⟩
    case round =>
     obtain ⟨k,hk,rfl,rfl,hb8⟩:=hrel
     obtain ⟨g2,rfl⟩ : ∃ g2 : Nat,g2 = gk:=⟨_,rfl⟩
     obtain ⟨w9,hw9⟩ : ∃ w9 : World,w9 = wr:=⟨_,rfl⟩
     rw [← hw9] at hb8 ⊢
     clear hw9
     obtain ⟨cb,hcb⟩ : ∃ cb,cb = (L.take k).any (canP b.t b.l ss hd):=⟨_,rfl⟩
     rw [← hcb]
     have hb79 : Below w7.heap.size w7 w9:=HI.out.2.2.1.trans (hb8.mono HI.out.2.2.1.size)
     have hsz9:=hb79.size
     have HK:=Lib.hid (And.intro hk (And.intro hb8 (And.intro hcb hb79)))
     clear hk hb8 hcb hb79
     cases cb
     ·by_cases hlk : k < L.length
      ·skip
       obtain ⟨wd,hwd⟩ : ∃ wd,L[k]? = some wd:=⟨_,List.getElem?_eq_getElem hlk⟩
       have hwm:=wordsL_mem (n:=nl) (m:=m) (r:=wd) (by rw [← H6.out.2.2];exact List.mem_of_getElem? hwd)
       have i2 : (k : Int) < (L.length : Int):=by omega
       obtain ⟨w10,hw10⟩ : ∃ W,W = w9.alloc (Obj.cells (Array.replicate nl (Value.int .i64 0)) 3):=⟨_,rfl⟩
       obtain ⟨G,hG⟩ : ∃ G,G = w9.heap.size:=⟨_,rfl⟩
       have hb10 : Below w9.heap.size w9 w10:=by rw [hw10];exact bal0 _ _
       have hsu : SumB w10 G (sumW [] nl):=by
        unfold SumB
        rw [← made_zero8,hw10,hG]
        exact alloc_at rfl
       have HD:=Lib.hid (And.intro hwd (And.intro hwm (And.intro hb10 (And.intro hsu hG))))
       clear hwd hwm hb10 hsu
       go_upto_region 25 with (fail)
       rw [← hw10,← hG]
       clear hw10 hG hmk
       go_loopg [20,22] m (fun g v20 v22 wr => ∃ s : Nat,s + g = m ∧ v22 = .int .i64 s ∧ v20 = .bool ((List.range s).all (fitAt b.t b.l ss wd)) ∧ SumB wr G (sumW (wd.take s) nl) ∧ Below w9.heap.size w9 wr)
       case atStart => exact ⟨0,by omega,rfl,rfl,HD.out.2.2.2.1,HD.out.2.2.1⟩
       case round =>
        obtain ⟨s,hs,rfl,rfl,hsu,hb9⟩:=hrel
        obtain ⟨w11,hw11⟩ : ∃ W : World,W = wr:=⟨_,rfl⟩
        rw [← hw11] at hsu hb9 ⊢
        clear hw11
        obtain ⟨fb,hfb⟩ : ∃ fb,fb = (List.range s).all (fitAt b.t b.l ss wd):=⟨_,rfl⟩
        rw [← hfb]
        have hb711 : Below w7.heap.size w7 w11:=HK.out.2.2.2.trans (hb9.mono hsz9)
        by_cases hsm : s < m
        ·obtain ⟨b2,o2,cap2,B2,wd',c2,ev,hwd',y2,hi2,hc2,hm2,-⟩:=(H7.out.2.2.2.2.2.2.2.below hb711 (Nat.le_refl _)).get hlk
         cases ev
         rw [HD.out.1] at hwd'
         cases hwd'
         rw [HD.out.2.1.1] at y2 hi2 hc2
         obtain ⟨b3,o3,x3,rfl,hb3',hx3,y3⟩:=Ints.get hi2 hsm
         obtain ⟨hx0,hxn⟩:=HD.out.2.1.2 x3 (List.mem_of_getElem? hx3)
         obtain ⟨on,rfl⟩:=Int.eq_ofNat_of_zero_le hx0
         have hol : on < b.l.length:=by have:=H5.out.2.2.2.2.2.2.1;omega
         have hsS:=H7.out.2.2.2.1.below hb711 (Nat.le_refl _)
         obtain ⟨bs,os,sg,rfl,hbs,hsg,-⟩:=Sights.get hsS hsm
         obtain ⟨fb',hfb'⟩ : ∃ fb',fb' = (List.range (s + 1)).all (fitAt b.t b.l ss wd):=⟨_,rfl⟩
         have hff : fb' = (fb && fits sg (mkAt b.l on) b.t):=by
          rw [hfb',List.range_succ,List.all_append,← hfb]
          simp only [List.all_cons,List.all_nil,Bool.and_true]
          unfold fitAt
          rw [List.getD_eq_getElem?_getD,hx3,List.getD_eq_getElem?_getD,hsg,Option.getD_some,Option.getD_some,decide_eq_false (by omega),Bool.false_or]
         have HFB:=Lib.hid hfb'
         have HF:=Lib.hid hff
         have HIn:=Lib.hid (H7.out.2.1.below hb711 (Nat.le_refl _)).inn
         have HBX:=Lib.hid (bheap H7.out.1 hb711 (Nat.le_refl _))
         have HSS:=Lib.hid (And.intro hsS (And.intro hsg (H5.out.2.2.2.2.2.1 sg (List.mem_of_getElem? hsg))))
         have HWW:=Lib.hid (And.intro hi2 (And.intro hx3 HT.out.2.1))
         have hbl2:=cell_lt y2
         have hon : on < nl:=by omega
         have i4 : (on : Int) < (nl : Int):=by omega
         have i5 : (s : Int) < (m : Int):=by omega
         obtain ⟨yv,hyv⟩ : ∃ y,y = (sumW (wd.take s) nl).getD on 0:=⟨_,rfl⟩
         have hyb : 0 ≤ yv ∧ yv ≤ 10:=by
          rw [hyv]
          unfold sumW
          rw [List.getD_eq_getElem?_getD,List.getElem?_map,List.getElem?_range hon]
          have:=cntI_le (wd.take s) (on : Int)
          rw [List.length_take] at this
          simp only [Option.map_some,Option.getD_some]
          omega
         have hsl : on < (sumW (wd.take s) nl).length:=by unfold sumW;simp [hon]
         have HS:=Lib.hid (And.intro hs (And.intro hsu (And.intro hb9 (And.intro hyv hsl))))
         clear hs hsu hb9 hfb hfb' hff hsS hsg hi2 hx3 hx0 hxn hyv hsl hb711 hbs
         go_upto_region 27 with (fail)
         refine par_fit w11 b B bs os m cS b2 o2 L.length cL k s b3 o3 c2 on ss sg wd fb fb' _ _ _ _ _ _ _ _ _ _ _ _ _ _ _ _ _ _ _ _ _ _ _ _ _ _ _ _ _ _ _ _ _ _ _ _ _ _ _ _ _ _ _ _ _ _ _ _ _ _ _ _ _ _ _ _ _ _ _ _ _ _ _ _ _ _ _ _ _ _ _ _ _ _ _ _ _ _ _ _ _ _ _ _ _ _ _ _ _ _ _ _ _ _ _ _ _ _ _ _ _ _ _ _ _ _ _ _ _ _ _ _ _ _ _ _ _ _ _ _ _ _ _ _ _ _ _ _ _ _ _ _ _ _ _ _ _ _ _ _ _ _ _ _ _ _ _ _ _ _ _ _ _ _ _ _ _ _ _ _ _ _ _ _ _ _ _ _ _ _ _ _ _ _ _ _ _ _ _ _ _ _ _ _ _ _ _ _ _ _ _ _ _ _ _ _ _ _ _ _ _ _ _ _ _ _ _ _ _ _ _ _ _ _ _ _ _ _ _ _ _ _ _ _ _ _ _ _ _ _ _ HIn HBX HSS HWW y2 hsm hol i2 hcL hmL hc2 hm2 hcS hmS hbl2 HF ?_
         intro x116 x117 x118 x119 x120 x121 x122 x123 x124 x125 x126 x127 x128 x129 x130 x131 x132 x133 x134 x135 x136 x137 x138 w12 hb12
         have y2':=bcell y2 hb12 (Nat.le_refl _)
         have y3':=bcell y3 hb12 (Nat.le_refl _)
         have hsu12 : SumB w12 G (sumW (wd.take s) nl):=bheap HS.out.2.1 hb12 (Nat.le_refl _)
         obtain ⟨u0,u1⟩:=hsu12.cell HS.out.2.2.2.2
         rw [← HS.out.2.2.2.1] at u0
         have hGl:=heap_lt hsu12
         have hbl12 : b2 < w12.heap.size:=Nat.lt_of_lt_of_le hbl2 hb12.size
         have hb312 : b3 < w12.heap.size:=Nat.lt_of_lt_of_le hb3' hb12.size
         have HN:=Lib.hid (And.intro hsu12 hb12)
         clear hsu12 hb12 y2 y3
         go_wp2_with fail
         go_roundg (gk - 1)
         case measure => have:=HS.out.1;omega
         case rel =>
          refine ⟨s + 1,by have:=HS.out.1;omega,by go_num,by rw [HFB.out],?_,?_⟩
          ·rw [List.take_add_one,HWW.out.2.1]
           show SumB _ G (sumW (wd.take s ++ [(on : Int)]) nl)
           rw [sumW_step hon,← HS.out.2.2.2.1]
           exact HN.out.1.set _
          ·exact (HS.out.2.2.1.trans (HN.out.2.mono HS.out.2.2.1.size)).setCell (by rw [HD.out.2.2.2.2];exact Nat.le_refl _) _
        ·obtain rfl : s = m:=by omega
         have htk : wd.take s = wd:=List.take_of_length_le (by rw [HD.out.2.1.1];exact Nat.le_refl _)
         rw [htk] at hsu
         have hsl : (sumW wd nl).length = nl:=by unfold sumW;simp
         have hsi:=hsu.ints
         rw [hsl] at hsi
         have hhi:=HHD.out.1.below hb711 (Nat.le_refl _)
         have hss:=sameInts_any (some ⟨G,0,none⟩) nl nl (sumW wd nl) (some ⟨bq,oh,none⟩) nl ch hd w11 hsi hhi (Nat.le_trans hch1.1 hch1.2) (Nat.le_trans hch1.1 hch1.2)
         obtain ⟨sl,hsl'⟩ : ∃ sl,sl = sameL (sumW wd nl) hd:=⟨_,rfl⟩
         rw [← hsl'] at hss
         have hP : canP b.t b.l ss hd wd = (fb && sl):=by
          unfold canP
          rw [← H4.out.2.2.2.2.2.1,← hfb,← H5.out.2.2.2.2.2.2.1,← hsl']
         have hnx : (L.take (k + 1)).any (canP b.t b.l ss hd) = (fb && sl):=by
          rw [List.take_add_one,HD.out.1,List.any_append,← HK.out.2.2.1,Bool.false_or,← hP]
          simp
         have HN:=Lib.hid (And.intro hnx hb9)
         clear hs hsu hsi hhi hsl hsl' hP hnx hfb htk hb711 hb9
         cases fb
         ·go_wp2_with fail
          go_roundg (g2 - 1)
          case measure => have:=HK.out.1;omega
          case rel => exact ⟨k + 1,by have:=HK.out.1;omega,by go_num,by rw [HN.out.1,Bool.false_and],HK.out.2.1.trans (HN.out.2.mono HK.out.2.1.size)⟩
         ·go_wp2_with (go_at_call 16;(with_reducible refine hss.mono ?_);rintro e w12 ⟨rfl,hb12⟩;have HN2:=Lib.hid hb12;clear hb12)
          go_roundg (g2 - 1)
          case measure => have:=HK.out.1;omega
          case rel => exact ⟨k + 1,by have:=HK.out.1;omega,by go_num,by rw [HN.out.1,Bool.true_and],HK.out.2.1.trans ((HN.out.2.trans (HN2.out.mono HN.out.2.size)).mono HK.out.2.1.size)⟩
      ·obtain rfl : k = L.length:=by have:=HK.out.1;omega
       have hcan : canB b.t b.l ss (rowF en f b.l.length) = false:=by
        have:=HK.out.2.2.1
        rw [List.take_of_length_le (Nat.le_refl _),H6.out.2.2,H5.out.2.2.2.2.2.2.1,H4.out.2.2.2.2.2.1,HHD.out.2.1] at this
        exact this.symm
       have HC:=Lib.hid hcan
       clear hcan hmk
       go_wp2_with fail
       go_roundg (g1 - 1)
       case measure => have:=HI.out.1;omega
       case rel =>
        refine ⟨i + 1,by have:=HI.out.1;omega,by go_num,?_,HK.out.2.2.2⟩
        have : dueT b f ss (E.take (i + 1)) = dueT b f ss (E.take i):=by unfold dueT;rw [canE_no HI.out.2.2.2.1 HC.out]
        rw [this]
        exact HI.out.2.1.below HK.out.2.1 (Nat.le_refl _)
     ·have hcan : canB b.t b.l ss (rowF en f b.l.length) = true:=by
       have h:=HK.out.2.2.1
       unfold canB
       rw [← H5.out.2.2.2.2.2.2.1,← H4.out.2.2.2.2.2.1,← H6.out.2.2,H5.out.2.2.2.2.2.2.1,← HHD.out.2.1]
       obtain ⟨x,hx,hpx⟩:=List.any_eq_true.1 h.symm
       exact List.any_eq_true.2 ⟨x,List.mem_of_mem_take hx,hpx⟩
      obtain ⟨C,hC⟩ : ∃ C,C = canE b f ss (E.take i):=⟨_,rfl⟩
      have HC:=Lib.hid (And.intro hcan hC)
      clear hcan hC hmk
      have hkl : k ≤ L.length:=by have:=HK.out.1;omega
      go_upto_region 20 with (fail)
      refine par_test w9 _ L.length cL k _ _ _ _ _ _ _ _ _ _ _ _ _ _ _ _ _ _ _ _ _ _ _ _ _ _ _ _ _ _ _ _ _ _ _ _ _ _ _ _ _ _ _ _ _ _ _ _ _ _ _ _ _ _ _ _ _ _ _ _ _ _ _ _ _ _ _ _ _ _ _ _ _ _ _ _ _ _ _ _ _ _ _ _ _ _ _ _ _ _ _ _ _ _ _ _ _ _ _ _ _ _ _ _ _ _ _ _ _ _ _ _ _ _ _ _ _ _ _ _ _ _ _ _ _ _ _ _ _ _ _ _ _ _ _ _ _ _ _ _ _ _ _ _ _ _ _ _ _ _ _ _ _ _ _ _ _ _ _ _ _ _ _ _ _ _ _ _ _ _ _ _ _ _ _ _ _ _ _ _ _ _ _ _ _ _ _ _ _ _ _ _ _ _ _ _ _ _ _ _ _ _ _ _ _ _ _ _ _ _ _ _ _ _ _ _ _ _ _ _ _ _ _ _ _ _ _ _ _ _ _ _ _ _ hkl ?_
      intro x98 x99 x100 x101 x102 x103 x104
      go_upto_region 32 with (fail)
      go_loopg [15,23] nl (fun g v15 v23 wr => ∃ o : Nat,o + g = nl ∧ v23 = .int .i64 o ∧ OwnR wr w7.heap.size v15 (dueM C en (dueF f nl) nl o) ∧ Below w7.heap.size w7 wr)
      case atStart =>
       refine ⟨0,by omega,rfl,?_,HK.out.2.2.2⟩
       rw [HC.out.2,H5.out.2.2.2.2.2.2.1,dueM_start]
       exact HI.out.2.1.below HK.out.2.1 (Nat.le_refl _)
      case round =>
       obtain ⟨o,ho,rfl,hown,hb⟩:=hrel
       obtain ⟨w10,hw10⟩ : ∃ w10 : World,w10 = wr:=⟨_,rfl⟩
       rw [← hw10] at hown hb ⊢
       clear hw10
       by_cases hlo : o < nl
       ·obtain ⟨D,hD⟩ : ∃ D,D = dueM C en (dueF f nl) nl o:=⟨_,rfl⟩
        rw [← hD] at hown
        obtain ⟨bh',oh',h,e,hbh,hh,y⟩:=Ints.get (HHD.out.1.below hb (Nat.le_refl _)) hlo
        cases e
        have hF : dueF f nl o en = h:=by
         unfold dueF
         rw [H5.out.2.2.2.2.2.2.1,← HHD.out.2.1,List.getD_eq_getElem?_getD,hh]
         rfl
        have i3 : (o : Int) < (nl : Int):=by omega
        have hsz10:=hb.size
        have HL:=Lib.hid (And.intro ho (And.intro hown (And.intro hb hF)))
        have HO:=Lib.hid hown
        have hcase : (D.length = o ∨ o < D.length) ∧ D.length ≤ 10:=by
         rw [hD]
         rcases Classical.em (C = []) with hC0 | hC0
         ·have:=(dueM_new (en:=en) (F:=dueF f nl) (n:=nl) (o:=o) hC0).1
          omega
         ·have:=(dueM_old (C:=C) (en:=en) (F:=dueF f nl) (n:=nl) (o:=o) hC0 hlo).1
          omega
        have HDD:=Lib.hid (show (D.length = o → (D ++ [(⟨h,h⟩ : Rn)])[o]? = some (⟨h,h⟩ : Rn) ∧ (D ++ [(⟨h,h⟩ : Rn)]).set o (⟨min h h,max h h⟩ : Rn) = dueM C en (dueF f nl) nl (o + 1)) ∧ (o < D.length → ∃ r : Rn,D[o]? = some r ∧ D.set o (⟨min r.lo h,max r.hi h⟩ : Rn) = dueM C en (dueF f nl) nl (o + 1)) from by
         rcases Classical.em (C = []) with hC0 | hC0
         ·obtain ⟨d1,d2,d3⟩:=dueM_new (en:=en) (F:=dueF f nl) (n:=nl) (o:=o) hC0
          rw [← hD,HL.out.2.2.2] at d2 d3
          rw [← hD] at d1
          exact ⟨fun _ => ⟨d2,d3⟩,fun h9 => by omega⟩
         ·obtain ⟨d1,d2,d3⟩:=dueM_old (C:=C) (en:=en) (F:=dueF f nl) (n:=nl) (o:=o) hC0 hlo
          rw [← hD,HL.out.2.2.2] at d3
          rw [← hD] at d1 d2
          exact ⟨fun h9 => by omega,fun _ => ⟨_,d2,d3⟩⟩)
        have HYY:=Lib.hid (show ∀ w',Below w7.heap.size w10 w' → w'.cell? ⟨bq,oh + o,none⟩ = some (.int .i64 h) from fun w' hw' => by
         obtain ⟨bh',oh',h',e,-,hh',y11⟩:=Ints.get (HHD.out.1.below (HL.out.2.2.1.trans hw') (Nat.le_refl _)) hlo
         cases e
         have hhe : h' = h:=by
          have h9:=HL.out.2.2.2
          unfold dueF at h9
          rw [H5.out.2.2.2.2.2.2.1,← HHD.out.2.1,List.getD_eq_getElem?_getD,hh'] at h9
          exact h9
         rw [hhe] at y11
         exact y11)
        have hDl : D.length < 4294967296:=by omega
        obtain ⟨hc1,-⟩:=hcase
        clear ho hown hh hb hF hD
        go_upto_block 7 with (fail)
        refine par_round w10 w7.heap.size bq oh nl ch o h D (dueM C en (dueF f nl) nl (o + 1)) _ _ _ _ _ _ _ _ _ _ _ _ _ _ _ _ _ _ _ _ _ _ _ _ _ _ _ _ _ _ _ _ _ _ _ _ _ _ _ _ _ _ _ _ _ _ _ _ _ _ _ _ _ _ _ _ _ _ _ _ _ _ _ _ _ _ _ _ _ _ _ _ _ _ _ _ _ _ _ _ _ _ _ _ _ _ _ _ _ _ _ _ _ _ _ _ _ _ _ _ _ _ _ _ _ _ _ _ _ _ _ _ _ _ _ _ _ _ _ _ _ _ _ _ _ _ _ _ _ _ _ _ _ _ _ _ _ _ _ _ _ _ _ _ _ _ _ _ _ _ _ _ _ _ _ _ _ _ _ _ _ _ _ _ _ _ _ _ _ _ _ _ _ _ _ _ _ _ _ _ _ _ _ _ _ _ _ _ _ _ _ _ _ _ _ _ _ _ _ _ _ _ _ _ _ _ _ _ _ _ _ _ _ _ _ _ _ _ _ _ _ _ _ _ _ _ _ _ _ _ _ _ _ _ _ HO hc1 HDD y i3 hbq hbh hch1.1 hch1.2 hsz10 hDl HYY ?_
        intro x164 x165 x166 x167 x168 x169 x170 x171 x172 x173 x174 x175 x176 x177 x178 x179 x180 x181 x182 x183 x184 x185 x186 x187 x188 x189 x190 x191 x192 x193 x194 x195 x196 x197 x198 x199 x200 x201 x202 x203 v15 w12 hown12 hb12
        have HY:=Lib.hid (And.intro hown12 hb12)
        clear hown12 hb12 y
        go_wp2_with fail
        go_roundg (gk - 1)
        case measure => have:=HL.out.1;omega
        case rel => exact ⟨o + 1,by have:=HL.out.1;omega,by go_num,HY.out.1,HL.out.2.2.1.trans HY.out.2⟩
       ·obtain rfl : o = nl:=by omega
        have HL:=Lib.hid (And.intro hown hb)
        clear hown hb ho
        go_wp2_with fail
        go_roundg (g1 - 1)
        case measure => have:=HI.out.1;omega
        case rel =>
         refine ⟨i + 1,by have:=HI.out.1;omega,by go_num,?_,HL.out.2⟩
         rw [← dueM_end HI.out.2.2.2.1 HC.out.1,← HC.out.2,← H5.out.2.2.2.2.2.2.1]
         exact HL.out.1
   ·obtain rfl : i = E.length:=by omega
    rw [List.take_of_length_le (Nat.le_refl _),H5.out.2.2.2.2.2.2.2.2.1] at hown
    obtain ⟨AD,cD,rfl,hsD,hcD,hmD⟩:=hown.form lenRn
    have hPl:=H5.out.2.2.2.2.2.2.2.2.2.2.2
    rw [hPl] at hsD hcD ⊢
    have HI:=Lib.hid (And.intro hsD hbr)
    clear hsD hbr hown hi hPl
    go_upto_region 38 with (fail)
    go_loopg [24] nl (fun g v24 wr => ∃ o : Nat,o + g = nl ∧ v24 = .int .i64 o ∧ Below w8.heap.size w8 wr)
    case atStart => exact ⟨0,by omega,rfl,Below.refl _ _⟩
    case round =>
     obtain ⟨o,ho,rfl,hb⟩:=hrel
     have hb7 : Below w7.heap.size w7 wr:=HI.out.2.trans (hb.mono HI.out.2.size)
     by_cases hlo : o < nl
     ·obtain ⟨bp,op,r,rfl,hbp,hr,r0,r1⟩:=Rns.get (H7.out.2.2.2.2.2.1.below hb7 (Nat.le_refl _)) hlo
      have hrc:=H5.out.2.2.2.2.2.2.2.2.2.1 o r hr
      obtain ⟨b1,o1,cap,B1,row,c1,ev,hrow,u1,hri,hrc1,hrm,-⟩:=(H7.out.2.2.1.below hb7 (Nat.le_refl _)).get (k:=f) (by rw [H3.out.2.2.2.2.1];exact hfk)
      cases ev
      have hrw : gs.getD f [] = row:=by rw [List.getD_eq_getElem?_getD,hrow];rfl
      have hrl : row.length = nl:=by rw [← hrw,H3.out.2.2.2.2.2.1,H5.out.2.2.2.2.2.2.1]
      rw [hrl] at u1 hri hrc1
      obtain ⟨b3,o3,x,rfl,hb3,hx,y3⟩:=Ints.get hri hlo
      have hxe : getG gs f o = x:=by unfold getG;rw [hrw,List.getD_eq_getElem?_getD,hx];rfl
      rw [hxe] at hrc
      have i3 : (o : Int) < (nl : Int):=by omega
      have i4 : (f : Int) < (gs.length : Int):=by have:=H3.out.2.2.2.2.1;omega
      have hcv : ∀ d os,Calls Try.prog 30 #[.agg #[.int .i64 r.lo,.int .i64 r.hi],.agg #[.int .i64 x,.int .i64 x]] (Sort.grow (redrawn wr d) os) (fun e w'' => e = .returned (.bool true) ∧ ∃ p : Regrown,w'' = Sort.grow (redrawn wr p.d) p.os):=fun d os =>
       Calls.regrown_of (covers_any r ⟨x,x⟩ _ hrc.1 hrc.2)
      have hsp : ∀ d os,Calls Try.prog 29 #[.int .i64 x,.int .i64 x] (Sort.grow (redrawn wr d) os) (fun e w'' => e = .returned (.agg #[.int .i64 x,.int .i64 x]) ∧ ∃ p : Regrown,w'' = Sort.grow (redrawn wr p.d) p.os):=fun d os =>
       Calls.regrown_of (span9_any x x _)
      have HCV:=Lib.hid (And.intro hcv hsp)
      have HO:=Lib.hid (And.intro ho hb)
      clear ho hb hb7 hr hrow hrw hrl hri hx hxe hcv hsp hrc
      go_upto_region 40 with (fail)
      have k0:=cell_regrown u1
      have k1:=cell_regrown y3
      have k2:=cell_regrown r0
      have k3:=cell_regrown r1
      clear u1 y3 r0 r1
      refine wp_region_quiet_below (by kernel_rfl) (by kernel_rfl) ?_
      repeat (quiet_step (first | exact HCV.out.1 _ _ | exact HCV.out.2 _ _))
      refine wpQuiet_nil ?_
      intro _ hw'
      obtain ⟨⟨dq,osq⟩,hw''⟩:=hw'
      subst hw''
      obtain ⟨W7,hW7⟩ : ∃ W7,W7 = Sort.grow (redrawn wr dq) osq:=⟨_,rfl⟩
      have hb7 : Below wr.heap.size wr W7:=by rw [hW7];exact below_regrown wr dq osq
      rw [← hW7]
      have H77:=Lib.hid hb7
      clear hW7 k0 k1 k2 k3 hb7
      go_wp2
      go_roundg (gk - 1)
      case measure => have:=HO.out.1;omega
      case rel => exact ⟨o + 1,by have:=HO.out.1;omega,by go_num,HO.out.2.trans (H77.out.mono HO.out.2.size)⟩
     ·obtain rfl : o = nl:=by omega
      have hsr:=sameRanges_any AP o cP PL AD o cD PL wr (H7.out.2.2.2.2.2.1.below hb7 (Nat.le_refl _)) (HI.out.1.below hb (Nat.le_refl _)) (Nat.le_trans hcP hmP) (Nat.le_trans hcD hmD)
      rw [show sameL PL PL = true from decide_eq_true rfl] at hsr
      have HO:=Lib.hid (H7.out.2.2.2.2.2.2.1.trans (hb7.mono H7.out.2.2.2.2.2.2.1.size))
      clear hb hb7 ho
      go_wp2_with (first
       | (go_at_call 31;(with_reducible refine hsr.mono ?_);rintro e w9 ⟨rfl,hb9⟩;have HB9:=Lib.hid hb9;clear hb9)
       | (go_at_call 23;(with_reducible refine (herding_any _).mono ?_);rintro e w10 ⟨rfl,hb10⟩))
      go_ret
      exact ⟨rfl,HO.out.trans ((HB9.out.trans (hb10.mono HB9.out.size)).mono HO.out.size)⟩
end Go.Proofs.Ytmennjmjakdkcaa
namespace Go.Proofs.Ytmennjmjakdkcaa
open Go.RowKit
set_option linter.unusedVariables false
theorem ints_of {w : World} {a : Option Addr} {len cap : Nat} {zs : List Int}
 (h : (a = none ∧ len = 0 ∧ cap = 0 ∧ zs = []) ∨ ∃ x,a = some x ∧ len ≤ cap ∧ cap ≤ maxLen ∧ zs.length = cap ∧ (∀ i,i < zs.length → w.cell? (x.add i) = some (.int .i64 (zs.getD i 0))) ∧ ∀ n ∈ zs,(Lit.int .i64 n).wf = true) :
 ∃ nums,Ints w a len nums ∧ len ≤ cap ∧ cap ≤ 9223372036854775807 ∧ (a = none → cap = 0):=by
 rcases h with ⟨rfl,rfl,rfl,rfl⟩ | ⟨x,rfl,h1,h2,h3,h4,h5⟩
 ·exact ⟨[],Sl.nil_,Nat.le_refl _,by omega,fun _ => rfl⟩
 ·have h2' : cap ≤ 9223372036854775807:=h2
  refine ⟨zs.take len,⟨by rw [List.length_take];omega,fun hn => ?_⟩,h1,h2',fun h => by cases h⟩
  obtain ⟨b,off,rfl,hc⟩:=ints_at h4 (by omega)
  refine ⟨b,off,rfl,fun i y hy j u hu => ?_⟩
  rw [List.getElem?_take] at hy
  split at hy
  ·have hlt:=(List.getElem?_eq_some_iff.1 hy).1
   cases j with
   | zero =>
     simp only [eInt,List.getElem?_cons_zero,Option.some.injEq] at hu
     subst hu
     have:=hc i (by omega)
     rw [Nat.mul_one,Nat.add_zero]
     rw [this,List.getD_eq_getElem?_getD,hy]
     rfl
   | succ j => simp [eInt] at hu
  ·cases hy
end Go.Proofs.Ytmennjmjakdkcaa
