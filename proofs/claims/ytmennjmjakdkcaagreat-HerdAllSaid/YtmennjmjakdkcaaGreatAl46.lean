/- HerdAll 46: AllA. -/
import Derived.Test.YtmennjmjakdkcaaGreatAl34
import Derived.Test.YtmennjmjakdkcaaGreatAl35
import Derived.Test.YtmennjmjakdkcaaGreatAl45
import Derived.Test.YtmennjmjakdkcaaGreatAl37
namespace Go.Proofs.YtmennjmjakdkcaaGreat
open Go.RowKit
set_option linter.unusedVariables false
set_option linter.unusedSimpArgs false
theorem Ints.subA {w:World} {b off n q k:Nat} {l:List Int} (h:Ints w (some ⟨b,off,none⟩) n l) (hq:q + k ≤ n):Ints w (some ⟨b,off + q,none⟩) k ((l.drop q).take k):=by
 have hlen:=h.len
 refine ⟨by rw [List.length_take,List.length_drop];omega,fun hk => ⟨b,off + q,rfl,fun i x hx j u hu => ?_⟩⟩
 have hik:i < k:=by
  have:=(List.getElem?_eq_some_iff.1 hx).1
  rw [List.length_take] at this
  omega
 rw [List.getElem?_take_of_lt hik,List.getElem?_drop] at hx
 obtain ⟨b',o',e,hc⟩:=h.2 (by omega)
 cases e
 have:=hc (q + i) x hx j u hu
 rw [show off + q + i * 1 + j = off + (q + i) * 1 + j by omega]
 exact this
def doubtB (d:De):Bool:=decide (d.kind = 4) || decide (d.kind = 5)
theorem take_map {E:List (List Int)} {i:Nat} {e:List Int} (φ:List Int→Int) (h:E[i]? = some e):(E.take (i + 1)).map φ = (E.take i).map φ ++ [φ e]:=by
 rw [List.take_add_one,h,List.map_append]
 rfl
theorem tru_elt {b:Hb} {e:List Int} (hok:HeOk b.t b.l b.ks b.hs b.ds) (he:e ∈ truN b (-1) (-1)):e.length = b.ks.length * b.l.length∧∀ x ∈ e,-1000 ≤ x∧x ≤ 1000:=by
 obtain ⟨h1,h2⟩:=tru_perm (deed:=-1) (owner:=-1) hok
 obtain ⟨g,hg,rfl⟩:=h2 e he
 have h3:=hok.f3
 have h5:=hok.n5
 refine ⟨by rw [flat_sh_len hg.r,hg.l],fun x hx => ?_⟩
 obtain ⟨r,hr,hxr⟩:=List.mem_flatten.1 hx
 obtain ⟨f,hf,e1⟩:=List.mem_iff_getElem.1 hr
 obtain ⟨o,ho,e2⟩:=List.mem_iff_getElem.1 hxr
 have hfl:f < b.ks.length:=by rw [← hg.l];exact hf
 have hol:o < b.l.length:=by rw [← hg.r r hr];exact ho
 have hin:firstH g ∈ b.ends (-1) (-1):=(h1.mem_iff).1 (by rw [← unfl_flat hg];exact List.mem_map.2 ⟨_,he,rfl⟩)
 have hb:=hb_of hok _ hin
 have hgt:=hb.get (f:=f) (o:=o) (by omega) (by omega)
 rw [firstH_get g (by omega) (by omega)] at hgt
 have:getG g f o = x:=by
  unfold getG
  rw [List.getD_eq_getElem?_getD (l:=g),List.getElem?_eq_getElem hf,Option.getD_some,e1,List.getD_eq_getElem?_getD,List.getElem?_eq_getElem ho,e2]
  rfl
 omega
theorem ownF_bd {n o:Nat} {e:List Int} (h:∀ x ∈ e,-1000 ≤ x∧x ≤ 1000):∀ k:Nat,-(1000 * (k:Int)) ≤ ownF n o e k∧ownF n o e k ≤ 1000 * (k:Int)
 | 0 => by simp [ownF]
 | k + 1 => by
   have h1:=ownF_bd (n:=n) (o:=o) h k
   have h2:-1000 ≤ hasF n k o e∧hasF n k o e ≤ 1000:=by
    unfold hasF
    rw [List.getD_eq_getElem?_getD]
    cases hg:e[k * n + o]? with
    | none => simp
    | some x => exact h x (List.mem_of_getElem? hg)
   unfold ownF
   omega
set_option maxRecDepth 400000 in
set_option maxHeartbeats 40000000 in
theorem HerdAll_any (A:Option Addr) (n c:Nat) (nums:List Int) (w:World) (hl:Ints w A n nums) (hn:n ≤ 9223372036854775807) :
 Calls Tryz.prog 5 #[.slice A n c] w fun e w' => e = .returned (.bool true)∧Below w.heap.size w w':=by
 go_enter Tryz.func5,Tryz.ntmps5
 go_wp2_with fail
 refine (newHand_any A n c nums _ hl hn).mono ?_
 rintro e w1 ⟨rfl,hh,hb1,hz1⟩
 clear hl hz1
 go_wp2_with fail
 refine (herdOf_any w.heap.size 0 3 2 5 _ hh (by omega) (by omega) (by omega) (by omega)).mono ?_
 rintro e w2 ⟨b,rfl,hck,hln,hkn,hdn,hO,hd2⟩
 unfold Hb.v
 have hB2:=hb1.trans (hd2.below (Nat.le_refl _) hb1.size)
 clear hh hb1 hd2 hln hkn hdn
 go_upto_region 2 with (fail)
 obtain ⟨B,hB⟩:∃ B,B = w2.heap.size:=⟨_,rfl⟩
 obtain ⟨W,hW⟩:∃ W,W = w2.alloc (Obj.cells #[Value.int .i64 b.t,.slice b.A b.l.length b.c,.slice b.Ak b.ks.length b.ck,.slice b.Ah b.hs.length b.ch,.slice b.Ad b.ds.length b.cd] 29):=⟨_,rfl⟩
 rw [← hW,← hB]
 have bW:W.heap[B]? = some (boxO b.t b.vm b.vk b.vh b.vd):=by rw [hW,hB];exact alloc_at rfl
 have hiW:HbIn W b:=by rw [hW];exact hO.inn.al _
 have hzW:HbZ W b:=by rw [hW];exact hO.z.below (bal0 w2 _) (Nat.le_refl _)
 have hBW:Below w.heap.size w W:=by rw [hW];exact bal hB2 (Nat.le_refl _) _
 have hok:=checkH_ok hck
 obtain ⟨nl,hnl⟩:∃ nl,nl = b.l.length:=⟨_,rfl⟩
 obtain ⟨nk,hnk⟩:∃ nk,nk = b.ks.length:=⟨_,rfl⟩
 have hnl5:0 < nl∧nl ≤ 5:=by rw [hnl];exact ⟨hok.n0,hok.n5⟩
 have hnk3:0 < nk∧nk ≤ 3:=by rw [hnk];exact ⟨hok.f0,hok.f3⟩
 have hd6:=hok.d6
 obtain ⟨E,hE⟩:∃ E,E = truN b (-1) (-1):=⟨_,rfl⟩
 obtain ⟨N,hN⟩:∃ N,N = E.length:=⟨_,rfl⟩
 have hNe:N = (b.ends (-1) 0).length:=by rw [hN,hE,truN_len b hok,ends_neg b (-1) 0]
 have hel:∀ e ∈ E,e.length = nk * nl∧∀ x ∈ e,-1000 ≤ x∧x ≤ 1000:=fun e he => by rw [hnk,hnl];exact tru_elt hok (by rw [← hE];exact he)
 obtain ⟨x0,x1,x2,x3,x4⟩:=blk5 bW
 unfold Hb.vm at x1
 unfold Hb.vk at x2
 unfold Hb.vh at x3
 unfold Hb.vd at x4
 rw [← hnl] at x1
 rw [← hnk] at x2
 have htr:=truths_any b hok (-1) (-1) W hiW hzW
 unfold Hb.v Hb.vh at htr
 rw [← hnl,← hnk,← hE] at htr
 have HW:=Lib.hid (And.intro bW (And.intro hiW (And.intro hzW (And.intro hBW (And.intro hck (And.intro hok (And.intro hnl (And.intro hnk (And.intro hE (And.intro hN (And.intro hNe hel)))))))))))
 clear hW hB hB2 hO bW hiW hzW hBW hck hok hnl hnk hE hN hNe hel
 go_upto_region 3 with (go_at_call 28;(with_reducible refine htr.mono ?_);rintro e w3 ⟨⟨vE,rfl,hoE⟩,hb3⟩)
 obtain ⟨AE,cE,rfl,-,hcE,hmE⟩:=hoE.form
 rw [← HW.out.2.2.2.2.2.2.2.2.2.1] at hcE ⊢
 have bx3:=bheap HW.out.1 hb3 (Nat.le_refl _)
 have hi3:=HW.out.2.1.below hb3 (Nat.le_refl _)
 have hts:=Truths_any b w3 hi3
 unfold TruthsR Hb.v at hts
 rw [if_pos HW.out.2.2.2.2.1,HW.out.2.2.2.2.1,← HW.out.2.2.2.2.2.2.2.2.2.2.1,← HW.out.2.2.2.2.2.2.1,← HW.out.2.2.2.2.2.2.2.1] at hts
 clear x0 x1 x2 x3 x4 htr
 obtain ⟨x0,x1,x2,x3,x4⟩:=blk5 bx3
 unfold Hb.vm at x1
 unfold Hb.vk at x2
 rw [← HW.out.2.2.2.2.2.2.1] at x1
 rw [← HW.out.2.2.2.2.2.2.2.1] at x2
 have H3:=Lib.hid (And.intro hoE (And.intro hb3 (And.intro bx3 hi3)))
 clear hoE hb3 bx3 hi3
 go_upto_region 4 with (go_at_call 13;(with_reducible refine hts.mono ?_);rintro e w4 ⟨rfl,hb4⟩)
 have bx4:=bheap H3.out.2.2.1 hb4 (Nat.le_refl _)
 have hi4:=H3.out.2.2.2.below hb4 (Nat.le_refl _)
 have hha:=Has_any b w4 hi4
 obtain ⟨ae,hae⟩:∃ ae,ae = askE b:=⟨_,rfl⟩
 unfold Hb.v at hha
 rw [← HW.out.2.2.2.2.2.2.1,← HW.out.2.2.2.2.2.2.2.1] at hha
 have HAE:=Lib.hid hae
 clear x0 x1 x2 x3 x4 hts hae
 obtain ⟨x0,x1,x2,x3,x4⟩:=blk5 bx4
 unfold Hb.vm at x1
 unfold Hb.vk at x2
 rw [← HW.out.2.2.2.2.2.2.1] at x1
 rw [← HW.out.2.2.2.2.2.2.2.1] at x2
 have e0:((N:Int) != (N:Int)) = false:=by simp
 have H4:=Lib.hid (And.intro hb4 (And.intro bx4 hi4))
 clear hb4 bx4 hi4
 go_upto_region 7 with (go_at_call 29;(with_reducible refine hha.mono ?_);rintro e w5 ⟨⟨vT,rfl,hoT⟩,hb5⟩;rw [← HAE.out])
 have bx5:=bheap H4.out.2.1 hb5 (Nat.le_refl _)
 have hi5:=H4.out.2.2.below hb5 (Nat.le_refl _)
 have how:=Owns_any b w5 hi5
 unfold Hb.v at how
 rw [← HW.out.2.2.2.2.2.2.1,← HW.out.2.2.2.2.2.2.2.1] at how
 clear x0 x1 x2 x3 x4 hha e0
 obtain ⟨x0,x1,x2,x3,x4⟩:=blk5 bx5
 unfold Hb.vm at x1
 unfold Hb.vk at x2
 rw [← HW.out.2.2.2.2.2.2.1] at x1
 rw [← HW.out.2.2.2.2.2.2.2.1] at x2
 have H5:=Lib.hid (And.intro hoT (And.intro hb5 (And.intro bx5 hi5)))
 clear hoT hb5 bx5 hi5
 go_upto_region 8 with (go_at_call 30;(with_reducible refine how.mono ?_);rintro e w6 ⟨⟨vP,rfl,hoP⟩,hb6⟩;rw [← HAE.out])
 have bx6:=bheap H5.out.2.2.1 hb6 (Nat.le_refl _)
 have hi6:=H5.out.2.2.2.below hb6 (Nat.le_refl _)
 have hto:=Total_any b w6 hi6
 unfold Hb.v at hto
 rw [← HW.out.2.2.2.2.2.2.1,← HW.out.2.2.2.2.2.2.2.1] at hto
 clear x0 x1 x2 x3 x4 how
 obtain ⟨x0,x1,x2,x3,x4⟩:=blk5 bx6
 unfold Hb.vm at x1
 unfold Hb.vk at x2
 rw [← HW.out.2.2.2.2.2.2.1] at x1
 rw [← HW.out.2.2.2.2.2.2.2.1] at x2
 have H6:=Lib.hid (And.intro hoP (And.intro hb6 (And.intro bx6 hi6)))
 clear hoP hb6 bx6 hi6
 go_upto_region 9 with (go_at_call 31;(with_reducible refine hto.mono ?_);rintro e w7 ⟨⟨vM,rfl,hoM⟩,hb7⟩;rw [← HAE.out])
 clear x0 x1 x2 x3 x4 hto
 have hb47:Below w4.heap.size w4 w7:=H5.out.2.1.trans ((H6.out.2.1.trans (hb7.mono H6.out.2.1.size)).mono H5.out.2.1.size)
 have hb37:Below w3.heap.size w3 w7:=H4.out.1.trans (hb47.mono H4.out.1.size)
 have hB7:Below w.heap.size w w7:=HW.out.2.2.2.1.trans ((H3.out.2.1.trans (hb37.mono H3.out.2.1.size)).mono HW.out.2.2.2.1.size)
 have bx7:=bheap H6.out.2.2.1 hb7 (Nat.le_refl _)
 have hi7:=H6.out.2.2.2.below hb7 (Nat.le_refl _)
 have hE7:=H3.out.1.below hb37 (Nat.le_refl _)
 have hP7:=H6.out.1.below hb7 (Nat.le_refl _)
 have hT7:=H5.out.1.below (H6.out.2.1.trans (hb7.mono H6.out.2.1.size)) (Nat.le_refl _)
 rcases askE_two HW.out.2.2.2.2.1 with ⟨ha,hne⟩ | ⟨ha,hno⟩
 ·have hN0:0 < N:=by
   rw [HW.out.2.2.2.2.2.2.2.2.2.2.1]
   exact List.length_pos_iff.2 hne
  have hcl:=consL HW.out.2.2.2.2.1 ha
  have hTR:hasR b = hasL (b.ends (-1) 0) b.l.length b.ks.length:=by unfold hasR;rw [if_pos ha]
  have hPR:ownsR b = ownsL (b.ends (-1) 0) b.l.length:=by unfold ownsR;rw [if_pos ha]
  have hMR:totalR b = totalL (b.ends (-1) 0) b.ks.length:=by unfold totalR;rw [if_pos ha]
  obtain ⟨hTl,hTr⟩:=has_hi HW.out.2.2.2.2.1 ha
  have hPl:=hcl.ol
  have hMl:=hcl.tl
  rw [← HW.out.2.2.2.2.2.2.1] at hPl
  rw [← HW.out.2.2.2.2.2.2.2.1] at hTl hMl
  obtain ⟨AT,cT,rfl,hTb,hTc,hTm⟩:=hT7.form lenRn
  obtain ⟨AP,cP,rfl,hPs,hPc,hPm⟩:=hP7.form lenRn
  obtain ⟨AM,cM,rfl,hMs,hMc,hMm⟩:=hoM.form lenRn
  rw [hTl] at hTb hTc ⊢
  rw [hPl] at hPs hPc ⊢
  rw [hMl] at hMs hMc ⊢
  have hNb:N < 4294967296:=by
   have h1:=addsE_len (trG b.t b.l (-1) (-1) b.ds 0 b.hs) []
   have h2:=trG_len (t:=b.t) (deed:=-1) (owner:=-1) HW.out.2.2.2.2.2.1.n5 b.ds 0 b.hs (nf:=b.ks.length) HW.out.2.2.2.2.2.1.dI
   have h3:=Nat.pow_le_pow_right (show 0 < 35 by decide) hd6
   have h4:35 ^ 6 = 1838265625:=by decide
   have h5:=HW.out.2.2.2.2.2.2.2.2.2.1
   rw [HW.out.2.2.2.2.2.2.2.2.1] at h5
   unfold truN at h5
   rw [List.length_nil] at h1
   omega
  obtain ⟨x0,x1,x2,x3,x4⟩:=blk5 bx7
  unfold Hb.vm at x1
  unfold Hb.vk at x2
  rw [← HW.out.2.2.2.2.2.2.1] at x1
  rw [← HW.out.2.2.2.2.2.2.2.1] at x2
  have hBl7:=heap_lt bx7
  have ha0:ae = 0:=HAE.out.trans ha
  subst ha0
  have e1:((nk:Int) != (nk:Int)) = false:=by simp
  have e2:((nl:Int) != (nl:Int)) = false:=by simp
  have i0:((N:Int) == 0) = false:=beq_eq_false_iff_ne.2 (by omega)
  have H7:=Lib.hid (And.intro bx7 (And.intro hi7 (And.intro hE7 (And.intro hTb (And.intro hPs (And.intro hMs (And.intro hB7 (And.intro hcl (And.intro hTr hPR)))))))))
  clear bx7 hi7 hE7 hTb hPs hMs hB7 hcl hTr hPR hT7 hP7 hoM hb7 hb37 hb47 hTl hPl hMl hne
  have HTM:=Lib.hid (And.intro hTR hMR)
  clear hTR hMR ha
  go_upto_region 11 with (fail)
  go_quiet (fail)
  go_upto_region 16 with (fail)
  obtain ⟨w8,hw8⟩:∃ W,W = w7.drewN nq:=⟨_,rfl⟩
  rw [← hw8]
  have hb8:Below w7.heap.size w7 w8:=by rw [hw8];exact below_drewN (Below.refl _ _) nq
  have bx8:=bheap H7.out.1 hb8 (Nat.le_refl _)
  have hi8:=H7.out.2.1.below hb8 (Nat.le_refl _)
  clear hw8 x0 x1 x2 x3 x4 e1 e2 i0
  obtain ⟨x0,x1,x2,x3,x4⟩:=blk5 bx8
  unfold Hb.vd at x4
  have hBl8:=heap_lt bx8
  have H8:=Lib.hid (And.intro bx8 (And.intro hi8 hb8))
  clear bx8 hi8 hb8 x0 x1 x2 x3
  have hdm:=H8.out.2.1.dm
  have hdc:=H8.out.2.1.dc
  go_loopg [14,15] b.ds.length (fun g v14 v15 wr => ∃ i:Nat,i + g = b.ds.length∧v15 = .int .i64 i∧v14 = .bool ((b.ds.take i).any doubtB)∧w8 = wr)
  case atStart => exact ⟨0,by omega,rfl,rfl,rfl⟩
  case round =>
   obtain ⟨i,hi,rfl,rfl,rfl⟩:=hrel
   obtain ⟨db,hdb⟩:∃ db,db = (b.ds.take i).any doubtB:=⟨_,rfl⟩
   rw [← hdb]
   by_cases hlt:i < b.ds.length
   ·obtain ⟨b4,o4,d,eAd,hb4,hd,p0,-⟩:=Deeds.get H8.out.2.1.d hlt
    have hnx:(b.ds.take (i + 1)).any doubtB = (db || doubtB d):=by
     rw [List.take_add_one,hd,List.any_append,← hdb]
     simp
    rw [eAd] at x4
    have i1:(i:Int) < (b.ds.length:Int):=by omega
    have HI:=Lib.hid (And.intro hi hnx)
    clear hi hnx hdb hd
    cases db
    ·by_cases h4:d.kind = 4
     ·rw [h4] at p0
      have HD:=Lib.hid (show doubtB d = true by unfold doubtB;simp [h4])
      clear h4
      go_wp2_with fail
      go_roundg (gk - 1)
      case measure => have:=HI.out.1;omega
      case rel => exact ⟨i + 1,by have:=HI.out.1;omega,by go_num,by rw [HI.out.2,HD.out];rfl,rfl⟩
     ·by_cases h5:d.kind = 5
      ·rw [h5] at p0
       have HD:=Lib.hid (show doubtB d = true by unfold doubtB;simp [h5])
       clear h4 h5
       go_wp2_with fail
       go_roundg (gk - 1)
       case measure => have:=HI.out.1;omega
       case rel => exact ⟨i + 1,by have:=HI.out.1;omega,by go_num,by rw [HI.out.2,HD.out];rfl,rfl⟩
      ·have HD:=Lib.hid (show doubtB d = false by unfold doubtB;simp [h4,h5])
       have k4:(d.kind == 4) = false:=beq_eq_false_iff_ne.2 h4
       have k5:(d.kind == 5) = false:=beq_eq_false_iff_ne.2 h5
       clear h4 h5
       go_wp2_with fail
       go_roundg (gk - 1)
       case measure => have:=HI.out.1;omega
       case rel => exact ⟨i + 1,by have:=HI.out.1;omega,by go_num,by rw [HI.out.2,HD.out];rfl,rfl⟩
    ·go_wp2_with fail
     go_roundg (gk - 1)
     case measure => have:=HI.out.1;omega
     case rel => exact ⟨i + 1,by have:=HI.out.1;omega,by go_num,by rw [HI.out.2];rfl,rfl⟩
   ·obtain rfl:i = b.ds.length:=by omega
    have hs:db = false→N ≤ 1:=fun h => by
     rw [List.take_of_length_le (Nat.le_refl _),h] at hdb
     have h5:=HW.out.2.2.2.2.2.2.2.2.2.1
     rw [HW.out.2.2.2.2.2.2.2.2.1] at h5
     rw [h5]
     refine truN_sure HW.out.2.2.2.2.2.1 fun d hd => ?_
     have:=List.any_eq_false.1 hdb.symm d hd
     unfold doubtB at this
     simp at this
     exact this
    clear hdb hi hlt
    go_upto_region 19 with (fail)
    clear x4
    refine all_sure w8 N db _ _ _ _ _ _ _ _ _ _ _ _ _ _ _ _ _ _ _ _ _ _ _ _ _ _ _ _ _ _ _ _ _ _ _ _ _ _ _ _ _ _ _ _ _ _ _ _ _ _ _ _ _ _ _ _ _ _ _ _ _ _ _ _ _ _ _ _ _ _ _ _ _ _ _ _ _ _ _ _ _ _ _ _ _ _ _ _ _ _ _ _ _ _ _ _ _ _ _ _ _ _ _ _ _ _ _ _ _ _ _ _ _ _ _ _ _ _ _ _ _ _ _ _ _ _ _ _ _ _ _ _ _ _ _ _ _ _ _ _ _ _ _ _ _ _ _ _ _ _ _ _ _ _ _ _ _ _ _ _ _ _ _ _ _ _ _ _ _ _ _ _ _ _ _ _ _ _ _ _ _ _ _ _ _ _ _ _ _ _ _ _ _ _ _ _ _ _ _ _ _ _ _ _ _ _ _ _ _ _ _ _ _ _ _ _ _ _ _ _ _ _ _ _ _ _ _ _ _ _ _ _ _ _ _ _ _ _ _ _ _ _ _ _ _ _ _ _ _ _ _ _ _ _ _ _ _ _ _ _ _ _ _ _ _ _ _ _ _ _ _ _ _ _ _ _ _ _ _ _ _ _ _ _ _ _ _ _ _ _ _ _ _ _ _ _ _ _ _ _ _ _ _ _ _ _ hs ?_
    intro x144 x145 x146 x147 x148
    clear hs
    go_upto_region 22 with (fail)
    go_loopg [16] nk (fun g v16 wr => ∃ f:Nat,f + g = nk∧v16 = .int .i64 f∧Below w8.heap.size w8 wr)
    case atStart => exact ⟨0,by omega,rfl,Below.refl _ _⟩
    case round =>
     obtain ⟨f,hf,rfl,hb9⟩:=hrel
     obtain ⟨g1,rfl⟩:∃ g1:Nat,g1 = gk:=⟨_,rfl⟩
     obtain ⟨w9,hw9⟩:∃ W:World,W = wr:=⟨_,rfl⟩
     rw [← hw9] at hb9 ⊢
     clear hw9
     have hb79:Below w7.heap.size w7 w9:=H8.out.2.2.trans (hb9.mono H8.out.2.2.size)
     by_cases hlf:f < nk
     ·obtain ⟨fn,hfn⟩:∃ q:Nat,q = f * nl:=⟨_,rfl⟩
      have hfn1:(f:Int) * (nl:Int) = (fn:Int):=by rw [hfn,Int.natCast_mul]
      have hfn2:((f:Int) + 1) * (nl:Int) = (fn:Int) + (nl:Int):=by rw [Int.add_mul,hfn1,Int.one_mul]
      have hfn10:fn ≤ 10:=by rw [hfn];exact Nat.le_trans (Nat.mul_le_mul (show f ≤ 2 by omega) hnl5.2) (by decide)
      have hfle:fn + nl ≤ nk * nl:=by rw [hfn,← Nat.succ_mul];exact Nat.mul_le_mul_right _ hlf
      have i1:(f:Int) < (nk:Int):=by omega
      have HF:=Lib.hid (And.intro hf (And.intro hb9 (And.intro hb79 (And.intro hfn hfle))))
      have hsz9:=hb79.size
      clear hf hb9 hb79 hfn hfle
      go_upto_region 26 with (fail)
      go_loopg [17,18] N (fun g v17 v18 wr => ∃ i:Nat,i + g = N∧v18 = .int .i64 i∧OwnI wr w9.heap.size v17 ((E.take i).map (totF nl f))∧Below w9.heap.size w9 wr)
      case atStart => exact ⟨0,by omega,rfl,Own.nil_,Below.refl _ _⟩
      case round =>
       obtain ⟨i,hi,rfl,hown,hb⟩:=hrel
       by_cases hli:i < N
       ·-- CUT T1
        obtain ⟨b1,o1,cap,B1,en,c1,ev,hen,u1,hri,hrc,hrm,-⟩:=(H7.out.2.2.1.below (HF.out.2.2.1.trans (hb.mono HF.out.2.2.1.size)) (Nat.le_refl _)).get (k:=i) (by rw [← HW.out.2.2.2.2.2.2.2.2.2.1];exact hli)
        cases ev
        obtain ⟨hel1,hel2⟩:=HW.out.2.2.2.2.2.2.2.2.2.2.2 en (List.mem_of_getElem? hen)
        have hfe:fn + nl ≤ en.length:=by rw [hel1];exact HF.out.2.2.2.2
        obtain ⟨bq,oq,y0,rfl,hbq,-,-⟩:=Ints.get hri (show 0 < en.length by omega)
        have hsub:=hri.subA (q:=fn) (k:=nl) hfe
        have htt:=total_any (some ⟨bq,oq + fn,none⟩) nl (c1 - fn) _ wr hsub (by omega) (fun x hx => by have:=hel2 x (List.mem_of_mem_drop (List.mem_of_mem_take hx));omega)
        obtain ⟨S,hS⟩:∃ S,S = ((en.drop fn).take nl).sum:=⟨_,rfl⟩
        have hST:totF nl f en = S:=by rw [hS,HF.out.2.2.2.1];rfl
        rw [← hS] at htt
        obtain ⟨el,hell⟩:∃ el,el = en.length:=⟨_,rfl⟩
        rw [← hell] at u1 hrc hfe
        have hbl1:=cell_lt u1
        have i2:(i:Int) < (N:Int):=by omega
        have hll:((E.take i).map (totF nl f)).length < 4294967296:=by rw [List.length_map,List.length_take];omega
        have hszr:=hb.size
        have HI:=Lib.hid (And.intro hi (And.intro hown (And.intro hb (And.intro hen hST))))
        clear hi hown hb hen hsub hS hST hell hri hel1 hel2
        go_wp2_with (first
         | (go_at_call 32;rw [show fn + nl - fn = nl by omega];(with_reducible refine htt.mono ?_);rintro e wt ⟨rfl,hwt⟩;rw [← hwt];clear hwt wt)
         | (at_builtin;refine wp_app okInt rfl (.tmp 160) (.tmp 174) rfl w9.heap.size _ ((E.take i).map (totF nl f)) S _ rfl rfl rfl rfl (one_eInt _) HI.out.2.1 hll ?_ ?_ ?_;(omega);(omega);intro v' w10 hown10 hb10 _ hz10;have H10:=Lib.hid (And.intro hown10 hb10);clear hown10 hb10))
        go_roundg (gk - 1)
        case measure => have:=HI.out.1;omega
        case rel =>
         refine ⟨i + 1,by have:=HI.out.1;omega,by go_num,?_,HI.out.2.2.1.trans H10.out.2⟩
         rw [take_map _ HI.out.2.2.2.1,HI.out.2.2.2.2]
         exact H10.out.1
       ·obtain rfl:i = N:=by omega
        rw [List.take_of_length_le (by rw [← HW.out.2.2.2.2.2.2.2.2.2.1];exact Nat.le_refl _)] at hown
        obtain ⟨AS,cS,rfl,hsS,hcS,hmS⟩:=hown.form lenInt
        have hlS:(E.map (totF nl f)).length = i:=by rw [List.length_map,← HW.out.2.2.2.2.2.2.2.2.2.1]
        rw [hlS] at hsS ⊢
        have hb7:=HF.out.2.2.1.trans (hb.mono HF.out.2.2.1.size)
        obtain ⟨bT,oT,BR,row,cR,eT,hbT,hrow,u1,hrR,hrc,hrm⟩:=(H7.out.2.2.2.1.below hb7 (Nat.le_refl _)).get hlf
        have hrl:=(H7.out.2.2.2.2.2.2.2.2.1 row (List.mem_of_getElem? hrow)).1
        rw [hrl,← HW.out.2.2.2.2.2.2.1] at u1 hrc
        obtain ⟨bM,oM,r,eM,hbM,hr,m0,m1⟩:=Rns.get (H7.out.2.2.2.2.2.1.below hb7 (Nat.le_refl _)) hlf
        have hrr:r = rangeE E (totF nl f):=by
         have hfk:f < b.ks.length:=by rw [← HW.out.2.2.2.2.2.2.2.1];exact hlf
         rw [HTM.out.2] at hr
         unfold totalL at hr
         rw [List.getElem?_map,List.getElem?_range hfk] at hr
         rw [← Option.some.inj hr,HW.out.2.2.2.2.2.2.2.2.1,HW.out.2.2.2.2.2.2.1]
         exact (tot_tru HW.out.2.2.2.2.2.1 hfk).symm
        have HII:=Lib.hid (show Ints wr AS i (E.map (totF nl f))∧r.lo = minL (E.map (totF nl f))∧r.hi = maxL (E.map (totF nl f)) from ⟨hsS,by rw [hrr];rfl,by rw [hrr];rfl⟩)
        have HRW:=Lib.hid (And.intro hrow (And.intro hb hrl))
        have hi63:i ≤ 9223372036854775807:=by omega
        subst eT eM
        clear hsS hrr hr hrow hb hrl hrR hown hlS hb7
        go_upto_region 29 with (fail)
        refine all_tot wr bT oT nk cT bM oM cM nl f i cS cR AS BR (E.map (totF nl f)) r.lo r.hi _ _ _ _ _ _ _ _ _ _ _ _ _ _ _ _ _ _ _ _ _ _ _ _ _ _ _ _ _ _ _ _ _ _ _ _ _ _ _ _ _ _ _ _ _ _ _ _ _ _ _ _ _ _ _ _ _ _ _ _ _ _ _ _ _ _ _ _ _ _ _ _ _ _ _ _ _ _ _ _ _ _ _ _ _ _ _ _ _ _ _ _ _ _ _ _ _ _ _ _ _ _ _ _ _ _ _ _ _ _ _ _ _ _ _ _ _ _ _ _ _ _ _ _ _ _ _ _ _ _ _ _ _ _ _ _ _ _ _ _ _ _ _ _ _ _ _ _ _ _ _ _ _ _ _ _ _ _ _ _ _ _ _ _ _ _ _ _ _ _ _ _ _ _ _ _ _ _ _ _ _ _ _ _ _ _ _ _ _ _ _ _ _ _ _ _ _ _ _ _ _ _ _ _ _ _ _ _ _ _ _ _ _ _ _ _ _ _ _ _ _ _ _ _ _ _ _ _ _ _ _ _ _ _ _ _ _ _ _ _ _ _ _ _ _ _ _ _ _ _ _ _ _ _ _ _ _ _ _ _ _ _ _ _ _ _ _ _ _ _ _ _ _ _ _ _ _ _ _ _ _ _ _ _ _ _ _ _ _ _ _ _ _ _ _ _ _ _ _ _ _ _ _ HII hN0 hi63 u1 m0 m1 i1 hTc hTm hMc hMm hbT hbM ?_
        intro x176 x177 x178 x179 x180 x181 x182 x183 x184 x185 x186 x187 x188 x189 x190 w10 hb10
        have HA:=Lib.hid (HRW.out.2.1.trans (hb10.mono HRW.out.2.1.size))
        clear hb10 u1 m0 m1 hrc hrm hbM hbT
        go_upto_region 32 with (fail)
        go_loopg [19] nl (fun g v19 wr => ∃ o:Nat,o + g = nl∧v19 = .int .i64 o∧Below w9.heap.size w9 wr)
        case atStart => exact ⟨0,by omega,rfl,HA.out⟩
        case round =>
         obtain ⟨o,ho,rfl,hbo⟩:=hrel
         obtain ⟨g2,rfl⟩:∃ g2:Nat,g2 = gk:=⟨_,rfl⟩
         obtain ⟨w11,hw11⟩:∃ W:World,W = wr:=⟨_,rfl⟩
         rw [← hw11] at hbo ⊢
         clear hw11
         by_cases hlo:o < nl
         ·have hb711:Below w7.heap.size w7 w11:=HF.out.2.2.1.trans (hbo.mono HF.out.2.2.1.size)
          have i3:(o:Int) < (nl:Int):=by omega
          obtain ⟨fo,hfo⟩:∃ q:Nat,q = fn + o:=⟨_,rfl⟩
          have hfo1:(fn:Int) + (o:Int) = (fo:Int):=by omega
          have hfo2:fo < nk * nl:=by have:=HF.out.2.2.2.2;omega
          have hfoe:fo = f * nl + o:=by rw [hfo,HF.out.2.2.2.1]
          have HO:=Lib.hid (And.intro ho (And.intro hbo (And.intro hb711 (And.intro hfo2 hfoe))))
          clear ho hbo hb711 hfo hfo2 hfoe
          go_upto_region 36 with (fail)
          go_loopg [20,21] i (fun g v20 v21 wr => ∃ j:Nat,j + g = i∧v21 = .int .i64 j∧OwnI wr w11.heap.size v20 ((E.take j).map (hasF nl f o))∧Below w11.heap.size w11 wr)
          case atStart => exact ⟨0,by omega,rfl,Own.nil_,Below.refl _ _⟩
          case round =>
           obtain ⟨j,hj,rfl,hown,hb⟩:=hrel
           by_cases hlj:j < i
           ·-- CUT T2
            obtain ⟨b1,o1,cap,B1,en,c1,ev,hen,u1,hri,hrc,hrm,-⟩:=(H7.out.2.2.1.below (HO.out.2.2.1.trans (hb.mono HO.out.2.2.1.size)) (Nat.le_refl _)).get (k:=j) (by rw [← HW.out.2.2.2.2.2.2.2.2.2.1];exact hlj)
            cases ev
            obtain ⟨hel1,hel2⟩:=HW.out.2.2.2.2.2.2.2.2.2.2.2 en (List.mem_of_getElem? hen)
            have hfl:fo < en.length:=by rw [hel1];exact HO.out.2.2.2.1
            obtain ⟨bq,oq,x,rfl,hbq,hx,y⟩:=Ints.get hri hfl
            have hST:hasF nl f o en = x:=by unfold hasF;rw [← HO.out.2.2.2.2,List.getD_eq_getElem?_getD,hx];rfl
            obtain ⟨el,hell⟩:∃ el,el = en.length:=⟨_,rfl⟩
            rw [← hell] at u1 hrc hfl
            have hbl1:=cell_lt u1
            have i4:(j:Int) < (i:Int):=by omega
            have i5:(fo:Int) < (el:Int):=by omega
            have hll:((E.take j).map (hasF nl f o)).length < 4294967296:=by rw [List.length_map,List.length_take];omega
            have hszr:=hb.size
            have HI:=Lib.hid (And.intro hj (And.intro hown (And.intro hb (And.intro hen hST))))
            clear hj hown hb hen hST hell hri hel1 hel2 hx
            go_wp2_with (at_builtin;refine wp_app okInt rfl (.tmp 202) (.tmp 214) rfl w11.heap.size _ ((E.take j).map (hasF nl f o)) x _ rfl rfl rfl rfl (one_eInt _) HI.out.2.1 hll ?_ ?_ ?_;(omega);(omega);intro v' w12 hown12 hb12 _ hz12;have H12:=Lib.hid (And.intro hown12 hb12);clear hown12 hb12)
            go_roundg (gk - 1)
            case measure => have:=HI.out.1;omega
            case rel =>
             refine ⟨j + 1,by have:=HI.out.1;omega,by go_num,?_,HI.out.2.2.1.trans H12.out.2⟩
             rw [take_map _ HI.out.2.2.2.1,HI.out.2.2.2.2]
             exact H12.out.1
           ·obtain rfl:j = i:=by omega
            rw [List.take_of_length_le (by rw [← HW.out.2.2.2.2.2.2.2.2.2.1];exact Nat.le_refl _)] at hown
            obtain ⟨AQ,cQ,rfl,hsQ,hcQ,hmQ⟩:=hown.form lenInt
            have hlS:(E.map (hasF nl f o)).length = j:=by rw [List.length_map,← HW.out.2.2.2.2.2.2.2.2.2.1]
            rw [hlS] at hsQ ⊢
            have hb7:=HO.out.2.2.1.trans (hb.mono HO.out.2.2.1.size)
            obtain ⟨bT',oT',BR',row',cR',eT,hbT,hrow',u1,hrR,hrc,hrm⟩:=(H7.out.2.2.2.1.below hb7 (Nat.le_refl _)).get hlf
            cases eT
            rw [HRW.out.1] at hrow'
            cases hrow'
            rw [HRW.out.2.2,← HW.out.2.2.2.2.2.2.1] at u1 hrR hrc
            obtain ⟨bR,oR,r',rfl,hbR,hr',m0,m1⟩:=Rns.get hrR hlo
            have hrr:r' = rangeE E (hasF nl f o):=by
             have hfk:f < b.ks.length:=by rw [← HW.out.2.2.2.2.2.2.2.1];exact hlf
             have hol:o < b.l.length:=by rw [← HW.out.2.2.2.2.2.2.1];exact hlo
             have hrow:=HRW.out.1
             rw [HTM.out.1] at hrow
             unfold hasL at hrow
             rw [List.getElem?_map,List.getElem?_range hfk] at hrow
             have e9:=Option.some.inj hrow
             rw [← e9,List.getElem?_map,List.getElem?_range hol] at hr'
             rw [← Option.some.inj hr',HW.out.2.2.2.2.2.2.2.2.1,HW.out.2.2.2.2.2.2.1]
             exact (has_tru HW.out.2.2.2.2.2.1 hfk hol).symm
            have HII2:=Lib.hid (show Ints wr AQ j (E.map (hasF nl f o))∧r'.lo = minL (E.map (hasF nl f o))∧r'.hi = maxL (E.map (hasF nl f o)) from ⟨hsQ,by rw [hrr];rfl,by rw [hrr];rfl⟩)
            have HBB:=Lib.hid hb
            clear hsQ hrr hr' hrR hb hown hlS hb7
            go_upto_region 39 with (fail)
            refine all_has wr bT oT nk cT bR oR nl cR' f o j cQ AQ (E.map (hasF nl f o)) r'.lo r'.hi _ _ _ _ _ _ _ _ _ _ _ _ _ _ _ _ _ _ _ _ _ _ _ _ _ _ _ _ _ _ _ _ _ _ _ _ _ _ _ _ _ _ _ _ _ _ _ _ _ _ _ _ _ _ _ _ _ _ _ _ _ _ _ _ _ _ _ _ _ _ _ _ _ _ _ _ _ _ _ _ _ _ _ _ _ _ _ _ _ _ _ _ _ _ _ _ _ _ _ _ _ _ _ _ _ _ _ _ _ _ _ _ _ _ _ _ _ _ _ _ _ _ _ _ _ _ _ _ _ _ _ _ _ _ _ _ _ _ _ _ _ _ _ _ _ _ _ _ _ _ _ _ _ _ _ _ _ _ _ _ _ _ _ _ _ _ _ _ _ _ _ _ _ _ _ _ _ _ _ _ _ _ _ _ _ _ _ _ _ _ _ _ _ _ _ _ _ _ _ _ _ _ _ _ _ _ _ _ _ _ _ _ _ _ _ _ _ _ _ _ _ _ _ _ _ _ _ _ _ _ _ _ _ _ _ _ _ _ _ _ _ _ _ _ _ _ _ _ _ _ _ _ _ _ _ _ _ _ _ _ _ _ _ _ _ _ _ _ _ _ _ _ _ _ _ _ _ _ _ _ _ _ _ _ _ _ _ _ _ _ _ _ _ _ _ _ _ _ _ _ _ _ _ _ HII2 hN0 hi63 u1 m0 m1 i1 i3 hTc hTm hrc hrm hbT hbR ?_
            intro x216 x217 x218 x219 x220 x221 x222 x223 x224 w12 hb12
            have H12:=Lib.hid (HBB.out.trans (hb12.mono HBB.out.size))
            clear hb12 u1 m0 m1 hrc hrm hbR hbT
            go_wp2_with fail
            go_roundg (g2 - 1)
            case measure => have:=HO.out.1;omega
            case rel => exact ⟨o + 1,by have:=HO.out.1;omega,by go_num,HO.out.2.1.trans (H12.out.mono HO.out.2.1.size)⟩
         ·obtain rfl:o = nl:=by omega
          have HO:=Lib.hid hbo
          clear hbo ho
          go_wp2_with fail
          go_roundg (g1 - 1)
          case measure => have:=HF.out.1;omega
          case rel => exact ⟨f + 1,by have:=HF.out.1;omega,by go_num,HF.out.2.1.trans (HO.out.mono HF.out.2.1.size)⟩
     ·obtain rfl:f = nk:=by omega
      have HF:=Lib.hid (And.intro hb9 hb79)
      clear hb9 hb79 hf
      go_upto_region 42 with (fail)
      go_loopg [22] nl (fun g v22 wr => ∃ o:Nat,o + g = nl∧v22 = .int .i64 o∧Below w8.heap.size w8 wr)
      case atStart => exact ⟨0,by omega,rfl,HF.out.1⟩
      case round =>
       obtain ⟨o,ho,rfl,hbo⟩:=hrel
       obtain ⟨g2,rfl⟩:∃ g2:Nat,g2 = gk:=⟨_,rfl⟩
       obtain ⟨w11,hw11⟩:∃ W:World,W = wr:=⟨_,rfl⟩
       rw [← hw11] at hbo ⊢
       clear hw11
       by_cases hlo:o < nl
       ·have hb711:Below w7.heap.size w7 w11:=H8.out.2.2.trans (hbo.mono H8.out.2.2.size)
        have i3:(o:Int) < (nl:Int):=by omega
        have HO:=Lib.hid (And.intro ho (And.intro hbo hb711))
        clear ho hbo hb711
        go_upto_region 46 with (fail)
        go_loopg [23,24] N (fun g v23 v24 wr => ∃ j:Nat,j + g = N∧v24 = .int .i64 j∧OwnI wr w11.heap.size v23 ((E.take j).map fun e => ownF nl o e f)∧Below w11.heap.size w11 wr)
        case atStart => exact ⟨0,by omega,rfl,Own.nil_,Below.refl _ _⟩
        case round =>
         obtain ⟨j,hj,rfl,hown,hb⟩:=hrel
         obtain ⟨g3,rfl⟩:∃ g3:Nat,g3 = gk:=⟨_,rfl⟩
         obtain ⟨w12,hw12⟩:∃ W:World,W = wr:=⟨_,rfl⟩
         rw [← hw12] at hown hb ⊢
         clear hw12
         have hb712:Below w7.heap.size w7 w12:=HO.out.2.2.trans (hb.mono HO.out.2.2.size)
         by_cases hlj:j < N
         ·-- CUT T3
          obtain ⟨b1,o1,cap,B1,en,c1,ev,hen,u1,hri,hrc,hrm,-⟩:=(H7.out.2.2.1.below hb712 (Nat.le_refl _)).get (k:=j) (by rw [← HW.out.2.2.2.2.2.2.2.2.2.1];exact hlj)
          cases ev
          obtain ⟨hel1,hel2⟩:=HW.out.2.2.2.2.2.2.2.2.2.2.2 en (List.mem_of_getElem? hen)
          obtain ⟨el,hell⟩:∃ el,el = en.length:=⟨_,rfl⟩
          rw [← hell] at u1 hrc hri
          have hbl1:=cell_lt u1
          have i4:(j:Int) < (N:Int):=by omega
          have hszr:=hb.size
          have HI:=Lib.hid (And.intro hj (And.intro hown (And.intro hb (And.intro hen (And.intro hell (And.intro hel1 (And.intro hel2 hri)))))))
          clear hj hown hb hen hell hri hel1 hel2 hb712
          go_upto_region 50 with (fail)
          go_loopg [25,26] f (fun g v25 v26 wr => ∃ q:Nat,q + g = f∧v26 = .int .i64 q∧v25 = .int .i64 (ownF nl o en q)∧w12 = wr)
          case atStart => exact ⟨0,by omega,rfl,rfl,rfl⟩
          case round =>
           obtain ⟨q,hq,rfl,rfl,rfl⟩:=hrel
           have hbS:=ownF_bd (n:=nl) (o:=o) HI.out.2.2.2.2.2.2.1 q
           obtain ⟨S,hS⟩:∃ S,S = ownF nl o en q:=⟨_,rfl⟩
           rw [← hS] at hbS
           rw [← hS]
           by_cases hlq:q < f
           ·obtain ⟨qn,hqn⟩:∃ x:Nat,x = q * nl:=⟨_,rfl⟩
            have hqn1:(q:Int) * (nl:Int) = (qn:Int):=by rw [hqn,Int.natCast_mul]
            obtain ⟨qo,hqo⟩:∃ x:Nat,x = qn + o:=⟨_,rfl⟩
            have hqo1:(qn:Int) + (o:Int) = (qo:Int):=by omega
            have hqle:qn + nl ≤ f * nl:=by rw [hqn,← Nat.succ_mul];exact Nat.mul_le_mul_right _ hlq
            have hqn10:qn ≤ 10:=by rw [hqn];exact Nat.le_trans (Nat.mul_le_mul (show q ≤ 2 by omega) hnl5.2) (by decide)
            have hqe:qo < el:=by rw [HI.out.2.2.2.2.1,HI.out.2.2.2.2.2.1];omega
            obtain ⟨bq,oq,x,rfl,hbq,hx,y⟩:=Ints.get HI.out.2.2.2.2.2.2.2 hqe
            have hxb:=HI.out.2.2.2.2.2.2.1 x (List.mem_of_getElem? hx)
            have hST:ownF nl o en (q + 1) = S + x:=by
             rw [hS]
             show ownF nl o en q + hasF nl q o en = _
             congr 1
             unfold hasF
             rw [← hqn,← hqo,List.getD_eq_getElem?_getD,hx]
             rfl
            have i5:(q:Int) < (f:Int):=by omega
            have i6:(qo:Int) < (el:Int):=by omega
            have HQ:=Lib.hid (And.intro hq hST)
            clear hq hST hS hqn hqo hqle hx hqe
            go_wp2_with fail
            go_roundg (gk - 1)
            case measure => have:=HQ.out.1;omega
            case rel => exact ⟨q + 1,by have:=HQ.out.1;omega,by go_num,by rw [HQ.out.2],rfl⟩
           ·have hqf:q = f:=by omega
            have hST:ownF nl o en f = S:=by rw [hS,hqf]
            have i5:¬ (q:Int) < (f:Int):=by omega
            have hll:((E.take j).map fun e => ownF nl o e f).length < 4294967296:=by rw [List.length_map,List.length_take];omega
            have HQ:=Lib.hid hST
            clear hS hST hqf hq hlq
            go_wp2_with (at_builtin;refine wp_app okInt rfl (.tmp 254) (.tmp 256) rfl w11.heap.size _ ((E.take j).map fun e => ownF nl o e f) S _ rfl rfl rfl rfl (one_eInt _) HI.out.2.1 hll ?_ ?_ ?_;(omega);(omega);intro v' w13 hown13 hb13 _ hz13;have H13:=Lib.hid (And.intro hown13 hb13);clear hown13 hb13)
            go_roundg (g3 - 1)
            case measure => have:=HI.out.1;omega
            case rel =>
             refine ⟨j + 1,by have:=HI.out.1;omega,by go_num,?_,HI.out.2.2.1.trans H13.out.2⟩
             rw [take_map _ HI.out.2.2.2.1,HQ.out]
             exact H13.out.1
         ·obtain rfl:j = N:=by omega
          rw [List.take_of_length_le (by rw [← HW.out.2.2.2.2.2.2.2.2.2.1];exact Nat.le_refl _)] at hown
          obtain ⟨AQ,cQ,rfl,hsQ,hcQ,hmQ⟩:=hown.form lenInt
          have hlS:(E.map fun e => ownF nl o e f).length = j:=by rw [List.length_map,← HW.out.2.2.2.2.2.2.2.2.2.1]
          rw [hlS] at hsQ ⊢
          have hol:o < b.l.length:=by rw [← HW.out.2.2.2.2.2.2.1];exact hlo
          obtain ⟨hs0,hg0,hsb,r,hr,hrb,e1,e2,e3⟩:=H7.out.2.2.2.2.2.2.2.1.se o hol
          have hrr:r = rangeE E (fun e => ownF nl o e f):=by
           rw [H7.out.2.2.2.2.2.2.2.2.2] at hr
           unfold ownsL at hr
           rw [List.getElem?_map,List.getElem?_range hol] at hr
           rw [← Option.some.inj hr,HW.out.2.2.2.2.2.2.2.2.1,HW.out.2.2.2.2.2.2.1,HW.out.2.2.2.2.2.2.2.1]
           exact (own_tru HW.out.2.2.2.2.2.1 hol).symm
          have hi12:=H7.out.2.1.below hb712 (Nat.le_refl _)
          have hsm:=Sum_any b o w12 hi12
          unfold SumR at hsm
          rw [hs0] at hsm
          obtain ⟨sv,hsv⟩:∃ sv,sv = sumR b o:=⟨_,rfl⟩
          rw [← hsv] at hsm e1 e2 hsb
          obtain ⟨gr,hgr⟩:∃ gr,gr = goneR b o:=⟨_,rfl⟩
          rw [← hgr] at e1 e2 e3
          have hg1:gr.lo = sv.first + sv.born + sv.bought - sv.sold - sv.eaten - r.hi:=by unfold hasS at e1 e2;omega
          have hg2:gr.hi = sv.first + sv.born + sv.bought - sv.sold - sv.eaten - r.lo:=by unfold hasS at e1 e2;omega
          have bx12:=bheap H7.out.1 hb712 (Nat.le_refl _)
          obtain ⟨y0,y1,y2,y3,y4⟩:=blk5 bx12
          have hBl12:=heap_lt bx12
          have HI:=Lib.hid (And.intro hsQ (And.intro hb (And.intro hr (And.intro hg0 (And.intro hgr (And.intro hg1 (And.intro hg2 (And.intro hrr (And.intro bx12 (And.intro hi12 hsb))))))))))
          have hj63:j ≤ 9223372036854775807:=by omega
          clear hsQ hb hr hg0 hgr hg1 hg2 hrr bx12 hi12 hs0 hsv e1 e2 e3 hown hlS hsb hb712
          go_upto_region 55 with (go_at_call 15;refine hsm.mono ?_;rintro e w13 ⟨rfl,hb13⟩;unfold smV)
          obtain ⟨S5,hS5⟩:∃ s,s = w13.heap.size:=⟨_,rfl⟩
          obtain ⟨U5,hU5⟩:∃ U,U = w13.alloc (Obj.cells #[Value.int .i64 sv.first,.int .i64 sv.born,.int .i64 sv.bought,.int .i64 sv.sold,.int .i64 sv.eaten] 46):=⟨_,rfl⟩
          rw [← hU5,← hS5]
          have hbU:Below w12.heap.size w12 U5:=by rw [hU5];exact bal hb13 (Nat.le_refl _) _
          have bS5:U5.heap[S5]? = some (smO sv.first sv.born sv.bought sv.sold sv.eaten):=by rw [hU5,hS5];exact alloc_at rfl
          have hgn:=Gone_any b o U5 (HI.out.2.2.2.2.2.2.2.2.2.1.below hbU (Nat.le_refl _))
          unfold GoneR at hgn
          rw [HI.out.2.2.2.1,← HI.out.2.2.2.2.1] at hgn
          have bxU:=bheap HI.out.2.2.2.2.2.2.2.2.1 hbU (Nat.le_refl _)
          clear hsm hb13 hU5 hS5 y0 y1 y2 y3 y4
          obtain ⟨y0,y1,y2,y3,y4⟩:=blk5 bxU
          have hBlU:=heap_lt bxU
          have H5':=Lib.hid (And.intro hbU bS5)
          clear hbU bS5 bxU
          go_upto_region 56 with (go_at_call 34;refine hgn.mono ?_;rintro e w14 ⟨rfl,hb14⟩)
          obtain ⟨S6,hS6⟩:∃ s,s = w14.heap.size:=⟨_,rfl⟩
          obtain ⟨V,hV⟩:∃ U,U = w14.alloc (Obj.cells #[Value.int .i64 gr.lo,.int .i64 gr.hi] 72):=⟨_,rfl⟩
          rw [← hV,← hS6]
          have hbV:Below U5.heap.size U5 V:=by rw [hV];exact bal hb14 (Nat.le_refl _) _
          have bS6:V.heap[S6]? = some (Obj.cells #[Value.int .i64 gr.lo,.int .i64 gr.hi] 72 (0,0)):=by rw [hV,hS6];exact alloc_at rfl
          have hbV12:Below w12.heap.size w12 V:=H5'.out.1.trans (hbV.mono H5'.out.1.size)
          have hbV11:Below w11.heap.size w11 V:=HI.out.2.1.trans (hbV12.mono HI.out.2.1.size)
          have hbV7:Below w7.heap.size w7 V:=HO.out.2.2.trans (hbV11.mono HO.out.2.2.size)
          obtain ⟨bP,oP,r',rfl,hbP,hr',m0,m1⟩:=Rns.get (H7.out.2.2.2.2.1.below hbV7 (Nat.le_refl _)) hlo
          rw [HI.out.2.2.1] at hr'
          cases hr'
          rw [HI.out.2.2.2.2.2.1,HI.out.2.2.2.2.2.2.1] at bS6
          have HGG:=Lib.hid bS6
          have HSS:Hid (V.heap[S5]? = some (Obj.cells #[.int .i64 sv.first,.int .i64 sv.born,.int .i64 sv.bought,.int .i64 sv.sold,.int .i64 sv.eaten] 46 (0,0))):=Lib.hid (bheap H5'.out.2 hbV (Nat.le_refl _))
          have HII3:=Lib.hid (show Ints V AQ j (E.map fun e => ownF nl o e f)∧r.lo = minL (E.map fun e => ownF nl o e f)∧r.hi = maxL (E.map fun e => ownF nl o e f) from ⟨HI.out.1.below hbV12 (Nat.le_refl _),by rw [HI.out.2.2.2.2.2.2.2.1];rfl,by rw [HI.out.2.2.2.2.2.2.2.1];rfl⟩)
          have HBB:Hid (∀ x ∈ [sv.first,sv.born,sv.bought,sv.sold,sv.eaten],-1000000 ≤ x∧x ≤ 1000000):=Lib.hid (fun x hx => by
           obtain ⟨a1,a2,a3,a4,a5⟩:=HI.out.2.2.2.2.2.2.2.2.2.2
           simp only [List.mem_cons,List.not_mem_nil,or_false] at hx
           rcases hx with rfl | rfl | rfl | rfl | rfl <;> omega)
          have HVB:=Lib.hid hbV11
          have hlo':-1000000 ≤ r.lo∧r.lo ≤ 1000000:=by omega
          have hhi':-1000000 ≤ r.hi∧r.hi ≤ 1000000:=by omega
          clear hV hS6 hbV hbV12 hbV11 hbV7 bS6 hgn hb14 y0 y1 y2 y3 y4 hrb
          refine all_own V bP oP nl cP o j cQ S5 S6 AQ (E.map fun e => ownF nl o e f) r.lo r.hi sv.first sv.born sv.bought sv.sold sv.eaten _ _ _ _ _ _ _ _ _ _ _ _ _ _ _ _ _ _ _ _ _ _ _ _ _ _ _ _ _ _ _ _ _ _ _ _ _ _ _ _ _ _ _ _ _ _ _ _ _ _ _ _ _ _ _ _ _ _ _ _ _ _ _ _ _ _ _ _ _ _ _ _ _ _ _ _ _ _ _ _ _ _ _ _ _ _ _ _ _ _ _ _ _ _ _ _ _ _ _ _ _ _ _ _ _ _ _ _ _ _ _ _ _ _ _ _ _ _ _ _ _ _ _ _ _ _ _ _ _ _ _ _ _ _ _ _ _ _ _ _ _ _ _ _ _ _ _ _ _ _ _ _ _ _ _ _ _ _ _ _ _ _ _ _ _ _ _ _ _ _ _ _ _ _ _ _ _ _ _ _ _ _ _ _ _ _ _ _ _ _ _ _ _ _ _ _ _ _ _ _ _ _ _ _ _ _ _ _ _ _ _ _ _ _ _ _ _ _ _ _ _ _ _ _ _ _ _ _ _ _ _ _ _ _ _ _ _ _ _ _ _ _ _ _ _ _ _ _ _ _ _ _ _ _ _ _ _ _ _ _ _ _ _ _ _ _ _ _ _ _ _ _ _ _ _ _ _ _ _ _ _ _ _ _ _ _ _ _ _ _ _ _ _ _ _ _ _ _ _ _ _ HII3 hN0 hj63 HSS HGG HBB hlo' hhi' m0 m1 i3 hPc hPm hbP ?_
          intro x270 x271 x272 x273 x274 x275 x276 x277 x278 x279 x280 x281 x282 x283 x284 x285 x286 x287 x288 x289 x290 x291 x292 x293 x294 x295 x296 x297 x298 x299 x300 x301 x302 x303 x304 w15 hb15
          have H15:=Lib.hid (HVB.out.trans (hb15.mono HVB.out.size))
          clear hb15 m0 m1
          go_wp2_with fail
          go_roundg (g2 - 1)
          case measure => have:=HO.out.1;omega
          case rel => exact ⟨o + 1,by have:=HO.out.1;omega,by go_num,HO.out.2.1.trans (H15.out.mono HO.out.2.1.size)⟩
       ·obtain rfl:o = nl:=by omega
        have HO:=Lib.hid (H7.out.2.2.2.2.2.2.1.trans ((H8.out.2.2.trans (hbo.mono H8.out.2.2.size)).mono H7.out.2.2.2.2.2.2.1.size))
        clear hbo ho
        go_wp2_with (go_at_call 8;(with_reducible refine (herding_any _).mono ?_);rintro e w12 ⟨rfl,hb12⟩)
        go_ret
        exact ⟨rfl,HO.out.trans (hb12.mono HO.out.size)⟩
 ·have hN0:N = 0:=by
   rw [HW.out.2.2.2.2.2.2.2.2.2.2.1,hno];rfl
  have ha11:ae = 11:=HAE.out.trans ha
  subst ha11 hN0
  have HB7:=Lib.hid hB7
  clear hB7 bx7 hi7 hE7 hP7 hT7 hoM hb7 hb37 hb47 ha hno
  go_wp2_with (go_at_call 8;(with_reducible refine (herding_any _).mono ?_);rintro e w8 ⟨rfl,hb8⟩)
  go_ret
  exact ⟨rfl,HB7.out.trans (hb8.mono HB7.out.size)⟩
end Go.Proofs.YtmennjmjakdkcaaGreat
