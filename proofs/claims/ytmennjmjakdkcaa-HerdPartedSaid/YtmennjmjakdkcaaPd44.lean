/- HerdParted 44: Herding, Given, EntP. -/
import Derived.Test.YtmennjmjakdkcaaPd42
import Derived.Test.YtmennjmjakdkcaaPd04
import Derived.Test.YtmennjmjakdkcaaPd36
import Derived.Test.YtmennjmjakdkcaaPd02
import Derived.Test.YtmennjmjakdkcaaPd43
import Derived.Test.YtmennjmjakdkcaaPd05
import Derived.Test.YtmennjmjakdkcaaPd10
namespace Go.Proofs.Ytmennjmjakdkcaa
open Go.RowKit
set_option linter.unusedVariables false
set_option linter.unusedSimpArgs false
theorem bk_ck : checkH 1 bkM [0,1] bkHs bkDs = 0:=by decide +kernel
theorem bk_n : (endsL 1 bkM bkHs bkDs (-1) 0).length = 5:=by decide +kernel
theorem bk_has : hasL (endsL 1 bkM bkHs bkDs (-1) 0) 3 2 = [[⟨6,7⟩,⟨1,2⟩,⟨0,0⟩],[⟨0,1⟩,⟨1,3⟩,⟨0,1⟩]]:=by decide +kernel
theorem bk_whose : whoseE ⟨1,none,0,bkM,none,0,[0,1],none,0,bkHs,none,0,bkDs⟩ 1 = 0 ∧ whoseTo ⟨1,none,0,bkM,none,0,[0,1],none,0,bkHs,none,0,bkDs⟩ 1 3 = [0,1]:=by decide +kernel
abbrev bkSs : List Sg:=[⟨3,false,false,0,-1⟩,⟨3,false,false,0,1⟩,⟨16,false,false,3,0⟩]
theorem bk_part : partE ⟨1,none,0,bkM,none,0,[0,1],none,0,bkHs,none,0,bkDs⟩ 1 bkSs = 0 ∧ partR ⟨1,none,0,bkM,none,0,[0,1],none,0,bkHs,none,0,bkDs⟩ 1 bkSs = [⟨0,1⟩,⟨1,2⟩,⟨1,1⟩]:=by decide +kernel
section
variable {w w' a b' : World} {base : Nat}
theorem Sl.bH {α : Type} {enc : α → List Value} {sz : Nat} {A : Option Addr} {n : Nat} {l : List α} (h : Sl enc sz w A n l) (hb : Hid (Below w.heap.size w w')) : Sl enc sz w' A n l:=h.below hb.out (Nat.le_refl _)
theorem GridA.bH {α : Type} {enc : α → List Value} {sz : Nat} {A : Option Addr} {n : Nat} {l : List (List α)} (h : GridA enc sz w A n l) (hb : Hid (Below w.heap.size w w')) : GridA enc sz w' A n l:=h.below hb.out (Nat.le_refl _)
theorem GridA.al {α : Type} {enc : α → List Value} {sz : Nat} {A : Option Addr} {n : Nat} {l : List (List α)} (h : GridA enc sz w A n l) (o : Obj) : GridA enc sz (w.alloc o) A n l:=h.below (bal0 w o) (Nat.le_refl _)
theorem HbIn.bH {b : Hb} (h : HbIn w b) (hb : Hid (Below w.heap.size w w')) : HbIn w' b:=h.below hb.out (Nat.le_refl _)
theorem HbIn.al {b : Hb} (h : HbIn w b) (o : Obj) : HbIn (w.alloc o) b:=h.below (bal0 w o) (Nat.le_refl _)
theorem blkbH {b : Nat} {o : Obj} (h : w.heap[b]? = some o) (hb : Hid (Below w.heap.size w w')) : w'.heap[b]? = some o:=bheap h hb.out (Nat.le_refl _)
theorem belS (h : Below w.heap.size w a) (hb : Hid (Below a.heap.size a b')) : Below w.heap.size w b':=h.trans (hb.out.mono h.size)
theorem tab2 {k r1 r2 n1 n2 c1 c2 : Nat} {cs1 cs2 : Array Value} {t t' : TypeId} {x y : List Rn} (hk : w.heap[k]? = some (.cells #[.slice (some ⟨r1,0,none⟩) n1 c1,.slice (some ⟨r2,0,none⟩) n2 c2] t (0,0))) (h1 : w.heap[r1]? = some (.cells cs1 t' (0,0))) (h2 : w.heap[r2]? = some (.cells cs2 t' (0,0)))
 (e1 : cs1.toList = x.flatMap eRn) (e2 : cs2.toList = y.flatMap eRn) (hn1 : n1 = x.length) (hn2 : n2 = y.length) (hc1 : n1 ≤ c1 ∧ c1 ≤ maxLen) (hc2 : n2 ≤ c2 ∧ c2 ≤ maxLen) : Table w (some ⟨k,0,none⟩) 2 [x,y]:=by
 subst hn1 hn2
 refine ⟨[.slice (some ⟨r1,0,none⟩) x.length c1,.slice (some ⟨r2,0,none⟩) y.length c2],Sl.of_blk (enc:=eVal) hk rfl lenVal,rfl,fun i v hv => ?_⟩
 match i,hv with
 | 0,hv => simp at hv;subst hv;exact ⟨_,x,c1,rfl,rfl,Sl.of_blk h1 e1 lenRn,hc1.1,hc1.2⟩
 | 1,hv => simp at hv;subst hv;exact ⟨_,y,c2,rfl,rfl,Sl.of_blk h2 e2 lenRn,hc2.1,hc2.2⟩
 | i + 2,hv => simp at hv
end
theorem book9_lit (w : World) : Calls Try.prog 71 #[] w fun e w' => (∃ A c Ak ck Ah ch Ad cd,e = .returned (.agg #[.int .i64 1,.slice A 3 c,.slice Ak 2 ck,.slice Ah 2 ch,.slice Ad 4 cd]) ∧ HbIn w' ⟨1,A,c,bkM,Ak,ck,[0,1],Ah,ch,bkHs,Ad,cd,bkDs⟩) ∧ Below w.heap.size w w' :=
 (book9_any w).mono fun e w' ⟨⟨A,c,Ak,ck,Ah,ch,Ad,cd,h1,h2⟩,h3⟩ => ⟨⟨A,c,Ak,ck,Ah,ch,Ad,cd,h1,h2.inn⟩,h3⟩
theorem truths9_any (A Ak Ah Ad : Option Addr) (c ck ch cd : Nat) (w : World) (hi : HbIn w ⟨1,A,c,bkM,Ak,ck,[0,1],Ah,ch,bkHs,Ad,cd,bkDs⟩) : Calls Try.prog 70 #[.agg #[.int .i64 1,.slice A 3 c,.slice Ak 2 ck,.slice Ah 2 ch,.slice Ad 4 cd]] w fun e w' => e = .returned (.tuple #[.int .i64 5,.int .i64 0]) ∧ Below w.heap.size w w':=by
 have ht:=Truths_any _ w hi
 unfold TruthsR at ht
 rw [show Hb.chk ⟨1,A,c,bkM,Ak,ck,[0,1],Ah,ch,bkHs,Ad,cd,bkDs⟩ = 0 from bk_ck,if_pos rfl,show (Hb.ends ⟨1,A,c,bkM,Ak,ck,[0,1],Ah,ch,bkHs,Ad,cd,bkDs⟩ (-1) 0).length = 5 from bk_n] at ht
 exact ht
theorem has9_any (A Ak Ah Ad : Option Addr) (c ck ch cd : Nat) (w : World) (hi : HbIn w ⟨1,A,c,bkM,Ak,ck,[0,1],Ah,ch,bkHs,Ad,cd,bkDs⟩) : Calls Try.prog 32 #[.agg #[.int .i64 1,.slice A 3 c,.slice Ak 2 ck,.slice Ah 2 ch,.slice Ad 4 cd]] w fun e w' => (∃ B d,e = .returned (.tuple #[.slice B 2 d,.int .i64 0]) ∧ Table w' B 2 [[⟨6,7⟩,⟨1,2⟩,⟨0,0⟩],[⟨0,1⟩,⟨1,3⟩,⟨0,1⟩]]) ∧ Below w.heap.size w w':=by
 have ht:=Has_any _ w hi
 have hak : askE ⟨1,A,c,bkM,Ak,ck,[0,1],Ah,ch,bkHs,Ad,cd,bkDs⟩ = 0:=askE_ok bk_ck (fun h => by have h5:=bk_n;rw [show endsL 1 bkM bkHs bkDs (-1) 0 = [] from h] at h5;cases h5)
 have htb : hasR ⟨1,A,c,bkM,Ak,ck,[0,1],Ah,ch,bkHs,Ad,cd,bkDs⟩ = [[⟨6,7⟩,⟨1,2⟩,⟨0,0⟩],[⟨0,1⟩,⟨1,3⟩,⟨0,1⟩]]:=by unfold hasR;rw [if_pos hak];exact bk_has
 unfold HasR at ht
 rw [hak,htb] at ht
 refine ht.mono ?_
 rintro e w' ⟨⟨v,rfl,ho⟩,hb⟩
 obtain ⟨B,d,rfl,h1,-⟩:=ho.form lenRn
 exact ⟨⟨B,d,rfl,h1⟩,hb⟩
theorem whose9_any (A Ak Ah Ad : Option Addr) (c ck ch cd : Nat) (w : World) (hi : HbIn w ⟨1,A,c,bkM,Ak,ck,[0,1],Ah,ch,bkHs,Ad,cd,bkDs⟩) : Calls Try.prog 12 #[.agg #[.int .i64 1,.slice A 3 c,.slice Ak 2 ck,.slice Ah 2 ch,.slice Ad 4 cd],.int .i64 1] w fun e w' => (∃ B d,e = .returned (.tuple #[.slice B 2 d,.int .i64 0]) ∧ Ints w' B 2 [0,1]) ∧ Below w.heap.size w w':=by
 have ht:=Whose_any _ 1 w hi
 have he : whoseE ⟨1,A,c,bkM,Ak,ck,[0,1],Ah,ch,bkHs,Ad,cd,bkDs⟩ 1 = 0:=bk_whose.1
 have hr : whoseR ⟨1,A,c,bkM,Ak,ck,[0,1],Ah,ch,bkHs,Ad,cd,bkDs⟩ 1 = [0,1]:=by unfold whoseR;rw [if_pos he];exact bk_whose.2
 unfold WhoseR at ht
 rw [he,hr] at ht
 refine ht.mono ?_
 rintro e w' ⟨⟨v,rfl,ho⟩,hb⟩
 obtain ⟨B,d,rfl,h1,-⟩:=ho.form lenInt
 exact ⟨⟨B,d,rfl,h1⟩,hb⟩
theorem part9_any (A Ak Ah Ad : Option Addr) (c ck ch cd : Nat) (w : World) (hi : HbIn w ⟨1,A,c,bkM,Ak,ck,[0,1],Ah,ch,bkHs,Ad,cd,bkDs⟩) (S : Option Addr) (hs : Sights w S 3 bkSs) : Calls Try.prog 26 #[.agg #[.int .i64 1,.slice A 3 c,.slice Ak 2 ck,.slice Ah 2 ch,.slice Ad 4 cd],.int .i64 1,.slice S 3 3] w fun e w' => (∃ B d,e = .returned (.tuple #[.slice B 3 d,.int .i64 0]) ∧ Sl eRn 2 w' B 3 [⟨0,1⟩,⟨1,2⟩,⟨1,1⟩]) ∧ Below w.heap.size w w':=by
 have ht:=Part_any _ 1 S 3 3 bkSs w hi hs (by simp [maxLen])
 have he : partE ⟨1,A,c,bkM,Ak,ck,[0,1],Ah,ch,bkHs,Ad,cd,bkDs⟩ 1 bkSs = 0:=bk_part.1
 have hr : partR ⟨1,A,c,bkM,Ak,ck,[0,1],Ah,ch,bkHs,Ad,cd,bkDs⟩ 1 bkSs = [⟨0,1⟩,⟨1,2⟩,⟨1,1⟩]:=bk_part.2
 unfold PartR at ht
 rw [he,hr] at ht
 refine ht.mono ?_
 rintro e w' ⟨⟨v,rfl,ho⟩,hb⟩
 obtain ⟨B,d,rfl,h1,-⟩:=ho.form lenRn
 exact ⟨⟨B,d,rfl,h1⟩,hb⟩
set_option maxRecDepth 400000 in
set_option maxHeartbeats 4000000 in
theorem herding_any (w : World) : Calls Try.prog 23 #[] w fun e w' => e = .returned (.bool true) ∧ Below w.heap.size w w':=by
 go_enter Try.func23,Try.ntmps23
 go_wp2_with fail
 with_reducible refine (book9_lit _).mono ?_
 rintro e v1 ⟨⟨A1,c1,Ak1,ck1,Ah1,ch1,Ad1,cd1,rfl,hi1⟩,hb1⟩
 have HB1:=Lib.hid hb1
 clear hb1
 have ht:=truths9_any A1 Ak1 Ah1 Ad1 c1 ck1 ch1 cd1 v1 hi1
 clear hi1
 go_wp2_with fail
 with_reducible refine ht.mono ?_
 rintro e v2 ⟨rfl,hb2⟩
 have HB2:=Lib.hid hb2
 clear hb2 ht
 go_wp2_with fail
 with_reducible refine (book9_lit _).mono ?_
 rintro e v3 ⟨⟨A3,c3,Ak3,ck3,Ah3,ch3,Ad3,cd3,rfl,hi3⟩,hb3⟩
 have HB3:=Lib.hid hb3
 clear hb3
 have ht:=has9_any A3 Ak3 Ah3 Ad3 c3 ck3 ch3 cd3 v3 hi3
 clear hi3
 go_wp2_with fail
 with_reducible refine ht.mono ?_
 rintro e v4 ⟨⟨At,ct,rfl,ht4⟩,hb4⟩
 have HB4:=Lib.hid hb4
 have HT4:=Lib.hid ht4
 clear hb4 ht ht4
 go_wp2_with fail
 with_reducible refine (book9_lit _).mono ?_
 rintro e v5 ⟨⟨A5,c5,Ak5,ck5,Ah5,ch5,Ad5,cd5,rfl,hi5⟩,hb5⟩
 have HB5:=Lib.hid hb5
 clear hb5
 have ht:=whose9_any A5 Ak5 Ah5 Ad5 c5 ck5 ch5 cd5 v5 hi5
 clear hi5
 go_wp2_with fail
 with_reducible refine ht.mono ?_
 rintro e v6 ⟨⟨Aw,cw,rfl,ht6⟩,hb6⟩
 have HB6:=Lib.hid hb6
 have HT6:=Lib.hid ht6
 clear hb6 ht ht6
 go_wp2_with fail
 with_reducible refine (book9_lit _).mono ?_
 rintro e v7 ⟨⟨A7,c7,Ak7,ck7,Ah7,ch7,Ad7,cd7,rfl,hi7⟩,hb7⟩
 have HB7:=Lib.hid hb7
 clear hb7
 have HI7:=Lib.hid hi7
 clear hi7
 go_wp2_with fail
 with_reducible refine (half9_any _).mono ?_
 rintro e v8 ⟨rfl,hb8⟩
 have HB8:=Lib.hid hb8
 clear hb8
 unfold vSg
 go_wp2_with fail
 with_reducible refine (part9_any A7 Ak7 Ah7 Ad7 c7 ck7 ch7 cd7 _ ((HI7.out.bH HB8).al _) (some ⟨v8.heap.size,0,none⟩) (Sl.lit v8 36 _ bkSs rfl lenSg (by simp [maxLen]))).mono ?_
 rintro e v9 ⟨⟨Ap,cp,rfl,ht9⟩,hb9⟩
 have HB9:=Lib.hid hb9
 have HT9:=Lib.hid ht9
 clear hb9 ht9
 go_wp2_with fail
 with_reducible refine (span9_any 6 7 _).mono ?_
 rintro e v10 ⟨rfl,hb10⟩
 have HB10:=Lib.hid hb10
 clear hb10
 go_wp2_with fail
 with_reducible refine (span9_any 1 2 _).mono ?_
 rintro e v11 ⟨rfl,hb11⟩
 have HB11:=Lib.hid hb11
 clear hb11
 go_wp2_with fail
 with_reducible refine (span9_any 0 0 _).mono ?_
 rintro e v12 ⟨rfl,hb12⟩
 have HB12:=Lib.hid hb12
 clear hb12
 go_wp2_with fail
 with_reducible refine (span9_any 0 1 _).mono ?_
 rintro e v13 ⟨rfl,hb13⟩
 have HB13:=Lib.hid hb13
 clear hb13
 go_wp2_with fail
 with_reducible refine (span9_any 1 3 _).mono ?_
 rintro e v14 ⟨rfl,hb14⟩
 have HB14:=Lib.hid hb14
 clear hb14
 go_wp2_with fail
 with_reducible refine (span9_any 0 1 _).mono ?_
 rintro e v15 ⟨rfl,hb15⟩
 have HB15:=Lib.hid hb15
 clear hb15
 go_wp2_with fail
 have hx : Table ((v15.alloc (Obj.cells #[Value.int .i64 0,.int .i64 1,.int .i64 1,.int .i64 3,.int .i64 0,.int .i64 1] 64)).alloc (Obj.cells #[.slice (some ⟨v12.heap.size,0,none⟩) 3 3,.slice (some ⟨v15.heap.size,0,none⟩) 3 3] 56)) At 2 [[⟨6,7⟩,⟨1,2⟩,⟨0,0⟩],[⟨0,1⟩,⟨1,3⟩,⟨0,1⟩]]:=by
  repeat (first | (with_reducible refine Hid.out ?_;assumption) | (with_reducible refine GridA.al ?_ _) | (with_reducible refine GridA.bH ?_ (by assumption)))
 have hy : Table ((v15.alloc (Obj.cells #[Value.int .i64 0,.int .i64 1,.int .i64 1,.int .i64 3,.int .i64 0,.int .i64 1] 64)).alloc (Obj.cells #[.slice (some ⟨v12.heap.size,0,none⟩) 3 3,.slice (some ⟨v15.heap.size,0,none⟩) 3 3] 56)) (some ⟨v15.heap.size + 1,0,none⟩) 2 [[⟨6,7⟩,⟨1,2⟩,⟨0,0⟩],[⟨0,1⟩,⟨1,3⟩,⟨0,1⟩]]:=by
  have h0 : (v12.alloc (Obj.cells #[Value.int .i64 6,.int .i64 7,.int .i64 1,.int .i64 2,.int .i64 0,.int .i64 0] 64)).heap[v12.heap.size]? = some (Obj.cells #[Value.int .i64 6,.int .i64 7,.int .i64 1,.int .i64 2,.int .i64 0,.int .i64 0] 64 (0,0)):=alloc_at rfl
  have H0:=Lib.hid h0
  refine tab2 (alloc_at (by simp)) (cs1:=#[Value.int .i64 6,.int .i64 7,.int .i64 1,.int .i64 2,.int .i64 0,.int .i64 0]) (t':=64) ?_ (hblk_alloc (alloc_at rfl) _) rfl rfl rfl rfl (by simp [maxLen]) (by simp [maxLen])
  repeat (first | (with_reducible refine Hid.out ?_;assumption) | (with_reducible refine hblk_alloc ?_ _) | (with_reducible refine blkbH ?_ (by assumption)))
 with_reducible refine (sameTables_any At 2 ct _ (some ⟨v15.heap.size + 1,0,none⟩) 2 2 _ _ hx hy (by simp [maxLen]) (by simp [maxLen])).mono ?_
 clear hx hy
 rintro e v16 ⟨rfl,hb16⟩
 have HB16:=Lib.hid hb16
 clear hb16
 go_wp2_with fail
 have hx : Ints (v16.alloc (Obj.cells #[Value.int .i64 0,.int .i64 1] 3)) Aw 2 [0,1]:=by
  repeat (first | (with_reducible refine Hid.out ?_;assumption) | (with_reducible refine Sl.alloc ?_ _) | (with_reducible refine Sl.bH ?_ (by assumption)))
 with_reducible refine (sameInts_any Aw 2 cw [0,1] (some ⟨v16.heap.size,0,none⟩) 2 2 [0,1] _ hx (ints2 v16 3 0 1) (by simp [maxLen]) (by simp [maxLen])).mono ?_
 clear hx
 rintro e v17 ⟨rfl,hb17⟩
 have HB17:=Lib.hid hb17
 clear hb17
 go_wp2_with fail
 with_reducible refine (span9_any 0 1 _).mono ?_
 rintro e v18 ⟨rfl,hb18⟩
 have HB18:=Lib.hid hb18
 clear hb18
 go_wp2_with fail
 with_reducible refine (span9_any 1 2 _).mono ?_
 rintro e v19 ⟨rfl,hb19⟩
 have HB19:=Lib.hid hb19
 clear hb19
 go_wp2_with fail
 with_reducible refine (span9_any 1 1 _).mono ?_
 rintro e v20 ⟨rfl,hb20⟩
 have HB20:=Lib.hid hb20
 clear hb20
 go_wp2_with fail
 have hx : Sl eRn 2 (v20.alloc (Obj.cells #[Value.int .i64 0,.int .i64 1,.int .i64 1,.int .i64 2,.int .i64 1,.int .i64 1] 64)) Ap 3 [⟨0,1⟩,⟨1,2⟩,⟨1,1⟩]:=by
  repeat (first | (with_reducible refine Hid.out ?_;assumption) | (with_reducible refine Sl.alloc ?_ _) | (with_reducible refine Sl.bH ?_ (by assumption)))
 have hy : Sl eRn 2 (v20.alloc (Obj.cells #[Value.int .i64 0,.int .i64 1,.int .i64 1,.int .i64 2,.int .i64 1,.int .i64 1] 64)) (some ⟨v20.heap.size,0,none⟩) 3 [⟨0,1⟩,⟨1,2⟩,⟨1,1⟩]:=Sl.lit v20 64 #[Value.int .i64 0,.int .i64 1,.int .i64 1,.int .i64 2,.int .i64 1,.int .i64 1] ([⟨0,1⟩,⟨1,2⟩,⟨1,1⟩] : List Rn) rfl lenRn (by simp [maxLen])
 with_reducible refine (sameRanges_any Ap 3 cp [⟨0,1⟩,⟨1,2⟩,⟨1,1⟩] (some ⟨v20.heap.size,0,none⟩) 3 3 [⟨0,1⟩,⟨1,2⟩,⟨1,1⟩] _ hx hy (by simp [maxLen]) (by simp [maxLen])).mono ?_
 clear hx hy
 rintro e v21 ⟨rfl,hb21⟩
 have HB21:=Lib.hid hb21
 clear hb21
 go_wp2_with fail
 go_ret
 refine ⟨rfl,?_⟩
 repeat (first | exact Below.refl _ _ | (with_reducible refine belS ?_ (by assumption)) | (with_reducible refine bal ?_ (Nat.le_refl _) _))
end Go.Proofs.Ytmennjmjakdkcaa
namespace Go.Proofs.Ytmennjmjakdkcaa
open Go.RowKit
set_option linter.unusedVariables false
set_option linter.unusedSimpArgs false
theorem Gfs.get {w : World} {A : Option Addr} {n : Nat} {l : List Gf} (h : Sl eGf 4 w A n l) {k : Nat} (hk : k < n) :
 ∃ b off m,A = some ⟨b,off,none⟩ ∧ b < w.heap.size ∧ l[k]? = some m ∧ w.cell? ⟨b,off + k * 4,none⟩ = some (.int .i64 m.f) ∧ w.cell? ⟨b,off + k * 4 + 1,none⟩ = some (.int .i64 m.o) ∧ w.cell? ⟨b,off + k * 4 + 2,none⟩ = some (.int .i64 m.r.lo) ∧ w.cell? ⟨b,off + k * 4 + 3,none⟩ = some (.int .i64 m.r.hi):=by
 obtain ⟨b,off,x,hA,hx,hc⟩:=h.at_ hk
 have h0:=hc 0 _ rfl
 exact ⟨b,off,x,hA,cell_lt h0,hx,h0,hc 1 _ rfl,hc 2 _ rfl,hc 3 _ rfl⟩
end Go.Proofs.Ytmennjmjakdkcaa
namespace Go.Proofs.Ytmennjmjakdkcaa
open Go.RowKit
set_option linter.unusedVariables false
set_option linter.unusedSimpArgs false
structure More (b X : Hb) (d : De) : Prop where
 t : X.t = b.t
 l : X.l = b.l
 k : X.ks = b.ks
 h : X.hs = b.hs
 d : X.ds = b.ds ++ [d]
theorem EnterR.ok {b : Hb} {d : De} {w w' : World} {e : Ending} (h : EnterR b d w e w') (h0 : enterE b d = 0) : (∃ X : Hb,e = .returned (.tuple #[X.v,.int .i64 0]) ∧ More b X d ∧ HbO w' w.heap.size X) ∧ Below w.heap.size w w':=by
 obtain ⟨h1 | h1,hb⟩:=h
 ·obtain ⟨-,A,c,Ak,ck,Ah,ch,Ad,cd,rfl,ho⟩:=h1
  exact ⟨⟨_,rfl,⟨rfl,rfl,rfl,rfl,rfl⟩,ho⟩,hb⟩
 ·exact absurd h0 h1.1
theorem EnterR.no {b : Hb} {d : De} {w w' : World} {e : Ending} (h : EnterR b d w e w') (h0 : enterE b d ≠ 0) : e = .returned (.tuple #[.agg #[.int .i64 0,.slice none 0 0,.slice none 0 0,.slice none 0 0,.slice none 0 0],.int .i64 (enterE b d)]) ∧ Below w.heap.size w w':=by
 obtain ⟨h1 | h1,hb⟩:=h
 ·exact absurd h1.1 h0
 ·exact ⟨h1.2,hb⟩
theorem EnterR.any {b : Hb} {d : De} {w w' : World} {e : Ending} (h : EnterR b d w e w') : (∃ Y : Hb,e = .returned (.tuple #[Y.v,.int .i64 (enterE b d)]) ∧ (enterE b d = 0 → More b Y d ∧ HbO w' w.heap.size Y)) ∧ Below w.heap.size w w':=by
 by_cases h0 : enterE b d = 0
 ·obtain ⟨⟨X,rfl,hm,ho⟩,hb⟩:=h.ok h0
  exact ⟨⟨X,by rw [h0],fun _ => ⟨hm,ho⟩⟩,hb⟩
 ·obtain ⟨rfl,hb⟩:=h.no h0
  exact ⟨⟨⟨0,none,0,[],none,0,[],none,0,[],none,0,[]⟩,rfl,fun h => absurd h h0⟩,hb⟩
theorem More.ends {b X : Hb} {d : De} (h : More b X d) : X.ends (-1) 0 = endsL b.t b.l b.hs (b.ds ++ [d]) (-1) 0:=by
 show endsL X.t X.l X.hs X.ds (-1) 0 = _
 rw [h.t,h.l,h.h,h.d]
theorem enterE_deed {b : Hb} {d : De} (h : enterE b d = 0) : b.chk = 0 ∧ b.ds.length < 6 ∧ deedE b.l.length b.ks.length d = 0:=by
 unfold enterE at h
 split at h
 ·exact absurd h (by assumption)
 rename_i h1
 split at h
 ·cases h
 rename_i h2
 split at h
 ·exact absurd h (by assumption)
 rename_i h3
 exact ⟨Classical.not_not.1 h1,by omega,Classical.not_not.1 h3⟩
theorem More.chk {b X : Hb} {d : De} (h : More b X d) (h0 : enterE b d = 0) : X.chk = 0:=by
 obtain ⟨h1,h2,h3⟩:=enterE_deed h0
 show checkH X.t X.l X.ks X.hs X.ds = 0
 rw [h.t,h.l,h.k,h.h,h.d]
 exact checkH_snoc h1 h2 h3
set_option maxRecDepth 100000 in
theorem covers_any (a b : Rn) (w : World) (h1 : a.lo ≤ b.lo) (h2 : b.hi ≤ a.hi) : Calls Try.prog 30 #[.agg #[.int .i64 a.lo,.int .i64 a.hi],.agg #[.int .i64 b.lo,.int .i64 b.hi]] w fun e w' => e = .returned (.bool true) ∧ Below w.heap.size w w':=by
 obtain ⟨al,ah⟩:=a
 obtain ⟨bl,bh⟩:=b
 dsimp only at h1 h2 ⊢
 go_enter Try.func30,Try.ntmps30
 go_wp2
 go_ret
 exact ⟨rfl,bal (bal0 w _) (Nat.le_refl _) _⟩
def TSg (H N : Nat) (j : Nat) (w w' : World) : Prop:=match j with
 | 1 => Dealt w w' H (N + 250)
 | _ => w = w'
def PSg (ws : World) (H N : Nat) (k : Nat) (w : World) : Prop:=match k with
 | 0 => ws.grownBy w (some H)
 | 1 => Hd w H N
 | _ => True
theorem TSg.rf {H N : Nat} (w : World) : TSg H N 0 w w:=rfl
theorem TSg.gr {H N j : Nat} {w w' : World} (h : TSg H N j w w') : w.grownBy w' (some H):=by
 match j,h with
 | 0,h => cases (show w = w' from h);exact World.grownBy.refl _ _
 | 1,h => exact (show Dealt w w' H (N + 250) from h).gr
 | n + 2,h => cases (show w = w' from h);exact World.grownBy.refl _ _
theorem PSg.start {ws : World} {H N : Nat} (h : Hd ws H N) (k : Nat) : PSg ws H N k ws:=by
 match k with
 | 0 => exact World.grownBy.refl _ _
 | 1 => exact h
 | n + 2 => exact trivial
theorem PSg.st {ws : World} {H N : Nat} (k j : Nat) (w w' : World) (hc : j ≠ k ∨ k = 0) (hT : TSg H N j w w') (hp : PSg ws H N k w) : PSg ws H N k w':=by
 match k,hp with
 | 0,hp => exact World.grownBy.trans (show ws.grownBy w (some H) from hp) hT.gr
 | 1,hp =>
   match j,hT with
   | 0,hT => cases (show w = w' from hT);exact hp
   | 1,hT => rcases hc with h | h <;> omega
   | n + 2,hT => cases (show w = w' from hT);exact hp
 | n + 2,_ => exact trivial
end Go.Proofs.Ytmennjmjakdkcaa
