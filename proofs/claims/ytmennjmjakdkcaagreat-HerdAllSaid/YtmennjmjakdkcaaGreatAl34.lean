/- HerdAll 34: TruA, AllL, LeastA. -/
import Derived.Test.YtmennjmjakdkcaaGreatAl33
import Derived.Test.YtmennjmjakdkcaaGreatAl02
import Derived.Test.YtmennjmjakdkcaaGreatAl15
import Derived.Test.YtmennjmjakdkcaaGreatAl09
import Derived.Deep.RegionHeld3
namespace Go.Proofs.YtmennjmjakdkcaaGreat
open Go.RowKit
set_option linter.unusedVariables false
set_option linter.unusedSimpArgs false
def truN (b:Hb) (deed owner:Int):List (List Int):=addsE [] (trG b.t b.l deed owner b.ds 0 b.hs)
theorem truths_all (b:Hb) (hok:HeOk b.t b.l b.ks b.hs b.ds) (deed owner:Int):∀ m,TruC b deed owner m
 | 0 => truths_step b hok deed owner 0 fun m' h => by cases h
 | m + 1 => truths_step b hok deed owner (m + 1) fun m' h => by cases h;exact truths_all b hok deed owner m
theorem below_of_grown {w w':World} (h:w.grownBy w' none):Below w.heap.size w w':=⟨h.os,h.tape,h.output,h.size,fun j hj => h.block j hj (fun e => by cases e)⟩
theorem truths_any (b:Hb) (hok:HeOk b.t b.l b.ks b.hs b.ds) (deed owner:Int) (w:World) (hin:HbIn w b) (hz:HbZ w b) :
 Calls Tryz.prog 28 #[b.v,.int .i64 0,b.vh,.int .i64 deed,.int .i64 owner,.slice none 0 0] w fun e w' => (∃ v,e = .returned v∧OwnG w' w.heap.size v (truN b deed owner))∧Below w.heap.size w w':=by
 have hh:=hin.hc
 have h:=truths_all b hok deed owner b.ds.length 0 (by omega) w.heap.size b.hs b.Ah b.ch (.slice none 0 0) [] w ⟨by rw [hok.hl],hok.rl⟩ (fun r hr x hx => by have:=hok.rb r hr x hx;omega) hin.hc hin.hm
  ⟨OwnG.nil_,Nat.le_refl _,fun w' hg => ⟨hz.h.below (below_of_grown hg) (Nat.le_refl _),hin.below (below_of_grown hg) (Nat.le_refl _)⟩⟩
  (by have:=Nat.pow_le_pow_right (show 0 < 35 by decide) hok.d6;simpa using this)
 refine h.mono fun e w' ⟨v',he,hE⟩ => ⟨⟨v',he,?_⟩,below_of_grown hE.gr⟩
 exact hE.own
theorem truN_len (b:Hb) (hok:HeOk b.t b.l b.ks b.hs b.ds) (deed owner:Int):(truN b deed owner).length = (b.ends deed owner).length:=by
 have:=(tru_perm (deed:=deed) (owner:=owner) hok).1.length_eq
 rw [List.length_map] at this
 exact this
end Go.Proofs.YtmennjmjakdkcaaGreat
namespace Go.Proofs.YtmennjmjakdkcaaGreat
set_option linter.unusedVariables false
set_option linter.unusedSimpArgs false
theorem flatMap_one {α β:Type} {l:List α} {f:α→List β} (hl:l.length ≤ 1) (hf:∀ x ∈ l,(f x).length ≤ 1):(l.flatMap f).length ≤ 1:=by
 cases l with
 | nil => simp
 | cons x l =>
   cases l with
   | nil => simpa using hf x List.mem_cons_self
   | cons y l => simp at hl
theorem step_one {t:Int} {l:List Mk} {deed owner:Int} {i n nf:Nat} {d:De} {gs:List (List Int)} (how:DeOw n nf d) (h4:d.kind ≠ 4) (h5:d.kind ≠ 5):(stepG t l deed owner i d gs).length ≤ 1:=by
 unfold stepG
 split
 ·simp
 split
 ·simp
 split
 ·simp
 split
 ·split <;> simp
 ·exfalso
  have:=how.k
  omega
theorem trG_sure {t:Int} {l:List Mk} {deed owner:Int} {n nf:Nat}:∀ (ds:List De) (i:Nat) (gs:List (List Int)),(∀ d ∈ ds,DeOw n nf d∧d.kind ≠ 4∧d.kind ≠ 5)→(trG t l deed owner ds i gs).length ≤ 1
 | [],i,gs,_ => by unfold trG;split <;> simp
 | d :: ds,i,gs,h => by
   have h0:=h d List.mem_cons_self
   unfold trG
   split
   ·exact flatMap_one (step_one h0.1 h0.2.1 h0.2.2) fun g _ => trG_sure ds (i + 1) g fun d hd => h d (List.mem_cons_of_mem _ hd)
   ·simp
theorem truN_sure {b:Hb} {deed owner:Int} (hok:HeOk b.t b.l b.ks b.hs b.ds) (h:∀ d ∈ b.ds,d.kind ≠ 4∧d.kind ≠ 5):(truN b deed owner).length ≤ 1:=by
 have h1:=addsE_len (trG b.t b.l deed owner b.ds 0 b.hs) []
 have h2:=trG_sure (t:=b.t) (l:=b.l) (deed:=deed) (owner:=owner) b.ds 0 b.hs fun d hd => ⟨deedE_ow (hok.dE d hd),h d hd⟩
 unfold truN
 rw [List.length_nil] at h1
 omega
theorem passB_neg (a c:Int):passB (-1) a = passB (-1) c:=by
 funext i o
 unfold passB
 have:¬ (i:Int) = -1:=by omega
 simp [this]
theorem endsTo_neg (t:Int) (l:List Mk) (hs:List (List Int)) (ds:List De) (a c:Int):∀ k,endsTo t l hs ds (-1) a k = endsTo t l hs ds (-1) c k
 | 0 => rfl
 | k + 1 => by
   unfold endsTo
   rw [endsTo_neg t l hs ds a c k,passB_neg a c]
theorem ends_neg (b:Hb) (a c:Int):b.ends (-1) a = b.ends (-1) c:=endsTo_neg _ _ _ _ _ _ _
theorem rangeE_map (E:List (List Int)) (φ:List Int→List Int) (f:List Int→Int):rangeE (E.map φ) f = rangeE E fun e => f (φ e):=by
 unfold rangeE
 rw [List.map_map]
 rfl
theorem range_tru {b:Hb} {φ ψ:List Int→Int} (hok:HeOk b.t b.l b.ks b.hs b.ds) (h:∀ g,GSh b.l.length b.ks.length g→φ g.flatten = ψ (firstH g)):rangeE (truN b (-1) (-1)) φ = rangeE (b.ends (-1) 0) ψ:=by
 obtain ⟨h1,h2⟩:=tru_perm (deed:=-1) (owner:=-1) hok
 rw [ends_neg b 0 (-1),← rangeE_perm (f:=ψ) (show ((truN b (-1) (-1)).map (unfl b.l.length b.ks.length)).Perm (b.ends (-1) (-1)) from h1),rangeE_map]
 refine rangeE_congr (fun _ => Iff.rfl) fun e he => ?_
 obtain ⟨g,hg,rfl⟩:=h2 e he
 rw [unfl_flat hg]
 exact h g hg
def rowF (e:List Int) (f n:Nat):List Int:=(e.drop (f * n)).take n
theorem rowF_flat {n nf f:Nat} {g:List (List Int)} (h:GSh n nf g) (hf:f < nf):rowF g.flatten f n = g.getD f []:=by
 have hfl:f < g.length:=by rw [h.l];exact hf
 have e1:g.flatten = (g.take f).flatten ++ (g[f] ++ (g.drop (f + 1)).flatten):=by
  conv => lhs;rw [← List.take_append_drop f g,List.flatten_append,List.drop_eq_getElem_cons hfl,List.flatten_cons]
 have e2:(g.take f).flatten.length = f * n:=by
  rw [flat_sh_len fun r hr => h.r r (List.mem_of_mem_take hr),List.length_take]
  rw [Nat.min_eq_left (by omega)]
 have e3:g[f].length = n:=h.r _ (List.getElem_mem hfl)
 unfold rowF
 rw [e1,List.drop_left' e2,List.take_left' e3,List.getD_eq_getElem?_getD,List.getElem?_eq_getElem hfl]
 rfl
def hasF (n f o:Nat) (e:List Int):Int:=e.getD (f * n + o) 0
def totF (n f:Nat) (e:List Int):Int:=(rowF e f n).sum
def ownF (n o:Nat) (e:List Int):Nat→Int
 | 0 => 0
 | k + 1 => ownF n o e k + hasF n k o e
theorem has_tru {b:Hb} {f o:Nat} (hok:HeOk b.t b.l b.ks b.hs b.ds) (hf:f < b.ks.length) (ho:o < b.l.length):rangeE (truN b (-1) (-1)) (hasF b.l.length f o) = rangeE (b.ends (-1) 0) fun h => hget h f o :=
 range_tru hok fun g hg => by
  have:=hok.f3;have:=hok.n5
  show hasF _ _ _ _ = hget (firstH g) f o
  rw [firstH_get g (by omega) (by omega)]
  exact flat_getG hg hf ho
theorem tot_tru {b:Hb} {f:Nat} (hok:HeOk b.t b.l b.ks b.hs b.ds) (hf:f < b.ks.length):rangeE (truN b (-1) (-1)) (totF b.l.length f) = rangeE (b.ends (-1) 0) fun h => hall h f :=
 range_tru hok fun g hg => by
  have:=hok.f3;have:=hok.n5
  show totF _ _ _ = hall (firstH g) f
  unfold totF
  rw [rowF_flat hg hf,row_sum (by omega) (by rw [hg.row hf];omega)]
theorem own_tru {b:Hb} {o:Nat} (hok:HeOk b.t b.l b.ks b.hs b.ds) (ho:o < b.l.length):rangeE (truN b (-1) (-1)) (fun e => ownF b.l.length o e b.ks.length) = rangeE (b.ends (-1) 0) fun h => howned h o :=
 range_tru hok fun g hg => by
  have h3:=hok.f3;have h5:=hok.n5;have h0:=hok.f0
  show ownF _ _ _ _ = howned (firstH g) o
  have e:∀ f,f < b.ks.length→hasF b.l.length f o g.flatten = hget (firstH g) f o:=fun f hf => by
   rw [firstH_get g (by omega) (by omega)]
   exact flat_getG hg hf ho
  have z:∀ f,b.ks.length ≤ f→f < 3→hget (firstH g) f o = 0:=fun f hf hf3 => by
   rw [firstH_get g hf3 (by omega)]
   unfold getG
   rw [List.getD_eq_getElem?_getD (l:=g),List.getElem?_eq_none (by rw [hg.l];exact hf)]
   rfl
  unfold howned
  obtain hk | hk | hk:b.ks.length = 1 ∨ b.ks.length = 2 ∨ b.ks.length = 3:=by omega
  all_goals
   rw [hk] at e z ⊢
   simp only [ownF]
  ·rw [e 0 (by omega),z 1 (by omega) (by omega),z 2 (by omega) (by omega)];omega
  ·rw [e 0 (by omega),e 1 (by omega),z 2 (by omega) (by omega)];omega
  ·rw [e 0 (by omega),e 1 (by omega),e 2 (by omega)];omega
end Go.Proofs.YtmennjmjakdkcaaGreat
namespace Go.Proofs.YtmennjmjakdkcaaGreat
open Go.RowKit
set_option linter.unusedVariables false
set_option linter.unusedSimpArgs false
theorem span8_any (x y:Int) (w:World):Calls Tryz.prog 35 #[.int .i64 x,.int .i64 y] w fun e w' => e = .returned (.agg #[.int .i64 x,.int .i64 y])∧Below w.heap.size w w':=by
 go_enter Tryz.func35,Tryz.ntmps35
 go_wp2
 exact bodyPost_ret (v:=.agg #[.int .i64 x,.int .i64 y]) (by simp [results,Tryz.f35,go_sem]) rfl ⟨rfl,bal0 w _⟩
set_option maxRecDepth 100000 in
set_option maxHeartbeats 2000000 in
theorem least_any (A:Option Addr) (n c:Nat) (l:List Int) (w:World) (hl:Ints w A n l) (h0:0 < n) (hn:n ≤ 9223372036854775807) :
 Calls Tryz.prog 33 #[.slice A n c] w fun e w' => e = .returned (.agg #[.int .i64 (minL l),.int .i64 (maxL l)])∧Below w.heap.size w w':=by
 obtain ⟨bl,ol,x0,rfl,hbl,hx0,y0⟩:=Ints.get hl h0
 have hln:=hl.len
 have HL:=Lib.hid (And.intro hl (And.intro hx0 hln))
 clear hl hx0 hln
 obtain ⟨w1,hw1⟩:∃ W,W = w.alloc (Obj.cells #[.int .i64 0,.int .i64 0] 72):=⟨_,rfl⟩
 obtain ⟨p,hp⟩:∃ p,p = w.heap.size:=⟨_,rfl⟩
 have hb1:Below w.heap.size w w1:=by rw [hw1];exact bal0 _ _
 have bp1:w1.heap[p]? = some (Obj.cells #[.int .i64 0,.int .i64 0] 72 (0,0)):=by rw [hw1,hp];exact alloc_at rfl
 have y1:=bcell y0 hb1 (Nat.le_refl _)
 have hbl1:bl < w1.heap.size:=Nat.lt_of_lt_of_le hbl hb1.size
 have i0:(0:Int) < (n:Int):=by omega
 have H1:=Lib.hid (And.intro hb1 (And.intro bp1 hp))
 clear hb1 bp1
 go_enter Tryz.func33,Tryz.ntmps33
 go_upto_region 1 with (fail)
 rw [← hw1,← hp]
 clear hw1 hp
 have HC:=Lib.hid (fun (w':World) (hp:Below w1.heap.size w1 w') => (show w'.cell? ⟨bl,ol,none⟩ = some (.int .i64 x0)∧bl < w'.heap.size from ⟨bcell y1 hp (Nat.le_refl _),Nat.lt_of_lt_of_le hbl1 hp.size⟩))
 refine wp_region_tag 8 0 0 [] [] 0 (fun _ a b => Below a.heap.size a b) (fun _ w' => Below w1.heap.size w1 w') [0,0,0,0,0,0,0,0] (by as_aux_lemma => kernel_rfl) (by as_aux_lemma => kernel_rfl) (by as_aux_lemma => kernel_rfl) (by as_aux_lemma => kernel_rfl) (by omega) (.inl rfl) rfl (by as_aux_lemma => kernel_rfl) (fun k j a b _ _ hT hp => Below.trans hp (Below.mono hT hp.size)) (fun k => below_drewN (Below.refl _ _) 1) ?_
 apply Exists.intro
 refine ⟨fun ys => ?_,fun ops K hK => ?_⟩
 ·simp only [List.take_succ_cons,List.take_zero,dstsOf,List.filterMap_cons,List.filterMap_nil,putAll]
  go_simp
  rfl
 simp only [List.take_succ_cons,List.take_zero,List.drop_succ_cons,List.drop_zero] at hK ⊢
 iterate 6
  refine LexT.const (fun _ => Below.refl _ _) ?_
  apply Exists.intro
  refine ⟨fun ys w' hp hpk hq hd => ?_,?_⟩
  ·try simp [DepsOf,depsGo,DF.holds,Region.binds,EqF] at hd
   try simp only [hd]
   obtain ⟨d0,dl⟩:=HC.out w' hp
   clear hp hpk hq
   intro Q2 hQ2
   go_wp2_with fail
   rfl
  try simp only [List.nil_append,List.cons_append]
 refine LexT.some (fun v _ => v = .agg #[.int .i64 x0,.int .i64 x0]) (fun _ _ _ _ _ _ _ h => h) (fun ys w' hp hpk hq hd => ?_) ?_
 ·try simp [DepsOf,depsGo,DF.holds,Region.binds,EqF] at hd
  try simp only [hd]
  intro Q2 hQ2
  go_wp2_with fail
  refine (span8_any x0 x0 _).mono ?_
  rintro e w3 ⟨rfl,hb3⟩
  have HX:=Lib.hid hb3
  clear hb3
  go_wp2
  exact ⟨_,rfl,HX.out,rfl⟩
 try simp only [List.nil_append,List.cons_append]
 refine LexT.some (fun v w' => ∃ k:Nat,v = .pointer (some ⟨k,0,none⟩)∧w1.heap.size ≤ k∧w'.heap[k]? = some (Obj.cells #[.int .i64 0,.int .i64 0] 72 (0,0))) (fun j v a b _ _ hT ⟨k,h1,h2,h3⟩ => ⟨k,h1,h2,bheap h3 hT (Nat.le_refl _)⟩) (fun ys w' hp hpk hq hd => ?_) ?_
 ·try simp [DepsOf,depsGo,DF.holds,Region.binds,EqF] at hd
  try simp only [hd]
  have hsz:=Below.size (show Below w1.heap.size w1 w' from hp)
  intro Q2 hQ2
  go_wp2_with fail
  exact ⟨bal0 _ _,(Array.getElem?_eq_some_iff.1 (alloc_at rfl)).2⟩
 try simp only [List.nil_append,List.cons_append]
 refine hK _ fun ys w' hp hF => ?_
 simp [AllF,DF.holds] at hF
 obtain ⟨q0,q1,q2,q3,q4,q5,q6,k,q7,hk1,hk2⟩:=hF
 simp only [q0,q1,q2,q3,q4,q5,q6,q7]
 have hp':Below w1.heap.size w1 w':=hp
 have hkl:=heap_lt hk2
 have fz0:=frz hk2 0
 have fz1:=frz hk2 1
 obtain ⟨u0,u1⟩:=blk2 hk2
 have H2:=Lib.hid (And.intro hp' (And.intro hk1 hk2))
 clear q0 q1 q2 q3 q4 q5 q6 q7 hp hK hp' hk1 hk2 HC
 go_upto_region 3 with (fail)
 obtain ⟨w2,hw2⟩:∃ W,W = (w'.setCell ⟨k,0,none⟩ (.int .i64 x0)).setCell ⟨k,1,none⟩ (.int .i64 x0):=⟨_,rfl⟩
 rw [← hw2]
 have hb2:w2.heap[k]? = some (Obj.cells #[.int .i64 x0,.int .i64 x0] 72 (0,0)):=by
  rw [hw2]
  exact (set_blk (set_blk H2.out.2.2)).trans (by simp)
 have hB2:Below w1.heap.size w1 w2:=by rw [hw2];exact (H2.out.1.setCell H2.out.2.1 _).setCell H2.out.2.1 _
 have HS:=Lib.hid (And.intro hb2 hB2)
 clear hw2 hb2 hB2 u0 u1 fz0 fz1 hkl
 go_loopg [4] (n - 1) (fun g v4 wr => ∃ i:Nat,i + g = n∧1 ≤ i∧v4 = .int .i64 i∧wr.heap[k]? = some (Obj.cells #[.int .i64 (minL (l.take i)),.int .i64 (maxL (l.take i))] 72 (0,0))∧Below w1.heap.size w1 wr)
 case atStart =>
  refine ⟨1,by omega,Nat.le_refl _,rfl,?_,HS.out.2⟩
  have e:l.take 1 = [x0]:=by rw [show (1:Nat) = 0 + 1 from rfl,List.take_add_one,HL.out.2.1];rfl
  rw [e]
  exact HS.out.1
 case round =>
  obtain ⟨i,hi,hi1,rfl,hbk,hb⟩:=hrel
  by_cases hlt:i < n
  ·obtain ⟨b',o',x,e,hb',hx,y⟩:=Ints.get (HL.out.1.below (H1.out.1.trans (hb.mono H1.out.1.size)) (Nat.le_refl _)) hlt
   cases e
   obtain ⟨a1,ha1⟩:∃ a,a = minL (l.take i):=⟨_,rfl⟩
   obtain ⟨a2,ha2⟩:∃ a,a = maxL (l.take i):=⟨_,rfl⟩
   rw [← ha1,← ha2] at hbk
   obtain ⟨u0,u1⟩:=blk2 hbk
   have hkl:=heap_lt hbk
   have i1:(i:Int) < (n:Int):=by omega
   have i2:(0:Int) ≤ (i:Int):=by omega
   have cS:∀ (x y:Int) d' os,Calls Tryz.prog 35 #[.int .i64 x,.int .i64 y] (Sort.grow (redrawn wr d') os) (fun e w'' => e = .returned (.agg #[.int .i64 x,.int .i64 y])∧∃ p:Regrown,w'' = Sort.grow (redrawn wr p.d) p.os):=fun x y d' os =>
    Calls.regrown_of (span8_any x y _)
   have HCS:=Lib.hid cS
   have HI:=Lib.hid (And.intro hi (And.intro hbk (And.intro hb (And.intro hx (And.intro ha1 ha2)))))
   have k0:=cell_regrown y
   have k1:=cell_regrown u0
   have k2:=cell_regrown u1
   clear hi hbk hb hx ha1 ha2 cS y u0 u1
   go_upto_region 5 with (fail)
   refine wp_region_below_tail 15 (by kernel_rfl) (by kernel_rfl) ?_
   simp only [List.take_succ_cons,List.take_zero,List.drop_succ_cons,List.drop_zero]
   repeat (quiet_step (exact HCS.out _ _ _ _))
   refine wpQuiet_nil ?_
   intro _ hw'
   obtain ⟨⟨dq,osq⟩,hw''⟩:=hw'
   subst hw''
   obtain ⟨w3,hW3⟩:∃ w3,w3 = Sort.grow (redrawn wr dq) osq:=⟨_,rfl⟩
   have hb3:Below wr.heap.size wr w3:=by rw [hW3];exact below_regrown wr dq osq
   rw [← hW3]
   have hbk3:=bheap HI.out.2.1 hb3 (Nat.le_refl _)
   obtain ⟨u0,u1⟩:=blk2 hbk3
   have fz0:=frz hbk3 0
   have fz1:=frz hbk3 1
   have hkl3:=heap_lt hbk3
   have hfin:∀ X Y:Int,min a1 x = X→max a2 x = Y→((w3.setCell ⟨k,0,none⟩ (.int .i64 X)).setCell ⟨k,1,none⟩ (.int .i64 Y)).heap[k]? = some (Obj.cells #[.int .i64 (minL (l.take (i + 1))),.int .i64 (maxL (l.take (i + 1)))] 72 (0,0))∧Below w1.heap.size w1 ((w3.setCell ⟨k,0,none⟩ (.int .i64 X)).setCell ⟨k,1,none⟩ (.int .i64 Y)):=fun X Y em ex => by
    have hne:l.take i ≠ []:=fun h => by
     have:=congrArg List.length h
     rw [List.length_take,HL.out.2.2] at this
     simp at this
     omega
    have e:l.take (i + 1) = l.take i ++ [x]:=by rw [List.take_add_one,HI.out.2.2.2.1];rfl
    refine ⟨?_,(((HI.out.2.2.1.trans (hb3.mono HI.out.2.2.1.size)).setCell H2.out.2.1 _).setCell H2.out.2.1 _)⟩
    rw [e,minL_snoc,maxL_snoc,if_neg hne,if_neg hne,← HI.out.2.2.2.2.1,← HI.out.2.2.2.2.2,em,ex]
    exact (set_blk (set_blk hbk3)).trans (by simp)
   have HFIN:=Lib.hid hfin
   clear hW3 hb3 hbk3 hfin k0 k1 k2
   go_wp2_with fail
   all_goals
    go_roundg (gk - 1)
    case measure => have:=HI.out.1;omega
    case rel => exact ⟨i + 1,by have:=HI.out.1;omega,by omega,by go_num,(HFIN.out _ _ (by omega) (by omega)).1,(HFIN.out _ _ (by omega) (by omega)).2⟩
  ·obtain rfl:i = n:=by omega
   rw [List.take_of_length_le (by rw [HL.out.2.2];exact Nat.le_refl _)] at hbk
   obtain ⟨u0,u1⟩:=blk2 hbk
   have hkl:=heap_lt hbk
   have hp3:=bheap H1.out.2.1 hb (Nat.le_refl _)
   obtain ⟨v0,v1⟩:=blk2 hp3
   have fz0:=frz hp3 0
   have fz1:=frz hp3 1
   have hpl:=heap_lt hp3
   have HI:=Lib.hid (And.intro hb hp3)
   clear hbk hb hp3 hi
   go_wp2_with fail
   obtain ⟨W,hW⟩:∃ W,W = (wr.setCell ⟨p,0,none⟩ (.int .i64 (minL l))).setCell ⟨p,1,none⟩ (.int .i64 (maxL l)):=⟨_,rfl⟩
   rw [← hW]
   have hp4:W.heap[p]? = some (Obj.cells #[.int .i64 (minL l),.int .i64 (maxL l)] 72 (0,0)):=by
    rw [hW]
    exact (set_blk (set_blk HI.out.2)).trans (by simp)
   obtain ⟨z0,z1⟩:=blk2 hp4
   have hpw:w.heap.size ≤ p:=by rw [H1.out.2.2];exact Nat.le_refl _
   have hBW:Below w.heap.size w W:=by rw [hW];exact ((H1.out.1.trans (HI.out.1.mono H1.out.1.size)).setCell hpw _).setCell hpw _
   exact bodyPost_ret (v:=.agg #[.int .i64 (minL l),.int .i64 (maxL l)]) (by simp [results,Tryz.f33,go_sem,z0,z1]) rfl ⟨rfl,hBW⟩
theorem hasQ_any (a1 a2 a3 a4 a5:Int) (w:World) (h:∀ x ∈ [a1,a2,a3,a4,a5],-1000000 ≤ x∧x ≤ 1000000) :
 Calls Tryz.prog 36 #[.agg #[.int .i64 a1,.int .i64 a2,.int .i64 a3,.int .i64 a4,.int .i64 a5]] w fun e w' => e = .returned (.int .i64 (a1 + a2 + a3 - a4 - a5))∧Below w.heap.size w w':=by
 have h1:=h a1 (by simp);have h2:=h a2 (by simp);have h3:=h a3 (by simp);have h4:=h a4 (by simp);have h5:=h a5 (by simp)
 clear h
 go_enter Tryz.func36,Tryz.ntmps36
 go_wp2_with fail
 go_ret
 exact ⟨rfl,bal0 w _⟩
end Go.Proofs.YtmennjmjakdkcaaGreat
