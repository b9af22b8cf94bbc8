/- HerdAll 13: HdA, CopyN, TalA, GridA. -/
import Derived.Test.YtmennjmjakdkcaaGreatAl12
import Derived.Test.YtmennjmjakdkcaaGreatAl02
import Derived.Test.YtmennjmjakdkcaaGreatAl04
import Derived.Test.YtmennjmjakdkcaaGreatAl08
import Derived.Test.YtmennjmjakdkcaaGreatAl09
import Derived.Test.YtmennjmjakdkcaaGreatAl05
namespace Go.Proofs.YtmennjmjakdkcaaGreat
open Go.RowKit Go.MapKept
set_option linter.unusedVariables false
set_option linter.unusedSimpArgs false
def eDe (d:De):List Value:=[.int .i64 d.kind,.int .i64 d.flock,.int .i64 d.owner,.int .i64 d.other,.int .i64 d.tof,.int .i64 d.many,.int .i64 d.err,.int .i64 d.s.n,.bool d.s.l,.bool d.s.r,.int .i64 d.s.b,.int .i64 d.s.p]
theorem lenDe (d:De):(eDe d).length = 12:=rfl
abbrev Deeds (w:World) (A:Option Addr) (n:Nat) (l:List De):Prop:=Sl eDe 12 w A n l
theorem Deeds.get {w:World} {A:Option Addr} {n:Nat} {l:List De} (h:Deeds w A n l) {k:Nat} (hk:k < n) :
 ∃ b off d,A = some ⟨b,off,none⟩∧b < w.heap.size∧l[k]? = some d∧w.cell? ⟨b,off + k * 12,none⟩ = some (.int .i64 d.kind) ∧
  w.cell? ⟨b,off + k * 12 + 1,none⟩ = some (.int .i64 d.flock)∧w.cell? ⟨b,off + k * 12 + 2,none⟩ = some (.int .i64 d.owner)∧w.cell? ⟨b,off + k * 12 + 3,none⟩ = some (.int .i64 d.other) ∧
  w.cell? ⟨b,off + k * 12 + 4,none⟩ = some (.int .i64 d.tof)∧w.cell? ⟨b,off + k * 12 + 5,none⟩ = some (.int .i64 d.many)∧w.cell? ⟨b,off + k * 12 + 6,none⟩ = some (.int .i64 d.err) ∧
  w.cell? ⟨b,off + k * 12 + 7,none⟩ = some (.int .i64 d.s.n)∧w.cell? ⟨b,off + k * 12 + 8,none⟩ = some (.bool d.s.l)∧w.cell? ⟨b,off + k * 12 + 9,none⟩ = some (.bool d.s.r) ∧
  w.cell? ⟨b,off + k * 12 + 10,none⟩ = some (.int .i64 d.s.b)∧w.cell? ⟨b,off + k * 12 + 11,none⟩ = some (.int .i64 d.s.p):=by
 obtain ⟨b,off,x,hA,hx,hc⟩:=h.at_ hk
 have h0:=hc 0 _ rfl
 exact ⟨b,off,x,hA,cell_lt h0,hx,h0,hc 1 _ rfl,hc 2 _ rfl,hc 3 _ rfl,hc 4 _ rfl,hc 5 _ rfl,hc 6 _ rfl,hc 7 _ rfl,hc 8 _ rfl,hc 9 _ rfl,hc 10 _ rfl,hc 11 _ rfl⟩
theorem info_deed:(Tryz.prog.info? 33).map (·.size) = some 12:=by kernel_rfl
abbrev dZ:Obj:=.cells #[.int .i64 0,.int .i64 0,.int .i64 0,.int .i64 0,.int .i64 0,.int .i64 0,.int .i64 0,.int .i64 0,.bool false,.bool false,.int .i64 0,.int .i64 0] 33 (0,0)
theorem wp_storeD {ops:Array Oper} {rest:List Oper} {o:Oper} {a:Act} {w:World} {Q:Exit→Act→World→Prop} {b:Nat} {d:De} {old:Array Value} (hb:w.heap[b]? = some (.cells old 33 (0,0))) (hold:old.size = 12)
 (hg:o.guard = none) (x y:Operand) (ho:o.op = .store 33 x y) (hx:a.eval x = .pointer (some ⟨b,0,none⟩)) (hy:a.eval y = dv d)
 (hK:∀ w2,w2.heap[b]? = some (dObj d)→w.grownBy w2 (some b)→w2.heap.size = w.heap.size→wpList Tryz.prog ops Q rest (a.put o.dst undef) w2):wpList Tryz.prog ops Q (o :: rest) a w:=by
 refine wpList_store_row hg 33 x y ho b _ hx hy _ old hb (by rw [info_deed];rfl) (by rw [hold];rfl) (by simp [Value.oneCell']) (hK _ (setRow_heap _ _ _ _ _ _ hb) ⟨rfl,rfl,rfl,by simp [World.setRow],fun k hk hne => ?_⟩ (by simp [World.setRow]))
 unfold World.setRow
 rw [Array.getElem?_modify,if_neg (fun e => hne (by rw [e]))]
structure Hb where
 t:Int
 A:Option Addr
 c:Nat
 l:List Mk
 Ak:Option Addr
 ck:Nat
 ks:List Int
 Ah:Option Addr
 ch:Nat
 hs:List (List Int)
 Ad:Option Addr
 cd:Nat
 ds:List De
namespace Hb
variable (b:Hb)
abbrev vm:Value:=.slice b.A b.l.length b.c
abbrev vk:Value:=.slice b.Ak b.ks.length b.ck
abbrev vh:Value:=.slice b.Ah b.hs.length b.ch
abbrev vd:Value:=.slice b.Ad b.ds.length b.cd
abbrev v:Value:=.agg #[.int .i64 b.t,.slice b.A b.l.length b.c,.slice b.Ak b.ks.length b.ck,.slice b.Ah b.hs.length b.ch,.slice b.Ad b.ds.length b.cd]
abbrev bk (deed owner now:Int):Obj:=bkObj b.t b.A b.l.length b.c b.vk b.vh b.vd deed owner now
def chk:Int:=checkH b.t b.l b.ks b.hs b.ds
def ends (deed owner:Int):List (List Int):=endsL b.t b.l b.hs b.ds deed owner
end Hb
structure HbIn (w:World) (b:Hb):Prop where
 m:Marks w b.A b.l.length b.l
 mc:b.l.length ≤ b.c
 mm:b.c ≤ maxLen
 k:Ints w b.Ak b.ks.length b.ks
 kc:b.ks.length ≤ b.ck
 km:b.ck ≤ maxLen
 h:Grid w b.Ah b.hs.length b.hs
 hc:b.hs.length ≤ b.ch
 hm:b.ch ≤ maxLen
 d:Deeds w b.Ad b.ds.length b.ds
 dc:b.ds.length ≤ b.cd
 dm:b.cd ≤ maxLen
theorem HbIn.below {w w':World} {b:Hb} {B:Nat} (h:HbIn w b) (hb:Below B w w') (hB:w.heap.size ≤ B):HbIn w' b :=
 ⟨h.m.below hb hB,h.mc,h.mm,h.k.below hb hB,h.kc,h.km,h.h.below hb hB,h.hc,h.hm,h.d.below hb hB,h.dc,h.dm⟩
structure NowIn (p:Nat) (O:Int→Obj) (w w':World):Prop where
 os:w'.os = w.os
 tape:w'.tape = w.tape
 output:w'.output = w.output
 size:w.heap.size ≤ w'.heap.size
 block:∀ k,k < w.heap.size→k ≠ p→w'.heap[k]? = w.heap[k]?
 hp:∃ now,w'.heap[p]? = some (O now)
section
variable {p:Nat} {O:Int→Obj} {a b c w w':World}
theorem NowIn.refl (h:∃ now,w.heap[p]? = some (O now)):NowIn p O w w:=⟨rfl,rfl,rfl,Nat.le_refl _,fun _ _ _ => rfl,h⟩
theorem NowIn.trans (h:NowIn p O a b) (k:NowIn p O b c):NowIn p O a c :=
 ⟨k.os.trans h.os,k.tape.trans h.tape,k.output.trans h.output,Nat.le_trans h.size k.size,fun i hi hne => (k.block i (Nat.lt_of_lt_of_le hi h.size) hne).trans (h.block i hi hne),k.hp⟩
theorem NowIn.lt (h:NowIn p O a b):p < b.heap.size:=by obtain ⟨n,hn⟩:=h.hp;exact heap_lt hn
theorem NowIn.then (h:NowIn p O a b) (hp:p < a.heap.size) (os:c.os = b.os) (tape:c.tape = b.tape) (output:c.output = b.output) (size:a.heap.size ≤ c.heap.size) (block:∀ k,k < a.heap.size→c.heap[k]? = b.heap[k]?):NowIn p O a c :=
 ⟨os.trans h.os,tape.trans h.tape,output.trans h.output,size,fun i hi hne => (block i hi).trans (h.block i hi hne),by obtain ⟨n,hn⟩:=h.hp;exact ⟨n,(block p hp).trans hn⟩⟩
theorem NowIn.below {B:Nat} (h:NowIn p O a b) (hp:p < a.heap.size) (k:Below B b c) (hB:a.heap.size ≤ B):NowIn p O a c :=
 h.then hp k.os k.tape k.output (Nat.le_trans h.size k.size) fun i hi => k.block i (by omega)
theorem NowIn.grown {row:Option Nat} (h:NowIn p O a b) (hp:p < a.heap.size) (k:b.grownBy c row) (hr:∀ i,row = some i→a.heap.size ≤ i):NowIn p O a c :=
 h.then hp k.os k.tape k.output (Nat.le_trans h.size k.size) fun i hi => k.block i (by have:=h.size;omega) (fun e => by have:=hr i e.symm;omega)
theorem NowIn.drew (h:NowIn p O a b):NowIn p O a b.drew:=⟨h.os,h.tape,h.output,h.size,h.block,h.hp⟩
theorem NowIn.less {B:Nat} (h:NowIn p O a b) (hB:B ≤ p) (hw:B ≤ a.heap.size):Below B a b:=⟨h.os,h.tape,h.output,h.size,fun k hk => h.block k (by omega) (by omega)⟩
theorem NowIn.of_below {B:Nat} (h:Below B a b) (hp:∃ now,a.heap[p]? = some (O now)) (hB:a.heap.size ≤ B):NowIn p O a b :=
 (NowIn.refl hp).below (by obtain ⟨n,hn⟩:=hp;exact heap_lt hn) h hB
theorem NowIn.blk {k:Nat} {o:Obj} (h:NowIn p O a b) (hk:a.heap[k]? = some o) (hne:k ≠ p):b.heap[k]? = some o:=(h.block k (heap_lt hk) hne).trans hk
theorem NowIn.puts {M:Nat} {L:List (List Int)} (h:NowIn p O a b) (hp:p < a.heap.size) (k:PutsH b c M L) (hM:a.heap.size ≤ M):NowIn p O a c:=h.grown hp k.gr (fun i e => by cases e;exact hM)
end
structure Work (w0:World) (p:Nat) (b:Hb) (deed owner:Int) (w:World):Prop where
 hin:HbIn w0 b
 hz:w0.heap.size ≤ p
 bel:Below w0.heap.size w0 w
 hp:∃ now,w.heap[p]? = some (b.bk deed owner now)
 ck:b.chk = 0
section
variable {w0 w w':World} {p:Nat} {b:Hb} {deed owner:Int}
theorem Work.lt (h:Work w0 p b deed owner w):p < w.heap.size:=by obtain ⟨n,hn⟩:=h.hp;exact heap_lt hn
theorem Work.now (h:Work w0 p b deed owner w) (k:NowIn p (b.bk deed owner) w w'):Work w0 p b deed owner w':=⟨h.hin,h.hz,h.bel.trans (k.less h.hz h.bel.size),k.hp,h.ck⟩
theorem Work.below {B:Nat} (h:Work w0 p b deed owner w) (k:Below B w w') (hB:w.heap.size ≤ B):Work w0 p b deed owner w':=h.now (NowIn.of_below k h.hp hB)
theorem Work.inn (h:Work w0 p b deed owner w):HbIn w b:=h.hin.below h.bel (Nat.le_refl _)
theorem Work.ok (h:Work w0 p b deed owner w):HeOk b.t b.l b.ks b.hs b.ds:=checkH_ok h.ck
theorem Work.book (h:Work w0 p b deed owner w) {now:Int} (hp:w.heap[p]? = some (b.bk deed owner now)):Book w p b.t b.A b.l.length b.c b.l b.vk b.vh b.vd deed owner now :=
 ⟨hp,h.inn.m,h.inn.mc,h.inn.mm,h.ok.ck⟩
theorem Work.refl (h:Work w0 p b deed owner w):NowIn p (b.bk deed owner) w w:=NowIn.refl h.hp
end
def ExN (p:Nat) (A B:World):Prop:=∃ i:Int,B = A.setCell ⟨p,7,none⟩ (.int .i64 i)
theorem ExN.others {p:Nat} (A B:World) (h:ExN p A B):KeepsOthers A B:=by obtain ⟨i,rfl⟩:=h;exact KeepsOthers.setCell _ _ _
theorem bk_set {w:World} {p:Nat} {b:Hb} {deed owner now:Int} (h:w.heap[p]? = some (b.bk deed owner now)) (i:Int):(w.setCell ⟨p,7,none⟩ (.int .i64 i)).heap[p]? = some (b.bk deed owner i):=by
 rw [set_blk h];rfl
theorem NowIn.set {p:Nat} {b:Hb} {deed owner:Int} {w w':World} (h:NowIn p (b.bk deed owner) w w') (i:Int):NowIn p (b.bk deed owner) w (w'.setCell ⟨p,7,none⟩ (.int .i64 i)):=by
 obtain ⟨n,hn⟩:=h.hp
 exact ⟨h.os,h.tape,h.output,by simpa using h.size,fun k hk hne => (Below.heap_setCell _ ⟨p,7,none⟩ _ _ hne).trans (h.block k hk hne),⟨i,bk_set hn i⟩⟩
theorem now_abides {p:Nat} {b:Hb} {deed owner:Int} {w w':World} {β:Type} {J:β→World→Prop} {s:β} (hJ:AbidesFrom w.heap.size J) (hE:∀ s A B,J s A→ExN p A B→J s B) (h:NowIn p (b.bk deed owner) w w') (h0:∃ now,w.heap[p]? = some (b.bk deed owner now)) (hs:J s w):J s w':=by
 obtain ⟨n,hn⟩:=h.hp
 obtain ⟨n0,hn0⟩:=h0
 refine hJ s (w.setCell ⟨p,7,none⟩ (.int .i64 n)) w' none (hE _ _ _ hs ⟨n,rfl⟩) ⟨h.os,h.tape,h.output,by simpa using h.size,fun k hk _ => ?_⟩ (fun r e => by cases e)
 by_cases e:k = p
 ·subst e;rw [hn,bk_set hn0]
 ·rw [Below.heap_setCell _ ⟨p,7,none⟩ _ _ e]
  exact h.block k (by simpa using hk) e
end Go.Proofs.YtmennjmjakdkcaaGreat
namespace Go.Proofs.YtmennjmjakdkcaaGreat
open Go.RowKit
set_option linter.unusedVariables false
set_option linter.unusedSimpArgs false
set_option maxHeartbeats 1000000 in
theorem copyInts_any (A:Option Addr) (n c:Nat) (l:List Int) (w:World) (hl:Ints w A n l) (hz:A = none→c = 0) (hn:n ≤ 4294967295) :
 Calls Tryz.prog 52 #[.slice A n c] w fun e w' => ∃ v,e = .returned v∧Own eInt 3 1 w' w.heap.size v l∧Below w.heap.size w w':=by
 have HL:=Lib.hid (And.intro hl hz)
 have HB:=Lib.hid (bal0 w (Obj.cells #[] 3))
 have HLW:=Lib.hid (HL.out.1.below HB.out (Nat.le_refl _))
 have HOWN:=Lib.hid (show Own eInt 3 1 (w.alloc (Obj.cells #[] 3)) w.heap.size (.slice (some ⟨w.heap.size,0,none⟩) 0 0) [] from Own.lit (enc:=eInt) w w.heap.size #[] [] rfl lenInt (by omega) (by simp [maxLen]))
 clear hl hz
 go_enter Tryz.func52,Tryz.ntmps52
 go_wp2_with (at_builtin;refine wp_apps okInt rfl (.tmp 3) (.tmp 4) rfl w.heap.size (.slice (some ⟨w.heap.size,0,none⟩) 0 0) [] A n c l rfl rfl HLW.out HL.out.2 lenInt one_eInt HOWN.out ?_ ?_ ?_ ?_;(simp;omega);(omega);(simp);intro v' w5 hown5 hgr5 hb5;have HH:=Lib.hid (And.intro hown5 hb5);clear hown5 hgr5 hb5)
 go_ret
 have h:=HH.out.1
 rw [List.nil_append] at h
 exact ⟨_,rfl,h,HB.out.trans HH.out.2⟩
end Go.Proofs.YtmennjmjakdkcaaGreat
namespace Go.Proofs.YtmennjmjakdkcaaGreat
open Go.RowKit
set_option linter.unusedVariables false
set_option linter.unusedSimpArgs false
theorem among_any (H N:Nat) (lo hi:Int) (w:World) (h:Hd w H N) (hN:N ≤ 4611686018427387904) (h1:-1000000 ≤ lo∧lo ≤ 1000000) (h2:-1000000 ≤ hi∧hi ≤ 1000000) :
 Calls Tryz.prog 50 #[.pointer (some ⟨H,0,none⟩),.int .i64 lo,.int .i64 hi] w fun e w' => ∃ x:Int,e = .returned (.int .i64 x)∧lo ≤ x∧(x ≤ hi ∨ x = lo)∧Dealt w w' H (N + 1):=by
 go_enter Tryz.func50,Tryz.ntmps50
 go_wp2_with fail
 refine (upto_any H N (hi - lo) _ h hN (by omega)).mono ?_
 rintro e w1 ⟨n,rfl,hn,hd⟩
 have hn':(n:Int) ≤ 2000000:=by omega
 go_wp2_with fail
 go_ret
 exact ⟨lo + n,rfl,by omega,by omega,hd⟩
theorem wrapN_any (x n:Nat) (w:World) (hx:x ≤ 1000000) (h1:1 ≤ n) (h2:n ≤ 1000000) :
 Calls Tryz.prog 74 #[.int .i64 x,.int .i64 n] w fun e w' => e = .returned (.int .i64 ((x % n:Nat):Int))∧w = w':=by
 have h1':¬ ((n:Int) < 1):=by omega
 have hk0:((n:Int) == 0) = false:=beq_eq_false_iff_ne.2 (by omega)
 obtain ⟨m,hm⟩:∃ m,m = x % n:=⟨_,rfl⟩
 have ht:(x:Int).tmod (n:Int) = (m:Int):=by rw [hm];exact Int.ofNat_tmod x n
 have hm0:m < n:=by rw [hm];exact Nat.mod_lt _ (by omega)
 have hw:wrap64 (m:Int) = m:=IntWalk.wrap64_in _ (by omega)
 have hlt:¬ ((m:Int) < 0):=by omega
 rw [← hm]
 clear hm
 go_enter Tryz.func74,Tryz.ntmps74
 go_wp2_with fail
 go_ret
 exact ⟨rfl,rfl⟩
theorem sumI_take {l:List Int} {k:Nat} {x:Int} (h:l[k]? = some x):(l.take (k + 1)).sum = (l.take k).sum + x:=by
 rw [List.take_add_one,h]
 simp
theorem sum_bd {B:Int} (hB:0 ≤ B):∀ {l:List Int},(∀ x ∈ l,-B ≤ x∧x ≤ B)→-(B * l.length) ≤ l.sum∧l.sum ≤ B * l.length
 | [],_ => by simp
 | x :: l,h => by
   have ih:=sum_bd hB (l:=l) fun y hy => h y (List.mem_cons_of_mem _ hy)
   have hx:=h x List.mem_cons_self
   rw [List.sum_cons,List.length_cons]
   have:B * ((l.length + 1:Nat):Int) = B * (l.length:Int) + B:=by rw [Int.natCast_add,Int.mul_add];simp
   omega
set_option maxHeartbeats 1000000 in
theorem total_any (A:Option Addr) (n c:Nat) (l:List Int) (w:World) (hl:Ints w A n l) (hn:n ≤ 100000) (hb:∀ x ∈ l,-100000 ≤ x∧x ≤ 100000) :
 Calls Tryz.prog 32 #[.slice A n c] w fun e w' => e = .returned (.int .i64 l.sum)∧w = w':=by
 have hlen:=hl.len
 have HL:=Lib.hid (And.intro hl (And.intro hlen hb))
 clear hl hlen hb
 obtain ⟨wo,hwo⟩:∃ wo,wo = w:=⟨_,rfl⟩
 rw [← hwo]
 have HW:=Lib.hid hwo
 clear hwo
 go_enter Tryz.func32,Tryz.ntmps32
 go_wp2_with fail
 go_loopg [3,4] n (fun g v3 v4 wr => ∃ k:Nat,k + g = n∧v4 = .int .i64 k∧v3 = .int .i64 (l.take k).sum∧wr = wo)
 case atStart => exact ⟨0,by omega,rfl,by simp,rfl⟩
 case round =>
  obtain ⟨k,hk,rfl,rfl,rfl⟩:=hrel
  by_cases hlt:k < n
  ·obtain ⟨b,off,x,rfl,hbb,hx,c0⟩:=(HW.out ▸ HL.out.1).get hlt
   have hbx:=HL.out.2.2 x (List.mem_of_getElem? hx)
   obtain ⟨s,hs⟩:∃ s,s = (l.take k).sum:=⟨_,rfl⟩
   have hsb:=sum_bd (B:=100000) (by decide) (l:=l.take k) (fun y hy => HL.out.2.2 y (List.mem_of_mem_take hy))
   have htl:(l.take k).length ≤ 100000:=by rw [List.length_take];omega
   rw [← hs] at hsb ⊢
   have h1:-10000000000 ≤ s∧s ≤ 10000000000:=by omega
   have h2:(k:Int) < (n:Int):=by omega
   have HX:=Lib.hid (And.intro hx (And.intro hs hk))
   clear hx hs hsb htl hk
   go_wp2_with fail
   go_roundg (gk - 1)
   case measure => have:=HX.out.2.2;omega
   case rel => exact ⟨k + 1,by have:=HX.out.2.2;omega,by go_num,by rw [sumI_take HX.out.1,← HX.out.2.1],rfl⟩
  ·obtain rfl:k = n:=by omega
   have e:l.take k = l:=List.take_of_length_le (by rw [HL.out.2.1];exact Nat.le_refl _)
   rw [e]
   obtain ⟨s,hs⟩:∃ s,s = l.sum:=⟨_,rfl⟩
   rw [← hs]
   have HS:=Lib.hid hs
   clear hs
   go_wp2_with fail
   go_ret
   exact ⟨by rw [← HS.out];rfl,rfl⟩
def ApartV (a b:Value):Prop:=∀ k,a.ownBlock = some k→b.ownBlock ≠ some k
def EndG (w:World) (base:Nat) (v:Value) (ls:List (List Int)):Prop:=∃ mv,Own eVal 25 1 w base v mv∧Rws w base mv ls∧mv.Pairwise ApartV
section
variable {w w':World} {base B:Nat} {v v' u:Value} {ls:List (List Int)} {l:List Int}
theorem EndG.nil_:EndG w base (.slice none 0 0) []:=⟨[],Own.nil_,⟨rfl,fun i v h => by simp at h⟩,List.Pairwise.nil⟩
theorem EndG.ownG (h:EndG w base v ls):OwnG w base v ls:=by obtain ⟨mv,h1,h2,_⟩:=h;exact ⟨mv,h1,h2⟩
theorem EndG.map (h:EndG w base v ls) (k1:∀ mv,Own eVal 25 1 w base v mv→Own eVal 25 1 w' base v mv) (k2:∀ u l,OwnI w base u l→OwnI w' base u l):EndG w' base v ls:=by
 obtain ⟨mv,h1,⟨h2,h3⟩,h4⟩:=h
 exact ⟨mv,k1 _ h1,⟨h2,fun i v hv => by obtain ⟨l,hl,ho⟩:=h3 i v hv;exact ⟨l,hl,k2 _ _ ho⟩⟩,h4⟩
theorem EndG.below (h:EndG w base v ls) (hb:Below B w w') (hB:w.heap.size ≤ B):EndG w' base v ls:=h.map (fun _ h => h.below hb hB) fun _ _ h => h.below hb hB
theorem EndG.upon (h:EndG w base v ls) (k:∀ j,base ≤ j→w'.heap[j]? = w.heap[j]?):EndG w' base v ls:=h.map (fun _ h => h.upon k) fun _ _ h => h.upon k
theorem Own.row {α:Type} {enc:α→List Value} {e:TypeId} {sz:Nat} {l:List α} {row:Option Nat} (h:Own enc e sz w base v l) (hg:w.grownBy w' row) (hr:∀ k,row = some k→k < base):Own enc e sz w' base v l:=by
 refine h.kept hg ?_
 cases hv:v.ownBlock with
 | none => exact .inl rfl
 | some j => exact .inr fun e => by have:=hr j e.symm;have:=h.lt j hv;omega
theorem EndG.grown {row:Option Nat} (h:EndG w base v ls) (hg:w.grownBy w' row) (hr:∀ k,row = some k→k < base):EndG w' base v ls:=h.map (fun _ h => h.row hg hr) fun _ _ h => h.row hg hr
theorem EndG.mono {b:Nat} (h:EndG w base v ls) (hb:b ≤ base):EndG w b v ls:=by
 obtain ⟨mv,h1,⟨h2,h3⟩,h4⟩:=h
 exact ⟨mv,h1.mono hb,⟨h2,fun i v hv => by obtain ⟨l,hl,ho⟩:=h3 i v hv;exact ⟨l,hl,ho.mono hb⟩⟩,h4⟩
theorem EndG.len (h:EndG w base v ls):ls.length ≤ maxLen:=by
 obtain ⟨A,c,_,_,h3,h4⟩:=h.ownG.form
 omega
theorem EndG.snoc {mv:List Value} {b':Nat} (h1:Own eVal 25 1 w base v mv) (h2:Rws w base mv ls) (h4:mv.Pairwise ApartV) (hu:OwnI w b' u l) (hb:base ≤ b') (hf:∀ x ∈ mv,∀ k,x.ownBlock = some k→k < b')
 (h3:Own eVal 25 1 w' base v' (mv ++ [u])) (hg:w.grownBy w' v.ownBlock):EndG w' base v' (ls ++ [l]):=by
 refine ⟨mv ++ [u],h3,⟨by simp [h2.1],fun i x hx => ?_⟩,?_⟩
 ·rcases Nat.lt_or_ge i mv.length with hi | hi
  ·rw [List.getElem?_append_left hi] at hx
   obtain ⟨l',hl',ho⟩:=h2.2 i x hx
   exact ⟨l',by rw [List.getElem?_append_left (by rw [← h2.1];exact hi)];exact hl',ho.kept hg (own_ne ho h1 (by decide))⟩
  ·rw [List.getElem?_append_right hi] at hx
   have h0:i - mv.length = 0:=by
    cases hd:i - mv.length with
    | zero => rfl
    | succ k => rw [hd] at hx;simp at hx
   rw [h0] at hx
   simp only [List.getElem?_cons_zero,Option.some.injEq] at hx
   subst hx
   refine ⟨l,?_,(hu.kept hg (own_ne hu h1 (by decide))).mono hb⟩
   rw [List.getElem?_append_right (by rw [← h2.1];exact hi),show i - ls.length = 0 by rw [← h2.1];exact h0]
   rfl
 ·rw [List.pairwise_append]
  refine ⟨h4,List.pairwise_singleton _ _,fun x hx y hy k hk e => ?_⟩
  rw [List.mem_singleton.1 hy] at e
  have:=hf x hx k hk
  have:=hu.lt k e
  omega
theorem Own.put1 {A:Option Addr} {n c:Nat} (h:OwnI w base (.slice A n c) l) {o:Nat} (ho:o < l.length) (x:Int) :
 ∃ g,A = some ⟨g,0,none⟩∧base ≤ g∧g < w.heap.size∧w.cell? ⟨g,o,none⟩ = some (.int .i64 (l.getD o 0))∧w.frozen? ⟨g,o,none⟩ = false∧OwnI (w.setCell ⟨g,o,none⟩ (.int .i64 x)) base (.slice A n c) (l.set o x):=by
 have flat:∀ x:List Int,x.flatMap eInt = x.map (Value.int .i64):=fun x => by
  induction x with
  | nil => rfl
  | cons a r ih => rw [List.flatMap_cons,ih];rfl
 rcases h.2 with ⟨hv,h0⟩ | ⟨g,cap,cur,hv,hg,hh,hnc,hcm,hsz,htk⟩
 ·omega
 ·cases hv
  have hlo:o < c:=by omega
  have hm:(l.flatMap eInt)[o]? = some (Value.int .i64 (l.getD o 0)):=by
   rw [flat,List.getElem?_map,List.getElem?_eq_getElem ho,List.getD_eq_getElem?_getD,List.getElem?_eq_getElem ho];rfl
  have hco:cur[o]? = some (Value.int .i64 (l.getD o 0)):=by
   rw [← htk,List.getElem?_take_of_lt (by omega),Array.getElem?_toList] at hm
   exact hm
  refine ⟨g,rfl,hg,heap_lt hh,?_,frz hh o,?_⟩
  ·unfold World.cell?;simp [hh,hco]
  ·refine ⟨by simp [flat],.inr ⟨g,c,cur.setIfInBounds o (.int .i64 x),by simp,hg,set_blk hh,by simpa using hnc,hcm,by simpa using hsz,?_⟩⟩
   rw [Array.toList_setIfInBounds,List.take_set,List.length_set,htk,flat,flat,List.map_set]
theorem grownBy_cell (w:World) (g o:Nat) (x:Value):w.grownBy (w.setCell ⟨g,o,none⟩ x) (some g):=⟨rfl,rfl,rfl,by simp,fun j _ hj => Below.heap_setCell _ ⟨g,o,none⟩ _ _ (fun e => hj (by rw [e]))⟩
theorem EndG.at {f o:Nat} (h:EndG w base v ls) (hf:f < ls.length) (hr:o < (ls.getD f []).length) :
 ∃ b off c g cg,v = .slice (some ⟨b,off,none⟩) ls.length c∧w.cell? ⟨b,off + f,none⟩ = some (.slice (some ⟨g,0,none⟩) (ls.getD f []).length cg)∧(ls.getD f []).length ≤ cg∧cg ≤ maxLen ∧
  base ≤ g∧g < w.heap.size∧w.cell? ⟨g,o,none⟩ = some (.int .i64 ((ls.getD f []).getD o 0))∧w.frozen? ⟨g,o,none⟩ = false ∧
  ∀ x,EndG (w.setCell ⟨g,o,none⟩ (.int .i64 x)) base v (ls.set f ((ls.getD f []).set o x)):=by
 obtain ⟨mv,h1,⟨h2,h3⟩,h4⟩:=h
 have hfm:f < mv.length:=by omega
 obtain ⟨row,hrow,hor⟩:=h3 f mv[f] (List.getElem?_eq_getElem hfm)
 have hg:ls.getD f [] = row:=by rw [List.getD_eq_getElem?_getD,hrow];rfl
 rw [hg] at hr ⊢
 obtain ⟨A,c,hv,hs,hc,hm⟩:=h1.form lenVal
 obtain ⟨b,off,x,hA,hb,hx,hcell⟩:=Vals.get (hs) hfm
 have hxe:x = mv[f]:=by rw [List.getElem?_eq_getElem hfm] at hx;exact (Option.some.inj hx).symm
 subst hxe
 obtain ⟨A',c',hv',hs',hc',hm'⟩:=hor.form lenInt
 obtain ⟨g,hA',hg1,hg2,hg3,hg4,hg5⟩:=Own.put1 (hv' ▸ hor) hr 0
 subst hA hA'
 refine ⟨b,off,c,g,c',by rw [hv,h2],by rw [hcell,hv'],hc',hm',hg1,hg2,hg3,hg4,fun y => ?_⟩
 have hgr:=grownBy_cell w g o (.int .i64 y)
 have hvb:mv[f].ownBlock = some g:=by rw [hv'];rcases hor.2 with ⟨e,_⟩ | ⟨g',cap,cur,e,_⟩ <;> rw [hv'] at e <;> cases e;rfl
 refine ⟨mv,h1.kept hgr ?_,⟨by rw [List.length_set];exact h2,fun i u hu => ?_⟩,h4⟩
 ·rcases own_ne hor h1 (by decide) with e | e
  ·rw [hvb] at e;cases e
  ·exact .inr fun e' => e (hvb.trans e'.symm)
 ·by_cases hif:f = i
  ·subst hif
   have hue:u = mv[f]:=by rw [List.getElem?_eq_getElem hfm] at hu;exact (Option.some.inj hu).symm
   subst hue
   refine ⟨row.set o y,by rw [List.getElem?_set_self hf],?_⟩
   obtain ⟨g',e,_,_,_,_,k⟩:=Own.put1 (hv' ▸ hor) hr y
   cases e
   rw [hv']
   exact k
  ·obtain ⟨l',hl',ho'⟩:=h3 i u hu
   refine ⟨l',by rw [List.getElem?_set_ne hif];exact hl',ho'.kept hgr ?_⟩
   right
   intro e
   have him:i < mv.length:=(List.getElem?_eq_some_iff.1 hu).1
   have hue:mv[i] = u:=by rw [List.getElem?_eq_getElem him] at hu;exact Option.some.inj hu
   rcases Nat.lt_or_gt_of_ne hif with h | h
   ·exact (List.pairwise_iff_getElem.1 h4 f i hfm him h) g hvb (by rw [hue];exact e)
   ·exact (List.pairwise_iff_getElem.1 h4 i f him hfm h) g (by rw [hue];exact e) hvb
end
theorem row_get {w:World} {A:Option Addr} {n:Nat} {gs:List (List Int)} {k:Nat} {l:List Int} (hk:gs[k]? = some l):gs.getD k [] = l:=by rw [List.getD_eq_getElem?_getD,hk];rfl
theorem flockSum_any (A:Option Addr) (n c f:Nat) (gs:List (List Int)) (w:World) (hg:Grid w A n gs) (hf:f < n) (hn:n ≤ 1000) (hb:∀ r ∈ gs,r.length ≤ 1000∧∀ x ∈ r,-100000 ≤ x∧x ≤ 100000) :
 Calls Tryz.prog 75 #[.slice A n c,.int .i64 f] w fun e w' => e = .returned (.int .i64 (gs.getD f []).sum)∧w = w':=by
 obtain ⟨b,off,B,l,c',rfl,hbw,hl,hc,hi,hlc,hcm⟩:=hg.get hf
 have hbl:=hb l (List.mem_of_getElem? hl)
 have hto:=total_any B l.length c' l w hi (by omega) hbl.2
 rw [row_get (w:=w) (A:=B) (n:=0) hl]
 obtain ⟨s,hs⟩:∃ s,s = l.sum:=⟨_,rfl⟩
 rw [← hs] at hto ⊢
 have h1:(f:Int) < (n:Int):=by omega
 have h2:(n:Int) ≤ 1000:=by omega
 have HX:=Lib.hid (And.intro hl (And.intro hbl hs))
 clear hl hbl hs hg hb hi
 go_enter Tryz.func75,Tryz.ntmps75
 go_wp2_with (go_at_call 32;refine hto.mono ?_;rintro e w2 ⟨rfl,rfl⟩)
 go_ret
 exact ⟨rfl,rfl⟩
def Holds (row:List Int) (o:Int):Prop:=(o = -1∧∀ x ∈ row,x ≤ 0) ∨ ∃ k:Nat,o = k∧k < row.length∧0 < row.getD k 0
def HoldR (H N:Nat) (row:List Int) (w:World) (e:Ending) (w':World):Prop:=∃ o,e = .returned (.int .i64 o)∧Holds row o∧Dealt w w' H N
set_option maxHeartbeats 1000000 in
theorem holder_any (H N:Nat) (A:Option Addr) (n c f:Nat) (gs:List (List Int)) (w:World) (h:Hd w H N) (hN:N ≤ 4611686018427387904) (hg:Grid w A n gs) (hf:f < n) (hn:n ≤ 1000) (hb:∀ r ∈ gs,r.length ≤ 1000∧∀ x ∈ r,-100000 ≤ x∧x ≤ 100000) :
 Calls Tryz.prog 73 #[.pointer (some ⟨H,0,none⟩),.slice A n c,.int .i64 f] w (HoldR H (N + 1) (gs.getD f []) w):=by
 have hHl:=h.lt
 obtain ⟨b,off,B,l,c',rfl,hbw,hl,hc,hi,hlc,hcm⟩:=hg.get hf
 have hbl:=hb l (List.mem_of_getElem? hl)
 rw [row_get (w:=w) (A:=B) (n:=0) hl]
 obtain ⟨m,hm⟩:∃ m,m = l.length:=⟨_,rfl⟩
 rw [← hm] at hc hi
 have hm1:m ≤ 1000:=by omega
 have h1:(f:Int) < (n:Int):=by omega
 have h2:(n:Int) ≤ 1000:=by omega
 have HX:=Lib.hid (And.intro h (And.intro hc (And.intro hi (And.intro hm hbl.2))))
 clear hl hbl hg hb hi hm hc h
 go_enter Tryz.func73,Tryz.ntmps73
 go_wp2_with fail
 go_loopg [7,8] m (fun g v7 v8 wr => ∃ k:Nat,k + g = m∧v8 = .int .i64 k∧(∃ os:List Int,OwnI wr w.heap.size v7 os∧os.length ≤ k∧(∀ o ∈ os,∃ j:Nat,o = j∧j < m∧0 < l.getD j 0)∧(os = []→∀ j,j < k→l.getD j 0 ≤ 0))∧Below w.heap.size w wr)
 case atStart => exact ⟨0,by omega,rfl,⟨[],Own.nil_,by simp,by simp,fun _ j hj => by omega⟩,Below.refl _ _⟩
 case round =>
  obtain ⟨k,hk,rfl,⟨os,hown,hol,hos,hno⟩,hB⟩:=hrel
  have c0:=bcell HX.out.2.1 hB (Nat.le_refl _)
  have hBz:=hB.size
  by_cases hlt:k < m
  ·obtain ⟨b2,off2,x,rfl,hb2,hx,c1⟩:=Ints.get (HX.out.2.2.1.below hB (Nat.le_refl _)) hlt
   have hxg:l.getD k 0 = x:=by rw [List.getD_eq_getElem?_getD,hx];rfl
   have h3:(k:Int) < (m:Int):=by omega
   have h4:(m:Int) ≤ 1000:=by omega
   have HK:=Lib.hid (And.intro hk (And.intro hown (And.intro hol (And.intro hos (And.intro hno (And.intro hB hxg))))))
   clear hk hown hol hos hno hB hx hxg
   by_cases hp:0 < x
   ·have hll:os.length < 4294967296:=by have:=HK.out.2.2.1;omega
    go_wp2_with (at_builtin;refine wp_app okInt rfl (.tmp 26) (.tmp 28) rfl w.heap.size _ os (k:Int) _ rfl rfl rfl rfl (one_eInt _) HK.out.2.1 ?_ ?_ ?_ ?_;(omega);(omega);(omega);intro v' w4 hown4 hb4 _ hz4;have H4:=Lib.hid (And.intro hown4 hb4);clear hown4 hb4)
    go_roundg (gk - 1)
    case measure => have:=HK.out.1;omega
    case rel =>
     refine ⟨k + 1,by have:=HK.out.1;omega,by go_num,⟨os ++ [(k:Int)],H4.out.1,by simpa using HK.out.2.2.1,fun o ho => ?_,fun e => by simp at e⟩,HK.out.2.2.2.2.2.1.trans H4.out.2⟩
     rcases List.mem_append.1 ho with ho | ho
     ·exact HK.out.2.2.2.1 o ho
     ·exact ⟨k,List.mem_singleton.1 ho,by omega,by rw [HK.out.2.2.2.2.2.2];exact hp⟩
   ·go_wp2_with fail
    go_roundg (gk - 1)
    case measure => have:=HK.out.1;omega
    case rel =>
     refine ⟨k + 1,by have:=HK.out.1;omega,by go_num,⟨os,HK.out.2.1,by have:=HK.out.2.2.1;omega,HK.out.2.2.2.1,fun e j hj => ?_⟩,HK.out.2.2.2.2.2.1⟩
     rcases Nat.lt_or_ge j k with h | h
     ·exact HK.out.2.2.2.2.1 e j h
     ·obtain rfl:j = k:=by omega
      rw [HK.out.2.2.2.2.2.2];omega
  ·obtain rfl:k = m:=by omega
   have hhd:Hd wr H N:=HX.out.1.below hB hHl
   have hD:Dealt w wr H N:=⟨hhd,⟨hB.os,hB.tape,hB.output,hB.size,fun j hj _ => hB.block j hj⟩⟩
   obtain ⟨A7,c7,rfl,hs7,hc7,hm7⟩:=hown.form lenInt
   have HK:=Lib.hid (And.intro hown (And.intro hs7 (And.intro hos (And.intro hno (And.intro hD hol)))))
   obtain ⟨q,hq⟩:∃ q,q = os.length:=⟨_,rfl⟩
   rw [← hq] at hol ⊢
   have HQ:=Lib.hid hq
   clear hown hs7 hos hno hD hq hc7
   by_cases h0:q = 0
   ·subst h0
    go_wp2_with fail
    go_ret
    have he:os = []:=List.eq_nil_of_length_eq_zero HQ.out.symm
    refine ⟨-1,rfl,.inl ⟨rfl,fun x hx => ?_⟩,HK.out.2.2.2.2.1.mono (by omega)⟩
    obtain ⟨j,hj⟩:=List.mem_iff_getElem?.1 hx
    have:=HK.out.2.2.2.1 he j (by have:=(List.getElem?_eq_some_iff.1 hj).1;have:=HX.out.2.2.2.1;omega)
    rw [List.getD_eq_getElem?_getD,hj] at this
    exact this
   ·have h5:(q:Int) ≤ 1000:=by omega
    have h6:((q:Int) == 0) = false:=beq_eq_false_iff_ne.2 (by omega)
    have hup:=upto_any H N ((q:Int) - 1) wr hhd hN (by omega)
    have HU:=Lib.hid hup
    clear hup hhd
    go_wp2_with fail
    refine HU.out.mono ?_
    rintro e w1 ⟨r,rfl,hr,hd⟩
    have hrq:r < q:=by omega
    have hi7:Ints w1 A7 q os:=by
     have:=HK.out.2.1
     rw [← HQ.out] at this
     refine (HK.out.1.row hd.gr (fun k e => by cases e;exact hHl)).form lenInt |>.elim fun A8 h => ?_
     obtain ⟨c8,e8,s8,_⟩:=h
     cases e8
     rw [← HQ.out] at s8
     exact s8
    obtain ⟨b3,off3,y,rfl,hb3,hy,c3⟩:=hi7.get hrq
    obtain ⟨j,hj1,hj2,hj3⟩:=HK.out.2.2.1 y (List.mem_of_getElem? hy)
    have h7:(r:Int) < (q:Int):=by omega
    have HY:=Lib.hid (And.intro hd (And.intro hj1 (And.intro hj2 hj3)))
    clear hd hj1 hj2 hj3 hi7 hr
    go_wp2_with fail
    go_ret
    exact ⟨y,rfl,.inr ⟨j,HY.out.2.1,by rw [← HX.out.2.2.2.1];exact HY.out.2.2.1,HY.out.2.2.2⟩,HK.out.2.2.2.2.1.trans HY.out.1⟩
end Go.Proofs.YtmennjmjakdkcaaGreat
namespace Go.Proofs.YtmennjmjakdkcaaGreat
open Go.RowKit
set_option linter.unusedVariables false
set_option linter.unusedSimpArgs false
section
variable {α:Type} {enc:α→List Value} {e te:TypeId} {sz:Nat} {w w':World} {base B:Nat} {v v' u:Value} {mv:List Value} {ls:List (List α)} {l:List α}
def RwsA (enc:α→List Value) (e:TypeId) (sz:Nat) (w:World) (base:Nat) (mv:List Value) (ls:List (List α)):Prop :=
 mv.length = ls.length∧∀ (i:Nat) v,mv[i]? = some v→∃ l,ls[i]? = some l∧Own enc e sz w base v l
def OwnA (enc:α→List Value) (e te:TypeId) (sz:Nat) (w:World) (base:Nat) (v:Value) (ls:List (List α)):Prop:=∃ mv,Own eVal te 1 w base v mv∧RwsA enc e sz w base mv ls
theorem OwnA.nil_:OwnA enc e te sz w base (.slice none 0 0) []:=⟨[],Own.nil_,rfl,fun i v h => by simp at h⟩
theorem OwnA.below (h:OwnA enc e te sz w base v ls) (hb:Below B w w') (hB:w.heap.size ≤ B):OwnA enc e te sz w' base v ls:=by
 obtain ⟨mv,h1,h2,h3⟩:=h
 exact ⟨mv,h1.below hb hB,h2,fun i v hv => by obtain ⟨l,hl,ho⟩:=h3 i v hv;exact ⟨l,hl,ho.below hb hB⟩⟩
theorem OwnA.alloc (h:OwnA enc e te sz w base v ls) (o:Obj):OwnA enc e te sz (w.alloc o) base v ls:=h.below (bal0 w o) (Nat.le_refl _)
theorem OwnA.mono {b:Nat} (h:OwnA enc e te sz w base v ls) (hb:b ≤ base):OwnA enc e te sz w b v ls:=by
 obtain ⟨mv,h1,h2,h3⟩:=h
 exact ⟨mv,h1.mono hb,h2,fun i v hv => by obtain ⟨l,hl,ho⟩:=h3 i v hv;exact ⟨l,hl,ho.mono hb⟩⟩
theorem OwnA.map {w':World} (h:OwnA enc e te sz w base v ls) (k1:∀ mv,Own eVal te 1 w base v mv→Own eVal te 1 w' base v mv) (k2:∀ u l,Own enc e sz w base u l→Own enc e sz w' base u l):OwnA enc e te sz w' base v ls:=by
 obtain ⟨mv,h1,h2,h3⟩:=h
 exact ⟨mv,k1 _ h1,h2,fun i v hv => by obtain ⟨l,hl,ho⟩:=h3 i v hv;exact ⟨l,hl,k2 _ _ ho⟩⟩
theorem OwnA.snoc (hne:e ≠ te) (h1:Own eVal te 1 w base v mv) (h2:RwsA enc e sz w base mv ls) (hu:Own enc e sz w base u l)
 (h3:Own eVal te 1 w' base v' (mv ++ [u])) (hg:w.grownBy w' v.ownBlock):OwnA enc e te sz w' base v' (ls ++ [l]):=by
 refine ⟨mv ++ [u],h3,by simp [h2.1],fun i x hx => ?_⟩
 rcases Nat.lt_or_ge i mv.length with hi | hi
 ·rw [List.getElem?_append_left hi] at hx
  obtain ⟨l',hl',ho⟩:=h2.2 i x hx
  exact ⟨l',by rw [List.getElem?_append_left (by rw [← h2.1];exact hi)];exact hl',ho.kept hg (own_ne ho h1 hne)⟩
 ·rw [List.getElem?_append_right hi] at hx
  have h0:i - mv.length = 0:=by
   cases hd:i - mv.length with
   | zero => rfl
   | succ k => rw [hd] at hx;simp at hx
  rw [h0] at hx
  simp only [List.getElem?_cons_zero,Option.some.injEq] at hx
  subst hx
  refine ⟨l,?_,hu.kept hg (own_ne hu h1 hne)⟩
  rw [List.getElem?_append_right (by rw [← h2.1];exact hi),show i - ls.length = 0 by rw [← h2.1];exact h0]
  rfl
theorem wp_app_rowA {P:Program} {tt:TypeId} (E:ElemOk P tt te 1 24) (hne:e ≠ te) {ops:Array Oper} {rest:List Oper} {o:Oper} {a:Act} {Q:Exit→Act→World→Prop} {w:World}
 (hgd:o.guard = none) (s x:Operand) (ho:o.op = .call { callee:=.builtin .append,args:=#[s,x],argTypes:=#[tt,tt] })
 (base:Nat) (v u:Value) (ls:List (List α)) (l:List α) (hs:a.eval s = v) (hx:a.eval x = .slice (some ⟨w.heap.size,0,none⟩) 1 1)
 (hown:OwnA enc e te sz w base v ls) (hu:Own enc e sz w base u l) (hll:ls.length < 4294967296) (hbase:base ≤ w.heap.size)
 (h:∀ v' w',OwnA enc e te sz w' base v' (ls ++ [l])→Below base w w'→(∀ (k:Nat) cs T,T ≠ te→w.heap[k]? = some (.cells cs T (0,0))→w'.heap[k]? = some (.cells cs T (0,0)))→wpList P ops Q rest (a.put o.dst v') w') :
 wpList P ops Q (o :: rest) a (w.alloc (.cells #[u] te)):=by
 obtain ⟨mv,h1,h2⟩:=hown
 have h1u:u.oneCell' = true:=by
  rcases hu.2 with ⟨rfl,_⟩ | ⟨g,cap,cur,rfl,_⟩ <;> rfl
 refine wp_appx (P:=P) E hgd s x ho base v mv u #[u] hs hx rfl rfl (one_eVal h1u) h1 (by rw [h2.1];exact hll) (by decide) hbase ?_
 intro g' cap w' ho' hg hb
 refine h _ _ (OwnA.snoc hne h1 h2 hu ho' hg) hb fun k cs T hT hk => (hg.block k (heap_lt hk) fun e => ?_).trans hk
 rcases h1.2 with ⟨rfl,_⟩ | ⟨g,cap,cur,rfl,_,k2,_⟩
 ·cases e
 ·simp only [Value.ownBlock,Option.some.injEq] at e
  subst e
  rw [k2] at hk
  cases hk
  exact hT rfl
def GridA (enc:α→List Value) (sz:Nat) (w:World) (A:Option Addr) (n:Nat) (ls:List (List α)):Prop :=
 ∃ mv,Sl eVal 1 w A n mv∧mv.length = ls.length∧∀ (i:Nat) v,mv[i]? = some v→∃ B l c,ls[i]? = some l∧v = .slice B l.length c∧Sl enc sz w B l.length l∧l.length ≤ c∧c ≤ maxLen
theorem OwnA.form (henc:∀ x,(enc x).length = sz) (h:OwnA enc e te sz w base v ls):∃ A c,v = .slice A ls.length c∧GridA enc sz w A ls.length ls∧ls.length ≤ c∧c ≤ maxLen:=by
 obtain ⟨mv,h1,h2,h3⟩:=h
 obtain ⟨A,c,hv,hs,hc,hm⟩:=h1.form lenVal
 rw [h2] at hv hs hc
 refine ⟨A,c,hv,⟨mv,hs,h2,fun i v hv => ?_⟩,hc,hm⟩
 obtain ⟨l,hl,ho⟩:=h3 i v hv
 obtain ⟨B,c',hv',hs',hc',hm'⟩:=ho.form henc
 exact ⟨B,l,c',hl,hv',hs',hc',hm'⟩
theorem GridA.below {A:Option Addr} {n:Nat} (h:GridA enc sz w A n ls) (hb:Below B w w') (hB:w.heap.size ≤ B):GridA enc sz w' A n ls:=by
 obtain ⟨mv,h1,h2,h3⟩:=h
 exact ⟨mv,h1.below hb hB,h2,fun i v hv => by
  obtain ⟨C,l,c,a1,a2,a3,a4,a5⟩:=h3 i v hv
  exact ⟨C,l,c,a1,a2,a3.below hb hB,a4,a5⟩⟩
theorem GridA.get {A:Option Addr} {n:Nat} (h:GridA enc sz w A n ls) {k:Nat} (hk:k < n) :
 ∃ b off B l c,A = some ⟨b,off,none⟩∧b < w.heap.size∧ls[k]? = some l∧w.cell? ⟨b,off + k,none⟩ = some (.slice B l.length c)∧Sl enc sz w B l.length l∧l.length ≤ c∧c ≤ maxLen:=by
 obtain ⟨mv,h1,h2,h3⟩:=h
 obtain ⟨b,off,x,hA,hb,hx,hc⟩:=Vals.get h1 hk
 obtain ⟨B,l,c,a1,a2,a3,a4,a5⟩:=h3 k x hx
 subst a2
 exact ⟨b,off,B,l,c,hA,hb,a1,hc,a3,a4,a5⟩
end
end Go.Proofs.YtmennjmjakdkcaaGreat
