/- HerdAll 44: OwnsT, HdSm, HdGo. -/
import Derived.Test.YtmennjmjakdkcaaGreatAl38
import Derived.Test.YtmennjmjakdkcaaGreatAl43
import Derived.Test.YtmennjmjakdkcaaGreatAl13
namespace Go.Proofs.YtmennjmjakdkcaaGreat
open Go.RowKit Go.MapKept
set_option linter.unusedVariables false
set_option linter.unusedSimpArgs false
theorem spansTo_owns (E:List (List Int)) (n:Nat):spansTo E (fun o x => howned x o) n = ownsL E n:=rfl
theorem spansTo_total (E:List (List Int)) (n:Nat):spansTo E (fun f x => hall x f) n = totalL E n:=rfl
def ownsR (b:Hb):List Rn:=if askE b = 0 then ownsL (b.ends (-1) 0) b.l.length else []
def totalR (b:Hb):List Rn:=if askE b = 0 then totalL (b.ends (-1) 0) b.ks.length else []
def OwnsR (b:Hb) (w:World) (e:Ending) (w':World):Prop:=(∃ v,e = .returned (.tuple #[v,.int .i64 (askE b)])∧OwnR w' w.heap.size v (ownsR b))∧Below w.heap.size w w'
def TotalR (b:Hb) (w:World) (e:Ending) (w':World):Prop:=(∃ v,e = .returned (.tuple #[v,.int .i64 (askE b)])∧OwnR w' w.heap.size v (totalR b))∧Below w.heap.size w w'
theorem hb_of {b:Hb} {deed owner:Int} (hk:HeOk b.t b.l b.ks b.hs b.ds):∀ x ∈ b.ends deed owner,HBd 1000 x:=fun x hx => (endsTo_bd hk.f3 hk.n5 hk.rb hk.dI _ x hx).mono (by have:=hk.d6;omega)
set_option maxRecDepth 100000 in
set_option maxHeartbeats 1000000 in
theorem Owns_any (b:Hb) (w:World) (hin:HbIn w b):Calls Tryz.prog 30 #[b.v] w (OwnsR b w):=by
 obtain ⟨V,hV⟩:∃ V,V = w.alloc b.obj:=⟨_,rfl⟩
 obtain ⟨g,hg⟩:∃ g,g = w.heap.size:=⟨_,rfl⟩
 have b0:V.heap[g]? = some b.obj:=by rw [hV,hg];exact alloc_at rfl
 have hBV:Below w.heap.size w V:=by rw [hV];exact bal0 w _
 have hiV:=hin.below hBV (Nat.le_refl _)
 obtain ⟨c0,c1,c2,c3,c4⟩:=blk5c b0
 have hak:=asked_any b V hiV
 unfold Hb.v at hak
 have HV:=Lib.hid (And.intro hBV (And.intro b0 (And.intro hiV hg)))
 have hent:∀ (args:Array Value) (w:World),(callFunc 97 args).run Tryz.prog w = .ok (.enter 97 args) w:=enters_of Tryz.func97 (by kernel_rfl) rfl
 have HENT:=Lib.hid hent
 unfold Hb.v
 go_enter Tryz.func30,Tryz.ntmps30
 go_upto_region 1 with (fail)
 rw [← hV,← hg]
 clear hV hg hin hBV hiV b0 hent
 obtain ⟨R,hR⟩:∃ R,R = AskedR b b.chk V:=⟨_,rfl⟩
 rw [← hR] at hak
 have HR:=Lib.hid hR
 clear hR
 go_upto_region 2 with (go_at_call 55;refine hak.mono ?_;rintro e w2 hRR;rw [HR.out] at hRR;unfold AskedR at hRR;rcases hRR with ⟨h0,rfl,hb2⟩ | ⟨h0,p,rfl,hWk,hb2⟩)
 ·have xf:(b.chk != 0) = true:=by simp [h0]
  go_wp2_with fail
  go_ret2
  unfold OwnsR ownsR
  rw [askE_chk h0,if_neg h0]
  exact ⟨⟨_,rfl,Own.nil_⟩,HV.out.1.trans (hb2.mono HV.out.1.size)⟩
 have x0:=bheap HV.out.2.1 hb2 (Nat.le_refl _)
 have hok:=hWk.ok
 clear c0 c1 c2 c3 c4 hak
 obtain ⟨c0,c1,c2,c3,c4⟩:=blk5c x0
 obtain ⟨n,hn⟩:∃ n,n = b.l.length:=⟨_,rfl⟩
 rw [← hn] at c1
 have hn0:0 < n∧n ≤ 5:=by rw [hn];exact ⟨hok.n0,hok.n5⟩
 have hbd:=hb_of (deed:=-1) (owner:=0) hok
 have hsp:=spans_any V p b (-1) 0 w2 hWk n hn0.1 (by omega) 97 #[] (fun i x => howned x i) HENT.out (fun x hx i hi W hNW => owned_any x i W (hbd x hx) (by omega))
 have H2:=Lib.hid (And.intro hb2 (And.intro hWk (And.intro h0 hn)))
 clear hb2 hWk h0 hn hok x0 hbd
 go_wp2_with (go_at_call 95;refine hsp.mono ?_;rintro e w3 ⟨⟨v,rfl,hov⟩,hN3⟩)
 go_ret2
 have hh:=H2.out
 have hb3:Below w.heap.size w w3:=(HV.out.1.trans (hh.1.mono HV.out.1.size)).trans (hN3.less (Nat.le_trans HV.out.1.size hh.2.1.hz) (Nat.le_trans HV.out.1.size hh.1.size))
 have hsz:w.heap.size ≤ w2.heap.size:=Nat.le_trans HV.out.1.size hh.1.size
 unfold OwnsR ownsR
 by_cases hE:b.ends (-1) 0 = []
 ·rw [askE_none hh.2.2.1 hE,if_neg (by decide)]
  rw [spansE_pos hE]
  have hov':OwnR w3 w2.heap.size v []:=by unfold spansR at hov;rwa [if_pos hE] at hov
  exact ⟨⟨_,rfl,hov'.mono hsz⟩,hb3⟩
 ·rw [askE_ok hh.2.2.1 hE,if_pos rfl]
  rw [spansE_neg hE]
  have hov':OwnR w3 w2.heap.size v (spansTo (b.ends (-1) 0) (fun i x => howned x i) n):=by unfold spansR at hov;rwa [if_neg hE] at hov
  rw [spansTo_owns,hh.2.2.2] at hov'
  exact ⟨⟨_,rfl,hov'.mono hsz⟩,hb3⟩
set_option maxRecDepth 100000 in
set_option maxHeartbeats 1000000 in
theorem Total_any (b:Hb) (w:World) (hin:HbIn w b):Calls Tryz.prog 31 #[b.v] w (TotalR b w):=by
 obtain ⟨V,hV⟩:∃ V,V = w.alloc b.obj:=⟨_,rfl⟩
 obtain ⟨g,hg⟩:∃ g,g = w.heap.size:=⟨_,rfl⟩
 have b0:V.heap[g]? = some b.obj:=by rw [hV,hg];exact alloc_at rfl
 have hBV:Below w.heap.size w V:=by rw [hV];exact bal0 w _
 have hiV:=hin.below hBV (Nat.le_refl _)
 obtain ⟨c0,c1,c2,c3,c4⟩:=blk5c b0
 have hak:=asked_any b V hiV
 unfold Hb.v at hak
 have HV:=Lib.hid (And.intro hBV (And.intro b0 (And.intro hiV hg)))
 have hent:∀ (args:Array Value) (w:World),(callFunc 83 args).run Tryz.prog w = .ok (.enter 83 args) w:=enters_of Tryz.func83 (by kernel_rfl) rfl
 have HENT:=Lib.hid hent
 unfold Hb.v
 go_enter Tryz.func31,Tryz.ntmps31
 go_upto_region 1 with (fail)
 rw [← hV,← hg]
 clear hV hg hin hBV hiV b0 hent
 obtain ⟨R,hR⟩:∃ R,R = AskedR b b.chk V:=⟨_,rfl⟩
 rw [← hR] at hak
 have HR:=Lib.hid hR
 clear hR
 go_upto_region 2 with (go_at_call 55;refine hak.mono ?_;rintro e w2 hRR;rw [HR.out] at hRR;unfold AskedR at hRR;rcases hRR with ⟨h0,rfl,hb2⟩ | ⟨h0,p,rfl,hWk,hb2⟩)
 ·have xf:(b.chk != 0) = true:=by simp [h0]
  go_wp2_with fail
  go_ret2
  unfold TotalR totalR
  rw [askE_chk h0,if_neg h0]
  exact ⟨⟨_,rfl,Own.nil_⟩,HV.out.1.trans (hb2.mono HV.out.1.size)⟩
 have x0:=bheap HV.out.2.1 hb2 (Nat.le_refl _)
 have hok:=hWk.ok
 clear c0 c1 c2 c3 c4 hak
 obtain ⟨c0,c1,c2,c3,c4⟩:=blk5c x0
 obtain ⟨n,hn⟩:∃ n,n = b.ks.length:=⟨_,rfl⟩
 rw [← hn] at c2
 have hn0:0 < n∧n ≤ 3:=by rw [hn];exact ⟨hok.f0,hok.f3⟩
 have hbd:=hb_of (deed:=-1) (owner:=0) hok
 have hsp:=spans_any V p b (-1) 0 w2 hWk n hn0.1 (by omega) 83 #[] (fun i x => hall x i) HENT.out (fun x hx i hi W hNW => all_any x i W (hbd x hx) (by omega))
 have H2:=Lib.hid (And.intro hb2 (And.intro hWk (And.intro h0 hn)))
 clear hb2 hWk h0 hn hok x0 hbd
 go_wp2_with (go_at_call 95;refine hsp.mono ?_;rintro e w3 ⟨⟨v,rfl,hov⟩,hN3⟩)
 go_ret2
 have hh:=H2.out
 have hb3:Below w.heap.size w w3:=(HV.out.1.trans (hh.1.mono HV.out.1.size)).trans (hN3.less (Nat.le_trans HV.out.1.size hh.2.1.hz) (Nat.le_trans HV.out.1.size hh.1.size))
 have hsz:w.heap.size ≤ w2.heap.size:=Nat.le_trans HV.out.1.size hh.1.size
 unfold TotalR totalR
 by_cases hE:b.ends (-1) 0 = []
 ·rw [askE_none hh.2.2.1 hE,if_neg (by decide)]
  rw [spansE_pos hE]
  have hov':OwnR w3 w2.heap.size v []:=by unfold spansR at hov;rwa [if_pos hE] at hov
  exact ⟨⟨_,rfl,hov'.mono hsz⟩,hb3⟩
 ·rw [askE_ok hh.2.2.1 hE,if_pos rfl]
  rw [spansE_neg hE]
  have hov':OwnR w3 w2.heap.size v (spansTo (b.ends (-1) 0) (fun i x => hall x i) n):=by unfold spansR at hov;rwa [if_neg hE] at hov
  rw [spansTo_total,hh.2.2.2] at hov'
  exact ⟨⟨_,rfl,hov'.mono hsz⟩,hb3⟩
end Go.Proofs.YtmennjmjakdkcaaGreat
namespace Go.Proofs.YtmennjmjakdkcaaGreat
open Go.RowKit Go.MapKept
set_option linter.unusedVariables false
set_option linter.unusedSimpArgs false
def smV (s:Sm):Value:=.agg #[.int .i64 s.first,.int .i64 s.born,.int .i64 s.bought,.int .i64 s.sold,.int .i64 s.eaten]
abbrev smO (a b c d e:Int):Obj:=.cells #[.int .i64 a,.int .i64 b,.int .i64 c,.int .i64 d,.int .i64 e] 46 (0,0)
def SmB (B:Int) (s:Sm):Prop:=(0 ≤ s.first∧s.first ≤ B)∧(0 ≤ s.born∧s.born ≤ B)∧(0 ≤ s.bought∧s.bought ≤ B)∧(0 ≤ s.sold∧s.sold ≤ B)∧(0 ≤ s.eaten∧s.eaten ≤ B)
theorem stepS_bd {B:Int} {o:Int} {s:Sm} {d:De} (h:SmB B s) (hm:0 ≤ d.many∧d.many ≤ 300):SmB (B + 300) (stepS o s d):=by
 obtain ⟨h1,h2,h3,h4,h5⟩:=h
 unfold stepS SmB
 split
 ·exact ⟨by dsimp;omega,by dsimp;omega,by dsimp;omega,by dsimp;omega,by dsimp;omega⟩
 split
 ·exact ⟨by dsimp;omega,by dsimp;omega,by dsimp;omega,by dsimp;omega,by dsimp;omega⟩
 split
 ·exact ⟨by dsimp;omega,by dsimp;omega,by dsimp;omega,by dsimp;omega,by dsimp;omega⟩
 split
 ·exact ⟨by dsimp;omega,by dsimp;omega,by dsimp;omega,by dsimp;omega,by dsimp;omega⟩
 ·exact ⟨by omega,by omega,by omega,by omega,by omega⟩
theorem sumS_bd {hs:List (List Int)} {o:Nat} {ds:List De} (h0:0 ≤ howned (firstH hs) o∧howned (firstH hs) o ≤ 3000) (hm:∀ d ∈ ds,0 ≤ d.many∧d.many ≤ 300):∀ k,k ≤ ds.length→SmB (3000 + 300 * (k:Int)) (sumS hs o (ds.take k))
 | 0,_ => by simp [sumS,SmB];omega
 | k + 1,hk => by
   have hg:ds[k]? = some ds[k]:=List.getElem?_eq_getElem (by omega)
   rw [sumS_snoc hs o ds hg]
   have:=stepS_bd (o:=o) (sumS_bd h0 hm k (by omega)) (hm _ (List.getElem_mem (l:=ds) (show k < ds.length by omega)))
   rw [show (3000:Int) + 300 * ((k + 1:Nat):Int) = 3000 + 300 * (k:Int) + 300 by omega]
   exact this
set_option maxRecDepth 100000 in
set_option maxHeartbeats 2000000 in
theorem sum_any (w0:World) (p:Nat) (b:Hb) (deed owner:Int) (w:World) (hW:Work w0 p b deed owner w) (o:Nat) (ho:o < 5) :
 Calls Tryz.prog 59 #[.pointer (some ⟨p,0,none⟩),.int .i64 o] w fun e w' => e = .returned (smV (sumS b.hs o b.ds))∧Below w.heap.size w w':=by
 obtain ⟨V,hV⟩:∃ V,V = w.alloc (Obj.cells #[.int .i64 0,.int .i64 0,.int .i64 0,.int .i64 0,.int .i64 0] 46):=⟨_,rfl⟩
 obtain ⟨r,hr⟩:∃ r,r = w.heap.size:=⟨_,rfl⟩
 have b0:V.heap[r]? = some (smO 0 0 0 0 0):=by rw [hV,hr];exact alloc_at rfl
 have hBV:Below w.heap.size w V:=by rw [hV];exact bal0 w _
 have hWV:=hW.below hBV (Nat.le_refl _)
 obtain ⟨now,hp⟩:=hWV.hp
 have hok:=hWV.ok
 have hfi:=first_any p b.t b.A b.l.length b.c b.l b.vk b.vd b.Ah b.ch b.hs deed owner now V (hWV.book hp) hWV.inn.h (by have:=hok.f3;have:=hok.hl;omega) (fun x hx => by have:=hok.rl x hx;have:=hok.n5;omega)
 have hfb:HBd 20 (firstH b.hs):=firstH_bd hok.rb
 have hob:=owned_any (firstH b.hs) o
 have hpl:=hW.lt
 have HV:=Lib.hid (And.intro hBV (And.intro b0 (And.intro hWV (And.intro hr hok))))
 have HF:=Lib.hid hfb
 go_enter Tryz.func59,Tryz.ntmps59
 go_upto_region 1 with (fail)
 rw [← hV,← hr]
 clear hV hBV b0 hWV hp hok hfb
 rw [← hr] at hpl
 clear hr
 go_upto_region 2 with (first
  | (go_at_call 104;refine hfi.mono ?_;rintro e w1 ⟨rfl,hb1⟩)
  | (go_at_call 97;refine (hob w1 (HF.out.mono (by omega)) ho).mono ?_;rintro e w2 ⟨rfl,hb2⟩))
 have hb2':Below V.heap.size V w2:=hb1.trans (hb2.mono hb1.size)
 clear hb1 hb2 hfi hob
 obtain ⟨f0,hf0⟩:∃ f,f = howned (firstH b.hs) o:=⟨_,rfl⟩
 have hf3:0 ≤ f0∧f0 ≤ 3000:=by
  have h0:=HF.out.get (show 0 < 3 by decide) ho
  have h1:=HF.out.get (show 1 < 3 by decide) ho
  have h2:=HF.out.get (show 2 < 3 by decide) ho
  rw [hf0];unfold howned;omega
 rw [← hf0]
 obtain ⟨s,hs⟩:∃ s,s = w2.heap.size:=⟨_,rfl⟩
 obtain ⟨U,hU⟩:∃ U,U = w2.alloc (Obj.cells #[.int .i64 f0,.int .i64 0,.int .i64 0,.int .i64 0,.int .i64 0] 46):=⟨_,rfl⟩
 rw [← hU,← hs]
 have hbU:Below V.heap.size V U:=by rw [hU];exact bal hb2' (Nat.le_refl _) _
 have bS:U.heap[s]? = some (smO f0 0 0 0 0):=by rw [hU,hs];exact alloc_at rfl
 have hVs:V.heap.size ≤ s:=by rw [hs];exact hb2'.size
 have hWU:=HV.out.2.2.1.below hbU (Nat.le_refl _)
 obtain ⟨now2,hp2⟩:=hWU.hp
 obtain ⟨a0,a1,a2,a3,a4,a5,a6,a7⟩:=blkB hp2
 obtain ⟨nd,hnd⟩:∃ nd,nd = b.ds.length:=⟨_,rfl⟩
 have hsb:∀ k,k ≤ nd→SmB (3000 + 300 * (k:Int)) (sumS b.hs o (b.ds.take k)):=fun k hk => sumS_bd (by rw [← hf0];exact hf3) (fun d hd => by have:=(HV.out.2.2.2.2.dI d hd).m;omega) k (by omega)
 have hd6:nd ≤ 6:=by rw [hnd];exact HV.out.2.2.2.2.d6
 obtain ⟨Dx,hDx⟩:∃ D,D = b.Ad:=⟨_,rfl⟩
 obtain ⟨cx,hcx⟩:∃ D,D = b.cd:=⟨_,rfl⟩
 have hcd:nd ≤ cx∧cx ≤ maxLen:=by rw [hnd,hcx];exact ⟨hWU.inn.dc,hWU.inn.dm⟩
 unfold Hb.vd at a4
 rw [← hnd,← hDx,← hcx] at a4
 have hds:Deeds w0 Dx nd b.ds:=by rw [hnd,hDx];exact hWU.hin.d
 have HU:=Lib.hid (And.intro hbU (And.intro bS (And.intro hVs (And.intro hWU (And.intro hnd (And.intro hsb (And.intro hf0 hds)))))))
 clear hbU bS hVs hWU hnd hsb hf0 hp2 hU hs hDx hcx hds hb2'
 go_wp2_with fail
 go_loopg [20] nd (fun g v20 wr => ∃ k:Nat,k + g = nd∧v20 = .int .i64 k∧(∃ x:Sm,x = sumS b.hs o (b.ds.take k)∧wr.heap[s]? = some (smO x.first x.born x.bought x.sold x.eaten))∧(∀ j,j < U.heap.size→j ≠ s→wr.heap[j]? = U.heap[j]?)∧U.heap.size ≤ wr.heap.size∧wr.os = U.os∧wr.tape = U.tape∧wr.output = U.output)
 case atStart => exact ⟨0,by omega,rfl,⟨⟨f0,0,0,0,0⟩,by rw [List.take_zero];unfold sumS;rw [HU.out.2.2.2.2.2.2.1];rfl,HU.out.2.1⟩,fun _ _ _ => rfl,Nat.le_refl _,rfl,rfl,rfl⟩
 case round =>
  obtain ⟨k,hk,rfl,⟨x,hx,bs⟩,hfar,hsz,ho1,ho2,ho3⟩:=hrel
  by_cases hlt:k < nd
  ·have hWr:Below w0.heap.size w0 wr:=HU.out.2.2.2.1.bel.trans ⟨ho1,ho2,ho3,hsz,fun j hj => hfar j (by have:=HU.out.2.2.2.1.bel.size;omega) (by have:=HU.out.2.2.2.1.hz;have:=HU.out.2.2.1;have:=HV.out.1.size;have:=HV.out.2.2.2.1;omega)⟩
   obtain ⟨bd,od,⟨kind,flock,ow,other,tof,many,err,sg⟩,rfl,hbl,hd,e0,e1,e2,e3,e4,e5,e6,e7,e8,e9,e10,e11⟩:=Deeds.get (HU.out.2.2.2.2.2.2.2.below hWr (Nat.le_refl _)) hlt
   obtain ⟨x1,x2,x3,x4,x5⟩:=x
   obtain ⟨b1,b2,b3,b4,b5⟩:=HU.out.2.2.2.2.2.1 k (by omega)
   rw [← hx] at b1 b2 b3 b4 b5
   have hsn:=sumS_snoc b.hs o b.ds hd
   rw [← hx] at hsn
   have hdm:=(HV.out.2.2.2.2.dI _ (List.mem_of_getElem? hd)).m
   have hdk:=(HV.out.2.2.2.2.dI _ (List.mem_of_getElem? hd)).k
   dsimp only at hdm hdk e0 e1 e2 e3 e4 e5 e6 e7 e8 e9 e10 e11 b1 b2 b3 b4 b5 bs
   have gs1:=frz bs 1
   have gs2:=frz bs 2
   have gs3:=frz bs 3
   have gs4:=frz bs 4
   have hslt:=heap_lt bs
   obtain ⟨w0',w1',w2',w3',w4'⟩:=blk5c bs
   by_cases how:ow = (o:Int)
   ·have eo:(ow == (o:Int)) = true:=by simp [how]
    by_cases h1:kind = 1
    ·subst h1
     simp [stepS,how] at hsn
     have HN:=Lib.hid (And.intro bs (And.intro hk (And.intro hfar (And.intro hsz (And.intro ho1 (And.intro ho2 (And.intro ho3 hsn)))))))
     clear bs hk hfar hsz ho1 ho2 ho3 hsn hx hd hdk hWr
     go_wp2_with fail
     go_roundg (gk - 1)
     case measure => have:=HN.out.2.1;omega
     case rel => exact ⟨k + 1,by have:=HN.out.2.1;omega,by go_num,⟨_,HN.out.2.2.2.2.2.2.2.symm,hblk_alloc ((set_blk HN.out.1).trans (by simp)) _⟩,fun j hj hne => (Below.heap_alloc _ _ _ (by have:=HN.out.2.2.2.1;simp;omega)).trans ((Below.heap_setCell _ ⟨s,_,none⟩ _ _ hne).trans (HN.out.2.2.1 j hj hne)),by have:=HN.out.2.2.2.1;simp;omega,HN.out.2.2.2.2.1,HN.out.2.2.2.2.2.1,HN.out.2.2.2.2.2.2.1⟩
    by_cases h2:kind = 2
    ·subst h2
     simp [stepS,how] at hsn
     have HN:=Lib.hid (And.intro bs (And.intro hk (And.intro hfar (And.intro hsz (And.intro ho1 (And.intro ho2 (And.intro ho3 hsn)))))))
     clear bs hk hfar hsz ho1 ho2 ho3 hsn hx hd hdk hWr
     go_wp2_with fail
     go_roundg (gk - 1)
     case measure => have:=HN.out.2.1;omega
     case rel => exact ⟨k + 1,by have:=HN.out.2.1;omega,by go_num,⟨_,HN.out.2.2.2.2.2.2.2.symm,hblk_alloc ((set_blk HN.out.1).trans (by simp)) _⟩,fun j hj hne => (Below.heap_alloc _ _ _ (by have:=HN.out.2.2.2.1;simp;omega)).trans ((Below.heap_setCell _ ⟨s,_,none⟩ _ _ hne).trans (HN.out.2.2.1 j hj hne)),by have:=HN.out.2.2.2.1;simp;omega,HN.out.2.2.2.2.1,HN.out.2.2.2.2.2.1,HN.out.2.2.2.2.2.2.1⟩
    by_cases h3:kind = 3
    ·subst h3
     simp [stepS,how] at hsn
     have HN:=Lib.hid (And.intro bs (And.intro hk (And.intro hfar (And.intro hsz (And.intro ho1 (And.intro ho2 (And.intro ho3 hsn)))))))
     clear bs hk hfar hsz ho1 ho2 ho3 hsn hx hd hdk hWr
     go_wp2_with fail
     go_roundg (gk - 1)
     case measure => have:=HN.out.2.1;omega
     case rel => exact ⟨k + 1,by have:=HN.out.2.1;omega,by go_num,⟨_,HN.out.2.2.2.2.2.2.2.symm,hblk_alloc ((set_blk HN.out.1).trans (by simp)) _⟩,fun j hj hne => (Below.heap_alloc _ _ _ (by have:=HN.out.2.2.2.1;simp;omega)).trans ((Below.heap_setCell _ ⟨s,_,none⟩ _ _ hne).trans (HN.out.2.2.1 j hj hne)),by have:=HN.out.2.2.2.1;simp;omega,HN.out.2.2.2.2.1,HN.out.2.2.2.2.2.1,HN.out.2.2.2.2.2.2.1⟩
    have k1:(kind == 1) = false:=by simp [h1]
    have k2:(kind == 2) = false:=by simp [h2]
    have k3:(kind == 3) = false:=by simp [h3]
    simp [stepS,how,h1,h2,h3] at hsn
    have HN:=Lib.hid (And.intro bs (And.intro hk (And.intro hfar (And.intro hsz (And.intro ho1 (And.intro ho2 (And.intro ho3 hsn)))))))
    clear bs hk hfar hsz ho1 ho2 ho3 hsn hx hd hdk hWr
    go_wp2_with fail
    go_roundg (gk - 1)
    case measure => have:=HN.out.2.1;omega
    case rel => exact ⟨k + 1,by have:=HN.out.2.1;omega,by go_num,⟨_,HN.out.2.2.2.2.2.2.2.symm,hblk_alloc HN.out.1 _⟩,fun j hj hne => (Below.heap_alloc _ _ _ (by have:=HN.out.2.2.2.1;omega)).trans (HN.out.2.2.1 j hj hne),by have:=HN.out.2.2.2.1;simp;omega,HN.out.2.2.2.2.1,HN.out.2.2.2.2.2.1,HN.out.2.2.2.2.2.2.1⟩
   ·have eo:(ow == (o:Int)) = false:=by simp [how]
    by_cases h2:kind = 2
    ·subst h2
     by_cases hot:other = (o:Int)
     ·have et:(other == (o:Int)) = true:=by simp [hot]
      simp [stepS,how,hot] at hsn
      have HN:=Lib.hid (And.intro bs (And.intro hk (And.intro hfar (And.intro hsz (And.intro ho1 (And.intro ho2 (And.intro ho3 hsn)))))))
      clear bs hk hfar hsz ho1 ho2 ho3 hsn hx hd hdk hWr
      go_wp2_with fail
      go_roundg (gk - 1)
      case measure => have:=HN.out.2.1;omega
      case rel => exact ⟨k + 1,by have:=HN.out.2.1;omega,by go_num,⟨_,HN.out.2.2.2.2.2.2.2.symm,hblk_alloc ((set_blk HN.out.1).trans (by simp)) _⟩,fun j hj hne => (Below.heap_alloc _ _ _ (by have:=HN.out.2.2.2.1;simp;omega)).trans ((Below.heap_setCell _ ⟨s,_,none⟩ _ _ hne).trans (HN.out.2.2.1 j hj hne)),by have:=HN.out.2.2.2.1;simp;omega,HN.out.2.2.2.2.1,HN.out.2.2.2.2.2.1,HN.out.2.2.2.2.2.2.1⟩
     ·have et:(other == (o:Int)) = false:=by simp [hot]
      simp [stepS,how,hot] at hsn
      have HN:=Lib.hid (And.intro bs (And.intro hk (And.intro hfar (And.intro hsz (And.intro ho1 (And.intro ho2 (And.intro ho3 hsn)))))))
      clear bs hk hfar hsz ho1 ho2 ho3 hsn hx hd hdk hWr
      go_wp2_with fail
      go_roundg (gk - 1)
      case measure => have:=HN.out.2.1;omega
      case rel => exact ⟨k + 1,by have:=HN.out.2.1;omega,by go_num,⟨_,HN.out.2.2.2.2.2.2.2.symm,hblk_alloc HN.out.1 _⟩,fun j hj hne => (Below.heap_alloc _ _ _ (by have:=HN.out.2.2.2.1;omega)).trans (HN.out.2.2.1 j hj hne),by have:=HN.out.2.2.2.1;simp;omega,HN.out.2.2.2.2.1,HN.out.2.2.2.2.2.1,HN.out.2.2.2.2.2.2.1⟩
    have k2:(kind == 2) = false:=by simp [h2]
    simp [stepS,how,h2] at hsn
    have HN:=Lib.hid (And.intro bs (And.intro hk (And.intro hfar (And.intro hsz (And.intro ho1 (And.intro ho2 (And.intro ho3 hsn)))))))
    clear bs hk hfar hsz ho1 ho2 ho3 hsn hx hd hdk hWr
    go_wp2_with fail
    go_roundg (gk - 1)
    case measure => have:=HN.out.2.1;omega
    case rel => exact ⟨k + 1,by have:=HN.out.2.1;omega,by go_num,⟨_,HN.out.2.2.2.2.2.2.2.symm,hblk_alloc HN.out.1 _⟩,fun j hj hne => (Below.heap_alloc _ _ _ (by have:=HN.out.2.2.2.1;omega)).trans (HN.out.2.2.1 j hj hne),by have:=HN.out.2.2.2.1;simp;omega,HN.out.2.2.2.2.1,HN.out.2.2.2.2.2.1,HN.out.2.2.2.2.2.2.1⟩
  ·obtain rfl:k = nd:=by omega
   obtain ⟨w0',w1',w2',w3',w4'⟩:=blk5c bs
   have hr0:wr.heap[r]? = some (smO 0 0 0 0 0):=(hfar r (by have:=HU.out.1.size;have:=heap_lt HV.out.2.1;omega) (by have:=HU.out.2.2.1;have:=heap_lt HV.out.2.1;omega)).trans (bheap HV.out.2.1 HU.out.1 (Nat.le_refl _))
   obtain ⟨z0,z1,z2,z3,z4⟩:=blk5c hr0
   obtain ⟨f0',f1,f2,f3,f4⟩:=And.intro (frz hr0 0) (And.intro (frz hr0 1) (And.intro (frz hr0 2) (And.intro (frz hr0 3) (frz hr0 4))))
   have hlr:=heap_lt hr0
   have hxx:x = sumS b.hs o b.ds:=by rw [hx,HU.out.2.2.2.2.1,List.take_length]
   obtain ⟨x1,x2,x3,x4,x5⟩:=x
   dsimp only at w0' w1' w2' w3' w4'
   have HN:=Lib.hid (And.intro hr0 (And.intro hxx (And.intro hfar (And.intro hsz (And.intro ho1 (And.intro ho2 ho3))))))
   clear hr0 hxx hfar hsz ho1 ho2 ho3 hx bs hk
   go_wp2_with fail
   obtain ⟨Z,hZ⟩:∃ Z,Z = (((((wr.setCell ⟨r,0,none⟩ (.int .i64 x1)).setCell ⟨r,1,none⟩ (.int .i64 x2)).setCell ⟨r,2,none⟩ (.int .i64 x3)).setCell ⟨r,3,none⟩ (.int .i64 x4)).setCell ⟨r,4,none⟩ (.int .i64 x5)):=⟨_,rfl⟩
   rw [← hZ]
   have bZ:Z.heap[r]? = some (smO x1 x2 x3 x4 x5):=by rw [hZ];exact (set_blk (set_blk (set_blk (set_blk (set_blk HN.out.1))))).trans (by simp)
   have hgr:wr.grownBy Z (some r):=by rw [hZ];exact ((((grownBy_cell _ r _ _).trans (grownBy_cell _ r _ _)).trans (grownBy_cell _ r _ _)).trans (grownBy_cell _ r _ _)).trans (grownBy_cell _ r _ _)
   obtain ⟨q0,q1,q2,q3,q4⟩:=blk5c bZ
   clear hZ
   refine bodyPost_ret (v:=.agg #[.int .i64 x1,.int .i64 x2,.int .i64 x3,.int .i64 x4,.int .i64 x5]) (by simp [results,Tryz.f59,go_sem,q0,q1,q2,q3,q4]) rfl ⟨by rw [← HN.out.2.1];rfl,?_⟩
   have hn:=HN.out
   have hBU:Below w.heap.size w U:=HV.out.1.trans (HU.out.1.mono HV.out.1.size)
   refine hBU.trans ⟨hgr.os.trans hn.2.2.2.2.1,hgr.tape.trans hn.2.2.2.2.2.1,hgr.output.trans hn.2.2.2.2.2.2,Nat.le_trans hn.2.2.2.1 hgr.size,fun j hj => ?_⟩
   have h1:=HV.out.2.2.2.1
   have h2:=HU.out.2.2.1
   have h3:=HV.out.1.size
   have h4:=hBU.size
   exact (hgr.block j (by omega) (fun e => by cases e;omega)).trans (hn.2.2.1 j (by omega) (by omega))
end Go.Proofs.YtmennjmjakdkcaaGreat
namespace Go.Proofs.YtmennjmjakdkcaaGreat
open Go.RowKit Go.MapKept
set_option linter.unusedVariables false
set_option linter.unusedSimpArgs false
def sumE (b:Hb) (o:Int):Int:=if b.chk ≠ 0 then b.chk else if ownB b.l.length o = false then 3 else 0
def sumR (b:Hb) (o:Int):Sm:=if sumE b o = 0 then sumS b.hs o.toNat b.ds else ⟨0,0,0,0,0⟩
def SumR (b:Hb) (o:Int) (w:World) (e:Ending) (w':World):Prop:=e = .returned (.tuple #[smV (sumR b o),.int .i64 (sumE b o)])∧Below w.heap.size w w'
theorem sum_end {b:Hb} {o e:Int} {s:Sm} {w Z w':World} {r:Nat} (he:sumE b o = e) (hs:sumR b o = s) (hb:Below w.heap.size w w'):SumR b o w (.returned (.tuple #[.agg #[.int .i64 s.first,.int .i64 s.born,.int .i64 s.bought,.int .i64 s.sold,.int .i64 s.eaten],.int .i64 e])) w':=by
 subst he hs;exact ⟨rfl,hb⟩
set_option maxRecDepth 100000 in
set_option maxHeartbeats 2000000 in
theorem Sum_any (b:Hb) (o:Int) (w:World) (hin:HbIn w b):Calls Tryz.prog 15 #[b.v,.int .i64 o] w (SumR b o w):=by
 obtain ⟨g,hg⟩:∃ g,g = w.heap.size:=⟨_,rfl⟩
 obtain ⟨V,hV⟩:∃ V,V = (w.alloc b.obj).alloc (Obj.cells #[.int .i64 0,.int .i64 0,.int .i64 0,.int .i64 0,.int .i64 0] 46):=⟨_,rfl⟩
 have b0:V.heap[g]? = some b.obj:=by rw [hV,hg];exact hblk_alloc (alloc_at rfl) _
 have b1:V.heap[g + 1]? = some (smO 0 0 0 0 0):=by rw [hV,hg];exact alloc_at (by simp)
 have hBV:Below w.heap.size w V:=by rw [hV];exact bal (bal0 w _) (Nat.le_refl _) _
 have hiV:=hin.below hBV (Nat.le_refl _)
 obtain ⟨c0,c1,c2,c3,c4⟩:=blk5c b0
 have hak:=asked_any b V hiV
 unfold Hb.v at hak
 have HV:=Lib.hid (And.intro hBV (And.intro b0 (And.intro b1 hg)))
 unfold Hb.v
 go_enter Tryz.func15,Tryz.ntmps15
 go_upto_region 1 with (fail)
 rw [← hV,← hg]
 clear hV hg hin hBV hiV b0 b1
 obtain ⟨R,hR⟩:∃ R,R = AskedR b b.chk V:=⟨_,rfl⟩
 rw [← hR] at hak
 have HR:=Lib.hid hR
 clear hR
 go_upto_region 2 with (go_at_call 55;refine hak.mono ?_;rintro e w2 hRR;rw [HR.out] at hRR;unfold AskedR at hRR;rcases hRR with ⟨h0,rfl,hb2⟩ | ⟨h0,p,rfl,hWk,hb2⟩)
 ·have xf:(b.chk == 0) = false:=by simp [h0]
  have xg:(b.chk != 0) = true:=by simp [h0]
  have y1:=bheap HV.out.2.2.1 hb2 (Nat.le_refl _)
  obtain ⟨z0,z1,z2,z3,z4⟩:=blk5c y1
  obtain ⟨f0,f1,f2,f3,f4⟩:=And.intro (frz y1 0) (And.intro (frz y1 1) (And.intro (frz y1 2) (And.intro (frz y1 3) (frz y1 4))))
  have hl1:=heap_lt y1
  have H2:=Lib.hid (And.intro h0 (And.intro hb2 y1))
  clear h0 hb2 y1 hak c0 c1 c2 c3 c4
  go_wp2_with fail
  obtain ⟨Z,hZ⟩:∃ Z,Z = (((((w2.setCell ⟨g + 1,0,none⟩ (.int .i64 0)).setCell ⟨g + 1,1,none⟩ (.int .i64 0)).setCell ⟨g + 1,2,none⟩ (.int .i64 0)).setCell ⟨g + 1,3,none⟩ (.int .i64 0)).setCell ⟨g + 1,4,none⟩ (.int .i64 0)):=⟨_,rfl⟩
  rw [← hZ]
  have bZ:Z.heap[g + 1]? = some (smO 0 0 0 0 0):=by rw [hZ];exact (set_blk (set_blk (set_blk (set_blk (set_blk H2.out.2.2))))).trans (by simp)
  have hgr:w2.grownBy Z (some (g + 1)):=by rw [hZ];exact ((((grownBy_cell _ _ _ _).trans (grownBy_cell _ _ _ _)).trans (grownBy_cell _ _ _ _)).trans (grownBy_cell _ _ _ _)).trans (grownBy_cell _ _ _ _)
  obtain ⟨q0,q1,q2,q3,q4⟩:=blk5c bZ
  clear hZ
  refine bodyPost_ret (v:=.tuple #[.agg #[.int .i64 0,.int .i64 0,.int .i64 0,.int .i64 0,.int .i64 0],.int .i64 b.chk]) (by simp [results,Tryz.f15,go_sem,q0,q1,q2,q3,q4]) rfl ?_
  have he:sumE b o = b.chk:=by unfold sumE;rw [if_pos H2.out.1]
  refine sum_end (s:=⟨0,0,0,0,0⟩) (Z:=w) (r:=0) he (by unfold sumR;rw [he,if_neg H2.out.1]) ((HV.out.1.trans (H2.out.2.1.mono HV.out.1.size)).grown hgr ?_ (fun k e => by cases e;rw [← HV.out.2.2.2];omega))
  have h1:=HV.out.1.size;have h2:=H2.out.2.1.size;omega
 have y0:=bheap HV.out.2.1 hb2 (Nat.le_refl _)
 have y1:=bheap HV.out.2.2.1 hb2 (Nat.le_refl _)
 clear c0 c1 c2 c3 c4 hak
 obtain ⟨z0,z1,z2,z3,z4⟩:=blk5c y1
 obtain ⟨f0,f1,f2,f3,f4⟩:=And.intro (frz y1 0) (And.intro (frz y1 1) (And.intro (frz y1 2) (And.intro (frz y1 3) (frz y1 4))))
 have hl1:=heap_lt y1
 obtain ⟨now,hp⟩:=hWk.hp
 obtain ⟨T,hT⟩:∃ T,T = w2.alloc (Obj.cells #[Value.int .i64 o] 3):=⟨_,rfl⟩
 have hbT:Below w2.heap.size w2 T:=by rw [hT];exact bal0 w2 _
 have hio:=isOwner_any p .nilFunc b.t b.A b.l.length b.c b.vk b.vh b.vd (-1) 0 now (some ⟨w2.heap.size,0,none⟩) 1 1 [o] T (bheap hp hbT (Nat.le_refl _)) (by rw [hT];exact ints1 w2 3 o) (Nat.le_trans hWk.inn.mc hWk.inn.mm) (by unfold maxLen;omega)
 simp only [List.all_cons,List.all_nil,Bool.and_true] at hio
 obtain ⟨ob,hob⟩:∃ ob,ob = ownB b.l.length o:=⟨_,rfl⟩
 rw [← hob] at hio
 have y1T:=bheap y1 hbT (Nat.le_refl _)
 have hWT:=hWk.below hbT (Nat.le_refl _)
 have H2:=Lib.hid (And.intro h0 (And.intro (hb2.trans (hbT.mono hb2.size)) (And.intro y1T (And.intro hWT hob))))
 have hpl:=hWk.lt
 have hzz:=hb2.size
 clear h0 hb2 y0 y1 hp hWk hob hWT
 obtain ⟨z0',z1',z2',z3',z4'⟩:=blk5c y1T
 obtain ⟨f0',f1',f2',f3',f4'⟩:=And.intro (frz y1T 0) (And.intro (frz y1T 1) (And.intro (frz y1T 2) (And.intro (frz y1T 3) (frz y1T 4))))
 have hl1':=heap_lt y1T
 have HT:=Lib.hid hT
 clear hbT y1T hT
 go_upto_if 21 with (go_at_call 58;rw [← HT.out];refine hio.mono ?_;rintro e w3 ⟨rfl,rfl⟩)
 cases ob with
 | false =>
   clear z0 z1 z2 z3 z4 f0 f1 f2 f3 f4 hl1 hio
   go_wp2_with fail
   obtain ⟨Z,hZ⟩:∃ Z,Z = (((((T.setCell ⟨g + 1,0,none⟩ (.int .i64 0)).setCell ⟨g + 1,1,none⟩ (.int .i64 0)).setCell ⟨g + 1,2,none⟩ (.int .i64 0)).setCell ⟨g + 1,3,none⟩ (.int .i64 0)).setCell ⟨g + 1,4,none⟩ (.int .i64 0)):=⟨_,rfl⟩
   rw [← hZ]
   have bZ:Z.heap[g + 1]? = some (smO 0 0 0 0 0):=by rw [hZ];exact (set_blk (set_blk (set_blk (set_blk (set_blk H2.out.2.2.1))))).trans (by simp)
   have hgr:T.grownBy Z (some (g + 1)):=by rw [hZ];exact ((((grownBy_cell _ _ _ _).trans (grownBy_cell _ _ _ _)).trans (grownBy_cell _ _ _ _)).trans (grownBy_cell _ _ _ _)).trans (grownBy_cell _ _ _ _)
   obtain ⟨q0,q1,q2,q3,q4⟩:=blk5c bZ
   clear hZ
   refine bodyPost_ret (v:=.tuple #[.agg #[.int .i64 0,.int .i64 0,.int .i64 0,.int .i64 0,.int .i64 0],.int .i64 3]) (by simp [results,Tryz.f15,go_sem,q0,q1,q2,q3,q4]) rfl ?_
   have he:sumE b o = 3:=by unfold sumE;rw [if_neg (by rw [H2.out.1];simp),if_pos H2.out.2.2.2.2.symm]
   refine sum_end (s:=⟨0,0,0,0,0⟩) (Z:=w) (r:=0) he (by unfold sumR;rw [he,if_neg (by decide)]) ((HV.out.1.trans (H2.out.2.1.mono HV.out.1.size)).grown hgr ?_ (fun k e => by cases e;rw [← HV.out.2.2.2];omega))
   have h1:=HV.out.1.size;have h2:=H2.out.2.1.size;omega
 | true =>
   obtain ⟨ho0,ho1⟩:=ownB_iff.1 H2.out.2.2.2.2.symm
   obtain ⟨k,rfl⟩:=Int.eq_ofNat_of_zero_le ho0
   have hok:=H2.out.2.2.2.1.ok
   have hk5:k < 5:=by have:=hok.n5;omega
   have hsm:=sum_any V p b (-1) 0 T H2.out.2.2.2.1 k hk5
   clear z0 z1 z2 z3 z4 f0 f1 f2 f3 f4 hl1 hio z0' z1' z2' z3' z4' f0' f1' f2' f3' f4' hl1' ho0 ho1 hok
   obtain ⟨sv,hsv⟩:∃ sv,sv = sumS b.hs k b.ds:=⟨_,rfl⟩
   rw [← hsv] at hsm
   have HS:=Lib.hid hsv
   clear hsv
   go_wp2_with (go_at_call 59;refine hsm.mono ?_;rintro e w3 ⟨rfl,hb3⟩;unfold smV;have y1:=bheap H2.out.2.2.1 hb3 (Nat.le_refl _);obtain ⟨z0,z1,z2,z3,z4⟩:=blk5c y1;obtain ⟨f0,f1,f2,f3,f4⟩:=And.intro (frz y1 0) (And.intro (frz y1 1) (And.intro (frz y1 2) (And.intro (frz y1 3) (frz y1 4))));have hl1:=heap_lt y1;have H3:=Lib.hid (And.intro y1 hb3);clear y1 hb3)
   obtain ⟨Z,hZ⟩:∃ Z,Z = (((((w3.setCell ⟨g + 1,0,none⟩ (.int .i64 sv.first)).setCell ⟨g + 1,1,none⟩ (.int .i64 sv.born)).setCell ⟨g + 1,2,none⟩ (.int .i64 sv.bought)).setCell ⟨g + 1,3,none⟩ (.int .i64 sv.sold)).setCell ⟨g + 1,4,none⟩ (.int .i64 sv.eaten)):=⟨_,rfl⟩
   rw [← hZ]
   have bZ:Z.heap[g + 1]? = some (smO sv.first sv.born sv.bought sv.sold sv.eaten):=by rw [hZ];exact (set_blk (set_blk (set_blk (set_blk (set_blk H3.out.1))))).trans (by simp)
   have hgr:w3.grownBy Z (some (g + 1)):=by rw [hZ];exact ((((grownBy_cell _ _ _ _).trans (grownBy_cell _ _ _ _)).trans (grownBy_cell _ _ _ _)).trans (grownBy_cell _ _ _ _)).trans (grownBy_cell _ _ _ _)
   obtain ⟨q0,q1,q2,q3,q4⟩:=blk5c bZ
   clear hZ
   refine bodyPost_ret (v:=.tuple #[.agg #[.int .i64 sv.first,.int .i64 sv.born,.int .i64 sv.bought,.int .i64 sv.sold,.int .i64 sv.eaten],.int .i64 0]) (by simp [results,Tryz.f15,go_sem,q0,q1,q2,q3,q4]) rfl ?_
   have he:sumE b k = 0:=by unfold sumE;rw [if_neg (by rw [H2.out.1];simp),if_neg (by rw [← H2.out.2.2.2.2];simp)]
   have hbb:Below w.heap.size w w3:=(HV.out.1.trans (H2.out.2.1.mono HV.out.1.size)).trans (H3.out.2.mono (Nat.le_trans HV.out.1.size H2.out.2.1.size))
   refine sum_end (s:=sv) (Z:=w) (r:=0) he (by unfold sumR;rw [he,if_pos rfl,HS.out];rfl) (hbb.grown hgr ?_ (fun k e => by cases e;rw [← HV.out.2.2.2];omega))
   exact hbb.size
end Go.Proofs.YtmennjmjakdkcaaGreat
