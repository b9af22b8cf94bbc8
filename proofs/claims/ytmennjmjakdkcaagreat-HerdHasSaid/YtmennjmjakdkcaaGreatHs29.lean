/- HerdHas. -/
import Derived.Test.YtmennjmjakdkcaaGreatHs28
set_option linter.unusedVariables false
set_option linter.unusedSimpArgs false
set_option maxRecDepth 100000
set_option maxHeartbeats 4000000
namespace Go.Proofs.YtmennjmjakdkcaaGreat
open Go.RowKit Go.MapKept
theorem k9h (E:List (List Int)) (n:Nat):j1b E (fun o x=>j0s x o) n=ownsL E n:=rfl
theorem k7k (E:List (List Int)) (n:Nat):j1b E (fun f x=>hall x f) n=k9p E n:=rfl
def k0n (b:Hb):List Rn:=if askE b=0 then ownsL (b.ends (-1) 0) b.l.length else []
def j8l (b:Hb):List Rn:=if askE b=0 then k9p (b.ends (-1) 0) b.ks.length else []
def OwnsR (b:Hb) (w:World) (e:Ending) (w':World):Prop:=(∃ v,e=.returned (.tuple #[v,.int .i64 (askE b)])∧OwnR w' w.heap.size v (k0n b))∧Below w.heap.size w w'
def k3u (b:Hb) (w:World) (e:Ending) (w':World):Prop:=(∃ v,e=.returned (.tuple #[v,.int .i64 (askE b)])∧OwnR w' w.heap.size v (j8l b))∧Below w.heap.size w w'
theorem hb_of {b:Hb} {deed owner:Int} (hk:HeOk b.t b.l b.ks b.hs b.ds):∀ x∈b.ends deed owner,HBd 1000 x:=fun x hx=>(j3w hk.f3 hk.n5 hk.rb hk.dI _ x hx).mono (by have:=hk.d6;omega)
theorem Owns_any (b:Hb) (w:World) (hin:HbIn w b):Calls Tryz.prog 30 #[b.v] w (OwnsR b w):=by
 obtain⟨V,hV⟩:∃ V,V=w.alloc b.obj:=⟨_,rfl⟩
 obtain⟨g,hg⟩:∃ g,g=w.heap.size:=⟨_,rfl⟩
 have b0:V.heap[g]?=some b.obj:=by rw[hV,hg];exact j0c rfl
 have hBV:Below w.heap.size w V:=by rw[hV];exact bal0 w _
 have hiV:=hin.below hBV (zL9 _)
 obtain⟨c0,c1,c2,c3,c4⟩:=j0h b0
 have hak:=j3v b V hiV
 unfold Hb.v at hak
 have HV:=zQ9 (zA9 hBV (zA9 b0 (zA9 hiV hg)))
 have hent:∀ (args:Array Value) (w:World),(callFunc 97 args).run Tryz.prog w=.ok (.enter 97 args) w:=enters_of Tryz.func97 (by kernel_rfl) rfl
 have HENT:=zQ9 hent
 unfold Hb.v
 go_enter Tryz.func30,Tryz.ntmps30
 go_upto_region 1 with (fail)
 rw[←hV,←hg]
 clear hV hg hin hBV hiV b0 hent
 obtain⟨R,hR⟩:∃ R,R=j2v b b.chk V:=⟨_,rfl⟩
 rw[←hR] at hak
 have HR:=zQ9 hR
 clear hR
 go_upto_region 2 with (go_at_call 55;refine hak.mono ?_;rintro e w2 hRR;rw[HR.out] at hRR;unfold j2v at hRR;rcases hRR with ⟨h0,rfl,hb2⟩|⟨h0,p,rfl,hWk,hb2⟩)
 ·have xf:(b.chk != 0)=true:=by simp[h0]
  go_wp2_with fail
  go_ret2
  unfold OwnsR k0n
  rw[j7w h0,if_neg h0]
  exact⟨⟨_,rfl,Own.nil_⟩,HV.out.1.trans (hb2.mono HV.out.1.size)⟩
 have x0:=j0e HV.out.2.1 hb2 (zL9 _)
 have hok:=hWk.ok
 clear c0 c1 c2 c3 c4 hak
 obtain⟨c0,c1,c2,c3,c4⟩:=j0h x0
 obtain⟨n,hn⟩:∃ n,n=b.l.length:=⟨_,rfl⟩
 rw[←hn] at c1
 have hn0:0<n∧n≤5:=by rw[hn];exact⟨hok.n0,hok.n5⟩
 have hbd:=hb_of (deed:=-1) (owner:=0) hok
 have hsp:=k1p V p b (-1) 0 w2 hWk n hn0.1 (by omega) 97 #[] (fun i x=>j0s x i) HENT.out (fun x hx i hi W hNW=>k1i x i W (hbd x hx) (by omega))
 have H2:=zQ9 (zA9 hb2 (zA9 hWk (zA9 h0 hn)))
 clear hb2 hWk h0 hn hok x0 hbd
 go_wp2_with (go_at_call 95;refine hsp.mono ?_;rintro e w3 ⟨⟨v,rfl,hov⟩,hN3⟩)
 go_ret2
 have hh:=H2.out
 have hb3:Below w.heap.size w w3:=(HV.out.1.trans (hh.1.mono HV.out.1.size)).trans (hN3.less (Nat.le_trans HV.out.1.size hh.2.1.hz) (Nat.le_trans HV.out.1.size hh.1.size))
 have hsz:w.heap.size≤w2.heap.size:=Nat.le_trans HV.out.1.size hh.1.size
 unfold OwnsR k0n
 by_cases hE:b.ends (-1) 0=[]
 ·rw[j5e hh.2.2.1 hE,if_neg (by decide)]
  rw[j7n hE]
  have hov':OwnR w3 w2.heap.size v []:=by unfold j5y at hov;rwa [if_pos hE] at hov
  exact⟨⟨_,rfl,hov'.mono hsz⟩,hb3⟩
 ·rw[j6a hh.2.2.1 hE,if_pos rfl]
  rw[j7m hE]
  have hov':OwnR w3 w2.heap.size v (j1b (b.ends (-1) 0) (fun i x=>j0s x i) n):=by unfold j5y at hov;rwa [if_neg hE] at hov
  rw[k9h,hh.2.2.2] at hov'
  exact⟨⟨_,rfl,hov'.mono hsz⟩,hb3⟩
theorem q2v (b:Hb) (w:World) (hin:HbIn w b):Calls Tryz.prog 31 #[b.v] w (k3u b w):=by
 obtain⟨V,hV⟩:∃ V,V=w.alloc b.obj:=⟨_,rfl⟩
 obtain⟨g,hg⟩:∃ g,g=w.heap.size:=⟨_,rfl⟩
 have b0:V.heap[g]?=some b.obj:=by rw[hV,hg];exact j0c rfl
 have hBV:Below w.heap.size w V:=by rw[hV];exact bal0 w _
 have hiV:=hin.below hBV (zL9 _)
 obtain⟨c0,c1,c2,c3,c4⟩:=j0h b0
 have hak:=j3v b V hiV
 unfold Hb.v at hak
 have HV:=zQ9 (zA9 hBV (zA9 b0 (zA9 hiV hg)))
 have hent:∀ (args:Array Value) (w:World),(callFunc 83 args).run Tryz.prog w=.ok (.enter 83 args) w:=enters_of Tryz.func83 (by kernel_rfl) rfl
 have HENT:=zQ9 hent
 unfold Hb.v
 go_enter Tryz.func31,Tryz.ntmps31
 go_upto_region 1 with (fail)
 rw[←hV,←hg]
 clear hV hg hin hBV hiV b0 hent
 obtain⟨R,hR⟩:∃ R,R=j2v b b.chk V:=⟨_,rfl⟩
 rw[←hR] at hak
 have HR:=zQ9 hR
 clear hR
 go_upto_region 2 with (go_at_call 55;refine hak.mono ?_;rintro e w2 hRR;rw[HR.out] at hRR;unfold j2v at hRR;rcases hRR with ⟨h0,rfl,hb2⟩|⟨h0,p,rfl,hWk,hb2⟩)
 ·have xf:(b.chk != 0)=true:=by simp[h0]
  go_wp2_with fail
  go_ret2
  unfold k3u j8l
  rw[j7w h0,if_neg h0]
  exact⟨⟨_,rfl,Own.nil_⟩,HV.out.1.trans (hb2.mono HV.out.1.size)⟩
 have x0:=j0e HV.out.2.1 hb2 (zL9 _)
 have hok:=hWk.ok
 clear c0 c1 c2 c3 c4 hak
 obtain⟨c0,c1,c2,c3,c4⟩:=j0h x0
 obtain⟨n,hn⟩:∃ n,n=b.ks.length:=⟨_,rfl⟩
 rw[←hn] at c2
 have hn0:0<n∧n≤3:=by rw[hn];exact⟨hok.f0,hok.f3⟩
 have hbd:=hb_of (deed:=-1) (owner:=0) hok
 have hsp:=k1p V p b (-1) 0 w2 hWk n hn0.1 (by omega) 83 #[] (fun i x=>hall x i) HENT.out (fun x hx i hi W hNW=>k5e x i W (hbd x hx) (by omega))
 have H2:=zQ9 (zA9 hb2 (zA9 hWk (zA9 h0 hn)))
 clear hb2 hWk h0 hn hok x0 hbd
 go_wp2_with (go_at_call 95;refine hsp.mono ?_;rintro e w3 ⟨⟨v,rfl,hov⟩,hN3⟩)
 go_ret2
 have hh:=H2.out
 have hb3:Below w.heap.size w w3:=(HV.out.1.trans (hh.1.mono HV.out.1.size)).trans (hN3.less (Nat.le_trans HV.out.1.size hh.2.1.hz) (Nat.le_trans HV.out.1.size hh.1.size))
 have hsz:w.heap.size≤w2.heap.size:=Nat.le_trans HV.out.1.size hh.1.size
 unfold k3u j8l
 by_cases hE:b.ends (-1) 0=[]
 ·rw[j5e hh.2.2.1 hE,if_neg (by decide)]
  rw[j7n hE]
  have hov':OwnR w3 w2.heap.size v []:=by unfold j5y at hov;rwa [if_pos hE] at hov
  exact⟨⟨_,rfl,hov'.mono hsz⟩,hb3⟩
 ·rw[j6a hh.2.2.1 hE,if_pos rfl]
  rw[j7m hE]
  have hov':OwnR w3 w2.heap.size v (j1b (b.ends (-1) 0) (fun i x=>hall x i) n):=by unfold j5y at hov;rwa [if_neg hE] at hov
  rw[k7k,hh.2.2.2] at hov'
  exact⟨⟨_,rfl,hov'.mono hsz⟩,hb3⟩
def smV (s:Sm):Value:=.agg #[.int .i64 s.first,.int .i64 s.born,.int .i64 s.bought,.int .i64 s.sold,.int .i64 s.eaten]
abbrev smO (a b c d e:Int):Obj:=.cells #[.int .i64 a,.int .i64 b,.int .i64 c,.int .i64 d,.int .i64 e] 46 (0,0)
def SmB (B:Int) (s:Sm):Prop:=(0≤s.first∧s.first≤B)∧(0≤s.born∧s.born≤B)∧(0≤s.bought∧s.bought≤B)∧(0≤s.sold∧s.sold≤B)∧(0≤s.eaten∧s.eaten≤B)
theorem stepS_bd {B:Int} {o:Int} {s:Sm} {d:De} (h:SmB B s) (hm:0≤d.many∧d.many≤300):SmB (B+300) (j1f o s d):=by
 obtain⟨h1,h2,h3,h4,h5⟩:=h
 unfold j1f SmB
 split
 ·exact⟨by dsimp;omega,by dsimp;omega,by dsimp;omega,by dsimp;omega,by dsimp;omega⟩
 split
 ·exact⟨by dsimp;omega,by dsimp;omega,by dsimp;omega,by dsimp;omega,by dsimp;omega⟩
 split
 ·exact⟨by dsimp;omega,by dsimp;omega,by dsimp;omega,by dsimp;omega,by dsimp;omega⟩
 split
 ·exact⟨by dsimp;omega,by dsimp;omega,by dsimp;omega,by dsimp;omega,by dsimp;omega⟩
 ·exact⟨by omega,by omega,by omega,by omega,by omega⟩
theorem j9n {hs:List (List Int)} {o:Nat} {ds:List De} (h0:0≤j0s (j0j hs) o∧j0s (j0j hs) o≤3000) (hm:∀ d∈ds,0≤d.many∧d.many≤300):∀ k,k≤ds.length→SmB (3000+300*(k:Int)) (sumS hs o (ds.take k))
 | 0,_=>by simp[sumS,SmB];omega
 | k+1,hk=>by
   have hg:ds[k]?=some ds[k]:=List.getElem?_eq_getElem (by omega)
   rw[k1r hs o ds hg]
   have:=stepS_bd (o:=o) (j9n h0 hm k (by omega)) (hm _ (List.getElem_mem (l:=ds) (show k<ds.length by omega)))
   rw[show(3000:Int)+300*((k+1:Nat):Int)=3000+300*(k:Int)+300 by omega]
   exact this
theorem sum_any (w0:World) (p:Nat) (b:Hb) (deed owner:Int) (w:World) (hW:Work w0 p b deed owner w) (o:Nat) (ho:o<5) :
 Calls Tryz.prog 59 #[.pointer (some ⟨p,0,none⟩),.int .i64 o] w fun e w'=>e=.returned (smV (sumS b.hs o b.ds))∧Below w.heap.size w w':=by
 obtain⟨V,hV⟩:∃ V,V=w.alloc (Obj.cells #[.int .i64 0,.int .i64 0,.int .i64 0,.int .i64 0,.int .i64 0] 46):=⟨_,rfl⟩
 obtain⟨r,hr⟩:∃ r,r=w.heap.size:=⟨_,rfl⟩
 have b0:V.heap[r]?=some (smO 0 0 0 0 0):=by rw[hV,hr];exact j0c rfl
 have hBV:Below w.heap.size w V:=by rw[hV];exact bal0 w _
 have hWV:=hW.below hBV (zL9 _)
 obtain⟨now,hp⟩:=hWV.hp
 have hok:=hWV.ok
 have hfi:=k6a p b.t b.A b.l.length b.c b.l b.vk b.vd b.Ah b.ch b.hs deed owner now V (hWV.book hp) hWV.inn.h (by have:=hok.f3;have:=hok.hl;omega) (fun x hx=>by have:=hok.rl x hx;have:=hok.n5;omega)
 have hfb:HBd 20 (j0j b.hs):=j5h hok.rb
 have hob:=k1i (j0j b.hs) o
 have hpl:=hW.lt
 have HV:=zQ9 (zA9 hBV (zA9 b0 (zA9 hWV (zA9 hr hok))))
 have HF:=zQ9 hfb
 go_enter Tryz.func59,Tryz.ntmps59
 go_upto_region 1 with (fail)
 rw[←hV,←hr]
 clear hV hBV b0 hWV hp hok hfb
 rw[←hr] at hpl
 clear hr
 go_upto_region 2 with (first
  | (go_at_call 104;refine hfi.mono ?_;rintro e w1 ⟨rfl,hb1⟩)
  | (go_at_call 97;refine(hob w1 (HF.out.mono (by omega)) ho).mono ?_;rintro e w2 ⟨rfl,hb2⟩))
 have hb2':Below V.heap.size V w2:=hb1.trans (hb2.mono hb1.size)
 clear hb1 hb2 hfi hob
 obtain⟨f0,hf0⟩:∃ f,f=j0s (j0j b.hs) o:=⟨_,rfl⟩
 have hf3:0≤f0∧f0≤3000:=by
  have h0:=HF.out.get (show 0<3 by decide) ho
  have h1:=HF.out.get (show 1<3 by decide) ho
  have h2:=HF.out.get (show 2<3 by decide) ho
  rw[hf0];unfold j0s;omega
 rw[←hf0]
 obtain⟨s,hs⟩:∃ s,s=w2.heap.size:=⟨_,rfl⟩
 obtain⟨U,hU⟩:∃ U,U=w2.alloc (Obj.cells #[.int .i64 f0,.int .i64 0,.int .i64 0,.int .i64 0,.int .i64 0] 46):=⟨_,rfl⟩
 rw[←hU,←hs]
 have hbU:Below V.heap.size V U:=by rw[hU];exact bal hb2' (zL9 _) _
 have bS:U.heap[s]?=some (smO f0 0 0 0 0):=by rw[hU,hs];exact j0c rfl
 have hVs:V.heap.size≤s:=by rw[hs];exact hb2'.size
 have hWU:=HV.out.2.2.1.below hbU (zL9 _)
 obtain⟨now2,hp2⟩:=hWU.hp
 obtain⟨a0,a1,a2,a3,a4,a5,a6,a7⟩:=blkB hp2
 obtain⟨nd,hnd⟩:∃ nd,nd=b.ds.length:=⟨_,rfl⟩
 have hsb:∀ k,k≤nd→SmB (3000+300*(k:Int)) (sumS b.hs o (b.ds.take k)):=fun k hk=>j9n (by rw[←hf0];exact hf3) (fun d hd=>by have:=(HV.out.2.2.2.2.dI d hd).m;omega) k (by omega)
 have hd6:nd≤6:=by rw[hnd];exact HV.out.2.2.2.2.d6
 obtain⟨Dx,hDx⟩:∃ D,D=b.Ad:=⟨_,rfl⟩
 obtain⟨cx,hcx⟩:∃ D,D=b.cd:=⟨_,rfl⟩
 have hcd:nd≤cx∧cx≤maxLen:=by rw[hnd,hcx];exact⟨hWU.inn.dc,hWU.inn.dm⟩
 unfold Hb.vd at a4
 rw[←hnd,←hDx,←hcx] at a4
 have hds:Deeds w0 Dx nd b.ds:=by rw[hnd,hDx];exact hWU.hin.d
 have HU:=zQ9 (zA9 hbU (zA9 bS (zA9 hVs (zA9 hWU (zA9 hnd (zA9 hsb (zA9 hf0 hds)))))))
 clear hbU bS hVs hWU hnd hsb hf0 hp2 hU hs hDx hcx hds hb2'
 go_wp2_with fail
 go_loopg [20] nd (fun g v20 wr=>∃ k:Nat,k+g=nd∧v20=.int .i64 k∧(∃ x:Sm,x=sumS b.hs o (b.ds.take k)∧wr.heap[s]?=some (smO x.first x.born x.bought x.sold x.eaten))∧(∀ j,j<U.heap.size→j≠s→wr.heap[j]?=U.heap[j]?)∧U.heap.size≤wr.heap.size∧wr.os=U.os∧wr.tape=U.tape∧wr.output=U.output)
 case atStart=>exact⟨0,by omega,rfl,⟨⟨f0,0,0,0,0⟩,by rw[List.take_zero];unfold sumS;rw[HU.out.2.2.2.2.2.2.1];rfl,HU.out.2.1⟩,fun _ _ _=>rfl,zL9 _,rfl,rfl,rfl⟩
 case round =>
  obtain⟨k,hk,rfl,⟨x,hx,bs⟩,hfar,hsz,ho1,ho2,ho3⟩:=hrel
  by_cases hlt:k<nd
  ·have hWr:Below w0.heap.size w0 wr:=HU.out.2.2.2.1.bel.trans ⟨ho1,ho2,ho3,hsz,fun j hj=>hfar j (by have:=HU.out.2.2.2.1.bel.size;omega) (by have:=HU.out.2.2.2.1.hz;have:=HU.out.2.2.1;have:=HV.out.1.size;have:=HV.out.2.2.2.1;omega)⟩
   obtain⟨bd,od,⟨kind,flock,ow,other,tof,many,err,sg⟩,rfl,hbl,hd,e0,e1,e2,e3,e4,e5,e6,e7,e8,e9,e10,e11⟩:=Deeds.get (HU.out.2.2.2.2.2.2.2.below hWr (zL9 _)) hlt
   obtain⟨x1,x2,x3,x4,x5⟩:=x
   obtain⟨b1,b2,b3,b4,b5⟩:=HU.out.2.2.2.2.2.1 k (by omega)
   rw[←hx] at b1 b2 b3 b4 b5
   have hsn:=k1r b.hs o b.ds hd
   rw[←hx] at hsn
   have hdm:=(HV.out.2.2.2.2.dI _ (List.mem_of_getElem? hd)).m
   have hdk:=(HV.out.2.2.2.2.dI _ (List.mem_of_getElem? hd)).k
   dsimp only at hdm hdk e0 e1 e2 e3 e4 e5 e6 e7 e8 e9 e10 e11 b1 b2 b3 b4 b5 bs
   have gs1:=frz bs 1
   have gs2:=frz bs 2
   have gs3:=frz bs 3
   have gs4:=frz bs 4
   have hslt:=j0a bs
   obtain⟨w0',w1',w2',w3',w4'⟩:=j0h bs
   by_cases how:ow=(o:Int)
   ·have eo:(ow==(o:Int))=true:=by simp[how]
    by_cases h1:kind=1
    ·subst h1
     simp[j1f,how] at hsn
     have HN:=zQ9 (zA9 bs (zA9 hk (zA9 hfar (zA9 hsz (zA9 ho1 (zA9 ho2 (zA9 ho3 hsn)))))))
     clear bs hk hfar hsz ho1 ho2 ho3 hsn hx hd hdk hWr
     go_wp2_with fail
     go_roundg (gk-1)
     case measure=>have:=HN.out.2.1;omega
     case rel=>exact⟨k+1,by have:=HN.out.2.1;omega,by go_num,⟨_,HN.out.2.2.2.2.2.2.2.symm,j0b ((j0d HN.out.1).trans (by simp)) _⟩,fun j hj hne=>(Below.heap_alloc _ _ _ (by have:=HN.out.2.2.2.1;simp;omega)).trans ((Below.heap_setCell _ ⟨s,_,none⟩ _ _ hne).trans (HN.out.2.2.1 j hj hne)),by have:=HN.out.2.2.2.1;simp;omega,HN.out.2.2.2.2.1,HN.out.2.2.2.2.2.1,HN.out.2.2.2.2.2.2.1⟩
    by_cases h2:kind=2
    ·subst h2
     simp[j1f,how] at hsn
     have HN:=zQ9 (zA9 bs (zA9 hk (zA9 hfar (zA9 hsz (zA9 ho1 (zA9 ho2 (zA9 ho3 hsn)))))))
     clear bs hk hfar hsz ho1 ho2 ho3 hsn hx hd hdk hWr
     go_wp2_with fail
     go_roundg (gk-1)
     case measure=>have:=HN.out.2.1;omega
     case rel=>exact⟨k+1,by have:=HN.out.2.1;omega,by go_num,⟨_,HN.out.2.2.2.2.2.2.2.symm,j0b ((j0d HN.out.1).trans (by simp)) _⟩,fun j hj hne=>(Below.heap_alloc _ _ _ (by have:=HN.out.2.2.2.1;simp;omega)).trans ((Below.heap_setCell _ ⟨s,_,none⟩ _ _ hne).trans (HN.out.2.2.1 j hj hne)),by have:=HN.out.2.2.2.1;simp;omega,HN.out.2.2.2.2.1,HN.out.2.2.2.2.2.1,HN.out.2.2.2.2.2.2.1⟩
    by_cases h3:kind=3
    ·subst h3
     simp[j1f,how] at hsn
     have HN:=zQ9 (zA9 bs (zA9 hk (zA9 hfar (zA9 hsz (zA9 ho1 (zA9 ho2 (zA9 ho3 hsn)))))))
     clear bs hk hfar hsz ho1 ho2 ho3 hsn hx hd hdk hWr
     go_wp2_with fail
     go_roundg (gk-1)
     case measure=>have:=HN.out.2.1;omega
     case rel=>exact⟨k+1,by have:=HN.out.2.1;omega,by go_num,⟨_,HN.out.2.2.2.2.2.2.2.symm,j0b ((j0d HN.out.1).trans (by simp)) _⟩,fun j hj hne=>(Below.heap_alloc _ _ _ (by have:=HN.out.2.2.2.1;simp;omega)).trans ((Below.heap_setCell _ ⟨s,_,none⟩ _ _ hne).trans (HN.out.2.2.1 j hj hne)),by have:=HN.out.2.2.2.1;simp;omega,HN.out.2.2.2.2.1,HN.out.2.2.2.2.2.1,HN.out.2.2.2.2.2.2.1⟩
    have k1:(kind==1)=false:=by simp[h1]
    have k2:(kind==2)=false:=by simp[h2]
    have k3:(kind==3)=false:=by simp[h3]
    simp[j1f,how,h1,h2,h3] at hsn
    have HN:=zQ9 (zA9 bs (zA9 hk (zA9 hfar (zA9 hsz (zA9 ho1 (zA9 ho2 (zA9 ho3 hsn)))))))
    clear bs hk hfar hsz ho1 ho2 ho3 hsn hx hd hdk hWr
    go_wp2_with fail
    go_roundg (gk-1)
    case measure=>have:=HN.out.2.1;omega
    case rel=>exact⟨k+1,by have:=HN.out.2.1;omega,by go_num,⟨_,HN.out.2.2.2.2.2.2.2.symm,j0b HN.out.1 _⟩,fun j hj hne=>(Below.heap_alloc _ _ _ (by have:=HN.out.2.2.2.1;omega)).trans (HN.out.2.2.1 j hj hne),by have:=HN.out.2.2.2.1;simp;omega,HN.out.2.2.2.2.1,HN.out.2.2.2.2.2.1,HN.out.2.2.2.2.2.2.1⟩
   ·have eo:(ow==(o:Int))=false:=by simp[how]
    by_cases h2:kind=2
    ·subst h2
     by_cases hot:other=(o:Int)
     ·have et:(other==(o:Int))=true:=by simp[hot]
      simp[j1f,how,hot] at hsn
      have HN:=zQ9 (zA9 bs (zA9 hk (zA9 hfar (zA9 hsz (zA9 ho1 (zA9 ho2 (zA9 ho3 hsn)))))))
      clear bs hk hfar hsz ho1 ho2 ho3 hsn hx hd hdk hWr
      go_wp2_with fail
      go_roundg (gk-1)
      case measure=>have:=HN.out.2.1;omega
      case rel=>exact⟨k+1,by have:=HN.out.2.1;omega,by go_num,⟨_,HN.out.2.2.2.2.2.2.2.symm,j0b ((j0d HN.out.1).trans (by simp)) _⟩,fun j hj hne=>(Below.heap_alloc _ _ _ (by have:=HN.out.2.2.2.1;simp;omega)).trans ((Below.heap_setCell _ ⟨s,_,none⟩ _ _ hne).trans (HN.out.2.2.1 j hj hne)),by have:=HN.out.2.2.2.1;simp;omega,HN.out.2.2.2.2.1,HN.out.2.2.2.2.2.1,HN.out.2.2.2.2.2.2.1⟩
     ·have et:(other==(o:Int))=false:=by simp[hot]
      simp[j1f,how,hot] at hsn
      have HN:=zQ9 (zA9 bs (zA9 hk (zA9 hfar (zA9 hsz (zA9 ho1 (zA9 ho2 (zA9 ho3 hsn)))))))
      clear bs hk hfar hsz ho1 ho2 ho3 hsn hx hd hdk hWr
      go_wp2_with fail
      go_roundg (gk-1)
      case measure=>have:=HN.out.2.1;omega
      case rel=>exact⟨k+1,by have:=HN.out.2.1;omega,by go_num,⟨_,HN.out.2.2.2.2.2.2.2.symm,j0b HN.out.1 _⟩,fun j hj hne=>(Below.heap_alloc _ _ _ (by have:=HN.out.2.2.2.1;omega)).trans (HN.out.2.2.1 j hj hne),by have:=HN.out.2.2.2.1;simp;omega,HN.out.2.2.2.2.1,HN.out.2.2.2.2.2.1,HN.out.2.2.2.2.2.2.1⟩
    have k2:(kind==2)=false:=by simp[h2]
    simp[j1f,how,h2] at hsn
    have HN:=zQ9 (zA9 bs (zA9 hk (zA9 hfar (zA9 hsz (zA9 ho1 (zA9 ho2 (zA9 ho3 hsn)))))))
    clear bs hk hfar hsz ho1 ho2 ho3 hsn hx hd hdk hWr
    go_wp2_with fail
    go_roundg (gk-1)
    case measure=>have:=HN.out.2.1;omega
    case rel=>exact⟨k+1,by have:=HN.out.2.1;omega,by go_num,⟨_,HN.out.2.2.2.2.2.2.2.symm,j0b HN.out.1 _⟩,fun j hj hne=>(Below.heap_alloc _ _ _ (by have:=HN.out.2.2.2.1;omega)).trans (HN.out.2.2.1 j hj hne),by have:=HN.out.2.2.2.1;simp;omega,HN.out.2.2.2.2.1,HN.out.2.2.2.2.2.1,HN.out.2.2.2.2.2.2.1⟩
  ·obtain rfl:k=nd:=by omega
   obtain⟨w0',w1',w2',w3',w4'⟩:=j0h bs
   have hr0:wr.heap[r]?=some (smO 0 0 0 0 0):=(hfar r (by have:=HU.out.1.size;have:=j0a HV.out.2.1;omega) (by have:=HU.out.2.2.1;have:=j0a HV.out.2.1;omega)).trans (j0e HV.out.2.1 HU.out.1 (zL9 _))
   obtain⟨z0,z1,z2,z3,z4⟩:=j0h hr0
   obtain⟨f0',f1,f2,f3,f4⟩:=zA9 (frz hr0 0) (zA9 (frz hr0 1) (zA9 (frz hr0 2) (zA9 (frz hr0 3) (frz hr0 4))))
   have hlr:=j0a hr0
   have hxx:x=sumS b.hs o b.ds:=by rw[hx,HU.out.2.2.2.2.1,List.take_length]
   obtain⟨x1,x2,x3,x4,x5⟩:=x
   dsimp only at w0' w1' w2' w3' w4'
   have HN:=zQ9 (zA9 hr0 (zA9 hxx (zA9 hfar (zA9 hsz (zA9 ho1 (zA9 ho2 ho3))))))
   clear hr0 hxx hfar hsz ho1 ho2 ho3 hx bs hk
   go_wp2_with fail
   obtain⟨Z,hZ⟩:∃ Z,Z=(((((wr.setCell ⟨r,0,none⟩ (.int .i64 x1)).setCell ⟨r,1,none⟩ (.int .i64 x2)).setCell ⟨r,2,none⟩ (.int .i64 x3)).setCell ⟨r,3,none⟩ (.int .i64 x4)).setCell ⟨r,4,none⟩ (.int .i64 x5)):=⟨_,rfl⟩
   rw[←hZ]
   have bZ:Z.heap[r]?=some (smO x1 x2 x3 x4 x5):=by rw[hZ];exact(j0d (j0d (j0d (j0d (j0d HN.out.1))))).trans (by simp)
   have hgr:wr.grownBy Z (some r):=by rw[hZ];exact((((j0i _ r _ _).trans (j0i _ r _ _)).trans (j0i _ r _ _)).trans (j0i _ r _ _)).trans (j0i _ r _ _)
   obtain⟨q0,q1,q2,q3,q4⟩:=j0h bZ
   clear hZ
   refine bodyPost_ret (v:=.agg #[.int .i64 x1,.int .i64 x2,.int .i64 x3,.int .i64 x4,.int .i64 x5]) (by simp[results,Tryz.f59,go_sem,q0,q1,q2,q3,q4]) rfl ⟨by rw[←HN.out.2.1];rfl,?_⟩
   have hn:=HN.out
   have hBU:Below w.heap.size w U:=HV.out.1.trans (HU.out.1.mono HV.out.1.size)
   refine hBU.trans ⟨hgr.os.trans hn.2.2.2.2.1,hgr.tape.trans hn.2.2.2.2.2.1,hgr.output.trans hn.2.2.2.2.2.2,Nat.le_trans hn.2.2.2.1 hgr.size,fun j hj=>?_⟩
   have h1:=HV.out.2.2.2.1
   have h2:=HU.out.2.2.1
   have h3:=HV.out.1.size
   have h4:=hBU.size
   exact(hgr.block j (by omega) (fun e=>by cases e;omega)).trans (hn.2.2.1 j (by omega) (by omega))
def sumE (b:Hb) (o:Int):Int:=if b.chk≠0 then b.chk else if ownB b.l.length o=false then 3 else 0
def sumR (b:Hb) (o:Int):Sm:=if sumE b o=0 then sumS b.hs o.toNat b.ds else ⟨0,0,0,0,0⟩
def SumR (b:Hb) (o:Int) (w:World) (e:Ending) (w':World):Prop:=e=.returned (.tuple #[smV (sumR b o),.int .i64 (sumE b o)])∧Below w.heap.size w w'
theorem k5p {b:Hb} {o e:Int} {s:Sm} {w Z w':World} {r:Nat} (he:sumE b o=e) (hs:sumR b o=s) (hb:Below w.heap.size w w'):SumR b o w (.returned (.tuple #[.agg #[.int .i64 s.first,.int .i64 s.born,.int .i64 s.bought,.int .i64 s.sold,.int .i64 s.eaten],.int .i64 e])) w':=by
 subst he hs;exact⟨rfl,hb⟩
theorem Sum_any (b:Hb) (o:Int) (w:World) (hin:HbIn w b):Calls Tryz.prog 15 #[b.v,.int .i64 o] w (SumR b o w):=by
 obtain⟨g,hg⟩:∃ g,g=w.heap.size:=⟨_,rfl⟩
 obtain⟨V,hV⟩:∃ V,V=(w.alloc b.obj).alloc (Obj.cells #[.int .i64 0,.int .i64 0,.int .i64 0,.int .i64 0,.int .i64 0] 46):=⟨_,rfl⟩
 have b0:V.heap[g]?=some b.obj:=by rw[hV,hg];exact j0b (j0c rfl) _
 have b1:V.heap[g+1]?=some (smO 0 0 0 0 0):=by rw[hV,hg];exact j0c (by simp)
 have hBV:Below w.heap.size w V:=by rw[hV];exact bal (bal0 w _) (zL9 _) _
 have hiV:=hin.below hBV (zL9 _)
 obtain⟨c0,c1,c2,c3,c4⟩:=j0h b0
 have hak:=j3v b V hiV
 unfold Hb.v at hak
 have HV:=zQ9 (zA9 hBV (zA9 b0 (zA9 b1 hg)))
 unfold Hb.v
 go_enter Tryz.func15,Tryz.ntmps15
 go_upto_region 1 with (fail)
 rw[←hV,←hg]
 clear hV hg hin hBV hiV b0 b1
 obtain⟨R,hR⟩:∃ R,R=j2v b b.chk V:=⟨_,rfl⟩
 rw[←hR] at hak
 have HR:=zQ9 hR
 clear hR
 go_upto_region 2 with (go_at_call 55;refine hak.mono ?_;rintro e w2 hRR;rw[HR.out] at hRR;unfold j2v at hRR;rcases hRR with ⟨h0,rfl,hb2⟩|⟨h0,p,rfl,hWk,hb2⟩)
 ·have xf:(b.chk==0)=false:=by simp[h0]
  have xg:(b.chk != 0)=true:=by simp[h0]
  have y1:=j0e HV.out.2.2.1 hb2 (zL9 _)
  obtain⟨z0,z1,z2,z3,z4⟩:=j0h y1
  obtain⟨f0,f1,f2,f3,f4⟩:=zA9 (frz y1 0) (zA9 (frz y1 1) (zA9 (frz y1 2) (zA9 (frz y1 3) (frz y1 4))))
  have hl1:=j0a y1
  have H2:=zQ9 (zA9 h0 (zA9 hb2 y1))
  clear h0 hb2 y1 hak c0 c1 c2 c3 c4
  go_wp2_with fail
  obtain⟨Z,hZ⟩:∃ Z,Z=(((((w2.setCell ⟨g+1,0,none⟩ (.int .i64 0)).setCell ⟨g+1,1,none⟩ (.int .i64 0)).setCell ⟨g+1,2,none⟩ (.int .i64 0)).setCell ⟨g+1,3,none⟩ (.int .i64 0)).setCell ⟨g+1,4,none⟩ (.int .i64 0)):=⟨_,rfl⟩
  rw[←hZ]
  have bZ:Z.heap[g+1]?=some (smO 0 0 0 0 0):=by rw[hZ];exact(j0d (j0d (j0d (j0d (j0d H2.out.2.2))))).trans (by simp)
  have hgr:w2.grownBy Z (some (g+1)):=by rw[hZ];exact((((j0i _ _ _ _).trans (j0i _ _ _ _)).trans (j0i _ _ _ _)).trans (j0i _ _ _ _)).trans (j0i _ _ _ _)
  obtain⟨q0,q1,q2,q3,q4⟩:=j0h bZ
  clear hZ
  refine bodyPost_ret (v:=.tuple #[.agg #[.int .i64 0,.int .i64 0,.int .i64 0,.int .i64 0,.int .i64 0],.int .i64 b.chk]) (by simp[results,Tryz.f15,go_sem,q0,q1,q2,q3,q4]) rfl ?_
  have he:sumE b o=b.chk:=by unfold sumE;rw[if_pos H2.out.1]
  refine k5p (s:=⟨0,0,0,0,0⟩) (Z:=w) (r:=0) he (by unfold sumR;rw[he,if_neg H2.out.1]) ((HV.out.1.trans (H2.out.2.1.mono HV.out.1.size)).grown hgr ?_ (fun k e=>by cases e;rw[←HV.out.2.2.2];omega))
  have h1:=HV.out.1.size;have h2:=H2.out.2.1.size;omega
 have y0:=j0e HV.out.2.1 hb2 (zL9 _)
 have y1:=j0e HV.out.2.2.1 hb2 (zL9 _)
 clear c0 c1 c2 c3 c4 hak
 obtain⟨z0,z1,z2,z3,z4⟩:=j0h y1
 obtain⟨f0,f1,f2,f3,f4⟩:=zA9 (frz y1 0) (zA9 (frz y1 1) (zA9 (frz y1 2) (zA9 (frz y1 3) (frz y1 4))))
 have hl1:=j0a y1
 obtain⟨now,hp⟩:=hWk.hp
 obtain⟨T,hT⟩:∃ T,T=w2.alloc (Obj.cells #[Value.int .i64 o] 3):=⟨_,rfl⟩
 have hbT:Below w2.heap.size w2 T:=by rw[hT];exact bal0 w2 _
 have hio:=j3r p .nilFunc b.t b.A b.l.length b.c b.vk b.vh b.vd (-1) 0 now (some ⟨w2.heap.size,0,none⟩) 1 1 [o] T (j0e hp hbT (zL9 _)) (by rw[hT];exact ints1 w2 3 o) (Nat.le_trans hWk.inn.mc hWk.inn.mm) (by unfold maxLen;omega)
 simp only[List.all_cons,List.all_nil,Bool.and_true] at hio
 obtain⟨ob,hob⟩:∃ ob,ob=ownB b.l.length o:=⟨_,rfl⟩
 rw[←hob] at hio
 have y1T:=j0e y1 hbT (zL9 _)
 have hWT:=hWk.below hbT (zL9 _)
 have H2:=zQ9 (zA9 h0 (zA9 (hb2.trans (hbT.mono hb2.size)) (zA9 y1T (zA9 hWT hob))))
 have hpl:=hWk.lt
 have hzz:=hb2.size
 clear h0 hb2 y0 y1 hp hWk hob hWT
 obtain⟨z0',z1',z2',z3',z4'⟩:=j0h y1T
 obtain⟨f0',f1',f2',f3',f4'⟩:=zA9 (frz y1T 0) (zA9 (frz y1T 1) (zA9 (frz y1T 2) (zA9 (frz y1T 3) (frz y1T 4))))
 have hl1':=j0a y1T
 have HT:=zQ9 hT
 clear hbT y1T hT
 go_upto_if 21 with (go_at_call 58;rw[←HT.out];refine hio.mono ?_;rintro e w3 ⟨rfl,rfl⟩)
 cases ob with
 | false =>
   clear z0 z1 z2 z3 z4 f0 f1 f2 f3 f4 hl1 hio
   go_wp2_with fail
   obtain⟨Z,hZ⟩:∃ Z,Z=(((((T.setCell ⟨g+1,0,none⟩ (.int .i64 0)).setCell ⟨g+1,1,none⟩ (.int .i64 0)).setCell ⟨g+1,2,none⟩ (.int .i64 0)).setCell ⟨g+1,3,none⟩ (.int .i64 0)).setCell ⟨g+1,4,none⟩ (.int .i64 0)):=⟨_,rfl⟩
   rw[←hZ]
   have bZ:Z.heap[g+1]?=some (smO 0 0 0 0 0):=by rw[hZ];exact(j0d (j0d (j0d (j0d (j0d H2.out.2.2.1))))).trans (by simp)
   have hgr:T.grownBy Z (some (g+1)):=by rw[hZ];exact((((j0i _ _ _ _).trans (j0i _ _ _ _)).trans (j0i _ _ _ _)).trans (j0i _ _ _ _)).trans (j0i _ _ _ _)
   obtain⟨q0,q1,q2,q3,q4⟩:=j0h bZ
   clear hZ
   refine bodyPost_ret (v:=.tuple #[.agg #[.int .i64 0,.int .i64 0,.int .i64 0,.int .i64 0,.int .i64 0],.int .i64 3]) (by simp[results,Tryz.f15,go_sem,q0,q1,q2,q3,q4]) rfl ?_
   have he:sumE b o=3:=by unfold sumE;rw[if_neg (by rw[H2.out.1];simp),if_pos H2.out.2.2.2.2.symm]
   refine k5p (s:=⟨0,0,0,0,0⟩) (Z:=w) (r:=0) he (by unfold sumR;rw[he,if_neg (by decide)]) ((HV.out.1.trans (H2.out.2.1.mono HV.out.1.size)).grown hgr ?_ (fun k e=>by cases e;rw[←HV.out.2.2.2];omega))
   have h1:=HV.out.1.size;have h2:=H2.out.2.1.size;omega
 | true =>
   obtain⟨ho0,ho1⟩:=j1i.1 H2.out.2.2.2.2.symm
   obtain⟨k,rfl⟩:=Int.eq_ofNat_of_zero_le ho0
   have hok:=H2.out.2.2.2.1.ok
   have hk5:k<5:=by have:=hok.n5;omega
   have hsm:=sum_any V p b (-1) 0 T H2.out.2.2.2.1 k hk5
   clear z0 z1 z2 z3 z4 f0 f1 f2 f3 f4 hl1 hio z0' z1' z2' z3' z4' f0' f1' f2' f3' f4' hl1' ho0 ho1 hok
   obtain⟨sv,hsv⟩:∃ sv,sv=sumS b.hs k b.ds:=⟨_,rfl⟩
   rw[←hsv] at hsm
   have HS:=zQ9 hsv
   clear hsv
   go_wp2_with (go_at_call 59;refine hsm.mono ?_;rintro e w3 ⟨rfl,hb3⟩;unfold smV;have y1:=j0e H2.out.2.2.1 hb3 (zL9 _);obtain⟨z0,z1,z2,z3,z4⟩:=j0h y1;obtain⟨f0,f1,f2,f3,f4⟩:=zA9 (frz y1 0) (zA9 (frz y1 1) (zA9 (frz y1 2) (zA9 (frz y1 3) (frz y1 4))));have hl1:=j0a y1;have H3:=zQ9 (zA9 y1 hb3);clear y1 hb3)
   obtain⟨Z,hZ⟩:∃ Z,Z=(((((w3.setCell ⟨g+1,0,none⟩ (.int .i64 sv.first)).setCell ⟨g+1,1,none⟩ (.int .i64 sv.born)).setCell ⟨g+1,2,none⟩ (.int .i64 sv.bought)).setCell ⟨g+1,3,none⟩ (.int .i64 sv.sold)).setCell ⟨g+1,4,none⟩ (.int .i64 sv.eaten)):=⟨_,rfl⟩
   rw[←hZ]
   have bZ:Z.heap[g+1]?=some (smO sv.first sv.born sv.bought sv.sold sv.eaten):=by rw[hZ];exact(j0d (j0d (j0d (j0d (j0d H3.out.1))))).trans (by simp)
   have hgr:w3.grownBy Z (some (g+1)):=by rw[hZ];exact((((j0i _ _ _ _).trans (j0i _ _ _ _)).trans (j0i _ _ _ _)).trans (j0i _ _ _ _)).trans (j0i _ _ _ _)
   obtain⟨q0,q1,q2,q3,q4⟩:=j0h bZ
   clear hZ
   refine bodyPost_ret (v:=.tuple #[.agg #[.int .i64 sv.first,.int .i64 sv.born,.int .i64 sv.bought,.int .i64 sv.sold,.int .i64 sv.eaten],.int .i64 0]) (by simp[results,Tryz.f15,go_sem,q0,q1,q2,q3,q4]) rfl ?_
   have he:sumE b k=0:=by unfold sumE;rw[if_neg (by rw[H2.out.1];simp),if_neg (by rw[←H2.out.2.2.2.2];simp)]
   have hbb:Below w.heap.size w w3:=(HV.out.1.trans (H2.out.2.1.mono HV.out.1.size)).trans (H3.out.2.mono (Nat.le_trans HV.out.1.size H2.out.2.1.size))
   refine k5p (s:=sv) (Z:=w) (r:=0) he (by unfold sumR;rw[he,if_pos rfl,HS.out];rfl) (hbb.grown hgr ?_ (fun k e=>by cases e;rw[←HV.out.2.2.2];omega))
   exact hbb.size
theorem k3j {hs:List (List Int)} {o:Nat} (hl:hs.length≤3) (ho:o<5):(hs.map fun r=>r.getD o 0).sum=j0s (j0j hs) o:=by
 unfold j0s
 rw[j0w _ (by decide) ho,j0w _ (by decide) ho,j0w _ (by decide) ho]
 match hs,hl with
 | [],_=>simp[getG]
 | [a],_=>simp[getG]
 | [a,b],_=>simp[getG]
 | [a,b,c],_=>first|(simp[getG];done)|(simp[getG];omega)
 | a::b::c::d::t,h=>exact absurd h (by simp)
def SM9 (V:World) (b:Hb) (p:Nat) (x:Sm) (w:World):Prop:=w.heap[p]?=some b.obj∧w.heap[p+1]?=some (smO 0 0 0 0 0)∧w.heap[p+1+1]?=some (smO x.first x.born x.bought x.sold x.eaten)∧Below p V w
theorem SM9.step {V w w':World} {b:Hb} {p:Nat} {x:Sm} (h:SM9 V b p x w) (hb:Below w.heap.size w w'):SM9 V b p x w':=⟨j0e h.1 hb (zL9 _),j0e h.2.1 hb (zL9 _),j0e h.2.2.1 hb (zL9 _),h.2.2.2.trans (hb.mono (by have:=j0a h.1;omega))⟩
theorem SM9.put {V w:World} {b:Hb} {p i:Nat} {x y:Sm} {v:Int} (h:SM9 V b p x w) (hv:(w.setCell ⟨p+1+1,i,none⟩ (.int .i64 v)).heap[p+1+1]?=some (smO y.first y.born y.bought y.sold y.eaten)):SM9 V b p y (w.setCell ⟨p+1+1,i,none⟩ (.int .i64 v)) :=
 ⟨(Below.heap_setCell _ ⟨p+1+1,i,none⟩ _ _ (by dsimp;omega)).trans h.1,(Below.heap_setCell _ ⟨p+1+1,i,none⟩ _ _ (by dsimp;omega)).trans h.2.1,hv,h.2.2.2.setCell (by dsimp;omega) _⟩
theorem sum9_any (b:Hb) (hok:HeOk b.t b.l b.ks b.hs b.ds) (o:Nat) (hol:o<b.l.length) (w:World) (hin:HbIn w b) :
 Calls Tryz.prog 61 #[b.v,.int .i64 o] w fun e w'=>e=.returned (smV (sumS b.hs o b.ds))∧Below w.heap.size w w':=by
 have ho5:o<5:=by have:=hok.n5;omega
 have hfb:HBd 20 (j0j b.hs):=j5h hok.rb
 have hf3:0≤j0s (j0j b.hs) o∧j0s (j0j b.hs) o≤3000:=by
  have h0:=hfb.get (show 0<3 by decide) ho5
  have h1:=hfb.get (show 1<3 by decide) ho5
  have h2:=hfb.get (show 2<3 by decide) ho5
  unfold j0s;omega
 have hsb:∀ k,k≤b.ds.length→SmB (3000+300*(k:Int)) (sumS b.hs o (b.ds.take k)):=fun k hk=>j9n hf3 (fun d hd=>by have:=(hok.dI d hd).m;omega) k hk
 obtain⟨p,hp⟩:∃ p,p=w.heap.size:=⟨_,rfl⟩
 obtain⟨V,hV⟩:∃ V,V=((w.alloc b.obj).alloc (smO 0 0 0 0 0)).alloc (smO 0 0 0 0 0):=⟨_,rfl⟩
 have b0:SM9 w b p ⟨0,0,0,0,0⟩ V:=by
  rw[hV,hp]
  exact⟨j0b (j0b (j0c rfl) _) _,j0b (j0c (by simp)) _,j0c (by simp),bal (bal (bal0 _ _) (zL9 _) _) (zL9 _) _⟩
 have HX:=zQ9 (zA9 hok (zA9 hin (zA9 hsb hp)))
 have HB:=zQ9 b0
 have hhl:b.hs.length≤3:=by rw[hok.hl];exact hok.f3
 have hd6:=hok.d6
 have hhc:=hin.hc
 have hhm:=hin.hm
 have hdc:=hin.dc
 have hdm:=hin.dm
 clear hok hin hsb b0 hfb hf3
 unfold Hb.v
 go_enter Tryz.func61,Tryz.ntmps61
 go_upto_region 3 with (fail)
 rw[show((w.alloc (Obj.cells #[Value.int .i64 b.t,b.vm,b.vk,b.vh,b.vd] 29)).alloc (Obj.cells #[Value.int .i64 0,.int .i64 0,.int .i64 0,.int .i64 0,.int .i64 0] 46)).alloc (Obj.cells #[Value.int .i64 0,.int .i64 0,.int .i64 0,.int .i64 0,.int .i64 0] 46)=V from hV.symm,←hp]
 clear hV hp
 go_loopg [6] b.hs.length (fun gh v6 wr=>∃ k:Nat,k+gh=b.hs.length∧v6=.int .i64 k∧SM9 w b p ⟨((b.hs.take k).map fun r=>r.getD o 0).sum,0,0,0,0⟩ wr)
 case atStart=>exact⟨0,by omega,rfl,HB.out⟩
 case round =>
  obtain⟨k,hk,rfl,hB⟩:=hrel
  obtain⟨w2,hw2⟩:∃ W:World,W=wr:=⟨_,rfl⟩
  rw[←hw2] at hB ⊢
  clear hw2
  obtain⟨S,hS⟩:∃ S,S=((b.hs.take k).map fun r=>r.getD o 0).sum:=⟨_,rfl⟩
  rw[←hS] at hB
  have hpw:p=w.heap.size:=HX.out.2.2.2
  have hi2:=HX.out.2.1.below hB.2.2.2 (Nat.le_of_eq hpw.symm)
  obtain⟨c0,c1,c2,c3,c4⟩:=j0h hB.1
  obtain⟨s0,s1,s2,s3,s4⟩:=j0h hB.2.2.1
  have fz0:=frz hB.2.2.1 0
  have hlp:=j0a hB.1
  have hls:=j0a hB.2.2.1
  clear hpw
  by_cases hlt:k<b.hs.length
  ·obtain⟨bh,oh,Br,row,cr,eA,hbh,hrow,y1,hri,hrc,hrm⟩:=hi2.h.get hlt
   rw[eA] at c3
   have hrl:=HX.out.1.rl row (List.mem_of_getElem? hrow)
   obtain⟨bx,ox,x,rfl,hbx,hx,y2⟩:=Ints.get hri (show o<row.length by omega)
   have hxb:=HX.out.1.rb row (List.mem_of_getElem? hrow) x (List.mem_of_getElem? hx)
   rw[hrl] at y1 hrc
   have hsum:((b.hs.take (k+1)).map fun r=>r.getD o 0).sum=S+x:=by
    rw[List.take_add_one,hrow,List.map_append,List.sum_append,←hS]
    simp[List.getD_eq_getElem?_getD,hx]
   have hSb:-1000≤S∧S≤1000:=by
    have hq:=j8k (B:=20) (by decide) (l:=(b.hs.take k).map fun r=>r.getD o 0) fun z hz=>by
     obtain⟨r,hr,rfl⟩:=List.mem_map.1 hz
     have hrr:=HX.out.1.rl r (List.mem_of_mem_take hr)
     have:=HX.out.1.rb r (List.mem_of_mem_take hr) (r.getD o 0) (by rw[List.getD_eq_getElem?_getD,List.getElem?_eq_getElem (show o<r.length by omega)];exact List.getElem_mem _)
     omega
    rw[←hS,List.length_map,List.length_take] at hq
    omega
   have i1:(k:Int)<(b.hs.length:Int):=by omega
   have i2:(o:Int)<(b.l.length:Int):=by omega
   have HK:=zQ9 (zA9 hk (zA9 hB hsum))
   clear hk hB hsum hS hi2 hri hrow hrl hx eA
   go_upto_region 5 with (fail)
   refine j1r (C:=fun w'=>∃ n,w'=w2.drewN n) 12 (by kernel_rfl) (by kernel_rfl) ⟨1,rfl⟩ ?_
   simp only[List.take_succ_cons,List.take_zero,List.drop_succ_cons,List.drop_zero]
   repeat (quiet_step (fail))
   refine wpQuiet_nil ?_
   intro _ hw'
   obtain⟨nq,hw''⟩:=hw'
   subst hw''
   have HK2:=zQ9 (HK.out.2.1.step (j0l (Below.refl _ _) nq))
   have fz1:=frz HK2.out.2.2.1 0
   obtain⟨t0,t1,t2,t3,t4⟩:=j0h HK2.out.2.2.1
   have hls2:=j0a HK2.out.2.2.1
   clear c0 c1 c2 c3 c4 s0 s1 s2 s3 s4 fz0 y1 y2 hls hlp
   generalize w2.drewN nq=w3 at HK2 fz1 t0 t1 t2 t3 t4 hls2 ⊢
   go_wp2_with fail
   go_roundg (gk-1)
   case measure=>have:=HK.out.1;omega
   case rel =>
    refine⟨k+1,by have:=HK.out.1;omega,by go_num,?_⟩
    rw[HK.out.2.2]
    exact HK2.out.put ((j0d HK2.out.2.2.1).trans (by simp))
  ·obtain rfl:k=b.hs.length:=by omega
   rw[List.take_length,k3j hhl ho5] at hS
   have HB2:=zQ9 (show SM9 w b p (sumS b.hs o (b.ds.take 0)) w2 by rw[List.take_zero];unfold sumS;rw[←hS];exact hB)
   clear hB hS hk hi2 s0 s1 s2 s3 s4 fz0
   go_upto_region 7 with (fail)
   clear c0 c1 c2 c3 c4 hlp
   go_loopg [7,8] b.ds.length (fun gh v7 _ wr=>∃ k:Nat,k+gh=b.ds.length∧v7=.int .i64 k∧SM9 w b p (sumS b.hs o (b.ds.take k)) wr)
   case atStart=>exact⟨0,by omega,rfl,HB2.out⟩
   case round =>
    obtain⟨k,hk,rfl,hB⟩:=hrel
    obtain⟨w3,hw3⟩:∃ W:World,W=wr:=⟨_,rfl⟩
    rw[←hw3] at hB ⊢
    clear hw3
    obtain⟨x,hx⟩:∃ x,x=sumS b.hs o (b.ds.take k):=⟨_,rfl⟩
    rw[←hx] at hB
    obtain⟨c0,c1,c2,c3,c4⟩:=j0h hB.1
    have hlp:=j0a hB.1
    by_cases hlt:k<b.ds.length
    ·have hpw:p=w.heap.size:=HX.out.2.2.2
     have hi3:=HX.out.2.1.below hB.2.2.2 (Nat.le_of_eq hpw.symm)
     clear hpw
     obtain⟨bd,od,d,eA,hbd,hd,d0,d1,d2,d3,d4,d5,d6,d7,d8,d9,d10,d11⟩:=hi3.d.get hlt
     rw[eA] at c4
     have how:=j7y (HX.out.1.dE d (List.mem_of_getElem? hd))
     have hdm:=(HX.out.1.dI d (List.mem_of_getElem? hd)).m
     have hbd2:=HX.out.2.2.1 k (by omega)
     rw[←hx] at hbd2
     have hsn:=k1r b.hs o b.ds hd
     rw[←hx] at hsn
     have i1:(k:Int)<(b.ds.length:Int):=by omega
     have bz:(w3.alloc dZ).heap[w3.heap.size]?=some dZ:=j0c rfl
     have HK:=zQ9 (zA9 hk (zA9 hB (zA9 hsn (zA9 how.ne how.k))))
     clear hk hB hsn hi3 hd hx how eA
     go_upto_block 3 with (fail)
     go_cut [8] from 35 to 87 (fun _ wx=>SM9 w b p (j1f o x d) wx)
     case first =>
      go_upto_region 10 with ((with_reducible apply j8z bz rfl);(rfl);(rfl);(rfl);(rfl);intro w5 b5 g5 z5)
      obtain⟨gx,hgx⟩:∃ gx,gx=w3.heap.size:=⟨_,rfl⟩
      have hB5:Below w3.heap.size w3 w5:=⟨g5.os,g5.tape,g5.output,by rw[z5];simp,fun j hj=>(g5.block j (by simp;omega) (fun e=>by cases e;omega)).trans (Below.heap_alloc _ _ _ hj)⟩
      have hS5:=HK.out.2.1.step hB5
      have hgp:p+1+1<gx:=by rw[hgx];exact j0a HK.out.2.1.2.2.1
      rw[←hgx] at b5 ⊢
      have HS:=zQ9 (zA9 hS5 b5)
      clear hgx z5 g5 hB5 bz b5 hS5 d0 d1 d2 d3 d4 d5 d6 d7 d8 d9 d10 d11 c0 c1 c2 c3 c4 hlp
      obtain⟨y0,y1,y2,y3,y4,y5,y6,y7,y8,y9,y10,y11⟩:=blkD HS.out.2
      obtain⟨kd,hkd⟩:∃ kd,kd=d.kind:=⟨_,rfl⟩
      rw[←hkd] at y0
      have HKD:=zQ9 hkd
      clear hkd
      obtain⟨s0,s1,s2,s3,s4⟩:=j0h HS.out.1.2.2.1
      have fs:=frz HS.out.1.2.2.1
      obtain⟨q1,q2,q3,q4⟩:=zA9 (fs 1) (zA9 (fs 2) (zA9 (fs 3) (fs 4)))
      have hls:=j0a HS.out.1.2.2.1
      have hld:=j0a HS.out.2
      obtain⟨m0,m1,m2,m3,m4⟩:=hbd2
      clear fs
      obtain rfl|h1:kd=1∨kd≠1:=by omega
      ·by_cases how:d.owner=(o:Int)
       ·have e1:(d.owner==(o:Int))=true:=by simp[how]
        have HST:=zQ9 (show j1f o x d={ x with born:=x.born+d.many } by unfold j1f;rw[if_pos ⟨how,HKD.out.symm⟩])
        clear how
        go_wp2_with fail
        go_meet
        rw[HST.out]
        exact HS.out.1.put ((j0d HS.out.1.2.2.1).trans (by simp))
       ·have e1:(d.owner==(o:Int))=false:=beq_eq_false_iff_ne.2 how
        have HST:=zQ9 (show j1f o x d=x by unfold j1f;rw[if_neg (fun h=>how h.1),if_neg (fun h=>how h.1),if_neg (fun h=>how h.1),if_neg (fun h=>by have:=HKD.out;omega)])
        clear how
        go_wp2_with fail
        go_meet
        rw[HST.out]
        exact HS.out.1
      obtain rfl|h3:kd=3∨kd≠3:=by omega
      ·by_cases how:d.owner=(o:Int)
       ·have e1:(d.owner==(o:Int))=true:=by simp[how]
        have HST:=zQ9 (show j1f o x d={ x with eaten:=x.eaten+d.many } by unfold j1f;rw[if_neg (fun h=>by have:=HKD.out;omega),if_neg (fun h=>by have:=HKD.out;omega),if_pos ⟨how,HKD.out.symm⟩])
        clear how h1
        go_wp2_with fail
        go_meet
        rw[HST.out]
        exact HS.out.1.put ((j0d HS.out.1.2.2.1).trans (by simp))
       ·have e1:(d.owner==(o:Int))=false:=beq_eq_false_iff_ne.2 how
        have HST:=zQ9 (show j1f o x d=x by unfold j1f;rw[if_neg (fun h=>how h.1),if_neg (fun h=>how h.1),if_neg (fun h=>how h.1),if_neg (fun h=>by have:=HKD.out;omega)])
        clear how h1
        go_wp2_with fail
        go_meet
        rw[HST.out]
        exact HS.out.1
      obtain rfl|h2:kd=2∨kd≠2:=by omega
      ·by_cases how:d.owner=(o:Int)
       ·have e1:(d.owner==(o:Int))=true:=by simp[how]
        have e2:(d.other==(o:Int))=false:=beq_eq_false_iff_ne.2 (fun e=>HK.out.2.2.2.1 HKD.out.symm (by rw[how,e]))
        have HST:=zQ9 (show j1f o x d={ x with sold:=x.sold+d.many } by unfold j1f;rw[if_neg (fun h=>by have:=HKD.out;omega),if_pos ⟨how,HKD.out.symm⟩])
        obtain⟨-,-,-,u3,-⟩:=blkD (w:=w5.setCell ⟨p+1+1,3,none⟩ (.int .i64 (x.sold+d.many))) ((Below.heap_setCell _ ⟨p+1+1,3,none⟩ _ _ (by dsimp;omega)).trans HS.out.2)
        clear how h1 h3
        go_wp2_with fail
        go_meet
        rw[HST.out]
        exact HS.out.1.put ((j0d HS.out.1.2.2.1).trans (by simp))
       ·have e1:(d.owner==(o:Int))=false:=beq_eq_false_iff_ne.2 how
        by_cases hox:d.other=(o:Int)
        ·have e2:(d.other==(o:Int))=true:=by simp[hox]
         have HST:=zQ9 (show j1f o x d={ x with bought:=x.bought+d.many } by unfold j1f;rw[if_neg (fun h=>how h.1),if_neg (fun h=>how h.1),if_neg (fun h=>how h.1),if_pos ⟨HKD.out.symm,hox⟩])
         clear how hox h1 h3
         go_wp2_with fail
         go_meet
         rw[HST.out]
         exact HS.out.1.put ((j0d HS.out.1.2.2.1).trans (by simp))
        ·have e2:(d.other==(o:Int))=false:=beq_eq_false_iff_ne.2 hox
         have HST:=zQ9 (show j1f o x d=x by unfold j1f;rw[if_neg (fun h=>how h.1),if_neg (fun h=>how h.1),if_neg (fun h=>how h.1),if_neg (fun h=>hox h.2)])
         clear how hox h1 h3
         go_wp2_with fail
         go_meet
         rw[HST.out]
         exact HS.out.1
      ·have k1:(kd==1)=false:=beq_eq_false_iff_ne.2 h1
       have k3:(kd==3)=false:=beq_eq_false_iff_ne.2 h3
       have k2:(kd==2)=false:=beq_eq_false_iff_ne.2 h2
       have HST:=zQ9 (show j1f o x d=x by unfold j1f;rw[if_neg (fun h=>by have:=HKD.out;omega),if_neg (fun h=>by have:=HKD.out;omega),if_neg (fun h=>by have:=HKD.out;omega),if_neg (fun h=>by have:=HKD.out;omega)])
       clear h1 h2 h3
       go_wp2_with fail
       go_meet
       rw[HST.out]
       exact HS.out.1
     case rest =>
      have HC:=zQ9 hcut
      clear hcut hbd2 bz d0 d1 d2 d3 d4 d5 d6 d7 d8 d9 d10 d11 c0 c1 c2 c3 c4 hlp
      go_wp2_with fail
      go_roundg (gk-1)
      case measure=>have:=HK.out.1;omega
      case rel=>exact⟨k+1,by have:=HK.out.1;omega,by go_num,by rw[HK.out.2.2.1];exact HC.out⟩
    ·obtain rfl:k=b.ds.length:=by omega
     rw[List.take_length] at hx
     subst hx
     have HE:=zQ9 hB
     clear hB hk
     obtain⟨s0,s1,s2,s3,s4⟩:=j0h HE.out.2.2.1
     obtain⟨r0,r1,r2,r3,r4⟩:=j0h HE.out.2.1
     have fr:=frz HE.out.2.1
     obtain⟨q0,q1,q2,q3,q4⟩:=zA9 (fr 0) (zA9 (fr 1) (zA9 (fr 2) (zA9 (fr 3) (fr 4))))
     have hls:=j0a HE.out.2.2.1
     have hlr:=j0a HE.out.2.1
     clear fr
     obtain⟨x,hx⟩:∃ x,x=sumS b.hs o b.ds:=⟨_,rfl⟩
     rw[←hx] at s0 s1 s2 s3 s4
     have HXX:=zQ9 hx
     clear hx
     go_wp2_with fail
     obtain⟨Z,hZ⟩:∃ Z,Z=(((((w3.setCell ⟨p+1,0,none⟩ (.int .i64 x.first)).setCell ⟨p+1,1,none⟩ (.int .i64 x.born)).setCell ⟨p+1,2,none⟩ (.int .i64 x.bought)).setCell ⟨p+1,3,none⟩ (.int .i64 x.sold)).setCell ⟨p+1,4,none⟩ (.int .i64 x.eaten)):=⟨_,rfl⟩
     rw[←hZ]
     have bZ:Z.heap[p+1]?=some (smO x.first x.born x.bought x.sold x.eaten):=by rw[hZ];exact(j0d (j0d (j0d (j0d (j0d HE.out.2.1))))).trans (by simp)
     have hgr:w3.grownBy Z (some (p+1)):=by rw[hZ];exact((((j0i _ _ _ _).trans (j0i _ _ _ _)).trans (j0i _ _ _ _)).trans (j0i _ _ _ _)).trans (j0i _ _ _ _)
     clear s0 s1 s2 s3 s4 r0 r1 r2 r3 r4 q0 q1 q2 q3 q4 hZ
     obtain⟨q0,q1,q2,q3,q4⟩:=j0h bZ
     have HZ:=zQ9 hgr
     clear hgr bZ
     refine bodyPost_ret (v:=.agg #[.int .i64 x.first,.int .i64 x.born,.int .i64 x.bought,.int .i64 x.sold,.int .i64 x.eaten]) (by simp[results,Tryz.f61,go_sem,q0,q1,q2,q3,q4]) rfl ⟨by rw[←HXX.out];rfl,?_⟩
     rw[←HX.out.2.2.2]
     exact HE.out.2.2.2.grown HZ.out (by omega) (fun k e=>by cases e;omega)
theorem q3k {t:Int} {l:List Mk} {hs:Gr} {ds:List De} (a c:Int):j4k t l hs ds (-1) a=j4k t l hs ds (-1) c:=by
 have hm:∀ i s o,mayB t l (-1) a i s o=mayB t l (-1) c i s o:=fun i s o=>by
  unfold mayB j1s
  rw[show decide ((i:Int)=-1)=false from decide_eq_false (by omega)]
  rfl
 have hd:∀ i d E g,j1e t l (-1) a i d E g=j1e t l (-1) c i d E g:=fun i d E g=>by
  unfold j1e
  simp only[hm]
 have hT:∀ k,j1u t l (-1) a ds hs k=j1u t l (-1) c ds hs k:=fun k=>by
  induction k with
  | zero=>rfl
  | succ i ih =>
    show(match ds[i]? with
     | some d=>(j1u t l (-1) a ds hs i).foldl (fun F g=>j1e t l (-1) a i d F g) []
     | none=>j1u t l (-1) a ds hs i)=(match ds[i]? with
     | some d=>(j1u t l (-1) c ds hs i).foldl (fun F g=>j1e t l (-1) c i d F g) []
     | none=>j1u t l (-1) c ds hs i)
    simp only[ih,hd]
 exact hT _
def Hb.eg (b:Hb):List Gr:=j4k b.t b.l b.hs b.ds (-1) (-1)
theorem eg_len {b:Hb} (hok:HeOk b.t b.l b.ks b.hs b.ds):b.eg.length=(b.ends (-1) 0).length:=by
 unfold Hb.eg
 rw[q3k (-1) 0]
 exact q3j hok
theorem q3i (b:Hb) (hok:HeOk b.t b.l b.ks b.hs b.ds) (w:World) (hin:HbIn w b) :
 Calls Tryz.prog 57 #[b.v] w fun e w'=>(∃ v,e=.returned v∧OwnGG w.heap.size b.l.length b.ks.length v b.eg w')∧Below w.heap.size w w':=by
 obtain⟨V,hV⟩:∃ V,V=w.alloc b.obj:=⟨_,rfl⟩
 obtain⟨p,hp⟩:∃ p,p=w.heap.size:=⟨_,rfl⟩
 have HB:=zQ9 (show BB9 w b p V by rw[hV,hp];exact BB9.start hin)
 obtain⟨c0,c1,c2,c3,c4⟩:=j0h HB.out.1
 have hlp:=j0a HB.out.1
 have he:=q2q b hok (-1) (-1) (fun h=>absurd h (by decide)) V HB.out.2.1
 unfold Hb.v at he ⊢
 clear hok hin
 go_enter Tryz.func57,Tryz.ntmps57
 go_upto_region 1 with (fail)
 rw[←hV,←hp]
 clear hV hp
 go_wp2_with (go_at_call 103;(with_reducible refine he.mono ?_);rintro e w2 ⟨⟨v,rfl,hE⟩,hb⟩;have H2:=zQ9 (zA9 hE hb);clear hE hb)
 go_ret
 obtain⟨mv,h1,h2,h3⟩:=H2.out.1.own
 refine⟨⟨_,rfl,⟨mv,?_,h2,h3⟩,H2.out.1.sh,?_⟩,HB.out.2.2.trans (H2.out.2.mono HB.out.2.2.size)⟩
 ·exact Own.mono h1 HB.out.2.2.size
 ·exact Nat.le_trans HB.out.2.2.size H2.out.1.zw
def j9p (b:Hb) (w:World) (e:Ending) (w':World):Prop:=(askE b≠0∧e=.returned (.tuple #[.slice none 0 0,.int .i64 (askE b)])∨askE b=0∧∃ v,e=.returned (.tuple #[v,.int .i64 0])∧OwnGG w.heap.size b.l.length b.ks.length v b.eg w')∧Below w.heap.size w w'
theorem k0v (b:Hb) (w:World) (hin:HbIn w b):Calls Tryz.prog 88 #[b.v] w (j9p b w):=by
 obtain⟨V,hV⟩:∃ V,V=w.alloc b.obj:=⟨_,rfl⟩
 obtain⟨p,hp⟩:∃ p,p=w.heap.size:=⟨_,rfl⟩
 have HB:=zQ9 (show BB9 w b p V by rw[hV,hp];exact BB9.start hin)
 obtain⟨c0,c1,c2,c3,c4⟩:=j0h HB.out.1
 have hlp:=j0a HB.out.1
 have hck:=k3t b V HB.out.2.1
 obtain⟨ce,hce⟩:∃ ce,ce=b.chk:=⟨_,rfl⟩
 rw[←hce] at hck
 have HCE:=zQ9 hce
 unfold Hb.v at hck ⊢
 clear hin hce
 go_enter Tryz.func88,Tryz.ntmps88
 go_upto_region 1 with (fail)
 rw[←hV,←hp]
 clear hV hp
 by_cases h0:ce=0
 ·subst h0
  have hok:=j3a HCE.out.symm
  go_upto_region 4 with (go_at_call 18;(with_reducible refine hck.mono ?_);rintro e w1 ⟨rfl,hb1⟩;replace HB:=zQ9 (HB.out.step hb1);clear hb1 c0 c1 c2 c3 c4 hlp)
  clear hck
  obtain⟨c0,c1,c2,c3,c4⟩:=j0h HB.out.1
  have hlp:=j0a HB.out.1
  have he:=q3i b hok w1 HB.out.2.1
  unfold Hb.v at he
  have hln:=eg_len hok
  obtain⟨E,hE⟩:∃ E,E=b.eg:=⟨_,rfl⟩
  rw[←hE] at he hln
  have HL:=zQ9 (zA9 hln hE)
  clear hln hE hok
  by_cases hE0:E.length=0
  ·have e1:((E.length:Int)==0)=true:=by simp[hE0]
   have HE0:=zQ9 hE0
   clear hE0
   go_wp2_with (go_at_call 57;(with_reducible refine he.mono ?_);rintro e w2 ⟨⟨v,rfl,hG⟩,hb⟩;obtain⟨A,c,rfl,h1,h2⟩:=hG.form;replace HB:=zQ9 (HB.out.step hb);clear hb hG)
   go_ret2
   have ha:askE b=11:=j5e HCE.out.symm (List.eq_nil_of_length_eq_zero (by rw[←HL.out.1];exact HE0.out))
   unfold j9p
   rw[ha]
   exact⟨.inl ⟨by decide,rfl⟩,HB.out.2.2⟩
  ·have e1:((E.length:Int)==0)=false:=beq_eq_false_iff_ne.2 (by omega)
   have HE0:=zQ9 hE0
   clear hE0
   go_wp2_with (go_at_call 57;(with_reducible refine he.mono ?_);rintro e w2 ⟨⟨v,rfl,hG⟩,hb⟩;obtain⟨A,c,rfl,h1,h2⟩:=hG.form;have HBo:=HB;replace HB:=zQ9 (zA9 (HB.out.step hb) hG);clear hb hG)
   go_ret2
   have ha:askE b=0:=j6a HCE.out.symm (fun h=>HE0.out (by rw[HL.out.1,h];rfl))
   unfold j9p
   rw[ha,←HL.out.2]
   obtain⟨mv,g1,g2,g3⟩:=HB.out.2.own
   exact⟨.inr ⟨rfl,_,rfl,⟨⟨mv,Own.mono g1 HBo.out.2.2.size,g2,g3⟩,HB.out.2.sh,Nat.le_trans HBo.out.2.2.size HB.out.2.zw⟩⟩,HB.out.1.2.2⟩
 ·have x1:(ce != 0)=true:=by simp[h0]
  have H0:=zQ9 h0
  clear h0
  go_wp2_with (go_at_call 18;(with_reducible refine hck.mono ?_);rintro e w1 ⟨rfl,hb1⟩;replace HB:=zQ9 (HB.out.step hb1);clear hb1 c0 c1 c2 c3 c4 hlp)
  go_ret2
  have ha:askE b=ce:=by rw[HCE.out];exact j7w (by rw[←HCE.out];exact H0.out)
  unfold j9p
  rw[ha]
  exact⟨.inl ⟨H0.out,rfl⟩,HB.out.2.2⟩
theorem OwnR.put2 {w:World} {base:Nat} {A:Option Addr} {n c:Nat} {l:List Rn} (h:OwnR w base (.slice A n c) l) {o:Nat} {r:Rn} (ho:l[o]?=some r) (x y:Int) :
 ∃ g,A=some ⟨g,0,none⟩∧base≤g∧g<w.heap.size∧w.cell? ⟨g,o*2,none⟩=some (.int .i64 r.lo)∧w.cell? ⟨g,o*2+1,none⟩=some (.int .i64 r.hi)∧w.frozen? ⟨g,o*2,none⟩=false∧w.frozen? ⟨g,o*2+1,none⟩=false ∧
  OwnR ((w.setCell ⟨g,o*2,none⟩ (.int .i64 x)).setCell ⟨g,o*2+1,none⟩ (.int .i64 y)) base (.slice A n c) (l.set o ⟨x,y⟩)∧n=l.length∧n≤c∧c≤maxLen:=by
 have hol:=(List.getElem?_eq_some_iff.1 ho).1
 have hat:∀ (l:List Rn) (o:Nat) (r:Rn),l[o]?=some r→(l.flatMap eRn)[o*2]?=some (Value.int .i64 r.lo)∧(l.flatMap eRn)[o*2+1]?=some (Value.int .i64 r.hi):=fun l=>by
  induction l with
  | nil=>intro o r h;simp at h
  | cons z l ih =>
    intro o r h
    cases o with
    | zero=>simp at h;subst h;exact⟨rfl,rfl⟩
    | succ o =>
      have:=ih o r (by simpa using h)
      rw[List.flatMap_cons,show(o+1)*2=o*2+1+1 by omega]
      exact⟨by simpa[eRn] using this.1,by simpa[eRn] using this.2⟩
 have hset:∀ (l:List Rn) (o:Nat),o<l.length→((l.flatMap eRn).set (o*2) (Value.int .i64 x)).set (o*2+1) (Value.int .i64 y)=(l.set o ⟨x,y⟩).flatMap eRn:=fun l=>by
  induction l with
  | nil=>intro o h;simp at h
  | cons z l ih =>
    intro o h
    cases o with
    | zero=>simp[eRn]
    | succ o =>
      have:=ih o (by simpa using h)
      rw[List.set_cons_succ,List.flatMap_cons,List.flatMap_cons,←this,show(o+1)*2=o*2+1+1 by omega]
      simp[eRn]
 have hlen:(l.flatMap eRn).length=l.length*2:=by
  clear hat hset ho hol h
  induction l with
  | nil=>rfl
  | cons z l ih=>rw[List.flatMap_cons,List.length_append,ih,List.length_cons];simp[eRn];omega
 obtain⟨h1,h2⟩:=h
 rcases h2 with ⟨hv,h0⟩|⟨g,cap,cur,hv,hg,hh,hnc,hcm,hsz,htk⟩
 ·rw[List.eq_nil_of_length_eq_zero h0] at hol;cases hol
 ·cases hv
  have hc1:∀ (i:Nat) v,(l.flatMap eRn)[i]?=some v→cur[i]?=some v:=fun i v hv=>by
   have hi:=(List.getElem?_eq_some_iff.1 hv).1
   rw[←htk,List.getElem?_take_of_lt (by omega),Array.getElem?_toList] at hv
   exact hv
  obtain⟨a1,a2⟩:=hat l o r ho
  have b1:=hc1 _ _ a1
  have b2:=hc1 _ _ a2
  refine⟨g,rfl,hg,j0a hh,?_,?_,frz hh _,frz hh _,?_,rfl,hnc,hcm⟩
  ·unfold World.cell?;simp[hh,b1]
  ·unfold World.cell?;simp[hh,b2]
  ·refine⟨by rw[←hset l o hol,List.length_set,List.length_set,List.length_set];exact h1,.inr ⟨g,c,(cur.setIfInBounds (o*2) (.int .i64 x)).setIfInBounds (o*2+1) (.int .i64 y),by simp,hg,j0d (j0d hh),by simpa using hnc,hcm,by simpa using hsz,?_⟩⟩
   rw[Array.toList_setIfInBounds,Array.toList_setIfInBounds,List.take_set,List.take_set,List.length_set,htk,hset l o hol]
end Go.Proofs.YtmennjmjakdkcaaGreat
