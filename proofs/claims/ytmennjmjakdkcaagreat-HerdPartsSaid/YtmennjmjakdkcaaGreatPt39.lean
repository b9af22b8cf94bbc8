/- HerdParts. -/
import Derived.Test.YtmennjmjakdkcaaGreatPt38
set_option linter.unusedVariables false
set_option linter.unusedSimpArgs false
set_option maxRecDepth 400000
set_option maxHeartbeats 4000000
namespace Go.Proofs.YtmennjmjakdkcaaGreat
open Go.RowKit Go.MapKept
theorem NowIn.turn {p:Nat} {b:Hb} {d o d' o':Int} {w w':World} (h:NowIn p (b.bk d o) w w'):NowIn p (b.bk d' o') w ((w'.setCell ⟨p,5,none⟩ (.int .i64 d')).setCell ⟨p,6,none⟩ (.int .i64 o')):=by
 obtain⟨n,hn⟩:=h.hp;refine⟨h.os,h.tape,h.output,by simpa using h.size,fun k hk hne=>((zB1 _ ⟨p,6,none⟩ _ _ hne).trans (zB1 _ ⟨p,5,none⟩ _ _ hne)).trans (h.block k hk hne),⟨n,?_⟩⟩
 exact(j0g (j0g hn)).trans (by simp)
theorem Work.turn {w0 w w':World} {p:Nat} {b:Hb} {d o d' o':Int} (h:Work w0 p b d o w) (k:NowIn p (b.bk d' o') w w'):Work w0 p b d' o' w':=⟨h.hin,h.hz,h.bel.trans (k.less h.hz h.bel.size),k.hp,h.ck⟩
theorem NowIn.other {p:Nat} {O O':Int->Obj} {a b c:World} (h:NowIn p O a b) (k:NowIn p O' b c):NowIn p O' a c :=
 ⟨k.os.trans h.os,k.tape.trans h.tape,k.output.trans h.output,zB6 h.size k.size,fun i hi hne=>(k.block i (Nat.lt_of_lt_of_le hi h.size) hne).trans (h.block i hi hne),k.hp⟩
def j2y (b:Hb) (deed:Int) (k:Nat):List Int:=((List.range k).filter fun(o:Nat)=>!decide (b.ends deed (o:Int)=[])).map Int.ofNat
theorem q0n (b:Hb) (deed:Int) (k:Nat):j2y b deed (k+1)=j2y b deed k++if (!decide (b.ends deed (k:Int)=[]))=true then [(k:Int)] else []:=by
 unfold j2y;rw[List.range_succ,List.filter_append,List.map_append];congr 1;by_cases h:b.ends deed (k:Int)=[]<;>simp[h]
theorem k3g (b:Hb) (deed:Int) (k:Nat):(j2y b deed k).length<=k:=by
 unfold j2y;rw[List.length_map];have:=List.length_filter_le (fun(o:Nat)=>!decide (b.ends deed (o:Int)=[])) (List.range k)
 simpa using this
def j4m (b:Hb) (deed:Int):Int :=
 if b.chk≠0 then b.chk else if ownB b.ds.length deed=false then 3 else if (b.ds[deed.toNat]?.map De.kind)≠some 5 then 8 else if j2y b deed b.l.length=[] then 11 else 0
def k1z (b:Hb) (deed:Int):List Int:=if j4m b deed=0 then j2y b deed b.l.length else []
def k4a (b:Hb) (deed:Int) (w:World) (e:Ending) (w':World):Prop:=(∃ v,e=.returned (.tuple #[v,.int .i64 (j4m b deed)])∧OwnI w' w.heap.size v (k1z b deed))∧Below w.heap.size w w'
theorem j9e {b:Hb} {deed:Int} {w w':World} {e:Int} (he:j4m b deed=e) (h0:e≠0) (hb:Below w.heap.size w w'):k4a b deed w (.returned (.tuple #[.slice none 0 0,.int .i64 e])) w':=by
 refine⟨⟨_,by rw[he],?_⟩,hb⟩
 unfold k1z;rw[he,if_neg h0];exact Own.nil_
theorem q3w (b:Hb) (deed:Int) (w:World) (hin:HbIn w b):Calls Tryz.prog 46 #[b.v,.int .i64 deed] w (k4a b deed w):=by
 obtain⟨V,hV⟩:∃ V,V=w.alloc b.obj:=⟨_,rfl⟩;obtain⟨g,hg⟩:∃ g,g=w.heap.size:=⟨_,rfl⟩;have b0:V.heap[g]?=some b.obj:=by rw[hV,hg];exact j0c rfl
 have ak:Below w.heap.size w V:=by rw[hV];exact bal0 w _
 have ao:=hin.below ak (zL9 _);obtain⟨c0,c1,c2,c3,c4⟩:=j0h b0;have af:=j6w b V ao;unfold Hb.v at af;have HV:=zQ9 (zA9 ak (zA9 b0 (zA9 ao hg)));unfold Hb.v;go_enter Tryz.func46,Tryz.ntmps46
 go_upto_region 1 with (fail)
 rw[<-hV,<-hg];clear hV hg hin ak ao b0;obtain⟨R,hR⟩:∃ R,R=j3z b b.chk V:=⟨_,rfl⟩;rw[<-hR] at af;have HR:=zQ9 hR;clear hR;go_upto_region 2 with (go_at_call 55;refine af.mono ?_;rintro e w2 aq;rw[HR.o] at aq;unfold j3z at aq;rcases aq with ⟨h0,rfl,a7⟩|⟨h0,p,rfl,a6,a7⟩)
 ·have xf:(b.chk != 0)=true:=by simp[h0]
  go_wp2_with fail
  go_ret2
  exact j9e (by unfold j4m;rw[if_pos h0]) h0 (HV.o.1.trans (a7.mono HV.o.1.size))
 have x0:=j0e HV.o.2.1 a7 (zL9 _);have ac:=a6.ok;have aw:g≠p:=by have:=a6.hz;have:=j0a HV.o.2.1;omega
 clear c0 c1 c2 c3 c4 af;obtain⟨c0,c1,c2,c3,c4⟩:=j0h x0;have ah:=a6.lt;have aj:=a6.inn.d;obtain⟨n,hn⟩:∃ n,n=b.l.length:=⟨_,rfl⟩;obtain⟨nd,ae⟩:∃ nd,nd=b.ds.length:=⟨_,rfl⟩;obtain⟨Ad,az⟩:∃ Ad,Ad=b.Ad:=⟨_,rfl⟩;rw[<-hn] at c1;rw[<-ae,<-az] at c4 aj;have bj:0<n∧n<=5:=by rw[hn];exact⟨ac.n0,ac.n5⟩
 have bo:nd<=6:=by rw[ae];exact ac.d6
 have H2:=zQ9 (zA9 a7 (zA9 a6 (zA9 h0 (zA9 hn (zA9 ae (zA9 ac (zA9 aw (zA9 x0 (HV.o.1.trans (a7.mono HV.o.1.size))))))))));clear a7 a6 h0 hn ae ac aw x0 az;obtain⟨ob,am⟩:∃ ob,ob=ownB nd deed:=⟨_,rfl⟩;have ad:=j2k deed 0 ((nd:Int)-1) w2;rw[show btw deed 0 ((nd:Int)-1)=ob from am.symm] at ad
 have ag:=zQ9 am;clear am;cases ob with
 | false =>
   go_wp2_with (go_at_call 102;refine ad.mono ?_;rintro e w' ⟨rfl,rfl⟩)
   go_ret2
   exact j9e (by unfold j4m;rw[if_neg (by rw[H2.o.2.2.1];simp),<-H2.o.2.2.2.2.1,<-ag.o,if_pos rfl]) (by decide) H2.o.2.2.2.2.2.2.2.2
 | true =>
 obtain⟨b8,bn⟩:=j1p.1 ag.o.symm;obtain⟨dn,rfl⟩:=zB7 b8;have b3:dn<nd:=by omega
 obtain⟨bi,oi,d,hA,aF,aD,d0,d1,d2,d3,d4,d5,d6,d7,d8,d9,b7,ba⟩:=Deeds.get aj b3;subst hA;have HD:=zQ9 aD;clear aD aj aF d1 d2 d3 d4 d5 d6 d7 d8 d9 b7 ba;by_cases hk5:d.kind=5
 ·rw[hk5] at d0;have ay:j4m b dn=if j2y b dn b.l.length=[] then 11 else 0:=by
   unfold j4m;rw[if_neg (by rw[H2.o.2.2.1];simp),<-H2.o.2.2.2.2.1,<-ag.o,if_neg (by simp),if_neg (by rw[Int.toNat_natCast,HD.o];simp[hk5])]
  have av:=zQ9 ay;clear ay hk5;go_wp2_with (go_at_call 102;refine ad.mono ?_;rintro e w' ⟨rfl,rfl⟩)
  go_loopg [8,36] n (fun g' v8 v36 wr=>∃ k:Nat,k+g'=n∧v36=.int .i64 k∧OwnI wr w2.heap.size v8 (j2y b dn k)∧∃ dd oo,NowIn p (b.bk dd oo) w2 wr)
  case atStart=>exact⟨0,by omega,rfl,Own.nil_,_,_,H2.o.2.1.refl⟩
  case round =>
   obtain⟨k,hk,rfl,a1,dd,oo,hN⟩:=hrel;by_cases hlt:k<n
   ·have i1:(k:Int)<(n:Int):=by omega
    obtain⟨nw,a9⟩:=hN.hp;obtain⟨p0,p1,p2,p3,p4,p5,p6,p7⟩:=blkB a9;have aE:=frz a9 5;have b9:=frz a9 6;have bm:=j0a a9;have HK:=zQ9 (zA9 hk (zA9 a1 hN));clear hk a1 hN a9 p0 p1 p2 p3 p4 p7;go_upto_region 13 with (fail)
    have aa:=HK.o.2.2.turn (d':=(dn:Int)) (o':=(k:Int));have a0:OwnI ((wr.setCell ⟨p,5,none⟩ (Value.int .i64 (dn:Int))).setCell ⟨p,6,none⟩ (Value.int .i64 (k:Int))) w2.heap.size u8 (j2y b dn k) :=
     Own.now (O:=b.bk dn k) HK.o.2.1 (a:=wr) ⟨rfl,rfl,rfl,by simp,fun j _ hne=>(zB1 _ ⟨p,6,none⟩ _ _ hne).trans (zB1 _ ⟨p,5,none⟩ _ _ hne),aa.hp⟩ ah
    generalize ((wr.setCell ⟨p,5,none⟩ (Value.int .i64 (dn:Int))).setCell ⟨p,6,none⟩ (Value.int .i64 (k:Int)))=w3 at aa a0 ⊢;have an:=j9d V p b dn k w3 (H2.o.2.1.turn aa);obtain⟨tb,ar⟩:∃ tb,tb=!decide (b.ends (dn:Int) (k:Int)=[]):=⟨_,rfl⟩;rw[<-ar] at an;have b4:=zQ9 ar;have H3:=zQ9 (zA9 aa a0);clear ar aa a0 p5 p6 aE b9;have a5:=q0n b dn k;rw[<-b4.o] at a5;have aA:=zQ9 a5;have bp:=k3g b dn k;clear a5;cases tb with
    | false =>
      go_wp2_with (go_at_call 81;refine an.mono ?_;rintro e w4 ⟨rfl,a8⟩)
      go_roundg (gk-1)
      case measure=>have:=HK.o.1;omega
      case rel=>exact⟨k+1,by have:=HK.o.1;omega,by go_num,by rw[aA.o];simpa using Own.now H3.o.2 a8 ah,dn,k,H3.o.1.other a8⟩
    | true =>
      go_upto_region 14 with (go_at_call 81;refine an.mono ?_;rintro e w4 ⟨rfl,a8⟩)
      have a3:=Own.now H3.o.2 a8 ah;have a4:=H3.o.1.other a8;have bh:=a4.size;have H4:=zQ9 (zA9 a4 a3);clear a8 a4 a3;go_wp2_with (at_builtin;refine j6b j3b rfl (.tmp 49) (.tmp 51) rfl w2.heap.size _ (j2y b dn k) (k:Int) _ rfl rfl rfl rfl (j1x _) H4.o.2 ?_ ?_ ?_ ?_;(omega);(omega);(omega);intro v' w5 a2 aB _ be;have H5:=zQ9 (zA9 a2 aB);clear a2 aB)
      go_roundg (gk-1)
      case measure=>have:=HK.o.1;omega
      case rel=>exact⟨k+1,by have:=HK.o.1;omega,by go_num,by rw[aA.o];simpa using H5.o.1,dn,k,H4.o.1.below ah H5.o.2 (zL9 _)⟩
   ·obtain rfl:k=n:=by omega
    obtain⟨Av,cv,aC,b6,b5,aG⟩:=a1.form j0n;have ax:Below w.heap.size w wr:=H2.o.2.2.2.2.2.2.2.2.trans (hN.less (zB6 HV.o.1.size H2.o.2.1.hz) (zB6 HV.o.1.size H2.o.1.size));obtain⟨L,hL⟩:∃ L,L=j2y b dn k:=⟨_,rfl⟩;rw[<-hL] at aC;have bf:L.length<=5:=by rw[hL];have:=k3g b dn k;omega
    have HF:=zQ9 (zA9 a1 (zA9 ax hL));subst aC;clear a1 hN hk b6 b5 aG ax hL;by_cases hLn:L.length=0
    ·have x0:((L.length:Int)==0)=true:=by simp[hLn]
     have ai:=zQ9 hLn;clear hLn;go_wp2_with fail
     go_ret2
     refine j9e ?_ (by decide) HF.o.2.1
     rw[av.o,<-H2.o.2.2.2.1,<-HF.o.2.2,if_pos (zC1 ai.o)]
    ·have x0:((L.length:Int)==0)=false:=by simp;exact fun e=>hLn (by rw[e];rfl)
     have ai:=zQ9 hLn;clear hLn;go_wp2_with fail
     go_ret2
     have h0:j4m b dn=0:=by
      rw[av.o,<-H2.o.2.2.2.1,<-HF.o.2.2,if_neg (fun e=>ai.o (by rw[e];rfl))]
     unfold k4a k1z;rw[h0,if_pos rfl];refine⟨⟨_,rfl,?_⟩,HF.o.2.1⟩;have:=HF.o.1;rw[<-HF.o.2.2] at this;rw[<-H2.o.2.2.2.1,<-HF.o.2.2];exact this.mono (zB6 HV.o.1.size H2.o.1.size)
 ·have x5:(d.kind != 5)=true:=by simp[hk5]
  have aH:=zQ9 hk5;clear hk5;go_wp2_with (go_at_call 102;refine ad.mono ?_;rintro e w' ⟨rfl,rfl⟩)
  go_ret2
  refine j9e ?_ (by decide) H2.o.2.2.2.2.2.2.2.2
  unfold j4m;rw[if_neg (by rw[H2.o.2.2.1];simp),<-H2.o.2.2.2.2.1,<-ag.o,if_neg (by simp),if_pos]
  rw[Int.toNat_natCast,HD.o];simpa using aH.o
theorem k6t (w:World):Calls Tryz.prog 47 #[] w fun e w'=>e=.returned (vSg ⟨3,false,false,0,-1⟩)∧Below w.heap.size w w':=by
 go_enter Tryz.func47,Tryz.ntmps47
 go_wp2
 exact bodyPost_ret (v:=vSg ⟨3,false,false,0,-1⟩) (by simp[results,Tryz.f47,go_sem,vSg]) rfl ⟨rfl,bal0 w _⟩
theorem j3f (x y:Int) (w:World):Calls Tryz.prog 35 #[.int .i64 x,.int .i64 y] w fun e w'=>e=.returned (.agg #[.int .i64 x,.int .i64 y])∧Below w.heap.size w w':=by
 go_enter Tryz.func35,Tryz.ntmps35
 go_wp2
 exact bodyPost_ret (v:=.agg #[.int .i64 x,.int .i64 y]) (by simp[results,Tryz.f35,go_sem]) rfl ⟨rfl,bal0 w _⟩
abbrev bkM:List Mk:=[⟨1,0,0⟩,⟨3,0,1⟩,⟨16,3,0⟩]
abbrev bkHs:List (List Int):=[[5,2,0],[0,2,1]]
abbrev bkDs:List De:=[⟨1,0,0,0,0,2,0,⟨0,false,false,0,0⟩⟩,⟨5,0,0,0,1,0,0,⟨3,false,false,0,-1⟩⟩,⟨4,1,0,0,0,1,0,⟨0,false,false,0,0⟩⟩,⟨6,1,0,0,0,3,0,⟨0,false,false,0,0⟩⟩]
def HB9 (r:Nat) (w:World):Prop:=∃ t vm vk vh vd,w.heap[r]?=some (boxO t vm vk vh vd)
def TB9 (r:Nat) (G:World->Prop) (n:Nat) (w w':World):Prop:=w.grownBy w' (some r)∧(HB9 r w->HB9 r w')∧(G w->G w')
theorem TB9.tr {r:Nat} {G:World->Prop}:∀ n a b c,TB9 r G n a b->TB9 r G 1 b c->TB9 r G (n+1) a c:=fun n a b c h k=>⟨h.1.trans k.1,fun g=>k.2.1 (h.2.1 g),fun g=>k.2.2 (h.2.2 g)⟩
def G9 (r:Nat) (ms:List Mk) (hs:List (List Int)) (ds:List De) (w:World):Prop:=∃ vm vk vh vd,w.heap[r]?=some (boxO 1 vm vk vh vd)∧OwnM w (r+1) vm ms∧OwnI w (r+1) vk [0,1]∧OwnG w (r+1) vh hs∧OwnD w (r+1) vd ds
section
variable {r:Nat} {ms:List Mk} {hs:List (List Int)} {ds:List De}
theorem TB9.gr {n:Nat} {w w':World} (hg:w.grownBy w' (some r)) (hr:w'.heap[r]?=w.heap[r]?):TB9 r (G9 r ms hs ds) n w w' :=
 ⟨hg,fun⟨t,vm,vk,vh,vd,h⟩=>⟨t,vm,vk,vh,vd,hr.trans h⟩,fun⟨vm,vk,vh,vd,h1,h2,h3,h4,h5⟩=>⟨vm,vk,vh,vd,hr.trans h1,h2.keptH hg (by omega),h3.keptH hg (by omega),h4.keptH hg (by omega),h5.keptH hg (by omega)⟩⟩
theorem TB9.rf:∀ w,TB9 r (G9 r ms hs ds) 1 w w:=fun w=>.gr (World.grownBy.refl _ _) rfl
theorem TB9.draw (w:World):TB9 r (G9 r ms hs ds) 0 w { w with drawn:=w.drawn+1 }:=.gr (j7z w 1 _) rfl
theorem TB9.bel {w w':World} (hb:Below w.heap.size w w') (hr:r<w.heap.size):TB9 r (G9 r ms hs ds) 1 w w':=.gr ⟨hb.os,hb.tape,hb.output,hb.size,fun k hk _=>hb.block k hk⟩ (hb.block r hr)
theorem TB9.sz {n:Nat} {w w':World} (h:TB9 r (G9 r ms hs ds) n w w') (hr:r<w.heap.size):r<w'.heap.size:=Nat.lt_of_lt_of_le hr h.1.size
def OF {α:Type} (enc:α->List Value) (e:TypeId) (sz base n:Nat) (l:List α):VF:=fun v w=>∃ k,v=.slice (some ⟨k,0,none⟩) n n∧Own enc e sz w base (.slice (some ⟨k,0,none⟩) n n) l
def OFG (base n:Nat) (l:List (List Int)):VF:=fun v w=>∃ k,v=.slice (some ⟨k,0,none⟩) n n∧OwnG w base (.slice (some ⟨k,0,none⟩) n n) l
theorem OF.st {α:Type} {enc:α->List Value} {e:TypeId} {sz n:Nat} {l:List α}:∀ m v w w',TB9 r (G9 r ms hs ds) m w w'->OF enc e sz (r+1) n l v w->OF enc e sz (r+1) n l v w':=fun m v w w' h ⟨k,h1,h2⟩=>⟨k,h1,h2.keptH h.1 (by omega)⟩
theorem OFG.st {n:Nat} {l:List (List Int)}:∀ m v w w',TB9 r (G9 r ms hs ds) m w w'->OFG (r+1) n l v w->OFG (r+1) n l v w':=fun m v w w' h ⟨k,h1,h2⟩=>⟨k,h1,h2.keptH h.1 (by omega)⟩
theorem OF.new {α:Type} {enc:α->List Value} {e:TypeId} {sz:Nat} {w:World} (cs:Array Value) (l:List α) (hcs:cs.toList=l.flatMap enc) (a0:∀ x,(enc x).length=sz) (hr:r<w.heap.size) (hm:l.length<=maxLen) :
 TB9 r (G9 r ms hs ds) 1 w (w.alloc (.cells cs e))∧OF enc e sz (r+1) l.length l (.slice (some ⟨w.heap.size,0,none⟩) l.length l.length) (w.alloc (.cells cs e)) :=
 ⟨.bel (bal0 w _) hr,_,rfl,Own.lit w (r+1) cs l hcs a0 hr hm⟩
def F9 (r s nm nd:Nat) (hs:List (List Int)) (ds:List De):VF:=fun v w=>∃ k1 k2 k3,v=.agg #[.int .i64 1,.slice (some ⟨s,0,none⟩) nm nm,.slice (some ⟨k1,0,none⟩) 2 2,.slice (some ⟨k2,0,none⟩) 2 2,.slice (some ⟨k3,0,none⟩) nd nd] ∧
 OwnI w (r+1) (.slice (some ⟨k1,0,none⟩) 2 2) [0,1]∧OwnG w (r+1) (.slice (some ⟨k2,0,none⟩) 2 2) hs∧OwnD w (r+1) (.slice (some ⟨k3,0,none⟩) nd nd) ds
theorem F9.st {s nm nd:Nat}:∀ m v w w',TB9 r (G9 r ms hs ds) m w w'->F9 r s nm nd hs ds v w->F9 r s nm nd hs ds v w':=fun m v w w' h ⟨k1,k2,k3,h1,h2,h3,h4⟩=>⟨k1,k2,k3,h1,h2.keptH h.1 (by omega),h3.keptH h.1 (by omega),h4.keptH h.1 (by omega)⟩
theorem G9.put {s nm nd k1 k2 k3:Nat} {w:World} (hb:HB9 r w) (hm:OwnM w (r+1) (.slice (some ⟨s,0,none⟩) nm nm) ms) (h1:OwnI w (r+1) (.slice (some ⟨k1,0,none⟩) 2 2) [0,1]) (h2:OwnG w (r+1) (.slice (some ⟨k2,0,none⟩) 2 2) hs) (h3:OwnD w (r+1) (.slice (some ⟨k3,0,none⟩) nd nd) ds)
 {W:World} (hW:W=(((((w.setCell ⟨r,0,none⟩ (.int .i64 1)).setCell ⟨r,1,none⟩ (.slice (some ⟨s,0,none⟩) nm nm)).setCell ⟨r,2,none⟩ (.slice (some ⟨k1,0,none⟩) 2 2)).setCell ⟨r,3,none⟩ (.slice (some ⟨k2,0,none⟩) 2 2)).setCell ⟨r,4,none⟩ (.slice (some ⟨k3,0,none⟩) nd nd))) :
 TB9 r (G9 r ms hs ds) 1 w W∧G9 r ms hs ds W:=by
 obtain⟨t,vm,vk,vh,vd,hb⟩:=hb;have a1:W.heap[r]?=some (boxO 1 (.slice (some ⟨s,0,none⟩) nm nm) (.slice (some ⟨k1,0,none⟩) 2 2) (.slice (some ⟨k2,0,none⟩) 2 2) (.slice (some ⟨k3,0,none⟩) nd nd)):=by rw[hW];exact(j0g (j0g (j0g (j0g (j0g hb))))).trans (by simp;rfl)
 have a0:w.grownBy W (some r):=by rw[hW];exact((((j0l _ r _ _).trans (j0l _ r _ _)).trans (j0l _ r _ _)).trans (j0l _ r _ _)).trans (j0l _ r _ _)
 have hG:G9 r ms hs ds W:=⟨_,_,_,_,a1,hm.keptH a0 (by omega),h1.keptH a0 (by omega),h2.keptH a0 (by omega),h3.keptH a0 (by omega)⟩
 exact⟨⟨a0,fun _=>⟨_,_,_,_,_,a1⟩,fun _=>hG⟩,hG⟩
end
theorem OwnG.lit2 {w:World} {base:Nat} {u v:Value} {x y:List Int} (hu:OwnI w base u x) (hv:OwnI w base v y) (hb:base<=w.heap.size):OwnG (w.alloc (.cells #[u,v] 25)) base (.slice (some ⟨w.heap.size,0,none⟩) 2 2) [x,y]:=by
 refine⟨[u,v],Own.lit (enc:=eVal) w base #[u,v] [u,v] rfl j2t hb (by simp[maxLen]),rfl,fun i v' hv'=>?_⟩
 match i,hv' with
 | 0,hv'=>simp at hv';subst hv';exact⟨x,rfl,hu.alloc _⟩
 | 1,hv'=>simp at hv';subst hv';exact⟨y,rfl,hv.alloc _⟩
 | i+2,hv'=>simp at hv'
def Book9R (w:World) (ms:List Mk) (hs:List (List Int)) (ds:List De) (e:Ending) (w':World):Prop :=
 (∃ A c Ak ck Ah ch Ad cd,e=.returned (Hb.v ⟨1,A,c,ms,Ak,ck,[0,1],Ah,ch,hs,Ad,cd,ds⟩)∧HbO w' w.heap.size ⟨1,A,c,ms,Ak,ck,[0,1],Ah,ch,hs,Ad,cd,ds⟩)∧Below w.heap.size w w'
theorem q3z (w:World):Calls Tryz.prog 45 #[] w (Book9R w bkM bkHs bkDs):=by
 obtain⟨r,hr⟩:∃ r,r=w.heap.size:=⟨_,rfl⟩;obtain⟨V,hV⟩:∃ V,V=w.alloc (Obj.cells #[.int .i64 0,.slice none 0 0,.slice none 0 0,.slice none 0 0,.slice none 0 0] 29):=⟨_,rfl⟩;have bV:V.heap[r]?=some (boxO 0 (.slice none 0 0) (.slice none 0 0) (.slice none 0 0) (.slice none 0 0)):=by rw[hV,hr];exact j0c rfl
 have a7:Below w.heap.size w V:=by rw[hV];exact bal0 w _
 have a8:V.heap.size=r+1:=by rw[hV,hr];simp
 have HV:=zQ9 (zA9 bV (zA9 a7 (zA9 a8 hr)));go_enter Tryz.func45,Tryz.ntmps45
 go_upto_region 1 with (fail)
 rw[<-hV];rw[<-hr];clear hV hr a8 bV a7;go_upto_region 2 with (fail)
 obtain⟨s,hs⟩:∃ s,s=V.heap.size:=⟨_,rfl⟩;obtain⟨U,hU⟩:∃ U,U=(V.alloc (.cells #[.int .i64 1,.int .i64 0,.int .i64 0,.int .i64 3,.int .i64 0,.int .i64 1,.int .i64 16,.int .i64 3,.int .i64 0] 117)).alloc (.cells #[.int .i64 1,.slice (some ⟨V.heap.size,0,none⟩) 3 3] 24):=⟨_,rfl⟩;rw[<-hU,<-hs];have a5:s=r+1:=hs.trans HV.o.2.2.1;have a2:Below V.heap.size V U:=by rw[hU];exact bal (bal0 V _) (zL9 _) _
 have a3:OwnM U (r+1) (.slice (some ⟨s,0,none⟩) 3 3) bkM:=by rw[hU,hs];exact(Own.lit (enc:=eMk) V (r+1) _ bkM rfl j2h (by omega) (by simp[maxLen])).alloc _
 have bR:U.heap[s+1]?=some (.cells #[.int .i64 1,.slice (some ⟨s,0,none⟩) 3 3] 24 (0,0)):=by rw[hU,hs];exact j0c (by simp)
 have a4:HB9 r U:=⟨_,_,_,_,_,j0e HV.o.1 a2 (zL9 _)⟩;have a6:r<U.heap.size:=by have:=a2.size;omega
 have HC:Q9 (∀ k w',TB9 r (G9 r bkM bkHs bkDs) k U w'->w'.cell? ⟨s+1,0,none⟩=some (.int .i64 1)∧w'.cell? ⟨s+1,1,none⟩=some (.slice (some ⟨s,0,none⟩) 3 3)) :=
  zQ9 fun k w' h=>blk2 ((h.1.block (s+1) (j0a bR) (fun e=>by cases e;omega)).trans bR)
 have HU:=zQ9 (zA9 a2 (zA9 a3 (zA9 a4 (zA9 a6 a5))));clear hU hs a2 a3 bR a4 a6 a5;refine k1c (TB9 r (G9 r bkM bkHs bkDs)) (by kernel_rfl) (by kernel_rfl) TB9.tr (TB9.draw _) ?_
 apply zC2;refine⟨fun ys=>?_,fun ops K hK=>?_⟩
 ·simp only[j0p,List.filterMap_cons,List.filterMap_nil,j0r];go_simp
  rfl
 repeat
  refine LexI.const TB9.rf ?_;apply zC2;refine⟨fun n' ys w' hn' hT hd=>?_,?_⟩
  ·try simp[j0d,j0f,DF.holds,Region.binds,EqF] at hd
   obtain⟨y0,y1⟩:=HC.o n' w' hT;intro Q2 a0;go_wp2_with fail
   rfl
  try simp only[nl9]
 refine LexI.some (OF eInt 3 1 (r+1) 2 [0,1]) (OF.st) (fun n' ys w' hn' hT hd=>?_) ?_
 ·try simp[j0d,j0f,DF.holds,Region.binds,EqF] at hd
  try simp only[hd]
  have hl:=hT.sz HU.o.2.2.2.1;intro Q2 a0;go_wp2_with fail
  exact OF.new _ [0,1] rfl j0n hl (by simp[maxLen])
 try simp only[nl9]
 refine LexI.some (OF eInt 3 1 (r+1) 3 [5,2,0]) (OF.st) (fun n' ys w' hn' hT hd=>?_) ?_
 ·try simp[j0d,j0f,DF.holds,Region.binds,EqF] at hd
  try simp only[hd]
  have hl:=hT.sz HU.o.2.2.2.1;intro Q2 a0;go_wp2_with fail
  exact OF.new _ [5,2,0] rfl j0n hl (by simp[maxLen])
 try simp only[nl9]
 refine LexI.some (OF eInt 3 1 (r+1) 3 [0,2,1]) (OF.st) (fun n' ys w' hn' hT hd=>?_) ?_
 ·try simp[j0d,j0f,DF.holds,Region.binds,EqF] at hd
  try simp only[hd]
  have hl:=hT.sz HU.o.2.2.2.1;intro Q2 a0;go_wp2_with fail
  exact OF.new _ [0,2,1] rfl j0n hl (by simp[maxLen])
 try simp only[nl9]
 refine LexI.some (OFG (r+1) 2 bkHs) (OFG.st) (fun n' ys w' hn' hT hd=>?_) ?_
 ·try simp[j0d,j0f,DF.holds,Region.binds,EqF] at hd
  try simp only[hd]
  obtain⟨⟨k1,e1,o1⟩,k2,e2,o2⟩:=hd;simp only[e1,e2];have hl:=hT.sz HU.o.2.2.2.1;have HO:=zQ9 (zA9 o1 o2);clear o1 o2;intro Q2 a0;go_wp2_with fail
  exact⟨.bel (bal0 w' _) hl,_,rfl,OwnG.lit2 HO.o.1 HO.o.2 hl⟩
 try simp only[nl9]
 repeat
  refine LexI.const TB9.rf ?_;apply zC2;refine⟨fun n' ys w' hn' hT hd=>?_,?_⟩
  ·try simp[j0d,j0f,DF.holds,Region.binds,EqF] at hd
   obtain⟨y0,y1⟩:=HC.o n' w' hT;intro Q2 a0;go_wp2_with fail
   rfl
  try simp only[nl9]
 refine LexI.some (EqF (.agg #[.int .i64 3,.bool false,.bool false,.int .i64 0,.int .i64 (-1)])) (EqF.st) (fun n' ys w' hn' hT hd=>?_) ?_
 ·try simp[j0d,j0f,DF.holds,Region.binds,EqF] at hd
  try simp only[hd]
  have hl:=hT.sz HU.o.2.2.2.1;intro Q2 a0;go_wp2_with fail
  refine(k6t w').mono ?_;rintro e wU ⟨rfl,hb⟩;go_wp2
  exact⟨_,rfl,.bel hb hl,rfl⟩
 try simp only[nl9]
 refine LexI.const TB9.rf ?_;refine⟨.agg #[.int .i64 5,.int .i64 0,.int .i64 0,.int .i64 0,.int .i64 1,.int .i64 0,.int .i64 0,.int .i64 3,.bool false,.bool false,.int .i64 0,.int .i64 (-1)],fun n' ys w' hn' hT hd=>?_,?_⟩
 ·try simp[j0d,j0f,DF.holds,Region.binds,EqF] at hd
  try simp only[hd]
  obtain⟨y0,y1⟩:=HC.o n' w' hT;intro Q2 a0;go_wp2_with fail
  try rfl
 try simp only[nl9]
 repeat
  refine LexI.const TB9.rf ?_;apply zC2;refine⟨fun n' ys w' hn' hT hd=>?_,?_⟩
  ·try simp[j0d,j0f,DF.holds,Region.binds,EqF] at hd
   obtain⟨y0,y1⟩:=HC.o n' w' hT;intro Q2 a0;go_wp2_with fail
   rfl
  try simp only[nl9]
 refine LexI.some (OF eDe 33 12 (r+1) 4 bkDs) (OF.st) (fun n' ys w' hn' hT hd=>?_) ?_
 ·try simp[j0d,j0f,DF.holds,Region.binds,EqF] at hd
  try simp only[hd]
  have hl:=hT.sz HU.o.2.2.2.1;intro Q2 a0;go_wp2_with fail
  exact OF.new _ bkDs rfl j3k hl (by simp[maxLen])
 try simp only[nl9]
 refine LexI.some (F9 r s 3 4 bkHs bkDs) (F9.st) (fun n' ys w' hn' hT hd=>?_) ?_
 ·try simp[j0d,j0f,DF.holds,Region.binds,EqF] at hd
  try simp only[hd]
  obtain⟨e7,⟨k1,e1,o1⟩,⟨k2,e2,o2⟩,k3,e3,o3⟩:=hd;simp only[e7,e1,e2,e3];have HO:=zQ9 (zA9 o1 (zA9 o2 o3));clear o1 o2 o3;intro Q2 a0;go_wp2_with fail
  exact⟨TB9.rf _,k1,k2,k3,rfl,HO.o.1,HO.o.2.1,HO.o.2.2⟩
 try simp only[nl9]
 refine LexI.some ((fun _ w=>G9 r bkM bkHs bkDs w)) (fun m v w w' h g=>h.2.2 g) (fun n' ys w' hn' hT hd=>?_) ?_
 ·try simp[j0d,j0f,DF.holds,Region.binds,EqF] at hd
  try simp only[hd]
  obtain⟨⟨k1,k2,k3,aa,o1,o2,o3⟩,-⟩:=hd;simp only[aa];have hb:=hT.2.1 HU.o.2.2.1;have hm:=HU.o.2.1.keptH hT.1 (show r<r+1 by omega)
  have HO:=zQ9 (zA9 hb (zA9 hm (zA9 o1 (zA9 o2 o3))));obtain⟨t0,ag,ad,ac,af,a1⟩:=hb;obtain⟨z0,z1,z2,z3,z4⟩:=blk5 a1;obtain⟨f0,f1,f2,f3,f4⟩:=zA9 (frz a1 0) (zA9 (frz a1 1) (zA9 (frz a1 2) (zA9 (frz a1 3) (frz a1 4))));have a9:=j0a a1;clear hm o1 o2 o3 a1;intro Q2 a0;go_wp2_with fail
  exact⟨(G9.put HO.o.1 HO.o.2.1 HO.o.2.2.1 HO.o.2.2.2.1 HO.o.2.2.2.2 rfl).1,(G9.put HO.o.1 HO.o.2.1 HO.o.2.2.1 HO.o.2.2.2.1 HO.o.2.2.2.2 rfl).2⟩
 try simp only[nl9]
 refine hK _ (fun n' ys wc hn' hT hF=>?_)
 simp only[AllF,DF.holds] at hF;have hG:G9 r bkM bkHs bkDs wc:=by
  obtain⟨-,-,-,-,-,-,-,-,-,-,-,-,⟨_,h⟩,-⟩:=hF;exact h
 obtain⟨vm,vk,vh,vd,hb,h1,h2,h3,h4⟩:=hG;obtain⟨A,c,rfl,-⟩:=h1.form j2h;obtain⟨Ak,ck,rfl,-⟩:=h2.form j0n;obtain⟨Ah,ch,rfl,-⟩:=h3.form;obtain⟨Ad,cd,rfl,-⟩:=h4.form j3k;obtain⟨p0,p1,p2,p3,p4⟩:=blk5 hb;have hB:Below w.heap.size w wc:=by
  have h1:=HV.o;have h2:=HU.o.1;have h3:Below r w U:=(h1.2.1.mono (Nat.le_of_eq h1.2.2.2)).trans (h2.mono (by omega))
  rw[<-h1.2.2.2];exact h3.grown hT.1 (by have:=HU.o.2.2.2.1;omega) (fun k e=>by cases e;exact zL9 _)
 have HF:=zQ9 (zA9 h1 (zA9 h2 (zA9 h3 (zA9 h4 hB))));have a9:=j0a hb;have ae:=HV.o.2.2.2;clear h1 h2 h3 h4 hB hF hT;go_wp2
 refine bodyPost_ret (v:=Hb.v ⟨1,A,c,bkM,Ak,ck,[0,1],Ah,ch,bkHs,Ad,cd,bkDs⟩) (by simp[results,Tryz.f45,go_sem,p0,p1,p2,p3,p4]) rfl ⟨⟨A,c,Ak,ck,Ah,ch,Ad,cd,rfl,?_⟩,HF.o.2.2.2.2⟩
 have h:=HF.o;exact⟨h.1.mono (by omega),h.2.1.mono (by omega),h.2.2.1.mono (by omega),h.2.2.2.1.mono (by omega)⟩
theorem bk_ck:j3m 1 bkM [0,1] bkHs bkDs=0:=by decide +kernel
theorem bk_n:(j2l 1 bkM bkHs bkDs (-1) 0).length=5:=by decide +kernel
theorem bk_has:hasL (j2l 1 bkM bkHs bkDs (-1) 0) 3 2=[[⟨6,7⟩,⟨1,2⟩,⟨0,0⟩],[⟨0,1⟩,⟨1,3⟩,⟨0,1⟩]]:=by decide +kernel
theorem k8l:j4m ⟨1,none,0,bkM,none,0,[0,1],none,0,bkHs,none,0,bkDs⟩ 1=0∧j2y ⟨1,none,0,bkM,none,0,[0,1],none,0,bkHs,none,0,bkDs⟩ 1 3=[0,1]:=by decide +kernel
abbrev bkSs:List Sg:=[⟨3,false,false,0,-1⟩,⟨3,false,false,0,1⟩,⟨16,false,false,3,0⟩]
theorem q1r:j1n ⟨1,none,0,bkM,none,0,[0,1],none,0,bkHs,none,0,bkDs⟩ 1 bkSs=0∧j6v ⟨1,none,0,bkM,none,0,[0,1],none,0,bkHs,none,0,bkDs⟩ 1 bkSs=[⟨0,1⟩,⟨1,2⟩,⟨1,1⟩]:=by decide +kernel
section
variable {w w' a b':World} {base:Nat}
theorem Sl.bH {α:Type} {enc:α->List Value} {sz:Nat} {A:Option Addr} {n:Nat} {l:List α} (h:Sl enc sz w A n l) (hb:Q9 (Below w.heap.size w w')):Sl enc sz w' A n l:=h.below hb.o (zL9 _)
theorem j2u.bH {α:Type} {enc:α->List Value} {sz:Nat} {A:Option Addr} {n:Nat} {l:List (List α)} (h:j2u enc sz w A n l) (hb:Q9 (Below w.heap.size w w')):j2u enc sz w' A n l:=h.below hb.o (zL9 _)
theorem j2u.al {α:Type} {enc:α->List Value} {sz:Nat} {A:Option Addr} {n:Nat} {l:List (List α)} (h:j2u enc sz w A n l) (o:Obj):j2u enc sz (w.alloc o) A n l:=h.below (bal0 w o) (zL9 _)
theorem HbIn.bH {b:Hb} (h:HbIn w b) (hb:Q9 (Below w.heap.size w w')):HbIn w' b:=h.below hb.o (zL9 _)
theorem HbIn.al {b:Hb} (h:HbIn w b) (o:Obj):HbIn (w.alloc o) b:=h.below (bal0 w o) (zL9 _)
theorem blkbH {b:Nat} {o:Obj} (h:w.heap[b]?=some o) (hb:Q9 (Below w.heap.size w w')):w'.heap[b]?=some o:=j0e h hb.o (zL9 _)
theorem belS (h:Below w.heap.size w a) (hb:Q9 (Below a.heap.size a b')):Below w.heap.size w b':=h.trans (hb.o.mono h.size)
theorem tab2 {k r1 r2 n1 n2 c1 c2:Nat} {cs1 a1:Array Value} {t t':TypeId} {x y:List Rn} (hk:w.heap[k]?=some (.cells #[.slice (some ⟨r1,0,none⟩) n1 c1,.slice (some ⟨r2,0,none⟩) n2 c2] t (0,0))) (h1:w.heap[r1]?=some (.cells cs1 t' (0,0))) (h2:w.heap[r2]?=some (.cells a1 t' (0,0)))
 (e1:cs1.toList=x.flatMap eRn) (e2:a1.toList=y.flatMap eRn) (a3:n1=x.length) (a4:n2=y.length) (a0:n1<=c1∧c1<=maxLen) (a2:n2<=c2∧c2<=maxLen):Table w (some ⟨k,0,none⟩) 2 [x,y]:=by
 subst a3 a4;refine⟨[.slice (some ⟨r1,0,none⟩) x.length c1,.slice (some ⟨r2,0,none⟩) y.length c2],Sl.of_blk (enc:=eVal) hk rfl j2t,rfl,fun i v hv=>?_⟩
 match i,hv with
 | 0,hv=>simp at hv;subst hv;exact⟨_,x,c1,rfl,rfl,Sl.of_blk h1 e1 j5v,a0.1,a0.2⟩
 | 1,hv=>simp at hv;subst hv;exact⟨_,y,c2,rfl,rfl,Sl.of_blk h2 e2 j5v,a2.1,a2.2⟩
 | i+2,hv=>simp at hv
end
theorem j8o (w:World):Calls Tryz.prog 45 #[] w fun e w'=>(∃ A c Ak ck Ah ch Ad cd,e=.returned (.agg #[.int .i64 1,.slice A 3 c,.slice Ak 2 ck,.slice Ah 2 ch,.slice Ad 4 cd])∧HbIn w' ⟨1,A,c,bkM,Ak,ck,[0,1],Ah,ch,bkHs,Ad,cd,bkDs⟩)∧Below w.heap.size w w' :=
 (q3z w).mono fun e w' ⟨⟨A,c,Ak,ck,Ah,ch,Ad,cd,h1,h2⟩,h3⟩=>⟨⟨A,c,Ak,ck,Ah,ch,Ad,cd,h1,h2.inn⟩,h3⟩
theorem q1l (A Ak Ah Ad:Option Addr) (c ck ch cd:Nat) (w:World) (hi:HbIn w ⟨1,A,c,bkM,Ak,ck,[0,1],Ah,ch,bkHs,Ad,cd,bkDs⟩):Calls Tryz.prog 13 #[.agg #[.int .i64 1,.slice A 3 c,.slice Ak 2 ck,.slice Ah 2 ch,.slice Ad 4 cd]] w fun e w'=>e=.returned (.tuple #[.int .i64 5,.int .i64 0])∧Below w.heap.size w w':=by
 have ht:=q2o _ w hi;unfold k2b at ht;rw[show Hb.chk ⟨1,A,c,bkM,Ak,ck,[0,1],Ah,ch,bkHs,Ad,cd,bkDs⟩=0 from bk_ck,if_pos rfl,show(Hb.ends ⟨1,A,c,bkM,Ak,ck,[0,1],Ah,ch,bkHs,Ad,cd,bkDs⟩ (-1) 0).length=5 from bk_n] at ht
 exact ht
theorem has9_any (A Ak Ah Ad:Option Addr) (c ck ch cd:Nat) (w:World) (hi:HbIn w ⟨1,A,c,bkM,Ak,ck,[0,1],Ah,ch,bkHs,Ad,cd,bkDs⟩):Calls Tryz.prog 29 #[.agg #[.int .i64 1,.slice A 3 c,.slice Ak 2 ck,.slice Ah 2 ch,.slice Ad 4 cd]] w fun e w'=>(∃ B d,e=.returned (.tuple #[.slice B 2 d,.int .i64 0])∧Table w' B 2 [[⟨6,7⟩,⟨1,2⟩,⟨0,0⟩],[⟨0,1⟩,⟨1,3⟩,⟨0,1⟩]])∧Below w.heap.size w w':=by
 have ht:=Has_any _ w hi;have a0:askE ⟨1,A,c,bkM,Ak,ck,[0,1],Ah,ch,bkHs,Ad,cd,bkDs⟩=0:=k2d bk_ck (fun h=>by have h5:=bk_n;rw[show j2l 1 bkM bkHs bkDs (-1) 0=[] from h] at h5;cases h5)
 have a1:hasR ⟨1,A,c,bkM,Ak,ck,[0,1],Ah,ch,bkHs,Ad,cd,bkDs⟩=[[⟨6,7⟩,⟨1,2⟩,⟨0,0⟩],[⟨0,1⟩,⟨1,3⟩,⟨0,1⟩]]:=by unfold hasR;rw[if_pos a0];exact bk_has
 unfold HasR at ht;rw[a0,a1] at ht;refine ht.mono ?_;rintro e w' ⟨⟨v,rfl,ho⟩,hb⟩;obtain⟨B,d,rfl,h1,-⟩:=ho.form j5v;exact⟨⟨B,d,rfl,h1⟩,hb⟩
theorem q3q (A Ak Ah Ad:Option Addr) (c ck ch cd:Nat) (w:World) (hi:HbIn w ⟨1,A,c,bkM,Ak,ck,[0,1],Ah,ch,bkHs,Ad,cd,bkDs⟩):Calls Tryz.prog 46 #[.agg #[.int .i64 1,.slice A 3 c,.slice Ak 2 ck,.slice Ah 2 ch,.slice Ad 4 cd],.int .i64 1] w fun e w'=>(∃ B d,e=.returned (.tuple #[.slice B 2 d,.int .i64 0])∧Ints w' B 2 [0,1])∧Below w.heap.size w w':=by
 have ht:=q3w _ 1 w hi;have he:j4m ⟨1,A,c,bkM,Ak,ck,[0,1],Ah,ch,bkHs,Ad,cd,bkDs⟩ 1=0:=k8l.1;have hr:k1z ⟨1,A,c,bkM,Ak,ck,[0,1],Ah,ch,bkHs,Ad,cd,bkDs⟩ 1=[0,1]:=by unfold k1z;rw[if_pos he];exact k8l.2
 unfold k4a at ht;rw[he,hr] at ht;refine ht.mono ?_;rintro e w' ⟨⟨v,rfl,ho⟩,hb⟩;obtain⟨B,d,rfl,h1,-⟩:=ho.form j0n;exact⟨⟨B,d,rfl,h1⟩,hb⟩
theorem q5s (A Ak Ah Ad:Option Addr) (c ck ch cd:Nat) (w:World) (hi:HbIn w ⟨1,A,c,bkM,Ak,ck,[0,1],Ah,ch,bkHs,Ad,cd,bkDs⟩) (S:Option Addr) (hs:Sights w S 3 bkSs):Calls Tryz.prog 22 #[.agg #[.int .i64 1,.slice A 3 c,.slice Ak 2 ck,.slice Ah 2 ch,.slice Ad 4 cd],.int .i64 1,.slice S 3 3] w fun e w'=>(∃ B d,e=.returned (.tuple #[.slice B 3 d,.int .i64 0])∧Sl eRn 2 w' B 3 [⟨0,1⟩,⟨1,2⟩,⟨1,1⟩])∧Below w.heap.size w w':=by
 have ht:=k8e _ 1 S 3 3 bkSs w hi hs (by simp[maxLen])
 have he:j1n ⟨1,A,c,bkM,Ak,ck,[0,1],Ah,ch,bkHs,Ad,cd,bkDs⟩ 1 bkSs=0:=q1r.1;have hr:j6v ⟨1,A,c,bkM,Ak,ck,[0,1],Ah,ch,bkHs,Ad,cd,bkDs⟩ 1 bkSs=[⟨0,1⟩,⟨1,2⟩,⟨1,1⟩]:=q1r.2;unfold k2a at ht;rw[he,hr] at ht;refine ht.mono ?_;rintro e w' ⟨⟨v,rfl,ho⟩,hb⟩;obtain⟨B,d,rfl,h1,-⟩:=ho.form j5v;exact⟨⟨B,d,rfl,h1⟩,hb⟩
theorem j9h (w:World):Calls Tryz.prog 8 #[] w fun e w'=>e=.returned (.bool true)∧Below w.heap.size w w':=by
 go_enter Tryz.func8,Tryz.ntmps8
 go_wp2_with fail
 with_reducible refine(j8o _).mono ?_
 rintro e v1 ⟨⟨A1,c1,bD,aC,aH,bm,bh,b3,rfl,ai⟩,ax⟩;have ce:=zQ9 ax;clear ax;have ht:=q1l A1 bD aH bh c1 aC bm b3 v1 ai;clear ai;go_wp2_with fail
 with_reducible refine ht.mono ?_
 rintro e v2 ⟨rfl,az⟩;have cg:=zQ9 az;clear az ht;go_wp2_with fail
 with_reducible refine(j8o _).mono ?_
 rintro e v3 ⟨⟨A3,c3,aD,b0,b4,aE,bB,bp,rfl,aq⟩,an⟩;have cb:=zQ9 an;clear an;have ht:=has9_any A3 aD b4 bB c3 b0 aE bp v3 aq;clear aq;go_wp2_with fail
 with_reducible refine ht.mono ?_
 rintro e v4 ⟨⟨At,ct,rfl,ar⟩,ak⟩;have c9:=zQ9 ak;have c4:=zQ9 ar;clear ak ht ar;go_wp2_with fail
 with_reducible refine(j8o _).mono ?_
 rintro e v5 ⟨⟨A5,c5,bA,b6,ba,b8,bF,bf,rfl,aB⟩,av⟩;have cr:=zQ9 av;clear av;have ht:=q3q A5 bA ba bF c5 b6 b8 bf v5 aB;clear aB;go_wp2_with fail
 with_reducible refine ht.mono ?_
 rintro e v6 ⟨⟨Aw,cw,rfl,ao⟩,ay⟩;have cj:=zQ9 ay;have co:=zQ9 ao;clear ay ht ao;go_wp2_with fail
 with_reducible refine(j8o _).mono ?_
 rintro e v7 ⟨⟨A7,c7,b5,aF,bv,br,b9,bw,rfl,aj⟩,ah⟩;have cf:=zQ9 ah;clear ah;have bs:=zQ9 aj;clear aj;go_wp2_with fail
 with_reducible refine(k6t _).mono ?_
 rintro e v8 ⟨rfl,am⟩;have aG:=zQ9 am;clear am;unfold vSg;go_wp2_with fail
 with_reducible refine(q5s A7 b5 bv b9 c7 aF br bw _ ((bs.o.bH aG).al _) (some ⟨v8.heap.size,0,none⟩) (Sl.lit v8 31 _ bkSs rfl j8w (by simp[maxLen]))).mono ?_
 rintro e v9 ⟨⟨Ap,cp,rfl,aw⟩,aA⟩;have HB9:=zQ9 aA;have cu:=zQ9 aw;clear aA aw;go_wp2_with fail
 with_reducible refine(j3f 6 7 _).mono ?_
 rintro e c8 ⟨rfl,a7⟩;have bj:=zQ9 a7;clear a7;go_wp2_with fail
 with_reducible refine(j3f 1 2 _).mono ?_
 rintro e c6 ⟨rfl,a6⟩;have bi:=zQ9 a6;clear a6;go_wp2_with fail
 with_reducible refine(j3f 0 0 _).mono ?_
 rintro e af ⟨rfl,ad⟩;have b7:=zQ9 ad;clear ad;go_wp2_with fail
 with_reducible refine(j3f 0 1 _).mono ?_
 rintro e ca ⟨rfl,a1⟩;have bE:=zQ9 a1;clear a1;go_wp2_with fail
 with_reducible refine(j3f 1 3 _).mono ?_
 rintro e cq ⟨rfl,a3⟩;have bz:=zQ9 a3;clear a3;go_wp2_with fail
 with_reducible refine(j3f 0 1 _).mono ?_
 rintro e a0 ⟨rfl,a9⟩;have bC:=zQ9 a9;clear a9;go_wp2_with fail
 have hx:Table ((a0.alloc (.cells #[.int .i64 0,.int .i64 1,.int .i64 1,.int .i64 3,.int .i64 0,.int .i64 1] 72)).alloc (Obj.cells #[.slice (some ⟨af.heap.size,0,none⟩) 3 3,.slice (some ⟨a0.heap.size,0,none⟩) 3 3] 57)) At 2 [[⟨6,7⟩,⟨1,2⟩,⟨0,0⟩],[⟨0,1⟩,⟨1,3⟩,⟨0,1⟩]]:=by
  repeat (first|(with_reducible refine Q9.o ?_;assumption)|(with_reducible refine j2u.al ?_ _)|(with_reducible refine j2u.bH ?_ (by assumption)))
 have hy:Table ((a0.alloc (.cells #[.int .i64 0,.int .i64 1,.int .i64 1,.int .i64 3,.int .i64 0,.int .i64 1] 72)).alloc (Obj.cells #[.slice (some ⟨af.heap.size,0,none⟩) 3 3,.slice (some ⟨a0.heap.size,0,none⟩) 3 3] 57)) (some ⟨a0.heap.size+1,0,none⟩) 2 [[⟨6,7⟩,⟨1,2⟩,⟨0,0⟩],[⟨0,1⟩,⟨1,3⟩,⟨0,1⟩]]:=by
  have h0:(af.alloc (.cells #[.int .i64 6,.int .i64 7,.int .i64 1,.int .i64 2,.int .i64 0,.int .i64 0] 72)).heap[af.heap.size]?=some (.cells #[.int .i64 6,.int .i64 7,.int .i64 1,.int .i64 2,.int .i64 0,.int .i64 0] 72 (0,0)):=j0c rfl;have H0:=zQ9 h0;refine tab2 (j0c (by simp)) (cs1:=#[Value.int .i64 6,.int .i64 7,.int .i64 1,.int .i64 2,.int .i64 0,.int .i64 0]) (t':=72) ?_ (j0b (j0c rfl) _) rfl rfl rfl rfl (by simp[maxLen]) (by simp[maxLen])
  repeat (first|(with_reducible refine Q9.o ?_;assumption)|(with_reducible refine j0b ?_ _)|(with_reducible refine blkbH ?_ (by assumption)))
 with_reducible refine(k5z At 2 ct _ (some ⟨a0.heap.size+1,0,none⟩) 2 2 _ _ hx hy (by simp[maxLen]) (by simp[maxLen])).mono ?_
 clear hx hy;rintro e ag ⟨rfl,a5⟩;have be:=zQ9 a5;clear a5;go_wp2_with fail
 have hx:Ints (ag.alloc (.cells #[.int .i64 0,.int .i64 1] 3)) Aw 2 [0,1]:=by
  repeat (first|(with_reducible refine Q9.o ?_;assumption)|(with_reducible refine Sl.alloc ?_ _)|(with_reducible refine Sl.bH ?_ (by assumption)))
 with_reducible refine(j8l Aw 2 cw [0,1] (some ⟨ag.heap.size,0,none⟩) 2 2 [0,1] _ hx (ints2 ag 3 0 1) (by simp[maxLen]) (by simp[maxLen])).mono ?_
 clear hx;rintro e cc ⟨rfl,aa⟩;have bq:=zQ9 aa;clear aa;go_wp2_with fail
 with_reducible refine(j3f 0 1 _).mono ?_
 rintro e cn ⟨rfl,a4⟩;have bt:=zQ9 a4;clear a4;go_wp2_with fail
 with_reducible refine(j3f 1 2 _).mono ?_
 rintro e bG ⟨rfl,a2⟩;have bn:=zQ9 a2;clear a2;go_wp2_with fail
 with_reducible refine(j3f 1 1 _).mono ?_
 rintro e ac ⟨rfl,ae⟩;have bu:=zQ9 ae;clear ae;go_wp2_with fail
 have hx:Sl eRn 2 (ac.alloc (.cells #[.int .i64 0,.int .i64 1,.int .i64 1,.int .i64 2,.int .i64 1,.int .i64 1] 72)) Ap 3 [⟨0,1⟩,⟨1,2⟩,⟨1,1⟩]:=by
  repeat (first|(with_reducible refine Q9.o ?_;assumption)|(with_reducible refine Sl.alloc ?_ _)|(with_reducible refine Sl.bH ?_ (by assumption)))
 have hy:Sl eRn 2 (ac.alloc (.cells #[.int .i64 0,.int .i64 1,.int .i64 1,.int .i64 2,.int .i64 1,.int .i64 1] 72)) (some ⟨ac.heap.size,0,none⟩) 3 [⟨0,1⟩,⟨1,2⟩,⟨1,1⟩]:=Sl.lit ac 72 #[Value.int .i64 0,.int .i64 1,.int .i64 1,.int .i64 2,.int .i64 1,.int .i64 1] ([⟨0,1⟩,⟨1,2⟩,⟨1,1⟩]:List Rn) rfl j5v (by simp[maxLen])
 with_reducible refine(j6n Ap 3 cp [⟨0,1⟩,⟨1,2⟩,⟨1,1⟩] (some ⟨ac.heap.size,0,none⟩) 3 3 [⟨0,1⟩,⟨1,2⟩,⟨1,1⟩] _ hx hy (by simp[maxLen]) (by simp[maxLen])).mono ?_
 clear hx hy;rintro e c0 ⟨rfl,a8⟩;have bo:=zQ9 a8;clear a8;go_wp2_with fail
 go_ret
 refine⟨rfl,?_⟩
 repeat (first|exact zB2 _ _|(with_reducible refine belS ?_ (by assumption))|(with_reducible refine bal ?_ (zL9 _) _))
end Go.Proofs.YtmennjmjakdkcaaGreat
