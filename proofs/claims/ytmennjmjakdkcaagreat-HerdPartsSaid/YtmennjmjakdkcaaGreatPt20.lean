/- HerdParts. -/
import Derived.Test.YtmennjmjakdkcaaGreatPt16
import Derived.Test.YtmennjmjakdkcaaGreatPt17
import Derived.Test.YtmennjmjakdkcaaGreatPt18
import Derived.Test.YtmennjmjakdkcaaGreatPt19
set_option linter.unusedVariables false
set_option linter.unusedSimpArgs false
set_option maxRecDepth 1000000
set_option maxHeartbeats 8000000
namespace Go.Proofs.YtmennjmjakdkcaaGreat
open Go.RowKit
theorem sw_all (w w1 W:World) (H q p f al nh be off ce a5 a8 a9 a6 a7 z3 zr M3:Nat) (t ho kd sm:Int) (vd:Value) (A Ak Ah:Option Addr) (c ck ch:Nat) (l:List Mk) (ks:List Int) (hs gs:List (List Int)) (ds:List De) (a0 whose:List Int) {v1 v2 v3 v4 v5 v6 v7 v8 v9 mh m0 mv nj ma gd mw nw nv nz mi mr n9 m1 mj nm mu kC ng mx mC n4 kD m3 mD kB kj kq kE na m6 n6 np mn kx kr mg kw mb m2 n2 nq mq m7 kG mo kA kp mz nb mG ko ms mB kH kt nf kF ku m8 mf ky mH kn mF n3 n1 m4 mE ni n8 mt my mA m9 kz m5 me nr nx nt hf bC cx fB g8 i4 gt bB jh cq ix kh hu cr jz jn jx ga jp i8 dd ki dA cG d3 f2 gv c6 jE h6 c4 fi j1 j6 ke jm f5 ij hG cE g7 iA aB fj hx aC gF jf cB cz du jv gC h8 gB fD aA gE cF ct cf g5 jH hw b6 cc k9 bE dy jA cu gH aH di ji cp dC fg i7 b8 b5 ba cw f9 gc gu bq k7 im j2 fo dj ie ht gw iG j4 bp iB g0 dF jq h9 iv k0 fE cv fG bh ff dk dx c5 d4 gp cH aG d9 ju bo fc d7 fa io bD jb gj fw f6 dD b4 jj ih fd hy dq ir hr d1 fb fA ca jd jr bz jc ft bs gk aF d0 jF cn dr iz bt k3 j5 iw bF b7 k4 bn j9 hA iy dh k8 jD ik f1 ja c9 ia fh i3 gx k5 f7 jt j7 gy jg aD ge g2 i9 iH gh cy ib hF g9 fq bv g3 da jy hj dn k6 fv fC gD ka iF dg c8 iu ig b3 f8 bf bw cA j0 kg br jk i0 ip k2 fx jC b0 js dB bG fy jG d8 gA je i6 dH hH i2 d5 kb gm c7 dw h7 c0 k1 fH hE co cC h0 b9 bA gG iD bi jw aE cb hh g1 cj j8 jo bu bj cD cg ii j3 bm hq ic i1 dG iq g4 jB fe g6 iC iE fF dz i5 it d2 fp ak ao ay av aj ag aw am an ah ai aq ax ar:Value} (Q:Exit->Act->World->Prop)
 (ad:Q9 (SwD w w1 H q t al nh be off ce a5 a8 a9 a6 a7 z3 zr p A Ak Ah c ck ch vd ds gs a0 gd whose (M3+1+1+1) ⟨6,f,0,0,0,0,0,sZ⟩ W)) (HC:Q9 (SwC t al nh f ho sm l ks hs ds gs a0 whose)) (ac:f<nh) (a2:nh<=3) (a1:al<=5) (a4:0<al) (a3:M3<=4611686018000030000) (ae:Hd W H (M3+1+1+1)) (aa:0<=sm∧sm<=80)
 (nA:1<=kd∧kd<=7) (gg:Nat) (ns:w.heap.size<=gg) (hm:OwnM w1 (gg+1) (.slice A al c) l) (nu:∃ o,w1.heap[q]?=some (Obj.cells o 29 (0,0))) (ny:check t l=0)
 (HQ:SwQ w w1 H q p f al nh be off ce a5 a8 a9 a6 a7 z3 zr M3 t ho kd vd A Ak Ah c ck ch l ks hs ds whose v1 v2 v3 v4 v5 v6 v7 v8 v9 mh m0 mv nj ma gd mw mi mr n9 m1 mj nm mu kC ng mx mC n4 kD m3 mD kB kj kq kE na m6 n6 np mn kx kr mg kw mb m2 n2 nq mq m7 kG mo kA kp mz nb mG ko ms mB kH kt nf kF ku m8 mf ky mH kn mF n3 n1 m4 mE ni n8 mt my mA m9 kz m5 me nr ak ao ay av aj ag aw am an ah ai aq ax ar Q) :
 Code.wp Tryz.prog j3a Q ⟨#[Value.pointer (some ⟨H,0,none⟩),v1,v2,v3,v4,v5,v6,v7,v8,v9,mh,m0,Value.pointer (some ⟨q,0,none⟩),Value.int .i64 (al:Int),mv,nj,ma,Value.slice (some ⟨be,off,none⟩) nh ce,Value.slice (some ⟨a5,0,none⟩) al al,gd,mw,Value.int .i64 (f:Int),Value.int .i64 ho,Value.int .i64 (-1),Value.int .i64 kd,Value.pointer (some ⟨p,0,none⟩),nw,nv,nz,mi,mr,n9,m1,mj,nm,mu,kC,ng,mx,mC,n4,kD,m3,mD,kB,kj,kq,kE,na,m6,n6,np,mn,kx,kr,mg,kw,mb,m2,n2,nq,mq,m7,kG,mo,kA,kp,mz,nb,mG,ko,ms,mB,kH,kt,nf,kF,ku,m8,mf,ky,mH,kn,mF,n3,n1,m4,mE,ni,n8,mt,my,mA,m9,kz,m5,me,nr,nx,nt,hf,bC,cx,fB,g8,i4,gt,bB,jh,cq,ix,kh,hu,cr,jz,jn,jx,ga,jp,i8,dd,ki,dA,cG,d3,f2,gv,c6,jE,h6,c4,fi,j1,j6,ke,jm,f5,ij,hG,cE,g7,iA,aB,fj,hx,aC,gF,jf,cB,cz,du,jv,gC,h8,gB,fD,aA,gE,cF,ct,cf,g5,jH,hw,b6,cc,k9,bE,dy,jA,cu,gH,aH,di,ji,cp,dC,fg,i7,b8,b5,ba,cw,f9,gc,gu,bq,k7,im,j2,fo,dj,ie,ht,gw,iG,j4,bp,iB,g0,dF,jq,h9,iv,k0,fE,cv,fG,bh,ff,dk,dx,c5,d4,gp,cH,aG,d9,ju,bo,fc,d7,fa,io,bD,jb,gj,fw,f6,dD,b4,jj,ih,fd,hy,dq,ir,hr,d1,fb,fA,ca,jd,jr,bz,jc,ft,bs,gk,aF,d0,jF,cn,dr,iz,bt,k3,j5,iw,bF,b7,k4,bn,j9,hA,iy,dh,k8,jD,ik,f1,ja,c9,ia,fh,i3,gx,k5,f7,jt,j7,gy,jg,aD,ge,g2,i9,iH,gh,cy,ib,hF,g9,fq,bv,g3,da,jy,hj,dn,k6,fv,fC,gD,ka,iF,dg,c8,iu,ig,b3,f8,bf,bw,cA,j0,kg,br,jk,i0,ip,k2,fx,jC,b0,js,dB,bG,fy,jG,d8,gA,je,i6,dH,hH,i2,d5,kb,gm,c7,dw,h7,c0,k1,fH,hE,co,cC,h0,b9,bA,gG,iD,bi,jw,aE,cb,hh,g1,cj,j8,jo,bu,bj,cD,cg,ii,j3,bm,hq,ic,i1,dG,iq,g4,jB,fe,g6,iC,iE,fF,dz,i5,it,d2,fp,ak,ao,ay,av,aj,ag,aw,am,an,ah,ai,aq,ax,ar],[]⟩ W:=by
 by_cases h1:kd=1
 ·exact sw_born w w1 W H q p f al nh be off ce a5 a8 a9 a6 a7 z3 zr M3 t ho kd sm vd A Ak Ah c ck ch l ks hs gs ds a0 whose Q ad HC ac a2 a1 a4 a3 ae aa h1 HQ
 by_cases h5:kd=5
 ·exact sw_cnt5 w w1 W H q p f al nh be off ce a5 a8 a9 a6 a7 z3 zr M3 t ho kd sm vd A Ak Ah c ck ch l ks hs gs ds a0 whose Q ad HC ac a2 a1 a4 a3 ae aa h5 HQ
 rcases HC.o.h with he|⟨o,he,af,az,n7⟩
 ·by_cases h2:kd=2
  ·exact sw_cnt2 w w1 W H q p f al nh be off ce a5 a8 a9 a6 a7 z3 zr M3 t ho kd sm vd A Ak Ah c ck ch l ks hs gs ds a0 whose Q ad HC ac a2 a1 a4 a3 ae aa h2 he HQ
  by_cases h3:kd=3
  ·exact sw_cnt3 w w1 W H q p f al nh be off ce a5 a8 a9 a6 a7 z3 zr M3 t ho kd sm vd A Ak Ah c ck ch l ks hs gs ds a0 whose Q ad HC ac a2 a1 a4 a3 ae aa h3 he HQ
  by_cases h4:kd=4
  ·exact sw_cnt4 w w1 W H q p f al nh be off ce a5 a8 a9 a6 a7 z3 zr M3 t ho kd sm vd A Ak Ah c ck ch l ks hs gs ds a0 whose Q ad HC ac a2 a1 a4 a3 ae aa h4 he HQ
  exact sw_cnt6 w w1 W H q p f al nh be off ce a5 a8 a9 a6 a7 z3 zr M3 t ho kd sm vd A Ak Ah c ck ch l ks hs gs ds a0 whose Q ad HC ac a2 a1 a4 a3 ae aa (by omega) he HQ
 ·by_cases h2:kd=2
  ·by_cases ha:(1:Int)<al
   ·exact sw_sold w w1 W H q p f al nh be off ce a5 a8 a9 a6 a7 z3 zr M3 t ho kd sm vd A Ak Ah c ck ch l ks hs gs ds a0 whose Q ad HC ac a2 a1 a4 a3 ae aa h2 o he af az ha HQ
   ·exact sw_cnt2b w w1 W H q p f al nh be off ce a5 a8 a9 a6 a7 z3 zr M3 t ho kd sm vd A Ak Ah c ck ch l ks hs gs ds a0 whose Q ad HC ac a2 a1 a4 a3 ae aa h2 o he ha HQ
  by_cases h3:kd=3
  ·by_cases hm3:20<getG gs f o
   ·exact q6h w w1 W H q p f al nh be off ce a5 a8 a9 a6 a7 z3 zr M3 t ho kd sm vd A Ak Ah c ck ch l ks hs gs ds a0 whose Q ad HC ac a2 a1 a4 a3 ae aa h3 o he af az hm3 HQ
   ·exact q6i w w1 W H q p f al nh be off ce a5 a8 a9 a6 a7 z3 zr M3 t ho kd sm vd A Ak Ah c ck ch l ks hs gs ds a0 whose Q ad HC ac a2 a1 a4 a3 ae aa h3 o he af az hm3 HQ
  by_cases h4:kd=4
  ·by_cases hm4:2<sm
   ·exact sw_lost1 w w1 W H q p f al nh be off ce a5 a8 a9 a6 a7 z3 zr M3 t ho kd sm vd A Ak Ah c ck ch l ks hs gs ds a0 whose Q ad HC ac a2 a1 a4 a3 ae aa h4 o he af n7 hm4 HQ
   ·exact sw_lost2 w w1 W H q p f al nh be off ce a5 a8 a9 a6 a7 z3 zr M3 t ho kd sm vd A Ak Ah c ck ch l ks hs gs ds a0 whose Q ad HC ac a2 a1 a4 a3 ae aa h4 o he af n7 hm4 HQ
  by_cases hn:(1:Int)<nh
  ·exact q3p w w1 W H q p f al nh be off ce a5 a8 a9 a6 a7 z3 zr M3 t ho kd sm vd A Ak Ah c ck ch l ks hs gs ds a0 whose Q ad HC ac a2 a1 a4 a3 ae aa (by omega) o gg he af az hn ns hm nu ny HQ
  ·exact sw_cnt6b w w1 W H q p f al nh be off ce a5 a8 a9 a6 a7 z3 zr M3 t ho kd sm vd A Ak Ah c ck ch l ks hs gs ds a0 whose Q ad HC ac a2 a1 a4 a3 ae aa (by omega) o he hn HQ
theorem j7r (x:De):∀ u∈eDe x,u.oneCell'=true:=by
 intro u hu;simp[eDe] at hu;rcases hu with rfl|rfl|rfl|rfl|rfl|rfl|rfl|rfl|rfl|rfl|rfl|rfl<;>rfl
theorem j9q:ElemOk Tryz.prog 27 33 12 88:=ElemOk.mk' (z:=.agg #[.int .i64 0,.int .i64 0,.int .i64 0,.int .i64 0,.int .i64 0,.int .i64 0,.int .i64 0,.int .i64 0,.bool false,.bool false,.int .i64 0,.int .i64 0]) Tryz.underlying27 (by kernel_rfl) rfl (by decide)
theorem q1s {t:Int} {l:List Mk} {ks:List Int} {hs:List (List Int)} {ds:List De} (ck:check t l=0) (k0:0<ks.length) (k3:ks.length<=3) (kk:∀ k∈ks,0<=k∧k<l.length) (hl:hs.length=ks.length)
 (hr:∀ r∈hs,r.length=l.length∧∀ x∈r,0<=x∧x<=20) (d6:ds.length<=6) (dE:∀ d∈ds,j0v l.length ks.length d=0):j3m t l ks hs ds=0:=by
 have hf:j1k l.length ks hs=0:=by
  unfold j1k;have e1:ks.all (ownB l.length)=true:=List.all_eq_true.2 fun k hk=>j1p.2 (kk k hk)
  have e2:hs.all (fun r=>decide (r.length=l.length))=true:=List.all_eq_true.2 fun r h=>decide_eq_true (hr r h).1
  have e3:hs.all (fun r=>r.all fun x=>btw x 0 20)=true:=List.all_eq_true.2 fun r h=>List.all_eq_true.2 fun x hx=>j0o.2 ((hr r h).2 x hx)
  rw[e1,e2,e3,if_neg (by omega),if_neg (by omega),if_neg (by simp),if_neg (by omega),if_neg (by simp),if_neg (by simp)]
 unfold j3m;rw[ck,hf,if_neg (by simp),if_neg (by simp),if_neg (by omega)]
 exact k0g.2 dE
section
variable {w w':World} {base g:Nat} {v:Value} {ls:List (List Int)} {o:Array Value} {x:Nat × Nat}
theorem EndG.keptB (h:EndG w base v ls) (hg:w.grownBy w' (some g)) (bg:w.heap[g]?=some (Obj.cells o 29 x)):EndG w' base v ls:=by
 obtain⟨mv,h1,h2,h3⟩:=h;exact⟨mv,h1.kept hg (.inr (h1.ne' bg (by decide))),h2.kept hg (fun x hx=>.inr (h2.ne hx bg (by decide))),h3⟩
theorem OwnG.keptB (h:OwnG w base v ls) (hg:w.grownBy w' (some g)) (bg:w.heap[g]?=some (Obj.cells o 29 x)):OwnG w' base v ls:=by
 obtain⟨mv,h1,h2⟩:=h;exact⟨mv,h1.kept hg (.inr (h1.ne' bg (by decide))),Rws.kept h2 hg (fun x hx=>.inr (Rws.ne h2 hx bg (by decide)))⟩
end
def TaleR (w:World) (H N n nf nd:Nat) (e:Ending) (w':World):Prop :=
 ∃ (b:Hb) (vE vG vW:Value) (gs:List (List Int)) (gone whose:List Int),e=.returned (.tuple #[b.v,vE,vG,vW])∧b.chk=0∧(b.l.length<=n∨b.l.length=1)∧(b.ks.length<=nf∨b.ks.length=1)∧b.ds.length<=nd ∧
  OwnM w' w.heap.size b.vm b.l∧OwnI w' w.heap.size b.vk b.ks∧OwnG w' w.heap.size b.vh b.hs∧OwnD w' w.heap.size b.vd b.ds ∧
  EndG w' w.heap.size vE gs∧OwnI w' w.heap.size vG gone∧OwnI w' w.heap.size vW whose∧GSh b.l.length b.ks.length gs∧TaleI b.t b.l b.hs b.ds gs gone whose∧Dealt w w' H N
theorem tale_end {w w1 wr W:World} {H N N' n nf nd g q a8 ae a7 a6 z3 zr al nk nh:Nat} {t:Int} {A Ak Ah:Option Addr} {c ck ch:Nat} {l:List Mk} {ks:List Int} {hs:List (List Int)} {vd:Value} {ds:List De} {vE vG vW:Value} {gs:List (List Int)} {a1 whose:List Int} {M:Nat} {bm bk bh bd:Value} {mv:List Value}
 (af:al=l.length) (a3:nk=ks.length) (a9:nh=hs.length)
 (hT:TDe w w1 H q t (.slice A al c) (.slice Ak nk ck) (.slice Ah nh ch) vd vd ds vE gs vG a1 vW whose a8 ae a7 a6 z3 zr N wr) (hR:R3 t l ks hs ds gs a1 whose)
 (hF:TFl w H g q t bm bk bh bd (.slice A l.length c) l (.slice Ak nk ck) ks (.slice Ah nh ch) mv hs (.slice none 0 0) [] M w1)
 (a0:wr.grownBy W (some g)) (a5:check t l=0) (kk:∀ k∈ks,0<=k∧k<al) (hr:∀ r∈hs,r.length=al∧∀ x∈r,0<=x∧x<=4) (ad:hs.length=ks.length)
 (aa:l.length<=n∨l.length=1) (ac:ks.length<=nf∨ks.length=1) (a2:ds.length<=nd) (a4:nd<=6) (hN:N<=N') :
 TaleR w H N' n nf nd (.returned (.tuple #[.agg #[.int .i64 t,.slice A al c,.slice Ak nk ck,.slice Ah nh ch,vd],vE,vG,vW])) W:=by
 subst af a3 a9;obtain⟨Ad,cd,rfl,-⟩:=hT.d.form j3k;have h1:=hF.hg;have h2:=hF.gq;have h3:=hF.z0;have bg:wr.heap[g]?=some (boxO 0 (.slice none 0 0) (.slice none 0 0) (.slice none 0 0) (.slice none 0 0)):=(hT.fz g (j0a hF.bg) (by omega) (by omega)).trans hF.bg
 obtain⟨e1,e2,e3,e4,e5,e6,e7⟩:=hT.end h3 hF.m hF.k ⟨mv,hF.h,hF.rw⟩ ⟨_,hF.box⟩;refine⟨⟨t,A,c,l,Ak,ck,ks,Ah,ch,hs,Ad,cd,ds⟩,vE,vG,vW,gs,a1,whose,rfl,?_,aa,ac,a2,e1.kept a0 (.inr (e1.ne' bg (by decide))),e2.kept a0 (.inr (e2.ne' bg (by decide))),e3.keptB a0 bg,e4.kept a0 (.inr (e4.ne' bg (by decide))),e5.keptB a0 bg,e6.kept a0 (.inr (e6.ne' bg (by decide))),e7.kept a0 (.inr (e7.ne' bg (by decide))),hR.sh,hR.ti,?_⟩
 ·exact q1s a5 hR.f0 hR.f3 kk ad (fun r h=>⟨(hr r h).1,fun x hx=>by have:=(hr r h).2 x hx;omega⟩) (zB6 a2 a4) hR.de
 ·exact(hT.dl.ownG a0 fun k e=>by cases e;exact⟨h1,h3⟩).mono hN
theorem TDe.bg {w w1 wr:World} {H N g q a6 a7 a5 a4 z3 zr:Nat} {t:Int} {vm vk vh bd vd vE vG vW:Value} {ds:List De} {gs:List (List Int)} {a0 whose:List Int} {M:Nat} {bm bk bh a1 a8 a2 a3 vu:Value} {mv:List Value} {l:List Mk} {ks row:List Int} {hs:List (List Int)}
 (hT:TDe w w1 H q t vm vk vh bd vd ds vE gs vG a0 vW whose a6 a7 a5 a4 z3 zr N wr) (hF:TFl w H g q t bm bk bh a1 a8 l a2 ks a3 mv hs vu row M w1) :
 wr.heap[g]?=some (boxO 0 (.slice none 0 0) (.slice none 0 0) (.slice none 0 0) (.slice none 0 0)) :=
 (hT.fz g (j0a hF.bg) (by have:=hF.hg;omega) (by have:=hF.gq;omega)).trans hF.bg
theorem q5x {w w1 w4 w5 W:World} {H q N p a4 a5 a3 a2 z3 zr g4 n4 c4 g5 n5 c5:Nat} {t:Int} {vm vk vh vd vE vG vW:Value} {ds a6:List De} {gs:List (List Int)} {a1 whose a0:List Int} {d:De} {o1 o2:Obj}
 (a:RD w w1 H q t vm vk vh vd vd ds vE gs vG a1 vW whose a4 a5 a3 a2 z3 zr N p d W) (aa:(W.alloc o1).grownBy w4 vd.ownBlock) (a7:OwnD w4 z3 (.slice (some ⟨g4,0,none⟩) n4 c4) a6)
 (a9:(w4.alloc o2).grownBy w5 vW.ownBlock) (a8:OwnI w5 z3 (.slice (some ⟨g5,0,none⟩) n5 c5) a0) :
 TDe w w1 H q t vm vk vh (.slice (some ⟨g4,0,none⟩) n4 c4) (.slice (some ⟨g4,0,none⟩) n4 c4) a6 vE gs vG a1 (.slice (some ⟨g5,0,none⟩) n5 c5) a0 a4 a5 a3 a2 z3 w5.heap.size N (w5.setCell ⟨q,4,none⟩ (.slice (some ⟨g4,0,none⟩) n4 c4)) :=
 ((((a.td.alloc o1).appD aa a7).alloc o2).appO a9 a8).set4 _
def j1u (n:Nat):Code->Option Code
 | .region m ops b=>if m=n then some (.region m ops b) else none
 | .block _ c=>j1u n c
 | .seq a b=>match j1u n a with
   | some x=>some x
   | none=>j1u n b
 | .cond _ a b=>match j1u n a with
   | some x=>some x
   | none=>j1u n b
 | .loop c=>j1u n c
 | .scope c=>j1u n c
 | _=>none
noncomputable def rgCode45:Code:=((Tryz.f20.body.bind (j1u 45)).getD .skip)
def RgQ (w w1:World) (H q p ze1 ze2 zg1 zg2 z3 N:Nat) (t ow:Int) (vm vk vh vE vG:Value) (ds:List De) (d:De) (gs:List (List Int)) (gone whose:List Int) (v0 v1 v2 v3 v4 v5 v6 v7 v8 v9 Z0 Z1 Z2 Z3 Z4 Z5 Z6 Z7 Z8 Z9 ZA ZB ZC ZD ZE ZF ZG ZH ZI ZJ ZK ZL ZM ZN ZO ZP ZQ ZR ZS ZT ZU ZV ZW ZX ZY ZZ Za Zb Zc Zd Ze Zf Zg Zh Zi Zj Zk Zl Zm Zn Zo Zp Zq Zr Zs Zt Zu Zv Zw Zx Zy Zz Y0 Y1 Y2 Y3 Y4 Y5 Y6 Y7 Y8 Y9 YA YB YC YD YE YF YG YH YI YJ YK YL YM YN YO YP YQ YR YS YT YU YV YW YX YY YZ Ya Yb Yc Yd Ye Yf Yg Yh Yi Yj Yk Yl Ym Yn Yo Yp Yq Yr Ys Yt Yu Yv Yw Yx Yy Yz X0 X1 X2 X3 X4 X5 X6 X7 X8 X9 XA XB XC XD XE XF XG XH XI XJ XK XL XM XN XO XP XQ XR XS XT XU XV XW XX XY XZ Xa Xb Xc Xd Xe Xf Xg Xh Xi Xj Xk Xl Xm Xn Xo Xp Xq Xr Xs Xt Xu Xv Xw Xx Xy Xz K0 K1 K2 K3 K4 K5 K6 K7 K8 K9 KA KB KC KD KE KF KG KH KI KJ KK KL KM KN KO KP KQ KR KS KT KU KV KW KX KY KZ Ka Kb Kc Kd Ke Kf Kg Kh Ki Kj Kk Kl Km Kn Ko Kp Kq Kr Ks Kt Ku Kv Kw Kx Ky Kz J0 J1 J2 J3 J4 J5 J6 J7 J8 J9 JA JB JC JD JE JF JG JH JI JJ JK JL JM JN JO JP JQ JR JS JT JU JV JW JX JY JZ Ja Jb Jc Jd Je Jf Jg Jh Ji Jj Jk Jl Jm Jn Jo Jp Jq Jr Js Jt Ju Jv Jw Jx Jy Jz G0 G1 G2 G3 G4 G5 G6 G7 G8 G9 GA GB GC GD GE GF GG GH GI GJ GK GL GM GN GO GP GQ GR GS GT GU GV GW GX GY GZ Ga Gb Gc Gd Ge Gf Gg Gh Gi Gj Gk Gl Gm Gn Gp Gq Gr Gs Gt Gu Gv Gw Gx Gy Gz F0 F1 F2 F3 F4 F5 F6 F7 F8 F9 FA FB FC FD FE FF FG:Value) (Q:Exit->Act->World->Prop):Prop :=
 ∀ (g4 c4 g5 c5 zr':Nat) (FH FI FJ FK FL FM FN FO FP FQ:Value) (w':World),TDe w w1 H q t vm vk vh (.slice (some ⟨g4,0,none⟩) (ds.length+1) c4) (.slice (some ⟨g4,0,none⟩) (ds.length+1) c4) (ds++[d]) vE gs vG gone (.slice (some ⟨g5,0,none⟩) (whose.length+1) c5) (whose++[ow]) ze1 ze2 zg1 zg2 z3 zr' N w'->Q .normal ⟨#[v0,v1,v2,v3,v4,v5,v6,v7,v8,v9,Z0,Z1,Value.pointer (some ⟨q,0,none⟩),Z2,Z3,Z4,Z5,Z6,Z7,Value.slice (some ⟨g5,0,none⟩) (whose.length+1) c5,Z9,ZA,ZB,Value.int .i64 ow,ZC,Value.pointer (some ⟨p,0,none⟩),ZD,ZE,ZF,ZG,ZH,ZI,ZJ,ZK,ZL,ZM,ZN,ZO,ZP,ZQ,ZR,ZS,ZT,ZU,ZV,ZW,ZX,ZY,ZZ,Za,Zb,Zc,Zd,Ze,Zf,Zg,Zh,Zi,Zj,Zk,Zl,Zm,Zn,Zo,Zp,Zq,Zr,Zs,Zt,Zu,Zv,Zw,Zx,Zy,Zz,Y0,Y1,Y2,Y3,Y4,Y5,Y6,Y7,Y8,Y9,YA,YB,YC,YD,YE,YF,YG,YH,YI,YJ,YK,YL,YM,YN,YO,YP,YQ,YR,YS,YT,YU,YV,YW,YX,YY,YZ,Ya,Yb,Yc,Yd,Ye,Yf,Yg,Yh,Yi,Yj,Yk,Yl,Ym,Yn,Yo,Yp,Yq,Yr,Ys,Yt,Yu,Yv,Yw,Yx,Yy,Yz,X0,X1,X2,X3,X4,X5,X6,X7,X8,X9,XA,XB,XC,XD,XE,XF,XG,XH,XI,XJ,XK,XL,XM,XN,XO,XP,XQ,XR,XS,XT,XU,XV,XW,XX,XY,XZ,Xa,Xb,Xc,Xd,Xe,Xf,Xg,Xh,Xi,Xj,Xk,Xl,Xm,Xn,Xo,Xp,Xq,Xr,Xs,Xt,Xu,Xv,Xw,Xx,Xy,Xz,K0,K1,K2,K3,K4,K5,K6,K7,K8,K9,KA,KB,KC,KD,KE,KF,KG,KH,KI,KJ,KK,KL,KM,KN,KO,KP,KQ,KR,KS,KT,KU,KV,KW,KX,KY,KZ,Ka,Kb,Kc,Kd,Ke,Kf,Kg,Kh,Ki,Kj,Kk,Kl,Km,Kn,Ko,Kp,Kq,Kr,Ks,Kt,Ku,Kv,Kw,Kx,Ky,Kz,J0,J1,J2,J3,J4,J5,J6,J7,J8,J9,JA,JB,JC,JD,JE,JF,JG,JH,JI,JJ,JK,JL,JM,JN,JO,JP,JQ,JR,JS,JT,JU,JV,JW,JX,JY,JZ,Ja,Jb,Jc,Jd,Je,Jf,Jg,Jh,Ji,Jj,Jk,Jl,Jm,Jn,Jo,Jp,Jq,Jr,Js,Jt,Ju,Jv,Jw,Jx,Jy,Jz,G0,G1,G2,G3,G4,G5,G6,G7,G8,G9,GA,GB,GC,GD,GE,GF,GG,GH,GI,GJ,GK,GL,GM,GN,GO,GP,GQ,GR,GS,GT,GU,GV,GW,GX,GY,GZ,Ga,Gb,Gc,Gd,Ge,Gf,Gg,Gh,Gi,Gj,Gk,Gl,Gm,Gn,Gp,Gq,Gr,Gs,Gt,Gu,Gv,Gw,Gx,Gy,Gz,F0,F1,F2,FH,FI,FJ,FK,FL,FM,FN,FO,FP,FQ,FD,FE,FF,FG],[]⟩ w'
theorem sw_rest (w w1 W:World) (H q p m9 nm m3 m7 z3 zr N:Nat) (t ow:Int) (vm vk vh vd vE vG:Value) (ds:List De) (d:De) (gs:List (List Int)) (dh whose:List Int) {v0 v1 v2 v3 v4 v5 v6 v7 v8 v9 mn kE mq mA nt mf kG mw k8 mB me kh ka mb kH nu mo mv ng kF mr nv mz ky nr mC mH na kz m1 n1 kx kb ki kA ni m5 nb nw ms kq kj mj kp mg m0 n8 nx mu m6 kC mt kw kg mE np n4 ke mx mG kD kn nq kB ko m8 mi kt n6 kd n3 n9 n7 m2 n2 ns nf my mD mF ma ku m4 mh ny nj kr h2 b7 c6 fq g2 hw gh b6 j6 bC ii k5 h8 bD jo jb jm g6 jd hE cz k6 dk cf cr dz gk bj ju gE bh fa ix iD k3 ja dA i5 hn ce g1 im a5 fb ha a6 gA j4 ca c8 da jj gw gG gv fv a4 gy cg bE bt fH jx h9 ai bs k0 b9 di jp bF gC ad cC j7 bA dq f8 hA ak ah ao c0 dG g7 gj aB jG i7 iy fc cD i1 h7 gm iu iA aA io fB du je gH ig jy fw bG fy ar f7 cE dg bi ct ge cj ac cx ji az f2 cv dH i8 b8 j0 ga fi dB dr ag j8 i3 f5 he cG ib h6 co f1 fp bq j2 jf b4 j1 ff aD gc aa cn jv bw cH ik aF jB iB ih ba aj jC ay iG hf ij cB jH jt i6 dy iH bp hG f9 hu gp jD dC jh iE gt j5 a8 g8 fE hF iv g9 c7 hH hj g3 fe aH fF cy jn h4 cF jF fg ft gx k1 it cA bn ie i2 af dD aq b0 c9 iw k4 aC j9 hq i9 jA fj jr ae jg dn be fo jw cw gu j3 hy dx ho ht cu k2 gd bm dd gF bf jz fA hh bz cb gD an b5 gB iq av jk a9 br h3 fC bv iF jc aG aw cc bu i4 iz ax h5 i0 hr dw ia fG jq f6 g0 ip ir fx dj hx ic cp fd bo dF jE h0 b3 a7 iC bB cq am aE fh js fD:Value} (Q:Exit->Act->World->Prop)
 (HD:Q9 (RD w w1 H q t vm vk vh vd vd ds vE gs vG dh k8 whose m9 nm m3 m7 z3 zr N p d W)) (nA:ds.length<4294967296) (nz:whose.length<4294967296)
 (HQ:RgQ w w1 H q p m9 nm m3 m7 z3 N t ow vm vk vh vE vG ds d gs dh whose v0 v1 v2 v3 v4 v5 v6 v7 v8 v9 mn kE mq mA nt mf kG mw k8 mB me kh ka mb kH nu mo mv ng kF mr nv mz ky nr mC mH na kz m1 n1 kx kb ki kA ni m5 nb nw ms kq kj mj kp mg m0 n8 nx mu m6 kC mt kw kg mE np n4 ke mx mG kD kn nq kB ko m8 mi kt n6 kd n3 n9 n7 m2 n2 ns nf my mD mF ma ku m4 mh ny nj kr h2 b7 c6 fq g2 hw gh b6 j6 bC ii k5 h8 bD jo jb jm g6 jd hE cz k6 dk cf cr dz gk bj ju gE bh fa ix iD k3 ja dA i5 hn ce g1 im a5 fb ha a6 gA j4 ca c8 da jj gw gG gv fv a4 gy cg bE bt fH jx h9 ai bs k0 b9 di jp bF gC ad cC j7 bA dq f8 hA ak ah ao c0 dG g7 gj aB jG i7 iy fc cD i1 h7 gm iu iA aA io fB du je gH ig jy fw bG fy ar f7 cE dg bi ct ge cj ac cx ji az f2 cv dH i8 b8 j0 ga fi dB dr ag j8 i3 f5 he cG ib h6 co f1 fp bq j2 jf b4 j1 ff aD gc aa cn jv bw cH ik aF jB iB ih ba aj jC ay iG hf ij cB jH jt i6 dy iH bp hG f9 hu gp jD dC jh iE gt j5 a8 g8 fE hF iv g9 c7 hH hj g3 fe aH fF cy jn h4 cF jF fg ft gx k1 it cA bn ie i2 af dD aq b0 c9 iw k4 aC j9 hq i9 jA fj jr ae jg dn be fo jw cw gu j3 hy dx ho ht cu k2 gd bm dd gF bf jz fA hh bz cb gD an b5 gB iq av jk a9 br h3 fC bv iF jc aG aw cc bu i4 iz ax h5 i0 hr dw ia fG jq f6 g0 ip ir fx dj hx ic cp fd bo dF jE h0 b3 a7 iC bB cq am aE fh js fD Q) :
 Code.wp Tryz.prog rgCode45 Q ⟨#[v0,v1,v2,v3,v4,v5,v6,v7,v8,v9,mn,kE,Value.pointer (some ⟨q,0,none⟩),mq,mA,nt,mf,kG,mw,k8,mB,me,kh,Value.int .i64 ow,ka,Value.pointer (some ⟨p,0,none⟩),mb,kH,nu,mo,mv,ng,kF,mr,nv,mz,ky,nr,mC,mH,na,kz,m1,n1,kx,kb,ki,kA,ni,m5,nb,nw,ms,kq,kj,mj,kp,mg,m0,n8,nx,mu,m6,kC,mt,kw,kg,mE,np,n4,ke,mx,mG,kD,kn,nq,kB,ko,m8,mi,kt,n6,kd,n3,n9,n7,m2,n2,ns,nf,my,mD,mF,ma,ku,m4,mh,ny,nj,kr,h2,b7,c6,fq,g2,hw,gh,b6,j6,bC,ii,k5,h8,bD,jo,jb,jm,g6,jd,hE,cz,k6,dk,cf,cr,dz,gk,bj,ju,gE,bh,fa,ix,iD,k3,ja,dA,i5,hn,ce,g1,im,a5,fb,ha,a6,gA,j4,ca,c8,da,jj,gw,gG,gv,fv,a4,gy,cg,bE,bt,fH,jx,h9,ai,bs,k0,b9,di,jp,bF,gC,ad,cC,j7,bA,dq,f8,hA,ak,ah,ao,c0,dG,g7,gj,aB,jG,i7,iy,fc,cD,i1,h7,gm,iu,iA,aA,io,fB,du,je,gH,ig,jy,fw,bG,fy,ar,f7,cE,dg,bi,ct,ge,cj,ac,cx,ji,az,f2,cv,dH,i8,b8,j0,ga,fi,dB,dr,ag,j8,i3,f5,he,cG,ib,h6,co,f1,fp,bq,j2,jf,b4,j1,ff,aD,gc,aa,cn,jv,bw,cH,ik,aF,jB,iB,ih,ba,aj,jC,ay,iG,hf,ij,cB,jH,jt,i6,dy,iH,bp,hG,f9,hu,gp,jD,dC,jh,iE,gt,j5,a8,g8,fE,hF,iv,g9,c7,hH,hj,g3,fe,aH,fF,cy,jn,h4,cF,jF,fg,ft,gx,k1,it,cA,bn,ie,i2,af,dD,aq,b0,c9,iw,k4,aC,j9,hq,i9,jA,fj,jr,ae,jg,dn,be,fo,jw,cw,gu,j3,hy,dx,ho,ht,cu,k2,gd,bm,dd,gF,bf,jz,fA,hh,bz,cb,gD,an,b5,gB,iq,av,jk,a9,br,h3,fC,bv,iF,jc,aG,aw,cc,bu,i4,iz,ax,h5,i0,hr,dw,ia,fG,jq,f6,g0,ip,ir,fx,dj,hx,ic,cp,fd,bo,dF,jE,h0,b3,a7,iC,bB,cq,am,aE,fh,js,fD],[]⟩ W:=by
 conv=>arg 2;whnf
 obtain⟨x0,x1,x2,x3,x4⟩:=blk5 HD.o.td.box;obtain⟨d0,d1,d2,d3,d4,d5,d6,d7,d8,d9,o2,nF⟩:=blkD HD.o.bx;have o4:z3<=W.heap.size:=by have:=HD.o.td.zz;omega
 go_wp2_with (first
  | (at_builtin;refine j7t j9q rfl (.tmp 388) (.tmp 390) rfl z3 vd ds d _ W.heap.size rfl rfl (heap_alloc_new W _) rfl rfl (j7r _) (HD.o.td.d.alloc _) nA (by decide) ?_ ?_;(simp;omega);intro g4 c4 w4 a1 a3 nC;have k7:=(HD.o.td.alloc _).appD a3 a1;obtain⟨y0,y1,y2,y3,y4⟩:=blk5 k7.box;have o1:z3<=w4.heap.size:=(by have:=k7.zz;omega);have H4:=zQ9 (zA9 a1 (zA9 a3 k7));clear a1 a3 nC k7)
  | (at_builtin;refine j7t j3b rfl (.tmp 392) (.tmp 394) rfl z3 _ whose ow _ w4.heap.size rfl rfl (heap_alloc_new w4 _) rfl rfl (j1x _) (H4.o.2.2.o.alloc _) nz (by decide) ?_ ?_;(simp;omega);intro g5 c5 w5 a0 a2 nB;have k9:=(H4.o.2.2.alloc _).appO a2 a0;obtain⟨nG,nE,nD,o3,nH⟩:=blk5 k9.box;have o0:=frz k9.box 4;have H5:=zQ9 (zA9 a0 a2);clear a0 a2 nB k9))
 refine HQ g4 c4 g5 c5 w5.heap.size _ _ _ _ _ _ _ _ _ _ _ ?_;exact q5x HD.o H4.o.2.1 H4.o.1 H5.o.2 H5.o.1
end Go.Proofs.YtmennjmjakdkcaaGreat
