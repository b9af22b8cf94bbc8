/- HerdParts. -/
import Derived.Laws.BitsLemmas
import Derived.Laws.BitsAllLaws
import Derived.Test.YtmennjmjakdkcaaGreatProg
import Derived.Test.YtmennjmjakdkcaaGreatChecked
import Derived.WalkKit
import Derived.ProofKit
import Derived.OpenShut
import Derived.OneCell
import Derived.WalkSpells
import Derived.WalkLawsBesides
import Derived.Deep.AppendLies
import Derived.Deep.Draws
import Derived.Deep.LoopGhost
import Derived.Deep.DeepCutAuto
import Derived.Deep.Light
import Derived.Deep.RegionWith
import Derived.Deep.QuietTactic
import Derived.BigQuiet
import Derived.Lib.Hide
import Derived.Lib.QuietBelow
import Derived.IntWalk
import Derived.Outline
set_option linter.unusedVariables false
set_option linter.unusedSimpArgs false
namespace Go.Proofs.YtmennjmjakdkcaaGreat
theorem zA9 {a b:Prop} (x:a) (y:b):a∧b:=⟨x,y⟩
structure Q9 (p:Prop):Prop where
 o:p
theorem zQ9 {a:Prop} (x:a):Q9 a:=⟨x⟩
theorem Q9.out {a:Prop} (x:Q9 a):a:=x.o
theorem zL9 (n:Nat):n<=n:=Nat.le_refl n
theorem nl9 {α:Type}:(∀ t:List α,[]++t=t)∧(∀ (a:α) (s t:List α),(a::s)++t=a::(s++t)):=⟨fun _=>rfl,fun _ _ _=>rfl⟩
theorem zB1 (w:World) (a:Addr) (u:Value) (k:Nat) (h:k≠a.block):(w.setCell a u).heap[k]?=w.heap[k]?:=Go.RowKit.Below.heap_setCell w a u k h
theorem zB2 (B:Nat) (w:World):Go.RowKit.Below B w w:=Go.RowKit.Below.refl B w
theorem zB3 {α:Type} {l:List α} {i:Nat} {a:α}:l.getD i a=l[i]?.getD a:=List.getD_eq_getElem?_getD
theorem zB4 {α:Type} {l:List α} {i:Nat} {a:α} (h:l[i]?=some a):a∈l:=List.mem_of_getElem? h
theorem zB5 {α:Type} {l:List α} {i:Nat} (h:i<l.length):l[i]?=some l[i]:=List.getElem?_eq_getElem h
theorem zB6 {a b c:Nat} (h:a<=b) (k:b<=c):a<=c:=Nat.le_trans h k
theorem zB7 {a:Int} (h:0<=a):∃ n:Nat,a=n:=Int.eq_ofNat_of_zero_le h
theorem zB8 {α:Type} {i:Nat} {l:List α} (h:l.length<=i):l.take i=l:=List.take_of_length_le h
theorem zC1 {α:Type} {l:List α} (h:l.length=0):l=[]:=List.eq_nil_of_length_eq_zero h
theorem zC2 {α:Sort _} {p:α->Prop} (w:α) (h:p w):∃ x,p x:=⟨w,h⟩
structure Mk where
 n:Int
 b:Int
 p:Int
 deriving DecidableEq
structure Sg where
 n:Int
 l:Bool
 r:Bool
 b:Int
 p:Int
 deriving DecidableEq
def btw (n lo hi:Int):Bool:=decide (lo<=n)&&decide (n<=hi)
theorem j0o {n lo hi:Int}:btw n lo hi=true↔lo<=n∧n<=hi:=by simp[btw]
theorem j9m {n lo hi:Int}:btw n lo hi=false↔¬(lo<=n∧n<=hi):=by
 rw[<-Bool.not_eq_true,j0o]
def bit (n:Int) (i:Nat):Bool:=n.toNat.testBit i
def j1q (l r:Bool) (i:Nat):Bool:=(decide (i<4)&&l) || (decide (4<=i)&&r)
def cnt (p:Nat->Bool):Nat:=(List.range 8).countP p
theorem q4e {p q:Nat->Bool} (h:∀ i,i<8->p i=q i):cnt p=cnt q :=
 List.countP_congr fun i hi=>by rw[h i (by simpa using hi)]
def j7q (l r:Bool):Nat:=(if l then 0 else 15)+(if r then 0 else 240)
def onI (n:Int) (l r:Bool):Int:=((n.toNat &&& j7q l r:Nat):Int)
def butI (n m:Int):Int:=((n.toNat &&& (255-m.toNat):Nat):Int)
def orI (n m:Int):Int:=((n.toNat ||| m.toNat:Nat):Int)
def popI (n:Int):Nat:=cnt (bit n)
theorem k6d {n i:Nat} (h:n<256) (hi:8<=i):n.testBit i=false :=
 Nat.testBit_lt_two_pow (Nat.lt_of_lt_of_le h (Nat.pow_le_pow_right (n:=2) (by decide) hi))
theorem mask_bit (l r:Bool) (i:Nat) (hi:i<8):(j7q l r).testBit i=!j1q l r i:=by
 have:∀ l r:Bool,∀ i:Fin 8,(j7q l r).testBit i.1=!j1q l r i.1:=by decide
 exact this l r ⟨i,hi⟩
theorem j5x (n:Int) (l r:Bool):0<=onI n l r:=by unfold onI;omega
theorem j3v (n:Int) (l r:Bool):onI n l r<=255:=by
 have h:n.toNat &&& j7q l r<=j7q l r:=Nat.and_le_right;have h2:∀ l r:Bool,j7q l r<=255:=by decide
 have h3:=h2 l r;unfold onI;omega
theorem j5g (n m:Int):0<=butI n m:=by unfold butI;omega
theorem j5f (n m:Int):butI n m<=255:=by
 have h:n.toNat &&& (255-m.toNat)<=255-m.toNat:=Nat.and_le_right;unfold butI;omega
theorem orI_lo (n m:Int):0<=orI n m:=by unfold orI;omega
theorem orI_hi {n m:Int} (hn:n<=255) (hm:m<=255):orI n m<=255:=by
 have h:n.toNat ||| m.toNat<2 ^ 8:=Nat.or_lt_two_pow (by omega) (by omega)
 unfold orI;omega
theorem j2s (n:Int) (l r:Bool) (i:Nat) (hi:i<8):bit (onI n l r) i=(bit n i&&!j1q l r i):=by
 unfold bit onI;rw[Int.toNat_natCast,Nat.testBit_and,mask_bit l r i hi]
theorem j4o (n m:Int) (hm:m<=255) (i:Nat) (hi:i<8):bit (butI n m) i=(bit n i&&!bit m i):=by
 unfold bit butI;rw[Int.toNat_natCast,Nat.testBit_and];have h:255-m.toNat=2 ^ 8-(m.toNat+1):=by omega
 rw[h,Nat.testBit_two_pow_sub_succ (by omega)]
 simp[hi]
theorem bit_or (n m:Int) (i:Nat):bit (orI n m) i=(bit n i || bit m i):=by
 unfold bit orI;rw[Int.toNat_natCast,Nat.testBit_or]
theorem j5b {n m:Int} (hn:0<=n) (a1:n<=255) (hm:0<=m) (a0:m<=255) (h:∀ i,i<8->bit n i=bit m i):n=m:=by
 have:n.toNat=m.toNat:=by
  apply Nat.eq_of_testBit_eq;intro i;by_cases hi:i<8
  ·exact h i hi
  ·rw[k6d (by omega) (by omega),k6d (by omega) (by omega)]
 omega
theorem k8i (i:Nat):bit 0 i=false:=by simp[bit]
theorem k2q {n:Int} (hn:0<=n) (a0:n<=255):n=0↔∀ i,i<8->bit n i=false:=by
 refine⟨fun h i _=>by rw[h,k8i],fun h=>j5b hn a0 (by omega) (by omega) fun i hi=>by rw[h i hi,k8i]⟩
def wb (s i:Nat):Bool:=s.testBit i
theorem k9n {n m:Nat} (hn:n<256) (hm:m<256):n &&& (18446744073709551615-m)=n &&& (255-m):=by
 apply Nat.eq_of_testBit_eq;intro i;have h1:18446744073709551615-m=2 ^ 64-(m+1):=by omega
 have h2:255-m=2 ^ 8-(m+1):=by omega
 rw[Nat.testBit_and,Nat.testBit_and,h1,h2,Nat.testBit_two_pow_sub_succ (by omega),Nat.testBit_two_pow_sub_succ (by omega)]
 by_cases hi:i<8
 ·simp[hi,show i<64 by omega]
 ·rw[k6d hn (by omega)];simp
theorem j3g (a b:Int) (ha:0<=a) (a0:a<=255) (hb:0<=b) (a1:b<=255):bits .andNot .i64 a b=butI a b:=by
 obtain⟨x,rfl⟩:=zB7 ha;obtain⟨y,rfl⟩:=zB7 hb;show IntKind.i64.wrap ((BitVec.ofInt 64 (x:Int) &&& ~~~ BitVec.ofInt 64 (y:Int)).toNat:Int)=_;have h1:(BitVec.ofInt 64 (x:Int)).toNat=x:=ofInt_u64 x (by omega)
 have h2:(BitVec.ofInt 64 (y:Int)).toNat=y:=ofInt_u64 y (by omega)
 rw[BitVec.toNat_and,BitVec.toNat_not,h1,h2,IntKind.wrap_i64];have h3:(2 ^ 64-1-y)=18446744073709551615-y:=by omega
 rw[h3,k9n (by omega) (by omega)]
 have h4:x &&& (255-y)<=x:=Nat.and_le_left;unfold butI;simp only[Int.toNat_natCast];omega
theorem bits_or (a b:Int) (ha:0<=a) (a0:a<=255) (hb:0<=b) (a1:b<=255):bits .or .i64 a b=orI a b:=by
 obtain⟨x,rfl⟩:=zB7 ha;obtain⟨y,rfl⟩:=zB7 hb;show IntKind.i64.wrap ((BitVec.ofInt 64 (x:Int) ||| BitVec.ofInt 64 (y:Int)).toNat:Int)=_
 have h1:(BitVec.ofInt 64 (x:Int)).toNat=x:=ofInt_u64 x (by omega)
 have h2:(BitVec.ofInt 64 (y:Int)).toNat=y:=ofInt_u64 y (by omega)
 rw[BitVec.toNat_or,h1,h2,IntKind.wrap_i64];have h4:x ||| y<2 ^ 8:=Nat.or_lt_two_pow (by omega) (by omega)
 unfold orI;simp only[Int.toNat_natCast];omega
theorem onI_ff (n:Int) (h0:0<=n) (h:n<=255):onI n false false=n :=
 j5b (j5x _ _ _) (j3v _ _ _) h0 h fun i hi=>by rw[j2s _ _ _ _ hi];simp[j1q]
theorem onI_tf (n:Int) (h0:0<=n) (h:n<=255):onI n true false=butI n 15 :=
 j5b (j5x _ _ _) (j3v _ _ _) (j5g _ _) (j5f _ _) fun i hi=>by
  rw[j2s _ _ _ _ hi,j4o _ _ (by omega) _ hi]
  have:∀ i:Fin 8,j1q true false i.1=bit 15 i.1:=by decide
  rw[this ⟨i,hi⟩]
theorem onI_ft (n:Int) (h0:0<=n) (h:n<=255):onI n false true=butI n 240 :=
 j5b (j5x _ _ _) (j3v _ _ _) (j5g _ _) (j5f _ _) fun i hi=>by
  rw[j2s _ _ _ _ hi,j4o _ _ (by omega) _ hi]
  have:∀ i:Fin 8,j1q false true i.1=bit 240 i.1:=by decide
  rw[this ⟨i,hi⟩]
theorem onI_tt (n:Int) (h0:0<=n) (h:n<=255):onI n true true=butI (butI n 15) 240 :=
 j5b (j5x _ _ _) (j3v _ _ _) (j5g _ _) (j5f _ _) fun i hi=>by
  rw[j2s _ _ _ _ hi,j4o _ _ (by omega) _ hi,j4o _ _ (by omega) _ hi]
  have:∀ i:Fin 8,∀ x:Bool,(x&&!j1q true true i.1)=(x&&!bit 15 i.1&&!bit 240 i.1):=by decide
  exact this ⟨i,hi⟩ _
def mkOk (m:Mk):Bool:=btw m.n 0 255&&(btw m.b 0 9&&btw m.p 0 6)
def chk (l:List Mk):Nat->Nat->Int
 | 0,_=>0
 | j+1,k=>match l[k]? with
   | none=>0
   | some m=>if mkOk m=false then 1 else if (l.take k).contains m then 4 else chk l j (k+1)
def check (t:Int) (l:List Mk):Int:=if btw t 0 2=false then 1 else if 5<l.length then 6 else chk l l.length 0
def seen (s:Sg) (b p:Int):Int :=
 if btw s.n 0 255=false then 1 else if onI s.n s.l s.r≠s.n then 8
 else if s.b≠-1∧btw s.b 0 b=false then 1 else if s.p≠-1∧btw s.p 0 p=false then 1 else 0
def j3w (s:Sg) (m:Mk):Bool:=(decide (s.b=-1) || decide (s.b=m.b))&&(decide (s.p=-1) || decide (s.p=m.p))
def fits (s:Sg) (m:Mk) (t:Int):Bool :=
 j3w s m &&
 decide (butI (onI m.n s.l s.r) s.n=0)&&decide ((popI (butI s.n (onI m.n s.l s.r)):Int)<=t)
def j3y (t:Int) (l:List Mk) (s:Sg) (k:Nat):List Int:=((List.range k).filter fun i=>(l[i]?).any fun m=>fits s m t).map Int.ofNat
def mayL (t:Int) (l:List Mk) (s:Sg):List Int:=j3y t l s l.length
theorem k4u {t:Int} {l:List Mk} {s:Sg} {k:Nat} {m:Mk} (hm:l[k]?=some m):j3y t l s (k+1)=j3y t l s k++if fits s m t then [(k:Int)] else []:=by
 unfold j3y;rw[List.range_succ,List.filter_append,List.map_append];congr 1;by_cases h:fits s m t<;>simp[List.filter_cons,hm,h]
theorem j8y (t:Int) (l:List Mk) (s:Sg) (k:Nat):(j3y t l s k).length<=k:=by
 unfold j3y;rw[List.length_map];have:=List.length_filter_le (fun i=>(l[i]?).any fun m=>fits s m t) (List.range k)
 simpa using this
def mayE (t:Int) (l:List Mk) (s:Sg):Int:=if check t l≠0 then check t l else seen s 9 6
def mayR (t:Int) (l:List Mk) (s:Sg):List Int:=if mayE t l s=0 then mayL t l s else []
theorem j6o {s:Sg} {b p:Int} (h:seen s b p=0):(0<=s.n∧s.n<=255)∧onI s.n s.l s.r=s.n∧(s.b=-1∨0<=s.b∧s.b<=b)∧(s.p=-1∨0<=s.p∧s.p<=p):=by
 unfold seen at h
 split at h
 ·cases h
 ·split at h
  ·cases h
  ·split at h
   ·cases h
   ·split at h
    ·cases h
    ·rename_i h1 h2 h3 h4;rw[Bool.not_eq_false,j0o] at h1;refine⟨h1,Classical.not_not.1 h2,?_,?_⟩
     ·by_cases hb:s.b=-1
      ·exact .inl hb
      ·right;rw[<-j0o];cases hc:btw s.b 0 b
       ·exact absurd ⟨hb,hc⟩ h3
       ·rfl
     ·by_cases hb:s.p=-1
      ·exact .inl hb
      ·right;rw[<-j0o];cases hc:btw s.p 0 p
       ·exact absurd ⟨hb,hc⟩ h4
       ·rfl
theorem j2d {t:Int} {l:List Mk} (h:check t l=0):0<=t∧t<=2∧l.length<=5∧chk l l.length 0=0:=by
 unfold check at h
 split at h
 ·cases h
 ·split at h
  ·cases h
  ·rename_i h1 h2;rw[Bool.not_eq_false,j0o] at h1;exact⟨h1.1,h1.2,by omega,h⟩
theorem chk_ok {l:List Mk}:∀ {j k:Nat},k+j=l.length->chk l j k=0->∀ i m,k<=i->l[i]?=some m->mkOk m=true∧(l.take i).contains m=false
 | 0,k,hk,_,i,m,hi,hm=>by
   have:=(List.getElem?_eq_some_iff.1 hm).1;omega
 | j+1,k,hk,h,i,m,hi,hm=>by
   have a1:k<l.length:=by omega
   unfold chk at h;rw[zB5 a1] at h;simp only at h
   split at h
   ·cases h
   ·split at h
    ·cases h
    ·rename_i h1 h2;rcases Nat.lt_or_ge k i with a0|a2
     ·exact chk_ok (by omega) h i m a0 hm
     ·obtain rfl:i=k:=by omega
      rw[zB5 a1] at hm;cases hm;exact⟨by simpa using h1,by simpa using h2⟩
theorem k9m {m:Mk}:mkOk m=true↔(0<=m.n∧m.n<=255)∧(0<=m.b∧m.b<=9)∧0<=m.p∧m.p<=6:=by
 simp[mkOk,j0o,Bool.and_eq_true]
theorem j3h {t:Int} {l:List Mk} (h:check t l=0):∀ m∈l,(0<=m.n∧m.n<=255)∧(0<=m.b∧m.b<=9)∧0<=m.p∧m.p<=6:=by
 intro m hm;obtain⟨i,hi⟩:=List.getElem?_of_mem hm;exact k9m.1 (chk_ok (by omega) (j2d h).2.2.2 i m (Nat.zero_le _) hi).1
end Go.Proofs.YtmennjmjakdkcaaGreat
namespace Go.Proofs.YtmennjmjakdkcaaGreat
open Go.RowKit
theorem j2c {w:World} {a:Addr} {v:Value} (h:w.cell? a=some v):a.block<w.heap.size:=by
 unfold World.cell? at h;rcases Nat.lt_or_ge a.block w.heap.size with h'|h'
 ·exact h'
 ·rw[Array.getElem?_eq_none h'] at h;cases h
theorem j0a {w:World} {b:Nat} {o:Obj} (h:w.heap[b]?=some o):b<w.heap.size:=(Array.getElem?_eq_some_iff.1 h).1
theorem j0u {w w':World} {B:Nat} {a:Addr} {v:Value} (h:w.cell? a=some v) (hb:Below B w w') (hB:w.heap.size<=B):w'.cell? a=some v :=
 (hb.cell (Nat.lt_of_lt_of_le (j2c h) hB)).trans h
theorem j0e {w w':World} {B:Nat} {b:Nat} {o:Obj} (h:w.heap[b]?=some o) (hb:Below B w w') (hB:w.heap.size<=B):w'.heap[b]?=some o :=
 (hb.block b (Nat.lt_of_lt_of_le (j0a h) hB)).trans h
def eInt (x:Int):List Value:=[.int .i64 x]
def eVal (x:Value):List Value:=[x]
def eMk (m:Mk):List Value:=[.int .i64 m.n,.int .i64 m.b,.int .i64 m.p]
def eSg (s:Sg):List Value:=[.int .i64 s.n,.bool s.l,.bool s.r,.int .i64 s.b,.int .i64 s.p]
def vMk (m:Mk):Value:=.agg #[.int .i64 m.n,.int .i64 m.b,.int .i64 m.p]
def vSg (s:Sg):Value:=.agg #[.int .i64 s.n,.bool s.l,.bool s.r,.int .i64 s.b,.int .i64 s.p]
def Sl {α:Type} (enc:α->List Value) (sz:Nat) (w:World) (A:Option Addr) (n:Nat) (l:List α):Prop :=
 l.length=n∧(0<n->∃ b off,A=some ⟨b,off,none⟩∧∀ (i:Nat) x,l[i]?=some x->∀ (j:Nat) u,(enc x)[j]?=some u->w.cell? ⟨b,off+i*sz+j,none⟩=some u)
section
variable {α:Type} {enc:α->List Value} {sz:Nat} {w w':World} {A:Option Addr} {n:Nat} {l:List α}
theorem Sl.len (h:Sl enc sz w A n l):l.length=n:=h.1
theorem Sl.nil_:Sl enc sz w A 0 []:=⟨rfl,fun h=>absurd h (by omega)⟩
theorem Sl.keep (h:Sl enc sz w A n l) (hk:∀ p u,w.cell? p=some u->w'.cell? p=some u):Sl enc sz w' A n l :=
 ⟨h.1,fun hn=>by
  obtain⟨b,off,hA,hc⟩:=h.2 hn;exact⟨b,off,hA,fun i x hx j u hu=>hk _ _ (hc i x hx j u hu)⟩⟩
theorem Sl.below {B:Nat} (h:Sl enc sz w A n l) (hb:Below B w w') (hB:w.heap.size<=B):Sl enc sz w' A n l :=
 h.keep fun _ _ hc=>j0u hc hb hB
theorem Sl.alloc (h:Sl enc sz w A n l) (o:Obj):Sl enc sz (w.alloc o) A n l :=
 h.below ((zB2 w.heap.size w).alloc (zL9 _) o) (zL9 _)
theorem Sl.drewN (h:Sl enc sz w A n l) (k:Nat):Sl enc sz (w.drewN k) A n l:=h
theorem Sl.drew (h:Sl enc sz w A n l):Sl enc sz w.drew A n l:=h
theorem Sl.at_ (h:Sl enc sz w A n l) {k:Nat} (hk:k<n) :
 ∃ b off x,A=some ⟨b,off,none⟩∧l[k]?=some x∧∀ (j:Nat) u,(enc x)[j]?=some u->w.cell? ⟨b,off+k*sz+j,none⟩=some u:=by
 obtain⟨b,off,hA,hc⟩:=h.2 (by omega)
 have hm:l[k]?=some (l[k]'(by have:=h.1;omega)):=zB5 (by have:=h.1;omega)
 exact⟨b,off,_,hA,hm,hc k _ hm⟩
theorem Sl.of_own {base:Nat} {e:TypeId} {c:Nat} (a0:∀ x∈l,(enc x).length=sz) (h:w.ownsRow base e sz (.slice A n c) n (l.flatMap enc)) (hl:l.length=n):Sl enc sz w A n l:=by
 refine⟨hl,fun hn=>?_⟩
 obtain⟨g,cap,hv,_,_⟩:=h.form hn;have hA:A=some ⟨g,0,none⟩:=by injection hv
 subst hA;refine⟨g,0,rfl,fun i x hx j u hu=>?_⟩
 have hc:=h.cells (g:=g) rfl (i*sz+j) u ?_
 ·rw[show(0:Nat)+i*sz+j=i*sz+j by omega]
  simpa[Addr.add_lit] using hc
 ·clear hn h hv hl
  induction l generalizing i with
  | nil=>simp at hx
  | cons y r ih =>
    have hy:=a0 y (by simp)
    have hj:j<sz:=by
     have h1:=a0 x (zB4 hx);have:=(List.getElem?_eq_some_iff.1 hu).1;omega
    rw[List.flatMap_cons];cases i with
    | zero =>
      simp at hx;subst hx;rw[List.getElem?_append_left (by rw[hy];omega)]
      simpa using hu
    | succ i =>
      rw[List.getElem?_append_right (by rw[hy,Nat.succ_mul];omega),hy]
      have:=ih (fun z hz=>a0 z (by simp[hz])) i (by simpa using hx)
      rw[show(i+1)*sz+j-sz=i*sz+j by rw[Nat.succ_mul];omega]
      exact this
end
theorem j0n (x:Int):(eInt x).length=1:=rfl
theorem j2t (x:Value):(eVal x).length=1:=rfl
theorem j2h (x:Mk):(eMk x).length=3:=rfl
theorem j8w (x:Sg):(eSg x).length=5:=rfl
abbrev Ints (w:World) (A:Option Addr) (n:Nat) (l:List Int):Prop:=Sl eInt 1 w A n l
abbrev Marks (w:World) (A:Option Addr) (n:Nat) (l:List Mk):Prop:=Sl eMk 3 w A n l
abbrev Sights (w:World) (A:Option Addr) (n:Nat) (l:List Sg):Prop:=Sl eSg 5 w A n l
theorem Ints.get {w:World} {A:Option Addr} {n:Nat} {l:List Int} (h:Ints w A n l) {k:Nat} (hk:k<n) :
 ∃ b off x,A=some ⟨b,off,none⟩∧b<w.heap.size∧l[k]?=some x∧w.cell? ⟨b,off+k,none⟩=some (.int .i64 x):=by
 obtain⟨b,off,x,hA,hx,hc⟩:=h.at_ hk;have h0:=hc 0 _ rfl;rw[Nat.mul_one,Nat.add_zero] at h0;exact⟨b,off,x,hA,j2c h0,hx,h0⟩
theorem Vals.get {w:World} {A:Option Addr} {n:Nat} {l:List Value} (h:Sl eVal 1 w A n l) {k:Nat} (hk:k<n) :
 ∃ b off x,A=some ⟨b,off,none⟩∧b<w.heap.size∧l[k]?=some x∧w.cell? ⟨b,off+k,none⟩=some x:=by
 obtain⟨b,off,x,hA,hx,hc⟩:=h.at_ hk;have h0:=hc 0 _ rfl;rw[Nat.mul_one,Nat.add_zero] at h0;exact⟨b,off,x,hA,j2c h0,hx,h0⟩
theorem Marks.get {w:World} {A:Option Addr} {n:Nat} {l:List Mk} (h:Marks w A n l) {k:Nat} (hk:k<n) :
 ∃ b off m,A=some ⟨b,off,none⟩∧b<w.heap.size∧l[k]?=some m∧w.cell? ⟨b,off+k*3,none⟩=some (.int .i64 m.n) ∧
  w.cell? ⟨b,off+k*3+1,none⟩=some (.int .i64 m.b)∧w.cell? ⟨b,off+k*3+2,none⟩=some (.int .i64 m.p):=by
 obtain⟨b,off,x,hA,hx,hc⟩:=h.at_ hk;have h0:=hc 0 _ rfl;exact⟨b,off,x,hA,j2c h0,hx,h0,hc 1 _ rfl,hc 2 _ rfl⟩
theorem Sights.get {w:World} {A:Option Addr} {n:Nat} {l:List Sg} (h:Sights w A n l) {k:Nat} (hk:k<n) :
 ∃ b off s,A=some ⟨b,off,none⟩∧b<w.heap.size∧l[k]?=some s∧w.cell? ⟨b,off+k*5,none⟩=some (.int .i64 s.n) ∧
  w.cell? ⟨b,off+k*5+1,none⟩=some (.bool s.l)∧w.cell? ⟨b,off+k*5+2,none⟩=some (.bool s.r) ∧
  w.cell? ⟨b,off+k*5+3,none⟩=some (.int .i64 s.b)∧w.cell? ⟨b,off+k*5+4,none⟩=some (.int .i64 s.p):=by
 obtain⟨b,off,x,hA,hx,hc⟩:=h.at_ hk;have h0:=hc 0 _ rfl;exact⟨b,off,x,hA,j2c h0,hx,h0,hc 1 _ rfl,hc 2 _ rfl,hc 3 _ rfl,hc 4 _ rfl⟩
theorem bc {B:Nat} {W w1:World} (hb:Below B W w1):(∀ b o,b<B->w1.cell? ⟨b,o,none⟩=W.cell? ⟨b,o,none⟩)∧(∀ b o,b<B->w1.frozen? ⟨b,o,none⟩=W.frozen? ⟨b,o,none⟩) :=
 ⟨fun b o h=>hb.cell (p:=⟨b,o,none⟩) h,fun b o h=>hb.frozen (p:=⟨b,o,none⟩) h⟩
theorem blk1 {w:World} {b:Nat} {t:TypeId} {v0:Value} (h:w.heap[b]?=some (.cells #[v0] t (0,0))):w.cell? ⟨b,0,none⟩=some v0:=by simp[World.cell?,h]
theorem blk2 {w:World} {b:Nat} {t:TypeId} {v0 v1:Value} (h:w.heap[b]?=some (.cells #[v0,v1] t (0,0))):w.cell? ⟨b,0,none⟩=some v0∧w.cell? ⟨b,1,none⟩=some v1:=by simp[World.cell?,h]
theorem blk3 {w:World} {b:Nat} {t:TypeId} {v0 v1 v2:Value} (h:w.heap[b]?=some (.cells #[v0,v1,v2] t (0,0))) :
 w.cell? ⟨b,0,none⟩=some v0∧w.cell? ⟨b,1,none⟩=some v1∧w.cell? ⟨b,2,none⟩=some v2:=by simp[World.cell?,h]
theorem blk5 {w:World} {b:Nat} {t:TypeId} {v0 v1 v2 v3 v4:Value} (h:w.heap[b]?=some (.cells #[v0,v1,v2,v3,v4] t (0,0))) :
 w.cell? ⟨b,0,none⟩=some v0∧w.cell? ⟨b,1,none⟩=some v1∧w.cell? ⟨b,2,none⟩=some v2∧w.cell? ⟨b,3,none⟩=some v3∧w.cell? ⟨b,4,none⟩=some v4:=by simp[World.cell?,h]
theorem j0c {w:World} {o:Obj} {n:Nat} (h:n=w.heap.size):(w.alloc o).heap[n]?=some o:=by subst h;exact heap_alloc_new w o
theorem j0b {w:World} {b:Nat} {o:Obj} (h:w.heap[b]?=some o) (o':Obj):(w.alloc o').heap[b]?=some o:=(Below.heap_alloc w o' b (j0a h)).trans h
theorem k5a {P:Program} {f:FuncId} {args:Array Value} {w:World} {n:Nat} {v:Value}
 (h:Calls P f args (w.drewN n) fun e w'=>e=.returned v∧w.drewN n=w'):Calls P f args (w.drewN n) fun e w''=>e=.returned v∧∃ m,w''=w.drewN m :=
 h.mono fun _ _ ⟨he,hm⟩=>⟨he,n,hm.symm⟩
theorem j0k {B:Nat} {a w:World} (h:Below B a w) (n:Nat):Below B a (w.drewN n):=⟨h.os,h.tape,h.output,h.size,h.block⟩
theorem k9x {P:Program} {f:FuncId} {args:Array Value} {w:World} {d:Nat} {os:Array Obj} {v:Value}
 (h:Calls P f args (Sort.grow (redrawn w d) os) fun e w'=>e=.returned v∧Sort.grow (redrawn w d) os=w'):Calls P f args (Sort.grow (redrawn w d) os) fun e w''=>e=.returned v∧∃ p:Regrown,w''=Sort.grow (redrawn w p.d) p.os :=
 h.mono fun _ _ ⟨he,hm⟩=>⟨he,⟨d,os⟩,hm.symm⟩
theorem j0j {k:IntKind} {a b:Int} (h:a=b):Ending.returned (.int k a)=.returned (.int k b):=by rw[h]
theorem k5y {v:Value} {k:IntKind} {a b:Int} (h:a=b):Ending.returned (.tuple #[v,.int k a])=.returned (.tuple #[v,.int k b]):=by rw[h]
theorem j0s {a b:Bool} (h:a=b):Ending.returned (.bool a)=.returned (.bool b):=by rw[h]
def Own {α:Type} (enc:α->List Value) (e:TypeId) (sz:Nat) (w:World) (base:Nat) (v:Value) (l:List α):Prop :=
 w.ownsRow base e sz v l.length (l.flatMap enc)
section
variable {α:Type} {enc:α->List Value} {e:TypeId} {sz:Nat} {w w':World} {base:Nat} {v:Value} {l:List α}
theorem Own.nil_:Own enc e sz w base (.slice none 0 0) []:=World.ownsRow_nil _ _ _ _
theorem Own.kept {row:Option Nat} (h:Own enc e sz w base v l) (hg:w.grownBy w' row) (a0:v.ownBlock=none∨v.ownBlock≠row):Own enc e sz w' base v l:=World.ownsRow.kept h hg a0
theorem Own.below {B:Nat} (h:Own enc e sz w base v l) (hb:Below B w w') (hB:w.heap.size<=B):Own enc e sz w' base v l :=
 World.ownsRow.kept (row:=none) h ⟨hb.os,hb.tape,hb.output,hb.size,fun k hk _=>hb.block k (Nat.lt_of_lt_of_le hk hB)⟩ (by cases v.ownBlock<;>simp)
theorem Own.alloc (h:Own enc e sz w base v l) (o:Obj):Own enc e sz (w.alloc o) base v l:=World.ownsRow.alloc h o
theorem Own.mono {a0:Nat} (h:Own enc e sz w base v l) (hb:a0<=base):Own enc e sz w a0 v l:=by
 refine⟨h.1,?_⟩;rcases h.2 with h2|⟨g,cap,cur,hv,hg,r⟩
 ·exact .inl h2
 ·exact .inr ⟨g,cap,cur,hv,zB6 hb hg,r⟩
theorem Own.form (h:Own enc e sz w base v l) (a0:∀ x,(enc x).length=sz):∃ A c,v=.slice A l.length c∧Sl enc sz w A l.length l∧l.length<=c∧c<=maxLen:=by
 rcases h.2 with ⟨hv,h0⟩|⟨g,cap,cur,hv,hg,hh,a2,a1,r⟩
 ·have hl:l=[]:=zC1 h0;subst hl;exact⟨none,0,hv,Sl.nil_,zL9 _,Nat.zero_le _⟩
 ·subst hv;exact⟨_,cap,rfl,Sl.of_own (fun x _=>a0 x) h rfl,a2,a1⟩
theorem Own.lt (h:Own enc e sz w base v l):∀ k,v.ownBlock=some k->base<=k∧k<w.heap.size:=World.ownsRow.lt h
end
theorem Own.lit {α:Type} {enc:α->List Value} {e:TypeId} {sz:Nat} (w:World) (base:Nat) (cs:Array Value) (l:List α) (hcs:cs.toList=l.flatMap enc) (a1:∀ x,(enc x).length=sz) (hb:base<=w.heap.size) (hm:l.length<=maxLen) :
 Own enc e sz (w.alloc (.cells cs e)) base (.slice (some ⟨w.heap.size,0,none⟩) l.length l.length) l:=by
 have a0:(l.flatMap enc).length=l.length*sz:=by
  clear hcs hm
  induction l with
  | nil=>simp
  | cons x r ih=>rw[List.flatMap_cons,List.length_append,a1,ih,List.length_cons,Nat.succ_mul];omega
 have h:=World.ownsRow_lit (base:=base) (e:=e) (size:=sz) w cs l.length hb hm (by rw[<-Array.length_toList,hcs,a0])
 unfold Own;rw[<-hcs];exact h
theorem Sl.lit {α:Type} {enc:α->List Value} {sz:Nat} (w:World) (e:TypeId) (cs:Array Value) (l:List α) (hcs:cs.toList=l.flatMap enc) (a0:∀ x,(enc x).length=sz) (hm:l.length<=maxLen) :
 Sl enc sz (w.alloc (.cells cs e)) (some ⟨w.heap.size,0,none⟩) l.length l :=
 Sl.of_own (fun x _=>a0 x) (Own.lit (e:=e) w 0 cs l hcs a0 (Nat.zero_le _) hm) rfl
theorem ints1 (w:World) (e:TypeId) (x:Int):Ints (w.alloc (.cells #[.int .i64 x] e)) (some ⟨w.heap.size,0,none⟩) 1 [x]:=Sl.lit w e _ [x] rfl j0n (by simp[maxLen])
theorem ints2 (w:World) (e:TypeId) (x y:Int):Ints (w.alloc (.cells #[.int .i64 x,.int .i64 y] e)) (some ⟨w.heap.size,0,none⟩) 2 [x,y]:=Sl.lit w e _ [x,y] rfl j0n (by simp[maxLen])
theorem j7j (w:World) (e:TypeId) (x y z:Int):Ints (w.alloc (.cells #[.int .i64 x,.int .i64 y,.int .i64 z] e)) (some ⟨w.heap.size,0,none⟩) 3 [x,y,z]:=Sl.lit w e _ [x,y,z] rfl j0n (by simp[maxLen])
structure ElemOk (P:Program) (t e:TypeId) (size bytes:Nat):Prop where
 sl:P.underlying t=some (.slice e)
 info:∃ i z,P.info? e=some i∧i.zero=some z∧i.size=size∧i.bytes=bytes∧z.cells.size=size
 pos:0<size
theorem ElemOk.mk' {P:Program} {t e:TypeId} {size bytes:Nat} {z:Value} (h1:P.underlying t=some (.slice e)) (h2:(P.info? e).map (fun i=>(i.zero,i.size,i.bytes))=some (some z,size,bytes)) (h3:z.cells.size=size) (h4:0<size):ElemOk P t e size bytes:=by
 obtain⟨i,hi,a,b,c⟩:=info_parts h2;exact⟨h1,⟨i,z,hi,a,b,c,h3⟩,h4⟩
theorem j6b {α:Type} {enc:α->List Value} {P:Program} {t e:TypeId} {sz bytes:Nat} (E:ElemOk P t e sz bytes) {ops:Array Oper} {rest:List Oper} {o:Oper} {a:Act} {Q:Exit->Act->World->Prop} {w:World}
 (a8:o.guard=none) (s x:Operand) (ho:o.op=.call { callee:=.builtin .append,args:=#[s,x],argTypes:=#[t,t] })
 (base:Nat) (v:Value) (l:List α) (y:α) (cs:Array Value) (hs:a.eval s=v) (hx:a.eval x=.slice (some ⟨w.heap.size,0,none⟩) 1 1) (hcs:cs.toList=enc y)
 (a7:(enc y).length=sz) (h1:∀ u∈enc y,u.oneCell'=true)
 (a1:Own enc e sz w base v l) (aa:l.length<4294967296) (a9:bytes<=4096) (a3:base<=w.heap.size)
 (h:∀ v' w',Own enc e sz w' base v' (l++[y])->Below base w w'->(∀ k,k<w.heap.size->v.ownBlock≠some k->w'.heap[k]?=w.heap[k]?)->w.heap.size<=w'.heap.size->wpList P ops Q rest (a.put o.dst v') w') :
 wpList P ops Q (o::rest) a (w.alloc (.cells cs e)):=by
 obtain⟨i,z,hi,hz,a2,a0,a6⟩:=E.info;refine wpList_append_own _ a8 s x t ho base e i z sz bytes E.sl hi hz a2 a0 a6 E.pos v l.length (l.flatMap enc) hs (World.ownsRow.alloc a1 _) ⟨w.heap.size,0,none⟩ 1 1 (enc y) hx (by omega) ?_ h1 (by unfold maxLen;omega) ?_ (by simp;omega) ?_
 ·intro j u hu;rw[Addr.add_lit,Nat.zero_add,World.cell?_alloc_at _ _ _ _ rfl,<-Array.getElem?_toList,hcs];exact hu
 ·calc (l.length+1)*bytes<=4294967296*4096:=Nat.mul_le_mul (by omega) a9
   _<=140737488355328:=by omega
 ·intro v' w' a4 hg _;have a5:w.grownBy w' v.ownBlock:=⟨hg.os,hg.tape,hg.output,zB6 (by simp) hg.size,fun k hk hne=>(hg.block k (by simp;omega) hne).trans (Below.heap_alloc _ _ _ hk)⟩
  refine h v' w' ?_ ?_ (fun k hk hne=>a5.block k hk (fun e=>hne e.symm)) a5.size
  ·have:(l++[y]).flatMap enc=l.flatMap enc++enc y:=by simp
   unfold Own;rw[this,List.length_append];exact a4
  ·exact(zB2 _ _).grown a5 a3 (fun k hk=>(Own.lt a1 k hk).1)
theorem j3b:ElemOk Tryz.prog 25 3 1 8:=ElemOk.mk' (z:=.int .i64 0) Tryz.underlying25 (by kernel_rfl) rfl (by decide)
theorem k1q:ElemOk Tryz.prog 22 117 3 24:=ElemOk.mk' (z:=.agg #[.int .i64 0,.int .i64 0,.int .i64 0]) Tryz.underlying22 (by kernel_rfl) rfl (by decide)
abbrev OwnI (w:World) (base:Nat) (v:Value) (l:List Int):Prop:=Own eInt 3 1 w base v l
abbrev OwnM (w:World) (base:Nat) (v:Value) (l:List Mk):Prop:=Own eMk 117 3 w base v l
theorem j1x (x:Int):∀ u∈eInt x,u.oneCell'=true:=by intro u hu;simp[eInt] at hu;subst hu;rfl
theorem j9r (x:Mk):∀ u∈eMk x,u.oneCell'=true:=by
 intro u hu;simp[eMk] at hu;rcases hu with rfl|rfl|rfl<;>rfl
theorem bal {B:Nat} {w w':World} (h:Below B w w') (hB:B<=w.heap.size) (o:Obj):Below B w (w'.alloc o):=h.alloc (zB6 hB h.size) o
theorem bal0 (w:World) (o:Obj):Below w.heap.size w (w.alloc o):=(zB2 _ _).alloc (zL9 _) o
theorem j0w {B:Nat} {w w':World} (h:Below B w w'):Below B w w'.drew:=j0k h 1
theorem blk4 {w:World} {b:Nat} {t:TypeId} {v0 v1 v2 v3:Value} (h:w.heap[b]?=some (.cells #[v0,v1,v2,v3] t (0,0))) :
 w.cell? ⟨b,0,none⟩=some v0∧w.cell? ⟨b,1,none⟩=some v1∧w.cell? ⟨b,2,none⟩=some v2∧w.cell? ⟨b,3,none⟩=some v3:=by simp[World.cell?,h]
theorem frz {w:World} {b:Nat} {t:TypeId} {cs:Array Value} (h:w.heap[b]?=some (.cells cs t (0,0))) (i:Nat):w.frozen? ⟨b,i,none⟩=false:=by simp[World.frozen?,h]
theorem j3q {base:Nat} {w w':World} (h:Below base w w') {b:Nat} (hb:base<=b) (x y z u:Value):Below base w ((((w'.setCell ⟨b,0,none⟩ x).setCell ⟨b,1,none⟩ y).setCell ⟨b,2,none⟩ z).setCell ⟨b,3,none⟩ u) :=
 (((h.setCell hb x).setCell hb y).setCell hb z).setCell hb u
theorem bundrew {w w':World} (h:Below w.drew.heap.size w.drew w'):Below w.heap.size w w':=⟨h.os,h.tape,h.output,h.size,h.block⟩
theorem frz_al {w:World} {b i:Nat} {o:Obj} (h:w.frozen? ⟨b,i,none⟩=false) (hb:b<w.heap.size):(w.alloc o).frozen? ⟨b,i,none⟩=false :=
 ((bal0 w o).frozen (p:=⟨b,i,none⟩) hb).trans h
theorem q5a {w:World} {b j:Nat} (h:j≠b) (x y z u:Value):((((w.setCell ⟨b,0,none⟩ x).setCell ⟨b,1,none⟩ y).setCell ⟨b,2,none⟩ z).setCell ⟨b,3,none⟩ u).heap[j]?=w.heap[j]? :=
 (zB1 _ ⟨b,3,none⟩ u j h).trans ((zB1 _ ⟨b,2,none⟩ z j h).trans ((zB1 _ ⟨b,1,none⟩ y j h).trans (zB1 _ ⟨b,0,none⟩ x j h)))
theorem set3_0 {W:World} {g:Nat} {t:TypeId} {a b c z:Value} (h:W.heap[g]?=some (.cells #[a,b,c] t (0,0))):(W.setCell ⟨g,0,none⟩ z).heap[g]?=some (.cells #[z,b,c] t (0,0)):=by
 simp[World.setCell,Array.getElem?_modify,h]
theorem Own.upon {α:Type} {enc:α->List Value} {e:TypeId} {sz:Nat} {w w':World} {base:Nat} {v:Value} {l:List α} (h:Own enc e sz w base v l) (k:∀ j,base<=j->w'.heap[j]?=w.heap[j]?):Own enc e sz w' base v l:=by
 refine⟨h.1,?_⟩;rcases h.2 with h2|⟨g,cap,cur,hv,hg,hh,r⟩
 ·exact .inl h2
 ·exact .inr ⟨g,cap,cur,hv,hg,(k g hg).trans hh,r⟩
theorem Own.sl {α:Type} {enc:α->List Value} {e:TypeId} {sz:Nat} {w:World} {base:Nat} {A:Option Addr} {n c:Nat} {l:List α} (h:Own enc e sz w base (.slice A n c) l) (a0:∀ x,(enc x).length=sz):Sl enc sz w A l.length l∧l.length<=c∧c<=maxLen:=by
 obtain⟨A',c',hv,hs,h1,h2⟩:=h.form a0;cases hv;exact⟨hs,h1,h2⟩
structure De where
 kind:Int
 flock:Int
 owner:Int
 other:Int
 tof:Int
 many:Int
 err:Int
 s:Sg
 deriving DecidableEq
def hget (h:List Int) (f o:Nat):Int:=h.getD (5*f+o) 0
def hadd (h:List Int) (f o:Nat) (k:Int):List Int:=h.set (5*f+o) (hget h f o+k)
def mvd (h:List Int) (f o:Nat) (k:Int):Option (List Int):=if 0<=hget h f o+k then some (hadd h f o k) else none
def hall (h:List Int) (f:Nat):Int:=hget h f 0+hget h f 1+hget h f 2+hget h f 3+hget h f 4
def j5t (h:List Int) (o:Nat):Int:=hget h 0 o+hget h 1 o+hget h 2 o
def j1e (n f:Nat):Nat->List Int->Nat->List (List Int)
 | 0,h,m=>if m=0 then [h] else []
 | j+1,h,m=>if m=0 then [h] else (List.range (m+1)).flatMap fun(k:Nat)=>match mvd h f (n-(j+1)) (-(k:Int)) with
   | some x=>j1e n f j x (m-k)
   | none=>[]
def j4k (f g:Nat) (h:List Int):List Int->List (List Int):=fun os=>os.flatMap fun o=>match mvd h f o.toNat (-1) with|some x=>[hadd x g o.toNat 1]|none=>[]
def j6y (d:De) (h:List Int):Bool:=btw (hall h d.flock.toNat) ((100*d.many+99+d.err).tdiv (100+d.err)) ((100*d.many).tdiv (100-d.err))
def succ (t:Int) (l:List Mk) (pass:Int->Bool) (d:De) (h:List Int):List (List Int) :=
 if d.kind=1 then [hadd h d.flock.toNat d.owner.toNat d.many]
 else if d.kind=2 then (match mvd h d.flock.toNat d.owner.toNat (-d.many) with|some x=>[hadd x d.flock.toNat d.other.toNat d.many]|none=>[])
 else if d.kind=3 then (match mvd h d.flock.toNat d.owner.toNat (-d.many) with|some x=>[x]|none=>[])
 else if d.kind=4 then j1e l.length d.flock.toNat l.length h d.many.toNat
 else if d.kind=5 then j4k d.flock.toNat d.tof.toNat h ((mayL t l d.s).filter pass)
 else if j6y d h=true then [h] else []
def ddup:List (List Int)->List (List Int)
 | []=>[]
 | x::l=>if x∈l then ddup l else x::ddup l
theorem k0u {x:List Int}:∀ {l:List (List Int)},x∈ddup l↔x∈l
 | []=>by simp[ddup]
 | y::l=>by
   have ih:=k0u (x:=x) (l:=l);unfold ddup
   split
   ·rename_i hy;rw[ih,List.mem_cons];exact⟨.inr,fun h=>h.elim (fun e=>e ▸ hy) id⟩
   ·rw[List.mem_cons,List.mem_cons,ih]
theorem k4x:∀ l:List (List Int),(ddup l).Nodup
 | []=>by simp[ddup]
 | y::l=>by
   have ih:=k4x l;unfold ddup
   split
   ·exact ih
   ·rename_i hy;exact List.nodup_cons.2 ⟨fun h=>hy (k0u.1 h),ih⟩
theorem k2x {l m:List (List Int)} (hl:l.Nodup) (hm:m.Nodup) (h:∀ x,x∈l↔x∈m):l.Perm m:=by
 rw[List.perm_iff_count];intro a;by_cases ha:a∈l
 ·rw[hl.count,hm.count,if_pos ha,if_pos ((h a).1 ha)]
 ·rw[List.count_eq_zero_of_not_mem ha,List.count_eq_zero_of_not_mem (fun h'=>ha ((h a).2 h'))]
def j0i (heads:List (List Int)):List Int:=(List.range 15).map fun i=>(heads.getD (i / 5) []).getD (i % 5) 0
def j1s (deed owner:Int) (i:Nat) (o:Int):Bool:=!(decide ((i:Int)=deed)&&decide (o≠owner))
def j1g (t:Int) (l:List Mk) (heads:List (List Int)) (ds:List De) (deed owner:Int):Nat->List (List Int)
 | 0=>[j0i heads]
 | i+1=>ddup ((j1g t l heads ds deed owner i).flatMap fun h=>match ds[i]? with|some d=>succ t l (j1s deed owner i) d h|none=>[])
def j2l (t:Int) (l:List Mk) (heads:List (List Int)) (ds:List De) (deed owner:Int):List (List Int):=j1g t l heads ds deed owner ds.length
theorem k1l (t:Int) (l:List Mk) (heads:List (List Int)) (ds:List De) (deed owner:Int):∀ i,(j1g t l heads ds deed owner i).Nodup
 | 0=>by simp[j1g]
 | i+1=>k4x _
def HBd (B:Int) (h:List Int):Prop:=h.length=15∧∀ x∈h,0<=x∧x<=B
theorem HBd.mono {B C:Int} {h:List Int} (hh:HBd B h) (hc:B<=C):HBd C h:=⟨hh.1,fun x hx=>by have:=hh.2 x hx;omega⟩
theorem HBd.get {B:Int} {h:List Int} (hh:HBd B h) {f o:Nat} (hf:f<3) (ho:o<5):0<=hget h f o∧hget h f o<=B:=by
 unfold hget;rw[zB3,zB5 (by rw[hh.1];omega),Option.getD_some]
 exact hh.2 _ (List.getElem_mem _)
theorem HBd.add {B C:Int} {h:List Int} (hh:HBd B h) {f o:Nat} {k:Int} (h0:0<=hget h f o+k) (h1:hget h f o+k<=C) (hc:B<=C):HBd C (hadd h f o k):=by
 unfold hadd;refine⟨by rw[List.length_set];exact hh.1,fun x hx=>?_⟩
 rcases List.mem_or_eq_of_mem_set hx with hx|rfl
 ·have:=hh.2 x hx;omega
 ·exact⟨h0,h1⟩
theorem k0o {h:List Int} {f o f' o':Nat} {v:Int} (hl:h.length=15) (hf:f<3) (ho:o<5) (a0:o'<5):(h.set (5*f+o) v).getD (5*f'+o') 0=if f=f'∧o=o' then v else h.getD (5*f'+o') 0:=by
 rw[zB3,zB3];by_cases e:f=f'∧o=o'
 ·obtain⟨rfl,rfl⟩:=e;rw[if_pos ⟨rfl,rfl⟩,List.getElem?_set_self (by omega)];rfl
 ·rw[if_neg e,List.getElem?_set_ne (by omega)]
theorem j0m {h:List Int} {f o f' o':Nat} {k:Int} (hl:h.length=15) (hf:f<3) (ho:o<5) (a0:o'<5):hget (hadd h f o k) f' o'=if f=f'∧o=o' then hget h f o+k else hget h f' o':=k0o hl hf ho a0
theorem j5d {h x:List Int} {f o:Nat} {k:Int} (hm:mvd h f o k=some x):0<=hget h f o+k∧x=hadd h f o k:=by
 unfold mvd at hm
 split at hm
 ·rename_i h0;injection hm with e;exact⟨h0,e.symm⟩
 ·cases hm
theorem k9d {B:Int} {n f:Nat} (hf:f<3) (hn:n<=5):∀ (j:Nat) (h:List Int) (m:Nat),j<=n->HBd B h->∀ x∈j1e n f j h m,HBd B x
 | 0,h,m,_,hh,x,hx=>by
   unfold j1e at hx
   split at hx
   ·simp at hx;rw[hx];exact hh
   ·cases hx
 | j+1,h,m,hj,hh,x,hx=>by
   unfold j1e at hx
   split at hx
   ·simp at hx;rw[hx];exact hh
   ·obtain⟨k,hk,hx⟩:=List.mem_flatMap.1 hx;cases hm:mvd h f (n-(j+1)) (-(k:Int)) with
    | none=>rw[hm] at hx;cases hx
    | some y =>
      rw[hm] at hx;obtain⟨h0,rfl⟩:=j5d hm;have hg:=hh.get hf (show n-(j+1)<5 by omega)
      exact k9d hf hn j _ _ (by omega) (hh.add h0 (by omega) (Int.le_refl _)) x hx
structure DeIn (n nf:Nat) (d:De):Prop where
 f:0<=d.flock∧d.flock<nf
 o:0<=d.owner∧d.owner<5
 x:0<=d.other∧d.other<5
 t:0<=d.tof∧d.tof<3
 m:0<=d.many∧d.many<=300
 s:d.kind≠6->d.many<=20
 l:d.kind=4->d.many<=3
 e:0<=d.err∧d.err<=20
 k:1<=d.kind∧d.kind<=6
 st:d.kind=5->seen d.s 9 6=0
theorem k3r {t:Int} {l:List Mk} {s:Sg}:∀ o∈mayL t l s,0<=o∧o<l.length:=by
 intro o ho;unfold mayL j3y at ho;obtain⟨i,hi,rfl⟩:=List.mem_map.1 ho;have:=List.mem_range.1 (List.mem_filter.1 hi).1;simp;omega
theorem succ_bd {B:Int} {t:Int} {l:List Mk} {pass:Int->Bool} {d:De} {h:List Int} {nf:Nat} (a5:nf<=3) (hl:l.length<=5) (hd:DeIn l.length nf d) (hh:HBd B h) (hB:0<=B):∀ x∈succ t l pass d h,HBd (B+20) x:=by
 intro x hx;have hf:=hd.f;have ho:=hd.o;have a4:=hd.x;have hm:=hd.m;have hs:=hd.s;have fl:d.flock.toNat<3:=by omega
 unfold succ at hx
 split at hx
 ·rename_i hk;simp at hx;subst hx;have hg:=hh.get fl (show d.owner.toNat<5 by omega)
  have:=hs (by omega)
  exact hh.add (by omega) (by omega) (by omega)
 split at hx
 ·rename_i hk1 hk;have a0:=hs (by omega)
  cases hmv:mvd h d.flock.toNat d.owner.toNat (-d.many) with
  | none=>rw[hmv] at hx;cases hx
  | some y =>
    rw[hmv] at hx;obtain⟨h0,rfl⟩:=j5d hmv;simp at hx;subst hx;have hg:=hh.get fl (show d.owner.toNat<5 by omega)
    have hy:HBd B (hadd h d.flock.toNat d.owner.toNat (-d.many)):=hh.add h0 (by omega) (Int.le_refl _)
    have a2:=hy.get fl (show d.other.toNat<5 by omega)
    exact hy.add (by omega) (by omega) (by omega)
 split at hx
 ·have a0:=hs (by omega)
  cases hmv:mvd h d.flock.toNat d.owner.toNat (-d.many) with
  | none=>rw[hmv] at hx;cases hx
  | some y =>
    rw[hmv] at hx;obtain⟨h0,rfl⟩:=j5d hmv;simp at hx;subst hx;have hg:=hh.get fl (show d.owner.toNat<5 by omega)
    exact hh.add h0 (by omega) (by omega)
 split at hx
 ·exact(k9d fl hl _ _ _ (zL9 _) hh x hx).mono (by omega)
 split at hx
 ·unfold j4k at hx;obtain⟨o,a1,hx⟩:=List.mem_flatMap.1 hx;have a3:=k3r o (List.mem_filter.1 a1).1;cases hmv:mvd h d.flock.toNat o.toNat (-1) with
  | none=>rw[hmv] at hx;cases hx
  | some y =>
    rw[hmv] at hx;obtain⟨h0,rfl⟩:=j5d hmv;simp at hx;subst hx;have hg:=hh.get fl (show o.toNat<5 by omega)
    have hy:HBd B (hadd h d.flock.toNat o.toNat (-1)):=hh.add h0 (by omega) (Int.le_refl _)
    have ht:=hd.t;have a2:=hy.get (show d.tof.toNat<3 by omega) (show o.toNat<5 by omega)
    exact hy.add (by omega) (by omega) (by omega)
 split at hx
 ·simp at hx;rw[hx];exact hh.mono (by omega)
 ·cases hx
theorem k6p {heads:List (List Int)} (h:∀ r∈heads,∀ x∈r,0<=x∧x<=20):HBd 20 (j0i heads):=by
 refine⟨by simp[j0i],fun x hx=>?_⟩
 obtain⟨i,hi,rfl⟩:=List.mem_map.1 hx;rw[zB3,zB3];cases h1:heads[i / 5]? with
 | none=>simp
 | some r =>
   rw[Option.getD_some];cases h2:r[i % 5]? with
   | none=>simp
   | some y=>rw[Option.getD_some];exact h r (zB4 h1) y (zB4 h2)
theorem j5i {t:Int} {l:List Mk} {heads:List (List Int)} {ds:List De} {deed owner:Int} {nf:Nat} (a0:nf<=3) (hl:l.length<=5) (hh:∀ r∈heads,∀ x∈r,0<=x∧x<=20) (hd:∀ d∈ds,DeIn l.length nf d) :
 ∀ i,∀ x∈j1g t l heads ds deed owner i,HBd (20+20*(i:Int)) x
 | 0,x,hx=>by simp[j1g] at hx;subst hx;exact(k6p hh).mono (by omega)
 | i+1,x,hx=>by
   unfold j1g at hx;obtain⟨h,a1,hx⟩:=List.mem_flatMap.1 (k0u.1 hx);cases hi:ds[i]? with
   | none=>rw[hi] at hx;cases hx
   | some d =>
     rw[hi] at hx;have ih:=j5i a0 hl hh hd i h a1;exact(succ_bd a0 hl (hd d (zB4 hi)) ih (by omega) x hx).mono (by omega)
theorem k0i {t:Int} {l:List Mk} {heads:List (List Int)} {ds:List De} {deed owner:Int} {i:Nat} {d:De} (hd:ds[i]?=some d) (x:List Int) :
 x∈j1g t l heads ds deed owner (i+1)↔∃ h∈j1g t l heads ds deed owner i,x∈succ t l (j1s deed owner i) d h:=by
 conv=>lhs;unfold j1g
 rw[k0u,List.mem_flatMap,hd]
end Go.Proofs.YtmennjmjakdkcaaGreat
