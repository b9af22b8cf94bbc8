/- HerdParts. -/
import Derived.Test.YtmennjmjakdkcaaGreatPt07
import Derived.RangeFuncNested
set_option linter.unusedVariables false
set_option linter.unusedSimpArgs false
set_option maxRecDepth 100000
set_option maxHeartbeats 1000000
namespace Go.Proofs.YtmennjmjakdkcaaGreat
open Go.RowKit Go.MapKept
def kf (k:Int):FuncId:=if k=1 then 133 else if k=2 then 134 else if k=3 then 135 else if k=4 then 136 else if k=5 then 137 else 138
theorem deed_any (p:Nat) (t:Int) (A:Option Addr) (c:Nat) (l:List Mk) (ks hs ds:Value) (deed owner now:Int) (h:List Int) (d:De) (nf:Nat) (B M:Nat) (K:List (List Int)) (w:World) (hA:Ask l.length nf B M K h d w) (hB:Book w p t A l.length c l ks hs ds deed owner now) :
 Calls Tryz.prog (kf d.kind) #[.pointer (some ⟨p,0,none⟩),.agg (hcs h),dv d,.func (.func 117) #[] #[.pointer (some ⟨B,0,none⟩)]] w fun e w'=>e=.returned (.tuple #[])∧PutsH w w' M (succ t l (j2i deed owner now) d h):=by
 have hk:=hA.hd.k;obtain h1|h1|h1|h1|h1|h1:d.kind=1∨d.kind=2∨d.kind=3∨d.kind=4∨d.kind=5∨d.kind=6:=by omega
 ·rw[show succ t l (j2i deed owner now) d h=[hadd h d.flock.toNat d.owner.toNat d.many] by unfold succ;rw[if_pos h1],show kf d.kind=133 by rw[h1];rfl]
  exact born_any _ h d _ _ B M K w hA h1
 ·rw[show succ t l (j2i deed owner now) d h=(match mvd h d.flock.toNat d.owner.toNat (-d.many) with|some x=>[hadd x d.flock.toNat d.other.toNat d.many]|none=>[]) by unfold succ;rw[if_neg (by omega),if_pos h1];cases mvd h d.flock.toNat d.owner.toNat (-d.many)<;>rfl,show kf d.kind=134 by rw[h1];rfl]
  exact sold_any _ h d _ _ B M K w hA h1
 ·rw[show succ t l (j2i deed owner now) d h=(match mvd h d.flock.toNat d.owner.toNat (-d.many) with|some x=>[x]|none=>[]) by unfold succ;rw[if_neg (by omega),if_neg (by omega),if_pos h1];cases mvd h d.flock.toNat d.owner.toNat (-d.many)<;>rfl,show kf d.kind=135 by rw[h1];rfl]
  exact q4i _ h d _ _ B M K w hA h1
 ·rw[show succ t l (j2i deed owner now) d h=j1e l.length d.flock.toNat l.length h d.many.toNat by unfold succ;rw[if_neg (by omega),if_neg (by omega),if_neg (by omega),if_pos h1],show kf d.kind=136 by rw[h1];rfl]
  exact lost_any p t A c l ks hs ds deed owner now h d nf B M K w hA hB h1
 ·rw[show succ t l (j2i deed owner now) d h=j4k d.flock.toNat d.tof.toNat h ((mayL t l d.s).filter (j2i deed owner now)) by unfold succ;rw[if_neg (by omega),if_neg (by omega),if_neg (by omega),if_neg (by omega),if_pos h1],show kf d.kind=137 by rw[h1];rfl]
  exact q1i p t A _ c l ks hs ds deed owner now h d nf B M K w hA hB h1
 ·rw[show succ t l (j2i deed owner now) d h=(if j6y d h=true then [h] else []) by unfold succ;rw[if_neg (by omega),if_neg (by omega),if_neg (by omega),if_neg (by omega),if_neg (by omega)],show kf d.kind=138 by rw[h1];rfl]
  exact q0x _ h d _ _ B M K w hA h1
theorem q5j {w:World} {D clock p:Nat} {k:Int} (h:w.heap[D]?=some (.map (j2b p) clock)) (h1:1<=k) (h6:k<=6) :
 (Instr.lookup 167 (.map (some D)) (.int .i64 k) false).run Tryz.prog w=.ok (.func (.func (kf k)) #[.pointer (some ⟨p,0,none⟩)] #[]) w:=by
 obtain rfl|rfl|rfl|rfl|rfl|rfl:k=1∨k=2∨k=3∨k=4∨k=5∨k=6:=by omega
 ·exact j6k (k:=0) h (e:=_) rfl (by decide)
 ·exact j6k (k:=1) h (e:=_) rfl (by decide)
 ·exact j6k (k:=2) h (e:=_) rfl (by decide)
 ·exact j6k (k:=3) h (e:=_) rfl (by decide)
 ·exact j6k (k:=4) h (e:=_) rfl (by decide)
 ·exact j6k (k:=5) h (e:=_) rfl (by decide)
def minL:List Int->Int
 | []=>0
 | x::l=>l.foldl min x
def maxL:List Int->Int
 | []=>0
 | x::l=>l.foldl max x
theorem q4p (l:List Int):∀ a,(l.foldl min a=a∨l.foldl min a∈l)∧l.foldl min a<=a∧∀ y∈l,l.foldl min a<=y:=by
 induction l with
 | nil=>intro a;simp
 | cons x l ih =>
   intro a;rw[List.foldl_cons];obtain⟨h1,h2,h3⟩:=ih (min a x);refine⟨?_,by omega,fun y hy=>?_⟩
   ·rcases h1 with h1|h1
    ·rw[h1];by_cases hax:a<=x
     ·left;omega
     ·right;rw[show min a x=x by omega];exact List.mem_cons_self
    ·exact .inr (List.mem_cons_of_mem _ h1)
   ·rcases List.mem_cons.1 hy with rfl|hy
    ·omega
    ·exact h3 y hy
theorem q4o (l:List Int):∀ a,(l.foldl max a=a∨l.foldl max a∈l)∧a<=l.foldl max a∧∀ y∈l,y<=l.foldl max a:=by
 induction l with
 | nil=>intro a;simp
 | cons x l ih =>
   intro a;rw[List.foldl_cons];obtain⟨h1,h2,h3⟩:=ih (max a x);refine⟨?_,by omega,fun y hy=>?_⟩
   ·rcases h1 with h1|h1
    ·rw[h1];by_cases hax:x<=a
     ·left;omega
     ·right;rw[show max a x=x by omega];exact List.mem_cons_self
    ·exact .inr (List.mem_cons_of_mem _ h1)
   ·rcases List.mem_cons.1 hy with rfl|hy
    ·omega
    ·exact h3 y hy
theorem k7h {l:List Int} (h:l≠[]):minL l∈l∧∀ y∈l,minL l<=y:=by
 cases l with
 | nil=>exact absurd rfl h
 | cons x l =>
   obtain⟨h1,h2,h3⟩:=q4p l x;refine⟨?_,fun y hy=>?_⟩
   ·show l.foldl min x∈x::l;rcases h1 with h1|h1
    ·rw[h1];exact List.mem_cons_self
    ·exact List.mem_cons_of_mem _ h1
   ·rcases List.mem_cons.1 hy with rfl|hy
    ·exact h2
    ·exact h3 y hy
theorem k7e {l:List Int} (h:l≠[]):maxL l∈l∧∀ y∈l,y<=maxL l:=by
 cases l with
 | nil=>exact absurd rfl h
 | cons x l =>
   obtain⟨h1,h2,h3⟩:=q4o l x;refine⟨?_,fun y hy=>?_⟩
   ·show l.foldl max x∈x::l;rcases h1 with h1|h1
    ·rw[h1];exact List.mem_cons_self
    ·exact List.mem_cons_of_mem _ h1
   ·rcases List.mem_cons.1 hy with rfl|hy
    ·exact h2
    ·exact h3 y hy
theorem minL_eq {l:List Int} {m:Int} (hm:m∈l) (h:∀ y∈l,m<=y):minL l=m:=by
 obtain⟨h1,h2⟩:=k7h (List.ne_nil_of_mem hm);have:=h _ h1;have:=h2 _ hm;omega
theorem maxL_eq {l:List Int} {m:Int} (hm:m∈l) (h:∀ y∈l,y<=m):maxL l=m:=by
 obtain⟨h1,h2⟩:=k7e (List.ne_nil_of_mem hm);have:=h _ h1;have:=h2 _ hm;omega
theorem k4w {l m:List Int} (h:∀ x,x∈l↔x∈m):minL l=minL m:=by
 by_cases hm:m=[]
 ·subst hm;have:l=[]:=List.eq_nil_iff_forall_not_mem.2 fun x hx=>by have:=(h x).1 hx;cases this
  rw[this]
 ·obtain⟨h1,h2⟩:=k7h hm;exact minL_eq ((h _).2 h1) fun y hy=>h2 y ((h y).1 hy)
theorem k4t {l m:List Int} (h:∀ x,x∈l↔x∈m):maxL l=maxL m:=by
 by_cases hm:m=[]
 ·subst hm;have:l=[]:=List.eq_nil_iff_forall_not_mem.2 fun x hx=>by have:=(h x).1 hx;cases this
  rw[this]
 ·obtain⟨h1,h2⟩:=k7e hm;exact maxL_eq ((h _).2 h1) fun y hy=>h2 y ((h y).1 hy)
theorem k7g (l:List Int) (x:Int):minL (l++[x])=if l=[] then x else min (minL l) x:=by
 cases l with
 | nil=>rfl
 | cons y l=>rw[if_neg (by simp)];simp[minL,List.foldl_append]
theorem k7d (l:List Int) (x:Int):maxL (l++[x])=if l=[] then x else max (maxL l) x:=by
 cases l with
 | nil=>rfl
 | cons y l=>rw[if_neg (by simp)];simp[maxL,List.foldl_append]
structure Rn where
 lo:Int
 hi:Int
 deriving DecidableEq
def j0t (E:List (List Int)) (of:List Int->Int):Rn:=⟨minL (E.map of),maxL (E.map of)⟩
theorem k9w {E E':List (List Int)} {f g:List Int->Int} (h:∀ x,x∈E↔x∈E') (a0:∀ x∈E',f x=g x):j0t E f=j0t E' g:=by
 have:∀ y,y∈E.map f↔y∈E'.map g:=fun y=>by
  simp only[List.mem_map];exact⟨fun⟨x,hx,e⟩=>⟨x,(h x).1 hx,by rw[<-a0 x ((h x).1 hx),e]⟩,fun⟨x,hx,e⟩=>⟨x,(h x).2 hx,by rw[a0 x hx,e]⟩⟩
 unfold j0t;rw[k4w this,k4t this]
theorem k2z {E E':List (List Int)} {f:List Int->Int} (h:E.Perm E'):j0t E f=j0t E' f:=k9w (fun x=>h.mem_iff) fun _ _=>rfl
theorem k3a (E:List (List Int)) (x:List Int) (f:List Int->Int):j0t (E++[x]) f=if E=[] then ⟨f x,f x⟩ else ⟨min (j0t E f).lo (f x),max (j0t E f).hi (f x)⟩:=by
 unfold j0t;rw[List.map_append,List.map_singleton,k7g,k7d];by_cases h:E=[]
 ·simp[h]
 ·simp[h]
def hasL (E:List (List Int)) (n nf:Nat):List (List Rn):=(List.range nf).map fun f=>(List.range n).map fun o=>j0t E fun h=>hget h f o
def namD (d:De):De :=
 if d.kind=1∨d.kind=3 then ⟨d.kind,d.flock,d.owner,0,0,d.many,0,⟨0,false,false,0,0⟩⟩
 else if d.kind=2 then ⟨d.kind,d.flock,d.owner,d.other,0,d.many,0,⟨0,false,false,0,0⟩⟩
 else if d.kind=4 then ⟨d.kind,d.flock,0,0,0,d.many,0,⟨0,false,false,0,0⟩⟩
 else if d.kind=5 then ⟨d.kind,d.flock,0,0,d.tof,0,0,d.s⟩
 else ⟨d.kind,d.flock,0,0,0,d.many,d.err,⟨0,false,false,0,0⟩⟩
def ownB (n:Nat) (x:Int):Bool:=btw x 0 ((n:Int)-1)
def fldE (n nf:Nat) (d:De):Int :=
 if d.kind=1∨d.kind=3 then (if ownB n d.owner=false then 3 else if btw d.many 1 20=false then 1 else 0)
 else if d.kind=2 then (if ownB n d.owner=false∨ownB n d.other=false then 3 else if d.owner=d.other then 4 else if btw d.many 1 20=false then 1 else 0)
 else if d.kind=4 then (if btw d.many 1 3=false then 1 else 0)
 else if d.kind=5 then (if ownB nf d.tof=false then 3 else if d.tof=d.flock then 4 else seen d.s 9 6)
 else (if btw d.many 0 300=false∨btw d.err 0 20=false then 1 else 0)
def j0v (n nf:Nat) (d:De):Int :=
 if btw d.kind 1 6=false then 8 else if ownB nf d.flock=false then 3 else if fldE n nf d≠0 then fldE n nf d else if d≠namD d then 1 else 0
def j1k (n:Nat) (ks:List Int) (hs:List (List Int)):Int :=
 if ks.length=0 then 7 else if 3<ks.length then 6 else if ks.all (ownB n)=false then 3 else if hs.length≠ks.length then 2
 else if hs.all (fun r=>decide (r.length=n))=false then 2 else if hs.all (fun r=>r.all fun x=>btw x 0 20)=false then 1 else 0
def j1o (n nf:Nat):List De->Int
 | []=>0
 | d::l=>if j0v n nf d≠0 then j0v n nf d else j1o n nf l
def j3m (t:Int) (l:List Mk) (ks:List Int) (hs:List (List Int)) (ds:List De):Int :=
 if check t l≠0 then check t l else if j1k l.length ks hs≠0 then j1k l.length ks hs else if 6<ds.length then 6 else j1o l.length ks.length ds
theorem j1p {n:Nat} {x:Int}:ownB n x=true↔0<=x∧x<n:=by unfold ownB;rw[j0o];omega
theorem ite0 {c:Prop} [Decidable c] {k x:Int} (hk:k≠0) (h:(if c then k else x)=0):¬c∧x=0:=by
 split at h
 ·exact absurd h hk
 ·exact⟨by assumption,h⟩
theorem deedE_in {n nf:Nat} {d:De} (hn:n<=5) (hf:nf<=3) (a7:0<nf) (a6:0<n) (h:j0v n nf d=0):DeIn n nf d∧d=namD d:=by
 unfold j0v at h
 split at h
 ·cases h
 rename_i h1
 split at h
 ·cases h
 rename_i h2
 split at h
 ·exact absurd h (by assumption)
 rename_i h3
 split at h
 ·cases h
 rename_i h4;have h4:d=namD d:=Classical.not_not.1 h4;refine⟨?_,h4⟩;have hk:=j0o.1 ((Bool.not_eq_false _).mp h1);have a8:=j1p.1 ((Bool.not_eq_false _).mp h2);have h3:fldE n nf d=0:=Classical.not_not.1 h3;clear h1 h2;unfold fldE at h3;unfold namD at h4;obtain⟨kind,flock,owner,other,tof,many,err,s⟩:=d;dsimp only at *
 obtain e|e|e|e|e|e:kind=1∨kind=2∨kind=3∨kind=4∨kind=5∨kind=6:=by omega
 all_goals subst e
 ·rw[if_pos (by decide)] at h3 h4
  obtain⟨a1,h3⟩:=ite0 (by decide) h3
  obtain⟨a2,-⟩:=ite0 (by decide) h3
  injection h4 with _ _ _ e1 e2 _ e3 e4
  subst e1 e2 e3 e4;have a1:=j1p.1 ((Bool.not_eq_false _).mp a1);have a2:=j0o.1 ((Bool.not_eq_false _).mp a2);exact⟨by dsimp;omega,by dsimp;omega,by dsimp;omega,by dsimp;omega,by dsimp;omega,by dsimp;omega,by dsimp;omega,by dsimp;omega,by dsimp;omega,by dsimp;intro h;omega⟩
 ·rw[if_neg (by decide),if_pos (by decide)] at h3 h4
  obtain⟨a1,h3⟩:=ite0 (by decide) h3
  obtain⟨a3,h3⟩:=ite0 (by decide) h3
  obtain⟨a2,-⟩:=ite0 (by decide) h3
  injection h4 with _ _ _ _ e2 _ e3 e4
  subst e2 e3 e4;have a0:=j1p.1 ((Bool.not_eq_false _).mp (fun h=>a1 (.inl h)))
  have a4:=j1p.1 ((Bool.not_eq_false _).mp (fun h=>a1 (.inr h)))
  have a2:=j0o.1 ((Bool.not_eq_false _).mp a2);exact⟨by dsimp;omega,by dsimp;omega,by dsimp;omega,by dsimp;omega,by dsimp;omega,by dsimp;omega,by dsimp;omega,by dsimp;omega,by dsimp;omega,by dsimp;intro h;omega⟩
 ·rw[if_pos (by decide)] at h3 h4
  obtain⟨a1,h3⟩:=ite0 (by decide) h3
  obtain⟨a2,-⟩:=ite0 (by decide) h3
  injection h4 with _ _ _ e1 e2 _ e3 e4
  subst e1 e2 e3 e4;have a1:=j1p.1 ((Bool.not_eq_false _).mp a1);have a2:=j0o.1 ((Bool.not_eq_false _).mp a2);exact⟨by dsimp;omega,by dsimp;omega,by dsimp;omega,by dsimp;omega,by dsimp;omega,by dsimp;omega,by dsimp;omega,by dsimp;omega,by dsimp;omega,by dsimp;intro h;omega⟩
 ·rw[if_neg (by decide),if_neg (by decide),if_pos (by decide)] at h3 h4
  obtain⟨a2,-⟩:=ite0 (by decide) h3
  injection h4 with _ _ e0 e1 e2 _ e3 e4
  subst e0 e1 e2 e3 e4;have a2:=j0o.1 ((Bool.not_eq_false _).mp a2);exact⟨by dsimp;omega,by dsimp;omega,by dsimp;omega,by dsimp;omega,by dsimp;omega,by dsimp;omega,by dsimp;omega,by dsimp;omega,by dsimp;omega,by dsimp;intro h;omega⟩
 ·rw[if_neg (by decide),if_neg (by decide),if_neg (by decide),if_pos (by decide)] at h3 h4
  obtain⟨a1,h3⟩:=ite0 (by decide) h3
  have a5:=(ite0 (by decide) h3).2
  injection h4 with _ _ e0 e1 _ e2 e3 _
  subst e0 e1 e2 e3;have a1:=j1p.1 ((Bool.not_eq_false _).mp a1);exact⟨by dsimp;omega,by dsimp;omega,by dsimp;omega,by dsimp;omega,by dsimp;omega,by dsimp;omega,by dsimp;omega,by dsimp;omega,by dsimp;omega,fun _=>a5⟩
 ·rw[if_neg (by decide),if_neg (by decide),if_neg (by decide),if_neg (by decide)] at h3 h4
  obtain⟨a1,-⟩:=ite0 (by decide) h3
  injection h4 with _ _ e0 e1 e2 _ _ e4
  subst e0 e1 e2 e4;have a0:=j0o.1 ((Bool.not_eq_false _).mp (fun h=>a1 (.inl h)))
  have a4:=j0o.1 ((Bool.not_eq_false _).mp (fun h=>a1 (.inr h)))
  exact⟨by dsimp;omega,by dsimp;omega,by dsimp;omega,by dsimp;omega,by dsimp;omega,by dsimp;omega,by dsimp;omega,by dsimp;omega,by dsimp;omega,by dsimp;intro h;omega⟩
theorem k0g {n nf:Nat}:∀ {l:List De},j1o n nf l=0↔∀ d∈l,j0v n nf d=0
 | []=>by simp[j1o]
 | d::l=>by
   unfold j1o;by_cases h:j0v n nf d=0
   ·rw[if_neg (by simpa using h),k0g];simp[h]
   ·rw[if_pos h];simp[h]
structure HeOk (t:Int) (l:List Mk) (ks:List Int) (hs:List (List Int)) (ds:List De):Prop where
 ck:check t l=0
 n5:l.length<=5
 n0:0<l.length
 f0:0<ks.length
 f3:ks.length<=3
 kk:∀ k∈ks,0<=k∧k<l.length
 hl:hs.length=ks.length
 rl:∀ r∈hs,r.length=l.length
 rb:∀ r∈hs,∀ x∈r,0<=x∧x<=20
 d6:ds.length<=6
 dE:∀ d∈ds,j0v l.length ks.length d=0
 dI:∀ d∈ds,DeIn l.length ks.length d
theorem j2x {t:Int} {l:List Mk} {ks:List Int} {hs:List (List Int)} {ds:List De} (h:j3m t l ks hs ds=0):HeOk t l ks hs ds:=by
 unfold j3m at h
 split at h
 ·exact absurd h (by assumption)
 rename_i h1
 split at h
 ·exact absurd h (by assumption)
 rename_i h2
 split at h
 ·cases h
 rename_i h3;have h1:check t l=0:=Classical.not_not.1 h1;have h2:j1k l.length ks hs=0:=Classical.not_not.1 h2;have h5:=(j2d h1).2.2.1;unfold j1k at h2
 split at h2
 ·cases h2
 rename_i f0
 split at h2
 ·cases h2
 rename_i f3
 split at h2
 ·cases h2
 rename_i fk
 split at h2
 ·cases h2
 rename_i fl
 split at h2
 ·cases h2
 rename_i fr
 split at h2
 ·cases h2
 rename_i fb;have fk:=List.all_eq_true.1 ((Bool.not_eq_false _).mp fk);have fr:=List.all_eq_true.1 ((Bool.not_eq_false _).mp fr);have fb:=List.all_eq_true.1 ((Bool.not_eq_false _).mp fb);have kk:∀ k∈ks,0<=k∧k<l.length:=fun k hk=>j1p.1 (fk k hk)
 have n0:0<l.length:=by
  cases ks with
  | nil=>exact absurd rfl f0
  | cons k ks=>have:=kk k List.mem_cons_self;omega
 have dE:=k0g.1 h;exact⟨h1,h5,n0,by omega,by omega,kk,by omega,fun r hr=>by simpa using fr r hr,fun r hr x hx=>j0o.1 (List.all_eq_true.1 (fb r hr) x hx),by omega,dE,fun d hd=>(deedE_in h5 (by omega) (by omega) n0 (dE d hd)).1⟩
def SeqE {α:Type} (F:Fence) (n:Nat) (P:Program) (g:Nat) (lb:Array Value) (enc:α->Array Value) (Ex:World->World->Prop) (S Sp:List α->Prop) (w:World):Prop :=
 ∀ (l:Nat) (J Jx:List α->World->Prop) (W:World),Below w.heap.size w W->AbidesFrom W.heap.size J->AbidesFrom W.heap.size Jx->(∀ s A B,J s A->Ex A B->J s B) ->
  (∀ pre x V,J pre V->Sp (pre++[x])->YieldAt F (n-1) P l (enc x) V fun e V'=>(e=.returned (.bool true)∧J (pre++[x]) V'∧KeepsWalks V V')∨(e=.returned (.bool false)∧Jx (pre++[x]) V')) ->
  J [] W->CallsIn F n P g (#[.func (.yield l) #[] #[]]++lb) W fun e W'=>(∃ v,e=.returned v)∧((∃ xs,S xs∧J xs W')∨∃ pre,Sp pre∧Jx pre W')
def Rec (D:Nat) (r:Loop) (W:World):Prop:=W.heap[D+1]?=some (.loop r)∧W.heap[D]?=some (.deferred (some []))
theorem Rec.ab {D:Nat} {r:Loop} {A B:World} {row:Option Nat} (h:Rec D r A) (hg:A.grownBy B row) (hr:∀ i,row=some i->∃ o:Obj,A.heap[i]?=some o∧o.isWalk=true):Rec D r B :=
 ⟨(grownBy_keeps hg hr h.1 rfl).trans h.1,(grownBy_keeps hg hr h.2 rfl).trans h.2⟩
theorem Rec.others {D:Nat} {r:Loop} {A B:World} (h:Rec D r A) (hk:KeepsOthers A B):Rec D r B:=⟨hk.same _ _ h.1 rfl,hk.same _ _ h.2 rfl⟩
theorem Rec.keeps {D B0:Nat} {r:Loop} {A B:World} (h:Rec D r A) (hk:KeepsFrom B0 A B) (hB:B0<=D):Rec D r B:=⟨hk.same _ _ (by omega) h.1 rfl,hk.same _ _ hB h.2 rfl⟩
theorem Rec.turn {D:Nat} {r r':Loop} {A:World} (h:Rec D r A):Rec D r' (A.putObj (D+1) (.loop r')) :=
 ⟨World.putObj_heap_same (Array.getElem?_eq_some_iff.1 h.1).1,(World.putObj_heap_other (by omega)).trans h.2⟩
theorem k7s {W:World} {l:Nat} {r r':Loop} (h:W.heap[l]?=some (.loop r)):KeepsWalks W (W.putObj l (.loop r')):=by
 refine⟨by simp,fun k o hk ho=>?_⟩
 by_cases e:k=l
 ·rw[e,h] at hk;cases hk;cases ho
 ·exact(World.putObj_heap_other e).trans hk
variable {F:Fence} {n:Nat} {P:Program}
def k3t {α:Type} (B:Nat) (I:List α->World->Prop) (Ix:Code->List α->World->Prop) (xs:List α) (W:World):Exit->Act->World->Prop
 | .normal,_,W'=>KeepsFrom B W W'∧KeepsWalks W W'∧I xs W'
 | .ret,_,W'=>KeepsFrom B W W'∧Ix .ret xs W'
 | .exit id,_,W'=>KeepsFrom B W W'∧Ix (.exit id) xs W'
 | .goto t,_,W'=>KeepsFrom B W W'∧Ix (.goto t) xs W'
 | _,_,_=>False
theorem q1m {α:Type} {g:Operand} {ps:Array Tmp} {assign body:Code} {Q:Exit->Act->World->Prop} {a:Act} {w:World}
 (az:F.round=none) (h1:1<=n) {gf:Nat} {lb:Array Value} (hg:a.eval g=.func (.func gf) #[] lb) (am:F.fn gf) (eg:∀ args w,(callFunc gf args).run P w=.ok (.enter gf args) w)
 {enc:α->Array Value} {Ex:World->World->Prop} {S Sp:List α->Prop} (af:SeqE F (n-1) P gf lb enc Ex S Sp w) (aF:∀ A B,Ex A B->KeepsOthers A B) (ak:∀ x,(enc x).size=ps.size)
 (I:List α->World->Prop) (Ix:Code->List α->World->Prop) (hI:OwnFrom w.heap.size I) (a9:∀ c,OwnFrom w.heap.size (Ix c)) (aC:∀ s A B,I s A->Ex A B->I s B) (h0:I [] w)
 (Ax:α->Act->World->Prop) (aB:∀ x a',OwnFrom w.heap.size (fun(_:Unit) W=>Ax x a' W))
 (a6:∀ (l:Nat) (a2:List α) (x:α) (W:World) (K:Act->World->Prop),I a2 W->Sp (a2++[x])->(∀ a' W',KeepsFrom w.heap.size W W'->KeepsWalks W W'->I a2 W'->Ax x a' W'->K a' W') ->
   assign.wpIn (F.inRound l) (n-1-1) P (Exit.then K (fun _ _ _=>False)) { tmps:=(ps.zip (enc x)).foldl (fun t (p,v)=>t.setIfInBounds p v) a.tmps,defers:=[] } W)
 (ad:∀ (l:Nat) (a2:List α) (x:α) (a':Act) (W:World),I a2 W->Ax x a' W->Sp (a2++[x])->body.wpIn (F.inRound l) (n-1-1) P (k3t w.heap.size I Ix (a2++[x]) W) a' W)
 (ae:∀ (D:Nat) (xs:List α) (W:World),w.heap.size<=D->S xs->I xs W->W.heap[D]?=some (.deferred (some []))->Q .normal { a with defers:={ target:=.collected D,args:=#[] }::a.defers } W)
 (aa:∀ (D:Nat) (c:Code) (a2:List α) (W:World),w.heap.size<=D->Sp a2->Ix c a2 W->W.heap[D]?=some (.deferred (some []))->c.wpIn F n P Q { a with defers:={ target:=.collected D,args:=#[] }::a.defers } W) :
 (Code.rangeFunc g ps assign body).wpIn F n P Q a w:=by
 refine wpIn_rangeFunc fun fn hfn=>?_
 rw[az];obtain⟨D,hD⟩:∃ D,D=w.heap.size:=⟨_,rfl⟩;obtain⟨a0,a1⟩:∃ a0:LoopState->Option Code->Loop,a0=fun st pe=>{ state:=st,pending:=pe,fn,tmps:=a.tmps,params:=ps,assign,body,defers:=D }:=⟨_,rfl⟩
 have ag:∀ st pe,(a0 st pe).state=st:=fun st pe=>by rw[a1]
 have aj:∀ st pe,(a0 st pe).pending=pe:=fun st pe=>by rw[a1]
 have aw:∀ st pe st' pe',{ a0 st pe with state:=st',pending:=pe' }=a0 st' pe':=fun _ _ _ _=>by rw[a1]
 have a7:∀ st pe st',{ a0 st pe with state:=st' }=a0 st' pe:=fun _ _ _=>by rw[a1]
 obtain⟨W1,a8⟩:∃ W1,(w.alloc (.deferred (some []))).alloc (.loop (a0 .ready none))=W1:=⟨_,rfl⟩;have aG:W1.heap.size=D+2:=by rw[<-a8,hD];simp
 have aq:Rec D (a0 .ready none) W1:=by
  have e1:(w.alloc (.deferred (some []))).heap.size=D+1:=by rw[hD];simp
  refine⟨?_,?_⟩
  ·have:=World.alloc_heap_new (w.alloc (.deferred (some []))) (.loop (a0 .ready none));rw[e1] at this;rwa [<-a8]
  ·rw[<-a8,Below.heap_alloc _ _ _ (by omega),hD];exact World.alloc_heap_new w _
 have av:I [] W1:=by rw[<-a8];exact hI.alloc _ (hI.alloc _ h0)
 have aD:Below w.heap.size w W1:=by rw[<-a8];exact((zB2 _ w).alloc (zL9 _) _).alloc (by simp) _
 refine⟨D+1,[{ target:=.collected D,args:=#[] }],W1,{ target:=.fn (.func gf) lb,args:=#[.func (.yield (D+1)) #[] #[]] },W1,gf,#[.func (.yield (D+1)) #[] #[]]++lb,W1,?_,?_,?_,?_,fun _=>h1,?_⟩
 ·rw[<-a8,a1,hD];exact run_enterLoop_outer _ _ _ _ _
 ·simp only[resolve,hg];simp[go_sem]
 ·intro f' ai;simp[Target.leads] at ai;subst ai;exact am
 ·simp[invoke,go_sem,eg]
 have nw:∀ {A B:World} {row:Option Nat},A.grownBy B row->(∀ r,row=some r->W1.heap.size<=r∧∃ o:Obj,A.heap[r]?=some o∧o.isWalk=true)->∀ r,row=some r->w.heap.size<=r∧∃ o:Obj,A.heap[r]?=some o∧o.isCells=false :=
  fun _ hr r e=>by obtain⟨hB,o,ho,hw⟩:=hr r e;exact⟨by omega,o,ho,Obj.not_cells_of_walk hw⟩
 refine(af (D+1) (fun a2 W=>I a2 W∧Rec D (a0 .ready none) W) (fun a2 W=>∃ c,Ix c a2 W∧Rec D (a0 .done (some c)) W) W1 aD
  (fun s A B row hs hg' hr=>⟨hI s A B row hs.1 hg' (nw hg' hr),hs.2.ab hg' fun r e=>(hr r e).2⟩)
  (fun s A B row hs hg' hr=>by obtain⟨c,hc,hl⟩:=hs;exact⟨c,a9 c s A B row hc hg' (nw hg' hr),hl.ab hg' fun r e=>(hr r e).2⟩)
  (fun s A B hs hx=>⟨aC s A B hs.1 hx,hs.2.others (aF A B hx)⟩) ?round ⟨av,aq⟩).mono ?behind
 case round =>
  rintro a2 x V ⟨hi,hR⟩ ah;have hy:=run_yield (P:=P) (args:=enc x) hR.1 (by rw[a1];exact ak x)
  have e1:(a0 .ready none).fn=fn:=by rw[a1]
  have e2:(a0 .ready none).params=ps:=by rw[a1]
  have e3:(a0 .ready none).tmps=a.tmps:=by rw[a1]
  have e4:(a0 .ready none).assign=assign:=by rw[a1]
  have e5:(a0 .ready none).body=body:=by rw[a1]
  rw[e1,e2,e3,e4,e5] at hy;refine⟨fn,_,assign,body,hy,roundIn_of_wpIn hfn (a6 _ a2 x V _ hi ah ?_)⟩;intro a' U aE an ax ay;have ac:=hR.keeps aE (by omega)
  refine⟨_,run_beginRound ac.1 (ag _ _),?_⟩;rw[a7];have ao:Rec D (a0 .busy none) (U.putObj (D+1) (.loop (a0 .busy none))):=ac.turn;have ar:=k7s (r':=a0 .busy none) ac.1;refine wpIn_mono (ad _ a2 x a' _ (hI.putObj _ ax (by omega) ac.1 rfl) ((aB x a').putObj (s:=()) _ ay (by omega) ac.1 rfl) ah) ?_
  have fin:∀ (a5:Option Code) (Z:World),KeepsFrom w.heap.size (U.putObj (D+1) (.loop (a0 .busy none))) Z ->
   (Instr.endRound (D+1) a5).run P Z=.ok (.bool a5.isNone) (Z.putObj (D+1) (.loop (a0 (if a5.isNone then .ready else .done) a5)))∧Rec D (a0 .busy none) Z:=fun a5 Z hk=>by
   have a4:=ao.keeps hk (by omega)
   have:=run_endRound (P:=P) a5 a4.1;rw[aw] at this;exact⟨this,a4⟩
  intro e a3 Z hp;cases e with
  | normal =>
    obtain⟨k1,k2,k3⟩:=hp;obtain⟨hr,a4⟩:=fin none Z k1;exact⟨_,_,hr,.inl ⟨rfl,⟨hI.putObj _ k3 (by omega) a4.1 rfl,a4.turn⟩,an.trans (ar.trans (k2.trans (k7s a4.1)))⟩⟩
  | ret =>
    obtain⟨hr,a4⟩:=fin (some .ret) Z hp.1;exact⟨_,_,hr,.inr ⟨rfl,_,(a9 _).putObj _ hp.2 (by omega) a4.1 rfl,a4.turn⟩⟩
  | exit id =>
    obtain⟨hr,a4⟩:=fin (some (.exit id)) Z hp.1;exact⟨_,_,hr,.inr ⟨rfl,_,(a9 _).putObj _ hp.2 (by omega) a4.1 rfl,a4.turn⟩⟩
  | goto t =>
    obtain⟨hr,a4⟩:=fin (some (.goto t)) Z hp.1;exact⟨_,_,hr,.inr ⟨rfl,_,(a9 _).putObj _ hp.2 (by omega) a4.1 rfl,a4.turn⟩⟩
  | panic ch=>exact hp.elim
  | outgrown=>exact hp.elim
 case behind =>
  rintro e Z ⟨⟨v,rfl⟩,(⟨xs,hS,hi,hR⟩|⟨a2,aA,c,hi,hR⟩)⟩
  ·have:=run_endLoop (P:=P) hR.1 (by rw[ag];simp)
   rw[a7,aj] at this;exact⟨none,_,this,ae D xs _ (by omega) hS (hI.putObj _ hi (by omega) hR.1 rfl) hR.turn.2⟩
  ·have:=run_endLoop (P:=P) hR.1 (by rw[ag];simp)
   rw[a7,aj] at this;exact⟨some c,_,this,aa D c a2 _ (by omega) aA ((a9 c).putObj _ hi (by omega) hR.1 rfl) hR.turn.2⟩
def eDe (d:De):List Value:=[.int .i64 d.kind,.int .i64 d.flock,.int .i64 d.owner,.int .i64 d.other,.int .i64 d.tof,.int .i64 d.many,.int .i64 d.err,.int .i64 d.s.n,.bool d.s.l,.bool d.s.r,.int .i64 d.s.b,.int .i64 d.s.p]
theorem j3k (d:De):(eDe d).length=12:=rfl
abbrev Deeds (w:World) (A:Option Addr) (n:Nat) (l:List De):Prop:=Sl eDe 12 w A n l
theorem Deeds.get {w:World} {A:Option Addr} {n:Nat} {l:List De} (h:Deeds w A n l) {k:Nat} (hk:k<n) :
 ∃ b off d,A=some ⟨b,off,none⟩∧b<w.heap.size∧l[k]?=some d∧w.cell? ⟨b,off+k*12,none⟩=some (.int .i64 d.kind) ∧
  w.cell? ⟨b,off+k*12+1,none⟩=some (.int .i64 d.flock)∧w.cell? ⟨b,off+k*12+2,none⟩=some (.int .i64 d.owner)∧w.cell? ⟨b,off+k*12+3,none⟩=some (.int .i64 d.other) ∧
  w.cell? ⟨b,off+k*12+4,none⟩=some (.int .i64 d.tof)∧w.cell? ⟨b,off+k*12+5,none⟩=some (.int .i64 d.many)∧w.cell? ⟨b,off+k*12+6,none⟩=some (.int .i64 d.err) ∧
  w.cell? ⟨b,off+k*12+7,none⟩=some (.int .i64 d.s.n)∧w.cell? ⟨b,off+k*12+8,none⟩=some (.bool d.s.l)∧w.cell? ⟨b,off+k*12+9,none⟩=some (.bool d.s.r) ∧
  w.cell? ⟨b,off+k*12+10,none⟩=some (.int .i64 d.s.b)∧w.cell? ⟨b,off+k*12+11,none⟩=some (.int .i64 d.s.p):=by
 obtain⟨b,off,x,hA,hx,hc⟩:=h.at_ hk;have h0:=hc 0 _ rfl;exact⟨b,off,x,hA,j2c h0,hx,h0,hc 1 _ rfl,hc 2 _ rfl,hc 3 _ rfl,hc 4 _ rfl,hc 5 _ rfl,hc 6 _ rfl,hc 7 _ rfl,hc 8 _ rfl,hc 9 _ rfl,hc 10 _ rfl,hc 11 _ rfl⟩
theorem q5d:(Tryz.prog.info? 33).map (·.size)=some 12:=by kernel_rfl
abbrev dZ:Obj:=.cells #[.int .i64 0,.int .i64 0,.int .i64 0,.int .i64 0,.int .i64 0,.int .i64 0,.int .i64 0,.int .i64 0,.bool false,.bool false,.int .i64 0,.int .i64 0] 33 (0,0)
theorem j9f {ops:Array Oper} {rest:List Oper} {o:Oper} {a:Act} {w:World} {Q:Exit->Act->World->Prop} {b:Nat} {d:De} {old:Array Value} (hb:w.heap[b]?=some (.cells old 33 (0,0))) (a0:old.size=12)
 (hg:o.guard=none) (x y:Operand) (ho:o.op=.store 33 x y) (hx:a.eval x=.pointer (some ⟨b,0,none⟩)) (hy:a.eval y=dv d)
 (hK:∀ w2,w2.heap[b]?=some (dObj d)->w.grownBy w2 (some b)->w2.heap.size=w.heap.size->wpList Tryz.prog ops Q rest (a.put o.dst undef) w2):wpList Tryz.prog ops Q (o::rest) a w:=by
 refine wpList_store_row hg 33 x y ho b _ hx hy _ old hb (by rw[q5d];rfl) (by rw[a0];rfl) (by simp[Value.oneCell']) (hK _ (setRow_heap _ _ _ _ _ _ hb) ⟨rfl,rfl,rfl,by simp[World.setRow],fun k hk hne=>?_⟩ (by simp[World.setRow]))
 unfold World.setRow;rw[Array.getElem?_modify,if_neg (fun e=>hne (by rw[e]))]
structure Hb where
 t:Int
 A:Option Addr
 c:Nat
 l:List Mk
 Ak:Option Addr
 ck:Nat
 ks:List Int
 Ah:Option Addr
 ch:Nat
 hs:List (List Int)
 Ad:Option Addr
 cd:Nat
 ds:List De
namespace Hb
variable (b:Hb)
abbrev vm:Value:=.slice b.A b.l.length b.c
abbrev vk:Value:=.slice b.Ak b.ks.length b.ck
abbrev vh:Value:=.slice b.Ah b.hs.length b.ch
abbrev vd:Value:=.slice b.Ad b.ds.length b.cd
abbrev v:Value:=.agg #[.int .i64 b.t,.slice b.A b.l.length b.c,.slice b.Ak b.ks.length b.ck,.slice b.Ah b.hs.length b.ch,.slice b.Ad b.ds.length b.cd]
abbrev bk (deed owner now:Int):Obj:=bkObj b.t b.A b.l.length b.c b.vk b.vh b.vd deed owner now
def chk:Int:=j3m b.t b.l b.ks b.hs b.ds
def ends (deed owner:Int):List (List Int):=j2l b.t b.l b.hs b.ds deed owner
end Hb
structure HbIn (w:World) (b:Hb):Prop where
 m:Marks w b.A b.l.length b.l
 mc:b.l.length<=b.c
 mm:b.c<=maxLen
 k:Ints w b.Ak b.ks.length b.ks
 kc:b.ks.length<=b.ck
 km:b.ck<=maxLen
 h:Grid w b.Ah b.hs.length b.hs
 hc:b.hs.length<=b.ch
 hm:b.ch<=maxLen
 d:Deeds w b.Ad b.ds.length b.ds
 dc:b.ds.length<=b.cd
 dm:b.cd<=maxLen
theorem HbIn.below {w w':World} {b:Hb} {B:Nat} (h:HbIn w b) (hb:Below B w w') (hB:w.heap.size<=B):HbIn w' b :=
 ⟨h.m.below hb hB,h.mc,h.mm,h.k.below hb hB,h.kc,h.km,h.h.below hb hB,h.hc,h.hm,h.d.below hb hB,h.dc,h.dm⟩
structure NowIn (p:Nat) (O:Int->Obj) (w w':World):Prop where
 os:w'.os=w.os
 tape:w'.tape=w.tape
 output:w'.output=w.output
 size:w.heap.size<=w'.heap.size
 block:∀ k,k<w.heap.size->k≠p->w'.heap[k]?=w.heap[k]?
 hp:∃ now,w'.heap[p]?=some (O now)
section
variable {p:Nat} {O:Int->Obj} {a b c w w':World}
theorem NowIn.refl (h:∃ now,w.heap[p]?=some (O now)):NowIn p O w w:=⟨rfl,rfl,rfl,zL9 _,fun _ _ _=>rfl,h⟩
theorem NowIn.trans (h:NowIn p O a b) (k:NowIn p O b c):NowIn p O a c :=
 ⟨k.os.trans h.os,k.tape.trans h.tape,k.output.trans h.output,zB6 h.size k.size,fun i hi hne=>(k.block i (Nat.lt_of_lt_of_le hi h.size) hne).trans (h.block i hi hne),k.hp⟩
theorem NowIn.lt (h:NowIn p O a b):p<b.heap.size:=by obtain⟨n,hn⟩:=h.hp;exact j0a hn
theorem NowIn.then (h:NowIn p O a b) (hp:p<a.heap.size) (os:c.os=b.os) (tape:c.tape=b.tape) (output:c.output=b.output) (size:a.heap.size<=c.heap.size) (block:∀ k,k<a.heap.size->c.heap[k]?=b.heap[k]?):NowIn p O a c :=
 ⟨os.trans h.os,tape.trans h.tape,output.trans h.output,size,fun i hi hne=>(block i hi).trans (h.block i hi hne),by obtain⟨n,hn⟩:=h.hp;exact⟨n,(block p hp).trans hn⟩⟩
theorem NowIn.below {B:Nat} (h:NowIn p O a b) (hp:p<a.heap.size) (k:Below B b c) (hB:a.heap.size<=B):NowIn p O a c :=
 h.then hp k.os k.tape k.output (zB6 h.size k.size) fun i hi=>k.block i (by omega)
theorem NowIn.grown {row:Option Nat} (h:NowIn p O a b) (hp:p<a.heap.size) (k:b.grownBy c row) (hr:∀ i,row=some i->a.heap.size<=i):NowIn p O a c :=
 h.then hp k.os k.tape k.output (zB6 h.size k.size) fun i hi=>k.block i (by have:=h.size;omega) (fun e=>by have:=hr i e.symm;omega)
theorem NowIn.drew (h:NowIn p O a b):NowIn p O a b.drew:=⟨h.os,h.tape,h.output,h.size,h.block,h.hp⟩
theorem NowIn.less {B:Nat} (h:NowIn p O a b) (hB:B<=p) (hw:B<=a.heap.size):Below B a b:=⟨h.os,h.tape,h.output,h.size,fun k hk=>h.block k (by omega) (by omega)⟩
theorem NowIn.of_below {B:Nat} (h:Below B a b) (hp:∃ now,a.heap[p]?=some (O now)) (hB:a.heap.size<=B):NowIn p O a b :=
 (NowIn.refl hp).below (by obtain⟨n,hn⟩:=hp;exact j0a hn) h hB
theorem NowIn.blk {k:Nat} {o:Obj} (h:NowIn p O a b) (hk:a.heap[k]?=some o) (a0:k≠p):b.heap[k]?=some o:=(h.block k (j0a hk) a0).trans hk
end
structure Work (w0:World) (p:Nat) (b:Hb) (deed owner:Int) (w:World):Prop where
 hin:HbIn w0 b
 hz:w0.heap.size<=p
 bel:Below w0.heap.size w0 w
 hp:∃ now,w.heap[p]?=some (b.bk deed owner now)
 ck:b.chk=0
section
variable {w0 w w':World} {p:Nat} {b:Hb} {deed owner:Int}
theorem Work.lt (h:Work w0 p b deed owner w):p<w.heap.size:=by obtain⟨n,hn⟩:=h.hp;exact j0a hn
theorem Work.now (h:Work w0 p b deed owner w) (k:NowIn p (b.bk deed owner) w w'):Work w0 p b deed owner w':=⟨h.hin,h.hz,h.bel.trans (k.less h.hz h.bel.size),k.hp,h.ck⟩
theorem Work.below {B:Nat} (h:Work w0 p b deed owner w) (k:Below B w w') (hB:w.heap.size<=B):Work w0 p b deed owner w':=h.now (NowIn.of_below k h.hp hB)
theorem Work.inn (h:Work w0 p b deed owner w):HbIn w b:=h.hin.below h.bel (zL9 _)
theorem Work.ok (h:Work w0 p b deed owner w):HeOk b.t b.l b.ks b.hs b.ds:=j2x h.ck
theorem Work.book (h:Work w0 p b deed owner w) {now:Int} (hp:w.heap[p]?=some (b.bk deed owner now)):Book w p b.t b.A b.l.length b.c b.l b.vk b.vh b.vd deed owner now :=
 ⟨hp,h.inn.m,h.inn.mc,h.inn.mm,h.ok.ck⟩
theorem Work.refl (h:Work w0 p b deed owner w):NowIn p (b.bk deed owner) w w:=NowIn.refl h.hp
end
def ExN (p:Nat) (A B:World):Prop:=∃ i:Int,B=A.setCell ⟨p,7,none⟩ (.int .i64 i)
theorem ExN.others {p:Nat} (A B:World) (h:ExN p A B):KeepsOthers A B:=by obtain⟨i,rfl⟩:=h;exact KeepsOthers.setCell _ _ _
theorem k8k {w:World} {p:Nat} {b:Hb} {deed owner now:Int} (h:w.heap[p]?=some (b.bk deed owner now)) (i:Int):(w.setCell ⟨p,7,none⟩ (.int .i64 i)).heap[p]?=some (b.bk deed owner i):=by
 rw[j0g h];rfl
theorem NowIn.set {p:Nat} {b:Hb} {deed owner:Int} {w w':World} (h:NowIn p (b.bk deed owner) w w') (i:Int):NowIn p (b.bk deed owner) w (w'.setCell ⟨p,7,none⟩ (.int .i64 i)):=by
 obtain⟨n,hn⟩:=h.hp;exact⟨h.os,h.tape,h.output,by simpa using h.size,fun k hk hne=>(zB1 _ ⟨p,7,none⟩ _ _ hne).trans (h.block k hk hne),⟨i,k8k hn i⟩⟩
theorem q3e {p:Nat} {b:Hb} {deed owner:Int} {w w':World} {β:Type} {J:β->World->Prop} {s:β} (hJ:AbidesFrom w.heap.size J) (hE:∀ s A B,J s A->ExN p A B->J s B) (h:NowIn p (b.bk deed owner) w w') (h0:∃ now,w.heap[p]?=some (b.bk deed owner now)) (hs:J s w):J s w':=by
 obtain⟨n,hn⟩:=h.hp;obtain⟨n0,a0⟩:=h0;refine hJ s (w.setCell ⟨p,7,none⟩ (.int .i64 n)) w' none (hE _ _ _ hs ⟨n,rfl⟩) ⟨h.os,h.tape,h.output,by simpa using h.size,fun k hk _=>?_⟩ (fun r e=>by cases e)
 by_cases e:k=p
 ·subst e;rw[hn,k8k a0]
 ·rw[zB1 _ ⟨p,7,none⟩ _ _ e];exact h.block k (by simpa using hk) e
theorem j4x (p:Nat) (O:Value) (t:Int) (A:Option Addr) (n c:Nat) (ks hs ds:Value) (deed owner now:Int) (AL:Option Addr) (m cl:Nat) (L:List Int) (w:World) (hp:w.heap[p]?=some (bkObj t A n c ks hs ds deed owner now)) (hL:Ints w AL m L) (hn:n<=maxLen) (hm:m<=maxLen) :
 Calls Tryz.prog 58 #[.pointer (some ⟨p,0,none⟩),.slice AL m cl] w fun e w'=>e=.returned (.bool (L.all (ownB n)))∧w=w':=by
 unfold maxLen at hn hm;have HL:=zQ9 hL.len;obtain⟨p0,p1,p2,p3,p4,p5,p6,p7⟩:=blkB hp;have a0:=j0a hp;clear hp;go_enter Tryz.func58,Tryz.ntmps58
 go_wp2
 go_loopg [9] m (fun g i wr=>∃ q:Nat,q+g=m∧i=.int .i64 q∧(L.take q).all (ownB n)=true∧w=wr)
 case atStart=>exact⟨0,by omega,rfl,by simp,rfl⟩
 case round =>
  obtain⟨q,hq,rfl,hall,rfl⟩:=hrel;have HQ:=zQ9 hq;have HA:=zQ9 hall;have a1:q<=m:=by omega
  clear hq hall;by_cases hlt:q<m
  ·obtain⟨b,off,x,rfl,hb,hx,d0⟩:=Ints.get hL hlt;have HX:=zQ9 hx;clear hx;go_wp2_with (go_at_call 102;refine(j2k _ _ _ _).mono ?_;rintro e w' ⟨rfl,rfl⟩)
   ·have hin:ownB n x=false:=by simpa[ownB] using ‹(!btw x 0 (↑n-1))=true›
    go_ret
    exact⟨j0s (by rw[k2c HX.o hin]),rfl⟩
   ·have hin:ownB n x=true:=by simpa[ownB] using ‹(!btw x 0 (↑n-1))=false›
    go_roundg (gk-1)
    case measure=>have:=HQ.o;omega
    case rel=>exact⟨q+1,by have:=HQ.o;omega,by go_num,k0b HA.o HX.o hin,rfl⟩
  ·obtain rfl:q=m:=by omega
   go_wp2
   go_ret
   exact⟨j0s (by have:=HA.o;rw[<-HL.o,List.take_length] at this;exact this.symm),rfl⟩
theorem j9i (p:Nat) (t:Int) (A:Option Addr) (n c:Nat) (Ak:Option Addr) (nk ck:Nat) (hs ds:Value) (deed owner now:Int) (x:Int) (w:World) (hp:w.heap[p]?=some (bkObj t A n c (.slice Ak nk ck) hs ds deed owner now)) (hn:nk<=maxLen) :
 Calls Tryz.prog 79 #[.pointer (some ⟨p,0,none⟩),.int .i64 x] w fun e w'=>e=.returned (.bool (ownB nk x))∧w=w':=by
 unfold maxLen at hn;obtain⟨p0,p1,p2,p3,p4,p5,p6,p7⟩:=blkB hp;have a0:=j0a hp;clear hp;go_enter Tryz.func79,Tryz.ntmps79
 go_wp2_with (go_at_call 102;refine(j2k _ _ _ _).mono ?_;rintro e w' ⟨rfl,rfl⟩)
 go_ret
 exact⟨rfl,rfl⟩
theorem q2y (p:Nat) (b:Hb) (deed owner now:Int) (w:World) (hp:w.heap[p]?=some (b.bk deed owner now)) (hin:HbIn w b) :
 Calls Tryz.prog 64 #[.pointer (some ⟨p,0,none⟩)] w fun e w'=>e=.returned (.int .i64 (j1k b.l.length b.ks b.hs))∧w=w':=by
 have hk:=hin.k;have a7:b.ks.length<=maxLen:=zB6 hin.kc hin.km;have a6:b.l.length<=maxLen:=zB6 hin.mc hin.mm;have a9:b.hs.length<=maxLen:=zB6 hin.hc hin.hm;have hG:=hin.h;have HO:=zQ9 (j4x p .nilFunc b.t b.A b.l.length b.c b.vk b.vh b.vd deed owner now b.Ak b.ks.length b.ck b.ks w hp hk a6 a7);obtain⟨p0,p1,p2,p3,p4,p5,p6,p7⟩:=blkB hp;have af:=j0a hp;replace p2:w.cell? ⟨p,2,none⟩=some (.slice b.Ak b.ks.length b.ck):=p2;obtain⟨Ah,a8⟩:∃ Ah,Ah=b.Ah:=⟨_,rfl⟩;replace p3:w.cell? ⟨p,3,none⟩=some (.slice Ah b.hs.length b.ch):=by rw[a8];exact p3
 rw[<-a8] at hG;obtain⟨nk,a2⟩:∃ nk,nk=b.ks.length:=⟨_,rfl⟩;obtain⟨nh,a3⟩:∃ nh,nh=b.hs.length:=⟨_,rfl⟩;obtain⟨n,a1⟩:∃ n,n=b.l.length:=⟨_,rfl⟩;rw[<-a2] at p2 a7;rw[<-a3] at p3 hG a9;rw[<-a1] at p1 a6;have HN:=zQ9 (zA9 a2 (zA9 a3 a1));unfold maxLen at a7 a6 a9;clear hp hin hk a8 a2 a3 a1 p0 p4 p5 p6 p7;go_enter Tryz.func64,Tryz.ntmps64
 obtain⟨ab,a5⟩:∃ ab,ab=b.ks.all (ownB b.l.length):=⟨_,rfl⟩;rw[<-a5,<-HN.o.1] at HO;have a0:=zQ9 a5;clear a5;by_cases h0:nk=0
 ·have x0:((nk:Int)==0)=true:=by simp[h0]
  have H0:=zQ9 h0;clear h0;go_wp2_with fail
  go_ret
  exact⟨j0j (by unfold j1k;rw[if_pos (by rw[<-HN.o.1];exact H0.o)]),rfl⟩
 have x0:((nk:Int)==0)=false:=by simp[h0]
 have H0:=zQ9 h0;clear h0;by_cases h3:3<nk
 ·have x3:decide (3<(nk:Int))=true:=by simp;omega
  have H3:=zQ9 h3;clear h3;go_wp2_with fail
  go_ret
  exact⟨j0j (by unfold j1k;rw[if_neg (by rw[<-HN.o.1];exact H0.o),if_pos (by rw[<-HN.o.1];exact H3.o)]),rfl⟩
 have x3:decide (3<(nk:Int))=false:=by simp;omega
 have H3:=zQ9 h3;clear h3;cases ab with
 | false =>
   go_wp2_with (go_at_call 58;refine HO.o.mono ?_;rintro e w' ⟨rfl,rfl⟩)
   go_ret
   exact⟨j0j (by unfold j1k;rw[if_neg (by rw[<-HN.o.1];exact H0.o),if_neg (by rw[<-HN.o.1];exact H3.o),if_pos a0.o.symm]),rfl⟩
 | true =>
 by_cases hh:nh=nk
 ·have x4:((nh:Int) != (nk:Int))=false:=by simp[hh]
  have HE:=zQ9 (show j1k b.l.length b.ks b.hs=if b.hs.all (fun r=>decide (r.length=b.l.length))=false then 2 else if b.hs.all (fun r=>r.all fun x=>btw x 0 20)=false then 1 else 0 by
   unfold j1k;rw[if_neg (by rw[<-HN.o.1];exact H0.o),if_neg (by rw[<-HN.o.1];exact H3.o),if_neg (by rw[<-a0.o];simp),if_neg (by rw[<-HN.o.1,<-HN.o.2.1];simpa using hh)])
  clear hh H0 H3 a0;go_wp2_with (go_at_call 58;refine HO.o.mono ?_;rintro e w' ⟨rfl,rfl⟩)
  clear x0 x3 x4 HO;go_loopg [46] nh (fun g v wr=>∃ k:Nat,k+g=nh∧v=.int .i64 k∧(b.hs.take k).all (fun r=>decide (r.length=b.l.length))=true∧w=wr)
  case atStart=>exact⟨0,by omega,rfl,by simp,rfl⟩
  case round =>
   obtain⟨k,hk,rfl,hall,rfl⟩:=hrel;have HK:=zQ9 (zA9 hk hall);clear hk hall;by_cases hlt:k<nh
   ·obtain⟨bi,off,B,row,cx,hA,hb,hr,d0,hin,ac,a4⟩:=hG.get hlt;subst hA;unfold maxLen at a4;have HR:=zQ9 (zA9 hr hin);clear hr hin;by_cases hrl:row.length=n
    ·have y0:((row.length:Int) != (n:Int))=false:=by simp[hrl]
     have HL:=zQ9 hrl;clear hrl;go_wp2_with fail
     go_roundg (gk-1)
     case measure=>have:=HK.o;omega
     case rel=>exact⟨k+1,by have:=HK.o;omega,by go_num,by rw[List.take_add_one,HR.o.1,List.all_append,HK.o.2];simp[HL.o,<-HN.o.2.2],rfl⟩
    ·have y0:((row.length:Int) != (n:Int))=true:=by simp;omega
     have HL:=zQ9 hrl;clear hrl;go_wp2_with fail
     go_ret
     have h2:b.hs.all (fun r=>decide (r.length=b.l.length))=false:=by
      rw[List.all_eq_false];exact⟨row,zB4 HR.o.1,by have:=HL.o;rw[HN.o.2.2] at this;simpa using this⟩
     exact⟨j0j (by rw[HE.o,if_pos h2]),rfl⟩
   ·obtain rfl:k=nh:=by have:=HK.o.1;omega
    have aa:=zQ9 (show b.hs.all (fun r=>decide (r.length=b.l.length))=true by have:=HK.o.2;rw[HN.o.2.1,List.take_length] at this;exact this)
    clear hlt;go_wp2_with fail
    go_loopg [67] k (fun g v wr=>∃ q:Nat,q+g=k∧v=.int .i64 q∧(b.hs.take q).all (fun r=>r.all fun x=>btw x 0 20)=true∧w=wr)
    case atStart=>exact⟨0,by omega,rfl,by simp,rfl⟩
    case round =>
     obtain⟨q,hq,rfl,hall,rfl⟩:=hrel;have HQ:=zQ9 (zA9 hq hall);clear hq hall;by_cases hlt:q<k
     ·obtain⟨bi,off,B,row,cx,hA,hb,hr,d0,hin,ac,a4⟩:=hG.get hlt;subst hA;unfold maxLen at a4;have HR:=zQ9 hr;clear hr;go_wp2_with fail
      obtain⟨go,rfl⟩:∃ go:Nat,go=gk:=⟨_,rfl⟩;go_loopg [73] row.length (fun g v wr=>∃ j:Nat,j+g=row.length∧v=.int .i64 j∧(row.take j).all (fun x=>btw x 0 20)=true∧w=wr)
      case atStart=>exact⟨0,by omega,rfl,by simp,rfl⟩
      case round =>
       obtain⟨j,hj,rfl,hall,rfl⟩:=hrel;have HJ:=zQ9 (zA9 hj hall);clear hj hall;by_cases hjl:j<row.length
       ·obtain⟨bx,ad,x,rfl,ae,hx,dx⟩:=Ints.get hin hjl;have HX:=zQ9 hx;clear hx;go_wp2_with (go_at_call 102;refine(j2k _ _ _ _).mono ?_;rintro e w' ⟨rfl,rfl⟩)
        ·have hb:btw x 0 20=false:=by simpa using ‹(!btw x 0 20)=true›
         go_ret
         have h2:b.hs.all (fun r=>r.all fun x=>btw x 0 20)=false:=List.all_eq_false.2 ⟨row,zB4 HR.o,by rw[k2c (f:=fun x=>btw x 0 20) HX.o hb];simp⟩
         exact⟨j0j (by rw[HE.o,if_neg (by rw[aa.o];simp),if_pos h2]),rfl⟩
        ·have hb:btw x 0 20=true:=by simpa using ‹(!btw x 0 20)=false›
         go_roundg (gk-1)
         case measure=>have:=HJ.o;omega
         case rel=>exact⟨j+1,by have:=HJ.o;omega,by go_num,k0b HJ.o.2 HX.o hb,rfl⟩
       ·obtain rfl:j=row.length:=by have:=HJ.o.1;omega
        go_wp2_with fail
        go_roundg (go-1)
        case measure=>have:=HQ.o;omega
        case rel=>exact⟨q+1,by have:=HQ.o;omega,by go_num,by have:=HJ.o.2;rw[List.take_length] at this;rw[List.take_add_one,HR.o,List.all_append,HQ.o.2];simp only[Option.toList,List.all_cons,List.all_nil,Bool.and_true,Bool.true_and];exact this,rfl⟩
     ·obtain rfl:q=k:=by have:=HQ.o.1;omega
      go_wp2_with fail
      go_ret
      have h2:b.hs.all (fun r=>r.all fun x=>btw x 0 20)=true:=by have:=HQ.o.2;rw[HN.o.2.1,List.take_length] at this;exact this
      exact⟨j0j (by rw[HE.o,if_neg (by rw[aa.o];simp),if_neg (by rw[h2];simp)]),rfl⟩
 ·have x4:((nh:Int) != (nk:Int))=true:=by simp;omega
  have HH:=zQ9 hh;clear hh;go_wp2_with (go_at_call 58;refine HO.o.mono ?_;rintro e w' ⟨rfl,rfl⟩)
  go_ret
  exact⟨j0j (by unfold j1k;rw[if_neg (by rw[<-HN.o.1];exact H0.o),if_neg (by rw[<-HN.o.1];exact H3.o),if_neg (by rw[<-a0.o];simp),if_pos (by rw[<-HN.o.1,<-HN.o.2.1];exact HH.o)]),rfl⟩
end Go.Proofs.YtmennjmjakdkcaaGreat
