/- HerdAll 18: TalW, SwA. -/
import Derived.Test.YtmennjmjakdkcaaGreatAl15
import Derived.Test.YtmennjmjakdkcaaGreatAl05
import Derived.Test.YtmennjmjakdkcaaGreatAl17
import Derived.Deep.CutBlock
import Derived.Deep.RegionHeld3
import Derived.Test.YtmennjmjakdkcaaGreatAl08
namespace Go.Proofs.YtmennjmjakdkcaaGreat
open Go.RowKit
set_option linter.unusedVariables false
set_option linter.unusedSimpArgs false
structure RD (w0 w1:World) (H q:Nat) (t:Int) (vm vk vh bd vd:Value) (ds:List De) (vE:Value) (gs:List (List Int)) (vG:Value) (gone:List Int) (vW:Value) (whose:List Int) (ze1 ze2 zg1 zg2 z3 zr N p:Nat) (d:De) (w:World):Prop where
 td:TDe w0 w1 H q t vm vk vh bd vd ds vE gs vG gone vW whose ze1 ze2 zg1 zg2 z3 zr N w
 bx:w.heap[p]? = some (dObj d)
 pz:zr ≤ p
section
variable {w0 w1 w w':World} {H q N N' ze1 ze2 zg1 zg2 z3 zr p:Nat} {t:Int} {vm vk vh bd vd vE vG vW:Value} {ds:List De} {gs:List (List Int)} {gone whose:List Int} {d:De}
theorem RD.pH (a:RD w0 w1 H q t vm vk vh bd vd ds vE gs vG gone vW whose ze1 ze2 zg1 zg2 z3 zr N p d w):p ≠ H∧q < p:=by
 obtain ⟨a1,a2,a3⟩:=a.td.h1
 obtain ⟨⟨c1,c2,c3,c4,c5,c6⟩,b3,b4⟩:=a.td.zz
 have:=a.pz
 omega
theorem RD.drew1 (a:RD w0 w1 H q t vm vk vh bd vd ds vE gs vG gone vW whose ze1 ze2 zg1 zg2 z3 zr N p d w):RD w0 w1 H q t vm vk vh bd vd ds vE gs vG gone vW whose ze1 ze2 zg1 zg2 z3 zr N p d w.drew:=⟨a.td.drew1,a.bx,a.pz⟩
theorem RD.drewN (a:RD w0 w1 H q t vm vk vh bd vd ds vE gs vG gone vW whose ze1 ze2 zg1 zg2 z3 zr N p d w) (n:Nat):RD w0 w1 H q t vm vk vh bd vd ds vE gs vG gone vW whose ze1 ze2 zg1 zg2 z3 zr N p d (w.drewN n):=⟨a.td.drew n,a.bx,a.pz⟩
theorem RD.alloc (a:RD w0 w1 H q t vm vk vh bd vd ds vE gs vG gone vW whose ze1 ze2 zg1 zg2 z3 zr N p d w) (o:Obj):RD w0 w1 H q t vm vk vh bd vd ds vE gs vG gone vW whose ze1 ze2 zg1 zg2 z3 zr N p d (w.alloc o):=⟨a.td.alloc o,hblk_alloc a.bx o,a.pz⟩
theorem RD.dealt (a:RD w0 w1 H q t vm vk vh bd vd ds vE gs vG gone vW whose ze1 ze2 zg1 zg2 z3 zr N p d w) (hd:Dealt w w' H N'):RD w0 w1 H q t vm vk vh bd vd ds vE gs vG gone vW whose ze1 ze2 zg1 zg2 z3 zr N' p d w':=⟨a.td.dealt hd,hd.blk a.bx a.pH.1,a.pz⟩
theorem RD.below (a:RD w0 w1 H q t vm vk vh bd vd ds vE gs vG gone vW whose ze1 ze2 zg1 zg2 z3 zr N p d w) (hb:Below w.heap.size w w'):RD w0 w1 H q t vm vk vh bd vd ds vE gs vG gone vW whose ze1 ze2 zg1 zg2 z3 zr N p d w' :=
 ⟨a.td.kept (r:=none) ⟨hb.os,hb.tape,hb.output,hb.size,fun k hk _ => hb.block k hk⟩ (by simp) (a.td.dl.less hb (Nat.le_refl _)),(hb.block p (heap_lt a.bx)).trans a.bx,a.pz⟩
theorem RD.mono (a:RD w0 w1 H q t vm vk vh bd vd ds vE gs vG gone vW whose ze1 ze2 zg1 zg2 z3 zr N p d w) (hN:N ≤ N'):RD w0 w1 H q t vm vk vh bd vd ds vE gs vG gone vW whose ze1 ze2 zg1 zg2 z3 zr N' p d w:=⟨a.td.mono hN,a.bx,a.pz⟩
theorem RD.put (a:RD w0 w1 H q t vm vk vh bd vd ds vE gs vG gone vW whose ze1 ze2 zg1 zg2 z3 zr N p d w) (i:Nat) (x:Value) {d':De} (hb:(w.setCell ⟨p,i,none⟩ x).heap[p]? = some (dObj d')):RD w0 w1 H q t vm vk vh bd vd ds vE gs vG gone vW whose ze1 ze2 zg1 zg2 z3 zr N p d' (w.setCell ⟨p,i,none⟩ x):=⟨a.td.far a.pz i x,hb,a.pz⟩
theorem TDe.setL {l:List (Nat × Value)}:∀ {w:World},TDe w0 w1 H q t vm vk vh bd vd ds vE gs vG gone vW whose ze1 ze2 zg1 zg2 z3 zr N w→zr ≤ p→TDe w0 w1 H q t vm vk vh bd vd ds vE gs vG gone vW whose ze1 ze2 zg1 zg2 z3 zr N (setL w p l):=by
 induction l with
 | nil => exact fun a _ => a
 | cons x l ih => exact fun a h => ih (a.far h x.1 x.2) h
theorem RD.deed (a:RD w0 w1 H q t vm vk vh bd vd ds vE gs vG gone vW whose ze1 ze2 zg1 zg2 z3 zr N p d w) (d':De):RD w0 w1 H q t vm vk vh bd vd ds vE gs vG gone vW whose ze1 ze2 zg1 zg2 z3 zr N p d' (setL w p (l12 d')):=⟨a.td.setL a.pz,l12_at a.bx,a.pz⟩
theorem RD.at1 {f o:Nat} (a:RD w0 w1 H q t vm vk vh bd vd ds vE gs vG gone vW whose ze1 ze2 zg1 zg2 z3 zr N p d w) (hf:f < gs.length) (ho:o < (gs.getD f []).length) :
 ∃ b off c g cg,vE = .slice (some ⟨b,off,none⟩) gs.length c∧w.cell? ⟨b,off + f,none⟩ = some (.slice (some ⟨g,0,none⟩) (gs.getD f []).length cg)∧(gs.getD f []).length ≤ cg∧cg ≤ maxLen ∧
  w.cell? ⟨g,o,none⟩ = some (.int .i64 (getG gs f o))∧w.frozen? ⟨g,o,none⟩ = false∧b ≠ g∧g ≠ p ∧
  ∀ x k,x = getG gs f o + k→RD w0 w1 H q t vm vk vh bd vd ds vE (addG gs f o k) vG gone vW whose ze1 ze2 zg1 zg2 z3 zr N p d (w.setCell ⟨g,o,none⟩ (.int .i64 x)):=by
 obtain ⟨b,off,c,g,cg,e1,e2,e3,e4,e5,e6,e7,e8,e9⟩:=a.td.at hf ho
 have:=a.pz
 exact ⟨b,off,c,g,cg,e1,e2,e3,e4,e5,e6,e8,by omega,fun x k hx => ⟨by rw [hx];exact e9 _,(Below.heap_setCell _ ⟨g,o,none⟩ _ _ (by show p ≠ g;omega)).trans a.bx,a.pz⟩⟩
theorem addG_len (gs:List (List Int)) (f o:Nat) (k:Int):(addG gs f o k).length = gs.length:=by unfold addG;rw [List.length_set]
theorem addG_row (gs:List (List Int)) (f o f':Nat) (k:Int):((addG gs f o k).getD f' []).length = (gs.getD f' []).length:=by
 unfold addG
 rw [List.getD_eq_getElem?_getD (l:=gs.set _ _)]
 by_cases h:f = f'
 ·subst h
  by_cases hf:f < gs.length
  ·rw [List.getElem?_set_self hf,Option.getD_some,List.length_set]
  ·rw [List.getElem?_eq_none (by rw [List.length_set];omega),List.getD_eq_getElem?_getD,List.getElem?_eq_none (by omega)]
 ·rw [List.getElem?_set_ne h,← List.getD_eq_getElem?_getD]
theorem addG_get {gs:List (List Int)} {f o f' o':Nat} {k:Int} (h:f ≠ f' ∨ o ≠ o'):getG (addG gs f o k) f' o' = getG gs f' o':=by
 unfold getG addG
 rw [List.getD_eq_getElem?_getD (l:=gs.set _ _)]
 by_cases e:f = f'
 ·subst e
  by_cases hf:f < gs.length
  ·rw [List.getElem?_set_self hf,Option.getD_some,List.getD_eq_getElem?_getD,List.getElem?_set_ne (by omega),← List.getD_eq_getElem?_getD]
  ·rw [List.getElem?_eq_none (by rw [List.length_set];omega),List.getD_eq_getElem?_getD (l:=gs),List.getElem?_eq_none (by omega)]
 ·rw [List.getElem?_set_ne e,← List.getD_eq_getElem?_getD]
theorem RD.at2 {f o f' o':Nat} (a:RD w0 w1 H q t vm vk vh bd vd ds vE gs vG gone vW whose ze1 ze2 zg1 zg2 z3 zr N p d w) (hf:f < gs.length) (ho:o < (gs.getD f []).length) (hf':f' < gs.length) (ho':o' < (gs.getD f' []).length) (hne:f ≠ f' ∨ o ≠ o') :
 ∃ b off c g cg g' cg',vE = .slice (some ⟨b,off,none⟩) gs.length c∧w.cell? ⟨b,off + f,none⟩ = some (.slice (some ⟨g,0,none⟩) (gs.getD f []).length cg)∧w.cell? ⟨b,off + f',none⟩ = some (.slice (some ⟨g',0,none⟩) (gs.getD f' []).length cg') ∧
  ((gs.getD f []).length ≤ cg∧cg ≤ maxLen∧(gs.getD f' []).length ≤ cg'∧cg' ≤ maxLen∧g ≠ p∧g' ≠ p) ∧
  w.cell? ⟨g,o,none⟩ = some (.int .i64 (getG gs f o))∧w.frozen? ⟨g,o,none⟩ = false∧w.cell? ⟨g',o',none⟩ = some (.int .i64 (getG gs f' o')) ∧
  (w.frozen? ⟨g',o',none⟩ = false∧∀ x,(w.setCell ⟨g,o,none⟩ (.int .i64 x)).frozen? ⟨g',o',none⟩ = false∧(w.setCell ⟨g,o,none⟩ (.int .i64 x)).cell? ⟨g',o',none⟩ = some (.int .i64 (getG gs f' o'))) ∧
  ∀ x k y k',x = getG gs f o + k→y = getG gs f' o' + k'→RD w0 w1 H q t vm vk vh bd vd ds vE (addG (addG gs f o k) f' o' k') vG gone vW whose ze1 ze2 zg1 zg2 z3 zr N p d ((w.setCell ⟨g,o,none⟩ (.int .i64 x)).setCell ⟨g',o',none⟩ (.int .i64 y)):=by
 obtain ⟨b,off,c,g,cg,e1,e2,e3,e4,e5,e6,e7,e8,e9⟩:=a.at1 hf ho
 obtain ⟨b',off',c',g',cg',i1,i2,i3,i4,i5,i6,i7,i8,i9⟩:=a.at1 hf' ho'
 rw [e1] at i1
 cases i1
 have step:∀ x k,x = getG gs f o + k→(w.setCell ⟨g,o,none⟩ (.int .i64 x)).frozen? ⟨g',o',none⟩ = false∧(w.setCell ⟨g,o,none⟩ (.int .i64 x)).cell? ⟨g',o',none⟩ = some (.int .i64 (getG gs f' o')) ∧
  ∀ y k',y = getG gs f' o' + k'→RD w0 w1 H q t vm vk vh bd vd ds vE (addG (addG gs f o k) f' o' k') vG gone vW whose ze1 ze2 zg1 zg2 z3 zr N p d ((w.setCell ⟨g,o,none⟩ (.int .i64 x)).setCell ⟨g',o',none⟩ (.int .i64 y)):=fun x k hx => by
  obtain ⟨b2,off2,c2,g2,cg2,j1,j2,j3,j4,j5,j6,j7,j8,j9⟩:=(e9 x k hx).at1 (f:=f') (o:=o') (by rw [addG_len];exact hf') (by rw [addG_row];exact ho')
  rw [e1,addG_len] at j1
  cases j1
  have hcell:(w.setCell ⟨g,o,none⟩ (.int .i64 x)).cell? ⟨b,off + f',none⟩ = w.cell? ⟨b,off + f',none⟩:=World.cell?_of_block (Below.heap_setCell _ ⟨g,o,none⟩ _ _ (by show b ≠ g;exact e7))
  rw [hcell,i2,addG_row] at j2
  cases j2
  rw [addG_get hne] at j5 j9
  exact ⟨j6,j5,fun y k' hy => j9 y k' hy⟩
 refine ⟨b,off,c,g,cg,g',cg',e1,e2,i2,⟨e3,e4,i3,i4,e8,i8⟩,e5,e6,i5,⟨i6,fun x => ?_⟩,fun x k y k' hx hy => (step x k hx).2.2 y k' hy⟩
 have:=step x (x - getG gs f o) (by omega)
 exact ⟨this.1,this.2.1⟩
theorem RD.at3 {A:Option Addr} {n c18 f o:Nat} (a:RD w0 w1 H q t vm vk vh bd vd ds vE gs (.slice A n c18) gone vW whose ze1 ze2 zg1 zg2 z3 zr N p d w) (hf:f < gs.length) (ho:o < (gs.getD f []).length) (hog:o < gone.length) :
 ∃ b off c g cg gg,vE = .slice (some ⟨b,off,none⟩) gs.length c∧A = some ⟨gg,0,none⟩∧w.cell? ⟨b,off + f,none⟩ = some (.slice (some ⟨g,0,none⟩) (gs.getD f []).length cg) ∧
  ((gs.getD f []).length ≤ cg∧cg ≤ maxLen∧g ≠ p∧gg ≠ p) ∧
  w.cell? ⟨g,o,none⟩ = some (.int .i64 (getG gs f o))∧w.frozen? ⟨g,o,none⟩ = false∧w.cell? ⟨gg,o,none⟩ = some (.int .i64 (gone.getD o 0)) ∧
  (w.frozen? ⟨gg,o,none⟩ = false∧∀ x,(w.setCell ⟨g,o,none⟩ (.int .i64 x)).frozen? ⟨gg,o,none⟩ = false∧(w.setCell ⟨g,o,none⟩ (.int .i64 x)).cell? ⟨gg,o,none⟩ = some (.int .i64 (gone.getD o 0))) ∧
  ∀ x k y,x = getG gs f o + k→RD w0 w1 H q t vm vk vh bd vd ds vE (addG gs f o k) (.slice A n c18) (gone.set o y) vW whose ze1 ze2 zg1 zg2 z3 zr N p d ((w.setCell ⟨g,o,none⟩ (.int .i64 x)).setCell ⟨gg,o,none⟩ (.int .i64 y)):=by
 obtain ⟨b,off,c,g,cg,e1,e2,e3,e4,e5,e6,e7,e8,e9⟩:=a.at1 hf ho
 obtain ⟨gg,i1,i2,i3,i4,i5⟩:=a.td.atG hog
 have hpz:=a.pz
 have step:∀ x k,x = getG gs f o + k→(w.setCell ⟨g,o,none⟩ (.int .i64 x)).frozen? ⟨gg,o,none⟩ = false∧(w.setCell ⟨g,o,none⟩ (.int .i64 x)).cell? ⟨gg,o,none⟩ = some (.int .i64 (gone.getD o 0)) ∧
  ∀ y,RD w0 w1 H q t vm vk vh bd vd ds vE (addG gs f o k) (.slice A n c18) (gone.set o y) vW whose ze1 ze2 zg1 zg2 z3 zr N p d ((w.setCell ⟨g,o,none⟩ (.int .i64 x)).setCell ⟨gg,o,none⟩ (.int .i64 y)):=fun x k hx => by
  have a1:=e9 x k hx
  obtain ⟨gg',j1,j2,j3,j4,j5⟩:=a1.td.atG hog
  rw [i1] at j1
  cases j1
  exact ⟨j3,j2,fun y => ⟨j5 y,(Below.heap_setCell _ ⟨gg,o,none⟩ _ _ (by show p ≠ gg;omega)).trans a1.bx,a.pz⟩⟩
 refine ⟨b,off,c,g,cg,gg,e1,i1,e2,⟨e3,e4,e8,by omega⟩,e5,e6,i2,⟨i3,fun x => ?_⟩,fun x k y hx => (step x k hx).2.2 y⟩
 have:=step x (x - getG gs f o) (by omega)
 exact ⟨this.1,this.2.1⟩
end
section
variable {w0 w1 w w':World} {H q N N' ze1 ze2 zg1 zg2 z3 zr p n nh ce:Nat} {t:Int} {vm vk vh bd vd vG vW:Value} {Ae:Option Addr} {ds:List De} {gs:List (List Int)} {gone whose:List Int} {d:De}
theorem RD.c1 {f o:Nat} (a:RD w0 w1 H q t vm vk vh bd vd ds (.slice Ae nh ce) gs vG gone vW whose ze1 ze2 zg1 zg2 z3 zr N p d w) (hs:GSh n nh gs) (hf:f < nh) (ho:o < n) :
 ∃ b off g cg,Ae = some ⟨b,off,none⟩∧nh ≤ ce∧ce ≤ maxLen∧w.cell? ⟨b,off + f,none⟩ = some (.slice (some ⟨g,0,none⟩) n cg)∧n ≤ cg∧cg ≤ maxLen ∧
  w.cell? ⟨g,o,none⟩ = some (.int .i64 (getG gs f o))∧w.frozen? ⟨g,o,none⟩ = false∧g ≠ p ∧
  ∀ x k,x = getG gs f o + k→RD w0 w1 H q t vm vk vh bd vd ds (.slice Ae nh ce) (addG gs f o k) vG gone vW whose ze1 ze2 zg1 zg2 z3 zr N p d (w.setCell ⟨g,o,none⟩ (.int .i64 x)):=by
 obtain ⟨b,off,c,g,cg,e1,e2,e3,e4,e5,e6,e7,e8,e9⟩:=a.at1 (f:=f) (o:=o) (by rw [hs.l];exact hf) (by rw [hs.row hf];exact ho)
 obtain ⟨-,g1,g2,-⟩:=a.td.grid
 rw [hs.l] at e1
 cases e1
 rw [hs.row hf] at e2 e3
 exact ⟨b,off,g,cg,rfl,g1,g2,e2,e3,e4,e5,e6,e8,e9⟩
theorem RD.c2 {f o f' o':Nat} (a:RD w0 w1 H q t vm vk vh bd vd ds (.slice Ae nh ce) gs vG gone vW whose ze1 ze2 zg1 zg2 z3 zr N p d w) (hs:GSh n nh gs) (hf:f < nh) (ho:o < n) (hf':f' < nh) (ho':o' < n) (hne:f ≠ f' ∨ o ≠ o') :
 ∃ b off g cg g' cg',Ae = some ⟨b,off,none⟩∧nh ≤ ce∧ce ≤ maxLen∧w.cell? ⟨b,off + f,none⟩ = some (.slice (some ⟨g,0,none⟩) n cg)∧w.cell? ⟨b,off + f',none⟩ = some (.slice (some ⟨g',0,none⟩) n cg') ∧
  (n ≤ cg∧cg ≤ maxLen∧n ≤ cg'∧cg' ≤ maxLen∧g ≠ p∧g' ≠ p) ∧
  w.cell? ⟨g,o,none⟩ = some (.int .i64 (getG gs f o))∧w.frozen? ⟨g,o,none⟩ = false∧w.cell? ⟨g',o',none⟩ = some (.int .i64 (getG gs f' o')) ∧
  (w.frozen? ⟨g',o',none⟩ = false∧∀ x,(w.setCell ⟨g,o,none⟩ (.int .i64 x)).frozen? ⟨g',o',none⟩ = false∧(w.setCell ⟨g,o,none⟩ (.int .i64 x)).cell? ⟨g',o',none⟩ = some (.int .i64 (getG gs f' o'))) ∧
  ∀ x k y k',x = getG gs f o + k→y = getG gs f' o' + k'→RD w0 w1 H q t vm vk vh bd vd ds (.slice Ae nh ce) (addG (addG gs f o k) f' o' k') vG gone vW whose ze1 ze2 zg1 zg2 z3 zr N p d ((w.setCell ⟨g,o,none⟩ (.int .i64 x)).setCell ⟨g',o',none⟩ (.int .i64 y)):=by
 obtain ⟨b,off,c,g,cg,g',cg',e1,e2,e3,e4,e5,e6,e7,e8,e9⟩:=a.at2 (f:=f) (o:=o) (f':=f') (o':=o') (by rw [hs.l];exact hf) (by rw [hs.row hf];exact ho) (by rw [hs.l];exact hf') (by rw [hs.row hf'];exact ho') hne
 obtain ⟨-,g1,g2,-⟩:=a.td.grid
 rw [hs.l] at e1
 cases e1
 rw [hs.row hf] at e2 e4
 rw [hs.row hf'] at e3 e4
 exact ⟨b,off,g,cg,g',cg',rfl,g1,g2,e2,e3,e4,e5,e6,e7,e8,e9⟩
theorem RD.c1k {be off g cg f o:Nat} (a:RD w0 w1 H q t vm vk vh bd vd ds (.slice (some ⟨be,off,none⟩) nh ce) gs vG gone vW whose ze1 ze2 zg1 zg2 z3 zr N p d w) (hs:GSh n nh gs) (hf:f < nh) (ho:o < n) (hd:w.grownBy w' (some H))
 (h2:w.cell? ⟨be,off + f,none⟩ = some (.slice (some ⟨g,0,none⟩) n cg)):w'.cell? ⟨be,off + f,none⟩ = some (.slice (some ⟨g,0,none⟩) n cg)∧w'.cell? ⟨g,o,none⟩ = some (.int .i64 (getG gs f o)):=by
 obtain ⟨a1,a2,a3⟩:=a.td.h1
 obtain ⟨⟨c1,c2,c3,c4,c5,c6⟩,b3,b4⟩:=a.td.zz
 obtain ⟨b',off',c',g',cg',e1,e2,e3,e4,e5,e6,e7,ebg,e8,e9,-⟩:=a.td.e.at (f:=f) (o:=o) (by rw [hs.l];exact hf) (by rw [hs.row hf];exact ho)
 cases e1
 rw [h2] at e2
 cases e2
 obtain ⟨mv,o1,-⟩:=a.td.e
 have hb:=o1.lt be rfl
 exact ⟨(World.cell?_of_block (hd.block be hb.2 (fun e => by cases e;omega))).trans h2,(World.cell?_of_block (hd.block g e7 (fun e => by cases e;omega))).trans e8⟩
theorem RD.c3 {A:Option Addr} {c18 f o:Nat} (a:RD w0 w1 H q t vm vk vh bd vd ds (.slice Ae nh ce) gs (.slice A n c18) gone vW whose ze1 ze2 zg1 zg2 z3 zr N p d w) (hs:GSh n nh gs) (hf:f < nh) (ho:o < n) :
 ∃ b off g cg gg,Ae = some ⟨b,off,none⟩∧A = some ⟨gg,0,none⟩∧gone.length = n∧n ≤ c18∧c18 ≤ maxLen∧nh ≤ ce∧ce ≤ maxLen∧w.cell? ⟨b,off + f,none⟩ = some (.slice (some ⟨g,0,none⟩) n cg) ∧
  (n ≤ cg∧cg ≤ maxLen∧g ≠ p∧gg ≠ p) ∧
  w.cell? ⟨g,o,none⟩ = some (.int .i64 (getG gs f o))∧w.frozen? ⟨g,o,none⟩ = false∧w.cell? ⟨gg,o,none⟩ = some (.int .i64 (gone.getD o 0)) ∧
  (w.frozen? ⟨gg,o,none⟩ = false∧∀ x,(w.setCell ⟨g,o,none⟩ (.int .i64 x)).frozen? ⟨gg,o,none⟩ = false∧(w.setCell ⟨g,o,none⟩ (.int .i64 x)).cell? ⟨gg,o,none⟩ = some (.int .i64 (gone.getD o 0))) ∧
  ∀ x k y,x = getG gs f o + k→RD w0 w1 H q t vm vk vh bd vd ds (.slice Ae nh ce) (addG gs f o k) (.slice A n c18) (gone.set o y) vW whose ze1 ze2 zg1 zg2 z3 zr N p d ((w.setCell ⟨g,o,none⟩ (.int .i64 x)).setCell ⟨gg,o,none⟩ (.int .i64 y)):=by
 obtain ⟨A',c',hv,_,hc1,hc2⟩:=a.td.g.form lenInt
 cases hv
 obtain ⟨b,off,c,g,cg,gg,e1,e2,e3,e4,e5,e6,e7,e8,e9⟩:=a.at3 (f:=f) (o:=o) (by rw [hs.l];exact hf) (by rw [hs.row hf];exact ho) ho
 obtain ⟨-,g1,g2,-⟩:=a.td.grid
 rw [hs.l] at e1
 cases e1
 rw [hs.row hf] at e3 e4
 exact ⟨b,off,g,cg,gg,rfl,e2,rfl,hc1,hc2,g1,g2,e3,e4,e5,e6,e7,e8,e9⟩
end
theorem tdiv_bd {x:Int} (h:-1600 ≤ x∧x ≤ 1600):-1000000 ≤ x.tdiv 100∧x.tdiv 100 ≤ 1000000:=by
 rcases Int.le_total 0 x with h0 | h0
 ·rw [Int.tdiv_eq_ediv_of_nonneg h0];omega
 ·obtain ⟨y,rfl⟩:∃ y,x = -y:=⟨-x,by omega⟩
  rw [Int.neg_tdiv,Int.tdiv_eq_ediv_of_nonneg (by omega)];omega
theorem cnt_bd {er n a:Int} (he:er = 0 ∨ er = 5 ∨ er = 20) (hn:0 ≤ n∧n ≤ 80) (h1:(-er * n).tdiv 100 ≤ a) (h2:a ≤ (er * n).tdiv 100 ∨ a = (-er * n).tdiv 100):(100 * a ≤ er * n∧-(er * n) ≤ 100 * a)∧-100 ≤ a∧a ≤ 100:=by
 rw [Int.neg_mul,Int.neg_tdiv] at h1 h2
 rcases he with rfl | rfl | rfl
 all_goals
  rw [Int.tdiv_eq_ediv_of_nonneg (by omega)] at h1 h2
  omega
end Go.Proofs.YtmennjmjakdkcaaGreat
namespace Go.Proofs.YtmennjmjakdkcaaGreat
open Go.RowKit
set_option linter.unusedVariables false
set_option linter.unusedSimpArgs false
set_option maxRecDepth 1000000
def findBlk (n:Nat):Code→Option Code
 | .block m c => if m = n then some (.block m c) else findBlk n c
 | .seq a b => match findBlk n a with
   | some x => some x
   | none => findBlk n b
 | .cond _ a b => match findBlk n a with
   | some x => some x
   | none => findBlk n b
 | .loop c => findBlk n c
 | .scope c => findBlk n c
 | _ => none
noncomputable def swCode:Code:=((Tryz.f20.body.bind (findBlk 6)).getD .skip)
def SwD (w w1:World) (H q:Nat) (t:Int) (al nh be off ce g18 ze1 ze2 zg1 zg2 z3 zr p:Nat) (A Ak Ah:Option Addr) (c ck ch:Nat) (vd:Value) (ds:List De) (gs:List (List Int)) (gone:List Int) (vW:Value) (whose:List Int) (N:Nat) (d:De) (W:World):Prop :=
 RD w w1 H q t (.slice A al c) (.slice Ak nh ck) (.slice Ah nh ch) vd vd ds (.slice (some ⟨be,off,none⟩) nh ce) gs (.slice (some ⟨g18,0,none⟩) al al) gone vW whose ze1 ze2 zg1 zg2 z3 zr N p d W
def SwRel (w w1:World) (H q:Nat) (t:Int) (al nh be off ce g18 ze1 ze2 zg1 zg2 z3 zr p:Nat) (A Ak Ah:Option Addr) (c ck ch:Nat) (vd:Value) (ds:List De) (vW:Value) (whose:List Int) (M3:Nat) (l:List Mk) (ks:List Int) (hs:List (List Int)) (Z0:Value) (w':World):Prop :=
 ∃ (ow:Int) (d:De) (gs':List (List Int)) (gone':List Int),Z0 = .int .i64 ow∧SwD w w1 H q t al nh be off ce g18 ze1 ze2 zg1 zg2 z3 zr p A Ak Ah c ck ch vd ds gs' gone' vW whose (M3 + 500) d w'∧R3 t l ks hs (ds ++ [d]) gs' gone' (whose ++ [ow])
structure SwC (t:Int) (al nh f:Nat) (ho sm:Int) (l:List Mk) (ks:List Int) (hs:List (List Int)) (ds:List De) (gs:List (List Int)) (gone whose:List Int):Prop where
 r:R3 t l ks hs ds gs gone whose
 d6:ds.length ≤ 6
 nk:ks.length = nh
 nl:l.length = al
 fk:f < ks.length
 sh:GSh al nh gs
 rb:∀ r ∈ gs,r.length ≤ 1000∧∀ x ∈ r,-100000 ≤ x∧x ≤ 100000
 gb:∀ o:Nat,o < al→0 ≤ getG gs f o∧getG gs f o ≤ 80
 su:sm = (gs.getD f []).sum
 h:ho = -1 ∨ ∃ o:Nat,ho = o∧o < al∧0 < getG gs f o∧1 ≤ sm
 gl:gone.length = al
theorem SwC.mk' {t:Int} {al nh f:Nat} {ho:Int} {l:List Mk} {ks:List Int} {hs:List (List Int)} {ds:List De} {gs:List (List Int)} {gone whose:List Int} (hR:R3 t l ks hs ds gs gone whose) (hd:ds.length ≤ 6) (hnk:ks.length = nh) (hnl:l.length = al) (hf:f < nh) (hh:Holds (gs.getD f []) ho) :
 SwC t al nh f ho (gs.getD f []).sum l ks hs ds gs gone whose:=by
 have hfk:f < ks.length:=by omega
 have hsh:GSh al nh gs:=by have:=hR.sh;rwa [hnl,hnk] at this
 have hgb:∀ o:Nat,o < al→0 ≤ getG gs f o∧getG gs f o ≤ 80:=fun o ho => by
  have:=hR.bd (f:=f) (o:=o) hfk (by omega)
  omega
 refine ⟨hR,hd,hnk,hnl,hfk,hsh,fun r hr => ⟨(hR.elt r hr).1,fun x hx => ⟨((hR.elt r hr).2 x hx).1,by have:=((hR.elt r hr).2 x hx).2;omega⟩⟩,hgb,rfl,?_,by rw [hR.ti.gl];exact hnl⟩
 rcases hh with ⟨h,-⟩ | ⟨o,h1,h2,h3⟩
 ·exact .inl h
 ·refine .inr ⟨o,h1,by rw [hsh.row hf] at h2;exact h2,h3,?_⟩
  have:=pos_sum (row:=gs.getD f []) (fun x hx => ?_) h2 h3
  ·omega
  ·obtain ⟨k,hk⟩:=List.mem_iff_getElem?.1 hx
   have hkl:k < (gs.getD f []).length:=(List.getElem?_eq_some_iff.1 hk).1
   rw [hsh.row hf] at hkl
   have:=(hgb k hkl).1
   unfold getG at this
   rw [List.getD_eq_getElem?_getD (l:=gs.getD f []),hk] at this
   exact this
def TS1 (Vd V1:World) (j:Nat) (w w':World):Prop:=match j with
 | 1 => w = Vd∧w' = V1
 | _ => w = w'
def PS1 (Vd V1:World) (k:Nat) (w:World):Prop:=match k with
 | 0 => w = Vd ∨ w = V1
 | 1 => w = Vd
 | _ => True
theorem PS1.start {Vd V1:World} (k:Nat):PS1 Vd V1 k Vd:=by
 match k with
 | 0 => exact .inl rfl
 | 1 => exact rfl
 | n + 2 => exact trivial
theorem PS1.st {Vd V1:World} (k j:Nat) (w w':World) (hc:j ≠ k ∨ k = 0) (hT:TS1 Vd V1 j w w') (hp:PS1 Vd V1 k w):PS1 Vd V1 k w':=by
 match k,hp with
 | 0,hp =>
   match j,hT with
   | 0,hT => cases (show w = w' from hT);exact hp
   | 1,hT => exact .inr (show w = Vd∧w' = V1 from hT).2
   | n + 2,hT => cases (show w = w' from hT);exact hp
 | 1,hp =>
   match j,hT with
   | 0,hT => cases (show w = w' from hT);exact hp
   | 1,hT => rcases hc with h | h <;> omega
   | n + 2,hT => cases (show w = w' from hT);exact hp
 | n + 2,hp => exact trivial
theorem TS1.keep {Vd V1:World} (j:Nat) (v:Value) (w w':World) (hc:j ≠ 1 ∨ 1 = 0) (hT:TS1 Vd V1 j w w') (h:w = V1):w' = V1:=by
 match j,hT with
 | 0,hT => cases (show w = w' from hT);exact h
 | 1,hT => rcases hc with h | h <;> omega
 | n + 2,hT => cases (show w = w' from hT);exact h
def THw (H N:Nat) (j:Nat) (w w':World):Prop:=match j with
 | 1 => Dealt w w' H (N + 1)
 | 2 => Dealt w w' H (N + 111)
 | 3 => Below w.heap.size w w'
 | _ => w = w'
def PHw (ws:World) (H N:Nat) (k:Nat) (w:World):Prop:=match k with
 | 0 => ws.grownBy w (some H)
 | 1 => Hd w H N
 | 2 => Hd w H (N + 1)
 | _ => True
theorem THw.rf {H N:Nat} (w:World):THw H N 0 w w:=rfl
theorem grown_below {w w':World} {r:Option Nat} (h:Below w.heap.size w w'):w.grownBy w' r:=⟨h.os,h.tape,h.output,h.size,fun k hk _ => h.block k hk⟩
theorem THw.gr {H N j:Nat} {w w':World} (h:THw H N j w w'):w.grownBy w' (some H):=by
 match j,h with
 | 0,h => cases (show w = w' from h);exact World.grownBy.refl _ _
 | 1,h => exact (show Dealt w w' H (N + 1) from h).gr
 | 2,h => exact (show Dealt w w' H (N + 111) from h).gr
 | 3,h => exact grown_below (show Below w.heap.size w w' from h)
 | n + 4,h => cases (show w = w' from h);exact World.grownBy.refl _ _
theorem PHw.start {ws:World} {H N:Nat} (h:Hd ws H N) (k:Nat):PHw ws H N k ws:=by
 match k with
 | 0 => exact World.grownBy.refl _ _
 | 1 => exact h
 | 2 => exact h.mono (by omega)
 | n + 3 => exact trivial
theorem PHw.st {ws:World} {H N:Nat} {bf:Nat→Nat→Prop} (hb:bf 2 1) (k j:Nat) (w w':World) (hc:j ≠ k ∨ k = 0) (hn:¬ bf j k) (hT:THw H N j w w') (hp:PHw ws H N k w):PHw ws H N k w':=by
 match k,hp with
 | 0,hp => exact World.grownBy.trans (show ws.grownBy w (some H) from hp) hT.gr
 | 1,hp =>
   match j,hT with
   | 0,hT => cases (show w = w' from hT);exact hp
   | 1,hT => rcases hc with h | h <;> omega
   | 2,hT => exact absurd hb hn
   | 3,hT => exact (show Hd w H N from hp).below (show Below w.heap.size w w' from hT) (show Hd w H N from hp).lt
   | n + 4,hT => cases (show w = w' from hT);exact hp
 | 2,hp =>
   match j,hT with
   | 0,hT => cases (show w = w' from hT);exact hp
   | 1,hT => exact (show Dealt w w' H (N + 1) from hT).hd
   | 2,hT => rcases hc with h | h <;> omega
   | 3,hT => exact (show Hd w H (N + 1) from hp).below (show Below w.heap.size w w' from hT) (show Hd w H (N + 1) from hp).lt
   | n + 4,hT => cases (show w = w' from hT);exact hp
 | n + 3,hp => exact trivial
theorem THw.keep2 {H N:Nat} {bf:Nat→Nat→Prop} {G:Sg→Prop} (hb:bf 2 1) (j:Nat) (v:Value) (w w':World) (hc:j ≠ 2 ∨ 2 = 0) (hn:¬ bf 2 j) (hT:THw H N j w w') (h:∃ k:Sg,v = vSg k∧G k∧Hd w H (N + 111)):∃ k:Sg,v = vSg k∧G k∧Hd w' H (N + 111):=by
 obtain ⟨k,h1,h2,h3⟩:=h
 refine ⟨k,h1,h2,?_⟩
 match j,hT with
 | 0,hT => cases (show w = w' from hT);exact h3
 | 1,hT => exact absurd hb hn
 | 2,hT => rcases hc with h | h <;> omega
 | 3,hT => exact h3.below (show Below w.heap.size w w' from hT) h3.lt
 | n + 4,hT => cases (show w = w' from hT);exact h3
def TS2 (Vd V1 V2:World) (j:Nat) (w w':World):Prop:=match j with
 | 1 => w = Vd∧w' = V1
 | 2 => w = V1∧w' = V2
 | _ => w = w'
def PS2 (Vd V1 V2:World) (k:Nat) (w:World):Prop:=match k with
 | 0 => w = Vd ∨ w = V1 ∨ w = V2
 | 1 => w = Vd
 | 2 => w = Vd ∨ w = V1
 | _ => True
theorem PS2.start {Vd V1 V2:World} (k:Nat):PS2 Vd V1 V2 k Vd:=by
 match k with
 | 0 => exact .inl rfl
 | 1 => exact rfl
 | 2 => exact .inl rfl
 | n + 3 => exact trivial
theorem PS2.st {Vd V1 V2:World} {bf:Nat→Nat→Prop} (hb:bf 2 1) (k j:Nat) (w w':World) (hc:j ≠ k ∨ k = 0) (hn:¬ bf j k) (hT:TS2 Vd V1 V2 j w w') (hp:PS2 Vd V1 V2 k w):PS2 Vd V1 V2 k w':=by
 match k,hp with
 | 0,hp =>
   match j,hT with
   | 0,hT => cases (show w = w' from hT);exact hp
   | 1,hT => exact .inr (.inl (show w = Vd∧w' = V1 from hT).2)
   | 2,hT => exact .inr (.inr (show w = V1∧w' = V2 from hT).2)
   | n + 3,hT => cases (show w = w' from hT);exact hp
 | 1,hp =>
   match j,hT with
   | 0,hT => cases (show w = w' from hT);exact hp
   | 1,hT => rcases hc with h | h <;> omega
   | 2,hT => exact absurd hb hn
   | n + 3,hT => cases (show w = w' from hT);exact hp
 | 2,hp =>
   match j,hT with
   | 0,hT => cases (show w = w' from hT);exact hp
   | 1,hT => exact .inr (show w = Vd∧w' = V1 from hT).2
   | 2,hT => rcases hc with h | h <;> omega
   | n + 3,hT => cases (show w = w' from hT);exact hp
 | n + 3,hp => exact trivial
theorem TS2.keep1 {Vd V1 V2:World} (hV2:V2 ≠ Vd) (j:Nat) (v:Value) (w w':World) (hc:j ≠ 1 ∨ 1 = 0) (hT:TS2 Vd V1 V2 j w w') (h:w ≠ Vd):w' ≠ Vd:=by
 match j,hT with
 | 0,hT => cases (show w = w' from hT);exact h
 | 1,hT => rcases hc with h | h <;> omega
 | 2,hT => rw [(show w = V1∧w' = V2 from hT).2];exact hV2
 | n + 3,hT => cases (show w = w' from hT);exact h
theorem TS2.keep2 {Vd V1 V2:World} {bf:Nat→Nat→Prop} (hb:bf 2 1) (j:Nat) (v:Value) (w w':World) (hc:j ≠ 2 ∨ 2 = 0) (hn:¬ bf 2 j) (hT:TS2 Vd V1 V2 j w w') (h:w = V2):w' = V2:=by
 match j,hT with
 | 0,hT => cases (show w = w' from hT);exact h
 | 1,hT => exact absurd hb hn
 | 2,hT => rcases hc with h | h <;> omega
 | n + 3,hT => cases (show w = w' from hT);exact h
def LaidP (p:Prop):Prop:=p
def THd (H N:Nat) (j:Nat) (w w':World):Prop:=match j with
 | 1 => Dealt w w' H (N + 1)
 | 2 => Dealt w w' H (N + 2)
 | _ => w = w'
def PHd (ws:World) (H N:Nat) (k:Nat) (w:World):Prop:=match k with
 | 0 => ws.grownBy w (some H)
 | 1 => Hd w H N
 | 2 => Hd w H (N + 1)
 | _ => True
theorem THd.rf {H N:Nat} (w:World):THd H N 0 w w:=rfl
theorem THd.gr {H N j:Nat} {w w':World} (h:THd H N j w w'):w.grownBy w' (some H):=by
 match j,h with
 | 0,h => cases (show w = w' from h);exact World.grownBy.refl _ _
 | 1,h => exact (show Dealt w w' H (N + 1) from h).gr
 | 2,h => exact (show Dealt w w' H (N + 2) from h).gr
 | n + 3,h => cases (show w = w' from h);exact World.grownBy.refl _ _
theorem PHd.start {ws:World} {H N:Nat} (h:Hd ws H N) (k:Nat):PHd ws H N k ws:=by
 match k with
 | 0 => exact World.grownBy.refl _ _
 | 1 => exact h
 | 2 => exact h.mono (by omega)
 | n + 3 => exact trivial
theorem PHd.st {ws:World} {H N:Nat} {bf:Nat→Nat→Prop} (hb:bf 2 1) (k j:Nat) (w w':World) (hc:j ≠ k ∨ k = 0) (hn:¬ bf j k) (hT:THd H N j w w') (hp:PHd ws H N k w):PHd ws H N k w':=by
 match k,hp with
 | 0,hp => exact World.grownBy.trans (show ws.grownBy w (some H) from hp) hT.gr
 | 1,hp =>
   match j,hT with
   | 0,hT => cases (show w = w' from hT);exact hp
   | 1,hT => rcases hc with h | h <;> omega
   | 2,hT => exact absurd hb hn
   | n + 3,hT => cases (show w = w' from hT);exact hp
 | 2,hp =>
   match j,hT with
   | 0,hT => cases (show w = w' from hT);exact hp
   | 1,hT => exact (show Dealt w w' H (N + 1) from hT).hd
   | 2,hT => rcases hc with h | h <;> omega
   | n + 3,hT => cases (show w = w' from hT);exact hp
 | n + 3,hp => exact trivial
theorem THd.keep2 {H N:Nat} {bf:Nat→Nat→Prop} {G:Int→Prop} (hb:bf 2 1) (j:Nat) (v:Value) (w w':World) (hc:j ≠ 2 ∨ 2 = 0) (hn:¬ bf 2 j) (hT:THd H N j w w') (h:∃ k:Int,v = .int .i64 k∧G k∧Hd w H (N + 2)):∃ k:Int,v = .int .i64 k∧G k∧Hd w' H (N + 2):=by
 obtain ⟨k,h1,h2,h3⟩:=h
 refine ⟨k,h1,h2,?_⟩
 match j,hT with
 | 0,hT => cases (show w = w' from hT);exact h3
 | 1,hT => exact absurd hb hn
 | 2,hT => rcases hc with h | h <;> omega
 | n + 3,hT => cases (show w = w' from hT);exact h3
theorem wrap_far (o x n:Nat) (w:World) (ho:o < n) (hx:1 ≤ x) (hx2:x < n) (hn:n ≤ 1000) :
 Calls Tryz.prog 74 #[.int .i64 ((o:Int) + (x:Int)),.int .i64 n] w fun e w' => ∃ pp:Nat,e = .returned (.int .i64 pp)∧pp < n∧o ≠ pp∧w = w':=by
 have h:=wrapN_any (o + x) n w (by omega) (by omega) (by omega)
 rw [Int.natCast_add] at h
 refine h.mono fun e w' ⟨h1,h2⟩ => ⟨(o + x) % n,h1,Nat.mod_lt _ (by omega),fun e => ?_,h2⟩
 by_cases hc:o + x < n
 ·rw [Nat.mod_eq_of_lt hc] at e;omega
 ·rw [Nat.mod_eq_sub_mod (by omega),Nat.mod_eq_of_lt (by omega)] at e;omega
def SwQ (w w1:World) (H q p f al nh be off ce g18 ze1 ze2 zg1 zg2 z3 zr M3:Nat) (t ho kd:Int) (vd:Value) (A Ak Ah:Option Addr) (c ck ch:Nat) (l:List Mk) (ks:List Int) (hs:List (List Int)) (ds:List De) (whose:List Int) (v1 v2 v3 v4 v5 v6 v7 v8 v9 Z1 Z2 Z3 Z4 Z5 Z6 Z7 Z8 Z9 ZA ZB ZC ZD ZE ZF ZG ZH ZI ZJ ZK ZL ZM ZN ZO ZP ZQ ZR ZS ZT ZU ZV ZW ZX ZY ZZ Za Zb Zc Zd Ze Zf Zg Zh Zi Zj Zk Zl Zm Zn Zo Zp Zq Zr Zs Zt Zu Zv Zw Zx Zy Zz Y0 Y1 Y2 Y3 Y4 Y5 Y6 Y7 Y8 Y9 YA YB YC YD YE YF YG YH YI YJ YK YL YM YN YO YP YQ YR YS:Value) (Q:Exit→Act→World→Prop):Prop :=
 ∀ (Z0 YT YU YV YW YX YY YZ Ya Yb Yc Yd Ye Yf Yg Yh Yi Yj Yk Yl Ym Yn Yo Yp Yq Yr Ys Yt Yu Yv Yw Yx Yy Yz X0 X1 X2 X3 X4 X5 X6 X7 X8 X9 XA XB XC XD XE XF XG XH XI XJ XK XL XM XN XO XP XQ XR XS XT XU XV XW XX XY XZ Xa Xb Xc Xd Xe Xf Xg Xh Xi Xj Xk Xl Xm Xn Xo Xp Xq Xr Xs Xt Xu Xv Xw Xx Xy Xz K0 K1 K2 K3 K4 K5 K6 K7 K8 K9 KA KB KC KD KE KF KG KH KI KJ KK KL KM KN KO KP KQ KR KS KT KU KV KW KX KY KZ Ka Kb Kc Kd Ke Kf Kg Kh Ki Kj Kk Kl Km Kn Ko Kp Kq Kr Ks Kt Ku Kv Kw Kx Ky Kz J0 J1 J2 J3 J4 J5 J6 J7 J8 J9 JA JB JC JD JE JF JG JH JI JJ JK JL JM JN JO JP JQ JR JS JT JU JV JW JX JY JZ Ja Jb Jc Jd Je Jf Jg Jh Ji Jj Jk Jl Jm Jn Jo Jp Jq Jr Js Jt Ju Jv Jw Jx Jy Jz G0 G1 G2 G3 G4 G5 G6 G7 G8 G9 GA GB GC GD GE GF GG GH GI GJ GK GL GM GN GO GP GQ GR GS GT GU GV GW GX GY GZ Ga Gb Gc Gd Ge Gf Gg Gh Gi Gj Gk Gl Gm Gn Gp Gq Gr Gs Gt Gu Gv Gw Gx Gy Gz F0 F1 F2 F3 F4 F5 F6 F7 F8 F9 FA FB:Value) (w':World),SwRel w w1 H q t al nh be off ce g18 ze1 ze2 zg1 zg2 z3 zr p A Ak Ah c ck ch vd ds Z6 whose M3 l ks hs Z0 w'→Q .normal ⟨#[Value.pointer (some ⟨H,0,none⟩),v1,v2,v3,v4,v5,v6,v7,v8,v9,Z1,Z2,Value.pointer (some ⟨q,0,none⟩),Value.int .i64 (al:Int),Z3,Z4,Z5,Value.slice (some ⟨be,off,none⟩) nh ce,Value.slice (some ⟨g18,0,none⟩) al al,Z6,Z7,Value.int .i64 (f:Int),Value.int .i64 ho,Z0,Value.int .i64 kd,Value.pointer (some ⟨p,0,none⟩),YT,YU,YV,Z8,Z9,ZA,ZB,ZC,ZD,ZE,ZF,ZG,ZH,ZI,ZJ,ZK,ZL,ZM,ZN,ZO,ZP,ZQ,ZR,ZS,ZT,ZU,ZV,ZW,ZX,ZY,ZZ,Za,Zb,Zc,Zd,Ze,Zf,Zg,Zh,Zi,Zj,Zk,Zl,Zm,Zn,Zo,Zp,Zq,Zr,Zs,Zt,Zu,Zv,Zw,Zx,Zy,Zz,Y0,Y1,Y2,Y3,Y4,Y5,Y6,Y7,Y8,Y9,YA,YB,YC,YD,YE,YW,YX,YY,YZ,Ya,Yb,Yc,Yd,Ye,Yf,Yg,Yh,Yi,Yj,Yk,Yl,Ym,Yn,Yo,Yp,Yq,Yr,Ys,Yt,Yu,Yv,Yw,Yx,Yy,Yz,X0,X1,X2,X3,X4,X5,X6,X7,X8,X9,XA,XB,XC,XD,XE,XF,XG,XH,XI,XJ,XK,XL,XM,XN,XO,XP,XQ,XR,XS,XT,XU,XV,XW,XX,XY,XZ,Xa,Xb,Xc,Xd,Xe,Xf,Xg,Xh,Xi,Xj,Xk,Xl,Xm,Xn,Xo,Xp,Xq,Xr,Xs,Xt,Xu,Xv,Xw,Xx,Xy,Xz,K0,K1,K2,K3,K4,K5,K6,K7,K8,K9,KA,KB,KC,KD,KE,KF,KG,KH,KI,KJ,KK,KL,KM,KN,KO,KP,KQ,KR,KS,KT,KU,KV,KW,KX,KY,KZ,Ka,Kb,Kc,Kd,Ke,Kf,Kg,Kh,Ki,Kj,Kk,Kl,Km,Kn,Ko,Kp,Kq,Kr,Ks,Kt,Ku,Kv,Kw,Kx,Ky,Kz,J0,J1,J2,J3,J4,J5,J6,J7,J8,J9,JA,JB,JC,JD,JE,JF,JG,JH,JI,JJ,JK,JL,JM,JN,JO,JP,JQ,JR,JS,JT,JU,JV,JW,JX,JY,JZ,Ja,Jb,Jc,Jd,Je,Jf,Jg,Jh,Ji,Jj,Jk,Jl,Jm,Jn,Jo,Jp,Jq,Jr,Js,Jt,Ju,Jv,Jw,Jx,Jy,Jz,G0,G1,G2,G3,G4,G5,G6,G7,G8,G9,GA,GB,GC,GD,GE,GF,GG,GH,GI,GJ,GK,GL,GM,GN,GO,GP,GQ,GR,GS,GT,GU,GV,GW,GX,GY,GZ,Ga,Gb,Gc,Gd,Ge,Gf,Gg,Gh,Gi,Gj,Gk,Gl,Gm,Gn,Gp,Gq,Gr,Gs,Gt,Gu,Gv,Gw,Gx,Gy,Gz,F0,F1,F2,F3,F4,F5,F6,F7,F8,F9,FA,FB,YF,YG,YH,YI,YJ,YK,YL,YM,YN,YO,YP,YQ,YR,YS],[]⟩ w'
theorem SwC.sb {t:Int} {al nh f:Nat} {ho sm:Int} {l:List Mk} {ks:List Int} {hs:List (List Int)} {ds:List De} {gs:List (List Int)} {gone whose:List Int} (h:SwC t al nh f ho sm l ks hs ds gs gone whose):0 ≤ sm∧sm ≤ 80:=by
 have:=h.r.sum h.fk
 have:=h.d6
 rw [h.su]
 omega
end Go.Proofs.YtmennjmjakdkcaaGreat
