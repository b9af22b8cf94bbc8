/- HerdRenamed 23: SwA, SwB. -/
import Derived.Test.YtmennjmjakdkcaaRn22
import Derived.Deep.CutBlock
import Derived.Deep.RegionHeld3
import Derived.Test.YtmennjmjakdkcaaRn07
namespace Go.Proofs.Ytmennjmjakdkcaa
open Go.RowKit
set_option linter.unusedVariables false
set_option linter.unusedSimpArgs false
set_option maxRecDepth 1000000
/-- a block of a function's code, by its number -/
def findBlk (n : Nat) : Code → Option Code
  | .block m c => if m = n then some (.block m c) else findBlk n c
  | .seq a b => match findBlk n a with
    | some x => some x
    | none => findBlk n b
  | .cond _ a b => match findBlk n a with
    | some x => some x
    | none => findBlk n b
  | .loop c => findBlk n c
  | .scope c => findBlk n c
  | _ => none
noncomputable def swCode : Code := ((Try.f10.body.bind (findBlk 6)).getD .skip)
def SwD (w w1 : World) (H q : Nat) (t : Int) (al nh be off ce g18 ze1 ze2 zg1 zg2 z3 zr p : Nat) (A Ak Ah : Option Addr) (c ck ch : Nat) (vd : Value) (ds : List De) (gs : List (List Int)) (gone : List Int) (vW : Value) (whose : List Int) (N : Nat) (d : De) (W : World) : Prop :=
  RD w w1 H q t (.slice A al c) (.slice Ak nh ck) (.slice Ah nh ch) vd vd ds (.slice (some ⟨be, off, none⟩) nh ce) gs (.slice (some ⟨g18, 0, none⟩) al al) gone vW whose ze1 ze2 zg1 zg2 z3 zr N p d W
def SwRel (w w1 : World) (H q : Nat) (t : Int) (al nh be off ce g18 ze1 ze2 zg1 zg2 z3 zr p : Nat) (A Ak Ah : Option Addr) (c ck ch : Nat) (vd : Value) (ds : List De) (vW : Value) (whose : List Int) (M3 : Nat) (l : List Mk) (ks : List Int) (hs : List (List Int)) (x23 : Value) (w' : World) : Prop :=
  ∃ (ow : Int) (d : De) (gs' : List (List Int)) (gone' : List Int), x23 = .int .i64 ow ∧ SwD w w1 H q t al nh be off ce g18 ze1 ze2 zg1 zg2 z3 zr p A Ak Ah c ck ch vd ds gs' gone' vW whose (M3 + 500) d w' ∧ R3 t l ks hs (ds ++ [d]) gs' gone' (whose ++ [ow])
structure SwC (t : Int) (al nh f : Nat) (ho sm : Int) (l : List Mk) (ks : List Int) (hs : List (List Int)) (ds : List De) (gs : List (List Int)) (gone whose : List Int) : Prop where
  r : R3 t l ks hs ds gs gone whose
  d6 : ds.length ≤ 6
  nk : ks.length = nh
  nl : l.length = al
  fk : f < ks.length
  sh : GSh al nh gs
  rb : ∀ r ∈ gs, r.length ≤ 1000 ∧ ∀ x ∈ r, -100000 ≤ x ∧ x ≤ 100000
  gb : ∀ o : Nat, o < al → 0 ≤ getG gs f o ∧ getG gs f o ≤ 80
  su : sm = (gs.getD f []).sum
  h : ho = -1 ∨ ∃ o : Nat, ho = o ∧ o < al ∧ 0 < getG gs f o ∧ 1 ≤ sm
  gl : gone.length = al
theorem SwC.mk' {t : Int} {al nh f : Nat} {ho : Int} {l : List Mk} {ks : List Int} {hs : List (List Int)} {ds : List De} {gs : List (List Int)} {gone whose : List Int} (hR : R3 t l ks hs ds gs gone whose) (hd : ds.length ≤ 6) (hnk : ks.length = nh) (hnl : l.length = al) (hf : f < nh) (hh : Holds (gs.getD f []) ho) :
    SwC t al nh f ho (gs.getD f []).sum l ks hs ds gs gone whose := by
  have hfk : f < ks.length := by omega
  have hsh : GSh al nh gs := by have := hR.sh; rwa [hnl, hnk] at this
  have hgb : ∀ o : Nat, o < al → 0 ≤ getG gs f o ∧ getG gs f o ≤ 80 := fun o ho => by
    have := hR.bd (f := f) (o := o) hfk (by omega)
    omega
  refine ⟨hR, hd, hnk, hnl, hfk, hsh, fun r hr => ⟨(hR.elt r hr).1, fun x hx => ⟨((hR.elt r hr).2 x hx).1, by have := ((hR.elt r hr).2 x hx).2; omega⟩⟩, hgb, rfl, ?_, by rw [hR.ti.gl]; exact hnl⟩
  rcases hh with ⟨h, -⟩ | ⟨o, h1, h2, h3⟩
  · exact .inl h
  · refine .inr ⟨o, h1, by rw [hsh.row hf] at h2; exact h2, h3, ?_⟩
    have := pos_sum (row := gs.getD f []) (fun x hx => ?_) h2 h3
    · omega
    · obtain ⟨k, hk⟩ := List.mem_iff_getElem?.1 hx
      have hkl : k < (gs.getD f []).length := (List.getElem?_eq_some_iff.1 hk).1
      rw [hsh.row hf] at hkl
      have := (hgb k hkl).1
      unfold getG at this
      rw [List.getD_eq_getElem?_getD (l := gs.getD f []), hk] at this
      exact this
/-- the first of two stores, in a region that draws -/
def TS1 (Vd V1 : World) (j : Nat) (w w' : World) : Prop := match j with
  | 1 => w = Vd ∧ w' = V1
  | _ => w = w'
def PS1 (Vd V1 : World) (k : Nat) (w : World) : Prop := match k with
  | 0 => w = Vd ∨ w = V1
  | 1 => w = Vd
  | _ => True
theorem PS1.start {Vd V1 : World} (k : Nat) : PS1 Vd V1 k Vd := by
  match k with
  | 0 => exact .inl rfl
  | 1 => exact rfl
  | n + 2 => exact trivial
theorem PS1.st {Vd V1 : World} (k j : Nat) (w w' : World) (hc : j ≠ k ∨ k = 0) (hT : TS1 Vd V1 j w w') (hp : PS1 Vd V1 k w) : PS1 Vd V1 k w' := by
  match k, hp with
  | 0, hp =>
    match j, hT with
    | 0, hT => cases (show w = w' from hT); exact hp
    | 1, hT => exact .inr (show w = Vd ∧ w' = V1 from hT).2
    | n + 2, hT => cases (show w = w' from hT); exact hp
  | 1, hp =>
    match j, hT with
    | 0, hT => cases (show w = w' from hT); exact hp
    | 1, hT => rcases hc with h | h <;> omega
    | n + 2, hT => cases (show w = w' from hT); exact hp
  | n + 2, hp => exact trivial
theorem TS1.keep {Vd V1 : World} (j : Nat) (v : Value) (w w' : World) (hc : j ≠ 1 ∨ 1 = 0) (hT : TS1 Vd V1 j w w') (h : w = V1) : w' = V1 := by
  match j, hT with
  | 0, hT => cases (show w = w' from hT); exact h
  | 1, hT => rcases hc with h | h <;> omega
  | n + 2, hT => cases (show w = w' from hT); exact h
/-- a deal, then a wear, then a mark worn -/
def THw (H N : Nat) (j : Nat) (w w' : World) : Prop := match j with
  | 1 => Dealt w w' H (N + 1)
  | 2 => Dealt w w' H (N + 111)
  | 3 => Below w.heap.size w w'
  | _ => w = w'
def PHw (ws : World) (H N : Nat) (k : Nat) (w : World) : Prop := match k with
  | 0 => ws.grownBy w (some H)
  | 1 => Hd w H N
  | 2 => Hd w H (N + 1)
  | _ => True
theorem THw.rf {H N : Nat} (w : World) : THw H N 0 w w := rfl
theorem grown_below {w w' : World} {r : Option Nat} (h : Below w.heap.size w w') : w.grownBy w' r := ⟨h.os, h.tape, h.output, h.size, fun k hk _ => h.block k hk⟩
theorem THw.gr {H N j : Nat} {w w' : World} (h : THw H N j w w') : w.grownBy w' (some H) := by
  match j, h with
  | 0, h => cases (show w = w' from h); exact World.grownBy.refl _ _
  | 1, h => exact (show Dealt w w' H (N + 1) from h).gr
  | 2, h => exact (show Dealt w w' H (N + 111) from h).gr
  | 3, h => exact grown_below (show Below w.heap.size w w' from h)
  | n + 4, h => cases (show w = w' from h); exact World.grownBy.refl _ _
theorem PHw.start {ws : World} {H N : Nat} (h : Hd ws H N) (k : Nat) : PHw ws H N k ws := by
  match k with
  | 0 => exact World.grownBy.refl _ _
  | 1 => exact h
  | 2 => exact h.mono (by omega)
  | n + 3 => exact trivial
theorem PHw.st {ws : World} {H N : Nat} {bf : Nat → Nat → Prop} (hb : bf 2 1) (k j : Nat) (w w' : World) (hc : j ≠ k ∨ k = 0) (hn : ¬ bf j k) (hT : THw H N j w w') (hp : PHw ws H N k w) : PHw ws H N k w' := by
  match k, hp with
  | 0, hp => exact World.grownBy.trans (show ws.grownBy w (some H) from hp) hT.gr
  | 1, hp =>
    match j, hT with
    | 0, hT => cases (show w = w' from hT); exact hp
    | 1, hT => rcases hc with h | h <;> omega
    | 2, hT => exact absurd hb hn
    | 3, hT => exact (show Hd w H N from hp).below (show Below w.heap.size w w' from hT) (show Hd w H N from hp).lt
    | n + 4, hT => cases (show w = w' from hT); exact hp
  | 2, hp =>
    match j, hT with
    | 0, hT => cases (show w = w' from hT); exact hp
    | 1, hT => exact (show Dealt w w' H (N + 1) from hT).hd
    | 2, hT => rcases hc with h | h <;> omega
    | 3, hT => exact (show Hd w H (N + 1) from hp).below (show Below w.heap.size w w' from hT) (show Hd w H (N + 1) from hp).lt
    | n + 4, hT => cases (show w = w' from hT); exact hp
  | n + 3, hp => exact trivial
theorem THw.keep2 {H N : Nat} {bf : Nat → Nat → Prop} {G : Sg → Prop} (hb : bf 2 1) (j : Nat) (v : Value) (w w' : World) (hc : j ≠ 2 ∨ 2 = 0) (hn : ¬ bf 2 j) (hT : THw H N j w w') (h : ∃ k : Sg, v = vSg k ∧ G k ∧ Hd w H (N + 111)) : ∃ k : Sg, v = vSg k ∧ G k ∧ Hd w' H (N + 111) := by
  obtain ⟨k, h1, h2, h3⟩ := h
  refine ⟨k, h1, h2, ?_⟩
  match j, hT with
  | 0, hT => cases (show w = w' from hT); exact h3
  | 1, hT => exact absurd hb hn
  | 2, hT => rcases hc with h | h <;> omega
  | 3, hT => exact h3.below (show Below w.heap.size w w' from hT) h3.lt
  | n + 4, hT => cases (show w = w' from hT); exact h3
/-- two stores in the head of a region that draws -/
def TS2 (Vd V1 V2 : World) (j : Nat) (w w' : World) : Prop := match j with
  | 1 => w = Vd ∧ w' = V1
  | 2 => w = V1 ∧ w' = V2
  | _ => w = w'
def PS2 (Vd V1 V2 : World) (k : Nat) (w : World) : Prop := match k with
  | 0 => w = Vd ∨ w = V1 ∨ w = V2
  | 1 => w = Vd
  | 2 => w = Vd ∨ w = V1
  | _ => True
theorem PS2.start {Vd V1 V2 : World} (k : Nat) : PS2 Vd V1 V2 k Vd := by
  match k with
  | 0 => exact .inl rfl
  | 1 => exact rfl
  | 2 => exact .inl rfl
  | n + 3 => exact trivial
theorem PS2.st {Vd V1 V2 : World} {bf : Nat → Nat → Prop} (hb : bf 2 1) (k j : Nat) (w w' : World) (hc : j ≠ k ∨ k = 0) (hn : ¬ bf j k) (hT : TS2 Vd V1 V2 j w w') (hp : PS2 Vd V1 V2 k w) : PS2 Vd V1 V2 k w' := by
  match k, hp with
  | 0, hp =>
    match j, hT with
    | 0, hT => cases (show w = w' from hT); exact hp
    | 1, hT => exact .inr (.inl (show w = Vd ∧ w' = V1 from hT).2)
    | 2, hT => exact .inr (.inr (show w = V1 ∧ w' = V2 from hT).2)
    | n + 3, hT => cases (show w = w' from hT); exact hp
  | 1, hp =>
    match j, hT with
    | 0, hT => cases (show w = w' from hT); exact hp
    | 1, hT => rcases hc with h | h <;> omega
    | 2, hT => exact absurd hb hn
    | n + 3, hT => cases (show w = w' from hT); exact hp
  | 2, hp =>
    match j, hT with
    | 0, hT => cases (show w = w' from hT); exact hp
    | 1, hT => exact .inr (show w = Vd ∧ w' = V1 from hT).2
    | 2, hT => rcases hc with h | h <;> omega
    | n + 3, hT => cases (show w = w' from hT); exact hp
  | n + 3, hp => exact trivial
theorem TS2.keep1 {Vd V1 V2 : World} (hV2 : V2 ≠ Vd) (j : Nat) (v : Value) (w w' : World) (hc : j ≠ 1 ∨ 1 = 0) (hT : TS2 Vd V1 V2 j w w') (h : w ≠ Vd) : w' ≠ Vd := by
  match j, hT with
  | 0, hT => cases (show w = w' from hT); exact h
  | 1, hT => rcases hc with h | h <;> omega
  | 2, hT => rw [(show w = V1 ∧ w' = V2 from hT).2]; exact hV2
  | n + 3, hT => cases (show w = w' from hT); exact h
theorem TS2.keep2 {Vd V1 V2 : World} {bf : Nat → Nat → Prop} (hb : bf 2 1) (j : Nat) (v : Value) (w w' : World) (hc : j ≠ 2 ∨ 2 = 0) (hn : ¬ bf 2 j) (hT : TS2 Vd V1 V2 j w w') (h : w = V2) : w' = V2 := by
  match j, hT with
  | 0, hT => cases (show w = w' from hT); exact h
  | 1, hT => exact absurd hb hn
  | 2, hT => rcases hc with h | h <;> omega
  | n + 3, hT => cases (show w = w' from hT); exact h
/-- a test that is known, laid away -/
def LaidP (p : Prop) : Prop := p
/-- two deals in a region that draws, one behind the other -/
def THd (H N : Nat) (j : Nat) (w w' : World) : Prop := match j with
  | 1 => Dealt w w' H (N + 1)
  | 2 => Dealt w w' H (N + 2)
  | _ => w = w'
def PHd (ws : World) (H N : Nat) (k : Nat) (w : World) : Prop := match k with
  | 0 => ws.grownBy w (some H)
  | 1 => Hd w H N
  | 2 => Hd w H (N + 1)
  | _ => True
theorem THd.rf {H N : Nat} (w : World) : THd H N 0 w w := rfl
theorem THd.gr {H N j : Nat} {w w' : World} (h : THd H N j w w') : w.grownBy w' (some H) := by
  match j, h with
  | 0, h => cases (show w = w' from h); exact World.grownBy.refl _ _
  | 1, h => exact (show Dealt w w' H (N + 1) from h).gr
  | 2, h => exact (show Dealt w w' H (N + 2) from h).gr
  | n + 3, h => cases (show w = w' from h); exact World.grownBy.refl _ _
theorem PHd.start {ws : World} {H N : Nat} (h : Hd ws H N) (k : Nat) : PHd ws H N k ws := by
  match k with
  | 0 => exact World.grownBy.refl _ _
  | 1 => exact h
  | 2 => exact h.mono (by omega)
  | n + 3 => exact trivial
theorem PHd.st {ws : World} {H N : Nat} {bf : Nat → Nat → Prop} (hb : bf 2 1) (k j : Nat) (w w' : World) (hc : j ≠ k ∨ k = 0) (hn : ¬ bf j k) (hT : THd H N j w w') (hp : PHd ws H N k w) : PHd ws H N k w' := by
  match k, hp with
  | 0, hp => exact World.grownBy.trans (show ws.grownBy w (some H) from hp) hT.gr
  | 1, hp =>
    match j, hT with
    | 0, hT => cases (show w = w' from hT); exact hp
    | 1, hT => rcases hc with h | h <;> omega
    | 2, hT => exact absurd hb hn
    | n + 3, hT => cases (show w = w' from hT); exact hp
  | 2, hp =>
    match j, hT with
    | 0, hT => cases (show w = w' from hT); exact hp
    | 1, hT => exact (show Dealt w w' H (N + 1) from hT).hd
    | 2, hT => rcases hc with h | h <;> omega
    | n + 3, hT => cases (show w = w' from hT); exact hp
  | n + 3, hp => exact trivial
theorem THd.keep2 {H N : Nat} {bf : Nat → Nat → Prop} {G : Int → Prop} (hb : bf 2 1) (j : Nat) (v : Value) (w w' : World) (hc : j ≠ 2 ∨ 2 = 0) (hn : ¬ bf 2 j) (hT : THd H N j w w') (h : ∃ k : Int, v = .int .i64 k ∧ G k ∧ Hd w H (N + 2)) : ∃ k : Int, v = .int .i64 k ∧ G k ∧ Hd w' H (N + 2) := by
  obtain ⟨k, h1, h2, h3⟩ := h
  refine ⟨k, h1, h2, ?_⟩
  match j, hT with
  | 0, hT => cases (show w = w' from hT); exact h3
  | 1, hT => exact absurd hb hn
  | 2, hT => rcases hc with h | h <;> omega
  | n + 3, hT => cases (show w = w' from hT); exact h3
/-- another one, behind a wrap -/
theorem wrap_far (o x n : Nat) (w : World) (ho : o < n) (hx : 1 ≤ x) (hx2 : x < n) (hn : n ≤ 1000) :
    Calls Try.prog 38 #[.int .i64 ((o : Int) + (x : Int)), .int .i64 n] w fun e w' => ∃ pp : Nat, e = .returned (.int .i64 pp) ∧ pp < n ∧ o ≠ pp ∧ w = w' := by
  have h := wrapN_any (o + x) n w (by omega) (by omega) (by omega)
  rw [Int.natCast_add] at h
  refine h.mono fun e w' ⟨h1, h2⟩ => ⟨(o + x) % n, h1, Nat.mod_lt _ (by omega), fun e => ?_, h2⟩
  by_cases hc : o + x < n
  · rw [Nat.mod_eq_of_lt hc] at e; omega
  · rw [Nat.mod_eq_sub_mod (by omega), Nat.mod_eq_of_lt (by omega)] at e; omega
def SwQ (w w1 : World) (H q p f al nh be off ce g18 ze1 ze2 zg1 zg2 z3 zr M3 : Nat) (t ho kd : Int) (vd : Value) (A Ak Ah : Option Addr) (c ck ch : Nat) (l : List Mk) (ks : List Int) (hs : List (List Int)) (ds : List De) (whose : List Int) (v1 v2 v3 v4 v5 v6 v7 v8 v9 v10 v11 v14 v15 v16 v19 v20 v29 v30 v31 v32 v33 v34 v35 v36 v37 v38 v39 v40 v41 v42 v43 v44 v45 v46 v47 v48 v49 v50 v51 v52 v53 v54 v55 v56 v57 v58 v59 v60 v61 v62 v63 v64 v65 v66 v67 v68 v69 v70 v71 v72 v73 v74 v75 v76 v77 v78 v79 v80 v81 v82 v83 v84 v85 v86 v87 v88 v89 v90 v91 v92 v93 v94 v95 v96 v97 v387 v388 v389 v390 v391 v392 v393 v394 v395 v396 v397 v398 v399 v400 : Value) (Q : Exit → Act → World → Prop) : Prop :=
  ∀ (x23 x26 x27 x28 x98 x99 x100 x101 x102 x103 x104 x105 x106 x107 x108 x109 x110 x111 x112 x113 x114 x115 x116 x117 x118 x119 x120 x121 x122 x123 x124 x125 x126 x127 x128 x129 x130 x131 x132 x133 x134 x135 x136 x137 x138 x139 x140 x141 x142 x143 x144 x145 x146 x147 x148 x149 x150 x151 x152 x153 x154 x155 x156 x157 x158 x159 x160 x161 x162 x163 x164 x165 x166 x167 x168 x169 x170 x171 x172 x173 x174 x175 x176 x177 x178 x179 x180 x181 x182 x183 x184 x185 x186 x187 x188 x189 x190 x191 x192 x193 x194 x195 x196 x197 x198 x199 x200 x201 x202 x203 x204 x205 x206 x207 x208 x209 x210 x211 x212 x213 x214 x215 x216 x217 x218 x219 x220 x221 x222 x223 x224 x225 x226 x227 x228 x229 x230 x231 x232 x233 x234 x235 x236 x237 x238 x239 x240 x241 x242 x243 x244 x245 x246 x247 x248 x249 x250 x251 x252 x253 x254 x255 x256 x257 x258 x259 x260 x261 x262 x263 x264 x265 x266 x267 x268 x269 x270 x271 x272 x273 x274 x275 x276 x277 x278 x279 x280 x281 x282 x283 x284 x285 x286 x287 x288 x289 x290 x291 x292 x293 x294 x295 x296 x297 x298 x299 x300 x301 x302 x303 x304 x305 x306 x307 x308 x309 x310 x311 x312 x313 x314 x315 x316 x317 x318 x319 x320 x321 x322 x323 x324 x325 x326 x327 x328 x329 x330 x331 x332 x333 x334 x335 x336 x337 x338 x339 x340 x341 x342 x343 x344 x345 x346 x347 x348 x349 x350 x351 x352 x353 x354 x355 x356 x357 x358 x359 x360 x361 x362 x363 x364 x365 x366 x367 x368 x369 x370 x371 x372 x373 x374 x375 x376 x377 x378 x379 x380 x381 x382 x383 x384 x385 x386 : Value) (w' : World), SwRel w w1 H q t al nh be off ce g18 ze1 ze2 zg1 zg2 z3 zr p A Ak Ah c ck ch vd ds v19 whose M3 l ks hs x23 w' → Q .normal ⟨#[Value.pointer (some ⟨H, 0, none⟩), v1, v2, v3, v4, v5, v6, v7, v8, v9, v10, v11, Value.pointer (some ⟨q, 0, none⟩), Value.int .i64 (al : Int), v14, v15, v16, Value.slice (some ⟨be, off, none⟩) nh ce, Value.slice (some ⟨g18, 0, none⟩) al al, v19, v20, Value.int .i64 (f : Int), Value.int .i64 ho, x23, Value.int .i64 kd, Value.pointer (some ⟨p, 0, none⟩), x26, x27, x28, v29, v30, v31, v32, v33, v34, v35, v36, v37, v38, v39, v40, v41, v42, v43, v44, v45, v46, v47, v48, v49, v50, v51, v52, v53, v54, v55, v56, v57, v58, v59, v60, v61, v62, v63, v64, v65, v66, v67, v68, v69, v70, v71, v72, v73, v74, v75, v76, v77, v78, v79, v80, v81, v82, v83, v84, v85, v86, v87, v88, v89, v90, v91, v92, v93, v94, v95, v96, v97, x98, x99, x100, x101, x102, x103, x104, x105, x106, x107, x108, x109, x110, x111, x112, x113, x114, x115, x116, x117, x118, x119, x120, x121, x122, x123, x124, x125, x126, x127, x128, x129, x130, x131, x132, x133, x134, x135, x136, x137, x138, x139, x140, x141, x142, x143, x144, x145, x146, x147, x148, x149, x150, x151, x152, x153, x154, x155, x156, x157, x158, x159, x160, x161, x162, x163, x164, x165, x166, x167, x168, x169, x170, x171, x172, x173, x174, x175, x176, x177, x178, x179, x180, x181, x182, x183, x184, x185, x186, x187, x188, x189, x190, x191, x192, x193, x194, x195, x196, x197, x198, x199, x200, x201, x202, x203, x204, x205, x206, x207, x208, x209, x210, x211, x212, x213, x214, x215, x216, x217, x218, x219, x220, x221, x222, x223, x224, x225, x226, x227, x228, x229, x230, x231, x232, x233, x234, x235, x236, x237, x238, x239, x240, x241, x242, x243, x244, x245, x246, x247, x248, x249, x250, x251, x252, x253, x254, x255, x256, x257, x258, x259, x260, x261, x262, x263, x264, x265, x266, x267, x268, x269, x270, x271, x272, x273, x274, x275, x276, x277, x278, x279, x280, x281, x282, x283, x284, x285, x286, x287, x288, x289, x290, x291, x292, x293, x294, x295, x296, x297, x298, x299, x300, x301, x302, x303, x304, x305, x306, x307, x308, x309, x310, x311, x312, x313, x314, x315, x316, x317, x318, x319, x320, x321, x322, x323, x324, x325, x326, x327, x328, x329, x330, x331, x332, x333, x334, x335, x336, x337, x338, x339, x340, x341, x342, x343, x344, x345, x346, x347, x348, x349, x350, x351, x352, x353, x354, x355, x356, x357, x358, x359, x360, x361, x362, x363, x364, x365, x366, x367, x368, x369, x370, x371, x372, x373, x374, x375, x376, x377, x378, x379, x380, x381, x382, x383, x384, x385, x386, v387, v388, v389, v390, v391, v392, v393, v394, v395, v396, v397, v398, v399, v400], []⟩ w'
theorem SwC.sb {t : Int} {al nh f : Nat} {ho sm : Int} {l : List Mk} {ks : List Int} {hs : List (List Int)} {ds : List De} {gs : List (List Int)} {gone whose : List Int} (h : SwC t al nh f ho sm l ks hs ds gs gone whose) : 0 ≤ sm ∧ sm ≤ 80 := by
  have := h.r.sum h.fk
  have := h.d6
  rw [h.su]
  omega
end Go.Proofs.Ytmennjmjakdkcaa
namespace Go.Proofs.Ytmennjmjakdkcaa
open Go.RowKit
set_option linter.unusedVariables false
set_option linter.unusedSimpArgs false
set_option maxRecDepth 1000000 in
set_option maxHeartbeats 8000000 in
theorem sw_born (w w1 W : World) (H q p f al nh be off ce g18 ze1 ze2 zg1 zg2 z3 zr M3 : Nat) (t ho kd sm : Int) (vd : Value) (A Ak Ah : Option Addr) (c ck ch : Nat) (l : List Mk) (ks : List Int) (hs gs : List (List Int)) (ds : List De) (gone whose : List Int) (v1 v2 v3 v4 v5 v6 v7 v8 v9 v10 v11 v14 v15 v16 v19 v20 v26 v27 v28 v29 v30 v31 v32 v33 v34 v35 v36 v37 v38 v39 v40 v41 v42 v43 v44 v45 v46 v47 v48 v49 v50 v51 v52 v53 v54 v55 v56 v57 v58 v59 v60 v61 v62 v63 v64 v65 v66 v67 v68 v69 v70 v71 v72 v73 v74 v75 v76 v77 v78 v79 v80 v81 v82 v83 v84 v85 v86 v87 v88 v89 v90 v91 v92 v93 v94 v95 v96 v97 v98 v99 v100 v101 v102 v103 v104 v105 v106 v107 v108 v109 v110 v111 v112 v113 v114 v115 v116 v117 v118 v119 v120 v121 v122 v123 v124 v125 v126 v127 v128 v129 v130 v131 v132 v133 v134 v135 v136 v137 v138 v139 v140 v141 v142 v143 v144 v145 v146 v147 v148 v149 v150 v151 v152 v153 v154 v155 v156 v157 v158 v159 v160 v161 v162 v163 v164 v165 v166 v167 v168 v169 v170 v171 v172 v173 v174 v175 v176 v177 v178 v179 v180 v181 v182 v183 v184 v185 v186 v187 v188 v189 v190 v191 v192 v193 v194 v195 v196 v197 v198 v199 v200 v201 v202 v203 v204 v205 v206 v207 v208 v209 v210 v211 v212 v213 v214 v215 v216 v217 v218 v219 v220 v221 v222 v223 v224 v225 v226 v227 v228 v229 v230 v231 v232 v233 v234 v235 v236 v237 v238 v239 v240 v241 v242 v243 v244 v245 v246 v247 v248 v249 v250 v251 v252 v253 v254 v255 v256 v257 v258 v259 v260 v261 v262 v263 v264 v265 v266 v267 v268 v269 v270 v271 v272 v273 v274 v275 v276 v277 v278 v279 v280 v281 v282 v283 v284 v285 v286 v287 v288 v289 v290 v291 v292 v293 v294 v295 v296 v297 v298 v299 v300 v301 v302 v303 v304 v305 v306 v307 v308 v309 v310 v311 v312 v313 v314 v315 v316 v317 v318 v319 v320 v321 v322 v323 v324 v325 v326 v327 v328 v329 v330 v331 v332 v333 v334 v335 v336 v337 v338 v339 v340 v341 v342 v343 v344 v345 v346 v347 v348 v349 v350 v351 v352 v353 v354 v355 v356 v357 v358 v359 v360 v361 v362 v363 v364 v365 v366 v367 v368 v369 v370 v371 v372 v373 v374 v375 v376 v377 v378 v379 v380 v381 v382 v383 v384 v385 v386 v387 v388 v389 v390 v391 v392 v393 v394 v395 v396 v397 v398 v399 v400 : Value) (Q : Exit → Act → World → Prop)
    (HRD : Hid (SwD w w1 H q t al nh be off ce g18 ze1 ze2 zg1 zg2 z3 zr p A Ak Ah c ck ch vd ds gs gone v19 whose (M3 + 1 + 1 + 1) ⟨6, f, 0, 0, 0, 0, 0, sZ⟩ W)) (HC : Hid (SwC t al nh f ho sm l ks hs ds gs gone whose)) (hfn : f < nh) (hnh3 : nh ≤ 3) (hal5 : al ≤ 5) (hal0 : 0 < al) (hMN3 : M3 ≤ 4611686018000030000) (hHW : Hd W H (M3 + 1 + 1 + 1)) (hsb : 0 ≤ sm ∧ sm ≤ 80)
    (hk : kd = 1)
    (HQ : SwQ w w1 H q p f al nh be off ce g18 ze1 ze2 zg1 zg2 z3 zr M3 t ho kd vd A Ak Ah c ck ch l ks hs ds whose v1 v2 v3 v4 v5 v6 v7 v8 v9 v10 v11 v14 v15 v16 v19 v20 v29 v30 v31 v32 v33 v34 v35 v36 v37 v38 v39 v40 v41 v42 v43 v44 v45 v46 v47 v48 v49 v50 v51 v52 v53 v54 v55 v56 v57 v58 v59 v60 v61 v62 v63 v64 v65 v66 v67 v68 v69 v70 v71 v72 v73 v74 v75 v76 v77 v78 v79 v80 v81 v82 v83 v84 v85 v86 v87 v88 v89 v90 v91 v92 v93 v94 v95 v96 v97 v387 v388 v389 v390 v391 v392 v393 v394 v395 v396 v397 v398 v399 v400 Q) :
    Code.wp Try.prog swCode Q ⟨#[Value.pointer (some ⟨H, 0, none⟩), v1, v2, v3, v4, v5, v6, v7, v8, v9, v10, v11, Value.pointer (some ⟨q, 0, none⟩), Value.int .i64 (al : Int), v14, v15, v16, Value.slice (some ⟨be, off, none⟩) nh ce, Value.slice (some ⟨g18, 0, none⟩) al al, v19, v20, Value.int .i64 (f : Int), Value.int .i64 ho, Value.int .i64 (-1), Value.int .i64 kd, Value.pointer (some ⟨p, 0, none⟩), v26, v27, v28, v29, v30, v31, v32, v33, v34, v35, v36, v37, v38, v39, v40, v41, v42, v43, v44, v45, v46, v47, v48, v49, v50, v51, v52, v53, v54, v55, v56, v57, v58, v59, v60, v61, v62, v63, v64, v65, v66, v67, v68, v69, v70, v71, v72, v73, v74, v75, v76, v77, v78, v79, v80, v81, v82, v83, v84, v85, v86, v87, v88, v89, v90, v91, v92, v93, v94, v95, v96, v97, v98, v99, v100, v101, v102, v103, v104, v105, v106, v107, v108, v109, v110, v111, v112, v113, v114, v115, v116, v117, v118, v119, v120, v121, v122, v123, v124, v125, v126, v127, v128, v129, v130, v131, v132, v133, v134, v135, v136, v137, v138, v139, v140, v141, v142, v143, v144, v145, v146, v147, v148, v149, v150, v151, v152, v153, v154, v155, v156, v157, v158, v159, v160, v161, v162, v163, v164, v165, v166, v167, v168, v169, v170, v171, v172, v173, v174, v175, v176, v177, v178, v179, v180, v181, v182, v183, v184, v185, v186, v187, v188, v189, v190, v191, v192, v193, v194, v195, v196, v197, v198, v199, v200, v201, v202, v203, v204, v205, v206, v207, v208, v209, v210, v211, v212, v213, v214, v215, v216, v217, v218, v219, v220, v221, v222, v223, v224, v225, v226, v227, v228, v229, v230, v231, v232, v233, v234, v235, v236, v237, v238, v239, v240, v241, v242, v243, v244, v245, v246, v247, v248, v249, v250, v251, v252, v253, v254, v255, v256, v257, v258, v259, v260, v261, v262, v263, v264, v265, v266, v267, v268, v269, v270, v271, v272, v273, v274, v275, v276, v277, v278, v279, v280, v281, v282, v283, v284, v285, v286, v287, v288, v289, v290, v291, v292, v293, v294, v295, v296, v297, v298, v299, v300, v301, v302, v303, v304, v305, v306, v307, v308, v309, v310, v311, v312, v313, v314, v315, v316, v317, v318, v319, v320, v321, v322, v323, v324, v325, v326, v327, v328, v329, v330, v331, v332, v333, v334, v335, v336, v337, v338, v339, v340, v341, v342, v343, v344, v345, v346, v347, v348, v349, v350, v351, v352, v353, v354, v355, v356, v357, v358, v359, v360, v361, v362, v363, v364, v365, v366, v367, v368, v369, v370, v371, v372, v373, v374, v375, v376, v377, v378, v379, v380, v381, v382, v383, v384, v385, v386, v387, v388, v389, v390, v391, v392, v393, v394, v395, v396, v397, v398, v399, v400], []⟩ W := by
  conv => arg 2; whnf
  subst hk
  go_upto_region 28 with (first
    | (go_at_call 24; refine (upto_any H (M3 + 1 + 1 + 1) ((al : Int) - 1) W hHW (by omega) (by omega)).mono ?_; rintro e w5 ⟨o, rfl, ho0, hd5⟩; have hH5 := hd5.hd; have HR5 := Lib.hid (And.intro (RD.dealt HRD.out hd5) ho0); clear hd5 ho0)
    | (go_at_call 34; refine (among_any H (M3 + 1 + 1 + 1 + 1) 1 3 w5 hH5 (by omega) (by omega) (by omega)).mono ?_; rintro e w6 ⟨k, rfl, hk1, hk2, hd6⟩; have hR6 := HR5.out.1.dealt hd6; have HR6 := Lib.hid hR6; obtain ⟨e0, e1, e2, e3, e4, e5, e6, e7, e8, e9, e10, e11⟩ := blkD hR6.bx; obtain ⟨z0, z1, z2, z3a, z4, z5, z6, z7, z8, z9, z10, z11⟩ := And.intro (frz hR6.bx 0) (And.intro (frz hR6.bx 1) (And.intro (frz hR6.bx 2) (And.intro (frz hR6.bx 3) (And.intro (frz hR6.bx 4) (And.intro (frz hR6.bx 5) (And.intro (frz hR6.bx 6) (And.intro (frz hR6.bx 7) (And.intro (frz hR6.bx 8) (And.intro (frz hR6.bx 9) (And.intro (frz hR6.bx 10) (frz hR6.bx 11))))))))))); clear hR6 hd6))
  have hR7 := HR6.out.deed ⟨1, f, o, 0, 0, k, 0, sZ⟩
  obtain ⟨V, hV⟩ : ∃ V, V = setL w6 p (l12 ⟨1, f, o, 0, 0, k, 0, sZ⟩) := ⟨_, rfl⟩
  rw [← hV] at hR7
  simp only [setL, l12] at hV
  rw [← hV]
  clear e0 e1 e2 e3 e4 e5 e6 e7 e8 e9 e10 e11 z0 z1 z2 z3a z4 z5 z6 z7 z8 z9 z10 z11
  clear hV
  have hR8 := hR7.drew1
  have hol : o < al := by have := HR5.out.2; omega
  obtain ⟨be', off', g1, cg, e1', g2, g3, g4, g5, g6, g7, g8, g9, hKK⟩ := hR8.c1 HC.out.sh hfn hol
  cases e1'
  obtain ⟨d0, d1, d2, d3, d4, d5, -⟩ := blkD hR8.bx
  have hgb := HC.out.gb o hol
  have hkb : 1 ≤ k ∧ k ≤ 3 := by omega
  have HK := Lib.hid hKK
  clear hR7 hR8 hKK hk1 hk2 hH5
  refine wp_region_tag 18 0 0 [] [] 0 (fun _ w1 w2 => w1 = w2) (fun _ w1 => w1 = V.drew) [0, 0, 0, 0, 0, 0, 0, 0, 0, 0, 0, 0, 0, 0, 0, 0, 0, 0] (by as_aux_lemma => kernel_rfl) (by as_aux_lemma => kernel_rfl) (by as_aux_lemma => kernel_rfl) (by as_aux_lemma => kernel_rfl) (by omega) (.inl rfl) rfl rfl (fun _ _ _ _ _ _ hT hp => hT ▸ hp) (fun _ => rfl) ?_
  apply Exists.intro
  refine ⟨fun ys => ?_, fun ops K hK => ?_⟩
  · simp only [List.take_succ_cons, List.take_zero, dstsOf, List.filterMap_cons, List.filterMap_nil, putAll]
    go_simp
    rfl
  simp only [List.take_succ_cons, List.take_zero, List.drop_succ_cons, List.drop_zero] at hK ⊢
  repeat
    refine LexT.const (fun _ => rfl) ?_
    apply Exists.intro
    refine ⟨fun ys w' hp hpk hq hd => ?_, ?_⟩
    · try simp [DepsOf, depsGo, DF.holds, Region.binds, EqF] at hd
      try simp only [hd]
      replace hp : w' = V.drew := hp
      subst hp
      clear hpk hq
      intro Q2 hQ2
      go_wp2_with fail
      rfl
    try simp only [List.nil_append, List.cons_append]
  refine hK _ fun ys w' hp hF => ?_
  simp [AllF, DF.holds] at hF
  replace hp : w' = V.drew := hp
  subst hp
  simp only [hF]
  go_wp2_with fail
  refine HQ _ _ _ _ _ _ _ _ _ _ _ _ _ _ _ _ _ _ _ _ _ _ _ _ _ _ _ _ _ _ _ _ _ _ _ _ _ _ _ _ _ _ _ _ _ _ _ _ _ _ _ _ _ _ _ _ _ _ _ _ _ _ _ _ _ _ _ _ _ _ _ _ _ _ _ _ _ _ _ _ _ _ _ _ _ _ _ _ _ _ _ _ _ _ _ _ _ _ _ _ _ _ _ _ _ _ _ _ _ _ _ _ _ _ _ _ _ _ _ _ _ _ _ _ _ _ _ _ _ _ _ _ _ _ _ _ _ _ _ _ _ _ _ _ _ _ _ _ _ _ _ _ _ _ _ _ _ _ _ _ _ _ _ _ _ _ _ _ _ _ _ _ _ _ _ _ _ _ _ _ _ _ _ _ _ _ _ _ _ _ _ _ _ _ _ _ _ _ _ _ _ _ _ _ _ _ _ _ _ _ _ _ _ _ _ _ _ _ _ _ _ _ _ _ _ _ _ _ _ _ _ _ _ _ _ _ _ _ _ _ _ _ _ _ _ _ _ _ _ _ _ _ _ _ _ _ _ _ _ _ _ _ _ _ _ _ _ _ _ _ _ _ _ _ _ _ _ _ _ _ _ _ _ _ _ _ _ _ _ _ _ _ _ _ ?_
  exact ⟨-1, _, _, _, rfl, (HK.out _ k rfl).mono (by omega), HC.out.r.born HC.out.fk (by rw [HC.out.nl]; exact hol) hkb⟩
end Go.Proofs.Ytmennjmjakdkcaa
