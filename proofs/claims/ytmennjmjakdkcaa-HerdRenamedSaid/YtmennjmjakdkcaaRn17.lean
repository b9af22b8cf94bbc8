/- HerdRenamed 17: GridA, HdY, HdU, HdOw, OwnsT, CopyN. -/
import Derived.Test.YtmennjmjakdkcaaRn16
import Derived.Test.YtmennjmjakdkcaaRn14
import Derived.Test.YtmennjmjakdkcaaRn09
import Derived.Test.YtmennjmjakdkcaaRn04
namespace Go.Proofs.Ytmennjmjakdkcaa
open Go.RowKit
set_option linter.unusedVariables false
set_option linter.unusedSimpArgs false

section
variable {α : Type} {enc : α → List Value} {e te : TypeId} {sz : Nat} {w w' : World} {base B : Nat} {v v' u : Value} {mv : List Value} {ls : List (List α)} {l : List α}
def RwsA (enc : α → List Value) (e : TypeId) (sz : Nat) (w : World) (base : Nat) (mv : List Value) (ls : List (List α)) : Prop :=
  mv.length = ls.length ∧ ∀ (i : Nat) v, mv[i]? = some v → ∃ l, ls[i]? = some l ∧ Own enc e sz w base v l
def OwnA (enc : α → List Value) (e te : TypeId) (sz : Nat) (w : World) (base : Nat) (v : Value) (ls : List (List α)) : Prop := ∃ mv, Own eVal te 1 w base v mv ∧ RwsA enc e sz w base mv ls
theorem OwnA.nil_ : OwnA enc e te sz w base (.slice none 0 0) [] := ⟨[], Own.nil_, rfl, fun i v h => by simp at h⟩
theorem OwnA.below (h : OwnA enc e te sz w base v ls) (hb : Below B w w') (hB : w.heap.size ≤ B) : OwnA enc e te sz w' base v ls := by
  obtain ⟨mv, h1, h2, h3⟩ := h
  exact ⟨mv, h1.below hb hB, h2, fun i v hv => by obtain ⟨l, hl, ho⟩ := h3 i v hv; exact ⟨l, hl, ho.below hb hB⟩⟩
theorem OwnA.alloc (h : OwnA enc e te sz w base v ls) (o : Obj) : OwnA enc e te sz (w.alloc o) base v ls := h.below (bal0 w o) (Nat.le_refl _)
theorem OwnA.mono {b : Nat} (h : OwnA enc e te sz w base v ls) (hb : b ≤ base) : OwnA enc e te sz w b v ls := by
  obtain ⟨mv, h1, h2, h3⟩ := h
  exact ⟨mv, h1.mono hb, h2, fun i v hv => by obtain ⟨l, hl, ho⟩ := h3 i v hv; exact ⟨l, hl, ho.mono hb⟩⟩
theorem OwnA.map {w' : World} (h : OwnA enc e te sz w base v ls) (k1 : ∀ mv, Own eVal te 1 w base v mv → Own eVal te 1 w' base v mv) (k2 : ∀ u l, Own enc e sz w base u l → Own enc e sz w' base u l) : OwnA enc e te sz w' base v ls := by
  obtain ⟨mv, h1, h2, h3⟩ := h
  exact ⟨mv, k1 _ h1, h2, fun i v hv => by obtain ⟨l, hl, ho⟩ := h3 i v hv; exact ⟨l, hl, k2 _ _ ho⟩⟩
theorem OwnA.snoc (hne : e ≠ te) (h1 : Own eVal te 1 w base v mv) (h2 : RwsA enc e sz w base mv ls) (hu : Own enc e sz w base u l)
    (h3 : Own eVal te 1 w' base v' (mv ++ [u])) (hg : w.grownBy w' v.ownBlock) : OwnA enc e te sz w' base v' (ls ++ [l]) := by
  refine ⟨mv ++ [u], h3, by simp [h2.1], fun i x hx => ?_⟩
  rcases Nat.lt_or_ge i mv.length with hi | hi
  · rw [List.getElem?_append_left hi] at hx
    obtain ⟨l', hl', ho⟩ := h2.2 i x hx
    exact ⟨l', by rw [List.getElem?_append_left (by rw [← h2.1]; exact hi)]; exact hl', ho.kept hg (own_ne ho h1 hne)⟩
  · rw [List.getElem?_append_right hi] at hx
    have h0 : i - mv.length = 0 := by
      cases hd : i - mv.length with
      | zero => rfl
      | succ k => rw [hd] at hx; simp at hx
    rw [h0] at hx
    simp only [List.getElem?_cons_zero, Option.some.injEq] at hx
    subst hx
    refine ⟨l, ?_, hu.kept hg (own_ne hu h1 hne)⟩
    rw [List.getElem?_append_right (by rw [← h2.1]; exact hi), show i - ls.length = 0 by rw [← h2.1]; exact h0]
    rfl
/-- 'out = append(out, row)': the row is a slice of the call's own -/
theorem wp_app_rowA {P : Program} {tt : TypeId} (E : ElemOk P tt te 1 24) (hne : e ≠ te) {ops : Array Oper} {rest : List Oper} {o : Oper} {a : Act} {Q : Exit → Act → World → Prop} {w : World}
    (hgd : o.guard = none) (s x : Operand) (ho : o.op = .call { callee := .builtin .append, args := #[s, x], argTypes := #[tt, tt] })
    (base : Nat) (v u : Value) (ls : List (List α)) (l : List α) (hs : a.eval s = v) (hx : a.eval x = .slice (some ⟨w.heap.size, 0, none⟩) 1 1)
    (hown : OwnA enc e te sz w base v ls) (hu : Own enc e sz w base u l) (hll : ls.length < 4294967296) (hbase : base ≤ w.heap.size)
    (h : ∀ v' w', OwnA enc e te sz w' base v' (ls ++ [l]) → Below base w w' → (∀ (k : Nat) cs T, T ≠ te → w.heap[k]? = some (.cells cs T (0, 0)) → w'.heap[k]? = some (.cells cs T (0, 0))) → wpList P ops Q rest (a.put o.dst v') w') :
    wpList P ops Q (o :: rest) a (w.alloc (.cells #[u] te)) := by
  obtain ⟨mv, h1, h2⟩ := hown
  have h1u : u.oneCell' = true := by
    rcases hu.2 with ⟨rfl, _⟩ | ⟨g, cap, cur, rfl, _⟩ <;> rfl
  refine wp_appx (P := P) E hgd s x ho base v mv u #[u] hs hx rfl rfl (one_eVal h1u) h1 (by rw [h2.1]; exact hll) (by decide) hbase ?_
  intro g' cap w' ho' hg hb
  refine h _ _ (OwnA.snoc hne h1 h2 hu ho' hg) hb fun k cs T hT hk => (hg.block k (heap_lt hk) fun e => ?_).trans hk
  rcases h1.2 with ⟨rfl, _⟩ | ⟨g, cap, cur, rfl, _, k2, _⟩
  · cases e
  · simp only [Value.ownBlock, Option.some.injEq] at e
    subst e
    rw [k2] at hk
    cases hk
    exact hT rfl
/-- a slice of slices reads as a list of lists -/
def GridA (enc : α → List Value) (sz : Nat) (w : World) (A : Option Addr) (n : Nat) (ls : List (List α)) : Prop :=
  ∃ mv, Sl eVal 1 w A n mv ∧ mv.length = ls.length ∧ ∀ (i : Nat) v, mv[i]? = some v → ∃ B l c, ls[i]? = some l ∧ v = .slice B l.length c ∧ Sl enc sz w B l.length l ∧ l.length ≤ c ∧ c ≤ maxLen
theorem OwnA.form (henc : ∀ x, (enc x).length = sz) (h : OwnA enc e te sz w base v ls) : ∃ A c, v = .slice A ls.length c ∧ GridA enc sz w A ls.length ls ∧ ls.length ≤ c ∧ c ≤ maxLen := by
  obtain ⟨mv, h1, h2, h3⟩ := h
  obtain ⟨A, c, hv, hs, hc, hm⟩ := h1.form lenVal
  rw [h2] at hv hs hc
  refine ⟨A, c, hv, ⟨mv, hs, h2, fun i v hv => ?_⟩, hc, hm⟩
  obtain ⟨l, hl, ho⟩ := h3 i v hv
  obtain ⟨B, c', hv', hs', hc', hm'⟩ := ho.form henc
  exact ⟨B, l, c', hl, hv', hs', hc', hm'⟩
theorem GridA.below {A : Option Addr} {n : Nat} (h : GridA enc sz w A n ls) (hb : Below B w w') (hB : w.heap.size ≤ B) : GridA enc sz w' A n ls := by
  obtain ⟨mv, h1, h2, h3⟩ := h
  exact ⟨mv, h1.below hb hB, h2, fun i v hv => by
    obtain ⟨C, l, c, a1, a2, a3, a4, a5⟩ := h3 i v hv
    exact ⟨C, l, c, a1, a2, a3.below hb hB, a4, a5⟩⟩
theorem GridA.get {A : Option Addr} {n : Nat} (h : GridA enc sz w A n ls) {k : Nat} (hk : k < n) :
    ∃ b off B l c, A = some ⟨b, off, none⟩ ∧ b < w.heap.size ∧ ls[k]? = some l ∧ w.cell? ⟨b, off + k, none⟩ = some (.slice B l.length c) ∧ Sl enc sz w B l.length l ∧ l.length ≤ c ∧ c ≤ maxLen := by
  obtain ⟨mv, h1, h2, h3⟩ := h
  obtain ⟨b, off, x, hA, hb, hx, hc⟩ := Vals.get h1 hk
  obtain ⟨B, l, c, a1, a2, a3, a4, a5⟩ := h3 k x hx
  subst a2
  exact ⟨b, off, B, l, c, hA, hb, a1, hc, a3, a4, a5⟩
end
end Go.Proofs.Ytmennjmjakdkcaa
namespace Go.Proofs.Ytmennjmjakdkcaa
open Go.RowKit Go.MapKept
set_option linter.unusedVariables false
set_option linter.unusedSimpArgs false

def TruthsR (b : Hb) (w : World) (e : Ending) (w' : World) : Prop := e = .returned (.tuple #[.int .i64 (if b.chk = 0 then ((b.ends (-1) 0).length : Int) else 0), .int .i64 b.chk]) ∧ Below w.heap.size w w'
set_option maxRecDepth 100000 in
set_option maxHeartbeats 1000000 in
theorem Truths_any (b : Hb) (w : World) (hin : HbIn w b) : Calls Try.prog 70 #[b.v] w (TruthsR b w) := by
  obtain ⟨V, hV⟩ : ∃ V, V = w.alloc b.obj := ⟨_, rfl⟩
  obtain ⟨g, hg⟩ : ∃ g, g = w.heap.size := ⟨_, rfl⟩
  have b0 : V.heap[g]? = some b.obj := by rw [hV, hg]; exact alloc_at rfl
  have hBV : Below w.heap.size w V := by rw [hV]; exact bal0 w _
  have hiV := hin.below hBV (Nat.le_refl _)
  obtain ⟨c0, c1, c2, c3, c4⟩ := blk5c b0
  have hak := asked_any b V hiV
  unfold Hb.v at hak
  have HV := Lib.hid (And.intro hBV (And.intro b0 (And.intro hiV hg)))
  unfold Hb.v
  go_enter Try.func70, Try.ntmps70
  go_upto_region 1 with (fail)
  rw [← hV, ← hg]
  clear hV hg hin hBV hiV b0
  obtain ⟨R, hR⟩ : ∃ R, R = AskedR b b.chk V := ⟨_, rfl⟩
  rw [← hR] at hak
  have HR := Lib.hid hR
  clear hR
  go_wp2_with (go_at_call 55; refine hak.mono ?_; rintro e w2 hRR; rw [HR.out] at hRR; unfold AskedR at hRR; rcases hRR with ⟨h0, rfl, hb2⟩ | ⟨h0, p, rfl, hWk, hb2⟩)
  · go_ret2
    unfold TruthsR
    rw [if_neg h0]
    exact ⟨rfl, HV.out.1.trans (hb2.mono HV.out.1.size)⟩
  · have H2 := Lib.hid (And.intro (HV.out.1.trans (hb2.mono HV.out.1.size)) (And.intro hWk h0))
    refine (many_any V p b (-1) 0 w2 hWk).mono ?_
    rintro e w3 ⟨rfl, hN3⟩
    have hb3 : Below w.heap.size w w3 := H2.out.1.trans (hN3.less (Nat.le_trans HV.out.1.size hWk.hz) H2.out.1.size)
    clear hWk hb2 hN3
    go_wp2
    go_ret2
    unfold TruthsR
    rw [H2.out.2.2, if_pos rfl]
    exact ⟨rfl, hb3⟩

theorem okRns : ElemOk Try.prog 68 56 1 24 := ElemOk.mk' (z := .slice none 0 0) Try.underlying68 (by kernel_rfl) rfl (by decide)
abbrev OwnT (w : World) (base : Nat) (v : Value) (ls : List (List Rn)) : Prop := OwnA eRn 64 56 2 w base v ls
theorem OwnT.now {a c : World} {base p : Nat} {v : Value} {l : List (List Rn)} {O : Int → Obj} (h : OwnT a base v l) (k : NowIn p O a c) (hp : p < base) : OwnT c base v l :=
  h.map (fun _ h => Own.now h k hp) (fun _ _ h => Own.now h k hp)

set_option maxRecDepth 100000 in
/-- what an owner has in a flock -/
theorem hasF_any (x : List Int) (f i : Nat) (q : Nat) (W : World) (hxl : x.length = 15) (hf : f < 3) (hi : i < 5) (hq : W.heap[q]? = some (Obj.cells #[.int .i64 (f : Int)] 3 (0, 0))) :
    Calls Try.prog 82 (#[.agg (hcs x), .int .i64 (i : Int)] ++ #[.pointer (some ⟨q, 0, none⟩)]) W fun e W' => e = .returned (.int .i64 (hget x f i)) ∧ Below W.heap.size W W' := by
  obtain ⟨V, hV⟩ : ∃ V, V = W.alloc (Obj.cells (hcs x) 137) := ⟨_, rfl⟩
  have b0 : V.heap[W.heap.size]? = some (hObj x) := by rw [hV]; exact alloc_at rfl
  have cq := blk1 (show V.heap[q]? = _ by rw [hV]; exact hblk_alloc hq _)
  have hBV : Below W.heap.size W V := by rw [hV]; exact bal0 W _
  have HV := Lib.hid hBV
  obtain ⟨g, hg⟩ : ∃ g, g = W.heap.size := ⟨_, rfl⟩
  obtain ⟨y, hy⟩ : ∃ y, y = hget x f i := ⟨_, rfl⟩
  rw [← hg] at b0
  rw [← hy]
  have c0 : V.cell? ⟨g, f * 5 + i, none⟩ = some (.int .i64 y) := by rw [hy, Nat.mul_comm f 5]; exact blkH b0 (by omega)
  have i0 : (0 : Int) ≤ (f : Int) := by omega
  have i1 : (f : Int) < 3 := by omega
  have i2 : (0 : Int) ≤ (i : Int) := by omega
  have i3 : (i : Int) < 5 := by omega
  simp only [List.append_toArray, List.cons_append, List.nil_append]
  clear hq hy b0 hBV
  go_enter Try.func82, Try.ntmps82
  go_upto_region 1 with (fail)
  rw [← hV, ← hg]
  clear hV hg
  go_wp2
  go_ret
  exact ⟨rfl, HV.out⟩
end Go.Proofs.Ytmennjmjakdkcaa
namespace Go.Proofs.Ytmennjmjakdkcaa
open Go.RowKit Go.MapKept
set_option linter.unusedVariables false
set_option linter.unusedSimpArgs false

/-- the error of a question: that of the book; there is no truth -/
def askE (b : Hb) : Int := if b.chk ≠ 0 then b.chk else if b.ends (-1) 0 = [] then 11 else 0
theorem askE_chk {b : Hb} (h : b.chk ≠ 0) : askE b = b.chk := if_pos h
theorem askE_none {b : Hb} (h : b.chk = 0) (h' : b.ends (-1) 0 = []) : askE b = 11 := by unfold askE; rw [if_neg (by rw [h]; simp), if_pos h']
theorem askE_ok {b : Hb} (h : b.chk = 0) (h' : b.ends (-1) 0 ≠ []) : askE b = 0 := by unfold askE; rw [if_neg (by rw [h]; simp), if_neg h']
def hasTo (E : List (List Int)) (n k : Nat) : List (List Rn) := (List.range k).map fun f => (List.range n).map fun o => rangeE E fun h => hget h f o
theorem hasTo_succ (E : List (List Int)) (n k : Nat) : hasTo E n (k + 1) = hasTo E n k ++ [spansTo E (fun i x => hget x k i) n] := by unfold hasTo; rw [List.range_succ, List.map_append]; rfl
theorem hasTo_len (E : List (List Int)) (n k : Nat) : (hasTo E n k).length = k := by simp [hasTo]
def hasR (b : Hb) : List (List Rn) := if askE b = 0 then hasL (b.ends (-1) 0) b.l.length b.ks.length else []
def HasR (b : Hb) (w : World) (e : Ending) (w' : World) : Prop := (∃ v, e = .returned (.tuple #[v, .int .i64 (askE b)]) ∧ OwnT w' w.heap.size v (hasR b)) ∧ Below w.heap.size w w'
set_option maxRecDepth 100000 in
set_option maxHeartbeats 1000000 in
theorem Has_any (b : Hb) (w : World) (hin : HbIn w b) : Calls Try.prog 32 #[b.v] w (HasR b w) := by
  obtain ⟨V, hV⟩ : ∃ V, V = w.alloc b.obj := ⟨_, rfl⟩
  obtain ⟨g, hg⟩ : ∃ g, g = w.heap.size := ⟨_, rfl⟩
  have b0 : V.heap[g]? = some b.obj := by rw [hV, hg]; exact alloc_at rfl
  have hBV : Below w.heap.size w V := by rw [hV]; exact bal0 w _
  have hiV := hin.below hBV (Nat.le_refl _)
  obtain ⟨c0, c1, c2, c3, c4⟩ := blk5c b0
  have hak := asked_any b V hiV
  unfold Hb.v at hak
  have HV := Lib.hid (And.intro hBV (And.intro b0 (And.intro hiV hg)))
  have hent : ∀ (args : Array Value) (w : World), (callFunc 82 args).run Try.prog w = .ok (.enter 82 args) w := enters_of Try.func82 (by kernel_rfl) rfl
  have HENT := Lib.hid hent
  unfold Hb.v
  go_enter Try.func32, Try.ntmps32
  go_upto_region 1 with (fail)
  rw [← hV, ← hg]
  clear hV hg hin hBV hiV b0 hent
  obtain ⟨R, hR⟩ : ∃ R, R = AskedR b b.chk V := ⟨_, rfl⟩
  rw [← hR] at hak
  have HR := Lib.hid hR
  clear hR
  go_upto_region 2 with (go_at_call 55; refine hak.mono ?_; rintro e w2 hRR; rw [HR.out] at hRR; unfold AskedR at hRR; rcases hRR with ⟨h0, rfl, hb2⟩ | ⟨h0, p, rfl, hWk, hb2⟩)
  · have xf : (b.chk != 0) = true := by simp [h0]
    go_wp2_with fail
    go_ret2
    unfold HasR hasR
    rw [askE_chk h0, if_neg h0]
    exact ⟨⟨_, rfl, OwnA.nil_⟩, HV.out.1.trans (hb2.mono HV.out.1.size)⟩
  have x0 := bheap HV.out.2.1 hb2 (Nat.le_refl _)
  have hok := hWk.ok
  have hgp : g ≠ p := by have := hWk.hz; have := heap_lt HV.out.2.1; omega
  clear c0 c1 c2 c3 c4 hak
  obtain ⟨c0, c1, c2, c3, c4⟩ := blk5c x0
  have hpl := hWk.lt
  obtain ⟨n, hn⟩ : ∃ n, n = b.l.length := ⟨_, rfl⟩
  obtain ⟨nk, hnk⟩ : ∃ nk, nk = b.ks.length := ⟨_, rfl⟩
  rw [← hn] at c1
  rw [← hnk] at c2
  have hn0 : 0 < n ∧ n ≤ 5 := by rw [hn]; exact ⟨hok.n0, hok.n5⟩
  have hk0 : 0 < nk ∧ nk ≤ 3 := by rw [hnk]; exact ⟨hok.f0, hok.f3⟩
  have H2 := Lib.hid (And.intro hb2 (And.intro hWk (And.intro h0 (And.intro hn (And.intro hnk (And.intro hok (And.intro hgp x0)))))))
  clear hb2 hWk h0 hn hnk hok hgp x0
  go_wp2_with fail
  go_loopg [6, 21] nk (fun g' v6 v21 wr => ∃ k : Nat, k + g' = nk ∧ v21 = .int .i64 k ∧ (0 < k → b.ends (-1) 0 ≠ []) ∧ OwnT wr w2.heap.size v6 (hasTo (b.ends (-1) 0) n k) ∧ NowIn p (b.bk (-1) 0) w2 wr)
  case atStart => exact ⟨0, by omega, rfl, fun h => absurd h (by omega), OwnA.nil_, H2.out.2.1.refl⟩
  case round =>
    obtain ⟨k, hk, rfl, hne, hown, hN⟩ := hrel
    by_cases hlt : k < nk
    · have i1 : (k : Int) < (nk : Int) := by omega
      have i2 : (nk : Int) ≤ 3 := by omega
      obtain ⟨wi, hwi⟩ : ∃ wi, wi = wr.alloc (Obj.cells #[Value.int .i64 (k : Int)] 3) := ⟨_, rfl⟩
      obtain ⟨gi, hgi⟩ : ∃ gi, gi = wr.heap.size := ⟨_, rfl⟩
      have hNi : NowIn p (b.bk (-1) 0) w2 wi := by rw [hwi]; exact hN.below hpl (bal0 wr _) hN.size
      have bii : wi.heap[gi]? = some (Obj.cells #[Value.int .i64 (k : Int)] 3 (0, 0)) := by rw [hwi, hgi]; exact alloc_at rfl
      have hgpi : gi ≠ p := by have := hN.lt; omega
      have howni : OwnT wi w2.heap.size u6 (hasTo (b.ends (-1) 0) n k) := by rw [hwi]; exact OwnA.alloc hown _
      have hzi : w2.heap.size ≤ wi.heap.size := hNi.size
      have xg := hNi.blk H2.out.2.2.2.2.2.2.2 H2.out.2.2.2.2.2.2.1
      clear c0 c1 c2 c3 c4
      obtain ⟨c0, c1, c2, c3, c4⟩ := blk5c xg
      rw [← H2.out.2.2.2.1] at c1
      have hsp := spans_any V p b (-1) 0 wi (H2.out.2.1.now hNi) n hn0.1 (by omega) 82 #[.pointer (some ⟨gi, 0, none⟩)] (fun i x => hget x k i) HENT.out (fun x hx i hi W hNW =>
        hasF_any x k i gi W ((endsTo_bd H2.out.2.2.2.2.2.1.f3 H2.out.2.2.2.2.2.1.n5 H2.out.2.2.2.2.2.1.rb H2.out.2.2.2.2.2.1.dI _ x hx).1) (by omega) (by omega) (hNW.blk bii hgpi))
      have HI := Lib.hid (And.intro hNi (And.intro bii (And.intro howni (And.intro hzi (And.intro hne hk)))))
      have HWI := Lib.hid hwi
      have HGI := Lib.hid hgi
      clear hNi bii hgpi howni hzi hne hk hown hN xg hwi hgi
      go_upto_region 8 with (fail)
      rw [← HWI.out, ← HGI.out]
      go_upto_region 9 with (go_at_call 81; refine hsp.mono ?_; rintro e w3 ⟨⟨v, rfl, hov⟩, hN3⟩)
      have hN3' := HI.out.1.trans hN3
      have hb3 : Below w.heap.size w w3 := (HV.out.1.trans (H2.out.1.mono HV.out.1.size)).trans (hN3'.less (Nat.le_trans HV.out.1.size H2.out.2.1.hz) (Nat.le_trans HV.out.1.size H2.out.1.size))
      have hp2 : p < w2.heap.size := hpl
      have hovw : OwnR w3 w2.heap.size v (spansR (b.ends (-1) 0) (fun i x => hget x k i) n) := hov.mono HI.out.2.2.2.1
      have hownw : OwnT w3 w2.heap.size u6 (hasTo (b.ends (-1) 0) n k) := HI.out.2.2.1.now hN3 hp2
      have H3 := Lib.hid (And.intro hN3' (And.intro hb3 (And.intro hovw hownw)))
      have hz3 := hN3'.size
      clear hN3 hN3' hb3 hov hovw hownw hsp
      by_cases hE : b.ends (-1) 0 = []
      · have HE := Lib.hid hE
        rw [spansE_pos hE]
        clear hE
        go_wp2_with fail
        go_ret2
        unfold HasR hasR
        rw [askE_none H2.out.2.2.1 HE.out, if_neg (by decide)]
        exact ⟨⟨_, rfl, OwnA.nil_⟩, H3.out.2.1⟩
      · have HE := Lib.hid hE
        rw [spansE_neg hE]
        clear hE
        have hll : (hasTo (b.ends (-1) 0) n k).length < 4294967296 := by rw [hasTo_len]; omega
        have hov1 := H3.out.2.2.1
        unfold spansR at hov1
        rw [if_neg HE.out] at hov1
        obtain ⟨Av, cv, hve, -, -, -⟩ := hov1.form lenRn
        have HOV := Lib.hid hov1
        clear hov1
        subst hve
        go_wp2_with (at_builtin; refine wp_app_rowA okRns (by decide) rfl (.tmp 37) (.tmp 39) rfl w2.heap.size _ _ (hasTo (b.ends (-1) 0) n k) _ rfl rfl H3.out.2.2.2 HOV.out hll hz3 ?_; intro v' w4 hown4 hb4 _; have H4 := Lib.hid (And.intro hown4 hb4); clear hown4 hb4)
        go_roundg (gk - 1)
        case measure => have := HI.out.2.2.2.2.2; omega
        case rel => exact ⟨k + 1, by have := HI.out.2.2.2.2.2; omega, by go_num, fun _ => HE.out, by rw [hasTo_succ]; exact H4.out.1, H3.out.1.below hpl H4.out.2 (Nat.le_refl _)⟩
    · obtain rfl : k = nk := by omega
      have HF := Lib.hid (And.intro (hne hk0.1) (And.intro hown hN))
      clear hne hown hN hk
      go_wp2_with fail
      go_ret2
      unfold HasR hasR
      rw [askE_ok H2.out.2.2.1 HF.out.1, if_pos rfl]
      refine ⟨⟨_, rfl, ?_⟩, (HV.out.1.trans (H2.out.1.mono HV.out.1.size)).trans (HF.out.2.2.less (Nat.le_trans HV.out.1.size H2.out.2.1.hz) (Nat.le_trans HV.out.1.size H2.out.1.size))⟩
      have := HF.out.2.1
      rw [H2.out.2.2.2.1, H2.out.2.2.2.2.1] at this
      exact OwnA.mono this (Nat.le_trans HV.out.1.size H2.out.1.size)
end Go.Proofs.Ytmennjmjakdkcaa
namespace Go.Proofs.Ytmennjmjakdkcaa
open Go.RowKit
set_option linter.unusedVariables false
set_option linter.unusedSimpArgs false

set_option maxRecDepth 100000 in
theorem run_row3 (x0 x1 x2 x3 x4 x5 x6 x7 x8 x9 x10 x11 x12 x13 x14 : Int) (w : World) :
    (Instr.index 137 (.agg #[.int .i64 x0, .int .i64 x1, .int .i64 x2, .int .i64 x3, .int .i64 x4, .int .i64 x5, .int .i64 x6, .int .i64 x7, .int .i64 x8, .int .i64 x9, .int .i64 x10, .int .i64 x11, .int .i64 x12, .int .i64 x13, .int .i64 x14]) (.int .i64 0)).run Try.prog w = .ok (.agg #[.int .i64 x0, .int .i64 x1, .int .i64 x2, .int .i64 x3, .int .i64 x4]) w ∧
    (Instr.index 137 (.agg #[.int .i64 x0, .int .i64 x1, .int .i64 x2, .int .i64 x3, .int .i64 x4, .int .i64 x5, .int .i64 x6, .int .i64 x7, .int .i64 x8, .int .i64 x9, .int .i64 x10, .int .i64 x11, .int .i64 x12, .int .i64 x13, .int .i64 x14]) (.int .i64 1)).run Try.prog w = .ok (.agg #[.int .i64 x5, .int .i64 x6, .int .i64 x7, .int .i64 x8, .int .i64 x9]) w ∧
    (Instr.index 137 (.agg #[.int .i64 x0, .int .i64 x1, .int .i64 x2, .int .i64 x3, .int .i64 x4, .int .i64 x5, .int .i64 x6, .int .i64 x7, .int .i64 x8, .int .i64 x9, .int .i64 x10, .int .i64 x11, .int .i64 x12, .int .i64 x13, .int .i64 x14]) (.int .i64 2)).run Try.prog w = .ok (.agg #[.int .i64 x10, .int .i64 x11, .int .i64 x12, .int .i64 x13, .int .i64 x14]) w := ⟨by kernel_rfl, by kernel_rfl, by kernel_rfl⟩
theorem run_row (h : List Int) (hl : h.length = 15) (w : World) (k : Nat) (hk : k < 3) :
    (Instr.index 137 (.agg (hcs h)) (.int .i64 (k : Int))).run Try.prog w = .ok (.agg #[.int .i64 (hget h k 0), .int .i64 (hget h k 1), .int .i64 (hget h k 2), .int .i64 (hget h k 3), .int .i64 (hget h k 4)]) w := by
  obtain ⟨a, b, c, d, e, f, g, i, j, l, m, n, o, p, q, rfl⟩ := list15' hl
  obtain ⟨h0, h1, h2⟩ := run_row3 a b c d e f g i j l m n o p q w
  obtain rfl | rfl | rfl : k = 0 ∨ k = 1 ∨ k = 2 := by omega
  · exact h0
  · exact h1
  · exact h2
theorem cell5 (x0 x1 x2 x3 x4 : Int) (w : World) (e : TypeId) (o : Nat) (ho : o < 5) : (w.alloc (Obj.cells #[.int .i64 x0, .int .i64 x1, .int .i64 x2, .int .i64 x3, .int .i64 x4] e)).cell? ⟨w.heap.size, o, none⟩ = some (.int .i64 ([x0, x1, x2, x3, x4].getD o 0)) := by
  have h : (w.alloc (Obj.cells #[.int .i64 x0, .int .i64 x1, .int .i64 x2, .int .i64 x3, .int .i64 x4] e)).heap[w.heap.size]? = some (Obj.cells #[.int .i64 x0, .int .i64 x1, .int .i64 x2, .int .i64 x3, .int .i64 x4] e) := alloc_at rfl
  obtain rfl | rfl | rfl | rfl | rfl : o = 0 ∨ o = 1 ∨ o = 2 ∨ o = 3 ∨ o = 4 := by omega
  all_goals
    unfold World.cell?
    rw [h]
    rfl
theorem row_getD (h : List Int) (k o : Nat) (ho : o < 5) : [hget h k 0, hget h k 1, hget h k 2, hget h k 3, hget h k 4].getD o 0 = hget h k o := by
  obtain rfl | rfl | rfl | rfl | rfl : o = 0 ∨ o = 1 ∨ o = 2 ∨ o = 3 ∨ o = 4 := by omega
  all_goals rfl
set_option maxRecDepth 100000 in
set_option maxHeartbeats 2000000 in
theorem owned_any (h : List Int) (o : Nat) (w : World) (hh : HBd 1000 h) (ho : o < 5) :
    Calls Try.prog 86 #[.agg (hcs h), .int .i64 o] w fun e w' => e = .returned (.int .i64 (howned h o)) ∧ Below w.heap.size w w' := by
  have hl := hh.1
  obtain ⟨V, hV⟩ : ∃ V, V = w.alloc (Obj.cells (hcs h) 137) := ⟨_, rfl⟩
  obtain ⟨r, hr⟩ : ∃ r, r = w.heap.size := ⟨_, rfl⟩
  have b0 : V.heap[r]? = some (hObj h) := by rw [hV, hr]; exact alloc_at rfl
  have hB : Below w.heap.size w V := by rw [hV]; exact bal0 w _
  have HV := Lib.hid (And.intro hB hh)
  go_enter Try.func86, Try.ntmps86
  go_upto_region 1 with (fail)
  rw [← hV, ← hr]
  clear hV hr hB hh
  go_upto_region 3 with ((with_reducible apply wp_loadH b0 hl); (rfl); (rfl); (rfl))
  go_loopg [5, 9] 3 (fun g sv iv wr => ∃ k : Nat, k + g = 3 ∧ iv = .int .i64 k ∧ sv = .int .i64 (sumTo [hget h 0 o, hget h 1 o, hget h 2 o] k) ∧ Below V.heap.size V wr)
  case atStart => exact ⟨0, rfl, rfl, rfl, Below.refl _ _⟩
  case round =>
    obtain ⟨k, hk, rfl, rfl, hb⟩ := hrel
    by_cases hlt : k < 3
    · have hsb := sumTo_bd (r := [hget h 0 o, hget h 1 o, hget h 2 o]) (fun x hx => by
        simp only [List.mem_cons, List.not_mem_nil, or_false] at hx
        rcases hx with rfl | rfl | rfl
        · exact HV.out.2.get (by decide) ho
        · exact HV.out.2.get (by decide) ho
        · exact HV.out.2.get (by decide) ho) k
      have hnx : sumTo [hget h 0 o, hget h 1 o, hget h 2 o] (k + 1) = sumTo [hget h 0 o, hget h 1 o, hget h 2 o] k + hget h k o := by
        show _ + [hget h 0 o, hget h 1 o, hget h 2 o].getD k 0 = _
        obtain rfl | rfl | rfl : k = 0 ∨ k = 1 ∨ k = 2 := by omega
        all_goals rfl
      have hix := run_row h hl wr k hlt
      have hc5 := cell5 (hget h k 0) (hget h k 1) (hget h k 2) (hget h k 3) (hget h k 4) wr 135 o ho
      rw [row_getD h k o ho] at hc5
      have hgb := HV.out.2.get (f := k) hlt ho
      obtain ⟨S, hS⟩ : ∃ S, S = sumTo [hget h 0 o, hget h 1 o, hget h 2 o] k := ⟨_, rfl⟩
      rw [← hS] at hsb hnx ⊢
      have HN := Lib.hid (And.intro hnx (And.intro hk hb))
      have hi1 : (o : Int) < 5 := by omega
      have hk3 : (k : Int) < 3 := by omega
      clear hS hnx hk hb
      go_wp2_with fail
      go_roundg (gk - 1)
      case measure => have := HN.out.2.1; omega
      case rel => exact ⟨k + 1, by have := HN.out.2.1; omega, by go_num, by rw [HN.out.1], bal HN.out.2.2 (Nat.le_refl _) _⟩
    · obtain rfl : k = 3 := by omega
      have HN := Lib.hid hb
      clear hk hb
      go_wp2
      go_ret
      exact ⟨ret_int (by simp [sumTo, howned]), HV.out.1.trans (HN.out.mono HV.out.1.size)⟩
end Go.Proofs.Ytmennjmjakdkcaa
namespace Go.Proofs.Ytmennjmjakdkcaa
open Go.RowKit Go.MapKept
set_option linter.unusedVariables false
set_option linter.unusedSimpArgs false

theorem spansTo_owns (E : List (List Int)) (n : Nat) : spansTo E (fun o x => howned x o) n = ownsL E n := rfl
theorem spansTo_total (E : List (List Int)) (n : Nat) : spansTo E (fun f x => hall x f) n = totalL E n := rfl
def ownsR (b : Hb) : List Rn := if askE b = 0 then ownsL (b.ends (-1) 0) b.l.length else []
def totalR (b : Hb) : List Rn := if askE b = 0 then totalL (b.ends (-1) 0) b.ks.length else []
def OwnsR (b : Hb) (w : World) (e : Ending) (w' : World) : Prop := (∃ v, e = .returned (.tuple #[v, .int .i64 (askE b)]) ∧ OwnR w' w.heap.size v (ownsR b)) ∧ Below w.heap.size w w'
def TotalR (b : Hb) (w : World) (e : Ending) (w' : World) : Prop := (∃ v, e = .returned (.tuple #[v, .int .i64 (askE b)]) ∧ OwnR w' w.heap.size v (totalR b)) ∧ Below w.heap.size w w'
theorem hb_of {b : Hb} {deed owner : Int} (hk : HeOk b.t b.l b.ks b.hs b.ds) : ∀ x ∈ b.ends deed owner, HBd 1000 x := fun x hx => (endsTo_bd hk.f3 hk.n5 hk.rb hk.dI _ x hx).mono (by have := hk.d6; omega)
set_option maxRecDepth 100000 in
set_option maxHeartbeats 1000000 in
theorem Owns_any (b : Hb) (w : World) (hin : HbIn w b) : Calls Try.prog 40 #[b.v] w (OwnsR b w) := by
  obtain ⟨V, hV⟩ : ∃ V, V = w.alloc b.obj := ⟨_, rfl⟩
  obtain ⟨g, hg⟩ : ∃ g, g = w.heap.size := ⟨_, rfl⟩
  have b0 : V.heap[g]? = some b.obj := by rw [hV, hg]; exact alloc_at rfl
  have hBV : Below w.heap.size w V := by rw [hV]; exact bal0 w _
  have hiV := hin.below hBV (Nat.le_refl _)
  obtain ⟨c0, c1, c2, c3, c4⟩ := blk5c b0
  have hak := asked_any b V hiV
  unfold Hb.v at hak
  have HV := Lib.hid (And.intro hBV (And.intro b0 (And.intro hiV hg)))
  have hent : ∀ (args : Array Value) (w : World), (callFunc 86 args).run Try.prog w = .ok (.enter 86 args) w := enters_of Try.func86 (by kernel_rfl) rfl
  have HENT := Lib.hid hent
  unfold Hb.v
  go_enter Try.func40, Try.ntmps40
  go_upto_region 1 with (fail)
  rw [← hV, ← hg]
  clear hV hg hin hBV hiV b0 hent
  obtain ⟨R, hR⟩ : ∃ R, R = AskedR b b.chk V := ⟨_, rfl⟩
  rw [← hR] at hak
  have HR := Lib.hid hR
  clear hR
  go_upto_region 2 with (go_at_call 55; refine hak.mono ?_; rintro e w2 hRR; rw [HR.out] at hRR; unfold AskedR at hRR; rcases hRR with ⟨h0, rfl, hb2⟩ | ⟨h0, p, rfl, hWk, hb2⟩)
  · have xf : (b.chk != 0) = true := by simp [h0]
    go_wp2_with fail
    go_ret2
    unfold OwnsR ownsR
    rw [askE_chk h0, if_neg h0]
    exact ⟨⟨_, rfl, Own.nil_⟩, HV.out.1.trans (hb2.mono HV.out.1.size)⟩
  have x0 := bheap HV.out.2.1 hb2 (Nat.le_refl _)
  have hok := hWk.ok
  clear c0 c1 c2 c3 c4 hak
  obtain ⟨c0, c1, c2, c3, c4⟩ := blk5c x0
  obtain ⟨n, hn⟩ : ∃ n, n = b.l.length := ⟨_, rfl⟩
  rw [← hn] at c1
  have hn0 : 0 < n ∧ n ≤ 5 := by rw [hn]; exact ⟨hok.n0, hok.n5⟩
  have hbd := hb_of (deed := -1) (owner := 0) hok
  have hsp := spans_any V p b (-1) 0 w2 hWk n hn0.1 (by omega) 86 #[] (fun i x => howned x i) HENT.out (fun x hx i hi W hNW => owned_any x i W (hbd x hx) (by omega))
  have H2 := Lib.hid (And.intro hb2 (And.intro hWk (And.intro h0 hn)))
  clear hb2 hWk h0 hn hok x0 hbd
  go_wp2_with (go_at_call 81; refine hsp.mono ?_; rintro e w3 ⟨⟨v, rfl, hov⟩, hN3⟩)
  go_ret2
  have hh := H2.out
  have hb3 : Below w.heap.size w w3 := (HV.out.1.trans (hh.1.mono HV.out.1.size)).trans (hN3.less (Nat.le_trans HV.out.1.size hh.2.1.hz) (Nat.le_trans HV.out.1.size hh.1.size))
  have hsz : w.heap.size ≤ w2.heap.size := Nat.le_trans HV.out.1.size hh.1.size
  unfold OwnsR ownsR
  by_cases hE : b.ends (-1) 0 = []
  · rw [askE_none hh.2.2.1 hE, if_neg (by decide)]
    rw [spansE_pos hE]
    have hov' : OwnR w3 w2.heap.size v [] := by unfold spansR at hov; rwa [if_pos hE] at hov
    exact ⟨⟨_, rfl, hov'.mono hsz⟩, hb3⟩
  · rw [askE_ok hh.2.2.1 hE, if_pos rfl]
    rw [spansE_neg hE]
    have hov' : OwnR w3 w2.heap.size v (spansTo (b.ends (-1) 0) (fun i x => howned x i) n) := by unfold spansR at hov; rwa [if_neg hE] at hov
    rw [spansTo_owns, hh.2.2.2] at hov'
    exact ⟨⟨_, rfl, hov'.mono hsz⟩, hb3⟩
set_option maxRecDepth 100000 in
set_option maxHeartbeats 1000000 in
theorem Total_any (b : Hb) (w : World) (hin : HbIn w b) : Calls Try.prog 41 #[b.v] w (TotalR b w) := by
  obtain ⟨V, hV⟩ : ∃ V, V = w.alloc b.obj := ⟨_, rfl⟩
  obtain ⟨g, hg⟩ : ∃ g, g = w.heap.size := ⟨_, rfl⟩
  have b0 : V.heap[g]? = some b.obj := by rw [hV, hg]; exact alloc_at rfl
  have hBV : Below w.heap.size w V := by rw [hV]; exact bal0 w _
  have hiV := hin.below hBV (Nat.le_refl _)
  obtain ⟨c0, c1, c2, c3, c4⟩ := blk5c b0
  have hak := asked_any b V hiV
  unfold Hb.v at hak
  have HV := Lib.hid (And.intro hBV (And.intro b0 (And.intro hiV hg)))
  have hent : ∀ (args : Array Value) (w : World), (callFunc 77 args).run Try.prog w = .ok (.enter 77 args) w := enters_of Try.func77 (by kernel_rfl) rfl
  have HENT := Lib.hid hent
  unfold Hb.v
  go_enter Try.func41, Try.ntmps41
  go_upto_region 1 with (fail)
  rw [← hV, ← hg]
  clear hV hg hin hBV hiV b0 hent
  obtain ⟨R, hR⟩ : ∃ R, R = AskedR b b.chk V := ⟨_, rfl⟩
  rw [← hR] at hak
  have HR := Lib.hid hR
  clear hR
  go_upto_region 2 with (go_at_call 55; refine hak.mono ?_; rintro e w2 hRR; rw [HR.out] at hRR; unfold AskedR at hRR; rcases hRR with ⟨h0, rfl, hb2⟩ | ⟨h0, p, rfl, hWk, hb2⟩)
  · have xf : (b.chk != 0) = true := by simp [h0]
    go_wp2_with fail
    go_ret2
    unfold TotalR totalR
    rw [askE_chk h0, if_neg h0]
    exact ⟨⟨_, rfl, Own.nil_⟩, HV.out.1.trans (hb2.mono HV.out.1.size)⟩
  have x0 := bheap HV.out.2.1 hb2 (Nat.le_refl _)
  have hok := hWk.ok
  clear c0 c1 c2 c3 c4 hak
  obtain ⟨c0, c1, c2, c3, c4⟩ := blk5c x0
  obtain ⟨n, hn⟩ : ∃ n, n = b.ks.length := ⟨_, rfl⟩
  rw [← hn] at c2
  have hn0 : 0 < n ∧ n ≤ 3 := by rw [hn]; exact ⟨hok.f0, hok.f3⟩
  have hbd := hb_of (deed := -1) (owner := 0) hok
  have hsp := spans_any V p b (-1) 0 w2 hWk n hn0.1 (by omega) 77 #[] (fun i x => hall x i) HENT.out (fun x hx i hi W hNW => all_any x i W (hbd x hx) (by omega))
  have H2 := Lib.hid (And.intro hb2 (And.intro hWk (And.intro h0 hn)))
  clear hb2 hWk h0 hn hok x0 hbd
  go_wp2_with (go_at_call 81; refine hsp.mono ?_; rintro e w3 ⟨⟨v, rfl, hov⟩, hN3⟩)
  go_ret2
  have hh := H2.out
  have hb3 : Below w.heap.size w w3 := (HV.out.1.trans (hh.1.mono HV.out.1.size)).trans (hN3.less (Nat.le_trans HV.out.1.size hh.2.1.hz) (Nat.le_trans HV.out.1.size hh.1.size))
  have hsz : w.heap.size ≤ w2.heap.size := Nat.le_trans HV.out.1.size hh.1.size
  unfold TotalR totalR
  by_cases hE : b.ends (-1) 0 = []
  · rw [askE_none hh.2.2.1 hE, if_neg (by decide)]
    rw [spansE_pos hE]
    have hov' : OwnR w3 w2.heap.size v [] := by unfold spansR at hov; rwa [if_pos hE] at hov
    exact ⟨⟨_, rfl, hov'.mono hsz⟩, hb3⟩
  · rw [askE_ok hh.2.2.1 hE, if_pos rfl]
    rw [spansE_neg hE]
    have hov' : OwnR w3 w2.heap.size v (spansTo (b.ends (-1) 0) (fun i x => hall x i) n) := by unfold spansR at hov; rwa [if_neg hE] at hov
    rw [spansTo_total, hh.2.2.2] at hov'
    exact ⟨⟨_, rfl, hov'.mono hsz⟩, hb3⟩
end Go.Proofs.Ytmennjmjakdkcaa
namespace Go.Proofs.Ytmennjmjakdkcaa
open Go.RowKit
set_option linter.unusedVariables false
set_option linter.unusedSimpArgs false

set_option maxHeartbeats 1000000 in
theorem copyInts_any (A : Option Addr) (n c : Nat) (l : List Int) (w : World) (hl : Ints w A n l) (hz : A = none → c = 0) (hn : n ≤ 4294967295) :
    Calls Try.prog 47 #[.slice A n c] w fun e w' => ∃ v, e = .returned v ∧ Own eInt 3 1 w' w.heap.size v l ∧ Below w.heap.size w w' := by
  have HL := Lib.hid (And.intro hl hz)
  have HB := Lib.hid (bal0 w (Obj.cells #[] 3))
  have HLW := Lib.hid (HL.out.1.below HB.out (Nat.le_refl _))
  have HOWN := Lib.hid (show Own eInt 3 1 (w.alloc (Obj.cells #[] 3)) w.heap.size (.slice (some ⟨w.heap.size, 0, none⟩) 0 0) [] from Own.lit (enc := eInt) w w.heap.size #[] [] rfl lenInt (by omega) (by simp [maxLen]))
  clear hl hz
  go_enter Try.func47, Try.ntmps47
  go_wp2_with (at_builtin; refine wp_apps okInt rfl (.tmp 3) (.tmp 4) rfl w.heap.size (.slice (some ⟨w.heap.size, 0, none⟩) 0 0) [] A n c l rfl rfl HLW.out HL.out.2 lenInt one_eInt HOWN.out ?_ ?_ ?_ ?_; (simp; omega); (omega); (simp); intro v' w5 hown5 hgr5 hb5; have HH := Lib.hid (And.intro hown5 hb5); clear hown5 hgr5 hb5)
  go_ret
  have h := HH.out.1
  rw [List.nil_append] at h
  exact ⟨_, rfl, h, HB.out.trans HH.out.2⟩
end Go.Proofs.Ytmennjmjakdkcaa
