/- HerdGiven 29: HdU, HdAb, SameR, HdW. -/
import Derived.Test.YtmennjmjakdkcaaGv28
import Derived.Test.YtmennjmjakdkcaaGv11
namespace Go.Proofs.Ytmennjmjakdkcaa
open Go.RowKit Go.MapKept
set_option linter.unusedVariables false
set_option linter.unusedSimpArgs false

/-- the error of a question: that of the book; there is no truth -/
def askE (b : Hb) : Int := if b.chk ≠ 0 then b.chk else if b.ends (-1) 0 = [] then 11 else 0
theorem askE_chk {b : Hb} (h : b.chk ≠ 0) : askE b = b.chk := if_pos h
theorem askE_none {b : Hb} (h : b.chk = 0) (h' : b.ends (-1) 0 = []) : askE b = 11 := by unfold askE; rw [if_neg (by rw [h]; simp), if_pos h']
theorem askE_ok {b : Hb} (h : b.chk = 0) (h' : b.ends (-1) 0 ≠ []) : askE b = 0 := by unfold askE; rw [if_neg (by rw [h]; simp), if_neg h']
def hasTo (E : List (List Int)) (n k : Nat) : List (List Rn) := (List.range k).map fun f => (List.range n).map fun o => rangeE E fun h => hget h f o
theorem hasTo_succ (E : List (List Int)) (n k : Nat) : hasTo E n (k + 1) = hasTo E n k ++ [spansTo E (fun i x => hget x k i) n] := by unfold hasTo; rw [List.range_succ, List.map_append]; rfl
theorem hasTo_len (E : List (List Int)) (n k : Nat) : (hasTo E n k).length = k := by simp [hasTo]
def hasR (b : Hb) : List (List Rn) := if askE b = 0 then hasL (b.ends (-1) 0) b.l.length b.ks.length else []
def HasR (b : Hb) (w : World) (e : Ending) (w' : World) : Prop := (∃ v, e = .returned (.tuple #[v, .int .i64 (askE b)]) ∧ OwnT w' w.heap.size v (hasR b)) ∧ Below w.heap.size w w'
set_option maxRecDepth 100000 in
set_option maxHeartbeats 1000000 in
theorem Has_any (b : Hb) (w : World) (hin : HbIn w b) : Calls Try.prog 32 #[b.v] w (HasR b w) := by
  obtain ⟨V, hV⟩ : ∃ V, V = w.alloc b.obj := ⟨_, rfl⟩
  obtain ⟨g, hg⟩ : ∃ g, g = w.heap.size := ⟨_, rfl⟩
  have b0 : V.heap[g]? = some b.obj := by rw [hV, hg]; exact alloc_at rfl
  have hBV : Below w.heap.size w V := by rw [hV]; exact bal0 w _
  have hiV := hin.below hBV (Nat.le_refl _)
  obtain ⟨c0, c1, c2, c3, c4⟩ := blk5c b0
  have hak := asked_any b V hiV
  unfold Hb.v at hak
  have HV := Lib.hid (And.intro hBV (And.intro b0 (And.intro hiV hg)))
  have hent : ∀ (args : Array Value) (w : World), (callFunc 82 args).run Try.prog w = .ok (.enter 82 args) w := enters_of Try.func82 (by kernel_rfl) rfl
  have HENT := Lib.hid hent
  unfold Hb.v
  go_enter Try.func32, Try.ntmps32
  go_upto_region 1 with (fail)
  rw [← hV, ← hg]
  clear hV hg hin hBV hiV b0 hent
  obtain ⟨R, hR⟩ : ∃ R, R = AskedR b b.chk V := ⟨_, rfl⟩
  rw [← hR] at hak
  have HR := Lib.hid hR
  clear hR
  go_upto_region 2 with (go_at_call 55; refine hak.mono ?_; rintro e w2 hRR; rw [HR.out] at hRR; unfold AskedR at hRR; rcases hRR with ⟨h0, rfl, hb2⟩ | ⟨h0, p, rfl, hWk, hb2⟩)
  · have xf : (b.chk != 0) = true := by simp [h0]
    go_wp2_with fail
    go_ret2
    unfold HasR hasR
    rw [askE_chk h0, if_neg h0]
    exact ⟨⟨_, rfl, OwnA.nil_⟩, HV.out.1.trans (hb2.mono HV.out.1.size)⟩
  have x0 := bheap HV.out.2.1 hb2 (Nat.le_refl _)
  have hok := hWk.ok
  have hgp : g ≠ p := by have := hWk.hz; have := heap_lt HV.out.2.1; omega
  clear c0 c1 c2 c3 c4 hak
  obtain ⟨c0, c1, c2, c3, c4⟩ := blk5c x0
  have hpl := hWk.lt
  obtain ⟨n, hn⟩ : ∃ n, n = b.l.length := ⟨_, rfl⟩
  obtain ⟨nk, hnk⟩ : ∃ nk, nk = b.ks.length := ⟨_, rfl⟩
  rw [← hn] at c1
  rw [← hnk] at c2
  have hn0 : 0 < n ∧ n ≤ 5 := by rw [hn]; exact ⟨hok.n0, hok.n5⟩
  have hk0 : 0 < nk ∧ nk ≤ 3 := by rw [hnk]; exact ⟨hok.f0, hok.f3⟩
  have H2 := Lib.hid (And.intro hb2 (And.intro hWk (And.intro h0 (And.intro hn (And.intro hnk (And.intro hok (And.intro hgp x0)))))))
  clear hb2 hWk h0 hn hnk hok hgp x0
  go_wp2_with fail
  go_loopg [6, 21] nk (fun g' v6 v21 wr => ∃ k : Nat, k + g' = nk ∧ v21 = .int .i64 k ∧ (0 < k → b.ends (-1) 0 ≠ []) ∧ OwnT wr w2.heap.size v6 (hasTo (b.ends (-1) 0) n k) ∧ NowIn p (b.bk (-1) 0) w2 wr)
  case atStart => exact ⟨0, by omega, rfl, fun h => absurd h (by omega), OwnA.nil_, H2.out.2.1.refl⟩
  case round =>
    obtain ⟨k, hk, rfl, hne, hown, hN⟩ := hrel
    by_cases hlt : k < nk
    · have i1 : (k : Int) < (nk : Int) := by omega
      have i2 : (nk : Int) ≤ 3 := by omega
      obtain ⟨wi, hwi⟩ : ∃ wi, wi = wr.alloc (Obj.cells #[Value.int .i64 (k : Int)] 3) := ⟨_, rfl⟩
      obtain ⟨gi, hgi⟩ : ∃ gi, gi = wr.heap.size := ⟨_, rfl⟩
      have hNi : NowIn p (b.bk (-1) 0) w2 wi := by rw [hwi]; exact hN.below hpl (bal0 wr _) hN.size
      have bii : wi.heap[gi]? = some (Obj.cells #[Value.int .i64 (k : Int)] 3 (0, 0)) := by rw [hwi, hgi]; exact alloc_at rfl
      have hgpi : gi ≠ p := by have := hN.lt; omega
      have howni : OwnT wi w2.heap.size u6 (hasTo (b.ends (-1) 0) n k) := by rw [hwi]; exact OwnA.alloc hown _
      have hzi : w2.heap.size ≤ wi.heap.size := hNi.size
      have xg := hNi.blk H2.out.2.2.2.2.2.2.2 H2.out.2.2.2.2.2.2.1
      clear c0 c1 c2 c3 c4
      obtain ⟨c0, c1, c2, c3, c4⟩ := blk5c xg
      rw [← H2.out.2.2.2.1] at c1
      have hsp := spans_any V p b (-1) 0 wi (H2.out.2.1.now hNi) n hn0.1 (by omega) 82 #[.pointer (some ⟨gi, 0, none⟩)] (fun i x => hget x k i) HENT.out (fun x hx i hi W hNW =>
        hasF_any x k i gi W ((endsTo_bd H2.out.2.2.2.2.2.1.f3 H2.out.2.2.2.2.2.1.n5 H2.out.2.2.2.2.2.1.rb H2.out.2.2.2.2.2.1.dI _ x hx).1) (by omega) (by omega) (hNW.blk bii hgpi))
      have HI := Lib.hid (And.intro hNi (And.intro bii (And.intro howni (And.intro hzi (And.intro hne hk)))))
      have HWI := Lib.hid hwi
      have HGI := Lib.hid hgi
      clear hNi bii hgpi howni hzi hne hk hown hN xg hwi hgi
      go_upto_region 8 with (fail)
      rw [← HWI.out, ← HGI.out]
      go_upto_region 9 with (go_at_call 81; refine hsp.mono ?_; rintro e w3 ⟨⟨v, rfl, hov⟩, hN3⟩)
      have hN3' := HI.out.1.trans hN3
      have hb3 : Below w.heap.size w w3 := (HV.out.1.trans (H2.out.1.mono HV.out.1.size)).trans (hN3'.less (Nat.le_trans HV.out.1.size H2.out.2.1.hz) (Nat.le_trans HV.out.1.size H2.out.1.size))
      have hp2 : p < w2.heap.size := hpl
      have hovw : OwnR w3 w2.heap.size v (spansR (b.ends (-1) 0) (fun i x => hget x k i) n) := hov.mono HI.out.2.2.2.1
      have hownw : OwnT w3 w2.heap.size u6 (hasTo (b.ends (-1) 0) n k) := HI.out.2.2.1.now hN3 hp2
      have H3 := Lib.hid (And.intro hN3' (And.intro hb3 (And.intro hovw hownw)))
      have hz3 := hN3'.size
      clear hN3 hN3' hb3 hov hovw hownw hsp
      by_cases hE : b.ends (-1) 0 = []
      · have HE := Lib.hid hE
        rw [spansE_pos hE]
        clear hE
        go_wp2_with fail
        go_ret2
        unfold HasR hasR
        rw [askE_none H2.out.2.2.1 HE.out, if_neg (by decide)]
        exact ⟨⟨_, rfl, OwnA.nil_⟩, H3.out.2.1⟩
      · have HE := Lib.hid hE
        rw [spansE_neg hE]
        clear hE
        have hll : (hasTo (b.ends (-1) 0) n k).length < 4294967296 := by rw [hasTo_len]; omega
        have hov1 := H3.out.2.2.1
        unfold spansR at hov1
        rw [if_neg HE.out] at hov1
        obtain ⟨Av, cv, hve, -, -, -⟩ := hov1.form lenRn
        have HOV := Lib.hid hov1
        clear hov1
        subst hve
        go_wp2_with (at_builtin; refine wp_app_rowA okRns (by decide) rfl (.tmp 37) (.tmp 39) rfl w2.heap.size _ _ (hasTo (b.ends (-1) 0) n k) _ rfl rfl H3.out.2.2.2 HOV.out hll hz3 ?_; intro v' w4 hown4 hb4 _; have H4 := Lib.hid (And.intro hown4 hb4); clear hown4 hb4)
        go_roundg (gk - 1)
        case measure => have := HI.out.2.2.2.2.2; omega
        case rel => exact ⟨k + 1, by have := HI.out.2.2.2.2.2; omega, by go_num, fun _ => HE.out, by rw [hasTo_succ]; exact H4.out.1, H3.out.1.below hpl H4.out.2 (Nat.le_refl _)⟩
    · obtain rfl : k = nk := by omega
      have HF := Lib.hid (And.intro (hne hk0.1) (And.intro hown hN))
      clear hne hown hN hk
      go_wp2_with fail
      go_ret2
      unfold HasR hasR
      rw [askE_ok H2.out.2.2.1 HF.out.1, if_pos rfl]
      refine ⟨⟨_, rfl, ?_⟩, (HV.out.1.trans (H2.out.1.mono HV.out.1.size)).trans (HF.out.2.2.less (Nat.le_trans HV.out.1.size H2.out.2.1.hz) (Nat.le_trans HV.out.1.size H2.out.1.size))⟩
      have := HF.out.2.1
      rw [H2.out.2.2.2.1, H2.out.2.2.2.2.1] at this
      exact OwnA.mono this (Nat.le_trans HV.out.1.size H2.out.1.size)
end Go.Proofs.Ytmennjmjakdkcaa
namespace Go.Proofs.Ytmennjmjakdkcaa
open Go.RowKit Go.MapKept
set_option linter.unusedVariables false
set_option linter.unusedSimpArgs false

def eGf (x : Gf) : List Value := [.int .i64 x.f, .int .i64 x.o, .int .i64 x.r.lo, .int .i64 x.r.hi]
theorem lenGf (x : Gf) : (eGf x).length = 4 := rfl
theorem one_eGf (x : Gf) : ∀ u ∈ eGf x, u.oneCell' = true := by intro u hu; simp [eGf] at hu; rcases hu with rfl | rfl | rfl | rfl <;> rfl
theorem okGf : ElemOk Try.prog 71 75 4 32 := ElemOk.mk' (z := .agg #[.int .i64 0, .int .i64 0, .int .i64 0, .int .i64 0]) Try.underlying71 (by kernel_rfl) rfl (by decide)
abbrev OwnGf (w : World) (base : Nat) (v : Value) (l : List Gf) : Prop := Own eGf 75 4 w base v l
theorem Rns.get {w : World} {A : Option Addr} {n : Nat} {l : List Rn} (h : Sl eRn 2 w A n l) {k : Nat} (hk : k < n) :
    ∃ b off m, A = some ⟨b, off, none⟩ ∧ b < w.heap.size ∧ l[k]? = some m ∧ w.cell? ⟨b, off + k * 2, none⟩ = some (.int .i64 m.lo) ∧ w.cell? ⟨b, off + k * 2 + 1, none⟩ = some (.int .i64 m.hi) := by
  obtain ⟨b, off, x, hA, hx, hc⟩ := h.at_ hk
  have h0 := hc 0 _ rfl
  exact ⟨b, off, x, hA, cell_lt h0, hx, h0, hc 1 _ rfl⟩
def rowG (k : Int) (f : Nat) (row : List Rn) (j : Nat) : List Gf := ((List.range j).filter fun (o : Nat) => decide ((o : Int) ≠ k) && decide (0 < (row.getD o ⟨0, 0⟩).hi)).map fun (o : Nat) => ⟨(f : Int), (o : Int), row.getD o ⟨0, 0⟩⟩
theorem rowG_succ {k : Int} {f : Nat} {row : List Rn} {j : Nat} {r : Rn} (h : row[j]? = some r) : rowG k f row (j + 1) = rowG k f row j ++ if (decide ((j : Int) ≠ k) && decide (0 < r.hi)) = true then [⟨(f : Int), (j : Int), r⟩] else [] := by
  unfold rowG
  rw [List.range_succ, List.filter_append, List.map_append]
  have e : row.getD j ⟨0, 0⟩ = r := by rw [List.getD_eq_getElem?_getD, h]; rfl
  congr 1
  simp only [List.filter_cons, List.filter_nil, e]
  split
  · simp only [List.map_cons, List.map_nil, e]
  · rfl
theorem rowG_len (k : Int) (f : Nat) (row : List Rn) (j : Nat) : (rowG k f row j).length ≤ j := by
  unfold rowG
  rw [List.length_map]
  have := List.length_filter_le (fun (o : Nat) => decide ((o : Int) ≠ k) && decide (0 < (row.getD o ⟨0, 0⟩).hi)) (List.range j)
  simpa using this
def giftsTo (ks : List Int) (T : List (List Rn)) (k : Nat) : List Gf := (List.range k).flatMap fun f => givesRow (ks.getD f 0) f (T.getD f [])
theorem giftsTo_succ {ks : List Int} {T : List (List Rn)} {k : Nat} {row : List Rn} {x : Int} (h : T[k]? = some row) (hx : ks[k]? = some x) : giftsTo ks T (k + 1) = giftsTo ks T k ++ rowG x k row row.length := by
  unfold giftsTo
  rw [List.range_succ, List.flatMap_append]
  congr 1
  rw [List.flatMap_singleton, List.getD_eq_getElem?_getD, hx, List.getD_eq_getElem?_getD, h]
  rfl
theorem giftsTo_len {ks : List Int} {T : List (List Rn)} (h : ∀ r ∈ T, r.length ≤ 5) : ∀ k, k ≤ T.length → (giftsTo ks T k).length ≤ 5 * k
  | 0, _ => by simp [giftsTo]
  | k + 1, hk => by
    have ih := giftsTo_len (ks := ks) h k (by omega)
    unfold giftsTo at ih ⊢
    rw [List.range_succ, List.flatMap_append, List.length_append, List.flatMap_singleton]
    have h1 : (T.getD k []).length ≤ 5 := by
      rw [List.getD_eq_getElem?_getD]
      cases e : T[k]? with
      | none => simp
      | some r => exact h r (List.mem_of_getElem? e)
    have h2 := rowG_len (ks.getD k 0) k (T.getD k []) (T.getD k []).length
    have e : givesRow (ks.getD k 0) k (T.getD k []) = rowG (ks.getD k 0) k (T.getD k []) (T.getD k []).length := rfl
    rw [e]
    omega
def GivesR (b : Hb) (w : World) (e : Ending) (w' : World) : Prop := (∃ v, e = .returned (.tuple #[v, .int .i64 (askE b)]) ∧ OwnGf w' w.heap.size v (if askE b = 0 then giftsL b.ks (hasR b) else [])) ∧ Below w.heap.size w w'
theorem hasL_rows (E : List (List Int)) (n nf : Nat) : (hasL E n nf).length = nf ∧ ∀ r ∈ hasL E n nf, r.length = n := by
  unfold hasL
  refine ⟨by simp, fun r hr => ?_⟩
  obtain ⟨f, _, rfl⟩ := List.mem_map.1 hr
  simp
set_option maxRecDepth 100000 in
set_option maxHeartbeats 1000000 in
theorem Gives_any (b : Hb) (w : World) (hin : HbIn w b) : Calls Try.prog 33 #[b.v] w (GivesR b w) := by
  obtain ⟨V, hV⟩ : ∃ V, V = w.alloc b.obj := ⟨_, rfl⟩
  obtain ⟨g, hg⟩ : ∃ g, g = w.heap.size := ⟨_, rfl⟩
  have b0 : V.heap[g]? = some b.obj := by rw [hV, hg]; exact alloc_at rfl
  have hBV : Below w.heap.size w V := by rw [hV]; exact bal0 w _
  have hiV := hin.below hBV (Nat.le_refl _)
  obtain ⟨c0, c1, c2, c3, c4⟩ := blk5c b0
  have hak := Has_any b V hiV
  unfold Hb.v at hak
  have HV := Lib.hid (And.intro hBV (And.intro b0 (And.intro hiV hg)))
  unfold Hb.v
  go_enter Try.func33, Try.ntmps33
  go_upto_region 1 with (fail)
  rw [← hV, ← hg]
  clear hV hg hin hBV hiV b0
  obtain ⟨R, hR⟩ : ∃ R, R = HasR b V := ⟨_, rfl⟩
  rw [← hR] at hak
  have HR := Lib.hid hR
  clear hR
  obtain ⟨ae, hae⟩ : ∃ ae, ae = askE b := ⟨_, rfl⟩
  have HAE := Lib.hid hae
  clear hae
  go_upto_region 2 with (go_at_call 32; refine hak.mono ?_; rintro e w2 hRR; rw [HR.out] at hRR; unfold HasR at hRR; rw [← HAE.out] at hRR; obtain ⟨⟨v, rfl, hov⟩, hb2⟩ := hRR)
  have H2 := Lib.hid (And.intro hb2 hov)
  by_cases h0 : ae = 0
  · subst h0
    have hck : b.chk = 0 := by
      have := HAE.out
      unfold askE at this
      by_cases h : b.chk = 0
      · exact h
      · rw [if_pos h] at this; exact absurd this.symm h
    have hok := checkH_ok hck
    obtain ⟨T, hT⟩ : ∃ T, T = hasR b := ⟨_, rfl⟩
    have hTl : T.length = b.ks.length ∧ ∀ r ∈ T, r.length = b.l.length := by rw [hT]; unfold hasR; rw [if_pos HAE.out.symm]; exact hasL_rows _ _ _
    rw [← hT] at hov
    obtain ⟨A, cA, rfl, hG, hcA, hcm⟩ := OwnA.form lenRn hov
    have hiw := HV.out.2.2.1.below hb2 (Nat.le_refl _)
    have x0 := bheap HV.out.2.1 hb2 (Nat.le_refl _)
    clear c0 c1 c2 c3 c4 hak
    obtain ⟨c0, c1, c2, c3, c4⟩ := blk5c x0
    have hkk := hiw.k
    obtain ⟨Ak, hAk⟩ : ∃ Ak, Ak = b.Ak := ⟨_, rfl⟩
    rw [← hAk] at c2 hkk
    obtain ⟨nk, hnk⟩ : ∃ nk, nk = b.ks.length := ⟨_, rfl⟩
    rw [← hnk] at c2 hkk
    obtain ⟨nt, hnt⟩ : ∃ nt, nt = T.length := ⟨_, rfl⟩
    rw [← hnt] at hG hcA ⊢
    have hnn : nt ≤ nk ∧ nk ≤ nt := by rw [hnt, hnk]; have := hTl.1; omega
    have hn3 : nk ≤ 3 := by rw [hnk]; exact hok.f3
    have H3 := Lib.hid (And.intro hnt (And.intro hnk (And.intro hTl (And.intro hok (And.intro hT x0)))))
    have hg2 := heap_lt x0
    clear hov hnt hnk hTl hok hT x0 hAk hiw hck hb2
    go_wp2_with fail
    go_loopg [6, 21] nt (fun g' v6 v21 wr => ∃ k : Nat, k + g' = nt ∧ v21 = .int .i64 k ∧ OwnGf wr w2.heap.size v6 (giftsTo b.ks T k) ∧ Below w2.heap.size w2 wr)
    case atStart => exact ⟨0, by omega, rfl, Own.nil_, Below.refl _ _⟩
    case round =>
      obtain ⟨k, hk, rfl, hown, hBr⟩ := hrel
      by_cases hlt : k < nt
      · obtain ⟨bt, ot, B, row, cr, hA, hbt, hrow, d0, hin, hlr, hcr⟩ := hG.get hlt
        subst hA
        obtain ⟨bk, ok, x, hAk, hbk, hx, k0⟩ := Ints.get hkk (show k < nk by omega)
        subst hAk
        have hrl : row.length ≤ 5 := by have := H3.out.2.2.1.2 row (List.mem_of_getElem? hrow); have := H3.out.2.2.2.1.n5; omega
        have hgl : (giftsTo b.ks T k).length ≤ 5 * k := giftsTo_len (fun r hr => by have := H3.out.2.2.1.2 r hr; have := H3.out.2.2.2.1.n5; omega) k (by have := H3.out.1; omega)
        have HK := Lib.hid (And.intro hk (And.intro hown (And.intro hBr (And.intro hrow hx))))
        have hzr := hBr.size
        unfold maxLen at hcr
        have HC := Lib.hid (And.intro k0 c2)
        have d0 := bcell d0 hBr (Nat.le_refl _)
        clear hk hown hBr hrow hx c0 c1 c3 c4 k0 c2
        go_wp2_with fail
        obtain ⟨wo, rfl⟩ : ∃ wo : World, wo = wr := ⟨_, rfl⟩
        obtain ⟨go, rfl⟩ : ∃ go : Nat, go = gk := ⟨_, rfl⟩
        go_loopg [6, 28] row.length (fun g' v6 v28 wq => ∃ j : Nat, j + g' = row.length ∧ v28 = .int .i64 j ∧ OwnGf wq w2.heap.size v6 (giftsTo b.ks T k ++ rowG x k row j) ∧ Below w2.heap.size w2 wq ∧ Below wo.heap.size wo wo)
        case atStart => exact ⟨0, by omega, rfl, by simpa [rowG] using HK.out.2.1, HK.out.2.2.1, Below.refl _ _⟩
        case round =>
          obtain ⟨j, hj, rfl, hownj, hBq, -⟩ := hrel
          by_cases hjl : j < row.length
          · obtain ⟨bb, ob, r, hB, hbb, hr, r0, r1⟩ := Rns.get hin hjl
            subst hB
            have r0 := bcell r0 hBq (Nat.le_refl _)
            have r1 := bcell r1 hBq (Nat.le_refl _)
            have k0 := bcell HC.out.1 hBq (Nat.le_refl _)
            have c2 := bcell HC.out.2 hBq (Nat.le_refl _)
            have hbkq : bk < wr.heap.size := by have := hBq.size; omega
            have hzq := hBq.size
            have hgw : g < wr.heap.size := by omega
            have hst := rowG_succ (k := x) (f := k) hr
            have hrg := rowG_len x k row j
            have HJ := Lib.hid (And.intro hj (And.intro hownj (And.intro hBq (And.intro hr hst))))
            have hjk : (k : Int) < (nk : Int) := by omega
            clear hj hownj hBq hr hst
            by_cases e1 : (j : Int) = x
            · have x1 : ((j : Int) != x) = false := by simp [e1]
              have HE := Lib.hid e1
              clear e1
              go_wp2_with fail
              go_roundg (gk - 1)
              case measure => have := HJ.out.1; omega
              case rel => exact ⟨j + 1, by have := HJ.out.1; omega, by go_num, by rw [HJ.out.2.2.2.2, if_neg (by simp [HE.out]), List.append_nil]; exact Own.alloc HJ.out.2.1 _, bal HJ.out.2.2.1 (Nat.le_refl _) _, Below.refl _ _⟩
            · have x1 : ((j : Int) != x) = true := by simp [e1]
              have HE := Lib.hid e1
              clear e1
              by_cases e2 : 0 < r.hi
              · have x2 : decide (0 < r.hi) = true := by simp [e2]
                have HE2 := Lib.hid e2
                clear e2
                have hownq := Own.alloc HJ.out.2.1 (Obj.cells #[Value.int .i64 r.lo, .int .i64 r.hi] 64)
                have HOQ := Lib.hid hownq
                have hll : (giftsTo b.ks T k ++ rowG x k row j).length < 4294967296 := by rw [List.length_append]; omega
                clear hownq
                go_upto_region 12 with (fail)
                obtain ⟨w5, hw5⟩ : ∃ w5, w5 = wr.alloc (Obj.cells #[Value.int .i64 r.lo, .int .i64 r.hi] 64) := ⟨_, rfl⟩
                obtain ⟨g5, hg5⟩ : ∃ g5, g5 = wr.heap.size := ⟨_, rfl⟩
                have y := blk2 (show w5.heap[g5]? = some (Obj.cells #[Value.int .i64 r.lo, .int .i64 r.hi] 64 (0, 0)) by rw [hw5, hg5]; exact alloc_at rfl)
                obtain ⟨y0, y1⟩ := y
                have hz5 : w2.heap.size ≤ w5.heap.size := by rw [hw5]; simp; omega
                have hB5 : Below w2.heap.size w2 w5 := by rw [hw5]; exact bal HJ.out.2.2.1 (Nat.le_refl _) _
                have hO5 := HOQ.out
                rw [← hw5] at hO5
                rw [← hw5, ← hg5]
                have H5 := Lib.hid (And.intro hB5 hO5)
                clear hw5 hg5 hB5 hO5 r0 r1 k0 c2
                go_wp2_with (at_builtin; refine wp_app okGf rfl (.tmp 45) (.tmp 50) rfl w2.heap.size _ (giftsTo b.ks T k ++ rowG x k row j) (⟨(k : Int), (j : Int), r⟩ : Gf) _ rfl rfl rfl rfl (one_eGf _) H5.out.2 ?_ ?_ ?_ ?_; (omega); (omega); (omega); intro v' w6 hown6 hb6 _ hz6; have H6 := Lib.hid (And.intro hown6 hb6); clear hown6 hb6)
                go_roundg (gk - 1)
                case measure => have := HJ.out.1; omega
                case rel => exact ⟨j + 1, by have := HJ.out.1; omega, by go_num, by rw [HJ.out.2.2.2.2, if_pos (by simp [HE.out, HE2.out]), ← List.append_assoc]; exact H6.out.1, H5.out.1.trans H6.out.2, Below.refl _ _⟩
              · have x2 : decide (0 < r.hi) = false := by simpa using e2
                have HE2 := Lib.hid e2
                clear e2
                go_wp2_with fail
                go_roundg (gk - 1)
                case measure => have := HJ.out.1; omega
                case rel => exact ⟨j + 1, by have := HJ.out.1; omega, by go_num, by rw [HJ.out.2.2.2.2, if_neg (by simp [HE2.out]), List.append_nil]; exact Own.alloc HJ.out.2.1 _, bal HJ.out.2.2.1 (Nat.le_refl _) _, Below.refl _ _⟩
          · obtain rfl : j = row.length := by omega
            have HF := Lib.hid (And.intro hownj hBq)
            clear hj hownj hBq
            go_wp2_with fail
            go_roundg (go - 1)
            case measure => have := HK.out.1; omega
            case rel => exact ⟨k + 1, by have := HK.out.1; omega, by go_num, by rw [giftsTo_succ HK.out.2.2.2.1 HK.out.2.2.2.2]; exact HF.out.1, HF.out.2⟩
      · obtain rfl : k = nt := by omega
        have HF := Lib.hid (And.intro hown hBr)
        clear hk hown hBr
        go_wp2_with fail
        go_ret2
        unfold GivesR
        rw [← HAE.out, if_pos rfl]
        refine ⟨⟨_, rfl, ?_⟩, HV.out.1.trans ((H2.out.1.mono HV.out.1.size).trans (HF.out.2.mono (Nat.le_trans HV.out.1.size H2.out.1.size)))⟩
        have := HF.out.1
        rw [H3.out.1] at this
        rw [← H3.out.2.2.2.2.1]
        exact Own.mono this (Nat.le_trans HV.out.1.size H2.out.1.size)
  · have xf : (ae != 0) = true := by simp [h0]
    have H0 := Lib.hid h0
    clear h0 hov hb2
    go_wp2_with fail
    go_ret2
    unfold GivesR
    rw [← HAE.out, if_neg H0.out]
    exact ⟨⟨_, rfl, Own.nil_⟩, HV.out.1.trans (H2.out.1.mono HV.out.1.size)⟩
end Go.Proofs.Ytmennjmjakdkcaa
namespace Go.Proofs.Ytmennjmjakdkcaa
open Go.RowKit
set_option linter.unusedVariables false
set_option linter.unusedSimpArgs false

set_option maxHeartbeats 1000000 in
theorem sameRanges_any (A : Option Addr) (n c : Nat) (x : List Rn) (B : Option Addr) (m d : Nat) (y : List Rn) (w : World) (hx : Sl eRn 2 w A n x) (hy : Sl eRn 2 w B m y) (hn : n ≤ maxLen) (hm : m ≤ maxLen) :
    Calls Try.prog 31 #[.slice A n c, .slice B m d] w fun e w' => e = .returned (.bool (sameL x y)) ∧ Below w.heap.size w w' := by
  have HL := Lib.hid (And.intro hx.len hy.len)
  have HXY := Lib.hid (And.intro hx hy)
  unfold maxLen at hn hm
  clear hx hy
  by_cases hnm : n = m
  · subst hnm
    have h0 : (n != n) = false := by simp
    have h0' : ((n : Int) != (n : Int)) = false := by simp
    go_enter Try.func31, Try.ntmps31
    go_wp2_with fail
    go_loopg [5] n (fun g i wr => ∃ k : Nat, k + g = n ∧ i = .int .i64 k ∧ x.take k = y.take k ∧ ∃ q, wr = w.drewN q)
    case atStart => exact ⟨0, by omega, rfl, by simp, 0, rfl⟩
    case round =>
      obtain ⟨k, hk, rfl, htk, q, rfl⟩ := hrel
      have HK := Lib.hid (And.intro hk htk)
      have hkn : k ≤ n := by omega
      clear hk htk
      by_cases hlt : k < n
      · obtain ⟨b0, o0, u, rfl, hb0, hu, p0, p1⟩ := Rns.get HXY.out.1 hlt
        obtain ⟨b1, o1, v, rfl, hb1, hv, q0, q1⟩ := Rns.get HXY.out.2 hlt
        have i0 : (0 : Int) ≤ (k : Int) := by omega
        have i1 : (k : Int) < (n : Int) := by omega
        have HUV := Lib.hid (And.intro hu hv)
        clear hu hv
        by_cases huv : u = v
        · subst huv
          go_upto_region 6 with (fail)
          go_quiet (fail)
          go_wp2
          go_roundg (gk - 1)
          case measure => have := HK.out.1; omega
          case rel => exact ⟨k + 1, by have := HK.out.1; omega, by go_num, take_eq_snoc HK.out.2 HUV.out.1 HUV.out.2 rfl, _, rfl⟩
        · have HNE := Lib.hid huv
          cases e1 : (u.lo == v.lo) <;> cases e2 : (u.hi == v.hi)
          case true.true =>
            exfalso
            exact huv (by cases u; cases v; simp at e1 e2; simp [e1, e2])
          all_goals
            clear huv
            go_upto_region 6 with (fail)
            go_quiet (fail)
            go_wp2
            go_ret
            exact ⟨ret_bool (by unfold sameL; rw [decide_eq_false (ne_of_at HUV.out.1 HUV.out.2 HNE.out)]), below_drewN (below_drewN (Below.refl _ _) _) _⟩
      · obtain rfl : k = n := by omega
        go_wp2
        go_ret
        refine ⟨ret_bool ?_, below_drewN (Below.refl _ _) _⟩
        have h1 := HK.out.2
        rw [List.take_of_length_le (by have := HL.out.1; omega), List.take_of_length_le (by have := HL.out.2; omega)] at h1
        unfold sameL
        rw [decide_eq_true h1]
  · have h0' : ((n : Int) != (m : Int)) = true := by simp; omega
    have HNE := Lib.hid hnm
    clear hnm
    go_enter Try.func31, Try.ntmps31
    go_wp2
    go_ret
    refine ⟨ret_bool ?_, Below.refl _ _⟩
    unfold sameL
    rw [decide_eq_false (fun h => HNE.out (by rw [← HL.out.1, ← HL.out.2, h]))]

theorem GridA.len {α : Type} {enc : α → List Value} {sz : Nat} {w : World} {A : Option Addr} {n : Nat} {ls : List (List α)} (h : GridA enc sz w A n ls) : ls.length = n := by
  obtain ⟨mv, h1, h2, _⟩ := h
  rw [← h2]; exact h1.len
abbrev Table (w : World) (A : Option Addr) (n : Nat) (ls : List (List Rn)) : Prop := GridA eRn 2 w A n ls
set_option maxRecDepth 100000 in
set_option maxHeartbeats 2000000 in
theorem sameTables_any (A : Option Addr) (n c : Nat) (x : List (List Rn)) (B : Option Addr) (m d : Nat) (y : List (List Rn)) (w : World) (hx : Table w A n x) (hy : Table w B m y) (hn : n ≤ maxLen) (hm : m ≤ maxLen) :
    Calls Try.prog 73 #[.slice A n c, .slice B m d] w fun e w' => e = .returned (.bool (sameL x y)) ∧ Below w.heap.size w w' := by
  have HL := Lib.hid (And.intro hx.len hy.len)
  have HXY := Lib.hid (And.intro hx hy)
  unfold maxLen at hn hm
  clear hx hy
  by_cases hnm : n = m
  · subst hnm
    have h0 : (n != n) = false := by simp
    have h0' : ((n : Int) != (n : Int)) = false := by simp
    go_enter Try.func73, Try.ntmps73
    go_wp2_with fail
    go_loopg [5] n (fun g i wr => ∃ k : Nat, k + g = n ∧ i = .int .i64 k ∧ x.take k = y.take k ∧ Below w.heap.size w wr)
    case atStart => exact ⟨0, by omega, rfl, by simp, Below.refl _ _⟩
    case round =>
      obtain ⟨k, hk, rfl, htk, hbl⟩ := hrel
      have HK := Lib.hid (And.intro hk htk)
      have hkn : k ≤ n := by omega
      clear hk htk
      by_cases hlt : k < n
      · obtain ⟨b0, o0, C0, u, c0, rfl, hb0, hu, p0, hi0, hc0, hm0⟩ := GridA.get (HXY.out.1.below hbl (Nat.le_refl _)) hlt
        obtain ⟨b1, o1, C1, v, c1, rfl, hb1, hv, q0, hi1, hc1, hm1⟩ := GridA.get (HXY.out.2.below hbl (Nat.le_refl _)) hlt
        have i0 : (0 : Int) ≤ (k : Int) := by omega
        have i1 : (k : Int) < (n : Int) := by omega
        have HUV := Lib.hid (And.intro hu hv)
        have hmu : u.length ≤ maxLen := Nat.le_trans hc0 hm0
        have hmv : v.length ≤ maxLen := Nat.le_trans hc1 hm1
        have cS : ∀ d os, Calls Try.prog 31 #[.slice C0 u.length c0, .slice C1 v.length c1] (Sort.grow (redrawn wr d) os) (fun e w'' => e = .returned (.bool (sameL u v)) ∧ ∃ p : Regrown, w'' = Sort.grow (redrawn wr p.d) p.os) := fun d os =>
          Calls.regrown_of (sameRanges_any C0 u.length c0 u C1 v.length c1 v _ (hi0.below (below_regrown wr d os) (Nat.le_refl _)) (hi1.below (below_regrown wr d os) (Nat.le_refl _)) hmu hmv)
        clear hu hv hi0 hi1
        cases huv : sameL u v
        all_goals
          rw [huv] at cS
          have HC := Lib.hid cS
          have HE := Lib.hid huv
          clear cS huv
          go_upto_region 6 with (fail)
          have k0 := cell_regrown p0
          have k1 := cell_regrown q0
          refine wp_region_quiet_below (by kernel_rfl) (by kernel_rfl) ?_
          repeat (quiet_step (exact HC.out _ _))
          refine wpQuiet_nil ?_
          intro _ hw'
          obtain ⟨⟨dq, osq⟩, hw''⟩ := hw'
          subst hw''
          obtain ⟨w3, hW1⟩ : ∃ w3, w3 = Sort.grow (redrawn wr dq) osq := ⟨_, rfl⟩
          have hb3 : Below wr.heap.size wr w3 := by rw [hW1]; exact below_regrown wr dq osq
          rw [← hW1]
          have hbl3 := hbl.trans (hb3.mono hbl.size)
          clear hW1 k0 k1 p0 q0
          go_wp2
        · go_ret
          exact ⟨ret_bool (by unfold sameL; rw [decide_eq_false (ne_of_at HUV.out.1 HUV.out.2 (by have := HE.out; unfold sameL at this; simpa using this))]), hbl3⟩
        · go_roundg (gk - 1)
          case measure => have := HK.out.1; omega
          case rel => exact ⟨k + 1, by have := HK.out.1; omega, by go_num, take_eq_snoc HK.out.2 HUV.out.1 HUV.out.2 (by have := HE.out; unfold sameL at this; simpa using this), hbl3⟩
      · obtain rfl : k = n := by omega
        go_wp2
        go_ret
        refine ⟨ret_bool ?_, hbl⟩
        have h1 := HK.out.2
        rw [List.take_of_length_le (by have := HL.out.1; omega), List.take_of_length_le (by have := HL.out.2; omega)] at h1
        unfold sameL
        rw [decide_eq_true h1]
  · have h0' : ((n : Int) != (m : Int)) = true := by simp; omega
    have HNE := Lib.hid hnm
    clear hnm
    go_enter Try.func73, Try.ntmps73
    go_wp2
    go_ret
    refine ⟨ret_bool ?_, Below.refl _ _⟩
    unfold sameL
    rw [decide_eq_false (fun h => HNE.out (by rw [← HL.out.1, ← HL.out.2, h]))]
end Go.Proofs.Ytmennjmjakdkcaa
namespace Go.Proofs.Ytmennjmjakdkcaa
open Go.RowKit Go.MapKept
set_option linter.unusedVariables false
set_option linter.unusedSimpArgs false

/-- the book is turned to another deed and owner -/
theorem NowIn.turn {p : Nat} {b : Hb} {d o d' o' : Int} {w w' : World} (h : NowIn p (b.bk d o) w w') : NowIn p (b.bk d' o') w ((w'.setCell ⟨p, 5, none⟩ (.int .i64 d')).setCell ⟨p, 6, none⟩ (.int .i64 o')) := by
  obtain ⟨n, hn⟩ := h.hp
  refine ⟨h.os, h.tape, h.output, by simpa using h.size, fun k hk hne => ((Below.heap_setCell _ ⟨p, 6, none⟩ _ _ hne).trans (Below.heap_setCell _ ⟨p, 5, none⟩ _ _ hne)).trans (h.block k hk hne), ⟨n, ?_⟩⟩
  exact (set_blk (set_blk hn)).trans (by simp)
theorem Work.turn {w0 w w' : World} {p : Nat} {b : Hb} {d o d' o' : Int} (h : Work w0 p b d o w) (k : NowIn p (b.bk d' o') w w') : Work w0 p b d' o' w' := ⟨h.hin, h.hz, h.bel.trans (k.less h.hz h.bel.size), k.hp, h.ck⟩
theorem NowIn.other {p : Nat} {O O' : Int → Obj} {a b c : World} (h : NowIn p O a b) (k : NowIn p O' b c) : NowIn p O' a c :=
  ⟨k.os.trans h.os, k.tape.trans h.tape, k.output.trans h.output, Nat.le_trans h.size k.size, fun i hi hne => (k.block i (Nat.lt_of_lt_of_le hi h.size) hne).trans (h.block i hi hne), k.hp⟩

def whoseTo (b : Hb) (deed : Int) (k : Nat) : List Int := ((List.range k).filter fun (o : Nat) => !decide (b.ends deed (o : Int) = [])).map Int.ofNat
theorem whoseTo_succ (b : Hb) (deed : Int) (k : Nat) : whoseTo b deed (k + 1) = whoseTo b deed k ++ if (!decide (b.ends deed (k : Int) = [])) = true then [(k : Int)] else [] := by
  unfold whoseTo
  rw [List.range_succ, List.filter_append, List.map_append]
  congr 1
  by_cases h : b.ends deed (k : Int) = [] <;> simp [h]
theorem whoseTo_len (b : Hb) (deed : Int) (k : Nat) : (whoseTo b deed k).length ≤ k := by
  unfold whoseTo
  rw [List.length_map]
  have := List.length_filter_le (fun (o : Nat) => !decide (b.ends deed (o : Int) = [])) (List.range k)
  simpa using this
def whoseE (b : Hb) (deed : Int) : Int :=
  if b.chk ≠ 0 then b.chk else if ownB b.ds.length deed = false then 3 else if (b.ds[deed.toNat]?.map De.kind) ≠ some 5 then 8 else if whoseTo b deed b.l.length = [] then 11 else 0
def whoseR (b : Hb) (deed : Int) : List Int := if whoseE b deed = 0 then whoseTo b deed b.l.length else []
def WhoseR (b : Hb) (deed : Int) (w : World) (e : Ending) (w' : World) : Prop := (∃ v, e = .returned (.tuple #[v, .int .i64 (whoseE b deed)]) ∧ OwnI w' w.heap.size v (whoseR b deed)) ∧ Below w.heap.size w w'
theorem whose_nil {b : Hb} {deed : Int} {w w' : World} {e : Int} (he : whoseE b deed = e) (h0 : e ≠ 0) (hb : Below w.heap.size w w') : WhoseR b deed w (.returned (.tuple #[.slice none 0 0, .int .i64 e])) w' := by
  refine ⟨⟨_, by rw [he], ?_⟩, hb⟩
  unfold whoseR
  rw [he, if_neg h0]
  exact Own.nil_
set_option maxRecDepth 100000 in
set_option maxHeartbeats 1000000 in
theorem Whose_any (b : Hb) (deed : Int) (w : World) (hin : HbIn w b) : Calls Try.prog 12 #[b.v, .int .i64 deed] w (WhoseR b deed w) := by
  obtain ⟨V, hV⟩ : ∃ V, V = w.alloc b.obj := ⟨_, rfl⟩
  obtain ⟨g, hg⟩ : ∃ g, g = w.heap.size := ⟨_, rfl⟩
  have b0 : V.heap[g]? = some b.obj := by rw [hV, hg]; exact alloc_at rfl
  have hBV : Below w.heap.size w V := by rw [hV]; exact bal0 w _
  have hiV := hin.below hBV (Nat.le_refl _)
  obtain ⟨c0, c1, c2, c3, c4⟩ := blk5c b0
  have hak := asked_any b V hiV
  unfold Hb.v at hak
  have HV := Lib.hid (And.intro hBV (And.intro b0 (And.intro hiV hg)))
  unfold Hb.v
  go_enter Try.func12, Try.ntmps12
  go_upto_region 1 with (fail)
  rw [← hV, ← hg]
  clear hV hg hin hBV hiV b0
  obtain ⟨R, hR⟩ : ∃ R, R = AskedR b b.chk V := ⟨_, rfl⟩
  rw [← hR] at hak
  have HR := Lib.hid hR
  clear hR
  go_upto_region 2 with (go_at_call 55; refine hak.mono ?_; rintro e w2 hRR; rw [HR.out] at hRR; unfold AskedR at hRR; rcases hRR with ⟨h0, rfl, hb2⟩ | ⟨h0, p, rfl, hWk, hb2⟩)
  · have xf : (b.chk != 0) = true := by simp [h0]
    go_wp2_with fail
    go_ret2
    exact whose_nil (by unfold whoseE; rw [if_pos h0]) h0 (HV.out.1.trans (hb2.mono HV.out.1.size))
  have x0 := bheap HV.out.2.1 hb2 (Nat.le_refl _)
  have hok := hWk.ok
  have hgp : g ≠ p := by have := hWk.hz; have := heap_lt HV.out.2.1; omega
  clear c0 c1 c2 c3 c4 hak
  obtain ⟨c0, c1, c2, c3, c4⟩ := blk5c x0
  have hpl := hWk.lt
  have hdw := hWk.inn.d
  obtain ⟨n, hn⟩ : ∃ n, n = b.l.length := ⟨_, rfl⟩
  obtain ⟨nd, hnd⟩ : ∃ nd, nd = b.ds.length := ⟨_, rfl⟩
  obtain ⟨Ad, hAd⟩ : ∃ Ad, Ad = b.Ad := ⟨_, rfl⟩
  rw [← hn] at c1
  rw [← hnd, ← hAd] at c4 hdw
  have hn0 : 0 < n ∧ n ≤ 5 := by rw [hn]; exact ⟨hok.n0, hok.n5⟩
  have hd6 : nd ≤ 6 := by rw [hnd]; exact hok.d6
  have H2 := Lib.hid (And.intro hb2 (And.intro hWk (And.intro h0 (And.intro hn (And.intro hnd (And.intro hok (And.intro hgp (And.intro x0 (HV.out.1.trans (hb2.mono HV.out.1.size))))))))))
  clear hb2 hWk h0 hn hnd hok hgp x0 hAd
  obtain ⟨ob, hob⟩ : ∃ ob, ob = ownB nd deed := ⟨_, rfl⟩
  have hbt := betweenH_any deed 0 ((nd : Int) - 1) w2
  rw [show btw deed 0 ((nd : Int) - 1) = ob from hob.symm] at hbt
  have HOB := Lib.hid hob
  clear hob
  cases ob with
  | false =>
    go_wp2_with (go_at_call 56; refine hbt.mono ?_; rintro e w' ⟨rfl, rfl⟩)
    go_ret2
    exact whose_nil (by unfold whoseE; rw [if_neg (by rw [H2.out.2.2.1]; simp), ← H2.out.2.2.2.2.1, ← HOB.out, if_pos rfl]) (by decide) H2.out.2.2.2.2.2.2.2.2
  | true =>
  obtain ⟨hd0, hdl⟩ := ownB_iff.1 HOB.out.symm
  obtain ⟨dn, rfl⟩ := Int.eq_ofNat_of_zero_le hd0
  have hdn : dn < nd := by omega
  obtain ⟨bi, oi, d, hA, hbi, hdk, d0, d1, d2, d3, d4, d5, d6, d7, d8, d9, d10, d11⟩ := Deeds.get hdw hdn
  subst hA
  have HD := Lib.hid hdk
  clear hdk hdw hbi d1 d2 d3 d4 d5 d6 d7 d8 d9 d10 d11
  by_cases hk5 : d.kind = 5
  · rw [hk5] at d0
    have hwe : whoseE b dn = if whoseTo b dn b.l.length = [] then 11 else 0 := by
      unfold whoseE
      rw [if_neg (by rw [H2.out.2.2.1]; simp), ← H2.out.2.2.2.2.1, ← HOB.out, if_neg (by simp), if_neg (by rw [Int.toNat_natCast, HD.out]; simp [hk5])]
    have HWE := Lib.hid hwe
    clear hwe hk5
    go_wp2_with (go_at_call 56; refine hbt.mono ?_; rintro e w' ⟨rfl, rfl⟩)
    go_loopg [8, 36] n (fun g' v8 v36 wr => ∃ k : Nat, k + g' = n ∧ v36 = .int .i64 k ∧ OwnI wr w2.heap.size v8 (whoseTo b dn k) ∧ ∃ dd oo, NowIn p (b.bk dd oo) w2 wr)
    case atStart => exact ⟨0, by omega, rfl, Own.nil_, _, _, H2.out.2.1.refl⟩
    case round =>
      obtain ⟨k, hk, rfl, hown, dd, oo, hN⟩ := hrel
      by_cases hlt : k < n
      · have i1 : (k : Int) < (n : Int) := by omega
        obtain ⟨nw, hpb⟩ := hN.hp
        obtain ⟨p0, p1, p2, p3, p4, p5, p6, p7⟩ := blkB hpb
        have fz5 := frz hpb 5
        have fz6 := frz hpb 6
        have hpr := heap_lt hpb
        have HK := Lib.hid (And.intro hk (And.intro hown hN))
        clear hk hown hN hpb p0 p1 p2 p3 p4 p7
        go_upto_region 13 with (fail)
        have hN3 := HK.out.2.2.turn (d' := (dn : Int)) (o' := (k : Int))
        have hown3 : OwnI ((wr.setCell ⟨p, 5, none⟩ (Value.int .i64 (dn : Int))).setCell ⟨p, 6, none⟩ (Value.int .i64 (k : Int))) w2.heap.size u8 (whoseTo b dn k) :=
          Own.now (O := b.bk dn k) HK.out.2.1 (a := wr) ⟨rfl, rfl, rfl, by simp, fun j _ hne => (Below.heap_setCell _ ⟨p, 6, none⟩ _ _ hne).trans (Below.heap_setCell _ ⟨p, 5, none⟩ _ _ hne), hN3.hp⟩ hpl
        generalize ((wr.setCell ⟨p, 5, none⟩ (Value.int .i64 (dn : Int))).setCell ⟨p, 6, none⟩ (Value.int .i64 (k : Int))) = w3 at hN3 hown3 ⊢
        have htr := truth_any V p b dn k w3 (H2.out.2.1.turn hN3)
        obtain ⟨tb, htb⟩ : ∃ tb, tb = !decide (b.ends (dn : Int) (k : Int) = []) := ⟨_, rfl⟩
        rw [← htb] at htr
        have HTB := Lib.hid htb
        have H3 := Lib.hid (And.intro hN3 hown3)
        clear htb hN3 hown3 p5 p6 fz5 fz6
        have hstp := whoseTo_succ b dn k
        rw [← HTB.out] at hstp
        have HST := Lib.hid hstp
        have hll := whoseTo_len b dn k
        clear hstp
        cases tb with
        | false =>
          go_wp2_with (go_at_call 57; refine htr.mono ?_; rintro e w4 ⟨rfl, hN4⟩)
          go_roundg (gk - 1)
          case measure => have := HK.out.1; omega
          case rel => exact ⟨k + 1, by have := HK.out.1; omega, by go_num, by rw [HST.out]; simpa using Own.now H3.out.2 hN4 hpl, dn, k, H3.out.1.other hN4⟩
        | true =>
          go_upto_region 14 with (go_at_call 57; refine htr.mono ?_; rintro e w4 ⟨rfl, hN4⟩)
          have hown4 := Own.now H3.out.2 hN4 hpl
          have hN4' := H3.out.1.other hN4
          have hz4 := hN4'.size
          have H4 := Lib.hid (And.intro hN4' hown4)
          clear hN4 hN4' hown4
          go_wp2_with (at_builtin; refine wp_app okInt rfl (.tmp 49) (.tmp 51) rfl w2.heap.size _ (whoseTo b dn k) (k : Int) _ rfl rfl rfl rfl (one_eInt _) H4.out.2 ?_ ?_ ?_ ?_; (omega); (omega); (omega); intro v' w5 hown5 hb5 _ hz5; have H5 := Lib.hid (And.intro hown5 hb5); clear hown5 hb5)
          go_roundg (gk - 1)
          case measure => have := HK.out.1; omega
          case rel => exact ⟨k + 1, by have := HK.out.1; omega, by go_num, by rw [HST.out]; simpa using H5.out.1, dn, k, H4.out.1.below hpl H5.out.2 (Nat.le_refl _)⟩
      · obtain rfl : k = n := by omega
        obtain ⟨Av, cv, hve, hsl, hlc, hcm⟩ := hown.form lenInt
        have hbw : Below w.heap.size w wr := H2.out.2.2.2.2.2.2.2.2.trans (hN.less (Nat.le_trans HV.out.1.size H2.out.2.1.hz) (Nat.le_trans HV.out.1.size H2.out.1.size))
        obtain ⟨L, hL⟩ : ∃ L, L = whoseTo b dn k := ⟨_, rfl⟩
        rw [← hL] at hve
        have hLl : L.length ≤ 5 := by rw [hL]; have := whoseTo_len b dn k; omega
        have HF := Lib.hid (And.intro hown (And.intro hbw hL))
        subst hve
        clear hown hN hk hsl hlc hcm hbw hL
        by_cases hLn : L.length = 0
        · have x0 : ((L.length : Int) == 0) = true := by simp [hLn]
          have HLN := Lib.hid hLn
          clear hLn
          go_wp2_with fail
          go_ret2
          refine whose_nil ?_ (by decide) HF.out.2.1
          rw [HWE.out, ← H2.out.2.2.2.1, ← HF.out.2.2, if_pos (List.eq_nil_of_length_eq_zero HLN.out)]
        · have x0 : ((L.length : Int) == 0) = false := by simp; exact fun e => hLn (by rw [e]; rfl)
          have HLN := Lib.hid hLn
          clear hLn
          go_wp2_with fail
          go_ret2
          have h0 : whoseE b dn = 0 := by
            rw [HWE.out, ← H2.out.2.2.2.1, ← HF.out.2.2, if_neg (fun e => HLN.out (by rw [e]; rfl))]
          unfold WhoseR whoseR
          rw [h0, if_pos rfl]
          refine ⟨⟨_, rfl, ?_⟩, HF.out.2.1⟩
          have := HF.out.1
          rw [← HF.out.2.2] at this
          rw [← H2.out.2.2.2.1, ← HF.out.2.2]
          exact this.mono (Nat.le_trans HV.out.1.size H2.out.1.size)
  · have x5 : (d.kind != 5) = true := by simp [hk5]
    have HK5 := Lib.hid hk5
    clear hk5
    go_wp2_with (go_at_call 56; refine hbt.mono ?_; rintro e w' ⟨rfl, rfl⟩)
    go_ret2
    refine whose_nil ?_ (by decide) H2.out.2.2.2.2.2.2.2.2
    unfold whoseE
    rw [if_neg (by rw [H2.out.2.2.1]; simp), ← H2.out.2.2.2.2.1, ← HOB.out, if_neg (by simp), if_pos]
    rw [Int.toNat_natCast, HD.out]
    simpa using HK5.out
end Go.Proofs.Ytmennjmjakdkcaa
