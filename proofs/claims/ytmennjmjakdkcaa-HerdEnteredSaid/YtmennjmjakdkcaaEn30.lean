/- HerdEntered 30: HdU, EntL, Clone, HdOf. -/
import Derived.Test.YtmennjmjakdkcaaEn29
import Derived.Test.YtmennjmjakdkcaaEn04
import Derived.Test.YtmennjmjakdkcaaEn02
import Derived.Test.YtmennjmjakdkcaaEn12
import Derived.Test.YtmennjmjakdkcaaEn24
import Derived.Lib.SliceRun
import Derived.Test.YtmennjmjakdkcaaEn26
import Derived.Test.YtmennjmjakdkcaaEn07
import Derived.Deep.RegionHeld3
namespace Go.Proofs.Ytmennjmjakdkcaa
open Go.RowKit Go.MapKept
set_option linter.unusedVariables false
set_option linter.unusedSimpArgs false

/-- the error of a question: that of the book; there is no truth -/
def askE (b : Hb) : Int := if b.chk ≠ 0 then b.chk else if b.ends (-1) 0 = [] then 11 else 0
theorem askE_chk {b : Hb} (h : b.chk ≠ 0) : askE b = b.chk := if_pos h
theorem askE_none {b : Hb} (h : b.chk = 0) (h' : b.ends (-1) 0 = []) : askE b = 11 := by unfold askE; rw [if_neg (by rw [h]; simp), if_pos h']
theorem askE_ok {b : Hb} (h : b.chk = 0) (h' : b.ends (-1) 0 ≠ []) : askE b = 0 := by unfold askE; rw [if_neg (by rw [h]; simp), if_neg h']
def hasTo (E : List (List Int)) (n k : Nat) : List (List Rn) := (List.range k).map fun f => (List.range n).map fun o => rangeE E fun h => hget h f o
theorem hasTo_succ (E : List (List Int)) (n k : Nat) : hasTo E n (k + 1) = hasTo E n k ++ [spansTo E (fun i x => hget x k i) n] := by unfold hasTo; rw [List.range_succ, List.map_append]; rfl
theorem hasTo_len (E : List (List Int)) (n k : Nat) : (hasTo E n k).length = k := by simp [hasTo]
def hasR (b : Hb) : List (List Rn) := if askE b = 0 then hasL (b.ends (-1) 0) b.l.length b.ks.length else []
def HasR (b : Hb) (w : World) (e : Ending) (w' : World) : Prop := (∃ v, e = .returned (.tuple #[v, .int .i64 (askE b)]) ∧ OwnT w' w.heap.size v (hasR b)) ∧ Below w.heap.size w w'
set_option maxRecDepth 100000 in
set_option maxHeartbeats 1000000 in
theorem Has_any (b : Hb) (w : World) (hin : HbIn w b) : Calls Try.prog 32 #[b.v] w (HasR b w) := by
  obtain ⟨V, hV⟩ : ∃ V, V = w.alloc b.obj := ⟨_, rfl⟩
  obtain ⟨g, hg⟩ : ∃ g, g = w.heap.size := ⟨_, rfl⟩
  have b0 : V.heap[g]? = some b.obj := by rw [hV, hg]; exact alloc_at rfl
  have hBV : Below w.heap.size w V := by rw [hV]; exact bal0 w _
  have hiV := hin.below hBV (Nat.le_refl _)
  obtain ⟨c0, c1, c2, c3, c4⟩ := blk5c b0
  have hak := asked_any b V hiV
  unfold Hb.v at hak
  have HV := Lib.hid (And.intro hBV (And.intro b0 (And.intro hiV hg)))
  have hent : ∀ (args : Array Value) (w : World), (callFunc 82 args).run Try.prog w = .ok (.enter 82 args) w := enters_of Try.func82 (by kernel_rfl) rfl
  have HENT := Lib.hid hent
  unfold Hb.v
  go_enter Try.func32, Try.ntmps32
  go_upto_region 1 with (fail)
  rw [← hV, ← hg]
  clear hV hg hin hBV hiV b0 hent
  obtain ⟨R, hR⟩ : ∃ R, R = AskedR b b.chk V := ⟨_, rfl⟩
  rw [← hR] at hak
  have HR := Lib.hid hR
  clear hR
  go_upto_region 2 with (go_at_call 55; refine hak.mono ?_; rintro e w2 hRR; rw [HR.out] at hRR; unfold AskedR at hRR; rcases hRR with ⟨h0, rfl, hb2⟩ | ⟨h0, p, rfl, hWk, hb2⟩)
  · have xf : (b.chk != 0) = true := by simp [h0]
    go_wp2_with fail
    go_ret2
    unfold HasR hasR
    rw [askE_chk h0, if_neg h0]
    exact ⟨⟨_, rfl, OwnA.nil_⟩, HV.out.1.trans (hb2.mono HV.out.1.size)⟩
  have x0 := bheap HV.out.2.1 hb2 (Nat.le_refl _)
  have hok := hWk.ok
  have hgp : g ≠ p := by have := hWk.hz; have := heap_lt HV.out.2.1; omega
  clear c0 c1 c2 c3 c4 hak
  obtain ⟨c0, c1, c2, c3, c4⟩ := blk5c x0
  have hpl := hWk.lt
  obtain ⟨n, hn⟩ : ∃ n, n = b.l.length := ⟨_, rfl⟩
  obtain ⟨nk, hnk⟩ : ∃ nk, nk = b.ks.length := ⟨_, rfl⟩
  rw [← hn] at c1
  rw [← hnk] at c2
  have hn0 : 0 < n ∧ n ≤ 5 := by rw [hn]; exact ⟨hok.n0, hok.n5⟩
  have hk0 : 0 < nk ∧ nk ≤ 3 := by rw [hnk]; exact ⟨hok.f0, hok.f3⟩
  have H2 := Lib.hid (And.intro hb2 (And.intro hWk (And.intro h0 (And.intro hn (And.intro hnk (And.intro hok (And.intro hgp x0)))))))
  clear hb2 hWk h0 hn hnk hok hgp x0
  go_wp2_with fail
  go_loopg [6, 21] nk (fun g' v6 v21 wr => ∃ k : Nat, k + g' = nk ∧ v21 = .int .i64 k ∧ (0 < k → b.ends (-1) 0 ≠ []) ∧ OwnT wr w2.heap.size v6 (hasTo (b.ends (-1) 0) n k) ∧ NowIn p (b.bk (-1) 0) w2 wr)
  case atStart => exact ⟨0, by omega, rfl, fun h => absurd h (by omega), OwnA.nil_, H2.out.2.1.refl⟩
  case round =>
    obtain ⟨k, hk, rfl, hne, hown, hN⟩ := hrel
    by_cases hlt : k < nk
    · have i1 : (k : Int) < (nk : Int) := by omega
      have i2 : (nk : Int) ≤ 3 := by omega
      obtain ⟨wi, hwi⟩ : ∃ wi, wi = wr.alloc (Obj.cells #[Value.int .i64 (k : Int)] 3) := ⟨_, rfl⟩
      obtain ⟨gi, hgi⟩ : ∃ gi, gi = wr.heap.size := ⟨_, rfl⟩
      have hNi : NowIn p (b.bk (-1) 0) w2 wi := by rw [hwi]; exact hN.below hpl (bal0 wr _) hN.size
      have bii : wi.heap[gi]? = some (Obj.cells #[Value.int .i64 (k : Int)] 3 (0, 0)) := by rw [hwi, hgi]; exact alloc_at rfl
      have hgpi : gi ≠ p := by have := hN.lt; omega
      have howni : OwnT wi w2.heap.size u6 (hasTo (b.ends (-1) 0) n k) := by rw [hwi]; exact OwnA.alloc hown _
      have hzi : w2.heap.size ≤ wi.heap.size := hNi.size
      have xg := hNi.blk H2.out.2.2.2.2.2.2.2 H2.out.2.2.2.2.2.2.1
      clear c0 c1 c2 c3 c4
      obtain ⟨c0, c1, c2, c3, c4⟩ := blk5c xg
      rw [← H2.out.2.2.2.1] at c1
      have hsp := spans_any V p b (-1) 0 wi (H2.out.2.1.now hNi) n hn0.1 (by omega) 82 #[.pointer (some ⟨gi, 0, none⟩)] (fun i x => hget x k i) HENT.out (fun x hx i hi W hNW =>
        hasF_any x k i gi W ((endsTo_bd H2.out.2.2.2.2.2.1.f3 H2.out.2.2.2.2.2.1.n5 H2.out.2.2.2.2.2.1.rb H2.out.2.2.2.2.2.1.dI _ x hx).1) (by omega) (by omega) (hNW.blk bii hgpi))
      have HI := Lib.hid (And.intro hNi (And.intro bii (And.intro howni (And.intro hzi (And.intro hne hk)))))
      have HWI := Lib.hid hwi
      have HGI := Lib.hid hgi
      clear hNi bii hgpi howni hzi hne hk hown hN xg hwi hgi
      go_upto_region 8 with (fail)
      rw [← HWI.out, ← HGI.out]
      go_upto_region 9 with (go_at_call 81; refine hsp.mono ?_; rintro e w3 ⟨⟨v, rfl, hov⟩, hN3⟩)
      have hN3' := HI.out.1.trans hN3
      have hb3 : Below w.heap.size w w3 := (HV.out.1.trans (H2.out.1.mono HV.out.1.size)).trans (hN3'.less (Nat.le_trans HV.out.1.size H2.out.2.1.hz) (Nat.le_trans HV.out.1.size H2.out.1.size))
      have hp2 : p < w2.heap.size := hpl
      have hovw : OwnR w3 w2.heap.size v (spansR (b.ends (-1) 0) (fun i x => hget x k i) n) := hov.mono HI.out.2.2.2.1
      have hownw : OwnT w3 w2.heap.size u6 (hasTo (b.ends (-1) 0) n k) := HI.out.2.2.1.now hN3 hp2
      have H3 := Lib.hid (And.intro hN3' (And.intro hb3 (And.intro hovw hownw)))
      have hz3 := hN3'.size
      clear hN3 hN3' hb3 hov hovw hownw hsp
      by_cases hE : b.ends (-1) 0 = []
      · have HE := Lib.hid hE
        rw [spansE_pos hE]
        clear hE
        go_wp2_with fail
        go_ret2
        unfold HasR hasR
        rw [askE_none H2.out.2.2.1 HE.out, if_neg (by decide)]
        exact ⟨⟨_, rfl, OwnA.nil_⟩, H3.out.2.1⟩
      · have HE := Lib.hid hE
        rw [spansE_neg hE]
        clear hE
        have hll : (hasTo (b.ends (-1) 0) n k).length < 4294967296 := by rw [hasTo_len]; omega
        have hov1 := H3.out.2.2.1
        unfold spansR at hov1
        rw [if_neg HE.out] at hov1
        obtain ⟨Av, cv, hve, -, -, -⟩ := hov1.form lenRn
        have HOV := Lib.hid hov1
        clear hov1
        subst hve
        go_wp2_with (at_builtin; refine wp_app_rowA okRns (by decide) rfl (.tmp 37) (.tmp 39) rfl w2.heap.size _ _ (hasTo (b.ends (-1) 0) n k) _ rfl rfl H3.out.2.2.2 HOV.out hll hz3 ?_; intro v' w4 hown4 hb4 _; have H4 := Lib.hid (And.intro hown4 hb4); clear hown4 hb4)
        go_roundg (gk - 1)
        case measure => have := HI.out.2.2.2.2.2; omega
        case rel => exact ⟨k + 1, by have := HI.out.2.2.2.2.2; omega, by go_num, fun _ => HE.out, by rw [hasTo_succ]; exact H4.out.1, H3.out.1.below hpl H4.out.2 (Nat.le_refl _)⟩
    · obtain rfl : k = nk := by omega
      have HF := Lib.hid (And.intro (hne hk0.1) (And.intro hown hN))
      clear hne hown hN hk
      go_wp2_with fail
      go_ret2
      unfold HasR hasR
      rw [askE_ok H2.out.2.2.1 HF.out.1, if_pos rfl]
      refine ⟨⟨_, rfl, ?_⟩, (HV.out.1.trans (H2.out.1.mono HV.out.1.size)).trans (HF.out.2.2.less (Nat.le_trans HV.out.1.size H2.out.2.1.hz) (Nat.le_trans HV.out.1.size H2.out.1.size))⟩
      have := HF.out.2.1
      rw [H2.out.2.2.2.1, H2.out.2.2.2.2.1] at this
      exact OwnA.mono this (Nat.le_trans HV.out.1.size H2.out.1.size)
end Go.Proofs.Ytmennjmjakdkcaa
namespace Go.Proofs.Ytmennjmjakdkcaa
open Go.RowKit
set_option linter.unusedVariables false
set_option linter.unusedSimpArgs false

theorem endsL_snoc_iff {t : Int} {l : List Mk} {hs : List (List Int)} {ds : List De} {d : De} (x : List Int) :
    x ∈ endsL t l hs (ds ++ [d]) (-1) 0 ↔ ∃ h ∈ endsL t l hs ds (-1) 0, x ∈ succ t l (passB (-1) 0 ds.length) d h := by
  unfold endsL
  rw [List.length_append, List.length_singleton, endsTo_mem (i := ds.length) (d := d) (by simp) x, endsTo_snoc _ (Nat.le_refl _)]
theorem ends_born {t : Int} {l : List Mk} {hs : List (List Int)} {ds : List De} {d : De} (hk : d.kind = 1) (x : List Int) :
    x ∈ endsL t l hs (ds ++ [d]) (-1) 0 ↔ ∃ h ∈ endsL t l hs ds (-1) 0, x = hadd h d.flock.toNat d.owner.toNat d.many := by
  rw [endsL_snoc_iff]
  have : ∀ h, x ∈ succ t l (passB (-1) 0 ds.length) d h ↔ x = hadd h d.flock.toNat d.owner.toNat d.many := fun h => by
    unfold succ
    rw [if_pos hk, List.mem_singleton]
  simp only [this]
theorem ends_counted {t : Int} {l : List Mk} {hs : List (List Int)} {ds : List De} {d : De} (hk : d.kind = 6) (x : List Int) :
    x ∈ endsL t l hs (ds ++ [d]) (-1) 0 ↔ x ∈ endsL t l hs ds (-1) 0 ∧ countB d x = true := by
  rw [endsL_snoc_iff]
  constructor
  · rintro ⟨h, hh, hx⟩
    unfold succ at hx
    rw [if_neg (by omega), if_neg (by omega), if_neg (by omega), if_neg (by omega), if_neg (by omega)] at hx
    split at hx
    · rw [List.mem_singleton] at hx
      subst hx
      exact ⟨hh, by assumption⟩
    · cases hx
  · rintro ⟨hh, hc⟩
    refine ⟨x, hh, ?_⟩
    unfold succ
    rw [if_neg (by omega), if_neg (by omega), if_neg (by omega), if_neg (by omega), if_neg (by omega), if_pos hc]
    simp
/-- a range of what is moved by one number -/
theorem rangeE_shift {E E' : List (List Int)} {f g : List Int → Int} {m : Int} {φ : List Int → List Int} (hne : E ≠ []) (h : ∀ x, x ∈ E' ↔ ∃ y ∈ E, x = φ y) (hf : ∀ y ∈ E, f (φ y) = g y + m) : rangeE E' f = ⟨(rangeE E g).lo + m, (rangeE E g).hi + m⟩ := by
  obtain ⟨y0, hy0⟩ := List.exists_mem_of_ne_nil _ hne
  have hne' : E' ≠ [] := List.ne_nil_of_mem ((h (φ y0)).2 ⟨y0, hy0, rfl⟩)
  obtain ⟨⟨a, ha, ea⟩, ⟨c, hc, ec⟩, hb⟩ := rangeE_mem (f := g) hne
  obtain ⟨⟨a', ha', ea'⟩, ⟨c', hc', ec'⟩, hb'⟩ := rangeE_mem (f := f) hne'
  obtain ⟨u, hu, rfl⟩ := (h a').1 ha'
  obtain ⟨v, hv, rfl⟩ := (h c').1 hc'
  have h1 := hb' _ ((h (φ a)).2 ⟨a, ha, rfl⟩)
  have h2 := hb' _ ((h (φ c)).2 ⟨c, hc, rfl⟩)
  have h3 := hb u hu
  have h4 := hb v hv
  rw [hf u hu] at ea'
  rw [hf v hv] at ec'
  rw [hf a ha] at h1
  rw [hf c hc] at h2
  have e1 : (rangeE E' f).lo = (rangeE E g).lo + m := by omega
  have e2 : (rangeE E' f).hi = (rangeE E g).hi + m := by omega
  rw [← e1, ← e2]
/-- a range of some of them lies within -/
theorem rangeE_within {E E' : List (List Int)} {f g : List Int → Int} (hne : E' ≠ []) (h : ∀ x ∈ E', ∃ y ∈ E, f x = g y) : (rangeE E g).lo ≤ (rangeE E' f).lo ∧ (rangeE E' f).hi ≤ (rangeE E g).hi := by
  obtain ⟨⟨a', ha', ea'⟩, ⟨c', hc', ec'⟩, -⟩ := rangeE_mem (f := f) hne
  obtain ⟨u, hu, e1⟩ := h a' ha'
  obtain ⟨v, hv, e2⟩ := h c' hc'
  obtain ⟨-, -, hb⟩ := rangeE_mem (f := g) (List.ne_nil_of_mem hu)
  have h1 := hb u hu
  have h2 := hb v hv
  omega
/-- a stray takes nothing from its owner -/
theorem ends_strayed {t : Int} {l : List Mk} {hs : List (List Int)} {ds : List De} {d : De} {nf : Nat} (hnf : nf ≤ 3) (hl5 : l.length ≤ 5) (hd : DeIn l.length nf d) (hk : d.kind = 5) (hE : ∀ h ∈ endsL t l hs ds (-1) 0, h.length = 15) {x : List Int} (hx : x ∈ endsL t l hs (ds ++ [d]) (-1) 0) :
    ∃ h ∈ endsL t l hs ds (-1) 0, ∀ o : Nat, o < 5 → howned x o = howned h o := by
  obtain ⟨h, hh, hx⟩ := (endsL_snoc_iff x).1 hx
  refine ⟨h, hh, ?_⟩
  have hl := hE h hh
  unfold succ at hx
  rw [if_neg (by omega), if_neg (by omega), if_neg (by omega), if_neg (by omega), if_pos hk] at hx
  have hf : d.flock.toNat < 3 := by have := hd.f; omega
  have htf : d.tof.toNat < 3 := by have := hd.t; omega
  unfold strayL at hx
  obtain ⟨o, ho', hx⟩ := List.mem_flatMap.1 hx
  have hol := mayTo_lt o (List.mem_filter.1 ho').1
  cases hmv : mvd h d.flock.toNat o.toNat (-1) with
  | none => rw [hmv] at hx; cases hx
  | some y =>
    rw [hmv] at hx
    obtain ⟨h0, rfl⟩ := mvd_some hmv
    simp at hx
    subst hx
    have ho5 : o.toNat < 5 := by omega
    intro o' ho'
    rw [howned_hadd (hadd_l hl) htf ho5 ho', howned_hadd hl hf ho5 ho']
    split <;> omega
end Go.Proofs.Ytmennjmjakdkcaa
namespace Go.Proofs.Ytmennjmjakdkcaa
open Go.RowKit
set_option linter.unusedVariables false
set_option linter.unusedSimpArgs false

set_option maxHeartbeats 1000000 in
theorem cloneI_any (A : Option Addr) (n c : Nat) (l : List Int) (w : World) (hl : Ints w A n l) (hn : n ≤ 4294967295) :
    Calls Try.prog 110 #[.slice A n c] w fun e w' => ∃ v, e = .returned v ∧ OwnI w' w.heap.size v l ∧ Below w.heap.size w w' := by
  have HL := Lib.hid hl
  have HB := Lib.hid (bal0 w (Obj.cells #[] 3))
  have HLW := Lib.hid (HL.out.below HB.out (Nat.le_refl _))
  have HOWN := Lib.hid (show OwnI (w.alloc (Obj.cells #[] 3)) w.heap.size (.slice (some ⟨w.heap.size, 0, none⟩) 0 0) [] from Own.lit (enc := eInt) w w.heap.size #[] [] rfl lenInt (by omega) (by simp [maxLen]))
  have qT : ∀ (w : World) (a : Option Addr) (n c n' c' : Nat), (binOp .eql 22 (.slice a n c) (.slice none n' c')).run Try.prog w = .ok (.bool a.isNone) w := fun w a n c n' c' => Lib.run_eql_slice_nil w _ _ a n c n' c' Try.underlying22
  clear hl
  cases A with
  | none =>
    have hn0 : l = [] := List.eq_nil_of_length_eq_zero (by
      have := HL.out.len
      rcases Nat.eq_zero_or_pos n with h | h
      · omega
      · obtain ⟨b, off, e, -⟩ := HL.out.2 h; cases e)
    subst hn0
    go_enter Try.func110, Try.ntmps110
    go_wp2_with fail
    go_ret
    exact ⟨_, rfl, Own.nil_, Below.refl _ _⟩
  | some ad =>
    go_enter Try.func110, Try.ntmps110
    go_wp2_with (at_builtin; refine wp_apps okInt rfl (.tmp 5) (.tmp 6) rfl w.heap.size (.slice (some ⟨w.heap.size, 0, none⟩) 0 0) [] (some ad) n c l rfl rfl HLW.out (fun h => by cases h) lenInt one_eInt HOWN.out ?_ ?_ ?_ ?_; (simp; omega); (omega); (simp); intro v' w5 hown5 hgr5 hb5; have HH := Lib.hid (And.intro hown5 hb5); clear hown5 hgr5 hb5)
    go_ret
    have h := HH.out.1
    rw [List.nil_append] at h
    exact ⟨_, rfl, h, HB.out.trans HH.out.2⟩
set_option maxHeartbeats 1000000 in
theorem cloneM_any (A : Option Addr) (n c : Nat) (l : List Mk) (w : World) (hl : Marks w A n l) (hn : n ≤ 4294967295) :
    Calls Try.prog 109 #[.slice A n c] w fun e w' => ∃ v, e = .returned v ∧ OwnM w' w.heap.size v l ∧ Below w.heap.size w w' := by
  have HL := Lib.hid hl
  have HB := Lib.hid (bal0 w (Obj.cells #[] 62))
  have HLW := Lib.hid (HL.out.below HB.out (Nat.le_refl _))
  have HOWN := Lib.hid (show OwnM (w.alloc (Obj.cells #[] 62)) w.heap.size (.slice (some ⟨w.heap.size, 0, none⟩) 0 0) [] from Own.lit (enc := eMk) w w.heap.size #[] [] rfl lenMk (by omega) (by simp [maxLen]))
  have qT : ∀ (w : World) (a : Option Addr) (n c n' c' : Nat), (binOp .eql 23 (.slice a n c) (.slice none n' c')).run Try.prog w = .ok (.bool a.isNone) w := fun w a n c n' c' => Lib.run_eql_slice_nil w _ _ a n c n' c' Try.underlying23
  clear hl
  cases A with
  | none =>
    have hn0 : l = [] := List.eq_nil_of_length_eq_zero (by
      have := HL.out.len
      rcases Nat.eq_zero_or_pos n with h | h
      · omega
      · obtain ⟨b, off, e, -⟩ := HL.out.2 h; cases e)
    subst hn0
    go_enter Try.func109, Try.ntmps109
    go_wp2_with fail
    go_ret
    exact ⟨_, rfl, Own.nil_, Below.refl _ _⟩
  | some ad =>
    go_enter Try.func109, Try.ntmps109
    go_wp2_with (at_builtin; refine wp_apps okMark rfl (.tmp 5) (.tmp 6) rfl w.heap.size (.slice (some ⟨w.heap.size, 0, none⟩) 0 0) [] (some ad) n c l rfl rfl HLW.out (fun h => by cases h) lenMk one_eMk HOWN.out ?_ ?_ ?_ ?_; (simp; omega); (omega); (simp); intro v' w5 hown5 hgr5 hb5; have HH := Lib.hid (And.intro hown5 hb5); clear hown5 hgr5 hb5)
    go_ret
    have h := HH.out.1
    rw [List.nil_append] at h
    exact ⟨_, rfl, h, HB.out.trans HH.out.2⟩
set_option maxHeartbeats 1000000 in
theorem cloneD_any (A : Option Addr) (n c : Nat) (l : List De) (w : World) (hl : Deeds w A n l) (hn : n ≤ 4294967295) :
    Calls Try.prog 111 #[.slice A n c] w fun e w' => ∃ v, e = .returned v ∧ OwnD w' w.heap.size v l ∧ Below w.heap.size w w' := by
  have HL := Lib.hid hl
  have HB := Lib.hid (bal0 w (Obj.cells #[] 38))
  have HLW := Lib.hid (HL.out.below HB.out (Nat.le_refl _))
  have HOWN := Lib.hid (show OwnD (w.alloc (Obj.cells #[] 38)) w.heap.size (.slice (some ⟨w.heap.size, 0, none⟩) 0 0) [] from Own.lit (enc := eDe) w w.heap.size #[] [] rfl lenDe (by omega) (by simp [maxLen]))
  have qT : ∀ (w : World) (a : Option Addr) (n c n' c' : Nat), (binOp .eql 27 (.slice a n c) (.slice none n' c')).run Try.prog w = .ok (.bool a.isNone) w := fun w a n c n' c' => Lib.run_eql_slice_nil w _ _ a n c n' c' Try.underlying27
  clear hl
  cases A with
  | none =>
    have hn0 : l = [] := List.eq_nil_of_length_eq_zero (by
      have := HL.out.len
      rcases Nat.eq_zero_or_pos n with h | h
      · omega
      · obtain ⟨b, off, e, -⟩ := HL.out.2 h; cases e)
    subst hn0
    go_enter Try.func111, Try.ntmps111
    go_wp2_with fail
    go_ret
    exact ⟨_, rfl, Own.nil_, Below.refl _ _⟩
  | some ad =>
    go_enter Try.func111, Try.ntmps111
    go_wp2_with (at_builtin; refine wp_apps okDeed rfl (.tmp 5) (.tmp 6) rfl w.heap.size (.slice (some ⟨w.heap.size, 0, none⟩) 0 0) [] (some ad) n c l rfl rfl HLW.out (fun h => by cases h) lenDe one_eDe HOWN.out ?_ ?_ ?_ ?_; (simp; omega); (omega); (simp); intro v' w5 hown5 hgr5 hb5; have HH := Lib.hid (And.intro hown5 hb5); clear hown5 hgr5 hb5)
    go_ret
    have h := HH.out.1
    rw [List.nil_append] at h
    exact ⟨_, rfl, h, HB.out.trans HH.out.2⟩
end Go.Proofs.Ytmennjmjakdkcaa
namespace Go.Proofs.Ytmennjmjakdkcaa
open Go.RowKit
set_option linter.unusedVariables false
set_option linter.unusedSimpArgs false

theorem flat_set {α : Type} {enc : α → List Value} {sz j : Nat} {x y : α} {u : Value} (hsz : ∀ x, (enc x).length = sz) (hj : j < sz) (hy : enc y = (enc x).set j u) : ∀ (l : List α) (k : Nat), l[k]? = some x → (l.set k y).flatMap enc = (l.flatMap enc).set (k * sz + j) u
  | [], k, h => by simp at h
  | a :: r, 0, h => by
    simp at h
    subst h
    rw [List.set_cons_zero, List.flatMap_cons, List.flatMap_cons, hy, Nat.zero_mul, Nat.zero_add, List.set_append_left _ _ (by rw [hsz]; exact hj)]
  | a :: r, k + 1, h => by
    rw [List.set_cons_succ, List.flatMap_cons, List.flatMap_cons, flat_set hsz hj hy r k (by simpa using h), List.set_append_right _ _ (by rw [hsz, Nat.succ_mul]; omega), hsz, show (k + 1) * sz + j - sz = k * sz + j by rw [Nat.succ_mul]; omega]
theorem flatGet {α : Type} {enc : α → List Value} {sz j : Nat} {x : α} {u : Value} (hsz : ∀ x, (enc x).length = sz) (hj : j < sz) (hu : (enc x)[j]? = some u) : ∀ (l : List α) (k : Nat), l[k]? = some x → (l.flatMap enc)[k * sz + j]? = some u
  | [], k, h => by simp at h
  | a :: r, 0, h => by
    simp at h
    subst h
    rw [List.flatMap_cons, Nat.zero_mul, Nat.zero_add, List.getElem?_append_left (by rw [hsz]; exact hj)]
    exact hu
  | a :: r, k + 1, h => by
    rw [List.flatMap_cons, List.getElem?_append_right (by rw [hsz, Nat.succ_mul]; omega), hsz, show (k + 1) * sz + j - sz = k * sz + j by rw [Nat.succ_mul]; omega]
    exact flatGet hsz hj hu r k (by simpa using h)
/-- a cell of an element of an own slice: where it lies, and what a store leaves -/
theorem Own.putC {α : Type} {enc : α → List Value} {e : TypeId} {sz base n c : Nat} {A : Option Addr} {w : World} {l : List α} (hsz : ∀ x, (enc x).length = sz) (h : Own enc e sz w base (.slice A n c) l) {k : Nat} {x : α} (hk : l[k]? = some x) :
    ∃ g, A = some ⟨g, 0, none⟩ ∧ base ≤ g ∧ g < w.heap.size ∧ n = l.length ∧ n ≤ c ∧ c ≤ maxLen ∧ (∃ cs, w.heap[g]? = some (Obj.cells cs e (0, 0))) ∧ (∀ j u, (enc x)[j]? = some u → w.cell? ⟨g, k * sz + j, none⟩ = some u) ∧ (∀ o, w.frozen? ⟨g, o, none⟩ = false) ∧
      ∀ (j : Nat) (u : Value) (y : α), j < sz → enc y = (enc x).set j u → Own enc e sz (w.setCell ⟨g, k * sz + j, none⟩ u) base (.slice A n c) (l.set k y) := by
  have hkl : k < l.length := (List.getElem?_eq_some_iff.1 hk).1
  rcases h.2 with ⟨hv, h0⟩ | ⟨g, cap, cur, hv, hg, hh, hnc, hcm, hs, htk⟩
  · omega
  · cases hv
    have hfl := flat_len hsz l
    have hlt : ∀ j, j < sz → k * sz + j < l.length * sz := fun j hj => by
      have : (k + 1) * sz ≤ l.length * sz := Nat.mul_le_mul_right _ (by omega)
      rw [Nat.succ_mul] at this
      omega
    refine ⟨g, rfl, hg, heap_lt hh, rfl, hnc, hcm, ⟨_, hh⟩, fun j u hu => ?_, fun o => frz hh o, fun j u y hj hy => ⟨by rw [flat_len hsz, List.length_set], .inr ⟨g, c, cur.setIfInBounds (k * sz + j) u, by rw [List.length_set], hg, set_blk hh, by rw [List.length_set]; exact hnc, hcm, by simpa using hs, ?_⟩⟩⟩
    · have hj : j < sz := by have := (List.getElem?_eq_some_iff.1 hu).1; rw [hsz] at this; exact this
      have hm := flatGet hsz hj hu l k hk
      rw [← htk, List.getElem?_take_of_lt (hlt j hj), Array.getElem?_toList] at hm
      unfold World.cell?
      simp [hh, hm]
    · rw [Array.toList_setIfInBounds, List.take_set, List.length_set, htk, flat_set hsz hj hy l k hk]

/-- a herd book of the call's own -/
structure HbO (w : World) (base : Nat) (b : Hb) : Prop where
  m : OwnM w base b.vm b.l
  k : OwnI w base b.vk b.ks
  h : OwnG w base b.vh b.hs
  d : OwnD w base b.vd b.ds
section
variable {w w' : World} {base B : Nat} {b : Hb}
theorem HbO.below (h : HbO w base b) (hb : Below B w w') (hB : w.heap.size ≤ B) : HbO w' base b := ⟨h.m.below hb hB, h.k.below hb hB, h.h.below hb hB, h.d.below hb hB⟩
theorem HbO.mono {c : Nat} (h : HbO w base b) (hc : c ≤ base) : HbO w c b := ⟨h.m.mono hc, h.k.mono hc, h.h.mono hc, h.d.mono hc⟩
theorem HbO.inn (h : HbO w base b) : HbIn w b := by
  obtain ⟨A1, c1, e1, m1, m2, m3⟩ := h.m.form lenMk
  obtain ⟨A2, c2, e2, k1, k2, k3⟩ := h.k.form lenInt
  obtain ⟨A3, c3, e3, h1, h2, h3⟩ := h.h.form
  obtain ⟨A4, c4, e4, d1, d2, d3⟩ := h.d.form lenDe
  injection e1 with a1 _ b1
  injection e2 with a2 _ b2
  injection e3 with a3 _ b3
  injection e4 with a4 _ b4
  subst a1 b1 a2 b2 a3 b3 a4 b4
  exact ⟨m1, m2, m3, k1, k2, k3, h1, h2, h3, d1, d2, d3⟩
theorem OwnG.keptH {v : Value} {ls : List (List Int)} {H : Nat} (h : OwnG w base v ls) (hg : w.grownBy w' (some H)) (hH : H < base) : OwnG w' base v ls := by
  obtain ⟨mv, h1, h2⟩ := h
  exact ⟨mv, h1.kept hg (.inr (fun e => by have := (h1.lt _ e).1; omega)), Rws.kept h2 hg (fun x hx => .inr (fun e => by have := (Rws.ltv h2 hx _ e).1; omega))⟩
theorem Own.keptH {α : Type} {enc : α → List Value} {e : TypeId} {sz H : Nat} {v : Value} {l : List α} (h : Own enc e sz w base v l) (hg : w.grownBy w' (some H)) (hH : H < base) : Own enc e sz w' base v l :=
  h.kept hg (.inr (fun e => by have := (h.lt _ e).1; omega))
theorem HbO.dealt {H N : Nat} (h : HbO w base b) (hd : Dealt w w' H N) (hH : H < base) : HbO w' base b := ⟨h.m.keptH hd.gr hH, h.k.keptH hd.gr hH, h.h.keptH hd.gr hH, h.d.keptH hd.gr hH⟩
end
theorem deedE_inv {n nf : Nat} {d : De} (h : deedE n nf d = 0) : (1 ≤ d.kind ∧ d.kind ≤ 6) ∧ (0 ≤ d.flock ∧ d.flock < nf) ∧ fldE n nf d = 0 ∧ d = namD d := by
  unfold deedE at h
  obtain ⟨h1, h⟩ := ite0 (by decide) h
  obtain ⟨h2, h⟩ := ite0 (by decide) h
  split at h
  · exact absurd h (by assumption)
  rename_i h3
  obtain ⟨h4, -⟩ := ite0 (by decide) h
  exact ⟨btw_iff.1 ((Bool.not_eq_false _).mp h1), ownB_iff.1 ((Bool.not_eq_false _).mp h2), Classical.not_not.1 h3, Classical.not_not.1 h4⟩
/-- another number of sheep, from 1 to 3 -/
theorem deedE_many {n nf : Nat} {d : De} {x : Int} (h : deedE n nf d = 0) (h5 : d.kind ≠ 5) (hx : 1 ≤ x ∧ x ≤ 3) : deedE n nf { d with many := x } = 0 := by
  obtain ⟨h1, h2, h3, h4⟩ := deedE_inv h
  obtain ⟨kind, flock, owner, other, tof, many, err, s⟩ := d
  dsimp only at *
  refine deedE_ok h1 h2 ?_ ?_
  · unfold fldE at h3 ⊢
    dsimp only at h3 ⊢
    obtain e | e | e | e | e : kind = 1 ∨ kind = 2 ∨ kind = 3 ∨ kind = 4 ∨ kind = 6 := by omega
    all_goals subst e
    · rw [if_pos (by decide)] at h3 ⊢
      obtain ⟨a1, h3⟩ := ite0 (by decide) h3
      rw [if_neg a1, if_neg (by rw [btw_iff.2 ⟨hx.1, by omega⟩]; decide)]
    · rw [if_neg (by decide), if_pos (by decide)] at h3 ⊢
      obtain ⟨a1, h3⟩ := ite0 (by decide) h3
      obtain ⟨a2, h3⟩ := ite0 (by decide) h3
      rw [if_neg a1, if_neg a2, if_neg (by rw [btw_iff.2 ⟨hx.1, by omega⟩]; decide)]
    · rw [if_pos (by decide)] at h3 ⊢
      obtain ⟨a1, h3⟩ := ite0 (by decide) h3
      rw [if_neg a1, if_neg (by rw [btw_iff.2 ⟨hx.1, by omega⟩]; decide)]
    · rw [if_neg (by decide), if_neg (by decide), if_pos (by decide)]
      rw [if_neg (by rw [btw_iff.2 ⟨hx.1, by omega⟩]; decide)]
    · rw [if_neg (by decide), if_neg (by decide), if_neg (by decide), if_neg (by decide)] at h3 ⊢
      obtain ⟨a1, -⟩ := ite0 (by decide) h3
      rw [if_neg (fun h => h.elim (fun h => by rw [btw_iff.2 ⟨by omega, by omega⟩] at h; cases h) fun h => a1 (.inr h))]
  · unfold namD at h4 ⊢
    dsimp only at h4 ⊢
    obtain e | e | e | e | e : kind = 1 ∨ kind = 2 ∨ kind = 3 ∨ kind = 4 ∨ kind = 6 := by omega
    all_goals subst e; simp at h4 ⊢; simp [h4]

/-- while some deeds are told otherwise -/
structure HoS (w : World) (H g B nD : Nat) (b : Hb) (M : Nat) (ds : List De) (wr : World) : Prop where
  dl : ds.length = nD
  de : ∀ d ∈ ds, deedE b.l.length b.ks.length d = 0
  m : OwnM wr (g + 1) b.vm b.l
  k : OwnI wr (g + 1) b.vk b.ks
  h : OwnG wr (g + 1) b.vh b.hs
  d : OwnD wr (g + 1) (.slice b.Ad nD b.cd) ds
  bx : wr.heap[B]? = some (boxO b.t b.vm b.vk b.vh (.slice b.Ad nD b.cd))
  bg : wr.heap[g]? = some (boxO 0 (.slice none 0 0) (.slice none 0 0) (.slice none 0 0) (.slice none 0 0))
  dt : Dealt w wr H M
  z : H < g ∧ g < B ∧ w.heap.size ≤ g
section
variable {w wr w' : World} {H g B nD M M' : Nat} {b : Hb} {ds : List De}
theorem HoS.dealt (a : HoS w H g B nD b M ds wr) (hd : Dealt wr w' H M') : HoS w H g B nD b M' ds w' := by
  have hz := a.z
  exact ⟨a.dl, a.de, a.m.keptH hd.gr (by omega), a.k.keptH hd.gr (by omega), a.h.keptH hd.gr (by omega), a.d.keptH hd.gr (by omega), hd.blk a.bx (by omega), hd.blk a.bg (by omega), a.dt.trans hd, a.z⟩
theorem HoS.mono (a : HoS w H g B nD b M ds wr) (h : M ≤ M') : HoS w H g B nD b M' ds wr := ⟨a.dl, a.de, a.m, a.k, a.h, a.d, a.bx, a.bg, a.dt.mono h, a.z⟩
theorem HoS.at (a : HoS w H g B nD b M ds wr) {k : Nat} (hk : k < nD) : ∃ gd d, b.Ad = some ⟨gd, 0, none⟩ ∧ ds[k]? = some d ∧ nD ≤ b.cd ∧ b.cd ≤ maxLen ∧ wr.cell? ⟨gd, k * 12, none⟩ = some (.int .i64 d.kind) ∧ wr.cell? ⟨gd, k * 12 + 5, none⟩ = some (.int .i64 d.many) ∧ wr.frozen? ⟨gd, k * 12 + 5, none⟩ = false ∧
    gd < wr.heap.size ∧ gd ≠ H ∧ gd ≠ B ∧ ∀ x, d.kind ≠ 5 → 1 ≤ x → x ≤ 3 → HoS w H g B nD b M (ds.set k { d with many := x }) (wr.setCell ⟨gd, k * 12 + 5, none⟩ (.int .i64 x)) := by
  have hz := a.z
  obtain ⟨d, hd⟩ : ∃ d, ds[k]? = some d := ⟨_, List.getElem?_eq_getElem (by rw [a.dl]; exact hk)⟩
  obtain ⟨gd, e, h1, h2, h3, h4, h5, ⟨cs, hb⟩, h6, h7, h8⟩ := a.d.putC lenDe hd
  have hgB : gd ≠ B := fun e => by subst e; have := a.bx; rw [hb] at this; cases this
  have hgg : gd ≠ g := by omega
  refine ⟨gd, d, e, hd, h4, h5, h6 0 _ rfl, h6 5 _ rfl, h7 _, h2, by omega, hgB, fun x hk5 hx1 hx2 => ?_⟩
  have hgr := grownBy_cell wr gd (k * 12 + 5) (.int .i64 x)
  have hvd : (Value.slice b.Ad nD b.cd).ownBlock = some gd := by rw [e]; rfl
  have key : ∀ {α : Type} {enc : α → List Value} {e : TypeId} {sz : Nat} {v : Value} {l : List α}, Own enc e sz wr (g + 1) v l → e ≠ 38 → Own enc e sz (wr.setCell ⟨gd, k * 12 + 5, none⟩ (.int .i64 x)) (g + 1) v l := fun ho he => ho.kept hgr (.inr (ho.ne' hb he))
  obtain ⟨mv, g1, g2⟩ := a.h
  refine ⟨by rw [List.length_set]; exact a.dl, fun d' hd' => ?_, key a.m (by decide), key a.k (by decide), ⟨mv, key g1 (by decide), Rws.kept g2 hgr (fun y hy => .inr (Rws.ne g2 hy hb (by decide)))⟩, h8 5 (.int .i64 x) { d with many := x } (by decide) rfl, (hgr.block B (heap_lt a.bx) (fun e => hgB (by simpa using e.symm))).trans a.bx, (hgr.block g (heap_lt a.bg) (fun e => hgg (by simpa using e.symm))).trans a.bg, a.dt.set (by show H < gd; omega) (by show w.heap.size ≤ gd; omega) _, a.z⟩
  rcases List.mem_or_eq_of_mem_set hd' with h | rfl
  · exact a.de _ h
  · exact deedE_many (a.de _ (List.mem_of_getElem? hd)) hk5 ⟨hx1, hx2⟩
end
end Go.Proofs.Ytmennjmjakdkcaa
