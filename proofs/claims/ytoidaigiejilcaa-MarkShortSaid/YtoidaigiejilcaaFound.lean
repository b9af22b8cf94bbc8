/- mestalaw03.found. -/
import Derived.Test.YtoidaigiejilcaaFoundK
import Derived.Test.YtoidaigiejilcaaDraw
namespace Go.Proofs.Ytoidaigiejilcaa
open Go.RowKit
set_option linter.unusedVariables false
set_option linter.unusedSimpArgs false

/-- the hand has dealt, blocks were laid, and the block R may have been written to read t -/
def TR (H R : Nat) (t : Obj) (n : Nat) (w w' : World) : Prop :=
  w'.os = w.os ∧ w'.tape = w.tape ∧ w'.output = w.output ∧ w.heap.size ≤ w'.heap.size ∧ (∀ (k : Nat) o, w.heap[k]? = some o → k ≠ H → w'.heap[k]? = some o ∨ (k = R ∧ w'.heap[k]? = some t)) ∧ ∀ N, Hd w H N → Hd w' H (N + 3000 * n)
theorem TR.tr {H R : Nat} {t : Obj} : ∀ n a b c, TR H R t n a b → TR H R t 1 b c → TR H R t (n + 1) a c := fun n a b c h k => by
  obtain ⟨h1, h2, h3, h4, h5, h6⟩ := h
  obtain ⟨k1, k2, k3, k4, k5, k6⟩ := k
  refine ⟨k1.trans h1, k2.trans h2, k3.trans h3, Nat.le_trans h4 k4, fun j o ho hj => ?_, fun N hN => ?_⟩
  · rcases h5 j o ho hj with h | ⟨rfl, h⟩
    · exact k5 j o h hj
    · rcases k5 _ t h hj with h' | ⟨_, h'⟩
      · exact .inr ⟨rfl, h'⟩
      · exact .inr ⟨rfl, h'⟩
  · have := k6 _ (h6 N hN)
    rw [show N + 3000 * (n + 1) = N + 3000 * n + 3000 * 1 by omega]; exact this
theorem TR.draw {H R : Nat} {t : Obj} (w : World) : TR H R t 0 w { w with drawn := w.drawn + 1 } := ⟨rfl, rfl, rfl, Nat.le_refl _, fun _ _ h _ => .inl h, fun N h => h⟩
theorem TR.rf {H R : Nat} {t : Obj} : ∀ w, TR H R t 1 w w := fun w => ⟨rfl, rfl, rfl, Nat.le_refl _, fun _ _ h _ => .inl h, fun N h => h.mono (by omega)⟩
theorem TR.of {H R : Nat} {t : Obj} {w w' : World} {N k : Nat} (hmin : ∀ M, Hd w H M → N ≤ M) (h : Dealt w w' H (N + k)) (hk : k ≤ 3000) : TR H R t 1 w w' :=
  ⟨h.gr.os, h.gr.tape, h.gr.output, h.gr.size, fun j o ho hj => .inl (h.blk ho hj), fun M hM => h.hd.mono (by have := hmin M hM; omega)⟩
theorem TR.blk {H R n b : Nat} {t o : Obj} {w w' : World} (h : TR H R t n w w') (hH : b ≠ H) (hR : b ≠ R) (hb : w.heap[b]? = some o) : w'.heap[b]? = some o := by
  rcases h.2.2.2.2.1 b o hb hH with h | ⟨e, _⟩
  · exact h
  · exact absurd e hR
/-- what is owned from B on abides -/
theorem Own.tr {α : Type} {enc : α → List Value} {e : TypeId} {sz : Nat} {w w' : World} {base H R n : Nat} {t : Obj} {v : Value} {l : List α} (h : Own enc e sz w base v l) (hT : TR H R t n w w') (hH : H < base) (hR : R < base) : Own enc e sz w' base v l := by
  refine ⟨h.1, ?_⟩
  rcases h.2 with h2 | ⟨g, cap, cur, hv, hg, hh, r⟩
  · exact .inl h2
  · exact .inr ⟨g, cap, cur, hv, hg, hT.blk (by omega) (by omega) hh, r⟩
/-- the block R reads t -/
def RdF (R : Nat) (t : Obj) : VF := fun _ w => w.heap[R]? = some t
def SsF (B : Nat) : VF := fun v w => ∃ ss, OwnS w B v ss ∧ (∀ s ∈ ss, seen s 9 6 = 0) ∧ ss.length ≤ 4
def MsF (B n : Nat) : VF := fun v w => ∃ mis, OwnI w B v mis ∧ mis.length = n ∧ ∀ x ∈ mis, 0 ≤ x ∧ x ≤ 3

/-- a register, strays and what owners miss, made by the hand -/
def FoundRes (w : World) (H N : Nat) (e : Ending) (w' : World) : Prop := ∃ (t : Nat) (l : List Mk) (A : Option Addr) (c : Nat) (B : Option Addr) (cb : Nat) (ss : List Sg) (D : Option Addr) (cd : Nat) (mis : List Int),
  e = .returned (.tuple #[.agg #[.int .i64 t, .slice A l.length c], .slice B ss.length cb, .slice D mis.length cd]) ∧ check t l = 0 ∧ l.length ≤ 3 ∧ Marks w' A l.length l ∧ l.length ≤ c ∧ c ≤ maxLen ∧ (A = none → c = 0) ∧
  Sights w' B ss.length ss ∧ (∀ s ∈ ss, seen s 9 6 = 0) ∧ ss.length ≤ 4 ∧ Ints w' D mis.length mis ∧ mis.length = l.length ∧ (∀ x ∈ mis, 0 ≤ x ∧ x ≤ 3) ∧ Dealt w w' H N

set_option maxRecDepth 400000 in
set_option maxHeartbeats 4000000 in
theorem found_any (H : Nat) (w : World) (h : Hd w H 0) :
    Calls Try.prog 9 #[.pointer (some ⟨H, 0, none⟩)] w (FoundRes w H 400000) := by
  have hH := h.lt
  go_enter Try.func9, Try.ntmps9
  go_wp2_with fail
  have hD0 := (Dealt.refl h).alloc (Obj.cells #[Value.int .i64 0, .slice none 0 0] 25)
  have b0 : (w.alloc (Obj.cells #[Value.int .i64 0, .slice none 0 0] 25)).heap[w.heap.size]? = some (Obj.cells #[Value.int .i64 0, .slice none 0 0] 25 (0, 0)) := alloc_at rfl
  refine (registerOf_any H 0 3 _ hD0.hd (by omega) (by omega)).mono ?_
  rintro e w2 ⟨t, l, A1, c1, rfl, hck, hl5, hown, hms, hlc, hcm, hd2⟩
  obtain ⟨ht0, ht2, _, _⟩ := check_ok hck
  obtain ⟨tn, rfl⟩ := Int.eq_ofNat_of_zero_le ht0
  have hD2 := hD0.trans hd2
  have b2 := hd2.blk b0 (by omega)
  clear hd2 hD0 b0 h
  go_upto_region 2 with (fail)
  obtain ⟨W, hW⟩ : ∃ W, W = w2.alloc (Obj.cells #[Value.int .i64 (tn : Int), .slice A1 l.length c1] 25) := ⟨_, rfl⟩
  rw [← hW]
  have bW : W.heap[w2.heap.size]? = some (Obj.cells #[Value.int .i64 (tn : Int), .slice A1 l.length c1] 25 (0, 0)) := by rw [hW]; exact alloc_at rfl
  have bR : W.heap[w.heap.size]? = some (Obj.cells #[Value.int .i64 0, .slice none 0 0] 25 (0, 0)) := by rw [hW]; exact hblk_alloc b2 _
  have hDW : Dealt w W H 100 := by rw [hW]; exact hD2.alloc _
  have hms2 : Marks W A1 l.length l := by rw [hW]; exact hms.alloc _
  have hltR : w.heap.size < w2.heap.size := heap_lt b2
  have hltW := heap_lt bW
  have hbase : ∀ b off, A1 = some ⟨b, off, none⟩ → w.heap.size + 1 ≤ b ∧ b < W.heap.size := fun b off e => by
    have := hown.lt b (by rw [e]; rfl)
    simp at this
    omega
  have hzA : A1 = none → c1 = 0 := by
    obtain ⟨A', c', hv, _, _, _, h3⟩ := own_shape hown lenMk
    cases hv
    exact h3
  clear hW hD2 hms hown b2
  obtain ⟨r0, r1⟩ := blk2 bW
  obtain ⟨TG, hTG⟩ : ∃ TG : Obj, TG = Obj.cells #[Value.int .i64 (tn : Int), .slice A1 l.length c1] 25 (0, 0) := ⟨_, rfl⟩
  have hmk : ∀ k w', TR H w.heap.size TG k W w' → Marks w' A1 l.length l := fun k w' hT => ⟨hms2.1, fun hn => by
    obtain ⟨b, off, hA, hc⟩ := hms2.2 hn
    refine ⟨b, off, hA, fun i x hx j u hu => ?_⟩
    have h1 := hc i x hx j u hu
    have h2 := hbase b off hA
    have h3 : W.heap[b]? = some (W.heap[b]'h2.2) := Array.getElem?_eq_getElem h2.2
    have h4 := hT.blk (by omega) (by omega) h3
    unfold World.cell? at h1 ⊢
    rw [h4]
    rw [h3] at h1
    exact h1⟩
  have HC : Hid (∀ k w', TR H w.heap.size TG k W w' → w'.cell? ⟨w2.heap.size, 0, none⟩ = some (.int .i64 (tn : Int)) ∧ w'.cell? ⟨w2.heap.size, 1, none⟩ = some (.slice A1 l.length c1)) :=
    Lib.hid fun k w' hT => blk2 (hT.blk (by omega) (by omega) bW)
  have HH := Lib.hid (And.intro hDW (And.intro hmk (And.intro hck bR)))
  have HT := Lib.hid hTG
  clear r0 r1 hDW hmk hck bR hms2 hTG bW
  have hoff : OffH A1 H := fun b off e => by have := hbase b off e; omega
  refine wp_region_inv (TR H w.heap.size TG) (by kernel_rfl) (by kernel_rfl) TR.tr (TR.draw _) ?_
  apply Exists.intro
  refine ⟨fun ys => ?_, fun ops K hK => ?_⟩
  · simp only [dstsOf, List.filterMap_cons, List.filterMap_nil, putAll]
    go_simp
    rfl
  repeat
    refine LexI.const TR.rf ?_
    apply Exists.intro
    refine ⟨fun n' ys w' hn' hT hd => ?_, ?_⟩
    · try simp [DepsOf, depsGo, DF.holds, Region.binds, EqF] at hd
      obtain ⟨y0, y1⟩ := HC.out n' w' hT
      intro Q2 hQ2
      go_wp2_with fail
      rfl
    try simp only [List.nil_append, List.cons_append]
  -- the strays
  refine LexI.some (SsF W.heap.size) (fun m v w w' h ⟨ss, h1, h2⟩ => ⟨ss, Own.tr h1 h (by omega) (by omega), h2⟩) (fun n' ys w' hn' hT hd => ?_) ?_
  · try simp [DepsOf, depsGo, DF.holds, Region.binds, EqF] at hd
    try simp only [hd]
    intro Q2 hQ2
    obtain ⟨N0, hN0, hN1, hN2⟩ := (hT.2.2.2.2.2 _ HH.out.1.hd).least
    have hsz := hT.2.2.2.1
    have hmw := HH.out.2.1 _ _ hT
    have HMW := Lib.hid hmw
    clear hmw
    go_wp2_with fail
    refine (sightsOf_any H N0 4 tn A1 l.length c1 l w' hN1 (by omega) (by omega) HH.out.2.2.1 HMW.out hoff (by omega)).mono ?_
    rintro e wU ⟨v, ss, rfl, ho, hv, hl4, hU⟩
    have HX := Lib.hid (And.intro (TR.of (R := w.heap.size) (t := TG) (k := 1001) hN2 (hU.mono (by omega)) (by omega)) (show SsF W.heap.size v wU from ⟨ss, ho.mono hsz, hv, hl4⟩))
    clear ho hv hU
    go_wp2
    exact ⟨_, rfl, HX.out⟩
  try simp only [List.nil_append, List.cons_append]
  repeat
    refine LexI.const TR.rf ?_
    apply Exists.intro
    refine ⟨fun n' ys w' hn' hT hd => ?_, ?_⟩
    · try simp [DepsOf, depsGo, DF.holds, Region.binds, EqF] at hd
      obtain ⟨y0, y1⟩ := HC.out n' w' hT
      intro Q2 hQ2
      go_wp2_with fail
      rfl
    try simp only [List.nil_append, List.cons_append]
  -- what they miss
  refine LexI.some (MsF W.heap.size l.length) (fun m v w w' h ⟨ss, h1, h2⟩ => ⟨ss, Own.tr h1 h (by omega) (by omega), h2⟩) (fun n' ys w' hn' hT hd => ?_) ?_
  · try simp [DepsOf, depsGo, DF.holds, Region.binds, EqF] at hd
    try simp only [hd]
    intro Q2 hQ2
    obtain ⟨N0, hN0, hN1, hN2⟩ := (hT.2.2.2.2.2 _ HH.out.1.hd).least
    have hsz := hT.2.2.2.1
    go_wp2_with fail
    refine (missingOf_any H N0 tn A1 l.length c1 w' hN1 (by omega) (by omega)).mono ?_
    rintro e wU ⟨v, ms, rfl, ho, hl, hv, hU⟩
    have HX := Lib.hid (And.intro (TR.of (R := w.heap.size) (t := TG) (k := 10) hN2 (hU.mono (by omega)) (by omega)) (show MsF W.heap.size l.length v wU from ⟨ms, ho.mono hsz, hl, hv⟩))
    clear ho hv hU hl
    go_wp2
    exact ⟨_, rfl, HX.out⟩
  try simp only [List.nil_append, List.cons_append]
  -- the register's result
  refine LexI.some (RdF w.heap.size TG) (fun m v w0 w' h hb => by unfold RdF at hb ⊢; rcases h.2.2.2.2.1 _ _ hb (by omega) with h | ⟨_, h⟩ <;> exact h) (fun n' ys w' hn' hT hd => ?_) ?_
  · try simp [DepsOf, depsGo, DF.holds, Region.binds, EqF] at hd
    try simp only [hd]
    obtain ⟨h8, -⟩ := hd
    have hz : w'.heap[w.heap.size]? = some (Obj.cells #[Value.int .i64 0, .slice none 0 0] 25 (0, 0)) ∨ w'.heap[w.heap.size]? = some TG := by
      rcases hT.2.2.2.2.1 _ _ HH.out.2.2.2 (by omega) with h | ⟨_, h⟩
      · exact .inl h
      · exact .inr h
    have hz' : ∃ a b : Value, w'.heap[w.heap.size]? = some (Obj.cells #[a, b] 25 (0, 0)) := by
      rcases hz with h | h
      · exact ⟨_, _, h⟩
      · rw [HT.out] at h; exact ⟨_, _, h⟩
    obtain ⟨za, zb, hzz⟩ := hz'
    obtain ⟨p0, p1⟩ := blk2 hzz
    obtain ⟨f0, f1⟩ := And.intro (frz hzz 0) (frz hzz 1)
    have hlz := heap_lt hzz
    have HZ := Lib.hid hzz
    clear hz hzz
    intro Q2 hQ2
    go_wp2_with fail
    have hblk : ((w'.setCell ⟨w.heap.size, 0, none⟩ (.int .i64 (tn : Int))).setCell ⟨w.heap.size, 1, none⟩ (.slice A1 l.length c1)).heap[w.heap.size]? = some TG := by
      rw [HT.out]
      have := set_blk (i := 1) (v := .slice A1 l.length c1) (set_blk (i := 0) (v := .int .i64 (tn : Int)) HZ.out)
      exact this
    refine ⟨⟨rfl, rfl, rfl, by simp, fun k o ho hk => ?_, fun N hN => (hN.kept fun j hj => ?_).mono (by omega)⟩, ⟨.bool true, hblk⟩⟩
    · by_cases hkR : k = w.heap.size
      · subst hkR; exact .inr ⟨rfl, hblk⟩
      · exact .inl (by rw [Below.heap_setCell _ ⟨w.heap.size, 1, none⟩ _ _ hkR, Below.heap_setCell _ ⟨w.heap.size, 0, none⟩ _ _ hkR]; exact ho)
    · rw [Below.heap_setCell _ ⟨w.heap.size, 1, none⟩ _ _ (by dsimp; omega), Below.heap_setCell _ ⟨w.heap.size, 0, none⟩ _ _ (by dsimp; omega)]
  try simp only [List.nil_append, List.cons_append]
  refine LexI.some (SsF W.heap.size) (fun m v w w' h ⟨ss, h1, h2⟩ => ⟨ss, Own.tr h1 h (by omega) (by omega), h2⟩) (fun n' ys w' hn' hT hd => ?_) ?_
  · try simp [DepsOf, depsGo, DF.holds, Region.binds, EqF] at hd
    try simp only [hd]
    intro Q2 hQ2
    go_wp2_with fail
    exact TR.rf _
  try simp only [List.nil_append, List.cons_append]
  refine LexI.some (MsF W.heap.size l.length) (fun m v w w' h ⟨ss, h1, h2⟩ => ⟨ss, Own.tr h1 h (by omega) (by omega), h2⟩) (fun n' ys w' hn' hT hd => ?_) ?_
  · try simp [DepsOf, depsGo, DF.holds, Region.binds, EqF] at hd
    try simp only [hd]
    intro Q2 hQ2
    go_wp2_with fail
    exact TR.rf _
  try simp only [List.nil_append, List.cons_append]
  refine hK _ (fun n' ys wc hn' hT hF => ?_)
  simp only [AllF, DF.holds] at hF
  obtain ⟨-, -, -, -, -, -, -, ⟨_, hR⟩, ⟨ss, hss, hsv, hs4⟩, ⟨mis, hmis, hml, hmv⟩, -⟩ := hF
  obtain ⟨B, cb, eB, hsB, hcB, hmB⟩ := hss.form lenSg
  obtain ⟨D, cd, eD, hsD, hcD, hmD⟩ := hmis.form lenInt
  simp only [eB, eD]
  have hmw := HH.out.2.1 _ _ hT
  have hDf : Dealt w wc H 400000 := by
    refine ⟨(hT.2.2.2.2.2 _ HH.out.1.hd).mono (by omega), ⟨hT.1.trans HH.out.1.gr.os, hT.2.1.trans HH.out.1.gr.tape, hT.2.2.1.trans HH.out.1.gr.output, Nat.le_trans HH.out.1.gr.size hT.2.2.2.1, fun k hk hne => ?_⟩⟩
    have h1 : W.heap[k]? = w.heap[k]? := HH.out.1.gr.block k hk hne
    have h2 : w.heap[k]? = some (w.heap[k]'hk) := Array.getElem?_eq_getElem hk
    rw [h2] at h1 ⊢
    exact hT.blk (fun e => hne (by rw [e])) (by omega) h1
  unfold RdF at hR
  rw [HT.out] at hR
  obtain ⟨p0, p1⟩ := blk2 hR
  have HR := Lib.hid (And.intro hsB (And.intro hsD (And.intro hmw hDf)))
  have HV := Lib.hid (And.intro hsv (And.intro hmv hml))
  have hlR := heap_lt hR
  clear hss hmis hsB hsD hmw hDf hR eB eD hsv hmv hT hml
  go_wp2
  refine bodyPost_ret (v := .tuple #[.agg #[.int .i64 tn, .slice A1 l.length c1], .slice B ss.length cb, .slice D mis.length cd]) (by simp [results, Try.f9, go_sem, p0, p1, hlR]) rfl ?_
  exact ⟨tn, l, A1, c1, B, cb, ss, D, cd, mis, rfl, HH.out.2.2.1, hl5, HR.out.2.2.1, hlc, hcm, hzA, HR.out.1, HV.out.1, hs4, HR.out.2.1, HV.out.2.2, HV.out.2.1, HR.out.2.2.2⟩
end Go.Proofs.Ytoidaigiejilcaa
