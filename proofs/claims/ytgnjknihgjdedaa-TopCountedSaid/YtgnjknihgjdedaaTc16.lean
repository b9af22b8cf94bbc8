/- TopCounted 16: TyF, TyM. -/
import Derived.Test.YtgnjknihgjdedaaTc15
import Derived.Maps.Own
import Derived.Maps.OwnOps
import Derived.DeepKeys4
namespace Go.Proofs.Ytgnjknihgjdedaa
open Go.RowKit Go.MapKept Go.ChangeMaps
set_option linter.unusedVariables false
set_option linter.unusedSimpArgs false
attribute [local go_sem] Oper.semAt_some

def KpX (q : Nat) (A B : World) : Prop := A.heap.size ≤ B.heap.size ∧ ∀ k o, k ≠ q → A.heap[k]? = some o → o.isCells = true → B.heap[k]? = some o
def ExX (base : Nat) (A B : World) : Prop := Below base A B ∧ KeepsOthers A B
theorem KpX.tr {q : Nat} {A B C : World} (h : KpX q A B) (k : KpX q B C) : KpX q A C := ⟨Nat.le_trans h.1 k.1, fun i o hi ho hc => k.2 i o hi (h.2 i o hi ho hc) hc⟩
theorem KpX.put {q : Nat} (W : World) (l : Nat) (o o' : Obj) (h : W.heap[l]? = some o) (hc : o.isCells = false) : KpX q W (W.putObj l o') := by
  refine ⟨by simp, fun k x hk hx hcx => ?_⟩
  by_cases e : k = l
  · rw [e, h] at hx; cases hx; rw [hc] at hcx; cases hcx
  · exact (World.putObj_heap_other e).trans hx
theorem KpX.of_below {q : Nat} {A B : World} (h : Below A.heap.size A B) : KpX q A B := ⟨h.size, fun k o _ hk _ => (h.block k (heap_lt hk)).trans hk⟩
theorem ExX.of_below {base : Nat} {A B : World} (hb : base ≤ A.heap.size) (h : Below A.heap.size A B) : ExX base A B :=
  ⟨h.mono hb, ⟨h.size, fun k o hk _ => (h.block k (heap_lt hk)).trans hk⟩⟩
theorem ExX.tr {base : Nat} {A B C : World} (h : ExX base A B) (k : ExX base B C) : ExX base A C := ⟨h.1.trans k.1, h.2.trans k.2⟩
theorem ExX.set {base b i : Nat} {A : World} (hb : base ≤ b) (v : Value) : ExX base A (A.setCell ⟨b, i, none⟩ v) := ⟨Below.setCell (Below.refl _ _) (p := ⟨b, i, none⟩) hb v, KeepsOthers.setCell A _ v⟩
theorem KpX.blk {q k : Nat} {A B : World} {cs : Array Value} {t : TypeId} {x : Nat × Nat} (h : KpX q A B) (hk : k ≠ q) (hc : A.heap[k]? = some (.cells cs t x)) : B.heap[k]? = some (.cells cs t x) := h.2 k _ hk hc rfl
theorem KpX.cell {q b i : Nat} {A B : World} {v : Value} (h : KpX q A B) (hb : b ≠ q) (hc : A.cell? ⟨b, i, none⟩ = some v) : B.cell? ⟨b, i, none⟩ = some v := by
  unfold World.cell? at hc ⊢
  cases hh : A.heap[b]? with
  | none => rw [hh] at hc; simp at hc
  | some o =>
    rw [hh] at hc
    cases o with
    | cells cs t x => rw [h.2 b _ hb hh rfl]; exact hc
    | _ => simp at hc
theorem Sl.kpx {α : Type} {enc : α → List Value} {sz : Nat} {A B : World} {P : Option Addr} {n q : Nat} {l : List α} (h : Sl enc sz A P n l) (k : KpX q A B) (hq : 0 < n → ∀ b o, P = some ⟨b, o, none⟩ → b ≠ q) : Sl enc sz B P n l :=
  ⟨h.1, fun hn => by
    obtain ⟨b, off, e, hc⟩ := h.2 hn
    exact ⟨b, off, e, fun i x hx j u hu => k.cell (hq (by omega) b off e) (hc i x hx j u hu)⟩⟩
structure TyAt (w : World) (T : Ty) (p : Tp) (k M : Nat) : Prop where
  b : w.heap[k]? = some (wkO T p M)
  i : TyIn w T p
structure OffT (T : Ty) (p : Tp) (k q : Nat) : Prop where
  k : k ≠ q
  a : 0 < T.ch.length → ∀ b o, p.A = some ⟨b, o, none⟩ → b ≠ q
  b : 0 < T.cs.length → ∀ b o, p.B = some ⟨b, o, none⟩ → b ≠ q
theorem TyAt.kpx {A B : World} {T : Ty} {p : Tp} {k M q : Nat} (h : TyAt A T p k M) (hk : KpX q A B) (ho : OffT T p k q) : TyAt B T p k M :=
  ⟨hk.blk ho.k h.b, h.i.a.kpx hk ho.a, h.i.ac, h.i.am, h.i.b.kpx hk ho.b, h.i.bc, h.i.bm⟩
theorem KpX.set {q i : Nat} (A : World) (v : Value) : KpX q A (A.setCell ⟨q, i, none⟩ v) := ⟨by simp, fun k o hk ho _ => (Below.heap_setCell A ⟨q, i, none⟩ v k hk).trans ho⟩
theorem sl_lt {α : Type} {enc : α → List Value} {sz : Nat} {w : World} {A : Option Addr} {n : Nat} {l : List α} (h : Sl enc sz w A n l) (hs : 0 < sz) (henc : ∀ x, (enc x).length = sz) (hn : 0 < n) : ∀ b o, A = some ⟨b, o, none⟩ → b < w.heap.size := by
  intro b o e
  obtain ⟨b', off, x, hA, hx, hc⟩ := h.at_ hn
  rw [hA] at e
  cases e
  have := henc x
  cases hv : enc x with
  | nil => rw [hv] at this; simp at this; omega
  | cons v r => exact cell_lt (hc 0 v (by rw [hv]; rfl))
theorem TyAt.off {w : World} {T : Ty} {p : Tp} {k M q : Nat} (h : TyAt w T p k M) (hq : w.heap.size ≤ q) : OffT T p k q :=
  ⟨by have := heap_lt h.b; omega, fun hn b o e => by have := sl_lt h.i.a (by decide) lenSp hn b o e; omega, fun hn b o e => by have := sl_lt h.i.b (by decide) lenCt hn b o e; omega⟩
theorem TyAt.below {A B : World} {T : Ty} {p : Tp} {k M n : Nat} (h : TyAt A T p k M) (hb : Below n A B) (hn : A.heap.size ≤ n) : TyAt B T p k M := ⟨bheap h.b hb hn, h.i.below hb hn⟩
def encN (x : Int × Sp) : Array Value := #[.int .i64 x.1, spV x.2]
def Ty.walkL (T : Ty) (n : Nat) : List (Int × Sp) := (List.range n).map fun g : Nat => ((g : Int), T.now g)
theorem walkL_succ (T : Ty) (n : Nat) : T.walkL (n + 1) = T.walkL n ++ [((n : Int), T.now n)] := by unfold Ty.walkL; rw [List.range_succ, List.map_append]; rfl
theorem walkL_pre (T : Ty) {a b : Nat} (h : a ≤ b) : T.walkL a <+: T.walkL b := by
  obtain ⟨c, rfl⟩ := Nat.exists_eq_add_of_le h
  induction c with
  | zero => exact List.prefix_refl _
  | succ c ih => exact (ih (by omega)).trans (by rw [← Nat.add_assoc, walkL_succ]; exact List.prefix_append _ _)
def Ty.ahead (T : Ty) : Nat → Sp
  | 0 => T.f
  | g + 1 => T.now g
def Ty.come (T : Ty) : Nat → Sp
  | 0 => T.f
  | g + 1 => (T.now g).add (T.str g)
theorem now_come (T : Ty) (g : Nat) : T.now g = (T.come g).meet (T.lim g) := by cases g <;> rfl
abbrev ptrO (k : Nat) : Obj := .cells #[.pointer (some ⟨k, 0, none⟩)] 84 (0, 0)
abbrev spO (s : Sp) : Obj := .cells #[.int .i64 s.lo, .int .i64 s.hi] 91 (0, 0)
theorem twalk_any (k : Nat) (l : List Sp) (w : World) (hl : l.length = 5) :
    Calls Try.prog 71 #[.pointer (some ⟨k, 0, none⟩), .agg (lcs l)] w fun e w' => e = .returned (.func (.func 102) #[] #[.pointer (some ⟨w.heap.size, 0, none⟩), .pointer (some ⟨w.heap.size + 1, 0, none⟩)]) ∧
      Below w.heap.size w w' ∧ w'.heap[w.heap.size]? = some (ptrO k) ∧ SpB w' (w.heap.size + 1) 146 l ∧ w'.heap.size = w.heap.size + 2 := by
  obtain ⟨s0, s1, s2, s3, s4, rfl⟩ := list5s hl
  go_enter Try.func71, Try.ntmps71
  go_wp2
  go_ret
  exact ⟨rfl, bal (bal0 w _) (Nat.le_refl _) _, hblk_alloc (alloc_at rfl) _, alloc_at (by simp), by simp⟩
set_option maxRecDepth 100000 in
set_option maxHeartbeats 4000000 in
theorem walk_it (n : Nat) (hn : 1 ≤ n) (T : Ty) (p : Tp) (k M b1 b2 q : Nat) (w : World) (hk : TyOk T) (hat : TyAt w T p k M) (h1 : w.heap[b1]? = some (ptrO k)) (h2 : SpB w b2 146 (limL T.cs)) (hof : OffT T p k q) (hq1 : b1 ≠ q) (hq2 : b2 ≠ q) (hqw : q < w.heap.size) :
    SeqX Fence.wide n Try.prog 102 #[.pointer (some ⟨b1, 0, none⟩), .pointer (some ⟨b2, 0, none⟩)] encN (KpX q) (ExX w.heap.size) (fun xs => xs = T.walkL T.g.toNat) (fun pre => pre <+: T.walkL T.g.toNat) w := fun r J Jx W hW hJ hJx hE hY h0 => by
  refine callsIn_of_wp Try.func102 rfl trivial ?_ rfl
  simp only [Try.ntmps102, List.size_toArray, List.length_cons, List.length_nil, Nat.reduceAdd, Nat.reduceSub, Array.replicate_succ, Array.replicate_zero, List.push_toArray, List.append_toArray, List.nil_append, List.cons_append]
  refine wpIn_wide.2 ?_
  have HA := Lib.hid (And.intro hk (And.intro hof (And.intro hq1 (And.intro hq2 hqw))))
  have hatW := hat.below hW (Nat.le_refl _)
  have h1W := bheap h1 hW (Nat.le_refl _)
  have h2W := h2.below hW (Nat.le_refl _)
  have hg1 := hk.g.1
  have hg5 := hk.g.2
  have hWs := hW.size
  obtain ⟨G, hG⟩ := Int.eq_ofNat_of_zero_le (show 0 ≤ T.g by omega)
  obtain ⟨c0, c1, c2, c3, c4, c5, c6, c7⟩ := blk8w hatW.b
  have d0 := blk1 h1W
  have hkl := heap_lt hatW.b
  have hbl := heap_lt h1W
  have HW := Lib.hid (And.intro hatW (And.intro h1W (And.intro h2W hW)))
  have HJ0 := Lib.hid h0
  clear hat h1 h2 hatW h1W h2W hk hof hq1 hq2 hqw hW h0
  rw [hG] at c0
  have HG := Lib.hid hG
  clear hG
  go_upto_region 1 with (fail)
  obtain ⟨V, hV⟩ : ∃ V, V = W.alloc (spO T.f) := ⟨_, rfl⟩
  obtain ⟨nb, hnb⟩ : ∃ nb, nb = W.heap.size := ⟨_, rfl⟩
  rw [show W.alloc (Obj.cells #[Value.int .i64 T.f.lo, .int .i64 T.f.hi] 91) = V from hV.symm, ← hnb]
  have hbV : Below W.heap.size W V := by rw [hV]; exact bal0 W _
  have bN : V.heap[nb]? = some (spO T.f) := by rw [hV, hnb]; exact alloc_at rfl
  have hJV : J [] V := hE _ _ _ HJ0.out (ExX.of_below hWs hbV)
  have HV := Lib.hid (And.intro (HW.out.1.below hbV (Nat.le_refl _)) (And.intro (bheap HW.out.2.1 hbV (Nat.le_refl _)) (And.intro (HW.out.2.2.1.below hbV (Nat.le_refl _)) (And.intro bN hJV))))
  have hNw : w.heap.size ≤ nb := by omega
  have hqn : q < nb := by have := HA.out.2.2.2.2; omega
  clear c0 c1 c2 c3 c4 c5 c6 c7 d0 hkl hbl
  obtain ⟨c0, -⟩ := blk8w HV.out.1.b
  have d0 := blk1 HV.out.2.1
  rw [HG.out] at c0
  have hkl := heap_lt HV.out.1.b
  have hbl := heap_lt HV.out.2.1
  have hzV : W.heap.size ≤ V.heap.size := hbV.size
  have HN := Lib.hid (HW.out.1.off (Nat.le_of_eq hnb.symm))
  have hb1n : b1 < nb := by rw [hnb]; exact heap_lt HW.out.2.1
  have hb2n : b2 < nb := by rw [hnb]; exact HW.out.2.2.1.lt
  clear hV hnb hbV bN hJV
  go_wp2_with fail
  clear c0 d0 hkl hbl
  go_loopg [5, 16, 17, 18, 19, 20, 21, 22, 23, 24, 25, 26, 27, 28, 29, 30, 31, 32, 33, 34, 35, 36, 37] G (fun g _ v _ _ _ _ _ _ _ _ _ _ _ _ _ _ _ _ _ _ _ _ _ wr => ∃ j : Nat, j + g = G ∧ v = .int .i64 j ∧ J (T.walkL j) wr ∧ TyAt wr T p k M ∧ wr.heap[b1]? = some (ptrO k) ∧ SpB wr b2 146 (limL T.cs) ∧ wr.heap[nb]? = some (spO (T.ahead j)) ∧ W.heap.size ≤ wr.heap.size)
  case atStart => exact ⟨0, by omega, rfl, HV.out.2.2.2.2, HV.out.1, HV.out.2.1, HV.out.2.2.1, HV.out.2.2.2.1, hzV⟩
  case round =>
    obtain ⟨j, hj, rfl, hJj, hat, hb1, hb2, hbn, hzj⟩ := hrel
    have HR := Lib.hid (And.intro hj (And.intro hJj (And.intro hat (And.intro hb1 (And.intro hb2 hbn)))))
    by_cases hlt : j < G
    · clear hj hJj hat hb1 hb2 hbn
      have hwz : w.heap.size ≤ wr.heap.size := by omega
      go_upto_if 20 with (fail)
      go_cut [] from 19 to 26 (fun wx => ExX w.heap.size wr wx ∧ TyAt wx T p k M ∧ wx.heap[b1]? = some (ptrO k) ∧ SpB wx b2 146 (limL T.cs) ∧ wx.heap[nb]? = some (spO (T.come j)) ∧ W.heap.size ≤ wx.heap.size)
      case first =>
        rcases Nat.eq_zero_or_pos j with h0 | h0
        · subst h0
          have h0' : ¬ (0 : Int) < ((0 : Nat) : Int) := by omega
          go_wp2_with fail
          go_meet
          exact ⟨⟨Below.refl _ _, KeepsOthers.refl _⟩, HR.out.2.2.1, HR.out.2.2.2.1, HR.out.2.2.2.2.1, HR.out.2.2.2.2.2, hzj⟩
        · have h0' : (0 : Int) < (j : Int) := by omega
          obtain ⟨i, rfl⟩ : ∃ i, j = i + 1 := ⟨j - 1, by omega⟩
          clear h0
          go_upto_region 5 with (fail)
          obtain ⟨a, ha⟩ : ∃ a, a = T.now i := ⟨_, rfl⟩
          obtain ⟨s, hs⟩ : ∃ s, s = T.str i := ⟨_, rfl⟩
          obtain ⟨c, hc⟩ : ∃ c, c = a.add s := ⟨_, rfl⟩
          have hcc : T.come (i + 1) = c := by rw [hc, ha, hs]; rfl
          have hbd : (a.add s).bd 9223372036854775807 := by
            have h1 := now_bd HA.out.1 i
            have h2 := str_bd HA.out.1 i
            rw [← ha] at h1
            rw [← hs] at h2
            have h3 := HA.out.1.g.2
            have h4 := HG.out
            unfold Sp.bd Sp.add at *
            dsimp only
            omega
          have hg' : (i : Int) + 1 < T.g := by have := HG.out; omega
          have bn : wr.heap[nb]? = some (spO a) := by rw [ha]; exact HR.out.2.2.2.2.2
          have HS := Lib.hid (fun (w' : World) (h : Below wr.drew.heap.size wr.drew w') => show Calls Try.prog 76 #[.pointer (some ⟨k, 0, none⟩), .int .i64 ((i : Nat) : Int)] w' fun e w'' => e = .returned (.agg #[.int .i64 s.lo, .int .i64 s.hi]) ∧ Below w'.heap.size w' w'' from by
            rw [hs]
            have h3 := HR.out.2.2.1.below ((bdraw (Below.refl wr.heap.size wr)).trans h) (Nat.le_refl _)
            exact tstr_any T p k M i w' h3.b h3.i HA.out.1 hg')
          have HAD := Lib.hid (fun (w' : World) => show Calls Try.prog 75 #[.agg #[.int .i64 a.lo, .int .i64 a.hi], .agg #[.int .i64 s.lo, .int .i64 s.hi]] w' fun e w'' => e = .returned (.agg #[.int .i64 c.lo, .int .i64 c.hi]) ∧ Below w'.heap.size w' w'' from by
            rw [hc]; exact tadd_any a s w' hbd)
          have HD := Lib.hid (fun (w' : World) (h : Below wr.drew.heap.size wr.drew w') => show (w'.cell? ⟨nb, 0, none⟩ = some (.int .i64 a.lo) ∧ w'.cell? ⟨nb, 1, none⟩ = some (.int .i64 a.hi)) ∧ w'.cell? ⟨b1, 0, none⟩ = some (.pointer (some ⟨k, 0, none⟩)) ∧ nb < w'.heap.size ∧ b1 < w'.heap.size from by
            have h3 := (bdraw (Below.refl wr.heap.size wr)).trans h
            have h4 := bheap bn h3 (Nat.le_refl _)
            have h5 := bheap HR.out.2.2.2.1 h3 (Nat.le_refl _)
            exact ⟨blk2 h4, blk1 h5, heap_lt h4, heap_lt h5⟩)
          have HCC := Lib.hid (And.intro hcc bn)
          have hwr : IntKind.i64.wrap (((i + 1 : Nat) : Int) - 1) = (i : Int) := by rw [show ((i + 1 : Nat) : Int) - 1 = (i : Int) by omega]; exact IntWalk.i64_in _ (by omega)
          have hwr2 : IntKind.i64.wrap (((i : Nat) : Int) + 1 - 1) = (i : Int) := by rw [show ((i : Nat) : Int) + 1 - 1 = (i : Int) by omega]; exact IntWalk.i64_in _ (by omega)
          clear ha hs hc hcc hbd bn
          refine wp_region_tag 6 0 0 [] [] 0 (TYw) (PYw wr.drew) [0, 0, 0, 0, 0, 0] (by as_aux_lemma => kernel_rfl) (by as_aux_lemma => kernel_rfl) (by as_aux_lemma => kernel_rfl) (by as_aux_lemma => kernel_rfl) (by omega) (.inl rfl) rfl rfl (fun k i w1 w2 hc _ hT hp => PYw.st k i w1 w2 hT hp) (fun k => Below.refl _ _) ?_
          apply Exists.intro
          refine ⟨fun ys => ?_, fun ops K hK => ?_⟩
          · simp only [List.take_succ_cons, List.take_zero, dstsOf, List.filterMap_cons, List.filterMap_nil, putAll]
            go_simp
            rfl
          simp only [List.take_succ_cons, List.take_zero, List.drop_succ_cons, List.drop_zero] at hK ⊢
          iterate 4
            refine LexT.const TYw.rf ?_
            apply Exists.intro
            refine ⟨fun ys w' hp hpk hq hd => ?_, ?_⟩
            · try simp [DepsOf, depsGo, DF.holds, Region.binds, EqF] at hd
              try simp only [hd]
              obtain ⟨⟨a0, a1⟩, p0, l1, l2⟩ := HD.out w' hp
              clear hp hpk hq
              intro Q2 hQ2
              go_wp2_with fail
              rfl
            try simp only [List.nil_append, List.cons_append]
          refine LexT.some (FYv (.agg #[.int .i64 s.lo, .int .i64 s.hi])) (fun i v w1 w2 hc _ hT h => h) (fun ys w' hp hpk hq hd => ?_) ?_
          · try simp [DepsOf, depsGo, DF.holds, Region.binds, EqF] at hd
            try simp only [hd]
            (have hcl := HS.out w' hp; clear hp hpk hq hd)
            intro Q2 hQ2
            go_wp2_with fail
            (with_reducible refine (hcl).mono ?_)
            rintro e w4 ⟨rfl, hb4⟩
            have HX := Lib.hid (show TYw 0 w' w4 ∧ FYv (.agg #[.int .i64 s.lo, .int .i64 s.hi]) (.agg #[.int .i64 s.lo, .int .i64 s.hi]) w4 from ⟨hb4, rfl⟩)
            clear hb4
            go_wp2
            exact ⟨_, rfl, HX.out⟩
          try simp only [List.nil_append, List.cons_append]
          refine LexT.some (FYv (.agg #[.int .i64 c.lo, .int .i64 c.hi])) (fun i v w1 w2 hc _ hT h => h) (fun ys w' hp hpk hq hd => ?_) ?_
          · try simp [DepsOf, depsGo, DF.holds, Region.binds, EqF] at hd
            try simp only [hd]
            (obtain ⟨y2, y1⟩ := hd; have y1 : ys 25 = .agg #[.int .i64 s.lo, .int .i64 s.hi] := y1; simp only [y1, y2]; clear hp hpk hq y1 y2)
            intro Q2 hQ2
            go_wp2_with fail
            (with_reducible refine (HAD.out _).mono ?_)
            rintro e w4 ⟨rfl, hb4⟩
            have HX := Lib.hid (show TYw 0 w' w4 ∧ FYv (.agg #[.int .i64 c.lo, .int .i64 c.hi]) (.agg #[.int .i64 c.lo, .int .i64 c.hi]) w4 from ⟨hb4, rfl⟩)
            clear hb4
            go_wp2
            exact ⟨_, rfl, HX.out⟩
          try simp only [List.nil_append, List.cons_append]
          refine hK _ fun ys w' hp hF => ?_
          simp [AllF, DF.holds] at hF
          obtain ⟨-, -, -, -, -, f26⟩ := hF
          have f26 : ys 26 = .agg #[.int .i64 c.lo, .int .i64 c.hi] := f26
          simp only [f26]
          have hpB : Below wr.heap.size wr w' := (bdraw (Below.refl wr.heap.size wr)).trans hp
          have b4 := bheap HCC.out.2 hpB (Nat.le_refl _)
          have y0 := frz b4 0
          have y1 := frz b4 1
          obtain ⟨x0, x1⟩ := blk2 b4
          have hl4 := heap_lt b4
          have HX := Lib.hid (And.intro hpB b4)
          clear hK f26 hp hpB b4
          go_wp2
          go_meet
          have hof : OffT T p k nb := HN.out
          have h3 := HX.out.1.size
          refine ⟨((ExX.of_below hwz HX.out.1).tr (ExX.set hNw _)).tr (ExX.set hNw _), (((HR.out.2.2.1.below HX.out.1 (Nat.le_refl _)).kpx (KpX.set _ _) hof).kpx (KpX.set _ _) hof), ?_, ?_, ?_, by simp; omega⟩
          · exact (KpX.tr (KpX.set _ _) (KpX.set _ _)).blk (by omega) (bheap HR.out.2.2.2.1 HX.out.1 (Nat.le_refl _))
          · exact (KpX.tr (KpX.set _ _) (KpX.set _ _)).blk (by omega) (HR.out.2.2.2.2.1.below HX.out.1 (Nat.le_refl _))
          · rw [HCC.out.1]
            exact set_blk (set_blk HX.out.2)
      case rest =>
        obtain ⟨hE1, hat, hb1, hb2, hbn, hzc⟩ := hcut
        obtain ⟨wx, hwx⟩ : ∃ W : World, W = wc := ⟨_, rfl⟩
        rw [← hwx] at hE1 hat hb1 hb2 hbn hzc ⊢
        clear hwx
        have hj5 : j < 5 := by have := HG.out; omega
        obtain ⟨a, ha⟩ : ∃ a, a = T.come j := ⟨_, rfl⟩
        obtain ⟨s, hs⟩ : ∃ s, s = (limL T.cs).getD j sp0 := ⟨_, rfl⟩
        obtain ⟨c, hc⟩ : ∃ c, c = a.meet s := ⟨_, rfl⟩
        have hcc : T.now j = c := by rw [hc, ha, hs, now_come]; rfl
        rw [← ha] at hbn
        have HAD := Lib.hid (fun (w' : World) => show Calls Try.prog 74 #[.agg #[.int .i64 a.lo, .int .i64 a.hi], .agg #[.int .i64 s.lo, .int .i64 s.hi]] w' fun e w'' => e = .returned (.agg #[.int .i64 c.lo, .int .i64 c.hi]) ∧ Below w'.heap.size w' w'' from by
          rw [hc]; exact tmeet_any a s w')
        have hlm := hb2.get (show j < (limL T.cs).length by rw [limL_len]; exact hj5)
        rw [← hs] at hlm
        have hb2l := hb2.lt
        have HD := Lib.hid (fun (w' : World) (h : Below wx.drew.heap.size wx.drew w') => show (w'.cell? ⟨nb, 0, none⟩ = some (.int .i64 a.lo) ∧ w'.cell? ⟨nb, 1, none⟩ = some (.int .i64 a.hi)) ∧ (w'.cell? ⟨b2, j * 2, none⟩ = some (.int .i64 s.lo) ∧ w'.cell? ⟨b2, j * 2 + 1, none⟩ = some (.int .i64 s.hi)) ∧ nb < w'.heap.size ∧ b2 < w'.heap.size from by
          have h3 := (bdraw (Below.refl wx.heap.size wx)).trans h
          have h4 := bheap hbn h3 (Nat.le_refl _)
          exact ⟨blk2 h4, ⟨bcell hlm.1 h3 (Nat.le_refl _), bcell hlm.2 h3 (Nat.le_refl _)⟩, heap_lt h4, Nat.lt_of_lt_of_le hb2l h3.size⟩)
        have HCC := Lib.hid (And.intro hcc (And.intro hbn (And.intro hE1 (And.intro hat (And.intro hb1 hb2)))))
        have i0 : (0 : Int) ≤ (j : Int) := by omega
        have i5 : (j : Int) < 5 := by omega
        clear ha hs hc hcc hbn hlm hE1 hat hb1 hb2 hb2l hwz
        go_upto_region 6 with (fail)
        refine wp_region_tag 5 0 0 [] [] 0 (TYw) (PYw wx.drew) [0, 0, 0, 0, 0] (by as_aux_lemma => kernel_rfl) (by as_aux_lemma => kernel_rfl) (by as_aux_lemma => kernel_rfl) (by as_aux_lemma => kernel_rfl) (by omega) (.inl rfl) rfl rfl (fun k i w1 w2 hc _ hT hp => PYw.st k i w1 w2 hT hp) (fun k => Below.refl _ _) ?_
        apply Exists.intro
        refine ⟨fun ys => ?_, fun ops K hK => ?_⟩
        · simp only [List.take_succ_cons, List.take_zero, dstsOf, List.filterMap_cons, List.filterMap_nil, putAll]
          go_simp
          rfl
        simp only [List.take_succ_cons, List.take_zero, List.drop_succ_cons, List.drop_zero] at hK ⊢
        iterate 4
          refine LexT.const TYw.rf ?_
          apply Exists.intro
          refine ⟨fun ys w' hp hpk hq hd => ?_, ?_⟩
          · try simp [DepsOf, depsGo, DF.holds, Region.binds, EqF] at hd
            try simp only [hd]
            obtain ⟨⟨a0, a1⟩, ⟨q0, q1⟩, l1, l2⟩ := HD.out w' hp
            clear hp hpk hq
            intro Q2 hQ2
            go_wp2_with fail
            rfl
          try simp only [List.nil_append, List.cons_append]
        refine LexT.some (FYv (.agg #[.int .i64 c.lo, .int .i64 c.hi])) (fun i v w1 w2 hc _ hT h => h) (fun ys w' hp hpk hq hd => ?_) ?_
        · try simp [DepsOf, depsGo, DF.holds, Region.binds, EqF] at hd
          try simp only [hd]
          (clear hp hpk hq hd)
          intro Q2 hQ2
          go_wp2_with fail
          (with_reducible refine (HAD.out _).mono ?_)
          rintro e w4 ⟨rfl, hb4⟩
          have HX := Lib.hid (show TYw 0 w' w4 ∧ FYv (.agg #[.int .i64 c.lo, .int .i64 c.hi]) (.agg #[.int .i64 c.lo, .int .i64 c.hi]) w4 from ⟨hb4, rfl⟩)
          clear hb4
          go_wp2
          exact ⟨_, rfl, HX.out⟩
        try simp only [List.nil_append, List.cons_append]
        refine hK _ fun ys w' hp hF => ?_
        simp [AllF, DF.holds] at hF
        obtain ⟨-, -, -, -, f26⟩ := hF
        have f26 : ys 31 = .agg #[.int .i64 c.lo, .int .i64 c.hi] := f26
        simp only [f26]
        have hpB : Below wx.heap.size wx w' := (bdraw (Below.refl wx.heap.size wx)).trans hp
        have b4 := bheap HCC.out.2.1 hpB (Nat.le_refl _)
        have y0 := frz b4 0
        have y1 := frz b4 1
        obtain ⟨x0, x1⟩ := blk2 b4
        have hl4 := heap_lt b4
        have HX := Lib.hid (And.intro hpB b4)
        clear hK f26 hp hpB b4
        go_upto_region 7 with (fail)
        obtain ⟨Z, hZ⟩ : ∃ Z, Z = (w'.setCell ⟨nb, 0, none⟩ (.int .i64 c.lo)).setCell ⟨nb, 1, none⟩ (.int .i64 c.hi) := ⟨_, rfl⟩
        rw [← hZ]
        have hof : OffT T p k nb := HN.out
        have h3 := HX.out.1.size
        have hkz : KpX nb w' Z := by rw [hZ]; exact KpX.tr (KpX.set _ _) (KpX.set _ _)
        have hwx0 : w.heap.size ≤ wx.heap.size := by omega
        have hEZ : ExX w.heap.size wx Z := by rw [hZ]; exact ((ExX.of_below hwx0 HX.out.1).tr (ExX.set hNw _)).tr (ExX.set hNw _)
        have zN : Z.heap[nb]? = some (spO c) := by rw [hZ]; exact set_blk (set_blk HX.out.2)
        have zat : TyAt Z T p k M := (HCC.out.2.2.2.1.below HX.out.1 (Nat.le_refl _)).kpx hkz hof
        have z1 : Z.heap[b1]? = some (ptrO k) := hkz.blk (by omega) (bheap HCC.out.2.2.2.2.1 HX.out.1 (Nat.le_refl _))
        have z2 : SpB Z b2 146 (limL T.cs) := hkz.blk (by omega) (HCC.out.2.2.2.2.2.below HX.out.1 (Nat.le_refl _))
        have hzz : W.heap.size ≤ Z.heap.size := by rw [hZ]; simp; omega
        have hJZ : J (T.walkL j) Z := hE _ _ _ HR.out.2.1 (HCC.out.2.2.1.tr hEZ)
        have hpre : T.walkL j ++ [((j : Int), T.now j)] <+: T.walkL T.g.toNat := by rw [← walkL_succ]; exact walkL_pre T (by have := HG.out; omega)
        obtain ⟨fn, tmps, assign, body, hy, hR⟩ := hY _ ((j : Int), T.now j) Z hJZ hpre
        dsimp only [encN, spV] at hy
        rw [HCC.out.1] at hy
        obtain ⟨u0, u1⟩ := blk2 zN
        have hlz := heap_lt zN
        have HZ := Lib.hid (And.intro zN (And.intro zat (And.intro z1 (And.intro z2 (And.intro hzz hpre)))))
        clear hY hJZ hZ hof h3 hkz hwx0 hEZ zN zat z1 z2 hzz x0 x1 y0 y1 hl4 hpre
        refine (wpIn_wide (n := n)).1 ?_
        gi_wp2
        refine hR.mono ?_
        rintro e W3 (⟨rfl, hJ3, hk3⟩ | ⟨rfl, hJx3⟩)
        · have HJ3 := Lib.hid hJ3
          clear hJ3
          gi_wp2
          go_wp2
          go_roundg (gk - 1)
          case measure => have := HR.out.1; omega
          case rel =>
            refine ⟨j + 1, by have := HR.out.1; omega, by go_num, by rw [walkL_succ]; exact HJ3.out, HZ.out.2.1.kpx hk3 HA.out.2.1, hk3.blk HA.out.2.2.1 HZ.out.2.2.1, hk3.blk HA.out.2.2.2.1 HZ.out.2.2.2.1, ?_, Nat.le_trans HZ.out.2.2.2.2.1 hk3.1⟩
            show W3.heap[nb]? = some (spO (T.now j))
            rw [HCC.out.1]
            exact hk3.blk (by omega) HZ.out.1
        · have HJX := Lib.hid hJx3
          clear hJx3
          gi_wp2
          go_wp2
          refine bodyPost_ret (results_none rfl _ _ _) rfl ?_
          exact ⟨⟨_, rfl⟩, .inr ⟨_, HZ.out.2.2.2.2.2, HJX.out⟩⟩
    · obtain rfl : j = G := by omega
      clear hJj hat hb1 hb2 hbn
      go_wp2
      go_end0
      exact ⟨⟨_, rfl⟩, .inl ⟨_, rfl, by have h := HR.out.2.1; rwa [show T.g.toNat = j by have := HG.out; omega]⟩⟩
end Go.Proofs.Ytgnjknihgjdedaa
namespace Go.Proofs.Ytgnjknihgjdedaa
open Go.RowKit Go.MapKept Go.ChangeMaps
set_option linter.unusedVariables false
set_option linter.unusedSimpArgs false

theorem laidOutL : laidOutB Try.prog = true := by kernel_rfl
theorem limRow : (146 : TypeId) < Try.prog.types.size := of_decide_eq_true (by kernel_rfl)
theorem limWide : (match Try.prog.underlying 146 with | some (.array _ _) | some (.struct _) => true | _ => false) = true := by rw [Try.underlying146]
set_option maxRecDepth 100000 in
theorem limLaw : WideMaps.KeyLaw Try.prog 146 := deep_law_laid laidOutL (m := 3) (by omega) limRow (by kernel_rfl) limWide
theorem limKeyed : Maps.Keyed Try.prog 146 := Maps.Keyed.of_law limLaw
theorem cells_spn : Try.prog.cellsOf 91 = 2 := by kernel_rfl
theorem cells_lim : Try.prog.cellsOf 146 = 10 := by kernel_rfl
theorem cells_itL : Try.prog.cellsOf 3 = 1 := by kernel_rfl
theorem lits_itL (d : Nat) (x : Int) (hx : -9223372036854775808 ≤ x ∧ x ≤ 9223372036854775807) : Try.prog.keyLits (d + 1) 3 [.int .i64 x] = some [.int .i64 x] := by
  unfold Program.keyLits
  rw [Try.underlying3]
  simp [WalkArith.wf_i64 hx]
theorem lits_spn (d : Nat) {a b : Int} (ha : -9223372036854775808 ≤ a ∧ a ≤ 9223372036854775807) (hb : -9223372036854775808 ≤ b ∧ b ≤ 9223372036854775807) :
    Try.prog.keyLits (d + 2) 91 [.int .i64 a, .int .i64 b] = some [.int .i64 a, .int .i64 b] := by
  have h0 := lits_itL d a ha
  have h1 := lits_itL d b hb
  unfold Program.keyLits
  rw [Try.underlying91]
  simp [cells_spn, cells_itL, h0, h1]
set_option maxRecDepth 100000 in
theorem lim_keyType : Try.prog.keyType 146 = true := by kernel_rfl
set_option maxRecDepth 100000 in
theorem keyL {l : List Sp} (hl : l.length = 5) (hb : LimBd l) : ∃ k, keyOf Try.prog 146 (.agg (lcs l)) = some k := by
  obtain ⟨s0, s1, s2, s3, s4, rfl⟩ := list5s hl
  have hw : ∀ s ∈ [s0, s1, s2, s3, s4], (-9223372036854775808 ≤ s.lo ∧ s.lo ≤ 9223372036854775807) ∧ (-9223372036854775808 ≤ s.hi ∧ s.hi ≤ 9223372036854775807) := fun s hs => by
    have := (hb s hs).1
    unfold Sp.bd at this
    omega
  simp only [List.mem_cons, List.not_mem_nil, or_false, forall_eq_or_imp, forall_eq] at hw
  obtain ⟨⟨h0, h1⟩, ⟨h2, h3⟩, ⟨h4, h5⟩, ⟨h6, h7⟩, h8, h9⟩ := hw
  obtain ⟨d', hd⟩ : ∃ d', Try.prog.types.size + 1 = d' + 3 := ⟨Try.prog.types.size - 2, by have : 2 ≤ Try.prog.types.size := of_decide_eq_true (by kernel_rfl); omega⟩
  have r0 := lits_spn d' h0 h1
  have r1 := lits_spn d' h2 h3
  have r2 := lits_spn d' h4 h5
  have r3 := lits_spn d' h6 h7
  have r4 := lits_spn d' h8 h9
  have hr : List.range 5 = [0, 1, 2, 3, 4] := rfl
  have hu := Try.underlying146
  have hform : (Value.agg (lcs [s0, s1, s2, s3, s4])).formed Try.prog 146 = true := by simp [Value.formed, hu, cells_lim, lcs, eSp]
  have hk : ∃ L, Try.prog.keyLits (d' + 3) 146 (Value.agg (lcs [s0, s1, s2, s3, s4])).cells.toList = some L := by
    unfold Program.keyLits
    rw [hu]
    simp [cells_lim, cells_spn, hr, lcs, eSp, Value.cells, r0, r1, r2, r3, r4]
  obtain ⟨L, hk⟩ := hk
  exact ⟨_, by unfold keyOf; rw [hu, lim_keyType, hform, hd, hk]; rfl⟩
theorem run_lookL {l : List Sp} (hl : l.length = 5) (hb : LimBd l) {w : World} {M cl : Nat} (h0 : w.heap[M]? = some (.map #[] cl)) :
    (Instr.lookup 139 (.map (some M)) (.agg (lcs l)) true).run Try.prog w = .ok (.tuple #[.bool false, .bool false]) w := by
  obtain ⟨es, he, h⟩ : ∃ es : Array MapEntry, es = #[] ∧ w.heap[M]? = some (.map es cl) := ⟨_, rfl, h0⟩
  clear h0
  obtain ⟨k, hk⟩ := keyL hl hb
  have hu := run_underlying (P := Try.prog) (w := w) Try.underlying139
  have hz : (zeroValue 4).run Try.prog w = .ok (.bool false) w := by kernel_rfl
  have hg : (getObj M).run Try.prog w = .ok (.map es cl) w := by simp [getObj, Sem.run, h]
  have hck := fun em => limKeyed.check w em hk
  rcases limKeyed.find w hk es.toList (fun e he' => by rw [he] at he'; cases he') with ⟨hr, hno⟩ | ⟨j, e, hr, hj, hke⟩
  · simp [Instr.lookup, hu, hg, hck, hr, hz]
  · rw [he] at hj; cases hj
theorem run_putL {l : List Sp} (hl : l.length = 5) (hb : LimBd l) (v : Bool) {w : World} {M cl : Nat} (h0 : w.heap[M]? = some (.map #[] cl)) :
    ∃ ob, (Instr.mapUpdate 139 (.map (some M)) (.agg (lcs l)) (.bool v)).run Try.prog w = .ok () { w with heap := w.heap.setIfInBounds M ob } := by
  obtain ⟨es, he, h⟩ : ∃ es : Array MapEntry, es = #[] ∧ w.heap[M]? = some (.map es cl) := ⟨_, rfl, h0⟩
  clear h0
  obtain ⟨k, hk⟩ := keyL hl hb
  have hu := run_underlying (P := Try.prog) (w := w) Try.underlying139
  have hg : (getObj M).run Try.prog w = .ok (.map es cl) w := by simp [getObj, Sem.run, h]
  have hs : ∀ o, (setObj M o).run Try.prog w = .ok () { w with heap := w.heap.setIfInBounds M o } := fun o => by simp [setObj, Sem.run, h]
  have hck := fun em => limKeyed.check w em hk
  have hks := limKeyed.stays w hk
  rcases limKeyed.find w hk es.toList (fun e he' => by rw [he] at he'; cases he') with ⟨hr, hno⟩ | ⟨j, e, hr, hj, hke⟩
  · refine ⟨.map (es.push { key := .agg (lcs l), val := .bool v, born := cl }) (cl + 1), ?_⟩
    simp [Instr.mapUpdate, hu, hg, hck, hr, hs]
  · rw [he] at hj; cases hj
end Go.Proofs.Ytgnjknihgjdedaa
