/- HerdConserved 36: Gone, ConL. -/
import Derived.Test.YtmennjmjakdkcaaCn35
import Derived.Test.YtmennjmjakdkcaaCn05
import Derived.Test.YtmennjmjakdkcaaCn04
import Derived.Test.YtmennjmjakdkcaaCn02
namespace Go.Proofs.Ytmennjmjakdkcaa
open Go.RowKit Go.MapKept
set_option linter.unusedVariables false
set_option linter.unusedSimpArgs false

/-- worlds of a region that only makes memory -/
def TBl (n : Nat) (w w' : World) : Prop := Below w.heap.size w w'
theorem TBl.tr : ∀ n a b c, TBl n a b → TBl 1 b c → TBl (n + 1) a c := fun n a b c h k => Below.trans h (Below.mono k (Below.size h))
theorem TBl.rf : ∀ w, TBl 1 w w := fun w => Below.refl _ _
theorem TBl.draw (w : World) : TBl 0 w { w with drawn := w.drawn + 1 } := bdraw (Below.refl _ _)
set_option maxRecDepth 100000 in
set_option maxHeartbeats 1000000 in
theorem goneF_any (x : List Int) (all : Int) (o q1 q2 : Nat) (W : World) (hx : HBd 1000 x) (ho : o < 5) (ha : -100000 ≤ all ∧ all ≤ 100000) (h1 : W.heap[q1]? = some (Obj.cells #[.int .i64 all] 3 (0, 0))) (h2 : W.heap[q2]? = some (Obj.cells #[.int .i64 (o : Int)] 3 (0, 0))) :
    Calls Try.prog 88 (#[.agg (hcs x)] ++ #[.pointer (some ⟨q1, 0, none⟩), .pointer (some ⟨q2, 0, none⟩)]) W fun e W' => e = .returned (.int .i64 (all - howned x o)) ∧ Below W.heap.size W W' := by
  have hl := hx.1
  obtain ⟨V, hV⟩ : ∃ V, V = W.alloc (Obj.cells (hcs x) 137) := ⟨_, rfl⟩
  obtain ⟨g, hg⟩ : ∃ g, g = W.heap.size := ⟨_, rfl⟩
  have b0 : V.heap[g]? = some (hObj x) := by rw [hV, hg]; exact alloc_at rfl
  have b1 : V.heap[q1]? = some (Obj.cells #[.int .i64 all] 3 (0, 0)) := by rw [hV]; exact hblk_alloc h1 _
  have b2 : V.heap[q2]? = some (Obj.cells #[.int .i64 (o : Int)] 3 (0, 0)) := by rw [hV]; exact hblk_alloc h2 _
  have hBV : Below W.heap.size W V := by rw [hV]; exact bal0 W _
  have HV := Lib.hid (And.intro hBV hx)
  obtain ⟨ow, how⟩ : ∃ ow, ow = howned x o := ⟨_, rfl⟩
  have hob : 0 ≤ ow ∧ ow ≤ 3000 := by
    have a0 := hx.get (show 0 < 3 by decide) ho
    have a1 := hx.get (show 1 < 3 by decide) ho
    have a2 := hx.get (show 2 < 3 by decide) ho
    rw [how]; unfold howned; omega
  rw [← how]
  have HO := Lib.hid how
  simp only [List.append_toArray, List.cons_append, List.nil_append]
  clear h1 h2 hBV hx how
  go_enter Try.func88, Try.ntmps88
  go_upto_region 1 with (fail)
  rw [← hV, ← hg]
  clear hV hg
  have HB := Lib.hid (And.intro b0 (And.intro b1 b2))
  have HC : Hid (∀ k w', TBl k V w' → w'.cell? ⟨q1, 0, none⟩ = some (.int .i64 all) ∧ w'.cell? ⟨q2, 0, none⟩ = some (.int .i64 (o : Int)) ∧ w'.heap[g]? = some (hObj x)) :=
    Lib.hid fun k w' h => ⟨blk1 (bheap HB.out.2.1 h (Nat.le_refl _)), blk1 (bheap HB.out.2.2 h (Nat.le_refl _)), bheap HB.out.1 h (Nat.le_refl _)⟩
  clear b0 b1 b2
  refine wp_region_inv (TBl) (by kernel_rfl) (by kernel_rfl) TBl.tr (TBl.draw _) ?_
  apply Exists.intro
  refine ⟨fun ys => ?_, fun ops K hK => ?_⟩
  · simp only [dstsOf, List.filterMap_cons, List.filterMap_nil, putAll]
    go_simp
    rfl
  refine LexI.const TBl.rf ?_
  refine ⟨.int .i64 all, fun n' ys w' hn' hT hd => ?_, ?_⟩
  · try simp [DepsOf, depsGo, DF.holds, Region.binds, EqF] at hd
    try simp only [hd]
    obtain ⟨y0, y1, -⟩ := HC.out n' w' hT
    intro Q2 hQ2
    go_wp2_with fail
    try rfl
  try simp only [List.nil_append, List.cons_append]
  refine LexI.some (EqF (.agg (hcs x))) (EqF.st) (fun n' ys w' hn' hT hd => ?_) ?_
  · try simp [DepsOf, depsGo, DF.holds, Region.binds, EqF] at hd
    try simp only [hd]
    obtain ⟨-, -, bh⟩ := HC.out n' w' hT
    intro Q2 hQ2
    go_wp2_with ((with_reducible apply wp_loadH bh hl); (rfl); (rfl); (rfl))
    exact ⟨TBl.rf _, rfl⟩
  try simp only [List.nil_append, List.cons_append]
  refine LexI.const TBl.rf ?_
  refine ⟨.int .i64 o, fun n' ys w' hn' hT hd => ?_, ?_⟩
  · try simp [DepsOf, depsGo, DF.holds, Region.binds, EqF] at hd
    try simp only [hd]
    obtain ⟨y0, y1, -⟩ := HC.out n' w' hT
    intro Q2 hQ2
    go_wp2_with fail
    try rfl
  try simp only [List.nil_append, List.cons_append]
  refine LexI.some (EqF (.int .i64 ow)) (EqF.st) (fun n' ys w' hn' hT hd => ?_) ?_
  · try simp [DepsOf, depsGo, DF.holds, Region.binds, EqF] at hd
    try simp only [hd]
    intro Q2 hQ2
    go_wp2_with fail
    refine (owned_any x o w' HV.out.2 ho).mono ?_
    rintro e wU ⟨rfl, hb⟩
    rw [← HO.out]
    go_wp2
    exact ⟨_, rfl, hb, rfl⟩
  try simp only [List.nil_append, List.cons_append]
  refine LexI.some (EqF (.int .i64 (all - ow))) (EqF.st) (fun n' ys w' hn' hT hd => ?_) ?_
  · try simp [DepsOf, depsGo, DF.holds, Region.binds, EqF] at hd
    try simp only [hd]
    intro Q2 hQ2
    go_wp2_with fail
    exact ⟨TBl.rf _, rfl⟩
  try simp only [List.nil_append, List.cons_append]
  refine LexI.some (EqF (.int .i64 (all - ow))) (EqF.st) (fun n' ys w' hn' hT hd => ?_) ?_
  · try simp [DepsOf, depsGo, DF.holds, Region.binds, EqF] at hd
    try simp only [hd]
    intro Q2 hQ2
    go_wp2_with fail
    exact ⟨TBl.rf _, rfl⟩
  try simp only [List.nil_append, List.cons_append]
  refine hK _ (fun n' ys wc hn' hT hF => ?_)
  simp only [AllF, DF.holds] at hF
  obtain ⟨-, -, -, -, -, h4, -⟩ := hF
  unfold EqF at h4
  rw [h4]
  have HT := Lib.hid hT
  clear hT h4
  go_wp2
  go_ret
  exact ⟨rfl, HV.out.1.trans (Below.mono HT.out HV.out.1.size)⟩

def goneE (b : Hb) (o : Int) : Int := if sumE b o ≠ 0 then sumE b o else if b.ends (-1) 0 = [] then 11 else 0
def goneR (b : Hb) (o : Int) : Rn := if goneE b o = 0 then rangeE (b.ends (-1) 0) (fun h => hasS (sumS b.hs o.toNat b.ds) - howned h o.toNat) else ⟨0, 0⟩
def GoneR (b : Hb) (o : Int) (w : World) (e : Ending) (w' : World) : Prop := e = .returned (.tuple #[.agg #[.int .i64 (goneR b o).lo, .int .i64 (goneR b o).hi], .int .i64 (goneE b o)]) ∧ Below w.heap.size w w'
theorem gone_end {b : Hb} {o e : Int} {r : Rn} {w w' : World} (he : goneE b o = e) (hr : goneR b o = r) (hb : Below w.heap.size w w') : GoneR b o w (.returned (.tuple #[.agg #[.int .i64 r.lo, .int .i64 r.hi], .int .i64 e])) w' := by
  subst he hr; exact ⟨rfl, hb⟩
set_option maxRecDepth 100000 in
set_option maxHeartbeats 2000000 in
theorem Gone_any (b : Hb) (o : Int) (w : World) (hin : HbIn w b) : Calls Try.prog 42 #[b.v, .int .i64 o] w (GoneR b o w) := by
  obtain ⟨g, hg⟩ : ∃ g, g = w.heap.size := ⟨_, rfl⟩
  obtain ⟨V, hV⟩ : ∃ V, V = ((w.alloc b.obj).alloc (Obj.cells #[Value.int .i64 o] 3)).alloc (Obj.cells #[.int .i64 0, .int .i64 0] 64) := ⟨_, rfl⟩
  have b0 : V.heap[g]? = some b.obj := by rw [hV, hg]; exact hblk_alloc (hblk_alloc (alloc_at rfl) _) _
  have b1 : V.heap[g + 1]? = some (Obj.cells #[Value.int .i64 o] 3 (0, 0)) := by rw [hV, hg]; exact hblk_alloc (alloc_at (by simp)) _
  have b2 : V.heap[g + 1 + 1]? = some (Obj.cells #[.int .i64 0, .int .i64 0] 64 (0, 0)) := by rw [hV, hg]; exact alloc_at (by simp)
  have hBV : Below w.heap.size w V := by rw [hV]; exact bal (bal (bal0 w _) (Nat.le_refl _) _) (Nat.le_refl _) _
  have hiV := hin.below hBV (Nat.le_refl _)
  obtain ⟨c0, c1, c2, c3, c4⟩ := blk5c b0
  have p0 := blk1 b1
  have hsm := Sum_any b o V hiV
  unfold Hb.v at hsm
  have HV := Lib.hid (And.intro hBV (And.intro b0 (And.intro b1 (And.intro b2 (And.intro hiV hg)))))
  unfold Hb.v
  go_enter Try.func42, Try.ntmps42
  go_upto_region 1 with (fail)
  rw [← hV, ← hg]
  clear hV hg hin hBV hiV b0 b1 b2
  obtain ⟨se, hse⟩ : ∃ se, se = sumE b o := ⟨_, rfl⟩
  obtain ⟨sv, hsv⟩ : ∃ sv, sv = sumR b o := ⟨_, rfl⟩
  unfold SumR at hsm
  rw [← hse, ← hsv] at hsm
  have HS := Lib.hid (And.intro hse hsv)
  clear hse hsv
  go_upto_region 2 with (go_at_call 43; refine hsm.mono ?_; rintro e w2 ⟨rfl, hb2⟩; unfold smV)
  obtain ⟨S, hS⟩ : ∃ S, S = w2.heap.size := ⟨_, rfl⟩
  obtain ⟨U, hU⟩ : ∃ U, U = w2.alloc (Obj.cells #[Value.int .i64 sv.first, .int .i64 sv.born, .int .i64 sv.bought, .int .i64 sv.sold, .int .i64 sv.eaten] 86) := ⟨_, rfl⟩
  rw [← hU, ← hS]
  have hbU : Below V.heap.size V U := by rw [hU]; exact bal hb2 (Nat.le_refl _) _
  have bS : U.heap[S]? = some (smO sv.first sv.born sv.bought sv.sold sv.eaten) := by rw [hU, hS]; exact alloc_at rfl
  have hVS : V.heap.size ≤ S := by rw [hS]; exact hb2.size
  have b0 := bheap HV.out.2.1 hbU (Nat.le_refl _)
  have b1 := bheap HV.out.2.2.1 hbU (Nat.le_refl _)
  have b2 := bheap HV.out.2.2.2.1 hbU (Nat.le_refl _)
  have HU := Lib.hid (And.intro hbU (And.intro bS (And.intro hVS (And.intro b0 (And.intro b1 b2)))))
  clear c0 c1 c2 c3 c4 p0 hsm hb2 hU hS hbU bS hVS
  obtain ⟨c0, c1, c2, c3, c4⟩ := blk5c b0
  obtain ⟨s0, s1, s2, s3, s4⟩ := blk5c HU.out.2.1
  obtain ⟨r0, r1⟩ := blk2 b2
  obtain ⟨fr0, fr1⟩ := And.intro (frz b2 0) (frz b2 1)
  have hl2 := heap_lt b2
  have hzz := HU.out.1.size
  clear b0 b1 b2
  by_cases h0 : se = 0
  · subst h0
    have h0 : b.chk = 0 ∧ ownB b.l.length o = true := by
      have h := HS.out.1
      unfold sumE at h
      split at h
      · rename_i hc; exact absurd h.symm hc
      · rename_i hc
        split at h
        · cases h
        · rename_i hc2; exact ⟨Classical.not_not.1 hc, by simpa using hc2⟩
    have hok := checkH_ok h0.1
    obtain ⟨ho0, ho1⟩ := ownB_iff.1 h0.2
    obtain ⟨k, rfl⟩ := Int.eq_ofNat_of_zero_le ho0
    have hk5 : k < 5 := by have := hok.n5; omega
    have hsv : sv = sumS b.hs k b.ds := by rw [HS.out.2]; unfold sumR; rw [← HS.out.1, if_pos rfl]; rfl
    have hfb : HBd 20 (firstH b.hs) := firstH_bd hok.rb
    have hsb := sumS_bd (hs := b.hs) (o := k) (ds := b.ds) (by
      have a0 := hfb.get (show 0 < 3 by decide) hk5
      have a1 := hfb.get (show 1 < 3 by decide) hk5
      have a2 := hfb.get (show 2 < 3 by decide) hk5
      unfold howned; omega) (fun d hd => by have := (hok.dI d hd).m; omega) b.ds.length (Nat.le_refl _)
    rw [List.take_length, ← hsv] at hsb
    have hd6 := hok.d6
    obtain ⟨x1, x2, x3, x4, x5⟩ := sv
    obtain ⟨⟨l1, u1⟩, ⟨l2, u2⟩, ⟨l3, u3⟩, ⟨l4, u4⟩, l5, u5⟩ := hsb
    dsimp only at l1 u1 l2 u2 l3 u3 l4 u4 l5 u5 s0 s1 s2 s3 s4
    have hB : (3000 : Int) + 300 * (b.ds.length : Int) ≤ 4800 := by omega
    have v1 := Int.le_trans u1 hB
    have v2 := Int.le_trans u2 hB
    have v3 := Int.le_trans u3 hB
    have v4 := Int.le_trans u4 hB
    have v5 := Int.le_trans u5 hB
    have H0 := Lib.hid (And.intro h0.1 (And.intro hsv hok))
    have hent : ∀ (args : Array Value) (w : World), (callFunc 88 args).run Try.prog w = .ok (.enter 88 args) w := enters_of Try.func88 (by kernel_rfl) rfl
    have HENT := Lib.hid hent
    clear h0 hok ho0 ho1 hsv hfb hd6 u1 u2 u3 u4 u5 hB hent
    go_upto_region 5 with (fail)
    obtain ⟨all, hall'⟩ : ∃ a, a = x1 + x2 + x3 - x4 - x5 := ⟨_, rfl⟩
    have hab : -100000 ≤ all ∧ all ≤ 100000 := by omega
    rw [← hall']
    obtain ⟨q, hq⟩ : ∃ q, q = U.heap.size := ⟨_, rfl⟩
    obtain ⟨T, hT⟩ : ∃ T, T = U.alloc (Obj.cells #[Value.int .i64 all] 3) := ⟨_, rfl⟩
    rw [← hT, ← hq]
    have hbT : Below V.heap.size V T := by rw [hT]; exact bal HU.out.1 (Nat.le_refl _) _
    have bq : T.heap[q]? = some (Obj.cells #[Value.int .i64 all] 3 (0, 0)) := by rw [hT, hq]; exact alloc_at rfl
    have b0 := bheap HV.out.2.1 hbT (Nat.le_refl _)
    have b1 := bheap HV.out.2.2.1 hbT (Nat.le_refl _)
    have b2 := bheap HV.out.2.2.2.1 hbT (Nat.le_refl _)
    have hVq : V.heap.size ≤ q := by rw [hq]; exact HU.out.1.size
    have hiT := HV.out.2.2.2.2.1.below hbT (Nat.le_refl _)
    have HT := Lib.hid (And.intro hbT (And.intro bq (And.intro b1 (And.intro b2 (And.intro hiT (And.intro hall' hVq))))))
    have hbg := begin_any b T
    unfold Hb.v at hbg
    clear hT hq hbT bq b1 b2 hVq hiT hall' s0 s1 s2 s3 s4 c0 c1 c2 c3 c4 r0 r1 fr0 fr1 hl2
    obtain ⟨c0, c1, c2, c3, c4⟩ := blk5c b0
    clear b0
    obtain ⟨bE, hbE⟩ : ∃ bE, bE = !decide (b.ends (-1) 0 = []) := ⟨_, rfl⟩
    have HBE := Lib.hid hbE
    clear hbE
    go_upto_if 43 with (first
      | (go_at_call 85; refine hbg.mono ?_; rintro e w3 ⟨p, rfl, hp, hpb, hb3⟩; have hWk : Work T p b (-1) 0 w3 := ⟨HT.out.2.2.2.2.1, hp, hb3, ⟨_, hpb⟩, H0.out.1⟩; have bq3 := bheap HT.out.2.1 hb3 (Nat.le_refl _); have bo3 := bheap HT.out.2.2.1 hb3 (Nat.le_refl _); have hqp := heap_lt HT.out.2.1; have hop := heap_lt HT.out.2.2.1; have H3 := Lib.hid (And.intro hWk (And.intro bq3 (And.intro bo3 hb3))); clear hpb hb3 hWk bq3 bo3)
      | (go_at_call 87; refine (span_any T p b (-1) 0 w3 H3.out.1 88 #[.pointer (some ⟨q, 0, none⟩), .pointer (some ⟨g + 1, 0, none⟩)] (fun h => all - howned h k) HENT.out (fun x hx W hN => goneF_any x all k q (g + 1) W (hb_of H0.out.2.2 x hx) hk5 hab (hN.blk H3.out.2.1 (by omega)) (hN.blk H3.out.2.2.1 (by omega)))).mono ?_; rintro e w4 ⟨rfl, hN4⟩; rw [← HBE.out]))
    obtain ⟨rg, hrg⟩ : ∃ rg, rg = rangeE (b.ends (-1) 0) (fun h => all - howned h k) := ⟨_, rfl⟩
    rw [← hrg]
    obtain ⟨Y, hY⟩ : ∃ Y, Y = w4.alloc (Obj.cells #[Value.int .i64 rg.lo, .int .i64 rg.hi] 64) := ⟨_, rfl⟩
    obtain ⟨y, hy⟩ : ∃ y, y = w4.heap.size := ⟨_, rfl⟩
    rw [← hY, ← hy]
    have bY : Y.heap[y]? = some (Obj.cells #[Value.int .i64 rg.lo, .int .i64 rg.hi] 64 (0, 0)) := by rw [hY, hy]; exact alloc_at rfl
    have hg2 : g + 1 + 1 < T.heap.size := heap_lt HT.out.2.2.2.1
    have b2Y : Y.heap[g + 1 + 1]? = some (Obj.cells #[.int .i64 0, .int .i64 0] 64 (0, 0)) := by rw [hY]; exact hblk_alloc (hN4.blk (bheap HT.out.2.2.2.1 H3.out.2.2.2 (Nat.le_refl _)) (by omega)) _
    have hBY : Below w.heap.size w Y := by
      have h1 := HV.out.1
      have h2 := HT.out.1
      have h3 := H3.out.2.2.2
      have h4 : Below T.heap.size w3 w4 := hN4.less hp h3.size
      have h5 : Below w4.heap.size w4 Y := by rw [hY]; exact bal0 w4 _
      have s1 := h1.size; have s2 := h2.size; have s3 := h3.size; have s4 := h4.size
      exact (h1.trans (h2.mono s1)).trans (((h3.mono (by omega)).trans (h4.mono (by omega))).trans (h5.mono (by omega)))
    have HRG := Lib.hid (And.intro hrg hp)
    have HY := Lib.hid (And.intro b2Y hBY)
    obtain ⟨y0, y1⟩ := blk2 bY
    obtain ⟨r0, r1⟩ := blk2 b2Y
    obtain ⟨fr0, fr1⟩ := And.intro (frz b2Y 0) (frz b2Y 1)
    have hl2 := heap_lt b2Y
    clear hrg hY hy bY b2Y hBY hN4 hp
    have hse : sumE b k = 0 := HS.out.1.symm
    cases bE with
    | false =>
      go_wp2_with fail
      obtain ⟨Z, hZ⟩ : ∃ Z, Z = (Y.setCell ⟨g + 1 + 1, 0, none⟩ (.int .i64 0)).setCell ⟨g + 1 + 1, 1, none⟩ (.int .i64 0) := ⟨_, rfl⟩
      rw [← hZ]
      have bZ : Z.heap[g + 1 + 1]? = some (Obj.cells #[.int .i64 0, .int .i64 0] 64 (0, 0)) := by rw [hZ]; exact (set_blk (set_blk HY.out.1)).trans (by simp)
      have hgr : Y.grownBy Z (some (g + 1 + 1)) := by rw [hZ]; exact (grownBy_cell _ _ _ _).trans (grownBy_cell _ _ _ _)
      obtain ⟨q0, q1⟩ := blk2 bZ
      clear hZ
      refine bodyPost_ret (v := .tuple #[.agg #[.int .i64 0, .int .i64 0], .int .i64 11]) (by simp [results, Try.f42, go_sem, q0, q1]) rfl ?_
      have hE : b.ends (-1) 0 = [] := by have h := HBE.out; simpa using h.symm
      have he : goneE b k = 11 := by unfold goneE; rw [if_neg (by rw [hse]; simp), if_pos hE]
      exact gone_end (r := ⟨0, 0⟩) he (by unfold goneR; rw [he, if_neg (by decide)]) (HY.out.2.grown hgr HY.out.2.size (fun k e => by cases e; rw [← HV.out.2.2.2.2.2]; omega))
    | true =>
      go_wp2_with fail
      obtain ⟨Z, hZ⟩ : ∃ Z, Z = (Y.setCell ⟨g + 1 + 1, 0, none⟩ (.int .i64 rg.lo)).setCell ⟨g + 1 + 1, 1, none⟩ (.int .i64 rg.hi) := ⟨_, rfl⟩
      rw [← hZ]
      have bZ : Z.heap[g + 1 + 1]? = some (Obj.cells #[.int .i64 rg.lo, .int .i64 rg.hi] 64 (0, 0)) := by rw [hZ]; exact (set_blk (set_blk HY.out.1)).trans (by simp)
      have hgr : Y.grownBy Z (some (g + 1 + 1)) := by rw [hZ]; exact (grownBy_cell _ _ _ _).trans (grownBy_cell _ _ _ _)
      obtain ⟨q0, q1⟩ := blk2 bZ
      clear hZ
      refine bodyPost_ret (v := .tuple #[.agg #[.int .i64 rg.lo, .int .i64 rg.hi], .int .i64 0]) (by simp [results, Try.f42, go_sem, q0, q1]) rfl ?_
      have hE : b.ends (-1) 0 ≠ [] := by have h := HBE.out; simpa using h
      have he : goneE b k = 0 := by unfold goneE; rw [if_neg (by rw [hse]; simp), if_neg hE]
      exact gone_end (r := rg) he (by unfold goneR; rw [he, if_pos rfl, HRG.out.1, HT.out.2.2.2.2.2.1]; show rangeE _ (fun h => hasS (sumS b.hs k b.ds) - howned h k) = _; rw [← H0.out.2.1]; rfl) (HY.out.2.grown hgr HY.out.2.size (fun k e => by cases e; rw [← HV.out.2.2.2.2.2]; omega))
  · have xg : (se != 0) = true := by simp [h0]
    have H0 := Lib.hid h0
    clear h0
    go_wp2_with fail
    obtain ⟨Z, hZ⟩ : ∃ Z, Z = (U.setCell ⟨g + 1 + 1, 0, none⟩ (.int .i64 0)).setCell ⟨g + 1 + 1, 1, none⟩ (.int .i64 0) := ⟨_, rfl⟩
    rw [← hZ]
    have bZ : Z.heap[g + 1 + 1]? = some (Obj.cells #[.int .i64 0, .int .i64 0] 64 (0, 0)) := by rw [hZ]; exact (set_blk (set_blk HU.out.2.2.2.2.2)).trans (by simp)
    have hgr : U.grownBy Z (some (g + 1 + 1)) := by rw [hZ]; exact (grownBy_cell _ _ _ _).trans (grownBy_cell _ _ _ _)
    obtain ⟨q0, q1⟩ := blk2 bZ
    clear hZ
    refine bodyPost_ret (v := .tuple #[.agg #[.int .i64 0, .int .i64 0], .int .i64 se]) (by simp [results, Try.f42, go_sem, q0, q1]) rfl ?_
    have he : goneE b o = se := by unfold goneE; rw [← HS.out.1, if_pos H0.out]
    refine gone_end (r := ⟨0, 0⟩) he (by unfold goneR; rw [he, if_neg H0.out]) ((HV.out.1.trans (HU.out.1.mono HV.out.1.size)).grown hgr ?_ (fun k e => by cases e; rw [← HV.out.2.2.2.2.2]; omega))
    have h1 := HV.out.1.size; omega
end Go.Proofs.Ytmennjmjakdkcaa
namespace Go.Proofs.Ytmennjmjakdkcaa
set_option linter.unusedVariables false
set_option linter.unusedSimpArgs false

def sumN (f : Nat → Int) : Nat → Int
  | 0 => 0
  | k + 1 => sumN f k + f k
theorem sumN_add (f g : Nat → Int) : ∀ n, sumN (fun o => f o + g o) n = sumN f n + sumN g n
  | 0 => rfl
  | n + 1 => by have := sumN_add f g n; unfold sumN; omega
theorem sumN_congr {f g : Nat → Int} : ∀ {n : Nat}, (∀ o, o < n → f o = g o) → sumN f n = sumN g n
  | 0, _ => rfl
  | n + 1, h => by
    unfold sumN
    rw [sumN_congr fun o ho => h o (by omega), h n (by omega)]
theorem sumN_le {f g : Nat → Int} : ∀ {n : Nat}, (∀ o, o < n → f o ≤ g o) → sumN f n ≤ sumN g n
  | 0, _ => Int.le_refl _
  | n + 1, h => by
    have := sumN_le (n := n) fun o ho => h o (by omega)
    have := h n (by omega)
    unfold sumN
    omega
theorem sumN_zero : ∀ n, sumN (fun _ => 0) n = 0
  | 0 => rfl
  | n + 1 => by unfold sumN; rw [sumN_zero n]; rfl
/-- one of them counts -/
theorem sumN_one (m : Int) {x : Int} (h0 : 0 ≤ x) : ∀ n : Nat, sumN (fun o => if x = (o : Int) then m else 0) n = if x < n then m else 0
  | 0 => by rw [if_neg (by omega)]; rfl
  | n + 1 => by
    unfold sumN
    rw [sumN_one m h0 n]
    by_cases h1 : x < n
    · rw [if_pos h1, if_neg (by omega), if_pos (by omega)]; omega
    · rw [if_neg h1]
      by_cases h2 : x = n
      · rw [if_pos h2, if_pos (by omega)]; omega
      · rw [if_neg h2, if_neg (by omega)]; omega
/-- heads of n owners in nf flocks -/
structure Shp (n nf : Nat) (x : List Int) : Prop where
  l : x.length = 15
  z : ∀ f o, f < 3 → o < 5 → nf ≤ f ∨ n ≤ o → hget x f o = 0
theorem Shp.add {n nf : Nat} {x : List Int} (h : Shp n nf x) {f o : Nat} (hf : f < nf) (ho : o < n) (hf3 : f < 3) (ho5 : o < 5) (k : Int) : Shp n nf (hadd x f o k) :=
  ⟨hadd_l h.l, fun f' o' h1 h2 h3 => by rw [hget_hadd h.l hf3 ho5 h2, if_neg (by omega)]; exact h.z f' o' h1 h2 h3⟩
theorem Shp.first {n nf : Nat} {hs : List (List Int)} (h : GSh n nf hs) : Shp n nf (firstH hs) := by
  refine ⟨firstH_l hs, fun f o h1 h2 h3 => ?_⟩
  rw [firstH_get hs h1 h2]
  unfold getG
  by_cases hf : f < nf
  · rw [List.getD_eq_getElem?_getD, List.getElem?_eq_none (by rw [h.row hf]; omega)]
    rfl
  · rw [List.getD_eq_getElem?_getD (l := hs), List.getElem?_eq_none (by rw [h.l]; omega)]
    rfl
theorem lostJ_shp {n nf f : Nat} (hf : f < nf) (hf3 : f < 3) (hn : n ≤ 5) : ∀ (j : Nat) (h : List Int) (m : Nat), j ≤ n → Shp n nf h → ∀ x ∈ lostJ n f j h m, Shp n nf x
  | 0, h, m, _, hs, x, hx => by
    unfold lostJ at hx
    split at hx
    · simp at hx; subst hx; exact hs
    · cases hx
  | j + 1, h, m, hj, hs, x, hx => by
    unfold lostJ at hx
    split at hx
    · simp at hx; subst hx; exact hs
    · obtain ⟨k, hk, hx⟩ := List.mem_flatMap.1 hx
      cases hm : mvd h f (n - (j + 1)) (-(k : Int)) with
      | none => rw [hm] at hx; cases hx
      | some y =>
        rw [hm] at hx
        obtain ⟨-, rfl⟩ := mvd_some hm
        exact lostJ_shp hf hf3 hn j _ _ (by omega) (hs.add hf (by omega) hf3 (by omega) _) x hx
/-- whose numbers a valid deed names -/
structure DeOw (n nf : Nat) (d : De) : Prop where
  f : 0 ≤ d.flock ∧ d.flock < nf
  o : d.kind = 1 ∨ d.kind = 2 ∨ d.kind = 3 → 0 ≤ d.owner ∧ d.owner < n
  x : d.kind = 2 → 0 ≤ d.other ∧ d.other < n
  t : d.kind = 5 → 0 ≤ d.tof ∧ d.tof < nf
  ne : d.kind = 2 → d.owner ≠ d.other
  k : 1 ≤ d.kind ∧ d.kind ≤ 6
theorem deedE_ow {n nf : Nat} {d : De} (h : deedE n nf d = 0) : DeOw n nf d := by
  unfold deedE at h
  obtain ⟨h1, h⟩ := ite0 (by decide) h
  obtain ⟨h2, h⟩ := ite0 (by decide) h
  split at h
  · exact absurd h (by assumption)
  rename_i h3
  have h3 : fldE n nf d = 0 := Classical.not_not.1 h3
  have hk := btw_iff.1 ((Bool.not_eq_false _).mp h1)
  have hf := ownB_iff.1 ((Bool.not_eq_false _).mp h2)
  unfold fldE at h3
  have nf' : ∀ {x : Int} {m : Nat}, ¬ ownB m x = false → 0 ≤ x ∧ x < m := fun h => ownB_iff.1 ((Bool.not_eq_false _).mp h)
  refine ⟨hf, fun hk1 => ?_, fun hk2 => ?_, fun hk5 => ?_, fun hk2 => ?_, hk⟩
  · by_cases hk2 : d.kind = 2
    · rw [if_neg (by omega), if_pos hk2] at h3
      obtain ⟨a, -⟩ := ite0 (by decide) h3
      exact nf' fun h => a (.inl h)
    · rw [if_pos (by omega)] at h3
      obtain ⟨a, -⟩ := ite0 (by decide) h3
      exact nf' a
  · rw [if_neg (by omega), if_pos hk2] at h3
    obtain ⟨a, -⟩ := ite0 (by decide) h3
    exact nf' fun h => a (.inr h)
  · rw [if_neg (by omega), if_neg (by omega), if_neg (by omega), if_pos hk5] at h3
    obtain ⟨a, -⟩ := ite0 (by decide) h3
    exact nf' a
  · rw [if_neg (by omega), if_pos hk2] at h3
    obtain ⟨-, h3⟩ := ite0 (by decide) h3
    obtain ⟨a, -⟩ := ite0 (by decide) h3
    exact a
theorem succ_shp {t : Int} {l : List Mk} {pass : Int → Bool} {d : De} {h x : List Int} {nf : Nat} (hnf : nf ≤ 3) (hl5 : l.length ≤ 5) (hd : DeOw l.length nf d) (hs : Shp l.length nf h) (hx : x ∈ succ t l pass d h) : Shp l.length nf x := by
  have hf := hd.f
  have hk := hd.k
  have hf1 : d.flock.toNat < nf := by omega
  have hf3 : d.flock.toNat < 3 := by omega
  unfold succ at hx
  split at hx
  · rename_i h1
    have ho := hd.o (.inl h1)
    simp at hx
    subst hx
    exact hs.add hf1 (by omega) hf3 (by omega) _
  split at hx
  · rename_i h2
    have ho := hd.o (.inr (.inl h2))
    have hx' := hd.x h2
    cases hm : mvd h d.flock.toNat d.owner.toNat (-d.many) with
    | none => rw [hm] at hx; cases hx
    | some y =>
      rw [hm] at hx
      obtain ⟨-, rfl⟩ := mvd_some hm
      simp at hx
      subst hx
      exact (hs.add hf1 (by omega) hf3 (by omega) _).add hf1 (by omega) hf3 (by omega) _
  split at hx
  · rename_i h3
    have ho := hd.o (.inr (.inr h3))
    cases hm : mvd h d.flock.toNat d.owner.toNat (-d.many) with
    | none => rw [hm] at hx; cases hx
    | some y =>
      rw [hm] at hx
      obtain ⟨-, rfl⟩ := mvd_some hm
      simp at hx
      subst hx
      exact hs.add hf1 (by omega) hf3 (by omega) _
  split at hx
  · exact lostJ_shp hf1 hf3 hl5 _ _ _ (Nat.le_refl _) hs x hx
  split at hx
  · rename_i h5
    have ht := hd.t h5
    unfold strayL at hx
    obtain ⟨o, ho', hx⟩ := List.mem_flatMap.1 hx
    have hol := mayTo_lt o (List.mem_filter.1 ho').1
    cases hm : mvd h d.flock.toNat o.toNat (-1) with
    | none => rw [hm] at hx; cases hx
    | some y =>
      rw [hm] at hx
      obtain ⟨-, rfl⟩ := mvd_some hm
      simp at hx
      subst hx
      exact (hs.add hf1 (by omega) hf3 (by omega) _).add (by omega) (by omega) (by omega) (by omega) _
  · split at hx
    · simp at hx; subst hx; exact hs
    · cases hx
theorem endsTo_shp {t : Int} {l : List Mk} {hs : List (List Int)} {ds : List De} {deed owner : Int} {nf : Nat} (hnf : nf ≤ 3) (hl5 : l.length ≤ 5) (hg : GSh l.length nf hs) (hd : ∀ d ∈ ds, DeOw l.length nf d) : ∀ i, ∀ x ∈ endsTo t l hs ds deed owner i, Shp l.length nf x
  | 0, x, hx => by simp [endsTo] at hx; subst hx; exact Shp.first hg
  | i + 1, x, hx => by
    unfold endsTo at hx
    obtain ⟨h, hh, hx⟩ := List.mem_flatMap.1 (mem_ddup.1 hx)
    cases hi : ds[i]? with
    | none => rw [hi] at hx; cases hx
    | some d =>
      rw [hi] at hx
      exact succ_shp hnf hl5 (hd d (List.mem_of_getElem? hi)) (endsTo_shp hnf hl5 hg hd i h hh) hx
/-- all sheep together, owner by owner, flock by flock -/
theorem Shp.owned {n nf : Nat} {x : List Int} (h : Shp n nf x) (hn : n ≤ 5) : sumN (fun o => howned x o) n = htot x := by
  have z := fun f o (h1 : f < 3) (h2 : o < 5) (h3 : n ≤ o) => h.z f o h1 h2 (.inr h3)
  unfold htot hall howned
  obtain rfl | rfl | rfl | rfl | rfl | rfl : n = 0 ∨ n = 1 ∨ n = 2 ∨ n = 3 ∨ n = 4 ∨ n = 5 := by omega
  all_goals
    simp only [sumN]
    have a00 := z 0 0 (by decide) (by decide); have a10 := z 1 0 (by decide) (by decide); have a20 := z 2 0 (by decide) (by decide)
    have a01 := z 0 1 (by decide) (by decide); have a11 := z 1 1 (by decide) (by decide); have a21 := z 2 1 (by decide) (by decide)
    have a02 := z 0 2 (by decide) (by decide); have a12 := z 1 2 (by decide) (by decide); have a22 := z 2 2 (by decide) (by decide)
    have a03 := z 0 3 (by decide) (by decide); have a13 := z 1 3 (by decide) (by decide); have a23 := z 2 3 (by decide) (by decide)
    have a04 := z 0 4 (by decide) (by decide); have a14 := z 1 4 (by decide) (by decide); have a24 := z 2 4 (by decide) (by decide)
    omega
theorem Shp.all {n nf : Nat} {x : List Int} (h : Shp n nf x) (hnf : nf ≤ 3) : sumN (fun f => hall x f) nf = htot x := by
  have z : ∀ f, f < 3 → nf ≤ f → hall x f = 0 := fun f h1 h2 => by
    unfold hall
    rw [h.z f 0 h1 (by omega) (.inl h2), h.z f 1 h1 (by omega) (.inl h2), h.z f 2 h1 (by omega) (.inl h2), h.z f 3 h1 (by omega) (.inl h2), h.z f 4 h1 (by omega) (.inl h2)]
    rfl
  have z0 := z 0 (by decide); have z1 := z 1 (by decide); have z2 := z 2 (by decide)
  unfold htot
  obtain rfl | rfl | rfl | rfl : nf = 0 ∨ nf = 1 ∨ nf = 2 ∨ nf = 3 := by omega
  all_goals
    simp only [sumN]
    omega
def lostD (d : De) : Int := if d.kind = 4 then d.many else 0
theorem delta_sum {n nf : Nat} {d : De} (h : DeOw n nf d) : sumN (fun o => delta o d) n - lostD d = dTot d := by
  have hk := h.k
  unfold lostD dTot
  by_cases h1 : d.kind = 1
  · have ho := h.o (.inl h1)
    have e : sumN (fun o => delta o d) n = d.many := by
      rw [sumN_congr (g := fun o => if d.owner = (o : Int) then d.many else 0) (fun o _ => by simp [delta, h1]), sumN_one _ ho.1, if_pos ho.2]
    rw [e, if_neg (by omega), if_pos h1]; omega
  by_cases h2 : d.kind = 2
  · have ho := h.o (.inr (.inl h2))
    have hx := h.x h2
    have e : sumN (fun o => delta o d) n = 0 := by
      rw [sumN_congr (g := fun o => (if d.other = (o : Int) then d.many else 0) + (if d.owner = (o : Int) then -d.many else 0)) (fun o _ => by
        simp only [delta, h2]
        by_cases a : d.other = (o : Int) <;> by_cases b : d.owner = (o : Int) <;> simp [a, b] <;> omega), sumN_add, sumN_one _ hx.1, sumN_one _ ho.1, if_pos hx.2, if_pos ho.2]
      omega
    rw [e, if_neg (by omega), if_neg (by omega), if_neg (by omega)]; rfl
  by_cases h3 : d.kind = 3
  · have ho := h.o (.inr (.inr h3))
    have e : sumN (fun o => delta o d) n = -d.many := by
      rw [sumN_congr (g := fun o => if d.owner = (o : Int) then -d.many else 0) (fun o _ => by
        simp only [delta, h3]
        by_cases b : d.owner = (o : Int) <;> simp [b]), sumN_one _ ho.1, if_pos ho.2]
    rw [e, if_neg (by omega), if_neg (by omega), if_pos (by omega)]; omega
  · have e : sumN (fun o => delta o d) n = 0 := by
      rw [sumN_congr (g := fun _ => 0) (fun o _ => by simp [delta, h1, h2, h3]), sumN_zero]
    rw [e, if_neg h1]
    by_cases h4 : d.kind = 4
    · rw [if_pos h4, if_pos (by omega)]; omega
    · rw [if_neg h4, if_neg (by omega)]; rfl
/-- what all owners had and got, less what is lost, is what all flocks have -/
theorem sums_tot {n nf : Nat} {hs : List (List Int)} {ds : List De} (hn : n ≤ 5) (hg : GSh n nf hs) (hd : ∀ d ∈ ds, DeOw n nf d) : ∀ i, i ≤ ds.length → sumN (fun o => hasS (sumS hs o (ds.take i))) n - ((ds.take i).map lostD).sum = htot (firstH hs) + ((ds.take i).map dTot).sum
  | 0, _ => by
    rw [sumN_congr (g := fun o => howned (firstH hs) o) (fun o _ => by unfold sumS hasS; simp), (Shp.first hg).owned hn]
    simp
  | i + 1, hi => by
    have hgd : ds[i]? = some ds[i] := List.getElem?_eq_getElem (by omega)
    have hm := hd _ (List.getElem_mem (l := ds) (show i < ds.length by omega))
    have ih := sums_tot hn hg hd i (by omega)
    rw [sumN_congr (g := fun o => hasS (sumS hs o (ds.take i)) + delta o ds[i]) (fun o _ => by rw [sumS_snoc hs o ds hgd, hasS_step _ _ _ hm.ne]), sumN_add, sum_takeD lostD hgd, sum_takeD dTot hgd]
    have := delta_sum hm
    omega
/-- the range of what is left behind -/
theorem range_sub {E : List (List Int)} (hE : E ≠ []) (H : Int) (g : List Int → Int) : rangeE E (fun h => H - g h) = ⟨H - (rangeE E g).hi, H - (rangeE E g).lo⟩ := by
  obtain ⟨⟨x1, m1, e1⟩, ⟨x2, m2, e2⟩, a⟩ := rangeE_mem (f := fun h => H - g h) hE
  obtain ⟨⟨y1, n1, f1⟩, ⟨y2, n2, f2⟩, b⟩ := rangeE_mem (f := g) hE
  have a1 := a y2 n2; have a2 := a y1 n1; have b1 := b x1 m1; have b2 := b x2 m2
  have : (rangeE E fun h => H - g h).lo = H - (rangeE E g).hi := by omega
  have : (rangeE E fun h => H - g h).hi = H - (rangeE E g).lo := by omega
  cases hr : rangeE E fun h => H - g h
  simp_all
end Go.Proofs.Ytmennjmjakdkcaa
