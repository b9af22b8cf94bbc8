/- HerdRenamed 19: Gone, TalB, Own2. -/
import Derived.Test.YtmennjmjakdkcaaRn18
import Derived.Test.YtmennjmjakdkcaaRn06
import Derived.Test.YtmennjmjakdkcaaRn17
import Derived.Test.YtmennjmjakdkcaaRn01
namespace Go.Proofs.Ytmennjmjakdkcaa
open Go.RowKit Go.MapKept
set_option linter.unusedVariables false
set_option linter.unusedSimpArgs false

/-- worlds of a region that only makes memory -/
def TBl (n : Nat) (w w' : World) : Prop := Below w.heap.size w w'
theorem TBl.tr : ∀ n a b c, TBl n a b → TBl 1 b c → TBl (n + 1) a c := fun n a b c h k => Below.trans h (Below.mono k (Below.size h))
theorem TBl.rf : ∀ w, TBl 1 w w := fun w => Below.refl _ _
theorem TBl.draw (w : World) : TBl 0 w { w with drawn := w.drawn + 1 } := bdraw (Below.refl _ _)
set_option maxRecDepth 100000 in
set_option maxHeartbeats 1000000 in
theorem goneF_any (x : List Int) (all : Int) (o q1 q2 : Nat) (W : World) (hx : HBd 1000 x) (ho : o < 5) (ha : -100000 ≤ all ∧ all ≤ 100000) (h1 : W.heap[q1]? = some (Obj.cells #[.int .i64 all] 3 (0, 0))) (h2 : W.heap[q2]? = some (Obj.cells #[.int .i64 (o : Int)] 3 (0, 0))) :
    Calls Try.prog 88 (#[.agg (hcs x)] ++ #[.pointer (some ⟨q1, 0, none⟩), .pointer (some ⟨q2, 0, none⟩)]) W fun e W' => e = .returned (.int .i64 (all - howned x o)) ∧ Below W.heap.size W W' := by
  have hl := hx.1
  obtain ⟨V, hV⟩ : ∃ V, V = W.alloc (Obj.cells (hcs x) 137) := ⟨_, rfl⟩
  obtain ⟨g, hg⟩ : ∃ g, g = W.heap.size := ⟨_, rfl⟩
  have b0 : V.heap[g]? = some (hObj x) := by rw [hV, hg]; exact alloc_at rfl
  have b1 : V.heap[q1]? = some (Obj.cells #[.int .i64 all] 3 (0, 0)) := by rw [hV]; exact hblk_alloc h1 _
  have b2 : V.heap[q2]? = some (Obj.cells #[.int .i64 (o : Int)] 3 (0, 0)) := by rw [hV]; exact hblk_alloc h2 _
  have hBV : Below W.heap.size W V := by rw [hV]; exact bal0 W _
  have HV := Lib.hid (And.intro hBV hx)
  obtain ⟨ow, how⟩ : ∃ ow, ow = howned x o := ⟨_, rfl⟩
  have hob : 0 ≤ ow ∧ ow ≤ 3000 := by
    have a0 := hx.get (show 0 < 3 by decide) ho
    have a1 := hx.get (show 1 < 3 by decide) ho
    have a2 := hx.get (show 2 < 3 by decide) ho
    rw [how]; unfold howned; omega
  rw [← how]
  have HO := Lib.hid how
  simp only [List.append_toArray, List.cons_append, List.nil_append]
  clear h1 h2 hBV hx how
  go_enter Try.func88, Try.ntmps88
  go_upto_region 1 with (fail)
  rw [← hV, ← hg]
  clear hV hg
  have HB := Lib.hid (And.intro b0 (And.intro b1 b2))
  have HC : Hid (∀ k w', TBl k V w' → w'.cell? ⟨q1, 0, none⟩ = some (.int .i64 all) ∧ w'.cell? ⟨q2, 0, none⟩ = some (.int .i64 (o : Int)) ∧ w'.heap[g]? = some (hObj x)) :=
    Lib.hid fun k w' h => ⟨blk1 (bheap HB.out.2.1 h (Nat.le_refl _)), blk1 (bheap HB.out.2.2 h (Nat.le_refl _)), bheap HB.out.1 h (Nat.le_refl _)⟩
  clear b0 b1 b2
  refine wp_region_inv (TBl) (by kernel_rfl) (by kernel_rfl) TBl.tr (TBl.draw _) ?_
  apply Exists.intro
  refine ⟨fun ys => ?_, fun ops K hK => ?_⟩
  · simp only [dstsOf, List.filterMap_cons, List.filterMap_nil, putAll]
    go_simp
    rfl
  refine LexI.const TBl.rf ?_
  refine ⟨.int .i64 all, fun n' ys w' hn' hT hd => ?_, ?_⟩
  · try simp [DepsOf, depsGo, DF.holds, Region.binds, EqF] at hd
    try simp only [hd]
    obtain ⟨y0, y1, -⟩ := HC.out n' w' hT
    intro Q2 hQ2
    go_wp2_with fail
    try rfl
  try simp only [List.nil_append, List.cons_append]
  refine LexI.some (EqF (.agg (hcs x))) (EqF.st) (fun n' ys w' hn' hT hd => ?_) ?_
  · try simp [DepsOf, depsGo, DF.holds, Region.binds, EqF] at hd
    try simp only [hd]
    obtain ⟨-, -, bh⟩ := HC.out n' w' hT
    intro Q2 hQ2
    go_wp2_with ((with_reducible apply wp_loadH bh hl); (rfl); (rfl); (rfl))
    exact ⟨TBl.rf _, rfl⟩
  try simp only [List.nil_append, List.cons_append]
  refine LexI.const TBl.rf ?_
  refine ⟨.int .i64 o, fun n' ys w' hn' hT hd => ?_, ?_⟩
  · try simp [DepsOf, depsGo, DF.holds, Region.binds, EqF] at hd
    try simp only [hd]
    obtain ⟨y0, y1, -⟩ := HC.out n' w' hT
    intro Q2 hQ2
    go_wp2_with fail
    try rfl
  try simp only [List.nil_append, List.cons_append]
  refine LexI.some (EqF (.int .i64 ow)) (EqF.st) (fun n' ys w' hn' hT hd => ?_) ?_
  · try simp [DepsOf, depsGo, DF.holds, Region.binds, EqF] at hd
    try simp only [hd]
    intro Q2 hQ2
    go_wp2_with fail
    refine (owned_any x o w' HV.out.2 ho).mono ?_
    rintro e wU ⟨rfl, hb⟩
    rw [← HO.out]
    go_wp2
    exact ⟨_, rfl, hb, rfl⟩
  try simp only [List.nil_append, List.cons_append]
  refine LexI.some (EqF (.int .i64 (all - ow))) (EqF.st) (fun n' ys w' hn' hT hd => ?_) ?_
  · try simp [DepsOf, depsGo, DF.holds, Region.binds, EqF] at hd
    try simp only [hd]
    intro Q2 hQ2
    go_wp2_with fail
    exact ⟨TBl.rf _, rfl⟩
  try simp only [List.nil_append, List.cons_append]
  refine LexI.some (EqF (.int .i64 (all - ow))) (EqF.st) (fun n' ys w' hn' hT hd => ?_) ?_
  · try simp [DepsOf, depsGo, DF.holds, Region.binds, EqF] at hd
    try simp only [hd]
    intro Q2 hQ2
    go_wp2_with fail
    exact ⟨TBl.rf _, rfl⟩
  try simp only [List.nil_append, List.cons_append]
  refine hK _ (fun n' ys wc hn' hT hF => ?_)
  simp only [AllF, DF.holds] at hF
  obtain ⟨-, -, -, -, -, h4, -⟩ := hF
  unfold EqF at h4
  rw [h4]
  have HT := Lib.hid hT
  clear hT h4
  go_wp2
  go_ret
  exact ⟨rfl, HV.out.1.trans (Below.mono HT.out HV.out.1.size)⟩

def goneE (b : Hb) (o : Int) : Int := if sumE b o ≠ 0 then sumE b o else if b.ends (-1) 0 = [] then 11 else 0
def goneR (b : Hb) (o : Int) : Rn := if goneE b o = 0 then rangeE (b.ends (-1) 0) (fun h => hasS (sumS b.hs o.toNat b.ds) - howned h o.toNat) else ⟨0, 0⟩
def GoneR (b : Hb) (o : Int) (w : World) (e : Ending) (w' : World) : Prop := e = .returned (.tuple #[.agg #[.int .i64 (goneR b o).lo, .int .i64 (goneR b o).hi], .int .i64 (goneE b o)]) ∧ Below w.heap.size w w'
theorem gone_end {b : Hb} {o e : Int} {r : Rn} {w w' : World} (he : goneE b o = e) (hr : goneR b o = r) (hb : Below w.heap.size w w') : GoneR b o w (.returned (.tuple #[.agg #[.int .i64 r.lo, .int .i64 r.hi], .int .i64 e])) w' := by
  subst he hr; exact ⟨rfl, hb⟩
set_option maxRecDepth 100000 in
set_option maxHeartbeats 2000000 in
theorem Gone_any (b : Hb) (o : Int) (w : World) (hin : HbIn w b) : Calls Try.prog 42 #[b.v, .int .i64 o] w (GoneR b o w) := by
  obtain ⟨g, hg⟩ : ∃ g, g = w.heap.size := ⟨_, rfl⟩
  obtain ⟨V, hV⟩ : ∃ V, V = ((w.alloc b.obj).alloc (Obj.cells #[Value.int .i64 o] 3)).alloc (Obj.cells #[.int .i64 0, .int .i64 0] 64) := ⟨_, rfl⟩
  have b0 : V.heap[g]? = some b.obj := by rw [hV, hg]; exact hblk_alloc (hblk_alloc (alloc_at rfl) _) _
  have b1 : V.heap[g + 1]? = some (Obj.cells #[Value.int .i64 o] 3 (0, 0)) := by rw [hV, hg]; exact hblk_alloc (alloc_at (by simp)) _
  have b2 : V.heap[g + 1 + 1]? = some (Obj.cells #[.int .i64 0, .int .i64 0] 64 (0, 0)) := by rw [hV, hg]; exact alloc_at (by simp)
  have hBV : Below w.heap.size w V := by rw [hV]; exact bal (bal (bal0 w _) (Nat.le_refl _) _) (Nat.le_refl _) _
  have hiV := hin.below hBV (Nat.le_refl _)
  obtain ⟨c0, c1, c2, c3, c4⟩ := blk5c b0
  have p0 := blk1 b1
  have hsm := Sum_any b o V hiV
  unfold Hb.v at hsm
  have HV := Lib.hid (And.intro hBV (And.intro b0 (And.intro b1 (And.intro b2 (And.intro hiV hg)))))
  unfold Hb.v
  go_enter Try.func42, Try.ntmps42
  go_upto_region 1 with (fail)
  rw [← hV, ← hg]
  clear hV hg hin hBV hiV b0 b1 b2
  obtain ⟨se, hse⟩ : ∃ se, se = sumE b o := ⟨_, rfl⟩
  obtain ⟨sv, hsv⟩ : ∃ sv, sv = sumR b o := ⟨_, rfl⟩
  unfold SumR at hsm
  rw [← hse, ← hsv] at hsm
  have HS := Lib.hid (And.intro hse hsv)
  clear hse hsv
  go_upto_region 2 with (go_at_call 43; refine hsm.mono ?_; rintro e w2 ⟨rfl, hb2⟩; unfold smV)
  obtain ⟨S, hS⟩ : ∃ S, S = w2.heap.size := ⟨_, rfl⟩
  obtain ⟨U, hU⟩ : ∃ U, U = w2.alloc (Obj.cells #[Value.int .i64 sv.first, .int .i64 sv.born, .int .i64 sv.bought, .int .i64 sv.sold, .int .i64 sv.eaten] 86) := ⟨_, rfl⟩
  rw [← hU, ← hS]
  have hbU : Below V.heap.size V U := by rw [hU]; exact bal hb2 (Nat.le_refl _) _
  have bS : U.heap[S]? = some (smO sv.first sv.born sv.bought sv.sold sv.eaten) := by rw [hU, hS]; exact alloc_at rfl
  have hVS : V.heap.size ≤ S := by rw [hS]; exact hb2.size
  have b0 := bheap HV.out.2.1 hbU (Nat.le_refl _)
  have b1 := bheap HV.out.2.2.1 hbU (Nat.le_refl _)
  have b2 := bheap HV.out.2.2.2.1 hbU (Nat.le_refl _)
  have HU := Lib.hid (And.intro hbU (And.intro bS (And.intro hVS (And.intro b0 (And.intro b1 b2)))))
  clear c0 c1 c2 c3 c4 p0 hsm hb2 hU hS hbU bS hVS
  obtain ⟨c0, c1, c2, c3, c4⟩ := blk5c b0
  obtain ⟨s0, s1, s2, s3, s4⟩ := blk5c HU.out.2.1
  obtain ⟨r0, r1⟩ := blk2 b2
  obtain ⟨fr0, fr1⟩ := And.intro (frz b2 0) (frz b2 1)
  have hl2 := heap_lt b2
  have hzz := HU.out.1.size
  clear b0 b1 b2
  by_cases h0 : se = 0
  · subst h0
    have h0 : b.chk = 0 ∧ ownB b.l.length o = true := by
      have h := HS.out.1
      unfold sumE at h
      split at h
      · rename_i hc; exact absurd h.symm hc
      · rename_i hc
        split at h
        · cases h
        · rename_i hc2; exact ⟨Classical.not_not.1 hc, by simpa using hc2⟩
    have hok := checkH_ok h0.1
    obtain ⟨ho0, ho1⟩ := ownB_iff.1 h0.2
    obtain ⟨k, rfl⟩ := Int.eq_ofNat_of_zero_le ho0
    have hk5 : k < 5 := by have := hok.n5; omega
    have hsv : sv = sumS b.hs k b.ds := by rw [HS.out.2]; unfold sumR; rw [← HS.out.1, if_pos rfl]; rfl
    have hfb : HBd 20 (firstH b.hs) := firstH_bd hok.rb
    have hsb := sumS_bd (hs := b.hs) (o := k) (ds := b.ds) (by
      have a0 := hfb.get (show 0 < 3 by decide) hk5
      have a1 := hfb.get (show 1 < 3 by decide) hk5
      have a2 := hfb.get (show 2 < 3 by decide) hk5
      unfold howned; omega) (fun d hd => by have := (hok.dI d hd).m; omega) b.ds.length (Nat.le_refl _)
    rw [List.take_length, ← hsv] at hsb
    have hd6 := hok.d6
    obtain ⟨x1, x2, x3, x4, x5⟩ := sv
    obtain ⟨⟨l1, u1⟩, ⟨l2, u2⟩, ⟨l3, u3⟩, ⟨l4, u4⟩, l5, u5⟩ := hsb
    dsimp only at l1 u1 l2 u2 l3 u3 l4 u4 l5 u5 s0 s1 s2 s3 s4
    have hB : (3000 : Int) + 300 * (b.ds.length : Int) ≤ 4800 := by omega
    have v1 := Int.le_trans u1 hB
    have v2 := Int.le_trans u2 hB
    have v3 := Int.le_trans u3 hB
    have v4 := Int.le_trans u4 hB
    have v5 := Int.le_trans u5 hB
    have H0 := Lib.hid (And.intro h0.1 (And.intro hsv hok))
    have hent : ∀ (args : Array Value) (w : World), (callFunc 88 args).run Try.prog w = .ok (.enter 88 args) w := enters_of Try.func88 (by kernel_rfl) rfl
    have HENT := Lib.hid hent
    clear h0 hok ho0 ho1 hsv hfb hd6 u1 u2 u3 u4 u5 hB hent
    go_upto_region 5 with (fail)
    obtain ⟨all, hall'⟩ : ∃ a, a = x1 + x2 + x3 - x4 - x5 := ⟨_, rfl⟩
    have hab : -100000 ≤ all ∧ all ≤ 100000 := by omega
    rw [← hall']
    obtain ⟨q, hq⟩ : ∃ q, q = U.heap.size := ⟨_, rfl⟩
    obtain ⟨T, hT⟩ : ∃ T, T = U.alloc (Obj.cells #[Value.int .i64 all] 3) := ⟨_, rfl⟩
    rw [← hT, ← hq]
    have hbT : Below V.heap.size V T := by rw [hT]; exact bal HU.out.1 (Nat.le_refl _) _
    have bq : T.heap[q]? = some (Obj.cells #[Value.int .i64 all] 3 (0, 0)) := by rw [hT, hq]; exact alloc_at rfl
    have b0 := bheap HV.out.2.1 hbT (Nat.le_refl _)
    have b1 := bheap HV.out.2.2.1 hbT (Nat.le_refl _)
    have b2 := bheap HV.out.2.2.2.1 hbT (Nat.le_refl _)
    have hVq : V.heap.size ≤ q := by rw [hq]; exact HU.out.1.size
    have hiT := HV.out.2.2.2.2.1.below hbT (Nat.le_refl _)
    have HT := Lib.hid (And.intro hbT (And.intro bq (And.intro b1 (And.intro b2 (And.intro hiT (And.intro hall' hVq))))))
    have hbg := begin_any b T
    unfold Hb.v at hbg
    clear hT hq hbT bq b1 b2 hVq hiT hall' s0 s1 s2 s3 s4 c0 c1 c2 c3 c4 r0 r1 fr0 fr1 hl2
    obtain ⟨c0, c1, c2, c3, c4⟩ := blk5c b0
    clear b0
    obtain ⟨bE, hbE⟩ : ∃ bE, bE = !decide (b.ends (-1) 0 = []) := ⟨_, rfl⟩
    have HBE := Lib.hid hbE
    clear hbE
    go_upto_if 43 with (first
      | (go_at_call 85; refine hbg.mono ?_; rintro e w3 ⟨p, rfl, hp, hpb, hb3⟩; have hWk : Work T p b (-1) 0 w3 := ⟨HT.out.2.2.2.2.1, hp, hb3, ⟨_, hpb⟩, H0.out.1⟩; have bq3 := bheap HT.out.2.1 hb3 (Nat.le_refl _); have bo3 := bheap HT.out.2.2.1 hb3 (Nat.le_refl _); have hqp := heap_lt HT.out.2.1; have hop := heap_lt HT.out.2.2.1; have H3 := Lib.hid (And.intro hWk (And.intro bq3 (And.intro bo3 hb3))); clear hpb hb3 hWk bq3 bo3)
      | (go_at_call 87; refine (span_any T p b (-1) 0 w3 H3.out.1 88 #[.pointer (some ⟨q, 0, none⟩), .pointer (some ⟨g + 1, 0, none⟩)] (fun h => all - howned h k) HENT.out (fun x hx W hN => goneF_any x all k q (g + 1) W (hb_of H0.out.2.2 x hx) hk5 hab (hN.blk H3.out.2.1 (by omega)) (hN.blk H3.out.2.2.1 (by omega)))).mono ?_; rintro e w4 ⟨rfl, hN4⟩; rw [← HBE.out]))
    obtain ⟨rg, hrg⟩ : ∃ rg, rg = rangeE (b.ends (-1) 0) (fun h => all - howned h k) := ⟨_, rfl⟩
    rw [← hrg]
    obtain ⟨Y, hY⟩ : ∃ Y, Y = w4.alloc (Obj.cells #[Value.int .i64 rg.lo, .int .i64 rg.hi] 64) := ⟨_, rfl⟩
    obtain ⟨y, hy⟩ : ∃ y, y = w4.heap.size := ⟨_, rfl⟩
    rw [← hY, ← hy]
    have bY : Y.heap[y]? = some (Obj.cells #[Value.int .i64 rg.lo, .int .i64 rg.hi] 64 (0, 0)) := by rw [hY, hy]; exact alloc_at rfl
    have hg2 : g + 1 + 1 < T.heap.size := heap_lt HT.out.2.2.2.1
    have b2Y : Y.heap[g + 1 + 1]? = some (Obj.cells #[.int .i64 0, .int .i64 0] 64 (0, 0)) := by rw [hY]; exact hblk_alloc (hN4.blk (bheap HT.out.2.2.2.1 H3.out.2.2.2 (Nat.le_refl _)) (by omega)) _
    have hBY : Below w.heap.size w Y := by
      have h1 := HV.out.1
      have h2 := HT.out.1
      have h3 := H3.out.2.2.2
      have h4 : Below T.heap.size w3 w4 := hN4.less hp h3.size
      have h5 : Below w4.heap.size w4 Y := by rw [hY]; exact bal0 w4 _
      have s1 := h1.size; have s2 := h2.size; have s3 := h3.size; have s4 := h4.size
      exact (h1.trans (h2.mono s1)).trans (((h3.mono (by omega)).trans (h4.mono (by omega))).trans (h5.mono (by omega)))
    have HRG := Lib.hid (And.intro hrg hp)
    have HY := Lib.hid (And.intro b2Y hBY)
    obtain ⟨y0, y1⟩ := blk2 bY
    obtain ⟨r0, r1⟩ := blk2 b2Y
    obtain ⟨fr0, fr1⟩ := And.intro (frz b2Y 0) (frz b2Y 1)
    have hl2 := heap_lt b2Y
    clear hrg hY hy bY b2Y hBY hN4 hp
    have hse : sumE b k = 0 := HS.out.1.symm
    cases bE with
    | false =>
      go_wp2_with fail
      obtain ⟨Z, hZ⟩ : ∃ Z, Z = (Y.setCell ⟨g + 1 + 1, 0, none⟩ (.int .i64 0)).setCell ⟨g + 1 + 1, 1, none⟩ (.int .i64 0) := ⟨_, rfl⟩
      rw [← hZ]
      have bZ : Z.heap[g + 1 + 1]? = some (Obj.cells #[.int .i64 0, .int .i64 0] 64 (0, 0)) := by rw [hZ]; exact (set_blk (set_blk HY.out.1)).trans (by simp)
      have hgr : Y.grownBy Z (some (g + 1 + 1)) := by rw [hZ]; exact (grownBy_cell _ _ _ _).trans (grownBy_cell _ _ _ _)
      obtain ⟨q0, q1⟩ := blk2 bZ
      clear hZ
      refine bodyPost_ret (v := .tuple #[.agg #[.int .i64 0, .int .i64 0], .int .i64 11]) (by simp [results, Try.f42, go_sem, q0, q1]) rfl ?_
      have hE : b.ends (-1) 0 = [] := by have h := HBE.out; simpa using h.symm
      have he : goneE b k = 11 := by unfold goneE; rw [if_neg (by rw [hse]; simp), if_pos hE]
      exact gone_end (r := ⟨0, 0⟩) he (by unfold goneR; rw [he, if_neg (by decide)]) (HY.out.2.grown hgr HY.out.2.size (fun k e => by cases e; rw [← HV.out.2.2.2.2.2]; omega))
    | true =>
      go_wp2_with fail
      obtain ⟨Z, hZ⟩ : ∃ Z, Z = (Y.setCell ⟨g + 1 + 1, 0, none⟩ (.int .i64 rg.lo)).setCell ⟨g + 1 + 1, 1, none⟩ (.int .i64 rg.hi) := ⟨_, rfl⟩
      rw [← hZ]
      have bZ : Z.heap[g + 1 + 1]? = some (Obj.cells #[.int .i64 rg.lo, .int .i64 rg.hi] 64 (0, 0)) := by rw [hZ]; exact (set_blk (set_blk HY.out.1)).trans (by simp)
      have hgr : Y.grownBy Z (some (g + 1 + 1)) := by rw [hZ]; exact (grownBy_cell _ _ _ _).trans (grownBy_cell _ _ _ _)
      obtain ⟨q0, q1⟩ := blk2 bZ
      clear hZ
      refine bodyPost_ret (v := .tuple #[.agg #[.int .i64 rg.lo, .int .i64 rg.hi], .int .i64 0]) (by simp [results, Try.f42, go_sem, q0, q1]) rfl ?_
      have hE : b.ends (-1) 0 ≠ [] := by have h := HBE.out; simpa using h
      have he : goneE b k = 0 := by unfold goneE; rw [if_neg (by rw [hse]; simp), if_neg hE]
      exact gone_end (r := rg) he (by unfold goneR; rw [he, if_pos rfl, HRG.out.1, HT.out.2.2.2.2.2.1]; show rangeE _ (fun h => hasS (sumS b.hs k b.ds) - howned h k) = _; rw [← H0.out.2.1]; rfl) (HY.out.2.grown hgr HY.out.2.size (fun k e => by cases e; rw [← HV.out.2.2.2.2.2]; omega))
  · have xg : (se != 0) = true := by simp [h0]
    have H0 := Lib.hid h0
    clear h0
    go_wp2_with fail
    obtain ⟨Z, hZ⟩ : ∃ Z, Z = (U.setCell ⟨g + 1 + 1, 0, none⟩ (.int .i64 0)).setCell ⟨g + 1 + 1, 1, none⟩ (.int .i64 0) := ⟨_, rfl⟩
    rw [← hZ]
    have bZ : Z.heap[g + 1 + 1]? = some (Obj.cells #[.int .i64 0, .int .i64 0] 64 (0, 0)) := by rw [hZ]; exact (set_blk (set_blk HU.out.2.2.2.2.2)).trans (by simp)
    have hgr : U.grownBy Z (some (g + 1 + 1)) := by rw [hZ]; exact (grownBy_cell _ _ _ _).trans (grownBy_cell _ _ _ _)
    obtain ⟨q0, q1⟩ := blk2 bZ
    clear hZ
    refine bodyPost_ret (v := .tuple #[.agg #[.int .i64 0, .int .i64 0], .int .i64 se]) (by simp [results, Try.f42, go_sem, q0, q1]) rfl ?_
    have he : goneE b o = se := by unfold goneE; rw [← HS.out.1, if_pos H0.out]
    refine gone_end (r := ⟨0, 0⟩) he (by unfold goneR; rw [he, if_neg H0.out]) ((HV.out.1.trans (HU.out.1.mono HV.out.1.size)).grown hgr ?_ (fun k e => by cases e; rw [← HV.out.2.2.2.2.2]; omega))
    have h1 := HV.out.1.size; omega
end Go.Proofs.Ytmennjmjakdkcaa
namespace Go.Proofs.Ytmennjmjakdkcaa
open Go.RowKit
set_option linter.unusedVariables false
set_option linter.unusedSimpArgs false

/-- 'out = append(out, row)' -/
theorem wp_app_end {P : Program} {tt : TypeId} (E : ElemOk P tt 22 1 24) {ops : Array Oper} {rest : List Oper} {o : Oper} {a : Act} {Q : Exit → Act → World → Prop} {w0 w : World}
    (hgd : o.guard = none) (s x : Operand) (ho : o.op = .call { callee := .builtin .append, args := #[s, x], argTypes := #[tt, tt] })
    (base : Nat) (v u : Value) (ls : List (List Int)) (l : List Int) (hs : a.eval s = v) (hx : a.eval x = .slice (some ⟨w.heap.size, 0, none⟩) 1 1)
    (hown : EndG w0 base v ls) (hb0 : Below w0.heap.size w0 w) (hu : OwnI w w0.heap.size u l) (hll : ls.length < 4294967296) (hbase : base ≤ w0.heap.size)
    (h : ∀ v' w', EndG w' base v' (ls ++ [l]) → Below base w w' → (∀ (k : Nat) cs T, T ≠ 22 → w.heap[k]? = some (.cells cs T (0, 0)) → w'.heap[k]? = some (.cells cs T (0, 0))) → (∀ k, k < w.heap.size → v.ownBlock ≠ some k → w'.heap[k]? = w.heap[k]?) → wpList P ops Q rest (a.put o.dst v') w') :
    wpList P ops Q (o :: rest) a (w.alloc (.cells #[u] 22)) := by
  obtain ⟨mv, h1, h2, h4⟩ := hown
  have h1u : u.oneCell' = true := by
    rcases hu.2 with ⟨rfl, _⟩ | ⟨g, cap, cur, rfl, _⟩ <;> rfl
  have h1w := h1.below hb0 (Nat.le_refl _)
  have h2w : Rws w base mv ls := ⟨h2.1, fun i v hv => by obtain ⟨l, hl, ho⟩ := h2.2 i v hv; exact ⟨l, hl, ho.below hb0 (Nat.le_refl _)⟩⟩
  refine wp_appx (P := P) E hgd s x ho base v mv u #[u] hs hx rfl rfl (one_eVal h1u) h1w (by rw [h2.1]; exact hll) (by decide) (Nat.le_trans hbase hb0.size) ?_
  intro g' cap w' ho' hg hb
  refine h _ _ (EndG.snoc h1w h2w h4 hu hbase (fun x hx k hk => ?_) ho' hg) hb (fun k cs T hT hk => (hg.block k (heap_lt hk) fun e => ?_).trans hk) fun k hk hne => hg.block k hk (fun e => hne e.symm)
  · obtain ⟨i, hi⟩ := List.mem_iff_getElem?.1 hx
    obtain ⟨l', _, ho⟩ := h2.2 i x hi
    exact (ho.lt k hk).2
  · rcases h1w.2 with ⟨rfl, _⟩ | ⟨g, cap, cur, rfl, _, k2, _⟩
    · cases e
    · simp only [Value.ownBlock, Option.some.injEq] at e
      subst e
      rw [k2] at hk
      cases hk
      exact hT rfl

/-- a grid that reads as ls, the slice without a place has no room -/
def GridZ (w : World) (A : Option Addr) (n : Nat) (ls : List (List Int)) : Prop :=
  ∃ mv, Sl eVal 1 w A n mv ∧ mv.length = ls.length ∧ ∀ (i : Nat) v, mv[i]? = some v → ∃ B l c, ls[i]? = some l ∧ v = .slice B l.length c ∧ Ints w B l.length l ∧ l.length ≤ c ∧ c ≤ maxLen ∧ (B = none → c = 0)
theorem GridZ.below {w w' : World} {A : Option Addr} {n B : Nat} {ls : List (List Int)} (h : GridZ w A n ls) (hb : Below B w w') (hB : w.heap.size ≤ B) : GridZ w' A n ls := by
  obtain ⟨mv, h1, h2, h3⟩ := h
  exact ⟨mv, h1.below hb hB, h2, fun i v hv => by
    obtain ⟨C, l, c, a1, a2, a3, a4, a5, a6⟩ := h3 i v hv
    exact ⟨C, l, c, a1, a2, a3.below hb hB, a4, a5, a6⟩⟩
theorem GridZ.grid {w : World} {A : Option Addr} {n : Nat} {ls : List (List Int)} (h : GridZ w A n ls) : Grid w A n ls := by
  obtain ⟨mv, h1, h2, h3⟩ := h
  exact ⟨mv, h1, h2, fun i v hv => by
    obtain ⟨C, l, c, a1, a2, a3, a4, a5, a6⟩ := h3 i v hv
    exact ⟨C, l, c, a1, a2, a3, a4, a5⟩⟩
theorem GridZ.get {w : World} {A : Option Addr} {n : Nat} {ls : List (List Int)} (h : GridZ w A n ls) {k : Nat} (hk : k < n) :
    ∃ b off B l c, A = some ⟨b, off, none⟩ ∧ b < w.heap.size ∧ ls[k]? = some l ∧ w.cell? ⟨b, off + k, none⟩ = some (.slice B l.length c) ∧ Ints w B l.length l ∧ l.length ≤ c ∧ c ≤ maxLen ∧ (B = none → c = 0) := by
  obtain ⟨mv, h1, h2, h3⟩ := h
  obtain ⟨b, off, x, hA, hb, hx, hc⟩ := Vals.get h1 hk
  obtain ⟨B, l, c, a1, a2, a3, a4, a5, a6⟩ := h3 k x hx
  subst a2
  exact ⟨b, off, B, l, c, hA, hb, a1, hc, a3, a4, a5, a6⟩
theorem Own.formZ {α : Type} {enc : α → List Value} {e : TypeId} {sz : Nat} {w : World} {base : Nat} {v : Value} {l : List α} (h : Own enc e sz w base v l) (henc : ∀ x, (enc x).length = sz) : ∃ A c, v = .slice A l.length c ∧ Sl enc sz w A l.length l ∧ l.length ≤ c ∧ c ≤ maxLen ∧ (A = none → c = 0) := by
  obtain ⟨A, c, e, h1, h2, h3⟩ := h.form henc
  refine ⟨A, c, e, h1, h2, h3, fun hA => ?_⟩
  rcases h.2 with ⟨hv, _⟩ | ⟨g, cap, cur, hv, _⟩
  · rw [e] at hv; injection hv with _ _ e3
  · rw [e, hA] at hv; injection hv with e1; cases e1
theorem OwnG.formZ {w : World} {base : Nat} {v : Value} {ls : List (List Int)} (h : OwnG w base v ls) : ∃ A c, v = .slice A ls.length c ∧ GridZ w A ls.length ls ∧ ls.length ≤ c ∧ c ≤ maxLen ∧ (A = none → c = 0) := by
  obtain ⟨mv, h1, h2, h3⟩ := h
  obtain ⟨A, c, hv, hs, hc, hm, hz⟩ := h1.formZ lenVal
  rw [h2] at hv hs hc
  refine ⟨A, c, hv, ⟨mv, hs, h2, fun i v hv => ?_⟩, hc, hm, hz⟩
  obtain ⟨l, hl, ho⟩ := h3 i v hv
  obtain ⟨B, c', hv', hs', hc', hm', hz'⟩ := ho.formZ lenInt
  exact ⟨B, l, c', hl, hv', hs', hc', hm', hz'⟩

set_option maxRecDepth 100000 in
set_option maxHeartbeats 1000000 in
theorem copyGrid_any (A : Option Addr) (n c : Nat) (ls : List (List Int)) (w : World) (hl : GridZ w A n ls) (hn : n ≤ 1000) (hr : ∀ r ∈ ls, r.length ≤ 1000) :
    Calls Try.prog 50 #[.slice A n c] w fun e w' => (∃ v, e = .returned v ∧ EndG w' w.heap.size v ls) ∧ Below w.heap.size w w' := by
  have hlen : ls.length = n := hl.grid.len
  have HL := Lib.hid (And.intro hl (And.intro hlen hr))
  clear hl hlen hr
  go_enter Try.func50, Try.ntmps50
  go_wp2_with fail
  go_loopg [3, 4] n (fun g v3 v4 wr => ∃ k : Nat, k + g = n ∧ v4 = .int .i64 k ∧ EndG wr w.heap.size v3 (ls.take k) ∧ Below w.heap.size w wr)
  case atStart => exact ⟨0, by omega, rfl, by simpa using EndG.nil_, Below.refl _ _⟩
  case round =>
    obtain ⟨k, hk, rfl, hown, hB⟩ := hrel
    have hBz := hB.size
    by_cases hlt : k < n
    · obtain ⟨b, off, B, l, c', rfl, hbb, hl, hc, hi, hlc, hcm, hz⟩ := (HL.out.1.below hB (Nat.le_refl _)).get hlt
      have hll := HL.out.2.2 l (List.mem_of_getElem? hl)
      have hci := copyInts_any B l.length c' l wr hi hz (by omega)
      obtain ⟨m, hm⟩ : ∃ m, m = l.length := ⟨_, rfl⟩
      rw [← hm] at hc hci
      have htl : (ls.take k).length < 4294967296 := by rw [List.length_take]; omega
      have h1 : (k : Int) < (n : Int) := by omega
      have h2 : (n : Int) ≤ 1000 := by omega
      have HK := Lib.hid (And.intro hk (And.intro hown (And.intro hB (And.intro hl hm))))
      have HC := Lib.hid hci
      clear hk hown hB hl hm hci hi hll hlc hz
      go_wp2_with (first
        | (go_at_call 47; refine HC.out.mono ?_; rintro e w2 ⟨v2, rfl, hov, hb2⟩; obtain ⟨A2, c2, rfl, _, _, _⟩ := hov.form lenInt; have H2 := Lib.hid (And.intro hov hb2); clear hov hb2)
        | (at_builtin; refine wp_app_end okInts rfl (.tmp 11) (.tmp 17) rfl w.heap.size _ _ (ls.take k) _ rfl rfl HK.out.2.1 H2.out.2 H2.out.1 htl hBz ?_; intro v' w4 hown4 hb4 _ _; have H4 := Lib.hid (And.intro hown4 hb4); clear hown4 hb4))
      go_roundg (gk - 1)
      case measure => have := HK.out.1; omega
      case rel =>
        refine ⟨k + 1, by have := HK.out.1; omega, by go_num, ?_, HK.out.2.2.1.trans ((H2.out.2.mono hBz).trans (H4.out.2.mono ?_))⟩
        · rw [List.take_add_one, HK.out.2.2.2.1]; exact H4.out.1
        · exact Nat.le_refl _
    · obtain rfl : k = n := by omega
      have e : ls.take k = ls := List.take_of_length_le (by rw [HL.out.2.1]; exact Nat.le_refl _)
      rw [e] at hown
      have HF := Lib.hid (And.intro hown hB)
      clear hown hB e
      go_wp2_with fail
      go_ret
      exact ⟨⟨_, rfl, HF.out.1⟩, HF.out.2⟩
end Go.Proofs.Ytmennjmjakdkcaa
namespace Go.Proofs.Ytmennjmjakdkcaa
open Go.RowKit
set_option linter.unusedVariables false

theorem Own.ne {α : Type} {enc : α → List Value} {e e' : TypeId} {sz : Nat} {w : World} {base g n c : Nat} {l : List α} {b : Nat} {cs : Array Value} {x : Nat × Nat} (h : Own enc e sz w base (.slice (some ⟨g, 0, none⟩) n c) l) (hb : w.heap[b]? = some (.cells cs e' x)) (hne : e ≠ e') : g ≠ b := by
  intro hgb
  subst hgb
  rcases h.2 with ⟨hv, _⟩ | ⟨g', cap, cur, hv, hg, hh, _⟩
  · cases hv
  · cases hv
    rw [hh] at hb
    cases hb
    exact hne rfl

theorem Own.ne' {α : Type} {enc : α → List Value} {e e' : TypeId} {sz : Nat} {w : World} {base : Nat} {v : Value} {l : List α} {b : Nat} {cs : Array Value} {x : Nat × Nat} (h : Own enc e sz w base v l) (hb : w.heap[b]? = some (.cells cs e' x)) (hne : e ≠ e') : v.ownBlock ≠ some b := by
  intro hgb
  rcases h.2 with ⟨hv, _⟩ | ⟨g', cap, cur, hv, hg, hh, _⟩
  · rw [hv] at hgb; cases hgb
  · rw [hv] at hgb
    cases hgb
    rw [hh] at hb
    cases hb
    exact hne rfl

end Go.Proofs.Ytmennjmjakdkcaa

namespace Go.Proofs.Ytmennjmjakdkcaa
open Go.RowKit
set_option linter.unusedVariables false

end Go.Proofs.Ytmennjmjakdkcaa
