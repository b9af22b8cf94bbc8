/- TopCounted 25: HdGo, Gone, TcH. -/
import Derived.Test.YtgnjknihgjdedaaTc24
import Derived.Test.YtgnjknihgjdedaaTc05
import Derived.Test.YtgnjknihgjdedaaTc23
import Derived.Test.YtgnjknihgjdedaaTc04
namespace Go.Proofs.Ytgnjknihgjdedaa
open Go.RowKit Go.MapKept
set_option linter.unusedVariables false
set_option linter.unusedSimpArgs false

def sumE (b : Hb) (o : Int) : Int := if b.chk ≠ 0 then b.chk else if ownB b.l.length o = false then 3 else 0
def sumR (b : Hb) (o : Int) : Sm := if sumE b o = 0 then sumS b.hs o.toNat b.ds else ⟨0, 0, 0, 0, 0⟩
def SumR (b : Hb) (o : Int) (w : World) (e : Ending) (w' : World) : Prop := e = .returned (.tuple #[smV (sumR b o), .int .i64 (sumE b o)]) ∧ Below w.heap.size w w'
theorem sum_end {b : Hb} {o e : Int} {s : Sm} {w Z w' : World} {r : Nat} (he : sumE b o = e) (hs : sumR b o = s) (hb : Below w.heap.size w w') : SumR b o w (.returned (.tuple #[.agg #[.int .i64 s.first, .int .i64 s.born, .int .i64 s.bought, .int .i64 s.sold, .int .i64 s.eaten], .int .i64 e])) w' := by
  subst he hs; exact ⟨rfl, hb⟩
set_option maxRecDepth 100000 in
set_option maxHeartbeats 2000000 in
theorem Sum_any (b : Hb) (o : Int) (w : World) (hin : HbIn w b) : Calls Try.prog 65 #[b.v, .int .i64 o] w (SumR b o w) := by
  obtain ⟨g, hg⟩ : ∃ g, g = w.heap.size := ⟨_, rfl⟩
  obtain ⟨V, hV⟩ : ∃ V, V = (w.alloc b.obj).alloc (Obj.cells #[.int .i64 0, .int .i64 0, .int .i64 0, .int .i64 0, .int .i64 0] 132) := ⟨_, rfl⟩
  have b0 : V.heap[g]? = some b.obj := by rw [hV, hg]; exact hblk_alloc (alloc_at rfl) _
  have b1 : V.heap[g + 1]? = some (smO 0 0 0 0 0) := by rw [hV, hg]; exact alloc_at (by simp)
  have hBV : Below w.heap.size w V := by rw [hV]; exact bal (bal0 w _) (Nat.le_refl _) _
  have hiV := hin.below hBV (Nat.le_refl _)
  obtain ⟨c0, c1, c2, c3, c4⟩ := blk5c b0
  have hak := asked_any b V hiV
  unfold Hb.v at hak
  have HV := Lib.hid (And.intro hBV (And.intro b0 (And.intro b1 hg)))
  unfold Hb.v
  go_enter Try.func65, Try.ntmps65
  go_upto_region 1 with (fail)
  rw [← hV, ← hg]
  clear hV hg hin hBV hiV b0 b1
  obtain ⟨R, hR⟩ : ∃ R, R = AskedR b b.chk V := ⟨_, rfl⟩
  rw [← hR] at hak
  have HR := Lib.hid hR
  clear hR
  go_upto_region 2 with (go_at_call 54; refine hak.mono ?_; rintro e w2 hRR; rw [HR.out] at hRR; unfold AskedR at hRR; rcases hRR with ⟨h0, rfl, hb2⟩ | ⟨h0, p, rfl, hWk, hb2⟩)
  · have xf : (b.chk == 0) = false := by simp [h0]
    have xg : (b.chk != 0) = true := by simp [h0]
    have y1 := bheap HV.out.2.2.1 hb2 (Nat.le_refl _)
    obtain ⟨z0, z1, z2, z3, z4⟩ := blk5c y1
    obtain ⟨f0, f1, f2, f3, f4⟩ := And.intro (frz y1 0) (And.intro (frz y1 1) (And.intro (frz y1 2) (And.intro (frz y1 3) (frz y1 4))))
    have hl1 := heap_lt y1
    have H2 := Lib.hid (And.intro h0 (And.intro hb2 y1))
    clear h0 hb2 y1 hak c0 c1 c2 c3 c4
    go_wp2_with fail
    obtain ⟨Z, hZ⟩ : ∃ Z, Z = (((((w2.setCell ⟨g + 1, 0, none⟩ (.int .i64 0)).setCell ⟨g + 1, 1, none⟩ (.int .i64 0)).setCell ⟨g + 1, 2, none⟩ (.int .i64 0)).setCell ⟨g + 1, 3, none⟩ (.int .i64 0)).setCell ⟨g + 1, 4, none⟩ (.int .i64 0)) := ⟨_, rfl⟩
    rw [← hZ]
    have bZ : Z.heap[g + 1]? = some (smO 0 0 0 0 0) := by rw [hZ]; exact (set_blk (set_blk (set_blk (set_blk (set_blk H2.out.2.2))))).trans (by simp)
    have hgr : w2.grownBy Z (some (g + 1)) := by rw [hZ]; exact ((((grownBy_cell _ _ _ _).trans (grownBy_cell _ _ _ _)).trans (grownBy_cell _ _ _ _)).trans (grownBy_cell _ _ _ _)).trans (grownBy_cell _ _ _ _)
    obtain ⟨q0, q1, q2, q3, q4⟩ := blk5c bZ
    clear hZ
    refine bodyPost_ret (v := .tuple #[.agg #[.int .i64 0, .int .i64 0, .int .i64 0, .int .i64 0, .int .i64 0], .int .i64 b.chk]) (by simp [results, Try.f65, go_sem, q0, q1, q2, q3, q4]) rfl ?_
    have he : sumE b o = b.chk := by unfold sumE; rw [if_pos H2.out.1]
    refine sum_end (s := ⟨0, 0, 0, 0, 0⟩) (Z := w) (r := 0) he (by unfold sumR; rw [he, if_neg H2.out.1]) ((HV.out.1.trans (H2.out.2.1.mono HV.out.1.size)).grown hgr ?_ (fun k e => by cases e; rw [← HV.out.2.2.2]; omega))
    have h1 := HV.out.1.size; have h2 := H2.out.2.1.size; omega
  have y0 := bheap HV.out.2.1 hb2 (Nat.le_refl _)
  have y1 := bheap HV.out.2.2.1 hb2 (Nat.le_refl _)
  clear c0 c1 c2 c3 c4 hak
  obtain ⟨z0, z1, z2, z3, z4⟩ := blk5c y1
  obtain ⟨f0, f1, f2, f3, f4⟩ := And.intro (frz y1 0) (And.intro (frz y1 1) (And.intro (frz y1 2) (And.intro (frz y1 3) (frz y1 4))))
  have hl1 := heap_lt y1
  obtain ⟨now, hp⟩ := hWk.hp
  obtain ⟨T, hT⟩ : ∃ T, T = w2.alloc (Obj.cells #[Value.int .i64 o] 3) := ⟨_, rfl⟩
  have hbT : Below w2.heap.size w2 T := by rw [hT]; exact bal0 w2 _
  have hio := isOwner_any p .nilFunc b.t b.A b.l.length b.c b.vk b.vh b.vd (-1) 0 now (some ⟨w2.heap.size, 0, none⟩) 1 1 [o] T (bheap hp hbT (Nat.le_refl _)) (by rw [hT]; exact ints1 w2 3 o) (Nat.le_trans hWk.inn.mc hWk.inn.mm) (by unfold maxLen; omega)
  simp only [List.all_cons, List.all_nil, Bool.and_true] at hio
  obtain ⟨ob, hob⟩ : ∃ ob, ob = ownB b.l.length o := ⟨_, rfl⟩
  rw [← hob] at hio
  have y1T := bheap y1 hbT (Nat.le_refl _)
  have hWT := hWk.below hbT (Nat.le_refl _)
  have H2 := Lib.hid (And.intro h0 (And.intro (hb2.trans (hbT.mono hb2.size)) (And.intro y1T (And.intro hWT hob))))
  have hpl := hWk.lt
  have hzz := hb2.size
  clear h0 hb2 y0 y1 hp hWk hob hWT
  obtain ⟨z0', z1', z2', z3', z4'⟩ := blk5c y1T
  obtain ⟨f0', f1', f2', f3', f4'⟩ := And.intro (frz y1T 0) (And.intro (frz y1T 1) (And.intro (frz y1T 2) (And.intro (frz y1T 3) (frz y1T 4))))
  have hl1' := heap_lt y1T
  have HT := Lib.hid hT
  clear hbT y1T hT
  go_upto_if 21 with (go_at_call 99; rw [← HT.out]; refine hio.mono ?_; rintro e w3 ⟨rfl, rfl⟩)
  cases ob with
  | false =>
    clear z0 z1 z2 z3 z4 f0 f1 f2 f3 f4 hl1 hio
    go_wp2_with fail
    obtain ⟨Z, hZ⟩ : ∃ Z, Z = (((((T.setCell ⟨g + 1, 0, none⟩ (.int .i64 0)).setCell ⟨g + 1, 1, none⟩ (.int .i64 0)).setCell ⟨g + 1, 2, none⟩ (.int .i64 0)).setCell ⟨g + 1, 3, none⟩ (.int .i64 0)).setCell ⟨g + 1, 4, none⟩ (.int .i64 0)) := ⟨_, rfl⟩
    rw [← hZ]
    have bZ : Z.heap[g + 1]? = some (smO 0 0 0 0 0) := by rw [hZ]; exact (set_blk (set_blk (set_blk (set_blk (set_blk H2.out.2.2.1))))).trans (by simp)
    have hgr : T.grownBy Z (some (g + 1)) := by rw [hZ]; exact ((((grownBy_cell _ _ _ _).trans (grownBy_cell _ _ _ _)).trans (grownBy_cell _ _ _ _)).trans (grownBy_cell _ _ _ _)).trans (grownBy_cell _ _ _ _)
    obtain ⟨q0, q1, q2, q3, q4⟩ := blk5c bZ
    clear hZ
    refine bodyPost_ret (v := .tuple #[.agg #[.int .i64 0, .int .i64 0, .int .i64 0, .int .i64 0, .int .i64 0], .int .i64 3]) (by simp [results, Try.f65, go_sem, q0, q1, q2, q3, q4]) rfl ?_
    have he : sumE b o = 3 := by unfold sumE; rw [if_neg (by rw [H2.out.1]; simp), if_pos H2.out.2.2.2.2.symm]
    refine sum_end (s := ⟨0, 0, 0, 0, 0⟩) (Z := w) (r := 0) he (by unfold sumR; rw [he, if_neg (by decide)]) ((HV.out.1.trans (H2.out.2.1.mono HV.out.1.size)).grown hgr ?_ (fun k e => by cases e; rw [← HV.out.2.2.2]; omega))
    have h1 := HV.out.1.size; have h2 := H2.out.2.1.size; omega
  | true =>
    obtain ⟨ho0, ho1⟩ := ownB_iff.1 H2.out.2.2.2.2.symm
    obtain ⟨k, rfl⟩ := Int.eq_ofNat_of_zero_le ho0
    have hok := H2.out.2.2.2.1.ok
    have hk5 : k < 5 := by have := hok.n5; omega
    have hsm := sum_any V p b (-1) 0 T H2.out.2.2.2.1 k hk5
    clear z0 z1 z2 z3 z4 f0 f1 f2 f3 f4 hl1 hio z0' z1' z2' z3' z4' f0' f1' f2' f3' f4' hl1' ho0 ho1 hok
    obtain ⟨sv, hsv⟩ : ∃ sv, sv = sumS b.hs k b.ds := ⟨_, rfl⟩
    rw [← hsv] at hsm
    have HS := Lib.hid hsv
    clear hsv
    go_wp2_with (go_at_call 100; refine hsm.mono ?_; rintro e w3 ⟨rfl, hb3⟩; unfold smV; have y1 := bheap H2.out.2.2.1 hb3 (Nat.le_refl _); obtain ⟨z0, z1, z2, z3, z4⟩ := blk5c y1; obtain ⟨f0, f1, f2, f3, f4⟩ := And.intro (frz y1 0) (And.intro (frz y1 1) (And.intro (frz y1 2) (And.intro (frz y1 3) (frz y1 4)))); have hl1 := heap_lt y1; have H3 := Lib.hid (And.intro y1 hb3); clear y1 hb3)
    obtain ⟨Z, hZ⟩ : ∃ Z, Z = (((((w3.setCell ⟨g + 1, 0, none⟩ (.int .i64 sv.first)).setCell ⟨g + 1, 1, none⟩ (.int .i64 sv.born)).setCell ⟨g + 1, 2, none⟩ (.int .i64 sv.bought)).setCell ⟨g + 1, 3, none⟩ (.int .i64 sv.sold)).setCell ⟨g + 1, 4, none⟩ (.int .i64 sv.eaten)) := ⟨_, rfl⟩
    rw [← hZ]
    have bZ : Z.heap[g + 1]? = some (smO sv.first sv.born sv.bought sv.sold sv.eaten) := by rw [hZ]; exact (set_blk (set_blk (set_blk (set_blk (set_blk H3.out.1))))).trans (by simp)
    have hgr : w3.grownBy Z (some (g + 1)) := by rw [hZ]; exact ((((grownBy_cell _ _ _ _).trans (grownBy_cell _ _ _ _)).trans (grownBy_cell _ _ _ _)).trans (grownBy_cell _ _ _ _)).trans (grownBy_cell _ _ _ _)
    obtain ⟨q0, q1, q2, q3, q4⟩ := blk5c bZ
    clear hZ
    refine bodyPost_ret (v := .tuple #[.agg #[.int .i64 sv.first, .int .i64 sv.born, .int .i64 sv.bought, .int .i64 sv.sold, .int .i64 sv.eaten], .int .i64 0]) (by simp [results, Try.f65, go_sem, q0, q1, q2, q3, q4]) rfl ?_
    have he : sumE b k = 0 := by unfold sumE; rw [if_neg (by rw [H2.out.1]; simp), if_neg (by rw [← H2.out.2.2.2.2]; simp)]
    have hbb : Below w.heap.size w w3 := (HV.out.1.trans (H2.out.2.1.mono HV.out.1.size)).trans (H3.out.2.mono (Nat.le_trans HV.out.1.size H2.out.2.1.size))
    refine sum_end (s := sv) (Z := w) (r := 0) he (by unfold sumR; rw [he, if_pos rfl, HS.out]; rfl) (hbb.grown hgr ?_ (fun k e => by cases e; rw [← HV.out.2.2.2]; omega))
    exact hbb.size
end Go.Proofs.Ytgnjknihgjdedaa
namespace Go.Proofs.Ytgnjknihgjdedaa
open Go.RowKit Go.MapKept
set_option linter.unusedVariables false
set_option linter.unusedSimpArgs false

def TBl (n : Nat) (w w' : World) : Prop := Below w.heap.size w w'
theorem TBl.tr : ∀ n a b c, TBl n a b → TBl 1 b c → TBl (n + 1) a c := fun n a b c h k => Below.trans h (Below.mono k (Below.size h))
theorem TBl.rf : ∀ w, TBl 1 w w := fun w => Below.refl _ _
theorem TBl.draw (w : World) : TBl 0 w { w with drawn := w.drawn + 1 } := bdraw (Below.refl _ _)
set_option maxRecDepth 100000 in
set_option maxHeartbeats 1000000 in
theorem goneF_any (x : List Int) (all : Int) (o q1 q2 : Nat) (W : World) (hx : HBd 1000 x) (ho : o < 5) (ha : -100000 ≤ all ∧ all ≤ 100000) (h1 : W.heap[q1]? = some (Obj.cells #[.int .i64 all] 3 (0, 0))) (h2 : W.heap[q2]? = some (Obj.cells #[.int .i64 (o : Int)] 3 (0, 0))) :
    Calls Try.prog 67 (#[.agg (hcs x)] ++ #[.pointer (some ⟨q1, 0, none⟩), .pointer (some ⟨q2, 0, none⟩)]) W fun e W' => e = .returned (.int .i64 (all - howned x o)) ∧ Below W.heap.size W W' := by
  have hl := hx.1
  obtain ⟨V, hV⟩ : ∃ V, V = W.alloc (Obj.cells (hcs x) 126) := ⟨_, rfl⟩
  obtain ⟨g, hg⟩ : ∃ g, g = W.heap.size := ⟨_, rfl⟩
  have b0 : V.heap[g]? = some (hObj x) := by rw [hV, hg]; exact alloc_at rfl
  have b1 : V.heap[q1]? = some (Obj.cells #[.int .i64 all] 3 (0, 0)) := by rw [hV]; exact hblk_alloc h1 _
  have b2 : V.heap[q2]? = some (Obj.cells #[.int .i64 (o : Int)] 3 (0, 0)) := by rw [hV]; exact hblk_alloc h2 _
  have hBV : Below W.heap.size W V := by rw [hV]; exact bal0 W _
  have HV := Lib.hid (And.intro hBV hx)
  obtain ⟨ow, how⟩ : ∃ ow, ow = howned x o := ⟨_, rfl⟩
  have hob : 0 ≤ ow ∧ ow ≤ 3000 := by
    have a0 := hx.get (show 0 < 3 by decide) ho
    have a1 := hx.get (show 1 < 3 by decide) ho
    have a2 := hx.get (show 2 < 3 by decide) ho
    rw [how]; unfold howned; omega
  rw [← how]
  have HO := Lib.hid how
  simp only [List.append_toArray, List.cons_append, List.nil_append]
  clear h1 h2 hBV hx how
  go_enter Try.func67, Try.ntmps67
  go_upto_region 1 with (fail)
  rw [← hV, ← hg]
  clear hV hg
  have HB := Lib.hid (And.intro b0 (And.intro b1 b2))
  have HC : Hid (∀ k w', TBl k V w' → w'.cell? ⟨q1, 0, none⟩ = some (.int .i64 all) ∧ w'.cell? ⟨q2, 0, none⟩ = some (.int .i64 (o : Int)) ∧ w'.heap[g]? = some (hObj x)) :=
    Lib.hid fun k w' h => ⟨blk1 (bheap HB.out.2.1 h (Nat.le_refl _)), blk1 (bheap HB.out.2.2 h (Nat.le_refl _)), bheap HB.out.1 h (Nat.le_refl _)⟩
  clear b0 b1 b2
  refine wp_region_inv (TBl) (by kernel_rfl) (by kernel_rfl) TBl.tr (TBl.draw _) ?_
  apply Exists.intro
  refine ⟨fun ys => ?_, fun ops K hK => ?_⟩
  · simp only [dstsOf, List.filterMap_cons, List.filterMap_nil, putAll]
    go_simp
    rfl
  refine LexI.const TBl.rf ?_
  refine ⟨.int .i64 all, fun n' ys w' hn' hT hd => ?_, ?_⟩
  · try simp [DepsOf, depsGo, DF.holds, Region.binds, EqF] at hd
    try simp only [hd]
    obtain ⟨y0, y1, -⟩ := HC.out n' w' hT
    intro Q2 hQ2
    go_wp2_with fail
    try rfl
  try simp only [List.nil_append, List.cons_append]
  refine LexI.some (EqF (.agg (hcs x))) (EqF.st) (fun n' ys w' hn' hT hd => ?_) ?_
  · try simp [DepsOf, depsGo, DF.holds, Region.binds, EqF] at hd
    try simp only [hd]
    obtain ⟨-, -, bh⟩ := HC.out n' w' hT
    intro Q2 hQ2
    go_wp2_with ((with_reducible apply wp_loadH bh hl); (rfl); (rfl); (rfl))
    exact ⟨TBl.rf _, rfl⟩
  try simp only [List.nil_append, List.cons_append]
  refine LexI.const TBl.rf ?_
  refine ⟨.int .i64 o, fun n' ys w' hn' hT hd => ?_, ?_⟩
  · try simp [DepsOf, depsGo, DF.holds, Region.binds, EqF] at hd
    try simp only [hd]
    obtain ⟨y0, y1, -⟩ := HC.out n' w' hT
    intro Q2 hQ2
    go_wp2_with fail
    try rfl
  try simp only [List.nil_append, List.cons_append]
  refine LexI.some (EqF (.int .i64 ow)) (EqF.st) (fun n' ys w' hn' hT hd => ?_) ?_
  · try simp [DepsOf, depsGo, DF.holds, Region.binds, EqF] at hd
    try simp only [hd]
    intro Q2 hQ2
    go_wp2_with fail
    refine (owned_any x o w' HV.out.2 ho).mono ?_
    rintro e wU ⟨rfl, hb⟩
    rw [← HO.out]
    go_wp2
    exact ⟨_, rfl, hb, rfl⟩
  try simp only [List.nil_append, List.cons_append]
  refine LexI.some (EqF (.int .i64 (all - ow))) (EqF.st) (fun n' ys w' hn' hT hd => ?_) ?_
  · try simp [DepsOf, depsGo, DF.holds, Region.binds, EqF] at hd
    try simp only [hd]
    intro Q2 hQ2
    go_wp2_with fail
    exact ⟨TBl.rf _, rfl⟩
  try simp only [List.nil_append, List.cons_append]
  refine LexI.some (EqF (.int .i64 (all - ow))) (EqF.st) (fun n' ys w' hn' hT hd => ?_) ?_
  · try simp [DepsOf, depsGo, DF.holds, Region.binds, EqF] at hd
    try simp only [hd]
    intro Q2 hQ2
    go_wp2_with fail
    exact ⟨TBl.rf _, rfl⟩
  try simp only [List.nil_append, List.cons_append]
  refine hK _ (fun n' ys wc hn' hT hF => ?_)
  simp only [AllF, DF.holds] at hF
  obtain ⟨-, -, -, -, -, h4, -⟩ := hF
  unfold EqF at h4
  rw [h4]
  have HT := Lib.hid hT
  clear hT h4
  go_wp2
  go_ret
  exact ⟨rfl, HV.out.1.trans (Below.mono HT.out HV.out.1.size)⟩

def goneE (b : Hb) (o : Int) : Int := if sumE b o ≠ 0 then sumE b o else if b.ends (-1) 0 = [] then 11 else 0
def goneR (b : Hb) (o : Int) : Rn := if goneE b o = 0 then rangeE (b.ends (-1) 0) (fun h => hasS (sumS b.hs o.toNat b.ds) - howned h o.toNat) else ⟨0, 0⟩
def GoneR (b : Hb) (o : Int) (w : World) (e : Ending) (w' : World) : Prop := e = .returned (.tuple #[.agg #[.int .i64 (goneR b o).lo, .int .i64 (goneR b o).hi], .int .i64 (goneE b o)]) ∧ Below w.heap.size w w'
theorem gone_end {b : Hb} {o e : Int} {r : Rn} {w w' : World} (he : goneE b o = e) (hr : goneR b o = r) (hb : Below w.heap.size w w') : GoneR b o w (.returned (.tuple #[.agg #[.int .i64 r.lo, .int .i64 r.hi], .int .i64 e])) w' := by
  subst he hr; exact ⟨rfl, hb⟩
set_option maxRecDepth 100000 in
set_option maxHeartbeats 2000000 in
theorem Gone_any (b : Hb) (o : Int) (w : World) (hin : HbIn w b) : Calls Try.prog 29 #[b.v, .int .i64 o] w (GoneR b o w) := by
  obtain ⟨g, hg⟩ : ∃ g, g = w.heap.size := ⟨_, rfl⟩
  obtain ⟨V, hV⟩ : ∃ V, V = ((w.alloc b.obj).alloc (Obj.cells #[Value.int .i64 o] 3)).alloc (Obj.cells #[.int .i64 0, .int .i64 0] 26) := ⟨_, rfl⟩
  have b0 : V.heap[g]? = some b.obj := by rw [hV, hg]; exact hblk_alloc (hblk_alloc (alloc_at rfl) _) _
  have b1 : V.heap[g + 1]? = some (Obj.cells #[Value.int .i64 o] 3 (0, 0)) := by rw [hV, hg]; exact hblk_alloc (alloc_at (by simp)) _
  have b2 : V.heap[g + 1 + 1]? = some (Obj.cells #[.int .i64 0, .int .i64 0] 26 (0, 0)) := by rw [hV, hg]; exact alloc_at (by simp)
  have hBV : Below w.heap.size w V := by rw [hV]; exact bal (bal (bal0 w _) (Nat.le_refl _) _) (Nat.le_refl _) _
  have hiV := hin.below hBV (Nat.le_refl _)
  obtain ⟨c0, c1, c2, c3, c4⟩ := blk5c b0
  have p0 := blk1 b1
  have hsm := Sum_any b o V hiV
  unfold Hb.v at hsm
  have HV := Lib.hid (And.intro hBV (And.intro b0 (And.intro b1 (And.intro b2 (And.intro hiV hg)))))
  unfold Hb.v
  go_enter Try.func29, Try.ntmps29
  go_upto_region 1 with (fail)
  rw [← hV, ← hg]
  clear hV hg hin hBV hiV b0 b1 b2
  obtain ⟨se, hse⟩ : ∃ se, se = sumE b o := ⟨_, rfl⟩
  obtain ⟨sv, hsv⟩ : ∃ sv, sv = sumR b o := ⟨_, rfl⟩
  unfold SumR at hsm
  rw [← hse, ← hsv] at hsm
  have HS := Lib.hid (And.intro hse hsv)
  clear hse hsv
  go_upto_region 2 with (go_at_call 65; refine hsm.mono ?_; rintro e w2 ⟨rfl, hb2⟩; unfold smV)
  obtain ⟨S, hS⟩ : ∃ S, S = w2.heap.size := ⟨_, rfl⟩
  obtain ⟨U, hU⟩ : ∃ U, U = w2.alloc (Obj.cells #[Value.int .i64 sv.first, .int .i64 sv.born, .int .i64 sv.bought, .int .i64 sv.sold, .int .i64 sv.eaten] 132) := ⟨_, rfl⟩
  rw [← hU, ← hS]
  have hbU : Below V.heap.size V U := by rw [hU]; exact bal hb2 (Nat.le_refl _) _
  have bS : U.heap[S]? = some (smO sv.first sv.born sv.bought sv.sold sv.eaten) := by rw [hU, hS]; exact alloc_at rfl
  have hVS : V.heap.size ≤ S := by rw [hS]; exact hb2.size
  have b0 := bheap HV.out.2.1 hbU (Nat.le_refl _)
  have b1 := bheap HV.out.2.2.1 hbU (Nat.le_refl _)
  have b2 := bheap HV.out.2.2.2.1 hbU (Nat.le_refl _)
  have HU := Lib.hid (And.intro hbU (And.intro bS (And.intro hVS (And.intro b0 (And.intro b1 b2)))))
  clear c0 c1 c2 c3 c4 p0 hsm hb2 hU hS hbU bS hVS
  obtain ⟨c0, c1, c2, c3, c4⟩ := blk5c b0
  obtain ⟨s0, s1, s2, s3, s4⟩ := blk5c HU.out.2.1
  obtain ⟨r0, r1⟩ := blk2 b2
  obtain ⟨fr0, fr1⟩ := And.intro (frz b2 0) (frz b2 1)
  have hl2 := heap_lt b2
  have hzz := HU.out.1.size
  clear b0 b1 b2
  by_cases h0 : se = 0
  · subst h0
    have h0 : b.chk = 0 ∧ ownB b.l.length o = true := by
      have h := HS.out.1
      unfold sumE at h
      split at h
      · rename_i hc; exact absurd h.symm hc
      · rename_i hc
        split at h
        · cases h
        · rename_i hc2; exact ⟨Classical.not_not.1 hc, by simpa using hc2⟩
    have hok := checkH_ok h0.1
    obtain ⟨ho0, ho1⟩ := ownB_iff.1 h0.2
    obtain ⟨k, rfl⟩ := Int.eq_ofNat_of_zero_le ho0
    have hk5 : k < 5 := by have := hok.n5; omega
    have hsv : sv = sumS b.hs k b.ds := by rw [HS.out.2]; unfold sumR; rw [← HS.out.1, if_pos rfl]; rfl
    have hfb : HBd 20 (firstH b.hs) := firstH_bd hok.rb
    have hsb := sumS_bd (hs := b.hs) (o := k) (ds := b.ds) (by
      have a0 := hfb.get (show 0 < 3 by decide) hk5
      have a1 := hfb.get (show 1 < 3 by decide) hk5
      have a2 := hfb.get (show 2 < 3 by decide) hk5
      unfold howned; omega) (fun d hd => by have := (hok.dI d hd).m; omega) b.ds.length (Nat.le_refl _)
    rw [List.take_length, ← hsv] at hsb
    have hd6 := hok.d6
    obtain ⟨x1, x2, x3, x4, x5⟩ := sv
    obtain ⟨⟨l1, u1⟩, ⟨l2, u2⟩, ⟨l3, u3⟩, ⟨l4, u4⟩, l5, u5⟩ := hsb
    dsimp only at l1 u1 l2 u2 l3 u3 l4 u4 l5 u5 s0 s1 s2 s3 s4
    have hB : (3000 : Int) + 300 * (b.ds.length : Int) ≤ 4800 := by omega
    have v1 := Int.le_trans u1 hB
    have v2 := Int.le_trans u2 hB
    have v3 := Int.le_trans u3 hB
    have v4 := Int.le_trans u4 hB
    have v5 := Int.le_trans u5 hB
    have H0 := Lib.hid (And.intro h0.1 (And.intro hsv hok))
    have hent : ∀ (args : Array Value) (w : World), (callFunc 67 args).run Try.prog w = .ok (.enter 67 args) w := enters_of Try.func67 (by kernel_rfl) rfl
    have HENT := Lib.hid hent
    clear h0 hok ho0 ho1 hsv hfb hd6 u1 u2 u3 u4 u5 hB hent
    go_upto_region 5 with (fail)
    obtain ⟨all, hall'⟩ : ∃ a, a = x1 + x2 + x3 - x4 - x5 := ⟨_, rfl⟩
    have hab : -100000 ≤ all ∧ all ≤ 100000 := by omega
    rw [← hall']
    obtain ⟨q, hq⟩ : ∃ q, q = U.heap.size := ⟨_, rfl⟩
    obtain ⟨T, hT⟩ : ∃ T, T = U.alloc (Obj.cells #[Value.int .i64 all] 3) := ⟨_, rfl⟩
    rw [← hT, ← hq]
    have hbT : Below V.heap.size V T := by rw [hT]; exact bal HU.out.1 (Nat.le_refl _) _
    have bq : T.heap[q]? = some (Obj.cells #[Value.int .i64 all] 3 (0, 0)) := by rw [hT, hq]; exact alloc_at rfl
    have b0 := bheap HV.out.2.1 hbT (Nat.le_refl _)
    have b1 := bheap HV.out.2.2.1 hbT (Nat.le_refl _)
    have b2 := bheap HV.out.2.2.2.1 hbT (Nat.le_refl _)
    have hVq : V.heap.size ≤ q := by rw [hq]; exact HU.out.1.size
    have hiT := HV.out.2.2.2.2.1.below hbT (Nat.le_refl _)
    have HT := Lib.hid (And.intro hbT (And.intro bq (And.intro b1 (And.intro b2 (And.intro hiT (And.intro hall' hVq))))))
    have hbg := begin_any b T
    unfold Hb.v at hbg
    clear hT hq hbT bq b1 b2 hVq hiT hall' s0 s1 s2 s3 s4 c0 c1 c2 c3 c4 r0 r1 fr0 fr1 hl2
    obtain ⟨c0, c1, c2, c3, c4⟩ := blk5c b0
    clear b0
    obtain ⟨bE, hbE⟩ : ∃ bE, bE = !decide (b.ends (-1) 0 = []) := ⟨_, rfl⟩
    have HBE := Lib.hid hbE
    clear hbE
    go_upto_if 43 with (first
      | (go_at_call 58; refine hbg.mono ?_; rintro e w3 ⟨p, rfl, hp, hpb, hb3⟩; have hWk : Work T p b (-1) 0 w3 := ⟨HT.out.2.2.2.2.1, hp, hb3, ⟨_, hpb⟩, H0.out.1⟩; have bq3 := bheap HT.out.2.1 hb3 (Nat.le_refl _); have bo3 := bheap HT.out.2.2.1 hb3 (Nat.le_refl _); have hqp := heap_lt HT.out.2.1; have hop := heap_lt HT.out.2.2.1; have H3 := Lib.hid (And.intro hWk (And.intro bq3 (And.intro bo3 hb3))); clear hpb hb3 hWk bq3 bo3)
      | (go_at_call 66; refine (span_any T p b (-1) 0 w3 H3.out.1 67 #[.pointer (some ⟨q, 0, none⟩), .pointer (some ⟨g + 1, 0, none⟩)] (fun h => all - howned h k) HENT.out (fun x hx W hN => goneF_any x all k q (g + 1) W (hb_of H0.out.2.2 x hx) hk5 hab (hN.blk H3.out.2.1 (by omega)) (hN.blk H3.out.2.2.1 (by omega)))).mono ?_; rintro e w4 ⟨rfl, hN4⟩; rw [← HBE.out]))
    obtain ⟨rg, hrg⟩ : ∃ rg, rg = rangeE (b.ends (-1) 0) (fun h => all - howned h k) := ⟨_, rfl⟩
    rw [← hrg]
    obtain ⟨Y, hY⟩ : ∃ Y, Y = w4.alloc (Obj.cells #[Value.int .i64 rg.lo, .int .i64 rg.hi] 26) := ⟨_, rfl⟩
    obtain ⟨y, hy⟩ : ∃ y, y = w4.heap.size := ⟨_, rfl⟩
    rw [← hY, ← hy]
    have bY : Y.heap[y]? = some (Obj.cells #[Value.int .i64 rg.lo, .int .i64 rg.hi] 26 (0, 0)) := by rw [hY, hy]; exact alloc_at rfl
    have hg2 : g + 1 + 1 < T.heap.size := heap_lt HT.out.2.2.2.1
    have b2Y : Y.heap[g + 1 + 1]? = some (Obj.cells #[.int .i64 0, .int .i64 0] 26 (0, 0)) := by rw [hY]; exact hblk_alloc (hN4.blk (bheap HT.out.2.2.2.1 H3.out.2.2.2 (Nat.le_refl _)) (by omega)) _
    have hBY : Below w.heap.size w Y := by
      have h1 := HV.out.1
      have h2 := HT.out.1
      have h3 := H3.out.2.2.2
      have h4 : Below T.heap.size w3 w4 := hN4.less hp h3.size
      have h5 : Below w4.heap.size w4 Y := by rw [hY]; exact bal0 w4 _
      have s1 := h1.size; have s2 := h2.size; have s3 := h3.size; have s4 := h4.size
      exact (h1.trans (h2.mono s1)).trans (((h3.mono (by omega)).trans (h4.mono (by omega))).trans (h5.mono (by omega)))
    have HRG := Lib.hid (And.intro hrg hp)
    have HY := Lib.hid (And.intro b2Y hBY)
    obtain ⟨y0, y1⟩ := blk2 bY
    obtain ⟨r0, r1⟩ := blk2 b2Y
    obtain ⟨fr0, fr1⟩ := And.intro (frz b2Y 0) (frz b2Y 1)
    have hl2 := heap_lt b2Y
    clear hrg hY hy bY b2Y hBY hN4 hp
    have hse : sumE b k = 0 := HS.out.1.symm
    cases bE with
    | false =>
      go_wp2_with fail
      obtain ⟨Z, hZ⟩ : ∃ Z, Z = (Y.setCell ⟨g + 1 + 1, 0, none⟩ (.int .i64 0)).setCell ⟨g + 1 + 1, 1, none⟩ (.int .i64 0) := ⟨_, rfl⟩
      rw [← hZ]
      have bZ : Z.heap[g + 1 + 1]? = some (Obj.cells #[.int .i64 0, .int .i64 0] 26 (0, 0)) := by rw [hZ]; exact (set_blk (set_blk HY.out.1)).trans (by simp)
      have hgr : Y.grownBy Z (some (g + 1 + 1)) := by rw [hZ]; exact (grownBy_cell _ _ _ _).trans (grownBy_cell _ _ _ _)
      obtain ⟨q0, q1⟩ := blk2 bZ
      clear hZ
      refine bodyPost_ret (v := .tuple #[.agg #[.int .i64 0, .int .i64 0], .int .i64 11]) (by simp [results, Try.f29, go_sem, q0, q1]) rfl ?_
      have hE : b.ends (-1) 0 = [] := by have h := HBE.out; simpa using h.symm
      have he : goneE b k = 11 := by unfold goneE; rw [if_neg (by rw [hse]; simp), if_pos hE]
      exact gone_end (r := ⟨0, 0⟩) he (by unfold goneR; rw [he, if_neg (by decide)]) (HY.out.2.grown hgr HY.out.2.size (fun k e => by cases e; rw [← HV.out.2.2.2.2.2]; omega))
    | true =>
      go_wp2_with fail
      obtain ⟨Z, hZ⟩ : ∃ Z, Z = (Y.setCell ⟨g + 1 + 1, 0, none⟩ (.int .i64 rg.lo)).setCell ⟨g + 1 + 1, 1, none⟩ (.int .i64 rg.hi) := ⟨_, rfl⟩
      rw [← hZ]
      have bZ : Z.heap[g + 1 + 1]? = some (Obj.cells #[.int .i64 rg.lo, .int .i64 rg.hi] 26 (0, 0)) := by rw [hZ]; exact (set_blk (set_blk HY.out.1)).trans (by simp)
      have hgr : Y.grownBy Z (some (g + 1 + 1)) := by rw [hZ]; exact (grownBy_cell _ _ _ _).trans (grownBy_cell _ _ _ _)
      obtain ⟨q0, q1⟩ := blk2 bZ
      clear hZ
      refine bodyPost_ret (v := .tuple #[.agg #[.int .i64 rg.lo, .int .i64 rg.hi], .int .i64 0]) (by simp [results, Try.f29, go_sem, q0, q1]) rfl ?_
      have hE : b.ends (-1) 0 ≠ [] := by have h := HBE.out; simpa using h
      have he : goneE b k = 0 := by unfold goneE; rw [if_neg (by rw [hse]; simp), if_neg hE]
      exact gone_end (r := rg) he (by unfold goneR; rw [he, if_pos rfl, HRG.out.1, HT.out.2.2.2.2.2.1]; show rangeE _ (fun h => hasS (sumS b.hs k b.ds) - howned h k) = _; rw [← H0.out.2.1]; rfl) (HY.out.2.grown hgr HY.out.2.size (fun k e => by cases e; rw [← HV.out.2.2.2.2.2]; omega))
  · have xg : (se != 0) = true := by simp [h0]
    have H0 := Lib.hid h0
    clear h0
    go_wp2_with fail
    obtain ⟨Z, hZ⟩ : ∃ Z, Z = (U.setCell ⟨g + 1 + 1, 0, none⟩ (.int .i64 0)).setCell ⟨g + 1 + 1, 1, none⟩ (.int .i64 0) := ⟨_, rfl⟩
    rw [← hZ]
    have bZ : Z.heap[g + 1 + 1]? = some (Obj.cells #[.int .i64 0, .int .i64 0] 26 (0, 0)) := by rw [hZ]; exact (set_blk (set_blk HU.out.2.2.2.2.2)).trans (by simp)
    have hgr : U.grownBy Z (some (g + 1 + 1)) := by rw [hZ]; exact (grownBy_cell _ _ _ _).trans (grownBy_cell _ _ _ _)
    obtain ⟨q0, q1⟩ := blk2 bZ
    clear hZ
    refine bodyPost_ret (v := .tuple #[.agg #[.int .i64 0, .int .i64 0], .int .i64 se]) (by simp [results, Try.f29, go_sem, q0, q1]) rfl ?_
    have he : goneE b o = se := by unfold goneE; rw [← HS.out.1, if_pos H0.out]
    refine gone_end (r := ⟨0, 0⟩) he (by unfold goneR; rw [he, if_neg H0.out]) ((HV.out.1.trans (HU.out.1.mono HV.out.1.size)).grown hgr ?_ (fun k e => by cases e; rw [← HV.out.2.2.2.2.2]; omega))
    have h1 := HV.out.1.size; omega
end Go.Proofs.Ytgnjknihgjdedaa
namespace Go.Proofs.Ytgnjknihgjdedaa
open Go.RowKit
set_option linter.unusedVariables false
set_option linter.unusedSimpArgs false
def hvT (x : Int) : List Int := [x, 0, 0, 0, 0, 0, 0, 0, 0, 0, 0, 0, 0, 0, 0]
theorem firstH_hvT (a : Int) : firstH [[a]] = hvT a := rfl
def tcD (k m : Int) : De := ⟨k, 0, 0, 0, 0, m, 0, ⟨0, false, false, 0, 0⟩⟩
theorem tcb_snoc {t : Int} {l : List Mk} {hs : List (List Int)} {ds : List De} {d : De} {x y : List Int} (h : endsL t l hs ds (-1) 0 = [x]) (hx : succ t l (passB (-1) 0 ds.length) d x = [y]) : endsL t l hs (ds ++ [d]) (-1) 0 = [y] := by
  unfold endsL at h ⊢
  rw [List.length_append, List.length_singleton]
  show ddup ((endsTo t l hs (ds ++ [d]) (-1) 0 ds.length).flatMap _) = _
  rw [endsTo_snoc ds.length (Nat.le_refl _), h]
  have e : (ds ++ [d])[ds.length]? = some d := by rw [List.getElem?_append_right (Nat.le_refl _)]; simp
  simp only [e, List.flatMap_cons, List.flatMap_nil, List.append_nil]
  rw [hx]
  rfl
structure TcB (mk : Mk) (a : Int) (ds : List De) (now gone : Int) : Prop where
  e : endsL 0 [mk] [[a]] ds (-1) 0 = [hvT now]
  d : deedsE 1 1 ds = 0
  s : hasS (sumS [[a]] 0 ds) = now + gone
  n : 0 ≤ now
theorem TcB.start (mk : Mk) {a : Int} (h : 0 ≤ a) : TcB mk a [] a 0 := ⟨by unfold endsL endsTo; rw [firstH_hvT]; rfl, rfl, by unfold sumS hasS howned; rw [firstH_hvT]; unfold hget hvT; simp, h⟩
theorem sumS_app (hs : List (List Int)) (o : Nat) (ds : List De) (d : De) : sumS hs o (ds ++ [d]) = stepS o (sumS hs o ds) d := by
  unfold sumS
  rw [List.foldl_append]; rfl
theorem has_tc (o : Nat) (s : Sm) (k m : Int) (ho : o = 0) (h2 : k ≠ 2) : hasS (stepS o s (tcD k m)) = hasS s + (if k = 1 then m else if k = 3 then -m else 0) := by
  subst ho
  rw [hasS_step _ _ _ (fun e => absurd e h2)]
  unfold delta tcD
  dsimp only
  by_cases h1 : k = 1
  · subst h1; simp
  · by_cases h3 : k = 3
    · subst h3; simp
    · simp [h1, h2, h3]
theorem tcd_ok {k m : Int} (hk : k = 1 ∨ k = 3 ∨ k = 4) (h1 : 1 ≤ m) (h3 : m ≤ 3) : deedE 1 1 (tcD k m) = 0 := by
  have b1 : btw m 1 20 = true := btw_iff.2 ⟨by omega, by omega⟩
  have b2 : btw m 1 3 = true := btw_iff.2 ⟨by omega, by omega⟩
  rcases hk with rfl | rfl | rfl <;> unfold deedE fldE namD tcD <;> dsimp only <;> simp [b1, b2] <;> decide
theorem tcd_cnt {m : Int} (h1 : 0 ≤ m) (h3 : m ≤ 300) : deedE 1 1 (tcD 6 m) = 0 := by
  have b1 : btw m 0 300 = true := btw_iff.2 ⟨by omega, by omega⟩
  unfold deedE fldE namD tcD
  dsimp only
  simp [b1]
  decide
section
variable {mk : Mk} {a now gone : Int} {ds : List De}
theorem TcB.born (h : TcB mk a ds now gone) {m : Int} (h1 : 1 ≤ m) (h3 : m ≤ 3) : TcB mk a (ds ++ [tcD 1 m]) (now + m) gone := by
  refine ⟨tcb_snoc h.e rfl, ?_, ?_, by have := h.n; omega⟩
  · rw [deedsE_snoc _ _ _ _ h.d]; exact tcd_ok (.inl rfl) h1 h3
  · rw [sumS_app, has_tc 0 _ _ _ rfl (by decide), h.s]; simp; omega
theorem TcB.eaten (h : TcB mk a ds now gone) {m : Int} (h1 : 1 ≤ m) (h3 : m ≤ 3) (hn : m ≤ now) : TcB mk a (ds ++ [tcD 3 m]) (now - m) gone := by
  refine ⟨tcb_snoc h.e ?_, ?_, ?_, by omega⟩
  · show (match mvd (hvT now) 0 0 (-m) with | some x => [x] | none => []) = _
    have e : mvd (hvT now) 0 0 (-m) = some (hvT (now - m)) := by
      unfold mvd
      rw [if_pos (by show 0 ≤ now + -m; omega)]
      rfl
    rw [e]
  · rw [deedsE_snoc _ _ _ _ h.d]; exact tcd_ok (.inr (.inl rfl)) h1 h3
  · rw [sumS_app, has_tc 0 _ _ _ rfl (by decide), h.s]; simp; omega
theorem TcB.lost (h : TcB mk a ds now gone) {m : Int} (h1 : 1 ≤ m) (h3 : m ≤ 3) (hn : m ≤ now) : TcB mk a (ds ++ [tcD 4 m]) (now - m) (gone + m) := by
  refine ⟨tcb_snoc h.e ?_, ?_, ?_, by omega⟩
  · show lostJ 1 0 1 (hvT now) m.toNat = _
    have e : ∀ k : Nat, (k : Int) ≤ now → mvd (hvT now) 0 0 (-(k : Int)) = some (hvT (now - (k : Int))) := fun k hk => by
      unfold mvd
      rw [if_pos (by show 0 ≤ now + -(k : Int); omega)]
      rfl
    have e0 := e 0 (by omega)
    have e1 := e 1 (by omega)
    unfold lostJ
    have hm : m = 1 ∨ m = 2 ∨ m = 3 := by omega
    rcases hm with rfl | rfl | rfl
    · show (List.flatMap _ [0, 1]) = _
      simp only [List.flatMap_cons, List.flatMap_nil, e0, e1]
      unfold lostJ
      simp
    · have e2 := e 2 (by omega)
      show (List.flatMap _ [0, 1, 2]) = _
      simp only [List.flatMap_cons, List.flatMap_nil, e0, e1, e2]
      unfold lostJ
      simp
    · have e2 := e 2 (by omega)
      have e3 := e 3 (by omega)
      show (List.flatMap _ [0, 1, 2, 3]) = _
      simp only [List.flatMap_cons, List.flatMap_nil, e0, e1, e2, e3]
      unfold lostJ
      simp
  · rw [deedsE_snoc _ _ _ _ h.d]; exact tcd_ok (.inr (.inr rfl)) h1 h3
  · rw [sumS_app, has_tc 0 _ _ _ rfl (by decide), h.s]; simp; omega
theorem TcB.cnt (h : TcB mk a ds now gone) (h3 : now ≤ 300) : TcB mk a (ds ++ [tcD 6 now]) now gone := by
  have hn := h.n
  refine ⟨tcb_snoc h.e ?_, ?_, ?_, hn⟩
  · show (if countB (tcD 6 now) (hvT now) = true then [hvT now] else []) = _
    rw [if_pos]
    unfold countB tcD
    dsimp only
    rw [show hall (hvT now) (0 : Int).toNat = now by show now + 0 + 0 + 0 + 0 = now; omega, Int.tdiv_eq_ediv_of_nonneg (by omega), Int.tdiv_eq_ediv_of_nonneg (by omega), btw_iff]
    omega
  · rw [deedsE_snoc _ _ _ _ h.d]; exact tcd_cnt hn h3
  · rw [sumS_app, has_tc 0 _ _ _ rfl (by decide), h.s]; simp
theorem TcB.chk (h : TcB mk a ds now gone) (hm : mkOk mk = true) (ha : 0 ≤ a ∧ a ≤ 20) (h6 : ds.length ≤ 6) : checkH 0 [mk] [0] [[a]] ds = 0 := by
  have hc : check 0 [mk] = 0 := by
    unfold check
    rw [if_neg (by decide), if_neg (by simp)]
    simp [Go.Proofs.Ytgnjknihgjdedaa.chk, hm]
  have b1 : btw a 0 20 = true := btw_iff.2 ha
  have hf : flocksE 1 [0] [[a]] = 0 := by unfold flocksE; simp [b1]; decide
  unfold checkH
  rw [if_neg (by rw [hc]; simp), if_neg (by show ¬ flocksE 1 [0] [[a]] ≠ 0; rw [hf]; simp), if_neg (by omega)]
  exact h.d
end
end Go.Proofs.Ytgnjknihgjdedaa
