/- mestalaw03.MarkGives returns true. -/
import Derived.Test.YtoidaigiejilcaaRefHo
import Derived.Test.YtoidaigiejilcaaMarking
import Derived.Test.YtoidaigiejilcaaRegs
import Derived.Test.YtoidaigiejilcaaDraw
import Derived.Test.YtoidaigiejilcaaOwners
import Derived.Test.YtoidaigiejilcaaCopyS
namespace Go.Proofs.Ytoidaigiejilcaa
open Go.RowKit
set_option linter.unusedVariables false
set_option linter.unusedSimpArgs false

/-- the hand has dealt, and blocks were laid -/
def TG (H : Nat) (n : Nat) (w w' : World) : Prop := w.grownBy w' (some H) ∧ ∀ N, Hd w H N → Hd w' H (N + 3000 * n)
theorem TG.tr {H : Nat} : ∀ n a b c, TG H n a b → TG H 1 b c → TG H (n + 1) a c := fun n a b c h k =>
  ⟨h.1.trans k.1, fun N hN => by have := k.2 _ (h.2 N hN); rw [show N + 3000 * (n + 1) = N + 3000 * n + 3000 * 1 by omega]; exact this⟩
theorem TG.draw {H : Nat} (w : World) : TG H 0 w { w with drawn := w.drawn + 1 } := ⟨⟨rfl, rfl, rfl, Nat.le_refl _, fun _ _ _ => rfl⟩, fun N h => h⟩
theorem TG.rf {H : Nat} : ∀ w, TG H 1 w w := fun w => ⟨World.grownBy.refl _ _, fun N h => h.mono (by omega)⟩
theorem TG.al {H : Nat} (w : World) (o : Obj) : TG H 1 w (w.alloc o) := ⟨World.grownBy_alloc _ _ _, fun N h => (h.alloc o).mono (by omega)⟩
theorem TG.of {w w' : World} {H N k : Nat} (hmin : ∀ M, Hd w H M → N ≤ M) (h : Dealt w w' H (N + k)) (hk : k ≤ 3000) : TG H 1 w w' :=
  ⟨h.gr, fun M hM => h.hd.mono (by have := hmin M hM; omega)⟩
theorem TG.blk {w w' : World} {H n b : Nat} {o : Obj} (h : TG H n w w') (hne : b ≠ H) (hb : w.heap[b]? = some o) : w'.heap[b]? = some o := gb_blk h.1 hne hb
/-- a block known whole -/
def BlF (H : Nat) (e : TypeId) (n : Nat) (cs : Array Value) : VF := fun v w => ∃ b, v = .slice (some ⟨b, 0, none⟩) n n ∧ b ≠ H ∧ w.heap[b]? = some (.cells cs e (0, 0))
theorem BlF.st {H : Nat} {e : TypeId} {n : Nat} {cs : Array Value} : ∀ m v w w', TG H m w w' → BlF H e n cs v w → BlF H e n cs v w' := fun m v w w' h ⟨b, h1, h2, h3⟩ => ⟨b, h1, h2, h.blk h2 h3⟩
theorem BlF.new {H : Nat} {e : TypeId} {n : Nat} {w : World} {cs : Array Value} (hH : H < w.heap.size) :
    TG H 1 w (w.alloc (.cells cs e)) ∧ BlF H e n cs (.slice (some ⟨w.heap.size, 0, none⟩) n n) (w.alloc (.cells cs e)) :=
  ⟨TG.al _ _, w.heap.size, rfl, by omega, heap_alloc_new w _⟩
/-- a slice of sights, of integers, that reads as a list -/
def SgOk (w : World) (v : Value) : Prop := ∃ B ss cb, v = .slice B ss.length cb ∧ Sights w B ss.length ss ∧ ss.length ≤ cb ∧ cb ≤ maxLen ∧ (B = none → cb = 0) ∧ ss.length ≤ 20
def InOk (w : World) (v : Value) : Prop := ∃ B is cb, v = .slice B is.length cb ∧ Ints w B is.length is ∧ is.length ≤ cb ∧ cb ≤ maxLen ∧ (B = none → cb = 0) ∧ is.length ≤ 20
theorem SgOk.below {w w' : World} {v : Value} {B : Nat} (h : SgOk w v) (hb : Below B w w') (hB : w.heap.size ≤ B) : SgOk w' v := by
  obtain ⟨B, ss, cb, h1, h2, h3⟩ := h
  exact ⟨B, ss, cb, h1, h2.below hb hB, h3⟩
theorem InOk.below {w w' : World} {v : Value} {B : Nat} (h : InOk w v) (hb : Below B w w') (hB : w.heap.size ≤ B) : InOk w' v := by
  obtain ⟨B, ss, cb, h1, h2, h3⟩ := h
  exact ⟨B, ss, cb, h1, h2.below hb hB, h3⟩
/-- the same, dealt by the hand -/
def SgG (H : Nat) : VF := fun v w => SgOk w v ∧ ∀ B n c, v = .slice B n c → OffH B H
def InG (H : Nat) : VF := fun v w => InOk w v ∧ ∀ B n c, v = .slice B n c → OffH B H
theorem SgG.st {H : Nat} : ∀ m v w w', TG H m w w' → SgG H v w → SgG H v w' := fun m v w w' h ⟨⟨B, ss, cb, h1, h2, h3⟩, h4⟩ => ⟨⟨B, ss, cb, h1, Sl.gb h2 h.1 (h4 B _ _ h1), h3⟩, h4⟩
theorem InG.st {H : Nat} : ∀ m v w w', TG H m w w' → InG H v w → InG H v w' := fun m v w w' h ⟨⟨B, ss, cb, h1, h2, h3⟩, h4⟩ => ⟨⟨B, ss, cb, h1, Sl.gb h2 h.1 (h4 B _ _ h1), h3⟩, h4⟩
theorem SgG.of {H base : Nat} {w : World} {v : Value} {ss : List Sg} (h : OwnS w base v ss) (hH : H < base) (hl : ss.length ≤ 20) : SgG H v w := by
  obtain ⟨B, cb, hv, h1, h2, h3, h4⟩ := own_shape h lenSg
  subst hv
  exact ⟨⟨B, ss, cb, rfl, h1, h2, h3, h4, hl⟩, fun B' n c e b off e2 => by cases e; have := h.lt b (by rw [e2]; rfl); omega⟩
theorem InG.of {H base : Nat} {w : World} {v : Value} {ss : List Int} (h : OwnI w base v ss) (hH : H < base) (hl : ss.length ≤ 20) : InG H v w := by
  obtain ⟨B, cb, hv, h1, h2, h3, h4⟩ := own_shape h lenInt
  subst hv
  exact ⟨⟨B, ss, cb, rfl, h1, h2, h3, h4, hl⟩, fun B' n c e b off e2 => by cases e; have := h.lt b (by rw [e2]; rfl); omega⟩
/-- three of them -/
def Sg3 (H : Nat) (v0 : Value) : VF := fun v w => ∃ b v1, v = .slice (some ⟨b, 0, none⟩) 3 3 ∧ b ≠ H ∧ w.heap[b]? = some (.cells #[v0, v1, v0] 26 (0, 0)) ∧ SgG H v1 w
def In3 (H : Nat) (v0 : Value) : VF := fun v w => ∃ b v1, v = .slice (some ⟨b, 0, none⟩) 3 3 ∧ b ≠ H ∧ w.heap[b]? = some (.cells #[v0, v1, v0] 22 (0, 0)) ∧ InG H v1 w
theorem Sg3.st {H : Nat} {v0 : Value} : ∀ m v w w', TG H m w w' → Sg3 H v0 v w → Sg3 H v0 v w' := fun m v w w' h ⟨b, v1, h1, h2, h3, h4⟩ => ⟨b, v1, h1, h2, h.blk h2 h3, SgG.st m _ _ _ h h4⟩
theorem In3.st {H : Nat} {v0 : Value} : ∀ m v w w', TG H m w w' → In3 H v0 v w → In3 H v0 v w' := fun m v w w' h ⟨b, v1, h1, h2, h3, h4⟩ => ⟨b, v1, h1, h2, h.blk h2 h3, InG.st m _ _ _ h h4⟩
theorem Sg3.new {H : Nat} {v0 v1 : Value} {w : World} (hH : H < w.heap.size) (h : SgG H v1 w) :
    TG H 1 w (w.alloc (.cells #[v0, v1, v0] 26)) ∧ Sg3 H v0 (.slice (some ⟨w.heap.size, 0, none⟩) 3 3) (w.alloc (.cells #[v0, v1, v0] 26)) :=
  ⟨TG.al _ _, w.heap.size, v1, rfl, by omega, heap_alloc_new w _, SgG.st 1 _ _ _ (TG.al w _) h⟩
theorem In3.new {H : Nat} {v0 v1 : Value} {w : World} (hH : H < w.heap.size) (h : InG H v1 w) :
    TG H 1 w (w.alloc (.cells #[v0, v1, v0] 22)) ∧ In3 H v0 (.slice (some ⟨w.heap.size, 0, none⟩) 3 3) (w.alloc (.cells #[v0, v1, v0] 22)) :=
  ⟨TG.al _ _, w.heap.size, v1, rfl, by omega, heap_alloc_new w _, InG.st 1 _ _ _ (TG.al w _) h⟩

/-- a list of integers, of lists, with a code, that is handed back -/
def IRes (w : World) (x : List Int) (code : Int) (e : Ending) (w' : World) : Prop := IntsRes x code e w' ∧ Below w.heap.size w w'
def GRes (w : World) (x : List (List Int)) (code : Int) (e : Ending) (w' : World) : Prop := (∃ A c, e = .returned (.tuple #[.slice A x.length c, .int .i64 code]) ∧ Grid w' A x.length x ∧ x.length ≤ c ∧ c ≤ maxLen) ∧ Below w.heap.size w w'
theorem ires_of {w : World} {x : List Int} {code : Int} {e : Ending} {w' : World} (h : ∃ v, e = .returned (.tuple #[v, .int .i64 code]) ∧ OwnI w' w.heap.size v x ∧ Below w.heap.size w w') : IRes w x code e w' := by
  obtain ⟨v, rfl, h1, h2⟩ := h
  obtain ⟨A, c, rfl, k1, k2, k3⟩ := h1.form lenInt
  exact ⟨⟨A, c, rfl, k1, k2, k3⟩, h2⟩
theorem gres_of {w : World} {x : List (List Int)} {code : Int} {e : Ending} {w' : World} (h : ∃ v, e = .returned (.tuple #[v, .int .i64 code]) ∧ OwnG w' w.heap.size v x ∧ Below w.heap.size w w') : GRes w x code e w' := by
  obtain ⟨v, rfl, h1, h2⟩ := h
  obtain ⟨A, c, rfl, k1, k2, k3⟩ := h1.form
  exact ⟨⟨A, c, rfl, k1, k2, k3⟩, h2⟩
theorem sameInts_same (A : Option Addr) (n c : Nat) (x : List Int) (B : Option Addr) (d : Nat) (w : World) (hx : Ints w A n x) (hy : Ints w B n x) (hn : n ≤ maxLen) :
    Calls Try.prog 16 #[.slice A n c, .slice B n d] w fun e w' => e = .returned (.bool true) ∧ Below w.heap.size w w' := by
  have h := sameInts_any A n c x B n d x w hx hy hn hn
  rwa [show sameL x x = true from decide_eq_true rfl] at h
theorem sameGrids_same (A : Option Addr) (n c : Nat) (x : List (List Int)) (B : Option Addr) (d : Nat) (w : World) (hx : Grid w A n x) (hy : Grid w B n x) (hn : n ≤ maxLen) :
    Calls Try.prog 39 #[.slice A n c, .slice B n d] w fun e w' => e = .returned (.bool true) ∧ Below w.heap.size w w' := by
  have h := sameGrids_any A n c x B n d x w hx hy hn hn
  rwa [show sameL x x = true from decide_eq_true rfl] at h
theorem below_dr {w w' : World} {n : Nat} (h : Below (w.drewN n).heap.size (w.drewN n) w') : Below w.heap.size w w' := ⟨h.os, h.tape, h.output, h.size, h.block⟩

set_option maxRecDepth 400000 in
set_option maxHeartbeats 8000000 in
theorem MarkGives_any (t : Int) (A : Option Addr) (n c : Nat) (l : List Mk) (B : Option Addr) (m cb : Nat) (ss : List Sg) (D : Option Addr) (ni ci : Nat) (mis : List Int) (A0 : Option Addr) (n0 c0 : Nat) (nums : List Int) (w : World)
    (hlm : Marks w A n l) (hnc : n ≤ c) (hcmx : c ≤ maxLen) (hzn : A = none → c = 0) (hss : Sights w B m ss) (hmc : m ≤ cb) (hcb : cb ≤ maxLen) (hzb : B = none → cb = 0) (hmi : Ints w D ni mis) (hnic : ni ≤ ci) (hci : ci ≤ maxLen) (hzd : D = none → ci = 0) (hl : Ints w A0 n0 nums) (hn0 : n0 ≤ 9223372036854775807) :
    Calls Try.prog 7 #[.agg #[.int .i64 t, .slice A n c], .slice B m cb, .slice D ni ci, .slice A0 n0 c0] w fun e w' => e = .returned (.bool true) ∧ Below w.heap.size w w' := by
  have hg20 : n ≤ 9223372036854775807 := Nat.le_trans hnc hcmx
  have hm20 : m ≤ 9223372036854775807 := Nat.le_trans hmc hcb
  have hi20 : ni ≤ 9223372036854775807 := Nat.le_trans hnic hci
  have HG := Lib.hid (And.intro (show n ≤ 4294967295 → RgOk w ⟨t, A, n, c, l⟩ from fun h => ⟨hlm, hnc, hcmx, hzn, h⟩) (And.intro (show m ≤ 20 → SgOk w (.slice B m cb) from fun h => ⟨B, ss, cb, by rw [hss.len], by rw [hss.len]; exact hss, by rw [hss.len]; exact hmc, hcb, hzb, by rw [hss.len]; exact h⟩)
    (show ni ≤ 20 → InOk w (.slice D ni ci) from fun h => ⟨D, mis, ci, by rw [hmi.len], by rw [hmi.len]; exact hmi, by rw [hmi.len]; exact hnic, hci, hzd, by rw [hmi.len]; exact h⟩)))
  have HN := Lib.hid hl
  clear hlm hnc hcmx hzn hl hss hmc hcb hzb hmi hnic hci hzd
  go_enter Try.func7, Try.ntmps7
  go_upto_region 1 with (fail)
  obtain ⟨W0, hW⟩ : ∃ W0, W0 = w.alloc (Obj.cells #[Value.int .i64 t, .slice A n c] 25) := ⟨_, rfl⟩
  rw [← hW]
  have hB0 : Below w.heap.size w W0 := by rw [hW]; exact bal0 w _
  have a0 : W0.heap[w.heap.size]? = some (Obj.cells #[Value.int .i64 t, .slice A n c] 25 (0, 0)) := by rw [hW]; exact alloc_at rfl
  have hz0 : w.heap.size < W0.heap.size := heap_lt a0
  clear hW
  obtain ⟨r0, r1⟩ := blk2 a0
  by_cases hbig : 20 < n ∨ 20 < m ∨ 20 < ni ∨ m = 6
  · have hbig' : 20 < n ∨ (¬ 20 < n ∧ 20 < m) ∨ (¬ 20 < n ∧ ¬ 20 < m ∧ 20 < ni) ∨ (¬ 20 < n ∧ ¬ 20 < m ∧ ¬ 20 < ni ∧ m = 6) := by omega
    clear hbig
    rcases hbig' with h1 | ⟨h1, h2⟩ | ⟨h1, h2, h3⟩ | ⟨h1, h2, h3, rfl⟩
    · have d1 : decide ((20 : Int) < (n : Int)) = true := by simp; omega
      go_wp2_with fail
      refine (marking_any _).mono ?_
      rintro e w3 ⟨rfl, hb3⟩
      go_wp2
      go_ret
      exact ⟨rfl, hB0.trans (hb3.mono hB0.size)⟩
    · have d1 : decide ((20 : Int) < (n : Int)) = false := by simp; omega
      have d2 : decide ((20 : Int) < (m : Int)) = true := by simp; omega
      go_wp2_with fail
      refine (marking_any _).mono ?_
      rintro e w3 ⟨rfl, hb3⟩
      go_wp2
      go_ret
      exact ⟨rfl, hB0.trans (hb3.mono hB0.size)⟩
    · have d1 : decide ((20 : Int) < (n : Int)) = false := by simp; omega
      have d2 : decide ((20 : Int) < (m : Int)) = false := by simp; omega
      have d3 : decide ((20 : Int) < (ni : Int)) = true := by simp; omega
      go_wp2_with fail
      refine (marking_any _).mono ?_
      rintro e w3 ⟨rfl, hb3⟩
      go_wp2
      go_ret
      exact ⟨rfl, hB0.trans (hb3.mono hB0.size)⟩
    · have d1 : decide ((20 : Int) < (n : Int)) = false := by simp; omega
      have d3 : decide ((20 : Int) < (ni : Int)) = false := by simp; omega
      go_wp2_with fail
      refine (marking_any _).mono ?_
      rintro e w3 ⟨rfl, hb3⟩
      go_wp2
      go_ret
      exact ⟨rfl, hB0.trans (hb3.mono hB0.size)⟩
  · have d1 : decide ((20 : Int) < (n : Int)) = false := by simp; omega
    have d2 : decide ((20 : Int) < (m : Int)) = false := by simp; omega
    have d3 : decide ((20 : Int) < (ni : Int)) = false := by simp; omega
    have d4 : ((m : Int) == 6) = false := by rw [beq_eq_false_iff_ne]; omega
    have HBIG := Lib.hid hbig
    clear hbig
    go_wp2_with fail
    refine (newHand_any A0 n0 c0 nums _ (HN.out.below hB0 (Nat.le_refl _)) hn0).mono ?_
    rintro e w1 ⟨rfl, hh, hb1, hz1⟩
    have HZ1 := Lib.hid hz1
    have hz1l : W0.heap.size < w1.heap.size := by omega
    clear hz1
    have a01 := bheap a0 hb1 (Nat.le_refl _)
    have hB1 := hB0.trans (hb1.mono hB0.size)
    clear r0 r1 a0 hb1 d1 d2 d3 d4
    go_wp2_with fail
    refine (registerOf_any W0.heap.size 0 4 _ hh (by omega) (by omega)).mono ?_
    rintro e w2 ⟨t2, l2, A2, c2, rfl, hck, hl5, hown, hms, hlc, hcm, hd2⟩
    obtain ⟨ht0, ht2, _, _⟩ := check_ok hck
    obtain ⟨tn, rfl⟩ := Int.eq_ofNat_of_zero_le ht0
    have a02 := hd2.blk a01 (by omega)
    have hB2 := hB1.trans ((hd2.below (B := w.heap.size) (by omega) hB1.size))
    have hhd := hd2.hd
    have hz2 := hd2.size
    clear hms hd2 hh a01
    go_upto_region 5 with (fail)
    obtain ⟨W, hW⟩ : ∃ W, W = w2.alloc (Obj.cells #[Value.int .i64 (tn : Int), .slice A2 l2.length c2] 25) := ⟨_, rfl⟩
    rw [← hW]
    have aM : W.heap[w2.heap.size]? = some (Obj.cells #[Value.int .i64 (tn : Int), .slice A2 l2.length c2] 25 (0, 0)) := by rw [hW]; exact alloc_at rfl
    have a0W : W.heap[w.heap.size]? = some (Obj.cells #[Value.int .i64 t, .slice A n c] 25 (0, 0)) := by rw [hW]; exact hblk_alloc a02 _
    have hBW : Below w.heap.size w W := by rw [hW]; exact bal hB2 (Nat.le_refl _) _
    have hOW : OwnM W (W0.heap.size + 1) (.slice A2 l2.length c2) l2 := by rw [hW, ← HZ1.out]; exact hown.alloc _
    have hHW : Hd W W0.heap.size 100 := by rw [hW]; exact hhd.alloc _
    clear hW hB2 hown hhd a02 hB1 hB0
    have hoff : OffH A2 W0.heap.size := fun b off e => by
      have := hOW.lt b (by rw [e]; rfl)
      omega
    have hlw := heap_lt aM
    obtain ⟨hmsW, hcW, hmW⟩ := hOW.sl lenMk
    have hne0 : w.heap.size ≠ W0.heap.size := by omega
    have hne2 : w2.heap.size ≠ W0.heap.size := by omega
    have HC : Hid (∀ k w', TG W0.heap.size k W w' → w'.cell? ⟨w.heap.size, 0, none⟩ = some (.int .i64 t) ∧ w'.cell? ⟨w.heap.size, 1, none⟩ = some (.slice A n c) ∧ w'.cell? ⟨w2.heap.size, 0, none⟩ = some (.int .i64 (tn : Int)) ∧ w'.cell? ⟨w2.heap.size, 1, none⟩ = some (.slice A2 l2.length c2)) :=
      Lib.hid fun k w' h => by
        obtain ⟨p0, p1⟩ := blk2 (h.blk hne0 a0W)
        obtain ⟨p2, p3⟩ := blk2 (h.blk hne2 aM)
        exact ⟨p0, p1, p2, p3⟩
    have HH := Lib.hid (And.intro hHW (And.intro hmsW (And.intro hoff (And.intro hck (And.intro hBW hOW)))))
    clear aM a0W hBW hOW hHW hmsW hcW hmW hoff hck
    refine wp_region_inv (TG W0.heap.size) (by kernel_rfl) (by kernel_rfl) TG.tr (TG.draw _) ?_
    apply Exists.intro
    refine ⟨fun ys => ?_, fun ops K hK => ?_⟩
    · simp only [dstsOf, List.filterMap_cons, List.filterMap_nil, putAll]
      go_simp
      rfl
    repeat
      refine LexI.const TG.rf ?_
      apply Exists.intro
      refine ⟨fun n' ys w' hn' hT hd => ?_, ?_⟩
      · try simp [DepsOf, depsGo, DF.holds, Region.binds, EqF] at hd
        obtain ⟨y0, y1, y2, y3⟩ := HC.out n' w' hT
        intro Q2 hQ2
        go_wp2_with fail
        rfl
      try simp only [List.nil_append, List.cons_append]
    refine LexI.some (BlF W0.heap.size 25 3 #[.int .i64 t, .slice A n c, .int .i64 (tn : Int), .slice A2 l2.length c2, .int .i64 (tn : Int), .slice A2 l2.length c2]) (BlF.st) (fun n' ys w' hn' hT hd => ?_) ?_
    · try simp [DepsOf, depsGo, DF.holds, Region.binds, EqF] at hd
      try simp only [hd]
      have hl := (hT.2 _ HH.out.1).lt
      intro Q2 hQ2
      go_wp2_with fail
      exact BlF.new hl
    try simp only [List.nil_append, List.cons_append]
    repeat
      refine LexI.const TG.rf ?_
      apply Exists.intro
      refine ⟨fun n' ys w' hn' hT hd => ?_, ?_⟩
      · try simp [DepsOf, depsGo, DF.holds, Region.binds, EqF] at hd
        obtain ⟨y0, y1, y2, y3⟩ := HC.out n' w' hT
        intro Q2 hQ2
        go_wp2_with fail
        rfl
      try simp only [List.nil_append, List.cons_append]
    -- the strays
    refine LexI.some (SgG W0.heap.size) (SgG.st) (fun n' ys w' hn' hT hd => ?_) ?_
    · try simp [DepsOf, depsGo, DF.holds, Region.binds, EqF] at hd
      try simp only [hd]
      intro Q2 hQ2
      obtain ⟨N0, hN0, hN1, hN2⟩ := (hT.2 _ HH.out.1).least
      have hl := (hT.2 _ HH.out.1).lt
      have hmw := Lib.hid (Sl.gb HH.out.2.1 hT.1 HH.out.2.2.1)
      go_wp2_with fail
      refine (sightsOf_any W0.heap.size N0 5 tn A2 l2.length c2 l2 w' hN1 (by omega) (by omega) HH.out.2.2.2.1 hmw.out HH.out.2.2.1 (by omega)).mono ?_
      rintro e wU ⟨v, ss2, rfl, ho, hv, hl4, hU⟩
      have HX := Lib.hid (And.intro (TG.of (k := 1251) hN2 (hU.mono (by omega)) (by omega)) (SgG.of ho hl (by omega)))
      clear ho hv hU
      go_wp2
      exact ⟨_, rfl, HX.out⟩
    try simp only [List.nil_append, List.cons_append]
    repeat
      refine LexI.const TG.rf ?_
      apply Exists.intro
      refine ⟨fun n' ys w' hn' hT hd => ?_, ?_⟩
      · try simp [DepsOf, depsGo, DF.holds, Region.binds, EqF] at hd
        obtain ⟨y0, y1, y2, y3⟩ := HC.out n' w' hT
        intro Q2 hQ2
        go_wp2_with fail
        rfl
      try simp only [List.nil_append, List.cons_append]
    refine LexI.some (Sg3 W0.heap.size (.slice B m cb)) (Sg3.st) (fun n' ys w' hn' hT hd => ?_) ?_
    · try simp [DepsOf, depsGo, DF.holds, Region.binds, EqF] at hd
      try simp only [hd]
      obtain ⟨h1, h2, h3⟩ := hd
      have hl := (hT.2 _ HH.out.1).lt
      have h2' := h2
      obtain ⟨⟨B', ss', cb', hv', -⟩, -⟩ := h2'
      have HX := Lib.hid h2
      clear h2
      intro Q2 hQ2
      simp only [hv', h1, h3] at HX ⊢
      go_wp2_with fail
      exact Sg3.new hl HX.out
    try simp only [List.nil_append, List.cons_append]
    repeat
      refine LexI.const TG.rf ?_
      apply Exists.intro
      refine ⟨fun n' ys w' hn' hT hd => ?_, ?_⟩
      · try simp [DepsOf, depsGo, DF.holds, Region.binds, EqF] at hd
        obtain ⟨y0, y1, y2, y3⟩ := HC.out n' w' hT
        intro Q2 hQ2
        go_wp2_with fail
        rfl
      try simp only [List.nil_append, List.cons_append]
    -- what they miss
    refine LexI.some (InG W0.heap.size) (InG.st) (fun n' ys w' hn' hT hd => ?_) ?_
    · try simp [DepsOf, depsGo, DF.holds, Region.binds, EqF] at hd
      try simp only [hd]
      intro Q2 hQ2
      obtain ⟨N0, hN0, hN1, hN2⟩ := (hT.2 _ HH.out.1).least
      have hl := (hT.2 _ HH.out.1).lt
      go_wp2_with fail
      refine (missingOf_any W0.heap.size N0 tn A2 l2.length c2 w' hN1 (by omega) (by omega)).mono ?_
      rintro e wU ⟨v, ms2, rfl, ho, hl', hv, hU⟩
      have HX := Lib.hid (And.intro (TG.of (k := 10) hN2 (hU.mono (by omega)) (by omega)) (InG.of ho hl (by omega)))
      clear ho hv hU hl'
      go_wp2
      exact ⟨_, rfl, HX.out⟩
    try simp only [List.nil_append, List.cons_append]
    repeat
      refine LexI.const TG.rf ?_
      apply Exists.intro
      refine ⟨fun n' ys w' hn' hT hd => ?_, ?_⟩
      · try simp [DepsOf, depsGo, DF.holds, Region.binds, EqF] at hd
        obtain ⟨y0, y1, y2, y3⟩ := HC.out n' w' hT
        intro Q2 hQ2
        go_wp2_with fail
        rfl
      try simp only [List.nil_append, List.cons_append]
    refine LexI.some (In3 W0.heap.size (.slice D ni ci)) (In3.st) (fun n' ys w' hn' hT hd => ?_) ?_
    · try simp [DepsOf, depsGo, DF.holds, Region.binds, EqF] at hd
      try simp only [hd]
      obtain ⟨h1, h2, h3⟩ := hd
      have hl := (hT.2 _ HH.out.1).lt
      have h2' := h2
      obtain ⟨⟨B', ss', cb', hv', -⟩, -⟩ := h2'
      have HX := Lib.hid h2
      clear h2
      intro Q2 hQ2
      simp only [hv', h1, h3] at HX ⊢
      go_wp2_with fail
      exact In3.new hl HX.out
    try simp only [List.nil_append, List.cons_append]
    refine LexI.some (BlF W0.heap.size 25 3 #[.int .i64 t, .slice A n c, .int .i64 (tn : Int), .slice A2 l2.length c2, .int .i64 (tn : Int), .slice A2 l2.length c2]) (BlF.st) (fun n' ys w' hn' hT hd => ?_) ?_
    · try simp [DepsOf, depsGo, DF.holds, Region.binds, EqF] at hd
      try simp only [hd]
      intro Q2 hQ2
      go_wp2_with fail
      exact TG.rf _
    try simp only [List.nil_append, List.cons_append]
    refine LexI.some (Sg3 W0.heap.size (.slice B m cb)) (Sg3.st) (fun n' ys w' hn' hT hd => ?_) ?_
    · try simp [DepsOf, depsGo, DF.holds, Region.binds, EqF] at hd
      try simp only [hd]
      intro Q2 hQ2
      go_wp2_with fail
      exact TG.rf _
    try simp only [List.nil_append, List.cons_append]
    refine LexI.some (In3 W0.heap.size (.slice D ni ci)) (In3.st) (fun n' ys w' hn' hT hd => ?_) ?_
    · try simp [DepsOf, depsGo, DF.holds, Region.binds, EqF] at hd
      try simp only [hd]
      intro Q2 hQ2
      go_wp2_with fail
      exact TG.rf _
    try simp only [List.nil_append, List.cons_append]
    refine hK _ (fun n' ys wc hn' hT hF => ?_)
    simp only [AllF, DF.holds] at hF
    obtain ⟨-, -, -, -, -, -, -, -, -, -, -, -, -, -, -, -, ⟨q1, e11, hq1, hb1⟩, ⟨q2, v1, e12, hq2, hb2, hs1⟩, ⟨q3, u1, e13, hq3, hb3, hi1⟩, -⟩ := hF
    have hgr := hT.1
    have hBx : Below w.heap.size w wc := HH.out.2.2.2.2.1.grown hgr HH.out.2.2.2.2.1.size (fun k hk => by cases hk; omega)
    have hRs : Sl eRg 2 wc (some ⟨q1, 0, none⟩) 3 [⟨t, A, n, c, l⟩, ⟨(tn : Int), A2, l2.length, c2, l2⟩, ⟨(tn : Int), A2, l2.length, c2, l2⟩] := Sl.of_blk hb1 rfl lenRg
    have hVs : Sl eVal 1 wc (some ⟨q2, 0, none⟩) 3 [.slice B m cb, v1, .slice B m cb] := Sl.of_blk hb2 rfl lenVal
    have hUs : Sl eVal 1 wc (some ⟨q3, 0, none⟩) 3 [.slice D ni ci, u1, .slice D ni ci] := Sl.of_blk hb3 rfl lenVal
    have hr0 : RgOk wc ⟨t, A, n, c, l⟩ := (HG.out.1 (by have := HBIG.out; omega)).below hBx (Nat.le_refl _)
    have hr1 : RgOk wc ⟨(tn : Int), A2, l2.length, c2, l2⟩ := by
      obtain ⟨A', c', hv, _, h1, h2, h3⟩ := own_shape HH.out.2.2.2.2.2 lenMk
      cases hv
      exact ⟨HH.out.2.1.gb hgr HH.out.2.2.1, h1, h2, h3, by dsimp; omega⟩
    have hv0 : SgOk wc (.slice B m cb) := (HG.out.2.1 (by have := HBIG.out; omega)).below hBx (Nat.le_refl _)
    have hu0 : InOk wc (.slice D ni ci) := (HG.out.2.2 (by have := HBIG.out; omega)).below hBx (Nat.le_refl _)
    obtain ⟨R, hR⟩ : ∃ R : List Rg, R = [⟨t, A, n, c, l⟩, ⟨(tn : Int), A2, l2.length, c2, l2⟩, ⟨(tn : Int), A2, l2.length, c2, l2⟩] := ⟨_, rfl⟩
    have hok : ∀ g ∈ R, RgOk wc g := by
      rw [hR]
      intro g hg
      simp only [List.mem_cons, List.not_mem_nil, or_false] at hg
      rcases hg with rfl | rfl | rfl <;> assumption
    rw [← hR] at hRs
    obtain ⟨VS, hVS⟩ : ∃ VS : List Value, VS = [.slice B m cb, v1, .slice B m cb] := ⟨_, rfl⟩
    have hvk : ∀ v ∈ VS, SgOk wc v := by
      rw [hVS]
      intro v hv
      simp only [List.mem_cons, List.not_mem_nil, or_false] at hv
      rcases hv with rfl | rfl | rfl
      · exact hv0
      · exact hs1.1
      · exact hv0
    rw [← hVS] at hVs
    obtain ⟨US, hUS⟩ : ∃ US : List Value, US = [.slice D ni ci, u1, .slice D ni ci] := ⟨_, rfl⟩
    have huk : ∀ v ∈ US, InOk wc v := by
      rw [hUS]
      intro v hv
      simp only [List.mem_cons, List.not_mem_nil, or_false] at hv
      rcases hv with rfl | rfl | rfl
      · exact hu0
      · exact hi1.1
      · exact hu0
    rw [← hUS] at hUs
    have HRS := Lib.hid (And.intro hRs (And.intro hVs (And.intro hUs (And.intro hok (And.intro hvk (And.intro huk hBx))))))
    simp only [e11, e12, e13]
    clear hRs hVs hUs hok hvk huk hBx hR hVS hUS hr0 hr1 hv0 hu0 hgr e11 e12 e13 hb1 hb2 hb3 hT hq1 hq2 hq3 hs1 hi1 HC HH
    go_wp2_with fail
    go_loopg [14] 3 (fun g i wr => ∃ k : Nat, k + g = 3 ∧ i = .int .i64 k ∧ Below wc.heap.size wc wr)
    case atStart => exact ⟨0, rfl, rfl, Below.refl _ _⟩
    case round =>
      obtain ⟨k, hk, rfl, hbr⟩ := hrel
      have HK := Lib.hid hk
      have hk3 : k ≤ 3 := by omega
      clear hk
      by_cases hlt : k < 3
      · obtain ⟨b1, f1, g, h1, hb1, hg, g0, g1⟩ := Regs.get (HRS.out.1.below hbr (Nat.le_refl _)) hlt
        cases h1
        obtain ⟨b2, f2, v, h2, hb2, hv, x0⟩ := Vals.get (HRS.out.2.1.below hbr (Nat.le_refl _)) hlt
        cases h2
        obtain ⟨b3, f3, u, h3, hb3, hu, u0⟩ := Vals.get (HRS.out.2.2.1.below hbr (Nat.le_refl _)) hlt
        cases h3
        rw [Nat.zero_add] at g0 g1 x0 u0
        obtain ⟨B1, s1, cb1, rfl, hs1, hsc1, hsm1, hsz1, hs20⟩ := (HRS.out.2.2.2.2.1 v (List.mem_of_getElem? hv)).below hbr (Nat.le_refl _)
        obtain ⟨D1, i1, cd1, rfl, hi1, hic1, him1, hiz1, hi20⟩ := (HRS.out.2.2.2.2.2.1 u (List.mem_of_getElem? hu)).below hbr (Nat.le_refl _)
        have hgo : RgOk wr g := (HRS.out.2.2.2.1 g (List.mem_of_getElem? hg)).below hbr (Nat.le_refl _)
        have HX := Lib.hid (And.intro hgo (And.intro hs1 hi1))
        have HZ := Lib.hid (And.intro hsz1 hiz1)
        have j0 : (0 : Int) ≤ (k : Int) := by omega
        have j1 : (k : Int) < 3 := by omega
        have HBR := Lib.hid (And.intro hbr (HRS.out.2.2.2.2.2.2.trans (hbr.mono HRS.out.2.2.2.2.2.2.size)))
        have hsr := HBR.out.2.size
        clear hgo hg hv hu hs1 hi1 hsz1 hiz1 hbr
        go_upto_region 9 with (fail)
        have HC : Hid (∀ k' w', TV wr.heap.size g.t g.l k' wr w' → Below wr.heap.size wr w' ∧ w'.cell? ⟨q1, k * 2, none⟩ = some (.int .i64 g.t) ∧ w'.cell? ⟨q1, k * 2 + 1, none⟩ = some (.slice g.A g.n g.c) ∧
            w'.cell? ⟨q2, k, none⟩ = some (.slice B1 s1.length cb1) ∧ w'.cell? ⟨q3, k, none⟩ = some (.slice D1 i1.length cd1)) :=
          Lib.hid fun k' w' h => by
            have hb := h.under (Nat.le_refl _)
            exact ⟨hb, bcell g0 hb (Nat.le_refl _), bcell g1 hb (Nat.le_refl _), bcell x0 hb (Nat.le_refl _), bcell u0 hb (Nat.le_refl _)⟩
        refine wp_region_inv (TV wr.heap.size g.t g.l) (by kernel_rfl) (by kernel_rfl) TV.tr (TV.draw _) ?_
        apply Exists.intro
        refine ⟨fun ys => ?_, fun ops K hK => ?_⟩
        · simp only [dstsOf, List.filterMap_cons, List.filterMap_nil, putAll]
          go_simp
          rfl
        repeat
          refine LexI.const TV.rf ?_
          apply Exists.intro
          refine ⟨fun n' ys w' hn' hT hd => ?_, ?_⟩
          · try simp [DepsOf, depsGo, DF.holds, Region.binds, EqF] at hd
            obtain ⟨_, y0, y1, y2, y3⟩ := HC.out n' w' hT
            intro Q2 hQ2
            go_wp2_with fail
            rfl
          try simp only [List.nil_append, List.cons_append]
        refine LexI.some (RcF wr.heap.size g.t g.l) (RcF.st) (fun n' ys w' hn' hT hd => ?_) ?_
        · try simp [DepsOf, depsGo, DF.holds, Region.binds, EqF] at hd
          try simp only [hd]
          have hbw := (HC.out n' w' hT).1
          have hgw := HX.out.1.below hbw (Nat.le_refl _)
          have HGW := Lib.hid hgw
          have hbs := hbw.size
          clear hgw
          intro Q2 hQ2
          go_wp2_with fail
          refine (copyRegister_any g.t g.A g.n g.c g.l w' HGW.out.m HGW.out.z HGW.out.s).mono ?_
          rintro e wU ⟨⟨A3, c3, rfl, hown3, -⟩, hU⟩
          have HY := Lib.hid (And.intro (TV.of_below (base := wr.heap.size) (gt := g.t) (gl := g.l) hU) (show RcF wr.heap.size g.t g.l (.agg #[.int .i64 g.t, .slice A3 g.l.length c3]) wU from ⟨A3, c3, rfl, hown3.mono hbs⟩))
          clear hown3 hU
          go_wp2
          exact ⟨_, rfl, HY.out⟩
        try simp only [List.nil_append, List.cons_append]
        refine LexI.some (EmF) (EmF.st) (fun n' ys w' hn' hT hd => ?_) ?_
        · try simp [DepsOf, depsGo, DF.holds, Region.binds, EqF] at hd
          try simp only [hd]
          intro Q2 hQ2
          go_wp2_with fail
          exact ⟨TV.of_below (bal0 _ _), _, rfl⟩
        try simp only [List.nil_append, List.cons_append]
        repeat
          refine LexI.const TV.rf ?_
          apply Exists.intro
          refine ⟨fun n' ys w' hn' hT hd => ?_, ?_⟩
          · try simp [DepsOf, depsGo, DF.holds, Region.binds, EqF] at hd
            obtain ⟨_, y0, y1, y2, y3⟩ := HC.out n' w' hT
            intro Q2 hQ2
            go_wp2_with fail
            rfl
          try simp only [List.nil_append, List.cons_append]
        refine LexI.some (SrF wr.heap.size s1) (SrF.st) (fun n' ys w' hn' hT hd => ?_) ?_
        · try simp [DepsOf, depsGo, DF.holds, Region.binds, EqF] at hd
          try simp only [hd]
          obtain ⟨⟨b4, h79⟩, h83, -⟩ := hd
          simp only [h79, h83]
          have hbw := (HC.out n' w' hT).1
          have hbs := hbw.size
          have HSW := Lib.hid (HX.out.2.1.below hbw (Nat.le_refl _))
          clear hbw
          intro Q2 hQ2
          go_wp2_with (at_builtin; refine wp_copyS rfl (.tmp 79) (.tmp 83) rfl b4 B1 cb1 s1 wr.heap.size rfl rfl HSW.out HZ.out.1 hs20 hbs ?_; intro v' w2 hb2 hsr2; obtain ⟨B', c', hv', hsr3⟩ := hsr2; subst hv'; have HY := Lib.hid (And.intro (TV.of_below (base := wr.heap.size) (gt := g.t) (gl := g.l) hb2) (show SrF wr.heap.size s1 (.slice B' s1.length c') w2 from ⟨B', c', rfl, hsr3⟩)); clear hb2 hsr3)
          first
            | exact HY.out
            | exact ⟨_, rfl, HY.out⟩
        try simp only [List.nil_append, List.cons_append]
        repeat
          refine LexI.const TV.rf ?_
          apply Exists.intro
          refine ⟨fun n' ys w' hn' hT hd => ?_, ?_⟩
          · try simp [DepsOf, depsGo, DF.holds, Region.binds, EqF] at hd
            obtain ⟨_, y0, y1, y2, y3⟩ := HC.out n' w' hT
            intro Q2 hQ2
            go_wp2_with fail
            rfl
          try simp only [List.nil_append, List.cons_append]
        refine LexI.some (IrF wr.heap.size i1) (IrF.st) (fun n' ys w' hn' hT hd => ?_) ?_
        · try simp [DepsOf, depsGo, DF.holds, Region.binds, EqF] at hd
          try simp only [hd]
          have hbw := (HC.out n' w' hT).1
          have hbs := hbw.size
          have HIW := Lib.hid (HX.out.2.2.below hbw (Nat.le_refl _))
          clear hbw
          intro Q2 hQ2
          go_wp2_with fail
          refine (copyInts_any D1 i1.length cd1 i1 w' HIW.out HZ.out.2 (by omega)).mono ?_
          rintro e wU ⟨v5, rfl, ho5, hU⟩
          have HY := Lib.hid (And.intro (TV.of_below (base := wr.heap.size) (gt := g.t) (gl := g.l) hU) (show IrF wr.heap.size i1 v5 wU from ho5.mono hbs))
          clear ho5 hU
          go_wp2
          exact ⟨_, rfl, HY.out⟩
        try simp only [List.nil_append, List.cons_append]
        refine LexI.some (PzF wr.heap.size g.t g.l) (PzF.st) (fun n' ys w' hn' hT hd => ?_) ?_
        · try simp [DepsOf, depsGo, DF.holds, Region.binds, EqF] at hd
          try simp only [hd]
          have hbs := (HC.out n' w' hT).1.size
          intro Q2 hQ2
          go_wp2_with fail
          exact PzF.new hbs
        try simp only [List.nil_append, List.cons_append]
        refine LexI.ref 15 (PtF wr.heap.size g.t g.l) (PtF.st) rfl rfl (fun n' ys w' hn' hT hd => ?_) ?_
        · try simp [DepsOf, depsGo, DF.holds, Region.binds, EqF] at hd
          try simp only [hd]
          obtain ⟨⟨kz, hy, hkz, ho⟩, ⟨A3, c3, h78, hown⟩, -⟩ := hd
          have hblk : ∃ a0 a1 : Value, w'.heap[kz]? = some (Obj.cells #[a0, a1] 25 (0, 0)) := by
            rcases ho with ho | ⟨A', c', ho, -⟩
            · exact ⟨_, _, ho⟩
            · exact ⟨_, _, ho⟩
          obtain ⟨a0, a1, hblk⟩ := hblk
          obtain ⟨z0, z1⟩ := blk2 hblk
          obtain ⟨f0, f1⟩ := And.intro (frz hblk 0) (frz hblk 1)
          have hlz := heap_lt hblk
          have HZZ := Lib.hid (And.intro ho hown)
          simp only [hy, h78]
          clear ho hown hblk
          intro Q2 hQ2
          go_wp2_with fail
          exact TV.put hkz HZZ.out.1 HZZ.out.2
        try simp only [List.nil_append, List.cons_append]
        refine LexI.some (SrF wr.heap.size s1) (SrF.st) (fun n' ys w' hn' hT hd => ?_) ?_
        · try simp [DepsOf, depsGo, DF.holds, Region.binds, EqF] at hd
          try simp only [hd]
          intro Q2 hQ2
          go_wp2_with fail
          exact TV.rf _
        try simp only [List.nil_append, List.cons_append]
        refine LexI.some (IrF wr.heap.size i1) (IrF.st) (fun n' ys w' hn' hT hd => ?_) ?_
        · try simp [DepsOf, depsGo, DF.holds, Region.binds, EqF] at hd
          try simp only [hd]
          intro Q2 hQ2
          go_wp2_with fail
          exact TV.rf _
        try simp only [List.nil_append, List.cons_append]
        refine hK _ (fun n' ys w5 hn' hT hF => ?_)
        simp only [AllF, DF.holds] at hF
        obtain ⟨-, -, -, -, -, -, -, -, -, -, -, -, -, -, -, -, -, ⟨b15, e15, A3, c3, hb15, hown3⟩, ⟨B4, c4, e16, hs4, hc4, hm4, hz4⟩, hIr, -⟩ := hF
        obtain ⟨D5, c5, e17, hi5, hc5, hm5⟩ := Own.form hIr lenInt
        have hS4 : Sights w5 B4 s1.length s1 := by
          rcases hs4 with h | h
          · rw [h]; exact Sl.nil_
          · rw [e16] at h; exact (Own.sl h lenSg).1
        obtain ⟨hM3, hlc3, hcm3⟩ := Own.sl hown3 lenMk
        have hb5 := hT.under (Nat.le_refl _)
        obtain ⟨p0, p1⟩ := blk2 hb15
        have hg5 := HX.out.1.below hb5 (Nat.le_refl _)
        have hsB := HX.out.2.1.below hb5 (Nat.le_refl _)
        have hiB := HX.out.2.2.below hb5 (Nat.le_refl _)
        have HCE : Hid (∀ w', Below w5.heap.size w5 w' → w'.cell? ⟨b15, 0, none⟩ = some (.int .i64 g.t) ∧ w'.cell? ⟨b15, 1, none⟩ = some (.slice A3 g.l.length c3) ∧ w'.cell? ⟨q1, k * 2, none⟩ = some (.int .i64 g.t) ∧ w'.cell? ⟨q1, k * 2 + 1, none⟩ = some (.slice g.A g.n g.c) ∧
            w'.cell? ⟨q2, k, none⟩ = some (.slice B1 s1.length cb1) ∧ w'.cell? ⟨q3, k, none⟩ = some (.slice D1 i1.length cd1)) :=
          Lib.hid fun w' hb => ⟨bcell p0 hb (Nat.le_refl _), bcell p1 hb (Nat.le_refl _), bcell (bcell g0 hb5 (Nat.le_refl _)) hb (Nat.le_refl _), bcell (bcell g1 hb5 (Nat.le_refl _)) hb (Nat.le_refl _), bcell (bcell x0 hb5 (Nat.le_refl _)) hb (Nat.le_refl _), bcell (bcell u0 hb5 (Nat.le_refl _)) hb (Nat.le_refl _)⟩
        have hsl1 : s1.length ≤ maxLen := by unfold maxLen; omega
        have hil1 : i1.length ≤ maxLen := by unfold maxLen; omega
        have hgln := hg5.m.len
        have C1 := fun w' (hb : Below w5.heap.size w5 w') => (Home_any g.t A3 g.l.length c3 g.l B4 s1.length c4 s1 D5 i1.length c5 i1 w' (hM3.below hb (Nat.le_refl _)) hlc3 hcm3 (hS4.below hb (Nat.le_refl _)) hsl1 (hi5.below hb (Nat.le_refl _)) hil1).mono (fun e w'' h => ires_of h)
        have C2 := fun w' (hb : Below w5.heap.size w5 w') => (Owners_any g.t A3 g.l.length c3 g.l B4 s1.length c4 s1 D5 i1.length c5 i1 w' (hM3.below hb (Nat.le_refl _)) hlc3 hcm3 (hS4.below hb (Nat.le_refl _)) hsl1 (hi5.below hb (Nat.le_refl _)) hil1).mono (fun e w'' h => gres_of h)
        have C3 := fun w' (hb : Below w5.heap.size w5 w') => (Left_any g.t A3 g.l.length c3 g.l B4 s1.length c4 s1 D5 i1.length c5 i1 w' (hM3.below hb (Nat.le_refl _)) hlc3 hcm3 (hS4.below hb (Nat.le_refl _)) hsl1 (hi5.below hb (Nat.le_refl _)) hil1).mono (fun e w'' h => (h : IRes w' _ _ e w''))
        have C4 := fun w' (hb : Below w5.heap.size w5 w') => (Short_any g.t A3 g.l.length c3 g.l B4 s1.length c4 s1 D5 i1.length c5 i1 w' (hM3.below hb (Nat.le_refl _)) hlc3 hcm3 (hS4.below hb (Nat.le_refl _)) hsl1 (hi5.below hb (Nat.le_refl _)) hil1).mono (fun e w'' h => (h : IRes w' _ _ e w''))
        have K1 := fun w' (hb : Below w5.heap.size w5 w') => (rHome g.t g.A g.n g.c g.l B1 s1.length cb1 s1 D1 i1.length cd1 i1 w' (hg5.m.below hb (Nat.le_refl _)) hg5.nc hg5.cm (hsB.below hb (Nat.le_refl _)) hsc1 hsm1 (hiB.below hb (Nat.le_refl _)) hil1 HZ.out.2).mono (fun e w'' h => (h : IRes w' _ _ e w''))
        have K2 := fun w' (hb : Below w5.heap.size w5 w') => (rOwners g.t g.A g.n g.c g.l B1 s1.length cb1 s1 D1 i1.length cd1 i1 w' (hg5.m.below hb (Nat.le_refl _)) hg5.nc hg5.cm (hsB.below hb (Nat.le_refl _)) hsc1 hsm1 (hiB.below hb (Nat.le_refl _)) hil1 HZ.out.2).mono (fun e w'' h => gres_of h)
        have K3 := fun w' (hb : Below w5.heap.size w5 w') => (rLeft g.t g.A g.n g.c g.l B1 s1.length cb1 s1 D1 i1.length cd1 i1 w' (hg5.m.below hb (Nat.le_refl _)) hg5.nc hg5.cm (hsB.below hb (Nat.le_refl _)) hsc1 hsm1 (hiB.below hb (Nat.le_refl _)) hil1 HZ.out.2).mono (fun e w'' h => (h : IRes w' _ _ e w''))
        have K4 := fun w' (hb : Below w5.heap.size w5 w') => (rShort g.t g.A g.n g.c g.l B1 s1.length cb1 s1 D1 i1.length cd1 i1 w' (hg5.m.below hb (Nat.le_refl _)) hg5.nc hg5.cm (hsB.below hb (Nat.le_refl _)) hsc1 hsm1 (hiB.below hb (Nat.le_refl _)) hil1 HZ.out.2).mono (fun e w'' h => (h : IRes w' _ _ e w''))
        obtain ⟨E1, hE1⟩ : ∃ E, E = homeE g.t g.l s1 i1 := ⟨_, rfl⟩
        obtain ⟨R1, hR1⟩ : ∃ R, R = homeL g.t g.l s1 i1 := ⟨_, rfl⟩
        obtain ⟨O1, hO1⟩ : ∃ R, R = ownersR g.t g.l s1 i1 := ⟨_, rfl⟩
        obtain ⟨G1, hG1⟩ : ∃ R, R = gatherE g.t g.l s1 i1 := ⟨_, rfl⟩
        obtain ⟨L1, hL1⟩ : ∃ R, R = leftR g.t g.l s1 i1 := ⟨_, rfl⟩
        obtain ⟨E2, hE2⟩ : ∃ R, R = shortE g.t g.l s1 i1 := ⟨_, rfl⟩
        obtain ⟨S1, hS1⟩ : ∃ R, R = shortR g.t g.l s1 i1 := ⟨_, rfl⟩
        rw [← hE1, ← hR1] at C1 K1
        rw [← hE1, ← hO1] at C2 K2
        rw [← hG1, ← hL1] at C3 K3
        rw [← hE2, ← hS1] at C4 K4
        have HC1 := Lib.hid C1
        have HC2 := Lib.hid C2
        have HC3 := Lib.hid C3
        have HC4 := Lib.hid C4
        have HK1 := Lib.hid K1
        have HK2 := Lib.hid K2
        have HK3 := Lib.hid K3
        have HK4 := Lib.hid K4
        have HSA := Lib.hid (And.intro hM3 (And.intro hS4 (And.intro hi5 (And.intro hg5 (And.intro hsB (And.intro hiB (And.intro hb5 hgln)))))))
        simp only [e15, e16, e17]
        have hbk := Below.refl w5.heap.size w5
        clear C1 C2 C3 C4 K1 K2 K3 K4 hE1 hR1 hO1 hG1 hL1 hE2 hS1 hM3 hS4 hi5 hg5 hsB hiB hb5 hgln hs4 hIr hown3 hb15 e15 e16 e17 hT HC p0 p1 g0 g1 x0 u0
        obtain ⟨p0, p1, g0, g1, x0, u0⟩ := HCE.out _ hbk
        go_wp2_with fail
        (with_reducible refine (HC1.out _ hbk).mono ?_)
        rintro e w6 ⟨⟨A6, c6, rfl, hr6, hrc6, hrm6⟩, hb6⟩
        replace hbk := hbk.trans (hb6.mono hbk.size)
        clear p0 p1 g0 g1 x0 u0 hb6
        obtain ⟨p0, p1, g0, g1, x0, u0⟩ := HCE.out _ hbk
        go_upto_region 11 with (fail)
        refine wp_region_quiet_call (C := fun w' => ∃ n, w' = w6.drewN n) 12 (by kernel_rfl) (by kernel_rfl) ⟨1, rfl⟩ ?_
        simp only [List.take_succ_cons, List.take_zero, List.drop_succ_cons, List.drop_zero]
        repeat (quiet_step (fail))
        refine wpQuiet_nil ?_
        intro _ hw'
        obtain ⟨nq, hw''⟩ := hw'
        subst hw''
        intro Q2 hQ2
        go_wp2_with fail
        (with_reducible refine (HK1.out _ (below_drewN hbk nq)).mono ?_)
        rintro e w7 ⟨⟨A7, c7, rfl, hr7, hrc7, hrm7⟩, hb7⟩
        replace hb7 : Below w6.heap.size w6 w7 := below_dr hb7
        go_wp2
        repeat (quiet_step (fail))
        refine wpQuiet_nil ?_
        replace hr6 := hr6.below hb7 (Nat.le_refl _)
        replace hbk := hbk.trans (hb7.mono hbk.size)
        clear p0 p1 g0 g1 x0 u0 hb7
        obtain ⟨p0, p1, g0, g1, x0, u0⟩ := HCE.out _ hbk
        go_wp2_with fail
        (with_reducible refine (HC2.out _ hbk).mono ?_)
        rintro e w8 ⟨⟨A8, c8, rfl, hr8, hrc8, hrm8⟩, hb8⟩
        replace hr6 := hr6.below hb8 (Nat.le_refl _)
        replace hr7 := hr7.below hb8 (Nat.le_refl _)
        replace hbk := hbk.trans (hb8.mono hbk.size)
        clear p0 p1 g0 g1 x0 u0 hb8
        obtain ⟨p0, p1, g0, g1, x0, u0⟩ := HCE.out _ hbk
        go_upto_region 13 with (fail)
        refine wp_region_quiet_call (C := fun w' => ∃ n, w' = w8.drewN n) 12 (by kernel_rfl) (by kernel_rfl) ⟨1, rfl⟩ ?_
        simp only [List.take_succ_cons, List.take_zero, List.drop_succ_cons, List.drop_zero]
        repeat (quiet_step (fail))
        refine wpQuiet_nil ?_
        intro _ hw'
        obtain ⟨nq, hw''⟩ := hw'
        subst hw''
        intro Q2 hQ2
        go_wp2_with fail
        (with_reducible refine (HK2.out _ (below_drewN hbk nq)).mono ?_)
        rintro e w9 ⟨⟨A9, c9, rfl, hr9, hrc9, hrm9⟩, hb9⟩
        replace hb9 : Below w8.heap.size w8 w9 := below_dr hb9
        go_wp2
        repeat (quiet_step (fail))
        refine wpQuiet_nil ?_
        replace hr6 := hr6.below hb9 (Nat.le_refl _)
        replace hr7 := hr7.below hb9 (Nat.le_refl _)
        replace hr8 := hr8.below hb9 (Nat.le_refl _)
        replace hbk := hbk.trans (hb9.mono hbk.size)
        clear p0 p1 g0 g1 x0 u0 hb9
        obtain ⟨p0, p1, g0, g1, x0, u0⟩ := HCE.out _ hbk
        have HS1 := Lib.hid (sameInts_same A6 R1.length c6 R1 A7 c7 w9 hr6 hr7 (Nat.le_trans hrc6 hrm6))
        go_wp2_with fail
        (with_reducible refine HS1.out.mono ?_)
        rintro e w10 ⟨rfl, hb10⟩
        replace hr6 := hr6.below hb10 (Nat.le_refl _)
        replace hr7 := hr7.below hb10 (Nat.le_refl _)
        replace hr8 := hr8.below hb10 (Nat.le_refl _)
        replace hr9 := hr9.below hb10 (Nat.le_refl _)
        replace hbk := hbk.trans (hb10.mono hbk.size)
        have HS2 := Lib.hid (sameGrids_same A8 O1.length c8 O1 A9 c9 w10 hr8 hr9 (Nat.le_trans hrc8 hrm8))
        clear p0 p1 g0 g1 x0 u0 hb10
        go_wp2_with fail
        (with_reducible refine HS2.out.mono ?_)
        rintro e w11 ⟨rfl, hb11⟩
        replace hbk := hbk.trans (hb11.mono hbk.size)
        clear hb11 hr6 hr7 hr8 hr9
        obtain ⟨p0, p1, g0, g1, x0, u0⟩ := HCE.out _ hbk
        go_wp2_with fail
        (with_reducible refine (HC3.out _ hbk).mono ?_)
        rintro e w12 ⟨⟨A12, c12, rfl, hr12, hrc12, hrm12⟩, hb12⟩
        replace hbk := hbk.trans (hb12.mono hbk.size)
        clear p0 p1 g0 g1 x0 u0 hb12
        obtain ⟨p0, p1, g0, g1, x0, u0⟩ := HCE.out _ hbk
        go_upto_region 17 with (fail)
        refine wp_region_quiet_call (C := fun w' => ∃ n, w' = w12.drewN n) 12 (by kernel_rfl) (by kernel_rfl) ⟨1, rfl⟩ ?_
        simp only [List.take_succ_cons, List.take_zero, List.drop_succ_cons, List.drop_zero]
        repeat (quiet_step (fail))
        refine wpQuiet_nil ?_
        intro _ hw'
        obtain ⟨nq, hw''⟩ := hw'
        subst hw''
        intro Q2 hQ2
        go_wp2_with fail
        (with_reducible refine (HK3.out _ (below_drewN hbk nq)).mono ?_)
        rintro e w13 ⟨⟨A13, c13, rfl, hr13, hrc13, hrm13⟩, hb13⟩
        replace hb13 : Below w12.heap.size w12 w13 := below_dr hb13
        go_wp2
        repeat (quiet_step (fail))
        refine wpQuiet_nil ?_
        replace hr12 := hr12.below hb13 (Nat.le_refl _)
        replace hbk := hbk.trans (hb13.mono hbk.size)
        clear p0 p1 g0 g1 x0 u0 hb13
        obtain ⟨p0, p1, g0, g1, x0, u0⟩ := HCE.out _ hbk
        go_wp2_with fail
        (with_reducible refine (HC4.out _ hbk).mono ?_)
        rintro e w14 ⟨⟨A14, c14, rfl, hr14, hrc14, hrm14⟩, hb14⟩
        replace hr12 := hr12.below hb14 (Nat.le_refl _)
        replace hr13 := hr13.below hb14 (Nat.le_refl _)
        replace hbk := hbk.trans (hb14.mono hbk.size)
        clear p0 p1 g0 g1 x0 u0 hb14
        obtain ⟨p0, p1, g0, g1, x0, u0⟩ := HCE.out _ hbk
        go_upto_region 19 with (fail)
        refine wp_region_quiet_call (C := fun w' => ∃ n, w' = w14.drewN n) 12 (by kernel_rfl) (by kernel_rfl) ⟨1, rfl⟩ ?_
        simp only [List.take_succ_cons, List.take_zero, List.drop_succ_cons, List.drop_zero]
        repeat (quiet_step (fail))
        refine wpQuiet_nil ?_
        intro _ hw'
        obtain ⟨nq, hw''⟩ := hw'
        subst hw''
        intro Q2 hQ2
        go_wp2_with fail
        (with_reducible refine (HK4.out _ (below_drewN hbk nq)).mono ?_)
        rintro e w15 ⟨⟨A15, c15, rfl, hr15, hrc15, hrm15⟩, hb15⟩
        replace hb15 : Below w14.heap.size w14 w15 := below_dr hb15
        go_wp2
        repeat (quiet_step (fail))
        refine wpQuiet_nil ?_
        replace hr12 := hr12.below hb15 (Nat.le_refl _)
        replace hr13 := hr13.below hb15 (Nat.le_refl _)
        replace hr14 := hr14.below hb15 (Nat.le_refl _)
        replace hbk := hbk.trans (hb15.mono hbk.size)
        clear p0 p1 g0 g1 x0 u0 hb15
        obtain ⟨p0, p1, g0, g1, x0, u0⟩ := HCE.out _ hbk
        have HQ1 : Hid (∀ d os, Calls Try.prog 16 #[.slice A12 L1.length c12, .slice A13 L1.length c13] (Sort.grow (redrawn w15 d) os) (fun e w'' => e = .returned (.bool true) ∧ ∃ p : Regrown, w'' = Sort.grow (redrawn w15 p.d) p.os)) := Lib.hid fun d os =>
          Calls.regrown_of (sameInts_same A12 L1.length c12 L1 A13 c13 _ (hr12.below (below_regrown w15 d os) (Nat.le_refl _)) (hr13.below (below_regrown w15 d os) (Nat.le_refl _)) (Nat.le_trans hrc12 hrm12))
        have HQ2 : Hid (∀ d os, Calls Try.prog 16 #[.slice A14 S1.length c14, .slice A15 S1.length c15] (Sort.grow (redrawn w15 d) os) (fun e w'' => e = .returned (.bool true) ∧ ∃ p : Regrown, w'' = Sort.grow (redrawn w15 p.d) p.os)) := Lib.hid fun d os =>
          Calls.regrown_of (sameInts_same A14 S1.length c14 S1 A15 c15 _ (hr14.below (below_regrown w15 d os) (Nat.le_refl _)) (hr15.below (below_regrown w15 d os) (Nat.le_refl _)) (Nat.le_trans hrc14 hrm14))
        have HQ3 : Hid (∀ d os, Calls Try.prog 42 #[.agg #[.int .i64 g.t, .slice A3 g.l.length c3], .agg #[.int .i64 g.t, .slice g.A g.n g.c]] (Sort.grow (redrawn w15 d) os) (fun e w'' => e = .returned (.bool true) ∧ ∃ p : Regrown, w'' = Sort.grow (redrawn w15 p.d) p.os)) := Lib.hid fun d os => by
          have h := sameRegisters_any g.t g.t A3 g.l.length c3 g.l g.A g.n g.c g.l (Sort.grow (redrawn w15 d) os) ((HSA.out.1.below hbk (Nat.le_refl _)).below (below_regrown w15 d os) (Nat.le_refl _)) ((HSA.out.2.2.2.1.m.below hbk (Nat.le_refl _)).below (below_regrown w15 d os) (Nat.le_refl _)) (Nat.le_trans hlc3 hcm3) (Nat.le_trans HSA.out.2.2.2.1.nc HSA.out.2.2.2.1.cm)
          rw [show (decide (g.t = g.t) && sameL g.l g.l) = true by simp [sameL]] at h
          exact Calls.regrown_of h
        have HQ4 : Hid (∀ d os, Calls Try.prog 43 #[.slice B4 s1.length c4, .slice B1 s1.length cb1] (Sort.grow (redrawn w15 d) os) (fun e w'' => e = .returned (.bool true) ∧ ∃ p : Regrown, w'' = Sort.grow (redrawn w15 p.d) p.os)) := Lib.hid fun d os =>
          Calls.regrown_of (sameSights_same B4 s1.length c4 s1 B1 cb1 _ ((HSA.out.2.1.below hbk (Nat.le_refl _)).below (below_regrown w15 d os) (Nat.le_refl _)) ((HSA.out.2.2.2.2.1.below hbk (Nat.le_refl _)).below (below_regrown w15 d os) (Nat.le_refl _)) hsl1)
        have HQ5 : Hid (∀ d os, Calls Try.prog 16 #[.slice D5 i1.length c5, .slice D1 i1.length cd1] (Sort.grow (redrawn w15 d) os) (fun e w'' => e = .returned (.bool true) ∧ ∃ p : Regrown, w'' = Sort.grow (redrawn w15 p.d) p.os)) := Lib.hid fun d os =>
          Calls.regrown_of (sameInts_same D5 i1.length c5 i1 D1 cd1 _ ((HSA.out.2.2.1.below hbk (Nat.le_refl _)).below (below_regrown w15 d os) (Nat.le_refl _)) ((HSA.out.2.2.2.2.2.1.below hbk (Nat.le_refl _)).below (below_regrown w15 d os) (Nat.le_refl _)) hil1)
        clear hr12 hr13 hr14 hr15
        go_upto_region 20 with (fail)
        have z0 := cell_regrown p0
        have z1 := cell_regrown p1
        have z2 := cell_regrown g0
        have z3 := cell_regrown g1
        have z4 := cell_regrown x0
        have z5 := cell_regrown u0
        clear p0 p1 g0 g1 x0 u0
        refine wp_region_quiet_below (by kernel_rfl) (by kernel_rfl) ?_
        repeat (quiet_step (first | (with_reducible exact HQ1.out _ _) | (with_reducible exact HQ2.out _ _) | (with_reducible exact HQ3.out _ _) | (with_reducible exact HQ4.out _ _) | (with_reducible exact HQ5.out _ _)))
        refine wpQuiet_nil ?_
        intro _ hw'
        obtain ⟨⟨dq, osq⟩, hw''⟩ := hw'
        subst hw''
        obtain ⟨W9, hW9⟩ : ∃ W9, W9 = Sort.grow (redrawn w15 dq) osq := ⟨_, rfl⟩
        have hB9 : Below w15.heap.size w15 W9 := by rw [hW9]; exact below_regrown w15 dq osq
        rw [← hW9]
        have HEND := Lib.hid (HBR.out.1.trans ((HSA.out.2.2.2.2.2.2.1.trans ((hbk.trans (hB9.mono hbk.size)).mono HSA.out.2.2.2.2.2.2.1.size)).mono HBR.out.1.size))
        clear hW9 z0 z1 z2 z3 z4 z5 hB9 hbk
        go_wp2
        go_roundg (gk - 1)
        case measure => have := HK.out; omega
        case rel => exact ⟨k + 1, by have := HK.out; omega, by go_num, HEND.out⟩
      · obtain rfl : k = 3 := by omega
        go_wp2_with fail
        refine (marking_any _).mono ?_
        rintro e w3 ⟨rfl, hb3⟩
        go_wp2
        go_ret
        have hBx := HRS.out.2.2.2.2.2.2
        have hBr := hBx.trans (hbr.mono hBx.size)
        exact ⟨rfl, hBr.trans (hb3.mono hBr.size)⟩
end Go.Proofs.Ytoidaigiejilcaa
