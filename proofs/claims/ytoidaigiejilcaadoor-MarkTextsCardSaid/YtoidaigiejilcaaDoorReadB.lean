/- mark.Read: a register read, with the line and the error; a panic at a line that is not as said is recovered. -/
import Derived.Test.YtoidaigiejilcaaDoorReadA
import Derived.Test.YtoidaigiejilcaaDoorCheck
import Derived.Defers
import Derived.Recover
namespace Go.Proofs.YtoidaigiejilcaaDoor
open Go.RowKit
set_option linter.unusedVariables false
set_option linter.unusedSimpArgs false

theorem RdOut.none_ {base : Nat} {o : Option Rd} {ln : Nat} {e : Ending} {w' : World} (h : RdOut base o ln e w') (ho : o = none) : e = .panicked [{ v := wrongV ln, recovered := false }] := by
  rcases h with h | ⟨st, A, c, h, _⟩
  · exact h.2
  · rw [ho] at h; cases h
theorem RdOut.some_ {base : Nat} {o : Option Rd} {ln : Nat} {e : Ending} {w' : World} {st : Rd} (h : RdOut base o ln e w') (ho : o = some st) :
    ∃ A c, e = .returned (.agg #[.int .i64 st.t, .slice A st.l.length c]) ∧ OwnM w' base (.slice A st.l.length c) st.l ∧ Marks w' A st.l.length st.l ∧ st.l.length ≤ c ∧ c ≤ maxLen := by
  rcases h with h | ⟨st', A, c, h, hh⟩
  · rw [ho] at h; cases h.1
  · rw [ho] at h; injection h with h; subst h; exact ⟨A, c, hh⟩

theorem assert_wrong (v : Value) (x : TypeId) (w : World) : (Instr.typeAssert (.iface 69 v) x 69 true).run Tryd.prog w = .ok (.tuple #[v, .bool true]) w := by
  have h1 := Tryd.underlying69
  simp [Instr.typeAssert, go_sem]
set_option maxRecDepth 100000 in
set_option maxHeartbeats 2000000 in
theorem catch_idle (p q r : Nat) (w : World) :
    CallsD Tryd.prog 29 #[.pointer (some ⟨p, 0, none⟩), .pointer (some ⟨q, 0, none⟩), .pointer (some ⟨r, 0, none⟩)] .returning w fun e u' w' => e = .returned (.tuple #[]) ∧ u' = .returning ∧ w' = w := by
  refine callsD_of_wpS Tryd.func29 rfl fun c₀ cs hu => ?_
  apply wpS_seq
  apply wpS_region
  simp [wpOpsS, go_sem, recoverD, hu, Tryd.ntmps29, Exit.thenS, Array.replicate, List.replicate]
  refine wpS_of_wp ?_
  go_wp2
  cases c₀
  simp_all [bodyPostS, results, Tryd.results29]

set_option maxRecDepth 100000 in
set_option maxHeartbeats 2000000 in
theorem catch_wrong (p q r n : Nat) (older : List PanicEntry) (x : Int) (v : Value) (y z : Int) (w : World) (hp : w.heap[p]? = some (.cells #[.int .i64 x, v] 26 (0, 0))) (hq : w.heap[q]? = some (.cells #[.int .i64 y] 30 (0, 0))) (hr : w.heap[r]? = some (.cells #[.int .i64 z] 3 (0, 0))) (hpq : p ≠ q) (hpr : p ≠ r) (hqr : q ≠ r) :
    CallsD Tryd.prog 29 #[.pointer (some ⟨p, 0, none⟩), .pointer (some ⟨q, 0, none⟩), .pointer (some ⟨r, 0, none⟩)] (.panicking ({ v := wrongV n, recovered := false } :: older)) w fun e u' w' =>
      e = .returned (.tuple #[]) ∧ u' = .panicking ({ v := wrongV n, recovered := true } :: older) ∧ w'.heap[p]? = some (.cells #[.int .i64 0, .slice none 0 0] 26 (0, 0)) ∧ w'.heap[q]? = some (.cells #[.int .i64 2] 30 (0, 0)) ∧ w'.heap[r]? = some (.cells #[.int .i64 n] 3 (0, 0)) ∧ ∀ B, B ≤ p → B ≤ q → B ≤ r → Below B w w' := by
  unfold wrongV
  refine callsD_of_wpS Tryd.func29 rfl fun c₀ cs hu => ?_
  apply wpS_seq
  apply wpS_region
  simp [wpOpsS, go_sem, recoverD, hu, Tryd.ntmps29, Exit.thenS, Array.replicate, List.replicate]
  refine wpS_of_wp ?_
  have hta := assert_wrong
  obtain ⟨p0, p1⟩ := blk2 hp
  have q0 := blk1 hq
  have r0 := blk1 hr
  obtain ⟨fp0, fp1, fq, fr⟩ := And.intro (frz hp 0) (And.intro (frz hp 1) (And.intro (frz hq 0) (frz hr 0)))
  obtain ⟨gp, gq, gr⟩ := And.intro (heap_lt hp) (And.intro (heap_lt hq) (heap_lt hr))
  have e1 : (((((w.setCell ⟨p, 0, none⟩ (.int .i64 0)).setCell ⟨p, 1, none⟩ (.slice none 0 0)).setCell ⟨q, 0, none⟩ (.int .i64 2)).setCell ⟨r, 0, none⟩ (.int .i64 n)).alloc (Obj.cells #[Value.int .i64 n] 69)).heap[p]? = some (.cells #[.int .i64 0, .slice none 0 0] 26 (0, 0)) :=
    hblk_alloc ((Below.heap_setCell _ ⟨r, 0, none⟩ _ _ hpr).trans ((Below.heap_setCell _ ⟨q, 0, none⟩ _ _ hpq).trans (set_blk (set_blk hp)))) _
  have e2 : (((((w.setCell ⟨p, 0, none⟩ (.int .i64 0)).setCell ⟨p, 1, none⟩ (.slice none 0 0)).setCell ⟨q, 0, none⟩ (.int .i64 2)).setCell ⟨r, 0, none⟩ (.int .i64 n)).alloc (Obj.cells #[Value.int .i64 n] 69)).heap[q]? = some (.cells #[.int .i64 2] 30 (0, 0)) :=
    hblk_alloc ((Below.heap_setCell _ ⟨r, 0, none⟩ _ _ hqr).trans (set_blk (((Below.heap_setCell _ ⟨p, 1, none⟩ _ _ (Ne.symm hpq)).trans ((Below.heap_setCell _ ⟨p, 0, none⟩ _ _ (Ne.symm hpq)).trans hq))))) _
  have e3 : (((((w.setCell ⟨p, 0, none⟩ (.int .i64 0)).setCell ⟨p, 1, none⟩ (.slice none 0 0)).setCell ⟨q, 0, none⟩ (.int .i64 2)).setCell ⟨r, 0, none⟩ (.int .i64 n)).alloc (Obj.cells #[Value.int .i64 n] 69)).heap[r]? = some (.cells #[.int .i64 n] 3 (0, 0)) :=
    hblk_alloc (set_blk ((Below.heap_setCell _ ⟨q, 0, none⟩ _ _ (Ne.symm hqr)).trans ((Below.heap_setCell _ ⟨p, 1, none⟩ _ _ (Ne.symm hpr)).trans ((Below.heap_setCell _ ⟨p, 0, none⟩ _ _ (Ne.symm hpr)).trans hr)))) _
  have e4 : ∀ B, B ≤ p → B ≤ q → B ≤ r → Below B w (((((w.setCell ⟨p, 0, none⟩ (.int .i64 0)).setCell ⟨p, 1, none⟩ (.slice none 0 0)).setCell ⟨q, 0, none⟩ (.int .i64 2)).setCell ⟨r, 0, none⟩ (.int .i64 n)).alloc (Obj.cells #[Value.int .i64 n] 69)) := fun B h1 h2 h3 =>
    bal (Below.setCell (Below.setCell (Below.setCell (Below.setCell (Below.refl _ _) (p := ⟨p, 0, none⟩) h1 _) (p := ⟨p, 1, none⟩) h1 _) (p := ⟨q, 0, none⟩) h2 _) (p := ⟨r, 0, none⟩) h3 _) (by omega) _
  have HE := Lib.hid (And.intro e1 (And.intro e2 (And.intro e3 e4)))
  clear e1 e2 e3 e4
  go_wp2
  refine ⟨rfl, _, rfl, .tuple #[], by simp [results, Tryd.results29], rfl, rfl, HE.out⟩

theorem three_new (w : World) {a b c : Obj} {w1 : World} (h : Below (((w.alloc a).alloc b).alloc c).heap.size (((w.alloc a).alloc b).alloc c) w1) :
    w1.heap[w.heap.size]? = some a ∧ w1.heap[w.heap.size + 1]? = some b ∧ w1.heap[w.heap.size + 1 + 1]? = some c :=
  ⟨bheap (hblk_alloc (hblk_alloc (alloc_at rfl) _) _) h (Nat.le_refl _), bheap (hblk_alloc (alloc_at (by simp)) _) h (Nat.le_refl _), bheap (alloc_at (by simp)) h (Nat.le_refl _)⟩
theorem three_below (w : World) {a b c : Obj} {w1 : World} (h : Below (((w.alloc a).alloc b).alloc c).heap.size (((w.alloc a).alloc b).alloc c) w1) : Below w.heap.size w w1 :=
  have hb : Below w.heap.size w (((w.alloc a).alloc b).alloc c) := bal (bal (bal0 w _) (Nat.le_refl _) _) (Nat.le_refl _) _
  hb.trans (h.mono hb.size)
theorem four_put {w : World} {p : Nat} {a0 a1 b c x y u v : Value} (hp : w.heap[p]? = some (Obj.cells #[a0, a1] 26 (0, 0))) (hl : w.heap[p + 1]? = some (Obj.cells #[b] 3 (0, 0))) (he : w.heap[p + 1 + 1]? = some (Obj.cells #[c] 30 (0, 0))) :
    ((((w.setCell ⟨p, 0, none⟩ x).setCell ⟨p, 1, none⟩ y).setCell ⟨p + 1, 0, none⟩ u).setCell ⟨p + 1 + 1, 0, none⟩ v).heap[p]? = some (Obj.cells #[x, y] 26 (0, 0)) ∧
    ((((w.setCell ⟨p, 0, none⟩ x).setCell ⟨p, 1, none⟩ y).setCell ⟨p + 1, 0, none⟩ u).setCell ⟨p + 1 + 1, 0, none⟩ v).heap[p + 1]? = some (Obj.cells #[u] 3 (0, 0)) ∧
    ((((w.setCell ⟨p, 0, none⟩ x).setCell ⟨p, 1, none⟩ y).setCell ⟨p + 1, 0, none⟩ u).setCell ⟨p + 1 + 1, 0, none⟩ v).heap[p + 1 + 1]? = some (Obj.cells #[v] 30 (0, 0)) ∧
    Below p w ((((w.setCell ⟨p, 0, none⟩ x).setCell ⟨p, 1, none⟩ y).setCell ⟨p + 1, 0, none⟩ u).setCell ⟨p + 1 + 1, 0, none⟩ v) ∧
    ∀ j, p + 1 + 1 < j → ((((w.setCell ⟨p, 0, none⟩ x).setCell ⟨p, 1, none⟩ y).setCell ⟨p + 1, 0, none⟩ u).setCell ⟨p + 1 + 1, 0, none⟩ v).heap[j]? = w.heap[j]? :=
  ⟨(Below.heap_setCell _ ⟨p + 1 + 1, 0, none⟩ _ _ (by dsimp; omega)).trans ((Below.heap_setCell _ ⟨p + 1, 0, none⟩ _ _ (by dsimp; omega)).trans (set_blk (set_blk hp))),
   (Below.heap_setCell _ ⟨p + 1 + 1, 0, none⟩ _ _ (by dsimp; omega)).trans (set_blk ((Below.heap_setCell _ ⟨p, 1, none⟩ _ _ (by dsimp; omega)).trans ((Below.heap_setCell _ ⟨p, 0, none⟩ _ _ (by dsimp; omega)).trans hl))),
   set_blk ((Below.heap_setCell _ ⟨p + 1, 0, none⟩ _ _ (by dsimp; omega)).trans ((Below.heap_setCell _ ⟨p, 1, none⟩ _ _ (by dsimp; omega)).trans ((Below.heap_setCell _ ⟨p, 0, none⟩ _ _ (by dsimp; omega)).trans he))),
   Below.setCell (Below.setCell (Below.setCell (Below.setCell (Below.refl _ _) (p := ⟨p, 0, none⟩) (Nat.le_refl _) _) (p := ⟨p, 1, none⟩) (Nat.le_refl _) _) (p := ⟨p + 1, 0, none⟩) (by dsimp; omega) _) (p := ⟨p + 1 + 1, 0, none⟩) (by dsimp; omega) _,
   fun j hj => (Below.heap_setCell _ ⟨p + 1 + 1, 0, none⟩ _ _ (by dsimp; omega)).trans ((Below.heap_setCell _ ⟨p + 1, 0, none⟩ _ _ (by dsimp; omega)).trans ((Below.heap_setCell _ ⟨p, 1, none⟩ _ _ (by dsimp; omega)).trans (Below.heap_setCell _ ⟨p, 0, none⟩ _ _ (by dsimp; omega))))⟩
def ReadOut (R : Rr) (e : Ending) (w' : World) : Prop := ∃ A c, e = .returned (.tuple #[.agg #[.int .i64 R.t, .slice A R.l.length c], .int .i64 R.line, .int .i64 R.e]) ∧ Marks w' A R.l.length R.l ∧ R.l.length ≤ c ∧ c ≤ maxLen

set_option maxRecDepth 100000 in
set_option maxHeartbeats 2000000 in
theorem Read_any (s : ByteArray) (w : World) (hs : s.size ≤ 9223372036854775807) :
    Calls Tryd.prog 9 #[.string s] w fun e w' => ReadOut (readL s.data.toList) e w' ∧ Below w.heap.size w w' := by
  have hmf : ∀ (fn : Fn) (first cap : Array Value) (w : World), (Instr.makeFunc fn first cap).run Tryd.prog w = .ok (.func fn first cap) w := fun _ _ _ _ => rfl
  have hsz := Lib.size_eq s
  by_cases hlong : 120 < s.data.toList.length
  · have hl : (120 : Int) < (s.size : Int) := by omega
    have hR : readL s.data.toList = ⟨0, [], 0, 10⟩ := if_pos hlong
    rw [hR]
    clear hR hlong hsz
    go_enter_defers Tryd.func9, Tryd.ntmps9
    go_wp2
    obtain ⟨W, hW⟩ : ∃ W, W = ((w.alloc (Obj.cells #[Value.int .i64 0, Value.slice none 0 0] 26)).alloc (Obj.cells #[Value.int .i64 0] 3)).alloc (Obj.cells #[Value.int .i64 10] 30) := ⟨_, rfl⟩
    have b0 : W.heap[w.heap.size]? = some (Obj.cells #[Value.int .i64 0, Value.slice none 0 0] 26 (0, 0)) := by rw [hW]; exact hblk_alloc (hblk_alloc (alloc_at rfl) _) _
    have b1 : W.heap[w.heap.size + 1]? = some (Obj.cells #[Value.int .i64 0] 3 (0, 0)) := by rw [hW]; exact hblk_alloc (alloc_at (by simp)) _
    have b2 : W.heap[w.heap.size + 1 + 1]? = some (Obj.cells #[Value.int .i64 10] 30 (0, 0)) := by rw [hW]; exact alloc_at (by simp)
    have hB : Below w.heap.size w W := by rw [hW]; exact bal (bal (bal0 w _) (Nat.le_refl _) _) (Nat.le_refl _) _
    rw [← hW]
    clear hW
    obtain ⟨p0, p1⟩ := blk2 b0
    have q0 := blk1 b1
    have r0 := blk1 b2
    exact ⟨.tuple #[.agg #[.int .i64 0, .slice none 0 0], .int .i64 0, .int .i64 10], by simp [results, Tryd.f9, go_sem, p0, p1, q0, r0], ⟨none, 0, rfl, Sl.nil_, Nat.le_refl _, Nat.zero_le _⟩, hB⟩
  · have hl : ¬ (120 : Int) < (s.size : Int) := by omega
    cases ho : rdOk s.data.toList with
    | none =>
      have hR : readL s.data.toList = ⟨0, [], rdLn s.data.toList, 2⟩ := by unfold readL; rw [if_neg hlong, ho]
      rw [hR]
      obtain ⟨n, hn⟩ : ∃ n, n = rdLn s.data.toList := ⟨_, rfl⟩
      rw [← hn]
      have HO := Lib.hid (And.intro ho hn)
      have hs' : s.size ≤ 4294967280 := by omega
      clear hR hlong ho hn hsz hs
      go_enter_defers Tryd.func9, Tryd.ntmps9
      go_wp2_with (go_at_call 30; refine (read_any s _ hs').mono ?_; rintro e w1 ⟨ho, hb1⟩; obtain rfl := ho.none_ HO.out.1; clear ho; rw [← HO.out.2])
      obtain ⟨p0, p1, p2⟩ := three_new w hb1
      have hB1 := three_below w hb1
      clear hb1
      refine leaves_cons (f := 29) (args := #[.pointer (some ⟨w.heap.size, 0, none⟩), .pointer (some ⟨w.heap.size + 1 + 1, 0, none⟩), .pointer (some ⟨w.heap.size + 1, 0, none⟩)]) (by simp) (by simp [go_sem]) ?_
      refine (catch_wrong w.heap.size (w.heap.size + 1 + 1) (w.heap.size + 1) n [] 0 (.slice none 0 0) 0 0 _ p0 p2 p1 (by omega) (by omega) (by omega)).mono ?_
      rintro e u' w2 ⟨rfl, rfl, e0, e2, e1, hb2⟩
      have hB2 := hB1.trans (hb2 w.heap.size (Nat.le_refl _) (by omega) (by omega))
      obtain ⟨p0, p1⟩ := blk2 e0
      have q0 := blk1 e1
      have r0 := blk1 e2
      exact ⟨.tuple #[.agg #[.int .i64 0, .slice none 0 0], .int .i64 n, .int .i64 2], by simp [results, Tryd.f9, go_sem, p0, p1, q0, r0], ⟨none, 0, rfl, Sl.nil_, Nat.le_refl _, Nat.zero_le _⟩, hB2⟩
    | some st =>
      obtain ⟨t, l, en⟩ := st
      have hs' : s.size ≤ 4294967280 := by omega
      by_cases hc : check t l = 0
      · have hR : readL s.data.toList = ⟨t, l, 0, 0⟩ := by unfold readL; rw [if_neg hlong, ho]; exact if_neg (fun h => h hc)
        rw [hR]
        have HO := Lib.hid (And.intro ho hc)
        clear hR hlong ho hc hsz hs
        go_enter_defers Tryd.func9, Tryd.ntmps9
        go_upto_region 5 with (go_at_call 30; refine (read_any s _ hs').mono ?_; rintro e w1 ⟨ho, hb1⟩; obtain ⟨A, c, rfl, hown, hm, hlc, hcm⟩ := ho.some_ HO.out.1; clear ho; obtain ⟨p0, p1, p2⟩ := three_new w hb1; have hB1 := three_below w hb1; obtain ⟨q0, q1⟩ := blk2 p0; have f0 := frz p0 0; have f1 := frz p0 1)
        obtain ⟨W5, hW⟩ : ∃ W5, W5 = (w1.setCell ⟨w.heap.size, 0, none⟩ (.int .i64 t)).setCell ⟨w.heap.size, 1, none⟩ (.slice A l.length c) := ⟨_, rfl⟩
        have hfar : ∀ j, j ≠ w.heap.size → W5.heap[j]? = w1.heap[j]? := fun j hj => by rw [hW]; exact (Below.heap_setCell _ ⟨w.heap.size, 1, none⟩ _ _ hj).trans (Below.heap_setCell _ ⟨w.heap.size, 0, none⟩ _ _ hj)
        have d0 : W5.heap[w.heap.size]? = some (Obj.cells #[Value.int .i64 t, .slice A l.length c] 26 (0, 0)) := by rw [hW]; exact set_blk (set_blk p0)
        have d1 := (hfar (w.heap.size + 1) (by omega)).trans p1
        have d2 := (hfar (w.heap.size + 1 + 1) (by omega)).trans p2
        have hown5 := hown.upon (w' := W5) (fun j hj => hfar j (by simp at hj; try omega))
        have hB5 : Below w.heap.size w W5 := by rw [hW]; exact Below.setCell (Below.setCell hB1 (p := ⟨w.heap.size, 0, none⟩) (Nat.le_refl _) _) (p := ⟨w.heap.size, 1, none⟩) (Nat.le_refl _) _
        rw [← hW]
        clear hW hfar p0 p1 p2 hown hm hB1 hb1 q0 q1 f0 f1
        obtain ⟨q0, q1⟩ := blk2 d0
        have HM := Lib.hid (And.intro (hown5.sl lenMk).1 (And.intro hlc (And.intro hcm (hown5.mono (base' := w.heap.size + 3) (by simp)))))
        have HD := Lib.hid (And.intro d0 (And.intro d1 (And.intro d2 hB5)))
        clear d0 d1 d2 hB5 hown5 hlc hcm
        go_wp2_with (go_at_call 26; refine (check_any t A l.length c l _ HM.out.1 HM.out.2.1 HM.out.2.2.1).mono ?_; rintro e w6 ⟨rfl, hb6⟩; rw [HO.out.2]; have d0 := bheap HD.out.1 hb6 (Nat.le_refl _); have d1 := bheap HD.out.2.1 hb6 (Nat.le_refl _); have d2 := bheap HD.out.2.2.1 hb6 (Nat.le_refl _); obtain ⟨x0, x1⟩ := blk2 d0; have x2 := blk1 d1; have x3 := blk1 d2; have x4 := frz d0 0; have x5 := frz d0 1; have x6 := frz d1 0; have x7 := frz d2 0; have H6 := Lib.hid (And.intro hb6 (And.intro d0 (And.intro d1 d2))); clear hb6 d0 d1 d2)
        refine leaves_cons (f := 29) (args := #[.pointer (some ⟨w.heap.size, 0, none⟩), .pointer (some ⟨w.heap.size + 1 + 1, 0, none⟩), .pointer (some ⟨w.heap.size + 1, 0, none⟩)]) (by simp) (by simp [go_sem]) ?_
        refine (catch_idle w.heap.size (w.heap.size + 1 + 1) (w.heap.size + 1) _).mono ?_
        rintro e u' w8 ⟨rfl, rfl, hw8⟩
        obtain ⟨e0, e1, e2, e3, e4⟩ := four_put (x := .int .i64 t) (y := .slice A l.length c) (u := .int .i64 0) (v := .int .i64 0) H6.out.2.1 H6.out.2.2.1 H6.out.2.2.2
        rw [hw8]
        have hB8 := (HD.out.2.2.2.trans (H6.out.1.mono HD.out.2.2.2.size)).trans e3
        have hown8 := (HM.out.2.2.2.below H6.out.1 (Nat.le_refl _)).upon (w' := ((((w6.setCell ⟨w.heap.size, 0, none⟩ (.int .i64 t)).setCell ⟨w.heap.size, 1, none⟩ (.slice A l.length c)).setCell ⟨w.heap.size + 1, 0, none⟩ (.int .i64 0)).setCell ⟨w.heap.size + 1 + 1, 0, none⟩ (.int .i64 0))) (fun j hj => e4 j (by omega))
        have HZ := Lib.hid (And.intro hB8 (hown8.sl lenMk).1)
        clear hw8 hB8 hown8 e3 e4
        generalize ((((w6.setCell ⟨w.heap.size, 0, none⟩ (.int .i64 t)).setCell ⟨w.heap.size, 1, none⟩ (.slice A l.length c)).setCell ⟨w.heap.size + 1, 0, none⟩ (.int .i64 0)).setCell ⟨w.heap.size + 1 + 1, 0, none⟩ (.int .i64 0)) = Z at e0 e1 e2 HZ ⊢
        clear x0 x1 x2 x3 x4 x5 x6 x7
        obtain ⟨y0, y1⟩ := blk2 e0
        have y2 := blk1 e1
        have y3 := blk1 e2
        exact ⟨.tuple #[.agg #[.int .i64 t, .slice A l.length c], .int .i64 0, .int .i64 0], by simp [results, Tryd.f9, go_sem, y0, y1, y2, y3], ⟨A, c, rfl, HZ.out.2, HM.out.2.1, HM.out.2.2.1⟩, HZ.out.1⟩
      · have hR : readL s.data.toList = ⟨0, [], 0, check t l⟩ := by unfold readL; rw [if_neg hlong, ho]; exact if_pos hc
        rw [hR]
        obtain ⟨ev, hev⟩ : ∃ x, x = check t l := ⟨_, rfl⟩
        rw [← hev]
        have hne : (ev != 0) = true := bne_iff_ne.2 (by rw [hev]; exact hc)
        have HO := Lib.hid (And.intro ho hev)
        clear hR hlong ho hc hsz hs hev
        go_enter_defers Tryd.func9, Tryd.ntmps9
        go_upto_region 5 with (go_at_call 30; refine (read_any s _ hs').mono ?_; rintro e w1 ⟨ho, hb1⟩; obtain ⟨A, c, rfl, hown, hm, hlc, hcm⟩ := ho.some_ HO.out.1; clear ho; obtain ⟨p0, p1, p2⟩ := three_new w hb1; have hB1 := three_below w hb1; obtain ⟨q0, q1⟩ := blk2 p0; have f0 := frz p0 0; have f1 := frz p0 1)
        obtain ⟨W5, hW⟩ : ∃ W5, W5 = (w1.setCell ⟨w.heap.size, 0, none⟩ (.int .i64 t)).setCell ⟨w.heap.size, 1, none⟩ (.slice A l.length c) := ⟨_, rfl⟩
        have hfar : ∀ j, j ≠ w.heap.size → W5.heap[j]? = w1.heap[j]? := fun j hj => by rw [hW]; exact (Below.heap_setCell _ ⟨w.heap.size, 1, none⟩ _ _ hj).trans (Below.heap_setCell _ ⟨w.heap.size, 0, none⟩ _ _ hj)
        have d0 : W5.heap[w.heap.size]? = some (Obj.cells #[Value.int .i64 t, .slice A l.length c] 26 (0, 0)) := by rw [hW]; exact set_blk (set_blk p0)
        have d1 := (hfar (w.heap.size + 1) (by omega)).trans p1
        have d2 := (hfar (w.heap.size + 1 + 1) (by omega)).trans p2
        have hown5 := hown.upon (w' := W5) (fun j hj => hfar j (by simp at hj; try omega))
        have hB5 : Below w.heap.size w W5 := by rw [hW]; exact Below.setCell (Below.setCell hB1 (p := ⟨w.heap.size, 0, none⟩) (Nat.le_refl _) _) (p := ⟨w.heap.size, 1, none⟩) (Nat.le_refl _) _
        rw [← hW]
        clear hW hfar p0 p1 p2 hown hm hB1 hb1 q0 q1 f0 f1
        obtain ⟨q0, q1⟩ := blk2 d0
        have HM := Lib.hid (And.intro (hown5.sl lenMk).1 (And.intro hlc (And.intro hcm (hown5.mono (base' := w.heap.size + 3) (by simp)))))
        have HD := Lib.hid (And.intro d0 (And.intro d1 (And.intro d2 hB5)))
        clear d0 d1 d2 hB5 hown5 hlc hcm
        go_wp2_with (go_at_call 26; refine (check_any t A l.length c l _ HM.out.1 HM.out.2.1 HM.out.2.2.1).mono ?_; rintro e w6 ⟨rfl, hb6⟩; rw [← HO.out.2]; have d0 := bheap HD.out.1 hb6 (Nat.le_refl _); have d1 := bheap HD.out.2.1 hb6 (Nat.le_refl _); have d2 := bheap HD.out.2.2.1 hb6 (Nat.le_refl _); obtain ⟨x0, x1⟩ := blk2 d0; have x2 := blk1 d1; have x3 := blk1 d2; have x4 := frz d0 0; have x5 := frz d0 1; have x6 := frz d1 0; have x7 := frz d2 0; have H6 := Lib.hid (And.intro hb6 (And.intro d0 (And.intro d1 d2))); clear hb6 d0 d1 d2)
        refine leaves_cons (f := 29) (args := #[.pointer (some ⟨w.heap.size, 0, none⟩), .pointer (some ⟨w.heap.size + 1 + 1, 0, none⟩), .pointer (some ⟨w.heap.size + 1, 0, none⟩)]) (by simp) (by simp [go_sem]) ?_
        refine (catch_idle w.heap.size (w.heap.size + 1 + 1) (w.heap.size + 1) _).mono ?_
        rintro e u' w8 ⟨rfl, rfl, hw8⟩
        obtain ⟨e0, e1, e2, e3, e4⟩ := four_put (x := .int .i64 0) (y := .slice none 0 0) (u := .int .i64 0) (v := .int .i64 ev) H6.out.2.1 H6.out.2.2.1 H6.out.2.2.2
        rw [hw8]
        have hB8 := (HD.out.2.2.2.trans (H6.out.1.mono HD.out.2.2.2.size)).trans e3
        have hown8 := (HM.out.2.2.2.below H6.out.1 (Nat.le_refl _)).upon (w' := ((((w6.setCell ⟨w.heap.size, 0, none⟩ (.int .i64 0)).setCell ⟨w.heap.size, 1, none⟩ (.slice none 0 0)).setCell ⟨w.heap.size + 1, 0, none⟩ (.int .i64 0)).setCell ⟨w.heap.size + 1 + 1, 0, none⟩ (.int .i64 ev))) (fun j hj => e4 j (by omega))
        have HZ := Lib.hid (And.intro hB8 (hown8.sl lenMk).1)
        clear hw8 hB8 hown8 e3 e4
        generalize ((((w6.setCell ⟨w.heap.size, 0, none⟩ (.int .i64 0)).setCell ⟨w.heap.size, 1, none⟩ (.slice none 0 0)).setCell ⟨w.heap.size + 1, 0, none⟩ (.int .i64 0)).setCell ⟨w.heap.size + 1 + 1, 0, none⟩ (.int .i64 ev)) = Z at e0 e1 e2 HZ ⊢
        clear x0 x1 x2 x3 x4 x5 x6 x7
        obtain ⟨y0, y1⟩ := blk2 e0
        have y2 := blk1 e1
        have y3 := blk1 e2
        exact ⟨.tuple #[.agg #[.int .i64 0, .slice none 0 0], .int .i64 0, .int .i64 ev], by simp [results, Tryd.f9, go_sem, y0, y1, y2, y3], ⟨none, 0, rfl, Sl.nil_, Nat.le_refl _, Nat.zero_le _⟩, HZ.out.1⟩
end Go.Proofs.YtoidaigiejilcaaDoor
