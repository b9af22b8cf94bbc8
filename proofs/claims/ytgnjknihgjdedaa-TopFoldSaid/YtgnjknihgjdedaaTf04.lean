/- TopFold 4: Fits, May, Kit, Law, TalL, HdM. -/
import Derived.Test.YtgnjknihgjdedaaTf03
import Derived.Test.YtgnjknihgjdedaaTf01
import Derived.Test.YtgnjknihgjdedaaTf02
import Derived.Laws.AppendOwnNone
import Derived.Maps.Own
import Derived.Maps.OwnOps
import Derived.Maps.RangeWalk
import Derived.DeepKeys4
namespace Go.Proofs.Ytgnjknihgjdedaa
open Go.RowKit
set_option linter.unusedVariables false
set_option linter.unusedSimpArgs false

set_option maxHeartbeats 1000000 in
theorem fits_any (t : Int) (v : Value) (s : Sg) (m : Mk) (w : World) (hs : 0 ≤ s.n) (hs' : s.n ≤ 255) (hm : 0 ≤ m.n) (hm' : m.n ≤ 255) :
    Calls Try.prog 104 #[.agg #[.int .i64 t, v], vSg s, vMk m] w fun e w' => e = .returned (.bool (fits s m t)) ∧ Below w.heap.size w w' := by
  have ho := onI_lo m.n s.l s.r
  have ho' := onI_hi m.n s.l s.r
  have hb := butI_lo s.n (onI m.n s.l s.r)
  have hb' := butI_hi s.n (onI m.n s.l s.r)
  go_enter Try.func104, Try.ntmps104
  unfold vSg vMk
  go_upto_region 1 with (fail)
  go_cut [30] (fun q wc => q = .bool (!alikeBP s m) ∧ (((w.alloc (Obj.cells #[Value.int .i64 t, v] 98)).alloc (Obj.cells #[Value.int .i64 s.n, .bool s.l, .bool s.r, .int .i64 s.b, .int .i64 s.p] 52)).alloc (Obj.cells #[Value.int .i64 m.n, .int .i64 m.b, .int .i64 m.p] 44)) = wc)
  case first =>
    cases e1 : (s.b != -1) <;> cases e2 : (s.b != m.b) <;> cases e3 : (s.p != -1) <;> cases e4 : (s.p != m.p)
    all_goals
      go_wp2
      go_meet
      exact ⟨by simp_all [alikeBP], rfl⟩
  case rest =>
    obtain ⟨rfl, rfl⟩ := hcut
    cases hal : alikeBP s m
    · have HF := Lib.hid (show fits s m t = false by simp [fits, hal])
      go_wp2_with fail
      go_ret
      exact ⟨ret_bool HF.out.symm, (((Below.refl _ _).alloc (Nat.le_refl _) _).alloc (by simp) _).alloc (by simp; omega) _⟩
    · have HF := Lib.hid hal
      clear hal
      go_wp2_with fail
      obtain ⟨W2, hW2⟩ : ∃ W2, W2 = ((w.alloc (Obj.cells #[Value.int .i64 t, v] 98)).alloc (Obj.cells #[Value.int .i64 s.n, .bool s.l, .bool s.r, .int .i64 s.b, .int .i64 s.p] 52)).alloc (Obj.cells #[Value.int .i64 m.n, .int .i64 m.b, .int .i64 m.p] 44) := ⟨_, rfl⟩
      rw [← hW2]
      have hB : Below w.heap.size w W2 := by rw [hW2]; exact (((Below.refl _ _).alloc (Nat.le_refl _) _).alloc (by simp) _).alloc (by simp; omega) _
      have b3 : W2.heap[w.heap.size]? = some (Obj.cells #[Value.int .i64 t, v] 98 (0, 0)) := by rw [hW2]; exact hblk_alloc (hblk_alloc (alloc_at rfl) _) _
      have b4 : W2.heap[w.heap.size + 1]? = some (Obj.cells #[Value.int .i64 s.n, .bool s.l, .bool s.r, .int .i64 s.b, .int .i64 s.p] 52 (0, 0)) := by rw [hW2]; exact hblk_alloc (alloc_at (by simp)) _
      have b5 : W2.heap[w.heap.size + 1 + 1]? = some (Obj.cells #[Value.int .i64 m.n, .int .i64 m.b, .int .i64 m.p] 44 (0, 0)) := by rw [hW2]; exact alloc_at (by simp)
      clear hW2
      obtain ⟨c0, c1, c2, c3, c4⟩ := blk5 b4
      have k0 := cell_regrown c0
      have k1 := cell_regrown c1
      have k2 := cell_regrown c2
      have k3 := cell_regrown c3
      have k4 := cell_regrown c4
      have k5 := cell_regrown (blk3 b5).1
      have cOn : ∀ d os, Calls Try.prog 44 #[.int .i64 m.n, vSg s] (Sort.grow (redrawn W2 d) os) (fun e w'' => e = .returned (.int .i64 (onI m.n s.l s.r)) ∧ ∃ p : Regrown, w'' = Sort.grow (redrawn W2 p.d) p.os) := fun d os => Calls.regrown_of (on_any m.n s _ hm hm')
      have HCon := Lib.hid cOn
      clear cOn c0 c1 c2 c3 c4
      refine wp_region_quiet_below (by kernel_rfl) (by kernel_rfl) ?_
      repeat (quiet_step (exact HCon.out _ _))
      refine wpQuiet_nil ?_
      intro _ hw'
      obtain ⟨⟨dq, osq⟩, hw''⟩ := hw'
      subst hw''
      obtain ⟨W3, hW3⟩ : ∃ W3, W3 = Sort.grow (redrawn W2 dq) osq := ⟨_, rfl⟩
      have hB3 : Below W2.heap.size W2 W3 := by rw [hW3]; exact below_regrown W2 dq osq
      rw [← hW3]
      have hs2 : w.heap.size + 2 < W2.heap.size := by have := heap_lt b5; omega
      have q0 : W3.cell? ⟨w.heap.size, 0, none⟩ = some (.int .i64 t) := bcell (blk2 b3).1 hB3 (Nat.le_refl _)
      clear hW3 k0 k1 k2 k3 k4 k5 HCon
      cases hg : (butI (onI m.n s.l s.r) s.n == 0)
      all_goals
        go_wp2_with fail
        go_quiet (first
          | (go_at_call 42; exact quiet_left (but_any _ _ _ (by assumption) (by assumption) (by assumption) (by assumption)))
          | (go_at_call 43; exact quiet_left (count_any _ _ hb hb')))
        go_wp2
        go_ret
        refine ⟨ret_bool ?_, hB.trans (((hB3.mono (by omega)).trans (below_drewN (Below.refl _ _) _)))⟩
      · have h0 : ¬ butI (onI m.n s.l s.r) s.n = 0 := by simpa using hg
        simp [fits, HF.out, h0]
      · have h0 : butI (onI m.n s.l s.r) s.n = 0 := by simpa using hg
        simp [fits, HF.out, h0]
end Go.Proofs.Ytgnjknihgjdedaa
namespace Go.Proofs.Ytgnjknihgjdedaa
open Go.RowKit
set_option linter.unusedVariables false
set_option linter.unusedSimpArgs false

set_option maxHeartbeats 1000000 in
theorem mayB_any (t : Int) (A : Option Addr) (n c : Nat) (l : List Mk) (s : Sg) (w : World) (hl : Marks w A n l) (hn : n ≤ 4294967295) (hs : 0 ≤ s.n) (hs' : s.n ≤ 255) (hv : ∀ m ∈ l, 0 ≤ m.n ∧ m.n ≤ 255) :
    Calls Try.prog 82 #[.agg #[.int .i64 t, .slice A n c], vSg s] w fun e w' => ∃ v, e = .returned v ∧ OwnI w' w.heap.size v (mayL t l s) ∧ Below w.heap.size w w' := by
  have HV := Lib.hid hv
  have HL := Lib.hid hl
  have hB0 : Below w.heap.size w ((w.alloc (Obj.cells #[Value.int .i64 t, .slice A n c] 98)).alloc (Obj.cells #[Value.int .i64 s.n, .bool s.l, .bool s.r, .int .i64 s.b, .int .i64 s.p] 52)) := ((Below.refl _ _).alloc (Nat.le_refl _) _).alloc (by simp) _
  have b2 : ((w.alloc (Obj.cells #[Value.int .i64 t, .slice A n c] 98)).alloc (Obj.cells #[Value.int .i64 s.n, .bool s.l, .bool s.r, .int .i64 s.b, .int .i64 s.p] 52)).heap[w.heap.size]? = some (Obj.cells #[Value.int .i64 t, .slice A n c] 98 (0, 0)) := hblk_alloc (alloc_at rfl) _
  have b3 : ((w.alloc (Obj.cells #[Value.int .i64 t, .slice A n c] 98)).alloc (Obj.cells #[Value.int .i64 s.n, .bool s.l, .bool s.r, .int .i64 s.b, .int .i64 s.p] 52)).heap[w.heap.size + 1]? = some (Obj.cells #[Value.int .i64 s.n, .bool s.l, .bool s.r, .int .i64 s.b, .int .i64 s.p] 52 (0, 0)) := alloc_at (by simp)
  have hl0 := (hl.alloc (Obj.cells #[Value.int .i64 t, .slice A n c] 98)).alloc (Obj.cells #[Value.int .i64 s.n, .bool s.l, .bool s.r, .int .i64 s.b, .int .i64 s.p] 52)
  clear hv hl
  go_enter Try.func82, Try.ntmps82
  unfold vSg
  go_wp2_with fail
  generalize ((w.alloc (Obj.cells #[Value.int .i64 t, .slice A n c] 98)).alloc (Obj.cells #[Value.int .i64 s.n, .bool s.l, .bool s.r, .int .i64 s.b, .int .i64 s.p] 52)) = W0 at hB0 b2 b3 hl0 ⊢
  have hw0 : w.heap.size + 1 < W0.heap.size := heap_lt b3
  have HB := Lib.hid (And.intro b2 b3)
  clear b2 b3
  go_loopg [5, 12] n (fun g v i wr => ∃ k : Nat, k + g = n ∧ i = .int .i64 k ∧ OwnI wr W0.heap.size v (mayTo t l s k) ∧ Below W0.heap.size W0 wr)
  case atStart => exact ⟨0, by omega, rfl, Own.nil_, Below.refl _ _⟩
  case round =>
    obtain ⟨k, hk, rfl, hown, hbl⟩ := hrel
    have HK := Lib.hid hk
    have HO := Lib.hid hown
    have hkn : k ≤ n := by omega
    clear hk hown
    have hz := hbl.size
    have g0 : w.heap.size < wr.heap.size := by omega
    have g1 : w.heap.size + 1 < wr.heap.size := by omega
    by_cases hlt : k < n
    · obtain ⟨b, off, m, rfl, hb, hm, c0, c1, c2⟩ := Marks.get (hl0.below hbl (Nat.le_refl _)) hlt
      have HM := Lib.hid hm
      have hmv := HV.out m (List.mem_of_getElem? hm)
      clear hm
      obtain ⟨r0, r1⟩ := blk2 (bheap HB.out.1 hbl (Nat.le_refl _))
      obtain ⟨s0, s1, s2, s3, s4⟩ := blk5 (bheap HB.out.2 hbl (Nat.le_refl _))
      go_wp2_with fail
      refine (fits_any t _ s m _ hs hs' hmv.1 hmv.2).mono ?_
      rintro e w1 ⟨rfl, hb1⟩
      have hz1 := hb1.size
      have hbl1 : Below W0.heap.size W0 w1 := (hbl.alloc hz _).trans (hb1.mono (by simp; omega))
      have hown1 := Lib.hid ((HO.out.alloc (Obj.cells #[Value.int .i64 m.n, .int .i64 m.b, .int .i64 m.p] 44)).below hb1 (Nat.le_refl _))
      have hlen := mayTo_len t l s k
      have HS := Lib.hid (mayTo_succ (t := t) (s := s) HM.out)
      have hz1' := hbl1.size
      cases hf : fits s m t
      all_goals
        go_wp2_with (at_builtin; refine wp_app okInt rfl (.tmp 21) (.tmp 23) rfl W0.heap.size _ (mayTo t l s k) (k : Int) _ rfl rfl rfl rfl (one_eInt _) hown1.out ?_ ?_ ?_ ?_; (omega); (omega); (omega); intro v' w2 hown2 hb2 _ hz2; have HO2 := Lib.hid hown2; clear hown2)
        go_roundg (gk - 1)
        case measure => have := HK.out; omega
      · exact ⟨k + 1, by have := HK.out; omega, by go_num, by rw [HS.out, hf]; simpa using hown1.out, hbl1⟩
      · exact ⟨k + 1, by have := HK.out; omega, by go_num, by rw [HS.out, hf]; simpa using HO2.out, hbl1.trans hb2⟩
    · obtain rfl : k = n := by omega
      go_wp2
      go_ret
      exact ⟨_, rfl, by have := HL.out.len; unfold mayL; rw [this]; exact HO.out.mono (by omega), hB0.trans (hbl.mono (by omega))⟩
end Go.Proofs.Ytgnjknihgjdedaa

namespace Go.Proofs.Ytgnjknihgjdedaa
open Go.RowKit
set_option linter.unusedVariables false
set_option linter.unusedSimpArgs false

end Go.Proofs.Ytgnjknihgjdedaa

namespace Go.Proofs.Ytgnjknihgjdedaa
open Go.RowKit
set_option linter.unusedVariables false
set_option linter.unusedSimpArgs false

end Go.Proofs.Ytgnjknihgjdedaa
namespace Go.Proofs.Ytgnjknihgjdedaa
open Go.RowKit
set_option linter.unusedVariables false
set_option linter.unusedSimpArgs false

theorem take_eq_snoc {α : Type} {x y : List α} {k : Nat} {u v : α} (h : x.take k = y.take k) (hx : x[k]? = some u) (hy : y[k]? = some v) (he : u = v) : x.take (k + 1) = y.take (k + 1) := by
  rw [List.take_add_one, List.take_add_one, hx, hy, h, he]
theorem ne_of_at {α : Type} {x y : List α} {k : Nat} {u v : α} (hx : x[k]? = some u) (hy : y[k]? = some v) (he : ¬ u = v) : ¬ x = y := fun h => by
  subst h; rw [hx] at hy; cases hy; exact he rfl

def sameL {α : Type} [DecidableEq α] (x y : List α) : Bool := decide (x = y)

set_option maxHeartbeats 1000000 in
theorem sameInts_any (A : Option Addr) (n c : Nat) (x : List Int) (B : Option Addr) (m d : Nat) (y : List Int) (w : World) (hx : Ints w A n x) (hy : Ints w B m y) (hn : n ≤ maxLen) (hm : m ≤ maxLen) :
    Calls Try.prog 31 #[.slice A n c, .slice B m d] w fun e w' => e = .returned (.bool (sameL x y)) ∧ Below w.heap.size w w' := by
  have hxl := hx.len
  have hyl := hy.len
  have HL := Lib.hid (And.intro hxl hyl)
  have HXY := Lib.hid (And.intro hx hy)
  unfold maxLen at hn hm
  clear hxl hyl hx hy
  by_cases hnm : n = m
  · subst hnm
    have h0 : (n != n) = false := by simp
    have h0' : ((n : Int) != (n : Int)) = false := by simp
    go_enter Try.func31, Try.ntmps31
    go_wp2_with fail
    go_loopg [5] n (fun g i wr => ∃ k : Nat, k + g = n ∧ i = .int .i64 k ∧ x.take k = y.take k ∧ ∃ q, wr = w.drewN q)
    case atStart => exact ⟨0, by omega, rfl, by simp, 0, rfl⟩
    case round =>
      obtain ⟨k, hk, rfl, htk, q, rfl⟩ := hrel
      have HK := Lib.hid (And.intro hk htk)
      have hkn : k ≤ n := by omega
      clear hk htk
      by_cases hlt : k < n
      · obtain ⟨b0, o0, u, rfl, hb0, hu, p0⟩ := Ints.get HXY.out.1 hlt
        obtain ⟨b1, o1, v, rfl, hb1, hv, q0⟩ := Ints.get HXY.out.2 hlt
        have i0 : (0 : Int) ≤ (k : Int) := by omega
        have i1 : (k : Int) < (n : Int) := by omega
        have HUV := Lib.hid (And.intro hu hv)
        clear hu hv
        by_cases huv : u = v
        · have h1 : (u != v) = false := by simp [huv]
          have HE := Lib.hid huv
          clear huv
          go_upto_region 6 with (fail)
          go_quiet (fail)
          go_wp2
          go_roundg (gk - 1)
          case measure => have := HK.out.1; omega
          case rel => exact ⟨k + 1, by have := HK.out.1; omega, by go_num, take_eq_snoc HK.out.2 HUV.out.1 HUV.out.2 HE.out, _, rfl⟩
        · have h1 : (u != v) = true := by simp [huv]
          have HE := Lib.hid huv
          clear huv
          go_upto_region 6 with (fail)
          go_quiet (fail)
          go_wp2
          go_ret
          exact ⟨ret_bool (by unfold sameL; rw [decide_eq_false (ne_of_at HUV.out.1 HUV.out.2 HE.out)]), below_drewN (below_drewN (Below.refl _ _) _) _⟩
      · obtain rfl : k = n := by omega
        go_wp2
        go_ret
        refine ⟨ret_bool ?_, below_drewN (Below.refl _ _) _⟩
        have h := HK.out.2
        rw [List.take_of_length_le (by rw [HL.out.1]; omega), List.take_of_length_le (by rw [HL.out.2]; omega)] at h
        unfold sameL; rw [decide_eq_true h]
  · have h0 : (n != m) = true := by simpa using hnm
    have h0' : ((n : Int) != (m : Int)) = true := by simp; omega
    have HE := Lib.hid hnm
    clear hnm
    go_enter Try.func31, Try.ntmps31
    go_wp2
    go_ret
    exact ⟨ret_bool (by unfold sameL; rw [decide_eq_false (fun h => HE.out (by rw [← HL.out.1, ← HL.out.2, h]))]), Below.refl _ _⟩
end Go.Proofs.Ytgnjknihgjdedaa

namespace Go.Proofs.Ytgnjknihgjdedaa
open Go.RowKit
set_option linter.unusedVariables false
set_option linter.unusedSimpArgs false

theorem flat_len {α : Type} {enc : α → List Value} {sz : Nat} (h : ∀ x, (enc x).length = sz) (l : List α) : (l.flatMap enc).length = l.length * sz := by
  induction l with
  | nil => simp
  | cons a r ih => rw [List.flatMap_cons, List.length_append, ih, h, List.length_cons, Nat.succ_mul]; omega
theorem flat_at {α : Type} {enc : α → List Value} {sz : Nat} (hsz : 0 < sz) (h : ∀ x, (enc x).length = sz) : ∀ (l : List α) (j : Nat) (u : Value), (l.flatMap enc)[j]? = some u → ∃ x, l[j / sz]? = some x ∧ (enc x)[j % sz]? = some u
  | [], j, u, hu => by simp at hu
  | a :: r, j, u, hu => by
    rw [List.flatMap_cons] at hu
    rcases Nat.lt_or_ge j sz with hj | hj
    · rw [List.getElem?_append_left (by rw [h]; exact hj)] at hu
      exact ⟨a, by rw [Nat.div_eq_of_lt hj]; rfl, by rw [Nat.mod_eq_of_lt hj]; exact hu⟩
    · rw [List.getElem?_append_right (by rw [h]; exact hj), h] at hu
      obtain ⟨x, h1, h2⟩ := flat_at hsz h r (j - sz) u hu
      have e1 : j = (j - sz) + sz := by omega
      refine ⟨x, ?_, ?_⟩
      · rw [e1, Nat.add_div_right _ hsz]; simpa using h1
      · rw [e1, Nat.add_mod_right]; exact h2

end Go.Proofs.Ytgnjknihgjdedaa

namespace Go.Proofs.Ytgnjknihgjdedaa
open Go.RowKit
set_option linter.unusedVariables false
set_option linter.unusedSimpArgs false

theorem own_shape {α : Type} {enc : α → List Value} {e : TypeId} {sz : Nat} {w : World} {base : Nat} {v : Value} {l : List α} (h : Own enc e sz w base v l) (henc : ∀ x, (enc x).length = sz) :
    ∃ A c, v = .slice A l.length c ∧ Sl enc sz w A l.length l ∧ l.length ≤ c ∧ c ≤ maxLen ∧ (A = none → c = 0) := by
  rcases h.2 with ⟨hv, h0⟩ | ⟨g, cap, cur, hv, hg, hh, hnc, hcm, r⟩
  · have hl : l = [] := List.eq_nil_of_length_eq_zero h0
    subst hl
    exact ⟨none, 0, hv, Sl.nil_, Nat.le_refl _, Nat.zero_le _, fun _ => rfl⟩
  · subst hv
    exact ⟨_, cap, rfl, Sl.of_own (fun x _ => henc x) h rfl, hnc, hcm, fun h => by cases h⟩

end Go.Proofs.Ytgnjknihgjdedaa
namespace Go.Proofs.Ytgnjknihgjdedaa
set_option linter.unusedVariables false
set_option linter.unusedSimpArgs false

theorem cnt_mono {p q : Nat → Bool} (h : ∀ i, i < 8 → p i = true → q i = true) : cnt p ≤ cnt q :=
  List.countP_mono_left fun i hi => h i (by simpa using hi)
theorem popI_but (a b : Int) (hb : b ≤ 255) : popI (butI a b) ≤ popI a := by
  unfold popI
  exact cnt_mono fun i hi h => by rw [bit_but a b hb i hi] at h; simp at h; exact h.1
theorem wornS_n (m : Mk) (s : Sg) : (wornS m s).n = onI (orI m.n s.n) s.l s.r := rfl
theorem onI_on (n : Int) (l r : Bool) : onI (onI n l r) l r = onI n l r :=
  bits_ext (onI_lo _ _ _) (onI_hi _ _ _) (onI_lo _ _ _) (onI_hi _ _ _) fun i hi => by
    rw [bit_on _ _ _ _ hi, bit_on _ _ _ _ hi]; cases bit n i <;> cases tornB l r i <;> rfl
theorem fits_worn {m : Mk} {s : Sg} {t : Int} (hm : 0 ≤ m.n ∧ m.n ≤ 255) (hs : 0 ≤ s.n ∧ s.n ≤ 255) (hp : (popI s.n : Int) ≤ t) : fits (wornS m s) m t = true := by
  have e1 : alikeBP (wornS m s) m = true := by
    unfold alikeBP wornS
    dsimp only
    by_cases h1 : s.b = -1 <;> by_cases h2 : s.p = -1 <;> simp [h1, h2]
  have e2 : butI (onI m.n s.l s.r) (wornS m s).n = 0 := by
    rw [eq_zero_iff (butI_lo _ _) (butI_hi _ _)]
    intro i hi
    rw [wornS_n, bit_but _ _ (onI_hi _ _ _) i hi, bit_on _ _ _ _ hi, bit_on _ _ _ _ hi, bit_or]
    cases bit m.n i <;> cases bit s.n i <;> cases tornB s.l s.r i <;> rfl
  have e3 : popI (butI (wornS m s).n (onI m.n s.l s.r)) ≤ popI s.n := by
    unfold popI
    refine cnt_mono fun i hi h => ?_
    rw [wornS_n, bit_but _ _ (onI_hi _ _ _) i hi, bit_on _ _ _ _ hi, bit_on _ _ _ _ hi, bit_or] at h
    revert h
    cases bit m.n i <;> cases bit s.n i <;> cases tornB s.l s.r i <;> simp
  unfold fits
  rw [e1]
  have e4 : (wornS m s).l = s.l := rfl
  have e5 : (wornS m s).r = s.r := rfl
  rw [e4, e5, e2]
  simp
  omega
theorem seen_worn {m : Mk} {s : Sg} (hm : (0 ≤ m.n ∧ m.n ≤ 255) ∧ (0 ≤ m.b ∧ m.b ≤ 9) ∧ 0 ≤ m.p ∧ m.p ≤ 6) : seen (wornS m s) 9 6 = 0 := by
  unfold seen
  rw [if_neg (by simp [btw_iff, wornS_n, onI_lo, onI_hi]), if_neg (by rw [wornS_n]; show ¬ onI (onI (orI m.n s.n) s.l s.r) s.l s.r ≠ onI (orI m.n s.n) s.l s.r; rw [onI_on]; simp), if_neg, if_neg]
  · rintro ⟨h1, h2⟩
    have e : (wornS m s).p = m.p := by unfold wornS at h1 ⊢; dsimp only at h1 ⊢; split <;> simp_all
    rw [e, btw_no] at h2
    exact h2 hm.2.2
  · rintro ⟨h1, h2⟩
    have e : (wornS m s).b = m.b := by unfold wornS at h1 ⊢; dsimp only at h1 ⊢; split <;> simp_all
    rw [e, btw_no] at h2
    exact h2 hm.2.1
theorem mem_mayL {t : Int} {l : List Mk} {s : Sg} {o : Nat} {m : Mk} (hm : l[o]? = some m) (hf : fits s m t = true) : (o : Int) ∈ mayL t l s := by
  unfold mayL mayTo
  refine List.mem_map.2 ⟨o, List.mem_filter.2 ⟨?_, ?_⟩, rfl⟩
  · rw [List.mem_range]; exact (List.getElem?_eq_some_iff.1 hm).1
  · rw [hm]; simpa using hf
end Go.Proofs.Ytgnjknihgjdedaa

namespace Go.Proofs.Ytgnjknihgjdedaa
set_option linter.unusedVariables false
set_option linter.unusedSimpArgs false

theorem mayL_iff {t : Int} {l : List Mk} {s : Sg} {o : Nat} {m : Mk} (hm : l[o]? = some m) : (o : Int) ∈ mayL t l s ↔ fits s m t = true := by
  refine ⟨fun h => ?_, mem_mayL hm⟩
  unfold mayL mayTo at h
  obtain ⟨i, hi, he⟩ := List.mem_map.1 h
  have : i = o := by have he' : (i : Int) = (o : Int) := he; omega
  subst this
  have := (List.mem_filter.1 hi).2
  rw [hm] at this
  simpa using this
end Go.Proofs.Ytgnjknihgjdedaa
namespace Go.Proofs.Ytgnjknihgjdedaa
set_option linter.unusedVariables false
set_option linter.unusedSimpArgs false

def getG (gs : List (List Int)) (f o : Nat) : Int := (gs.getD f []).getD o 0
structure GSh (n nf : Nat) (gs : List (List Int)) : Prop where
  l : gs.length = nf
  r : ∀ r ∈ gs, r.length = n
structure TaleI (t : Int) (l : List Mk) (hs : List (List Int)) (ds : List De) (gs : List (List Int)) (gone whose : List Int) : Prop where
  e : firstH gs ∈ endsL t l hs ds (-1) 0
  w : ∀ (k : Nat) (o : Int), whose[k]? = some o → 0 ≤ o → firstH gs ∈ endsL t l hs ds k o ∧ o < l.length ∧ ∃ d, ds[k]? = some d ∧ d.kind = 5
  wn : whose.length = ds.length
  nn : ∀ f o, f < 3 → o < 5 → 0 ≤ hget (firstH gs) f o
  tot : htot (firstH gs) ≤ 60 + 3 * ds.length
  g : ∀ o : Nat, o < l.length → gone.getD o 0 + howned (firstH gs) o = hasS (sumS hs o ds)
  gl : gone.length = l.length
end Go.Proofs.Ytgnjknihgjdedaa
namespace Go.Proofs.Ytgnjknihgjdedaa
open Go.RowKit Go.MapKept Go.ChangeMaps
set_option linter.unusedVariables false
set_option linter.unusedSimpArgs false

def hv (h : List Int) : Value := .agg (h.map (Value.int .i64)).toArray
def HOk (h : List Int) : Prop := h.length = 15 ∧ ∀ x ∈ h, -9223372036854775808 ≤ x ∧ x ≤ 9223372036854775807
def MetH (w : World) (M : Nat) (K : List (List Int)) : Prop :=
  ∃ es clock, w.heap[M]? = some (.map es clock) ∧ MapKept.Stamped es clock ∧ es.toList.map (fun e => (e.key, e.val)) = K.map (fun h => (hv h, Value.bool true)) ∧ ∀ h ∈ K, HOk h
end Go.Proofs.Ytgnjknihgjdedaa
