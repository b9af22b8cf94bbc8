/- book.may: all owners who may have a sheep. -/
import Derived.Test.YtahlicinchehhaaFits
import Derived.Test.YtahlicinchehhaaApp
namespace Go.Proofs.Ytahlicinchehhaa
open Go.RowKit
set_option linter.unusedVariables false
set_option linter.unusedSimpArgs false

set_option maxHeartbeats 1000000 in
theorem mayB_any (t : Int) (A : Option Addr) (n c : Nat) (l : List Mk) (s : Sg) (w : World) (hl : Marks w A n l) (hn : n ≤ 4294967295) (hs : 0 ≤ s.n) (hs' : s.n ≤ 255) (hv : ∀ m ∈ l, 0 ≤ m.n ∧ m.n ≤ 255) :
    Calls Try.prog 80 #[.agg #[.int .i64 t, .slice A n c], vSg s] w fun e w' => ∃ v, e = .returned v ∧ OwnI w' w.heap.size v (mayL t l s) ∧ Below w.heap.size w w' := by
  have HV := Lib.hid hv
  have HL := Lib.hid hl
  have hB0 : Below w.heap.size w ((w.alloc (Obj.cells #[Value.int .i64 t, .slice A n c] 88)).alloc (Obj.cells #[Value.int .i64 s.n, .bool s.l, .bool s.r, .int .i64 s.b, .int .i64 s.p] 28)) := ((Below.refl _ _).alloc (Nat.le_refl _) _).alloc (by simp) _
  have b2 : ((w.alloc (Obj.cells #[Value.int .i64 t, .slice A n c] 88)).alloc (Obj.cells #[Value.int .i64 s.n, .bool s.l, .bool s.r, .int .i64 s.b, .int .i64 s.p] 28)).heap[w.heap.size]? = some (Obj.cells #[Value.int .i64 t, .slice A n c] 88 (0, 0)) := hblk_alloc (alloc_at rfl) _
  have b3 : ((w.alloc (Obj.cells #[Value.int .i64 t, .slice A n c] 88)).alloc (Obj.cells #[Value.int .i64 s.n, .bool s.l, .bool s.r, .int .i64 s.b, .int .i64 s.p] 28)).heap[w.heap.size + 1]? = some (Obj.cells #[Value.int .i64 s.n, .bool s.l, .bool s.r, .int .i64 s.b, .int .i64 s.p] 28 (0, 0)) := alloc_at (by simp)
  have hl0 := (hl.alloc (Obj.cells #[Value.int .i64 t, .slice A n c] 88)).alloc (Obj.cells #[Value.int .i64 s.n, .bool s.l, .bool s.r, .int .i64 s.b, .int .i64 s.p] 28)
  clear hv hl
  go_enter Try.func80, Try.ntmps80
  unfold vSg
  go_wp2_with fail
  generalize ((w.alloc (Obj.cells #[Value.int .i64 t, .slice A n c] 88)).alloc (Obj.cells #[Value.int .i64 s.n, .bool s.l, .bool s.r, .int .i64 s.b, .int .i64 s.p] 28)) = W0 at hB0 b2 b3 hl0 ⊢
  have hw0 : w.heap.size + 1 < W0.heap.size := heap_lt b3
  have HB := Lib.hid (And.intro b2 b3)
  clear b2 b3
  go_loopg [5, 12] n (fun g v i wr => ∃ k : Nat, k + g = n ∧ i = .int .i64 k ∧ OwnI wr W0.heap.size v (mayTo t l s k) ∧ Below W0.heap.size W0 wr)
  case atStart => exact ⟨0, by omega, rfl, Own.nil_, Below.refl _ _⟩
  case round =>
    obtain ⟨k, hk, rfl, hown, hbl⟩ := hrel
    have HK := Lib.hid hk
    have HO := Lib.hid hown
    have hkn : k ≤ n := by omega
    clear hk hown
    have hz := hbl.size
    have g0 : w.heap.size < wr.heap.size := by omega
    have g1 : w.heap.size + 1 < wr.heap.size := by omega
    by_cases hlt : k < n
    · obtain ⟨b, off, m, rfl, hb, hm, c0, c1, c2⟩ := Marks.get (hl0.below hbl (Nat.le_refl _)) hlt
      have HM := Lib.hid hm
      have hmv := HV.out m (List.mem_of_getElem? hm)
      clear hm
      obtain ⟨r0, r1⟩ := blk2 (bheap HB.out.1 hbl (Nat.le_refl _))
      obtain ⟨s0, s1, s2, s3, s4⟩ := blk5 (bheap HB.out.2 hbl (Nat.le_refl _))
      go_wp2_with fail
      refine (fits_any t _ s m _ hs hs' hmv.1 hmv.2).mono ?_
      rintro e w1 ⟨rfl, hb1⟩
      have hz1 := hb1.size
      have hbl1 : Below W0.heap.size W0 w1 := (hbl.alloc hz _).trans (hb1.mono (by simp; omega))
      have hown1 := Lib.hid ((HO.out.alloc (Obj.cells #[Value.int .i64 m.n, .int .i64 m.b, .int .i64 m.p] 26)).below hb1 (Nat.le_refl _))
      have hlen := mayTo_len t l s k
      have HS := Lib.hid (mayTo_succ (t := t) (s := s) HM.out)
      have hz1' := hbl1.size
      cases hf : fits s m t
      all_goals
        go_wp2_with (at_builtin; refine wp_app okInt rfl (.tmp 21) (.tmp 23) rfl W0.heap.size _ (mayTo t l s k) (k : Int) _ rfl rfl rfl rfl (one_eInt _) hown1.out ?_ ?_ ?_ ?_; (omega); (omega); (omega); intro v' w2 hown2 hb2 _ hz2; have HO2 := Lib.hid hown2; clear hown2)
        go_roundg (gk - 1)
        case measure => have := HK.out; omega
      · exact ⟨k + 1, by have := HK.out; omega, by go_num, by rw [HS.out, hf]; simpa using hown1.out, hbl1⟩
      · exact ⟨k + 1, by have := HK.out; omega, by go_num, by rw [HS.out, hf]; simpa using HO2.out, hbl1.trans hb2⟩
    · obtain rfl : k = n := by omega
      go_wp2
      go_ret
      exact ⟨_, rfl, by have := HL.out.len; unfold mayL; rw [this]; exact HO.out.mono (by omega), hB0.trans (hbl.mono (by omega))⟩
end Go.Proofs.Ytahlicinchehhaa
