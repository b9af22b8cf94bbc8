/- mark.lone and mark.kind: the number of one digit behind a head; the kind of a line. -/
import Derived.Test.YtoidaigiejilcaaDoorTextL
import Derived.Test.YtoidaigiejilcaaDoorShelf
namespace Go.Proofs.YtoidaigiejilcaaDoor
open Go.RowKit
set_option linter.unusedVariables false
set_option linter.unusedSimpArgs false

theorem lone_pre (s h : List UInt8) (hp : Lib.hasPrefix s h = false) : loneL s h = -1 := by
  unfold loneL
  rw [if_neg]
  intro hh
  have : Lib.hasPrefix s h = true := by
    unfold Lib.hasPrefix
    rw [List.isPrefixOf_iff_prefix, List.prefix_iff_eq_take]
    exact hh.1.symm
  rw [hp] at this; cases this
theorem lone_in (s h : List UInt8) (hp : Lib.hasPrefix s h = true) : s = h ++ Lib.trimPrefix s h := by
  unfold Lib.trimPrefix
  rw [if_pos hp]
  unfold Lib.hasPrefix at hp
  rw [List.isPrefixOf_iff_prefix, List.prefix_iff_eq_take] at hp
  conv => lhs; rw [← List.take_append_drop h.length s, ← hp]
theorem lone_len (h r : List UInt8) (hr : r.length ≠ 1) : loneL (h ++ r) h = -1 := by
  unfold loneL
  rw [if_neg]
  intro hh
  have := hh.2.1
  rw [List.length_append] at this
  omega
theorem lone_no (h : List UInt8) (d : UInt8) (hd : isDg d = false) : loneL (h ++ [d]) h = -1 := by
  unfold loneL
  rw [if_neg]
  intro hh
  have := hh.2.2
  simp [hd] at this

set_option maxRecDepth 100000 in
theorem lone_any (s head : ByteArray) (w : World) :
    Calls Tryd.prog 57 #[.string s, .string head] w fun e w' => e = .returned (.int .i64 (loneL s.data.toList head.data.toList)) ∧ w' = w := by
  have hc := YtoidaigiejilcaaDoor.cutPrefix_at s head w
  have hpre := lone_pre s.data.toList head.data.toList
  have hin := lone_in s.data.toList head.data.toList
  generalize Lib.trimPrefix s.data.toList head.data.toList = r at hc hin
  generalize Lib.hasPrefix s.data.toList head.data.toList = b at hc hin hpre
  generalize s.data.toList = sl at hin hpre ⊢
  generalize head.data.toList = hl at hin hpre ⊢
  cases b with
  | false =>
    have hv := hpre rfl
    rw [hv]
    clear hv hpre hin
    go_enter Tryd.func57, Tryd.ntmps57
    go_wp2_with (go_at_call 71; refine hc.mono ?_; rintro e w' ⟨rfl, rfl⟩)
    go_ret
    exact ⟨rfl, rfl⟩
  | true =>
    have e := hin rfl
    clear hpre hin
    subst e
    match r with
    | [] =>
      rw [lone_len hl [] (by simp)]
      go_enter Tryd.func57, Tryd.ntmps57
      go_wp2_with (go_at_call 71; refine hc.mono ?_; rintro e w' ⟨rfl, rfl⟩)
      go_ret
      exact ⟨rfl, rfl⟩
    | [d] =>
      have hd : d.toNat < 256 := d.toNat_lt
      have e0 : (⟨#[d]⟩ : ByteArray)[0]'(Nat.lt_of_lt_of_eq Nat.zero_lt_one rfl) = d := rfl
      by_cases hg : isDg d = true
      · rw [loneL_of hl d hg]
        unfold isDg at hg
        rw [Bool.and_eq_true, decide_eq_true_eq, decide_eq_true_eq] at hg
        have h1 : (decide ((48 : Int) ≤ (d.toNat : Int))) = true := decide_eq_true (by omega)
        have h2 : (decide ((d.toNat : Int) ≤ 57)) = true := decide_eq_true (by omega)
        have hw : IntKind.u8.wrap ((d.toNat : Int) - 48) = (d.toNat : Int) - 48 := IntWalk.u8_in _ (by omega)
        unfold dgI
        go_enter Tryd.func57, Tryd.ntmps57
        go_wp2_with (go_at_call 71; refine hc.mono ?_; rintro e w' ⟨rfl, rfl⟩)
        go_ret
        exact ⟨rfl, rfl⟩
      · rw [lone_no hl d (by simpa using hg)]
        unfold isDg at hg
        by_cases h48 : 48 ≤ d.toNat
        · have h57 : ¬ d.toNat ≤ 57 := fun h => hg (by rw [Bool.and_eq_true, decide_eq_true_eq, decide_eq_true_eq]; exact ⟨h48, h⟩)
          have h1 : (decide ((48 : Int) ≤ (d.toNat : Int))) = true := decide_eq_true (by omega)
          have h2 : (decide ((d.toNat : Int) ≤ 57)) = false := decide_eq_false (by omega)
          clear hg h57
          go_enter Tryd.func57, Tryd.ntmps57
          go_wp2_with (go_at_call 71; refine hc.mono ?_; rintro e w' ⟨rfl, rfl⟩)
          go_ret
          exact ⟨rfl, rfl⟩
        · have h1 : (decide ((48 : Int) ≤ (d.toNat : Int))) = false := decide_eq_false (by omega)
          clear hg
          go_enter Tryd.func57, Tryd.ntmps57
          go_wp2_with (go_at_call 71; refine hc.mono ?_; rintro e w' ⟨rfl, rfl⟩)
          go_ret
          exact ⟨rfl, rfl⟩
    | d :: d' :: t =>
      rw [lone_len hl (d :: d' :: t) (by simp)]
      have hz : ((⟨(d :: d' :: t).toArray⟩ : ByteArray).size : Int) = (t.length : Int) + 2 := by simp [ByteArray.size]; omega
      generalize (⟨(d :: d' :: t).toArray⟩ : ByteArray) = rb at hc hz
      have hn : ((rb.size : Int) == 1) = false := beq_eq_false_iff_ne.2 (by omega)
      clear hz
      go_enter Tryd.func57, Tryd.ntmps57
      go_wp2_with (go_at_call 71; refine hc.mono ?_; rintro e w' ⟨rfl, rfl⟩)
      go_ret
      exact ⟨rfl, rfl⟩

def kindI (s : ByteArray) (i : Nat) : Int := if i = 0 then 0 else if s.data.toList = endL then 2 else 1
theorem kind_any (s : ByteArray) (i : Nat) (w : World) :
    Calls Tryd.prog 56 #[.string s, .int .i64 i] w fun e w' => e = .returned (.int .i64 (kindI s i)) ∧ w' = w := by
  have he : s.toList = [109, 97, 114, 107, 115, 32, 101, 110, 100] ↔ s.data.toList = endL := by rw [Lib.toList_data]; exact Iff.rfl
  by_cases hi : i = 0
  · subst hi
    rw [show kindI s 0 = 0 from rfl]
    by_cases hE : s.toList = [109, 97, 114, 107, 115, 32, 101, 110, 100]
    all_goals
      clear he
      go_enter Tryd.func56, Tryd.ntmps56
      go_wp2
      go_ret
      exact ⟨rfl, rfl⟩
  · have hp : 0 < i := by omega
    by_cases hE : s.toList = [109, 97, 114, 107, 115, 32, 101, 110, 100]
    · rw [show kindI s i = 2 by unfold kindI; rw [if_neg hi, if_pos (he.1 hE)]]
      clear he hi
      go_enter Tryd.func56, Tryd.ntmps56
      go_wp2
      go_ret
      exact ⟨rfl, rfl⟩
    · rw [show kindI s i = 1 by unfold kindI; rw [if_neg hi, if_neg (fun h => hE (he.2 h))]]
      clear he hi
      go_enter Tryd.func56, Tryd.ntmps56
      go_wp2
      go_ret
      exact ⟨rfl, rfl⟩
end Go.Proofs.YtoidaigiejilcaaDoor
