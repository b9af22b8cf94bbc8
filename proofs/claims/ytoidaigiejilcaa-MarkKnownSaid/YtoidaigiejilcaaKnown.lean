/- The examples of the chapter: what the plain functions say of them. -/
import Derived.Test.YtoidaigiejilcaaMista
import Derived.Test.YtoidaigiejilcaaForge
import Derived.Test.YtoidaigiejilcaaMarking
import Derived.Test.YtoidaigiejilcaaOwners
import Derived.Test.YtoidaigiejilcaaLeft
import Derived.Test.YtoidaigiejilcaaShort
import Derived.Test.YtoidaigiejilcaaGridB
import Derived.Test.YtoidaigiejilcaaWriteA
namespace Go.Proofs.Ytoidaigiejilcaa
open Go.RowKit
set_option linter.unusedVariables false
set_option linter.unusedSimpArgs false

theorem all_lost (a b : Mk) (t : Int) (ht : 0 ≤ t) : mixedS a b t ≤ 4 := by
  unfold mixedS
  have hm : ((4 : Int), (⟨0, true, true, -1, -1⟩ : Sg)) ∈ wornL := by decide +kernel
  have ha : alikeW a b t ⟨0, true, true, -1, -1⟩ = true := by
    have h0 : ∀ n, onI n true true = 0 := fun n => by simp [onI, earMask]
    unfold alikeW
    simp only [h0]
    have h1 : (popI (butI 0 0) : Int) = 0 := by decide +kernel
    rw [h1]
    simp [bpW, ht]
  have hall : ∀ y ∈ wornL, y.1 ≤ 4 := by decide +kernel
  cases h : wornL.find? (fun y => alikeW a b t y.2) with
  | none =>
    have := List.find?_eq_none.1 h _ hm
    rw [ha] at this
    exact absurd rfl this
  | some y => exact hall y (List.mem_of_find?_eq_some h)
def dbl : List Sg := [⟨3, false, false, 0, -1⟩, ⟨3, false, false, 0, -1⟩]
theorem kn_check : check 1 exR = 0 ∧ check 3 exR = 1 ∧ check 1 [⟨1, 0, 0⟩, ⟨1, 0, 0⟩, ⟨16, 3, 0⟩] = 4 ∧ showE 1 exR 0 ⟨6, false, false, 0, 0⟩ = 9 := by decide +kernel
theorem kn_may : mayE 1 exR ⟨3, false, false, 0, 1⟩ = 0 ∧ mayR 1 exR ⟨3, false, false, 0, 1⟩ = [1] ∧ mayE 1 exR ⟨7, false, false, 0, 0⟩ = 0 ∧ mayR 1 exR ⟨7, false, false, 0, 0⟩ = [] := by decide +kernel
theorem kn_ver : verV 1 exR ⟨3, false, false, 0, -1⟩ 0 = 3 ∧ verE 1 exR ⟨3, false, false, 0, -1⟩ 0 = 0 ∧ verV 1 exR ⟨3, false, false, 0, 1⟩ 1 = 1 ∧ verE 1 exR ⟨3, false, false, 0, 1⟩ 1 = 0 ∧ verV 1 exR ⟨3, false, false, 0, 1⟩ 0 = 2 ∧ verE 1 exR ⟨3, false, false, 0, 1⟩ 0 = 0 := by decide +kernel
theorem kn_apart : apartV 1 exR 0 1 = 1 ∧ apartE 1 exR 0 1 = 0 ∧ apartV 1 exR 0 2 = 1 ∧ apartE 1 exR 0 2 = 0 := by decide +kernel
theorem kn_mist : mistE 1 exR 0 = 0 ∧ mistR 1 exR 0 = [] ∧ mistE 1 exR 1 = 0 ∧ mistR 1 exR 1 = [[0, 1], [0, 2]] ∧ mistE 1 exR 2 = 0 ∧ mistR 1 exR 2 = [[0, 1], [0, 2]] ∧ mistE 1 exR 3 = 0 ∧ mistR 1 exR 3 = [[0, 1], [0, 2], [1, 2]] := by decide +kernel
theorem kn_forge : forgeV 1 exR 0 1 = 2 ∧ forgeE 1 exR 0 1 = 0 ∧ forgeE 1 exR 1 0 = 11 ∧ forgeE 1 exR 0 2 = 11 ∧ forgeV 1 exR 1 1 = 0 ∧ forgeE 1 exR 1 1 = 0 := by decide +kernel
theorem kn_prey : preyE 1 exR 1 2 = 0 ∧ preyR 1 exR 1 2 = [0] ∧ preyE 1 exR 1 1 = 0 ∧ preyR 1 exR 1 1 = [] := by decide +kernel
theorem kn_home : homeE 1 exR dbl [2, 0, 0] = 0 ∧ homeL 1 exR dbl [2, 0, 0] = [0, 0] ∧ homeE 1 exR dbl [1, 0, 1] = 11 := by decide +kernel
theorem kn_owners : homeE 1 exR dbl [1, 1, 0] = 0 ∧ ownersR 1 exR dbl [1, 1, 0] = [[0, 1], [0, 1]] := by decide +kernel
theorem kn_left : gatherE 1 exR dbl [1, 0, 1] = 0 ∧ leftR 1 exR dbl [1, 0, 1] = [0] := by decide +kernel
theorem kn_short : shortE 1 exR dbl [1, 0, 1] = 0 ∧ shortR 1 exR dbl [1, 0, 1] = [0, 1] := by decide +kernel
theorem kn_freshE : freshE 1 exR 4 = 11 := freshE_of (by decide +kernel) (by decide) (by decide) (fresh_none fun i _ => by
  unfold freeM
  rw [List.all_eq_false]
  exact ⟨⟨1, 0, 0⟩, by decide, by simp [all_lost (mkIx i) ⟨1, 0, 0⟩ 1 (by decide)]⟩)
theorem kn_least : leastI (freshAll 1 exR 0) = some ⟨1, by decide⟩ := by
  refine fresh_some (by decide) (by decide +kernel) (fun i hi hlt => ?_)
  have h1 : keyI 1 = 1 := by decide +kernel
  rw [h1] at hlt
  unfold keyI at hlt
  have h2 : i = 0 := by omega
  rw [h2]
  decide +kernel
theorem kn_fresh : freshM 1 exR 0 = ⟨0, 0, 1⟩ ∧ freshE 1 exR 0 = 0 := by
  have he : freshE 1 exR 0 = 0 := freshE_of (by decide +kernel) (by decide) (by decide) kn_least
  exact ⟨(freshM_of he kn_least).trans (by decide +kernel), he⟩
theorem kn_write : wrS 1 [⟨1, 0, 0⟩, ⟨3, 0, 1⟩] = "tears 1\nx.../.... b0 p0\nxx../.... b0 p1\nmarks end\n".toUTF8 := by
  decide +kernel

theorem kn_show_ex {A : Option Addr} {c : Nat} (w : World) (hl : Marks w A 3 exR) (hlc : 3 ≤ c) (hcm : c ≤ maxLen) :
    Calls Try.prog 45 #[.agg #[.int .i64 1, .slice A 3 c], .int .i64 0, .agg #[.int .i64 6, .bool false, .bool false, .int .i64 0, .int .i64 0]] w fun e w' => (∃ s : Sg, e = .returned (.tuple #[vSg s, .int .i64 9])) ∧ Below w.heap.size w w' := by
  have h := Show_any 1 A 3 c exR 0 ⟨6, false, false, 0, 0⟩ w hl hlc hcm
  rw [kn_check.2.2.2] at h
  exact h.mono fun _ _ h => ⟨⟨_, h.1⟩, h.2⟩
theorem kn_may_b {A : Option Addr} {c : Nat} (w : World) (hl : Marks w A 3 exR) (hlc : 3 ≤ c) (hcm : c ≤ maxLen) :
    Calls Try.prog 24 #[.agg #[.int .i64 1, .slice A 3 c], .agg #[.int .i64 3, .bool false, .bool false, .int .i64 0, .int .i64 1]] w fun e w' => (∃ B cb, e = .returned (.tuple #[.slice B 1 cb, .int .i64 0]) ∧ Ints w' B 1 [1]) ∧ Below w.heap.size w w' := by
  have h := May_any 1 A 3 c exR ⟨3, false, false, 0, 1⟩ w hl hlc hcm
  rw [kn_may.1, kn_may.2.1] at h
  exact h.mono fun _ _ ⟨v, he, ho, hb⟩ => by
    obtain ⟨B, cb, rfl, hs, _, _, _⟩ := own_shape ho lenInt
    exact ⟨⟨B, cb, he, hs⟩, hb⟩
theorem kn_may_c {A : Option Addr} {c : Nat} (w : World) (hl : Marks w A 3 exR) (hlc : 3 ≤ c) (hcm : c ≤ maxLen) :
    Calls Try.prog 24 #[.agg #[.int .i64 1, .slice A 3 c], .agg #[.int .i64 7, .bool false, .bool false, .int .i64 0, .int .i64 0]] w fun e w' => (∃ B cb, e = .returned (.tuple #[.slice B 0 cb, .int .i64 0]) ∧ Ints w' B 0 []) ∧ Below w.heap.size w w' := by
  have h := May_any 1 A 3 c exR ⟨7, false, false, 0, 0⟩ w hl hlc hcm
  rw [kn_may.2.2.1, kn_may.2.2.2] at h
  exact h.mono fun _ _ ⟨v, he, ho, hb⟩ => by
    obtain ⟨B, cb, rfl, hs, _, _, _⟩ := own_shape ho lenInt
    exact ⟨⟨B, cb, he, hs⟩, hb⟩
theorem kn_forge_a {A : Option Addr} {c : Nat} (w : World) (hl : Marks w A 3 exR) (hlc : 3 ≤ c) (hcm : c ≤ maxLen) :
    Calls Try.prog 51 #[.agg #[.int .i64 1, .slice A 3 c], .int .i64 0, .int .i64 1] w fun e w' => e = .returned (.tuple #[.int .i64 2, .int .i64 0]) ∧ Below w.heap.size w w' := by
  have h := Forge_any 1 A 3 c exR 0 1 w hl hlc hcm
  rw [kn_forge.1, kn_forge.2.1] at h
  exact h
theorem kn_forge_b {A : Option Addr} {c : Nat} (w : World) (hl : Marks w A 3 exR) (hlc : 3 ≤ c) (hcm : c ≤ maxLen) :
    Calls Try.prog 51 #[.agg #[.int .i64 1, .slice A 3 c], .int .i64 1, .int .i64 0] w fun e w' => (∃ v : Int, e = .returned (.tuple #[.int .i64 v, .int .i64 11])) ∧ Below w.heap.size w w' := by
  have h := Forge_any 1 A 3 c exR 1 0 w hl hlc hcm
  rw [kn_forge.2.2.1] at h
  exact h.mono fun _ _ h => ⟨⟨_, h.1⟩, h.2⟩
theorem kn_forge_c {A : Option Addr} {c : Nat} (w : World) (hl : Marks w A 3 exR) (hlc : 3 ≤ c) (hcm : c ≤ maxLen) :
    Calls Try.prog 51 #[.agg #[.int .i64 1, .slice A 3 c], .int .i64 0, .int .i64 2] w fun e w' => (∃ v : Int, e = .returned (.tuple #[.int .i64 v, .int .i64 11])) ∧ Below w.heap.size w w' := by
  have h := Forge_any 1 A 3 c exR 0 2 w hl hlc hcm
  rw [kn_forge.2.2.2.1] at h
  exact h.mono fun _ _ h => ⟨⟨_, h.1⟩, h.2⟩
theorem kn_forge_d {A : Option Addr} {c : Nat} (w : World) (hl : Marks w A 3 exR) (hlc : 3 ≤ c) (hcm : c ≤ maxLen) :
    Calls Try.prog 51 #[.agg #[.int .i64 1, .slice A 3 c], .int .i64 1, .int .i64 1] w fun e w' => e = .returned (.tuple #[.int .i64 0, .int .i64 0]) ∧ Below w.heap.size w w' := by
  have h := Forge_any 1 A 3 c exR 1 1 w hl hlc hcm
  rw [kn_forge.2.2.2.2.1, kn_forge.2.2.2.2.2] at h
  exact h
theorem kn_prey_a {A : Option Addr} {c : Nat} (w : World) (hl : Marks w A 3 exR) (hlc : 3 ≤ c) (hcm : c ≤ maxLen) :
    Calls Try.prog 52 #[.agg #[.int .i64 1, .slice A 3 c], .int .i64 1, .int .i64 2] w fun e w' => (∃ B cb, e = .returned (.tuple #[.slice B 1 cb, .int .i64 0]) ∧ Ints w' B 1 [0]) ∧ Below w.heap.size w w' := by
  have h := Prey_any 1 A 3 c exR 1 2 w hl hlc hcm
  rw [kn_prey.1, kn_prey.2.1] at h
  exact h.mono fun _ _ ⟨v, he, ho, hb⟩ => by
    obtain ⟨B, cb, rfl, hs, _, _, _⟩ := own_shape ho lenInt
    exact ⟨⟨B, cb, he, hs⟩, hb⟩
theorem kn_prey_b {A : Option Addr} {c : Nat} (w : World) (hl : Marks w A 3 exR) (hlc : 3 ≤ c) (hcm : c ≤ maxLen) :
    Calls Try.prog 52 #[.agg #[.int .i64 1, .slice A 3 c], .int .i64 1, .int .i64 1] w fun e w' => (∃ B cb, e = .returned (.tuple #[.slice B 0 cb, .int .i64 0]) ∧ Ints w' B 0 []) ∧ Below w.heap.size w w' := by
  have h := Prey_any 1 A 3 c exR 1 1 w hl hlc hcm
  rw [kn_prey.2.2.1, kn_prey.2.2.2] at h
  exact h.mono fun _ _ ⟨v, he, ho, hb⟩ => by
    obtain ⟨B, cb, rfl, hs, _, _, _⟩ := own_shape ho lenInt
    exact ⟨⟨B, cb, he, hs⟩, hb⟩
theorem kn_fresh_a {A : Option Addr} {c : Nat} (w : World) (hl : Marks w A 3 exR) (hlc : 3 ≤ c) (hcm : c ≤ maxLen) :
    Calls Try.prog 50 #[.agg #[.int .i64 1, .slice A 3 c], .int .i64 0] w fun e w' => e = .returned (.tuple #[.agg #[.int .i64 0, .int .i64 0, .int .i64 1], .int .i64 0]) ∧ Below w.heap.size w w' := by
  have h := Fresh_any 1 0 A 3 c exR w hl hlc hcm
  rw [kn_fresh.1, kn_fresh.2] at h
  exact h
theorem kn_fresh_b {A : Option Addr} {c : Nat} (w : World) (hl : Marks w A 3 exR) (hlc : 3 ≤ c) (hcm : c ≤ maxLen) :
    Calls Try.prog 50 #[.agg #[.int .i64 1, .slice A 3 c], .int .i64 4] w fun e w' => (∃ m : Mk, e = .returned (.tuple #[vMk m, .int .i64 11])) ∧ Below w.heap.size w w' := by
  have h := Fresh_any 1 4 A 3 c exR w hl hlc hcm
  rw [kn_freshE] at h
  exact h.mono fun _ _ h => ⟨⟨_, h.1⟩, h.2⟩
theorem kn_home_a {A : Option Addr} {c : Nat} {B : Option Addr} {cb : Nat} {D : Option Addr} {cd : Nat} (w : World) (hl : Marks w A 3 exR) (hlc : 3 ≤ c) (hcm : c ≤ maxLen) (hs : Sights w B 2 dbl) (hm : Ints w D 3 [2, 0, 0]) :
    Calls Try.prog 19 #[.agg #[.int .i64 1, .slice A 3 c], .slice B 2 cb, .slice D 3 cd] w fun e w' => (∃ F cf, e = .returned (.tuple #[.slice F 2 cf, .int .i64 0]) ∧ Ints w' F 2 [0, 0]) ∧ Below w.heap.size w w' := by
  have h := Home_any 1 A 3 c exR B 2 cb dbl D 3 cd [2, 0, 0] w hl hlc hcm hs (by decide) hm (by decide)
  rw [kn_home.1, kn_home.2.1] at h
  exact h.mono fun _ _ ⟨v, he, ho, hb⟩ => by
    obtain ⟨F, cf, rfl, hs, _, _, _⟩ := own_shape ho lenInt
    exact ⟨⟨F, cf, he, hs⟩, hb⟩
theorem kn_home_b {A : Option Addr} {c : Nat} {B : Option Addr} {cb : Nat} {D : Option Addr} {cd : Nat} (w : World) (hl : Marks w A 3 exR) (hlc : 3 ≤ c) (hcm : c ≤ maxLen) (hs : Sights w B 2 dbl) (hm : Ints w D 3 [1, 0, 1]) :
    Calls Try.prog 19 #[.agg #[.int .i64 1, .slice A 3 c], .slice B 2 cb, .slice D 3 cd] w fun e w' => (∃ v : Value, e = .returned (.tuple #[v, .int .i64 11])) ∧ Below w.heap.size w w' := by
  have h := Home_any 1 A 3 c exR B 2 cb dbl D 3 cd [1, 0, 1] w hl hlc hcm hs (by decide) hm (by decide)
  rw [kn_home.2.2] at h
  exact h.mono fun _ _ ⟨v, he, ho, hb⟩ => ⟨⟨v, he⟩, hb⟩
theorem kn_owners_a {A : Option Addr} {c : Nat} {B : Option Addr} {cb : Nat} {D : Option Addr} {cd : Nat} (w : World) (hl : Marks w A 3 exR) (hlc : 3 ≤ c) (hcm : c ≤ maxLen) (hs : Sights w B 2 dbl) (hm : Ints w D 3 [1, 1, 0]) :
    Calls Try.prog 27 #[.agg #[.int .i64 1, .slice A 3 c], .slice B 2 cb, .slice D 3 cd] w fun e w' => (∃ F cf, e = .returned (.tuple #[.slice F 2 cf, .int .i64 0]) ∧ Grid w' F 2 [[0, 1], [0, 1]]) ∧ Below w.heap.size w w' := by
  have h := Owners_any 1 A 3 c exR B 2 cb dbl D 3 cd [1, 1, 0] w hl hlc hcm hs (by decide) hm (by decide)
  rw [kn_owners.1, kn_owners.2] at h
  exact h.mono fun _ _ ⟨v, he, ho, hb⟩ => by
    obtain ⟨F, cf, rfl, hs, _, _⟩ := ho.form
    exact ⟨⟨F, cf, he, hs⟩, hb⟩
theorem kn_left_a {A : Option Addr} {c : Nat} {B : Option Addr} {cb : Nat} {D : Option Addr} {cd : Nat} (w : World) (hl : Marks w A 3 exR) (hlc : 3 ≤ c) (hcm : c ≤ maxLen) (hs : Sights w B 2 dbl) (hm : Ints w D 3 [1, 0, 1]) :
    Calls Try.prog 11 #[.agg #[.int .i64 1, .slice A 3 c], .slice B 2 cb, .slice D 3 cd] w fun e w' => (∃ F cf, e = .returned (.tuple #[.slice F 1 cf, .int .i64 0]) ∧ Ints w' F 1 [0]) ∧ Below w.heap.size w w' := by
  have h := Left_any 1 A 3 c exR B 2 cb dbl D 3 cd [1, 0, 1] w hl hlc hcm hs (by decide) hm (by decide)
  rw [kn_left.1, kn_left.2] at h
  exact h.mono fun _ _ ⟨⟨F, cf, he, hs, _, _⟩, hb⟩ => ⟨⟨F, cf, he, hs⟩, hb⟩
theorem kn_short_a {A : Option Addr} {c : Nat} {B : Option Addr} {cb : Nat} {D : Option Addr} {cd : Nat} (w : World) (hl : Marks w A 3 exR) (hlc : 3 ≤ c) (hcm : c ≤ maxLen) (hs : Sights w B 2 dbl) (hm : Ints w D 3 [1, 0, 1]) :
    Calls Try.prog 18 #[.agg #[.int .i64 1, .slice A 3 c], .slice B 2 cb, .slice D 3 cd] w fun e w' => (∃ F cf, e = .returned (.tuple #[.slice F 2 cf, .int .i64 0]) ∧ Ints w' F 2 [0, 1]) ∧ Below w.heap.size w w' := by
  have h := Short_any 1 A 3 c exR B 2 cb dbl D 3 cd [1, 0, 1] w hl hlc hcm hs (by decide) hm (by decide)
  rw [kn_short.1, kn_short.2] at h
  exact h.mono fun _ _ ⟨⟨F, cf, he, hs, _, _⟩, hb⟩ => ⟨⟨F, cf, he, hs⟩, hb⟩

/-- the register, with its block -/
theorem register_at (w : World) : Calls Try.prog 44 #[] w fun e w' => ∃ A, e = .returned (.agg #[.int .i64 1, .slice (some ⟨A, 0, none⟩) 3 3]) ∧ w.heap.size ≤ A ∧ w'.heap[A]? = some (.cells #[Value.int .i64 1, Value.int .i64 0, Value.int .i64 0, Value.int .i64 3, Value.int .i64 0, Value.int .i64 1, Value.int .i64 16, Value.int .i64 3, Value.int .i64 0] 46 (0, 0)) ∧ Hid (Below w.heap.size w w') := by
  go_enter Try.func44, Try.ntmps44
  go_wp2
  refine bodyPost_ret (v := .agg #[.int .i64 1, .slice (some ⟨w.heap.size + 1, 0, none⟩) 3 3]) (by simp [results, Try.f44, go_sem]) rfl ⟨_, rfl, by omega, alloc_at (by simp), bal (bal0 w _) (Nat.le_refl _) _⟩
theorem register_s (w : World) : Calls Try.prog 44 #[] w fun e w' => ∃ A c, e = .returned (.agg #[.int .i64 1, .slice A 3 c]) ∧ Marks w' A 3 exR ∧ 3 ≤ c ∧ c ≤ maxLen ∧ Below w.heap.size w w' :=
  (register_any w).mono fun _ _ ⟨⟨A, c, he, _, hm, hc, hx⟩, hb⟩ => ⟨A, c, he, hm, hc, hx, hb⟩
theorem Sl.belowH {α : Type} {enc : α → List Value} {sz : Nat} {w w' : World} {A : Option Addr} {n : Nat} {l : List α} (h : Sl enc sz w A n l) (hb : Hid (Below w.heap.size w w')) : Sl enc sz w' A n l := h.below hb.out (Nat.le_refl _)
theorem bheapH {w w' : World} {b : Nat} {o : Obj} (h : w.heap[b]? = some o) (hb : Hid (Below w.heap.size w w')) : w'.heap[b]? = some o := bheap h hb.out (Nat.le_refl _)
theorem Bel.step {w a b : World} (h : Below w.heap.size w a) (hb : Hid (Below a.heap.size a b)) : Below w.heap.size w b := h.trans (hb.out.mono h.size)
theorem Bel.al {w a : World} (h : Below w.heap.size w a) (o : Obj) : Below w.heap.size w (a.alloc o) := bal h (Nat.le_refl _) o
theorem Grid.belowH {w w' : World} {A : Option Addr} {n : Nat} {l : List (List Int)} (h : Grid w A n l) (hb : Hid (Below w.heap.size w w')) : Grid w' A n l := h.below hb.out (Nat.le_refl _)
end Go.Proofs.Ytoidaigiejilcaa
