/- mark.worn: the sixteen losses come out, those of fewer first. -/
import Derived.Test.YtoidaigiejilcaaDoorCheck
import Derived.Test.YtoidaigiejilcaaDoorRound
namespace Go.Proofs.YtoidaigiejilcaaDoor
open Go.RowKit Go.Shelf
set_option linter.unusedVariables false
set_option linter.unusedSimpArgs false
attribute [local go_sem] Oper.semAt_some

theorem ones_any (x : Int) (w : World) (h0 : 0 ≤ x) (h1 : x ≤ 255) :
    Calls Tryd.prog 63 #[.int .u64 x] w fun e w' => e = .returned (.int .i64 (popI x)) ∧ w = w' := by
  go_enter Tryd.func63, Tryd.ntmps63
  go_wp2_with (go_at_call 74; refine (ones64 x _ h0 h1).mono ?_; rintro e w' ⟨rfl, rfl⟩)
  go_ret
  exact ⟨rfl, rfl⟩

theorem worn_any (w : World) : Calls Tryd.prog 65 #[] w fun e w' => e = .returned (.func (.func 75) #[] #[]) ∧ w = w' := by
  go_enter Tryd.func65, Tryd.ntmps65
  go_wp2
  go_ret
  exact ⟨rfl, rfl⟩

def encW (x : Int × Sg) : Array Value := #[.int .i64 x.1, vSg x.2]

set_option maxHeartbeats 2000000 in
theorem worn_stops (n : Nat) (hn : 1 ≤ n) (Kp : World → World → Prop) (w : World) :
    SeqStopsK Fence.wide n Tryd.prog 75 #[] encW Kp (fun xs => xs = wornL) (fun pre => pre <+: wornL) 16 w := fun l J Jx W hW hJ hJx hY h0 => by
  refine callsIn_of_wp Tryd.func75 rfl trivial ?_ rfl
  simp only [Tryd.ntmps75, List.size_toArray, List.length_cons, List.length_nil, Nat.reduceAdd, Nat.reduceSub, Array.replicate_succ, Array.replicate_zero, List.push_toArray, List.append_toArray, List.nil_append, List.cons_append]
  gi_wp2
  gi_loopw [5] (fun i wr => ∃ m : Nat, m ≤ 5 ∧ i = .int .i64 m ∧ J (wornTo m 0) wr) (fun i _ => 5 - (intOf i).toNat)
  case atStart => exact ⟨0, by omega, rfl, h0⟩
  case round =>
    obtain ⟨m, hm, rfl, hJm⟩ := hrel
    have HJ := Lib.hid hJm
    clear hJm
    obtain ⟨wo, rfl⟩ : ∃ wo : World, wo = wr := ⟨_, rfl⟩
    by_cases hlt : m < 5
    · have hmd : decide ((m : Int) < 5) = true := by simp; omega
      gi_wp2_with fail
      gi_loopw [8] (fun i wr => ∃ s : Nat, s ≤ 16 ∧ i = .int .u64 s ∧ J (wornTo m s) wr) (fun i _ => 16 - (intOf i).toNat)
      case atStart => exact ⟨0, by omega, rfl, HJ.out⟩
      case round =>
        obtain ⟨s, hs, rfl, hJs⟩ := hrel
        have HJs := Lib.hid hJs
        clear hJs
        by_cases hls : s < 16
        · obtain ⟨e0, e1, e2, e3⟩ := u64_bits s hls
          by_cases hpop : popI (s : Int) = m
          · have HP := Lib.hid hpop
            have hp : ((popI (s : Int) : Int) != (m : Int)) = false := by simp [hpop]
            clear hpop
            obtain ⟨fn, tmps, assign, body, hy, hR⟩ := hY _ ((m : Int), wearOf s) (wr.alloc (.cells #[.int .i64 0, .bool (wearOf s).l, .bool (wearOf s).r, .int .i64 (wearOf s).b, .int .i64 (wearOf s).p] 42))
              (hJ _ _ _ none HJs.out (World.grownBy_alloc wr _ none) (fun r e => by cases e)) (wornTo_len m hlt s hls HP.out)
            dsimp only [encW, vSg, wearOf] at hy hR
            have HY := Lib.hid hY
            clear hY
            cases f2 : wb s 2 <;> cases f3 : wb s 3
            all_goals
              simp only [f2, f3, Bool.false_eq_true, if_true, if_false] at hy hR e2 e3
              gi_wp2_with (refine ⟨trivial, ?_⟩; gi_at_call 63; refine (callsIn_wide.2 (ones_any (s : Int) _ (by omega) (by omega))).mono ?_; rintro e w' ⟨rfl, rfl⟩)
              refine hR.mono ?_
              rintro e W3 (⟨rfl, hJ3, hk3⟩ | ⟨rfl, hJx3⟩)
              · gi_wp2
                go_roundw
                case rel => exact ⟨s + 1, by omega, by go_num, by rw [wornTo_take m hlt s hls HP.out]; simpa [wearOf, f2, f3] using hJ3⟩
                case measure => simp [intOf]; omega
              · gi_wp2
                refine bodyPost_ret (results_none rfl _ _ _) rfl ?_
                exact ⟨⟨_, rfl⟩, .inr ⟨_, by (have := wornTo_prefix m hlt (s + 1) (by omega); rw [wornTo_take m hlt s hls HP.out] at this; simpa [wearOf, f2, f3] using this), hJx3⟩⟩
          · have hp : ((popI (s : Int) : Int) != (m : Int)) = true := by simp; omega
            have HP := Lib.hid hpop
            clear hpop
            gi_wp2_with (refine ⟨trivial, ?_⟩; gi_at_call 63; refine (callsIn_wide.2 (ones_any (s : Int) _ (by omega) (by omega))).mono ?_; rintro e w' ⟨rfl, rfl⟩)
            go_roundw
            case rel => exact ⟨s + 1, by omega, by go_num, by rw [wornTo_skip m hlt s hls HP.out]; exact HJs.out⟩
            case measure => simp [intOf]; omega
        · obtain rfl : s = 16 := by omega
          gi_wp2
          go_roundw
          case rel => exact ⟨m + 1, by omega, by go_num, by rw [← wornTo_next m hlt]; exact HJs.out⟩
          case measure => simp [intOf]; omega
    · obtain rfl : m = 5 := by omega
      gi_wp2
      go_end0
      exact ⟨⟨_, rfl⟩, .inl ⟨_, rfl, HJ.out⟩⟩
end Go.Proofs.YtoidaigiejilcaaDoor
