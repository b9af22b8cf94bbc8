/- mestaref03.lines: the parts of a string between line feeds. -/
import Derived.Test.YtoidaigiejilcaaDoorTextN
import Derived.Test.YtoidaigiejilcaaDoorRefT
namespace Go.Proofs.YtoidaigiejilcaaDoor
open Go.RowKit
set_option linter.unusedVariables false
set_option linter.unusedSimpArgs false

def eStr (s : ByteArray) : List Value := [.string s]
theorem lenStr (s : ByteArray) : (eStr s).length = 1 := rfl
theorem okStr : ElemOk Tryd.prog 38 9 1 16 := ElemOk.mk' (z := .string ⟨#[]⟩) Tryd.underlying38 (by kernel_rfl) rfl (by decide)
theorem one_eStr (s : ByteArray) : ∀ u ∈ eStr s, u.oneCell' = true := by intro u hu; simp [eStr] at hu; subst hu; rfl
abbrev OwnSt (w : World) (base : Nat) (v : Value) (l : List ByteArray) : Prop := Own eStr 9 1 w base v l

/-- the pieces, as strings -/
def PiecS (s : ByteArray) (ps : List ByteArray) (f i : Nat) : Prop := Piec s.data.toList (ps.map (·.data.toList)) f i
theorem PiecS.snoc {s : ByteArray} {ps : List ByteArray} {f i : Nat} (h : PiecS s ps f i) (hi : i < s.size) (he : (s[i]'hi) = 10) : PiecS s (ps ++ [s.extract f i]) (i + 1) (i + 1) := by
  have hl := Lib.size_eq s
  have := Piec.at_ h (by omega) (show s.data.toList.getD i 0 = 10 by
    rw [← he, List.getD_eq_getElem?_getD, List.getElem?_eq_getElem (by omega)]
    simp [ByteArray.getElem_eq_getElem_data])
  unfold PiecS
  rw [List.map_append, List.map_cons, List.map_nil, Lib.extract_data]
  exact this
theorem PiecS.skip {s : ByteArray} {ps : List ByteArray} {f i : Nat} (h : PiecS s ps f i) (hi : i < s.size) (he : (s[i]'hi) ≠ 10) : PiecS s ps f (i + 1) := by
  have hl := Lib.size_eq s
  refine Piec.skip h (by omega) ?_
  rw [List.getD_eq_getElem?_getD, List.getElem?_eq_getElem (by omega)]
  intro e
  apply he
  rw [← e]
  simp [ByteArray.getElem_eq_getElem_data]
theorem PiecS.end_ {s : ByteArray} {ps : List ByteArray} {f : Nat} (h : PiecS s ps f s.size) : cutL 10 s.data.toList = (ps ++ [s.extract f s.size]).map (·.data.toList) := by
  have hl := Lib.size_eq s
  unfold PiecS at h
  rw [hl] at h
  rw [h.end_, List.map_append, List.map_cons, List.map_nil, Lib.extract_data, hl]

set_option maxRecDepth 100000 in
set_option maxHeartbeats 4000000 in
theorem rLines (s : ByteArray) (w : World) (hs : s.size ≤ 4294967290) :
    Calls Tryd.prog 35 #[.string s] w fun e w' => ∃ (A : Option Addr) (c : Nat) (ps : List ByteArray), e = .returned (.slice A ps.length c) ∧ ps.map (·.data.toList) = cutL 10 s.data.toList ∧ OwnSt w' w.heap.size (.slice A ps.length c) ps ∧ Below w.heap.size w w' := by
  go_enter Tryd.func35, Tryd.ntmps35
  go_wp2_with fail
  go_loopg [3, 4, 5] (s.size + 1) (fun g sv fv i wr => ∃ (k f : Nat) (ps : List ByteArray), k + g = s.size + 1 ∧ i = .int .i64 k ∧ fv = .int .i64 f ∧ OwnSt wr w.heap.size sv ps ∧ (k ≤ s.size → PiecS s ps f k) ∧ (k = s.size + 1 → cutL 10 s.data.toList = ps.map (·.data.toList)) ∧ ps.length ≤ k ∧ f ≤ k ∧ Below w.heap.size w wr)
  case atStart => exact ⟨0, 0, [], by omega, rfl, rfl, Own.nil_, fun _ => Piec.start _, fun h => by omega, Nat.le_refl _, Nat.le_refl _, Below.refl _ _⟩
  case round =>
    obtain ⟨k, f, ps, hk, rfl, rfl, hown, hp, hend, hlp, hfk, hB⟩ := hrel
    have HK := Lib.hid (And.intro hk (And.intro hp (And.intro hend (And.intro hlp hfk))))
    have HO := Lib.hid (And.intro hown hB)
    have hz := hB.size
    have hks' : k ≤ s.size + 1 := by omega
    have hll : ps.length < 4294967296 := by omega
    clear hp hend hown hB hk
    by_cases hlt : k < s.size
    · have c1 : ((k : Int) == (s.size : Int)) = false := beq_eq_false_iff_ne.2 (by omega)
      cases hb : (((s[k]'hlt).toNat : Int) == 10)
      · have HP := Lib.hid (show PiecS s ps f (k + 1) from PiecS.skip (HK.out.2.1 (by omega)) hlt (fun e => by rw [e] at hb; cases hb))
        go_wp2_with fail
        go_roundg (gk - 1)
        case measure => have := HK.out.1; omega
        case rel => exact ⟨k + 1, f, ps, by have := HK.out.1; omega, by go_num, rfl, HO.out.1, fun _ => HP.out, fun h => by omega, by omega, by omega, HO.out.2⟩
      · have HP := Lib.hid (show PiecS s (ps ++ [s.extract f k]) (k + 1) (k + 1) from PiecS.snoc (HK.out.2.1 (by omega)) hlt (by
          have h1 := eq_of_beq hb
          have h2 : (s[k]'hlt).toNat = 10 := by omega
          exact UInt8.toNat_inj.1 h2))
        go_wp2_with (at_builtin; refine wp_app okStr rfl (.tmp 22) (.tmp 27) rfl w.heap.size _ ps _ _ rfl rfl rfl rfl (one_eStr _) HO.out.1 hll ?_ ?_ ?_; (omega); (omega); intro v' w' hown' hb' _ hz'; have H9 := Lib.hid (And.intro hown' (And.intro hb' hz')); clear hown' hb' hz')
        go_roundg (gk - 1)
        case measure => have := HK.out.1; omega
        case rel => exact ⟨k + 1, k + 1, ps ++ [s.extract f k], by have := HK.out.1; omega, by go_num, by go_num, H9.out.1, fun _ => HP.out, fun h => by omega, by simp; omega, by omega, HO.out.2.trans H9.out.2.1⟩
    · by_cases hle : k = s.size
      · have c1 : ((k : Int) == (s.size : Int)) = true := beq_iff_eq.2 (by omega)
        have HP := Lib.hid (show cutL 10 s.data.toList = (ps ++ [s.extract f k]).map (·.data.toList) by
          rw [hle]; exact PiecS.end_ (by rw [← hle]; exact HK.out.2.1 (by omega)))
        have HLE := Lib.hid hle
        have hle1 : (k : Int) ≤ (s.size : Int) := by omega
        clear hle
        go_wp2_with (at_builtin; refine wp_app okStr rfl (.tmp 22) (.tmp 27) rfl w.heap.size _ ps _ _ rfl rfl rfl rfl (one_eStr _) HO.out.1 hll ?_ ?_ ?_; (omega); (omega); intro v' w' hown' hb' _ hz'; have H9 := Lib.hid (And.intro hown' (And.intro hb' hz')); clear hown' hb' hz')
        go_roundg (gk - 1)
        case measure => have := HK.out.1; omega
        case rel => exact ⟨k + 1, k + 1, ps ++ [s.extract f k], by have := HK.out.1; omega, by go_num, by go_num, H9.out.1, fun h => by have := HLE.out; omega, fun _ => HP.out, by simp; omega, by omega, HO.out.2.trans H9.out.2.1⟩
      · have hend := HK.out.2.2.1 (by omega)
        have hgt : ¬ (k : Int) ≤ (s.size : Int) := by omega
        obtain ⟨A, c, hv, _, _⟩ := HO.out.1.form lenStr
        subst hv
        have HE := Lib.hid hend
        clear hend
        go_wp2
        go_ret
        exact ⟨A, c, ps, rfl, HE.out.symm, HO.out.1, HO.out.2⟩
end Go.Proofs.YtoidaigiejilcaaDoor
