/- Plain law of texts: what is written is read again, and what is read is written as it was. No program in sight. -/
import Derived.Test.YtoidaigiejilcaaDoorTextL
import Derived.Test.YtoidaigiejilcaaDoorWriteA
namespace Go.Proofs.YtoidaigiejilcaaDoor
set_option linter.unusedVariables false
set_option linter.unusedSimpArgs false

theorem takeS {α : Type} {l : List α} {i : Nat} (h : i < l.length) : l.take (i + 1) = l.take i ++ [l[i]] := by
  rw [List.take_add_one, List.getElem?_eq_getElem h]; rfl
def tearLine (t : Int) : List UInt8 := tearsL ++ [dgB t]
def markLine (m : Mk) : List UInt8 := plB m.n 0 ++ [47] ++ plB m.n 4 ++ [32, 98, dgB m.b, 32, 112, dgB m.p]
def textLines (t : Int) (l : List Mk) : List (List UInt8) := tearLine t :: (l.map markLine ++ [endL, []])
def textOf (t : Int) (l : List Mk) : List UInt8 := tearLine t ++ 10 :: (l.flatMap (fun m => markLine m ++ [10]) ++ (endL ++ [10]))

theorem dg_of {n : Int} (h0 : 0 ≤ n) (h1 : n ≤ 9) : isDg (dgB n) = true ∧ dgI (dgB n) = n := by
  have := dgB_int h0 h1
  unfold isDg dgI
  constructor
  · simp; omega
  · omega
theorem dgB_of {d : UInt8} (h : isDg d = true) : dgB (dgI d) = d := by
  unfold isDg at h; simp at h
  unfold dgB dgI
  have e : 48 + ((d.toNat : Int) - 48).toNat = d.toNat := by omega
  rw [e]
  simp
theorem places_num : ∀ n : Fin 256, plNum (plB ((n.1 : Nat) : Int) 0 ++ plB ((n.1 : Nat) : Int) 4) 8 = ((n.1 : Nat) : Int) := by decide +kernel
theorem places_all (n : Int) : (plB n 0 ++ plB n 4).all isPl = true := by
  have h : ∀ i, isPl (chB n i) = true := by intro i; unfold chB; split <;> rfl
  simp only [plB, List.all_append, List.all_map, Bool.and_eq_true, List.all_eq_true]
  exact ⟨fun i _ => h _, fun i _ => h _⟩
theorem places_back : ∀ a b c d e f g h : Bool, 
    plB (plNum [if a then 120 else 46, if b then 120 else 46, if c then 120 else 46, if d then 120 else 46, if e then 120 else 46, if f then 120 else 46, if g then 120 else 46, if h then 120 else 46] 8) 0
      ++ plB (plNum [if a then 120 else 46, if b then 120 else 46, if c then 120 else 46, if d then 120 else 46, if e then 120 else 46, if f then 120 else 46, if g then 120 else 46, if h then 120 else 46] 8) 4
      = [if a then 120 else 46, if b then 120 else 46, if c then 120 else 46, if d then 120 else 46, if e then 120 else 46, if f then 120 else 46, if g then 120 else 46, if h then 120 else 46] := by decide +kernel
theorem pl_bool {c : UInt8} (h : isPl c = true) : ∃ b : Bool, c = if b then 120 else 46 := by
  unfold isPl at h; simp at h
  rcases h with rfl | rfl
  · exact ⟨true, rfl⟩
  · exact ⟨false, rfl⟩
theorem plNum_range (l : List UInt8) : ∀ k, 0 ≤ plNum l k ∧ plNum l k < 2 ^ k
  | 0 => ⟨by simp [plNum], by simp [plNum]⟩
  | k + 1 => by
    have ih := plNum_range l k
    have h2 : (2 : Int) ^ (k + 1) = 2 ^ k + 2 ^ k := by rw [Int.pow_succ]; omega
    unfold plNum; split <;> omega

theorem mark_line {m : Mk} (h0 : 0 ≤ m.n) (h1 : m.n ≤ 255) (b0 : 0 ≤ m.b) (b1 : m.b ≤ 9) (p0 : 0 ≤ m.p) (p1 : m.p ≤ 9) : markL (markLine m) = some m := by
  obtain ⟨d1, v1⟩ := dg_of b0 b1
  obtain ⟨d2, v2⟩ := dg_of p0 p1
  have hp : plsOf (markLine m) = plB m.n 0 ++ plB m.n 4 := rfl
  have hn := places_num ⟨m.n.toNat, by omega⟩
  have e : ((m.n.toNat : Nat) : Int) = m.n := by omega
  simp only [e] at hn
  unfold markL
  rw [if_pos, hp, hn]
  · rw [show (markLine m).getD 11 0 = dgB m.b from rfl, show (markLine m).getD 14 0 = dgB m.p from rfl, v1, v2]
  · refine ⟨rfl, rfl, rfl, rfl, rfl, rfl, d1, d2, ?_⟩
    rw [hp]; exact places_all m.n
theorem line_mark {x : List UInt8} {m : Mk} (h : markL x = some m) : x = markLine m ∧ 0 ≤ m.n ∧ m.n ≤ 255 ∧ 0 ≤ m.b ∧ m.b ≤ 9 ∧ 0 ≤ m.p ∧ m.p ≤ 9 := by
  unfold markL at h
  split at h
  · rename_i g
    obtain ⟨h1, h2, h3, h4, h5, h6, h7, h8, h9⟩ := g
    obtain ⟨a, b, c, d, e, f, g, i, j, k, mm, n, o, p, q, rfl⟩ := list15 h1
    simp only [List.getD_cons_zero, List.getD_cons_succ] at h2 h3 h4 h5 h6 h7 h8 h
    subst h2 h3 h4 h5 h6
    have hpl : plsOf [a, b, c, d, 47, f, g, i, j, 32, 98, n, 32, 112, q] = [a, b, c, d, f, g, i, j] := rfl
    rw [hpl] at h9 h
    simp only [List.all_cons, List.all_nil, Bool.and_true, Bool.and_eq_true] at h9
    obtain ⟨p0, p1, p2, p3, p4, p5, p6, p7⟩ := h9
    injection h with h
    have hr := plNum_range [a, b, c, d, f, g, i, j] 8
    subst h
    have hr2 : plNum [a, b, c, d, f, g, i, j] 8 ≤ 255 := by have e8 : (2 : Int) ^ 8 = 256 := rfl; have := hr.2; omega
    refine ⟨?_, hr.1, hr2, dgI_lo h7, dgI_hi h7, dgI_lo h8, dgI_hi h8⟩
    unfold markLine
    simp only [dgB_of h7, dgB_of h8]
    obtain ⟨b0, rfl⟩ := pl_bool p0
    obtain ⟨b1, rfl⟩ := pl_bool p1
    obtain ⟨b2, rfl⟩ := pl_bool p2
    obtain ⟨b3, rfl⟩ := pl_bool p3
    obtain ⟨b4, rfl⟩ := pl_bool p4
    obtain ⟨b5, rfl⟩ := pl_bool p5
    obtain ⟨b6, rfl⟩ := pl_bool p6
    obtain ⟨b7, rfl⟩ := pl_bool p7
    have hb := places_back b0 b1 b2 b3 b4 b5 b6 b7
    generalize plNum _ 8 = N at hb ⊢
    have e1 : plB N 0 = [if b0 then 120 else 46, if b1 then 120 else 46, if b2 then 120 else 46, if b3 then 120 else 46] := congrArg (List.take 4) hb
    have e2 : plB N 4 = [if b4 then 120 else 46, if b5 then 120 else 46, if b6 then 120 else 46, if b7 then 120 else 46] := congrArg (List.drop 4) hb
    rw [e1, e2]
    rfl
  · cases h

theorem not10_pl (n : Int) (i : Nat) : (10 : UInt8) ≠ chB n i := by unfold chB; split <;> decide
theorem not10_dg {n : Int} (h0 : 0 ≤ n) (h1 : n ≤ 9) : (10 : UInt8) ≠ dgB n := by
  intro e; have := dgB_int h0 h1; rw [← e] at this; have e2 : ((10 : UInt8).toNat : Int) = 10 := rfl
  omega
theorem not10_mark {m : Mk} (b0 : 0 ≤ m.b) (b1 : m.b ≤ 9) (p0 : 0 ≤ m.p) (p1 : m.p ≤ 9) : (10 : UInt8) ∉ markLine m := by
  have e : markLine m = [chB m.n 0, chB m.n 1, chB m.n 2, chB m.n 3, 47, chB m.n 4, chB m.n 5, chB m.n 6, chB m.n 7, 32, 98, dgB m.b, 32, 112, dgB m.p] := rfl
  rw [e]
  simp only [List.mem_cons, List.not_mem_nil, or_false, not_or]
  exact ⟨not10_pl _ _, not10_pl _ _, not10_pl _ _, not10_pl _ _, by decide, not10_pl _ _, not10_pl _ _, not10_pl _ _, not10_pl _ _, by decide, by decide, not10_dg b0 b1, by decide, by decide, not10_dg p0 p1⟩
/-- marks whose numbers can be written -/
def Wm (l : List Mk) : Prop := ∀ m ∈ l, 0 ≤ m.n ∧ m.n ≤ 255 ∧ 0 ≤ m.b ∧ m.b ≤ 9 ∧ 0 ≤ m.p ∧ m.p ≤ 9
theorem cut_marks : ∀ (l : List Mk) (r : List UInt8), Wm l → cutL 10 (l.flatMap (fun m => markLine m ++ [10]) ++ r) = l.map markLine ++ cutL 10 r
  | [], r, _ => rfl
  | m :: l, r, h => by
    have hm := h m (by simp)
    rw [List.flatMap_cons, List.append_assoc, List.append_assoc, List.singleton_append, cutL_app _ _ _ (not10_mark hm.2.2.1 hm.2.2.2.1 hm.2.2.2.2.1 hm.2.2.2.2.2),
      cut_marks l r (fun x hx => h x (by simp [hx]))]
    rfl
theorem cut_text {t : Int} {l : List Mk} (t0 : 0 ≤ t) (t1 : t ≤ 9) (h : Wm l) : cutL 10 (textOf t l) = textLines t l := by
  unfold textOf textLines
  rw [cutL_app, cut_marks l _ h]
  · congr 2
  · simp only [tearLine, tearsL, List.cons_append, List.nil_append, List.mem_cons, List.not_mem_nil, or_false, not_or]
    exact ⟨by decide, by decide, by decide, by decide, by decide, by decide, not10_dg t0 t1⟩

theorem text_line0 (t : Int) (l : List Mk) : (textLines t l).getD 0 [] = tearLine t := rfl
theorem text_line (t : Int) (l : List Mk) (k : Nat) (hk : k < l.length) : (textLines t l).getD (k + 1) [] = markLine l[k] := by
  unfold textLines
  rw [List.getD_cons_succ, List.getD_eq_getElem?_getD, List.getElem?_append_left (by simpa using hk)]
  simp [hk]
theorem text_end (t : Int) (l : List Mk) : (textLines t l).getD (l.length + 1) [] = endL := by
  unfold textLines
  rw [List.getD_cons_succ, List.getD_eq_getElem?_getD, List.getElem?_append_right (by simp)]
  simp
theorem text_last (t : Int) (l : List Mk) : (textLines t l).getD (l.length + 2) [] = [] := by
  unfold textLines
  rw [List.getD_cons_succ, List.getD_eq_getElem?_getD, List.getElem?_append_right (by simp)]
  simp
theorem mark_ne_end (m : Mk) : markLine m ≠ endL := fun e => by
  have := congrArg List.length e
  revert this; show ¬ (15 = 9); decide
theorem rd_text {t : Int} {l : List Mk} (t0 : 0 ≤ t) (t1 : t ≤ 9) (h : Wm l) : ∀ k, k ≤ l.length → rdTo (textLines t l) (k + 1) = some ⟨t, l.take k, false⟩
  | 0, _ => by
    obtain ⟨d, v⟩ := dg_of t0 t1
    have e : loneL (tearLine t) tearsL = t := by unfold tearLine; rw [loneL_of _ _ d, v]
    unfold rdTo rdTo
    simp only [rdStep, text_line0, e, t0, if_true, Bool.false_eq_true, if_false]
    rfl
  | k + 1, hk => by
    have ih := rd_text t0 t1 h k (by omega)
    unfold rdTo
    rw [ih, text_line t l k (by omega)]
    have hm := h l[k] (by simp)
    simp only [rdStep, Bool.false_eq_true, if_false, Nat.add_one_ne_zero, mark_ne_end, mark_line hm.1 hm.2.1 hm.2.2.1 hm.2.2.2.1 hm.2.2.2.2.1 hm.2.2.2.2.2]
    rw [takeS (by omega)]
theorem rd_textEnd {t : Int} {l : List Mk} (t0 : 0 ≤ t) (t1 : t ≤ 9) (h : Wm l) : rdTo (textLines t l) (l.length + 2) = some ⟨t, l, true⟩ := by
  unfold rdTo
  rw [rd_text t0 t1 h l.length (Nat.le_refl _), text_end]
  simp [rdStep]

theorem chk_wm : ∀ {l : List Mk} {n : Nat}, check 0 l = 0 → True := fun _ => trivial
theorem text_len (t : Int) : ∀ l : List Mk, (textOf t l).length = 18 + 16 * l.length := by
  intro l
  have h : ∀ l : List Mk, (l.flatMap (fun m => markLine m ++ [10])).length = 16 * l.length := by
    intro l
    induction l with
    | nil => rfl
    | cons m l ih => rw [List.flatMap_cons, List.length_append, ih, List.length_cons]
                     show 16 + 16 * l.length = _
                     omega
  unfold textOf
  rw [List.length_append, List.length_cons, List.length_append, h]
  show 7 + (16 * l.length + 10 + 1) = _
  omega
theorem read_text {t : Int} {l : List Mk} (t0 : 0 ≤ t) (t1 : t ≤ 9) (h : Wm l) (hc : check t l = 0) : readL (textOf t l) = ⟨t, l, 0, 0⟩ := by
  have hl := (check_ok hc).2.2.1
  have e : (textLines t l).length = l.length + 3 := by unfold textLines; simp
  have ho : rdOk (textOf t l) = some ⟨t, l, true⟩ := by
    unfold rdOk
    rw [cut_text t0 t1 h]
    simp only [e, show l.length + 3 - 1 = l.length + 2 from rfl, rd_textEnd t0 t1 h, text_last]
    simp
  unfold readL
  rw [if_neg (by rw [text_len]; omega), ho]
  simp [hc]

/-- what has been read so far, as lines -/
theorem rd_lines {ls : List (List UInt8)} : ∀ {k : Nat} {st : Rd}, k + 1 ≤ ls.length → rdTo ls (k + 1) = some st → ls.take (k + 1) = tearLine st.t :: (st.l.map markLine ++ (if st.e = true then [endL] else [])) ∧ 0 ≤ st.t ∧ st.t ≤ 9 ∧ Wm st.l
  | 0, st, hk, h => by
    unfold rdTo rdTo at h
    simp only [rdStep, Bool.false_eq_true, if_false, if_true] at h
    split at h
    · rename_i g
      injection h with h
      subst h
      obtain ⟨d, e, hd, hv⟩ := loneL_ge g
      cases ls with
      | nil => simp at hk
      | cons x xs =>
        simp only [List.getD_cons_zero] at e hv g ⊢
        refine ⟨?_, g, loneL_hi _ _, fun m hm => by cases hm⟩
        rw [hv]
        unfold tearLine
        rw [dgB_of hd, ← e]
        rfl
    · cases h
  | k + 1, st, hk, h => by
    unfold rdTo at h
    cases e0 : rdTo ls (k + 1) with
    | none => rw [e0] at h; cases h
    | some s0 =>
      rw [e0] at h
      obtain ⟨i1, i2, i3, i4⟩ := rd_lines (by omega) e0
      have ht : ls.take (k + 1 + 1) = ls.take (k + 1) ++ [ls.getD (k + 1) []] := by
        rw [takeS (by omega), List.getD_eq_getElem?_getD, List.getElem?_eq_getElem (by omega)]; rfl
      simp only [rdStep] at h
      split at h
      · cases h
      rename_i he
      have he' : s0.e = false := by simpa using he
      rw [if_neg (by omega)] at h
      split at h
      · rename_i hx
        injection h with h
        subst h
        refine ⟨?_, i2, i3, i4⟩
        rw [ht, i1, hx, he']
        simp
      · split at h
        · rename_i m hm
          injection h with h
          subst h
          obtain ⟨g1, g2⟩ := line_mark hm
          refine ⟨?_, i2, i3, ?_⟩
          · rw [ht, i1, g1, he']
            simp [he']
          · intro x hx
            rcases List.mem_append.1 hx with hx | hx
            · exact i4 x hx
            · simp at hx; subst hx; exact g2
        · cases h

theorem text_read {s : List UInt8} {t : Int} {l : List Mk} {n : Nat} (h : readL s = ⟨t, l, n, 0⟩) : s = textOf t l ∧ check t l = 0 ∧ 0 ≤ t ∧ t ≤ 9 ∧ Wm l := by
  unfold readL at h
  split at h
  · injection h with h1 h2 h3 h4; cases h4
  · cases ho : rdOk s with
    | none => rw [ho] at h; injection h with h1 h2 h3 h4; cases h4
    | some st =>
      rw [ho] at h
      dsimp only at h
      split at h
      · rename_i hc; injection h with h1 h2 h3 h4; exact absurd h4 hc
      rename_i hc
      injection h with h1 h2 h3 h4
      subst h1 h2
      obtain ⟨e, hne⟩ : rdTo (cutL 10 s) ((cutL 10 s).length - 1) = some st ∧ ¬ (st.e = false ∨ (cutL 10 s).getD ((cutL 10 s).length - 1) [] ≠ []) := by
        unfold rdOk at ho
        cases e : rdTo (cutL 10 s) ((cutL 10 s).length - 1) with
        | none => rw [e] at ho; cases ho
        | some st' =>
          rw [e] at ho
          dsimp only at ho
          split at ho
          · cases ho
          · rename_i hn; injection ho with ho; subst ho; exact ⟨rfl, hn⟩
      have hE : st.e = true := by
        cases hs : st.e with
        | true => rfl
        | false => exact absurd (Or.inl hs) hne
      have hL : (cutL 10 s).getD ((cutL 10 s).length - 1) [] = [] := by
        by_cases hq : (cutL 10 s).getD ((cutL 10 s).length - 1) [] = []
        · exact hq
        · exact absurd (Or.inr hq) hne
      have hpos : 0 < (cutL 10 s).length := List.length_pos_iff.2 (cutL_ne 10 s)
      have hk : ∃ k, (cutL 10 s).length - 1 = k + 1 := by
        cases hz : (cutL 10 s).length - 1 with
        | succ k => exact ⟨k, rfl⟩
        | zero => rw [hz] at e; injection e with e; subst e; cases hE
      obtain ⟨k, hk⟩ := hk
      rw [hk] at e
      obtain ⟨i1, i2, i3, i4⟩ := rd_lines (by omega) e
      have hwhole : cutL 10 s = textLines st.t st.l := by
        have ht : cutL 10 s = (cutL 10 s).take (k + 1) ++ [(cutL 10 s).getD (k + 1) []] := by
          conv => lhs; rw [← List.take_length (l := cutL 10 s), show (cutL 10 s).length = k + 1 + 1 by omega]
          rw [takeS (by omega), List.getD_eq_getElem?_getD, List.getElem?_eq_getElem (by omega)]; rfl
        rw [ht, i1, ← hk, hL, hE]
        unfold textLines
        simp
      refine ⟨?_, by omega, i2, i3, i4⟩
      rw [← glue_cut 10 s, hwhole, ← cut_text i2 i3 i4, glue_cut]

theorem wrM_list (m : Mk) : (wrM m).data.toList = markLine m ++ [10] := by
  unfold wrM plS dgS slS nlS markLine
  simp [ByteArray.data_append]
theorem wrTo_list (t : Int) (l : List Mk) : ∀ k, k ≤ l.length → (wrTo t l k).data.toList = tearLine t ++ 10 :: (l.take k).flatMap (fun m => markLine m ++ [10])
  | 0, _ => by unfold wrTo tearLine tearsL dgS nlS; simp [ByteArray.data_append]
  | k + 1, hk => by
    have ih := wrTo_list t l k (by omega)
    have hm : mkAt l (k : Int) = l[k] := by unfold mkAt; simp [show k < l.length by omega]
    unfold wrTo
    rw [ByteArray.data_append, Array.toList_append, ih, wrM_list, hm, takeS (by omega), List.flatMap_append]
    simp
theorem wrS_list {t : Int} {l : List Mk} (h : check t l = 0) : (wrS t l).data.toList = textOf t l := by
  unfold wrS textOf
  rw [if_pos h, ByteArray.data_append, Array.toList_append, wrTo_list t l l.length (Nat.le_refl _), List.take_length]
  unfold endL
  simp
theorem bytes_ext {a b : ByteArray} (h : a.data.toList = b.data.toList) : a = b := by
  obtain ⟨⟨x⟩⟩ := a
  obtain ⟨⟨y⟩⟩ := b
  simp at h
  rw [h]
end Go.Proofs.YtoidaigiejilcaaDoor
