/- TopStrays 36: Pen. -/
import Derived.Test.YtmennjmjakdkcaaTs35
namespace Go.Proofs.Ytmennjmjakdkcaa
open Go.RowKit
set_option linter.unusedVariables false
set_option linter.unusedSimpArgs false

abbrev pnM : List Mk := [⟨1, 0, 0⟩, ⟨3, 0, 1⟩]
abbrev pnHs : List (List Int) := [[1, 1], [0, 0]]
abbrev pnDs : List De := [⟨5, 0, 0, 0, 1, 0, 0, ⟨3, false, false, 0, -1⟩⟩]
set_option maxRecDepth 400000 in
set_option maxHeartbeats 4000000 in
theorem pen_any (w : World) : Calls Try.prog 68 #[] w (Book9R w pnM pnHs pnDs) := by
  obtain ⟨r, hr⟩ : ∃ r, r = w.heap.size := ⟨_, rfl⟩
  obtain ⟨V, hV⟩ : ∃ V, V = w.alloc (Obj.cells #[.int .i64 0, .slice none 0 0, .slice none 0 0, .slice none 0 0, .slice none 0 0] 29) := ⟨_, rfl⟩
  have bV : V.heap[r]? = some (boxO 0 (.slice none 0 0) (.slice none 0 0) (.slice none 0 0) (.slice none 0 0)) := by rw [hV, hr]; exact alloc_at rfl
  have hBV : Below w.heap.size w V := by rw [hV]; exact bal0 w _
  have hzV : V.heap.size = r + 1 := by rw [hV, hr]; simp
  have bU : ((((((V.alloc (Obj.cells #[Value.int .i64 1, .int .i64 0, .int .i64 0, .int .i64 3, .int .i64 0, .int .i64 1] 62)).alloc (Obj.cells #[Value.int .i64 0, .int .i64 1] 3)).alloc (Obj.cells #[Value.int .i64 1, .int .i64 1] 3)).alloc (Obj.cells #[Value.int .i64 0, .int .i64 0] 3)).alloc (Obj.cells #[Value.slice (some ⟨V.heap.size + 1 + 1, 0, none⟩) 2 2, .slice (some ⟨V.heap.size + 1 + 1 + 1, 0, none⟩) 2 2] 22)).alloc (Obj.cells #[Value.int .i64 5, .int .i64 0, .int .i64 0, .int .i64 0, .int .i64 1, .int .i64 0, .int .i64 0, .int .i64 3, .bool false, .bool false, .int .i64 0, .int .i64 (-1)] 38)).heap[r]? = some (boxO 0 (.slice none 0 0) (.slice none 0 0) (.slice none 0 0) (.slice none 0 0)) := hblk_alloc (hblk_alloc (hblk_alloc (hblk_alloc (hblk_alloc (hblk_alloc bV _) _) _) _) _) _
  have hBU : Below V.heap.size V ((((((V.alloc (Obj.cells #[Value.int .i64 1, .int .i64 0, .int .i64 0, .int .i64 3, .int .i64 0, .int .i64 1] 62)).alloc (Obj.cells #[Value.int .i64 0, .int .i64 1] 3)).alloc (Obj.cells #[Value.int .i64 1, .int .i64 1] 3)).alloc (Obj.cells #[Value.int .i64 0, .int .i64 0] 3)).alloc (Obj.cells #[Value.slice (some ⟨V.heap.size + 1 + 1, 0, none⟩) 2 2, .slice (some ⟨V.heap.size + 1 + 1 + 1, 0, none⟩) 2 2] 22)).alloc (Obj.cells #[Value.int .i64 5, .int .i64 0, .int .i64 0, .int .i64 0, .int .i64 1, .int .i64 0, .int .i64 0, .int .i64 3, .bool false, .bool false, .int .i64 0, .int .i64 (-1)] 38)) := bal (bal (bal (bal (bal (bal0 V _) (Nat.le_refl _) _) (Nat.le_refl _) _) (Nat.le_refl _) _) (Nat.le_refl _) _) (Nat.le_refl _) _
  have o0 : OwnM (V.alloc (Obj.cells #[Value.int .i64 1, .int .i64 0, .int .i64 0, .int .i64 3, .int .i64 0, .int .i64 1] 62)) (r + 1) (.slice (some ⟨V.heap.size, 0, none⟩) 2 2) pnM := Own.lit V (r + 1) _ pnM rfl lenMk (by omega) (by simp [maxLen])
  have o1 := (Own.lit (enc := eInt) (e := 3) (V.alloc (Obj.cells #[Value.int .i64 1, .int .i64 0, .int .i64 0, .int .i64 3, .int .i64 0, .int .i64 1] 62)) (r + 1) #[Value.int .i64 0, .int .i64 1] [0, 1] rfl lenInt (by simp; omega) (by simp [maxLen]))
  have o2 := (Own.lit (enc := eInt) (e := 3) ((V.alloc (Obj.cells #[Value.int .i64 1, .int .i64 0, .int .i64 0, .int .i64 3, .int .i64 0, .int .i64 1] 62)).alloc (Obj.cells #[Value.int .i64 0, .int .i64 1] 3)) (r + 1) #[Value.int .i64 1, .int .i64 1] [1, 1] rfl lenInt (by simp; omega) (by simp [maxLen]))
  have o3 := (Own.lit (enc := eInt) (e := 3) (((V.alloc (Obj.cells #[Value.int .i64 1, .int .i64 0, .int .i64 0, .int .i64 3, .int .i64 0, .int .i64 1] 62)).alloc (Obj.cells #[Value.int .i64 0, .int .i64 1] 3)).alloc (Obj.cells #[Value.int .i64 1, .int .i64 1] 3)) (r + 1) #[Value.int .i64 0, .int .i64 0] [0, 0] rfl lenInt (by simp; omega) (by simp [maxLen]))
  have o4 := OwnG.lit2 (o2.alloc _) o3 (by simp; omega)
  have o5 := (Own.lit (enc := eDe) (e := 38) (((((V.alloc (Obj.cells #[Value.int .i64 1, .int .i64 0, .int .i64 0, .int .i64 3, .int .i64 0, .int .i64 1] 62)).alloc (Obj.cells #[Value.int .i64 0, .int .i64 1] 3)).alloc (Obj.cells #[Value.int .i64 1, .int .i64 1] 3)).alloc (Obj.cells #[Value.int .i64 0, .int .i64 0] 3)).alloc (Obj.cells #[Value.slice (some ⟨V.heap.size + 1 + 1, 0, none⟩) 2 2, .slice (some ⟨V.heap.size + 1 + 1 + 1, 0, none⟩) 2 2] 22)) (r + 1) #[.int .i64 5, .int .i64 0, .int .i64 0, .int .i64 0, .int .i64 1, .int .i64 0, .int .i64 0, .int .i64 3, .bool false, .bool false, .int .i64 0, .int .i64 (-1)] pnDs rfl lenDe (by simp; omega) (by simp [maxLen]))
  obtain ⟨z0, z1, z2, z3, z4⟩ := blk5 bU
  obtain ⟨f0, f1, f2, f3, f4⟩ := And.intro (frz bU 0) (And.intro (frz bU 1) (And.intro (frz bU 2) (And.intro (frz bU 3) (frz bU 4))))
  have hHB : HB9 r _ := ⟨_, _, _, _, _, bU⟩
  simp only [World.size_alloc, List.length_cons, List.length_nil] at o1 o2 o3 o4 o5
  have hG := fun W hW => G9.put (W := W) hHB (((((o0.alloc _).alloc _).alloc _).alloc _).alloc _) ((((o1.alloc _).alloc _).alloc _).alloc _) (OwnG.below o4 (bal0 _ _) (Nat.le_refl _)) o5 hW
  have HG := Lib.hid hG
  have HBU := Lib.hid hBU
  clear bU hBU o0 o1 o2 o3 o4 o5 hHB hG
  have HV := Lib.hid (And.intro bV (And.intro hBV (And.intro hzV hr)))
  go_enter Try.func68, Try.ntmps68
  go_upto_region 1 with (fail)
  rw [← hV]
  rw [← hr]
  clear hV hr hzV bV hBV
  go_wp2_with fail
  obtain ⟨Z, hZ⟩ : ∃ Z, Z = (((((((((((V.alloc (Obj.cells #[Value.int .i64 1, .int .i64 0, .int .i64 0, .int .i64 3, .int .i64 0, .int .i64 1] 62)).alloc (Obj.cells #[Value.int .i64 0, .int .i64 1] 3)).alloc (Obj.cells #[Value.int .i64 1, .int .i64 1] 3)).alloc (Obj.cells #[Value.int .i64 0, .int .i64 0] 3)).alloc (Obj.cells #[Value.slice (some ⟨V.heap.size + 1 + 1, 0, none⟩) 2 2, .slice (some ⟨V.heap.size + 1 + 1 + 1, 0, none⟩) 2 2] 22)).alloc (Obj.cells #[Value.int .i64 5, .int .i64 0, .int .i64 0, .int .i64 0, .int .i64 1, .int .i64 0, .int .i64 0, .int .i64 3, .bool false, .bool false, .int .i64 0, .int .i64 (-1)] 38)).setCell ⟨r, 0, none⟩ (.int .i64 1)).setCell ⟨r, 1, none⟩ (.slice (some ⟨V.heap.size, 0, none⟩) 2 2)).setCell ⟨r, 2, none⟩ (.slice (some ⟨V.heap.size + 1, 0, none⟩) 2 2)).setCell ⟨r, 3, none⟩ (.slice (some ⟨V.heap.size + 1 + 1 + 1 + 1, 0, none⟩) 2 2)).setCell ⟨r, 4, none⟩ (.slice (some ⟨V.heap.size + 1 + 1 + 1 + 1 + 1, 0, none⟩) 1 1)) := ⟨_, rfl⟩
  rw [← hZ]
  obtain ⟨hT, vm, vk, vh, vd, hb, h1, h2, h3, h4⟩ := HG.out Z hZ
  clear hZ z0 z1 z2 z3 z4 f0 f1 f2 f3 f4
  obtain ⟨A, c, rfl, -⟩ := h1.form lenMk
  obtain ⟨Ak, ck, rfl, -⟩ := h2.form lenInt
  obtain ⟨Ah, ch, rfl, -⟩ := h3.form
  obtain ⟨Ad, cd, rfl, -⟩ := h4.form lenDe
  obtain ⟨p0, p1, p2, p3, p4⟩ := blk5 hb
  have hwr := HV.out.2.2.2
  have hB : Below w.heap.size w Z := by
    have h1 := HV.out
    have h5 : Below w.heap.size w _ := h1.2.1.trans (HBU.out.mono h1.2.1.size)
    exact h5.grown hT.1 h5.size (fun k e => by cases e; exact Nat.le_of_eq hwr.symm)
  refine bodyPost_ret (v := Hb.v ⟨1, A, c, pnM, Ak, ck, [0, 1], Ah, ch, pnHs, Ad, cd, pnDs⟩) (by simp [results, Try.f68, go_sem, p0, p1, p2, p3, p4]) rfl ⟨⟨A, c, Ak, ck, Ah, ch, Ad, cd, rfl, ?_⟩, hB⟩
  exact ⟨h1.mono (by omega), h2.mono (by omega), h3.mono (by omega), h4.mono (by omega)⟩

theorem pn_whose : whoseE ⟨1, none, 0, pnM, none, 0, [0, 1], none, 0, pnHs, none, 0, pnDs⟩ 0 = 0 ∧ whoseTo ⟨1, none, 0, pnM, none, 0, [0, 1], none, 0, pnHs, none, 0, pnDs⟩ 0 2 = [0, 1] := by decide +kernel
theorem pn_may : mayE 1 pnM ⟨3, false, false, 0, 1⟩ = 0 ∧ mayR 1 pnM ⟨3, false, false, 0, 1⟩ = [1] := by decide +kernel
theorem pn_home : homeE 1 pnM [⟨3, false, false, 0, -1⟩] [0, 1] = 0 ∧ homeL 1 pnM [⟨3, false, false, 0, -1⟩] [0, 1] = [1] := by decide +kernel
theorem pen_lit (w : World) : Calls Try.prog 68 #[] w fun e w' => (∃ A c Ak ck Ah ch Ad cd, e = .returned (.agg #[.int .i64 1, .slice A 2 c, .slice Ak 2 ck, .slice Ah 2 ch, .slice Ad 1 cd]) ∧ HbIn w' ⟨1, A, c, pnM, Ak, ck, [0, 1], Ah, ch, pnHs, Ad, cd, pnDs⟩) ∧ Below w.heap.size w w' :=
  (pen_any w).mono fun e w' ⟨⟨A, c, Ak, ck, Ah, ch, Ad, cd, h1, h2⟩, h3⟩ => ⟨⟨A, c, Ak, ck, Ah, ch, Ad, cd, h1, h2.inn⟩, h3⟩
theorem whosep_any (A Ak Ah Ad : Option Addr) (c ck ch cd : Nat) (w : World) (hi : HbIn w ⟨1, A, c, pnM, Ak, ck, [0, 1], Ah, ch, pnHs, Ad, cd, pnDs⟩) : Calls Try.prog 12 #[.agg #[.int .i64 1, .slice A 2 c, .slice Ak 2 ck, .slice Ah 2 ch, .slice Ad 1 cd], .int .i64 0] w fun e w' => (∃ B d, e = .returned (.tuple #[.slice B 2 d, .int .i64 0]) ∧ Ints w' B 2 [0, 1]) ∧ Below w.heap.size w w' := by
  have ht := Whose_any _ 0 w hi
  have he : whoseE ⟨1, A, c, pnM, Ak, ck, [0, 1], Ah, ch, pnHs, Ad, cd, pnDs⟩ 0 = 0 := pn_whose.1
  have hr : whoseR ⟨1, A, c, pnM, Ak, ck, [0, 1], Ah, ch, pnHs, Ad, cd, pnDs⟩ 0 = [0, 1] := by unfold whoseR; rw [if_pos he]; exact pn_whose.2
  unfold WhoseR at ht
  rw [he, hr] at ht
  refine ht.mono ?_
  rintro e w' ⟨⟨v, rfl, ho⟩, hb⟩
  obtain ⟨B, d, rfl, h1, -⟩ := ho.form lenInt
  exact ⟨⟨B, d, rfl, h1⟩, hb⟩
theorem mayp_any (A : Option Addr) (c : Nat) (w : World) (hl : Marks w A 2 pnM) (hc : 2 ≤ c ∧ c ≤ maxLen) : Calls Try.prog 13 #[.agg #[.int .i64 1, .slice A 2 c], .agg #[.int .i64 3, .bool false, .bool false, .int .i64 0, .int .i64 1]] w fun e w' => (∃ B d, e = .returned (.tuple #[.slice B 1 d, .int .i64 0]) ∧ Ints w' B 1 [1]) ∧ Below w.heap.size w w' := by
  have ht := May_any 1 A 2 c pnM ⟨3, false, false, 0, 1⟩ w hl hc.1 hc.2
  rw [pn_may.1, pn_may.2] at ht
  refine ht.mono ?_
  rintro e w' ⟨v, rfl, ho, hb⟩
  obtain ⟨B, d, rfl, h1, -⟩ := ho.form lenInt
  exact ⟨⟨B, d, rfl, h1⟩, hb⟩
theorem homep_any (A : Option Addr) (c : Nat) (B D : Option Addr) (w : World) (hl : Marks w A 2 pnM) (hc : 2 ≤ c ∧ c ≤ maxLen) (hs : Sights w B 1 [⟨3, false, false, 0, -1⟩]) (hm : Ints w D 2 [0, 1]) : Calls Try.prog 17 #[.agg #[.int .i64 1, .slice A 2 c], .slice B 1 1, .slice D 2 2] w fun e w' => (∃ B d, e = .returned (.tuple #[.slice B 1 d, .int .i64 0]) ∧ Ints w' B 1 [1]) ∧ Below w.heap.size w w' := by
  have ht := Home_any 1 A 2 c pnM B 1 1 [⟨3, false, false, 0, -1⟩] D 2 2 [0, 1] w hl hc.1 hc.2 hs (by simp [maxLen]) hm (by simp [maxLen])
  rw [pn_home.1, pn_home.2] at ht
  refine ht.mono ?_
  rintro e w' ⟨v, rfl, ho, hb⟩
  obtain ⟨B, d, rfl, h1, -⟩ := ho.form lenInt
  exact ⟨⟨B, d, rfl, h1⟩, hb⟩
theorem run_reg (t : Int) (A Ak Ah Ad : Option Addr) (n c nk ck nh ch nd cd : Nat) (w : World) :
    (Instr.field 29 (.agg #[.int .i64 t, .slice A n c, .slice Ak nk ck, .slice Ah nh ch, .slice Ad nd cd]) 0).run Try.prog w = .ok (.agg #[.int .i64 t, .slice A n c]) w := by kernel_rfl
theorem run_dds (t : Int) (A Ak Ah Ad : Option Addr) (n c nk ck nh ch nd cd : Nat) (w : World) :
    (Instr.field 29 (.agg #[.int .i64 t, .slice A n c, .slice Ak nk ck, .slice Ah nh ch, .slice Ad nd cd]) 3).run Try.prog w = .ok (.slice Ad nd cd) w := by kernel_rfl
set_option maxRecDepth 400000 in
set_option maxHeartbeats 4000000 in
theorem straysAwake_any (w : World) : Calls Try.prog 20 #[] w fun e w' => e = .returned (.bool true) ∧ Below w.heap.size w w' := by
  go_enter Try.func20, Try.ntmps20
  go_wp2_with fail
  with_reducible refine (pen_lit _).mono ?_
  rintro e v1 ⟨⟨A1, c1, Ak1, ck1, Ah1, ch1, Ad1, cd1, rfl, hi1⟩, hb1⟩
  have HB1 := Lib.hid hb1
  clear hb1
  have ht := whosep_any A1 Ak1 Ah1 Ad1 c1 ck1 ch1 cd1 v1 hi1
  clear hi1
  go_wp2_with fail
  with_reducible refine ht.mono ?_
  rintro e v2 ⟨⟨Aw, cw, rfl, ht2⟩, hb2⟩
  have HB2 := Lib.hid hb2
  have HT2 := Lib.hid ht2
  clear hb2 ht ht2
  go_wp2_with fail
  with_reducible refine (pen_lit _).mono ?_
  rintro e v3 ⟨⟨A3, c3, Ak3, ck3, Ah3, ch3, Ad3, cd3, rfl, hi3⟩, hb3⟩
  have HB3 := Lib.hid hb3
  clear hb3
  have rf3 := run_reg 1 A3 Ak3 Ah3 Ad3 2 c3 2 ck3 2 ch3 1 cd3 v3
  have ht := mayp_any A3 c3 v3 hi3.m ⟨hi3.mc, hi3.mm⟩
  clear hi3
  go_wp2_with fail
  with_reducible refine ht.mono ?_
  rintro e v4 ⟨⟨Am, cm, rfl, ht4⟩, hb4⟩
  have HB4 := Lib.hid hb4
  have HT4 := Lib.hid ht4
  clear hb4 ht ht4
  go_wp2_with fail
  with_reducible refine (pen_lit _).mono ?_
  rintro e v5 ⟨⟨A5, c5, Ak5, ck5, Ah5, ch5, Ad5, cd5, rfl, hi5⟩, hb5⟩
  have HB5 := Lib.hid hb5
  clear hb5
  have rf5 := run_reg 1 A5 Ak5 Ah5 Ad5 2 c5 2 ck5 2 ch5 1 cd5 v5
  have HI5 := Lib.hid hi5
  clear hi5
  go_wp2_with fail
  with_reducible refine (pen_lit _).mono ?_
  rintro e v7 ⟨⟨A7, c7, Ak7, ck7, Ah7, ch7, Ad7, cd7, rfl, hi7⟩, hb7⟩
  have HB7 := Lib.hid hb7
  clear hb7
  have rf7 := fun Ad => run_dds 1 A7 Ak7 Ah7 Ad 2 c7 2 ck7 2 ch7 1 cd7 v7
  obtain ⟨bd, od, d, rfl, hbl, hd, e0, e1, e2, e3, e4, e5, e6, e7, e8, e9, e10, e11⟩ := Deeds.get hi7.d (show 0 < 1 by decide)
  simp at hd
  subst hd
  dsimp only at e0 e1 e2 e3 e4 e5 e6 e7 e8 e9 e10 e11
  have hcd : 1 ≤ cd7 ∧ cd7 ≤ maxLen := ⟨hi7.dc, hi7.dm⟩
  have rf8 := rf7 (some ⟨bd, od, none⟩)
  clear rf7
  clear hi7
  go_wp2_with fail
  have hm5 : Marks v7 A5 2 pnM := (HI5.out.bH HB7).m
  have hss : Sights ((v7.alloc (Obj.cells #[Value.int .i64 3, .bool false, .bool false, .int .i64 0, .int .i64 (-1)] 36)).alloc (Obj.cells #[Value.int .i64 0, .int .i64 1] 3)) (some ⟨v7.heap.size, 0, none⟩) 1 [⟨3, false, false, 0, -1⟩] := (Sl.lit v7 36 #[Value.int .i64 3, .bool false, .bool false, .int .i64 0, .int .i64 (-1)] ([⟨3, false, false, 0, -1⟩] : List Sg) rfl lenSg (by simp [maxLen])).alloc _
  have hmi : Ints ((v7.alloc (Obj.cells #[Value.int .i64 3, .bool false, .bool false, .int .i64 0, .int .i64 (-1)] 36)).alloc (Obj.cells #[Value.int .i64 0, .int .i64 1] 3)) (some ⟨v7.heap.size + 1, 0, none⟩) 2 [0, 1] := by
    have h := ints2 (v7.alloc (Obj.cells #[Value.int .i64 3, .bool false, .bool false, .int .i64 0, .int .i64 (-1)] 36)) 3 0 1
    rwa [World.size_alloc] at h
  have hc5 : 2 ≤ c5 ∧ c5 ≤ maxLen := ⟨HI5.out.mc, HI5.out.mm⟩
  with_reducible refine (homep_any A5 c5 (some ⟨v7.heap.size, 0, none⟩) (some ⟨v7.heap.size + 1, 0, none⟩) _ ((hm5.alloc _).alloc _) hc5 hss hmi).mono ?_
  clear hss hmi hm5 hc5 e0 e1 e2 e3 e4 e5 e6 e7 e8 e9 e10 e11
  rintro e v8 ⟨⟨Ah, ch, rfl, ht8⟩, hb8⟩
  have HB8 := Lib.hid hb8
  have HT8 := Lib.hid ht8
  clear hb8 ht8
  go_wp2_with fail
  have hx : Ints (v8.alloc (Obj.cells #[Value.int .i64 0, .int .i64 1] 3)) Aw 2 [0, 1] := by
    repeat (first | (with_reducible refine Hid.out ?_; assumption) | (with_reducible refine Sl.alloc ?_ _) | (with_reducible refine Sl.bH ?_ (by assumption)))
  have hy : Ints (v8.alloc (Obj.cells #[Value.int .i64 0, .int .i64 1] 3)) (some ⟨v8.heap.size, 0, none⟩) 2 [0, 1] := Sl.lit v8 3 #[Value.int .i64 0, .int .i64 1] ([0, 1] : List Int) rfl lenInt (by simp [maxLen])
  with_reducible refine (sameInts_any Aw 2 cw [0, 1] (some ⟨v8.heap.size, 0, none⟩) 2 2 [0, 1] _ hx hy (by simp [maxLen]) (by simp [maxLen])).mono ?_
  clear hx hy
  rintro e v9 ⟨rfl, hb9⟩
  have HB9 := Lib.hid hb9
  clear hb9
  go_wp2_with fail
  have hx : Ints (v9.alloc (Obj.cells #[Value.int .i64 1] 3)) Am 1 [1] := by
    repeat (first | (with_reducible refine Hid.out ?_; assumption) | (with_reducible refine Sl.alloc ?_ _) | (with_reducible refine Sl.bH ?_ (by assumption)))
  have hy : Ints (v9.alloc (Obj.cells #[Value.int .i64 1] 3)) (some ⟨v9.heap.size, 0, none⟩) 1 [1] := Sl.lit v9 3 #[Value.int .i64 1] ([1] : List Int) rfl lenInt (by simp [maxLen])
  with_reducible refine (sameInts_any Am 1 cm [1] (some ⟨v9.heap.size, 0, none⟩) 1 1 [1] _ hx hy (by simp [maxLen]) (by simp [maxLen])).mono ?_
  clear hx hy
  rintro e v10 ⟨rfl, hb10⟩
  have HB10 := Lib.hid hb10
  clear hb10
  go_wp2_with fail
  have hx : Ints (v10.alloc (Obj.cells #[Value.int .i64 1] 3)) Ah 1 [1] := by
    repeat (first | (with_reducible refine Hid.out ?_; assumption) | (with_reducible refine Sl.alloc ?_ _) | (with_reducible refine Sl.bH ?_ (by assumption)))
  have hy : Ints (v10.alloc (Obj.cells #[Value.int .i64 1] 3)) (some ⟨v10.heap.size, 0, none⟩) 1 [1] := Sl.lit v10 3 #[Value.int .i64 1] ([1] : List Int) rfl lenInt (by simp [maxLen])
  with_reducible refine (sameInts_any Ah 1 ch [1] (some ⟨v10.heap.size, 0, none⟩) 1 1 [1] _ hx hy (by simp [maxLen]) (by simp [maxLen])).mono ?_
  clear hx hy
  rintro e v11 ⟨rfl, hb11⟩
  have HB11 := Lib.hid hb11
  clear hb11
  go_wp2_with fail
  go_ret
  refine ⟨rfl, ?_⟩
  repeat (first | exact Below.refl _ _ | (with_reducible refine belS ?_ (by assumption)) | (with_reducible refine bal ?_ (Nat.le_refl _) _))
end Go.Proofs.Ytmennjmjakdkcaa
