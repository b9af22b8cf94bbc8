/- mark.read: a register read from its text, or the panic at the first line that is not as said. -/
import Derived.Test.YtoidaigiejilcaaDoorMarkRd
import Derived.Test.YtoidaigiejilcaaDoorGrid
import Derived.Test.YtoidaigiejilcaaDoorWriteA
namespace Go.Proofs.YtoidaigiejilcaaDoor
open Go.RowKit
set_option linter.unusedVariables false
set_option linter.unusedSimpArgs false

theorem MarkOut.none_ {o : Option Mk} {e : Ending} (h : MarkOut o e) (ho : o = none) : ∃ m, e = .returned (.tuple #[vMk m, .bool false]) := by
  obtain ⟨m, he, hm⟩ := h
  rw [ho] at he
  exact ⟨m, he⟩
theorem MarkOut.some_ {o : Option Mk} {m : Mk} {e : Ending} (h : MarkOut o e) (ho : o = some m) : e = .returned (.tuple #[vMk m, .bool true]) := by
  obtain ⟨m', he, hm⟩ := h
  rw [hm m ho] at he
  rw [ho] at he
  exact he

def wrongV (n : Nat) : Value := .iface 69 (.agg #[.int .i64 n])
def RdOut (base : Nat) (o : Option Rd) (ln : Nat) (e : Ending) (w' : World) : Prop :=
  (o = none ∧ e = .panicked [{ v := wrongV ln, recovered := false }]) ∨
  ∃ st A c, o = some st ∧ e = .returned (.agg #[.int .i64 st.t, .slice A st.l.length c]) ∧ OwnM w' base (.slice A st.l.length c) st.l ∧ Marks w' A st.l.length st.l ∧ st.l.length ≤ c ∧ c ≤ maxLen

/-- the strings' block, and what it is cut from -/
structure Cutting (s : List UInt8) (ps : List ByteArray) : Prop where
  dat : ps.map (·.data.toList) = cutL 10 s
  pos : 0 < ps.length
theorem Cutting.len {s : List UInt8} {ps : List ByteArray} (h : Cutting s ps) : (cutL 10 s).length = ps.length := by rw [← h.dat, List.length_map]
theorem Cutting.at_ {s : List UInt8} {ps : List ByteArray} (h : Cutting s ps) {k : Nat} (hk : k < ps.length) : (cutL 10 s).getD k [] = (ps[k]'hk).data.toList := by
  rw [← h.dat, List.getD_eq_getElem?_getD, List.getElem?_map, List.getElem?_eq_getElem hk]; rfl
theorem Cutting.short {s : List UInt8} {ps : List ByteArray} (h : Cutting s ps) {k : Nat} (hk : k < ps.length) : (ps[k]'hk).size ≤ s.length := by
  rw [Lib.size_eq]
  apply cut_short 10 s
  rw [← h.dat]
  exact List.mem_map.2 ⟨_, List.getElem_mem hk, rfl⟩
/-- a line that is not as said -/
theorem bad_line {s : List UInt8} {ps : List ByteArray} (h : Cutting s ps) {k : Nat} {st : Rd} (hk : k + 1 < ps.length) (h1 : rdTo (cutL 10 s) k = some st) (h2 : rdStep k st (ps[k]'(by omega)).data.toList = none) : rdOk s = none ∧ rdLn s = k + 1 := by
  have hn : rdTo (cutL 10 s) (k + 1) = none := by unfold rdTo; rw [h1, h.at_ (by omega)]; exact h2
  have hl : rdTo (cutL 10 s) ((cutL 10 s).length - 1) = none := rdTo_none hn (by rw [h.len]; omega)
  unfold rdOk rdLn
  rw [hl]
  exact ⟨rfl, rdBad_first h1 hn _ (by rw [h.len]; omega)⟩
theorem next_line {s : List UInt8} {ps : List ByteArray} (h : Cutting s ps) {k : Nat} {st st' : Rd} (hk : k < ps.length) (h1 : rdTo (cutL 10 s) k = some st) (h2 : rdStep k st (ps[k]'hk).data.toList = some st') : rdTo (cutL 10 s) (k + 1) = some st' := by
  unfold rdTo; rw [h1, h.at_ hk]; exact h2
theorem last_bad {s : List UInt8} {ps : List ByteArray} (h : Cutting s ps) {st : Rd} (h1 : rdTo (cutL 10 s) (ps.length - 1) = some st) (h2 : st.e = false ∨ (ps[ps.length - 1]'(by have := h.pos; omega)).data.toList ≠ []) : rdOk s = none ∧ rdLn s = ps.length := by
  unfold rdOk rdLn
  rw [h.len, h1]
  refine ⟨?_, rfl⟩
  dsimp only
  rw [h.at_ (by have := h.pos; omega), if_pos h2]
theorem last_good {s : List UInt8} {ps : List ByteArray} (h : Cutting s ps) {st : Rd} (h1 : rdTo (cutL 10 s) (ps.length - 1) = some st) (h2 : st.e = true) (h3 : (ps[ps.length - 1]'(by have := h.pos; omega)).data.toList = []) : rdOk s = some st := by
  unfold rdOk
  rw [h.len, h1]
  dsimp only
  rw [h.at_ (by have := h.pos; omega), if_neg]
  rintro (h | h)
  · rw [h2] at h; cases h
  · exact h h3

theorem RdOut.bad {base : Nat} {s : List UInt8} {k : Nat} {w' : World} (h : rdOk s = none ∧ rdLn s = k + 1) :
    RdOut base (rdOk s) (rdLn s) (.panicked [{ v := .iface 69 (.agg #[.int .i64 ((k : Int) + 1)]), recovered := false }]) w' := .inl ⟨h.1, by rw [h.2]; rfl⟩

set_option maxRecDepth 100000 in
set_option maxHeartbeats 4000000 in
theorem read_any (s : ByteArray) (w : World) (hs : s.size ≤ 4294967280) :
    Calls Tryd.prog 30 #[.string s] w fun e w' => RdOut w.heap.size (rdOk s.data.toList) (rdLn s.data.toList) e w' ∧ Below w.heap.size w w' := by
  have hsp := fun w => YtoidaigiejilcaaDoor.split_at s 10 w (by omega)
  have hall := Lib.splitB_all ⟨#[10]⟩ (Nat.le_refl _) 0 _ s rfl
  have hdat : (Lib.splitB ⟨#[10]⟩ 0 (Lib.countB s ⟨#[10]⟩) s).map (·.data.toList) = cutL 10 s.data.toList := by rw [Lib.splitB_data]; exact split_cut 10 _
  generalize Lib.splitB ⟨#[10]⟩ 0 (Lib.countB s ⟨#[10]⟩) s = ps at hsp hall hdat
  rw [← hall] at hsp
  have hcu : Cutting s.data.toList ps := ⟨hdat, by omega⟩
  have hcl := cut_len 10 s.data.toList
  have hn : ps.length ≤ 4294967281 := by have := hcu.len; have := Lib.size_eq s; omega
  obtain ⟨n, hnp⟩ : ∃ n, ps.length = n + 1 := ⟨ps.length - 1, by have := hcu.pos; omega⟩
  rw [hnp] at hsp hn
  have HCU := Lib.hid (And.intro hcu (And.intro hnp hs))
  clear hall hdat hcu hcl hnp hs
  have k0 : ¬ ((n : Int) + 1 - 1 < 0) := by omega
  have k1 : ((n : Int) + 1 - 1) ≤ (n : Int) + 1 := by omega
  have k2 : wrap64 ((n : Int) + 1 - 1) = n := by rw [IntWalk.wrap64_in _ (by omega)]; omega
  go_enter Tryd.func30, Tryd.ntmps30
  go_wp2_with (first | (go_at_call 55; refine (hsp _).mono ?_; rintro e w' ⟨rfl, rfl⟩))
  obtain ⟨W, hW⟩ : ∃ W, W = (w.alloc (Obj.cells #[Value.int .i64 0, Value.slice none 0 0] 26)).alloc (Obj.cells (List.map Value.string ps).toArray 9) := ⟨_, rfl⟩
  have b0 : W.heap[w.heap.size]? = some (Obj.cells #[Value.int .i64 0, Value.slice none 0 0] 26 (0, 0)) := by rw [hW]; exact hblk_alloc (alloc_at rfl) _
  have b1 : W.heap[w.heap.size + 1]? = some (Obj.cells (List.map Value.string ps).toArray 9 (0, 0)) := by rw [hW]; exact alloc_at (by simp)
  have hBW : Below w.heap.size w W := by rw [hW]; exact bal (bal0 w _) (Nat.le_refl _) _
  have hsz : W.heap.size = w.heap.size + 2 := by rw [hW]; simp
  rw [← hW]
  clear hW hsp
  obtain ⟨r0, hr0⟩ : ∃ r, r = w.heap.size := ⟨_, rfl⟩
  have HR0 := Lib.hid (And.intro hr0 (And.intro hBW hsz))
  rw [← hr0] at b0 b1 ⊢
  have HB := Lib.hid (And.intro b0 b1)
  clear hr0 hBW hsz b0 b1 k0 k1 k2
  go_loopg [4, 17] n (fun g en i wr => ∃ (k : Nat) (st : Rd) (v : Value), k + g = n ∧ i = .int .i64 k ∧ en = .bool st.e ∧ rdTo (cutL 10 s.data.toList) k = some st ∧ st.l.length ≤ k ∧ wr.heap[r0]? = some (Obj.cells #[Value.int .i64 st.t, v] 26 (0, 0)) ∧ OwnM wr (r0 + 2) v st.l ∧ wr.heap[r0 + 1]? = some (Obj.cells (List.map Value.string ps).toArray 9 (0, 0)) ∧ Below r0 w wr)
  case atStart => exact ⟨0, ⟨0, [], false⟩, _, by omega, rfl, rfl, rfl, Nat.le_refl _, HB.out.1, Own.nil_, HB.out.2, by rw [HR0.out.1]; exact HR0.out.2.1⟩
  case round =>
    obtain ⟨k, st, v, hk, rfl, rfl, hrd, hlk, hr, hown, hps, hB⟩ := hrel
    have HK := Lib.hid (And.intro hk hlk)
    obtain ⟨A, c, rfl, hsl, hlc, hcm⟩ := hown.form lenMk
    have HX := Lib.hid (And.intro hrd (And.intro hr (And.intro hown (And.intro hps hB))))
    have HSL := Lib.hid (And.intro hsl (And.intro hlc hcm))
    obtain ⟨q0, q1⟩ := blk2 hr
    obtain ⟨f0, f1⟩ := And.intro (frz hr 0) (frz hr 1)
    have gr := heap_lt hr
    clear hrd hlk hr hown hB hsl hlc hcm
    by_cases hlt : k < n
    · have hkp : k < ps.length := by have := HCU.out.2.1; omega
      obtain ⟨line, hline⟩ : ∃ x, x = ps[k]'hkp := ⟨_, rfl⟩
      have hcell : wr.cell? ⟨r0 + 1, k, none⟩ = some (.string line) := by rw [blk4f hps]; simp [hkp, hline]
      have HLI := Lib.hid (⟨hkp, hline⟩ : ∃ h : k < ps.length, line = ps[k]'h)
      have hls : line.size < 4294967281 := by rw [hline]; have := HCU.out.1.short hkp; have := HCU.out.2.2; have := Lib.size_eq s; omega
      have i0 : (0 : Int) ≤ (k : Int) := by omega
      have i1 : (k : Int) < (n : Int) := by omega
      have i2 : wrap64 ((k : Int) + 1) = (k : Int) + 1 := IntWalk.wrap64_in _ (by omega)
      clear hkp hline hps hk
      obtain ⟨t, l, en⟩ := st
      cases en with
      | true =>
        have hbad := bad_line HCU.out.1 (k := k) (st := ⟨t, l, true⟩) (by have := HCU.out.2.1; omega) HX.out.1 rfl
        have HBD := Lib.hid hbad
        clear hbad
        go_wp2
        exact ⟨rfl, RdOut.bad HBD.out, by rw [← HR0.out.1]; exact HX.out.2.2.2.2⟩
      | false =>
        by_cases hk0 : k = 0
        · have hkind : kindI line k = 0 := by unfold kindI; rw [if_pos hk0]
          obtain ⟨lv, hlv⟩ : ∃ x, x = loneL line.data.toList tearsL := ⟨_, rfl⟩
          have HLV := Lib.hid (And.intro hlv hk0)
          by_cases hneg : lv < 0
          · have hbad := bad_line HCU.out.1 (k := k) (st := ⟨t, l, false⟩) (by have := HCU.out.2.1; omega) HX.out.1 (by
              obtain ⟨hkp, hl⟩ := HLI.out
              rw [← hl]
              unfold rdStep
              rw [if_neg (by simp), if_pos hk0, ← hlv, if_neg (by omega)])
            have HBD := Lib.hid hbad
            clear hbad hk0 hlv
            go_wp2_with (first
              | (go_at_call 56; refine (kind_any line k _).mono ?_; rintro e w' ⟨rfl, hw⟩; rw [hw, hkind]; clear hw)
              | (go_at_call 57; refine (lone_any line ⟨#[116, 101, 97, 114, 115, 32]⟩ _).mono ?_; rintro e w' ⟨rfl, hw⟩; rw [hw]; clear hw; rw [show loneL line.data.toList (⟨#[116, 101, 97, 114, 115, 32]⟩ : ByteArray).data.toList = lv from HLV.out.1.symm]))
            exact ⟨rfl, RdOut.bad HBD.out, by rw [← HR0.out.1]; exact Below.setCell HX.out.2.2.2.2 (p := ⟨r0, 0, none⟩) (Nat.le_refl _) _⟩
          · have hnext := next_line HCU.out.1 (k := k) (st := ⟨t, l, false⟩) (st' := ⟨lv, l, false⟩) (by have := HCU.out.2.1; omega) HX.out.1 (by
              obtain ⟨hkp, hl⟩ := HLI.out
              rw [← hl]
              unfold rdStep
              rw [if_neg (by simp), if_pos hk0, ← hlv, if_pos (by omega)])
            have HBD := Lib.hid hnext
            clear hnext hk0 hlv
            go_wp2_with (first
              | (go_at_call 56; refine (kind_any line k _).mono ?_; rintro e w' ⟨rfl, hw⟩; rw [hw, hkind]; clear hw)
              | (go_at_call 57; refine (lone_any line ⟨#[116, 101, 97, 114, 115, 32]⟩ _).mono ?_; rintro e w' ⟨rfl, hw⟩; rw [hw]; clear hw; rw [show loneL line.data.toList (⟨#[116, 101, 97, 114, 115, 32]⟩ : ByteArray).data.toList = lv from HLV.out.1.symm]))
            have hfar : ∀ j, j ≠ r0 → (wr.setCell ⟨r0, 0, none⟩ (.int .i64 lv)).heap[j]? = wr.heap[j]? := fun j hj => Below.heap_setCell _ ⟨r0, 0, none⟩ _ _ hj
            go_roundg (gk - 1)
            case measure => have := HK.out.1; omega
            case rel => exact ⟨k + 1, ⟨lv, l, false⟩, _, by have := HK.out.1; omega, by go_num, rfl, HBD.out, by have := HK.out.2; dsimp at this ⊢; omega, set_blk HX.out.2.1, HX.out.2.2.1.upon (fun j hj => hfar j (by omega)), (hfar _ (by omega)).trans HX.out.2.2.2.1, Below.setCell HX.out.2.2.2.2 (p := ⟨r0, 0, none⟩) (Nat.le_refl _) _⟩
        · by_cases hend : line.data.toList = endL
          · have hkind : kindI line k = 2 := by unfold kindI; rw [if_neg hk0, if_pos hend]
            have hnext := next_line HCU.out.1 (k := k) (st := ⟨t, l, false⟩) (st' := ⟨t, l, true⟩) (by have := HCU.out.2.1; omega) HX.out.1 (by
              obtain ⟨hkp, hl⟩ := HLI.out
              rw [← hl]
              unfold rdStep
              rw [if_neg (by simp), if_neg hk0, if_pos hend])
            have HBD := Lib.hid hnext
            clear hnext hk0 hend
            go_wp2_with (first
              | (go_at_call 56; refine (kind_any line k _).mono ?_; rintro e w' ⟨rfl, hw⟩; rw [hw, hkind]; clear hw))
            go_roundg (gk - 1)
            case measure => have := HK.out.1; omega
            case rel => exact ⟨k + 1, ⟨t, l, true⟩, _, by have := HK.out.1; omega, by go_num, rfl, HBD.out, by have := HK.out.2; dsimp at this ⊢; omega, HX.out.2.1, HX.out.2.2.1, HX.out.2.2.2.1, HX.out.2.2.2.2⟩
          · have hkind : kindI line k = 1 := by unfold kindI; rw [if_neg hk0, if_neg hend]
            cases hmk : markL line.data.toList with
            | none =>
              have hbad := bad_line HCU.out.1 (k := k) (st := ⟨t, l, false⟩) (by have := HCU.out.2.1; omega) HX.out.1 (by
                obtain ⟨hkp, hl⟩ := HLI.out
                rw [← hl]
                unfold rdStep
                rw [if_neg (by simp), if_neg hk0, if_neg hend, hmk])
              have HBD := Lib.hid (And.intro hbad hmk)
              clear hbad hk0 hend hmk
              go_wp2_with (first
                | (go_at_call 56; refine (kind_any line k _).mono ?_; rintro e w' ⟨rfl, hw⟩; rw [hw, hkind]; clear hw)
                | (go_at_call 58; refine (mark_any line _ hls).mono ?_; rintro e w3 ⟨ho, hb3⟩; obtain ⟨m, rfl⟩ := MarkOut.none_ ho HBD.out.2; have HB3 := Lib.hid hb3; clear ho hb3; unfold vMk))
              exact ⟨rfl, RdOut.bad HBD.out.1, by rw [← HR0.out.1]; exact bal (HX.out.2.2.2.2.trans (HB3.out.mono (Nat.le_of_lt gr))) (by rw [HR0.out.1]; exact Nat.le_refl _) _⟩
            | some m =>
              have hnext := next_line HCU.out.1 (k := k) (st := ⟨t, l, false⟩) (st' := ⟨t, l ++ [m], false⟩) (by have := HCU.out.2.1; omega) HX.out.1 (by
                obtain ⟨hkp, hl⟩ := HLI.out
                rw [← hl]
                unfold rdStep
                rw [if_neg (by simp), if_neg hk0, if_neg hend, hmk])
              have HBD := Lib.hid (And.intro hnext hmk)
              clear hnext hk0 hend hmk
              go_upto_region 15 with (first
                | (go_at_call 56; refine (kind_any line k _).mono ?_; rintro e w' ⟨rfl, hw⟩; rw [hw, hkind]; clear hw)
                | (go_at_call 58; refine (mark_any line _ hls).mono ?_; rintro e w3 ⟨ho, hb3⟩; obtain rfl := MarkOut.some_ ho HBD.out.2; have HB3 := Lib.hid hb3; clear ho hb3; unfold vMk))
              obtain ⟨W3, hW⟩ : ∃ W3, W3 = w3.alloc (Obj.cells #[Value.int .i64 m.n, .int .i64 m.b, .int .i64 m.p] 52) := ⟨_, rfl⟩
              have hb3 : Below wr.heap.size wr W3 := by rw [hW]; exact bal HB3.out (Nat.le_refl _) _
              have bm3 : W3.heap[w3.heap.size]? = some (Obj.cells #[Value.int .i64 m.n, .int .i64 m.b, .int .i64 m.p] 52 (0, 0)) := by rw [hW]; exact alloc_at rfl
              rw [← hW]
              clear hW
              have bq4 := bheap HX.out.2.1 hb3 (Nat.le_refl _)
              have bp4 := bheap HX.out.2.2.2.1 hb3 (Nat.le_refl _)
              have hown4 := HX.out.2.2.1.below hb3 (Nat.le_refl _)
              have hB4 := HX.out.2.2.2.2.trans (hb3.mono (Nat.le_of_lt gr))
              have hz4 := hb3.size
              have hps2 : r0 + 1 < wr.heap.size := heap_lt HX.out.2.2.2.1
              have hll : l.length < 4294967296 := by have h1 := HK.out.1; have h2 : l.length ≤ k := HK.out.2; omega
              have HO := Lib.hid (And.intro hown4 (And.intro hB4 (And.intro bq4 (And.intro bp4 hz4))))
              clear hown4 hB4 hb3 bp4 f0 f1 q0 q1
              obtain ⟨q0, q1⟩ := blk2 bq4
              obtain ⟨m0, m1, m2⟩ := blk3 bm3
              have gM := heap_lt bm3
              clear bq4 bm3
              go_wp2_with (at_builtin; refine wp_appx okMark rfl (.tmp 56) (.tmp 58) rfl (r0 + 2) (Value.slice A l.length c) l m _ rfl rfl rfl rfl (one_eMk _) HO.out.1 hll ?_ ?_ ?_; (omega); (omega); intro g5 c5 w5 hown5 hgr5 hb5; have bq5 := (hgr5.block _ (heap_lt HO.out.2.2.1) (fun e => by have := HO.out.1.lt _ e.symm; omega)).trans HO.out.2.2.1; have q5 := (blk2 bq5).2; have f5 := frz bq5 1; have H5 := Lib.hid (And.intro hown5 (And.intro hgr5 (And.intro hb5 bq5))); clear hown5 hgr5 hb5 bq5)
              obtain ⟨hown5, hgr5, hb5, bq5⟩ := H5.out
              have hfar : ∀ j, j ≠ r0 → (w5.setCell ⟨r0, 1, none⟩ (.slice (some ⟨g5, 0, none⟩) (l.length + 1) c5)).heap[j]? = w5.heap[j]? := fun j hj => Below.heap_setCell _ ⟨r0, 1, none⟩ _ _ hj
              have hp5 := (hgr5.block _ (heap_lt HO.out.2.2.2.1) (fun e => by have := HO.out.1.lt _ e.symm; omega)).trans HO.out.2.2.2.1
              go_roundg (gk - 1)
              case measure => have := HK.out.1; omega
              case rel => exact ⟨k + 1, ⟨t, l ++ [m], false⟩, _, by have := HK.out.1; omega, by go_num, rfl, HBD.out.1, by have := HK.out.2; simp at this ⊢; omega, set2_1 bq5, hown5.upon (fun j hj => hfar j (by omega)), (hfar _ (by omega)).trans hp5, Below.setCell (HO.out.2.1.trans (hb5.mono (by omega))) (p := ⟨r0, 1, none⟩) (Nat.le_refl _) _⟩
    · obtain rfl : k = n := by omega
      have hkp : k < ps.length := by have := HCU.out.2.1; omega
      obtain ⟨line, hline⟩ : ∃ x, x = ps[k]'hkp := ⟨_, rfl⟩
      have hcell : wr.cell? ⟨r0 + 1, k, none⟩ = some (.string line) := by rw [blk4f hps]; simp [hkp, hline]
      have HLI := Lib.hid (⟨hkp, hline⟩ : ∃ h : k < ps.length, line = ps[k]'h)
      have i2 : wrap64 ((k : Int) + 1 - 1) = k := by rw [IntWalk.wrap64_in _ (by omega)]; omega
      have i3 : (0 : Int) ≤ (k : Int) := by omega
      have hl0 : line.toList = [] ↔ line.data.toList = [] := by rw [Lib.toList_data]
      clear hkp hline hps hk
      obtain ⟨t, l, en⟩ := st
      cases en with
      | false =>
        have hbad := last_bad HCU.out.1 (st := ⟨t, l, false⟩) (by have := HCU.out.2.1; rw [this]; exact HX.out.1) (.inl rfl)
        have HBD := Lib.hid hbad
        clear hbad
        go_wp2
        exact ⟨rfl, RdOut.bad ⟨HBD.out.1, HBD.out.2.trans HCU.out.2.1⟩, by rw [← HR0.out.1]; exact HX.out.2.2.2.2⟩
      | true =>
        cases hE : line.toList.isEmpty with
        | false =>
          have hbad := last_bad HCU.out.1 (st := ⟨t, l, true⟩) (by have := HCU.out.2.1; rw [this]; exact HX.out.1) (.inr (by
            obtain ⟨hkp, hl⟩ := HLI.out
            have e : ps[ps.length - 1]'(by omega) = line := by rw [hl]; congr 1; have := HCU.out.2.1; omega
            rw [e]
            intro h
            rw [hl0.2 h] at hE
            cases hE))
          have HBD := Lib.hid hbad
          clear hbad hl0
          go_wp2
          exact ⟨rfl, RdOut.bad ⟨HBD.out.1, HBD.out.2.trans HCU.out.2.1⟩, by rw [← HR0.out.1]; exact HX.out.2.2.2.2⟩
        | true =>
          have hgood := last_good HCU.out.1 (st := ⟨t, l, true⟩) (by have := HCU.out.2.1; rw [this]; exact HX.out.1) rfl (by
            obtain ⟨hkp, hl⟩ := HLI.out
            have e : ps[ps.length - 1]'(by omega) = line := by rw [hl]; congr 1; have := HCU.out.2.1; omega
            rw [e]
            exact hl0.1 (List.isEmpty_iff.1 hE))
          have HBD := Lib.hid hgood
          clear hgood hl0
          go_wp2
          have hz : ((wr.setCell ⟨r0, 0, none⟩ (.int .i64 t)).setCell ⟨r0, 1, none⟩ (.slice A l.length c)).heap[r0]? = some (Obj.cells #[Value.int .i64 t, .slice A l.length c] 26 (0, 0)) := set_blk (set_blk HX.out.2.1)
          have hfar : ∀ j, j ≠ r0 → ((wr.setCell ⟨r0, 0, none⟩ (.int .i64 t)).setCell ⟨r0, 1, none⟩ (.slice A l.length c)).heap[j]? = wr.heap[j]? := fun j hj => (Below.heap_setCell _ ⟨r0, 1, none⟩ _ _ hj).trans (Below.heap_setCell _ ⟨r0, 0, none⟩ _ _ hj)
          have hown5 := HX.out.2.2.1.upon (w' := (wr.setCell ⟨r0, 0, none⟩ (.int .i64 t)).setCell ⟨r0, 1, none⟩ (.slice A l.length c)) (fun j hj => hfar j (by omega))
          have hB5 : Below r0 w ((wr.setCell ⟨r0, 0, none⟩ (.int .i64 t)).setCell ⟨r0, 1, none⟩ (.slice A l.length c)) := Below.setCell (Below.setCell HX.out.2.2.2.2 (p := ⟨r0, 0, none⟩) (Nat.le_refl _) _) (p := ⟨r0, 1, none⟩) (Nat.le_refl _) _
          have HZ := Lib.hid (And.intro hown5 hB5)
          generalize (wr.setCell ⟨r0, 0, none⟩ (.int .i64 t)).setCell ⟨r0, 1, none⟩ (.slice A l.length c) = Z at hz HZ ⊢
          clear hown5 hB5 hfar q0 q1 f0 f1
          obtain ⟨q0, q1⟩ := blk2 hz
          exact bodyPost_ret (v := .agg #[.int .i64 t, .slice A l.length c]) (by simp [results, Tryd.f30, go_sem, q0, q1]) rfl ⟨.inr ⟨⟨t, l, true⟩, A, c, HBD.out, rfl, HZ.out.1.mono (by have := HR0.out.1; omega), (HZ.out.1.sl lenMk).1, HSL.out.2.1, HSL.out.2.2⟩, by rw [← HR0.out.1]; exact HZ.out.2⟩
end Go.Proofs.YtoidaigiejilcaaDoor
