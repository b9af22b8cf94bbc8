/- mark.mark: the mark that a line is. -/
import Derived.Test.YtoidaigiejilcaaDoorLone
import Derived.Test.YtoidaigiejilcaaDoorRegs
import Derived.Laws.IdiomStrings
namespace Go.Proofs.YtoidaigiejilcaaDoor
open Go.RowKit
set_option linter.unusedVariables false
set_option linter.unusedSimpArgs false

theorem or_i64 (a : Int) (k : Nat) (h0 : 0 ≤ a) (h1 : a < 2 ^ k) (hk : k ≤ 7) : bits BinOp.or IntKind.i64 a (2 ^ k) = a + 2 ^ k := by
  obtain ⟨n, rfl⟩ := Int.eq_ofNat_of_zero_le h0
  have e2 : ((2 : Int) ^ k) = ((2 ^ k : Nat) : Int) := by simp
  rw [e2] at h1 ⊢
  have hp : 2 ^ k ≤ 2 ^ 7 := Nat.pow_le_pow_right (by decide) hk
  have hp' : (2 : Nat) ^ 7 = 128 := rfl
  show IntKind.i64.wrap ((BitVec.ofInt 64 (n : Int) ||| BitVec.ofInt 64 ((2 ^ k : Nat) : Int)).toNat : Int) = _
  have hor : n ||| 2 ^ k = n + 2 ^ k := by
    have h := Nat.two_pow_add_eq_or_of_lt (b := n) (i := k) (by omega) 1
    rw [Nat.mul_one] at h
    rw [Nat.or_comm, ← h]; omega
  rw [BitVec.toNat_or, ofInt_u64 _ (by omega), ofInt_u64 _ (by omega), hor, IntWalk.i64_in _ (by omega)]
  omega

theorem plNum_rg (l : List UInt8) : ∀ k, 0 ≤ plNum l k ∧ plNum l k < 2 ^ k
  | 0 => ⟨by simp [plNum], by simp [plNum]⟩
  | k + 1 => by
    have ih := plNum_rg l k
    have h2 : (2 : Int) ^ (k + 1) = 2 ^ k + 2 ^ k := by rw [Int.pow_succ]; omega
    unfold plNum; split <;> omega
def MarkOut (o : Option Mk) (e : Ending) : Prop := ∃ m : Mk, e = .returned (.tuple #[vMk m, .bool o.isSome]) ∧ ∀ m', o = some m' → m = m'
theorem MarkOut.no {o : Option Mk} (m : Mk) (h : o = none) : MarkOut o (.returned (.tuple #[vMk m, .bool false])) := ⟨m, by rw [h]; rfl, fun m' e => by rw [h] at e; cases e⟩
theorem MarkOut.yes {o : Option Mk} {m : Mk} (h : o = some m) : MarkOut o (.returned (.tuple #[vMk m, .bool true])) := ⟨m, by rw [h]; rfl, fun m' e => by rw [h] at e; injection e⟩

theorem markW_len {w : List (List UInt8)} (h : w.length ≠ 3) : markW w = none := by unfold markW; rw [if_neg (fun hh => h hh.1)]
theorem markW_nine {x y z : List UInt8} (h : x.length ≠ 9) : markW [x, y, z] = none := by unfold markW; rw [if_neg (fun hh => h hh.2.1)]
theorem markW_bar {x y z : List UInt8} (h : x.getD 4 0 ≠ 47) : markW [x, y, z] = none := by unfold markW; rw [if_neg (fun hh => h hh.2.2.1)]
theorem markW_pl {x y z : List UInt8} (h : (plsOf x).all isPl = false) : markW [x, y, z] = none := by unfold markW; rw [if_neg (fun hh => by have := hh.2.2.2.1; rw [show [x, y, z].getD 0 [] = x from rfl, h] at this; cases this)]
theorem markW_yes {x y z : List UInt8} (h9 : x.length = 9) (h4 : x.getD 4 0 = 47) (hp : (plsOf x).all isPl = true) :
    markW [x, y, z] = if 0 ≤ loneL y [98] ∧ 0 ≤ loneL z [112] then some ⟨plNum (plsOf x) 8, loneL y [98], loneL z [112]⟩ else none := by
  unfold markW
  by_cases h : 0 ≤ loneL y [98] ∧ 0 ≤ loneL z [112]
  · rw [if_pos h, if_pos ⟨rfl, h9, h4, hp, h.1, h.2⟩]; rfl
  · rw [if_neg h, if_neg (fun hh => h ⟨hh.2.2.2.2.1, hh.2.2.2.2.2⟩)]

/-- a slice of bytes in a block of its own, that reads s -/
def BytesF (B : Nat) (s : ByteArray) : VF := fun v w => ∃ b cap, v = .slice (some ⟨b, 0, none⟩) 8 cap ∧ B ≤ b ∧ b < w.heap.size ∧ 8 ≤ cap ∧ ∀ j (hj : j < s.data.size), w.cell? ⟨b, j, none⟩ = some (.int .u8 ((s.data[j]'hj).toNat : Int))
theorem BytesF.st {B : Nat} {s : ByteArray} : ∀ n v w w', TB n w w' → BytesF B s v w → BytesF B s v w' := fun n v w w' h ⟨b, cap, hv, hb, hlt, hc, hj⟩ =>
  ⟨b, cap, hv, hb, by have := Below.size h; omega, hc, fun j hj' => bcell (hj j hj') h (Nat.le_refl _)⟩

theorem plSet {w : World} {M : Nat} {pl : List UInt8} {k : Nat} {bv pv : Int} (hm : w.heap[M]? = some (mkObj ⟨plNum pl k, bv, pv⟩)) (h : pl.getD k 0 = 120) (hk : k ≤ 7) :
    (w.setCell ⟨M, 0, none⟩ (.int .i64 (bits BinOp.or IntKind.i64 (plNum pl k) (wrap64 (2 ^ k))))).heap[M]? = some (mkObj ⟨plNum pl (k + 1), bv, pv⟩) := by
  have hw : wrap64 ((2 : Int) ^ k) = 2 ^ k := by
    obtain rfl | rfl | rfl | rfl | rfl | rfl | rfl | rfl : k = 0 ∨ k = 1 ∨ k = 2 ∨ k = 3 ∨ k = 4 ∨ k = 5 ∨ k = 6 ∨ k = 7 := by omega
    all_goals (first | decide | simp [wrap64])
  have hr := plNum_rg pl k
  have e : plNum pl (k + 1) = plNum pl k + 2 ^ k := if_pos h
  rw [hw, or_i64 _ k hr.1 hr.2 hk, e]
  exact set_blk hm
theorem cell_heap {w w' : World} {b : Nat} (h : w'.heap[b]? = w.heap[b]?) (j : Nat) : w'.cell? ⟨b, j, none⟩ = w.cell? ⟨b, j, none⟩ := by
  simp [World.cell?, h]

set_option maxRecDepth 100000 in
set_option maxHeartbeats 2000000 in
theorem mark_any (s : ByteArray) (w : World) (hs : s.size < 4294967281) :
    Calls Tryd.prog 58 #[.string s] w fun e w' => MarkOut (markL s.data.toList) e ∧ Below w.heap.size w w' := by
  have hsp := fun w => YtoidaigiejilcaaDoor.split_at s 32 w hs
  have hall := Lib.splitB_all ⟨#[32]⟩ (Nat.le_refl _) 0 _ s rfl
  have hdat : (Lib.splitB ⟨#[32]⟩ 0 (Lib.countB s ⟨#[32]⟩) s).map (·.data.toList) = cutL 32 s.data.toList := by rw [Lib.splitB_data]; exact split_cut 32 _
  generalize Lib.splitB ⟨#[32]⟩ 0 (Lib.countB s ⟨#[32]⟩) s = ws at hsp hall hdat
  rw [← hall] at hsp
  rw [← markW_cut, ← hdat]
  clear hall hdat
  by_cases h3 : ws.length = 3
  · obtain ⟨x, y, z, rfl⟩ : ∃ x y z, ws = [x, y, z] := by
      match ws, h3 with
      | [x, y, z], _ => exact ⟨x, y, z, rfl⟩
    clear h3
    simp only [List.length_cons, List.length_nil, List.map_cons, List.map_nil] at hsp ⊢
    by_cases h9 : x.data.toList.length = 9
    · have hx9 : x.size = 9 := by rw [Lib.size_eq]; exact h9
      by_cases h47 : x.data.toList.getD 4 0 = 47
      · have hx4 : 4 < x.size := by omega
        have hx5 : (5 : Nat) ≤ x.size := by omega
        have hb : (((x[4]'hx4).toNat : Int) != 47) = false := by
          have e1 : x.data.toList.getD 4 0 = x[4]'hx4 := by
            rw [List.getD_eq_getElem?_getD, List.getElem?_eq_getElem (by rw [h9]; decide)]
            simp [ByteArray.getElem_eq_getElem_data]
          rw [← e1, h47]; rfl
        have hx9' : ((x.size : Int) != 9) = false := by rw [hx9]; rfl
        obtain ⟨pl, hpl⟩ : ∃ pl, pl = plsOf x.data.toList := ⟨_, rfl⟩
        have hpb : (x.extract 0 4 ++ x.extract 5 9).data.toList = pl := by
          rw [hpl]
          unfold plsOf
          rw [ByteArray.data_append, Array.toList_append, Lib.extract_data, Lib.extract_data]
          simp
        have hp8 : pl.length = 8 := by rw [hpl]; unfold plsOf; rw [List.length_append, List.length_take, List.length_take, List.length_drop]; omega
        have hps : (x.extract 0 4 ++ x.extract 5 9).size = 8 := by rw [Lib.size_eq, hpb, hp8]
        have HY := Lib.hid (markW_yes (x := x.data.toList) (y := y.data.toList) (z := z.data.toList) h9 h47)
        have HN := Lib.hid (markW_pl (x := x.data.toList) (y := y.data.toList) (z := z.data.toList))
        rw [← hpl] at HY HN
        have HP := Lib.hid (And.intro hpb (And.intro hps hp8))
        clear hpb hps hpl h47 h9 hp8
        obtain ⟨bv, hbv⟩ : ∃ b, b = loneL y.data.toList [98] := ⟨_, rfl⟩
        obtain ⟨pv, hpv⟩ : ∃ b, b = loneL z.data.toList [112] := ⟨_, rfl⟩
        rw [← hbv, ← hpv] at HY
        have HL := Lib.hid (And.intro hbv hpv)
        clear hbv hpv
        go_enter Tryd.func58, Tryd.ntmps58
        go_upto_region 4 with (first | (go_at_call 55; refine (hsp _).mono ?_; rintro e w' ⟨rfl, rfl⟩))
        obtain ⟨W, hW⟩ : ∃ W, W = (w.alloc (Obj.cells #[Value.int .i64 0, .int .i64 0, .int .i64 0] 52)).alloc (Obj.cells #[Value.string x, Value.string y, Value.string z] 9) := ⟨_, rfl⟩
        have b0 : W.heap[w.heap.size]? = some (mkObj ⟨0, 0, 0⟩) := by rw [hW]; exact hblk_alloc (alloc_at rfl) _
        have b1 : W.heap[w.heap.size + 1]? = some (Obj.cells #[Value.string x, Value.string y, Value.string z] 9 (0, 0)) := by rw [hW]; exact alloc_at (by simp)
        have hBW : Below w.heap.size w W := by rw [hW]; exact bal (bal0 w _) (Nat.le_refl _) _
        rw [← hW]
        clear hW hsp
        obtain ⟨c0, c1, c2⟩ := blk3 b1
        obtain ⟨r0, hr0⟩ : ∃ r, r = w.heap.size := ⟨_, rfl⟩
        have HR0 := Lib.hid (And.intro hr0 hBW)
        rw [← hr0] at b0 b1 c0 c1 c2 ⊢
        clear hr0 hBW
        have HC : Hid (∀ k' w', TZ W.heap.size (mkObj ⟨0, 0, 0⟩) (mkObj ⟨0, bv, pv⟩) k' W w' → Below W.heap.size W w' ∧ w'.cell? ⟨r0 + 1, 1, none⟩ = some (.string y) ∧ w'.cell? ⟨r0 + 1, 2, none⟩ = some (.string z)) :=
          Lib.hid fun k' w' h => by
            have hb := h.below (Nat.le_refl _)
            exact ⟨hb, bcell c1 hb (Nat.le_refl _), bcell c2 hb (Nat.le_refl _)⟩
        refine wp_region_inv (TZ W.heap.size (mkObj ⟨0, 0, 0⟩) (mkObj ⟨0, bv, pv⟩)) (by kernel_rfl) (by kernel_rfl) TZ.tr (TZ.draw _) ?_
        apply Exists.intro
        refine ⟨fun ys => ?_, fun ops K hK => ?_⟩
        · simp only [dstsOf, List.filterMap_cons, List.filterMap_nil, putAll]
          go_simp
          rfl
        repeat
          refine LexI.const TZ.rf ?_
          apply Exists.intro
          refine ⟨fun n' ys w' hn' hT hd => ?_, ?_⟩
          · try simp [DepsOf, depsGo, DF.holds, Region.binds, EqF] at hd
            obtain ⟨_, y0, y1⟩ := HC.out n' w' hT
            intro Q2 hQ2
            go_wp2_with fail
            rfl
          try simp only [List.nil_append, List.cons_append]
        refine LexI.some (EqF (.int .i64 bv)) (EqF.st) (fun n' ys w' hn' hT hd => ?_) ?_
        · try simp [DepsOf, depsGo, DF.holds, Region.binds, EqF] at hd
          try simp only [hd]
          have hbw := (HC.out n' w' hT).1
          intro Q2 hQ2
          go_wp2_with fail
          refine (lone_any y ⟨#[98]⟩ w').mono ?_
          rintro e wU ⟨rfl, rfl⟩
          go_wp2
          exact ⟨_, rfl, TZ.rf _, by unfold EqF; rw [HL.out.1]⟩
        try simp only [List.nil_append, List.cons_append]
        repeat
          refine LexI.const TZ.rf ?_
          apply Exists.intro
          refine ⟨fun n' ys w' hn' hT hd => ?_, ?_⟩
          · try simp [DepsOf, depsGo, DF.holds, Region.binds, EqF] at hd
            obtain ⟨_, y0, y1⟩ := HC.out n' w' hT
            intro Q2 hQ2
            go_wp2_with fail
            rfl
          try simp only [List.nil_append, List.cons_append]
        refine LexI.some (EqF (.int .i64 pv)) (EqF.st) (fun n' ys w' hn' hT hd => ?_) ?_
        · try simp [DepsOf, depsGo, DF.holds, Region.binds, EqF] at hd
          try simp only [hd]
          have hbw := (HC.out n' w' hT).1
          intro Q2 hQ2
          go_wp2_with fail
          refine (lone_any z ⟨#[112]⟩ w').mono ?_
          rintro e wU ⟨rfl, rfl⟩
          go_wp2
          exact ⟨_, rfl, TZ.rf _, by unfold EqF; rw [HL.out.2]⟩
        try simp only [List.nil_append, List.cons_append]
        repeat
          refine LexI.const TZ.rf ?_
          apply Exists.intro
          refine ⟨fun n' ys w' hn' hT hd => ?_, ?_⟩
          · try simp [DepsOf, depsGo, DF.holds, Region.binds, EqF] at hd
            obtain ⟨_, y0, y1⟩ := HC.out n' w' hT
            intro Q2 hQ2
            go_wp2_with fail
            rfl
          try simp only [List.nil_append, List.cons_append]
        refine LexI.some (PtZ W.heap.size (mkObj ⟨0, 0, 0⟩) (mkObj ⟨0, bv, pv⟩)) (PtZ.st) (fun n' ys w' hn' hT hd => ?_) ?_
        · try simp [DepsOf, depsGo, DF.holds, Region.binds, EqF] at hd
          try simp only [hd]
          have hbw := (HC.out n' w' hT).1.size
          intro Q2 hQ2
          go_wp2_with fail
          exact PtZ.new _ hbw
        try simp only [List.nil_append, List.cons_append]
        refine LexI.ref 5 (PtT W.heap.size (mkObj ⟨0, bv, pv⟩)) (PtT.st) rfl rfl (fun n' ys w' hn' hT hd => ?_) ?_
        · try simp [DepsOf, depsGo, DF.holds, Region.binds, EqF] at hd
          try simp only [hd]
          obtain ⟨⟨kz, hy, hkz, ho⟩, h86, -⟩ := hd
          try unfold vMk at h86 ⊢
          obtain ⟨s', hs'⟩ : ∃ s' : Mk, w'.heap[kz]? = some (mkObj s') := by rcases ho with ho | ho <;> exact ⟨_, ho⟩
          obtain ⟨z0, z1, z2⟩ := blk3 hs'
          obtain ⟨f0, f1, f2⟩ := And.intro (frz hs' 0) (And.intro (frz hs' 1) (frz hs' 2))
          have HZ := Lib.hid (And.intro ho hs')
          clear ho hs'
          intro Q2 hQ2
          go_wp2_with fail
          exact mk_put hkz HZ.out
        try simp only [List.nil_append, List.cons_append]
        refine hK _ (fun n' ys w5 hn' hT hF => ?_)
        simp only [AllF, DF.holds] at hF
        obtain ⟨-, -, -, -, -, -, -, -, -, -, ⟨M, e5, hM, hbM⟩, -⟩ := hF
        simp only [e5]
        have hb5 := hT.below (Nat.le_refl _)
        have b05 := bheap b0 hb5 (Nat.le_refl _)
        have b15 := bheap b1 hb5 (Nat.le_refl _)
        have c05 := bcell c0 hb5 (Nat.le_refl _)
        have HM := Lib.hid (And.intro hM (And.intro b05 (And.intro hbM (And.intro (heap_lt b1) (HR0.out.2.trans (hb5.mono HR0.out.2.size))))))
        clear hT hb5 b0 b1 c0 c1 c2 b05 b15 hbM e5 hM HC
        go_upto_region 5 with (fail)
        have HC5 : Hid (∀ k' w', TB k' w5 w' → w'.cell? ⟨r0 + 1, 0, none⟩ = some (.string x) ∧ Below w5.heap.size w5 w') := Lib.hid fun k' w' h => ⟨bcell c05 h (Nat.le_refl _), h⟩
        have hcv := fun (w : World) (s : ByteArray) => run_bytes_of_string (P := Tryd.prog) w 9 72 5 s Tryd.underlying9 Tryd.underlying72 Tryd.underlying5
        obtain ⟨S, hS⟩ : ∃ S, S = x.extract 0 4 ++ x.extract 5 9 := ⟨_, rfl⟩
        rw [← hS] at HP
        have hS8 : (S.size : Int) = 8 := by rw [HP.out.2.1]; rfl
        clear c05
        refine wp_region_inv (TB) (by kernel_rfl) (by kernel_rfl) TB.tr (TB.draw _) ?_
        apply Exists.intro
        refine ⟨fun ys => ?_, fun ops K hK => ?_⟩
        · simp only [dstsOf, List.filterMap_cons, List.filterMap_nil, putAll]
          go_simp
          rfl
        repeat
          refine LexI.const TB.rf ?_
          apply Exists.intro
          refine ⟨fun n' ys w' hn' hT hd => ?_, ?_⟩
          · try simp [DepsOf, depsGo, DF.holds, Region.binds, EqF] at hd
            obtain ⟨z0, -⟩ := HC5.out n' w' hT
            intro Q2 hQ2
            go_wp2_with fail
            rfl
          try simp only [List.nil_append, List.cons_append]
        refine LexI.some (BytesF w5.heap.size S) (BytesF.st) (fun n' ys w' hn' hT hd => ?_) ?_
        · try simp [DepsOf, depsGo, DF.holds, Region.binds, EqF] at hd
          try simp only [hd]
          rw [← hS]
          intro Q2 hQ2
          go_wp2_with fail
          refine ⟨bdraw (bal0 w' _), _, _, rfl, Below.size (HC5.out n' w' hT).2, ?_, ?_, ?_⟩
          · show w'.heap.size < (w'.heap.push _).size
            rw [Array.size_push]; omega
          · exact grownCap_ge _ _ _ _
          · intro j hj
            refine (World.cell?_alloc_mark _ _ _ _ _).trans ?_
            exact bytesRow_at _ _ _ hj
        try simp only [List.nil_append, List.cons_append]
        refine LexI.some (EqF (.int .i64 8)) (EqF.st) (fun n' ys w' hn' hT hd => ?_) ?_
        · try simp [DepsOf, depsGo, DF.holds, Region.binds, EqF] at hd
          obtain ⟨b, cap, e46, -⟩ := hd
          simp only [e46]
          intro Q2 hQ2
          go_wp2_with fail
          exact ⟨TB.rf _, rfl⟩
        try simp only [List.nil_append, List.cons_append]
        repeat
          refine LexI.const TB.rf ?_
          apply Exists.intro
          refine ⟨fun n' ys w' hn' hT hd => ?_, ?_⟩
          · try simp [DepsOf, depsGo, DF.holds, Region.binds, EqF] at hd
            obtain ⟨z0, -⟩ := HC5.out n' w' hT
            intro Q2 hQ2
            go_wp2_with fail
            rfl
          try simp only [List.nil_append, List.cons_append]
        refine hK _ (fun n' ys w6 hn' hT hF => ?_)
        simp only [AllF, DF.holds] at hF
        obtain ⟨-, -, -, -, -, -, -, -, -, ⟨bb, cap, e46, hbb, hbl, hcap, hby⟩, e47, e48, -⟩ := hF
        unfold EqF at e47
        simp only [e46, e47, e48]
        have hb6 : Below w5.heap.size w5 w6 := hT
        have HQ := Lib.hid (And.intro (bheap HM.out.2.1 hb6 (Nat.le_refl _)) (And.intro (bheap HM.out.2.2.1 hb6 (Nat.le_refl _)) (HM.out.2.2.2.2.trans (hb6.mono HM.out.2.2.2.2.size))))
        have HD := Lib.hid (And.intro (show r0 ≠ M from fun e => by have := HM.out.1; have := HM.out.2.2.2.1; omega) (And.intro (show r0 ≠ bb from fun e => by have := heap_lt HM.out.2.1; omega) (And.intro (show M ≠ bb from fun e => by have := heap_lt HM.out.2.2.1; omega) (show w.heap.size ≤ M from Nat.le_trans HR0.out.2.size HM.out.1))))
        have HBY := Lib.hid (And.intro hbl hby)
        have HCP := Lib.hid hcap
        clear hT e46 e47 e48 hb6 hbb hbl hby hcap HC5 hcv hS hS8
        go_wp2_with fail
        go_loopg [48] 8 (fun g i wr => ∃ k : Nat, k + g = 8 ∧ i = .int .i64 k ∧ wr.heap[r0]? = some (mkObj ⟨0, 0, 0⟩) ∧ wr.heap[M]? = some (mkObj ⟨plNum pl k, bv, pv⟩) ∧ (pl.take k).all isPl = true ∧ (∀ j (hj : j < S.data.size), wr.cell? ⟨bb, j, none⟩ = some (.int .u8 ((S.data[j]'hj).toNat : Int))) ∧ Below w.heap.size w wr)
        case atStart => exact ⟨0, rfl, rfl, HQ.out.1, HQ.out.2.1, rfl, HBY.out.2, HQ.out.2.2⟩
        case round =>
          obtain ⟨k, hk, rfl, hr, hm, ha, hby, hB⟩ := hrel
          have HK := Lib.hid hk
          by_cases hlt : k < 8
          · obtain ⟨c, hc⟩ : ∃ c, c = pl.getD k 0 := ⟨_, rfl⟩
            have hcell : wr.cell? ⟨bb, k, none⟩ = some (.int .u8 (c.toNat : Int)) := by
              have hk' : k < S.data.size := by have := HP.out.2.1; rw [show S.data.size = S.size from rfl]; omega
              rw [hby k hk', hc, ← HP.out.1, List.getD_eq_getElem?_getD, Array.getElem?_toList, Array.getElem?_eq_getElem hk']
              rfl
            have htk : pl.take (k + 1) = pl.take k ++ [c] := by
              rw [List.take_add_one, hc, List.getD_eq_getElem?_getD, List.getElem?_eq_getElem (by have := HP.out.2.2; omega)]; rfl
            obtain ⟨m0, m1, m2⟩ := blk3 hm
            have mf := frz hm 0
            have gM := heap_lt hm
            have HX := Lib.hid (And.intro hr (And.intro hm (And.intro ha (And.intro hby hB))))
            have HC := Lib.hid (And.intro hc htk)
            have i0 : (0 : Int) ≤ (k : Int) := by omega
            have i1 : (k : Int) < 8 := by omega
            clear hr hm ha hby hB hk htk hc
            by_cases h120 : c = 120
            · have e1 : ((c.toNat : Int) == 120) = true := by rw [h120]; rfl
              have hset := Lib.hid (plSet (w := wr) HX.out.2.1 (HC.out.1.symm.trans h120) (by omega))
              go_wp2
              go_roundg (gk - 1)
              case measure => have := HK.out; omega
              case rel => exact ⟨k + 1, by have := HK.out; omega, by go_num, (Below.heap_setCell _ _ _ _ HD.out.1).trans HX.out.1, hset.out, by rw [HC.out.2, List.all_append, HX.out.2.2.1, h120]; rfl, fun j hj => (cell_heap (Below.heap_setCell _ _ _ _ (Ne.symm HD.out.2.2.1)) j).trans (HX.out.2.2.2.1 j hj), Below.setCell HX.out.2.2.2.2 (p := ⟨M, 0, none⟩) HD.out.2.2.2 _⟩
            · have e1 : ((c.toNat : Int) == 120) = false := beq_eq_false_iff_ne.2 fun e => h120 (UInt8.toNat_inj.1 (show c.toNat = 120 by omega))
              by_cases h46 : c = 46
              · have e2 : ((c.toNat : Int) == 46) = true := by rw [h46]; rfl
                go_wp2
                go_roundg (gk - 1)
                case measure => have := HK.out; omega
                case rel => exact ⟨k + 1, by have := HK.out; omega, by go_num, HX.out.1, by unfold plNum; rw [if_neg (fun e => h120 (HC.out.1.trans e))]; exact HX.out.2.1, by rw [HC.out.2, List.all_append, HX.out.2.2.1, h46]; rfl, HX.out.2.2.2.1, HX.out.2.2.2.2⟩
              · have e2 : ((c.toNat : Int) == 46) = false := beq_eq_false_iff_ne.2 fun e => h46 (UInt8.toNat_inj.1 (show c.toNat = 46 by omega))
                have hno : pl.all isPl = false := by
                  cases hp : pl.all isPl with
                  | false => rfl
                  | true =>
                    have h8 := List.all_eq_true.1 hp c (by rw [HC.out.1, List.getD_eq_getElem?_getD, List.getElem?_eq_getElem (by have := HP.out.2.2; omega)]; exact List.getElem_mem _)
                    unfold isPl at h8
                    simp [h120, h46] at h8
                obtain ⟨z0, z1, z2⟩ := blk3 HX.out.1
                have zf := fun i => frz HX.out.1 i
                have HNO := Lib.hid (HN.out hno)
                clear hno
                go_wp2
                have hz : (((wr.setCell ⟨r0, 0, none⟩ (.int .i64 0)).setCell ⟨r0, 1, none⟩ (.int .i64 0)).setCell ⟨r0, 2, none⟩ (.int .i64 0)).heap[r0]? = some (mkObj ⟨0, 0, 0⟩) := set_blk (set_blk (set_blk HX.out.1))
                have hbz : Below w.heap.size w (((wr.setCell ⟨r0, 0, none⟩ (.int .i64 0)).setCell ⟨r0, 1, none⟩ (.int .i64 0)).setCell ⟨r0, 2, none⟩ (.int .i64 0)) :=
                  Below.setCell (Below.setCell (Below.setCell HX.out.2.2.2.2 (p := ⟨r0, 0, none⟩) (Nat.le_of_eq HR0.out.1.symm) _) (p := ⟨r0, 1, none⟩) (Nat.le_of_eq HR0.out.1.symm) _) (p := ⟨r0, 2, none⟩) (Nat.le_of_eq HR0.out.1.symm) _
                have HBZ := Lib.hid hbz
                generalize (((wr.setCell ⟨r0, 0, none⟩ (.int .i64 0)).setCell ⟨r0, 1, none⟩ (.int .i64 0)).setCell ⟨r0, 2, none⟩ (.int .i64 0)) = Z at hz HBZ ⊢
                obtain ⟨z0, z1, z2⟩ := blk3 hz
                exact bodyPost_ret (v := .tuple #[vMk ⟨0, 0, 0⟩, .bool false]) (by simp [results, Tryd.f58, go_sem, vMk, z0, z1, z2]) rfl ⟨MarkOut.no ⟨0, 0, 0⟩ HNO.out, HBZ.out⟩
          · obtain rfl : k = 8 := by omega
            obtain ⟨z0, z1, z2⟩ := blk3 hr
            obtain ⟨zf0, zf1, zf2⟩ := And.intro (frz hr 0) (And.intro (frz hr 1) (frz hr 2))
            obtain ⟨m0, m1, m2⟩ := blk3 hm
            have hall : pl.all isPl = true := by rw [← List.take_of_length_le (l := pl) (i := 8) (by have := HP.out.2.2; omega)]; exact ha
            have HX := Lib.hid (And.intro hr (And.intro hm hB))
            have HYY := Lib.hid (HY.out hall)
            clear hr hm ha hby hB hk HK hall HY
            obtain ⟨num, hnum⟩ : ∃ num, num = plNum pl 8 := ⟨_, rfl⟩
            rw [← hnum] at m0 HX HYY
            clear hnum
            have hne := HD.out.1
            by_cases hb0 : 0 ≤ bv
            · by_cases hp0 : 0 ≤ pv
              · have d1 : decide (0 ≤ bv) = true := decide_eq_true hb0
                have d2 : decide (0 ≤ pv) = true := decide_eq_true hp0
                have HR := Lib.hid (HYY.out.trans (if_pos ⟨hb0, hp0⟩))
                go_upto_region 14 with (fail)
                go_region
                have hz : (((wr.setCell ⟨r0, 0, none⟩ (.int .i64 num)).setCell ⟨r0, 1, none⟩ (.int .i64 bv)).setCell ⟨r0, 2, none⟩ (.int .i64 pv)).drew.heap[r0]? = some (mkObj ⟨num, bv, pv⟩) := set_blk (set_blk (set_blk HX.out.1))
                have hbz : Below w.heap.size w (((wr.setCell ⟨r0, 0, none⟩ (.int .i64 num)).setCell ⟨r0, 1, none⟩ (.int .i64 bv)).setCell ⟨r0, 2, none⟩ (.int .i64 pv)).drew :=
                  bdraw (Below.setCell (Below.setCell (Below.setCell HX.out.2.2 (p := ⟨r0, 0, none⟩) (Nat.le_of_eq HR0.out.1.symm) _) (p := ⟨r0, 1, none⟩) (Nat.le_of_eq HR0.out.1.symm) _) (p := ⟨r0, 2, none⟩) (Nat.le_of_eq HR0.out.1.symm) _)
                have HBZ := Lib.hid hbz
                generalize (((wr.setCell ⟨r0, 0, none⟩ (.int .i64 num)).setCell ⟨r0, 1, none⟩ (.int .i64 bv)).setCell ⟨r0, 2, none⟩ (.int .i64 pv)).drew = Z at hz HBZ ⊢
                clear hbz z0 z1 z2
                obtain ⟨z0, z1, z2⟩ := blk3 hz
                go_wp2
                exact bodyPost_ret (v := .tuple #[vMk ⟨num, bv, pv⟩, .bool true]) (by simp [results, Tryd.f58, go_sem, vMk, z0, z1, z2]) rfl ⟨MarkOut.yes HR.out, HBZ.out⟩
              · have d1 : decide (0 ≤ bv) = true := decide_eq_true hb0
                have d2 : decide (0 ≤ pv) = false := decide_eq_false hp0
                have HR := Lib.hid (HYY.out.trans (if_neg (fun h => hp0 h.2)))
                go_upto_region 14 with (fail)
                go_region
                have hz : (((wr.setCell ⟨r0, 0, none⟩ (.int .i64 num)).setCell ⟨r0, 1, none⟩ (.int .i64 bv)).setCell ⟨r0, 2, none⟩ (.int .i64 pv)).drew.heap[r0]? = some (mkObj ⟨num, bv, pv⟩) := set_blk (set_blk (set_blk HX.out.1))
                have hbz : Below w.heap.size w (((wr.setCell ⟨r0, 0, none⟩ (.int .i64 num)).setCell ⟨r0, 1, none⟩ (.int .i64 bv)).setCell ⟨r0, 2, none⟩ (.int .i64 pv)).drew :=
                  bdraw (Below.setCell (Below.setCell (Below.setCell HX.out.2.2 (p := ⟨r0, 0, none⟩) (Nat.le_of_eq HR0.out.1.symm) _) (p := ⟨r0, 1, none⟩) (Nat.le_of_eq HR0.out.1.symm) _) (p := ⟨r0, 2, none⟩) (Nat.le_of_eq HR0.out.1.symm) _)
                have HBZ := Lib.hid hbz
                generalize (((wr.setCell ⟨r0, 0, none⟩ (.int .i64 num)).setCell ⟨r0, 1, none⟩ (.int .i64 bv)).setCell ⟨r0, 2, none⟩ (.int .i64 pv)).drew = Z at hz HBZ ⊢
                clear hbz z0 z1 z2
                obtain ⟨z0, z1, z2⟩ := blk3 hz
                go_wp2
                exact bodyPost_ret (v := .tuple #[vMk ⟨num, bv, pv⟩, .bool false]) (by simp [results, Tryd.f58, go_sem, vMk, z0, z1, z2]) rfl ⟨MarkOut.no _ HR.out, HBZ.out⟩
            · have d1 : decide (0 ≤ bv) = false := decide_eq_false hb0
              have HR := Lib.hid (HYY.out.trans (if_neg (fun h => hb0 h.1)))
              go_upto_region 14 with (fail)
              go_region
              have hz : (((wr.setCell ⟨r0, 0, none⟩ (.int .i64 num)).setCell ⟨r0, 1, none⟩ (.int .i64 bv)).setCell ⟨r0, 2, none⟩ (.int .i64 pv)).drew.heap[r0]? = some (mkObj ⟨num, bv, pv⟩) := set_blk (set_blk (set_blk HX.out.1))
              have hbz : Below w.heap.size w (((wr.setCell ⟨r0, 0, none⟩ (.int .i64 num)).setCell ⟨r0, 1, none⟩ (.int .i64 bv)).setCell ⟨r0, 2, none⟩ (.int .i64 pv)).drew :=
                bdraw (Below.setCell (Below.setCell (Below.setCell HX.out.2.2 (p := ⟨r0, 0, none⟩) (Nat.le_of_eq HR0.out.1.symm) _) (p := ⟨r0, 1, none⟩) (Nat.le_of_eq HR0.out.1.symm) _) (p := ⟨r0, 2, none⟩) (Nat.le_of_eq HR0.out.1.symm) _)
              have HBZ := Lib.hid hbz
              generalize (((wr.setCell ⟨r0, 0, none⟩ (.int .i64 num)).setCell ⟨r0, 1, none⟩ (.int .i64 bv)).setCell ⟨r0, 2, none⟩ (.int .i64 pv)).drew = Z at hz HBZ ⊢
              clear hbz z0 z1 z2
              obtain ⟨z0, z1, z2⟩ := blk3 hz
              go_wp2
              exact bodyPost_ret (v := .tuple #[vMk ⟨num, bv, pv⟩, .bool false]) (by simp [results, Tryd.f58, go_sem, vMk, z0, z1, z2]) rfl ⟨MarkOut.no _ HR.out, HBZ.out⟩
      · rw [markW_bar h47]
        have hx4 : 4 < x.size := by omega
        have hb : (((x[4]'hx4).toNat : Int) != 47) = true := bne_iff_ne.2 fun e => h47 (by
          have e1 : x.data.toList.getD 4 0 = x[4]'hx4 := by
            rw [List.getD_eq_getElem?_getD, List.getElem?_eq_getElem (by rw [h9]; decide)]
            simp [ByteArray.getElem_eq_getElem_data]
          rw [e1]
          apply UInt8.toNat_inj.1
          show (x[4]'hx4).toNat = 47
          omega)
        have hx9' : ((x.size : Int) != 9) = false := by rw [hx9]; rfl
        go_enter Tryd.func58, Tryd.ntmps58
        go_wp2_with (go_at_call 55; refine (hsp _).mono ?_; rintro e w' ⟨rfl, rfl⟩)
        exact bodyPost_ret (v := .tuple #[vMk ⟨0, 0, 0⟩, .bool false]) (by simp [results, Tryd.f58, go_sem, vMk]) rfl ⟨MarkOut.no ⟨0, 0, 0⟩ rfl, bal (bal0 w _) (Nat.le_refl _) _⟩
    · rw [markW_nine h9]
      have hx9 : ((x.size : Int) != 9) = true := bne_iff_ne.2 (by rw [Lib.size_eq]; omega)
      go_enter Tryd.func58, Tryd.ntmps58
      go_wp2_with (go_at_call 55; refine (hsp _).mono ?_; rintro e w' ⟨rfl, rfl⟩)
      exact bodyPost_ret (v := .tuple #[vMk ⟨0, 0, 0⟩, .bool false]) (by simp [results, Tryd.f58, go_sem, vMk]) rfl ⟨MarkOut.no ⟨0, 0, 0⟩ rfl, bal (bal0 w _) (Nat.le_refl _) _⟩
  · rw [markW_len (by simpa using h3)]
    have hn : ((ws.length : Int) != 3) = true := bne_iff_ne.2 (by omega)
    go_enter Tryd.func58, Tryd.ntmps58
    go_wp2_with (go_at_call 55; refine (hsp _).mono ?_; rintro e w' ⟨rfl, rfl⟩)
    exact bodyPost_ret (v := .tuple #[vMk ⟨0, 0, 0⟩, .bool false]) (by simp [results, Tryd.f58, go_sem, vMk]) rfl ⟨MarkOut.no ⟨0, 0, 0⟩ rfl, bal (bal0 w _) (Nat.le_refl _) _⟩
end Go.Proofs.YtoidaigiejilcaaDoor
