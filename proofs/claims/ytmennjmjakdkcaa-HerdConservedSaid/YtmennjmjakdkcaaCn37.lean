/- HerdConserved 37: Cons, Frame. -/
import Derived.Test.YtmennjmjakdkcaaCn34
import Derived.Test.YtmennjmjakdkcaaCn36
import Derived.Test.YtmennjmjakdkcaaCn01
import Derived.OpenShut
namespace Go.Proofs.Ytmennjmjakdkcaa
open Go.RowKit
set_option linter.unusedVariables false
set_option linter.unusedSimpArgs false

set_option maxRecDepth 100000 in
theorem hasF9_any (s : Sm) (w : World) (hs : SmB 100000 s) : Calls Try.prog 44 #[.agg #[.int .i64 s.first, .int .i64 s.born, .int .i64 s.bought, .int .i64 s.sold, .int .i64 s.eaten]] w fun e w' => e = .returned (.int .i64 (hasS s)) ∧ Below w.heap.size w w' := by
  obtain ⟨⟨l1, u1⟩, ⟨l2, u2⟩, ⟨l3, u3⟩, ⟨l4, u4⟩, l5, u5⟩ := hs
  obtain ⟨x1, x2, x3, x4, x5⟩ := s
  unfold hasS
  dsimp only at l1 u1 l2 u2 l3 u3 l4 u4 l5 u5 ⊢
  go_enter Try.func44, Try.ntmps44
  go_wp2
  go_ret
  exact ⟨rfl, bal0 w _⟩
theorem goneE_zero {b : Hb} (hck : b.chk = 0) : goneE b 0 = askE b := by
  have hok := checkH_ok hck
  have hs : sumE b 0 = 0 := by
    unfold sumE
    rw [if_neg (by rw [hck]; simp), if_neg (by rw [ownB_iff.2 ⟨by omega, by have := hok.n0; omega⟩]; simp)]
  unfold goneE askE
  rw [if_neg (show ¬ sumE b 0 ≠ 0 by rw [hs]; simp), if_neg (show ¬ b.chk ≠ 0 by rw [hck]; simp)]
/-- what is kept -/
structure ConsL (b : Hb) : Prop where
  ol : (ownsR b).length = b.l.length
  tl : (totalR b).length = b.ks.length
  se : ∀ o : Nat, o < b.l.length → sumE b o = 0 ∧ goneE b o = 0 ∧ SmB 5000 (sumR b o) ∧ ∃ r, (ownsR b)[o]? = some r ∧ (0 ≤ r.lo ∧ r.hi ≤ 3000 ∧ r.lo ≤ r.hi) ∧ r.lo + (goneR b o).hi = hasS (sumR b o) ∧ r.hi + (goneR b o).lo = hasS (sumR b o) ∧ 0 ≤ (goneR b o).lo
  tb : ∀ f : Nat, f < b.ks.length → ∃ r, (totalR b)[f]? = some r ∧ 0 ≤ r.lo ∧ r.hi ≤ 5000 ∧ r.lo ≤ r.hi
  fin : sumN (fun f => ((totalR b).getD f ⟨0, 0⟩).lo) b.ks.length ≤ sumN (fun o => hasS (sumR b o)) b.l.length - (b.ds.map lostD).sum ∧ sumN (fun o => hasS (sumR b o)) b.l.length - (b.ds.map lostD).sum ≤ sumN (fun f => ((totalR b).getD f ⟨0, 0⟩).hi) b.ks.length
theorem consL {b : Hb} (hck : b.chk = 0) (ha : askE b = 0) : ConsL b := by
  have hok := checkH_ok hck
  have hne : b.ends (-1) 0 ≠ [] := by
    rcases askE_two hck with h | h
    · exact h.2
    · rw [h.1] at ha; cases ha
  have hn5 := hok.n5
  have hf3 := hok.f3
  have hd6 := hok.d6
  have hg : GSh b.l.length b.ks.length b.hs := ⟨hok.hl, hok.rl⟩
  have how : ∀ d ∈ b.ds, DeOw b.l.length b.ks.length d := fun d hd => deedE_ow (hok.dE d hd)
  have hbd := hb_of (deed := -1) (owner := 0) hok
  have hsh : ∀ x ∈ b.ends (-1) 0, Shp b.l.length b.ks.length x := fun x hx => endsTo_shp hf3 hn5 hg how _ x hx
  have hkept := fun x (hx : x ∈ b.ends (-1) 0) => ends_kept (nf := b.ks.length) hf3 hn5 hok.dI (fun d hd => (how d hd).ne) b.ds.length (Nat.le_refl _) x hx
  have hor : ownsR b = ownsL (b.ends (-1) 0) b.l.length := by unfold ownsR; rw [if_pos ha]
  have htr : totalR b = totalL (b.ends (-1) 0) b.ks.length := by unfold totalR; rw [if_pos ha]
  have hse : ∀ o : Nat, o < b.l.length → sumE b o = 0 := fun o ho => by
    unfold sumE
    rw [if_neg (by rw [hck]; simp), if_neg (by rw [ownB_iff.2 ⟨by omega, by omega⟩]; simp)]
  have hsr : ∀ o : Nat, o < b.l.length → sumR b o = sumS b.hs o b.ds := fun o ho => by unfold sumR; rw [hse o ho, if_pos rfl]; rfl
  have hge : ∀ o : Nat, o < b.l.length → goneE b o = 0 := fun o ho => by unfold goneE; rw [hse o ho, if_neg (by simp), if_neg hne]
  have hgr : ∀ o : Nat, o < b.l.length → goneR b o = ⟨hasS (sumS b.hs o b.ds) - (rangeE (b.ends (-1) 0) fun h => howned h o).hi, hasS (sumS b.hs o b.ds) - (rangeE (b.ends (-1) 0) fun h => howned h o).lo⟩ := fun o ho => by
    unfold goneR
    rw [hge o ho, if_pos rfl]
    exact range_sub hne _ _
  have hrow : ∀ o : Nat, o < b.l.length → (ownsL (b.ends (-1) 0) b.l.length)[o]? = some (rangeE (b.ends (-1) 0) fun h => howned h o) := fun o ho => by unfold ownsL; rw [List.getElem?_map, List.getElem?_range ho]; rfl
  have hrt : ∀ f : Nat, f < b.ks.length → (totalL (b.ends (-1) 0) b.ks.length)[f]? = some (rangeE (b.ends (-1) 0) fun h => hall h f) := fun f hf => by unfold totalL; rw [List.getElem?_map, List.getElem?_range hf]; rfl
  have hob : ∀ x ∈ b.ends (-1) 0, ∀ o : Nat, o < 5 → 0 ≤ howned x o ∧ howned x o ≤ 3000 := fun x hx o ho => by
    have a0 := (hbd x hx).get (show 0 < 3 by decide) ho
    have a1 := (hbd x hx).get (show 1 < 3 by decide) ho
    have a2 := (hbd x hx).get (show 2 < 3 by decide) ho
    unfold howned; omega
  have hab : ∀ x ∈ b.ends (-1) 0, ∀ f : Nat, f < 3 → 0 ≤ hall x f ∧ hall x f ≤ 5000 := fun x hx f hf => by
    have a0 := (hbd x hx).get hf (show 0 < 5 by decide)
    have a1 := (hbd x hx).get hf (show 1 < 5 by decide)
    have a2 := (hbd x hx).get hf (show 2 < 5 by decide)
    have a3 := (hbd x hx).get hf (show 3 < 5 by decide)
    have a4 := (hbd x hx).get hf (show 4 < 5 by decide)
    unfold hall; omega
  have hfb : HBd 20 (firstH b.hs) := firstH_bd hok.rb
  refine ⟨by rw [hor]; simp [ownsL], by rw [htr]; simp [totalL], fun o ho => ⟨hse o ho, hge o ho, ?_, rangeE (b.ends (-1) 0) fun h => howned h o, by rw [hor]; exact hrow o ho, ?_, ?_, ?_, ?_⟩, fun f hf => ⟨rangeE (b.ends (-1) 0) fun h => hall h f, by rw [htr]; exact hrt f hf, ?_⟩, ?_⟩
  · rw [hsr o ho]
    have hsb := sumS_bd (hs := b.hs) (o := o) (ds := b.ds) (by
      have a0 := hfb.get (show 0 < 3 by decide) (show o < 5 by omega)
      have a1 := hfb.get (show 1 < 3 by decide) (show o < 5 by omega)
      have a2 := hfb.get (show 2 < 3 by decide) (show o < 5 by omega)
      unfold howned; omega) (fun d hd => by have := (hok.dI d hd).m; omega) b.ds.length (Nat.le_refl _)
    rw [List.take_length] at hsb
    obtain ⟨h1, h2, h3, h4, h5⟩ := hsb
    exact ⟨by omega, by omega, by omega, by omega, by omega⟩
  · obtain ⟨⟨x, hx, e1⟩, ⟨y, hy, e2⟩, h3⟩ := rangeE_mem (f := fun h => howned h o) hne
    have := hob x hx o (by omega); have := hob y hy o (by omega); have := h3 x hx
    omega
  · rw [hgr o ho, hsr o ho]; dsimp only; omega
  · rw [hgr o ho, hsr o ho]; dsimp only; omega
  · rw [hgr o ho]
    obtain ⟨-, ⟨y, hy, e2⟩, -⟩ := rangeE_mem (f := fun h => howned h o) hne
    have h2 := (hkept y hy).2.2 o (by omega)
    rw [List.take_length] at h2
    dsimp only
    omega
  · obtain ⟨⟨x, hx, e1⟩, ⟨y, hy, e2⟩, h3⟩ := rangeE_mem (f := fun h => hall h f) hne
    have := hab x hx f (by omega); have := hab y hy f (by omega); have := h3 x hx
    omega
  · obtain ⟨x, hx⟩ := List.exists_mem_of_ne_nil _ hne
    have h1 := sums_tot hn5 hg how b.ds.length (Nat.le_refl _)
    rw [List.take_length] at h1
    have h2 := (hkept x hx).2.1
    rw [List.take_length] at h2
    have h3 := (hsh x hx).all hf3
    have h4 : sumN (fun o => hasS (sumR b o)) b.l.length = sumN (fun o => hasS (sumS b.hs o b.ds)) b.l.length := sumN_congr fun o ho => by rw [hsr o ho]
    have hgd : ∀ f : Nat, f < b.ks.length → (totalR b).getD f ⟨0, 0⟩ = rangeE (b.ends (-1) 0) fun h => hall h f := fun f hf => by rw [List.getD_eq_getElem?_getD, htr, hrt f hf]; rfl
    have h5 : sumN (fun f => ((totalR b).getD f ⟨0, 0⟩).lo) b.ks.length ≤ sumN (fun f => hall x f) b.ks.length := sumN_le fun f hf => by rw [hgd f hf]; exact ((rangeE_mem (f := fun h => hall h f) hne).2.2 x hx).1
    have h6 : sumN (fun f => hall x f) b.ks.length ≤ sumN (fun f => ((totalR b).getD f ⟨0, 0⟩).hi) b.ks.length := sumN_le fun f hf => by rw [hgd f hf]; exact ((rangeE_mem (f := fun h => hall h f) hne).2.2 x hx).2
    rw [h4]
    omega
theorem sumN_bd {f : Nat → Int} {n : Nat} (h : ∀ o, o < n → -20000 ≤ f o ∧ f o ≤ 20000) : ∀ k, k ≤ n → -20000 * (k : Int) ≤ sumN f k ∧ sumN f k ≤ 20000 * (k : Int)
  | 0, _ => by simp [sumN]
  | k + 1, hk => by
    have ih := sumN_bd h k (by omega)
    have := h k (by omega)
    unfold sumN
    omega
theorem hasS_bd {s : Sm} (h : SmB 5000 s) : -20000 ≤ hasS s ∧ hasS s ≤ 20000 := by
  obtain ⟨h1, h2, h3, h4, h5⟩ := h
  unfold hasS
  omega
set_option maxRecDepth 100000 in
set_option maxHeartbeats 4000000 in
theorem HerdConserved_any (A : Option Addr) (n c : Nat) (nums : List Int) (w : World) (hl : Ints w A n nums) (hn : n ≤ 9223372036854775807) :
    Calls Try.prog 8 #[.slice A n c] w fun e w' => e = .returned (.bool true) ∧ Below w.heap.size w w' := by
  go_enter Try.func8, Try.ntmps8
  go_wp2_with fail
  refine (newHand_any A n c nums _ hl hn).mono ?_
  rintro e w1 ⟨rfl, hh, hb1, hz1⟩
  clear hl hz1
  go_wp2_with fail
  refine (herdOf_any w.heap.size 0 4 3 5 _ hh (by omega) (by omega) (by omega) (by omega)).mono ?_
  rintro e w2 ⟨b, rfl, hck, hln, hkn, hdn, hO, hd2⟩
  unfold Hb.v
  have hB2 := hb1.trans (hd2.below (Nat.le_refl _) hb1.size)
  clear hh hb1 hd2 hln hkn hdn
  go_upto_region 2 with (fail)
  obtain ⟨B, hB⟩ : ∃ B, B = w2.heap.size := ⟨_, rfl⟩
  obtain ⟨W, hW⟩ : ∃ W, W = w2.alloc (Obj.cells #[Value.int .i64 b.t, .slice b.A b.l.length b.c, .slice b.Ak b.ks.length b.ck, .slice b.Ah b.hs.length b.ch, .slice b.Ad b.ds.length b.cd] 29) := ⟨_, rfl⟩
  rw [← hW, ← hB]
  have bW : W.heap[B]? = some (boxO b.t b.vm b.vk b.vh b.vd) := by rw [hW, hB]; exact alloc_at rfl
  have hiW : HbIn W b := by rw [hW]; exact hO.inn.al _
  have hBW : Below w.heap.size w W := by rw [hW]; exact bal hB2 (Nat.le_refl _) _
  clear hW hB hB2 hO
  obtain ⟨x0, x1, x2, x3, x4⟩ := blk5 bW
  have ht := Owns_any b W hiW
  unfold Hb.v at ht
  have HW := Lib.hid (And.intro bW (And.intro hiW (And.intro hBW hck)))
  clear bW hiW hBW hck
  go_upto_region 3 with (go_at_call 40; refine ht.mono ?_; rintro e w3 ⟨⟨v, rfl, ho3⟩, hb3⟩)
  have bx3 := bheap HW.out.1 hb3 (Nat.le_refl _)
  have hg := Total_any b w3 (HW.out.2.1.below hb3 (Nat.le_refl _))
  unfold Hb.v at hg
  have H3 := Lib.hid (And.intro ho3 hb3)
  clear ho3 hb3 ht x0 x1 x2 x3 x4
  obtain ⟨x0, x1, x2, x3, x4⟩ := blk5 bx3
  have HX3 := Lib.hid bx3
  clear bx3
  go_upto_region 4 with (go_at_call 41; refine hg.mono ?_; rintro e w4 ⟨⟨u, rfl, ho4⟩, hb4⟩)
  have bx4 := bheap HX3.out hb4 (Nat.le_refl _)
  have hB4 : Below w.heap.size w w4 := HW.out.2.2.1.trans ((H3.out.2.trans (hb4.mono H3.out.2.size)).mono HW.out.2.2.1.size)
  have hi4 : HbIn w4 b := (HW.out.2.1.below H3.out.2 (Nat.le_refl _)).below hb4 (Nat.le_refl _)
  have ho3 := H3.out.1.below hb4 (Nat.le_refl _)
  have H4 := Lib.hid (And.intro ho4 (And.intro hB4 (And.intro hi4 (And.intro ho3 bx4))))
  clear ho4 hB4 hi4 ho3 hb4 hg x0 x1 x2 x3 x4
  obtain ⟨x0, x1, x2, x3, x4⟩ := blk5 bx4
  clear bx4
  rcases askE_two HW.out.2.2.2 with ⟨ha, hne⟩ | ⟨ha, hno⟩
  · rw [ha]
    have hc := consL HW.out.2.2.2 ha
    have hok := checkH_ok HW.out.2.2.2
    have h4 := H4.out
    obtain ⟨Ao, co, rfl, hos, hoc, hom⟩ := h4.2.2.2.1.form lenRn
    obtain ⟨At, ct, rfl, hts, htc, htm⟩ := h4.1.form lenRn
    obtain ⟨OL, hOL⟩ : ∃ T, T = ownsR b := ⟨_, rfl⟩
    obtain ⟨TL, hTL⟩ : ∃ T, T = totalR b := ⟨_, rfl⟩
    obtain ⟨m, hm⟩ : ∃ m, m = b.l.length := ⟨_, rfl⟩
    obtain ⟨nk, hnk⟩ : ∃ nk, nk = b.ks.length := ⟨_, rfl⟩
    obtain ⟨nd, hnd⟩ : ∃ nd, nd = b.ds.length := ⟨_, rfl⟩
    rw [hc.ol, ← hm] at hos hoc ⊢
    rw [hc.tl, ← hnk] at hts htc ⊢
    unfold Hb.vm at x1
    unfold Hb.vk at x2
    unfold Hb.vd at x4
    rw [← hm] at x1
    rw [← hnk] at x2
    rw [← hnd] at x4 ⊢
    obtain ⟨Dx, hDx⟩ : ∃ K, K = b.Ad := ⟨_, rfl⟩
    rw [← hDx] at x4 ⊢
    have hdd : Deeds w4 Dx nd b.ds := by rw [hnd, hDx]; exact h4.2.2.1.d
    have hdc : nd ≤ b.cd ∧ b.cd ≤ maxLen := by rw [hnd]; exact ⟨h4.2.2.1.dc, h4.2.2.1.dm⟩
    have hm5 : m ≤ 5 := by rw [hm]; exact hok.n5
    have hk3 : nk ≤ 3 := by rw [hnk]; exact hok.f3
    have hd6 : nd ≤ 6 := by rw [hnd]; exact hok.d6
    have hn0 : (m != m) = false := by simp
    have hn0' : ((m : Int) != (m : Int)) = false := by simp
    have hn1 : (nk != nk) = false := by simp
    have hn1' : ((nk : Int) != (nk : Int)) = false := by simp
    have hfb : ∀ o, o < m → -20000 ≤ hasS (sumR b (o : Nat)) ∧ hasS (sumR b (o : Nat)) ≤ 20000 := fun o ho => hasS_bd (hc.se o (by rw [← hm]; exact ho)).2.2.1
    have HT := Lib.hid (And.intro hos (And.intro hts (And.intro hdd (And.intro hc (And.intro hm (And.intro hnk (And.intro hnd (And.intro hok (And.intro hfb h4.2.1)))))))))
    clear hos hts hdd hc hm hnk hnd hok hfb h4 hOL hTL hDx ha hne
    go_wp2_with fail
    go_loopg [10, 12] m (fun g v10 v12 wr => ∃ k : Nat, k + g = m ∧ v12 = .int .i64 k ∧ v10 = .int .i64 (sumN (fun o => hasS (sumR b (o : Nat))) k) ∧ Below w4.heap.size w4 wr)
    case atStart => exact ⟨0, by omega, rfl, rfl, Below.refl _ _⟩
    case round =>
      obtain ⟨k, hk, rfl, rfl, hb⟩ := hrel
      by_cases hlt : k < m
      · obtain ⟨hs0, hg0, hsb, r, hr, hrb, e1, e2, e3⟩ := HT.out.2.2.2.1.se k (by rw [← HT.out.2.2.2.2.1]; exact hlt)
        obtain ⟨b1, o1, r', rfl, hb1, hr', p0, p1⟩ := Rns.get (HT.out.1.below hb (Nat.le_refl _)) hlt
        rw [hr] at hr'
        cases hr'
        have hiw := H4.out.2.2.1.below hb (Nat.le_refl _)
        have hsm := Sum_any b k wr hiw
        unfold SumR at hsm
        rw [hs0] at hsm
        obtain ⟨sv, hsv⟩ : ∃ sv, sv = sumR b k := ⟨_, rfl⟩
        rw [← hsv] at hsm e1 e2 hsb
        obtain ⟨gr, hgr⟩ : ∃ gr, gr = goneR b k := ⟨_, rfl⟩
        rw [← hgr] at e1 e2 e3
        obtain ⟨y0, y1, y2, y3, y4⟩ := blk5 (bheap H4.out.2.2.2.2 hb (Nat.le_refl _))
        obtain ⟨Sk, hSk⟩ : ∃ S, S = sumN (fun o => hasS (sumR b (o : Nat))) k := ⟨_, rfl⟩
        have hSb := sumN_bd HT.out.2.2.2.2.2.2.2.2.1 k (by omega)
        have hhb := hasS_bd hsb
        rw [← hSk] at hSb
        rw [← hSk]
        have hk5 : (k : Int) ≤ 5 := by omega
        have HK := Lib.hid (And.intro hk (And.intro hb (And.intro hsv (And.intro hgr (And.intro hSk (And.intro hsb hg0))))))
        have hltI : (k : Int) < (m : Int) := by omega
        clear hk hb hsv hgr hSk hs0 hg0 hr hiw
        go_upto_region 14 with (go_at_call 43; refine hsm.mono ?_; rintro e w5 ⟨rfl, hb5⟩; unfold smV)
        obtain ⟨S5, hS5⟩ : ∃ s, s = w5.heap.size := ⟨_, rfl⟩
        obtain ⟨U5, hU5⟩ : ∃ U, U = w5.alloc (Obj.cells #[Value.int .i64 sv.first, .int .i64 sv.born, .int .i64 sv.bought, .int .i64 sv.sold, .int .i64 sv.eaten] 86) := ⟨_, rfl⟩
        rw [← hU5, ← hS5]
        have hbU : Below wr.heap.size wr U5 := by rw [hU5]; exact bal hb5 (Nat.le_refl _) _
        have bS5 : U5.heap[S5]? = some (smO sv.first sv.born sv.bought sv.sold sv.eaten) := by rw [hU5, hS5]; exact alloc_at rfl
        have hbW := HK.out.2.1.trans (hbU.mono HK.out.2.1.size)
        have hgn := Gone_any b k U5 (H4.out.2.2.1.below hbW (Nat.le_refl _))
        unfold GoneR at hgn
        rw [HK.out.2.2.2.2.2.2, ← HK.out.2.2.2.1] at hgn
        have p0U := World.cell?_of_block (a := ⟨b1, o1 + k * 2, none⟩) (hbU.block b1 (cell_lt p0))
        have p1U := World.cell?_of_block (a := ⟨b1, o1 + k * 2 + 1, none⟩) (hbU.block b1 (cell_lt p1))
        rw [p0] at p0U
        rw [p1] at p1U
        have H5 := Lib.hid (And.intro hbW (And.intro bS5 (And.intro p0U p1U)))
        clear hsm hb5 hU5 hS5 hbU bS5 y0 y1 y2 y3 y4 p0 p1 p0U p1U
        obtain ⟨y0, y1, y2, y3, y4⟩ := blk5 (bheap H4.out.2.2.2.2 hbW (Nat.le_refl _))
        clear hbW
        go_upto_region 15 with (go_at_call 42; refine hgn.mono ?_; rintro e w6 ⟨rfl, hb6⟩)
        obtain ⟨S6, hS6⟩ : ∃ s, s = w6.heap.size := ⟨_, rfl⟩
        obtain ⟨V, hV⟩ : ∃ U, U = w6.alloc (Obj.cells #[Value.int .i64 gr.lo, .int .i64 gr.hi] 64) := ⟨_, rfl⟩
        rw [← hV, ← hS6]
        have hbV : Below U5.heap.size U5 V := by rw [hV]; exact bal hb6 (Nat.le_refl _) _
        have bS6 : V.heap[S6]? = some (Obj.cells #[Value.int .i64 gr.lo, .int .i64 gr.hi] 64 (0, 0)) := by rw [hV, hS6]; exact alloc_at rfl
        obtain ⟨g0, g1⟩ := blk2 bS6
        obtain ⟨s0, s1, s2, s3, s4⟩ := blk5c (bheap H5.out.2.1 hbV (Nat.le_refl _))
        have p0 := (World.cell?_of_block (a := ⟨b1, o1 + k * 2, none⟩) (hbV.block b1 (cell_lt H5.out.2.2.1))).trans H5.out.2.2.1
        have p1 := (World.cell?_of_block (a := ⟨b1, o1 + k * 2 + 1, none⟩) (hbV.block b1 (cell_lt H5.out.2.2.2))).trans H5.out.2.2.2
        have hbVW := H5.out.1.trans (hbV.mono H5.out.1.size)
        obtain ⟨Hh, hHh⟩ : ∃ h, h = hasS sv := ⟨_, rfl⟩
        have hha := fun W => hasF9_any sv W (by obtain ⟨a1, a2, a3, a4, a5⟩ := HK.out.2.2.2.2.2.1; exact ⟨by omega, by omega, by omega, by omega, by omega⟩)
        rw [← hHh] at e1 e2 hhb
        have HV := Lib.hid (And.intro hbVW (And.intro hHh bS6))
        have hcS : ∀ d os, Calls Try.prog 44 #[.agg #[.int .i64 sv.first, .int .i64 sv.born, .int .i64 sv.bought, .int .i64 sv.sold, .int .i64 sv.eaten]] (Sort.grow (redrawn V d) os) (fun e w'' => e = .returned (.int .i64 Hh) ∧ ∃ p : Regrown, w'' = Sort.grow (redrawn V p.d) p.os) := fun d os => by rw [hHh]; exact Calls.regrown_of (hha _)
        have HC := Lib.hid hcS
        have k0 := cell_regrown p0
        have k1 := cell_regrown p1
        have k2 := cell_regrown g0
        have k3 := cell_regrown g1
        have k4 := cell_regrown s0
        have k5 := cell_regrown s1
        have k6 := cell_regrown s2
        have k7 := cell_regrown s3
        have k8 := cell_regrown s4
        have c1 : (IntKind.i64.wrap (r.lo + gr.hi) != Hh) = false := by rw [IntWalk.i64_in _ (by omega)]; simp [e1]
        have c2 : (IntKind.i64.wrap (r.hi + gr.lo) != Hh) = false := by rw [IntWalk.i64_in _ (by omega)]; simp [e2]
        have c3 : ¬ gr.lo < 0 := by omega
        have hglo : gr.lo ≤ 30000 := by omega
        have hghi : -30000 ≤ gr.hi ∧ gr.hi ≤ 30000 := by omega
        clear hV hS6 hbV bS6 hbVW hHh hha hcS hgn y0 y1 y2 y3 y4 hb6 e1 e2
        refine wp_region_quiet_below (by kernel_rfl) (by kernel_rfl) ?_
        repeat (quiet_step (exact HC.out _ _))
        refine wpQuiet_nil ?_
        intro _ hw'
        obtain ⟨⟨dq, osq⟩, hw''⟩ := hw'
        subst hw''
        obtain ⟨w7, hW7⟩ : ∃ w3, w3 = Sort.grow (redrawn V dq) osq := ⟨_, rfl⟩
        have hb7 : Below V.heap.size V w7 := by rw [hW7]; exact below_regrown V dq osq
        rw [← hW7]
        have hb7w := HV.out.1.trans (hb7.mono HV.out.1.size)
        have t0 := (World.cell?_of_block (a := ⟨S5, 0, none⟩) (hb7.block S5 (cell_lt s0))).trans s0
        have t1 := (World.cell?_of_block (a := ⟨S5, 1, none⟩) (hb7.block S5 (cell_lt s0))).trans s1
        have t2 := (World.cell?_of_block (a := ⟨S5, 2, none⟩) (hb7.block S5 (cell_lt s0))).trans s2
        have t3 := (World.cell?_of_block (a := ⟨S5, 3, none⟩) (hb7.block S5 (cell_lt s0))).trans s3
        have t4 := (World.cell?_of_block (a := ⟨S5, 4, none⟩) (hb7.block S5 (cell_lt s0))).trans s4
        have hcs := hasF9_any sv w7 (by obtain ⟨a1, a2, a3, a4, a5⟩ := HK.out.2.2.2.2.2.1; exact ⟨by omega, by omega, by omega, by omega, by omega⟩)
        rw [← HV.out.2.1] at hcs
        have H7 := Lib.hid hb7w
        clear hW7 hb7 hb7w k0 k1 k2 k3 k4 k5 k6 k7 k8 s0 s1 s2 s3 s4 c1 c2 c3 p0 p1 g0 g1
        go_wp2_with (go_at_call 44; refine hcs.mono ?_; rintro e w8 ⟨rfl, hb8⟩)
        go_roundg (gk - 1)
        case measure => have := HK.out.1; omega
        case rel => exact ⟨k + 1, by have := HK.out.1; omega, by go_num, by rw [show sumN (fun o => hasS (sumR b (o : Nat))) (k + 1) = sumN (fun o => hasS (sumR b (o : Nat))) k + hasS (sumR b k) from rfl, ← HK.out.2.2.2.2.1, ← HK.out.2.2.1, ← HV.out.2.1], H7.out.trans (hb8.mono H7.out.size)⟩
      · obtain rfl : k = m := by omega
        obtain ⟨Sa, hSa⟩ : ∃ S, S = sumN (fun o => hasS (sumR b (o : Nat))) k := ⟨_, rfl⟩
        have hSb := sumN_bd HT.out.2.2.2.2.2.2.2.2.1 k (by omega)
        rw [← hSa] at hSb ⊢
        have hk5 : (k : Int) ≤ 5 := by omega
        have hsz := hb.size
        obtain ⟨y0, y1, y2, y3, y4⟩ := blk5 (bheap H4.out.2.2.2.2 hb (Nat.le_refl _))
        unfold Hb.vd at y4
        rw [← HT.out.2.2.2.2.2.2.1] at y4
        obtain ⟨w9, hw9⟩ : ∃ w9, w9 = wr := ⟨_, rfl⟩
        subst hw9
        have H9 := Lib.hid (And.intro hb hSa)
        have hDy : Deeds w9 b.Ad nd b.ds := by rw [HT.out.2.2.2.2.2.2.1]; exact (H4.out.2.2.1.below hb (Nat.le_refl _)).d
        obtain ⟨Dy, hDyy⟩ : ∃ D, D = b.Ad := ⟨_, rfl⟩
        rw [← hDyy] at y4 hDy
        have HDy := Lib.hid hDy
        have hlb : ∀ i, i ≤ nd → 0 ≤ ((b.ds.take i).map lostD).sum ∧ ((b.ds.take i).map lostD).sum ≤ 300 * (i : Int) := by
          intro i
          induction i with
          | zero => intro _; simp
          | succ i ih =>
            intro hi
            have hil : i < b.ds.length := by rw [← HT.out.2.2.2.2.2.2.1]; omega
            rw [sum_takeD lostD (List.getElem?_eq_getElem hil)]
            have h1 := ih (by omega)
            have h2 := (HT.out.2.2.2.2.2.2.2.1.dI _ (List.getElem_mem hil)).m
            generalize b.ds[i] = dd at h2 ⊢
            have h3 : 0 ≤ lostD dd ∧ lostD dd ≤ 300 := by unfold lostD; split <;> omega
            omega
        have HLB := Lib.hid hlb
        clear hb hSa hDy hDyy hk hlb
        go_wp2_with fail
        go_loopg [11, 17] nd (fun g v11 v17 wr => ∃ i : Nat, i + g = nd ∧ v17 = .int .i64 i ∧ v11 = .int .i64 (((b.ds.take i).map lostD).sum) ∧ wr = w9)
        case atStart => exact ⟨0, by omega, rfl, by simp, rfl⟩
        case round =>
          obtain ⟨i, hi, rfl, rfl, rfl⟩ := hrel
          by_cases hil : i < nd
          · obtain ⟨bd, od, d, rfl, hbl, hd, e0, e1, e2, e3, e4, e5, -⟩ := Deeds.get HDy.out hil
            have hsn := sum_takeD lostD hd
            have hlo := HLB.out i (by omega)
            obtain ⟨L, hL⟩ : ∃ L, L = ((b.ds.take i).map lostD).sum := ⟨_, rfl⟩
            rw [← hL] at hsn hlo ⊢
            have hm3 := (HT.out.2.2.2.2.2.2.2.1.dI d (List.mem_of_getElem? hd)).m
            obtain ⟨kd, hkd⟩ : ∃ k, k = d.kind := ⟨_, rfl⟩
            obtain ⟨md, hmd⟩ : ∃ k, k = d.many := ⟨_, rfl⟩
            have hlD : lostD d = if kd = 4 then md else 0 := by unfold lostD; rw [hkd, hmd]
            rw [← hkd] at e0
            rw [← hmd] at e5 hm3
            rw [hlD] at hsn
            have hilI : (i : Int) < (nd : Int) := by omega
            have hi6 : (i : Int) ≤ 6 := by omega
            by_cases h4 : kd = 4
            · rw [if_pos h4] at hsn
              have q4 : (kd == 4) = true := by simp [h4]
              have HI := Lib.hid (And.intro hi hsn)
              clear hi hsn hd hL hkd hmd hlD h4
              go_wp2_with fail
              go_roundg (gk - 1)
              case measure => have := HI.out.1; omega
              case rel => exact ⟨i + 1, by have := HI.out.1; omega, by go_num, by rw [HI.out.2], rfl⟩
            · rw [if_neg h4] at hsn
              have q4 : (kd == 4) = false := by simp [h4]
              have HI := Lib.hid (And.intro hi hsn)
              clear hi hsn hd hL hkd hmd hlD h4
              go_wp2_with fail
              go_roundg (gk - 1)
              case measure => have := HI.out.1; omega
              case rel => exact ⟨i + 1, by have := HI.out.1; omega, by go_num, by rw [HI.out.2, Int.add_zero], rfl⟩
          · obtain rfl : i = nd := by omega
            rw [List.take_of_length_le (Nat.le_of_eq HT.out.2.2.2.2.2.2.1.symm)]
            have hlo := HLB.out i (Nat.le_refl _)
            rw [List.take_of_length_le (Nat.le_of_eq HT.out.2.2.2.2.2.2.1.symm)] at hlo
            obtain ⟨L, hL⟩ : ∃ L, L = (b.ds.map lostD).sum := ⟨_, rfl⟩
            rw [← hL] at hlo ⊢
            have HL := Lib.hid hL
            have hi6 : (i : Int) ≤ 6 := by omega
            clear hi hL
            obtain ⟨w8, hw8⟩ : ∃ w8, w8 = wr := ⟨_, rfl⟩
            subst hw8
            go_wp2_with fail
            go_loopg [18, 19, 20] nk (fun g v18 v19 v20 wr => ∃ f q : Nat, f + g = nk ∧ v20 = .int .i64 f ∧ v18 = .int .i64 (sumN (fun f => ((totalR b).getD f ⟨0, 0⟩).lo) f) ∧ v19 = .int .i64 (sumN (fun f => ((totalR b).getD f ⟨0, 0⟩).hi) f) ∧ wr = w8.drewN q)
            case atStart => exact ⟨0, 0, by omega, rfl, rfl, rfl, rfl⟩
            case round =>
              obtain ⟨f, q, hf, rfl, rfl, rfl, rfl⟩ := hrel
              have hgd : ∀ f : Nat, f < nk → 0 ≤ ((totalR b).getD f ⟨0, 0⟩).lo ∧ ((totalR b).getD f ⟨0, 0⟩).hi ≤ 5000 ∧ ((totalR b).getD f ⟨0, 0⟩).lo ≤ ((totalR b).getD f ⟨0, 0⟩).hi := fun f hf => by
                obtain ⟨r, hr, h1, h2, h3⟩ := HT.out.2.2.2.1.tb f (by rw [← HT.out.2.2.2.2.2.1]; exact hf)
                rw [List.getD_eq_getElem?_getD, hr]
                exact ⟨h1, h2, h3⟩
              have hb1 := sumN_bd (n := nk) (f := fun f => ((totalR b).getD f ⟨0, 0⟩).lo) (fun o ho => by have := hgd o ho; omega) f (by omega)
              have hb2 := sumN_bd (n := nk) (f := fun f => ((totalR b).getD f ⟨0, 0⟩).hi) (fun o ho => by have := hgd o ho; omega) f (by omega)
              have hs1 : sumN (fun f => ((totalR b).getD f ⟨0, 0⟩).lo) (f + 1) = sumN (fun f => ((totalR b).getD f ⟨0, 0⟩).lo) f + ((totalR b).getD f ⟨0, 0⟩).lo := rfl
              have hs2 : sumN (fun f => ((totalR b).getD f ⟨0, 0⟩).hi) (f + 1) = sumN (fun f => ((totalR b).getD f ⟨0, 0⟩).hi) f + ((totalR b).getD f ⟨0, 0⟩).hi := rfl
              obtain ⟨s1, hs1'⟩ : ∃ s, s = sumN (fun f => ((totalR b).getD f ⟨0, 0⟩).lo) f := ⟨_, rfl⟩
              obtain ⟨s2, hs2'⟩ : ∃ s, s = sumN (fun f => ((totalR b).getD f ⟨0, 0⟩).hi) f := ⟨_, rfl⟩
              rw [← hs1'] at hs1 hb1
              rw [← hs2'] at hs2 hb2
              rw [← hs1', ← hs2']
              have hf3 : (f : Int) ≤ 3 := by omega
              by_cases hfl : f < nk
              · have hH9 := HT.out.2.1.below H9.out.1 (Nat.le_refl _)
                obtain ⟨b5, o5, r, rfl, hb5, hr, p0, p1⟩ := Rns.get hH9 hfl
                have hgf := hgd f hfl
                have hre : (totalR b).getD f ⟨0, 0⟩ = r := by rw [List.getD_eq_getElem?_getD, hr]; rfl
                rw [hre] at hgf hs1 hs2
                have hflI : (f : Int) < (nk : Int) := by omega
                have HF := Lib.hid (And.intro hf (And.intro hs1 hs2))
                clear hf hs1 hs2 hs1' hs2' hgd hre hr hH9
                go_upto_region 27 with (fail)
                go_quiet (fail)
                go_wp2_with fail
                go_roundg (gk - 1)
                case measure => have := HF.out.1; omega
                case rel => exact ⟨f + 1, q + nq, by have := HF.out.1; omega, by go_num, by rw [HF.out.2.1], by rw [HF.out.2.2], rfl⟩
              · obtain rfl : f = nk := by omega
                have hfin := HT.out.2.2.2.1.fin
                rw [← HT.out.2.2.2.2.1, ← HT.out.2.2.2.2.2.1, ← H9.out.2, ← HL.out, ← hs1', ← hs2'] at hfin
                obtain ⟨hf1, hf2⟩ := hfin
                clear hf hs1 hs2 hs1' hs2' hgd
                go_wp2_with (go_at_call 23; refine (herding_any _).mono ?_; rintro e w5 ⟨rfl, hb5⟩)
                go_ret
                have h1 := HT.out.2.2.2.2.2.2.2.2.2
                have h2 := below_drewN (h1.trans (H9.out.1.mono h1.size)) q
                exact ⟨rfl, h2.trans (hb5.mono h2.size)⟩
  · have hgo := Gone_any b 0 w4 H4.out.2.2.1
    unfold GoneR at hgo
    rw [goneE_zero HW.out.2.2.2, ha] at hgo
    rw [ha]
    obtain ⟨rg, hrg⟩ : ∃ rg, rg = goneR b 0 := ⟨_, rfl⟩
    rw [← hrg] at hgo
    unfold Hb.v at hgo
    clear hrg
    go_wp2_with (first
      | (go_at_call 42; refine hgo.mono ?_; rintro e w5 ⟨rfl, hb5⟩; have HB5 := Lib.hid hb5; clear hb5)
      | (go_at_call 23; refine (herding_any _).mono ?_; rintro e w6 ⟨rfl, hb6⟩))
    go_ret
    have h5 := H4.out.2.1.trans (HB5.out.mono H4.out.2.1.size)
    exact ⟨rfl, (bal h5 (Nat.le_refl _) _).trans (hb6.mono (by have := h5.size; simp; omega))⟩
end Go.Proofs.Ytmennjmjakdkcaa
namespace Go.Proofs.Ytmennjmjakdkcaa
open Go.RowKit
set_option linter.unusedVariables false

theorem ints_of {w : World} {a : Option Addr} {len cap : Nat} {zs : List Int}
    (h : (a = none ∧ len = 0 ∧ cap = 0 ∧ zs = []) ∨ ∃ x, a = some x ∧ len ≤ cap ∧ cap ≤ maxLen ∧ zs.length = cap ∧ (∀ i, i < zs.length → w.cell? (x.add i) = some (.int .i64 (zs.getD i 0))) ∧ ∀ n ∈ zs, (Lit.int .i64 n).wf = true) :
    ∃ nums, Ints w a len nums ∧ len ≤ cap ∧ cap ≤ 9223372036854775807 ∧ (a = none → cap = 0) := by
  rcases h with ⟨rfl, rfl, rfl, rfl⟩ | ⟨x, rfl, h1, h2, h3, h4, h5⟩
  · exact ⟨[], Sl.nil_, Nat.le_refl _, by omega, fun _ => rfl⟩
  · have h2' : cap ≤ 9223372036854775807 := h2
    refine ⟨zs.take len, ⟨by rw [List.length_take]; omega, fun hn => ?_⟩, h1, h2', fun h => by cases h⟩
    obtain ⟨b, off, rfl, hc⟩ := ints_at h4 (by omega)
    refine ⟨b, off, rfl, fun i y hy j u hu => ?_⟩
    rw [List.getElem?_take] at hy
    split at hy
    · have hlt := (List.getElem?_eq_some_iff.1 hy).1
      cases j with
      | zero =>
        simp only [eInt, List.getElem?_cons_zero, Option.some.injEq] at hu
        subst hu
        have := hc i (by omega)
        rw [Nat.mul_one, Nat.add_zero]
        rw [this, List.getD_eq_getElem?_getD, hy]
        rfl
      | succ j => simp [eInt] at hu
    · cases hy
end Go.Proofs.Ytmennjmjakdkcaa
