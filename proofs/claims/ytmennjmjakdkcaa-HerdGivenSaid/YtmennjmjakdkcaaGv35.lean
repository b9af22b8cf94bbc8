/- HerdGiven 35: Given, Frame. -/
import Derived.Test.YtmennjmjakdkcaaGv34
import Derived.Test.YtmennjmjakdkcaaGv01
import Derived.OpenShut
namespace Go.Proofs.Ytmennjmjakdkcaa
open Go.RowKit
set_option linter.unusedVariables false
set_option linter.unusedSimpArgs false

theorem rowG_pre {k : Int} {f : Nat} {row : List Rn} {j : Nat} : ∀ m, j ≤ m → m ≤ row.length → rowG k f row j <+: rowG k f row m
  | 0, h, _ => by obtain rfl : j = 0 := by omega
                  exact List.prefix_rfl
  | m + 1, h, hm => by
    rcases Nat.lt_or_ge j (m + 1) with h1 | h1
    · refine (rowG_pre m (by omega) (by omega)).trans ?_
      rw [rowG_succ (List.getElem?_eq_getElem (show m < row.length by omega))]
      exact List.prefix_append _ _
    · obtain rfl : j = m + 1 := by omega
      exact List.prefix_rfl
theorem giftsTo_pre {ks : List Int} {T : List (List Rn)} {k : Nat} : ∀ m, k ≤ m → giftsTo ks T k <+: giftsTo ks T m
  | 0, h => by obtain rfl : k = 0 := by omega
               exact List.prefix_rfl
  | m + 1, h => by
    rcases Nat.lt_or_ge k (m + 1) with h1 | h1
    · refine (giftsTo_pre m (by omega)).trans ?_
      unfold giftsTo
      rw [List.range_succ, List.flatMap_append]
      exact List.prefix_append _ _
    · obtain rfl : k = m + 1 := by omega
      exact List.prefix_rfl
/-- the gift at hand -/
theorem gifts_at {ks : List Int} {T : List (List Rn)} {k o : Nat} {row : List Rn} {x : Int} {r : Rn} (hk : T[k]? = some row) (hx : ks[k]? = some x) (ho : row[o]? = some r) (hc : (o : Int) ≠ x ∧ 0 < r.hi) :
    (giftsL ks T)[(giftsTo ks T k).length + (rowG x k row o).length]? = some ⟨k, o, r⟩ := by
  have hkT := (List.getElem?_eq_some_iff.1 hk).1
  have hor := (List.getElem?_eq_some_iff.1 ho).1
  obtain ⟨t1, e1⟩ := giftsTo_pre (ks := ks) (T := T) (k := k + 1) T.length hkT
  obtain ⟨t2, e2⟩ := rowG_pre (k := x) (f := k) (row := row) (j := o + 1) row.length hor (Nat.le_refl _)
  have e3 : giftsL ks T = giftsTo ks T k ++ (rowG x k row o ++ ([⟨k, o, r⟩] ++ (t2 ++ t1))) := by
    show giftsTo ks T T.length = _
    rw [← e1, giftsTo_succ hk hx, ← e2, rowG_succ ho, if_pos (by simp [hc.1, hc.2])]
    simp [List.append_assoc]
  rw [e3, List.getElem?_append_right (by omega), Nat.add_sub_cancel_left, List.getElem?_append_right (by omega), Nat.sub_self]
  rfl
theorem ends_bd {b : Hb} {deed owner : Int} (h : b.chk = 0) : ∀ x ∈ b.ends deed owner, HBd 1000 x := by
  intro x hx
  have hk := checkH_ok h
  exact (endsTo_bd hk.f3 hk.n5 hk.rb hk.dI _ x hx).mono (by have := hk.d6; omega)
theorem askE_two {b : Hb} (h : b.chk = 0) : askE b = 0 ∧ b.ends (-1) 0 ≠ [] ∨ askE b = 11 ∧ b.ends (-1) 0 = [] := by
  by_cases h' : b.ends (-1) 0 = []
  · exact .inr ⟨askE_none h h', h'⟩
  · exact .inl ⟨askE_ok h h', h'⟩
theorem has_hi {b : Hb} (h : b.chk = 0) (ha : askE b = 0) : (hasR b).length = b.ks.length ∧ ∀ r ∈ hasR b, r.length = b.l.length ∧ ∀ x ∈ r, 0 ≤ x.hi := by
  have hk := checkH_ok h
  have hne : b.ends (-1) 0 ≠ [] := by
    rcases askE_two h with h | h
    · exact h.2
    · rw [h.1] at ha; cases ha
  unfold hasR
  rw [if_pos ha]
  refine ⟨(hasL_rows _ _ _).1, fun r hr => ⟨(hasL_rows _ _ _).2 r hr, fun x hx => ?_⟩⟩
  unfold hasL at hr
  obtain ⟨f, hf, rfl⟩ := List.mem_map.1 hr
  obtain ⟨o, ho, rfl⟩ := List.mem_map.1 hx
  obtain ⟨-, ⟨y, hy, e⟩, -⟩ := rangeE_mem (f := fun h => hget h f o) hne
  rw [e]
  have h3 := hk.f3
  have h5 := hk.n5
  exact ((ends_bd h y hy).get (by have := List.mem_range.1 hf; omega) (by have := List.mem_range.1 ho; omega)).1
theorem Gfs.get {w : World} {A : Option Addr} {n : Nat} {l : List Gf} (h : Sl eGf 4 w A n l) {k : Nat} (hk : k < n) :
    ∃ b off m, A = some ⟨b, off, none⟩ ∧ b < w.heap.size ∧ l[k]? = some m ∧ w.cell? ⟨b, off + k * 4, none⟩ = some (.int .i64 m.f) ∧ w.cell? ⟨b, off + k * 4 + 1, none⟩ = some (.int .i64 m.o) ∧ w.cell? ⟨b, off + k * 4 + 2, none⟩ = some (.int .i64 m.r.lo) ∧ w.cell? ⟨b, off + k * 4 + 3, none⟩ = some (.int .i64 m.r.hi) := by
  obtain ⟨b, off, x, hA, hx, hc⟩ := h.at_ hk
  have h0 := hc 0 _ rfl
  exact ⟨b, off, x, hA, cell_lt h0, hx, h0, hc 1 _ rfl, hc 2 _ rfl, hc 3 _ rfl⟩
set_option maxRecDepth 100000 in
set_option maxHeartbeats 2000000 in
theorem HerdGiven_any (A : Option Addr) (n c : Nat) (nums : List Int) (w : World) (hl : Ints w A n nums) (hn : n ≤ 9223372036854775807) :
    Calls Try.prog 6 #[.slice A n c] w fun e w' => e = .returned (.bool true) ∧ Below w.heap.size w w' := by
  go_enter Try.func6, Try.ntmps6
  go_wp2_with fail
  refine (newHand_any A n c nums _ hl hn).mono ?_
  rintro e w1 ⟨rfl, hh, hb1, hz1⟩
  clear hl hz1
  go_wp2_with fail
  refine (herdOf_any w.heap.size 0 4 3 5 _ hh (by omega) (by omega) (by omega) (by omega)).mono ?_
  rintro e w2 ⟨b, rfl, hck, hln, hkn, hdn, hO, hd2⟩
  unfold Hb.v
  have hB2 := hb1.trans (hd2.below (Nat.le_refl _) hb1.size)
  clear hh hb1 hd2 hln hkn hdn
  go_upto_region 2 with (fail)
  obtain ⟨B, hB⟩ : ∃ B, B = w2.heap.size := ⟨_, rfl⟩
  obtain ⟨W, hW⟩ : ∃ W, W = w2.alloc (Obj.cells #[Value.int .i64 b.t, .slice b.A b.l.length b.c, .slice b.Ak b.ks.length b.ck, .slice b.Ah b.hs.length b.ch, .slice b.Ad b.ds.length b.cd] 29) := ⟨_, rfl⟩
  rw [← hW, ← hB]
  have bW : W.heap[B]? = some (boxO b.t b.vm b.vk b.vh b.vd) := by rw [hW, hB]; exact alloc_at rfl
  have hiW : HbIn W b := by rw [hW]; exact hO.inn.al _
  have hBW : Below w.heap.size w W := by rw [hW]; exact bal hB2 (Nat.le_refl _) _
  clear hW hB hB2 hO
  obtain ⟨x0, x1, x2, x3, x4⟩ := blk5 bW
  have ht := Has_any b W hiW
  unfold Hb.v at ht
  have HW := Lib.hid (And.intro bW (And.intro hiW (And.intro hBW hck)))
  clear bW hiW hBW hck
  go_upto_region 3 with (go_at_call 32; refine ht.mono ?_; rintro e w3 ⟨⟨v, rfl, ho3⟩, hb3⟩)
  have bx3 := bheap HW.out.1 hb3 (Nat.le_refl _)
  have hg := Gives_any b w3 (HW.out.2.1.below hb3 (Nat.le_refl _))
  unfold Hb.v at hg
  have H3 := Lib.hid (And.intro ho3 hb3)
  clear ho3 hb3 ht x0 x1 x2 x3 x4
  obtain ⟨x0, x1, x2, x3, x4⟩ := blk5 bx3
  have HX3 := Lib.hid bx3
  clear bx3
  go_upto_region 4 with (go_at_call 33; refine hg.mono ?_; rintro e w4 ⟨⟨u, rfl, ho4⟩, hb4⟩)
  have bx4 := bheap HX3.out hb4 (Nat.le_refl _)
  have hB4 : Below w.heap.size w w4 := HW.out.2.2.1.trans ((H3.out.2.trans (hb4.mono H3.out.2.size)).mono HW.out.2.2.1.size)
  have hi4 : HbIn w4 b := (HW.out.2.1.below H3.out.2 (Nat.le_refl _)).below hb4 (Nat.le_refl _)
  have ho3 := H3.out.1.below hb4 (Nat.le_refl _)
  have H4 := Lib.hid (And.intro ho4 (And.intro hB4 (And.intro hi4 (And.intro ho3 bx4))))
  clear ho4 hB4 hi4 ho3 hb4 hg x0 x1 x2 x3 x4
  obtain ⟨x0, x1, x2, x3, x4⟩ := blk5 bx4
  clear bx4
  rcases askE_two HW.out.2.2.2 with ⟨ha, hne⟩ | ⟨ha, hno⟩
  · rw [ha]
    have h4 := H4.out
    rw [ha, if_pos rfl] at h4
    obtain ⟨hTl, hTr⟩ := has_hi HW.out.2.2.2 ha
    obtain ⟨T, hT⟩ : ∃ T, T = hasR b := ⟨_, rfl⟩
    rw [← hT] at h4 hTl hTr
    obtain ⟨At, ct, rfl, htb, htc, htm⟩ := h4.2.2.2.1.form lenRn
    obtain ⟨Ag, cg, rfl, hgs, hgc, hgm⟩ := h4.1.form lenGf
    obtain ⟨nk, hnk⟩ : ∃ nk, nk = b.ks.length := ⟨_, rfl⟩
    obtain ⟨ng, hng⟩ : ∃ ng, ng = (giftsL b.ks T).length := ⟨_, rfl⟩
    rw [hTl] at htb htc ⊢
    rw [← hng] at hgs hgc ⊢
    have hk4 := h4.2.2.1.k
    have hkc4 := h4.2.2.1.kc
    have hkm4 := h4.2.2.1.km
    unfold Hb.vk at x2
    rw [← hnk] at htb htc hk4 hkc4 x2 hTl ⊢
    obtain ⟨Kx, hKx⟩ : ∃ K, K = b.Ak := ⟨_, rfl⟩
    rw [← hKx] at hk4 x2 ⊢
    clear hKx
    have hok := checkH_ok HW.out.2.2.2
    have hnk3 : nk ≤ 3 := by rw [hnk]; exact hok.f3
    have hl5 : b.l.length ≤ 5 := hok.n5
    have hn0 : (nk != nk) = false := by simp
    have hn0' : ((nk : Int) != (nk : Int)) = false := by simp
    have HT := Lib.hid (And.intro htb (And.intro hgs (And.intro hk4 (And.intro hTl (And.intro hTr (And.intro hng h4.2.1))))))
    clear htb hgs hk4 hTl hTr h4 hng hok hne ha hT hnk
    go_wp2_with fail
    go_loopg [8, 9] nk (fun g v8 v9 wr => ∃ k q : Nat, k + g = nk ∧ v9 = .int .i64 k ∧ v8 = .int .i64 ((giftsTo b.ks T k).length : Nat) ∧ wr = w4.drewN q)
    case atStart => exact ⟨0, 0, by omega, rfl, rfl, rfl⟩
    case round =>
      obtain ⟨k, q, hk, rfl, rfl, rfl⟩ := hrel
      by_cases hlt : k < nk
      · obtain ⟨b1, o1, B1, row, c1, rfl, hb1, hrow, hc1, hri, hrc, hrm⟩ := HT.out.1.get hlt
        obtain ⟨b2, o2, x, rfl, hb2, hx, hc2⟩ := Ints.get HT.out.2.2.1 hlt
        have hrl := (HT.out.2.2.2.2.1 row (List.mem_of_getElem? hrow)).1
        obtain ⟨nr, hnr⟩ : ∃ nr, nr = row.length := ⟨_, rfl⟩
        rw [← hnr] at hc1 hri hrc
        obtain ⟨at0, hat0⟩ : ∃ a, a = (giftsTo b.ks T k).length := ⟨_, rfl⟩
        rw [← hat0]
        have hat0b : at0 ≤ 15 := by
          have := giftsTo_len (ks := b.ks) (T := T) (fun r hr => by have := (HT.out.2.2.2.2.1 r hr).1; omega) k (by have := HT.out.2.2.2.1; omega)
          omega
        have hnr5 : nr ≤ 5 := by omega
        have HK := Lib.hid (And.intro hk (And.intro hrow (And.intro hx (And.intro hri (And.intro hnr hat0)))))
        have i1 : (k : Int) < (nk : Int) := by omega
        clear hk hrow hx hri hnr hat0 hrl
        go_wp2_with fail
        obtain ⟨go, hgo⟩ : ∃ go, go = gk := ⟨_, rfl⟩
        subst hgo
        go_loopg [8, 10] nr (fun g v8 v10 wr => ∃ o q : Nat, o + g = nr ∧ v10 = .int .i64 o ∧ v8 = .int .i64 ((at0 + (rowG x k row o).length : Nat) : Int) ∧ wr = w4.drewN q)
        case atStart => exact ⟨0, q, by omega, rfl, rfl, rfl⟩
        case round =>
          obtain ⟨o, q, ho, rfl, rfl, rfl⟩ := hrel
          by_cases hlo : o < nr
          · obtain ⟨b3, o3, r, rfl, hb3, hr, hr0, hr1⟩ := Rns.get HK.out.2.2.2.1 hlo
            have i2 : (o : Int) < (nr : Int) := by omega
            have hrh : 0 ≤ r.hi := (HT.out.2.2.2.2.1 row (List.mem_of_getElem? HK.out.2.1)).2 r (List.mem_of_getElem? hr)
            obtain ⟨a1, ha1⟩ : ∃ a, a = at0 + (rowG x k row o).length := ⟨_, rfl⟩
            have hs := rowG_succ (k := x) (f := k) hr
            have ha15 : a1 ≤ 20 := by have := rowG_len x k row o; omega
            have hcase : (o : Int) = x ∨ (o : Int) ≠ x ∧ r.hi = 0 ∨ ((o : Int) ≠ x ∧ 0 < r.hi) := by omega
            rcases hcase with he | ⟨he, hz⟩ | ⟨he, hz⟩
            · have e1 : ((o : Int) == x) = true := by simp [he]
              rw [if_neg (by simp [he]), List.append_nil] at hs
              have HO := Lib.hid (And.intro ho (And.intro ha1 hs))
              rw [← ha1]
              clear ho ha1 hs he hr
              go_wp2_with fail
              go_roundg (gk - 1)
              case measure => have := HO.out.1; omega
              case rel => exact ⟨o + 1, q, by have := HO.out.1; omega, by go_num, by rw [HO.out.2.2, HO.out.2.1], rfl⟩
            · have e1 : ((o : Int) == x) = false := by simp [he]
              have e2 : (r.hi == 0) = true := by simp [hz]
              rw [if_neg (by simp [hz]), List.append_nil] at hs
              have HO := Lib.hid (And.intro ho (And.intro ha1 hs))
              rw [← ha1]
              clear ho ha1 hs he hr hz hrh
              go_wp2_with fail
              go_roundg (gk - 1)
              case measure => have := HO.out.1; omega
              case rel => exact ⟨o + 1, q, by have := HO.out.1; omega, by go_num, by rw [HO.out.2.2, HO.out.2.1], rfl⟩
            · have e1 : ((o : Int) == x) = false := by simp [he]
              have e2 : (r.hi == 0) = false := by simp; omega
              rw [if_pos (by simp [he, hz])] at hs
              have hga := gifts_at HK.out.2.1 HK.out.2.2.1 hr ⟨he, hz⟩
              rw [← HK.out.2.2.2.2.2, ← ha1] at hga
              have hag : a1 < ng := by rw [HT.out.2.2.2.2.2.1]; exact (List.getElem?_eq_some_iff.1 hga).1
              obtain ⟨b4, o4, gf, rfl, hb4, hgf, g0, g1, g2, g3⟩ := Gfs.get HT.out.2.1 hag
              rw [hga] at hgf
              cases hgf
              have i3 : ¬ (ng : Int) ≤ (a1 : Int) := by omega
              have i4 : (a1 : Int) < (ng : Int) := by omega
              have HO := Lib.hid (And.intro ho (And.intro ha1 hs))
              rw [← ha1]
              clear ho ha1 hs he hr hz hrh hga
              go_upto_region 16 with (fail)
              go_quiet (fail)
              go_wp2_with fail
              go_roundg (gk - 1)
              case measure => have := HO.out.1; omega
              case rel => exact ⟨o + 1, q + nq, by have := HO.out.1; omega, by go_num, by rw [HO.out.2.2, List.length_append, List.length_singleton, ← Nat.add_assoc, ← HO.out.2.1]; go_num, rfl⟩
          · obtain rfl : o = nr := by omega
            obtain ⟨a1, ha1⟩ : ∃ a, a = at0 + (rowG x k row o).length := ⟨_, rfl⟩
            have ha15 : a1 ≤ 20 := by have := rowG_len x k row o; omega
            rw [← ha1]
            have HA1 := Lib.hid ha1
            clear ha1 ho
            go_wp2_with fail
            go_roundg (go - 1)
            case measure => have := HK.out.1; omega
            case rel =>
              refine ⟨k + 1, q, by have := HK.out.1; omega, by go_num, ?_, rfl⟩
              have h := HK.out
              rw [giftsTo_succ h.2.1 h.2.2.1, List.length_append, ← h.2.2.2.2.2, ← h.2.2.2.2.1, ← HA1.out]
      · obtain rfl : k = nk := by omega
        have hg : (giftsTo b.ks T k).length = ng := by rw [HT.out.2.2.2.2.2.1, ← HT.out.2.2.2.1]; rfl
        rw [hg]
        clear hk hg
        have hn9 : ((ng : Int) == (ng : Int)) = true := by simp
        go_wp2_with (go_at_call 23; refine (herding_any _).mono ?_; rintro e w5 ⟨rfl, hb5⟩)
        go_ret
        have hb := below_drewN HT.out.2.2.2.2.2.2 q
        exact ⟨rfl, hb.trans (hb5.mono hb.size)⟩
  · rw [ha]
    go_wp2_with (go_at_call 23; refine (herding_any _).mono ?_; rintro e w5 ⟨rfl, hb5⟩)
    go_ret
    exact ⟨rfl, H4.out.2.1.trans (hb5.mono H4.out.2.1.size)⟩
end Go.Proofs.Ytmennjmjakdkcaa
namespace Go.Proofs.Ytmennjmjakdkcaa
open Go.RowKit
set_option linter.unusedVariables false

theorem ints_of {w : World} {a : Option Addr} {len cap : Nat} {zs : List Int}
    (h : (a = none ∧ len = 0 ∧ cap = 0 ∧ zs = []) ∨ ∃ x, a = some x ∧ len ≤ cap ∧ cap ≤ maxLen ∧ zs.length = cap ∧ (∀ i, i < zs.length → w.cell? (x.add i) = some (.int .i64 (zs.getD i 0))) ∧ ∀ n ∈ zs, (Lit.int .i64 n).wf = true) :
    ∃ nums, Ints w a len nums ∧ len ≤ cap ∧ cap ≤ 9223372036854775807 ∧ (a = none → cap = 0) := by
  rcases h with ⟨rfl, rfl, rfl, rfl⟩ | ⟨x, rfl, h1, h2, h3, h4, h5⟩
  · exact ⟨[], Sl.nil_, Nat.le_refl _, by omega, fun _ => rfl⟩
  · have h2' : cap ≤ 9223372036854775807 := h2
    refine ⟨zs.take len, ⟨by rw [List.length_take]; omega, fun hn => ?_⟩, h1, h2', fun h => by cases h⟩
    obtain ⟨b, off, rfl, hc⟩ := ints_at h4 (by omega)
    refine ⟨b, off, rfl, fun i y hy j u hu => ?_⟩
    rw [List.getElem?_take] at hy
    split at hy
    · have hlt := (List.getElem?_eq_some_iff.1 hy).1
      cases j with
      | zero =>
        simp only [eInt, List.getElem?_cons_zero, Option.some.injEq] at hu
        subst hu
        have := hc i (by omega)
        rw [Nat.mul_one, Nat.add_zero]
        rw [this, List.getD_eq_getElem?_getD, hy]
        rfl
      | succ j => simp [eInt] at hu
    · cases hy
end Go.Proofs.Ytmennjmjakdkcaa
