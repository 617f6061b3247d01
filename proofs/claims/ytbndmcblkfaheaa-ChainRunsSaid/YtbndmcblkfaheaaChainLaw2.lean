/- Proved: what link, walk of package scutagelaw08 answer of raw words; what its laws first ask answers true. -/
import Derived.Test.YtbndmcblkfaheaaChainLaw
namespace Go.Proofs.Ytbndmcblkfaheaa.Chain
open Go.RowKit Go.Proofs.Ytbndmcblkfaheaa.H Go.Proofs.Ytbndmcblkfaheaa.Words Go.Proofs.Ytbndmcblkfaheaa.Mem
set_option linter.unusedVariables false
set_option linter.unusedSimpArgs false

theorem pig : ∀ (n : Nat) (l : List Int), l.Nodup → (∀ x ∈ l, 0 ≤ x ∧ x < (n : Int)) → l.length ≤ n
  | 0, l, _, h => by
    cases l with
    | nil => simp
    | cons x r => have := h x (by simp); omega
  | n + 1, l, hn, h => by
    by_cases hm : (n : Int) ∈ l
    · obtain ⟨s, t, rfl⟩ := List.append_of_mem hm
      have hp : (s ++ (n : Int) :: t).Perm ((n : Int) :: (s ++ t)) := List.perm_middle
      have hn2 := (hp.nodup_iff).1 hn
      rw [List.nodup_cons] at hn2
      have := pig n (s ++ t) hn2.2 (fun x hx => by
        have h1 := h x (by rw [List.mem_append] at hx ⊢; exact hx.elim .inl (fun h => .inr (List.mem_cons_of_mem _ h)))
        have h2 : x ≠ (n : Int) := fun e => hn2.1 (e ▸ hx)
        omega)
      simp at this ⊢
      omega
    · have := pig n l hn (fun x hx => by
        have h1 := h x hx
        have h2 : x ≠ (n : Int) := fun e => hm (e ▸ hx)
        omega)
      omega

theorem go_neg (l : List Int) (p : Nat) (k : Int) (m : Nat) (o : List Int) : goL l p k m (-1) o = none := by
  cases m with
  | zero => unfold goL; rw [if_neg (by omega)]
  | succ m => unfold goL; rw [if_neg (by omega)]

/-- what a chain that is gone through comes to, holds each number once -/
theorem go_nodup (l : List Int) (p : Nat) (k : Int) : ∀ (m : Nat) (a : Int) (o r : List Int), o.Nodup → (∀ x ∈ o, 0 ≤ x ∧ x < (nc k : Int)) → goL l p k m a o = some r → r.Nodup ∧ ∀ x ∈ r, 0 ≤ x ∧ x < (nc k : Int)
  | 0, a, o, r, h1, h2, h => by
    unfold goL at h
    split at h
    · injection h with h; rw [← h]; exact ⟨h1, h2⟩
    · cases h
  | m + 1, a, o, r, h1, h2, h => by
    unfold goL at h
    split at h
    · rename_i hc
      split at h
      · cases h
      · refine go_nodup l p k m _ _ r ?_ ?_ h
        · rw [List.nodup_append]
          refine ⟨h1, by simp, ?_⟩
          intro x hx y hy e
          simp at hy
          exact hc.2.2 (by rw [← hy, ← e]; exact hx)
        · intro x hx
          rw [List.mem_append, List.mem_singleton] at hx
          rcases hx with hx | rfl
          · exact h2 x hx
          · exact ⟨hc.1, hc.2.1⟩
    · cases h

theorem go_many (l : List Int) (p : Nat) (k : Int) (m : Nat) (a : Int) (h : nc k < m) : goL l p k m a [] = none := by
  cases hx : goL l p k m a [] with
  | none => rfl
  | some r =>
    have h1 := go_nodup l p k m a [] r List.nodup_nil (by simp) hx
    have h2 := pig _ r h1.1 h1.2
    have h3 := go_len l p k m a [] r hx
    simp at h3
    omega

def walkS (l : List Int) (p : Nat) (k f n : Int) : Option (List Int) := if n < 0 then none else goL l p k n.toNat f []

theorem walk_all (l : List Int) (p : Nat) (k f n : Int) (hp : p < 64) (hk : 0 < nc k) (hl : 32 * p + 32 ≤ l.length) : walkS l p k f n = allS l p k f n := by
  have ho : Op l p k := ⟨by omega, by omega, hk, by omega⟩
  unfold walkS allS
  by_cases h1 : n < 0
  · rw [if_pos h1, if_neg (fun h => by have := h.2.1; omega)]
  by_cases h2 : n ≤ (nc k : Int)
  · rw [if_neg h1, if_pos ⟨ho, by omega, h2⟩]
    rfl
  · rw [if_neg h1, if_neg (fun h => h2 h.2.2)]
    exact go_many l p k _ _ (by omega)

attribute [local irreducible] nc sz

set_option maxHeartbeats 6400000 in
theorem wlink_any (A : Option Addr) (c : Nat) (l : List Int) (p : Nat) (k : Int) (i : Nat) (hp : p < 64) (hi : i < nc k) (hl : 32 * p + 32 ≤ l.length) (hl2 : l.length ≤ 100000) (w : World) (hr : Rd w (.slice A l.length c) l.length 1 (ints l)) :
    Calls Try.prog 24 #[.slice A l.length c, .int .i64 p, .int .i64 k, .int .i64 i] w (Same w (.int .i64 ((lk l p k i).getD (-1)))) := by
  unfold lk
  have hin := cell_in hi
  have hn := nc_le k
  have HS := Lib.hid (fun W => rsize_any k W)
  have HC := Lib.hid (fun W => rcells_any k W)
  obtain ⟨t, ht⟩ : ∃ t, t = 32 * p + i * sz k := ⟨_, rfl⟩
  obtain ⟨u, hu⟩ : ∃ u, u = i * sz k := ⟨_, rfl⟩
  rw [← hu] at ht hin
  rw [← hu, ← ht]
  have hlt : t < l.length := by omega
  have e1 : (i : Int) * (sz k : Int) = (u : Int) := by rw [hu]; simp
  have e2 : 32 * (p : Int) + (u : Int) = (t : Int) := by omega
  obtain ⟨x, hx⟩ : ∃ x, l[t]? = some x := ⟨l[t], List.getElem?_eq_getElem hlt⟩
  rw [hx]
  obtain ⟨ad, rfl, x0a⟩ := rd_at hr t hlt
  have hxx : l[t] = x := by rw [List.getElem?_eq_getElem hlt] at hx; injection hx
  rw [hxx] at x0a
  have X0 := Lib.hid x0a
  have HT := Lib.hid hlt
  obtain ⟨n, hnn⟩ : ∃ n, n = nc k := ⟨_, rfl⟩
  rw [← hnn] at hn HC ⊢
  obtain ⟨s, hs⟩ : ∃ s, s = sz k := ⟨_, rfl⟩
  rw [← hs] at HS e1 hin
  obtain ⟨L, hL⟩ : ∃ L, L = l.length := ⟨_, rfl⟩
  rw [← hL] at hlt hl2 ⊢
  have i0 : (n : Int) ≤ 16 := by omega
  have i00 : (0 : Int) ≤ (n : Int) := Int.natCast_nonneg _
  have i3 : (0 : Int) ≤ (t : Int) := Int.natCast_nonneg _
  have i4 : (t : Int) < (L : Int) := by omega
  have i5 : (p : Int) < 64 := by omega
  have i6 : (0 : Int) ≤ (p : Int) := Int.natCast_nonneg _
  have i7 : (u : Int) ≤ 32 := by omega
  have i8 : (0 : Int) ≤ (u : Int) := Int.natCast_nonneg _
  have i9 : (0 : Int) ≤ (i : Int) := Int.natCast_nonneg _
  have i10 : (i : Int) ≤ 16 := by omega
  have i11 : (s : Int) ≤ 32 := by omega
  clear hin hr ht hu hp hi hl hnn hx hn hxx hs hL x0a
  dsimp only
  by_cases h1 : 0 ≤ x
  · rw [if_pos (.inl h1)]
    have g1 : decide (-1 < x) = true := decide_eq_true (by omega)
    go_enter Try.func24, Try.ntmps24
    go_wp2_with fail
    with_reducible refine (HC.out _).mono ?_
    rintro e w1 ⟨rfl, hb1⟩
    have F1 := Lib.hid (show Fr No w w1 from Fr.then_below (by repeat (first | exact Fr.refl _ _ | apply Fr.drewN | apply Fr.drew | apply Fr.alloc)) hb1)
    clear hb1
    go_wp2_with fail
    with_reducible refine (HS.out _).mono ?_
    rintro e w2 ⟨rfl, hb2⟩
    have F2 := Lib.hid (show Fr No w w2 from Fr.then_below (by repeat (first | exact F1.out | apply Fr.drewN | apply Fr.drew | apply Fr.alloc)) hb2)
    have x0 := F2.out.cell X0.out (fun h => h)
    clear hb2
    go_wp2_with fail
    go_ret
    exact ⟨rfl, F2.out.below (Nat.le_refl _) (fun _ h => h.elim)⟩
  by_cases h2 : x < -1 - (n : Int)
  · rw [if_pos (.inr h2)]
    have g1 : decide (-1 < x) = false := decide_eq_false (by omega)
    clear h1
    go_enter Try.func24, Try.ntmps24
    go_wp2_with fail
    with_reducible refine (HC.out _).mono ?_
    rintro e w1 ⟨rfl, hb1⟩
    have F1 := Lib.hid (show Fr No w w1 from Fr.then_below (by repeat (first | exact Fr.refl _ _ | apply Fr.drewN | apply Fr.drew | apply Fr.alloc)) hb1)
    clear hb1
    go_wp2_with fail
    with_reducible refine (HS.out _).mono ?_
    rintro e w2 ⟨rfl, hb2⟩
    have F2 := Lib.hid (show Fr No w w2 from Fr.then_below (by repeat (first | exact F1.out | apply Fr.drewN | apply Fr.drew | apply Fr.alloc)) hb2)
    have x0 := F2.out.cell X0.out (fun h => h)
    clear hb2
    go_wp2_with fail
    go_ret
    exact ⟨rfl, F2.out.below (Nat.le_refl _) (fun _ h => h.elim)⟩
  · rw [if_neg (by omega)]
    have g1 : decide (-1 < x) = false := decide_eq_false (by omega)
    have g2 : decide (x < -1 - (n : Int)) = false := decide_eq_false (by omega)
    have i12 : x < 0 := by omega
    have i13 : -17 ≤ x := by omega
    clear h1 h2
    go_enter Try.func24, Try.ntmps24
    go_wp2_with fail
    with_reducible refine (HC.out _).mono ?_
    rintro e w1 ⟨rfl, hb1⟩
    have F1 := Lib.hid (show Fr No w w1 from Fr.then_below (by repeat (first | exact Fr.refl _ _ | apply Fr.drewN | apply Fr.drew | apply Fr.alloc)) hb1)
    clear hb1
    go_wp2_with fail
    with_reducible refine (HS.out _).mono ?_
    rintro e w2 ⟨rfl, hb2⟩
    have F2 := Lib.hid (show Fr No w w2 from Fr.then_below (by repeat (first | exact F1.out | apply Fr.drewN | apply Fr.drew | apply Fr.alloc)) hb2)
    have x0 := F2.out.cell X0.out (fun h => h)
    clear hb2
    go_wp2_with fail
    go_ret
    exact ⟨rfl, F2.out.below (Nat.le_refl _) (fun _ h => h.elim)⟩

set_option maxHeartbeats 6400000 in
theorem walk_any (A : Option Addr) (c : Nat) (l : List Int) (p : Nat) (k f n : Int) (hp : p < 64) (hl : 32 * p + 32 ≤ l.length) (hl2 : l.length ≤ 100000) (w : World) (hr : Rd w (.slice A l.length c) l.length 1 (ints l)) :
    Calls Try.prog 23 #[.slice A l.length c, .int .i64 p, .int .i64 k, .agg #[.int .i64 f, .int .i64 n]] w (AllPost (walkS l p k f n) w) := by
  obtain ⟨G, hG⟩ : ∃ G, G = walkS l p k f n := ⟨_, rfl⟩
  have HGG := Lib.hid hG
  rw [← hG]
  clear hG
  have HC := Lib.hid (fun W => rcells_any k W)
  have HK := Lib.hid (fun (i : Nat) (hi : i < nc k) W (hW : Fr No w W) => wlink_any A c l p k i hp hi hl hl2 W (hr.below (hW.below (Nat.le_refl _) (fun _ h => h.elim))))
  have hcn := nc_le k
  obtain ⟨L, hL⟩ : ∃ L, L = l.length := ⟨_, rfl⟩
  rw [← hL] at HK hl2 ⊢
  have HL := Lib.hid hL
  clear hr hp hl hL
  go_enter Try.func23, Try.ntmps23
  go_wp2_with fail
  have F0 := Lib.hid ((Fr.refl No w).alloc (.cells #[.int .i64 f, .int .i64 n] 29))
  have XI0 := Lib.hid (heap_alloc_new w (.cells #[.int .i64 f, .int .i64 n] 29))
  generalize w.alloc (.cells #[.int .i64 f, .int .i64 n] 29) = w0 at F0 XI0 ⊢
  with_reducible refine (HC.out _).mono ?_
  rintro e w1 ⟨rfl, hb1⟩
  have F1 := Lib.hid (F0.out.trans (Fr.of_below hb1 No) (fun i (h : No i) => h.elim))
  have XI1 := Lib.hid ((Fr.of_below hb1 No).blk XI0.out (fun h => h))
  have x0 : w1.cell? ⟨w.heap.size, 0, none⟩ = some (.int .i64 f) := cell_of XI1.out 0
  have x1 : w1.cell? ⟨w.heap.size, 1, none⟩ = some (.int .i64 n) := cell_of XI1.out 1
  clear hb1 F0 XI0
  go_wp2_with fail
  clear x0 x1
  go_loopw [11, 12, 13] (fun o a i wr => ∃ j : Nat, i = .int .i64 j ∧ ∃ x : Int, a = .int .i64 x ∧ Hid (∃ os : List Int, os.length = j ∧ os.Nodup ∧ (∀ x ∈ os, 0 ≤ x ∧ x < (nc k : Int)) ∧ Nums.Own wr w.heap.size o os ∧ wr.heap[w.heap.size]? = some (.cells #[.int .i64 f, .int .i64 n] 29 (0, 0)) ∧ ((n < 0 ∧ j = 0) ∨ (0 ≤ n ∧ (j : Int) ≤ n ∧ goL l p k (n.toNat - j) x os = G)) ∧ Fr No w wr)) (fun _ _ i _ => n.toNat - (intOf i).toNat)
  case atStart =>
    refine ⟨0, rfl, f, rfl, Lib.hid ⟨[], rfl, List.nodup_nil, by simp, Nums.Own.nil _ _, XI1.out, ?_, F1.out⟩⟩
    by_cases h : n < 0
    · exact .inl ⟨h, rfl⟩
    · exact .inr ⟨by omega, by omega, by rw [HGG.out]; unfold walkS; rw [if_neg h]; rfl⟩
  case round =>
    obtain ⟨j, rfl, x, rfl, HQ⟩ := hrel
    rename_i o
    obtain ⟨os, hlen, hnd, hrg, hown, hxi, hgo, hfr⟩ := HQ.out
    obtain ⟨Ao, co, rfl, hco⟩ := hown.slice
    have HOW := Lib.hid hown
    have HXI := Lib.hid hxi
    have HF := Lib.hid hfr
    have HLN := Lib.hid hlen
    have HND := Lib.hid hnd
    have HRG := Lib.hid hrg
    have hj16 : j ≤ 16 := by have := pig _ os hnd hrg; omega
    have i1 : (0 : Int) ≤ (j : Int) := Int.natCast_nonneg _
    have d0 : wr.cell? ⟨w.heap.size, 0, none⟩ = some (.int .i64 f) := cell_of hxi 0
    have d1 : wr.cell? ⟨w.heap.size, 1, none⟩ = some (.int .i64 n) := cell_of hxi 1
    have hln : os.length = j := hlen
    rw [hln] at HOW ⊢
    clear HQ hown hxi hfr hlen hnd hrg
    by_cases hlt : (j : Int) < n
    · have hgo2 : goL l p k (n.toNat - (j + 1) + 1) x os = G := by
        rcases hgo with h | h
        · omega
        · rw [show n.toNat - (j + 1) + 1 = n.toNat - j by omega]; exact h.2.2
      unfold goL at hgo2
      have HJ := Lib.hid hlt
      clear hgo hln
      by_cases hv : 0 ≤ x ∧ x < (nc k : Int)
      · obtain ⟨a, rfl⟩ := Int.eq_ofNat_of_zero_le hv.1
        have HA := Lib.hid (show a < nc k by omega)
        have g1 : decide ((a : Int) < 0) = false := by simp
        have g2 : decide ((nc k : Int) ≤ (a : Int)) = false := decide_eq_false (by omega)
        have g3 : decide (nc k ≤ a) = false := decide_eq_false (by omega)
        clear hv
        go_wp2_with fail
        refine (in_any Ao j co os (a : Int) HLN.out.symm _ (by have h := HOW.out.rd; rw [HLN.out] at h; exact h) (by have := HLN.out; omega)).mono ?_
        rintro e w5 ⟨rfl, q5, rfl⟩
        by_cases hm : (a : Int) ∈ os
        · rw [decide_eq_true hm]
          rw [if_neg (fun h => h.2.2 hm)] at hgo2
          have HG := Lib.hid hgo2
          clear hgo2 hm
          go_wp2_with fail
          go_ret2
          rw [← HG.out]
          exact ⟨rfl, (HF.out.drewN q5).below (Nat.le_refl _) (fun _ h => h.elim)⟩
        · rw [decide_eq_false hm]
          rw [if_pos ⟨by omega, by have := HA.out; omega, hm⟩] at hgo2
          have HG := Lib.hid hgo2
          have HM := Lib.hid hm
          clear hgo2 hm
          have F5 := Lib.hid (HF.out.drewN q5)
          have O5 := Lib.hid (HOW.out.fr (Fr.drewN (Fr.refl No wr) q5) (fun _ _ h => h))
          have X5 := Lib.hid (drewN_of HXI.out q5)
          clear d0 d1
          go_wp2_with (at_builtin; refine Nums.app_one (l := os) (y := (a : Int)) rfl _ _ rfl rfl (O5.out.fr (Fr.alloc (Fr.refl No _) _) (fun _ _ h => h)) rfl rfl (heap_alloc_new _ _) (by decide) (by have := HLN.out; omega) (by have := F5.out.size; simp at this ⊢; omega) ?_; intro v7 w7 h1 h2 h3; refine Hid.out ?_)
          have O7 := Lib.hid h1
          have FG := Fr.grown (S := fun k => (Value.slice Ao j co).ownBlock = some k) (Fr.refl _ _) h2 (fun k hk => .inl hk)
          have ne1 := own_ne_blk O5.out X5.out (by decide)
          have X7 := Lib.hid (FG.blk (alloc_of X5.out _) ne1)
          have F7 := Lib.hid (show Fr No w w7 from Fr.grown (F5.out.alloc _) h2 (fun k hk => .inr (O5.out.lt k hk).1))
          clear h1 h2 h3 FG ne1 X5 O5
          refine Lib.hid ?_
          go_wp2_with fail
          refine (HK.out a HA.out _ (by repeat (first | exact F7.out | apply Fr.drewN | apply Fr.drew | apply Fr.alloc))).mono ?_
          rintro e w8 ⟨rfl, hb8⟩
          have FQ := Lib.hid (show Fr No w7 w8 from Fr.then_below (by repeat (first | exact Fr.refl _ _ | apply Fr.drewN | apply Fr.drew | apply Fr.alloc)) hb8)
          have F8 := Lib.hid (F7.out.trans FQ.out (fun i (h : No i) => h.elim))
          have X8 := Lib.hid (FQ.out.blk X7.out (fun h => h))
          have O8 := Lib.hid (O7.out.fr FQ.out (fun _ _ h => h))
          clear hb8 X7 O7
          have hta : ((a : Int)).toNat = a := by omega
          have HG2 := HG.out
          rw [hta] at HG2
          have HX : Hid (goL l p k (n.toNat - (j + 1)) ((lk l p k a).getD (-1)) (os ++ [(a : Int)]) = G) := Lib.hid (by
            cases hx : lk l p k a with
            | none => rw [hx] at HG2; rw [← HG2]; exact go_neg l p k _ _
            | some y => rw [hx] at HG2; exact HG2)
          clear hta HG2
          obtain ⟨y, hy⟩ : ∃ y, y = (lk l p k a).getD (-1) := ⟨_, rfl⟩
          rw [← hy] at HX ⊢
          clear hy
          have ND : Hid ((os ++ [(a : Int)]).Nodup) := Lib.hid (by
            rw [List.nodup_append]
            refine ⟨HND.out, by simp, ?_⟩
            intro x hx y hy e
            simp at hy
            exact HM.out (by rw [← hy, ← e]; exact hx))
          have RG : Hid (∀ x ∈ os ++ [(a : Int)], 0 ≤ x ∧ x < (nc k : Int)) := Lib.hid (fun x hx => by
            rw [List.mem_append, List.mem_singleton] at hx
            rcases hx with hx | rfl
            · exact HRG.out x hx
            · have := HA.out; omega)
          go_wp2_with fail
          go_roundw
          case rel => exact ⟨j + 1, by go_num, y, rfl, Lib.hid ⟨os ++ [(a : Int)], by rw [List.length_append, HLN.out]; rfl, ND.out, RG.out, O8.out, X8.out, .inr ⟨by have := HJ.out; omega, by have := HJ.out; omega, HX.out⟩, F8.out⟩⟩
          case measure => have := HJ.out; simp [intOf]; omega
      · rw [if_neg (fun h => hv ⟨h.1, h.2.1⟩)] at hgo2
        have HG := Lib.hid hgo2
        by_cases hv1 : x < 0
        · clear hv hgo2
          go_wp2_with fail
          go_ret2
          rw [← HG.out]
          exact ⟨rfl, HF.out.below (Nat.le_refl _) (fun _ h => h.elim)⟩
        · have g1 : decide (x < 0) = false := decide_eq_false hv1
          have g2 : decide ((nc k : Int) ≤ x) = true := decide_eq_true (by omega)
          clear hv hv1 hgo2
          go_wp2_with fail
          go_ret2
          rw [← HG.out]
          exact ⟨rfl, HF.out.below (Nat.le_refl _) (fun _ h => h.elim)⟩
    · by_cases hneg : n < 0
      · have HG : Hid (none = G) := Lib.hid (by rw [HGG.out]; unfold walkS; rw [if_pos hneg])
        clear hgo hln
        go_wp2_with fail
        go_ret2
        rw [← HG.out]
        exact ⟨rfl, HF.out.below (Nat.le_refl _) (fun _ h => h.elim)⟩
      · have hgo2 : goL l p k 0 x os = G := by
          rcases hgo with h | h
          · omega
          · rw [show 0 = n.toNat - j by omega]; exact h.2.2
        unfold goL at hgo2
        have g0 : decide (n < 0) = false := decide_eq_false hneg
        clear hgo hneg
        by_cases he : x = (nc k : Int)
        · rw [if_pos he] at hgo2
          have HG := Lib.hid hgo2
          subst he
          have g5 : ((nc k : Int) != (nc k : Int)) = false := by simp
          clear hgo2
          go_wp2_with fail
          go_ret2
          rw [← HG.out]
          exact ⟨_, rfl, HOW.out, HF.out.below (Nat.le_refl _) (fun _ h => h.elim)⟩
        · rw [if_neg he] at hgo2
          have HG := Lib.hid hgo2
          have g5 : (x != (nc k : Int)) = true := by simpa using he
          clear hgo2 he
          go_wp2_with fail
          go_ret2
          rw [← HG.out]
          exact ⟨rfl, HF.out.below (Nat.le_refl _) (fun _ h => h.elim)⟩

end Go.Proofs.Ytbndmcblkfaheaa.Chain
