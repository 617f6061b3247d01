/- Proved: what the functions of package scutageref09 do and answer: lists of pages' kinds. -/
import Derived.Test.YtaegmlmibbppoaaPage2
namespace Go.Proofs.Ytaegmlmibbppoaa.Page
open Go.RowKit Go.Proofs.Ytaegmlmibbppoaa.H Go.Proofs.Ytaegmlmibbppoaa.Nums Go.Proofs.Ytaegmlmibbppoaa.PagePure
set_option linter.unusedVariables false

set_option maxHeartbeats 3200000 in
theorem rrun_any (A : Option Addr) (n c : Nat) (l : List Int) (hn : n = l.length) (p : Nat) (w : World) (hr : Rd w (.slice A n c) n 1 (ints l)) (hlen : l.length ≤ 64) (hp : p ≤ 64) :
    Calls Try.prog 37 #[.slice A n c, .int .i64 p] w (Quiet w (.int .i64 (lead (l.drop p) : Nat))) := by
  subst hn
  have HR := Lib.hid hr
  clear hr
  have i0 : (0 : Int) ≤ (p : Int) := Int.natCast_nonneg _
  go_enter Try.func37, Try.ntmps37
  go_wp2
  go_loopw [5] (fun i wr => ∃ k : Nat, k ≤ l.length ∧ i = .int .i64 k ∧ wr = w ∧ Hid (k + lead (l.drop (p + k)) = lead (l.drop p))) (fun i _ => l.length + 1 - (intOf i).toNat)
  case atStart => exact ⟨0, Nat.zero_le _, rfl, rfl, Lib.hid (by rw [Nat.zero_add]; rfl)⟩
  case round =>
    obtain ⟨k, hk, rfl, rfl, HQ⟩ := hrel
    have i1 : (0 : Int) ≤ (k : Int) := Int.natCast_nonneg _
    by_cases hlt : p + k < l.length
    · obtain ⟨ad, rfl, x0a⟩ := rd_at HR.out (p + k) hlt
      have hd : l.drop (p + k) = l[p + k] :: l.drop (p + k + 1) := List.drop_eq_getElem_cons hlt
      obtain ⟨y, hy, x0⟩ : ∃ y, l[p + k] = y ∧ wr.cell? (ad.add (p + k)) = some (.int .i64 y) := ⟨_, rfl, x0a⟩
      rw [hy] at hd
      have HLT := Lib.hid hlt
      have i2 : (p : Int) + (k : Int) < (l.length : Int) := by omega
      clear x0a
      by_cases he : y = 0
      · subst he
        have HM : Hid ((k + 1) + lead (l.drop (p + (k + 1))) = lead (l.drop p)) := Lib.hid (by rw [← HQ.out, hd]; simp only [lead, if_pos]; rw [show p + (k + 1) = p + k + 1 by omega]; omega)
        clear hd hy hlt
        go_wp2
        go_roundw
        case rel => exact ⟨k + 1, by have := HLT.out; omega, by go_num, trivial, HM⟩
        case measure => have := HLT.out; simp [intOf]; omega
      · have HM : Hid (lead (l.drop p) = k) := Lib.hid (by rw [← HQ.out, hd]; simp only [lead]; rw [if_neg he]; omega)
        have g1 : (y == 0) = false := by simpa using he
        clear he hd hy hlt
        go_wp2
        go_ret
        exact ⟨by rw [HM.out]; rfl, 0, rfl⟩
    · have HM : Hid (lead (l.drop p) = k) := Lib.hid (by rw [← HQ.out, List.drop_eq_nil_of_le (by omega)]; rfl)
      have i2 : (l.length : Int) ≤ (p : Int) + (k : Int) := by omega
      clear hlt
      go_wp2
      go_ret
      exact ⟨by rw [HM.out]; rfl, 0, rfl⟩

theorem find_at (l : List Int) (n : Nat) (k : Nat) (x : Int) (h : l[k]? = some x) : fstAt (l.drop k) k n = if n ≤ lead (l.drop k) then some k else fstAt (l.drop (k + 1)) (k + 1) n := by
  obtain ⟨hk, rfl⟩ := List.getElem?_eq_some_iff.1 h
  rw [List.drop_eq_getElem_cons hk]
  rfl
set_option maxRecDepth 100000 in
set_option maxHeartbeats 3200000 in
theorem rfind_any (A : Option Addr) (n c : Nat) (l : List Int) (hn : n = l.length) (x : Int) (w : World) (hr : Rd w (.slice A n c) n 1 (ints l)) (hlen : l.length ≤ 64) :
    Calls Try.prog 30 #[.slice A n c, .int .i64 x] w (Quiet w (.int .i64 (findI l x))) := by
  by_cases hx : x < 1
  · have HE : Hid (findI l x = -1) := Lib.hid (by unfold findI; rw [if_pos hx])
    clear hr hn
    go_enter Try.func30, Try.ntmps30
    go_wp2
    go_ret
    exact ⟨by rw [HE.out]; rfl, 0, rfl⟩
  have HE : Hid (findI l x = optI (fstAt l 0 x.toNat)) := Lib.hid (by unfold findI; rw [if_neg hx])
  have HR := Lib.hid hr
  have HN := Lib.hid hn
  have HX := Lib.hid hx
  have hn64 : n ≤ 64 := by omega
  clear hr hn
  go_enter Try.func30, Try.ntmps30
  go_wp2
  go_loopw [5] (fun i wr => ∃ k : Nat, k ≤ n ∧ i = .int .i64 k ∧ Hid (∃ q, wr = w.drewN q) ∧ Hid (fstAt (l.drop k) k x.toNat = fstAt l 0 x.toNat)) (fun i _ => n - (intOf i).toNat)
  case atStart => exact ⟨0, Nat.zero_le _, rfl, Lib.hid ⟨0, rfl⟩, Lib.hid rfl⟩
  case round =>
    obtain ⟨k, hk, rfl, HW, HQ⟩ := hrel
    have i1 : (0 : Int) ≤ (k : Int) := Int.natCast_nonneg _
    by_cases hlt : k < n
    · have i2 : (k : Int) < (n : Int) := by omega
      have HLT := Lib.hid hlt
      have hf := find_at l x.toNat k _ (List.getElem?_eq_getElem (by rw [← HN.out]; exact hlt))
      have HRD : Hid (Rd wr (.slice A n c) n 1 (ints l)) := Lib.hid (by obtain ⟨q, hq⟩ := HW.out; rw [hq]; exact HR.out.below (no_below (Fr.drewN (Fr.refl No w) q)))
      obtain ⟨y, hy⟩ : ∃ y, y = lead (l.drop k) := ⟨_, rfl⟩
      rw [← hy] at hf
      have HY := Lib.hid hy
      have hx1 := HX.out
      have hyl : y ≤ 64 := by rw [hy]; have := lead_le (l.drop k); rw [List.length_drop] at this; omega
      clear hlt hy
      go_wp2_with fail
      with_reducible refine (rrun_any A n c l HN.out k _ HRD.out (by have := HN.out; omega) (by have := HLT.out; omega)).mono ?_
      rintro e2 w2 ⟨rfl, n2, hw2⟩
      have HW2 : Hid (∃ q, w2 = w.drewN q) := Lib.hid (by obtain ⟨q, hq⟩ := HW.out; exact ⟨q + n2, by rw [hw2, hq, World.drewN_drewN]⟩)
      rw [← HY.out]
      clear hw2
      by_cases hge : x.toNat ≤ y
      · rw [if_pos hge] at hf
        have HF : Hid (findI l x = (k : Int)) := Lib.hid (by rw [HE.out, ← HQ.out, hf]; rfl)
        have i3 : x ≤ (y : Int) := by omega
        clear hf hge hx1
        go_wp2_with fail
        go_ret
        exact ⟨by rw [HF.out]; rfl, HW2.out⟩
      · rw [if_neg hge] at hf
        have HF : Hid (fstAt (l.drop (k + 1)) (k + 1) x.toNat = fstAt l 0 x.toNat) := Lib.hid (by rw [← HQ.out, hf])
        have i3 : (y : Int) < x := by omega
        clear hf hge hx1
        go_wp2_with fail
        go_roundw
        case rel => exact ⟨k + 1, HLT.out, by go_num, HW2, HF⟩
        case measure => have := HLT.out; simp [intOf]; omega
    · have HF : Hid (findI l x = -1) := Lib.hid (by rw [HE.out, ← HQ.out, List.drop_eq_nil_of_le (by rw [← HN.out]; omega)]; rfl)
      have i2 : (n : Int) ≤ (k : Int) := by omega
      clear hlt
      go_wp2_with fail
      go_ret
      exact ⟨by rw [HF.out]; rfl, HW.out⟩

set_option maxRecDepth 100000 in
set_option maxHeartbeats 6400000 in
theorem rset_any (A : Option Addr) (n c : Nat) (l : List Int) (hn : n = l.length) (p : Int) (m : Nat) (x : Int) (w : World) (hr : Rd w (.slice A n c) n 1 (ints l)) (hlen : l.length ≤ 64) (hp : -9223372036854775808 ≤ p) (hp2 : p ≤ 9223372036854775807) (hpm : m = 0 ∨ ∃ a : Nat, p = (a : Int) ∧ a + m ≤ l.length) :
    Calls Try.prog 32 #[.slice A n c, .int .i64 p, .int .i64 m, .int .i64 x] w (CopyPost (fillL l p.toNat m x) w) := by
  have HR := Lib.hid hr
  have HN := Lib.hid hn
  have hn64 : n ≤ 64 := by omega
  have HPM := Lib.hid hpm
  have hm64 : m ≤ 64 := by rcases hpm with h | ⟨a, _, h⟩ <;> omega
  have him : (0 : Int) ≤ (m : Int) := Int.natCast_nonneg _
  have hpmB : p + (m : Int) ≤ 9223372036854775807 := by rcases hpm with h | ⟨a, h1, h2⟩ <;> omega
  obtain ⟨r, hrr⟩ : ∃ r, r = fillL l p.toNat m x := ⟨_, rfl⟩
  have HRL : Hid (r.length = n) := Lib.hid (by
    rw [hrr, hn]
    rcases hpm with h | ⟨a, h1, h2⟩
    · rw [h, fillL_zero]
    · subst h1; exact fillL_length _ _ _ _ h2)
  have HRG : Hid (∀ k, (hk : k < l.length) → r[k]? = some (if p ≤ (k : Int) ∧ (k : Int) < p + (m : Int) then x else l[k])) := Lib.hid (fun k hk => by
    rw [hrr]
    rcases hpm with h | ⟨a, h1, h2⟩
    · subst h
      rw [fillL_zero, if_neg (by omega), List.getElem?_eq_getElem hk]
    · subst h1
      rw [show ((a : Int)).toNat = a by omega, fillL_at l a m x h2 k hk]
      by_cases hc : a ≤ k ∧ k < a + m
      · rw [if_pos hc, if_pos (by omega)]
      · rw [if_neg hc, if_neg (by omega)])
  rw [← hrr]
  clear hr hn hpm hrr
  go_enter Try.func32, Try.ntmps32
  go_wp2
  go_loopw [9, 10] (fun o i wr => ∃ k : Nat, k ≤ n ∧ i = .int .i64 k ∧ Hid (Own wr w.heap.size o (r.take k)) ∧ Hid (Below w.heap.size w wr)) (fun _ i _ => n - (intOf i).toNat)
  case atStart => exact ⟨0, Nat.zero_le _, rfl, Lib.hid (Own.nil _ _), Lib.hid (Below.refl _ _)⟩
  case round =>
    obtain ⟨k, hk, rfl, HO, HB⟩ := hrel
    obtain ⟨Ao, co, rfl, hco⟩ := HO.out.slice
    have hol : (r.take k).length = k := by rw [List.length_take, HRL.out]; omega
    rw [hol] at HO hco ⊢
    have HOL := Lib.hid hol
    clear hol
    have i1 : (0 : Int) ≤ (k : Int) := Int.natCast_nonneg _
    by_cases hlt : k < n
    · obtain ⟨ad, rfl, x0a⟩ := rd_at (HR.out.below HB.out) k (by rw [← HN.out]; exact hlt)
      have hg := HRG.out k (by rw [← HN.out]; exact hlt)
      obtain ⟨y, hy, x0⟩ : ∃ y, l[k]'(by rw [← HN.out]; exact hlt) = y ∧ wr.cell? (ad.add k) = some (.int .i64 y) := ⟨_, rfl, x0a⟩
      rw [hy] at hg
      have HLT := Lib.hid hlt
      have i2 : (k : Int) < (n : Int) := by omega
      clear x0a hy hlt
      by_cases hc : p ≤ (k : Int) ∧ (k : Int) < p + (m : Int)
      · rw [if_pos hc] at hg
        have HT : Hid (r.take (k + 1) = r.take k ++ [x]) := Lib.hid (by rw [List.take_add_one, hg]; rfl)
        obtain ⟨hc1, hc2⟩ := hc
        have z6 : (wr.alloc (.cells #[.int .i64 x] 3)).heap[wr.heap.size]? = some (.cells #[.int .i64 x] 3 (0, 0)) := heap_alloc_new _ _
        have Z6 := Lib.hid z6
        clear hg z6 x0
        go_wp2_with (at_builtin; refine app_one (l := r.take k) (y := x) rfl _ _ rfl rfl (show Own _ w.heap.size _ _ from HO.out.fr (Fr.alloc (Fr.refl No _) _) (fun _ _ h => h)) rfl rfl Z6.out (by decide) (by have := HOL.out; omega) (by have := HB.out.size; simp; omega) ?_; intro v7 w7 h1 h2 h3; refine Hid.out ?_)
        have O7 : Hid (Own w7 w.heap.size v7 (r.take (k + 1))) := Lib.hid (by rw [HT.out]; exact h1)
        have B7 : Hid (Below w.heap.size w w7) := Lib.hid ((HB.out.alloc HB.out.size _).grown h2 (by have := HB.out.size; simp; omega) (fun j hj => (HO.out.lt j hj).1))
        clear h1 h2 h3
        obtain ⟨A7, c7, rfl, _⟩ := O7.out.slice
        refine Lib.hid ?_
        go_wp2_with fail
        go_roundw
        case rel => exact ⟨k + 1, HLT.out, by go_num, O7, B7⟩
        case measure => have := HLT.out; simp [intOf]; omega
      · rw [if_neg hc] at hg
        have HT : Hid (r.take (k + 1) = r.take k ++ [y]) := Lib.hid (by rw [List.take_add_one, hg]; rfl)
        have z6 : (wr.alloc (.cells #[.int .i64 y] 3)).heap[wr.heap.size]? = some (.cells #[.int .i64 y] 3 (0, 0)) := heap_alloc_new _ _
        have Z6 := Lib.hid z6
        have hcase : ((k : Int) < p) ∨ (p ≤ (k : Int) ∧ p + (m : Int) ≤ (k : Int)) := by omega
        clear hg z6 hc
        rcases hcase with hc | ⟨hc, hc2⟩
        all_goals
          go_wp2_with (at_builtin; refine app_one (l := r.take k) (y := y) rfl _ _ rfl rfl (show Own _ w.heap.size _ _ from HO.out.fr (Fr.alloc (Fr.refl No _) _) (fun _ _ h => h)) rfl rfl Z6.out (by decide) (by have := HOL.out; omega) (by have := HB.out.size; simp; omega) ?_; intro v7 w7 h1 h2 h3; refine Hid.out ?_)
          have O7 : Hid (Own w7 w.heap.size v7 (r.take (k + 1))) := Lib.hid (by rw [HT.out]; exact h1)
          have B7 : Hid (Below w.heap.size w w7) := Lib.hid ((HB.out.alloc HB.out.size _).grown h2 (by have := HB.out.size; simp; omega) (fun j hj => (HO.out.lt j hj).1))
          clear h1 h2 h3
          obtain ⟨A7, c7, rfl, _⟩ := O7.out.slice
          refine Lib.hid ?_
          go_wp2_with fail
          go_roundw
          case rel => exact ⟨k + 1, HLT.out, by go_num, O7, B7⟩
          case measure => have := HLT.out; simp [intOf]; omega
    · obtain rfl : k = n := by omega
      have HT : Hid (r.take k = r) := Lib.hid (by rw [← HRL.out, List.take_length])
      go_wp2_with fail
      go_ret
      exact ⟨_, rfl, by have h := HO.out; rw [HT.out] at h; exact h, HB.out⟩

set_option maxHeartbeats 3200000 in
theorem rspan_any (A : Option Addr) (n c : Nat) (l : List Int) (hn : n = l.length) (p m : Nat) (w : World) (hr : Rd w (.slice A n c) n 1 (ints l)) (hlen : l.length ≤ 64) (hm : 1 ≤ m) (hpm : p + m ≤ l.length) :
    Calls Try.prog 33 #[.slice A n c, .int .i64 p, .int .i64 m] w (CopyPost (spanL l p m) w) := by
  have HR := Lib.hid hr
  have HN := Lib.hid hn
  have HE : Hid (spanL l p m = fillL (fillL l p m 6) p 1 5) := Lib.hid (by unfold spanL; rw [fillL_one _ _ _ (by rw [fillL_length _ _ _ _ hpm]; omega)])
  have HFL : Hid ((fillL l p m 6).length = n) := Lib.hid (by rw [fillL_length _ _ _ _ hpm, hn])
  clear hr hn
  go_enter Try.func33, Try.ntmps33
  go_wp2_with fail
  refine (rset_any A n c l HN.out (p : Int) m 6 _ HR.out hlen (by omega) (by have := HN.out; omega) (.inr ⟨p, rfl, hpm⟩)).mono ?_
  rintro e1 w1 ⟨v1, rfl, ho1, hb1⟩
  rw [show ((p : Int)).toNat = p by omega] at ho1
  obtain ⟨A1, c1, rfl, _⟩ := ho1.slice
  have O1 := Lib.hid ho1
  have B1 := Lib.hid hb1
  rw [HFL.out] at O1 ⊢
  clear ho1 hb1
  go_wp2_with fail
  refine (rset_any A1 n c1 (fillL l p m 6) HFL.out.symm (p : Int) 1 5 _ (by have h := O1.out.rd; rw [HFL.out] at h; exact h) (by rw [HFL.out]; have := HN.out; omega) (by omega) (by have := HN.out; omega) (.inr ⟨p, rfl, by rw [HFL.out]; have := HN.out; omega⟩)).mono ?_
  rintro e2 w2 ⟨v2, rfl, ho2, hb2⟩
  rw [show ((p : Int)).toNat = p by omega, ← HE.out] at ho2
  go_wp2_with fail
  go_ret
  exact ⟨v2, rfl, ho2.lower B1.out.size, B1.out.trans (hb2.mono B1.out.size)⟩

set_option maxHeartbeats 3200000 in
theorem rcount_any (A : Option Addr) (n c : Nat) (l : List Int) (hn : n = l.length) (w : World) (hr : Rd w (.slice A n c) n 1 (ints l)) (hlen : l.length ≤ 64) :
    Calls Try.prog 23 #[.slice A n c] w (Quiet w (.int .i64 (zeros l : Nat))) := by
  subst hn
  have HR := Lib.hid hr
  have HZ := Lib.hid (zeros_le l)
  clear hr
  go_enter Try.func23, Try.ntmps23
  go_wp2
  go_loopw [3, 4] (fun s i wr => ∃ k m : Nat, k ≤ l.length ∧ m ≤ k ∧ i = .int .i64 k ∧ s = .int .i64 m ∧ wr = w ∧ Hid (m + zeros (l.drop k) = zeros l)) (fun _ i _ => l.length - (intOf i).toNat)
  case atStart => exact ⟨0, 0, Nat.zero_le _, Nat.le_refl _, rfl, rfl, rfl, Lib.hid (Nat.zero_add _)⟩
  case round =>
    obtain ⟨k, m, hk, hm, rfl, rfl, rfl, HQ⟩ := hrel
    have i1 : (0 : Int) ≤ (k : Int) := Int.natCast_nonneg _
    have i3 : (0 : Int) ≤ (m : Int) := Int.natCast_nonneg _
    by_cases hlt : k < l.length
    · obtain ⟨ad, rfl, x0a⟩ := rd_at HR.out k hlt
      have hd : l.drop k = l[k] :: l.drop (k + 1) := List.drop_eq_getElem_cons hlt
      obtain ⟨y, hy, x0⟩ : ∃ y, l[k] = y ∧ wr.cell? (ad.add k) = some (.int .i64 y) := ⟨_, rfl, x0a⟩
      rw [hy] at hd
      have HLT := Lib.hid hlt
      have i2 : (k : Int) < (l.length : Int) := by omega
      clear x0a
      by_cases he : y = 0
      · subst he
        have HM : Hid ((m + 1) + zeros (l.drop (k + 1)) = zeros l) := Lib.hid (by rw [← HQ.out, hd]; simp [zeros]; omega)
        clear hd hy hlt
        go_wp2
        go_roundw
        case rel => exact ⟨k + 1, m + 1, HLT.out, by omega, by go_num, by go_num, trivial, HM⟩
        case measure => have := HLT.out; simp [intOf]; omega
      · have HM : Hid (m + zeros (l.drop (k + 1)) = zeros l) := Lib.hid (by rw [← HQ.out, hd]; simp [zeros, he])
        have g1 : (y == 0) = false := by simpa using he
        clear he hd hy hlt
        go_wp2
        go_roundw
        case rel => exact ⟨k + 1, m, HLT.out, by omega, by go_num, rfl, trivial, HM⟩
        case measure => have := HLT.out; simp [intOf]; omega
    · have HM : Hid (zeros l = m) := Lib.hid (by rw [← HQ.out, List.drop_eq_nil_of_le (by omega)]; rfl)
      have i2 : (l.length : Int) ≤ (k : Int) := by omega
      clear hlt
      go_wp2
      go_ret
      exact ⟨by rw [HM.out]; rfl, 0, rfl⟩

set_option maxRecDepth 100000 in
set_option maxHeartbeats 3200000 in
theorem rlongest_any (A : Option Addr) (n c : Nat) (l : List Int) (hn : n = l.length) (w : World) (hr : Rd w (.slice A n c) n 1 (ints l)) (hlen : l.length ≤ 64) :
    Calls Try.prog 24 #[.slice A n c] w (Quiet w (.int .i64 (long l : Nat))) := by
  have HR := Lib.hid hr
  have HN := Lib.hid hn
  have hn64 : n ≤ 64 := by omega
  clear hr hn
  go_enter Try.func24, Try.ntmps24
  go_wp2
  go_loopw [3, 4] (fun s i wr => ∃ k m : Nat, k ≤ n ∧ i = .int .i64 k ∧ s = .int .i64 m ∧ Hid (∃ q, wr = w.drewN q) ∧ Hid (max m (long (l.drop k)) = long l)) (fun _ i _ => n - (intOf i).toNat)
  case atStart => exact ⟨0, 0, Nat.zero_le _, rfl, rfl, Lib.hid ⟨0, rfl⟩, Lib.hid (Nat.zero_max _)⟩
  case round =>
    obtain ⟨k, m, hk, rfl, rfl, HW, HQ⟩ := hrel
    have i1 : (0 : Int) ≤ (k : Int) := Int.natCast_nonneg _
    by_cases hlt : k < n
    · have i2 : (k : Int) < (n : Int) := by omega
      have HLT := Lib.hid hlt
      have hd : long (l.drop k) = max (lead (l.drop k)) (long (l.drop (k + 1))) := by
        rw [List.drop_eq_getElem_cons (by rw [← HN.out]; exact hlt)]; rfl
      have HRD : Hid (Rd wr (.slice A n c) n 1 (ints l)) := Lib.hid (by obtain ⟨q, hq⟩ := HW.out; rw [hq]; exact HR.out.below (no_below (Fr.drewN (Fr.refl No w) q)))
      obtain ⟨y, hy⟩ : ∃ y, y = lead (l.drop k) := ⟨_, rfl⟩
      rw [← hy] at hd
      have HY := Lib.hid hy
      clear hlt hy
      go_wp2_with fail
      with_reducible refine (rrun_any A n c l HN.out k _ HRD.out (by have := HN.out; omega) (by have := HLT.out; omega)).mono ?_
      rintro e2 w2 ⟨rfl, n2, hw2⟩
      have HW2 : Hid (∃ q, w2 = w.drewN q) := Lib.hid (by obtain ⟨q, hq⟩ := HW.out; exact ⟨q + n2, by rw [hw2, hq, World.drewN_drewN]⟩)
      rw [← HY.out]
      clear hw2
      by_cases hge : m < y
      · have HF : Hid (max y (long (l.drop (k + 1))) = long l) := Lib.hid (by rw [← HQ.out, hd]; omega)
        have HRD2 : Hid (Rd w2 (.slice A n c) n 1 (ints l)) := Lib.hid (by obtain ⟨q, hq⟩ := HW2.out; rw [hq]; exact HR.out.below (no_below (Fr.drewN (Fr.refl No w) q)))
        have i3 : (m : Int) < (y : Int) := by omega
        have g1 : decide (m < y) = true := by simpa using hge
        clear hd hge
        go_wp2_with fail
        with_reducible refine (rrun_any A n c l HN.out k _ HRD2.out (by have := HN.out; omega) (by have := HLT.out; omega)).mono ?_
        rintro e3 w3 ⟨rfl, n3, hw3⟩
        have HW3 : Hid (∃ q, w3 = w.drewN q) := Lib.hid (by obtain ⟨q, hq⟩ := HW2.out; exact ⟨q + n3, by rw [hw3, hq, World.drewN_drewN]⟩)
        rw [← HY.out]
        clear hw3
        go_wp2_with fail
        go_roundw
        case rel => exact ⟨k + 1, y, HLT.out, by go_num, rfl, HW3, HF⟩
        case measure => have := HLT.out; simp [intOf]; omega
      · have HF : Hid (max m (long (l.drop (k + 1))) = long l) := Lib.hid (by rw [← HQ.out, hd]; omega)
        have i3 : (y : Int) ≤ (m : Int) := by omega
        have g1 : decide (m < y) = false := by simpa using hge
        clear hd hge
        go_wp2_with fail
        go_roundw
        case rel => exact ⟨k + 1, m, HLT.out, by go_num, rfl, HW2, HF⟩
        case measure => have := HLT.out; simp [intOf]; omega
    · have HM : Hid (long l = m) := Lib.hid (by rw [← HQ.out, List.drop_eq_nil_of_le (by rw [← HN.out]; omega)]; exact Nat.max_zero _)
      have i2 : (n : Int) ≤ (k : Int) := by omega
      clear hlt
      go_wp2_with fail
      go_ret
      exact ⟨by rw [HM.out]; rfl, HW.out⟩

set_option maxHeartbeats 3200000 in
theorem rnew_any (n : Int) (r : Nat) (hr : max 0 (min n 64) = (r : Int)) (w : World) :
    Calls Try.prog 9 #[.int .i64 n] w (CopyPost (List.replicate r 0) w) := by
  have hb : r ≤ 64 := by omega
  have hmk := run_make_row' (P := Try.prog) 24 3 (.int .i64 0) 8 Try.underlying24 infoE rfl .i64 .i64 r (by omega) (by omega)
  by_cases h1 : n < 0
  · obtain rfl : r = 0 := by omega
    have hmk0 : ∀ w : World, (Instr.makeSlice 24 (.int .i64 0) (.int .i64 0)).run Try.prog w = _ := fun w => run_make_row' (P := Try.prog) 24 3 (.int .i64 0) 8 Try.underlying24 infoE rfl .i64 .i64 0 (by omega) (by omega) w
    clear hr hmk
    go_enter Try.func9, Try.ntmps9
    go_wp2
    go_ret
    exact ⟨_, rfl, made_own w w.heap.size 0 (Nat.le_refl _) (by omega), (Below.refl _ w).alloc (Nat.le_refl _) _⟩
  by_cases h2 : 64 < n
  · obtain rfl : r = 64 := by omega
    have hmk0 : ∀ w : World, (Instr.makeSlice 24 (.int .i64 64) (.int .i64 64)).run Try.prog w = _ := fun w => run_make_row' (P := Try.prog) 24 3 (.int .i64 0) 8 Try.underlying24 infoE rfl .i64 .i64 64 (by omega) (by omega) w
    clear hr hmk
    go_enter Try.func9, Try.ntmps9
    go_wp2
    go_ret
    exact ⟨_, rfl, made_own w w.heap.size 64 (Nat.le_refl _) (by omega), (Below.refl _ w).alloc (Nat.le_refl _) _⟩
  · obtain rfl : n = (r : Int) := by omega
    clear hr
    go_enter Try.func9, Try.ntmps9
    go_wp2
    go_ret
    exact ⟨_, rfl, made_own w w.heap.size r (Nat.le_refl _) hb, (Below.refl _ w).alloc (Nat.le_refl _) _⟩

end Go.Proofs.Ytaegmlmibbppoaa.Page
