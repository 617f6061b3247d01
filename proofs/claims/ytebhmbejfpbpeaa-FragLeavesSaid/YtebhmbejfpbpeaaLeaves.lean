/- Proved: the law FragLeaves of package scutagelaw39 over any pages. -/
import Derived.Test.YtebhmbejfpbpeaaLeafPure
import Derived.Test.YtebhmbejfpbpeaaInts
namespace Go.Proofs.Ytebhmbejfpbpeaa.Leaves
open Go.RowKit Go.Proofs.Ytebhmbejfpbpeaa.H Go.Proofs.Ytebhmbejfpbpeaa.Nums Go.Proofs.Ytebhmbejfpbpeaa.PFragPlans Go.Proofs.Ytebhmbejfpbpeaa.PurePlans
open Go.Proofs.YtebhmbejfpbpeaaW.PrintWords (mn mx Kd Kd.C Kd.R_slice Kd.R_reads' Kd.C_below)
set_option linter.unusedVariables false
set_option linter.unusedSimpArgs false

def CutPost (A : Option Addr) (m n c : Nat) (w : World) (e : Ending) (w' : World) : Prop := e = .returned (.slice A (min m n) c) ∧ w' = w

set_option maxHeartbeats 1600000 in
theorem few_any (A : Option Addr) (n c : Nat) (w : World) (hc : n ≤ c) :
    Calls Try.prog 9 #[.slice A n c] w (CutPost A 40 n c w) := by
  by_cases h : 40 < n
  · have e : min 40 n = 40 := by omega
    go_enter Try.func9, Try.ntmps9
    go_wp2
    go_ret
    exact ⟨by rw [e]; rfl, rfl⟩
  · have e : min 40 n = n := by omega
    go_enter Try.func9, Try.ntmps9
    go_wp2
    go_ret
    exact ⟨by rw [e]; rfl, rfl⟩

theorem C_take {w : World} {A : Option Addr} {l : List S27} (h : Kd.C k27 w A l.length l) (m : Nat) : Kd.C k27 w A (l.take m).length (l.take m) := by
  refine ⟨rfl, Nat.le_trans (by rw [List.length_take]; omega) h.2.1, fun h0 => ?_⟩
  obtain ⟨ad, e, hh⟩ := h.2.2 (by rw [List.length_take] at h0; omega)
  refine ⟨ad, e, fun j x hx => hh j x ?_⟩
  rw [List.getElem?_take] at hx
  split at hx
  · exact hx
  · cases hx

theorem fol_cons {n : Int} {L : Nat} {v : Nat → Int} {m : S35} {rs : List S35} (h : Fol n L v (m :: rs)) :
    ∃ f e : Nat, f ≠ e ∧ f < L ∧ e < L ∧ (0 < v f ∧ v f < n) ∧ (0 < v e ∧ v e < n) ∧ m = ⟨(e : Int), (f : Int), mn (n - v f) (v e)⟩ ∧ Fol n L (moved v f e (mn (n - v f) (v e))) rs := by
  cases h with
  | go _ f e _ hs hne hf he pf pe h => exact ⟨f, e, hne, hf, he, pf, pe, rfl, h⟩
theorem upd_swap (v : Nat → Int) (a b : Nat) (x y : Int) (h : a ≠ b) : upd (upd v a x) b y = upd (upd v b y) a x := by
  funext i
  unfold upd
  by_cases c : i = b
  · subst c; rw [if_pos rfl, if_neg (fun c => h c.symm), if_pos rfl]
  · rw [if_neg c, if_neg c]
theorem rd35_drop (ms : List S35) (k : Nat) (m : S35) (rs : List S35) (h : ms.drop k = m :: rs) : rd_T35 ms (k : Int) = m ∧ ms.drop (k + 1) = rs ∧ k < ms.length := by
  have hk : k < ms.length := by
    by_cases c : k < ms.length
    · exact c
    · rw [List.drop_eq_nil_of_le (by omega)] at h; cases h
  rw [List.drop_eq_getElem_cons hk] at h
  injection h with h1 h2
  refine ⟨?_, h2, hk⟩
  unfold rd_T35
  rw [Int.toNat_natCast, List.getD_eq_getElem?_getD, List.getElem?_eq_getElem hk, h1]; rfl
theorem fol_zero {L : Nat} {v : Nat → Int} {ms : List S35} (h : Fol 0 L v ms) : ms = [] := by
  cases h with
  | stop => rfl
  | go _ f e _ hs hne hf he pf pe h => omega

theorem sumv_succ (v : Nat → Int) (k : Nat) : sumv v (k + 1) = sumv v k + v k := rfl
theorem cnt_succ (W : Nat → Bool) (k : Nat) : cnt W (k + 1) = cnt W k + (if W k = true then 1 else 0) := rfl
theorem emp_succ (W : Nat → Bool) (v : Nat → Int) (k : Nat) : emp W v (k + 1) = emp W v k + (if W k = true ∧ v k = 0 then 1 else 0) := rfl

attribute [local irreducible] cl us vn kin sumv cnt emp nowOf frag_Plan.f frag_Spare.f

set_option maxRecDepth 100000 in
set_option maxHeartbeats 12800000 in
theorem leaves_none (A : Option Addr) (c : Nat) (l : List S27) (kc : Int) (w : World) (hC : Kd.C k27 w A l.length l) (hc : l.length ≤ c) (hz : cl kc = 0) :
    Calls Try.prog 5 #[.slice A l.length c, .int .i64 kc] w (Same w (.bool true)) := by
  obtain ⟨P, hP⟩ : ∃ P, l.take 40 = P := ⟨_, rfl⟩
  have hPl : min 40 l.length = P.length := by rw [← hP, List.length_take]
  obtain ⟨ms, hm, hf, hml⟩ := plan_all P kc (by omega)
  rw [hz] at hf
  obtain rfl := fol_zero hf
  have HC := Lib.hid hC
  have Hc := Lib.hid hc
  have HM := Lib.hid hm
  have HP := Lib.hid hP
  have HPL := Lib.hid hPl
  have HZ := Lib.hid hz
  clear hC hc hm hP hPl hf hml hz
  go_enter Try.func5, Try.ntmps5
  go_wp2_with fail
  with_reducible refine (scutagelaw39_alive.calls 60 true _ alive_true).mono ?_
  rintro x1 w1 ⟨rfl, hb1⟩
  have B1 := Lib.hid hb1
  clear hb1
  go_wp2_with fail
  with_reducible refine (few_any A l.length c _ Hc.out).mono ?_
  rintro x2 w2 ⟨rfl, rfl⟩
  have C2 : Hid (Kd.C k27 w2 A P.length P) := Lib.hid (by have h := C_take (Kd.C_below HC.out B1.out) 40; rw [HP.out] at h; exact h)
  rw [HPL.out]
  go_wp2_with fail
  with_reducible refine (frag_Plan.calls 400 A c P kc [] _ C2.out (by have := Hc.out; have := HPL.out; omega) HM.out).mono ?_
  rintro x3 w3 ⟨v3, rfl, hr3, hb3⟩
  obtain ⟨A5, c5, rfl⟩ := Kd.R_slice hr3
  have B3 := Lib.hid (B1.out.trans (hb3.mono B1.out.size))
  clear hr3 hb3
  go_wp2_with fail
  with_reducible refine (scutageref06_Cells.calls kc 0 _ (by rw [ref_cells_eq, HZ.out])).mono ?_
  rintro x4 w4 ⟨rfl, hb4⟩
  have B4 := Lib.hid (B3.out.trans (hb4.mono B3.out.size))
  clear hb4
  go_wp2_with fail
  go_ret
  exact ⟨rfl, B4.out⟩

theorem own_at {w : World} {B : Nat} {A : Option Addr} {n c : Nat} {W : Nat → Bool} {v : Nat → Int} {L : Nat} (h : Own w B (.slice A n c) (nowOf W v L)) (k : Nat) (hk : k < L) (hn : n = L) :
    ∃ d, A = some ⟨d, 0, none⟩ ∧ w.cell? ⟨d, k, none⟩ = some (.int .i64 (if W k = true then v k else -1)) ∧ w.frozen? ⟨d, k, none⟩ = false := by
  obtain ⟨d, y, e, x0, f0, hy⟩ := h.cell k (by rw [nowOf_len]; exact hk)
  rw [nowOf_at _ _ _ _ hk] at hy
  injection hy with hy
  exact ⟨d, e, by rw [x0, hy], f0⟩

structure Hold (n : Int) (W : Nat → Bool) (L : Nat) (tot : Int) (ms : List S35) (B : Nat) (w0 : World) (v7 : Value) (v : Nat → Int) (wr : World) : Prop where
  fol : Fol n L v ms
  good : Go.Proofs.Ytebhmbejfpbpeaa.PurePlans.Good n W v
  sum : sumv v L = tot
  own : Own wr B v7 (nowOf W v L)
  bel : Below B w0 wr

set_option maxRecDepth 100000 in
set_option maxHeartbeats 12800000 in
theorem leaves_some (A : Option Addr) (c : Nat) (l : List S27) (kc : Int) (w : World) (hC : Kd.C k27 w A l.length l) (hc : l.length ≤ c) (n : Int) (hcl : cl kc = n) (hz : 0 < n) (hz2 : n ≤ 16) :
    Calls Try.prog 5 #[.slice A l.length c, .int .i64 kc] w (Same w (.bool true)) := by
  obtain ⟨P, hP⟩ : ∃ P, l.take 40 = P := ⟨_, rfl⟩
  have hPl : min 40 l.length = P.length := by rw [← hP, List.length_take]
  obtain ⟨L, hL⟩ : ∃ L, P.length = L := ⟨_, rfl⟩
  obtain ⟨ms, hm, hf, hml⟩ := plan_all P kc (by omega)
  rw [hcl, hL] at hf
  have hg := good_vn P kc
  rw [hcl] at hg
  have HC := Lib.hid hC
  have Hc := Lib.hid hc
  have HM := Lib.hid hm
  have HP := Lib.hid hP
  have HPL := Lib.hid hPl
  have HL := Lib.hid hL
  have HL4 := Lib.hid (show L ≤ 40 by omega)
  have HF := Lib.hid hf
  have HG := Lib.hid hg
  have HML := Lib.hid hml
  have HZ := Lib.hid hz
  have HZ2 := Lib.hid hz2
  have HCL := Lib.hid hcl
  have g0 : (n == 0) = false := by simp; omega
  clear hC hc hm hP hPl hf hml hz hz2 hL hg hcl
  go_enter Try.func5, Try.ntmps5
  go_wp2_with fail
  with_reducible refine (scutagelaw39_alive.calls 60 true _ alive_true).mono ?_
  rintro x1 w1 ⟨rfl, hb1⟩
  have B1 := Lib.hid hb1
  clear hb1
  go_wp2_with fail
  with_reducible refine (few_any A l.length c _ Hc.out).mono ?_
  rintro x2 w2 ⟨rfl, rfl⟩
  have C2 : Hid (Kd.C k27 w2 A P.length P) := Lib.hid (by have h := C_take (Kd.C_below HC.out B1.out) 40; rw [HP.out] at h; exact h)
  have HLc := Lib.hid (show L ≤ c by have := Hc.out; have := HPL.out; have := HL.out; omega)
  rw [HPL.out]
  go_wp2_with fail
  with_reducible refine (frag_Plan.calls 400 A c P kc ms _ C2.out (by rw [HL.out]; exact HLc.out) HM.out).mono ?_
  rintro x3 w3 ⟨v3, rfl, hr3, hb3⟩
  obtain ⟨A5, c5, rfl⟩ := Kd.R_slice hr3
  have B3 := Lib.hid (B1.out.trans (hb3.mono B1.out.size))
  have C3 := Lib.hid (Kd.C_below C2.out hb3)
  have D3 := Lib.hid (Kd.R_reads' hr3).2.2
  clear hr3 hb3
  go_wp2_with fail
  with_reducible refine (scutageref06_Cells.calls kc n _ (by rw [ref_cells_eq, HCL.out])).mono ?_
  rintro x4 w4 ⟨rfl, hb4⟩
  have B4 := Lib.hid (B3.out.trans (hb4.mono B3.out.size))
  have C4 := Lib.hid (Kd.C_below C3.out hb4)
  have D4 := Lib.hid (Kd.C_below D3.out hb4)
  clear hb4
  rw [HL.out] at C4 ⊢
  clear HC C2 C3
  go_wp2_with fail
  go_loopw [7, 8, 9, 10] (fun v7 v8 v9 v10 wr => ∃ (k : Nat) (s q : Int), k ≤ L ∧ v10 = .int .i64 k ∧ v8 = .int .i64 s ∧ v9 = .int .i64 q ∧ Hid (sumv (vn P kc) k = s ∧ cnt (kin P kc) k = q ∧ Own wr w4.heap.size v7 (nowOf (kin P kc) (vn P kc) k) ∧ Below w4.heap.size w4 wr)) (fun _ _ _ i _ => L - (intOf i).toNat)
  case atStart => exact ⟨0, 0, 0, Nat.zero_le _, rfl, rfl, rfl, Lib.hid ⟨by simp [sumv], by simp [cnt], by rw [show nowOf (kin P kc) (vn P kc) 0 = [] by simp [nowOf]]; exact Own.nil _ _, Below.refl _ _⟩⟩
  case round =>
    obtain ⟨k, s, q, hk, rfl, rfl, rfl, HQ0⟩ := hrel
    have hs := HQ0.out.1
    have hq := HQ0.out.2.1
    have HQ := Lib.hid HQ0.out.2.2
    clear HQ0
    obtain ⟨N, hN⟩ : ∃ N, nowOf (kin P kc) (vn P kc) k = N := ⟨_, rfl⟩
    have hNl := nowOf_len (kin P kc) (vn P kc) k
    rw [hN] at HQ hNl
    have hsb := sumv_bound HG.out HZ2.out k
    have hqb := cnt_bound (kin P kc) k
    rw [hs] at hsb
    rw [hq] at hqb
    obtain ⟨A7, c7, rfl, _⟩ := HQ.out.1.slice
    have i1 : (0 : Int) ≤ (k : Int) := Int.natCast_nonneg _
    by_cases hlt : k < L
    · have i2 : (k : Int) < (L : Int) := by omega
      have HLT := Lib.hid hlt
      have HSB := Lib.hid hsb
      have HQB := Lib.hid hqb
      have HNL := Lib.hid hNl
      have HS := Lib.hid hs
      have HQ1 := Lib.hid hq
      have HN := Lib.hid hN
      obtain ⟨ad, hA, x0, x1⟩ := at_T27 (Kd.C_below C4.out HQ.out.2) (k : Int) i1 i2
      subst hA
      rw [Int.toNat_natCast] at x0 x1
      obtain ⟨pa, hpa⟩ : ∃ pa, (rd_T27 P (k : Int)).f0 = pa := ⟨_, rfl⟩
      obtain ⟨pb, hpb⟩ : ∃ pb, (rd_T27 P (k : Int)).f1 = pb := ⟨_, rfl⟩
      rw [hpa] at x0
      rw [hpb] at x1
      have HPA := Lib.hid hpa
      have HPB := Lib.hid hpb
      by_cases hkk : pa = kc
      · subst hkk
        have hW : kin P pa k = true := by unfold kin; exact decide_eq_true hpa
        have hV : vn P pa k = us pa pb := by unfold vn; rw [if_pos hpa, hpa, hpb]
        obtain ⟨u, hu⟩ : ∃ u, us pa pb = u := ⟨_, rfl⟩
        rw [hu] at hV
        have hub := us_le pa pb
        rw [HCL.out, hu] at hub
        have HU := Lib.hid (show scutagelaw39_used.f pa pb = some u by rw [law_used_eq, hu])
        have HUB := Lib.hid hub
        have E1 := Lib.hid (show sumv (vn P pa) (k + 1) = s + u by rw [sumv_succ, hs, hV])
        have E2 := Lib.hid (show cnt (kin P pa) (k + 1) = q + 1 by rw [cnt_succ, hq, if_pos hW])
        have E3 := Lib.hid (show nowOf (kin P pa) (vn P pa) (k + 1) = N ++ [u] by rw [nowOf_snoc, hN, if_pos hW, hV])
        clear hs hq hN hpa hpb hW hV hu hub hsb hqb hNl hlt
        go_wp2_with fail
        with_reducible refine (scutagelaw39_used.calls pa pb u _ HU.out).mono ?_
        rintro x7 w7 ⟨rfl, hb7⟩
        have O7 := Lib.hid (HQ.out.1.fr (Fr.of_below hb7 No) (fun _ _ h => h))
        have B7 := Lib.hid (HQ.out.2.trans (hb7.mono HQ.out.2.size))
        clear hb7 x0 x1 HQ
        go_wp2_with (at_builtin; refine app_one (l := N) (y := u) rfl _ _ rfl rfl (O7.out.fr (Fr.alloc (Fr.refl No _) _) (fun _ _ h => h)) rfl rfl (heap_alloc_new _ _) (by decide) (by have := HNL.out; have := HLT.out; have := HL4.out; omega) (by have := B7.out.size; simp; omega) ?_; intro v8 w8 h1 h2 h3; refine Hid.out ?_)
        have F8 := ((Fr.refl (fun j => (Value.slice A7 N.length c7).ownBlock = some j) w7).alloc _).grown h2 (fun j hj => .inl hj)
        have B8 := Lib.hid (B7.out.trans (F8.below B7.out.size (fun j hj => (O7.out.lt j hj).1)))
        rw [← E3.out] at h1
        obtain ⟨A8, c8, rfl, _⟩ := h1.slice
        have O8 := Lib.hid h1
        rw [E3.out] at O8 ⊢
        obtain ⟨N2, hN2⟩ : ∃ N2, N ++ [u] = N2 := ⟨_, rfl⟩
        rw [hN2] at O8 ⊢
        have E4 := Lib.hid (show nowOf (kin P pa) (vn P pa) (k + 1) = N2 by rw [E3.out, hN2])
        obtain ⟨ad2, hA, x0, x1⟩ := at_T27 (Kd.C_below C4.out B8.out) (k : Int) i1 i2
        injection hA with hA
        subst hA
        rw [Int.toNat_natCast] at x0 x1
        rw [HPA.out] at x0
        rw [HPB.out] at x1
        clear h1 h2 h3 F8 hN2
        refine Lib.hid ?_
        go_wp2_with fail
        with_reducible refine (scutagelaw39_used.calls pa pb u _ HU.out).mono ?_
        rintro x9 w9 ⟨rfl, hb9⟩
        have O9 := Lib.hid (O8.out.fr (Fr.of_below hb9 No) (fun _ _ h => h))
        have B9 := Lib.hid (B8.out.trans (hb9.mono B8.out.size))
        clear hb9 x0 x1
        have z1 := HLT.out
        have z2 := HL4.out
        have z3 := HSB.out
        have z4 := HQB.out
        have z5 := HUB.out
        have z6 := HZ2.out
        go_wp2_with fail
        go_roundw
        case rel => exact ⟨k + 1, s + u, q + 1, HLT.out, by go_num, by go_num, by go_num, Lib.hid ⟨E1.out, E2.out, by rw [E4.out]; exact O9.out, B9.out⟩⟩
        case measure => have := HLT.out; simp [intOf]; omega
      · have gk : (pa == kc) = false := by simpa using hkk
        have hW : ¬ kin P kc k = true := by unfold kin; rw [decide_eq_false (by rw [hpa]; exact hkk)]; decide
        have hV : vn P kc k = 0 := by unfold vn; rw [if_neg (by rw [hpa]; exact hkk)]
        have E1 := Lib.hid (show sumv (vn P kc) (k + 1) = s by rw [sumv_succ, hs, hV]; omega)
        have E2 := Lib.hid (show cnt (kin P kc) (k + 1) = q by rw [cnt_succ, hq, if_neg hW]; omega)
        have E3 := Lib.hid (show nowOf (kin P kc) (vn P kc) (k + 1) = N ++ [-1] by rw [nowOf_snoc, hN, if_neg hW])
        clear hs hq hN hpa hpb hW hV hsb hqb hNl hlt hkk
        have z1 := HLT.out
        have z2 := HL4.out
        go_wp2_with (at_builtin; refine app_one (l := N) (y := -1) rfl _ _ rfl rfl (HQ.out.1.fr (Fr.alloc (Fr.refl No _) _) (fun _ _ h => h)) rfl rfl (heap_alloc_new _ _) (by decide) (by have := HNL.out; have := HLT.out; have := HL4.out; omega) (by have := HQ.out.2.size; simp; omega) ?_; intro v8 w8 h1 h2 h3; have F8 := Lib.hid (((Fr.refl (fun j => (Value.slice A7 N.length c7).ownBlock = some j) wr).alloc _).grown h2 (fun j hj => .inl hj)); have H1 := Lib.hid h1; clear h1 h2 h3)
        go_roundw
        case rel => exact ⟨k + 1, s, q, HLT.out, by go_num, rfl, rfl, Lib.hid ⟨E1.out, E2.out, by rw [E3.out]; exact H1.out, HQ.out.2.trans (F8.out.below HQ.out.2.size (fun j hj => (HQ.out.1.lt j hj).1))⟩⟩
        case measure => have := HLT.out; simp [intOf]; omega
    · have hkL : k = L := by omega
      have i2 : ¬ (k : Int) < (L : Int) := by omega
      rw [hkL] at hs hq hN hNl hsb hqb
      have H5 : Hid (Hold n (kin P kc) L s ms w4.heap.size w4 (Value.slice A7 N.length c7) (vn P kc) wr) := Lib.hid ⟨HF.out, HG.out, hs, by rw [hN]; exact HQ.out.1, HQ.out.2⟩
      rw [hNl] at H5 ⊢
      have HSB := Lib.hid hsb
      have HQB := Lib.hid hqb
      have HS := Lib.hid hs
      have HQ1 := Lib.hid hq
      clear hs hq hN hNl hsb hqb HQ hk hlt hkL
      go_wp2_with fail
      go_loopw [11] (fun v11 wr => ∃ i : Nat, i ≤ ms.length ∧ v11 = .int .i64 i ∧ Hid (∃ v, Hold n (kin P kc) L s (ms.drop i) w4.heap.size w4 (Value.slice A7 L c7) v wr)) (fun i _ => ms.length - (intOf i).toNat)
      case atStart => exact ⟨0, Nat.zero_le _, rfl, Lib.hid ⟨_, by rw [List.drop_zero]; exact H5.out⟩⟩
      case round =>
        obtain ⟨i, hi, rfl, HV⟩ := hrel
        obtain ⟨v, hv⟩ := HV.out
        have HV := Lib.hid hv
        have j1 : (0 : Int) ≤ (i : Int) := Int.natCast_nonneg _
        have z2 := HML.out
        by_cases hlt : i < ms.length
        · have j2 : (i : Int) < (ms.length : Int) := by omega
          have HLT := Lib.hid hlt
          obtain ⟨m0, rs, hdr⟩ : ∃ m rs, ms.drop i = m :: rs := ⟨_, _, List.drop_eq_getElem_cons hlt⟩
          obtain ⟨hr1, hr2, _⟩ := rd35_drop ms i m0 rs hdr
          have hfol := hv.fol
          rw [hdr] at hfol
          obtain ⟨f, e, hne, hf, he, pf, pe, rfl, hfol2⟩ := fol_cons hfol
          obtain ⟨ad5, hA5, x0, x1, x2⟩ := at_T35 (Kd.C_below D4.out hv.bel) (i : Int) j1 j2
          subst hA5
          rw [Int.toNat_natCast, hr1] at x0 x1 x2
          simp only at x0 x1 x2
          have ke := hv.good.kind pe.1
          have kf := hv.good.kind pf.1
          obtain ⟨d, hA7, y0, fy0⟩ := own_at hv.own e he rfl
          obtain ⟨d', hA7', y1, fy1⟩ := own_at hv.own f hf rfl
          subst hA7
          obtain rfl : d = d' := by injection hA7' with h; injection h
          rw [if_pos ke] at y0
          rw [if_pos kf] at y1
          have hm : 1 ≤ mn (n - v f) (v e) ∧ mn (n - v f) (v e) ≤ v e ∧ mn (n - v f) (v e) ≤ n - v f := by unfold mn; split <;> omega
          have hgood := good_moved hv.good hne pf pe
          have hsum := sumv_moved (m := mn (n - v f) (v e)) (v := v) hne hf he
          obtain ⟨mm, hmm⟩ : ∃ mm, mn (n - v f) (v e) = mm := ⟨_, rfl⟩
          rw [hmm] at x2 hm hgood hsum hfol2
          obtain ⟨ve, hve⟩ : ∃ ve, v e = ve := ⟨_, rfl⟩
          obtain ⟨vf, hvf⟩ : ∃ vf, v f = vf := ⟨_, rfl⟩
          rw [hve] at y0 hm pe
          rw [hvf] at y1 hm pf
          have z3 := HZ2.out
          have g1 : decide ((e : Int) < 0) = false := decide_eq_false (by omega)
          have g2 : decide ((f : Int) < 0) = false := decide_eq_false (by omega)
          have g3 : decide ((L : Int) ≤ (e : Int)) = false := decide_eq_false (by omega)
          have g4 : decide ((L : Int) ≤ (f : Int)) = false := decide_eq_false (by omega)
          have g5 : ((e : Int) == (f : Int)) = false := beq_eq_false_iff_ne.mpr (by omega)
          have g6 : decide (mm < 1) = false := decide_eq_false (by omega)
          have g7 : decide (ve < mm) = false := decide_eq_false (by omega)
          have g8 : decide (vf < 1) = false := decide_eq_false (by omega)
          have g9 : ¬ ((e : Int) = (f : Int)) := by omega
          have e1 : (0 : Int) ≤ (e : Int) := by omega
          have e2 : (e : Int) < (L : Int) := by omega
          have e3 : (0 : Int) ≤ (f : Int) := by omega
          have e4 : (f : Int) < (L : Int) := by omega
          have g3a : decide ((e : Int) ≥ (L : Int)) = false := decide_eq_false (by omega)
          have g4a : decide ((f : Int) ≥ (L : Int)) = false := decide_eq_false (by omega)
          have g3b : decide (L ≤ e) = false := decide_eq_false (by omega)
          have g4b : decide (L ≤ f) = false := decide_eq_false (by omega)
          have g5a : (e == f) = false := beq_eq_false_iff_ne.mpr (by omega)
          have g5b : decide (e = f) = false := decide_eq_false (by omega)
          have HM1 := Lib.hid hm
          have HV2 : Hid (∀ w' A7 c7, Own w' w4.heap.size (Value.slice A7 L c7) (((nowOf (kin P kc) v L).set e (ve - mm)).set f (vf + mm)) → Below w4.heap.size w4 w' → Hold n (kin P kc) L s (ms.drop (i + 1)) w4.heap.size w4 (Value.slice A7 L c7) (moved v f e mm) w') := Lib.hid fun w' A7 c7 ho hb => by
            refine ⟨by rw [hr2]; exact hfol2, hgood, by rw [hsum]; exact hv.sum, ?_, hb⟩
            rw [nowOf_set _ _ _ _ _ ke, nowOf_set _ _ _ _ _ kf, upd_swap _ _ _ _ _ (fun h => hne h.symm), ← hvf] at ho
            unfold moved
            rw [hve]
            exact ho
          have HR1 : Hid (rd_T35 ms (i : Int) = ⟨(e : Int), (f : Int), mm⟩) := Lib.hid (by rw [hr1, hmm])
          have HLF : Hid (((nowOf (kin P kc) v L).set e (ve - mm))[f]? = some vf) := Lib.hid (by rw [List.getElem?_set_ne (fun h => hne h.symm), nowOf_at _ _ _ _ hf, if_pos kf, hvf])
          have HO0 := Lib.hid hv.own
          have HB0 := Lib.hid hv.bel
          have HNE := Lib.hid hne
          have HEL := Lib.hid he
          have HFL := Lib.hid hf
          clear hfol hfol2 hgood hsum hmm hve hvf ke kf hdr hr1 hr2 hne hf he hv HV hlt hm hA7'
          go_wp2
          go_quiet (fail)
          revert nq
          intro n1
          go_wp2
          go_quiet (fail)
          revert nq
          intro n2
          go_wp2
          go_region
          rw [show wrap64 (ve - mm) = ve - mm by have := HM1.out; have := z3; unfold wrap64; omega]
          obtain ⟨w8, hw8⟩ : ∃ w8, w8 = (wr.drewN (n1 + n2 + 1)).setCell ⟨d, e, none⟩ (.int .i64 (ve - mm)) := ⟨_, rfl⟩
          rw [← hw8]
          have O8 : Hid (Own w8 w4.heap.size (Value.slice (some ⟨d, 0, none⟩) L c7) ((nowOf (kin P kc) v L).set e (ve - mm))) := Lib.hid (by rw [hw8]; exact (HO0.out.fr (Fr.drewN (Fr.refl No wr) _) (fun _ _ h => h)).put e (ve - mm))
          have F8 : Fr (fun j => j = d) wr w8 := by rw [hw8]; exact Fr.setCell (S := fun j => j = d) ((Fr.refl _ wr).drewN _) (p := ⟨d, e, none⟩) (.inl rfl) _
          have B8 := Lib.hid (HB0.out.trans (F8.below HB0.out.size (fun j hj => by rw [hj]; exact (HO0.out.lt d rfl).1)))
          clear x0 x1 x2 y0 y1 fy0 fy1 F8 hw8
          obtain ⟨ad6, hA6, x0, x1, x2⟩ := at_T35 (Kd.C_below D4.out B8.out) (i : Int) j1 j2
          injection hA6 with hA6
          subst hA6
          rw [Int.toNat_natCast, HR1.out] at x0 x1 x2
          simp only at x0 x1 x2
          obtain ⟨d2, y, hA7, y1, fy1, hy⟩ := O8.out.cell f (by rw [List.length_set, nowOf_len]; exact HFL.out)
          rw [HLF.out] at hy
          injection hy with hy
          injection hA7 with hA7
          injection hA7 with hA7
          subst hA7 hy
          go_wp2
          go_region
          rw [show wrap64 (vf + mm) = vf + mm by have := HM1.out; have := z3; have := pf; unfold wrap64; omega]
          obtain ⟨w9, hw9⟩ : ∃ w9, w9 = (w8.setCell ⟨d, f, none⟩ (.int .i64 (vf + mm))).drew := ⟨_, rfl⟩
          rw [← hw9]
          have O9 : Hid (Own w9 w4.heap.size (Value.slice (some ⟨d, 0, none⟩) L c7) (((nowOf (kin P kc) v L).set e (ve - mm)).set f (vf + mm))) := Lib.hid (by rw [hw9]; exact (O8.out.put f (vf + mm)).fr (Fr.drew (Fr.refl No _)) (fun _ _ h => h))
          have F9 : Fr (fun j => j = d) w8 w9 := by rw [hw9]; exact (Fr.setCell (S := fun j => j = d) (Fr.refl _ w8) (p := ⟨d, f, none⟩) (.inl rfl) _).drew
          have B9 := Lib.hid (B8.out.trans (F9.below B8.out.size (fun j hj => by rw [hj]; exact (O8.out.lt d rfl).1)))
          clear x0 x1 x2 y1 fy1 F9 hw9
          go_wp2
          go_roundw
          case rel => exact ⟨i + 1, HLT.out, by go_num, Lib.hid ⟨_, HV2.out _ _ _ O9.out B9.out⟩⟩
          case measure => have := HLT.out; simp [intOf]; omega
        · have j2 : ¬ (i : Int) < (ms.length : Int) := by omega
          have hfol := hv.fol
          rw [List.drop_eq_nil_of_le (by omega)] at hfol
          have hsp := spare_is P kc (by rw [HL.out]; exact HL4.out) (by rw [HCL.out]; exact HZ.out) v (by rw [HCL.out]; exact hv.good) (by rw [HCL.out, HL.out]; exact stop_one hfol) (by rw [HL.out, hv.sum, HS.out])
          rw [HL.out] at hsp
          have heb := emp_bound (kin P kc) v L
          rw [HQ1.out] at heb
          obtain ⟨E, hE⟩ : ∃ E, emp (kin P kc) v L = E := ⟨_, rfl⟩
          rw [hE] at hsp heb
          have HEE := Lib.hid hE
          have HEB := Lib.hid heb
          have HSC : Hid (∀ w0, Kd.C k27 w0 A L P → Calls Try.prog 12 #[.slice A L c, .int .i64 kc] w0 fun e w' => e = .returned (.int .i64 E) ∧ Below w0.heap.size w0 w') := Lib.hid (by
            intro w0 hC
            have h := frag_Spare.calls 60 A c P kc E w0 (by rw [HL.out]; exact hC) (by rw [HL.out]; exact HLc.out) hsp
            rw [HL.out] at h
            exact h)
          clear hfol hsp hv hE heb hi z2
          go_wp2_with fail
          go_loopw [8, 14, 15] (fun v8 v14 v15 wx => ∃ (j : Nat) (t em : Int), j ≤ L ∧ v15 = .int .i64 j ∧ v14 = .int .i64 em ∧ v8 = .int .i64 t ∧ wx = wr ∧ Hid (t = s - sumv v j ∧ em = emp (kin P kc) v j)) (fun _ _ i _ => L - (intOf i).toNat)
          case atStart => exact ⟨0, s, 0, Nat.zero_le _, rfl, rfl, rfl, rfl, Lib.hid ⟨by simp [sumv], by simp [emp]⟩⟩
          case round =>
            obtain ⟨j, t, em, hj, rfl, rfl, rfl, rfl, HT⟩ := hrel
            obtain ⟨ht, hem⟩ := HT.out
            have l1 : (0 : Int) ≤ (j : Int) := Int.natCast_nonneg _
            have z2 := HL4.out
            by_cases hlt : j < L
            · have HLT := Lib.hid hlt
              have l2 : (j : Int) < (L : Int) := by omega
              obtain ⟨d, hA7, y0, fy0⟩ := own_at HV.out.own j hlt rfl
              subst hA7
              have hvg := HV.out.good.a j
              have hvb := HV.out.good.b j
              have hsb1 := sumv_bound HV.out.good HZ2.out j
              have hsb2 := HSB.out
              have heb1 := emp_bound (kin P kc) v j
              have heb2 := cnt_bound (kin P kc) j
              have hn16 := HZ2.out
              have E1 : sumv v (j + 1) = sumv v j + v j := sumv_succ v j
              have E2 := emp_succ (kin P kc) v j
              obtain ⟨x, hx⟩ : ∃ x, (if kin P kc j = true then v j else -1) = x := ⟨_, rfl⟩
              rw [hx] at y0
              have hx1 : -1 ≤ x ∧ x ≤ n := by rw [← hx]; split <;> omega
              have hx2 : max x 0 = v j := by
                rw [← hx]
                by_cases c1 : kin P kc j = true
                · rw [if_pos c1]; omega
                · rw [if_neg c1, hvb (by simpa using c1)]; rfl
              obtain ⟨y, hy⟩ : ∃ y, v j = y := ⟨_, rfl⟩
              rw [hy] at hx2 E1 hvg
              have HT1 := Lib.hid (show t - y = s - sumv v (j + 1) by omega)
              have t1 : -700 ≤ t ∧ t ≤ 700 := by omega
              have t2 : 0 ≤ em ∧ em ≤ 40 := by omega
              have g1 : decide (x > n) = false := decide_eq_false (by omega)
              have g2 : decide (n < x) = false := decide_eq_false (by omega)
              by_cases hx0 : x = 0
              · have HE1 := Lib.hid (show em + 1 = emp (kin P kc) v (j + 1) by
                  rw [E2, if_pos, hem]
                  by_cases c1 : kin P kc j = true
                  · rw [if_pos c1] at hx; exact ⟨c1, by omega⟩
                  · rw [if_neg c1] at hx; omega)
                have hy0 : y = 0 := by rw [hx0] at hx2; simpa using hx2.symm
                subst hx0
                clear E1 E2 hx hx2 hy hvb hsb1 hsb2 heb1 heb2 ht hem hlt hvg hx1
                subst hy0
                go_wp2_with fail
                go_roundw
                case rel => exact ⟨j + 1, t, em + 1, HLT.out, by go_num, rfl, rfl, trivial, Lib.hid ⟨by have := HT1.out; omega, HE1.out⟩⟩
                case measure => have := HLT.out; simp [intOf]; omega
              · have HE1 := Lib.hid (show em = emp (kin P kc) v (j + 1) by
                  rw [E2, if_neg, hem]
                  · omega
                  · intro c1
                    rw [if_pos c1.1] at hx
                    omega)
                have g3 : (x == 0) = false := by simpa using hx0
                have hyb : 0 ≤ y ∧ y ≤ 16 := by omega
                have hx3 : (if x < 0 then 0 else x) = y := by rw [← hx2]; split <;> omega
                clear E1 E2 hx hy hvb hsb1 hsb2 heb1 heb2 ht hem hlt hvg hx1
                go_wp2_with fail
                go_roundw
                case rel => exact ⟨j + 1, t - y, em, HLT.out, by go_num, rfl, rfl, trivial, Lib.hid ⟨HT1.out, HE1.out⟩⟩
                case measure => have := HLT.out; simp [intOf]; omega
            · have hjL : j = L := by omega
              have l2 : ¬ (j : Int) < (L : Int) := by omega
              rw [hjL, HV.out.sum] at ht
              obtain rfl : t = 0 := by omega
              rw [hjL, HEE.out] at hem
              subst hem
              have hqe := HEB.out
              have l3 : decide (em ≤ q) = true := decide_eq_true (by omega)
              clear ht hlt hj hjL HT
              go_wp2_with fail
              with_reducible refine (HSC.out _ (Kd.C_below C4.out HV.out.bel)).mono ?_
              rintro x10 w10 ⟨rfl, hb10⟩
              have B10 := Lib.hid ((B4.out.trans (HV.out.bel.mono B4.out.size)).trans (hb10.mono (Nat.le_trans B4.out.size HV.out.bel.size)))
              clear hb10
              go_wp2_with fail
              go_ret
              exact ⟨rfl, B10.out⟩

theorem leaves_any (A : Option Addr) (c : Nat) (l : List S27) (kc : Int) (w : World) (hC : Kd.C k27 w A l.length l) (hc : l.length ≤ c) :
    Calls Try.prog 5 #[.slice A l.length c, .int .i64 kc] w (Same w (.bool true)) := by
  have h := cl_le kc
  by_cases hz : cl kc = 0
  · exact leaves_none A c l kc w hC hc hz
  · exact leaves_some A c l kc w hC hc (cl kc) rfl (by omega) h.2

end Go.Proofs.Ytebhmbejfpbpeaa.Leaves
