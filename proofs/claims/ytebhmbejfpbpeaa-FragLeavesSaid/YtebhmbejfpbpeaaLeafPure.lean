/- Proved: what a plan leaves behind, in plain Lean: at its end one page at most is neither empty nor full, so as many are empty as could be. -/
import Derived.Test.YtebhmbejfpbpeaaPureFragPlans
namespace Go.Proofs.Ytebhmbejfpbpeaa.PurePlans
open Go.RowKit Go.Proofs.Ytebhmbejfpbpeaa.PFragPlans Go.Proofs.YtebhmbejfpbpeaaW.PrintWords Go.Proofs.YtebhmbejfpbpeaaW.PrintLast Go.Proofs.YtebhmbejfpbpeaaW.PrintMore

structure Inv2 (n : Int) (v : Nat → Int) (i : Nat) (fe : Int × Int) : Prop where
  great : ∀ j, j < i → 0 < v j → v j < n → 0 ≤ fe.1 ∧ v j ≤ v fe.1.toNat
  first : ∀ j : Nat, (j : Int) < fe.1 → 0 < v j → v j < n → v j < v fe.1.toNat
  last : ∀ j : Nat, fe.2 < (j : Int) → j < i → 0 < v j → 0 ≤ fe.2 ∧ v fe.2.toNat < v j
theorem inv2_start (n : Int) (v : Nat → Int) : Inv2 n v 0 (-1, -1) := ⟨fun j h => by omega, fun j h => by simp only at h; omega, fun j _ h => by omega⟩
theorem inv2_step {n : Int} {v : Nat → Int} {i : Nat} {fe : Int × Int} (h : Inv n v i fe) (h2 : Inv2 n v i fe) : Inv2 n v (i + 1) (stepE n v fe i) := by
  obtain ⟨f, e⟩ := fe
  obtain ⟨⟨a1, a2⟩, ⟨b1, b2⟩, pa, pb, le⟩ := h
  obtain ⟨gr, fi, la⟩ := h2
  simp only at a1 a2 b1 b2 pa pb le gr fi la
  unfold stepE
  by_cases hv : 0 < v i
  · rw [if_pos hv]
    refine ⟨?_, ?_, ?_⟩
    · intro j hj p1 p2
      simp only
      by_cases hc : v i < n ∧ (f < 0 ∨ v f.toNat < v i)
      · rw [if_pos hc, Int.toNat_natCast]
        refine ⟨by omega, ?_⟩
        by_cases hji : j = i
        · subst hji; omega
        · obtain ⟨g1, g2⟩ := gr j (by omega) p1 p2
          rcases hc.2 with h | h <;> omega
      · rw [if_neg hc]
        by_cases hji : j = i
        · subst hji
          have : ¬ (f < 0 ∨ v f.toNat < v j) := fun h => hc ⟨p2, h⟩
          omega
        · exact gr j (by omega) p1 p2
    · intro j hj p1 p2
      simp only at hj ⊢
      by_cases hc : v i < n ∧ (f < 0 ∨ v f.toNat < v i)
      · rw [if_pos hc] at hj
        rw [if_pos hc, Int.toNat_natCast]
        obtain ⟨g1, g2⟩ := gr j (by omega) p1 p2
        rcases hc.2 with h | h <;> omega
      · rw [if_neg hc] at hj
        rw [if_neg hc]
        exact fi j hj p1 p2
    · intro j hj hi p1
      simp only at hj ⊢
      by_cases hc : e < 0 ∨ v i ≤ v e.toNat
      · rw [if_pos hc] at hj
        omega
      · rw [if_neg hc] at hj
        rw [if_neg hc]
        by_cases hji : j = i
        · subst hji; omega
        · exact la j hj (by omega) p1
  · rw [if_neg hv]
    refine ⟨fun j hj p1 p2 => ?_, fi, fun j hj hi p1 => ?_⟩
    · by_cases hji : j = i
      · subst hji; exact absurd p1 hv
      · exact gr j (by omega) p1 p2
    · by_cases hji : j = i
      · subst hji; exact absurd p1 hv
      · exact la j hj (by omega) p1
theorem inv2_scan {n : Int} {v : Nat → Int} (d : Nat) : ∀ {i : Nat} {fe : Int × Int}, Inv n v i fe → Inv2 n v i fe → Inv2 n v (i + d) (scan n v d i fe) := by
  induction d with
  | zero => intro i fe _ h; exact h
  | succ d ih =>
    intro i fe h h2
    have := ih (inv_step h) (inv2_step h h2)
    rw [show i + (d + 1) = i + 1 + d by omega]
    exact this
theorem pc_one (n : Int) (v : Nat → Int) (a : Nat) : ∀ L, (∀ j, j < L → 0 < v j → v j < n → j = a) → pc n v L ≤ 1 ∧ (L ≤ a → pc n v L = 0)
  | 0, _ => ⟨by simp [pc], fun _ => rfl⟩
  | L + 1, h => by
    obtain ⟨h1, h2⟩ := pc_one n v a L (fun j hj => h j (by omega))
    have h3 := h L (by omega)
    simp only [pc]
    by_cases c : 0 < v L ∧ v L < n
    · have := h3 c.1 c.2
      have e : ind n (v L) = 1 := by unfold ind; rw [if_pos c]
      have := h2 (by omega)
      omega
    · have e : ind n (v L) = 0 := by unfold ind; rw [if_neg c]
      rw [e]
      exact ⟨h1, fun h4 => h2 (by omega)⟩
theorem stop_one {n : Int} {L : Nat} {v : Nat → Int} (h : Fol n L v []) : pc n v L ≤ 1 := by
  cases h with
  | stop _ h =>
    have i1 := inv_scan L (inv_start n v)
    have i2 := inv2_scan L (inv_start n v) (inv2_start n v)
    rw [Nat.zero_add] at i1 i2
    generalize scan n v L 0 (-1, -1) = fe at h i1 i2
    obtain ⟨f, e⟩ := fe
    obtain ⟨⟨a1, a2⟩, ⟨b1, b2⟩, pa, pb, le⟩ := i1
    obtain ⟨gr, fi, la⟩ := i2
    simp only at h a1 a2 b1 b2 pa pb le gr fi la
    refine (pc_one n v f.toNat L fun j hj p1 p2 => ?_).1
    obtain ⟨g1, g2⟩ := gr j hj p1 p2
    obtain rfl : f = e := by omega
    by_cases c1 : (j : Int) < f
    · have := fi j c1 p1 p2
      have := (le j hj p1).2
      omega
    by_cases c2 : f < (j : Int)
    · have := (la j c2 hj p1).2
      omega
    · omega

def sumv (v : Nat → Int) : Nat → Int
  | 0 => 0
  | L + 1 => sumv v L + v L
def cnt (W : Nat → Bool) : Nat → Int
  | 0 => 0
  | L + 1 => cnt W L + (if W L = true then 1 else 0)
def emp (W : Nat → Bool) (v : Nat → Int) : Nat → Int
  | 0 => 0
  | L + 1 => emp W v L + (if W L = true ∧ v L = 0 then 1 else 0)
structure Good (n : Int) (W : Nat → Bool) (v : Nat → Int) : Prop where
  a : ∀ i, 0 ≤ v i ∧ v i ≤ n
  b : ∀ i, W i = false → v i = 0
theorem Good.kind {n : Int} {W : Nat → Bool} {v : Nat → Int} (h : Good n W v) {i : Nat} (hv : 0 < v i) : W i = true := by
  cases c : W i
  · have := h.b i c; omega
  · rfl
theorem sumv_ge (v : Nat → Int) (a : Nat) (x : Int) : ∀ L, L ≤ a → sumv (upd v a x) L = sumv v L
  | 0, _ => rfl
  | L + 1, h => by
    have e : upd v a x L = v L := by simp only [upd]; rw [if_neg (by omega)]
    simp only [sumv, e, sumv_ge v a x L (by omega)]
theorem sumv_upd (v : Nat → Int) (a : Nat) (x : Int) : ∀ L, a < L → sumv (upd v a x) L + v a = sumv v L + x
  | 0, h => by omega
  | L + 1, h => by
    by_cases h2 : L = a
    · subst h2
      have e : upd v L x L = x := by simp [upd]
      simp only [sumv, e, sumv_ge v L x L (Nat.le_refl _)]
      omega
    · have e : upd v a x L = v L := by simp only [upd]; rw [if_neg h2]
      have ih := sumv_upd v a x L (by omega)
      simp only [sumv, e]
      omega
theorem sumv_moved {v : Nat → Int} {f e L : Nat} {m : Int} (hne : f ≠ e) (hf : f < L) (he : e < L) : sumv (moved v f e m) L = sumv v L := by
  have h1 := sumv_upd v f (v f + m) L hf
  have h2 := sumv_upd (upd v f (v f + m)) e (v e - m) L he
  have e1 : upd v f (v f + m) e = v e := by simp only [upd]; rw [if_neg (fun h => hne h.symm)]
  rw [e1] at h2
  unfold moved
  omega
theorem good_moved {n : Int} {W : Nat → Bool} {v : Nat → Int} {f e : Nat} (h : Good n W v) (hne : f ≠ e) (pf : 0 < v f ∧ v f < n) (pe : 0 < v e ∧ v e < n) : Good n W (moved v f e (mn (n - v f) (v e))) := by
  have hm : 1 ≤ mn (n - v f) (v e) ∧ mn (n - v f) (v e) ≤ v e ∧ mn (n - v f) (v e) ≤ n - v f := by unfold mn; split <;> omega
  refine ⟨fun i => ?_, fun i hi => ?_⟩
  · have := h.a i
    unfold moved upd
    (repeat' split) <;> omega
  · have h1 := h.b i hi
    unfold moved upd
    rw [if_neg (fun c => by subst c; omega), if_neg (fun c => by subst c; omega)]
    exact h1
theorem sumv_bound {n : Int} {W : Nat → Bool} {v : Nat → Int} (h : Good n W v) (hn : n ≤ 16) : ∀ L, 0 ≤ sumv v L ∧ sumv v L ≤ 16 * L
  | 0 => ⟨by simp [sumv], by simp [sumv]⟩
  | L + 1 => by
    have := sumv_bound h hn L
    have := h.a L
    simp only [sumv]
    omega
theorem cnt_bound (W : Nat → Bool) : ∀ L, 0 ≤ cnt W L ∧ cnt W L ≤ L
  | 0 => ⟨by simp [cnt], by simp [cnt]⟩
  | L + 1 => by
    have := cnt_bound W L
    simp only [cnt]
    split <;> omega
theorem emp_bound (W : Nat → Bool) (v : Nat → Int) : ∀ L, 0 ≤ emp W v L ∧ emp W v L ≤ cnt W L
  | 0 => ⟨by simp [emp], by simp [emp, cnt]⟩
  | L + 1 => by
    have := emp_bound W v L
    simp only [emp, cnt]
    by_cases c1 : W L = true
    · rw [if_pos c1]; split <;> omega
    · rw [if_neg c1, if_neg (fun h => c1 h.1)]; omega
theorem count {n : Int} {W : Nat → Bool} {v : Nat → Int} (h : Good n W v) (hn : 0 < n) : ∀ L, n * cnt W L + pc n v L ≤ sumv v L + n * emp W v L + n * pc n v L ∧ sumv v L + n * emp W v L + pc n v L ≤ n * cnt W L
  | 0 => ⟨by simp [sumv, emp, cnt, pc], by simp [sumv, emp, cnt, pc]⟩
  | L + 1 => by
    have ih := count h hn L
    have ha := h.a L
    have hb := h.b L
    simp only [sumv, emp, cnt, pc]
    by_cases c1 : W L = true
    · by_cases c2 : v L = 0
      · have e : ind n (v L) = 0 := by unfold ind; rw [if_neg (by omega)]
        rw [if_pos c1, if_pos ⟨c1, c2⟩, e, Int.mul_add, Int.mul_add, Nat.add_zero]
        omega
      · by_cases c3 : v L < n
        · have e : ind n (v L) = 1 := by unfold ind; rw [if_pos (by omega)]
          rw [if_pos c1, if_neg (fun h => c2 h.2), e, Int.natCast_add, Int.mul_add, Int.mul_add, Int.mul_add]
          omega
        · have e : ind n (v L) = 0 := by unfold ind; rw [if_neg (by omega)]
          rw [if_pos c1, if_neg (fun h => c2 h.2), e, Nat.add_zero, Int.mul_add, Int.mul_add]
          omega
    · have c2 : v L = 0 := hb (by simpa using c1)
      have e : ind n (v L) = 0 := by unfold ind; rw [if_neg (by omega)]
      rw [if_neg c1, if_neg (fun h => c1 h.1), e, Nat.add_zero, Int.mul_add, Int.mul_add]
      omega

/-- is a page of the class? -/
def kin (P : List S27) (kc : Int) (i : Nat) : Bool := decide ((rd_T27 P i).f0 = kc)
theorem good_vn (P : List S27) (kc : Int) : Good (cl kc) (kin P kc) (vn P kc) := by
  refine ⟨fun i => ?_, fun i hi => ?_⟩
  · have := us_le (rd_T27 P i).f0 (rd_T27 P i).f1
    have := cl_le kc
    unfold vn
    by_cases c : (rd_T27 P i).f0 = kc
    · rw [if_pos c, c]
      have := us_le kc (rd_T27 P i).f1
      omega
    · rw [if_neg c]
      omega
  · unfold vn; rw [if_neg (of_decide_eq_false hi)]
theorem size_pos {kc : Int} (h : 0 < cl kc) : ∃ t, class_Size.f kc = some t ∧ 0 < t := by
  have : kc = 1 ∨ kc = 2 ∨ kc = 3 ∨ kc = 4 := by
    unfold cl at h
    by_cases h1 : kc = 1; · exact .inl h1
    by_cases h2 : kc = 2; · exact .inr (.inl h2)
    by_cases h3 : kc = 3; · exact .inr (.inr (.inl h3))
    by_cases h4 : kc = 4; · exact .inr (.inr (.inr h4))
    rw [if_neg h1, if_neg h2, if_neg h3, if_neg h4] at h
    omega
  rcases this with rfl | rfl | rfl | rfl
  · exact ⟨2, by decide +kernel, by decide⟩
  · exact ⟨4, by decide +kernel, by decide⟩
  · exact ⟨8, by decide +kernel, by decide⟩
  · exact ⟨16, by decide +kernel, by decide⟩
theorem spare_l0 (kc : Int) (P : List S27) (hL : P.length ≤ 40) (hn : 0 < cl kc) (d : Nat) : ∀ (i k : Nat), i + d = P.length →
    frag_Spare.l0 (k + d) kc (cnt (kin P kc) i) (sumv (vn P kc) i) P (P.length : Int) (i : Int) = frag_Spare.l0 k kc (cnt (kin P kc) P.length) (sumv (vn P kc) P.length) P (P.length : Int) (P.length : Int) := by
  induction d with
  | zero => intro i k hi; rw [show i = P.length by omega]; rfl
  | succ d ih =>
    intro i k hi
    have hw : wrap64 ((i : Int) + 1) = ((i + 1 : Nat) : Int) := by unfold wrap64; omega
    obtain ⟨t, t1, t2⟩ := size_pos hn
    have b1 := cnt_bound (kin P kc) i
    have b2 := sumv_bound (good_vn P kc) (cl_le kc).2 i
    have b3 := us_le (rd_T27 P i).f0 (rd_T27 P i).f1
    have b4 := cl_le (rd_T27 P i).f0
    rw [← ih (i + 1) k (by omega), show k + (d + 1) = (k + d) + 1 by omega]
    simp only [frag_Spare.l0]
    rw [if_pos (by omega), if_pos (by omega), if_pos (by omega), hw]
    simp only [cnt, sumv]
    by_cases c : (rd_T27 P i).f0 = kc
    · have e1 : kin P kc i = true := decide_eq_true c
      have e2 : vn P kc i = us (rd_T27 P i).f0 (rd_T27 P i).f1 := by unfold vn; rw [if_pos c]
      rw [if_pos c, t1, e2, if_pos e1]
      simp only [Option.bind_some]
      rw [if_pos t2, used_eq]
      simp only [Option.bind_some]
      have w1 : wrap64 (cnt (kin P kc) i + 1) = cnt (kin P kc) i + 1 := by unfold wrap64; omega
      have w2 : wrap64 (sumv (vn P kc) i + us (rd_T27 P i).f0 (rd_T27 P i).f1) = sumv (vn P kc) i + us (rd_T27 P i).f0 (rd_T27 P i).f1 := by unfold wrap64; omega
      rw [w1, w2]
    · have e1 : ¬ kin P kc i = true := by rw [kin, decide_eq_false c]; decide
      have e2 : vn P kc i = 0 := by unfold vn; rw [if_neg c]
      rw [if_neg c, e2, if_neg e1, Int.add_zero, Int.add_zero]

theorem spare_is (P : List S27) (kc : Int) (hL : P.length ≤ 40) (hn : 0 < cl kc) (v : Nat → Int) (hG : Good (cl kc) (kin P kc) v) (hp : pc (cl kc) v P.length ≤ 1) (hs : sumv v P.length = sumv (vn P kc) P.length) :
    frag_Spare.f 60 P kc = some (emp (kin P kc) v P.length) := by
  unfold frag_Spare.f
  have h := spare_l0 kc P hL hn P.length 0 (60 - P.length) (by omega)
  rw [show 60 - P.length + P.length = 59 + 1 by omega] at h
  refine Eq.trans h ?_
  rw [show 60 - P.length = (59 - P.length) + 1 by omega]
  simp only [frag_Spare.l0]
  rw [if_neg (by omega), cells_eq]
  simp only [Option.bind_some]
  have hcl := cl_le kc
  have e1 : mx (cl kc) 1 = cl kc := by unfold mx; split <;> omega
  rw [e1]
  have hc := count hG hn P.length
  have b1 := cnt_bound (kin P kc) P.length
  have b2 := sumv_bound (good_vn P kc) hcl.2 P.length
  have b3 := emp_bound (kin P kc) v P.length
  rw [hs] at hc
  obtain ⟨n, hnn⟩ : ∃ n, cl kc = n := ⟨_, rfl⟩
  obtain ⟨S, hS⟩ : ∃ S, sumv (vn P kc) P.length = S := ⟨_, rfl⟩
  obtain ⟨C, hC⟩ : ∃ C, cnt (kin P kc) P.length = C := ⟨_, rfl⟩
  obtain ⟨E, hE⟩ : ∃ E, emp (kin P kc) v P.length = E := ⟨_, rfl⟩
  rw [hnn] at hn hc hp hcl
  rw [hnn]
  rw [hS] at hc b2
  rw [hS]
  rw [hC] at hc b1 b3
  rw [hC]
  rw [hE] at hc b3
  rw [hE]
  have hdm := Int.mul_ediv_add_emod S n
  have hr1 := Int.emod_nonneg S (by omega : n ≠ 0)
  have hr2 := Int.emod_lt_of_pos S hn
  have hq0 : 0 ≤ S / n := Int.ediv_nonneg (by omega) (by omega)
  have hq1 : S / n ≤ S := Int.ediv_le_self n (by omega)
  unfold calc_Up.f
  rw [if_neg (by omega), if_neg (by omega), Int.tmod_eq_emod_of_nonneg (by omega), Int.tdiv_eq_ediv_of_nonneg (by omega)]
  have w0 : wrap64 (S / n) = S / n := by unfold wrap64; omega
  rw [w0]
  have hpc : pc n v P.length = 0 ∨ pc n v P.length = 1 := by omega
  obtain ⟨X, hX⟩ : ∃ X, C - E = X := ⟨_, rfl⟩
  obtain rfl : C = X + E := by omega
  rw [Int.mul_add] at hc
  rcases hpc with h0 | h0
  · rw [h0] at hc
    simp at hc
    have e2 : S = n * X := by omega
    have e3 : S / n = X := by rw [e2]; exact Int.mul_ediv_cancel_left _ (by omega)
    have e4 : S % n = 0 := by rw [e2]; exact Int.mul_emod_right _ _
    rw [e4, if_neg (by omega), e3]
    simp only [Option.bind_some]
    congr 1
    unfold wrap64
    omega
  · rw [h0] at hc
    simp at hc
    obtain ⟨Y, rfl⟩ : ∃ Y, X = Y + 1 := ⟨X - 1, by omega⟩
    rw [Int.mul_add] at hc
    obtain ⟨r, hr⟩ : ∃ r, S - n * Y = r := ⟨_, rfl⟩
    have e2 : S = r + n * Y := by omega
    have e3 : S / n = Y := by rw [e2, Int.add_mul_ediv_left _ _ (by omega), Int.ediv_eq_zero_of_lt (by omega) (by omega)]; omega
    have e4 : S % n = r := by rw [e2, Int.add_mul_emod_self_left, Int.emod_eq_of_lt (by omega) (by omega)]
    rw [e4, if_pos (by omega), e3]
    simp only [Option.bind_some]
    congr 1
    unfold wrap64
    omega

/-- what the law keeps of each page: what is used, or -1 -/
def nowOf (W : Nat → Bool) (v : Nat → Int) (L : Nat) : List Int := (List.range L).map fun j => if W j = true then v j else -1
theorem nowOf_len (W : Nat → Bool) (v : Nat → Int) (L : Nat) : (nowOf W v L).length = L := by simp [nowOf]
theorem nowOf_at (W : Nat → Bool) (v : Nat → Int) (L j : Nat) (h : j < L) : (nowOf W v L)[j]? = some (if W j = true then v j else -1) := by simp [nowOf, h]
theorem nowOf_snoc (W : Nat → Bool) (v : Nat → Int) (L : Nat) : nowOf W v (L + 1) = nowOf W v L ++ [if W L = true then v L else -1] := by simp [nowOf, List.range_succ]
theorem nowOf_set (W : Nat → Bool) (v : Nat → Int) (L a : Nat) (x : Int) (hW : W a = true) : (nowOf W v L).set a x = nowOf W (upd v a x) L := by
  apply List.ext_getElem?
  intro j
  rw [List.getElem?_set, nowOf_len]
  by_cases hj : j < L
  · rw [nowOf_at _ _ _ _ hj, nowOf_at _ _ _ _ hj]
    by_cases c : a = j
    · subst c
      rw [if_pos rfl, if_pos hj, if_pos hW]
      simp [upd]
    · rw [if_neg c]
      simp only [upd]
      rw [if_neg (show ¬ j = a from fun h => c h.symm)]
  · rw [List.getElem?_eq_none (by rw [nowOf_len]; omega), List.getElem?_eq_none (by rw [nowOf_len]; omega)]
    by_cases c : a = j
    · subst c; rw [if_pos rfl, if_neg hj]
    · rw [if_neg c]
end Go.Proofs.Ytebhmbejfpbpeaa.PurePlans
