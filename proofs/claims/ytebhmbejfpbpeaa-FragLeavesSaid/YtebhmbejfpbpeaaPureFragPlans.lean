/- Proved: of any list of pages the Go law FragPlans answers true (its plain form). -/
import Derived.Test.YtebhmbejfpbpeaaPFragPlansx5
namespace Go.Proofs.Ytebhmbejfpbpeaa.PurePlans
open Go.RowKit Go.Proofs.Ytebhmbejfpbpeaa.PFragPlans Go.Proofs.YtebhmbejfpbpeaaW.PrintWords Go.Proofs.YtebhmbejfpbpeaaW.PrintLast Go.Proofs.YtebhmbejfpbpeaaW.PrintMore

theorem alive_true : scutagelaw39_alive.f 60 = some true := by decide +kernel

/-- how many cells a page of a class has -/
def cl (c : Int) : Int := if c = 1 then 16 else if c = 2 then 8 else if c = 3 then 4 else if c = 4 then 2 else 0
theorem cl_le (c : Int) : 0 ≤ cl c ∧ cl c ≤ 16 := by unfold cl; (repeat' split) <;> omega
theorem size_low {a : Int} (h : a < 1) : class_Size.f a = some 0 := by unfold class_Size.f; rw [if_pos h]
theorem size_high {a : Int} (h : 5 ≤ a) : class_Size.f a = some 0 := by unfold class_Size.f; rw [if_neg (by omega), if_pos h]
theorem cells_eq (a : Int) : class_Cells.f a = some (cl a) := by
  by_cases h1 : a < 1
  · unfold class_Cells.f; rw [size_low h1]; unfold cl; rw [if_neg (by omega), if_neg (by omega), if_neg (by omega), if_neg (by omega)]; rfl
  by_cases h2 : 5 ≤ a
  · unfold class_Cells.f; rw [size_high h2]; unfold cl; rw [if_neg (by omega), if_neg (by omega), if_neg (by omega), if_neg (by omega)]; rfl
  · have : a = 1 ∨ a = 2 ∨ a = 3 ∨ a = 4 := by omega
    rcases this with rfl | rfl | rfl | rfl <;> decide +kernel
theorem ref_cells_eq (a : Int) : scutageref06_Cells.f a = some (cl a) := by
  by_cases h : a = 1 ∨ a = 2 ∨ a = 3 ∨ a = 4
  · rcases h with rfl | rfl | rfl | rfl <;> decide +kernel
  · have hs : scutageref06_Size.f a = some 0 := by unfold scutageref06_Size.f; rw [if_neg (by omega), if_neg (by omega), if_neg (by omega), if_neg (by omega)]
    unfold scutageref06_Cells.f; rw [hs]; unfold cl; rw [if_neg (by omega), if_neg (by omega), if_neg (by omega), if_neg (by omega)]; rfl
/-- used cells, as they count -/
def us (a b : Int) : Int := mn (mx b 0) (cl a)
theorem us_le (a b : Int) : 0 ≤ us a b ∧ us a b ≤ cl a := by
  have := cl_le a
  unfold us mn mx; (repeat' split) <;> omega
theorem us_id {a b : Int} (h0 : 0 ≤ b) (h1 : b ≤ cl a) : us a b = b := by unfold us mn mx; (repeat' split) <;> omega
theorem used_eq (a b : Int) : frag_Page_used.f a b = some (us a b) := by
  have h := cl_le a
  have e : calc_Clamp.f b 0 (cl a) = some (us a b) := by
    unfold calc_Clamp.f
    by_cases h1 : b < 0
    · rw [if_pos h1]; congr 1; unfold us mn mx; (repeat' split) <;> omega
    · rw [if_neg h1]
      by_cases h2 : b > cl a
      · rw [if_pos h2]; congr 1; unfold us mn mx; (repeat' split) <;> omega
      · rw [if_neg h2]; congr 1; unfold us mn mx; (repeat' split) <;> omega
  unfold frag_Page_used.f
  rw [cells_eq]
  simp only [Option.bind_some]
  rw [e]
  rfl
theorem law_used_eq (a b : Int) : scutagelaw39_used.f a b = some (us a b) := by unfold scutagelaw39_used.f; rw [ref_cells_eq]; rfl

/-! ### the two ends, as a fold -/
def stepE (n : Int) (v : Nat → Int) (fe : Int × Int) (i : Nat) : Int × Int :=
  if 0 < v i then ((if v i < n ∧ (fe.1 < 0 ∨ v fe.1.toNat < v i) then (i : Int) else fe.1), (if fe.2 < 0 ∨ v i ≤ v fe.2.toNat then (i : Int) else fe.2)) else fe
def scan (n : Int) (v : Nat → Int) : Nat → Nat → Int × Int → Int × Int
  | 0, _, fe => fe
  | d + 1, i, fe => scan n v d (i + 1) (stepE n v fe i)
structure Inv (n : Int) (v : Nat → Int) (i : Nat) (fe : Int × Int) : Prop where
  a : -1 ≤ fe.1 ∧ fe.1 < i
  b : -1 ≤ fe.2 ∧ fe.2 < i
  pa : 0 ≤ fe.1 → 0 < v fe.1.toNat ∧ v fe.1.toNat < n
  pb : 0 ≤ fe.2 → 0 < v fe.2.toNat
  least : ∀ j, j < i → 0 < v j → 0 ≤ fe.2 ∧ v fe.2.toNat ≤ v j
theorem inv_start (n : Int) (v : Nat → Int) : Inv n v 0 (-1, -1) := ⟨by simp, by simp, fun h => by simp at h, fun h => by simp at h, fun j h => by omega⟩
theorem inv_step {n : Int} {v : Nat → Int} {i : Nat} {fe : Int × Int} (h : Inv n v i fe) : Inv n v (i + 1) (stepE n v fe i) := by
  obtain ⟨f, e⟩ := fe
  obtain ⟨⟨a1, a2⟩, ⟨b1, b2⟩, pa, pb, le⟩ := h
  simp only at a1 a2 b1 b2 pa pb le
  unfold stepE
  by_cases hv : 0 < v i
  · rw [if_pos hv]
    simp only
    refine ⟨?_, ?_, ?_, ?_, ?_⟩
    · simp only; split <;> omega
    · simp only; split <;> omega
    · simp only
      split
      · rename_i hc
        intro _
        rw [Int.toNat_natCast]
        exact ⟨hv, hc.1⟩
      · exact pa
    · simp only
      split
      · intro _; rw [Int.toNat_natCast]; exact hv
      · exact pb
    · intro j hj hvj
      simp only
      by_cases hji : j = i
      · subst hji
        split
        · rw [Int.toNat_natCast]; exact ⟨by omega, Int.le_refl _⟩
        · rename_i hc
          have h1 : 0 ≤ e := by omega
          exact ⟨h1, by omega⟩
      · obtain ⟨g1, g2⟩ := le j (by omega) hvj
        split
        · rename_i hc
          rw [Int.toNat_natCast]
          rcases hc with hc | hc
          · omega
          · exact ⟨by omega, by omega⟩
        · exact ⟨g1, g2⟩
  · rw [if_neg hv]
    refine ⟨⟨a1, by omega⟩, ⟨b1, by omega⟩, pa, pb, fun j hj hvj => ?_⟩
    by_cases hji : j = i
    · subst hji; exact absurd hvj hv
    · exact le j (by omega) hvj
theorem inv_scan {n : Int} {v : Nat → Int} (d : Nat) : ∀ {i : Nat} {fe : Int × Int}, Inv n v i fe → Inv n v (i + d) (scan n v d i fe) := by
  induction d with
  | zero => intro i fe h; exact h
  | succ d ih =>
    intro i fe h
    have := ih (inv_step h)
    rw [show i + (d + 1) = i + 1 + d by omega]
    exact this

/-! ### pages -/
def val (kc : Int) (P : List S27) (i : Nat) : Int := if (rd_T27 P i).f0 = kc then (rd_T27 P i).f1 else 0
def Norm (P : List S27) : Prop := ∀ i : Nat, i < P.length → 0 ≤ (rd_T27 P i).f1 ∧ (rd_T27 P i).f1 ≤ cl (rd_T27 P i).f0
theorem Norm.us {P : List S27} (h : Norm P) {i : Nat} (hi : i < P.length) : us (rd_T27 P i).f0 (rd_T27 P i).f1 = (rd_T27 P i).f1 := us_id (h i hi).1 (h i hi).2

theorem ends_scan (P : List S27) (kc : Int) (hN : Norm P) (hL : P.length ≤ 1000) (d : Nat) : ∀ (k i : Nat) (fe : Int × Int), i + d = P.length → 4 * d < k → Inv (cl kc) (val kc P) i fe →
    frag_ends.l0 k P kc fe.1 fe.2 P (P.length : Int) (i : Int) = some (scan (cl kc) (val kc P) d i fe) := by
  induction d with
  | zero =>
    intro k i fe hi hk _
    obtain ⟨k, rfl⟩ : ∃ m, k = m + 1 := ⟨k - 1, by omega⟩
    simp only [frag_ends.l0, scan]; rw [if_neg (by omega)]
  | succ d ih =>
    intro k i fe hi hk hI
    obtain ⟨k, rfl⟩ : ∃ m, k = m + 4 := ⟨k - 4, by omega⟩
    have hlt : i < P.length := by omega
    have hw : wrap64 ((i : Int) + 1) = ((i + 1 : Nat) : Int) := by unfold wrap64; omega
    have hnext := inv_step hI
    obtain ⟨f, e⟩ := fe
    have hfa := hI.a
    have hfb := hI.b
    simp only at hfa hfb
    have e1 : frag_ends.l0 (k + 4) P kc f e P (P.length : Int) (i : Int) =
        frag_ends.j1 (k + 3) P kc f e (i : Int) P (P.length : Int) (i : Int) (!decide (0 < val kc P i)) (rd_T27 P i).f0 (rd_T27 P i).f1 := by
      simp only [frag_ends.l0]
      rw [if_pos (by omega), if_pos (by omega), if_pos (by omega)]
      by_cases hk0 : (rd_T27 P i).f0 = kc
      · rw [if_pos hk0, used_eq, hN.us hlt]
        simp only [Option.bind_some]
        congr 1
        have := hN i hlt
        unfold val; rw [if_pos hk0]
        by_cases h0 : (rd_T27 P i).f1 = 0
        · rw [h0]; rfl
        · rw [decide_eq_true (by omega : 0 < (rd_T27 P i).f1)]; simpa using h0
      · rw [if_neg hk0]
        congr 1
        unfold val; rw [if_neg hk0]; rfl
    rw [e1, scan]
    by_cases hv : 0 < val kc P i
    · have hk0 : (rd_T27 P i).f0 = kc := by
        by_cases h : (rd_T27 P i).f0 = kc
        · exact h
        · unfold val at hv; rw [if_neg h] at hv; omega
      have hvi : val kc P i = (rd_T27 P i).f1 := by unfold val; rw [if_pos hk0]
      have kind : ∀ j : Nat, 0 < val kc P j → (rd_T27 P j).f0 = kc ∧ val kc P j = (rd_T27 P j).f1 := fun j hj => by
        by_cases h : (rd_T27 P j).f0 = kc
        · exact ⟨h, by unfold val; rw [if_pos h]⟩
        · unfold val at hj; rw [if_neg h] at hj; omega
      -- the first end
      have e2 : frag_ends.j1 (k + 3) P kc f e (i : Int) P (P.length : Int) (i : Int) (!decide (0 < val kc P i)) (rd_T27 P i).f0 (rd_T27 P i).f1 =
          frag_ends.j2 (k + 2) P kc f e (i : Int) P (P.length : Int) (i : Int) (decide (val kc P i < cl kc ∧ (f < 0 ∨ val kc P f.toNat < val kc P i))) (rd_T27 P i).f0 (rd_T27 P i).f1 := by
        simp only [frag_ends.j1]
        rw [decide_eq_true hv, Bool.not_true, if_neg (by decide), used_eq, hN.us hlt, cells_eq]
        simp only [Option.bind_some]
        rw [← hvi]
        by_cases hc : val kc P i < cl kc
        · rw [if_pos hc]
          by_cases hf : f < 0
          · rw [if_pos hf]
            congr 1
            rw [decide_eq_true ⟨hc, .inl hf⟩]
          · rw [if_neg hf]
            obtain ⟨q1, q2⟩ := hI.pa (by simp only; omega)
            simp only at q1 q2
            obtain ⟨t1, t2⟩ := kind f.toNat q1
            have hft : ((f.toNat : Nat) : Int) = f := by omega
            rw [if_pos (by omega), if_pos (by omega), used_eq]
            rw [hft] at t1 t2
            have := hN.us (i := f.toNat) (by omega)
            rw [hft] at this
            rw [this]
            simp only [Option.bind_some]
            congr 1
            rw [← t2]
            simp only [hc, hf, true_and, false_or, gt_iff_lt]
        · rw [if_neg hc]
          congr 1
          rw [decide_eq_false (fun h => hc h.1)]
      rw [e2]
      have e3 : ∀ f2 : Int, frag_ends.j3 (k + 1) P kc f2 e (i : Int) P (P.length : Int) (i : Int) (rd_T27 P i).f0 (rd_T27 P i).f1 =
          frag_ends.l0 k P kc f2 (if e < 0 ∨ val kc P i ≤ val kc P e.toNat then (i : Int) else e) P (P.length : Int) ((i + 1 : Nat) : Int) := by
        intro f2
        simp only [frag_ends.j3]
        rw [hw]
        by_cases he : e < 0
        · rw [if_pos he, if_pos (.inl he)]
        · rw [if_neg he, used_eq, hN.us hlt]
          simp only [Option.bind_some]
          have q1 := hI.pb (by simp only; omega)
          simp only at q1
          obtain ⟨t1, t2⟩ := kind e.toNat q1
          have het : ((e.toNat : Nat) : Int) = e := by omega
          rw [if_pos (by omega), if_pos (by omega), used_eq]
          rw [het] at t1 t2
          have := hN.us (i := e.toNat) (by omega)
          rw [het] at this
          rw [this]
          simp only [Option.bind_some]
          rw [← hvi, ← t2]
          by_cases hc : val kc P i ≤ val kc P e.toNat
          · rw [if_pos hc, if_pos (.inr hc)]
          · rw [if_neg hc, if_neg (by omega)]
      have e4 : frag_ends.j2 (k + 2) P kc f e (i : Int) P (P.length : Int) (i : Int) (decide (val kc P i < cl kc ∧ (f < 0 ∨ val kc P f.toNat < val kc P i))) (rd_T27 P i).f0 (rd_T27 P i).f1 =
          frag_ends.l0 k P kc (stepE (cl kc) (val kc P) (f, e) i).1 (stepE (cl kc) (val kc P) (f, e) i).2 P (P.length : Int) ((i + 1 : Nat) : Int) := by
        simp only [frag_ends.j2]
        unfold stepE
        rw [if_pos hv]
        by_cases hc : val kc P i < cl kc ∧ (f < 0 ∨ val kc P f.toNat < val kc P i)
        · rw [decide_eq_true hc, if_pos rfl, if_pos hc, e3]
        · rw [decide_eq_false hc, if_neg (by decide), if_neg hc, e3]
      rw [e4]
      exact ih k (i + 1) _ (by omega) (by omega) hnext
    · have hs : stepE (cl kc) (val kc P) (f, e) i = (f, e) := by unfold stepE; rw [if_neg hv]
      simp only [frag_ends.j1]
      rw [decide_eq_false hv, Bool.not_false, if_pos rfl, hw, hs]
      rw [hs] at hnext
      exact at_rounds (g := fun m => frag_ends.l0 m P kc f e P (P.length : Int) ((i + 1 : Nat) : Int)) (fun m => (frag_ends.mono_l m).1 _ _ _ _ _ _ _) (Nat.le_add_right k 2) (ih k (i + 1) (f, e) (by omega) (by omega) hnext)


/-! ### one move -/
def upd (v : Nat → Int) (a : Nat) (x : Int) : Nat → Int := fun i => if i = a then x else v i
/-- is a page neither empty nor full? -/
def ind (n x : Int) : Nat := if 0 < x ∧ x < n then 1 else 0
/-- how many pages are neither empty nor full -/
def pc (n : Int) (v : Nat → Int) : Nat → Nat
  | 0 => 0
  | L + 1 => pc n v L + ind n (v L)
theorem pc_upd_ge (n : Int) (v : Nat → Int) (a : Nat) (x : Int) : ∀ L, L ≤ a → pc n (upd v a x) L = pc n v L
  | 0, _ => rfl
  | L + 1, h => by
    have e : upd v a x L = v L := by simp only [upd]; rw [if_neg (by omega)]
    simp only [pc, e, pc_upd_ge n v a x L (by omega)]
theorem pc_upd (n : Int) (v : Nat → Int) (a : Nat) (x : Int) : ∀ L, a < L → pc n (upd v a x) L + ind n (v a) = pc n v L + ind n x
  | 0, h => by omega
  | L + 1, h => by
    by_cases h2 : L = a
    · subst h2
      have e : upd v L x L = x := by simp [upd]
      simp only [pc, e, pc_upd_ge n v L x L (Nat.le_refl _)]
      omega
    · have e : upd v a x L = v L := by simp only [upd]; rw [if_neg h2]
      have ih := pc_upd n v a x L (by omega)
      simp only [pc, e]
      omega
/-- the state behind a move -/
def moved (v : Nat → Int) (f e : Nat) (m : Int) : Nat → Int := upd (upd v f (v f + m)) e (v e - m)
/-- what a plan is, move by move -/
inductive Fol (n : Int) (L : Nat) : (Nat → Int) → List S35 → Prop
  | stop (v : Nat → Int) (h : (scan n v L 0 (-1, -1)).1 < 0 ∨ (scan n v L 0 (-1, -1)).1 = (scan n v L 0 (-1, -1)).2) : Fol n L v []
  | go (v : Nat → Int) (f e : Nat) (ms : List S35) (hs : scan n v L 0 (-1, -1) = ((f : Int), (e : Int))) (hne : f ≠ e) (hf : f < L) (he : e < L) (pf : 0 < v f ∧ v f < n) (pe : 0 < v e ∧ v e < n)
      (h : Fol n L (moved v f e (mn (n - v f) (v e))) ms) : Fol n L v (⟨(e : Int), (f : Int), mn (n - v f) (v e)⟩ :: ms)
theorem pc_moved {n : Int} {v : Nat → Int} {f e L : Nat} (hne : f ≠ e) (hf : f < L) (he : e < L) (pf : 0 < v f ∧ v f < n) (pe : 0 < v e ∧ v e < n) : pc n (moved v f e (mn (n - v f) (v e))) L < pc n v L := by
  have h1 := pc_upd n v f (v f + mn (n - v f) (v e)) L hf
  have h2 := pc_upd n (upd v f (v f + mn (n - v f) (v e))) e (v e - mn (n - v f) (v e)) L he
  have e1 : upd v f (v f + mn (n - v f) (v e)) e = v e := by simp only [upd]; rw [if_neg (fun h => hne h.symm)]
  have i1 : ind n (v f) = 1 := by unfold ind; rw [if_pos pf]
  have i2 : ind n (v e) = 1 := by unfold ind; rw [if_pos pe]
  rw [e1] at h2
  have h3 : ind n (v f + mn (n - v f) (v e)) + ind n (v e - mn (n - v f) (v e)) ≤ 1 := by
    unfold ind mn
    (repeat' split) <;> omega
  unfold moved
  omega

theorem rd_set (P : List S27) (a : Nat) (x : S27) (i : Nat) (ha : a < P.length) : rd_T27 (P.set a x) i = if i = a then x else rd_T27 P i := by
  unfold rd_T27
  rw [Int.toNat_natCast, List.getD_eq_getElem?_getD, List.getD_eq_getElem?_getD, List.getElem?_set]
  by_cases h : a = i
  · subst h; rw [if_pos rfl, if_pos ha, if_pos rfl]; rfl
  · rw [if_neg h, if_neg (fun h2 => h h2.symm)]

theorem ends_eq (P : List S27) (kc : Int) (hN : Norm P) (hL : P.length ≤ 40) (k : Nat) (hk : 160 < k) : frag_ends.f k P kc = some (scan (cl kc) (val kc P) P.length 0 (-1, -1)) :=
  ends_scan P kc hN (by omega) P.length k 0 (-1, -1) (by omega) (by omega) (inv_start _ _)

theorem plan_fol (kc : Int) (c : Nat) : ∀ (P : List S27) (acc : List S35), Norm P → P.length ≤ 40 → acc.length + c ≤ 1000 → pc (cl kc) (val kc P) P.length < c →
    ∃ ms, (∀ k, 200 + c < k → frag_Plan.l1 k kc acc P = some (acc ++ ms)) ∧ Fol (cl kc) P.length (val kc P) ms ∧ ms.length < c := by
  induction c with
  | zero => intro P acc _ _ _ h; omega
  | succ c ih =>
    intro P acc hN hL hA hp
    have hI := inv_scan P.length (inv_start (cl kc) (val kc P))
    rw [Nat.zero_add] at hI
    obtain ⟨fe, hfe⟩ : ∃ fe, scan (cl kc) (val kc P) P.length 0 (-1, -1) = fe := ⟨_, rfl⟩
    rw [hfe] at hI
    obtain ⟨f, e⟩ := fe
    have hcl := cl_le kc
    by_cases h1 : f < 0
    · refine ⟨[], fun k hk => ?_, .stop _ (by rw [hfe]; exact .inl h1), by simp⟩
      obtain ⟨k, rfl⟩ : ∃ m, k = m + 1 := ⟨k - 1, by omega⟩
      simp only [frag_Plan.l1]
      rw [ends_eq P kc hN hL k (by omega), hfe]
      simp only [Option.bind_some]
      rw [if_pos h1, List.append_nil]
    by_cases h2 : f = e
    · refine ⟨[], fun k hk => ?_, .stop _ (by rw [hfe]; exact .inr h2), by simp⟩
      obtain ⟨k, rfl⟩ : ∃ m, k = m + 1 := ⟨k - 1, by omega⟩
      simp only [frag_Plan.l1]
      rw [ends_eq P kc hN hL k (by omega), hfe]
      simp only [Option.bind_some]
      rw [if_neg h1, if_pos h2, List.append_nil]
    obtain ⟨⟨a1, a2⟩, ⟨b1, b2⟩, pa, pb, le⟩ := hI
    simp only at a1 a2 b1 b2 pa pb le
    have pf := pa (by omega)
    obtain ⟨le1, le2⟩ := le f.toNat (by omega) pf.1
    have pe1 := pb le1
    obtain ⟨f, rfl⟩ := Int.eq_ofNat_of_zero_le (by omega : 0 ≤ f)
    obtain ⟨e, rfl⟩ := Int.eq_ofNat_of_zero_le le1
    rw [Int.toNat_natCast] at pf le2 pe1
    rw [Int.toNat_natCast] at le2
    have hf : f < P.length := by omega
    have he : e < P.length := by omega
    have hne : f ≠ e := fun h => h2 (by rw [h])
    have pe : 0 < val kc P e ∧ val kc P e < cl kc := ⟨pe1, by omega⟩
    have kind : ∀ j : Nat, 0 < val kc P j → (rd_T27 P j).f0 = kc ∧ val kc P j = (rd_T27 P j).f1 := fun j hj => by
      by_cases h : (rd_T27 P j).f0 = kc
      · exact ⟨h, by unfold val; rw [if_pos h]⟩
      · unfold val at hj; rw [if_neg h] at hj; omega
    obtain ⟨kf, vf⟩ := kind f pf.1
    obtain ⟨ke, ve⟩ := kind e pe1
    obtain ⟨m, hm⟩ : ∃ m, mn (cl kc - val kc P f) (val kc P e) = m := ⟨_, rfl⟩
    have hm1 : 1 ≤ m ∧ m ≤ val kc P e ∧ m ≤ cl kc - val kc P f := by rw [← hm]; unfold mn; split <;> omega
    obtain ⟨P1, hP1⟩ : ∃ P1, P1 = P.set f ⟨(rd_T27 P f).f0, (rd_T27 P f).f1 + m⟩ := ⟨_, rfl⟩
    obtain ⟨P2, hP2⟩ : ∃ P2, P2 = P1.set e ⟨(rd_T27 P e).f0, (rd_T27 P e).f1 - m⟩ := ⟨_, rfl⟩
    have l1 : P1.length = P.length := by rw [hP1, List.length_set]
    have l2 : P2.length = P.length := by rw [hP2, List.length_set, l1]
    have r1 : ∀ i : Nat, rd_T27 P1 i = if i = f then ⟨(rd_T27 P f).f0, (rd_T27 P f).f1 + m⟩ else rd_T27 P i := fun i => by rw [hP1, rd_set _ _ _ _ hf]
    have r2 : ∀ i : Nat, rd_T27 P2 i = if i = e then ⟨(rd_T27 P e).f0, (rd_T27 P e).f1 - m⟩ else rd_T27 P1 i := fun i => by rw [hP2, rd_set _ _ _ _ (by omega)]
    have r1e : rd_T27 P1 e = rd_T27 P e := by rw [r1, if_neg (fun h => hne h.symm)]
    have hN2 : Norm P2 := by
      intro i hi
      rw [r2, r1]
      by_cases c1 : i = e
      · rw [if_pos c1]; have := hN e he; rw [ve] at hm1; constructor <;> simp only <;> omega
      · rw [if_neg c1]
        by_cases c2 : i = f
        · rw [if_pos c2]; have := hN f hf; rw [vf] at hm1; simp only; rw [kf]; constructor <;> omega
        · rw [if_neg c2]; exact hN i (by omega)
    have hv2 : val kc P2 = moved (val kc P) f e m := by
      funext i
      unfold moved upd
      by_cases c1 : i = e
      · rw [if_pos c1, c1]
        unfold val
        rw [r2, if_pos rfl]
        simp only
        rw [if_pos ke, if_pos ke]
      · rw [if_neg c1]
        by_cases c2 : i = f
        · rw [if_pos c2, c2]
          unfold val
          rw [r2, if_neg hne, r1, if_pos rfl]
          simp only
          rw [if_pos kf, if_pos kf]
        · rw [if_neg c2]
          unfold val
          rw [r2, if_neg c1, r1, if_neg c2]
    have hpc := pc_moved (L := P.length) hne hf he pf pe
    rw [hm, ← hv2, ← l2] at hpc
    obtain ⟨ms, hms, hfol, hlen⟩ := ih P2 (acc ++ [⟨(e : Int), (f : Int), m⟩]) hN2 (by omega) (by simp; omega) (by rw [l2] at hpc ⊢; omega)
    refine ⟨⟨(e : Int), (f : Int), m⟩ :: ms, fun k hk => ?_, ?_, by simp; omega⟩
    · obtain ⟨k, rfl⟩ : ∃ m, k = m + 1 := ⟨k - 1, by omega⟩
      simp only [frag_Plan.l1]
      rw [ends_eq P kc hN hL k (by omega), hfe]
      simp only [Option.bind_some]
      rw [if_neg h1, if_neg h2, cells_eq]
      simp only [Option.bind_some]
      rw [if_pos (by omega), if_pos (by omega), if_pos (by omega), if_pos (by omega)]
      have w1 : wrap64 (cl kc - (rd_T27 P f).f1) = cl kc - val kc P f := by rw [vf]; unfold wrap64; rw [vf] at pf; omega
      rw [w1, ← ve, hm]
      have w2 : wrap64 ((rd_T27 P f).f1 + m) = (rd_T27 P f).f1 + m := by unfold wrap64; rw [vf] at pf hm1; omega
      rw [w2, Int.toNat_natCast, ← hP1, if_pos (by omega), r1e]
      have w3 : wrap64 ((rd_T27 P e).f1 - m) = (rd_T27 P e).f1 - m := by unfold wrap64; rw [ve] at pe hm1; omega
      rw [w3, Int.toNat_natCast, ← hP2, hms k (by omega), List.append_assoc]
      rfl
    · have h := Fol.go (n := cl kc) (L := P.length) (val kc P) f e ms hfe hne hf he pf pe (by rw [hm, ← hv2, ← l2]; exact hfol)
      rw [hm] at h
      exact h

/-- what counts of a class, page by page -/
def vn (P : List S27) (kc : Int) (i : Nat) : Int := if (rd_T27 P i).f0 = kc then us (rd_T27 P i).f0 (rd_T27 P i).f1 else 0
theorem rd_over (P : List S27) (i : Nat) (h : P.length ≤ i) : rd_T27 P i = ⟨0, 0⟩ := by
  unfold rd_T27
  rw [Int.toNat_natCast, List.getD_eq_getElem?_getD, List.getElem?_eq_none h]
  rfl
theorem plan_l0 (kc : Int) (P : List S27) (hL : P.length ≤ 1000) (d : Nat) : ∀ (i : Nat) (Q : List S27), i + d = P.length → Q.length = P.length →
    (∀ j : Nat, rd_T27 Q j = if j < i then ⟨(rd_T27 P j).f0, us (rd_T27 P j).f0 (rd_T27 P j).f1⟩ else rd_T27 P j) →
    ∃ Q2 : List S27, Q2.length = P.length ∧ (∀ j : Nat, j < P.length → rd_T27 Q2 j = ⟨(rd_T27 P j).f0, us (rd_T27 P j).f0 (rd_T27 P j).f1⟩) ∧
      ∀ k, frag_Plan.l0 (k + d + 1) kc Q (P.length : Int) (i : Int) = frag_Plan.l1 k kc [] Q2 := by
  induction d with
  | zero =>
    intro i Q hi hQ h
    refine ⟨Q, hQ, fun j hj => by rw [h, if_pos (by omega)], fun k => ?_⟩
    simp only [frag_Plan.l0]
    rw [if_neg (by omega)]
  | succ d ih =>
    intro i Q hi hQ h
    have hr : rd_T27 Q i = rd_T27 P i := by rw [h, if_neg (by omega)]
    have hw : wrap64 ((i : Int) + 1) = ((i + 1 : Nat) : Int) := by unfold wrap64; omega
    obtain ⟨Q2, q1, q2, q3⟩ := ih (i + 1) (Q.set i ⟨(rd_T27 P i).f0, us (rd_T27 P i).f0 (rd_T27 P i).f1⟩) (by omega) (by rw [List.length_set, hQ]) (fun j => by
      rw [rd_set _ _ _ _ (by omega)]
      by_cases c : j = i
      · subst c; rw [if_pos rfl, if_pos (by omega)]
      · rw [if_neg c, h]
        by_cases c2 : j < i
        · rw [if_pos c2, if_pos (by omega)]
        · rw [if_neg c2, if_neg (by omega)])
    refine ⟨Q2, q1, q2, fun k => ?_⟩
    rw [← q3 k, show k + (d + 1) + 1 = (k + d + 1) + 1 by omega]
    simp only [frag_Plan.l0]
    rw [if_pos (by omega), if_pos (by omega), if_pos (by omega), hr, used_eq, hw]
    simp only [Option.bind_some, Int.toNat_natCast]
theorem pc_le (n : Int) (v : Nat → Int) : ∀ L, pc n v L ≤ L
  | 0 => Nat.le_refl _
  | L + 1 => by have := pc_le n v L; have : ind n (v L) ≤ 1 := by unfold ind; split <;> omega
                simp only [pc]; omega
theorem plan_all (P : List S27) (kc : Int) (hL : P.length ≤ 40) :
    ∃ ms, frag_Plan.f 400 P kc = some ms ∧ Fol (cl kc) P.length (vn P kc) ms ∧ ms.length ≤ 40 := by
  obtain ⟨Q, q1, q2, q3⟩ := plan_l0 kc P (by omega) P.length 0 P (by omega) rfl (fun j => by rw [if_neg (by omega)])
  have hN : Norm Q := by
    intro i hi
    rw [q2 i (by omega)]
    exact us_le _ _
  have hv : val kc Q = vn P kc := by
    funext i
    unfold val vn
    by_cases c : i < P.length
    · rw [q2 i c]
    · rw [rd_over Q i (by omega), rd_over P i (by omega)]
      have : us 0 0 = 0 := by decide
      simp only [this]
  have hp := pc_le (cl kc) (val kc Q) Q.length
  obtain ⟨ms, m1, m2, m3⟩ := plan_fol kc 41 Q [] hN (by omega) (by simp) (by omega)
  refine ⟨ms, ?_, by rw [← hv, ← q1]; exact m2, by omega⟩
  unfold frag_Plan.f
  simp only [Option.bind_some, List.nil_append, List.length_nil]
  rw [if_pos (by omega)]
  have h4 : (400 : Nat) = (399 - P.length) + P.length + 1 := by omega
  rw [h4]
  have := q3 (399 - P.length)
  rw [show ((0 : Nat) : Int) = 0 from rfl] at this
  rw [this, m1 _ (by omega), List.nil_append]

end Go.Proofs.Ytebhmbejfpbpeaa.PurePlans
