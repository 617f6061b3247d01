/- Proved: of any list of pages the Go law FragPlans answers true (its plain form; the second half). -/
import Derived.Test.YtebhmbejfpbpeaaPFragPlansx6
import Derived.Test.YtebhmbejfpbpeaaPureFragPlans
namespace Go.Proofs.Ytebhmbejfpbpeaa.PurePlans
open Go.RowKit Go.Proofs.Ytebhmbejfpbpeaa.PFragPlans Go.Proofs.YtebhmbejfpbpeaaW.PrintWords Go.Proofs.YtebhmbejfpbpeaaW.PrintLast Go.Proofs.YtebhmbejfpbpeaaW.PrintMore

theorem rd_setI (X : List Int) (a : Nat) (x : Int) (i : Nat) (ha : a < X.length) : rd (X.set a x) i = if i = a then x else rd X i := by
  unfold rd
  rw [Int.toNat_natCast, List.getD_eq_getElem?_getD, List.getD_eq_getElem?_getD, List.getElem?_set]
  by_cases h : a = i
  · subst h; rw [if_pos rfl, if_pos ha, if_pos rfl]; rfl
  · rw [if_neg h, if_neg (fun h2 => h h2.symm)]
theorem rd_app (X : List Int) (x : Int) (i : Nat) : rd (X ++ [x]) i = if i < X.length then rd X i else if i = X.length then x else 0 := by
  unfold rd
  rw [Int.toNat_natCast, List.getD_eq_getElem?_getD, List.getD_eq_getElem?_getD]
  by_cases h : i < X.length
  · rw [if_pos h, List.getElem?_append_left h]
  · rw [if_neg h, List.getElem?_append_right (by omega)]
    by_cases h2 : i = X.length
    · rw [if_pos h2, h2, Nat.sub_self]; rfl
    · rw [if_neg h2]
      have : 1 ≤ i - X.length := by omega
      rw [List.getElem?_eq_none (by simpa using this)]; rfl
theorem rd_past (X : List Int) (i : Nat) (h : X.length ≤ i) : rd X i = 0 := by
  unfold rd
  rw [Int.toNat_natCast, List.getD_eq_getElem?_getD, List.getElem?_eq_none h]; rfl

/-- one page, in the law's own search -/
theorem law_step (p : List S35) (n : Int) (X : List Int) (at_ : Int) (fe : Int × Int) (i k : Nat) (hi : i < X.length) (hL : X.length ≤ 1000) (hI : Inv n (fun j => rd X j) i fe) :
    scutagelaw39_FragPlans.l2 (k + 2) p n X at_ fe.1 fe.2 (i : Int) =
      scutagelaw39_FragPlans.l2 k p n X at_ (stepE n (fun j => rd X j) fe i).1 (stepE n (fun j => rd X j) fe i).2 ((i + 1 : Nat) : Int) := by
  obtain ⟨f, e⟩ := fe
  obtain ⟨⟨a1, a2⟩, ⟨b1, b2⟩, pa, pb, le⟩ := hI
  simp only at a1 a2 b1 b2 pa pb le
  have hw : wrap64 ((i : Int) + 1) = ((i + 1 : Nat) : Int) := by unfold wrap64; omega
  have cf : ¬ f < 0 → ((f.toNat : Nat) : Int) = f := fun h => by omega
  have ce : ¬ e < 0 → ((e.toNat : Nat) : Int) = e := fun h => by omega
  have e1 : scutagelaw39_FragPlans.l2 (k + 2) p n X at_ f e (i : Int) =
      scutagelaw39_FragPlans.j3 (k + 1) p n X at_ f e (i : Int) (decide (0 < rd X i ∧ rd X i < n ∧ (f < 0 ∨ rd X f < rd X i))) := by
    simp only [scutagelaw39_FragPlans.l2]
    rw [if_pos (by omega), if_pos (by omega)]
    by_cases c1 : 0 < rd X i
    · rw [if_pos c1]
      by_cases c2 : rd X i < n
      · rw [if_pos c2]
        by_cases c3 : f < 0
        · rw [if_pos c3]; congr 1; rw [decide_eq_true ⟨c1, c2, .inl c3⟩]
        · rw [if_neg c3, if_pos (by omega), if_pos (by omega)]
          congr 1
          simp only [c1, c2, c3, true_and, false_or, gt_iff_lt]
      · rw [if_neg c2]; congr 1; rw [decide_eq_false (fun h => c2 h.2.1)]
    · rw [if_neg c1]; congr 1; rw [decide_eq_false (fun h => c1 h.1)]
  have e2 : ∀ b : Bool, scutagelaw39_FragPlans.j3 (k + 1) p n X at_ f e (i : Int) b =
      scutagelaw39_FragPlans.l2 k p n X at_ (if b = true then (i : Int) else f) (if 0 < rd X i ∧ (e < 0 ∨ rd X i ≤ rd X e) then (i : Int) else e) ((i + 1 : Nat) : Int) := by
    intro b
    simp only [scutagelaw39_FragPlans.j3]
    rw [hw]
    have ht : (i : Int) < (X.length : Int) := by omega
    have h0 : (0 : Int) ≤ (i : Int) := by omega
    by_cases c1 : 0 < rd X i
    · by_cases c2 : e < 0
      · rw [if_pos (⟨c1, .inl c2⟩ : 0 < rd X i ∧ (e < 0 ∨ rd X i ≤ rd X e))]
        cases b <;> simp [h0, ht, c1, c2]
      · have h3 : 0 ≤ e := by omega
        have h4 : e < (X.length : Int) := by omega
        by_cases c3 : rd X i ≤ rd X e
        · rw [if_pos (⟨c1, .inr c3⟩ : 0 < rd X i ∧ (e < 0 ∨ rd X i ≤ rd X e))]
          cases b <;> simp [h0, ht, c1, c2, c3, h3, h4]
        · rw [if_neg (fun h => h.2.elim c2 c3 : ¬ (0 < rd X i ∧ (e < 0 ∨ rd X i ≤ rd X e)))]
          cases b <;> simp [h0, ht, c1, c2, c3, h3, h4]
    · rw [if_neg (fun h => c1 h.1 : ¬ (0 < rd X i ∧ (e < 0 ∨ rd X i ≤ rd X e)))]
      cases b <;> simp [h0, ht, c1]
  rw [e1, e2]
  unfold stepE
  simp only
  by_cases c1 : 0 < rd X i
  · rw [if_pos c1]
    simp only
    have p1 : (if decide (0 < rd X i ∧ rd X i < n ∧ (f < 0 ∨ rd X f < rd X i)) = true then (i : Int) else f) = if rd X i < n ∧ (f < 0 ∨ rd X (f.toNat : Nat) < rd X i) then (i : Int) else f := by
      by_cases c3 : f < 0
      · simp [c1, c3]
      · rw [cf c3]; simp [c1, c3]
    have p2 : (if 0 < rd X i ∧ (e < 0 ∨ rd X i ≤ rd X e) then (i : Int) else e) = if e < 0 ∨ rd X i ≤ rd X (e.toNat : Nat) then (i : Int) else e := by
      by_cases c3 : e < 0
      · simp [c1, c3]
      · rw [ce c3]; simp [c1, c3]
    rw [p1, p2]
  · rw [if_neg c1, if_neg (fun h => c1 h.1 : ¬ (0 < rd X i ∧ (e < 0 ∨ rd X i ≤ rd X e))), decide_eq_false (fun h => c1 h.1)]
    rfl
theorem law_scan (p : List S35) (n : Int) (X : List Int) (at_ : Int) (hL : X.length ≤ 1000) (d : Nat) : ∀ (k i : Nat) (fe : Int × Int), i + d = X.length → Inv n (fun j => rd X j) i fe →
    scutagelaw39_FragPlans.l2 (k + 2 * d) p n X at_ fe.1 fe.2 (i : Int) =
      scutagelaw39_FragPlans.l2 k p n X at_ (scan n (fun j => rd X j) d i fe).1 (scan n (fun j => rd X j) d i fe).2 (X.length : Int) := by
  induction d with
  | zero => intro k i fe hi _; rw [show i = X.length by omega]; rfl
  | succ d ih =>
    intro k i fe hi hI
    rw [show k + 2 * (d + 1) = k + 2 * d + 2 by omega, law_step p n X at_ fe i _ (by omega) hL hI, ih k (i + 1) _ (by omega) (inv_step hI)]
    rfl

/-- the law, move by move -/
theorem law_l1 {n : Int} {L : Nat} {v : Nat → Int} {ms : List S35} (h : Fol n L v ms) (hn : 0 ≤ n ∧ n ≤ 16) (hL : L ≤ 1000) :
    ∀ (X : List Int) (pre : List S35), X.length = L → (∀ i : Nat, rd X i = v i) → pre.length + ms.length ≤ 1000 →
    ∃ K, ∀ k, K ≤ k → scutagelaw39_FragPlans.l1 k (pre ++ ms) n X (pre.length : Int) = some true := by
  induction h with
  | stop v h =>
    intro X pre hX hv hp
    have hv' : (fun j : Nat => rd X j) = v := funext hv
    refine ⟨2 * L + 4, fun k hk => ?_⟩
    obtain ⟨k, rfl⟩ : ∃ m, k = m + 2 + 2 * L + 1 := ⟨k - 3 - 2 * L, by omega⟩
    simp only [scutagelaw39_FragPlans.l1]
    rw [List.append_nil, if_pos (Int.le_refl _)]
    have hs := law_scan pre n X (pre.length : Int) (by omega) L (k + 2) 0 (-1, -1) (by omega) (by rw [hv']; exact inv_start _ _)
    rw [hv'] at hs
    refine Eq.trans hs ?_
    generalize scan n v L 0 (-1, -1) = fe at h
    obtain ⟨f, e⟩ := fe
    simp only at h
    simp only [scutagelaw39_FragPlans.l2]
    rw [if_neg (by omega)]
    by_cases c : f < 0
    · rw [if_pos c]; simp [scutagelaw39_FragPlans.j4]
    · rw [if_neg c]
      have : f = e := by omega
      simp [scutagelaw39_FragPlans.j4, this]
  | go v f e ms hs hne hf he pf pe h ih =>
    intro X pre hX hv hp
    have hv' : (fun j : Nat => rd X j) = v := funext hv
    obtain ⟨m, hm⟩ : ∃ m, mn (n - v f) (v e) = m := ⟨_, rfl⟩
    have hm1 : 1 ≤ m ∧ m ≤ v e ∧ m ≤ n - v f := by rw [← hm]; unfold mn; split <;> omega
    rw [hm] at ih
    have lp : (pre ++ [(⟨(e : Int), (f : Int), m⟩ : S35)]).length = pre.length + 1 := by simp
    obtain ⟨K, hK⟩ := ih ((X.set f (v f + m)).set e (v e - m)) (pre ++ [⟨(e : Int), (f : Int), m⟩]) (by rw [List.length_set, List.length_set, hX]) (fun i => by
      rw [rd_setI _ _ _ _ (by rw [List.length_set]; omega)]
      unfold moved upd
      by_cases c1 : i = e
      · rw [if_pos c1, if_pos c1]
      · rw [if_neg c1, if_neg c1, rd_setI _ _ _ _ (by omega)]
        by_cases c2 : i = f
        · rw [if_pos c2, if_pos c2]
        · rw [if_neg c2, if_neg c2, hv]) (by rw [lp]; simp at hp; omega)
    refine ⟨K + 2 * L + 4, fun k hk => ?_⟩
    obtain ⟨k, rfl⟩ : ∃ m, k = m + 2 + 2 * L + 1 := ⟨k - 3 - 2 * L, by omega⟩
    rw [hm]
    simp only [scutagelaw39_FragPlans.l1]
    have la : (pre ++ (⟨(e : Int), (f : Int), m⟩ : S35) :: ms).length = pre.length + (ms.length + 1) := by simp
    rw [if_pos (by rw [la]; omega)]
    have hq := law_scan (pre ++ (⟨(e : Int), (f : Int), m⟩ : S35) :: ms) n X (pre.length : Int) (by omega) L (k + 2) 0 (-1, -1) (by omega) (by rw [hv']; exact inv_start _ _)
    rw [hv', hs] at hq
    refine Eq.trans hq ?_
    simp only [scutagelaw39_FragPlans.l2]
    rw [if_neg (by omega), if_neg (by omega), beq_eq_false_iff_ne.mpr (by omega : (f : Int) ≠ (e : Int))]
    simp only [scutagelaw39_FragPlans.j4]
    have hrd : rd_T35 (pre ++ (⟨(e : Int), (f : Int), m⟩ : S35) :: ms) (pre.length : Int) = ⟨(e : Int), (f : Int), m⟩ := by
      unfold rd_T35
      rw [Int.toNat_natCast, List.getD_eq_getElem?_getD, List.getElem?_append_right (Nat.le_refl _), Nat.sub_self]; rfl
    have w1 : wrap64 (n - v f) = n - v f := by unfold wrap64; omega
    rw [if_neg (by decide), if_pos (by omega), if_pos (by omega), if_pos (by omega), if_pos (by omega), if_neg (by rw [la]; omega), if_pos (by omega), if_pos (by rw [la]; omega), hrd, hv f, hv e, w1, hm]
    simp only [beq_self_eq_true, Bool.not_true, Bool.or_false, Bool.false_eq_true, if_false, Option.bind_some, Int.toNat_natCast]
    have w2 : wrap64 (v f + m) = v f + m := by unfold wrap64; omega
    have w3 : wrap64 (v e - m) = v e - m := by unfold wrap64; omega
    have w4 : wrap64 ((pre.length : Int) + 1) = ((pre.length + 1 : Nat) : Int) := by unfold wrap64; simp at hp; omega
    rw [w2, rd_setI _ _ _ _ (by omega), if_neg (fun h => hne h.symm), hv e, w3, w4]
    have := hK k (by omega)
    rw [lp, List.append_assoc] at this
    exact this

theorem law_l0 (P : List S27) (kc n : Int) (p : List S35) (hL : P.length ≤ 1000) (d : Nat) : ∀ (i : Nat) (Q : List Int), i + d = P.length → Q.length = i →
    (∀ j : Nat, j < i → rd Q j = vn P kc j) →
    ∃ X : List Int, X.length = P.length ∧ (∀ j : Nat, rd X j = vn P kc j) ∧
      ∀ k, scutagelaw39_FragPlans.l0 (k + d + 1) P kc p n Q (i : Int) = scutagelaw39_FragPlans.l1 k p n X 0 := by
  induction d with
  | zero =>
    intro i Q hi hQ h
    refine ⟨Q, by omega, fun j => ?_, fun k => ?_⟩
    · by_cases c : j < i
      · exact h j c
      · rw [rd_past Q j (by omega)]
        unfold vn
        rw [rd_over P j (by omega)]
        have : us 0 0 = 0 := by decide
        simp only [this]
        split <;> rfl
    · simp only [scutagelaw39_FragPlans.l0]
      rw [if_neg (by omega)]
  | succ d ih =>
    intro i Q hi hQ h
    have hw : wrap64 ((i : Int) + 1) = ((i + 1 : Nat) : Int) := by unfold wrap64; omega
    obtain ⟨X, q1, q2, q3⟩ := ih (i + 1) (Q ++ [vn P kc i]) (by omega) (by simp; omega) (fun j hj => by
      rw [rd_app]
      by_cases c : j < Q.length
      · rw [if_pos c, h j (by omega)]
      · rw [if_neg c, if_pos (by omega), show j = i by omega])
    refine ⟨X, q1, q2, fun k => ?_⟩
    rw [← q3 k, show k + (d + 1) + 1 = (k + d + 1) + 1 by omega]
    simp only [scutagelaw39_FragPlans.l0]
    rw [if_pos (by omega), if_pos (by omega), hw]
    have hb : Q.length < 17592186044416 := by omega
    by_cases c : (rd_T27 P i).f0 = kc
    · rw [if_pos c, law_used_eq]
      simp only [Option.bind_some]
      rw [if_pos hb]
      have : vn P kc i = us (rd_T27 P i).f0 (rd_T27 P i).f1 := by unfold vn; rw [if_pos c]
      rw [this]
    · rw [if_neg c, if_pos hb]
      have : vn P kc i = 0 := by unfold vn; rw [if_neg c]
      rw [this]

theorem few_eq (l : List S27) : scutagelaw39_few.f l = some (l.take 40) := by
  unfold scutagelaw39_few.f
  by_cases c : (l.length : Int) > 40
  · rw [if_pos c, if_pos (by omega)]
  · rw [if_neg c, List.take_of_length_le (by omega)]
theorem law_true (l : List S27) (a : Int) : ∃ k, scutagelaw39_FragPlans.f k l a = some true := by
  obtain ⟨P, hP⟩ : ∃ P, l.take 40 = P := ⟨_, rfl⟩
  have hL : P.length ≤ 40 := by rw [← hP, List.length_take]; omega
  obtain ⟨ms, m1, m2, m3⟩ := plan_all P a hL
  obtain ⟨X, x1, x2, x3⟩ := law_l0 P a (cl a) ms (by omega) P.length 0 [] (by omega) rfl (fun j hj => by omega)
  obtain ⟨K, hK⟩ := law_l1 m2 (cl_le a) (by omega) X [] x1 x2 (by simp; omega)
  refine ⟨400 + K, ?_⟩
  unfold scutagelaw39_FragPlans.f
  rw [at_rounds (g := fun m => scutagelaw39_alive.f m) (fun m => scutagelaw39_alive.mono m) (by omega : 60 ≤ 400 + K) alive_true]
  simp only [Option.bind_some]
  rw [if_pos trivial, few_eq, hP]
  simp only [Option.bind_some]
  rw [at_rounds (g := fun m => frag_Plan.f m P a) (fun m => frag_Plan.mono _ _ m) (by omega : 400 ≤ 400 + K) m1]
  simp only [Option.bind_some]
  rw [ref_cells_eq]
  simp only [Option.bind_some]
  have := x3 (400 + K - P.length - 1)
  rw [show 400 + K - P.length - 1 + P.length + 1 = 400 + K by omega] at this
  refine Eq.trans this ?_
  have := hK (400 + K - P.length - 1) (by omega)
  exact this

end Go.Proofs.Ytebhmbejfpbpeaa.PurePlans
