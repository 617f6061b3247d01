/- Proved: plain laws of lists of pages' kinds: runs of free ones, a kind, a size, a first page; no program in sight. -/
namespace Go.Proofs.Ytaegmlmibbppoaa.PagePure

/-! ### runs of free pages -/
def lead : List Int → Nat
  | [] => 0
  | x :: r => if x = 0 then lead r + 1 else 0
/-- how many sixes stand first -/
def more : List Int → Nat
  | [] => 0
  | x :: r => if x = 6 then more r + 1 else 0
def runsAux : List Int → Nat → Nat → List (Nat × Nat)
  | [], a, m => if m = 0 then [] else [(a - m, m)]
  | x :: r, a, m => if x = 0 then runsAux r (a + 1) (m + 1) else (if m = 0 then [] else [(a - m, m)]) ++ runsAux r (a + 1) 0
def runs (l : List Int) : List (Nat × Nat) := runsAux l 0 0
def long : List Int → Nat
  | [] => 0
  | x :: r => max (lead (x :: r)) (long r)
def zeros : List Int → Nat
  | [] => 0
  | x :: r => (if x = 0 then 1 else 0) + zeros r
def fstAt : List Int → Nat → Nat → Option Nat
  | [], _, _ => none
  | x :: r, a, n => if n ≤ lead (x :: r) then some a else fstAt r (a + 1) n
theorem lead_le (l : List Int) : lead l ≤ l.length := by
  induction l with
  | nil => simp [lead]
  | cons x r ih => simp only [lead, List.length_cons]; split <;> omega
theorem more_le (l : List Int) : more l ≤ l.length := by
  induction l with
  | nil => simp [more]
  | cons x r ih => simp only [more, List.length_cons]; split <;> omega
theorem lead_long (l : List Int) : lead l ≤ long l := by
  cases l with
  | nil => simp [lead, long]
  | cons x r => simp only [long]; omega
theorem long_le (l : List Int) : long l ≤ l.length := by
  induction l with
  | nil => simp [long]
  | cons x r ih => have := lead_le (x :: r); simp only [long, List.length_cons] at this ⊢; omega
theorem zeros_le (l : List Int) : zeros l ≤ l.length := by
  induction l with
  | nil => simp [zeros]
  | cons x r ih => simp only [zeros, List.length_cons]; split <;> omega

def sumR (rs : List (Nat × Nat)) : Nat := rs.foldl (fun n x => n + x.2) 0
def maxR (rs : List (Nat × Nat)) : Nat := rs.foldl (fun n x => max n x.2) 0
theorem sumR_from (rs : List (Nat × Nat)) (s : Nat) : rs.foldl (fun n x => n + x.2) s = s + sumR rs := by
  unfold sumR
  induction rs generalizing s with
  | nil => rfl
  | cons x r ih => simp only [List.foldl_cons]; rw [ih, ih (0 + x.2)]; omega
theorem maxR_from (rs : List (Nat × Nat)) (s : Nat) : rs.foldl (fun n x => max n x.2) s = max s (maxR rs) := by
  unfold maxR
  induction rs generalizing s with
  | nil => simp
  | cons x r ih => simp only [List.foldl_cons]; rw [ih, ih (max 0 x.2)]; omega
theorem sumR_snoc (rs : List (Nat × Nat)) (x : Nat × Nat) : sumR (rs ++ [x]) = sumR rs + x.2 := by simp [sumR]
theorem maxR_snoc (rs : List (Nat × Nat)) (x : Nat × Nat) : maxR (rs ++ [x]) = max (maxR rs) x.2 := by simp [maxR]
theorem sumR_cons (x : Nat × Nat) (rs : List (Nat × Nat)) : sumR (x :: rs) = x.2 + sumR rs := by
  show rs.foldl _ (0 + x.2) = _
  rw [sumR_from]; omega
theorem maxR_cons (x : Nat × Nat) (rs : List (Nat × Nat)) : maxR (x :: rs) = max x.2 (maxR rs) := by
  show rs.foldl _ (max 0 x.2) = _
  rw [maxR_from]; omega
theorem sum_runs (l : List Int) : ∀ a m, sumR (runsAux l a m) = m + zeros l := by
  induction l with
  | nil =>
    intro a m
    simp only [runsAux, zeros]
    split
    · rename_i h; subst h; rfl
    · rw [sumR_cons]; simp [sumR]
  | cons x r ih =>
    intro a m
    simp only [runsAux, zeros]
    by_cases hx : x = 0
    · rw [if_pos hx, if_pos hx, ih]; omega
    · rw [if_neg hx, if_neg hx]
      by_cases hm : m = 0
      · rw [if_pos hm, List.nil_append, ih]; omega
      · rw [if_neg hm, List.singleton_append, sumR_cons, ih]; try (dsimp only; omega)
theorem max_runs (l : List Int) : ∀ a m, maxR (runsAux l a m) = max (m + lead l) (long l) := by
  induction l with
  | nil =>
    intro a m
    simp only [runsAux, lead, long]
    split
    · rename_i h; subst h; rfl
    · rw [maxR_cons]; simp [maxR]
  | cons x r ih =>
    intro a m
    have h1 := lead_long r
    simp only [runsAux, lead, long]
    by_cases hx : x = 0
    · rw [if_pos hx, if_pos hx, ih]; omega
    · rw [if_neg hx, if_neg hx]
      by_cases hm : m = 0
      · rw [if_pos hm, List.nil_append, ih]; omega
      · rw [if_neg hm, List.singleton_append, maxR_cons, ih]; dsimp only; omega
def findR (rs : List (Nat × Nat)) (n : Nat) : Option Nat := (rs.find? (fun x => decide (n ≤ x.2))).map (·.1)
theorem find_runs (n : Nat) (hn : 1 ≤ n) (l : List Int) : ∀ a m, m ≤ a → findR (runsAux l a m) n = if n ≤ m + lead l then some (a - m) else fstAt l a n := by
  induction l with
  | nil =>
    intro a m _
    have e : lead [] = 0 := rfl
    simp only [runsAux, fstAt]
    rw [e, Nat.add_zero]
    by_cases hm : m = 0
    · rw [if_pos hm, if_neg (by omega)]; rfl
    · rw [if_neg hm]
      by_cases h : n ≤ m <;> simp [findR, h]
  | cons x r ih =>
    intro a m hma
    simp only [runsAux, fstAt]
    by_cases hx : x = 0
    · rw [if_pos hx, ih _ _ (by omega)]
      have e : lead (x :: r) = lead r + 1 := by simp [lead, hx]
      rw [e]
      by_cases h : n ≤ m + (lead r + 1)
      · rw [if_pos (by omega), if_pos h]; congr 1; omega
      · rw [if_neg (by omega), if_neg h, if_neg (by omega)]
    · have e : lead (x :: r) = 0 := by simp [lead, hx]
      have hr : (if n ≤ 0 + lead r then some (a + 1 - 0) else fstAt r (a + 1) n) = fstAt r (a + 1) n := by
        cases r with
        | nil => have e0 : lead [] = 0 := rfl
                 rw [e0, if_neg (by omega)]; try rfl
        | cons y s =>
          simp only [fstAt]
          by_cases h : n ≤ lead (y :: s)
          · rw [if_pos (by omega), if_pos h]; rfl
          · rw [if_neg (by omega)]
      rw [if_neg hx, e, if_neg (show ¬ n ≤ 0 by omega)]
      by_cases hm : m = 0
      · rw [if_pos hm, List.nil_append, ih _ _ (by omega), hr, if_neg (by omega)]
      · rw [if_neg hm, List.singleton_append]
        by_cases h : n ≤ m
        · rw [if_pos (by omega)]; simp [findR, h]
        · rw [if_neg (by omega)]
          have : findR ((a - m, m) :: runsAux r (a + 1) 0) n = findR (runsAux r (a + 1) 0) n := by simp [findR, h]
          rw [this, ih _ _ (by omega), hr]
theorem fstAt_spec (n : Nat) (l : List Int) : ∀ a p, fstAt l a n = some p → a ≤ p ∧ p < a + l.length ∧ n ≤ lead (l.drop (p - a)) := by
  induction l with
  | nil => intro a p h; simp [fstAt] at h
  | cons x r ih =>
    intro a p h
    simp only [fstAt] at h
    split at h
    · rename_i hn
      injection h with h; subst h
      refine ⟨Nat.le_refl _, by simp, ?_⟩
      rw [Nat.sub_self]; exact hn
    · obtain ⟨h1, h2, h3⟩ := ih _ _ h
      refine ⟨by omega, by simp; omega, ?_⟩
      rw [show p - a = (p - (a + 1)) + 1 by omega]
      exact h3
theorem lead_at (l : List Int) (i : Nat) (h : i < lead l) : l[i]? = some 0 := by
  induction l generalizing i with
  | nil => simp [lead] at h
  | cons x r ih =>
    simp only [lead] at h
    split at h
    · rename_i hx
      subst hx
      cases i with
      | zero => rfl
      | succ i => exact ih i (by omega)
    · omega
theorem more_at (l : List Int) (i : Nat) (h : i < more l) : l[i]? = some 6 := by
  induction l generalizing i with
  | nil => simp [more] at h
  | cons x r ih =>
    simp only [more] at h
    split at h
    · rename_i hx
      subst hx
      cases i with
      | zero => rfl
      | succ i => exact ih i (by omega)
    · omega
theorem more_stop (l : List Int) : l[more l]? ≠ some 6 := by
  induction l with
  | nil => simp [more]
  | cons x r ih =>
    by_cases hx : x = 6
    · simp [more, hx]; exact ih
    · simp [more, hx]
/-- the place of the first free one -/
def idx0 : List Int → Nat → Int
  | [], _ => -1
  | x :: r, a => if x = 0 then (a : Int) else idx0 r (a + 1)
def optI : Option Nat → Int
  | some p => (p : Int)
  | none => -1
def findI (l : List Int) (n : Int) : Int := if n < 1 then -1 else optI (fstAt l 0 n.toNat)
theorem idx0_find (l : List Int) : ∀ a, optI (fstAt l a 1) = idx0 l a := by
  induction l with
  | nil => intro a; rfl
  | cons x r ih =>
    intro a
    simp only [fstAt, idx0]
    by_cases hx : x = 0
    · rw [if_pos (by simp [lead, hx]), if_pos hx]; rfl
    · rw [if_neg (by simp [lead, hx]), if_neg hx]; exact ih _
theorem find_one (l : List Int) : findI l 1 = idx0 l 0 := by unfold findI; rw [if_neg (by omega)]; exact idx0_find l 0
theorem findI_cases (l : List Int) (n : Int) : findI l n = -1 ∨ ∃ p : Nat, findI l n = (p : Int) ∧ 1 ≤ n ∧ p + n.toNat ≤ l.length ∧ ∀ i, i < n.toNat → l[p + i]? = some 0 := by
  unfold findI
  by_cases hn : n < 1
  · rw [if_pos hn]; exact .inl rfl
  · rw [if_neg hn]
    cases h : fstAt l 0 n.toNat with
    | none => exact .inl rfl
    | some p =>
      obtain ⟨_, h2, h3⟩ := fstAt_spec _ _ _ _ h
      simp only [Nat.sub_zero, Nat.zero_add] at h2 h3
      have h4 := lead_le (l.drop p)
      rw [List.length_drop] at h4
      refine .inr ⟨p, rfl, by omega, by omega, fun i hi => ?_⟩
      have := lead_at _ i (Nat.lt_of_lt_of_le hi h3)
      rw [List.getElem?_drop] at this
      exact this
theorem runs_find (l : List Int) (n : Nat) (hn : 1 ≤ n) : findR (runs l) n = fstAt l 0 n := by
  unfold runs
  rw [find_runs n hn l 0 0 (Nat.le_refl _)]
  cases l with
  | nil => have e0 : lead [] = 0 := rfl
           rw [e0, if_neg (by omega)]
  | cons x r =>
    simp only [fstAt]
    by_cases h : n ≤ lead (x :: r)
    · rw [if_pos (by omega), if_pos h]
    · rw [if_neg (by omega), if_neg h]

theorem runs_step (l : List Int) (k m : Nat) (x : Int) (h : l[k]? = some x) :
    runsAux (l.drop k) k m = if x = 0 then runsAux (l.drop (k + 1)) (k + 1) (m + 1) else (if m = 0 then [] else [(k - m, m)]) ++ runsAux (l.drop (k + 1)) (k + 1) 0 := by
  obtain ⟨hk, rfl⟩ := List.getElem?_eq_some_iff.1 h
  rw [List.drop_eq_getElem_cons hk]
  rfl
theorem runs_end (l : List Int) (m : Nat) : runsAux (l.drop l.length) l.length m = if m = 0 then [] else [(l.length - m, m)] := by rw [List.drop_length]; rfl

/-! ### kinds -/
def kindL (l : List Int) (p : Int) : Int := if p < 0 then -1 else l[p.toNat]?.getD (-1)
def clsz (k : Int) : Int := if k = 1 then 2 else if k = 2 then 4 else if k = 3 then 8 else if k = 4 then 16 else 0
def sizeL (l : List Int) (p : Int) : Nat := if clsz (kindL l p) ≠ 0 then 1 else if kindL l p = 5 then 1 + more (l.drop (p.toNat + 1)) else 0
def backL (l : List Int) : Nat → Int
  | 0 => if kindL l 0 = 6 then -1 else 0
  | k + 1 => if kindL l ((k + 1 : Nat) : Int) = 6 then backL l k else ((k + 1 : Nat) : Int)
def backI (l : List Int) (p : Int) : Int := if kindL l p = 6 then backL l p.toNat else p
def firstL (l : List Int) (p : Int) : Int := if sizeL l (backI l p) = 0 then -1 else backI l p
theorem kindL_at (l : List Int) (k : Nat) (x : Int) (h : l[k]? = some x) : kindL l (k : Int) = x := by unfold kindL; rw [if_neg (by omega)]; simp [h]
theorem kindL_past (l : List Int) (p : Int) (h : p < 0 ∨ (l.length : Int) ≤ p) : kindL l p = -1 := by
  unfold kindL
  by_cases h1 : p < 0
  · rw [if_pos h1]
  · rw [if_neg h1, List.getElem?_eq_none (by omega)]; rfl
theorem clsz_nn (k : Int) : 0 ≤ clsz k ∧ clsz k ≤ 16 := by unfold clsz; repeat' split <;> omega
theorem sizeL_past (l : List Int) (p : Int) (h : p < 0 ∨ (l.length : Int) ≤ p) : sizeL l p = 0 := by unfold sizeL; rw [kindL_past l p h]; rfl
theorem sizeL_le (l : List Int) (p : Int) : sizeL l p = 0 ∨ ∃ k : Nat, p = (k : Int) ∧ k + sizeL l p ≤ l.length := by
  by_cases h : p < 0 ∨ (l.length : Int) ≤ p
  · exact .inl (sizeL_past l p h)
  · refine .inr ⟨p.toNat, by omega, ?_⟩
    have := more_le (l.drop (p.toNat + 1))
    rw [List.length_drop] at this
    unfold sizeL
    split
    · omega
    · split <;> omega
theorem backL_succ (l : List Int) (k : Nat) (h : kindL l (k : Int) = 6) : backI l (k : Int) = backI l ((k : Int) - 1) := by
  unfold backI
  rw [if_pos h]
  cases k with
  | zero =>
    rw [if_neg (by rw [kindL_past l _ (by omega)]; decide)]
    show backL l 0 = _
    unfold backL
    rw [if_pos (by exact h)]; rfl
  | succ k =>
    rw [show ((k + 1 : Nat) : Int) - 1 = (k : Int) by omega]
    show backL l (k + 1) = _
    rw [backL, if_pos h]
    by_cases h2 : kindL l (k : Int) = 6
    · rw [if_pos h2]; rfl
    · rw [if_neg h2]
      cases k with
      | zero => unfold backL; rw [if_neg (by exact h2)]; rfl
      | succ k => rw [backL, if_neg h2]
theorem more_step (l : List Int) (p n : Nat) (h : kindL l ((p + n : Nat) : Int) = 6) : n + more (l.drop (p + n)) = (n + 1) + more (l.drop (p + (n + 1))) := by
  have hlt : p + n < l.length := by
    apply Classical.byContradiction
    intro hc
    rw [kindL_past l _ (by omega)] at h
    exact absurd h (by decide)
  have hx : l[p + n] = 6 := by rw [← kindL_at l (p + n) l[p + n] (List.getElem?_eq_getElem hlt)]; exact h
  rw [List.drop_eq_getElem_cons hlt, more, if_pos hx, show p + (n + 1) = p + n + 1 by omega]
  omega
theorem more_none (l : List Int) (p n : Nat) (h : kindL l ((p + n : Nat) : Int) ≠ 6) : more (l.drop (p + n)) = 0 := by
  by_cases hlt : p + n < l.length
  · have hx : l[p + n] ≠ 6 := by rw [← kindL_at l (p + n) l[p + n] (List.getElem?_eq_getElem hlt)]; exact h
    rw [List.drop_eq_getElem_cons hlt, more, if_neg hx]
  · rw [List.drop_eq_nil_of_le (by omega)]; rfl

/-! ### pages set to a kind -/
def fillL (l : List Int) (a n : Nat) (x : Int) : List Int := l.take a ++ List.replicate n x ++ l.drop (a + n)
theorem fillL_length (l : List Int) (a n : Nat) (x : Int) (h : a + n ≤ l.length) : (fillL l a n x).length = l.length := by simp [fillL]; omega
theorem fillL_zero (l : List Int) (a : Nat) (x : Int) : fillL l a 0 x = l := by simp [fillL]
theorem fillL_succ (l : List Int) (a n : Nat) (x : Int) (h : a + n < l.length) : (fillL l a n x).set (a + n) x = fillL l a (n + 1) x := by
  have h1 : (l.take a ++ List.replicate n x).length = a + n := by simp; omega
  unfold fillL
  rw [List.set_append_right _ _ (by omega), h1, Nat.sub_self, List.drop_eq_getElem_cons h, List.set_cons_zero, List.replicate_succ', List.append_assoc, List.append_assoc, List.append_assoc]
  rfl
theorem fillL_one (l : List Int) (a : Nat) (x : Int) (h : a < l.length) : fillL l a 1 x = l.set a x := by
  have h2 := fillL_succ l a 0 x (by omega)
  rw [fillL_zero] at h2
  exact h2.symm
theorem fillL_at (l : List Int) (a n : Nat) (x : Int) (h : a + n ≤ l.length) (i : Nat) (hi : i < l.length) : (fillL l a n x)[i]? = some (if a ≤ i ∧ i < a + n then x else l[i]) := by
  unfold fillL
  rw [List.append_assoc]
  by_cases h1 : i < a
  · rw [List.getElem?_append_left (by simp; omega), if_neg (by omega), List.getElem?_take, if_pos h1, List.getElem?_eq_getElem hi]
  · rw [List.getElem?_append_right (by simp; omega), List.length_take, Nat.min_eq_left (by omega)]
    by_cases h2 : i < a + n
    · rw [List.getElem?_append_left (by rw [List.length_replicate]; omega), if_pos ⟨by omega, h2⟩, List.getElem?_replicate, if_pos (by omega)]
    · rw [List.getElem?_append_right (by simp; omega), if_neg (by omega), List.length_replicate, List.getElem?_drop, show a + n + (i - a - n) = i by omega, List.getElem?_eq_getElem hi]
/-- a large object's pages -/
def spanL (l : List Int) (a n : Nat) : List Int := (fillL l a n 6).set a 5

/-! ### what is always so -/
structure Whole (l : List Int) : Prop where
  kind : ∀ (i : Nat) (x : Int), l[i]? = some x → 0 ≤ x ∧ x ≤ 6
  back : ∀ i : Nat, l[i]? = some 6 → ∃ j, i = j + 1 ∧ (l[j]? = some 5 ∨ l[j]? = some 6)
theorem Whole.new (n : Nat) : Whole (List.replicate n 0) := by
  constructor
  · intro i x h
    have := List.eq_of_mem_replicate (List.mem_of_getElem? h)
    omega
  · intro i h
    have := List.eq_of_mem_replicate (List.mem_of_getElem? h)
    omega
/-- some pages that none of another follows are turned -/
theorem Whole.turn {l l' : List Int} (h : Whole l) (a n : Nat) (_hlen : l'.length = l.length) (hout : ∀ i, i < a ∨ a + n ≤ i → l'[i]? = l[i]?)
    (hin : ∀ i, a ≤ i → i < a + n → ∀ x, l'[i]? = some x → 0 ≤ x ∧ x ≤ 6 ∧ (x = 6 → a < i ∧ (l'[i - 1]? = some 5 ∨ l'[i - 1]? = some 6))) (hn : l[a + n]? ≠ some 6) : Whole l' := by
  constructor
  · intro i x hx
    by_cases hi : a ≤ i ∧ i < a + n
    · have := hin i hi.1 hi.2 x hx; exact ⟨this.1, this.2.1⟩
    · rw [hout i (by omega)] at hx; exact h.kind i x hx
  · intro i hx
    by_cases hi : a ≤ i ∧ i < a + n
    · obtain ⟨_, _, h6⟩ := hin i hi.1 hi.2 6 hx
      obtain ⟨h1, h2⟩ := h6 rfl
      exact ⟨i - 1, by omega, h2⟩
    · rw [hout i (by omega)] at hx
      obtain ⟨j, rfl, hj⟩ := h.back i hx
      refine ⟨j, rfl, ?_⟩
      by_cases hj2 : a ≤ j ∧ j < a + n
      · have e : j + 1 = a + n := by omega
        rw [e] at hx
        exact absurd hx hn
      · rw [hout j (by omega)]; exact hj
theorem fill_out (l : List Int) (a n : Nat) (x : Int) (h : a + n ≤ l.length) (i : Nat) (hi : i < a ∨ a + n ≤ i) : (fillL l a n x)[i]? = l[i]? := by
  by_cases hl : i < l.length
  · rw [fillL_at l a n x h i hl, if_neg (by omega), List.getElem?_eq_getElem hl]
  · rw [List.getElem?_eq_none (by rw [fillL_length _ _ _ _ h]; omega), List.getElem?_eq_none (by omega)]
theorem fill_in (l : List Int) (a n : Nat) (x : Int) (h : a + n ≤ l.length) (i : Nat) (h1 : a ≤ i) (h2 : i < a + n) : (fillL l a n x)[i]? = some x := by
  rw [fillL_at l a n x h i (by omega), if_pos ⟨h1, h2⟩]
/-- a page behind a free one is no further one -/
theorem Whole.behind_free {l : List Int} (h : Whole l) (a : Nat) (h0 : l[a]? = some 0) : l[a + 1]? ≠ some 6 := by
  intro h6
  obtain ⟨j, hj, hk⟩ := h.back _ h6
  obtain rfl : a = j := by omega
  rw [h0] at hk
  rcases hk with hk | hk <;> (injection hk with hk; omega)
theorem Whole.take {l : List Int} (h : Whole l) (a : Nat) (k : Int) (hk : clsz k ≠ 0) (h0 : l[a]? = some 0) : Whole (fillL l a 1 k) := by
  have ha : a + 1 ≤ l.length := (List.getElem?_eq_some_iff.1 h0).1
  have hk2 : 1 ≤ k ∧ k ≤ 4 := by
    unfold clsz at hk
    repeat' split at hk
    all_goals omega
  refine h.turn a 1 (fillL_length _ _ _ _ ha) (fill_out l a 1 k ha) (fun i h1 h2 x hx => ?_) (h.behind_free a h0)
  rw [fill_in l a 1 k ha i h1 h2] at hx
  injection hx with hx; subst hx
  exact ⟨by omega, by omega, fun h => by omega⟩
theorem span_at (l : List Int) (a n : Nat) (h : a + n ≤ l.length) (hn : 1 ≤ n) (i : Nat) : (spanL l a n)[i]? = if i = a then some 5 else (fillL l a n 6)[i]? := by
  unfold spanL
  rw [List.getElem?_set]
  by_cases hi : a = i
  · rw [if_pos hi, if_pos hi.symm, if_pos (by rw [fillL_length _ _ _ _ h]; omega)]
  · rw [if_neg hi, if_neg (Ne.symm hi)]
theorem spanL_length (l : List Int) (a n : Nat) (h : a + n ≤ l.length) : (spanL l a n).length = l.length := by unfold spanL; rw [List.length_set, fillL_length _ _ _ _ h]
theorem Whole.span {l : List Int} (h : Whole l) (a n : Nat) (hn : 1 ≤ n) (hl : a + n ≤ l.length) (h0 : ∀ i, i < n → l[a + i]? = some 0) : Whole (spanL l a n) := by
  refine h.turn a n (spanL_length _ _ _ hl) (fun i hi => ?_) (fun i h1 h2 x hx => ?_) ?_
  · rw [span_at l a n hl hn, if_neg (by omega)]; exact fill_out l a n 6 hl i hi
  · rw [span_at l a n hl hn] at hx
    by_cases hi : i = a
    · rw [if_pos hi] at hx; injection hx with hx; subst hx
      exact ⟨by omega, by omega, fun h => by omega⟩
    · rw [if_neg hi, fill_in l a n 6 hl i h1 h2] at hx
      injection hx with hx; subst hx
      refine ⟨by omega, by omega, fun _ => ⟨by omega, ?_⟩⟩
      rw [span_at l a n hl hn]
      by_cases hj : i - 1 = a
      · rw [if_pos hj]; exact .inl rfl
      · rw [if_neg hj, fill_in l a n 6 hl (i - 1) (by omega) (by omega)]; exact .inr rfl
  · have := h.behind_free (a + (n - 1)) (h0 (n - 1) (by omega))
    rwa [show a + (n - 1) + 1 = a + n by omega] at this
theorem Whole.free {l : List Int} (h : Whole l) (k : Nat) : Whole (fillL l k (sizeL l (k : Int)) 0) := by
  by_cases hz : sizeL l (k : Int) = 0
  · rw [hz, fillL_zero]; exact h
  rcases sizeL_le l (k : Int) with e | ⟨k', hk', hle⟩
  · exact absurd e hz
  obtain rfl : k = k' := by omega
  refine h.turn k (sizeL l k) (fillL_length _ _ _ _ hle) (fill_out l k _ 0 hle) (fun i h1 h2 x hx => ?_) ?_
  · rw [fill_in l k _ 0 hle i h1 h2] at hx
    injection hx with hx; subst hx
    exact ⟨by omega, by omega, fun h => by omega⟩
  · unfold sizeL at hz ⊢
    by_cases hc : clsz (kindL l k) ≠ 0
    · rw [if_pos hc]
      intro h6
      obtain ⟨j, hj, hx⟩ := h.back _ h6
      obtain rfl : k = j := by omega
      rcases hx with hx | hx
      · rw [kindL_at l k _ hx] at hc; exact hc rfl
      · rw [kindL_at l k _ hx] at hc; exact hc rfl
    · rw [if_neg hc] at hz ⊢
      by_cases h5 : kindL l k = 5
      · rw [if_pos h5]
        have := more_stop (l.drop (k + 1))
        rw [List.getElem?_drop] at this
        rw [show ((k : Int)).toNat = k by omega, show k + (1 + more (l.drop (k + 1))) = k + 1 + more (l.drop (k + 1)) by omega]
        exact this
      · rw [if_neg h5] at hz; exact absurd rfl hz
theorem more_all (l : List Int) (a n : Nat) (h : ∀ i, a < i → i ≤ a + n → l[i]? = some 6) : n ≤ more (l.drop (a + 1)) := by
  induction n generalizing a with
  | zero => omega
  | succ n ih =>
    have h1 := h (a + 1) (by omega) (by omega)
    obtain ⟨hlt, hx⟩ := List.getElem?_eq_some_iff.1 h1
    rw [List.drop_eq_getElem_cons hlt, more, if_pos hx]
    have := ih (a + 1) (fun i h2 h3 => h i (by omega) (by omega))
    omega
/-- a further page's first one -/
theorem Whole.back6 {l : List Int} (h : Whole l) : ∀ p : Nat, l[p]? = some 6 → ∃ f : Nat, backI l (p : Int) = (f : Int) ∧ f < p ∧ l[f]? = some 5 ∧ ∀ i, f < i → i ≤ p → l[i]? = some 6 := by
  intro p
  induction p with
  | zero => intro h6; obtain ⟨j, hj, _⟩ := h.back _ h6; omega
  | succ p ih =>
    intro h6
    rw [backL_succ l (p + 1) (kindL_at _ _ _ h6), show ((p + 1 : Nat) : Int) - 1 = (p : Int) by omega]
    obtain ⟨j, hj, hk⟩ := h.back _ h6
    obtain rfl : p = j := by omega
    rcases hk with hk | hk
    · refine ⟨p, ?_, by omega, hk, fun i h1 h2 => by obtain rfl : i = p + 1 := by omega
                                                     exact h6⟩
      unfold backI
      rw [if_neg (by rw [kindL_at _ _ _ hk]; decide)]
    · obtain ⟨f, e, hf, h5, hall⟩ := ih hk
      refine ⟨f, e, by omega, h5, fun i h1 h2 => ?_⟩
      by_cases hi : i = p + 1
      · rw [hi]; exact h6
      · exact hall i h1 (by omega)
/-- what the law asks of each page -/
def okAt (l : List Int) (p : Nat) (x : Int) : Bool :=
  !(decide (x < 0) || decide (6 < x) || (decide (firstL l p < 0) != decide (x = 0)) || (decide (x = 6) && (decide ((p : Int) ≤ firstL l p) || decide (kindL l (firstL l p) ≠ 5))) || (decide (x ≠ 6) && decide (0 ≤ firstL l p) && decide (firstL l p ≠ p)))
theorem Whole.ok {l : List Int} (h : Whole l) (p : Nat) (x : Int) (hx : l[p]? = some x) :
    0 ≤ x ∧ x ≤ 6 ∧ ((firstL l p < 0) ↔ x = 0) ∧ (x = 6 → ∃ f : Nat, firstL l p = (f : Int) ∧ f < p ∧ l[f]? = some 5 ∧ (p : Int) < (f : Int) + (sizeL l (f : Int) : Int)) ∧ (x ≠ 6 → x ≠ 0 → firstL l p = (p : Int)) := by
  obtain ⟨h0, h6⟩ := h.kind p x hx
  have hk := kindL_at l p x hx
  by_cases e6 : x = 6
  · subst e6
    obtain ⟨f, e, hf, h5, hall⟩ := h.back6 p hx
    have hkf := kindL_at l f 5 h5
    have hm := more_all l f (p - f) (fun i h1 h2 => hall i h1 (by omega))
    have hs : sizeL l (f : Int) = 1 + more (l.drop (f + 1)) := by
      unfold sizeL
      rw [hkf, if_neg (by decide), if_pos rfl]; rfl
    have hfl : firstL l p = (f : Int) := by unfold firstL; rw [e, if_neg (by omega)]
    refine ⟨h0, h6, ⟨fun h => by omega, fun h => by omega⟩, fun _ => ⟨f, hfl, hf, h5, by rw [hs]; omega⟩, fun h => absurd rfl h⟩
  · have hb : backI l (p : Int) = (p : Int) := by unfold backI; rw [if_neg (by rw [hk]; exact e6)]
    have hf : firstL l p = if sizeL l p = 0 then -1 else (p : Int) := by unfold firstL; rw [hb]
    have hs : sizeL l p = 0 ↔ x = 0 := by
      unfold sizeL
      rw [hk]
      constructor
      · intro hz
        apply Classical.byContradiction
        intro hx0
        by_cases h5 : x = 5
        · subst h5; simp [clsz] at hz
        · have hc : clsz x ≠ 0 := by unfold clsz; repeat' split <;> omega
          rw [if_pos hc] at hz; omega
      · rintro rfl; rfl
    refine ⟨h0, h6, ?_, fun h => absurd h e6, fun _ hx0 => by rw [hf, if_neg (fun h => hx0 (hs.1 h))]⟩
    rw [hf]
    split
    · rename_i h; exact ⟨fun _ => hs.1 h, fun _ => by omega⟩
    · rename_i h; exact ⟨fun h2 => by omega, fun h2 => absurd (hs.2 h2) h⟩
end Go.Proofs.Ytaegmlmibbppoaa.PagePure
