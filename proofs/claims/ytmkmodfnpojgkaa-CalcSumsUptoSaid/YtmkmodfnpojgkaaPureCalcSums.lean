/- Proved: for all two lists of numbers the Go law CalcSums answers true, in its plain form, where the two lists together have at most 1048576 numbers (the bound of the narrower statement); no other condition beside the numbers being of int's kind. -/
import Derived.Test.YtmkmodfnpojgkaaPCalcSumsx2
namespace Go.Proofs.Ytmkmodfnpojgkaa.Pure
open Go.RowKit Go.Proofs.Ytmkmodfnpojgkaa.PCalcSums Go.Proofs.YtmkmodfnpojgkaaW.PrintWords Go.Proofs.YtmkmodfnpojgkaaW.PrintLast

theorem wf_bd {x : Int} (h : (Lit.int .i64 x).wf = true) : -9223372036854775808 ≤ x ∧ x ≤ 9223372036854775807 := by
  simpa [Lit.wf, IntKind.min, IntKind.max, IntKind.bits, IntKind.signed] using h
theorem wrap_id {x : Int} (h0 : -9223372036854775808 ≤ x) (h1 : x < 9223372036854775808) : wrap64 x = x := by
  unfold wrap64; omega
theorem wrap_cases (x : Int) (h0 : -18446744073709551616 ≤ x) (h1 : x < 18446744073709551616) : ∃ c, wrap64 x = c ∧ -9223372036854775808 ≤ c ∧ c < 9223372036854775808 ∧
    (c = x ∨ c = x - 18446744073709551616 ∨ c = x + 18446744073709551616) := ⟨_, rfl, by unfold wrap64; omega⟩
/-- a number that an int holds, or false -/
def exact64 (x : Int) : Int × Bool := if -9223372036854775808 ≤ x ∧ x ≤ 9223372036854775807 then (x, true) else (0, false)
theorem exact_in {x : Int} (h : -9223372036854775808 ≤ x ∧ x ≤ 9223372036854775807) : exact64 x = (x, true) := if_pos h
theorem exact_out {x : Int} (h : ¬ (-9223372036854775808 ≤ x ∧ x ≤ 9223372036854775807)) : exact64 x = (0, false) := if_neg h
theorem add_val {a b : Int} (ha : -9223372036854775808 ≤ a ∧ a ≤ 9223372036854775807) (hb : -9223372036854775808 ≤ b ∧ b ≤ 9223372036854775807) :
    calc_Add.f a b = some (exact64 (a + b)) := by
  obtain ⟨c, hc, c0, c1, c2⟩ := wrap_cases (a + b) (by omega) (by omega)
  unfold calc_Add.f exact64
  rw [hc]
  simp only [beq_iff_eq, decide_eq_decide, bne_iff_ne, ne_eq]
  repeat' split
  all_goals first
    | rfl
    | (exfalso; omega)
    | (rw [show c = a + b by omega])
theorem refadd_val {a b : Int} (ha : -9223372036854775808 ≤ a ∧ a ≤ 9223372036854775807) (hb : -9223372036854775808 ≤ b ∧ b ≤ 9223372036854775807) :
    scutageref01_Add.f a b = some (exact64 (a + b)) := by
  obtain ⟨c, hc, c0, c1, c2⟩ := wrap_cases (a + b) (by omega) (by omega)
  obtain ⟨d, hd, d0, d1, d2⟩ := wrap_cases (9223372036854775807 - b) (by omega) (by omega)
  obtain ⟨e, he, e0, e1, e2⟩ := wrap_cases (-9223372036854775808 - b) (by omega) (by omega)
  unfold scutageref01_Add.f exact64
  rw [hc, hd, he]
  repeat' split
  all_goals first
    | rfl
    | (exfalso; omega)
    | (rw [show c = a + b by omega])
/-- a sum step by step; none: a step is too great -/
def run : Int → List Int → Option Int
  | s, [] => some s
  | s, x :: xs => if -9223372036854775808 ≤ s + x ∧ s + x ≤ 9223372036854775807 then run (s + x) xs else none
def told : Option Int → Int × Bool
  | some t => (t, true)
  | none => (0, false)
theorem run_append (s : Int) (l m : List Int) : run s (l ++ m) = (run s l).bind fun t => run t m := by
  induction l generalizing s with
  | nil => rfl
  | cons x xs ih =>
    simp only [List.cons_append, run]
    split
    · exact ih _
    · rfl
theorem rd_at (l : List Int) (i : Nat) (h : i < l.length) : rd l (i : Int) = l[i] := by
  unfold rd; simp [h]

theorem sum_loop (l : List Int) (hl : l.length ≤ 4611686018427387904) (hw : ∀ x ∈ l, (Lit.int .i64 x).wf = true) (d : Nat) :
    ∀ (k : Nat) (s : Int) (i : Nat), i ≤ l.length → l.length - i = d → d < k → (-9223372036854775808 ≤ s ∧ s ≤ 9223372036854775807) →
      calc_Sum.l0 k s l (l.length : Int) (i : Int) = some (told (run s (l.drop i))) := by
  induction d with
  | zero =>
    intro k s i hi hd hk hs
    obtain ⟨k, rfl⟩ : ∃ m, k = m + 1 := ⟨k - 1, by omega⟩
    obtain rfl : i = l.length := by omega
    simp only [calc_Sum.l0]
    rw [if_neg (by omega), List.drop_length]; rfl
  | succ d ih =>
    intro k s i hi hd hk hs
    obtain ⟨k, rfl⟩ : ∃ m, k = m + 1 := ⟨k - 1, by omega⟩
    have hlt : i < l.length := by omega
    have hx := wf_bd (hw l[i] (List.getElem_mem hlt))
    simp only [calc_Sum.l0]
    rw [if_pos (by omega), if_pos (by omega), if_pos (by omega), rd_at l i hlt, add_val hs hx]; simp only [Option.bind_some]
    rw [List.drop_eq_getElem_cons hlt]; simp only [run]
    by_cases hr : -9223372036854775808 ≤ s + l[i] ∧ s + l[i] ≤ 9223372036854775807
    · rw [exact_in hr, if_pos hr]; simp only [if_true]
      rw [wrap_id (x := (i : Int) + 1) (by omega) (by omega)]
      exact ih k _ (i + 1) (by omega) (by omega) (by omega) hr
    · rw [exact_out hr, if_neg hr, if_neg (by decide)]; rfl

theorem sum_val (l : List Int) (hl : l.length ≤ 4611686018427387904) (hw : ∀ x ∈ l, (Lit.int .i64 x).wf = true) (k : Nat) (hk : l.length < k) :
    calc_Sum.f k l = some (told (run 0 l)) :=
  sum_loop l hl hw l.length k 0 0 (by omega) (by omega) hk (by decide)

theorem run_bd : ∀ (l : List Int) (s t : Int), (-9223372036854775808 ≤ s ∧ s ≤ 9223372036854775807) → run s l = some t → (-9223372036854775808 ≤ t ∧ t ≤ 9223372036854775807)
  | [], s, t, hs, h => by
    simp only [run, Option.some.injEq] at h
    omega
  | x :: xs, s, t, hs, h => by
    simp only [run] at h
    split at h
    · next hr => exact run_bd xs _ _ hr h
    · cases h

/-- the law's third loop: what comes behind the first ones is added -/
theorem last_loop (m : List Int) (hm : m.length ≤ 4611686018427387904) (want : Int) (d : Nat) :
    ∀ (k : Nat) (s : Int) (i : Nat), i ≤ m.length → m.length - i = d → d < k → run s (m.drop i) = some want →
      scutagelaw01_CalcSums.l1 k m want true want s true (i : Int) = some true := by
  induction d with
  | zero =>
    intro k s i hi hd hk hr
    obtain ⟨k, rfl⟩ : ∃ m, k = m + 1 := ⟨k - 1, by omega⟩
    obtain rfl : i = m.length := by omega
    rw [List.drop_length] at hr; simp only [run, Option.some.injEq] at hr
    simp only [scutagelaw01_CalcSums.l1]
    rw [if_neg (by omega), hr]; simp
  | succ d ih =>
    intro k s i hi hd hk hr
    obtain ⟨k, rfl⟩ : ∃ m, k = m + 1 := ⟨k - 1, by omega⟩
    have hlt : i < m.length := by omega
    rw [List.drop_eq_getElem_cons hlt] at hr; simp only [run] at hr
    split at hr
    · next hb =>
      simp only [scutagelaw01_CalcSums.l1]
      rw [if_pos (by omega), if_pos (by omega), rd_at m i hlt, wrap_id (x := s + m[i]) hb.1 (by omega), wrap_id (x := (i : Int) + 1) (by omega) (by omega)]
      exact ih k _ (i + 1) (by omega) (by omega) (by omega) hr
    · cases hr

/-- the law's second loop -/
theorem want_loop (l m all : List Int) (ha : all.length ≤ 4611686018427387904) (hl : l.length ≤ 4611686018427387904) (hm : m.length ≤ 4611686018427387904) (hall : all = l ++ m)
    (hw : ∀ x ∈ all, (Lit.int .i64 x).wf = true) (d : Nat) :
    ∀ (k : Nat) (s : Int) (i : Nat), i ≤ all.length → all.length - i = d → d + l.length + m.length + 5 < k → (-9223372036854775808 ≤ s ∧ s ≤ 9223372036854775807) → run s (all.drop i) = run 0 all →
      scutagelaw01_CalcSums.l0 k l m all (told (run 0 all)).1 (told (run 0 all)).2 s true (i : Int) = some true := by
  have tail : ∀ (k : Nat) (s : Int), l.length + m.length + 3 < k → run 0 all = some s →
      scutagelaw01_CalcSums.j1 k l m (told (run 0 all)).1 (told (run 0 all)).2 s true = some true := by
    intro k s hk hr
    obtain ⟨k, rfl⟩ : ∃ m, k = m + 1 := ⟨k - 1, by omega⟩
    have hwl : ∀ x ∈ l, (Lit.int .i64 x).wf = true := fun x hx => hw x (by rw [hall]; exact List.mem_append_left _ hx)
    simp only [scutagelaw01_CalcSums.j1, if_true]
    rw [sum_val l hl hwl k (by omega), hr]; simp only [Option.bind_some]
    have hr2 := hr
    rw [hall, run_append] at hr2
    cases hf : run 0 l with
    | none => rw [hf] at hr2; cases hr2
    | some t =>
      rw [hf] at hr2
      exact last_loop m hm s m.length k t 0 (by omega) (by omega) (by omega) hr2
  induction d with
  | zero =>
    intro k s i hi hd hk hs hr
    obtain ⟨k, rfl⟩ : ∃ m, k = m + 1 := ⟨k - 1, by omega⟩
    obtain rfl : i = all.length := by omega
    rw [List.drop_length] at hr
    simp only [scutagelaw01_CalcSums.l0]
    rw [if_neg (by omega)]
    exact tail k s (by omega) hr.symm
  | succ d ih =>
    intro k s i hi hd hk hs hr
    obtain ⟨k, rfl⟩ : ∃ m, k = m + 1 := ⟨k - 1, by omega⟩
    have hlt : i < all.length := by omega
    have hx := wf_bd (hw all[i] (List.getElem_mem hlt))
    rw [List.drop_eq_getElem_cons hlt] at hr; simp only [run] at hr
    simp only [scutagelaw01_CalcSums.l0]
    rw [if_pos (by omega), if_pos trivial, if_pos (by omega), rd_at all i hlt, refadd_val hs hx]; simp only [Option.bind_some]
    rw [wrap_id (x := (i : Int) + 1) (by omega) (by omega)]
    by_cases hb : -9223372036854775808 ≤ s + all[i] ∧ s + all[i] ≤ 9223372036854775807
    · rw [exact_in hb]
      rw [if_pos hb] at hr
      exact ih k _ (i + 1) (by omega) (by omega) (by omega) hb hr
    · rw [exact_out hb]
      rw [if_neg hb] at hr
      rw [← hr]
      obtain ⟨k, rfl⟩ : ∃ m, k = m + 1 := ⟨k - 1, by omega⟩
      simp only [scutagelaw01_CalcSums.l0, told]
      obtain ⟨k, rfl⟩ : ∃ m, k = m + 1 := ⟨k - 1, by omega⟩
      split <;> simp [scutagelaw01_CalcSums.j1]

theorem alive_true (k : Nat) (hk : 9 ≤ k) : scutagelaw01_alive.f k = some true := by
  have h : scutagelaw01_alive.f 9 = some true := by decide +kernel
  obtain ⟨d, rfl⟩ : ∃ d, k = 9 + d := ⟨k - 9, by omega⟩
  clear hk
  induction d with
  | zero => exact h
  | succ d ih => exact scutagelaw01_alive.mono (9 + d) _ ih

theorem CalcSums (l m : List Int) (hl : l.length + m.length ≤ 1048576) (hwl : ∀ x ∈ l, (Lit.int .i64 x).wf = true) (hwm : ∀ x ∈ m, (Lit.int .i64 x).wf = true) :
    ∃ k, scutagelaw01_CalcSums.f k l m = some true := by
  refine ⟨2 * (l.length + m.length) + 20, ?_⟩
  unfold scutagelaw01_CalcSums.f
  rw [alive_true _ (by omega)]; simp only [Option.bind_some, if_true]
  rw [if_pos (by simp only [List.length_nil]; omega)]
  simp only [List.nil_append]
  rw [if_pos (by omega)]
  have hw : ∀ x ∈ l ++ m, (Lit.int .i64 x).wf = true := fun x hx => (List.mem_append.mp hx).elim (hwl x) (hwm x)
  rw [sum_val (l ++ m) (by rw [List.length_append]; omega) hw _ (by rw [List.length_append]; omega)]; simp only [Option.bind_some]
  exact want_loop l m (l ++ m) (by rw [List.length_append]; omega) (by omega) (by omega) rfl hw (l ++ m).length _ 0 0 (by omega) (by omega) (by rw [List.length_append]; omega) (by decide) rfl

end Go.Proofs.Ytmkmodfnpojgkaa.Pure
