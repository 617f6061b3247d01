/- Proved: plain laws of sets of small numbers as bits of words: which are in it, how many, the next one; no program in sight. -/
import Derived.Lib.TrailingZeros
namespace Go.Proofs.YtoipjmhfeggdeaaDoor.BitPure
set_option linter.unusedVariables false

/-! ### rising lists -/
theorem sorted_ext : ∀ (a b : List Int), a.Pairwise (· < ·) → b.Pairwise (· < ·) → (∀ x, x ∈ a ↔ x ∈ b) → a = b
  | [], [], _, _, _ => rfl
  | [], y :: b, _, _, h => absurd ((h y).2 (by simp)) (by simp)
  | x :: a, [], _, _, h => absurd ((h x).1 (by simp)) (by simp)
  | x :: a, y :: b, ha, hb, h => by
    rw [List.pairwise_cons] at ha hb
    have hxy : x = y := by
      have h1 := (h x).1 (by simp)
      have h2 := (h y).2 (by simp)
      rw [List.mem_cons] at h1 h2
      rcases h1 with h1 | h1
      · exact h1
      · rcases h2 with h2 | h2
        · exact h2.symm
        · have := hb.1 x h1; have := ha.1 y h2; omega
    subst hxy
    congr 1
    refine sorted_ext a b ha.2 hb.2 (fun z => ?_)
    have := h z
    rw [List.mem_cons, List.mem_cons] at this
    constructor
    · intro hz
      rcases this.1 (.inr hz) with e | e
      · subst e; have := ha.1 z hz; omega
      · exact e
    · intro hz
      rcases this.2 (.inr hz) with e | e
      · subst e; have := hb.1 z hz; omega
      · exact e

/-! ### bits -/
def wd (ws : List Nat) (k : Nat) : Nat := ws.getD k 0
def has (ws : List Nat) (i : Nat) : Bool := (wd ws (i / 64)).testBit (i % 64)
def elemsN (ws : List Nat) : List Nat := (List.range 2048).filter (has ws)
def elems (ws : List Nat) : List Int := (elemsN ws).map fun i : Nat => (i : Int)
theorem elems_sorted (ws : List Nat) : (elems ws).Pairwise (· < ·) := by
  unfold elems elemsN
  rw [List.pairwise_map]
  refine ((List.pairwise_lt_range (n := 2048)).filter (has ws)).imp ?_
  intro a b h; omega
theorem mem_elems (ws : List Nat) (x : Int) : x ∈ elems ws ↔ 0 ≤ x ∧ x < 2048 ∧ has ws x.toNat = true := by
  unfold elems elemsN
  rw [List.mem_map]
  constructor
  · rintro ⟨i, hi, rfl⟩
    rw [List.mem_filter, List.mem_range] at hi
    exact ⟨by omega, by omega, by simpa using hi.2⟩
  · rintro ⟨h1, h2, h3⟩
    exact ⟨x.toNat, by rw [List.mem_filter, List.mem_range]; exact ⟨by omega, h3⟩, by omega⟩
theorem elems_len (ws : List Nat) : (elems ws).length ≤ 2048 := by
  unfold elems elemsN
  rw [List.length_map]
  have := List.length_filter_le (has ws) (List.range 2048)
  simpa using this
def addB (ws : List Nat) (i : Nat) : List Nat := ws.set (i / 64) (wd ws (i / 64) ||| 2 ^ (i % 64))
def remB (ws : List Nat) (i : Nat) : List Nat := ws.set (i / 64) (wd ws (i / 64) &&& (18446744073709551615 - 2 ^ (i % 64)))
theorem wd_set (ws : List Nat) (k j x : Nat) (hk : k < ws.length) : wd (ws.set k x) j = if j = k then x else wd ws j := by
  unfold wd
  rw [List.getD_eq_getElem?_getD, List.getD_eq_getElem?_getD, List.getElem?_set]
  by_cases h : k = j
  · rw [if_pos h, if_pos hk, if_pos h.symm]; rfl
  · rw [if_neg h, if_neg (Ne.symm h)]
theorem has_add (ws : List Nat) (i j : Nat) (hi : i / 64 < ws.length) : has (addB ws i) j = (has ws j || decide (j = i)) := by
  unfold has addB
  rw [wd_set ws _ _ _ hi]
  by_cases h : j / 64 = i / 64
  · rw [if_pos h, Nat.testBit_or, Nat.testBit_two_pow, h]
    congr 1
    by_cases e : i % 64 = j % 64
    · rw [decide_eq_true e, decide_eq_true (by omega)]
    · rw [decide_eq_false e, decide_eq_false (by omega)]
  · rw [if_neg h, decide_eq_false (by intro e; rw [e] at h; exact h rfl), Bool.or_false]
theorem mask_bit (a k : Nat) (hk : k < 64) : (18446744073709551615 - 2 ^ a).testBit k = (decide (a < 64) && decide (k ≠ a) || decide (64 ≤ a) && (18446744073709551615 - 2 ^ a).testBit k) := by
  by_cases ha : a < 64
  · rw [decide_eq_true ha, decide_eq_false (show ¬ 64 ≤ a by omega)]
    have key : ∀ a, a < 64 → ∀ k, k < 64 → (18446744073709551615 - 2 ^ a).testBit k = decide (k ≠ a) := by decide +kernel
    rw [key a ha k hk]
    simp
  · rw [decide_eq_false ha, decide_eq_true (show 64 ≤ a by omega)]
    simp
theorem has_rem (ws : List Nat) (i j : Nat) (hi : i / 64 < ws.length) : has (remB ws i) j = (has ws j && decide (j ≠ i)) := by
  unfold has remB
  rw [wd_set ws _ _ _ hi]
  by_cases h : j / 64 = i / 64
  · have h1 : i % 64 < 64 := Nat.mod_lt _ (by decide)
    rw [if_pos h, Nat.testBit_and, mask_bit _ _ (Nat.mod_lt _ (by decide)), decide_eq_true h1, decide_eq_false (show ¬ 64 ≤ i % 64 by omega), h]
    simp only [Bool.true_and, Bool.false_and, Bool.or_false]
    congr 1
    by_cases e : j % 64 = i % 64
    · rw [decide_eq_false (by simpa using e), decide_eq_false (by simp; omega)]
    · rw [decide_eq_true e, decide_eq_true (by intro e2; rw [e2] at e; exact e rfl)]
  · rw [if_neg h, decide_eq_true (by intro e; rw [e] at h; exact h rfl), Bool.and_true]
structure Words (ws : List Nat) : Prop where
  len : ws.length = 32
  lt : ∀ k, wd ws k < 18446744073709551616
theorem Words.new : Words (List.replicate 32 0) := ⟨by simp, fun k => by unfold wd; rw [List.getD_eq_getElem?_getD, List.getElem?_replicate]; split <;> decide⟩
theorem Words.set {ws : List Nat} (h : Words ws) (k x : Nat) (hk : k < 32) (hx : x < 18446744073709551616) : Words (ws.set k x) :=
  ⟨by rw [List.length_set]; exact h.len, fun j => by rw [wd_set ws k j x (by rw [h.len]; exact hk)]; split; exact hx; exact h.lt j⟩
theorem pow_lt (i : Nat) : 2 ^ (i % 64) < 18446744073709551616 := by
  have : ∀ j, j < 64 → 2 ^ j < 18446744073709551616 := by decide
  exact this _ (Nat.mod_lt _ (by decide))
theorem Words.add {ws : List Nat} (h : Words ws) (i : Nat) (hi : i < 2048) : Words (addB ws i) :=
  h.set _ _ (by omega) (Nat.or_lt_two_pow (n := 64) (h.lt _) (pow_lt i))
theorem Words.rem {ws : List Nat} (h : Words ws) (i : Nat) (hi : i < 2048) : Words (remB ws i) :=
  h.set _ _ (by omega) (Nat.lt_of_le_of_lt Nat.and_le_left (h.lt _))
theorem new_elems : elems (List.replicate 32 0) = [] := by
  have : ∀ x, ¬ x ∈ elems (List.replicate 32 0) := fun x hx => by
    have h := ((mem_elems _ x).1 hx).2.2
    unfold has wd at h
    rw [List.getD_eq_getElem?_getD, List.getElem?_replicate] at h
    split at h <;> simp at h
  exact List.eq_nil_iff_forall_not_mem.2 this

/-! ### the next one -/
def low (w : Nat) : Nat := Lib.ctz 64 w
theorem low_bit (w : Nat) (h0 : w ≠ 0) (hw : w < 18446744073709551616) : low w < 64 ∧ w.testBit (low w) = true ∧ ∀ j, j < low w → w.testBit j = false := by
  obtain ⟨m, hm, hc⟩ := Lib.ctzFrom_spec 64 w (by omega) hw
  have e : low w = Lib.ctzFrom 64 w := by unfold low Lib.ctz; rw [if_neg h0]
  rw [e]
  obtain ⟨c, hcc⟩ : ∃ c, c = Lib.ctzFrom 64 w := ⟨_, rfl⟩
  rw [← hcc] at hm hc ⊢
  clear hcc e h0 hw
  subst hm
  refine ⟨hc, ?_, fun j hj => ?_⟩
  · rw [Nat.testBit_two_pow_mul, Nat.sub_self]
    simp
  · rw [Nat.testBit_two_pow_mul, decide_eq_false (by omega)]
    rfl
/-- the least of a set from i on -/
def nxt (ws : List Nat) (i : Nat) : Int := match (List.range' i (2048 - i)).find? (has ws) with | some j => (j : Int) | none => -1
theorem nxt_some (ws : List Nat) (i j : Nat) (hij : i ≤ j) (hj : j < 2048) (h : has ws j = true) (hl : ∀ k, i ≤ k → k < j → has ws k = false) : nxt ws i = (j : Int) := by
  unfold nxt
  have e : List.range' i (2048 - i) = List.range' i (j - i) ++ List.range' j (2048 - j) := by
    rw [show 2048 - i = (j - i) + (2048 - j) by omega, ← List.range'_append]
    congr 2; omega
  rw [e, List.find?_append, List.find?_eq_none.2 (fun k hk => by rw [List.mem_range'_1] at hk; simp [hl k (by omega) (by omega)]), Option.none_or, show 2048 - j = (2047 - j) + 1 by omega, List.range'_succ, List.find?_cons_of_pos h]
theorem nxt_none (ws : List Nat) (i : Nat) (hl : ∀ k, i ≤ k → k < 2048 → has ws k = false) : nxt ws i = -1 := by
  unfold nxt
  rw [List.find?_eq_none.2 (fun k hk => by rw [List.mem_range'_1] at hk; simp [hl k (by omega) (by omega)])]
theorem nxt_cases (ws : List Nat) (i : Nat) : (nxt ws i = -1 ∧ ∀ k, i ≤ k → k < 2048 → has ws k = false) ∨ ∃ j : Nat, nxt ws i = (j : Int) ∧ i ≤ j ∧ j < 2048 ∧ has ws j = true ∧ ∀ k, i ≤ k → k < j → has ws k = false := by
  by_cases h : ∃ j, i ≤ j ∧ j < 2048 ∧ has ws j = true
  · have h2 : ∃ j, i ≤ j ∧ j < 2048 ∧ has ws j = true ∧ ∀ k, i ≤ k → k < j → has ws k = false := by
      obtain ⟨j, hj⟩ := h
      induction j using Nat.strongRecOn with
      | ind j ih =>
        by_cases hk : ∃ k, i ≤ k ∧ k < j ∧ has ws k = true
        · obtain ⟨k, h1, h2, h3⟩ := hk
          exact ih k h2 ⟨h1, by omega, h3⟩
        · refine ⟨j, hj.1, hj.2.1, hj.2.2, fun k h1 h2 => ?_⟩
          cases hh : has ws k with
          | false => rfl
          | true => exact absurd ⟨k, h1, h2, hh⟩ hk
    obtain ⟨j, h1, h2, h3, h4⟩ := h2
    exact .inr ⟨j, nxt_some ws i j h1 h2 h3 h4, h1, h2, h3, h4⟩
  · have hl : ∀ k, i ≤ k → k < 2048 → has ws k = false := fun k h1 h2 => by
      cases hh : has ws k with
      | false => rfl
      | true => exact absurd ⟨k, h1, h2, hh⟩ h
    exact .inl ⟨nxt_none ws i hl, hl⟩
/-- those from i on -/
def from_ (ws : List Nat) (i : Nat) : List Int := ((List.range' i (2048 - i)).filter (has ws)).map fun k : Nat => (k : Int)
theorem from_zero (ws : List Nat) : from_ ws 0 = elems ws := by unfold from_ elems elemsN; rw [List.range_eq_range']
theorem from_next (ws : List Nat) (i j : Nat) (h1 : i ≤ j) (h2 : j < 2048) (h3 : has ws j = true) (h4 : ∀ k, i ≤ k → k < j → has ws k = false) : from_ ws i = (j : Int) :: from_ ws (j + 1) := by
  unfold from_
  have e : List.range' i (2048 - i) = List.range' i (j - i) ++ List.range' j (2048 - j) := by
    rw [show 2048 - i = (j - i) + (2048 - j) by omega, ← List.range'_append]
    congr 2; omega
  rw [e, List.filter_append, List.filter_eq_nil_iff.2 (fun k hk => by rw [List.mem_range'_1] at hk; simp [h4 k (by omega) (by omega)]), List.nil_append, show 2048 - j = (2048 - (j + 1)) + 1 by omega, List.range'_succ, List.filter_cons_of_pos h3]
  rfl
theorem from_none (ws : List Nat) (i : Nat) (hl : ∀ k, i ≤ k → k < 2048 → has ws k = false) : from_ ws i = [] := by
  unfold from_
  rw [List.filter_eq_nil_iff.2 (fun k hk => by rw [List.mem_range'_1] at hk; simp [hl k (by omega) (by omega)])]
  rfl
/-- a word, but for its first bits -/
def cutLow (w s : Nat) : Nat := w / 2 ^ s * 2 ^ s
theorem cut_bit (w s j : Nat) : (cutLow w s).testBit j = (decide (s ≤ j) && w.testBit j) := by
  unfold cutLow
  rw [Nat.mul_comm, Nat.testBit_two_pow_mul]
  by_cases h : s ≤ j
  · rw [decide_eq_true (show j ≥ s from h), Nat.testBit_div_two_pow]
    congr 2; omega
  · rw [decide_eq_false (show ¬ j ≥ s from h)]; rfl
theorem cut_le (w s : Nat) : cutLow w s ≤ w := Nat.div_mul_le_self _ _

/-! ### how many -/
def pcnt (w : Nat) : Nat := ((List.range 64).filter w.testBit).length
def upto (ws : List Nat) (k : Nat) : Nat := ((List.range (64 * k)).filter (has ws)).length
theorem upto_succ (ws : List Nat) (k : Nat) : upto ws (k + 1) = upto ws k + pcnt (wd ws k) := by
  unfold upto pcnt
  rw [show 64 * (k + 1) = 64 * k + 64 by omega, List.range_add, List.filter_append, List.length_append, List.filter_map, List.length_map]
  congr 2
  apply List.filter_congr
  intro j hj
  rw [List.mem_range] at hj
  unfold has
  simp only [Function.comp]
  rw [show (64 * k + j) / 64 = k by omega, show (64 * k + j) % 64 = j by omega]
theorem upto_all (ws : List Nat) : upto ws 32 = (elems ws).length := by unfold upto elems elemsN; rw [List.length_map]
theorem upto_le (ws : List Nat) (k : Nat) (hk : k ≤ 32) : upto ws k ≤ 2048 := by
  unfold upto
  have := List.length_filter_le (has ws) (List.range (64 * k))
  simp at this; omega
theorem pcnt_le (w : Nat) : pcnt w ≤ 64 := by
  unfold pcnt
  have := List.length_filter_le w.testBit (List.range 64)
  simpa using this
/-- byte by byte -/
def bm (f : Nat → Nat) : Nat → Nat → Nat
  | 0, _ => 0
  | n + 1, x => f (x % 256) + 256 * bm f n (x / 256)
def rep (c : Nat) : Nat → Nat
  | 0 => 0
  | n + 1 => c + 256 * rep c n
theorem and_split (p q c d : Nat) (hp : p < 256) (hc : c < 256) : (p + 256 * q) &&& (c + 256 * d) = (p &&& c) + 256 * (q &&& d) := by
  have h1 : ((p + 256 * q) &&& (c + 256 * d)) % 2 ^ 8 = p &&& c := by
    rw [Nat.and_mod_two_pow, show (p + 256 * q) % 2 ^ 8 = p by omega, show (c + 256 * d) % 2 ^ 8 = c by omega]
  have h2 : ((p + 256 * q) &&& (c + 256 * d)) / 2 ^ 8 = q &&& d := by
    rw [Nat.and_div_two_pow, show (p + 256 * q) / 2 ^ 8 = q by omega, show (c + 256 * d) / 2 ^ 8 = d by omega]
  have h3 := Nat.div_add_mod ((p + 256 * q) &&& (c + 256 * d)) (2 ^ 8)
  rw [h1, h2] at h3
  omega
def f1 (b : Nat) : Nat := ((b / 2) &&& 85) + (b &&& 85)
def f2 (b : Nat) : Nat := ((b / 4) &&& 51) + (b &&& 51)
def f3 (b : Nat) : Nat := (b / 16 + b) &&& 15
theorem step1 (n : Nat) : ∀ x, ((x / 2) &&& rep 85 n) + (x &&& rep 85 n) = bm f1 n x := by
  induction n with
  | zero => intro x; simp [rep, bm]
  | succ n ih =>
    intro x
    have key : ∀ b, b < 256 → ∀ e, e < 2 → (b / 2 + 128 * e) &&& 85 = (b / 2) &&& 85 := by decide +kernel
    have h1 : x = x % 256 + 256 * (x / 256) := by omega
    have h2 : x / 2 = (x % 256 / 2 + 128 * (x / 256 % 2)) + 256 * (x / 256 / 2) := by omega
    have e1 : (x / 2) &&& rep 85 (n + 1) = ((x % 256 / 2) &&& 85) + 256 * ((x / 256 / 2) &&& rep 85 n) := by
      rw [rep, h2, and_split _ _ _ _ (by omega) (by decide), key _ (Nat.mod_lt _ (by decide)) _ (Nat.mod_lt _ (by decide))]
    have e2 : x &&& rep 85 (n + 1) = ((x % 256) &&& 85) + 256 * ((x / 256) &&& rep 85 n) := by
      rw [rep]
      conv => lhs; rw [h1]
      exact and_split _ _ _ _ (Nat.mod_lt _ (by decide)) (by decide)
    rw [e1, e2, bm, ← ih (x / 256), f1]
    omega
theorem step2 (n : Nat) : ∀ x, ((x / 4) &&& rep 51 n) + (x &&& rep 51 n) = bm f2 n x := by
  induction n with
  | zero => intro x; simp [rep, bm]
  | succ n ih =>
    intro x
    have key : ∀ b, b < 256 → ∀ e, e < 4 → (b / 4 + 64 * e) &&& 51 = (b / 4) &&& 51 := by decide +kernel
    have h1 : x = x % 256 + 256 * (x / 256) := by omega
    have h2 : x / 4 = (x % 256 / 4 + 64 * (x / 256 % 4)) + 256 * (x / 256 / 4) := by omega
    have e1 : (x / 4) &&& rep 51 (n + 1) = ((x % 256 / 4) &&& 51) + 256 * ((x / 256 / 4) &&& rep 51 n) := by
      rw [rep, h2, and_split _ _ _ _ (by omega) (by decide), key _ (Nat.mod_lt _ (by decide)) _ (Nat.mod_lt _ (by decide))]
    have e2 : x &&& rep 51 (n + 1) = ((x % 256) &&& 51) + 256 * ((x / 256) &&& rep 51 n) := by
      rw [rep]
      conv => lhs; rw [h1]
      exact and_split _ _ _ _ (Nat.mod_lt _ (by decide)) (by decide)
    rw [e1, e2, bm, ← ih (x / 256), f2]
    omega
theorem bm_comp (f g : Nat → Nat) (hf : ∀ b, b < 256 → f b < 256) (n : Nat) : ∀ x, bm g n (bm f n x) = bm (fun b => g (f b)) n x := by
  induction n with
  | zero => intro x; rfl
  | succ n ih =>
    intro x
    have h := hf (x % 256) (Nat.mod_lt _ (by decide))
    simp only [bm]
    rw [show (f (x % 256) + 256 * bm f n (x / 256)) % 256 = f (x % 256) by omega, show (f (x % 256) + 256 * bm f n (x / 256)) / 256 = bm f n (x / 256) by omega, ih]
theorem f1_lt : ∀ b, b < 256 → f1 b < 256 := by decide +kernel
theorem f21_le : ∀ b, b < 256 → f2 (f1 b) ≤ 68 ∧ f2 (f1 b) % 16 ≤ 4 := by decide +kernel
theorem step3 (n : Nat) : ∀ x, ((bm (fun b => f2 (f1 b)) n x / 16) + bm (fun b => f2 (f1 b)) n x) &&& rep 15 n = bm (fun b => f3 (f2 (f1 b))) n x := by
  induction n with
  | zero => intro x; simp [rep, bm]
  | succ n ih =>
    intro x
    have h := f21_le (x % 256) (Nat.mod_lt _ (by decide))
    have hh : bm (fun b => f2 (f1 b)) n (x / 256) % 16 ≤ 4 := by
      cases n with
      | zero => simp [bm]
      | succ n =>
        have := f21_le (x / 256 % 256) (Nat.mod_lt _ (by decide))
        simp only [bm]; omega
    have key : ∀ q, q ≤ 68 → ∀ e, e ≤ 4 → (q / 16 + 16 * e + q) &&& 15 = (q / 16 + q) &&& 15 := by decide +kernel
    have ih' := ih (x / 256)
    simp only [bm]
    obtain ⟨t, ht⟩ : ∃ t, t = bm (fun b => f2 (f1 b)) n (x / 256) := ⟨_, rfl⟩
    rw [← ht] at hh ih' ⊢
    obtain ⟨q, hq⟩ : ∃ q, q = f2 (f1 (x % 256)) := ⟨_, rfl⟩
    rw [← hq] at h ⊢
    rw [← ih', show (q + 256 * t) / 16 + (q + 256 * t) = (q / 16 + 16 * (t % 16) + q) + 256 * (t / 16 + t) by omega, rep, and_split _ _ _ _ (by omega) (by decide), key q h.1 _ hh, f3]
def pc8 (b : Nat) : Nat := ((List.range 8).filter b.testBit).length
theorem pc8_eq : ∀ b, b < 256 → f3 (f2 (f1 b)) = pc8 b := by decide +kernel
theorem pc8_le (b : Nat) : pc8 b ≤ 8 := by
  unfold pc8
  have := List.length_filter_le b.testBit (List.range 8)
  simpa using this
theorem bm_pc (n : Nat) : ∀ x, bm (fun b => f3 (f2 (f1 b))) n x = bm pc8 n x := by
  induction n with
  | zero => intro x; rfl
  | succ n ih => intro x; simp only [bm]; rw [pc8_eq _ (Nat.mod_lt _ (by decide)), ih]
def dsum : Nat → Nat → Nat
  | 0, _ => 0
  | n + 1, x => pc8 (x % 256) + dsum n (x / 256)
theorem count_dsum (n : Nat) : ∀ x, ((List.range (8 * n)).filter x.testBit).length = dsum n x := by
  induction n with
  | zero => intro x; rfl
  | succ n ih =>
    intro x
    rw [show 8 * (n + 1) = 8 + 8 * n by omega, List.range_add, List.filter_append, List.length_append, List.filter_map, List.length_map, dsum, ← ih (x / 256)]
    congr 1
    · unfold pc8
      congr 1
      apply List.filter_congr
      intro j hj
      rw [List.mem_range] at hj
      rw [show (256 : Nat) = 2 ^ 8 from rfl, Nat.testBit_mod_two_pow, decide_eq_true hj, Bool.true_and]
    · congr 1
      apply List.filter_congr
      intro j _
      simp only [Function.comp]
      rw [show (256 : Nat) = 2 ^ 8 from rfl, Nat.testBit_div_two_pow, Nat.add_comm]
theorem div_of (a b k z : Nat) (hk : 0 < k) (h : a < k) (hz : z = a + k * b) : z / k = b := by
  rw [hz, Nat.add_mul_div_left _ _ hk, Nat.div_eq_of_lt h, Nat.zero_add]
theorem lin4 (d0 d1 d2 d3 d4 d5 d6 d7 : Nat) : (d0 + 256 * (d1 + 256 * (d2 + 256 * (d3 + 256 * (d4 + 256 * (d5 + 256 * (d6 + 256 * d7))))))) + (d1 + 256 * (d2 + 256 * (d3 + 256 * (d4 + 256 * (d5 + 256 * (d6 + 256 * d7)))))) = (d0 + d1 + 256 * (d1 + d2)) + 65536 * ((d2 + d3) + 256 * ((d3 + d4) + 256 * ((d4 + d5) + 256 * ((d5 + d6) + 256 * ((d6 + d7) + 256 * d7))))) := by omega
theorem lin5 (d0 d1 d2 d3 d4 d5 d6 d7 : Nat) : ((d0 + d1 + 256 * (d1 + d2)) + 65536 * ((d2 + d3) + 256 * ((d3 + d4) + 256 * ((d4 + d5) + 256 * ((d5 + d6) + 256 * ((d6 + d7) + 256 * d7)))))) + ((d2 + d3) + 256 * ((d3 + d4) + 256 * ((d4 + d5) + 256 * ((d5 + d6) + 256 * ((d6 + d7) + 256 * d7))))) = (d0 + d1 + d2 + d3 + 256 * (d1 + d2 + d3 + d4) + 65536 * (d2 + d3 + d4 + d5) + 16777216 * (d3 + d4 + d5 + d6)) + 4294967296 * ((d4 + d5 + d6 + d7) + 256 * ((d5 + d6 + d7) + 256 * ((d6 + d7) + 256 * d7))) := by omega
theorem lin6 (d0 d1 d2 d3 d4 d5 d6 d7 : Nat) : ((d0 + d1 + d2 + d3 + 256 * (d1 + d2 + d3 + d4) + 65536 * (d2 + d3 + d4 + d5) + 16777216 * (d3 + d4 + d5 + d6)) + 4294967296 * ((d4 + d5 + d6 + d7) + 256 * ((d5 + d6 + d7) + 256 * ((d6 + d7) + 256 * d7)))) + ((d4 + d5 + d6 + d7) + 256 * ((d5 + d6 + d7) + 256 * ((d6 + d7) + 256 * d7))) = (d0 + d1 + d2 + d3 + d4 + d5 + d6 + d7) + 128 * (2 * ((d1 + d2 + d3 + d4 + d5 + d6 + d7) + 256 * (d2 + d3 + d4 + d5 + d6 + d7) + 65536 * (d3 + d4 + d5 + d6 + d7) + 16777216 * (d4 + d5 + d6 + d7) + 4294967296 * ((d5 + d6 + d7) + 256 * ((d6 + d7) + 256 * d7)))) := by omega
theorem le_z (d0 d1 d2 d3 d4 d5 d6 d7 : Nat) (h0 : d0 ≤ 8) (h1 : d1 ≤ 8) (h2 : d2 ≤ 8) (h3 : d3 ≤ 8) (h4 : d4 ≤ 8) (h5 : d5 ≤ 8) (h6 : d6 ≤ 8) (h7 : d7 ≤ 8) : d0 + 256 * (d1 + 256 * (d2 + 256 * (d3 + 256 * (d4 + 256 * (d5 + 256 * (d6 + 256 * d7)))))) ≤ 578721382704613384 := by omega
theorem le_4 (d0 d1 d2 d3 d4 d5 d6 d7 : Nat) (h0 : d0 ≤ 8) (h1 : d1 ≤ 8) (h2 : d2 ≤ 8) (h3 : d3 ≤ 8) (h4 : d4 ≤ 8) (h5 : d5 ≤ 8) (h6 : d6 ≤ 8) (h7 : d7 ≤ 8) : (d0 + d1 + 256 * (d1 + d2)) + 65536 * ((d2 + d3) + 256 * ((d3 + d4) + 256 * ((d4 + d5) + 256 * ((d5 + d6) + 256 * ((d6 + d7) + 256 * d7))))) ≤ 1157442765409226768 := by omega
theorem le_5 (d0 d1 d2 d3 d4 d5 d6 d7 : Nat) (h0 : d0 ≤ 8) (h1 : d1 ≤ 8) (h2 : d2 ≤ 8) (h3 : d3 ≤ 8) (h4 : d4 ≤ 8) (h5 : d5 ≤ 8) (h6 : d6 ≤ 8) (h7 : d7 ≤ 8) : (d0 + d1 + d2 + d3 + 256 * (d1 + d2 + d3 + d4) + 65536 * (d2 + d3 + d4 + d5) + 16777216 * (d3 + d4 + d5 + d6)) + 4294967296 * ((d4 + d5 + d6 + d7) + 256 * ((d5 + d6 + d7) + 256 * ((d6 + d7) + 256 * d7))) ≤ 2314885530818453536 := by omega
theorem le_6 (d0 d1 d2 d3 d4 d5 d6 d7 : Nat) (h0 : d0 ≤ 8) (h1 : d1 ≤ 8) (h2 : d2 ≤ 8) (h3 : d3 ≤ 8) (h4 : d4 ≤ 8) (h5 : d5 ≤ 8) (h6 : d6 ≤ 8) (h7 : d7 ≤ 8) : (d0 + d1 + d2 + d3 + d4 + d5 + d6 + d7) + 128 * (2 * ((d1 + d2 + d3 + d4 + d5 + d6 + d7) + 256 * (d2 + d3 + d4 + d5 + d6 + d7) + 65536 * (d3 + d4 + d5 + d6 + d7) + 16777216 * (d4 + d5 + d6 + d7) + 4294967296 * ((d5 + d6 + d7) + 256 * ((d6 + d7) + 256 * d7)))) ≤ 4629771061636907072 := by omega
theorem lt_4 (d0 d1 d2 d3 d4 d5 d6 d7 : Nat) (h0 : d0 ≤ 8) (h1 : d1 ≤ 8) (h2 : d2 ≤ 8) (h3 : d3 ≤ 8) (h4 : d4 ≤ 8) (h5 : d5 ≤ 8) (h6 : d6 ≤ 8) (h7 : d7 ≤ 8) : d0 + d1 + 256 * (d1 + d2) < 65536 := by omega
theorem lt_5 (d0 d1 d2 d3 d4 d5 d6 d7 : Nat) (h0 : d0 ≤ 8) (h1 : d1 ≤ 8) (h2 : d2 ≤ 8) (h3 : d3 ≤ 8) (h4 : d4 ≤ 8) (h5 : d5 ≤ 8) (h6 : d6 ≤ 8) (h7 : d7 ≤ 8) : d0 + d1 + d2 + d3 + 256 * (d1 + d2 + d3 + d4) + 65536 * (d2 + d3 + d4 + d5) + 16777216 * (d3 + d4 + d5 + d6) < 4294967296 := by omega
theorem fold_sum (d0 d1 d2 d3 d4 d5 d6 d7 z y4 y5 y6 : Nat) (h0 : d0 ≤ 8) (h1 : d1 ≤ 8) (h2 : d2 ≤ 8) (h3 : d3 ≤ 8) (h4 : d4 ≤ 8) (h5 : d5 ≤ 8) (h6 : d6 ≤ 8) (h7 : d7 ≤ 8)
    (hz : z = d0 + 256 * (d1 + 256 * (d2 + 256 * (d3 + 256 * (d4 + 256 * (d5 + 256 * (d6 + 256 * d7)))))))
    (e4 : y4 = z + z / 256) (e5 : y5 = y4 + y4 / 65536) (e6 : y6 = y5 + y5 / 4294967296) :
    z ≤ 578721382704613384 ∧ y4 ≤ 1157442765409226768 ∧ y5 ≤ 2314885530818453536 ∧ y6 ≤ 4629771061636907072 ∧ y6 % 128 = d0 + d1 + d2 + d3 + d4 + d5 + d6 + d7 := by
  have a := div_of d0 (d1 + 256 * (d2 + 256 * (d3 + 256 * (d4 + 256 * (d5 + 256 * (d6 + 256 * d7)))))) 256 z (by decide) (Nat.lt_of_le_of_lt h0 (by decide)) hz
  rw [a, hz, lin4] at e4
  have b := div_of _ _ 65536 y4 (by decide) (lt_4 d0 d1 d2 d3 d4 d5 d6 d7 h0 h1 h2 h3 h4 h5 h6 h7) e4
  rw [b, e4, lin5] at e5
  have c := div_of _ _ 4294967296 y5 (by decide) (lt_5 d0 d1 d2 d3 d4 d5 d6 d7 h0 h1 h2 h3 h4 h5 h6 h7) e5
  rw [c, e5, lin6] at e6
  refine ⟨by rw [hz]; exact le_z _ _ _ _ _ _ _ _ h0 h1 h2 h3 h4 h5 h6 h7, by rw [e4]; exact le_4 _ _ _ _ _ _ _ _ h0 h1 h2 h3 h4 h5 h6 h7, by rw [e5]; exact le_5 _ _ _ _ _ _ _ _ h0 h1 h2 h3 h4 h5 h6 h7, by rw [e6]; exact le_6 _ _ _ _ _ _ _ _ h0 h1 h2 h3 h4 h5 h6 h7, ?_⟩
  rw [e6, Nat.add_mul_mod_self_left, Nat.mod_eq_of_lt]
  clear a b c e4 e5 e6 hz
  omega
theorem rep85 : rep 85 8 = 6148914691236517205 := by decide
theorem rep51 : rep 51 8 = 3689348814741910323 := by decide
theorem rep15 : rep 15 8 = 1085102592571150095 := by decide
theorem bm_lt (f : Nat → Nat) (hf : ∀ b, b < 256 → f b < 256) (n : Nat) : ∀ x, bm f n x < 256 ^ n := by
  induction n with
  | zero => intro x; simp [bm]
  | succ n ih =>
    intro x
    have h1 := ih (x / 256)
    have h2 := hf (x % 256) (Nat.mod_lt _ (by decide))
    rw [bm, Nat.pow_succ]
    omega
/-- how the library counts the bits of a word -/
theorem ones (x x1 x2 x3 x4 x5 x6 : Nat) (e1 : x1 = ((x / 2) &&& 6148914691236517205) + (x &&& 6148914691236517205)) (e2 : x2 = ((x1 / 4) &&& 3689348814741910323) + (x1 &&& 3689348814741910323))
    (e3 : x3 = (x2 / 16 + x2) &&& 1085102592571150095) (e4 : x4 = x3 + x3 / 256) (e5 : x5 = x4 + x4 / 65536) (e6 : x6 = x5 + x5 / 4294967296) :
    x1 < 18446744073709551616 ∧ x2 ≤ 4919131752989213764 ∧ x3 < 18446744073709551616 ∧ x4 < 18446744073709551616 ∧ x5 < 18446744073709551616 ∧ x6 < 9223372036854775808 ∧ x6 % 128 = pcnt x := by
  rw [← rep85, step1] at e1
  rw [← rep51, e1, step2, bm_comp f1 f2 f1_lt] at e2
  rw [← rep15, e2, step3, bm_pc] at e3
  have l1 : x1 < 256 ^ 8 := by rw [e1]; exact bm_lt f1 f1_lt 8 x
  have l2 : x2 ≤ 4919131752989213764 := by
    rw [e2]
    have key : ∀ n y, bm (fun b => f2 (f1 b)) n y ≤ rep 68 n := by
      intro n
      induction n with
      | zero => intro y; simp [bm, rep]
      | succ n ih => intro y; have := ih (y / 256); have := (f21_le (y % 256) (Nat.mod_lt _ (by decide))).1; simp only [bm, rep]; omega
    exact key 8 x
  have hd : dsum 8 x = pcnt x := by rw [← count_dsum]; rfl
  have hb : ∀ b, pc8 b ≤ 8 := pc8_le
  simp only [dsum] at hd
  simp only [bm, Nat.mul_zero, Nat.add_zero] at e3
  obtain ⟨q1, q2, q3, q4, q5⟩ := fold_sum _ _ _ _ _ _ _ _ x3 x4 x5 x6 (hb _) (hb _) (hb _) (hb _) (hb _) (hb _) (hb _) (hb _) e3 e4 e5 e6
  exact ⟨l1, l2, Nat.lt_of_le_of_lt q1 (by decide), Nat.lt_of_le_of_lt q2 (by decide), Nat.lt_of_le_of_lt q3 (by decide), Nat.lt_of_le_of_lt q4 (by decide), by rw [q5, ← hd]; simp only [Nat.add_zero, Nat.add_assoc]⟩
end Go.Proofs.YtoipjmhfeggdeaaDoor.BitPure
