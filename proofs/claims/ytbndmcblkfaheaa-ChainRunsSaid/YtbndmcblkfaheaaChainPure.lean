/- Proved: plain laws on chains of cells in a list of words; no program in sight. -/
import Derived.Test.YtbndmcblkfaheaaChainAlive
namespace Go.Proofs.Ytbndmcblkfaheaa.Chain
open Go.RowKit Go.Proofs.Ytbndmcblkfaheaa.H Go.Proofs.Ytbndmcblkfaheaa.Words Go.Proofs.Ytbndmcblkfaheaa.Mem
set_option linter.unusedVariables false
set_option linter.unusedSimpArgs false

theorem fillL_at (l : List Int) (a n : Nat) (x : Int) (h : a + n ≤ l.length) (i : Nat) : (fillL l a n x)[i]? = if a ≤ i ∧ i < a + n then some x else l[i]? := by
  unfold fillL
  by_cases h1 : i < a
  · rw [if_neg (by omega), List.append_assoc, List.getElem?_append_left (by simp; omega), List.getElem?_take, if_pos h1]
  by_cases h2 : i < a + n
  · rw [if_pos ⟨by omega, h2⟩, List.getElem?_append_left (by simp; omega), List.getElem?_append_right (by simp; omega), List.getElem?_replicate, if_pos (by simp; omega)]
  · rw [if_neg (by omega), List.getElem?_append_right (by simp; omega), List.getElem?_drop]
    congr 1
    simp
    omega

theorem sz_lit (k : Int) (h : 0 < nc k) : (sz k = 2 ∧ nc k = 16) ∨ (sz k = 4 ∧ nc k = 8) ∨ (sz k = 8 ∧ nc k = 4) ∨ (sz k = 16 ∧ nc k = 2) := by
  rcases kind_of h with rfl | rfl | rfl | rfl
  · exact .inl ⟨by decide, by decide⟩
  · exact .inr (.inl ⟨by decide, by decide⟩)
  · exact .inr (.inr (.inl ⟨by decide, by decide⟩))
  · exact .inr (.inr (.inr ⟨by decide, by decide⟩))

theorem bl_at (l : List Int) (p : Nat) (k : Int) (hl : 32 * p + 32 ≤ l.length) (hk : 0 < nc k) (j : Nat) (hj : j ≤ nc k) (i : Nat) :
    (bl l p k j)[i]? = if i / 32 = p then some (if i % sz k = 0 ∧ i % 32 / sz k < j then -2 - ((i % 32 / sz k : Nat) : Int) else 0) else l[i]? := by
  induction j with
  | zero =>
    unfold bl
    rw [List.range_zero, List.foldl_nil, fillL_at _ _ _ _ (by omega)]
    by_cases h : i / 32 = p
    · rw [if_pos h, if_pos (by omega), if_neg (fun h2 => Nat.not_lt_zero _ h2.2)]
    · rw [if_neg h, if_neg (by omega)]
  | succ j ih =>
    have ih := ih (by omega)
    rw [bl_succ, List.getElem?_set]
    have hlen := bl_length l p k j hl
    by_cases e : 32 * p + j * sz k = i
    · have hc := cell_in (show j < nc k by omega)
      rw [if_pos e, if_pos (by omega)]
      rcases sz_lit k hk with ⟨h1, h2⟩ | ⟨h1, h2⟩ | ⟨h1, h2⟩ | ⟨h1, h2⟩ <;> rw [h1] at e hc ⊢ <;> rw [h2] at hj <;> rw [if_pos (by omega), if_pos (by omega)] <;> congr 1 <;> omega
    · rw [if_neg e, ih]
      by_cases h : i / 32 = p
      · rw [if_pos h, if_pos h]
        congr 1
        rcases sz_lit k hk with ⟨h1, h2⟩ | ⟨h1, h2⟩ | ⟨h1, h2⟩ | ⟨h1, h2⟩ <;> rw [h1] at e ⊢ <;> rw [h2] at hj <;> (split <;> split) <;> first | rfl | omega
      · rw [if_neg h, if_neg h]

theorem lk_of {l : List Int} {p : Nat} {k : Int} {i : Nat} {x : Int} (h : l[32 * p + i * sz k]? = some x) (h1 : x < 0) (h2 : -1 - (nc k : Int) ≤ x) : lk l p k i = some (-1 - x) := by
  unfold lk
  rw [h]
  dsimp only
  rw [if_neg (by omega)]

theorem lk_built (l : List Int) (p : Nat) (k : Int) (hl : 32 * p + 32 ≤ l.length) (i : Nat) (hi : i < nc k) : lk (bl l p k (nc k)) p k i = some ((i : Int) + 1) := by
  have hk : 0 < nc k := by omega
  have h := bl_at l p k hl hk (nc k) (Nat.le_refl _) (32 * p + i * sz k)
  have hc := cell_in hi
  have e : (32 * p + i * sz k) / 32 = p ∧ (32 * p + i * sz k) % sz k = 0 ∧ (32 * p + i * sz k) % 32 / sz k = i := by
    rcases sz_lit k hk with ⟨h1, h2⟩ | ⟨h1, h2⟩ | ⟨h1, h2⟩ | ⟨h1, h2⟩ <;> rw [h1] at hc ⊢ <;> omega
  rw [if_pos e.1, e.2.2, if_pos ⟨e.2.1, hi⟩] at h
  rw [lk_of h (by omega) (by omega)]
  congr 1
  omega

/-- the chain that begins at f has just these cells, in this order -/
def Ch (l : List Int) (p : Nat) (k : Int) : Int → List Int → Prop
  | f, [] => f = (nc k : Int)
  | f, a :: r => f = a ∧ 0 ≤ a ∧ a < (nc k : Int) ∧ ∃ y, lk l p k a.toNat = some y ∧ Ch l p k y r

theorem Ch.rng {l : List Int} {p : Nat} {k : Int} : ∀ {f : Int} {r : List Int}, Ch l p k f r → (0 ≤ f ∧ f ≤ (nc k : Int)) ∧ ∀ x ∈ r, 0 ≤ x ∧ x < (nc k : Int)
  | f, [], h => by
    unfold Ch at h
    exact ⟨by omega, by simp⟩
  | f, a :: r, h => by
    unfold Ch at h
    obtain ⟨h1, h2, h3, y, _, h4⟩ := h
    have ih := h4.rng
    refine ⟨by omega, fun x hx => ?_⟩
    rw [List.mem_cons] at hx
    rcases hx with rfl | hx
    · exact ⟨h2, h3⟩
    · exact ih.2 x hx

theorem Ch.go {l : List Int} {p : Nat} {k : Int} : ∀ {f : Int} {r : List Int} (o : List Int), Ch l p k f r → (o ++ r).Nodup → goL l p k r.length f o = some (o ++ r)
  | f, [], o, h, hn => by
    unfold Ch at h
    rw [List.length_nil]
    unfold goL
    rw [if_pos h, List.append_nil]
  | f, a :: r, o, h, hn => by
    unfold Ch at h
    obtain ⟨rfl, h2, h3, y, hy, h4⟩ := h
    rw [List.length_cons]
    unfold goL
    have hno : f ∉ o := by
      rw [List.nodup_append] at hn
      exact fun hm => hn.2.2 f hm f (by simp) rfl
    rw [if_pos ⟨h2, h3, hno⟩, hy]
    dsimp only
    rw [h4.go (o ++ [f]) (by rw [List.append_assoc]; exact hn), List.append_assoc]
    rfl

theorem Ch.all {l : List Int} {p : Nat} {k f n : Int} {r : List Int} (h : Ch l p k f r) (hn : r.Nodup) (hp : p < 64) (hk : 0 < nc k) (hl : 32 * p + 32 ≤ l.length) (he : n = (r.length : Int)) : allS l p k f n = some r := by
  have hpg := pig _ r hn h.rng.2
  unfold allS
  rw [if_pos ⟨⟨by omega, by omega, hk, by omega⟩, by omega, by omega⟩]
  have h2 := h.go [] (by simpa using hn)
  rw [show n.toNat = r.length by omega]
  simpa using h2

theorem addr_ne {k : Int} {p i j : Nat} (hk : 0 < nc k) (h : i ≠ j) : 32 * p + i * sz k ≠ 32 * p + j * sz k := by
  rcases sz_lit k hk with ⟨h1, h2⟩ | ⟨h1, h2⟩ | ⟨h1, h2⟩ | ⟨h1, h2⟩ <;> rw [h1] <;> omega

theorem lk_set_ne {l : List Int} {p : Nat} {k : Int} {i j : Nat} (hk : 0 < nc k) (h : i ≠ j) (x : Int) : lk (l.set (32 * p + j * sz k) x) p k i = lk l p k i := by
  unfold lk
  rw [List.getElem?_set, if_neg (addr_ne hk (Ne.symm h))]

theorem Ch.set {l : List Int} {p : Nat} {k : Int} (hk : 0 < nc k) (j : Nat) (x : Int) : ∀ {f : Int} {r : List Int}, Ch l p k f r → (j : Int) ∉ r → Ch (l.set (32 * p + j * sz k) x) p k f r
  | f, [], h, _ => by unfold Ch at h ⊢; exact h
  | f, a :: r, h, hn => by
    unfold Ch at h ⊢
    obtain ⟨h1, h2, h3, y, hy, h4⟩ := h
    rw [List.mem_cons, not_or] at hn
    exact ⟨h1, h2, h3, y, by rw [lk_set_ne hk (fun e => hn.1 (by omega))]; exact hy, h4.set hk j x hn.2⟩

theorem Ch.give {l : List Int} {p : Nat} {k : Int} {f : Int} {r : List Int} (h : Ch l p k f r) (j : Nat) (hj : j < nc k) (hn : (j : Int) ∉ r) (hl : 32 * p + 32 ≤ l.length) : Ch (l.set (32 * p + j * sz k) (-1 - f)) p k (j : Int) ((j : Int) :: r) := by
  have hk : 0 < nc k := by omega
  have hc := cell_in hj
  have hr := h.rng.1
  unfold Ch
  refine ⟨rfl, by omega, by omega, f, ?_, h.set hk j _ hn⟩
  rw [show ((j : Int)).toNat = j by omega, lk_of (x := -1 - f) (by rw [List.getElem?_set, if_pos rfl, if_pos (by omega)]) (by omega) (by omega)]
  congr 1
  omega

/-- the numbers from a on, below n -/
def upTo (a n : Nat) : List Int := ((List.range n).drop a).map fun i : Nat => (i : Int)

theorem upTo_cons (a n : Nat) (h : a < n) : upTo a n = (a : Int) :: upTo (a + 1) n := by
  unfold upTo
  rw [List.drop_eq_getElem_cons (by simpa using h), List.map_cons]
  simp

theorem upTo_end (n : Nat) : upTo n n = [] := by
  unfold upTo
  rw [List.drop_eq_nil_of_le (by simp)]
  rfl

theorem upTo_len (n : Nat) : (upTo 0 n).length = n := by unfold upTo; simp

theorem upTo_nodup (n : Nat) : (upTo 0 n).Nodup := by
  unfold upTo
  rw [List.drop_zero]
  refine List.Pairwise.map _ (fun a b h e => h ?_) List.nodup_range
  omega

theorem ch_built (l : List Int) (p : Nat) (k : Int) (hl : 32 * p + 32 ≤ l.length) : ∀ (m a : Nat), a + m = nc k → Ch (bl l p k (nc k)) p k (a : Int) (upTo a (nc k))
  | 0, a, h => by
    rw [show a = nc k by omega, upTo_end]
    unfold Ch
    rfl
  | m + 1, a, h => by
    rw [upTo_cons a _ (by omega)]
    unfold Ch
    refine ⟨rfl, by omega, by omega, (a : Int) + 1, ?_, ?_⟩
    · rw [show ((a : Int)).toNat = a by omega]
      exact lk_built l p k hl a (by omega)
    · have := ch_built l p k hl m (a + 1) (by omega)
      simpa using this

end Go.Proofs.Ytbndmcblkfaheaa.Chain
