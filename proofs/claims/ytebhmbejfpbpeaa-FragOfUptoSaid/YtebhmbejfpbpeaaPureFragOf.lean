/- Proved: of any two lists of numbers that together have at most 1048576 the Go law FragOf answers true (its plain form). -/
import Derived.Test.YtebhmbejfpbpeaaPFragOfx6
namespace Go.Proofs.Ytebhmbejfpbpeaa.Pure
open Go.RowKit Go.Proofs.Ytebhmbejfpbpeaa.PFragOf Go.Proofs.YtebhmbejfpbpeaaW.PrintWords Go.Proofs.YtebhmbejfpbpeaaW.PrintLast Go.Proofs.YtebhmbejfpbpeaaW.PrintMore

theorem alive_true : scutagelaw39_alive.f 60 = some true := by decide +kernel

/-- how many cells a page of a class has -/
def cl (c : Int) : Int := if c = 1 then 16 else if c = 2 then 8 else if c = 3 then 4 else if c = 4 then 2 else 0
theorem cl_le (c : Int) : 0 ≤ cl c ∧ cl c ≤ 16 := by unfold cl; (repeat' split) <;> omega
theorem size_low {a : Int} (h : a < 1) : class_Size.f a = some 0 := by unfold class_Size.f; rw [if_pos h]
theorem size_high {a : Int} (h : 5 ≤ a) : class_Size.f a = some 0 := by unfold class_Size.f; rw [if_neg (by omega), if_pos h]
theorem cells_eq (a : Int) : class_Cells.f a = some (cl a) := by
  by_cases h1 : a < 1
  · unfold class_Cells.f; rw [size_low h1]; unfold cl; rw [if_neg (by omega), if_neg (by omega), if_neg (by omega), if_neg (by omega)]; rfl
  by_cases h2 : 5 ≤ a
  · unfold class_Cells.f; rw [size_high h2]; unfold cl; rw [if_neg (by omega), if_neg (by omega), if_neg (by omega), if_neg (by omega)]; rfl
  · have : a = 1 ∨ a = 2 ∨ a = 3 ∨ a = 4 := by omega
    rcases this with rfl | rfl | rfl | rfl <;> decide +kernel
theorem ref_cells_eq (a : Int) : scutageref06_Cells.f a = some (cl a) := by
  by_cases h : a = 1 ∨ a = 2 ∨ a = 3 ∨ a = 4
  · rcases h with rfl | rfl | rfl | rfl <;> decide +kernel
  · have hs : scutageref06_Size.f a = some 0 := by unfold scutageref06_Size.f; rw [if_neg (by omega), if_neg (by omega), if_neg (by omega), if_neg (by omega)]
    unfold scutageref06_Cells.f; rw [hs]; unfold cl; rw [if_neg (by omega), if_neg (by omega), if_neg (by omega), if_neg (by omega)]; rfl
/-- used cells, as they count -/
def us (a b : Int) : Int := mn (mx b 0) (cl a)
theorem used_eq (a b : Int) : frag_Page_used.f a b = some (us a b) := by
  have h := cl_le a
  have e : calc_Clamp.f b 0 (cl a) = some (us a b) := by
    unfold calc_Clamp.f
    by_cases h1 : b < 0
    · rw [if_pos h1]; congr 1; unfold us mn mx; (repeat' split) <;> omega
    · rw [if_neg h1]
      by_cases h2 : b > cl a
      · rw [if_pos h2]; congr 1; unfold us mn mx; (repeat' split) <;> omega
      · rw [if_neg h2]; congr 1; unfold us mn mx; (repeat' split) <;> omega
  unfold frag_Page_used.f
  rw [cells_eq]
  simp only [Option.bind_some]
  rw [e]
  rfl
theorem law_used_eq (a b : Int) : scutagelaw39_used.f a b = some (us a b) := by unfold scutagelaw39_used.f; rw [ref_cells_eq]; rfl

theorem rd_T27_append (xs : List S27) (y : S27) (i : Nat) : rd_T27 (xs ++ [y]) (i : Int) = if i < xs.length then rd_T27 xs (i : Int) else if i = xs.length then y else z27 := by
  unfold rd_T27
  rw [Int.toNat_natCast, List.getD_eq_getElem?_getD, List.getD_eq_getElem?_getD, List.getElem?_append]
  by_cases h : i < xs.length
  · rw [if_pos h, if_pos h]
  · rw [if_neg h, if_neg h]
    by_cases h2 : i = xs.length
    · rw [if_pos h2, h2, Nat.sub_self]; rfl
    · rw [if_neg h2, List.getElem?_eq_none (by simp; omega)]; rfl

theorem of_loop (x0 x1 : List Int) (n : Nat) (h0 : n ≤ x0.length) (h1 : n ≤ x1.length) (hn : n ≤ 1048576) (d : Nat) : ∀ (k i : Nat) (acc : List S27), i ≤ n → n - i = d → d < k → acc.length = i → (∀ j : Nat, j < i → rd_T27 acc j = ⟨rd x0 j, us (rd x0 j) (rd x1 j)⟩) →
    ∃ r, frag_Of.l0 k x0 x1 acc n i = some r ∧ r.length = n ∧ ∀ j : Nat, j < n → rd_T27 r j = ⟨rd x0 j, us (rd x0 j) (rd x1 j)⟩ := by
  induction d with
  | zero =>
    intro k i acc hi hd hk hl hg
    obtain ⟨k, rfl⟩ : ∃ m, k = m + 1 := ⟨k - 1, by omega⟩
    obtain rfl : i = n := by omega
    exact ⟨acc, by simp only [frag_Of.l0]; rw [if_neg (by omega)], hl, hg⟩
  | succ d ih =>
    intro k i acc hi hd hk hl hg
    obtain ⟨k, rfl⟩ : ∃ m, k = m + 1 := ⟨k - 1, by omega⟩
    obtain ⟨r, hr, h2, h3⟩ := ih k (i + 1) (acc ++ [⟨rd x0 i, us (rd x0 i) (rd x1 i)⟩]) (by omega) (by omega) (by omega) (by simp [hl]) (by
      intro j hj
      rw [rd_T27_append, hl]
      by_cases h : j < i
      · rw [if_pos h]; exact hg j h
      · rw [if_neg h, if_pos (by omega), show j = i by omega])
    refine ⟨r, ?_, h2, h3⟩
    simp only [frag_Of.l0]
    rw [if_pos (by omega), if_pos (by omega), if_pos (by omega), if_pos (by omega), used_eq]
    simp only [Option.bind_some]
    rw [if_pos (by omega), show wrap64 ((i : Int) + 1) = ((i + 1 : Nat) : Int) by unfold wrap64; omega]
    exact hr

theorem law_loop (x0 x1 : List Int) (r : List S27) (h0 : r.length ≤ x0.length) (h1 : r.length ≤ x1.length) (hn : r.length ≤ 1048576) (hg : ∀ j : Nat, j < r.length → rd_T27 r j = ⟨rd x0 j, us (rd x0 j) (rd x1 j)⟩) (d : Nat) : ∀ (k i : Nat), i ≤ r.length → r.length - i = d → d < k →
    scutagelaw39_FragOf.l0 k x0 x1 r i = some true := by
  induction d with
  | zero =>
    intro k i hi hd hk
    obtain ⟨k, rfl⟩ : ∃ m, k = m + 1 := ⟨k - 1, by omega⟩
    simp only [scutagelaw39_FragOf.l0]; rw [if_neg (by omega)]
  | succ d ih =>
    intro k i hi hd hk
    obtain ⟨k, rfl⟩ : ∃ m, k = m + 1 := ⟨k - 1, by omega⟩
    have h := ih k (i + 1) (by omega) (by omega) (by omega)
    have e := hg i (by omega)
    simp only [scutagelaw39_FragOf.l0]
    rw [if_pos (by omega), if_pos (by omega), if_pos (by omega), e, if_pos rfl, if_pos (by omega), law_used_eq]
    simp only [Option.bind_some]
    rw [if_pos trivial, show wrap64 ((i : Int) + 1) = ((i + 1 : Nat) : Int) by unfold wrap64; omega]
    exact h

theorem FragOf (l0 l1 : List Int) (hb : l0.length + l1.length ≤ 1048576) : ∃ k, scutagelaw39_FragOf.f k l0 l1 = some true := by
  have hm : mn (l0.length : Int) (l1.length : Int) = ((min l0.length l1.length : Nat) : Int) := by unfold mn; split <;> omega
  obtain ⟨r, hr, h2, h3⟩ := of_loop l0 l1 (min l0.length l1.length) (by omega) (by omega) (by omega) (min l0.length l1.length) (60 + min l0.length l1.length) 0 [] (by omega) (by omega) (by omega) rfl (fun j hj => by omega)
  refine ⟨60 + min l0.length l1.length, ?_⟩
  unfold scutagelaw39_FragOf.f
  rw [at_rounds (fun k => scutagelaw39_alive.mono k) (Nat.le_add_right 60 _) alive_true]
  simp only [Option.bind_some, if_true]
  rw [show frag_Of.f (60 + min l0.length l1.length) l0 l1 = some r by unfold frag_Of.f; rw [hm]; exact hr]
  simp only [Option.bind_some]
  rw [hm, if_pos (by omega)]
  exact law_loop l0 l1 r (by omega) (by omega) (by omega) (fun j hj => h3 j (by omega)) r.length _ 0 (by omega) (by omega) (by omega)

end Go.Proofs.Ytebhmbejfpbpeaa.Pure
