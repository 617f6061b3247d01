/- Proved: what each call of package page but Span, Count and Longest does to a table in memory and answers (the calls' contracts); the conditions stand in each theorem. -/
import Derived.Test.YtaegmlmibbppoaaInts
import Derived.Test.YtaegmlmibbppoaaPagePure
namespace Go.Proofs.Ytaegmlmibbppoaa.Page
set_option linter.unusedVariables false
open Go.RowKit Go.Proofs.Ytaegmlmibbppoaa.H Go.Proofs.Ytaegmlmibbppoaa.Nums Go.Proofs.Ytaegmlmibbppoaa.PagePure

/-- a table: its own block g, the row v in which its kinds lie -/
structure T (w : World) (B g : Nat) (v : Value) (l : List Int) : Prop where
  blk : w.heap[g]? = some (.cells #[.bool true, v] 40 (0, 0))
  own : Own w B v l
  base : B ≤ g
  len : l.length ≤ 64

def Foot (g : Nat) (v : Value) : Nat → Prop := fun k => k = g ∨ v.ownBlock = some k
theorem T.ne {w : World} {B g : Nat} {v : Value} {l : List Int} (h : T w B g v l) : v.ownBlock ≠ some g := own_ne_blk h.own h.blk (by decide)
theorem T.foot_lt {w : World} {B g : Nat} {v : Value} {l : List Int} (h : T w B g v l) : ∀ k, Foot g v k → B ≤ k ∧ k < w.heap.size := by
  rintro k (rfl | hk)
  · exact ⟨h.base, lt_of_blk h.blk⟩
  · exact h.own.lt k hk
theorem T.fr {w w' : World} {B g : Nat} {v : Value} {l : List Int} (h : T w B g v l) {S : Nat → Prop} (hf : Fr S w w') (hn : ∀ k, Foot g v k → ¬ S k) : T w' B g v l :=
  ⟨hf.blk h.blk (hn g (.inl rfl)), h.own.fr hf (fun k hk => hn k (.inr hk)), h.base, h.len⟩
theorem T.no {w w' : World} {B g : Nat} {v : Value} {l : List Int} (h : T w B g v l) (hf : Fr No w w') : T w' B g v l := h.fr hf (fun _ _ h => h)
theorem T.below {w w' : World} {B g : Nat} {v : Value} {l : List Int} (h : T w B g v l) (hf : Fr (Foot g v) w w') (hB : B ≤ w.heap.size) : Below B w w' :=
  hf.below hB (fun k hk => (h.foot_lt k hk).1)
theorem T.lower {w : World} {B B' g : Nat} {v : Value} {l : List Int} (h : T w B g v l) (hB : B' ≤ B) : T w B' g v l := ⟨h.blk, h.own.lower hB, Nat.le_trans hB h.base, h.len⟩
theorem T.cells {w : World} {B g : Nat} {v : Value} {l : List Int} (h : T w B g v l) : w.cell? ⟨g, 0, none⟩ = some (.bool true) ∧ w.cell? ⟨g, 1, none⟩ = some v := ⟨cell_of h.blk 0, cell_of h.blk 1⟩
/-- behind a store of a kind -/
theorem T.put {w : World} {B g d n c : Nat} {l : List Int} (h : T w B g (.slice (some ⟨d, 0, none⟩) n c) l) (k : Nat) (x : Int) : T (w.setCell ⟨d, k, none⟩ (.int .i64 x)) B g (.slice (some ⟨d, 0, none⟩) n c) (l.set k x) :=
  ⟨far_of h.blk (p := ⟨d, k, none⟩) (fun e => h.ne (by simp [Value.ownBlock, e])) _, h.own.put k x, h.base, by rw [List.length_set]; exact h.len⟩
theorem drewN_fr {w wa wb : World} {n : Nat} (h : Fr No w wa) (e : wb = wa.drewN n) : Fr No w wb := by rw [e]; exact h.drewN n
theorem no_below {w w' : World} (h : Fr No w w') : Below w.heap.size w w' := h.below (Nat.le_refl _) (fun _ h => h.elim)
/-- a call that may turn the table -/
def Upd (B g : Nat) (v : Value) (l' : List Int) (r : Value) (w : World) (e : Ending) (w' : World) : Prop := e = .returned r ∧ T w' B g v l' ∧ Fr (Foot g v) w w'
theorem Upd.quiet {B g : Nat} {v : Value} {l : List Int} {r : Value} {w : World} {e : Ending} {w' : World} (hs : T w B g v l) (h : Quiet w r e w') : Upd B g v l r w e w' := by
  obtain ⟨rfl, n, rfl⟩ := h
  exact ⟨rfl, hs.no (Fr.drewN (Fr.refl _ _) n), Fr.drewN (Fr.refl _ _) n⟩

/-! ### classes -/
set_option maxHeartbeats 1600000 in
theorem cls_any (k r : Int) (hr : clsz k = r) (w : World) : Calls Try.prog 26 #[.int .i64 k] w (Quiet w (.int .i64 r)) := by
  subst hr
  by_cases h1 : k < 1
  · have e : clsz k = 0 := by unfold clsz; repeat' split <;> omega
    rw [e]
    go_enter Try.func26, Try.ntmps26
    go_wp2
    go_ret
    exact ⟨rfl, 0, rfl⟩
  by_cases h2 : 5 ≤ k
  · have e : clsz k = 0 := by unfold clsz; repeat' split <;> omega
    rw [e]
    go_enter Try.func26, Try.ntmps26
    go_wp2
    go_ret
    exact ⟨rfl, 0, rfl⟩
  · have h3 : k = 1 ∨ k = 2 ∨ k = 3 ∨ k = 4 := by omega
    clear h1 h2
    rcases h3 with rfl | rfl | rfl | rfl
    all_goals
      go_enter Try.func26, Try.ntmps26
      go_wp2
      go_ret
      exact ⟨rfl, 0, rfl⟩
set_option maxHeartbeats 3200000 in
theorem rcls_any (k r : Int) (hr : clsz k = r) (w : World) : Calls Try.prog 31 #[.int .i64 k] w (Same w (.int .i64 r)) := by
  subst hr
  have B0 : Below w.heap.size w (w.alloc (.cells #[.int .i64 0, .int .i64 2, .int .i64 4, .int .i64 8, .int .i64 16] 53)) := (Below.refl _ w).alloc (Nat.le_refl _) _
  by_cases h1 : k < 1
  · have e : clsz k = 0 := by unfold clsz; repeat' split <;> omega
    rw [e]
    go_enter Try.func31, Try.ntmps31
    go_wp2
    go_ret
    exact ⟨rfl, by first | exact B0 | (simp; exact B0)⟩
  by_cases h2 : 5 ≤ k
  · have e : clsz k = 0 := by unfold clsz; repeat' split <;> omega
    have h3 : 4 < k := by omega
    rw [e]
    clear h2
    go_enter Try.func31, Try.ntmps31
    go_wp2
    go_ret
    exact ⟨rfl, by first | exact B0 | (simp; exact B0)⟩
  · have h3 : k = 1 ∨ k = 2 ∨ k = 3 ∨ k = 4 := by omega
    clear h1 h2
    rcases h3 with rfl | rfl | rfl | rfl
    all_goals
      go_enter Try.func31, Try.ntmps31
      go_wp2
      go_ret
      exact ⟨rfl, by first | exact B0 | (simp; exact B0)⟩

/-! ### Kind, Size, First -/
set_option maxHeartbeats 1600000 in
theorem kind_any (B g : Nat) (v : Value) (l : List Int) (p r : Int) (hr : kindL l p = r) (w : World) (hs : T w B g v l) :
    Calls Try.prog 19 #[.pointer (some ⟨g, 0, none⟩), .int .i64 p] w (Quiet w (.int .i64 r)) := by
  obtain ⟨A, c, rfl, _⟩ := hs.own.slice
  obtain ⟨c0, c1⟩ := hs.cells
  have hl := hs.len
  by_cases h1 : p < 0
  · rw [kindL_past l p (.inl h1)] at hr
    subst hr
    clear hs
    go_enter Try.func19, Try.ntmps19
    go_wp2
    go_ret
    exact ⟨rfl, 0, rfl⟩
  by_cases h2 : (l.length : Int) ≤ p
  · rw [kindL_past l p (.inr h2)] at hr
    subst hr
    clear hs
    go_enter Try.func19, Try.ntmps19
    go_wp2
    go_ret
    exact ⟨rfl, 0, rfl⟩
  · obtain ⟨k, rfl⟩ := Int.eq_ofNat_of_zero_le (show 0 ≤ p by omega)
    have hk : k < l.length := by omega
    obtain ⟨d, y, rfl, x0, _, hy⟩ := hs.own.cell k hk
    rw [kindL_at l k y hy] at hr
    subst hr
    have i1 : (0 : Int) ≤ (k : Int) := Int.natCast_nonneg _
    have i2 : (k : Int) < (l.length : Int) := by omega
    clear hs hy h1 h2
    go_enter Try.func19, Try.ntmps19
    go_wp2
    go_ret
    exact ⟨rfl, 0, rfl⟩
set_option maxHeartbeats 1600000 in
theorem rkind_any (A : Option Addr) (n c : Nat) (l : List Int) (hn : n = l.length) (p r : Int) (hr : kindL l p = r) (w : World) (hs : Rd w (.slice A n c) n 1 (ints l)) (hl : l.length ≤ 64) :
    Calls Try.prog 35 #[.slice A n c, .int .i64 p] w (Quiet w (.int .i64 r)) := by
  subst hn
  by_cases h1 : p < 0
  · rw [kindL_past l p (.inl h1)] at hr
    subst hr
    clear hs
    go_enter Try.func35, Try.ntmps35
    go_wp2
    go_ret
    exact ⟨rfl, 0, rfl⟩
  by_cases h2 : (l.length : Int) ≤ p
  · rw [kindL_past l p (.inr h2)] at hr
    subst hr
    clear hs
    go_enter Try.func35, Try.ntmps35
    go_wp2
    go_ret
    exact ⟨rfl, 0, rfl⟩
  · obtain ⟨k, rfl⟩ := Int.eq_ofNat_of_zero_le (show 0 ≤ p by omega)
    have hk : k < l.length := by omega
    obtain ⟨ad, rfl, x0⟩ := rd_at hs k hk
    rw [kindL_at l k _ (List.getElem?_eq_getElem hk), ] at hr
    rw [hr] at x0
    have i1 : (0 : Int) ≤ (k : Int) := Int.natCast_nonneg _
    have i2 : (k : Int) < (l.length : Int) := by omega
    clear hs h1 h2 hr
    go_enter Try.func35, Try.ntmps35
    go_wp2
    go_ret
    exact ⟨rfl, 0, rfl⟩

end Go.Proofs.Ytaegmlmibbppoaa.Page
