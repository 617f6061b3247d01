/- Proved: what open, is, link, next of package chain do and answer. -/
import Derived.Test.YtbndmcblkfaheaaChain
namespace Go.Proofs.Ytbndmcblkfaheaa.Chain
open Go.RowKit Go.Proofs.Ytbndmcblkfaheaa.H Go.Proofs.Ytbndmcblkfaheaa.Words Go.Proofs.Ytbndmcblkfaheaa.Mem
set_option linter.unusedVariables false
set_option linter.unusedSimpArgs false

def pg (g : Nat) (p k : Int) : Value := .agg #[.pointer (some ⟨g, 0, none⟩), .int .i64 p, .int .i64 k, .int .i64 (nc k)]

theorem set4_of {w : World} {g : Nat} {a b c d : Value} {t : TypeId} (h : w.heap[g]? = some (.cells #[a, b, c, d] t (0, 0))) (x y z u : Value) :
    ((((w.setCell ⟨g, 0, none⟩ x).setCell ⟨g, 1, none⟩ y).setCell ⟨g, 2, none⟩ z).setCell ⟨g, 3, none⟩ u).heap[g]? = some (.cells #[x, y, z, u] t (0, 0)) := set_of (set_of (set_of (set_of h 0 x) 1 y) 2 z) 3 u

theorem open_end {w w3 : World} (F : Fr No w w3) (a b c d : Value) : Below w.heap.size w ((((w3.setCell ⟨w.heap.size, 0, none⟩ a).setCell ⟨w.heap.size, 1, none⟩ b).setCell ⟨w.heap.size, 2, none⟩ c).setCell ⟨w.heap.size, 3, none⟩ d).drew :=
  ((((((F.setCell (p := ⟨w.heap.size, 0, none⟩) (.inr (Nat.le_refl _)) a).setCell (p := ⟨w.heap.size, 1, none⟩) (.inr (Nat.le_refl _)) b).setCell (p := ⟨w.heap.size, 2, none⟩) (.inr (Nat.le_refl _)) c).setCell (p := ⟨w.heap.size, 3, none⟩) (.inr (Nat.le_refl _)) d).drew).below (Nat.le_refl _) (fun _ h => h.elim))

theorem open_end2 {w w3 : World} (F : Fr No w w3) (a b c d : Value) : Below w.heap.size w ((((w3.setCell ⟨w.heap.size, 0, none⟩ a).setCell ⟨w.heap.size, 1, none⟩ b).setCell ⟨w.heap.size, 2, none⟩ c).setCell ⟨w.heap.size, 3, none⟩ d) :=
  (((((F.setCell (p := ⟨w.heap.size, 0, none⟩) (.inr (Nat.le_refl _)) a).setCell (p := ⟨w.heap.size, 1, none⟩) (.inr (Nat.le_refl _)) b).setCell (p := ⟨w.heap.size, 2, none⟩) (.inr (Nat.le_refl _)) c).setCell (p := ⟨w.heap.size, 3, none⟩) (.inr (Nat.le_refl _)) d).below (Nat.le_refl _) (fun _ h => h.elim))

set_option maxRecDepth 100000 in
set_option maxHeartbeats 6400000 in
theorem open_far (B g : Nat) (v : Value) (l : List Int) (p k : Int) (hp : p < 0 ∨ 64 ≤ p) (w : World) (hs : M w B g v l) :
    Calls Try.prog 27 #[.pointer (some ⟨g, 0, none⟩), .int .i64 p, .int .i64 k] w (Same w (.tuple #[pg g p k, .bool false])) := by
  unfold pg
  have HC := Lib.hid (cells_any k)
  have HS := Lib.hid hs
  obtain ⟨n, hnn⟩ : ∃ n, n = nc k := ⟨_, rfl⟩
  rw [← hnn] at HC ⊢
  have HE := Lib.hid (ends_no p hp)
  clear hnn hs hp
  go_enter Try.func27, Try.ntmps27
  go_wp2_with (first
    | (go_at_call 32; refine (HC.out _).mono ?_; rintro e w1 ⟨rfl, q, rfl⟩)
    | (go_at_call 28; refine (HE.out _).mono ?_; rintro e w1 ⟨rfl, q2, rfl⟩))
  have FA := (Fr.refl No w).alloc (.cells #[.pointer none, .int .i64 0, .int .i64 0, .int .i64 0] 60)
  have XA := heap_alloc_new w (.cells #[.pointer none, .int .i64 0, .int .i64 0, .int .i64 0] 60)
  have ZA : (w.alloc (.cells #[.pointer none, .int .i64 0, .int .i64 0, .int .i64 0] 60)).heap.size = w.heap.size + 1 := by simp
  have FB := (FA.drewN q).alloc (.cells #[.pointer (some ⟨g, 0, none⟩), .int .i64 p, .int .i64 k, .int .i64 n] 60)
  have XB := heap_alloc_new ((w.alloc (.cells #[.pointer none, .int .i64 0, .int .i64 0, .int .i64 0] 60)).drewN q) (.cells #[.pointer (some ⟨g, 0, none⟩), .int .i64 p, .int .i64 k, .int .i64 n] 60)
  rw [show ((w.alloc (.cells #[.pointer none, .int .i64 0, .int .i64 0, .int .i64 0] 60)).drewN q).heap.size = w.heap.size + 1 from ZA] at XB
  have F3 := Lib.hid (FB.drewN q2)
  have XA3 := Lib.hid (drewN_of (alloc_of (drewN_of XA q) (.cells #[.pointer (some ⟨g, 0, none⟩), .int .i64 p, .int .i64 k, .int .i64 n] 60)) q2)
  have XB3 := Lib.hid (drewN_of XB q2)
  clear FA XA ZA FB XB
  generalize ((((w.alloc (.cells #[.pointer none, .int .i64 0, .int .i64 0, .int .i64 0] 60)).drewN q).alloc (.cells #[.pointer (some ⟨g, 0, none⟩), .int .i64 p, .int .i64 k, .int .i64 n] 60)).drewN q2) = w3 at F3 XA3 XB3 ⊢
  have a0 : w3.cell? ⟨w.heap.size, 0, none⟩ = some (.pointer none) := cell_of XA3.out 0
  have a1 : w3.cell? ⟨w.heap.size, 1, none⟩ = some (.int .i64 0) := cell_of XA3.out 1
  have a2 : w3.cell? ⟨w.heap.size, 2, none⟩ = some (.int .i64 0) := cell_of XA3.out 2
  have a3 : w3.cell? ⟨w.heap.size, 3, none⟩ = some (.int .i64 0) := cell_of XA3.out 3
  have y0 := free_of XA3.out 0
  have y1 := free_of XA3.out 1
  have y2 := free_of XA3.out 2
  have y3 := free_of XA3.out 3
  have b0 : w3.cell? ⟨w.heap.size + 1, 0, none⟩ = some (.pointer (some ⟨g, 0, none⟩)) := cell_of XB3.out 0
  have b1 : w3.cell? ⟨w.heap.size + 1, 1, none⟩ = some (.int .i64 p) := cell_of XB3.out 1
  have b2 : w3.cell? ⟨w.heap.size + 1, 2, none⟩ = some (.int .i64 k) := cell_of XB3.out 2
  have b3 : w3.cell? ⟨w.heap.size + 1, 3, none⟩ = some (.int .i64 n) := cell_of XB3.out 3
  go_region
  go_wp2_with fail
  refine bodyPost_ret (v := .tuple #[.agg #[.pointer (some ⟨g, 0, none⟩), .int .i64 p, .int .i64 k, .int .i64 n], .bool false]) (by simp [results, Try.results27, go_sem, cell_of (set4_of XA3.out (.pointer (some ⟨g, 0, none⟩)) (.int .i64 p) (.int .i64 k) (.int .i64 n))]) rfl ⟨rfl, ?_⟩
  exact open_end F3.out _ _ _ _

set_option maxRecDepth 100000 in
set_option maxHeartbeats 6400000 in
theorem open_none (B g : Nat) (v : Value) (l : List Int) (p : Nat) (k : Int) (hp : p < 64) (hk : nc k = 0) (w : World) (hs : M w B g v l) :
    Calls Try.prog 27 #[.pointer (some ⟨g, 0, none⟩), .int .i64 p, .int .i64 k] w (Same w (.tuple #[pg g p k, .bool false])) := by
  unfold pg
  have HC := Lib.hid (cells_any k)
  have HS := Lib.hid hs
  obtain ⟨n, hnn⟩ : ∃ n, n = nc k := ⟨_, rfl⟩
  rw [← hnn] at HC ⊢
  obtain rfl : n = 0 := by omega
  have HE := Lib.hid (ends_yes p hp)
  clear hnn hs hp hk
  go_enter Try.func27, Try.ntmps27
  go_wp2_with (first
    | (go_at_call 32; refine (HC.out _).mono ?_; rintro e w1 ⟨rfl, q, rfl⟩)
    | (go_at_call 28; refine (HE.out _).mono ?_; rintro e w1 ⟨rfl, q2, rfl⟩))
  have FA := (Fr.refl No w).alloc (.cells #[.pointer none, .int .i64 0, .int .i64 0, .int .i64 0] 60)
  have XA := heap_alloc_new w (.cells #[.pointer none, .int .i64 0, .int .i64 0, .int .i64 0] 60)
  have ZA : (w.alloc (.cells #[.pointer none, .int .i64 0, .int .i64 0, .int .i64 0] 60)).heap.size = w.heap.size + 1 := by simp
  have FB := (FA.drewN q).alloc (.cells #[.pointer (some ⟨g, 0, none⟩), .int .i64 p, .int .i64 k, .int .i64 0] 60)
  have XB := heap_alloc_new ((w.alloc (.cells #[.pointer none, .int .i64 0, .int .i64 0, .int .i64 0] 60)).drewN q) (.cells #[.pointer (some ⟨g, 0, none⟩), .int .i64 p, .int .i64 k, .int .i64 0] 60)
  rw [show ((w.alloc (.cells #[.pointer none, .int .i64 0, .int .i64 0, .int .i64 0] 60)).drewN q).heap.size = w.heap.size + 1 from ZA] at XB
  have F3 := Lib.hid (FB.drewN q2)
  have XA3 := Lib.hid (drewN_of (alloc_of (drewN_of XA q) (.cells #[.pointer (some ⟨g, 0, none⟩), .int .i64 p, .int .i64 k, .int .i64 0] 60)) q2)
  have XB3 := Lib.hid (drewN_of XB q2)
  clear FA XA ZA FB XB
  generalize ((((w.alloc (.cells #[.pointer none, .int .i64 0, .int .i64 0, .int .i64 0] 60)).drewN q).alloc (.cells #[.pointer (some ⟨g, 0, none⟩), .int .i64 p, .int .i64 k, .int .i64 0] 60)).drewN q2) = w3 at F3 XA3 XB3 ⊢
  have a0 : w3.cell? ⟨w.heap.size, 0, none⟩ = some (.pointer none) := cell_of XA3.out 0
  have a1 : w3.cell? ⟨w.heap.size, 1, none⟩ = some (.int .i64 0) := cell_of XA3.out 1
  have a2 : w3.cell? ⟨w.heap.size, 2, none⟩ = some (.int .i64 0) := cell_of XA3.out 2
  have a3 : w3.cell? ⟨w.heap.size, 3, none⟩ = some (.int .i64 0) := cell_of XA3.out 3
  have y0 := free_of XA3.out 0
  have y1 := free_of XA3.out 1
  have y2 := free_of XA3.out 2
  have y3 := free_of XA3.out 3
  have b0 : w3.cell? ⟨w.heap.size + 1, 0, none⟩ = some (.pointer (some ⟨g, 0, none⟩)) := cell_of XB3.out 0
  have b1 : w3.cell? ⟨w.heap.size + 1, 1, none⟩ = some (.int .i64 p) := cell_of XB3.out 1
  have b2 : w3.cell? ⟨w.heap.size + 1, 2, none⟩ = some (.int .i64 k) := cell_of XB3.out 2
  have b3 : w3.cell? ⟨w.heap.size + 1, 3, none⟩ = some (.int .i64 0) := cell_of XB3.out 3
  go_region
  go_wp2_with fail
  refine bodyPost_ret (v := .tuple #[.agg #[.pointer (some ⟨g, 0, none⟩), .int .i64 p, .int .i64 k, .int .i64 0], .bool false]) (by simp [results, Try.results27, go_sem, cell_of (set4_of XA3.out (.pointer (some ⟨g, 0, none⟩)) (.int .i64 p) (.int .i64 k) (.int .i64 0))]) rfl ⟨rfl, ?_⟩
  exact open_end F3.out _ _ _ _

set_option maxRecDepth 100000 in
set_option maxHeartbeats 6400000 in
theorem open_len (B g : Nat) (v : Value) (l : List Int) (p : Nat) (k : Int) (hp : p < 64) (hk : 0 < nc k) (w : World) (hs : M w B g v l) :
    Calls Try.prog 27 #[.pointer (some ⟨g, 0, none⟩), .int .i64 p, .int .i64 k] w (Same w (.tuple #[pg g p k, .bool (decide (32 * (p : Int) + 31 < (l.length : Int)))])) := by
  unfold pg
  have HC := Lib.hid (cells_any k)
  have HS := Lib.hid hs
  obtain ⟨n, hnn⟩ : ∃ n, n = nc k := ⟨_, rfl⟩
  rw [← hnn] at HC ⊢
  have HE := Lib.hid (ends_yes p hp)
  have g1 : decide (0 < n) = true := by simp; omega
  clear hnn hs hp hk
  go_enter Try.func27, Try.ntmps27
  go_wp2_with (first
    | (go_at_call 32; refine (HC.out _).mono ?_; rintro e w1 ⟨rfl, q, rfl⟩)
    | (go_at_call 28; refine (HE.out _).mono ?_; rintro e w1 ⟨rfl, q2, rfl⟩))
  have FA := (Fr.refl No w).alloc (.cells #[.pointer none, .int .i64 0, .int .i64 0, .int .i64 0] 60)
  have XA := heap_alloc_new w (.cells #[.pointer none, .int .i64 0, .int .i64 0, .int .i64 0] 60)
  have ZA : (w.alloc (.cells #[.pointer none, .int .i64 0, .int .i64 0, .int .i64 0] 60)).heap.size = w.heap.size + 1 := by simp
  have FB := (FA.drewN q).alloc (.cells #[.pointer (some ⟨g, 0, none⟩), .int .i64 p, .int .i64 k, .int .i64 n] 60)
  have XB := heap_alloc_new ((w.alloc (.cells #[.pointer none, .int .i64 0, .int .i64 0, .int .i64 0] 60)).drewN q) (.cells #[.pointer (some ⟨g, 0, none⟩), .int .i64 p, .int .i64 k, .int .i64 n] 60)
  rw [show ((w.alloc (.cells #[.pointer none, .int .i64 0, .int .i64 0, .int .i64 0] 60)).drewN q).heap.size = w.heap.size + 1 from ZA] at XB
  have F3 := Lib.hid (FB.drewN q2)
  have XA3 := Lib.hid (drewN_of (alloc_of (drewN_of XA q) (.cells #[.pointer (some ⟨g, 0, none⟩), .int .i64 p, .int .i64 k, .int .i64 n] 60)) q2)
  have XB3 := Lib.hid (drewN_of XB q2)
  clear FA XA ZA FB XB
  generalize ((((w.alloc (.cells #[.pointer none, .int .i64 0, .int .i64 0, .int .i64 0] 60)).drewN q).alloc (.cells #[.pointer (some ⟨g, 0, none⟩), .int .i64 p, .int .i64 k, .int .i64 n] 60)).drewN q2) = w3 at F3 XA3 XB3 ⊢
  have a0 : w3.cell? ⟨w.heap.size, 0, none⟩ = some (.pointer none) := cell_of XA3.out 0
  have a1 : w3.cell? ⟨w.heap.size, 1, none⟩ = some (.int .i64 0) := cell_of XA3.out 1
  have a2 : w3.cell? ⟨w.heap.size, 2, none⟩ = some (.int .i64 0) := cell_of XA3.out 2
  have a3 : w3.cell? ⟨w.heap.size, 3, none⟩ = some (.int .i64 0) := cell_of XA3.out 3
  have y0 := free_of XA3.out 0
  have y1 := free_of XA3.out 1
  have y2 := free_of XA3.out 2
  have y3 := free_of XA3.out 3
  have b0 : w3.cell? ⟨w.heap.size + 1, 0, none⟩ = some (.pointer (some ⟨g, 0, none⟩)) := cell_of XB3.out 0
  have b1 : w3.cell? ⟨w.heap.size + 1, 1, none⟩ = some (.int .i64 p) := cell_of XB3.out 1
  have b2 : w3.cell? ⟨w.heap.size + 1, 2, none⟩ = some (.int .i64 k) := cell_of XB3.out 2
  have b3 : w3.cell? ⟨w.heap.size + 1, 3, none⟩ = some (.int .i64 n) := cell_of XB3.out 3
  have e0 := F3.out
  go_region_held3 (fun W => W.cell? ⟨w.heap.size + 1, 0, none⟩ = some (.pointer (some ⟨g, 0, none⟩)) ∧ W.cell? ⟨w.heap.size + 1, 1, none⟩ = some (.int .i64 p) ∧ W.cell? ⟨w.heap.size + 1, 2, none⟩ = some (.int .i64 k) ∧ W.cell? ⟨w.heap.size + 1, 3, none⟩ = some (.int .i64 n)) (((try go_split_ands); refine ⟨?_, ?_, ?_, ?_⟩ <;> (first | with_reducible assumption | (go_keep; done))))
    ((go_at_call 36; refine (len_any B g v l _ ((HS.out.no F3.out).no (by repeat (first | exact Fr.refl _ _ | apply Fr.drewN | apply Fr.drew | apply Fr.alloc)))).mono ?_; rintro e w4 ⟨rfl, q3, rfl⟩))
  go_wp2_with fail
  refine bodyPost_ret (v := .tuple #[.agg #[.pointer (some ⟨g, 0, none⟩), .int .i64 p, .int .i64 k, .int .i64 n], .bool (decide (32 * (p : Int) + 31 < (l.length : Int)))]) (by simp [results, Try.results27, go_sem, cell_of (set4_of (drewN_of XA3.out (1 + q3)) (.pointer (some ⟨g, 0, none⟩)) (.int .i64 p) (.int .i64 k) (.int .i64 n))]) rfl ⟨rfl, ?_⟩
  exact open_end2 (F3.out.drewN (1 + q3)) _ _ _ _

/-- is a page of a class there? -/
def Op (l : List Int) (p k : Int) : Prop := 0 ≤ p ∧ p < 64 ∧ 0 < nc k ∧ 32 * p + 31 < (l.length : Int)
instance (l : List Int) (p k : Int) : Decidable (Op l p k) := by unfold Op; infer_instance

theorem open_any (B g : Nat) (v : Value) (l : List Int) (p k : Int) (w : World) (hs : M w B g v l) :
    Calls Try.prog 27 #[.pointer (some ⟨g, 0, none⟩), .int .i64 p, .int .i64 k] w (Same w (.tuple #[pg g p k, .bool (decide (Op l p k))])) := by
  by_cases h1 : p < 0 ∨ 64 ≤ p
  · rw [decide_eq_false (show ¬ Op l p k from fun h => by have := h.1; have := h.2.1; omega)]
    exact open_far B g v l p k h1 w hs
  obtain ⟨q, rfl⟩ := Int.eq_ofNat_of_zero_le (show 0 ≤ p by omega)
  by_cases h2 : nc k = 0
  · rw [decide_eq_false (show ¬ Op l q k from fun h => by have := h.2.2.1; omega)]
    exact open_none B g v l q k (by omega) h2 w hs
  · have h := open_len B g v l q k (by omega) (by omega) w hs
    have e : decide (32 * (q : Int) + 31 < (l.length : Int)) = decide (Op l q k) := by
      rw [decide_eq_decide]
      exact ⟨fun h => ⟨by omega, by omega, by omega, h⟩, fun h => h.2.2.2⟩
    rw [e] at h
    exact h

set_option maxHeartbeats 1600000 in
theorem is_any (g : Nat) (p k i : Int) (w : World) :
    Calls Try.prog 30 #[pg g p k, .int .i64 i] w (Same w (.bool (decide (0 ≤ i) && decide (i < (nc k : Int))))) := by
  unfold pg
  generalize nc k = n
  by_cases h1 : 0 ≤ i
  · rw [show (decide (0 ≤ i) && decide (i < (n : Int))) = decide (i < (n : Int)) by rw [decide_eq_true h1, Bool.true_and]]
    go_enter Try.func30, Try.ntmps30
    go_wp2_with fail
    go_ret
    exact ⟨rfl, (Fr.alloc (Fr.refl No w) _).below (Nat.le_refl _) (fun _ h => h.elim)⟩
  · have g1 : decide (0 ≤ i) = false := by simp; omega
    rw [show (decide (0 ≤ i) && decide (i < (n : Int))) = false by rw [g1, Bool.false_and]]
    clear h1
    go_enter Try.func30, Try.ntmps30
    go_wp2_with fail
    go_ret
    exact ⟨rfl, (Fr.alloc (Fr.refl No w) _).below (Nat.le_refl _) (fun _ h => h.elim)⟩

def LinkPost (B g : Nat) (v : Value) (l' : List Int) (w : World) (e : Ending) (w' : World) : Prop := e = .returned (.tuple #[]) ∧ M w' B g v l' ∧ Fr (Foot g v) w w'

set_option maxHeartbeats 3200000 in
theorem link_any (B g : Nat) (v : Value) (l : List Int) (p : Nat) (k : Int) (i : Nat) (nx : Int) (hp : p < 64) (hi : i < nc k) (hl : 32 * p + 32 ≤ l.length) (h1 : -1000000 ≤ nx) (h2 : nx ≤ 1000000) (w : World) (hs : M w B g v l) :
    Calls Try.prog 29 #[pg g p k, .int .i64 i, .int .i64 nx] w (LinkPost B g v (l.set (32 * p + i * sz k) (-1 - nx)) w) := by
  unfold pg
  have hin := cell_in hi
  have HA := Lib.hid (at_yes k p i hp hi)
  have HS := Lib.hid hs
  obtain ⟨t, ht⟩ : ∃ t, t = 32 * p + i * sz k := ⟨_, rfl⟩
  rw [← ht] at HA ⊢
  have HT := Lib.hid (show t < l.length by omega)
  obtain ⟨n, hnn⟩ : ∃ n, n = nc k := ⟨_, rfl⟩
  rw [← hnn]
  have HL := Lib.hid (show M w B g v l from hs)
  have lg := lt_of_blk hs.blk
  clear hin hs ht hp hi hl hnn
  go_enter Try.func29, Try.ntmps29
  go_wp2_with (first
    | (go_at_call 13; refine (HA.out _).mono ?_; rintro e w1 ⟨rfl, q, rfl⟩)
    | (go_at_call 14; refine (store_yes B g v l t (-1 - nx) _ (HS.out.no (by repeat (first | exact Fr.refl _ _ | apply Fr.drewN | apply Fr.drew | apply Fr.alloc))) HT.out).mono ?_; rintro e w2 ⟨rfl, hm2, hf2⟩; have M2 := Lib.hid hm2; have F2 := Lib.hid (show Fr (Foot g v) w w2 from Fr.trans (by repeat (first | exact Fr.refl _ _ | apply Fr.drewN | apply Fr.drew | apply Fr.alloc)) hf2 (fun i hi => .inl hi)); clear hm2 hf2))
  refine bodyPost_end (v := .tuple #[]) (by simp [results, Try.results29, go_sem]) rfl ?_
  exact ⟨rfl, M2.out, F2.out⟩

/-- what a cell tells -/
def lk (l : List Int) (p : Nat) (k : Int) (i : Nat) : Option Int :=
  match l[32 * p + i * sz k]? with
  | none => none
  | some x => if 0 ≤ x ∨ x < -1 - (nc k : Int) then none else some (-1 - x)
def told (o : Option Int) : Value := match o with | some y => .tuple #[.int .i64 y, .bool true] | none => .tuple #[.int .i64 0, .bool false]

set_option maxHeartbeats 6400000 in
theorem next_any (B g : Nat) (v : Value) (l : List Int) (p : Nat) (k : Int) (i : Nat) (hp : p < 64) (hi : i < nc k) (hl : 32 * p + 32 ≤ l.length) (w : World) (hs : M w B g v l) :
    Calls Try.prog 31 #[pg g p k, .int .i64 i] w (Same w (told (lk l p k i))) := by
  unfold pg lk
  have hin := cell_in hi
  have hn := nc_le k
  have HA := Lib.hid (at_yes k p i hp hi)
  have HS := Lib.hid hs
  obtain ⟨t, ht⟩ : ∃ t, t = 32 * p + i * sz k := ⟨_, rfl⟩
  rw [← ht] at HA ⊢
  have hlt : t < l.length := by omega
  obtain ⟨x, hx⟩ : ∃ x, l[t]? = some x := ⟨l[t], List.getElem?_eq_getElem hlt⟩
  rw [hx]
  have HX := Lib.hid hx
  obtain ⟨n, hnn⟩ : ∃ n, n = nc k := ⟨_, rfl⟩
  rw [← hnn] at hn ⊢
  have lg := lt_of_blk hs.blk
  have i0 : (n : Int) ≤ 16 := by omega
  have i00 : (0 : Int) ≤ (n : Int) := Int.natCast_nonneg _
  clear hin hs ht hp hi hl hnn hlt hx hn
  dsimp only
  by_cases h1 : 0 ≤ x
  · rw [if_pos (.inl h1)]
    go_enter Try.func31, Try.ntmps31
    go_wp2_with (first
      | (go_at_call 13; refine (HA.out _).mono ?_; rintro e w1 ⟨rfl, q, rfl⟩)
      | (go_at_call 25; refine (load_yes B g v l t x _ (HS.out.no (by repeat (first | exact Fr.refl _ _ | apply Fr.drewN | apply Fr.drew | apply Fr.alloc))) HX.out).mono ?_; rintro e w2 ⟨rfl, q2, rfl⟩))
    go_ret2
    exact ⟨rfl, Fr.below (S := No) (by repeat (first | exact Fr.refl _ _ | apply Fr.drewN | apply Fr.drew | apply Fr.alloc)) (Nat.le_refl _) (fun _ h => h.elim)⟩
  by_cases h2 : x < -1 - (n : Int)
  · rw [if_pos (.inr h2)]
    have g1 : decide (0 ≤ x) = false := by simp; omega
    clear h1
    go_enter Try.func31, Try.ntmps31
    go_wp2_with (first
      | (go_at_call 13; refine (HA.out _).mono ?_; rintro e w1 ⟨rfl, q, rfl⟩)
      | (go_at_call 25; refine (load_yes B g v l t x _ (HS.out.no (by repeat (first | exact Fr.refl _ _ | apply Fr.drewN | apply Fr.drew | apply Fr.alloc))) HX.out).mono ?_; rintro e w2 ⟨rfl, q2, rfl⟩))
    go_ret2
    exact ⟨rfl, Fr.below (S := No) (by repeat (first | exact Fr.refl _ _ | apply Fr.drewN | apply Fr.drew | apply Fr.alloc)) (Nat.le_refl _) (fun _ h => h.elim)⟩
  · rw [if_neg (by omega)]
    have g1 : decide (0 ≤ x) = false := by simp; omega
    have g2 : decide (x < -1 - (n : Int)) = false := by simp; omega
    have i1 : x < 0 := by omega
    have i2 : -17 ≤ x := by omega
    clear h1 h2
    go_enter Try.func31, Try.ntmps31
    go_wp2_with (first
      | (go_at_call 13; refine (HA.out _).mono ?_; rintro e w1 ⟨rfl, q, rfl⟩)
      | (go_at_call 25; refine (load_yes B g v l t x _ (HS.out.no (by repeat (first | exact Fr.refl _ _ | apply Fr.drewN | apply Fr.drew | apply Fr.alloc))) HX.out).mono ?_; rintro e w2 ⟨rfl, q2, rfl⟩))
    go_ret2
    exact ⟨rfl, Fr.below (S := No) (by repeat (first | exact Fr.refl _ _ | apply Fr.drewN | apply Fr.drew | apply Fr.alloc)) (Nat.le_refl _) (fun _ h => h.elim)⟩

end Go.Proofs.Ytbndmcblkfaheaa.Chain
