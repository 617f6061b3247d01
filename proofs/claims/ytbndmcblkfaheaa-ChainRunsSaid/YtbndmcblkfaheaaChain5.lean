/- Proved: what All of package chain does and answers. -/
import Derived.Test.YtbndmcblkfaheaaChain4
namespace Go.Proofs.Ytbndmcblkfaheaa.Chain
open Go.RowKit Go.Proofs.Ytbndmcblkfaheaa.H Go.Proofs.Ytbndmcblkfaheaa.Words Go.Proofs.Ytbndmcblkfaheaa.Mem
set_option linter.unusedVariables false
set_option linter.unusedSimpArgs false
attribute [local irreducible] nc sz

/-- going through a chain: so many cells from one on, behind those that are met -/
def goL (l : List Int) (p : Nat) (k : Int) : Nat → Int → List Int → Option (List Int)
  | 0, a, o => if a = (nc k : Int) then some o else none
  | m + 1, a, o => if 0 ≤ a ∧ a < (nc k : Int) ∧ a ∉ o then (match lk l p k a.toNat with | none => none | some y => goL l p k m y (o ++ [a])) else none

def allS (l : List Int) (p k f n : Int) : Option (List Int) := if Op l p k ∧ 0 ≤ n ∧ n ≤ (nc k : Int) then goL l p.toNat k n.toNat f [] else none

def AllPost (o : Option (List Int)) (w : World) (e : Ending) (w' : World) : Prop :=
  match o with
  | none => e = .returned (.tuple #[.slice none 0 0, .bool false]) ∧ Below w.heap.size w w'
  | some m => ∃ v', e = .returned (.tuple #[v', .bool true]) ∧ Nums.Own w' w.heap.size v' m ∧ Below w.heap.size w w'

/-- which cells are met -/
def mt (o : List Int) : Array Value := ((List.range 32).map fun i : Nat => Value.bool (decide ((i : Int) ∈ o))).toArray

theorem mt_size (o : List Int) : (mt o).size = 32 := by unfold mt; simp

theorem mt_at (o : List Int) (i : Nat) : (mt o)[i]? = if i < 32 then some (.bool (decide ((i : Int) ∈ o))) else none := by
  unfold mt
  rw [List.getElem?_toArray, List.getElem?_map]
  split
  · rename_i h; rw [List.getElem?_range h]; rfl
  · rename_i h; rw [List.getElem?_eq_none (by simp; omega)]; rfl

theorem mt_set (o : List Int) (a : Nat) (h : a < 32) : (mt o).setIfInBounds a (.bool true) = mt (o ++ [(a : Int)]) := by
  apply Array.ext_getElem?
  intro i
  rw [Array.getElem?_setIfInBounds, mt_at, mt_at, mt_size]
  by_cases e : a = i
  · subst e
    rw [if_pos rfl, if_pos h, if_pos h, decide_eq_true (by simp)]
  · rw [if_neg e]
    split
    · rename_i hi
      have : decide ((i : Int) ∈ o) = decide ((i : Int) ∈ o ++ [(a : Int)]) := by
        rw [decide_eq_decide, List.mem_append, List.mem_singleton]
        exact ⟨.inl, fun h2 => h2.elim id (fun h3 => by omega)⟩
      rw [this]
    · rfl

theorem mt_nil : (#[Value.bool false, Value.bool false, Value.bool false, Value.bool false, Value.bool false, Value.bool false, Value.bool false, Value.bool false, Value.bool false, Value.bool false, Value.bool false, Value.bool false, Value.bool false, Value.bool false, Value.bool false, Value.bool false, Value.bool false, Value.bool false, Value.bool false, Value.bool false, Value.bool false, Value.bool false, Value.bool false, Value.bool false, Value.bool false, Value.bool false, Value.bool false, Value.bool false, Value.bool false, Value.bool false, Value.bool false, Value.bool false] : Array Value) = mt [] := by rfl

theorem go_len (l : List Int) (p : Nat) (k : Int) : ∀ (m : Nat) (a : Int) (o r : List Int), goL l p k m a o = some r → r.length = o.length + m
  | 0, a, o, r, h => by
    unfold goL at h
    split at h
    · injection h with h; rw [← h]; rfl
    · cases h
  | m + 1, a, o, r, h => by
    unfold goL at h
    split at h
    · split at h
      · cases h
      · have := go_len l p k m _ _ _ h
        simp at this
        omega
    · cases h

set_option maxRecDepth 100000 in
set_option maxHeartbeats 6400000 in
theorem all_no_page (B g : Nat) (v : Value) (l : List Int) (p k : Int) (f n : Int) (ho : ¬ Op l p k) (w : World) (hs : M w B g v l) :
    Calls Try.prog 17 #[.pointer (some ⟨g, 0, none⟩), .int .i64 p, .int .i64 k, .agg #[.int .i64 f, .int .i64 n]] w (AllPost none w) := by
  have HO := Lib.hid (fun W (hW : Fr No w W) => open_false ho (hs.no hW))
  clear hs ho
  go_enter Try.func17, Try.ntmps17
  go_wp2_with fail
  have F0 := Lib.hid ((Fr.refl No w).alloc (.cells #[.int .i64 f, .int .i64 n] 29))
  have XI0 := Lib.hid (heap_alloc_new w (.cells #[.int .i64 f, .int .i64 n] 29))
  have Z0 := Lib.hid (show (w.alloc (.cells #[.int .i64 f, .int .i64 n] 29)).heap.size = w.heap.size + 1 by simp)
  generalize w.alloc (.cells #[.int .i64 f, .int .i64 n] 29) = w0 at F0 XI0 Z0 ⊢
  with_reducible refine (HO.out _ F0.out).mono ?_
  rintro e w1 ⟨rfl, hb1⟩
  have F1 := Lib.hid (F0.out.trans (Fr.of_below hb1 No) (fun i (h : No i) => h.elim))
  have HBS := Lib.hid (show w.heap.size + 1 ≤ w1.heap.size by have := hb1.size; have := Z0.out; omega)
  have XI1 := Lib.hid ((Fr.of_below hb1 No).blk XI0.out (fun h => h))
  have XI2 := Lib.hid (alloc_of XI1.out (.cells #[.pointer (some ⟨g, 0, none⟩), .int .i64 p, .int .i64 k, .int .i64 (nc k)] 60))
  have XC2 := Lib.hid (heap_alloc_new w1 (.cells #[.pointer (some ⟨g, 0, none⟩), .int .i64 p, .int .i64 k, .int .i64 (nc k)] 60))
  have F2 := Lib.hid (F1.out.alloc (.cells #[.pointer (some ⟨g, 0, none⟩), .int .i64 p, .int .i64 k, .int .i64 (nc k)] 60))
  clear hb1 F0 XI0 Z0 XI1
  have i0a : (w1.alloc (.cells #[.pointer (some ⟨g, 0, none⟩), .int .i64 p, .int .i64 k, .int .i64 (nc k)] 60)).cell? ⟨w.heap.size, 0, none⟩ = some (.int .i64 f) := cell_of XI2.out 0
  have i1a : (w1.alloc (.cells #[.pointer (some ⟨g, 0, none⟩), .int .i64 p, .int .i64 k, .int .i64 (nc k)] 60)).cell? ⟨w.heap.size, 1, none⟩ = some (.int .i64 n) := cell_of XI2.out 1
  have c0a : (w1.alloc (.cells #[.pointer (some ⟨g, 0, none⟩), .int .i64 p, .int .i64 k, .int .i64 (nc k)] 60)).cell? ⟨w1.heap.size, 0, none⟩ = some (.pointer (some ⟨g, 0, none⟩)) := cell_of XC2.out 0
  have c1a : (w1.alloc (.cells #[.pointer (some ⟨g, 0, none⟩), .int .i64 p, .int .i64 k, .int .i64 (nc k)] 60)).cell? ⟨w1.heap.size, 1, none⟩ = some (.int .i64 p) := cell_of XC2.out 1
  have c2a : (w1.alloc (.cells #[.pointer (some ⟨g, 0, none⟩), .int .i64 p, .int .i64 k, .int .i64 (nc k)] 60)).cell? ⟨w1.heap.size, 2, none⟩ = some (.int .i64 k) := cell_of XC2.out 2
  have c3a : (w1.alloc (.cells #[.pointer (some ⟨g, 0, none⟩), .int .i64 p, .int .i64 k, .int .i64 (nc k)] 60)).cell? ⟨w1.heap.size, 3, none⟩ = some (.int .i64 (nc k)) := cell_of XC2.out 3
  go_wp2_with fail
  go_ret2
  exact ⟨rfl, F2.out.below (Nat.le_refl _) (fun _ h => h.elim)⟩

set_option maxRecDepth 100000 in
set_option maxHeartbeats 6400000 in
theorem all_no_1 (B g : Nat) (v : Value) (l : List Int) (p : Nat) (k : Int) (f n : Int) (hp : p < 64) (hk : 0 < nc k) (hl : 32 * p + 32 ≤ l.length) (hh : n < 0) (w : World) (hs : M w B g v l) :
    Calls Try.prog 17 #[.pointer (some ⟨g, 0, none⟩), .int .i64 p, .int .i64 k, .agg #[.int .i64 f, .int .i64 n]] w (AllPost none w) := by
  have HO := Lib.hid (fun W (hW : Fr No w W) => open_true hp hk hl (hs.no hW))
  have g1 : decide (n < 0) = true := by simp; omega
  clear hs hp hk hl hh
  go_enter Try.func17, Try.ntmps17
  go_wp2_with fail
  have F0 := Lib.hid ((Fr.refl No w).alloc (.cells #[.int .i64 f, .int .i64 n] 29))
  have XI0 := Lib.hid (heap_alloc_new w (.cells #[.int .i64 f, .int .i64 n] 29))
  have Z0 := Lib.hid (show (w.alloc (.cells #[.int .i64 f, .int .i64 n] 29)).heap.size = w.heap.size + 1 by simp)
  generalize w.alloc (.cells #[.int .i64 f, .int .i64 n] 29) = w0 at F0 XI0 Z0 ⊢
  with_reducible refine (HO.out _ F0.out).mono ?_
  rintro e w1 ⟨rfl, hb1⟩
  have F1 := Lib.hid (F0.out.trans (Fr.of_below hb1 No) (fun i (h : No i) => h.elim))
  have HBS := Lib.hid (show w.heap.size + 1 ≤ w1.heap.size by have := hb1.size; have := Z0.out; omega)
  have XI1 := Lib.hid ((Fr.of_below hb1 No).blk XI0.out (fun h => h))
  have XI2 := Lib.hid (alloc_of XI1.out (.cells #[.pointer (some ⟨g, 0, none⟩), .int .i64 p, .int .i64 k, .int .i64 (nc k)] 60))
  have XC2 := Lib.hid (heap_alloc_new w1 (.cells #[.pointer (some ⟨g, 0, none⟩), .int .i64 p, .int .i64 k, .int .i64 (nc k)] 60))
  have F2 := Lib.hid (F1.out.alloc (.cells #[.pointer (some ⟨g, 0, none⟩), .int .i64 p, .int .i64 k, .int .i64 (nc k)] 60))
  clear hb1 F0 XI0 Z0 XI1
  have i0a : (w1.alloc (.cells #[.pointer (some ⟨g, 0, none⟩), .int .i64 p, .int .i64 k, .int .i64 (nc k)] 60)).cell? ⟨w.heap.size, 0, none⟩ = some (.int .i64 f) := cell_of XI2.out 0
  have i1a : (w1.alloc (.cells #[.pointer (some ⟨g, 0, none⟩), .int .i64 p, .int .i64 k, .int .i64 (nc k)] 60)).cell? ⟨w.heap.size, 1, none⟩ = some (.int .i64 n) := cell_of XI2.out 1
  have c0a : (w1.alloc (.cells #[.pointer (some ⟨g, 0, none⟩), .int .i64 p, .int .i64 k, .int .i64 (nc k)] 60)).cell? ⟨w1.heap.size, 0, none⟩ = some (.pointer (some ⟨g, 0, none⟩)) := cell_of XC2.out 0
  have c1a : (w1.alloc (.cells #[.pointer (some ⟨g, 0, none⟩), .int .i64 p, .int .i64 k, .int .i64 (nc k)] 60)).cell? ⟨w1.heap.size, 1, none⟩ = some (.int .i64 p) := cell_of XC2.out 1
  have c2a : (w1.alloc (.cells #[.pointer (some ⟨g, 0, none⟩), .int .i64 p, .int .i64 k, .int .i64 (nc k)] 60)).cell? ⟨w1.heap.size, 2, none⟩ = some (.int .i64 k) := cell_of XC2.out 2
  have c3a : (w1.alloc (.cells #[.pointer (some ⟨g, 0, none⟩), .int .i64 p, .int .i64 k, .int .i64 (nc k)] 60)).cell? ⟨w1.heap.size, 3, none⟩ = some (.int .i64 (nc k)) := cell_of XC2.out 3
  go_wp2_with fail
  go_ret2
  exact ⟨rfl, F2.out.below (Nat.le_refl _) (fun _ h => h.elim)⟩

set_option maxRecDepth 100000 in
set_option maxHeartbeats 6400000 in
theorem all_no_2 (B g : Nat) (v : Value) (l : List Int) (p : Nat) (k : Int) (f n : Int) (hp : p < 64) (hk : 0 < nc k) (hl : 32 * p + 32 ≤ l.length) (hh : 0 ≤ n ∧ (nc k : Int) < n) (w : World) (hs : M w B g v l) :
    Calls Try.prog 17 #[.pointer (some ⟨g, 0, none⟩), .int .i64 p, .int .i64 k, .agg #[.int .i64 f, .int .i64 n]] w (AllPost none w) := by
  have HO := Lib.hid (fun W (hW : Fr No w W) => open_true hp hk hl (hs.no hW))
  have g1 : decide (n < 0) = false := by simp; omega
  have g2 : decide ((nc k : Int) < n) = true := by simp; omega
  clear hs hp hk hl hh
  go_enter Try.func17, Try.ntmps17
  go_wp2_with fail
  have F0 := Lib.hid ((Fr.refl No w).alloc (.cells #[.int .i64 f, .int .i64 n] 29))
  have XI0 := Lib.hid (heap_alloc_new w (.cells #[.int .i64 f, .int .i64 n] 29))
  have Z0 := Lib.hid (show (w.alloc (.cells #[.int .i64 f, .int .i64 n] 29)).heap.size = w.heap.size + 1 by simp)
  generalize w.alloc (.cells #[.int .i64 f, .int .i64 n] 29) = w0 at F0 XI0 Z0 ⊢
  with_reducible refine (HO.out _ F0.out).mono ?_
  rintro e w1 ⟨rfl, hb1⟩
  have F1 := Lib.hid (F0.out.trans (Fr.of_below hb1 No) (fun i (h : No i) => h.elim))
  have HBS := Lib.hid (show w.heap.size + 1 ≤ w1.heap.size by have := hb1.size; have := Z0.out; omega)
  have XI1 := Lib.hid ((Fr.of_below hb1 No).blk XI0.out (fun h => h))
  have XI2 := Lib.hid (alloc_of XI1.out (.cells #[.pointer (some ⟨g, 0, none⟩), .int .i64 p, .int .i64 k, .int .i64 (nc k)] 60))
  have XC2 := Lib.hid (heap_alloc_new w1 (.cells #[.pointer (some ⟨g, 0, none⟩), .int .i64 p, .int .i64 k, .int .i64 (nc k)] 60))
  have F2 := Lib.hid (F1.out.alloc (.cells #[.pointer (some ⟨g, 0, none⟩), .int .i64 p, .int .i64 k, .int .i64 (nc k)] 60))
  clear hb1 F0 XI0 Z0 XI1
  have i0a : (w1.alloc (.cells #[.pointer (some ⟨g, 0, none⟩), .int .i64 p, .int .i64 k, .int .i64 (nc k)] 60)).cell? ⟨w.heap.size, 0, none⟩ = some (.int .i64 f) := cell_of XI2.out 0
  have i1a : (w1.alloc (.cells #[.pointer (some ⟨g, 0, none⟩), .int .i64 p, .int .i64 k, .int .i64 (nc k)] 60)).cell? ⟨w.heap.size, 1, none⟩ = some (.int .i64 n) := cell_of XI2.out 1
  have c0a : (w1.alloc (.cells #[.pointer (some ⟨g, 0, none⟩), .int .i64 p, .int .i64 k, .int .i64 (nc k)] 60)).cell? ⟨w1.heap.size, 0, none⟩ = some (.pointer (some ⟨g, 0, none⟩)) := cell_of XC2.out 0
  have c1a : (w1.alloc (.cells #[.pointer (some ⟨g, 0, none⟩), .int .i64 p, .int .i64 k, .int .i64 (nc k)] 60)).cell? ⟨w1.heap.size, 1, none⟩ = some (.int .i64 p) := cell_of XC2.out 1
  have c2a : (w1.alloc (.cells #[.pointer (some ⟨g, 0, none⟩), .int .i64 p, .int .i64 k, .int .i64 (nc k)] 60)).cell? ⟨w1.heap.size, 2, none⟩ = some (.int .i64 k) := cell_of XC2.out 2
  have c3a : (w1.alloc (.cells #[.pointer (some ⟨g, 0, none⟩), .int .i64 p, .int .i64 k, .int .i64 (nc k)] 60)).cell? ⟨w1.heap.size, 3, none⟩ = some (.int .i64 (nc k)) := cell_of XC2.out 3
  go_wp2_with fail
  go_ret2
  exact ⟨rfl, F2.out.below (Nat.le_refl _) (fun _ h => h.elim)⟩

set_option maxRecDepth 100000 in
set_option maxHeartbeats 6400000 in
theorem all_go (B g : Nat) (v : Value) (l : List Int) (p : Nat) (k : Int) (f : Int) (n : Nat) (hp : p < 64) (hk : 0 < nc k) (hl : 32 * p + 32 ≤ l.length) (hh : n ≤ nc k) (w : World) (hs : M w B g v l) :
    Calls Try.prog 17 #[.pointer (some ⟨g, 0, none⟩), .int .i64 p, .int .i64 k, .agg #[.int .i64 f, .int .i64 n]] w (AllPost (goL l p k n f []) w) := by
  have HO := Lib.hid (fun W (hW : Fr No w W) => open_true hp hk hl (hs.no hW))
  obtain ⟨G, hG⟩ : ∃ G, G = goL l p k n f [] := ⟨_, rfl⟩
  have HGG := Lib.hid hG
  rw [← hG]
  clear hG
  have HI := Lib.hid (fun a W => is_any g p k a W)
  have HN := Lib.hid (fun (a : Nat) (ha : a < nc k) W (hW : Fr No w W) => next_any B g v l p k a hp ha hl W (hs.no hW))
  have hcn := nc_le k
  have i0 : (0 : Int) ≤ (n : Int) := Int.natCast_nonneg _
  have g1 : decide ((n : Int) < 0) = false := decide_eq_false (by omega)
  have g2 : decide ((nc k : Int) < (n : Int)) = false := decide_eq_false (by omega)
  have g3 : decide (nc k < n) = false := decide_eq_false (by omega)
  have HNK := Lib.hid hh
  clear hs hp hk hl hh
  go_enter Try.func17, Try.ntmps17
  go_wp2_with fail
  have F0 := Lib.hid ((Fr.refl No w).alloc (.cells #[.int .i64 f, .int .i64 n] 29))
  have XI0 := Lib.hid (heap_alloc_new w (.cells #[.int .i64 f, .int .i64 n] 29))
  have Z0 := Lib.hid (show (w.alloc (.cells #[.int .i64 f, .int .i64 n] 29)).heap.size = w.heap.size + 1 by simp)
  generalize w.alloc (.cells #[.int .i64 f, .int .i64 n] 29) = w0 at F0 XI0 Z0 ⊢
  with_reducible refine (HO.out _ F0.out).mono ?_
  rintro e w1 ⟨rfl, hb1⟩
  have F1 := Lib.hid (F0.out.trans (Fr.of_below hb1 No) (fun i (h : No i) => h.elim))
  have HBS := Lib.hid (show w.heap.size + 1 ≤ w1.heap.size by have := hb1.size; have := Z0.out; omega)
  have XI1 := Lib.hid ((Fr.of_below hb1 No).blk XI0.out (fun h => h))
  have XI2 := Lib.hid (alloc_of XI1.out (.cells #[.pointer (some ⟨g, 0, none⟩), .int .i64 p, .int .i64 k, .int .i64 (nc k)] 60))
  have XC2 := Lib.hid (heap_alloc_new w1 (.cells #[.pointer (some ⟨g, 0, none⟩), .int .i64 p, .int .i64 k, .int .i64 (nc k)] 60))
  have F2 := Lib.hid (F1.out.alloc (.cells #[.pointer (some ⟨g, 0, none⟩), .int .i64 p, .int .i64 k, .int .i64 (nc k)] 60))
  clear hb1 F0 XI0 Z0 XI1
  have i0a : (w1.alloc (.cells #[.pointer (some ⟨g, 0, none⟩), .int .i64 p, .int .i64 k, .int .i64 (nc k)] 60)).cell? ⟨w.heap.size, 0, none⟩ = some (.int .i64 f) := cell_of XI2.out 0
  have i1a : (w1.alloc (.cells #[.pointer (some ⟨g, 0, none⟩), .int .i64 p, .int .i64 k, .int .i64 (nc k)] 60)).cell? ⟨w.heap.size, 1, none⟩ = some (.int .i64 n) := cell_of XI2.out 1
  have c0a : (w1.alloc (.cells #[.pointer (some ⟨g, 0, none⟩), .int .i64 p, .int .i64 k, .int .i64 (nc k)] 60)).cell? ⟨w1.heap.size, 0, none⟩ = some (.pointer (some ⟨g, 0, none⟩)) := cell_of XC2.out 0
  have c1a : (w1.alloc (.cells #[.pointer (some ⟨g, 0, none⟩), .int .i64 p, .int .i64 k, .int .i64 (nc k)] 60)).cell? ⟨w1.heap.size, 1, none⟩ = some (.int .i64 p) := cell_of XC2.out 1
  have c2a : (w1.alloc (.cells #[.pointer (some ⟨g, 0, none⟩), .int .i64 p, .int .i64 k, .int .i64 (nc k)] 60)).cell? ⟨w1.heap.size, 2, none⟩ = some (.int .i64 k) := cell_of XC2.out 2
  have c3a : (w1.alloc (.cells #[.pointer (some ⟨g, 0, none⟩), .int .i64 p, .int .i64 k, .int .i64 (nc k)] 60)).cell? ⟨w1.heap.size, 3, none⟩ = some (.int .i64 (nc k)) := cell_of XC2.out 3
  have XI3 := Lib.hid (alloc_of XI2.out (.cells #[Value.bool false, Value.bool false, Value.bool false, Value.bool false, Value.bool false, Value.bool false, Value.bool false, Value.bool false, Value.bool false, Value.bool false, Value.bool false, Value.bool false, Value.bool false, Value.bool false, Value.bool false, Value.bool false, Value.bool false, Value.bool false, Value.bool false, Value.bool false, Value.bool false, Value.bool false, Value.bool false, Value.bool false, Value.bool false, Value.bool false, Value.bool false, Value.bool false, Value.bool false, Value.bool false, Value.bool false, Value.bool false] 68))
  have XC3 := Lib.hid (alloc_of XC2.out (.cells #[Value.bool false, Value.bool false, Value.bool false, Value.bool false, Value.bool false, Value.bool false, Value.bool false, Value.bool false, Value.bool false, Value.bool false, Value.bool false, Value.bool false, Value.bool false, Value.bool false, Value.bool false, Value.bool false, Value.bool false, Value.bool false, Value.bool false, Value.bool false, Value.bool false, Value.bool false, Value.bool false, Value.bool false, Value.bool false, Value.bool false, Value.bool false, Value.bool false, Value.bool false, Value.bool false, Value.bool false, Value.bool false] 68))
  have XM3 : Hid (((w1.alloc (.cells #[.pointer (some ⟨g, 0, none⟩), .int .i64 p, .int .i64 k, .int .i64 (nc k)] 60)).alloc (.cells #[Value.bool false, Value.bool false, Value.bool false, Value.bool false, Value.bool false, Value.bool false, Value.bool false, Value.bool false, Value.bool false, Value.bool false, Value.bool false, Value.bool false, Value.bool false, Value.bool false, Value.bool false, Value.bool false, Value.bool false, Value.bool false, Value.bool false, Value.bool false, Value.bool false, Value.bool false, Value.bool false, Value.bool false, Value.bool false, Value.bool false, Value.bool false, Value.bool false, Value.bool false, Value.bool false, Value.bool false, Value.bool false] 68)).heap[w1.heap.size + 1]? = some (.cells (mt []) 68 (0, 0))) := Lib.hid (by
    have h := heap_alloc_new (w1.alloc (.cells #[.pointer (some ⟨g, 0, none⟩), .int .i64 p, .int .i64 k, .int .i64 (nc k)] 60)) (.cells #[Value.bool false, Value.bool false, Value.bool false, Value.bool false, Value.bool false, Value.bool false, Value.bool false, Value.bool false, Value.bool false, Value.bool false, Value.bool false, Value.bool false, Value.bool false, Value.bool false, Value.bool false, Value.bool false, Value.bool false, Value.bool false, Value.bool false, Value.bool false, Value.bool false, Value.bool false, Value.bool false, Value.bool false, Value.bool false, Value.bool false, Value.bool false, Value.bool false, Value.bool false, Value.bool false, Value.bool false, Value.bool false] 68)
    rw [show (w1.alloc (.cells #[.pointer (some ⟨g, 0, none⟩), .int .i64 p, .int .i64 k, .int .i64 (nc k)] 60)).heap.size = w1.heap.size + 1 from by simp] at h
    rw [h, mt_nil])
  have F3 := Lib.hid (F2.out.alloc (.cells #[Value.bool false, Value.bool false, Value.bool false, Value.bool false, Value.bool false, Value.bool false, Value.bool false, Value.bool false, Value.bool false, Value.bool false, Value.bool false, Value.bool false, Value.bool false, Value.bool false, Value.bool false, Value.bool false, Value.bool false, Value.bool false, Value.bool false, Value.bool false, Value.bool false, Value.bool false, Value.bool false, Value.bool false, Value.bool false, Value.bool false, Value.bool false, Value.bool false, Value.bool false, Value.bool false, Value.bool false, Value.bool false] 68))
  have i0b : ((w1.alloc (.cells #[.pointer (some ⟨g, 0, none⟩), .int .i64 p, .int .i64 k, .int .i64 (nc k)] 60)).alloc (.cells #[Value.bool false, Value.bool false, Value.bool false, Value.bool false, Value.bool false, Value.bool false, Value.bool false, Value.bool false, Value.bool false, Value.bool false, Value.bool false, Value.bool false, Value.bool false, Value.bool false, Value.bool false, Value.bool false, Value.bool false, Value.bool false, Value.bool false, Value.bool false, Value.bool false, Value.bool false, Value.bool false, Value.bool false, Value.bool false, Value.bool false, Value.bool false, Value.bool false, Value.bool false, Value.bool false, Value.bool false, Value.bool false] 68)).cell? ⟨w.heap.size, 0, none⟩ = some (.int .i64 f) := cell_of XI3.out 0
  have i1b : ((w1.alloc (.cells #[.pointer (some ⟨g, 0, none⟩), .int .i64 p, .int .i64 k, .int .i64 (nc k)] 60)).alloc (.cells #[Value.bool false, Value.bool false, Value.bool false, Value.bool false, Value.bool false, Value.bool false, Value.bool false, Value.bool false, Value.bool false, Value.bool false, Value.bool false, Value.bool false, Value.bool false, Value.bool false, Value.bool false, Value.bool false, Value.bool false, Value.bool false, Value.bool false, Value.bool false, Value.bool false, Value.bool false, Value.bool false, Value.bool false, Value.bool false, Value.bool false, Value.bool false, Value.bool false, Value.bool false, Value.bool false, Value.bool false, Value.bool false] 68)).cell? ⟨w.heap.size, 1, none⟩ = some (.int .i64 n) := cell_of XI3.out 1
  have c0b : ((w1.alloc (.cells #[.pointer (some ⟨g, 0, none⟩), .int .i64 p, .int .i64 k, .int .i64 (nc k)] 60)).alloc (.cells #[Value.bool false, Value.bool false, Value.bool false, Value.bool false, Value.bool false, Value.bool false, Value.bool false, Value.bool false, Value.bool false, Value.bool false, Value.bool false, Value.bool false, Value.bool false, Value.bool false, Value.bool false, Value.bool false, Value.bool false, Value.bool false, Value.bool false, Value.bool false, Value.bool false, Value.bool false, Value.bool false, Value.bool false, Value.bool false, Value.bool false, Value.bool false, Value.bool false, Value.bool false, Value.bool false, Value.bool false, Value.bool false] 68)).cell? ⟨w1.heap.size, 0, none⟩ = some (.pointer (some ⟨g, 0, none⟩)) := cell_of XC3.out 0
  have c1b : ((w1.alloc (.cells #[.pointer (some ⟨g, 0, none⟩), .int .i64 p, .int .i64 k, .int .i64 (nc k)] 60)).alloc (.cells #[Value.bool false, Value.bool false, Value.bool false, Value.bool false, Value.bool false, Value.bool false, Value.bool false, Value.bool false, Value.bool false, Value.bool false, Value.bool false, Value.bool false, Value.bool false, Value.bool false, Value.bool false, Value.bool false, Value.bool false, Value.bool false, Value.bool false, Value.bool false, Value.bool false, Value.bool false, Value.bool false, Value.bool false, Value.bool false, Value.bool false, Value.bool false, Value.bool false, Value.bool false, Value.bool false, Value.bool false, Value.bool false] 68)).cell? ⟨w1.heap.size, 1, none⟩ = some (.int .i64 p) := cell_of XC3.out 1
  have c2b : ((w1.alloc (.cells #[.pointer (some ⟨g, 0, none⟩), .int .i64 p, .int .i64 k, .int .i64 (nc k)] 60)).alloc (.cells #[Value.bool false, Value.bool false, Value.bool false, Value.bool false, Value.bool false, Value.bool false, Value.bool false, Value.bool false, Value.bool false, Value.bool false, Value.bool false, Value.bool false, Value.bool false, Value.bool false, Value.bool false, Value.bool false, Value.bool false, Value.bool false, Value.bool false, Value.bool false, Value.bool false, Value.bool false, Value.bool false, Value.bool false, Value.bool false, Value.bool false, Value.bool false, Value.bool false, Value.bool false, Value.bool false, Value.bool false, Value.bool false] 68)).cell? ⟨w1.heap.size, 2, none⟩ = some (.int .i64 k) := cell_of XC3.out 2
  have c3b : ((w1.alloc (.cells #[.pointer (some ⟨g, 0, none⟩), .int .i64 p, .int .i64 k, .int .i64 (nc k)] 60)).alloc (.cells #[Value.bool false, Value.bool false, Value.bool false, Value.bool false, Value.bool false, Value.bool false, Value.bool false, Value.bool false, Value.bool false, Value.bool false, Value.bool false, Value.bool false, Value.bool false, Value.bool false, Value.bool false, Value.bool false, Value.bool false, Value.bool false, Value.bool false, Value.bool false, Value.bool false, Value.bool false, Value.bool false, Value.bool false, Value.bool false, Value.bool false, Value.bool false, Value.bool false, Value.bool false, Value.bool false, Value.bool false, Value.bool false] 68)).cell? ⟨w1.heap.size, 3, none⟩ = some (.int .i64 (nc k)) := cell_of XC3.out 3
  go_wp2_with fail
  generalize (w1.alloc (.cells #[.pointer (some ⟨g, 0, none⟩), .int .i64 p, .int .i64 k, .int .i64 (nc k)] 60)).alloc (.cells #[Value.bool false, Value.bool false, Value.bool false, Value.bool false, Value.bool false, Value.bool false, Value.bool false, Value.bool false, Value.bool false, Value.bool false, Value.bool false, Value.bool false, Value.bool false, Value.bool false, Value.bool false, Value.bool false, Value.bool false, Value.bool false, Value.bool false, Value.bool false, Value.bool false, Value.bool false, Value.bool false, Value.bool false, Value.bool false, Value.bool false, Value.bool false, Value.bool false, Value.bool false, Value.bool false, Value.bool false, Value.bool false] 68) = w3 at XI3 XC3 XM3 F3 ⊢
  have HB3 := Lib.hid (show w1.heap.size + 1 < w3.heap.size from lt_of_blk XM3.out)
  clear i0b i1b c0b c1b c2b c3b XI2 XC2 F2 XI3 HO F1
  obtain ⟨bc, hbc⟩ : ∃ bc, bc = w1.heap.size := ⟨_, rfl⟩
  rw [← hbc] at XC3 XM3 HBS HB3 ⊢
  clear hbc
  go_loopw [12, 14, 40] (fun o a i wr => ∃ j : Nat, j ≤ n ∧ i = .int .i64 j ∧ ∃ x : Int, a = .int .i64 x ∧ Hid (∃ os : List Int, os.length = j ∧ Nums.Own wr w.heap.size o os ∧ wr.heap[bc + 1]? = some (.cells (mt os) 68 (0, 0)) ∧ wr.heap[bc]? = some (.cells #[.pointer (some ⟨g, 0, none⟩), .int .i64 p, .int .i64 k, .int .i64 (nc k)] 60 (0, 0)) ∧ goL l p k (n - j) x os = G ∧ Fr No w wr)) (fun _ _ i _ => n - (intOf i).toNat)
  case atStart => exact ⟨0, Nat.zero_le _, rfl, f, rfl, Lib.hid ⟨[], rfl, Nums.Own.nil _ _, XM3.out, XC3.out, HGG.out.symm, F3.out⟩⟩
  case round =>
    obtain ⟨j, hj, rfl, x, rfl, HQ⟩ := hrel
    rename_i o
    obtain ⟨os, hlen, hown, hxm, hxc, hgo, hfr⟩ := HQ.out
    obtain ⟨Ao, co, rfl, hco⟩ := hown.slice
    have HOW := Lib.hid hown
    have HXM := Lib.hid hxm
    have HXC := Lib.hid hxc
    have HF := Lib.hid hfr
    have HLN := Lib.hid hlen
    have i1 : (0 : Int) ≤ (j : Int) := Int.natCast_nonneg _
    have d0 : wr.cell? ⟨bc, 0, none⟩ = some (.pointer (some ⟨g, 0, none⟩)) := cell_of hxc 0
    have d1 : wr.cell? ⟨bc, 1, none⟩ = some (.int .i64 p) := cell_of hxc 1
    have d2 : wr.cell? ⟨bc, 2, none⟩ = some (.int .i64 k) := cell_of hxc 2
    have d3 : wr.cell? ⟨bc, 3, none⟩ = some (.int .i64 (nc k)) := cell_of hxc 3
    have hln : os.length = j := hlen
    have hnk := HNK.out
    rw [hln] at HOW ⊢
    clear HQ hown hxm hxc hfr hlen
    by_cases hlt : j < n
    · have i2 : (j : Int) < (n : Int) := by omega
      have HJ := Lib.hid hlt
      rw [show n - j = (n - (j + 1)) + 1 by omega] at hgo
      unfold goL at hgo
      clear hlt hln
      by_cases hv : 0 ≤ x ∧ x < (nc k : Int)
      · obtain ⟨a, rfl⟩ := Int.eq_ofNat_of_zero_le hv.1
        have ha : a < nc k := by omega
        have i3 : (0 : Int) ≤ (a : Int) := hv.1
        have i4 : (a : Int) < 32 := by omega
        have HA := Lib.hid ha
        have HIA := Lib.hid (show (decide ((0 : Int) ≤ (a : Int)) && decide ((a : Int) < (nc k : Int))) = true by rw [decide_eq_true hv.1, decide_eq_true hv.2]; rfl)
        have ca : ∀ W : World, W.heap[bc + 1]? = some (.cells (mt os) 68 (0, 0)) → W.cell? ⟨bc + 1, a, none⟩ = some (.bool (decide ((a : Int) ∈ os))) := fun W hW => by
          rw [cell_of hW, mt_at, if_pos (by omega)]
        have CA := Lib.hid ca
        clear ca hv ha
        go_wp2_with fail
        refine (HI.out (a : Int) _).mono ?_
        rintro e w5 ⟨rfl, hb5⟩
        rw [HIA.out]
        have F5 := Lib.hid (show Fr No wr w5 from Fr.then_below (by repeat (first | exact Fr.refl _ _ | apply Fr.drewN | apply Fr.drew | apply Fr.alloc)) hb5)
        have XM5 := Lib.hid (F5.out.blk HXM.out (fun h => h))
        have XC5 := Lib.hid (F5.out.blk HXC.out (fun h => h))
        have m5 := CA.out w5 XM5.out
        have y5 := free_of XM5.out a
        clear hb5
        by_cases hm : (a : Int) ∈ os
        · rw [decide_eq_true hm] at m5
          rw [if_neg (fun h => h.2.2 hm)] at hgo
          have HG := Lib.hid hgo
          clear hgo hm
          go_wp2_with fail
          go_ret2
          rw [← HG.out]
          exact ⟨rfl, (HF.out.trans F5.out (fun i (h : No i) => h.elim)).below (Nat.le_refl _) (fun _ h => h.elim)⟩
        · rw [decide_eq_false hm] at m5
          rw [if_pos ⟨i3, by have := HA.out; omega, hm⟩] at hgo
          have HG := Lib.hid hgo
          clear hgo hm
          go_upto_region 12 with (fail)
          have NEC : bc + 1 ≠ bc := by omega
          have X6 := Lib.hid (show (w5.setCell ⟨bc + 1, a, none⟩ (.bool true)).heap[bc + 1]? = some (.cells (mt (os ++ [(a : Int)])) 68 (0, 0)) by rw [set_of XM5.out, mt_set os a (by omega)])
          have C6 := Lib.hid (far_of XC5.out (p := ⟨bc + 1, a, none⟩) (by simp) (.bool true))
          have O6 : Hid (Nums.Own (w5.setCell ⟨bc + 1, a, none⟩ (.bool true)) w.heap.size (.slice Ao j co) os) := Lib.hid (own_setCell (show Nums.Own w5 w.heap.size (.slice Ao j co) os from HOW.out.fr F5.out (fun _ _ h => h)) (own_ne_blk (HOW.out.fr F5.out (fun _ _ h => h)) XM5.out (by decide)) _)
          have F6 : Hid (Fr No w (w5.setCell ⟨bc + 1, a, none⟩ (.bool true))) := Lib.hid ((HF.out.trans F5.out (fun i (h : No i) => h.elim)).setCell (p := ⟨bc + 1, a, none⟩) (.inr (by have := HBS.out; simp; omega)) _)
          clear m5 y5 d0 d1 d2 d3 XM5 XC5 NEC HXM HXC
          generalize w5.setCell ⟨bc + 1, a, none⟩ (.bool true) = w6 at X6 C6 O6 F6 ⊢
          go_wp2_with (at_builtin; refine Nums.app_one (l := os) (y := (a : Int)) rfl _ _ rfl rfl (O6.out.fr (Fr.alloc (Fr.refl No _) _) (fun _ _ h => h)) rfl rfl (heap_alloc_new _ _) (by decide) (by have := HLN.out; have := HJ.out; have := HNK.out; omega) (by have := F6.out.size; simp; omega) ?_; intro v7 w7 h1 h2 h3; refine Hid.out ?_)
          have O7 := Lib.hid h1
          have FG := Fr.grown (S := fun k => (Value.slice Ao j co).ownBlock = some k) (Fr.refl _ _) h2 (fun k hk => .inl hk)
          have ne1 := own_ne_blk O6.out X6.out (by decide)
          have ne2 := own_ne_blk O6.out C6.out (by decide)
          have X7 := Lib.hid (FG.blk (alloc_of X6.out _) ne1)
          have C7 := Lib.hid (FG.blk (alloc_of C6.out _) ne2)
          have F7 := Lib.hid (show Fr No w w7 from Fr.grown (F6.out.alloc _) h2 (fun k hk => .inr (O6.out.lt k hk).1))
          have d0 : w7.cell? ⟨bc, 0, none⟩ = some (.pointer (some ⟨g, 0, none⟩)) := cell_of C7.out 0
          have d1 : w7.cell? ⟨bc, 1, none⟩ = some (.int .i64 p) := cell_of C7.out 1
          have d2 : w7.cell? ⟨bc, 2, none⟩ = some (.int .i64 k) := cell_of C7.out 2
          have d3 : w7.cell? ⟨bc, 3, none⟩ = some (.int .i64 (nc k)) := cell_of C7.out 3
          clear h1 h2 h3 FG ne1 ne2 X6 C6 O6
          refine Lib.hid ?_
          go_wp2_with fail
          refine (HN.out a HA.out _ (by repeat (first | exact F7.out | apply Fr.drewN | apply Fr.drew | apply Fr.alloc))).mono ?_
          rintro e w8 ⟨rfl, hb8⟩
          have FQ := Lib.hid (show Fr No w7 w8 from Fr.then_below (by repeat (first | exact Fr.refl _ _ | apply Fr.drewN | apply Fr.drew | apply Fr.alloc)) hb8)
          have F8 := Lib.hid (F7.out.trans FQ.out (fun i (h : No i) => h.elim))
          have X8 := Lib.hid (FQ.out.blk X7.out (fun h => h))
          have C8 := Lib.hid (FQ.out.blk C7.out (fun h => h))
          have O8 := Lib.hid (O7.out.fr FQ.out (fun _ _ h => h))
          clear hb8 X7 C7 d0 d1 d2 d3 O7
          have hta : ((a : Int)).toNat = a := by omega
          have HG2 := HG.out
          rw [hta] at HG2
          clear hta
          cases hx : lk l p k a with
          | none =>
            rw [hx] at HG2
            have HG3 := Lib.hid HG2
            clear HG2 hx
            unfold told
            dsimp only
            go_wp2_with fail
            go_ret2
            rw [← HG3.out]
            exact ⟨rfl, F8.out.below (Nat.le_refl _) (fun _ h => h.elim)⟩
          | some y =>
            rw [hx] at HG2
            have HG3 := Lib.hid HG2
            clear HG2 hx
            unfold told
            dsimp only
            go_wp2_with fail
            go_roundw
            case rel => exact ⟨j + 1, HJ.out, by go_num, y, rfl, Lib.hid ⟨os ++ [(a : Int)], by rw [List.length_append, HLN.out]; rfl, O8.out, X8.out, C8.out, HG3.out, F8.out⟩⟩
            case measure => have := HJ.out; simp [intOf]; omega
      · have hn : (decide (0 ≤ x) && decide (x < (nc k : Int))) = false := by rw [Bool.and_eq_false_iff, decide_eq_false_iff_not, decide_eq_false_iff_not]; omega
        rw [if_neg (fun h => hv ⟨h.1, h.2.1⟩)] at hgo
        have HG := Lib.hid hgo
        have HIA := Lib.hid hn
        clear hv hn hgo
        go_wp2_with fail
        refine (HI.out x _).mono ?_
        rintro e w5 ⟨rfl, hb5⟩
        rw [HIA.out]
        have F5 := Lib.hid (show Fr No wr w5 from Fr.then_below (by repeat (first | exact Fr.refl _ _ | apply Fr.drewN | apply Fr.drew | apply Fr.alloc)) hb5)
        clear hb5
        go_wp2_with fail
        go_ret2
        rw [← HG.out]
        exact ⟨rfl, (HF.out.trans F5.out (fun i (h : No i) => h.elim)).below (Nat.le_refl _) (fun _ h => h.elim)⟩
    · obtain rfl : j = n := by omega
      rw [Nat.sub_self] at hgo
      unfold goL at hgo
      have i2 : ¬ (j : Int) < (j : Int) := by omega
      clear hlt
      by_cases he : x = (nc k : Int)
      · rw [if_pos he] at hgo
        have HG := Lib.hid hgo
        subst he
        have g5 : ((nc k : Int) != (nc k : Int)) = false := by simp
        clear hgo
        go_wp2_with fail
        go_ret2
        rw [← HG.out]
        exact ⟨_, rfl, HOW.out, HF.out.below (Nat.le_refl _) (fun _ h => h.elim)⟩
      · rw [if_neg he] at hgo
        have HG := Lib.hid hgo
        have g5 : (x != (nc k : Int)) = true := by simpa using he
        clear hgo he
        go_wp2_with fail
        go_ret2
        rw [← HG.out]
        exact ⟨rfl, HF.out.below (Nat.le_refl _) (fun _ h => h.elim)⟩

end Go.Proofs.Ytbndmcblkfaheaa.Chain
