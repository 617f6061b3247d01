/- Proved: what Build of package chain does and answers. -/
import Derived.Test.YtbndmcblkfaheaaChain2
namespace Go.Proofs.Ytbndmcblkfaheaa.Chain
open Go.RowKit Go.Proofs.Ytbndmcblkfaheaa.H Go.Proofs.Ytbndmcblkfaheaa.Words Go.Proofs.Ytbndmcblkfaheaa.Mem
set_option linter.unusedVariables false
set_option linter.unusedSimpArgs false
attribute [local irreducible] nc sz

/-- a page's words, all 0, of which the first j cells tell the next one -/
def bl (l : List Int) (p : Nat) (k : Int) (j : Nat) : List Int := (List.range j).foldl (fun l i => l.set (32 * p + i * sz k) (-1 - ((i : Int) + 1))) (fillL l (32 * p) 32 0)

theorem bl_succ (l : List Int) (p : Nat) (k : Int) (j : Nat) : bl l p k (j + 1) = (bl l p k j).set (32 * p + j * sz k) (-1 - ((j : Int) + 1)) := by
  unfold bl
  rw [List.range_succ, List.foldl_append]
  rfl

theorem bl_length (l : List Int) (p : Nat) (k : Int) (j : Nat) (h : 32 * p + 32 ≤ l.length) : (bl l p k j).length = l.length := by
  induction j with
  | zero => exact fillL_length l _ _ _ (by omega)
  | succ j ih => rw [bl_succ, List.length_set, ih]

theorem open_true {B g : Nat} {v : Value} {l : List Int} {p : Nat} {k : Int} (hp : p < 64) (hk : 0 < nc k) (hl : 32 * p + 32 ≤ l.length) {w : World} (hs : M w B g v l) :
    Calls Try.prog 27 #[.pointer (some ⟨g, 0, none⟩), .int .i64 p, .int .i64 k] w (Same w (.tuple #[.agg #[.pointer (some ⟨g, 0, none⟩), .int .i64 p, .int .i64 k, .int .i64 (nc k)], .bool true])) := by
  have h := open_any B g v l p k w hs
  rw [decide_eq_true (show Op l p k from ⟨by omega, by omega, hk, by omega⟩)] at h
  exact h

theorem open_false {B g : Nat} {v : Value} {l : List Int} {p k : Int} (ho : ¬ Op l p k) {w : World} (hs : M w B g v l) :
    Calls Try.prog 27 #[.pointer (some ⟨g, 0, none⟩), .int .i64 p, .int .i64 k] w (Same w (.tuple #[.agg #[.pointer (some ⟨g, 0, none⟩), .int .i64 p, .int .i64 k, .int .i64 (nc k)], .bool false])) := by
  have h := open_any B g v l p k w hs
  rw [decide_eq_false ho] at h
  exact h

theorem fill32 {B g : Nat} {v : Value} {l : List Int} {p : Nat} (hp : p < 64) (hl : 32 * p + 32 ≤ l.length) {w : World} (hs : M w B g v l) :
    Calls Try.prog 19 #[.pointer (some ⟨g, 0, none⟩), .int .i64 (32 * (p : Int)), .int .i64 32, .int .i64 0] w (FillPost B g v (fillL l (32 * p) 32 0) true w) := by
  have h := fill_yes B g v l (32 * p) 32 0 w hs hl
  rw [show ((32 * p : Nat) : Int) = 32 * (p : Int) by simp] at h
  exact h

def BuildPost (B g : Nat) (v : Value) (l' : List Int) (n : Nat) (w : World) (e : Ending) (w' : World) : Prop :=
  e = .returned (.tuple #[.agg #[.int .i64 0, .int .i64 n], .bool true]) ∧ M w' B g v l' ∧ Fr (Foot g v) w w'

set_option maxRecDepth 100000 in
set_option maxHeartbeats 6400000 in
theorem build_no (B g : Nat) (v : Value) (l : List Int) (p k : Int) (ho : ¬ Op l p k) (w : World) (hs : M w B g v l) :
    Calls Try.prog 10 #[.pointer (some ⟨g, 0, none⟩), .int .i64 p, .int .i64 k] w (Same w (.tuple #[.agg #[.int .i64 0, .int .i64 0], .bool false])) := by
  have HO := Lib.hid (fun W (hW : Fr No w W) => open_false ho (hs.no hW))
  clear hs ho
  go_enter Try.func10, Try.ntmps10
  go_wp2_with fail
  with_reducible refine (HO.out _ (by repeat (first | exact Fr.refl _ _ | apply Fr.drewN | apply Fr.drew | apply Fr.alloc))).mono ?_
  rintro e w1 ⟨rfl, hb1⟩
  have F1 := Lib.hid (show Fr No w w1 from Fr.then_below (by repeat (first | exact Fr.refl _ _ | apply Fr.drewN | apply Fr.drew | apply Fr.alloc)) hb1)
  have xr : w1.heap[w.heap.size]? = some (.cells #[.int .i64 0, .int .i64 0] 29 (0, 0)) := (hb1.block _ (by simp)).trans (heap_alloc_new w _)
  have XR := Lib.hid (alloc_of xr (.cells #[.pointer (some ⟨g, 0, none⟩), .int .i64 p, .int .i64 k, .int .i64 (nc k)] 60))
  have F2 := Lib.hid (F1.out.alloc (.cells #[.pointer (some ⟨g, 0, none⟩), .int .i64 p, .int .i64 k, .int .i64 (nc k)] 60))
  have c0 : (w1.alloc (.cells #[.pointer (some ⟨g, 0, none⟩), .int .i64 p, .int .i64 k, .int .i64 (nc k)] 60)).cell? ⟨w.heap.size, 0, none⟩ = some (.int .i64 0) := cell_of XR.out 0
  have c1 : (w1.alloc (.cells #[.pointer (some ⟨g, 0, none⟩), .int .i64 p, .int .i64 k, .int .i64 (nc k)] 60)).cell? ⟨w.heap.size, 1, none⟩ = some (.int .i64 0) := cell_of XR.out 1
  have y0 := free_of XR.out 0
  have y1 := free_of XR.out 1
  clear hb1 xr
  go_wp2_with fail
  refine bodyPost_ret (v := .tuple #[.agg #[.int .i64 0, .int .i64 0], .bool false]) (by simp [results, Try.results10, go_sem, cell_of (set2_of XR.out (.int .i64 0) (.int .i64 0))]) rfl ⟨rfl, ?_⟩
  exact (((F2.out.setCell (p := ⟨w.heap.size, 0, none⟩) (.inr (Nat.le_refl _)) _).setCell (p := ⟨w.heap.size, 1, none⟩) (.inr (Nat.le_refl _)) _).below (Nat.le_refl _) (fun _ h => h.elim))

set_option maxRecDepth 100000 in
set_option maxHeartbeats 6400000 in
theorem build_yes (B g : Nat) (v : Value) (l : List Int) (p : Nat) (k : Int) (hp : p < 64) (hk : 0 < nc k) (hl : 32 * p + 32 ≤ l.length) (w : World) (hs : M w B g v l) :
    Calls Try.prog 10 #[.pointer (some ⟨g, 0, none⟩), .int .i64 p, .int .i64 k] w (BuildPost B g v (bl l p k (nc k)) (nc k) w) := by
  have HO := Lib.hid (fun W (hW : Fr No w W) => open_true hp hk hl (hs.no hW))
  have HE := Lib.hid (ends_yes p hp)
  have HS := Lib.hid hs
  have HL := Lib.hid hl
  have HP := Lib.hid hp
  have hn := nc_le k
  have HLT := Lib.hid (fun j hj => (hs.foot_lt j hj).2)
  clear hs hp hk hl
  go_enter Try.func10, Try.ntmps10
  go_wp2_with fail
  with_reducible refine (HO.out _ (by repeat (first | exact Fr.refl _ _ | apply Fr.drewN | apply Fr.drew | apply Fr.alloc))).mono ?_
  rintro e w1 ⟨rfl, hb1⟩
  have F1 := Lib.hid (show Fr No w w1 from Fr.then_below (by repeat (first | exact Fr.refl _ _ | apply Fr.drewN | apply Fr.drew | apply Fr.alloc)) hb1)
  have xr : w1.heap[w.heap.size]? = some (.cells #[.int .i64 0, .int .i64 0] 29 (0, 0)) := (hb1.block _ (by simp)).trans (heap_alloc_new w _)
  have XR := Lib.hid (alloc_of xr (.cells #[.pointer (some ⟨g, 0, none⟩), .int .i64 p, .int .i64 k, .int .i64 (nc k)] 60))
  have XC := Lib.hid (heap_alloc_new w1 (.cells #[.pointer (some ⟨g, 0, none⟩), .int .i64 p, .int .i64 k, .int .i64 (nc k)] 60))
  have F2 := Lib.hid (F1.out.alloc (.cells #[.pointer (some ⟨g, 0, none⟩), .int .i64 p, .int .i64 k, .int .i64 (nc k)] 60))
  have HB := Lib.hid (show w.heap.size < w1.heap.size by have := hb1.size; simp at this; omega)
  clear hb1 xr
  generalize hgb : w1.heap.size = b at XC HB
  go_wp2_with fail
  with_reducible refine (HE.out _).mono ?_
  rintro e w2 ⟨rfl, q2, rfl⟩
  go_wp2_with fail
  with_reducible refine (fill32 HP.out HL.out (HS.out.no (F2.out.drewN q2))).mono ?_
  rintro e w3 ⟨rfl, hm3, hf3⟩
  have M3 := Lib.hid hm3
  have NB : Hid (¬ Foot g v b) := Lib.hid (fun h => by have := HLT.out _ h; have := HB.out; omega)
  have NR : Hid (¬ Foot g v w.heap.size) := Lib.hid (fun h => by have := HLT.out _ h; omega)
  have XC3 := Lib.hid (hf3.blk (drewN_of XC.out q2) NB.out)
  have XR3 := Lib.hid (hf3.blk (drewN_of XR.out q2) NR.out)
  have F3 := Lib.hid (show Fr (Foot g v) w w3 from ((F2.out.mono (fun _ h => h.elim)).drewN q2).trans hf3 (fun i hi => .inl hi))
  have d3 : w3.cell? ⟨b, 3, none⟩ = some (.int .i64 (nc k)) := cell_of XC3.out 3
  clear hm3 hf3
  go_wp2_with fail
  go_loopw [35] (fun i wr => ∃ j : Nat, j ≤ nc k ∧ i = .int .i64 j ∧ Hid (M wr B g v (bl l p k j) ∧ Fr (Foot g v) w3 wr)) (fun i _ => nc k - (intOf i).toNat)
  case atStart => exact ⟨0, Nat.zero_le _, rfl, Lib.hid ⟨M3.out, Fr.refl _ _⟩⟩
  case round =>
    obtain ⟨j, hj, rfl, HQ⟩ := hrel
    have i1 : (0 : Int) ≤ (j : Int) := Int.natCast_nonneg _
    have HM := Lib.hid HQ.out.1
    have HF := Lib.hid HQ.out.2
    have XC4 := HQ.out.2.blk XC3.out NB.out
    have c0 : wr.cell? ⟨b, 0, none⟩ = some (.pointer (some ⟨g, 0, none⟩)) := cell_of XC4 0
    have c1 : wr.cell? ⟨b, 1, none⟩ = some (.int .i64 p) := cell_of XC4 1
    have c2 : wr.cell? ⟨b, 2, none⟩ = some (.int .i64 k) := cell_of XC4 2
    have c3 : wr.cell? ⟨b, 3, none⟩ = some (.int .i64 (nc k)) := cell_of XC4 3
    clear HQ XC4 d3
    by_cases hlt : j < nc k
    · have i2 : (j : Int) < (nc k : Int) := by omega
      have HJ := Lib.hid hlt
      clear hlt
      go_wp2_with fail
      refine (link_any B g v (bl l p k j) p k j ((j : Int) + 1) HP.out HJ.out (by rw [bl_length l p k j HL.out]; exact HL.out) (by omega) (by omega) _ (HM.out.no (by repeat (first | exact Fr.refl _ _ | apply Fr.drewN | apply Fr.drew | apply Fr.alloc)))).mono ?_
      rintro e w5 ⟨rfl, hm5, hf5⟩
      have M5 := Lib.hid hm5
      have F5 := Lib.hid (show Fr (Foot g v) wr w5 from Fr.trans (by repeat (first | exact Fr.refl _ _ | apply Fr.drewN | apply Fr.drew | apply Fr.alloc)) hf5 (fun i hi => .inl hi))
      clear hm5 hf5
      go_wp2_with fail
      go_roundw
      case rel => exact ⟨j + 1, HJ.out, by go_num, Lib.hid ⟨by rw [bl_succ]; exact M5.out, HF.out.trans F5.out (fun i hi => .inl hi)⟩⟩
      case measure => have := HJ.out; simp [intOf]; omega
    · obtain rfl : j = nc k := by omega
      have i2 : ¬ ((nc k : Nat) : Int) < ((nc k : Nat) : Int) := by omega
      have XR4 := Lib.hid (HF.out.blk XR3.out NR.out)
      have r0 : wr.cell? ⟨w.heap.size, 0, none⟩ = some (.int .i64 0) := cell_of XR4.out 0
      have r1 : wr.cell? ⟨w.heap.size, 1, none⟩ = some (.int .i64 0) := cell_of XR4.out 1
      have y0 := free_of XR4.out 0
      have y1 := free_of XR4.out 1
      clear hlt
      go_wp2_with fail
      refine bodyPost_ret (v := .tuple #[.agg #[.int .i64 0, .int .i64 (nc k)], .bool true]) (by simp [results, Try.results10, go_sem, cell_of (set2_of XR4.out (.int .i64 0) (.int .i64 (nc k)))]) rfl ⟨rfl, ?_, ?_⟩
      · exact HM.out.fr (((Fr.refl (fun j => j = w.heap.size) wr).setCell (p := ⟨w.heap.size, 0, none⟩) (.inl rfl) _).setCell (p := ⟨w.heap.size, 1, none⟩) (.inl rfl) _) (fun j hj e => NR.out (e ▸ hj))
      · exact ((F3.out.trans HF.out (fun i hi => .inl hi)).setCell (p := ⟨w.heap.size, 0, none⟩) (.inr (Nat.le_refl _)) _).setCell (p := ⟨w.heap.size, 1, none⟩) (.inr (Nat.le_refl _)) _

end Go.Proofs.Ytbndmcblkfaheaa.Chain
