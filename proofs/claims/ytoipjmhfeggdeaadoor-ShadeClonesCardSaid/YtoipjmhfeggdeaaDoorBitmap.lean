/- Proved: what each call of package bitmap does to a set in memory and answers (the calls' contracts); the conditions stand in each theorem. -/
import Derived.Test.YtoipjmhfeggdeaaDoorInts
import Derived.Test.YtoipjmhfeggdeaaDoorBitPure
import Derived.Laws.BitsAllLaws
import Derived.Laws.Bits64b
import Derived.Laws.ShiftsVarLaws
namespace Go.Proofs.YtoipjmhfeggdeaaDoor.Bitmap
open Go.RowKit Go.Proofs.YtoipjmhfeggdeaaDoor.H Go.Proofs.YtoipjmhfeggdeaaDoor.Nums Go.Proofs.YtoipjmhfeggdeaaDoor.BitPure
set_option linter.unusedVariables false

def arr (b : Bool) (n : Int) (ws : List Nat) : Array Value := (Value.bool b :: Value.int .i64 n :: ws.map fun x : Nat => Value.int .u64 x).toArray

theorem arr_at (b : Bool) (n : Int) (ws : List Nat) (k : Nat) (hk : k < ws.length) : (arr b n ws)[2 + k]? = some (.int .u64 (wd ws k)) := by
  unfold arr wd
  rw [show 2 + k = k + 1 + 1 by omega]
  simp [hk]

theorem arr_set (b : Bool) (n : Int) (ws : List Nat) (k x : Nat) : (arr b n ws).setIfInBounds (2 + k) (.int .u64 x) = arr b n (ws.set k x) := by
  unfold arr
  rw [show 2 + k = k + 1 + 1 by omega]
  simp [List.map_set]

/-- a set: its block g -/
structure S (w : World) (B g n : Nat) (ws : List Nat) : Prop where
  blk : w.heap[g]? = some (.cells (arr true n ws) 76 (0, 0))
  base : B ≤ g
  ok : Words ws
  top : n ≤ 2048
  low : ∀ i, has ws i = true → i < n

def Foot (g : Nat) : Nat → Prop := fun k => k = g

theorem S.fr {w w' : World} {B g n : Nat} {ws : List Nat} (h : S w B g n ws) {R : Nat → Prop} (hf : Fr R w w') (hn : ¬ R g) : S w' B g n ws := ⟨hf.blk h.blk hn, h.base, h.ok, h.top, h.low⟩

theorem S.no {w w' : World} {B g n : Nat} {ws : List Nat} (h : S w B g n ws) (hf : Fr No w w') : S w' B g n ws := h.fr hf (fun h => h)

theorem S.lt {w : World} {B g n : Nat} {ws : List Nat} (h : S w B g n ws) : g < w.heap.size := lt_of_blk h.blk

theorem S.below {w w' : World} {B g n : Nat} {ws : List Nat} (h : S w B g n ws) (hf : Fr (Foot g) w w') (hB : B ≤ w.heap.size) : Below B w w' := hf.below hB (fun k hk => by rw [hk]; exact h.base)

theorem S.lower {w : World} {B B' g n : Nat} {ws : List Nat} (h : S w B g n ws) (hB : B' ≤ B) : S w B' g n ws := ⟨h.blk, Nat.le_trans hB h.base, h.ok, h.top, h.low⟩

theorem S.cells {w : World} {B g n : Nat} {ws : List Nat} (h : S w B g n ws) : w.cell? ⟨g, 0, none⟩ = some (.bool true) ∧ w.cell? ⟨g, 1, none⟩ = some (.int .i64 n) := ⟨cell_of h.blk 0, cell_of h.blk 1⟩

theorem S.word {w : World} {B g n : Nat} {ws : List Nat} (h : S w B g n ws) (k : Nat) (hk : k < 32) : w.cell? ⟨g, 2 + k, none⟩ = some (.int .u64 (wd ws k)) ∧ w.frozen? ⟨g, 2 + k, none⟩ = false :=
  ⟨(cell_of h.blk (2 + k)).trans (arr_at _ _ ws k (by rw [h.ok.len]; exact hk)), free_of h.blk _⟩

theorem drewN_fr {w wa wb : World} {n : Nat} (h : Fr No w wa) (e : wb = wa.drewN n) : Fr No w wb := by rw [e]; exact h.drewN n

theorem no_below {w w' : World} (h : Fr No w w') : Below w.heap.size w w' := h.below (Nat.le_refl _) (fun _ h => h.elim)

set_option maxHeartbeats 1600000 in
theorem in_any (B g n : Nat) (ws : List Nat) (i : Int) (w : World) (hs : S w B g n ws) :
    Calls Tryd.prog 48 #[.pointer (some ⟨g, 0, none⟩), .int .i64 i] w (Quiet w (.bool (decide (0 ≤ i) && decide (i < (n : Int))))) := by
  obtain ⟨c0, c1⟩ := hs.cells
  clear hs
  by_cases h1 : 0 ≤ i
  · by_cases h2 : i < (n : Int)
    · rw [decide_eq_true h1, decide_eq_true h2]
      go_enter Tryd.func48, Tryd.ntmps48
      go_wp2
      go_ret
      exact ⟨rfl, 0, rfl⟩
    · rw [decide_eq_true h1, decide_eq_false h2]
      have h3 : (n : Int) ≤ i := by omega
      go_enter Tryd.func48, Tryd.ntmps48
      go_wp2
      go_ret
      exact ⟨rfl, 0, rfl⟩
  · rw [decide_eq_false h1]
    have h3 : i < 0 := by omega
    clear h1
    go_enter Tryd.func48, Tryd.ntmps48
    go_wp2
    go_ret
    exact ⟨rfl, 0, rfl⟩

theorem bit_of (x s : Nat) (hx : x < 18446744073709551616) : (bits .and .u64 ((x : Int) / 2 ^ s) 1 == 1) = x.testBit s := by
  have e : (x : Int) / 2 ^ s = ((x / 2 ^ s : Nat) : Int) := by simp
  have e1 : (1 : Int) = ((1 : Nat) : Int) := rfl
  have hl : x / 2 ^ s < 18446744073709551616 := Nat.lt_of_le_of_lt (Nat.div_le_self _ _) hx
  rw [e, e1, u64_and_nat _ _ hl (by decide), nat_mask1, Nat.testBit_eq_decide_div_mod_eq]
  by_cases h : x / 2 ^ s % 2 = 1
  · rw [h, decide_eq_true rfl]; rfl
  · have h0 : x / 2 ^ s % 2 = 0 := by omega
    rw [h0]; rfl

def hasI (n : Nat) (ws : List Nat) (i : Int) : Bool := decide (0 ≤ i) && decide (i < (n : Int)) && has ws i.toNat

set_option maxHeartbeats 1600000 in
theorem has_any (B g n : Nat) (ws : List Nat) (i : Int) (w : World) (hs : S w B g n ws) :
    Calls Tryd.prog 36 #[.pointer (some ⟨g, 0, none⟩), .int .i64 i] w (Quiet w (.bool (hasI n ws i))) := by
  have HS := Lib.hid hs
  by_cases hin : 0 ≤ i ∧ i < (n : Int)
  · obtain ⟨k, rfl⟩ := Int.eq_ofNat_of_zero_le hin.1
    have hk : k < n := by omega
    have htop := hs.top
    have HI := Lib.hid (show (decide (0 ≤ (k : Int)) && decide ((k : Int) < (n : Int))) = true by rw [decide_eq_true hin.1, decide_eq_true hin.2]; rfl)
    obtain ⟨x0, _⟩ := hs.word (k / 64) (by omega)
    have HW := Lib.hid (hs.ok.lt (k / 64))
    have HH : Hid (hasI n ws k = has ws k) := Lib.hid (by unfold hasI; rw [decide_eq_true hin.1, decide_eq_true hin.2]; rfl)
    rw [HH.out]
    obtain ⟨i1, i2⟩ := hin
    clear hs
    go_enter Tryd.func36, Tryd.ntmps36
    go_wp2_with fail
    with_reducible refine (in_any B g n ws (k : Int) _ HS.out).mono ?_
    rintro e w' ⟨rfl, q, rfl⟩
    rw [HI.out]
    go_wp2_with fail
    go_ret
    exact ⟨by show Ending.returned (.bool (bits .and .u64 ((wd ws (k / 64) : Int) / 2 ^ (k % 64)) 1 == 1)) = _; rw [bit_of _ _ HW.out]; rfl, q, rfl⟩
  · have HI : Hid ((decide (0 ≤ i) && decide (i < (n : Int))) = false) := Lib.hid (by
      rcases Classical.not_and_iff_not_or_not.1 hin with h | h
      · rw [decide_eq_false h]; rfl
      · rw [decide_eq_false h]; simp)
    have HH : Hid (hasI n ws i = false) := Lib.hid (by unfold hasI; rw [HI.out]; rfl)
    rw [HH.out]
    clear hs hin
    go_enter Tryd.func36, Tryd.ntmps36
    go_wp2_with fail
    with_reducible refine (in_any B g n ws i _ HS.out).mono ?_
    rintro e w' ⟨rfl, q, rfl⟩
    rw [HI.out]
    go_wp2_with fail
    go_ret
    exact ⟨rfl, q, rfl⟩

theorem pow_val (s : Nat) (hs : s < 64) : IntKind.u64.wrap (2 ^ s) = ((2 ^ s : Nat) : Int) ∧ 2 ^ s < 18446744073709551616 := by
  have h : 2 ^ s < 18446744073709551616 := by have : ∀ j, j < 64 → 2 ^ j < 18446744073709551616 := by decide
                                              exact this s hs
  refine ⟨?_, h⟩
  rw [IntKind.wrap_u64, show (2 : Int) ^ s = ((2 ^ s : Nat) : Int) by simp]
  generalize (2 ^ s : Nat) = p at h ⊢
  omega

theorem or_val (x s : Nat) (hx : x < 18446744073709551616) (hs : s < 64) : bits .or .u64 (x : Int) (IntKind.u64.wrap (2 ^ s)) = ((x ||| 2 ^ s : Nat) : Int) := by
  obtain ⟨e, h⟩ := pow_val s hs
  rw [e, u64_or_nat _ _ hx h]

theorem not_val (x s : Nat) (hx : x < 18446744073709551616) (hs : s < 64) : bits .andNot .u64 (x : Int) (IntKind.u64.wrap (2 ^ s)) = ((x &&& (18446744073709551615 - 2 ^ s) : Nat) : Int) := by
  obtain ⟨e, h⟩ := pow_val s hs
  rw [e, u64_andNot_nat _ _ hx h]

theorem S.put {w : World} {B g n : Nat} {ws : List Nat} (h : S w B g n ws) (k x : Nat) (hk : k < 32) (hx : x < 18446744073709551616) (hl : ∀ i, has (ws.set k x) i = true → i < n) : S (w.setCell ⟨g, 2 + k, none⟩ (.int .u64 x)) B g n (ws.set k x) :=
  ⟨by rw [set_of h.blk, arr_set], h.base, h.ok.set k x hk hx, h.top, hl⟩

/-- a call that may turn the set -/
def Upd (B g n : Nat) (ws' : List Nat) (r : Value) (w : World) (e : Ending) (w' : World) : Prop := e = .returned r ∧ S w' B g n ws' ∧ Fr (Foot g) w w'

theorem Upd.quiet {B g n : Nat} {ws : List Nat} {r : Value} {w : World} {e : Ending} {w' : World} (hs : S w B g n ws) (h : Quiet w r e w') : Upd B g n ws r w e w' := by
  obtain ⟨rfl, q, rfl⟩ := h
  exact ⟨rfl, hs.no (Fr.drewN (Fr.refl _ _) q), Fr.drewN (Fr.refl _ _) q⟩

def addOk (n : Nat) (ws : List Nat) (i : Int) : Bool := decide (0 ≤ i) && decide (i < (n : Int)) && !has ws i.toNat

def addW (n : Nat) (ws : List Nat) (i : Int) : List Nat := if addOk n ws i = true then addB ws i.toNat else ws

theorem add_low {n : Nat} {ws : List Nat} (hl : ∀ i, has ws i = true → i < n) (k : Nat) (hk : k < n) (h : k / 64 < ws.length) : ∀ i, has (addB ws k) i = true → i < n := fun i hi => by
  rw [has_add ws k i h] at hi
  simp at hi
  rcases hi with hi | hi
  · exact hl i hi
  · omega

theorem rem_low {n : Nat} {ws : List Nat} (hl : ∀ i, has ws i = true → i < n) (k : Nat) (h : k / 64 < ws.length) : ∀ i, has (remB ws k) i = true → i < n := fun i hi => by
  rw [has_rem ws k i h] at hi
  simp at hi
  exact hl i hi.1

set_option maxHeartbeats 3200000 in
theorem add_yes (B g n : Nat) (ws : List Nat) (k : Nat) (hk : k < n) (hh : has ws k = false) (w : World) (hs : S w B g n ws) :
    Calls Tryd.prog 37 #[.pointer (some ⟨g, 0, none⟩), .int .i64 k] w (Upd B g n (addB ws k) (.bool true) w) := by
  have HS := Lib.hid hs
  have htop := hs.top
  have hin : 0 ≤ (k : Int) ∧ (k : Int) < (n : Int) := by omega
  have HI := Lib.hid (show (decide (0 ≤ (k : Int)) && decide ((k : Int) < (n : Int))) = true by rw [decide_eq_true hin.1, decide_eq_true hin.2]; rfl)
  have HH : Hid (hasI n ws k = false) := Lib.hid (by unfold hasI; rw [show ((k : Int)).toNat = k by omega, hh]; simp)
  have HW := Lib.hid (hs.ok.lt (k / 64))
  have HN := Lib.hid (And.intro hk hh)
  obtain ⟨i1, i2⟩ := hin
  clear hs hh
  go_enter Tryd.func37, Tryd.ntmps37
  go_wp2_with fail
  with_reducible refine (in_any B g n ws (k : Int) _ HS.out).mono ?_
  rintro e w1 ⟨rfl, q, hw1⟩
  have F1 := Lib.hid (drewN_fr (Fr.refl No w) hw1)
  clear hw1
  rw [HI.out]
  go_wp2_with fail
  with_reducible refine (has_any B g n ws (k : Int) _ (HS.out.no F1.out)).mono ?_
  rintro e w2 ⟨rfl, q2, hw2⟩
  have F2 := Lib.hid (drewN_fr F1.out hw2)
  clear hw2
  rw [HH.out]
  have S2 := Lib.hid (HS.out.no F2.out)
  obtain ⟨x0, f0⟩ := S2.out.word (k / 64) (by omega)
  go_wp2_with fail
  go_region
  rw [or_val _ _ HW.out (Nat.mod_lt _ (by decide))]
  go_wp2
  go_ret
  exact ⟨rfl, (S2.out.put (k / 64) _ (by omega) (Nat.or_lt_two_pow (n := 64) HW.out (pow_lt k)) (add_low HS.out.low k hk (by rw [HS.out.ok.len]; omega))).no (Fr.refl _ _).drew, (Fr.setCell (S := Foot g) (F2.out.mono (fun _ h => h.elim)) (p := ⟨g, 2 + k / 64, none⟩) (.inl rfl) _).drew⟩

set_option maxHeartbeats 3200000 in
theorem add_any (B g n : Nat) (ws : List Nat) (i : Int) (w : World) (hs : S w B g n ws) :
    Calls Tryd.prog 37 #[.pointer (some ⟨g, 0, none⟩), .int .i64 i] w (Upd B g n (addW n ws i) (.bool (addOk n ws i)) w) := by
  by_cases hin : 0 ≤ i ∧ i < (n : Int)
  · obtain ⟨k, rfl⟩ := Int.eq_ofNat_of_zero_le hin.1
    have hk : k < n := by omega
    cases hh : has ws k with
    | false =>
      have e : addOk n ws k = true := by unfold addOk; rw [decide_eq_true hin.1, decide_eq_true hin.2, show ((k : Int)).toNat = k by omega, hh]; rfl
      unfold addW
      rw [e, if_pos rfl]
      exact add_yes B g n ws k hk hh w hs
    | true =>
      have e : addOk n ws k = false := by unfold addOk; rw [show ((k : Int)).toNat = k by omega, hh]; simp
      unfold addW
      rw [e]
      have HS := Lib.hid hs
      have HI := Lib.hid (show (decide (0 ≤ (k : Int)) && decide ((k : Int) < (n : Int))) = true by rw [decide_eq_true hin.1, decide_eq_true hin.2]; rfl)
      have HH : Hid (hasI n ws k = true) := Lib.hid (by unfold hasI; rw [show ((k : Int)).toNat = k by omega, hh, HI.out]; rfl)
      clear hs hh e hin
      go_enter Tryd.func37, Tryd.ntmps37
      go_wp2_with fail
      with_reducible refine (in_any B g n ws (k : Int) _ HS.out).mono ?_
      rintro e w1 ⟨rfl, q, hw1⟩
      have F1 := Lib.hid (drewN_fr (Fr.refl No w) hw1)
      clear hw1
      rw [HI.out]
      go_wp2_with fail
      with_reducible refine (has_any B g n ws (k : Int) _ (HS.out.no F1.out)).mono ?_
      rintro e w2 ⟨rfl, q2, hw2⟩
      have F2 := Lib.hid (drewN_fr F1.out hw2)
      clear hw2
      rw [HH.out]
      go_wp2_with fail
      go_ret
      exact ⟨rfl, HS.out.no F2.out, F2.out.mono (fun _ h => h.elim)⟩
  · have HI : Hid ((decide (0 ≤ i) && decide (i < (n : Int))) = false) := Lib.hid (by
      rcases Classical.not_and_iff_not_or_not.1 hin with h | h
      · rw [decide_eq_false h]; rfl
      · rw [decide_eq_false h]; simp)
    have e : addOk n ws i = false := by unfold addOk; rw [HI.out]; rfl
    unfold addW
    rw [e]
    have HS := Lib.hid hs
    clear hs hin e
    go_enter Tryd.func37, Tryd.ntmps37
    go_wp2_with fail
    with_reducible refine (in_any B g n ws i _ HS.out).mono ?_
    rintro e w1 ⟨rfl, q, hw1⟩
    have F1 := Lib.hid (drewN_fr (Fr.refl No w) hw1)
    clear hw1
    rw [HI.out]
    go_wp2_with fail
    go_ret
    exact ⟨rfl, HS.out.no F1.out, F1.out.mono (fun _ h => h.elim)⟩

def remW (n : Nat) (ws : List Nat) (i : Int) : List Nat := if hasI n ws i = true then remB ws i.toNat else ws

set_option maxHeartbeats 3200000 in
theorem remove_any (B g n : Nat) (ws : List Nat) (i : Int) (w : World) (hs : S w B g n ws) :
    Calls Tryd.prog 38 #[.pointer (some ⟨g, 0, none⟩), .int .i64 i] w (Upd B g n (remW n ws i) (.bool (hasI n ws i)) w) := by
  have HS := Lib.hid hs
  cases hh : hasI n ws i with
  | false =>
    unfold remW
    rw [hh]
    have HH := Lib.hid hh
    clear hs hh
    go_enter Tryd.func38, Tryd.ntmps38
    go_wp2_with fail
    with_reducible refine (has_any B g n ws i _ HS.out).mono ?_
    rintro e w2 ⟨rfl, q2, hw2⟩
    have F2 := Lib.hid (drewN_fr (Fr.refl No w) hw2)
    clear hw2
    rw [HH.out]
    go_wp2_with fail
    go_ret
    exact ⟨rfl, HS.out.no F2.out, F2.out.mono (fun _ h => h.elim)⟩
  | true =>
    unfold remW
    rw [hh, if_pos rfl]
    have HH := Lib.hid hh
    unfold hasI at hh
    simp at hh
    obtain ⟨⟨h1, h2⟩, _⟩ := hh
    obtain ⟨k, rfl⟩ := Int.eq_ofNat_of_zero_le h1
    have htop := hs.top
    have hk : k < n := by omega
    have HW := Lib.hid (hs.ok.lt (k / 64))
    rw [show ((k : Int)).toNat = k by omega]
    clear hs
    go_enter Tryd.func38, Tryd.ntmps38
    go_wp2_with fail
    with_reducible refine (has_any B g n ws (k : Int) _ HS.out).mono ?_
    rintro e w2 ⟨rfl, q2, hw2⟩
    have F2 := Lib.hid (drewN_fr (Fr.refl No w) hw2)
    clear hw2
    rw [HH.out]
    have S2 := Lib.hid (HS.out.no F2.out)
    obtain ⟨x0, f0⟩ := S2.out.word (k / 64) (by omega)
    go_wp2_with fail
    go_region
    rw [not_val _ _ HW.out (Nat.mod_lt _ (by decide))]
    go_wp2
    go_ret
    exact ⟨rfl, (S2.out.put (k / 64) _ (by omega) (Nat.lt_of_le_of_lt Nat.and_le_left HW.out) (rem_low HS.out.low k (by rw [HS.out.ok.len]; omega))).no (Fr.refl _ _).drew, (Fr.setCell (S := Foot g) (F2.out.mono (fun _ h => h.elim)) (p := ⟨g, 2 + k / 64, none⟩) (.inl rfl) _).drew⟩

end Go.Proofs.YtoipjmhfeggdeaaDoor.Bitmap
