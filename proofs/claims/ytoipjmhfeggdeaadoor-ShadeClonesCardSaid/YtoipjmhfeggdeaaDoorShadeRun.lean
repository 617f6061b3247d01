/- Proved: what the helper few of the laws of package scutagelaw18 answers, and the law ShadeRuns over any arguments. -/
import Derived.Test.YtoipjmhfeggdeaaDoorShadeStep2
namespace Go.Proofs.YtoipjmhfeggdeaaDoor.ShadeRun
open Go.RowKit Go.Proofs.YtoipjmhfeggdeaaDoor.H Go.Proofs.YtoipjmhfeggdeaaDoor.Nums Go.Proofs.YtoipjmhfeggdeaaDoor.BitPure Go.Proofs.YtoipjmhfeggdeaaDoor.Shade Go.Proofs.YtoipjmhfeggdeaaDoor.Ref18 Go.Proofs.YtoipjmhfeggdeaaDoor.ShadeBoth Go.Proofs.YtoipjmhfeggdeaaDoor.ShadeStep
set_option linter.unusedVariables false
set_option linter.unusedSimpArgs false
attribute [local irreducible] elems from_ nxt elemsN rc zCells

def calls (l : List (Int × Int × Int)) : List Value := l.flatMap fun p => [.int .i64 p.1, .int .i64 p.2.1, .int .i64 p.2.2]

theorem calls_length (l : List (Int × Int × Int)) : (calls l).length = l.length * 3 := by
  induction l with
  | nil => rfl
  | cons p l ih => simp [calls] at ih ⊢; omega

theorem calls_at (l : List (Int × Int × Int)) (k : Nat) (h : k < l.length) : (calls l)[k * 3]? = some (.int .i64 (l[k]).1) ∧ (calls l)[k * 3 + 1]? = some (.int .i64 (l[k]).2.1) ∧ (calls l)[k * 3 + 2]? = some (.int .i64 (l[k]).2.2) := by
  induction l generalizing k with
  | nil => simp at h
  | cons p l ih =>
    cases k with
    | zero => simp [calls]
    | succ k =>
      have := ih k (by simpa using h)
      rw [show (k + 1) * 3 = k * 3 + 3 by omega, show k * 3 + 3 + 1 = (k * 3 + 1) + 3 by omega, show k * 3 + 3 + 2 = (k * 3 + 2) + 3 by omega]
      simpa [calls] using this

theorem calls_take (l : List (Int × Int × Int)) (m : Nat) : (calls l).take (m * 3) = calls (l.take m) := by
  induction l generalizing m with
  | nil => simp [calls]
  | cons p l ih =>
    cases m with
    | zero => simp [calls]
    | succ m =>
      have := ih m
      rw [show (m + 1) * 3 = m * 3 + 3 by omega]
      simp [calls] at this ⊢
      exact this

theorem calls_cut {w : World} {A : Option Addr} {c m : Nat} {l : List (Int × Int × Int)} (h : Rd w (.slice A l.length c) l.length 3 (calls l)) : Rd w (.slice A (min m l.length) c) (min m l.length) 3 (calls (l.take m)) := by
  have h2 := h.take (m := min m l.length) (Nat.min_le_right _ _)
  rw [calls_take] at h2
  have e : l.take (min m l.length) = l.take m := by rw [← List.take_eq_take_min]
  rw [e] at h2
  exact h2

theorem call_at {w : World} {A : Option Addr} {n c : Nat} {l : List (Int × Int × Int)} (h : Rd w (.slice A n c) n 3 (calls l)) (k : Nat) (hk : k < l.length) :
    ∃ ad, A = some ad ∧ w.cell? (ad.add (k * 3)) = some (.int .i64 (l[k]).1) ∧ w.cell? ⟨(ad.add (k * 3)).block, (ad.add (k * 3)).off + 1, none⟩ = some (.int .i64 (l[k]).2.1) ∧ w.cell? ⟨(ad.add (k * 3)).block, (ad.add (k * 3)).off + 2, none⟩ = some (.int .i64 (l[k]).2.2) := by
  have hl := h.len
  rw [calls_length] at hl
  rcases h.at_ with ⟨_, h0⟩ | ⟨ad, c', he, _, hc⟩
  · omega
  · injection he with he _ _
    obtain ⟨a1, a2, a3⟩ := calls_at l k hk
    exact ⟨ad, he, hc _ _ a1, by rw [← add_field ad _ 1 (by omega)]; exact hc _ _ a2, by rw [← add_field ad _ 2 (by omega)]; exact hc _ _ a3⟩

def CutPost (A : Option Addr) (m n c : Nat) (w : World) (e : Ending) (w' : World) : Prop := e = .returned (.slice A (min m n) c) ∧ w' = w

set_option maxHeartbeats 1600000 in
theorem few_any (A : Option Addr) (n c : Nat) (w : World) (hc : n ≤ c) :
    Calls Tryd.prog 8 #[.slice A n c] w (CutPost A 60 n c w) := by
  by_cases h : 60 < n
  · have e : min 60 n = 60 := by omega
    go_enter Tryd.func8, Tryd.ntmps8
    go_wp2
    go_ret
    exact ⟨by rw [e]; rfl, rfl⟩
  · have e : min 60 n = n := by omega
    go_enter Tryd.func8, Tryd.ntmps8
    go_wp2
    go_ret
    exact ⟨by rw [e]; rfl, rfl⟩

/-- the state behind a part of a script -/
def play (room : Int) (s : List (Int × Int) × Bool × List Nat) (ops : List (Int × Int × Int)) : List (Int × Int) × Bool × List Nat := ops.foldl (nx room) s

theorem play_succ (room : Int) (s : List (Int × Int) × Bool × List Nat) (ops : List (Int × Int × Int)) (k : Nat) (hk : k < ops.length) : play room s (ops.take (k + 1)) = nx room (play room s (ops.take k)) ops[k] := by
  unfold play
  rw [List.take_add_one, List.getElem?_eq_getElem hk, List.foldl_append]
  rfl

/-- what a part of a script leaves -/
def Ran (B gg gm : Nat) (P : Pl) (v vm : Value) (room : Int) (s' : List (Int × Int) × Bool × List Nat) (w w' : World) : Prop :=
  ∃ v' vm', Both w' B gg gm P v' vm' s'.1 room s'.2.1 s'.2.2 ∧ (∀ k, feet gm P v' vm' k → feet gm P v vm k ∨ w.heap.size ≤ k) ∧ Fr (feet gm P v vm) w w'

theorem Ran.refl {B gg gm : Nat} {P : Pl} {v vm : Value} {s : List (Int × Int) × Bool × List Nat} {room : Int} {w : World} (h : Both w B gg gm P v vm s.1 room s.2.1 s.2.2) : Ran B gg gm P v vm room s w w :=
  ⟨v, vm, h, fun k hk => .inl hk, Fr.refl _ _⟩

theorem Ran.step {B gg gm : Nat} {P : Pl} {v vm v1 vm1 : Value} {room : Int} {s' : List (Int × Int) × Bool × List Nat} {w w1 w2 : World} {e : Ending} (h2 : ∀ k, feet gm P v1 vm1 k → feet gm P v vm k ∨ w.heap.size ≤ k) (h3 : Fr (feet gm P v vm) w w1) (h : StepPost B gg gm P v1 vm1 room s' w1 e w2) : Ran B gg gm P v vm room s' w w2 := by
  obtain ⟨_, v', vm', q1, q2, q3⟩ := h
  have hz := h3.size
  exact ⟨v', vm', q1, fun k hk => (q2 k hk).elim (fun h => h2 k h) (fun h => .inr (by omega)), h3.trans q3 (fun i hi => h2 i hi)⟩

theorem own_lower {w : World} {B B' : Nat} {e : TypeId} {n s : Nat} {v : Value} {xs : List Value} (h : w.ownsRow B e s v n xs) (hB : B' ≤ B) : w.ownsRow B' e s v n xs := by
  refine ⟨h.1, ?_⟩
  rcases h.2 with h2 | ⟨d, cap, cur, e1, e2, e3⟩
  · exact .inl h2
  · exact .inr ⟨d, cap, cur, e1, Nat.le_trans hB e2, e3⟩

theorem tab_pos {w : World} (h : Bitmap.Tab w) : 0 < w.heap.size := World.block_lt_of_cell? w _ (h 0 (by decide))

set_option maxRecDepth 100000 in
set_option maxHeartbeats 25600000 in
theorem runs_any (n : Int) (vo : Value) (ops : List (Int × Int × Int)) (w : World) (ht : Bitmap.Tab w) (hr : Rd w vo ops.length 3 (calls ops)) :
    Calls Tryd.prog 3 #[.int .i64 n, vo] w (Same w (.bool true)) := by
  obtain ⟨A, c, rfl, hc⟩ := hr.slice
  have HT := Lib.hid ht
  have HC := Lib.hid hc
  have HR := Lib.hid (calls_cut (m := 60) hr)
  obtain ⟨room, hroom⟩ : ∃ room, max 1 (min n 256) = room := ⟨_, rfl⟩
  have HM := Lib.hid hroom
  clear hr hc ht hroom
  go_enter Tryd.func3, Tryd.ntmps3
  go_wp2_with fail
  with_reducible refine (ShadeOnce.alive_any _).mono ?_
  rintro x1 w1 ⟨rfl, hb1⟩
  have B1 := Lib.hid hb1
  clear hb1
  go_wp2_with fail
  with_reducible refine (Shade.new_any n room HM.out _).mono ?_
  rintro x3 w3 ⟨gg, P, v, rfl, hs3, hb3⟩
  have S3 := Lib.hid hs3
  have B3 := Lib.hid (B1.out.trans (hb3.mono B1.out.size))
  have Z3 := Lib.hid hb3.size
  clear hs3 hb3
  go_wp2_with fail
  with_reducible refine (Ref18.new_any n room HM.out _).mono ?_
  rintro x4 w4 ⟨gm, vm, rfl, hs4, hb4⟩
  have G4 := Lib.hid (S3.out.no (Fr.of_below hb4 No))
  have R4 : Hid (R w4 w1.heap.size gm vm [] room false Bitmap.w0) := Lib.hid ⟨hs4.blk, own_lower hs4.own Z3.out, Nat.le_trans Z3.out hs4.base, hs4.r0, hs4.r1, hs4.len, hs4.ok⟩
  have B4 := Lib.hid (B3.out.trans (hb4.mono B3.out.size))
  clear hs4 hb4
  have H4 : Hid (Both w4 w1.heap.size gg gm P v vm [] room false Bitmap.w0) := Lib.hid ⟨G4.out, R4.out, HT.out.low B4.out, by have := tab_pos HT.out; have := B1.out.size; omega⟩
  have Z4 := Lib.hid (show w1.heap.size ≤ w4.heap.size by have := B4.out.size; have h := (H4.out.g.lt gg (.inl rfl)); omega)
  clear G4 R4 S3 Z3 B3
  go_wp2_with fail
  with_reducible refine (few_any A ops.length c _ HC.out).mono ?_
  rintro x8 w8 ⟨rfl, hw8⟩
  subst hw8
  obtain ⟨no, hno⟩ : ∃ no, no = min 60 ops.length := ⟨_, rfl⟩
  obtain ⟨os, hos⟩ : ∃ os, os = ops.take 60 := ⟨_, rfl⟩
  have HNO : Hid (no = os.length) := Lib.hid (by rw [hno, hos, List.length_take])
  have HL : Hid (no ≤ 60) := Lib.hid (by omega)
  rw [← hno, ← hos] at HR
  rw [← hno]
  clear hno hos
  go_wp2_with fail
  go_loopw [7] (fun i wr => ∃ k : Nat, k ≤ no ∧ i = .int .i64 k ∧ Hid (Ran w1.heap.size gg gm P v vm room (play room ([], false, Bitmap.w0) (os.take k)) w8 wr)) (fun i _ => no - (intOf i).toNat)
  case atStart => exact ⟨0, Nat.zero_le _, rfl, Lib.hid (Ran.refl H4.out)⟩
  case round =>
    obtain ⟨k, hk, rfl, HQ⟩ := hrel
    obtain ⟨v1, vm1, hb, hm, hf⟩ := HQ.out
    have HB := Lib.hid hb
    have HF := Lib.hid hf
    have HMV := Lib.hid hm
    have hbel : Below w.heap.size w wr := B4.out.trans (hf.below B4.out.size (fun j hj => by have := (H4.out.low j hj).1; have := B1.out.size; omega))
    have i1 : (0 : Int) ≤ (k : Int) := Int.natCast_nonneg _
    have HBL := Lib.hid hbel
    have hl := HL.out
    clear HQ hb hm hf
    by_cases hlt : k < no
    · obtain ⟨ad, rfl, x0, x1, x2⟩ := call_at (HR.out.below hbel) k (by rw [← HNO.out]; exact hlt)
      have hps := play_succ room ([], false, Bitmap.w0) os k (by rw [← HNO.out]; exact hlt)
      generalize (os[k]'(by rw [← HNO.out]; exact hlt)) = op at x0 x1 x2 hps
      obtain ⟨kd, i, fr⟩ := op
      dsimp only at x0 x1 x2
      have HPS := Lib.hid hps
      have i2 : (k : Int) < (no : Int) := by omega
      have HLT := Lib.hid hlt
      clear hbel hlt hps
      go_wp2_with fail
      with_reducible refine (step_any w1.heap.size gg gm P v1 vm1 room _ kd i fr _ HB.out).mono ?_
      intro x5 w5 hp5
      have P5 := Lib.hid (Ran.step HMV.out HF.out hp5)
      obtain ⟨rfl, _⟩ := hp5
      go_wp2_with fail
      go_roundw
      case rel => exact ⟨k + 1, HLT.out, by go_num, by rw [HPS.out]; exact P5⟩
      case measure => have := HLT.out; simp [intOf]; omega
    · obtain rfl : k = no := by omega
      have i2 : ¬ (k : Int) < (k : Int) := by omega
      clear hlt hbel
      go_wp2_with fail
      with_reducible refine (Shade4.told_any w1.heap.size gg gm P v1 vm1 _ room _ _ _ HB.out.g HB.out.r HB.out.tab).mono ?_
      rintro x6 w6 ⟨rfl, hb6⟩
      have B6 := Lib.hid (HBL.out.trans (hb6.mono HBL.out.size))
      clear hb6
      go_wp2_with fail
      go_ret
      exact ⟨rfl, B6.out⟩

end Go.Proofs.YtoipjmhfeggdeaaDoor.ShadeRun
