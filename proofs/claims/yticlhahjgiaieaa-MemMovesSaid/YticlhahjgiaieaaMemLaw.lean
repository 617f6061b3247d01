/- Proved: what the Go laws' own helpers of package scutagelaw04 do and answer. -/
import Derived.Test.YticlhahjgiaieaaMem2
namespace Go.Proofs.Yticlhahjgiaieaa.MemLaw
open Go.RowKit Go.Proofs.Yticlhahjgiaieaa.H Go.Proofs.Yticlhahjgiaieaa.Words Go.Proofs.Yticlhahjgiaieaa.Mem

theorem there_no (A : Option Addr) (c : Nat) (l : List Int) (a n : Int) (w : World) (ht : ¬ There l a n) (hl : l.length ≤ 17592186044416) :
    Calls Try.prog 15 #[.slice A l.length c, .int .i64 a, .int .i64 n] w (Quiet w (.bool false)) := by
  by_cases h1 : a < 0
  · clear ht hl
    go_enter Try.func15, Try.ntmps15
    go_wp2
    go_ret
    exact ⟨rfl, 0, rfl⟩
  by_cases h2 : n < 0
  · clear ht hl
    go_enter Try.func15, Try.ntmps15
    go_wp2
    go_ret
    exact ⟨rfl, 0, rfl⟩
  by_cases h3 : (l.length : Int) < a
  · clear ht hl
    go_enter Try.func15, Try.ntmps15
    go_wp2
    go_ret
    exact ⟨rfl, 0, rfl⟩
  · have h4 : (l.length : Int) - a < n := by unfold There at ht; omega
    have h1 : 0 ≤ a := by omega
    have h2 : 0 ≤ n := by omega
    have h3 : a ≤ (l.length : Int) := by omega
    have e4 : decide (n ≤ (l.length : Int) - a) = false := decide_eq_false (by omega)
    clear ht
    go_enter Try.func15, Try.ntmps15
    go_wp2
    go_ret
    exact ⟨rfl, 0, rfl⟩
theorem there_yes (A : Option Addr) (c : Nat) (l : List Int) (a n : Int) (w : World) (ht : There l a n) (hl : l.length ≤ 17592186044416) :
    Calls Try.prog 15 #[.slice A l.length c, .int .i64 a, .int .i64 n] w (Quiet w (.bool true)) := by
  obtain ⟨h1, h2, h3, h4⟩ := ht
  go_enter Try.func15, Try.ntmps15
  go_wp2
  go_ret
  exact ⟨rfl, 0, rfl⟩

theorem near_any (n lo hi r : Int) (hr : max lo (min n hi) = r) (hh : lo ≤ hi) (w : World) :
    Calls Try.prog 9 #[.int .i64 n, .int .i64 lo, .int .i64 hi] w (Quiet w (.int .i64 r)) := by
  subst hr
  by_cases h1 : n < lo
  · have e : max lo (min n hi) = lo := by omega
    rw [e]
    go_enter Try.func9, Try.ntmps9
    go_wp2
    go_ret
    exact ⟨rfl, 0, rfl⟩
  by_cases h2 : hi < n
  · have e : max lo (min n hi) = hi := by omega
    rw [e]
    go_enter Try.func9, Try.ntmps9
    go_wp2
    go_ret
    exact ⟨rfl, 0, rfl⟩
  · have e : max lo (min n hi) = n := by omega
    rw [e]
    go_enter Try.func9, Try.ntmps9
    go_wp2
    go_ret
    exact ⟨rfl, 0, rfl⟩

set_option maxHeartbeats 3200000 in
theorem alive_any (w : World) : Calls Try.prog 7 #[] w (Same w (.bool true)) := by
  go_enter Try.func7, Try.ntmps7
  go_wp2_with fail
  refine (new_any 5 5 rfl _).mono ?_
  rintro e w1 ⟨g, v, rfl, hs1, hb1⟩
  have H1 := Lib.hid hs1
  have B1 := Lib.hid hb1
  clear hs1 hb1
  go_wp2_with fail
  refine (store_yes _ g v _ 0 7 _ H1.out (by decide)).mono ?_
  rintro e w2 ⟨rfl, hs2, hf2⟩
  have H2 := Lib.hid hs2
  have B2 := Lib.hid (B1.out.trans (H1.out.below hf2 B1.out.size))
  clear hs2 hf2 H1 B1
  go_wp2_with fail
  refine (store_yes _ g v _ 1 8 _ H2.out (by decide)).mono ?_
  rintro e w3 ⟨rfl, hs3, hf3⟩
  have H3 := Lib.hid hs3
  have B3 := Lib.hid (B2.out.trans (H2.out.below hf3 B2.out.size))
  clear hs3 hf3 H2 B2
  go_wp2_with fail
  refine (move_yes _ g v _ 1 0 3 _ H3.out (by decide) (by decide)).mono ?_
  rintro e w4 ⟨rfl, hs4, hf4⟩
  have H4 := Lib.hid hs4
  have B4 := Lib.hid (B3.out.trans (H3.out.below hf4 B3.out.size))
  clear hs4 hf4 H3 B3
  go_wp2_with fail
  refine (load_yes _ g v _ 2 8 _ H4.out (by decide)).mono ?_
  rintro e w5 ⟨rfl, n5, rfl⟩
  go_wp2_with fail
  refine (len_any _ g v _ _ (H4.out.no (by repeat (first | exact Fr.refl _ _ | apply Fr.drewN | apply Fr.drew | apply Fr.alloc)))).mono ?_
  rintro e w6 ⟨rfl, n6, rfl⟩
  go_wp2
  go_ret
  exact ⟨rfl, Fr.below (S := No) (by repeat (first | exact Fr.of_below B4.out No | apply Fr.drewN | apply Fr.drew)) (Nat.le_refl _) (fun _ h => h.elim)⟩

/-- a call of a script -/
structure Cl where
  k : Int
  a : Int
  b : Int
  n : Int
  x : Int
def Cl.cells (p : Cl) : List Value := [.int .i64 p.k, .int .i64 p.a, .int .i64 p.b, .int .i64 p.n, .int .i64 p.x]
def calls (l : List Cl) : List Value := l.flatMap Cl.cells
theorem op_at {w : World} {A : Option Addr} {n c : Nat} {l : List Cl} (h : Rd w (.slice A n c) n 5 (calls l)) (hn : n = l.length) (k : Nat) (hk : k < l.length) :
    ∃ ad, A = some ad ∧ ∀ j v, (l[k]).cells[j]? = some v → w.cell? (ad.add (k * 5 + j)) = some v := by
  subst hn
  rcases h.at_ with ⟨_, h0⟩ | ⟨ad, c', he, _, hc⟩
  · omega
  · injection he with he _ _
    exact ⟨ad, he, fun j v hj => hc _ _ (Arg.flat_get Cl.cells 5 (fun _ => rfl) l k hk j v hj)⟩

def CutPost (A : Option Addr) (n m c : Nat) (w : World) (e : Ending) (w' : World) : Prop := e = .returned (.slice A (min n m) c) ∧ w' = w
theorem few_any (A : Option Addr) (n c : Nat) (w : World) (hc : n ≤ c) :
    Calls Try.prog 13 #[.slice A n c] w (CutPost A 50 n c w) := by
  by_cases h : 50 < n
  · have e : min 50 n = 50 := by omega
    go_enter Try.func13, Try.ntmps13
    go_wp2
    go_ret
    exact ⟨by rw [e]; rfl, rfl⟩
  · have e : min 50 n = n := by omega
    go_enter Try.func13, Try.ntmps13
    go_wp2
    go_ret
    exact ⟨by rw [e]; rfl, rfl⟩

end Go.Proofs.Yticlhahjgiaieaa.MemLaw
