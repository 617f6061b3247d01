/- Proved: what each call of package buffer does to buffers in memory and answers (the calls' contracts); the conditions stand in each theorem. -/
import Derived.Test.YtmgfidepjclobaaInts
namespace Go.Proofs.Ytmgfidepjclobaa.Buffer
open Go.RowKit Go.Proofs.Ytmgfidepjclobaa.H Go.Proofs.Ytmgfidepjclobaa.Nums

/-- a thread's row, and what stands in it -/
abbrev Ln := Value × List Int
theorem infoR : (Try.prog.info? 32).map (fun i => (i.zero, i.size, i.bytes)) = some (some (.slice none 0 0), 1, 24) := by kernel_rfl

/-- a row of rows -/
structure Rows (w : World) (B : Nat) (v : Value) (L : List Ln) : Prop where
  own : w.ownsRow B 32 1 v L.length (L.map (·.1))
  row : ∀ p ∈ L, Own w B p.1 p.2
def RFoot (v : Value) (L : List Ln) : Nat → Prop := fun k => v.ownBlock = some k ∨ ∃ p ∈ L, p.1.ownBlock = some k
theorem Rows.lt {w : World} {B : Nat} {v : Value} {L : List Ln} (h : Rows w B v L) : ∀ k, RFoot v L k → B ≤ k ∧ k < w.heap.size := by
  rintro k (hk | ⟨p, hp, hk⟩)
  · exact h.own.lt k hk
  · exact (h.row p hp).lt k hk
theorem Rows.fr {w w' : World} {B : Nat} {v : Value} {L : List Ln} (h : Rows w B v L) {S : Nat → Prop} (hf : Fr S w w') (hn : ∀ k, RFoot v L k → ¬ S k) : Rows w' B v L :=
  ⟨hf.own h.own (fun k hk => hn k (.inl hk)), fun p hp => (h.row p hp).fr hf (fun k hk => hn k (.inr ⟨p, hp, hk⟩))⟩
theorem own_lower {w : World} {B B' : Nat} {v : Value} {n : Nat} {t : TypeId} {sz : Nat} {xs : List Value} (h : w.ownsRow B t sz v n xs) (hB : B' ≤ B) : w.ownsRow B' t sz v n xs := by
  refine ⟨h.1, ?_⟩
  rcases h.2 with h2 | ⟨d, cap, cur, h1, h2, h3⟩
  · exact .inl h2
  · exact .inr ⟨d, cap, cur, h1, Nat.le_trans hB h2, h3⟩
theorem Rows.lower {w : World} {B B' : Nat} {v : Value} {L : List Ln} (h : Rows w B v L) (hB : B' ≤ B) : Rows w B' v L := ⟨own_lower h.own hB, fun p hp => (h.row p hp).lower hB⟩
theorem Rows.slot {w : World} {B : Nat} {v : Value} {L : List Ln} (h : Rows w B v L) (k : Nat) (hk : k < L.length) :
    ∃ d c, v = .slice (some ⟨d, 0, none⟩) L.length c ∧ w.cell? ⟨d, k, none⟩ = some (L[k]).1 ∧ w.frozen? ⟨d, k, none⟩ = false ∧ d < w.heap.size ∧ B ≤ d := by
  rcases h.own.2 with ⟨_, h0⟩ | ⟨d, cap, cur, hv, hb, hd, hnc, hcm, hcs, htk⟩
  · omega
  · refine ⟨d, cap, hv, ?_, free_of hd k, lt_of_blk hd, hb⟩
    have h2 : (L.map (·.1))[k]? = some (L[k]).1 := by simp [hk]
    rw [← htk, List.getElem?_take] at h2
    split at h2
    · rw [cell_of hd]; simpa using h2
    · cases h2
/-- the row behind a store of a row -/
theorem Rows.put {w : World} {B d n c : Nat} {L : List Ln} (h : Rows w B (.slice (some ⟨d, 0, none⟩) n c) L) (k : Nat) (u : Value) (xs : List Int) (hu : Own w B u xs) :
    Rows (w.setCell ⟨d, k, none⟩ u) B (.slice (some ⟨d, 0, none⟩) n c) (L.set k (u, xs)) := by
  rcases h.own.2 with ⟨h0, _⟩ | ⟨d', cap, cur, hv, hB, hd, hnc, hcm, hcs, htk⟩
  · cases h0
  · injection hv with h1 h2 h3
    injection h1 with h1
    injection h1 with h1 _ _
    subst h1 h2 h3
    have hf : Fr (fun j => j = d) w (w.setCell ⟨d, k, none⟩ u) := (Fr.refl (fun j => j = d) w).setCell (p := ⟨d, k, none⟩) (.inl rfl) u
    refine ⟨⟨by simp, .inr ⟨d, c, cur.setIfInBounds k u, by rw [List.length_set], hB, set_of hd k _, by rw [List.length_set]; exact hnc, hcm, by simpa using hcs, ?_⟩⟩, ?_⟩
    · rw [List.length_set, Array.toList_setIfInBounds, List.take_set, htk, List.map_set]
    · intro p hp
      rcases List.mem_or_eq_of_mem_set hp with hp | rfl
      · exact (h.row p hp).fr hf (fun j hj e => own_ne_blk (h.row p hp) hd (by decide) (by rw [hj, e]))
      · exact hu.fr hf (fun j hj e => own_ne_blk hu hd (by decide) (by rw [hj, e]))

/-- buffers: their own block g, the row v in which the threads' rows lie, each apart -/
structure Bufs (w : World) (B g : Nat) (v : Value) (L : List Ln) : Prop where
  blk : w.heap[g]? = some (.cells #[.bool true, v] 41 (0, 0))
  rows : Rows w B v L
  base : B ≤ g
  len : L.length ≤ 8
  sep : ∀ (i j : Nat) (p q : Ln) (k : Nat), L[i]? = some p → L[j]? = some q → p.1.ownBlock = some k → q.1.ownBlock = some k → i = j
def Foot (g : Nat) (v : Value) (L : List Ln) : Nat → Prop := fun k => k = g ∨ RFoot v L k
theorem Bufs.ne {w : World} {B g : Nat} {v : Value} {L : List Ln} (h : Bufs w B g v L) : v.ownBlock ≠ some g := own_ne_blk h.rows.own h.blk (by decide)
theorem Bufs.foot_lt {w : World} {B g : Nat} {v : Value} {L : List Ln} (h : Bufs w B g v L) : ∀ k, Foot g v L k → B ≤ k ∧ k < w.heap.size := by
  rintro k (rfl | hk)
  · exact ⟨h.base, lt_of_blk h.blk⟩
  · exact h.rows.lt k hk
theorem Bufs.fr {w w' : World} {B g : Nat} {v : Value} {L : List Ln} (h : Bufs w B g v L) {S : Nat → Prop} (hf : Fr S w w') (hn : ∀ k, Foot g v L k → ¬ S k) : Bufs w' B g v L :=
  ⟨hf.blk h.blk (hn g (.inl rfl)), h.rows.fr hf (fun k hk => hn k (.inr hk)), h.base, h.len, h.sep⟩
theorem Bufs.no {w w' : World} {B g : Nat} {v : Value} {L : List Ln} (h : Bufs w B g v L) (hf : Fr No w w') : Bufs w' B g v L := h.fr hf (fun _ _ h => h)
theorem Bufs.below {w w' : World} {B g : Nat} {v : Value} {L : List Ln} (h : Bufs w B g v L) (hf : Fr (Foot g v L) w w') (hB : B ≤ w.heap.size) : Below B w w' := hf.below hB (fun k hk => (h.foot_lt k hk).1)
theorem Bufs.lower {w : World} {B B' g : Nat} {v : Value} {L : List Ln} (h : Bufs w B g v L) (hB : B' ≤ B) : Bufs w B' g v L := ⟨h.blk, h.rows.lower hB, Nat.le_trans hB h.base, h.len, h.sep⟩
theorem Bufs.cells {w : World} {B g : Nat} {v : Value} {L : List Ln} (h : Bufs w B g v L) : w.cell? ⟨g, 0, none⟩ = some (.bool true) ∧ w.cell? ⟨g, 1, none⟩ = some v := ⟨cell_of h.blk 0, cell_of h.blk 1⟩
theorem Bufs.put {w : World} {B g d n c : Nat} {L : List Ln} (h : Bufs w B g (.slice (some ⟨d, 0, none⟩) n c) L) (k : Nat) (u : Value) (xs : List Int) (hu : Own w B u xs)
    (hs : ∀ b, u.ownBlock = some b → ∀ j p, L[j]? = some p → p.1.ownBlock = some b → j = k) :
    Bufs (w.setCell ⟨d, k, none⟩ u) B g (.slice (some ⟨d, 0, none⟩) n c) (L.set k (u, xs)) := by
  have hne : g ≠ d := fun e => h.ne (by simp [Value.ownBlock, e])
  refine ⟨far_of h.blk (p := ⟨d, k, none⟩) hne _, h.rows.put k u xs hu, h.base, by rw [List.length_set]; exact h.len, ?_⟩
  intro i j p q b hi hj hp hq
  rw [List.getElem?_set] at hi hj
  by_cases e1 : k = i <;> by_cases e2 : k = j
  · omega
  · rw [if_neg e2] at hj
    rw [if_pos e1] at hi
    split at hi
    · injection hi with hi; subst hi
      exact absurd (hs b hp j q hj hq).symm e2
    · cases hi
  · rw [if_neg e1] at hi
    rw [if_pos e2] at hj
    split at hj
    · injection hj with hj; subst hj
      exact absurd (hs b hq i p hi hp).symm e1
    · cases hj
  · rw [if_neg e1] at hi
    rw [if_neg e2] at hj
    exact h.sep i j p q b hi hj hp hq
theorem foot_set {g : Nat} {v : Value} {L : List Ln} {k : Nat} {u : Value} {xs : List Int} {P : Nat → Prop} (hu : ∀ b, u.ownBlock = some b → Foot g v L b ∨ P b) : ∀ b, Foot g v (L.set k (u, xs)) b → Foot g v L b ∨ P b := by
  rintro b (h | h | ⟨p, hp, h⟩)
  · exact .inl (.inl h)
  · exact .inl (.inr (.inl h))
  · rcases List.mem_or_eq_of_mem_set hp with hp | rfl
    · exact .inl (.inr (.inr ⟨p, hp, h⟩))
    · exact hu b h

/-! ### what stands there, as lists -/
def dat (L : List Ln) : List (List Int) := L.map (·.2)
def getI (D : List (List Int)) (t : Int) : List Int := if t < 0 then [] else (D[t.toNat]?).getD []
theorem getI_in (L : List Ln) (k : Nat) (h : k < L.length) : getI (dat L) (k : Int) = (L[k]).2 := by unfold getI dat; rw [if_neg (by omega)]; simp [h]
theorem getI_neg (D : List (List Int)) (t : Int) (h : t < 0) : getI D t = [] := by unfold getI; rw [if_pos h]
theorem getI_past (D : List (List Int)) (t : Int) (h : (D.length : Int) ≤ t) : getI D t = [] := by unfold getI; rw [if_neg (by omega), List.getElem?_eq_none (by omega)]; rfl
theorem dat_length (L : List Ln) : (dat L).length = L.length := by simp [dat]
theorem dat_set (L : List Ln) (k : Nat) (p : Ln) : dat (L.set k p) = (dat L).set k p.2 := by simp [dat, List.map_set]

set_option maxHeartbeats 3200000 in
theorem of_in (B g : Nat) (v : Value) (L : List Ln) (k : Nat) (hk : k < L.length) (w : World) (hs : Bufs w B g v L) :
    Calls Try.prog 22 #[.pointer (some ⟨g, 0, none⟩), .int .i64 k] w (Quiet w (.tuple #[(L[k]).1, .bool true])) := by
  obtain ⟨d, c, rfl, x0, _⟩ := hs.rows.slot k hk
  obtain ⟨c0, c1⟩ := hs.cells
  obtain ⟨A2, c2, he, _⟩ := own_slice (hs.rows.row _ (List.getElem_mem hk))
  rw [he] at x0 ⊢
  generalize (L[k]).2.length = m at x0 ⊢
  have i1 : (0 : Int) ≤ (k : Int) := Int.natCast_nonneg _
  have i2 : (k : Int) < (L.length : Int) := by omega
  clear hs he
  go_enter Try.func22, Try.ntmps22
  go_wp2
  go_ret2
  exact ⟨rfl, 0, rfl⟩
set_option maxHeartbeats 3200000 in
theorem of_out (B g : Nat) (v : Value) (L : List Ln) (t : Int) (ht : t < 0 ∨ (L.length : Int) ≤ t) (w : World) (hs : Bufs w B g v L) :
    Calls Try.prog 22 #[.pointer (some ⟨g, 0, none⟩), .int .i64 t] w (Quiet w (.tuple #[.slice none 0 0, .bool false])) := by
  obtain ⟨A, c, rfl, _⟩ := own_slice hs.rows.own
  obtain ⟨c0, c1⟩ := hs.cells
  by_cases h1 : t < 0
  · have g1 : decide (t < 0) = true := by simp; omega
    clear h1 hs ht
    go_enter Try.func22, Try.ntmps22
    go_wp2
    go_ret2
    exact ⟨rfl, 0, rfl⟩
  · have g1 : decide (t < 0) = false := by simp; omega
    have g2 : decide ((L.length : Int) ≤ t) = true := by simp; omega
    clear h1 hs ht
    go_enter Try.func22, Try.ntmps22
    go_wp2
    go_ret2
    exact ⟨rfl, 0, rfl⟩

def IdxPost (b : Bool) (w : World) (x : Ending) (w' : World) : Prop := ∃ r : Int, x = .returned (.int .i64 r) ∧ (∃ n, w' = w.drewN n) ∧ decide (0 ≤ r) = b
set_option maxHeartbeats 1600000 in
theorem index_any (A : Option Addr) (n c : Nat) (xs : List Int) (t : Int) (hn : n = xs.length) (w : World) (hr : Rd w (.slice A n c) n 1 (ints xs)) (hl : xs.length ≤ 1000000) :
    Calls Try.prog 30 #[.slice A n c, .int .i64 t] w (IdxPost (decide (t ∈ xs)) w) := by
  subst hn
  have HR := Lib.hid hr
  clear hr
  go_enter Try.func30, Try.ntmps30
  go_wp2
  go_loopw [8] (fun i wr => ∃ k : Nat, k ≤ xs.length ∧ i = .int .i64 k ∧ wr = w ∧ Hid (∀ j, j < k → xs[j]? ≠ some t)) (fun i _ => xs.length - (intOf i).toNat)
  case atStart => exact ⟨0, Nat.zero_le _, rfl, rfl, Lib.hid (fun j h => by omega)⟩
  case round =>
    obtain ⟨k, hk, rfl, rfl, HQ⟩ := hrel
    by_cases hlt : k < xs.length
    · obtain ⟨ad, rfl, x0a⟩ := rd_at HR.out k hlt
      obtain ⟨y, hy, x0⟩ : ∃ y, xs[k]? = some y ∧ wr.cell? (ad.add k) = some (.int .i64 y) := ⟨_, List.getElem?_eq_getElem hlt, x0a⟩
      have HLT := Lib.hid hlt
      have HYY := Lib.hid hy
      have i1 : (0 : Int) ≤ (k : Int) := Int.natCast_nonneg _
      have i2 : (k : Int) < (xs.length : Int) := by omega
      clear hy x0a
      by_cases he : t = y
      · subst he
        have HM := Lib.hid (List.mem_of_getElem? HYY.out)
        go_wp2
        go_ret
        exact ⟨_, rfl, ⟨0, rfl⟩, by rw [decide_eq_true HM.out, decide_eq_true i1]⟩
      · have HNE := Lib.hid he
        have g1 : (t == y) = false := by simpa using he
        clear he
        go_wp2
        go_roundw
        case rel => exact ⟨k + 1, by have := HLT.out; omega, by go_num, trivial, Lib.hid (fun j hj => by
          by_cases e : j = k
          · subst e; rw [HYY.out]; intro h; injection h with h; exact HNE.out h.symm
          · exact HQ.out j (by omega))⟩
        case measure => simp [intOf]; omega
    · obtain rfl : k = xs.length := by omega
      have HM := Lib.hid (show ¬ t ∈ xs from fun h => by
        obtain ⟨j, hj⟩ := List.getElem?_of_mem h
        exact HQ.out j (List.getElem?_eq_some_iff.1 hj).1 hj)
      go_wp2
      go_ret
      exact ⟨-1, rfl, ⟨0, rfl⟩, by rw [decide_eq_false HM.out]; rfl⟩
set_option maxHeartbeats 1600000 in
theorem contains_any (A : Option Addr) (n c : Nat) (xs : List Int) (t : Int) (hn : n = xs.length) (w : World) (hr : Rd w (.slice A n c) n 1 (ints xs)) (hl : xs.length ≤ 1000000) :
    Calls Try.prog 24 #[.slice A n c, .int .i64 t] w (Quiet w (.bool (decide (t ∈ xs)))) := by
  subst hn
  have HR := Lib.hid hr
  clear hr
  go_enter Try.func24, Try.ntmps24
  go_wp2_with fail
  with_reducible refine (index_any A xs.length c xs t rfl _ HR.out hl).mono ?_
  rintro e w' ⟨r, rfl, ⟨m, rfl⟩, hd⟩
  have HD := Lib.hid hd
  clear hd
  go_wp2_with fail
  go_ret
  exact ⟨by rw [← HD.out]; rfl, m, rfl⟩
set_option maxHeartbeats 1600000 in
theorem page_any (a : Int) (w : World) :
    Calls Try.prog 23 #[.int .i64 a] w (fun x w' => ∃ r : Int, x = .returned (.int .i64 r) ∧ (∃ n, w' = w.drewN n) ∧ decide (r < 0) = decide (a < 0 ∨ 2048 ≤ a)) := by
  by_cases h1 : a < 0
  · have HH := Lib.hid h1
    have g1 : decide (a < 0) = true := by simp; omega
    clear h1
    go_enter Try.func23, Try.ntmps23
    go_wp2
    go_ret
    exact ⟨-1, rfl, ⟨0, rfl⟩, by rw [decide_eq_true (Or.inl HH.out)]; rfl⟩
  by_cases h2 : 2048 ≤ a
  · have HH := Lib.hid h2
    have g1 : decide (a < 0) = false := by simp; omega
    have g2 : decide (2048 ≤ a) = true := by simp; omega
    clear h1 h2
    go_enter Try.func23, Try.ntmps23
    go_wp2
    go_ret
    exact ⟨-1, rfl, ⟨0, rfl⟩, by rw [decide_eq_true (Or.inr HH.out)]; rfl⟩
  · have HH := Lib.hid (show ¬ (a < 0 ∨ 2048 ≤ a) by omega)
    have g1 : decide (a < 0) = false := by simp; omega
    have g2 : decide (2048 ≤ a) = false := by simp; omega
    have hq : a.tdiv 32 = a / 32 := Int.tdiv_eq_ediv_of_nonneg (by omega)
    have HA := Lib.hid (show 0 ≤ a ∧ a < 2048 by omega)
    clear h1 h2
    go_enter Try.func23, Try.ntmps23
    go_wp2
    go_ret
    refine ⟨_, rfl, ⟨0, rfl⟩, ?_⟩
    rw [decide_eq_false HH.out]
    have := HA.out
    simp
    unfold wrap64
    omega

end Go.Proofs.Ytmgfidepjclobaa.Buffer
