/- Proved: what each call of package epoch does to a registry in memory and answers (the calls' contracts); the conditions stand in each theorem. -/
import Derived.Test.YtneogdjogdbmcaaNums
namespace Go.Proofs.Ytneogdjogdbmcaa.Epoch
open Go.RowKit Go.Proofs.Ytneogdjogdbmcaa.H Go.Proofs.Ytneogdjogdbmcaa.Nums

/-- a thread: is it live, and what it confirmed -/
abbrev Mb := Bool × Int
theorem infoM : (Try.prog.info? 52).map (fun i => (i.zero, i.size, i.bytes)) = some (some (.agg #[.bool false, .int .i64 0]), 2, 16) := by kernel_rfl
def mbs (l : List Mb) : List Value := l.flatMap fun p => [.bool p.1, .int .i64 p.2]
theorem mbs_length (l : List Mb) : (mbs l).length = l.length * 2 := by
  induction l with
  | nil => rfl
  | cons p l ih => simp only [mbs, List.flatMap_cons, List.length_append, List.length_cons, List.length_nil] at ih ⊢; omega
theorem mbs_at (l : List Mb) (k : Nat) (h : k < l.length) : (mbs l)[k * 2]? = some (.bool (l[k]).1) ∧ (mbs l)[k * 2 + 1]? = some (.int .i64 (l[k]).2) := by
  induction l generalizing k with
  | nil => simp at h
  | cons p l ih =>
    cases k with
    | zero => simp [mbs]
    | succ k =>
      have h2 := ih k (by simpa using h)
      have e : mbs (p :: l) = .bool p.1 :: .int .i64 p.2 :: mbs l := by simp [mbs]
      rw [e, show (k + 1) * 2 = k * 2 + 1 + 1 by omega]
      simpa using h2
theorem mbs_one (l : List Mb) : ∀ u ∈ mbs l, u.oneCell' = true := by
  intro u hu
  simp only [mbs, List.mem_flatMap] at hu
  obtain ⟨p, _, hp⟩ := hu
  simp at hp
  rcases hp with rfl | rfl <;> rfl
theorem mbs_set (l : List Mb) (k : Nat) (h : k < l.length) (a : Bool) (b : Int) : mbs (l.set k (a, b)) = ((mbs l).set (k * 2) (.bool a)).set (k * 2 + 1) (.int .i64 b) := by
  induction l generalizing k with
  | nil => simp at h
  | cons p l ih =>
    have e : mbs (p :: l) = .bool p.1 :: .int .i64 p.2 :: mbs l := by simp [mbs]
    cases k with
    | zero => rw [e]; simp [mbs]
    | succ k =>
      have e2 : mbs (p :: l.set k (a, b)) = .bool p.1 :: .int .i64 p.2 :: mbs (l.set k (a, b)) := by simp [mbs]
      rw [List.set_cons_succ, e2, ih k (by simpa using h), e, show (k + 1) * 2 = k * 2 + 1 + 1 by omega]
      simp
theorem set_same (l : List Value) (i : Nat) (u : Value) (h : l[i]? = some u) : l.set i u = l := by
  apply List.ext_getElem?
  intro j
  rw [List.getElem?_set]
  have hi := (List.getElem?_eq_some_iff.1 h).1
  by_cases e : i = j
  · subst e; rw [if_pos rfl, if_pos hi, h]
  · rw [if_neg e]

/-- a registry: its own block g, and the row v in which its threads lie -/
structure Reg (w : World) (B g : Nat) (v : Value) (l : List Mb) (e : Int) : Prop where
  blk : w.heap[g]? = some (.cells #[.bool true, .int .i64 e, v] 45 (0, 0))
  own : w.ownsRow B 52 2 v l.length (mbs l)
  base : B ≤ g
  len : l.length ≤ 8
def Foot (g : Nat) (v : Value) : Nat → Prop := fun k => k = g ∨ v.ownBlock = some k
theorem Reg.ne {w : World} {B g : Nat} {v : Value} {l : List Mb} {e : Int} (h : Reg w B g v l e) : v.ownBlock ≠ some g := own_ne_blk h.own h.blk (by decide)
theorem Reg.foot_lt {w : World} {B g : Nat} {v : Value} {l : List Mb} {e : Int} (h : Reg w B g v l e) : ∀ k, Foot g v k → B ≤ k ∧ k < w.heap.size := by
  rintro k (rfl | hk)
  · exact ⟨h.base, lt_of_blk h.blk⟩
  · exact h.own.lt k hk
theorem Reg.fr {w w' : World} {B g : Nat} {v : Value} {l : List Mb} {e : Int} (h : Reg w B g v l e) {S : Nat → Prop} (hf : Fr S w w') (hn : ∀ k, Foot g v k → ¬ S k) : Reg w' B g v l e :=
  ⟨hf.blk h.blk (hn g (.inl rfl)), hf.own h.own (fun k hk => hn k (.inr hk)), h.base, h.len⟩
theorem Reg.no {w w' : World} {B g : Nat} {v : Value} {l : List Mb} {e : Int} (h : Reg w B g v l e) (hf : Fr No w w') : Reg w' B g v l e := h.fr hf (fun _ _ h => h)
theorem Reg.below {w w' : World} {B g : Nat} {v : Value} {l : List Mb} {e : Int} (h : Reg w B g v l e) (hf : Fr (Foot g v) w w') (hB : B ≤ w.heap.size) : Below B w w' := hf.below hB (fun k hk => (h.foot_lt k hk).1)
theorem own_lower {w : World} {B B' : Nat} {v : Value} {n : Nat} {t : TypeId} {sz : Nat} {xs : List Value} (h : w.ownsRow B t sz v n xs) (hB : B' ≤ B) : w.ownsRow B' t sz v n xs := by
  refine ⟨h.1, ?_⟩
  rcases h.2 with h2 | ⟨d, cap, cur, h1, h2, h3⟩
  · exact .inl h2
  · exact .inr ⟨d, cap, cur, h1, Nat.le_trans hB h2, h3⟩
theorem Reg.lower {w : World} {B B' g : Nat} {v : Value} {l : List Mb} {e : Int} (h : Reg w B g v l e) (hB : B' ≤ B) : Reg w B' g v l e := ⟨h.blk, own_lower h.own hB, Nat.le_trans hB h.base, h.len⟩

/-- a thread's two cells -/
theorem mb_at {w : World} {B : Nat} {v : Value} {l : List Mb} (h : w.ownsRow B 52 2 v l.length (mbs l)) (k : Nat) (hk : k < l.length) :
    ∃ d c, v = .slice (some ⟨d, 0, none⟩) l.length c ∧ w.cell? ⟨d, k * 2, none⟩ = some (.bool (l[k]).1) ∧ w.cell? ⟨d, k * 2 + 1, none⟩ = some (.int .i64 (l[k]).2) ∧ w.frozen? ⟨d, k * 2, none⟩ = false ∧ w.frozen? ⟨d, k * 2 + 1, none⟩ = false ∧ d < w.heap.size ∧ B ≤ d := by
  rcases h.2 with ⟨_, h0⟩ | ⟨d, cap, cur, hv, hb, hd, hnc, hcm, hcs, htk⟩
  · omega
  · obtain ⟨a1, a2⟩ := mbs_at l k hk
    have g : ∀ i u, (mbs l)[i]? = some u → w.cell? ⟨d, i, none⟩ = some u := by
      intro i u hu
      rw [← htk, List.getElem?_take] at hu
      split at hu
      · rw [cell_of hd]; simpa using hu
      · cases hu
    exact ⟨d, cap, hv, g _ _ a1, g _ _ a2, free_of hd _, free_of hd _, lt_of_blk hd, hb⟩
/-- the row behind a store into one thread -/
theorem mb_put {w : World} {B d n c : Nat} {l : List Mb} (h : w.ownsRow B 52 2 (.slice (some ⟨d, 0, none⟩) n c) l.length (mbs l)) (k : Nat) (hk : k < l.length) (a : Bool) (b : Int) :
    ((w.setCell ⟨d, k * 2, none⟩ (.bool a)).setCell ⟨d, k * 2 + 1, none⟩ (.int .i64 b)).ownsRow B 52 2 (.slice (some ⟨d, 0, none⟩) n c) (l.set k (a, b)).length (mbs (l.set k (a, b))) := by
  refine ⟨mbs_length _, ?_⟩
  rcases h.2 with ⟨h0, _⟩ | ⟨d', cap, cur, hv, hB, hd, hnc, hcm, hcs, htk⟩
  · cases h0
  · injection hv with h1 h2 h3
    injection h1 with h1
    injection h1 with h1 _ _
    subst h1 h2 h3
    refine .inr ⟨d, c, (cur.setIfInBounds (k * 2) (.bool a)).setIfInBounds (k * 2 + 1) (.int .i64 b), by rw [List.length_set], hB, set_of (set_of hd _ _) _ _, by rw [List.length_set]; exact hnc, hcm, by simpa using hcs, ?_⟩
    rw [List.length_set, Array.toList_setIfInBounds, Array.toList_setIfInBounds, List.take_set, List.take_set, htk, mbs_set l k hk]
theorem mb_put2 {w : World} {B d n c : Nat} {l : List Mb} (h : w.ownsRow B 52 2 (.slice (some ⟨d, 0, none⟩) n c) l.length (mbs l)) (k : Nat) (hk : k < l.length) (b : Int) :
    (w.setCell ⟨d, k * 2 + 1, none⟩ (.int .i64 b)).ownsRow B 52 2 (.slice (some ⟨d, 0, none⟩) n c) (l.set k ((l[k]).1, b)).length (mbs (l.set k ((l[k]).1, b))) := by
  refine ⟨mbs_length _, ?_⟩
  rcases h.2 with ⟨h0, _⟩ | ⟨d', cap, cur, hv, hB, hd, hnc, hcm, hcs, htk⟩
  · cases h0
  · injection hv with h1 h2 h3
    injection h1 with h1
    injection h1 with h1 _ _
    subst h1 h2 h3
    refine .inr ⟨d, c, cur.setIfInBounds (k * 2 + 1) (.int .i64 b), by rw [List.length_set], hB, set_of hd _ _, by rw [List.length_set]; exact hnc, hcm, by simpa using hcs, ?_⟩
    rw [List.length_set, Array.toList_setIfInBounds, List.take_set, htk, mbs_set l k hk, set_same _ _ _ (mbs_at l k hk).1]

/-- is a thread live? -/
def liveB (l : List Mb) (t : Int) : Bool := if t < 0 then false else ((l[t.toNat]?).map (·.1)).getD false
theorem liveB_in (l : List Mb) (k : Nat) (h : k < l.length) : liveB l (k : Int) = (l[k]).1 := by unfold liveB; rw [if_neg (by omega)]; simp [h]
theorem liveB_neg (l : List Mb) (t : Int) (h : t < 0) : liveB l t = false := by unfold liveB; rw [if_pos h]
theorem liveB_past (l : List Mb) (t : Int) (h : (l.length : Int) ≤ t) : liveB l t = false := by
  unfold liveB
  rw [if_neg (by omega), List.getElem?_eq_none (by omega)]; rfl

/-- the facts of a registry that a walk reads -/
theorem Reg.cells {w : World} {B g : Nat} {A : Option Addr} {c : Nat} {l : List Mb} {e : Int} (h : Reg w B g (.slice A l.length c) l e) :
    w.cell? ⟨g, 0, none⟩ = some (.bool true) ∧ w.cell? ⟨g, 1, none⟩ = some (.int .i64 e) ∧ w.cell? ⟨g, 2, none⟩ = some (.slice A l.length c) ∧ w.frozen? ⟨g, 1, none⟩ = false :=
  ⟨cell_of h.blk 0, cell_of h.blk 1, cell_of h.blk 2, free_of h.blk 1⟩

set_option maxHeartbeats 3200000 in
theorem live_any (B g : Nat) (v : Value) (l : List Mb) (e t : Int) (w : World) (hs : Reg w B g v l e) :
    Calls Try.prog 24 #[.pointer (some ⟨g, 0, none⟩), .int .i64 t] w (Quiet w (.bool (liveB l t))) := by
  obtain ⟨A, c, rfl, _⟩ := own_slice hs.own
  obtain ⟨c0, c1, c2, _⟩ := hs.cells
  by_cases h1 : t < 0
  · rw [liveB_neg l t h1]
    have g1 : decide (0 ≤ t) = false := by simp; omega
    clear h1 hs
    go_enter Try.func24, Try.ntmps24
    go_wp2
    go_ret
    exact ⟨rfl, 0, rfl⟩
  by_cases h2 : (l.length : Int) ≤ t
  · rw [liveB_past l t h2]
    have g1 : decide (0 ≤ t) = true := by simp; omega
    have g2 : decide (t < (l.length : Int)) = false := by simp; omega
    clear h1 h2 hs
    go_enter Try.func24, Try.ntmps24
    go_wp2
    go_ret
    exact ⟨rfl, 0, rfl⟩
  obtain ⟨k, rfl⟩ := Int.eq_ofNat_of_zero_le (show 0 ≤ t by omega)
  have hk : k < l.length := by omega
  obtain ⟨d, c', he, x0, _⟩ := mb_at hs.own k hk
  injection he with he _ _
  subst he
  rw [liveB_in l k hk]
  generalize (l[k]).1 = b at x0 ⊢
  have i1 : (0 : Int) ≤ (k : Int) := Int.natCast_nonneg _
  have i2 : (k : Int) < (l.length : Int) := by omega
  clear h1 h2 hs
  go_enter Try.func24, Try.ntmps24
  go_wp2
  go_ret
  exact ⟨rfl, 0, rfl⟩

def PutPost (B g : Nat) (v : Value) (l' : List Mb) (e' : Int) (r : Value) (w : World) (x : Ending) (w' : World) : Prop :=
  x = .returned r ∧ Reg w' B g v l' e' ∧ Fr (Foot g v) w w'

set_option maxHeartbeats 3200000 in
theorem attach_no (B g : Nat) (v : Value) (l : List Mb) (e t : Int) (w : World) (hs : Reg w B g v l e) (h : t < 0 ∨ (l.length : Int) ≤ t ∨ liveB l t = true) :
    Calls Try.prog 11 #[.pointer (some ⟨g, 0, none⟩), .int .i64 t] w (Quiet w (.bool false)) := by
  obtain ⟨A, c, rfl, _⟩ := own_slice hs.own
  obtain ⟨c0, c1, c2, _⟩ := hs.cells
  by_cases h1 : t < 0
  · have g1 : decide (t < 0) = true := by simp; omega
    clear h1 hs h
    go_enter Try.func11, Try.ntmps11
    go_wp2
    go_ret
    exact ⟨rfl, 0, rfl⟩
  by_cases h2 : (l.length : Int) ≤ t
  · have g1 : decide (t < 0) = false := by simp; omega
    have g2 : decide ((l.length : Int) ≤ t) = true := by simp; omega
    clear h1 h2 hs h
    go_enter Try.func11, Try.ntmps11
    go_wp2
    go_ret
    exact ⟨rfl, 0, rfl⟩
  obtain ⟨k, rfl⟩ := Int.eq_ofNat_of_zero_le (show 0 ≤ t by omega)
  have hk : k < l.length := by omega
  have h3 : liveB l (k : Int) = true := by
    rcases h with h | h | h
    · omega
    · omega
    · exact h
  obtain ⟨d, c', he, x0, _⟩ := mb_at hs.own k hk
  injection he with he _ _
  subst he
  rw [liveB_in l k hk] at h3
  rw [h3] at x0
  have i1 : (0 : Int) ≤ (k : Int) := Int.natCast_nonneg _
  have i2 : (k : Int) < (l.length : Int) := by omega
  have g1 : decide ((k : Int) < 0) = false := by simp
  have g2 : decide ((l.length : Int) ≤ (k : Int)) = false := by simp; omega
  clear h1 h2 hs h h3
  go_enter Try.func11, Try.ntmps11
  go_wp2
  go_ret
  exact ⟨rfl, 0, rfl⟩

/-- a thread's store, in frames -/
theorem reg_put {w : World} {B g d c : Nat} {l : List Mb} {e : Int} (hs : Reg w B g (.slice (some ⟨d, 0, none⟩) l.length c) l e) (k : Nat) (hk : k < l.length) (a : Bool) (b : Int) :
    Reg ((w.setCell ⟨d, k * 2, none⟩ (.bool a)).setCell ⟨d, k * 2 + 1, none⟩ (.int .i64 b)) B g (.slice (some ⟨d, 0, none⟩) l.length c) (l.set k (a, b)) e := by
  have hne : g ≠ d := fun h => hs.ne (by simp [Value.ownBlock, h])
  exact ⟨far_of (far_of hs.blk (p := ⟨d, k * 2, none⟩) hne _) (p := ⟨d, k * 2 + 1, none⟩) hne _, mb_put hs.own k hk a b, hs.base, by rw [List.length_set]; exact hs.len⟩
theorem reg_put2 {w : World} {B g d c : Nat} {l : List Mb} {e : Int} (hs : Reg w B g (.slice (some ⟨d, 0, none⟩) l.length c) l e) (k : Nat) (hk : k < l.length) (b : Int) :
    Reg (w.setCell ⟨d, k * 2 + 1, none⟩ (.int .i64 b)) B g (.slice (some ⟨d, 0, none⟩) l.length c) (l.set k ((l[k]).1, b)) e := by
  have hne : g ≠ d := fun h => hs.ne (by simp [Value.ownBlock, h])
  exact ⟨far_of hs.blk (p := ⟨d, k * 2 + 1, none⟩) hne _, mb_put2 hs.own k hk b, hs.base, by rw [List.length_set]; exact hs.len⟩

set_option maxHeartbeats 3200000 in
theorem attach_yes (B g : Nat) (v : Value) (l : List Mb) (e : Int) (k : Nat) (w : World) (hs : Reg w B g v l e) (hk : k < l.length) (h : liveB l (k : Int) = false) :
    Calls Try.prog 11 #[.pointer (some ⟨g, 0, none⟩), .int .i64 k] w (PutPost B g v (l.set k (true, e)) e (.bool true) w) := by
  obtain ⟨A, c, rfl, _⟩ := own_slice hs.own
  obtain ⟨c0, c1, c2, _⟩ := hs.cells
  obtain ⟨d, c', he, x0, x1, f0, f1, _⟩ := mb_at hs.own k hk
  injection he with he _ _
  subst he
  rw [liveB_in l k hk] at h
  rw [h] at x0
  generalize (l[k]).2 = y at x1
  have i1 : (0 : Int) ≤ (k : Int) := Int.natCast_nonneg _
  have i2 : (k : Int) < (l.length : Int) := by omega
  have g1 : decide ((k : Int) < 0) = false := by simp
  have g2 : decide ((l.length : Int) ≤ (k : Int)) = false := by simp; omega
  have HS := Lib.hid hs
  have HK := Lib.hid hk
  clear hs h hk
  go_enter Try.func11, Try.ntmps11
  go_wp2
  go_region_with fail
  all_goals
    go_wp2
    go_ret
    exact ⟨rfl, (reg_put HS.out k HK.out true e).no (Fr.drew (Fr.refl _ _)), Fr.drew (((Fr.refl _ w).setCell (p := ⟨d, k * 2, none⟩) (.inl (.inr rfl)) _).setCell (p := ⟨d, k * 2 + 1, none⟩) (.inl (.inr rfl)) _)⟩

set_option maxHeartbeats 3200000 in
theorem detach_no (B g : Nat) (v : Value) (l : List Mb) (e t : Int) (w : World) (hs : Reg w B g v l e) (h : liveB l t = false) :
    Calls Try.prog 12 #[.pointer (some ⟨g, 0, none⟩), .int .i64 t] w (Quiet w (.bool false)) := by
  have HL := live_any B g v l e t w hs
  rw [h] at HL
  have HL := Lib.hid HL
  clear hs h
  go_enter Try.func12, Try.ntmps12
  go_wp2_with (go_at_call 24; refine HL.out.mono ?_; rintro e w' ⟨rfl, k, rfl⟩)
  go_ret
  exact ⟨rfl, k, rfl⟩

set_option maxHeartbeats 3200000 in
theorem detach_yes (B g : Nat) (v : Value) (l : List Mb) (e : Int) (k : Nat) (w : World) (hs : Reg w B g v l e) (hk : k < l.length) (h : liveB l (k : Int) = true) :
    Calls Try.prog 12 #[.pointer (some ⟨g, 0, none⟩), .int .i64 k] w (PutPost B g v (l.set k (false, 0)) e (.bool true) w) := by
  obtain ⟨A, c, rfl, _⟩ := own_slice hs.own
  obtain ⟨c0, c1, c2, _⟩ := hs.cells
  obtain ⟨d, c', he, x0, x1, f0, f1, _⟩ := mb_at hs.own k hk
  injection he with he _ _
  subst he
  have HL := live_any B g _ l e k w hs
  rw [h] at HL
  have HL := Lib.hid HL
  generalize (l[k]).2 = y at x1
  generalize (l[k]).1 = z at x0
  have i1 : (0 : Int) ≤ (k : Int) := Int.natCast_nonneg _
  have i2 : (k : Int) < (l.length : Int) := by omega
  have HS := Lib.hid hs
  have HK := Lib.hid hk
  clear hs h hk
  go_enter Try.func12, Try.ntmps12
  go_wp2_with (go_at_call 24; refine HL.out.mono ?_; rintro e w' ⟨rfl, n, rfl⟩)
  go_ret
  exact ⟨rfl, reg_put (HS.out.no (Fr.drewN (Fr.refl _ w) n)) k HK.out false 0, ((Fr.drewN (Fr.refl _ w) n).setCell (p := ⟨d, k * 2, none⟩) (.inl (.inr rfl)) _).setCell (p := ⟨d, k * 2 + 1, none⟩) (.inl (.inr rfl)) _⟩

set_option maxHeartbeats 3200000 in
theorem raise_any (B g : Nat) (v : Value) (l : List Mb) (e : Int) (w : World) (hs : Reg w B g v l e) :
    Calls Try.prog 13 #[.pointer (some ⟨g, 0, none⟩)] w (PutPost B g v l (wrap64 (e + 1)) (.int .i64 (wrap64 (e + 1))) w) := by
  obtain ⟨A, c, rfl, _⟩ := own_slice hs.own
  obtain ⟨c0, c1, c2, f1⟩ := hs.cells
  have HS := Lib.hid hs
  clear hs
  go_enter Try.func13, Try.ntmps13
  go_wp2
  go_ret
  exact ⟨rfl, ⟨set_of HS.out.blk 1 _, own_setCell HS.out.own (p := ⟨g, 1, none⟩) HS.out.ne _, HS.out.base, HS.out.len⟩, (Fr.refl _ w).setCell (p := ⟨g, 1, none⟩) (.inl (.inl rfl)) _⟩

/-- what a thread confirmed -/
def ofI (l : List Mb) (t : Int) : Int := if liveB l t = true then ((l[t.toNat]?).map (·.2)).getD 0 else -1
theorem ofI_in (l : List Mb) (k : Nat) (h : k < l.length) (hl : liveB l (k : Int) = true) : ofI l (k : Int) = (l[k]).2 := by unfold ofI; rw [if_pos hl]; simp [h]
theorem live_lt (l : List Mb) (t : Int) (h : liveB l t = true) : ∃ k : Nat, t = (k : Int) ∧ k < l.length := by
  by_cases h1 : t < 0
  · rw [liveB_neg l t h1] at h; cases h
  by_cases h2 : (l.length : Int) ≤ t
  · rw [liveB_past l t h2] at h; cases h
  exact ⟨t.toNat, by omega, by omega⟩

set_option maxHeartbeats 3200000 in
theorem confirm_no (B g : Nat) (v : Value) (l : List Mb) (e t : Int) (w : World) (hs : Reg w B g v l e) (h : liveB l t = true → e ≤ ofI l t) :
    Calls Try.prog 14 #[.pointer (some ⟨g, 0, none⟩), .int .i64 t] w (Quiet w (.bool false)) := by
  have HL := live_any B g v l e t
  cases hl : liveB l t with
  | false =>
    rw [hl] at HL
    have HL := Lib.hid HL
    have HS := Lib.hid hs
    clear hs h hl
    go_enter Try.func14, Try.ntmps14
    go_wp2
    go_quiet ((go_at_call 24; exact Calls.quiet_of (HL.out _ (HS.out.no (Fr.drewN (Fr.refl _ _) _)))))
    go_wp2
    go_ret
    exact ⟨rfl, _, rfl⟩
  | true =>
    rw [hl] at HL
    obtain ⟨k, rfl, hk⟩ := live_lt l t hl
    have h1 := h hl
    rw [ofI_in l k hk hl] at h1
    obtain ⟨A, c, rfl, _⟩ := own_slice hs.own
    obtain ⟨c0, c1, c2, f1⟩ := hs.cells
    obtain ⟨d, c', he, x0, x1, _⟩ := mb_at hs.own k hk
    injection he with he _ _
    subst he
    generalize (l[k]).2 = y at x1 h1
    have HL := Lib.hid HL
    have HS := Lib.hid hs
    have i1 : (0 : Int) ≤ (k : Int) := Int.natCast_nonneg _
    have i2 : (k : Int) < (l.length : Int) := by omega
    have g1 : decide (e ≤ y) = true := by simp; omega
    clear hs h hl h1
    go_enter Try.func14, Try.ntmps14
    go_wp2
    go_quiet ((go_at_call 24; exact Calls.quiet_of (HL.out _ (HS.out.no (Fr.drewN (Fr.refl _ _) _)))))
    go_wp2
    go_ret
    exact ⟨rfl, _, rfl⟩

set_option maxHeartbeats 3200000 in
theorem confirm_yes (B g : Nat) (v : Value) (l : List Mb) (e : Int) (k : Nat) (w : World) (hs : Reg w B g v l e) (hk : k < l.length) (hl : liveB l (k : Int) = true) (h : ofI l (k : Int) < e) :
    Calls Try.prog 14 #[.pointer (some ⟨g, 0, none⟩), .int .i64 k] w (PutPost B g v (l.set k (true, e)) e (.bool true) w) := by
  have HL := live_any B g v l e k
  rw [hl] at HL
  rw [ofI_in l k hk hl] at h
  obtain ⟨A, c, rfl, _⟩ := own_slice hs.own
  obtain ⟨c0, c1, c2, f1⟩ := hs.cells
  obtain ⟨d, c', he, x0, x1, f0, f1, _⟩ := mb_at hs.own k hk
  injection he with he _ _
  subst he
  have HE : Hid (l.set k ((l[k]).1, e) = l.set k (true, e)) := Lib.hid (by rw [liveB_in l k hk] at hl; rw [hl])
  generalize (l[k]).2 = y at x1 h
  have HL := Lib.hid HL
  have HS := Lib.hid hs
  have HK := Lib.hid hk
  have i1 : (0 : Int) ≤ (k : Int) := Int.natCast_nonneg _
  have i2 : (k : Int) < (l.length : Int) := by omega
  have g1 : decide (e ≤ y) = false := by simp; omega
  clear hs h hl
  go_enter Try.func14, Try.ntmps14
  go_wp2
  go_quiet ((go_at_call 24; exact Calls.quiet_of (HL.out _ (HS.out.no (Fr.drewN (Fr.refl _ _) _)))))
  go_wp2
  go_region_with fail
  all_goals
    go_wp2
    go_ret
    exact ⟨rfl, by rw [← HE.out]; exact reg_put2 (HS.out.no (Fr.drewN (Fr.refl _ _) _)) k HK.out e, (Fr.drewN (Fr.refl _ w) _).setCell (p := ⟨d, k * 2 + 1, none⟩) (.inl (.inr rfl)) _⟩

set_option maxHeartbeats 3200000 in
theorem epoch_any (B g : Nat) (v : Value) (l : List Mb) (e : Int) (w : World) (hs : Reg w B g v l e) :
    Calls Try.prog 17 #[.pointer (some ⟨g, 0, none⟩)] w (Quiet w (.int .i64 e)) := by
  obtain ⟨A, c, rfl, _⟩ := own_slice hs.own
  obtain ⟨c0, c1, c2, f1⟩ := hs.cells
  clear hs
  go_enter Try.func17, Try.ntmps17
  go_wp2
  go_ret
  exact ⟨rfl, 0, rfl⟩

set_option maxHeartbeats 3200000 in
theorem of_any (B g : Nat) (v : Value) (l : List Mb) (e t : Int) (w : World) (hs : Reg w B g v l e) :
    Calls Try.prog 16 #[.pointer (some ⟨g, 0, none⟩), .int .i64 t] w (Quiet w (.int .i64 (ofI l t))) := by
  have HL := live_any B g v l e t w hs
  cases hl : liveB l t with
  | false =>
    rw [hl] at HL
    have HL := Lib.hid HL
    rw [show ofI l t = -1 by unfold ofI; rw [hl]; rfl]
    clear hs hl
    go_enter Try.func16, Try.ntmps16
    go_wp2_with (go_at_call 24; refine HL.out.mono ?_; rintro e w' ⟨rfl, n, rfl⟩)
    go_ret
    exact ⟨rfl, n, rfl⟩
  | true =>
    rw [hl] at HL
    obtain ⟨k, rfl, hk⟩ := live_lt l t hl
    rw [ofI_in l k hk hl]
    obtain ⟨A, c, rfl, _⟩ := own_slice hs.own
    obtain ⟨c0, c1, c2, f1⟩ := hs.cells
    obtain ⟨d, c', he, x0, x1, _⟩ := mb_at hs.own k hk
    injection he with he _ _
    subst he
    generalize (l[k]).2 = y at x1 ⊢
    have HL := Lib.hid HL
    have i1 : (0 : Int) ≤ (k : Int) := Int.natCast_nonneg _
    have i2 : (k : Int) < (l.length : Int) := by omega
    clear hs hl
    go_enter Try.func16, Try.ntmps16
    go_wp2_with (go_at_call 24; refine HL.out.mono ?_; rintro e w' ⟨rfl, n, rfl⟩)
    go_ret
    exact ⟨rfl, n, rfl⟩

/-! ### where, All, Behind, Agreed, Least -/
/-- the numbers of those of the first k threads that are live and of which p holds -/
def pick (p : Mb → Bool) (l : List Mb) (k : Nat) : List Int := ((List.range k).filter fun j => ((l[j]?).map fun m => m.1 && p m).getD false).map fun j => ((j : Nat) : Int)
theorem pick_zero (p : Mb → Bool) (l : List Mb) : pick p l 0 = [] := rfl
theorem pick_succ (p : Mb → Bool) (l : List Mb) (k : Nat) (h : k < l.length) : pick p l (k + 1) = pick p l k ++ (if (l[k]).1 && p l[k] then [(k : Int)] else []) := by
  unfold pick
  rw [List.range_succ, List.filter_append, List.map_append]
  congr 1
  rw [List.filter_cons, List.getElem?_eq_getElem h]
  cases hb : ((l[k]).1 && p l[k]) <;> simp [hb]
theorem pick_le (p : Mb → Bool) (l : List Mb) (k : Nat) : (pick p l k).length ≤ k := by
  unfold pick
  rw [List.length_map]
  have := List.length_filter_le (fun j => ((l[j]?).map fun m => m.1 && p m).getD false) (List.range k)
  rwa [List.length_range] at this
def allP : Mb → Bool := fun _ => true
def behP (e : Int) : Mb → Bool := fun m => decide (m.2 < e)
def NumsPost (xs : List Int) (w : World) (x : Ending) (w' : World) : Prop := ∃ v', x = .returned v' ∧ Own w' w.heap.size v' xs ∧ Below w.heap.size w w'

set_option maxHeartbeats 1600000 in
theorem all1_any (a : Bool) (b : Int) (w : World) : Calls Try.prog 30 #[.agg #[.bool a, .int .i64 b]] w (Same w (.bool (allP (a, b)))) := by
  go_enter Try.func30, Try.ntmps30
  go_wp2
  go_ret
  exact ⟨rfl, (Below.refl _ _).alloc (Nat.le_refl _) _⟩
set_option maxHeartbeats 1600000 in
theorem behind1_any (B g : Nat) (v : Value) (l : List Mb) (e : Int) (q : Nat) (a : Bool) (b : Int) (w : World) (hs : Reg w B g v l e) (hq : w.heap[q]? = some (.cells #[.pointer (some ⟨g, 0, none⟩)] 29 (0, 0))) :
    Calls Try.prog 31 #[.agg #[.bool a, .int .i64 b], .pointer (some ⟨q, 0, none⟩)] w (Same w (.bool (behP e (a, b)))) := by
  obtain ⟨A, c, rfl, _⟩ := own_slice hs.own
  have hb := alloc_of hs.blk (.cells #[.bool a, .int .i64 b] 52)
  have hq2 := alloc_of hq (.cells #[.bool a, .int .i64 b] 52)
  have hn := heap_alloc_new w (.cells #[.bool a, .int .i64 b] 52)
  have c1 : (w.alloc (.cells #[.bool a, .int .i64 b] 52)).cell? ⟨g, 1, none⟩ = some (.int .i64 e) := cell_of hb 1
  have c2 : (w.alloc (.cells #[.bool a, .int .i64 b] 52)).cell? ⟨q, 0, none⟩ = some (.pointer (some ⟨g, 0, none⟩)) := cell_of hq2 0
  have c3 : (w.alloc (.cells #[.bool a, .int .i64 b] 52)).cell? ⟨w.heap.size, 1, none⟩ = some (.int .i64 b) := cell_of hn 1
  clear hs hq hb hq2 hn
  go_enter Try.func31, Try.ntmps31
  go_wp2
  go_quiet (fail)
  go_wp2
  go_ret
  exact ⟨rfl, (Fr.drewN ((Fr.refl No w).alloc _) _).below (Nat.le_refl _) (fun _ h => h.elim)⟩

set_option maxRecDepth 100000 in
set_option maxHeartbeats 6400000 in
theorem where_all (B g : Nat) (v : Value) (l : List Mb) (e : Int) (w : World) (hs : Reg w B g v l e) :
    Calls Try.prog 29 #[.pointer (some ⟨g, 0, none⟩), .func (.func 30) #[] #[]] w (NumsPost (pick allP l l.length) w) := by
  obtain ⟨A, c, rfl, _⟩ := own_slice hs.own
  obtain ⟨c0, c1, c2, _⟩ := hs.cells
  have HS := Lib.hid hs
  have hl8 := hs.len
  skip
  clear hs
  go_enter Try.func29, Try.ntmps29
  go_wp2
  go_loopw [5, 15] (fun o i wr => ∃ k : Nat, k ≤ l.length ∧ i = .int .i64 k ∧ Hid (Own wr w.heap.size o (pick allP l k) ∧ Below w.heap.size w wr)) (fun _ i _ => l.length - (intOf i).toNat)
  case atStart => exact ⟨0, Nat.zero_le _, rfl, Lib.hid ⟨Own.nil _ _, Below.refl _ _⟩⟩
  case round =>
    obtain ⟨k, hk, rfl, HR⟩ := hrel
    rename_i o
    obtain ⟨A5, c5, rfl, _⟩ := HR.out.1.slice
    by_cases hlt : k < l.length
    · have HP := Lib.hid (pick_succ allP l k hlt)
      have HPL := Lib.hid (pick_le allP l k)
      have HRG := Lib.hid (HS.out.no (Fr.of_below HR.out.2 No))
      obtain ⟨d, c', he, x0, x1, _, _, _⟩ := mb_at HRG.out.own k hlt
      injection he with he _ he3
      subst he he3
      obtain ⟨b, hb⟩ : ∃ b, b = (l[k]).1 := ⟨_, rfl⟩
      obtain ⟨y, hy⟩ : ∃ y, y = (l[k]).2 := ⟨_, rfl⟩
      rw [← hb] at x0
      rw [← hy] at x1
      rw [← hb, show allP l[k] = allP (b, y) by rw [hb, hy]] at HP
      have i1 : (0 : Int) ≤ (k : Int) := Int.natCast_nonneg _
      have i2 : (k : Int) < (l.length : Int) := by omega
      have HLT := Lib.hid hlt
      have z0 : (wr.alloc (.cells #[.bool b, .int .i64 y] 52)).cell? ⟨wr.heap.size, 0, none⟩ = some (.bool b) := cell_of (heap_alloc_new _ _) 0
      clear hb hy hlt
      cases b with
      | false =>
        have HP := Lib.hid (show pick allP l (k + 1) = pick allP l k by rw [HP.out]; simp)
        go_wp2
        go_roundw
        case rel => exact ⟨k + 1, HLT.out, by go_num, Lib.hid ⟨by rw [HP.out]; exact HR.out.1.fr (by repeat (first | exact Fr.refl No _ | apply Fr.drewN | apply Fr.drew | apply Fr.alloc)) (fun _ _ h => h), by have h := Fr.of_below HR.out.2 No; exact (Fr.alloc h _).below (Nat.le_refl _) (fun _ h => h.elim)⟩⟩
        case measure => have := HLT.out; simp [intOf]; omega
      | true =>
        have HP := Lib.hid (show pick allP l (k + 1) = pick allP l k ++ (if allP (true, y) then [(k : Int)] else []) by rw [HP.out]; simp)
        have HC := all1_any true y (wr.alloc (.cells #[.bool true, .int .i64 y] 52))
        obtain ⟨bp, hbp⟩ : ∃ bp, bp = allP (true, y) := ⟨_, rfl⟩
        have HC := Lib.hid HC
        rw [← hbp] at HC HP
        clear hbp
        go_wp2_with fail
        refine HC.out.mono ?_
        rintro e5 w5 ⟨rfl, hb5⟩
        have F5 := Lib.hid ((Fr.alloc (Fr.refl No wr) (.cells #[.bool true, .int .i64 y] 52)).then_below hb5)
        have O5 := Lib.hid (HR.out.1.fr F5.out (fun _ _ h => h))
        have B5 : Hid (Below w.heap.size w w5) := Lib.hid (HR.out.2.trans (F5.out.below HR.out.2.size (fun _ h => h.elim)))
        clear hb5 HC
        cases bp with
        | false =>
          have HP := Lib.hid (show pick allP l (k + 1) = pick allP l k by rw [HP.out]; simp)
          go_wp2
          go_roundw
          case rel => exact ⟨k + 1, HLT.out, by go_num, Lib.hid ⟨by rw [HP.out]; exact O5.out, B5.out⟩⟩
          case measure => have := HLT.out; simp [intOf]; omega
        | true =>
          have HP := Lib.hid (show pick allP l (k + 1) = pick allP l k ++ [(k : Int)] by rw [HP.out]; simp)
          go_wp2_with (at_builtin; refine app_one (l := pick allP l k) rfl (.tmp 27) (.tmp 29) rfl rfl (O5.out.fr (Fr.alloc (Fr.refl No _) _) (fun _ _ h => h)) rfl rfl (heap_alloc_new _ _) (by decide) (by have := HPL.out; omega) (by have := B5.out.size; simp; omega) ?_; intro v6 w6 h1 h2 h3; have O6 := Lib.hid h1; have G6 := Lib.hid h2; clear h1 h2 h3)
          go_roundw
          case rel => exact ⟨k + 1, HLT.out, by go_num, Lib.hid ⟨by rw [HP.out]; exact O6.out, (B5.out.alloc B5.out.size _).grown G6.out (by have := B5.out.size; simp; omega) (fun j hj => (O5.out.lt j hj).1)⟩⟩
          case measure => have := HLT.out; simp [intOf]; omega
    · obtain rfl : k = l.length := by omega
      go_wp2
      go_ret
      exact ⟨_, rfl, HR.out.1, HR.out.2⟩

set_option maxRecDepth 100000 in
set_option maxHeartbeats 6400000 in
theorem where_behind (B g : Nat) (v : Value) (l : List Mb) (e : Int) (q : Nat) (w : World) (hs : Reg w B g v l e) (hq : w.heap[q]? = some (.cells #[.pointer (some ⟨g, 0, none⟩)] 29 (0, 0))) :
    Calls Try.prog 29 #[.pointer (some ⟨g, 0, none⟩), .func (.func 31) #[] #[.pointer (some ⟨q, 0, none⟩)]] w (NumsPost (pick (behP e) l l.length) w) := by
  obtain ⟨A, c, rfl, _⟩ := own_slice hs.own
  obtain ⟨c0, c1, c2, _⟩ := hs.cells
  have HS := Lib.hid hs
  have hl8 := hs.len
  have HQ := Lib.hid hq
  clear hq
  clear hs
  go_enter Try.func29, Try.ntmps29
  go_wp2
  go_loopw [5, 15] (fun o i wr => ∃ k : Nat, k ≤ l.length ∧ i = .int .i64 k ∧ Hid (Own wr w.heap.size o (pick (behP e) l k) ∧ Below w.heap.size w wr)) (fun _ i _ => l.length - (intOf i).toNat)
  case atStart => exact ⟨0, Nat.zero_le _, rfl, Lib.hid ⟨Own.nil _ _, Below.refl _ _⟩⟩
  case round =>
    obtain ⟨k, hk, rfl, HR⟩ := hrel
    rename_i o
    obtain ⟨A5, c5, rfl, _⟩ := HR.out.1.slice
    by_cases hlt : k < l.length
    · have HP := Lib.hid (pick_succ (behP e) l k hlt)
      have HPL := Lib.hid (pick_le (behP e) l k)
      have HRG := Lib.hid (HS.out.no (Fr.of_below HR.out.2 No))
      obtain ⟨d, c', he, x0, x1, _, _, _⟩ := mb_at HRG.out.own k hlt
      injection he with he _ he3
      subst he he3
      obtain ⟨b, hb⟩ : ∃ b, b = (l[k]).1 := ⟨_, rfl⟩
      obtain ⟨y, hy⟩ : ∃ y, y = (l[k]).2 := ⟨_, rfl⟩
      rw [← hb] at x0
      rw [← hy] at x1
      rw [← hb, show (behP e) l[k] = (behP e) (b, y) by rw [hb, hy]] at HP
      have i1 : (0 : Int) ≤ (k : Int) := Int.natCast_nonneg _
      have i2 : (k : Int) < (l.length : Int) := by omega
      have HLT := Lib.hid hlt
      have z0 : (wr.alloc (.cells #[.bool b, .int .i64 y] 52)).cell? ⟨wr.heap.size, 0, none⟩ = some (.bool b) := cell_of (heap_alloc_new _ _) 0
      clear hb hy hlt
      cases b with
      | false =>
        have HP := Lib.hid (show pick (behP e) l (k + 1) = pick (behP e) l k by rw [HP.out]; simp)
        go_wp2
        go_roundw
        case rel => exact ⟨k + 1, HLT.out, by go_num, Lib.hid ⟨by rw [HP.out]; exact HR.out.1.fr (by repeat (first | exact Fr.refl No _ | apply Fr.drewN | apply Fr.drew | apply Fr.alloc)) (fun _ _ h => h), by have h := Fr.of_below HR.out.2 No; exact (Fr.alloc h _).below (Nat.le_refl _) (fun _ h => h.elim)⟩⟩
        case measure => have := HLT.out; simp [intOf]; omega
      | true =>
        have HP := Lib.hid (show pick (behP e) l (k + 1) = pick (behP e) l k ++ (if (behP e) (true, y) then [(k : Int)] else []) by rw [HP.out]; simp)
        have HC := behind1_any B g _ l e q true y (wr.alloc (.cells #[.bool true, .int .i64 y] 52)) (HRG.out.no (Fr.alloc (Fr.refl No _) _)) ((Fr.alloc (Fr.of_below HR.out.2 No) _).blk HQ.out (fun h => h))
        obtain ⟨bp, hbp⟩ : ∃ bp, bp = (behP e) (true, y) := ⟨_, rfl⟩
        have HC := Lib.hid HC
        rw [← hbp] at HC HP
        clear hbp
        go_wp2_with fail
        refine HC.out.mono ?_
        rintro e5 w5 ⟨rfl, hb5⟩
        have F5 := Lib.hid ((Fr.alloc (Fr.refl No wr) (.cells #[.bool true, .int .i64 y] 52)).then_below hb5)
        have O5 := Lib.hid (HR.out.1.fr F5.out (fun _ _ h => h))
        have B5 : Hid (Below w.heap.size w w5) := Lib.hid (HR.out.2.trans (F5.out.below HR.out.2.size (fun _ h => h.elim)))
        clear hb5 HC
        cases bp with
        | false =>
          have HP := Lib.hid (show pick (behP e) l (k + 1) = pick (behP e) l k by rw [HP.out]; simp)
          go_wp2
          go_roundw
          case rel => exact ⟨k + 1, HLT.out, by go_num, Lib.hid ⟨by rw [HP.out]; exact O5.out, B5.out⟩⟩
          case measure => have := HLT.out; simp [intOf]; omega
        | true =>
          have HP := Lib.hid (show pick (behP e) l (k + 1) = pick (behP e) l k ++ [(k : Int)] by rw [HP.out]; simp)
          go_wp2_with (at_builtin; refine app_one (l := pick (behP e) l k) rfl (.tmp 27) (.tmp 29) rfl rfl (O5.out.fr (Fr.alloc (Fr.refl No _) _) (fun _ _ h => h)) rfl rfl (heap_alloc_new _ _) (by decide) (by have := HPL.out; omega) (by have := B5.out.size; simp; omega) ?_; intro v6 w6 h1 h2 h3; have O6 := Lib.hid h1; have G6 := Lib.hid h2; clear h1 h2 h3)
          go_roundw
          case rel => exact ⟨k + 1, HLT.out, by go_num, Lib.hid ⟨by rw [HP.out]; exact O6.out, (B5.out.alloc B5.out.size _).grown G6.out (by have := B5.out.size; simp; omega) (fun j hj => (O5.out.lt j hj).1)⟩⟩
          case measure => have := HLT.out; simp [intOf]; omega
    · obtain rfl : k = l.length := by omega
      go_wp2
      go_ret
      exact ⟨_, rfl, HR.out.1, HR.out.2⟩

theorem NumsPost.slice {xs : List Int} {w w' : World} {x : Ending} (h : NumsPost xs w x w') : ∃ A c, x = .returned (.slice A xs.length c) ∧ Own w' w.heap.size (.slice A xs.length c) xs ∧ Below w.heap.size w w' := by
  obtain ⟨v, rfl, h1, h2⟩ := h
  obtain ⟨A, c, rfl, _⟩ := h1.slice
  exact ⟨A, c, rfl, h1, h2⟩

set_option maxHeartbeats 1600000 in
theorem all_any (B g : Nat) (v : Value) (l : List Mb) (e : Int) (w : World) (hs : Reg w B g v l e) :
    Calls Try.prog 15 #[.pointer (some ⟨g, 0, none⟩)] w (NumsPost (pick allP l l.length) w) := by
  have HC := Lib.hid (where_all B g v l e w hs)
  clear hs
  go_enter Try.func15, Try.ntmps15
  go_wp2_with fail
  refine HC.out.mono ?_
  rintro e' w' ⟨v', rfl, h1, h2⟩
  go_wp2
  go_ret
  exact ⟨_, rfl, h1, h2⟩

set_option maxHeartbeats 1600000 in
theorem behind_any (B g : Nat) (v : Value) (l : List Mb) (e : Int) (w : World) (hs : Reg w B g v l e) :
    Calls Try.prog 21 #[.pointer (some ⟨g, 0, none⟩)] w (NumsPost (pick (behP e) l l.length) w) := by
  have HC := Lib.hid (where_behind B g v l e w.heap.size (w.alloc (.cells #[.pointer (some ⟨g, 0, none⟩)] 29)) (hs.no (Fr.alloc (Fr.refl No _) _)) (heap_alloc_new _ _))
  clear hs
  go_enter Try.func21, Try.ntmps21
  go_wp2_with fail
  refine HC.out.mono ?_
  rintro e' w' ⟨v', rfl, h1, h2⟩
  have hz : (w.alloc (.cells #[.pointer (some ⟨g, 0, none⟩)] 29)).heap.size = w.heap.size + 1 := by simp
  have H1 := Lib.hid (h1.lower (show w.heap.size ≤ _ by rw [hz]; omega))
  have H2 : Hid (Below w.heap.size w w') := Lib.hid (((Below.refl _ w).alloc (Nat.le_refl _) _).trans (h2.mono (by rw [hz]; omega)))
  clear h1 h2
  go_wp2
  go_ret
  exact ⟨_, rfl, H1.out, H2.out⟩

set_option maxHeartbeats 1600000 in
theorem agreed_any (B g : Nat) (v : Value) (l : List Mb) (e : Int) (w : World) (hs : Reg w B g v l e) :
    Calls Try.prog 19 #[.pointer (some ⟨g, 0, none⟩)] w (Same w (.bool (((pick (behP e) l l.length).length : Int) == 0))) := by
  have HC := behind_any B g v l e w hs
  obtain ⟨xs, hxs⟩ : ∃ xs, xs = pick (behP e) l l.length := ⟨_, rfl⟩
  rw [← hxs] at HC ⊢
  have HC := Lib.hid HC
  clear hs hxs
  go_enter Try.func19, Try.ntmps19
  go_wp2_with fail
  refine HC.out.mono ?_
  rintro e' w' h
  obtain ⟨A', c', rfl, h1, h2⟩ := h.slice
  clear HC
  have H2 := Lib.hid h2
  clear h h1 h2
  go_wp2
  go_ret
  exact ⟨rfl, H2.out⟩

/-- the least of some numbers and one more -/
def leastI (l : List Mb) (n : Int) (xs : List Int) : Int := xs.foldl (fun a t => min a (ofI l t)) n
theorem leastI_snoc (l : List Mb) (n : Int) (xs : List Int) (t : Int) : leastI l n (xs ++ [t]) = min (leastI l n xs) (ofI l t) := by simp [leastI]

set_option maxHeartbeats 3200000 in
theorem least_any (B g : Nat) (v : Value) (l : List Mb) (e : Int) (w : World) (hs : Reg w B g v l e) :
    Calls Try.prog 18 #[.pointer (some ⟨g, 0, none⟩)] w (Same w (.int .i64 (leastI l e (pick allP l l.length)))) := by
  have HS := Lib.hid hs
  have hl8 := hs.len
  have HA : ∀ w, Reg w B g v l e → Calls Try.prog 15 #[.pointer (some ⟨g, 0, none⟩)] w (NumsPost (pick allP l l.length) w) := fun w hs => all_any B g v l e w hs
  have hxl := pick_le allP l l.length
  obtain ⟨xs, hxs⟩ : ∃ xs, xs = pick allP l l.length := ⟨_, rfl⟩
  rw [← hxs] at HA hxl ⊢
  have HA := Lib.hid HA
  clear hs hxs
  go_enter Try.func18, Try.ntmps18
  go_wp2_with fail
  refine (epoch_any B g v l e _ HS.out).mono ?_
  rintro e1 w1 ⟨rfl, n1, rfl⟩
  go_wp2_with fail
  refine (HA.out _ (HS.out.no (Fr.drewN (Fr.refl No w) n1))).mono ?_
  rintro e2 w2 h
  obtain ⟨A2, c2, rfl, h1, h2⟩ := h.slice
  have O2 := Lib.hid h1.rd
  have F2 := Lib.hid ((Fr.drewN (Fr.refl No w) n1).then_below h2)
  clear h h1 h2
  go_wp2
  go_loopw [3, 11] (fun m i wr => ∃ k : Nat, k ≤ xs.length ∧ i = .int .i64 k ∧ m = .int .i64 (leastI l e (xs.take k)) ∧ ∃ n, wr = w2.drewN n) (fun _ i _ => xs.length - (intOf i).toNat)
  case atStart => exact ⟨0, Nat.zero_le _, rfl, rfl, 0, rfl⟩
  case round =>
    obtain ⟨k, hk, rfl, rfl, n, rfl⟩ := hrel
    by_cases hlt : k < xs.length
    · obtain ⟨ad, rfl, x0⟩ := rd_at O2.out k hlt
      have HM : Hid (leastI l e (xs.take (k + 1)) = min (leastI l e (xs.take k)) (ofI l xs[k])) := Lib.hid (by rw [List.take_succ_eq_append_getElem hlt, leastI_snoc])
      generalize xs[k] = t at x0 HM
      generalize leastI l e (xs.take k) = m at HM ⊢
      have i1 : (0 : Int) ≤ (k : Int) := Int.natCast_nonneg _
      have i2 : (k : Int) < (xs.length : Int) := by omega
      go_wp2_with fail
      refine (of_any B g v l e t _ (HS.out.no (F2.out.drewN n))).mono ?_
      rintro e3 w3 ⟨rfl, n3, rfl⟩
      generalize ofI l t = u at HM ⊢
      go_wp2
      all_goals
        go_roundw
        case rel => exact ⟨k + 1, by omega, by go_num, by rw [HM.out]; congr 1; omega, n + n3, rfl⟩
        case measure => simp [intOf]; omega
    · obtain rfl : k = xs.length := by omega
      go_wp2
      go_ret
      exact ⟨by rw [List.take_length]; rfl, (F2.out.drewN n).below (Nat.le_refl _) (fun _ h => h.elim)⟩

end Go.Proofs.Ytneogdjogdbmcaa.Epoch
