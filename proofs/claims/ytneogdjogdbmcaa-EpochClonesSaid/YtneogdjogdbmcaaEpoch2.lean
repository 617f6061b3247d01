/- Proved: each call of package epoch in one form; New, Clone; and what registries that nobody made tell. -/
import Derived.Test.YtneogdjogdbmcaaEpoch
namespace Go.Proofs.Ytneogdjogdbmcaa.Epoch
open Go.RowKit Go.Proofs.Ytneogdjogdbmcaa.H Go.Proofs.Ytneogdjogdbmcaa.Nums

def attachB (l : List Mb) (t : Int) : Bool := decide (0 ≤ t) && decide (t < (l.length : Int)) && !liveB l t
def attachL (l : List Mb) (e t : Int) : List Mb := if attachB l t = true then l.set t.toNat (true, e) else l
def detachL (l : List Mb) (t : Int) : List Mb := if liveB l t = true then l.set t.toNat (false, 0) else l
def confirmB (l : List Mb) (e t : Int) : Bool := liveB l t && decide (ofI l t < e)
def confirmL (l : List Mb) (e t : Int) : List Mb := if confirmB l e t = true then l.set t.toNat (true, e) else l

theorem put_quiet {B g : Nat} {v : Value} {l : List Mb} {e : Int} {r : Value} {w w' : World} {x : Ending} (hs : Reg w B g v l e) (h : Quiet w r x w') : PutPost B g v l e r w x w' := by
  obtain ⟨rfl, n, rfl⟩ := h
  exact ⟨rfl, hs.no (Fr.drewN (Fr.refl _ _) n), Fr.drewN (Fr.refl _ _) n⟩
theorem attach_any (B g : Nat) (v : Value) (l : List Mb) (e t : Int) (w : World) (hs : Reg w B g v l e) :
    Calls Try.prog 11 #[.pointer (some ⟨g, 0, none⟩), .int .i64 t] w (PutPost B g v (attachL l e t) e (.bool (attachB l t)) w) := by
  unfold attachL
  cases h : attachB l t with
  | false =>
    rw [if_neg (by simp)]
    refine (attach_no B g v l e t w hs ?_).mono fun x w' hq => put_quiet hs hq
    unfold attachB at h
    simp at h
    by_cases h1 : t < 0
    · exact .inl h1
    by_cases h2 : (l.length : Int) ≤ t
    · exact .inr (.inl h2)
    exact .inr (.inr (h (by omega) (by omega)))
  | true =>
    rw [if_pos rfl]
    unfold attachB at h
    simp at h
    obtain ⟨k, rfl⟩ := Int.eq_ofNat_of_zero_le h.1.1
    exact attach_yes B g v l e k w hs (by omega) h.2
theorem detach_any (B g : Nat) (v : Value) (l : List Mb) (e t : Int) (w : World) (hs : Reg w B g v l e) :
    Calls Try.prog 12 #[.pointer (some ⟨g, 0, none⟩), .int .i64 t] w (PutPost B g v (detachL l t) e (.bool (liveB l t)) w) := by
  unfold detachL
  cases h : liveB l t with
  | false =>
    rw [if_neg (by simp)]
    exact (detach_no B g v l e t w hs h).mono fun x w' hq => put_quiet hs hq
  | true =>
    rw [if_pos rfl]
    obtain ⟨k, rfl, hk⟩ := live_lt l t h
    exact detach_yes B g v l e k w hs hk h
theorem confirm_any (B g : Nat) (v : Value) (l : List Mb) (e t : Int) (w : World) (hs : Reg w B g v l e) :
    Calls Try.prog 14 #[.pointer (some ⟨g, 0, none⟩), .int .i64 t] w (PutPost B g v (confirmL l e t) e (.bool (confirmB l e t)) w) := by
  unfold confirmL
  cases h : confirmB l e t with
  | false =>
    rw [if_neg (by simp)]
    refine (confirm_no B g v l e t w hs ?_).mono fun x w' hq => put_quiet hs hq
    intro hl
    unfold confirmB at h
    rw [hl] at h
    simpa using h
  | true =>
    rw [if_pos rfl]
    unfold confirmB at h
    simp at h
    obtain ⟨k, rfl, hk⟩ := live_lt l t h.1
    exact confirm_yes B g v l e k w hs hk h.1 h.2

/-! ### New, Clone -/
theorem clamp_any (n hi r : Int) (hr : max 0 (min n hi) = r) (hh : 0 ≤ hi) (w : World) :
    Calls Try.prog 27 #[.int .i64 n, .int .i64 0, .int .i64 hi] w (Quiet w (.int .i64 r)) := by
  subst hr
  by_cases h1 : n < 0
  · have e : max 0 (min n hi) = 0 := by omega
    rw [e]
    go_enter Try.func27, Try.ntmps27
    go_wp2
    go_ret
    exact ⟨rfl, 0, rfl⟩
  by_cases h2 : hi < n
  · have e : max 0 (min n hi) = hi := by omega
    rw [e]
    go_enter Try.func27, Try.ntmps27
    go_wp2
    go_ret
    exact ⟨rfl, 0, rfl⟩
  · have e : max 0 (min n hi) = n := by omega
    rw [e]
    go_enter Try.func27, Try.ntmps27
    go_wp2
    go_ret
    exact ⟨rfl, 0, rfl⟩
theorem near_any (n lo hi r : Int) (hr : max lo (min n hi) = r) (hh : lo ≤ hi) (w : World) :
    Calls Try.prog 28 #[.int .i64 n, .int .i64 lo, .int .i64 hi] w (Quiet w (.int .i64 r)) := by
  subst hr
  by_cases h1 : n < lo
  · have e : max lo (min n hi) = lo := by omega
    rw [e]
    go_enter Try.func28, Try.ntmps28
    go_wp2
    go_ret
    exact ⟨rfl, 0, rfl⟩
  by_cases h2 : hi < n
  · have e : max lo (min n hi) = hi := by omega
    rw [e]
    go_enter Try.func28, Try.ntmps28
    go_wp2
    go_ret
    exact ⟨rfl, 0, rfl⟩
  · have e : max lo (min n hi) = n := by omega
    rw [e]
    go_enter Try.func28, Try.ntmps28
    go_wp2
    go_ret
    exact ⟨rfl, 0, rfl⟩

def NewPost (l : List Mb) (e : Int) (w : World) (x : Ending) (w' : World) : Prop :=
  ∃ g v, x = .returned (.pointer (some ⟨g, 0, none⟩)) ∧ Reg w' w.heap.size g v l e ∧ Below w.heap.size w w'
theorem made2 (n : Nat) : (madeCells (Value.agg #[.bool false, .int .i64 0]).cells (n * 2)).toList = mbs (List.replicate n (false, 0)) := by
  apply List.ext_getElem?
  intro j
  have hl := mbs_length (List.replicate n ((false, 0) : Mb))
  rw [List.length_replicate] at hl
  by_cases hj : j < n * 2
  · have hk : j / 2 < (List.replicate n ((false, 0) : Mb)).length := by rw [List.length_replicate]; omega
    obtain ⟨a1, a2⟩ := mbs_at (List.replicate n ((false, 0) : Mb)) (j / 2) hk
    rw [List.getElem_replicate] at a1 a2
    rcases Nat.mod_two_eq_zero_or_one j with h | h
    · rw [show j / 2 * 2 = j by omega] at a1
      rw [a1]
      simp [madeCells, hj, Value.cells, h]
    · rw [show j / 2 * 2 + 1 = j by omega] at a2
      rw [a2]
      simp [madeCells, hj, Value.cells, h]
  · rw [List.getElem?_eq_none (l := mbs _) (by rw [hl]; omega), List.getElem?_eq_none (by simp [madeCells]; omega)]

set_option maxHeartbeats 3200000 in
theorem new_any (n : Int) (r : Nat) (hr : max 0 (min n 8) = (r : Int)) (w : World) :
    Calls Try.prog 8 #[.int .i64 n] w (NewPost (List.replicate r (false, 0)) 0 w) := by
  obtain ⟨i0, hi0, hz0, hz1, hz2⟩ := info_parts infoM
  have hb : r ≤ 8 := by omega
  have HR := Lib.hid hr
  have hmk : ∀ w : World, (Instr.makeSlice 43 (.int .i64 (r : Int)) (.int .i64 (r : Int))).run Try.prog w = .ok (.slice (some ⟨w.heap.size, 0, none⟩) r r) (w.alloc (.cells (madeCells (Value.agg #[.bool false, .int .i64 0]).cells (r * 2)) 52)) := fun w => by
    have h := run_make (P := Try.prog) w 43 52 i0 _ Try.underlying43 hi0 hz0 .i64 .i64 r r (by omega) (by omega) (by rw [hz2]; omega) (by omega)
    rw [hz1] at h
    simpa using h
  have HM := Lib.hid (made2 r)
  generalize madeCells (Value.agg #[.bool false, .int .i64 0]).cells (r * 2) = mc at hmk HM
  clear hr hi0 hz0 hz1 hz2
  go_enter Try.func8, Try.ntmps8
  go_wp2_with (go_at_call 27; refine (clamp_any n 8 _ rfl (by omega) _).mono ?_; rintro e w' ⟨rfl, k, rfl⟩; rw [HR.out])
  go_ret
  have h1 := heap_alloc_new (w.drewN k) (.cells mc 52)
  have h2 := heap2_new (w.drewN k) (.cells mc 52) (.cells #[.bool true, .int .i64 0, .slice (some ⟨w.heap.size, 0, none⟩) r r] 45)
  refine ⟨_, .slice (some ⟨w.heap.size, 0, none⟩) r r, rfl, ⟨h2, ?_, by simp, by simpa using hb⟩, ?_⟩
  · refine ⟨mbs_length _, .inr ⟨w.heap.size, r, mc, by simp, Nat.le_refl _, alloc_of h1 _, by simp, by unfold maxLen; omega, ?_, ?_⟩⟩
    · have := congrArg List.length HM.out
      rw [mbs_length] at this
      simpa using this
    · rw [HM.out, List.take_of_length_le (by rw [mbs_length]; simp)]
  · exact Fr.below (S := No) (by repeat (first | exact Fr.refl _ _ | apply Fr.drewN | apply Fr.drew | apply Fr.alloc)) (Nat.le_refl _) (fun _ h => h.elim)

def MbsPost (l : List Mb) (w : World) (e : Ending) (w' : World) : Prop :=
  ∃ v', e = .returned v' ∧ w'.ownsRow w.heap.size 52 2 v' l.length (mbs l) ∧ Below w.heap.size w w'
set_option maxHeartbeats 1600000 in
theorem mclone_any (v : Value) (l : List Mb) (w : World) (hr : Rd w v l.length 2 (mbs l)) (hl : l.length ≤ 8) :
    Calls Try.prog 32 #[v] w (MbsPost l w) := by
  obtain ⟨i0, hi0, hz0, hz1, hz2⟩ := info_parts infoM
  rcases hr.at_ with ⟨rfl, h0⟩ | ⟨ad, c, rfl, hc, hcell⟩
  · obtain rfl := List.eq_nil_of_length_eq_zero h0
    have hnil := fun w0 : World => Lib.run_eql_slice_nil (P := Try.prog) w0 43 52 none 0 0 0 0 Try.underlying43
    clear hi0 hz0 hz1 hz2
    go_enter Try.func32, Try.ntmps32
    go_wp2
    go_ret
    exact ⟨_, rfl, World.ownsRow_nil _ _ _ _, Below.refl _ _⟩
  · clear hc hcell
    have hnil := fun w0 : World => Lib.run_eql_slice_nil (P := Try.prog) w0 43 52 (some ad) l.length c 0 0 Try.underlying43
    have HR := Lib.hid (hr.below ((Below.refl _ _).alloc (Nat.le_refl _) (.cells #[] 52)))
    clear hr
    have HI := Lib.hid (And.intro hi0 (And.intro hz0 (And.intro hz1 hz2)))
    clear hi0 hz0 hz1 hz2
    go_enter Try.func32, Try.ntmps32
    go_wp2_with (at_builtin; refine wpList_append_rd rfl _ _ 43 rfl w.heap.size 52 i0 _ 2 16 Try.underlying43 HI.out.1 HI.out.2.1 HI.out.2.2.1 HI.out.2.2.2 rfl (by omega) _ 0 [] rfl (World.ownsRow_made w #[] 0 (Nat.le_refl _) (by unfold maxLen; omega) rfl) _ l.length (mbs l) rfl HR.out (by unfold maxLen; omega) (by omega) (by simp) ?_; intro v' w' hown hgrow hat)
    go_ret
    refine ⟨v', rfl, by simpa using hown, ?_⟩
    exact Below.grown ((Below.refl _ _).alloc (Nat.le_refl _) _) hgrow (by simp) (fun k hk => by cases hk; exact Nat.le_refl _)

set_option maxHeartbeats 3200000 in
theorem clone_any (B g : Nat) (v : Value) (l : List Mb) (e : Int) (w : World) (hs : Reg w B g v l e) :
    Calls Try.prog 22 #[.pointer (some ⟨g, 0, none⟩)] w (NewPost l e w) := by
  obtain ⟨A, c, rfl, _⟩ := own_slice hs.own
  obtain ⟨c0, c1, c2, _⟩ := hs.cells
  have HS := Lib.hid hs
  have hl := hs.len
  have HK : ∀ w' : World, Fr No w w' → w'.cell? ⟨g, 1, none⟩ = some (.int .i64 e) := fun w' hf => hf.cell c1 (fun h => h)
  have HK := Lib.hid HK
  clear hs
  go_enter Try.func22, Try.ntmps22
  go_wp2_with fail
  go_region_with ((go_at_call 32; refine (mclone_any _ l _ (Rd.of_own (HS.out.no (by repeat (first | exact Fr.refl _ _ | apply Fr.drewN | apply Fr.drew | apply Fr.alloc))).own (mbs_one l)) hl).mono ?_; rintro e7 w7 ⟨v7, rfl, hown7, hb7⟩; obtain ⟨A7, c7, rfl, _⟩ := own_slice hown7; have k7 := HK.out w7 ((Fr.drew (Fr.refl No w)).then_below hb7); have O7 := Lib.hid hown7; have F7 := Lib.hid ((Fr.drew (Fr.refl No w)).then_below hb7); clear hown7 hb7))
  all_goals
    go_wp2
    go_ret
    exact ⟨_, _, rfl, ⟨heap_alloc_new _ _, (Fr.alloc (Fr.refl No _) _).own O7.out (fun _ _ h => h), F7.out.size, hl⟩, (F7.out.alloc _).below (Nat.le_refl _) (fun _ h => h.elim)⟩

/-! ### nobody made it -/
/-- a registry's block, all zero -/
def Odd (w : World) (g : Nat) : Prop := w.heap[g]? = some (.cells #[.bool false, .int .i64 0, .slice none 0 0] 45 (0, 0))
theorem Odd.fr {w w' : World} {g : Nat} (h : Odd w g) (hf : Fr No w w') : Odd w' g := hf.blk h (fun h => h)

theorem live_nil (t : Int) (w : World) : Calls Try.prog 24 #[.pointer none, .int .i64 t] w (Quiet w (.bool false)) := by
  go_enter Try.func24, Try.ntmps24
  go_wp2
  go_ret
  exact ⟨rfl, 0, rfl⟩
theorem attach_nil (t : Int) (w : World) : Calls Try.prog 11 #[.pointer none, .int .i64 t] w (Quiet w (.bool false)) := by
  go_enter Try.func11, Try.ntmps11
  go_wp2
  go_ret
  exact ⟨rfl, 0, rfl⟩
theorem detach_nil (t : Int) (w : World) : Calls Try.prog 12 #[.pointer none, .int .i64 t] w (Quiet w (.bool false)) := by
  go_enter Try.func12, Try.ntmps12
  go_wp2_with (go_at_call 24; refine (live_nil t _).mono ?_; rintro e w' ⟨rfl, n, rfl⟩)
  go_ret
  exact ⟨rfl, n, rfl⟩
theorem confirm_nil (t : Int) (w : World) : Calls Try.prog 14 #[.pointer none, .int .i64 t] w (Quiet w (.bool false)) := by
  go_enter Try.func14, Try.ntmps14
  go_wp2
  go_quiet ((go_at_call 24; exact Calls.quiet_of (live_nil t _)))
  go_wp2
  go_ret
  exact ⟨rfl, _, rfl⟩
theorem raise_nil (w : World) : Calls Try.prog 13 #[.pointer none] w (Quiet w (.int .i64 0)) := by
  go_enter Try.func13, Try.ntmps13
  go_wp2
  go_ret
  exact ⟨rfl, 0, rfl⟩
theorem epoch_nil (w : World) : Calls Try.prog 17 #[.pointer none] w (Quiet w (.int .i64 0)) := by
  go_enter Try.func17, Try.ntmps17
  go_wp2
  go_ret
  exact ⟨rfl, 0, rfl⟩
theorem of_nil (t : Int) (w : World) : Calls Try.prog 16 #[.pointer none, .int .i64 t] w (Quiet w (.int .i64 (-1))) := by
  go_enter Try.func16, Try.ntmps16
  go_wp2_with (go_at_call 24; refine (live_nil t _).mono ?_; rintro e w' ⟨rfl, n, rfl⟩)
  go_ret
  exact ⟨rfl, n, rfl⟩
theorem clone_nil (w : World) : Calls Try.prog 22 #[.pointer none] w (Quiet w (.pointer none)) := by
  go_enter Try.func22, Try.ntmps22
  go_wp2
  go_ret
  exact ⟨rfl, 0, rfl⟩
theorem where_nil (v : Value) (w : World) : Calls Try.prog 29 #[.pointer none, v] w (Quiet w (.slice none 0 0)) := by
  go_enter Try.func29, Try.ntmps29
  go_wp2
  go_ret
  exact ⟨rfl, 0, rfl⟩
theorem all_nil (w : World) : Calls Try.prog 15 #[.pointer none] w (Same w (.slice none 0 0)) := by
  go_enter Try.func15, Try.ntmps15
  go_wp2_with (go_at_call 29; refine (where_nil _ _).mono ?_; rintro e w' ⟨rfl, n, rfl⟩)
  go_ret
  exact ⟨rfl, (Fr.drewN (Fr.refl No _) n).below (Nat.le_refl _) (fun _ h => h.elim)⟩
theorem behind_nil (w : World) : Calls Try.prog 21 #[.pointer none] w (Same w (.slice none 0 0)) := by
  go_enter Try.func21, Try.ntmps21
  go_wp2_with (go_at_call 29; refine (where_nil _ _).mono ?_; rintro e w' ⟨rfl, n, rfl⟩)
  go_ret
  exact ⟨rfl, (Fr.drewN ((Fr.refl No _).alloc _) n).below (Nat.le_refl _) (fun _ h => h.elim)⟩
theorem agreed_nil (w : World) : Calls Try.prog 19 #[.pointer none] w (Same w (.bool true)) := by
  go_enter Try.func19, Try.ntmps19
  go_wp2_with (go_at_call 21; refine (behind_nil _).mono ?_; rintro e w' ⟨rfl, hb⟩; have HB := Lib.hid hb; clear hb)
  go_ret
  exact ⟨rfl, HB.out⟩
set_option maxHeartbeats 1600000 in
theorem least_nil (w : World) : Calls Try.prog 18 #[.pointer none] w (Same w (.int .i64 0)) := by
  go_enter Try.func18, Try.ntmps18
  go_wp2_with fail
  refine (epoch_nil _).mono ?_
  rintro e w' ⟨rfl, n, rfl⟩
  go_wp2_with fail
  refine (all_nil _).mono ?_
  rintro e w2 ⟨rfl, hb⟩
  have HB := Lib.hid (((Fr.drewN (Fr.refl No w) n).then_below hb).below (Nat.le_refl _) (fun _ h => h.elim))
  clear hb
  go_wp2
  go_loopw [3, 11] (fun m i wr => i = .int .i64 0 ∧ m = .int .i64 0 ∧ wr = w2) (fun _ _ _ => 0)
  case atStart => exact ⟨rfl, rfl, rfl⟩
  case round =>
    obtain ⟨rfl, rfl, rfl⟩ := hrel
    go_wp2
    go_ret
    exact ⟨rfl, HB.out⟩
/-! ### all zero -/
theorem odd_cells {w : World} {g : Nat} (h : Odd w g) : w.cell? ⟨g, 0, none⟩ = some (.bool false) ∧ w.cell? ⟨g, 1, none⟩ = some (.int .i64 0) ∧ w.cell? ⟨g, 2, none⟩ = some (.slice none 0 0) := ⟨cell_of h 0, cell_of h 1, cell_of h 2⟩
theorem attach_odd (g : Nat) (w : World) (hg : Odd w g) : Calls Try.prog 11 #[.pointer (some ⟨g, 0, none⟩), .int .i64 0] w (Quiet w (.bool false)) := by
  obtain ⟨c0, c1, c2⟩ := odd_cells hg
  clear hg
  go_enter Try.func11, Try.ntmps11
  go_wp2
  go_ret
  exact ⟨rfl, 0, rfl⟩
theorem raise_odd (g : Nat) (w : World) (hg : Odd w g) : Calls Try.prog 13 #[.pointer (some ⟨g, 0, none⟩)] w (Quiet w (.int .i64 0)) := by
  obtain ⟨c0, c1, c2⟩ := odd_cells hg
  clear hg
  go_enter Try.func13, Try.ntmps13
  go_wp2
  go_ret
  exact ⟨rfl, 0, rfl⟩
theorem epoch_odd (g : Nat) (w : World) (hg : Odd w g) : Calls Try.prog 17 #[.pointer (some ⟨g, 0, none⟩)] w (Quiet w (.int .i64 0)) := by
  obtain ⟨c0, c1, c2⟩ := odd_cells hg
  clear hg
  go_enter Try.func17, Try.ntmps17
  go_wp2
  go_ret
  exact ⟨rfl, 0, rfl⟩
theorem clone_odd (g : Nat) (w : World) (hg : Odd w g) : Calls Try.prog 22 #[.pointer (some ⟨g, 0, none⟩)] w (Quiet w (.pointer none)) := by
  obtain ⟨c0, c1, c2⟩ := odd_cells hg
  clear hg
  go_enter Try.func22, Try.ntmps22
  go_wp2
  go_ret
  exact ⟨rfl, 0, rfl⟩
set_option maxHeartbeats 1600000 in
theorem where_odd (g : Nat) (v : Value) (w : World) (hg : Odd w g) : Calls Try.prog 29 #[.pointer (some ⟨g, 0, none⟩), v] w (Quiet w (.slice none 0 0)) := by
  obtain ⟨c0, c1, c2⟩ := odd_cells hg
  clear hg
  go_enter Try.func29, Try.ntmps29
  go_wp2
  go_loopw [5, 15] (fun o i wr => i = .int .i64 0 ∧ o = .slice none 0 0 ∧ wr = w) (fun _ _ _ => 0)
  case atStart => exact ⟨rfl, rfl, rfl⟩
  case round =>
    obtain ⟨rfl, rfl, rfl⟩ := hrel
    go_wp2
    go_ret
    exact ⟨rfl, 0, rfl⟩
theorem behind_odd (g : Nat) (w : World) (hg : Odd w g) : Calls Try.prog 21 #[.pointer (some ⟨g, 0, none⟩)] w (Same w (.slice none 0 0)) := by
  have HG := Lib.hid hg
  clear hg
  go_enter Try.func21, Try.ntmps21
  go_wp2_with (go_at_call 29; refine (where_odd g _ _ (HG.out.fr ((Fr.refl No _).alloc _))).mono ?_; rintro e w' ⟨rfl, n, rfl⟩)
  go_ret
  exact ⟨rfl, (Fr.drewN ((Fr.refl No _).alloc _) n).below (Nat.le_refl _) (fun _ h => h.elim)⟩
theorem agreed_odd (g : Nat) (w : World) (hg : Odd w g) : Calls Try.prog 19 #[.pointer (some ⟨g, 0, none⟩)] w (Same w (.bool true)) := by
  have HG := Lib.hid hg
  clear hg
  go_enter Try.func19, Try.ntmps19
  go_wp2_with (go_at_call 21; refine (behind_odd g _ HG.out).mono ?_; rintro e w' ⟨rfl, hb⟩; have HB := Lib.hid hb; clear hb)
  go_ret
  exact ⟨rfl, HB.out⟩

end Go.Proofs.Ytneogdjogdbmcaa.Epoch
