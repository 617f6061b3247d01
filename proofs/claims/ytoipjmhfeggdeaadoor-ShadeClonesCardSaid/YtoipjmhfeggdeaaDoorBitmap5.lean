/- Proved: what New, Clone, All of package bitmap do and answer. -/
import Derived.Test.YtoipjmhfeggdeaaDoorBitmap4
namespace Go.Proofs.YtoipjmhfeggdeaaDoor.Bitmap
open Go.RowKit Go.Proofs.YtoipjmhfeggdeaaDoor.H Go.Proofs.YtoipjmhfeggdeaaDoor.Nums Go.Proofs.YtoipjmhfeggdeaaDoor.BitPure
set_option linter.unusedVariables false

set_option maxHeartbeats 400000 in
theorem clamp_any (n hi r : Int) (hr : max 0 (min n hi) = r) (hh : 0 ≤ hi) (w : World) :
    Calls Tryd.prog 45 #[.int .i64 n, .int .i64 0, .int .i64 hi] w (Quiet w (.int .i64 r)) := by
  have HR := Lib.hid hr
  clear hr
  by_cases h1 : n < 0
  · have e : r = 0 := by have := HR.out; omega
    subst e
    go_enter Tryd.func45, Tryd.ntmps45
    go_wp2
    go_ret
    exact ⟨rfl, 0, rfl⟩
  by_cases h2 : hi < n
  · have e : r = hi := by have := HR.out; omega
    subst e
    go_enter Tryd.func45, Tryd.ntmps45
    go_wp2
    go_ret
    exact ⟨rfl, 0, rfl⟩
  · have e : r = n := by have := HR.out; omega
    subst e
    go_enter Tryd.func45, Tryd.ntmps45
    go_wp2
    go_ret
    exact ⟨rfl, 0, rfl⟩

/-- a new set -/
def NewPost (n : Nat) (ws : List Nat) (w : World) (e : Ending) (w' : World) : Prop := ∃ g, e = .returned (.pointer (some ⟨g, 0, none⟩)) ∧ S w' w.heap.size g n ws ∧ Below w.heap.size w w'

def topN (n : Int) : Nat := (max 0 (min n 2048)).toNat

set_option maxHeartbeats 3200000 in
theorem new_any (n : Int) (w : World) : Calls Tryd.prog 25 #[.int .i64 n] w (NewPost (topN n) w0 w) := by
  have HT : Hid (max 0 (min n 2048) = (topN n : Int)) := Lib.hid (by unfold topN; omega)
  go_enter Tryd.func25, Tryd.ntmps25
  go_wp2_with (go_at_call 45; refine (clamp_any n 2048 _ HT.out (by omega) _).mono ?_; rintro e w' ⟨rfl, k, rfl⟩)
  go_ret
  refine ⟨w.heap.size, rfl, ⟨heap_alloc_new (w.drewN k) _, Nat.le_refl _, Words.new, by unfold topN; omega, fun i hi => ?_⟩, (Fr.alloc (Fr.drewN (Fr.refl No w) k) _).below (Nat.le_refl _) (fun _ h => h.elim)⟩
  have := none_w0 i
  rw [hi] at this
  exact Bool.noConfusion this

theorem arr_one (n : Int) (ws : List Nat) : (arr true n ws).all (·.oneCell') = true := by
  apply Array.all_eq_true_iff_forall_mem.2
  intro v hv
  unfold arr at hv
  simp at hv
  rcases hv with rfl | rfl | ⟨x, _, rfl⟩ <;> rfl

set_option maxHeartbeats 3200000 in
theorem clone_any (B g n : Nat) (ws : List Nat) (w : World) (hs : S w B g n ws) :
    Calls Tryd.prog 32 #[.pointer (some ⟨g, 0, none⟩)] w (NewPost n ws w) := by
  obtain ⟨c0, c1⟩ := hs.cells
  have hg := hs.blk
  have hsz : (arr true n ws).size = 34 := by unfold arr; simp [hs.ok.len]
  have hst := run_storeCells_new (P := Tryd.prog) w 76 #[Value.bool false, Value.int IntKind.i64 0, Value.int IntKind.u64 0, Value.int IntKind.u64 0, Value.int IntKind.u64 0, Value.int IntKind.u64 0, Value.int IntKind.u64 0, Value.int IntKind.u64 0, Value.int IntKind.u64 0, Value.int IntKind.u64 0, Value.int IntKind.u64 0, Value.int IntKind.u64 0, Value.int IntKind.u64 0, Value.int IntKind.u64 0, Value.int IntKind.u64 0, Value.int IntKind.u64 0, Value.int IntKind.u64 0, Value.int IntKind.u64 0, Value.int IntKind.u64 0, Value.int IntKind.u64 0, Value.int IntKind.u64 0, Value.int IntKind.u64 0, Value.int IntKind.u64 0, Value.int IntKind.u64 0, Value.int IntKind.u64 0, Value.int IntKind.u64 0, Value.int IntKind.u64 0, Value.int IntKind.u64 0, Value.int IntKind.u64 0, Value.int IntKind.u64 0, Value.int IntKind.u64 0, Value.int IntKind.u64 0, Value.int IntKind.u64 0, Value.int IntKind.u64 0] (arr true n ws) (by rw [info_set, hsz]) (by rw [hsz]; rfl) (arr_one n ws)
  obtain ⟨A, hA⟩ : ∃ A, A = arr true n ws := ⟨_, rfl⟩
  rw [← hA] at hg hsz hst
  have HG := Lib.hid hg
  have HS := Lib.hid hs
  have HA := Lib.hid hA
  have HZ := Lib.hid hsz
  clear hs hg hA hsz
  go_enter Tryd.func32, Tryd.ntmps32
  go_wp2_with (refine wpList_load_row rfl 76 _ rfl g rfl 76 A _ _ HG.out Tryd.underlying76 rfl (by rw [info_set, HZ.out]) ?_)
  go_ret
  have hs := HS.out
  exact ⟨w.heap.size, rfl, ⟨by rw [← HA.out]; exact heap_alloc_new w _, Nat.le_refl _, hs.ok, hs.top, hs.low⟩, (Fr.alloc (Fr.refl No w) _).below (Nat.le_refl _) (fun _ h => h.elim)⟩

/-! ### All -/
theorem next_eq {w : World} {B g n : Nat} {ws : List Nat} (hs : S w B g n ws) (k : Nat) : nextI n ws k = nxt ws k := by
  unfold nextI
  split
  · rename_i h
    refine (nxt_none ws k (fun m h1 h2 => ?_)).symm
    cases hh : has ws m with
    | false => rfl
    | true => have := hs.low m hh; omega
  · rw [show ((k : Int)).toNat = k by omega]

/-- what All has, and what stands before it -/
def Now (ws : List Nat) (i : Int) (done : List Int) : Prop := (i = -1 ∧ done = elems ws) ∨ ∃ j : Nat, i = (j : Int) ∧ j < 2048 ∧ done ++ (j : Int) :: from_ ws (j + 1) = elems ws

theorem now_next (ws : List Nat) (k : Nat) (done : List Int) (h : done ++ from_ ws k = elems ws) : Now ws (nxt ws k) done := by
  rcases nxt_cases ws k with ⟨e, hl⟩ | ⟨j, e, h1, h2, h3, h4⟩
  · rw [from_none ws k hl, List.append_nil] at h
    exact .inl ⟨e, h⟩
  · rw [from_next ws k j h1 h2 h3 h4] at h
    exact .inr ⟨j, e, h2, h⟩

theorem now_start (ws : List Nat) : Now ws (nxt ws 0) [] := now_next ws 0 [] (by rw [from_zero, List.nil_append])

theorem now_go {ws : List Nat} {j : Nat} {done : List Int} (h : done ++ (j : Int) :: from_ ws (j + 1) = elems ws) : Now ws (nxt ws (j + 1)) (done ++ [(j : Int)]) := now_next ws (j + 1) _ (by rw [List.append_assoc]; exact h)

def ListPost (l : List Int) (w : World) (e : Ending) (w' : World) : Prop := ∃ v, e = .returned v ∧ Own w' w.heap.size v l ∧ Below w.heap.size w w'

attribute [local irreducible] elems from_ nxt elemsN

theorem Tab.fr {S : Nat → Prop} {w w' : World} (h : Tab w) (hf : Fr S w w') (hn : ¬ S 0) : Tab w' := fun j hj => hf.cell (h j hj) hn

theorem Tab.no {w w' : World} (h : Tab w) (hf : Fr No w w') : Tab w' := h.fr hf (fun h => h)

theorem Tab.low {w w' : World} (h : Tab w) (hb : Below w.heap.size w w') : Tab w' := h.no (Fr.of_below hb No)

def mq (i : Int) : Nat := if i < 0 then 0 else 2049 - i.toNat

theorem mq_lt {y : Int} {j : Nat} (h : y = -1 ∨ (j : Int) < y ∧ y < 2048) (hj : j < 2048) : mq y < mq (j : Int) := by
  unfold mq
  rw [if_neg (show ¬ (j : Int) < 0 by omega)]
  split <;> omega

theorem now_len {ws : List Nat} {i : Int} {done : List Int} (h : Now ws i done) : done.length ≤ 2048 := by
  have hl := elems_len ws
  rcases h with ⟨_, rfl⟩ | ⟨j, _, _, e⟩
  · exact hl
  · rw [← e, List.length_append] at hl; omega

set_option maxHeartbeats 3200000 in
theorem all_any (B g n : Nat) (ws : List Nat) (w : World) (hs : S w B g n ws) (ht : Tab w) :
    Calls Tryd.prog 44 #[.pointer (some ⟨g, 0, none⟩)] w (ListPost (elems ws) w) := by
  have HS := Lib.hid hs
  have HT := Lib.hid ht
  have HN := Lib.hid (fun k : Nat => next_eq hs k)
  clear hs ht
  go_enter Tryd.func44, Tryd.ntmps44
  go_wp2_with fail
  with_reducible refine (next_any B g n ws 0 _ HS.out HT.out).mono ?_
  rintro e w1 ⟨rfl, q, hw1⟩
  have F1 := Lib.hid (drewN_fr (Fr.refl No w) hw1)
  clear hw1
  obtain ⟨x, hx⟩ : ∃ x, x = nextI n ws 0 := ⟨_, rfl⟩
  rw [← hx]
  have HX : Hid (Now ws x []) := Lib.hid (by have h0 := HN.out 0; rw [show ((0 : Nat) : Int) = 0 from rfl] at h0; rw [hx, h0]; exact now_start ws)
  clear hx
  go_wp2_with fail
  go_loopw [3, 4] (fun o v wr => ∃ (i : Int) (done : List Int), v = .int .i64 i ∧ Hid (Now ws i done) ∧ Hid (Own wr w.heap.size o done ∧ Below w.heap.size w wr)) (fun _ v _ => mq (intOf v))
  case atStart => exact ⟨x, [], rfl, HX, Lib.hid ⟨Own.nil _ _, F1.out.below (Nat.le_refl _) (fun _ h => h.elim)⟩⟩
  case round =>
    obtain ⟨i, done, rfl, HN1, HQ⟩ := hrel
    rename_i o
    obtain ⟨A5, c5, rfl, hA5⟩ := HQ.out.1.slice
    rcases HN1.out with ⟨rfl, hd⟩ | ⟨j, rfl, hj, hd⟩
    · have HD := Lib.hid hd
      clear hd
      go_wp2_with fail
      go_ret
      exact ⟨_, rfl, by rw [← HD.out]; exact HQ.out.1, HQ.out.2⟩
    · have i0 : (0 : Int) ≤ (j : Int) := Int.natCast_nonneg _
      have i1 : (j : Int) < 2048 := by omega
      have HG := Lib.hid (now_go hd)
      have HD := Lib.hid hd
      have HL := Lib.hid (now_len HN1.out)
      have HLT := Lib.hid hj
      clear hd hj
      obtain ⟨m5, hm5⟩ : ∃ m5, m5 = done.length := ⟨_, rfl⟩
      rw [← hm5] at hA5 HQ ⊢
      have HM := Lib.hid hm5
      clear hm5
      go_wp2_with (at_builtin; refine app_one (l := done) (y := (j : Int)) rfl _ _ rfl rfl (HQ.out.1.fr (Fr.alloc (Fr.refl No _) _) (fun _ _ h => h)) rfl rfl (heap_alloc_new _ _) (by decide) (by have := HL.out; omega) (by have := HQ.out.2.size; simp; omega) ?_; intro v6 w6 h1 h2 h3; have O6 := Lib.hid h1; have G6 := Lib.hid h2; clear h1 h2 h3; refine Hid.out ?_)
      have F6 := Lib.hid (show Fr No w w6 from Fr.grown (Fr.alloc (Fr.of_below HQ.out.2 No) _) G6.out (fun k hk => .inr (HQ.out.1.lt k hk).1))
      have i5 : (0 : Int) ≤ (j : Int) + 1 := by omega
      refine Lib.hid ?_
      go_wp2_with fail
      with_reducible refine (next_any B g n ws ((j : Int) + 1) _ (HS.out.no F6.out) (HT.out.no F6.out)).mono ?_
      rintro e w7 ⟨rfl, q7, hw7⟩
      have F7 := Lib.hid (drewN_fr F6.out hw7)
      have O7 := Lib.hid (show Own w7 w.heap.size v6 (done ++ [(j : Int)]) by rw [hw7]; exact O6.out.fr (Fr.drewN (Fr.refl No _) _) (fun _ _ h => h))
      clear hw7
      obtain ⟨y, hy⟩ : ∃ y, y = nextI n ws ((j : Int) + 1) := ⟨_, rfl⟩
      rw [← hy]
      have HY : Hid (Now ws y (done ++ [(j : Int)])) := Lib.hid (by have h0 := HN.out (j + 1); rw [show ((j + 1 : Nat) : Int) = (j : Int) + 1 by omega] at h0; rw [hy, h0]; exact HG.out)
      have HI : Hid (y = -1 ∨ (j : Int) < y ∧ y < 2048) := Lib.hid (by
        have h0 := HN.out (j + 1); rw [show ((j + 1 : Nat) : Int) = (j : Int) + 1 by omega] at h0
        rw [hy, h0]
        rcases nxt_cases ws (j + 1) with ⟨e, _⟩ | ⟨m, e, h1, h2, _⟩
        · exact .inl e
        · exact .inr ⟨by rw [e]; omega, by rw [e]; omega⟩)
      clear hy
      go_wp2_with fail
      go_roundw
      case rel => exact ⟨y, done ++ [(j : Int)], rfl, HY, Lib.hid ⟨O7.out, F7.out.below (Nat.le_refl _) (fun _ h => h.elim)⟩⟩
      case measure =>
        exact mq_lt HI.out HLT.out

end Go.Proofs.YtoipjmhfeggdeaaDoor.Bitmap
