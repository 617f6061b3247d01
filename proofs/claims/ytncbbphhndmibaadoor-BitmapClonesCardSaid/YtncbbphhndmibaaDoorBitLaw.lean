/- Proved: what the helpers of the laws of package scutagelaw05 do and answer, and what a rising list of a set's numbers is. -/
import Derived.Test.YtncbbphhndmibaaDoorBitmap6
import Derived.Test.YtncbbphhndmibaaDoorRising
namespace Go.Proofs.YtncbbphhndmibaaDoor.BitLaw
open Go.RowKit Go.Proofs.YtncbbphhndmibaaDoor.H Go.Proofs.YtncbbphhndmibaaDoor.Nums Go.Proofs.YtncbbphhndmibaaDoor.BitPure Go.Proofs.YtncbbphhndmibaaDoor.Bitmap Go.Proofs.YtncbbphhndmibaaDoor.Rising
set_option linter.unusedVariables false

/-! ### plain laws -/
theorem ins_sorted (out : List Int) (x : Int) (h : out.Pairwise (· < ·)) (hx : x ∉ out) : (out.take (cut out x) ++ [x] ++ out.drop (cut out x)).Pairwise (· < ·) := by
  induction out with
  | nil => simp [cut]
  | cons y r ih =>
    rw [List.pairwise_cons] at h
    rw [List.mem_cons] at hx
    have hx2 : x ∉ r := fun hh => hx (.inr hh)
    by_cases hy : y < x
    · have e : cut (y :: r) x = cut r x + 1 := by unfold cut; rw [List.takeWhile_cons, if_pos (by simpa using hy)]; rfl
      rw [e, List.take_succ_cons, List.drop_succ_cons, List.cons_append, List.cons_append, List.pairwise_cons]
      refine ⟨fun z hz => ?_, ih h.2 hx2⟩
      simp only [List.mem_append, List.mem_singleton] at hz
      rcases hz with (hz | hz) | hz
      · exact h.1 z (List.mem_of_mem_take hz)
      · omega
      · exact h.1 z (List.mem_of_mem_drop hz)
    · have e : cut (y :: r) x = 0 := by unfold cut; rw [List.takeWhile_cons, if_neg (by simpa using hy)]; rfl
      rw [e, List.take_zero, List.drop_zero, List.nil_append, List.singleton_append, List.pairwise_cons]
      have hlt : x < y := by have : x ≠ y := fun hh => hx (.inl hh); omega
      refine ⟨fun z hz => ?_, List.pairwise_cons.2 h⟩
      rw [List.mem_cons] at hz
      rcases hz with rfl | hz
      · exact hlt
      · have := h.1 z hz; omega
theorem rising_sorted (l : List Int) : (risingL l).Pairwise (· < ·) := by
  have key : ∀ (l out : List Int), out.Pairwise (· < ·) → (l.foldl ins out).Pairwise (· < ·) := by
    intro l
    induction l with
    | nil => intro out h; exact h
    | cons x r ih =>
      intro out h
      rw [List.foldl_cons]
      refine ih _ ?_
      unfold ins
      split
      · exact h
      · rename_i hx; exact ins_sorted out x h hx
  exact key l [] List.Pairwise.nil
def nextL (l : List Int) (i : Int) : Int := match l.find? (fun x => decide (i ≤ x)) with | some x => x | none => -1
def withoutL (l : List Int) (i : Int) : List Int := l.filter fun x => decide (x ≠ i)
theorem has_lt {w : World} {B g n : Nat} {ws : List Nat} (hs : S w B g n ws) (x : Int) (hx : x ∈ elems ws) : 0 ≤ x ∧ x < (n : Int) ∧ has ws x.toNat = true := by
  obtain ⟨h1, h2, h3⟩ := (mem_elems ws x).1 hx
  have := hs.low _ h3
  exact ⟨h1, by omega, h3⟩
theorem in_eq {w : World} {B g n : Nat} {ws : List Nat} (hs : S w B g n ws) (i : Int) : decide (i ∈ elems ws) = hasI n ws i := by
  unfold hasI
  by_cases h : i ∈ elems ws
  · obtain ⟨h1, h2, h3⟩ := has_lt hs i h
    rw [decide_eq_true h, decide_eq_true h1, decide_eq_true h2, h3]; rfl
  · rw [decide_eq_false h]
    cases h3 : has ws i.toNat with
    | false => simp
    | true =>
      by_cases h1 : 0 ≤ i
      · have := hs.low _ h3
        have ht := hs.top
        exact absurd ((mem_elems ws i).2 ⟨h1, by omega, h3⟩) h
      · rw [decide_eq_false h1]; rfl
theorem next_law {w : World} {B g n : Nat} {ws : List Nat} (hs : S w B g n ws) (i : Int) : nextL (elems ws) i = nextI n ws i := by
  have hnone : (∀ x ∈ elems ws, ¬ i ≤ x) → nextL (elems ws) i = -1 := fun h => by
    unfold nextL
    rw [List.find?_eq_none.2 (fun x hx => by simpa using h x hx)]
  by_cases hn : (n : Int) ≤ i
  · unfold nextI
    rw [if_pos hn]
    exact hnone (fun x hx => by have := has_lt hs x hx; omega)
  · unfold nextI
    rw [if_neg hn]
    rcases nxt_cases ws i.toNat with ⟨e, hl⟩ | ⟨j, e, h1, h2, h3, h4⟩
    · rw [e]
      exact hnone (fun x hx hle => by
        obtain ⟨a1, a2, a3⟩ := (mem_elems ws x).1 hx
        have := hl x.toNat (by omega) (by omega)
        rw [a3] at this
        exact Bool.noConfusion this)
    · rw [e]
      have hm : (j : Int) ∈ elems ws := (mem_elems ws j).2 ⟨by omega, by omega, h3⟩
      obtain ⟨pre, post, hab⟩ := List.append_of_mem hm
      have hso := elems_sorted ws
      rw [hab, List.pairwise_append] at hso
      have hf : (elems ws).find? (fun x => decide (i ≤ x)) = some (j : Int) := by
        rw [hab, List.find?_append, List.find?_eq_none.2 (fun x hx => by
          have hlt := hso.2.2 x hx j (by simp)
          obtain ⟨a1, a2, a3⟩ := (mem_elems ws x).1 (by rw [hab]; simp [hx])
          simp
          have hk : x.toNat < i.toNat := Nat.lt_of_not_le (fun hc => by
            have := h4 x.toNat hc (by omega)
            rw [a3] at this
            exact Bool.noConfusion this)
          omega), Option.none_or, List.find?_cons_of_pos (by simp; omega)]
      unfold nextL
      rw [hf]
theorem without_law {w : World} {B g n : Nat} {ws : List Nat} (hs : S w B g n ws) (i : Int) : withoutL (elems ws) i = elems (remW n ws i) := by
  refine sorted_ext _ _ ((elems_sorted ws).filter _) (elems_sorted _) (fun x => ?_)
  unfold withoutL
  rw [List.mem_filter, mem_elems, mem_elems]
  unfold remW
  by_cases h : hasI n ws i = true
  · rw [if_pos h]
    unfold hasI at h
    simp at h
    have ht := hs.top
    rw [has_rem ws i.toNat x.toNat (by rw [hs.ok.len]; omega)]
    simp
    constructor
    · rintro ⟨⟨a, b, c⟩, d⟩
      exact ⟨a, b, c, by omega⟩
    · rintro ⟨a, b, c, d⟩
      exact ⟨⟨a, b, c⟩, by intro hh; rw [hh] at d; exact d rfl⟩
  · rw [if_neg h]
    constructor
    · exact fun hh => hh.1
    · intro hh
      refine ⟨hh, ?_⟩
      simp
      intro e
      subst e
      have := in_eq hs x
      rw [decide_eq_true ((mem_elems ws x).2 hh)] at this
      exact h this.symm
theorem with_law {w : World} {B g n : Nat} {ws : List Nat} (hs : S w B g n ws) (i : Int) (h : addOk n ws i = true) : risingL (elems ws ++ [i]) = elems (addW n ws i) := by
  refine sorted_ext _ _ (rising_sorted _) (elems_sorted _) (fun x => ?_)
  rw [mem_rising, mem_elems]
  unfold addW
  rw [if_pos h]
  unfold addOk at h
  simp at h
  have ht := hs.top
  rw [has_add ws i.toNat x.toNat (by rw [hs.ok.len]; omega), List.mem_append, mem_elems, List.mem_singleton]
  simp
  constructor
  · rintro (⟨a, b, c⟩ | rfl)
    · exact ⟨a, b, .inl c⟩
    · exact ⟨h.1.1, by omega, .inr rfl⟩
  · rintro ⟨a, b, c | c⟩
    · exact .inl ⟨a, b, c⟩
    · exact .inr (by omega)
theorem add_none {n : Nat} {ws : List Nat} {i : Int} (h : addOk n ws i = false) : addW n ws i = ws := by unfold addW; rw [h]; rfl

/-! ### the helpers -/
/-- a call: its kind, a number -/
def calls (l : List (Int × Int)) : List Value := l.flatMap fun p => [.int .i64 p.1, .int .i64 p.2]
theorem calls_length (l : List (Int × Int)) : (calls l).length = l.length * 2 := by
  induction l with
  | nil => rfl
  | cons p l ih => simp [calls] at ih ⊢; omega
theorem calls_at (l : List (Int × Int)) (k : Nat) (h : k < l.length) : (calls l)[k * 2]? = some (.int .i64 (l[k]).1) ∧ (calls l)[k * 2 + 1]? = some (.int .i64 (l[k]).2) := by
  induction l generalizing k with
  | nil => simp at h
  | cons p l ih =>
    cases k with
    | zero => simp [calls]
    | succ k =>
      have := ih k (by simpa using h)
      rw [show (k + 1) * 2 = k * 2 + 2 by omega, show k * 2 + 2 + 1 = (k * 2 + 1) + 2 by omega]
      simpa [calls] using this
theorem calls_take (l : List (Int × Int)) (m : Nat) : (calls l).take (m * 2) = calls (l.take m) := by
  induction l generalizing m with
  | nil => simp [calls]
  | cons p l ih =>
    cases m with
    | zero => simp [calls]
    | succ m =>
      have := ih m
      rw [show (m + 1) * 2 = m * 2 + 2 by omega]
      simp [calls] at this ⊢
      exact this
theorem calls_cut {w : World} {A : Option Addr} {c m : Nat} {l : List (Int × Int)} (h : Rd w (.slice A l.length c) l.length 2 (calls l)) : Rd w (.slice A (min m l.length) c) (min m l.length) 2 (calls (l.take m)) := by
  have h2 := h.take (m := min m l.length) (Nat.min_le_right _ _)
  rw [calls_take] at h2
  have e : l.take (min m l.length) = l.take m := by rw [← List.take_eq_take_min]
  rw [e] at h2
  exact h2
theorem call_at {w : World} {A : Option Addr} {n c : Nat} {l : List (Int × Int)} (h : Rd w (.slice A n c) n 2 (calls l)) (k : Nat) (hk : k < l.length) :
    ∃ ad, A = some ad ∧ w.cell? (ad.add (k * 2)) = some (.int .i64 (l[k]).1) ∧ w.cell? ⟨(ad.add (k * 2)).block, (ad.add (k * 2)).off + 1, none⟩ = some (.int .i64 (l[k]).2) := by
  have hl := h.len
  rw [calls_length] at hl
  rcases h.at_ with ⟨_, h0⟩ | ⟨ad, c', he, _, hc⟩
  · omega
  · injection he with he _ _
    obtain ⟨a1, a2⟩ := calls_at l k hk
    exact ⟨ad, he, hc _ _ a1, by rw [← add_field ad _ 1 (by omega)]; exact hc _ _ a2⟩
def CutPost (A : Option Addr) (m n c : Nat) (w : World) (e : Ending) (w' : World) : Prop := e = .returned (.slice A (min m n) c) ∧ w' = w
set_option maxHeartbeats 1600000 in
theorem few_any (A : Option Addr) (n c : Nat) (w : World) (hc : n ≤ c) :
    Calls Tryd.prog 14 #[.slice A n c] w (CutPost A 60 n c w) := by
  by_cases h : 60 < n
  · have e : min 60 n = 60 := by omega
    go_enter Tryd.func14, Tryd.ntmps14
    go_wp2
    go_ret
    exact ⟨by rw [e]; rfl, rfl⟩
  · have e : min 60 n = n := by omega
    go_enter Tryd.func14, Tryd.ntmps14
    go_wp2
    go_ret
    exact ⟨by rw [e]; rfl, rfl⟩
set_option maxHeartbeats 1600000 in
theorem near_any (n lo hi r : Int) (hr : max lo (min n hi) = r) (hh : lo ≤ hi) (w : World) :
    Calls Tryd.prog 13 #[.int .i64 n, .int .i64 lo, .int .i64 hi] w (Quiet w (.int .i64 r)) := by
  subst hr
  by_cases h1 : n < lo
  · have e : max lo (min n hi) = lo := by omega
    rw [e]
    go_enter Tryd.func13, Tryd.ntmps13
    go_wp2
    go_ret
    exact ⟨rfl, 0, rfl⟩
  by_cases h2 : hi < n
  · have e : max lo (min n hi) = hi := by omega
    rw [e]
    go_enter Tryd.func13, Tryd.ntmps13
    go_wp2
    go_ret
    exact ⟨rfl, 0, rfl⟩
  · have e : max lo (min n hi) = n := by omega
    rw [e]
    go_enter Tryd.func13, Tryd.ntmps13
    go_wp2
    go_ret
    exact ⟨rfl, 0, rfl⟩

set_option maxHeartbeats 3200000 in
theorem nextL_any (A : Option Addr) (n c : Nat) (l : List Int) (hn : n = l.length) (i : Int) (w : World) (hr : Rd w (.slice A n c) n 1 (ints l)) (hl : l.length ≤ 100000) :
    Calls Tryd.prog 28 #[.slice A n c, .int .i64 i] w (Quiet w (.int .i64 (nextL l i))) := by
  subst hn
  have HR := Lib.hid hr
  clear hr
  go_enter Tryd.func28, Tryd.ntmps28
  go_wp2
  go_loopw [5] (fun v wr => ∃ k : Nat, k ≤ l.length ∧ v = .int .i64 k ∧ wr = w ∧ Hid (nextL (l.drop k) i = nextL l i)) (fun v _ => l.length - (intOf v).toNat)
  case atStart => exact ⟨0, Nat.zero_le _, rfl, rfl, Lib.hid rfl⟩
  case round =>
    obtain ⟨k, hk, rfl, rfl, HQ⟩ := hrel
    have i1 : (0 : Int) ≤ (k : Int) := Int.natCast_nonneg _
    by_cases hlt : k < l.length
    · obtain ⟨ad, rfl, x0a⟩ := rd_at HR.out k hlt
      have hd : l.drop k = l[k] :: l.drop (k + 1) := List.drop_eq_getElem_cons hlt
      obtain ⟨y, hy, x0⟩ : ∃ y, l[k] = y ∧ wr.cell? (ad.add k) = some (.int .i64 y) := ⟨_, rfl, x0a⟩
      rw [hy] at hd
      have HLT := Lib.hid hlt
      have i2 : (k : Int) < (l.length : Int) := by omega
      clear x0a
      by_cases hle : i ≤ y
      · have HM : Hid (nextL l i = y) := Lib.hid (by rw [← HQ.out, hd]; unfold nextL; rw [List.find?_cons_of_pos (by simpa using hle)])
        clear hd hy hlt
        go_wp2
        go_ret
        exact ⟨by rw [HM.out]; rfl, 0, rfl⟩
      · have HM : Hid (nextL (l.drop (k + 1)) i = nextL l i) := Lib.hid (by rw [← HQ.out, hd]; unfold nextL; rw [List.find?_cons_of_neg (by simpa using hle)])
        have i3 : y < i := by omega
        clear hd hy hlt hle
        go_wp2
        go_roundw
        case rel => exact ⟨k + 1, HLT.out, by go_num, trivial, HM⟩
        case measure => have := HLT.out; simp [intOf]; omega
    · have HM : Hid (nextL l i = -1) := Lib.hid (by rw [← HQ.out, List.drop_eq_nil_of_le (by omega)]; rfl)
      have i2 : (l.length : Int) ≤ (k : Int) := by omega
      clear hlt
      go_wp2
      go_ret
      exact ⟨by rw [HM.out]; rfl, 0, rfl⟩
set_option maxHeartbeats 6400000 in
theorem without_any (A : Option Addr) (n c : Nat) (l : List Int) (hn : n = l.length) (i : Int) (w : World) (hr : Rd w (.slice A n c) n 1 (ints l)) (hl : l.length ≤ 100000) :
    Calls Tryd.prog 27 #[.slice A n c, .int .i64 i] w (ListPost (withoutL l i) w) := by
  subst hn
  have HR := Lib.hid hr
  clear hr
  go_enter Tryd.func27, Tryd.ntmps27
  go_wp2
  go_loopw [5, 6] (fun o v wr => ∃ k : Nat, k ≤ l.length ∧ v = .int .i64 k ∧ Hid (Own wr w.heap.size o (withoutL (l.take k) i) ∧ Below w.heap.size w wr)) (fun _ v _ => l.length - (intOf v).toNat)
  case atStart => exact ⟨0, Nat.zero_le _, rfl, Lib.hid ⟨Own.nil _ _, Below.refl _ _⟩⟩
  case round =>
    obtain ⟨k, hk, rfl, HQ⟩ := hrel
    rename_i o
    have i1 : (0 : Int) ≤ (k : Int) := Int.natCast_nonneg _
    by_cases hlt : k < l.length
    · obtain ⟨ad, rfl, x0a⟩ := rd_at (HR.out.below HQ.out.2) k hlt
      have ht : l.take (k + 1) = l.take k ++ [l[k]] := by rw [List.take_add_one, List.getElem?_eq_getElem hlt]; rfl
      obtain ⟨y, hy, x0⟩ : ∃ y, l[k] = y ∧ wr.cell? (ad.add k) = some (.int .i64 y) := ⟨_, rfl, x0a⟩
      rw [hy] at ht
      have HLT := Lib.hid hlt
      have i2 : (k : Int) < (l.length : Int) := by omega
      have HTL : Hid ((withoutL (l.take k) i).length ≤ 100000) := Lib.hid (by
        have h1 := List.length_filter_le (fun x => decide (x ≠ i)) (l.take k)
        have h2 : (l.take k).length ≤ l.length := by rw [List.length_take]; omega
        unfold withoutL; omega)
      clear x0a
      by_cases he : y = i
      · have HM : Hid (withoutL (l.take (k + 1)) i = withoutL (l.take k) i) := Lib.hid (by rw [ht]; unfold withoutL; rw [List.filter_append]; simp [he])
        have g1 : (y == i) = true := by simpa using he
        have g2 : (y != i) = false := by simpa using he
        clear ht hy hlt
        subst he
        go_wp2_with fail
        go_roundw
        case rel => exact ⟨k + 1, HLT.out, by go_num, Lib.hid ⟨by rw [HM.out]; exact HQ.out.1, HQ.out.2⟩⟩
        case measure => have := HLT.out; simp [intOf]; omega
      · have HM : Hid (withoutL (l.take (k + 1)) i = withoutL (l.take k) i ++ [y]) := Lib.hid (by rw [ht]; unfold withoutL; rw [List.filter_append]; simp [he])
        have g1 : (y == i) = false := by simpa using he
        clear ht hy hlt he
        obtain ⟨A5, c5, rfl, hA5⟩ := HQ.out.1.slice
        obtain ⟨t, ht⟩ : ∃ t, t = withoutL (l.take k) i := ⟨_, rfl⟩
        rw [← ht] at HQ HM HTL hA5 ⊢
        clear ht
        obtain ⟨m5, hm5⟩ : ∃ m5, m5 = t.length := ⟨_, rfl⟩
        rw [← hm5] at HQ hA5 HTL ⊢
        have HM5 := Lib.hid hm5
        clear hm5
        go_wp2_with (at_builtin; refine app_one (l := t) (y := y) rfl _ _ rfl rfl (HQ.out.1.fr (Fr.alloc (Fr.refl No _) _) (fun _ _ h => h)) rfl rfl (heap_alloc_new _ _) (by decide) (by have := HTL.out; have := HM5.out; omega) (by have := HQ.out.2.size; simp; omega) ?_; intro v6 w6 h1 h2 h3; have O6 := Lib.hid h1; have G6 := Lib.hid h2; clear h1 h2 h3)
        go_roundw
        case rel => exact ⟨k + 1, HLT.out, by go_num, Lib.hid ⟨by rw [HM.out]; exact O6.out, (Fr.grown (Fr.alloc (Fr.of_below HQ.out.2 No) _) G6.out (fun j hj => .inr (HQ.out.1.lt j hj).1)).below (Nat.le_refl _) (fun _ h => h.elim)⟩⟩
        case measure => have := HLT.out; simp [intOf]; omega
    · obtain rfl : k = l.length := by omega
      have HE : Hid (withoutL (l.take l.length) i = withoutL l i) := Lib.hid (by rw [List.take_length])
      have i2 : ¬ (l.length : Int) < (l.length : Int) := by omega
      clear hlt
      go_wp2_with fail
      go_ret
      exact ⟨_, rfl, by rw [← HE.out]; exact HQ.out.1, HQ.out.2⟩

end Go.Proofs.YtncbbphhndmibaaDoor.BitLaw
