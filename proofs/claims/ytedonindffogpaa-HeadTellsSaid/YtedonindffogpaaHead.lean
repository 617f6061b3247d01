/- Proved: what each call of package head does and answers (the calls' contracts); the conditions stand in each theorem. -/
import Derived.Test.YtedonindffogpaaMem2
import Derived.IntWalk
namespace Go.Proofs.Ytedonindffogpaa.Head
open Go.RowKit Go.Proofs.Ytedonindffogpaa.H Go.Proofs.Ytedonindffogpaa.Words Go.Proofs.Ytedonindffogpaa.Mem

def Good (s n : Int) : Prop := 0 ≤ s ∧ s < 1099511627776 ∧ 0 ≤ n ∧ n ≤ 127
def Word (x : Int) : Prop := 0 ≤ x ∧ x < 140737488355328
instance (s n : Int) : Decidable (Good s n) := by unfold Good; infer_instance
instance (x : Int) : Decidable (Word x) := by unfold Word; infer_instance

theorem make_yes (s n : Int) (w : World) (h : Good s n) :
    Calls Try.prog 7 #[.int .i64 s, .int .i64 n] w (Quiet w (.tuple #[.int .i64 (s * 128 + n), .bool true])) := by
  obtain ⟨h1, h2, h3, h4⟩ := h
  go_enter Try.func7, Try.ntmps7
  go_wp2
  go_ret2
  exact ⟨rfl, 0, rfl⟩

theorem make_no (s n : Int) (w : World) (h : ¬ Good s n) :
    Calls Try.prog 7 #[.int .i64 s, .int .i64 n] w (Quiet w (.tuple #[.int .i64 0, .bool false])) := by
  by_cases h1 : s < 0
  · clear h
    go_enter Try.func7, Try.ntmps7
    go_wp2
    go_ret2
    exact ⟨rfl, 0, rfl⟩
  by_cases h2 : 1099511627776 ≤ s
  · clear h
    go_enter Try.func7, Try.ntmps7
    go_wp2
    go_ret2
    exact ⟨rfl, 0, rfl⟩
  by_cases h3 : n < 0
  · clear h
    go_enter Try.func7, Try.ntmps7
    go_wp2
    go_ret2
    exact ⟨rfl, 0, rfl⟩
  · have h4 : 127 < n := by unfold Good at h; omega
    clear h
    go_enter Try.func7, Try.ntmps7
    go_wp2
    go_ret2
    exact ⟨rfl, 0, rfl⟩

theorem split_yes (x : Int) (w : World) (h : Word x) :
    Calls Try.prog 8 #[.int .i64 x] w (Quiet w (.tuple #[.int .i64 (x / 128), .int .i64 (x % 128), .bool true])) := by
  obtain ⟨h1, h2⟩ := h
  have h3 : x / 128 < 1099511627776 := by omega
  go_enter Try.func8, Try.ntmps8
  go_wp2
  go_ret3
  exact ⟨rfl, 0, rfl⟩

theorem split_no (x : Int) (w : World) (hb : x / 128 ≤ 72057594037927936) (h : ¬ Word x) :
    Calls Try.prog 8 #[.int .i64 x] w (Quiet w (.tuple #[.int .i64 0, .int .i64 0, .bool false])) := by
  by_cases h1 : x < 0
  · clear h
    go_enter Try.func8, Try.ntmps8
    go_wp2
    go_ret3
    exact ⟨rfl, 0, rfl⟩
  · have h2 : 0 ≤ x := by omega
    have h3 : 1099511627776 ≤ x / 128 := by unfold Word at h; omega
    have hq : wrap64 (x.tdiv 128) = x / 128 := by rw [Int.tdiv_eq_ediv_of_nonneg h2]; unfold wrap64; omega
    clear h
    go_enter Try.func8, Try.ntmps8
    go_wp2
    go_ret3
    exact ⟨rfl, 0, rfl⟩

def Fits (l : List Int) (a n : Int) : Prop := 0 ≤ a ∧ a < l.length ∧ n < (l.length : Int) - a
instance (l : List Int) (a n : Int) : Decidable (Fits l a n) := by unfold Fits; infer_instance

set_option maxRecDepth 100000 in
set_option maxHeartbeats 1600000 in
theorem fits_yes (B g : Nat) (v : Value) (l : List Int) (a n : Int) (w : World) (hs : M w B g v l) (h : Fits l a n) :
    Calls Try.prog 19 #[.pointer (some ⟨g, 0, none⟩), .int .i64 a, .int .i64 n] w (Quiet w (.bool true)) := by
  obtain ⟨h1, h2, h3⟩ := h
  have hl := hs.len
  have HS := Lib.hid hs
  clear hs
  go_enter Try.func19, Try.ntmps19
  go_wp2_with (go_at_call 22; refine (len_any B g v l _ (HS.out.no (by repeat (first | exact Fr.refl _ _ | apply Fr.drewN | apply Fr.drew | apply Fr.alloc)))).mono ?_; rintro e wl ⟨rfl, nl, rfl⟩)
  go_ret
  exact ⟨rfl, _, rfl⟩

set_option maxRecDepth 100000 in
set_option maxHeartbeats 1600000 in
theorem fits_no (B g : Nat) (v : Value) (l : List Int) (a n : Int) (w : World) (hs : M w B g v l) (h : ¬ Fits l a n) :
    Calls Try.prog 19 #[.pointer (some ⟨g, 0, none⟩), .int .i64 a, .int .i64 n] w (Quiet w (.bool false)) := by
  have hl := hs.len
  have HS := Lib.hid hs
  clear hs
  by_cases h1 : a < 0
  · clear h
    go_enter Try.func19, Try.ntmps19
    go_wp2
    go_ret
    exact ⟨rfl, 0, rfl⟩
  by_cases h2 : (l.length : Int) ≤ a
  · have h1 : 0 ≤ a := by omega
    clear h
    go_enter Try.func19, Try.ntmps19
    go_wp2_with (go_at_call 22; refine (len_any B g v l _ (HS.out.no (by repeat (first | exact Fr.refl _ _ | apply Fr.drewN | apply Fr.drew | apply Fr.alloc)))).mono ?_; rintro e wl ⟨rfl, nl, rfl⟩)
    go_ret
    exact ⟨rfl, _, rfl⟩
  · have h3 : (l.length : Int) - a ≤ n := by unfold Fits at h; omega
    have h1 : 0 ≤ a := by omega
    have h2 : a < (l.length : Int) := by omega
    have h4 : decide (n < (l.length : Int) - a) = false := decide_eq_false (by omega)
    have H4 := Lib.hid h4
    clear h h4
    go_enter Try.func19, Try.ntmps19
    go_wp2_with (go_at_call 22; refine (len_any B g v l _ (HS.out.no (by repeat (first | exact Fr.refl _ _ | apply Fr.drewN | apply Fr.drew | apply Fr.alloc)))).mono ?_; rintro e wl ⟨rfl, nl, rfl⟩)
    go_ret
    exact ⟨congrArg (fun b => Ending.returned (.bool b)) H4.out, _, rfl⟩

set_option maxRecDepth 100000 in
set_option maxHeartbeats 1600000 in
theorem read_yes (B g : Nat) (v : Value) (l : List Int) (a : Nat) (x : Int) (w : World) (hs : M w B g v l) (hx : l[a]? = some x) (hw : Word x) (hf : x % 128 < (l.length : Int) - a) :
    Calls Try.prog 11 #[.pointer (some ⟨g, 0, none⟩), .int .i64 a] w (Quiet w (.tuple #[.int .i64 (x / 128), .int .i64 (x % 128), .bool true])) := by
  have ha : a < l.length := (List.getElem?_eq_some_iff.1 hx).1
  have HS := Lib.hid hs
  have HX := Lib.hid hx
  have HW := Lib.hid hw
  have HF : Hid (Fits l a (x % 128)) := Lib.hid ⟨by omega, by omega, hf⟩
  clear hs hx hw hf ha
  go_enter Try.func11, Try.ntmps11
  go_wp2_with (first
    | (go_at_call 18; refine (load_yes B g v l a x _ (HS.out.no (by repeat (first | exact Fr.refl _ _ | apply Fr.drewN | apply Fr.drew | apply Fr.alloc))) HX.out).mono ?_; rintro e wl ⟨rfl, nl, rfl⟩)
    | (go_at_call 8; refine (split_yes x _ HW.out).mono ?_; rintro e ws ⟨rfl, ns, rfl⟩)
    | (go_at_call 19; refine (fits_yes B g v l a (x % 128) _ (HS.out.no (by repeat (first | exact Fr.refl _ _ | apply Fr.drewN | apply Fr.drew | apply Fr.alloc))) HF.out).mono ?_; rintro e wf ⟨rfl, nf, rfl⟩))
  go_ret3
  exact ⟨rfl, _, rfl⟩

/-- nothing can be read there -/
def Bare (l : List Int) (a : Int) : Prop := (∀ x ∈ l, x / 128 ≤ 72057594037927936) ∧ ∀ k : Nat, ∀ x, a = k → l[k]? = some x → Word x → ¬ x % 128 < (l.length : Int) - a

set_option maxHeartbeats 3200000 in
theorem read_no (B g : Nat) (v : Value) (l : List Int) (a : Int) (w : World) (hs : M w B g v l) (h : Bare l a) :
    Calls Try.prog 11 #[.pointer (some ⟨g, 0, none⟩), .int .i64 a] w (Quiet w (.tuple #[.int .i64 0, .int .i64 0, .bool false])) := by
  have HS := Lib.hid hs
  clear hs
  by_cases ht : There l a 1
  · obtain ⟨a, rfl⟩ := Int.eq_ofNat_of_zero_le ht.1
    have ha : a < l.length := by unfold There at ht; omega
    obtain ⟨x, hx⟩ : ∃ x, l[a]? = some x := ⟨l[a], List.getElem?_eq_getElem ha⟩
    have HX := Lib.hid hx
    by_cases hw : Word x
    · have HW := Lib.hid hw
      have HF : Hid (¬ Fits l a (x % 128)) := Lib.hid (fun hf => h.2 a x rfl hx hw hf.2.2)
      clear h hx hw ht ha
      go_enter Try.func11, Try.ntmps11
      go_wp2_with (first
        | (go_at_call 18; refine (load_yes B g v l a x _ (HS.out.no (by repeat (first | exact Fr.refl _ _ | apply Fr.drewN | apply Fr.drew | apply Fr.alloc))) HX.out).mono ?_; rintro e wl ⟨rfl, nl, rfl⟩)
        | (go_at_call 8; refine (split_yes x _ HW.out).mono ?_; rintro e ws ⟨rfl, ns, rfl⟩)
        | (go_at_call 19; refine (fits_no B g v l a (x % 128) _ (HS.out.no (by repeat (first | exact Fr.refl _ _ | apply Fr.drewN | apply Fr.drew | apply Fr.alloc))) HF.out).mono ?_; rintro e wf ⟨rfl, nf, rfl⟩))
      go_ret3
      exact ⟨rfl, _, rfl⟩
    · have HW := Lib.hid hw
      have HBD := Lib.hid (h.1 x (List.mem_of_getElem? hx))
      clear h hx hw ht ha
      go_enter Try.func11, Try.ntmps11
      go_wp2_with (first
        | (go_at_call 18; refine (load_yes B g v l a x _ (HS.out.no (by repeat (first | exact Fr.refl _ _ | apply Fr.drewN | apply Fr.drew | apply Fr.alloc))) HX.out).mono ?_; rintro e wl ⟨rfl, nl, rfl⟩)
        | (go_at_call 8; refine (split_no x _ HBD.out HW.out).mono ?_; rintro e ws ⟨rfl, ns, rfl⟩))
      go_ret3
      exact ⟨rfl, _, rfl⟩
  · have HT := Lib.hid ht
    have HF : Hid (¬ Fits l a 0) := Lib.hid (fun hf => ht (by unfold Fits at hf; unfold There; omega))
    have HW : Hid (Word 0) := Lib.hid (by decide)
    clear h ht
    go_enter Try.func11, Try.ntmps11
    go_wp2_with (first
      | (go_at_call 18; refine (load_no B g v l a _ (HS.out.no (by repeat (first | exact Fr.refl _ _ | apply Fr.drewN | apply Fr.drew | apply Fr.alloc))) HT.out).mono ?_; rintro e wl ⟨rfl, nl, rfl⟩)
      | (go_at_call 8; refine (split_yes 0 _ HW.out).mono ?_; rintro e ws ⟨rfl, ns, rfl⟩)
      | (go_at_call 19; refine (fits_no B g v l a 0 _ (HS.out.no (by repeat (first | exact Fr.refl _ _ | apply Fr.drewN | apply Fr.drew | apply Fr.alloc))) HF.out).mono ?_; rintro e wf ⟨rfl, nf, rfl⟩))
    go_ret3
    exact ⟨rfl, _, rfl⟩

set_option maxRecDepth 100000 in
set_option maxHeartbeats 1600000 in
theorem field_yes (B g : Nat) (v : Value) (l : List Int) (a : Nat) (x i : Int) (w : World) (hs : M w B g v l) (hx : l[a]? = some x) (hw : Word x) (hf : x % 128 < (l.length : Int) - a) (h0 : 0 ≤ i) (h1 : i < x % 128) :
    Calls Try.prog 12 #[.pointer (some ⟨g, 0, none⟩), .int .i64 a, .int .i64 i] w (Quiet w (.tuple #[.int .i64 (a + 1 + i), .bool true])) := by
  have ha : a < l.length := (List.getElem?_eq_some_iff.1 hx).1
  have hl := hs.len
  have HS := Lib.hid hs
  have HX := Lib.hid hx
  have HW := Lib.hid hw
  have HF := Lib.hid hf
  have a0 : (0 : Int) ≤ (a : Int) := Int.natCast_nonneg _
  have a1 : (a : Int) < 2048 := by omega
  have a2 : i < 128 := by omega
  clear hs hx hw hf
  go_enter Try.func12, Try.ntmps12
  go_wp2_with (go_at_call 11; refine (read_yes B g v l a x _ (HS.out.no (by repeat (first | exact Fr.refl _ _ | apply Fr.drewN | apply Fr.drew | apply Fr.alloc))) HX.out HW.out HF.out).mono ?_; rintro e wl ⟨rfl, nl, rfl⟩)
  go_ret2
  exact ⟨rfl, _, rfl⟩

set_option maxRecDepth 100000 in
set_option maxHeartbeats 1600000 in
theorem field_out (B g : Nat) (v : Value) (l : List Int) (a : Nat) (x i : Int) (w : World) (hs : M w B g v l) (hx : l[a]? = some x) (hw : Word x) (hf : x % 128 < (l.length : Int) - a) (h1 : i < 0 ∨ x % 128 ≤ i) :
    Calls Try.prog 12 #[.pointer (some ⟨g, 0, none⟩), .int .i64 a, .int .i64 i] w (Quiet w (.tuple #[.int .i64 0, .bool false])) := by
  have HS := Lib.hid hs
  have HX := Lib.hid hx
  have HW := Lib.hid hw
  have HF := Lib.hid hf
  clear hs hx hw hf
  by_cases h2 : i < 0
  · clear h1
    go_enter Try.func12, Try.ntmps12
    go_wp2_with (go_at_call 11; refine (read_yes B g v l a x _ (HS.out.no (by repeat (first | exact Fr.refl _ _ | apply Fr.drewN | apply Fr.drew | apply Fr.alloc))) HX.out HW.out HF.out).mono ?_; rintro e wl ⟨rfl, nl, rfl⟩)
    go_ret2
    exact ⟨rfl, _, rfl⟩
  · have h3 : x % 128 ≤ i := by omega
    have h2 : 0 ≤ i := by omega
    clear h1
    go_enter Try.func12, Try.ntmps12
    go_wp2_with (go_at_call 11; refine (read_yes B g v l a x _ (HS.out.no (by repeat (first | exact Fr.refl _ _ | apply Fr.drewN | apply Fr.drew | apply Fr.alloc))) HX.out HW.out HF.out).mono ?_; rintro e wl ⟨rfl, nl, rfl⟩)
    go_ret2
    exact ⟨rfl, _, rfl⟩

set_option maxRecDepth 100000 in
set_option maxHeartbeats 1600000 in
theorem field_no (B g : Nat) (v : Value) (l : List Int) (a i : Int) (w : World) (hs : M w B g v l) (h : Bare l a) :
    Calls Try.prog 12 #[.pointer (some ⟨g, 0, none⟩), .int .i64 a, .int .i64 i] w (Quiet w (.tuple #[.int .i64 0, .bool false])) := by
  have HS := Lib.hid hs
  have HB := Lib.hid h
  clear hs h
  go_enter Try.func12, Try.ntmps12
  go_wp2_with (go_at_call 11; refine (read_no B g v l a _ (HS.out.no (by repeat (first | exact Fr.refl _ _ | apply Fr.drewN | apply Fr.drew | apply Fr.alloc))) HB.out).mono ?_; rintro e wl ⟨rfl, nl, rfl⟩)
  go_ret2
  exact ⟨rfl, _, rfl⟩

set_option maxRecDepth 100000 in
set_option maxHeartbeats 1600000 in
theorem put_yes (B g : Nat) (v : Value) (l : List Int) (a : Nat) (s n : Int) (w : World) (hs : M w B g v l) (hg : Good s n) (hf : Fits l a n) :
    Calls Try.prog 15 #[.pointer (some ⟨g, 0, none⟩), .int .i64 a, .int .i64 s, .int .i64 n] w (FillPost B g v (l.set a (s * 128 + n)) true w) := by
  have ha : a < l.length := by unfold Fits at hf; omega
  have HS := Lib.hid hs
  have HG := Lib.hid hg
  have HF := Lib.hid hf
  clear hs hg hf
  go_enter Try.func15, Try.ntmps15
  go_wp2_with (first
    | (go_at_call 7; refine (make_yes s n _ HG.out).mono ?_; rintro e wl ⟨rfl, nl, rfl⟩)
    | (go_at_call 19; refine (fits_yes B g v l a n _ (HS.out.no (by repeat (first | exact Fr.refl _ _ | apply Fr.drewN | apply Fr.drew | apply Fr.alloc))) HF.out).mono ?_; rintro e wf ⟨rfl, nf, rfl⟩)
    | (go_at_call 10; refine (store_yes B g v l a (s * 128 + n) _ (HS.out.no (by repeat (first | exact Fr.refl _ _ | apply Fr.drewN | apply Fr.drew | apply Fr.alloc))) ha).mono ?_; rintro e w7 ⟨rfl, hm7, hf7⟩))
  go_ret
  exact ⟨rfl, hm7, Fr.trans (by repeat (first | exact Fr.refl _ _ | apply Fr.drewN | apply Fr.drew | apply Fr.alloc)) hf7 (fun i hi => .inl hi)⟩

set_option maxRecDepth 100000 in
set_option maxHeartbeats 1600000 in
theorem put_no (B g : Nat) (v : Value) (l : List Int) (a s n : Int) (w : World) (hs : M w B g v l) (h : ¬ (Good s n ∧ Fits l a n)) :
    Calls Try.prog 15 #[.pointer (some ⟨g, 0, none⟩), .int .i64 a, .int .i64 s, .int .i64 n] w (Quiet w (.bool false)) := by
  have HS := Lib.hid hs
  clear hs
  by_cases hg : Good s n
  · have HG := Lib.hid hg
    have HF : Hid (¬ Fits l a n) := Lib.hid (fun hf => h ⟨hg, hf⟩)
    clear h hg
    go_enter Try.func15, Try.ntmps15
    go_wp2_with (first
      | (go_at_call 7; refine (make_yes s n _ HG.out).mono ?_; rintro e wl ⟨rfl, nl, rfl⟩)
      | (go_at_call 19; refine (fits_no B g v l a n _ (HS.out.no (by repeat (first | exact Fr.refl _ _ | apply Fr.drewN | apply Fr.drew | apply Fr.alloc))) HF.out).mono ?_; rintro e wf ⟨rfl, nf, rfl⟩))
    go_ret
    exact ⟨rfl, _, rfl⟩
  · have HG := Lib.hid hg
    clear h hg
    go_enter Try.func15, Try.ntmps15
    go_wp2_with (go_at_call 7; refine (make_no s n _ HG.out).mono ?_; rintro e wl ⟨rfl, nl, rfl⟩)
    go_ret
    exact ⟨rfl, _, rfl⟩

end Go.Proofs.Ytedonindffogpaa.Head
