/- Proved: what making, clearing, asking whether all are empty, and copying of buffers does and answers. -/
import Derived.Test.YtmgfidepjclobaaBuffer3
namespace Go.Proofs.Ytmgfidepjclobaa.Buffer
open Go.RowKit Go.Proofs.Ytmgfidepjclobaa.H Go.Proofs.Ytmgfidepjclobaa.Nums

set_option maxHeartbeats 1600000 in
theorem clamp_any (n hi r : Int) (hr : max 0 (min n hi) = r) (hh : 0 ≤ hi) (w : World) :
    Calls Try.prog 21 #[.int .i64 n, .int .i64 0, .int .i64 hi] w (Quiet w (.int .i64 r)) := by
  subst hr
  by_cases h1 : n < 0
  · have e : max 0 (min n hi) = 0 := by omega
    rw [e]
    go_enter Try.func21, Try.ntmps21
    go_wp2
    go_ret
    exact ⟨rfl, 0, rfl⟩
  by_cases h2 : hi < n
  · have e : max 0 (min n hi) = hi := by omega
    rw [e]
    go_enter Try.func21, Try.ntmps21
    go_wp2
    go_ret
    exact ⟨rfl, 0, rfl⟩
  · have e : max 0 (min n hi) = n := by omega
    rw [e]
    go_enter Try.func21, Try.ntmps21
    go_wp2
    go_ret
    exact ⟨rfl, 0, rfl⟩

def none_ : Ln := (.slice none 0 0, [])
def NewPost (D : List (List Int)) (w : World) (x : Ending) (w' : World) : Prop :=
  ∃ g v L, x = .returned (.pointer (some ⟨g, 0, none⟩)) ∧ dat L = D ∧ Bufs w' w.heap.size g v L ∧ Below w.heap.size w w'
theorem made_rows (n : Nat) : (madeCells (Value.slice none 0 0).cells (n * 1)).toList = (List.replicate n none_).map (·.1) := by
  apply List.ext_getElem?
  intro j
  by_cases hj : j < n
  · simp [madeCells, hj, Value.cells, none_, Nat.mod_one]
  · rw [List.getElem?_eq_none (by simp [madeCells]; omega), List.getElem?_eq_none (by simp; omega)]
/-- a row of rows, freshly made -/
theorem made_own (w : World) (B n : Nat) (hB : B ≤ w.heap.size) (hn : n ≤ 8) (cs : Array Value) (hcs : cs.toList = (List.replicate n none_).map (·.1)) (w' : World) (hw : w'.heap[w.heap.size]? = some (.cells cs 32 (0, 0))) :
    Rows w' B (.slice (some ⟨w.heap.size, 0, none⟩) n n) (List.replicate n none_) := by
  refine ⟨⟨by simp, .inr ⟨w.heap.size, n, cs, by simp, hB, hw, by simp, by unfold maxLen; omega, ?_, ?_⟩⟩, ?_⟩
  · have := congrArg List.length hcs
    simpa using this
  · rw [hcs, List.take_of_length_le (by simp)]
  · intro p hp
    obtain rfl := List.eq_of_mem_replicate hp
    exact Own.nil _ _
theorem dat_none (n : Nat) : dat (List.replicate n none_) = List.replicate n [] := by simp [dat, none_]
theorem run_rows (n : Nat) (hn : n ≤ 8) (w : World) : (Instr.makeSlice 24 (.int .i64 (n : Int)) (.int .i64 (n : Int))).run Try.prog w = .ok (.slice (some ⟨w.heap.size, 0, none⟩) n n) (w.alloc (.cells (madeCells (Value.slice none 0 0).cells (n * 1)) 32)) := by
  obtain ⟨i0, hi0, hz0, hz1, hz2⟩ := info_parts infoR
  have h := run_make (P := Try.prog) w 24 32 i0 _ Try.underlying24 hi0 hz0 .i64 .i64 n n (by omega) (by omega) (by rw [hz2]; omega) (by omega)
  rw [hz1] at h
  simpa using h

set_option maxHeartbeats 3200000 in
theorem new_any (n : Int) (r : Nat) (hr : max 0 (min n 8) = (r : Int)) (w : World) :
    Calls Try.prog 8 #[.int .i64 n] w (NewPost (List.replicate r []) w) := by
  have hb : r ≤ 8 := by omega
  have HR := Lib.hid hr
  have hmk := run_rows r hb
  have HM := Lib.hid (made_rows r)
  generalize madeCells (Value.slice none 0 0).cells (r * 1) = mc at hmk HM
  clear hr
  go_enter Try.func8, Try.ntmps8
  go_wp2_with (go_at_call 21; refine (clamp_any n 8 _ rfl (by omega) _).mono ?_; rintro e w' ⟨rfl, k, rfl⟩; rw [HR.out])
  go_ret
  have h1 := heap_alloc_new (w.drewN k) (.cells mc 32)
  have h2 := heap2_new (w.drewN k) (.cells mc 32) (.cells #[.bool true, .slice (some ⟨w.heap.size, 0, none⟩) r r] 41)
  refine ⟨_, .slice (some ⟨w.heap.size, 0, none⟩) r r, List.replicate r none_, rfl, dat_none r, ⟨h2, made_own w _ r (Nat.le_refl _) hb mc HM.out _ (alloc_of h1 _), by simp, by simpa using hb, ?_⟩, ?_⟩
  · intro i j p q k hi hj hp hq
    obtain rfl := List.eq_of_mem_replicate (List.mem_of_getElem? hi)
    cases hp
  · exact Fr.below (S := No) (by repeat (first | exact Fr.refl _ _ | apply Fr.drewN | apply Fr.drew | apply Fr.alloc)) (Nat.le_refl _) (fun _ h => h.elim)

/-! ### Clear -/
def clrD (D : List (List Int)) (k : Nat) : List (List Int) := List.replicate k [] ++ D.drop k
def sumD (D : List (List Int)) : Nat := (D.map List.length).sum
theorem sum_succ (D : List (List Int)) (k : Nat) (x : List Int) (h : D[k]? = some x) : sumD (D.take (k + 1)) = sumD (D.take k) + x.length := by
  have e : D.take (k + 1) = D.take k ++ [x] := by rw [List.take_add_one, h]; rfl
  unfold sumD
  rw [e]
  simp
theorem sum_le (D : List (List Int)) (N : Nat) (hN : ∀ p ∈ D, p.length ≤ N) : ∀ k, sumD (D.take k) ≤ k * N := by
  intro k
  induction k with
  | zero => simp [sumD]
  | succ k ih =>
    by_cases h : k < D.length
    · rw [sum_succ D k _ (List.getElem?_eq_getElem h), Nat.succ_mul]
      have := hN _ (List.getElem_mem h)
      omega
    · rw [List.take_of_length_le (by omega)]
      rw [List.take_of_length_le (by omega)] at ih
      rw [Nat.succ_mul]; omega
theorem clr_take (D : List (List Int)) (k : Nat) (x : List Int) (hx : D[k]? = some x) : takeD (clrD D k) (k : Int) = clrD D (k + 1) ∧ getI (clrD D k) (k : Int) = x := by
  obtain ⟨h, rfl⟩ := List.getElem?_eq_some_iff.1 hx
  have hl : (clrD D k).length = D.length := by simp [clrD]; omega
  have hd : D.drop k = D[k] :: D.drop (k + 1) := by rw [List.drop_eq_getElem_cons h]
  constructor
  · unfold takeD inD
    rw [if_pos (by rw [hl]; simp; omega)]
    unfold clrD
    rw [show ((k : Int)).toNat = k by omega, List.set_append_right _ _ (by simp), hd]
    simp [List.replicate_succ', List.append_assoc]
    rw [hd]; rfl
  · unfold getI
    rw [if_neg (by omega)]
    unfold clrD
    rw [show ((k : Int)).toNat = k by omega, List.getElem?_append_right (by simp)]
    simp [h]
theorem clr_all (D : List (List Int)) : clrD D D.length = List.replicate D.length [] := by simp [clrD]

set_option maxRecDepth 100000 in
set_option maxHeartbeats 3200000 in
theorem clear_any (B g : Nat) (v : Value) (L : List Ln) (hl : ∀ p ∈ dat L, p.length ≤ 1000000) (w : World) (hs : Bufs w B g v L) :
    Calls Try.prog 15 #[.pointer (some ⟨g, 0, none⟩)] w (Post B g v L (List.replicate L.length []) (.int .i64 (sumD (dat L))) w) := by
  obtain ⟨A, c, rfl, _⟩ := own_slice hs.rows.own
  obtain ⟨c0, c1⟩ := hs.cells
  have hdl := dat_length L
  have HS := Lib.hid hs
  have hl8 := hs.len
  obtain ⟨D, hD⟩ : ∃ D, D = dat L := ⟨_, rfl⟩
  have HD := Lib.hid hD
  have HB := Lib.hid (sum_le (dat L) 1000000 hl)
  obtain ⟨m, hm⟩ : ∃ m, m = L.length := ⟨_, rfl⟩
  have HM := Lib.hid hm
  rw [← hm] at hl8 hdl HS c1 ⊢
  rw [← hD] at HB hdl ⊢
  have HDL := Lib.hid hdl
  clear hs hl hD hm hdl
  go_enter Try.func15, Try.ntmps15
  go_wp2
  go_loopw [3, 12] (fun s i wr => ∃ k : Nat, k ≤ m ∧ i = .int .i64 k ∧ s = .int .i64 (sumD (D.take k)) ∧ ∃ L', Hid (dat L' = clrD D k) ∧ Hid (Bufs wr B g (.slice A m c) L') ∧ Hid (Fr (Foot g (.slice A m c) L) w wr) ∧ Hid (∀ j, Foot g (.slice A m c) L' j → Foot g (.slice A m c) L j ∨ w.heap.size ≤ j)) (fun _ i _ => m - (intOf i).toNat)
  case atStart => exact ⟨0, Nat.zero_le _, rfl, by simp [sumD], L, Lib.hid (by rw [← HD.out]; simp [clrD]), HS, Lib.hid (Fr.refl _ _), Lib.hid (fun j hj => .inl hj)⟩
  case round =>
    obtain ⟨k, hk, rfl, rfl, L', HL, HX, HF, HT⟩ := hrel
    by_cases hlt : k < m
    · have hkD : k < D.length := by rw [HDL.out]; exact hlt
      obtain ⟨x, hx⟩ : ∃ x, D[k]? = some x := ⟨_, List.getElem?_eq_getElem hkD⟩
      have HC := Lib.hid (clr_take D k x hx)
      have HSS := Lib.hid (sum_succ D k x hx)
      have hs1 := HB.out k
      have hs2 := HB.out (k + 1)
      have HLT := Lib.hid hlt
      obtain ⟨s0, hs0⟩ : ∃ s0, s0 = sumD (D.take k) := ⟨_, rfl⟩
      obtain ⟨s1, hs1'⟩ : ∃ s1, s1 = sumD (D.take (k + 1)) := ⟨_, rfl⟩
      rw [← hs0] at HSS hs1 ⊢
      rw [← hs1'] at HSS hs2
      have HS1 := Lib.hid hs1'
      have HBD := Lib.hid (And.intro hs1 hs2)
      have i2 : (k : Int) < (m : Int) := by omega
      clear hs0 hs1' hs1 hs2 hkD hlt hx
      go_wp2_with fail
      with_reducible refine (take_any B g _ L' (k : Int) wr HX.out).mono ?_
      rintro e w2 ⟨u, L2, rfl, ho, hd, hb, hf, hm1, hm2⟩
      rw [HL.out, HC.out.2] at ho
      rw [HL.out, HC.out.1] at hd
      obtain ⟨A2, c2, rfl, _⟩ := ho.slice
      have HL2 := Lib.hid hd
      have HX2 := Lib.hid hb
      have HF2 := Lib.hid (HF.out.trans hf (fun i hi => HT.out i hi))
      have HT2 := Lib.hid (show ∀ j, Foot g (.slice A m c) L2 j → Foot g (.slice A m c) L j ∨ w.heap.size ≤ j from fun j hj => HT.out j (hm1 j hj))
      clear ho hd hb hf hm1 hm2
      have hle : (x.length : Int) = (s1 : Int) - s0 := by have := HSS.out; omega
      obtain ⟨q, hq⟩ : ∃ q, q = x.length := ⟨_, rfl⟩
      rw [← hq] at hle ⊢
      clear hq
      have HQ := Lib.hid hle
      clear hle
      go_wp2_with fail
      go_roundw
      case rel => exact ⟨k + 1, HLT.out, by go_num, by rw [← HS1.out]; have h1 := HQ.out; have h2 := HBD.out; have h3 := HLT.out; congr 1; unfold wrap64; omega, L2, HL2, HX2, HF2, HT2⟩
      case measure => have := HLT.out; simp [intOf]; omega
    · obtain rfl : k = m := by omega
      have HX2 := Lib.hid (show dat L' = List.replicate k [] from by rw [HL.out, ← HDL.out]; exact clr_all D)
      have HSM := Lib.hid (show sumD (D.take k) = sumD D from by rw [← HDL.out, List.take_length])
      go_wp2
      go_ret
      exact ⟨L', by rw [HSM.out]; rfl, HX2.out, HX.out, HF.out, HT.out⟩

/-! ### Empty -/
set_option maxHeartbeats 1600000 in
theorem empty1_any (A : Option Addr) (n c : Nat) (w : World) :
    Calls Try.prog 27 #[.slice A n c] w (Quiet w (.bool (decide (0 < n)))) := by
  cases n with
  | zero =>
    go_enter Try.func27, Try.ntmps27
    go_wp2
    go_ret
    exact ⟨rfl, 0, rfl⟩
  | succ n =>
    have g1 : decide ((0 : Int) < ((n + 1 : Nat) : Int)) = true := by simp
    go_enter Try.func27, Try.ntmps27
    go_wp2
    go_ret
    exact ⟨by simp, 0, rfl⟩
def emptyB (D : List (List Int)) : Bool := D.all fun p => decide (p.length = 0)
set_option maxHeartbeats 3200000 in
theorem ifunc_any (v : Value) (B : Nat) (L : List Ln) (w : World) (hr : Rows w B v L) (hl : L.length ≤ 8) :
    Calls Try.prog 31 #[v, .func (.func 27) #[] #[]] w (IdxPost (!emptyB (dat L)) w) := by
  obtain ⟨A, c, rfl, _⟩ := own_slice hr.own
  have HR := Lib.hid hr
  clear hr
  go_enter Try.func31, Try.ntmps31
  go_wp2
  go_loopw [8] (fun i wr => ∃ k : Nat, k ≤ L.length ∧ i = .int .i64 k ∧ (∃ n, wr = w.drewN n) ∧ Hid (∀ j p, j < k → L[j]? = some p → p.2.length = 0)) (fun i _ => L.length - (intOf i).toNat)
  case atStart => exact ⟨0, Nat.zero_le _, rfl, ⟨0, rfl⟩, Lib.hid (fun j p h => by omega)⟩
  case round =>
    obtain ⟨k, hk, rfl, ⟨n, rfl⟩, HQ⟩ := hrel
    by_cases hlt : k < L.length
    · obtain ⟨d, c', he, x0, _, _, _⟩ := HR.out.slot k hlt
      injection he with he _ he3
      subst he he3
      have hrow := HR.out.row _ (List.getElem_mem hlt)
      have hat := List.getElem?_eq_getElem hlt
      generalize L[k] = p at x0 hrow hat
      obtain ⟨pv, xs⟩ := p
      dsimp only at x0 hrow
      obtain ⟨A2, c2, rfl, hle⟩ := hrow.slice
      have HAT := Lib.hid hat
      have HLT := Lib.hid hlt
      have i1 : (0 : Int) ≤ (k : Int) := Int.natCast_nonneg _
      have i2 : (k : Int) < (L.length : Int) := by omega
      obtain ⟨m, hm⟩ : ∃ m, m = xs.length := ⟨_, rfl⟩
      rw [← hm] at x0
      have HM := Lib.hid hm
      clear hat hlt hrow hm hle
      go_wp2_with fail
      with_reducible refine (empty1_any A2 m c2 _).mono ?_
      rintro e w2 ⟨rfl, n2, rfl⟩
      by_cases h0 : m = 0
      · have HN := Lib.hid (show ∀ j p, j < k + 1 → L[j]? = some p → p.2.length = 0 from fun j p hj hp => by
          by_cases e : j = k
          · subst e
            rw [HAT.out] at hp
            injection hp with hp
            subst hp
            have := HM.out
            simpa [h0] using this.symm
          · exact HQ.out j p (by omega) hp)
        rw [decide_eq_false (show ¬ 0 < m by omega)]
        clear h0
        go_wp2_with fail
        go_roundw
        case rel => exact ⟨k + 1, by have := HLT.out; omega, by go_num, ⟨_, rfl⟩, HN⟩
        case measure => have := HLT.out; simp [intOf]; omega
      · have HN := Lib.hid (show (!emptyB (dat L)) = true from by
          have : ¬ emptyB (dat L) = true := fun h => by
            unfold emptyB at h
            rw [List.all_eq_true] at h
            have := h _ (List.mem_map.2 ⟨_, List.mem_of_getElem? HAT.out, rfl⟩)
            simp at this
            have := HM.out
            simp_all
          simpa using this)
        rw [decide_eq_true (show 0 < m by omega)]
        clear h0
        go_wp2_with fail
        go_ret
        exact ⟨_, rfl, ⟨_, rfl⟩, by rw [HN.out, decide_eq_true i1]⟩
    · obtain rfl : k = L.length := by omega
      have HN := Lib.hid (show (!emptyB (dat L)) = false from by
        have : emptyB (dat L) = true := by
          unfold emptyB
          rw [List.all_eq_true]
          intro p hp
          obtain ⟨q, hq, rfl⟩ := List.mem_map.1 hp
          obtain ⟨j, hj⟩ := List.getElem?_of_mem hq
          exact decide_eq_true (HQ.out j q (List.getElem?_eq_some_iff.1 hj).1 hj)
        simp [this])
      go_wp2_with fail
      go_ret
      exact ⟨-1, rfl, ⟨_, rfl⟩, by rw [HN.out]; rfl⟩
set_option maxHeartbeats 1600000 in
theorem empty_any (B g : Nat) (v : Value) (L : List Ln) (w : World) (hs : Bufs w B g v L) :
    Calls Try.prog 16 #[.pointer (some ⟨g, 0, none⟩)] w (Quiet w (.bool (emptyB (dat L)))) := by
  obtain ⟨A, c, rfl, _⟩ := own_slice hs.rows.own
  obtain ⟨c0, c1⟩ := hs.cells
  have HI := Lib.hid (ifunc_any _ B L w hs.rows hs.len)
  clear hs
  have HC : Hid (Calls Try.prog 26 #[.slice A L.length c, .func (.func 27) #[] #[]] w (Quiet w (.bool (!emptyB (dat L))))) := Lib.hid (by
    go_enter Try.func26, Try.ntmps26
    go_wp2_with fail
    with_reducible refine HI.out.mono ?_
    rintro e w' ⟨r, rfl, ⟨m, rfl⟩, hd⟩
    have HD := Lib.hid hd
    clear hd
    go_wp2_with fail
    go_ret
    exact ⟨by rw [← HD.out]; rfl, m, rfl⟩)
  obtain ⟨b, hb⟩ : ∃ b, b = emptyB (dat L) := ⟨_, rfl⟩
  rw [← hb] at HC ⊢
  clear hb HI
  go_enter Try.func16, Try.ntmps16
  go_wp2_with fail
  with_reducible refine HC.out.mono ?_
  rintro e w' ⟨rfl, n, rfl⟩
  cases b
  all_goals
    go_wp2_with fail
    go_ret
    exact ⟨rfl, n, rfl⟩

end Go.Proofs.Ytmgfidepjclobaa.Buffer
