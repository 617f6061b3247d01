/- Proved: what the smaller functions of package scutagelaw15 answer: few, of, set, begin, told. -/
import Derived.Test.YtneogdjogdbmcaaEpoch2
namespace Go.Proofs.Ytneogdjogdbmcaa.EpochLaw
open Go.RowKit Go.Proofs.Ytneogdjogdbmcaa.H Go.Proofs.Ytneogdjogdbmcaa.Nums Go.Proofs.Ytneogdjogdbmcaa.Epoch

def CutPost (A : Option Addr) (n m c : Nat) (w : World) (e : Ending) (w' : World) : Prop := e = .returned (.slice A (min n m) c) ∧ w' = w
theorem few_any (A : Option Addr) (n c : Nat) (w : World) (hc : n ≤ c) :
    Calls Try.prog 10 #[.slice A n c] w (CutPost A 50 n c w) := by
  by_cases h : 50 < n
  · have e : min 50 n = 50 := by omega
    go_enter Try.func10, Try.ntmps10
    go_wp2
    go_ret
    exact ⟨by rw [e]; rfl, rfl⟩
  · have e : min 50 n = n := by omega
    go_enter Try.func10, Try.ntmps10
    go_wp2
    go_ret
    exact ⟨by rw [e]; rfl, rfl⟩

/-- what a book says of some threads -/
def atL (l : List Mb) : List Int := l.map fun m => if m.1 = true then m.2 else -1
theorem atL_length (l : List Mb) : (atL l).length = l.length := by simp [atL]
theorem atL_at (l : List Mb) (k : Nat) (h : k < l.length) : (atL l)[k]'(by rw [atL_length]; exact h) = ofI l (k : Int) := by
  unfold ofI
  rw [liveB_in l k h]
  simp [atL, h]
/-- nobody is ahead of the epoch -/
structure Inv (l : List Mb) (e : Int) : Prop where
  e0 : 0 ≤ e
  e1 : e ≤ 1000000
  at0 : ∀ k : Nat, liveB l (k : Int) = true → 0 ≤ ofI l (k : Int) ∧ ofI l (k : Int) ≤ e
theorem ofI_neg (l : List Mb) (t : Int) (h : liveB l t = false) : ofI l t = -1 := by unfold ofI; rw [h]; rfl
theorem ofI_live {l : List Mb} {e : Int} (h : Inv l e) (t : Int) : decide (0 ≤ ofI l t) = liveB l t := by
  cases hl : liveB l t with
  | false => rw [ofI_neg l t hl]; rfl
  | true =>
    obtain ⟨k, rfl, _⟩ := live_lt l t hl
    exact decide_eq_true (h.at0 k hl).1

/-- a registry, and a row that says the same -/
structure Both (w : World) (B g : Nat) (v bv : Value) (l : List Mb) (e : Int) : Prop where
  reg : Reg w B g v l e
  row : Own w B bv (atL l)
  inv : Inv l e
theorem Both.fr {w w' : World} {B g : Nat} {v bv : Value} {l : List Mb} {e : Int} (h : Both w B g v bv l e) (hf : Fr No w w') : Both w' B g v bv l e :=
  ⟨h.reg.no hf, h.row.fr hf (fun _ _ h => h), h.inv⟩
theorem Both.lower {w : World} {B B' g : Nat} {v bv : Value} {l : List Mb} {e : Int} (h : Both w B g v bv l e) (hB : B' ≤ B) : Both w B' g v bv l e := ⟨h.reg.lower hB, h.row.lower hB, h.inv⟩
/-- rows of other types lie elsewhere -/
theorem Both.sep {w : World} {B g : Nat} {v bv : Value} {l : List Mb} {e : Int} (h : Both w B g v bv l e) : ∀ k, bv.ownBlock = some k → ¬ Foot g v k := by
  rintro k hk (rfl | hv)
  · exact own_ne_blk h.row h.reg.blk (by decide) hk
  · rcases h.reg.own.2 with ⟨rfl, _⟩ | ⟨d, cap, cur, rfl, _, hd, _⟩
    · simp [Value.ownBlock] at hv
    · simp [Value.ownBlock] at hv
      subst hv
      exact own_ne_blk h.row hd (by decide) hk
theorem Both.move {w w' : World} {B g : Nat} {v bv : Value} {l l' : List Mb} {e e' : Int} (h : Both w B g v bv l e) (hr : Reg w' B g v l' e') (hf : Fr (Foot g v) w w') (ha : atL l' = atL l) (hi : Inv l' e') : Both w' B g v bv l' e' :=
  ⟨hr, by rw [ha]; exact h.row.fr hf h.sep, hi⟩

set_option maxHeartbeats 1600000 in
theorem of_book (A : Option Addr) (c : Nat) (l : List Mb) (e t : Int) (w : World) (hr : Rd w (.slice A l.length c) l.length 1 (ints (atL l))) :
    Calls Try.prog 33 #[.agg #[.slice A l.length c, .int .i64 e], .int .i64 t] w (Same w (.int .i64 (ofI l t))) := by
  have hn := heap_alloc_new w (.cells #[.slice A l.length c, .int .i64 e] 26)
  have k0 : (w.alloc (.cells #[.slice A l.length c, .int .i64 e] 26)).cell? ⟨w.heap.size, 0, none⟩ = some (.slice A l.length c) := cell_of hn 0
  by_cases h1 : t < 0
  · rw [ofI_neg l t (liveB_neg l t h1)]
    have g1 : decide (t < 0) = true := by simp; omega
    clear h1 hr hn
    go_enter Try.func33, Try.ntmps33
    go_wp2
    go_ret
    exact ⟨rfl, (Below.refl _ _).alloc (Nat.le_refl _) _⟩
  by_cases h2 : (l.length : Int) ≤ t
  · rw [ofI_neg l t (liveB_past l t h2)]
    have g1 : decide (t < 0) = false := by simp; omega
    have g2 : decide ((l.length : Int) ≤ t) = true := by simp; omega
    clear h1 h2 hr hn
    go_enter Try.func33, Try.ntmps33
    go_wp2
    go_ret
    exact ⟨rfl, (Below.refl _ _).alloc (Nat.le_refl _) _⟩
  obtain ⟨k, rfl⟩ := Int.eq_ofNat_of_zero_le (show 0 ≤ t by omega)
  have hk : k < l.length := by omega
  obtain ⟨ad, rfl, x0⟩ := rd_at (hr.below ((Below.refl _ _).alloc (Nat.le_refl _) (.cells #[.slice A l.length c, .int .i64 e] 26))) k (by rw [atL_length]; exact hk)
  rw [atL_at l k hk] at x0
  generalize ofI l (k : Int) = y at x0 ⊢
  have i1 : (0 : Int) ≤ (k : Int) := Int.natCast_nonneg _
  have i2 : (k : Int) < (l.length : Int) := by omega
  have g1 : decide ((k : Int) < 0) = false := by simp
  have g2 : decide ((l.length : Int) ≤ (k : Int)) = false := by simp; omega
  clear h1 h2 hr hn
  go_enter Try.func33, Try.ntmps33
  go_wp2
  go_ret
  exact ⟨rfl, (Below.refl _ _).alloc (Nat.le_refl _) _⟩

/-- a result that is a struct in memory -/
theorem res_c {P : Program} {fn : Func} {p : Tmp} {ty : TypeId} (h : fn.results = #[.cell p ty]) (tmps : Array Value) (w : World) (g : Nat) (t : TypeId) (cs : Array Value) (d : TypeDesc)
    (hp : tmps.getD p undef = .pointer (some ⟨g, 0, none⟩)) (hg : w.heap[g]? = some (.cells cs t (0, 0)))
    (hu : P.underlying ty = some d) (hd : (match d with | .struct _ | .array _ _ => true | _ => false) = true) (hi : (P.info? ty).map (·.size) = some cs.size) :
    (results fn tmps).run P w = .ok (.agg cs) w := by
  have hp' : tmps[p]?.getD undef = .pointer (some ⟨g, 0, none⟩) := by simpa using hp
  simp [results, h, hp', asAddr, run_loadVar_row w g t ty cs (0, 0) d hg hu hd hi]

def SetPost (xs : List Int) (e : Int) (w : World) (x : Ending) (w' : World) : Prop :=
  ∃ v', x = .returned (.agg #[v', .int .i64 e]) ∧ Own w' w.heap.size v' xs ∧ Below w.heap.size w w'
set_option maxHeartbeats 3200000 in
theorem set_book (A : Option Addr) (n c : Nat) (xs : List Int) (e : Int) (k : Nat) (y : Int) (w : World) (hn : n = xs.length) (hr : Rd w (.slice A n c) n 1 (ints xs)) (hk : k < xs.length) (hl : xs.length ≤ 8) :
    Calls Try.prog 34 #[.agg #[.slice A n c, .int .i64 e], .int .i64 k, .int .i64 y] w (SetPost (xs.set k y) e w) := by
  subst hn
  have HR := Lib.hid (fun (W : World) (hW : Fr No w W) => hr.fr hW (fun _ _ h => h))
  clear hr
  go_enter Try.func34, Try.ntmps34
  go_wp2_with (at_builtin; refine app_own (v := .slice none 0 0) (l := []) (u := .slice A xs.length c) rfl _ _ rfl (B := w.heap.size) rfl (Own.nil _ _) rfl (HR.out _ (by repeat (first | exact Fr.refl _ _ | apply Fr.drewN | apply Fr.drew | apply Fr.alloc))) (by simp; omega) (by simp; omega) ?_; intro v5 w5 hown5 hgrow5 hat5; refine Hid.out ?_)
  simp only [List.nil_append] at hown5
  obtain ⟨A5, c5, rfl, hA5⟩ := hown5.slice
  obtain ⟨d, c6, he, x0, f0, hd⟩ := hown5.at_ k hk
  injection he with he _ he3
  subst he he3
  have hz : ((w.alloc (.cells #[.slice A xs.length c, .int .i64 e] 26)).alloc (.cells #[.slice none 0 0, .int .i64 0] 26)).heap.size = w.heap.size + 1 + 1 := by simp
  have M2 : ((w.alloc (.cells #[.slice A xs.length c, .int .i64 e] 26)).alloc (.cells #[.slice none 0 0, .int .i64 0] 26)).heap[w.heap.size]? = some (.cells #[.slice A xs.length c, .int .i64 e] 26 (0, 0)) := alloc_of (heap_alloc_new w _) _
  have N2 : ((w.alloc (.cells #[.slice A xs.length c, .int .i64 e] 26)).alloc (.cells #[.slice none 0 0, .int .i64 0] 26)).heap[w.heap.size + 1]? = some (.cells #[.slice none 0 0, .int .i64 0] 26 (0, 0)) := heap2_new w _ _
  have F5 := Lib.hid (((Fr.refl No w).alloc (.cells #[.slice A xs.length c, .int .i64 e] 26)).alloc (.cells #[.slice none 0 0, .int .i64 0] 26) |>.grown hgrow5 (fun j hj => by simp [Value.ownBlock] at hj))
  have G5 := (Fr.refl No ((w.alloc (.cells #[.slice A xs.length c, .int .i64 e] 26)).alloc (.cells #[.slice none 0 0, .int .i64 0] 26))).grown hgrow5 (fun j hj => by simp [Value.ownBlock] at hj)
  have O5 := Lib.hid hown5
  generalize xs[k] = z at x0
  have hd2 : w.heap.size + 1 + 1 ≤ d := by
    rcases hat5 with h | h
    · simp [Value.ownBlock] at h
    · rw [hz] at h; simp [Value.ownBlock] at h; omega
  have M5 := G5.blk M2 (fun h => h)
  have N5 := G5.blk N2 (fun h => h)
  have k1 : w5.cell? ⟨w.heap.size, 1, none⟩ = some (.int .i64 e) := cell_of M5 1
  have q0 : w5.cell? ⟨w.heap.size + 1, 0, none⟩ = some (.slice none 0 0) := cell_of N5 0
  have q1 : w5.cell? ⟨w.heap.size + 1, 1, none⟩ = some (.int .i64 0) := cell_of N5 1
  have p0 := free_of N5 0
  have p1 := free_of N5 1
  have M5 := Lib.hid M5
  have N5 := Lib.hid N5
  have i1 : (0 : Int) ≤ (k : Int) := Int.natCast_nonneg _
  have i2 : (k : Int) < (xs.length : Int) := by omega
  clear hown5 hgrow5 hat5 M2 N2 G5 hz
  refine Lib.hid ?_
  go_wp2_with fail
  have hdn : d ≠ w.heap.size + 1 := by omega
  refine bodyPost_ret (res_c rfl _ _ (w.heap.size + 1) 26 #[.slice (some ⟨d, 0, none⟩) xs.length c5, .int .i64 e] _ rfl (set2_of (far_of N5.out (p := ⟨d, k, none⟩) (Ne.symm hdn) _) _ _) Try.underlying26 rfl (by kernel_rfl)) rfl ?_
  have O6 := O5.out.put k y
  have F6 : Fr (fun j => w.heap.size + 1 ≤ j) w5 (((w5.setCell ⟨d, k, none⟩ (.int .i64 y)).setCell ⟨w.heap.size + 1, 0, none⟩ (.slice (some ⟨d, 0, none⟩) xs.length c5)).setCell ⟨w.heap.size + 1, 1, none⟩ (.int .i64 e)) :=
    (((Fr.refl _ w5).setCell (p := ⟨d, k, none⟩) (.inl (by simp; omega)) _).setCell (p := ⟨w.heap.size + 1, 0, none⟩) (.inl (by simp)) _).setCell (p := ⟨w.heap.size + 1, 1, none⟩) (.inl (by simp)) _
  have F7 : Fr (fun j => j = w.heap.size + 1) (w5.setCell ⟨d, k, none⟩ (.int .i64 y)) (((w5.setCell ⟨d, k, none⟩ (.int .i64 y)).setCell ⟨w.heap.size + 1, 0, none⟩ (.slice (some ⟨d, 0, none⟩) xs.length c5)).setCell ⟨w.heap.size + 1, 1, none⟩ (.int .i64 e)) :=
    ((Fr.refl (fun j => j = w.heap.size + 1) _).setCell (p := ⟨w.heap.size + 1, 0, none⟩) (.inl rfl) _).setCell (p := ⟨w.heap.size + 1, 1, none⟩) (.inl rfl) _
  refine ⟨.slice (some ⟨d, 0, none⟩) xs.length c5, rfl, O6.fr F7 (fun j hj h => by simp [Value.ownBlock] at hj; omega), ?_⟩
  exact (F5.out.below (Nat.le_refl _) (fun _ h => h.elim)).trans (F6.below F5.out.size (fun j hj => by omega))

set_option maxHeartbeats 3200000 in
theorem begin_any (n : Int) (r : Nat) (hr : max 0 (min n 8) = (r : Int)) (w : World) :
    Calls Try.prog 9 #[.int .i64 n] w (SetPost (List.replicate r (-1)) 0 w) := by
  have hb : r ≤ 8 := by omega
  have HR := Lib.hid hr
  clear hr
  go_enter Try.func9, Try.ntmps9
  go_wp2
  go_loopw [3, 4] (fun o i wr => ∃ k : Nat, k ≤ r ∧ i = .int .i64 k ∧ Hid (Own wr (w.heap.size + 1) o (List.replicate k (-1)) ∧ Below (w.heap.size + 1) (w.alloc (.cells #[.slice none 0 0, .int .i64 0] 26)) wr)) (fun _ i _ => r - (intOf i).toNat)
  case atStart => exact ⟨0, Nat.zero_le _, rfl, Lib.hid ⟨Own.nil _ _, Below.refl _ _⟩⟩
  case round =>
    obtain ⟨k, hk, rfl, HQ⟩ := hrel
    rename_i o
    obtain ⟨xs, hxs⟩ : ∃ xs, xs = List.replicate k (-1 : Int) := ⟨_, rfl⟩
    rw [← hxs] at HQ
    have hxl : xs.length = k := by rw [hxs]; simp
    have HX := Lib.hid hxs
    have HXL := Lib.hid hxl
    clear hxs hxl
    obtain ⟨A5, c5, rfl, hA5⟩ := HQ.out.1.slice
    have HS : Hid (w.heap.size + 1 ≤ wr.heap.size) := Lib.hid (by have := HQ.out.2.size; simpa using this)
    by_cases hlt : k < r
    · have g1 : decide ((k : Int) < (r : Int)) = true := by simp; omega
      have HP : Hid (List.replicate (k + 1) (-1 : Int) = xs ++ [-1]) := Lib.hid (by rw [List.replicate_succ', HX.out])
      have HLT := Lib.hid hlt
      have HL : Hid (xs.length ≤ 8) := Lib.hid (by have := HXL.out; omega)
      clear hlt
      go_wp2_with fail
      refine (near_any n 0 8 _ rfl (by omega) _).mono ?_
      rintro e w1 ⟨rfl, n1, rfl⟩
      rw [HR.out]
      have O1 := Lib.hid (HQ.out.1.fr (Fr.drewN (Fr.refl No wr) n1) (fun _ _ h => h))
      go_wp2_with (at_builtin; refine app_one (l := xs) (y := -1) rfl (.tmp 11) (.tmp 12) rfl rfl (O1.out.fr (Fr.alloc (Fr.refl No _) _) (fun _ _ h => h)) rfl rfl (heap_alloc_new _ _) (by decide) (by have := HL.out; omega) (by have := HS.out; simp; omega) ?_; intro v6 w6 h1 h2 h3; have O6 := Lib.hid h1; have G6 := Lib.hid h2; clear h1 h2 h3)
      go_roundw
      case rel => exact ⟨k + 1, HLT.out, by go_num, Lib.hid ⟨by rw [HP.out]; exact O6.out, (HQ.out.2.trans ((Fr.alloc (Fr.drewN (Fr.refl No wr) n1) _).below HS.out (fun _ h => h.elim))).grown G6.out (by have := HS.out; simp; omega) (fun j hj => (O1.out.lt j hj).1)⟩⟩
      case measure => have := HLT.out; simp [intOf]; omega
    · obtain rfl : k = r := by omega
      have g1 : decide ((k : Int) < (k : Int)) = false := by simp
      have hbk := HQ.out.2.block w.heap.size (by omega)
      have N1 : wr.heap[w.heap.size]? = some (.cells #[.slice none 0 0, .int .i64 0] 26 (0, 0)) := hbk.trans (heap_alloc_new w _)
      have q0 : wr.cell? ⟨w.heap.size, 0, none⟩ = some (.slice none 0 0) := cell_of N1 0
      have q1 : wr.cell? ⟨w.heap.size, 1, none⟩ = some (.int .i64 0) := cell_of N1 1
      have p0 := free_of N1 0
      have p1 := free_of N1 1
      have N1 := Lib.hid N1
      clear hbk hlt
      go_wp2_with fail
      refine (near_any n 0 8 _ rfl (by omega) _).mono ?_
      rintro e w1 ⟨rfl, n1, rfl⟩
      rw [HR.out]
      go_wp2
      refine bodyPost_ret (res_c rfl _ _ w.heap.size 26 #[.slice A5 xs.length c5, .int .i64 0] _ rfl (set2_of (drewN_of N1.out n1) _ _) Try.underlying26 rfl (by kernel_rfl)) rfl ?_
      have F6 : Fr (fun j => j = w.heap.size) wr (((wr.drewN n1).setCell ⟨w.heap.size, 0, none⟩ (.slice A5 xs.length c5)).setCell ⟨w.heap.size, 1, none⟩ (.int .i64 0)) :=
        (((Fr.refl (fun j => j = w.heap.size) wr).drewN n1).setCell (p := ⟨w.heap.size, 0, none⟩) (.inl rfl) _).setCell (p := ⟨w.heap.size, 1, none⟩) (.inl rfl) _
      refine ⟨.slice A5 xs.length c5, rfl, ?_, ?_⟩
      · rw [← HX.out]
        exact (HQ.out.1.fr F6 (fun j hj h => by have := (HQ.out.1.lt j hj).1; omega)).lower (by omega)
      · exact (((Below.refl _ w).alloc (Nat.le_refl _) _).trans (HQ.out.2.mono (by omega))).trans (F6.below (by have := HS.out; omega) (fun j hj => by omega))

end Go.Proofs.Ytneogdjogdbmcaa.EpochLaw
