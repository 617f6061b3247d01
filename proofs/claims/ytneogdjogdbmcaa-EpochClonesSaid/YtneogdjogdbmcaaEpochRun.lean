/- Proved: a whole script of package scutagelaw15 answers true; and the law EpochRuns over any arguments. -/
import Derived.Test.YtneogdjogdbmcaaEpochStepB
import Derived.Test.YtneogdjogdbmcaaEpochAgrees
namespace Go.Proofs.Ytneogdjogdbmcaa.EpochRun
open Go.RowKit Go.Proofs.Ytneogdjogdbmcaa.H Go.Proofs.Ytneogdjogdbmcaa.Nums Go.Proofs.Ytneogdjogdbmcaa.Epoch Go.Proofs.Ytneogdjogdbmcaa.EpochLaw Go.Proofs.Ytneogdjogdbmcaa.EpochTold Go.Proofs.Ytneogdjogdbmcaa.EpochStep Go.Proofs.Ytneogdjogdbmcaa.EpochAlive
open Go.Proofs.Ytneogdjogdbmcaa.EpochAgrees (calls call_at calls_cut)

theorem step_any (B g : Nat) (v bv : Value) (l : List Mb) (e a t : Int) (w : World) (hs : Both w B g v bv l e) (he : e < 1000000) :
    Calls Try.prog 26 #[.pointer (some ⟨g, 0, none⟩), .agg #[bv, .int .i64 e], .agg #[.int .i64 a, .int .i64 t]] w (StepPost B g v l e w) := by
  by_cases t1 : t < 0
  · by_cases h1 : a = 1
    · subst h1; exact att_S1 B g v bv l e t w hs he t1
    by_cases h2 : a = 2
    · subst h2; exact det_S1 B g v bv l e t w hs he t1
    by_cases h3 : a = 3
    · subst h3; exact rai_S1 B g v bv l e t w hs he t1
    by_cases h4 : a = 4
    · subst h4; exact con_S1 B g v bv l e t w hs he t1
    exact ask_S1 B g v bv l e t a w hs he t1 (by simpa using h1) (by simpa using h2) (by simpa using h3) (by simpa using h4)
  by_cases t2 : (l.length : Int) ≤ t
  · have t0 : 0 ≤ t := by omega
    by_cases h1 : a = 1
    · subst h1; exact att_S2 B g v bv l e t w hs he t0 t2
    by_cases h2 : a = 2
    · subst h2; exact det_S2 B g v bv l e t w hs he t0 t2
    by_cases h3 : a = 3
    · subst h3; exact rai_S2 B g v bv l e t w hs he t0 t2
    by_cases h4 : a = 4
    · subst h4; exact con_S2 B g v bv l e t w hs he t0 t2
    exact ask_S2 B g v bv l e t a w hs he t0 t2 (by simpa using h1) (by simpa using h2) (by simpa using h3) (by simpa using h4)
  obtain ⟨k, ht⟩ := Int.eq_ofNat_of_zero_le (show 0 ≤ t by omega)
  have hk : k < l.length := by omega
  cases hl : liveB l (k : Int) with
  | false =>
    by_cases h1 : a = 1
    · subst h1; exact att_yes B g v bv l e t w hs he k ht hk hl
    by_cases h2 : a = 2
    · subst h2; exact det_S3 B g v bv l e t w hs he k ht hk hl
    by_cases h3 : a = 3
    · subst h3; exact rai_S3 B g v bv l e t w hs he k ht hk hl
    by_cases h4 : a = 4
    · subst h4; exact con_S3 B g v bv l e t w hs he k ht hk hl
    exact ask_S3 B g v bv l e t a w hs he k ht hk hl (by simpa using h1) (by simpa using h2) (by simpa using h3) (by simpa using h4)
  | true =>
    by_cases h1 : a = 1
    · subst h1; exact att_S4 B g v bv l e t w hs he k ht hk hl
    by_cases h2 : a = 2
    · subst h2; exact det_yes B g v bv l e t w hs he k ht hk hl
    by_cases h3 : a = 3
    · subst h3; exact rai_S4 B g v bv l e t w hs he k ht hk hl
    by_cases h4 : a = 4
    · subst h4
      by_cases hq : ofI l (k : Int) = e
      · exact con_S4 B g v bv l e t w hs he k ht hk hl (Lib.hid hq)
      · exact con_yes B g v bv l e t w hs he k ht hk hl (Lib.hid (by have := (hs.inv.at0 k hl).2; omega))
    exact ask_S4 B g v bv l e t a w hs he k ht hk hl (by simpa using h1) (by simpa using h2) (by simpa using h3) (by simpa using h4)

/-- where a script stands: the book lies in block b -/
structure RunAt (w : World) (B g : Nat) (v : Value) (b : Nat) (wr : World) (bv' : Value) (l' : List Mb) (e' : Int) : Prop where
  book : wr.heap[b]? = some (.cells #[bv', .int .i64 e'] 26 (0, 0))
  res : wr.heap[b + 1]? = some (.cells #[.slice none 0 0, .int .i64 0] 26 (0, 0))
  both : Both wr B g v bv' l' e'
  fr : Fr (Foot g v) w wr
def RunPost (B g : Nat) (v : Value) (e : Int) (n : Nat) (w : World) (x : Ending) (w' : World) : Prop :=
  ∃ bv' l' e', x = .returned (.tuple #[.agg #[bv', .int .i64 e'], .bool true]) ∧ Both w' B g v bv' l' e' ∧ Fr (Foot g v) w w' ∧ e' ≤ e + n

set_option maxRecDepth 100000 in
set_option maxHeartbeats 25600000 in
theorem run_any (B g : Nat) (v bv : Value) (l : List Mb) (e : Int) (Ao : Option Addr) (no co : Nat) (ops : List (Int × Int)) (hno : no = ops.length) (w : World) (hs : Both w B g v bv l e)
    (hB : B ≤ w.heap.size) (hops : ∀ W, Below B w W → Rd W (.slice Ao no co) no 2 (calls ops)) (hl : no ≤ 1000) (he : e ≤ 100000) :
    Calls Try.prog 7 #[.pointer (some ⟨g, 0, none⟩), .agg #[bv, .int .i64 e], .slice Ao no co] w (RunPost B g v e no w) := by
  obtain ⟨A, c, rfl, _⟩ := hs.row.slice
  have HS := Lib.hid hs
  have HO := Lib.hid hops
  have HNO := Lib.hid hno
  have HE := Lib.hid he
  have HN := Lib.hid (show ∀ k, Foot g v k → B ≤ k ∧ k < w.heap.size from hs.reg.foot_lt)
  obtain ⟨n0, hn0⟩ : ∃ n0, n0 = (atL l).length := ⟨_, rfl⟩
  have HN0 := Lib.hid hn0
  rw [← hn0] at HS ⊢
  clear hs hops hno he hn0
  go_enter Try.func7, Try.ntmps7
  go_wp2_with fail
  have hz : ((w.alloc (.cells #[.slice A n0 c, .int .i64 e] 26)).alloc (.cells #[.slice none 0 0, .int .i64 0] 26)).heap.size = w.heap.size + 1 + 1 := by simp
  have M2 : ((w.alloc (.cells #[.slice A n0 c, .int .i64 e] 26)).alloc (.cells #[.slice none 0 0, .int .i64 0] 26)).heap[w.heap.size]? = some (.cells #[.slice A n0 c, .int .i64 e] 26 (0, 0)) := alloc_of (heap_alloc_new w _) _
  have N2 : ((w.alloc (.cells #[.slice A n0 c, .int .i64 e] 26)).alloc (.cells #[.slice none 0 0, .int .i64 0] 26)).heap[w.heap.size + 1]? = some (.cells #[.slice none 0 0, .int .i64 0] 26 (0, 0)) := heap2_new w _ _
  have FW := Lib.hid (((Fr.refl No w).alloc (.cells #[.slice A n0 c, .int .i64 e] 26)).alloc (.cells #[.slice none 0 0, .int .i64 0] 26))
  generalize (w.alloc (.cells #[.slice A n0 c, .int .i64 e] 26)).alloc (.cells #[.slice none 0 0, .int .i64 0] 26) = w3 at hz M2 N2 FW ⊢
  refine (told_any B g v (.slice A n0 c) l e _ (HS.out.fr FW.out)).mono ?_
  rintro x4 w4 ⟨rfl, h4⟩
  have F4 := Lib.hid (FW.out.then_below h4)
  have R4 : Hid (RunAt w B g v w.heap.size w4 (.slice A n0 c) l e) := Lib.hid ⟨(h4.block _ (by omega)).trans M2, (h4.block _ (by omega)).trans N2, HS.out.fr F4.out, F4.out.mono (fun _ h => h.elim)⟩
  clear h4 M2 N2 hz FW
  go_wp2
  go_loopw [8, 9] (fun ok i wr => ∃ k : Nat, k ≤ no ∧ i = .int .i64 k ∧ ok = .bool true ∧ Hid (∃ bv' l' e', RunAt w B g v w.heap.size wr bv' l' e' ∧ e' ≤ e + k)) (fun _ i _ => no - (intOf i).toNat)
  case atStart => exact ⟨0, Nat.zero_le _, rfl, rfl, Lib.hid ⟨_, l, e, R4.out, by omega⟩⟩
  case round =>
    obtain ⟨k, hk, rfl, rfl, HR⟩ := hrel
    obtain ⟨bv', l', e', hr, hee⟩ := HR.out
    obtain ⟨A', c', rfl, _⟩ := hr.both.row.slice
    obtain ⟨n1, hn1⟩ : ∃ n1, n1 = (atL l').length := ⟨_, rfl⟩
    rw [← hn1] at hr
    have EE := Lib.hid hee
    clear HR hee hn1
    by_cases hlt : k < no
    · have hbel : Below B w wr := hr.fr.below hB (fun k hk => (HN.out k hk).1)
      obtain ⟨ad, a, b, rfl, _, x0, x1⟩ := call_at HNO.out (HO.out _ hbel) k hlt
      have k0 : wr.cell? ⟨w.heap.size, 0, none⟩ = some (.slice A' n1 c') := cell_of hr.book 0
      have k1 : wr.cell? ⟨w.heap.size, 1, none⟩ = some (.int .i64 e') := cell_of hr.book 1
      have i1 : (0 : Int) ≤ (k : Int) := Int.natCast_nonneg _
      have i2 : (k : Int) < (no : Int) := by omega
      have HR := Lib.hid hr
      have HLT := Lib.hid hlt
      have HNB : Hid (∀ j, j = w.heap.size ∨ j = w.heap.size + 1 → ¬ Foot g v j) := Lib.hid (fun j hj h => by have := (HN.out j h).2; omega)
      clear hr hbel hlt
      go_wp2_with fail
      go_region_with ((go_at_call 26; refine (step_any B g v _ l' e' _ _ _ (HR.out.both.fr (by repeat (first | exact Fr.refl _ _ | apply Fr.drewN | apply Fr.drew | apply Fr.alloc))) (by have := EE.out; have := HE.out; omega)).mono ?_; rintro x5 w5 ⟨bv5, l5, e5, rfl, hb5, hf5, he5⟩; obtain ⟨A5, c5, rfl, _⟩ := hb5.row.slice; have z : w5.heap[w.heap.size]? = some (.cells #[.slice A' n1 c', .int .i64 e'] 26 (0, 0)) := hf5.blk HR.out.book (HNB.out _ (.inl rfl)); have zr : w5.heap[w.heap.size + 1]? = some (.cells #[.slice none 0 0, .int .i64 0] 26 (0, 0)) := hf5.blk HR.out.res (HNB.out _ (.inr rfl)); have y0 : w5.cell? ⟨w.heap.size, 0, none⟩ = some (.slice A' n1 c') := cell_of z 0; have y1 : w5.cell? ⟨w.heap.size, 1, none⟩ = some (.int .i64 e') := cell_of z 1; have q0 := free_of z 0; have q1 := free_of z 1; have Z := Lib.hid z; have ZR := Lib.hid zr; have H5 := Lib.hid hb5; have F5 := Lib.hid hf5; have E5 := Lib.hid he5; clear z zr hb5 hf5 he5))
      all_goals
        have Z6 := Lib.hid (set2_of Z.out (.slice A5 (atL l5).length c5) (.int .i64 e5))
        have F6 : Hid (Fr (fun k => k = w.heap.size) w5 ((w5.setCell ⟨w.heap.size, 0, none⟩ (.slice A5 (atL l5).length c5)).setCell ⟨w.heap.size, 1, none⟩ (.int .i64 e5))) :=
          Lib.hid (((Fr.refl (fun k => k = w.heap.size) w5).setCell (p := ⟨w.heap.size, 0, none⟩) (.inl rfl) _).setCell (p := ⟨w.heap.size, 1, none⟩) (.inl rfl) _)
        generalize (w5.setCell ⟨w.heap.size, 0, none⟩ (.slice A5 (atL l5).length c5)).setCell ⟨w.heap.size, 1, none⟩ (.int .i64 e5) = w6 at Z6 F6 ⊢
        have d0 : w6.cell? ⟨w.heap.size, 0, none⟩ = some (.slice A5 (atL l5).length c5) := cell_of Z6.out 0
        have d1 : w6.cell? ⟨w.heap.size, 1, none⟩ = some (.int .i64 e5) := cell_of Z6.out 1
        clear y0 y1 q0 q1 k0 k1 x0 x1
        go_wp2_with fail
        have H6 : Hid (Both w6 B g v (.slice A5 (atL l5).length c5) l5 e5) := Lib.hid ⟨H5.out.reg.fr F6.out (fun k hk e => HNB.out _ (.inl rfl) (by rw [← e]; exact hk)), H5.out.row.fr F6.out (fun k hk e => own_ne_blk H5.out.row Z.out (by decide) (by rw [hk, e])), H5.out.inv⟩
        refine (told_any B g v _ l5 e5 _ (H6.out.fr (by repeat (first | exact Fr.refl _ _ | apply Fr.drewN | apply Fr.drew)))).mono ?_
        rintro x7 w7 ⟨rfl, h7⟩
        have F7 := Lib.hid (Fr.then_below (show Fr No w6 _ by repeat (first | exact Fr.refl No w6 | apply Fr.drewN | apply Fr.drew)) h7)
        clear h7 d0 d1
        go_wp2
        go_roundw
        case rel => exact ⟨k + 1, by have := HLT.out; omega, by go_num, rfl, Lib.hid ⟨_, l5, e5, ⟨F7.out.blk Z6.out (fun h => h), F7.out.blk (F6.out.blk ZR.out (by omega)) (fun h => h), H6.out.fr F7.out, ((((Fr.drew HR.out.fr).trans F5.out (fun i hi => .inl hi)).trans F6.out (fun i hi => .inr (by omega))).trans F7.out (fun i h => h.elim))⟩, by have := EE.out; have := E5.out; omega⟩⟩
        case measure => have := HLT.out; simp [intOf]; omega
    · obtain rfl : k = no := by omega
      have k0 : wr.cell? ⟨w.heap.size, 0, none⟩ = some (.slice A' n1 c') := cell_of hr.book 0
      have k1 : wr.cell? ⟨w.heap.size, 1, none⟩ = some (.int .i64 e') := cell_of hr.book 1
      have q0 : wr.cell? ⟨w.heap.size + 1, 0, none⟩ = some (.slice none 0 0) := cell_of hr.res 0
      have q1 : wr.cell? ⟨w.heap.size + 1, 1, none⟩ = some (.int .i64 0) := cell_of hr.res 1
      have p0 := free_of hr.res 0
      have p1 := free_of hr.res 1
      have HR := Lib.hid hr
      clear hr hlt
      go_wp2_with fail
      have FE : Fr (fun j => j = w.heap.size + 1) wr ((wr.setCell ⟨w.heap.size + 1, 0, none⟩ (.slice A' n1 c')).setCell ⟨w.heap.size + 1, 1, none⟩ (.int .i64 e')) :=
        ((Fr.refl (fun j => j = w.heap.size + 1) wr).setCell (p := ⟨w.heap.size + 1, 0, none⟩) (.inl rfl) _).setCell (p := ⟨w.heap.size + 1, 1, none⟩) (.inl rfl) _
      refine bodyPost_ret (res_ct rfl _ _ (w.heap.size + 1) 26 #[.slice A' n1 c', .int .i64 e'] _ rfl (set2_of HR.out.res _ _) Try.underlying26 rfl (by kernel_rfl)) rfl ?_
      refine ⟨.slice A' n1 c', l', e', rfl, ⟨HR.out.both.reg.fr FE (fun j hj h => by have := (HN.out j hj).2; omega), HR.out.both.row.fr FE (fun j hj h => own_ne_blk HR.out.both.row HR.out.res (by decide) (by rw [hj, h])), HR.out.both.inv⟩, HR.out.fr.trans FE (fun i hi => .inr (by omega)), EE.out⟩

theorem run_cut (B g : Nat) (v bv : Value) (l : List Mb) (e : Int) (A : Option Addr) (c : Nat) (ops : List (Int × Int)) (w0 w : World) (hs : Both w B g v bv l e) (hB : B ≤ w.heap.size)
    (hr : Rd w0 (.slice A ops.length c) ops.length 2 (calls ops)) (hv : ∀ W, Below B w W → Below w0.heap.size w0 W) (he : e ≤ 100000) :
    Calls Try.prog 7 #[.pointer (some ⟨g, 0, none⟩), .agg #[bv, .int .i64 e], .slice A (min 50 ops.length) c] w (RunPost B g v e (min 50 ops.length) w) :=
  run_any B g v bv l e A (min 50 ops.length) c (ops.take 50) (by rw [List.length_take]) w hs hB (fun W hW => (calls_cut hr).below (hv W hW)) (by omega) he

end Go.Proofs.Ytneogdjogdbmcaa.EpochRun
