/- Proved: the law EpochRuns of package scutagelaw15 answers true of any script. -/
import Derived.Test.YtneogdjogdbmcaaEpochRun
namespace Go.Proofs.Ytneogdjogdbmcaa.EpochRuns
open Go.RowKit Go.Proofs.Ytneogdjogdbmcaa.H Go.Proofs.Ytneogdjogdbmcaa.Nums Go.Proofs.Ytneogdjogdbmcaa.Epoch Go.Proofs.Ytneogdjogdbmcaa.EpochLaw Go.Proofs.Ytneogdjogdbmcaa.EpochTold Go.Proofs.Ytneogdjogdbmcaa.EpochStep Go.Proofs.Ytneogdjogdbmcaa.EpochAlive Go.Proofs.Ytneogdjogdbmcaa.EpochRun
open Go.Proofs.Ytneogdjogdbmcaa.EpochAgrees (calls call_at calls_cut)

set_option maxRecDepth 100000 in
set_option maxHeartbeats 6400000 in
theorem runs_any (n : Int) (vo : Value) (ops : List (Int × Int)) (w : World) (hr : Rd w vo ops.length 2 (calls ops)) :
    Calls Try.prog 3 #[.int .i64 n, vo] w (Same w (.bool true)) := by
  obtain ⟨A, c, rfl, hc⟩ := hr.slice
  obtain ⟨r, hrm⟩ : ∃ r : Nat, max 0 (min n 8) = (r : Int) := ⟨(max 0 (min n 8)).toNat, by omega⟩
  have HRM := Lib.hid hrm
  have HC := Lib.hid hc
  have HR := Lib.hid hr
  have HA : Hid (atL (List.replicate r ((false, 0) : Mb)) = List.replicate r (-1)) := Lib.hid (by simp [atL])
  have HI0 : Hid (Inv (List.replicate r ((false, 0) : Mb)) 0) := Lib.hid ⟨by omega, by omega, fun k hk => by
    obtain ⟨j, he, hj⟩ := live_lt _ _ hk
    have he : k = j := by omega
    subst he
    rw [liveB_in _ k hj, List.getElem_replicate] at hk
    cases hk⟩
  clear hr hrm hc
  go_enter Try.func3, Try.ntmps3
  go_wp2_with fail
  refine (alive_any _).mono ?_
  rintro x1 w1 ⟨rfl, hb1⟩
  have B1 := Lib.hid hb1
  clear hb1
  go_wp2_with fail
  refine (new_any n r HRM.out _).mono ?_
  rintro x2 w2 ⟨g, v, rfl, hs2, hb2⟩
  have S2 := Lib.hid (hs2.lower B1.out.size)
  have B2 := Lib.hid (B1.out.trans (hb2.mono B1.out.size))
  clear hs2 hb2
  go_wp2_with fail
  refine (begin_any n r HRM.out _).mono ?_
  rintro x3 w3 ⟨v3, rfl, o3, h3⟩
  obtain ⟨A3, c3, rfl, _⟩ := o3.slice
  have P3 : Hid (Both w3 w.heap.size g v (.slice A3 (List.replicate r (-1 : Int)).length c3) (List.replicate r (false, 0)) 0) := Lib.hid ⟨S2.out.no (Fr.of_below h3 No), by rw [HA.out]; exact o3.lower B2.out.size, HI0.out⟩
  have B3 := Lib.hid (B2.out.trans (h3.mono B2.out.size))
  clear o3 h3
  obtain ⟨m3, hm3⟩ : ∃ m3, m3 = (List.replicate r (-1 : Int)).length := ⟨_, rfl⟩
  rw [← hm3] at P3 ⊢
  clear hm3
  go_wp2_with fail
  refine (few_any A _ c _ HC.out).mono ?_
  rintro x4 w4 ⟨rfl, rfl⟩
  go_wp2_with fail
  with_reducible refine (run_cut w.heap.size g v _ _ 0 A c ops w _ P3.out B3.out.size HR.out (fun W hW => B3.out.trans hW) (by omega)).mono ?_
  rintro x5 w5 ⟨bv5, l5, e5, rfl, hb5, hf5, _⟩
  obtain ⟨A5, c5, rfl, _⟩ := hb5.row.slice
  have B5 := Lib.hid (B3.out.trans (P3.out.reg.below hf5 B3.out.size))
  clear hb5 hf5
  go_wp2
  go_ret
  exact ⟨rfl, B5.out.alloc B5.out.size _⟩

end Go.Proofs.Ytneogdjogdbmcaa.EpochRuns
