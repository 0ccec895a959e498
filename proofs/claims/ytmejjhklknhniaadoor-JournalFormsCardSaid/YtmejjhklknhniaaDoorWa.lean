import Derived.Test.YtmejjhklknhniaaDoorProg
import Derived.Test.YtmejjhklknhniaaDoorCal
import Derived.Test.YtmejjhklknhniaaDoorStrs
import Derived.WalkKit
import Derived.Deep.DeepFit
import Derived.Lib.Hide
import Derived.Deep.QuietTactic
import Derived.BigQuiet
import Derived.Deep.LoopGhost
namespace Go.Proofs.YtmejjhklknhniaaDoor
open Go Go.RowKit

set_option maxHeartbeats 400000 in
theorem leap_any (y : Int) (w : World) (h0 : 0 ≤ y) (h1 : y ≤ 100000) :
    Calls Tryd.prog 43 #[.int .i64 y] w fun e w' => e = .returned (.bool (leapB y)) ∧ w = w' := by
  go_enter Tryd.func43, Tryd.ntmps43
  go_wp2
  all_goals (go_ret; refine ⟨ret_bool ?_, rfl⟩; simp_all [leapB]; try rfl)

set_option maxHeartbeats 400000 in
theorem leaps_any (y : Int) (w : World) (h0 : 1 ≤ y) (h1 : y ≤ 100000) :
    Calls Tryd.prog 42 #[.int .i64 y] w fun e w' => e = .returned (.int .i64 (leapsI y)) ∧ w = w' := by
  go_enter Tryd.func42, Tryd.ntmps42
  go_wp2
  go_ret
  exact ⟨ret_int rfl, rfl⟩

set_option maxHeartbeats 400000 in
theorem ahead_any (y : Int) (w : World) (h0 : 1 ≤ y) (h1 : y ≤ 100000) :
    Calls Tryd.prog 22 #[.int .i64 y] w fun e w' => e = .returned (.int .i64 (aheadI y)) ∧ w = w' := by
  obtain ⟨a1, a2⟩ := leaps_bd y h0 h1
  have a3 : leapsI 1970 = 477 := by rfl
  have a4 := wrapId (365 * (y - 1970) + leapsI y - 477) (by omega) (by omega)
  have A3 := Lib.hid a3; clear a3
  have A4 := Lib.hid a4; clear a4
  go_enter Tryd.func22, Tryd.ntmps22
  go_wp2_with (go_at_call 42; refine (leaps_any _ _ (by omega) (by omega)).mono ?_; rintro e w' ⟨rfl, rfl⟩)
  go_ret
  exact ⟨ret_int (by rw [A3.out]; exact A4.out), rfl⟩

/-- The days of the months, as the package's table has them. -/
def MDays (g : Nat) (w : World) : Prop := ∀ k : Nat, k < 12 → w.cell? ⟨g, k, none⟩ = some (.int .i64 (mlen (k + 1)))

set_option maxHeartbeats 400000 in
theorem days_any (y m : Int) (w : World) (hg : MDays 11 w) (h0 : 1 ≤ y) (h1 : y ≤ 100000) (m0 : 1 ≤ m) (m1 : m ≤ 12) :
    Calls Tryd.prog 23 #[.int .i64 y, .int .i64 m] w fun e w' => e = .returned (.int .i64 (daysI y m)) ∧ w = w' := by
  obtain ⟨k, rfl⟩ : ∃ k : Nat, m = k + 1 := ⟨(m - 1).toNat, by omega⟩
  have hc := hg k (by omega)
  obtain ⟨b1, b2⟩ := mlen_bd (k + 1)
  have e0 := days_eq y (k + 1)
  have E0 := Lib.hid e0; clear e0
  have l1 := leapB_I y
  have L1 := Lib.hid l1; clear l1
  have l2 := leapB_F y
  have L2 := Lib.hid l2; clear l2
  have a4 := wrapId (mlen 2 + 1) (by decide) (by decide)
  have A4 := Lib.hid a4; clear a4
  clear hg
  go_enter Tryd.func23, Tryd.ntmps23
  go_wp2_with (go_at_call 43; refine (leap_any _ _ (by omega) (by omega)).mono ?_; rintro e w' ⟨rfl, rfl⟩)
  all_goals (go_ret; refine ⟨ret_int ?_, rfl⟩; rw [E0.out])
  · have h : leapB y = true := by assumption
    have h2 : (k : Int) + 1 = 2 := by assumption
    rw [h2, if_pos rfl, L1.out.1 h]; exact A4.out
  · have h : leapB y = false := by assumption
    have h2 : (k : Int) + 1 = 2 := by assumption
    rw [h2, if_pos rfl, L2.out.1 h]; simp
  · have h2 : ¬ (k : Int) + 1 = 2 := by assumption
    rw [if_neg h2]; simp

set_option maxHeartbeats 400000 in
theorem isSecond_any (n : Int) (w : World) :
    Calls Tryd.prog 21 #[.int .i64 n] w fun e w' => e = .returned (.bool (decide (0 ≤ n ∧ n ≤ 253402300799))) ∧ w = w' := by
  go_enter Tryd.func21, Tryd.ntmps21
  go_wp2
  all_goals (go_ret; refine ⟨ret_bool ?_, rfl⟩)
  · have h : 0 ≤ n := by assumption
    simp [h]
  · have h : n < 0 := by assumption
    simp; omega

set_option maxHeartbeats 400000 in
theorem civil_no (s : Int) (w : World) (eA : Value) (hE : w.cell? ⟨0, 0, none⟩ = some eA) (h : ¬ (0 ≤ s ∧ s ≤ 253402300799)) :
    Calls Tryd.prog 8 #[.int .i64 s] w fun e w' => e = .returned (.tuple #[Dt.zero.v, eA]) ∧ Below w.heap.size w w' := by
  have hd : decide (0 ≤ s ∧ s ≤ 253402300799) = false := by simpa using h
  have lt : 0 < w.heap.size := World.block_lt_of_cell? w _ hE
  go_enter Tryd.func8, Tryd.ntmps8
  go_wp2_with (go_at_call 21; refine (isSecond_any _ _).mono ?_; rintro e w' ⟨rfl, rfl⟩)
  go_region
  all_goals (go_wp2; exact bodyPost_ret (v := .tuple #[Dt.zero.v, eA]) (by simp [results, Tryd.results8, go_sem]; rfl) rfl ⟨rfl, by repeat (first | exact Below.refl _ _ | refine Below.drew ?_ | refine Below.alloc ?_ (by simp) _ | refine Below.setCell ?_ (by simp) _)⟩)

def dateCells (y m d h mi s wd : Int) : Obj := .cells #[.int .i64 y, .int .i64 m, .int .i64 d, .int .i64 h, .int .i64 mi, .int .i64 s, .int .i64 wd] 24

set_option maxHeartbeats 1000000 in
theorem civil_yes (s : Int) (w : World) (hg : MDays 11 w) (h0 : 0 ≤ s) (h1 : s ≤ 253402300799) :
    Calls Tryd.prog 8 #[.int .i64 s] w fun e w' => ∃ D : Dt, D.fits s ∧ e = .returned (.tuple #[D.v, .nilIface]) ∧ Below w.heap.size w w' := by
  have hd : decide (0 ≤ s ∧ s ≤ 253402300799) = true := by simp; omega
  have lt : 11 < w.heap.size := World.block_lt_of_cell? w _ (hg 0 (by omega))
  have gs := ahead_guess (s / 86400 / 366) (by omega)
  have HG := Lib.hid hg; clear hg
  go_enter Tryd.func8, Tryd.ntmps8
  go_wp2_with (go_at_call 21; refine (isSecond_any _ _).mono ?_; rintro e w' ⟨rfl, rfl⟩)
  simp only [show s % 86400 % 60 = s % 60 from by omega]
  generalize hm' : s % 86400 / 60 % 60 = mi
  generalize hh' : s % 86400 / 3600 = h
  generalize hs' : s % 60 = sc
  generalize hwd' : (s / 86400 + 4) % 7 = wd
  have n0 : 0 ≤ s / 86400 := by omega
  have n1 : s / 86400 ≤ 2932896 := by omega
  have FT : ∀ y m d, IsDay (s / 86400) y m d → Dt.fits ⟨y, m, d, h, mi, sc, wd⟩ s := fun y m d hd => ⟨hd, hh'.symm, hm'.symm, hs'.symm, hwd'.symm⟩
  have HFT := Lib.hid FT
  clear FT hm' hh' hs' hwd' hd
  generalize hn : s / 86400 = n at *
  clear hn
  go_loopg [] (9999 - (1970 + n / 366)).toNat (fun k wr => ∃ y : Int, 1970 ≤ y ∧ y ≤ 9999 ∧ aheadI y ≤ n ∧ (9999 - y).toNat ≤ k ∧ wr = (w.alloc (.cells #[.int .i64 0, .int .i64 0, .int .i64 0, .int .i64 0, .int .i64 0, .int .i64 0, .int .i64 0] 24)).alloc (.cells #[.int .i64 y, .int .i64 1, .int .i64 0, .int .i64 h, .int .i64 mi, .int .i64 sc, .int .i64 wd] 24))
  case atStart => exact ⟨1970 + n / 366, by omega, by omega, by omega, by omega, rfl⟩
  case round =>
    obtain ⟨y, y0, y1, ya, hk, rfl⟩ := hrel
    clear gs
    by_cases hc : aheadI (y + 1) ≤ n
    · have y2 : y + 1 ≤ 9999 := by
        by_cases e : y = 9999
        · subst e; have := ahead_top; simp at hc; omega
        · omega
      go_wp2_with (go_at_call 22; refine (ahead_any _ _ (by omega) (by omega)).mono ?_; rintro e w' ⟨rfl, rfl⟩)
      go_roundg ((9999 - (y + 1)).toNat)
      case measure => omega
      case rel => exact ⟨y + 1, by omega, by omega, by omega, by omega, rfl⟩
    · have al := ahead_lo y y0
      go_wp2_with (go_at_call 22; refine (ahead_any _ _ (by omega) (by omega)).mono ?_; rintro e w' ⟨rfl, rfl⟩)
      go_loopg [4] 12 (fun k v wr => ∃ m q : Int, 1 ≤ m ∧ m ≤ 12 ∧ v = .int .i64 q ∧ q = n - aheadI y - cumI y m ∧ 0 ≤ q ∧ (12 - m).toNat ≤ k ∧ wr = (w.alloc (.cells #[.int .i64 0, .int .i64 0, .int .i64 0, .int .i64 0, .int .i64 0, .int .i64 0, .int .i64 0] 24)).alloc (.cells #[.int .i64 y, .int .i64 m, .int .i64 0, .int .i64 h, .int .i64 mi, .int .i64 sc, .int .i64 wd] 24))
      case atStart => exact ⟨1, n - aheadI y, by omega, by omega, rfl, by rw [cum_1]; omega, by omega, by omega, rfl⟩
      case round =>
        obtain ⟨m, q, m0, m1, rfl, hq, q0, hk2, rfl⟩ := hrel
        have HQ := Lib.hid hq
        have db := days_bd y m
        have hcs := cum_succ y m m0 m1
        have hq1 : q ≤ 2932896 := by have := cum_bd y m m0 (by omega); omega
        have HCS := Lib.hid hcs
        clear hq hcs
        have mdw : ∀ wx : World, Below w.heap.size w wx → MDays 11 wx := fun wx hb k hk => (hb.cell (p := ⟨11, k, none⟩) lt).trans (HG.out k hk)
        have HM := Lib.hid mdw
        clear mdw
        have h12 : daysI y m ≤ q → m + 1 ≤ 12 := by
          intro hd
          by_cases e : m = 12
          · subst e
            have a1 := HQ.out; have a2 := HCS.out; have a3 := cum_13 y; have a4 : cumI y (12 + 1) = cumI y 13 := rfl
            have a5 := ahead_succ y
            omega
          · omega
        have H12 := Lib.hid h12
        clear h12
        by_cases hd : daysI y m ≤ q
        · have h12 := H12.out hd
          go_wp2_with (go_at_call 23; refine (days_any _ _ _ (HM.out _ (by repeat (first | exact Below.refl _ _ | refine Below.alloc ?_ (by simp) _))) (by omega) (by omega) (by omega) (by omega)).mono ?_; rintro e w' ⟨rfl, rfl⟩)
          go_roundg (11 - m).toNat
          case measure => omega
          case rel => exact ⟨m + 1, _, by omega, by omega, rfl, by rw [HCS.out, HQ.out]; omega, by omega, by omega, rfl⟩
        · go_wp2_with (go_at_call 23; refine (days_any _ _ _ (HM.out _ (by repeat (first | exact Below.refl _ _ | refine Below.alloc ?_ (by simp) _))) (by omega) (by omega) (by omega) (by omega)).mono ?_; rintro e w' ⟨rfl, rfl⟩)
          refine bodyPost_ret (v := .tuple #[(⟨y, m, q + 1, h, mi, sc, wd⟩ : Dt).v, .nilIface]) (by simp [results, Tryd.results8, go_sem]; rfl) rfl ⟨_, HFT.out y m (q + 1) ⟨y0, y1, m0, m1, by omega, by omega, by have := HQ.out; omega⟩, rfl, ?_⟩
          repeat (first | exact Below.refl _ _ | refine Below.drew ?_ | refine Below.alloc ?_ (by simp) _ | refine Below.setCell ?_ (by simp) _)

end Go.Proofs.YtmejjhklknhniaaDoor
