import Derived.Test.YtmejjhklknhniaaDoorRa
import Derived.Test.YtmejjhklknhniaaDoorWc
namespace Go.Proofs.YtmejjhklknhniaaDoor
open Go Go.RowKit

set_option maxHeartbeats 400000 in
theorem start_any (y : Int) (w : World) (h0 : 1970 ≤ y) (h1 : y ≤ 10000) :
    Calls Tryd.prog 31 #[.int .i64 y] w fun e w' => e = .returned (.int .i64 (aheadI y)) ∧ w = w' := by
  go_enter Tryd.func31, Tryd.ntmps31
  go_wp2
  go_loopg [3, 4] 8100 (fun k v3 v4 wr => ∃ j n : Int, 1970 ≤ j ∧ j ≤ y ∧ v4 = .int .i64 j ∧ v3 = .int .i64 n ∧ n = aheadI j ∧ (10000 - j).toNat < k ∧ wr = w)
  case atStart => exact ⟨1970, 0, by omega, by omega, rfl, rfl, rfl, by omega, rfl⟩
  case round =>
    obtain ⟨j, n, j0, j1, rfl, rfl, hn, hk, rfl⟩ := hrel
    have al := ahead_lo j j0
    have ah := ahead_hi j (by omega)
    have l01 := leapI_01 j
    have HAS := Lib.hid (ahead_succ j)
    have n0 : 0 ≤ n := by omega
    have n1 : n ≤ 2932897 := by omega
    have HN := Lib.hid hn
    clear hn
    by_cases hj : j < y
    · go_wp2_with (go_at_call 26; refine (daysOf_any _ _ (by omega) (by omega)).mono ?_; rintro e w' ⟨rfl, rfl⟩)
      go_roundg (gk - 1)
      case measure => omega
      case rel => exact ⟨j + 1, _, by omega, by omega, rfl, rfl, by rw [HAS.out, HN.out]; omega, by omega, rfl⟩
    · obtain rfl : y = j := by omega
      go_wp2_with fail
      go_ret
      exact ⟨ret_int HN.out, rfl⟩

set_option maxHeartbeats 2000000 in
theorem refSeconds_badday (D : Dt) (w : World) (hg : MDays 19 w) (hb : BadDay D) :
    Calls Tryd.prog 15 #[D.v] w fun e w' => e = .returned (.tuple #[.int .i64 0, .int .i64 1]) ∧ Below w.heap.size w w' := by
  have lt : 19 < w.heap.size := World.block_lt_of_cell? w _ (hg 0 (by omega))
  have HMM : Hid (∀ n : Nat, ∀ o, MDays 19 ((w.alloc o).drewN n)) := fun n o => hg.below (below_drewN (Below.alloc (Below.refl _ _) (by simp) _) _)
  clear hg
  obtain ⟨y, m, d, h, mi, s, wd⟩ := D
  unfold Dt.v
  rcases hb with h0 | ⟨h0, h1⟩ | ⟨h0, h1, h2⟩ | ⟨h0, h1, h2, h3⟩ | ⟨h0, h1, h2, h3, h4⟩ | ⟨h0, h1, h2, h3, h4, h5⟩
  all_goals simp only at *
  all_goals
    (try have b : decide (y < 1970) = false := by (simp; omega))
    (try have b : decide (y < 1970) = true := by (simp; omega))
    (try have b : decide (9999 < y) = false := by (simp; omega))
    (try have b : decide (9999 < y) = true := by (simp; omega))
    (try have b : decide (m < 1) = false := by (simp; omega))
    (try have b : decide (m < 1) = true := by (simp; omega))
    (try have b : decide (12 < m) = false := by (simp; omega))
    (try have b : decide (12 < m) = true := by (simp; omega))
    (try have b : decide (d < 1) = false := by (simp; omega))
    (try have b : decide (d < 1) = true := by (simp; omega))
    (try have b : decide (daysI y m < d) = true := by (simp; omega))
    go_enter Tryd.func15, Tryd.ntmps15
    go_wp2_with fail
    go_quiet ((go_at_call 27; exact quiet_left (daysIn_any _ _ _ (HMM.out _ _) (by omega) (by omega) (by omega) (by omega))))
    go_wp2
    go_ret2
    refine ⟨rfl, ?_⟩
    (repeat (first | exact Below.refl _ _ | refine below_drewN ?_ _ | refine Below.alloc ?_ (by simp) _))

set_option maxHeartbeats 2000000 in
theorem refSeconds_badtime (D : Dt) (w : World) (hg : MDays 19 w) (hd : DayOk D) (hb : BadTime D) :
    Calls Tryd.prog 15 #[D.v] w fun e w' => e = .returned (.tuple #[.int .i64 0, .int .i64 1]) ∧ Below w.heap.size w w' := by
  have lt : 19 < w.heap.size := World.block_lt_of_cell? w _ (hg 0 (by omega))
  have HMM : Hid (∀ n : Nat, ∀ o, MDays 19 ((w.alloc o).drewN n)) := fun n o => hg.below (below_drewN (Below.alloc (Below.refl _ _) (by simp) _) _)
  clear hg
  obtain ⟨y, m, d, h, mi, s, wd⟩ := D
  obtain ⟨y0, y1, m0, m1, d0, d1⟩ := hd
  unfold Dt.v
  rcases hb with h0 | ⟨h0, h1⟩ | ⟨h0, h1, h2⟩ | ⟨h0, h1, h2, h3⟩ | ⟨h0, h1, h2, h3, h4⟩ | ⟨h0, h1, h2, h3, h4, h5⟩
  all_goals simp only at *
  all_goals
    have b0 : decide (y < 1970) = false := by (simp; omega)
    have b1 : decide (9999 < y) = false := by (simp; omega)
    have b2 : decide (m < 1) = false := by (simp; omega)
    have b3 : decide (12 < m) = false := by (simp; omega)
    have b4 : decide (d < 1) = false := by (simp; omega)
    have b5 : decide (daysI y m < d) = false := by (simp; omega)
    (try have t0 : decide (h < 0) = false := by (simp; omega))
    (try have t0 : decide (h < 0) = true := by (simp; omega))
    (try have t1 : decide (23 < h) = false := by (simp; omega))
    (try have t1 : decide (23 < h) = true := by (simp; omega))
    (try have t2 : decide (mi < 0) = false := by (simp; omega))
    (try have t2 : decide (mi < 0) = true := by (simp; omega))
    (try have t3 : decide (59 < mi) = false := by (simp; omega))
    (try have t3 : decide (59 < mi) = true := by (simp; omega))
    (try have t4 : decide (s < 0) = false := by (simp; omega))
    (try have t4 : decide (s < 0) = true := by (simp; omega))
    (try have t5 : decide (59 < s) = false := by (simp; omega))
    (try have t5 : decide (59 < s) = true := by (simp; omega))
    go_enter Tryd.func15, Tryd.ntmps15
    go_wp2_with fail
    go_quiet ((go_at_call 27; exact quiet_left (daysIn_any _ _ _ (HMM.out _ _) (by omega) (by omega) (by omega) (by omega))))
    go_wp2
    go_ret2
    refine ⟨rfl, ?_⟩
    (repeat (first | exact Below.refl _ _ | refine below_drewN ?_ _ | refine Below.alloc ?_ (by simp) _))

def refSecV (D : Dt) : Value := if D.wd = (D.day + 4) % 7 then .tuple #[.int .i64 D.sec, .int .i64 0] else .tuple #[.int .i64 0, .int .i64 1]

set_option maxHeartbeats 2000000 in
theorem refSeconds_day (D : Dt) (w : World) (hg : MDays 19 w) (hd : D.ok) :
    Calls Tryd.prog 15 #[D.v] w fun e w' => e = .returned (refSecV D) ∧ Below w.heap.size w w' := by
  have lt : 19 < w.heap.size := World.block_lt_of_cell? w _ (hg 0 (by omega))
  have HMM : Hid (∀ n : Nat, ∀ o, MDays 19 ((w.alloc o).drewN n)) := fun n o => hg.below (below_drewN (Below.alloc (Below.refl _ _) (by simp) _) _)
  have db := hd.day_bd
  obtain ⟨y, m, d, h, mi, s, wd⟩ := D
  obtain ⟨y0, y1, m0, m1, d0, d1, u0, u1, u2, u3, u4, u5⟩ := hd
  unfold Dt.v
  simp only [Dt.day] at *
  have al := ahead_lo y y0
  have ah := ahead_hi y (by omega)
  have dbm := days_bd y m
  clear hg
  have b0 : decide (y < 1970) = false := by (simp; omega)
  have b1 : decide (9999 < y) = false := by (simp; omega)
  have b2 : decide (m < 1) = false := by (simp; omega)
  have b3 : decide (12 < m) = false := by (simp; omega)
  have b4 : decide (d < 1) = false := by (simp; omega)
  have b5 : decide (daysI y m < d) = false := by (simp; omega)
  have t0 : decide (h < 0) = false := by (simp; omega)
  have t1 : decide (23 < h) = false := by (simp; omega)
  have t2 : decide (mi < 0) = false := by (simp; omega)
  have t3 : decide (59 < mi) = false := by (simp; omega)
  have t4 : decide (s < 0) = false := by (simp; omega)
  have t5 : decide (59 < s) = false := by (simp; omega)
  go_enter Tryd.func15, Tryd.ntmps15
  go_wp2_with fail
  go_quiet ((go_at_call 27; exact quiet_left (daysIn_any _ _ _ (HMM.out _ _) (by omega) (by omega) (by omega) (by omega))))
  go_wp2_with (go_at_call 31; refine (start_any _ _ (by omega) (by omega)).mono ?_; rintro e w' ⟨rfl, rfl⟩)
  have hcb := cum_bd y m m0 (by omega)
  obtain ⟨nn, rfl⟩ : ∃ nn : Nat, nn = nq := ⟨_, rfl⟩
  go_loopg [4, 5] 13 (fun k v4 v5 wr => ∃ j q : Int, 1 ≤ j ∧ j ≤ m ∧ v5 = .int .i64 j ∧ v4 = .int .i64 q ∧ q = aheadI y + cumI y j ∧ (12 - j).toNat < k ∧
    wr = (w.alloc (.cells #[.int .i64 y, .int .i64 m, .int .i64 d, .int .i64 h, .int .i64 mi, .int .i64 s, .int .i64 wd] 24)).drewN nn)
  case atStart => exact ⟨1, _, by omega, by omega, rfl, rfl, by rw [cum_1]; omega, by omega, rfl⟩
  case round =>
    obtain ⟨j, q, j0, j1, rfl, rfl, hq, hk, rfl⟩ := hrel
    have HQ := Lib.hid hq
    have cb := cum_bd y j j0 (by omega)
    have q0 : 0 ≤ q := by omega
    have q1 : q ≤ 2934000 := by omega
    have dbj := days_bd y j
    clear hq cb
    by_cases hj : j < m
    · have HCS := Lib.hid (cum_succ y j j0 (by omega))
      go_wp2_with (go_at_call 27; refine (daysIn_any _ _ _ (HMM.out _ _) (by omega) (by omega) (by omega) (by omega)).mono ?_; rintro e w' ⟨rfl, rfl⟩)
      go_roundg (gk - 1)
      case measure => omega
      case rel => exact ⟨j + 1, _, by omega, by omega, rfl, rfl, by rw [HCS.out, HQ.out]; omega, by omega, rfl⟩
    · obtain rfl : m = j := by omega
      by_cases hw : wd = (q + d - 1 + 4) % 7
      · have ht : ((wd != (q + d - 1 + 4) % 7) : Bool) = false := by simp [hw]
        have HW2 := Lib.hid hw
        clear hw
        go_wp2
        go_ret2
        refine ⟨?_, ?_⟩
        · have e := HQ.out
          have e2 := HW2.out
          unfold refSecV
          rw [if_pos (by simp only [Dt.day]; rw [e2]; congr 1; omega)]
          simp [Dt.sec, Dt.day]; omega
        · repeat (first | exact Below.refl _ _ | refine below_drewN ?_ _ | refine Below.alloc ?_ (by simp) _)
      · have ht : ((wd != (q + d - 1 + 4) % 7) : Bool) = true := by simp; omega
        have HW2 := Lib.hid hw
        clear hw
        go_wp2
        go_ret2
        refine ⟨?_, ?_⟩
        · have e := HQ.out
          have e2 := HW2.out
          unfold refSecV
          rw [if_neg (by simp only [Dt.day]; intro h; apply e2; rw [h]; congr 1; omega)]
          simp
        · repeat (first | exact Below.refl _ _ | refine below_drewN ?_ _ | refine Below.alloc ?_ (by simp) _)

theorem refSeconds_yes (D : Dt) (w : World) (hg : MDays 19 w) (h : Right D) :
    Calls Tryd.prog 15 #[D.v] w fun e w' => e = .returned (.tuple #[.int .i64 D.sec, .int .i64 0]) ∧ Below w.heap.size w w' :=
  (refSeconds_day D w hg h.1).mono fun e w' ⟨he, hb⟩ => ⟨by rw [he]; unfold refSecV; rw [if_pos h.2], hb⟩

theorem refSeconds_no (D : Dt) (w : World) (hg : MDays 19 w) (h : ¬ Right D) :
    Calls Tryd.prog 15 #[D.v] w fun e w' => e = .returned (.tuple #[.int .i64 0, .int .i64 1]) ∧ Below w.heap.size w w' := by
  rcases notRight h with hb | ⟨hd, ht⟩ | ⟨hok, hw⟩
  · exact refSeconds_badday D w hg hb
  · exact refSeconds_badtime D w hg hd ht
  · exact (refSeconds_day D w hg hok).mono fun e w' ⟨he, hb⟩ => ⟨by rw [he]; unfold refSecV; rw [if_neg hw], hb⟩

end Go.Proofs.YtmejjhklknhniaaDoor
