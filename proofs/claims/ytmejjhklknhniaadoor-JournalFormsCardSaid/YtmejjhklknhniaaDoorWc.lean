import Derived.Test.YtmejjhklknhniaaDoorWb
namespace Go.Proofs.YtmejjhklknhniaaDoor
open Go Go.RowKit

def secV (D : Dt) (eA : Value) : Value := if D.wd = (D.day + 4) % 7 then .tuple #[.int .i64 D.sec, .nilIface] else .tuple #[.int .i64 0, eA]

set_option maxHeartbeats 2000000 in
theorem seconds_day (D : Dt) (w : World) (eA : Value) (hE : w.cell? ⟨0, 0, none⟩ = some eA) (hg : MDays 11 w) (hd : D.ok) :
    Calls Tryd.prog 9 #[D.v] w fun e w' => e = .returned (secV D eA) ∧ Below w.heap.size w w' := by
  have lt : 0 < w.heap.size := World.block_lt_of_cell? w _ hE
  have HM : ∀ n : Nat, ∀ o, MDays 11 ((w.alloc o).drewN n) := fun n o => hg.below (below_drewN (Below.alloc (Below.refl _ _) (by simp) _) _)
  have HMM := Lib.hid HM
  clear HM
  have db := hd.day_bd
  obtain ⟨y, m, d, h, mi, s, wd⟩ := D
  obtain ⟨y0, y1, m0, m1, d0, d1, u0, u1, u2, u3, u4, u5⟩ := hd
  unfold Dt.v
  simp only [Dt.day] at *
  have al := ahead_lo y y0
  have ah := ahead_hi y (by omega)
  have HW : Hid (∀ a o, MDays 11 ((w.alloc o).drewN a)) := fun a o => hg.below (below_drewN (Below.alloc (Below.refl _ _) (by simp) _) _)
  have b0 : decide (y < 1970) = false := by (simp; omega)
  have b1 : decide (9999 < y) = false := by (simp; omega)
  have b2 : decide (m < 1) = false := by (simp; omega)
  have b3 : decide (12 < m) = false := by (simp; omega)
  have b4 : decide (d < 1) = false := by (simp; omega)
  have b5 : decide (daysI y m < d) = false := by (simp; omega)
  have t0 : decide (h < 0) = false := by (simp; omega)
  have t1 : decide (23 < h) = false := by (simp; omega)
  have t2 : decide (mi < 0) = false := by (simp; omega)
  have t3 : decide (59 < mi) = false := by (simp; omega)
  have t4 : decide (s < 0) = false := by (simp; omega)
  have t5 : decide (59 < s) = false := by (simp; omega)
  go_enter Tryd.func9, Tryd.ntmps9
  go_wp2_with fail
  go_quiet ((go_at_call 23; exact quiet_left (days_any _ _ _ (HMM.out _ _) (by omega) (by omega) (by omega) (by omega))))
  obtain ⟨n1, rfl⟩ : ∃ n1 : Nat, n1 = nq := ⟨_, rfl⟩
  go_wp2
  go_quiet (first | (go_at_call 22; exact quiet_add_left (ahead_any _ _ (by omega) (by omega))) | (go_at_call 22; exact quiet_left (ahead_any _ _ (by omega) (by omega))))
  go_wp2
  have dbm := days_bd y m
  simp only [wrapId (aheadI y + d) (by omega) (by omega), wrapId (aheadI y + d - 1) (by omega) (by omega)]
  have hcb := cum_bd y m m0 (by omega)
  rw [World.drewN_drewN]
  generalize n1 + nq = nn
  go_loopg [4, 5] 12 (fun k v4 v5 wr => ∃ j q : Int, 1 ≤ j ∧ j ≤ m ∧ v5 = .int .i64 j ∧ v4 = .int .i64 q ∧ q = aheadI y + d - 1 + cumI y j ∧ (12 - j).toNat ≤ k ∧
    wr = ((w.alloc (.cells #[.int .i64 y, .int .i64 m, .int .i64 d, .int .i64 h, .int .i64 mi, .int .i64 s, .int .i64 wd] 24)).drewN nn))
  case atStart => exact ⟨1, _, by omega, by omega, rfl, rfl, by rw [cum_1]; omega, by omega, rfl⟩
  case round =>
    obtain ⟨j, q, j0, j1, rfl, rfl, hq, hk, rfl⟩ := hrel
    have HQ := Lib.hid hq
    have cb := cum_bd y j j0 (by omega)
    have q0 : 0 ≤ q := by omega
    have q1 : q ≤ 2934000 := by omega
    have db := days_bd y j
    clear hq cb
    by_cases hj : j < m
    · have hcs := cum_succ y j j0 (by omega)
      have HCS := Lib.hid hcs
      clear hcs
      go_wp2_with (go_at_call 23; refine (days_any _ _ _ (HW.out _ _) (by omega) (by omega) (by omega) (by omega)).mono ?_; rintro e w' ⟨rfl, rfl⟩)
      go_roundg (11 - j).toNat
      case measure => omega
      case rel => exact ⟨j + 1, _, by omega, by omega, rfl, rfl, by rw [HCS.out, HQ.out]; omega, by omega, rfl⟩
    · obtain rfl : m = j := by omega
      by_cases hw : wd = (q + 4) % 7
      · have ht : (((q + 4) % 7 != wd) : Bool) = false := by simp [hw]
        have HW2 := Lib.hid hw
        clear hw
        go_wp2
        go_ret2
        refine ⟨?_, ?_⟩
        · have e := HQ.out
          have e2 := HW2.out
          unfold secV
          rw [if_pos (by simp only [Dt.day]; rw [e2]; congr 1; omega)]
          simp [Dt.sec, Dt.day]; omega
        · repeat (first | exact Below.refl _ _ | refine below_drewN ?_ _ | refine Below.alloc ?_ (by simp) _)
      · have ht : (((q + 4) % 7 != wd) : Bool) = true := by simp; omega
        have HW2 := Lib.hid hw
        clear hw
        go_wp2
        go_quiet (fail)
        go_wp2
        go_ret2
        refine ⟨?_, ?_⟩
        · have e := HQ.out
          have e2 := HW2.out
          unfold secV
          rw [if_neg (by simp only [Dt.day]; intro h; apply e2; rw [h]; congr 1; omega)]
          simp
        · repeat (first | exact Below.refl _ _ | refine below_drewN ?_ _ | refine Below.alloc ?_ (by simp) _)

/-- A date whose day and time are ones and whose weekday is right. -/
def Right (D : Dt) : Prop := D.ok ∧ D.wd = (D.day + 4) % 7

theorem seconds_yes (D : Dt) (w : World) (eA : Value) (hE : w.cell? ⟨0, 0, none⟩ = some eA) (hg : MDays 11 w) (h : Right D) :
    Calls Tryd.prog 9 #[D.v] w fun e w' => e = .returned (.tuple #[.int .i64 D.sec, .nilIface]) ∧ Below w.heap.size w w' :=
  (seconds_day D w eA hE hg h.1).mono fun e w' ⟨he, hb⟩ => ⟨by rw [he]; unfold secV; rw [if_pos h.2], hb⟩

theorem notRight {D : Dt} (h : ¬ Right D) : BadDay D ∨ (DayOk D ∧ BadTime D) ∨ (D.ok ∧ ¬ D.wd = (D.day + 4) % 7) := by
  by_cases hb : BadDay D
  · exact .inl hb
  have hd : DayOk D := by
    by_cases h0 : D.y < 1970
    · exact (hb (.a h0)).elim
    by_cases h1 : 9999 < D.y
    · exact (hb (.b h0 h1)).elim
    by_cases h2 : D.m < 1
    · exact (hb (.c h0 h1 h2)).elim
    by_cases h3 : 12 < D.m
    · exact (hb (.d h0 h1 h2 h3)).elim
    by_cases h4 : D.d < 1
    · exact (hb (.e h0 h1 h2 h3 h4)).elim
    by_cases h5 : daysI D.y D.m < D.d
    · exact (hb (.f h0 h1 h2 h3 h4 h5)).elim
    exact ⟨by omega, by omega, by omega, by omega, by omega, by omega⟩
  by_cases ht : BadTime D
  · exact .inr (.inl ⟨hd, ht⟩)
  have hok : D.ok := by
    by_cases h0 : D.h < 0
    · exact (ht (.a h0)).elim
    by_cases h1 : 23 < D.h
    · exact (ht (.b h0 h1)).elim
    by_cases h2 : D.mi < 0
    · exact (ht (.c h0 h1 h2)).elim
    by_cases h3 : 59 < D.mi
    · exact (ht (.d h0 h1 h2 h3)).elim
    by_cases h4 : D.s < 0
    · exact (ht (.e h0 h1 h2 h3 h4)).elim
    by_cases h5 : 59 < D.s
    · exact (ht (.f h0 h1 h2 h3 h4 h5)).elim
    exact ⟨hd.y0, hd.y1, hd.m0, hd.m1, hd.d0, hd.d1, by omega, by omega, by omega, by omega, by omega, by omega⟩
  exact .inr (.inr ⟨hok, fun hw => h ⟨hok, hw⟩⟩)

theorem seconds_no (D : Dt) (w : World) (eA : Value) (hE : w.cell? ⟨0, 0, none⟩ = some eA) (hg : MDays 11 w) (h : ¬ Right D) :
    Calls Tryd.prog 9 #[D.v] w fun e w' => e = .returned (.tuple #[.int .i64 0, eA]) ∧ Below w.heap.size w w' := by
  rcases notRight h with hb | ⟨hd, ht⟩ | ⟨hok, hw⟩
  · exact seconds_badday D w eA hE hg hb
  · exact seconds_badtime D w eA hE hg hd ht
  · exact (seconds_day D w eA hE hg hok).mono fun e w' ⟨he, hb⟩ => ⟨by rw [he]; unfold secV; rw [if_neg hw], hb⟩

end Go.Proofs.YtmejjhklknhniaaDoor
