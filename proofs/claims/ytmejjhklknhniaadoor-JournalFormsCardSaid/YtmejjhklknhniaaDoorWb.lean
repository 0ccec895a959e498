import Derived.Test.YtmejjhklknhniaaDoorWa
namespace Go.Proofs.YtmejjhklknhniaaDoor
open Go Go.RowKit

theorem MDays.below {g : Nat} {w w' : World} (h : MDays g w) (hb : Below w.heap.size w w') : MDays g w' :=
  fun k hk => (hb.cell (p := ⟨g, k, none⟩) (World.block_lt_of_cell? w ⟨g, k, none⟩ (h k hk))).trans (h k hk)

/-- The first three tests of Seconds say no. -/
inductive BadDay (D : Dt) : Prop where
  | a (h : D.y < 1970)
  | b (h0 : ¬ D.y < 1970) (h : 9999 < D.y)
  | c (h0 : ¬ D.y < 1970) (h1 : ¬ 9999 < D.y) (h : D.m < 1)
  | d (h0 : ¬ D.y < 1970) (h1 : ¬ 9999 < D.y) (h2 : ¬ D.m < 1) (h : 12 < D.m)
  | e (h0 : ¬ D.y < 1970) (h1 : ¬ 9999 < D.y) (h2 : ¬ D.m < 1) (h3 : ¬ 12 < D.m) (h : D.d < 1)
  | f (h0 : ¬ D.y < 1970) (h1 : ¬ 9999 < D.y) (h2 : ¬ D.m < 1) (h3 : ¬ 12 < D.m) (h4 : ¬ D.d < 1) (h : daysI D.y D.m < D.d)

set_option maxHeartbeats 1000000 in
theorem seconds_badday (D : Dt) (w : World) (eA : Value) (hE : w.cell? ⟨0, 0, none⟩ = some eA) (hg : MDays 11 w) (hb : BadDay D) :
    Calls Tryd.prog 9 #[D.v] w fun e w' => e = .returned (.tuple #[.int .i64 0, eA]) ∧ Below w.heap.size w w' := by
  have lt : 0 < w.heap.size := World.block_lt_of_cell? w _ hE
  have HM : ∀ n : Nat, ∀ o, MDays 11 ((w.alloc o).drewN n) := fun n o => hg.below (below_drewN (Below.alloc (Below.refl _ _) (by simp) _) _)
  have HMM := Lib.hid HM
  clear HM
  obtain ⟨y, m, d, h, mi, s, wd⟩ := D
  unfold Dt.v
  rcases hb with h0 | ⟨h0, h1⟩ | ⟨h0, h1, h2⟩ | ⟨h0, h1, h2, h3⟩ | ⟨h0, h1, h2, h3, h4⟩ | ⟨h0, h1, h2, h3, h4, h5⟩
  all_goals simp only at *
  all_goals
    (try have b : decide (y < 1970) = false := by (simp; omega))
    (try have b : decide (y < 1970) = true := by (simp; omega))
    (try have b : decide (9999 < y) = false := by (simp; omega))
    (try have b : decide (9999 < y) = true := by (simp; omega))
    (try have b : decide (m < 1) = false := by (simp; omega))
    (try have b : decide (m < 1) = true := by (simp; omega))
    (try have b : decide (12 < m) = false := by (simp; omega))
    (try have b : decide (12 < m) = true := by (simp; omega))
    (try have b : decide (d < 1) = false := by (simp; omega))
    (try have b : decide (d < 1) = true := by (simp; omega))
    (try have b : decide (daysI y m < d) = true := by (simp; omega))
    go_enter Tryd.func9, Tryd.ntmps9
    go_wp2_with fail
    go_quiet ((go_at_call 23; exact quiet_left (days_any _ _ _ (HMM.out _ _) (by omega) (by omega) (by omega) (by omega))))
    go_wp2
    go_quiet (fail)
    go_wp2
    go_ret2
    refine ⟨rfl, ?_⟩
    (repeat (first | exact Below.refl _ _ | refine below_drewN ?_ _ | refine Below.alloc ?_ (by simp) _))

/-- The tests on the day say yes. -/
structure DayOk (D : Dt) : Prop where
  y0 : 1970 ≤ D.y
  y1 : D.y ≤ 9999
  m0 : 1 ≤ D.m
  m1 : D.m ≤ 12
  d0 : 1 ≤ D.d
  d1 : D.d ≤ daysI D.y D.m

/-- One of the tests on the time says no. -/
inductive BadTime (D : Dt) : Prop where
  | a (h : D.h < 0)
  | b (h0 : ¬ D.h < 0) (h : 23 < D.h)
  | c (h0 : ¬ D.h < 0) (h1 : ¬ 23 < D.h) (h : D.mi < 0)
  | d (h0 : ¬ D.h < 0) (h1 : ¬ 23 < D.h) (h2 : ¬ D.mi < 0) (h : 59 < D.mi)
  | e (h0 : ¬ D.h < 0) (h1 : ¬ 23 < D.h) (h2 : ¬ D.mi < 0) (h3 : ¬ 59 < D.mi) (h : D.s < 0)
  | f (h0 : ¬ D.h < 0) (h1 : ¬ 23 < D.h) (h2 : ¬ D.mi < 0) (h3 : ¬ 59 < D.mi) (h4 : ¬ D.s < 0) (h : 59 < D.s)

set_option maxHeartbeats 2000000 in
theorem seconds_badtime (D : Dt) (w : World) (eA : Value) (hE : w.cell? ⟨0, 0, none⟩ = some eA) (hg : MDays 11 w) (hd : DayOk D) (hb : BadTime D) :
    Calls Tryd.prog 9 #[D.v] w fun e w' => e = .returned (.tuple #[.int .i64 0, eA]) ∧ Below w.heap.size w w' := by
  have lt : 0 < w.heap.size := World.block_lt_of_cell? w _ hE
  have HM : ∀ n : Nat, ∀ o, MDays 11 ((w.alloc o).drewN n) := fun n o => hg.below (below_drewN (Below.alloc (Below.refl _ _) (by simp) _) _)
  have HMM := Lib.hid HM
  clear HM
  obtain ⟨y, m, d, h, mi, s, wd⟩ := D
  obtain ⟨y0, y1, m0, m1, d0, d1⟩ := hd
  unfold Dt.v
  rcases hb with h0 | ⟨h0, h1⟩ | ⟨h0, h1, h2⟩ | ⟨h0, h1, h2, h3⟩ | ⟨h0, h1, h2, h3, h4⟩ | ⟨h0, h1, h2, h3, h4, h5⟩
  all_goals simp only at *
  all_goals
    have b0 : decide (y < 1970) = false := by (simp; omega)
    have b1 : decide (9999 < y) = false := by (simp; omega)
    have b2 : decide (m < 1) = false := by (simp; omega)
    have b3 : decide (12 < m) = false := by (simp; omega)
    have b4 : decide (d < 1) = false := by (simp; omega)
    have b5 : decide (daysI y m < d) = false := by (simp; omega)
    (try have t0 : decide (h < 0) = false := by (simp; omega))
    (try have t0 : decide (h < 0) = true := by (simp; omega))
    (try have t1 : decide (23 < h) = false := by (simp; omega))
    (try have t1 : decide (23 < h) = true := by (simp; omega))
    (try have t2 : decide (mi < 0) = false := by (simp; omega))
    (try have t2 : decide (mi < 0) = true := by (simp; omega))
    (try have t3 : decide (59 < mi) = false := by (simp; omega))
    (try have t3 : decide (59 < mi) = true := by (simp; omega))
    (try have t4 : decide (s < 0) = false := by (simp; omega))
    (try have t4 : decide (s < 0) = true := by (simp; omega))
    (try have t5 : decide (59 < s) = false := by (simp; omega))
    (try have t5 : decide (59 < s) = true := by (simp; omega))
    go_enter Tryd.func9, Tryd.ntmps9
    go_wp2_with fail
    go_quiet ((go_at_call 23; exact quiet_left (days_any _ _ _ (HMM.out _ _) (by omega) (by omega) (by omega) (by omega))))
    go_wp2
    go_quiet (fail)
    go_wp2
    go_ret2
    refine ⟨rfl, ?_⟩
    (repeat (first | exact Below.refl _ _ | refine below_drewN ?_ _ | refine Below.alloc ?_ (by simp) _))

end Go.Proofs.YtmejjhklknhniaaDoor
