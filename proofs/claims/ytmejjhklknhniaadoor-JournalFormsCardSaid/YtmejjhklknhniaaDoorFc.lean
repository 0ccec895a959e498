import Derived.Test.YtmejjhklknhniaaDoorFa
import Derived.Test.YtmejjhklknhniaaDoorPo
import Derived.Test.YtmejjhklknhniaaDoorWd
import Derived.Test.YtmejjhklknhniaaDoorRb
import Derived.BigQuiet
namespace Go.Proofs.YtmejjhklknhniaaDoor
open Go Go.RowKit

set_option maxHeartbeats 1000000 in
theorem dated_yes (D : Dt) (w : World) (hd : D.ok) (w0 : 0 ≤ D.wd) (w1 : D.wd ≤ 6) :
    Calls Tryd.prog 18 #[D.v] w fun e w' => e = .returned (.bool true) ∧ Below w.heap.size w w' := by
  have db := days_bd D.y D.m
  obtain ⟨y, m, d, h, mi, s, wd⟩ := D
  obtain ⟨y0, y1, m0, m1, d0, d1, u0, u1, u2, u3, u4, u5⟩ := hd
  simp only at *
  have a1 : decide (1970 ≤ y) = true := by simp; omega
  have a2 : decide (y ≤ 9999) = true := by simp; omega
  have a3 : decide (1 ≤ m) = true := by simp; omega
  have a4 : decide (m ≤ 12) = true := by simp; omega
  have a5 : decide (1 ≤ d) = true := by simp; omega
  have a6 : decide (d ≤ 31) = true := by simp; omega
  have a7 : decide (0 ≤ h) = true := by simp; omega
  have a8 : decide (h < 24) = true := by simp; omega
  have a9 : decide (0 ≤ mi) = true := by simp; omega
  have b1 : decide (mi < 60) = true := by simp; omega
  have b2 : decide (0 ≤ s) = true := by simp; omega
  have b3 : decide (s < 60) = true := by simp; omega
  have b4 : decide (0 ≤ wd) = true := by simp; omega
  have b5 : decide (wd < 7) = true := by simp; omega
  unfold Dt.v
  go_enter Tryd.func18, Tryd.ntmps18
  go_wp2_with fail
  go_ret
  exact ⟨rfl, (Below.refl _ _).alloc (Nat.le_refl _) _⟩

set_option maxHeartbeats 2000000 in
/-- The year of now for the form with two digits. -/
theorem near_any (D : Dt) (k : Int) (w : World) (y0 : 1970 ≤ D.y) (y1 : D.y ≤ 9999) :
    Calls Tryd.prog 20 #[D.v, .int .i64 k] w fun e w' => (∃ y, 1970 ≤ y ∧ y ≤ 9999 ∧ D.y - 50 ≤ y ∧ y ≤ D.y + 49 ∧ e = .returned (.int .i64 (aheadI y * 86400))) ∧ Below w.heap.size w w' := by
  obtain ⟨y, m, d, h, mi, s, wd⟩ := D
  simp only at y0 y1
  have t0 := Int.emod_nonneg k (b := 100) (by omega)
  have t1 := Int.emod_lt_of_pos k (b := 100) (by omega)
  have hp : Hid (∀ W : World, Calls Tryd.prog 7 #[.int .i64 k, .int .i64 100] W fun e w' => e = .returned (.int .i64 (k % 100)) ∧ W = w') := fun W => pick_any k 100 W (by omega) (by omega)
  generalize k % 100 = t at *
  have wr1 : IntKind.i64.wrap (y - 50) = y - 50 := IntWalk.i64_in _ (by omega)
  have wr2 : IntKind.i64.wrap (y - 50 + t) = y - 50 + t := IntWalk.i64_in _ (by omega)
  unfold Dt.v
  go_enter Tryd.func20, Tryd.ntmps20
  go_wp2_with fail
  go_quiet ((go_at_call 7; exact quiet_left (hp.out _)))
  have hc : (y - 50 + t < 1970) ∨ (¬ y - 50 + t < 1970 ∧ 9999 < y - 50 + t) ∨ (1970 ≤ y - 50 + t ∧ y - 50 + t ≤ 9999) := by omega
  clear wr1 wr2
  rcases hc with h1 | ⟨h1, h2⟩ | ⟨h1, h2⟩
  · go_wp2_with fail
    refine (start_any y _ y0 (by omega)).mono ?_
    rintro e w1 ⟨rfl, rfl⟩
    have l0 := ahead_lo y y0
    have l1 := ahead_hi y (by omega)
    generalize hA : aheadI y = A at l0 l1 ⊢
    have HA := Lib.hid hA; clear hA
    go_wp2_with fail
    go_ret
    exact ⟨⟨y, y0, y1, by omega, by omega, ret_int (by rw [HA.out])⟩, below_drewN ((Below.refl _ _).alloc (Nat.le_refl _) _) _⟩
  · have h3 : decide (y - 50 + t < 1970) = false := by simp; omega
    have h4 : decide (9999 < y - 50 + t) = true := by simp; omega
    go_wp2_with fail
    refine (start_any y _ y0 (by omega)).mono ?_
    rintro e w1 ⟨rfl, rfl⟩
    have l0 := ahead_lo y y0
    have l1 := ahead_hi y (by omega)
    generalize hA : aheadI y = A at l0 l1 ⊢
    have HA := Lib.hid hA; clear hA
    go_wp2_with fail
    go_ret
    exact ⟨⟨y, y0, y1, by omega, by omega, ret_int (by rw [HA.out])⟩, below_drewN ((Below.refl _ _).alloc (Nat.le_refl _) _) _⟩
  · have h3 : decide (y - 50 + t < 1970) = false := by simp; omega
    have h4 : decide (9999 < y - 50 + t) = false := by simp; omega
    go_wp2_with fail
    refine (start_any (y - 50 + t) _ h1 (by omega)).mono ?_
    rintro e w1 ⟨rfl, rfl⟩
    have l0 := ahead_lo (y - 50 + t) h1
    have l1 := ahead_hi (y - 50 + t) (by omega)
    generalize hA : aheadI (y - 50 + t) = A at l0 l1 ⊢
    have HA := Lib.hid hA; clear hA
    go_wp2_with fail
    go_ret
    exact ⟨⟨y - 50 + t, h1, h2, by omega, by omega, ret_int (by rw [HA.out])⟩, below_drewN ((Below.refl _ _).alloc (Nat.le_refl _) _) _⟩
end Go.Proofs.YtmejjhklknhniaaDoor
