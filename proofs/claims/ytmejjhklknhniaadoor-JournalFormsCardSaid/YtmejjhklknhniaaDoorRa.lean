import Derived.Test.YtmejjhklknhniaaDoorWb
import Derived.Test.YtmejjhklknhniaaDoorStrs
namespace Go.Proofs.YtmejjhklknhniaaDoor
open Go Go.RowKit

set_option maxHeartbeats 400000 in
theorem refLeap_any (y : Int) (w : World) (h0 : 0 ≤ y) (h1 : y ≤ 100000) :
    Calls Tryd.prog 45 #[.int .i64 y] w fun e w' => e = .returned (.bool (leapB y)) ∧ w = w' := by
  go_enter Tryd.func45, Tryd.ntmps45
  go_wp2
  all_goals (go_ret; refine ⟨ret_bool ?_, rfl⟩; rw [Bool.eq_iff_iff]; simp [leapB] <;> omega)

set_option maxHeartbeats 400000 in
theorem daysOf_any (y : Int) (w : World) (h0 : 0 ≤ y) (h1 : y ≤ 100000) :
    Calls Tryd.prog 26 #[.int .i64 y] w fun e w' => e = .returned (.int .i64 (365 + leapI y)) ∧ w = w' := by
  have L1 := Lib.hid (leapB_I y)
  have L2 := Lib.hid (leapB_F y)
  go_enter Tryd.func26, Tryd.ntmps26
  go_wp2_with (go_at_call 45; refine (refLeap_any _ _ (by omega) (by omega)).mono ?_; rintro e w' ⟨rfl, rfl⟩)
  · have h : leapB y = true := by assumption
    go_ret; exact ⟨ret_int (by rw [L1.out.1 h]; rfl), rfl⟩
  · have h : leapB y = false := by assumption
    go_ret; exact ⟨ret_int (by rw [L2.out.1 h]; rfl), rfl⟩

set_option maxHeartbeats 400000 in
theorem daysIn_any (y m : Int) (w : World) (hg : MDays 19 w) (h0 : 1 ≤ y) (h1 : y ≤ 100000) (m0 : 1 ≤ m) (m1 : m ≤ 12) :
    Calls Tryd.prog 27 #[.int .i64 y, .int .i64 m] w fun e w' => e = .returned (.int .i64 (daysI y m)) ∧ w = w' := by
  obtain ⟨k, rfl⟩ : ∃ k : Nat, m = k + 1 := ⟨(m - 1).toNat, by omega⟩
  have hc := hg k (by omega)
  have E0 := Lib.hid (days_eq y (k + 1))
  have L1 := Lib.hid (leapB_I y)
  have L2 := Lib.hid (leapB_F y)
  clear hg
  by_cases hk : k = 1
  · subst hk
    go_enter Tryd.func27, Tryd.ntmps27
    go_wp2_with (go_at_call 45; refine (refLeap_any _ _ (by omega) (by omega)).mono ?_; rintro e w' ⟨rfl, rfl⟩)
    · have h : leapB y = true := by assumption
      go_ret; refine ⟨ret_int ?_, rfl⟩
      rw [E0.out, L1.out.1 h]; rfl
    · have h : leapB y = false := by assumption
      go_ret; refine ⟨ret_int ?_, rfl⟩
      rw [E0.out, L2.out.1 h]; rfl
  · have hb : (((k : Int) + 1 == 2) : Bool) = false := by simp; omega
    go_enter Tryd.func27, Tryd.ntmps27
    go_wp2_with (go_at_call 45; refine (refLeap_any _ _ (by omega) (by omega)).mono ?_; rintro e w' ⟨rfl, rfl⟩)
    all_goals (go_ret; refine ⟨ret_int ?_, rfl⟩; rw [E0.out, if_neg (by omega)]; simp)

set_option maxHeartbeats 1000000 in
theorem refCivil_no (s : Int) (w : World) (h : ¬ (0 ≤ s ∧ s ≤ 253402300799)) :
    Calls Tryd.prog 12 #[.int .i64 s] w fun e w' => e = .returned (.tuple #[Dt.zero.v, .int .i64 1]) ∧ Below w.heap.size w w' := by
  have hq : s < 0 ∨ ¬ s < 0 ∧ 253402300799 < s := by omega
  rcases hq with h0 | ⟨h0, h1⟩
  all_goals
    clear h
    go_enter Tryd.func12, Tryd.ntmps12
    go_wp2
    exact bodyPost_ret (v := .tuple #[Dt.zero.v, .int .i64 1]) (by simp [results, Tryd.results12, go_sem]; rfl) rfl ⟨rfl, by repeat (first | exact Below.refl _ _ | refine Below.alloc ?_ (by simp) _)⟩

set_option maxHeartbeats 2000000 in
theorem refCivil_yes (s : Int) (w : World) (hg : MDays 19 w) (h0 : 0 ≤ s) (h1 : s ≤ 253402300799) :
    Calls Tryd.prog 12 #[.int .i64 s] w fun e w' => ∃ D : Dt, D.fits s ∧ e = .returned (.tuple #[D.v, .int .i64 0]) ∧ Below w.heap.size w w' := by
  have lt : 19 < w.heap.size := World.block_lt_of_cell? w _ (hg 0 (by omega))
  have HG := Lib.hid hg; clear hg
  go_enter Tryd.func12, Tryd.ntmps12
  go_wp2
  have n0 : 0 ≤ s / 86400 := by omega
  have n1 : s / 86400 ≤ 2932896 := by omega
  generalize hwd' : (s / 86400 + 4) % 7 = wd
  have FT : ∀ y m d, IsDay (s / 86400) y m d → Dt.fits ⟨y, m, d, s % 86400 / 3600, s % 86400 % 3600 / 60, s % 60, wd⟩ s := fun y m d hd => ⟨hd, rfl, by simp only; omega, rfl, hwd'.symm⟩
  have HFT := Lib.hid FT
  clear FT hwd'
  generalize hr : s % 86400 = r at *
  have r0 : 0 ≤ r := by omega
  have r1 : r < 86400 := by omega
  have hrs : r % 60 = s % 60 := by omega
  generalize hn : s / 86400 = n at *
  have HRS := Lib.hid hrs
  clear hn hr hrs
  go_loopg [4, 7] 8031 (fun k v4 v7 wr => ∃ y q : Int, 1970 ≤ y ∧ y ≤ 9999 ∧ v7 = .int .i64 (y - 1970) ∧ v4 = .int .i64 q ∧ q = n - aheadI y ∧ 0 ≤ q ∧ (9999 - y).toNat < k ∧
    wr = (w.alloc (.cells #[.int .i64 0, .int .i64 0, .int .i64 0, .int .i64 0, .int .i64 0, .int .i64 0, .int .i64 0] 24)).alloc (.cells #[.int .i64 y, .int .i64 1, .int .i64 0, .int .i64 0, .int .i64 0, .int .i64 0, .int .i64 wd] 24))
  case atStart => exact ⟨1970, n, by omega, by omega, rfl, rfl, by rw [ahead_1970]; omega, by omega, by omega, rfl⟩
  case round =>
    obtain ⟨y, q, y0, y1, rfl, rfl, hq, q0, hk, rfl⟩ := hrel
    have HQ := Lib.hid hq
    have asc := ahead_succ y
    have HAS := Lib.hid asc
    have l01 := leapI_01 y
    have al := ahead_lo y y0
    have q1 : q ≤ 2932896 := by omega
    by_cases hc : 365 + leapI y ≤ q
    · have y2 : y + 1 ≤ 9999 := by
        by_cases e : y = 9999
        · subst e; have e1 := ahead_top; have e2 : aheadI (9999 + 1) = aheadI 10000 := rfl; omega
        · omega
      clear hq asc
      go_wp2_with (go_at_call 26; refine (daysOf_any _ _ (by omega) (by omega)).mono ?_; rintro e w' ⟨rfl, rfl⟩)
      go_roundg (gk - 1)
      case measure => omega
      case rel => exact ⟨y + 1, _, by omega, by omega, by go_num, rfl, by rw [HAS.out, HQ.out]; omega, by omega, by omega, rfl⟩
    · clear asc hq
      have hlt : n < aheadI (y + 1) := by rw [HAS.out]; have := HQ.out; omega
      have HLT := Lib.hid hlt
      clear hlt
      by_cases hy : y - 1970 < 8030
      case neg => exact absurd hy (by omega)
      go_wp2_with (go_at_call 26; refine (daysOf_any _ _ (by omega) (by omega)).mono ?_; rintro e w' ⟨rfl, rfl⟩)
      go_loopg [4, 8] 13 (fun k v4 v8 wr => ∃ m q : Int, 1 ≤ m ∧ m ≤ 12 ∧ v8 = .int .i64 (m - 1) ∧ v4 = .int .i64 q ∧ q = n - aheadI y - cumI y m ∧ 0 ≤ q ∧ (12 - m).toNat < k ∧
        wr = (w.alloc (.cells #[.int .i64 0, .int .i64 0, .int .i64 0, .int .i64 0, .int .i64 0, .int .i64 0, .int .i64 0] 24)).alloc (.cells #[.int .i64 y, .int .i64 m, .int .i64 0, .int .i64 0, .int .i64 0, .int .i64 0, .int .i64 wd] 24))
      case atStart => exact ⟨1, q, by omega, by omega, rfl, rfl, by rw [cum_1, HQ.out]; omega, by omega, by omega, rfl⟩
      case round =>
        obtain ⟨m, q', m0, m1, rfl, rfl, hq2, q0', hk2, rfl⟩ := hrel
        have HQ2 := Lib.hid hq2
        have db := days_bd y m
        have hcs := cum_succ y m m0 m1
        have q2 : q' ≤ 2932896 := by have := cum_bd y m m0 (by omega); omega
        have HCS := Lib.hid hcs
        clear hq2 hcs
        have mdw : ∀ wx : World, Below w.heap.size w wx → MDays 19 wx := fun wx hb k hk => (hb.cell (p := ⟨19, k, none⟩) lt).trans (HG.out k hk)
        have HM := Lib.hid mdw
        clear mdw
        have h12 : daysI y m ≤ q' → m + 1 ≤ 12 := by
          intro hd
          by_cases e : m = 12
          · subst e
            have a1 := HQ2.out; have a2 := HCS.out; have a3 := cum_13 y; have a4 : cumI y (12 + 1) = cumI y 13 := rfl
            have a5 := HAS.out; have a6 := HLT.out
            omega
          · omega
        have H12 := Lib.hid h12
        clear h12
        have hm12 : m - 1 < 12 := by omega
        by_cases hd : daysI y m ≤ q'
        · have h12 := H12.out hd
          go_wp2_with (go_at_call 27; refine (daysIn_any _ _ _ (HM.out _ (by repeat (first | exact Below.refl _ _ | refine Below.alloc ?_ (by simp) _))) (by omega) (by omega) (by omega) (by omega)).mono ?_; rintro e w' ⟨rfl, rfl⟩)
          go_roundg (gk - 1)
          case measure => omega
          case rel => exact ⟨m + 1, _, by omega, by omega, by go_num, rfl, by rw [HCS.out, HQ2.out]; omega, by omega, by omega, rfl⟩
        · go_wp2_with (go_at_call 27; refine (daysIn_any _ _ _ (HM.out _ (by repeat (first | exact Below.refl _ _ | refine Below.alloc ?_ (by simp) _))) (by omega) (by omega) (by omega) (by omega)).mono ?_; rintro e w' ⟨rfl, rfl⟩)
          refine bodyPost_ret (v := .tuple #[(⟨y, m, q' + 1, r / 3600, r % 3600 / 60, r % 60, wd⟩ : Dt).v, .int .i64 0]) (by simp [results, Tryd.results12, go_sem]; rfl) rfl ⟨_, by rw [HRS.out]; exact HFT.out y m (q' + 1) ⟨y0, y1, m0, m1, by omega, by omega, by have := HQ2.out; omega⟩, rfl, ?_⟩
          repeat (first | exact Below.refl _ _ | refine Below.drew ?_ | refine Below.alloc ?_ (by simp) _ | refine Below.setCell ?_ (by simp) _)

end Go.Proofs.YtmejjhklknhniaaDoor
