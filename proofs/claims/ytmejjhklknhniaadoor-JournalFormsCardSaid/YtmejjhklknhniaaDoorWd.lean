import Derived.Test.YtmejjhklknhniaaDoorWc
import Derived.LaidEql
import Derived.Test.YtmejjhklknhniaaDoorExt
namespace Go.Proofs.YtmejjhklknhniaaDoor
open Go Go.RowKit

set_option maxHeartbeats 400000 in
theorem pick_any (k n : Int) (w : World) (n0 : 1 ≤ n) (n1 : n ≤ 4611686018427387904) :
    Calls Tryd.prog 7 #[.int .i64 k, .int .i64 n] w fun e w' => e = .returned (.int .i64 (k % n)) ∧ w = w' := by
  have hq : k.tmod n = k % n ∨ k.tmod n = k % n - n := by
    rcases Int.lt_or_le k 0 with h | h
    · have := Int.emod_nonneg k (b := n) (by omega)
      have := Int.emod_lt_of_pos k (b := n) (by omega)
      have h3 : k.tmod n = if 0 ≤ k ∨ n ∣ k then k % n else k % n - n := by
        rw [Int.tmod_eq_emod]; have : (n.natAbs : Int) = n := by omega
        split <;> simp_all
      rw [h3]; split <;> simp
    · exact .inl (Int.tmod_eq_emod_of_nonneg h)
  have hb0 := Int.emod_nonneg k (b := n) (by omega)
  have hb1 := Int.emod_lt_of_pos k (b := n) (by omega)
  have HQ := Lib.hid hq
  clear hq
  go_enter Tryd.func7, Tryd.ntmps7
  go_wp2
  · have h : k.tmod n < 0 := by assumption
    go_ret
    refine ⟨ret_int ?_, rfl⟩
    have e := HQ.out
    rw [wrapId _ (by omega) (by omega)]
    omega
  · have h : 0 ≤ k.tmod n := by assumption
    go_ret
    refine ⟨ret_int ?_, rfl⟩
    have e := HQ.out
    omega

set_option maxHeartbeats 400000 in
theorem lawleap_any (y : Int) (w : World) (h0 : 0 ≤ y) (h1 : y ≤ 100000) :
    Calls Tryd.prog 44 #[.int .i64 y] w fun e w' => e = .returned (.bool (leapB y)) ∧ w = w' := by
  go_enter Tryd.func44, Tryd.ntmps44
  go_wp2
  all_goals (go_ret; refine ⟨ret_bool ?_, rfl⟩; simp_all [leapB]; try rfl)

set_option maxHeartbeats 400000 in
theorem last_any (D : Dt) (w : World) (hg : MDays 12 w) (h0 : 1970 ≤ D.y) (h1 : D.y ≤ 9999) (m0 : 1 ≤ D.m) (m1 : D.m ≤ 12) :
    Calls Tryd.prog 24 #[D.v] w fun e w' => e = .returned (.bool (decide (daysI D.y D.m ≤ D.d))) ∧ Below w.heap.size w w' := by
  obtain ⟨y, m, d, h, mi, s, wd⟩ := D
  simp only at *
  unfold Dt.v
  obtain ⟨k, rfl⟩ : ∃ k : Nat, m = k + 1 := ⟨(m - 1).toNat, by omega⟩
  have hc := hg k (by omega)
  have lt : 12 < w.heap.size := World.block_lt_of_cell? w _ hc
  have e0 := days_eq y (k + 1)
  have E0 := Lib.hid e0; clear e0
  have l1 := leapB_I y
  have L1 := Lib.hid l1; clear l1
  have l2 := leapB_F y
  have L2 := Lib.hid l2; clear l2
  clear hg
  go_enter Tryd.func24, Tryd.ntmps24
  go_wp2_with (go_at_call 44; refine (lawleap_any _ _ (by omega) (by omega)).mono ?_; rintro e w' ⟨rfl, rfl⟩)
  · have h : leapB y = true := by assumption
    have h2 : (k : Int) + 1 = 2 := by assumption
    go_ret
    refine ⟨ret_bool ?_, by repeat (first | exact Below.refl _ _ | refine Below.alloc ?_ (by simp) _)⟩
    rw [E0.out, h2, if_pos rfl, L1.out.1 h]; rfl
  · have h : leapB y = false := by assumption
    have h2 : (k : Int) + 1 = 2 := by assumption
    go_ret
    refine ⟨ret_bool ?_, by repeat (first | exact Below.refl _ _ | refine Below.alloc ?_ (by simp) _)⟩
    rw [E0.out, h2, if_pos rfl, L2.out.1 h]; rfl
  · have h2 : ¬ (k : Int) + 1 = 2 := by assumption
    go_ret
    refine ⟨ret_bool ?_, by repeat (first | exact Below.refl _ _ | refine Below.alloc ?_ (by simp) _)⟩
    rw [E0.out, if_neg h2]; simp

theorem bcell {W w1 : World} (hb : Below W.heap.size W w1) : (∀ b o, b < W.heap.size → w1.cell? ⟨b, o, none⟩ = W.cell? ⟨b, o, none⟩) ∧ (∀ b o, b < W.heap.size → w1.frozen? ⟨b, o, none⟩ = W.frozen? ⟨b, o, none⟩) :=
  ⟨fun b o h => hb.cell (p := ⟨b, o, none⟩) h, fun b o h => hb.frozen (p := ⟨b, o, none⟩) h⟩

/-- The date one second later, by the law's own words. -/
def nextD (D : Dt) : Dt :=
  if D.s + 1 < 60 then { D with s := D.s + 1 }
  else if D.mi + 1 < 60 then { D with s := 0, mi := D.mi + 1 }
  else if D.h + 1 < 24 then { D with s := 0, mi := 0, h := D.h + 1 }
  else if D.d < daysI D.y D.m then { D with s := 0, mi := 0, h := 0, wd := (D.wd + 1) % 7, d := D.d + 1 }
  else if D.m + 1 ≤ 12 then { D with s := 0, mi := 0, h := 0, wd := (D.wd + 1) % 7, d := 1, m := D.m + 1 }
  else { D with s := 0, mi := 0, h := 0, wd := (D.wd + 1) % 7, d := 1, m := 1, y := D.y + 1 }

theorem fits_mk {y m d h mi s wd t : Int} (hd : IsDay (t / 86400) y m d) (e1 : h = t % 86400 / 3600) (e2 : mi = t % 86400 / 60 % 60) (e3 : s = t % 60) (e4 : wd = (t / 86400 + 4) % 7) : Dt.fits ⟨y, m, d, h, mi, s, wd⟩ t := ⟨hd, e1, e2, e3, e4⟩
theorem nextD_fits {D : Dt} {t : Int} (h : D.fits t) (t0 : 0 ≤ t) (t1 : t + 1 ≤ 253402300799) : (nextD D).fits (t + 1) := by
  obtain ⟨y, m, d, hh, mi, s, wd⟩ := D
  obtain ⟨hd, e1, e2, e3, e4⟩ := h
  simp only at *
  obtain ⟨y0, y1, m0, m1, d0, d1, num⟩ := hd
  unfold nextD
  simp only
  split
  · exact fits_mk ⟨y0, y1, m0, m1, d0, d1, by omega⟩ (by omega) (by omega) (by omega) (by omega)
  split
  · exact fits_mk ⟨y0, y1, m0, m1, d0, d1, by omega⟩ (by omega) (by omega) (by omega) (by omega)
  split
  · exact fits_mk ⟨y0, y1, m0, m1, d0, d1, by omega⟩ (by omega) (by omega) (by omega) (by omega)
  have hday : (t + 1) / 86400 = t / 86400 + 1 := by omega
  split
  · exact fits_mk ⟨y0, y1, m0, m1, by omega, by omega, by rw [hday]; omega⟩ (by omega) (by omega) (by omega) (by omega)
  have hcs := cum_succ y m m0 m1
  split
  · have := days_bd y (m + 1)
    exact fits_mk ⟨y0, y1, by omega, by omega, by omega, by omega, by rw [hday, hcs]; omega⟩ (by omega) (by omega) (by omega) (by omega)
  · obtain rfl : m = 12 := by omega
    have h13 : cumI y (12 + 1) = cumI y 13 := rfl
    have c13 := cum_13 y
    have asc := ahead_succ y
    have := days_bd (y + 1) 1
    have hy : y + 1 ≤ 9999 := by
      by_cases e : y = 9999
      · subst e; have := ahead_top; have e2 : aheadI (9999 + 1) = aheadI 10000 := rfl; omega
      · omega
    exact fits_mk ⟨by omega, hy, by omega, by omega, by omega, by omega, by rw [hday, asc, cum_1]; omega⟩ (by omega) (by omega) (by omega) (by omega)

set_option maxHeartbeats 2000000 in
theorem next_any (D : Dt) (w : World) (hg : MDays 12 w) (hd : D.ok) (w0 : 0 ≤ D.wd) (w1 : D.wd ≤ 6) :
    Calls Tryd.prog 10 #[D.v] w fun e w' => e = .returned (nextD D).v ∧ Below w.heap.size w w' := by
  have HM : ∀ o1 o2, MDays 12 ((w.alloc o1).alloc o2) := fun o1 o2 => hg.below (Below.alloc (Below.alloc (Below.refl _ _) (by simp) _) (by simp) _)
  have HMM := Lib.hid HM
  have lt : 12 < w.heap.size := World.block_lt_of_cell? w _ (hg 0 (by omega))
  clear HM hg
  have q1 : D.s + 1 < 60 ∨ ¬ D.s + 1 < 60 ∧ D.mi + 1 < 60 ∨ ¬ D.s + 1 < 60 ∧ ¬ D.mi + 1 < 60 ∧ D.h + 1 < 24 ∨ ¬ D.s + 1 < 60 ∧ ¬ D.mi + 1 < 60 ∧ ¬ D.h + 1 < 24 ∧ D.d < daysI D.y D.m
    ∨ ¬ D.s + 1 < 60 ∧ ¬ D.mi + 1 < 60 ∧ ¬ D.h + 1 < 24 ∧ ¬ D.d < daysI D.y D.m ∧ D.m + 1 ≤ 12 ∨ ¬ D.s + 1 < 60 ∧ ¬ D.mi + 1 < 60 ∧ ¬ D.h + 1 < 24 ∧ ¬ D.d < daysI D.y D.m ∧ ¬ D.m + 1 ≤ 12 := by omega
  have db := days_bd D.y D.m
  obtain ⟨y, m, d, h, mi, s, wd⟩ := D
  obtain ⟨y0, y1, m0, m1, d0, d1, u0, u1, u2, u3, u4, u5⟩ := hd
  simp only at *
  have hN : ∀ E : Dt, nextD ⟨y, m, d, h, mi, s, wd⟩ = E → (nextD ⟨y, m, d, h, mi, s, wd⟩).v = E.v := fun E h => by rw [h]
  rcases q1 with c | ⟨c, c1⟩ | ⟨c, c1, c2⟩ | ⟨c, c1, c2, c3⟩ | ⟨c, c1, c2, c3, c4⟩ | ⟨c, c1, c2, c3, c4⟩
  · rw [hN ⟨y, m, d, h, mi, s + 1, wd⟩ (by simp only [nextD]; rw [if_pos c])]
    clear hN
    unfold Dt.v
    go_enter Tryd.func10, Tryd.ntmps10
    go_wp2_with fail
    exact bodyPost_ret (v := (⟨y, m, d, h, mi, s + 1, wd⟩ : Dt).v) (by simp [results, Tryd.results10, go_sem]; rfl) rfl ⟨rfl, by repeat (first | exact Below.refl _ _ | refine Below.alloc ?_ (by simp) _)⟩
  · rw [hN ⟨y, m, d, h, mi + 1, 0, wd⟩ (by simp only [nextD]; rw [if_neg c, if_pos c1])]
    clear hN
    unfold Dt.v
    go_enter Tryd.func10, Tryd.ntmps10
    go_wp2_with fail
    exact bodyPost_ret (v := (⟨y, m, d, h, mi + 1, 0, wd⟩ : Dt).v) (by simp [results, Tryd.results10, go_sem]; rfl) rfl ⟨rfl, by repeat (first | exact Below.refl _ _ | refine Below.alloc ?_ (by simp) _)⟩
  · rw [hN ⟨y, m, d, h + 1, 0, 0, wd⟩ (by simp only [nextD]; rw [if_neg c, if_neg c1, if_pos c2])]
    clear hN
    unfold Dt.v
    go_enter Tryd.func10, Tryd.ntmps10
    go_wp2_with fail
    exact bodyPost_ret (v := (⟨y, m, d, h + 1, 0, 0, wd⟩ : Dt).v) (by simp [results, Tryd.results10, go_sem]; rfl) rfl ⟨rfl, by repeat (first | exact Below.refl _ _ | refine Below.alloc ?_ (by simp) _)⟩
  · have hl : decide (daysI y m ≤ d) = false := by simp; omega
    rw [hN ⟨y, m, d + 1, 0, 0, 0, (wd + 1) % 7⟩ (by simp only [nextD]; rw [if_neg c, if_neg c1, if_neg c2, if_pos c3])]
    clear hN
    unfold Dt.v
    go_enter Tryd.func10, Tryd.ntmps10
    go_wp2_with fail
    refine (last_any ⟨y, m, d, 0, 0, 0, (wd + 1) % 7⟩ _ (HMM.out _ _) y0 y1 m0 m1).mono ?_
    rintro e w1 ⟨rfl, hb⟩
    obtain ⟨X, nX, rfl⟩ := Below_ext hb
    clear hb
    go_wp2_with fail
    exact bodyPost_ret (v := (⟨y, m, d + 1, 0, 0, 0, (wd + 1) % 7⟩ : Dt).v) (by simp [results, Tryd.results10, go_sem]; rfl) rfl ⟨rfl, (((Below.refl _ _).alloc (Nat.le_refl _) _).alloc (by simp) _).trans ((ext_below _ _ _).mono (by simp; omega))⟩
  · have hl : decide (daysI y m ≤ d) = true := by simp; omega
    rw [hN ⟨y, m + 1, 1, 0, 0, 0, (wd + 1) % 7⟩ (by simp only [nextD]; rw [if_neg c, if_neg c1, if_neg c2, if_neg c3, if_pos c4])]
    clear hN
    unfold Dt.v
    go_enter Tryd.func10, Tryd.ntmps10
    go_wp2_with fail
    refine (last_any ⟨y, m, d, 0, 0, 0, (wd + 1) % 7⟩ _ (HMM.out _ _) y0 y1 m0 m1).mono ?_
    rintro e w1 ⟨rfl, hb⟩
    obtain ⟨X, nX, rfl⟩ := Below_ext hb
    clear hb
    go_wp2_with fail
    exact bodyPost_ret (v := (⟨y, m + 1, 1, 0, 0, 0, (wd + 1) % 7⟩ : Dt).v) (by simp [results, Tryd.results10, go_sem]; rfl) rfl ⟨rfl, (((Below.refl _ _).alloc (Nat.le_refl _) _).alloc (by simp) _).trans ((ext_below _ _ _).mono (by simp; omega))⟩
  · have hl : decide (daysI y m ≤ d) = true := by simp; omega
    rw [hN ⟨y + 1, 1, 1, 0, 0, 0, (wd + 1) % 7⟩ (by simp only [nextD]; rw [if_neg c, if_neg c1, if_neg c2, if_neg c3, if_neg c4])]
    clear hN
    unfold Dt.v
    go_enter Tryd.func10, Tryd.ntmps10
    go_wp2_with fail
    refine (last_any ⟨y, m, d, 0, 0, 0, (wd + 1) % 7⟩ _ (HMM.out _ _) y0 y1 m0 m1).mono ?_
    rintro e w1 ⟨rfl, hb⟩
    obtain ⟨X, nX, rfl⟩ := Below_ext hb
    clear hb
    go_wp2_with fail
    exact bodyPost_ret (v := (⟨y + 1, 1, 1, 0, 0, 0, (wd + 1) % 7⟩ : Dt).v) (by simp [results, Tryd.results10, go_sem]; rfl) rfl ⟨rfl, (((Below.refl _ _).alloc (Nat.le_refl _) _).alloc (by simp) _).trans ((ext_below _ _ _).mono (by simp; omega))⟩

end Go.Proofs.YtmejjhklknhniaaDoor
