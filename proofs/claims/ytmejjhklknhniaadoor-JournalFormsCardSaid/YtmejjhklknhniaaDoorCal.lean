/- The calendar in plain numbers: days ahead of a year, ahead of a month, and that a second has just one date. -/
import GoSem.Core.Value
namespace Go.Proofs.YtmejjhklknhniaaDoor

def leapB (y : Int) : Bool := decide (y % 4 = 0 ∧ (y % 100 ≠ 0 ∨ y % 400 = 0))
def leapI (y : Int) : Int := if y % 4 = 0 ∧ (y % 100 ≠ 0 ∨ y % 400 = 0) then 1 else 0
def leapsI (y : Int) : Int := (y - 1) / 4 - (y - 1) / 100 + (y - 1) / 400
def aheadI (y : Int) : Int := 365 * (y - 1970) + leapsI y - 477
def mlen (m : Int) : Int := if m = 2 then 28 else if m = 4 ∨ m = 6 ∨ m = 9 ∨ m = 11 then 30 else 31
def daysI (y m : Int) : Int := if m = 2 ∧ leapB y = true then mlen m + 1 else mlen m
def cumI (y m : Int) : Int :=
  (if m = 1 then 0 else if m = 2 then 31 else if m = 3 then 59 else if m = 4 then 90 else if m = 5 then 120 else if m = 6 then 151 else if m = 7 then 181
    else if m = 8 then 212 else if m = 9 then 243 else if m = 10 then 273 else if m = 11 then 304 else if m = 12 then 334 else 365) + if 2 < m then leapI y else 0

theorem leapI_01 (y : Int) : 0 ≤ leapI y ∧ leapI y ≤ 1 := by unfold leapI; split <;> omega
theorem leapB_I (y : Int) : (leapB y = true ↔ leapI y = 1) := by unfold leapB leapI; rw [decide_eq_true_iff]; split <;> simp_all
theorem leapB_F (y : Int) : (leapB y = false ↔ leapI y = 0) := by unfold leapB leapI; rw [decide_eq_false_iff_not]; split <;> simp_all
theorem ahead_succ (y : Int) : aheadI (y + 1) = aheadI y + 365 + leapI y := by
  unfold aheadI leapsI leapI; split <;> omega
theorem ahead_mono (a b : Int) (h : a ≤ b) : aheadI a ≤ aheadI b := by unfold aheadI leapsI; omega
theorem ahead_1970 : aheadI 1970 = 0 := by rfl
theorem ahead_top : aheadI 10000 = 2932897 := by rfl
theorem ahead_guess (q : Int) (h : 0 ≤ q) : aheadI (1970 + q) ≤ 366 * q := by unfold aheadI leapsI; omega
theorem ahead_lo (y : Int) (h : 1970 ≤ y) : 0 ≤ aheadI y := by have := ahead_mono 1970 y h; rw [ahead_1970] at this; exact this
theorem ahead_hi (y : Int) (h : y ≤ 10000) : aheadI y ≤ 2932897 := by have := ahead_mono y 10000 h; rw [ahead_top] at this; exact this
theorem leaps_bd (y : Int) (h0 : 1 ≤ y) (h1 : y ≤ 100000) : 0 ≤ leapsI y ∧ leapsI y ≤ 100000 := by unfold leapsI; omega
theorem mlen_bd (m : Int) : 28 ≤ mlen m ∧ mlen m ≤ 31 := by unfold mlen; (repeat' split) <;> omega
theorem days_bd (y m : Int) : 28 ≤ daysI y m ∧ daysI y m ≤ 31 := by
  have := mlen_bd m
  unfold daysI; split
  · rename_i h; rw [h.1] at *; unfold mlen at *; simp at *
  · exact this
theorem days_eq (y m : Int) : daysI y m = mlen m + if m = 2 then leapI y else 0 := by
  have h1 := leapB_I y
  have h2 := leapI_01 y
  unfold daysI
  by_cases hm : m = 2
  · by_cases hb : leapB y = true
    · rw [if_pos ⟨hm, hb⟩, if_pos hm, h1.1 hb]
    · rw [if_neg (by simp [hb]), if_pos hm]; have := mt h1.2 hb; omega
  · rw [if_neg (by simp [hm]), if_neg hm]; omega
theorem cum_succ (y m : Int) (h1 : 1 ≤ m) (h2 : m ≤ 12) : cumI y (m + 1) = cumI y m + daysI y m := by
  rw [days_eq]
  have hm : m = 1 ∨ m = 2 ∨ m = 3 ∨ m = 4 ∨ m = 5 ∨ m = 6 ∨ m = 7 ∨ m = 8 ∨ m = 9 ∨ m = 10 ∨ m = 11 ∨ m = 12 := by omega
  rcases hm with rfl | rfl | rfl | rfl | rfl | rfl | rfl | rfl | rfl | rfl | rfl | rfl <;> simp [cumI, mlen] <;> omega
theorem cum_1 (y : Int) : cumI y 1 = 0 := by simp [cumI]
theorem cum_13 (y : Int) : cumI y 13 = 365 + leapI y := by simp [cumI]
theorem cum_bd (y m : Int) (h1 : 1 ≤ m) (h2 : m ≤ 13) : 0 ≤ cumI y m ∧ cumI y m ≤ 366 := by
  have := leapI_01 y
  have hm : m = 1 ∨ m = 2 ∨ m = 3 ∨ m = 4 ∨ m = 5 ∨ m = 6 ∨ m = 7 ∨ m = 8 ∨ m = 9 ∨ m = 10 ∨ m = 11 ∨ m = 12 ∨ m = 13 := by omega
  rcases hm with rfl | rfl | rfl | rfl | rfl | rfl | rfl | rfl | rfl | rfl | rfl | rfl | rfl <;> simp [cumI] <;> omega
theorem cum_step (y a : Int) (h1 : 1 ≤ a) (k : Nat) (h2 : a + k ≤ 13) : cumI y a ≤ cumI y (a + k) := by
  induction k with
  | zero => simp
  | succ k ih =>
    have h := ih (by omega)
    have c := cum_succ y (a + k) (by omega) (by omega)
    have d := days_bd y (a + k)
    rw [show a + ((k + 1 : Nat) : Int) = a + k + 1 from by omega, c]
    omega
theorem cum_mono (y a b : Int) (h1 : 1 ≤ a) (h : a < b) (h2 : b ≤ 13) : cumI y (a + 1) ≤ cumI y b := by
  have := cum_step y (a + 1) (by omega) (b - (a + 1)).toNat (by omega)
  rwa [show a + 1 + ((b - (a + 1)).toNat : Int) = b from by omega] at this

/-- A date's seven numbers. -/
structure Dt where
  y : Int
  m : Int
  d : Int
  h : Int
  mi : Int
  s : Int
  wd : Int
  deriving DecidableEq
def Dt.zero : Dt := ⟨0, 0, 0, 0, 0, 0, 0⟩
def Dt.v (D : Dt) : Value := .agg #[.int .i64 D.y, .int .i64 D.m, .int .i64 D.d, .int .i64 D.h, .int .i64 D.mi, .int .i64 D.s, .int .i64 D.wd]

/-- The year, month and day are ones of the calendar, and the day's number is n. -/
structure IsDay (n y m d : Int) : Prop where
  y0 : 1970 ≤ y
  y1 : y ≤ 9999
  m0 : 1 ≤ m
  m1 : m ≤ 12
  d0 : 1 ≤ d
  d1 : d ≤ daysI y m
  num : aheadI y + cumI y m + d - 1 = n

theorem IsDay.bd {n y m d : Int} (h : IsDay n y m d) : aheadI y ≤ n ∧ n < aheadI (y + 1) ∧ cumI y m ≤ n - aheadI y ∧ n - aheadI y < cumI y (m + 1) := by
  have a := ahead_succ y
  have b := cum_succ y m h.m0 h.m1
  have c := h.num
  have e := cum_bd y m h.m0 (by have := h.m1; omega)
  have f := h.d0
  have g := h.d1
  refine ⟨by omega, ?_, by omega, by omega⟩
  by_cases hm : m = 12
  · subst hm
    have := cum_13 y
    have k : cumI y (12 + 1) = cumI y 13 := rfl
    omega
  · have := cum_mono y m 13 h.m0 (by have := h.m1; omega) (by omega)
    have := cum_13 y
    omega

/-- A day has one year, month and day. -/
theorem IsDay.unique {n y m d y' m' d' : Int} (h : IsDay n y m d) (h' : IsDay n y' m' d') : y = y' ∧ m = m' ∧ d = d' := by
  have a := h.bd
  have a' := h'.bd
  have hy : y = y' := by
    rcases Int.lt_trichotomy y y' with k | k | k
    · have := ahead_mono (y + 1) y' (by omega); omega
    · exact k
    · have := ahead_mono (y' + 1) y (by omega); omega
  subst hy
  have hm : m = m' := by
    rcases Int.lt_trichotomy m m' with k | k | k
    · have := cum_mono y m m' h.m0 k (by have := h'.m1; omega); omega
    · exact k
    · have := cum_mono y m' m h'.m0 k (by have := h.m1; omega); omega
  subst hm
  have b := h.num
  have b' := h'.num
  exact ⟨rfl, rfl, by omega⟩

/-- The date of a second. -/
structure Dt.fits (D : Dt) (t : Int) : Prop where
  day : IsDay (t / 86400) D.y D.m D.d
  h : D.h = t % 86400 / 3600
  mi : D.mi = t % 86400 / 60 % 60
  s : D.s = t % 60
  wd : D.wd = (t / 86400 + 4) % 7

theorem Dt.fits.unique {D E : Dt} {t : Int} (h : D.fits t) (k : E.fits t) : D = E := by
  obtain ⟨a, b, c⟩ := h.day.unique k.day
  have h1 := h.h.trans k.h.symm
  have h2 := h.mi.trans k.mi.symm
  have h3 := h.s.trans k.s.symm
  have h4 := h.wd.trans k.wd.symm
  cases D; cases E; simp_all

/-- The second of a date, where it is one. -/
structure Dt.ok (D : Dt) : Prop where
  y0 : 1970 ≤ D.y
  y1 : D.y ≤ 9999
  m0 : 1 ≤ D.m
  m1 : D.m ≤ 12
  d0 : 1 ≤ D.d
  d1 : D.d ≤ daysI D.y D.m
  h0 : 0 ≤ D.h
  h1 : D.h ≤ 23
  mi0 : 0 ≤ D.mi
  mi1 : D.mi ≤ 59
  s0 : 0 ≤ D.s
  s1 : D.s ≤ 59
def Dt.day (D : Dt) : Int := aheadI D.y + cumI D.y D.m + D.d - 1
def Dt.sec (D : Dt) : Int := D.day * 86400 + D.h * 3600 + D.mi * 60 + D.s

theorem day_bd (y m d : Int) (y0 : 1970 ≤ y) (y1 : y ≤ 9999) (m0 : 1 ≤ m) (m1 : m ≤ 12) (d0 : 1 ≤ d) (d1 : d ≤ daysI y m) : 0 ≤ aheadI y + cumI y m + d - 1 ∧ aheadI y + cumI y m + d - 1 ≤ 2932896 := by
  have h : IsDay (aheadI y + cumI y m + d - 1) y m d := ⟨y0, y1, m0, m1, d0, d1, rfl⟩
  have a := h.bd
  have b := ahead_lo y y0
  have c := ahead_hi (y + 1) (by omega)
  omega

theorem Dt.ok.day_bd {D : Dt} (h : D.ok) : 0 ≤ D.day ∧ D.day ≤ 2932896 := by
  have := YtmejjhklknhniaaDoor.day_bd D.y D.m D.d h.y0 h.y1 h.m0 h.m1 h.d0 h.d1
  unfold Dt.day; exact this

/-- What fits a second is a date, whose second it is. -/
theorem Dt.fits.ok {D : Dt} {t : Int} (h : D.fits t) : D.ok ∧ D.sec = t ∧ D.wd = (D.day + 4) % 7 := by
  have a := h.day
  have e1 := h.h
  have e2 := h.mi
  have e3 := h.s
  have e4 := h.wd
  have e5 : D.day = t / 86400 := a.num
  refine ⟨⟨a.y0, a.y1, a.m0, a.m1, a.d0, a.d1, by omega, by omega, by omega, by omega, by omega, by omega⟩, ?_, by rw [e5]; exact e4⟩
  unfold Dt.sec
  rw [e5]
  omega

theorem Dt.ok.fits {D : Dt} (h : D.ok) (hw : D.wd = (D.day + 4) % 7) : D.fits D.sec ∧ 0 ≤ D.sec ∧ D.sec ≤ 253402300799 := by
  have b := h.day_bd
  have := h.h0; have := h.h1; have := h.mi0; have := h.mi1; have := h.s0; have := h.s1
  have hs : D.sec = D.day * 86400 + D.h * 3600 + D.mi * 60 + D.s := rfl
  have hd : D.sec / 86400 = D.day := by omega
  refine ⟨⟨⟨h.y0, h.y1, h.m0, h.m1, h.d0, h.d1, by rw [hd]; rfl⟩, by omega, by omega, by omega, by rw [hd]; exact hw⟩, by omega, by omega⟩

/-- Every second has a date. -/
theorem year_ex (n : Int) (h0 : 0 ≤ n) (h1 : n ≤ 2932896) : ∃ y, 1970 ≤ y ∧ y ≤ 9999 ∧ aheadI y ≤ n ∧ n < aheadI (y + 1) := by
  have key : ∀ k : Nat, ∀ y, 1970 ≤ y → y ≤ 9999 → aheadI y ≤ n → (9999 - y).toNat ≤ k → ∃ y, 1970 ≤ y ∧ y ≤ 9999 ∧ aheadI y ≤ n ∧ n < aheadI (y + 1) := by
    intro k
    induction k with
    | zero =>
      intro y a b c d
      refine ⟨y, a, b, c, ?_⟩
      have e : y = 9999 := by omega
      subst e; have := ahead_top; have e2 : aheadI (9999 + 1) = aheadI 10000 := rfl; omega
    | succ k ih =>
      intro y a b c d
      by_cases hc : aheadI (y + 1) ≤ n
      · have y2 : y + 1 ≤ 9999 := by
          by_cases e : y = 9999
          · subst e; have := ahead_top; have e2 : aheadI (9999 + 1) = aheadI 10000 := rfl; omega
          · omega
        exact ih (y + 1) (by omega) y2 hc (by omega)
      · exact ⟨y, a, b, c, by omega⟩
  exact key 8029 1970 (by omega) (by omega) (by rw [ahead_1970]; exact h0) (by omega)
theorem month_ex (y r : Int) (h0 : 0 ≤ r) (h1 : r < 365 + leapI y) : ∃ m, 1 ≤ m ∧ m ≤ 12 ∧ cumI y m ≤ r ∧ r < cumI y (m + 1) := by
  have key : ∀ k : Nat, ∀ m, 1 ≤ m → m ≤ 12 → cumI y m ≤ r → (12 - m).toNat ≤ k → ∃ m, 1 ≤ m ∧ m ≤ 12 ∧ cumI y m ≤ r ∧ r < cumI y (m + 1) := by
    intro k
    induction k with
    | zero =>
      intro m a b c d
      refine ⟨m, a, b, c, ?_⟩
      have e : m = 12 := by omega
      subst e; have := cum_13 y; have e2 : cumI y (12 + 1) = cumI y 13 := rfl; omega
    | succ k ih =>
      intro m a b c d
      by_cases hc : cumI y (m + 1) ≤ r
      · have m2 : m + 1 ≤ 12 := by
          by_cases e : m = 12
          · subst e; have := cum_13 y; have e2 : cumI y (12 + 1) = cumI y 13 := rfl; omega
          · omega
        exact ih (m + 1) (by omega) m2 hc (by omega)
      · exact ⟨m, a, b, c, by omega⟩
  exact key 11 1 (by omega) (by omega) (by rw [cum_1]; exact h0) (by omega)
theorem civil_ex (t : Int) (h0 : 0 ≤ t) (h1 : t ≤ 253402300799) : ∃ D : Dt, D.fits t := by
  obtain ⟨y, y0, y1, a0, a1⟩ := year_ex (t / 86400) (by omega) (by omega)
  have s := ahead_succ y
  obtain ⟨m, m0, m1, c0, c1⟩ := month_ex y (t / 86400 - aheadI y) (by omega) (by omega)
  have cs := cum_succ y m m0 m1
  exact ⟨⟨y, m, t / 86400 - aheadI y - cumI y m + 1, t % 86400 / 3600, t % 86400 / 60 % 60, t % 60, (t / 86400 + 4) % 7⟩, ⟨y0, y1, m0, m1, by simp only; omega, by simp only; omega, by simp only; omega⟩, rfl, rfl, rfl, rfl⟩

end Go.Proofs.YtmejjhklknhniaaDoor
