/- The plain law of the three forms: what the reference reads off the places of a text is what the journal reads. -/
import Derived.Test.YtmejjhklknhniaaDoorPm
namespace Go.Proofs.YtmejjhklknhniaaDoor
open Go Go.RowKit

/-! What the reference reads off the places of a date's text. -/
theorem foldN_snoc (l : List UInt8) (c : UInt8) (n : Int) : foldN (l ++ [c]) n = 10 * foldN l n + (c.toNat : Int) - 48 := by unfold foldN; simp
theorem foldN_pad : ∀ (k : Nat) (m n : Int), 0 ≤ m → m < 10 ^ k → foldN (padL k m) n = n * 10 ^ k + m
  | 0, m, n, h0, h1 => by simp at h1; simp [padL, foldN]; omega
  | k + 1, m, n, h0, h1 => by
    have hp : (10 : Int) ^ (k + 1) = 10 * 10 ^ k := by rw [Int.pow_succ]; omega
    rw [hp] at h1
    rw [padL, foldN_snoc, foldN_pad k (m / 10) n (by omega) (by omega), UInt8.toNat_ofNat_of_lt' (by show _ < 256; omega), hp]
    have e1 : n * (10 * 10 ^ k) = 10 * (n * 10 ^ k) := by rw [← Int.mul_assoc, Int.mul_comm n 10, Int.mul_assoc]
    rw [e1]; omega
theorem numAt_at (s p t : List UInt8) (a k : Nat) (m : Int) (h : s = p ++ (padL k m ++ t)) (ha : a = p.length) (h0 : 0 ≤ m) (h1 : m < 10 ^ k) : numAt s a k = m := by
  subst h ha
  unfold numAt
  rw [List.drop_left, List.take_append_of_le_length (by rw [padL_length]; omega), List.take_of_length_le (by rw [padL_length]; omega), foldN_pad k m 0 h0 h1]
  simp
theorem monFind_at (k : Nat) (h : k < 12) : monFind (monT.getD k []) monT 1 = k + 1 := by
  revert k; decide
theorem monT_len (k : Nat) (h : k < 12) : (monT.getD k []).length = 3 := by revert k; decide
theorem wdT_len (k : Nat) (h : k < 7) : (wdT.getD k []).length = 3 := by revert k; decide
theorem monAt_there (s p t : List UInt8) (a k : Nat) (h : s = p ++ (monT.getD k [] ++ t)) (ha : a = p.length) (hk : k < 12) : monAt s a = k + 1 := by
  subst h ha
  have hl := monT_len k hk
  unfold monAt
  rw [if_pos (by simp only [List.length_append, hl]; omega), ← List.take_drop, List.drop_left, List.take_append_of_le_length (by omega), List.take_of_length_le (by omega)]
  exact monFind_at k hk
theorem at_time (E D : Dt) (s p t : List UInt8) (a : Nat) (h : s = p ++ (timeT D ++ t)) (ha : a = p.length) (hD : D.ok) : E.at s a = { E with h := D.h, mi := D.mi, s := D.s } := by
  have := hD.h0; have := hD.h1; have := hD.mi0; have := hD.mi1; have := hD.s0; have := hD.s1
  unfold Dt.at
  rw [numAt_at s p (58 :: (padL 2 D.mi ++ (58 :: padL 2 D.s)) ++ t) a 2 D.h (by rw [h]; simp [timeT]) ha (by omega) (by omega),
    numAt_at s (p ++ padL 2 D.h ++ [58]) (58 :: padL 2 D.s ++ t) (a + 3) 2 D.mi (by rw [h]; simp [timeT]) (by simp [ha, padL_length]) (by omega) (by omega),
    numAt_at s (p ++ padL 2 D.h ++ [58] ++ padL 2 D.mi ++ [58]) t (a + 6) 2 D.s (by rw [h]; simp [timeT]) (by simp [ha, padL_length]) (by omega) (by omega)]
theorem d1_back {D : Dt} (h : Right D) : d1 (fixT D) = D.wdOf 0 := by
  have := h.two.w0; have := h.two.w1
  have hd := days_bd D.y D.m
  have := h.1.y0; have := h.1.y1; have := h.1.m0; have := h.1.m1; have := h.1.d0; have := h.1.d1
  have lw := wdT_len D.wd.toNat (by omega)
  have lm := monT_len (D.m - 1).toNat (by omega)
  unfold d1
  rw [at_time _ D (fixT D) (wdT.getD D.wd.toNat [] ++ (44 :: 32 :: (padL 2 D.d ++ (32 :: (monT.getD (D.m - 1).toNat [] ++ (32 :: (padL 4 D.y ++ [32]))))))) [32, 71, 77, 84] 17 (by simp [fixT]) (by simp only [List.length_append, List.length_cons, List.length_nil, padL_length, lw, lm]) h.1,
    numAt_at (fixT D) (wdT.getD D.wd.toNat [] ++ (44 :: 32 :: (padL 2 D.d ++ (32 :: (monT.getD (D.m - 1).toNat [] ++ [32]))))) (32 :: (timeT D ++ [32, 71, 77, 84])) 12 4 D.y (by simp [fixT]) (by simp only [List.length_append, List.length_cons, List.length_nil, padL_length, lw, lm]) (by omega) (by omega),
    monAt_there (fixT D) (wdT.getD D.wd.toNat [] ++ (44 :: 32 :: (padL 2 D.d ++ [32]))) (32 :: (padL 4 D.y ++ (32 :: (timeT D ++ [32, 71, 77, 84])))) 8 (D.m - 1).toNat (by simp [fixT]) (by simp only [List.length_append, List.length_cons, List.length_nil, padL_length, lw]) (by omega),
    numAt_at (fixT D) (wdT.getD D.wd.toNat [] ++ [44, 32]) (32 :: (monT.getD (D.m - 1).toNat [] ++ (32 :: (padL 4 D.y ++ (32 :: (timeT D ++ [32, 71, 77, 84])))))) 5 2 D.d (by simp [fixT]) (by simp only [List.length_append, List.length_cons, List.length_nil, lw]) (by omega) (by omega)]
  unfold Dt.wdOf
  rw [show (((D.m - 1).toNat + 1 : Nat) : Int) = D.m from by omega]
theorem day3_back (s p t : List UInt8) (blank : Bool) (d : Int) (h : s = p ++ (dayL blank d ++ t)) (hp : p.length = 8) (h0 : 1 ≤ d) (h1 : d ≤ 31) : day3 s = d := by
  unfold day3
  by_cases hb : blank = true ∧ d < 10
  · have e : dayL blank d = 32 :: padL 1 d := by unfold dayL; rw [if_pos hb]
    rw [e] at h
    rw [if_pos ⟨by rw [h]; simp [padL_length, hp]; omega, by rw [h]; simp [List.getD_eq_getElem?_getD, hp]⟩]
    exact numAt_at s (p ++ [32]) t 9 1 d (by rw [h]; simp) (by simp [hp]) (by omega) (by have := hb.2; omega)
  · have e : dayL blank d = padL 2 d := by unfold dayL; rw [if_neg hb]
    rw [e] at h
    rw [if_neg]
    · exact numAt_at s p t 8 2 d h hp.symm (by omega) (by omega)
    · intro ⟨_, e2⟩
      have : UInt8.ofNat (48 + d / 10 % 10).toNat = 32 := by
        rw [h] at e2
        simpa [List.getD_eq_getElem?_getD, hp, padL] using e2
      have := congrArg UInt8.toNat this
      rw [UInt8.toNat_ofNat_of_lt' (by show _ < 256; omega)] at this
      simp at this; omega
theorem dayL_len (blank : Bool) (d : Int) : (dayL blank d).length = 2 := by unfold dayL; split <;> simp [padL_length]
theorem d3_back {D : Dt} (blank : Bool) (h : Right D) : d3 (spT blank D) = D.wdOf 0 := by
  have := h.two.w0; have := h.two.w1
  have hd := days_bd D.y D.m
  have := h.1.y0; have := h.1.y1; have := h.1.m0; have := h.1.m1; have := h.1.d0; have := h.1.d1
  have lw := wdT_len D.wd.toNat (by omega)
  have lm := monT_len (D.m - 1).toNat (by omega)
  have ld := dayL_len blank D.d
  have lt : (timeT D).length = 8 := by simp [timeT, padL_length]
  unfold d3
  rw [at_time _ D (spT blank D) (wdT.getD D.wd.toNat [] ++ (32 :: (monT.getD (D.m - 1).toNat [] ++ (32 :: (dayL blank D.d ++ [32]))))) (32 :: padL 4 D.y) 11 (by simp [spT]) (by simp only [List.length_append, List.length_cons, List.length_nil, lw, lm, ld]) h.1,
    numAt_at (spT blank D) (wdT.getD D.wd.toNat [] ++ (32 :: (monT.getD (D.m - 1).toNat [] ++ (32 :: (dayL blank D.d ++ (32 :: (timeT D ++ [32]))))))) [] 20 4 D.y (by simp [spT]) (by simp only [List.length_append, List.length_cons, List.length_nil, lw, lm, ld, lt]) (by omega) (by omega),
    monAt_there (spT blank D) (wdT.getD D.wd.toNat [] ++ [32]) (32 :: (dayL blank D.d ++ (32 :: (timeT D ++ (32 :: padL 4 D.y))))) 4 (D.m - 1).toNat (by simp [spT]) (by simp only [List.length_append, List.length_cons, List.length_nil, lw]) (by omega),
    day3_back (spT blank D) (wdT.getD D.wd.toNat [] ++ (32 :: (monT.getD (D.m - 1).toNat [] ++ [32]))) (32 :: (timeT D ++ (32 :: padL 4 D.y))) blank D.d (by simp [spT]) (by simp only [List.length_append, List.length_cons, List.length_nil, lw, lm]) (by omega) (by omega)]
  unfold Dt.wdOf
  rw [show (((D.m - 1).toNat + 1 : Nat) : Int) = D.m from by omega]

/-! The year of two digits. -/
theorem centGo_down (top most z : Int) (ht : top = if most ≤ 9999 then most else 9999) (h0 : z ≤ top) (h1 : top < z + 100) : ∀ (k j : Nat), j ≤ k → centGo k (z + 100 * j) most = z
  | 0, j, hj => by obtain rfl : j = 0 := by omega
                   simp [centGo]
  | k + 1, 0, _ => by
    unfold centGo
    rw [if_neg (by split at ht <;> omega)]; simp
  | k + 1, j + 1, hj => by
    unfold centGo
    rw [if_pos (by split at ht <;> omega), show z + 100 * ((j + 1 : Nat) : Int) - 100 = z + 100 * (j : Int) from by omega]
    exact centGo_down top most z ht h0 h1 k j (by omega)
theorem year_eq (y0 two : Int) (h0 : 1970 ≤ y0) (h1 : y0 ≤ 9999) (t0 : 0 ≤ two) (t1 : two < 100) : centGo 100 (9900 + two) (y0 + 50) = yearOf y0 two ∧ yearOf y0 two % 100 = two := by
  have ht : topOf y0 = if y0 + 50 ≤ 9999 then y0 + 50 else 9999 := rfl
  have hb : 2020 ≤ topOf y0 ∧ topOf y0 ≤ 9999 := by rw [ht]; split <;> omega
  have e : yearOf y0 two = topOf y0 - (topOf y0 % 100 - two + 100) % 100 := rfl
  have hm : yearOf y0 two % 100 = two := by rw [e]; omega
  refine ⟨?_, hm⟩
  obtain ⟨j, hj⟩ : ∃ j : Nat, 9900 + two = yearOf y0 two + 100 * (j : Int) := ⟨((9900 + two - yearOf y0 two) / 100).toNat, by rw [e]; omega⟩
  rw [hj]
  exact centGo_down (topOf y0) (y0 + 50) _ ht (by rw [e]; omega) (by rw [e]; omega) 100 j (by rw [e] at hj; omega)

theorem longT_ends (q : Nat) (h : q < 7) : ∃ X : List UInt8, longT.getD q [] = X ++ [121] ∧ X.length + 3 = atOf q ∧ 5 ≤ X.length ∧ X.length ≤ 8 := by
  rcases seven h with rfl | rfl | rfl | rfl | rfl | rfl | rfl
  · exact ⟨[83, 117, 110, 100, 97], rfl, rfl, by decide, by decide⟩
  · exact ⟨[77, 111, 110, 100, 97], rfl, rfl, by decide, by decide⟩
  · exact ⟨[84, 117, 101, 115, 100, 97], rfl, rfl, by decide, by decide⟩
  · exact ⟨[87, 101, 100, 110, 101, 115, 100, 97], rfl, rfl, by decide, by decide⟩
  · exact ⟨[84, 104, 117, 114, 115, 100, 97], rfl, rfl, by decide, by decide⟩
  · exact ⟨[70, 114, 105, 100, 97], rfl, rfl, by decide, by decide⟩
  · exact ⟨[83, 97, 116, 117, 114, 100, 97], rfl, rfl, by decide, by decide⟩
theorem monT_bytes (k : Nat) (h : k < 12) : ∃ a b c : UInt8, monT.getD k [] = [a, b, c] ∧ 65 ≤ a.toNat ∧ 78 - a.toNat = 78 - a.toNat ∧ 97 ≤ b.toNat ∧ b.toNat ≤ 122 ∧ (79 ≤ a.toNat → k ≠ 0) := by
  rcases twelve h with rfl | rfl | rfl | rfl | rfl | rfl | rfl | rfl | rfl | rfl | rfl | rfl <;> exact ⟨_, _, _, rfl, by decide, rfl, by decide, by decide, by decide⟩
theorem foldN_two (a b : UInt8) (t : List UInt8) : foldN ((a :: b :: t).take 2) 0 = 10 * ((a.toNat : Int) - 48) + (b.toNat : Int) - 48 := by simp [foldN]
theorem monFind_dash (x : UInt8) (t : List UInt8) : monFind ((x :: 45 :: t).take 3) monT 1 = 1 := by
  cases t <;> simp [monFind, monT]
/-- Another weekday's places hold no day and month of the date. -/
theorem aligned {D : Dt} (h : Right D) (q : Nat) (hq : q < 7) (hd : numAt (shT D) (atOf q) 2 = D.d) (hm : (monAt (shT D) (atOf q + 3) : Int) = D.m) : atOf q = atOf D.wd.toNat := by
  have := h.two.w0; have := h.two.w1
  have hdd := days_bd D.y D.m
  have := h.1.y0; have := h.1.y1; have := h.1.m0; have := h.1.m1; have := h.1.d0; have := h.1.d1
  obtain ⟨X, hX, hXl, x0, x1⟩ := longT_ends D.wd.toNat (by omega)
  obtain ⟨Y, _, hYl, y0, y1⟩ := longT_ends q hq
  obtain ⟨m0, m1, m2, hM, k0, _, k1, k2, k3⟩ := monT_bytes (D.m - 1).toNat (by omega)
  obtain ⟨U, hs⟩ : ∃ U, shT D = X ++ (121 :: 44 :: 32 :: UInt8.ofNat (48 + D.d / 10 % 10).toNat :: UInt8.ofNat (48 + D.d % 10).toNat :: 45 :: m0 :: m1 :: m2 :: 45 :: U) :=
    ⟨_, by unfold shT; rw [hX, hM]; simp [padL]; rfl⟩
  have da : (UInt8.ofNat (48 + D.d / 10 % 10).toNat).toNat = (48 + D.d / 10 % 10).toNat := UInt8.toNat_ofNat_of_lt' (by show _ < 256; omega)
  have db : (UInt8.ofNat (48 + D.d % 10).toNat).toNat = (48 + D.d % 10).toNat := UInt8.toNat_ofNat_of_lt' (by show _ < 256; omega)
  generalize UInt8.ofNat (48 + D.d / 10 % 10).toNat = ca at hs da
  generalize UInt8.ofNat (48 + D.d % 10).toNat = cb at hs db
  obtain ⟨j, hj⟩ : ∃ j, atOf q = X.length + j := ⟨atOf q - X.length, by omega⟩
  have hj6 : j = 0 ∨ j = 1 ∨ j = 2 ∨ j = 3 ∨ j = 4 ∨ j = 5 ∨ j = 6 := by omega
  unfold numAt at hd
  rw [hs, hj, List.drop_append, List.drop_of_length_le (by omega), List.nil_append, Nat.add_sub_cancel_left] at hd
  rcases hj6 with rfl | rfl | rfl | rfl | rfl | rfl | rfl
  · rw [List.drop_zero, foldN_two] at hd; simp at hd; omega
  · simp only [List.drop_succ_cons, List.drop_zero] at hd; rw [foldN_two] at hd; simp at hd; omega
  · simp only [List.drop_succ_cons, List.drop_zero] at hd; rw [foldN_two, da] at hd; simp at hd; omega
  · omega
  · simp only [List.drop_succ_cons, List.drop_zero] at hd; rw [foldN_two, db] at hd; simp at hd; omega
  · simp only [List.drop_succ_cons, List.drop_zero] at hd; rw [foldN_two] at hd; simp at hd
    have h1 : monAt (shT D) (atOf q + 3) = 1 := by
      unfold monAt
      split
      · rw [← List.take_drop, hj, hs, List.drop_append, List.drop_of_length_le (by omega), List.nil_append, show X.length + 5 + 3 - X.length = 8 from by omega]
        simp only [List.drop_succ_cons, List.drop_zero]
        exact monFind_dash _ _
      · rfl
    rw [h1] at hm
    exact absurd (by omega : (D.m - 1).toNat = 0) (k3 (by omega))
  · simp only [List.drop_succ_cons, List.drop_zero] at hd; rw [foldN_two] at hd; omega
theorem d2_back {D : Dt} {y0 : Int} {q : Nat} (h : Right D) (h0 : 1970 ≤ y0) (h1 : y0 ≤ 9999) (hy : yearOf y0 (D.y % 100) = D.y) (hq : atOf q = atOf D.wd.toNat) : d2 y0 (shT D) q = D.wdOf 0 := by
  have := h.two.w0; have := h.two.w1
  have hd := days_bd D.y D.m
  have := h.1.y0; have := h.1.y1; have := h.1.m0; have := h.1.m1; have := h.1.d0; have := h.1.d1
  have lw : (longT.getD D.wd.toNat []).length + 2 = atOf D.wd.toNat := rfl
  have lm := monT_len (D.m - 1).toNat (by omega)
  unfold d2
  rw [hq]
  generalize atOf D.wd.toNat = A at lw
  rw [at_time _ D (shT D) (longT.getD D.wd.toNat [] ++ (44 :: 32 :: (padL 2 D.d ++ (45 :: (monT.getD (D.m - 1).toNat [] ++ (45 :: (padL 2 (D.y % 100) ++ [32]))))))) [32, 71, 77, 84] (A + 10) (by simp [shT]) (by simp only [List.length_append, List.length_cons, List.length_nil, padL_length, lm]; omega) h.1,
    numAt_at (shT D) (longT.getD D.wd.toNat [] ++ (44 :: 32 :: (padL 2 D.d ++ (45 :: (monT.getD (D.m - 1).toNat [] ++ [45]))))) (32 :: (timeT D ++ [32, 71, 77, 84])) (A + 7) 2 (D.y % 100) (by simp [shT]) (by simp only [List.length_append, List.length_cons, List.length_nil, padL_length, lm]; omega) (by omega) (by omega),
    monAt_there (shT D) (longT.getD D.wd.toNat [] ++ (44 :: 32 :: (padL 2 D.d ++ [45]))) (45 :: (padL 2 (D.y % 100) ++ (32 :: (timeT D ++ [32, 71, 77, 84])))) (A + 3) (D.m - 1).toNat (by simp [shT]) (by simp only [List.length_append, List.length_cons, List.length_nil, padL_length]; omega) (by omega),
    numAt_at (shT D) (longT.getD D.wd.toNat [] ++ [44, 32]) (45 :: (monT.getD (D.m - 1).toNat [] ++ (45 :: (padL 2 (D.y % 100) ++ (32 :: (timeT D ++ [32, 71, 77, 84])))))) A 2 D.d (by simp [shT]) (by simp only [List.length_append, List.length_cons, List.length_nil]; omega) (by omega) (by omega),
    (year_eq y0 (D.y % 100) h0 h1 (by omega) (by omega)).1, hy]
  unfold Dt.wdOf
  rw [show (((D.m - 1).toNat + 1 : Nat) : Int) = D.m from by omega]

/-! Both answers are one. -/
theorem timed_right {D : Dt} (h : D.ok) : Right (timedD D) ∧ (timedD D).sec = timedN D := by
  unfold timedD timedN
  rw [if_pos h, if_pos h]
  exact ⟨(right_wdOf D _).2 ⟨h, rfl⟩, rfl⟩
theorem timed_back {D : Dt} (h : Right D) : (D.wdOf 0).ok ∧ timedD (D.wdOf 0) = D := by
  have hk : (D.wdOf 0).ok := (wdOf_ok D 0).2 h.1
  refine ⟨hk, ?_⟩
  unfold timedD
  rw [if_pos hk]
  have : ((D.wdOf 0).day + 4) % 7 = D.wd := h.2.symm
  rw [this]; rfl
theorem data_toList (a : Array UInt8) : ({ data := a } : ByteArray).toList = a.toList := ByteArray.toList_eq _
theorem fixB_T (D : Dt) : (fixB D).toList = fixT D := by
  unfold fixB fixT clockB timeT colon wdB monB
  simp only [toList_append, strB_toList, padS_toList, data_toList]; simp
theorem rfcB_T (D : Dt) : (rfcB D).toList = shT D := by
  unfold rfcB shT clockB timeT colon longB monB
  simp only [toList_append, strB_toList, padS_toList, data_toList]; simp
theorem dayT_T (blank : Bool) (d : Int) : (dayT blank d).toList = dayL blank d := by
  unfold dayT dayL
  split
  · have e : (padS 2 d).extract 1 2 = strB (padL 1 d) := by
      unfold padS; rw [extract_strB]; simp [padL]
    rw [e, toList_append, strB_toList, data_toList]; rfl
  · exact padS_toList _ _
theorem ascB_T (blank : Bool) (D : Dt) : (ascB blank D).toList = spT blank D := by
  unfold ascB spT clockB timeT colon wdB monB
  simp only [toList_append, strB_toList, padS_toList, data_toList, dayT_T]; simp
theorem acc1_iff (s : List UInt8) : (acc1 s ↔ rdOk (fixRd s)) ∧ (acc1 s → timedN (d1 s) = (fixRd s).D.sec) := by
  have fw : acc1 s → fixRd s = ⟨timedD (d1 s), [], true⟩ ∧ Right (timedD (d1 s)) ∧ timedN (d1 s) = (timedD (d1 s)).sec := by
    intro ⟨hk, hs⟩
    obtain ⟨hR, hS⟩ := timed_right hk
    rw [fixB_T] at hs
    refine ⟨?_, hR, hS.symm⟩
    have := fix_back hR
    rw [hs] at this; exact this
  refine ⟨⟨fun h => ?_, fun h => ?_⟩, fun h => ?_⟩
  · obtain ⟨e, hR, _⟩ := fw h; rw [e]; exact ⟨rfl, rfl, hR⟩
  · have hs := fix_inv h
    have hb := d1_back h.2.2
    rw [hs] at hb
    obtain ⟨a, b⟩ := timed_back h.2.2
    exact ⟨by rw [hb]; exact a, by rw [hb, b, fixB_T]; exact hs⟩
  · obtain ⟨e, _, hS⟩ := fw h; rw [e]; exact hS
theorem acc2_fw {y0 : Int} (h0 : 1970 ≤ y0) (h1 : y0 ≤ 9999) (s : List UInt8) (q : Nat) (hq : q < 7) (h : acc2 y0 s q) : rdOk (shRd y0 s) ∧ timedN (d2 y0 s q) = (shRd y0 s).D.sec := by
  obtain ⟨hk, hs⟩ := h
  obtain ⟨hR, hS⟩ := timed_right hk
  rw [rfcB_T] at hs
  have eD : timedD (d2 y0 s q) = (d2 y0 s q).wdOf (((d2 y0 s q).day + 4) % 7) := by unfold timedD; rw [if_pos hk]
  obtain ⟨D, hD⟩ : ∃ D, D = timedD (d2 y0 s q) := ⟨_, rfl⟩
  rw [← hD] at hR hS hs eD
  have ed : numAt s (atOf q) 2 = D.d := by rw [eD]; rfl
  have em : (monAt s (atOf q + 3) : Int) = D.m := by rw [eD]; rfl
  have ey : centGo 100 (9900 + numAt s (atOf q + 7) 2) (y0 + 50) = D.y := by rw [eD]; rfl
  rw [← hs] at ed em ey
  have hal := aligned hR q hq ed em
  have := hR.two.w0; have := hR.two.w1
  have := hR.1.y0; have := hR.1.m0; have := hR.1.m1
  have lw : (longT.getD D.wd.toNat []).length + 2 = atOf D.wd.toNat := rfl
  have lm := monT_len (D.m - 1).toNat (by omega)
  rw [hal, numAt_at (shT D) (longT.getD D.wd.toNat [] ++ (44 :: 32 :: (padL 2 D.d ++ (45 :: (monT.getD (D.m - 1).toNat [] ++ [45]))))) (32 :: (timeT D ++ [32, 71, 77, 84])) (atOf D.wd.toNat + 7) 2 (D.y % 100) (by simp [shT]) (by simp only [List.length_append, List.length_cons, List.length_nil, padL_length, lm]; omega) (by omega) (by omega),
    (year_eq y0 (D.y % 100) h0 h1 (by omega) (by omega)).1] at ey
  have hb := sh_back (now := y0) hR ey
  rw [hs] at hb
  rw [hb]
  exact ⟨⟨rfl, rfl, hR⟩, hS.symm⟩
theorem acc2_bw {y0 : Int} (h0 : 1970 ≤ y0) (h1 : y0 ≤ 9999) (s : List UInt8) (h : rdOk (shRd y0 s)) : ∃ q, q < 7 ∧ acc2 y0 s q := by
  have hR := h.2.2
  have hn : 0 ≤ numV 2 (shR2 s) ∧ numV 2 (shR2 s) ≤ 99 := num2_bd _
  have ye := (year_eq y0 (numV 2 (shR2 s)) h0 h1 hn.1 (by omega)).2
  have ey : (shRd y0 s).D.y = yearOf y0 (numV 2 (shR2 s)) := rfl
  have hs := sh_inv h (by rw [ey]; exact ye)
  have hyy : yearOf y0 ((shRd y0 s).D.y % 100) = (shRd y0 s).D.y := by rw [ey, ye]
  have := hR.two.w0; have := hR.two.w1
  refine ⟨(shRd y0 s).D.wd.toNat, by omega, ?_⟩
  have hb := d2_back (q := (shRd y0 s).D.wd.toNat) hR h0 h1 hyy rfl
  rw [hs] at hb
  obtain ⟨a, b⟩ := timed_back hR
  exact ⟨by rw [hb]; exact a, by rw [hb, b, rfcB_T]; exact hs⟩
theorem acc3_iff (s : List UInt8) : (acc3 s ↔ rdOk (spRd s)) ∧ (acc3 s → timedN (d3 s) = (spRd s).D.sec) := by
  have fw : acc3 s → spRd s = ⟨timedD (d3 s), [], true⟩ ∧ Right (timedD (d3 s)) ∧ timedN (d3 s) = (timedD (d3 s)).sec := by
    intro ⟨hk, hs⟩
    obtain ⟨hR, hS⟩ := timed_right hk
    rw [ascB_T, ascB_T] at hs
    refine ⟨?_, hR, hS.symm⟩
    rcases hs with hs | hs
    · have := sp_back true hR; rw [hs] at this; exact this
    · have := sp_back false hR; rw [hs] at this; exact this
  refine ⟨⟨fun h => ?_, fun h => ?_⟩, fun h => ?_⟩
  · obtain ⟨e, hR, _⟩ := fw h; rw [e]; exact ⟨rfl, rfl, hR⟩
  · obtain ⟨bl, hs⟩ := sp_inv h
    have hb := d3_back bl h.2.2
    rw [hs] at hb
    obtain ⟨a, b⟩ := timed_back h.2.2
    refine ⟨by rw [hb]; exact a, ?_⟩
    rw [hb, b, ascB_T, ascB_T]
    cases bl
    · exact Or.inr hs
    · exact Or.inl hs
  · obtain ⟨e, _, hS⟩ := fw h; rw [e]; exact hS
/-- What the reference says is what the journal reads. -/
theorem ref_read {y0 : Int} (h0 : 1970 ≤ y0) (h1 : y0 ≤ 9999) (s : List UInt8) (o : Option Int) (h : RefSays y0 s o) : o = readV y0 s := by
  obtain ⟨i1, v1⟩ := acc1_iff s
  obtain ⟨i3, v3⟩ := acc3_iff s
  unfold readV
  rcases h with ⟨a, rfl⟩ | ⟨a, q, hq, b, rfl⟩ | ⟨a, b, c, rfl⟩ | ⟨a, b, c, rfl⟩
  · rw [if_pos (i1.1 a), v1 a]
  · obtain ⟨k, e⟩ := acc2_fw h0 h1 s q hq b
    rw [if_neg (fun x => a (i1.2 x)), if_pos k, e]
  · have n2 : ¬ rdOk (shRd y0 s) := fun x => by obtain ⟨q, hq, k⟩ := acc2_bw h0 h1 s x; exact b q hq k
    rw [if_neg (fun x => a (i1.2 x)), if_neg n2, if_pos (i3.1 c), v3 c]
  · have n2 : ¬ rdOk (shRd y0 s) := fun x => by obtain ⟨q, hq, k⟩ := acc2_bw h0 h1 s x; exact b q hq k
    rw [if_neg (fun x => a (i1.2 x)), if_neg n2, if_neg (fun x => c (i3.2 x))]
end Go.Proofs.YtmejjhklknhniaaDoor
