/- The plain law of the three forms: a reader of the journal that ends well has read the text of its date, and gives a date back from its text. -/
import Derived.Test.YtmejjhklknhniaaDoorPl
namespace Go.Proofs.YtmejjhklknhniaaDoor
open Go Go.RowKit

/-- The texts of a date, as lists. -/
def timeT (D : Dt) : List UInt8 := padL 2 D.h ++ (58 :: (padL 2 D.mi ++ (58 :: padL 2 D.s)))
def fixT (D : Dt) : List UInt8 := wdT.getD D.wd.toNat [] ++ (44 :: 32 :: (padL 2 D.d ++ (32 :: (monT.getD (D.m - 1).toNat [] ++ (32 :: (padL 4 D.y ++ (32 :: (timeT D ++ [32, 71, 77, 84]))))))))
def shT (D : Dt) : List UInt8 := longT.getD D.wd.toNat [] ++ (44 :: 32 :: (padL 2 D.d ++ (45 :: (monT.getD (D.m - 1).toNat [] ++ (45 :: (padL 2 (D.y % 100) ++ (32 :: (timeT D ++ [32, 71, 77, 84]))))))))
def dayL (blank : Bool) (d : Int) : List UInt8 := if blank = true ∧ d < 10 then 32 :: padL 1 d else padL 2 d
def spT (blank : Bool) (D : Dt) : List UInt8 := wdT.getD D.wd.toNat [] ++ (32 :: (monT.getD (D.m - 1).toNat [] ++ (32 :: (dayL blank D.d ++ (32 :: (timeT D ++ (32 :: padL 4 D.y)))))))

/-! What a reader takes off. -/
theorem cutR_app (q t : List UInt8) : cutR (q ++ t) q = t := by
  unfold cutR; rw [if_pos (by rw [List.isPrefixOf_iff_prefix]; exact List.prefix_append _ _)]; simp
theorem cutR_inv {q l : List UInt8} (h : q.isPrefixOf l = true) : l = q ++ cutR l q := by
  unfold cutR; rw [if_pos h]
  obtain ⟨t, rfl⟩ := List.isPrefixOf_iff_prefix.1 h
  simp
theorem pre_app (q t : List UInt8) : q.isPrefixOf (q ++ t) = true := by rw [List.isPrefixOf_iff_prefix]; exact List.prefix_append _ _
theorem num_inv {k : Nat} {r : List UInt8} (h : numK k r = true) : 0 ≤ numV k r ∧ numV k r < 10 ^ k ∧ r = padL k (numV k r) ++ numR k r := by
  unfold numK at h; unfold numV numR
  obtain ⟨m, m0, m1, hv, hr⟩ := numGo_inv k 0 r h
  have e : (numGo k 0 r).1 = m := by rw [hv]; simp
  rw [e]; exact ⟨m0, m1, hr⟩
theorem num_back (k : Nat) (m : Int) (t : List UInt8) (m0 : 0 ≤ m) (m1 : m < 10 ^ k) : numK k (padL k m ++ t) = true ∧ numV k (padL k m ++ t) = m ∧ numR k (padL k m ++ t) = t := by
  unfold numK numV numR
  rw [numGo_pad k 0 m t m0 m1]
  simp
theorem nameGo_inv : ∀ (T : List (List UInt8)) (i : Nat) (r : List UInt8), (nameGo T i r).2.2 = true → ∃ j, j < T.length ∧ (nameGo T i r).1 = i + j ∧ r = T.getD j [] ++ (nameGo T i r).2.1
  | [], i, r, h => by simp [nameGo] at h
  | q :: T, i, r, h => by
    by_cases hq : q.isPrefixOf r = true
    · rw [nameGo, if_pos hq] at *
      exact ⟨0, by simp, by simp, by simpa using cutR_inv hq⟩
    · rw [nameGo, if_neg hq] at *
      obtain ⟨j, hj, hv, hr⟩ := nameGo_inv T (i + 1) r h
      exact ⟨j + 1, by simp; omega, by omega, by simpa using hr⟩
theorem name_inv {T : List (List UInt8)} {r : List UInt8} (h : nameK T r = true) : nameV T r < T.length ∧ r = T.getD (nameV T r) [] ++ nameR T r := by
  unfold nameK at h; unfold nameV nameR
  obtain ⟨j, hj, hv, hr⟩ := nameGo_inv T 0 r h
  have e : (nameGo T 0 r).1 = j := by omega
  rw [e]; exact ⟨hj, hr⟩
theorem seven {q : Nat} (h : q < 7) : q = 0 ∨ q = 1 ∨ q = 2 ∨ q = 3 ∨ q = 4 ∨ q = 5 ∨ q = 6 := by omega
theorem twelve {k : Nat} (h : k < 12) : k = 0 ∨ k = 1 ∨ k = 2 ∨ k = 3 ∨ k = 4 ∨ k = 5 ∨ k = 6 ∨ k = 7 ∨ k = 8 ∨ k = 9 ∨ k = 10 ∨ k = 11 := by omega
theorem wd_back (q : Nat) (t : List UInt8) (h : q < 7) : nameK wdT (wdT.getD q [] ++ t) = true ∧ nameV wdT (wdT.getD q [] ++ t) = q ∧ nameR wdT (wdT.getD q [] ++ t) = t := by
  unfold nameK nameV nameR
  rcases seven h with rfl | rfl | rfl | rfl | rfl | rfl | rfl <;> simp [wdT, nameGo, cutR, List.isPrefixOf]
theorem long_back (q : Nat) (t : List UInt8) (h : q < 7) : nameK longT (longT.getD q [] ++ t) = true ∧ nameV longT (longT.getD q [] ++ t) = q ∧ nameR longT (longT.getD q [] ++ t) = t := by
  unfold nameK nameV nameR
  rcases seven h with rfl | rfl | rfl | rfl | rfl | rfl | rfl <;> simp [longT, nameGo, cutR, List.isPrefixOf]
theorem mon_back (q : Nat) (t : List UInt8) (h : q < 12) : nameK monT (monT.getD q [] ++ t) = true ∧ nameV monT (monT.getD q [] ++ t) = q ∧ nameR monT (monT.getD q [] ++ t) = t := by
  unfold nameK nameV nameR
  rcases twelve h with rfl | rfl | rfl | rfl | rfl | rfl | rfl | rfl | rfl | rfl | rfl | rfl <;> simp [monT, nameGo, cutR, List.isPrefixOf]
theorem time_inv {r : List UInt8} (h : timeK r = true) :
    (0 ≤ numV 2 r ∧ numV 2 r < 100) ∧ (0 ≤ timeMi r ∧ timeMi r < 100) ∧ (0 ≤ timeS r ∧ timeS r < 100) ∧ r = padL 2 (numV 2 r) ++ (58 :: (padL 2 (timeMi r) ++ (58 :: (padL 2 (timeS r) ++ timeR r)))) := by
  unfold timeK at h; unfold timeMi timeS timeR
  simp only [Bool.and_eq_true] at h
  obtain ⟨⟨⟨⟨a, b⟩, c⟩, d⟩, e⟩ := h
  obtain ⟨a0, a1, a2⟩ := num_inv a
  have b2 := cutR_inv b
  obtain ⟨c0, c1, c2⟩ := num_inv c
  have d2 := cutR_inv d
  obtain ⟨e0, e1, e2⟩ := num_inv e
  refine ⟨⟨a0, by simpa using a1⟩, ⟨c0, by simpa using c1⟩, ⟨e0, by simpa using e1⟩, ?_⟩
  have g1 : padL 2 (numV 2 (cutR (numR 2 (cutR (numR 2 r) [58])) [58])) ++ numR 2 (cutR (numR 2 (cutR (numR 2 r) [58])) [58]) = cutR (numR 2 (cutR (numR 2 r) [58])) [58] := e2.symm
  rw [g1]
  have g2 : (58 :: cutR (numR 2 (cutR (numR 2 r) [58])) [58]) = numR 2 (cutR (numR 2 r) [58]) := d2.symm
  rw [g2]
  have g3 : padL 2 (numV 2 (cutR (numR 2 r) [58])) ++ numR 2 (cutR (numR 2 r) [58]) = cutR (numR 2 r) [58] := c2.symm
  rw [g3]
  have g4 : (58 :: cutR (numR 2 r) [58]) = numR 2 r := b2.symm
  rw [g4]
  exact a2
theorem time_back (D : Dt) (t : List UInt8) (h : D.ok) : timeK (timeT D ++ t) = true ∧ numV 2 (timeT D ++ t) = D.h ∧ timeMi (timeT D ++ t) = D.mi ∧ timeS (timeT D ++ t) = D.s ∧ timeR (timeT D ++ t) = t := by
  have := h.h0; have := h.h1; have := h.mi0; have := h.mi1; have := h.s0; have := h.s1
  have e : timeT D ++ t = padL 2 D.h ++ ([58] ++ (padL 2 D.mi ++ ([58] ++ (padL 2 D.s ++ t)))) := by simp [timeT]
  rw [e]
  unfold timeK timeMi timeS timeR
  obtain ⟨a, b, c⟩ := num_back 2 D.h ([58] ++ (padL 2 D.mi ++ ([58] ++ (padL 2 D.s ++ t)))) (by omega) (by omega)
  rw [a, b, c, cutR_app, pre_app]
  obtain ⟨a, b, c⟩ := num_back 2 D.mi ([58] ++ (padL 2 D.s ++ t)) (by omega) (by omega)
  rw [a, b, c, cutR_app, pre_app]
  obtain ⟨a, b, c⟩ := num_back 2 D.s t (by omega) (by omega)
  rw [a, b, c]
  exact ⟨rfl, rfl, rfl, rfl, rfl⟩

/-! A reader that ends well has read the text of its date. -/
theorem fix_inv {r : List UInt8} (h : rdOk (fixRd r)) : fixT (fixRd r).D = r := by
  obtain ⟨hk, hr, hD⟩ := h
  have hk : fixK r = true := hk
  have hr : cutR (timeR (fixR3 r)) [32, 71, 77, 84] = [] := hr
  unfold fixK at hk
  simp only [Bool.and_eq_true] at hk
  obtain ⟨⟨⟨⟨⟨⟨⟨⟨⟨a, b⟩, c⟩, d⟩, e⟩, f⟩, g⟩, h⟩, i⟩, j⟩ := hk
  obtain ⟨a1, a2⟩ := name_inv a
  have b2 := cutR_inv b
  obtain ⟨c0, c1, c2⟩ := num_inv c
  have d2 := cutR_inv d
  obtain ⟨e1, e2⟩ := name_inv e
  have f2 := cutR_inv f
  obtain ⟨g0, g1, g2⟩ := num_inv g
  have h2 := cutR_inv h
  obtain ⟨_, _, _, i2⟩ := time_inv i
  have j2 := cutR_inv j
  rw [hr] at j2
  unfold fixT timeT fixRd
  simp only
  rw [show ((nameV wdT r : Nat) : Int).toNat = nameV wdT r from by omega, show (1 + ((nameV monT (fixR1 r) : Nat) : Int) - 1).toNat = nameV monT (fixR1 r) from by omega]
  conv => rhs; rw [a2, b2]
  have z0 : cutR (nameR wdT r) [44, 32] = fixR0 r := rfl
  have z1 : cutR (numR 2 (fixR0 r)) [32] = fixR1 r := rfl
  have z2 : cutR (nameR monT (fixR1 r)) [32] = fixR2 r := rfl
  have z3 : cutR (numR 4 (fixR2 r)) [32] = fixR3 r := rfl
  rw [z0]; rw [z1] at d2; rw [z2] at f2; rw [z3] at h2
  conv => rhs; rw [c2, d2, e2, f2, g2, h2, i2, j2]
  simp
theorem sh_inv {now : Int} {r : List UInt8} (h : rdOk (shRd now r)) (hy : (shRd now r).D.y % 100 = numV 2 (shR2 r)) : shT (shRd now r).D = r := by
  obtain ⟨hk, hr, hD⟩ := h
  have hk : shK r = true := hk
  have hr : cutR (timeR (shR3 r)) [32, 71, 77, 84] = [] := hr
  unfold shK at hk
  simp only [Bool.and_eq_true] at hk
  obtain ⟨⟨⟨⟨⟨⟨⟨⟨⟨a, b⟩, c⟩, d⟩, e⟩, f⟩, g⟩, h⟩, i⟩, j⟩ := hk
  obtain ⟨a1, a2⟩ := name_inv a
  have b2 := cutR_inv b
  obtain ⟨c0, c1, c2⟩ := num_inv c
  have d2 := cutR_inv d
  obtain ⟨e1, e2⟩ := name_inv e
  have f2 := cutR_inv f
  obtain ⟨g0, g1, g2⟩ := num_inv g
  have h2 := cutR_inv h
  obtain ⟨_, _, _, i2⟩ := time_inv i
  have j2 := cutR_inv j
  rw [hr] at j2
  unfold shT timeT
  rw [hy]
  unfold shRd
  simp only
  rw [show ((nameV longT r : Nat) : Int).toNat = nameV longT r from by omega, show (1 + ((nameV monT (shR1 r) : Nat) : Int) - 1).toNat = nameV monT (shR1 r) from by omega]
  conv => rhs; rw [a2, b2]
  have z0 : cutR (nameR longT r) [44, 32] = shR0 r := rfl
  have z1 : cutR (numR 2 (shR0 r)) [45] = shR1 r := rfl
  have z2 : cutR (nameR monT (shR1 r)) [45] = shR2 r := rfl
  have z3 : cutR (numR 2 (shR2 r)) [32] = shR3 r := rfl
  rw [z0]; rw [z1] at d2; rw [z2] at f2; rw [z3] at h2
  conv => rhs; rw [c2, d2, e2, f2, g2, h2, i2, j2]
  simp
theorem day_inv {r : List UInt8} (h : dayK r = true) : ∃ blank, r = dayL blank (dayV r) ++ dayR r := by
  unfold dayK at h; unfold dayV dayR
  by_cases hp : [32].isPrefixOf r = true
  · rw [if_pos hp] at h ⊢
    rw [if_pos hp]
    have b2 := cutR_inv hp
    obtain ⟨c0, c1, c2⟩ := num_inv h
    refine ⟨true, ?_⟩
    unfold dayL
    rw [if_pos ⟨rfl, by simpa using c1⟩]
    conv => lhs; rw [b2, c2]
    simp
  · rw [if_neg hp] at h ⊢
    rw [if_neg hp]
    obtain ⟨c0, c1, c2⟩ := num_inv h
    exact ⟨false, by unfold dayL; rw [if_neg (by simp)]; exact c2⟩
theorem sp_inv {r : List UInt8} (h : rdOk (spRd r)) : ∃ blank, spT blank (spRd r).D = r := by
  obtain ⟨hk, hr, hD⟩ := h
  have hk : spK r = true := hk
  have hr : numR 4 (spR3 r) = [] := hr
  unfold spK at hk
  simp only [Bool.and_eq_true] at hk
  obtain ⟨⟨⟨⟨⟨⟨⟨⟨a, b⟩, c⟩, d⟩, e⟩, f⟩, g⟩, h⟩, i⟩ := hk
  obtain ⟨a1, a2⟩ := name_inv a
  have b2 := cutR_inv b
  obtain ⟨c1, c2⟩ := name_inv c
  have d2 := cutR_inv d
  obtain ⟨bl, e2⟩ := day_inv e
  have f2 := cutR_inv f
  obtain ⟨_, _, _, g2⟩ := time_inv g
  have h2 := cutR_inv h
  obtain ⟨_, _, i2⟩ := num_inv i
  rw [hr] at i2
  refine ⟨bl, ?_⟩
  unfold spT timeT spRd
  simp only
  rw [show ((nameV wdT r : Nat) : Int).toNat = nameV wdT r from by omega, show (1 + ((nameV monT (spR0 r) : Nat) : Int) - 1).toNat = nameV monT (spR0 r) from by omega]
  conv => rhs; rw [a2, b2]
  have z0 : cutR (nameR wdT r) [32] = spR0 r := rfl
  have z1 : cutR (nameR monT (spR0 r)) [32] = spR1 r := rfl
  have z2 : cutR (dayR (spR1 r)) [32] = spR2 r := rfl
  have z3 : cutR (timeR (spR2 r)) [32] = spR3 r := rfl
  rw [z0]; rw [z1] at d2; rw [z2] at f2; rw [z3] at h2
  conv => rhs; rw [c2, d2, e2, f2, g2, h2, i2]
  simp

/-! A reader gives a date back from its text. -/
structure Fits2 (D : Dt) : Prop where
  r : Right D
  w0 : 0 ≤ D.wd
  w1 : D.wd ≤ 6
theorem Right.two {D : Dt} (h : Right D) : Fits2 D := ⟨h, by have := h.2; omega, by have := h.2; omega⟩
theorem fix_back {D : Dt} (h : Right D) : fixRd (fixT D) = ⟨D, [], true⟩ := by
  have := h.two.w0; have := h.two.w1
  have hd := days_bd D.y D.m
  have := h.1.y0; have := h.1.y1; have := h.1.m0; have := h.1.m1; have := h.1.d0; have := h.1.d1
  obtain ⟨a, b, c⟩ := wd_back D.wd.toNat ([44, 32] ++ (padL 2 D.d ++ ([32] ++ (monT.getD (D.m - 1).toNat [] ++ ([32] ++ (padL 4 D.y ++ ([32] ++ (timeT D ++ [32, 71, 77, 84])))))))) (by omega)
  have e : fixT D = wdT.getD D.wd.toNat [] ++ ([44, 32] ++ (padL 2 D.d ++ ([32] ++ (monT.getD (D.m - 1).toNat [] ++ ([32] ++ (padL 4 D.y ++ ([32] ++ (timeT D ++ [32, 71, 77, 84])))))))) := by simp [fixT]
  rw [← e] at a b c
  have r0 : fixR0 (fixT D) = cutR (nameR wdT (fixT D)) [44, 32] := rfl
  rw [c, cutR_app] at r0
  obtain ⟨a1, b1, c1⟩ := num_back 2 D.d ([32] ++ (monT.getD (D.m - 1).toNat [] ++ ([32] ++ (padL 4 D.y ++ ([32] ++ (timeT D ++ [32, 71, 77, 84])))))) (by omega) (by omega)
  have r1 : fixR1 (fixT D) = cutR (numR 2 (fixR0 (fixT D))) [32] := rfl
  rw [r0, c1, cutR_app] at r1
  obtain ⟨a2, b2, c2⟩ := mon_back (D.m - 1).toNat ([32] ++ (padL 4 D.y ++ ([32] ++ (timeT D ++ [32, 71, 77, 84])))) (by omega)
  have r2 : fixR2 (fixT D) = cutR (nameR monT (fixR1 (fixT D))) [32] := rfl
  rw [r1, c2, cutR_app] at r2
  obtain ⟨a3, b3, c3⟩ := num_back 4 D.y ([32] ++ (timeT D ++ [32, 71, 77, 84])) (by omega) (by omega)
  have r3 : fixR3 (fixT D) = cutR (numR 4 (fixR2 (fixT D))) [32] := rfl
  rw [r2, c3, cutR_app] at r3
  obtain ⟨a4, b4, c4, d4, e4⟩ := time_back D [32, 71, 77, 84] h.1
  have hc : cutR [32, 71, 77, 84] [32, 71, 77, 84] = [] := by rfl
  have hK : fixK (fixT D) = true := by
    unfold fixK
    rw [a, c, r0, a1, c1, r1, a2, c2, r2, a3, c3, r3, a4, e4]
    simp only [pre_app]; rfl
  unfold fixRd
  rw [hK, r2, b3, r1, b2, r0, b1, r3, b4, c4, d4, b, e4, hc]
  congr 1
  rw [show ((D.wd.toNat : Nat) : Int) = D.wd from by omega, show (1 + (((D.m - 1).toNat : Nat) : Int)) = D.m from by omega]
theorem sh_back {D : Dt} {now : Int} (h : Right D) (hy : yearOf now (D.y % 100) = D.y) : shRd now (shT D) = ⟨D, [], true⟩ := by
  have := h.two.w0; have := h.two.w1
  have hd := days_bd D.y D.m
  have := h.1.y0; have := h.1.y1; have := h.1.m0; have := h.1.m1; have := h.1.d0; have := h.1.d1
  obtain ⟨a, b, c⟩ := long_back D.wd.toNat ([44, 32] ++ (padL 2 D.d ++ ([45] ++ (monT.getD (D.m - 1).toNat [] ++ ([45] ++ (padL 2 (D.y % 100) ++ ([32] ++ (timeT D ++ [32, 71, 77, 84])))))))) (by omega)
  have e : shT D = longT.getD D.wd.toNat [] ++ ([44, 32] ++ (padL 2 D.d ++ ([45] ++ (monT.getD (D.m - 1).toNat [] ++ ([45] ++ (padL 2 (D.y % 100) ++ ([32] ++ (timeT D ++ [32, 71, 77, 84])))))))) := by simp [shT]
  rw [← e] at a b c
  have r0 : shR0 (shT D) = cutR (nameR longT (shT D)) [44, 32] := rfl
  rw [c, cutR_app] at r0
  obtain ⟨a1, b1, c1⟩ := num_back 2 D.d ([45] ++ (monT.getD (D.m - 1).toNat [] ++ ([45] ++ (padL 2 (D.y % 100) ++ ([32] ++ (timeT D ++ [32, 71, 77, 84])))))) (by omega) (by omega)
  have r1 : shR1 (shT D) = cutR (numR 2 (shR0 (shT D))) [45] := rfl
  rw [r0, c1, cutR_app] at r1
  obtain ⟨a2, b2, c2⟩ := mon_back (D.m - 1).toNat ([45] ++ (padL 2 (D.y % 100) ++ ([32] ++ (timeT D ++ [32, 71, 77, 84])))) (by omega)
  have r2 : shR2 (shT D) = cutR (nameR monT (shR1 (shT D))) [45] := rfl
  rw [r1, c2, cutR_app] at r2
  obtain ⟨a3, b3, c3⟩ := num_back 2 (D.y % 100) ([32] ++ (timeT D ++ [32, 71, 77, 84])) (by omega) (by omega)
  have r3 : shR3 (shT D) = cutR (numR 2 (shR2 (shT D))) [32] := rfl
  rw [r2, c3, cutR_app] at r3
  obtain ⟨a4, b4, c4, d4, e4⟩ := time_back D [32, 71, 77, 84] h.1
  have hc : cutR [32, 71, 77, 84] [32, 71, 77, 84] = [] := by rfl
  have hK : shK (shT D) = true := by
    unfold shK
    rw [a, c, r0, a1, c1, r1, a2, c2, r2, a3, c3, r3, a4, e4]
    simp only [pre_app]; rfl
  unfold shRd
  rw [hK, r2, b3, r1, b2, r0, b1, r3, b4, c4, d4, b, e4, hc, hy]
  congr 1
  rw [show ((D.wd.toNat : Nat) : Int) = D.wd from by omega, show (1 + (((D.m - 1).toNat : Nat) : Int)) = D.m from by omega]
theorem day_back (blank : Bool) (d : Int) (t : List UInt8) (h0 : 1 ≤ d) (h1 : d ≤ 31) : dayK (dayL blank d ++ t) = true ∧ dayV (dayL blank d ++ t) = d ∧ dayR (dayL blank d ++ t) = t := by
  unfold dayL
  by_cases hb : blank = true ∧ d < 10
  · rw [if_pos hb]
    have hp : [32].isPrefixOf (32 :: padL 1 d ++ t) = true := by simp [List.isPrefixOf]
    have hc : cutR (32 :: padL 1 d ++ t) [32] = padL 1 d ++ t := cutR_app [32] (padL 1 d ++ t)
    unfold dayK dayV dayR
    rw [if_pos hp, if_pos hp, if_pos hp, hc]
    exact num_back 1 d t (by omega) (by have := hb.2; omega)
  · rw [if_neg hb]
    have hp : ¬ [32].isPrefixOf (padL 2 d ++ t) = true := by
      have : UInt8.ofNat (48 + d / 10 % 10).toNat ≠ 32 := by
        intro e
        have := congrArg UInt8.toNat e
        rw [UInt8.toNat_ofNat_of_lt' (by show _ < 256; omega)] at this
        simp at this; omega
      simp [padL, List.isPrefixOf]
      exact fun e => this e.symm
    unfold dayK dayV dayR
    rw [if_neg hp, if_neg hp, if_neg hp]
    exact num_back 2 d t (by omega) (by omega)
theorem sp_back {D : Dt} (blank : Bool) (h : Right D) : spRd (spT blank D) = ⟨D, [], true⟩ := by
  have := h.two.w0; have := h.two.w1
  have hd := days_bd D.y D.m
  have := h.1.y0; have := h.1.y1; have := h.1.m0; have := h.1.m1; have := h.1.d0; have := h.1.d1
  obtain ⟨a, b, c⟩ := wd_back D.wd.toNat ([32] ++ (monT.getD (D.m - 1).toNat [] ++ ([32] ++ (dayL blank D.d ++ ([32] ++ (timeT D ++ ([32] ++ (padL 4 D.y ++ [])))))))) (by omega)
  have e : spT blank D = wdT.getD D.wd.toNat [] ++ ([32] ++ (monT.getD (D.m - 1).toNat [] ++ ([32] ++ (dayL blank D.d ++ ([32] ++ (timeT D ++ ([32] ++ (padL 4 D.y ++ [])))))))) := by simp [spT]
  rw [← e] at a b c
  have r0 : spR0 (spT blank D) = cutR (nameR wdT (spT blank D)) [32] := rfl
  rw [c, cutR_app] at r0
  obtain ⟨a2, b2, c2⟩ := mon_back (D.m - 1).toNat ([32] ++ (dayL blank D.d ++ ([32] ++ (timeT D ++ ([32] ++ (padL 4 D.y ++ [])))))) (by omega)
  have r1 : spR1 (spT blank D) = cutR (nameR monT (spR0 (spT blank D))) [32] := rfl
  rw [r0, c2, cutR_app] at r1
  obtain ⟨a1, b1, c1⟩ := day_back blank D.d ([32] ++ (timeT D ++ ([32] ++ (padL 4 D.y ++ [])))) (by omega) (by omega)
  have r2 : spR2 (spT blank D) = cutR (dayR (spR1 (spT blank D))) [32] := rfl
  rw [r1, c1, cutR_app] at r2
  obtain ⟨a4, b4, c4, d4, e4⟩ := time_back D ([32] ++ (padL 4 D.y ++ [])) h.1
  have r3 : spR3 (spT blank D) = cutR (timeR (spR2 (spT blank D))) [32] := rfl
  rw [r2, e4, cutR_app] at r3
  obtain ⟨a3, b3, c3⟩ := num_back 4 D.y [] (by omega) (by omega)
  have hK : spK (spT blank D) = true := by
    unfold spK
    rw [a, c, r0, a2, c2, r1, a1, c1, r2, a4, e4, r3, a3]
    simp only [pre_app]; rfl
  unfold spRd
  rw [hK, r3, b3, r0, b2, r1, b1, r2, b4, c4, d4, b, c3]
  congr 1
  rw [show ((D.wd.toNat : Nat) : Int) = D.wd from by omega, show (1 + (((D.m - 1).toNat : Nat) : Int)) = D.m from by omega]
end Go.Proofs.YtmejjhklknhniaaDoor
