/- The plain law of the three forms: what a reader of the journal makes of a text, and what text a date has. -/
import Derived.Test.YtmejjhklknhniaaDoorRr
import Derived.Test.YtmejjhklknhniaaDoorRdw
namespace Go.Proofs.YtmejjhklknhniaaDoor
open Go Go.RowKit

theorem pow10_pos (k : Nat) : (0 : Int) < 10 ^ k := Int.pow_pos (by decide)

/-- The first digit. -/
theorem padL_cons : ∀ (k : Nat) (d m : Int), 0 ≤ d → d ≤ 9 → 0 ≤ m → m < 10 ^ k → padL (k + 1) (d * 10 ^ k + m) = UInt8.ofNat (48 + d).toNat :: padL k m
  | 0, d, m, d0, d1, m0, m1 => by
    have : m = 0 := by simp at m1; omega
    subst this
    simp [padL]
    congr 2
    omega
  | k + 1, d, m, d0, d1, m0, m1 => by
    have hp : (10 : Int) ^ (k + 1) = 10 * 10 ^ k := by rw [Int.pow_succ]; omega
    rw [padL, hp] at *
    have e1 : (d * (10 * 10 ^ k) + m) / 10 = d * 10 ^ k + m / 10 := by
      rw [show d * (10 * 10 ^ k) = (d * 10 ^ k) * 10 from by rw [Int.mul_comm 10 (10 ^ k), Int.mul_assoc]]
      omega
    have e2 : (d * (10 * 10 ^ k) + m) % 10 = m % 10 := by
      rw [show d * (10 * 10 ^ k) = (d * 10 ^ k) * 10 from by rw [Int.mul_comm 10 (10 ^ k), Int.mul_assoc]]
      omega
    rw [e1, e2, padL_cons k d (m / 10) d0 d1 (by omega) (by omega)]
    rfl
theorem digit_bds (c : UInt8) (h : ¬(c < 48 || c > 57) = true) : 48 ≤ (c.toNat : Int) ∧ (c.toNat : Int) ≤ 57 := by
  simp [UInt8.lt_iff_toNat_lt] at h
  omega
theorem digit_back (c : UInt8) (h : 48 ≤ (c.toNat : Int)) : UInt8.ofNat (48 + ((c.toNat : Int) - 48)).toNat = c := by
  have : (48 + ((c.toNat : Int) - 48)).toNat = c.toNat := by omega
  rw [this]; simp

/-- What is read as a number is one, in so many digits. -/
theorem numGo_inv : ∀ (k : Nat) (n : Int) (r : List UInt8), (numGo k n r).2.2 = true → ∃ m, 0 ≤ m ∧ m < 10 ^ k ∧ (numGo k n r).1 = n * 10 ^ k + m ∧ r = padL k m ++ (numGo k n r).2.1
  | 0, n, r, _ => ⟨0, by omega, by simp, by simp [numGo], by simp [numGo, padL]⟩
  | k + 1, n, [], h => by simp [numGo] at h
  | k + 1, n, c :: r, h => by
    by_cases hc : (c < 48 || c > 57) = true
    · rw [numGo, if_pos hc] at h; simp at h
    · have hd := digit_bds c hc
      rw [numGo, if_neg hc] at h ⊢
      obtain ⟨m, m0, m1, hv, hr⟩ := numGo_inv k _ r h
      have hp : (10 : Int) ^ (k + 1) = 10 * 10 ^ k := by rw [Int.pow_succ]; omega
      have hq := pow10_pos k
      refine ⟨((c.toNat : Int) - 48) * 10 ^ k + m, ?_, ?_, ?_, ?_⟩
      · have := Int.mul_nonneg (show 0 ≤ (c.toNat : Int) - 48 by omega) (Int.le_of_lt hq); omega
      · rw [hp]
        have : ((c.toNat : Int) - 48) * 10 ^ k ≤ 9 * 10 ^ k := Int.mul_le_mul_of_nonneg_right (by omega) (by omega)
        omega
      · rw [hv, hp, Int.add_mul, ← Int.mul_assoc, Int.mul_comm n 10]; omega
      · rw [padL_cons k _ m (by omega) (by omega) m0 m1, digit_back c hd.1, List.cons_append, ← hr]
/-- A number in so many digits is read back. -/
theorem numGo_pad : ∀ (k : Nat) (n m : Int) (t : List UInt8), 0 ≤ m → m < 10 ^ k → numGo k n (padL k m ++ t) = (n * 10 ^ k + m, t, true)
  | 0, n, m, t, m0, m1 => by
    have : m = 0 := by simp at m1; omega
    subst this; simp [numGo, padL]
  | k + 1, n, m, t, m0, m1 => by
    have hp : (10 : Int) ^ (k + 1) = 10 * 10 ^ k := by rw [Int.pow_succ]; omega
    have hq := pow10_pos k
    rw [hp] at m1
    have d0 : 0 ≤ m / 10 ^ k := Int.ediv_nonneg m0 (by omega)
    have d1 : m / 10 ^ k ≤ 9 := by have := Int.ediv_lt_of_lt_mul hq (show m < 10 * 10 ^ k from m1); omega
    have e0 := Int.emod_nonneg m (show (10 : Int) ^ k ≠ 0 by omega)
    have e1 := Int.emod_lt_of_pos m hq
    have hm : m = m / 10 ^ k * 10 ^ k + m % 10 ^ k := by have := Int.mul_ediv_add_emod m (10 ^ k); rw [Int.mul_comm] at this; omega
    obtain ⟨d, hd⟩ : ∃ d, d = m / 10 ^ k := ⟨_, rfl⟩
    obtain ⟨x, hx⟩ : ∃ x, x = m % 10 ^ k := ⟨_, rfl⟩
    rw [← hd] at d0 d1 hm
    rw [← hx] at e0 e1 hm
    rw [hm, padL_cons k d x d0 d1 e0 e1, List.cons_append]
    have hc : (UInt8.ofNat (48 + d).toNat).toNat = (48 + d).toNat := UInt8.toNat_ofNat_of_lt' (by show _ < 256; omega)
    rw [numGo, if_neg (by simp [UInt8.lt_iff_toNat_lt, hc]; omega), hc, numGo_pad k _ x t e0 e1, hp]
    congr 1
    have e2 : ((48 + d).toNat : Int) - 48 = d := by omega
    have e3 : (10 * n + (((48 + d).toNat : Int)) - 48) = 10 * n + d := by omega
    have e4 : n * (10 * 10 ^ k) = 10 * n * 10 ^ k := by rw [← Int.mul_assoc, Int.mul_comm n 10]
    first | (rw [e3, Int.add_mul, e4, Int.add_assoc]) | (rw [e2, Int.add_mul, e4, Int.add_assoc])
end Go.Proofs.YtmejjhklknhniaaDoor
