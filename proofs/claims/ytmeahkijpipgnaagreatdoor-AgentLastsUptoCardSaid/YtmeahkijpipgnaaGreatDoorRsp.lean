/- The plain law of ReadSetCookie: where a text is cut, what a numeral reads as. -/
import Derived.Test.YtmeahkijpipgnaaGreatDoorSck
import Derived.Lib.AtoiAll
import Derived.Lib.ItoaNum
import Derived.Lib.IndexMore
namespace Go.Proofs.YtmeahkijpipgnaaGreatDoor
open Go Go.RowKit

theorem index_at (a r t : List UInt8) (c : UInt8) (h : ∀ x ∈ a, x ≠ c) : Lib.index (a ++ (c :: t) ++ r) (c :: t) = (a.length : Int) := by
  induction a with
  | nil =>
    simp only [List.nil_append, List.cons_append, Lib.index, List.length_nil]
    rw [if_pos (by simp [List.isPrefixOf])]
    rfl
  | cons x a ih =>
    have hx : x ≠ c := h x (by simp)
    have ih' := ih (fun y hy => h y (by simp [hy]))
    simp only [List.cons_append, Lib.index] at ih' ⊢
    rw [if_neg (by simp [List.isPrefixOf, Ne.symm hx])]
    rw [ih']
    rw [if_neg (by rw [beq_iff_eq]; omega)]
    simp
theorem cut_at (a r t : List UInt8) (c : UInt8) (h : ∀ x ∈ a, x ≠ c) : Lib.cut (a ++ (c :: t) ++ r) (c :: t) = (a, r, true) := by
  unfold Lib.cut
  rw [index_at a r t c h, if_pos (by omega)]
  simp only [Int.toNat_natCast]
  rw [List.append_assoc, List.take_left]
  congr 2
  rw [← List.append_assoc, ← List.length_append, List.drop_left]
theorem dec_digit (u : Nat) : ∀ x ∈ Lib.decDigits u, 48 ≤ x.toNat ∧ x.toNat ≤ 57 := by
  induction u using Nat.strongRecOn with
  | ind u ih =>
    intro x hx
    rw [Lib.decDigits] at hx
    split at hx
    · simp only [List.mem_singleton] at hx
      subst hx
      rw [UInt8.toNat_ofNat']
      omega
    · rw [List.mem_append, List.mem_singleton] at hx
      rcases hx with hx | hx
      · exact ih (u / 10) (by omega) x hx
      · subst hx
        rw [UInt8.toNat_ofNat']
        omega
theorem parse_append (l r : List UInt8) : ∀ acc v, Lib.parseUint10 acc l = .ok v → Lib.parseUint10 acc (l ++ r) = Lib.parseUint10 v r := by
  induction l with
  | nil => intro acc v h; simp only [Lib.parseUint10, Lib.NumEnd.ok.injEq] at h; subst h; rfl
  | cons c l ih =>
    intro acc v h
    simp only [List.cons_append, Lib.parseUint10] at h ⊢
    split at h
    · rename_i h1
      rw [if_pos h1]
      split at h
      · cases h
      · rename_i h2
        rw [if_neg h2]
        split at h
        · cases h
        · rename_i h3
          rw [if_neg h3]
          exact ih _ _ h
    · cases h
theorem parse_dec (u : Nat) (h : u < 9223372036854775808) : Lib.parseUint10 0 (Lib.decDigits u) = .ok u := by
  induction u using Nat.strongRecOn with
  | ind u ih =>
    rw [Lib.decDigits]
    split
    · simp only [Lib.parseUint10, UInt8.toNat_ofNat']
      rw [if_pos (by omega), if_neg (by omega), if_neg (by omega)]
      congr 1
      omega
    · rw [parse_append _ _ _ _ (ih (u / 10) (by omega) (by omega))]
      simp only [Lib.parseUint10, UInt8.toNat_ofNat']
      rw [if_pos (by omega), if_neg (by omega), if_neg (by omega)]
      congr 1
      omega
theorem dec_ne (u : Nat) : Lib.decDigits u ≠ [] := by
  rw [Lib.decDigits]; split <;> simp
theorem atoi_itoa (a : Int) (h0 : 0 ≤ a) (h1 : a ≤ 9223372036854775807) : Lib.atoiAll (Lib.itoa a) = .ok a := by
  have hp := parse_dec a.toNat (by omega)
  have hd := dec_digit a.toNat
  have hn := dec_ne a.toNat
  have hi : Lib.itoa a = Lib.decDigits a.toNat := by unfold Lib.itoa; rw [if_neg (by omega)]
  rw [hi]
  generalize hl : Lib.decDigits a.toNat = l at *
  cases l with
  | nil => exact absurd rfl hn
  | cons c r =>
    have hc := hd c (by simp)
    simp only [Lib.atoiAll]
    rw [if_neg (by omega)]
    simp only [Lib.parseMag]
    rw [if_neg (by simp), hp]
    simp only
    rw [if_neg (by omega), if_neg (by omega), if_neg (by omega)]
    congr 1
    omega
theorem itoa_digit (a : Int) (h0 : 0 ≤ a) : ∀ x ∈ Lib.itoa a, 48 ≤ x.toNat ∧ x.toNat ≤ 57 := by
  unfold Lib.itoa; rw [if_neg (by omega)]; exact dec_digit _
theorem tok_no (l : List UInt8) (h : tokenB l = true) : ∀ x ∈ l, x ≠ 61 := by
  intro x hx e
  subst e
  simp only [tokenB, allB, Bool.and_eq_true, List.all_eq_true] at h
  exact absurd (h.2 _ hx) (by decide)
theorem cook_no (l : List UInt8) (h : allB 2 l = true) : ∀ x ∈ l, x ≠ 59 := by
  intro x hx e
  subst e
  simp only [allB, List.all_eq_true] at h
  exact absurd (h _ hx) (by decide)
end Go.Proofs.YtmeahkijpipgnaaGreatDoor
