/- The plain law of the three forms: each text of a date is read back as its second. -/
import Derived.Test.YtmejjhklknhniaaDoorPn
namespace Go.Proofs.YtmejjhklknhniaaDoor
open Go Go.RowKit

/-! Each text of a date is read back. -/
theorem fixT_3 (D : Dt) (h : Right D) : (fixT D)[3]? = some 44 := by
  have := h.two.w0; have := h.two.w1
  have lw := wdT_len D.wd.toNat (by omega)
  unfold fixT
  rw [List.getElem?_append_right (by omega), lw]; rfl
theorem spT_3 (b : Bool) (D : Dt) (h : Right D) : (spT b D)[3]? = some 32 := by
  have := h.two.w0; have := h.two.w1
  have lw := wdT_len D.wd.toNat (by omega)
  unfold spT
  rw [List.getElem?_append_right (by omega), lw]; rfl
theorem shT_3 (D : Dt) (h : Right D) : ∃ c, (shT D)[3]? = some c ∧ 97 ≤ c.toNat := by
  have := h.two.w0; have := h.two.w1
  unfold shT
  rcases seven (show D.wd.toNat < 7 by omega) with e | e | e | e | e | e | e <;> rw [e] <;> exact ⟨_, rfl, by decide⟩
theorem read_fix {D : Dt} (y : Int) (h : Right D) : readV y (fixT D) = some D.sec := by
  have e := fix_back h
  unfold readV
  rw [if_pos (by rw [e]; exact ⟨rfl, rfl, h⟩), e]
theorem read_sh {D : Dt} (y : Int) (h : Right D) (hy : yearOf y (D.y % 100) = D.y) : readV y (shT D) = some D.sec := by
  have e := sh_back (now := y) h hy
  have n1 : ¬ rdOk (fixRd (shT D)) := fun k => by
    have a := fix_inv k
    have b := fixT_3 _ k.2.2
    rw [a] at b
    obtain ⟨c, hc, hl⟩ := shT_3 D h
    rw [b] at hc; cases hc; exact absurd hl (by decide)
  unfold readV
  rw [if_neg n1, if_pos (by rw [e]; exact ⟨rfl, rfl, h⟩), e]
theorem read_sp {D : Dt} (b : Bool) (y : Int) (h0 : 1970 ≤ y) (h1 : y ≤ 9999) (h : Right D) : readV y (spT b D) = some D.sec := by
  have e := sp_back b h
  have hs := spT_3 b D h
  have n1 : ¬ rdOk (fixRd (spT b D)) := fun k => by
    have a := fix_inv k
    have b := fixT_3 _ k.2.2
    rw [a, hs] at b; cases b
  have n2 : ¬ rdOk (shRd y (spT b D)) := fun k => by
    have ye := (year_eq y (numV 2 (shR2 (spT b D))) h0 h1 (num2_bd _).1 (by have := (num2_bd (shR2 (spT b D))).2; omega)).2
    have a := sh_inv k ye
    obtain ⟨c, hc, hl⟩ := shT_3 _ k.2.2
    rw [a, hs] at hc; cases hc; exact absurd hl (by decide)
  unfold readV
  rw [if_neg n1, if_neg n2, if_pos (by rw [e]; exact ⟨rfl, rfl, h⟩), e]
theorem near_year (y Y : Int) (h0 : 1970 ≤ y) (h1 : y ≤ 9999) (g0 : 1970 ≤ Y) (g1 : Y ≤ 9999) (a : Y - 50 ≤ y) (b : y ≤ Y + 49) : yearOf y (Y % 100) = Y := by
  have ht : topOf y = if y + 50 ≤ 9999 then y + 50 else 9999 := rfl
  have e : yearOf y (Y % 100) = topOf y - (topOf y % 100 - Y % 100 + 100) % 100 := rfl
  rw [e]
  split at ht <;> rw [ht] <;> omega
/-- The texts of a date, in the order in which they are tried. -/
def formT (D : Dt) (i : Nat) : List UInt8 := if i = 0 then fixT D else if i = 1 then shT D else if i = 2 then spT false D else spT true D
theorem start_fits (y : Int) (h0 : 1970 ≤ y) (h1 : y ≤ 9999) : ∃ D : Dt, D.fits (aheadI y * 86400) ∧ D.y = y ∧ 0 ≤ aheadI y * 86400 ∧ aheadI y * 86400 ≤ 253402300799 := by
  have l0 := ahead_lo y h0
  have l1 := ahead_mono y 9999 h1
  have l2 : aheadI 9999 = 2932532 := by decide
  have hk : (⟨y, 1, 1, 0, 0, 0, (aheadI y + 4) % 7⟩ : Dt).ok := ⟨h0, h1, by simp, by simp, by simp, by have := days_bd y 1; show (1 : Int) ≤ daysI y 1; omega, by simp, by simp, by simp, by simp, by simp, by simp⟩
  have hd : (⟨y, 1, 1, 0, 0, 0, (aheadI y + 4) % 7⟩ : Dt).day = aheadI y := by unfold Dt.day; simp only [cum_1]; omega
  have hf := hk.fits (by rw [hd])
  have hs : (⟨y, 1, 1, 0, 0, 0, (aheadI y + 4) % 7⟩ : Dt).sec = aheadI y * 86400 := by unfold Dt.sec; rw [hd]; simp
  rw [hs] at hf
  exact ⟨_, hf.1, rfl, by omega, by omega⟩
end Go.Proofs.YtmejjhklknhniaaDoor
