import Derived.Test.YtmejjhklknhniaaDoorCur
import Derived.Test.YtmejjhklknhniaaDoorTxt
namespace Go.Proofs.YtmejjhklknhniaaDoor
open Go Go.RowKit


def numV (k : Nat) (r : List UInt8) : Int := (numGo k 0 r).1
def numR (k : Nat) (r : List UInt8) : List UInt8 := (numGo k 0 r).2.1
def numK (k : Nat) (r : List UInt8) : Bool := (numGo k 0 r).2.2
def nameV (T : List (List UInt8)) (r : List UInt8) : Nat := (nameGo T 0 r).1
def nameR (T : List (List UInt8)) (r : List UInt8) : List UInt8 := (nameGo T 0 r).2.1
def nameK (T : List (List UInt8)) (r : List UInt8) : Bool := (nameGo T 0 r).2.2
theorem numR_len (k : Nat) (r : List UInt8) : (numR k r).length ≤ r.length := numGo_len k 0 r
theorem nameR_len (T : List (List UInt8)) (r : List UInt8) : (nameR T r).length ≤ r.length := nameGo_len T 0 r
theorem nameV_le (T : List (List UInt8)) (r : List UInt8) : nameV T r ≤ T.length := by have := nameGo_lt T 0 r; unfold nameV; omega
theorem numGo_bd (k : Nat) : ∀ (n : Int) r, 0 ≤ n → 0 ≤ (numGo k n r).1 ∧ (numGo k n r).1 < (n + 1) * 10 ^ k := by
  induction k with
  | zero => intro n r h; simp [numGo]; omega
  | succ k ih =>
    intro n r h
    have hp : (0 : Int) < 10 ^ k := Int.pow_pos (by decide)
    have hz : (0 : Int) < (n + 1) * 10 ^ (k + 1) := by
      have : (0 : Int) < 10 ^ (k + 1) := Int.pow_pos (by decide)
      exact Int.mul_pos (by omega) this
    cases r with
    | nil => simp [numGo]; exact hz
    | cons c r =>
      rw [numGo]
      split
      · simp; exact hz
      · rename_i hc
        simp [UInt8.lt_iff_toNat_lt] at hc
        have := ih (10 * n + ((c.toNat : Int) - 48)) r (by omega)
        refine ⟨this.1, Int.lt_of_lt_of_le this.2 ?_⟩
        rw [Int.pow_succ, Int.mul_comm (10 ^ k) 10, ← Int.mul_assoc]
        exact Int.mul_le_mul_of_nonneg_right (by omega) (by omega)
theorem num2_bd (r : List UInt8) : 0 ≤ numV 2 r ∧ numV 2 r ≤ 99 := by have := numGo_bd 2 0 r (by omega); unfold numV; simp at this; omega

theorem num_any (b : Nat) (w : World) (k : Nat) (r : List UInt8) (bad : Bool) (y m d h mi s wd now : Int) (hb : b < w.heap.size) (hr : r.length ≤ maxLen) (hk : k ≤ 4) :
    Calls Tryd.prog 51 #[.pointer (some ⟨b, 0, none⟩), .int .i64 (k : Int)] (put w b 63 [Value.string (strB (r)), Value.bool (bad), Value.int IntKind.i64 (y), Value.int IntKind.i64 (m), Value.int IntKind.i64 (d), Value.int IntKind.i64 (h), Value.int IntKind.i64 (mi), Value.int IntKind.i64 (s), Value.int IntKind.i64 (wd), Value.int IntKind.i64 (now)]) fun e w' =>
      e = .returned (.int .i64 (numV k r)) ∧ put w b 63 [Value.string (strB (numR k r)), Value.bool (bad || !(numK k r)), Value.int IntKind.i64 (y), Value.int IntKind.i64 (m), Value.int IntKind.i64 (d), Value.int IntKind.i64 (h), Value.int IntKind.i64 (mi), Value.int IntKind.i64 (s), Value.int IntKind.i64 (wd), Value.int IntKind.i64 (now)] = w' :=
  number_any b w k r bad y m d h mi s wd now hb hr hk

def col : List UInt8 := [58]
def timeR (r : List UInt8) : List UInt8 := numR 2 (cutR (numR 2 (cutR (numR 2 r) [58])) [58])
def timeMi (r : List UInt8) : Int := numV 2 (cutR (numR 2 r) [58])
def timeS (r : List UInt8) : Int := numV 2 (cutR (numR 2 (cutR (numR 2 r) [58])) [58])
def timeK (r : List UInt8) : Bool := numK 2 r && [58].isPrefixOf (numR 2 r) && numK 2 (cutR (numR 2 r) [58]) && [58].isPrefixOf (numR 2 (cutR (numR 2 r) [58])) && numK 2 (cutR (numR 2 (cutR (numR 2 r) [58])) [58])
theorem timeR_len (r : List UInt8) : (timeR r).length ≤ r.length :=
  Nat.le_trans (numR_len _ _) (Nat.le_trans (cutR_len _ _) (Nat.le_trans (numR_len _ _) (Nat.le_trans (cutR_len _ _) (numR_len _ _))))


set_option maxHeartbeats 2000000 in
theorem time_any (b : Nat) (w : World) (r : List UInt8) (bad : Bool) (y m d h mi s wd now : Int) (hb : b < w.heap.size) (hr : r.length ≤ maxLen) :
    Calls Tryd.prog 52 #[.pointer (some ⟨b, 0, none⟩)] (put w b 63 [Value.string (strB (r)), Value.bool (bad), Value.int IntKind.i64 (y), Value.int IntKind.i64 (m), Value.int IntKind.i64 (d), Value.int IntKind.i64 (h), Value.int IntKind.i64 (mi), Value.int IntKind.i64 (s), Value.int IntKind.i64 (wd), Value.int IntKind.i64 (now)]) fun e w' =>
      e = .returned (.tuple #[]) ∧ put w b 63 [Value.string (strB (timeR r)), Value.bool (bad || !(timeK r)), Value.int IntKind.i64 (y), Value.int IntKind.i64 (m), Value.int IntKind.i64 (d), Value.int IntKind.i64 (numV 2 r), Value.int IntKind.i64 (timeMi r), Value.int IntKind.i64 (timeS r), Value.int IntKind.i64 (wd), Value.int IntKind.i64 (now)] = w' := by
  have HR := Lib.hid hr
  clear hr
  have hq : ([58] : List UInt8).length ≤ maxLen := by decide
  go_enter Tryd.func52, Tryd.ntmps52
  go_wp2_with (first
    | (go_at_call 51; refine (num_any _ _ 2 _ _ _ _ _ _ _ _ _ _ hb (by ((repeat (first | assumption | exact Hid.out ‹_› | refine Nat.le_trans (numR_len _ _) ?_ | refine Nat.le_trans (nameR_len _ _) ?_ | refine Nat.le_trans (cutR_len _ _) ?_ | refine Nat.le_trans (timeR_len _) ?_)))) (by decide)).mono ?_; rintro e w' ⟨rfl, rfl⟩)
    | (go_at_call 50; refine (mark_any _ _ _ [58] _ _ _ _ _ _ _ _ _ hb (by ((repeat (first | assumption | exact Hid.out ‹_› | refine Nat.le_trans (numR_len _ _) ?_ | refine Nat.le_trans (nameR_len _ _) ?_ | refine Nat.le_trans (cutR_len _ _) ?_ | refine Nat.le_trans (timeR_len _) ?_)))) hq).mono ?_; rintro e w' ⟨h1, h2⟩; subst h1; subst h2))
  go_end0
  refine ⟨rfl, ?_⟩
  unfold timeR timeMi timeS timeK
  congr 3
  simp [Bool.or_assoc, Bool.and_assoc]

theorem wdName_any (b : Nat) (w : World) (r : List UInt8) (bad : Bool) (y m d h mi s wd now : Int) (hb : b < w.heap.size) (hr : r.length ≤ maxLen) (hg : ∀ k : Nat, k < 7 → w.cell? ⟨7, k, none⟩ = some (.string (wdB k))) (hne : ¬ 7 = b) :
    Calls Tryd.prog 49 #[.pointer (some ⟨b, 0, none⟩), .slice (some ⟨7, 0, none⟩) 7 7] (put w b 63 [Value.string (strB (r)), Value.bool (bad), Value.int IntKind.i64 (y), Value.int IntKind.i64 (m), Value.int IntKind.i64 (d), Value.int IntKind.i64 (h), Value.int IntKind.i64 (mi), Value.int IntKind.i64 (s), Value.int IntKind.i64 (wd), Value.int IntKind.i64 (now)]) fun e w' =>
      e = .returned (.int .i64 (nameV wdT r : Int)) ∧ put w b 63 [Value.string (strB (nameR wdT r)), Value.bool (bad || !(nameK wdT r)), Value.int IntKind.i64 (y), Value.int IntKind.i64 (m), Value.int IntKind.i64 (d), Value.int IntKind.i64 (h), Value.int IntKind.i64 (mi), Value.int IntKind.i64 (s), Value.int IntKind.i64 (wd), Value.int IntKind.i64 (now)] = w' :=
  name_any b 7 w wdT r bad y m d h mi s wd now hb hr (by decide) (by decide) hg hne
theorem moName_any (b : Nat) (w : World) (r : List UInt8) (bad : Bool) (y m d h mi s wd now : Int) (hb : b < w.heap.size) (hr : r.length ≤ maxLen) (hg : ∀ k : Nat, k < 12 → w.cell? ⟨8, k, none⟩ = some (.string (monB k))) (hne : ¬ 8 = b) :
    Calls Tryd.prog 49 #[.pointer (some ⟨b, 0, none⟩), .slice (some ⟨8, 0, none⟩) 12 12] (put w b 63 [Value.string (strB (r)), Value.bool (bad), Value.int IntKind.i64 (y), Value.int IntKind.i64 (m), Value.int IntKind.i64 (d), Value.int IntKind.i64 (h), Value.int IntKind.i64 (mi), Value.int IntKind.i64 (s), Value.int IntKind.i64 (wd), Value.int IntKind.i64 (now)]) fun e w' =>
      e = .returned (.int .i64 (nameV monT r : Int)) ∧ put w b 63 [Value.string (strB (nameR monT r)), Value.bool (bad || !(nameK monT r)), Value.int IntKind.i64 (y), Value.int IntKind.i64 (m), Value.int IntKind.i64 (d), Value.int IntKind.i64 (h), Value.int IntKind.i64 (mi), Value.int IntKind.i64 (s), Value.int IntKind.i64 (wd), Value.int IntKind.i64 (now)] = w' :=
  name_any b 8 w monT r bad y m d h mi s wd now hb hr (by decide) (by decide) hg hne
def longT : List (List UInt8) := [[83, 117, 110, 100, 97, 121], [77, 111, 110, 100, 97, 121], [84, 117, 101, 115, 100, 97, 121], [87, 101, 100, 110, 101, 115, 100, 97, 121], [84, 104, 117, 114, 115, 100, 97, 121], [70, 114, 105, 100, 97, 121], [83, 97, 116, 117, 114, 100, 97, 121]]
def longB (k : Nat) : ByteArray := strB (longT.getD k [])
theorem longName_any (b : Nat) (w : World) (r : List UInt8) (bad : Bool) (y m d h mi s wd now : Int) (hb : b < w.heap.size) (hr : r.length ≤ maxLen) (hg : ∀ k : Nat, k < 7 → w.cell? ⟨20, k, none⟩ = some (.string (longB k))) (hne : ¬ 20 = b) :
    Calls Tryd.prog 49 #[.pointer (some ⟨b, 0, none⟩), .slice (some ⟨20, 0, none⟩) 7 7] (put w b 63 [Value.string (strB (r)), Value.bool (bad), Value.int IntKind.i64 (y), Value.int IntKind.i64 (m), Value.int IntKind.i64 (d), Value.int IntKind.i64 (h), Value.int IntKind.i64 (mi), Value.int IntKind.i64 (s), Value.int IntKind.i64 (wd), Value.int IntKind.i64 (now)]) fun e w' =>
      e = .returned (.int .i64 (nameV longT r : Int)) ∧ put w b 63 [Value.string (strB (nameR longT r)), Value.bool (bad || !(nameK longT r)), Value.int IntKind.i64 (y), Value.int IntKind.i64 (m), Value.int IntKind.i64 (d), Value.int IntKind.i64 (h), Value.int IntKind.i64 (mi), Value.int IntKind.i64 (s), Value.int IntKind.i64 (wd), Value.int IntKind.i64 (now)] = w' :=
  name_any b 20 w longT r bad y m d h mi s wd now hb hr (by decide) (by decide) hg hne

/-- What a reader makes of a text: the date, what is left, whether all was there. -/
structure Rd where
  D : Dt
  r : List UInt8
  k : Bool
def gmt : List UInt8 := [32, 71, 77, 84]
/-- Name, comma, day. -/
def fixR0 (r : List UInt8) : List UInt8 := cutR (nameR wdT r) [44, 32]
def fixR1 (r : List UInt8) : List UInt8 := cutR (numR 2 (fixR0 r)) [32]
def fixR2 (r : List UInt8) : List UInt8 := cutR (nameR monT (fixR1 r)) [32]
def fixR3 (r : List UInt8) : List UInt8 := cutR (numR 4 (fixR2 r)) [32]
def fixK (r : List UInt8) : Bool := nameK wdT r && [44, 32].isPrefixOf (nameR wdT r) && numK 2 (fixR0 r) && [32].isPrefixOf (numR 2 (fixR0 r)) && nameK monT (fixR1 r) && [32].isPrefixOf (nameR monT (fixR1 r))
  && numK 4 (fixR2 r) && [32].isPrefixOf (numR 4 (fixR2 r)) && timeK (fixR3 r) && [32, 71, 77, 84].isPrefixOf (timeR (fixR3 r))
def fixRd (r : List UInt8) : Rd :=
  ⟨⟨numV 4 (fixR2 r), 1 + nameV monT (fixR1 r), numV 2 (fixR0 r), numV 2 (fixR3 r), timeMi (fixR3 r), timeS (fixR3 r), nameV wdT r⟩, cutR (timeR (fixR3 r)) [32, 71, 77, 84], fixK r⟩

abbrev Rd.L (x : Rd) (bad : Bool) (now : Int) : List Value := [Value.string (strB (x.r)), Value.bool (bad || !x.k), Value.int IntKind.i64 (x.D.y), Value.int IntKind.i64 (x.D.m), Value.int IntKind.i64 (x.D.d), Value.int IntKind.i64 (x.D.h), Value.int IntKind.i64 (x.D.mi), Value.int IntKind.i64 (x.D.s), Value.int IntKind.i64 (x.D.wd), Value.int IntKind.i64 (now)]

attribute [local irreducible] cutR
attribute [irreducible] numR nameR timeR numV nameV numK nameK timeK timeMi timeS
set_option maxHeartbeats 4000000 in
theorem fixed_any (b : Nat) (w : World) (r : List UInt8) (bad : Bool) (y m d h mi s wd now : Int) (hb : b < w.heap.size) (hr : r.length ≤ maxLen) (h7 : ∀ k : Nat, k < 7 → w.cell? ⟨7, k, none⟩ = some (.string (wdB k))) (h8 : ∀ k : Nat, k < 12 → w.cell? ⟨8, k, none⟩ = some (.string (monB k))) (hne : 20 < b) :
    Calls Tryd.prog 32 #[.pointer (some ⟨b, 0, none⟩)] (put w b 63 [Value.string (strB (r)), Value.bool (bad), Value.int IntKind.i64 (y), Value.int IntKind.i64 (m), Value.int IntKind.i64 (d), Value.int IntKind.i64 (h), Value.int IntKind.i64 (mi), Value.int IntKind.i64 (s), Value.int IntKind.i64 (wd), Value.int IntKind.i64 (now)]) fun e w' =>
      e = .returned (.tuple #[]) ∧ put w b 63 ((fixRd r).L bad now) = w' := by
  have HR := Lib.hid hr
  have H7 := Lib.hid h7
  have H8 := Lib.hid h8
  clear hr h7 h8
  have q1 : ([44, 32] : List UInt8).length ≤ maxLen := by decide
  have q2 : ([32] : List UInt8).length ≤ maxLen := by decide
  have q3 : ([32, 71, 77, 84] : List UInt8).length ≤ maxLen := by decide
  have mo := nameV_le monT (fixR1 r)
  have ml : monT.length = 12 := rfl
  rw [ml] at mo; clear ml
  unfold fixR1 fixR0 at mo
  go_enter Tryd.func32, Tryd.ntmps32
  ((go_wp2_with fail; refine ((wdName_any _ _ _ _ _ _ _ _ _ _ _ _ hb (by ((repeat (first | exact Hid.out HR | refine Nat.le_trans (numR_len _ _) ?_ | refine Nat.le_trans (nameR_len _ _) ?_ | refine Nat.le_trans (cutR_len _ _) ?_ | refine Nat.le_trans (timeR_len _) ?_)))) H7.out (by omega))).mono ?_; rintro e w' ⟨h1, h2⟩; subst h1; subst h2))
  ((go_wp2_with fail; refine ((mark_any _ _ _ [44, 32] _ _ _ _ _ _ _ _ _ hb (by ((repeat (first | exact Hid.out HR | refine Nat.le_trans (numR_len _ _) ?_ | refine Nat.le_trans (nameR_len _ _) ?_ | refine Nat.le_trans (cutR_len _ _) ?_ | refine Nat.le_trans (timeR_len _) ?_)))) q1)).mono ?_; rintro e w' ⟨h1, h2⟩; subst h1; subst h2))
  ((go_wp2_with fail; refine ((num_any _ _ 2 _ _ _ _ _ _ _ _ _ _ hb (by ((repeat (first | exact Hid.out HR | refine Nat.le_trans (numR_len _ _) ?_ | refine Nat.le_trans (nameR_len _ _) ?_ | refine Nat.le_trans (cutR_len _ _) ?_ | refine Nat.le_trans (timeR_len _) ?_)))) (by decide))).mono ?_; rintro e w' ⟨h1, h2⟩; subst h1; subst h2))
  ((go_wp2_with fail; refine ((mark_any _ _ _ [32] _ _ _ _ _ _ _ _ _ hb (by ((repeat (first | exact Hid.out HR | refine Nat.le_trans (numR_len _ _) ?_ | refine Nat.le_trans (nameR_len _ _) ?_ | refine Nat.le_trans (cutR_len _ _) ?_ | refine Nat.le_trans (timeR_len _) ?_)))) q2)).mono ?_; rintro e w' ⟨h1, h2⟩; subst h1; subst h2))
  ((go_wp2_with fail; refine ((moName_any _ _ _ _ _ _ _ _ _ _ _ _ hb (by ((repeat (first | exact Hid.out HR | refine Nat.le_trans (numR_len _ _) ?_ | refine Nat.le_trans (nameR_len _ _) ?_ | refine Nat.le_trans (cutR_len _ _) ?_ | refine Nat.le_trans (timeR_len _) ?_)))) H8.out (by omega))).mono ?_; rintro e w' ⟨h1, h2⟩; subst h1; subst h2))
  ((go_wp2_with fail; refine ((mark_any _ _ _ [32] _ _ _ _ _ _ _ _ _ hb (by ((repeat (first | exact Hid.out HR | refine Nat.le_trans (numR_len _ _) ?_ | refine Nat.le_trans (nameR_len _ _) ?_ | refine Nat.le_trans (cutR_len _ _) ?_ | refine Nat.le_trans (timeR_len _) ?_)))) q2)).mono ?_; rintro e w' ⟨h1, h2⟩; subst h1; subst h2))
  ((go_wp2_with fail; refine ((num_any _ _ 4 _ _ _ _ _ _ _ _ _ _ hb (by ((repeat (first | exact Hid.out HR | refine Nat.le_trans (numR_len _ _) ?_ | refine Nat.le_trans (nameR_len _ _) ?_ | refine Nat.le_trans (cutR_len _ _) ?_ | refine Nat.le_trans (timeR_len _) ?_)))) (by decide))).mono ?_; rintro e w' ⟨h1, h2⟩; subst h1; subst h2))
  ((go_wp2_with fail; refine ((mark_any _ _ _ [32] _ _ _ _ _ _ _ _ _ hb (by ((repeat (first | exact Hid.out HR | refine Nat.le_trans (numR_len _ _) ?_ | refine Nat.le_trans (nameR_len _ _) ?_ | refine Nat.le_trans (cutR_len _ _) ?_ | refine Nat.le_trans (timeR_len _) ?_)))) q2)).mono ?_; rintro e w' ⟨h1, h2⟩; subst h1; subst h2))
  ((go_wp2_with fail; refine ((time_any _ _ _ _ _ _ _ _ _ _ _ _ hb (by ((repeat (first | exact Hid.out HR | refine Nat.le_trans (numR_len _ _) ?_ | refine Nat.le_trans (nameR_len _ _) ?_ | refine Nat.le_trans (cutR_len _ _) ?_ | refine Nat.le_trans (timeR_len _) ?_)))))).mono ?_; rintro e w' ⟨h1, h2⟩; subst h1; subst h2))
  ((go_wp2_with fail; refine ((mark_any _ _ _ [32, 71, 77, 84] _ _ _ _ _ _ _ _ _ hb (by ((repeat (first | exact Hid.out HR | refine Nat.le_trans (numR_len _ _) ?_ | refine Nat.le_trans (nameR_len _ _) ?_ | refine Nat.le_trans (cutR_len _ _) ?_ | refine Nat.le_trans (timeR_len _) ?_)))) q3)).mono ?_; rintro e w' ⟨h1, h2⟩; subst h1; subst h2))
  go_wp2_with fail
  go_end0
  refine ⟨rfl, ?_⟩
  unfold fixRd fixK fixR3 fixR2 fixR1 fixR0
  congr 3
  simp [Bool.or_assoc, Bool.and_assoc]

def shR0 (r : List UInt8) : List UInt8 := cutR (nameR longT r) [44, 32]
def shR1 (r : List UInt8) : List UInt8 := cutR (numR 2 (shR0 r)) [45]
def shR2 (r : List UInt8) : List UInt8 := cutR (nameR monT (shR1 r)) [45]
def shR3 (r : List UInt8) : List UInt8 := cutR (numR 2 (shR2 r)) [32]
def shK (r : List UInt8) : Bool := nameK longT r && [44, 32].isPrefixOf (nameR longT r) && numK 2 (shR0 r) && [45].isPrefixOf (numR 2 (shR0 r)) && nameK monT (shR1 r) && [45].isPrefixOf (nameR monT (shR1 r))
  && numK 2 (shR2 r) && [32].isPrefixOf (numR 2 (shR2 r)) && timeK (shR3 r) && [32, 71, 77, 84].isPrefixOf (timeR (shR3 r))
def topOf (now : Int) : Int := if now + 50 ≤ 9999 then now + 50 else 9999
def yearOf (now two : Int) : Int := topOf now - (topOf now % 100 - two + 100) % 100
def shRd (now : Int) (r : List UInt8) : Rd :=
  ⟨⟨yearOf now (numV 2 (shR2 r)), 1 + nameV monT (shR1 r), numV 2 (shR0 r), numV 2 (shR3 r), timeMi (shR3 r), timeS (shR3 r), nameV longT r⟩, cutR (timeR (shR3 r)) [32, 71, 77, 84], shK r⟩

set_option maxHeartbeats 4000000 in
theorem short_any (b : Nat) (w : World) (r : List UInt8) (bad : Bool) (y m d h mi s wd now : Int) (hb : b < w.heap.size) (hr : r.length ≤ maxLen) (n0 : 0 ≤ now) (n1 : now ≤ 9999)
    (h20 : ∀ k : Nat, k < 7 → w.cell? ⟨20, k, none⟩ = some (.string (longB k))) (h8 : ∀ k : Nat, k < 12 → w.cell? ⟨8, k, none⟩ = some (.string (monB k))) (hne : 20 < b) :
    Calls Tryd.prog 33 #[.pointer (some ⟨b, 0, none⟩)] (put w b 63 [Value.string (strB (r)), Value.bool (bad), Value.int IntKind.i64 (y), Value.int IntKind.i64 (m), Value.int IntKind.i64 (d), Value.int IntKind.i64 (h), Value.int IntKind.i64 (mi), Value.int IntKind.i64 (s), Value.int IntKind.i64 (wd), Value.int IntKind.i64 (now)]) fun e w' =>
      e = .returned (.tuple #[]) ∧ put w b 63 ((shRd now r).L bad now) = w' := by
  have HR := Lib.hid hr
  have H20 := Lib.hid h20
  have H8 := Lib.hid h8
  clear hr h20 h8
  have q1 : ([44, 32] : List UInt8).length ≤ maxLen := by decide
  have q2 : ([32] : List UInt8).length ≤ maxLen := by decide
  have q3 : ([32, 71, 77, 84] : List UInt8).length ≤ maxLen := by decide
  have q4 : ([45] : List UInt8).length ≤ maxLen := by decide
  have mo := nameV_le monT (shR1 r)
  have ml : monT.length = 12 := rfl
  have nb := num2_bd (shR2 r)
  rw [ml] at mo; clear ml
  obtain ⟨two, ht⟩ : ∃ two, two = numV 2 (shR2 r) := ⟨_, rfl⟩
  rw [← ht] at nb
  obtain ⟨nb0, nb1⟩ := nb
  have HT := Lib.hid ht
  clear ht
  unfold shR1 shR0 at mo
  by_cases ht : now + 50 ≤ 9999
  · have et : topOf now = now + 50 := by unfold topOf; rw [if_pos ht]
    have ET := Lib.hid et
    clear et
    have lt : decide (now + 50 ≤ 9999) = true := by simpa using ht
    go_enter Tryd.func33, Tryd.ntmps33
    ((go_wp2_with fail; refine ((longName_any _ _ _ _ _ _ _ _ _ _ _ _ hb (by ((repeat (first | exact Hid.out HR | refine Nat.le_trans (numR_len _ _) ?_ | refine Nat.le_trans (nameR_len _ _) ?_ | refine Nat.le_trans (cutR_len _ _) ?_ | refine Nat.le_trans (timeR_len _) ?_)))) H20.out (by omega))).mono ?_; rintro e w' ⟨h1, h2⟩; subst h1; subst h2))
    ((go_wp2_with fail; refine ((mark_any _ _ _ [44, 32] _ _ _ _ _ _ _ _ _ hb (by ((repeat (first | exact Hid.out HR | refine Nat.le_trans (numR_len _ _) ?_ | refine Nat.le_trans (nameR_len _ _) ?_ | refine Nat.le_trans (cutR_len _ _) ?_ | refine Nat.le_trans (timeR_len _) ?_)))) q1)).mono ?_; rintro e w' ⟨h1, h2⟩; subst h1; subst h2))
    ((go_wp2_with fail; refine ((num_any _ _ 2 _ _ _ _ _ _ _ _ _ _ hb (by ((repeat (first | exact Hid.out HR | refine Nat.le_trans (numR_len _ _) ?_ | refine Nat.le_trans (nameR_len _ _) ?_ | refine Nat.le_trans (cutR_len _ _) ?_ | refine Nat.le_trans (timeR_len _) ?_)))) (by decide))).mono ?_; rintro e w' ⟨h1, h2⟩; subst h1; subst h2))
    ((go_wp2_with fail; refine ((mark_any _ _ _ [45] _ _ _ _ _ _ _ _ _ hb (by ((repeat (first | exact Hid.out HR | refine Nat.le_trans (numR_len _ _) ?_ | refine Nat.le_trans (nameR_len _ _) ?_ | refine Nat.le_trans (cutR_len _ _) ?_ | refine Nat.le_trans (timeR_len _) ?_)))) q4)).mono ?_; rintro e w' ⟨h1, h2⟩; subst h1; subst h2))
    ((go_wp2_with fail; refine ((moName_any _ _ _ _ _ _ _ _ _ _ _ _ hb (by ((repeat (first | exact Hid.out HR | refine Nat.le_trans (numR_len _ _) ?_ | refine Nat.le_trans (nameR_len _ _) ?_ | refine Nat.le_trans (cutR_len _ _) ?_ | refine Nat.le_trans (timeR_len _) ?_)))) H8.out (by omega))).mono ?_; rintro e w' ⟨h1, h2⟩; subst h1; subst h2))
    ((go_wp2_with fail; refine ((mark_any _ _ _ [45] _ _ _ _ _ _ _ _ _ hb (by ((repeat (first | exact Hid.out HR | refine Nat.le_trans (numR_len _ _) ?_ | refine Nat.le_trans (nameR_len _ _) ?_ | refine Nat.le_trans (cutR_len _ _) ?_ | refine Nat.le_trans (timeR_len _) ?_)))) q4)).mono ?_; rintro e w' ⟨h1, h2⟩; subst h1; subst h2))
    ((go_wp2_with fail; refine ((num_any _ _ 2 _ _ _ _ _ _ _ _ _ _ hb (by ((repeat (first | exact Hid.out HR | refine Nat.le_trans (numR_len _ _) ?_ | refine Nat.le_trans (nameR_len _ _) ?_ | refine Nat.le_trans (cutR_len _ _) ?_ | refine Nat.le_trans (timeR_len _) ?_)))) (by decide))).mono ?_; rintro e w' ⟨h1, h2⟩; subst h1; subst h2))
    rw [show numV 2 (cutR (nameR monT (cutR (numR 2 (cutR (nameR longT r) [44, 32])) [45])) [45]) = two from HT.out.symm]
    ((go_wp2_with fail; refine ((mark_any _ _ _ [32] _ _ _ _ _ _ _ _ _ hb (by ((repeat (first | exact Hid.out HR | refine Nat.le_trans (numR_len _ _) ?_ | refine Nat.le_trans (nameR_len _ _) ?_ | refine Nat.le_trans (cutR_len _ _) ?_ | refine Nat.le_trans (timeR_len _) ?_)))) q2)).mono ?_; rintro e w' ⟨h1, h2⟩; subst h1; subst h2))
    ((go_wp2_with fail; refine ((time_any _ _ _ _ _ _ _ _ _ _ _ _ hb (by ((repeat (first | exact Hid.out HR | refine Nat.le_trans (numR_len _ _) ?_ | refine Nat.le_trans (nameR_len _ _) ?_ | refine Nat.le_trans (cutR_len _ _) ?_ | refine Nat.le_trans (timeR_len _) ?_)))))).mono ?_; rintro e w' ⟨h1, h2⟩; subst h1; subst h2))
    ((go_wp2_with fail; refine ((mark_any _ _ _ [32, 71, 77, 84] _ _ _ _ _ _ _ _ _ hb (by ((repeat (first | exact Hid.out HR | refine Nat.le_trans (numR_len _ _) ?_ | refine Nat.le_trans (nameR_len _ _) ?_ | refine Nat.le_trans (cutR_len _ _) ?_ | refine Nat.le_trans (timeR_len _) ?_)))) q3)).mono ?_; rintro e w' ⟨h1, h2⟩; subst h1; subst h2))
    go_wp2_with fail
    go_end0
    refine ⟨rfl, ?_⟩
    unfold shRd shK yearOf
    rw [ET.out, ← HT.out]
    unfold shR3 shR2 shR1 shR0
    congr 3
    simp [Bool.or_assoc, Bool.and_assoc]
  · have et : topOf now = 9999 := by unfold topOf; rw [if_neg ht]
    have ET := Lib.hid et
    clear et
    have lt : decide (now + 50 ≤ 9999) = false := by simpa using ht
    go_enter Tryd.func33, Tryd.ntmps33
    ((go_wp2_with fail; refine ((longName_any _ _ _ _ _ _ _ _ _ _ _ _ hb (by ((repeat (first | exact Hid.out HR | refine Nat.le_trans (numR_len _ _) ?_ | refine Nat.le_trans (nameR_len _ _) ?_ | refine Nat.le_trans (cutR_len _ _) ?_ | refine Nat.le_trans (timeR_len _) ?_)))) H20.out (by omega))).mono ?_; rintro e w' ⟨h1, h2⟩; subst h1; subst h2))
    ((go_wp2_with fail; refine ((mark_any _ _ _ [44, 32] _ _ _ _ _ _ _ _ _ hb (by ((repeat (first | exact Hid.out HR | refine Nat.le_trans (numR_len _ _) ?_ | refine Nat.le_trans (nameR_len _ _) ?_ | refine Nat.le_trans (cutR_len _ _) ?_ | refine Nat.le_trans (timeR_len _) ?_)))) q1)).mono ?_; rintro e w' ⟨h1, h2⟩; subst h1; subst h2))
    ((go_wp2_with fail; refine ((num_any _ _ 2 _ _ _ _ _ _ _ _ _ _ hb (by ((repeat (first | exact Hid.out HR | refine Nat.le_trans (numR_len _ _) ?_ | refine Nat.le_trans (nameR_len _ _) ?_ | refine Nat.le_trans (cutR_len _ _) ?_ | refine Nat.le_trans (timeR_len _) ?_)))) (by decide))).mono ?_; rintro e w' ⟨h1, h2⟩; subst h1; subst h2))
    ((go_wp2_with fail; refine ((mark_any _ _ _ [45] _ _ _ _ _ _ _ _ _ hb (by ((repeat (first | exact Hid.out HR | refine Nat.le_trans (numR_len _ _) ?_ | refine Nat.le_trans (nameR_len _ _) ?_ | refine Nat.le_trans (cutR_len _ _) ?_ | refine Nat.le_trans (timeR_len _) ?_)))) q4)).mono ?_; rintro e w' ⟨h1, h2⟩; subst h1; subst h2))
    ((go_wp2_with fail; refine ((moName_any _ _ _ _ _ _ _ _ _ _ _ _ hb (by ((repeat (first | exact Hid.out HR | refine Nat.le_trans (numR_len _ _) ?_ | refine Nat.le_trans (nameR_len _ _) ?_ | refine Nat.le_trans (cutR_len _ _) ?_ | refine Nat.le_trans (timeR_len _) ?_)))) H8.out (by omega))).mono ?_; rintro e w' ⟨h1, h2⟩; subst h1; subst h2))
    ((go_wp2_with fail; refine ((mark_any _ _ _ [45] _ _ _ _ _ _ _ _ _ hb (by ((repeat (first | exact Hid.out HR | refine Nat.le_trans (numR_len _ _) ?_ | refine Nat.le_trans (nameR_len _ _) ?_ | refine Nat.le_trans (cutR_len _ _) ?_ | refine Nat.le_trans (timeR_len _) ?_)))) q4)).mono ?_; rintro e w' ⟨h1, h2⟩; subst h1; subst h2))
    ((go_wp2_with fail; refine ((num_any _ _ 2 _ _ _ _ _ _ _ _ _ _ hb (by ((repeat (first | exact Hid.out HR | refine Nat.le_trans (numR_len _ _) ?_ | refine Nat.le_trans (nameR_len _ _) ?_ | refine Nat.le_trans (cutR_len _ _) ?_ | refine Nat.le_trans (timeR_len _) ?_)))) (by decide))).mono ?_; rintro e w' ⟨h1, h2⟩; subst h1; subst h2))
    rw [show numV 2 (cutR (nameR monT (cutR (numR 2 (cutR (nameR longT r) [44, 32])) [45])) [45]) = two from HT.out.symm]
    ((go_wp2_with fail; refine ((mark_any _ _ _ [32] _ _ _ _ _ _ _ _ _ hb (by ((repeat (first | exact Hid.out HR | refine Nat.le_trans (numR_len _ _) ?_ | refine Nat.le_trans (nameR_len _ _) ?_ | refine Nat.le_trans (cutR_len _ _) ?_ | refine Nat.le_trans (timeR_len _) ?_)))) q2)).mono ?_; rintro e w' ⟨h1, h2⟩; subst h1; subst h2))
    ((go_wp2_with fail; refine ((time_any _ _ _ _ _ _ _ _ _ _ _ _ hb (by ((repeat (first | exact Hid.out HR | refine Nat.le_trans (numR_len _ _) ?_ | refine Nat.le_trans (nameR_len _ _) ?_ | refine Nat.le_trans (cutR_len _ _) ?_ | refine Nat.le_trans (timeR_len _) ?_)))))).mono ?_; rintro e w' ⟨h1, h2⟩; subst h1; subst h2))
    ((go_wp2_with fail; refine ((mark_any _ _ _ [32, 71, 77, 84] _ _ _ _ _ _ _ _ _ hb (by ((repeat (first | exact Hid.out HR | refine Nat.le_trans (numR_len _ _) ?_ | refine Nat.le_trans (nameR_len _ _) ?_ | refine Nat.le_trans (cutR_len _ _) ?_ | refine Nat.le_trans (timeR_len _) ?_)))) q3)).mono ?_; rintro e w' ⟨h1, h2⟩; subst h1; subst h2))
    go_wp2_with fail
    go_end0
    refine ⟨rfl, ?_⟩
    unfold shRd shK yearOf
    rw [ET.out, ← HT.out]
    unfold shR3 shR2 shR1 shR0
    congr 3
    simp [Bool.or_assoc, Bool.and_assoc]

def spR0 (r : List UInt8) : List UInt8 := cutR (nameR wdT r) [32]
def spR1 (r : List UInt8) : List UInt8 := cutR (nameR monT (spR0 r)) [32]
def dayV (r : List UInt8) : Int := if [32].isPrefixOf r = true then numV 1 (cutR r [32]) else numV 2 r
def dayR (r : List UInt8) : List UInt8 := if [32].isPrefixOf r = true then numR 1 (cutR r [32]) else numR 2 r
def dayK (r : List UInt8) : Bool := if [32].isPrefixOf r = true then numK 1 (cutR r [32]) else numK 2 r
theorem dayR_len (r : List UInt8) : (dayR r).length ≤ r.length := by
  unfold dayR; split
  · exact Nat.le_trans (numR_len _ _) (cutR_len _ _)
  · exact numR_len _ _
def spR2 (r : List UInt8) : List UInt8 := cutR (dayR (spR1 r)) [32]
def spR3 (r : List UInt8) : List UInt8 := cutR (timeR (spR2 r)) [32]
def spK (r : List UInt8) : Bool := nameK wdT r && [32].isPrefixOf (nameR wdT r) && nameK monT (spR0 r) && [32].isPrefixOf (nameR monT (spR0 r)) && dayK (spR1 r) && [32].isPrefixOf (dayR (spR1 r))
  && timeK (spR2 r) && [32].isPrefixOf (timeR (spR2 r)) && numK 4 (spR3 r)
def spRd (r : List UInt8) : Rd :=
  ⟨⟨numV 4 (spR3 r), 1 + nameV monT (spR0 r), dayV (spR1 r), numV 2 (spR2 r), timeMi (spR2 r), timeS (spR2 r), nameV wdT r⟩, numR 4 (spR3 r), spK r⟩

set_option maxHeartbeats 4000000 in
theorem spaced_any (b : Nat) (w : World) (r : List UInt8) (bad : Bool) (y m d h mi s wd now : Int) (hb : b < w.heap.size) (hr : r.length ≤ maxLen)
    (h7 : ∀ k : Nat, k < 7 → w.cell? ⟨7, k, none⟩ = some (.string (wdB k))) (h8 : ∀ k : Nat, k < 12 → w.cell? ⟨8, k, none⟩ = some (.string (monB k))) (hne : 20 < b) :
    Calls Tryd.prog 34 #[.pointer (some ⟨b, 0, none⟩)] (put w b 63 [Value.string (strB (r)), Value.bool (bad), Value.int IntKind.i64 (y), Value.int IntKind.i64 (m), Value.int IntKind.i64 (d), Value.int IntKind.i64 (h), Value.int IntKind.i64 (mi), Value.int IntKind.i64 (s), Value.int IntKind.i64 (wd), Value.int IntKind.i64 (now)]) fun e w' =>
      e = .returned (.tuple #[]) ∧ put w b 63 ((spRd r).L bad now) = w' := by
  have HR := Lib.hid hr
  have H7 := Lib.hid h7
  have H8 := Lib.hid h8
  clear hr h7 h8
  have q1 : ([44, 32] : List UInt8).length ≤ maxLen := by decide
  have q2 : ([32] : List UInt8).length ≤ maxLen := by decide
  have q3 : ([32, 71, 77, 84] : List UInt8).length ≤ maxLen := by decide
  have q4 : ([45] : List UInt8).length ≤ maxLen := by decide
  have mo := nameV_le monT (spR0 r)
  have ml : monT.length = 12 := rfl
  rw [ml] at mo; clear ml
  unfold spR0 at mo
  cases hp : [32].isPrefixOf (cutR (nameR monT (cutR (nameR wdT r) [32])) [32]) with
  | true =>
    have HP := Lib.hid hp
    go_enter Tryd.func34, Tryd.ntmps34
    ((go_wp2_with fail; refine ((wdName_any _ _ _ _ _ _ _ _ _ _ _ _ hb (by ((repeat (first | exact Hid.out HR | refine Nat.le_trans (numR_len _ _) ?_ | refine Nat.le_trans (nameR_len _ _) ?_ | refine Nat.le_trans (cutR_len _ _) ?_ | refine Nat.le_trans (timeR_len _) ?_)))) H7.out (by omega))).mono ?_; rintro e w' ⟨h1, h2⟩; subst h1; subst h2))
    ((go_wp2_with fail; refine ((mark_any _ _ _ [32] _ _ _ _ _ _ _ _ _ hb (by ((repeat (first | exact Hid.out HR | refine Nat.le_trans (numR_len _ _) ?_ | refine Nat.le_trans (nameR_len _ _) ?_ | refine Nat.le_trans (cutR_len _ _) ?_ | refine Nat.le_trans (timeR_len _) ?_)))) q2)).mono ?_; rintro e w' ⟨h1, h2⟩; subst h1; subst h2))
    ((go_wp2_with fail; refine ((moName_any _ _ _ _ _ _ _ _ _ _ _ _ hb (by ((repeat (first | exact Hid.out HR | refine Nat.le_trans (numR_len _ _) ?_ | refine Nat.le_trans (nameR_len _ _) ?_ | refine Nat.le_trans (cutR_len _ _) ?_ | refine Nat.le_trans (timeR_len _) ?_)))) H8.out (by omega))).mono ?_; rintro e w' ⟨h1, h2⟩; subst h1; subst h2))
    ((go_wp2_with fail; refine ((mark_any _ _ _ [32] _ _ _ _ _ _ _ _ _ hb (by ((repeat (first | exact Hid.out HR | refine Nat.le_trans (numR_len _ _) ?_ | refine Nat.le_trans (nameR_len _ _) ?_ | refine Nat.le_trans (cutR_len _ _) ?_ | refine Nat.le_trans (timeR_len _) ?_)))) q2)).mono ?_; rintro e w' ⟨h1, h2⟩; subst h1; subst h2))
    ((go_wp2_with fail; refine ((stringsHasPrefix_any _ [32] _ (by ((repeat (first | exact Hid.out HR | refine Nat.le_trans (numR_len _ _) ?_ | refine Nat.le_trans (nameR_len _ _) ?_ | refine Nat.le_trans (cutR_len _ _) ?_ | refine Nat.le_trans (timeR_len _) ?_)))) q2)).mono ?_; rintro e w' ⟨h1, h2⟩; subst h1; subst h2))
    ((go_wp2_with fail; refine ((mark_any _ _ _ [32] _ _ _ _ _ _ _ _ _ hb (by ((repeat (first | exact Hid.out HR | refine Nat.le_trans (numR_len _ _) ?_ | refine Nat.le_trans (nameR_len _ _) ?_ | refine Nat.le_trans (cutR_len _ _) ?_ | refine Nat.le_trans (timeR_len _) ?_)))) q2)).mono ?_; rintro e w' ⟨h1, h2⟩; subst h1; subst h2))
    ((go_wp2_with fail; refine ((num_any _ _ 1 _ _ _ _ _ _ _ _ _ _ hb (by ((repeat (first | exact Hid.out HR | refine Nat.le_trans (numR_len _ _) ?_ | refine Nat.le_trans (nameR_len _ _) ?_ | refine Nat.le_trans (cutR_len _ _) ?_ | refine Nat.le_trans (timeR_len _) ?_)))) (by decide))).mono ?_; rintro e w' ⟨h1, h2⟩; subst h1; subst h2))
    ((go_wp2_with fail; refine ((mark_any _ _ _ [32] _ _ _ _ _ _ _ _ _ hb (by ((repeat (first | exact Hid.out HR | refine Nat.le_trans (numR_len _ _) ?_ | refine Nat.le_trans (nameR_len _ _) ?_ | refine Nat.le_trans (cutR_len _ _) ?_ | refine Nat.le_trans (timeR_len _) ?_)))) q2)).mono ?_; rintro e w' ⟨h1, h2⟩; subst h1; subst h2))
    ((go_wp2_with fail; refine ((time_any _ _ _ _ _ _ _ _ _ _ _ _ hb (by ((repeat (first | exact Hid.out HR | refine Nat.le_trans (numR_len _ _) ?_ | refine Nat.le_trans (nameR_len _ _) ?_ | refine Nat.le_trans (cutR_len _ _) ?_ | refine Nat.le_trans (timeR_len _) ?_)))))).mono ?_; rintro e w' ⟨h1, h2⟩; subst h1; subst h2))
    ((go_wp2_with fail; refine ((mark_any _ _ _ [32] _ _ _ _ _ _ _ _ _ hb (by ((repeat (first | exact Hid.out HR | refine Nat.le_trans (numR_len _ _) ?_ | refine Nat.le_trans (nameR_len _ _) ?_ | refine Nat.le_trans (cutR_len _ _) ?_ | refine Nat.le_trans (timeR_len _) ?_)))) q2)).mono ?_; rintro e w' ⟨h1, h2⟩; subst h1; subst h2))
    ((go_wp2_with fail; refine ((num_any _ _ 4 _ _ _ _ _ _ _ _ _ _ hb (by ((repeat (first | exact Hid.out HR | refine Nat.le_trans (numR_len _ _) ?_ | refine Nat.le_trans (nameR_len _ _) ?_ | refine Nat.le_trans (cutR_len _ _) ?_ | refine Nat.le_trans (timeR_len _) ?_)))) (by decide))).mono ?_; rintro e w' ⟨h1, h2⟩; subst h1; subst h2))
    go_wp2_with fail
    go_end0
    refine ⟨rfl, ?_⟩
    unfold spRd spK spR3 spR2 dayV dayR dayK spR1 spR0
    simp only [HP.out, if_true]
    congr 3
    simp [Bool.or_assoc, Bool.and_assoc]
  | false =>
    have HP := Lib.hid hp
    go_enter Tryd.func34, Tryd.ntmps34
    ((go_wp2_with fail; refine ((wdName_any _ _ _ _ _ _ _ _ _ _ _ _ hb (by ((repeat (first | exact Hid.out HR | refine Nat.le_trans (numR_len _ _) ?_ | refine Nat.le_trans (nameR_len _ _) ?_ | refine Nat.le_trans (cutR_len _ _) ?_ | refine Nat.le_trans (timeR_len _) ?_)))) H7.out (by omega))).mono ?_; rintro e w' ⟨h1, h2⟩; subst h1; subst h2))
    ((go_wp2_with fail; refine ((mark_any _ _ _ [32] _ _ _ _ _ _ _ _ _ hb (by ((repeat (first | exact Hid.out HR | refine Nat.le_trans (numR_len _ _) ?_ | refine Nat.le_trans (nameR_len _ _) ?_ | refine Nat.le_trans (cutR_len _ _) ?_ | refine Nat.le_trans (timeR_len _) ?_)))) q2)).mono ?_; rintro e w' ⟨h1, h2⟩; subst h1; subst h2))
    ((go_wp2_with fail; refine ((moName_any _ _ _ _ _ _ _ _ _ _ _ _ hb (by ((repeat (first | exact Hid.out HR | refine Nat.le_trans (numR_len _ _) ?_ | refine Nat.le_trans (nameR_len _ _) ?_ | refine Nat.le_trans (cutR_len _ _) ?_ | refine Nat.le_trans (timeR_len _) ?_)))) H8.out (by omega))).mono ?_; rintro e w' ⟨h1, h2⟩; subst h1; subst h2))
    ((go_wp2_with fail; refine ((mark_any _ _ _ [32] _ _ _ _ _ _ _ _ _ hb (by ((repeat (first | exact Hid.out HR | refine Nat.le_trans (numR_len _ _) ?_ | refine Nat.le_trans (nameR_len _ _) ?_ | refine Nat.le_trans (cutR_len _ _) ?_ | refine Nat.le_trans (timeR_len _) ?_)))) q2)).mono ?_; rintro e w' ⟨h1, h2⟩; subst h1; subst h2))
    ((go_wp2_with fail; refine ((stringsHasPrefix_any _ [32] _ (by ((repeat (first | exact Hid.out HR | refine Nat.le_trans (numR_len _ _) ?_ | refine Nat.le_trans (nameR_len _ _) ?_ | refine Nat.le_trans (cutR_len _ _) ?_ | refine Nat.le_trans (timeR_len _) ?_)))) q2)).mono ?_; rintro e w' ⟨h1, h2⟩; subst h1; subst h2))
    ((go_wp2_with fail; refine ((num_any _ _ 2 _ _ _ _ _ _ _ _ _ _ hb (by ((repeat (first | exact Hid.out HR | refine Nat.le_trans (numR_len _ _) ?_ | refine Nat.le_trans (nameR_len _ _) ?_ | refine Nat.le_trans (cutR_len _ _) ?_ | refine Nat.le_trans (timeR_len _) ?_)))) (by decide))).mono ?_; rintro e w' ⟨h1, h2⟩; subst h1; subst h2))
    ((go_wp2_with fail; refine ((mark_any _ _ _ [32] _ _ _ _ _ _ _ _ _ hb (by ((repeat (first | exact Hid.out HR | refine Nat.le_trans (numR_len _ _) ?_ | refine Nat.le_trans (nameR_len _ _) ?_ | refine Nat.le_trans (cutR_len _ _) ?_ | refine Nat.le_trans (timeR_len _) ?_)))) q2)).mono ?_; rintro e w' ⟨h1, h2⟩; subst h1; subst h2))
    ((go_wp2_with fail; refine ((time_any _ _ _ _ _ _ _ _ _ _ _ _ hb (by ((repeat (first | exact Hid.out HR | refine Nat.le_trans (numR_len _ _) ?_ | refine Nat.le_trans (nameR_len _ _) ?_ | refine Nat.le_trans (cutR_len _ _) ?_ | refine Nat.le_trans (timeR_len _) ?_)))))).mono ?_; rintro e w' ⟨h1, h2⟩; subst h1; subst h2))
    ((go_wp2_with fail; refine ((mark_any _ _ _ [32] _ _ _ _ _ _ _ _ _ hb (by ((repeat (first | exact Hid.out HR | refine Nat.le_trans (numR_len _ _) ?_ | refine Nat.le_trans (nameR_len _ _) ?_ | refine Nat.le_trans (cutR_len _ _) ?_ | refine Nat.le_trans (timeR_len _) ?_)))) q2)).mono ?_; rintro e w' ⟨h1, h2⟩; subst h1; subst h2))
    ((go_wp2_with fail; refine ((num_any _ _ 4 _ _ _ _ _ _ _ _ _ _ hb (by ((repeat (first | exact Hid.out HR | refine Nat.le_trans (numR_len _ _) ?_ | refine Nat.le_trans (nameR_len _ _) ?_ | refine Nat.le_trans (cutR_len _ _) ?_ | refine Nat.le_trans (timeR_len _) ?_)))) (by decide))).mono ?_; rintro e w' ⟨h1, h2⟩; subst h1; subst h2))
    go_wp2_with fail
    go_end0
    refine ⟨rfl, ?_⟩
    unfold spRd spK spR3 spR2 dayV dayR dayK spR1 spR0
    simp only [HP.out, Bool.false_eq_true, if_false]
    congr 3
    simp [Bool.or_assoc, Bool.and_assoc]
end Go.Proofs.YtmejjhklknhniaaDoor
