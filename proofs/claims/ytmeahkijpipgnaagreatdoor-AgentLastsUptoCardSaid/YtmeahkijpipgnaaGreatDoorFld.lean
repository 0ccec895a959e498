/- Bytes of a field's text: what each may be; all of a text; tokens. -/
import Derived.Test.YtmeahkijpipgnaaGreatDoorProg
import Derived.Test.YtmeahkijpipgnaaGreatDoorStrs2
import Derived.WalkKit
import Derived.Lib.Hide
import Derived.Deep.LoopGhost
namespace Go.Proofs.YtmeahkijpipgnaaGreatDoor
open Go Go.RowKit

def alnumC (c : Nat) : Bool := (decide (48 ≤ c) && decide (c ≤ 57)) || (decide (65 ≤ c) && decide (c ≤ 90)) || (decide (97 ≤ c) && decide (c ≤ 122))
def tokC (c : Nat) : Bool := alnumC c || c == 33 || (decide (35 ≤ c) && decide (c ≤ 39)) || c == 42 || c == 43 || c == 45 || c == 46 || (decide (94 ≤ c) && decide (c ≤ 96)) || c == 124 || c == 126
def cookC (c : Nat) : Bool := decide (33 ≤ c) && decide (c ≤ 126) && !(c == 34) && !(c == 44) && !(c == 59) && !(c == 92)
def valC (c : Nat) : Bool := c == 9 || (decide (32 ≤ c) && !(c == 127))
def whiteC (c : Nat) : Bool := c == 9 || c == 32
def kindC (c : Nat) : Nat := (if tokC c then 1 else 0) + (if cookC c then 2 else 0) + (if valC c then 4 else 0) + (if whiteC c then 8 else 0)
def kindsL : List Int := (List.range 256).map fun c => ((kindC c : Nat) : Int)
theorem kindC_lt (c : Nat) : kindC c < 16 := by unfold kindC; (repeat' split) <;> omega
/-- The flags of a kind that a byte has. -/
def isB (k : Nat) (c : UInt8) : Bool := (kindC c.toNat &&& k) != 0
/-- The table of the kinds. -/
def Kinds (w : World) : Prop := ∀ i : Nat, i < 256 → w.cell? ⟨15, i, none⟩ = some (.int .u8 ((kindC i : Nat) : Int))
theorem Kinds.below {w w' : World} (h : Kinds w) (hb : Below w.heap.size w w') : Kinds w' := fun i hi => (hb.cell (p := ⟨15, i, none⟩) (World.block_lt_of_cell? w _ (h i hi))).trans (h i hi)

theorem bits_and16 (q k : Nat) (hq : q < 16) (hk : k < 16) : bits BinOp.and IntKind.u8 (q : Int) (k : Int) = ((q &&& k : Nat) : Int) := by
  have h : ∀ a b : Fin 16, bits BinOp.and IntKind.u8 ((a.val : Nat) : Int) ((b.val : Nat) : Int) = ((a.val &&& b.val : Nat) : Int) := by decide
  exact h ⟨q, hq⟩ ⟨k, hk⟩
theorem is_any (c : UInt8) (k : Nat) (w : World) (hk : k < 16) (hK : Kinds w) :
    Calls Tryz.prog 95 #[.int .u8 ((c.toNat : Nat) : Int), .int .u8 (k : Int)] w fun e w' => e = .returned (.bool (isB k c)) ∧ w = w' := by
  have hc := hK c.toNat (UInt8.toNat_lt _)
  have h0 : ((c.toNat : Nat) : Int) < 256 := by have := UInt8.toNat_lt c; omega
  have h1 : (0 : Int) ≤ ((c.toNat : Nat) : Int) := by omega
  have hl := kindC_lt c.toNat
  have HB : Hid (isB k c = ((kindC c.toNat &&& k) != 0)) := rfl
  clear hK
  generalize isB k c = b at *
  generalize kindC c.toNat = q at *
  generalize c.toNat = n at *
  go_enter Tryz.func95, Tryz.ntmps95
  go_wp2_with fail
  go_ret
  refine ⟨ret_bool ?_, rfl⟩
  rw [HB.out, bits_and16 q k hl hk]
  generalize (q &&& k) = z
  cases z <;> rfl
def allB (k : Nat) (l : List UInt8) : Bool := l.all (isB k)
set_option maxHeartbeats 1600000 in
theorem all_any (l : List UInt8) (k : Nat) (w : World) (hl : l.length ≤ maxLen) (hk : k < 16) (hK : Kinds w) :
    Calls Tryz.prog 70 #[.string (strB l), .int .u8 (k : Int)] w fun e w' => e = .returned (.bool (allB k l)) ∧ w = w' := by
  have IS : Hid (∀ c : UInt8, Calls Tryz.prog 95 #[.int .u8 ((c.toNat : Nat) : Int), .int .u8 (k : Int)] w fun e w' => e = .returned (.bool (isB k c)) ∧ w = w') := fun c => is_any c k w hk hK
  clear hK
  unfold maxLen at hl
  have HA : Hid (allB k l = l.all (isB k)) := rfl
  generalize allB k l = ab at *
  go_enter Tryz.func70, Tryz.ntmps70
  go_wp2
  go_loopg [8] (l.length + 1) (fun g v8 wr => ∃ j : Nat, j ≤ l.length ∧ v8 = .int .i64 (j : Int) ∧ wr = w ∧ (l.take j).all (isB k) = true ∧ l.length - j < g)
  case atStart => exact ⟨0, by omega, rfl, rfl, by simp, by omega⟩
  case round =>
    obtain ⟨j, hj, rfl, rfl, ha, hg⟩ := hrel
    have HA1 := Lib.hid ha
    clear ha
    by_cases hlt : j < l.length
    · by_cases h0 : isB k l[j] = true
      · have HA2 : Hid ((l.take (j + 1)).all (isB k) = true) := by
          show _ = true
          rw [List.take_succ_eq_append_getElem hlt, List.all_append, HA1.out]; simp [h0]
        have H0 := Lib.hid h0
        clear h0
        go_wp2_with fail
        refine (IS.out _).mono ?_
        rintro e w1 ⟨rfl, rfl⟩
        rw [H0.out]
        go_wp2_with fail
        go_roundg (gk - 1)
        case measure => omega
        case rel => exact ⟨j + 1, by omega, by go_num, rfl, HA2.out, by omega⟩
      · have H0 : Hid (isB k l[j] = false) := by show _ = _; simpa using h0
        have FB : Hid (ab = false) := by
          show _ = false
          rw [HA.out, ← Bool.not_eq_true]; intro h; exact h0 (List.all_eq_true.1 h _ (List.getElem_mem hlt))
        clear h0
        go_wp2_with fail
        refine (IS.out _).mono ?_
        rintro e w1 ⟨rfl, rfl⟩
        rw [H0.out]
        go_wp2_with fail
        go_ret
        exact ⟨ret_bool FB.out.symm, rfl⟩
    · obtain rfl : j = l.length := by omega
      have TB : Hid (ab = true) := by
        show _ = true
        rw [HA.out, ← List.take_length (l := l)]; exact HA1.out
      go_wp2_with fail
      go_ret
      exact ⟨ret_bool TB.out.symm, rfl⟩
def tokenB (l : List UInt8) : Bool := !l.isEmpty && allB 1 l
theorem token_any (l : List UInt8) (w : World) (hl : l.length ≤ maxLen) (hK : Kinds w) :
    Calls Tryz.prog 69 #[.string (strB l)] w fun e w' => e = .returned (.bool (tokenB l)) ∧ w = w' := by
  have AL := Lib.hid (all_any l 1 w hl (by decide) hK)
  clear hK
  cases l with
  | nil =>
    go_enter Tryz.func69, Tryz.ntmps69
    go_wp2_with fail
    go_ret
    exact ⟨rfl, rfl⟩
  | cons c l =>
    have hE : (c :: l : List UInt8).isEmpty = false := rfl
    have TB : Hid (tokenB (c :: l) = allB 1 (c :: l)) := by show _ = _; simp [tokenB]
    generalize hx : (c :: l : List UInt8) = x at *
    have HX := Lib.hid hx
    clear hx
    go_enter Tryz.func69, Tryz.ntmps69
    go_wp2_with fail
    refine AL.out.mono ?_
    rintro e w1 ⟨rfl, rfl⟩
    go_wp2_with fail
    go_ret
    exact ⟨ret_bool TB.out.symm, rfl⟩
/-- May a cookie be so? -/
def cmayB (n v : List UInt8) : Bool := tokenB n && allB 2 v
theorem cmay_any (n v : List UInt8) (w : World) (hn : n.length ≤ maxLen) (hv : v.length ≤ maxLen) (hK : Kinds w) :
    Calls Tryz.prog 36 #[.string (strB n), .string (strB v)] w fun e w' => e = .returned (.bool (cmayB n v)) ∧ w = w' := by
  have TK := Lib.hid (token_any n w hn hK)
  have AL := Lib.hid (all_any v 2 w hv (by decide) hK)
  have HB : Hid (cmayB n v = (tokenB n && allB 2 v)) := rfl
  clear hK
  generalize cmayB n v = r at *
  generalize tokenB n = b at *
  generalize allB 2 v = c at *
  cases b
  · go_enter Tryz.func36, Tryz.ntmps36
    go_wp2_with fail
    refine TK.out.mono ?_
    rintro e w1 ⟨rfl, rfl⟩
    go_wp2_with fail
    go_ret
    exact ⟨ret_bool (by rw [HB.out]; rfl), rfl⟩
  · go_enter Tryz.func36, Tryz.ntmps36
    go_wp2_with fail
    refine TK.out.mono ?_
    rintro e w1 ⟨rfl, rfl⟩
    go_wp2_with fail
    refine AL.out.mono ?_
    rintro e w1 ⟨rfl, rfl⟩
    go_wp2_with fail
    go_ret
    exact ⟨ret_bool (by rw [HB.out]; rfl), rfl⟩
end Go.Proofs.YtmeahkijpipgnaaGreatDoor
