/- A look-up in a list of one field; requests that are nothing; the numbers of two refusals. -/
import Derived.Test.YtmeahkijpipgnaaGreatDoorAd
import Derived.BigQuiet
namespace Go.Proofs.YtmeahkijpipgnaaGreatDoor
open Go Go.RowKit

set_option maxHeartbeats 2000000 in
theorem lookup_yes (x nm : List UInt8) (v : ByteArray) (g cap : Nat) (w : World) (hx : x.length ≤ maxLen) (hnm : nm.length ≤ maxLen) (h1 : 1 ≤ cap) (hq : lowL x = lowL nm)
    (c0 : w.cell? ⟨g, 0, none⟩ = some (.string (strB x))) (c1 : w.cell? ⟨g, 1, none⟩ = some (.string v)) :
    Calls Tryz.prog 18 #[.slice (some ⟨g, 0, none⟩) 1 cap, .string (strB nm)] w fun e w' =>
      e = .returned (.tuple #[.string v, .int .i64 1]) ∧ Below w.heap.size w w' := by
  have lg : g < w.heap.size := World.block_lt_of_cell? w _ c0
  have LX := Lib.hid (low_any x · hx)
  have LN := Lib.hid (low_any nm · hnm)
  have HS : Hid (strB (lowL x) = strB (lowL nm)) := by show _ = _; rw [hq]
  clear hq
  go_enter Tryz.func18, Tryz.ntmps18
  go_wp2_with fail
  refine (LN.out _).mono ?_
  rintro e w1 ⟨rfl, hb⟩
  obtain ⟨X1, n1, rfl⟩ := Below_ext hb
  clear hb
  go_wp2_with fail
  go_loopg [6, 7, 14] 2 (fun gg v6 v7 v14 wr => ∃ X n, wr = ext w X n ∧ ((v14 = .int .i64 0 ∧ v6 = .string { data := #[] } ∧ v7 = .int .i64 0 ∧ 1 < gg) ∨ (v14 = .int .i64 1 ∧ v6 = .string v ∧ v7 = .int .i64 1 ∧ 0 < gg)))
  case atStart => exact ⟨_, _, rfl, .inl ⟨rfl, rfl, rfl, by omega⟩⟩
  case round =>
    obtain ⟨X, n, rfl, ⟨rfl, rfl, rfl, hg⟩ | ⟨rfl, rfl, rfl, hg⟩⟩ := hrel
    · go_wp2_with fail
      refine (LX.out _).mono ?_
      rintro e w1 ⟨rfl, hb⟩
      obtain ⟨X2, n2, rfl⟩ := Below_ext hb
      clear hb
      rw [HS.out]
      go_wp2_with fail
      obtain ⟨Y, m, hY⟩ := Below_ext (show Below w.heap.size w (ext ((ext w X n).alloc (Obj.cells #[Value.string (strB x), Value.string v] 40)) X2 n2) by repeat (first | exact Below.refl _ _ | refine Below.alloc ?_ (by simp [go_sem]) _ | refine below_ext ?_ (by simp [go_sem]) _ _))
      rw [hY]
      clear hY
      go_roundg 1
      case measure => omega
      case rel => exact ⟨Y, m, rfl, .inr ⟨rfl, rfl, rfl, by omega⟩⟩
    · go_wp2_with fail
      go_ret2
      exact ⟨rfl, ext_below _ _ _⟩
set_option maxHeartbeats 2000000 in
theorem lookup_no (x nm : List UInt8) (v : ByteArray) (g cap : Nat) (w : World) (hx : x.length ≤ maxLen) (hnm : nm.length ≤ maxLen) (h1 : 1 ≤ cap) (hq : lowL x ≠ lowL nm)
    (c0 : w.cell? ⟨g, 0, none⟩ = some (.string (strB x))) (c1 : w.cell? ⟨g, 1, none⟩ = some (.string v)) :
    Calls Tryz.prog 18 #[.slice (some ⟨g, 0, none⟩) 1 cap, .string (strB nm)] w fun e w' =>
      e = .returned (.tuple #[.string { data := #[] }, .int .i64 0]) ∧ Below w.heap.size w w' := by
  have lg : g < w.heap.size := World.block_lt_of_cell? w _ c0
  have LX := Lib.hid (low_any x · hx)
  have LN := Lib.hid (low_any nm · hnm)
  have HS : Hid ((lowL x == lowL nm) = false) := by show _ = _; rw [beq_eq_false_iff_ne]; exact hq
  clear hq
  go_enter Tryz.func18, Tryz.ntmps18
  go_wp2_with fail
  refine (LN.out _).mono ?_
  rintro e w1 ⟨rfl, hb⟩
  obtain ⟨X1, n1, rfl⟩ := Below_ext hb
  clear hb
  go_wp2_with fail
  go_loopg [6, 7, 14] 2 (fun gg v6 v7 v14 wr => ∃ X n, wr = ext w X n ∧ ((v14 = .int .i64 0 ∧ v6 = .string { data := #[] } ∧ v7 = .int .i64 0 ∧ 1 < gg) ∨ (v14 = .int .i64 1 ∧ v6 = .string { data := #[] } ∧ v7 = .int .i64 0 ∧ 0 < gg)))
  case atStart => exact ⟨_, _, rfl, .inl ⟨rfl, rfl, rfl, by omega⟩⟩
  case round =>
    obtain ⟨X, n, rfl, ⟨rfl, rfl, rfl, hg⟩ | ⟨rfl, rfl, rfl, hg⟩⟩ := hrel
    · go_wp2_with fail
      refine (LX.out _).mono ?_
      rintro e w1 ⟨rfl, hb⟩
      obtain ⟨X2, n2, rfl⟩ := Below_ext hb
      clear hb
      have hne := HS.out
      go_wp2_with fail
      obtain ⟨Y, m, hY⟩ := Below_ext (show Below w.heap.size w (ext ((ext w X n).alloc (Obj.cells #[Value.string (strB x), Value.string v] 40)) X2 n2) by repeat (first | exact Below.refl _ _ | refine Below.alloc ?_ (by simp [go_sem]) _ | refine below_ext ?_ (by simp [go_sem]) _ _))
      rw [hY]
      clear hY
      go_roundg 1
      case measure => omega
      case rel => exact ⟨Y, m, rfl, .inr ⟨rfl, rfl, rfl, by omega⟩⟩
    · go_wp2_with fail
      go_ret2
      exact ⟨rfl, ext_below _ _ _⟩
end Go.Proofs.YtmeahkijpipgnaaGreatDoor
