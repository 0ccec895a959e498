import Derived.Test.YtmejjhklknhniaaDoorDig
import Derived.Test.YtmejjhklknhniaaDoorCal
import Derived.Deep.RegionHeld3
namespace Go.Proofs.YtmejjhklknhniaaDoor
open Go Go.RowKit

def monT : List (List UInt8) := [[74, 97, 110], [70, 101, 98], [77, 97, 114], [65, 112, 114], [77, 97, 121], [74, 117, 110], [74, 117, 108], [65, 117, 103], [83, 101, 112], [79, 99, 116], [78, 111, 118], [68, 101, 99]]
def wdT : List (List UInt8) := [[83, 117, 110], [77, 111, 110], [84, 117, 101], [87, 101, 100], [84, 104, 117], [70, 114, 105], [83, 97, 116]]
def monB (k : Nat) : ByteArray := strB (monT.getD k [])
def wdB (k : Nat) : ByteArray := strB (wdT.getD k [])
theorem monB_size (k : Nat) (h : k < 12) : (monB k).size = 3 := by rw [monB, strB_size]; revert k; decide
theorem wdB_size (k : Nat) (h : k < 7) : (wdB k).size = 3 := by rw [wdB, strB_size]; revert k; decide

set_option maxHeartbeats 2000000 in
theorem month_any (k : Nat) (w : World) (hk : k < 12) :
    Calls Tryd.prog 47 #[.int .i64 ((k : Int) + 1)] w fun e w' => e = .returned (.string (monB k)) ∧ w = w' := by
  have h : k = 0 ∨ k = 1 ∨ k = 2 ∨ k = 3 ∨ k = 4 ∨ k = 5 ∨ k = 6 ∨ k = 7 ∨ k = 8 ∨ k = 9 ∨ k = 10 ∨ k = 11 := by omega
  clear hk
  rcases h with rfl | rfl | rfl | rfl | rfl | rfl | rfl | rfl | rfl | rfl | rfl | rfl
  all_goals
    go_enter Tryd.func47, Tryd.ntmps47
    go_wp2
    go_ret
    exact ⟨ret_str (by rfl), rfl⟩

def colon : ByteArray := { data := #[58] }
def clockB (h mi s : Int) : ByteArray := padS 2 h ++ colon ++ padS 2 mi ++ colon ++ padS 2 s
theorem colon_size : colon.size = 1 := rfl
theorem clockB_size (h mi s : Int) : (clockB h mi s).size = 8 := by simp [clockB, ByteArray.size_append, padS_size, colon_size]

set_option maxHeartbeats 2000000 in
theorem clock_any (D : Dt) (w : World) (h0 : 0 ≤ D.h) (h1 : D.h ≤ 99) (m0 : 0 ≤ D.mi) (m1 : D.mi ≤ 99) (s0 : 0 ≤ D.s) (s1 : D.s ≤ 99) :
    Calls Tryd.prog 29 #[D.v] w fun e w' => e = .returned (.string (clockB D.h D.mi D.s)) ∧ Below w.heap.size w w' := by
  obtain ⟨y, m, d, h, mi, s, wd⟩ := D
  simp only at *
  unfold Dt.v
  have z1 := padS_size 2 h
  have z2 := padS_size 2 mi
  have z3 := padS_size 2 s
  go_enter Tryd.func29, Tryd.ntmps29
  go_wp2_with fail
  generalize hW : w.alloc _ = W
  have hB : Below w.heap.size w W := by rw [← hW]; exact (Below.refl _ _).alloc (Nat.le_refl _) _
  have c3 : W.cell? ⟨w.heap.size, 3, none⟩ = some (.int .i64 h) := by rw [← hW]; simp [go_sem]
  have c4 : W.cell? ⟨w.heap.size, 4, none⟩ = some (.int .i64 mi) := by rw [← hW]; simp [go_sem]
  have c5 : W.cell? ⟨w.heap.size, 5, none⟩ = some (.int .i64 s) := by rw [← hW]; simp [go_sem]
  have lt : w.heap.size < W.heap.size := World.block_lt_of_cell? W _ c3
  have HB := Lib.hid hB
  clear hW hB
  generalize w.heap.size = b at c3 c4 c5 lt ⊢
  go_region_held3 (fun w' => Below W.heap.size W w' ∧ ∀ b o, b < W.heap.size → w'.cell? ⟨b, o, none⟩ = W.cell? ⟨b, o, none⟩) (first | (exact ⟨(Below.refl _ _).drew, fun _ _ _ => rfl⟩) | (exact keepS (by assumption) (by assumption)) | assumption | (simp [*]; done))
    (first
      | (go_at_call 28; refine (padded_any _ 2 _ (by omega) (by omega) (by omega) (by omega)).mono ?_; rintro e w' ⟨rfl, hb⟩))
  go_wp2
  go_ret
  exact ⟨ret_str rfl, HB.out.trans ((by assumption : Below W.heap.size W _ ∧ _).1.mono HB.out.size)⟩

set_option maxHeartbeats 2000000 in
theorem refClock_any (D : Dt) (w : World) (h0 : 0 ≤ D.h) (h1 : D.h ≤ 99) (m0 : 0 ≤ D.mi) (m1 : D.mi ≤ 99) (s0 : 0 ≤ D.s) (s1 : D.s ≤ 99) :
    Calls Tryd.prog 48 #[D.v] w fun e w' => e = .returned (.string (clockB D.h D.mi D.s)) ∧ Below w.heap.size w w' := by
  obtain ⟨y, m, d, h, mi, s, wd⟩ := D
  simp only at *
  unfold Dt.v
  have z1 := padS_size 2 h
  have z2 := padS_size 2 mi
  have z3 := padS_size 2 s
  go_enter Tryd.func48, Tryd.ntmps48
  go_wp2_with fail
  generalize hW : w.alloc _ = W
  have hB : Below w.heap.size w W := by rw [← hW]; exact (Below.refl _ _).alloc (Nat.le_refl _) _
  have c3 : W.cell? ⟨w.heap.size, 3, none⟩ = some (.int .i64 h) := by rw [← hW]; simp [go_sem]
  have c4 : W.cell? ⟨w.heap.size, 4, none⟩ = some (.int .i64 mi) := by rw [← hW]; simp [go_sem]
  have c5 : W.cell? ⟨w.heap.size, 5, none⟩ = some (.int .i64 s) := by rw [← hW]; simp [go_sem]
  have lt : w.heap.size < W.heap.size := World.block_lt_of_cell? W _ c3
  have HB := Lib.hid hB
  clear hW hB
  generalize w.heap.size = b at c3 c4 c5 lt ⊢
  go_region_held3 (fun w' => Below W.heap.size W w' ∧ ∀ b o, b < W.heap.size → w'.cell? ⟨b, o, none⟩ = W.cell? ⟨b, o, none⟩) (first | (exact ⟨(Below.refl _ _).drew, fun _ _ _ => rfl⟩) | (exact keepS (by assumption) (by assumption)) | assumption | (simp [*]; done))
    (first
      | (go_at_call 46; refine (digits_any _ 2 _ (by omega) (by omega) (by omega) (by omega)).mono ?_; rintro e w' ⟨rfl, hb⟩))
  go_wp2
  go_ret
  exact ⟨ret_str rfl, HB.out.trans ((by assumption : Below W.heap.size W _ ∧ _).1.mono HB.out.size)⟩

theorem wd_slice (q : Nat) (hq : q < 7) (W : World) : (Instr.slice 9 (.string { data := #[83, 117, 110, 77, 111, 110, 84, 117, 101, 87, 101, 100, 84, 104, 117, 70, 114, 105, 83, 97, 116] }) (some (.int .i64 (3 * (q : Int)))) (some (.int .i64 (3 * (q : Int) + 3))) none).run Tryd.prog W = .ok (.string (wdB q)) W := by
  have h : q = 0 ∨ q = 1 ∨ q = 2 ∨ q = 3 ∨ q = 4 ∨ q = 5 ∨ q = 6 := by omega
  rcases h with rfl | rfl | rfl | rfl | rfl | rfl | rfl <;> (simp [go_sem]; rfl)

def fixB (D : Dt) : ByteArray := wdB D.wd.toNat ++ { data := #[44, 32] } ++ padS 2 D.d ++ { data := #[32] } ++ monB (D.m - 1).toNat ++ { data := #[32] } ++ padS 4 D.y ++ { data := #[32] } ++ clockB D.h D.mi D.s ++ { data := #[32, 71, 77, 84] }

set_option maxHeartbeats 4000000 in
theorem imf_any (D : Dt) (w : World) (hd : D.ok) (w0 : 0 ≤ D.wd) (w1 : D.wd ≤ 6) :
    Calls Tryd.prog 30 #[D.v] w fun e w' => e = .returned (.string (fixB D)) ∧ Below w.heap.size w w' := by
  have db := days_bd D.y D.m
  obtain ⟨y, m, d, h, mi, s, wd⟩ := D
  obtain ⟨y0, y1, m0, m1, d0, d1, u0, u1, u2, u3, u4, u5⟩ := hd
  simp only at *
  obtain ⟨k, rfl⟩ : ∃ k : Nat, m = k + 1 := ⟨(m - 1).toNat, by omega⟩
  obtain ⟨q, rfl⟩ : ∃ q : Nat, wd = q := ⟨wd.toNat, by omega⟩
  have z1 := padS_size 2 d
  have z2 := padS_size 4 y
  have z3 := monB_size k (by omega)
  have z4 := clockB_size h mi s
  have z5 := wdB_size q (by omega)
  have wr1 : IntKind.i64.wrap (3 * (q : Int)) = 3 * (q : Int) := IntWalk.i64_in _ (by omega)
  have wr2 : IntKind.i64.wrap (3 * (q : Int) + 3) = 3 * (q : Int) + 3 := IntWalk.i64_in _ (by omega)
  have hsl := wd_slice q (by omega)
  unfold Dt.v
  go_enter Tryd.func30, Tryd.ntmps30
  go_wp2_with fail
  generalize hW : w.alloc _ = W
  have hB : Below w.heap.size w W := by rw [← hW]; exact (Below.refl _ _).alloc (Nat.le_refl _) _
  have c0 : W.cell? ⟨w.heap.size, 0, none⟩ = some (.int .i64 (y)) := by rw [← hW]; simp [go_sem]
  have c1 : W.cell? ⟨w.heap.size, 1, none⟩ = some (.int .i64 ((k : Int) + 1)) := by rw [← hW]; simp [go_sem]
  have c2 : W.cell? ⟨w.heap.size, 2, none⟩ = some (.int .i64 (d)) := by rw [← hW]; simp [go_sem]
  have c3 : W.cell? ⟨w.heap.size, 3, none⟩ = some (.int .i64 (h)) := by rw [← hW]; simp [go_sem]
  have c4 : W.cell? ⟨w.heap.size, 4, none⟩ = some (.int .i64 (mi)) := by rw [← hW]; simp [go_sem]
  have c5 : W.cell? ⟨w.heap.size, 5, none⟩ = some (.int .i64 (s)) := by rw [← hW]; simp [go_sem]
  have c6 : W.cell? ⟨w.heap.size, 6, none⟩ = some (.int .i64 ((q : Int))) := by rw [← hW]; simp [go_sem]
  have lt : w.heap.size < W.heap.size := World.block_lt_of_cell? W _ c3
  have HB := Lib.hid hB
  clear hW hB
  generalize w.heap.size = b at c0 c1 c2 c3 c4 c5 c6 lt ⊢
  go_region_held3 (fun w' => Below W.heap.size W w' ∧ ∀ b o, b < W.heap.size → w'.cell? ⟨b, o, none⟩ = W.cell? ⟨b, o, none⟩) (first | (exact ⟨(Below.refl _ _).drew, fun _ _ _ => rfl⟩) | (exact keepS (by assumption) (by assumption)) | assumption | (simp [*]; done))
    (first
      | (go_at_call_of 46 (Value.int IntKind.i64 y); refine (digits_any _ 4 _ (by omega) (by omega) (by omega) (by omega)).mono ?_; rintro e w' ⟨rfl, hb⟩)
      | (go_at_call_of 46 (Value.int IntKind.i64 d); refine (digits_any _ 2 _ (by omega) (by omega) (by omega) (by omega)).mono ?_; rintro e w' ⟨rfl, hb⟩)
      | (go_at_call 47; refine (month_any k _ (by omega)).mono ?_; rintro e w' ⟨rfl, rfl⟩)
      | (go_at_call 48; refine (refClock_any ⟨y, k + 1, d, h, mi, s, q⟩ _ u0 (by simp only; omega) u2 (by simp only; omega) u4 (by simp only; omega)).mono ?_; rintro e w' ⟨rfl, hb⟩))
  go_wp2
  go_ret
  refine ⟨ret_str ?_, HB.out.trans ((by assumption : Below W.heap.size W _ ∧ _).1.mono HB.out.size)⟩
  unfold fixB
  simp only [Int.toNat_natCast, show ((k : Int) + 1 - 1).toNat = k from by omega]
end Go.Proofs.YtmejjhklknhniaaDoor
