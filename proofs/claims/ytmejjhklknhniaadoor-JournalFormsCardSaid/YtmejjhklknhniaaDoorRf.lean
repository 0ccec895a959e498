import Derived.Test.YtmejjhklknhniaaDoorTxt
import Derived.Test.YtmejjhklknhniaaDoorCu2
namespace Go.Proofs.YtmejjhklknhniaaDoor
open Go Go.RowKit

def rfcB (D : Dt) : ByteArray := longB D.wd.toNat ++ { data := #[44, 32] } ++ padS 2 D.d ++ { data := #[45] } ++ monB (D.m - 1).toNat ++ { data := #[45] } ++ padS 2 (D.y % 100) ++ { data := #[32] } ++ clockB D.h D.mi D.s ++ { data := #[32, 71, 77, 84] }
theorem longB_size (k : Nat) (h : k < 7) : (longB k).size = 6 ∨ (longB k).size = 7 ∨ (longB k).size = 8 ∨ (longB k).size = 9 := by rw [longB, strB_size]; revert k; decide

set_option maxHeartbeats 4000000 in
theorem rfc850_any (D : Dt) (w : World) (hd : D.ok) (w0 : 0 ≤ D.wd) (w1 : D.wd ≤ 6) (h9 : ∀ k : Nat, k < 7 → w.cell? ⟨9, k, none⟩ = some (.string (longB k))) :
    Calls Tryd.prog 39 #[D.v] w fun e w' => e = .returned (.string (rfcB D)) ∧ Below w.heap.size w w' := by
  have db := days_bd D.y D.m
  obtain ⟨y, m, d, h, mi, s, wd⟩ := D
  obtain ⟨y0, y1, m0, m1, d0, d1, u0, u1, u2, u3, u4, u5⟩ := hd
  simp only at *
  obtain ⟨k, rfl⟩ : ∃ k : Nat, m = k + 1 := ⟨(m - 1).toNat, by omega⟩
  obtain ⟨q, rfl⟩ : ∃ q : Nat, wd = q := ⟨wd.toNat, by omega⟩
  have z1 := padS_size 2 d
  have z2 := padS_size 2 (y % 100)
  have z3 := monB_size k (by omega)
  have z4 := clockB_size h mi s
  have z5 := longB_size q (by omega)
  have LQ : Hid (rfcB ⟨y, (k : Int) + 1, d, h, mi, s, (q : Int)⟩ = longB q ++ { data := #[44, 32] } ++ padS 2 d ++ { data := #[45] } ++ monB k ++ { data := #[45] } ++ padS 2 (y % 100) ++ { data := #[32] } ++ clockB h mi s ++ { data := #[32, 71, 77, 84] }) := by
    show _ = _
    unfold rfcB
    simp only [Int.toNat_natCast, show ((k : Int) + 1 - 1).toNat = k from by omega]
  have wr1 : IntKind.i64.wrap (q : Int) = q := IntWalk.i64_in _ (by omega)
  have q7 : (q : Int) < 7 := by omega
  have c9 := h9 q (by omega)
  have l9 : 9 < w.heap.size := World.block_lt_of_cell? w ⟨9, q, none⟩ c9
  have tm : y.tmod 100 = y % 100 := Int.tmod_eq_emod_of_nonneg (by omega)
  generalize longB q = LB at z5 c9 LQ
  unfold Dt.v
  go_enter Tryd.func39, Tryd.ntmps39
  go_wp2_with fail
  generalize hW : w.alloc _ = W
  have hB : Below w.heap.size w W := by rw [← hW]; exact (Below.refl _ _).alloc (Nat.le_refl _) _
  have c0 : W.cell? ⟨w.heap.size, 0, none⟩ = some (.int .i64 (y)) := by rw [← hW]; simp [go_sem]
  have c1 : W.cell? ⟨w.heap.size, 1, none⟩ = some (.int .i64 ((k : Int) + 1)) := by rw [← hW]; simp [go_sem]
  have c2 : W.cell? ⟨w.heap.size, 2, none⟩ = some (.int .i64 (d)) := by rw [← hW]; simp [go_sem]
  have c3 : W.cell? ⟨w.heap.size, 3, none⟩ = some (.int .i64 (h)) := by rw [← hW]; simp [go_sem]
  have c4 : W.cell? ⟨w.heap.size, 4, none⟩ = some (.int .i64 (mi)) := by rw [← hW]; simp [go_sem]
  have c5 : W.cell? ⟨w.heap.size, 5, none⟩ = some (.int .i64 (s)) := by rw [← hW]; simp [go_sem]
  have c6 : W.cell? ⟨w.heap.size, 6, none⟩ = some (.int .i64 ((q : Int))) := by rw [← hW]; simp [go_sem]
  have e9 : W.cell? ⟨9, q, none⟩ = some (.string LB) := (hB.cell (p := ⟨9, q, none⟩) l9).trans c9
  have lt : w.heap.size < W.heap.size := World.block_lt_of_cell? W _ c3
  have l9' : 9 < W.heap.size := World.block_lt_of_cell? W _ e9
  have HB := Lib.hid hB
  clear hW hB h9 c9
  generalize w.heap.size = b at c0 c1 c2 c3 c4 c5 c6 lt ⊢
  rcases z5 with z5 | z5 | z5 | z5
  all_goals
    go_region_held3 (fun w' => Below W.heap.size W w' ∧ ∀ b o, b < W.heap.size → w'.cell? ⟨b, o, none⟩ = W.cell? ⟨b, o, none⟩) (first | (exact ⟨(Below.refl _ _).drew, fun _ _ _ => rfl⟩) | (exact keepS (by assumption) (by assumption)) | assumption | (simp [*]; done))
      (first
        | (go_at_call_of 46 (Value.int IntKind.i64 d); refine (digits_any _ 2 _ (by omega) (by omega) (by omega) (by omega)).mono ?_; rintro e w' ⟨rfl, hb⟩)
        | (go_at_call 46; refine (digits_any (y % 100) 2 _ (by omega) (by omega) (by omega) (by omega)).mono ?_; rintro e w' ⟨rfl, hb⟩)
        | (go_at_call 47; refine (month_any k _ (by omega)).mono ?_; rintro e w' ⟨rfl, rfl⟩)
        | (go_at_call 48; refine (refClock_any ⟨y, k + 1, d, h, mi, s, q⟩ _ u0 (by simp only; omega) u2 (by simp only; omega) u4 (by simp only; omega)).mono ?_; rintro e w' ⟨rfl, hb⟩))
    go_wp2
    go_ret
    exact ⟨ret_str LQ.out.symm, HB.out.trans ((by assumption : Below W.heap.size W _ ∧ _).1.mono HB.out.size)⟩
end Go.Proofs.YtmejjhklknhniaaDoor
