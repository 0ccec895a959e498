import Derived.Test.YtmejjhklknhniaaDoorTxt
import Derived.Test.YtmejjhklknhniaaDoorRb
namespace Go.Proofs.YtmejjhklknhniaaDoor
open Go Go.RowKit

/-- The tables of names. -/
def WdNames (g : Nat) (w : World) : Prop := ∀ k : Nat, k < 7 → w.cell? ⟨g, k, none⟩ = some (.string (wdB k))
def MonNames (g : Nat) (w : World) : Prop := ∀ k : Nat, k < 12 → w.cell? ⟨g, k, none⟩ = some (.string (monB k))
theorem WdNames.below {g : Nat} {w w' : World} (h : WdNames g w) (hb : Below w.heap.size w w') : WdNames g w' :=
  fun k hk => (hb.cell (p := ⟨g, k, none⟩) (World.block_lt_of_cell? w ⟨g, k, none⟩ (h k hk))).trans (h k hk)
theorem MonNames.below {g : Nat} {w w' : World} (h : MonNames g w) (hb : Below w.heap.size w w') : MonNames g w' :=
  fun k hk => (hb.cell (p := ⟨g, k, none⟩) (World.block_lt_of_cell? w ⟨g, k, none⟩ (h k hk))).trans (h k hk)

set_option maxHeartbeats 1000000 in
theorem fixdate_no (t : Int) (w : World) (eA : Value) (hE : w.cell? ⟨0, 0, none⟩ = some eA) (hi : ∃ u v, eA = .iface u v) (h : ¬ (0 ≤ t ∧ t ≤ 253402300799)) :
    Calls Tryd.prog 13 #[.int .i64 t] w fun e w' => e = .returned (.tuple #[.string ByteArray.empty, eA]) ∧ Below w.heap.size w w' := by
  obtain ⟨u, v, rfl⟩ := hi
  go_enter Tryd.func13, Tryd.ntmps13
  go_wp2_with fail
  refine (civil_no t _ _ hE h).mono ?_
  rintro e w1 ⟨rfl, hb⟩
  obtain ⟨X, n, rfl⟩ := Below_ext hb
  clear hb
  unfold Dt.v
  go_wp2_with fail
  go_ret2
  exact ⟨rfl, by repeat (first | exact Below.refl _ _ | refine Below.alloc ?_ (by simp [go_sem]) _ | refine below_ext ?_ (by simp [go_sem]) _ _)⟩

set_option maxHeartbeats 4000000 in
theorem fixdate_yes (t : Int) (w : World) (hg : MDays 11 w) (hw : WdNames 7 w) (hm : MonNames 8 w) (h0 : 0 ≤ t) (h1 : t ≤ 253402300799) :
    Calls Tryd.prog 13 #[.int .i64 t] w fun e w' => ∃ D : Dt, D.fits t ∧ e = .returned (.tuple #[.string (fixB D), .nilIface]) ∧ Below w.heap.size w w' := by
  have HWD : Hid (∀ W, Below w.heap.size w W → WdNames 7 W) := fun W hb => hw.below hb
  have HMO : Hid (∀ W, Below w.heap.size w W → MonNames 8 W) := fun W hb => hm.below hb
  have HG := Lib.hid hg
  clear hg hw hm
  go_enter Tryd.func13, Tryd.ntmps13
  go_wp2_with fail
  refine (civil_yes t _ HG.out h0 h1).mono ?_
  rintro e w1 ⟨D, hD, rfl, hb⟩
  obtain ⟨X, n, rfl⟩ := Below_ext hb
  clear hb
  obtain ⟨hok, _, hwd⟩ := hD.ok
  have HDF := Lib.hid hD
  have db := days_bd D.y D.m
  have w0 : 0 ≤ D.wd := by omega
  have w6 : D.wd ≤ 6 := by omega
  clear hD hwd
  obtain ⟨y, m, d, h, mi, s, wd⟩ := D
  obtain ⟨y0, y1, m0, m1, d0, d1, u0, u1, u2, u3, u4, u5⟩ := hok
  simp only at *
  obtain ⟨k, rfl⟩ : ∃ k : Nat, m = k + 1 := ⟨(m - 1).toNat, by omega⟩
  obtain ⟨q, rfl⟩ : ∃ q : Nat, wd = q := ⟨wd.toNat, by omega⟩
  have z1 := padS_size 2 d
  have z2 := padS_size 4 y
  have z3 := monB_size k (by omega)
  have z4 := clockB_size h mi s
  have z5 := wdB_size q (by omega)
  have q7 : (q : Int) < 7 := by omega
  have wr1 : IntKind.i64.wrap (k : Int) = k := IntWalk.i64_in _ (by omega)
  have k12 : (k : Int) < 12 := by omega
  unfold Dt.v
  go_wp2_with fail
  generalize hW : (ext w X n).alloc _ = W
  have hB : Below w.heap.size w W := by rw [← hW]; repeat (first | exact Below.refl _ _ | refine Below.alloc ?_ (by simp [go_sem]) _ | refine below_ext ?_ (by simp [go_sem]) _ _)
  have e7 := HWD.out W hB q (by omega)
  have e8 := HMO.out W hB k (by omega)
  have c0 : W.cell? ⟨w.heap.size + X.size, 0, none⟩ = some (.int .i64 (y)) := by rw [← hW]; simp [go_sem]
  have c1 : W.cell? ⟨w.heap.size + X.size, 1, none⟩ = some (.int .i64 ((k : Int) + 1)) := by rw [← hW]; simp [go_sem]
  have c2 : W.cell? ⟨w.heap.size + X.size, 2, none⟩ = some (.int .i64 (d)) := by rw [← hW]; simp [go_sem]
  have c3 : W.cell? ⟨w.heap.size + X.size, 3, none⟩ = some (.int .i64 (h)) := by rw [← hW]; simp [go_sem]
  have c4 : W.cell? ⟨w.heap.size + X.size, 4, none⟩ = some (.int .i64 (mi)) := by rw [← hW]; simp [go_sem]
  have c5 : W.cell? ⟨w.heap.size + X.size, 5, none⟩ = some (.int .i64 (s)) := by rw [← hW]; simp [go_sem]
  have c6 : W.cell? ⟨w.heap.size + X.size, 6, none⟩ = some (.int .i64 ((q : Int))) := by rw [← hW]; simp [go_sem]
  have lt : w.heap.size + X.size < W.heap.size := World.block_lt_of_cell? W _ c3
  have l7 : 7 < W.heap.size := World.block_lt_of_cell? W _ e7
  have l8 : 8 < W.heap.size := World.block_lt_of_cell? W _ e8
  have HB := Lib.hid hB
  clear hW hB
  generalize w.heap.size + X.size = b at c0 c1 c2 c3 c4 c5 c6 lt ⊢
  go_region_held3 (fun w' => Below W.heap.size W w' ∧ ∀ b o, b < W.heap.size → w'.cell? ⟨b, o, none⟩ = W.cell? ⟨b, o, none⟩) (first | (exact ⟨(Below.refl _ _).drew, fun _ _ _ => rfl⟩) | (exact keepS (by assumption) (by assumption)) | assumption | (simp [*]; done))
    (first
      | (go_at_call_of 28 (Value.int IntKind.i64 y); refine (padded_any _ 4 _ (by omega) (by omega) (by omega) (by omega)).mono ?_; rintro e w' ⟨rfl, hb⟩)
      | (go_at_call_of 28 (Value.int IntKind.i64 d); refine (padded_any _ 2 _ (by omega) (by omega) (by omega) (by omega)).mono ?_; rintro e w' ⟨rfl, hb⟩)
      | (go_at_call 29; refine (clock_any ⟨y, k + 1, d, h, mi, s, q⟩ _ u0 (by simp only; omega) u2 (by simp only; omega) u4 (by simp only; omega)).mono ?_; rintro e w' ⟨rfl, hb⟩))
  go_wp2
  go_ret2
  refine ⟨⟨y, k + 1, d, h, mi, s, q⟩, HDF.out, ?_, HB.out.trans ((by assumption : Below W.heap.size W _ ∧ _).1.mono HB.out.size)⟩
  unfold fixB
  simp only [Int.toNat_natCast, show ((k : Int) + 1 - 1).toNat = k from by omega]
  rfl

set_option maxHeartbeats 1000000 in
theorem refFixdate_no (t : Int) (w : World) (h : ¬ (0 ≤ t ∧ t ≤ 253402300799)) :
    Calls Tryd.prog 14 #[.int .i64 t] w fun e w' => e = .returned (.tuple #[.string ByteArray.empty, .int .i64 1]) ∧ Below w.heap.size w w' := by
  go_enter Tryd.func14, Tryd.ntmps14
  go_wp2_with fail
  refine (refCivil_no t _ h).mono ?_
  rintro e w1 ⟨rfl, hb⟩
  obtain ⟨X, n, rfl⟩ := Below_ext hb
  clear hb
  unfold Dt.v
  go_wp2_with fail
  go_ret2
  exact ⟨rfl, by repeat (first | exact Below.refl _ _ | refine Below.alloc ?_ (by simp [go_sem]) _ | refine below_ext ?_ (by simp [go_sem]) _ _)⟩

set_option maxHeartbeats 1000000 in
theorem refFixdate_yes (t : Int) (w : World) (hg : MDays 19 w) (h0 : 0 ≤ t) (h1 : t ≤ 253402300799) :
    Calls Tryd.prog 14 #[.int .i64 t] w fun e w' => ∃ D : Dt, D.fits t ∧ e = .returned (.tuple #[.string (fixB D), .int .i64 0]) ∧ Below w.heap.size w w' := by
  have HG := Lib.hid hg
  clear hg
  go_enter Tryd.func14, Tryd.ntmps14
  go_wp2_with fail
  refine (refCivil_yes t _ HG.out h0 h1).mono ?_
  rintro e w1 ⟨D, hD, rfl, hb⟩
  obtain ⟨X, n, rfl⟩ := Below_ext hb
  clear hb
  obtain ⟨hok, _, hwd⟩ := hD.ok
  have w0 : 0 ≤ D.wd := by omega
  have w6 : D.wd ≤ 6 := by omega
  have HOK := Lib.hid hok
  have HDF := Lib.hid hD
  clear hok hwd hD
  unfold Dt.v
  go_wp2_with fail
  refine (imf_any D _ HOK.out w0 w6).mono ?_
  rintro e w1 ⟨rfl, hb⟩
  obtain ⟨X1, n1, rfl⟩ := Below_ext hb
  clear hb
  go_wp2_with fail
  go_ret2
  exact ⟨D, HDF.out, rfl, by repeat (first | exact Below.refl _ _ | refine Below.alloc ?_ (by simp [go_sem]) _ | refine below_ext ?_ (by simp [go_sem]) _ _)⟩

end Go.Proofs.YtmejjhklknhniaaDoor
