import Derived.Test.YtmejjhklknhniaaDoorWd
import Derived.Deep.RegionHeld3
namespace Go.Proofs.YtmejjhklknhniaaDoor
open Go Go.RowKit

theorem infoE : (Tryd.prog.info? 79).map (fun i => i.comparable) = some true := by kernel_rfl
theorem infoS : (Tryd.prog.info? 97).map (fun i => i.size) = some 1 := by kernel_rfl

/-- Num of the first refusal. -/
theorem num_arg (w : World) (a : Addr) (hE : w.cell? ⟨0, 0, none⟩ = some (.iface 79 (.pointer (some a)))) :
    Calls Tryd.prog 11 #[.iface 79 (.pointer (some a))] w fun e w' => e = .returned (.int .i64 1) ∧ w = w' := by
  obtain ⟨i, hi, hc⟩ := Option.map_eq_some_iff.1 infoE
  obtain ⟨j, hj, _⟩ := Option.map_eq_some_iff.1 infoS
  have he := run_eql_iface_ptr_same (P := Tryd.prog) w a Tryd.underlying26 Tryd.underlying79 hi hc hj
  clear hi hc hj
  go_enter Tryd.func11, Tryd.ntmps11
  go_wp2_with fail
  go_ret
  exact ⟨rfl, rfl⟩

theorem next_agg (D : Dt) (w : World) (hg : MDays 12 w) (hd : D.ok) (w0 : 0 ≤ D.wd) (w1 : D.wd ≤ 6) :
    Calls Tryd.prog 10 #[D.v] w fun e w' => e = .returned (.agg #[.int .i64 (nextD D).y, .int .i64 (nextD D).m, .int .i64 (nextD D).d, .int .i64 (nextD D).h, .int .i64 (nextD D).mi, .int .i64 (nextD D).s, .int .i64 (nextD D).wd]) ∧ Below w.heap.size w w' := next_any D w hg hd w0 w1

theorem keepS {W a b : World} (h : Below W.heap.size W a ∧ ∀ b o, b < W.heap.size → a.cell? ⟨b, o, none⟩ = W.cell? ⟨b, o, none⟩) (k : Below a.heap.size a b) :
    Below W.heap.size W b ∧ ∀ c o, c < W.heap.size → b.cell? ⟨c, o, none⟩ = W.cell? ⟨c, o, none⟩ :=
  ⟨h.1.trans (k.mono h.1.size), fun c o hc => (k.cell (p := ⟨c, o, none⟩) (Nat.lt_of_lt_of_le hc h.1.size)).trans (h.2 c o hc)⟩

set_option maxHeartbeats 1000000 in
theorem next_walk (s : Int) (w : World) (a : Addr) (hE : w.cell? ⟨0, 0, none⟩ = some (.iface 79 (.pointer (some a)))) (hg : MDays 11 w) (hl : MDays 12 w) :
    Calls Tryd.prog 3 #[.int .i64 s] w fun e w' => e = .returned (.bool true) ∧ Below w.heap.size w w' := by
  have t0 := Int.emod_nonneg s (b := 253402300799) (by omega)
  have t1 := Int.emod_lt_of_pos s (b := 253402300799) (by omega)
  obtain ⟨t, ht⟩ : ∃ t, t = s % 253402300799 := ⟨_, rfl⟩
  rw [← ht] at t0 t1
  have HT := Lib.hid ht.symm
  clear ht
  have lt : 12 < w.heap.size := World.block_lt_of_cell? w _ (hl 0 (by omega))
  have HG : Hid (∀ W, Below w.heap.size w W → MDays 11 W) := fun W hb => hg.below hb
  have HL : Hid (∀ W, Below w.heap.size w W → MDays 12 W) := fun W hb => hl.below hb
  have HE : Hid (∀ W, Below w.heap.size w W → W.cell? ⟨0, 0, none⟩ = some (.iface 79 (.pointer (some a)))) := fun W hb => (hb.cell (p := ⟨0, 0, none⟩) (by show 0 < _; omega)).trans hE
  clear hg hl hE
  go_enter Tryd.func3, Tryd.ntmps3
  go_wp2_with fail
  refine (pick_any s _ _ (by omega) (by omega)).mono ?_
  rintro e w1 ⟨rfl, rfl⟩
  rw [HT.out]
  go_wp2_with fail
  refine (civil_yes 0 _ (HG.out _ (Below.refl _ _)) (by omega) (by omega)).mono ?_
  rintro e w1 ⟨D0, hD0, rfl, hb⟩
  obtain ⟨X0, n0, rfl⟩ := Below_ext hb
  clear hb
  obtain rfl : D0 = ⟨1970, 1, 1, 0, 0, 0, 4⟩ := hD0.unique (fits_mk ⟨by omega, by omega, by omega, by omega, by omega, by decide, by decide⟩ rfl rfl rfl rfl)
  clear hD0
  unfold Dt.v
  go_wp2_with fail
  refine (civil_yes t _ (HG.out _ (by repeat (first | exact Below.refl _ _ | refine Below.alloc ?_ (by simp [go_sem]) _ | refine below_ext ?_ (by simp [go_sem]) _ _))) (by omega) (by omega)).mono ?_
  rintro e w1 ⟨D1, hD1, rfl, hb⟩
  obtain ⟨X1, n1, rfl⟩ := Below_ext hb
  clear hb
  obtain ⟨hok, hsec, hwd⟩ := hD1.ok
  have hnx := nextD_fits hD1 t0 (by omega)
  have m0 := hok.m0
  have w0 : 0 ≤ D1.wd := by omega
  have w6 : D1.wd ≤ 6 := by omega
  have m1 := hok.m1
  have HOK := Lib.hid hok
  have HSEC := Lib.hid hsec
  have HWD := Lib.hid hwd
  have HNX := Lib.hid hnx
  have dm0 : decide (D1.m < 1) = false := by simp; omega
  have dm1 : decide (12 < D1.m) = false := by simp; omega
  clear hok hsec hwd hnx hD1
  unfold Dt.v
  go_wp2_with fail
  refine (civil_yes (t + 1) _ (HG.out _ (by repeat (first | exact Below.refl _ _ | refine Below.alloc ?_ (by simp [go_sem]) _ | refine below_ext ?_ (by simp [go_sem]) _ _))) (by omega) (by omega)).mono ?_
  rintro e w1 ⟨D2, hD2, rfl, hb⟩
  obtain ⟨X2, n2, rfl⟩ := Below_ext hb
  clear hb
  obtain rfl : D2 = nextD D1 := hD2.unique HNX.out
  clear hD2
  unfold Dt.v
  go_wp2_with fail
  refine (seconds_yes D1 _ _ (HE.out _ (by repeat (first | exact Below.refl _ _ | refine Below.alloc ?_ (by simp [go_sem]) _ | refine below_ext ?_ (by simp [go_sem]) _ _))) (HG.out _ (by repeat (first | exact Below.refl _ _ | refine Below.alloc ?_ (by simp [go_sem]) _ | refine below_ext ?_ (by simp [go_sem]) _ _))) ⟨HOK.out, HWD.out⟩).mono ?_
  rintro e w1 ⟨rfl, hb⟩
  obtain ⟨X3, n3, rfl⟩ := Below_ext hb
  clear hb
  rw [HSEC.out]
  go_wp2_with fail

  refine (seconds_no ⟨D1.y, D1.m, D1.d, D1.h, D1.mi, D1.s, (D1.wd + 1) % 7⟩ _ _ (HE.out _ (by repeat (first | exact Below.refl _ _ | refine Below.alloc ?_ (by simp [go_sem]) _ | refine below_ext ?_ (by simp [go_sem]) _ _))) (HG.out _ (by repeat (first | exact Below.refl _ _ | refine Below.alloc ?_ (by simp [go_sem]) _ | refine below_ext ?_ (by simp [go_sem]) _ _))) (fun h => by have h2 := h.2; have h3 := HWD.out; simp only [Dt.day] at h2 h3; omega)).mono ?_
  rintro e w1 ⟨rfl, hb⟩
  obtain ⟨X4, n4, rfl⟩ := Below_ext hb
  clear hb
  go_wp2_with fail
  generalize hW5 : ext _ X4 n4 = W5
  have hBw : Below w.heap.size w W5 := by rw [← hW5]; repeat (first | exact Below.refl _ _ | refine Below.alloc ?_ (by simp [go_sem]) _ | refine below_ext ?_ (by simp [go_sem]) _ _)
  have c60 : W5.cell? ⟨w.heap.size + X0.size + 1 + X1.size, 0, none⟩ = some (.int .i64 D1.y) := by rw [← hW5]; simp [go_sem]
  have c61 : W5.cell? ⟨w.heap.size + X0.size + 1 + X1.size, 1, none⟩ = some (.int .i64 D1.m) := by rw [← hW5]; simp [go_sem]
  have c62 : W5.cell? ⟨w.heap.size + X0.size + 1 + X1.size, 2, none⟩ = some (.int .i64 D1.d) := by rw [← hW5]; simp [go_sem]
  have c63 : W5.cell? ⟨w.heap.size + X0.size + 1 + X1.size, 3, none⟩ = some (.int .i64 D1.h) := by rw [← hW5]; simp [go_sem]
  have c64 : W5.cell? ⟨w.heap.size + X0.size + 1 + X1.size, 4, none⟩ = some (.int .i64 D1.mi) := by rw [← hW5]; simp [go_sem]
  have c65 : W5.cell? ⟨w.heap.size + X0.size + 1 + X1.size, 5, none⟩ = some (.int .i64 D1.s) := by rw [← hW5]; simp [go_sem]
  have c66 : W5.cell? ⟨w.heap.size + X0.size + 1 + X1.size, 6, none⟩ = some (.int .i64 D1.wd) := by rw [← hW5]; simp [go_sem]
  have c80 : W5.cell? ⟨w.heap.size + X0.size + 1 + X1.size + 1 + X2.size, 0, none⟩ = some (.int .i64 (nextD D1).y) := by rw [← hW5]; simp [go_sem]
  have c81 : W5.cell? ⟨w.heap.size + X0.size + 1 + X1.size + 1 + X2.size, 1, none⟩ = some (.int .i64 (nextD D1).m) := by rw [← hW5]; simp [go_sem]
  have c82 : W5.cell? ⟨w.heap.size + X0.size + 1 + X1.size + 1 + X2.size, 2, none⟩ = some (.int .i64 (nextD D1).d) := by rw [← hW5]; simp [go_sem]
  have c83 : W5.cell? ⟨w.heap.size + X0.size + 1 + X1.size + 1 + X2.size, 3, none⟩ = some (.int .i64 (nextD D1).h) := by rw [← hW5]; simp [go_sem]
  have c84 : W5.cell? ⟨w.heap.size + X0.size + 1 + X1.size + 1 + X2.size, 4, none⟩ = some (.int .i64 (nextD D1).mi) := by rw [← hW5]; simp [go_sem]
  have c85 : W5.cell? ⟨w.heap.size + X0.size + 1 + X1.size + 1 + X2.size, 5, none⟩ = some (.int .i64 (nextD D1).s) := by rw [← hW5]; simp [go_sem]
  have c86 : W5.cell? ⟨w.heap.size + X0.size + 1 + X1.size + 1 + X2.size, 6, none⟩ = some (.int .i64 (nextD D1).wd) := by rw [← hW5]; simp [go_sem]
  clear hW5
  have l6 := World.block_lt_of_cell? W5 _ c60
  have l8 := World.block_lt_of_cell? W5 _ c80
  simp only at l6 l8
  generalize w.heap.size + X0.size + 1 + X1.size + 1 + X2.size = b8 at *
  generalize w.heap.size + X0.size + 1 + X1.size = b6 at *
  have HL5 : Hid (∀ V, Below W5.heap.size W5 V → MDays 12 V) := fun V hb => HL.out V (hBw.trans (hb.mono hBw.size))
  have HE5 : Hid (∀ V, Below W5.heap.size W5 V → V.cell? ⟨0, 0, none⟩ = some (.iface 79 (.pointer (some a)))) := fun V hb => HE.out V (hBw.trans (hb.mono hBw.size))
  have HBW := Lib.hid hBw
  clear hBw
  go_region_held3 (fun w' => Below W5.heap.size W5 w' ∧ ∀ b o, b < W5.heap.size → w'.cell? ⟨b, o, none⟩ = W5.cell? ⟨b, o, none⟩) (first | (exact ⟨(Below.refl _ _).drew, fun _ _ _ => rfl⟩) | (exact keepS (by assumption) (by assumption)) | assumption | (simp [*]; done))
    (first
      | (go_at_call 10; refine (next_agg D1 _ (HL5.out _ ?_) HOK.out (by omega) (by omega)).mono ?_; (exact (by assumption : _ ∧ _).1); rintro e w' ⟨rfl, hb⟩)
      | (go_at_call 11; refine (num_arg _ a (HE5.out _ ?_)).mono ?_; (exact (by assumption : _ ∧ _).1); rintro e w' ⟨rfl, rfl⟩))

  go_wp2
  go_ret
  exact ⟨rfl, HBW.out.trans ((by assumption : Below W5.heap.size W5 _ ∧ _).1.mono HBW.out.size)⟩

end Go.Proofs.YtmejjhklknhniaaDoor
