import Derived.Test.YtmejjhklknhniaaDoorFa
import Derived.Test.YtmejjhklknhniaaDoorPo
import Derived.Test.YtmejjhklknhniaaDoorRb
import Derived.BigQuiet
import Derived.Deep.DrawnRows
import Derived.Test.YtmejjhklknhniaaDoorRf
namespace Go.Proofs.YtmejjhklknhniaaDoor
open Go Go.RowKit

attribute [local go_sem ↓] Go.wp_at_zero Go.wp_at_succ
theorem pad4 (n : Int) : padS 4 n = padS 2 (n / 100) ++ padS 2 (n % 100) := by
  unfold padS
  rw [strB_append]
  simp only [padL, List.nil_append, List.cons_append]
  rw [show n / 10 / 10 / 10 % 10 = n / 100 / 10 % 10 from by omega, show n / 10 / 10 % 10 = n / 100 % 10 from by omega, show n / 10 % 10 = n % 100 / 10 % 10 from by omega, show n % 100 % 10 = n % 10 from by omega]
theorem mon_slice (k : Nat) (hk : k < 12) (W : World) : (Instr.slice 9 (.string { data := #[74, 97, 110, 70, 101, 98, 77, 97, 114, 65, 112, 114, 77, 97, 121, 74, 117, 110, 74, 117, 108, 65, 117, 103, 83, 101, 112, 79, 99, 116, 78, 111, 118, 68, 101, 99] }) (some (.int .i64 (3 * ((k : Int) + 1) - 3))) (some (.int .i64 (3 * ((k : Int) + 1)))) none).run Tryd.prog W = .ok (.string (monB k)) W := by
  rcases twelve hk with rfl | rfl | rfl | rfl | rfl | rfl | rfl | rfl | rfl | rfl | rfl | rfl <;> (simp [go_sem]; rfl)

theorem strB_eq {l : List UInt8} {b : ByteArray} (h : b.toList = l) : strB l = b := by
  apply toList_inj; rw [strB_toList, h]
theorem form_1 (y d h mi s : Int) (k q : Nat) : strB (fixT ⟨y, (k : Int) + 1, d, h, mi, s, q⟩) = wdB q ++ { data := #[44, 32] } ++ padS 2 d ++ { data := #[32] } ++ monB k ++ { data := #[32] } ++ (padS 2 (y / 100) ++ padS 2 (y % 100)) ++ { data := #[32] } ++ (padS 2 h ++ { data := #[58] } ++ padS 2 mi ++ { data := #[58] } ++ padS 2 s) ++ { data := #[32, 71, 77, 84] } := by
  apply strB_eq
  rw [← pad4]
  unfold fixT timeT wdB monB
  simp only [toList_append, strB_toList, padS_toList, data_toList, Int.toNat_natCast, show ((k : Int) + 1 - 1).toNat = k from by omega]; simp
theorem form_2 (y d h mi s : Int) (k q : Nat) : strB (shT ⟨y, (k : Int) + 1, d, h, mi, s, q⟩) = longB q ++ { data := #[44, 32] } ++ padS 2 d ++ { data := #[45] } ++ monB k ++ { data := #[45] } ++ padS 2 (y % 100) ++ { data := #[32] } ++ (padS 2 h ++ { data := #[58] } ++ padS 2 mi ++ { data := #[58] } ++ padS 2 s) ++ { data := #[32, 71, 77, 84] } := by
  apply strB_eq
  unfold shT timeT longB monB
  simp only [toList_append, strB_toList, padS_toList, data_toList, Int.toNat_natCast, show ((k : Int) + 1 - 1).toNat = k from by omega]; simp
theorem form_3 (y d h mi s : Int) (k q : Nat) : strB (spT false ⟨y, (k : Int) + 1, d, h, mi, s, q⟩) = wdB q ++ { data := #[32] } ++ monB k ++ { data := #[32] } ++ padS 2 d ++ { data := #[32] } ++ (padS 2 h ++ { data := #[58] } ++ padS 2 mi ++ { data := #[58] } ++ padS 2 s) ++ { data := #[32] } ++ (padS 2 (y / 100) ++ padS 2 (y % 100)) := by
  apply strB_eq
  rw [← pad4]
  unfold spT timeT wdB monB dayL
  simp only [toList_append, strB_toList, padS_toList, data_toList, Int.toNat_natCast, show ((k : Int) + 1 - 1).toNat = k from by omega]; simp
theorem form_4 (y d h mi s : Int) (k q : Nat) (x : ByteArray) (hx : x.toList = dayL true d) : strB (spT true ⟨y, (k : Int) + 1, d, h, mi, s, q⟩) = wdB q ++ { data := #[32] } ++ monB k ++ { data := #[32] } ++ x ++ { data := #[32] } ++ (padS 2 h ++ { data := #[58] } ++ padS 2 mi ++ { data := #[58] } ++ padS 2 s) ++ { data := #[32] } ++ (padS 2 (y / 100) ++ padS 2 (y % 100)) := by
  apply strB_eq
  rw [← pad4]
  unfold spT timeT wdB monB
  simp only [toList_append, strB_toList, padS_toList, data_toList, hx, Int.toNat_natCast, show ((k : Int) + 1 - 1).toNat = k from by omega]; simp
theorem day_hi (d : Int) (h : ¬ d < 10) : (padS 2 d).toList = dayL true d := by
  unfold dayL; rw [if_neg (fun x => h x.2), padS_toList]
theorem day_lo (d : Int) (h : d < 10) : (({ data := #[32] } : ByteArray) ++ (padS 2 d).extract 1 2).toList = dayL true d := by
  have e := dayT_T true d
  unfold dayT at e
  rw [if_pos ⟨rfl, h⟩] at e
  exact e

def formsV (D : Dt) : Value := .agg #[.string (strB (fixT D)), .string (strB (shT D)), .string (strB (spT false D)), .string (strB (spT true D))]

set_option maxHeartbeats 4000000 in
theorem forms_any (D : Dt) (w : World) (hd : D.ok) (w0 : 0 ≤ D.wd) (w1 : D.wd ≤ 6) (h10 : ∀ k : Nat, k < 7 → w.cell? ⟨10, k, none⟩ = some (.string (longB k))) :
    Calls Tryd.prog 19 #[D.v] w fun e w' => e = .returned (formsV D) ∧ Below w.heap.size w w' := by
  have db := days_bd D.y D.m
  obtain ⟨y, m, d, h, mi, s, wd⟩ := D
  obtain ⟨y0, y1, m0, m1, d0, d1, u0, u1, u2, u3, u4, u5⟩ := hd
  simp only at *
  obtain ⟨k, rfl⟩ : ∃ k : Nat, m = k + 1 := ⟨(m - 1).toNat, by omega⟩
  obtain ⟨q, rfl⟩ : ∃ q : Nat, wd = q := ⟨wd.toNat, by omega⟩
  have z1 := padS_size 2 d
  have z3 := monB_size k (by omega)
  have z5 := wdB_size q (by omega)
  obtain ⟨lz, hlz, hl9⟩ : ∃ n : Nat, (longB q).size = n ∧ n ≤ 9 := ⟨_, rfl, by have := longB_size q (by omega); omega⟩
  have q0 : (0 : Int) ≤ (q : Int) := by omega
  have q7 : (q : Int) < 7 := by omega
  have hq := wd_slice q (by omega)
  have hk := mon_slice k (by omega)
  have c10 := h10 q (by omega)
  have lt10 : 10 < w.heap.size := World.block_lt_of_cell? w _ c10
  clear h10
  unfold Dt.v
  go_enter Tryd.func19, Tryd.ntmps19
  go_wp2_with fail
  have t1 : y.tdiv 100 = y / 100 := Int.tdiv_eq_ediv_of_nonneg (by omega)
  have t2 : y.tmod 100 = y % 100 := Int.tmod_eq_emod_of_nonneg (by omega)
  have g1 := padS_size 2 (y / 100)
  have g2 := padS_size 2 (y % 100)
  have g3 := padS_size 2 h
  have g4 := padS_size 2 mi
  have g5 := padS_size 2 s
  go_quiet ((go_at_call 41; exact Calls.quiet_of (two_any _ _ (by omega) (by omega))))
  go_wp2_with fail
  go_quiet ((go_at_call 41; exact quiet_add (two_any _ _ (by omega) (by omega))))
  go_wp2_with fail
  refine (two_any d _ (by omega) (by omega)).mono ?_
  rintro e w1 ⟨rfl, n1, rfl⟩
  generalize hV : w.alloc _ = V
  have hB : Below w.heap.size w V := by rw [← hV]; exact (Below.refl _ _).alloc (Nat.le_refl _) _
  have c0 : V.cell? ⟨w.heap.size, 0, none⟩ = some (.int .i64 y) := by rw [← hV]; simp [go_sem]
  have c2 : V.cell? ⟨w.heap.size, 2, none⟩ = some (.int .i64 d) := by rw [← hV]; simp [go_sem]
  have c6 : V.cell? ⟨w.heap.size, 6, none⟩ = some (.int .i64 (q : Int)) := by rw [← hV]; simp [go_sem]
  have cl : V.cell? ⟨10, q, none⟩ = some (.string (longB q)) := by rw [← hV]; simp [go_sem, lt10, c10]
  have lt : w.heap.size < V.heap.size := World.block_lt_of_cell? V _ c0
  have lx : 10 < V.heap.size := World.block_lt_of_cell? V _ cl
  have hz : V.heap.size = w.heap.size + 1 := by rw [← hV]; simp [go_sem]
  rw [← hz]
  have HB := Lib.hid hB
  clear hV hB c10 lt10 hz
  generalize w.heap.size = b at c0 c2 c6 lt ⊢
  have F1 := Lib.hid (form_1 y d h mi s k q)
  have F2 := Lib.hid (form_2 y d h mi s k q)
  have F3 := Lib.hid (form_3 y d h mi s k q)
  have F4 : Hid (∀ x : ByteArray, x.toList = dayL true d → _) := form_4 y d h mi s k q
  have HL := Lib.hid (day_lo d)
  have HH := Lib.hid (day_hi d)
  have gT : (padS 2 h ++ { data := #[58] } ++ padS 2 mi ++ { data := #[58] } ++ padS 2 s).size = 8 := by simp [ByteArray.size_append, g3, g4, g5]; rfl
  have gY : (padS 2 (y / 100) ++ padS 2 (y % 100)).size = 4 := by simp [ByteArray.size_append, g1, g2]
  clear g1 g3 g4 g5 hq hk
  generalize padS 2 h ++ { data := #[58] } ++ padS 2 mi ++ { data := #[58] } ++ padS 2 s = sT at *
  generalize padS 2 (y / 100) ++ padS 2 (y % 100) = sY at *
  have e2 : Hid (∀ W : World, Calls Tryd.prog 41 #[.int .i64 (y % 100)] W fun e w' => e = .returned (.string (padS 2 (y % 100))) ∧ ∃ n, w' = W.drewN n) := fun W => two_any (y % 100) W (by omega) (by omega)
  have e3 : Hid (∀ W : World, Calls Tryd.prog 41 #[.int .i64 d] W fun e w' => e = .returned (.string (padS 2 d)) ∧ ∃ n, w' = W.drewN n) := fun W => two_any d W (by omega) (by omega)
  generalize padS 2 (y % 100) = sE at *
  generalize padS 2 d = sD at *
  generalize wdB q = sW at *
  generalize monB k = sM at *
  generalize longB q = sL at *
  have lz2 : ¬ (9223372036854775807 < lz + 2) := by omega
  have lz4 : ¬ (9223372036854775807 < lz + 4) := by omega
  have lz5 : ¬ (9223372036854775807 < lz + 5) := by omega
  have lz8 : ¬ (9223372036854775807 < lz + 8) := by omega
  have lz9 : ¬ (9223372036854775807 < lz + 9) := by omega
  have lz11 : ¬ (9223372036854775807 < lz + 11) := by omega
  have lz12 : ¬ (9223372036854775807 < lz + 12) := by omega
  have lz20 : ¬ (9223372036854775807 < lz + 20) := by omega
  have lz24 : ¬ (9223372036854775807 < lz + 24) := by omega
  by_cases hd : d < 10
  · go_wp2_with fail
    obtain ⟨sX, hX⟩ : ∃ x, x = { data := #[32] } ++ sD.extract 1 2 := ⟨_, rfl⟩
    have gX : sX.size = 2 := by rw [hX]; simp [ByteArray.size_append, z1]; rfl
    have FX := Lib.hid (F4.out sX (by rw [hX]; exact HL.out hd))
    rw [← hX]
    clear hX F4 HL HH hd
    simp only [List.append_eq, List.cons_append, List.nil_append]
    go_region_held3 (fun w' => w'.cell? ⟨b, 0, none⟩ = some (.int .i64 y) ∧ w'.cell? ⟨b, 2, none⟩ = some (.int .i64 d) ∧ w'.cell? ⟨b, 6, none⟩ = some (.int .i64 (q : Int)) ∧ w'.cell? ⟨10, q, none⟩ = some (.string sL))
      ((go_split_ands; refine ⟨?_, ?_, ?_, ?_⟩ <;> (first | go_keep | simp [go_sem, *])))
      (first | (go_at_call_of 41 (Value.int IntKind.i64 d); refine (e3.out _).mono ?_; rintro e w' ⟨rfl, n2, rfl⟩) | (go_at_call 41; refine (e2.out _).mono ?_; rintro e w' ⟨rfl, n2, rfl⟩))
    go_wp2_with fail
    refine bodyPost_ret (v := formsV ⟨y, (k : Int) + 1, d, h, mi, s, (q : Int)⟩) ?_ rfl ⟨rfl, ?_⟩
    · unfold formsV
      rw [F1.out, F2.out, F3.out, FX.out]
      simp [results, Tryd.results19, go_sem]
    · refine Below.setCell ?_ (by simp; exact HB.out.size) _
      refine Below.setCell ?_ (by simp; exact HB.out.size) _
      refine Below.setCell ?_ (by simp; exact HB.out.size) _
      refine Below.setCell ?_ (by simp; exact HB.out.size) _
      exact below_drewN (HB.out.alloc HB.out.size _) _
  · go_wp2_with fail
    have FX := Lib.hid (F4.out sD (HH.out hd))
    clear F4 HL HH hd
    simp only [List.append_eq, List.cons_append, List.nil_append]
    go_region_held3 (fun w' => w'.cell? ⟨b, 0, none⟩ = some (.int .i64 y) ∧ w'.cell? ⟨b, 2, none⟩ = some (.int .i64 d) ∧ w'.cell? ⟨b, 6, none⟩ = some (.int .i64 (q : Int)) ∧ w'.cell? ⟨10, q, none⟩ = some (.string sL))
      ((go_split_ands; refine ⟨?_, ?_, ?_, ?_⟩ <;> (first | go_keep | simp [go_sem, *])))
      (first | (go_at_call_of 41 (Value.int IntKind.i64 d); refine (e3.out _).mono ?_; rintro e w' ⟨rfl, n2, rfl⟩) | (go_at_call 41; refine (e2.out _).mono ?_; rintro e w' ⟨rfl, n2, rfl⟩))
    go_wp2_with fail
    refine bodyPost_ret (v := formsV ⟨y, (k : Int) + 1, d, h, mi, s, (q : Int)⟩) ?_ rfl ⟨rfl, ?_⟩
    · unfold formsV
      rw [F1.out, F2.out, F3.out, FX.out]
      simp [results, Tryd.results19, go_sem]
    · refine Below.setCell ?_ (by simp; exact HB.out.size) _
      refine Below.setCell ?_ (by simp; exact HB.out.size) _
      refine Below.setCell ?_ (by simp; exact HB.out.size) _
      refine Below.setCell ?_ (by simp; exact HB.out.size) _
      exact below_drewN (HB.out.alloc HB.out.size _) _
end Go.Proofs.YtmejjhklknhniaaDoor
