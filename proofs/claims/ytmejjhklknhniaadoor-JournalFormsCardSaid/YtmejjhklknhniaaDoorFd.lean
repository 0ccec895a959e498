import Derived.Test.YtmejjhklknhniaaDoorFb
import Derived.Test.YtmejjhklknhniaaDoorFc
import Derived.Test.YtmejjhklknhniaaDoorRdx
import Derived.Test.YtmejjhklknhniaaDoorFix
namespace Go.Proofs.YtmejjhklknhniaaDoor
open Go Go.RowKit

structure FormsEnv (w : World) (a0 a1 : Addr) : Prop where
  jat : JatEnv w a0 a1
  lng : ∀ k : Nat, k < 7 → w.cell? ⟨10, k, none⟩ = some (.string (longB k))
theorem FormsEnv.below {w W : World} {a0 a1 : Addr} (h : FormsEnv w a0 a1) (hb : Below w.heap.size w W) : FormsEnv W a0 a1 :=
  ⟨h.jat.below hb, fun k hk => (hb.cell (p := ⟨10, k, none⟩) (World.block_lt_of_cell? w ⟨10, k, none⟩ (h.lng k hk))).trans (h.lng k hk)⟩

theorem formT_len (D : Dt) (h : Right D) (i : Nat) : (formT D i).length ≤ maxLen := by
  have := h.two.w0; have := h.two.w1; have := h.1.m0; have := h.1.m1
  have lw := wdT_len D.wd.toNat (by omega)
  have lm := monT_len (D.m - 1).toNat (by omega)
  have ll : (longT.getD D.wd.toNat []).length ≤ 9 := by
    rcases seven (show D.wd.toNat < 7 by omega) with e | e | e | e | e | e | e <;> rw [e] <;> decide
  have e : maxLen = 9223372036854775807 := by decide
  rw [e]
  unfold formT
  split
  · simp only [fixT, timeT, List.length_append, List.length_cons, List.length_nil, padL_length, lw, lm]; omega
  split
  · simp only [shT, timeT, List.length_append, List.length_cons, List.length_nil, padL_length, lm]; omega
  split
  · simp only [spT, timeT, dayL_len, List.length_append, List.length_cons, List.length_nil, padL_length, lw, lm]; omega
  · simp only [spT, timeT, dayL_len, List.length_append, List.length_cons, List.length_nil, padL_length, lw, lm]; omega

theorem read_form {D : Dt} {s : Int} (hR : Right D) (hs : D.sec = s) (i : Nat) (t : Int) (h0 : 0 ≤ t) (h1 : t ≤ 253402300799) (hi : i ≠ 1) (W : World) (a0 a1 : Addr) (hE : JatEnv W a0 a1) :
    Calls Tryd.prog 16 #[.string (strB (formT D i)), .int .i64 t] W fun e w' => e = .returned (.tuple #[.int .i64 s, .nilIface]) ∧ Below W.heap.size W w' := by
  obtain ⟨E, hF⟩ := civil_ex t h0 h1
  refine (readDateJ_any t _ W a0 a1 hE (formT_len D hR i) h0 h1 E hF).mono ?_
  rintro e w' ⟨rfl, hb⟩
  refine ⟨?_, hb⟩
  have : readV E.y (formT D i) = some s := by
    rw [← hs]
    unfold formT
    by_cases h : i = 0
    · rw [if_pos h]; exact read_fix _ hR
    · rw [if_neg h, if_neg hi]
      by_cases h2 : i = 2
      · rw [if_pos h2]; exact read_sp _ _ hF.ok.1.y0 hF.ok.1.y1 hR
      · rw [if_neg h2]; exact read_sp _ _ hF.ok.1.y0 hF.ok.1.y1 hR
  rw [this]; rfl
theorem read_form1 {D : Dt} {s : Int} (hR : Right D) (hs : D.sec = s) (y : Int) (y0 : 1970 ≤ y) (y1 : y ≤ 9999) (n0 : D.y - 50 ≤ y) (n1 : y ≤ D.y + 49) (W : World) (a0 a1 : Addr) (hE : JatEnv W a0 a1) :
    Calls Tryd.prog 16 #[.string (strB (formT D 1)), .int .i64 (aheadI y * 86400)] W fun e w' => e = .returned (.tuple #[.int .i64 s, .nilIface]) ∧ Below W.heap.size W w' := by
  obtain ⟨E, hF, hy, h0, h1⟩ := start_fits y y0 y1
  refine (readDateJ_any _ _ W a0 a1 hE (formT_len D hR 1) h0 h1 E hF).mono ?_
  rintro e w' ⟨rfl, hb⟩
  refine ⟨?_, hb⟩
  have : readV E.y (formT D 1) = some s := by
    rw [← hs, hy]
    exact read_sh y hR (near_year y D.y y0 y1 hR.1.y0 hR.1.y1 n0 n1)
  rw [this]; rfl

set_option maxHeartbeats 4000000 in
theorem forms_walk (a n k : Int) (w : World) (a0 a1 : Addr) (hE : FormsEnv w a0 a1) :
    Calls Tryd.prog 6 #[.agg #[.int .i64 a, .int .i64 n, .int .i64 k]] w fun e w' => e = .returned (.bool true) ∧ Below w.heap.size w w' := by
  have t0 := Int.emod_nonneg a (b := 253402300800) (by omega)
  have t1 := Int.emod_lt_of_pos a (b := 253402300800) (by omega)
  have u0 := Int.emod_nonneg n (b := 253402300800) (by omega)
  have u1 := Int.emod_lt_of_pos n (b := 253402300800) (by omega)
  have P1 : Hid (∀ W : World, Calls Tryd.prog 7 #[.int .i64 a, .int .i64 253402300800] W fun e w' => e = .returned (.int .i64 (a % 253402300800)) ∧ W = w') := fun W => pick_any a _ W (by omega) (by omega)
  have P2 : Hid (∀ W : World, Calls Tryd.prog 7 #[.int .i64 n, .int .i64 253402300800] W fun e w' => e = .returned (.int .i64 (n % 253402300800)) ∧ W = w') := fun W => pick_any n _ W (by omega) (by omega)
  generalize a % 253402300800 = s at *
  generalize n % 253402300800 = t at *
  have HE : Hid (∀ W, Below w.heap.size w W → FormsEnv W a0 a1) := fun W hb => hE.below hb
  have l20 : 20 < w.heap.size := World.block_lt_of_cell? w ⟨20, 0, none⟩ (hE.jat.full 0 (by omega))
  obtain ⟨D, hD⟩ := civil_ex s t0 (by omega)
  obtain ⟨hok, hsec, hwd⟩ := hD.ok
  have HD := Lib.hid hD
  have HOK := Lib.hid hok
  have HSEC := Lib.hid hsec
  have HR : Hid (Right D) := ⟨hok, hwd⟩
  have y0 := hok.y0
  have y1 := hok.y1
  have w0 : 0 ≤ D.wd := by omega
  have w6 : D.wd ≤ 6 := by omega
  clear hE hD hok hsec hwd
  go_enter Tryd.func6, Tryd.ntmps6
  go_wp2_with fail
  refine (P1.out _).mono ?_
  rintro e w1 ⟨rfl, rfl⟩
  go_wp2_with fail
  refine (P2.out _).mono ?_
  rintro e w1 ⟨rfl, rfl⟩
  go_wp2_with fail
  refine (civil_yes s _ ((HE.out _ (by repeat (first | exact Below.refl _ _ | refine Below.alloc ?_ (by simp [go_sem]) _ | refine below_ext ?_ (by simp [go_sem]) _ _))).jat.civ.md) t0 (by omega)).mono ?_
  rintro e w1 ⟨D1, hD1, rfl, hb⟩
  obtain rfl : D1 = D := hD1.unique HD.out
  obtain ⟨X1, n1, rfl⟩ := Below_ext hb
  clear hb hD1
  unfold Dt.v
  go_wp2_with fail
  refine (dated_yes D1 _ HOK.out w0 w6).mono ?_
  rintro e w1 ⟨rfl, hb⟩
  obtain ⟨X2, n2, rfl⟩ := Below_ext hb
  clear hb
  go_wp2_with fail
  refine (forms_any D1 _ HOK.out w0 w6 ((HE.out _ (by repeat (first | exact Below.refl _ _ | refine Below.alloc ?_ (by simp [go_sem]) _ | refine below_ext ?_ (by simp [go_sem]) _ _))).lng)).mono ?_
  rintro e w1 ⟨rfl, hb⟩
  obtain ⟨X3, n3, rfl⟩ := Below_ext hb
  clear hb
  unfold formsV
  go_wp2_with fail
  refine (fixdate_yes s _ ((HE.out _ (by repeat (first | exact Below.refl _ _ | refine Below.alloc ?_ (by simp [go_sem]) _ | refine below_ext ?_ (by simp [go_sem]) _ _))).jat.civ.md) ((HE.out _ (by repeat (first | exact Below.refl _ _ | refine Below.alloc ?_ (by simp [go_sem]) _ | refine below_ext ?_ (by simp [go_sem]) _ _))).jat.civ.wd) ((HE.out _ (by repeat (first | exact Below.refl _ _ | refine Below.alloc ?_ (by simp [go_sem]) _ | refine below_ext ?_ (by simp [go_sem]) _ _))).jat.civ.mo) t0 (by omega)).mono ?_
  rintro e w1 ⟨D2, hD2, rfl, hb⟩
  obtain rfl : D2 = D1 := hD2.unique HD.out
  obtain ⟨X4, n4, rfl⟩ := Below_ext hb
  clear hb hD2
  rw [show fixB D2 = strB (fixT D2) from toList_inj (by rw [fixB_T, strB_toList])]
  go_wp2_with fail
  generalize hV : ext _ X4 n4 = V
  have hB : Below w.heap.size w V := by rw [← hV]; repeat (first | exact Below.refl _ _ | refine Below.alloc ?_ (by simp [go_sem]) _ | refine below_ext ?_ (by simp [go_sem]) _ _)
  have cx : V.cell? ⟨w.heap.size, 2, none⟩ = some (.int .i64 k) := by rw [← hV]; simp [go_sem]
  have d0 : V.cell? ⟨w.heap.size + 1 + X1.size, 0, none⟩ = some (.int .i64 D2.y) := by rw [← hV]; simp [go_sem]
  have d1 : V.cell? ⟨w.heap.size + 1 + X1.size, 1, none⟩ = some (.int .i64 D2.m) := by rw [← hV]; simp [go_sem]
  have d2 : V.cell? ⟨w.heap.size + 1 + X1.size, 2, none⟩ = some (.int .i64 D2.d) := by rw [← hV]; simp [go_sem]
  have d3 : V.cell? ⟨w.heap.size + 1 + X1.size, 3, none⟩ = some (.int .i64 D2.h) := by rw [← hV]; simp [go_sem]
  have d4 : V.cell? ⟨w.heap.size + 1 + X1.size, 4, none⟩ = some (.int .i64 D2.mi) := by rw [← hV]; simp [go_sem]
  have d5 : V.cell? ⟨w.heap.size + 1 + X1.size, 5, none⟩ = some (.int .i64 D2.s) := by rw [← hV]; simp [go_sem]
  have d6 : V.cell? ⟨w.heap.size + 1 + X1.size, 6, none⟩ = some (.int .i64 D2.wd) := by rw [← hV]; simp [go_sem]
  have l0 : V.cell? ⟨w.heap.size + 1 + X1.size + 1 + (X2.size + X3.size), 0, none⟩ = some (.string (strB (formT D2 0))) := by rw [← hV]; simp [go_sem, formT]
  have l1 : V.cell? ⟨w.heap.size + 1 + X1.size + 1 + (X2.size + X3.size), 1, none⟩ = some (.string (strB (formT D2 1))) := by rw [← hV]; simp [go_sem, formT]
  have l2 : V.cell? ⟨w.heap.size + 1 + X1.size + 1 + (X2.size + X3.size), 2, none⟩ = some (.string (strB (formT D2 2))) := by rw [← hV]; simp [go_sem, formT]
  have l3 : V.cell? ⟨w.heap.size + 1 + X1.size + 1 + (X2.size + X3.size), 3, none⟩ = some (.string (strB (formT D2 3))) := by rw [← hV]; simp [go_sem, formT]
  clear hV
  have s1 := World.block_lt_of_cell? V _ cx
  have s2 := World.block_lt_of_cell? V _ d0
  have s3 := World.block_lt_of_cell? V _ l0
  simp only at s1 s2 s3
  generalize w.heap.size + 1 + X1.size + 1 + (X2.size + X3.size) = bl at *
  generalize w.heap.size + 1 + X1.size = bd at *
  have HBV := Lib.hid hB
  clear hB
  generalize w.heap.size = bx at cx s1 ⊢
  go_loopg [11] 5 (fun g v11 wr => ∃ (j : Nat) (X : Array Obj) (n' : Nat), j ≤ 4 ∧ v11 = .int .i64 (j : Int) ∧ wr = ext V X n' ∧ 4 - j < g)
  case atStart => exact ⟨0, #[], V.drawn, by omega, rfl, by simp [ext], by omega⟩
  case round =>
    obtain ⟨j, X, n', hj, rfl, rfl, hg⟩ := hrel
    have hj5 : j = 0 ∨ j = 1 ∨ j = 2 ∨ j = 3 ∨ j = 4 := by omega
    rcases hj5 with rfl | rfl | rfl | rfl | rfl
    · go_wp2_with fail
      refine (read_form HR.out HSEC.out 0 t u0 (by omega) (by omega) _ a0 a1 ((HE.out _ (HBV.out.trans ((ext_below _ _ _).mono HBV.out.size))).jat)).mono ?_
      rintro e w1 ⟨rfl, hb⟩
      obtain ⟨X5, n5, rfl⟩ := Below_ext hb
      clear hb
      go_wp2_with fail
      go_roundg (gk - 1)
      case measure => omega
      case rel => exact ⟨1, _, _, by omega, rfl, rfl, by omega⟩
    · go_wp2_with fail
      refine (near_any D2 k _ y0 y1).mono ?_
      rintro e w1 ⟨⟨y, g0, g1, g2, g3, rfl⟩, hb⟩
      obtain ⟨X6, n6, rfl⟩ := Below_ext hb
      clear hb
      go_wp2_with fail
      refine (read_form1 HR.out HSEC.out y g0 g1 g2 g3 _ a0 a1 ((HE.out _ (HBV.out.trans ((ext_below _ _ _).mono HBV.out.size))).jat)).mono ?_
      rintro e w1 ⟨rfl, hb⟩
      obtain ⟨X5, n5, rfl⟩ := Below_ext hb
      clear hb
      go_wp2_with fail
      go_roundg (gk - 1)
      case measure => omega
      case rel => exact ⟨2, _, _, by omega, rfl, rfl, by omega⟩
    · go_wp2_with fail
      refine (read_form HR.out HSEC.out 2 t u0 (by omega) (by omega) _ a0 a1 ((HE.out _ (HBV.out.trans ((ext_below _ _ _).mono HBV.out.size))).jat)).mono ?_
      rintro e w1 ⟨rfl, hb⟩
      obtain ⟨X5, n5, rfl⟩ := Below_ext hb
      clear hb
      go_wp2_with fail
      go_roundg (gk - 1)
      case measure => omega
      case rel => exact ⟨3, _, _, by omega, rfl, rfl, by omega⟩
    · go_wp2_with fail
      refine (read_form HR.out HSEC.out 3 t u0 (by omega) (by omega) _ a0 a1 ((HE.out _ (HBV.out.trans ((ext_below _ _ _).mono HBV.out.size))).jat)).mono ?_
      rintro e w1 ⟨rfl, hb⟩
      obtain ⟨X5, n5, rfl⟩ := Below_ext hb
      clear hb
      go_wp2_with fail
      go_roundg (gk - 1)
      case measure => omega
      case rel => exact ⟨4, _, _, by omega, rfl, rfl, by omega⟩
    · go_wp2_with fail
      go_ret
      exact ⟨rfl, HBV.out.trans ((ext_below _ _ _).mono HBV.out.size)⟩
end Go.Proofs.YtmejjhklknhniaaDoor
