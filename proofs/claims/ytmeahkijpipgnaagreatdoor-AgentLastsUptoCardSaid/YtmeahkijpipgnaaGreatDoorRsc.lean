/- ReadSetCookie: of what SetCookie writes. -/
import Derived.Test.YtmeahkijpipgnaaGreatDoorRsp
import Derived.Handy
import Derived.RegionTactic
namespace Go.Proofs.YtmeahkijpipgnaaGreatDoor
open Go Go.RowKit

set_option maxHeartbeats 4000000 in
theorem age_any (a : Int) (w : World) (h0 : 0 ≤ a) (h1 : a ≤ 9223372036854775807) (htab : Lib.TabIs Tryz.prog w "internal/strconv.uint64pow10" .u64 Lib.pow10Tab) :
    Calls Tryz.prog 93 #[.string (strB (Lib.itoa a))] w fun e w' =>
      e = .returned (.tuple #[.int .i64 a, .bool true]) ∧ Below w.heap.size w w' := by
  have HT := Lib.hid htab
  have hl := Lib.itoa_length_le a (by omega) h1
  have HA : Hid (Lib.atoiAll (strB (Lib.itoa a)).data.toList = .ok a) := by show _ = _; rw [strB_list]; exact atoi_itoa a h0 h1
  have hs : (strB (Lib.itoa a)).size ≤ 9223372036854775806 := by rw [strB_size]; omega
  have HI : Hid (∀ V : World, Lib.TabIs Tryz.prog V "internal/strconv.uint64pow10" .u64 Lib.pow10Tab → Calls Tryz.prog 37 #[.int .i64 a] V fun e w' => e = .returned (.string (strB (Lib.itoa a))) ∧ Below V.heap.size V w') := by
    intro V hV
    refine (Tryz.strconv_Itoa a (by omega) h1 V hV).mono ?_
    rintro e w1 ⟨rfl, k, os, rfl⟩
    exact ⟨rfl, Lib.below_grow _ _ (Nat.le_refl _) k os⟩
  clear htab hl
  generalize Lib.itoa a = d at *
  go_enter Tryz.func93, Tryz.ntmps93
  go_wp2_with fail
  refine (Tryz.strconv_Atoi_ok _ hs a HA.out _).mono ?_
  rintro e w1 ⟨rfl, hw⟩
  have hb : Below w.heap.size w w1 := by
    rcases hw with rfl | ⟨t, rfl⟩
    · exact Below.refl _ _
    · exact Joins.below_bytesWorld _ _ _ _ (Nat.le_refl _)
  obtain ⟨X, m, rfl⟩ := Below_ext hb; clear hb
  clear hw
  go_wp2_with fail
  refine (HI.out _ (Joins.tab_stays (g := 17) (by kernel_rfl) HT.out (ext_below w X m) (Nat.le_refl _))).mono ?_
  rintro e w1 ⟨rfl, hb⟩
  obtain ⟨X1, m1, rfl⟩ := Below_ext hb; clear hb
  go_wp2_with fail
  go_ret2
  exact ⟨by simp, ext_below _ _ _⟩
/-- The greatest length that the machine's search takes at once. -/
def MaxLenIs (w : World) : Prop := ∃ m : Int, w.cell? ⟨16, 0, none⟩ = some (.int .i64 m)
theorem MaxLenIs.below {w w' : World} (h : MaxLenIs w) (hb : Below w.heap.size w w') : MaxLenIs w' := by
  obtain ⟨m, h⟩ := h
  exact ⟨m, (hb.cell (p := ⟨16, 0, none⟩) (World.block_lt_of_cell? w _ h)).trans h⟩
theorem cut_yes (l sep a r : List UInt8) (w : World) (hl : l.length < 4294967281) (hm : MaxLenIs w) (h : Lib.cut l sep = (a, r, true)) :
    Calls Tryz.prog 91 #[.string (strB l), .string (strB sep)] w fun e w' => e = .returned (.tuple #[.string (strB a), .string (strB r), .bool true]) ∧ Below w.heap.size w w' := by
  obtain ⟨m, hm⟩ := hm
  refine (Tryz.strings_Cut (strB l) (strB sep) m w (by rw [strB_size]; exact hl) hm).mono ?_
  rintro e w1 ⟨rfl, n, rfl⟩
  rw [strB_list, strB_list, h]
  exact ⟨rfl, below_drewN (Below.refl _ _) n⟩

set_option maxHeartbeats 4000000 in
theorem readSetCookie_ok (n v : List UInt8) (a : Int) (w : World) (hK : Kinds w) (hn : n.length ≤ 1073741824) (hv : v.length ≤ 1073741824) (ha0 : -1 ≤ a) (ha1 : a ≤ 9223372036854775807) (hm : cmayB n v = true)
    (htab : Lib.TabIs Tryz.prog w "internal/strconv.uint64pow10" .u64 Lib.pow10Tab) (hmax : MaxLenIs w) :
    Calls Tryz.prog 60 #[.string (strB (setL n v a))] w fun e w' =>
      e = .returned (.tuple #[.agg #[.string (strB n), .string (strB v), .int .i64 a], .nilIface]) ∧ Below w.heap.size w w' := by
  have HK := Lib.hid hK
  have HM := Lib.hid hm
  have HT := Lib.hid htab
  have HX := Lib.hid hmax
  have hil := Lib.itoa_length_le a (by omega) ha1
  have hm2 := hm
  simp only [cmayB, Bool.and_eq_true] at hm2
  obtain ⟨x, hx⟩ : ∃ x, x = (if 0 ≤ a then maxAgeL ++ Lib.itoa a else []) ++ flagsL := ⟨_, rfl⟩
  have hxl : x.length ≤ 100 := by rw [hx]; split <;> simp [maxAgeL, flagsL] <;> omega
  have h1 : setL n v a = n ++ [61] ++ (v ++ pathL ++ x) := by rw [hx]; unfold setL; simp
  have C1 : Hid (Lib.cut (setL n v a) [61] = (n, v ++ pathL ++ x, true)) := by
    show _ = _; rw [h1]; exact cut_at n (v ++ pathL ++ x) [] 61 (tok_no n hm2.1)
  have C2 : Hid (Lib.cut (v ++ pathL ++ x) pathL = (v, x, true)) := cut_at v x [32, 80, 97, 116, 104, 61, 47] 59 (cook_no v hm2.2)
  have L1 : Hid ((setL n v a).length < 4294967281) := by show _ < _; rw [h1]; simp [pathL]; omega
  have L2 : Hid ((v ++ pathL ++ x).length < 4294967281) := by show _ < _; simp [pathL]; omega
  have HXD := Lib.hid hx
  clear hK hm htab hmax h1 hm2 hx
  generalize setL n v a = s at *
  generalize v ++ pathL ++ x = s2 at *
  go_enter Tryz.func60, Tryz.ntmps60
  go_wp2_with fail
  refine (cut_yes s [61] n s2 _ L1.out (HX.out.below (by repeat (first | exact Below.refl _ _ | refine Below.alloc ?_ (by simp [go_sem]) _ | refine below_ext ?_ (by simp [go_sem]) _ _ | refine below_drewN ?_ _ | refine Below.drew ?_))) C1.out).mono ?_
  rintro e w1 ⟨rfl, hb⟩
  obtain ⟨X, m, rfl⟩ := Below_ext hb; clear hb
  go_wp2_with fail
  refine (cut_yes s2 pathL v x _ L2.out (HX.out.below (by repeat (first | exact Below.refl _ _ | refine Below.alloc ?_ (by simp [go_sem]) _ | refine below_ext ?_ (by simp [go_sem]) _ _ | refine below_drewN ?_ _ | refine Below.drew ?_))) C2.out).mono ?_
  rintro e w1 ⟨rfl, hb⟩
  obtain ⟨X2, m2, rfl⟩ := Below_ext hb; clear hb
  go_wp2_with fail
  refine (cmay_any n v _ (by unfold maxLen; omega) (by unfold maxLen; omega) (HK.out.below (by repeat (first | exact Below.refl _ _ | refine Below.alloc ?_ (by simp [go_sem]) _ | refine below_ext ?_ (by simp [go_sem]) _ _ | refine below_drewN ?_ _ | refine Below.drew ?_)))).mono ?_
  rintro e w1 ⟨rfl, rfl⟩
  rw [HM.out]
  by_cases hp : 0 ≤ a
  · have HD : Hid (x = maxAgeL ++ (Lib.itoa a ++ flagsL)) := by show _ = _; rw [HXD.out, if_pos hp, List.append_assoc]
    have C3 : Hid (Lib.cut (Lib.itoa a ++ flagsL) [59] = (Lib.itoa a, flagsL.tail, true)) := by
      show _ = _
      have := cut_at (Lib.itoa a) flagsL.tail [] 59 (fun x hx e => by have := itoa_digit a hp x hx; rw [e] at this; exact absurd this (by decide))
      rw [← this]; congr 1; rw [List.append_assoc]; rfl
    have CP : Hid (∀ V : World, Calls Tryz.prog 92 #[.string (strB x), .string (strB maxAgeL)] V fun e w' => e = .returned (.tuple #[.string (strB (Lib.itoa a ++ flagsL)), .bool true]) ∧ V = w') := by
      intro V
      refine (Tryz.strings_CutPrefix (strB x) (strB maxAgeL) V).mono ?_
      rintro e w1 ⟨rfl, rfl⟩
      refine ⟨?_, rfl⟩
      rw [strB_list, strB_list, HD.out]
      have h1 : Lib.hasPrefix (maxAgeL ++ (Lib.itoa a ++ flagsL)) maxAgeL = true := by simp [Lib.hasPrefix]
      have h2 : Lib.trimPrefix (maxAgeL ++ (Lib.itoa a ++ flagsL)) maxAgeL = Lib.itoa a ++ flagsL := by simp [Lib.trimPrefix, h1]
      rw [h1, h2]
      rfl
    have AG : Hid (∀ V : World, Lib.TabIs Tryz.prog V "internal/strconv.uint64pow10" .u64 Lib.pow10Tab → Calls Tryz.prog 93 #[.string (strB (Lib.itoa a))] V fun e w' => e = .returned (.tuple #[.int .i64 a, .bool true]) ∧ Below V.heap.size V w') := fun V hV => age_any a V hp ha1 hV
    have L3 : Hid ((Lib.itoa a ++ flagsL).length < 4294967281) := by show _ < _; simp [flagsL]; omega
    have hz : (strB (Lib.itoa a ++ flagsL)).size = (Lib.itoa a).length + 32 := by rw [strB_size]; simp [flagsL]
    have hz1 : (strB (Lib.itoa a)).size = (Lib.itoa a).length := strB_size _
    have HZ : Hid (strB (List.drop (Lib.itoa a).length (List.take ((Lib.itoa a).length + 32) (Lib.itoa a ++ flagsL))) = { data := #[59, 32, 83, 101, 99, 117, 114, 101, 59, 32, 72, 116, 116, 112, 79, 110, 108, 121, 59, 32, 83, 97, 109, 101, 83, 105, 116, 101, 61, 76, 97, 120] }) := by
      show _ = _
      have h1 : List.take ((Lib.itoa a).length + 32) (Lib.itoa a ++ flagsL) = Lib.itoa a ++ flagsL := List.take_of_length_le (by simp [flagsL])
      rw [h1, List.drop_left]
      rfl
    generalize Lib.itoa a ++ flagsL = y at *
    generalize Lib.itoa a = d at *
    clear hil
    go_wp2_with fail
    refine (CP.out _).mono ?_
    rintro e w1 ⟨rfl, rfl⟩
    go_wp2_with fail
    refine (cut_yes y [59] d flagsL.tail _ L3.out (HX.out.below (by repeat (first | exact Below.refl _ _ | refine Below.alloc ?_ (by simp [go_sem]) _ | refine below_ext ?_ (by simp [go_sem]) _ _ | refine below_drewN ?_ _ | refine Below.drew ?_))) C3.out).mono ?_
    rintro e w1 ⟨rfl, hb⟩
    obtain ⟨X3, m3, rfl⟩ := Below_ext hb; clear hb
    go_wp2_with fail
    refine (AG.out _ (Joins.tab_stays (g := 17) (by kernel_rfl) HT.out (by repeat (first | exact Below.refl _ _ | refine Below.alloc ?_ (by simp [go_sem]) _ | refine below_ext ?_ (by simp [go_sem]) _ _ | refine below_drewN ?_ _ | refine Below.drew ?_)) (Nat.le_refl _))).mono ?_
    rintro e w1 ⟨rfl, hb⟩
    obtain ⟨X4, m4, rfl⟩ := Below_ext hb; clear hb
    go_wp2_with fail
    go_region
    rw [HZ.out]
    go_wp2_with fail
    go_returns
    exact ⟨rfl, (by repeat (first | exact Below.refl _ _ | refine Below.alloc ?_ (by simp [go_sem]) _ | refine below_ext ?_ (by simp [go_sem]) _ _ | refine below_drewN ?_ _ | refine Below.drew ?_))⟩
  · have HD : Hid (x = flagsL) := by show _ = _; rw [HXD.out, if_neg hp]; rfl
    obtain rfl : a = -1 := by omega
    have CP : Hid (∀ V : World, Calls Tryz.prog 92 #[.string (strB x), .string (strB maxAgeL)] V fun e w' => e = .returned (.tuple #[.string (strB flagsL), .bool false]) ∧ V = w') := by
      intro V
      refine (Tryz.strings_CutPrefix (strB x) (strB maxAgeL) V).mono ?_
      rintro e w1 ⟨rfl, rfl⟩
      refine ⟨?_, rfl⟩
      rw [strB_list, strB_list, HD.out]
      rfl
    go_wp2_with fail
    refine (CP.out _).mono ?_
    rintro e w1 ⟨rfl, rfl⟩
    rw [HD.out, show strB flagsL = { data := #[59, 32, 83, 101, 99, 117, 114, 101, 59, 32, 72, 116, 116, 112, 79, 110, 108, 121, 59, 32, 83, 97, 109, 101, 83, 105, 116, 101, 61, 76, 97, 120] } from rfl]
    go_wp2_with fail
    go_returns
    exact ⟨rfl, (by repeat (first | exact Below.refl _ _ | refine Below.alloc ?_ (by simp [go_sem]) _ | refine below_ext ?_ (by simp [go_sem]) _ _ | refine below_drewN ?_ _ | refine Below.drew ?_))⟩
end Go.Proofs.YtmeahkijpipgnaaGreatDoor
