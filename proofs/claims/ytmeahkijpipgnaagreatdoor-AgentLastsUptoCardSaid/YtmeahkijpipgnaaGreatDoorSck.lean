/- SetCookie: of a cookie that may be. -/
import Derived.Test.YtmeahkijpipgnaaGreatDoorCkt
import Derived.Lib.AppendIntMem
import Derived.Lib.ItoaLen
import Derived.Lib.SmallJoins
namespace Go.Proofs.YtmeahkijpipgnaaGreatDoor
open Go Go.RowKit

def pathL : List UInt8 := [59, 32, 80, 97, 116, 104, 61, 47]
def maxAgeL : List UInt8 := [59, 32, 77, 97, 120, 45, 65, 103, 101, 61]
def flagsL : List UInt8 := [59, 32, 83, 101, 99, 117, 114, 101, 59, 32, 72, 116, 116, 112, 79, 110, 108, 121, 59, 32, 83, 97, 109, 101, 83, 105, 116, 101, 61, 76, 97, 120]
/-- What SetCookie writes. -/
def setL (n v : List UInt8) (a : Int) : List UInt8 := n ++ 61 :: v ++ pathL ++ (if 0 ≤ a then maxAgeL ++ Lib.itoa a else []) ++ flagsL

set_option maxHeartbeats 4000000 in
theorem setCookie_ok (n v : List UInt8) (a : Int) (w : World) (hK : Kinds w) (hn : n.length ≤ 274877906944) (hv : v.length ≤ 274877906944) (ha0 : -9223372036854775808 ≤ a) (ha1 : a ≤ 9223372036854775807) (hm : cmayB n v = true)
    (htab : Lib.TabIs Tryz.prog w "internal/strconv.uint64pow10" .u64 Lib.pow10Tab) :
    Calls Tryz.prog 16 #[.agg #[.string (strB n), .string (strB v), .int .i64 a]] w fun e w' =>
      e = .returned (.tuple #[.string (strB (setL n v a)), .nilIface]) ∧ Below w.heap.size w w' := by
  have HK := Lib.hid hK
  have HM := Lib.hid hm
  have HT := Lib.hid htab
  clear hK hm htab
  go_enter Tryz.func16, Tryz.ntmps16
  have HE := Lib.hid (show Below w.heap.size w (w.alloc (Obj.cells #[Value.string (strB n), Value.string (strB v), Value.int IntKind.i64 a] 54)) from (by repeat (first | exact Below.refl _ _ | refine Below.alloc ?_ (by simp [go_sem]) _ | refine below_ext ?_ (by simp [go_sem]) _ _ | refine below_drewN ?_ _ | refine Below.drew ?_)))
  have hs1 : (strB n).size = n.length := rfl
  have hs2 : (strB v).size = v.length := rfl
  go_wp2_with fail
  refine (cmay_any n v _ (by unfold maxLen; omega) (by unfold maxLen; omega) (HK.out.below HE.out)).mono ?_
  rintro e w1 ⟨rfl, rfl⟩
  rw [HM.out]
  by_cases hp : 0 ≤ a
  · go_wp2_with fail
    refine (Tryz.strconv_Itoa a ha0 ha1 _ (Joins.tab_stays (g := 17) (by kernel_rfl) HT.out HE.out (Nat.le_refl _))).mono ?_
    rintro e w1 ⟨rfl, k, os, rfl⟩
    have hb := HE.out.trans (Lib.below_grow w.heap.size (w.alloc (Obj.cells #[Value.string (strB n), Value.string (strB v), Value.int IntKind.i64 a] 54)) (by simp only [World.size_alloc]; omega) k os)
    obtain ⟨X, m, hX⟩ := Below_ext hb
    rw [hX]
    have hil := Lib.itoa_length_le a ha0 ha1
    have his : (strB (Lib.itoa a)).size = (Lib.itoa a).length := rfl
    have hiB : (⟨(Lib.itoa a).toArray⟩ : ByteArray) = strB (Lib.itoa a) := rfl
    have HSL : Hid (setL n v a = n ++ 61 :: v ++ pathL ++ (maxAgeL ++ Lib.itoa a) ++ flagsL) := by show _ = _; unfold setL; rw [if_pos hp]
    rw [hiB]
    generalize Lib.itoa a = d at *
    clear hX hb hiB
    go_wp2_with fail
    go_ret2
    refine ⟨?_, ext_below _ _ _⟩
    have h : (strB n ++ { data := #[61] } ++ strB v ++ { data := #[59, 32, 80, 97, 116, 104, 61, 47] } ++ ({ data := #[59, 32, 77, 97, 120, 45, 65, 103, 101, 61] } ++ strB d) ++ { data := #[59, 32, 83, 101, 99, 117, 114, 101, 59, 32, 72, 116, 116, 112, 79, 110, 108, 121, 59, 32, 83, 97, 109, 101, 83, 105, 116, 101, 61, 76, 97, 120] } : ByteArray) = strB (setL n v a) := by
      rw [HSL.out]
      show strB n ++ strB [61] ++ strB v ++ strB pathL ++ (strB maxAgeL ++ strB d) ++ strB flagsL = _
      simp only [strB_append]
      simp
    rw [← h]
    rfl
  · have hp1 : a < 0 := by omega
    have HSL : Hid (setL n v a = n ++ 61 :: v ++ pathL ++ flagsL) := by show _ = _; unfold setL; rw [if_neg (by omega)]; simp
    go_wp2_with fail
    go_ret2
    refine ⟨?_, HE.out⟩
    have h : (strB n ++ { data := #[61] } ++ strB v ++ { data := #[59, 32, 80, 97, 116, 104, 61, 47] } ++ { data := #[59, 32, 83, 101, 99, 117, 114, 101, 59, 32, 72, 116, 116, 112, 79, 110, 108, 121, 59, 32, 83, 97, 109, 101, 83, 105, 116, 101, 61, 76, 97, 120] } : ByteArray) = strB (setL n v a) := by
      rw [HSL.out]
      show strB n ++ strB [61] ++ strB v ++ strB pathL ++ strB flagsL = _
      simp only [strB_append]
      simp
    rw [← h]
    rfl
end Go.Proofs.YtmeahkijpipgnaaGreatDoor
