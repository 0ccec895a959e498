import Derived.Test.YtmejjhklknhniaaDoorFix
import Derived.Test.YtmejjhklknhniaaDoorNum
namespace Go.Proofs.YtmejjhklknhniaaDoor
open Go Go.RowKit

/-- A refusal of the program and its number. -/
def NumOf (w : World) (eV : Value) (n : Int) : Prop := ∀ W, Below w.heap.size w W → Calls Tryd.prog 11 #[eV] W fun e w' => e = .returned (.int .i64 n) ∧ W = w'
theorem numOf_nil (w : World) : NumOf w .nilIface 0 := fun W _ => num_nil W
theorem numOf_arg (w : World) (a : Addr) (h : Sent w 0 a) : NumOf w (errV a) 1 := fun W hb => num_arg W a (h.below hb)

structure CivEnv (w : World) (a : Addr) : Prop where
  eArg : Sent w 0 a
  md : MDays 11 w
  rm : MDays 19 w
  wd : WdNames 7 w
  mo : MonNames 8 w
theorem CivEnv.below {w W : World} {a : Addr} (h : CivEnv w a) (hb : Below w.heap.size w W) : CivEnv W a :=
  ⟨h.eArg.below hb, h.md.below hb, h.rm.below hb, h.wd.below hb, h.mo.below hb⟩

theorem civ_pair (t : Int) (w : World) (a : Addr) (hE : CivEnv w a) : ∃ (D : Dt) (eV : Value) (n : Int), NumOf w eV n ∧
    (∀ W, Below w.heap.size w W → Calls Tryd.prog 8 #[.int .i64 t] W fun e w' => e = .returned (.tuple #[D.v, eV]) ∧ Below W.heap.size W w') ∧
    (∀ W, Below w.heap.size w W → Calls Tryd.prog 12 #[.int .i64 t] W fun e w' => e = .returned (.tuple #[D.v, .int .i64 n]) ∧ Below W.heap.size W w') := by
  by_cases h : 0 ≤ t ∧ t ≤ 253402300799
  · obtain ⟨D, hD⟩ := civil_ex t h.1 h.2
    exact ⟨D, .nilIface, 0, numOf_nil w, fun W hb => (civil_yes t W (hE.md.below hb) h.1 h.2).mono fun e w' ⟨E, hE, he, hb⟩ => ⟨by rw [he, hE.unique hD], hb⟩,
      fun W hb => (refCivil_yes t W (hE.rm.below hb) h.1 h.2).mono fun e w' ⟨E, hE, he, hb⟩ => ⟨by rw [he, hE.unique hD], hb⟩⟩
  · exact ⟨Dt.zero, errV a, 1, numOf_arg w a hE.eArg, fun W hb => civil_no t W _ (hE.eArg.below hb).1 h, fun W hb => refCivil_no t W h⟩

theorem fix_pair (t : Int) (w : World) (a : Addr) (hE : CivEnv w a) : ∃ (s : ByteArray) (eV : Value) (n : Int), NumOf w eV n ∧
    (∀ W, Below w.heap.size w W → Calls Tryd.prog 13 #[.int .i64 t] W fun e w' => e = .returned (.tuple #[.string s, eV]) ∧ Below W.heap.size W w') ∧
    (∀ W, Below w.heap.size w W → Calls Tryd.prog 14 #[.int .i64 t] W fun e w' => e = .returned (.tuple #[.string s, .int .i64 n]) ∧ Below W.heap.size W w') := by
  by_cases h : 0 ≤ t ∧ t ≤ 253402300799
  · obtain ⟨D, hD⟩ := civil_ex t h.1 h.2
    exact ⟨fixB D, .nilIface, 0, numOf_nil w, fun W hb => (fixdate_yes t W (hE.md.below hb) (hE.wd.below hb) (hE.mo.below hb) h.1 h.2).mono fun e w' ⟨E, hE, he, hb⟩ => ⟨by rw [he, hE.unique hD], hb⟩,
      fun W hb => (refFixdate_yes t W (hE.rm.below hb) h.1 h.2).mono fun e w' ⟨E, hE, he, hb⟩ => ⟨by rw [he, hE.unique hD], hb⟩⟩
  · exact ⟨ByteArray.empty, errV a, 1, numOf_arg w a hE.eArg, fun W hb => fixdate_no t W _ (hE.eArg.below hb).1 ⟨_, _, rfl⟩ h, fun W hb => refFixdate_no t W h⟩

theorem sec_pair (D : Dt) (w : World) (a : Addr) (hE : CivEnv w a) : ∃ (m : Int) (eV : Value) (n : Int), NumOf w eV n ∧
    (∀ W, Below w.heap.size w W → Calls Tryd.prog 9 #[D.v] W fun e w' => e = .returned (.tuple #[.int .i64 m, eV]) ∧ Below W.heap.size W w') ∧
    (∀ W, Below w.heap.size w W → Calls Tryd.prog 15 #[D.v] W fun e w' => e = .returned (.tuple #[.int .i64 m, .int .i64 n]) ∧ Below W.heap.size W w') := by
  by_cases h : Right D
  · exact ⟨D.sec, .nilIface, 0, numOf_nil w, fun W hb => seconds_yes D W _ (hE.eArg.below hb).1 (hE.md.below hb) h, fun W hb => refSeconds_yes D W (hE.rm.below hb) h⟩
  · exact ⟨0, errV a, 1, numOf_arg w a hE.eArg, fun W hb => seconds_no D W _ (hE.eArg.below hb).1 (hE.md.below hb) h, fun W hb => refSeconds_no D W (hE.rm.below hb) h⟩

set_option maxHeartbeats 2000000 in
theorem civil_walk (t : Int) (D : Dt) (w : World) (a : Addr) (hE : CivEnv w a) :
    Calls Tryd.prog 4 #[.agg #[.int .i64 t, .int .i64 D.y, .int .i64 D.m, .int .i64 D.d, .int .i64 D.h, .int .i64 D.mi, .int .i64 D.s, .int .i64 D.wd]] w fun e w' => e = .returned (.bool true) ∧ Below w.heap.size w w' := by
  obtain ⟨C, e1, n1, hn1, hc1, hc2⟩ := civ_pair t w a hE
  obtain ⟨s, e2, n2, hn2, hf1, hf2⟩ := fix_pair t w a hE
  obtain ⟨m, e3, n3, hn3, hs1, hs2⟩ := sec_pair D w a hE
  have N1 := Lib.hid hn1; have N2 := Lib.hid hn2; have N3 := Lib.hid hn3
  have C1 := Lib.hid hc1; have C2 := Lib.hid hc2; have F1 := Lib.hid hf1; have F2 := Lib.hid hf2; have S1 := Lib.hid hs1; have S2 := Lib.hid hs2
  clear hn1 hn2 hn3 hc1 hc2 hf1 hf2 hs1 hs2 hE
  go_enter Tryd.func4, Tryd.ntmps4
  go_wp2_with fail
  refine (C1.out _ (by repeat (first | exact Below.refl _ _ | refine Below.alloc ?_ (by simp [go_sem]) _ | refine below_ext ?_ (by simp [go_sem]) _ _))).mono ?_
  rintro e w1 ⟨rfl, hb⟩
  obtain ⟨X1, m1, rfl⟩ := Below_ext hb
  clear hb
  unfold Dt.v
  go_wp2_with fail
  refine (C2.out _ (by repeat (first | exact Below.refl _ _ | refine Below.alloc ?_ (by simp [go_sem]) _ | refine below_ext ?_ (by simp [go_sem]) _ _))).mono ?_
  rintro e w1 ⟨rfl, hb⟩
  obtain ⟨X2, m2, rfl⟩ := Below_ext hb
  clear hb
  unfold Dt.v
  go_wp2_with fail
  refine (N1.out _ (by repeat (first | exact Below.refl _ _ | refine Below.alloc ?_ (by simp [go_sem]) _ | refine below_ext ?_ (by simp [go_sem]) _ _))).mono ?_
  rintro e w1 ⟨rfl, rfl⟩
  go_wp2_with fail
  refine (F1.out _ (by repeat (first | exact Below.refl _ _ | refine Below.alloc ?_ (by simp [go_sem]) _ | refine below_ext ?_ (by simp [go_sem]) _ _))).mono ?_
  rintro e w1 ⟨rfl, hb⟩
  obtain ⟨X3, m3, rfl⟩ := Below_ext hb
  clear hb
  go_wp2_with fail
  refine (F2.out _ (by repeat (first | exact Below.refl _ _ | refine Below.alloc ?_ (by simp [go_sem]) _ | refine below_ext ?_ (by simp [go_sem]) _ _))).mono ?_
  rintro e w1 ⟨rfl, hb⟩
  obtain ⟨X4, m4, rfl⟩ := Below_ext hb
  clear hb
  go_wp2_with fail
  refine (N2.out _ (by repeat (first | exact Below.refl _ _ | refine Below.alloc ?_ (by simp [go_sem]) _ | refine below_ext ?_ (by simp [go_sem]) _ _))).mono ?_
  rintro e w1 ⟨rfl, rfl⟩
  go_wp2_with fail
  refine (S1.out _ (by repeat (first | exact Below.refl _ _ | refine Below.alloc ?_ (by simp [go_sem]) _ | refine below_ext ?_ (by simp [go_sem]) _ _))).mono ?_
  rintro e w1 ⟨rfl, hb⟩
  obtain ⟨X5, m5, rfl⟩ := Below_ext hb
  clear hb
  go_wp2_with fail
  refine (S2.out _ (by repeat (first | exact Below.refl _ _ | refine Below.alloc ?_ (by simp [go_sem]) _ | refine below_ext ?_ (by simp [go_sem]) _ _))).mono ?_
  rintro e w1 ⟨rfl, hb⟩
  obtain ⟨X6, m6, rfl⟩ := Below_ext hb
  clear hb
  go_wp2_with fail
  refine (N3.out _ (by repeat (first | exact Below.refl _ _ | refine Below.alloc ?_ (by simp [go_sem]) _ | refine below_ext ?_ (by simp [go_sem]) _ _))).mono ?_
  rintro e w1 ⟨rfl, rfl⟩
  go_wp2_with fail
  go_ret
  exact ⟨rfl, by repeat (first | exact Below.refl _ _ | refine Below.alloc ?_ (by simp [go_sem]) _ | refine below_ext ?_ (by simp [go_sem]) _ _)⟩

end Go.Proofs.YtmejjhklknhniaaDoor
