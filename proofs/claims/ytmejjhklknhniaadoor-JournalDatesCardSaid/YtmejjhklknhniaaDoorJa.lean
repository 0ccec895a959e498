import Derived.Test.YtmejjhklknhniaaDoorPn
import Derived.Test.YtmejjhklknhniaaDoorLd
namespace Go.Proofs.YtmejjhklknhniaaDoor
open Go Go.RowKit

set_option maxHeartbeats 1000000 in
theorem refReadDate_no (t : Int) (s : List UInt8) (w : World) (h : ¬ (0 ≤ t ∧ t ≤ 253402300799)) :
    Calls Tryd.prog 17 #[.string (strB s), .int .i64 t] w fun e w' => e = .returned (.tuple #[.int .i64 0, .int .i64 1]) ∧ Below w.heap.size w w' := by
  go_enter Tryd.func17, Tryd.ntmps17
  go_wp2_with fail
  refine (refCivil_no t _ h).mono ?_
  rintro e w1 ⟨rfl, hb⟩
  obtain ⟨X, n, rfl⟩ := Below_ext hb
  clear hb
  unfold Dt.v
  go_wp2_with fail
  go_ret2
  exact ⟨rfl, by repeat (first | exact Below.refl _ _ | refine Below.alloc ?_ (by simp [go_sem]) _ | refine below_ext ?_ (by simp [go_sem]) _ _)⟩

structure DatesEnv (w : World) (a0 a1 : Addr) : Prop where
  dat : DatEnv w a0 a1
  ref : RefEnv w
  ne : a1 ≠ a0
theorem DatesEnv.below {w W : World} {a0 a1 : Addr} (h : DatesEnv w a0 a1) (hb : Below w.heap.size w W) : DatesEnv W a0 a1 := ⟨h.dat.below hb, h.ref.below hb, h.ne⟩

theorem date_pair (t : Int) (r : List UInt8) (w : World) (a0 a1 : Addr) (hE : DatesEnv w a0 a1) (hr : r.length ≤ maxLen) : ∃ (m : Int) (eV : Value) (n : Int), NumOf w eV n ∧
    (∀ W, Below w.heap.size w W → Calls Tryd.prog 16 #[.string (strB r), .int .i64 t] W fun e w' => e = .returned (.tuple #[.int .i64 m, eV]) ∧ Below W.heap.size W w') ∧
    (∀ W, Below w.heap.size w W → Calls Tryd.prog 17 #[.string (strB r), .int .i64 t] W fun e w' => e = .returned (.tuple #[.int .i64 m, .int .i64 n]) ∧ Below W.heap.size W w') := by
  by_cases h : 0 ≤ t ∧ t ≤ 253402300799
  · obtain ⟨D, hD⟩ := civil_ex t h.1 h.2
    have hok := hD.ok.1
    have hread : ∀ W, Below w.heap.size w W → Calls Tryd.prog 16 #[.string (strB r), .int .i64 t] W fun e w' => e = .returned (outV a1 (readV D.y r)) ∧ Below W.heap.size W w' :=
      fun W hb => readDate_any t r W a0 a1 (hE.dat.below hb) hr h.1 h.2 D hD
    have href : ∀ W, Below w.heap.size w W → Calls Tryd.prog 17 #[.string (strB r), .int .i64 t] W fun e w' => e = .returned (refOut (readV D.y r)) ∧ Below W.heap.size W w' :=
      fun W hb => (refReadDate_any t r W (hE.ref.below hb) hr h.1 h.2 D hD).mono fun e w' ⟨⟨o, ho, he⟩, hb⟩ => ⟨by rw [he, ref_read hok.y0 hok.y1 r o ho], hb⟩
    cases hv : readV D.y r with
    | none =>
      rw [hv] at hread href
      exact ⟨0, errV a1, 2, fun W hb => num_text W a0 a1 (hE.dat.civ.eArg.below hb) (hE.dat.eText.below hb) hE.ne, hread, href⟩
    | some m =>
      rw [hv] at hread href
      exact ⟨m, .nilIface, 0, numOf_nil w, hread, href⟩
  · exact ⟨0, errV a0, 1, numOf_arg w a0 hE.dat.civ.eArg, fun W hb => readDate_no t r W a0 (hE.dat.civ.eArg.below hb) h, fun W hb => refReadDate_no t r W h⟩

set_option maxHeartbeats 2000000 in
theorem dates_walk (t : Int) (r : List UInt8) (w : World) (a0 a1 : Addr) (hE : DatesEnv w a0 a1) (hr : r.length ≤ maxLen) :
    Calls Tryd.prog 5 #[.agg #[.string (strB r), .int .i64 t]] w fun e w' => e = .returned (.bool true) ∧ Below w.heap.size w w' := by
  obtain ⟨m, eV, n, hn, h1, h2⟩ := date_pair t r w a0 a1 hE hr
  have N := Lib.hid hn; have C1 := Lib.hid h1; have C2 := Lib.hid h2
  clear hn h1 h2 hE hr
  go_enter Tryd.func5, Tryd.ntmps5
  go_wp2_with fail
  refine (C1.out _ (by repeat (first | exact Below.refl _ _ | refine Below.alloc ?_ (by simp [go_sem]) _ | refine below_ext ?_ (by simp [go_sem]) _ _))).mono ?_
  rintro e w1 ⟨rfl, hb⟩
  obtain ⟨X1, m1, rfl⟩ := Below_ext hb
  clear hb
  go_wp2_with fail
  refine (C2.out _ (by repeat (first | exact Below.refl _ _ | refine Below.alloc ?_ (by simp [go_sem]) _ | refine below_ext ?_ (by simp [go_sem]) _ _))).mono ?_
  rintro e w1 ⟨rfl, hb⟩
  obtain ⟨X2, m2, rfl⟩ := Below_ext hb
  clear hb
  go_wp2_with fail
  refine (N.out _ (by repeat (first | exact Below.refl _ _ | refine Below.alloc ?_ (by simp [go_sem]) _ | refine below_ext ?_ (by simp [go_sem]) _ _))).mono ?_
  rintro e w1 ⟨rfl, rfl⟩
  go_wp2_with fail
  go_ret
  exact ⟨rfl, by repeat (first | exact Below.refl _ _ | refine Below.alloc ?_ (by simp [go_sem]) _ | refine below_ext ?_ (by simp [go_sem]) _ _)⟩
end Go.Proofs.YtmejjhklknhniaaDoor
