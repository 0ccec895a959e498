import Derived.Test.YtmejjhklknhniaaDoorRt
import Derived.Test.YtmejjhklknhniaaDoorRf
import Derived.Test.YtmejjhklknhniaaDoorRs
import Derived.Deep.RegionWith
import Derived.Deep.CutBlock
import Derived.Deep.CutRange
namespace Go.Proofs.YtmejjhklknhniaaDoor
open Go Go.RowKit

theorem monthAt_at (s : List UInt8) (a : Nat) (ai : Int) (hai : ai = (a : Int)) (w : World) (hs : s.length ≤ maxLen) (ha : a ≤ 1000) :
    Calls Tryd.prog 37 #[.string (strB s), .int .i64 ai] w fun e w' => e = .returned (.int .i64 (monAt s a : Int)) ∧ ∃ n, w' = w.drewN n := by
  subst hai; exact monthAt_any s a w hs ha

/-- What the reference reads off the places of each form. -/
def d1 (s : List UInt8) : Dt := (⟨numAt s 12 4, monAt s 8, numAt s 5 2, 0, 0, 0, 0⟩ : Dt).at s 17
def atOf (q : Nat) : Nat := (longT.getD q []).length + 2
def d2 (y0 : Int) (s : List UInt8) (q : Nat) : Dt := (⟨centGo 100 (9900 + numAt s (atOf q + 7) 2) (y0 + 50), monAt s (atOf q + 3), numAt s (atOf q) 2, 0, 0, 0, 0⟩ : Dt).at s (atOf q + 10)
def day3 (s : List UInt8) : Int := if 9 < s.length ∧ s.getD 8 0 = 32 then numAt s 9 1 else numAt s 8 2
def d3 (s : List UInt8) : Dt := (⟨numAt s 20 4, monAt s 4, day3 s, 0, 0, 0, 0⟩ : Dt).at s 11
def acc1 (s : List UInt8) : Prop := (d1 s).ok ∧ (fixB (timedD (d1 s))).toList = s
def acc2 (y0 : Int) (s : List UInt8) (q : Nat) : Prop := (d2 y0 s q).ok ∧ (rfcB (timedD (d2 y0 s q))).toList = s
def acc3 (s : List UInt8) : Prop := (d3 s).ok ∧ ((ascB true (timedD (d3 s))).toList = s ∨ (ascB false (timedD (d3 s))).toList = s)
def RefSays (y0 : Int) (s : List UInt8) (o : Option Int) : Prop :=
  (acc1 s ∧ o = some (timedN (d1 s))) ∨ (¬ acc1 s ∧ ∃ q, q < 7 ∧ acc2 y0 s q ∧ o = some (timedN (d2 y0 s q))) ∨
  (¬ acc1 s ∧ (∀ q, q < 7 → ¬ acc2 y0 s q) ∧ acc3 s ∧ o = some (timedN (d3 s))) ∨ (¬ acc1 s ∧ (∀ q, q < 7 → ¬ acc2 y0 s q) ∧ ¬ acc3 s ∧ o = none)
def refOut : Option Int → Value
  | some n => .tuple #[.int .i64 n, .int .i64 0]
  | none => .tuple #[.int .i64 0, .int .i64 2]

theorem timedN_lo (D : Dt) : (0 ≤ timedN D ↔ D.ok) := by
  unfold timedN
  by_cases h : D.ok
  · rw [if_pos h]
    have h2 := (Dt.ok.fits (D := D.wdOf ((D.day + 4) % 7)) ((wdOf_ok D _).2 h) rfl).2.1
    exact ⟨fun _ => h, fun _ => h2⟩
  · rw [if_neg h]; simp [h]
theorem timedD_right {D : Dt} (h : D.ok) : (timedD D).ok ∧ 0 ≤ (timedD D).wd ∧ (timedD D).wd ≤ 6 := by
  unfold timedD
  rw [if_pos h]
  refine ⟨(wdOf_ok D _).2 h, ?_, ?_⟩ <;> simp only [Dt.wdOf] <;> omega

structure RefEnv (w : World) : Prop where
  rm : MDays 19 w
  long : ∀ k : Nat, k < 7 → w.cell? ⟨9, k, none⟩ = some (.string (longB k))
theorem RefEnv.below {w W : World} (h : RefEnv w) (hb : Below w.heap.size w W) : RefEnv W :=
  ⟨h.rm.below hb, fun k hk => (hb.cell (p := ⟨9, k, none⟩) (World.block_lt_of_cell? w ⟨9, k, none⟩ (h.long k hk))).trans (h.long k hk)⟩

/-- What stands while the forms are tried: the memory from before, the year of now, the date read. -/
structure KInv (w : World) (y0 : Int) (da b : Nat) (V : World) : Prop where
  below : Below w.heap.size w V
  base : w.heap.size ≤ da
  far : da < b
  lt : b < V.heap.size
  hy : V.cell? ⟨da, 0, none⟩ = some (.int .i64 y0)
theorem KInv.low {w V : World} {y0 : Int} {da b : Nat} (h : KInv w y0 da b V) (L : List Value) (u : TypeId) : Below w.heap.size w (put V b u L) :=
  below_put _ _ _ _ h.below (by have := h.base; have := h.far; omega)
theorem KInv.step {w V W1 : World} {y0 : Int} {da b : Nat} {L : List Value} {u : TypeId} (h : KInv w y0 da b V) (hb : Below (put V b u L).heap.size (put V b u L) W1) :
    KInv w y0 da b W1 ∧ W1 = put W1 b u L := by
  have hl := h.lt
  have hf := h.far
  have hs : (put V b u L).heap.size = V.heap.size := by rw [size_put]
  refine ⟨⟨(h.low L u).trans (hb.mono (by rw [hs]; exact h.below.size)), h.base, h.far, by have := hb.size; omega, ?_⟩, ?_⟩
  · exact ((hb.cell (p := ⟨da, 0, none⟩) (by rw [hs]; show da < _; omega)).trans (cell?_put_other V b u L da 0 (by omega))).trans h.hy
  · exact eq_put W1 b u L ((hb.block b (by rw [hs]; omega)).trans (heap_put V b u L hl))

theorem KInv.stepU {w V U W1 : World} {y0 : Int} {da b : Nat} {L : List Value} {u : TypeId} (h : KInv w y0 da b V) (hb : Below U.heap.size U W1) (h1 : U.os = V.os) (h2 : U.tape = V.tape) (h3 : U.output = V.output) (h4 : U.heap = (put V b u L).heap) :
    KInv w y0 da b W1 ∧ W1 = put W1 b u L := by
  refine h.step (L := L) (u := u) ⟨?_, ?_, ?_, ?_, ?_⟩
  · exact hb.os.trans h1
  · exact hb.tape.trans h2
  · exact hb.output.trans h3
  · rw [← h4]; exact hb.size
  · rw [← h4]; exact hb.block

set_option maxHeartbeats 8000000 in
theorem refReadDate_any (t : Int) (s : List UInt8) (w : World) (hE : RefEnv w) (hs : s.length ≤ maxLen) (h0 : 0 ≤ t) (h1 : t ≤ 253402300799) (D0 : Dt) (hD : D0.fits t) :
    Calls Tryd.prog 17 #[.string (strB s), .int .i64 t] w fun e w' => (∃ o, RefSays D0.y s o ∧ e = .returned (refOut o)) ∧ Below w.heap.size w w' := by
  have HE := Lib.hid hE
  have HS := Lib.hid hs
  clear hE hs
  have y0 := hD.ok.1.y0
  have y1 := hD.ok.1.y1
  have g9 : 9 < w.heap.size := World.block_lt_of_cell? w ⟨9, 0, none⟩ (HE.out.long 0 (by omega))
  go_enter Tryd.func17, Tryd.ntmps17
  go_wp2_with fail
  refine (refCivil_yes t _ HE.out.rm h0 h1).mono ?_
  rintro e w1 ⟨D', hD', rfl, hb⟩
  obtain rfl := hD.unique hD'
  obtain ⟨X, n, rfl⟩ := Below_ext hb
  clear hb hD'
  have HD := Lib.hid hD
  clear hD
  obtain ⟨yy, ym, yd, yh, ymi, ys, ywd⟩ := D0
  simp only at y0 y1
  unfold Dt.v
  go_wp2_with fail
  refine (refNumber_at s 12 4 _ _ (by rfl) (by rfl) _ HS.out (by omega) (by decide)).mono ?_
  rintro e w' ⟨rfl, rfl⟩
  go_wp2_with fail
  refine (monthAt_at s 8 _ (by rfl) _ HS.out (by omega)).mono ?_
  rintro e w' ⟨rfl, n2, rfl⟩
  go_wp2_with fail
  refine (refNumber_at s 5 2 _ _ (by rfl) (by rfl) _ HS.out (by omega) (by decide)).mono ?_
  rintro e w' ⟨rfl, rfl⟩
  go_wp2_with fail
  refine (timed_any ⟨numAt s 12 4, monAt s 8, numAt s 5 2, 0, 0, 0, 0⟩ s 17 _ (by rfl) _ HS.out (by omega) (HE.out.rm.below (by repeat (first | exact Below.refl _ _ | refine Below.alloc ?_ (by simp [go_sem]) _ | refine below_ext ?_ (by simp [go_sem]) _ _ | refine below_drewN ?_ _)))).mono ?_
  rintro e w1 ⟨rfl, hb⟩
  rw [show (⟨numAt s 12 4, monAt s 8, numAt s 5 2, 0, 0, 0, 0⟩ : Dt).at s 17 = d1 s from rfl]
  obtain ⟨X2, n3, rfl⟩ := Below_ext hb
  clear hb
  have hN1 := timedN_lo (d1 s)
  generalize hT1 : timedD (d1 s) = T1
  have hR1 : (d1 s).ok → (timedD (d1 s)).ok ∧ 0 ≤ (timedD (d1 s)).wd ∧ (timedD (d1 s)).wd ≤ 6 := timedD_right
  have hA1 : acc1 s ↔ (d1 s).ok ∧ (fixB (timedD (d1 s))).toList = s := Iff.rfl
  have hO1 : ∀ o, acc1 s ∧ o = some (timedN (d1 s)) → RefSays yy s o := fun o h => Or.inl h
  rw [hT1] at hR1 hA1
  generalize hNn : timedN (d1 s) = N1 at hN1 hO1 ⊢
  clear hNn
  rw [← hN1] at hA1 hR1
  have HA1 := Lib.hid hA1; have HR1 := Lib.hid hR1; have HO1 := Lib.hid hO1
  clear hA1 hR1 hO1 hT1 hN1
  obtain ⟨ty, tm, td, th, tmi, ts, twd⟩ := T1
  unfold Dt.v
  obtain ⟨da, hda⟩ : ∃ da, da = w.heap.size + X.size := ⟨_, rfl⟩
  have ld : ((ext w X n).alloc (.cells #[.int .i64 yy, .int .i64 ym, .int .i64 yd, .int .i64 yh, .int .i64 ymi, .int .i64 ys, .int .i64 ywd] 24)).heap.size = da + 1 := by rw [hda]; simp [go_sem]
  go_upto_region 5 with fail
  rw [← hda]
  obtain ⟨b, hb⟩ : ∃ b, b = da + 1 + X2.size := ⟨_, rfl⟩
  generalize hY : (World.alloc (ext (World.alloc (ext w X n) _) X2 n3) _) = Y
  have hI : KInv w yy da b Y := by
    subst hb
    rw [← hY]
    refine ⟨by repeat (first | exact Below.refl _ _ | refine Below.alloc ?_ (by simp [go_sem]; try omega) _ | refine below_ext ?_ (by simp [go_sem]; try omega) _ _), by omega, by omega, by rw [hda]; simp [go_sem], by rw [hda]; simp [go_sem]⟩
  have hp : Y = put Y b 24 [.int .i64 ty, .int .i64 tm, .int .i64 td, .int .i64 th, .int .i64 tmi, .int .i64 ts, .int .i64 twd] := by
    have e1 : Y.heap[b]? = some (.cells (#[.int .i64 ty, .int .i64 tm, .int .i64 td, .int .i64 th, .int .i64 tmi, .int .i64 ts, .int .i64 twd]) 24) := by
      rw [← hY, hb]
      generalize hz : ext (World.alloc (ext w X n) _) X2 n3 = Z
      have hs : da + 1 + X2.size = Z.heap.size := by rw [← hz, hda]; simp [go_sem]
      rw [hs]
      exact (MapKept.heap_alloc Z _).1
    exact eq_put Y b 24 _ e1
  rw [hp, ← hb]
  clear hY hp hb ld hda
  have hfar := hI.far; have hlt := hI.lt; have hbase := hI.base; have hyy := hI.hy
  have INV := Lib.hid hI
  clear hI
  go_cut [39] from 32 to 38 (fun v39 wx => ((v39 = .bool true ∧ acc1 s) ∨ (v39 = .bool false ∧ ¬ acc1 s)) ∧ ∃ V, KInv w yy da b V ∧ wx = put V b 24 [.int .i64 ty, .int .i64 tm, .int .i64 td, .int .i64 th, .int .i64 tmi, .int .i64 ts, .int .i64 twd])
  case first =>
    by_cases hN : 0 ≤ N1
    · go_wp2_with fail
      refine (imf_any ⟨ty, tm, td, th, tmi, ts, twd⟩ _ (HR1.out hN).1 (HR1.out hN).2.1 (HR1.out hN).2.2).mono ?_
      rintro e w1 ⟨rfl, hb⟩
      obtain ⟨hi3, hw1⟩ := INV.out.step hb
      rw [hw1]
      clear hb hw1
      have INV1 := Lib.hid hi3
      clear hi3
      cases hq : ((fixB ⟨ty, tm, td, th, tmi, ts, twd⟩).toList == s) with
      | true =>
        have HQ := Lib.hid (beq_iff_eq.1 hq)
        have HN : Hid (0 ≤ N1) := hN
        go_wp2_with fail
        go_meet
        case rel => exact ⟨Or.inl ⟨rfl, HA1.out.2 ⟨HN.out, HQ.out⟩⟩, _, INV1.out, rfl⟩
      | false =>
        have HQ : Hid (¬ (fixB ⟨ty, tm, td, th, tmi, ts, twd⟩).toList = s) := fun h => by rw [h] at hq; simp at hq
        go_wp2_with fail
        go_meet
        case rel => exact ⟨Or.inr ⟨rfl, fun h => HQ.out (HA1.out.1 h).2⟩, _, INV1.out, rfl⟩
    · have HN : Hid (¬ 0 ≤ N1) := hN
      go_wp2_with fail
      go_meet
      case rel => exact ⟨Or.inr ⟨rfl, fun h => by have := HN.out; have := (HA1.out.1 h).1; omega⟩, _, INV.out, rfl⟩
  case rest =>
    obtain ⟨hv, V, hV, rfl⟩ := hcut
    clear INV hfar hlt hbase hyy HR1 HA1
    have hfar := hV.far; have hlt := hV.lt; have hbase := hV.base; have hyy := hV.hy
    have INV := Lib.hid hV
    clear hV
    rcases hv with ⟨rfl, ha1⟩ | ⟨rfl, ha1⟩
    · have HX := Lib.hid ha1
      clear ha1
      go_wp2_with fail
      go_ret2
      exact ⟨⟨some N1, HO1.out _ ⟨HX.out, rfl⟩, rfl⟩, INV.out.low _ _⟩
    have HX := Lib.hid ha1
    clear ha1 HO1
    go_wp2_with fail
    go_loopg [10] 8 (fun g v10 wr => ∃ (j : Nat) (V : World) (z0 z1 z2 z3 z4 z5 z6 : Int), j ≤ 7 ∧ v10 = .int .i64 (j : Int) ∧ KInv w yy da b V ∧ (∀ i : Nat, i < j → ¬ acc2 yy s i) ∧ 7 - j < g ∧
      wr = put V b 24 [.int .i64 z0, .int .i64 z1, .int .i64 z2, .int .i64 z3, .int .i64 z4, .int .i64 z5, .int .i64 z6])
    case atStart => exact ⟨0, V, _, _, _, _, _, _, _, by omega, rfl, INV.out, fun i hi => by omega, by omega, rfl⟩
    case round =>
      clear hfar hlt hbase hyy INV
      obtain ⟨j, V, z0, z1, z2, z3, z4, z5, z6, hj, rfl, hV, hno, hgk, rfl⟩ := hrel
      have hfar := hV.far; have hlt := hV.lt; have hbase := hV.base; have hyy := hV.hy
      have INV := Lib.hid hV
      have NO := Lib.hid hno
      clear hV hno
      by_cases hl : j < 7
      · have c9 := (HE.out.below INV.out.below).long j hl
        have sz : (longB j).size + 2 = atOf j := by rw [longB, strB_size]; rfl
        have sz9 := longB_size j hl
        have hat : atOf j ≤ 11 := by omega
        have hat0 : 8 ≤ atOf j := by omega
        generalize longB j = LB at c9 sz sz9
        have j7 : (j : Int) < 7 := by omega
        have n9 : ¬ 9 = b := by omega
        have nda : ¬ da = b := by omega
        have wrj : IntKind.i64.wrap (j : Int) = j := IntWalk.i64_in _ (by omega)
        go_upto_region 11 with fail
        have HD2 : Hid (d2 yy s j = (⟨centGo 100 (9900 + numAt s (atOf j + 7) 2) (yy + 50), monAt s (atOf j + 3), numAt s (atOf j) 2, 0, 0, 0, 0⟩ : Dt).at s (atOf j + 10)) := rfl
        rw [show ((LB.size : Nat) : Int) + 2 = ((atOf j : Nat) : Int) from by omega]
        have hN2 := timedN_lo (d2 yy s j)
        have hR2 : (d2 yy s j).ok → (timedD (d2 yy s j)).ok ∧ 0 ≤ (timedD (d2 yy s j)).wd ∧ (timedD (d2 yy s j)).wd ≤ 6 := timedD_right
        have hA2 : acc2 yy s j ↔ (d2 yy s j).ok ∧ (rfcB (timedD (d2 yy s j))).toList = s := Iff.rfl
        have hO2 : ∀ o, acc2 yy s j ∧ o = some (timedN (d2 yy s j)) → RefSays yy s o := fun o h => Or.inr (Or.inl ⟨HX.out, j, hl, h⟩)
        have HTM : Hid (∀ W, MDays 19 W → Calls Tryd.prog 35 #[Dt.v ⟨centGo 100 (9900 + numAt s (atOf j + 7) 2) (yy + 50), monAt s (atOf j + 3), numAt s (atOf j) 2, 0, 0, 0, 0⟩, .string (strB s), .int .i64 (((atOf j : Nat) : Int) + 10)] W fun e w' => e = .returned (.tuple #[(timedD (d2 yy s j)).v, .int .i64 (timedN (d2 yy s j))]) ∧ Below W.heap.size W w') :=
          fun W hW => timed_any _ s (atOf j + 10) _ (by rfl) W HS.out (by omega) hW
        rw [← hN2] at hA2 hR2
        generalize hT2 : timedD (d2 yy s j) = T2 at hA2 hR2 HTM
        generalize hNn2 : timedN (d2 yy s j) = N2 at hA2 hR2 HTM hO2
        clear hN2 hT2 hNn2 HD2
        have HA2 := Lib.hid hA2; have HR2 := Lib.hid hR2; have HO2 := Lib.hid hO2
        clear hA2 hR2 hO2
        obtain ⟨ty2, tm2, td2, th2, tmi2, ts2, twd2⟩ := T2
        generalize atOf j = a at *
        have HSa : Hid (∀ W, Calls Tryd.prog 36 #[.string (strB s), .int .i64 ((a : Int) + 7), .int .i64 2] W fun e w' => e = .returned (.int .i64 (numAt s (a + 7) 2)) ∧ W = w') := fun W => refNumber_at s (a + 7) 2 _ _ (by rfl) (by rfl) W HS.out (by omega) (by decide)
        have HSb : Hid (∀ W, Calls Tryd.prog 36 #[.string (strB s), .int .i64 (a : Int), .int .i64 2] W fun e w' => e = .returned (.int .i64 (numAt s a 2)) ∧ W = w') := fun W => refNumber_at s a 2 _ _ (by rfl) (by rfl) W HS.out (by omega) (by decide)
        have HSm : Hid (∀ W, Calls Tryd.prog 37 #[.string (strB s), .int .i64 ((a : Int) + 3)] W fun e w' => e = .returned (.int .i64 (monAt s (a + 3) : Int)) ∧ ∃ n, w' = W.drewN n) := fun W => monthAt_at s (a + 3) _ (by rfl) W HS.out (by omega)
        have b7 := numAt_bd2 s (a + 7)
        have HSc : Hid (∀ W, Calls Tryd.prog 38 #[.int .i64 (numAt s (a + 7) 2), .int .i64 (yy + 50)] W fun e w' => e = .returned (.int .i64 (centGo 100 (9900 + numAt s (a + 7) 2) (yy + 50))) ∧ W = w') := fun W => century_any _ _ W (by omega) (by omega) (by omega) (by omega)
        have wr3 : IntKind.i64.wrap ((a : Int) + 3) = (a : Int) + 3 := IntWalk.i64_in _ (by omega)
        have wr7 : IntKind.i64.wrap ((a : Int) + 7) = (a : Int) + 7 := IntWalk.i64_in _ (by omega)
        have wr10 : IntKind.i64.wrap ((a : Int) + 10) = (a : Int) + 10 := IntWalk.i64_in _ (by omega)
        have wr50 : IntKind.i64.wrap (yy + 50) = yy + 50 := IntWalk.i64_in _ (by omega)
        clear b7
        generalize numAt s (a + 7) 2 = q7 at HSa HSc HTM
        generalize numAt s a 2 = qa at HSb HTM
        generalize monAt s (a + 3) = qm at HSm HTM
        generalize centGo 100 (9900 + q7) (yy + 50) = qc at HSc HTM
        unfold Dt.v at HTM
        generalize ((a : Nat) : Int) = ai at HSa HSb HSm HTM wr3 wr7 wr10 ⊢
        go_cut [9] from 41 to 81 (fun v9 wx => v9 = .int .i64 N2 ∧ ∃ V', KInv w yy da b V' ∧ wx = put V' b 24 [.int .i64 ty2, .int .i64 tm2, .int .i64 td2, .int .i64 th2, .int .i64 tmi2, .int .i64 ts2, .int .i64 twd2])
        case first =>
          go_region_with (first
            | (go_at_call_of 36 (Value.int IntKind.i64 ai); refine (HSb.out _).mono ?_; rintro e w' ⟨rfl, rfl⟩)
            | (go_at_call 36; refine (HSa.out _).mono ?_; rintro e w' ⟨rfl, rfl⟩)
            | (go_at_call 37; refine (HSm.out _).mono ?_; rintro e w' ⟨rfl, n5, rfl⟩)
            | (go_at_call 38; refine (HSc.out _).mono ?_; rintro e w' ⟨rfl, rfl⟩)
            | (go_at_call 35; refine (HTM.out _ ?hmd).mono ?_; (case hmd => exact ((HE.out.below (INV.out.low [.int .i64 z0, .int .i64 z1, .int .i64 z2, .int .i64 z3, .int .i64 z4, .int .i64 z5, .int .i64 z6] 24)).rm.below ⟨rfl, rfl, rfl, Nat.le_refl _, fun _ _ => rfl⟩)); rintro e w1 ⟨rfl, hb1⟩; obtain ⟨hi3, hw1⟩ := INV.out.stepU (L := [.int .i64 z0, .int .i64 z1, .int .i64 z2, .int .i64 z3, .int .i64 z4, .int .i64 z5, .int .i64 z6]) (u := 24) hb1 rfl rfl rfl rfl; rw [hw1]; clear hb1 hw1; have hlt1 := hi3.lt; have INV1 := Lib.hid hi3; clear hi3))
          all_goals (go_wp2_with fail; go_meet)
          all_goals exact ⟨rfl, _, Hid.out (by assumption), rfl⟩
        case rest =>
          obtain ⟨rfl, V', hV', rfl⟩ := hcut
          clear INV hfar hlt hbase hyy n9 nda
          have hfar := hV'.far; have hlt := hV'.lt; have hbase := hV'.base; have hyy := hV'.hy
          have INV := Lib.hid hV'
          clear hV'
          by_cases hN : 0 ≤ N2
          · have HN : Hid (0 ≤ N2) := hN
            go_wp2_with fail
            refine (rfc850_any ⟨ty2, tm2, td2, th2, tmi2, ts2, twd2⟩ _ (HR2.out HN.out).1 (HR2.out HN.out).2.1 (HR2.out HN.out).2.2 (HE.out.below (INV.out.low _ _)).long).mono ?_
            rintro e w1 ⟨rfl, hb⟩
            obtain ⟨hi3, hw1⟩ := INV.out.step hb
            rw [hw1]
            clear hb hw1
            have INV1 := Lib.hid hi3
            clear hi3
            cases hq : ((rfcB ⟨ty2, tm2, td2, th2, tmi2, ts2, twd2⟩).toList == s) with
            | true =>
              have HQ := Lib.hid (beq_iff_eq.1 hq)
              go_wp2_with fail
              go_ret2
              exact ⟨⟨some N2, HO2.out _ ⟨HA2.out.2 ⟨HN.out, HQ.out⟩, rfl⟩, rfl⟩, INV1.out.low _ _⟩
            | false =>
              have HQ : Hid (¬ acc2 yy s j) := fun h => by have h2 := (HA2.out.1 h).2; rw [h2] at hq; simp at hq
              have NO1 : Hid (∀ i : Nat, i < j + 1 → ¬ acc2 yy s i) := fun i hi => by
                rcases Nat.lt_or_eq_of_le (Nat.le_of_lt_succ hi) with h | rfl
                · exact NO.out i h
                · exact HQ.out
              go_wp2_with fail
              go_roundg (7 - (j + 1) + 1)
              case measure => omega
              case rel => exact ⟨j + 1, _, _, _, _, _, _, _, _, by omega, by go_num, INV1.out, NO1.out, by omega, rfl⟩
          · have NO1 : Hid (∀ i : Nat, i < j + 1 → ¬ acc2 yy s i) := fun i hi => by
              rcases Nat.lt_or_eq_of_le (Nat.le_of_lt_succ hi) with h | rfl
              · exact NO.out i h
              · exact fun h => hN (HA2.out.1 h).1
            go_wp2_with fail
            go_roundg (7 - (j + 1) + 1)
            case measure => omega
            case rel => exact ⟨j + 1, _, _, _, _, _, _, _, _, by omega, by go_num, INV.out, NO1.out, by omega, rfl⟩
      · obtain rfl : j = 7 := by omega
        have hno2 : Hid (∀ q, q < 7 → ¬ acc2 yy s q) := fun q hq => NO.out q hq
        clear NO
        have nda : ¬ da = b := by omega
        have HN8 : Hid (∀ W, Calls Tryd.prog 36 #[.string (strB s), .int .i64 8, .int .i64 2] W fun e w' => e = .returned (.int .i64 (numAt s 8 2)) ∧ W = w') := fun W => refNumber_at s 8 2 _ _ (by rfl) (by rfl) W HS.out (by omega) (by decide)
        have HN9 : Hid (∀ W, Calls Tryd.prog 36 #[.string (strB s), .int .i64 9, .int .i64 1] W fun e w' => e = .returned (.int .i64 (numAt s 9 1)) ∧ W = w') := fun W => refNumber_at s 9 1 _ _ (by rfl) (by rfl) W HS.out (by omega) (by decide)
        have HN20 : Hid (∀ W, Calls Tryd.prog 36 #[.string (strB s), .int .i64 20, .int .i64 4] W fun e w' => e = .returned (.int .i64 (numAt s 20 4)) ∧ W = w') := fun W => refNumber_at s 20 4 _ _ (by rfl) (by rfl) W HS.out (by omega) (by decide)
        have HM4 : Hid (∀ W, Calls Tryd.prog 37 #[.string (strB s), .int .i64 4] W fun e w' => e = .returned (.int .i64 (monAt s 4 : Int)) ∧ ∃ n, w' = W.drewN n) := fun W => monthAt_at s 4 _ (by rfl) W HS.out (by omega)
        have hN3 := timedN_lo (d3 s)
        have hR3 : (d3 s).ok → (timedD (d3 s)).ok ∧ 0 ≤ (timedD (d3 s)).wd ∧ (timedD (d3 s)).wd ≤ 6 := timedD_right
        have hA3 : acc3 s ↔ (d3 s).ok ∧ ((ascB true (timedD (d3 s))).toList = s ∨ (ascB false (timedD (d3 s))).toList = s) := Iff.rfl
        have hO3 : ∀ o, acc3 s ∧ o = some (timedN (d3 s)) → RefSays yy s o := fun o h => Or.inr (Or.inr (Or.inl ⟨HX.out, hno2.out, h⟩))
        have HO4 : Hid (¬ acc3 s → RefSays yy s none) := fun h => Or.inr (Or.inr (Or.inr ⟨HX.out, hno2.out, h, rfl⟩))
        have HTM : Hid (∀ W, MDays 19 W → Calls Tryd.prog 35 #[Dt.v ⟨numAt s 20 4, monAt s 4, day3 s, 0, 0, 0, 0⟩, .string (strB s), .int .i64 11] W fun e w' => e = .returned (.tuple #[(timedD (d3 s)).v, .int .i64 (timedN (d3 s))]) ∧ Below W.heap.size W w') :=
          fun W hW => timed_any _ s 11 _ (by rfl) W HS.out (by omega) hW
        rw [← hN3] at hA3 hR3
        generalize hT3 : timedD (d3 s) = T3 at hA3 hR3 HTM
        generalize hNn3 : timedN (d3 s) = N3 at hA3 hR3 HTM hO3
        clear hN3 hT3 hNn3
        have HA3 := Lib.hid hA3; have HR3 := Lib.hid hR3; have HO3 := Lib.hid hO3
        clear hA3 hR3 hO3
        obtain ⟨ty3, tm3, td3, th3, tmi3, ts3, twd3⟩ := T3
        have HDY : Hid (day3 s = if 9 < s.length ∧ s.getD 8 0 = 32 then numAt s 9 1 else numAt s 8 2) := rfl
        generalize day3 s = dy at HTM HDY
        generalize numAt s 8 2 = q8 at HN8 HDY
        generalize numAt s 9 1 = q9 at HN9 HDY
        generalize numAt s 20 4 = q20 at HN20 HTM
        generalize monAt s 4 = qm at HM4 HTM
        unfold Dt.v at HTM
        have hlen := HS.out
        unfold maxLen at hlen
        have hcase : (¬ 9 < s.length) ∨ (9 < s.length ∧ ∃ h : 8 < s.length, s[8] = 32) ∨ (9 < s.length ∧ ∃ h : 8 < s.length, ¬ s[8] = 32) := by
          by_cases h9 : 9 < s.length
          · by_cases hc : s[8]'(by omega) = 32
            · exact Or.inr (Or.inl ⟨h9, by omega, hc⟩)
            · exact Or.inr (Or.inr ⟨h9, by omega, hc⟩)
          · exact Or.inl h9
        obtain ⟨c, hcd⟩ : ∃ c : Bool, c = decide (9 < s.length ∧ s.getD 8 0 = 32) := ⟨_, rfl⟩
        have hdy : Hid (dy = if c = true then q9 else q8) := by
          show _ = _
          rw [HDY.out, hcd]; simp
        go_upto_region 15 with (go_at_call 36; refine (HN8.out _).mono ?_; rintro e w' ⟨rfl, rfl⟩)
        go_cut [91] from 82 to 118 (fun v91 wx => v91 = .bool c ∧ wx = put V b 24 [.int .i64 z0, .int .i64 z1, .int .i64 z2, .int .i64 z3, .int .i64 z4, .int .i64 z5, .int .i64 z6])
        case first =>
          rcases hcase with h9 | ⟨h9, h8, hc⟩ | ⟨h9, h8, hc⟩
          · obtain rfl : c = false := by rw [hcd]; simp; omega
            have hg : decide (9 < (s.length : Int)) = false := by simp; omega
            clear hcd hdy
            go_wp2_with fail
            go_meet
            case rel => exact ⟨rfl, rfl⟩
          · obtain rfl : c = true := by rw [hcd]; simp only [decide_eq_true_eq]; exact ⟨h9, by rw [List.getD_eq_getElem?_getD, List.getElem?_eq_getElem h8]; exact hc⟩
            have hg : decide (9 < (s.length : Int)) = true := by simp; omega
            have hcb : decide (((s[8]).toNat : Int) = 32) = true := by rw [hc]; rfl
            clear hcd hdy
            go_wp2_with fail
            go_meet
            case rel => exact ⟨rfl, rfl⟩
          · obtain rfl : c = false := by rw [hcd]; simp only [decide_eq_false_iff_not]; exact fun h => hc (by have := h.2; rw [List.getD_eq_getElem?_getD, List.getElem?_eq_getElem h8] at this; exact this)
            have hg : decide (9 < (s.length : Int)) = true := by simp; omega
            have hcb : decide (((s[8]).toNat : Int) = 32) = false := by
              simp only [decide_eq_false_iff_not]
              intro h
              exact hc (UInt8.toNat_inj.1 (by show _ = 32; omega))
            have HCB : Hid ((((s[8]).toNat : Int) == 32) = false) := by
              show _ = _
              simpa using hcb
            clear hcd hdy
            go_wp2_with fail
            go_meet
            case rel => exact ⟨by rw [HCB.out], rfl⟩
        case rest =>
          obtain ⟨rfl, rfl⟩ := hcut
          clear hcase hcd
          go_upto_if 91 with fail
          go_cut [12] from 82 to 118 (fun v12 wx => v12 = .int .i64 dy ∧ wx = put V b 24 [.int .i64 z0, .int .i64 z1, .int .i64 z2, .int .i64 z3, .int .i64 z4, .int .i64 z5, .int .i64 z6])
          case first =>
            cases c with
            | false =>
              go_wp2_with fail
              go_meet
              case rel => exact ⟨by rw [hdy.out]; rfl, rfl⟩
            | true =>
              go_wp2_with fail
              refine (HN9.out _).mono ?_
              rintro e w' ⟨rfl, rfl⟩
              go_wp2_with fail
              go_meet
              case rel => exact ⟨by rw [hdy.out]; rfl, rfl⟩
          case rest =>
            obtain ⟨rfl, rfl⟩ := hcut
            clear HN8 HN9 HDY hdy
            go_wp2_with fail
            refine (HN20.out _).mono ?_
            rintro e w' ⟨rfl, rfl⟩
            go_wp2_with fail
            refine (HM4.out _).mono ?_
            rintro e w' ⟨rfl, n5, rfl⟩
            go_wp2_with fail
            refine (HTM.out _ ?_).mono ?_
            · exact (HE.out.below (INV.out.low [.int .i64 z0, .int .i64 z1, .int .i64 z2, .int .i64 z3, .int .i64 z4, .int .i64 z5, .int .i64 z6] 24)).rm.below ⟨rfl, rfl, rfl, Nat.le_refl _, fun _ _ => rfl⟩
            rintro e w1 ⟨rfl, hb1⟩
            obtain ⟨hi3, hw1⟩ := INV.out.stepU (L := [.int .i64 z0, .int .i64 z1, .int .i64 z2, .int .i64 z3, .int .i64 z4, .int .i64 z5, .int .i64 z6]) (u := 24) hb1 rfl rfl rfl rfl
            rw [hw1]
            clear hb1 hw1
            have hlt1 := hi3.lt
            have INV1 := Lib.hid hi3
            clear hi3
            by_cases hN : 0 ≤ N3
            · have HN : Hid (0 ≤ N3) := hN
              go_wp2_with fail
              refine (asctime_any true ⟨ty3, tm3, td3, th3, tmi3, ts3, twd3⟩ _ (HR3.out HN.out).1 (HR3.out HN.out).2.1 (HR3.out HN.out).2.2).mono ?_
              rintro e w2 ⟨rfl, hb⟩
              obtain ⟨hi4, hw2⟩ := INV1.out.step hb
              rw [hw2]
              clear hb hw2
              have hlt2 := hi4.lt
              have INV2 := Lib.hid hi4
              clear hi4
              cases hq : ((ascB true ⟨ty3, tm3, td3, th3, tmi3, ts3, twd3⟩).toList == s) with
              | true =>
                have HQ := Lib.hid (beq_iff_eq.1 hq)
                go_wp2_with fail
                go_ret2
                exact ⟨⟨some N3, HO3.out _ ⟨HA3.out.2 ⟨HN.out, Or.inl HQ.out⟩, rfl⟩, rfl⟩, INV2.out.low _ _⟩
              | false =>
                have HQ : Hid (¬ (ascB true ⟨ty3, tm3, td3, th3, tmi3, ts3, twd3⟩).toList = s) := fun h => by rw [h] at hq; simp at hq
                go_wp2_with fail
                refine (asctime_any false ⟨ty3, tm3, td3, th3, tmi3, ts3, twd3⟩ _ (HR3.out HN.out).1 (HR3.out HN.out).2.1 (HR3.out HN.out).2.2).mono ?_
                rintro e w3 ⟨rfl, hb⟩
                obtain ⟨hi5, hw3⟩ := INV2.out.step hb
                rw [hw3]
                clear hb hw3
                have hlt3 := hi5.lt
                have INV3 := Lib.hid hi5
                clear hi5
                cases hq3 : ((ascB false ⟨ty3, tm3, td3, th3, tmi3, ts3, twd3⟩).toList == s) with
                | true =>
                  have HQ3 := Lib.hid (beq_iff_eq.1 hq3)
                  go_wp2_with fail
                  go_ret2
                  exact ⟨⟨some N3, HO3.out _ ⟨HA3.out.2 ⟨HN.out, Or.inr HQ3.out⟩, rfl⟩, rfl⟩, INV3.out.low _ _⟩
                | false =>
                  have HQ3 : Hid (¬ acc3 s) := fun h => by
                    rcases (HA3.out.1 h).2 with h2 | h2
                    · exact HQ.out h2
                    · rw [h2] at hq3; simp at hq3
                  go_wp2_with fail
                  go_ret2
                  exact ⟨⟨none, HO4.out HQ3.out, rfl⟩, INV3.out.low _ _⟩
            · have HQ3 : Hid (¬ acc3 s) := fun h => hN (HA3.out.1 h).1
              go_wp2_with fail
              go_ret2
              exact ⟨⟨none, HO4.out HQ3.out, rfl⟩, INV1.out.low _ _⟩
end Go.Proofs.YtmejjhklknhniaaDoor
