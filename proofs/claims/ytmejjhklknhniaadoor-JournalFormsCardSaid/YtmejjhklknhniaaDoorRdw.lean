import Derived.Test.YtmejjhklknhniaaDoorCu2
import Derived.Test.YtmejjhklknhniaaDoorLc
namespace Go.Proofs.YtmejjhklknhniaaDoor
open Go Go.RowKit

structure DatEnv (w : World) (a0 a1 : Addr) : Prop where
  civ : CivEnv w a0
  eText : Sent w 1 a1
  full : ∀ k : Nat, k < 7 → w.cell? ⟨20, k, none⟩ = some (.string (longB k))

def rdOk (x : Rd) : Prop := x.k = true ∧ x.r = [] ∧ Right x.D
open Classical in
noncomputable def readV (now : Int) (r : List UInt8) : Option Int :=
  if rdOk (fixRd r) then some (fixRd r).D.sec else if rdOk (shRd now r) then some (shRd now r).D.sec else if rdOk (spRd r) then some (spRd r).D.sec else none
def outV (a1 : Addr) : Option Int → Value
  | some n => .tuple #[.int .i64 n, .nilIface]
  | none => .tuple #[.int .i64 0, errV a1]

theorem DatEnv.below {w W : World} {a0 a1 : Addr} (h : DatEnv w a0 a1) (hb : Below w.heap.size w W) : DatEnv W a0 a1 :=
  ⟨h.civ.below hb, h.eText.below hb, fun k hk => (hb.cell (p := ⟨20, k, none⟩) (World.block_lt_of_cell? w ⟨20, k, none⟩ (h.full k hk))).trans (h.full k hk)⟩

/-- What stands while the readers are tried: the memory from before, the year of now, the three readers. -/
structure RInv (w : World) (y : Int) (da : Nat) (W : World) : Prop where
  below : Below w.heap.size w W
  base : w.heap.size ≤ da
  lt : da + 1 < W.heap.size
  hy : W.cell? ⟨da, 0, none⟩ = some (.int .i64 y)
  f0 : W.cell? ⟨da + 1 + 1, 0, none⟩ = some (.func (.func 32) #[.pointer (some ⟨da + 1, 0, none⟩)] #[])
  f1 : W.cell? ⟨da + 1 + 1, 1, none⟩ = some (.func (.func 33) #[.pointer (some ⟨da + 1, 0, none⟩)] #[])
  f2 : W.cell? ⟨da + 1 + 1, 2, none⟩ = some (.func (.func 34) #[.pointer (some ⟨da + 1, 0, none⟩)] #[])
theorem RInv.step {w : World} {y : Int} {da : Nat} {W W1 : World} {L : List Value} (h : RInv w y da W) (hb : Below (put W (da + 1) 63 L).heap.size (put W (da + 1) 63 L) W1) :
    RInv w y da W1 ∧ W1 = put W1 (da + 1) 63 L := by
  have hlt := h.lt
  have hba := h.base
  have hs : (put W (da + 1) 63 L).heap.size = W.heap.size := size_put _ _ _ _
  have hc : ∀ (k i : Nat) v, ¬ k = da + 1 → W.cell? ⟨k, i, none⟩ = some v → W1.cell? ⟨k, i, none⟩ = some v := by
    intro k i v hk hv
    have hkl := World.block_lt_of_cell? W ⟨k, i, none⟩ hv
    exact ((hb.cell (p := ⟨k, i, none⟩) (by rw [hs]; exact hkl)).trans (cell?_put_other W _ 63 L k i hk)).trans hv
  refine ⟨⟨?_, hba, ?_, hc _ _ _ (by omega) h.hy, hc _ _ _ (by omega) h.f0, hc _ _ _ (by omega) h.f1, hc _ _ _ (by omega) h.f2⟩, ?_⟩
  · exact (below_put W (da + 1) 63 L h.below (by omega)).trans (hb.mono (by rw [hs]; exact h.below.size))
  · have := hb.size; omega
  · exact eq_put W1 (da + 1) 63 L ((hb.block (da + 1) (by rw [hs]; exact hlt)).trans (heap_put W (da + 1) 63 L hlt))

set_option maxHeartbeats 4000000 in
theorem readDate_any (t : Int) (r : List UInt8) (w : World) (a0 a1 : Addr) (hE : DatEnv w a0 a1) (hr : r.length ≤ maxLen) (h0 : 0 ≤ t) (h1 : t ≤ 253402300799) (D : Dt) (hD : D.fits t) :
    Calls Tryd.prog 16 #[.string (strB r), .int .i64 t] w fun e w' => e = .returned (outV a1 (readV D.y r)) ∧ Below w.heap.size w w' := by
  have HE := Lib.hid hE
  have HR := Lib.hid hr
  clear hE hr
  have y0 := hD.ok.1.y0
  have y1 := hD.ok.1.y1
  have g20 : 20 < w.heap.size := World.block_lt_of_cell? w ⟨20, 0, none⟩ (HE.out.full 0 (by omega))
  have hmf : ∀ (fn : Fn) (first cap : Array Value) (w : World), (Instr.makeFunc fn first cap).run Tryd.prog w = .ok (.func fn first cap) w := fun _ _ _ _ => rfl
  go_enter Tryd.func16, Tryd.ntmps16
  go_wp2_with fail
  refine (civil_yes t _ HE.out.civ.md h0 h1).mono ?_
  rintro e w1 ⟨D', hD', rfl, hb⟩
  obtain rfl := hD.unique hD'
  obtain ⟨X, n, rfl⟩ := Below_ext hb
  clear hb hD'
  have HD := Lib.hid hD
  clear hD
  unfold Dt.v
  go_wp2_with fail
  obtain ⟨da, hda⟩ : ∃ da, da = w.heap.size + X.size := ⟨_, rfl⟩
  generalize hY : ((((ext w X n).alloc _).alloc _).alloc _) = Y
  have hI : RInv w D.y da Y := by
    subst hda
    rw [← hY]
    refine ⟨by repeat (first | exact Below.refl _ _ | refine Below.alloc ?_ (by simp [go_sem]; try omega) _ | refine below_ext ?_ (by simp [go_sem]) _ _), by omega, by simp [go_sem], by simp [go_sem], by simp [go_sem], by simp [go_sem], by simp [go_sem]⟩
  have hp : Y.heap[da + 1]? = some (.cells ([Value.string (strB ([])), Value.bool (false), Value.int IntKind.i64 (0), Value.int IntKind.i64 (0), Value.int IntKind.i64 (0), Value.int IntKind.i64 (0), Value.int IntKind.i64 (0), Value.int IntKind.i64 (0), Value.int IntKind.i64 (0), Value.int IntKind.i64 (0)]).toArray 63) := by
    rw [← hY, hda]
    rw [Below.heap_alloc _ _ _ (by simp [go_sem])]
    generalize hz : World.alloc (ext w X n) _ = Z
    have hs : w.heap.size + X.size + 1 = Z.heap.size := by rw [← hz]; simp [go_sem]
    rw [hs]
    exact (MapKept.heap_alloc Z _).1
  rw [← hda]
  clear hY hda
  have hYp := eq_put Y (da + 1) 63 _ hp
  rw [hYp]
  clear hYp hp
  go_loopg [26] 4 (fun g v26 wr => ∃ (i : Nat) (W : World) (r' : List UInt8) (bad : Bool) (y m d h mi s wd nw : Int), i ≤ 3 ∧ v26 = .int .i64 (i : Int) ∧ RInv w D.y da W ∧ (0 < i → ¬ rdOk (fixRd r)) ∧ (1 < i → ¬ rdOk (shRd D.y r)) ∧ (2 < i → ¬ rdOk (spRd r)) ∧ 3 - i < g ∧ wr = put W (da + 1) 63 [Value.string (strB (r')), Value.bool (bad), Value.int IntKind.i64 (y), Value.int IntKind.i64 (m), Value.int IntKind.i64 (d), Value.int IntKind.i64 (h), Value.int IntKind.i64 (mi), Value.int IntKind.i64 (s), Value.int IntKind.i64 (wd), Value.int IntKind.i64 (nw)])
  case atStart => exact ⟨0, Y, _, _, _, _, _, _, _, _, _, _, by omega, rfl, hI, by omega, by omega, by omega, by omega, rfl⟩
  case round =>
    obtain ⟨i, W, r', bad, y, m, d, h, mi, s, wd, nw, hi, rfl, hinv, n0, n1, n2, hg, rfl⟩ := hrel
    have N0 := Lib.hid n0; have N1 := Lib.hid n1; have N2 := Lib.hid n2
    have INV := Lib.hid hinv
    have hlt := hinv.lt
    have hbase := hinv.base
    have fy := hinv.hy; have f0 := hinv.f0; have f1 := hinv.f1; have f2 := hinv.f2
    clear hinv n0 n1 n2
    have hi' : i = 0 ∨ i = 1 ∨ i = 2 ∨ i = 3 := by omega
    rcases hi' with rfl | rfl | rfl | rfl
    · go_wp2_with fail
      refine (fixed_any _ _ _ _ _ _ _ _ _ _ _ _ hlt HR.out (HE.out.below INV.out.below).civ.wd (HE.out.below INV.out.below).civ.mo (by omega)).mono ?_
      rintro e w1 ⟨rfl, rfl⟩
      generalize hx : fixRd r = x
      obtain ⟨⟨xy, xm, xd, xh, xmi, xs, xwd⟩, rr, kk⟩ := x
      have HX := Lib.hid hx
      clear hx
      cases kk with
      | false =>
        go_wp2_with fail
        have NF : ¬ rdOk (fixRd r) := fun h => by rw [HX.out] at h; exact Bool.noConfusion h.1
        go_roundg 3
        case measure => omega
        case rel => exact ⟨1, W, _, _, _, _, _, _, _, _, _, _, by omega, by rfl, INV.out, fun _ => NF, by omega, by omega, by omega, rfl⟩
      | true =>
        cases rr with
        | cons c rr =>
          go_wp2_with fail
          have NF : ¬ rdOk (fixRd r) := fun h => by rw [HX.out] at h; cases h.2.1
          go_roundg 3
          case measure => omega
          case rel => exact ⟨1, W, _, _, _, _, _, _, _, _, _, _, by omega, by rfl, INV.out, fun _ => NF, by omega, by omega, by omega, rfl⟩
        | nil =>
          by_cases hR : Right ⟨xy, xm, xd, xh, xmi, xs, xwd⟩
          · have HRI := Lib.hid hR
            clear hR
            have RV : Hid (readV D.y r = some (Dt.sec ⟨xy, xm, xd, xh, xmi, xs, xwd⟩)) := by
              have hok : rdOk (fixRd r) := by rw [HX.out]; exact ⟨rfl, rfl, HRI.out⟩
              show readV D.y r = _
              unfold readV
              rw [if_pos hok, HX.out]
            go_wp2_with fail
            refine (seconds_yes ⟨xy, xm, xd, xh, xmi, xs, xwd⟩ _ _ ((HE.out.below (below_put _ _ 63 _ INV.out.below (by omega))).civ.eArg).1 (HE.out.below (below_put _ _ 63 _ INV.out.below (by omega))).civ.md HRI.out).mono ?_
            rintro e w1 ⟨rfl, hb⟩
            have hi2 := INV.out.step hb
            clear hb
            obtain ⟨hi3, hw1⟩ := hi2
            have INV1 := Lib.hid hi3
            clear hi3 hw1
            go_wp2_with fail
            go_ret2
            exact ⟨by rw [RV.out]; rfl, INV1.out.below⟩
          · have HRI := Lib.hid hR
            clear hR
            go_wp2_with fail
            refine (seconds_no ⟨xy, xm, xd, xh, xmi, xs, xwd⟩ _ _ ((HE.out.below (below_put _ _ 63 _ INV.out.below (by omega))).civ.eArg).1 (HE.out.below (below_put _ _ 63 _ INV.out.below (by omega))).civ.md HRI.out).mono ?_
            rintro e w1 ⟨rfl, hb⟩
            rw [show errV a0 = .iface 79 (.pointer (some a0)) from rfl]
            have hi2 := INV.out.step hb
            clear hb
            obtain ⟨hi3, hw1⟩ := hi2
            rw [hw1]
            have INV1 := Lib.hid hi3
            clear hi3 hw1
            go_wp2_with fail
            have NF : ¬ rdOk (fixRd r) := fun h => by rw [HX.out] at h; exact HRI.out h.2.2
            go_roundg 3
            case measure => omega
            case rel => exact ⟨1, w1, _, _, _, _, _, _, _, _, _, _, by omega, by rfl, INV1.out, fun _ => NF, by omega, by omega, by omega, rfl⟩
    · go_wp2_with fail
      refine (short_any _ _ _ _ _ _ _ _ _ _ _ _ hlt HR.out (by omega) (by omega) (HE.out.below INV.out.below).full (HE.out.below INV.out.below).civ.mo (by omega)).mono ?_
      rintro e w1 ⟨rfl, rfl⟩
      generalize hx : shRd D.y r = x
      obtain ⟨⟨xy, xm, xd, xh, xmi, xs, xwd⟩, rr, kk⟩ := x
      have HX := Lib.hid hx
      clear hx
      cases kk with
      | false =>
        go_wp2_with fail
        have NF : ¬ rdOk (shRd D.y r) := fun h => by rw [HX.out] at h; exact Bool.noConfusion h.1
        go_roundg 2
        case measure => omega
        case rel => exact ⟨2, W, _, _, _, _, _, _, _, _, _, _, by omega, by rfl, INV.out, fun _ => N0.out (by omega), fun _ => NF, by omega, by omega, rfl⟩
      | true =>
        cases rr with
        | cons c rr =>
          go_wp2_with fail
          have NF : ¬ rdOk (shRd D.y r) := fun h => by rw [HX.out] at h; cases h.2.1
          go_roundg 2
          case measure => omega
          case rel => exact ⟨2, W, _, _, _, _, _, _, _, _, _, _, by omega, by rfl, INV.out, fun _ => N0.out (by omega), fun _ => NF, by omega, by omega, rfl⟩
        | nil =>
          by_cases hR : Right ⟨xy, xm, xd, xh, xmi, xs, xwd⟩
          · have HRI := Lib.hid hR
            clear hR
            have RV : Hid (readV D.y r = some (Dt.sec ⟨xy, xm, xd, xh, xmi, xs, xwd⟩)) := by
              have hok : rdOk (shRd D.y r) := by rw [HX.out]; exact ⟨rfl, rfl, HRI.out⟩
              show readV D.y r = _
              unfold readV
              rw [if_neg (N0.out (by omega)), if_pos hok, HX.out]
            go_wp2_with fail
            refine (seconds_yes ⟨xy, xm, xd, xh, xmi, xs, xwd⟩ _ _ ((HE.out.below (below_put _ _ 63 _ INV.out.below (by omega))).civ.eArg).1 (HE.out.below (below_put _ _ 63 _ INV.out.below (by omega))).civ.md HRI.out).mono ?_
            rintro e w1 ⟨rfl, hb⟩
            have hi2 := INV.out.step hb
            clear hb
            obtain ⟨hi3, hw1⟩ := hi2
            have INV1 := Lib.hid hi3
            clear hi3 hw1
            go_wp2_with fail
            go_ret2
            exact ⟨by rw [RV.out]; rfl, INV1.out.below⟩
          · have HRI := Lib.hid hR
            clear hR
            go_wp2_with fail
            refine (seconds_no ⟨xy, xm, xd, xh, xmi, xs, xwd⟩ _ _ ((HE.out.below (below_put _ _ 63 _ INV.out.below (by omega))).civ.eArg).1 (HE.out.below (below_put _ _ 63 _ INV.out.below (by omega))).civ.md HRI.out).mono ?_
            rintro e w1 ⟨rfl, hb⟩
            rw [show errV a0 = .iface 79 (.pointer (some a0)) from rfl]
            have hi2 := INV.out.step hb
            clear hb
            obtain ⟨hi3, hw1⟩ := hi2
            rw [hw1]
            have INV1 := Lib.hid hi3
            clear hi3 hw1
            go_wp2_with fail
            have NF : ¬ rdOk (shRd D.y r) := fun h => by rw [HX.out] at h; exact HRI.out h.2.2
            go_roundg 2
            case measure => omega
            case rel => exact ⟨2, w1, _, _, _, _, _, _, _, _, _, _, by omega, by rfl, INV1.out, fun _ => N0.out (by omega), fun _ => NF, by omega, by omega, rfl⟩
    · go_wp2_with fail
      refine (spaced_any _ _ _ _ _ _ _ _ _ _ _ _ hlt HR.out (HE.out.below INV.out.below).civ.wd (HE.out.below INV.out.below).civ.mo (by omega)).mono ?_
      rintro e w1 ⟨rfl, rfl⟩
      generalize hx : spRd r = x
      obtain ⟨⟨xy, xm, xd, xh, xmi, xs, xwd⟩, rr, kk⟩ := x
      have HX := Lib.hid hx
      clear hx
      cases kk with
      | false =>
        go_wp2_with fail
        have NF : ¬ rdOk (spRd r) := fun h => by rw [HX.out] at h; exact Bool.noConfusion h.1
        go_roundg 1
        case measure => omega
        case rel => exact ⟨3, W, _, _, _, _, _, _, _, _, _, _, by omega, by rfl, INV.out, fun _ => N0.out (by omega), fun _ => N1.out (by omega), fun _ => NF, by omega, rfl⟩
      | true =>
        cases rr with
        | cons c rr =>
          go_wp2_with fail
          have NF : ¬ rdOk (spRd r) := fun h => by rw [HX.out] at h; cases h.2.1
          go_roundg 1
          case measure => omega
          case rel => exact ⟨3, W, _, _, _, _, _, _, _, _, _, _, by omega, by rfl, INV.out, fun _ => N0.out (by omega), fun _ => N1.out (by omega), fun _ => NF, by omega, rfl⟩
        | nil =>
          by_cases hR : Right ⟨xy, xm, xd, xh, xmi, xs, xwd⟩
          · have HRI := Lib.hid hR
            clear hR
            have RV : Hid (readV D.y r = some (Dt.sec ⟨xy, xm, xd, xh, xmi, xs, xwd⟩)) := by
              have hok : rdOk (spRd r) := by rw [HX.out]; exact ⟨rfl, rfl, HRI.out⟩
              show readV D.y r = _
              unfold readV
              rw [if_neg (N0.out (by omega)), if_neg (N1.out (by omega)), if_pos hok, HX.out]
            go_wp2_with fail
            refine (seconds_yes ⟨xy, xm, xd, xh, xmi, xs, xwd⟩ _ _ ((HE.out.below (below_put _ _ 63 _ INV.out.below (by omega))).civ.eArg).1 (HE.out.below (below_put _ _ 63 _ INV.out.below (by omega))).civ.md HRI.out).mono ?_
            rintro e w1 ⟨rfl, hb⟩
            have hi2 := INV.out.step hb
            clear hb
            obtain ⟨hi3, hw1⟩ := hi2
            have INV1 := Lib.hid hi3
            clear hi3 hw1
            go_wp2_with fail
            go_ret2
            exact ⟨by rw [RV.out]; rfl, INV1.out.below⟩
          · have HRI := Lib.hid hR
            clear hR
            go_wp2_with fail
            refine (seconds_no ⟨xy, xm, xd, xh, xmi, xs, xwd⟩ _ _ ((HE.out.below (below_put _ _ 63 _ INV.out.below (by omega))).civ.eArg).1 (HE.out.below (below_put _ _ 63 _ INV.out.below (by omega))).civ.md HRI.out).mono ?_
            rintro e w1 ⟨rfl, hb⟩
            rw [show errV a0 = .iface 79 (.pointer (some a0)) from rfl]
            have hi2 := INV.out.step hb
            clear hb
            obtain ⟨hi3, hw1⟩ := hi2
            rw [hw1]
            have INV1 := Lib.hid hi3
            clear hi3 hw1
            go_wp2_with fail
            have NF : ¬ rdOk (spRd r) := fun h => by rw [HX.out] at h; exact HRI.out h.2.2
            go_roundg 1
            case measure => omega
            case rel => exact ⟨3, w1, _, _, _, _, _, _, _, _, _, _, by omega, by rfl, INV1.out, fun _ => N0.out (by omega), fun _ => N1.out (by omega), fun _ => NF, by omega, rfl⟩
    · have RV : Hid (readV D.y r = none) := by
        show readV D.y r = _
        unfold readV
        rw [if_neg (N0.out (by omega)), if_neg (N1.out (by omega)), if_neg (N2.out (by omega))]
      have et := (HE.out.below (below_put W (da + 1) 63 [Value.string (strB (r')), Value.bool (bad), Value.int IntKind.i64 (y), Value.int IntKind.i64 (m), Value.int IntKind.i64 (d), Value.int IntKind.i64 (h), Value.int IntKind.i64 (mi), Value.int IntKind.i64 (s), Value.int IntKind.i64 (wd), Value.int IntKind.i64 (nw)] INV.out.below (by omega))).eText.1
      have eu : errV a1 = .iface 79 (.pointer (some a1)) := rfl
      rw [eu] at et
      have BL : Hid (Below w.heap.size w (put W (da + 1) 63 [Value.string (strB (r')), Value.bool (bad), Value.int IntKind.i64 (y), Value.int IntKind.i64 (m), Value.int IntKind.i64 (d), Value.int IntKind.i64 (h), Value.int IntKind.i64 (mi), Value.int IntKind.i64 (s), Value.int IntKind.i64 (wd), Value.int IntKind.i64 (nw)])) := below_put W (da + 1) 63 _ INV.out.below (by omega)
      generalize put W (da + 1) 63 [Value.string (strB (r')), Value.bool (bad), Value.int IntKind.i64 (y), Value.int IntKind.i64 (m), Value.int IntKind.i64 (d), Value.int IntKind.i64 (h), Value.int IntKind.i64 (mi), Value.int IntKind.i64 (s), Value.int IntKind.i64 (wd), Value.int IntKind.i64 (nw)] = V at et BL ⊢
      go_wp2_with fail
      go_quiet (fail)
      go_wp2_with fail
      go_ret2
      exact ⟨by rw [RV.out]; rfl, below_drewN BL.out _⟩

set_option maxHeartbeats 1000000 in
theorem readDate_no (t : Int) (r : List UInt8) (w : World) (a0 : Addr) (hE : Sent w 0 a0) (h : ¬ (0 ≤ t ∧ t ≤ 253402300799)) :
    Calls Tryd.prog 16 #[.string (strB r), .int .i64 t] w fun e w' => e = .returned (.tuple #[.int .i64 0, errV a0]) ∧ Below w.heap.size w w' := by
  have HE := Lib.hid hE
  clear hE
  go_enter Tryd.func16, Tryd.ntmps16
  go_wp2_with fail
  refine (civil_no t _ _ HE.out.1 h).mono ?_
  rintro e w1 ⟨rfl, hb⟩
  obtain ⟨X, n, rfl⟩ := Below_ext hb
  clear hb
  rw [show errV a0 = .iface 79 (.pointer (some a0)) from rfl]
  unfold Dt.v
  go_wp2_with fail
  go_ret2
  exact ⟨rfl, by repeat (first | exact Below.refl _ _ | refine Below.alloc ?_ (by simp [go_sem]) _ | refine below_ext ?_ (by simp [go_sem]) _ _)⟩
end Go.Proofs.YtmejjhklknhniaaDoor
