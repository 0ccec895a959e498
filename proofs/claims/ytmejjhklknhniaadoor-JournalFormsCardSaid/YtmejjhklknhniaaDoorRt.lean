import Derived.Test.YtmejjhklknhniaaDoorRm
namespace Go.Proofs.YtmejjhklknhniaaDoor
open Go Go.RowKit
attribute [local go_sem] setCell_put_other

def Dt.at (D : Dt) (s : List UInt8) (a : Nat) : Dt := { D with h := numAt s a 2, mi := numAt s (a + 3) 2, s := numAt s (a + 6) 2 }
def Dt.wdOf (D : Dt) (k : Int) : Dt := { D with wd := k }
open Classical in
noncomputable def timedD (D : Dt) : Dt := if D.ok then D.wdOf ((D.day + 4) % 7) else D.wdOf 6
open Classical in
noncomputable def timedN (D : Dt) : Int := if D.ok then D.sec else -1
theorem wdOf_ok (D : Dt) (k : Int) : (D.wdOf k).ok ↔ D.ok := ⟨fun h => ⟨h.1, h.2, h.3, h.4, h.5, h.6, h.7, h.8, h.9, h.10, h.11, h.12⟩, fun h => ⟨h.1, h.2, h.3, h.4, h.5, h.6, h.7, h.8, h.9, h.10, h.11, h.12⟩⟩
theorem right_wdOf (D : Dt) (k : Int) : Right (D.wdOf k) ↔ D.ok ∧ k = (D.day + 4) % 7 := ⟨fun h => ⟨(wdOf_ok D k).1 h.1, h.2⟩, fun h => ⟨(wdOf_ok D k).2 h.1, h.2⟩⟩

structure TInv (w : World) (b : Nat) (V : World) : Prop where
  below : Below w.heap.size w V
  base : w.heap.size ≤ b
  lt : b + 1 < V.heap.size
theorem TInv.low {w V : World} {b : Nat} (h : TInv w b V) (Z L : List Value) (t u : TypeId) : Below w.heap.size w (put (put V (b + 1) t Z) b u L) :=
  below_put _ _ _ _ (below_put _ _ _ _ h.below (by have := h.base; omega)) h.base
theorem TInv.step {w V W1 : World} {b : Nat} {Z L : List Value} {t u : TypeId} (h : TInv w b V) (hb : Below (put (put V (b + 1) t Z) b u L).heap.size (put (put V (b + 1) t Z) b u L) W1) :
    TInv w b W1 ∧ W1 = put (put W1 (b + 1) t Z) b u L := by
  have hl := h.lt
  have hs : (put (put V (b + 1) t Z) b u L).heap.size = V.heap.size := by rw [size_put, size_put]
  refine ⟨⟨(h.low Z L t u).trans (hb.mono (by rw [hs]; exact h.below.size)), h.base, by have := hb.size; omega⟩, ?_⟩
  have e1 : W1.heap[b]? = some (.cells L.toArray u) := (hb.block b (by rw [hs]; omega)).trans (heap_put _ b u L (by rw [size_put]; omega))
  have e2 : W1.heap[b + 1]? = some (.cells Z.toArray t) := (hb.block (b + 1) (by rw [hs]; omega)).trans ((heap_put_other _ b u L (b + 1) (by omega)).trans (heap_put V (b + 1) t Z hl))
  have i2 := eq_put W1 (b + 1) t Z e2
  rw [← i2]
  exact eq_put W1 b u L e1

theorem refNumber_at (s : List UInt8) (a k : Nat) (ai ki : Int) (hai : ai = (a : Int)) (hki : ki = (k : Int)) (w : World) (hs : s.length ≤ maxLen) (ha : a ≤ 1000) (hk : k ≤ 4) :
    Calls Tryd.prog 36 #[.string (strB s), .int .i64 ai, .int .i64 ki] w fun e w' => e = .returned (.int .i64 (numAt s a k)) ∧ w = w' := by
  subst hai; subst hki; exact refNumber_any s a k w hs ha hk

set_option maxHeartbeats 4000000 in
theorem timed_any (D : Dt) (s : List UInt8) (a : Nat) (ai : Int) (hai : ai = (a : Int)) (w : World) (hs : s.length ≤ maxLen) (ha : a ≤ 900) (hg : MDays 19 w) :
    Calls Tryd.prog 35 #[D.v, .string (strB s), .int .i64 ai] w fun e w' => e = .returned (.tuple #[(timedD (D.at s a)).v, .int .i64 (timedN (D.at s a))]) ∧ Below w.heap.size w w' := by
  have HS := Lib.hid hs
  have HG := Lib.hid hg
  clear hg hs
  obtain ⟨y, m, d, h, mi, sx, wd⟩ := D
  unfold Dt.v
  go_enter Tryd.func35, Tryd.ntmps35
  go_wp2_with fail
  refine (refNumber_at s a 2 _ _ (by omega) (by rfl) _ HS.out (by omega) (by decide)).mono ?_
  rintro e w' ⟨rfl, rfl⟩
  go_wp2_with fail
  refine (refNumber_at s (a + 3) 2 _ _ (by omega) (by rfl) _ HS.out (by omega) (by decide)).mono ?_
  rintro e w' ⟨rfl, rfl⟩
  go_wp2_with fail
  refine (refNumber_at s (a + 6) 2 _ _ (by omega) (by rfl) _ HS.out (by omega) (by decide)).mono ?_
  rintro e w' ⟨rfl, rfl⟩
  go_wp2_with fail
  have HD : Hid ((⟨y, m, d, h, mi, sx, wd⟩ : Dt).at s a = ⟨y, m, d, numAt s a 2, numAt s (a + 3) 2, numAt s (a + 6) 2, wd⟩) := rfl
  generalize hn1 : numAt s a 2 = x1 at HD ⊢
  generalize hn2 : numAt s (a + 3) 2 = x2 at HD ⊢
  generalize hn3 : numAt s (a + 6) 2 = x3 at HD ⊢
  clear hn1 hn2 hn3
  obtain ⟨b, hb⟩ : ∃ b, b = w.heap.size := ⟨_, rfl⟩
  generalize hY : ((w.alloc _).alloc _) = Y
  have hI : TInv w b Y := by
    subst hb
    rw [← hY]
    refine ⟨by repeat (first | exact Below.refl _ _ | refine Below.alloc ?_ (by simp [go_sem]) _), by omega, by simp [go_sem]⟩
  have hp : Y = put (put Y (b + 1) 24 [.int .i64 0, .int .i64 0, .int .i64 0, .int .i64 0, .int .i64 0, .int .i64 0, .int .i64 0]) b 24 [.int .i64 y, .int .i64 m, .int .i64 d, .int .i64 x1, .int .i64 x2, .int .i64 x3, .int .i64 wd] := by
    have e2 : Y.heap[b + 1]? = some (.cells (#[.int .i64 0, .int .i64 0, .int .i64 0, .int .i64 0, .int .i64 0, .int .i64 0, .int .i64 0]) 24) := by
      rw [← hY, hb]
      generalize hz : World.alloc w _ = Z
      have hs : w.heap.size + 1 = Z.heap.size := by rw [← hz]; simp [go_sem]
      rw [hs]
      exact (MapKept.heap_alloc Z _).1
    have e1 : Y.heap[b]? = some (.cells (#[.int .i64 y, .int .i64 m, .int .i64 d, .int .i64 x1, .int .i64 x2, .int .i64 x3, .int .i64 wd]) 24) := by
      rw [← hY, hb, Below.heap_alloc _ _ _ (by simp [go_sem])]
      exact (MapKept.heap_alloc w _).1
    rw [← eq_put Y (b + 1) 24 [.int .i64 0, .int .i64 0, .int .i64 0, .int .i64 0, .int .i64 0, .int .i64 0, .int .i64 0] e2]
    exact eq_put Y b 24 _ e1
  rw [hp, ← hb]
  clear hY hp hb
  go_loopg [8] 8 (fun g v8 wr => ∃ (j : Nat) (V : World) (wk : Int), j ≤ 7 ∧ v8 = .int .i64 (j : Int) ∧ TInv w b V ∧ (∀ i : Nat, i < j → ¬ Right ⟨y, m, d, x1, x2, x3, i⟩) ∧ (0 < j → wk = (j : Int) - 1) ∧ 7 - j < g ∧
    wr = put (put V (b + 1) 24 [.int .i64 0, .int .i64 0, .int .i64 0, .int .i64 0, .int .i64 0, .int .i64 0, .int .i64 0]) b 24 [.int .i64 y, .int .i64 m, .int .i64 d, .int .i64 x1, .int .i64 x2, .int .i64 x3, .int .i64 wk])
  case atStart => exact ⟨0, Y, wd, by omega, rfl, hI, fun i hi => by omega, by omega, by omega, rfl⟩
  case round =>
    obtain ⟨j, V, wk, hj, rfl, hinv, hno, hwk, hgk, rfl⟩ := hrel
    have INV := Lib.hid hinv
    have hlt := hinv.lt
    have hlt0 : b < V.heap.size := by omega
    have NO := Lib.hid hno
    clear hinv hno
    by_cases hl : j < 7
    · by_cases hR : Right ⟨y, m, d, x1, x2, x3, j⟩
      · have HR := Lib.hid hR
        clear hR
        have RV : Hid (timedD ⟨y, m, d, x1, x2, x3, wd⟩ = ⟨y, m, d, x1, x2, x3, j⟩ ∧ timedN ⟨y, m, d, x1, x2, x3, wd⟩ = Dt.sec ⟨y, m, d, x1, x2, x3, j⟩) := by
          show _ ∧ _
          have := (right_wdOf ⟨y, m, d, x1, x2, x3, wd⟩ j).1 HR.out
          rw [timedD, if_pos this.1, timedN, if_pos this.1, ← this.2]
          exact ⟨rfl, rfl⟩
        go_wp2_with fail
        refine (refSeconds_yes ⟨y, m, d, x1, x2, x3, j⟩ _ (HG.out.below (INV.out.low _ _ _ _)) HR.out).mono ?_
        rintro e w1 ⟨rfl, hb1⟩
        have hi2 := INV.out.step hb1
        clear hb1
        obtain ⟨hi3, hw1⟩ := hi2
        rw [hw1]
        have hlt1 := hi3.lt
        have hlt2 : b < w1.heap.size := by omega
        have INV1 := Lib.hid hi3
        clear hi3 hw1
        go_wp2_with fail
        refine bodyPost_ret (v := .tuple #[Dt.v ⟨y, m, d, x1, x2, x3, j⟩, .int .i64 (Dt.sec ⟨y, m, d, x1, x2, x3, j⟩)]) (by unfold Dt.v; simp [results, Tryd.results35, go_sem, hlt1, hlt2]) rfl ⟨?_, ?_⟩
        · rw [HD.out, RV.out.1, RV.out.2]; rfl
        · exact TInv.low (INV1.out) _ _ _ _
      · have HR := Lib.hid hR
        clear hR
        have hno1 : Hid (∀ i : Nat, i < j + 1 → ¬ Right ⟨y, m, d, x1, x2, x3, i⟩) := fun i hi => by
          rcases Nat.lt_or_eq_of_le (Nat.le_of_lt_succ hi) with h | rfl
          · exact NO.out i h
          · exact HR.out
        go_wp2_with fail
        refine (refSeconds_no ⟨y, m, d, x1, x2, x3, j⟩ _ (HG.out.below (INV.out.low _ _ _ _)) HR.out).mono ?_
        rintro e w1 ⟨rfl, hb1⟩
        have hi2 := INV.out.step hb1
        clear hb1
        obtain ⟨hi3, hw1⟩ := hi2
        rw [hw1]
        have hlt1 := hi3.lt
        have hlt2 : b < w1.heap.size := by omega
        have INV1 := Lib.hid hi3
        clear hi3 hw1
        go_wp2_with fail
        go_roundg (7 - (j + 1) + 1)
        case measure => omega
        case rel => exact ⟨j + 1, w1, j, by omega, by go_num, INV1.out, hno1.out, fun _ => by omega, by omega, rfl⟩
    · obtain rfl : j = 7 := by omega
      obtain rfl : wk = 6 := by omega
      have RV : Hid (timedD ⟨y, m, d, x1, x2, x3, wd⟩ = ⟨y, m, d, x1, x2, x3, 6⟩ ∧ timedN ⟨y, m, d, x1, x2, x3, wd⟩ = -1) := by
        show _ ∧ _
        have : ¬ Dt.ok ⟨y, m, d, x1, x2, x3, wd⟩ := fun hok => by
          have e : (((Dt.day ⟨y, m, d, x1, x2, x3, wd⟩ + 4) % 7).toNat : Int) = (Dt.day ⟨y, m, d, x1, x2, x3, wd⟩ + 4) % 7 := by omega
          exact NO.out ((Dt.day ⟨y, m, d, x1, x2, x3, wd⟩ + 4) % 7).toNat (by omega) ((right_wdOf ⟨y, m, d, x1, x2, x3, wd⟩ _).2 ⟨hok, e⟩)
        rw [timedD, if_neg this, timedN, if_neg this]
        exact ⟨rfl, rfl⟩
      go_wp2_with fail
      refine bodyPost_ret (v := .tuple #[Dt.v ⟨y, m, d, x1, x2, x3, 6⟩, .int .i64 (-1)]) (by unfold Dt.v; simp [results, Tryd.results35, go_sem, hlt, hlt0]) rfl ⟨?_, ?_⟩
      · rw [HD.out, RV.out.1, RV.out.2]; rfl
      · exact TInv.low (INV.out) _ _ _ _
end Go.Proofs.YtmejjhklknhniaaDoor
