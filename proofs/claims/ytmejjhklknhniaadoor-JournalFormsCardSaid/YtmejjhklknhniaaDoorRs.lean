import Derived.Test.YtmejjhklknhniaaDoorTxt
import Derived.Test.YtmejjhklknhniaaDoorCu2
namespace Go.Proofs.YtmejjhklknhniaaDoor
open Go Go.RowKit

def dayT (blank : Bool) (d : Int) : ByteArray := if blank = true ∧ d < 10 then { data := #[32] } ++ (padS 2 d).extract 1 2 else padS 2 d
def ascB (blank : Bool) (D : Dt) : ByteArray := wdB D.wd.toNat ++ { data := #[32] } ++ monB (D.m - 1).toNat ++ { data := #[32] } ++ dayT blank D.d ++ { data := #[32] } ++ clockB D.h D.mi D.s ++ { data := #[32] } ++ padS 4 D.y

set_option maxHeartbeats 4000000 in
theorem asctime_any (blank : Bool) (D : Dt) (w : World) (hd : D.ok) (w0 : 0 ≤ D.wd) (w1 : D.wd ≤ 6) :
    Calls Tryd.prog 40 #[D.v, .bool blank] w fun e w' => e = .returned (.string (ascB blank D)) ∧ Below w.heap.size w w' := by
  have db := days_bd D.y D.m
  obtain ⟨y, m, d, h, mi, s, wd⟩ := D
  obtain ⟨y0, y1, m0, m1, d0, d1, u0, u1, u2, u3, u4, u5⟩ := hd
  simp only at *
  obtain ⟨k, rfl⟩ : ∃ k : Nat, m = k + 1 := ⟨(m - 1).toNat, by omega⟩
  obtain ⟨q, rfl⟩ : ∃ q : Nat, wd = q := ⟨wd.toNat, by omega⟩
  have z1 := padS_size 2 d
  have z2 := padS_size 4 y
  have z3 := monB_size k (by omega)
  have z4 := clockB_size h mi s
  have z5 := wdB_size q (by omega)
  have wr1 : IntKind.i64.wrap (3 * (q : Int)) = 3 * (q : Int) := IntWalk.i64_in _ (by omega)
  have wr2 : IntKind.i64.wrap (3 * (q : Int) + 3) = 3 * (q : Int) + 3 := IntWalk.i64_in _ (by omega)
  have hsl := wd_slice q (by omega)
  have LQ : Hid (ascB blank ⟨y, (k : Int) + 1, d, h, mi, s, (q : Int)⟩ = wdB q ++ { data := #[32] } ++ monB k ++ { data := #[32] } ++ dayT blank d ++ { data := #[32] } ++ clockB h mi s ++ { data := #[32] } ++ padS 4 y) := by
    show _ = _
    unfold ascB
    simp only [Int.toNat_natCast, show ((k : Int) + 1 - 1).toNat = k from by omega]
  unfold Dt.v
  go_enter Tryd.func40, Tryd.ntmps40
  go_wp2_with fail
  refine (digits_any d 2 _ (by omega) (by omega) (by omega) (by omega)).mono ?_
  rintro e w1 ⟨rfl, hb⟩
  generalize hY : w.alloc _ = Y at hb ⊢
  have lY : w.heap.size < Y.heap.size := by rw [← hY]; simp [go_sem]
  have bY : Below w.heap.size w Y := by rw [← hY]; exact (Below.refl _ _).alloc (Nat.le_refl _) _
  have cc : ∀ (i : Nat) v, Y.cell? ⟨w.heap.size, i, none⟩ = some v → w1.cell? ⟨w.heap.size, i, none⟩ = some v := fun i v hv => (hb.cell (p := ⟨w.heap.size, i, none⟩) lY).trans hv
  have c0 : w1.cell? ⟨w.heap.size, 0, none⟩ = some (.int .i64 (y)) := cc _ _ (by rw [← hY]; simp [go_sem])
  have c1 : w1.cell? ⟨w.heap.size, 1, none⟩ = some (.int .i64 ((k : Int) + 1)) := cc _ _ (by rw [← hY]; simp [go_sem])
  have c2 : w1.cell? ⟨w.heap.size, 2, none⟩ = some (.int .i64 (d)) := cc _ _ (by rw [← hY]; simp [go_sem])
  have c3 : w1.cell? ⟨w.heap.size, 3, none⟩ = some (.int .i64 (h)) := cc _ _ (by rw [← hY]; simp [go_sem])
  have c4 : w1.cell? ⟨w.heap.size, 4, none⟩ = some (.int .i64 (mi)) := cc _ _ (by rw [← hY]; simp [go_sem])
  have c5 : w1.cell? ⟨w.heap.size, 5, none⟩ = some (.int .i64 (s)) := cc _ _ (by rw [← hY]; simp [go_sem])
  have c6 : w1.cell? ⟨w.heap.size, 6, none⟩ = some (.int .i64 ((q : Int))) := cc _ _ (by rw [← hY]; simp [go_sem])
  have HB : Hid (Below w.heap.size w w1) := bY.trans (hb.mono bY.size)
  have lt : w.heap.size < w1.heap.size := World.block_lt_of_cell? w1 _ c3
  clear hY hb cc bY lY
  generalize w1 = W at c0 c1 c2 c3 c4 c5 c6 lt HB ⊢
  generalize w.heap.size = b at c0 c1 c2 c3 c4 c5 c6 lt ⊢
  obtain ⟨t, ht, hts⟩ : ∃ t, t = dayT blank d ∧ t.size = 2 := ⟨_, rfl, by unfold dayT; split <;> simp [ByteArray.size_append, z1]; rfl⟩
  rw [← ht] at LQ
  have htb : blank = false ∨ (blank = true ∧ d < 10) ∨ (blank = true ∧ 10 ≤ d) := by cases blank <;> simp <;> omega
  rcases htb with rfl | ⟨rfl, hd10⟩ | ⟨rfl, hd10⟩
  · have ht2 : t = padS 2 d := by rw [ht]; unfold dayT; rw [if_neg (by simp)]
    go_wp2_with fail
    rw [← ht2]
    clear ht ht2
    go_region_held3 (fun w' => Below W.heap.size W w' ∧ ∀ b o, b < W.heap.size → w'.cell? ⟨b, o, none⟩ = W.cell? ⟨b, o, none⟩) (first | (exact ⟨(Below.refl _ _).drew, fun _ _ _ => rfl⟩) | (exact keepS (by assumption) (by assumption)) | assumption | (simp [*]; done))
      (first
        | (go_at_call 46; refine (digits_any _ 4 _ (by omega) (by omega) (by omega) (by omega)).mono ?_; rintro e w' ⟨rfl, hb⟩)
        | (go_at_call 47; refine (month_any k _ (by omega)).mono ?_; rintro e w' ⟨rfl, rfl⟩)
        | (go_at_call 48; refine (refClock_any ⟨y, k + 1, d, h, mi, s, q⟩ _ u0 (by simp only; omega) u2 (by simp only; omega) u4 (by simp only; omega)).mono ?_; rintro e w' ⟨rfl, hb⟩))
    go_wp2
    go_ret
    exact ⟨ret_str LQ.out.symm, HB.out.trans ((by assumption : Below W.heap.size W _ ∧ _).1.mono HB.out.size)⟩
  · have ht2 : t = { data := #[32] } ++ (padS 2 d).extract 1 2 := by rw [ht]; unfold dayT; rw [if_pos ⟨rfl, hd10⟩]
    go_wp2_with fail
    rw [← ht2]
    clear ht ht2
    go_region_held3 (fun w' => Below W.heap.size W w' ∧ ∀ b o, b < W.heap.size → w'.cell? ⟨b, o, none⟩ = W.cell? ⟨b, o, none⟩) (first | (exact ⟨(Below.refl _ _).drew, fun _ _ _ => rfl⟩) | (exact keepS (by assumption) (by assumption)) | assumption | (simp [*]; done))
      (first
        | (go_at_call 46; refine (digits_any _ 4 _ (by omega) (by omega) (by omega) (by omega)).mono ?_; rintro e w' ⟨rfl, hb⟩)
        | (go_at_call 47; refine (month_any k _ (by omega)).mono ?_; rintro e w' ⟨rfl, rfl⟩)
        | (go_at_call 48; refine (refClock_any ⟨y, k + 1, d, h, mi, s, q⟩ _ u0 (by simp only; omega) u2 (by simp only; omega) u4 (by simp only; omega)).mono ?_; rintro e w' ⟨rfl, hb⟩))
    go_wp2
    go_ret
    exact ⟨ret_str LQ.out.symm, HB.out.trans ((by assumption : Below W.heap.size W _ ∧ _).1.mono HB.out.size)⟩
  · have ht2 : t = padS 2 d := by rw [ht]; unfold dayT; rw [if_neg (by omega)]
    go_wp2_with fail
    rw [← ht2]
    clear ht ht2
    go_region_held3 (fun w' => Below W.heap.size W w' ∧ ∀ b o, b < W.heap.size → w'.cell? ⟨b, o, none⟩ = W.cell? ⟨b, o, none⟩) (first | (exact ⟨(Below.refl _ _).drew, fun _ _ _ => rfl⟩) | (exact keepS (by assumption) (by assumption)) | assumption | (simp [*]; done))
      (first
        | (go_at_call 46; refine (digits_any _ 4 _ (by omega) (by omega) (by omega) (by omega)).mono ?_; rintro e w' ⟨rfl, hb⟩)
        | (go_at_call 47; refine (month_any k _ (by omega)).mono ?_; rintro e w' ⟨rfl, rfl⟩)
        | (go_at_call 48; refine (refClock_any ⟨y, k + 1, d, h, mi, s, q⟩ _ u0 (by simp only; omega) u2 (by simp only; omega) u4 (by simp only; omega)).mono ?_; rintro e w' ⟨rfl, hb⟩))
    go_wp2
    go_ret
    exact ⟨ret_str LQ.out.symm, HB.out.trans ((by assumption : Below W.heap.size W _ ∧ _).1.mono HB.out.size)⟩
end Go.Proofs.YtmejjhklknhniaaDoor
