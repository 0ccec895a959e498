/- Letters made small; the bytes of a text one by one. -/
import Derived.Test.YtmeahkijpipgnaaGreatDoorProg
import Derived.Test.YtmeahkijpipgnaaGreatDoorFrow
import Derived.WalkKit
import Derived.Lib.Hide
import Derived.Deep.LoopGhost
namespace Go.Proofs.YtmeahkijpipgnaaGreatDoor
open Go Go.RowKit

def lowc (c : UInt8) : UInt8 := if 65 ≤ c.toNat ∧ c.toNat ≤ 90 then UInt8.ofNat (c.toNat + 32) else c
def lowL (l : List UInt8) : List UInt8 := l.map lowc
theorem lowL_length (l : List UInt8) : (lowL l).length = l.length := by simp [lowL]
theorem lowc_v (c : UInt8) (h : 65 ≤ c.toNat ∧ c.toNat ≤ 90) : byteV (lowc c) = .int .u8 ((c.toNat : Int) + 32) := by
  unfold lowc byteV; rw [if_pos h, UInt8.toNat_ofNat_of_lt' (by show _ < 256; omega)]; simp
theorem lowc_n (c : UInt8) (h : ¬ (65 ≤ c.toNat ∧ c.toNat ≤ 90)) : lowc c = c := by unfold lowc; rw [if_neg h]
/-- The row while it is made small: k bytes are. -/
def lowR (l : List UInt8) (cap k : Nat) : List Value := ((l.take k).map lowc ++ l.drop k).map byteV ++ List.replicate cap (.int .u8 0)
theorem lowR_len (l : List UInt8) (cap k : Nat) : (lowR l cap k).length = l.length + cap := by simp [lowR]; omega
theorem lowR_at (l : List UInt8) (cap k : Nat) (h : k < l.length) : (lowR l cap k)[k]? = some (byteV l[k]) := by
  unfold lowR
  rw [List.getElem?_append_left (by simp; omega), List.getElem?_map, List.getElem?_append_right (by simp; omega)]
  simp [Nat.min_eq_left (Nat.le_of_lt h), List.getElem?_drop, h]
theorem lowR_get (l : List UInt8) (cap k i : Nat) (hi : i < l.length) : (lowR l cap k)[i]? = some (byteV (if i < k then lowc l[i] else l[i])) := by
  unfold lowR
  rw [List.getElem?_append_left (by simp; omega), List.getElem?_map, List.getElem?_append]
  by_cases h : i < k
  · rw [if_pos (by simp; omega), if_pos h, List.getElem?_map, List.getElem?_take, if_pos h, List.getElem?_eq_getElem hi]; rfl
  · rw [if_neg (by simp; omega), if_neg h, List.getElem?_drop]
    have e : k + (i - (List.map lowc (List.take k l)).length) = i := by simp; omega
    rw [e, List.getElem?_eq_getElem hi]; rfl
theorem lowR_out (l : List UInt8) (cap k i : Nat) (hi : l.length ≤ i) : (lowR l cap k)[i]? = (List.replicate cap (Value.int .u8 0))[i - l.length]? := by
  unfold lowR
  rw [List.getElem?_append_right (by simp; omega)]
  congr 1; simp; omega
theorem lowR_set (l : List UInt8) (cap k : Nat) (h : k < l.length) : (lowR l cap k).set k (byteV (lowc l[k])) = lowR l cap (k + 1) := by
  apply List.ext_getElem?
  intro i
  rw [List.getElem?_set]
  by_cases e : k = i
  · subst e
    rw [if_pos rfl, if_pos (by rw [lowR_len]; omega), lowR_get l cap (k + 1) k h, if_pos (by omega)]
  · rw [if_neg e]
    by_cases hi : i < l.length
    · rw [lowR_get l cap k i hi, lowR_get l cap (k + 1) i hi]
      by_cases hk : i < k
      · rw [if_pos hk, if_pos (by omega)]
      · rw [if_neg hk, if_neg (by omega)]
    · rw [lowR_out l cap k i (by omega), lowR_out l cap (k + 1) i (by omega)]
theorem lowR_end (l : List UInt8) (cap : Nat) : lowR l cap l.length = (lowL l).map byteV ++ List.replicate cap (.int .u8 0) := by simp [lowR, lowL]
theorem lowR_same (l : List UInt8) (cap k : Nat) (h : k < l.length) (hn : lowc l[k] = l[k]) : lowR l cap k = lowR l cap (k + 1) := by
  rw [← lowR_set l cap k h, hn]
  apply List.ext_getElem?
  intro i
  rw [List.getElem?_set]
  by_cases e : k = i
  · subst e; rw [if_pos rfl, lowR_at l cap k h, if_pos (by rw [lowR_len]; omega)]
  · rw [if_neg e]

set_option maxHeartbeats 1600000 in
theorem low_any (l : List UInt8) (w : World) (hl : l.length ≤ maxLen) :
    Calls Tryz.prog 40 #[.string (strB l)] w fun e w' => e = .returned (.string (strB (lowL l))) ∧ Below w.heap.size w w' := by
  obtain ⟨cap, hcv⟩ := run_bytes_frow (P := Tryz.prog) w 9 85 5 l Tryz.underlying9 Tryz.underlying85 Tryz.underlying5
  unfold maxLen at hl
  have e0 : l.map byteV ++ List.replicate cap (.int .u8 0) = lowR l cap 0 := by simp [lowR]
  rw [e0] at hcv
  clear e0
  go_enter Tryz.func40, Tryz.ntmps40
  go_wp2
  clear hcv
  go_loopg [10] (l.length + 1) (fun g v10 wr => ∃ k : Nat, k ≤ l.length ∧ v10 = .int .i64 (k : Int) ∧ wr = (w.alloc (frow 5 (lowR l cap k) (l.length + cap))).drew ∧ l.length - k < g)
  case atStart => exact ⟨0, by omega, rfl, rfl, by omega⟩
  case round =>
    obtain ⟨k, hk, rfl, rfl, hg⟩ := hrel
    have hlen := lowR_len l cap k
    by_cases hlt : k < l.length
    · have hc : (lowR l cap k)[k]? = some (.int .u8 (l[k].toNat : Int)) := lowR_at l cap k hlt
      have hcz : l[k].toNat < 256 := UInt8.toNat_lt _
      have hkl : k < l.length + cap := by omega
      by_cases h0 : 65 ≤ l[k].toNat ∧ l[k].toNat ≤ 90
      · obtain ⟨h1, h2⟩ := h0
        have ST : Hid ((lowR l cap k).set k (.int .u8 ((l[k].toNat : Int) + 32)) = lowR l cap (k + 1)) := by
          rw [← lowc_v _ ⟨h1, h2⟩]; exact lowR_set l cap k hlt
        have g1 : decide (65 ≤ (l[k].toNat : Int)) = true := by simp; omega
        have g2 : decide ((l[k].toNat : Int) ≤ 90) = true := by simp; omega
        clear hlen
        go_wp2
        rw [show ((l[k].toNat : Int) + 97 - 65) = (l[k].toNat : Int) + 32 from by omega, ST.out]
        go_roundg (gk - 1)
        case measure => omega
        case rel => exact ⟨k + 1, by omega, by go_num, rfl, by omega⟩
      · have ST := Lib.hid (lowR_same l cap k hlt (lowc_n _ h0))
        have g3 : (decide (65 ≤ (l[k].toNat : Int)) = false) ∨ (decide (65 ≤ (l[k].toNat : Int)) = true ∧ decide ((l[k].toNat : Int) ≤ 90) = false) := by simp; omega
        clear hlen h0
        rcases g3 with g1 | ⟨g1, g2⟩
        all_goals
          go_wp2
          rw [ST.out]
          go_roundg (gk - 1)
          case measure => omega
          case rel => exact ⟨k + 1, by omega, by go_num, rfl, by omega⟩
    · obtain rfl : k = l.length := by omega
      have hcv := conv_row (P := Tryz.prog) ((w.alloc (frow 5 (lowR l cap l.length) (l.length + cap))).drew) 85 5 9 Tryz.underlying85 Tryz.underlying5 Tryz.underlying9 w.heap.size 0 l.length (l.length + cap) (lowL l) (lowL_length l) (fun i hi => by
        rw [Nat.zero_add]
        have : ((w.alloc (frow 5 (lowR l cap l.length) (l.length + cap))).drew).cell? ⟨w.heap.size, i, none⟩ = (lowR l cap l.length)[i]? := by simp [go_sem]
        rw [this, lowR_get l cap l.length i hi, if_pos hi]
        simp [lowL, List.getD_eq_getElem?_getD, hi])
      clear hlen
      go_wp2
      go_ret
      exact ⟨rfl, ((Below.refl _ _).alloc (Nat.le_refl _) _).drew⟩
end Go.Proofs.YtmeahkijpipgnaaGreatDoor
