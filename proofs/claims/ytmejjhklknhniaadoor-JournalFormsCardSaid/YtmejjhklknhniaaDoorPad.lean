import Derived.Test.YtmejjhklknhniaaDoorProg
import Derived.Test.YtmejjhklknhniaaDoorStrs
import Derived.WalkKit
import Derived.Lib.Hide
import Derived.Deep.LoopGhost
namespace Go.Proofs.YtmejjhklknhniaaDoor
open Go Go.RowKit

theorem info5 : (Tryd.prog.info? 5).map (fun i => (i.zero, i.size, i.bytes)) = some (some (.int .u8 0), 1, 1) := by kernel_rfl

set_option maxHeartbeats 400000 in
theorem padded_any (n : Int) (k : Nat) (w : World) (h0 : 0 ≤ n) (h1 : n ≤ 1000000) (k0 : 1 ≤ k) (k1 : k ≤ 4) :
    Calls Tryd.prog 28 #[.int .i64 n, .int .i64 (k : Int)] w fun e w' => e = .returned (.string (padS k n)) ∧ Below w.heap.size w w' := by
  have hm := make_bytes (P := Tryd.prog) 71 5 Tryd.underlying71 info5 k (by omega)
  go_enter Tryd.func28, Tryd.ntmps28
  go_wp2
  clear hm
  go_loopg [0, 6] (k + 1) (fun g v0 v6 wr => ∃ (j : Nat) (m : Int) (l : List UInt8) (L : List Value), j ≤ k ∧ v6 = .int .i64 ((j : Int) - 1) ∧ v0 = .int .i64 m ∧ 0 ≤ m ∧ m ≤ 1000000 ∧ padL k n = padL j m ++ l ∧ j < g ∧
    L = List.replicate j (.int .u8 0) ++ l.map byteV ∧ wr = w.alloc (row 5 L))
  case atStart => exact ⟨k, n, [], _, Nat.le_refl _, rfl, rfl, h0, h1, by simp, by omega, by simp, rfl⟩
  case round =>
    obtain ⟨j, m, l, L, hj, rfl, rfl, m0, m1, hp, hg, hL, rfl⟩ := hrel
    have HP := Lib.hid hp
    have HL := Lib.hid hL
    have hlen : L.length = k := by
      have := congrArg List.length hp
      rw [hL]; simp [padL_length] at this ⊢; omega
    have HN := Lib.hid hlen
    clear hp
    cases j with
    | zero =>
      have hl : l.length = k := by rw [hL] at hlen; simpa using hlen
      have hcv := conv_row (P := Tryd.prog) (w.alloc (row 5 L)) 71 5 9 Tryd.underlying71 Tryd.underlying5 Tryd.underlying9 w.heap.size 0 k k l hl (fun i hi => by
        rw [Nat.zero_add, cell?_row _ _ _ _ _ rfl, hL]; simp [List.getElem?_map, List.getD_eq_getElem?_getD, List.getElem?_eq_getElem (show i < l.length by omega)])
      clear hL hlen hl
      go_wp2
      go_ret
      exact ⟨ret_str (by unfold padS; rw [HP.out]; rfl), (Below.refl _ _).alloc (Nat.le_refl _) _⟩
    | succ j =>
      have hc : L[j]? = some (.int .u8 0) := by rw [hL]; simp [List.getElem?_append, List.getElem?_replicate]
      clear hL hlen
      go_wp2
      go_roundg (gk - 1)
      case measure => omega
      case rel => exact ⟨j, m / 10, UInt8.ofNat (48 + m % 10).toNat :: l, _, by omega, by go_num, rfl, by omega, by omega, by rw [HP.out]; simp [padL], by omega, by
          rw [HL.out, List.map_cons, digit_byteV, List.replicate_succ', List.append_assoc, List.singleton_append, List.set_append_right _ _ (by simp)]; simp, rfl⟩
end Go.Proofs.YtmejjhklknhniaaDoor
