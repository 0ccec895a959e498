import Derived.Test.YtmejjhklknhniaaDoorPad
namespace Go.Proofs.YtmejjhklknhniaaDoor
open Go Go.RowKit

set_option maxHeartbeats 1000000 in
theorem digits_any (n : Int) (k : Nat) (w : World) (h0 : 0 ≤ n) (h1 : n ≤ 1000000) (k0 : 1 ≤ k) (k1 : k ≤ 4) :
    Calls Tryd.prog 46 #[.int .i64 n, .int .i64 (k : Int)] w fun e w' => e = .returned (.string (padS k n)) ∧ Below w.heap.size w w' := by
  obtain ⟨i0, hi, hz0, hz1, hz2⟩ := info_parts info5
  have HI := Lib.hid hi; have HZ0 := Lib.hid hz0; have HZ1 := Lib.hid hz1; have HZ2 := Lib.hid hz2
  clear hi hz0 hz1 hz2
  go_enter Tryd.func46, Tryd.ntmps46
  go_wp2
  go_loopg [5, 6] 5 (fun g v5 v6 wr => ∃ j : Nat, j ≤ k ∧ v6 = .int .i64 j ∧ wr.ownsRow w.heap.size 5 1 v5 j (List.replicate j (.int .u8 48)) ∧ Below w.heap.size w wr ∧ k - j < g)
  case atStart => exact ⟨0, by omega, rfl, World.ownsRow_nil _ _ _ _, Below.refl _ _, by omega⟩
  case round =>
    obtain ⟨j, hj, rfl, hown, hb, hg⟩ := hrel
    have HOWN := Lib.hid hown
    have HB := Lib.hid hb
    have hsz := hb.size
    clear hown hb
    by_cases hlt : j < k
    · go_wp2_with (at_builtin; refine wpList_append_own _ rfl _ _ 71 rfl w.heap.size 5 i0 (.int .u8 0) 1 1 Tryd.underlying71 HI.out HZ0.out HZ1.out HZ2.out rfl (by decide) _ _ _ rfl (HOWN.out.alloc _) ⟨wr.heap.size, 0, none⟩ 1 1 [.int .u8 48] rfl rfl ?c1 ?c2 ?c3 ?c4 ?c5 ?_)
      case c1 => intro i u h; cases i with
        | zero => simp at h; subst h; simp [Addr.add]
        | succ i => simp at h
      case c2 => simp [Value.oneCell']
      case c3 => simp [maxLen]; omega
      case c4 => omega
      case c5 => simp; omega
      intro v' w1 hown1 hgrow _
      have hb1 : Below w.heap.size w w1 := (HB.out.alloc (by omega) _).grown hgrow (by simp; omega) (fun k hk => (HOWN.out.lt k hk).1)
      have HO1 := Lib.hid hown1
      have HB1 := Lib.hid hb1
      clear hown1 hgrow hb1
      go_wp2
      go_roundg (gk - 1)
      case measure => omega
      case rel => exact ⟨j + 1, by omega, by go_num, by rw [List.replicate_succ']; exact HO1.out, HB1.out, by omega⟩
    · obtain rfl : k = j := by omega
      obtain ⟨g, cap, rfl⟩ : ∃ g cap, u5 = .slice (some ⟨g, 0, none⟩) k cap := by
        rcases HOWN.out.2 with ⟨_, h⟩ | ⟨g, cap, _, h, _⟩
        · omega
        · exact ⟨g, cap, h⟩
      go_wp2
      go_loopg [0, 7] (k + 1) (fun ga v0 v7 wx => ∃ (j : Nat) (m : Int) (l : List UInt8) (L : List Value), j ≤ k ∧ v7 = .int .i64 ((j : Int) - 1) ∧ v0 = .int .i64 m ∧ 0 ≤ m ∧ m ≤ 1000000 ∧ padL k n = padL j m ++ l ∧ j < ga ∧
        L = List.replicate j (.int .u8 48) ++ l.map byteV ∧ wx.ownsRow w.heap.size 5 1 (.slice (some ⟨g, 0, none⟩) k cap) k L ∧ Below w.heap.size w wx)
      case atStart => exact ⟨k, n, [], _, Nat.le_refl _, rfl, rfl, h0, h1, by simp, by omega, by simp, HOWN.out, HB.out⟩
      case round =>
        obtain ⟨j, m, l, L, hj, rfl, rfl, m0, m1, hp, hga, hL, hox, hbx⟩ := hrel
        have HP := Lib.hid hp
        have HL := Lib.hid hL
        have HOX := Lib.hid hox
        have HBX := Lib.hid hbx
        have hlen : L.length = k := by simpa using hox.1
        clear hp hox hbx
        cases j with
        | zero =>
          have hl : l.length = k := by rw [hL] at hlen; simpa using hlen
          have hcv := conv_row (P := Tryd.prog) wr 71 5 9 Tryd.underlying71 Tryd.underlying5 Tryd.underlying9 g 0 k cap l hl (fun i hi => by
            rw [Nat.zero_add, HOX.out.cellAt i (by omega), hL]; simp [List.getElem?_map, List.getD_eq_getElem?_getD, List.getElem?_eq_getElem (show i < l.length by omega)])
          clear hL hlen hl
          go_wp2
          go_ret
          exact ⟨ret_str (by unfold padS; rw [HP.out]; rfl), HBX.out⟩
        | succ j =>
          have hc : wr.cell? ⟨g, j, none⟩ = some (.int .u8 48) := by rw [HOX.out.cellAt j (by omega), hL]; simp [List.getElem?_append, List.getElem?_replicate]
          have hf : wr.frozen? ⟨g, j, none⟩ = false := HOX.out.frozenAt j
          clear hL hlen
          go_wp2
          have hst := HOX.out.stored j (.int .u8 (48 + m % 10))
          have hgb := (HOX.out.lt g rfl).1
          go_roundg (gk - 1)
          case measure => omega
          case rel => exact ⟨j, m / 10, UInt8.ofNat (48 + m % 10).toNat :: l, List.replicate j (Value.int .u8 48) ++ (.int .u8 (48 + m % 10) :: List.map byteV l), by omega, by go_num, rfl, by omega, by omega, by rw [HP.out]; simp [padL], by omega, by
            rw [List.map_cons, digit_byteV], by
            have e : (List.replicate (j + 1) (Value.int .u8 48) ++ List.map byteV l).set j (.int .u8 (48 + m % 10)) = List.replicate j (Value.int .u8 48) ++ (.int .u8 (48 + m % 10) :: List.map byteV l) := by
              rw [List.replicate_succ', List.append_assoc, List.singleton_append, List.set_append_right _ _ (by simp)]; simp
            have h1 := hst.1
            rw [HL.out, e] at h1
            exact h1, HBX.out.setCell hgb _⟩
end Go.Proofs.YtmejjhklknhniaaDoor
