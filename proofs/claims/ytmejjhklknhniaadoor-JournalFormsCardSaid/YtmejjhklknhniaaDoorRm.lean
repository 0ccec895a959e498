import Derived.Test.YtmejjhklknhniaaDoorRn
namespace Go.Proofs.YtmejjhklknhniaaDoor
open Go Go.RowKit

theorem slice_str (s : List UInt8) (a b : Nat) (hab : a ≤ b) (hb : b ≤ s.length) (hs : s.length ≤ maxLen) (W : World) :
    (Instr.slice 9 (.string (strB s)) (some (.int .i64 (a : Int))) (some (.int .i64 (b : Int))) none).run Tryd.prog W = .ok (.string (strB ((s.take b).drop a))) W := by
  unfold maxLen at hs
  simp [go_sem, hab, hb]

set_option maxHeartbeats 1600000 in
theorem monthAt_any (s : List UInt8) (a : Nat) (w : World) (hs : s.length ≤ maxLen) (ha : a ≤ 1000) :
    Calls Tryd.prog 37 #[.string (strB s), .int .i64 (a : Int)] w fun e w' => e = .returned (.int .i64 (monAt s a : Int)) ∧ ∃ n, w' = w.drewN n := by
  have HS := Lib.hid hs
  unfold maxLen at hs
  go_enter Tryd.func37, Tryd.ntmps37
  go_wp2
  go_loopg [5] 14 (fun g v5 wr => ∃ (j : Nat) (n : Nat), j ≤ 12 ∧ v5 = .int .i64 ((j : Int) + 1) ∧ (a + 3 ≤ s.length → monAt s a = monFind ((s.take (a + 3)).drop a) (monT.drop j) (j + 1)) ∧ 13 - j < g ∧ wr = w.drewN n)
  case atStart => exact ⟨0, 0, by omega, rfl, fun h => by rw [monAt, if_pos h]; rfl, by omega, rfl⟩
  case round =>
    obtain ⟨j, n, hj, rfl, hm, hg, rfl⟩ := hrel
    have HM := Lib.hid hm
    clear hm
    by_cases hlt : j < 12
    · have MQ : Hid (monT.drop j = monT.getD j [] :: monT.drop (j + 1)) := by
        show _ = _
        have : j < monT.length := hlt
        rw [List.drop_eq_getElem_cons this, List.getD_eq_getElem?_getD, List.getElem?_eq_getElem this]; rfl
      have MA : Hid (∀ W, Calls Tryd.prog 47 #[.int .i64 ((j : Int) + 1)] W fun e w' => e = .returned (.string (strB (monT.getD j []))) ∧ W = w') := fun W => month_any j W hlt
      generalize monT.getD j [] = q at MQ MA
      have wr : IntKind.i64.wrap ((a : Int) + 3) = (a : Int) + 3 := IntWalk.i64_in _ (by omega)
      by_cases hl : a + 3 ≤ s.length
      · have lt : decide ((a : Int) + 3 ≤ (s.length : Int)) = true := by simp; omega
        have hsl : ∀ W, (Instr.slice 9 (.string (strB s)) (some (.int .i64 (a : Int))) (some (.int .i64 ((a : Int) + 3))) none).run Tryd.prog W = .ok (.string (strB ((s.take (a + 3)).drop a))) W := fun W => slice_str s a (a + 3) (by omega) hl HS.out W
        obtain ⟨x, hx⟩ : ∃ x, x = (s.take (a + 3)).drop a := ⟨_, rfl⟩
        rw [← hx] at hsl
        have HX := Lib.hid hx
        clear hx
        cases hq : (x == q) with
        | true =>
          have E : Hid (monAt s a = j + 1) := by
            show _ = _
            rw [HM.out hl, MQ.out, monFind, ← HX.out, if_pos hq]
          go_wp2_with fail
          go_quiet ((go_at_call 47; exact quiet_add_left (MA.out _)))
          go_wp2_with fail
          go_ret
          exact ⟨ret_int (by rw [E.out]; rfl), _, World.drewN_drewN _ _ _⟩
        | false =>
          have E : Hid (monAt s a = monFind ((s.take (a + 3)).drop a) (monT.drop (j + 1)) (j + 1 + 1)) := by
            show _ = _
            rw [HM.out hl, MQ.out, monFind, ← HX.out, if_neg (by rw [hq]; decide)]
          go_wp2_with fail
          go_quiet ((go_at_call 47; exact quiet_add_left (MA.out _)))
          go_wp2_with fail
          go_roundg (13 - (j + 1) + 1)
          case measure => omega
          case rel => exact ⟨j + 1, _, by omega, by go_num, fun _ => E.out, by omega, rfl⟩
      · have lt : decide ((a : Int) + 3 ≤ (s.length : Int)) = false := by simp; omega
        go_wp2_with fail
        go_quiet ((go_at_call 47; exact quiet_add_left (MA.out _)))
        go_wp2_with fail
        go_roundg (13 - (j + 1) + 1)
        case measure => omega
        case rel => exact ⟨j + 1, _, by omega, by go_num, fun h => absurd h hl, by omega, rfl⟩
    · obtain rfl : j = 12 := by omega
      have E : Hid (monAt s a = 1) := by
        show _ = _
        by_cases hl : a + 3 ≤ s.length
        · rw [HM.out hl]; rfl
        · rw [monAt, if_neg hl]
      go_wp2_with fail
      go_ret
      exact ⟨ret_int (by rw [E.out]; rfl), _, rfl⟩
end Go.Proofs.YtmejjhklknhniaaDoor
