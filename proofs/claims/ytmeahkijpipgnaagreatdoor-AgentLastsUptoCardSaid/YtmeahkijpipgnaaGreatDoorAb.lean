/- Prefixes, picking, places, words. -/
import Derived.Test.YtmeahkijpipgnaaGreatDoorAa
import Derived.Test.YtmeahkijpipgnaaGreatDoorStrs2
import Derived.BigQuiet
namespace Go.Proofs.YtmeahkijpipgnaaGreatDoor
open Go Go.RowKit

set_option maxHeartbeats 400000 in
theorem hasPrefix_any (l q : List UInt8) (w : World) (hl : l.length ≤ maxLen) (hq : q.length ≤ maxLen) :
    Calls Tryz.prog 90 #[.string (strB l), .string (strB q)] w fun e w' => e = .returned (.bool (q.isPrefixOf l)) ∧ w = w' := by
  unfold maxLen at hl hq
  by_cases h : q.length ≤ l.length
  · have E := Lib.hid (isPrefixOf_take q l h)
    have hd : decide (q.length ≤ l.length) = true := by simpa using h
    go_enter Tryz.func90, Tryz.ntmps90
    go_wp2
    go_ret
    exact ⟨ret_bool (by rw [← E.out]), rfl⟩
  · have E := Lib.hid (isPrefixOf_short q l (by omega))
    have hd : decide (q.length ≤ l.length) = false := by simpa using h
    go_enter Tryz.func90, Tryz.ntmps90
    go_wp2
    go_ret
    exact ⟨ret_bool (by rw [E.out]), rfl⟩

set_option maxHeartbeats 400000 in
theorem stringsHasPrefix_any (l q : List UInt8) (w : World) (hl : l.length ≤ maxLen) (hq : q.length ≤ maxLen) :
    Calls Tryz.prog 59 #[.string (strB l), .string (strB q)] w fun e w' => e = .returned (.bool (q.isPrefixOf l)) ∧ w = w' := by
  go_enter Tryz.func59, Tryz.ntmps59
  go_wp2_with (go_at_call 90; refine (hasPrefix_any _ _ _ hl hq).mono ?_; rintro e w' ⟨rfl, rfl⟩)
  go_ret
  exact ⟨rfl, rfl⟩

set_option maxHeartbeats 400000 in
theorem liteCutPrefix_any (l q : List UInt8) (w : World) (hl : l.length ≤ maxLen) (hq : q.length ≤ maxLen) :
    Calls Tryz.prog 131 #[.string (strB l), .string (strB q)] w fun e w' => e = .returned (.tuple #[.string (strB (cutR l q)), .bool (q.isPrefixOf l)]) ∧ w = w' := by
  have HL := Lib.hid hl
  have HQ := Lib.hid hq
  unfold maxLen at hl hq
  cases hp : q.isPrefixOf l with
  | true =>
    have h : q.length ≤ l.length := (List.isPrefixOf_iff_prefix.1 hp).length_le
    have e : cutR l q = l.drop q.length := by unfold cutR; rw [if_pos hp]
    have E := Lib.hid e; clear e
    go_enter Tryz.func131, Tryz.ntmps131
    go_wp2_with (go_at_call 90; refine (hasPrefix_any _ _ _ HL.out HQ.out).mono ?_; rintro e w' ⟨rfl, rfl⟩)
    go_ret2
    exact ⟨by rw [E.out]; rfl, rfl⟩
  | false =>
    have e : cutR l q = l := by unfold cutR; rw [hp]; rfl
    have E := Lib.hid e; clear e
    go_enter Tryz.func131, Tryz.ntmps131
    go_wp2_with (go_at_call 90; refine (hasPrefix_any _ _ _ HL.out HQ.out).mono ?_; rintro e w' ⟨rfl, rfl⟩)
    go_ret2
    exact ⟨by rw [E.out]; rfl, rfl⟩

set_option maxHeartbeats 400000 in
theorem pick_any (k n : Int) (w : World) (n0 : 1 ≤ n) (n1 : n ≤ 4611686018427387904) :
    Calls Tryz.prog 10 #[.int .i64 k, .int .i64 n] w fun e w' => e = .returned (.int .i64 (k % n)) ∧ w = w' := by
  have hq : k.tmod n = k % n ∨ k.tmod n = k % n - n := by
    rcases Int.lt_or_le k 0 with h | h
    · have := Int.emod_nonneg k (b := n) (by omega)
      have := Int.emod_lt_of_pos k (b := n) (by omega)
      have h3 : k.tmod n = if 0 ≤ k ∨ n ∣ k then k % n else k % n - n := by
        rw [Int.tmod_eq_emod]; have : (n.natAbs : Int) = n := by omega
        split <;> simp_all
      rw [h3]; split <;> simp
    · exact .inl (Int.tmod_eq_emod_of_nonneg h)
  have hb0 := Int.emod_nonneg k (b := n) (by omega)
  have hb1 := Int.emod_lt_of_pos k (b := n) (by omega)
  have HQ := Lib.hid hq
  clear hq
  go_enter Tryz.func10, Tryz.ntmps10
  go_wp2
  · have h : k.tmod n < 0 := by assumption
    go_ret
    refine ⟨ret_int ?_, rfl⟩
    have e := HQ.out
    rw [wrapId _ (by omega) (by omega)]
    omega
  · have h : 0 ≤ k.tmod n := by assumption
    go_ret
    refine ⟨ret_int ?_, rfl⟩
    have e := HQ.out
    omega

/-- Is it a place on the server? -/
def okc (c : UInt8) : Bool := decide (33 ≤ c.toNat) && decide (c.toNat ≤ 126)
def placeB (l : List UInt8) : Bool := l.all okc && ([47].isPrefixOf l && !([47, 47].isPrefixOf l) && !([47, 92].isPrefixOf l))
theorem okc_and (c : UInt8) : okc c = true ↔ 33 ≤ c.toNat ∧ c.toNat ≤ 126 := by simp [okc]
set_option maxHeartbeats 1600000 in
theorem place_any (l : List UInt8) (w : World) (hl : l.length ≤ maxLen) :
    Calls Tryz.prog 28 #[.string (strB l)] w fun e w' => e = .returned (.bool (placeB l)) ∧ w = w' := by
  have P1 : Hid (∀ W : World, Calls Tryz.prog 59 #[.string (strB l), .string { data := #[47] }] W fun e w' => e = .returned (.bool ([47].isPrefixOf l)) ∧ W = w') := fun W => stringsHasPrefix_any l [47] W hl (by decide)
  have P2 : Hid (∀ W : World, Calls Tryz.prog 59 #[.string (strB l), .string { data := #[47, 47] }] W fun e w' => e = .returned (.bool ([47, 47].isPrefixOf l)) ∧ W = w') := fun W => stringsHasPrefix_any l [47, 47] W hl (by decide)
  have P3 : Hid (∀ W : World, Calls Tryz.prog 59 #[.string (strB l), .string { data := #[47, 92] }] W fun e w' => e = .returned (.bool ([47, 92].isPrefixOf l)) ∧ W = w') := fun W => stringsHasPrefix_any l [47, 92] W hl (by decide)
  have HB : Hid (placeB l = (l.all okc && ([47].isPrefixOf l && !([47, 47].isPrefixOf l) && !([47, 92].isPrefixOf l)))) := rfl
  generalize [47].isPrefixOf l = b1 at *
  generalize [47, 47].isPrefixOf l = b2 at *
  generalize [47, 92].isPrefixOf l = b3 at *
  generalize placeB l = pb at *
  unfold maxLen at hl
  go_enter Tryz.func28, Tryz.ntmps28
  go_wp2
  go_loopg [6] (l.length + 1) (fun g v6 wr => ∃ k : Nat, k ≤ l.length ∧ v6 = .int .i64 (k : Int) ∧ wr = w ∧ (l.take k).all okc = true ∧ l.length - k < g)
  case atStart => exact ⟨0, by omega, rfl, rfl, by simp, by omega⟩
  case round =>
    obtain ⟨k, hk, rfl, rfl, ha, hg⟩ := hrel
    have HA := Lib.hid ha
    clear ha
    by_cases hlt : k < l.length
    · have hcz : l[k].toNat < 256 := UInt8.toNat_lt _
      by_cases h0 : okc l[k] = true
      · have h1 := (okc_and _).1 h0
        have HA' : Hid ((l.take (k + 1)).all okc = true) := by
          show _ = true
          rw [List.take_succ_eq_append_getElem hlt, List.all_append, HA.out]; simp [h0]
        have g1 : decide ((l[k].toNat : Int) < 33) = false := by simp; omega
        have g2 : decide (126 < (l[k].toNat : Int)) = false := by simp; omega
        clear h0 h1
        go_wp2
        go_roundg (gk - 1)
        case measure => omega
        case rel => exact ⟨k + 1, by omega, by go_num, rfl, HA'.out, by omega⟩
      · have FB : Hid (pb = false) := by
          show _ = false
          rw [HB.out]
          have : l.all okc = false := by
            rw [← Bool.not_eq_true]; intro h; exact h0 (List.all_eq_true.1 h _ (List.getElem_mem hlt))
          rw [this]; rfl
        have h1 : ¬ (33 ≤ l[k].toNat ∧ l[k].toNat ≤ 126) := fun h => h0 ((okc_and _).2 h)
        have g3 : (decide ((l[k].toNat : Int) < 33) = true) ∨ (decide ((l[k].toNat : Int) < 33) = false ∧ decide (126 < (l[k].toNat : Int)) = true) := by simp; omega
        clear h0 h1
        rcases g3 with g1 | ⟨g1, g2⟩
        all_goals
          go_wp2
          go_ret
          exact ⟨ret_bool FB.out.symm, rfl⟩
    · obtain rfl : k = l.length := by omega
      have HA2 : Hid (pb = (b1 && !b2 && !b3)) := by
        show _ = _
        rw [HB.out, ← List.take_length (l := l), HA.out]; rfl
      cases b1
      · go_wp2_with fail
        refine (P1.out _).mono ?_
        rintro e w1 ⟨rfl, rfl⟩
        go_wp2_with fail
        go_ret
        exact ⟨ret_bool (by rw [HA2.out]; rfl), rfl⟩
      · cases b2
        · go_wp2_with fail
          refine (P1.out _).mono ?_
          rintro e w1 ⟨rfl, rfl⟩
          go_wp2_with fail
          refine (P2.out _).mono ?_
          rintro e w1 ⟨rfl, rfl⟩
          go_wp2_with fail
          refine (P3.out _).mono ?_
          rintro e w1 ⟨rfl, rfl⟩
          go_wp2_with fail
          go_ret
          exact ⟨ret_bool (by rw [HA2.out]; cases b3 <;> rfl), rfl⟩
        · go_wp2_with fail
          refine (P1.out _).mono ?_
          rintro e w1 ⟨rfl, rfl⟩
          go_wp2_with fail
          refine (P2.out _).mono ?_
          rintro e w1 ⟨rfl, rfl⟩
          go_wp2_with fail
          go_ret
          exact ⟨ret_bool (by rw [HA2.out]; rfl), rfl⟩
end Go.Proofs.YtmeahkijpipgnaaGreatDoor
