import Derived.Test.YtmejjhklknhniaaDoorRb
import Derived.Test.YtmejjhklknhniaaDoorTxt
import Derived.Test.YtmejjhklknhniaaDoorStrs2
import Derived.Test.YtmejjhklknhniaaDoorPut
namespace Go.Proofs.YtmejjhklknhniaaDoor
open Go Go.RowKit

/-- The number that the reference reads off so many bytes, whatever they are. -/
def foldN (l : List UInt8) (n : Int) : Int := l.foldl (fun n c => 10 * n + (c.toNat : Int) - 48) n
def numAt (s : List UInt8) (a k : Nat) : Int := foldN ((s.drop a).take k) 0
theorem foldN_bd : ∀ (l : List UInt8) (n B : Int), 0 ≤ B → -B ≤ n → n ≤ B → -((B + 23) * 10 ^ l.length - 23) ≤ foldN l n ∧ foldN l n ≤ (B + 23) * 10 ^ l.length - 23
  | [], n, B, h, h0, h1 => by simp [foldN]; omega
  | c :: l, n, B, h, h0, h1 => by
    have hc := c.toNat_lt
    have ih := foldN_bd l (10 * n + (c.toNat : Int) - 48) (10 * B + 207) (by omega) (by omega) (by omega)
    have e : (10 * B + 207 + 23) * 10 ^ l.length = (B + 23) * 10 ^ (c :: l).length := by
      rw [List.length_cons, Int.pow_succ, Int.mul_comm (10 ^ l.length) 10, ← Int.mul_assoc]; congr 1; omega
    rw [e] at ih
    exact ih
theorem numAt_bd (s : List UInt8) (a k : Nat) (hk : k ≤ 4) : -229977 ≤ numAt s a k ∧ numAt s a k ≤ 229977 := by
  have h := foldN_bd ((s.drop a).take k) 0 0 (by omega) (by omega) (by omega)
  have hl : ((s.drop a).take k).length ≤ 4 := by simp; omega
  have p : ((s.drop a).take k).length = 0 ∨ ((s.drop a).take k).length = 1 ∨ ((s.drop a).take k).length = 2 ∨ ((s.drop a).take k).length = 3 ∨ ((s.drop a).take k).length = 4 := by omega
  unfold numAt
  rcases p with p | p | p | p | p <;> rw [p] at h <;> simp at h <;> omega
theorem numAt_bd2 (s : List UInt8) (a : Nat) : -2277 ≤ numAt s a 2 ∧ numAt s a 2 ≤ 2277 := by
  have h := foldN_bd ((s.drop a).take 2) 0 0 (by omega) (by omega) (by omega)
  have p : ((s.drop a).take 2).length = 0 ∨ ((s.drop a).take 2).length = 1 ∨ ((s.drop a).take 2).length = 2 := by simp; omega
  unfold numAt
  rcases p with p | p | p <;> rw [p] at h <;> simp at h <;> omega

set_option maxHeartbeats 1600000 in
theorem refNumber_any (s : List UInt8) (a k : Nat) (w : World) (hs : s.length ≤ maxLen) (ha : a ≤ 1000) (hk : k ≤ 4) :
    Calls Tryd.prog 36 #[.string (strB s), .int .i64 (a : Int), .int .i64 (k : Int)] w fun e w' => e = .returned (.int .i64 (numAt s a k)) ∧ w = w' := by
  unfold maxLen at hs
  go_enter Tryd.func36, Tryd.ntmps36
  go_wp2
  go_loopg [7, 8] (k + 1) (fun g v7 v8 wr => ∃ (j : Nat) (n : Int), j ≤ k ∧ v8 = .int .i64 ((a + j : Nat) : Int) ∧ v7 = .int .i64 n ∧ numAt s a k = foldN ((s.drop (a + j)).take (k - j)) n ∧ -((23 * 10 ^ j) - 23) ≤ n ∧ n ≤ 23 * 10 ^ j - 23 ∧ k - j < g ∧ wr = w)
  case atStart => exact ⟨0, 0, by omega, rfl, rfl, rfl, by simp, by simp, by omega, rfl⟩
  case round =>
    obtain ⟨j, n, hj, rfl, rfl, hn, n0, n1, hg, rfl⟩ := hrel
    have p4 : j ≤ 3 → (10 : Int) ^ j ≤ 1000 := fun h => by
      have : j = 0 ∨ j = 1 ∨ j = 2 ∨ j = 3 := by omega
      rcases this with rfl | rfl | rfl | rfl <;> decide
    have hps : (10 : Int) ^ (j + 1) = 10 * 10 ^ j := by rw [Int.pow_succ]; omega
    have HN := Lib.hid hn
    clear hn
    obtain ⟨i, hi⟩ : ∃ i, i = a + j := ⟨_, rfl⟩
    rw [← hi]
    by_cases hlt : j < k
    · have hp := p4 (by omega)
      have nn0 : -22977 ≤ n := by omega
      have nn1 : n ≤ 22977 := by omega
      have c1 : i < a + k := by omega
      have hib : i ≤ 1004 := by omega
      by_cases hl : i < s.length
      · have hcl := (s[i]).toNat_lt
        have HNX : Hid (-((23 * 10 ^ (j + 1)) - 23) ≤ 10 * n + (s[i].toNat : Int) - 48 ∧ 10 * n + (s[i].toNat : Int) - 48 ≤ 23 * 10 ^ (j + 1) - 23) := by
          show _ ∧ _
          rw [hps]; omega
        have E : Hid (foldN ((s.drop (a + j)).take (k - j)) n = foldN ((s.drop (a + (j + 1))).take (k - (j + 1))) (10 * n + (s[i].toNat : Int) - 48)) := by
          show _ = _
          obtain ⟨k', hk'⟩ : ∃ k', k - j = k' + 1 := ⟨k - j - 1, by omega⟩
          rw [hk', show k - (j + 1) = k' by omega, ← hi, show a + (j + 1) = i + 1 by omega, List.drop_eq_getElem_cons hl, List.take_succ_cons]
          rfl
        have HI := Lib.hid hi
        clear hp p4 hps n0 n1 hi
        go_wp2
        go_roundg (k - (j + 1) + 1)
        case measure => omega
        case rel =>
          have := HI.out
          exact ⟨j + 1, _, by omega, by go_num, rfl, by rw [HN.out, E.out], HNX.out.1, HNX.out.2, by omega, rfl⟩
      · have E : Hid (foldN ((s.drop (a + j)).take (k - j)) n = n) := by
          show _ = _
          rw [← hi, List.drop_eq_nil_of_le (by omega)]; simp [foldN]
        clear hp p4 hps n0 n1 hi
        go_wp2
        go_ret
        exact ⟨ret_int (by rw [HN.out, E.out]), rfl⟩
    · obtain rfl : k = j := by omega
      have E : Hid (foldN ((s.drop (a + k)).take (k - k)) n = n) := by
        show _ = _
        rw [Nat.sub_self, List.take_zero]; rfl
      have c1 : ¬ i < a + k := by omega
      have hib : i ≤ 1004 := by omega
      clear p4 hps n0 n1
      go_wp2
      go_ret
      exact ⟨ret_int (by rw [HN.out, E.out]), rfl⟩

/-- Which of these names is that, from i on; 1: none. -/
def monFind (t : List UInt8) : List (List UInt8) → Nat → Nat
  | [], _ => 1
  | q :: T, i => if t == q then i else monFind t T (i + 1)
def monAt (s : List UInt8) (a : Nat) : Nat := if a + 3 ≤ s.length then monFind ((s.take (a + 3)).drop a) monT 1 else 1
theorem monFind_le (t : List UInt8) : ∀ (T : List (List UInt8)) i, 1 ≤ i → 1 ≤ monFind t T i ∧ monFind t T i ≤ i + T.length
  | [], i, h => by simp [monFind]; omega
  | q :: T, i, h => by
    unfold monFind; split
    · simp; omega
    · have := monFind_le t T (i + 1) (by omega); simp only [List.length_cons]; omega
theorem monAt_bd (s : List UInt8) (a : Nat) : 1 ≤ monAt s a ∧ monAt s a ≤ 13 := by
  unfold monAt; split
  · exact monFind_le _ monT 1 (by omega)
  · omega

/-- The century: down in hundreds, a hundred times at the most. -/
def centGo : Nat → Int → Int → Int
  | 0, y, _ => y
  | k + 1, y, most => if y > most ∨ y > 9999 then centGo k (y - 100) most else y
theorem centGo_bd : ∀ (k : Nat) (y most : Int), y - 100 * k ≤ centGo k y most ∧ centGo k y most ≤ y
  | 0, y, most => by simp [centGo]
  | k + 1, y, most => by
    unfold centGo; split
    · have := centGo_bd k (y - 100) most; omega
    · omega

set_option maxHeartbeats 1600000 in
theorem century_any (two most : Int) (w : World) (t0 : -3000 ≤ two) (t1 : two ≤ 3000) (m0 : 0 ≤ most) (m1 : most ≤ 20000) :
    Calls Tryd.prog 38 #[.int .i64 two, .int .i64 most] w fun e w' => e = .returned (.int .i64 (centGo 100 (9900 + two) most)) ∧ w = w' := by
  go_enter Tryd.func38, Tryd.ntmps38
  go_wp2
  go_loopg [5, 6] 101 (fun g v5 v6 wr => ∃ (j : Nat) (y : Int), j ≤ 100 ∧ v6 = .int .i64 (j : Int) ∧ v5 = .int .i64 y ∧ y = 9900 + two - 100 * j ∧ centGo 100 (9900 + two) most = centGo (100 - j) y most ∧ 100 - j < g ∧ wr = w)
  case atStart => exact ⟨0, _, by omega, rfl, rfl, by omega, by rfl, by omega, rfl⟩
  case round =>
    obtain ⟨j, y, hj, rfl, rfl, hy, hc, hg, rfl⟩ := hrel
    have HC := Lib.hid hc
    clear hc
    by_cases hlt : j < 100
    · obtain ⟨k', hk'⟩ : ∃ k', 100 - j = k' + 1 := ⟨100 - j - 1, by omega⟩
      have hk2 : 100 - (j + 1) = k' := by omega
      by_cases hm : most < y
      · have E : Hid (centGo (100 - j) y most = centGo (100 - (j + 1)) (y - 100) most) := by
          show _ = _
          rw [hk', hk2, centGo, if_pos (Or.inl hm)]
        go_wp2
        go_roundg (100 - (j + 1) + 1)
        case measure => omega
        case rel => exact ⟨j + 1, _, by omega, by go_num, rfl, by omega, by rw [HC.out, E.out, ← hy], by omega, rfl⟩
      · by_cases hb : 9999 < y
        · have E : Hid (centGo (100 - j) y most = centGo (100 - (j + 1)) (y - 100) most) := by
            show _ = _
            rw [hk', hk2, centGo, if_pos (Or.inr hb)]
          go_wp2
          go_roundg (100 - (j + 1) + 1)
          case measure => omega
          case rel => exact ⟨j + 1, _, by omega, by go_num, rfl, by omega, by rw [HC.out, E.out, ← hy], by omega, rfl⟩
        · have E : Hid (centGo (100 - j) y most = y) := by
            show _ = _
            rw [hk', centGo, if_neg (by omega)]
          go_wp2
          go_ret
          exact ⟨ret_int (by rw [HC.out, E.out, ← hy]), rfl⟩
    · obtain rfl : j = 100 := by omega
      have E : Hid (centGo (100 - 100) y most = y) := rfl
      go_wp2
      go_ret
      exact ⟨ret_int (by rw [HC.out, E.out]), rfl⟩
end Go.Proofs.YtmejjhklknhniaaDoor
