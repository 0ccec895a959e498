import Derived.Test.YtmejjhklknhniaaDoorProg
import Derived.Test.YtmejjhklknhniaaDoorStrs2
import Derived.Test.YtmejjhklknhniaaDoorPut
import Derived.Test.YtmejjhklknhniaaDoorCal
import Derived.WalkKit
import Derived.Lib.Hide
import Derived.Deep.LoopGhost
namespace Go.Proofs.YtmejjhklknhniaaDoor
open Go Go.RowKit

set_option maxHeartbeats 400000 in
theorem hasPrefix_any (l q : List UInt8) (w : World) (hl : l.length ≤ maxLen) (hq : q.length ≤ maxLen) :
    Calls Tryd.prog 55 #[.string (strB l), .string (strB q)] w fun e w' => e = .returned (.bool (q.isPrefixOf l)) ∧ w = w' := by
  unfold maxLen at hl hq
  by_cases h : q.length ≤ l.length
  · have E := Lib.hid (isPrefixOf_take q l h)
    have hd : decide (q.length ≤ l.length) = true := by simpa using h
    go_enter Tryd.func55, Tryd.ntmps55
    go_wp2
    go_ret
    exact ⟨ret_bool (by rw [← E.out]), rfl⟩
  · have E := Lib.hid (isPrefixOf_short q l (by omega))
    have hd : decide (q.length ≤ l.length) = false := by simpa using h
    go_enter Tryd.func55, Tryd.ntmps55
    go_wp2
    go_ret
    exact ⟨ret_bool (by rw [E.out]), rfl⟩

set_option maxHeartbeats 400000 in
theorem stringsHasPrefix_any (l q : List UInt8) (w : World) (hl : l.length ≤ maxLen) (hq : q.length ≤ maxLen) :
    Calls Tryd.prog 53 #[.string (strB l), .string (strB q)] w fun e w' => e = .returned (.bool (q.isPrefixOf l)) ∧ w = w' := by
  go_enter Tryd.func53, Tryd.ntmps53
  go_wp2_with (go_at_call 55; refine (hasPrefix_any _ _ _ hl hq).mono ?_; rintro e w' ⟨rfl, rfl⟩)
  go_ret
  exact ⟨rfl, rfl⟩

set_option maxHeartbeats 400000 in
theorem liteCutPrefix_any (l q : List UInt8) (w : World) (hl : l.length ≤ maxLen) (hq : q.length ≤ maxLen) :
    Calls Tryd.prog 56 #[.string (strB l), .string (strB q)] w fun e w' => e = .returned (.tuple #[.string (strB (cutR l q)), .bool (q.isPrefixOf l)]) ∧ w = w' := by
  have HL := Lib.hid hl
  have HQ := Lib.hid hq
  unfold maxLen at hl hq
  cases hp : q.isPrefixOf l with
  | true =>
    have h : q.length ≤ l.length := (List.isPrefixOf_iff_prefix.1 hp).length_le
    have e : cutR l q = l.drop q.length := by unfold cutR; rw [if_pos hp]
    have E := Lib.hid e; clear e
    go_enter Tryd.func56, Tryd.ntmps56
    go_wp2_with (go_at_call 55; refine (hasPrefix_any _ _ _ HL.out HQ.out).mono ?_; rintro e w' ⟨rfl, rfl⟩)
    go_ret2
    exact ⟨by rw [E.out]; rfl, rfl⟩
  | false =>
    have e : cutR l q = l := by unfold cutR; rw [hp]; rfl
    have E := Lib.hid e; clear e
    go_enter Tryd.func56, Tryd.ntmps56
    go_wp2_with (go_at_call 55; refine (hasPrefix_any _ _ _ HL.out HQ.out).mono ?_; rintro e w' ⟨rfl, rfl⟩)
    go_ret2
    exact ⟨by rw [E.out]; rfl, rfl⟩

set_option maxHeartbeats 400000 in
theorem cutPrefix_any (l q : List UInt8) (w : World) (hl : l.length ≤ maxLen) (hq : q.length ≤ maxLen) :
    Calls Tryd.prog 54 #[.string (strB l), .string (strB q)] w fun e w' => e = .returned (.tuple #[.string (strB (cutR l q)), .bool (q.isPrefixOf l)]) ∧ w = w' := by
  go_enter Tryd.func54, Tryd.ntmps54
  go_wp2_with (go_at_call 56; refine (liteCutPrefix_any _ _ _ hl hq).mono ?_; rintro e w' ⟨rfl, rfl⟩)
  go_ret2
  exact ⟨rfl, rfl⟩

theorem cutR_len (l q : List UInt8) : (cutR l q).length ≤ l.length := by unfold cutR; split <;> simp

/-- The cursor's cells. -/
abbrev curL (r : List UInt8) (bad : Bool) (D : Dt) (now : Int) : List Value :=
  [.string (strB r), .bool bad, .int .i64 D.y, .int .i64 D.m, .int .i64 D.d, .int .i64 D.h, .int .i64 D.mi, .int .i64 D.s, .int .i64 D.wd, .int .i64 now]

set_option maxHeartbeats 800000 in
theorem mark_any (b : Nat) (w : World) (r q : List UInt8) (bad : Bool) (y m d h mi s wd now : Int) (hb : b < w.heap.size) (hr : r.length ≤ maxLen) (hq : q.length ≤ maxLen) :
    Calls Tryd.prog 50 #[.pointer (some ⟨b, 0, none⟩), .string (strB q)] (put w b 63 [.string (strB r), .bool bad, .int .i64 y, .int .i64 m, .int .i64 d, .int .i64 h, .int .i64 mi, .int .i64 s, .int .i64 wd, .int .i64 now]) fun e w' =>
      e = .returned (.tuple #[]) ∧ put w b 63 [.string (strB (cutR r q)), .bool (bad || !(q.isPrefixOf r)), .int .i64 y, .int .i64 m, .int .i64 d, .int .i64 h, .int .i64 mi, .int .i64 s, .int .i64 wd, .int .i64 now] = w' := by
  cases bad
  all_goals
    go_enter Tryd.func50, Tryd.ntmps50
    go_wp2_with (go_at_call 54; refine (cutPrefix_any _ _ _ hr hq).mono ?_; rintro e w' ⟨rfl, rfl⟩)
    go_end0
    exact ⟨rfl, rfl⟩

/-- So many digits: the number, what is left, whether all were there. -/
def numGo : Nat → Int → List UInt8 → Int × List UInt8 × Bool
  | 0, n, r => (n, r, true)
  | _ + 1, _, [] => (0, [], false)
  | k + 1, n, c :: r => if c < 48 || c > 57 then (0, c :: r, false) else numGo k (10 * n + ((c.toNat : Int) - 48)) r
theorem numGo_len (k : Nat) : ∀ n r, (numGo k n r).2.1.length ≤ r.length := by
  induction k with
  | zero => intro n r; simp [numGo]
  | succ k ih =>
    intro n r
    cases r with
    | nil => simp [numGo]
    | cons c r =>
      unfold numGo; split
      · simp
      · exact Nat.le_trans (ih _ _) (by simp)

set_option maxHeartbeats 1600000 in
theorem number_any (b : Nat) (w : World) (k : Nat) (r : List UInt8) (bad : Bool) (y m d h mi s wd now : Int) (hb : b < w.heap.size) (hr : r.length ≤ maxLen) (hk : k ≤ 4) :
    Calls Tryd.prog 51 #[.pointer (some ⟨b, 0, none⟩), .int .i64 (k : Int)] (put w b 63 [.string (strB r), .bool bad, .int .i64 y, .int .i64 m, .int .i64 d, .int .i64 h, .int .i64 mi, .int .i64 s, .int .i64 wd, .int .i64 now]) fun e w' =>
      e = .returned (.int .i64 (numGo k 0 r).1) ∧ put w b 63 [.string (strB (numGo k 0 r).2.1), .bool (bad || !(numGo k 0 r).2.2), .int .i64 y, .int .i64 m, .int .i64 d, .int .i64 h, .int .i64 mi, .int .i64 s, .int .i64 wd, .int .i64 now] = w' := by
  go_enter Tryd.func51, Tryd.ntmps51
  go_wp2
  go_loopg [5, 7] (k + 1) (fun g v5 v7 wr => ∃ (j : Nat) (n : Int) (t : List UInt8), j ≤ k ∧ v7 = .int .i64 (j : Int) ∧ v5 = .int .i64 n ∧ 0 ≤ n ∧ n < 10 ^ j ∧ t.length ≤ maxLen ∧ numGo k 0 r = numGo (k - j) n t ∧ k - j < g ∧
    wr = put w b 63 [.string (strB t), .bool bad, .int .i64 y, .int .i64 m, .int .i64 d, .int .i64 h, .int .i64 mi, .int .i64 s, .int .i64 wd, .int .i64 now])
  case atStart => exact ⟨0, 0, r, by omega, rfl, rfl, by omega, by simp, hr, rfl, by omega, rfl⟩
  case round =>
    obtain ⟨j, n, t, hj, rfl, rfl, n0, n1, ht, hn, hg, rfl⟩ := hrel
    have p4 : j ≤ 3 → (10 : Int) ^ j ≤ 1000 := fun h => by
      have : j = 0 ∨ j = 1 ∨ j = 2 ∨ j = 3 := by omega
      rcases this with rfl | rfl | rfl | rfl <;> decide
    have hps : (10 : Int) ^ (j + 1) = 10 * 10 ^ j := by rw [Int.pow_succ]; omega
    have HT := Lib.hid ht
    have HN := Lib.hid hn
    unfold maxLen at ht
    clear hn
    by_cases hlt : j < k
    · have hp := p4 (by omega)
      have hn2 : n ≤ 999 := by omega
      have HPS : Hid (∀ x : Int, 0 ≤ x → x ≤ 9 → 10 * n + x < 10 ^ (j + 1)) := fun x a b => by rw [hps]; omega
      obtain ⟨k', hk'⟩ : ∃ k', k - j = k' + 1 := ⟨k - j - 1, by omega⟩
      have HK := Lib.hid hk'
      have hk2 : k - (j + 1) = k' := by omega
      have HK2 := Lib.hid hk2
      clear hp p4 hps hk' hk2 n1
      cases t with
      | nil =>
        go_wp2
        go_ret
        refine ⟨ret_int (by rw [HN.out, HK.out]; rfl), ?_⟩
        rw [HN.out, HK.out]; simp [numGo]
      | cons c t =>
        by_cases hc : c < 48
        · have hcb : decide ((c.toNat : Int) < 48) = true := by simp [UInt8.lt_iff_toNat_lt] at hc ⊢; omega
          have HC := Lib.hid hc
          clear hc
          go_wp2
          go_ret
          have e : numGo (k' + 1) n (c :: t) = (0, c :: t, false) := by rw [numGo, if_pos (by simp [HC.out])]
          refine ⟨ret_int (by rw [HN.out, HK.out, e]), ?_⟩
          rw [HN.out, HK.out, e]; simp
        · have hc1 : decide ((c.toNat : Int) < 48) = false := by simp [UInt8.lt_iff_toNat_lt] at hc ⊢; omega
          by_cases hd : c > 57
          · have hcb : decide (57 < (c.toNat : Int)) = true := by simp [UInt8.lt_iff_toNat_lt] at hd ⊢; omega
            have HD := Lib.hid hd
            clear hc hd
            go_wp2
            go_ret
            have e : numGo (k' + 1) n (c :: t) = (0, c :: t, false) := by rw [numGo, if_pos (by simp [HD.out])]
            refine ⟨ret_int (by rw [HN.out, HK.out, e]), ?_⟩
            rw [HN.out, HK.out, e]; simp
          · have hcb : decide (57 < (c.toNat : Int)) = false := by simp [UInt8.lt_iff_toNat_lt] at hd ⊢; omega
            have hl : 48 ≤ (c.toNat : Int) := by simp [UInt8.lt_iff_toNat_lt] at hc; omega
            have hu : (c.toNat : Int) ≤ 57 := by simp [UInt8.lt_iff_toNat_lt] at hd; omega
            have e : numGo (k' + 1) n (c :: t) = numGo k' (10 * n + ((c.toNat : Int) - 48)) t := by
              rw [numGo, if_neg (by simp; exact ⟨by simpa using hc, by simpa using hd⟩)]
            have E := Lib.hid e
            clear hc hd e
            go_wp2
            go_roundg (k - (j + 1) + 1)
            case measure => omega
            case rel => exact ⟨j + 1, _, t, by omega, by go_num, rfl, by omega, HPS.out _ (by omega) (by omega), Nat.le_trans (by simp) HT.out, by rw [HN.out, HK.out, E.out, HK2.out], by omega, rfl⟩
    · obtain rfl : k = j := by omega
      clear p4 hps n1
      go_wp2
      go_ret
      have e : numGo (k - k) n t = (n, t, true) := by rw [Nat.sub_self]; rfl
      refine ⟨ret_int (by rw [HN.out, e]), ?_⟩
      rw [HN.out, e]; simp

/-- One of these names comes next: which one, what is left, whether one does. -/
def nameGo : List (List UInt8) → Nat → List UInt8 → Nat × List UInt8 × Bool
  | [], _, r => (0, r, false)
  | q :: T, i, r => if q.isPrefixOf r then (i, cutR r q, true) else nameGo T (i + 1) r
theorem nameGo_len (T : List (List UInt8)) : ∀ i r, (nameGo T i r).2.1.length ≤ r.length := by
  induction T with
  | nil => intro i r; simp [nameGo]
  | cons q T ih => intro i r; unfold nameGo; split; exact cutR_len _ _; exact ih _ _
theorem nameGo_lt (T : List (List UInt8)) : ∀ i r, (nameGo T i r).1 ≤ i + T.length := by
  induction T with
  | nil => intro i r; simp [nameGo]
  | cons q T ih =>
    intro i r; unfold nameGo; split
    · simp
    · have := ih (i + 1) r; simp only [List.length_cons]; omega

set_option maxHeartbeats 1600000 in
theorem name_any (b g : Nat) (w : World) (T : List (List UInt8)) (r : List UInt8) (bad : Bool) (y m d h mi s wd now : Int) (hb : b < w.heap.size) (hr : r.length ≤ maxLen) (hT : T.length ≤ 100) (hTl : ∀ q ∈ T, q.length ≤ maxLen)
    (hg : ∀ i : Nat, i < T.length → w.cell? ⟨g, i, none⟩ = some (.string (strB (T.getD i [])))) (hne : ¬ g = b) :
    Calls Tryd.prog 49 #[.pointer (some ⟨b, 0, none⟩), .slice (some ⟨g, 0, none⟩) T.length T.length] (put w b 63 [.string (strB r), .bool bad, .int .i64 y, .int .i64 m, .int .i64 d, .int .i64 h, .int .i64 mi, .int .i64 s, .int .i64 wd, .int .i64 now]) fun e w' =>
      e = .returned (.int .i64 ((nameGo T 0 r).1 : Int)) ∧ put w b 63 [.string (strB (nameGo T 0 r).2.1), .bool (bad || !(nameGo T 0 r).2.2), .int .i64 y, .int .i64 m, .int .i64 d, .int .i64 h, .int .i64 mi, .int .i64 s, .int .i64 wd, .int .i64 now] = w' := by
  have HG := Lib.hid hg
  have HTL := Lib.hid hTl
  clear hg hTl
  obtain ⟨n, hn⟩ : ∃ n, n = T.length := ⟨_, rfl⟩
  rw [← hn] at hT ⊢
  have HN := Lib.hid hn
  clear hn
  go_enter Tryd.func49, Tryd.ntmps49
  go_wp2
  go_loopg [11] (n + 1) (fun gk v11 wr => ∃ j : Nat, j ≤ n ∧ v11 = .int .i64 (j : Int) ∧ nameGo T 0 r = nameGo (T.drop j) j r ∧ n - j < gk ∧
    wr = put w b 63 [.string (strB r), .bool bad, .int .i64 y, .int .i64 m, .int .i64 d, .int .i64 h, .int .i64 mi, .int .i64 s, .int .i64 wd, .int .i64 now])
  case atStart => exact ⟨0, by omega, rfl, rfl, by omega, rfl⟩
  case round =>
    obtain ⟨j, hj, rfl, hnm, hgk, rfl⟩ := hrel
    have HNM := Lib.hid hnm
    clear hnm
    by_cases hlt : j < n
    · have hjT : j < T.length := by rw [← HN.out]; exact hlt
      have hc := HG.out j hjT
      obtain ⟨q, hq⟩ : ∃ q, q = T.getD j [] := ⟨_, rfl⟩
      rw [← hq] at hc
      have hqm : q ∈ T := by rw [hq, List.getD_eq_getElem?_getD, List.getElem?_eq_getElem hjT]; simp
      have hql := HTL.out q hqm
      have hdrop : T.drop j = q :: T.drop (j + 1) := by
        rw [List.drop_eq_getElem_cons hjT, hq, List.getD_eq_getElem?_getD, List.getElem?_eq_getElem hjT]; rfl
      have HD := Lib.hid hdrop
      clear hq hqm hdrop
      have hlg : g < w.heap.size := World.block_lt_of_cell? w _ hc
      cases hp : q.isPrefixOf r with
      | true =>
        have e : nameGo (q :: T.drop (j + 1)) j r = (j, cutR r q, true) := by rw [nameGo, if_pos hp]
        have E := Lib.hid e; clear e
        go_wp2_with (go_at_call 54; refine (cutPrefix_any _ _ _ hr hql).mono ?_; rintro e w' ⟨rfl, rfl⟩)
        go_ret
        refine ⟨ret_int (by rw [HNM.out, HD.out, E.out]), ?_⟩
        rw [HNM.out, HD.out, E.out]; simp
      | false =>
        have e : nameGo (q :: T.drop (j + 1)) j r = nameGo (T.drop (j + 1)) (j + 1) r := by rw [nameGo, if_neg (by simp [hp])]
        have E := Lib.hid e; clear e
        go_wp2_with (go_at_call 54; refine (cutPrefix_any _ _ _ hr hql).mono ?_; rintro e w' ⟨rfl, rfl⟩)
        go_roundg (n - (j + 1) + 1)
        case measure => omega
        case rel => exact ⟨j + 1, by omega, by go_num, by rw [HNM.out, HD.out, E.out], by omega, rfl⟩
    · obtain rfl : n = j := by omega
      have e : nameGo (T.drop n) n r = (0, r, false) := by rw [HN.out, List.drop_length]; rfl
      have E := Lib.hid e; clear e
      go_wp2
      go_ret
      refine ⟨ret_int (by rw [HNM.out, E.out]; rfl), ?_⟩
      rw [HNM.out, E.out]; simp
end Go.Proofs.YtmejjhklknhniaaDoor
