/- Lookup: the first value of a field's name, and how many there are; in a list of any length. -/
import Derived.Test.YtmeahkijpipgnaaGreatDoorAa
import Derived.Test.YtmeahkijpipgnaaGreatDoorStrs2
namespace Go.Proofs.YtmeahkijpipgnaaGreatDoor
open Go Go.RowKit

/-- A list of pairs in memory. -/
def PairsAt (w : World) (g o : Nat) (ps : List (List UInt8 × List UInt8)) : Prop :=
  ∀ (i : Nat) p, ps[i]? = some p → w.cell? ⟨g, o + i * 2, none⟩ = some (.string (strB p.1)) ∧ w.cell? ⟨g, o + i * 2 + 1, none⟩ = some (.string (strB p.2)) ∧ p.1.length ≤ maxLen ∧ p.2.length ≤ maxLen
theorem PairsAt.below {w w' : World} {g o : Nat} {ps : List (List UInt8 × List UInt8)} (h : PairsAt w g o ps) (hb : Below w.heap.size w w') : PairsAt w' g o ps := fun i p hp => by
  obtain ⟨h1, h2, h3, h4⟩ := h i p hp
  exact ⟨(hb.cell (p := ⟨g, o + i * 2, none⟩) (World.block_lt_of_cell? w _ h1)).trans h1, (hb.cell (p := ⟨g, o + i * 2 + 1, none⟩) (World.block_lt_of_cell? w _ h2)).trans h2, h3, h4⟩
/-- A slice of pairs: what it reads as. -/
def PairsV (w : World) (v : Value) (ps : List (List UInt8 × List UInt8)) : Prop :=
  ∃ a c, v = .slice a ps.length c ∧ ps.length ≤ c ∧ c ≤ maxLen ∧ (ps = [] ∨ ∃ g o, a = some ⟨g, o, none⟩ ∧ PairsAt w g o ps)
def lookV (nm : List UInt8) : List (List UInt8 × List UInt8) → List UInt8
  | [] => []
  | p :: ps => if lowL p.1 == nm then p.2 else lookV nm ps
def lookN (nm : List UInt8) : List (List UInt8 × List UInt8) → Nat
  | [] => 0
  | p :: ps => (if lowL p.1 == nm then 1 else 0) + lookN nm ps
theorem lookN_snoc (nm : List UInt8) (ps : List (List UInt8 × List UInt8)) (p : List UInt8 × List UInt8) : lookN nm (ps ++ [p]) = lookN nm ps + if lowL p.1 == nm then 1 else 0 := by
  induction ps with
  | nil => simp [lookN]
  | cons q ps ih => simp only [List.cons_append, lookN, ih]; omega
theorem lookV_snoc (nm : List UInt8) (ps : List (List UInt8 × List UInt8)) (p : List UInt8 × List UInt8) : lookV nm (ps ++ [p]) = if lookN nm ps = 0 then (if lowL p.1 == nm then p.2 else []) else lookV nm ps := by
  induction ps with
  | nil => simp [lookV, lookN]
  | cons q ps ih =>
    simp only [List.cons_append, lookV, lookN, ih]
    by_cases h : (lowL q.1 == nm) = true
    · simp [h]
    · simp [h]
theorem lookV_none (nm : List UInt8) (ps : List (List UInt8 × List UInt8)) (h : lookN nm ps = 0) : lookV nm ps = [] := by
  induction ps with
  | nil => rfl
  | cons q ps ih =>
    simp only [lookN] at h
    by_cases hq : (lowL q.1 == nm) = true
    · simp [hq] at h
    · simp only [lookV, hq]; exact ih (by omega)
theorem lookN_le (nm : List UInt8) (ps : List (List UInt8 × List UInt8)) : lookN nm ps ≤ ps.length := by
  induction ps with
  | nil => simp [lookN]
  | cons q ps ih => simp only [lookN, List.length_cons]; split <;> omega

set_option maxHeartbeats 4000000 in
theorem lookup_any (ps : List (List UInt8 × List UInt8)) (name : List UInt8) (v : Value) (w : World) (hv : PairsV w v ps) (hn : name.length ≤ maxLen) :
    Calls Tryz.prog 18 #[v, .string (strB name)] w fun e w' =>
      e = .returned (.tuple #[.string (strB (lookV (lowL name) ps)), .int .i64 (lookN (lowL name) ps : Int)]) ∧ Below w.heap.size w w' := by
  obtain ⟨a, c, rfl, hlc, hcm, hat⟩ := hv
  have HAT := Lib.hid hat
  have LOW : Hid (∀ (l : List UInt8) (V : World), l.length ≤ maxLen → Calls Tryz.prog 40 #[.string (strB l)] V fun e w' => e = .returned (.string (strB (lowL l))) ∧ Below V.heap.size V w') := fun l V h => low_any l V h
  have HN := Lib.hid hn
  clear hat hn
  unfold maxLen at hcm
  obtain ⟨n, hnl⟩ : ∃ n, n = ps.length := ⟨_, rfl⟩
  rw [← hnl] at hlc ⊢
  have HNL := Lib.hid hnl
  obtain ⟨nm, hnm⟩ : ∃ nm, nm = lowL name := ⟨_, rfl⟩
  have HNM := Lib.hid hnm
  rw [← hnm]
  clear hnl hnm
  go_enter Tryz.func18, Tryz.ntmps18
  go_wp2_with fail
  refine (LOW.out _ _ HN.out).mono ?_
  rintro e w1 ⟨rfl, hb⟩
  rw [← HNM.out]
  obtain ⟨X1, n1, rfl⟩ := Below_ext hb; clear hb
  go_wp2_with fail
  go_loopg [6, 7, 14] (n + 1) (fun gg v6 v7 v14 wr => ∃ (k : Nat) (X : Array Obj) (m : Nat), k ≤ n ∧ wr = ext w X m ∧ v14 = .int .i64 (k : Int) ∧ v6 = .string (strB (lookV nm (ps.take k))) ∧ v7 = .int .i64 (lookN nm (ps.take k) : Int) ∧ n - k < gg)
  case atStart => exact ⟨0, X1, n1, by omega, rfl, rfl, by simp [lookV]; rfl, by simp [lookN], by omega⟩
  case round =>
    obtain ⟨k, X, m, hk, rfl, rfl, rfl, rfl, hg⟩ := hrel
    have hNle := lookN_le nm (ps.take k)
    have htk : (ps.take k).length ≤ k := List.length_take_le _ _
    by_cases hlt : k < n
    · have hkl : k < ps.length := by rw [← HNL.out]; exact hlt
      obtain ⟨g, o, rfl, hpa⟩ := HAT.out.resolve_left (fun e => by rw [e] at hkl; simp at hkl)
      obtain ⟨h1, h2, h3, h4⟩ := hpa k ps[k] (by rw [List.getElem?_eq_getElem hkl])
      have HTK : Hid (ps.take (k + 1) = ps.take k ++ [ps[k]]) := by show _ = _; exact List.take_succ_eq_append_getElem hkl
      generalize ps[k] = p at *
      have lg : g < w.heap.size := World.block_lt_of_cell? w _ h1
      have H3 := Lib.hid h3
      clear hpa h3 h4 hkl
      have HVS := Lib.hid (lookV_snoc nm (ps.take k) p)
      have HNS := Lib.hid (lookN_snoc nm (ps.take k) p)
      have HV0 := Lib.hid (lookV_none nm (ps.take k))
      go_wp2_with fail
      refine (LOW.out _ _ H3.out).mono ?_
      rintro e w1 ⟨rfl, hb⟩
      obtain ⟨X2, n2, rfl⟩ := Below_ext hb; clear hb
      have hE : Below w.heap.size w (ext ((ext w X m).alloc (Obj.cells #[Value.string (strB p.fst), Value.string (strB p.snd)] 40)) X2 n2) := (by repeat (first | exact Below.refl _ _ | refine Below.alloc ?_ (by simp [go_sem]) _ | refine below_ext ?_ (by simp [go_sem]) _ _ | refine below_drewN ?_ _ | refine Below.drew ?_))
      dsimp only
      rcases hc : (lowL p.1 == nm) with _ | _
      · go_wp2_with fail
        obtain ⟨Y, q, hY⟩ := Below_ext hE; rw [hY]; clear hY hE
        go_roundg (n - k)
        case measure => omega
        case rel => exact ⟨k + 1, Y, q, by omega, rfl, rfl, by rw [HTK.out, HVS.out, hc]; by_cases h0 : lookN nm (ps.take k) = 0 <;> simp [h0, HV0.out], by rw [HTK.out, HNS.out, hc]; simp, by omega⟩
      · by_cases h0 : lookN nm (ps.take k) = 0
        · rw [h0]
          go_wp2_with fail
          obtain ⟨Y, q, hY⟩ := Below_ext hE; rw [hY]; clear hY hE
          go_roundg (n - k)
          case measure => omega
          case rel => exact ⟨k + 1, Y, q, by omega, rfl, rfl, by rw [HTK.out, HVS.out, hc, h0]; simp, by rw [HTK.out, HNS.out, hc, h0]; simp, by omega⟩
        · have h1 : ((lookN nm (ps.take k) : Int) == 0) = false := by simp [h0]
          go_wp2_with fail
          obtain ⟨Y, q, hY⟩ := Below_ext hE; rw [hY]; clear hY hE
          go_roundg (n - k)
          case measure => omega
          case rel => exact ⟨k + 1, Y, q, by omega, rfl, rfl, by rw [HTK.out, HVS.out, hc]; simp [h0], by rw [HTK.out, HNS.out, hc]; simp, by omega⟩
    · obtain rfl : k = n := by omega
      have HT : Hid (ps.take k = ps) := by show _ = _; rw [HNL.out, List.take_length]
      go_wp2_with fail
      go_ret2
      exact ⟨by simp [HT.out], ext_below _ _ _⟩
end Go.Proofs.YtmeahkijpipgnaaGreatDoor
