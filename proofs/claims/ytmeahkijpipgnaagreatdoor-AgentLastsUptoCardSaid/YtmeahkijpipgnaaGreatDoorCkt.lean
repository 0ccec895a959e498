/- CookieText: the cookies of a list, each may be. -/
import Derived.Test.YtmeahkijpipgnaaGreatDoorLku
import Derived.Test.YtmeahkijpipgnaaGreatDoorFld
import Derived.Test.YtmeahkijpipgnaaGreatDoorBld
namespace Go.Proofs.YtmeahkijpipgnaaGreatDoor
open Go Go.RowKit

/-- The text of the cookies: name=value, '; ' between them. -/
def cookL : List (List UInt8 × List UInt8) → List UInt8
  | [] => []
  | [p] => p.1 ++ 61 :: p.2
  | p :: q :: ps => p.1 ++ 61 :: p.2 ++ 59 :: 32 :: cookL (q :: ps)
theorem cookL_snoc (ps : List (List UInt8 × List UInt8)) (p : List UInt8 × List UInt8) : cookL (ps ++ [p]) = (if ps = [] then [] else cookL ps ++ [59, 32]) ++ (p.1 ++ 61 :: p.2) := by
  induction ps with
  | nil => simp [cookL]
  | cons q ps ih =>
    cases ps with
    | nil => simp [cookL]
    | cons r ps =>
      simp only [List.cons_append, cookL] at ih ⊢
      rw [ih]
      simp
theorem cookL_len (M : Nat) (ps : List (List UInt8 × List UInt8)) (h : ∀ p ∈ ps, p.1.length + p.2.length ≤ M) : (cookL ps).length ≤ ps.length * (M + 3) := by
  induction ps with
  | nil => simp [cookL]
  | cons q ps ih =>
    have hq := h q (by simp)
    have ih' := ih (fun p hp => h p (by simp [hp]))
    rw [List.length_cons, Nat.succ_mul]
    cases ps with
    | nil => simp only [cookL, List.length_append, List.length_cons]; omega
    | cons r ps => simp only [cookL, List.length_append, List.length_cons] at ih' ⊢; omega

set_option maxHeartbeats 8000000 in
theorem cookieText_ok (ps : List (List UInt8 × List UInt8)) (v : Value) (w : World) (hv : PairsV w v ps) (hK : Kinds w) (hn : ps.length ≤ 16) (hlen : ∀ p ∈ ps, p.1.length + p.2.length ≤ 274877906944) (hmay : ∀ p ∈ ps, cmayB p.1 p.2 = true) :
    Calls Tryz.prog 17 #[v] w fun e w' =>
      e = .returned (.tuple #[.string (strB (cookL ps)), .nilIface]) ∧ Below w.heap.size w w' := by
  obtain ⟨a, c, rfl, hlc, hcm, hat⟩ := hv
  have HAT := Lib.hid hat
  have HM := Lib.hid hmay
  have HLE := Lib.hid hlen
  have HK := Lib.hid hK
  clear hat hmay hlen hK
  unfold maxLen at hcm
  obtain ⟨n, hnl⟩ : ∃ n, n = ps.length := ⟨_, rfl⟩
  rw [← hnl] at hlc hn ⊢
  have HNL := Lib.hid hnl
  clear hnl
  have hn0 : ¬ (16 : Int) < (n : Int) := (by omega)
  have hn1 : ¬ 16 < n := (by omega)
  go_enter Tryz.func17, Tryz.ntmps17
  go_wp2_with fail


  go_loopg [13] (n + 1) (fun gg v13 wr => ∃ (k : Nat) (X : Array Obj) (m : Nat), k ≤ n ∧ wr = ext w X m ∧ Lib.IsBuilder 96 5 w.heap.size w.heap.size (Lib.byteCells (cookL (ps.take k))) (ext w X m) ∧ v13 = .int .i64 (k : Int) ∧ n - k < gg)
  case atStart =>
    obtain ⟨X0, m0, h0⟩ := Below_ext (show Below w.heap.size w (w.alloc (Obj.cells #[Value.pointer none, Value.slice none 0 0] 96)) from (by repeat (first | exact Below.refl _ _ | refine Below.alloc ?_ (by simp [go_sem]) _ | refine below_ext ?_ (by simp [go_sem]) _ _ | refine below_drewN ?_ _ | refine Below.drew ?_)))
    exact ⟨0, X0, m0, by omega, h0, by rw [← h0]; exact Lib.fresh_isBuilder _ _ w, rfl, by omega⟩
  case round =>
    obtain ⟨k, X, m, hk, rfl, hB, rfl, hg⟩ := hrel
    have HB := Lib.hid hB
    have hX : w.heap.size < (ext w X m).heap.size := hB.elim Lib.BuilderAt.lt Lib.BuilderAt.lt
    rw [size_ext] at hX
    have hX1 : ¬ w.heap.size + X.size = w.heap.size := by omega
    clear hB
    by_cases hlt : k < n
    · have hkl : k < ps.length := by rw [← HNL.out]; exact hlt
      obtain ⟨g, o, rfl, hpa⟩ := HAT.out.resolve_left (fun e => by rw [e] at hkl; simp at hkl)
      obtain ⟨h1, h2, h3, h4⟩ := hpa k ps[k] (by rw [List.getElem?_eq_getElem hkl])
      have HTK : Hid (ps.take (k + 1) = ps.take k ++ [ps[k]]) := by show _ = _; exact List.take_succ_eq_append_getElem hkl
      have h5 := HLE.out _ (List.getElem_mem hkl)
      have h6 := HM.out _ (List.getElem_mem hkl)
      generalize ps[k] = p at *
      have lg : g < w.heap.size := World.block_lt_of_cell? w _ h1
      have H6 := Lib.hid h6
      clear hpa h3 h4 hkl h6
      have hE : Below w.heap.size w ((ext w X m).alloc (Obj.cells #[Value.string (strB p.fst), Value.string (strB p.snd)] 40)) := (by repeat (first | exact Below.refl _ _ | refine Below.alloc ?_ (by simp [go_sem]) _ | refine below_ext ?_ (by simp [go_sem]) _ _ | refine below_drewN ?_ _ | refine Below.drew ?_))
      have hA : Below (ext w X m).heap.size (ext w X m) ((ext w X m).alloc (Obj.cells #[Value.string (strB p.fst), Value.string (strB p.snd)] 40)) := (by repeat (first | exact Below.refl _ _ | refine Below.alloc ?_ (by simp [go_sem]) _ | refine below_ext ?_ (by simp [go_sem]) _ _ | refine below_drewN ?_ _ | refine Below.drew ?_))
      have hN : ((ext w X m).alloc (Obj.cells #[Value.string (strB p.fst), Value.string (strB p.snd)] 40)).heap[w.heap.size + X.size]? = some (Obj.cells #[Value.string (strB p.fst), Value.string (strB p.snd)] 40) := by
        have := heap_alloc_new (ext w X m) (Obj.cells #[Value.string (strB p.fst), Value.string (strB p.snd)] 40)
        rwa [size_ext] at this
      have HE := Lib.hid hE
      have HA := Lib.hid hA
      have HN := Lib.hid hN
      clear hE hA hN
      go_wp2_with fail
      refine (cmay_any p.1 p.2 _ (by unfold maxLen; omega) (by unfold maxLen; omega) (HK.out.below HE.out)).mono ?_
      rintro e w1 ⟨rfl, rfl⟩
      rw [H6.out]
      have hL := cookL_len 274877906944 (ps.take k) (fun q hq => HLE.out q (List.mem_of_mem_take hq))
      have htk : (ps.take k).length ≤ k := List.length_take_le _ _
      have hs1 : (strB p.1).size = p.1.length := rfl
      have hs2 : (strB p.2).size = p.2.length := rfl
      have hz : ((strB p.1 ++ { data := #[61] } : ByteArray) ++ strB p.2).size = p.1.length + 1 + p.2.length := by rw [ByteArray.size_append, ByteArray.size_append, hs1, hs2]; rfl
      have HC : Hid (Lib.strCells ((strB p.1 ++ { data := #[61] } : ByteArray) ++ strB p.2) = Lib.byteCells (p.1 ++ 61 :: p.2)) := by show _ = _; simp [Lib.strCells, Lib.byteCells, strB]
      have hj : (cookL (ps.take k)).length ≤ 16 * (274877906944 + 3) := Nat.le_trans hL (Nat.mul_le_mul_right _ (by omega))
      have HJ := Lib.hid hj
      clear hL hj
      by_cases hk0 : 0 < k
      · have hne : ps.take k ≠ [] := by intro h; have h2 := List.length_take (i := k) (l := ps); rw [h, List.length_nil] at h2; have := HNL.out; omega
        go_wp2_with fail
        refine (bld_write w.heap.size w.heap.size _ _ _ (bld_kept HB.out HA.out) (by rw [Lib.byteCells_length]; show (cookL (ps.take k)).length + 2 ≤ 140737488355328; have := HJ.out; omega) (by simp only [World.size_alloc, size_ext]; omega)).mono ?_
        rintro e w2 ⟨rfl, hB2, hb2, hk2⟩
        have hN2 := hk2 _ _ _ _ HN.out hX1 (by decide)
        obtain ⟨Y, q, rfl⟩ := Below_ext (HE.out.trans hb2)
        have c0 : (ext w Y q).cell? ⟨w.heap.size + X.size, 0, none⟩ = some (.string (strB p.1)) := by rw [Lib.cell_of_heap hN2]; rfl
        have c1 : (ext w Y q).cell? ⟨w.heap.size + X.size, 1, none⟩ = some (.string (strB p.2)) := by rw [Lib.cell_of_heap hN2]; rfl
        have HB2 := Lib.hid hB2
        clear hB2 hb2 hk2 hN2
        go_wp2_with fail
        refine (bld_write w.heap.size w.heap.size _ _ _ (Or.inr HB2.out) (by rw [List.length_append, Lib.byteCells_length, hz]; show (cookL (ps.take k)).length + 2 + _ ≤ 140737488355328; have := HJ.out; omega) (by simp only [World.size_alloc, size_ext]; omega)).mono ?_
        rintro e w2 ⟨rfl, hB3, hb3, hk3⟩
        obtain ⟨Z, z, rfl⟩ := Below_ext ((ext_below w Y q).trans hb3)
        have HB3 : Hid (Lib.IsBuilder 96 5 w.heap.size w.heap.size (Lib.byteCells (cookL (ps.take (k + 1)))) (ext w Z z)) := by
          show Lib.IsBuilder _ _ _ _ _ _
          rw [HTK.out, cookL_snoc, if_neg hne]
          refine .inr ?_
          rw [HC.out] at hB3
          simpa [Lib.byteCells, Lib.strCells] using hB3
        clear hB3 hb3 hk3
        go_wp2_with fail
        go_roundg (n - k)
        case measure => omega
        case rel => exact ⟨k + 1, Z, z, by omega, rfl, HB3.out, by go_num, by omega⟩
      · have hk00 : k = 0 := by omega
        go_wp2_with fail
        refine (bld_write w.heap.size w.heap.size _ _ _ (bld_kept HB.out HA.out) (by rw [Lib.byteCells_length, hz]; have := HJ.out; omega) (by simp only [World.size_alloc, size_ext]; omega)).mono ?_
        rintro e w2 ⟨rfl, hB3, hb3, hk3⟩
        obtain ⟨Z, z, rfl⟩ := Below_ext (HE.out.trans hb3)
        have HB3 : Hid (Lib.IsBuilder 96 5 w.heap.size w.heap.size (Lib.byteCells (cookL (ps.take (k + 1)))) (ext w Z z)) := by
          show Lib.IsBuilder _ _ _ _ _ _
          rw [HTK.out, cookL_snoc, if_pos (by rw [hk00]; rfl)]
          refine .inr ?_
          rw [HC.out, hk00] at hB3
          simpa [Lib.byteCells, Lib.strCells, cookL] using hB3
        clear hB3 hb3 hk3 hk00
        go_wp2_with fail
        go_roundg (n - k)
        case measure => omega
        case rel => exact ⟨k + 1, Z, z, by omega, rfl, HB3.out, by go_num, by omega⟩
    · obtain rfl : k = n := by omega
      have HT : Hid (ps.take k = ps) := by show _ = _; rw [HNL.out, List.take_length]
      go_wp2_with fail
      refine (Tryz.Builder_String_any _ _ _ _ HB.out (by simp [go_sem])).mono ?_
      rintro e w1 ⟨rfl, hb⟩
      rw [HT.out]
      go_wp2_with fail
      go_ret2
      exact ⟨rfl, (ext_below w X m).trans hb⟩
end Go.Proofs.YtmeahkijpipgnaaGreatDoor
