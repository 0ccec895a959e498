/- AgentLasts: what stands while it runs; a list of one pair, held against a pair; a word's letters. -/
import Derived.Test.YtmeahkijpipgnaaGreatDoorBi
import Derived.Test.YtmeahkijpipgnaaGreatDoorBa
import Derived.BigQuiet
namespace Go.Proofs.YtmeahkijpipgnaaGreatDoor
open Go Go.RowKit

/-- What stands while the walk goes on: the memory from before, blocks of cells that nobody writes, the agent, its jar. -/
structure BInv (w : World) (b m : Nat) (F : List (Nat × List Value × TypeId)) (L : List Value) (J : Option (List UInt8 × List UInt8 × Int × Int)) (T : Int) (wr : World) : Prop where
  below : Below w.heap.size w wr
  fx : ∀ p ∈ F, p.1 ≠ b ∧ p.1 ≠ m ∧ wr.heap[p.1]? = some (.cells p.2.1.toArray p.2.2)
  ag : wr.heap[b]? = some (.cells L.toArray 82)
  jar : JarIs wr b m J T
theorem BInv.keep {w wr V : World} {b m : Nat} {F : List (Nat × List Value × TypeId)} {L : List Value} {J : Option (List UInt8 × List UInt8 × Int × Int)} {T : Int} (h : BInv w b m F L J T wr) (hv : Below wr.heap.size wr V) : BInv w b m F L J T V :=
  ⟨h.below.trans (hv.mono h.below.size), fun p hp => ⟨(h.fx p hp).1, (h.fx p hp).2.1, (hv.block _ (Array.getElem?_eq_some_iff.1 (h.fx p hp).2.2).1).trans (h.fx p hp).2.2⟩, (hv.block b (Array.getElem?_eq_some_iff.1 h.ag).1).trans h.ag, h.jar.below hv⟩
theorem BInv.put {w V : World} {b m : Nat} {F : List (Nat × List Value × TypeId)} {L : List Value} {J : Option (List UInt8 × List UInt8 × Int × Int)} {T : Int} (M : List Value) (h : BInv w b m F L J T V) (hw : w.heap.size ≤ b) : BInv w b m F M J T (YtmeahkijpipgnaaGreatDoor.put V b 82 M) :=
  ⟨below_put V b 82 M h.below hw, fun p hp => ⟨(h.fx p hp).1, (h.fx p hp).2.1, (heap_put_other V b 82 M p.1 (h.fx p hp).1).trans (h.fx p hp).2.2⟩, heap_put V b 82 M (Array.getElem?_eq_some_iff.1 h.ag).1, h.jar.put 82 M⟩
theorem BInv.turn {w V w' : World} {b m : Nat} {F : List (Nat × List Value × TypeId)} {L : List Value} {J : Option (List UInt8 × List UInt8 × Int × Int)} {T : Int} (M : List Value) (h : BInv w b m F L J T V) (hb : Below V.heap.size (YtmeahkijpipgnaaGreatDoor.put V b 82 M) w') (hw : w.heap.size ≤ b) : BInv w b m F M J T w' :=
  (h.put M hw).keep (hb.mono (by rw [size_put]; exact Nat.le_refl _))
theorem BInv.jarred {w V w' : World} {b m : Nat} {F : List (Nat × List Value × TypeId)} {L : List Value} {J J' : Option (List UInt8 × List UInt8 × Int × Int)} {T T' : Int} (M : List Value) (h : BInv w b m F L J T V) (hb : Below V.heap.size (hset (YtmeahkijpipgnaaGreatDoor.put V b 82 M) m (jarObj J')) w') (hw : w.heap.size ≤ b) (hm : w.heap.size ≤ m)
    (ok : ∀ n v age at_, J' = some (n, v, age, at_) → 0 ≤ at_ ∧ at_ ≤ T' ∧ -9223372036854775808 ≤ age ∧ age ≤ 9223372036854775807 ∧ n.length ≤ 1073741824 ∧ v.length ≤ 1073741824 ∧ cmayB n v = true) : BInv w b m F M J' T' w' := by
  have h1 := h.put M hw
  have hne : b ≠ m := fun e => h.jar.ne e.symm
  have h2 : BInv w b m F M J' T' (hset (YtmeahkijpipgnaaGreatDoor.put V b 82 M) m (jarObj J')) :=
    ⟨below_hset _ _ _ h1.below hm, fun p hp => ⟨(h1.fx p hp).1, (h1.fx p hp).2.1, (heap_hset_other _ m _ p.1 (h1.fx p hp).2.1).trans (h1.fx p hp).2.2⟩, (heap_hset_other _ m _ b hne).trans h1.ag,
      ⟨h.jar.ne, heap_hset _ m _ (Array.getElem?_eq_some_iff.1 h1.jar.mp).1, ok⟩⟩
  exact h2.keep (hb.mono (by rw [size_hset, size_put]; exact Nat.le_refl _))
theorem BInv.later {w V : World} {b m : Nat} {F : List (Nat × List Value × TypeId)} {L : List Value} {J : Option (List UInt8 × List UInt8 × Int × Int)} {T S : Int} (h : BInv w b m F L J T V) (hs : T ≤ S) : BInv w b m F L J S V := ⟨h.below, h.fx, h.ag, h.jar.later hs⟩
theorem BInv.more {w V : World} {b m : Nat} {F : List (Nat × List Value × TypeId)} {L : List Value} {J : Option (List UInt8 × List UInt8 × Int × Int)} {T : Int} (h : BInv w b m F L J T V) (k : Nat) (vs : List Value) (t : TypeId) (hk : V.heap[k]? = some (.cells vs.toArray t)) (h1 : k ≠ b) (h2 : k ≠ m) : BInv w b m ((k, vs, t) :: F) L J T V :=
  ⟨h.below, fun p hp => by
    rcases List.mem_cons.1 hp with rfl | hp
    · exact ⟨h1, h2, hk⟩
    · exact h.fx p hp, h.ag, h.jar⟩

theorem PairsV.below {w w' : World} {v : Value} {ps : List (List UInt8 × List UInt8)} (h : PairsV w v ps) (hb : Below w.heap.size w w') : PairsV w' v ps := by
  obtain ⟨a, c, rfl, h1, h2, h3⟩ := h
  exact ⟨a, c, rfl, h1, h2, h3.imp id fun ⟨g, o, e, hat⟩ => ⟨g, o, e, hat.below hb⟩⟩
/-- A list of one pair does not lie in the agent's own block. -/
theorem pairs_put {V : World} {b m : Nat} {n v : List UInt8} {sl : Value} {t hops : Int} {html wh : ByteArray} {there waits : Bool} {M : List Value} (h : PairsV V sl [(n, v)]) (hb : V.heap[b]? = some (.cells ([.map (some m), .int .i64 t, .string html, .bool there, .string wh, .bool waits, .int .i64 hops]).toArray 82)) : PairsV (YtmeahkijpipgnaaGreatDoor.put V b 82 M) sl [(n, v)] := by
  obtain ⟨a, c, rfl, h1, h2, h3⟩ := h
  obtain ⟨g, o, rfl, hat⟩ := h3.resolve_left (by simp)
  obtain ⟨c0, c1, l0, l1⟩ := hat 0 _ rfl
  have hne : g ≠ b := by
    rintro rfl
    rw [Lib.cell_of_heap hb] at c0 c1
    match o, c0, c1 with
    | 0, c0, c1 => simp at c0
    | 1, c0, c1 => simp at c0
    | 2, c0, c1 => simp at c1
    | 3, c0, c1 => simp at c0
    | 4, c0, c1 => simp at c1
    | 5, c0, c1 => simp at c0
    | 6, c0, c1 => simp at c0
    | o + 7, c0, c1 => simp at c0
  refine ⟨_, c, rfl, h1, h2, .inr ⟨g, o, rfl, ?_⟩⟩
  intro i p hp
  cases i with
  | zero => simp only [List.getElem?_cons_zero, Option.some.injEq] at hp; subst hp; exact ⟨(cell?_put_other _ _ _ _ _ _ hne).trans c0, (cell?_put_other _ _ _ _ _ _ hne).trans c1, l0, l1⟩
  | succ i => simp at hp
/-- A slice of ints, each within its kind. -/
def IntsR (w : World) (v : Value) (n : Nat) : Prop := ∃ a c, v = .slice a n c ∧ n ≤ maxLen ∧ (n = 0 ∨ ∃ g o, a = some ⟨g, o, none⟩ ∧ ∀ i, i < n → ∃ z : Int, z ≤ 9223372036854775807 ∧ w.cell? ⟨g, o + i, none⟩ = some (.int .i64 z))

theorem smc_tok (c : UInt8) (h : smc c = true) : isB 1 c = true := by
  have := (smc_and c).1 h
  have e : ∀ k : Nat, 97 ≤ k → k ≤ 122 → (kindC k &&& 1) != 0 := by
    intro k h1 h2
    have : ∀ i : Fin 26, (kindC (97 + i.val) &&& 1 != 0) = true := by decide
    have h3 := this ⟨k - 97, by omega⟩
    have h4 : 97 + (k - 97) = k := by omega
    simpa [h4] using h3
  exact e _ this.1 this.2
theorem ckc_cook (c : UInt8) (h : ckc c = true) : isB 2 c = true := by
  have e : ∀ k : Fin 256, cookC k.val = true → ((kindC k.val &&& 2) != 0) = true := by decide +kernel
  exact e ⟨c.toNat, UInt8.toNat_lt c⟩ h
theorem word_may (a b : List UInt8) : cmayB (wordL a) (crumbL b) = true := by
  unfold cmayB tokenB allB
  simp only [Bool.and_eq_true, Bool.not_eq_true', List.all_eq_true]
  refine ⟨⟨?_, ?_⟩, ?_⟩
  · unfold wordL; split
    · rfl
    · rename_i h; simpa using h
  · intro c hc
    unfold wordL at hc
    split at hc
    · simp only [List.mem_singleton] at hc; subst hc; decide
    · exact smc_tok c (List.mem_filter.1 hc).2
  · intro c hc
    exact ckc_cook c (List.mem_filter.1 hc).2
theorem crumbL_len (l : List UInt8) : (crumbL l).length ≤ l.length := List.length_filter_le _ _

set_option maxHeartbeats 1000000 in
/-- Is this pair, and no other one, in the list? Where it is. -/
theorem has_yes (n v : List UInt8) (sl : Value) (w : World) (hp : PairsV w sl [(n, v)]) :
    Calls Tryz.prog 20 #[sl, .string (strB n), .string (strB v)] w fun e w' => e = .returned (.bool true) ∧ w = w' := by
  obtain ⟨a, c, rfl, h1, h2, h3⟩ := hp
  obtain ⟨g, o, rfl, hat⟩ := h3.resolve_left (by simp)
  obtain ⟨c0, c1, _, _⟩ := hat 0 _ rfl
  simp only [List.length_cons, List.length_nil, Nat.zero_mul, Nat.add_zero] at h1 c0 c1 ⊢
  clear h3 hat
  go_enter Tryz.func20, Tryz.ntmps20
  go_wp2_with fail
  go_ret
  exact ⟨rfl, rfl⟩
end Go.Proofs.YtmeahkijpipgnaaGreatDoor
