/- A jar that holds nothing or one cookie: what it tells, what a visit sends. -/
import Derived.Test.YtmeahkijpipgnaaGreatDoorBe
import Derived.Test.YtmeahkijpipgnaaGreatDoorRsc
namespace Go.Proofs.YtmeahkijpipgnaaGreatDoor
open Go Go.RowKit

/-- What a jar may hold: nothing, or one cookie. -/
def jarObj : Option (List UInt8 × List UInt8 × Int × Int) → Obj
  | none => .map #[] 0
  | some (n, v, age, at_) => .map #[entryOf (strB n) (strB v) age at_ 0] 1
/-- The cookies that last. -/
def lives : Option (List UInt8 × List UInt8 × Int × Int) → Int → List (List UInt8 × List UInt8)
  | none, _ => []
  | some (n, v, age, at_), t => if lastsB age at_ t = true then [(n, v)] else []
structure JarIs (W : World) (b m : Nat) (J : Option (List UInt8 × List UInt8 × Int × Int)) (T : Int) : Prop where
  ne : m ≠ b
  mp : W.heap[m]? = some (jarObj J)
  ok : ∀ n v age at_, J = some (n, v, age, at_) → 0 ≤ at_ ∧ at_ ≤ T ∧ -9223372036854775808 ≤ age ∧ age ≤ 9223372036854775807 ∧ n.length ≤ 1073741824 ∧ v.length ≤ 1073741824 ∧ cmayB n v = true
theorem JarIs.below {W V : World} {b m : Nat} {J : Option (List UInt8 × List UInt8 × Int × Int)} {T : Int} (h : JarIs W b m J T) (hb : Below W.heap.size W V) : JarIs V b m J T :=
  ⟨h.ne, (hb.block _ (Array.getElem?_eq_some_iff.1 h.mp).1).trans h.mp, h.ok⟩
theorem JarIs.put {W : World} {b m : Nat} {J : Option (List UInt8 × List UInt8 × Int × Int)} {T : Int} (h : JarIs W b m J T) (t : TypeId) (L : List Value) : JarIs (YtmeahkijpipgnaaGreatDoor.put W b t L) b m J T :=
  ⟨h.ne, (heap_put_other W b t L m h.ne).trans h.mp, h.ok⟩
theorem JarIs.later {W : World} {b m : Nat} {J : Option (List UInt8 × List UInt8 × Int × Int)} {T S : Int} (h : JarIs W b m J T) (hs : T ≤ S) : JarIs W b m J S :=
  ⟨h.ne, h.mp, fun n v age at_ e => by have k := h.ok n v age at_ e; exact ⟨k.1, by omega, k.2.2⟩⟩
theorem JarIs.one {W : World} {b m : Nat} {n v : List UInt8} {age at_ T : Int} (h : JarIs W b m (some (n, v, age, at_)) T) : JarOne W b m n v age at_ 0 1 := by
  have := h.ok n v age at_ rfl
  exact ⟨h.ne, h.mp, by omega, by omega, by omega, by omega⟩
theorem pairs_nil (V : World) : PairsV V (.slice none 0 0) [] := ⟨none, 0, rfl, Nat.le_refl _, by decide, .inl rfl⟩

theorem cookies_J (b m : Nat) (J : Option (List UInt8 × List UInt8 × Int × Int)) (t : Int) (w : World) (hc : w.cell? ⟨b, 0, none⟩ = some (.map (some m))) (hJ : JarIs w b m J t) (ht : t ≤ 9223372036854775807) :
    Calls Tryz.prog 41 #[.pointer (some ⟨b, 0, none⟩), .int .i64 t] w fun e w' => (∃ sl, e = .returned sl ∧ PairsV w' sl (lives J t)) ∧ Below w.heap.size w w' := by
  cases J with
  | none => exact (cookies_none b m t w hc hJ.mp).mono fun e w' ⟨he, hb⟩ => ⟨⟨_, he, pairs_nil _⟩, hb⟩
  | some j =>
    obtain ⟨n, v, age, at_⟩ := j
    have h := hJ.ok n v age at_ rfl
    cases hl : lastsB age at_ t with
    | true =>
      refine (cookies_yes b m (strB n) (strB v) age at_ t 0 1 w hc hJ.mp (by omega) h.1 h.2.1 ht h.2.2.1 h.2.2.2.1 hl).mono fun e w' ⟨⟨g, k, h1, h2, he, c0, c1⟩, hb⟩ => ⟨⟨_, he, ?_⟩, hb⟩
      have hn : n.length ≤ maxLen := Nat.le_trans h.2.2.2.2.1 (by decide)
      have hv : v.length ≤ maxLen := Nat.le_trans h.2.2.2.2.2.1 (by decide)
      have e : lives (some (n, v, age, at_)) t = [(n, v)] := by simp [lives, hl]
      rw [e]
      exact pairs_one h1 h2 c0 c1 hn hv
    | false =>
      refine (cookies_no b m (strB n) (strB v) age at_ t 0 1 w hc hJ.mp (by omega) h.1 h.2.1 ht h.2.2.1 h.2.2.2.1 hl).mono fun e w' ⟨he, hb⟩ => ⟨⟨_, he, ?_⟩, hb⟩
      have e : lives (some (n, v, age, at_)) t = [] := by simp [lives, hl]
      rw [e]
      exact pairs_nil _

set_option maxHeartbeats 2000000 in
/-- The jar, looked at. -/
theorem jar_J (b m : Nat) (J : Option (List UInt8 × List UInt8 × Int × Int)) (t now T : Int) (html wh : ByteArray) (there waits : Bool) (hops : Int) (V : World) (hV : V.heap[b]? = some (.cells ([.map (some m), .int .i64 t, .string html, .bool there, .string wh, .bool waits, .int .i64 hops]).toArray 82)) (hJ : JarIs V b m J t) (hT : T = max t now) (ht : T ≤ 9223372036854775807) :
    Calls Tryz.prog 19 #[.pointer (some ⟨b, 0, none⟩), .int .i64 now] V fun e w' => (∃ sl, e = .returned sl ∧ PairsV w' sl (lives J T)) ∧ Below V.heap.size V w' := by
  have hb : b < V.heap.size := (Array.getElem?_eq_some_iff.1 hV).1
  have c0 : V.cell? ⟨b, 0, none⟩ = some (.map (some m)) := by rw [Lib.cell_of_heap hV]; rfl
  have c1 : V.cell? ⟨b, 1, none⟩ = some (.int .i64 t) := by rw [Lib.cell_of_heap hV]; rfl
  have H : Hid (∀ U : World, Below V.heap.size V U → Calls Tryz.prog 41 #[.pointer (some ⟨b, 0, none⟩), .int .i64 T] U fun e w' => (∃ sl, e = .returned sl ∧ PairsV w' sl (lives J T)) ∧ Below U.heap.size U w') := fun U hU =>
    cookies_J b m J T U ((hU.cell (p := ⟨b, 0, none⟩) hb).trans c0) ((hJ.later (by omega)).below hU) ht
  clear hJ hV ht
  by_cases hlt : t < now
  · obtain rfl : T = now := by omega
    have hmx : decide (t < T) = true := by simp; omega
    have hmm : max t T = T := by omega
    clear hT
    go_enter Tryz.func19, Tryz.ntmps19
    go_wp2_with fail
    refine (H.out _ (by repeat (first | exact Below.refl _ _ | refine Below.alloc ?_ (by simp [go_sem]) _ | refine below_ext ?_ (by simp [go_sem]) _ _ | refine below_drewN ?_ _ | refine Below.drew ?_))).mono ?_
    rintro e w1 ⟨⟨sl, rfl, hp⟩, hb1⟩
    have HP := Lib.hid hp
    clear hp
    go_wp2_with fail
    go_ret
    exact ⟨⟨_, rfl, HP.out⟩, hb1⟩
  · obtain rfl : T = t := by omega
    have hmx : decide (T < now) = false := by simp; omega
    have hmm : max T now = T := by omega
    clear hT
    go_enter Tryz.func19, Tryz.ntmps19
    go_wp2_with fail
    refine (H.out _ (by repeat (first | exact Below.refl _ _ | refine Below.alloc ?_ (by simp [go_sem]) _ | refine below_ext ?_ (by simp [go_sem]) _ _ | refine below_drewN ?_ _ | refine Below.drew ?_))).mono ?_
    rintro e w1 ⟨⟨sl, rfl, hp⟩, hb1⟩
    have HP := Lib.hid hp
    clear hp
    go_wp2_with fail
    go_ret
    exact ⟨⟨_, rfl, HP.out⟩, hb1⟩

def hostL : List UInt8 := [104, 111, 115, 116]
def usherL : List UInt8 := [117, 115, 104, 101, 114]
def cookieL : List UInt8 := [99, 111, 111, 107, 105, 101]
/-- The fields of a request with these cookies. -/
def reqL (l : List (List UInt8 × List UInt8)) : List (List UInt8 × List UInt8) := if l = [] then [(hostL, usherL)] else [(hostL, usherL), (cookieL, cookL l)]
theorem pairs_two {V : World} {g k : Nat} {a b c d : List UInt8} (h1 : 2 ≤ k) (h2 : k ≤ maxLen) (c0 : V.cell? ⟨g, 0, none⟩ = some (.string (strB a))) (c1 : V.cell? ⟨g, 1, none⟩ = some (.string (strB b))) (c2 : V.cell? ⟨g, 2, none⟩ = some (.string (strB c))) (c3 : V.cell? ⟨g, 3, none⟩ = some (.string (strB d)))
    (ha : a.length ≤ maxLen) (hb : b.length ≤ maxLen) (hc : c.length ≤ maxLen) (hd : d.length ≤ maxLen) : PairsV V (.slice (some ⟨g, 0, none⟩) 2 k) [(a, b), (c, d)] := by
  refine ⟨_, _, rfl, h1, h2, .inr ⟨g, 0, rfl, ?_⟩⟩
  intro i p hp
  match i with
  | 0 => simp only [List.getElem?_cons_zero, Option.some.injEq] at hp; subst hp; exact ⟨c0, c1, ha, hb⟩
  | 1 => simp only [List.getElem?_cons_succ, List.getElem?_cons_zero, Option.some.injEq] at hp; subst hp; exact ⟨c2, c3, hc, hd⟩
  | i + 2 => simp at hp
/-- A visit, whatever the jar holds. -/
theorem visit_J (b m : Nat) (J : Option (List UInt8 × List UInt8 × Int × Int)) (t now T : Int) (html wh : ByteArray) (tg : List UInt8) (there waits : Bool) (hops : Int) (V : World) (hV : V.heap[b]? = some (.cells ([.map (some m), .int .i64 t, .string html, .bool there, .string wh, .bool waits, .int .i64 hops]).toArray 82)) (htg : tg.length ≤ maxLen) (hp : placeB tg = true) (hT : T = max t now)
    (hJ : JarIs V b m J t) (h2 : T ≤ 9223372036854775807) (hK : Kinds V) (hk : b ≠ 15) :
    Calls Tryz.prog 8 #[.pointer (some ⟨b, 0, none⟩), .int .i64 now, .string (strB tg)] V fun e w' =>
      (∃ sl, e = .returned (.tuple #[.agg #[.string (({ data := #[71, 69, 84] } : ByteArray)), .string (strB tg), .int .i64 1, sl, .string { data := #[] }, .bool false], .nilIface]) ∧ PairsV w' sl (reqL (lives J T))) ∧ Below V.heap.size (put V b 82 [.map (some m), .int .i64 T, .string html, .bool there, .string wh, .bool true, .int .i64 0]) w' := by
  have none_ : ∀ w' a n1 k, SentN V.heap.size a n1 k w' → PairsV w' (.slice a n1 k) [(hostL, usherL)] := by
    rintro w' a n1 k ⟨g, _, rfl, rfl, rfl, c0, c1⟩
    exact pairs_one (Nat.le_refl _) (by decide) c0 c1 (by decide) (by decide)
  cases J with
  | none =>
    refine (visit_none b m t now T html wh tg there waits hops V hV htg hp hT hJ.mp hJ.ne).mono ?_
    rintro e w' ⟨⟨a, n1, k, he, hs⟩, hb⟩
    exact ⟨⟨_, he, none_ _ _ _ _ hs⟩, hb⟩
  | some j =>
    obtain ⟨n, v, age, at_⟩ := j
    have h := hJ.ok n v age at_ rfl
    have hl1 : at_ ≤ T := by omega
    cases hl : lastsB age at_ T with
    | true =>
      refine (visit_fresh b m t now T html wh tg there waits hops V hV htg hp hT n v age at_ 0 1 hJ.one hl1 h2 hl hK hk h.2.2.2.2.1 h.2.2.2.2.2.1 h.2.2.2.2.2.2).mono ?_
      rintro e w' ⟨⟨a, n1, k, he, g, _, rfl, rfl, hk1, hk2, c0, c1, c2, c3⟩, hb⟩
      refine ⟨⟨_, he, ?_⟩, hb⟩
      have e : lives (some (n, v, age, at_)) T = [(n, v)] := by simp [lives, hl]
      rw [e, reqL, if_neg (by simp)]
      have hlen := cookL_len 2147483648 [(n, v)] (by intro p hp; simp only [List.mem_singleton] at hp; subst hp; simp only; omega)
      exact pairs_two hk1 hk2 c0 c1 c2 c3 (by decide) (by decide) (by decide) (Nat.le_trans hlen (show 1 * 2147483651 ≤ maxLen by decide))
    | false =>
      refine (visit_stale b m t now T html wh tg there waits hops V hV htg hp hT n v age at_ 0 1 hJ.one hl1 h2 hl).mono ?_
      rintro e w' ⟨⟨a, n1, k, he, hs⟩, hb⟩
      refine ⟨⟨_, he, ?_⟩, hb⟩
      have e : lives (some (n, v, age, at_)) T = [] := by simp [lives, hl]
      rw [e]
      exact none_ _ _ _ _ hs
end Go.Proofs.YtmeahkijpipgnaaGreatDoor
