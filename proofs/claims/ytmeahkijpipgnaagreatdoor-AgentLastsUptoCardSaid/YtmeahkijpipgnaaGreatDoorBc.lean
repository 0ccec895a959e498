/- What the agent sends with a jar of one. -/
import Derived.Test.YtmeahkijpipgnaaGreatDoorBb
import Derived.Test.YtmeahkijpipgnaaGreatDoorCkt
namespace Go.Proofs.YtmeahkijpipgnaaGreatDoor
open Go Go.RowKit

@[go_sem] theorem setCell_put_past (w : World) (b : Nat) (t : TypeId) (L : List Value) (k i : Nat) (v : Value) (h : ¬ k = b) : (put w b t L).setCell ⟨k, i, none⟩ v = put (w.setCell ⟨k, i, none⟩ v) b t L := setCell_put_other w b t L k i v h
theorem below_put_ge {B : Nat} {a w : World} {b : Nat} {t : TypeId} {L : List Value} (h : Below B a w) (hb : B ≤ b) : Below B a (put w b t L) := by
  obtain ⟨h1, h2, h3, h4, h5⟩ := h
  exact ⟨h1, h2, h3, by rw [size_put]; exact h4, fun k hk => (heap_put_other w b t L k (by omega)).trans (h5 k hk)⟩
theorem below_put2 {B : Nat} {W V : World} {b : Nat} {t : TypeId} {L M : List Value} (h : Below B (put W b t L) V) (hW : b < W.heap.size) (hV : b < V.heap.size) : Below B (put W b t M) (put V b t M) := by
  obtain ⟨h1, h2, h3, h4, h5⟩ := h
  refine ⟨h1, h2, h3, by rw [size_put, size_put]; rw [size_put] at h4; exact h4, fun k hk => ?_⟩
  by_cases e : k = b
  · subst e; rw [heap_put _ _ _ _ hV, heap_put _ _ _ _ hW]
  · rw [heap_put_other _ _ _ _ _ e, heap_put_other _ _ _ _ _ e, h5 k hk, heap_put_other _ _ _ _ _ e]
/-- The jar of one, in a world. -/
structure JarOne (W : World) (b m : Nat) (n v : List UInt8) (age at_ : Int) (born clock : Nat) : Prop where
  ne : m ≠ b
  mp : W.heap[m]? = some (.map #[entryOf (strB n) (strB v) age at_ born] clock)
  bc : born < clock
  a0 : 0 ≤ at_
  g0 : -9223372036854775808 ≤ age
  g1 : age ≤ 9223372036854775807
theorem JarOne.below {W V : World} {b m : Nat} {n v : List UInt8} {age at_ : Int} {born clock : Nat} (h : JarOne W b m n v age at_ born clock) (hb : Below W.heap.size W V) : JarOne V b m n v age at_ born clock :=
  ⟨h.ne, (hb.block _ (Array.getElem?_eq_some_iff.1 h.mp).1).trans h.mp, h.bc, h.a0, h.g0, h.g1⟩
theorem JarOne.put {W : World} {b m : Nat} {n v : List UInt8} {age at_ : Int} {born clock : Nat} (h : JarOne W b m n v age at_ born clock) (t : TypeId) (L : List Value) : JarOne (YtmeahkijpipgnaaGreatDoor.put W b t L) b m n v age at_ born clock :=
  ⟨h.ne, (heap_put_other W b t L m h.ne).trans h.mp, h.bc, h.a0, h.g0, h.g1⟩

set_option maxHeartbeats 4000000 in
theorem send_stale (b m : Nat) (t : Int) (html wh tg : ByteArray) (there waits : Bool) (hops : Int) (W : World) (hb : b < W.heap.size) (n v : List UInt8) (age at_ : Int) (born clock : Nat) (hJ : JarOne W b m n v age at_ born clock) (h1 : at_ ≤ t) (h2 : t ≤ 9223372036854775807) (hl : lastsB age at_ t = false) :
    Calls Tryz.prog 29 #[.pointer (some ⟨b, 0, none⟩), .string { data := #[71, 69, 84] }, .string tg, .string { data := #[] }] (put W b 82 [.map (some m), .int .i64 t, .string html, .bool there, .string wh, .bool waits, .int .i64 hops]) fun e w' =>
      (∃ g : Nat, W.heap.size ≤ g ∧ e = .returned (.agg #[.string (({ data := #[71, 69, 84] } : ByteArray)), .string tg, .int .i64 1, (.slice (some ⟨g, 0, none⟩) 1 1), .string { data := #[] }, .bool false]) ∧ w'.cell? ⟨g, 0, none⟩ = some (.string { data := #[104, 111, 115, 116] }) ∧ w'.cell? ⟨g, 1, none⟩ = some (.string { data := #[117, 115, 104, 101, 114] })) ∧ Below W.heap.size (put W b 82 [.map (some m), .int .i64 t, .string html, .bool there, .string wh, .bool true, .int .i64 hops]) w' := by
  have hml : m < W.heap.size := (Array.getElem?_eq_some_iff.1 hJ.mp).1
  have hne := hJ.ne
  have hnb : ¬ b = m := fun e => hne e.symm
  have HJ := Lib.hid hJ
  have HL := Lib.hid hl
  clear hJ hl
  have nb0 : ¬ b = W.heap.size := (by omega); have nb1 : ¬ b = W.heap.size + 1 := (by omega); have nb2 : ¬ b = W.heap.size + 1 + 1 := (by omega); have nb3 : ¬ b = W.heap.size + 1 + 1 + 1 := (by omega); have hb1 : b < W.heap.size + 1 := (by omega); have hb2 : b < W.heap.size + 1 + 1 := (by omega); have hb3 : b < W.heap.size + 1 + 1 + 1 := (by omega); have hb4 : b < W.heap.size + 1 + 1 + 1 + 1 := (by omega); have lb0 : b ≤ W.heap.size := (by omega); have lb1 : b ≤ W.heap.size + 1 := (by omega); have lb2 : b ≤ W.heap.size + 1 + 1 := (by omega); have lb3 : b ≤ W.heap.size + 1 + 1 + 1 := (by omega); have lb4 : b ≤ W.heap.size + 1 + 1 + 1 + 1 := (by omega)
  go_enter Tryz.func29, Tryz.ntmps29
  go_wp2_with fail
  refine (cookies_no b m (strB n) (strB v) age at_ t born clock _ ?_ ?_ HJ.out.bc HJ.out.a0 h1 h2 HJ.out.g0 HJ.out.g1 HL.out).mono ?_
  · go_simp
  · rw [heap_alloc_old _ _ (by simp [go_sem]; omega), heap_alloc_old _ _ (by simp [go_sem]; omega), heap_alloc_old _ _ (by simp [go_sem]; omega), heap_put_other W b 82 _ m hne]; exact HJ.out.mp
  rintro e w1 ⟨rfl, hb1⟩
  obtain ⟨X1, n1, rfl⟩ := Below_ext hb1; clear hb1
  go_wp2_with fail
  refine bodyPost_ret (v := .agg #[.string (({ data := #[71, 69, 84] } : ByteArray)), .string tg, .int .i64 1, (.slice (some ⟨W.heap.size + 1, 0, none⟩) 1 1), .string { data := #[] }, .bool false]) ?_ rfl ⟨⟨_, Nat.le_succ _, rfl, ?_, ?_⟩, ?_⟩
  · simp [results, Tryz.results29, go_sem]
  · simp [go_sem]
  · simp [go_sem]
  · exact (by repeat (first | exact Below.refl _ _ | refine Below.alloc ?_ (by simp [go_sem]) _ | refine below_ext ?_ (by simp [go_sem]) _ _ | refine below_drewN ?_ _ | refine Below.drew ?_))
theorem pairs_one {V : World} {g k : Nat} {n v : List UInt8} (h1 : 1 ≤ k) (h2 : k ≤ maxLen) (c0 : V.cell? ⟨g, 0, none⟩ = some (.string (strB n))) (c1 : V.cell? ⟨g, 1, none⟩ = some (.string (strB v))) (hn : n.length ≤ maxLen) (hv : v.length ≤ maxLen) : PairsV V (.slice (some ⟨g, 0, none⟩) 1 k) [(n, v)] := by
  refine ⟨_, _, rfl, h1, h2, .inr ⟨g, 0, rfl, ?_⟩⟩
  intro i p hp
  cases i with
  | zero => simp only [List.getElem?_cons_zero, Option.some.injEq] at hp; subst hp; exact ⟨c0, c1, hn, hv⟩
  | succ i => simp at hp
theorem Kinds.put {W : World} {b : Nat} (h : Kinds W) (hk : b ≠ 15) (t : TypeId) (L : List Value) : Kinds (YtmeahkijpipgnaaGreatDoor.put W b t L) := fun i hi => (cell?_put_other W b t L 15 i (Ne.symm hk)).trans (h i hi)

set_option maxHeartbeats 4000000 in
theorem send_fresh (b m : Nat) (t : Int) (html wh tg : ByteArray) (there waits : Bool) (hops : Int) (W : World) (hb : b < W.heap.size) (n v : List UInt8) (age at_ : Int) (born clock : Nat) (hJ : JarOne W b m n v age at_ born clock) (h1 : at_ ≤ t) (h2 : t ≤ 9223372036854775807) (hl : lastsB age at_ t = true)
    (hK : Kinds W) (hk : b ≠ 15) (hnl : n.length ≤ 1073741824) (hvl : v.length ≤ 1073741824) (hmay : cmayB n v = true) :
    Calls Tryz.prog 29 #[.pointer (some ⟨b, 0, none⟩), .string { data := #[71, 69, 84] }, .string tg, .string { data := #[] }] (put W b 82 [.map (some m), .int .i64 t, .string html, .bool there, .string wh, .bool waits, .int .i64 hops]) fun e w' =>
      (∃ g : Nat, ∃ k, W.heap.size ≤ g ∧ 2 ≤ k ∧ k ≤ maxLen ∧ e = .returned (.agg #[.string (({ data := #[71, 69, 84] } : ByteArray)), .string tg, .int .i64 1, (.slice (some ⟨g, 0, none⟩) 2 k), .string { data := #[] }, .bool false]) ∧ w'.cell? ⟨g, 0, none⟩ = some (.string { data := #[104, 111, 115, 116] }) ∧ w'.cell? ⟨g, 1, none⟩ = some (.string { data := #[117, 115, 104, 101, 114] }) ∧ w'.cell? ⟨g, 2, none⟩ = some (.string { data := #[99, 111, 111, 107, 105, 101] }) ∧ w'.cell? ⟨g, 3, none⟩ = some (.string (strB (cookL [(n, v)])))) ∧ Below W.heap.size (put W b 82 [.map (some m), .int .i64 t, .string html, .bool there, .string wh, .bool true, .int .i64 hops]) w' := by
  have hml : m < W.heap.size := (Array.getElem?_eq_some_iff.1 hJ.mp).1
  have hne := hJ.ne
  have hnb : ¬ b = m := fun e => hne e.symm
  have HJ := Lib.hid hJ
  have HL := Lib.hid hl
  have HK := Lib.hid hK
  have HM := Lib.hid hmay
  clear hJ hl hK hmay
  have nb0 : ¬ b = W.heap.size := (by omega); have nb1 : ¬ b = W.heap.size + 1 := (by omega); have nb2 : ¬ b = W.heap.size + 1 + 1 := (by omega); have nb3 : ¬ b = W.heap.size + 1 + 1 + 1 := (by omega); have hb1 : b < W.heap.size + 1 := (by omega); have hb2 : b < W.heap.size + 1 + 1 := (by omega); have hb3 : b < W.heap.size + 1 + 1 + 1 := (by omega); have hb4 : b < W.heap.size + 1 + 1 + 1 + 1 := (by omega); have lb0 : b ≤ W.heap.size := (by omega); have lb1 : b ≤ W.heap.size + 1 := (by omega); have lb2 : b ≤ W.heap.size + 1 + 1 := (by omega); have lb3 : b ≤ W.heap.size + 1 + 1 + 1 := (by omega); have lb4 : b ≤ W.heap.size + 1 + 1 + 1 + 1 := (by omega)
  go_enter Tryz.func29, Tryz.ntmps29
  go_wp2_with fail
  refine (cookies_yes b m (strB n) (strB v) age at_ t born clock _ ?_ ?_ HJ.out.bc HJ.out.a0 h1 h2 HJ.out.g0 HJ.out.g1 HL.out).mono ?_
  · go_simp
  · rw [heap_alloc_old _ _ (by simp [go_sem]; omega), heap_alloc_old _ _ (by simp [go_sem]; omega), heap_alloc_old _ _ (by simp [go_sem]; omega), heap_put_other W b 82 _ m hne]; exact HJ.out.mp
  rintro e w1 ⟨⟨g, k, hk1, hk2, rfl, hg0, hg1⟩, hb1⟩
  obtain ⟨X1, n1, rfl⟩ := Below_ext hb1; clear hb1
  go_wp2_with fail
  have hPV := pairs_one hk1 hk2 hg0 hg1 (by unfold maxLen; omega) (by unfold maxLen; omega)
  refine (cookieText_ok [(n, v)] _ _ hPV ((HK.out.put hk 82 [.map (some m), .int .i64 t, .string html, .bool there, .string wh, .bool waits, .int .i64 hops]).below (by repeat (first | exact Below.refl _ _ | refine Below.alloc ?_ (by simp [go_sem]) _ | refine below_ext ?_ (by simp [go_sem]) _ _ | refine below_drewN ?_ _ | refine Below.drew ?_))) (by simp) (by simp; omega) (by simp; exact HM.out)).mono ?_
  rintro e w1 ⟨rfl, hb1⟩
  obtain ⟨X2, n2, rfl⟩ := Below_ext hb1; clear hb1
  clear hPV
  have hct : (cookL [(n, v)]).length ≤ maxLen := by simp [cookL, maxLen]; omega
  generalize hcc : cookL [(n, v)] = ct at *
  have HCC := Lib.hid hcc
  clear hcc
  obtain ⟨V, hV⟩ : ∃ V, V = ext ((((put W b 82 [.map (some m), .int .i64 t, .string html, .bool there, .string wh, .bool waits, .int .i64 hops]).alloc (Obj.cells #[Value.string { data := #[] }, Value.string { data := #[] }, Value.int IntKind.i64 0, Value.slice none 0 0, Value.string { data := #[] }, Value.bool false] 30)).alloc (Obj.cells #[Value.string { data := #[104, 111, 115, 116] }, Value.string { data := #[117, 115, 104, 101, 114] }] 40)).alloc (Obj.cells #[Value.string { data := #[71, 69, 84] }, Value.string tg, Value.int IntKind.i64 1, Value.slice (some { block := W.heap.size + 1, off := 0 }) 1 1, Value.string { data := #[] }, Value.bool false] 30)) (X1 ++ X2) n2 := ⟨_, rfl⟩
  rw [ext_ext, ← hV]
  have v1 : V.heap[b]? = some (.cells ([.map (some m), .int .i64 t, .string html, .bool there, .string wh, .bool waits, .int .i64 hops]).toArray 82) := by
    rw [hV, heap_ext _ _ _ _ (by simp [go_sem]; omega), heap_alloc_old _ _ (by simp [go_sem]; omega), heap_alloc_old _ _ (by simp [go_sem]; omega), heap_alloc_old _ _ (by simp [go_sem]; omega)]; exact heap_put _ _ _ _ hb
  have v2 : V.heap[W.heap.size + 1 + 1]? = some (.cells ([Value.string { data := #[71, 69, 84] }, Value.string tg, Value.int IntKind.i64 1, Value.slice (some { block := W.heap.size + 1, off := 0 }) 1 1, Value.string { data := #[] }, Value.bool false] : List Value).toArray 30) := by
    rw [hV, heap_ext _ _ _ _ (by simp [go_sem])]
    have := heap_alloc_new (((put W b 82 [.map (some m), .int .i64 t, .string html, .bool there, .string wh, .bool waits, .int .i64 hops]).alloc (Obj.cells #[Value.string { data := #[] }, Value.string { data := #[] }, Value.int IntKind.i64 0, Value.slice none 0 0, Value.string { data := #[] }, Value.bool false] 30)).alloc (Obj.cells #[Value.string { data := #[104, 111, 115, 116] }, Value.string { data := #[117, 115, 104, 101, 114] }] 40)) (Obj.cells #[Value.string { data := #[71, 69, 84] }, Value.string tg, Value.int IntKind.i64 1, Value.slice (some { block := W.heap.size + 1, off := 0 }) 1 1, Value.string { data := #[] }, Value.bool false] 30)
    rw [World.size_alloc, World.size_alloc, size_put] at this
    exact this
  have v6 : V.heap[W.heap.size]? = some (.cells ([Value.string { data := #[] }, Value.string { data := #[] }, Value.int IntKind.i64 0, Value.slice none 0 0, Value.string { data := #[] }, Value.bool false] : List Value).toArray 30) := by
    rw [hV, heap_ext _ _ _ _ (by simp [go_sem]), heap_alloc_old _ _ (by simp [go_sem]), heap_alloc_old _ _ (by simp [go_sem])]
    have := heap_alloc_new (put W b 82 [.map (some m), .int .i64 t, .string html, .bool there, .string wh, .bool waits, .int .i64 hops]) (Obj.cells #[Value.string { data := #[] }, Value.string { data := #[] }, Value.int IntKind.i64 0, Value.slice none 0 0, Value.string { data := #[] }, Value.bool false] 30)
    rw [size_put] at this
    exact this
  have v3 : V.cell? ⟨W.heap.size + 1, 0, none⟩ = some (.string { data := #[104, 111, 115, 116] }) := by rw [hV]; simp [go_sem]
  have v4 : V.cell? ⟨W.heap.size + 1, 1, none⟩ = some (.string { data := #[117, 115, 104, 101, 114] }) := by rw [hV]; simp [go_sem]
  have v5 : Below W.heap.size (put W b 82 [.map (some m), .int .i64 t, .string html, .bool there, .string wh, .bool waits, .int .i64 hops]) V := by rw [hV]; exact (by repeat (first | exact Below.refl _ _ | refine Below.alloc ?_ (by simp [go_sem]) _ | refine below_ext ?_ (by simp [go_sem]) _ _ | refine below_drewN ?_ _ | refine Below.drew ?_))
  have l2 : W.heap.size + 1 + 1 < V.heap.size := (Array.getElem?_eq_some_iff.1 v2).1
  clear hV hg0 hg1
  have q1 : ¬ W.heap.size + 1 + 1 = b := by omega
  have V2 := eq_put V b 82 _ v1
  have V3 := eq_put (put V b 82 [.map (some m), .int .i64 t, .string html, .bool there, .string wh, .bool waits, .int .i64 hops]) (W.heap.size + 1 + 1) 30 _ ((heap_put_other V b 82 _ _ q1).trans v2)
  have V5 := Lib.hid v5
  have q7 : ¬ W.heap.size = b := by omega
  have q8 : ¬ W.heap.size = W.heap.size + 1 + 1 := by omega
  have V4 := eq_put (put (put V b 82 [.map (some m), .int .i64 t, .string html, .bool there, .string wh, .bool waits, .int .i64 hops]) (W.heap.size + 1 + 1) 30 [Value.string { data := #[71, 69, 84] }, Value.string tg, Value.int IntKind.i64 1, Value.slice (some { block := W.heap.size + 1, off := 0 }) 1 1, Value.string { data := #[] }, Value.bool false]) W.heap.size 30 _ ((heap_put_other _ _ _ _ _ q8).trans ((heap_put_other V b 82 _ _ q7).trans v6))
  clear v5 v1 v2 v6
  rw [V2, V3, V4]
  clear V2 V3 V4
  have hlV : W.heap.size < V.heap.size := by omega
  obtain ⟨q, hq⟩ : ∃ q, q = W.heap.size + 1 + 1 := ⟨_, rfl⟩
  obtain ⟨h, hh⟩ : ∃ h, h = W.heap.size + 1 := ⟨_, rfl⟩
  obtain ⟨r, hr⟩ : ∃ r, r = W.heap.size := ⟨_, rfl⟩
  rw [← hq, ← hh, ← hr]
  rw [← hq] at l2 q1 q8
  rw [← hr] at hlV q7 q8
  rw [← hh] at v3 v4
  have q2 : ¬ b = q := by omega
  have q3 : ¬ h = b := by omega
  have q4 : ¬ b = h := by omega
  have q5 : ¬ h = q := by omega
  have q6 : ¬ q = h := by omega
  have q9 : ¬ b = r := by omega
  have q10 : ¬ q = r := by omega
  have q11 : ¬ h = r := by omega
  have q12 : ¬ r = h := by omega
  have lb : b < V.heap.size := by omega
  have lh : h < V.heap.size := by omega
  have Q := Lib.hid hq
  have HH := Lib.hid hh
  have RR := Lib.hid hr
  clear hq hh hr
  have nb0 : ¬ r = V.heap.size := (by omega); have nb1 : ¬ r = V.heap.size + 1 := (by omega); have nb2 : ¬ r = V.heap.size + 1 + 1 := (by omega); have nb3 : ¬ r = V.heap.size + 1 + 1 + 1 := (by omega); have hb1 : r < V.heap.size + 1 := (by omega); have hb2 : r < V.heap.size + 1 + 1 := (by omega); have hb3 : r < V.heap.size + 1 + 1 + 1 := (by omega); have hb4 : r < V.heap.size + 1 + 1 + 1 + 1 := (by omega); have lb0 : r ≤ V.heap.size := (by omega); have lb1 : r ≤ V.heap.size + 1 := (by omega); have lb2 : r ≤ V.heap.size + 1 + 1 := (by omega); have lb3 : r ≤ V.heap.size + 1 + 1 + 1 := (by omega); have lb4 : r ≤ V.heap.size + 1 + 1 + 1 + 1 := (by omega)
  have nb0 : ¬ b = V.heap.size := (by omega); have nb1 : ¬ b = V.heap.size + 1 := (by omega); have nb2 : ¬ b = V.heap.size + 1 + 1 := (by omega); have nb3 : ¬ b = V.heap.size + 1 + 1 + 1 := (by omega); have hb1 : b < V.heap.size + 1 := (by omega); have hb2 : b < V.heap.size + 1 + 1 := (by omega); have hb3 : b < V.heap.size + 1 + 1 + 1 := (by omega); have hb4 : b < V.heap.size + 1 + 1 + 1 + 1 := (by omega); have lb0 : b ≤ V.heap.size := (by omega); have lb1 : b ≤ V.heap.size + 1 := (by omega); have lb2 : b ≤ V.heap.size + 1 + 1 := (by omega); have lb3 : b ≤ V.heap.size + 1 + 1 + 1 := (by omega); have lb4 : b ≤ V.heap.size + 1 + 1 + 1 + 1 := (by omega)
  have nb0 : ¬ q = V.heap.size := (by omega); have nb1 : ¬ q = V.heap.size + 1 := (by omega); have nb2 : ¬ q = V.heap.size + 1 + 1 := (by omega); have nb3 : ¬ q = V.heap.size + 1 + 1 + 1 := (by omega); have hb1 : q < V.heap.size + 1 := (by omega); have hb2 : q < V.heap.size + 1 + 1 := (by omega); have hb3 : q < V.heap.size + 1 + 1 + 1 := (by omega); have hb4 : q < V.heap.size + 1 + 1 + 1 + 1 := (by omega); have lb0 : q ≤ V.heap.size := (by omega); have lb1 : q ≤ V.heap.size + 1 := (by omega); have lb2 : q ≤ V.heap.size + 1 + 1 := (by omega); have lb3 : q ≤ V.heap.size + 1 + 1 + 1 := (by omega); have lb4 : q ≤ V.heap.size + 1 + 1 + 1 + 1 := (by omega)
  have nb0 : ¬ h = V.heap.size := (by omega); have nb1 : ¬ h = V.heap.size + 1 := (by omega); have nb2 : ¬ h = V.heap.size + 1 + 1 := (by omega); have nb3 : ¬ h = V.heap.size + 1 + 1 + 1 := (by omega); have hb1 : h < V.heap.size + 1 := (by omega); have hb2 : h < V.heap.size + 1 + 1 := (by omega); have hb3 : h < V.heap.size + 1 + 1 + 1 := (by omega); have hb4 : h < V.heap.size + 1 + 1 + 1 + 1 := (by omega); have lb0 : h ≤ V.heap.size := (by omega); have lb1 : h ≤ V.heap.size + 1 := (by omega); have lb2 : h ≤ V.heap.size + 1 + 1 := (by omega); have lb3 : h ≤ V.heap.size + 1 + 1 + 1 := (by omega); have lb4 : h ≤ V.heap.size + 1 + 1 + 1 + 1 := (by omega)
  obtain ⟨U, hU⟩ : ∃ U, U = put (put (put V b 82 [.map (some m), .int .i64 t, .string html, .bool there, .string wh, .bool waits, .int .i64 hops]) q 30 [Value.string { data := #[71, 69, 84] }, Value.string tg, Value.int IntKind.i64 1, Value.slice (some { block := h, off := 0 }) 1 1, Value.string { data := #[] }, Value.bool false]) r 30 [Value.string { data := #[] }, Value.string { data := #[] }, Value.int IntKind.i64 0, Value.slice none 0 0, Value.string { data := #[] }, Value.bool false] := ⟨_, rfl⟩
  obtain ⟨cap, hcap⟩ : ∃ cap, cap = (Question.appendCap 2 1 40).cut (U.tape U.drawn (Question.appendCap 2 1 40)) := ⟨_, rfl⟩
  have hc1 : 2 ≤ cap ∧ cap ≤ maxLen := by
    rw [hcap]
    show 2 ≤ 2 + _ % (2 ^ 63 - 2) ∧ 2 + _ % (2 ^ 63 - 2) ≤ maxLen
    have := Nat.mod_lt (U.tape U.drawn (Question.appendCap 2 1 40)) (show 0 < 2 ^ 63 - 2 by decide)
    unfold maxLen
    omega
  have HC1 := Lib.hid hc1
  rw [hU] at hcap
  have HC := Lib.hid hcap
  clear hU hcap hc1
  go_wp2_with fail
  rw [← HC.out]
  refine bodyPost_ret (v := .agg #[.string (({ data := #[71, 69, 84] } : ByteArray)), .string tg, .int .i64 1, (.slice (some ⟨V.heap.size + 1, 0, none⟩) 2 cap), .string { data := #[] }, .bool false]) ?_ rfl ⟨⟨_, cap, (by have := RR.out; omega), HC1.out.1, HC1.out.2, rfl, ?_, ?_, ?_, ?_⟩, ?_⟩
  · have r1 : r < V.heap.size + 1 := by omega
    simp [results, Tryz.results29, go_sem, hlV, r1]
  · rw [show ∀ W : World, ∀ p, W.drew.cell? p = W.cell? p from fun _ _ => rfl, World.cell?_alloc_at _ _ _ _ (by simp only [World.size_alloc, size_put]), Array.getElem?_append_left (by simp)]
    rfl
  · rw [show ∀ W : World, ∀ p, W.drew.cell? p = W.cell? p from fun _ _ => rfl, World.cell?_alloc_at _ _ _ _ (by simp only [World.size_alloc, size_put]), Array.getElem?_append_left (by simp)]
    rfl
  · rw [show ∀ W : World, ∀ p, W.drew.cell? p = W.cell? p from fun _ _ => rfl, World.cell?_alloc_at _ _ _ _ (by simp only [World.size_alloc, size_put]), Array.getElem?_append_right (by simp), Array.getElem?_append_left (by simp)]
    rfl
  · rw [show ∀ W : World, ∀ p, W.drew.cell? p = W.cell? p from fun _ _ => rfl, World.cell?_alloc_at _ _ _ _ (by simp only [World.size_alloc, size_put]), Array.getElem?_append_right (by simp), Array.getElem?_append_left (by simp), HCC.out]
    rfl
  · have rW := RR.out
    have qW := Q.out
    refine Below.drew (Below.alloc (Below.alloc (below_put_ge (below_put_ge (below_put2 V5.out hb lb) (by omega)) (by omega)) ?_ _) ?_ _)
    · simp only [size_put]; omega
    · simp only [World.size_alloc, size_put]; omega
end Go.Proofs.YtmeahkijpipgnaaGreatDoor
