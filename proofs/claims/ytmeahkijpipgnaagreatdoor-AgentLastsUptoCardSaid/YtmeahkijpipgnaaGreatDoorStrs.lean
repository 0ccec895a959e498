/- Strings as lists of bytes; rows of bytes; numbers in so many digits. For any program. -/
import Derived.Test.YtmeahkijpipgnaaGreatDoorExt
import Derived.Laws.BytesArg
import Derived.Laws.OwnMore
import Derived.Laws.MakeOwn
namespace Go.Proofs.YtmeahkijpipgnaaGreatDoor
open Go Go.RowKit

theorem ret_bool {a b : Bool} (h : a = b) : Ending.returned (.bool a) = .returned (.bool b) := by rw [h]
theorem ret_int {k : IntKind} {a b : Int} (h : a = b) : Ending.returned (.int k a) = .returned (.int k b) := by rw [h]
theorem ret_str {a b : ByteArray} (h : a = b) : Ending.returned (.string a) = .returned (.string b) := by rw [h]
theorem wrapId (n : Int) (h0 : -9223372036854775808 ≤ n) (h1 : n ≤ 9223372036854775807) : wrap64 n = n := IntWalk.wrap64_in n ⟨h0, h1⟩
theorem quiet_add_left {P : Program} {f : FuncId} {args : Array Value} {w : World} {a n : Nat} {v : Value}
    (h : Calls P f args (w.drewN (a + n)) fun e w' => e = .returned v ∧ w.drewN (a + n) = w') :
    Calls P f args (w.drewN (a + n)) fun e w'' => e = .returned v ∧ ∃ m, w'' = w.drewN (a + m) :=
  h.mono fun _ _ ⟨he, hm⟩ => ⟨he, n, hm.symm⟩
theorem quiet_left {P : Program} {f : FuncId} {args : Array Value} {w : World} {n : Nat} {v : Value}
    (h : Calls P f args (w.drewN n) fun e w' => e = .returned v ∧ w.drewN n = w') : Calls P f args (w.drewN n) fun e w'' => e = .returned v ∧ ∃ m, w'' = w.drewN m :=
  h.mono fun _ _ ⟨he, hm⟩ => ⟨he, n, hm.symm⟩
theorem below_drewN {B : Nat} {a w : World} (h : Below B a w) (n : Nat) : Below B a (w.drewN n) := ⟨h.os, h.tape, h.output, h.size, h.block⟩

/-- What a region that calls and loads keeps: see go_region_held3. -/
theorem keepS {W a b : World} (h : Below W.heap.size W a ∧ ∀ b o, b < W.heap.size → a.cell? ⟨b, o, none⟩ = W.cell? ⟨b, o, none⟩) (k : Below a.heap.size a b) :
    Below W.heap.size W b ∧ ∀ c o, c < W.heap.size → b.cell? ⟨c, o, none⟩ = W.cell? ⟨c, o, none⟩ :=
  ⟨h.1.trans (k.mono h.1.size), fun c o hc => (k.cell (p := ⟨c, o, none⟩) (Nat.lt_of_lt_of_le hc h.1.size)).trans (h.2 c o hc)⟩

def strB (l : List UInt8) : ByteArray := ⟨l.toArray⟩
theorem strB_size (l : List UInt8) : (strB l).size = l.length := by simp [strB, ByteArray.size]
theorem strB_list (l : List UInt8) : (strB l).data.toList = l := by simp [strB]
theorem strB_toList (l : List UInt8) : (strB l).toList = l := by rw [ByteArray.toList_eq]; simp [strB]
theorem strB_eta (s : ByteArray) : strB s.data.toList = s := by simp [strB]
theorem strB_append (a b : List UInt8) : strB a ++ strB b = strB (a ++ b) := ByteArray.mk_append_mk a b
theorem toList_append (a b : ByteArray) : (a ++ b).toList = a.toList ++ b.toList := by
  rw [← strB_eta a, ← strB_eta b, strB_append, strB_toList, strB_toList, strB_toList]
theorem toList_inj {a b : ByteArray} (h : a.toList = b.toList) : a = b := by
  rw [ByteArray.toList_eq, ByteArray.toList_eq] at h; rw [← strB_eta a, ← strB_eta b, h]
def byteV (b : UInt8) : Value := .int .u8 (b.toNat : Int)

/-- A number in so many digits, as bytes. -/
def padL : Nat → Int → List UInt8
  | 0, _ => []
  | w + 1, n => padL w (n / 10) ++ [UInt8.ofNat (48 + n % 10).toNat]
def padS (w : Nat) (n : Int) : ByteArray := strB (padL w n)
theorem padL_length (w : Nat) : ∀ n, (padL w n).length = w := by
  induction w with
  | zero => intro n; rfl
  | succ w ih => intro n; simp [padL, ih]
theorem padS_size (w : Nat) (n : Int) : (padS w n).size = w := by rw [padS, strB_size, padL_length]
theorem padS_toList (w : Nat) (n : Int) : (padS w n).toList = padL w n := by rw [padS, strB_toList]
theorem digit_byteV (m : Int) : byteV (UInt8.ofNat (48 + m % 10).toNat) = .int .u8 (48 + m % 10) := by
  unfold byteV
  congr 1
  have : (48 + m % 10).toNat < 256 := by omega
  rw [UInt8.toNat_ofNat_of_lt' this]
  omega

/-- A row of bytes, converted to a string. -/
theorem conv_row {P : Program} (w : World) (src e dst : TypeId) (hs : P.underlying src = some (.slice e)) (he : P.underlying e = some (.int .u8)) (hd : P.underlying dst = some .string) (b off len cap : Nat) (l : List UInt8) (hl : l.length = len)
    (hcell : ∀ i, i < len → w.cell? ⟨b, off + i, none⟩ = some (byteV (l.getD i 0))) :
    (convert src dst (.slice (some ⟨b, off, none⟩) len cap)).run P w = .ok (.string (strB l)) w := by
  have h := run_convert_bytes_arg (P := P) w src e hs he b off len cap (l.map fun c => (c.toNat : Int)) (by simpa using hl) (fun i hi => by
    rw [hcell i hi]; unfold byteV; congr 2
    simp [List.getD_eq_getElem?_getD, List.getElem?_map]
    rw [List.getElem?_eq_getElem (by omega)]; simp) dst hd
  rw [h]
  congr 2
  simp [strOfNums, strB, Function.comp_def]

/-- make([]byte, n). -/
theorem make_bytes {P : Program} (t e : TypeId) (ht : P.underlying t = some (.slice e)) (hi : (P.info? e).map (fun i => (i.zero, i.size, i.bytes)) = some (some (.int .u8 0), 1, 1)) (n : Nat) (hn : n ≤ 140737488355328) (W : World) :
    (Instr.makeSlice t (.int .i64 (n : Int)) (.int .i64 (n : Int))).run P W = .ok (.slice (some ⟨W.heap.size, 0, none⟩) n n) (W.alloc (row e (List.replicate n (.int .u8 0)))) := by
  obtain ⟨i, hi, hz⟩ := Option.map_eq_some_iff.1 hi
  simp only [Prod.mk.injEq] at hz
  have h := run_make (P := P) W t e i (.int .u8 0) ht hi hz.1 .i64 .i64 n n (by omega) (by omega) (by rw [hz.2.2]; omega) (by omega)
  simp only [Int.toNat_natCast, hz.2.1, Nat.mul_one] at h
  rw [h]
  have e : madeCells (Value.int .u8 0).cells n = (List.replicate n (Value.int .u8 0)).toArray := by
    rw [← Array.toList_inj]; show (madeCells #[Value.int .u8 0] n).toList = _; rw [toList_madeCells_one]
  rw [e]; rfl

end Go.Proofs.YtmeahkijpipgnaaGreatDoor
