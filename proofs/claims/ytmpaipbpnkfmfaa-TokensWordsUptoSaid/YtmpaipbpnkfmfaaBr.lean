/-
  PLAIN: between the printed functions' strings (bytes in an array) and lists of whole numbers; and the parts of the tests on bytes. Conditions: none.
-/
import Derived.Test.YtmpaipbpnkfmfaaTok
import Derived.Test.YtmpaipbpnkfmfaaWWords
import Derived.Lib.Strings
import Derived.Laws.BitsLemmas
namespace Go.Proofs.Ytmpaipbpnkfmfaa.Br
open Go.RowKit Go.Proofs.YtmpaipbpnkfmfaaW.PrintWords

def bs (s : ByteArray) : List Int := s.data.toList.map fun b => (b.toNat : Int)
theorem bs_length (s : ByteArray) : (bs s).length = s.size := by unfold bs; rw [List.length_map, Array.length_toList]; rfl
theorem bs_bytes (s : ByteArray) : ∀ c ∈ bs s, 0 ≤ c ∧ c ≤ 255 := by
  intro c hc
  unfold bs at hc
  obtain ⟨b, _, rfl⟩ := List.mem_map.1 hc
  have := b.toNat_lt
  omega
theorem bs_get (s : ByteArray) (i : Nat) (h : i < s.size) : (bs s)[i]? = some (bt s (i : Int)) := by
  unfold bs
  have h' : i < s.data.toList.length := by rw [Array.length_toList]; exact h
  rw [List.getElem?_map, List.getElem?_eq_getElem h']
  simp only [Option.map_some, Option.some.injEq]
  have e := bt_at s (i : Int) (by simpa using h)
  rw [← e]
  simp only [Int.toNat_natCast, Array.getElem_toList]
  rfl
theorem bs_drop (s : ByteArray) (i : Nat) (h : i < s.size) : (bs s).drop i = bt s (i : Int) :: (bs s).drop (i + 1) := by
  have e := bs_get s i h
  obtain ⟨h', e'⟩ := List.getElem?_eq_some_iff.1 e
  rw [List.drop_eq_getElem_cons h', e']
theorem bs_drop_all (s : ByteArray) (i : Nat) (h : s.size ≤ i) : (bs s).drop i = [] := List.drop_eq_nil_of_le (by rw [bs_length]; exact h)
theorem map_ofNat (l : List UInt8) : (l.map fun b => (b.toNat : Int)).map (fun n => UInt8.ofNat n.toNat) = l := by
  induction l with
  | nil => rfl
  | cons b l ih => simp [ih]
theorem str_bs (s : ByteArray) : strOfNums (bs s) = s := by
  unfold strOfNums bs
  rw [map_ofNat]
theorem bs_str (l : List Int) (h : ∀ c ∈ l, 0 ≤ c ∧ c ≤ 255) : bs (strOfNums l) = l := by
  unfold bs strOfNums
  simp only [List.map_map]
  induction l with
  | nil => rfl
  | cons c r ih =>
    have hc := h c (by simp)
    simp only [List.map_cons, Function.comp_apply, List.cons.injEq]
    refine ⟨?_, by simpa using ih (fun x hx => h x (by simp [hx]))⟩
    rw [UInt8.toNat_ofNat_of_lt' (by simp only [UInt8.size]; omega)]
    omega
theorem bs_inj {s t : ByteArray} (h : bs s = bs t) : s = t := by rw [← str_bs s, ← str_bs t, h]
theorem bs_iff {s t : ByteArray} : bs s = bs t ↔ s = t := ⟨bs_inj, fun h => by rw [h]⟩
theorem toList_iff {s t : ByteArray} : s.toList = t.toList ↔ bs s = bs t := by
  rw [Lib.toList_data, Lib.toList_data]
  constructor
  · intro h; unfold bs; rw [h]
  · intro h; rw [bs_inj h]
theorem bs_extract (s : ByteArray) (a b : Nat) : bs (s.extract a b) = ((bs s).drop a).take (b - a) := by
  unfold bs
  rw [Lib.extract_data, List.map_take, List.map_drop]
theorem bs_append (s t : ByteArray) : bs (s ++ t) = bs s ++ bs t := by
  unfold bs
  rw [show (s ++ t).data.toList = s.data.toList ++ t.data.toList by simp, List.map_append]
/-- a string against a constant -/
theorem toList_lit (s : ByteArray) (l : List UInt8) : s.toList = l ↔ bs s = l.map fun b => (b.toNat : Int) := by
  rw [Lib.toList_data]
  unfold bs
  constructor
  · intro h; rw [h]
  · intro h
    have := congrArg (List.map fun n : Int => UInt8.ofNat n.toNat) h
    rwa [map_ofNat, map_ofNat] at this
theorem toList_nil (s : ByteArray) : s.toList = [] ↔ s.size = 0 := by
  rw [toList_lit, ← bs_length]
  simp only [List.map_nil, List.length_eq_zero_iff]
theorem beq_toList (s t : ByteArray) : (s.toList == t.toList) = decide (bs s = bs t) := by
  rw [Bool.eq_iff_iff, beq_iff_eq, decide_eq_true_eq, toList_iff]

theorem w64 {i : Int} (h : -9223372036854775808 ≤ i ∧ i ≤ 9223372036854775807) : wrap64 i = i := by unfold wrap64; omega
theorem and15 {c : Int} (h0 : 0 ≤ c) (h1 : c ≤ 255) : Go.bits .and .u8 c 15 = c % 16 := u8_and15 c h0 (by omega)
/-- the hex digits as a constant -/
theorem hexdig (x : Int) (h : 0 ≤ x ∧ x < 16) : bt (⟨#[48, 49, 50, 51, 52, 53, 54, 55, 56, 57, 97, 98, 99, 100, 101, 102]⟩ : ByteArray) x = Tk.dig x := by
  have : x = 0 ∨ x = 1 ∨ x = 2 ∨ x = 3 ∨ x = 4 ∨ x = 5 ∨ x = 6 ∨ x = 7 ∨ x = 8 ∨ x = 9 ∨ x = 10 ∨ x = 11 ∨ x = 12 ∨ x = 13 ∨ x = 14 ∨ x = 15 := by omega
  rcases this with rfl | rfl | rfl | rfl | rfl | rfl | rfl | rfl | rfl | rfl | rfl | rfl | rfl | rfl | rfl | rfl <;> rfl
end Go.Proofs.Ytmpaipbpnkfmfaa.Br
