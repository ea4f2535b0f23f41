/-
  PLAIN: between the printed functions' strings (bytes in an array) and lists of whole numbers; and the parts of the tests on bytes. Conditions: none.
  PLAIN: what the printed functions of package tokens tell, as the plain theory of tokens says it: runs, escapes, quoted texts, signs, numbers. Conditions: texts of at most 2^40 bytes.
  PLAIN: what the printed functions of package tokens tell, as the plain theory of tokens says it: quoted texts and signs. Conditions: texts of at most 2^40 bytes.
  PLAIN: the numbers of package tokens as the plain theory says them: the library's ParseInt and FormatInt at base 10. Conditions: texts of at most 2^40 bytes.
  PLAIN: token and Cut as the plain theory says them. Conditions: texts of at most 2^40 bytes.
  PLAIN: Word, Quote, Spell, apart and Join as the plain theory says them. Conditions: texts of at most 2^40 bytes, numbers of 64 bits.
  PLAIN: Join as the plain theory says it. Conditions: texts of at most 2^40 bytes, numbers of 64 bits, the joined text of at most 2^47 bytes.
  PLAIN: head: the fixed text's tokens. Conditions: none.
  PLAIN: same and alike: two lists of tokens. Conditions: lists of at most 2^40.
  PLAIN: what Cut and Join give for a whole text: sizes and keys. Conditions: texts of at most 2^20 bytes.
-/
import Derived.Test.YtmpaipbpnkfmfaaDoorTok
import Derived.Test.YtmpaipbpnkfmfaaDoorWWords
import Derived.Lib.Strings
import Derived.Laws.BitsLemmas
import Derived.Test.YtmpaipbpnkfmfaaDoorPx3
import Derived.Test.YtmpaipbpnkfmfaaDoorNum
import Derived.Test.YtmpaipbpnkfmfaaDoorTokA
import Derived.Test.YtmpaipbpnkfmfaaDoorPx4
import Derived.Lib.ParseIntBCases
import Derived.Test.YtmpaipbpnkfmfaaDoorPx6
import Derived.Test.YtmpaipbpnkfmfaaDoorPx7
import Derived.Test.YtmpaipbpnkfmfaaDoorPx8
import Derived.Test.YtmpaipbpnkfmfaaDoorPx18
import Derived.Test.YtmpaipbpnkfmfaaDoorJoin
import Derived.Test.YtmpaipbpnkfmfaaDoorPx19
namespace Go.Proofs.YtmpaipbpnkfmfaaDoor.Br
open Go.RowKit Go.Proofs.YtmpaipbpnkfmfaaDoorW.PrintWords

def bs (s : ByteArray) : List Int := s.data.toList.map fun b => (b.toNat : Int)
theorem bs_length (s : ByteArray) : (bs s).length = s.size := by unfold bs; rw [List.length_map, Array.length_toList]; rfl
theorem bs_bytes (s : ByteArray) : ∀ c ∈ bs s, 0 ≤ c ∧ c ≤ 255 := by
  intro c hc
  unfold bs at hc
  obtain ⟨b, _, rfl⟩ := List.mem_map.1 hc
  have := b.toNat_lt
  omega
theorem bs_get (s : ByteArray) (i : Nat) (h : i < s.size) : (bs s)[i]? = some (bt s (i : Int)) := by
  unfold bs
  have h' : i < s.data.toList.length := by rw [Array.length_toList]; exact h
  rw [List.getElem?_map, List.getElem?_eq_getElem h']
  simp only [Option.map_some, Option.some.injEq]
  have e := bt_at s (i : Int) (by simpa using h)
  rw [← e]
  simp only [Int.toNat_natCast, Array.getElem_toList]
  rfl
theorem bs_drop (s : ByteArray) (i : Nat) (h : i < s.size) : (bs s).drop i = bt s (i : Int) :: (bs s).drop (i + 1) := by
  have e := bs_get s i h
  obtain ⟨h', e'⟩ := List.getElem?_eq_some_iff.1 e
  rw [List.drop_eq_getElem_cons h', e']
theorem bs_drop_all (s : ByteArray) (i : Nat) (h : s.size ≤ i) : (bs s).drop i = [] := List.drop_eq_nil_of_le (by rw [bs_length]; exact h)
theorem map_ofNat (l : List UInt8) : (l.map fun b => (b.toNat : Int)).map (fun n => UInt8.ofNat n.toNat) = l := by
  induction l with
  | nil => rfl
  | cons b l ih => simp [ih]
theorem str_bs (s : ByteArray) : strOfNums (bs s) = s := by
  unfold strOfNums bs
  rw [map_ofNat]
theorem bs_str (l : List Int) (h : ∀ c ∈ l, 0 ≤ c ∧ c ≤ 255) : bs (strOfNums l) = l := by
  unfold bs strOfNums
  simp only [List.map_map]
  induction l with
  | nil => rfl
  | cons c r ih =>
    have hc := h c (by simp)
    simp only [List.map_cons, Function.comp_apply, List.cons.injEq]
    refine ⟨?_, by simpa using ih (fun x hx => h x (by simp [hx]))⟩
    rw [UInt8.toNat_ofNat_of_lt' (by simp only [UInt8.size]; omega)]
    omega
theorem bs_inj {s t : ByteArray} (h : bs s = bs t) : s = t := by rw [← str_bs s, ← str_bs t, h]
theorem bs_iff {s t : ByteArray} : bs s = bs t ↔ s = t := ⟨bs_inj, fun h => by rw [h]⟩
theorem toList_iff {s t : ByteArray} : s.toList = t.toList ↔ bs s = bs t := by
  rw [Lib.toList_data, Lib.toList_data]
  constructor
  · intro h; unfold bs; rw [h]
  · intro h; rw [bs_inj h]
theorem bs_extract (s : ByteArray) (a b : Nat) : bs (s.extract a b) = ((bs s).drop a).take (b - a) := by
  unfold bs
  rw [Lib.extract_data, List.map_take, List.map_drop]
theorem bs_append (s t : ByteArray) : bs (s ++ t) = bs s ++ bs t := by
  unfold bs
  rw [show (s ++ t).data.toList = s.data.toList ++ t.data.toList by simp, List.map_append]
/-- a string against a constant -/
theorem toList_lit (s : ByteArray) (l : List UInt8) : s.toList = l ↔ bs s = l.map fun b => (b.toNat : Int) := by
  rw [Lib.toList_data]
  unfold bs
  constructor
  · intro h; rw [h]
  · intro h
    have := congrArg (List.map fun n : Int => UInt8.ofNat n.toNat) h
    rwa [map_ofNat, map_ofNat] at this
theorem toList_nil (s : ByteArray) : s.toList = [] ↔ s.size = 0 := by
  rw [toList_lit, ← bs_length]
  simp only [List.map_nil, List.length_eq_zero_iff]
theorem beq_toList (s t : ByteArray) : (s.toList == t.toList) = decide (bs s = bs t) := by
  rw [Bool.eq_iff_iff, beq_iff_eq, decide_eq_true_eq, toList_iff]

theorem w64 {i : Int} (h : -9223372036854775808 ≤ i ∧ i ≤ 9223372036854775807) : wrap64 i = i := by unfold wrap64; omega
theorem and15 {c : Int} (h0 : 0 ≤ c) (h1 : c ≤ 255) : Go.bits .and .u8 c 15 = c % 16 := u8_and15 c h0 (by omega)
/-- the hex digits as a constant -/
theorem hexdig (x : Int) (h : 0 ≤ x ∧ x < 16) : bt (⟨#[48, 49, 50, 51, 52, 53, 54, 55, 56, 57, 97, 98, 99, 100, 101, 102]⟩ : ByteArray) x = Tk.dig x := by
  have : x = 0 ∨ x = 1 ∨ x = 2 ∨ x = 3 ∨ x = 4 ∨ x = 5 ∨ x = 6 ∨ x = 7 ∨ x = 8 ∨ x = 9 ∨ x = 10 ∨ x = 11 ∨ x = 12 ∨ x = 13 ∨ x = 14 ∨ x = 15 := by omega
  rcases this with rfl | rfl | rfl | rfl | rfl | rfl | rfl | rfl | rfl | rfl | rfl | rfl | rfl | rfl | rfl | rfl <;> rfl
end Go.Proofs.YtmpaipbpnkfmfaaDoor.Br

namespace Go.Proofs.YtmpaipbpnkfmfaaDoor.CutPure
open Go.RowKit Go.Proofs.YtmpaipbpnkfmfaaDoor.P Go.Proofs.YtmpaipbpnkfmfaaDoorW.PrintWords Go.Proofs.YtmpaipbpnkfmfaaDoorW.PrintLast Go.Proofs.YtmpaipbpnkfmfaaDoor.Br
open Go.Proofs.YtmpaipbpnkfmfaaDoor

theorem small_eq (c : Int) : tokens_small.f c = some (Tk.sm c) := by
  unfold tokens_small.f Tk.sm
  by_cases h : c ≥ 97
  · rw [if_pos h]; simp [show (97 : Int) ≤ c from h]
  · rw [if_neg h]; simp [show ¬ (97 : Int) ≤ c from h]
theorem great_eq (c : Int) : tokens_great.f c = some (Tk.gr c) := by
  unfold tokens_great.f Tk.gr
  by_cases h : c ≥ 65
  · rw [if_pos h]
    by_cases h2 : c ≤ 90
    · rw [if_pos h2]; simp [show (65 : Int) ≤ c from h, h2]
    · rw [if_neg h2]; simp [show (65 : Int) ≤ c from h, h2]; rfl
  · rw [if_neg h]; simp [show ¬ (65 : Int) ≤ c from h]; rfl
theorem digit_eq (c : Int) : tokens_digit.f c = some (Tk.dg c) := by
  unfold tokens_digit.f Tk.dg
  by_cases h : c ≥ 48
  · rw [if_pos h]; simp [show (48 : Int) ≤ c from h]
  · rw [if_neg h]; simp [show ¬ (48 : Int) ≤ c from h]

theorem run_ev (s : ByteArray) (hs : s.size ≤ 1099511627776) : ∀ (d i : Nat), i ≤ s.size → s.size - i = d → Ev (fun k => tokens_run.l0 k s (i : Int)) ((i : Int) + (Tk.run ((bs s).drop i)).length) := by
  intro d
  induction d with
  | zero =>
    intro i hi hd
    refine ⟨1, fun k hk => ?_⟩
    obtain ⟨k, rfl⟩ : ∃ m, k = m + 1 := ⟨k - 1, by omega⟩
    simp only [tokens_run.l0]
    rw [if_neg (by omega), bs_drop_all s i (by omega)]
    simp [Tk.run]
  | succ d ih =>
    intro i hi hd
    rw [bs_drop s i (by omega)]
    have hw : wrap64 ((i : Int) + 1) = ((i + 1 : Nat) : Int) := by rw [w64 (by omega)]; omega
    by_cases hr : Tk.rn (bt s (i : Int)) = true
    · obtain ⟨K, hK⟩ := ih (i + 1) (by omega) (by omega)
      refine ⟨K + 1, fun k hk => ?_⟩
      obtain ⟨k, rfl⟩ : ∃ m, k = m + 1 := ⟨k - 1, by omega⟩
      have h := hK k (by omega)
      simp only [tokens_run.l0]
      rw [if_pos (by omega), if_pos (by omega), small_eq, great_eq, digit_eq, hw]
      simp only [Option.bind_some, h]
      have e : (((i + 1 : Nat) : Int) + ((Tk.run ((bs s).drop (i + 1))).length : Int)) = (i : Int) + ((Tk.run (bt s (i : Int) :: (bs s).drop (i + 1))).length : Int) := by
        simp only [Tk.run, hr, if_true, List.length_cons]; omega
      rw [e]
      simp only [Tk.rn, Bool.or_eq_true] at hr
      by_cases h1 : Tk.sm (bt s (i : Int)) = true
      · rw [if_pos h1]
      · by_cases h2 : Tk.gr (bt s (i : Int)) = true
        · rw [if_neg h1, if_pos h2]
        · by_cases h3 : Tk.dg (bt s (i : Int)) = true
          · rw [if_neg h1, if_neg h2, if_pos h3]
          · simp [h1, h2, h3] at hr
    · refine ⟨1, fun k hk => ?_⟩
      obtain ⟨k, rfl⟩ : ∃ m, k = m + 1 := ⟨k - 1, by omega⟩
      simp only [tokens_run.l0]
      rw [if_pos (by omega), if_pos (by omega), small_eq, great_eq, digit_eq]
      simp only [Option.bind_some, Tk.run, hr]
      simp only [Tk.rn, Bool.or_eq_true, not_or] at hr
      rw [if_neg hr.1.1, if_neg hr.1.2, if_neg hr.2]
      simp

theorem run_f (s : ByteArray) (hs : s.size ≤ 1099511627776) : Ev (fun k => tokens_run.f k s) ((Tk.run (bs s)).length : Int) := by
  have h := run_ev s hs s.size 0 (by omega) (by omega)
  simpa [tokens_run.f] using h

theorem hex_eq (k : Nat) (c : Int) (h : 0 ≤ c ∧ c ≤ 255) : tokens_hex.f (k + 1) c = some (Tk.hx c) := by
  unfold tokens_hex.f
  rw [digit_eq]
  simp only [Option.bind_some, Tk.hx]
  by_cases h1 : Tk.dg c = true
  · rw [if_pos h1, if_pos h1]
    rw [Tk.dg_iff] at h1
    congr 1
    omega
  · rw [if_neg h1, if_neg h1]
    by_cases h2 : c ≥ 97
    · rw [if_pos h2]
      simp only [tokens_hex.j0]
      by_cases h3 : c ≤ 102
      · rw [if_pos (by simpa using h3), if_pos ⟨h2, h3⟩]
        congr 1
        omega
      · rw [if_neg (by simpa using h3), if_pos (show c ≥ 65 by omega), if_neg (show ¬ c ≤ 70 by omega), if_neg (show ¬ (97 ≤ c ∧ c ≤ 102) by omega), if_neg (show ¬ (65 ≤ c ∧ c ≤ 70) by omega)]
    · rw [if_neg h2, if_neg (by omega)]
      simp only [tokens_hex.j0]
      rw [if_neg (by simp)]
      by_cases h3 : c ≥ 65
      · rw [if_pos h3]
        by_cases h4 : c ≤ 70
        · rw [if_pos h4, if_pos ⟨h3, h4⟩]
          congr 1
          omega
        · rw [if_neg h4, if_neg (by omega)]
      · rw [if_neg h3, if_neg (by omega)]

theorem or16 (a b : Int) (ha : 0 ≤ a ∧ a ≤ 15) (hb : 0 ≤ b ∧ b ≤ 15) : Go.bits .or .i64 (wrap64 (a * 16)) b % 256 = 16 * a + b := by
  obtain ⟨n, rfl⟩ := Int.eq_ofNat_of_zero_le ha.1
  obtain ⟨m, rfl⟩ := Int.eq_ofNat_of_zero_le hb.1
  have key : ∀ x y : Fin 16, Go.bits .or .i64 (wrap64 ((x.val : Int) * 16)) (y.val : Int) % 256 = 16 * (x.val : Int) + (y.val : Int) := by decide +kernel
  exact key ⟨n, by omega⟩ ⟨m, by omega⟩

theorem escape_eq (k : Nat) (s : ByteArray) : tokens_escape.f (k + 3) s = some ((Tk.esc (bs s)).1, ((Tk.esc (bs s)).2 : Int)) := by
  by_cases h0 : s.size = 0
  · have e : bs s = [] := by rw [← List.length_eq_zero_iff, bs_length]; exact h0
    simp only [tokens_escape.f, if_pos ((toList_nil s).2 h0), e]
    rfl
  · have e : bs s = bt s 0 :: (bs s).drop 1 := by simpa using bs_drop s 0 (by omega)
    have hc := bt_range s 0
    have l1 : (1 : Int) < (s.size : Int) → (bs s).drop 1 = bt s 1 :: (bs s).drop 2 := fun h => by simpa using bs_drop s 1 (by omega)
    have l2 : (2 : Int) < (s.size : Int) → (bs s).drop 2 = bt s 2 :: (bs s).drop 3 := fun h => by simpa using bs_drop s 2 (by omega)
    have n1 : ¬ (1 : Int) < (s.size : Int) → (bs s).drop 1 = [] := fun h => bs_drop_all s 1 (by omega)
    have n2 : ¬ (2 : Int) < (s.size : Int) → (bs s).drop 2 = [] := fun h => bs_drop_all s 2 (by omega)
    have r1 := bt_range s 1
    have r2 := bt_range s 2
    have x1 := hex_eq (k + 1) (bt s 1) r1
    have x2 := hex_eq (k + 1) (bt s 2) r2
    have y1 := hex_eq k (bt s 1) r1
    have y2 := hex_eq k (bt s 2) r2
    have d1 := Tk.hx_bd (bt s 1)
    have d2 := Tk.hx_bd (bt s 2)
    simp only [tokens_escape.f, if_neg (mt (toList_nil s).1 h0), if_pos (show 0 < (s.size : Int) by omega)]
    rw [e]
    have j1f : tokens_escape.j1 (k + 1) s false = some (0, 0) := by simp [tokens_escape.j1]
    have j1t : ∀ b : Bool, (b = true → (2 : Int) < (s.size : Int) ∧ 0 ≤ Tk.hx (bt s 1) ∧ 0 ≤ Tk.hx (bt s 2)) → tokens_escape.j1 (k + 1 + 1) s b = if b = true then some (16 * Tk.hx (bt s 1) + Tk.hx (bt s 2), 3) else some (0, 0) := by
      intro b hb
      simp only [tokens_escape.j1]
      cases b with
      | true =>
        have := hb rfl
        rw [if_pos rfl, if_pos rfl, if_pos (by omega), y1]
        simp only [Option.bind_some]
        rw [if_pos (by omega), y2]
        simp only [Option.bind_some]
        rw [or16 _ _ (by omega) (by omega)]
      | false => rfl
    have j0 : ∀ b : Bool, b = decide (bt s 0 = 34 ∨ bt s 0 = 92) → tokens_escape.j0 (k + 3) s (bt s 0) b = some ((Tk.esc (bt s 0 :: (bs s).drop 1)).1, ((Tk.esc (bt s 0 :: (bs s).drop 1)).2 : Int)) := by
      intro b hb
      subst hb
      simp only [tokens_escape.j0, Tk.esc]
      by_cases h1 : bt s 0 = 34 ∨ bt s 0 = 92
      · rw [if_pos (by simpa using h1), if_pos (by omega), if_pos h1]; rfl
      · rw [if_neg (by simpa using h1), if_neg h1]
        by_cases h2 : bt s 0 = 110
        · rw [if_pos h2, if_pos h2]; rfl
        · rw [if_neg h2, if_neg h2]
          by_cases h3 : bt s 0 = 116
          · rw [if_pos h3, if_pos h3]; rfl
          · rw [if_neg h3, if_neg h3]
            by_cases h4 : bt s 0 = 120
            · rw [if_pos h4, if_pos h4]
              by_cases h5 : (2 : Int) < (s.size : Int)
              · rw [if_pos h5, if_pos (by omega), hex_eq (k + 1) _ r1]
                simp only [Option.bind_some]
                rw [l1 (by omega), l2 h5]
                simp only
                by_cases h6 : Tk.hx (bt s 1) ≥ 0
                · rw [if_pos h6, if_pos h5, hex_eq (k + 1) _ r2]
                  simp only [Option.bind_some]
                  rw [j1t _ (fun hb => ⟨h5, h6, by simpa using hb⟩)]
                  by_cases h7 : 0 ≤ Tk.hx (bt s 2)
                  · rw [if_pos (by simpa using h7), if_pos ⟨h6, h7⟩]; rfl
                  · rw [if_neg (by simpa using h7), if_neg (by omega)]; rfl
                · rw [if_neg h6, if_neg (by omega)]
                  simp [tokens_escape.j1]
              · rw [if_neg h5]
                have hl : ((bs s).drop 1).length ≤ 1 := by rw [List.length_drop, bs_length]; omega
                cases hd : (bs s).drop 1 with
                | nil => simp [tokens_escape.j1]
                | cons a r =>
                  rw [hd] at hl
                  cases r with
                  | nil => simp [tokens_escape.j1]
                  | cons b r => simp at hl
            · rw [if_neg h4, if_neg h4]; rfl
    by_cases h1 : bt s 0 = 34
    · rw [if_pos h1]; exact j0 _ (by simp [h1])
    · rw [if_neg h1]; exact j0 _ (by rw [Bool.eq_iff_iff, beq_iff_eq, decide_eq_true_eq]; simp [h1])

end Go.Proofs.YtmpaipbpnkfmfaaDoor.CutPure

namespace Go.Proofs.YtmpaipbpnkfmfaaDoor.CutPure
open Go.RowKit Go.Proofs.YtmpaipbpnkfmfaaDoor.P Go.Proofs.YtmpaipbpnkfmfaaDoorW.PrintWords Go.Proofs.YtmpaipbpnkfmfaaDoorW.PrintLast Go.Proofs.YtmpaipbpnkfmfaaDoor.Br
open Go.Proofs.YtmpaipbpnkfmfaaDoor

/-- an answer of quoted, from the place i on, with what was read before -/
def encQ (a : Int) (acc : List Int) (i : Nat) : Tk.Qr → Int × ByteArray × Int × Int × Int × Int × Int
  | .ok m n => (3, strOfNums (acc ++ m), 0, a, ((i + n : Nat) : Int), 0, 0)
  | .bad n => (0, ⟨#[]⟩, 0, 0, 0, 44, ((i + n : Nat) : Int))
  | .opn => (0, ⟨#[]⟩, 0, 0, 0, 43, a)
theorem encQ_adv (a : Int) (acc : List Int) (i : Nat) (q : Tk.Qr) : encQ a acc i q.adv = encQ a acc (i + 1) q := by
  cases q with
  | ok m n => simp only [Tk.Qr.adv, encQ]; rw [show i + (n + 1) = i + 1 + n by omega]
  | bad n => simp only [Tk.Qr.adv, encQ]; rw [show i + (n + 1) = i + 1 + n by omega]
  | opn => rfl
theorem encQ_far (a : Int) (acc : List Int) (i d : Nat) (q : Tk.Qr) : encQ a acc i (q.far d) = encQ a acc (i + d) q := by
  cases q with
  | ok m n => simp only [Tk.Qr.far, encQ]; rw [show i + (n + d) = i + d + n by omega]
  | bad n => simp only [Tk.Qr.far, encQ]; rw [show i + (n + d) = i + d + n by omega]
  | opn => rfl
theorem encQ_put (a : Int) (acc : List Int) (i : Nat) (c : Int) (q : Tk.Qr) : encQ a acc i (q.put c) = encQ a (acc ++ [c]) i q := by
  cases q with
  | ok m n => simp only [Tk.Qr.put, encQ]; rw [List.append_assoc]; rfl
  | bad n => rfl
  | opn => rfl

theorem w2 (i n : Nat) (h : i + 1 + n ≤ 4611686018427387904) : wrap64 ((i : Int) + wrap64 (1 + (n : Int))) = ((i + 1 + n : Nat) : Int) := by
  unfold wrap64; omega
theorem quoted_ev (s : ByteArray) (a : Int) (hs : s.size ≤ 1099511627776) : ∀ (d i : Nat) (acc : List Int), i ≤ s.size → s.size - i ≤ d → acc.length ≤ i →
    Ev (fun k => tokens_quoted.l0 k s a acc (i : Int)) (encQ a acc i (Tk.quot 0 ((bs s).drop i))) := by
  intro d
  induction d with
  | zero =>
    intro i acc hi hd hl
    refine ⟨1, fun k hk => ?_⟩
    obtain ⟨k, rfl⟩ : ∃ m, k = m + 1 := ⟨k - 1, by omega⟩
    simp only [tokens_quoted.l0]
    rw [if_neg (by omega), bs_drop_all s i (by omega)]
    rfl
  | succ d ih =>
    intro i acc hi hd hl
    rcases Nat.lt_or_ge i s.size with hi2 | hi2
    case inr => exact ih i acc hi (by omega) hl
    rw [bs_drop s i hi2]
    have hw : wrap64 ((i : Int) + 1) = ((i + 1 : Nat) : Int) := by rw [w64 (by omega)]; omega
    simp only [Tk.quot]
    by_cases h1 : bt s (i : Int) = 34
    · refine ⟨1, fun k hk => ?_⟩
      obtain ⟨k, rfl⟩ : ∃ m, k = m + 1 := ⟨k - 1, by omega⟩
      simp only [tokens_quoted.l0]
      rw [if_pos (by omega), if_pos (by omega), if_pos h1, if_pos h1, hw]
      simp [encQ]
    · rw [if_neg h1]
      by_cases h2 : bt s (i : Int) = 92
      · rw [if_pos h2]
        have he : bs (s.extract (i + 1) s.size) = (bs s).drop (i + 1) := by rw [bs_extract]; exact List.take_of_length_le (by rw [List.length_drop, bs_length]; omega)
        have hle := Tk.esc_le ((bs s).drop (i + 1))
        rw [List.length_drop, bs_length] at hle
        have h3 := Tk.esc_le3 ((bs s).drop (i + 1))
        by_cases h0 : (Tk.esc ((bs s).drop (i + 1))).2 = 0
        · rw [if_pos h0]
          refine ⟨4, fun k hk => ?_⟩
          obtain ⟨k, rfl⟩ : ∃ m, k = m + 1 + 3 := ⟨k - 4, by omega⟩
          show tokens_quoted.l0 (k + 1 + 3) s a acc (i : Int) = _
          rw [show k + 1 + 3 = k + 3 + 1 by omega, tokens_quoted.l0]
          rw [if_pos (by omega), if_pos (by omega), if_neg h1, if_pos h2, hw, if_pos (by omega), if_pos (by omega), show (((i + 1 : Nat) : Int)).toNat = i + 1 by omega, escape_eq k, he]
          simp only [Option.bind_some]
          rw [if_pos (by omega)]
          simp [encQ]
        · rw [if_neg h0, encQ_adv, encQ_put, Tk.quot_far _ _ (by rw [List.length_drop, bs_length]; omega), encQ_far, List.drop_drop]
          obtain ⟨K, hK⟩ := ih (i + 1 + (Tk.esc ((bs s).drop (i + 1))).2) (acc ++ [(Tk.esc ((bs s).drop (i + 1))).1]) (by omega) (by omega) (by simp; omega)
          refine ⟨K + 4, fun k hk => ?_⟩
          obtain ⟨k, rfl⟩ : ∃ m, k = m + 3 + 1 := ⟨k - 4, by omega⟩
          have h := hK (k + 3) (by omega)
          show tokens_quoted.l0 (k + 3 + 1) s a acc (i : Int) = _
          rw [tokens_quoted.l0]
          rw [if_pos (by omega), if_pos (by omega), if_neg h1, if_pos h2, hw, if_pos (by omega), if_pos (by omega), show (((i + 1 : Nat) : Int)).toNat = i + 1 by omega, escape_eq k, he]
          simp only [Option.bind_some]
          clear hK ih he
          generalize (Tk.esc ((bs s).drop (i + 1))).2 = n at *
          generalize (Tk.esc ((bs s).drop (i + 1))).1 = m at *
          replace h : tokens_quoted.l0 (k + 3) s a (acc ++ [m]) ((i + 1 + n : Nat) : Int) = some (encQ a (acc ++ [m]) (i + 1 + n) (Tk.quot 0 (List.drop (i + 1 + n) (bs s)))) := h
          rw [← h, if_neg (by omega), if_pos (by omega), w2 i n (by omega)]
      · rw [if_neg h2]
        by_cases h3 : bt s (i : Int) < 32 ∨ bt s (i : Int) = 127
        · rw [if_pos h3]
          refine ⟨1, fun k hk => ?_⟩
          obtain ⟨k, rfl⟩ : ∃ m, k = m + 1 := ⟨k - 1, by omega⟩
          simp only [tokens_quoted.l0]
          rw [if_pos (by omega), if_pos (by omega), if_neg h1, if_neg h2]
          by_cases h4 : bt s (i : Int) < 32
          · rw [if_pos h4]; simp [encQ]
          · rw [if_neg h4, if_pos (by omega)]; simp [encQ]
        · rw [if_neg h3, encQ_adv, encQ_put]
          obtain ⟨K, hK⟩ := ih (i + 1) (acc ++ [bt s (i : Int)]) (by omega) (by omega) (by simp; omega)
          refine ⟨K + 1, fun k hk => ?_⟩
          obtain ⟨k, rfl⟩ : ∃ m, k = m + 1 := ⟨k - 1, by omega⟩
          have h := hK k (by omega)
          simp only [tokens_quoted.l0]
          rw [if_pos (by omega), if_pos (by omega), if_neg h1, if_neg h2, if_neg (by omega), if_neg (by omega), if_pos (by omega), hw]
          exact h

theorem quoted_f (s : ByteArray) (a : Nat) (hs : s.size ≤ 1099511627776) (ha : a < s.size) : Ev (fun k => tokens_quoted.f k s (a : Int)) (encQ (a : Int) [] (a + 1) (Tk.quot 0 ((bs s).drop (a + 1)))) := by
  have h := quoted_ev s (a : Int) hs s.size (a + 1) [] (by omega) (by omega) (by simp)
  have hw : wrap64 ((a : Int) + 1) = ((a + 1 : Nat) : Int) := by rw [w64 (by omega)]; omega
  unfold tokens_quoted.f
  rw [hw]
  exact h

/-- signs: x is what stands from the place on -/
theorem signs_f (x : ByteArray) (a : Int) (c : Int) (r : List Int) (hx : bs x = c :: r) (ha : 0 ≤ a ∧ a ≤ 1099511627776) (hsz : x.size ≤ 1099511627776) (k : Nat) :
    ∃ v, tokens_signs.f (k + 1) x 0 ⟨#[]⟩ 0 a 0 = some v ∧ match Tk.signs c r with
      | .tok q t n len => v = (q, strOfNums t, n, a, a + (len : Int), 0, 0)
      | .bad e off => v.2.2.2.2.2 = (e, a + (off : Int)) := by
  have hl : x.size = r.length + 1 := by rw [← bs_length, hx]; rfl
  have hb : bt x 0 = c := by
    have := bs_get x 0 (by omega)
    rw [hx] at this
    simpa using this.symm
  have hcb : 0 ≤ c ∧ c ≤ 255 := bs_bytes x c (by rw [hx]; simp)
  have one : ∀ y : ByteArray, bs y ≠ [58, 45] → bs y ≠ [33, 61] → bs y ≠ [60, 61] → ∃ v, tokens_signs.j0 (k + 1) x y 0 ⟨#[]⟩ 0 a 0 = some v ∧ (if Tk.sign1 c ≠ 0 then v = (Tk.sign1 c, ⟨#[]⟩, 0, a, a + 1, 0, 0) else v.2.2.2.2.2 = (42, a)) := by
    intro y n1 n2 n3
    simp only [tokens_signs.j0]
    rw [if_neg (by rw [toList_lit]; exact n1), if_neg (by rw [toList_lit]; exact n2), if_neg (by rw [toList_lit]; exact n3), if_pos (by omega), hb]
    simp only [tokens_sign.f, if_pos hcb, Option.bind_some]
    by_cases h0 : Tk.sign1 c = 0
    · rw [if_pos h0]; exact ⟨_, rfl, by rw [if_neg (by simpa using h0)]⟩
    · rw [if_neg h0, w64 (by omega)]; exact ⟨_, rfl, by rw [if_pos h0]⟩
  unfold tokens_signs.f
  cases r with
  | nil =>
    rw [if_neg (by simp at hl; omega)]
    obtain ⟨v, hv, h⟩ := one ⟨#[]⟩ (by decide) (by decide) (by decide)
    refine ⟨v, hv, ?_⟩
    simp only [Tk.signs]
    by_cases h0 : Tk.sign1 c ≠ 0
    · rw [if_pos h0] at h; rw [if_pos h0, h]; rfl
    · rw [if_neg h0] at h; rw [if_neg h0, h]; simp
  | cons d r =>
    have hl2 : x.size = r.length + 1 + 1 := by simpa using hl
    rw [if_pos (by omega), if_pos (by omega)]
    have he : bs (x.extract 0 2) = [c, d] := by rw [bs_extract, hx]; rfl
    have e0 : ((0 : Nat) : Int) = 0 := rfl
    simp only [Tk.signs]
    by_cases h2 : Tk.sign2 c d ≠ 0
    · rw [if_pos h2]
      simp only [tokens_signs.j0]
      by_cases c1 : c = 58 ∧ d = 45
      · obtain ⟨rfl, rfl⟩ := c1
        rw [if_pos (by rw [toList_lit, he]; rfl), w64 (by omega)]; exact ⟨_, rfl, rfl⟩
      · rw [if_neg (by rw [toList_lit, he]; simpa using c1)]
        by_cases c2 : c = 33 ∧ d = 61
        · obtain ⟨rfl, rfl⟩ := c2
          rw [if_pos (by rw [toList_lit, he]; rfl), w64 (by omega)]; exact ⟨_, rfl, rfl⟩
        · rw [if_neg (by rw [toList_lit, he]; simpa using c2)]
          by_cases c3 : c = 60 ∧ d = 61
          · obtain ⟨rfl, rfl⟩ := c3
            rw [if_pos (by rw [toList_lit, he]; rfl), w64 (by omega)]; exact ⟨_, rfl, rfl⟩
          · exact absurd (by simp [Tk.sign2, c1, c2, c3]) h2
    · rw [if_neg h2]
      have h2' : Tk.sign2 c d = 0 := by simpa using h2
      obtain ⟨v, hv, h⟩ := one (x.extract 0 2) (by rw [he]; intro e; simp at e; obtain ⟨rfl, rfl⟩ := e; exact absurd h2' (by decide))
        (by rw [he]; intro e; simp at e; obtain ⟨rfl, rfl⟩ := e; exact absurd h2' (by decide)) (by rw [he]; intro e; simp at e; obtain ⟨rfl, rfl⟩ := e; exact absurd h2' (by decide))
      refine ⟨v, hv, ?_⟩
      by_cases h0 : Tk.sign1 c ≠ 0
      · rw [if_pos h0] at h; rw [if_pos h0, h]; rfl
      · rw [if_neg h0] at h; rw [if_neg h0, h]; simp

end Go.Proofs.YtmpaipbpnkfmfaaDoor.CutPure

namespace Go.Proofs.YtmpaipbpnkfmfaaDoor.CutPure
open Go.RowKit Go.Proofs.YtmpaipbpnkfmfaaDoor.P Go.Proofs.YtmpaipbpnkfmfaaDoorW.PrintWords Go.Proofs.YtmpaipbpnkfmfaaDoorW.PrintLast Go.Proofs.YtmpaipbpnkfmfaaDoor.Br
open Go.Proofs.YtmpaipbpnkfmfaaDoor

def ints (l : List UInt8) : List Int := l.map fun b => (b.toNat : Int)
theorem bs_ints (s : ByteArray) : bs s = ints s.data.toList := rfl
theorem ints_inj {a b : List UInt8} (h : ints a = ints b) : a = b := by
  have := congrArg (fun l => l.map fun n : Int => UInt8.ofNat n.toNat) h
  simpa only [ints, map_ofNat] using this

theorem decDigits_dec : ∀ (f u : Nat), u < 10 ^ f → 0 < f → ints (Lib.decDigits u) = Tk.decN f u [] := by
  intro f
  induction f with
  | zero => intro u _ h; omega
  | succ f ih =>
    intro u hu _
    rw [Lib.decDigits]
    by_cases h : u < 10
    · rw [dif_pos h, Tk.decN_one _ _ h]
      simp only [ints, List.map_cons, List.map_nil, UInt8.toNat_ofNat']
      congr 1
      omega
    · rw [dif_neg h, Tk.decN_step _ _ h]
      have hf : 0 < f := by
        rcases Nat.eq_zero_or_pos f with rfl | h'
        · simp at hu; omega
        · exact h'
      rw [← ih (u / 10) (by rw [Nat.pow_succ] at hu; omega) hf]
      simp only [ints, List.map_append, List.map_cons, List.map_nil, UInt8.toNat_ofNat']
      congr 2
      omega

theorem itoa_dec (n : Int) (h : -9223372036854775808 ≤ n ∧ n ≤ 9223372036854775807) : ints (Lib.itoa n) = Tk.dec n := by
  unfold Lib.itoa Tk.dec
  have hp : n.natAbs < 10 ^ 20 := by have : (10 : Nat) ^ 20 = 100000000000000000000 := by decide
                                     omega
  by_cases h0 : n < 0
  · rw [if_pos h0, if_pos h0, ← decDigits_dec 20 _ hp (by decide)]; rfl
  · rw [if_neg h0, if_neg h0, ← decDigits_dec 20 _ hp (by decide), show n.toNat = n.natAbs by omega]

theorem val_le : ∀ (l : List Int) (a : Nat), a ≤ Tk.val a l := by
  intro l
  induction l with
  | nil => intro a; exact Nat.le_refl _
  | cons c r ih => intro a; simp only [Tk.val]; exact Nat.le_trans (by omega) (ih _)

theorem parseM_ok : ∀ (l : List UInt8) (a : Nat), Tk.alld (ints l) = true → Tk.val a (ints l) ≤ 18446744073709551615 → Lib.parseUintM 18446744073709551615 a l = .ok (Tk.val a (ints l)) := by
  intro l
  induction l with
  | nil => intro a _ _; rfl
  | cons c r ih =>
    intro a hd hv
    simp only [ints, List.map_cons, Tk.alld, Bool.and_eq_true, Tk.dg_iff] at hd
    simp only [ints, List.map_cons, Tk.val] at hv ⊢
    have hl := val_le (List.map (fun b : UInt8 => (b.toNat : Int)) r) (10 * a + ((c.toNat : Int) - 48).toNat)
    rw [Lib.parseUintM, if_pos (by omega), if_neg (by omega), if_neg (by omega), show a * 10 + (c.toNat - 48) = 10 * a + ((c.toNat : Int) - 48).toNat by omega]
    exact ih _ hd.2 hv

theorem parse_num {l : List UInt8} {n : Int} (h : Tk.num (ints l) = some n) : Lib.parseIntB 64 l = .ok n := by
  have hM : (2 ^ 64 - 1 : Nat) = 18446744073709551615 := by decide
  have hC : (2 ^ (64 - 1) : Nat) = 9223372036854775808 := by decide
  have nat : ∀ (r : List UInt8) (v : Nat), Tk.nat? (ints r) = some v → v ≤ 9223372036854775808 → Lib.parseUintB 64 r = .ok v := by
    intro r v hv hb
    obtain ⟨h1, h2, _, h4, _⟩ := Tk.nat?_some hv
    have hne : r ≠ [] := by rintro rfl; exact h2 rfl
    rw [Lib.parseUintB, if_neg hne, hM, parseM_ok r 0 h1 (by omega), h4]
  unfold Tk.num at h
  by_cases h0 : ints l = [48]
  · rw [if_pos h0] at h
    obtain rfl := Option.some.inj h
    have : l = [48] := ints_inj h0
    subst this
    decide
  · rw [if_neg h0] at h
    cases l with
    | nil => simp [ints] at h
    | cons c r =>
      have hc : ints (c :: r) = (c.toNat : Int) :: ints r := rfl
      rw [hc] at h
      simp only at h
      by_cases h45 : (c.toNat : Int) = 45
      · rw [if_pos h45] at h
        have e45 : (45 : UInt8).toNat = 45 := rfl
        have : c = 45 := by apply UInt8.toNat_inj.1; omega
        subst this
        cases hr : Tk.nat? (ints r) with
        | none => rw [hr] at h; simp at h
        | some v =>
          rw [hr] at h
          simp only at h
          by_cases hv : v ≤ 9223372036854775808
          · rw [if_pos hv] at h
            obtain rfl := Option.some.inj h
            rw [Lib.parseIntB_minus, nat r v hr hv, hC]
            simp only [Lib.signedC]
            rw [if_neg (by omega)]
          · rw [if_neg hv] at h; simp at h
      · rw [if_neg h45] at h
        cases hr : Tk.nat? ((c.toNat : Int) :: ints r) with
        | none => rw [hr] at h; simp at h
        | some v =>
          rw [hr] at h
          simp only at h
          by_cases hv : v ≤ 9223372036854775807
          · rw [if_pos hv] at h
            obtain rfl := Option.some.inj h
            have hd := (Tk.nat?_some hr).1
            simp only [Tk.alld, Bool.and_eq_true, Tk.dg_iff] at hd
            rw [Lib.parseIntB_plain 64 c r (by omega) (by omega), nat (c :: r) v hr (by omega), hC]
            simp only [Lib.signlessC]
            rw [if_neg (by omega)]
          · rw [if_neg hv] at h; simp at h

theorem number_f (s : ByteArray) (hs : s.size ≤ 1099511627776) : ∃ v ok, tokens_number.f s = some (v, ok) ∧ match Tk.num (bs s) with
    | some n => v = n ∧ ok = true
    | none => ok = false := by
  unfold tokens_number.f
  rw [if_pos (by omega)]
  have tl : s.toList = s.data.toList := by simp [ByteArray.toList_eq]
  cases hn : Tk.num (bs s) with
  | some n =>
    have hp := parse_num (l := s.data.toList) (by rw [← bs_ints]; exact hn)
    rw [hp]
    obtain ⟨h1, h2⟩ := Tk.num_inv hn
    refine ⟨n, _, rfl, rfl, ?_⟩
    rw [beq_iff_eq, tl]
    exact ints_inj (by rw [itoa_dec n h2, h1]; rfl)
  | none =>
    cases hp : Lib.parseIntB 64 s.data.toList with
    | ok v =>
      refine ⟨v, _, rfl, ?_⟩
      have hb := parse_bd _ _ hp
      rw [beq_eq_false_iff_ne, tl]
      intro e
      have : bs s = Tk.dec v := by rw [bs_ints, ← e, itoa_dec v hb]
      rw [this, Tk.num_dec hb.1 hb.2] at hn
      cases hn
    | range => exact ⟨_, _, rfl, rfl⟩
    | _ => exact ⟨_, _, rfl, rfl⟩

theorem itoa_f (n : Int) (h : -9223372036854775808 ≤ n ∧ n ≤ 9223372036854775807) : strconv_Itoa.f n = some (strOfNums (Tk.dec n)) := by
  unfold strconv_Itoa.f
  rw [if_pos h]
  congr 1
  apply bs_inj
  rw [bs_str, ← itoa_dec n h]
  · rfl
  · rw [← itoa_dec n h]
    intro c hc
    simp only [ints, List.mem_map] at hc
    obtain ⟨b, _, rfl⟩ := hc
    have := b.toNat_lt
    omega

end Go.Proofs.YtmpaipbpnkfmfaaDoor.CutPure

namespace Go.Proofs.YtmpaipbpnkfmfaaDoor.CutPure
open Go.RowKit Go.Proofs.YtmpaipbpnkfmfaaDoor.P Go.Proofs.YtmpaipbpnkfmfaaDoorW.PrintWords Go.Proofs.YtmpaipbpnkfmfaaDoorW.PrintLast Go.Proofs.YtmpaipbpnkfmfaaDoor.Br
open Go.Proofs.YtmpaipbpnkfmfaaDoor

theorem run_at (s : ByteArray) (a : Nat) (c : Int) (r : List Int) (h : (bs s).drop a = c :: r) : bs (s.extract a s.size) = c :: r ∧ a < s.size ∧ r.length + 1 = s.size - a ∧ bt (s.extract a s.size) 0 = c := by
  have hl : r.length + 1 = s.size - a := by
    have := congrArg List.length h
    rw [List.length_drop, bs_length, List.length_cons] at this
    omega
  have ha : a < s.size := by omega
  have he : bs (s.extract a s.size) = c :: r := by rw [bs_extract, h]; exact List.take_of_length_le (by rw [List.length_cons]; omega)
  refine ⟨he, ha, hl, ?_⟩
  have := bs_get (s.extract a s.size) 0 (by rw [← bs_length, he]; simp)
  rw [he] at this
  simpa using this.symm
theorem sub_at (s : ByteArray) (a n : Nat) (l : List Int) (h : (bs s).drop a = l) : bs (s.extract a (a + n)) = l.take n := by
  rw [bs_extract, h, show a + n - a = n by omega]
theorem str_of {s : ByteArray} {l : List Int} (h : bs s = l) : s = strOfNums l := by rw [← h, str_bs]

theorem wr_ (a n : Nat) (h : a + n ≤ 4611686018427387904) : wrap64 ((a : Int) + (n : Int)) = ((a + n : Nat) : Int) := by unfold wrap64; omega
theorem wr2_ (a n : Nat) (h : a + (n + 1) ≤ 4611686018427387904) : wrap64 (wrap64 ((a : Int) + 1) + (n : Int)) = ((a + (n + 1) : Nat) : Int) := by unfold wrap64; omega
theorem ca_ (a n : Nat) : ((a + n : Nat) : Int) = (a : Int) + (n : Int) := by omega

def Enc (a : Int) (v : Int × ByteArray × Int × Int × Int × Int × Int) : Tk.Lx → Prop
  | .tok q t n len => v = (q, strOfNums t, n, a, a + (len : Int), 0, 0)
  | .bad e off => v.2.2.2.2.2 = (e, a + (off : Int))

theorem token_ev (s : ByteArray) (hs : s.size ≤ 1099511627776) (a : Nat) (c : Int) (r : List Int) (h : (bs s).drop a = c :: r) : ∃ v, Ev (fun k => tokens_token.f k s (a : Int)) v ∧ Enc (a : Int) v (Tk.lex c r) := by
  obtain ⟨he, ha, hl, hb⟩ := run_at s a c r h
  have hsz : (s.extract a s.size).size = s.size - a := by rw [← bs_length, he, List.length_cons]; omega
  have hrl := Tk.run_le r
  have nat1 : ((a : Int)).toNat = a := by omega
  have base : ∀ k, tokens_token.f k s (a : Int) = if Tk.sm c = true then ((tokens_run.f k (s.extract a s.size)).bind fun t127 => (if (a : Int) ≤ (wrap64 ((a : Int) + t127)) then (if (wrap64 ((a : Int) + t127)) ≤ (s.size : Int) then (if (s.extract a ((wrap64 ((a : Int) + t127)) : Int).toNat).toList = ([115, 97, 121, 115] : List UInt8) then (some (5, (⟨#[]⟩ : ByteArray), 0, (a : Int), wrap64 ((a : Int) + t127), 0, 0)) else (some (1, s.extract a ((wrap64 ((a : Int) + t127)) : Int).toNat, 0, (a : Int), wrap64 ((a : Int) + t127), 0, 0))) else (none)) else (none)))
      else if Tk.gr c = true then ((tokens_run.f k (s.extract a s.size)).bind fun t129 => (if (a : Int) ≤ (wrap64 ((a : Int) + t129)) then (if (wrap64 ((a : Int) + t129)) ≤ (s.size : Int) then (some (2, s.extract a ((wrap64 ((a : Int) + t129)) : Int).toNat, 0, (a : Int), wrap64 ((a : Int) + t129), 0, 0)) else (none)) else (none)))
      else tokens_token.j0 k s (a : Int) (s.extract a s.size) c (if Tk.dg c = true then true else c == 45) 0 (⟨#[]⟩ : ByteArray) 0 (a : Int) 0 := by
    intro k
    unfold tokens_token.f
    rw [if_pos (by omega), if_pos (by omega), nat1, if_pos (by rw [hsz]; omega), hb, small_eq, great_eq, digit_eq]
    simp only [Option.bind_some]
    by_cases h1 : Tk.sm c = true
    · rw [if_pos h1, if_pos h1]
    · rw [if_neg h1, if_neg h1]
      by_cases h2 : Tk.gr c = true
      · rw [if_pos h2, if_pos h2]
      · rw [if_neg h2, if_neg h2]
        by_cases h3 : Tk.dg c = true
        · rw [if_pos h3, if_pos h3, h3]
        · rw [if_neg h3, if_neg h3]
  have rnr : Tk.rn c = true → ∀ n, n = (Tk.run (c :: r)).length → n = (Tk.run r).length + 1 := by
    intro hr n hn; rw [hn]; simp [Tk.run, hr]
  -- the run that begins here
  have runH : Tk.rn c = true → Ev (fun k => tokens_run.f k (s.extract a s.size)) (((Tk.run r).length + 1 : Nat) : Int) := by
    intro hr
    have := run_f (s.extract a s.size) (by omega)
    rw [he] at this
    simpa [Tk.run, hr] using this
  have sub1 : bs (s.extract a (a + ((Tk.run r).length + 1))) = c :: Tk.run r := by
    rw [sub_at s a _ _ h, List.take_succ_cons, Tk.run_take]
  have hsum : a + ((Tk.run r).length + 1) ≤ 4611686018427387904 := by omega
  have wn : (((a + ((Tk.run r).length + 1) : Nat) : Int)).toNat = a + ((Tk.run r).length + 1) := Int.toNat_natCast _
  have wc : ((a + ((Tk.run r).length + 1) : Nat) : Int) = (a : Int) + (((Tk.run r).length + 1 : Nat) : Int) := ca_ _ _
  have wa : (a : Int) ≤ ((a + ((Tk.run r).length + 1) : Nat) : Int) := Int.ofNat_le.2 (Nat.le_add_right _ _)
  have wb : ((a + ((Tk.run r).length + 1) : Nat) : Int) ≤ (s.size : Int) := Int.ofNat_le.2 (by omega)
  simp only [Tk.lex]
  by_cases h1 : Tk.sm c = true
  · simp only [if_pos h1] at base
    rw [if_pos h1]
    obtain ⟨K, hK⟩ := runH (by simp [Tk.rn, h1])
    by_cases hsay : c :: Tk.run r = Tk.says
    · rw [if_pos hsay]
      refine ⟨_, ⟨K, fun k hk => ?_⟩, rfl⟩
      have hKk : tokens_run.f k (s.extract a s.size) = _ := hK k hk
      show tokens_token.f k s (a : Int) = _
      rw [base, hKk, Option.bind_some, wr_ a _ hsum, wn, if_pos wa, if_pos wb, if_pos (by rw [toList_lit, sub1, hsay]; rfl)]
      have : (Tk.run r).length = 3 := by have := congrArg List.length hsay; simpa [Tk.says] using this
      rw [wc, this]
      rfl
    · rw [if_neg hsay]
      refine ⟨_, ⟨K, fun k hk => ?_⟩, rfl⟩
      have hKk : tokens_run.f k (s.extract a s.size) = _ := hK k hk
      show tokens_token.f k s (a : Int) = _
      rw [base, hKk, Option.bind_some, wr_ a _ hsum, wn, if_pos wa, if_pos wb, if_neg (by rw [toList_lit, sub1]; exact hsay), str_of sub1, wc]
  · simp only [if_neg h1] at base
    rw [if_neg h1]
    by_cases h2 : Tk.gr c = true
    · simp only [if_pos h2] at base
      rw [if_pos h2]
      obtain ⟨K, hK⟩ := runH (by simp [Tk.rn, h2])
      refine ⟨_, ⟨K, fun k hk => ?_⟩, rfl⟩
      have hKk : tokens_run.f k (s.extract a s.size) = _ := hK k hk
      show tokens_token.f k s (a : Int) = _
      rw [base, hKk, Option.bind_some, wr_ a _ hsum, wn, if_pos wa, if_pos wb, str_of sub1, wc]
    · simp only [if_neg h2] at base
      rw [if_neg h2]
      by_cases h3 : Tk.dg c = true ∨ c = 45
      · rw [if_pos h3]
        have hb3 : (if Tk.dg c = true then true else c == 45) = true := by
          rcases h3 with h3 | h3
          · rw [if_pos h3]
          · rw [h3]; simp
        rw [hb3] at base
        have he1 : bs ((s.extract a s.size).extract 1 (s.extract a s.size).size) = r := by
          rw [bs_extract, he]
          simp only [List.drop_succ_cons, List.drop_zero]
          exact List.take_of_length_le (by rw [hsz]; omega)
        obtain ⟨K, hK⟩ := run_f ((s.extract a s.size).extract 1 (s.extract a s.size).size) (by rw [← bs_length, he1]; omega)
        rw [he1] at hK
        obtain ⟨v, ok, hv, hm⟩ := number_f (s.extract a (a + ((Tk.run r).length + 1))) (by rw [← bs_length, sub1, List.length_cons]; omega)
        rw [sub1] at hm
        have step : ∀ k, K ≤ k → tokens_token.f (k + 1) s (a : Int) = if ok = true then (some (4, (⟨#[]⟩ : ByteArray), v, (a : Int), ((a + ((Tk.run r).length + 1) : Nat) : Int), 0, 0)) else (some (4, (⟨#[]⟩ : ByteArray), 0, (a : Int), ((a + ((Tk.run r).length + 1) : Nat) : Int), 45, (a : Int))) := by
          intro k hk
          rw [base (k + 1), tokens_token.j0, if_pos rfl, if_pos (by rw [hsz]; omega)]
          have hKk : tokens_run.f k _ = _ := hK k hk
          rw [hKk, Option.bind_some, if_pos (by omega), wr2_ a _ hsum, wn, if_pos wa, if_pos wb, nat1, hv, Option.bind_some]
        cases hn : Tk.num (c :: Tk.run r) with
        | some n =>
          rw [hn] at hm
          obtain ⟨rfl, rfl⟩ := hm
          refine ⟨_, ⟨K + 1, fun k hk => ?_⟩, rfl⟩
          obtain ⟨k, rfl⟩ : ∃ m, k = m + 1 := ⟨k - 1, by omega⟩
          show tokens_token.f (k + 1) s (a : Int) = _
          rw [step k (by omega), if_pos rfl, wc]
          rfl
        | none =>
          rw [hn] at hm
          obtain rfl : ok = false := hm
          refine ⟨(4, (⟨#[]⟩ : ByteArray), 0, (a : Int), ((a + ((Tk.run r).length + 1) : Nat) : Int), 45, (a : Int)), ⟨K + 1, fun k hk => ?_⟩, by simp [Enc]⟩
          obtain ⟨k, rfl⟩ : ∃ m, k = m + 1 := ⟨k - 1, by omega⟩
          show tokens_token.f (k + 1) s (a : Int) = _
          rw [step k (by omega), if_neg (by simp)]
      · rw [if_neg h3]
        have hb3 : (if Tk.dg c = true then true else c == 45) = false := by
          rw [if_neg (fun h => h3 (.inl h)), beq_eq_false_iff_ne]; exact fun h => h3 (.inr h)
        rw [hb3] at base
        by_cases h4 : c = 34
        · rw [if_pos h4]
          obtain ⟨K, hK⟩ := quoted_f s a hs ha
          have hd : (bs s).drop (a + 1) = r := by
            have := congrArg List.tail h
            simpa using this
          rw [hd] at hK
          have step : ∀ k, K ≤ k → tokens_token.f (k + 1) s (a : Int) = some (encQ (a : Int) [] (a + 1) (Tk.quot 0 r)) := by
            intro k hk
            rw [base (k + 1), tokens_token.j0, if_neg (by simp), if_pos h4]
            have hKk : tokens_quoted.f k s (a : Int) = _ := hK k hk
            rw [hKk]
            rfl
          refine ⟨encQ (a : Int) [] (a + 1) (Tk.quot 0 r), ⟨K + 1, fun k hk => ?_⟩, ?_⟩
          · obtain ⟨k, rfl⟩ : ∃ m, k = m + 1 := ⟨k - 1, by omega⟩
            exact step k (by omega)
          · cases Tk.quot 0 r with
            | ok m n =>
              simp only [encQ, Enc, List.nil_append]
              rw [show ((a + 1 + n : Nat) : Int) = (a : Int) + ((n + 1 : Nat) : Int) by omega]
            | bad n =>
              simp only [encQ, Enc]
              rw [show ((a + 1 + n : Nat) : Int) = (a : Int) + ((n + 1 : Nat) : Int) by omega]
            | opn => simp [encQ, Enc]
        · rw [if_neg h4]
          have hv : ∀ k, ∃ v, tokens_signs.f (k + 1) (s.extract a s.size) 0 ⟨#[]⟩ 0 (a : Int) 0 = some v ∧ _ := fun k => signs_f (s.extract a s.size) (a : Int) c r he (by omega) (by omega) k
          obtain ⟨v, hv, hm⟩ := hv 0
          refine ⟨v, ⟨2, fun k hk => ?_⟩, ?_⟩
          · obtain ⟨k, rfl⟩ : ∃ m, k = m + 1 + 1 := ⟨k - 2, by omega⟩
            show tokens_token.f (k + 1 + 1) s (a : Int) = _
            have := at_rounds (tokens_signs.mono (s.extract a s.size) 0 ⟨#[]⟩ 0 (a : Int) 0) (show 1 ≤ k + 1 by omega) hv
            rw [base (k + 1 + 1), tokens_token.j0, if_neg (by simp), if_neg h4, this]
            rfl
          · revert hm
            cases Tk.signs c r <;> exact id

def toS (t : Tk.Tok) : S33 := ⟨t.k, strOfNums t.t, t.n, t.at_, t.e⟩
def encC (acc : List S33) (R : Tk.Res) : List S33 × Int × Int := (if R.e = 0 then acc ++ R.l.map toS else [], R.e, R.p)
theorem encC_cons (acc : List S33) (t : Tk.Tok) (R : Tk.Res) : encC acc (R.cons t) = encC (acc ++ [toS t]) R := by
  unfold encC Tk.Res.cons
  by_cases h : R.e = 0
  · rw [if_pos h]; simp only [if_pos h, List.map_cons, List.append_assoc, List.singleton_append]
  · rw [if_neg h]; simp only [if_neg h]

theorem next_ (i : Nat) (h : i ≤ 1099511627776) : wrap64 ((i : Int) + 1) = ((i + 1 : Nat) : Int) := by unfold wrap64; omega

theorem rem_ev (s : ByteArray) (hs : s.size ≤ 1099511627776) (acc : List S33) (i0 : Nat) (P : ∀ j : Nat, i0 ≤ j → j ≤ s.size → Ev (fun k => tokens_Cut.l0 k s acc (j : Int)) (encC acc (Tk.cut 0 (j : Int) ((bs s).drop j)))) :
    ∀ (d j : Nat), i0 ≤ j → j ≤ s.size → s.size - j ≤ d → Ev (fun k => tokens_Cut.l1 k s acc (j : Int)) (encC acc (Tk.cut 0 ((j + Tk.rem ((bs s).drop j) : Nat) : Int) ((bs s).drop (j + Tk.rem ((bs s).drop j))))) := by
  intro d
  induction d with
  | zero =>
    intro j h0 hj hd
    obtain ⟨K, hK⟩ := P j h0 hj
    refine ⟨K + 1, fun k hk => ?_⟩
    obtain ⟨k, rfl⟩ : ∃ m, k = m + 1 := ⟨k - 1, by omega⟩
    show tokens_Cut.l1 (k + 1) s acc (j : Int) = _
    rw [tokens_Cut.l1, if_neg (by omega)]
    have h := hK k (by omega)
    have e : Tk.rem ((bs s).drop j) = 0 := by rw [bs_drop_all s j (by omega)]; rfl
    rw [e]
    exact h
  | succ d ih =>
    intro j h0 hj hd
    rcases Nat.lt_or_ge j s.size with hj2 | hj2
    case inr => exact ih j h0 hj (by omega)
    by_cases h10 : bt s (j : Int) = 10
    · obtain ⟨K, hK⟩ := P j h0 hj
      refine ⟨K + 1, fun k hk => ?_⟩
      obtain ⟨k, rfl⟩ : ∃ m, k = m + 1 := ⟨k - 1, by omega⟩
      show tokens_Cut.l1 (k + 1) s acc (j : Int) = _
      rw [tokens_Cut.l1, if_pos (by omega), if_pos (by omega), if_pos h10]
      have h := hK k (by omega)
      have e : Tk.rem ((bs s).drop j) = 0 := by rw [bs_drop s j hj2]; simp only [Tk.rem]; rw [if_pos h10]
      rw [e]
      exact h
    · obtain ⟨K, hK⟩ := ih (j + 1) (by omega) (by omega) (by omega)
      refine ⟨K + 1, fun k hk => ?_⟩
      obtain ⟨k, rfl⟩ : ∃ m, k = m + 1 := ⟨k - 1, by omega⟩
      show tokens_Cut.l1 (k + 1) s acc (j : Int) = _
      rw [tokens_Cut.l1, if_pos (by omega), if_pos (by omega), if_neg h10, next_ j (by omega)]
      have h := hK k (by omega)
      have e : j + Tk.rem ((bs s).drop j) = j + 1 + Tk.rem ((bs s).drop (j + 1)) := by rw [bs_drop s j hj2]; simp only [Tk.rem]; rw [if_neg h10]; omega
      rw [e]
      exact h

theorem cut_ev (s : ByteArray) (hs : s.size ≤ 1099511627776) : ∀ (d i : Nat) (acc : List S33), i ≤ s.size → s.size - i ≤ d → acc.length ≤ i →
    Ev (fun k => tokens_Cut.l0 k s acc (i : Int)) (encC acc (Tk.cut 0 (i : Int) ((bs s).drop i))) := by
  intro d
  induction d with
  | zero =>
    intro i acc hi hd hl
    refine ⟨1, fun k hk => ?_⟩
    obtain ⟨k, rfl⟩ : ∃ m, k = m + 1 := ⟨k - 1, by omega⟩
    show tokens_Cut.l0 (k + 1) s acc (i : Int) = _
    rw [tokens_Cut.l0, if_neg (by omega), bs_drop_all s i (by omega), Tk.cut_nil]
    simp [encC]
  | succ d ih =>
    intro i acc hi hd hl
    rcases Nat.lt_or_ge i s.size with hi2 | hi2
    case inr => exact ih i acc hi (by omega) hl
    have hdr := bs_drop s i hi2
    have hlr : ((bs s).drop (i + 1)).length = s.size - (i + 1) := by rw [List.length_drop, bs_length]
    by_cases h37 : bt s (i : Int) = 37
    · have hr := rem_ev s hs acc (i + 1) (fun j h1 h2 => ih j acc h2 (by omega) (by omega)) s.size (i + 1) (Nat.le_refl _) (by omega) (by omega)
      obtain ⟨K, hK⟩ := hr
      refine ⟨K + 2, fun k hk => ?_⟩
      obtain ⟨k, rfl⟩ : ∃ m, k = m + 1 + 1 := ⟨k - 2, by omega⟩
      show tokens_Cut.l0 (k + 1 + 1) s acc (i : Int) = _
      rw [tokens_Cut.l0, if_pos (by omega), if_pos (by omega), if_pos h37, tokens_Cut.l1, if_pos (by omega), if_pos (by omega), if_neg (by omega), next_ i (by omega)]
      have h := hK k (by omega)
      rw [hdr, h37, Tk.cut_rem, List.drop_drop]
      rw [show ((i : Int) + 1 + (Tk.rem ((bs s).drop (i + 1)) : Int)) = ((i + 1 + Tk.rem ((bs s).drop (i + 1)) : Nat) : Int) by omega]
      exact h
    · have hj : ∀ k, tokens_Cut.l0 (k + 1) s acc (i : Int) = tokens_Cut.j2 k s acc (i : Int) (Tk.bl (bt s (i : Int))) := by
        intro k
        rw [tokens_Cut.l0, if_pos (by omega), if_pos (by omega), if_neg h37]
        unfold Tk.bl
        generalize bt s (i : Int) = c
        by_cases a1 : c = 32
        · subst a1; rfl
        · rw [if_neg a1]
          by_cases a2 : c = 9
          · subst a2; rfl
          · rw [if_neg a2]
            by_cases a3 : c = 13
            · subst a3; rfl
            · rw [if_neg a3]
              congr 1
              rw [decide_eq_false a1, decide_eq_false a2, decide_eq_false a3, Bool.eq_iff_iff]
              simp
      by_cases hb : Tk.bl (bt s (i : Int)) = true
      · obtain ⟨K, hK⟩ := ih (i + 1) acc (by omega) (by omega) (by omega)
        refine ⟨K + 2, fun k hk => ?_⟩
        obtain ⟨k, rfl⟩ : ∃ m, k = m + 1 + 1 := ⟨k - 2, by omega⟩
        show tokens_Cut.l0 (k + 1 + 1) s acc (i : Int) = _
        rw [hj, tokens_Cut.j2, if_pos hb, next_ i (by omega), hdr, Tk.cut_bl _ hb]
        exact hK k (by omega)
      · replace hb : Tk.bl (bt s (i : Int)) = false := by simpa using hb
        obtain ⟨v, ⟨K1, hK1⟩, hv⟩ := token_ev s hs i _ _ hdr
        cases hx : Tk.lex (bt s (i : Int)) ((bs s).drop (i + 1)) with
        | tok q t n len =>
          rw [hx] at hv
          obtain rfl : v = _ := hv
          have hlen := Tk.lex_len hx
          obtain ⟨K, hK⟩ := ih (i + len) (acc ++ [toS ⟨q, t, n, (i : Int), (i : Int) + (len : Int)⟩]) (by omega) (by omega) (by rw [List.length_append, List.length_singleton]; omega)
          refine ⟨K + K1 + 2, fun k hk => ?_⟩
          obtain ⟨k, rfl⟩ : ∃ m, k = m + 1 + 1 := ⟨k - 2, by omega⟩
          show tokens_Cut.l0 (k + 1 + 1) s acc (i : Int) = _
          have h1 : tokens_token.f k s (i : Int) = _ := hK1 k (by omega)
          rw [hj, tokens_Cut.j2, if_neg (by rw [hb]; simp), h1, Option.bind_some, if_pos rfl, if_pos (by omega), hdr, Tk.cut_tok _ hb h37 hx, encC_cons]
          have h : tokens_Cut.l0 k s (acc ++ [toS ⟨q, t, n, (i : Int), (i : Int) + (len : Int)⟩]) ((i + len : Nat) : Int) = _ := hK k (by omega)
          rw [ca_ i len] at h
          rw [← hdr, List.drop_drop]
          exact h
        | bad e off =>
          rw [hx] at hv
          have hoff := Tk.lex_off hx
          refine ⟨K1 + 2, fun k hk => ?_⟩
          obtain ⟨k, rfl⟩ : ∃ m, k = m + 1 + 1 := ⟨k - 2, by omega⟩
          show tokens_Cut.l0 (k + 1 + 1) s acc (i : Int) = _
          have h1 : tokens_token.f k s (i : Int) = _ := hK1 k (by omega)
          have hv5 : v.2.2.2.2.2 = (e, (i : Int) + (off : Int)) := hv
          rw [hj, tokens_Cut.j2, if_neg (by rw [hb]; simp), h1, Option.bind_some, hv5, if_neg (show ¬ e = 0 by omega), hdr, Tk.cut_bad _ hb h37 hx]
          simp only [encC]
          rw [if_neg (show ¬ e = 0 by omega)]

theorem Cut_f (s : ByteArray) (most : Int) (hs : s.size ≤ 1099511627776) : Ev (fun k => tokens_Cut.f k s most) (encC [] (Tk.Cut (bs s) most)) := by
  unfold tokens_Cut.f Tk.Cut
  by_cases h : most < (s.size : Int)
  · rw [if_pos (by rw [bs_length]; exact h)]
    refine ⟨0, fun k _ => ?_⟩
    show (if _ then _ else _) = _
    rw [if_pos h]
    rfl
  · rw [if_neg (by rw [bs_length]; exact h)]
    obtain ⟨K, hK⟩ := cut_ev s hs s.size 0 [] (by omega) (by omega) (by simp)
    refine ⟨K, fun k hk => ?_⟩
    show (if _ then _ else _) = _
    rw [if_neg h]
    exact hK k hk

end Go.Proofs.YtmpaipbpnkfmfaaDoor.CutPure

namespace Go.Proofs.YtmpaipbpnkfmfaaDoor.CutPure
open Go.RowKit Go.Proofs.YtmpaipbpnkfmfaaDoor.P Go.Proofs.YtmpaipbpnkfmfaaDoorW.PrintWords Go.Proofs.YtmpaipbpnkfmfaaDoorW.PrintLast Go.Proofs.YtmpaipbpnkfmfaaDoor.Br
open Go.Proofs.YtmpaipbpnkfmfaaDoor

theorem word_ev (s : ByteArray) (hs : s.size ≤ 1099511627776) : Ev (fun k => tokens_Word.f k s) (Tk.word (bs s)) := by
  by_cases h0 : s.size = 0
  · refine ⟨0, fun k _ => ?_⟩
    have e : bs s = [] := by rw [← List.length_eq_zero_iff, bs_length]; exact h0
    simp only [tokens_Word.f, if_pos ((toList_nil s).2 h0), e]
    rfl
  · obtain ⟨K, hK⟩ := run_f s hs
    refine ⟨K, fun k hk => ?_⟩
    have h := hK k hk
    simp only at h
    have e : bs s = bt s 0 :: (bs s).drop 1 := by simpa using bs_drop s 0 (by omega)
    simp only [tokens_Word.f, if_neg (mt (toList_nil s).1 h0), if_pos (show 0 < (s.size : Int) by omega), small_eq, Option.bind_some, h]
    have hl := bs_length s
    have hb : (s.toList != ([115, 97, 121, 115] : List UInt8)) = decide (bs s ≠ Tk.says) := by
      rw [Bool.eq_iff_iff, bne_iff_ne, decide_eq_true_eq, ne_eq, ne_eq, toList_lit]; rfl
    rw [hb, e]
    rw [e] at hl
    generalize bt s 0 = c at *
    generalize (bs s).drop 1 = r at *
    have hr := Tk.run_le r
    simp only [Tk.word, Tk.run]
    by_cases h1 : Tk.sm c = true
    · have h2 : Tk.rn c = true := by simp [Tk.rn, h1]
      simp only [h1, h2, if_true, List.length_cons, Bool.true_and] at hl ⊢
      by_cases h3 : Tk.run r = r
      · rw [if_pos (by rw [h3]; omega)]; simp [h3]
      · have : (Tk.run r).length ≠ r.length := by
          intro e2
          have e3 := Tk.run_take r
          rw [e2, List.take_length] at e3
          exact h3 e3.symm
        rw [if_neg (by omega)]; simp [h3]
    · simp [h1]

/-! ### Quote -/
theorem quote_ev (s : ByteArray) (hs : s.size ≤ 1099511627776) : ∀ (d i : Nat) (acc : List Int), i ≤ s.size → s.size - i = d → acc.length ≤ 1 + 4 * i →
    Ev (fun k => tokens_Quote.l0 k s acc (i : Int)) (strOfNums (acc ++ (Tk.qbody ((bs s).drop i) ++ [34]))) := by
  intro d
  induction d with
  | zero =>
    intro i acc hi hd ha
    refine ⟨1, fun k hk => ?_⟩
    obtain ⟨k, rfl⟩ : ∃ m, k = m + 1 := ⟨k - 1, by omega⟩
    simp only [tokens_Quote.l0]
    rw [if_neg (by omega), bs_drop_all s i (by omega), if_pos (by omega)]
    rfl
  | succ d ih =>
    intro i acc hi hd ha
    rw [bs_drop s i (by omega)]
    have hc := bt_range s (i : Int)
    have hw : wrap64 ((i : Int) + 1) = ((i + 1 : Nat) : Int) := by rw [w64 (by omega)]; omega
    have next : ∀ q : List Int, q.length ≤ 4 → Tk.qbyte (bt s (i : Int)) = q → ∃ K, ∀ k, K ≤ k → tokens_Quote.l0 k s (acc ++ q) (wrap64 ((i : Int) + 1)) = some (strOfNums (acc ++ (Tk.qbody (bt s (i : Int) :: (bs s).drop (i + 1)) ++ [34]))) := by
      intro q hq e
      obtain ⟨K, hK⟩ := ih (i + 1) (acc ++ q) (by omega) (by omega) (by rw [List.length_append]; omega)
      refine ⟨K, fun k hk => ?_⟩
      have h := hK k hk
      simp only at h
      rw [hw, h]
      simp only [Tk.qbody, e, List.append_assoc]
    refine Exists.elim (next _ (Tk.qbyte_le _) rfl) fun K hK => ⟨K + 2, fun k hk => ?_⟩
    obtain ⟨k, rfl⟩ : ∃ m, k = m + 2 := ⟨k - 2, by omega⟩
    have h := hK k (by omega)
    clear hK next ih
    simp only [tokens_Quote.l0]
    rw [if_pos (by omega), if_pos (by omega)]
    generalize bt s (i : Int) = c at *
    have j1 : ∀ b : Bool, b = decide (c = 34 ∨ c = 92) → tokens_Quote.j1 (k + 1) s acc (i : Int) c b = some (strOfNums (acc ++ (Tk.qbody (c :: (bs s).drop (i + 1)) ++ [34]))) := by
      intro b hb
      subst hb
      simp only [tokens_Quote.j1, Option.bind_some]
      by_cases h1 : c = 34 ∨ c = 92
      · simp only [Tk.qbyte, if_pos h1] at h
        rw [if_pos (by simpa using h1), if_pos (by simp only [List.length_cons, List.length_nil]; omega)]
        exact h
      · rw [if_neg (by simpa using h1)]
        by_cases h2 : c = 10
        · simp only [Tk.qbyte, if_neg h1, if_pos h2] at h
          rw [if_pos h2, if_pos (by simp only [List.length_cons, List.length_nil]; omega)]
          exact h
        · by_cases h3 : c = 9
          · simp only [Tk.qbyte, if_neg h1, if_neg h2, if_pos h3] at h
            rw [if_neg h2, if_pos h3, if_pos (by simp only [List.length_cons, List.length_nil]; omega)]
            exact h
          · rw [if_neg h2, if_neg h3]
            have ha := and15 hc.1 hc.2
            have hx1 := hexdig (c / 16) (by omega)
            have hx2 := hexdig (c % 16) (by omega)
            by_cases h4 : 32 ≤ c ∧ c ≤ 126
            · simp only [Tk.qbyte, if_neg h1, if_neg h2, if_neg h3, if_pos h4] at h
              rw [if_neg (by omega), if_neg (by omega), if_pos (by omega)]
              exact h
            · simp only [Tk.qbyte, if_neg h1, if_neg h2, if_neg h3, if_neg h4] at h
              have hl : (acc.length + ([92, 120, Tk.dig (c / 16), Tk.dig (c % 16)] : List Int).length < 140737488355328) := by simp only [List.length_cons, List.length_nil]; omega
              rw [ha, hx1, hx2, if_pos (show 0 ≤ c / 16 by omega), if_pos (show c / 16 < 16 by omega), if_pos (show 0 ≤ c % 16 by omega), if_pos (show c % 16 < 16 by omega), if_pos hl]
              by_cases h5 : c < 32
              · rw [if_pos h5]; exact h
              · rw [if_neg h5, if_pos (by omega)]; exact h
    by_cases h1 : c = 34
    · rw [if_pos h1]; exact j1 _ (by simp [h1])
    · rw [if_neg h1]
      exact j1 _ (by rw [Bool.eq_iff_iff, beq_iff_eq, decide_eq_true_eq]; simp [h1])
theorem quote_all (s : ByteArray) (hs : s.size ≤ 1099511627776) : Ev (fun k => tokens_Quote.f k s) (strOfNums (Tk.quote (bs s))) := by
  have h := quote_ev s hs s.size 0 [34] (by omega) (by omega) (by simp)
  simpa [tokens_Quote.f, Tk.quote] using h

theorem given_eq (s : ByteArray) (b : Bool) : tokens_given.f s b = some (if b = true then s else ⟨#[]⟩, b) := by
  unfold tokens_given.f
  cases b <;> rfl

def encS : Option (List Int) → ByteArray × Bool
  | some w => (strOfNums w, true)
  | none => (⟨#[]⟩, false)

theorem Spell_f (q : Int) (s : ByteArray) (n x y : Int) (hs : s.size ≤ 1099511627776) (hn : -9223372036854775808 ≤ n ∧ n ≤ 9223372036854775807) :
    Ev (fun k => tokens_Spell.f k q s n x y) (encS (Tk.spell q (bs s) n)) := by
  have hnil : s.toList = [] ↔ bs s = [] := by rw [toList_nil, ← bs_length, List.length_eq_zero_iff]
  obtain ⟨K1, h1⟩ := word_ev s hs
  obtain ⟨K2, h2⟩ := quote_all s hs
  obtain ⟨K3, h3⟩ := run_f s hs
  refine ⟨K1 + K2 + K3 + 1, fun k hk => ?_⟩
  obtain ⟨k, rfl⟩ : ∃ m, k = m + 1 := ⟨k - 1, by omega⟩
  have w1 : tokens_Word.f k s = _ := h1 k (by omega)
  have w2 : tokens_Quote.f k s = _ := h2 k (by omega)
  have w3 : tokens_run.f k s = _ := h3 k (by omega)
  have hj : tokens_Spell.f (k + 1) q s n x y = tokens_Spell.j0 (k + 1) (decide (bs s = [] ∧ n = 0)) q s n x y := by
    unfold tokens_Spell.f
    by_cases h : s.toList = []
    · rw [if_pos h]
      congr 1
      rw [Bool.eq_iff_iff, beq_iff_eq, decide_eq_true_eq]
      exact ⟨fun e => ⟨hnil.1 h, e⟩, fun e => e.2⟩
    · rw [if_neg h]
      congr 1
      exact (decide_eq_false fun e : bs s = [] ∧ n = 0 => h (hnil.2 e.1)).symm
  show tokens_Spell.f (k + 1) q s n x y = _
  rw [hj, tokens_Spell.j0]
  simp only [given_eq]
  unfold Tk.spell
  by_cases c1 : q = 1
  · rw [if_pos c1, if_pos c1]
    by_cases c0 : n = 0
    · rw [if_pos c0, w1]
      cases hw : Tk.word (bs s) with
      | true => rw [if_pos ⟨c0, rfl⟩]; simp [encS, str_bs]
      | false => rw [if_neg (by simp)]; simp [encS]
    · rw [if_neg c0]; simp [encS, c0]
  · rw [if_neg c1, if_neg c1]
    by_cases c2 : q = 2
    · rw [if_pos c2, if_pos c2]
      by_cases c0 : n = 0
      · rw [if_pos c0]
        by_cases hn0 : s.toList = []
        · rw [if_pos hn0, hnil.1 hn0]; simp [encS, Tk.vari]
        · have hz : 0 < s.size := by
            rcases Nat.eq_zero_or_pos s.size with h | h
            · exact absurd ((toList_nil s).2 h) hn0
            · exact h
          have hd : bs s = bt s 0 :: (bs s).drop 1 := by simpa using bs_drop s 0 hz
          rw [if_neg hn0, if_pos (by omega), great_eq, w3]
          simp only [Option.bind_some]
          have hv : Tk.vari (bs s) = (Tk.gr (bt s 0) && decide (((Tk.run (bs s)).length : Int) = (s.size : Int))) := by
            rw [← bs_length]
            generalize hl : bs s = l at hd ⊢
            rw [hd]
            generalize (l.drop 1) = r
            generalize bt s 0 = c
            simp only [Tk.vari]
            cases hg : Tk.gr c with
            | false => simp
            | true =>
              simp only [Bool.true_and, Tk.run, Tk.rn, hg, Bool.or_true, Bool.true_or, if_true, List.length_cons]
              rw [decide_eq_decide]
              constructor
              · intro e; rw [e]
              · intro e
                have := Tk.run_take r
                rw [← this]
                rw [List.take_of_length_le (by omega)]
          by_cases hg : Tk.gr (bt s 0) = true
          · rw [if_pos hg]
            rw [hg, Bool.true_and] at hv
            by_cases hr : ((Tk.run (bs s)).length : Int) = (s.size : Int)
            · rw [decide_eq_true hr] at hv
              simp [encS, str_bs, hr, hv, c0]
            · rw [decide_eq_false hr] at hv
              have hb : (((Tk.run (bs s)).length : Int) == (s.size : Int)) = false := beq_eq_false_iff_ne.2 hr
              rw [hb]; simp [encS, hv]
          · rw [if_neg hg]
            have hg' : Tk.gr (bt s 0) = false := by simpa using hg
            rw [hg', Bool.false_and] at hv
            simp [encS, hv]
      · rw [if_neg c0]; simp [encS, c0]
    · rw [if_neg c2, if_neg c2]
      by_cases c3 : q = 3
      · rw [if_pos c3, if_pos c3, w2]
        by_cases c0 : n = 0
        · rw [if_pos c0]; simp [encS, c0]
        · rw [if_neg c0]
          have hb : (n == 0) = false := beq_eq_false_iff_ne.2 c0
          simp [encS, hb]
      · rw [if_neg c3, if_neg c3]
        by_cases c4 : q = 4
        · rw [if_pos c4, if_pos c4, itoa_f n hn]
          by_cases c0 : bs s = []
          · rw [if_pos c0, hnil.2 c0]; simp [encS]
          · rw [if_neg c0]
            have hb : (s.toList == ([] : List UInt8)) = false := beq_eq_false_iff_ne.2 (fun e => c0 (hnil.1 e))
            rw [hb]; simp [encS]
        · rw [if_neg c4, if_neg c4]
          simp only [tokens_spelling.f, Option.bind_some]
          by_cases c5 : 5 ≤ q ∧ q ≤ 16
          · rw [if_pos c5, if_pos c5]
            by_cases c0 : bs s = [] ∧ n = 0
            · rw [if_pos (decide_eq_true c0), if_pos c0]
              have hne : ((strOfNums (Tk.signOf q)).toList != ([] : List UInt8)) = true := by
                have : q = 5 ∨ q = 6 ∨ q = 7 ∨ q = 8 ∨ q = 9 ∨ q = 10 ∨ q = 11 ∨ q = 12 ∨ q = 13 ∨ q = 14 ∨ q = 15 ∨ q = 16 := by omega
                rw [bne_iff_ne]
                intro e
                have e2 := (toList_nil _).1 e
                clear hj w1 w2 w3 h1 h2 h3
                rcases this with rfl | rfl | rfl | rfl | rfl | rfl | rfl | rfl | rfl | rfl | rfl | rfl <;> exact absurd e2 (by decide)
              rw [hne]; rfl
            · rw [if_neg (by simpa using c0), if_neg c0]; simp [encS]
          · rw [if_neg c5, if_neg c5]
            by_cases c0 : bs s = [] ∧ n = 0
            · rw [if_pos (decide_eq_true c0), (toList_nil (strOfNums [])).2 rfl]
              rfl
            · rw [if_neg (by simpa using c0)]; simp [encS]

theorem apart_f (q : Int) (t : ByteArray) (n x y : Int) (q' : Int) (t' : ByteArray) (n' x' y' : Int) (k : Nat) :
    tokens_apart.f (k + 3) q t n x y q' t' n' x' y' = some (Tk.apart q q' n') := by
  have j2 : ∀ (k : Nat) (b : Bool), tokens_apart.j2 (k + 1) q' b q' t' n' x' y' = some (if b = true then true else if q' = 4 then decide (0 ≤ n') else false) := by
    intro k b
    rw [tokens_apart.j2]
    cases b with
    | true => rfl
    | false =>
      simp only [Bool.false_eq_true, if_false]
      by_cases h : q' = 4
      · rw [if_pos h, if_pos h]
      · rw [if_neg h, if_neg h]
  have j1 : ∀ k, tokens_apart.j1 (k + 2) q' t' n' x' y' = some (if q' = 1 ∨ q' = 2 ∨ q' = 5 then true else if q' = 4 then decide (0 ≤ n') else false) := by
    intro k
    rw [tokens_apart.j1, j2, j2, j2]
    by_cases a1 : q' = 1
    · subst a1; rfl
    · rw [if_neg a1]
      by_cases a2 : q' = 2
      · subst a2; rfl
      · rw [if_neg a2]
        by_cases a3 : q' = 5
        · subst a3; rfl
        · have : (q' == 5) = false := beq_eq_false_iff_ne.2 a3
          rw [this, if_neg (show ¬ (q' = 1 ∨ q' = 2 ∨ q' = 5) by omega)]; rfl
  have j0 : ∀ b : Bool, tokens_apart.j0 (k + 3) q b q' t' n' x' y' = some (if b = true ∨ q = 5 ∨ q = 4 then (if q' = 1 ∨ q' = 2 ∨ q' = 5 then true else if q' = 4 then decide (0 ≤ n') else false) else false) := by
    intro b
    rw [tokens_apart.j0, j1]
    generalize (if q' = 1 ∨ q' = 2 ∨ q' = 5 then true else if q' = 4 then decide (0 ≤ n') else false) = X
    cases b with
    | true => rw [if_pos rfl, if_pos (Or.inl rfl)]
    | false =>
      rw [if_neg (by simp)]
      by_cases a1 : q = 5
      · rw [if_pos a1, if_pos (by simp [a1])]
      · rw [if_neg a1]
        by_cases a2 : q = 4
        · rw [if_pos a2, if_pos (by simp [a2])]
        · rw [if_neg a2, if_neg (by simp [a1, a2])]
  unfold tokens_apart.f Tk.apart
  by_cases c15 : q = 15
  · rw [if_pos c15, if_pos c15]
    congr 1
  · rw [if_neg c15, if_neg c15, j0, j0]
    generalize (if q' = 1 ∨ q' = 2 ∨ q' = 5 then true else if q' = 4 then decide (0 ≤ n') else false) = X
    by_cases a1 : q = 1
    · rw [if_pos a1, if_pos (by simp [a1]), if_pos (by simp [a1])]
    · rw [if_neg a1]
      by_cases a2 : q = 2
      · rw [if_pos (by simp [a2]), if_pos (by simp [a2])]
      · have : (q == 2) = false := beq_eq_false_iff_ne.2 a2
        rw [this]
        by_cases a3 : q = 5 ∨ q = 4
        · rw [if_pos (Or.inr a3), if_pos (by omega)]
        · rw [if_neg (by simpa using a3), if_neg (by omega)]

end Go.Proofs.YtmpaipbpnkfmfaaDoor.CutPure

namespace Go.Proofs.YtmpaipbpnkfmfaaDoor.CutPure
open Go.RowKit Go.Proofs.YtmpaipbpnkfmfaaDoor.P Go.Proofs.YtmpaipbpnkfmfaaDoorW.PrintWords Go.Proofs.YtmpaipbpnkfmfaaDoorW.PrintLast Go.Proofs.YtmpaipbpnkfmfaaDoor.Br
open Go.Proofs.YtmpaipbpnkfmfaaDoor

def ofS (t : S33) : Tk.Tok := ⟨t.f0, bs t.f1, t.f2, t.f3, t.f4⟩
def okS (t : S33) : Prop := t.f1.size ≤ 1099511627776 ∧ -9223372036854775808 ≤ t.f2 ∧ t.f2 ≤ 9223372036854775807
def wt : List S33 → Nat
  | [] => 0
  | t :: r => 4 * t.f1.size + 30 + wt r

theorem spell_le {q : Int} {t : List Int} {n : Int} {w : List Int} (h : Tk.spell q t n = some w) (hn : -9223372036854775808 ≤ n ∧ n ≤ 9223372036854775807) : w.length ≤ 4 * t.length + 22 := by
  unfold Tk.spell at h
  by_cases c1 : q = 1
  · rw [if_pos c1] at h
    split at h
    · obtain rfl := Option.some.inj h; omega
    · cases h
  · rw [if_neg c1] at h
    by_cases c2 : q = 2
    · rw [if_pos c2] at h
      split at h
      · obtain rfl := Option.some.inj h; omega
      · cases h
    · rw [if_neg c2] at h
      by_cases c3 : q = 3
      · rw [if_pos c3] at h
        split at h
        · obtain rfl := Option.some.inj h
          have := Tk.quote_len t
          have := Tk.qbody_le t
          omega
        · cases h
      · rw [if_neg c3] at h
        by_cases c4 : q = 4
        · rw [if_pos c4] at h
          split at h
          · obtain rfl := Option.some.inj h
            obtain ⟨c, r, e, _, _, _, _, hr⟩ := Tk.dec_form hn.1 hn.2
            rw [e, List.length_cons]; omega
          · cases h
        · rw [if_neg c4] at h
          by_cases c5 : 5 ≤ q ∧ q ≤ 16
          · rw [if_pos c5] at h
            split at h
            · obtain rfl := Option.some.inj h
              have : q = 5 ∨ q = 6 ∨ q = 7 ∨ q = 8 ∨ q = 9 ∨ q = 10 ∨ q = 11 ∨ q = 12 ∨ q = 13 ∨ q = 14 ∨ q = 15 ∨ q = 16 := by omega
              have hl : (Tk.signOf q).length ≤ 4 := by rcases this with rfl | rfl | rfl | rfl | rfl | rfl | rfl | rfl | rfl | rfl | rfl | rfl <;> decide
              omega
            · cases h
          · rw [if_neg c5] at h; cases h

theorem qbyte_bytes (c : Int) (h : 0 ≤ c ∧ c ≤ 255) : Tk.bytes (Tk.qbyte c) := by
  have hd : ∀ x : Int, 0 ≤ x ∧ x ≤ 15 → 0 ≤ Tk.dig x ∧ Tk.dig x ≤ 255 := by intro x hx; unfold Tk.dig; split <;> omega
  intro x hx
  unfold Tk.qbyte at hx
  split at hx
  · simp only [List.mem_cons, List.not_mem_nil, or_false] at hx; omega
  · split at hx
    · simp only [List.mem_cons, List.not_mem_nil, or_false] at hx; omega
    · split at hx
      · simp only [List.mem_cons, List.not_mem_nil, or_false] at hx; omega
      · split at hx
        · simp only [List.mem_cons, List.not_mem_nil, or_false] at hx; omega
        · simp only [List.mem_cons, List.not_mem_nil, or_false] at hx
          have h1 := hd (c / 16) (by omega)
          have h2 := hd (c % 16) (by omega)
          rcases hx with rfl | rfl | rfl | rfl <;> omega
theorem qbody_bytes : ∀ (t : List Int), Tk.bytes t → Tk.bytes (Tk.qbody t) := by
  intro t
  induction t with
  | nil => intro _ c hc; simp [Tk.qbody] at hc
  | cons c r ih =>
    intro h x hx
    simp only [Tk.qbody, List.mem_append] at hx
    rcases hx with hx | hx
    · exact qbyte_bytes c (h c (by simp)) x hx
    · exact ih (fun y hy => h y (by simp [hy])) x hx
theorem dec_bytes {n : Int} (hn : -9223372036854775808 ≤ n ∧ n ≤ 9223372036854775807) : Tk.bytes (Tk.dec n) := by
  rw [← itoa_dec n hn]
  intro c hc
  simp only [ints, List.mem_map] at hc
  obtain ⟨b, _, rfl⟩ := hc
  have := b.toNat_lt
  omega
/-- the spelling of bytes is bytes -/
theorem spell_bytes {q : Int} {t : List Int} {n : Int} {w : List Int} (h : Tk.spell q t n = some w) (hn : -9223372036854775808 ≤ n ∧ n ≤ 9223372036854775807) (ht : Tk.bytes t) : Tk.bytes w := by
  unfold Tk.spell at h
  by_cases c1 : q = 1
  · rw [if_pos c1] at h
    split at h
    · obtain rfl := Option.some.inj h; exact ht
    · cases h
  · rw [if_neg c1] at h
    by_cases c2 : q = 2
    · rw [if_pos c2] at h
      split at h
      · obtain rfl := Option.some.inj h; exact ht
      · cases h
    · rw [if_neg c2] at h
      by_cases c3 : q = 3
      · rw [if_pos c3] at h
        split at h
        · obtain rfl := Option.some.inj h
          intro x hx
          simp only [Tk.quote, List.mem_cons, List.mem_append, List.not_mem_nil, or_false] at hx
          rcases hx with rfl | hx | rfl
          · omega
          · exact qbody_bytes t ht x hx
          · omega
        · cases h
      · rw [if_neg c3] at h
        by_cases c4 : q = 4
        · rw [if_pos c4] at h
          split at h
          · obtain rfl := Option.some.inj h; exact dec_bytes hn
          · cases h
        · rw [if_neg c4] at h
          by_cases c5 : 5 ≤ q ∧ q ≤ 16
          · rw [if_pos c5] at h
            split at h
            · obtain rfl := Option.some.inj h
              have : q = 5 ∨ q = 6 ∨ q = 7 ∨ q = 8 ∨ q = 9 ∨ q = 10 ∨ q = 11 ∨ q = 12 ∨ q = 13 ∨ q = 14 ∨ q = 15 ∨ q = 16 := by omega
              unfold Tk.bytes
              rcases this with rfl | rfl | rfl | rfl | rfl | rfl | rfl | rfl | rfl | rfl | rfl | rfl <;> decide
            · cases h
          · rw [if_neg c5] at h; cases h

theorem rd_drop (l : List S33) (i : Nat) (h : i < l.length) : l.drop i = rd_T33 l (i : Int) :: l.drop (i + 1) := by
  rw [List.drop_eq_getElem_cons h]
  congr 1
  unfold rd_T33
  rw [Int.toNat_natCast, List.getD_eq_getElem?_getD, List.getElem?_eq_getElem h]
  rfl
theorem son_app (a b : List Int) : (strOfNums (a ++ b)).data.toList = (strOfNums a).data.toList ++ (strOfNums b).data.toList := by
  simp [strOfNums]
theorem son_len (a : List Int) : (strOfNums a).size = a.length := by
  simp [strOfNums, ByteArray.size]

def encJ (b : List UInt8) : Option (List Int) → ByteArray × Bool
  | some w => (⟨(b ++ (strOfNums w).data.toList).toArray⟩, true)
  | none => (⟨#[]⟩, false)

def prevK (l : List S33) (i : Nat) : Int := if i = 0 then 0 else (rd_T33 l ((i : Int) - 1)).f0

theorem join_ev (l : List S33) (ok : ∀ t ∈ l, okS t) : ∀ (d i : Nat) (b : List UInt8), i ≤ l.length → l.length - i ≤ d → b.length + wt (l.drop i) ≤ 140737488355328 →
    Ev (fun k => tokens_Join.l0 k l i b) (encJ b (Tk.joinTail (prevK l i) ((l.drop i).map ofS))) := by
  intro d
  induction d with
  | zero =>
    intro i b hi hd hb
    refine ⟨1, fun k hk => ?_⟩
    obtain ⟨k, rfl⟩ : ∃ m, k = m + 1 := ⟨k - 1, by omega⟩
    show tokens_Join.l0 (k + 1) l i b = _
    rw [tokens_Join.l0, if_neg (by omega), List.drop_eq_nil_of_le (by omega)]
    simp [Tk.joinTail, encJ, strOfNums]
  | succ d ih =>
    intro i b hi hd hb
    rcases Nat.lt_or_ge i l.length with hi2 | hi2
    case inr => exact ih i b hi (by omega) hb
    have hdr := rd_drop l i hi2
    have hmem : rd_T33 l (i : Int) ∈ l := List.mem_of_mem_drop (i := i) (by rw [hdr]; simp)
    obtain ⟨o1, o2⟩ := ok _ hmem
    rw [hdr] at hb ⊢
    simp only [wt] at hb
    obtain ⟨K1, h1⟩ := Spell_f (rd_T33 l (i : Int)).f0 (rd_T33 l (i : Int)).f1 (rd_T33 l (i : Int)).f2 (rd_T33 l (i : Int)).f3 (rd_T33 l (i : Int)).f4 o1 o2
    have hp : prevK l (i + 1) = (rd_T33 l (i : Int)).f0 := by
      unfold prevK
      rw [if_neg (by omega), show ((i + 1 : Nat) : Int) - 1 = (i : Int) by omega]
    have hap : ∀ k, (if i = 0 then some false else tokens_apart.f (k + 3) (rd_T33 l ((i : Int) - 1)).f0 (rd_T33 l ((i : Int) - 1)).f1 (rd_T33 l ((i : Int) - 1)).f2 (rd_T33 l ((i : Int) - 1)).f3 (rd_T33 l ((i : Int) - 1)).f4
            (rd_T33 l i).f0 (rd_T33 l i).f1 (rd_T33 l i).f2 (rd_T33 l i).f3 (rd_T33 l i).f4) = some (Tk.apart (prevK l i) (rd_T33 l i).f0 (rd_T33 l i).f2) := by
      intro k
      unfold prevK
      by_cases h0 : i = 0
      · rw [if_pos h0, if_pos h0]; rfl
      · rw [if_neg h0, if_neg h0, apart_f]
    simp only [List.map_cons, Tk.joinTail]
    have hof : ofS (rd_T33 l (i : Int)) = ⟨(rd_T33 l (i : Int)).f0, bs (rd_T33 l (i : Int)).f1, (rd_T33 l (i : Int)).f2, (rd_T33 l (i : Int)).f3, (rd_T33 l (i : Int)).f4⟩ := rfl
    rw [hof]
    simp only
    cases hs : Tk.spell (rd_T33 l (i : Int)).f0 (bs (rd_T33 l (i : Int)).f1) (rd_T33 l (i : Int)).f2 with
    | none =>
      rw [hs] at h1
      refine ⟨K1 + 1, fun k hk => ?_⟩
      obtain ⟨k, rfl⟩ : ∃ m, k = m + 1 := ⟨k - 1, by omega⟩
      have h1k : tokens_Spell.f k (rd_T33 l (i : Int)).f0 (rd_T33 l (i : Int)).f1 (rd_T33 l (i : Int)).f2 (rd_T33 l (i : Int)).f3 (rd_T33 l (i : Int)).f4 = _ := h1 k (by omega)
      show tokens_Join.l0 (k + 1) l i b = _
      rw [tokens_Join.l0, if_pos hi2, h1k, Option.bind_some]
      rfl
    | some w =>
      rw [hs] at h1
      have hw := spell_le hs o2
      rw [bs_length] at hw
      have hlen : (if Tk.apart (prevK l i) (rd_T33 l i).f0 (rd_T33 l i).f2 = true then [32] else ([] : List UInt8)).length ≤ 1 := by split <;> simp
      obtain ⟨K2, h2⟩ := ih (i + 1) (b ++ ((if Tk.apart (prevK l i) (rd_T33 l i).f0 (rd_T33 l i).f2 = true then [32] else []) ++ (strOfNums w).data.toList)) (by omega) (by omega) (by
        have : (strOfNums w).data.toList.length = w.length := by rw [← son_len w]; rfl
        rw [List.length_append, List.length_append, this]; omega)
      rw [hp] at h2
      refine ⟨K1 + K2 + 4, fun k hk => ?_⟩
      obtain ⟨k, rfl⟩ : ∃ m, k = m + 3 + 1 := ⟨k - 4, by omega⟩
      have h1k : tokens_Spell.f (k + 3) (rd_T33 l (i : Int)).f0 (rd_T33 l (i : Int)).f1 (rd_T33 l (i : Int)).f2 (rd_T33 l (i : Int)).f3 (rd_T33 l (i : Int)).f4 = _ := h1 (k + 3) (by omega)
      have h2k : tokens_Join.l0 (k + 3) l (i + 1) _ = _ := h2 (k + 3) (by omega)
      show tokens_Join.l0 (k + 3 + 1) l i b = _
      rw [tokens_Join.l0, if_pos hi2, h1k, Option.bind_some, if_pos (show (encS (some w)).2 = true from rfl), hap, Option.bind_some, if_pos (by simp only [encS]; rw [son_len]; omega)]
      simp only [encS]
      rw [h2k]
      cases Tk.joinTail (rd_T33 l (i : Int)).f0 ((l.drop (i + 1)).map ofS) with
      | none => rfl
      | some v =>
        simp only [encJ]
        rw [son_app, son_app]
        have e32 : (strOfNums (if Tk.apart (prevK l i) (rd_T33 l i).f0 (rd_T33 l i).f2 = true then [32] else [])).data.toList = (if Tk.apart (prevK l i) (rd_T33 l i).f0 (rd_T33 l i).f2 = true then [32] else ([] : List UInt8)) := by split <;> rfl
        rw [e32]
        simp only [List.append_assoc]

theorem Join_f (l : List S33) (ok : ∀ t ∈ l, okS t) (hl : l.length ≤ 1099511627776) (hw : wt l ≤ 140737488355328) : Ev (fun k => tokens_Join.f k l) (encJ [] (Tk.join (l.map ofS))) := by
  obtain ⟨K, hK⟩ := join_ev l ok l.length 0 [] (by omega) (by omega) (by simpa using hw)
  refine ⟨K, fun k hk => ?_⟩
  show tokens_Join.f k l = _
  unfold tokens_Join.f
  rw [if_pos (by omega)]
  exact hK k hk

end Go.Proofs.YtmpaipbpnkfmfaaDoor.CutPure

namespace Go.Proofs.YtmpaipbpnkfmfaaDoor.CutPure
open Go.RowKit Go.Proofs.YtmpaipbpnkfmfaaDoor.P Go.Proofs.YtmpaipbpnkfmfaaDoorW.PrintWords Go.Proofs.YtmpaipbpnkfmfaaDoorW.PrintLast Go.Proofs.YtmpaipbpnkfmfaaDoor.Br
open Go.Proofs.YtmpaipbpnkfmfaaDoor

def headT : List Int := [112, 40, 88, 41, 58, 45, 34, 97, 34, 32, 115, 97, 121, 115, 32, 113, 44, 32, 88, 60, 61, 45, 55, 46]
def headL : List Tk.Tok := [⟨1, [112], 0, 0, 1⟩, ⟨6, [], 0, 1, 2⟩, ⟨2, [88], 0, 2, 3⟩, ⟨7, [], 0, 3, 4⟩, ⟨11, [], 0, 4, 6⟩, ⟨3, [97], 0, 6, 9⟩, ⟨5, [], 0, 10, 14⟩, ⟨1, [113], 0, 15, 16⟩, ⟨8, [], 0, 16, 17⟩, ⟨2, [88], 0, 18, 19⟩, ⟨16, [], 0, 19, 21⟩, ⟨4, [], -7, 21, 23⟩, ⟨10, [], 0, 23, 24⟩]
theorem head_cut : Tk.Cut headT 100 = ⟨headL, 0, 0⟩ := by decide +kernel
theorem head_join : Tk.join headL = some [112, 40, 88, 41, 58, 45, 34, 97, 34, 115, 97, 121, 115, 32, 113, 44, 88, 60, 61, 45, 55, 46] := by decide +kernel

def headS : List S33 := headL.map toS
theorem head_ofS : headS.map ofS = headL := by decide +kernel
theorem head_f : Ev (fun k => hearsaylaw04_head.f k) true := by
  obtain ⟨K1, h1⟩ := Cut_f (⟨#[112, 40, 88, 41, 58, 45, 34, 97, 34, 32, 115, 97, 121, 115, 32, 113, 44, 32, 88, 60, 61, 45, 55, 46]⟩ : ByteArray) 100 (by decide)
  obtain ⟨K2, h2⟩ := Join_f headS (by
    have : headS.all (fun t => decide (t.f1.size ≤ 1099511627776 ∧ -9223372036854775808 ≤ t.f2 ∧ t.f2 ≤ 9223372036854775807)) = true := by decide +kernel
    intro t ht
    have h := List.all_eq_true.1 this t ht
    simp only [decide_eq_true_eq] at h
    exact h) (by decide +kernel) (by decide +kernel)
  rw [head_ofS, head_join] at h2
  rw [show bs (⟨#[112, 40, 88, 41, 58, 45, 34, 97, 34, 32, 115, 97, 121, 115, 32, 113, 44, 32, 88, 60, 61, 45, 55, 46]⟩ : ByteArray) = headT by decide +kernel, head_cut] at h1
  refine ⟨K1 + K2, fun k hk => ?_⟩
  have h1k : tokens_Cut.f k _ 100 = _ := h1 k (by omega)
  have h2k : tokens_Join.f k headS = _ := h2 k (by omega)
  show hearsaylaw04_head.f k = _
  unfold hearsaylaw04_head.f
  have e1 : encC [] ⟨headL, 0, 0⟩ = (headS, 0, 0) := rfl
  have t0 : (rd_T33 headS 0).f1.toList = [112] := (toList_lit _ _).2 (by decide +kernel)
  have t1 : (rd_T33 headS 11).f1.toList = [] := (toList_lit _ _).2 (by decide +kernel)
  have a0 : (rd_T33 headS 0).f0 = 1 ∧ (rd_T33 headS 0).f2 = 0 ∧ (rd_T33 headS 0).f3 = 0 ∧ (rd_T33 headS 0).f4 = 1 := by decide +kernel
  have a1 : (rd_T33 headS 11).f0 = 4 ∧ (rd_T33 headS 11).f2 = -7 ∧ (rd_T33 headS 11).f3 = 21 ∧ (rd_T33 headS 11).f4 = 23 := by decide +kernel
  have ln : (headS.length : Int) = 13 := by decide +kernel
  rw [h1k, e1, Option.bind_some]
  simp only [t0, t1, a0, a1, ln]
  rw [h2k]
  simp only [encJ, Option.bind_some]
  have tj : ∀ l : List Int, l = [112, 40, 88, 41, 58, 45, 34, 97, 34, 115, 97, 121, 115, 32, 113, 44, 88, 60, 61, 45, 55, 46] → (⟨([] ++ (strOfNums l).data.toList).toArray⟩ : ByteArray).toList = [112, 40, 88, 41, 58, 45, 34, 97, 34, 115, 97, 121, 115, 32, 113, 44, 88, 60, 61, 45, 55, 46] := by
    intro l hl; subst hl; exact (toList_lit _ _).2 (by decide +kernel)
  rw [tj _ rfl]
  decide

end Go.Proofs.YtmpaipbpnkfmfaaDoor.CutPure

namespace Go.Proofs.YtmpaipbpnkfmfaaDoor.CutPure
open Go.RowKit Go.Proofs.YtmpaipbpnkfmfaaDoor.P Go.Proofs.YtmpaipbpnkfmfaaDoorW.PrintWords Go.Proofs.YtmpaipbpnkfmfaaDoorW.PrintLast Go.Proofs.YtmpaipbpnkfmfaaDoor.Br
open Go.Proofs.YtmpaipbpnkfmfaaDoor

/-- alike: but for places -/
def lk (t : S33) : Int × ByteArray × Int := (t.f0, t.f1, t.f2)

theorem copied_eq (l : List S33) (h : l.length ≤ 1099511627776) : hearsaylaw04_copied.f l = some l := by
  unfold hearsaylaw04_copied.f
  rw [if_pos (by simp; omega)]
  rfl

end Go.Proofs.YtmpaipbpnkfmfaaDoor.CutPure

namespace Go.Proofs.YtmpaipbpnkfmfaaDoor.CutPure
open Go.RowKit Go.Proofs.YtmpaipbpnkfmfaaDoor.P Go.Proofs.YtmpaipbpnkfmfaaDoorW.PrintWords Go.Proofs.YtmpaipbpnkfmfaaDoorW.PrintLast Go.Proofs.YtmpaipbpnkfmfaaDoor.Br
open Go.Proofs.YtmpaipbpnkfmfaaDoor

theorem cutall (s : ByteArray) (hs : s.size ≤ 1099511627776) : Ev (fun k => tokens_Cut.f k s (s.size : Int)) (encC [] (Tk.cut 0 0 (bs s))) := by
  have h := Cut_f s (s.size : Int) hs
  unfold Tk.Cut at h
  rw [if_neg (by rw [bs_length]; omega)] at h
  exact h
theorem good (s : ByteArray) : Tk.Good s.size (Tk.cut 0 0 (bs s)) := by
  have h := Tk.cut_good (bs s).length (bs s) 0 (Nat.le_refl _) (bs_bytes s)
  rwa [bs_length] at h

theorem ofS_toS (T : List Tk.Tok) (h : ∀ t ∈ T, Tk.fine t) : (T.map toS).map ofS = T := by
  induction T with
  | nil => rfl
  | cons t r ih =>
    simp only [List.map_cons]
    rw [ih (fun x hx => h x (by simp [hx]))]
    congr 1
    unfold ofS toS
    simp only [bs_str t.t (h t (by simp)).2]
theorem wt_toS (T : List Tk.Tok) : wt (T.map toS) = Tk.wsum T := by
  induction T with
  | nil => rfl
  | cons t r ih => simp only [List.map_cons, wt, Tk.wsum, ih, toS, son_len]
theorem mem_wsum (T : List Tk.Tok) (t : Tk.Tok) (h : t ∈ T) : t.t.length ≤ Tk.wsum T := by
  induction T with
  | nil => cases h
  | cons x r ih =>
    simp only [Tk.wsum]
    rcases List.mem_cons.1 h with rfl | h
    · omega
    · have := ih h; omega
theorem len_wsum (T : List Tk.Tok) : T.length ≤ Tk.wsum T := by
  induction T with
  | nil => exact Nat.le_refl _
  | cons x r ih => simp only [Tk.wsum, List.length_cons]; omega
theorem okS_toS (T : List Tk.Tok) (h : ∀ t ∈ T, Tk.fine t) (hw : Tk.wsum T ≤ 1099511627776) : ∀ x ∈ T.map toS, okS x := by
  intro x hx
  obtain ⟨t, ht, rfl⟩ := List.mem_map.1 hx
  have := mem_wsum T t ht
  exact ⟨by simp only [toS, son_len]; omega, (h t ht).1⟩
theorem key_lk (T T' : List Tk.Tok) (h : T.map Tk.key = T'.map Tk.key) : (T.map toS).map lk = (T'.map toS).map lk := by
  have e : ∀ T : List Tk.Tok, (T.map toS).map lk = (T.map Tk.key).map fun q => (q.1, strOfNums q.2.1, q.2.2) := fun T => by
    rw [List.map_map, List.map_map]; rfl
  rw [e, e, h]
theorem encJ_some (w : List Int) : encJ [] (some w) = (strOfNums w, true) := by simp [encJ]
theorem encC_ok (L : List Tk.Tok) (p : Int) : encC [] ⟨L, 0, p⟩ = (L.map toS, 0, p) := by simp [encC]

theorem join_bytes : ∀ (T : List Tk.Tok) (p : Int) (w : List Int), (∀ t ∈ T, Tk.fine t) → Tk.joinTail p T = some w → Tk.bytes w := by
  intro T
  induction T with
  | nil => intro p w _ h; obtain rfl := Option.some.inj h; intro c hc; simp at hc
  | cons t r ih =>
    intro p w hf h
    obtain ⟨hn, ht⟩ := hf t (by simp)
    simp only [Tk.joinTail] at h
    cases hs : Tk.spell t.k t.t t.n with
    | none => rw [hs] at h; simp at h
    | some s =>
      cases hj : Tk.joinTail t.k r with
      | none => rw [hs, hj] at h; simp at h
      | some v =>
        rw [hs, hj] at h
        obtain rfl := Option.some.inj h
        intro c hc
        simp only [List.mem_append] at hc
        rcases hc with (hc | hc) | hc
        · split at hc
          · simp at hc; omega
          · simp at hc
        · exact spell_bytes hs hn ht c hc
        · exact ih t.k v (fun x hx => hf x (by simp [hx])) hj c hc

/-- a list of tokens, joined by the program -/
theorem joinall (T : List Tk.Tok) (h : ∀ t ∈ T, Tk.fine t) (hw : Tk.wsum T ≤ 1099511627776) : Ev (fun k => tokens_Join.f k (T.map toS)) (encJ [] (Tk.join T)) := by
  have := Join_f (T.map toS) (okS_toS T h hw) (by rw [List.length_map]; have := len_wsum T; omega) (by rw [wt_toS]; omega)
  rwa [ofS_toS T h] at this
theorem res_of (s : ByteArray) (h : (Tk.cut 0 0 (bs s)).e = 0) : ∃ L, Tk.cut 0 0 (bs s) = ⟨L, 0, 0⟩ := by
  have g := (good s).p0 h
  generalize Tk.cut 0 0 (bs s) = R at *
  obtain ⟨L, e, p⟩ := R
  simp only at h g
  exact ⟨L, by rw [h, g]⟩
/-- sizes of a joined text -/
theorem sumsp_wsum (T : List Tk.Tok) (h : ∀ t ∈ T, Tk.fine t) : Tk.sumsp T ≤ Tk.wsum T := by
  induction T with
  | nil => exact Nat.le_refl _
  | cons t r ih =>
    simp only [Tk.sumsp, Tk.wsum]
    have := ih (fun x hx => h x (by simp [hx]))
    have h2 : Tk.lenO (Tk.spell t.k t.t t.n) ≤ 4 * t.t.length + 22 := by
      cases hs : Tk.spell t.k t.t t.n with
      | none => simp [Tk.lenO]
      | some w => exact spell_le hs (h t (by simp)).1
    omega

end Go.Proofs.YtmpaipbpnkfmfaaDoor.CutPure
