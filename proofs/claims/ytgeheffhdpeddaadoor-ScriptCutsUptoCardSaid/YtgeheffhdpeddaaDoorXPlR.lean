/-
  Texts laid together: PLAIN; PLAIN; PLAIN; PLAIN; PLAIN; PLAIN; PLAIN; PLAIN; PLAIN; PLAIN; PLAIN. Conditions: as each theorem states.
-/
import Derived.Test.YtgeheffhdpeddaaDoorXEqR
import Derived.Test.YtgeheffhdpeddaaDoorXPlA
import Derived.Test.YtgeheffhdpeddaaDoorXTok
/- PLAIN: the document's own letters, runs, words, hexadecimal digits. Conditions: as each theorem states. -/
namespace Go.Proofs.YtgeheffhdpeddaaDoor.VX
open Go Go.Proofs Go.Proofs.YtgeheffhdpeddaaDoor
theorem rsmall_eq (b : UInt8) : runA Tryd.prog (X 22) 1 70 [.u8 b] = some (.bool (Sp.sm b)) := by
  rw [e_hearsayref04_small 0 b, bif_bool, small_eq]
theorem rgreat_eq (b : UInt8) : runA Tryd.prog (X 23) 1 71 [.u8 b] = some (.bool (Sp.gr b)) := by
  rw [e_hearsayref04_great 0 b, bif_bool, bif_bool, great_eq]
theorem rdigit_eq (b : UInt8) : runA Tryd.prog (X 24) 1 72 [.u8 b] = some (.bool (Sp.dg b)) := by
  rw [e_hearsayref04_digit 0 b, bif_bool, digit_eq]
theorem rrun_loop (s : List UInt8) (hs : s.length < 68719476736) (n : Nat) : ∀ (r : List UInt8) (i m : Nat), s.drop i = r → i ≤ s.length → r.length < m → L_hearsayref04_run_0 n m s (i : Int) = some (.int .i64 ((i : Int) + Sp.run r))
  | [], i, m + 1, h, hi, _ => by
    have := drop_nil h hi
    rw [L_hearsayref04_run_0_eq, lt_f (by omega)]
    simp [Sp.run, Sp.ints, Tk.run]
  | c :: r, i, m + 1, h, _, hm => by
    obtain ⟨h1, h2, h3, h4⟩ := drop_cons h
    have ih := rrun_loop s hs n r (i + 1) m h3 (by omega) (by simp at hm; omega)
    rw [L_hearsayref04_run_0_eq, lt_t (by omega), le_t (by omega), toNat_cast, h2, wrap_id (by omega) (by omega), show (i : Int) + 1 = ((i + 1 : Nat) : Int) by omega, ih, run_cons]
    have := run_rng r
    simp only [cond_true]
    cases Sp.sm c <;> cases Sp.gr c <;> cases Sp.dg c <;> simp <;> omega
theorem atE_lt {s : List UInt8} {a : Int} (h : Sp.atE s a = true) : s.length < 68719476736 ∧ 0 ≤ a ∧ a ≤ s.length := by
  unfold Sp.atE at h
  simp only [Bool.and_eq_true, decide_eq_true_eq] at h
  exact ⟨Sp.short_lt h.1, h.2⟩
theorem rrun_eq (s : List UInt8) (i : Int) (h : Sp.atE s i = true) : ∃ n, runA Tryd.prog (X 25) n 69 [.str s, .int .i64 i] = some (.int .i64 (Sp.rrun s i)) := by
  obtain ⟨h0, h1, h2⟩ := atE_lt h
  obtain ⟨k, rfl⟩ := Int.eq_ofNat_of_zero_le h1
  refine ⟨s.length + 2, ?_⟩
  rw [e_hearsayref04_run s.length s k]
  exact rrun_loop s h0 _ (s.drop k) k _ rfl (by omega) (by simp; omega)
theorem rword_eq (s : List UInt8) (h : Sp.short s = true) : runA Tryd.prog (X 32) 1 63 [.str s] = some (.bool (Sp.word s)) := by
  rw [e_hearsayref04_Word 0 s, word_eq]
  cases s with
  | nil => rfl
  | cons c r =>
    have e1 : ((c :: r) == ([] : List UInt8)) = false := rfl
    have e2 : Sp.atE (c :: r) 0 = true := by unfold Sp.atE; rw [h]; rw [le_t (Int.le_refl 0), le_t (by simp; omega)]; rfl
    have e3 : Sp.rrun (c :: r) 0 = Sp.run (c :: r) := by unfold Sp.rrun; simp
    rw [e1, lt_t (by simp), e2, e3]
    simp only [Bool.not_false, cond_true, List.getD_cons_zero]
    cases Sp.sm c <;> cases (Sp.run (c :: r) == (((c :: r).length : Nat) : Int)) <;> rfl
theorem rhex_eq (b : UInt8) : runA Tryd.prog (X 27) 2 94 [.u8 b] = some (.int .i64 (Sp.hx b)) := by
  rw [e_hearsayref04_hex 0 b]
  simp only [bif_int]
  rw [hx_eq]
end Go.Proofs.YtgeheffhdpeddaaDoor.VX

/- PLAIN: the document's own escapes. Conditions: as each theorem states. -/
namespace Go.Proofs.YtgeheffhdpeddaaDoor.VX
open Go Go.Proofs Go.Proofs.YtgeheffhdpeddaaDoor
theorem at_lt {s : List UInt8} {a : Int} (h : Sp.at_ s a = true) : s.length < 68719476736 ∧ 0 ≤ a ∧ a < s.length := by
  unfold Sp.at_ at h
  simp only [Bool.and_eq_true, decide_eq_true_eq] at h
  exact ⟨Sp.short_lt h.1, h.2⟩
theorem drop_getD (s : List UInt8) (k j : Nat) : s.getD (k + j) 0 = (s.drop k).getD j 0 := by simp [List.getD_eq_getElem?_getD, List.getElem?_drop]
theorem resc_eq (s : List UInt8) (i : Int) (h : Sp.at_ s i = true) : runA Tryd.prog (X 28) 2 83 [.str s, .int .i64 i] = some (.tup [.u8 (Sp.rEscB s i), .int .i64 (Sp.rEscN s i)]) := by
  obtain ⟨h0, h1, h2⟩ := at_lt h
  obtain ⟨k, rfl⟩ := Int.eq_ofNat_of_zero_le h1
  have he1 : Sp.escB (s.drop (k + 1)) = (escP (s.drop (k + 1))).1 := by rw [escP_eq]
  have he2 : Sp.escN (s.drop (k + 1)) = (escP (s.drop (k + 1))).2 := by rw [escP_eq]
  have hl : (s.drop (k + 1)).length = s.length - (k + 1) := List.length_drop
  rw [e_hearsayref04_escape 0 s k, wrap_id (n := (k : Int) + 1) (by omega) (by omega), wrap_id (n := (k : Int) + 2) (by omega) (by omega), wrap_id (n := (k : Int) + 3) (by omega) (by omega)]
  unfold Sp.rEscB Sp.rEscN
  rw [toNat_cast, he1, he2]
  have t1 : ((k : Int) + 1).toNat = k + 1 + 0 := rfl
  have t2 : ((k : Int) + 2).toNat = k + 1 + 1 := rfl
  have t3 : ((k : Int) + 3).toNat = k + 1 + 2 := rfl
  rw [t1, t2, t3, drop_getD, drop_getD, drop_getD, le_t (a := 0) (b := (k : Int) + 1) (by omega), le_t (a := 0) (b := (k : Int) + 2) (by omega), le_t (a := 0) (b := (k : Int) + 3) (by omega)]
  generalize s.drop (k + 1) = d at hl
  cases d with
  | nil =>
    rw [ge_t (by simp at hl; omega)]
    rfl
  | cons c r =>
    have l1 : (k : Int) + 1 < s.length := by simp at hl; omega
    rw [ge_f l1, lt_t l1]
    unfold escP
    simp only [List.getD_cons_zero, cond_true, cond_false]
    cases c == 34 with
    | true => rfl
    | false =>
    cases c == 92 with
    | true => rfl
    | false =>
    cases c == 110 with
    | true => rfl
    | false =>
    cases c == 116 with
    | true => rfl
    | false =>
    cases c == 120 with
    | false => rfl
    | true =>
      simp only [cond_true, cond_false]
      cases r with
      | nil => rw [lt_f (by simp at hl; omega)]; rfl
      | cons a r =>
        cases r with
        | nil => rw [lt_f (by simp at hl; omega)]; rfl
        | cons b r =>
          have l3 : (k : Int) + 3 < s.length := by simp at hl; omega
          have g1 : ((c :: a :: b :: r).getD 1 0) = a := rfl
          have g2 : ((c :: a :: b :: r).getD 2 0) = b := rfl
          rw [lt_t l3, lt_t (a := (k : Int) + 2) (by omega), g1, g2]
          simp only [cond_true]
          have ra := hx_rng a
          have rb := hx_rng b
          by_cases k1 : 0 ≤ Sp.hx a <;> by_cases k2 : 0 ≤ Sp.hx b
          · rw [ge_t k1, ge_t k2]
            simp only [cond_true]
            have e : IntKind.i64.wrap (IntKind.i64.wrap (16 * Sp.hx a) + Sp.hx b) % 256 = 16 * Sp.hx a + Sp.hx b := by
              rw [wrap_id (n := 16 * Sp.hx a) (by omega) (by omega), wrap_id (by omega) (by omega)]; omega
            rw [e]; rfl
          · rw [ge_t k1, ge_f (a := Sp.hx b) (by omega)]; rfl
          · rw [ge_f (a := Sp.hx a) (by omega)]; rfl
          · rw [ge_f (a := Sp.hx a) (by omega)]; rfl
end Go.Proofs.YtgeheffhdpeddaaDoor.VX

/- PLAIN: the document's own quoted texts. Conditions: as each theorem states. -/
namespace Go.Proofs.YtgeheffhdpeddaaDoor.VX
open Go Go.Proofs Go.Proofs.YtgeheffhdpeddaaDoor
theorem encQ_nil (a : Int) (acc : List UInt8) (i : Nat) : encQ a acc i (Tk.quot 0 (Sp.ints [])) = .tup [.agg [.int .i64 0, .str [], .int .i64 0, .int .i64 0, .int .i64 0], .agg [.int .i64 43, .int .i64 a]] := rfl
theorem rquoted_loop (s : List UInt8) (hs : Sp.short s = true) (a i4 : Int) (s5 : List UInt8) (i6 i7 i8 i9 i10 : Int) (n : Nat) : ∀ (d : Nat) (r : List UInt8) (i m : Nat) (acc : List UInt8), r.length ≤ d → s.drop i = r → i ≤ s.length → acc.length ≤ i → r.length < m →
    L_hearsayref04_quoted_0 n m s (acc.map .u8) a (i : Int) i4 s5 i6 i7 i8 i9 i10 = some (encQ a acc i (Tk.quot 0 (Sp.ints r))) := by
  have hs' := Sp.short_lt hs
  intro d
  induction d with
  | zero =>
    intro r i m acc hd h hi hl hm
    obtain rfl : r = [] := List.length_eq_zero_iff.mp (by omega)
    obtain ⟨m, rfl⟩ : ∃ k, m = k + 1 := ⟨m - 1, by omega⟩
    have := drop_nil h hi
    rw [L_hearsayref04_quoted_0_eq, lt_f (by omega), ge_t (a := (i : Int)) (b := (s.length : Int)) (by omega), encQ_nil]; rfl
  | succ d ih =>
    intro r i m acc hd h hi hl hm
    obtain ⟨m, rfl⟩ : ∃ k, m = k + 1 := ⟨m - 1, by omega⟩
    cases r with
    | nil =>
      have := drop_nil h hi
      rw [L_hearsayref04_quoted_0_eq, lt_f (by omega), ge_t (a := (i : Int)) (b := (s.length : Int)) (by omega), encQ_nil]; rfl
    | cons c r =>
      obtain ⟨h1, h2, h3, h4⟩ := drop_cons h
      simp only [List.length_cons] at hd hm
      have hat : Sp.at_ s (i : Int) = true := by unfold Sp.at_; rw [hs, le_t (by omega), lt_t (by omega)]; rfl
      have ew : IntKind.i64.wrap ((i : Int) + 1) = ((i + 1 : Nat) : Int) := by rw [wrap_id (by omega) (by omega)]; rfl
      have r1 : Sp.rEscN s (i : Int) = bif Sp.escN r == 0 then 0 else Sp.escN r + 1 := by unfold Sp.rEscN; rw [toNat_cast, h3]
      have r2 : Sp.rEscB s (i : Int) = Sp.escB r := by unfold Sp.rEscB; rw [toNat_cast, h3]
      rw [L_hearsayref04_quoted_0_eq, lt_t (by omega), ge_f (a := (i : Int)) (b := (s.length : Int)) (by omega), le_t (a := 0) (b := (i : Int)) (by omega), toNat_cast, h2, ew, isU8_map, toU8_map, hat, r1, r2,
        room_t (n := (acc.map AV.u8).length + 1) (by simp; omega) (by decide), Sp.ints_cons]
      simp only [cond_true, cond_false, Tk.quot, bne, Sp.beq_b, Sp.lt_b]
      by_cases c1 : (c.toNat : Int) = 34
      · have e : decide ((c.toNat : Int) = ((34 : UInt8).toNat : Int)) = true := decide_eq_true c1
        rw [e, if_pos c1]
        simp [encQ, Sp.tb]
      have n1 : decide ((c.toNat : Int) = ((34 : UInt8).toNat : Int)) = false := decide_eq_false c1
      rw [n1, if_neg c1]
      by_cases c2 : (c.toNat : Int) = 92
      · have e : decide ((c.toNat : Int) = ((92 : UInt8).toNat : Int)) = true := decide_eq_true c2
        have e4 : decide ((c.toNat : Int) < ((32 : UInt8).toNat : Int)) = false := decide_eq_false (by rw [c2]; decide)
        have e5 : decide ((c.toNat : Int) = ((127 : UInt8).toNat : Int)) = false := decide_eq_false (by rw [c2]; decide)
        rw [e, e4, e5, if_pos c2]
        have hle := esc_le r
        by_cases c3 : (Tk.esc (Sp.ints r)).2 = 0
        · have e3 : (Sp.escN r == 0) = true := by unfold Sp.escN; rw [c3]; rfl
          rw [e3, if_pos c3]; rfl
        · have e3 : (Sp.escN r == 0) = false := by unfold Sp.escN; rw [beq_eq_false_iff_ne]; omega
          have e6 : (Sp.escN r + 1 == 0) = false := by unfold Sp.escN; rw [beq_eq_false_iff_ne]; omega
          rw [e3, if_neg c3, encQ_adv, encQ_put, Tk.quot_far _ _ (by rw [Sp.ints_len]; exact hle), encQ_far, ← Sp.ints_drop]
          simp only [cond_true, cond_false, Bool.not_false, Bool.not_true]
          rw [e6]
          simp only [cond_true, cond_false]
          have ew2 : IntKind.i64.wrap ((i : Int) + (Sp.escN r + 1)) = ((i + 1 + (Tk.esc (Sp.ints r)).2 : Nat) : Int) := by
            unfold Sp.escN
            rw [wrap_id (by omega) (by omega)]; omega
          have hdr : s.drop (i + 1 + (Tk.esc (Sp.ints r)).2) = r.drop (Tk.esc (Sp.ints r)).2 := by rw [← h3, List.drop_drop]
          have := ih (r.drop (Tk.esc (Sp.ints r)).2) (i + 1 + (Tk.esc (Sp.ints r)).2) m (acc ++ [Sp.escB r]) (by simp; omega) hdr (by omega) (by simp; omega) (by simp; omega)
          rw [ew2]
          rw [List.map_append] at this
          exact this
      have n2 : decide ((c.toNat : Int) = ((92 : UInt8).toNat : Int)) = false := decide_eq_false c2
      rw [n2, if_neg c2]
      simp only [cond_true, cond_false, Bool.not_false]
      by_cases c4 : (c.toNat : Int) < 32
      · have e : decide ((c.toNat : Int) < ((32 : UInt8).toNat : Int)) = true := decide_eq_true c4
        rw [e, if_pos (.inl c4)]; rfl
      have n4 : decide ((c.toNat : Int) < ((32 : UInt8).toNat : Int)) = false := decide_eq_false c4
      by_cases c5 : (c.toNat : Int) = 127
      · have e : decide ((c.toNat : Int) = ((127 : UInt8).toNat : Int)) = true := decide_eq_true c5
        rw [n4, e, if_pos (.inr c5)]; rfl
      have n5 : decide ((c.toNat : Int) = ((127 : UInt8).toNat : Int)) = false := decide_eq_false c5
      rw [n4, n5, if_neg (by omega), encQ_adv, encQ_put]
      simp only [cond_false]
      have := ih r (i + 1) m (acc ++ [c]) (by omega) h3 (by omega) (by simp; omega) (by omega)
      have ec : UInt8.ofNat ((c.toNat : Int)).toNat = c := by simp
      rw [ec]
      rw [List.map_append] at this
      exact this
theorem rquoted_eq (s : List UInt8) (a : Int) (h : Sp.at_ s a = true) : ∃ n, runA Tryd.prog (X 29) n 74 [.str s, .int .i64 a] = some (outA (Sp.quoted s a)) := by
  simp only [Sp.at_, Bool.and_eq_true, decide_eq_true_eq] at h
  obtain ⟨hs, h0, h1⟩ := h
  have hs' := Sp.short_lt hs
  obtain ⟨i, rfl⟩ := Int.eq_ofNat_of_zero_le h0
  refine ⟨s.length + 2 + 2, ?_⟩
  rw [e_hearsayref04_quoted (s.length + 2) s]
  have ew : IntKind.i64.wrap ((i : Int) + 1) = ((i + 1 : Nat) : Int) := by rw [wrap_id (by omega) (by omega)]; rfl
  have := rquoted_loop s hs (i : Int) 0 [] 0 0 0 0 0 (s.length + 2) s.length (s.drop (i + 1)) (i + 1) (s.length + 2 + 1) [] (by simp) rfl (by omega) (by simp) (by simp; omega)
  rw [ew]
  refine this.trans ?_
  unfold Sp.quoted
  rw [toNat_cast]
  cases Tk.quot 0 (Sp.ints (s.drop (i + 1))) with
  | ok m k => simp only [encQ, Sp.qO, outA, tokA, faultA, List.nil_append]; rfl
  | bad k => simp only [encQ, Sp.qO, outA, tokA, faultA]; rfl
  | opn => simp only [encQ, Sp.qO, outA, tokA, faultA]; rfl
end Go.Proofs.YtgeheffhdpeddaaDoor.VX

/- PLAIN: the document's own numbers. Conditions: as each theorem states. -/
namespace Go.Proofs.YtgeheffhdpeddaaDoor.VX
open Go Go.Proofs Go.Proofs.YtgeheffhdpeddaaDoor
theorem u64_id {n : Int} (h0 : 0 ≤ n) (h1 : n < 18446744073709551616) : IntKind.u64.wrap n = n := by
  rw [IntKind.wrap_u64]; omega
theorem wrap_hi {n : Int} (h0 : 9223372036854775808 ≤ n) (h1 : n < 18446744073709551616) : IntKind.i64.wrap n = n - 18446744073709551616 := by
  simp only [IntKind.wrap, IntKind.bits, IntKind.signed, Bool.true_and, decide_eq_true_eq]
  have e1 : (2 : Int) ^ 64 = 18446744073709551616 := rfl
  have e2 : (2 : Int) ^ (64 - 1) = 9223372036854775808 := rfl
  split
  · rename_i h
    rw [e1]; omega
  · rename_i h
    have h : ¬ (n % 2 ^ 64 ≥ 2 ^ (64 - 1)) := fun x => h (decide_eq_true x)
    rw [e1, e2] at h
    rw [e1]; omega
def noNum : AV := .tup [.int .i64 0, .bool false]
def numR (c : Bool) (v : Nat) : AV :=
  bif c then bif decide ((v : Int) > 9223372036854775808) then noNum else .tup [.int .i64 (-(v : Int)), .bool true]
  else .tup [.int .i64 (IntKind.i64.wrap v), .bool (decide ((v : Int) ≤ 9223372036854775807))]
def NumL (L : Nat → List UInt8 → Int → Bool → Int → Option AV) : Prop := ∀ (m : Nat) (s0 : List UInt8) (i1 : Int) (c2 : Bool) (i3 : Int), L (m + 1) s0 i1 c2 i3 =
  bif (decide (i1 < (↑s0.length : Int))) then bif (decide ((0 : Int) ≤ i1)) then bif (decide (i1 < (↑s0.length : Int))) then bif (!Sp.dg (s0.getD i1.toNat (0 : UInt8))) then some (.tup [(.int .i64 0), (.bool false)])
     else bif (decide ((0 : Int) ≤ i1)) then bif (decide (i1 < (↑s0.length : Int))) then L m s0 (Go.IntKind.i64.wrap (i1 + (1 : Int))) c2 (Go.IntKind.u64.wrap (Go.IntKind.u64.wrap ((10 : Int) * i3) + (↑(s0.getD i1.toNat (0 : UInt8) - (48 : UInt8)).toNat : Int)))
       else none
      else none
    else none
   else none
  else bif c2 then bif (decide (i3 > (9223372036854775808 : Int))) then some (.tup [(.int .i64 0), (.bool false)])
    else some (.tup [(.int .i64 (Go.IntKind.i64.wrap (Go.IntKind.u64.wrap ((0 : Int) - i3)))), (.bool true)])
   else some (.tup [(.int .i64 (Go.IntKind.i64.wrap i3)), (.bool (decide (i3 ≤ (9223372036854775807 : Int))))])
theorem numL0 (n : Nat) : NumL (L_hearsayref04_Number_0 n) := fun m s0 i1 c2 i3 => L_hearsayref04_Number_0_eq n m s0 i1 c2 i3
theorem numL1 (n : Nat) : NumL (L_hearsayref04_Number_0_1 n) := fun m s0 i1 c2 i3 => L_hearsayref04_Number_0_1_eq n m s0 i1 c2 i3
theorem rnum_loop {L : Nat → List UInt8 → Int → Bool → Int → Option AV} (hL : NumL L) (s : List UInt8) (hs : s.length ≤ 19) (c : Bool) : ∀ (r : List UInt8) (i m v : Nat), s.drop i = r → i ≤ s.length → v < 10 ^ i → r.length < m →
    L m s (i : Int) c (v : Int) = some (if Tk.alld (Sp.ints r) = true then numR c (Tk.val v (Sp.ints r)) else noNum)
  | [], i, m + 1, v, h, hi, hv, _ => by
    have hl := drop_nil h hi
    have hp : 10 ^ i ≤ 10 ^ 19 := Nat.pow_le_pow_right (by omega) (by omega)
    have h19 : (10 : Nat) ^ 19 = 10000000000000000000 := by decide
    have hv' : v < 10000000000000000000 := by omega
    clear hp h19 hv
    rw [hL, lt_f (by omega), if_pos (show Tk.alld (Sp.ints []) = true from rfl), show Tk.val v (Sp.ints []) = v from rfl]
    cases c with
    | true =>
      unfold numR
      simp only [cond_true, cond_false]
      by_cases h : v > 9223372036854775808
      · rw [gt_t (by omega)]; rfl
      · rw [gt_f (by omega)]
        have : IntKind.i64.wrap (IntKind.u64.wrap (0 - (v : Int))) = -(v : Int) := by
          rw [IntKind.wrap_u64]
          by_cases h0 : v = 0
          · subst h0; rfl
          · have e : (0 - (v : Int)) % 18446744073709551616 = 18446744073709551616 - v := by omega
            rw [e, wrap_hi (by omega) (by omega)]; omega
        rw [this]; rfl
    | false => rfl
  | b :: r, i, m + 1, v, h, _, hv, hm => by
    obtain ⟨h1, h2, h3, h4⟩ := drop_cons h
    have hp : 10 ^ i ≤ 10 ^ 18 := Nat.pow_le_pow_right (by omega) (by omega)
    have h18 : (10 : Nat) ^ 18 = 1000000000000000000 := by decide
    have hp1 : (10 : Nat) ^ (i + 1) = 10 ^ i * 10 := Nat.pow_succ 10 i
    have ew : IntKind.i64.wrap ((i : Int) + 1) = ((i + 1 : Nat) : Int) := by rw [wrap_id (by omega) (by omega)]; rfl
    rw [hL, lt_t (by omega), le_t (by omega), toNat_cast, h2, ew, Sp.ints_cons]
    simp only [cond_true]
    have ed : Sp.dg b = Tk.dg (b.toNat : Int) := rfl
    cases hd : Tk.dg (b.toNat : Int) with
    | false => rw [ed, hd, if_neg (by simp [Tk.alld, hd])]; rfl
    | true =>
      rw [ed, hd]
      have hd' := hd
      rw [Tk.dg_iff] at hd'
      have hb : (b - 48).toNat = b.toNat - 48 := by
        rw [UInt8.toNat_sub_of_le]
        · rfl
        · rw [UInt8.le_iff_toNat_le]
          have : (48 : UInt8).toNat = 48 := rfl
          omega
      have hv' : 10 * v + ((b.toNat : Int) - 48).toNat < 10 ^ (i + 1) := by rw [hp1]; omega
      have hw : IntKind.u64.wrap (IntKind.u64.wrap (10 * (v : Int)) + ((b - 48).toNat : Int)) = ((10 * v + ((b.toNat : Int) - 48).toNat : Nat) : Int) := by
        rw [u64_id (n := 10 * (v : Int)) (by omega) (by omega), hb, u64_id (by omega) (by omega)]; omega
      rw [hw, rnum_loop hL s hs c r (i + 1) m _ h3 (by omega) hv' (by simp at hm; omega)]
      have ea : Tk.alld ((b.toNat : Int) :: Sp.ints r) = Tk.alld (Sp.ints r) := by simp [Tk.alld, hd]
      rw [ea]
      rfl
theorem val_ge : ∀ (l : List Int) (a : Nat), a * 10 ^ l.length ≤ Tk.val a l := by
  intro l
  induction l with
  | nil => intro a; simp [Tk.val]
  | cons c r ih =>
    intro a
    simp only [Tk.val, List.length_cons]
    have h1 := ih (10 * a + (c - 48).toNat)
    have h2 : a * 10 ^ (r.length + 1) = (10 * a) * 10 ^ r.length := by rw [Nat.pow_succ 10 r.length, Nat.mul_comm (10 ^ r.length) 10, ← Nat.mul_assoc, Nat.mul_comm a 10]
    have h3 : (10 * a) * 10 ^ r.length ≤ (10 * a + (c - 48).toNat) * 10 ^ r.length := Nat.mul_le_mul_right _ (by omega)
    omega
/-- A number's digits, told: the answer of one who read them. -/
def NatR (c : Bool) (o : Option Nat) (u : AV) : Prop :=
  match o with
  | some v => if v ≤ (bif c then 9223372036854775808 else 9223372036854775807) then u = .tup [.int .i64 (bif c then -(v : Int) else v), .bool true] else ∃ z, u = .tup [.int .i64 z, .bool false]
  | none => ∃ z, u = .tup [.int .i64 z, .bool false]
theorem numR_is (c : Bool) (v : Nat) : NatR c (some v) (numR c v) := by
  unfold NatR numR
  cases c with
  | true =>
    simp only [cond_true]
    split
    · rw [gt_f (by omega)]; rfl
    · rw [gt_t (by omega)]; exact ⟨_, rfl⟩
  | false =>
    simp only [cond_false]
    split
    · rw [wrap_id (by omega) (by omega), le_t (by omega)]
    · rw [le_f (by omega)]; exact ⟨_, rfl⟩
theorem noNum_is : ∃ z, noNum = .tup [.int .i64 z, .bool false] := ⟨0, rfl⟩
theorem rnat {L : Nat → List UInt8 → Int → Bool → Int → Option AV} (hL : NumL L) (t : List UInt8) (c : Bool) (m : Nat) (hm : t.length < m) :
    ∃ u, (bif decide ((t.length : Int) < 1) then some noNum else bif decide ((t.length : Int) > 19) then some noNum else bif decide (0 < (t.length : Int)) then bif t.getD 0 0 == 48 then some noNum else L m t 0 c 0 else none) = some u ∧ NatR c (Tk.nat? (Sp.ints t)) u := by
  cases t with
  | nil => exact ⟨noNum, rfl, noNum_is⟩
  | cons b r =>
    rw [lt_f (a := ((b :: r).length : Int)) (b := 1) (by simp; omega), lt_t (a := 0) (by simp), Sp.ints_cons]
    simp only [cond_true, cond_false, List.getD_cons_zero, Tk.nat?]
    have e48 : (b == 48) = decide ((b.toNat : Int) = 48) := Sp.beq_b b 48
    by_cases h19 : (b :: r).length > 19
    · rw [gt_t (by omega)]
      refine ⟨noNum, rfl, ?_⟩
      split
      · exact noNum_is
      · rename_i h48
        split
        · rename_i hd
          unfold NatR
          rw [Bool.and_eq_true, Tk.dg_iff] at hd
          have h := val_ge (Sp.ints r) ((b.toNat : Int) - 48).toNat
          have e : Tk.val 0 ((b.toNat : Int) :: Sp.ints r) = Tk.val ((b.toNat : Int) - 48).toNat (Sp.ints r) := by simp only [Tk.val]; congr 1; omega
          have hp : 10 ^ 19 ≤ 10 ^ (Sp.ints r).length := Nat.pow_le_pow_right (by omega) (by rw [Sp.ints_len]; simp at h19; omega)
          have h19' : (10 : Nat) ^ 19 = 10000000000000000000 := by decide
          have h1 : 1 * 10 ^ (Sp.ints r).length ≤ ((b.toNat : Int) - 48).toNat * 10 ^ (Sp.ints r).length := Nat.mul_le_mul_right _ (by omega)
          simp only
          rw [e, if_neg (by cases c <;> simp <;> omega)]
          exact noNum_is
        · exact noNum_is
    · rw [gt_f (by omega), e48]
      simp only [cond_false]
      by_cases h48 : (b.toNat : Int) = 48
      · rw [decide_eq_true h48, if_pos h48]; exact ⟨noNum, rfl, noNum_is⟩
      · rw [decide_eq_false h48, if_neg h48]
        simp only [cond_false]
        have := rnum_loop hL (b :: r) (by omega) c (b :: r) 0 m 0 rfl (Nat.zero_le _) (by decide) hm
        rw [Sp.ints_cons] at this
        refine ⟨_, this, ?_⟩
        have ea : Tk.alld ((b.toNat : Int) :: Sp.ints r) = (Tk.dg (b.toNat : Int) && Tk.alld (Sp.ints r)) := rfl
        rw [ea]
        split
        · exact numR_is c _
        · exact noNum_is
theorem rnumber_eq (s : List UInt8) : ∃ n u, runA Tryd.prog (X 26) n 73 [.str s] = some u ∧
    (Sp.rNumOk s = true → u = .tup [.int .i64 (Sp.rNumV s), .bool true]) ∧ (Sp.rNumOk s = false → ∃ z, u = .tup [.int .i64 z, .bool false]) := by
  refine ⟨s.length + 2, ?_⟩
  rw [e_hearsayref04_Number s.length s]
  unfold Sp.rNumOk Sp.rNumV
  by_cases h0 : s = [48]
  · subst h0
    exact ⟨_, rfl, fun _ => rfl, fun h => by simp [Sp.ints, Tk.num] at h⟩
  have e0 : (s == [48]) = false := by rw [beq_eq_false_iff_ne]; exact h0
  have n0 : Sp.ints s ≠ [48] := fun e => h0 (Sp.ints_inj e)
  rw [e0]
  simp only [cond_false]
  cases s with
  | nil => exact ⟨noNum, rfl, fun h => by simp [Sp.ints, Tk.num] at h, fun _ => noNum_is⟩
  | cons b r =>
    have hk : Tk.num (Sp.ints (b :: r)) = if (b.toNat : Int) = 45 then (match Tk.nat? (Sp.ints r) with
        | some v => if v ≤ 9223372036854775808 then some (-(v : Int)) else none
        | none => none) else (match Tk.nat? (Sp.ints (b :: r)) with
        | some v => if v ≤ 9223372036854775807 then some (v : Int) else none
        | none => none) := by
      unfold Tk.num
      rw [if_neg n0]; rfl
    have fin : ∀ (c : Bool) (o : Option Nat) (u : AV) (x : Option Int), x = (match o with
        | some v => if v ≤ (bif c then 9223372036854775808 else 9223372036854775807) then some (bif c then -(v : Int) else v) else none
        | none => none) → NatR c o u → (x.isSome = true → u = .tup [.int .i64 (x.getD 0), .bool true]) ∧ (x.isSome = false → ∃ z, u = .tup [.int .i64 z, .bool false]) := by
      intro c o u x hx hu
      subst hx
      cases o with
      | none => refine ⟨fun h => ?_, fun _ => hu⟩; cases h
      | some v =>
        unfold NatR at hu
        simp only at hu ⊢
        split at hu
        · rename_i h
          rw [if_pos h]
          refine ⟨fun _ => hu, fun h => ?_⟩; cases h
        · rename_i h
          rw [if_neg h]
          refine ⟨fun h => ?_, fun _ => hu⟩; cases h
    have e45 : (b == 45) = decide ((b.toNat : Int) = 45) := Sp.beq_b b 45
    have hd : List.drop 1 (List.take ((b :: r).length : Int).toNat (b :: r)) = r := by rw [toNat_cast, List.take_length]; rfl
    rw [hd, gt_t (a := ((b :: r).length : Int)) (b := 0) (by simp), le_t (a := 1) (b := ((b :: r).length : Int)) (by simp; omega), le_t (a := ((b :: r).length : Int)) (b := ((b :: r).length : Int)) (Int.le_refl _), hk]
    simp only [cond_true, List.getD_cons_zero]
    rw [e45]
    by_cases h45 : (b.toNat : Int) = 45
    · rw [decide_eq_true h45, if_pos h45]
      simp only [cond_true]
      obtain ⟨u, hu, hr⟩ := rnat (numL0 (b :: r).length) r true ((b :: r).length + 1) (by simp; omega)
      exact ⟨u, hu, fin true _ u _ rfl hr⟩
    · rw [decide_eq_false h45, if_neg h45]
      simp only [cond_false]
      obtain ⟨u, hu, hr⟩ := rnat (numL1 (b :: r).length) (b :: r) false ((b :: r).length + 1) (by omega)
      rw [lt_t (a := 0) (b := ((b :: r).length : Int)) (by simp)] at hu
      simp only [cond_true, List.getD_cons_zero] at hu
      exact ⟨u, hu, fin false _ u _ rfl hr⟩
end Go.Proofs.YtgeheffhdpeddaaDoor.VX

/- PLAIN: the document's own token: the loop over the signs, step by step (printed by wip/tools/onestep.py). Conditions: as each theorem states. -/
namespace Go.Proofs.YtgeheffhdpeddaaDoor.VX
open Go Go.Proofs Go.Proofs.YtgeheffhdpeddaaDoor
end Go.Proofs.YtgeheffhdpeddaaDoor.VX

/- PLAIN: the document's own token: the signs. Conditions: as each theorem states. -/
namespace Go.Proofs.YtgeheffhdpeddaaDoor.VX
open Go Go.Proofs Go.Proofs.YtgeheffhdpeddaaDoor
def sgB : List (List UInt8 × Int) := [([58, 45], 11), ([33, 61], 14), ([60, 61], 16), ([40], 6), ([41], 7), ([44], 8), ([59], 9), ([46], 10), ([63], 12), ([61], 13), ([60], 15)]
def sgk (x : List UInt8) : List (List UInt8 × Int) → Int × Nat
  | [] => (0, 0)
  | (g, q) :: t => bif x.take g.length == g then (q, g.length) else sgk x t
def sgA (a : Int) (p : Int × Nat) : AV :=
  bif p.1 == 0 then .tup [.agg [.int .i64 0, .str [], .int .i64 0, .int .i64 0, .int .i64 0], .agg [.int .i64 42, .int .i64 a]]
  else .tup [.agg [.int .i64 p.1, .str [], .int .i64 0, .int .i64 a, .int .i64 (a + p.2)], .agg [.int .i64 0, .int .i64 0]]
theorem sgk1 (c : UInt8) : sgk [c] sgB = (Tk.sign1 c.toNat, bif Tk.sign1 c.toNat == 0 then 0 else 1) :=
  u8_eq (f := fun c => sgk [c] sgB) (g := fun c => (Tk.sign1 c.toNat, bif Tk.sign1 c.toNat == 0 then 0 else 1)) (by decide +kernel) c
theorem sgk2 (c d : UInt8) (x : List UInt8) : sgk (c :: d :: x) sgB = bif c == 58 && d == 45 then (11, 2) else bif c == 33 && d == 61 then (14, 2) else bif c == 60 && d == 61 then (16, 2) else sgk [c] sgB := by
  have h2 : ∀ a b : UInt8, ((c :: d :: x).take [a, b].length == [a, b]) = (c == a && d == b) := fun a b => by simp [List.cons_beq_cons]
  have h1 : ∀ a : UInt8, ((c :: d :: x).take [a].length == [a]) = (([c] : List UInt8).take [a].length == [a]) := fun a => rfl
  have h0 : ∀ a b : UInt8, (([c] : List UInt8).take [a, b].length == [a, b]) = false := fun a b => by simp [List.cons_beq_cons]
  unfold sgB
  simp only [sgk, h2, h0, cond_false, h1]
  rfl
theorem sgA_eq (c : UInt8) (r : List UInt8) (a : Int) : sgA a (sgk (c :: r) sgB) = outA (Sp.rlO a (Tk.signs c.toNat (Sp.ints r))) := by
  have one : sgA a (sgk [c] sgB) = outA (Sp.rlO a (if Tk.sign1 c.toNat ≠ 0 then .tok (Tk.sign1 c.toNat) [] 0 1 else .bad 42 0)) := by
    rw [sgk1]
    by_cases h : Tk.sign1 (c.toNat : Int) = 0
    · rw [if_neg (by simpa using h), h]; simp [sgA, outA, Sp.rlO, tokA, faultA, Sp.tb, Sp.zeroT]
    · rw [if_pos h, eq_f h]; simp only [sgA, eq_f h, cond_false]; simp [outA, Sp.rlO, tokA, faultA, Sp.tb]
  cases r with
  | nil => exact one
  | cons d x =>
    rw [sgk2, Sp.ints_cons]
    show _ = outA (Sp.rlO a (if Tk.sign2 (c.toNat : Int) (d.toNat : Int) ≠ 0 then .tok (Tk.sign2 (c.toNat : Int) (d.toNat : Int)) [] 0 2 else if Tk.sign1 c.toNat ≠ 0 then .tok (Tk.sign1 c.toNat) [] 0 1 else .bad 42 0))
    simp only [Sp.beq_b]
    unfold Tk.sign2
    by_cases h1 : (c.toNat : Int) = 58 ∧ (d.toNat : Int) = 45
    · simp [h1, sgA, outA, Sp.rlO, tokA, faultA, Sp.tb]
    have n1 : (decide ((c.toNat : Int) = ((58 : UInt8).toNat : Int)) && decide ((d.toNat : Int) = ((45 : UInt8).toNat : Int))) = false := by rw [Bool.and_eq_false_iff]; simp only [decide_eq_false_iff_not]; exact Decidable.or_iff_not_imp_left.mpr (fun h => fun h' => h1 ⟨Decidable.not_not.mp h, h'⟩)
    by_cases h2 : (c.toNat : Int) = 33 ∧ (d.toNat : Int) = 61
    · rw [n1, if_neg h1]; simp [h2, sgA, outA, Sp.rlO, tokA, faultA, Sp.tb]
    have n2 : (decide ((c.toNat : Int) = ((33 : UInt8).toNat : Int)) && decide ((d.toNat : Int) = ((61 : UInt8).toNat : Int))) = false := by rw [Bool.and_eq_false_iff]; simp only [decide_eq_false_iff_not]; exact Decidable.or_iff_not_imp_left.mpr (fun h => fun h' => h2 ⟨Decidable.not_not.mp h, h'⟩)
    by_cases h3 : (c.toNat : Int) = 60 ∧ (d.toNat : Int) = 61
    · rw [n1, n2, if_neg h1, if_neg h2]; simp [h3, sgA, outA, Sp.rlO, tokA, faultA, Sp.tb]
    have n3 : (decide ((c.toNat : Int) = ((60 : UInt8).toNat : Int)) && decide ((d.toNat : Int) = ((61 : UInt8).toNat : Int))) = false := by rw [Bool.and_eq_false_iff]; simp only [decide_eq_false_iff_not]; exact Decidable.or_iff_not_imp_left.mpr (fun h => fun h' => h3 ⟨Decidable.not_not.mp h, h'⟩)
    rw [n1, n2, n3, if_neg h1, if_neg h2, if_neg h3, if_neg (by simp)]
    exact one
/-- One step of the loop: a sign at the place, or the next. -/
theorem sg_step (s : List UInt8) (hs : s.length < 68719476736) (k : Nat) (hk : k ≤ s.length) (g : List UInt8) (hg : g.length ≤ 2) (x y : Option AV) :
    (bif decide (IntKind.i64.wrap ((k : Int) + (g.length : Int)) ≤ (s.length : Int)) then bif decide ((0 : Int) ≤ k) then bif decide ((k : Int) ≤ IntKind.i64.wrap ((k : Int) + (g.length : Int))) then bif decide (IntKind.i64.wrap ((k : Int) + (g.length : Int)) ≤ (s.length : Int)) then
      bif (List.drop (k : Int).toNat (List.take (IntKind.i64.wrap ((k : Int) + (g.length : Int))).toNat s) == g) then x else y else none else none else none else y) = bif (s.drop k).take g.length == g then x else y := by
  rw [wrap_id (by omega) (by omega), toNat_cast, show ((k : Int) + (g.length : Int)).toNat = k + g.length by omega, List.drop_take, show k + g.length - k = g.length by omega, le_t (a := 0) (b := (k : Int)) (by omega), le_t (a := (k : Int)) (b := (k : Int) + g.length) (by omega)]
  by_cases h : (k : Int) + (g.length : Int) ≤ s.length
  · rw [le_t h]; rfl
  · rw [le_f (by omega)]
    have : ((s.drop k).take g.length == g) = false := by
      rw [beq_eq_false_iff_ne]
      intro e
      have := congrArg List.length e
      simp at this; omega
    rw [this]; rfl
theorem sg_next {L0 y : Option AV} {s : List UInt8} (hs : s.length < 68719476736) {k : Nat} (hk : k ≤ s.length) (g : List UInt8) (q : Int) (t : List (List UInt8 × Int)) (hg : g.length ≤ 2) (hq : q ≠ 0)
    (h0 : L0 = bif decide (IntKind.i64.wrap ((k : Int) + (g.length : Int)) ≤ (s.length : Int)) then bif decide ((0 : Int) ≤ k) then bif decide ((k : Int) ≤ IntKind.i64.wrap ((k : Int) + (g.length : Int))) then bif decide (IntKind.i64.wrap ((k : Int) + (g.length : Int)) ≤ (s.length : Int)) then
      bif (List.drop (k : Int).toNat (List.take (IntKind.i64.wrap ((k : Int) + (g.length : Int))).toNat s) == g) then some (.tup [.agg [.int .i64 q, .str [], .int .i64 0, .int .i64 k, .int .i64 (IntKind.i64.wrap ((k : Int) + (g.length : Int)))], .agg [.int .i64 0, .int .i64 0]]) else y else none else none else none else y)
    (hy : y = some (sgA k (sgk (s.drop k) t))) : L0 = some (sgA k (sgk (s.drop k) ((g, q) :: t))) := by
  rw [h0, sg_step s hs k hk g hg, hy, wrap_id (by omega) (by omega)]
  simp only [sgk]
  cases (s.drop k).take g.length == g with
  | false => rfl
  | true => simp only [cond_true, sgA, eq_f hq, cond_false]
end Go.Proofs.YtgeheffhdpeddaaDoor.VX

/- PLAIN: the document's own token. Conditions: as each theorem states. -/
namespace Go.Proofs.YtgeheffhdpeddaaDoor.VX
open Go Go.Proofs Go.Proofs.YtgeheffhdpeddaaDoor
end Go.Proofs.YtgeheffhdpeddaaDoor.VX

/- PLAIN: the document's own Quote, decimal. Conditions: as each theorem states. -/
namespace Go.Proofs.YtgeheffhdpeddaaDoor.VX
open Go Go.Proofs Go.Proofs.YtgeheffhdpeddaaDoor
def emitR (c : UInt8) : List UInt8 :=
  bif c == 34 then [92, c] else bif c == 92 then [92, c] else bif c == 10 then [92, 110] else bif c == 9 then [92, 116]
  else bif decide (32 ≤ c) then bif decide (c ≤ 126) then [c] else [92, 120, hexL.getD ((c / 16).toNat : Int).toNat 0, hexL.getD ((c % 16).toNat : Int).toNat 0]
  else [92, 120, hexL.getD ((c / 16).toNat : Int).toNat 0, hexL.getD ((c % 16).toNat : Int).toNat 0]
theorem emitR_eq (c : UInt8) : emitR c = emitB c := u8_eq (f := emitR) (g := emitB) (by decide +kernel) c
theorem rq1 (c : UInt8) : decide (((c / 16).toNat : Int) < 16) = true := u8_all (p := fun c => decide (((c / 16).toNat : Int) < 16)) (by decide +kernel) c
theorem rq2 (c : UInt8) : decide (((c % 16).toNat : Int) < 16) = true := u8_all (p := fun c => decide (((c % 16).toNat : Int) < 16)) (by decide +kernel) c
theorem rquote_loop (s : List UInt8) (hs : s.length < 68719476736) (n : Nat) : ∀ (r : List UInt8) (i m : Nat) (acc : List UInt8), s.drop i = r → i ≤ s.length → acc.length ≤ 1 + 4 * i → r.length < m →
    L_hearsayref04_Quote_0 n m s (i : Int) (acc.map .u8) = some (.str (acc ++ Sp.tb (Tk.qbody (Sp.ints r)) ++ [34]))
  | [], i, m + 1, acc, h, hi, ha, _ => by
    have := drop_nil h hi
    have e : acc.map AV.u8 ++ [AV.u8 34] = (acc ++ [34]).map .u8 := by simp
    rw [L_hearsayref04_Quote_0_eq, lt_f (by omega), room_t (n := (acc.map AV.u8).length + 1) (by simp; omega) (by decide), e, isU8_map, toU8_map]
    simp [Sp.ints, Tk.qbody, Sp.tb]
  | c :: r, i, m + 1, acc, h, _, ha, hm => by
    obtain ⟨h1, h2, h3, h4⟩ := drop_cons h
    have hl := emit_len c
    have ih := rquote_loop s hs n r (i + 1) m (acc ++ emitB c) h3 (by omega) (by simp; omega) (by simp at hm; omega)
    rw [qbody_cons, ← List.append_assoc, ← ih]
    have ew : IntKind.i64.wrap ((i : Int) + 1) = ((i + 1 : Nat) : Int) := by rw [wrap_id (by omega) (by omega)]; rfl
    rw [L_hearsayref04_Quote_0_eq, lt_t (by omega), le_t (by omega), toNat_cast, h2, ew, rq1, rq2, room_t (n := (acc.map AV.u8).length + 1) (by simp; omega) (by decide), room_t (n := (acc.map AV.u8).length + 2) (by simp; omega) (by decide), room_t (n := (acc.map AV.u8).length + 4) (by simp; omega) (by decide)]
    simp only [cond_true, List.map_append]
    rw [← emitR_eq]
    unfold emitR
    cases c == 34 <;> cases c == 92 <;> cases c == 10 <;> cases c == 9 <;> cases decide (32 ≤ c) <;> cases decide (c ≤ 126) <;> simp only [cond_true, cond_false, List.map_cons, List.map_nil, hexL]
set_option maxRecDepth 100000 in
theorem rquote_eq (s : List UInt8) (hs : Sp.short s = true) : ∃ n, runA Tryd.prog (X 33) n 48 [.str s] = some (.str (Sp.quote s)) := by
  refine ⟨s.length + 2, ?_⟩
  rw [e_hearsayref04_Quote s.length s]
  have := rquote_loop s (Sp.short_lt hs) s.length s 0 (s.length + 1) [34] rfl (Nat.zero_le _) (by simp) (by omega)
  refine this.trans ?_
  congr 2
  show _ = Sp.tb (34 :: (Tk.qbody (Sp.ints s) ++ [34]))
  simp [Sp.tb]
end Go.Proofs.YtgeheffhdpeddaaDoor.VX

/- PLAIN: the document's own Cut. Conditions: as each theorem states. -/
namespace Go.Proofs.YtgeheffhdpeddaaDoor.VX
open Go Go.Proofs Go.Proofs.YtgeheffhdpeddaaDoor
end Go.Proofs.YtgeheffhdpeddaaDoor.VX

/- PLAIN: the document's own decimal. Conditions: as each theorem states. -/
namespace Go.Proofs.YtgeheffhdpeddaaDoor.VX
open Go Go.Proofs Go.Proofs.YtgeheffhdpeddaaDoor
theorem itoa_neg (i : Int) (h : i < 0) : Sp.itoa i = 45 :: Sp.itoa (-i) := by
  unfold Sp.itoa Lib.itoa
  rw [if_pos h, if_neg (by omega), show (-i).toNat = i.natAbs by omega]
theorem itoa_one (i : Int) (h0 : 0 ≤ i) (h : i < 10) : Sp.itoa i = [UInt8.ofNat (48 + i.toNat)] := by
  unfold Sp.itoa Lib.itoa
  rw [if_neg (by omega), Lib.decDigits, dif_pos (by omega)]
theorem itoa_more (i : Int) (h : 10 ≤ i) : Sp.itoa i = Sp.itoa (i / 10) ++ [UInt8.ofNat (48 + (i % 10).toNat)] := by
  unfold Sp.itoa Lib.itoa
  rw [if_neg (by omega), if_neg (by omega), Lib.decDigits, dif_neg (by omega)]
  rw [show (i / 10).toNat = i.toNat / 10 by omega, show (i % 10).toNat = i.toNat % 10 by omega]
theorem itoa_min : Sp.itoa (-9223372036854775808) = [45, 57, 50, 50, 51, 51, 55, 50, 48, 51, 54, 56, 53, 52, 55, 55, 53, 56, 48, 56] := by
  rw [itoa_tb _ (by decide)]; decide +kernel
theorem itoa_len (i : Int) (h : Sp.i64 i = true) : (Sp.itoa i).length ≤ 21 := by
  have hb := of_i64 h
  have := congrArg List.length (itoa_dec i hb)
  rw [Sp.ints_len] at this
  obtain ⟨c, r, e, _, _, _, _, hr⟩ := Tk.dec_form hb.1 hb.2
  rw [e, List.length_cons] at this
  show (Lib.itoa i).length ≤ 21
  omega
theorem of_decOK {m : Nat} {n : Int} (h : Sp.decOK m n = true) : 0 < m ∧ 0 ≤ n ∧ n < 10 ^ m ∧ n ≤ 9223372036854775807 := by
  simp only [Sp.decOK, Bool.and_eq_true, decide_eq_true_eq] at h
  exact ⟨Nat.le_of_ble_eq_true h.1.1.1, h.1.1.2, h.1.2, h.2⟩
theorem decOK_of {m : Nat} {n : Int} (h : 0 < m ∧ 0 ≤ n ∧ n < 10 ^ m ∧ n ≤ 9223372036854775807) : Sp.decOK m n = true := by
  simp only [Sp.decOK, Bool.and_eq_true, decide_eq_true_eq]
  exact ⟨⟨⟨Nat.ble_eq_true_of_le h.1, h.2.1⟩, h.2.2.1⟩, h.2.2.2⟩
theorem r_dec_inv {m : Nat} {args : List AV} {v : AV} (h : (r_dec m args).val = some v) : ∃ n, args = [.int .i64 n] ∧ Sp.decOK m n = true ∧ v = .str (Sp.itoa n) := by
  unfold r_dec at h
  split at h
  · obtain ⟨h1, h2⟩ := val_when h
    cases h2
    exact ⟨_, rfl, h1, rfl⟩
  · cases h
theorem r_itoa_inv {args : List AV} {v : AV} (h : (r_itoa args).val = some v) : ∃ n, args = [.int .i64 n] ∧ Sp.i64 n = true ∧ v = .str (Sp.itoa n) := by
  unfold r_itoa at h
  split at h
  · obtain ⟨h1, h2⟩ := val_when h
    cases h2
    exact ⟨_, rfl, h1, rfl⟩
  · cases h
end Go.Proofs.YtgeheffhdpeddaaDoor.VX

/- PLAIN: the document's own spelling. Conditions: as each theorem states. -/
namespace Go.Proofs.YtgeheffhdpeddaaDoor.VX
open Go Go.Proofs Go.Proofs.YtgeheffhdpeddaaDoor
end Go.Proofs.YtgeheffhdpeddaaDoor.VX
