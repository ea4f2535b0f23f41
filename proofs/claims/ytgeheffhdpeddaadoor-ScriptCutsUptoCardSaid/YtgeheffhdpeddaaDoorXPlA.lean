/-
  Texts laid together: PLAIN; PLAIN; PLAIN; PLAIN; PLAIN; PLAIN; PLAIN. Conditions: as each theorem states.
-/
import Derived.Test.YtgeheffhdpeddaaDoorXEqT
import Derived.Test.YtgeheffhdpeddaaDoorXExD
import Derived.Test.YtgeheffhdpeddaaDoorXTok
import Derived.Lib.ParseIntBCases
/- PLAIN: letters, runs, words, hexadecimal digits, escapes. Conditions: as each theorem states. -/
namespace Go.Proofs.YtgeheffhdpeddaaDoor.VX
open Go Go.Proofs Go.Proofs.YtgeheffhdpeddaaDoor
theorem small_eq (b : UInt8) : (bif decide ((97 : UInt8) ≤ b) then decide (b ≤ 122) else false) = Sp.sm b := u8_eq (f := fun b => bif decide ((97 : UInt8) ≤ b) then decide (b ≤ 122) else false) (g := Sp.sm) (by decide +kernel) b
theorem great_eq (b : UInt8) : (bif decide ((65 : UInt8) ≤ b) then bif decide (b ≤ 90) then true else (b == 95) else (b == 95)) = Sp.gr b := u8_eq (f := fun b => bif decide ((65 : UInt8) ≤ b) then bif decide (b ≤ 90) then true else (b == 95) else (b == 95)) (g := Sp.gr) (by decide +kernel) b
theorem digit_eq (b : UInt8) : (bif decide ((48 : UInt8) ≤ b) then decide (b ≤ 57) else false) = Sp.dg b := u8_eq (f := fun b => bif decide ((48 : UInt8) ≤ b) then decide (b ≤ 57) else false) (g := Sp.dg) (by decide +kernel) b
theorem hx_eq (b : UInt8) : (bif Sp.dg b then ((b - 48).toNat : Int) else bif decide ((97 : UInt8) ≤ b) then bif decide (b ≤ 102) then IntKind.i64.wrap (((b - 97).toNat : Int) + 10) else bif decide ((65 : UInt8) ≤ b) then bif decide (b ≤ 70) then IntKind.i64.wrap (((b - 65).toNat : Int) + 10) else -1 else -1
    else bif decide ((65 : UInt8) ≤ b) then bif decide (b ≤ 70) then IntKind.i64.wrap (((b - 65).toNat : Int) + 10) else -1 else -1) = Sp.hx b :=
  u8_eq (f := fun b => bif Sp.dg b then ((b - 48).toNat : Int) else bif decide ((97 : UInt8) ≤ b) then bif decide (b ≤ 102) then IntKind.i64.wrap (((b - 97).toNat : Int) + 10) else bif decide ((65 : UInt8) ≤ b) then bif decide (b ≤ 70) then IntKind.i64.wrap (((b - 65).toNat : Int) + 10) else -1 else -1
    else bif decide ((65 : UInt8) ≤ b) then bif decide (b ≤ 70) then IntKind.i64.wrap (((b - 65).toNat : Int) + 10) else -1 else -1) (g := Sp.hx) (by decide +kernel) b
theorem hx_rng (b : UInt8) : -1 ≤ Sp.hx b ∧ Sp.hx b ≤ 15 := of_decide_eq_true (u8_all (p := fun b => decide (-1 ≤ Sp.hx b ∧ Sp.hx b ≤ 15)) (by decide +kernel) b)
theorem run_cons (c : UInt8) (r : List UInt8) : Sp.run (c :: r) = bif Sp.sm c || Sp.gr c || Sp.dg c then Sp.run r + 1 else 0 := by
  have e : Tk.run (Sp.ints (c :: r)) = if Tk.rn (c.toNat : Int) then (c.toNat : Int) :: Tk.run (Sp.ints r) else [] := rfl
  unfold Sp.run
  by_cases h : Tk.rn (c.toNat : Int) = true
  · have h' : (Sp.sm c || Sp.gr c || Sp.dg c) = true := h
    rw [e, if_pos h, h']; simp
  · have h' : (Sp.sm c || Sp.gr c || Sp.dg c) = false := Bool.not_eq_true _ ▸ h
    rw [e, if_neg h, h']; simp
theorem run_rng (s : List UInt8) : 0 ≤ Sp.run s ∧ Sp.run s ≤ s.length := by
  induction s with
  | nil => decide
  | cons c r ih =>
    rw [run_cons, List.length_cons]
    cases (Sp.sm c || Sp.gr c || Sp.dg c) <;> simp <;> omega
theorem run_loop (s : List UInt8) (hs : s.length < 68719476736) (n : Nat) : ∀ (r : List UInt8) (i m : Nat), s.drop i = r → i ≤ s.length → r.length < m → L_tokens_run_0 n m s (i : Int) = some (.int .i64 ((i : Int) + Sp.run r))
  | [], i, m + 1, h, hi, _ => by
    have := drop_nil h hi
    rw [L_tokens_run_0_eq, lt_f (by omega)]
    rfl
  | c :: r, i, m + 1, h, _, hm => by
    obtain ⟨h1, h2, h3, h4⟩ := drop_cons h
    have ih := run_loop s hs n r (i + 1) m h3 (by omega) (by simp at hm; omega)
    rw [L_tokens_run_0_eq, lt_t (by omega), le_t (by omega), toNat_cast, h2, wrap_id (by omega) (by omega), show (i : Int) + 1 = ((i + 1 : Nat) : Int) by omega, ih, run_cons]
    have := run_rng r
    simp only [cond_true]
    cases Sp.sm c <;> cases Sp.gr c <;> cases Sp.dg c <;> simp <;> omega
theorem word_eq (s : List UInt8) : Sp.word s = (match s with | [] => false | c :: _ => bif Sp.sm c then bif Sp.run s == (s.length : Int) then !(s == [115, 97, 121, 115]) else false else false) := by
  cases s with
  | nil => rfl
  | cons c r =>
    unfold Sp.word
    rw [Sp.ints_cons]
    simp only [Tk.word]
    have hl : ∀ l : List Int, (Tk.run l).length ≤ l.length ∧ ((Tk.run l).length = l.length ↔ Tk.run l = l) := by
      intro l
      induction l with
      | nil => simp [Tk.run]
      | cons a l ih =>
        simp only [Tk.run]
        split
        · simp only [List.length_cons, List.cons.injEq, true_and]; exact ⟨by omega, by rw [← ih.2]; omega⟩
        · simp
    have e1 : Tk.sm (c.toNat : Int) = Sp.sm c := rfl
    rw [e1]
    cases hc : Sp.sm c with
    | false => rfl
    | true =>
      rw [run_cons, hc]
      simp only [Bool.true_or, cond_true, Bool.true_and]
      have e2 : (Sp.run r + 1 == ((c :: r).length : Int)) = decide (Tk.run (Sp.ints r) = Sp.ints r) := by
        rw [Bool.eq_iff_iff, beq_iff_eq, decide_eq_true_eq, ← (hl (Sp.ints r)).2, Sp.ints_len]
        unfold Sp.run
        simp only [List.length_cons]; omega
      rw [e2]
      have e3 : decide ((c.toNat : Int) :: Sp.ints r ≠ Tk.says) = !((c :: r) == [115, 97, 121, 115]) := by
        have : Tk.says = Sp.ints [115, 97, 121, 115] := by decide
        rw [this, ← Sp.ints_cons, Bool.eq_iff_iff, decide_eq_true_eq, Bool.not_eq_true', beq_eq_false_iff_ne]
        exact ⟨fun h e => h (by rw [e]), fun h e => h (Sp.ints_inj e)⟩
      rw [e3]
      cases decide (Tk.run (Sp.ints r) = Sp.ints r) <;> rfl
theorem rowsA {W : World → Prop} (h : Wok W) : ∀ q ∈ tab.take 6, RowOK W q := by
  refine rows_step h (rows_step h (rows_step h (rows_step h (rows_step h (rows_step h (rows0 W) (f := 50) (r := r_small) rfl ?_) (f := 52) (r := r_great) rfl ?_) (f := 53) (r := r_digit) rfl ?_) (f := 51) (r := r_run) rfl ?_) (f := 179) (r := r_given) rfl ?_) (f := 173) (r := r_word) rfl ?_
  · intro args v hv
    unfold r_small at hv
    split at hv
    · cases hv; rename_i b; exact ⟨1, by rw [e_tokens_small 0 b, bif_bool, small_eq]⟩
    · cases hv
  · intro args v hv
    unfold r_great at hv
    split at hv
    · cases hv; rename_i b; exact ⟨1, by rw [e_tokens_great 0 b, bif_bool, bif_bool, great_eq]⟩
    · cases hv
  · intro args v hv
    unfold r_digit at hv
    split at hv
    · cases hv; rename_i b; exact ⟨1, by rw [e_tokens_digit 0 b, bif_bool, digit_eq]⟩
    · cases hv
  · intro args v hv
    unfold r_run at hv
    split at hv
    · rename_i s
      obtain ⟨hs, hv⟩ := val_when hv
      cases hv
      refine ⟨s.length + 1 + 3, ?_⟩
      rw [e_tokens_run (s.length + 1) s]
      have := run_loop s (Sp.short_lt hs) (s.length + 1) s 0 (s.length + 1 + 2) rfl (Nat.zero_le _) (by omega)
      simpa using this
    · cases hv
  · intro args v hv
    unfold r_given at hv
    split at hv
    · cases hv; rename_i s c; exact ⟨1, by rw [e_tokens_given 0 s c]; cases c <;> rfl⟩
    · cases hv
  · intro args v hv
    unfold r_word at hv
    split at hv
    · rename_i s
      obtain ⟨hs, hv⟩ := val_when hv
      cases hv
      refine ⟨1, ?_⟩
      rw [e_tokens_Word 0 s, word_eq, hs]
      cases s with
      | nil => rfl
      | cons c r =>
        have e1 : ((c :: r) == ([] : List UInt8)) = false := rfl
        rw [e1, lt_t (by simp)]
        simp only [Bool.not_false, cond_true, List.getD_cons_zero]
        cases Sp.sm c <;> cases (Sp.run (c :: r) == (((c :: r).length : Nat) : Int)) <;> rfl
    · cases hv
end Go.Proofs.YtgeheffhdpeddaaDoor.VX

/- PLAIN: quoting, hexadecimal digits, escapes. Conditions: as each theorem states. -/
namespace Go.Proofs.YtgeheffhdpeddaaDoor.VX
open Go Go.Proofs Go.Proofs.YtgeheffhdpeddaaDoor
def hexL : List UInt8 := [48, 49, 50, 51, 52, 53, 54, 55, 56, 57, 97, 98, 99, 100, 101, 102]
def emitB (c : UInt8) : List UInt8 :=
  bif c == 34 then [92, c] else bif c == 92 then [92, c] else bif c == 10 then [92, 110] else bif c == 9 then [92, 116]
  else bif decide (c < 32) then [92, 120, hexL.getD ((UInt8.ofNat (c.toNat / 16)).toNat : Int).toNat 0, hexL.getD ((c &&& 15).toNat : Int).toNat 0]
  else bif decide (126 < c) then [92, 120, hexL.getD ((UInt8.ofNat (c.toNat / 16)).toNat : Int).toNat 0, hexL.getD ((c &&& 15).toNat : Int).toNat 0]
  else [c]
theorem emit_eq (c : UInt8) : emitB c = Sp.tb (Tk.qbyte c.toNat) := u8_eq (f := emitB) (g := fun c => Sp.tb (Tk.qbyte c.toNat)) (by decide +kernel) c
theorem emit_len (c : UInt8) : (emitB c).length ≤ 4 := of_decide_eq_true (u8_all (p := fun c => decide ((emitB c).length ≤ 4)) (by decide +kernel) c)
theorem q1 (c : UInt8) : decide (((UInt8.ofNat (c.toNat / 16)).toNat : Int) < 16) = true := u8_all (p := fun c => decide (((UInt8.ofNat (c.toNat / 16)).toNat : Int) < 16)) (by decide +kernel) c
theorem q2 (c : UInt8) : decide (((c &&& 15).toNat : Int) < 16) = true := u8_all (p := fun c => decide (((c &&& 15).toNat : Int) < 16)) (by decide +kernel) c
theorem tb_app (a b : List Int) : Sp.tb (a ++ b) = Sp.tb a ++ Sp.tb b := by simp [Sp.tb]
theorem qbody_cons (c : UInt8) (r : List UInt8) : Sp.tb (Tk.qbody (Sp.ints (c :: r))) = emitB c ++ Sp.tb (Tk.qbody (Sp.ints r)) := by
  rw [emit_eq, ← tb_app]; rfl
theorem toU8_map (l : List UInt8) : (l.map AV.u8).map toU8 = l := by simp [Function.comp_def, toU8]
theorem isU8_map (l : List UInt8) : (l.map AV.u8).all isU8 = true := by simp [isU8]
theorem quote_loop (s : List UInt8) (hs : s.length < 68719476736) (n : Nat) : ∀ (r : List UInt8) (i m : Nat) (acc : List UInt8), s.drop i = r → i ≤ s.length → acc.length ≤ 1 + 4 * i → r.length < m →
    L_tokens_Quote_0 n m s (i : Int) (acc.map .u8) = some (.str (acc ++ Sp.tb (Tk.qbody (Sp.ints r)) ++ [34]))
  | [], i, m + 1, acc, h, hi, ha, _ => by
    have := drop_nil h hi
    have e : acc.map AV.u8 ++ [AV.u8 34] = (acc ++ [34]).map .u8 := by simp
    rw [L_tokens_Quote_0_eq, lt_f (by omega), room_t (n := (acc.map AV.u8).length + 1) (by simp; omega) (by decide), e, isU8_map, toU8_map]
    simp [Sp.ints, Tk.qbody, Sp.tb]
  | c :: r, i, m + 1, acc, h, _, ha, hm => by
    obtain ⟨h1, h2, h3, h4⟩ := drop_cons h
    have hl := emit_len c
    have ih := quote_loop s hs n r (i + 1) m (acc ++ emitB c) h3 (by omega) (by simp; omega) (by simp at hm; omega)
    rw [qbody_cons, ← List.append_assoc, ← ih]
    have ew : IntKind.i64.wrap ((i : Int) + 1) = ((i + 1 : Nat) : Int) := by rw [wrap_id (by omega) (by omega)]; rfl
    rw [L_tokens_Quote_0_eq, lt_t (by omega), le_t (by omega), toNat_cast, h2, ew, q1, q2, room_t (n := (acc.map AV.u8).length + 2) (by simp; omega) (by decide), room_t (n := (acc.map AV.u8).length + 4) (by simp; omega) (by decide), room_t (n := (acc.map AV.u8).length + 1) (by simp; omega) (by decide)]
    simp only [cond_true, List.map_append]
    unfold emitB
    cases c == 34 <;> cases c == 92 <;> cases c == 10 <;> cases c == 9 <;> cases decide (c < 32) <;> cases decide (126 < c) <;> simp only [cond_true, cond_false, List.map_cons, List.map_nil, hexL]
def hexA (a b : Nat) : Bool := UInt8.ofNat (IntKind.i64.wrap (((BitVec.ofInt 64 (IntKind.i64.wrap ((a : Int) * 16)) ||| BitVec.ofInt 64 (b : Int)).toNat : Nat) : Int) % 256).toNat == UInt8.ofNat (16 * (a : Int) + (b : Int)).toNat
theorem hexA_all : ((List.range 16).all fun a => (List.range 16).all fun b => hexA a b) = true := by kernel_rfl
theorem hex2 {a b : Int} (ha : 0 ≤ a ∧ a ≤ 15) (hb : 0 ≤ b ∧ b ≤ 15) : UInt8.ofNat (IntKind.i64.wrap (((BitVec.ofInt 64 (IntKind.i64.wrap (a * 16)) ||| BitVec.ofInt 64 b).toNat : Nat) : Int) % 256).toNat = UInt8.ofNat (16 * a + b).toNat := by
  obtain ⟨x, rfl⟩ := Int.eq_ofNat_of_zero_le ha.1
  obtain ⟨y, rfl⟩ := Int.eq_ofNat_of_zero_le hb.1
  have := hexA_all
  simp only [List.all_eq_true, List.mem_range] at this
  exact beq_iff_eq.mp (this x (by omega) y (by omega))
/-- What an escape says: the byte, how many bytes it takes. -/
def escP (s : List UInt8) : UInt8 × Int :=
  match s with
  | [] => (0, 0)
  | c :: r =>
    bif c == 34 then (c, 1) else bif c == 92 then (c, 1) else bif c == 110 then (10, 1) else bif c == 116 then (9, 1)
    else bif c == 120 then (match r with
      | a :: b :: _ => bif decide (0 ≤ Sp.hx a) then bif decide (0 ≤ Sp.hx b) then (UInt8.ofNat (16 * Sp.hx a + Sp.hx b).toNat, 3) else (0, 0) else (0, 0)
      | _ => (0, 0))
    else (0, 0)
theorem escP_eq (s : List UInt8) : escP s = (Sp.escB s, Sp.escN s) := by
  cases s with
  | nil => rfl
  | cons c r =>
    unfold escP Sp.escB Sp.escN
    rw [Sp.ints_cons]
    simp only [Tk.esc, Sp.beq_b]
    by_cases h1 : (c.toNat : Int) = 34
    · obtain rfl : c = 34 := UInt8.toNat_inj.mp (show c.toNat = 34 by omega)
      rfl
    by_cases h2 : (c.toNat : Int) = 92
    · obtain rfl : c = 92 := UInt8.toNat_inj.mp (show c.toNat = 92 by omega)
      rfl
    by_cases h3 : (c.toNat : Int) = 110
    · obtain rfl : c = 110 := UInt8.toNat_inj.mp (show c.toNat = 110 by omega)
      rfl
    by_cases h4 : (c.toNat : Int) = 116
    · obtain rfl : c = 116 := UInt8.toNat_inj.mp (show c.toNat = 116 by omega)
      rfl
    have n1 : decide ((c.toNat : Int) = ((34 : UInt8).toNat : Int)) = false := decide_eq_false h1
    have n2 : decide ((c.toNat : Int) = ((92 : UInt8).toNat : Int)) = false := decide_eq_false h2
    have n3 : decide ((c.toNat : Int) = ((110 : UInt8).toNat : Int)) = false := decide_eq_false h3
    have n4 : decide ((c.toNat : Int) = ((116 : UInt8).toNat : Int)) = false := decide_eq_false h4
    rw [n1, n2, n3, n4, if_neg (by omega), if_neg h3, if_neg h4]
    by_cases h5 : (c.toNat : Int) = 120
    · have n5 : decide ((c.toNat : Int) = ((120 : UInt8).toNat : Int)) = true := decide_eq_true h5
      rw [n5, if_pos h5]
      cases r with
      | nil => rfl
      | cons a r =>
        cases r with
        | nil => rfl
        | cons b r =>
          have ea : Tk.hx (a.toNat : Int) = Sp.hx a := rfl
          have eb : Tk.hx (b.toNat : Int) = Sp.hx b := rfl
          simp only [Sp.ints_cons, ea, eb]
          by_cases k1 : 0 ≤ Sp.hx a <;> by_cases k2 : 0 ≤ Sp.hx b <;> simp [k1, k2]
    · have n5 : decide ((c.toNat : Int) = ((120 : UInt8).toNat : Int)) = false := decide_eq_false h5
      rw [n5, if_neg h5]; rfl
set_option maxRecDepth 100000 in
theorem rowsB {W : World → Prop} (h : Wok W) : ∀ q ∈ tab.take 9, RowOK W q := by
  refine rows_step h (rows_step h (rows_step h (rowsA h) (f := 161) (r := r_quote) rfl ?_) (f := 82) (r := r_hex) rfl ?_) (f := 67) (r := r_escape) rfl ?_
  · intro args v hv
    unfold r_quote at hv
    split at hv
    · rename_i s
      obtain ⟨hs, hv⟩ := val_when hv
      cases hv
      refine ⟨s.length + 2 + 2, ?_⟩
      rw [e_tokens_Quote (s.length + 2) s]
      have := quote_loop s (Sp.short_lt hs) (s.length + 2) s 0 (s.length + 2 + 1) [34] rfl (Nat.zero_le _) (by simp) (by omega)
      refine this.trans ?_
      congr 2
      show _ = Sp.tb (34 :: (Tk.qbody (Sp.ints s) ++ [34]))
      simp [Sp.tb]
    · cases hv
  · intro args v hv
    unfold r_hex at hv
    split at hv
    · cases hv; rename_i b; exact ⟨2, by rw [e_tokens_hex 0 b]; simp only [bif_int]; rw [hx_eq]⟩
    · cases hv
  · intro args v hv
    unfold r_escape at hv
    split at hv
    · cases hv
      rename_i s
      refine ⟨2, ?_⟩
      have he1 : Sp.escB s = (escP s).1 := by rw [escP_eq]
      have he2 : Sp.escN s = (escP s).2 := by rw [escP_eq]
      rw [he1, he2, e_tokens_escape 0 s]
      cases s with
      | nil => rfl
      | cons c r =>
        have e1 : ((c :: r) == ([] : List UInt8)) = false := rfl
        rw [e1, lt_t (a := 0) (b := ((c :: r).length : Nat)) (by simp)]
        unfold escP
        simp only [cond_true, cond_false, List.getD_cons_zero]
        cases c == 34 with
        | true => rfl
        | false =>
        cases c == 92 with
        | true => rfl
        | false =>
        cases c == 110 with
        | true => rfl
        | false =>
        cases c == 116 with
        | true => rfl
        | false =>
        cases c == 120 with
        | false => rfl
        | true =>
          simp only [cond_true, cond_false]
          cases r with
          | nil => rfl
          | cons a r =>
            cases r with
            | nil => rfl
            | cons b r =>
              have g1 : ((c :: a :: b :: r).getD 1 0) = a := rfl
              have g2 : ((c :: a :: b :: r).getD 2 0) = b := rfl
              rw [gt_t (a := ((c :: a :: b :: r).length : Nat)) (b := 2) (by simp; omega), lt_t (a := 1) (by simp; omega), g1, g2]
              simp only [cond_true]
              have ra := hx_rng a
              have rb := hx_rng b
              by_cases k1 : 0 ≤ Sp.hx a <;> by_cases k2 : 0 ≤ Sp.hx b
              · rw [ge_t k1, ge_t k2, hex2 ⟨k1, ra.2⟩ ⟨k2, rb.2⟩]; rfl
              · rw [ge_t k1, ge_f (a := Sp.hx b) (by omega)]; rfl
              · rw [ge_f (a := Sp.hx a) (by omega)]; rfl
              · rw [ge_f (a := Sp.hx a) (by omega)]; rfl
    · cases hv
end Go.Proofs.YtgeheffhdpeddaaDoor.VX

/- PLAIN: quoted texts, signs. Conditions: as each theorem states. -/
namespace Go.Proofs.YtgeheffhdpeddaaDoor.VX
open Go Go.Proofs Go.Proofs.YtgeheffhdpeddaaDoor
def encQ (a : Int) (acc : List UInt8) (i : Nat) : Tk.Qr → AV
  | .ok m n => .tup [.agg [.int .i64 3, .str (acc ++ Sp.tb m), .int .i64 0, .int .i64 a, .int .i64 ((i + n : Nat) : Int)], .agg [.int .i64 0, .int .i64 0]]
  | .bad n => .tup [.agg [.int .i64 0, .str [], .int .i64 0, .int .i64 0, .int .i64 0], .agg [.int .i64 44, .int .i64 ((i + n : Nat) : Int)]]
  | .opn => .tup [.agg [.int .i64 0, .str [], .int .i64 0, .int .i64 0, .int .i64 0], .agg [.int .i64 43, .int .i64 a]]
theorem encQ_adv (a : Int) (acc : List UInt8) (i : Nat) (q : Tk.Qr) : encQ a acc i q.adv = encQ a acc (i + 1) q := by
  cases q with
  | ok m n => simp only [Tk.Qr.adv, encQ]; rw [show i + (n + 1) = i + 1 + n by omega]
  | bad n => simp only [Tk.Qr.adv, encQ]; rw [show i + (n + 1) = i + 1 + n by omega]
  | opn => rfl
theorem encQ_far (a : Int) (acc : List UInt8) (i d : Nat) (q : Tk.Qr) : encQ a acc i (q.far d) = encQ a acc (i + d) q := by
  cases q with
  | ok m n => simp only [Tk.Qr.far, encQ]; rw [show i + (n + d) = i + d + n by omega]
  | bad n => simp only [Tk.Qr.far, encQ]; rw [show i + (n + d) = i + d + n by omega]
  | opn => rfl
theorem encQ_put (a : Int) (acc : List UInt8) (i : Nat) (c : Int) (q : Tk.Qr) : encQ a acc i (q.put c) = encQ a (acc ++ [UInt8.ofNat c.toNat]) i q := by
  cases q with
  | ok m n => simp only [Tk.Qr.put, encQ]; rw [List.append_assoc]; rfl
  | bad n => rfl
  | opn => rfl
theorem esc_le (s : List UInt8) : (Tk.esc (Sp.ints s)).2 ≤ s.length := by
  rw [← Sp.ints_len s]; exact Tk.esc_le _
theorem quoted_loop (s : List UInt8) (hs : s.length < 68719476736) (a i4 : Int) (s5 : List UInt8) (i6 i7 i8 i9 i10 : Int) (n : Nat) : ∀ (d : Nat) (r : List UInt8) (i m : Nat) (acc : List UInt8), r.length ≤ d → s.drop i = r → i ≤ s.length → acc.length ≤ i → r.length < m →
    L_tokens_quoted_0 n m s (i : Int) (acc.map .u8) a i4 s5 i6 i7 i8 i9 i10 = some (encQ a acc i (Tk.quot 0 (Sp.ints r))) := by
  intro d
  induction d with
  | zero =>
    intro r i m acc hd h hi hl hm
    obtain rfl : r = [] := List.length_eq_zero_iff.mp (by omega)
    obtain ⟨m, rfl⟩ : ∃ k, m = k + 1 := ⟨m - 1, by omega⟩
    have := drop_nil h hi
    rw [L_tokens_quoted_0_eq, lt_f (by omega)]; rfl
  | succ d ih =>
    intro r i m acc hd h hi hl hm
    obtain ⟨m, rfl⟩ : ∃ k, m = k + 1 := ⟨m - 1, by omega⟩
    cases r with
    | nil =>
      have := drop_nil h hi
      rw [L_tokens_quoted_0_eq, lt_f (by omega)]; rfl
    | cons c r =>
      obtain ⟨h1, h2, h3, h4⟩ := drop_cons h
      simp only [List.length_cons] at hd hm
      have ew : IntKind.i64.wrap ((i : Int) + 1) = ((i + 1 : Nat) : Int) := by rw [wrap_id (by omega) (by omega)]; rfl
      have et : List.drop (i + 1) (List.take s.length s) = r := by rw [List.take_length]; exact h3
      rw [L_tokens_quoted_0_eq, lt_t (by omega), le_t (a := 0) (b := (i : Int)) (by omega), toNat_cast, h2, ew, isU8_map, toU8_map, le_t (a := 0) (b := ((i + 1 : Nat) : Int)) (by omega), le_t (a := ((i + 1 : Nat) : Int)) (b := (s.length : Int)) (by omega), le_t (a := (s.length : Int)) (b := (s.length : Int)) (by omega), toNat_cast, toNat_cast, et,
        room_t (n := (acc.map AV.u8).length + 1) (by simp; omega) (by decide), Sp.ints_cons]
      simp only [cond_true, Tk.quot, Sp.beq_b, Sp.lt_b]
      by_cases c1 : (c.toNat : Int) = 34
      · have e : decide ((c.toNat : Int) = ((34 : UInt8).toNat : Int)) = true := decide_eq_true c1
        rw [e, if_pos c1]
        simp [encQ, Sp.tb]
      have n1 : decide ((c.toNat : Int) = ((34 : UInt8).toNat : Int)) = false := decide_eq_false c1
      rw [n1, if_neg c1]
      by_cases c2 : (c.toNat : Int) = 92
      · have e : decide ((c.toNat : Int) = ((92 : UInt8).toNat : Int)) = true := decide_eq_true c2
        rw [e, if_pos c2]
        have hle := esc_le r
        by_cases c3 : (Tk.esc (Sp.ints r)).2 = 0
        · have e3 : (Sp.escN r == 0) = true := by unfold Sp.escN; rw [c3]; rfl
          rw [e3, if_pos c3]; rfl
        · have e3 : (Sp.escN r == 0) = false := by unfold Sp.escN; rw [beq_eq_false_iff_ne]; omega
          rw [e3, if_neg c3, encQ_adv, encQ_put, Tk.quot_far _ _ (by rw [Sp.ints_len]; exact hle), encQ_far, ← Sp.ints_drop]
          simp only [cond_true, cond_false]
          have ew2 : IntKind.i64.wrap ((i : Int) + IntKind.i64.wrap (1 + Sp.escN r)) = ((i + 1 + (Tk.esc (Sp.ints r)).2 : Nat) : Int) := by
            unfold Sp.escN
            rw [wrap_id (n := 1 + _) (by omega) (by omega), wrap_id (by omega) (by omega)]; omega
          have hdr : s.drop (i + 1 + (Tk.esc (Sp.ints r)).2) = r.drop (Tk.esc (Sp.ints r)).2 := by rw [← h3, List.drop_drop]
          have := ih (r.drop (Tk.esc (Sp.ints r)).2) (i + 1 + (Tk.esc (Sp.ints r)).2) m (acc ++ [Sp.escB r]) (by simp; omega) hdr (by omega) (by simp; omega) (by simp; omega)
          rw [ew2]
          rw [List.map_append] at this
          exact this
      have n2 : decide ((c.toNat : Int) = ((92 : UInt8).toNat : Int)) = false := decide_eq_false c2
      rw [n2, if_neg c2]
      simp only [cond_false]
      by_cases c4 : (c.toNat : Int) < 32
      · have e : decide ((c.toNat : Int) < ((32 : UInt8).toNat : Int)) = true := decide_eq_true c4
        rw [e, if_pos (.inl c4)]; rfl
      have n4 : decide ((c.toNat : Int) < ((32 : UInt8).toNat : Int)) = false := decide_eq_false c4
      by_cases c5 : (c.toNat : Int) = 127
      · have e : decide ((c.toNat : Int) = ((127 : UInt8).toNat : Int)) = true := decide_eq_true c5
        rw [n4, e, if_pos (.inr c5)]; rfl
      have n5 : decide ((c.toNat : Int) = ((127 : UInt8).toNat : Int)) = false := decide_eq_false c5
      rw [n4, n5, if_neg (by omega), encQ_adv, encQ_put]
      simp only [cond_false]
      have := ih r (i + 1) m (acc ++ [c]) (by omega) h3 (by omega) (by simp; omega) (by omega)
      have ec : UInt8.ofNat ((c.toNat : Int)).toNat = c := by simp
      rw [ec]
      rw [List.map_append] at this
      exact this
theorem quoted_eq (s : List UInt8) (a : Int) (h : Sp.at_ s a = true) : ∃ n, runA Tryd.prog (X 9) n 55 [.str s, .int .i64 a] = some (outA (Sp.quoted s a)) := by
  simp only [Sp.at_, Bool.and_eq_true, decide_eq_true_eq] at h
  obtain ⟨hs, h0, h1⟩ := h
  have hs := Sp.short_lt hs
  obtain ⟨i, rfl⟩ := Int.eq_ofNat_of_zero_le h0
  refine ⟨s.length + 2 + 2, ?_⟩
  rw [e_tokens_quoted (s.length + 2) s]
  have ew : IntKind.i64.wrap ((i : Int) + 1) = ((i + 1 : Nat) : Int) := by rw [wrap_id (by omega) (by omega)]; rfl
  have := quoted_loop s hs (i : Int) 0 [] 0 0 0 0 0 (s.length + 2) s.length (s.drop (i + 1)) (i + 1) (s.length + 2 + 1) [] (by simp) rfl (by omega) (by simp) (by simp; omega)
  rw [ew]
  refine this.trans ?_
  unfold Sp.quoted
  rw [toNat_cast]
  cases Tk.quot 0 (Sp.ints (s.drop (i + 1))) with
  | ok m k => simp only [encQ, Sp.qO, outA, tokA, faultA, List.nil_append]; rfl
  | bad k => simp only [encQ, Sp.qO, outA, tokA, faultA]; rfl
  | opn => simp only [encQ, Sp.qO, outA, tokA, faultA]; rfl
end Go.Proofs.YtgeheffhdpeddaaDoor.VX

/- PLAIN: numbers: the library's ParseInt and FormatInt at base 10 as the plain theory says them. Conditions: as each theorem states. -/
namespace Go.Proofs.YtgeheffhdpeddaaDoor.VX
open Go Go.Proofs Go.Proofs.YtgeheffhdpeddaaDoor
theorem parse_bd (l : List UInt8) (v : Int) (h : Lib.parseIntB 64 l = .ok v) : -9223372036854775808 ≤ v ∧ v ≤ 9223372036854775807 := by
  unfold Lib.parseIntB at h
  split at h
  · simp at h
  · simp only at h
    split at h
    · simp at h
    · simp at h
    · split at h
      · simp at h
      · split at h
        · simp at h
        · simp only [Lib.NumEnd.ok.injEq] at h
          split at h <;> omega

theorem decDigits_dec : ∀ (f u : Nat), u < 10 ^ f → 0 < f → Sp.ints (Lib.decDigits u) = Tk.decN f u [] := by
  intro f
  induction f with
  | zero => intro u _ h; omega
  | succ f ih =>
    intro u hu _
    rw [Lib.decDigits]
    by_cases h : u < 10
    · rw [dif_pos h, Tk.decN_one _ _ h]
      simp only [Sp.ints, List.map_cons, List.map_nil, UInt8.toNat_ofNat']
      congr 1
      omega
    · rw [dif_neg h, Tk.decN_step _ _ h]
      have hf : 0 < f := by
        rcases Nat.eq_zero_or_pos f with rfl | h'
        · simp at hu; omega
        · exact h'
      rw [← ih (u / 10) (by rw [Nat.pow_succ] at hu; omega) hf]
      simp only [Sp.ints, List.map_append, List.map_cons, List.map_nil, UInt8.toNat_ofNat']
      congr 2
      omega

theorem itoa_dec (n : Int) (h : -9223372036854775808 ≤ n ∧ n ≤ 9223372036854775807) : Sp.ints (Lib.itoa n) = Tk.dec n := by
  unfold Lib.itoa Tk.dec
  have hp : n.natAbs < 10 ^ 20 := by have : (10 : Nat) ^ 20 = 100000000000000000000 := by decide
                                     omega
  by_cases h0 : n < 0
  · rw [if_pos h0, if_pos h0, ← decDigits_dec 20 _ hp (by decide)]; rfl
  · rw [if_neg h0, if_neg h0, ← decDigits_dec 20 _ hp (by decide), show n.toNat = n.natAbs by omega]

theorem val_le : ∀ (l : List Int) (a : Nat), a ≤ Tk.val a l := by
  intro l
  induction l with
  | nil => intro a; exact Nat.le_refl _
  | cons c r ih => intro a; simp only [Tk.val]; exact Nat.le_trans (by omega) (ih _)

theorem parseM_ok : ∀ (l : List UInt8) (a : Nat), Tk.alld (Sp.ints l) = true → Tk.val a (Sp.ints l) ≤ 18446744073709551615 → Lib.parseUintM 18446744073709551615 a l = .ok (Tk.val a (Sp.ints l)) := by
  intro l
  induction l with
  | nil => intro a _ _; rfl
  | cons c r ih =>
    intro a hd hv
    simp only [Sp.ints, List.map_cons, Tk.alld, Bool.and_eq_true, Tk.dg_iff] at hd
    simp only [Sp.ints, List.map_cons, Tk.val] at hv ⊢
    have hl := val_le (List.map (fun b : UInt8 => (b.toNat : Int)) r) (10 * a + ((c.toNat : Int) - 48).toNat)
    rw [Lib.parseUintM, if_pos (by omega), if_neg (by omega), if_neg (by omega), show a * 10 + (c.toNat - 48) = 10 * a + ((c.toNat : Int) - 48).toNat by omega]
    exact ih _ hd.2 hv

theorem parse_num {l : List UInt8} {n : Int} (h : Tk.num (Sp.ints l) = some n) : Lib.parseIntB 64 l = .ok n := by
  have hM : (2 ^ 64 - 1 : Nat) = 18446744073709551615 := by decide
  have hC : (2 ^ (64 - 1) : Nat) = 9223372036854775808 := by decide
  have nat : ∀ (r : List UInt8) (v : Nat), Tk.nat? (Sp.ints r) = some v → v ≤ 9223372036854775808 → Lib.parseUintB 64 r = .ok v := by
    intro r v hv hb
    obtain ⟨h1, h2, _, h4, _⟩ := Tk.nat?_some hv
    have hne : r ≠ [] := by rintro rfl; exact h2 rfl
    rw [Lib.parseUintB, if_neg hne, hM, parseM_ok r 0 h1 (by omega), h4]
  unfold Tk.num at h
  by_cases h0 : Sp.ints l = [48]
  · rw [if_pos h0] at h
    obtain rfl := Option.some.inj h
    have : l = [48] := Sp.ints_inj h0
    subst this
    decide
  · rw [if_neg h0] at h
    cases l with
    | nil => simp [Sp.ints] at h
    | cons c r =>
      have hc : Sp.ints (c :: r) = (c.toNat : Int) :: Sp.ints r := rfl
      rw [hc] at h
      simp only at h
      by_cases h45 : (c.toNat : Int) = 45
      · rw [if_pos h45] at h
        have e45 : (45 : UInt8).toNat = 45 := rfl
        have : c = 45 := by apply UInt8.toNat_inj.1; omega
        subst this
        cases hr : Tk.nat? (Sp.ints r) with
        | none => rw [hr] at h; simp at h
        | some v =>
          rw [hr] at h
          simp only at h
          by_cases hv : v ≤ 9223372036854775808
          · rw [if_pos hv] at h
            obtain rfl := Option.some.inj h
            rw [Lib.parseIntB_minus, nat r v hr hv, hC]
            simp only [Lib.signedC]
            rw [if_neg (by omega)]
          · rw [if_neg hv] at h; simp at h
      · rw [if_neg h45] at h
        cases hr : Tk.nat? ((c.toNat : Int) :: Sp.ints r) with
        | none => rw [hr] at h; simp at h
        | some v =>
          rw [hr] at h
          simp only at h
          by_cases hv : v ≤ 9223372036854775807
          · rw [if_pos hv] at h
            obtain rfl := Option.some.inj h
            have hd := (Tk.nat?_some hr).1
            simp only [Tk.alld, Bool.and_eq_true, Tk.dg_iff] at hd
            rw [Lib.parseIntB_plain 64 c r (by omega) (by omega), nat (c :: r) v hr (by omega), hC]
            simp only [Lib.signlessC]
            rw [if_neg (by omega)]
          · rw [if_neg hv] at h; simp at h


theorem i64_of {n : Int} (h : -9223372036854775808 ≤ n ∧ n ≤ 9223372036854775807) : Sp.i64 n = true := by
  unfold Sp.i64; rw [decide_eq_true h.1, decide_eq_true h.2]; rfl
theorem of_i64 {n : Int} (h : Sp.i64 n = true) : -9223372036854775808 ≤ n ∧ n ≤ 9223372036854775807 := by
  simpa [Sp.i64] using h
theorem itoa_tb (n : Int) (h : Sp.i64 n = true) : Sp.itoa n = Sp.tb (Tk.dec n) := by
  rw [← itoa_dec n (of_i64 h), Sp.tb_ints]; rfl
theorem pv_rng {s : List UInt8} (h : Sp.pOk s = true) : Sp.i64 (Sp.pV s) = true := by
  unfold Sp.pOk at h
  unfold Sp.pV
  split at h
  · rename_i v hv
    rw [hv]; exact i64_of (parse_bd _ _ hv)
  · cases h
theorem num_link (s : List UInt8) : Sp.numOk s = (Tk.num (Sp.ints s)).isSome ∧ ∀ n, Tk.num (Sp.ints s) = some n → Sp.numV s = n := by
  cases hn : Tk.num (Sp.ints s) with
  | some n =>
    have hp := parse_num hn
    obtain ⟨h1, h2⟩ := Tk.num_inv hn
    have ev : Sp.pV s = n := by unfold Sp.pV; rw [hp]
    refine ⟨?_, fun m hm => by cases hm; exact ev⟩
    unfold Sp.numOk
    have eo : Sp.pOk s = true := by unfold Sp.pOk; rw [hp]
    rw [eo, ev, Bool.true_and]
    show (Lib.itoa n == s) = true
    rw [beq_iff_eq]
    exact Sp.ints_inj (by rw [itoa_dec n h2, h1])
  | none =>
    refine ⟨?_, fun m hm => by cases hm⟩
    unfold Sp.numOk
    cases ho : Sp.pOk s with
    | false => rfl
    | true =>
      have hr := pv_rng ho
      have hb := of_i64 hr
      rw [Bool.true_and]
      show (Lib.itoa (Sp.pV s) == s) = false
      rw [beq_eq_false_iff_ne]
      intro e
      have : Sp.ints s = Tk.dec (Sp.pV s) := by rw [← itoa_dec _ hb, e]
      rw [this, Tk.num_dec hb.1 hb.2] at hn
      cases hn
theorem sign_eq (b : UInt8) : (bif decide (Sp.idx [40, 41, 44, 59, 46] b ≥ 0) then IntKind.i64.wrap (6 + Sp.idx [40, 41, 44, 59, 46] b) else bif b == 63 then 12 else bif b == 61 then 13 else bif b == 60 then 15 else 0) = Sp.sign b :=
  u8_eq (f := fun b => bif decide (Sp.idx [40, 41, 44, 59, 46] b ≥ 0) then IntKind.i64.wrap (6 + Sp.idx [40, 41, 44, 59, 46] b) else bif b == 63 then 12 else bif b == 61 then 13 else bif b == 60 then 15 else 0) (g := Sp.sign) (by decide +kernel) b
theorem signs_eq (s : List UInt8) (a : Int) (hs : Sp.atE s 0 = true) (hne : s ≠ []) (ha : 0 ≤ a ∧ a < 68719476736) : runA Tryd.prog (X 12) 2 56 [.str s, .agg [.int .i64 0, .str [], .int .i64 0, .int .i64 a, .int .i64 0]] = some (outA (Sp.signs s a)) := by
  cases s with
  | nil => exact absurd rfl hne
  | cons c r =>
    rw [e_tokens_signs 0 (c :: r) a, wrap_id (n := a + 2) (by omega) (by omega), wrap_id (n := a + 1) (by omega) (by omega)]
    have es : Sp.sign c = Tk.sign1 c.toNat := rfl
    have one : (bif decide ((0 : Int) < ((c :: r).length : Nat)) then bif Sp.sign ((c :: r).getD 0 0) == 0 then some (AV.tup [.agg [.int .i64 (Sp.sign ((c :: r).getD 0 0)), .str [], .int .i64 0, .int .i64 a, .int .i64 0], .agg [.int .i64 42, .int .i64 a]])
        else some (AV.tup [.agg [.int .i64 (Sp.sign ((c :: r).getD 0 0)), .str [], .int .i64 0, .int .i64 a, .int .i64 (a + 1)], .agg [.int .i64 0, .int .i64 0]]) else none) =
        some (outA (Sp.lO a 0 (if Tk.sign1 c.toNat ≠ 0 then .tok (Tk.sign1 c.toNat) [] 0 1 else .bad 42 0))) := by
      rw [lt_t (by simp), List.getD_cons_zero, es]
      simp only [cond_true]
      by_cases h : Tk.sign1 (c.toNat : Int) = 0
      · rw [eq_t h, if_neg (by simpa using h), h]; simp [outA, Sp.lO, tokA, faultA, Sp.tb]
      · rw [eq_f h, if_pos h]; simp [outA, Sp.lO, tokA, faultA, Sp.tb]
    cases r with
    | nil =>
      rw [gt_f (by simp)]
      exact one
    | cons d r =>
      have two : List.drop 0 (List.take 2 (c :: d :: r)) = [c, d] := rfl
      rw [gt_t (by simp; omega), le_t (a := 2) (by simp; omega), two]
      simp only [cond_true]
      rw [show (([c, d] : List UInt8) == [58, 45]) = (decide ((c.toNat : Int) = 58) && decide ((d.toNat : Int) = 45)) by
          rw [show (([c, d] : List UInt8) == [58, 45]) = (c == 58 && d == 45) by simp [List.cons_beq_cons], Sp.beq_b, Sp.beq_b]; rfl,
        show (([c, d] : List UInt8) == [33, 61]) = (decide ((c.toNat : Int) = 33) && decide ((d.toNat : Int) = 61)) by
          rw [show (([c, d] : List UInt8) == [33, 61]) = (c == 33 && d == 61) by simp [List.cons_beq_cons], Sp.beq_b, Sp.beq_b]; rfl,
        show (([c, d] : List UInt8) == [60, 61]) = (decide ((c.toNat : Int) = 60) && decide ((d.toNat : Int) = 61)) by
          rw [show (([c, d] : List UInt8) == [60, 61]) = (c == 60 && d == 61) by simp [List.cons_beq_cons], Sp.beq_b, Sp.beq_b]; rfl]
      show _ = some (outA (Sp.lO a 0 (if Tk.sign2 (c.toNat : Int) (d.toNat : Int) ≠ 0 then .tok (Tk.sign2 (c.toNat : Int) (d.toNat : Int)) [] 0 2 else if Tk.sign1 c.toNat ≠ 0 then .tok (Tk.sign1 c.toNat) [] 0 1 else .bad 42 0)))
      unfold Tk.sign2
      by_cases h1 : (c.toNat : Int) = 58 ∧ (d.toNat : Int) = 45
      · simp [h1, outA, Sp.lO, tokA, faultA, Sp.tb]
      have n1 : (decide ((c.toNat : Int) = 58) && decide ((d.toNat : Int) = 45)) = false := by rw [Bool.and_eq_false_iff]; simp only [decide_eq_false_iff_not]; omega
      by_cases h2 : (c.toNat : Int) = 33 ∧ (d.toNat : Int) = 61
      · rw [n1, if_neg h1]; simp [h2, outA, Sp.lO, tokA, faultA, Sp.tb]
      have n2 : (decide ((c.toNat : Int) = 33) && decide ((d.toNat : Int) = 61)) = false := by rw [Bool.and_eq_false_iff]; simp only [decide_eq_false_iff_not]; omega
      by_cases h3 : (c.toNat : Int) = 60 ∧ (d.toNat : Int) = 61
      · rw [n1, n2, if_neg h1, if_neg h2]; simp [h3, outA, Sp.lO, tokA, faultA, Sp.tb]
      have n3 : (decide ((c.toNat : Int) = 60) && decide ((d.toNat : Int) = 61)) = false := by rw [Bool.and_eq_false_iff]; simp only [decide_eq_false_iff_not]; omega
      rw [n1, n2, n3, if_neg h1, if_neg h2, if_neg h3, if_neg (by simp)]
      exact one
end Go.Proofs.YtgeheffhdpeddaaDoor.VX

/- PLAIN: one token. Conditions: as each theorem states. -/
namespace Go.Proofs.YtgeheffhdpeddaaDoor.VX
open Go Go.Proofs Go.Proofs.YtgeheffhdpeddaaDoor
theorem run_take : ∀ l : List Int, Tk.run l = l.take (Tk.run l).length
  | [] => rfl
  | c :: r => by
    simp only [Tk.run]
    split
    · simp only [List.length_cons, List.take_succ_cons, List.cons.injEq, true_and]; exact run_take r
    · rfl
theorem tb_run (c : UInt8) (r : List UInt8) : Sp.tb ((c.toNat : Int) :: Tk.run (Sp.ints r)) = c :: r.take (Tk.run (Sp.ints r)).length := by
  have : (c.toNat : Int) :: Tk.run (Sp.ints r) = Sp.ints (c :: r.take (Tk.run (Sp.ints r)).length) := by
    rw [Sp.ints_cons, Sp.ints_take, ← run_take]
  rw [this, Sp.tb_ints]
theorem drop_take {s : List UInt8} {i : Nat} {x : List UInt8} (h : s.drop i = x) (k : Nat) : List.drop i (List.take (i + k) s) = x.take k := by
  rw [← h, List.drop_take]; congr 1; omega
theorem outA_lO {a : Int} {n : Nat} {k : Int} {t : List Int} {v : Int} {len : Nat} : outA (Sp.lO a n (.tok k t v len)) = .tup [.agg [.int .i64 k, .str (Sp.tb t), .int .i64 v, .int .i64 a, .int .i64 (a + len)], .agg [.int .i64 0, .int .i64 0]] := rfl
theorem token_eq (s : List UInt8) (a : Int) (h : Sp.at_ s a = true) : runA Tryd.prog (X 16) 2 37 [.str s, .int .i64 a] = some (outA (Sp.token s a)) := by
  have hat := h
  simp only [Sp.at_, Bool.and_eq_true, decide_eq_true_eq] at h
  obtain ⟨hs, h0, h1⟩ := h
  have hsb := hs
  have hs := Sp.short_lt hs
  obtain ⟨i, rfl⟩ := Int.eq_ofNat_of_zero_le h0
  have hi : i < s.length := by omega
  obtain ⟨c, r, hx⟩ : ∃ c r, s.drop i = c :: r := ⟨_, _, List.drop_eq_getElem_cons hi⟩
  obtain ⟨_, _, hd, hlen⟩ := drop_cons hx
  have et : List.drop i (List.take s.length s) = c :: r := by rw [List.take_length]; exact hx
  have er : List.drop 1 (List.take (c :: r).length (c :: r)) = r := by rw [List.take_length]; rfl
  have sh1 : Sp.short (c :: r) = true := decide_eq_true (by simp; omega)
  have sh2 : Sp.short r = true := decide_eq_true (by omega)
  generalize hR : (Tk.run (Sp.ints r)).length = R
  have hRr : Sp.run r = (R : Int) := by unfold Sp.run; rw [hR]
  have hRl : R ≤ r.length := by have := (run_rng r).2; omega
  have htok : Sp.token s (i : Int) = Sp.lO (i : Int) R (Tk.lex (c.toNat : Int) (Sp.ints r)) := by
    unfold Sp.token; rw [toNat_cast, hx, Sp.ints_cons]; show Sp.lO _ (Tk.run (Sp.ints r)).length _ = _; rw [hR]
  have hsl : ∀ k : Nat, k ≤ R → List.drop i (List.take (i + (k + 1)) s) = c :: r.take k := fun k _ => by rw [drop_take hx]; rfl
  have htb := tb_run c r
  rw [hR] at htb
  rw [e_tokens_token 0 s (i : Int), htok, le_t (a := 0) (b := (i : Int)) (by omega), le_t (a := (i : Int)) (b := (s.length : Int)) (by omega), le_t (a := (s.length : Int)) (b := (s.length : Int)) (by omega), toNat_cast, toNat_cast, et,
    lt_t (a := 0) (b := (((c :: r).length : Nat) : Int)) (by simp), List.getD_cons_zero, sh1]
  simp only [cond_true]
  unfold Tk.lex
  have esm : Tk.sm (c.toNat : Int) = Sp.sm c := rfl
  have egr : Tk.gr (c.toNat : Int) = Sp.gr c := rfl
  have edg : Tk.dg (c.toNat : Int) = Sp.dg c := rfl
  rw [esm, egr, edg]
  -- the run with which it begins
  have word : (Sp.sm c || Sp.gr c || Sp.dg c) = true → IntKind.i64.wrap ((i : Int) + Sp.run (c :: r)) = ((i + (R + 1) : Nat) : Int) := fun hc => by
    rw [run_cons, hc, hRr, wrap_id (by simp; omega) (by simp; omega)]; simp
  cases c1 : Sp.sm c with
  | true =>
    rw [word (by rw [c1]; rfl), toNat_cast, hsl R (Nat.le_refl _), le_t (a := (i : Int)) (by omega), le_t (by omega), if_pos rfl]
    simp only [cond_true]
    have e : (c :: r.take R == ([115, 97, 121, 115] : List UInt8)) = decide ((c.toNat : Int) :: Tk.run (Sp.ints r) = Tk.says) := by
      rw [Bool.eq_iff_iff, beq_iff_eq, decide_eq_true_eq, ← htb]
      have es : Tk.says = Sp.ints [115, 97, 121, 115] := by decide
      constructor
      · intro h
        have := congrArg Sp.ints h
        rw [← es] at this
        rw [← this, htb, Sp.ints_cons, Sp.ints_take, ← hR, ← run_take]
      · intro h; rw [h, es, Sp.tb_ints]
    rw [e]
    by_cases hsay : (c.toNat : Int) :: Tk.run (Sp.ints r) = Tk.says
    · have hR4 : R = 3 := by
        have := congrArg List.length hsay
        simp only [List.length_cons, hR, Tk.says, List.length_nil] at this
        omega
      rw [if_pos hsay, decide_eq_true hsay, outA_lO, hR4]; rfl
    · rw [if_neg hsay, decide_eq_false hsay, outA_lO, htb, hR]; rfl
  | false =>
  rw [if_neg (by simp)]
  simp only [cond_false]
  cases c2 : Sp.gr c with
  | true =>
    rw [word (by rw [c2]; simp), toNat_cast, hsl R (Nat.le_refl _), le_t (a := (i : Int)) (by omega), le_t (by omega), if_pos rfl, outA_lO, htb, hR]; rfl
  | false =>
  rw [if_neg (by simp)]
  simp only [cond_false]
  have ew : IntKind.i64.wrap (IntKind.i64.wrap ((i : Int) + 1) + Sp.run r) = ((i + (R + 1) : Nat) : Int) := by
    rw [hRr, wrap_id (n := (i : Int) + 1) (by omega) (by omega), wrap_id (by omega) (by omega)]; omega
  have hl := num_link (c :: r.take R)
  have hint : Sp.ints (c :: r.take R) = (c.toNat : Int) :: Tk.run (Sp.ints r) := by rw [Sp.ints_cons, Sp.ints_take, ← hR, ← run_take]
  rw [hint] at hl
  have sh3 : Sp.short (c :: r.take R) = true := decide_eq_true (by simp; omega)
  have l1 : decide ((1 : Int) ≤ (((c :: r).length : Nat) : Int)) = true := decide_eq_true (by simp; omega)
  have l2 : decide ((i : Int) ≤ ((i + (R + 1) : Nat) : Int)) = true := decide_eq_true (by omega)
  have l3 : decide (((i + (R + 1) : Nat) : Int) ≤ (s.length : Int)) = true := decide_eq_true (by omega)
  have l4 : decide ((((c :: r).length : Nat) : Int) ≤ (((c :: r).length : Nat) : Int)) = true := decide_eq_true (Int.le_refl _)
  have fin : (bif !(Tk.num ((c.toNat : Int) :: Tk.run (Sp.ints r))).isSome then some (AV.tup [.agg [.int .i64 4, .str [], .int .i64 0, .int .i64 (i : Int), .int .i64 ((i + (R + 1) : Nat) : Int)], .agg [.int .i64 45, .int .i64 (i : Int)]])
      else some (.tup [.agg [.int .i64 4, .str [], .int .i64 (Sp.numV (c :: r.take R)), .int .i64 (i : Int), .int .i64 ((i + (R + 1) : Nat) : Int)], .agg [.int .i64 0, .int .i64 0]])) =
      some (outA (Sp.lO (i : Int) R (match Tk.num ((c.toNat : Int) :: Tk.run (Sp.ints r)) with | some n => .tok 4 [] n ((Tk.run (Sp.ints r)).length + 1) | none => .bad 45 0))) := by
    cases hn : Tk.num ((c.toNat : Int) :: Tk.run (Sp.ints r)) with
    | some n => rw [hl.2 n hn, hR, outA_lO]; rfl
    | none => simp [Sp.lO, outA, tokA, faultA, Sp.tb]; omega
  cases c3 : Sp.dg c with
  | true =>
    rw [if_pos (.inl rfl)]
    refine Eq.trans ?_ fin
    rw [toNat_cast, er, ew, toNat_cast, hsl R (Nat.le_refl _), sh2, sh3, l1, l2, l3, l4, hl.1]
    rfl
  | false =>
  simp only [cond_false]
  by_cases c4 : (c.toNat : Int) = 45
  · have e : (c == 45) = true := by rw [Sp.beq_b]; exact decide_eq_true c4
    rw [e, if_pos (.inr c4)]
    refine Eq.trans ?_ fin
    rw [toNat_cast, er, ew, toNat_cast, hsl R (Nat.le_refl _), sh2, sh3, l1, l2, l3, l4, hl.1]
    rfl
  · have e : (c == 45) = false := by rw [Sp.beq_b]; exact decide_eq_false c4
    rw [e, if_neg (by simp [c4])]
    simp only [cond_false]
    by_cases c5 : (c.toNat : Int) = 34
    · have e5 : (c == 34) = true := by rw [Sp.beq_b]; exact decide_eq_true c5
      rw [e5, if_pos c5, hat]
      simp only [cond_true]
      show some (outA (Sp.quoted s (i : Int))) = _
      congr 2
      unfold Sp.quoted
      rw [toNat_cast, hd]
      cases Tk.quot 0 (Sp.ints r) with
      | ok m k => simp [Sp.qO, Sp.lO]; omega
      | bad k => simp [Sp.qO, Sp.lO]; omega
      | opn => simp [Sp.qO, Sp.lO]
    · have e5 : (c == 34) = false := by rw [Sp.beq_b]; exact decide_eq_false c5
      have ha : Sp.atE (c :: r) 0 = true := by simp [Sp.atE, sh1]; omega
      rw [e5, if_neg c5, ha, lt_t (b := 68719476736) (by omega)]
      have : Sp.signs (c :: r) (i : Int) = Sp.lO (i : Int) R (Tk.signs (c.toNat : Int) (Sp.ints r)) := by
        unfold Sp.signs
        rw [Sp.ints_cons]
        show Sp.lO _ 0 _ = _
        have : ∀ L : Tk.Lx, (∀ o, L ≠ .bad 45 o) → Sp.lO (i : Int) 0 L = Sp.lO (i : Int) R L := by
          intro L hL
          cases L with
          | tok k t v len => rfl
          | bad e o =>
            unfold Sp.lO
            have : (e == 45) = false := by rw [beq_eq_false_iff_ne]; rintro rfl; exact hL o rfl
            simp [this]
        refine this _ fun o => ?_
        unfold Tk.signs
        split <;> (try split) <;> (try split) <;> simp
      rw [← this]; rfl
theorem rowsE {W : World → Prop} (h : Wok W) : True := trivial
end Go.Proofs.YtgeheffhdpeddaaDoor.VX

/- PLAIN: a text cut into tokens. Conditions: as each theorem states. -/
namespace Go.Proofs.YtgeheffhdpeddaaDoor.VX
open Go Go.Proofs Go.Proofs.YtgeheffhdpeddaaDoor
def encC (acc : List Tk.Tok) (R : Tk.Res) : AV := .tup [toksA (bif R.e == 0 then acc ++ R.l else []), faultA R.e R.p]
theorem encC_cons (acc : List Tk.Tok) (t : Tk.Tok) (R : Tk.Res) : encC acc (R.cons t) = encC (acc ++ [t]) R := by
  unfold encC Tk.Res.cons
  by_cases h : R.e = 0
  · rw [if_pos h]; simp [h]
  · rw [if_neg h, eq_f h]; rfl
/-- A token takes room, and lies in the text. -/
theorem lex_len {c : UInt8} {r : List UInt8} {k : Int} {t : List Int} {v : Int} {len : Nat} (h : Tk.lex (c.toNat : Int) (Sp.ints r) = .tok k t v len) : 1 ≤ len ∧ len ≤ r.length + 1 := by
  have := Tk.lex_len h
  rw [Sp.ints_len] at this
  omega
theorem rem_cons (c : UInt8) (r : List UInt8) : Tk.rem (Sp.ints (c :: r)) = bif c == 10 then 0 else Tk.rem (Sp.ints r) + 1 := by
  rw [Sp.ints_cons, Sp.beq_b]
  show (if (c.toNat : Int) = 10 then 0 else _) = bif decide ((c.toNat : Int) = 10) then _ else _
  by_cases h : (c.toNat : Int) = 10
  · rw [if_pos h, decide_eq_true h]; rfl
  · rw [if_neg h, decide_eq_false h]; rfl
theorem rem_le (r : List UInt8) : Tk.rem (Sp.ints r) ≤ r.length := by have := Tk.rem_le (Sp.ints r); rwa [Sp.ints_len] at this
theorem rem_loop (s : List UInt8) (hs : s.length < 68719476736) (xs : List AV) (i3 i4 : Int) (n m0 : Nat) : ∀ (x : List UInt8) (j m1 : Nat), s.drop j = x → j ≤ s.length → x.length < m1 →
    L_tokens_Cut_3 n m0 m1 s (j : Int) xs i3 i4 = L_tokens_Cut_0 n m0 s ((j + Tk.rem (Sp.ints x) : Nat) : Int) xs i3 i4
  | [], j, m1 + 1, h, hj, _ => by
    have := drop_nil h hj
    rw [L_tokens_Cut_3_eq, lt_f (by omega)]
    simp only [cond_false, Sp.ints, Tk.rem, List.map_nil, Nat.add_zero]
  | c :: x, j, m1 + 1, h, _, hm => by
    obtain ⟨h1, h2, h3, h4⟩ := drop_cons h
    have ih := rem_loop s hs xs i3 i4 n m0 x (j + 1) m1 h3 (by omega) (by simp at hm; omega)
    have ew : IntKind.i64.wrap ((j : Int) + 1) = ((j + 1 : Nat) : Int) := by rw [wrap_id (by omega) (by omega)]; rfl
    rw [L_tokens_Cut_3_eq, lt_t (by omega), le_t (by omega), toNat_cast, h2, ew, ih, rem_cons]
    have e : (c != 10) = !(c == 10) := rfl
    rw [e]
    cases c == 10 with
    | true => simp only [cond_true, cond_false, Bool.not_true, Nat.add_zero]
    | false =>
      simp only [cond_true, cond_false, Bool.not_false]
      rw [show j + (Tk.rem (Sp.ints x) + 1) = j + 1 + Tk.rem (Sp.ints x) by omega]
theorem drop_more {s r : List UInt8} {i : Nat} (h : s.drop (i + 1) = r) (k : Nat) : s.drop (i + (k + 1)) = r.drop k := by
  subst h
  rw [List.drop_drop, show i + 1 + k = i + (k + 1) by omega]
theorem cut_loop (s : List UInt8) (hs : s.length < 68719476736) (i3 i4 : Int) (n : Nat) (hn : s.length ≤ n) : ∀ (d : Nat) (r : List UInt8) (i m : Nat) (acc : List Tk.Tok), r.length ≤ d → s.drop i = r → i ≤ s.length → acc.length ≤ i → r.length < m →
    L_tokens_Cut_0 n m s (i : Int) (acc.map tokA) i3 i4 = some (encC acc (Tk.cut 0 (i : Int) (Sp.ints r))) := by
  intro d
  induction d with
  | zero =>
    intro r i m acc hd h hi hl hm
    obtain rfl : r = [] := List.length_eq_zero_iff.mp (by omega)
    obtain ⟨m, rfl⟩ : ∃ k, m = k + 1 := ⟨m - 1, by omega⟩
    have := drop_nil h hi
    rw [L_tokens_Cut_0_eq, lt_f (by omega)]
    simp [encC, toksA, faultA, Sp.ints, Tk.cut]
  | succ d ih =>
    intro r i m acc hd h hi hl hm
    obtain ⟨m, rfl⟩ : ∃ k, m = k + 1 := ⟨m - 1, by omega⟩
    cases r with
    | nil =>
      have := drop_nil h hi
      rw [L_tokens_Cut_0_eq, lt_f (by omega)]
      simp [encC, toksA, faultA, Sp.ints, Tk.cut]
    | cons c r =>
      have hc := h
      obtain ⟨h1, h2, h3, h4⟩ := drop_cons h
      simp only [List.length_cons] at hd hm
      have ew : IntKind.i64.wrap ((i : Int) + 1) = ((i + 1 : Nat) : Int) := by rw [wrap_id (by omega) (by omega)]; rfl
      have hat : Sp.at_ s (i : Int) = true := by
        have : Sp.short s = true := decide_eq_true hs
        simp [Sp.at_, this]; omega
      have hr := rem_loop s hs (acc.map tokA) i3 i4 n m (c :: r) i (n + 1) hc (by omega) (by simp; omega)
      rw [L_tokens_Cut_0_eq, lt_t (by omega), le_t (by omega), toNat_cast, h2, ew, hat, hr, rem_cons, room_t (n := (acc.map tokA).length + 1) (by simp; omega) (by decide), Sp.ints_cons]
      simp only [cond_true, Sp.beq_b]
      by_cases c1 : (c.toNat : Int) = 37
      · have e : decide ((c.toNat : Int) = ((37 : UInt8).toNat : Int)) = true := decide_eq_true c1
        have e10 : decide ((c.toNat : Int) = ((10 : UInt8).toNat : Int)) = false := decide_eq_false (by rw [c1]; decide)
        have hle := rem_le r
        have hdr : s.drop (i + (Tk.rem (Sp.ints r) + 1)) = r.drop (Tk.rem (Sp.ints r)) := drop_more h3 _
        have := ih (r.drop (Tk.rem (Sp.ints r))) (i + (Tk.rem (Sp.ints r) + 1)) m acc (by simp; omega) hdr (by omega) (by omega) (by simp; omega)
        rw [e, e10, c1, Tk.cut_rem, ← Sp.ints_drop]
        simp only [cond_true, cond_false]
        have e5 : (i : Int) + 1 + (Tk.rem (Sp.ints r) : Int) = ((i + (Tk.rem (Sp.ints r) + 1) : Nat) : Int) := by omega
        rw [e5, ← this]
      have e37 : decide ((c.toNat : Int) = ((37 : UInt8).toNat : Int)) = false := decide_eq_false c1
      rw [e37]
      simp only [cond_false]
      by_cases cb : Tk.bl (c.toNat : Int) = true
      · have := ih r (i + 1) m acc (by omega) h3 (by omega) (by omega) (by omega)
        rw [Tk.cut_bl _ cb, show (i : Int) + 1 = ((i + 1 : Nat) : Int) by omega, ← this]
        unfold Tk.bl at cb
        simp only [Bool.or_eq_true, decide_eq_true_eq] at cb
        by_cases k1 : (c.toNat : Int) = 32
        · rw [show decide ((c.toNat : Int) = ((32 : UInt8).toNat : Int)) = true from decide_eq_true k1]; simp only [cond_true, cond_false]
        rw [show decide ((c.toNat : Int) = ((32 : UInt8).toNat : Int)) = false from decide_eq_false k1]
        by_cases k2 : (c.toNat : Int) = 9
        · rw [show decide ((c.toNat : Int) = ((9 : UInt8).toNat : Int)) = true from decide_eq_true k2]; simp only [cond_true, cond_false]
        rw [show decide ((c.toNat : Int) = ((9 : UInt8).toNat : Int)) = false from decide_eq_false k2]
        by_cases k3 : (c.toNat : Int) = 13
        · rw [show decide ((c.toNat : Int) = ((13 : UInt8).toNat : Int)) = true from decide_eq_true k3]; simp only [cond_true, cond_false]
        rw [show decide ((c.toNat : Int) = ((13 : UInt8).toNat : Int)) = false from decide_eq_false k3]
        have k4 : (c.toNat : Int) = 10 := by omega
        rw [show decide ((c.toNat : Int) = ((10 : UInt8).toNat : Int)) = true from decide_eq_true k4]; simp only [cond_true, cond_false]
      · have cb : Tk.bl (c.toNat : Int) = false := Bool.not_eq_true _ ▸ cb
        have cb' := cb
        unfold Tk.bl at cb'
        simp only [Bool.or_eq_false_iff, decide_eq_false_iff_not] at cb'
        obtain ⟨⟨⟨k1, k2⟩, k4⟩, k3⟩ := cb'
        rw [show decide ((c.toNat : Int) = ((32 : UInt8).toNat : Int)) = false from decide_eq_false k1, show decide ((c.toNat : Int) = ((9 : UInt8).toNat : Int)) = false from decide_eq_false k2,
          show decide ((c.toNat : Int) = ((13 : UInt8).toNat : Int)) = false from decide_eq_false k3, show decide ((c.toNat : Int) = ((10 : UInt8).toNat : Int)) = false from decide_eq_false k4]
        have htok : Sp.token s (i : Int) = Sp.lO (i : Int) (Tk.run (Sp.ints r)).length (Tk.lex (c.toNat : Int) (Sp.ints r)) := by
          unfold Sp.token; rw [toNat_cast, hc, Sp.ints_cons]; rfl
        rw [htok]
        simp only [cond_false]
        cases hx : Tk.lex (c.toNat : Int) (Sp.ints r) with
        | bad e off =>
          have he : e ≠ 0 := by have := (Tk.lex_off hx).2; omega
          have : (e != 0) = true := by rw [bne_iff_ne]; exact he
          have e2 : (e == 0) = false := eq_f he
          rw [Tk.cut_bad _ cb c1 hx]
          simp only [Sp.lO, this, cond_true, encC, e2, cond_false, toksA, faultA, List.map_nil]
        | tok k t v len =>
          obtain ⟨g1, g2⟩ := lex_len hx
          have hdr : s.drop (i + len) = r.drop (len - 1) := by have := drop_more h3 (len - 1); rwa [show i + (len - 1 + 1) = i + len by omega] at this
          have := ih (r.drop (len - 1)) (i + len) m (acc ++ [⟨k, t, v, (i : Int), (i : Int) + len⟩]) (by simp; omega) hdr (by omega) (by simp; omega) (by simp; omega)
          have ex : ((c.toNat : Int) :: Sp.ints r).drop len = Sp.ints (r.drop (len - 1)) := by
            rw [← Sp.ints_cons, ← Sp.ints_drop]
            obtain ⟨k, rfl⟩ : ∃ k, len = k + 1 := ⟨len - 1, by omega⟩
            rfl
          rw [Tk.cut_tok _ cb c1 hx, encC_cons, ex]
          have ec : (i : Int) + len = ((i + len : Nat) : Int) := by omega
          rw [ec] at this ⊢
          rw [List.map_append] at this
          rw [← this]
          simp only [Sp.lO, cond_true, cond_false, bne_self_eq_false, List.map_cons, List.map_nil, tokA, ec]
theorem cut_eq (s : List UInt8) (most : Int) (hs : Sp.short s = true) : ∃ n, runA Tryd.prog (X 17) n 18 [.str s, .int .i64 most] = some (.tup [toksA (Sp.cutL s most), faultA (Sp.cut s most).e (Sp.cut s most).p]) := by
  have hs := Sp.short_lt hs
  refine ⟨s.length + 2 + 2, ?_⟩
  rw [e_tokens_Cut (s.length + 2) s most]
  unfold Sp.cutL Sp.cut Tk.Cut
  rw [Sp.ints_len]
  by_cases h : most < (s.length : Int)
  · rw [gt_t h, if_pos h]; rfl
  · rw [gt_f (by omega), if_neg h]
    have := cut_loop s hs 0 0 (s.length + 2) (by omega) s.length s 0 (s.length + 2 + 1) [] (Nat.le_refl _) rfl (Nat.zero_le _) (by simp) (by omega)
    simpa [encC] using this
end Go.Proofs.YtgeheffhdpeddaaDoor.VX

/- PLAIN: spellings, what must stand apart. Conditions: as each theorem states. -/
namespace Go.Proofs.YtgeheffhdpeddaaDoor.VX
open Go Go.Proofs Go.Proofs.YtgeheffhdpeddaaDoor
theorem spelling_eq (k : Int) : runA Tryd.prog (X 18) 2 180 [.int .i64 k] = some (.str (Sp.signOf k)) := by
  by_cases h : 5 ≤ k ∧ k ≤ 16
  · have : k = 5 ∨ k = 6 ∨ k = 7 ∨ k = 8 ∨ k = 9 ∨ k = 10 ∨ k = 11 ∨ k = 12 ∨ k = 13 ∨ k = 14 ∨ k = 15 ∨ k = 16 := by omega
    rcases this with rfl | rfl | rfl | rfl | rfl | rfl | rfl | rfl | rfl | rfl | rfl | rfl <;> (rw [e_tokens_spelling 0]; rfl)
  · rw [e_tokens_spelling 0 k]
    have e : Sp.signOf k = [] := by
      unfold Sp.signOf
      have : (decide (5 ≤ k) && decide (k ≤ 16)) = false := by rw [Bool.and_eq_false_iff]; simp only [decide_eq_false_iff_not]; omega
      rw [this]; rfl
    rw [e]
    by_cases h1 : k < 5
    · rw [lt_t h1]; rfl
    · rw [lt_f (by omega), gt_t (by omega)]; rfl
theorem vari_eq (s : List UInt8) : Tk.vari (Sp.ints s) = (match s with | [] => false | c :: _ => bif Sp.gr c then Sp.run s == (s.length : Int) else false) := by
  cases s with
  | nil => rfl
  | cons c r =>
    rw [Sp.ints_cons]
    simp only [Tk.vari]
    have hl : ∀ l : List Int, (Tk.run l).length ≤ l.length ∧ ((Tk.run l).length = l.length ↔ Tk.run l = l) := by
      intro l
      induction l with
      | nil => simp [Tk.run]
      | cons a l ih =>
        simp only [Tk.run]
        split
        · simp only [List.length_cons, List.cons.injEq, true_and]; exact ⟨by omega, by rw [← ih.2]; omega⟩
        · simp
    have e1 : Tk.gr (c.toNat : Int) = Sp.gr c := rfl
    rw [e1]
    cases hc : Sp.gr c with
    | false => rfl
    | true =>
      rw [run_cons, hc]
      simp only [Bool.or_true, Bool.true_or, cond_true, Bool.true_and]
      rw [Bool.eq_iff_iff, beq_iff_eq, decide_eq_true_eq, ← (hl (Sp.ints r)).2, Sp.ints_len]
      unfold Sp.run
      simp only [List.length_cons]; omega
theorem ints_nil_iff (s : List UInt8) : Sp.ints s = [] ↔ s = [] := by cases s <;> simp [Sp.ints]
theorem sign_ne (k : Int) : (Sp.signOf k == []) = !(decide (5 ≤ k) && decide (k ≤ 16)) := by
  by_cases h : 5 ≤ k ∧ k ≤ 16
  · have : k = 5 ∨ k = 6 ∨ k = 7 ∨ k = 8 ∨ k = 9 ∨ k = 10 ∨ k = 11 ∨ k = 12 ∨ k = 13 ∨ k = 14 ∨ k = 15 ∨ k = 16 := by omega
    rcases this with rfl | rfl | rfl | rfl | rfl | rfl | rfl | rfl | rfl | rfl | rfl | rfl <;> rfl
  · have : (decide (5 ≤ k) && decide (k ≤ 16)) = false := by rw [Bool.and_eq_false_iff]; simp only [decide_eq_false_iff_not]; omega
    unfold Sp.signOf
    rw [this]; rfl
def spP (k : Int) (s : List UInt8) (v : Int) : List UInt8 × Bool := (Sp.spT k s v, Sp.spOk k s v)
theorem sp1 (s : List UInt8) (v : Int) : spP 1 s v = bif v == 0 then bif Sp.word s then (s, true) else ([], false) else ([], false) := by
  unfold spP Sp.spT Sp.spOk Tk.spell
  have ew : Tk.word (Sp.ints s) = Sp.word s := rfl
  rw [if_pos rfl, ew]
  by_cases h : v = 0
  · subst h
    cases hw : Sp.word s with
    | true => rw [if_pos ⟨rfl, rfl⟩]; simp [Sp.tb_ints]
    | false => rw [if_neg (by simp)]; rfl
  · rw [if_neg (fun x => h x.1), eq_f h]; rfl
theorem sp2 (s : List UInt8) (v : Int) : spP 2 s v = bif v == 0 then bif Tk.vari (Sp.ints s) then (s, true) else ([], false) else ([], false) := by
  unfold spP Sp.spT Sp.spOk Tk.spell
  rw [if_neg (by decide), if_pos rfl]
  by_cases h : v = 0
  · subst h
    cases hw : Tk.vari (Sp.ints s) with
    | true => rw [if_pos ⟨rfl, rfl⟩]; simp [Sp.tb_ints]
    | false => rw [if_neg (by simp)]; rfl
  · rw [if_neg (fun x => h x.1), eq_f h]; rfl
theorem sp3 (s : List UInt8) (v : Int) : spP 3 s v = bif v == 0 then (Sp.quote s, true) else ([], false) := by
  unfold spP Sp.spT Sp.spOk Tk.spell
  rw [if_neg (by decide), if_neg (by decide), if_pos rfl]
  by_cases h : v = 0
  · subst h; rw [if_pos rfl]; rfl
  · rw [if_neg h, eq_f h]; rfl
theorem sp4 (s : List UInt8) (v : Int) (hv : Sp.i64 v = true) : spP 4 s v = bif s == [] then (Sp.itoa v, true) else ([], false) := by
  unfold spP Sp.spT Sp.spOk Tk.spell
  rw [if_neg (by decide), if_neg (by decide), if_neg (by decide), if_pos rfl]
  cases s with
  | nil => rw [if_pos (show Sp.ints [] = [] from rfl), itoa_tb v hv]; rfl
  | cons c r => rw [if_neg (by simp [Sp.ints])]; rfl
theorem sp5 (k : Int) (s : List UInt8) (v : Int) (h1 : k ≠ 1) (h2 : k ≠ 2) (h3 : k ≠ 3) (h4 : k ≠ 4) : spP k s v = bif (s == []) && (v == 0) then bif Sp.signOf k == [] then ([], false) else (Sp.signOf k, true) else ([], false) := by
  unfold spP Sp.spT Sp.spOk Tk.spell
  rw [if_neg h1, if_neg h2, if_neg h3, if_neg h4, sign_ne]
  by_cases h : 5 ≤ k ∧ k ≤ 16
  · have e : (decide (5 ≤ k) && decide (k ≤ 16)) = true := by rw [decide_eq_true h.1, decide_eq_true h.2]; rfl
    rw [if_pos h, e]
    cases s with
    | nil =>
      by_cases hv : v = 0
      · subst hv; rw [if_pos ⟨rfl, rfl⟩]; unfold Sp.signOf; rw [e]; rfl
      · rw [if_neg (fun x => hv x.2), eq_f hv]; rfl
    | cons c r => rw [if_neg (by simp [Sp.ints])]; rfl
  · have e : (decide (5 ≤ k) && decide (k ≤ 16)) = false := by rw [Bool.and_eq_false_iff]; simp only [decide_eq_false_iff_not]; omega
    rw [if_neg h, e]
    cases ((s == []) && (v == 0)) <;> rfl
theorem spell_eq (k v a b : Int) (s : List UInt8) (hs : Sp.short s = true) (hv : Sp.i64 v = true) : runA Tryd.prog (X 20) 2 177 [.agg [.int .i64 k, .str s, .int .i64 v, .int .i64 a, .int .i64 b]] = some (.tup [.str (Sp.spT k s v), .bool (Sp.spOk k s v)]) := by
  have key : ∀ p : List UInt8 × Bool, spP k s v = p → some (AV.tup [.str p.1, .bool p.2]) = some (.tup [.str (Sp.spT k s v), .bool (Sp.spOk k s v)]) := by
    rintro _ rfl; rfl
  rw [e_tokens_Spell 0 k v a b s, hs, hv]
  by_cases h1 : k = 1
  · subst h1
    rw [← key _ (sp1 s v)]
    cases (s == []) <;> cases (v == 0) <;> cases Sp.word s <;> rfl
  by_cases h2 : k = 2
  · subst h2
    rw [← key _ (sp2 s v)]
    cases s with
    | nil => cases (v == 0) <;> rfl
    | cons c r =>
      have e1 : ((c :: r) == ([] : List UInt8)) = false := rfl
      have e2 : Tk.vari (Sp.ints (c :: r)) = bif Sp.gr c then Sp.run (c :: r) == (((c :: r).length : Nat) : Int) else false := vari_eq (c :: r)
      rw [e2, e1, lt_t (a := 0) (by simp), List.getD_cons_zero]
      cases (v == 0) <;> cases Sp.gr c <;> cases (Sp.run (c :: r) == (((c :: r).length : Nat) : Int)) <;> rfl
  by_cases h3 : k = 3
  · subst h3
    rw [← key _ (sp3 s v)]
    cases (s == []) <;> cases (v == 0) <;> rfl
  by_cases h4 : k = 4
  · subst h4
    rw [← key _ (sp4 s v hv)]
    cases (s == []) <;> rfl
  rw [← key _ (sp5 k s v h1 h2 h3 h4), eq_f h1, eq_f h2, eq_f h3, eq_f h4]
  cases (s == []) <;> cases (v == 0) <;> cases (Sp.signOf k == []) <;> rfl
end Go.Proofs.YtgeheffhdpeddaaDoor.VX
