/-
  PLAIN: numbers and their decimal digits; spellings are read as their tokens, and tokens that are read have spellings. Conditions: none.
-/
import Derived.Test.YtmpaipbpnkfmfaaTokA
namespace Go.Proofs.Ytmpaipbpnkfmfaa.Tk

theorem decN_acc : ∀ (f n : Nat) (acc : List Int), decN f n acc = decN f n [] ++ acc := by
  intro f
  induction f with
  | zero => intro n acc; rfl
  | succ f ih =>
    intro n acc
    simp only [decN]
    split
    · rfl
    · rw [ih _ (_ :: acc), ih _ [_], List.append_assoc]; rfl

theorem decN_step (f n : Nat) (h : ¬ n < 10) : decN (f + 1) n [] = decN f (n / 10) [] ++ [48 + ((n % 10 : Nat) : Int)] := by
  simp only [decN, if_neg h]; rw [decN_acc]
theorem decN_one (f n : Nat) (h : n < 10) : decN (f + 1) n [] = [48 + (n : Int)] := by simp only [decN, if_pos h]

theorem val_acc (l : List Int) (d : Int) : ∀ a, val a (l ++ [d]) = 10 * val a l + (d - 48).toNat := by
  induction l with
  | nil => intro a; rfl
  | cons c r ih => intro a; simp only [List.cons_append, val]; exact ih _

theorem alld_append (a b : List Int) : alld (a ++ b) = (alld a && alld b) := by
  induction a with
  | nil => simp [alld]
  | cons c r ih => simp only [List.cons_append, alld, ih, Bool.and_assoc]

theorem alld_run (l : List Int) (h : alld l = true) : run l = l := by
  induction l with
  | nil => rfl
  | cons c r ih =>
    simp only [alld, Bool.and_eq_true] at h
    have : rn c = true := by simp [rn, h.1]
    simp only [run, this, if_true, ih h.2]

theorem dg_iff (c : Int) : dg c = true ↔ 48 ≤ c ∧ c ≤ 57 := by simp [dg]

theorem decN_val : ∀ (f n : Nat), n < 10 ^ f → 0 < f → ∃ c r, decN f n [] = c :: r ∧ alld (c :: r) = true ∧ val 0 (c :: r) = n ∧ (n ≠ 0 → c ≠ 48) := by
  intro f
  induction f with
  | zero => intro n _ h; omega
  | succ f ih =>
    intro n hn _
    by_cases h : n < 10
    · refine ⟨48 + (n : Int), [], decN_one f n h, ?_, ?_, ?_⟩
      · simp [alld, dg]; omega
      · simp only [val]; omega
      · omega
    · have hf : 0 < f := by
        rcases Nat.eq_zero_or_pos f with h0 | h0
        · subst h0; simp at hn; omega
        · exact h0
      obtain ⟨c, r, e1, e2, e3, e4⟩ := ih (n / 10) (by rw [Nat.pow_succ] at hn; exact Nat.div_lt_of_lt_mul (by rw [Nat.mul_comm]; exact hn)) hf
      refine ⟨c, r ++ [48 + ((n % 10 : Nat) : Int)], by rw [decN_step f n h, e1]; rfl, ?_, ?_, fun _ => e4 (by omega)⟩
      · rw [← List.cons_append, alld_append, e2]; simp [alld, dg]; omega
      · rw [← List.cons_append, val_acc, e3]; omega

theorem snoc_ind {P : List Int → Prop} (h0 : P []) (h1 : ∀ l d, P l → P (l ++ [d])) (l : List Int) : P l := by
  have : ∀ m : List Int, P m.reverse := by
    intro m
    induction m with
    | nil => exact h0
    | cons d m ih => rw [List.reverse_cons]; exact h1 _ _ ih
  have h := this l.reverse
  rwa [List.reverse_reverse] at h

theorem val_pos (c : Int) (r : List Int) (h : alld (c :: r) = true) (hc : c ≠ 48) : 1 ≤ val 0 (c :: r) := by
  have key : ∀ (l : List Int) (a : Nat), 1 ≤ a → 1 ≤ val a l := by
    intro l
    induction l with
    | nil => intro a h; exact h
    | cons c r ih => intro a h; simp only [val]; exact ih _ (by omega)
  simp only [alld, Bool.and_eq_true, dg_iff] at h
  simp only [val]
  exact key r _ (by omega)

theorem val_decN : ∀ (l : List Int) (f : Nat), alld l = true → l ≠ [] → l.head? ≠ some 48 → val 0 l < 10 ^ f → decN f (val 0 l) [] = l := by
  intro l
  refine snoc_ind (P := fun l => ∀ f, alld l = true → l ≠ [] → l.head? ≠ some 48 → val 0 l < 10 ^ f → decN f (val 0 l) [] = l) ?_ ?_ l
  · intro f _ h; exact absurd rfl h
  · intro l d ih f ha _ hh hv
    rw [alld_append, Bool.and_eq_true] at ha
    have hd : 48 ≤ d ∧ d ≤ 57 := by simpa [alld, dg] using ha.2
    cases l with
    | nil =>
      simp only [List.nil_append, List.head?_cons, ne_eq, Option.some.injEq] at hh
      simp only [List.nil_append, val] at hv ⊢
      cases f with
      | zero => simp at hv; omega
      | succ f =>
        rw [decN_one _ _ (by omega)]
        congr 1
        omega
    | cons c r =>
      have hc : c ≠ 48 := by simpa using hh
      have hp := val_pos c r ha.1 hc
      rw [val_acc] at hv ⊢
      cases f with
      | zero => simp at hv; omega
      | succ f =>
        have h1 : (10 * val 0 (c :: r) + (d - 48).toNat) / 10 = val 0 (c :: r) := by omega
        have h2 : (10 * val 0 (c :: r) + (d - 48).toNat) % 10 = (d - 48).toNat := by omega
        rw [decN_step _ _ (by omega), h1, h2, ih f ha.1 (by simp) (by simpa using hc) (by rw [Nat.pow_succ] at hv; omega)]
        congr 2
        omega

theorem nat?_some {l : List Int} {v : Nat} (h : nat? l = some v) : alld l = true ∧ l ≠ [] ∧ l.head? ≠ some 48 ∧ val 0 l = v ∧ 1 ≤ v := by
  unfold nat? at h
  cases l with
  | nil => simp at h
  | cons c r =>
    simp only at h
    split at h
    · simp at h
    · rename_i hc
      split at h
      · rename_i ha
        simp only [Option.some.injEq] at h
        have ha' : alld (c :: r) = true := ha
        refine ⟨ha', by simp, by simpa using hc, h, ?_⟩
        rw [← h]; exact val_pos c r ha' hc
      · simp at h

theorem nat?_decN (f n : Nat) (hn : n < 10 ^ f) (hf : 0 < f) (h0 : n ≠ 0) : nat? (decN f n []) = some n := by
  obtain ⟨c, r, e1, e2, e3, e4⟩ := decN_val f n hn hf
  rw [e1]
  unfold nat?
  have e2' : (dg c && alld r) = true := e2
  simp only [if_neg (e4 h0), e2', if_true, e3]

theorem num_inv {w : List Int} {n : Int} (h : num w = some n) : dec n = w ∧ -9223372036854775808 ≤ n ∧ n ≤ 9223372036854775807 := by
  unfold num at h
  split at h
  · rename_i hw
    simp only [Option.some.injEq] at h
    subst h; subst hw
    exact ⟨rfl, by omega, by omega⟩
  · cases w with
    | nil => simp at h
    | cons c r =>
      simp only at h
      split at h
      · rename_i hc
        cases hv : nat? r with
        | none => simp [hv] at h
        | some v =>
          simp only [hv] at h
          split at h
          · rename_i hle
            simp only [Option.some.injEq] at h
            obtain ⟨a1, a2, a3, a4, a5⟩ := nat?_some hv
            subst h
            refine ⟨?_, by omega, by omega⟩
            unfold dec
            rw [if_pos (by omega), show (-(v : Int)).natAbs = v from by omega, ← a4, val_decN r 20 a1 a2 a3 (by rw [a4]; omega), hc]
          · simp at h
      · cases hv : nat? (c :: r) with
        | none => simp [hv] at h
        | some v =>
          simp only [hv] at h
          split at h
          · rename_i hle
            simp only [Option.some.injEq] at h
            obtain ⟨a1, a2, a3, a4, a5⟩ := nat?_some hv
            subst h
            refine ⟨?_, by omega, by omega⟩
            unfold dec
            rw [if_neg (by omega), show ((v : Int)).natAbs = v from by omega, ← a4, val_decN (c :: r) 20 a1 a2 a3 (by rw [a4]; omega)]
          · simp at h

theorem num_dec {n : Int} (h1 : -9223372036854775808 ≤ n) (h2 : n ≤ 9223372036854775807) : num (dec n) = some n := by
  by_cases h0 : n = 0
  · subst h0; rfl
  · unfold dec
    split
    · rename_i hn
      have hv := nat?_decN 20 n.natAbs (by omega) (by omega) (by omega)
      unfold num
      rw [if_neg (by simp)]
      simp only [if_true, hv]
      rw [if_pos (by omega)]
      congr 1
      omega
    · rename_i hn
      have hv := nat?_decN 20 n.natAbs (by omega) (by omega) (by omega)
      obtain ⟨c, r, e1, e2, e3, e4⟩ := decN_val 20 n.natAbs (by omega) (by omega)
      rw [e1] at hv ⊢
      have hc : 48 ≤ c ∧ c ≤ 57 := by
        simp only [alld, Bool.and_eq_true, dg_iff] at e2; exact e2.1
      unfold num
      rw [if_neg (by intro h; simp only [List.cons.injEq] at h; exact e4 (by omega) h.1)]
      simp only [if_neg (show ¬ c = 45 by omega), hv]
      rw [if_pos (by omega)]
      congr 1
      omega

/-- the form of a number's digits -/
theorem dec_form {n : Int} (h1 : -9223372036854775808 ≤ n) (h2 : n ≤ 9223372036854775807) : ∃ c r, dec n = c :: r ∧ run r = r ∧ (dg c = true ∨ c = 45) ∧ (0 ≤ n → dg c = true) ∧ (n < 0 → c = 45) ∧ r.length ≤ 20 := by
  have key : ∀ f n, n < 10 ^ f → 0 < f → (decN f n []).length ≤ f := by
    intro f
    induction f with
    | zero => intro n _ h; omega
    | succ f ih =>
      intro n hn _
      by_cases h : n < 10
      · rw [decN_one _ _ h]; simp
      · have hf : 0 < f := by
          rcases Nat.eq_zero_or_pos f with h0 | h0
          · subst h0; simp at hn; omega
          · exact h0
        rw [decN_step _ _ h]
        have := ih (n / 10) (by rw [Nat.pow_succ] at hn; exact Nat.div_lt_of_lt_mul (by rw [Nat.mul_comm]; exact hn)) hf
        simp only [List.length_append, List.length_cons, List.length_nil]; omega
  obtain ⟨c, r, e1, e2, e3, e4⟩ := decN_val 20 n.natAbs (by omega) (by omega)
  have hl := key 20 n.natAbs (by omega) (by omega)
  unfold dec
  split
  · rename_i hn
    refine ⟨45, decN 20 n.natAbs [], rfl, ?_, .inr rfl, fun h => by omega, fun _ => rfl, hl⟩
    rw [e1]; exact alld_run _ e2
  · have e2' := e2
    simp only [alld, Bool.and_eq_true] at e2'
    refine ⟨c, r, e1, alld_run _ e2'.2, .inl e2'.1, fun _ => e2'.1, fun h => by omega, ?_⟩
    rw [e1] at hl; simp only [List.length_cons] at hl; omega

/-! ### quoted texts -/
def bytes (l : List Int) : Prop := ∀ c ∈ l, 0 ≤ c ∧ c ≤ 255

theorem hx_dig (x : Int) (h : 0 ≤ x ∧ x ≤ 15) : hx (dig x) = x := by
  have : x = 0 ∨ x = 1 ∨ x = 2 ∨ x = 3 ∨ x = 4 ∨ x = 5 ∨ x = 6 ∨ x = 7 ∨ x = 8 ∨ x = 9 ∨ x = 10 ∨ x = 11 ∨ x = 12 ∨ x = 13 ∨ x = 14 ∨ x = 15 := by omega
  rcases this with rfl | rfl | rfl | rfl | rfl | rfl | rfl | rfl | rfl | rfl | rfl | rfl | rfl | rfl | rfl | rfl <;> rfl
theorem hx_bd (c : Int) : -1 ≤ hx c ∧ hx c ≤ 15 := by
  unfold hx
  split
  · rename_i h; rw [dg_iff] at h; omega
  · split
    · omega
    · split <;> omega

theorem quot_byte (c : Int) (hc : 0 ≤ c ∧ c ≤ 255) (b : List Int) : quot 0 (qbyte c ++ b) = ((quot 0 b).put c).far (qbyte c).length := by
  have far1 : ∀ q : Qr, q.far 1 = q.adv := fun q => by cases q <;> rfl
  unfold qbyte
  split
  · rename_i h
    have he : esc (c :: b) = (c, 1) := by simp only [esc, if_pos h]
    simp only [List.cons_append, List.nil_append, quot, he]
    rw [if_neg (by decide), if_pos trivial, if_neg (by decide)]
    cases quot 0 b <;> rfl
  · rename_i h
    split
    · rename_i h10; subst h10
      have he : esc (110 :: b) = (10, 1) := rfl
      simp only [List.cons_append, List.nil_append, quot, he]
      rw [if_neg (by decide), if_pos trivial, if_neg (by decide)]
      cases quot 0 b <;> rfl
    · split
      · rename_i h9; subst h9
        have he : esc (116 :: b) = (9, 1) := rfl
        simp only [List.cons_append, List.nil_append, quot, he]
        rw [if_neg (by decide), if_pos trivial, if_neg (by decide)]
        cases quot 0 b <;> rfl
      · split
        · simp only [List.cons_append, List.nil_append, quot]
          rw [if_neg (by omega), if_neg (by omega), if_neg (by omega)]
          cases quot 0 b <;> rfl
        · have h1 := hx_dig (c / 16) (by omega)
          have h2 := hx_dig (c % 16) (by omega)
          have he : esc (120 :: dig (c / 16) :: dig (c % 16) :: b) = (c, 3) := by
            simp only [esc]
            rw [if_neg (by decide), if_neg (by decide), if_neg (by decide), if_pos trivial, if_pos (by omega), h1, h2]
            congr 1
            omega
          simp only [List.cons_append, List.nil_append, quot, he]
          rw [if_neg (by decide), if_pos trivial, if_neg (by decide)]
          cases quot 0 b <;> rfl

theorem quot_body (s : List Int) (hs : bytes s) (b : List Int) : quot 0 (qbody s ++ 34 :: b) = .ok s ((qbody s).length + 1) := by
  induction s with
  | nil => simp [qbody, quot]
  | cons c r ih =>
    simp only [qbody, List.append_assoc]
    rw [quot_byte c (hs c (by simp)), ih (fun x hx => hs x (by simp [hx]))]
    simp only [Qr.put, Qr.far, List.length_append, Qr.ok.injEq, true_and]
    omega

theorem qbyte_le (c : Int) : (qbyte c).length ≤ 4 := by
  unfold qbyte
  split
  · simp
  · split
    · simp
    · split
      · simp
      · split <;> simp
theorem qbody_le (s : List Int) : (qbody s).length ≤ 4 * s.length := by
  induction s with
  | nil => simp [qbody]
  | cons c r ih => have := qbyte_le c; simp only [qbody, List.length_append, List.length_cons]; omega
theorem quote_len (s : List Int) : (quote s).length = (qbody s).length + 2 := by simp [quote]

theorem quot_bytes : ∀ (r : List Int) (k : Nat) (m : List Int) (n : Nat), bytes r → quot k r = .ok m n → bytes m := by
  intro r
  induction r with
  | nil => intro k m n _ h; cases k <;> simp [quot] at h
  | cons c r ih =>
    intro k m n hb h
    have hb' : bytes r := fun x hx => hb x (by simp [hx])
    cases k with
    | succ k =>
      simp only [quot] at h
      cases hq : quot k r with
      | ok m' n' => rw [hq] at h; simp only [Qr.adv, Qr.ok.injEq] at h; rw [← h.1]; exact ih _ _ _ hb' hq
      | bad n' => rw [hq] at h; simp [Qr.adv] at h
      | opn => rw [hq] at h; simp [Qr.adv] at h
    | zero =>
      simp only [quot] at h
      split at h
      · simp only [Qr.ok.injEq] at h; rw [← h.1]; intro x hx; simp at hx
      · split at h
        · split at h
          · simp at h
          · cases hq : quot (esc r).2 r with
            | ok m' n' =>
              rw [hq] at h; simp only [Qr.put, Qr.adv, Qr.ok.injEq] at h
              have he : 0 ≤ (esc r).1 ∧ (esc r).1 ≤ 255 := by
                rcases esc_cases r with e | ⟨c, x, _, hc, e⟩ | ⟨x, _, e⟩ | ⟨x, _, e⟩ | ⟨a, d, x, _, ha, hd, e⟩ <;> rw [e] <;> simp only
                · omega
                · omega
                · omega
                · omega
                · have := hx_bd a; have := hx_bd d; omega
              rw [← h.1]
              intro x hx
              rcases List.mem_cons.1 hx with rfl | hx
              · exact he
              · exact ih _ _ _ hb' hq x hx
            | bad n' => rw [hq] at h; simp [Qr.put, Qr.adv] at h
            | opn => rw [hq] at h; simp [Qr.put, Qr.adv] at h
        · split at h
          · simp at h
          · cases hq : quot 0 r with
            | ok m' n' =>
              rw [hq] at h; simp only [Qr.put, Qr.adv, Qr.ok.injEq] at h
              rw [← h.1]
              intro x hx
              rcases List.mem_cons.1 hx with rfl | hx
              · exact hb _ (by simp)
              · exact ih _ _ _ hb' hq x hx
            | bad n' => rw [hq] at h; simp [Qr.put, Qr.adv] at h
            | opn => rw [hq] at h; simp [Qr.put, Qr.adv] at h

end Go.Proofs.Ytmpaipbpnkfmfaa.Tk
