/-
  PLAIN: first laws of cutting: what is passed over, how long a token is, what may stand behind it. Conditions: none.
-/
import Derived.Test.YtmpaipbpnkfmfaaTok
namespace Go.Proofs.Ytmpaipbpnkfmfaa.Tk

theorem esc_le (r : List Int) : (esc r).2 ≤ r.length := by
  unfold esc
  split
  · simp
  · rename_i c r
    split
    · simp
    · split
      · simp
      · split
        · simp
        · split
          · split
            · split
              · simp only [List.length_cons]; omega
              · simp
            · simp
          · simp

theorem esc_le3 (r : List Int) : (esc r).2 ≤ 3 := by
  unfold esc
  split
  · simp
  · split
    · simp
    · split
      · simp
      · split
        · simp
        · split
          · split
            · split <;> simp
            · simp
          · simp

theorem run_run (r : List Int) : run (run r) = run r := by
  induction r with
  | nil => rfl
  | cons c r ih =>
    simp only [run]
    split
    · rename_i h; simp only [run, h, if_true, ih]
    · rfl

theorem run_le (r : List Int) : (run r).length ≤ r.length := by
  induction r with
  | nil => simp [run]
  | cons c r ih =>
    simp only [run]
    split
    · simp only [List.length_cons]; omega
    · simp

theorem run_take (r : List Int) : r.take (run r).length = run r := by
  induction r with
  | nil => rfl
  | cons c r ih =>
    simp only [run]
    split
    · simp only [List.length_cons, List.take_succ_cons, ih]
    · rfl

/-- does no run go on? -/
def halts (b : List Int) : Bool := match b with | [] => true | d :: _ => !rn d

theorem run_append_stop (w b : List Int) (h : run w = w) (hb : halts b = true) : run (w ++ b) = w := by
  induction w with
  | nil =>
    cases b with
    | nil => rfl
    | cons d b => simp only [halts, Bool.not_eq_true'] at hb; simp [run, hb]
  | cons c r ih =>
    simp only [run] at h
    split at h
    · rename_i hc
      simp only [List.cons_append, run, hc, if_true]
      rw [ih (by simpa using h)]
    · simp at h

theorem run_append_on (w b : List Int) (h : run w = w) : run (w ++ b) = w ++ run b := by
  induction w with
  | nil => rfl
  | cons c r ih =>
    simp only [run] at h
    split at h
    · rename_i hc
      simp only [List.cons_append, run, hc, if_true]
      rw [ih (by simpa using h)]
    · simp at h

/-- a run and what stands behind it -/
theorem run_split (r : List Int) : ∃ b, r = run r ++ b ∧ halts b = true := by
  induction r with
  | nil => exact ⟨[], rfl, rfl⟩
  | cons c r ih =>
    obtain ⟨b, h1, h2⟩ := ih
    simp only [run]
    split
    · exact ⟨b, by rw [List.cons_append]; rw [← h1], h2⟩
    · rename_i h; exact ⟨c :: r, rfl, by simp [halts]; simpa using h⟩

/-- so much farther -/
def Qr.far (n : Nat) : Qr → Qr
  | .ok m k => .ok m (k + n)
  | .bad k => .bad (k + n)
  | .opn => .opn
theorem quot_far : ∀ (n : Nat) (r : List Int), n ≤ r.length → quot n r = (quot 0 (r.drop n)).far n := by
  intro n
  induction n with
  | zero => intro r _; simp only [List.drop_zero]; cases quot 0 r <;> rfl
  | succ n ih =>
    intro r h
    cases r with
    | nil => simp at h
    | cons c r =>
      simp only [quot, List.drop_succ_cons]
      rw [ih r (by simpa using h)]
      cases quot 0 (r.drop n) <;> simp [Qr.far, Qr.adv] <;> omega

theorem quot_bd : ∀ (k : Nat) (r : List Int), (∀ m n, quot k r = .ok m n → 1 ≤ n ∧ n ≤ r.length) ∧ (∀ n, quot k r = .bad n → n < r.length) := by
  intro k r
  induction r generalizing k with
  | nil => constructor <;> (intros; rename_i h; simp [quot] at h)
  | cons c r ih =>
    have ha : ∀ (q : Qr), ((∀ m n, q = .ok m n → 1 ≤ n ∧ n ≤ r.length) ∧ (∀ n, q = .bad n → n < r.length)) →
        ((∀ m n, q.adv = .ok m n → 1 ≤ n ∧ n ≤ (c :: r).length) ∧ (∀ n, q.adv = .bad n → n < (c :: r).length)) := by
      intro q hq
      cases q with
      | ok m n =>
        refine ⟨fun m' n' h => ?_, fun n' h => by simp [Qr.adv] at h⟩
        simp only [Qr.adv, Qr.ok.injEq] at h
        have := (hq.1 m n rfl).2
        simp only [List.length_cons]; omega
      | bad n =>
        refine ⟨fun m' n' h => by simp [Qr.adv] at h, fun n' h => ?_⟩
        simp only [Qr.adv, Qr.bad.injEq] at h
        have := hq.2 n rfl
        simp only [List.length_cons]; omega
      | opn => exact ⟨fun m' n' h => by simp [Qr.adv] at h, fun n' h => by simp [Qr.adv] at h⟩
    have hp : ∀ (x : Int) (q : Qr), ((∀ m n, q = .ok m n → 1 ≤ n ∧ n ≤ r.length) ∧ (∀ n, q = .bad n → n < r.length)) →
        ((∀ m n, q.put x = .ok m n → 1 ≤ n ∧ n ≤ r.length) ∧ (∀ n, q.put x = .bad n → n < r.length)) := by
      intro x q hq
      cases q with
      | ok m n =>
        refine ⟨fun m' n' h => ?_, fun n' h => by simp [Qr.put] at h⟩
        simp only [Qr.put, Qr.ok.injEq] at h
        have := hq.1 m n rfl
        omega
      | bad n =>
        refine ⟨fun m' n' h => by simp [Qr.put] at h, fun n' h => ?_⟩
        simp only [Qr.put, Qr.bad.injEq] at h
        have := hq.2 n rfl
        omega
      | opn => exact ⟨fun m' n' h => by simp [Qr.put] at h, fun n' h => by simp [Qr.put] at h⟩
    cases k with
    | succ k => simp only [quot]; exact ha _ (ih k)
    | zero =>
      simp only [quot]
      split
      · refine ⟨fun m n h => ?_, fun n h => by simp at h⟩
        simp only [Qr.ok.injEq] at h; simp only [List.length_cons]; omega
      · split
        · split
          · refine ⟨fun m n h => by simp at h, fun n h => ?_⟩
            simp only [Qr.bad.injEq] at h; simp only [List.length_cons]; omega
          · exact ha _ (hp _ _ (ih _))
        · split
          · refine ⟨fun m n h => by simp at h, fun n h => ?_⟩
            simp only [Qr.bad.injEq] at h; simp only [List.length_cons]; omega
          · exact ha _ (hp _ _ (ih _))

theorem lex_len {c : Int} {r : List Int} {k : Int} {t : List Int} {n : Int} {len : Nat} (h : lex c r = .tok k t n len) : 1 ≤ len ∧ len ≤ r.length + 1 := by
  have hr := run_le r
  unfold lex at h
  split at h
  · split at h
    · rename_i hs
      simp only [Lx.tok.injEq] at h
      have : (c :: run r).length = 4 := by rw [hs]; rfl
      simp only [List.length_cons] at this
      omega
    · simp only [Lx.tok.injEq] at h; omega
  · split at h
    · simp only [Lx.tok.injEq] at h; omega
    · split at h
      · split at h
        · simp only [Lx.tok.injEq] at h; omega
        · simp at h
      · split at h
        · split at h
          · rename_i m j hq
            have := (quot_bd 0 r).1 _ _ hq
            simp only [Lx.tok.injEq] at h
            omega
          · simp at h
          · simp at h
        · unfold signs at h
          split at h
          · split at h
            · simp only [Lx.tok.injEq] at h; simp only [List.length_cons]; omega
            · split at h
              · simp only [Lx.tok.injEq] at h; omega
              · simp at h
          · split at h
            · simp only [Lx.tok.injEq] at h; omega
            · simp at h

theorem lex_off {c : Int} {r : List Int} {e : Int} {off : Nat} (h : lex c r = .bad e off) : off ≤ r.length ∧ (e = 42 ∧ off = 0 ∨ e = 43 ∧ off = 0 ∨ e = 44 ∧ 1 ≤ off ∨ e = 45 ∧ off = 0) := by
  unfold lex at h
  split at h
  · split at h <;> simp at h
  · split at h
    · simp at h
    · split at h
      · split at h
        · simp at h
        · simp only [Lx.bad.injEq] at h; omega
      · split at h
        · split at h
          · simp at h
          · rename_i j hq
            have := (quot_bd 0 r).2 _ hq
            simp only [Lx.bad.injEq] at h
            omega
          · simp only [Lx.bad.injEq] at h; omega
        · unfold signs at h
          split at h
          · split at h
            · simp at h
            · split at h
              · simp at h
              · simp only [Lx.bad.injEq] at h; omega
          · split at h
            · simp at h
            · simp only [Lx.bad.injEq] at h; omega

theorem cut_skip : ∀ (n : Nat) (at_ : Int) (l : List Int), n ≤ l.length → cut n at_ l = cut 0 (at_ + n) (l.drop n) := by
  intro n
  induction n with
  | zero => intro at_ l _; simp
  | succ n ih =>
    intro at_ l h
    cases l with
    | nil => simp at h
    | cons c r =>
      simp only [cut, List.drop_succ_cons]
      rw [ih (at_ + 1) r (by simpa using h)]
      congr 1
      omega

theorem cut_nil (n : Nat) (at_ : Int) : cut n at_ [] = ⟨[], 0, 0⟩ := by cases n <;> rfl

theorem rem_le (r : List Int) : rem r ≤ r.length := by
  induction r with
  | nil => simp [rem]
  | cons c r ih =>
    simp only [rem]
    split <;> simp only [List.length_cons] <;> omega

theorem cut_tok {c : Int} {r : List Int} {k : Int} {t : List Int} {n : Int} {len : Nat} (at_ : Int) (hb : bl c = false) (hc : c ≠ 37) (h : lex c r = .tok k t n len) :
    cut 0 at_ (c :: r) = (cut 0 (at_ + len) ((c :: r).drop len)).cons ⟨k, t, n, at_, at_ + len⟩ := by
  have hl := lex_len h
  simp only [cut, hb, hc, h, if_false, Bool.false_eq_true]
  rw [cut_skip _ _ _ (by omega)]
  obtain ⟨m, rfl⟩ : ∃ m, len = m + 1 := ⟨len - 1, by omega⟩
  simp only [Nat.add_sub_cancel, List.drop_succ_cons]
  congr 2
  omega
theorem cut_bad {c : Int} {r : List Int} {e : Int} {off : Nat} (at_ : Int) (hb : bl c = false) (hc : c ≠ 37) (h : lex c r = .bad e off) :
    cut 0 at_ (c :: r) = ⟨[], e, at_ + off⟩ := by
  simp only [cut, hb, hc, h, if_false, Bool.false_eq_true]
theorem cut_bl {c : Int} {r : List Int} (at_ : Int) (hb : bl c = true) : cut 0 at_ (c :: r) = cut 0 (at_ + 1) r := by
  simp only [cut, hb, if_true]
theorem cut_rem {r : List Int} (at_ : Int) : cut 0 at_ (37 :: r) = cut 0 (at_ + 1 + rem r) (r.drop (rem r)) := by
  have : bl 37 = false := rfl
  simp only [cut, this, if_true, Bool.false_eq_true, if_false]
  rw [cut_skip _ _ _ (rem_le r)]

/-- may this stand right behind a token of that kind? -/
def stop (k : Int) (b : List Int) : Prop := ((k = 1 ∨ k = 2 ∨ k = 4 ∨ k = 5) → halts b = true) ∧ (k = 15 → b.head? ≠ some 61)

theorem stop_nil (k : Int) : stop k [] := ⟨fun _ => rfl, fun _ => by simp⟩

theorem esc_cases (r : List Int) : esc r = (0, 0) ∨ (∃ c x, r = c :: x ∧ (c = 34 ∨ c = 92) ∧ esc r = (c, 1)) ∨ (∃ x, r = 110 :: x ∧ esc r = (10, 1)) ∨ (∃ x, r = 116 :: x ∧ esc r = (9, 1)) ∨
    (∃ a b x, r = 120 :: a :: b :: x ∧ 0 ≤ hx a ∧ 0 ≤ hx b ∧ esc r = (16 * hx a + hx b, 3)) := by
  cases r with
  | nil => exact .inl rfl
  | cons c r =>
    by_cases h1 : c = 34 ∨ c = 92
    · exact .inr (.inl ⟨c, r, rfl, h1, by simp only [esc, if_pos h1]⟩)
    · by_cases h2 : c = 110
      · subst h2; exact .inr (.inr (.inl ⟨r, rfl, rfl⟩))
      · by_cases h3 : c = 116
        · subst h3; exact .inr (.inr (.inr (.inl ⟨r, rfl, rfl⟩)))
        · by_cases h4 : c = 120
          · subst h4
            match r with
            | [] => exact .inl rfl
            | [a] => exact .inl rfl
            | a :: b :: x =>
              by_cases h5 : 0 ≤ hx a ∧ 0 ≤ hx b
              · exact .inr (.inr (.inr (.inr ⟨a, b, x, rfl, h5.1, h5.2, by simp only [esc]; rw [if_neg (by decide), if_neg (by decide), if_neg (by decide), if_pos trivial, if_pos h5]⟩)))
              · exact .inl (by simp only [esc]; rw [if_neg (by decide), if_neg (by decide), if_neg (by decide), if_pos trivial, if_neg h5])
          · exact .inl (by simp only [esc]; rw [if_neg h1, if_neg h2, if_neg h3, if_neg h4])

theorem esc_append (r b : List Int) (h : (esc r).2 ≠ 0) : esc (r.take (esc r).2 ++ b) = esc r := by
  rcases esc_cases r with e | ⟨c, x, rfl, hc, e⟩ | ⟨x, rfl, e⟩ | ⟨x, rfl, e⟩ | ⟨a, d, x, rfl, ha, hb, e⟩
  · rw [e] at h; exact absurd rfl h
  · rw [e]; simp only [List.take_succ_cons, List.take_zero, List.cons_append, List.nil_append, esc, if_pos hc]
  · rw [e]; rfl
  · rw [e]; rfl
  · rw [e]; simp only [List.take_succ_cons, List.take_zero, List.cons_append, List.nil_append, esc]
    rw [if_neg (by decide), if_neg (by decide), if_neg (by decide), if_pos trivial, if_pos ⟨ha, hb⟩]

theorem esc_take (r b : List Int) (n : Nat) (h : (esc r).2 ≠ 0) (hn : (esc r).2 ≤ n) : esc (r.take n ++ b) = esc r := by
  have : r.take n = r.take (esc r).2 ++ (r.take n).drop (esc r).2 := by
    conv => lhs; rw [← List.take_append_drop (esc r).2 (r.take n)]
    rw [List.take_take, Nat.min_eq_left hn]
  rw [this, List.append_assoc, esc_append _ _ h]

/-- a quoted text ends where it ends, whatever stands behind -/
theorem quot_ok_at : ∀ (r : List Int) (k : Nat) (m : List Int) (n : Nat), quot k r = .ok m n → k < n ∧ ∀ b, quot k (r.take n ++ b) = .ok m n := by
  intro r
  induction r with
  | nil => intro k m n h; cases k <;> simp [quot] at h
  | cons c r ih =>
    intro k m n h
    cases k with
    | succ k =>
      simp only [quot] at h
      cases hq : quot k r with
      | ok m' n' =>
        rw [hq] at h; simp only [Qr.adv, Qr.ok.injEq] at h
        obtain ⟨rfl, rfl⟩ := h
        obtain ⟨h1, h2⟩ := ih k _ _ hq
        refine ⟨by omega, fun b => ?_⟩
        simp only [List.take_succ_cons, List.cons_append, quot, h2 b, Qr.adv]
      | bad n' => rw [hq] at h; simp [Qr.adv] at h
      | opn => rw [hq] at h; simp [Qr.adv] at h
    | zero =>
      simp only [quot] at h
      by_cases h1 : c = 34
      · rw [if_pos h1] at h
        simp only [Qr.ok.injEq] at h
        obtain ⟨rfl, rfl⟩ := h
        refine ⟨by omega, fun b => ?_⟩
        simp only [List.take_succ_cons, List.cons_append, quot, if_pos h1]
      · rw [if_neg h1] at h
        by_cases h2 : c = 92
        · rw [if_pos h2] at h
          by_cases h3 : (esc r).2 = 0
          · rw [if_pos h3] at h; simp at h
          · rw [if_neg h3] at h
            cases hq : quot (esc r).2 r with
            | ok m' n' =>
              rw [hq] at h; simp only [Qr.put, Qr.adv, Qr.ok.injEq] at h
              obtain ⟨rfl, rfl⟩ := h
              obtain ⟨h4, h5⟩ := ih _ _ _ hq
              refine ⟨by omega, fun b => ?_⟩
              simp only [List.take_succ_cons, List.cons_append, quot, if_neg h1, if_pos h2, esc_take r b n' h3 (by omega), if_neg h3, h5 b, Qr.put, Qr.adv]
            | bad n' => rw [hq] at h; simp [Qr.put, Qr.adv] at h
            | opn => rw [hq] at h; simp [Qr.put, Qr.adv] at h
        · rw [if_neg h2] at h
          by_cases h3 : c < 32 ∨ c = 127
          · rw [if_pos h3] at h; simp at h
          · rw [if_neg h3] at h
            cases hq : quot 0 r with
            | ok m' n' =>
              rw [hq] at h; simp only [Qr.put, Qr.adv, Qr.ok.injEq] at h
              obtain ⟨rfl, rfl⟩ := h
              obtain ⟨h4, h5⟩ := ih _ _ _ hq
              refine ⟨by omega, fun b => ?_⟩
              simp only [List.take_succ_cons, List.cons_append, quot, if_neg h1, if_neg h2, if_neg h3, h5 b, Qr.put, Qr.adv]
            | bad n' => rw [hq] at h; simp [Qr.put, Qr.adv] at h
            | opn => rw [hq] at h; simp [Qr.put, Qr.adv] at h

/-- the front of a fault inside of quotes is a text that doesn't end -/
theorem quot_bad_at : ∀ (r : List Int) (k : Nat) (n : Nat), quot k r = .bad n → k ≤ n ∧ quot k (r.take n) = .opn := by
  intro r
  induction r with
  | nil => intro k n h; cases k <;> simp [quot] at h
  | cons c r ih =>
    intro k n h
    cases k with
    | succ k =>
      simp only [quot] at h
      cases hq : quot k r with
      | bad n' =>
        rw [hq] at h; simp only [Qr.adv, Qr.bad.injEq] at h
        subst h
        obtain ⟨h1, h2⟩ := ih k _ hq
        refine ⟨by omega, ?_⟩
        simp only [List.take_succ_cons, quot, h2, Qr.adv]
      | ok m' n' => rw [hq] at h; simp [Qr.adv] at h
      | opn => rw [hq] at h; simp [Qr.adv] at h
    | zero =>
      refine ⟨Nat.zero_le _, ?_⟩
      simp only [quot] at h
      by_cases h1 : c = 34
      · rw [if_pos h1] at h; simp at h
      · rw [if_neg h1] at h
        by_cases h2 : c = 92
        · rw [if_pos h2] at h
          by_cases h3 : (esc r).2 = 0
          · rw [if_pos h3] at h; simp only [Qr.bad.injEq] at h; subst h; rfl
          · rw [if_neg h3] at h
            cases hq : quot (esc r).2 r with
            | bad n' =>
              rw [hq] at h; simp only [Qr.put, Qr.adv, Qr.bad.injEq] at h
              subst h
              obtain ⟨h4, h5⟩ := ih _ _ hq
              have he := esc_take r [] n' h3 (by omega)
              rw [List.append_nil] at he
              simp only [List.take_succ_cons, quot, if_neg h1, if_pos h2, he, if_neg h3, h5, Qr.put, Qr.adv]
            | ok m' n' => rw [hq] at h; simp [Qr.put, Qr.adv] at h
            | opn => rw [hq] at h; simp [Qr.put, Qr.adv] at h
        · rw [if_neg h2] at h
          by_cases h3 : c < 32 ∨ c = 127
          · rw [if_pos h3] at h; simp only [Qr.bad.injEq] at h; subst h; rfl
          · rw [if_neg h3] at h
            cases hq : quot 0 r with
            | bad n' =>
              rw [hq] at h; simp only [Qr.put, Qr.adv, Qr.bad.injEq] at h
              subst h
              obtain ⟨h4, h5⟩ := ih _ _ hq
              simp only [List.take_succ_cons, quot, if_neg h1, if_neg h2, if_neg h3, h5, Qr.put, Qr.adv]
            | ok m' n' => rw [hq] at h; simp [Qr.put, Qr.adv] at h
            | opn => rw [hq] at h; simp [Qr.put, Qr.adv] at h

/-- THE TOKEN STAYS, whatever stands behind it that may stand there -/
theorem lex_stop {c : Int} {r : List Int} {k : Int} {t : List Int} {n : Int} {len : Nat} (h : lex c r = .tok k t n len) (b : List Int) (hb : stop k b) :
    lex c (r.take (len - 1) ++ b) = .tok k t n len := by
  have hrun : halts b = true → run (r.take (run r).length ++ b) = run r := fun hb => by rw [run_take]; exact run_append_stop _ _ (run_run r) hb
  unfold lex at h ⊢
  by_cases h1 : sm c = true
  · rw [if_pos h1] at h ⊢
    by_cases h2 : c :: run r = says
    · rw [if_pos h2] at h
      have hl : (run r).length = 3 := by have : (c :: run r).length = 4 := by rw [h2]; rfl
                                         simpa using this
      simp only [Lx.tok.injEq] at h
      obtain ⟨rfl, rfl, rfl, rfl⟩ := h
      have := hrun (hb.1 (by decide))
      rw [hl] at this
      rw [show 4 - 1 = 3 from rfl, this, if_pos h2]
    · rw [if_neg h2] at h
      simp only [Lx.tok.injEq] at h
      obtain ⟨rfl, rfl, rfl, rfl⟩ := h
      rw [Nat.add_sub_cancel, hrun (hb.1 (by decide)), if_neg h2]
  · rw [if_neg h1] at h ⊢
    by_cases h2 : gr c = true
    · rw [if_pos h2] at h ⊢
      simp only [Lx.tok.injEq] at h
      obtain ⟨rfl, rfl, rfl, rfl⟩ := h
      rw [Nat.add_sub_cancel, hrun (hb.1 (by decide))]
    · rw [if_neg h2] at h ⊢
      by_cases h3 : dg c = true ∨ c = 45
      · rw [if_pos h3] at h ⊢
        split at h
        · rename_i v hv
          simp only [Lx.tok.injEq] at h
          obtain ⟨rfl, rfl, rfl, rfl⟩ := h
          rw [Nat.add_sub_cancel, hrun (hb.1 (by decide)), hv]
        · simp at h
      · rw [if_neg h3] at h ⊢
        by_cases h4 : c = 34
        · rw [if_pos h4] at h ⊢
          split at h
          · rename_i m j hq
            simp only [Lx.tok.injEq] at h
            obtain ⟨rfl, rfl, rfl, rfl⟩ := h
            rw [Nat.add_sub_cancel, (quot_ok_at r 0 m j hq).2 b]
          · simp at h
          · simp at h
        · rw [if_neg h4] at h ⊢
          unfold signs at h
          cases r with
          | nil =>
            simp only at h
            by_cases h5 : sign1 c ≠ 0
            · rw [if_pos h5] at h
              simp only [Lx.tok.injEq] at h
              obtain ⟨rfl, rfl, rfl, rfl⟩ := h
              simp only [List.take_nil, List.nil_append]
              unfold signs
              cases b with
              | nil => simp only [if_pos h5]
              | cons d b =>
                simp only
                have : sign2 c d = 0 := by
                  unfold sign2
                  unfold sign1 at h5
                  by_cases e1 : c = 58
                  · subst e1; simp at h5
                  · by_cases e2 : c = 33
                    · subst e2; simp at h5
                    · by_cases e3 : c = 60
                      · subst e3
                        have := hb.2 (by simp [sign1])
                        simp only [List.head?_cons, ne_eq, Option.some.injEq] at this
                        simp [this]
                      · simp [e1, e2, e3]
                rw [if_neg (by simp [this]), if_pos h5]
            · rw [if_neg h5] at h; simp at h
          | cons d r =>
            simp only at h
            by_cases h5 : sign2 c d ≠ 0
            · rw [if_pos h5] at h
              simp only [Lx.tok.injEq] at h
              obtain ⟨rfl, rfl, rfl, rfl⟩ := h
              simp only [List.take_succ_cons, List.take_zero, List.cons_append, List.nil_append, signs, if_pos h5]
            · rw [if_neg h5] at h
              by_cases h6 : sign1 c ≠ 0
              · rw [if_pos h6] at h
                simp only [Lx.tok.injEq] at h
                obtain ⟨rfl, rfl, rfl, rfl⟩ := h
                simp only [Nat.sub_self, List.take_zero, List.nil_append]
                unfold signs
                cases b with
                | nil => simp only [if_pos h6]
                | cons d' b =>
                  simp only
                  have : sign2 c d' = 0 := by
                    unfold sign2
                    unfold sign1 at h6
                    by_cases e1 : c = 58
                    · subst e1; simp at h6
                    · by_cases e2 : c = 33
                      · subst e2; simp at h6
                      · by_cases e3 : c = 60
                        · subst e3
                          have := hb.2 (by simp [sign1])
                          simp only [List.head?_cons, ne_eq, Option.some.injEq] at this
                          simp [this]
                        · simp [e1, e2, e3]
                  rw [if_neg (by simp [this]), if_pos h6]
              · rw [if_neg h6] at h; simp at h

end Go.Proofs.Ytmpaipbpnkfmfaa.Tk
