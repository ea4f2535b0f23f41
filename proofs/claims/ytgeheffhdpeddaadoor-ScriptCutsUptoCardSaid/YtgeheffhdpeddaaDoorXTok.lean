/-
  Texts laid together: PLAIN; PLAIN; PLAIN; PLAIN; PLAIN; PLAIN; PLAIN; PLAIN; PLAIN. Conditions: as each theorem states.
-/
/- PLAIN: what it means to cut a list of bytes (whole numbers 0 to 255) into tokens: the functions, by structural recursion, and their first laws. No program in sight. Conditions: none. -/
namespace Go.Proofs.YtgeheffhdpeddaaDoor.Tk

def sm (c : Int) : Bool := decide (97 ≤ c) && decide (c ≤ 122)
def gr (c : Int) : Bool := (decide (65 ≤ c) && decide (c ≤ 90)) || decide (c = 95)
def dg (c : Int) : Bool := decide (48 ≤ c) && decide (c ≤ 57)
def rn (c : Int) : Bool := sm c || gr c || dg c
def says : List Int := [115, 97, 121, 115]

/-- the run with which a list begins -/
def run : List Int → List Int
  | [] => []
  | c :: r => if rn c then c :: run r else []

/-- a hex digit's value, -1 if it is none -/
def hx (c : Int) : Int := if dg c then c - 48 else if 97 ≤ c ∧ c ≤ 102 then c - 87 else if 65 ≤ c ∧ c ≤ 70 then c - 55 else -1

/-- what stands behind a backslash: the byte and how many bytes say it -/
def esc : List Int → Int × Nat
  | [] => (0, 0)
  | c :: r =>
    if c = 34 ∨ c = 92 then (c, 1)
    else if c = 110 then (10, 1)
    else if c = 116 then (9, 1)
    else if c = 120 then
      match r with
      | a :: b :: _ => if 0 ≤ hx a ∧ 0 ≤ hx b then (16 * hx a + hx b, 3) else (0, 0)
      | _ => (0, 0)
    else (0, 0)

inductive Qr where
  | ok (m : List Int) (n : Nat)
  | bad (n : Nat)
  | opn
deriving DecidableEq
def Qr.adv : Qr → Qr
  | .ok m n => .ok m (n + 1)
  | .bad n => .bad (n + 1)
  | .opn => .opn
def Qr.put (c : Int) : Qr → Qr
  | .ok m n => .ok (c :: m) n
  | .bad n => .bad n
  | .opn => .opn

/-- behind the opening quote, so many bytes being passed over -/
def quot : Nat → List Int → Qr
  | _, [] => .opn
  | k + 1, _ :: r => (quot k r).adv
  | 0, c :: r =>
    if c = 34 then .ok [] 1
    else if c = 92 then
      if (esc r).2 = 0 then .bad 0 else ((quot (esc r).2 r).put (esc r).1).adv
    else if c < 32 ∨ c = 127 then .bad 0
    else ((quot 0 r).put c).adv

/-- the value of digits -/
def val : Nat → List Int → Nat
  | a, [] => a
  | a, c :: r => val (10 * a + (c - 48).toNat) r

def alld : List Int → Bool
  | [] => true
  | c :: r => dg c && alld r

/-- digits, the first no nought -/
def nat? (l : List Int) : Option Nat :=
  match l with
  | [] => none
  | c :: r => if c = 48 then none else if dg c && alld r then some (val 0 (c :: r)) else none

/-- the value of a number's text -/
def num (l : List Int) : Option Int :=
  if l = [48] then some 0
  else match l with
    | [] => none
    | c :: r =>
      if c = 45 then
        match nat? r with
        | some v => if v ≤ 9223372036854775808 then some (-(v : Int)) else none
        | none => none
      else
        match nat? (c :: r) with
        | some v => if v ≤ 9223372036854775807 then some (v : Int) else none
        | none => none

/-- one token, or a fault so far behind its place -/
inductive Lx where
  | tok (k : Int) (t : List Int) (n : Int) (len : Nat)
  | bad (e : Int) (off : Nat)
deriving DecidableEq

def sign1 (c : Int) : Int :=
  if c = 40 then 6 else if c = 41 then 7 else if c = 44 then 8 else if c = 59 then 9 else if c = 46 then 10
  else if c = 63 then 12 else if c = 61 then 13 else if c = 60 then 15 else 0

def sign2 (c d : Int) : Int :=
  if c = 58 ∧ d = 45 then 11 else if c = 33 ∧ d = 61 then 14 else if c = 60 ∧ d = 61 then 16 else 0

def signs (c : Int) (r : List Int) : Lx :=
  match r with
  | d :: _ => if sign2 c d ≠ 0 then .tok (sign2 c d) [] 0 2 else if sign1 c ≠ 0 then .tok (sign1 c) [] 0 1 else .bad 42 0
  | [] => if sign1 c ≠ 0 then .tok (sign1 c) [] 0 1 else .bad 42 0

def lex (c : Int) (r : List Int) : Lx :=
  if sm c then
    if c :: run r = says then .tok 5 [] 0 4 else .tok 1 (c :: run r) 0 ((run r).length + 1)
  else if gr c then .tok 2 (c :: run r) 0 ((run r).length + 1)
  else if dg c ∨ c = 45 then
    match num (c :: run r) with
    | some n => .tok 4 [] n ((run r).length + 1)
    | none => .bad 45 0
  else if c = 34 then
    match quot 0 r with
    | .ok m n => .tok 3 m 0 (n + 1)
    | .bad n => .bad 44 (n + 1)
    | .opn => .bad 43 0
  else signs c r

structure Tok where
  k : Int
  t : List Int
  n : Int
  at_ : Int
  e : Int
deriving DecidableEq

def bl (c : Int) : Bool := decide (c = 32) || decide (c = 9) || decide (c = 10) || decide (c = 13)

/-- how long a remark is -/
def rem : List Int → Nat
  | [] => 0
  | c :: r => if c = 10 then 0 else rem r + 1

structure Res where
  l : List Tok
  e : Int
  p : Int
deriving DecidableEq
def Res.cons (t : Tok) (r : Res) : Res := if r.e = 0 then { r with l := t :: r.l } else r

/-- the tokens from the place 'at' on, so many bytes being passed over -/
def cut : Nat → Int → List Int → Res
  | _, _, [] => ⟨[], 0, 0⟩
  | s + 1, at_, _ :: r => cut s (at_ + 1) r
  | 0, at_, c :: r =>
    if bl c then cut 0 (at_ + 1) r
    else if c = 37 then cut (rem r) (at_ + 1) r
    else match lex c r with
      | .tok k t n len => (cut (len - 1) (at_ + 1) r).cons ⟨k, t, n, at_, at_ + len⟩
      | .bad e off => ⟨[], e, at_ + off⟩

/-- P4.1 -/
def Cut (l : List Int) (most : Int) : Res := if most < (l.length : Int) then ⟨[], 41, 0⟩ else cut 0 0 l

/-- P4.2 -/
def word (s : List Int) : Bool :=
  match s with
  | [] => false
  | c :: r => sm c && decide (run r = r) && decide (c :: r ≠ says)

def dig (n : Int) : Int := if n < 10 then 48 + n else 87 + n

def qbyte (c : Int) : List Int :=
  if c = 34 ∨ c = 92 then [92, c]
  else if c = 10 then [92, 110]
  else if c = 9 then [92, 116]
  else if 32 ≤ c ∧ c ≤ 126 then [c]
  else [92, 120, dig (c / 16), dig (c % 16)]
def qbody : List Int → List Int
  | [] => []
  | c :: r => qbyte c ++ qbody r
/-- P4.3 -/
def quote (s : List Int) : List Int := 34 :: (qbody s ++ [34])

/-- decimal digits: by fuel -/
def decN : Nat → Nat → List Int → List Int
  | 0, _, acc => acc
  | f + 1, n, acc => if n < 10 then (48 + (n : Int)) :: acc else decN f (n / 10) ((48 + ((n % 10 : Nat) : Int)) :: acc)
def dec (n : Int) : List Int := if n < 0 then 45 :: decN 20 n.natAbs [] else decN 20 n.natAbs []

def signOf (k : Int) : List Int :=
  if k = 5 then says else if k = 6 then [40] else if k = 7 then [41] else if k = 8 then [44] else if k = 9 then [59] else if k = 10 then [46]
  else if k = 11 then [58, 45] else if k = 12 then [63] else if k = 13 then [61] else if k = 14 then [33, 61] else if k = 15 then [60] else if k = 16 then [60, 61] else []

def vari (s : List Int) : Bool :=
  match s with
  | [] => false
  | c :: r => gr c && decide (run r = r)

/-- P4.4 -/
def spell (k : Int) (t : List Int) (n : Int) : Option (List Int) :=
  if k = 1 then (if n = 0 ∧ word t = true then some t else none)
  else if k = 2 then (if n = 0 ∧ vari t = true then some t else none)
  else if k = 3 then (if n = 0 then some (quote t) else none)
  else if k = 4 then (if t = [] then some (dec n) else none)
  else if 5 ≤ k ∧ k ≤ 16 then (if t = [] ∧ n = 0 then some (signOf k) else none)
  else none

/-- must a blank stand between the two? -/
def apart (k : Int) (k' n' : Int) : Bool :=
  if k = 15 then decide (k' = 13)
  else if k = 1 ∨ k = 2 ∨ k = 5 ∨ k = 4 then
    (if k' = 1 ∨ k' = 2 ∨ k' = 5 then true else if k' = 4 then decide (0 ≤ n') else false)
  else false

def joinTail : Int → List Tok → Option (List Int)
  | _, [] => some []
  | k, t :: r =>
    match spell t.k t.t t.n, joinTail t.k r with
    | some s, some w => some ((if apart k t.k t.n then [32] else []) ++ s ++ w)
    | _, _ => none
/-- P4.5 -/
def join (l : List Tok) : Option (List Int) := joinTail 0 l

end Go.Proofs.YtgeheffhdpeddaaDoor.Tk

/- PLAIN: first laws of cutting: what is passed over, how long a token is, what may stand behind it. Conditions: none. -/
namespace Go.Proofs.YtgeheffhdpeddaaDoor.Tk

theorem esc_le (r : List Int) : (esc r).2 ≤ r.length := by
  unfold esc
  split
  · simp
  · rename_i c r
    split
    · simp
    · split
      · simp
      · split
        · simp
        · split
          · split
            · split
              · simp only [List.length_cons]; omega
              · simp
            · simp
          · simp

theorem esc_le3 (r : List Int) : (esc r).2 ≤ 3 := by
  unfold esc
  split
  · simp
  · split
    · simp
    · split
      · simp
      · split
        · simp
        · split
          · split
            · split <;> simp
            · simp
          · simp

theorem run_run (r : List Int) : run (run r) = run r := by
  induction r with
  | nil => rfl
  | cons c r ih =>
    simp only [run]
    split
    · rename_i h; simp only [run, h, if_true, ih]
    · rfl

theorem run_le (r : List Int) : (run r).length ≤ r.length := by
  induction r with
  | nil => simp [run]
  | cons c r ih =>
    simp only [run]
    split
    · simp only [List.length_cons]; omega
    · simp

theorem run_take (r : List Int) : r.take (run r).length = run r := by
  induction r with
  | nil => rfl
  | cons c r ih =>
    simp only [run]
    split
    · simp only [List.length_cons, List.take_succ_cons, ih]
    · rfl

/-- does no run go on? -/
def halts (b : List Int) : Bool := match b with | [] => true | d :: _ => !rn d

theorem run_append_stop (w b : List Int) (h : run w = w) (hb : halts b = true) : run (w ++ b) = w := by
  induction w with
  | nil =>
    cases b with
    | nil => rfl
    | cons d b => simp only [halts, Bool.not_eq_true'] at hb; simp [run, hb]
  | cons c r ih =>
    simp only [run] at h
    split at h
    · rename_i hc
      simp only [List.cons_append, run, hc, if_true]
      rw [ih (by simpa using h)]
    · simp at h

theorem run_append_on (w b : List Int) (h : run w = w) : run (w ++ b) = w ++ run b := by
  induction w with
  | nil => rfl
  | cons c r ih =>
    simp only [run] at h
    split at h
    · rename_i hc
      simp only [List.cons_append, run, hc, if_true]
      rw [ih (by simpa using h)]
    · simp at h

/-- a run and what stands behind it -/
theorem run_split (r : List Int) : ∃ b, r = run r ++ b ∧ halts b = true := by
  induction r with
  | nil => exact ⟨[], rfl, rfl⟩
  | cons c r ih =>
    obtain ⟨b, h1, h2⟩ := ih
    simp only [run]
    split
    · exact ⟨b, by rw [List.cons_append]; rw [← h1], h2⟩
    · rename_i h; exact ⟨c :: r, rfl, by simp [halts]; simpa using h⟩

/-- so much farther -/
def Qr.far (n : Nat) : Qr → Qr
  | .ok m k => .ok m (k + n)
  | .bad k => .bad (k + n)
  | .opn => .opn
theorem quot_far : ∀ (n : Nat) (r : List Int), n ≤ r.length → quot n r = (quot 0 (r.drop n)).far n := by
  intro n
  induction n with
  | zero => intro r _; simp only [List.drop_zero]; cases quot 0 r <;> rfl
  | succ n ih =>
    intro r h
    cases r with
    | nil => simp at h
    | cons c r =>
      simp only [quot, List.drop_succ_cons]
      rw [ih r (by simpa using h)]
      cases quot 0 (r.drop n) <;> simp [Qr.far, Qr.adv] <;> omega

theorem quot_bd : ∀ (k : Nat) (r : List Int), (∀ m n, quot k r = .ok m n → 1 ≤ n ∧ n ≤ r.length) ∧ (∀ n, quot k r = .bad n → n < r.length) := by
  intro k r
  induction r generalizing k with
  | nil => constructor <;> (intros; rename_i h; simp [quot] at h)
  | cons c r ih =>
    have ha : ∀ (q : Qr), ((∀ m n, q = .ok m n → 1 ≤ n ∧ n ≤ r.length) ∧ (∀ n, q = .bad n → n < r.length)) →
        ((∀ m n, q.adv = .ok m n → 1 ≤ n ∧ n ≤ (c :: r).length) ∧ (∀ n, q.adv = .bad n → n < (c :: r).length)) := by
      intro q hq
      cases q with
      | ok m n =>
        refine ⟨fun m' n' h => ?_, fun n' h => by simp [Qr.adv] at h⟩
        simp only [Qr.adv, Qr.ok.injEq] at h
        have := (hq.1 m n rfl).2
        simp only [List.length_cons]; omega
      | bad n =>
        refine ⟨fun m' n' h => by simp [Qr.adv] at h, fun n' h => ?_⟩
        simp only [Qr.adv, Qr.bad.injEq] at h
        have := hq.2 n rfl
        simp only [List.length_cons]; omega
      | opn => exact ⟨fun m' n' h => by simp [Qr.adv] at h, fun n' h => by simp [Qr.adv] at h⟩
    have hp : ∀ (x : Int) (q : Qr), ((∀ m n, q = .ok m n → 1 ≤ n ∧ n ≤ r.length) ∧ (∀ n, q = .bad n → n < r.length)) →
        ((∀ m n, q.put x = .ok m n → 1 ≤ n ∧ n ≤ r.length) ∧ (∀ n, q.put x = .bad n → n < r.length)) := by
      intro x q hq
      cases q with
      | ok m n =>
        refine ⟨fun m' n' h => ?_, fun n' h => by simp [Qr.put] at h⟩
        simp only [Qr.put, Qr.ok.injEq] at h
        have := hq.1 m n rfl
        omega
      | bad n =>
        refine ⟨fun m' n' h => by simp [Qr.put] at h, fun n' h => ?_⟩
        simp only [Qr.put, Qr.bad.injEq] at h
        have := hq.2 n rfl
        omega
      | opn => exact ⟨fun m' n' h => by simp [Qr.put] at h, fun n' h => by simp [Qr.put] at h⟩
    cases k with
    | succ k => simp only [quot]; exact ha _ (ih k)
    | zero =>
      simp only [quot]
      split
      · refine ⟨fun m n h => ?_, fun n h => by simp at h⟩
        simp only [Qr.ok.injEq] at h; simp only [List.length_cons]; omega
      · split
        · split
          · refine ⟨fun m n h => by simp at h, fun n h => ?_⟩
            simp only [Qr.bad.injEq] at h; simp only [List.length_cons]; omega
          · exact ha _ (hp _ _ (ih _))
        · split
          · refine ⟨fun m n h => by simp at h, fun n h => ?_⟩
            simp only [Qr.bad.injEq] at h; simp only [List.length_cons]; omega
          · exact ha _ (hp _ _ (ih _))

theorem lex_len {c : Int} {r : List Int} {k : Int} {t : List Int} {n : Int} {len : Nat} (h : lex c r = .tok k t n len) : 1 ≤ len ∧ len ≤ r.length + 1 := by
  have hr := run_le r
  unfold lex at h
  split at h
  · split at h
    · rename_i hs
      simp only [Lx.tok.injEq] at h
      have : (c :: run r).length = 4 := by rw [hs]; rfl
      simp only [List.length_cons] at this
      omega
    · simp only [Lx.tok.injEq] at h; omega
  · split at h
    · simp only [Lx.tok.injEq] at h; omega
    · split at h
      · split at h
        · simp only [Lx.tok.injEq] at h; omega
        · simp at h
      · split at h
        · split at h
          · rename_i m j hq
            have := (quot_bd 0 r).1 _ _ hq
            simp only [Lx.tok.injEq] at h
            omega
          · simp at h
          · simp at h
        · unfold signs at h
          split at h
          · split at h
            · simp only [Lx.tok.injEq] at h; simp only [List.length_cons]; omega
            · split at h
              · simp only [Lx.tok.injEq] at h; omega
              · simp at h
          · split at h
            · simp only [Lx.tok.injEq] at h; omega
            · simp at h

theorem lex_off {c : Int} {r : List Int} {e : Int} {off : Nat} (h : lex c r = .bad e off) : off ≤ r.length ∧ (e = 42 ∧ off = 0 ∨ e = 43 ∧ off = 0 ∨ e = 44 ∧ 1 ≤ off ∨ e = 45 ∧ off = 0) := by
  unfold lex at h
  split at h
  · split at h <;> simp at h
  · split at h
    · simp at h
    · split at h
      · split at h
        · simp at h
        · simp only [Lx.bad.injEq] at h; omega
      · split at h
        · split at h
          · simp at h
          · rename_i j hq
            have := (quot_bd 0 r).2 _ hq
            simp only [Lx.bad.injEq] at h
            omega
          · simp only [Lx.bad.injEq] at h; omega
        · unfold signs at h
          split at h
          · split at h
            · simp at h
            · split at h
              · simp at h
              · simp only [Lx.bad.injEq] at h; omega
          · split at h
            · simp at h
            · simp only [Lx.bad.injEq] at h; omega

theorem cut_skip : ∀ (n : Nat) (at_ : Int) (l : List Int), n ≤ l.length → cut n at_ l = cut 0 (at_ + n) (l.drop n) := by
  intro n
  induction n with
  | zero => intro at_ l _; simp
  | succ n ih =>
    intro at_ l h
    cases l with
    | nil => simp at h
    | cons c r =>
      simp only [cut, List.drop_succ_cons]
      rw [ih (at_ + 1) r (by simpa using h)]
      congr 1
      omega

theorem cut_nil (n : Nat) (at_ : Int) : cut n at_ [] = ⟨[], 0, 0⟩ := by cases n <;> rfl

theorem rem_le (r : List Int) : rem r ≤ r.length := by
  induction r with
  | nil => simp [rem]
  | cons c r ih =>
    simp only [rem]
    split <;> simp only [List.length_cons] <;> omega

theorem cut_tok {c : Int} {r : List Int} {k : Int} {t : List Int} {n : Int} {len : Nat} (at_ : Int) (hb : bl c = false) (hc : c ≠ 37) (h : lex c r = .tok k t n len) :
    cut 0 at_ (c :: r) = (cut 0 (at_ + len) ((c :: r).drop len)).cons ⟨k, t, n, at_, at_ + len⟩ := by
  have hl := lex_len h
  simp only [cut, hb, hc, h, if_false, Bool.false_eq_true]
  rw [cut_skip _ _ _ (by omega)]
  obtain ⟨m, rfl⟩ : ∃ m, len = m + 1 := ⟨len - 1, by omega⟩
  simp only [Nat.add_sub_cancel, List.drop_succ_cons]
  congr 2
  omega
theorem cut_bad {c : Int} {r : List Int} {e : Int} {off : Nat} (at_ : Int) (hb : bl c = false) (hc : c ≠ 37) (h : lex c r = .bad e off) :
    cut 0 at_ (c :: r) = ⟨[], e, at_ + off⟩ := by
  simp only [cut, hb, hc, h, if_false, Bool.false_eq_true]
theorem cut_bl {c : Int} {r : List Int} (at_ : Int) (hb : bl c = true) : cut 0 at_ (c :: r) = cut 0 (at_ + 1) r := by
  simp only [cut, hb, if_true]
theorem cut_rem {r : List Int} (at_ : Int) : cut 0 at_ (37 :: r) = cut 0 (at_ + 1 + rem r) (r.drop (rem r)) := by
  have : bl 37 = false := rfl
  simp only [cut, this, if_true, Bool.false_eq_true, if_false]
  rw [cut_skip _ _ _ (rem_le r)]

/-- may this stand right behind a token of that kind? -/
def stop (k : Int) (b : List Int) : Prop := ((k = 1 ∨ k = 2 ∨ k = 4 ∨ k = 5) → halts b = true) ∧ (k = 15 → b.head? ≠ some 61)

theorem stop_nil (k : Int) : stop k [] := ⟨fun _ => rfl, fun _ => by simp⟩

theorem esc_cases (r : List Int) : esc r = (0, 0) ∨ (∃ c x, r = c :: x ∧ (c = 34 ∨ c = 92) ∧ esc r = (c, 1)) ∨ (∃ x, r = 110 :: x ∧ esc r = (10, 1)) ∨ (∃ x, r = 116 :: x ∧ esc r = (9, 1)) ∨
    (∃ a b x, r = 120 :: a :: b :: x ∧ 0 ≤ hx a ∧ 0 ≤ hx b ∧ esc r = (16 * hx a + hx b, 3)) := by
  cases r with
  | nil => exact .inl rfl
  | cons c r =>
    by_cases h1 : c = 34 ∨ c = 92
    · exact .inr (.inl ⟨c, r, rfl, h1, by simp only [esc, if_pos h1]⟩)
    · by_cases h2 : c = 110
      · subst h2; exact .inr (.inr (.inl ⟨r, rfl, rfl⟩))
      · by_cases h3 : c = 116
        · subst h3; exact .inr (.inr (.inr (.inl ⟨r, rfl, rfl⟩)))
        · by_cases h4 : c = 120
          · subst h4
            match r with
            | [] => exact .inl rfl
            | [a] => exact .inl rfl
            | a :: b :: x =>
              by_cases h5 : 0 ≤ hx a ∧ 0 ≤ hx b
              · exact .inr (.inr (.inr (.inr ⟨a, b, x, rfl, h5.1, h5.2, by simp only [esc]; rw [if_neg (by decide), if_neg (by decide), if_neg (by decide), if_pos trivial, if_pos h5]⟩)))
              · exact .inl (by simp only [esc]; rw [if_neg (by decide), if_neg (by decide), if_neg (by decide), if_pos trivial, if_neg h5])
          · exact .inl (by simp only [esc]; rw [if_neg h1, if_neg h2, if_neg h3, if_neg h4])

theorem esc_append (r b : List Int) (h : (esc r).2 ≠ 0) : esc (r.take (esc r).2 ++ b) = esc r := by
  rcases esc_cases r with e | ⟨c, x, rfl, hc, e⟩ | ⟨x, rfl, e⟩ | ⟨x, rfl, e⟩ | ⟨a, d, x, rfl, ha, hb, e⟩
  · rw [e] at h; exact absurd rfl h
  · rw [e]; simp only [List.take_succ_cons, List.take_zero, List.cons_append, List.nil_append, esc, if_pos hc]
  · rw [e]; rfl
  · rw [e]; rfl
  · rw [e]; simp only [List.take_succ_cons, List.take_zero, List.cons_append, List.nil_append, esc]
    rw [if_neg (by decide), if_neg (by decide), if_neg (by decide), if_pos trivial, if_pos ⟨ha, hb⟩]

theorem esc_take (r b : List Int) (n : Nat) (h : (esc r).2 ≠ 0) (hn : (esc r).2 ≤ n) : esc (r.take n ++ b) = esc r := by
  have : r.take n = r.take (esc r).2 ++ (r.take n).drop (esc r).2 := by
    conv => lhs; rw [← List.take_append_drop (esc r).2 (r.take n)]
    rw [List.take_take, Nat.min_eq_left hn]
  rw [this, List.append_assoc, esc_append _ _ h]

/-- a quoted text ends where it ends, whatever stands behind -/
theorem quot_ok_at : ∀ (r : List Int) (k : Nat) (m : List Int) (n : Nat), quot k r = .ok m n → k < n ∧ ∀ b, quot k (r.take n ++ b) = .ok m n := by
  intro r
  induction r with
  | nil => intro k m n h; cases k <;> simp [quot] at h
  | cons c r ih =>
    intro k m n h
    cases k with
    | succ k =>
      simp only [quot] at h
      cases hq : quot k r with
      | ok m' n' =>
        rw [hq] at h; simp only [Qr.adv, Qr.ok.injEq] at h
        obtain ⟨rfl, rfl⟩ := h
        obtain ⟨h1, h2⟩ := ih k _ _ hq
        refine ⟨by omega, fun b => ?_⟩
        simp only [List.take_succ_cons, List.cons_append, quot, h2 b, Qr.adv]
      | bad n' => rw [hq] at h; simp [Qr.adv] at h
      | opn => rw [hq] at h; simp [Qr.adv] at h
    | zero =>
      simp only [quot] at h
      by_cases h1 : c = 34
      · rw [if_pos h1] at h
        simp only [Qr.ok.injEq] at h
        obtain ⟨rfl, rfl⟩ := h
        refine ⟨by omega, fun b => ?_⟩
        simp only [List.take_succ_cons, List.cons_append, quot, if_pos h1]
      · rw [if_neg h1] at h
        by_cases h2 : c = 92
        · rw [if_pos h2] at h
          by_cases h3 : (esc r).2 = 0
          · rw [if_pos h3] at h; simp at h
          · rw [if_neg h3] at h
            cases hq : quot (esc r).2 r with
            | ok m' n' =>
              rw [hq] at h; simp only [Qr.put, Qr.adv, Qr.ok.injEq] at h
              obtain ⟨rfl, rfl⟩ := h
              obtain ⟨h4, h5⟩ := ih _ _ _ hq
              refine ⟨by omega, fun b => ?_⟩
              simp only [List.take_succ_cons, List.cons_append, quot, if_neg h1, if_pos h2, esc_take r b n' h3 (by omega), if_neg h3, h5 b, Qr.put, Qr.adv]
            | bad n' => rw [hq] at h; simp [Qr.put, Qr.adv] at h
            | opn => rw [hq] at h; simp [Qr.put, Qr.adv] at h
        · rw [if_neg h2] at h
          by_cases h3 : c < 32 ∨ c = 127
          · rw [if_pos h3] at h; simp at h
          · rw [if_neg h3] at h
            cases hq : quot 0 r with
            | ok m' n' =>
              rw [hq] at h; simp only [Qr.put, Qr.adv, Qr.ok.injEq] at h
              obtain ⟨rfl, rfl⟩ := h
              obtain ⟨h4, h5⟩ := ih _ _ _ hq
              refine ⟨by omega, fun b => ?_⟩
              simp only [List.take_succ_cons, List.cons_append, quot, if_neg h1, if_neg h2, if_neg h3, h5 b, Qr.put, Qr.adv]
            | bad n' => rw [hq] at h; simp [Qr.put, Qr.adv] at h
            | opn => rw [hq] at h; simp [Qr.put, Qr.adv] at h

/-- the front of a fault inside of quotes is a text that doesn't end -/
theorem quot_bad_at : ∀ (r : List Int) (k : Nat) (n : Nat), quot k r = .bad n → k ≤ n ∧ quot k (r.take n) = .opn := by
  intro r
  induction r with
  | nil => intro k n h; cases k <;> simp [quot] at h
  | cons c r ih =>
    intro k n h
    cases k with
    | succ k =>
      simp only [quot] at h
      cases hq : quot k r with
      | bad n' =>
        rw [hq] at h; simp only [Qr.adv, Qr.bad.injEq] at h
        subst h
        obtain ⟨h1, h2⟩ := ih k _ hq
        refine ⟨by omega, ?_⟩
        simp only [List.take_succ_cons, quot, h2, Qr.adv]
      | ok m' n' => rw [hq] at h; simp [Qr.adv] at h
      | opn => rw [hq] at h; simp [Qr.adv] at h
    | zero =>
      refine ⟨Nat.zero_le _, ?_⟩
      simp only [quot] at h
      by_cases h1 : c = 34
      · rw [if_pos h1] at h; simp at h
      · rw [if_neg h1] at h
        by_cases h2 : c = 92
        · rw [if_pos h2] at h
          by_cases h3 : (esc r).2 = 0
          · rw [if_pos h3] at h; simp only [Qr.bad.injEq] at h; subst h; rfl
          · rw [if_neg h3] at h
            cases hq : quot (esc r).2 r with
            | bad n' =>
              rw [hq] at h; simp only [Qr.put, Qr.adv, Qr.bad.injEq] at h
              subst h
              obtain ⟨h4, h5⟩ := ih _ _ hq
              have he := esc_take r [] n' h3 (by omega)
              rw [List.append_nil] at he
              simp only [List.take_succ_cons, quot, if_neg h1, if_pos h2, he, if_neg h3, h5, Qr.put, Qr.adv]
            | ok m' n' => rw [hq] at h; simp [Qr.put, Qr.adv] at h
            | opn => rw [hq] at h; simp [Qr.put, Qr.adv] at h
        · rw [if_neg h2] at h
          by_cases h3 : c < 32 ∨ c = 127
          · rw [if_pos h3] at h; simp only [Qr.bad.injEq] at h; subst h; rfl
          · rw [if_neg h3] at h
            cases hq : quot 0 r with
            | bad n' =>
              rw [hq] at h; simp only [Qr.put, Qr.adv, Qr.bad.injEq] at h
              subst h
              obtain ⟨h4, h5⟩ := ih _ _ hq
              simp only [List.take_succ_cons, quot, if_neg h1, if_neg h2, if_neg h3, h5, Qr.put, Qr.adv]
            | ok m' n' => rw [hq] at h; simp [Qr.put, Qr.adv] at h
            | opn => rw [hq] at h; simp [Qr.put, Qr.adv] at h

/-- THE TOKEN STAYS, whatever stands behind it that may stand there -/
theorem lex_stop {c : Int} {r : List Int} {k : Int} {t : List Int} {n : Int} {len : Nat} (h : lex c r = .tok k t n len) (b : List Int) (hb : stop k b) :
    lex c (r.take (len - 1) ++ b) = .tok k t n len := by
  have hrun : halts b = true → run (r.take (run r).length ++ b) = run r := fun hb => by rw [run_take]; exact run_append_stop _ _ (run_run r) hb
  unfold lex at h ⊢
  by_cases h1 : sm c = true
  · rw [if_pos h1] at h ⊢
    by_cases h2 : c :: run r = says
    · rw [if_pos h2] at h
      have hl : (run r).length = 3 := by have : (c :: run r).length = 4 := by rw [h2]; rfl
                                         simpa using this
      simp only [Lx.tok.injEq] at h
      obtain ⟨rfl, rfl, rfl, rfl⟩ := h
      have := hrun (hb.1 (by decide))
      rw [hl] at this
      rw [show 4 - 1 = 3 from rfl, this, if_pos h2]
    · rw [if_neg h2] at h
      simp only [Lx.tok.injEq] at h
      obtain ⟨rfl, rfl, rfl, rfl⟩ := h
      rw [Nat.add_sub_cancel, hrun (hb.1 (by decide)), if_neg h2]
  · rw [if_neg h1] at h ⊢
    by_cases h2 : gr c = true
    · rw [if_pos h2] at h ⊢
      simp only [Lx.tok.injEq] at h
      obtain ⟨rfl, rfl, rfl, rfl⟩ := h
      rw [Nat.add_sub_cancel, hrun (hb.1 (by decide))]
    · rw [if_neg h2] at h ⊢
      by_cases h3 : dg c = true ∨ c = 45
      · rw [if_pos h3] at h ⊢
        split at h
        · rename_i v hv
          simp only [Lx.tok.injEq] at h
          obtain ⟨rfl, rfl, rfl, rfl⟩ := h
          rw [Nat.add_sub_cancel, hrun (hb.1 (by decide)), hv]
        · simp at h
      · rw [if_neg h3] at h ⊢
        by_cases h4 : c = 34
        · rw [if_pos h4] at h ⊢
          split at h
          · rename_i m j hq
            simp only [Lx.tok.injEq] at h
            obtain ⟨rfl, rfl, rfl, rfl⟩ := h
            rw [Nat.add_sub_cancel, (quot_ok_at r 0 m j hq).2 b]
          · simp at h
          · simp at h
        · rw [if_neg h4] at h ⊢
          unfold signs at h
          cases r with
          | nil =>
            simp only at h
            by_cases h5 : sign1 c ≠ 0
            · rw [if_pos h5] at h
              simp only [Lx.tok.injEq] at h
              obtain ⟨rfl, rfl, rfl, rfl⟩ := h
              simp only [List.take_nil, List.nil_append]
              unfold signs
              cases b with
              | nil => simp only [if_pos h5]
              | cons d b =>
                simp only
                have : sign2 c d = 0 := by
                  unfold sign2
                  unfold sign1 at h5
                  by_cases e1 : c = 58
                  · subst e1; simp at h5
                  · by_cases e2 : c = 33
                    · subst e2; simp at h5
                    · by_cases e3 : c = 60
                      · subst e3
                        have := hb.2 (by simp [sign1])
                        simp only [List.head?_cons, ne_eq, Option.some.injEq] at this
                        simp [this]
                      · simp [e1, e2, e3]
                rw [if_neg (by simp [this]), if_pos h5]
            · rw [if_neg h5] at h; simp at h
          | cons d r =>
            simp only at h
            by_cases h5 : sign2 c d ≠ 0
            · rw [if_pos h5] at h
              simp only [Lx.tok.injEq] at h
              obtain ⟨rfl, rfl, rfl, rfl⟩ := h
              simp only [List.take_succ_cons, List.take_zero, List.cons_append, List.nil_append, signs, if_pos h5]
            · rw [if_neg h5] at h
              by_cases h6 : sign1 c ≠ 0
              · rw [if_pos h6] at h
                simp only [Lx.tok.injEq] at h
                obtain ⟨rfl, rfl, rfl, rfl⟩ := h
                simp only [Nat.sub_self, List.take_zero, List.nil_append]
                unfold signs
                cases b with
                | nil => simp only [if_pos h6]
                | cons d' b =>
                  simp only
                  have : sign2 c d' = 0 := by
                    unfold sign2
                    unfold sign1 at h6
                    by_cases e1 : c = 58
                    · subst e1; simp at h6
                    · by_cases e2 : c = 33
                      · subst e2; simp at h6
                      · by_cases e3 : c = 60
                        · subst e3
                          have := hb.2 (by simp [sign1])
                          simp only [List.head?_cons, ne_eq, Option.some.injEq] at this
                          simp [this]
                        · simp [e1, e2, e3]
                  rw [if_neg (by simp [this]), if_pos h6]
              · rw [if_neg h6] at h; simp at h

end Go.Proofs.YtgeheffhdpeddaaDoor.Tk

/- PLAIN: numbers and their decimal digits; spellings are read as their tokens, and tokens that are read have spellings. Conditions: none. -/
namespace Go.Proofs.YtgeheffhdpeddaaDoor.Tk

theorem decN_acc : ∀ (f n : Nat) (acc : List Int), decN f n acc = decN f n [] ++ acc := by
  intro f
  induction f with
  | zero => intro n acc; rfl
  | succ f ih =>
    intro n acc
    simp only [decN]
    split
    · rfl
    · rw [ih _ (_ :: acc), ih _ [_], List.append_assoc]; rfl

theorem decN_step (f n : Nat) (h : ¬ n < 10) : decN (f + 1) n [] = decN f (n / 10) [] ++ [48 + ((n % 10 : Nat) : Int)] := by
  simp only [decN, if_neg h]; rw [decN_acc]
theorem decN_one (f n : Nat) (h : n < 10) : decN (f + 1) n [] = [48 + (n : Int)] := by simp only [decN, if_pos h]

theorem val_acc (l : List Int) (d : Int) : ∀ a, val a (l ++ [d]) = 10 * val a l + (d - 48).toNat := by
  induction l with
  | nil => intro a; rfl
  | cons c r ih => intro a; simp only [List.cons_append, val]; exact ih _

theorem alld_append (a b : List Int) : alld (a ++ b) = (alld a && alld b) := by
  induction a with
  | nil => simp [alld]
  | cons c r ih => simp only [List.cons_append, alld, ih, Bool.and_assoc]

theorem alld_run (l : List Int) (h : alld l = true) : run l = l := by
  induction l with
  | nil => rfl
  | cons c r ih =>
    simp only [alld, Bool.and_eq_true] at h
    have : rn c = true := by simp [rn, h.1]
    simp only [run, this, if_true, ih h.2]

theorem dg_iff (c : Int) : dg c = true ↔ 48 ≤ c ∧ c ≤ 57 := by simp [dg]

theorem decN_val : ∀ (f n : Nat), n < 10 ^ f → 0 < f → ∃ c r, decN f n [] = c :: r ∧ alld (c :: r) = true ∧ val 0 (c :: r) = n ∧ (n ≠ 0 → c ≠ 48) := by
  intro f
  induction f with
  | zero => intro n _ h; omega
  | succ f ih =>
    intro n hn _
    by_cases h : n < 10
    · refine ⟨48 + (n : Int), [], decN_one f n h, ?_, ?_, ?_⟩
      · simp [alld, dg]; omega
      · simp only [val]; omega
      · omega
    · have hf : 0 < f := by
        rcases Nat.eq_zero_or_pos f with h0 | h0
        · subst h0; simp at hn; omega
        · exact h0
      obtain ⟨c, r, e1, e2, e3, e4⟩ := ih (n / 10) (by rw [Nat.pow_succ] at hn; exact Nat.div_lt_of_lt_mul (by rw [Nat.mul_comm]; exact hn)) hf
      refine ⟨c, r ++ [48 + ((n % 10 : Nat) : Int)], by rw [decN_step f n h, e1]; rfl, ?_, ?_, fun _ => e4 (by omega)⟩
      · rw [← List.cons_append, alld_append, e2]; simp [alld, dg]; omega
      · rw [← List.cons_append, val_acc, e3]; omega

theorem snoc_ind {P : List Int → Prop} (h0 : P []) (h1 : ∀ l d, P l → P (l ++ [d])) (l : List Int) : P l := by
  have : ∀ m : List Int, P m.reverse := by
    intro m
    induction m with
    | nil => exact h0
    | cons d m ih => rw [List.reverse_cons]; exact h1 _ _ ih
  have h := this l.reverse
  rwa [List.reverse_reverse] at h

theorem val_pos (c : Int) (r : List Int) (h : alld (c :: r) = true) (hc : c ≠ 48) : 1 ≤ val 0 (c :: r) := by
  have key : ∀ (l : List Int) (a : Nat), 1 ≤ a → 1 ≤ val a l := by
    intro l
    induction l with
    | nil => intro a h; exact h
    | cons c r ih => intro a h; simp only [val]; exact ih _ (by omega)
  simp only [alld, Bool.and_eq_true, dg_iff] at h
  simp only [val]
  exact key r _ (by omega)

theorem val_decN : ∀ (l : List Int) (f : Nat), alld l = true → l ≠ [] → l.head? ≠ some 48 → val 0 l < 10 ^ f → decN f (val 0 l) [] = l := by
  intro l
  refine snoc_ind (P := fun l => ∀ f, alld l = true → l ≠ [] → l.head? ≠ some 48 → val 0 l < 10 ^ f → decN f (val 0 l) [] = l) ?_ ?_ l
  · intro f _ h; exact absurd rfl h
  · intro l d ih f ha _ hh hv
    rw [alld_append, Bool.and_eq_true] at ha
    have hd : 48 ≤ d ∧ d ≤ 57 := by simpa [alld, dg] using ha.2
    cases l with
    | nil =>
      simp only [List.nil_append, List.head?_cons, ne_eq, Option.some.injEq] at hh
      simp only [List.nil_append, val] at hv ⊢
      cases f with
      | zero => simp at hv; omega
      | succ f =>
        rw [decN_one _ _ (by omega)]
        congr 1
        omega
    | cons c r =>
      have hc : c ≠ 48 := by simpa using hh
      have hp := val_pos c r ha.1 hc
      rw [val_acc] at hv ⊢
      cases f with
      | zero => simp at hv; omega
      | succ f =>
        have h1 : (10 * val 0 (c :: r) + (d - 48).toNat) / 10 = val 0 (c :: r) := by omega
        have h2 : (10 * val 0 (c :: r) + (d - 48).toNat) % 10 = (d - 48).toNat := by omega
        rw [decN_step _ _ (by omega), h1, h2, ih f ha.1 (by simp) (by simpa using hc) (by rw [Nat.pow_succ] at hv; omega)]
        congr 2
        omega

theorem nat?_some {l : List Int} {v : Nat} (h : nat? l = some v) : alld l = true ∧ l ≠ [] ∧ l.head? ≠ some 48 ∧ val 0 l = v ∧ 1 ≤ v := by
  unfold nat? at h
  cases l with
  | nil => simp at h
  | cons c r =>
    simp only at h
    split at h
    · simp at h
    · rename_i hc
      split at h
      · rename_i ha
        simp only [Option.some.injEq] at h
        have ha' : alld (c :: r) = true := ha
        refine ⟨ha', by simp, by simpa using hc, h, ?_⟩
        rw [← h]; exact val_pos c r ha' hc
      · simp at h

theorem nat?_decN (f n : Nat) (hn : n < 10 ^ f) (hf : 0 < f) (h0 : n ≠ 0) : nat? (decN f n []) = some n := by
  obtain ⟨c, r, e1, e2, e3, e4⟩ := decN_val f n hn hf
  rw [e1]
  unfold nat?
  have e2' : (dg c && alld r) = true := e2
  simp only [if_neg (e4 h0), e2', if_true, e3]

theorem num_inv {w : List Int} {n : Int} (h : num w = some n) : dec n = w ∧ -9223372036854775808 ≤ n ∧ n ≤ 9223372036854775807 := by
  unfold num at h
  split at h
  · rename_i hw
    simp only [Option.some.injEq] at h
    subst h; subst hw
    exact ⟨rfl, by omega, by omega⟩
  · cases w with
    | nil => simp at h
    | cons c r =>
      simp only at h
      split at h
      · rename_i hc
        cases hv : nat? r with
        | none => simp [hv] at h
        | some v =>
          simp only [hv] at h
          split at h
          · rename_i hle
            simp only [Option.some.injEq] at h
            obtain ⟨a1, a2, a3, a4, a5⟩ := nat?_some hv
            subst h
            refine ⟨?_, by omega, by omega⟩
            unfold dec
            rw [if_pos (by omega), show (-(v : Int)).natAbs = v from by omega, ← a4, val_decN r 20 a1 a2 a3 (by rw [a4]; omega), hc]
          · simp at h
      · cases hv : nat? (c :: r) with
        | none => simp [hv] at h
        | some v =>
          simp only [hv] at h
          split at h
          · rename_i hle
            simp only [Option.some.injEq] at h
            obtain ⟨a1, a2, a3, a4, a5⟩ := nat?_some hv
            subst h
            refine ⟨?_, by omega, by omega⟩
            unfold dec
            rw [if_neg (by omega), show ((v : Int)).natAbs = v from by omega, ← a4, val_decN (c :: r) 20 a1 a2 a3 (by rw [a4]; omega)]
          · simp at h

theorem num_dec {n : Int} (h1 : -9223372036854775808 ≤ n) (h2 : n ≤ 9223372036854775807) : num (dec n) = some n := by
  by_cases h0 : n = 0
  · subst h0; rfl
  · unfold dec
    split
    · rename_i hn
      have hv := nat?_decN 20 n.natAbs (by omega) (by omega) (by omega)
      unfold num
      rw [if_neg (by simp)]
      simp only [if_true, hv]
      rw [if_pos (by omega)]
      congr 1
      omega
    · rename_i hn
      have hv := nat?_decN 20 n.natAbs (by omega) (by omega) (by omega)
      obtain ⟨c, r, e1, e2, e3, e4⟩ := decN_val 20 n.natAbs (by omega) (by omega)
      rw [e1] at hv ⊢
      have hc : 48 ≤ c ∧ c ≤ 57 := by
        simp only [alld, Bool.and_eq_true, dg_iff] at e2; exact e2.1
      unfold num
      rw [if_neg (by intro h; simp only [List.cons.injEq] at h; exact e4 (by omega) h.1)]
      simp only [if_neg (show ¬ c = 45 by omega), hv]
      rw [if_pos (by omega)]
      congr 1
      omega

/-- the form of a number's digits -/
theorem dec_form {n : Int} (h1 : -9223372036854775808 ≤ n) (h2 : n ≤ 9223372036854775807) : ∃ c r, dec n = c :: r ∧ run r = r ∧ (dg c = true ∨ c = 45) ∧ (0 ≤ n → dg c = true) ∧ (n < 0 → c = 45) ∧ r.length ≤ 20 := by
  have key : ∀ f n, n < 10 ^ f → 0 < f → (decN f n []).length ≤ f := by
    intro f
    induction f with
    | zero => intro n _ h; omega
    | succ f ih =>
      intro n hn _
      by_cases h : n < 10
      · rw [decN_one _ _ h]; simp
      · have hf : 0 < f := by
          rcases Nat.eq_zero_or_pos f with h0 | h0
          · subst h0; simp at hn; omega
          · exact h0
        rw [decN_step _ _ h]
        have := ih (n / 10) (by rw [Nat.pow_succ] at hn; exact Nat.div_lt_of_lt_mul (by rw [Nat.mul_comm]; exact hn)) hf
        simp only [List.length_append, List.length_cons, List.length_nil]; omega
  obtain ⟨c, r, e1, e2, e3, e4⟩ := decN_val 20 n.natAbs (by omega) (by omega)
  have hl := key 20 n.natAbs (by omega) (by omega)
  unfold dec
  split
  · rename_i hn
    refine ⟨45, decN 20 n.natAbs [], rfl, ?_, .inr rfl, fun h => by omega, fun _ => rfl, hl⟩
    rw [e1]; exact alld_run _ e2
  · have e2' := e2
    simp only [alld, Bool.and_eq_true] at e2'
    refine ⟨c, r, e1, alld_run _ e2'.2, .inl e2'.1, fun _ => e2'.1, fun h => by omega, ?_⟩
    rw [e1] at hl; simp only [List.length_cons] at hl; omega

/-! ### quoted texts -/
def bytes (l : List Int) : Prop := ∀ c ∈ l, 0 ≤ c ∧ c ≤ 255

theorem hx_dig (x : Int) (h : 0 ≤ x ∧ x ≤ 15) : hx (dig x) = x := by
  have : x = 0 ∨ x = 1 ∨ x = 2 ∨ x = 3 ∨ x = 4 ∨ x = 5 ∨ x = 6 ∨ x = 7 ∨ x = 8 ∨ x = 9 ∨ x = 10 ∨ x = 11 ∨ x = 12 ∨ x = 13 ∨ x = 14 ∨ x = 15 := by omega
  rcases this with rfl | rfl | rfl | rfl | rfl | rfl | rfl | rfl | rfl | rfl | rfl | rfl | rfl | rfl | rfl | rfl <;> rfl
theorem hx_bd (c : Int) : -1 ≤ hx c ∧ hx c ≤ 15 := by
  unfold hx
  split
  · rename_i h; rw [dg_iff] at h; omega
  · split
    · omega
    · split <;> omega

theorem quot_byte (c : Int) (hc : 0 ≤ c ∧ c ≤ 255) (b : List Int) : quot 0 (qbyte c ++ b) = ((quot 0 b).put c).far (qbyte c).length := by
  have far1 : ∀ q : Qr, q.far 1 = q.adv := fun q => by cases q <;> rfl
  unfold qbyte
  split
  · rename_i h
    have he : esc (c :: b) = (c, 1) := by simp only [esc, if_pos h]
    simp only [List.cons_append, List.nil_append, quot, he]
    rw [if_neg (by decide), if_pos trivial, if_neg (by decide)]
    cases quot 0 b <;> rfl
  · rename_i h
    split
    · rename_i h10; subst h10
      have he : esc (110 :: b) = (10, 1) := rfl
      simp only [List.cons_append, List.nil_append, quot, he]
      rw [if_neg (by decide), if_pos trivial, if_neg (by decide)]
      cases quot 0 b <;> rfl
    · split
      · rename_i h9; subst h9
        have he : esc (116 :: b) = (9, 1) := rfl
        simp only [List.cons_append, List.nil_append, quot, he]
        rw [if_neg (by decide), if_pos trivial, if_neg (by decide)]
        cases quot 0 b <;> rfl
      · split
        · simp only [List.cons_append, List.nil_append, quot]
          rw [if_neg (by omega), if_neg (by omega), if_neg (by omega)]
          cases quot 0 b <;> rfl
        · have h1 := hx_dig (c / 16) (by omega)
          have h2 := hx_dig (c % 16) (by omega)
          have he : esc (120 :: dig (c / 16) :: dig (c % 16) :: b) = (c, 3) := by
            simp only [esc]
            rw [if_neg (by decide), if_neg (by decide), if_neg (by decide), if_pos trivial, if_pos (by omega), h1, h2]
            congr 1
            omega
          simp only [List.cons_append, List.nil_append, quot, he]
          rw [if_neg (by decide), if_pos trivial, if_neg (by decide)]
          cases quot 0 b <;> rfl

theorem quot_body (s : List Int) (hs : bytes s) (b : List Int) : quot 0 (qbody s ++ 34 :: b) = .ok s ((qbody s).length + 1) := by
  induction s with
  | nil => simp [qbody, quot]
  | cons c r ih =>
    simp only [qbody, List.append_assoc]
    rw [quot_byte c (hs c (by simp)), ih (fun x hx => hs x (by simp [hx]))]
    simp only [Qr.put, Qr.far, List.length_append, Qr.ok.injEq, true_and]
    omega

theorem qbyte_le (c : Int) : (qbyte c).length ≤ 4 := by
  unfold qbyte
  split
  · simp
  · split
    · simp
    · split
      · simp
      · split <;> simp
theorem qbody_le (s : List Int) : (qbody s).length ≤ 4 * s.length := by
  induction s with
  | nil => simp [qbody]
  | cons c r ih => have := qbyte_le c; simp only [qbody, List.length_append, List.length_cons]; omega
theorem quote_len (s : List Int) : (quote s).length = (qbody s).length + 2 := by simp [quote]

theorem quot_bytes : ∀ (r : List Int) (k : Nat) (m : List Int) (n : Nat), bytes r → quot k r = .ok m n → bytes m := by
  intro r
  induction r with
  | nil => intro k m n _ h; cases k <;> simp [quot] at h
  | cons c r ih =>
    intro k m n hb h
    have hb' : bytes r := fun x hx => hb x (by simp [hx])
    cases k with
    | succ k =>
      simp only [quot] at h
      cases hq : quot k r with
      | ok m' n' => rw [hq] at h; simp only [Qr.adv, Qr.ok.injEq] at h; rw [← h.1]; exact ih _ _ _ hb' hq
      | bad n' => rw [hq] at h; simp [Qr.adv] at h
      | opn => rw [hq] at h; simp [Qr.adv] at h
    | zero =>
      simp only [quot] at h
      split at h
      · simp only [Qr.ok.injEq] at h; rw [← h.1]; intro x hx; simp at hx
      · split at h
        · split at h
          · simp at h
          · cases hq : quot (esc r).2 r with
            | ok m' n' =>
              rw [hq] at h; simp only [Qr.put, Qr.adv, Qr.ok.injEq] at h
              have he : 0 ≤ (esc r).1 ∧ (esc r).1 ≤ 255 := by
                rcases esc_cases r with e | ⟨c, x, _, hc, e⟩ | ⟨x, _, e⟩ | ⟨x, _, e⟩ | ⟨a, d, x, _, ha, hd, e⟩ <;> rw [e] <;> simp only
                · omega
                · omega
                · omega
                · omega
                · have := hx_bd a; have := hx_bd d; omega
              rw [← h.1]
              intro x hx
              rcases List.mem_cons.1 hx with rfl | hx
              · exact he
              · exact ih _ _ _ hb' hq x hx
            | bad n' => rw [hq] at h; simp [Qr.put, Qr.adv] at h
            | opn => rw [hq] at h; simp [Qr.put, Qr.adv] at h
        · split at h
          · simp at h
          · cases hq : quot 0 r with
            | ok m' n' =>
              rw [hq] at h; simp only [Qr.put, Qr.adv, Qr.ok.injEq] at h
              rw [← h.1]
              intro x hx
              rcases List.mem_cons.1 hx with rfl | hx
              · exact hb _ (by simp)
              · exact ih _ _ _ hb' hq x hx
            | bad n' => rw [hq] at h; simp [Qr.put, Qr.adv] at h
            | opn => rw [hq] at h; simp [Qr.put, Qr.adv] at h

end Go.Proofs.YtgeheffhdpeddaaDoor.Tk

/- PLAIN: a token's form; spellings and tokens; texts joined. Conditions: none. -/
namespace Go.Proofs.YtgeheffhdpeddaaDoor.Tk

/-- the forms of a token -/
theorem lex_inv {c : Int} {r : List Int} {k : Int} {t : List Int} {n : Int} {len : Nat} (h : lex c r = .tok k t n len) :
    (k = 5 ∧ t = [] ∧ n = 0 ∧ sm c = true ∧ c :: run r = says ∧ len = 4) ∨
    (k = 1 ∧ t = c :: run r ∧ n = 0 ∧ sm c = true ∧ c :: run r ≠ says ∧ len = (run r).length + 1) ∨
    (k = 2 ∧ t = c :: run r ∧ n = 0 ∧ sm c = false ∧ gr c = true ∧ len = (run r).length + 1) ∨
    (k = 4 ∧ t = [] ∧ sm c = false ∧ gr c = false ∧ (dg c = true ∨ c = 45) ∧ num (c :: run r) = some n ∧ len = (run r).length + 1) ∨
    (k = 3 ∧ n = 0 ∧ c = 34 ∧ ∃ j, quot 0 r = .ok t j ∧ len = j + 1) ∨
    (t = [] ∧ n = 0 ∧ len = 2 ∧ ∃ d x, r = d :: x ∧ (k = 11 ∧ c = 58 ∧ d = 45 ∨ k = 14 ∧ c = 33 ∧ d = 61 ∨ k = 16 ∧ c = 60 ∧ d = 61)) ∨
    (t = [] ∧ n = 0 ∧ len = 1 ∧ (k = 6 ∧ c = 40 ∨ k = 7 ∧ c = 41 ∨ k = 8 ∧ c = 44 ∨ k = 9 ∧ c = 59 ∨ k = 10 ∧ c = 46 ∨ k = 12 ∧ c = 63 ∨ k = 13 ∧ c = 61 ∨ k = 15 ∧ c = 60 ∧ r.head? ≠ some 61)) := by
  have s1 : ∀ c, sign1 c ≠ 0 → (sign1 c = 6 ∧ c = 40 ∨ sign1 c = 7 ∧ c = 41 ∨ sign1 c = 8 ∧ c = 44 ∨ sign1 c = 9 ∧ c = 59 ∨ sign1 c = 10 ∧ c = 46 ∨ sign1 c = 12 ∧ c = 63 ∨ sign1 c = 13 ∧ c = 61 ∨ sign1 c = 15 ∧ c = 60) := by
    intro c hc
    unfold sign1 at hc ⊢
    by_cases e1 : c = 40
    · subst e1; exact .inl ⟨rfl, rfl⟩
    · by_cases e2 : c = 41
      · subst e2; exact .inr (.inl ⟨rfl, rfl⟩)
      · by_cases e3 : c = 44
        · subst e3; exact .inr (.inr (.inl ⟨rfl, rfl⟩))
        · by_cases e4 : c = 59
          · subst e4; exact .inr (.inr (.inr (.inl ⟨rfl, rfl⟩)))
          · by_cases e5 : c = 46
            · subst e5; exact .inr (.inr (.inr (.inr (.inl ⟨rfl, rfl⟩))))
            · by_cases e6 : c = 63
              · subst e6; exact .inr (.inr (.inr (.inr (.inr (.inl ⟨rfl, rfl⟩)))))
              · by_cases e7 : c = 61
                · subst e7; exact .inr (.inr (.inr (.inr (.inr (.inr (.inl ⟨rfl, rfl⟩))))))
                · by_cases e8 : c = 60
                  · subst e8; exact .inr (.inr (.inr (.inr (.inr (.inr (.inr ⟨rfl, rfl⟩))))))
                  · simp [e1, e2, e3, e4, e5, e6, e7, e8] at hc
  have s2 : ∀ c d, sign2 c d ≠ 0 → (sign2 c d = 11 ∧ c = 58 ∧ d = 45 ∨ sign2 c d = 14 ∧ c = 33 ∧ d = 61 ∨ sign2 c d = 16 ∧ c = 60 ∧ d = 61) := by
    intro c d hc
    unfold sign2 at hc ⊢
    by_cases e1 : c = 58 ∧ d = 45
    · obtain ⟨rfl, rfl⟩ := e1; exact .inl ⟨rfl, rfl, rfl⟩
    · by_cases e2 : c = 33 ∧ d = 61
      · obtain ⟨rfl, rfl⟩ := e2; exact .inr (.inl ⟨rfl, rfl, rfl⟩)
      · by_cases e3 : c = 60 ∧ d = 61
        · obtain ⟨rfl, rfl⟩ := e3; exact .inr (.inr ⟨rfl, rfl, rfl⟩)
        · rw [if_neg e1, if_neg e2, if_neg e3] at hc; exact absurd rfl hc
  unfold lex at h
  by_cases h1 : sm c = true
  · rw [if_pos h1] at h
    by_cases h2 : c :: run r = says
    · rw [if_pos h2] at h
      simp only [Lx.tok.injEq] at h
      obtain ⟨rfl, rfl, rfl, rfl⟩ := h
      exact .inl ⟨rfl, rfl, rfl, h1, h2, rfl⟩
    · rw [if_neg h2] at h
      simp only [Lx.tok.injEq] at h
      obtain ⟨rfl, rfl, rfl, rfl⟩ := h
      exact .inr (.inl ⟨rfl, rfl, rfl, h1, h2, rfl⟩)
  · rw [if_neg h1] at h
    have h1' : sm c = false := by simpa using h1
    by_cases h2 : gr c = true
    · rw [if_pos h2] at h
      simp only [Lx.tok.injEq] at h
      obtain ⟨rfl, rfl, rfl, rfl⟩ := h
      exact .inr (.inr (.inl ⟨rfl, rfl, rfl, h1', h2, rfl⟩))
    · rw [if_neg h2] at h
      have h2' : gr c = false := by simpa using h2
      by_cases h3 : dg c = true ∨ c = 45
      · rw [if_pos h3] at h
        split at h
        · rename_i v hv
          simp only [Lx.tok.injEq] at h
          obtain ⟨rfl, rfl, rfl, rfl⟩ := h
          exact .inr (.inr (.inr (.inl ⟨rfl, rfl, h1', h2', h3, hv, rfl⟩)))
        · simp at h
      · rw [if_neg h3] at h
        by_cases h4 : c = 34
        · rw [if_pos h4] at h
          split at h
          · rename_i m j hq
            simp only [Lx.tok.injEq] at h
            obtain ⟨rfl, rfl, rfl, rfl⟩ := h
            exact .inr (.inr (.inr (.inr (.inl ⟨rfl, rfl, h4, j, hq, rfl⟩))))
          · simp at h
          · simp at h
        · rw [if_neg h4] at h
          unfold signs at h
          cases r with
          | nil =>
            simp only at h
            by_cases h5 : sign1 c ≠ 0
            · rw [if_pos h5] at h
              simp only [Lx.tok.injEq] at h
              obtain ⟨rfl, rfl, rfl, rfl⟩ := h
              refine .inr (.inr (.inr (.inr (.inr (.inr ⟨rfl, rfl, rfl, ?_⟩)))))
              rcases s1 c h5 with ⟨e, rfl⟩ | ⟨e, rfl⟩ | ⟨e, rfl⟩ | ⟨e, rfl⟩ | ⟨e, rfl⟩ | ⟨e, rfl⟩ | ⟨e, rfl⟩ | ⟨e, rfl⟩ <;> simp [sign1]
            · rw [if_neg h5] at h; simp at h
          | cons d x =>
            simp only at h
            by_cases h6 : sign2 c d ≠ 0
            · rw [if_pos h6] at h
              simp only [Lx.tok.injEq] at h
              obtain ⟨rfl, rfl, rfl, rfl⟩ := h
              exact .inr (.inr (.inr (.inr (.inr (.inl ⟨rfl, rfl, rfl, d, x, rfl, s2 c d h6⟩)))))
            · rw [if_neg h6] at h
              by_cases h5 : sign1 c ≠ 0
              · rw [if_pos h5] at h
                simp only [Lx.tok.injEq] at h
                obtain ⟨rfl, rfl, rfl, rfl⟩ := h
                refine .inr (.inr (.inr (.inr (.inr (.inr ⟨rfl, rfl, rfl, ?_⟩)))))
                rcases s1 c h5 with ⟨e, rfl⟩ | ⟨e, rfl⟩ | ⟨e, rfl⟩ | ⟨e, rfl⟩ | ⟨e, rfl⟩ | ⟨e, rfl⟩ | ⟨e, rfl⟩ | ⟨e, rfl⟩ <;> simp [sign1]
                intro hd
                subst hd
                exact h6 (by decide)
              · rw [if_neg h5] at h; simp at h

/-- the head of a token is neither a blank nor a remark's -/
theorem lex_head {c : Int} {r : List Int} {k : Int} {t : List Int} {n : Int} {len : Nat} (h : lex c r = .tok k t n len) : bl c = false ∧ c ≠ 37 := by
  have : (65 ≤ c ∧ c ≤ 122) ∨ (48 ≤ c ∧ c ≤ 57) ∨ c = 45 ∨ c = 34 ∨ c = 58 ∨ c = 33 ∨ c = 60 ∨ c = 40 ∨ c = 41 ∨ c = 44 ∨ c = 59 ∨ c = 46 ∨ c = 63 ∨ c = 61 := by
    rcases lex_inv h with ⟨_, _, _, h, _⟩ | ⟨_, _, _, h, _⟩ | ⟨_, _, _, _, h, _⟩ | ⟨_, _, _, _, h, _⟩ | ⟨_, _, h, _⟩ | ⟨_, _, _, d, x, _, h⟩ | ⟨_, _, _, h⟩
    · simp only [sm, Bool.and_eq_true, decide_eq_true_eq] at h; omega
    · simp only [sm, Bool.and_eq_true, decide_eq_true_eq] at h; omega
    · simp only [gr, Bool.and_eq_true, Bool.or_eq_true, decide_eq_true_eq] at h; omega
    · rw [dg_iff] at h; omega
    · omega
    · omega
    · omega
  simp only [bl, Bool.or_eq_false_iff, decide_eq_false_iff_not]
  omega

theorem spell_lex {k : Int} {t : List Int} {n : Int} {w : List Int} (h : spell k t n = some w) (hn : -9223372036854775808 ≤ n ∧ n ≤ 9223372036854775807) (ht : bytes t) :
    ∃ c r, w = c :: r ∧ lex c r = .tok k t n (r.length + 1) := by
  unfold spell at h
  by_cases h1 : k = 1
  · rw [if_pos h1] at h
    by_cases h2 : n = 0 ∧ word t = true
    · rw [if_pos h2] at h
      simp only [Option.some.injEq] at h
      obtain ⟨rfl, h2⟩ := h2
      subst h
      cases t with
      | nil => simp [word] at h2
      | cons c r =>
        simp only [word, Bool.and_eq_true, decide_eq_true_eq] at h2
        refine ⟨c, r, rfl, ?_⟩
        unfold lex
        rw [if_pos h2.1.1, h2.1.2, if_neg h2.2, h1]
    · rw [if_neg h2] at h; simp at h
  · rw [if_neg h1] at h
    by_cases h1 : k = 2
    · rw [if_pos h1] at h
      by_cases h2 : n = 0 ∧ vari t = true
      · rw [if_pos h2] at h
        simp only [Option.some.injEq] at h
        obtain ⟨rfl, h2⟩ := h2
        subst h
        cases t with
        | nil => simp [vari] at h2
        | cons c r =>
          simp only [vari, Bool.and_eq_true, decide_eq_true_eq] at h2
          refine ⟨c, r, rfl, ?_⟩
          have : sm c ≠ true := by
            have := h2.1
            simp only [gr, sm, ne_eq, Bool.and_eq_true, Bool.or_eq_true, decide_eq_true_eq] at this ⊢
            omega
          unfold lex
          rw [if_neg this, if_pos h2.1, h2.2, h1]
      · rw [if_neg h2] at h; simp at h
    · rw [if_neg h1] at h
      by_cases h1 : k = 3
      · rw [if_pos h1] at h
        by_cases h2 : n = 0
        · rw [if_pos h2] at h
          simp only [Option.some.injEq] at h
          subst h; subst h2
          refine ⟨34, qbody t ++ [34], rfl, ?_⟩
          unfold lex
          rw [if_neg (by decide), if_neg (by decide), if_neg (by decide), if_pos rfl, quot_body t ht []]
          simp [h1]
        · rw [if_neg h2] at h; simp at h
      · rw [if_neg h1] at h
        by_cases h1 : k = 4
        · rw [if_pos h1] at h
          by_cases h2 : t = []
          · rw [if_pos h2] at h
            simp only [Option.some.injEq] at h
            obtain ⟨c, r, e1, e2, e3, e4, e5, _⟩ := dec_form hn.1 hn.2
            refine ⟨c, r, by rw [← h, e1], ?_⟩
            have hc : (48 ≤ c ∧ c ≤ 57) ∨ c = 45 := by rwa [dg_iff] at e3
            unfold lex
            rw [if_neg (by simp only [sm, Bool.and_eq_true, decide_eq_true_eq]; omega), if_neg (by simp only [gr, Bool.and_eq_true, Bool.or_eq_true, decide_eq_true_eq]; omega), if_pos e3, e2, ← e1, num_dec hn.1 hn.2, h1, h2]
          · rw [if_neg h2] at h; simp at h
        · rw [if_neg h1] at h
          by_cases h1 : 5 ≤ k ∧ k ≤ 16
          · rw [if_pos h1] at h
            by_cases h2 : t = [] ∧ n = 0
            · rw [if_pos h2] at h
              simp only [Option.some.injEq] at h
              obtain ⟨rfl, rfl⟩ := h2
              have : k = 5 ∨ k = 6 ∨ k = 7 ∨ k = 8 ∨ k = 9 ∨ k = 10 ∨ k = 11 ∨ k = 12 ∨ k = 13 ∨ k = 14 ∨ k = 15 ∨ k = 16 := by omega
              subst h
              rcases this with rfl | rfl | rfl | rfl | rfl | rfl | rfl | rfl | rfl | rfl | rfl | rfl <;> exact ⟨_, _, rfl, rfl⟩
            · rw [if_neg h2] at h; simp at h
          · rw [if_neg h1] at h; simp at h

theorem lex_spell {c : Int} {r : List Int} {k : Int} {t : List Int} {n : Int} {len : Nat} (h : lex c r = .tok k t n len) (hb : bytes (c :: r)) :
    (∃ w, spell k t n = some w) ∧ bytes t ∧ (-9223372036854775808 ≤ n ∧ n ≤ 9223372036854775807) := by
  have hrun : bytes (c :: run r) := by
    obtain ⟨b, e, _⟩ := run_split r
    intro x hx
    rcases List.mem_cons.1 hx with rfl | hx
    · exact hb _ (by simp)
    · exact hb x (by rw [e]; simp [hx])
  have hnil : bytes [] := fun x hx => by simp at hx
  rcases lex_inv h with ⟨rfl, rfl, rfl, h1, h2, _⟩ | ⟨rfl, rfl, rfl, h1, h2, _⟩ | ⟨rfl, rfl, rfl, _, h1, _⟩ | ⟨rfl, rfl, _, _, _, h1, _⟩ | ⟨rfl, rfl, h1, j, hq, _⟩ | ⟨rfl, rfl, _, d, x, _, h1⟩ | ⟨rfl, rfl, _, h1⟩
  · exact ⟨⟨_, rfl⟩, hnil, by omega⟩
  · refine ⟨⟨c :: run r, ?_⟩, hrun, by omega⟩
    simp [spell, word, run_run, h1, h2]
  · refine ⟨⟨c :: run r, ?_⟩, hrun, by omega⟩
    simp [spell, vari, run_run, h1]
  · refine ⟨⟨dec n, ?_⟩, hnil, ?_⟩
    · simp [spell]
    · have := num_inv h1; omega
  · refine ⟨⟨quote t, ?_⟩, quot_bytes r 0 t j (fun x hx => hb x (by simp [hx])) hq, by omega⟩
    simp [spell]
  · refine ⟨⟨signOf k, ?_⟩, hnil, by omega⟩
    rcases h1 with ⟨rfl, _⟩ | ⟨rfl, _⟩ | ⟨rfl, _⟩ <;> rfl
  · refine ⟨⟨signOf k, ?_⟩, hnil, by omega⟩
    rcases h1 with ⟨rfl, _⟩ | ⟨rfl, _⟩ | ⟨rfl, _⟩ | ⟨rfl, _⟩ | ⟨rfl, _⟩ | ⟨rfl, _⟩ | ⟨rfl, _⟩ | ⟨rfl, _⟩ <;> rfl

/-- a spelling ahead of what may stand behind it -/
theorem cut_spell {k : Int} {t : List Int} {n : Int} {w : List Int} (h : spell k t n = some w) (hn : -9223372036854775808 ≤ n ∧ n ≤ 9223372036854775807) (ht : bytes t)
    (b : List Int) (hs : stop k b) (at_ : Int) : cut 0 at_ (w ++ b) = (cut 0 (at_ + w.length) b).cons ⟨k, t, n, at_, at_ + w.length⟩ := by
  obtain ⟨c, r, rfl, hl⟩ := spell_lex h hn ht
  have hl' := lex_stop hl b hs
  rw [Nat.add_sub_cancel, List.take_of_length_le (Nat.le_refl _)] at hl'
  have hh := lex_head hl
  rw [List.cons_append, cut_tok at_ hh.1 hh.2 hl']
  simp only [List.drop_succ_cons, List.drop_left, List.length_cons]

end Go.Proofs.YtgeheffhdpeddaaDoor.Tk

/- PLAIN: what is joined is cut back. No program in sight. Conditions: numbers of 64 bits, texts of bytes. -/
namespace Go.Proofs.YtgeheffhdpeddaaDoor.Tk

def key (t : Tok) : Int × List Int × Int := (t.k, t.t, t.n)
def fine (t : Tok) : Prop := (-9223372036854775808 ≤ t.n ∧ t.n ≤ 9223372036854775807) ∧ bytes t.t

theorem num_pos {c : Int} {r : List Int} {n : Int} (hc : c ≠ 45) (h : num (c :: r) = some n) : 0 ≤ n := by
  unfold num at h
  split at h
  · obtain rfl := Option.some.inj h; omega
  · simp only [if_neg hc] at h
    split at h
    · split at h
      · obtain rfl := Option.some.inj h; omega
      · cases h
    · cases h

theorem stop_join (k : Int) (r : List Tok) (w : List Int) (hf : ∀ t ∈ r, fine t) (h : joinTail k r = some w) : stop k w := by
  cases r with
  | nil => obtain rfl := Option.some.inj h; exact stop_nil k
  | cons t r =>
    obtain ⟨hn, ht⟩ := hf t (by simp)
    simp only [joinTail] at h
    cases hs : spell t.k t.t t.n with
    | none => rw [hs] at h; simp at h
    | some s =>
      cases hj : joinTail t.k r with
      | none => rw [hs, hj] at h; simp at h
      | some v =>
        rw [hs, hj] at h
        obtain rfl := Option.some.inj h
        cases ha : apart k t.k t.n with
        | true => rw [if_pos rfl]; exact ⟨fun _ => rfl, fun _ => by simp⟩
        | false =>
          rw [if_neg (by simp), List.nil_append]
          obtain ⟨c, x, rfl, hl⟩ := spell_lex hs hn ht
          unfold lex at hl
          refine ⟨fun hk => ?_, fun hk => ?_⟩
          · show (!rn c) = true
            have h1 : ¬ (t.k = 1 ∨ t.k = 2 ∨ t.k = 5) ∧ (t.k = 4 → t.n < 0) := by
              unfold apart at ha
              rw [if_neg (by omega), if_pos (by omega)] at ha
              split at ha
              · cases ha
              · rename_i h0
                refine ⟨h0, fun h4 => ?_⟩
                rw [if_pos h4] at ha
                simpa using ha
            by_cases c1 : sm c = true
            · rw [if_pos c1] at hl
              split at hl <;> (simp only [Lx.tok.injEq] at hl; omega)
            · rw [if_neg c1] at hl
              by_cases c2 : gr c = true
              · rw [if_pos c2] at hl
                simp only [Lx.tok.injEq] at hl; omega
              · rw [if_neg c2] at hl
                by_cases c3 : dg c = true
                · rw [if_pos (Or.inl c3)] at hl
                  have hc := (dg_iff c).1 c3
                  split at hl
                  · rename_i m hm
                    simp only [Lx.tok.injEq] at hl
                    have := num_pos (by omega) hm
                    have := h1.2 hl.1.symm
                    omega
                  · cases hl
                · simp [rn, c1, c2, c3]
          · intro e
            simp only [List.cons_append, List.head?_cons, Option.some.injEq] at e
            subst e
            have h13 : t.k ≠ 13 := by
              unfold apart at ha
              rw [if_pos hk] at ha
              simpa using ha
            rw [if_neg (by decide), if_neg (by decide), if_neg (by decide), if_neg (by decide)] at hl
            unfold signs at hl
            split at hl
            · rw [if_neg (by simp [sign2]), if_pos (by decide)] at hl
              simp only [Lx.tok.injEq] at hl
              exact h13 hl.1.symm
            · rw [if_pos (by decide)] at hl
              simp only [Lx.tok.injEq] at hl
              exact h13 hl.1.symm

theorem cut_join (stopj : ∀ (k : Int) (r : List Tok) (w : List Int), (∀ t ∈ r, fine t) → joinTail k r = some w → stop k w) : ∀ (T : List Tok) (p : Int) (w : List Int) (at_ : Int), (∀ t ∈ T, fine t) → joinTail p T = some w → ∃ L, cut 0 at_ w = ⟨L, 0, 0⟩ ∧ L.map key = T.map key := by
  intro T
  induction T with
  | nil =>
    intro p w at_ _ h
    obtain rfl := Option.some.inj h
    exact ⟨[], rfl, rfl⟩
  | cons t r ih =>
    intro p w at_ hf h
    obtain ⟨hn, ht⟩ := hf t (by simp)
    simp only [joinTail] at h
    cases hs : spell t.k t.t t.n with
    | none => rw [hs] at h; simp at h
    | some s =>
      cases hj : joinTail t.k r with
      | none => rw [hs, hj] at h; simp at h
      | some v =>
        rw [hs, hj] at h
        obtain rfl := Option.some.inj h
        have hst := stopj t.k r v (fun x hx => hf x (by simp [hx])) hj
        have core : ∀ a : Int, ∃ L, cut 0 a (s ++ v) = ⟨L, 0, 0⟩ ∧ L.map key = (t :: r).map key := by
          intro a
          obtain ⟨L, hL, hk⟩ := ih t.k v (a + s.length) (fun x hx => hf x (by simp [hx])) hj
          rw [cut_spell hs hn ht v hst a, hL]
          exact ⟨_, rfl, by simp only [List.map_cons, hk]; rfl⟩
        cases apart p t.k t.n with
        | true =>
          obtain ⟨L, hL, hk⟩ := core (at_ + 1)
          exact ⟨L, by rw [if_pos rfl, List.append_assoc]; show cut 0 at_ (32 :: (s ++ v)) = _; rw [cut_bl at_ rfl, hL], hk⟩
        | false =>
          obtain ⟨L, hL, hk⟩ := core at_
          exact ⟨L, by rw [if_neg (by simp), List.nil_append, hL], hk⟩

/-- has every token a spelling? -/
def allsp : List Tok → Bool
  | [] => true
  | t :: r => (spell t.k t.t t.n).isSome && allsp r
def lenO : Option (List Int) → Nat
  | some w => w.length
  | none => 0
/-- all spellings with a blank behind each -/
def sumsp : List Tok → Nat
  | [] => 0
  | t :: r => lenO (spell t.k t.t t.n) + 1 + sumsp r
theorem join_some : ∀ (T : List Tok) (p : Int), (joinTail p T).isSome = allsp T := by
  intro T
  induction T with
  | nil => intro p; rfl
  | cons t r ih =>
    intro p
    simp only [joinTail, allsp, ← ih t.k]
    cases spell t.k t.t t.n with
    | none => rfl
    | some s => cases joinTail t.k r <;> rfl
theorem join_sum : ∀ (T : List Tok) (p : Int) (w : List Int), joinTail p T = some w → w.length ≤ sumsp T := by
  intro T
  induction T with
  | nil => intro p w h; obtain rfl := Option.some.inj h; exact Nat.le_refl _
  | cons t r ih =>
    intro p w h
    simp only [joinTail] at h
    cases hs : spell t.k t.t t.n with
    | none => rw [hs] at h; simp at h
    | some s =>
      cases hj : joinTail t.k r with
      | none => rw [hs, hj] at h; simp at h
      | some v =>
        rw [hs, hj] at h
        obtain rfl := Option.some.inj h
        have := ih t.k v hj
        have hl : (if apart p t.k t.n = true then [32] else ([] : List Int)).length ≤ 1 := by split <;> simp
        simp only [sumsp, hs, lenO, List.length_append]
        omega

end Go.Proofs.YtgeheffhdpeddaaDoor.Tk

/- PLAIN: what cut gives: each token has a spelling, its sizes; joining asks the keys alone; cutting goes step by step. No program in sight. Conditions: texts of bytes. -/
namespace Go.Proofs.YtgeheffhdpeddaaDoor.Tk

theorem quot_mlen : ∀ (r : List Int) (k : Nat) (m : List Int) (n : Nat), quot k r = .ok m n → m.length + 1 ≤ n := by
  intro r
  induction r with
  | nil => intro k m n h; cases k <;> simp [quot] at h
  | cons c r ih =>
    have up : ∀ (k : Nat) (m : List Int) (n : Nat), (quot k r).adv = .ok m n → m.length + 1 ≤ n := by
      intro k m n h
      cases hq : quot k r with
      | ok m' n' =>
        rw [hq] at h
        simp only [Qr.adv, Qr.ok.injEq] at h
        obtain ⟨rfl, rfl⟩ := h
        have := ih k _ _ hq
        omega
      | bad n' => rw [hq] at h; simp [Qr.adv] at h
      | opn => rw [hq] at h; simp [Qr.adv] at h
    have up2 : ∀ (x : Int) (k : Nat) (m : List Int) (n : Nat), ((quot k r).put x).adv = .ok m n → m.length + 1 ≤ n := by
      intro x k m n h
      cases hq : quot k r with
      | ok m' n' =>
        rw [hq] at h
        simp only [Qr.adv, Qr.put, Qr.ok.injEq] at h
        obtain ⟨rfl, rfl⟩ := h
        have := ih k _ _ hq
        simp only [List.length_cons]
        omega
      | bad n' => rw [hq] at h; simp [Qr.adv, Qr.put] at h
      | opn => rw [hq] at h; simp [Qr.adv, Qr.put] at h
    intro k m n h
    cases k with
    | succ k => simp only [quot] at h; exact up k m n h
    | zero =>
      simp only [quot] at h
      split at h
      · simp only [Qr.ok.injEq] at h; obtain ⟨rfl, rfl⟩ := h; simp
      · split at h
        · split at h
          · cases h
          · exact up2 _ _ m n h
        · split at h
          · cases h
          · exact up2 _ _ m n h

theorem lex_tlen {c : Int} {r : List Int} {k : Int} {t : List Int} {n : Int} {len : Nat} (h : lex c r = .tok k t n len) : t.length ≤ len := by
  rcases lex_inv h with ⟨_, rfl, _⟩ | ⟨_, rfl, _, _, _, h⟩ | ⟨_, rfl, _, _, _, h⟩ | ⟨_, rfl, _⟩ | ⟨_, _, _, j, hq, h⟩ | ⟨rfl, _⟩ | ⟨rfl, _⟩
  · simp
  · rw [h]; simp
  · rw [h]; simp
  · simp
  · have := quot_mlen _ _ _ _ hq; omega
  · simp
  · simp

def wsum : List Tok → Nat
  | [] => 0
  | t :: r => 4 * t.t.length + 30 + wsum r

structure Good (m : Nat) (R : Res) : Prop where
  none : R.e ≠ 0 → R.l = []
  p0 : R.e = 0 → R.p = 0
  fin : ∀ t ∈ R.l, fine t
  sp : allsp R.l = true
  ws : wsum R.l ≤ 34 * m

theorem Good.more {m m' : Nat} {R : Res} (h : Good m R) (hm : m ≤ m') : Good m' R := ⟨h.none, h.p0, h.fin, h.sp, by have := h.ws; omega⟩
theorem Good.cons {m m' : Nat} {R : Res} {t : Tok} (h : Good m R) (hf : fine t) (hs : (spell t.k t.t t.n).isSome = true) (hm : t.t.length + m ≤ m' + 0 ∧ m + 1 ≤ m') : Good m' (R.cons t) := by
  unfold Res.cons
  by_cases he : R.e = 0
  · rw [if_pos he]
    refine ⟨fun h' => absurd he h', h.p0, ?_, ?_, ?_⟩
    · intro x hx
      rcases List.mem_cons.1 hx with rfl | hx
      · exact hf
      · exact h.fin x hx
    · simp only [allsp, hs, h.sp, Bool.and_self]
    · simp only [wsum]
      have := h.ws
      omega
  · rw [if_neg he]
    exact h.more (by omega)

theorem bytes_drop {l : List Int} (h : bytes l) (n : Nat) : bytes (l.drop n) := fun c hc => h c (List.mem_of_mem_drop hc)

theorem cut_good : ∀ (n : Nat) (l : List Int) (at_ : Int), l.length ≤ n → bytes l → Good l.length (cut 0 at_ l) := by
  intro n
  induction n with
  | zero =>
    intro l at_ hl _
    obtain rfl : l = [] := List.eq_nil_of_length_eq_zero (by omega)
    exact ⟨fun h => absurd rfl h, fun _ => rfl, fun t ht => (by cases ht), rfl, Nat.zero_le _⟩
  | succ n ih =>
    intro l at_ hl hb
    cases l with
    | nil => exact ⟨fun h => absurd rfl h, fun _ => rfl, fun t ht => (by cases ht), rfl, Nat.zero_le _⟩
    | cons c r =>
      rw [List.length_cons] at hl
      have hbr : bytes r := fun x hx => hb x (List.mem_cons_of_mem _ hx)
      by_cases h1 : bl c = true
      · rw [cut_bl at_ h1]
        exact (ih r _ (by omega) hbr).more (by simp)
      · have h1' : bl c = false := by simpa using h1
        by_cases h2 : c = 37
        · subst h2
          rw [cut_rem at_]
          have hd : (r.drop (rem r)).length ≤ r.length := by rw [List.length_drop]; omega
          exact (ih _ _ (by omega) (bytes_drop hbr _)).more (by rw [List.length_cons]; omega)
        · cases h3 : lex c r with
          | tok k t n' len =>
            rw [cut_tok at_ h1' h2 h3]
            have hlen := lex_len h3
            have htl := lex_tlen h3
            obtain ⟨⟨w, hw⟩, hbt, hn⟩ := lex_spell h3 hb
            have hd : ((c :: r).drop len).length = r.length + 1 - len := by rw [List.length_drop, List.length_cons]
            have g := ih ((c :: r).drop len) (at_ + len) (by omega) (bytes_drop hb _)
            rw [hd] at g
            have ht : t.length + (r.length + 1 - len) ≤ r.length + 1 ∧ (r.length + 1 - len) + 1 ≤ r.length + 1 := by omega
            exact g.cons (m' := (c :: r).length) ⟨hn, hbt⟩ (by simp only; rw [hw]; rfl) (by rw [List.length_cons]; exact ht)
          | bad e off =>
            rw [cut_bad at_ h1' h2 h3]
            have := (lex_off h3).2
            exact ⟨fun _ => rfl, fun h => by simp only at h; omega, fun t ht => (by cases ht), rfl, Nat.zero_le _⟩

/-- joining asks the keys alone -/
theorem join_key : ∀ (T T' : List Tok) (p : Int), T.map key = T'.map key → joinTail p T = joinTail p T' := by
  intro T
  induction T with
  | nil =>
    intro T' p h
    cases T' with
    | nil => rfl
    | cons => simp at h
  | cons t r ih =>
    intro T' p h
    cases T' with
    | nil => simp at h
    | cons t' r' =>
      simp only [List.map_cons, List.cons.injEq, key, Prod.mk.injEq] at h
      obtain ⟨⟨h1, h2, h3⟩, h4⟩ := h
      simp only [joinTail, h1, h2, h3]
      rw [ih r' t'.k h4]

theorem fine_key : ∀ (T T' : List Tok), T.map key = T'.map key → (∀ t ∈ T, fine t) → ∀ t ∈ T', fine t := by
  intro T
  induction T with
  | nil =>
    intro T' h _
    cases T' with
    | nil => intro t ht; cases ht
    | cons => simp at h
  | cons t r ih =>
    intro T' h hf
    cases T' with
    | nil => simp at h
    | cons t' r' =>
      simp only [List.map_cons, List.cons.injEq, key, Prod.mk.injEq] at h
      obtain ⟨⟨_, h2, h3⟩, h4⟩ := h
      intro x hx
      rcases List.mem_cons.1 hx with rfl | hx
      · have := hf t (by simp)
        unfold fine at this ⊢
        rw [h2, h3] at this
        exact this
      · exact ih r' h4 (fun y hy => hf y (List.mem_cons_of_mem _ hy)) x hx
theorem wsum_key : ∀ (T T' : List Tok), T.map key = T'.map key → wsum T = wsum T' := by
  intro T
  induction T with
  | nil =>
    intro T' h
    cases T' with
    | nil => rfl
    | cons => simp at h
  | cons t r ih =>
    intro T' h
    cases T' with
    | nil => simp at h
    | cons t' r' =>
      simp only [List.map_cons, List.cons.injEq, key, Prod.mk.injEq] at h
      obtain ⟨⟨_, h2, _⟩, h4⟩ := h
      simp only [wsum, h2, ih r' h4]

theorem qbyte_plain (c : Int) (h : 0 ≤ c ∧ c ≤ 255) : ∀ x ∈ qbyte c, 32 ≤ x ∧ x ≤ 126 := by
  have hd : ∀ x : Int, 0 ≤ x ∧ x ≤ 15 → 32 ≤ dig x ∧ dig x ≤ 126 := by intro x hx; unfold dig; split <;> omega
  intro x hx
  unfold qbyte at hx
  split at hx
  · simp only [List.mem_cons, List.not_mem_nil, or_false] at hx; omega
  · split at hx
    · simp only [List.mem_cons, List.not_mem_nil, or_false] at hx; omega
    · split at hx
      · simp only [List.mem_cons, List.not_mem_nil, or_false] at hx; omega
      · split at hx
        · simp only [List.mem_cons, List.not_mem_nil, or_false] at hx; omega
        · have a1 := hd (c / 16) (by omega)
          have a2 := hd (c % 16) (by omega)
          simp only [List.mem_cons, List.not_mem_nil, or_false] at hx
          rcases hx with rfl | rfl | rfl | rfl <;> omega
theorem quote_plain (s : List Int) (h : bytes s) : ∀ x ∈ quote s, 32 ≤ x ∧ x ≤ 126 := by
  have hb : ∀ s : List Int, bytes s → ∀ x ∈ qbody s, 32 ≤ x ∧ x ≤ 126 := by
    intro s
    induction s with
    | nil => intro _ x hx; simp [qbody] at hx
    | cons c r ih =>
      intro h x hx
      simp only [qbody, List.mem_append] at hx
      rcases hx with hx | hx
      · exact qbyte_plain c (h c (by simp)) x hx
      · exact ih (fun y hy => h y (by simp [hy])) x hx
  intro x hx
  unfold quote at hx
  simp only [List.mem_cons, List.mem_append, List.not_mem_nil, or_false] at hx
  rcases hx with rfl | hx | rfl
  · omega
  · exact hb s h x hx
  · omega

end Go.Proofs.YtgeheffhdpeddaaDoor.Tk

/- PLAIN: cutting goes step by step: blanks and remarks, then a token's own bytes; what stands ahead of a fault, and what more stands behind. No program in sight. Conditions: none. -/
namespace Go.Proofs.YtgeheffhdpeddaaDoor.Tk

/-- blanks and remarks: the state that they leave (inside of a remark?); none: another byte stands there -/
def gp : Bool → List Int → Option Bool
  | rm, [] => some rm
  | rm, c :: r => if rm = true then gp (decide (c ≠ 10)) r else if c = 37 then gp true r else if bl c = true then gp false r else none

theorem gp_take (r y : List Int) : gp true (r.take (rem r) ++ y) = gp true y := by
  induction r with
  | nil => rfl
  | cons c r ih =>
    simp only [rem]
    by_cases h : c = 10
    · rw [if_pos h]; rfl
    · rw [if_neg h, List.take_succ_cons, List.cons_append, gp, if_pos rfl, decide_eq_true h]
      exact ih
theorem rem_drop (r : List Int) : r.drop (rem r) = [] ∨ ∃ y, r.drop (rem r) = 10 :: y := by
  induction r with
  | nil => exact .inl rfl
  | cons c r ih =>
    simp only [rem]
    by_cases h : c = 10
    · rw [if_pos h, h]; exact .inr ⟨r, rfl⟩
    · rw [if_neg h, List.drop_succ_cons]; exact ih
theorem rem_take (r x : List Int) (hx : x = [] ∨ ∃ y, x = 10 :: y) : rem (r.take (rem r) ++ x) = rem r := by
  induction r with
  | nil =>
    simp only [rem, List.take_nil, List.nil_append]
    rcases hx with rfl | ⟨y, rfl⟩
    · rfl
    · simp [rem]
  | cons c r ih =>
    simp only [rem]
    by_cases h : c = 10
    · rw [if_pos h, List.take_zero, List.nil_append]
      rcases hx with rfl | ⟨y, rfl⟩
      · rfl
      · simp [rem]
    · rw [if_neg h, List.take_succ_cons, List.cons_append]
      simp only [rem, if_neg h, ih]
theorem drop_take_app (r x : List Int) (n : Nat) (h : n ≤ r.length) : (r.take n ++ x).drop n = x := by
  rw [List.drop_append, List.drop_eq_nil_of_le (by rw [List.length_take]; omega), List.length_take, Nat.min_eq_left h, Nat.sub_self]; rfl
theorem cut_rem_app (r x : List Int) (hx : x = [] ∨ ∃ y, x = 10 :: y) (a : Int) : cut 0 a (37 :: (r.take (rem r) ++ x)) = cut 0 (a + 1 + rem r) x := by
  rw [cut_rem, rem_take r x hx, drop_take_app r x _ (rem_le r)]

theorem cons_e (t : Tok) (r : Res) : (r.cons t).e = r.e := by unfold Res.cons; split <;> rfl
theorem cons_p (t : Tok) (r : Res) : (r.cons t).p = r.p := by unfold Res.cons; split <;> rfl

theorem cut_tok_app {c : Int} {r x : List Int} {k : Int} {t : List Int} {n : Int} {len : Nat} (a : Int) (h : lex c r = .tok k t n len) (hs : stop k x) :
    cut 0 a (c :: (r.take (len - 1) ++ x)) = (cut 0 (a + len) x).cons ⟨k, t, n, a, a + len⟩ := by
  obtain ⟨hb, hc⟩ := lex_head h
  have hl := lex_len h
  rw [cut_tok a hb hc (lex_stop h x hs)]
  congr 1
  obtain ⟨j, rfl⟩ : ∃ j, len = j + 1 := ⟨len - 1, by omega⟩
  rw [List.drop_succ_cons, Nat.add_sub_cancel, drop_take_app _ _ _ (by omega)]

/-- one step -/
theorem cut_step : ∀ (m : Nat) (l : List Int) (a : Int), l.length ≤ m → ∀ (L : List Tok) (p : Int), cut 0 a l = ⟨L, 0, p⟩ →
    (L = [] ∧ ∃ b, gp false l = some b) ∨
    ∃ (u : List Int) (c : Int) (v w : List Int) (k : Int) (t : List Int) (x : Int) (L' : List Tok), L = ⟨k, t, x, a + (u.length : Int), a + (u.length : Int) + ((v.length + 1 : Nat) : Int)⟩ :: L' ∧ l = u ++ (c :: v ++ w) ∧ gp false u = some false ∧
      lex c v = .tok k t x (v.length + 1) ∧ cut 0 (a + (u.length : Int) + ((v.length + 1 : Nat) : Int)) w = ⟨L', 0, p⟩ := by
  intro m
  induction m with
  | zero =>
    intro l a hl L p h
    obtain rfl : l = [] := List.eq_nil_of_length_eq_zero (by omega)
    simp only [cut, Res.mk.injEq] at h
    exact .inl ⟨h.1.symm, _, rfl⟩
  | succ m ih =>
    intro l a hl L p h
    cases l with
    | nil =>
      simp only [cut, Res.mk.injEq] at h
      exact .inl ⟨h.1.symm, _, rfl⟩
    | cons c r =>
      rw [List.length_cons] at hl
      by_cases h1 : bl c = true
      · rw [cut_bl a h1] at h
        have hne : c ≠ 37 := by rintro rfl; exact absurd h1 (by decide)
        have hg : ∀ y, gp false (c :: y) = gp false y := fun y => by rw [gp, if_neg (by simp), if_neg hne, if_pos h1]
        rcases ih r (a + 1) (by omega) L p h with ⟨h3, b, h4⟩ | ⟨u, d, v, w, k, t, x, L', e1, e2, e3, e4, e5⟩
        · exact .inl ⟨h3, b, by rw [hg, h4]⟩
        · have ea : a + 1 + (u.length : Int) = a + ((c :: u).length : Int) := by rw [List.length_cons]; omega
          rw [ea] at e1 e5
          exact .inr ⟨c :: u, d, v, w, k, t, x, L', e1, by rw [e2]; rfl, by rw [hg, e3], e4, e5⟩
      · have h1' : bl c = false := by simpa using h1
        by_cases h2 : c = 37
        · subst h2
          rw [cut_rem a] at h
          have hd : (r.drop (rem r)).length ≤ m := by rw [List.length_drop]; omega
          have hg : ∀ y, gp false (37 :: y) = gp true y := fun y => by rw [gp, if_neg (by simp), if_pos rfl]
          have hr : r = r.take (rem r) ++ r.drop (rem r) := (List.take_append_drop _ _).symm
          have hgd : gp false (37 :: r) = gp true (r.drop (rem r)) := by rw [hg]; conv => lhs; rw [hr, gp_take]
          rcases ih (r.drop (rem r)) _ hd L p h with ⟨h3, b, h4⟩ | ⟨u, d, v, w, k, t, x, L', e1, e2, e3, e4, e5⟩
          · refine .inl ⟨h3, ?_⟩
            rw [hgd]
            rcases rem_drop r with e | ⟨y, e⟩
            · rw [e]; exact ⟨_, rfl⟩
            · rw [e] at h4 ⊢
              rw [gp, if_neg (by simp), if_neg (by decide), if_pos (by decide)] at h4
              rw [gp, if_pos rfl]
              exact ⟨b, h4⟩
          · have hlen : (37 :: (r.take (rem r) ++ u)).length = 1 + rem r + u.length := by
              rw [List.length_cons, List.length_append, List.length_take, Nat.min_eq_left (rem_le r)]; omega
            have ea : a + 1 + (rem r : Int) + (u.length : Int) = a + ((37 :: (r.take (rem r) ++ u)).length : Int) := by rw [hlen]; omega
            rw [ea] at e1 e5
            refine .inr ⟨37 :: (r.take (rem r) ++ u), d, v, w, k, t, x, L', e1, ?_, ?_, e4, e5⟩
            · rw [List.cons_append, List.append_assoc, ← e2, ← hr]
            · rw [hg, gp_take]
              have hnb := (lex_head e4).1
              rcases rem_drop r with e | ⟨y, e⟩
              · rw [e] at e2
                have := congrArg List.length e2
                simp at this
              · rw [e] at e2
                cases u with
                | nil =>
                  simp only [List.nil_append, List.cons_append, List.cons.injEq] at e2
                  rw [← e2.1] at hnb
                  exact absurd hnb (by decide)
                | cons z u' =>
                  simp only [List.cons_append, List.cons.injEq] at e2
                  rw [← e2.1] at e3 ⊢
                  rw [gp, if_neg (by simp), if_neg (by decide), if_pos (by decide)] at e3
                  rw [gp, if_pos rfl]
                  exact e3
        · cases h3 : lex c r with
          | tok k t n len =>
            rw [cut_tok a h1' h2 h3] at h
            have hlen := lex_len h3
            have hv : (r.take (len - 1)).length + 1 = len := by rw [List.length_take]; omega
            have hst := lex_stop h3 [] (stop_nil k)
            rw [List.append_nil] at hst
            have hR : ∃ L', L = ⟨k, t, n, a, a + (len : Int)⟩ :: L' ∧ cut 0 (a + (len : Int)) ((c :: r).drop len) = ⟨L', 0, p⟩ := by
              generalize cut 0 (a + (len : Int)) ((c :: r).drop len) = R at h
              obtain ⟨l', e', p'⟩ := R
              unfold Res.cons at h
              by_cases he : e' = 0
              · subst he
                rw [if_pos rfl] at h
                simp only [Res.mk.injEq] at h
                exact ⟨l', h.1.symm, by rw [h.2.2]⟩
              · rw [if_neg (by exact he)] at h
                simp only [Res.mk.injEq] at h
                exact absurd h.2.1 he
            obtain ⟨L', hL, hc⟩ := hR
            refine .inr ⟨[], c, r.take (len - 1), (c :: r).drop len, k, t, n, L', ?_, ?_, rfl, ?_, ?_⟩
            · rw [hL, hv]; simp
            · rw [List.nil_append]
              obtain ⟨j, rfl⟩ : ∃ j, len = j + 1 := ⟨len - 1, by omega⟩
              rw [List.drop_succ_cons, Nat.add_sub_cancel, List.cons_append, List.take_append_drop]
            · rw [hst, hv]
            · rw [hv]; simpa using hc
          | bad e off =>
            rw [cut_bad a h1' h2 h3] at h
            simp only [Res.mk.injEq] at h
            have := (lex_off h3).2
            omega

/-- a token's bytes alone -/
theorem cut_own {c : Int} {v : List Int} {k : Int} {t : List Int} {x : Int} (h : lex c v = .tok k t x (v.length + 1)) (a : Int) : cut 0 a (c :: v) = ⟨[⟨k, t, x, a, a + ((v.length + 1 : Nat) : Int)⟩], 0, 0⟩ := by
  obtain ⟨hb, hc⟩ := lex_head h
  rw [cut_tok a hb hc h, List.drop_eq_nil_of_le (by simp), cut_nil]
  rfl

/-! ### what stands ahead of a fault -/
theorem lex_next {c : Int} {r : List Int} {k : Int} {t : List Int} {n : Int} {len : Nat} (h : lex c r = .tok k t n len) : stop k (r.drop (len - 1)) := by
  have hrun : halts (r.drop (run r).length) = true := by
    obtain ⟨b, e, hb⟩ := run_split r
    have : r.drop (run r).length = b := by
      conv => lhs; rw [e]
      rw [show run (run r ++ b) = run r by rw [← e], List.drop_left]
    rw [this]; exact hb
  have key : len = (run r).length + 1 → k ≠ 15 → stop k (r.drop (len - 1)) := fun hl hk => by
    rw [hl, Nat.add_sub_cancel]
    exact ⟨fun _ => hrun, fun h => absurd h hk⟩
  have key2 : ¬ (k = 1 ∨ k = 2 ∨ k = 4 ∨ k = 5) → k ≠ 15 → stop k (r.drop (len - 1)) := fun h1 h2 => ⟨fun h => absurd h h1, fun h => absurd h h2⟩
  rcases lex_inv h with ⟨hk, _, _, _, h5, hl⟩ | ⟨hk, _, _, _, _, hl⟩ | ⟨hk, _, _, _, _, hl⟩ | ⟨hk, _, _, _, _, _, hl⟩ | ⟨hk, _⟩ | ⟨_, _, _, d, x, _, hk⟩ | ⟨_, _, hl, hk⟩
  · refine key ?_ (by omega)
    have := congrArg List.length h5
    rw [List.length_cons] at this
    have h4 : says.length = 4 := rfl
    omega
  · exact key hl (by omega)
  · exact key hl (by omega)
  · exact key hl (by omega)
  · exact key2 (by omega) (by omega)
  · exact key2 (by omega) (by omega)
  · by_cases h15 : k = 15
    · refine ⟨fun h => by omega, fun _ => ?_⟩
      rw [hl]
      have : r.head? ≠ some 61 := by
        rcases hk with h | h | h | h | h | h | h | h
        · omega
        · omega
        · omega
        · omega
        · omega
        · omega
        · omega
        · exact h.2.2
      simpa using this
    · exact key2 (by omega) h15

theorem stop_take {k : Int} {b : List Int} (h : stop k b) (q : Nat) : stop k (b.take q) := by
  cases b with
  | nil => rw [List.take_nil]; exact h
  | cons c b =>
    cases q with
    | zero => exact stop_nil k
    | succ q => exact ⟨fun hk => h.1 hk, fun hk => h.2 hk⟩
theorem stop_app {k : Int} {b : List Int} (h : stop k b) (m : List Int) : stop k (b ++ 32 :: m) := by
  cases b with
  | nil => exact ⟨fun _ => rfl, fun _ => by simp⟩
  | cons c b => exact ⟨fun hk => h.1 hk, fun hk => h.2 hk⟩

theorem run_more (r m : List Int) : run (r ++ 32 :: m) = run r := by
  obtain ⟨b, e, hb⟩ := run_split r
  conv => lhs; rw [e]
  rw [List.append_assoc]
  refine run_append_stop _ _ (run_run r) ?_
  cases b with
  | nil => rfl
  | cons c b => exact hb

theorem lex_bad {c : Int} {r : List Int} {e : Int} {off : Nat} (h : lex c r = .bad e off) :
    ((e = 42 ∨ e = 45) ∧ off = 0 ∧ ∀ m, lex c (r ++ 32 :: m) = .bad e 0) ∨ (e = 43 ∧ off = 0) ∨ (e = 44 ∧ c = 34 ∧ ∃ n, off = n + 1 ∧ quot 0 r = .bad n) := by
  have hm := run_more r
  unfold lex at h
  by_cases h1 : sm c = true
  · rw [if_pos h1] at h; split at h <;> cases h
  · rw [if_neg h1] at h
    by_cases h2 : gr c = true
    · rw [if_pos h2] at h; cases h
    · rw [if_neg h2] at h
      by_cases h3 : dg c = true ∨ c = 45
      · rw [if_pos h3] at h
        cases hn : num (c :: run r) with
        | some n => rw [hn] at h; cases h
        | none =>
          rw [hn] at h
          simp only [Lx.bad.injEq] at h
          refine .inl ⟨.inr h.1.symm, h.2.symm, fun m => ?_⟩
          unfold lex
          rw [if_neg h1, if_neg h2, if_pos h3, hm m, hn, h.1]
      · rw [if_neg h3] at h
        by_cases h4 : c = 34
        · rw [if_pos h4] at h
          cases hq : quot 0 r with
          | ok m n => rw [hq] at h; cases h
          | bad n =>
            rw [hq] at h
            simp only [Lx.bad.injEq] at h
            exact .inr (.inr ⟨h.1.symm, h4, n, h.2.symm, rfl⟩)
          | opn =>
            rw [hq] at h
            simp only [Lx.bad.injEq] at h
            exact .inr (.inl ⟨h.1.symm, h.2.symm⟩)
        · rw [if_neg h4] at h
          have key : e = 42 ∧ off = 0 ∧ ∀ m, signs c (r ++ 32 :: m) = .bad 42 0 := by
            cases r with
            | nil =>
              simp only [signs] at h
              split at h
              · cases h
              · rename_i hs
                simp only [Lx.bad.injEq] at h
                refine ⟨h.1.symm, h.2.symm, fun m => ?_⟩
                simp only [List.nil_append, signs]
                rw [if_neg (by simp [sign2]), if_neg hs]
            | cons d r =>
              simp only [signs] at h
              split at h
              · cases h
              · rename_i hs2
                split at h
                · cases h
                · rename_i hs
                  simp only [Lx.bad.injEq] at h
                  refine ⟨h.1.symm, h.2.symm, fun m => ?_⟩
                  simp only [List.cons_append, signs]
                  rw [if_neg hs2, if_neg hs]
          refine .inl ⟨.inl key.1, key.2.1, fun m => ?_⟩
          unfold lex
          rw [if_neg h1, if_neg h2, if_neg h3, if_neg h4, key.2.2 m, key.1]

theorem cut_front : ∀ (n : Nat) (l : List Int) (a : Int), l.length ≤ n → (cut 0 a l).e ≠ 0 → ∃ q : Nat, (cut 0 a l).p = a + (q : Int) ∧ q < l.length ∧ (cut 0 a (l.take q)).e = (if (cut 0 a l).e = 44 then 43 else 0) ∧
    ((cut 0 a l).e = 43 ∨ (cut 0 a l).e = 44 ∨ ∀ m, (cut 0 a (l ++ 32 :: m)).e = (cut 0 a l).e ∧ (cut 0 a (l ++ 32 :: m)).p = (cut 0 a l).p) := by
  intro n
  induction n with
  | zero =>
    intro l a hl h
    obtain rfl : l = [] := List.eq_nil_of_length_eq_zero (by omega)
    exact absurd rfl h
  | succ n ih =>
    intro l a hl h
    cases l with
    | nil => exact absurd rfl h
    | cons c r =>
      rw [List.length_cons] at hl ⊢
      by_cases h1 : bl c = true
      · rw [cut_bl a h1] at h ⊢
        obtain ⟨q, e1, e2, e3, e4⟩ := ih r (a + 1) (by omega) h
        refine ⟨q + 1, by omega, by omega, ?_, ?_⟩
        · rw [List.take_succ_cons, cut_bl a h1]; exact e3
        · rcases e4 with e4 | e4 | e4
          · exact .inl e4
          · exact .inr (.inl e4)
          · exact .inr (.inr fun m => by rw [List.cons_append, cut_bl a h1]; exact e4 m)
      · have h1' : bl c = false := by simpa using h1
        by_cases h2 : c = 37
        · subst h2
          rw [cut_rem a] at h ⊢
          have hrl := rem_le r
          have hd : (r.drop (rem r)).length = r.length - rem r := List.length_drop
          obtain ⟨q, e1, e2, e3, e4⟩ := ih (r.drop (rem r)) (a + 1 + rem r) (by omega) h
          obtain ⟨y, hy⟩ : ∃ y, r.drop (rem r) = 10 :: y := by
            rcases rem_drop r with e | e
            · rw [e, cut_nil] at h; exact absurd rfl h
            · exact e
          have hr : r = r.take (rem r) ++ r.drop (rem r) := (List.take_append_drop _ _).symm
          refine ⟨1 + rem r + q, by omega, by omega, ?_, ?_⟩
          · have ht : (37 :: r).take (1 + rem r + q) = 37 :: (r.take (rem r) ++ (r.drop (rem r)).take q) := by
              rw [show 1 + rem r + q = (rem r + q) + 1 by omega, List.take_succ_cons]
              rw [List.take_add]
            rw [ht, cut_rem_app r _ (by cases q with | zero => exact .inl rfl | succ q => exact .inr ⟨y.take q, by rw [hy, List.take_succ_cons]⟩)]
            exact e3
          · rcases e4 with e4 | e4 | e4
            · exact .inl e4
            · exact .inr (.inl e4)
            · refine .inr (.inr fun m => ?_)
              have ht : (37 :: r) ++ 32 :: m = 37 :: (r.take (rem r) ++ (r.drop (rem r) ++ 32 :: m)) := by
                rw [List.cons_append, ← List.append_assoc, List.take_append_drop]
              rw [ht, cut_rem_app r _ (.inr ⟨y ++ 32 :: m, by rw [hy]; rfl⟩)]
              exact e4 m
        · cases h3 : lex c r with
          | tok k t x len =>
            rw [cut_tok a h1' h2 h3] at h ⊢
            rw [cons_e] at h
            simp only [cons_e, cons_p]
            have hlen := lex_len h3
            have hnx := lex_next h3
            have hdl : (c :: r).drop len = r.drop (len - 1) := by
              obtain ⟨j, rfl⟩ : ∃ j, len = j + 1 := ⟨len - 1, by omega⟩
              rw [List.drop_succ_cons, Nat.add_sub_cancel]
            rw [hdl] at h ⊢
            have hd : (r.drop (len - 1)).length = r.length - (len - 1) := List.length_drop
            obtain ⟨q, e1, e2, e3, e4⟩ := ih (r.drop (len - 1)) (a + len) (by omega) h
            refine ⟨len + q, by omega, by omega, ?_, ?_⟩
            · have ht : (c :: r).take (len + q) = c :: (r.take (len - 1) ++ (r.drop (len - 1)).take q) := by
                rw [show len + q = (len - 1 + q) + 1 by omega, List.take_succ_cons]
                rw [List.take_add]
              rw [ht, cut_tok_app a h3 (stop_take hnx q), cons_e]
              exact e3
            · rcases e4 with e4 | e4 | e4
              · exact .inl e4
              · exact .inr (.inl e4)
              · refine .inr (.inr fun m => ?_)
                have ht : (c :: r) ++ 32 :: m = c :: (r.take (len - 1) ++ (r.drop (len - 1) ++ 32 :: m)) := by
                  rw [List.cons_append, ← List.append_assoc, List.take_append_drop]
                rw [ht, cut_tok_app a h3 (stop_app hnx m), cons_e, cons_p]
                exact e4 m
          | bad e off =>
            rw [cut_bad a h1' h2 h3]
            have hof := lex_off h3
            refine ⟨off, rfl, by omega, ?_, ?_⟩
            · rcases lex_bad h3 with ⟨he, h0, _⟩ | ⟨he, h0⟩ | ⟨he, h34, j, hj, hq⟩
              · rw [h0, List.take_zero, cut_nil, if_neg (by simp only; omega)]
              · rw [h0, List.take_zero, cut_nil, if_neg (by simp only; omega)]
              · rw [hj, List.take_succ_cons]
                have hl : lex c (r.take j) = .bad 43 0 := by
                  subst h34
                  unfold lex
                  rw [if_neg (by decide), if_neg (by decide), if_neg (by decide), if_pos rfl, (quot_bad_at r 0 j hq).2]
                rw [cut_bad a h1' h2 hl, if_pos he]
            · rcases lex_bad h3 with ⟨he, h0, hm⟩ | ⟨he, h0⟩ | ⟨he, _⟩
              · refine .inr (.inr fun m => ?_)
                rw [List.cons_append, cut_bad a h1' h2 (hm m)]
                exact ⟨rfl, by simp only; omega⟩
              · exact .inl he
              · exact .inr (.inl he)

theorem cut_err : ∀ (n : Nat) (l : List Int) (a : Int), l.length ≤ n → (cut 0 a l).e = 0 ∨ (42 ≤ (cut 0 a l).e ∧ (cut 0 a l).e ≤ 45) := by
  intro n
  induction n with
  | zero =>
    intro l a hl
    obtain rfl : l = [] := List.eq_nil_of_length_eq_zero (by omega)
    exact .inl rfl
  | succ n ih =>
    intro l a hl
    cases l with
    | nil => exact .inl rfl
    | cons c r =>
      rw [List.length_cons] at hl
      by_cases h1 : bl c = true
      · rw [cut_bl a h1]; exact ih r _ (by omega)
      · have h1' : bl c = false := by simpa using h1
        by_cases h2 : c = 37
        · subst h2
          rw [cut_rem a]
          exact ih _ _ (by rw [List.length_drop]; omega)
        · cases h3 : lex c r with
          | tok k t x len =>
            rw [cut_tok a h1' h2 h3, cons_e]
            have := lex_len h3
            exact ih _ _ (by rw [List.length_drop, List.length_cons]; omega)
          | bad e off =>
            rw [cut_bad a h1' h2 h3]
            have := (lex_off h3).2
            exact .inr (by simp only; omega)

end Go.Proofs.YtgeheffhdpeddaaDoor.Tk

/- PLAIN: blanks and remarks between spelled tokens count for nothing; a text in quotes, however its bytes are written, is that text. No program in sight. Conditions: numbers of 64 bits, texts of bytes. -/
namespace Go.Proofs.YtgeheffhdpeddaaDoor.Tk

/-! ### fillers -/
def filler (f : List Int) : Prop := f = [9] ∨ f = [13, 10] ∨ f = [32, 37, 32, 40, 32, 34, 32, 115, 97, 121, 115, 10] ∨ f = [37, 10] ∨ f = [32, 32, 10, 32] ∨ f = [32]
def tail : List Int := [32, 37, 32, 116, 104, 101, 32, 101, 110, 100]

theorem cut_tail (a : Int) : cut 0 a tail = ⟨[], 0, 0⟩ := rfl
theorem cut_fill {f : List Int} (h : filler f) (b : List Int) (a : Int) : cut 0 a (f ++ b) = cut 0 (a + (f.length : Int)) b := by
  have r0 : ∀ (x : List Int) (a : Int), cut 0 a (10 :: x) = cut 0 (a + 1) x := fun x a => cut_bl a rfl
  have b32 : ∀ (x : List Int) (a : Int), cut 0 a (32 :: x) = cut 0 (a + 1) x := fun x a => cut_bl a rfl
  rcases h with rfl | rfl | rfl | rfl | rfl | rfl
  · exact cut_bl a rfl
  · show cut 0 a (13 :: 10 :: b) = _
    rw [cut_bl a rfl, r0]
    congr 1
    simp only [List.length_cons, List.length_nil]
    omega
  · show cut 0 a (32 :: 37 :: 32 :: 40 :: 32 :: 34 :: 32 :: 115 :: 97 :: 121 :: 115 :: 10 :: b) = _
    rw [b32]
    have h := cut_rem_app [32, 40, 32, 34, 32, 115, 97, 121, 115] (10 :: b) (.inr ⟨b, rfl⟩) (a + 1)
    have e : rem [32, 40, 32, 34, 32, 115, 97, 121, 115] = 9 := rfl
    rw [e] at h
    have h' : cut 0 (a + 1) (37 :: 32 :: 40 :: 32 :: 34 :: 32 :: 115 :: 97 :: 121 :: 115 :: 10 :: b) = _ := h
    rw [h', r0]
    congr 1
    simp only [List.length_cons, List.length_nil]
    omega
  · show cut 0 a (37 :: 10 :: b) = _
    have h := cut_rem_app [] (10 :: b) (.inr ⟨b, rfl⟩) a
    have h' : cut 0 a (37 :: 10 :: b) = _ := h
    rw [h', r0]
    congr 1
    simp only [List.length_cons, List.length_nil, rem]
    omega
  · show cut 0 a (32 :: 32 :: 10 :: 32 :: b) = _
    rw [b32, b32, r0, b32]
    congr 1
    simp only [List.length_cons, List.length_nil]
    omega
  · exact cut_bl a rfl
theorem stop_fill {f : List Int} (h : filler f) (k : Int) (b : List Int) : stop k (f ++ b) := by
  rcases h with rfl | rfl | rfl | rfl | rfl | rfl <;> exact ⟨fun _ => rfl, fun _ => by simp⟩

/-- tokens spelled, each behind a filler; and where they stand -/
def blanks (fs : Nat → List Int) : Nat → Int → List Tok → List Int × List Tok
  | _, _, [] => ([], [])
  | i, a, t :: r =>
    match spell t.k t.t t.n with
    | none => blanks fs (i + 1) a r
    | some s =>
      let R := blanks fs (i + 1) (a + ((fs i).length : Int) + (s.length : Int)) r
      (fs i ++ (s ++ R.1), ⟨t.k, t.t, t.n, a + ((fs i).length : Int), a + ((fs i).length : Int) + (s.length : Int)⟩ :: R.2)

theorem stop_blanks (fs : Nat → List Int) (hf : ∀ i, filler (fs i)) (k : Int) : ∀ (T : List Tok) (i : Nat) (a : Int), stop k ((blanks fs i a T).1 ++ tail) := by
  intro T
  induction T with
  | nil => intro i a; exact ⟨fun _ => rfl, fun _ => by simp [blanks, tail]⟩
  | cons t r ih =>
    intro i a
    simp only [blanks]
    cases hs : spell t.k t.t t.n with
    | none => exact ih (i + 1) a
    | some s =>
      simp only [List.append_assoc]
      exact stop_fill (hf i) k _

theorem cut_blanks (fs : Nat → List Int) (hf : ∀ i, filler (fs i)) : ∀ (T : List Tok), (∀ t ∈ T, fine t) → ∀ (i : Nat) (a : Int), cut 0 a ((blanks fs i a T).1 ++ tail) = ⟨(blanks fs i a T).2, 0, 0⟩ := by
  intro T
  induction T with
  | nil => intro _ i a; exact cut_tail a
  | cons t r ih =>
    intro hT i a
    have hr := ih (fun x hx => hT x (List.mem_cons_of_mem _ hx))
    obtain ⟨hn, hb⟩ := hT t (by simp)
    simp only [blanks]
    cases hs : spell t.k t.t t.n with
    | none => exact hr (i + 1) a
    | some s =>
      simp only [List.append_assoc]
      rw [cut_fill (hf i), cut_spell hs hn hb _ (stop_blanks fs hf t.k r _ _), hr]
      rfl

/-! ### quoted texts -/
def digG (n : Int) : Int := if n < 10 then 48 + n else 55 + n
theorem hx_digG (x : Int) (h : 0 ≤ x ∧ x ≤ 15) : hx (digG x) = x := by
  have : x = 0 ∨ x = 1 ∨ x = 2 ∨ x = 3 ∨ x = 4 ∨ x = 5 ∨ x = 6 ∨ x = 7 ∨ x = 8 ∨ x = 9 ∨ x = 10 ∨ x = 11 ∨ x = 12 ∨ x = 13 ∨ x = 14 ∨ x = 15 := by omega
  rcases this with rfl | rfl | rfl | rfl | rfl | rfl | rfl | rfl | rfl | rfl | rfl | rfl | rfl | rfl | rfl | rfl <;> rfl

def qform (c : Int) (x : List Int) : Prop :=
  (32 ≤ c ∧ c ≠ 127 ∧ c ≠ 34 ∧ c ≠ 92 ∧ x = [c]) ∨ ((c = 34 ∨ c = 92) ∧ x = [92, c]) ∨ (c = 10 ∧ x = [92, 110]) ∨ (c = 9 ∧ x = [92, 116]) ∨ x = [92, 120, dig (c / 16), dig (c % 16)] ∨ x = [92, 120, digG (c / 16), digG (c % 16)]

theorem quot_form (c : Int) (hc : 0 ≤ c ∧ c ≤ 255) (x b : List Int) (h : qform c x) : quot 0 (x ++ b) = ((quot 0 b).put c).far x.length := by
  rcases h with ⟨h1, h2, h3, h4, rfl⟩ | ⟨h, rfl⟩ | ⟨rfl, rfl⟩ | ⟨rfl, rfl⟩ | rfl | rfl
  · simp only [List.cons_append, List.nil_append, quot]
    rw [if_neg h3, if_neg h4, if_neg (by omega)]
    cases quot 0 b <;> rfl
  · have he : esc (c :: b) = (c, 1) := by simp only [esc, if_pos h]
    simp only [List.cons_append, List.nil_append, quot, he]
    rw [if_neg (by decide), if_pos trivial, if_neg (by decide)]
    cases quot 0 b <;> rfl
  · have he : esc (110 :: b) = (10, 1) := rfl
    simp only [List.cons_append, List.nil_append, quot, he]
    rw [if_neg (by decide), if_pos trivial, if_neg (by decide)]
    cases quot 0 b <;> rfl
  · have he : esc (116 :: b) = (9, 1) := rfl
    simp only [List.cons_append, List.nil_append, quot, he]
    rw [if_neg (by decide), if_pos trivial, if_neg (by decide)]
    cases quot 0 b <;> rfl
  · have h1 := hx_dig (c / 16) (by omega)
    have h2 := hx_dig (c % 16) (by omega)
    have he : esc (120 :: dig (c / 16) :: dig (c % 16) :: b) = (c, 3) := by
      simp only [esc]
      rw [if_neg (by decide), if_neg (by decide), if_neg (by decide), if_pos trivial, if_pos (by omega), h1, h2]
      congr 1
      omega
    simp only [List.cons_append, List.nil_append, quot, he]
    rw [if_neg (by decide), if_pos trivial, if_neg (by decide)]
    cases quot 0 b <;> rfl
  · have h1 := hx_digG (c / 16) (by omega)
    have h2 := hx_digG (c % 16) (by omega)
    have he : esc (120 :: digG (c / 16) :: digG (c % 16) :: b) = (c, 3) := by
      simp only [esc]
      rw [if_neg (by decide), if_neg (by decide), if_neg (by decide), if_pos trivial, if_pos (by omega), h1, h2]
      congr 1
      omega
    simp only [List.cons_append, List.nil_append, quot, he]
    rw [if_neg (by decide), if_pos trivial, if_neg (by decide)]
    cases quot 0 b <;> rfl

/-- a text written byte for byte, the forms being chosen place by place -/
def forms (fm : Nat → Int → List Int) : Nat → List Int → List Int
  | _, [] => []
  | i, c :: r => fm i c ++ forms fm (i + 1) r

theorem quot_forms (fm : Nat → Int → List Int) (hfm : ∀ i c, 0 ≤ c ∧ c ≤ 255 → qform c (fm i c)) : ∀ (s : List Int), bytes s → ∀ (i : Nat) (b : List Int), quot 0 (forms fm i s ++ 34 :: b) = .ok s ((forms fm i s).length + 1) := by
  intro s
  induction s with
  | nil => intro _ i b; simp [forms, quot]
  | cons c r ih =>
    intro hs i b
    simp only [forms, List.append_assoc]
    rw [quot_form c (hs c (by simp)) _ _ (hfm i c (hs c (by simp))), ih (fun x hx => hs x (by simp [hx]))]
    simp only [Qr.put, Qr.far, List.length_append, Qr.ok.injEq, true_and]
    omega

theorem cut_quoted (s w : List Int) (h : quot 0 w = .ok s w.length) (a : Int) : cut 0 a (34 :: w) = ⟨[⟨3, s, 0, a, a + ((w.length + 1 : Nat) : Int)⟩], 0, 0⟩ := by
  refine cut_own (c := 34) (v := w) ?_ a
  unfold lex
  rw [if_neg (by decide), if_neg (by decide), if_neg (by decide), if_pos rfl, h]

theorem qbyte_form (c : Int) : qform c (qbyte c) := by
  unfold qform qbyte
  by_cases h1 : c = 34 ∨ c = 92
  · rw [if_pos h1]; exact .inr (.inl ⟨h1, rfl⟩)
  · rw [if_neg h1]
    by_cases h2 : c = 10
    · rw [if_pos h2]; exact .inr (.inr (.inl ⟨h2, rfl⟩))
    · rw [if_neg h2]
      by_cases h3 : c = 9
      · rw [if_pos h3]; exact .inr (.inr (.inr (.inl ⟨h3, rfl⟩)))
      · rw [if_neg h3]
        by_cases h4 : 32 ≤ c ∧ c ≤ 126
        · rw [if_pos h4]; exact .inl ⟨h4.1, by omega, by omega, by omega, rfl⟩
        · rw [if_neg h4]; exact .inr (.inr (.inr (.inr (.inl rfl))))
theorem cut_quote (s : List Int) (h : bytes s) (a : Int) : cut 0 a (quote s) = ⟨[⟨3, s, 0, a, a + ((quote s).length : Int)⟩], 0, 0⟩ := by
  have := cut_quoted s (qbody s ++ [34]) (by rw [quot_body s h []]; simp) a
  exact this

end Go.Proofs.YtgeheffhdpeddaaDoor.Tk

/- PLAIN: two spellings, one behind the other: cut into the two tokens just where no blank must stand between. Conditions: numbers of 64 bits, texts of bytes. -/
namespace Go.Proofs.YtgeheffhdpeddaaDoor.Tk
theorem run_first {c : Int} {r : List Int} (h : rn c = true) : run (c :: r) = c :: run r := by simp [run, h]
/-- with what a token begins that wants a blank behind a word -/
theorem lex_first {c : Int} {r : List Int} {k : Int} {t : List Int} {n : Int} {len : Nat} (h : lex c r = .tok k t n len) (hk : k = 1 ∨ k = 2 ∨ k = 5 ∨ (k = 4 ∧ 0 ≤ n)) : rn c = true := by
  rcases lex_inv h with ⟨_, _, _, h1, h2, _⟩ | ⟨_, _, _, h1, h2, _⟩ | ⟨_, _, _, _, h1, _⟩ | ⟨k4, _, _, _, h1, hn, _⟩ | ⟨k3, _⟩ | ⟨_, _, _, d, x, _, h1⟩ | ⟨_, _, _, h1⟩
  · simp [rn, h1]
  · simp [rn, h1]
  · simp [rn, h1]
  · rcases h1 with h1 | h1
    · simp [rn, h1]
    · obtain ⟨e, b1, b2⟩ := num_inv hn
      obtain ⟨c', r', e', _, _, hp, _⟩ := dec_form b1 b2
      rw [e] at e'
      injection e' with e1 _
      have := hp (by omega)
      rw [← e1] at this
      simp [rn, this]
  · omega
  · omega
  · omega
theorem two_cut {x y : Tok} {w v : List Int} (hx : spell x.k x.t x.n = some w) (hy : spell y.k y.t y.n = some v) (fx : fine x) (fy : fine y) :
    (apart x.k y.k y.n = false → ∃ a b, cut 0 0 (w ++ v) = ⟨[a, b], 0, 0⟩ ∧ key a = key x ∧ key b = key y) ∧
    (apart x.k y.k y.n = true → (cut 0 0 (w ++ v)).e = 0 → (cut 0 0 (w ++ v)).l.map key ≠ [key x, key y]) := by
  refine ⟨fun h => ?_, fun h he hk => ?_⟩
  · have hj : joinTail x.k [y] = some v := by simp [joinTail, hy, h]
    have hs := stop_join x.k [y] v (fun t ht => by rw [List.mem_singleton.mp ht]; exact fy) hj
    have h2 := cut_spell hy fy.1 fy.2 [] (stop_nil _) (0 + w.length)
    rw [List.append_nil, cut_nil] at h2
    rw [cut_spell hx fx.1 fx.2 v hs 0, h2]
    exact ⟨_, _, rfl, rfl, rfl⟩
  · obtain ⟨c, r, rfl, hl⟩ := spell_lex hx fx.1 fx.2
    obtain ⟨c', r', rfl, hl'⟩ := spell_lex hy fy.1 fy.2
    have hh := lex_head hl
    rw [List.cons_append] at he hk
    cases hx2 : lex c (r ++ c' :: r') with
    | bad e off =>
      rw [cut_bad 0 hh.1 hh.2 hx2] at he
      have := (lex_off hx2).2
      simp only at he
      omega
    | tok k2 t2 n2 len2 =>
      rw [cut_tok 0 hh.1 hh.2 hx2] at hk he
      rw [cons_e] at he
      unfold Res.cons at hk
      rw [if_pos he] at hk
      simp only [List.map_cons, List.cons.injEq, key, Prod.mk.injEq] at hk
      obtain ⟨⟨k1, k2', k3⟩, _⟩ := hk
      rw [k1, k2', k3] at hx2
      have i1 := lex_inv hl
      have i2 := lex_inv hx2
      have on : rn c' = true → run r = r → run (r ++ c' :: r') = run r → False := fun a b d => by
        rw [run_append_on _ _ b, run_first a, b] at d
        have := congrArg List.length d
        simp at this
      unfold apart at h
      by_cases c15 : x.k = 15
      · rw [if_pos c15] at h
        have h13 : y.k = 13 := of_decide_eq_true h
        have hr : r = [] := by
          rcases i1 with ⟨q, _⟩ | ⟨q, _⟩ | ⟨q, _⟩ | ⟨q, _⟩ | ⟨q, _⟩ | ⟨_, _, _, d, z, _, q⟩ | ⟨_, _, q, _⟩
          · omega
          · omega
          · omega
          · omega
          · omega
          · omega
          · exact List.length_eq_zero_iff.mp (by omega)
        have hc : c' = 61 := by
          rcases lex_inv hl' with ⟨q, _⟩ | ⟨q, _⟩ | ⟨q, _⟩ | ⟨q, _⟩ | ⟨q, _⟩ | ⟨_, _, _, d, z, _, q⟩ | ⟨_, _, _, q⟩ <;> omega
        subst hr hc
        rcases i2 with ⟨q, _⟩ | ⟨q, _⟩ | ⟨q, _⟩ | ⟨q, _⟩ | ⟨q, _⟩ | ⟨_, _, _, d, z, _, q⟩ | ⟨_, _, _, q⟩
        · omega
        · omega
        · omega
        · omega
        · omega
        · omega
        · rcases q with q | q | q | q | q | q | q | q
          · omega
          · omega
          · omega
          · omega
          · omega
          · omega
          · omega
          · exact q.2.2 rfl
      · rw [if_neg c15] at h
        by_cases cw : x.k = 1 ∨ x.k = 2 ∨ x.k = 5 ∨ x.k = 4
        · rw [if_pos cw] at h
          have hf : rn c' = true := by
            refine lex_first hl' ?_
            by_cases q : y.k = 1 ∨ y.k = 2 ∨ y.k = 5
            · omega
            · rw [if_neg q] at h
              by_cases q4 : y.k = 4
              · rw [if_pos q4] at h; have := of_decide_eq_true h; omega
              · rw [if_neg q4] at h; cases h
          have fin : run r = r → run (r ++ c' :: r') = run r → False := on hf
          have full : (run r).length + 1 = r.length + 1 → run r = r := fun e => by
            have := run_take r
            rw [show (run r).length = r.length by omega, List.take_length] at this
            exact this.symm
          rcases i1 with ⟨q, _, _, _, a, b⟩ | ⟨q, a, _, _, _, b⟩ | ⟨q, a, _, _, _, b⟩ | ⟨q, _, _, _, _, a, b⟩ | ⟨q, _⟩ | ⟨_, _, _, d, z, _, q⟩ | ⟨_, _, _, q⟩
          · rcases i2 with ⟨p, _, _, _, a', _⟩ | ⟨p, _⟩ | ⟨p, _⟩ | ⟨p, _⟩ | ⟨p, _⟩ | ⟨_, _, _, d, z, _, p⟩ | ⟨_, _, _, p⟩
            · have hlen : (c :: run r).length = 4 := by rw [a]; rfl
              rw [List.length_cons] at hlen
              refine fin (full (by omega)) ?_
              rw [← a] at a'
              injection a'
            all_goals omega
          · rcases i2 with ⟨p, _⟩ | ⟨p, a', _⟩ | ⟨p, _⟩ | ⟨p, _⟩ | ⟨p, _⟩ | ⟨_, _, _, d, z, _, p⟩ | ⟨_, _, _, p⟩
            · omega
            · refine fin (full (by omega)) ?_
              rw [a] at a'
              injection a' with _ a'
              exact a'.symm
            all_goals omega
          · rcases i2 with ⟨p, _⟩ | ⟨p, _⟩ | ⟨p, a', _⟩ | ⟨p, _⟩ | ⟨p, _⟩ | ⟨_, _, _, d, z, _, p⟩ | ⟨_, _, _, p⟩
            · omega
            · omega
            · refine fin (full (by omega)) ?_
              rw [a] at a'
              injection a' with _ a'
              exact a'.symm
            all_goals omega
          · rcases i2 with ⟨p, _⟩ | ⟨p, _⟩ | ⟨p, _⟩ | ⟨p, _, _, _, _, a', _⟩ | ⟨p, _⟩ | ⟨_, _, _, d, z, _, p⟩ | ⟨_, _, _, p⟩
            · omega
            · omega
            · omega
            · refine fin (full (by omega)) ?_
              have e1 := (num_inv a).1
              have e2 := (num_inv a').1
              rw [e1] at e2
              injection e2 with _ e2
              exact e2.symm
            all_goals omega
          all_goals omega
        · rw [if_neg cw] at h; cases h
end Go.Proofs.YtgeheffhdpeddaaDoor.Tk
