/-
  PLAIN: what it means to cut a list of bytes (whole numbers 0 to 255) into tokens: the functions, by structural recursion, and their first laws. No program in sight. Conditions: none.
-/
namespace Go.Proofs.YtmpaipbpnkfmfaaDoor.Tk

def sm (c : Int) : Bool := decide (97 ≤ c) && decide (c ≤ 122)
def gr (c : Int) : Bool := (decide (65 ≤ c) && decide (c ≤ 90)) || decide (c = 95)
def dg (c : Int) : Bool := decide (48 ≤ c) && decide (c ≤ 57)
def rn (c : Int) : Bool := sm c || gr c || dg c
def says : List Int := [115, 97, 121, 115]

/-- the run with which a list begins -/
def run : List Int → List Int
  | [] => []
  | c :: r => if rn c then c :: run r else []

/-- a hex digit's value, -1 if it is none -/
def hx (c : Int) : Int := if dg c then c - 48 else if 97 ≤ c ∧ c ≤ 102 then c - 87 else if 65 ≤ c ∧ c ≤ 70 then c - 55 else -1

/-- what stands behind a backslash: the byte and how many bytes say it -/
def esc : List Int → Int × Nat
  | [] => (0, 0)
  | c :: r =>
    if c = 34 ∨ c = 92 then (c, 1)
    else if c = 110 then (10, 1)
    else if c = 116 then (9, 1)
    else if c = 120 then
      match r with
      | a :: b :: _ => if 0 ≤ hx a ∧ 0 ≤ hx b then (16 * hx a + hx b, 3) else (0, 0)
      | _ => (0, 0)
    else (0, 0)

inductive Qr where
  | ok (m : List Int) (n : Nat)
  | bad (n : Nat)
  | opn
deriving DecidableEq
def Qr.adv : Qr → Qr
  | .ok m n => .ok m (n + 1)
  | .bad n => .bad (n + 1)
  | .opn => .opn
def Qr.put (c : Int) : Qr → Qr
  | .ok m n => .ok (c :: m) n
  | .bad n => .bad n
  | .opn => .opn

/-- behind the opening quote, so many bytes being passed over -/
def quot : Nat → List Int → Qr
  | _, [] => .opn
  | k + 1, _ :: r => (quot k r).adv
  | 0, c :: r =>
    if c = 34 then .ok [] 1
    else if c = 92 then
      if (esc r).2 = 0 then .bad 0 else ((quot (esc r).2 r).put (esc r).1).adv
    else if c < 32 ∨ c = 127 then .bad 0
    else ((quot 0 r).put c).adv

/-- the value of digits -/
def val : Nat → List Int → Nat
  | a, [] => a
  | a, c :: r => val (10 * a + (c - 48).toNat) r

def alld : List Int → Bool
  | [] => true
  | c :: r => dg c && alld r

/-- digits, the first no nought -/
def nat? (l : List Int) : Option Nat :=
  match l with
  | [] => none
  | c :: r => if c = 48 then none else if dg c && alld r then some (val 0 (c :: r)) else none

/-- the value of a number's text -/
def num (l : List Int) : Option Int :=
  if l = [48] then some 0
  else match l with
    | [] => none
    | c :: r =>
      if c = 45 then
        match nat? r with
        | some v => if v ≤ 9223372036854775808 then some (-(v : Int)) else none
        | none => none
      else
        match nat? (c :: r) with
        | some v => if v ≤ 9223372036854775807 then some (v : Int) else none
        | none => none

/-- one token, or a fault so far behind its place -/
inductive Lx where
  | tok (k : Int) (t : List Int) (n : Int) (len : Nat)
  | bad (e : Int) (off : Nat)
deriving DecidableEq

def sign1 (c : Int) : Int :=
  if c = 40 then 6 else if c = 41 then 7 else if c = 44 then 8 else if c = 59 then 9 else if c = 46 then 10
  else if c = 63 then 12 else if c = 61 then 13 else if c = 60 then 15 else 0

def sign2 (c d : Int) : Int :=
  if c = 58 ∧ d = 45 then 11 else if c = 33 ∧ d = 61 then 14 else if c = 60 ∧ d = 61 then 16 else 0

def signs (c : Int) (r : List Int) : Lx :=
  match r with
  | d :: _ => if sign2 c d ≠ 0 then .tok (sign2 c d) [] 0 2 else if sign1 c ≠ 0 then .tok (sign1 c) [] 0 1 else .bad 42 0
  | [] => if sign1 c ≠ 0 then .tok (sign1 c) [] 0 1 else .bad 42 0

def lex (c : Int) (r : List Int) : Lx :=
  if sm c then
    if c :: run r = says then .tok 5 [] 0 4 else .tok 1 (c :: run r) 0 ((run r).length + 1)
  else if gr c then .tok 2 (c :: run r) 0 ((run r).length + 1)
  else if dg c ∨ c = 45 then
    match num (c :: run r) with
    | some n => .tok 4 [] n ((run r).length + 1)
    | none => .bad 45 0
  else if c = 34 then
    match quot 0 r with
    | .ok m n => .tok 3 m 0 (n + 1)
    | .bad n => .bad 44 (n + 1)
    | .opn => .bad 43 0
  else signs c r

structure Tok where
  k : Int
  t : List Int
  n : Int
  at_ : Int
  e : Int
deriving DecidableEq

def bl (c : Int) : Bool := decide (c = 32) || decide (c = 9) || decide (c = 10) || decide (c = 13)

/-- how long a remark is -/
def rem : List Int → Nat
  | [] => 0
  | c :: r => if c = 10 then 0 else rem r + 1

structure Res where
  l : List Tok
  e : Int
  p : Int
deriving DecidableEq
def Res.cons (t : Tok) (r : Res) : Res := if r.e = 0 then { r with l := t :: r.l } else r

/-- the tokens from the place 'at' on, so many bytes being passed over -/
def cut : Nat → Int → List Int → Res
  | _, _, [] => ⟨[], 0, 0⟩
  | s + 1, at_, _ :: r => cut s (at_ + 1) r
  | 0, at_, c :: r =>
    if bl c then cut 0 (at_ + 1) r
    else if c = 37 then cut (rem r) (at_ + 1) r
    else match lex c r with
      | .tok k t n len => (cut (len - 1) (at_ + 1) r).cons ⟨k, t, n, at_, at_ + len⟩
      | .bad e off => ⟨[], e, at_ + off⟩

/-- P4.1 -/
def Cut (l : List Int) (most : Int) : Res := if most < (l.length : Int) then ⟨[], 41, 0⟩ else cut 0 0 l

/-- P4.2 -/
def word (s : List Int) : Bool :=
  match s with
  | [] => false
  | c :: r => sm c && decide (run r = r) && decide (c :: r ≠ says)

def dig (n : Int) : Int := if n < 10 then 48 + n else 87 + n

def qbyte (c : Int) : List Int :=
  if c = 34 ∨ c = 92 then [92, c]
  else if c = 10 then [92, 110]
  else if c = 9 then [92, 116]
  else if 32 ≤ c ∧ c ≤ 126 then [c]
  else [92, 120, dig (c / 16), dig (c % 16)]
def qbody : List Int → List Int
  | [] => []
  | c :: r => qbyte c ++ qbody r
/-- P4.3 -/
def quote (s : List Int) : List Int := 34 :: (qbody s ++ [34])

/-- decimal digits: by fuel -/
def decN : Nat → Nat → List Int → List Int
  | 0, _, acc => acc
  | f + 1, n, acc => if n < 10 then (48 + (n : Int)) :: acc else decN f (n / 10) ((48 + ((n % 10 : Nat) : Int)) :: acc)
def dec (n : Int) : List Int := if n < 0 then 45 :: decN 20 n.natAbs [] else decN 20 n.natAbs []

def signOf (k : Int) : List Int :=
  if k = 5 then says else if k = 6 then [40] else if k = 7 then [41] else if k = 8 then [44] else if k = 9 then [59] else if k = 10 then [46]
  else if k = 11 then [58, 45] else if k = 12 then [63] else if k = 13 then [61] else if k = 14 then [33, 61] else if k = 15 then [60] else if k = 16 then [60, 61] else []

def vari (s : List Int) : Bool :=
  match s with
  | [] => false
  | c :: r => gr c && decide (run r = r)

/-- P4.4 -/
def spell (k : Int) (t : List Int) (n : Int) : Option (List Int) :=
  if k = 1 then (if n = 0 ∧ word t = true then some t else none)
  else if k = 2 then (if n = 0 ∧ vari t = true then some t else none)
  else if k = 3 then (if n = 0 then some (quote t) else none)
  else if k = 4 then (if t = [] then some (dec n) else none)
  else if 5 ≤ k ∧ k ≤ 16 then (if t = [] ∧ n = 0 then some (signOf k) else none)
  else none

/-- must a blank stand between the two? -/
def apart (k : Int) (k' n' : Int) : Bool :=
  if k = 15 then decide (k' = 13)
  else if k = 1 ∨ k = 2 ∨ k = 5 ∨ k = 4 then
    (if k' = 1 ∨ k' = 2 ∨ k' = 5 then true else if k' = 4 then decide (0 ≤ n') else false)
  else false

def joinTail : Int → List Tok → Option (List Int)
  | _, [] => some []
  | k, t :: r =>
    match spell t.k t.t t.n, joinTail t.k r with
    | some s, some w => some ((if apart k t.k t.n then [32] else []) ++ s ++ w)
    | _, _ => none
/-- P4.5 -/
def join (l : List Tok) : Option (List Int) := joinTail 0 l

end Go.Proofs.YtmpaipbpnkfmfaaDoor.Tk
