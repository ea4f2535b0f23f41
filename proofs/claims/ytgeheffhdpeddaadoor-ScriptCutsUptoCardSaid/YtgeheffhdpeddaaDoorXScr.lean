/-
  Texts laid together: PLAIN; PLAIN; PLAIN; PLAIN; PLAIN. Conditions: as each theorem states.
-/
import Derived.Test.YtgeheffhdpeddaaDoorXTok
/- PLAIN: what it means to read a line of a script as a step and to print a step: the functions, with no program in sight. Conditions: none. -/
namespace Go.Proofs.YtgeheffhdpeddaaDoor.Scr
open Go.Proofs.YtgeheffhdpeddaaDoor.Tk
structure D where
  kind : Int
  who : List Int
  to : List Int
  text : List Int
  bytes : List Int
  n : Int
  m : Int
  k : Int
deriving DecidableEq
def zero : D := ⟨0, [], [], [], [], 0, 0, 0⟩
/-- the parts of a line -/
inductive P where
  | w | o | t | b | n | m | k
deriving DecidableEq
def fits : P → Int → Bool
  | .w, k => decide (k = 1) || decide (k = 3)
  | .o, k => decide (k = 1) || decide (k = 3)
  | .t, k => decide (k = 3)
  | .b, k => decide (k = 3)
  | .n, k => decide (k = 4)
  | .m, k => decide (k = 4)
  | .k, k => decide (k = 4)
def put (d : D) (p : P) (t : Tok) : D :=
  match p with
  | .w => { d with who := t.t }
  | .o => { d with to := t.t }
  | .t => { d with text := t.t }
  | .b => { d with bytes := t.t }
  | .n => { d with n := t.n }
  | .m => { d with m := t.n }
  | .k => { d with k := t.n }
structure Row where
  name : List Int
  kind : Int
  parts : List P
def rows : List Row := [
  ⟨[101, 110, 114, 111, 108, 108], 1, [.w]⟩, ⟨[97, 115, 115, 101, 114, 116], 2, [.w, .t]⟩, ⟨[114, 101, 116, 114, 97, 99, 116], 3, [.w, .t]⟩, ⟨[101, 120, 112, 111, 114, 116], 4, [.w, .t, .n]⟩,
  ⟨[105, 109, 112, 111, 114, 116], 5, [.w, .n]⟩, ⟨[102, 111, 114, 103, 101, 116], 6, [.w, .t]⟩, ⟨[113, 117, 101, 114, 121], 7, [.w, .t, .n]⟩, ⟨[97, 115, 107], 8, [.w, .t]⟩,
  ⟨[119, 97, 116, 99, 104], 9, [.w, .t]⟩, ⟨[110, 101, 119, 115], 10, [.w, .n]⟩, ⟨[119, 104, 121], 11, [.w, .t]⟩, ⟨[108, 111, 115, 115], 12, [.w, .o]⟩,
  ⟨[112, 114, 111, 118, 101], 13, [.w, .t, .n]⟩, ⟨[115, 104, 111, 119], 14, [.w, .n]⟩, ⟨[99, 108, 97, 117, 115, 101, 115], 15, [.w]⟩, ⟨[114, 101, 100, 117, 110, 100, 97, 110, 116], 24, [.w]⟩,
  ⟨[100, 114, 111, 112], 16, [.n]⟩, ⟨[99, 111, 112, 121], 17, [.n]⟩, ⟨[115, 119, 97, 112], 18, [.n, .m]⟩, ⟨[102, 108, 105, 112], 19, [.n, .m, .k]⟩,
  ⟨[99, 117, 116], 20, [.n, .m]⟩, ⟨[102, 111, 114, 103, 101], 21, [.b]⟩, ⟨[119, 97, 105, 116, 105, 110, 103], 22, []⟩, ⟨[99, 114, 97, 115, 104], 23, [.w, .m]⟩]
def byName (s : List Int) : List Row → Option Row
  | [] => none
  | r :: rs => if r.name = s then some r else byName s rs
def byKind (k : Int) : List Row → Option Row
  | [] => none
  | r :: rs => if r.kind = k then some r else byKind k rs
structure R where
  d : D
  e : Int
  p : Int
deriving DecidableEq
/-- the parts, held against the tokens behind the first -/
def takes (len : Int) : D → List P → List Tok → R
  | d, [], [] => ⟨d, 0, 0⟩
  | _, [], t :: _ => ⟨zero, 253, t.at_⟩
  | _, _ :: _, [] => ⟨zero, 253, len⟩
  | d, p :: ps, t :: ts => if fits p t.k then takes len (put d p t) ps ts else ⟨zero, 253, t.at_⟩
def readL (len : Int) : List Tok → R
  | [] => ⟨zero, 252, len⟩
  | t :: ts =>
    if t.k = 1 then
      match byName t.t rows with
      | some r => takes len { zero with kind := r.kind } r.parts ts
      | none => ⟨zero, 252, t.at_⟩
    else ⟨zero, 252, t.at_⟩
/-- P25.1 -/
def read (s : List Int) : R :=
  if 65536 < s.length then ⟨zero, 251, 0⟩
  else if (cut 0 0 s).e = 0 then readL s.length (cut 0 0 s).l else ⟨zero, (cut 0 0 s).e, (cut 0 0 s).p⟩
def name (s : List Int) : List Int := if word s = true then s else quote s
def shown (d : D) : P → List Int
  | .w => name d.who
  | .o => name d.to
  | .t => quote d.text
  | .b => quote d.bytes
  | .n => dec d.n
  | .m => dec d.m
  | .k => dec d.k
def has (p : P) (ps : List P) : Bool := ps.any fun q => decide (q = p)
/-- the fields that the row has no part for are zero -/
def clean (ps : List P) (d : D) : Bool :=
  (has .w ps || decide (d.who = [])) && (has .o ps || decide (d.to = [])) && (has .t ps || decide (d.text = [])) && (has .b ps || decide (d.bytes = [])) &&
  (has .n ps || decide (d.n = 0)) && (has .m ps || decide (d.m = 0)) && (has .k ps || decide (d.k = 0))
def tailL (d : D) : List P → List Int
  | [] => []
  | p :: ps => 32 :: (shown d p ++ tailL d ps)
def line (r : Row) (d : D) : List Int := r.name ++ tailL d r.parts
/-- P25.2 -/
def print (d : D) : Option (List Int) :=
  match byKind d.kind rows with
  | none => none
  | some r => if clean r.parts d = true ∧ (line r d).length ≤ 65536 then some (line r d) else none

/-! what is printed is read -/
structure Fine (d : D) : Prop where
  who : bytes d.who
  to : bytes d.to
  text : bytes d.text
  bytes : bytes d.bytes
  n : -9223372036854775808 ≤ d.n ∧ d.n ≤ 9223372036854775807
  m : -9223372036854775808 ≤ d.m ∧ d.m ≤ 9223372036854775807
  k : -9223372036854775808 ≤ d.k ∧ d.k ≤ 9223372036854775807
/-- the token that stands for a part, its places left open -/
def tokP (d : D) (p : P) (a e : Int) : Tok :=
  match p with
  | .w => ⟨if word d.who = true then 1 else 3, d.who, 0, a, e⟩
  | .o => ⟨if word d.to = true then 1 else 3, d.to, 0, a, e⟩
  | .t => ⟨3, d.text, 0, a, e⟩
  | .b => ⟨3, d.bytes, 0, a, e⟩
  | .n => ⟨4, [], d.n, a, e⟩
  | .m => ⟨4, [], d.m, a, e⟩
  | .k => ⟨4, [], d.k, a, e⟩
theorem spell_name (s : List Int) : spell (if word s = true then 1 else 3) s 0 = some (name s) := by
  unfold name
  by_cases h : word s = true
  · rw [if_pos h, if_pos h]; simp [spell, h]
  · rw [if_neg h, if_neg h]; simp [spell]
theorem spell_part (d : D) (p : P) (a e : Int) : spell (tokP d p a e).k (tokP d p a e).t (tokP d p a e).n = some (shown d p) := by
  cases p
  · exact spell_name d.who
  · exact spell_name d.to
  · simp [tokP, shown, spell]
  · simp [tokP, shown, spell]
  · simp [tokP, shown, spell]
  · simp [tokP, shown, spell]
  · simp [tokP, shown, spell]
theorem z64 : -9223372036854775808 ≤ (0 : Int) ∧ (0 : Int) ≤ 9223372036854775807 := by decide
theorem fine_part {d : D} (h : Fine d) (p : P) (a e : Int) : fine (tokP d p a e) := by
  cases p
  · exact ⟨z64, h.who⟩
  · exact ⟨z64, h.to⟩
  · exact ⟨z64, h.text⟩
  · exact ⟨z64, h.bytes⟩
  · exact ⟨h.n, fun _ hc => by cases hc⟩
  · exact ⟨h.m, fun _ hc => by cases hc⟩
  · exact ⟨h.k, fun _ hc => by cases hc⟩
/-- the tokens of the parts, from a place on -/
def toksP (d : D) : List P → Int → List Tok
  | [], _ => []
  | p :: ps, a => tokP d p (a + 1) (a + 1 + ((shown d p).length : Int)) :: toksP d ps (a + 1 + ((shown d p).length : Int))
/-- What may stand behind a line. -/
def after (b : List Int) : Prop := b = [] ∨ ∃ r, b = 32 :: r
theorem stop_after {b : List Int} (h : after b) (k : Int) : stop k b := by
  rcases h with rfl | ⟨r, rfl⟩
  · exact stop_nil k
  · exact ⟨fun _ => rfl, fun _ => by simp⟩
theorem tail_after (d : D) (ps : List P) {b : List Int} (h : after b) : after (tailL d ps ++ b) := by
  cases ps with
  | nil => exact h
  | cons p ps => exact .inr ⟨_, rfl⟩
/-- Tokens ahead of what is cut. -/
def ahead (T : List Tok) (r : Res) : Res := T.foldr (fun t r => r.cons t) r
theorem tokP_at (d : D) (p : P) (a e : Int) : (⟨(tokP d p a e).k, (tokP d p a e).t, (tokP d p a e).n, a, e⟩ : Tok) = tokP d p a e := by cases p <;> rfl
theorem cut_tail {d : D} (h : Fine d) (b : List Int) (hb : after b) : ∀ (ps : List P) (a : Int), cut 0 a (tailL d ps ++ b) = ahead (toksP d ps a) (cut 0 (a + ((tailL d ps).length : Int)) b)
  | [], a => by simp [tailL, toksP, ahead]
  | p :: ps, a => by
    have ih := cut_tail h b hb ps (a + 1 + ((shown d p).length : Int))
    have fx := fine_part h p (a + 1) (a + 1 + ((shown d p).length : Int))
    have hc := cut_spell (spell_part d p (a + 1) (a + 1 + ((shown d p).length : Int))) fx.1 fx.2 (tailL d ps ++ b) (stop_after (tail_after d ps hb) _) (a + 1)
    rw [tokP_at] at hc
    simp only [tailL, List.cons_append, List.append_assoc]
    rw [cut_bl a (by decide), hc, ih]
    simp only [toksP, ahead, List.foldr_cons, List.length_cons, List.length_append]
    congr 3
    push_cast
    omega
theorem word_bytes {s : List Int} (h : word s = true) : bytes s := by
  have key : ∀ l : List Int, run l = l → bytes l := by
    intro l
    induction l with
    | nil => intro _ c hc; cases hc
    | cons c r ih =>
      intro h x hx
      simp only [run] at h
      split at h
      · rename_i hr
        injection h with _ h
        rcases List.mem_cons.mp hx with rfl | hx
        · simp only [rn, sm, gr, dg, Bool.or_eq_true, Bool.and_eq_true, decide_eq_true_eq] at hr; omega
        · exact ih h x hx
      · cases h
  cases s with
  | nil => cases h
  | cons c r =>
    simp only [word, Bool.and_eq_true, decide_eq_true_eq] at h
    refine key _ ?_
    simp only [run]
    have : rn c = true := by simp [rn, h.1.1]
    rw [if_pos this, h.1.2]
theorem names_word : ∀ r ∈ rows, word r.name = true := by decide
theorem cut_line {d : D} (h : Fine d) {r : Row} (hr : r ∈ rows) (b : List Int) (hb : after b) (a : Int) :
    cut 0 a (line r d ++ b) = ahead (⟨1, r.name, 0, a, a + (r.name.length : Int)⟩ :: toksP d r.parts (a + (r.name.length : Int))) (cut 0 (a + ((line r d).length : Int)) b) := by
  have hw := names_word r hr
  have hs : spell 1 r.name 0 = some r.name := by simp [spell, hw]
  have hc := cut_spell hs (by decide) (word_bytes hw) (tailL d r.parts ++ b) (stop_after (tail_after d r.parts hb) _) a
  unfold line
  rw [List.append_assoc, hc, cut_tail h b hb]
  simp only [ahead, List.foldr_cons, List.length_append]
  congr 3
  push_cast
  omega
theorem ahead_ok : ∀ (T : List Tok) (l : List Tok) (p : Int), ahead T ⟨l, 0, p⟩ = ⟨T ++ l, 0, p⟩
  | [], _, _ => rfl
  | t :: T, l, p => by
    have := ahead_ok T l p
    unfold ahead at this ⊢
    rw [List.foldr_cons, this]; rfl
theorem fits_part (d : D) (p : P) (a e : Int) : fits p (tokP d p a e).k = true := by
  cases p <;> simp only [tokP, fits] <;> (try split) <;> rfl
/-- what the parts lay into a step -/
def laid (d : D) : D → List P → D
  | d0, [] => d0
  | d0, p :: ps => laid d (put d0 p (tokP d p 0 0)) ps
theorem put_places (d0 d : D) (p : P) (a e : Int) : put d0 p (tokP d p a e) = put d0 p (tokP d p 0 0) := by cases p <;> rfl
theorem takes_part (d : D) (len : Int) : ∀ (ps : List P) (d0 : D) (a : Int) (ts : List Tok), takes len d0 ps (toksP d ps a ++ ts) = (match ts with | [] => ⟨laid d d0 ps, 0, 0⟩ | t :: _ => ⟨zero, 253, t.at_⟩)
  | [], d0, a, ts => by cases ts <;> rfl
  | p :: ps, d0, a, ts => by
    simp only [toksP, List.cons_append, takes, fits_part, if_true, put_places]
    exact takes_part d len ps _ _ ts
/-- a field is the step's where the row has a part for it -/
theorem laid_eq (d : D) : ∀ (ps : List P) (d0 : D), laid d d0 ps =
    ⟨d0.kind, if has .w ps then d.who else d0.who, if has .o ps then d.to else d0.to, if has .t ps then d.text else d0.text, if has .b ps then d.bytes else d0.bytes, if has .n ps then d.n else d0.n, if has .m ps then d.m else d0.m, if has .k ps then d.k else d0.k⟩
  | [], d0 => by simp [laid, has]
  | p :: ps, d0 => by
    rw [laid, laid_eq d ps]
    cases p <;> simp [has, put, tokP]
theorem laid_clean {d : D} {ps : List P} (h : clean ps d = true) : laid d { zero with kind := d.kind } ps = d := by
  rw [laid_eq]
  simp only [clean, Bool.and_eq_true, Bool.or_eq_true, decide_eq_true_eq] at h
  obtain ⟨⟨⟨⟨⟨⟨h1, h2⟩, h3⟩, h4⟩, h5⟩, h6⟩, h7⟩ := h
  obtain ⟨kind, who, to, text, bytes, n, m, k⟩ := d
  simp only [zero] at *
  congr
  · split
    · rfl
    · exact (h1.resolve_left (by assumption)).symm
  · split
    · rfl
    · exact (h2.resolve_left (by assumption)).symm
  · split
    · rfl
    · exact (h3.resolve_left (by assumption)).symm
  · split
    · rfl
    · exact (h4.resolve_left (by assumption)).symm
  · split
    · rfl
    · exact (h5.resolve_left (by assumption)).symm
  · split
    · rfl
    · exact (h6.resolve_left (by assumption)).symm
  · split
    · rfl
    · exact (h7.resolve_left (by assumption)).symm
theorem byKind_mem {k : Int} {r : Row} : ∀ {l : List Row}, byKind k l = some r → r ∈ l ∧ r.kind = k
  | [], h => by cases h
  | q :: l, h => by
    unfold byKind at h
    split at h
    · cases h; exact ⟨by simp, by assumption⟩
    · obtain ⟨h1, h2⟩ := byKind_mem h; exact ⟨by simp [h1], h2⟩
theorem byName_mem {s : List Int} {r : Row} : ∀ {l : List Row}, byName s l = some r → r ∈ l ∧ r.name = s
  | [], h => by cases h
  | q :: l, h => by
    unfold byName at h
    split at h
    · cases h; exact ⟨by simp, by assumption⟩
    · obtain ⟨h1, h2⟩ := byName_mem h; exact ⟨by simp [h1], h2⟩
theorem names_own : ∀ r ∈ rows, (byName r.name rows).map (fun q => (q.kind, q.parts)) = some (r.kind, r.parts) := by decide
theorem kinds_own : ∀ r ∈ rows, (byKind r.kind rows).map (fun q => (q.name, q.parts)) = some (r.name, r.parts) := by decide
theorem kinds_rng : ∀ r ∈ rows, 1 ≤ r.kind ∧ r.kind ≤ 24 := by decide
theorem name_own {r : Row} (h : r ∈ rows) : byName r.name rows = some r := by
  have := names_own r h
  cases hq : byName r.name rows with
  | none => rw [hq] at this; cases this
  | some q =>
    rw [hq] at this
    simp only [Option.map_some, Option.some.injEq, Prod.mk.injEq] at this
    obtain ⟨n, k, p⟩ := q
    obtain ⟨_, hn⟩ := byName_mem hq
    simp only at this hn
    obtain ⟨rn, rk, rp⟩ := r
    simp only at this hn
    rw [hn, this.1, this.2]
theorem kind_own {r : Row} (h : r ∈ rows) : byKind r.kind rows = some r := by
  have := kinds_own r h
  cases hq : byKind r.kind rows with
  | none => rw [hq] at this; cases this
  | some q =>
    rw [hq] at this
    simp only [Option.map_some, Option.some.injEq, Prod.mk.injEq] at this
    obtain ⟨n, k, p⟩ := q
    obtain ⟨_, hn⟩ := byKind_mem hq
    simp only at this hn
    obtain ⟨rn, rk, rp⟩ := r
    simp only at this hn
    rw [hn, this.1, this.2]
/-- A line, with something behind it that has no token or has some. -/
theorem read_line {d : D} (h : Fine d) {r : Row} (hr : r ∈ rows) (hk : d.kind = r.kind) (hc : clean r.parts d = true) (pre b : List Int) (hpre : ∀ (a : Int) (x : List Int), cut 0 a (pre ++ x) = cut 0 (a + (pre.length : Int)) x) (hb : after b)
    (hlen : pre.length + (line r d).length + b.length ≤ 65536) (l : List Tok) (hcut : cut 0 ((pre.length : Int) + ((line r d).length : Int)) b = ⟨l, 0, 0⟩) :
    read (pre ++ (line r d ++ b)) = (match l with | [] => ⟨d, 0, 0⟩ | t :: _ => ⟨zero, 253, t.at_⟩) := by
  unfold read
  have e1 : ¬ (65536 < (pre ++ (line r d ++ b)).length) := by simp only [List.length_append]; omega
  rw [if_neg e1]
  have e2 : cut 0 0 (pre ++ (line r d ++ b)) = ⟨⟨1, r.name, 0, (pre.length : Int), (pre.length : Int) + (r.name.length : Int)⟩ :: toksP d r.parts ((pre.length : Int) + (r.name.length : Int)) ++ l, 0, 0⟩ := by
    rw [hpre, Int.zero_add, cut_line h hr b hb, hcut, ahead_ok]
  rw [e2]
  simp only [if_true, List.cons_append, readL, name_own hr]
  rw [takes_part]
  cases l with
  | nil => simp only; rw [← hk, laid_clean hc]
  | cons t l => rfl
theorem read_print {d : D} (h : Fine d) {s : List Int} (hs : print d = some s) : read s = ⟨d, 0, 0⟩ := by
  unfold print at hs
  cases hq : byKind d.kind rows with
  | none => rw [hq] at hs; cases hs
  | some r =>
    rw [hq] at hs
    simp only at hs
    split at hs
    · rename_i hc
      cases hs
      obtain ⟨hr, hk⟩ := byKind_mem hq
      have := read_line h hr hk.symm hc.1 [] [] (fun a x => by simp) (.inl rfl) (by simpa using hc.2) [] (by simp [cut])
      simpa using this
    · cases hs
end Go.Proofs.YtgeheffhdpeddaaDoor.Scr

/- PLAIN: what a line that is read says of the step: its own line is not much longer. Conditions: texts of bytes. -/
namespace Go.Proofs.YtgeheffhdpeddaaDoor.Scr
open Go.Proofs.YtgeheffhdpeddaaDoor.Tk
/-- a token's own bytes -/
structure Src (a b : Int) (t : Tok) : Prop where
  lo : a ≤ t.at_
  hi : t.e ≤ b
  one : t.at_ + 1 ≤ t.e
  w1 : t.k = 1 → word t.t = true ∧ (t.t.length : Int) ≤ t.e - t.at_
  w3 : t.k = 3 → (t.t.length : Int) + 2 ≤ t.e - t.at_
  w4 : t.k = 4 → ((dec t.n).length : Int) ≤ t.e - t.at_
def srcs : List Tok → Int
  | [] => 0
  | t :: l => (t.e - t.at_) + srcs l
theorem lex_src {c : Int} {r : List Int} {k : Int} {t : List Int} {n : Int} {len : Nat} (h : lex c r = .tok k t n len) (hb : bytes (c :: r)) (a : Int) : Src a (a + len) ⟨k, t, n, a, a + len⟩ := by
  have hl := lex_len h
  refine ⟨Int.le_refl _, Int.le_refl _, by simp only; omega, fun hk => ?_, fun hk => ?_, fun hk => ?_⟩
  · simp only at hk ⊢
    obtain ⟨⟨w, hw⟩, _⟩ := lex_spell h hb
    rw [hk] at hw
    rcases lex_inv h with ⟨q, _⟩ | ⟨q, e, _, _, _, e2⟩ | ⟨q, _⟩ | ⟨q, _⟩ | ⟨q, _⟩ | ⟨_, _, _, d, x, _, q⟩ | ⟨_, _, _, q⟩
    · omega
    · refine ⟨?_, by rw [e, List.length_cons, e2]; omega⟩
      unfold spell at hw
      rw [if_pos rfl] at hw
      split at hw
      · rename_i h; exact h.2
      · cases hw
    all_goals omega
  · simp only at hk ⊢
    rcases lex_inv h with ⟨q, _⟩ | ⟨q, _⟩ | ⟨q, _⟩ | ⟨q, _⟩ | ⟨q, _, _, j, hq, e⟩ | ⟨_, _, _, d, x, _, q⟩ | ⟨_, _, _, q⟩
    · omega
    · omega
    · omega
    · omega
    · have := quot_mlen r 0 t j hq
      omega
    all_goals omega
  · simp only at hk ⊢
    rcases lex_inv h with ⟨q, _⟩ | ⟨q, _⟩ | ⟨q, _⟩ | ⟨q, _, _, _, _, hn, e⟩ | ⟨q, _⟩ | ⟨_, _, _, d, x, _, q⟩ | ⟨_, _, _, q⟩
    · omega
    · omega
    · omega
    · rw [(num_inv hn).1, List.length_cons, e]; omega
    all_goals omega
theorem Src.more {a a' b b' : Int} {t : Tok} (h : Src a b t) (ha : a' ≤ a) (hb : b ≤ b') : Src a' b' t := ⟨Int.le_trans ha h.lo, Int.le_trans h.hi hb, h.one, h.w1, h.w3, h.w4⟩
theorem cut_src : ∀ (n : Nat) (l : List Int) (a : Int), l.length ≤ n → bytes l → (cut 0 a l).e = 0 → (∀ t ∈ (cut 0 a l).l, Src a (a + (l.length : Int)) t) ∧ srcs (cut 0 a l).l ≤ (l.length : Int) := by
  intro n
  induction n with
  | zero =>
    intro l a hl _ _
    obtain rfl : l = [] := List.length_eq_zero_iff.mp (by omega)
    exact ⟨fun t ht => (by cases ht), by simp [cut, srcs]⟩
  | succ n ih =>
    intro l a hl hb he
    cases l with
    | nil => exact ⟨fun t ht => (by cases ht), by simp [cut, srcs]⟩
    | cons c r =>
      simp only [List.length_cons] at hl ⊢
      have hr : bytes r := fun x hx => hb x (by simp [hx])
      by_cases cb : bl c = true
      · rw [cut_bl a cb] at he ⊢
        obtain ⟨h1, h2⟩ := ih r (a + 1) (by omega) hr he
        exact ⟨fun t ht => (h1 t ht).more (by omega) (by push_cast; omega), by push_cast; omega⟩
      · by_cases c37 : c = 37
        · subst c37
          rw [cut_rem a] at he ⊢
          have hle := rem_le r
          obtain ⟨h1, h2⟩ := ih (r.drop (rem r)) (a + 1 + rem r) (by simp; omega) (bytes_drop hr _) he
          simp only [List.length_drop] at h1 h2
          exact ⟨fun t ht => (h1 t ht).more (by omega) (by push_cast; omega), by push_cast; omega⟩
        · have cb' : bl c = false := Bool.not_eq_true _ ▸ cb
          cases hx : lex c r with
          | bad e off =>
            rw [cut_bad a cb' c37 hx] at he
            have := (lex_off hx).2
            simp only at he
            omega
          | tok k t v len =>
            have hll := lex_len hx
            rw [cut_tok a cb' c37 hx] at he ⊢
            rw [cons_e] at he
            obtain ⟨h1, h2⟩ := ih ((c :: r).drop len) (a + len) (by simp; omega) (bytes_drop hb _) he
            have hs := lex_src hx hb a
            simp only [List.length_drop, List.length_cons] at h1 h2
            unfold Res.cons
            rw [if_pos he]
            refine ⟨fun t' ht => ?_, ?_⟩
            · rcases List.mem_cons.mp ht with rfl | ht
              · exact hs.more (Int.le_refl _) (by push_cast; omega)
              · exact (h1 t' ht).more (by omega) (by push_cast; omega)
            · simp only [srcs]; push_cast; omega
/-- a part's field -/
def fld (p : P) (d : D) : List Int × Int :=
  match p with
  | .w => (d.who, 0)
  | .o => (d.to, 0)
  | .t => (d.text, 0)
  | .b => (d.bytes, 0)
  | .n => ([], d.n)
  | .m => ([], d.m)
  | .k => ([], d.k)
def tfld (p : P) (t : Tok) : List Int × Int :=
  match p with
  | .w => (t.t, 0)
  | .o => (t.t, 0)
  | .t => (t.t, 0)
  | .b => (t.t, 0)
  | .n => ([], t.n)
  | .m => ([], t.n)
  | .k => ([], t.n)
theorem put_same (d : D) (p : P) (t : Tok) : fld p (put d p t) = tfld p t := by cases p <;> rfl
theorem put_other (d : D) (p q : P) (t : Tok) (h : q ≠ p) : fld q (put d p t) = fld q d := by cases p <;> cases q <;> first | rfl | exact absurd rfl h
theorem put_kind (d : D) (p : P) (t : Tok) : (put d p t).kind = d.kind := by cases p <;> rfl
def puts : D → List P → List Tok → D
  | d, p :: ps, t :: ts => puts (put d p t) ps ts
  | d, _, _ => d
theorem puts_other (q : P) : ∀ (ps : List P) (ts : List Tok) (d : D), q ∉ ps → fld q (puts d ps ts) = fld q d
  | [], _, _, _ => by simp [puts]
  | p :: ps, [], _, _ => by simp [puts]
  | p :: ps, t :: ts, d, h => by
    rw [puts, puts_other q ps ts _ fun hm => h (by simp [hm])]
    exact put_other d p q t fun e => h (by simp [e])
theorem puts_kind : ∀ (ps : List P) (ts : List Tok) (d : D), (puts d ps ts).kind = d.kind
  | [], _, _ => by simp [puts]
  | p :: ps, [], _ => by simp [puts]
  | p :: ps, t :: ts, d => by rw [puts, puts_kind ps ts, put_kind]
/-- the parts and the tokens go together -/
def goes (d : D) : List P → List Tok → Prop
  | [], [] => True
  | p :: ps, t :: ts => (fits p t.k = true ∧ fld p d = tfld p t) ∧ goes d ps ts
  | _, _ => False
theorem takes_inv (len : Int) : ∀ (ps : List P) (ts : List Tok) (d0 d : D) (q : Int), takes len d0 ps ts = ⟨d, 0, q⟩ → ps.Nodup → q = 0 ∧ d = puts d0 ps ts ∧ goes d ps ts
  | [], [], d0, d, q, h, _ => by
    simp only [takes, R.mk.injEq] at h
    exact ⟨h.2.2.symm, by rw [← h.1]; rfl, trivial⟩
  | [], t :: ts, _, _, _, h, _ => by simp [takes] at h
  | p :: ps, [], _, _, _, h, _ => by simp [takes] at h
  | p :: ps, t :: ts, d0, d, q, h, hn => by
    simp only [takes] at h
    split at h
    · rename_i hf
      obtain ⟨h1, h2⟩ := List.nodup_cons.mp hn
      obtain ⟨k1, k2, k3⟩ := takes_inv len ps ts _ d q h h2
      refine ⟨k1, by rw [k2]; rfl, ⟨hf, ?_⟩, k3⟩
      rw [k2, puts_other p ps ts _ h1, put_same]
    · simp at h
theorem rows_nodup : ∀ r ∈ rows, r.parts.Nodup := by decide
theorem has_iff (p : P) (ps : List P) : has p ps = true ↔ p ∈ ps := by
  unfold has
  rw [List.any_eq_true]
  constructor
  · rintro ⟨q, h, e⟩; rw [← of_decide_eq_true e]; exact h
  · intro h; exact ⟨p, h, decide_eq_true rfl⟩
theorem puts_clean (k : Int) (ps : List P) (ts : List Tok) : clean ps (puts { zero with kind := k } ps ts) = true := by
  have key : ∀ q, has q ps = true ∨ fld q (puts { zero with kind := k } ps ts) = ([], 0) := fun q => by
    by_cases h : q ∈ ps
    · exact .inl ((has_iff q ps).mpr h)
    · refine .inr ?_
      rw [puts_other q ps ts _ h]
      cases q <;> rfl
  simp only [clean, Bool.and_eq_true, Bool.or_eq_true, decide_eq_true_eq]
  exact ⟨⟨⟨⟨⟨⟨(key .w).imp_right fun h => (Prod.mk.inj h).1, (key .o).imp_right fun h => (Prod.mk.inj h).1⟩, (key .t).imp_right fun h => (Prod.mk.inj h).1⟩, (key .b).imp_right fun h => (Prod.mk.inj h).1⟩,
    (key .n).imp_right fun h => (Prod.mk.inj h).2⟩, (key .m).imp_right fun h => (Prod.mk.inj h).2⟩, (key .k).imp_right fun h => (Prod.mk.inj h).2⟩
/-- every field is fine -/
theorem fine_iff (d : D) : Fine d ↔ ∀ p, bytes (fld p d).1 ∧ (-9223372036854775808 ≤ (fld p d).2 ∧ (fld p d).2 ≤ 9223372036854775807) := by
  constructor
  · intro h p
    cases p
    · exact ⟨h.who, by simp [fld]⟩
    · exact ⟨h.to, by simp [fld]⟩
    · exact ⟨h.text, by simp [fld]⟩
    · exact ⟨h.bytes, by simp [fld]⟩
    · exact ⟨fun c hc => by simp [fld] at hc, h.n⟩
    · exact ⟨fun c hc => by simp [fld] at hc, h.m⟩
    · exact ⟨fun c hc => by simp [fld] at hc, h.k⟩
  · intro h
    exact ⟨(h .w).1, (h .o).1, (h .t).1, (h .b).1, (h .n).2, (h .m).2, (h .k).2⟩
theorem fine_put {d : D} (h : Fine d) (p : P) {t : Tok} (ht : fine t) : Fine (put d p t) := by
  rw [fine_iff] at h ⊢
  intro q
  by_cases e : q = p
  · subst e
    rw [put_same]
    cases q <;> first | exact ⟨ht.2, by simp [tfld]⟩ | exact ⟨fun c hc => by simp [tfld] at hc, ht.1⟩
  · rw [put_other d p q t e]; exact h q
theorem fine_puts : ∀ (ps : List P) (ts : List Tok) (d : D), Fine d → (∀ t ∈ ts, fine t) → Fine (puts d ps ts)
  | [], _, _, h, _ => by simpa [puts] using h
  | p :: ps, [], _, h, _ => by simpa [puts] using h
  | p :: ps, t :: ts, d, h, ht => by
    rw [puts]
    exact fine_puts ps ts _ (fine_put h p (ht t (by simp))) fun x hx => ht x (by simp [hx])
theorem fine_zero (k : Int) : Fine { zero with kind := k } := ⟨fun c hc => by simp [zero] at hc, fun c hc => by simp [zero] at hc, fun c hc => by simp [zero] at hc, fun c hc => by simp [zero] at hc, by simp [zero], by simp [zero], by simp [zero]⟩
theorem quote_le (s : List Int) : (quote s).length ≤ 4 * s.length + 2 := by have := quote_len s; have := qbody_le s; omega
theorem shown_le {a b : Int} {d : D} {p : P} {t : Tok} (hs : Src a b t) (hf : fits p t.k = true) (he : fld p d = tfld p t) : ((shown d p).length : Int) + 1 ≤ 4 * (t.e - t.at_) := by
  have h1 := hs.one
  have nm : ∀ s : List Int, s = t.t → (t.k = 1 ∨ t.k = 3) → ((name s).length : Int) + 1 ≤ 4 * (t.e - t.at_) := by
    intro s e hk
    subst e
    have hq := quote_le t.t
    unfold name
    rcases hk with hk | hk
    · obtain ⟨w1, w2⟩ := hs.w1 hk
      rw [if_pos w1]; omega
    · have := hs.w3 hk
      split <;> omega
  have qt : ∀ s : List Int, s = t.t → t.k = 3 → ((quote s).length : Int) + 1 ≤ 4 * (t.e - t.at_) := by
    intro s e hk
    subst e
    have hq := quote_le t.t
    have := hs.w3 hk
    omega
  have dc : ∀ n : Int, n = t.n → t.k = 4 → ((dec n).length : Int) + 1 ≤ 4 * (t.e - t.at_) := by
    intro n e hk
    subst e
    have := hs.w4 hk
    omega
  cases p <;> simp only [fits, Bool.or_eq_true, decide_eq_true_eq] at hf <;> simp only [fld, tfld, Prod.mk.injEq, and_true, true_and] at he <;> simp only [shown]
  · exact nm _ he hf
  · exact nm _ he hf
  · exact qt _ he hf
  · exact qt _ he hf
  · exact dc _ he hf
  · exact dc _ he hf
  · exact dc _ he hf
theorem tail_le {a b : Int} {d : D} : ∀ (ps : List P) (ts : List Tok), goes d ps ts → (∀ t ∈ ts, Src a b t) → ((tailL d ps).length : Int) ≤ 4 * srcs ts
  | [], [], _, _ => by simp [tailL, srcs]
  | [], t :: ts, h, _ => h.elim
  | p :: ps, [], h, _ => h.elim
  | p :: ps, t :: ts, h, hs => by
    have h1 := shown_le (hs t (by simp)) h.1.1 h.1.2
    have h2 := tail_le ps ts h.2 fun x hx => hs x (by simp [hx])
    simp only [tailL, srcs, List.length_cons, List.length_append]
    push_cast
    omega
theorem read_ok {s : List Int} {d : D} {q : Int} (hb : bytes s) (h : read s = ⟨d, 0, q⟩) : q = 0 ∧ s.length ≤ 65536 ∧ ∃ r, r ∈ rows ∧ d.kind = r.kind ∧ clean r.parts d = true ∧ Fine d ∧ (line r d).length ≤ 4 * s.length := by
  unfold read at h
  split at h
  · simp at h
  rename_i hlen
  split at h
  · rename_i he
    obtain ⟨hs1, hs2⟩ := cut_src _ s 0 (Nat.le_refl _) hb he
    have gd := cut_good _ s 0 (Nat.le_refl _) hb
    cases hl : (cut 0 0 s).l with
    | nil => rw [hl] at h; simp [readL] at h
    | cons t ts =>
      rw [hl] at h hs1 hs2
      have gf := gd.fin
      rw [hl] at gf
      simp only [readL] at h
      split at h
      · rename_i hk
        split at h
        · rename_i r hr
          obtain ⟨hm, hn⟩ := byName_mem hr
          obtain ⟨k1, k2, k3⟩ := takes_inv _ _ _ _ _ _ h (rows_nodup r hm)
          refine ⟨k1, by omega, r, hm, ?_, ?_, ?_, ?_⟩
          · rw [k2, puts_kind]
          · rw [k2]; exact puts_clean _ _ _
          · rw [k2]; exact fine_puts _ _ _ (fine_zero _) fun x hx => gf x (by simp [hx])
          · have h1 := (hs1 t (by simp)).w1 hk
            have h2 := tail_le r.parts ts k3 fun x hx => hs1 x (by simp [hx])
            unfold line
            rw [List.length_append, hn]
            simp only [srcs] at hs2
            have := h1.2
            have h3 := (hs1 t (by simp)).one
            omega
        · simp at h
      · simp at h
  · rename_i he
    simp only [R.mk.injEq] at h
    exact absurd h.2.1 he
theorem takes_bad (len : Int) : ∀ (ps : List P) (ts : List Tok) (d0 : D) (b : Int), (∀ t ∈ ts, Src 0 b t) → 0 ≤ len → len ≤ b → (takes len d0 ps ts).e ≠ 0 → (takes len d0 ps ts).d = zero ∧ 0 ≤ (takes len d0 ps ts).p ∧ (takes len d0 ps ts).p ≤ b
  | [], [], _, _, _, _, _, h => absurd rfl h
  | [], t :: ts, _, b, hs, _, _, _ => by
    have h := hs t (by simp)
    have h1 := h.one
    have h2 := h.hi
    exact ⟨rfl, h.lo, by simp only [takes]; omega⟩
  | p :: ps, [], _, b, _, h0, h1, _ => ⟨rfl, h0, h1⟩
  | p :: ps, t :: ts, d0, b, hs, h0, h1, h => by
    simp only [takes] at h ⊢
    split at h
    · rename_i hf
      rw [if_pos hf]
      exact takes_bad len ps ts _ b (fun x hx => hs x (by simp [hx])) h0 h1 h
    · rename_i hf
      rw [if_neg hf]
      have k := hs t (by simp)
      have k1 := k.one
      have k2 := k.hi
      exact ⟨rfl, k.lo, by simp only; omega⟩
theorem read_bad {s : List Int} (hb : bytes s) (h : (read s).e ≠ 0) : (read s).d = zero ∧ 0 ≤ (read s).p ∧ (read s).p ≤ s.length := by
  unfold read at h ⊢
  split at h
  · rename_i hl
    rw [if_pos hl]
    exact ⟨rfl, Int.le_refl _, by simp only; omega⟩
  rename_i hl
  rw [if_neg hl]
  split at h
  · rename_i he
    rw [if_pos he]
    obtain ⟨hs1, _⟩ := cut_src _ s 0 (Nat.le_refl _) hb he
    rw [Int.zero_add] at hs1
    cases hx : (cut 0 0 s).l with
    | nil => exact ⟨rfl, by simp only [readL]; omega, by simp only [readL]; omega⟩
    | cons t ts =>
      rw [hx] at hs1 h
      have k := hs1 t (by simp)
      have k1 := k.one
      have k2 := k.hi
      have k3 := k.lo
      simp only [readL] at h ⊢
      by_cases hk : t.k = 1
      · rw [if_pos hk] at h ⊢
        cases hn : byName t.t rows with
        | none => exact ⟨rfl, k3, by simp only; omega⟩
        | some r =>
          rw [hn] at h
          simp only at h ⊢
          exact takes_bad _ _ _ _ _ (fun x hx => hs1 x (by simp [hx])) (by omega) (Int.le_refl _) h
      · rw [if_neg hk]
        exact ⟨rfl, k3, by simp only; omega⟩
  · rename_i he
    rw [if_neg he]
    obtain ⟨q, h1, h2, _⟩ := cut_front _ s 0 (Nat.le_refl _) he
    exact ⟨rfl, by show 0 ≤ (cut 0 0 s).p; omega, by show (cut 0 0 s).p ≤ _; omega⟩
/-- P25.3, the law ScriptAgain -/
theorem again {s : List Int} (hb : bytes s) (h : (read s).e = 0) : (read s).p = 0 ∧ (1 ≤ (read s).d.kind ∧ (read s).d.kind ≤ 24) ∧ Fine (read s).d ∧ (match print (read s).d with | none => 16376 < s.length | some t => read t = ⟨(read s).d, 0, 0⟩) := by
  obtain ⟨h1, h2, r, hr, hk, hc, hf, hl⟩ := read_ok (d := (read s).d) (q := (read s).p) hb (by rw [← h])
  have hrg := kinds_rng r hr
  refine ⟨h1, by omega, hf, ?_⟩
  cases hp : print (read s).d with
  | none =>
    simp only
    unfold print at hp
    rw [hk, kind_own hr] at hp
    simp only at hp
    split at hp
    · cases hp
    · rename_i hn
      have : ¬ (line r (read s).d).length ≤ 65536 := fun h => hn ⟨hc, h⟩
      omega
  | some t => exact read_print hf hp
end Go.Proofs.YtgeheffhdpeddaaDoor.Scr

/- PLAIN: a step that is made to fit; its line with more behind it, with a part left out, with a part too many. Conditions: texts of bytes. -/
namespace Go.Proofs.YtgeheffhdpeddaaDoor.Scr
open Go.Proofs.YtgeheffhdpeddaaDoor.Tk
/-- does a text say nothing? -/
def blank (s : List Int) : Bool := decide ((cut 0 0 s).e = 0) && (cut 0 0 s).l.isEmpty
def cut4 (s : List Int) : List Int := s.take 4000
def partsOf (k : Int) : List P := ((byKind k rows).map (·.parts)).getD []
def kindOf (k : Int) : Int := (if k.tmod 24 < 0 then k.tmod 24 + 24 else k.tmod 24) + 1
/-- a step that has a line, out of any -/
def made (d : D) : D :=
  let ps := partsOf (kindOf d.kind)
  ⟨kindOf d.kind, if has .w ps then cut4 d.who else [], if has .o ps then cut4 d.to else [], if has .t ps then cut4 d.text else [], if has .b ps then cut4 d.bytes else [], if has .n ps then d.n else 0, if has .m ps then d.m else 0, if has .k ps then d.k else 0⟩
theorem kindOf_rng (k : Int) : 1 ≤ kindOf k ∧ kindOf k ≤ 24 := by
  unfold kindOf
  have h1 := Int.tmod_lt_of_pos k (show (0 : Int) < 24 by decide)
  have h2 : -24 < k.tmod 24 := by have := Int.lt_tmod_of_pos k (show (0 : Int) < 24 by decide); omega
  split <;> omega
theorem kinds_all : ∀ n : Fin 24, (byKind ((n.val : Int) + 1) rows).isSome = true := by decide
theorem made_row (d : D) : ∃ r, r ∈ rows ∧ (made d).kind = r.kind ∧ r.parts = partsOf (kindOf d.kind) := by
  have hk := kindOf_rng d.kind
  have := kinds_all ⟨(kindOf d.kind - 1).toNat, by omega⟩
  rw [show (((kindOf d.kind - 1).toNat : Nat) : Int) + 1 = kindOf d.kind by omega] at this
  obtain ⟨r, hr⟩ := Option.isSome_iff_exists.mp this
  obtain ⟨h1, h2⟩ := byKind_mem hr
  exact ⟨r, h1, h2.symm, by unfold partsOf; rw [hr]; rfl⟩
theorem made_clean (d : D) : clean (partsOf (kindOf d.kind)) (made d) = true := by
  generalize hp : partsOf (kindOf d.kind) = ps
  unfold made
  rw [hp]
  simp only [clean, Bool.and_eq_true, Bool.or_eq_true, decide_eq_true_eq]
  have key : ∀ (b : Bool) (x : List Int), b = true ∨ (if b = true then x else []) = [] := fun b x => by cases b <;> simp
  have key2 : ∀ (b : Bool) (x : Int), b = true ∨ (if b = true then x else 0) = 0 := fun b x => by cases b <;> simp
  exact ⟨⟨⟨⟨⟨⟨key _ _, key _ _⟩, key _ _⟩, key _ _⟩, key2 _ _⟩, key2 _ _⟩, key2 _ _⟩
theorem cut4_bytes {s : List Int} (h : bytes s) : bytes (cut4 s) := fun c hc => h c (List.mem_of_mem_take hc)
theorem if_bytes {b : Bool} {s : List Int} (h : bytes s) : bytes (if b = true then cut4 s else []) := by
  split
  · exact cut4_bytes h
  · intro c hc; cases hc
theorem if_rng {b : Bool} {n : Int} (h : -9223372036854775808 ≤ n ∧ n ≤ 9223372036854775807) : -9223372036854775808 ≤ (if b = true then n else 0) ∧ (if b = true then n else 0) ≤ 9223372036854775807 := by
  split
  · exact h
  · exact z64
theorem made_fine {d : D} (h : Fine d) : Fine (made d) := ⟨if_bytes h.who, if_bytes h.to, if_bytes h.text, if_bytes h.bytes, if_rng h.n, if_rng h.m, if_rng h.k⟩
theorem made_len (d : D) (p : P) : (fld p (made d)).1.length ≤ 4000 := by
  have key : ∀ (b : Bool) (x : List Int), (if b = true then cut4 x else []).length ≤ 4000 := fun b x => by
    split
    · unfold cut4; rw [List.length_take]; omega
    · simp
  cases p
  · exact key _ _
  · exact key _ _
  · exact key _ _
  · exact key _ _
  · simp [fld]
  · simp [fld]
  · simp [fld]
theorem shown_max {d : D} (h : Fine d) (hl : ∀ p, (fld p d).1.length ≤ 4000) (p : P) : (shown d p).length ≤ 16002 := by
  have nm : ∀ s : List Int, s.length ≤ 4000 → (name s).length ≤ 16002 := fun s hs => by
    have := quote_le s
    unfold name; split <;> omega
  have qt : ∀ s : List Int, s.length ≤ 4000 → (quote s).length ≤ 16002 := fun s hs => by have := quote_le s; omega
  have dc : ∀ n : Int, -9223372036854775808 ≤ n ∧ n ≤ 9223372036854775807 → (dec n).length ≤ 16002 := fun n hn => by
    obtain ⟨c, r, e, _, _, _, _, hr⟩ := dec_form hn.1 hn.2
    rw [e, List.length_cons]; omega
  cases p
  · exact nm _ (hl .w)
  · exact nm _ (hl .o)
  · exact qt _ (hl .t)
  · exact qt _ (hl .b)
  · exact dc _ h.n
  · exact dc _ h.m
  · exact dc _ h.k
theorem tail_max {d : D} (h : Fine d) (hl : ∀ p, (fld p d).1.length ≤ 4000) : ∀ ps : List P, (tailL d ps).length ≤ 16003 * ps.length
  | [] => by simp [tailL]
  | p :: ps => by
    have h1 := shown_max h hl p
    have h2 := tail_max h hl ps
    simp only [tailL, List.length_cons, List.length_append]
    omega
theorem rows_small : ∀ r ∈ rows, r.parts.length ≤ 3 ∧ r.name.length ≤ 9 := by decide
theorem made_line {d : D} (h : Fine d) {r : Row} (hr : r ∈ rows) : (line r (made d)).length ≤ 48018 := by
  have h1 := tail_max (made_fine h) (made_len d) r.parts
  obtain ⟨h2, h3⟩ := rows_small r hr
  unfold line
  rw [List.length_append]
  omega
theorem made_print {d : D} (h : Fine d) : ∃ r, r ∈ rows ∧ (made d).kind = r.kind ∧ clean r.parts (made d) = true ∧ print (made d) = some (line r (made d)) := by
  obtain ⟨r, hr, hk, hp⟩ := made_row d
  have hc : clean r.parts (made d) = true := by rw [hp]; exact made_clean d
  have hl := made_line h hr
  refine ⟨r, hr, hk, hc, ?_⟩
  unfold print
  rw [hk, kind_own hr]
  simp only
  rw [if_pos ⟨hc, by omega⟩]
/-- no line feed stands in it -/
def noLF (s : List Int) : Prop := ∀ c ∈ s, c ≠ 10
theorem rem_noLF : ∀ {s : List Int}, noLF s → rem s = s.length
  | [], _ => rfl
  | c :: s, h => by
    have := rem_noLF (s := s) fun x hx => h x (by simp [hx])
    simp only [rem, List.length_cons]
    rw [if_neg (h c (by simp)), this]
theorem cut_remark {s : List Int} (h : noLF s) (a : Int) : cut 0 a (32 :: 37 :: 32 :: s) = ⟨[], 0, 0⟩ := by
  have h2 : noLF (32 :: s) := fun c hc => by
    rcases List.mem_cons.mp hc with rfl | hc
    · decide
    · exact h c hc
  rw [cut_bl a (by decide), cut_rem, rem_noLF h2, List.drop_length, cut_nil]
theorem cut_pre (a : Int) (x : List Int) : cut 0 a ([32, 9] ++ x) = cut 0 (a + (([32, 9] : List Int).length : Int)) x := by
  show cut 0 a (32 :: 9 :: x) = cut 0 (a + 2) x
  rw [cut_bl a (by decide), cut_bl (a + 1) (by decide), show a + 1 + 1 = a + 2 by omega]
theorem blank_line {d : D} (h : Fine d) {r : Row} (hr : r ∈ rows) : blank (line r d) = false := by
  have := cut_line h hr [] (.inl rfl) 0
  rw [List.append_nil, cut_nil, ahead_ok] at this
  unfold blank
  rw [this]; rfl
/-- P25.3, the law ScriptBack -/
theorem back {d : D} (h : Fine d) : ∃ s, print (made d) = some s ∧ s ≠ [] ∧ s.length ≤ 48018 ∧ bytes s ∧ blank s = false ∧ read s = ⟨made d, 0, 0⟩ ∧ ∀ rm : List Int, noLF rm → rm.length ≤ 4000 → read ([32, 9] ++ (s ++ (32 :: 37 :: 32 :: rm))) = ⟨made d, 0, 0⟩ := by
  obtain ⟨r, hr, hk, hc, hp⟩ := made_print h
  have hf := made_fine h
  have hl := made_line h hr
  have hne : line r (made d) ≠ [] := by
    have := names_word r hr
    unfold line
    cases hn : r.name with
    | nil => rw [hn] at this; cases this
    | cons c x => simp
  have hb : bytes (line r (made d)) := by
    have key : ∀ ps : List P, bytes (tailL (made d) ps) := by
      intro ps
      induction ps with
      | nil => intro c hc; cases hc
      | cons p ps ih =>
        intro c hc
        simp only [tailL, List.mem_cons, List.mem_append] at hc
        have nmb : ∀ s, bytes s → bytes (name s) := fun s hs => by
          unfold name
          split
          · exact hs
          · exact fun c hc => by have := quote_plain s hs c hc; omega
        have qb : ∀ s, bytes s → bytes (quote s) := fun s hs c hc => by have := quote_plain s hs c hc; omega
        have db : ∀ n, -9223372036854775808 ≤ n ∧ n ≤ 9223372036854775807 → bytes (dec n) := fun n hn => by
          obtain ⟨x, y, e, e2, e3, _⟩ := dec_form hn.1 hn.2
          rw [e]
          intro c hc
          have hy : word (97 :: y) = true ∨ True := .inr trivial
          rcases List.mem_cons.mp hc with rfl | hc
          · rcases e3 with e3 | e3
            · rw [dg_iff] at e3; omega
            · omega
          · have key : ∀ l : List Int, run l = l → bytes l := by
              intro l
              induction l with
              | nil => intro _ c hc; cases hc
              | cons c r ih =>
                intro h x hx
                simp only [run] at h
                split at h
                · rename_i hr
                  injection h with _ h
                  rcases List.mem_cons.mp hx with rfl | hx
                  · simp only [rn, sm, gr, dg, Bool.or_eq_true, Bool.and_eq_true, decide_eq_true_eq] at hr; omega
                  · exact ih h x hx
                · cases h
            exact key y e2 c hc
        rcases hc with rfl | hc | hc
        · omega
        · revert hc
          cases p
          · exact nmb _ hf.who c
          · exact nmb _ hf.to c
          · exact qb _ hf.text c
          · exact qb _ hf.bytes c
          · exact db _ hf.n c
          · exact db _ hf.m c
          · exact db _ hf.k c
        · exact ih c hc
    intro c hc
    unfold line at hc
    rcases List.mem_append.mp hc with hc | hc
    · exact word_bytes (names_word r hr) c hc
    · exact key _ c hc
  refine ⟨_, hp, hne, hl, hb, blank_line hf hr, read_print hf hp, fun rm hrm hrl => ?_⟩
  have := read_line hf hr hk hc [32, 9] (32 :: 37 :: 32 :: rm) cut_pre (.inr ⟨_, rfl⟩) (by simp only [List.length_cons, List.length_nil]; omega) [] (cut_remark hrm _)
  exact this
end Go.Proofs.YtgeheffhdpeddaaDoor.Scr

/- PLAIN: a step's line with a part left out, a part too many, another first word. Conditions: texts of bytes. -/
namespace Go.Proofs.YtgeheffhdpeddaaDoor.Scr
open Go.Proofs.YtgeheffhdpeddaaDoor.Tk
theorem tailL_app (d : D) : ∀ (a b : List P), tailL d (a ++ b) = tailL d a ++ tailL d b
  | [], b => rfl
  | p :: a, b => by simp only [List.cons_append, tailL, tailL_app d a b, List.append_assoc]
theorem toksP_app (d : D) : ∀ (x y : List P) (a : Int), toksP d (x ++ y) a = toksP d x a ++ toksP d y (a + ((tailL d x).length : Int))
  | [], y, a => by simp [toksP, tailL]
  | p :: x, y, a => by
    have ih := toksP_app d x y (a + 1 + ((shown d p).length : Int))
    simp only [List.cons_append, toksP, ih, tailL, List.length_cons, List.length_append]
    congr 3
    push_cast
    omega
theorem toksP_len (d : D) : ∀ (x : List P) (a : Int), (toksP d x a).length = x.length
  | [], _ => rfl
  | p :: x, a => by simp only [toksP, List.length_cons, toksP_len d x]
theorem takes_front (d : D) (len : Int) (qs : List P) (ts : List Tok) : ∀ (ps : List P) (d0 : D) (a : Int), takes len d0 (ps ++ qs) (toksP d ps a ++ ts) = takes len (laid d d0 ps) qs ts
  | [], _, _ => rfl
  | p :: ps, d0, a => by
    simp only [toksP, List.cons_append, takes, fits_part, if_true, put_places]
    exact takes_front d len qs ts ps _ _
theorem names_halt : ∀ r ∈ rows, run r.name = r.name ∧ r.name ≠ [] := by decide
theorem halts_tail (d : D) (ps : List P) : halts (tailL d ps) = true := by cases ps <;> rfl
/-- another first word -/
theorem read_X {d : D} (h : Fine d) {r : Row} (hr : r ∈ rows) (hl : (line r d).length < 65536) : read (88 :: line r d) = ⟨zero, 252, 0⟩ := by
  obtain ⟨hn, _⟩ := names_halt r hr
  have hrun : run (line r d) = r.name := run_append_stop _ _ hn (halts_tail d r.parts)
  have hx : lex 88 (line r d) = .tok 2 (88 :: r.name) 0 (r.name.length + 1) := by
    unfold lex
    rw [if_neg (by decide), if_pos (by decide), hrun]
  have hd : (88 :: line r d).drop (r.name.length + 1) = tailL d r.parts := by
    rw [List.drop_succ_cons]; unfold line; rw [List.drop_left]
  have hc : cut 0 0 (88 :: line r d) = ⟨⟨2, 88 :: r.name, 0, 0, 0 + ((r.name.length + 1 : Nat) : Int)⟩ :: toksP d r.parts (0 + ((r.name.length + 1 : Nat) : Int)), 0, 0⟩ := by
    have ht := cut_tail h [] (.inl rfl) r.parts (0 + ((r.name.length + 1 : Nat) : Int))
    rw [List.append_nil, cut_nil, ahead_ok, List.append_nil] at ht
    rw [cut_tok 0 (by decide) (by decide) hx, hd, ht]
    rfl
  unfold read
  rw [if_neg (by simp only [List.length_cons]; omega), hc]
  rfl
/-- a word behind it -/
theorem read_more {d : D} (h : Fine d) {r : Row} (hr : r ∈ rows) (hk : d.kind = r.kind) (hc : clean r.parts d = true) (hl : (line r d).length + 2 ≤ 65536) : read (line r d ++ [32, 120]) = ⟨zero, 253, ((line r d).length : Int) + 1⟩ := by
  have := read_line h hr hk hc [] [32, 120] (fun a x => by simp) (.inr ⟨_, rfl⟩) (by simpa using hl) [⟨1, [120], 0, ((line r d).length : Int) + 1, ((line r d).length : Int) + 1 + 1⟩] (by
    rw [cut_bl _ (by decide)]
    simp only [List.length_nil]
    rw [show ((0 : Nat) : Int) + ((line r d).length : Int) + 1 = ((line r d).length : Int) + 1 by omega]
    exact cut_own (c := 120) (v := []) (k := 1) (t := [120]) (x := 0) (by decide) _)
  rw [List.nil_append] at this
  exact this
/-- the tokens of a line -/
theorem line_toks {d : D} (h : Fine d) {r : Row} (hr : r ∈ rows) : cut 0 0 (line r d) = ⟨⟨1, r.name, 0, 0, (r.name.length : Int)⟩ :: toksP d r.parts (r.name.length : Int), 0, 0⟩ := by
  have := cut_line h hr [] (.inl rfl) 0
  rw [List.append_nil, cut_nil, ahead_ok, List.append_nil, Int.zero_add] at this
  exact this
/-- a line up to one of its parts -/
def front (r : Row) (d : D) (ps : List P) : List Int := r.name ++ (tailL d ps ++ [32])
theorem front_take (r : Row) (d : D) {ps qs : List P} {p : P} (h : r.parts = ps ++ p :: qs) : (line r d).take (front r d ps).length = front r d ps ∧ (line r d).drop (front r d ps).length = shown d p ++ tailL d qs := by
  have : line r d = front r d ps ++ (shown d p ++ tailL d qs) := by
    unfold line front
    rw [h, tailL_app]
    simp [tailL]
  rw [this]
  exact ⟨List.take_left, List.drop_left⟩
theorem tok_at (r : Row) (d : D) {ps qs : List P} {p : P} (h : r.parts = ps ++ p :: qs) (t0 : Tok) : ∃ e, (t0 :: toksP d r.parts (r.name.length : Int))[ps.length + 1]? = some (tokP d p ((front r d ps).length : Int) e) := by
  rw [h, toksP_app, List.getElem?_cons_succ, List.getElem?_append_right (by rw [toksP_len]; exact Nat.le_refl _), toksP_len, Nat.sub_self]
  simp only [toksP, List.getElem?_cons_zero]
  have : (r.name.length : Int) + ((tailL d ps).length : Int) + 1 = ((front r d ps).length : Int) := by
    unfold front; simp only [List.length_append, List.length_cons, List.length_nil]; push_cast; omega
  rw [this]
  exact ⟨_, rfl⟩
theorem front_cut {d : D} (h : Fine d) {r : Row} (hr : r ∈ rows) (ps : List P) (b : List Int) : cut 0 0 (front r d ps ++ b) = ahead (⟨1, r.name, 0, 0, (r.name.length : Int)⟩ :: toksP d ps (r.name.length : Int)) (cut 0 ((front r d ps).length : Int) b) := by
  have hw := names_word r hr
  have hs : spell 1 r.name 0 = some r.name := by simp [spell, hw]
  have e : front r d ps ++ b = r.name ++ (tailL d ps ++ (32 :: b)) := by unfold front; simp
  have hc := cut_spell hs (by decide) (word_bytes hw) (tailL d ps ++ (32 :: b)) (stop_after (tail_after d ps (.inr ⟨_, rfl⟩)) _) 0
  rw [e, hc, cut_tail h (32 :: b) (.inr ⟨_, rfl⟩), cut_bl _ (by decide)]
  simp only [ahead, List.foldr_cons, Int.zero_add]
  congr 3
  unfold front
  simp only [List.length_append, List.length_cons, List.length_nil]
  push_cast
  omega
theorem front_len {d : D} {r : Row} {ps qs : List P} {p : P} (h : r.parts = ps ++ p :: qs) : (front r d ps).length ≤ (line r d).length := by
  have := (front_take r d h).1
  have := congrArg List.length this
  rw [List.length_take] at this
  omega
/-- a part left out -/
theorem read_front {d : D} (h : Fine d) {r : Row} (hr : r ∈ rows) {ps qs : List P} {p : P} (hp : r.parts = ps ++ p :: qs) (hl : (line r d).length ≤ 65536) : read (front r d ps) = ⟨zero, 253, ((front r d ps).length : Int)⟩ := by
  have hfl := front_len (d := d) hp
  have hc := front_cut h hr ps []
  rw [List.append_nil, cut_nil, ahead_ok, List.append_nil] at hc
  unfold read
  rw [if_neg (by omega), hc]
  simp only [if_true, readL, name_own hr, hp]
  have := takes_front d ((front r d ps).length : Int) (p :: qs) [] ps { zero with kind := r.kind } (r.name.length : Int)
  rw [List.append_nil] at this
  rw [this]; rfl
/-- a part that another token stands for -/
theorem read_comma {d : D} (h : Fine d) {r : Row} (hr : r ∈ rows) {ps qs : List P} {p : P} (hp : r.parts = ps ++ p :: qs) (hl : (line r d).length + 2 ≤ 65536) : read (front r d ps ++ ([44, 32] ++ (shown d p ++ tailL d qs))) = ⟨zero, 253, ((front r d ps).length : Int)⟩ := by
  have hfl := front_len (d := d) hp
  have hlen : (front r d ps ++ ([44, 32] ++ (shown d p ++ tailL d qs))).length = (line r d).length + 2 := by
    have := congrArg List.length (front_take r d hp).2
    rw [List.length_drop] at this
    simp only [List.length_append, List.length_cons, List.length_nil] at this ⊢
    omega
  have fx := fine_part h p (((front r d ps).length : Int) + 1 + 1) (((front r d ps).length : Int) + 1 + 1 + ((shown d p).length : Int))
  have hs := cut_spell (spell_part d p (((front r d ps).length : Int) + 1 + 1) (((front r d ps).length : Int) + 1 + 1 + ((shown d p).length : Int))) fx.1 fx.2 (tailL d qs) (by
    have := stop_after (tail_after d qs (b := []) (.inl rfl)) (tokP d p (((front r d ps).length : Int) + 1 + 1) (((front r d ps).length : Int) + 1 + 1 + ((shown d p).length : Int))).k
    rwa [List.append_nil] at this) (((front r d ps).length : Int) + 1 + 1)
  have ht := cut_tail h [] (.inl rfl) qs (((front r d ps).length : Int) + 1 + 1 + ((shown d p).length : Int))
  rw [List.append_nil, cut_nil, ahead_ok, List.append_nil] at ht
  rw [ht] at hs
  have hx : lex 44 (32 :: (shown d p ++ tailL d qs)) = .tok 8 [] 0 1 := by
    unfold lex
    rw [if_neg (by decide), if_neg (by decide), if_neg (by decide), if_neg (by decide)]
    rfl
  have hcc : ∃ l, cut 0 ((front r d ps).length : Int) ([44, 32] ++ (shown d p ++ tailL d qs)) = ⟨⟨8, [], 0, ((front r d ps).length : Int), ((front r d ps).length : Int) + ((1 : Nat) : Int)⟩ :: l, 0, 0⟩ := by
    show ∃ l, cut 0 ((front r d ps).length : Int) (44 :: 32 :: (shown d p ++ tailL d qs)) = _
    rw [cut_tok _ (by decide) (by decide) hx]
    show ∃ l, (cut 0 _ (32 :: (shown d p ++ tailL d qs))).cons _ = _
    rw [cut_bl _ (by decide), show ((front r d ps).length : Int) + ((1 : Nat) : Int) + 1 = ((front r d ps).length : Int) + 1 + 1 by push_cast; omega, hs]
    exact ⟨_, rfl⟩
  obtain ⟨l, hcc⟩ := hcc
  have hc := front_cut h hr ps ([44, 32] ++ (shown d p ++ tailL d qs))
  rw [hcc, ahead_ok] at hc
  unfold read
  rw [if_neg (by omega), hc]
  simp only [if_true, List.cons_append, readL, name_own hr, hp]
  rw [takes_front]
  simp only [takes]
  have hf : fits p 8 = false := by cases p <;> rfl
  rw [hf]; rfl
end Go.Proofs.YtgeheffhdpeddaaDoor.Scr

/- PLAIN: lines are bytes; a field is no longer than the line. Conditions: none. -/
namespace Go.Proofs.YtgeheffhdpeddaaDoor.Scr
open Go.Proofs.YtgeheffhdpeddaaDoor.Tk
theorem line_bytes {d : D} (h : Fine d) {r : Row} (hr : r ∈ rows) : bytes (line r d) := by
  have key : ∀ ps : List P, bytes (tailL d ps) := by
    intro ps
    induction ps with
    | nil => intro c hc; cases hc
    | cons p ps ih =>
      intro c hc
      simp only [tailL, List.mem_cons, List.mem_append] at hc
      have nmb : ∀ s, bytes s → bytes (name s) := fun s hs => by
        unfold name
        split
        · exact hs
        · exact fun c hc => by have := quote_plain s hs c hc; omega
      have qb : ∀ s, bytes s → bytes (quote s) := fun s hs c hc => by have := quote_plain s hs c hc; omega
      have db : ∀ n, -9223372036854775808 ≤ n ∧ n ≤ 9223372036854775807 → bytes (dec n) := fun n hn => by
        obtain ⟨x, y, e, e2, e3, _⟩ := dec_form hn.1 hn.2
        rw [e]
        intro c hc
        have hy : word (97 :: y) = true ∨ True := .inr trivial
        rcases List.mem_cons.mp hc with rfl | hc
        · rcases e3 with e3 | e3
          · rw [dg_iff] at e3; omega
          · omega
        · have key : ∀ l : List Int, run l = l → bytes l := by
            intro l
            induction l with
            | nil => intro _ c hc; cases hc
            | cons c r ih =>
              intro h x hx
              simp only [run] at h
              split at h
              · rename_i hr
                injection h with _ h
                rcases List.mem_cons.mp hx with rfl | hx
                · simp only [rn, sm, gr, dg, Bool.or_eq_true, Bool.and_eq_true, decide_eq_true_eq] at hr; omega
                · exact ih h x hx
              · cases h
          exact key y e2 c hc
      rcases hc with rfl | hc | hc
      · omega
      · revert hc
        cases p
        · exact nmb _ h.who c
        · exact nmb _ h.to c
        · exact qb _ h.text c
        · exact qb _ h.bytes c
        · exact db _ h.n c
        · exact db _ h.m c
        · exact db _ h.k c
      · exact ih c hc
  intro c hc
  unfold line at hc
  rcases List.mem_append.mp hc with hc | hc
  · exact word_bytes (names_word r hr) c hc
  · exact key _ c hc
theorem qbyte_pos (c : Int) : 1 ≤ (qbyte c).length := by unfold qbyte; split <;> (try split) <;> (try split) <;> (try split) <;> simp
theorem qbody_ge : ∀ s : List Int, s.length ≤ (qbody s).length
  | [] => Nat.le_refl _
  | c :: r => by
    have := qbody_ge r
    have := qbyte_pos c
    simp only [qbody, List.length_append, List.length_cons]
    omega
theorem quote_ge (s : List Int) : s.length ≤ (quote s).length := by have := quote_len s; have := qbody_ge s; omega
theorem shown_ge (d : D) (p : P) : (fld p d).1.length ≤ (shown d p).length := by
  have nm : ∀ s, s.length ≤ (name s).length := fun s => by
    unfold name; split
    · exact Nat.le_refl _
    · exact quote_ge s
  cases p
  · exact nm _
  · exact nm _
  · exact quote_ge _
  · exact quote_ge _
  · exact Nat.zero_le _
  · exact Nat.zero_le _
  · exact Nat.zero_le _
theorem tail_ge (d : D) (p : P) : ∀ ps : List P, p ∈ ps → (shown d p).length ≤ (tailL d ps).length
  | q :: ps, h => by
    simp only [tailL, List.length_cons, List.length_append]
    rcases List.mem_cons.mp h with rfl | h
    · omega
    · have := tail_ge d p ps h
      omega
theorem fld_le {d : D} {r : Row} (hc : clean r.parts d = true) (p : P) : (fld p d).1.length ≤ (line r d).length := by
  by_cases hp : p ∈ r.parts
  · have := shown_ge d p
    have := tail_ge d p r.parts hp
    simp only [line, List.length_append]
    omega
  · have hn : has p r.parts = false := by
      rw [Bool.eq_false_iff]; intro h; exact hp ((has_iff p r.parts).mp h)
    simp only [clean, Bool.and_eq_true, Bool.or_eq_true, decide_eq_true_eq] at hc
    obtain ⟨⟨⟨⟨⟨⟨h1, h2⟩, h3⟩, h4⟩, h5⟩, h6⟩, h7⟩ := hc
    cases p
    · rw [hn] at h1; have := h1.resolve_left (by simp); show d.who.length ≤ _; rw [this]; simp
    · rw [hn] at h2; have := h2.resolve_left (by simp); show d.to.length ≤ _; rw [this]; simp
    · rw [hn] at h3; have := h3.resolve_left (by simp); show d.text.length ≤ _; rw [this]; simp
    · rw [hn] at h4; have := h4.resolve_left (by simp); show d.bytes.length ≤ _; rw [this]; simp
    · exact Nat.zero_le _
    · exact Nat.zero_le _
    · exact Nat.zero_le _
end Go.Proofs.YtgeheffhdpeddaaDoor.Scr
