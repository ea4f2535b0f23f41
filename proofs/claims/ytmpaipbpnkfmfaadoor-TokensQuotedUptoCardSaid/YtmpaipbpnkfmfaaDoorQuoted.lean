/-
  PLAIN: TokensQuoted comes to true. Conditions: a text of at most 2^20 bytes, at most 2^20 numbers.
-/
import Derived.Test.YtmpaipbpnkfmfaaDoorPx24
import Derived.Test.YtmpaipbpnkfmfaaDoorPure
import Derived.Test.YtmpaipbpnkfmfaaDoorOpenP
import Derived.Test.YtmpaipbpnkfmfaaDoorTokA
namespace Go.Proofs.YtmpaipbpnkfmfaaDoor.CutPure
open Go.RowKit Go.Proofs.YtmpaipbpnkfmfaaDoor.P Go.Proofs.YtmpaipbpnkfmfaaDoorW.PrintWords Go.Proofs.YtmpaipbpnkfmfaaDoorW.PrintLast Go.Proofs.YtmpaipbpnkfmfaaDoor.Br
open Go.Proofs.YtmpaipbpnkfmfaaDoor

/-- the number that chooses how the byte at place i is written -/
def kkn (how : List Int) (i : Nat) : Int := if (how.length : Int) > 0 then Go.bits .and .i64 (rd how (Int.tmod (i : Int) (how.length : Int))) 3 else 0
def raw (c : Int) : Bool := decide (32 ≤ c) && (decide (c ≠ 127) && (decide (c ≠ 34) && decide (c ≠ 92)))
def fmS (q c : Int) : List Int :=
  if q < 2 then
    (if raw c = true then [c] else if c = 34 ∨ c = 92 then [92, c] else if c = 10 then [92, 110] else if c = 9 then [92, 116] else [92, 120, Tk.dig (c / 16), Tk.dig (c % 16)])
  else if q = 3 then [92, 120, Tk.digG (c / 16), Tk.digG (c % 16)] else [92, 120, Tk.dig (c / 16), Tk.dig (c % 16)]
theorem fmS_form (q c : Int) : Tk.qform c (fmS q c) := by
  unfold fmS Tk.qform
  by_cases h1 : q < 2
  · rw [if_pos h1]
    by_cases h2 : raw c = true
    · rw [if_pos h2]
      simp only [raw, Bool.and_eq_true, decide_eq_true_eq] at h2
      exact .inl ⟨h2.1, h2.2.1, h2.2.2.1, h2.2.2.2, rfl⟩
    · rw [if_neg h2]
      by_cases h3 : c = 34 ∨ c = 92
      · rw [if_pos h3]; exact .inr (.inl ⟨h3, rfl⟩)
      · rw [if_neg h3]
        by_cases h4 : c = 10
        · rw [if_pos h4]; exact .inr (.inr (.inl ⟨h4, rfl⟩))
        · rw [if_neg h4]
          by_cases h5 : c = 9
          · rw [if_pos h5]; exact .inr (.inr (.inr (.inl ⟨h5, rfl⟩)))
          · rw [if_neg h5]; exact .inr (.inr (.inr (.inr (.inl rfl))))
  · rw [if_neg h1]
    by_cases h2 : q = 3
    · rw [if_pos h2]; exact .inr (.inr (.inr (.inr (.inr rfl))))
    · rw [if_neg h2]; exact .inr (.inr (.inr (.inr (.inl rfl))))
theorem form_len {c : Int} {x : List Int} (h : Tk.qform c x) : x.length ≤ 4 := by
  rcases h with ⟨_, _, _, _, rfl⟩ | ⟨_, rfl⟩ | ⟨_, rfl⟩ | ⟨_, rfl⟩ | rfl | rfl <;> simp
theorem form_bytes {c : Int} {x : List Int} (hc : 0 ≤ c ∧ c ≤ 255) (h : Tk.qform c x) : Tk.bytes x := by
  have hd : ∀ x : Int, 0 ≤ x ∧ x ≤ 15 → 0 ≤ Tk.dig x ∧ Tk.dig x ≤ 255 := by intro x hx; unfold Tk.dig; split <;> omega
  have hg : ∀ x : Int, 0 ≤ x ∧ x ≤ 15 → 0 ≤ Tk.digG x ∧ Tk.digG x ≤ 255 := by intro x hx; unfold Tk.digG; split <;> omega
  have d1 := hd (c / 16) (by omega)
  have d2 := hd (c % 16) (by omega)
  have g1 := hg (c / 16) (by omega)
  have g2 := hg (c % 16) (by omega)
  intro y hy
  rcases h with ⟨_, _, _, _, rfl⟩ | ⟨_, rfl⟩ | ⟨_, rfl⟩ | ⟨_, rfl⟩ | rfl | rfl
  · simp only [List.mem_cons, List.not_mem_nil, or_false] at hy; omega
  · simp only [List.mem_cons, List.not_mem_nil, or_false] at hy; omega
  · simp only [List.mem_cons, List.not_mem_nil, or_false] at hy; omega
  · simp only [List.mem_cons, List.not_mem_nil, or_false] at hy; omega
  · simp only [List.mem_cons, List.not_mem_nil, or_false] at hy
    rcases hy with rfl | rfl | rfl | rfl <;> omega
  · simp only [List.mem_cons, List.not_mem_nil, or_false] at hy
    rcases hy with rfl | rfl | rfl | rfl <;> omega
def fmI (how : List Int) (i : Nat) (c : Int) : List Int := fmS (kkn how i) c
theorem forms_bytes (how : List Int) : ∀ (l : List Int) (i : Nat), Tk.bytes l → Tk.bytes (Tk.forms (fmI how) i l) := by
  intro l
  induction l with
  | nil => intro i _ c hc; cases hc
  | cons c r ih =>
    intro i h x hx
    simp only [Tk.forms] at hx
    rcases List.mem_append.1 hx with hx | hx
    · exact form_bytes (h c (by simp)) (fmS_form _ c) x hx
    · exact ih (i + 1) (fun y hy => h y (by simp [hy])) x hx
theorem forms_len (how : List Int) : ∀ (l : List Int) (i : Nat), (Tk.forms (fmI how) i l).length ≤ 4 * l.length := by
  intro l
  induction l with
  | nil => intro i; exact Nat.le_refl _
  | cons c r ih =>
    intro i
    have := form_len (fmS_form (kkn how i) c)
    have := ih (i + 1)
    simp only [Tk.forms, List.length_append, List.length_cons, fmI] at *
    omega

theorem hexG (x : Int) (h : 0 ≤ x ∧ x < 16) : bt (⟨#[48, 49, 50, 51, 52, 53, 54, 55, 56, 57, 65, 66, 67, 68, 69, 70]⟩ : ByteArray) x = Tk.digG x := by
  have : x = 0 ∨ x = 1 ∨ x = 2 ∨ x = 3 ∨ x = 4 ∨ x = 5 ∨ x = 6 ∨ x = 7 ∨ x = 8 ∨ x = 9 ∨ x = 10 ∨ x = 11 ∨ x = 12 ∨ x = 13 ∨ x = 14 ∨ x = 15 := by omega
  rcases this with rfl | rfl | rfl | rfl | rfl | rfl | rfl | rfl | rfl | rfl | rfl | rfl | rfl | rfl | rfl | rfl <;> rfl

/-- one byte -/
theorem spelt_byte (s : ByteArray) (how acc : List Int) (i q c : Int) (hc : 0 ≤ c ∧ c ≤ 255) (ha : acc.length ≤ 140737488355000) (r : ByteArray) (K : Nat) (h : ∀ k, K ≤ k → hearsaylaw04_spelt.l0 k s how (acc ++ fmS q c) (wrap64 (i + 1)) = some r) :
    ∀ k, K + 6 ≤ k → hearsaylaw04_spelt.j1 k s how acc i c q = some r := by
  intro k hk
  obtain ⟨k, rfl⟩ : ∃ m, k = m + 6 := ⟨k - 6, by omega⟩
  have J1 : ∀ k, hearsaylaw04_spelt.j1 (k + 1) s how acc i c q = hearsaylaw04_spelt.j2 k s how acc i c q (raw c) := by
    intro k
    rw [hearsaylaw04_spelt.j1]
    unfold raw
    by_cases h1 : 32 ≤ c
    · rw [if_pos h1]
      by_cases h2 : c = 127
      · rw [if_pos h2]; simp [h2]
      · rw [if_neg h2]
        by_cases h3 : c = 34
        · rw [if_pos h3]; simp [h3]
        · rw [if_neg h3]
          congr 1
          by_cases h4 : c = 92 <;> simp [h1, h2, h3, h4]
    · rw [if_neg h1]; simp [h1]
  rw [J1, hearsaylaw04_spelt.j2]
  have hex1 : Int.tdiv c 16 % 256 = c / 16 := by rw [Int.tdiv_eq_ediv_of_nonneg hc.1]; omega
  have hex2 : Int.tmod c 16 = c % 16 := Int.tmod_eq_emod_of_nonneg hc.1
  have L2 : ∀ y : List Int, y.length ≤ 4 → acc.length + y.length < 140737488355328 := by intro y hy; omega
  by_cases hq : q < 2
  · rw [if_pos hq, hearsaylaw04_spelt.j3]
    by_cases hr : raw c = true
    · have e : fmS q c = [c] := by unfold fmS; rw [if_pos hq, if_pos hr]
      rw [e] at h
      rw [if_pos hr, if_pos (by omega)]
      exact h _ (by omega)
    · rw [if_neg hr, if_pos hq]
      have J4 : ∀ k, (if c = 34 then hearsaylaw04_spelt.j4 k s how acc i c q true else hearsaylaw04_spelt.j4 k s how acc i c q (c == 92)) = hearsaylaw04_spelt.j4 k s how acc i c q (decide (c = 34 ∨ c = 92)) := by
        intro k
        by_cases h3 : c = 34
        · rw [if_pos h3, decide_eq_true (Or.inl h3)]
        · rw [if_neg h3]
          congr 1
          by_cases h4 : c = 92 <;> simp [h3, h4]
      rw [J4, hearsaylaw04_spelt.j4]
      by_cases h3 : c = 34 ∨ c = 92
      · have e : fmS q c = [92, c] := by unfold fmS; rw [if_pos hq, if_neg hr, if_pos h3]
        rw [e] at h
        rw [if_pos (decide_eq_true h3), Option.bind_some, if_pos (L2 _ (by simp))]
        exact h _ (by omega)
      · rw [if_neg (by simpa using h3), if_pos hq, hearsaylaw04_spelt.j5]
        by_cases h4 : c = 10
        · have e : fmS q c = [92, 110] := by unfold fmS; rw [if_pos hq, if_neg hr, if_neg h3, if_pos h4]
          rw [e] at h
          rw [if_pos (by simp [h4]), Option.bind_some, if_pos (L2 _ (by simp))]
          exact h _ (by omega)
        · rw [if_neg (by simpa using h4), if_pos hq, hearsaylaw04_spelt.j6]
          by_cases h5 : c = 9
          · have e : fmS q c = [92, 116] := by unfold fmS; rw [if_pos hq, if_neg hr, if_neg h3, if_neg h4, if_pos h5]
            rw [e] at h
            rw [if_pos (by simp [h5]), Option.bind_some, if_pos (L2 _ (by simp))]
            exact h _ (by omega)
          · have e : fmS q c = [92, 120, Tk.dig (c / 16), Tk.dig (c % 16)] := by unfold fmS; rw [if_pos hq, if_neg hr, if_neg h3, if_neg h4, if_neg h5]
            rw [e] at h
            rw [if_neg (by simpa using h5), if_neg (by omega), hex1, hex2, if_pos (by omega), if_pos (by omega), if_pos (by omega), if_pos (by omega), hexdig _ (by omega), hexdig _ (by omega), Option.bind_some, if_pos (L2 _ (by simp))]
            exact h _ (by omega)
  · rw [if_neg hq, hearsaylaw04_spelt.j3, if_neg (by simp), if_neg hq, hearsaylaw04_spelt.j4, if_neg (by simp), if_neg hq, hearsaylaw04_spelt.j5, if_neg (by simp), if_neg hq, hearsaylaw04_spelt.j6, if_neg (by simp)]
    by_cases h3 : q = 3
    · have e : fmS q c = [92, 120, Tk.digG (c / 16), Tk.digG (c % 16)] := by unfold fmS; rw [if_neg hq, if_pos h3]
      rw [e] at h
      rw [if_pos h3, hex1, hex2, if_pos (by omega), if_pos (by omega), if_pos (by omega), if_pos (by omega), hexG _ (by omega), hexG _ (by omega), Option.bind_some, if_pos (L2 _ (by simp))]
      exact h _ (by omega)
    · have e : fmS q c = [92, 120, Tk.dig (c / 16), Tk.dig (c % 16)] := by unfold fmS; rw [if_neg hq, if_neg h3]
      rw [e] at h
      rw [if_neg h3, hex1, hex2, if_pos (by omega), if_pos (by omega), if_pos (by omega), if_pos (by omega), hexdig _ (by omega), hexdig _ (by omega), Option.bind_some, if_pos (L2 _ (by simp))]
      exact h _ (by omega)

theorem spelt_ev (s : ByteArray) (hs : s.size ≤ 1048576) (how : List Int) : ∀ (d i : Nat) (acc : List Int), i ≤ s.size → s.size - i ≤ d → acc.length ≤ 1 + 4 * i →
    Ev (fun k => hearsaylaw04_spelt.l0 k s how acc (i : Int)) (strOfNums (acc ++ (Tk.forms (fmI how) i ((bs s).drop i) ++ [34]))) := by
  intro d
  induction d with
  | zero =>
    intro i acc hi hd ha
    refine ⟨1, fun k hk => ?_⟩
    obtain ⟨k, rfl⟩ : ∃ m, k = m + 1 := ⟨k - 1, by omega⟩
    show hearsaylaw04_spelt.l0 (k + 1) s how acc (i : Int) = _
    rw [hearsaylaw04_spelt.l0, if_neg (by omega), if_pos (by omega), bs_drop_all s i (by omega)]
    rfl
  | succ d ih =>
    intro i acc hi hd ha
    rcases Nat.lt_or_ge i s.size with hi2 | hi2
    case inr => exact ih i acc hi (by omega) ha
    have hdr := bs_drop s i hi2
    have hcb : 0 ≤ bt s (i : Int) ∧ bt s (i : Int) ≤ 255 := bs_bytes s _ (List.mem_of_mem_drop (i := i) (by rw [hdr]; simp))
    rw [hdr]
    generalize hc : bt s (i : Int) = c at *
    have hfl := form_len (fmS_form (kkn how i) c)
    obtain ⟨K, hK⟩ := ih (i + 1) (acc ++ fmS (kkn how i) c) (by omega) (by omega) (by rw [List.length_append]; omega)
    have hend := spelt_byte s how acc (i : Int) (kkn how i) c hcb (by omega) _ K (fun k hk => by
      rw [next_ i (by omega)]
      exact hK k hk)
    refine ⟨K + 7, fun k hk => ?_⟩
    obtain ⟨k, rfl⟩ : ∃ m, k = m + 1 := ⟨k - 1, by omega⟩
    have hfin : (acc ++ fmS (kkn how i) c) ++ (Tk.forms (fmI how) (i + 1) ((bs s).drop (i + 1)) ++ [34]) = acc ++ (Tk.forms (fmI how) i (c :: (bs s).drop (i + 1)) ++ [34]) := by
      simp only [Tk.forms, fmI, List.append_assoc]
    have he := hend k (by omega)
    rw [hfin] at he
    show hearsaylaw04_spelt.l0 (k + 1) s how acc (i : Int) = _
    rw [hearsaylaw04_spelt.l0, if_pos (by omega), if_pos (by omega), hc]
    by_cases hp : (how.length : Int) > 0
    · have hpk : kkn how i = Go.bits .and .i64 (rd how (Int.tmod (i : Int) (how.length : Int))) 3 := by unfold kkn; rw [if_pos hp]
      rw [if_pos hp, if_neg (by omega), if_pos (Int.tmod_nonneg _ (by omega)), if_pos (Int.tmod_lt_of_pos _ hp), ← hpk]
      exact he
    · have hpk : kkn how i = 0 := by unfold kkn; rw [if_neg hp]
      rw [if_neg hp]
      rw [hpk] at he
      exact he

theorem qlaw_ev (s w q : ByteArray) (n m : Int) (hs : s.size ≤ 1048576) (hn : n = (w.size : Int)) (hq : q.size ≤ 4 * s.size + 2) (hb : ∀ c ∈ bs q, 32 ≤ c ∧ c ≤ 126) : ∀ (d i : Nat), i ≤ q.size → q.size - i ≤ d →
    Ev (fun k => hearsaylaw04_TokensQuoted.l0 k s w [⟨3, s, 0, 0, n⟩] q [⟨3, s, 0, 0, m⟩] (i : Int)) true := by
  intro d
  induction d with
  | zero =>
    intro i hi hd
    refine ⟨1, fun k hk => ?_⟩
    obtain ⟨k, rfl⟩ : ∃ m, k = m + 1 := ⟨k - 1, by omega⟩
    show hearsaylaw04_TokensQuoted.l0 (k + 1) s w [⟨3, s, 0, 0, n⟩] q [⟨3, s, 0, 0, m⟩] (i : Int) = _
    have hr0 : ∀ y : S33, rd_T33 [y] 0 = y := fun _ => rfl
    have hw : wrap64 (wrap64 (4 * (s.size : Int)) + 2) = ((4 * s.size + 2 : Nat) : Int) := by unfold wrap64; omega
    rw [hearsaylaw04_TokensQuoted.l0, if_neg (by omega), if_pos (by simp), hr0]
    simp only [hearsaylaw04_bare.f, Option.bind_some]
    rw [if_pos (by simp), if_pos (by simp), hr0, if_pos (by simp), if_pos hn, hw, decide_eq_true (by omega)]
  | succ d ih =>
    intro i hi hd
    rcases Nat.lt_or_ge i q.size with hi2 | hi2
    case inr => exact ih i hi (by omega)
    obtain ⟨K, hK⟩ := ih (i + 1) (by omega) (by omega)
    have hdr := bs_drop q i hi2
    have hcb := hb (bt q (i : Int)) (List.mem_of_mem_drop (i := i) (by rw [hdr]; simp))
    refine ⟨K + 1, fun k hk => ?_⟩
    obtain ⟨k, rfl⟩ : ∃ m, k = m + 1 := ⟨k - 1, by omega⟩
    have h : hearsaylaw04_TokensQuoted.l0 k s w [⟨3, s, 0, 0, n⟩] q [⟨3, s, 0, 0, m⟩] ((i + 1 : Nat) : Int) = _ := hK k (by omega)
    show hearsaylaw04_TokensQuoted.l0 (k + 1) s w [⟨3, s, 0, 0, n⟩] q [⟨3, s, 0, 0, m⟩] (i : Int) = _
    rw [hearsaylaw04_TokensQuoted.l0, if_pos (by omega), if_pos (by omega), if_neg (by omega), if_neg (by omega), next_ i (by omega)]
    exact h

theorem qlaw_f (s : ByteArray) (how : List Int) (hs : s.size ≤ 1048576) (_ : ∀ n ∈ how, (Lit.int .i64 n).wf = true) (_ : how.length ≤ 1048576) : Ev (fun k => hearsaylaw04_TokensQuoted.f k s how) true := by
  obtain ⟨K1, h1⟩ := spelt_ev s hs how s.size 0 [34] (by omega) (by omega) (by simp)
  rw [List.drop_zero] at h1
  have hfb := forms_bytes how (bs s) 0 (bs_bytes s)
  have hfl := forms_len how (bs s) 0
  rw [bs_length] at hfl
  have hqf := Tk.quot_forms (fmI how) (fun i c _ => fmS_form _ c) (bs s) (bs_bytes s) 0 []
  generalize hF : Tk.forms (fmI how) 0 (bs s) = F at *
  have hwb : Tk.bytes ([34] ++ (F ++ [34])) := by
    intro c hc
    simp only [List.mem_append, List.mem_cons, List.not_mem_nil, or_false] at hc
    rcases hc with rfl | hc | rfl
    · omega
    · exact hfb c hc
    · omega
  have hbs : bs (strOfNums ([34] ++ (F ++ [34]))) = 34 :: (F ++ [34]) := bs_str _ hwb
  have hws : (strOfNums ([34] ++ (F ++ [34]))).size = F.length + 2 := by rw [son_len]; simp
  have hcw := Tk.cut_quoted (bs s) (F ++ [34]) (by rw [hqf]; simp) 0
  obtain ⟨K2, h2⟩ := cutall (strOfNums ([34] ++ (F ++ [34]))) (by omega)
  rw [hbs, hcw, encC_ok] at h2
  obtain ⟨K3, h3⟩ := quote_all s (by omega)
  have hqb : Tk.bytes (Tk.quote (bs s)) := fun c hc => by have := Tk.quote_plain (bs s) (bs_bytes s) c hc; omega
  have hbq : bs (strOfNums (Tk.quote (bs s))) = Tk.quote (bs s) := bs_str _ hqb
  have hql : (Tk.quote (bs s)).length ≤ 4 * s.size + 2 := by
    have a1 := Tk.quote_len (bs s)
    have a2 := Tk.qbody_le (bs s)
    rw [bs_length] at a2
    omega
  obtain ⟨K4, h4⟩ := cutall (strOfNums (Tk.quote (bs s))) (by rw [son_len]; omega)
  rw [hbq, Tk.cut_quote (bs s) (bs_bytes s), encC_ok] at h4
  have hT : ∀ n : Int, List.map toS [⟨3, bs s, 0, 0, n⟩] = [(⟨3, s, 0, 0, n⟩ : S33)] := fun n => by simp [toS, str_bs]
  rw [hT] at h2 h4
  obtain ⟨K5, h5⟩ := head_f
  obtain ⟨K6, h6⟩ := qlaw_ev s (strOfNums ([34] ++ (F ++ [34]))) (strOfNums (Tk.quote (bs s))) (0 + (((F ++ [34]).length + 1 : Nat) : Int)) (0 + ((Tk.quote (bs s)).length : Int)) hs (by rw [hws]; simp; omega) (by rw [son_len]; exact hql) (by rw [hbq]; exact Tk.quote_plain (bs s) (bs_bytes s)) _ 0 (by omega) (Nat.le_refl _)
  refine ⟨K1 + K2 + K3 + K4 + K5 + K6 + 1, fun k hk => ?_⟩
  obtain ⟨k, rfl⟩ : ∃ m, k = m + 1 := ⟨k - 1, by omega⟩
  have h1k : hearsaylaw04_spelt.f (k + 1) s how = _ := h1 (k + 1) (by omega)
  have h2k : tokens_Cut.f (k + 1) (strOfNums ([34] ++ (F ++ [34]))) ((strOfNums ([34] ++ (F ++ [34]))).size : Int) = _ := h2 (k + 1) (by omega)
  have h3k : tokens_Quote.f (k + 1) s = _ := h3 (k + 1) (by omega)
  have h4k : tokens_Cut.f (k + 1) (strOfNums (Tk.quote (bs s))) ((strOfNums (Tk.quote (bs s))).size : Int) = _ := h4 (k + 1) (by omega)
  have h5k : hearsaylaw04_head.f (k + 1) = _ := h5 (k + 1) (by omega)
  have h6k : hearsaylaw04_TokensQuoted.l0 k s (strOfNums ([34] ++ (F ++ [34]))) [⟨3, s, 0, 0, 0 + (((F ++ [34]).length + 1 : Nat) : Int)⟩] (strOfNums (Tk.quote (bs s))) [⟨3, s, 0, 0, 0 + ((Tk.quote (bs s)).length : Int)⟩] ((0 : Nat) : Int) = _ := h6 k (by omega)
  show hearsaylaw04_TokensQuoted.f (k + 1) s how = _
  unfold hearsaylaw04_TokensQuoted.f
  rw [h1k, Option.bind_some, h2k, Option.bind_some, h3k, Option.bind_some, h4k, Option.bind_some, if_pos rfl, if_pos rfl, if_pos (by simp), if_pos (by simp), h5k, Option.bind_some]
  show hearsaylaw04_TokensQuoted.j0 (k + 1) s _ _ _ _ false = _
  rw [hearsaylaw04_TokensQuoted.j0, if_neg (by simp)]
  exact h6k

end Go.Proofs.YtmpaipbpnkfmfaaDoor.CutPure
