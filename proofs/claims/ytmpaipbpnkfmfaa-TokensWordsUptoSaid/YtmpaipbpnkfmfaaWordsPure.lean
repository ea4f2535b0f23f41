/-
  PLAIN: what the printed functions of TokensWords tell: Word and Quote of the program and of the document are the same. Condition: a text of at most 1048576 bytes.
-/
import Derived.Test.YtmpaipbpnkfmfaaPx3
import Derived.Test.YtmpaipbpnkfmfaaBr
import Derived.Test.YtmpaipbpnkfmfaaTokB
namespace Go.Proofs.Ytmpaipbpnkfmfaa.WordsPure
open Go.RowKit Go.Proofs.Ytmpaipbpnkfmfaa.P Go.Proofs.YtmpaipbpnkfmfaaW.PrintWords Go.Proofs.YtmpaipbpnkfmfaaW.PrintLast Go.Proofs.Ytmpaipbpnkfmfaa.Br
open Go.Proofs.Ytmpaipbpnkfmfaa

theorem small_eq (c : Int) : tokens_small.f c = some (Tk.sm c) := by
  unfold tokens_small.f Tk.sm
  by_cases h : c ≥ 97
  · rw [if_pos h]; simp [show (97 : Int) ≤ c from h]
  · rw [if_neg h]; simp [show ¬ (97 : Int) ≤ c from h]
theorem great_eq (c : Int) : tokens_great.f c = some (Tk.gr c) := by
  unfold tokens_great.f Tk.gr
  by_cases h : c ≥ 65
  · rw [if_pos h]
    by_cases h2 : c ≤ 90
    · rw [if_pos h2]; simp [show (65 : Int) ≤ c from h, h2]
    · rw [if_neg h2]; simp [show (65 : Int) ≤ c from h, h2]; rfl
  · rw [if_neg h]; simp [show ¬ (65 : Int) ≤ c from h]; rfl
theorem digit_eq (c : Int) : tokens_digit.f c = some (Tk.dg c) := by
  unfold tokens_digit.f Tk.dg
  by_cases h : c ≥ 48
  · rw [if_pos h]; simp [show (48 : Int) ≤ c from h]
  · rw [if_neg h]; simp [show ¬ (48 : Int) ≤ c from h]
theorem small_eq' (c : Int) : hearsayref04_small.f c = some (Tk.sm c) := small_eq c
theorem great_eq' (c : Int) : hearsayref04_great.f c = some (Tk.gr c) := great_eq c
theorem digit_eq' (c : Int) : hearsayref04_digit.f c = some (Tk.dg c) := digit_eq c

theorem run_ev (s : ByteArray) (hs : s.size ≤ 1048576) : ∀ (d i : Nat), i ≤ s.size → s.size - i = d → Ev (fun k => tokens_run.l0 k s (i : Int)) ((i : Int) + (Tk.run ((bs s).drop i)).length) := by
  intro d
  induction d with
  | zero =>
    intro i hi hd
    refine ⟨1, fun k hk => ?_⟩
    obtain ⟨k, rfl⟩ : ∃ m, k = m + 1 := ⟨k - 1, by omega⟩
    simp only [tokens_run.l0]
    rw [if_neg (by omega), bs_drop_all s i (by omega)]
    simp [Tk.run]
  | succ d ih =>
    intro i hi hd
    rw [bs_drop s i (by omega)]
    have hw : wrap64 ((i : Int) + 1) = ((i + 1 : Nat) : Int) := by rw [w64 (by omega)]; omega
    by_cases hr : Tk.rn (bt s (i : Int)) = true
    · obtain ⟨K, hK⟩ := ih (i + 1) (by omega) (by omega)
      refine ⟨K + 1, fun k hk => ?_⟩
      obtain ⟨k, rfl⟩ : ∃ m, k = m + 1 := ⟨k - 1, by omega⟩
      have h := hK k (by omega)
      simp only [tokens_run.l0]
      rw [if_pos (by omega), if_pos (by omega), small_eq, great_eq, digit_eq, hw]
      simp only [Option.bind_some, h]
      have e : (((i + 1 : Nat) : Int) + ((Tk.run ((bs s).drop (i + 1))).length : Int)) = (i : Int) + ((Tk.run (bt s (i : Int) :: (bs s).drop (i + 1))).length : Int) := by
        simp only [Tk.run, hr, if_true, List.length_cons]; omega
      rw [e]
      simp only [Tk.rn, Bool.or_eq_true] at hr
      by_cases h1 : Tk.sm (bt s (i : Int)) = true
      · rw [if_pos h1]
      · by_cases h2 : Tk.gr (bt s (i : Int)) = true
        · rw [if_neg h1, if_pos h2]
        · by_cases h3 : Tk.dg (bt s (i : Int)) = true
          · rw [if_neg h1, if_neg h2, if_pos h3]
          · simp [h1, h2, h3] at hr
    · refine ⟨1, fun k hk => ?_⟩
      obtain ⟨k, rfl⟩ : ∃ m, k = m + 1 := ⟨k - 1, by omega⟩
      simp only [tokens_run.l0]
      rw [if_pos (by omega), if_pos (by omega), small_eq, great_eq, digit_eq]
      simp only [Option.bind_some, Tk.run, hr]
      simp only [Tk.rn, Bool.or_eq_true, not_or] at hr
      rw [if_neg hr.1.1, if_neg hr.1.2, if_neg hr.2]
      simp
theorem l0_same : ∀ (k : Nat) (s : ByteArray) (i : Int), hearsayref04_run.l0 k s i = tokens_run.l0 k s i := by
  intro k
  induction k with
  | zero => intro s i; rfl
  | succ k ih =>
    intro s i
    simp only [hearsayref04_run.l0, tokens_run.l0, ih]
    rfl
theorem word_same (k : Nat) (s : ByteArray) : hearsayref04_Word.f k s = tokens_Word.f k s := by
  unfold hearsayref04_Word.f tokens_Word.f hearsayref04_run.f tokens_run.f
  simp only [l0_same]
  rfl
theorem run0_ev (s : ByteArray) (hs : s.size ≤ 1048576) : Ev (fun k => tokens_run.f k s) ((Tk.run (bs s)).length : Int) := by
  have h := run_ev s hs s.size 0 (by omega) (by omega)
  simpa [tokens_run.f] using h
theorem word_ev (s : ByteArray) (hs : s.size ≤ 1048576) : Ev (fun k => tokens_Word.f k s) (Tk.word (bs s)) := by
  by_cases h0 : s.size = 0
  · refine ⟨0, fun k _ => ?_⟩
    have e : bs s = [] := by rw [← List.length_eq_zero_iff, bs_length]; exact h0
    simp only [tokens_Word.f, if_pos ((toList_nil s).2 h0), e]
    rfl
  · obtain ⟨K, hK⟩ := run0_ev s hs
    refine ⟨K, fun k hk => ?_⟩
    have h := hK k hk
    simp only at h
    have e : bs s = bt s 0 :: (bs s).drop 1 := by simpa using bs_drop s 0 (by omega)
    simp only [tokens_Word.f, if_neg (mt (toList_nil s).1 h0), if_pos (show 0 < (s.size : Int) by omega), small_eq, Option.bind_some, h]
    have hl := bs_length s
    have hb : (s.toList != ([115, 97, 121, 115] : List UInt8)) = decide (bs s ≠ Tk.says) := by
      rw [Bool.eq_iff_iff, bne_iff_ne, decide_eq_true_eq, ne_eq, ne_eq, toList_lit]; rfl
    rw [hb, e]
    rw [e] at hl
    generalize bt s 0 = c at *
    generalize (bs s).drop 1 = r at *
    have hr := Tk.run_le r
    simp only [Tk.word, Tk.run]
    by_cases h1 : Tk.sm c = true
    · have h2 : Tk.rn c = true := by simp [Tk.rn, h1]
      simp only [h1, h2, if_true, List.length_cons, Bool.true_and] at hl ⊢
      by_cases h3 : Tk.run r = r
      · rw [if_pos (by rw [h3]; omega)]; simp [h3]
      · have : (Tk.run r).length ≠ r.length := by
          intro e2
          have e3 := Tk.run_take r
          rw [e2, List.take_length] at e3
          exact h3 e3.symm
        rw [if_neg (by omega)]; simp [h3]
    · simp [h1]

/-! ### Quote -/
theorem quote_ev (s : ByteArray) (hs : s.size ≤ 1048576) : ∀ (d i : Nat) (acc : List Int), i ≤ s.size → s.size - i = d → acc.length ≤ 1 + 4 * i →
    Ev (fun k => tokens_Quote.l0 k s acc (i : Int)) (strOfNums (acc ++ (Tk.qbody ((bs s).drop i) ++ [34]))) := by
  intro d
  induction d with
  | zero =>
    intro i acc hi hd ha
    refine ⟨1, fun k hk => ?_⟩
    obtain ⟨k, rfl⟩ : ∃ m, k = m + 1 := ⟨k - 1, by omega⟩
    simp only [tokens_Quote.l0]
    rw [if_neg (by omega), bs_drop_all s i (by omega), if_pos (by omega)]
    rfl
  | succ d ih =>
    intro i acc hi hd ha
    rw [bs_drop s i (by omega)]
    have hc := bt_range s (i : Int)
    have hw : wrap64 ((i : Int) + 1) = ((i + 1 : Nat) : Int) := by rw [w64 (by omega)]; omega
    have next : ∀ q : List Int, q.length ≤ 4 → Tk.qbyte (bt s (i : Int)) = q → ∃ K, ∀ k, K ≤ k → tokens_Quote.l0 k s (acc ++ q) (wrap64 ((i : Int) + 1)) = some (strOfNums (acc ++ (Tk.qbody (bt s (i : Int) :: (bs s).drop (i + 1)) ++ [34]))) := by
      intro q hq e
      obtain ⟨K, hK⟩ := ih (i + 1) (acc ++ q) (by omega) (by omega) (by rw [List.length_append]; omega)
      refine ⟨K, fun k hk => ?_⟩
      have h := hK k hk
      simp only at h
      rw [hw, h]
      simp only [Tk.qbody, e, List.append_assoc]
    refine Exists.elim (next _ (Tk.qbyte_le _) rfl) fun K hK => ⟨K + 2, fun k hk => ?_⟩
    obtain ⟨k, rfl⟩ : ∃ m, k = m + 2 := ⟨k - 2, by omega⟩
    have h := hK k (by omega)
    clear hK next ih
    simp only [tokens_Quote.l0]
    rw [if_pos (by omega), if_pos (by omega)]
    generalize bt s (i : Int) = c at *
    have j1 : ∀ b : Bool, b = decide (c = 34 ∨ c = 92) → tokens_Quote.j1 (k + 1) s acc (i : Int) c b = some (strOfNums (acc ++ (Tk.qbody (c :: (bs s).drop (i + 1)) ++ [34]))) := by
      intro b hb
      subst hb
      simp only [tokens_Quote.j1, Option.bind_some]
      by_cases h1 : c = 34 ∨ c = 92
      · simp only [Tk.qbyte, if_pos h1] at h
        rw [if_pos (by simpa using h1), if_pos (by simp only [List.length_cons, List.length_nil]; omega)]
        exact h
      · rw [if_neg (by simpa using h1)]
        by_cases h2 : c = 10
        · simp only [Tk.qbyte, if_neg h1, if_pos h2] at h
          rw [if_pos h2, if_pos (by simp only [List.length_cons, List.length_nil]; omega)]
          exact h
        · by_cases h3 : c = 9
          · simp only [Tk.qbyte, if_neg h1, if_neg h2, if_pos h3] at h
            rw [if_neg h2, if_pos h3, if_pos (by simp only [List.length_cons, List.length_nil]; omega)]
            exact h
          · rw [if_neg h2, if_neg h3]
            have ha := and15 hc.1 hc.2
            have hx1 := hexdig (c / 16) (by omega)
            have hx2 := hexdig (c % 16) (by omega)
            by_cases h4 : 32 ≤ c ∧ c ≤ 126
            · simp only [Tk.qbyte, if_neg h1, if_neg h2, if_neg h3, if_pos h4] at h
              rw [if_neg (by omega), if_neg (by omega), if_pos (by omega)]
              exact h
            · simp only [Tk.qbyte, if_neg h1, if_neg h2, if_neg h3, if_neg h4] at h
              have hl : (acc.length + ([92, 120, Tk.dig (c / 16), Tk.dig (c % 16)] : List Int).length < 140737488355328) := by simp only [List.length_cons, List.length_nil]; omega
              rw [ha, hx1, hx2, if_pos (show 0 ≤ c / 16 by omega), if_pos (show c / 16 < 16 by omega), if_pos (show 0 ≤ c % 16 by omega), if_pos (show c % 16 < 16 by omega), if_pos hl]
              by_cases h5 : c < 32
              · rw [if_pos h5]; exact h
              · rw [if_neg h5, if_pos (by omega)]; exact h
    by_cases h1 : c = 34
    · rw [if_pos h1]; exact j1 _ (by simp [h1])
    · rw [if_neg h1]
      exact j1 _ (by rw [Bool.eq_iff_iff, beq_iff_eq, decide_eq_true_eq]; simp [h1])
theorem quote_rf (s : ByteArray) (hs : s.size ≤ 1048576) : ∀ (d i : Nat) (acc : List Int), i ≤ s.size → s.size - i = d → acc.length ≤ 1 + 4 * i →
    Ev (fun k => hearsayref04_Quote.l0 k s acc (i : Int)) (strOfNums (acc ++ (Tk.qbody ((bs s).drop i) ++ [34]))) := by
  intro d
  induction d with
  | zero =>
    intro i acc hi hd ha
    refine ⟨1, fun k hk => ?_⟩
    obtain ⟨k, rfl⟩ : ∃ m, k = m + 1 := ⟨k - 1, by omega⟩
    simp only [hearsayref04_Quote.l0]
    rw [if_neg (by omega), bs_drop_all s i (by omega), if_pos (by omega)]
    rfl
  | succ d ih =>
    intro i acc hi hd ha
    rw [bs_drop s i (by omega)]
    have hc := bt_range s (i : Int)
    have hw : wrap64 ((i : Int) + 1) = ((i + 1 : Nat) : Int) := by rw [w64 (by omega)]; omega
    have next : ∀ q : List Int, q.length ≤ 4 → Tk.qbyte (bt s (i : Int)) = q → ∃ K, ∀ k, K ≤ k → hearsayref04_Quote.l0 k s (acc ++ q) (wrap64 ((i : Int) + 1)) = some (strOfNums (acc ++ (Tk.qbody (bt s (i : Int) :: (bs s).drop (i + 1)) ++ [34]))) := by
      intro q hq e
      obtain ⟨K, hK⟩ := ih (i + 1) (acc ++ q) (by omega) (by omega) (by rw [List.length_append]; omega)
      refine ⟨K, fun k hk => ?_⟩
      have h := hK k hk
      simp only at h
      rw [hw, h]
      simp only [Tk.qbody, e, List.append_assoc]
    refine Exists.elim (next _ (Tk.qbyte_le _) rfl) fun K hK => ⟨K + 2, fun k hk => ?_⟩
    obtain ⟨k, rfl⟩ : ∃ m, k = m + 2 := ⟨k - 2, by omega⟩
    have h := hK k (by omega)
    clear hK next ih
    simp only [hearsayref04_Quote.l0]
    rw [if_pos (by omega), if_pos (by omega)]
    generalize bt s (i : Int) = c at *
    have j1 : ∀ b : Bool, b = decide (c = 34 ∨ c = 92) → hearsayref04_Quote.j1 (k + 1) s acc (i : Int) c b = some (strOfNums (acc ++ (Tk.qbody (c :: (bs s).drop (i + 1)) ++ [34]))) := by
      intro b hb
      subst hb
      simp only [hearsayref04_Quote.j1, Option.bind_some]
      by_cases h1 : c = 34 ∨ c = 92
      · simp only [Tk.qbyte, if_pos h1] at h
        rw [if_pos (by simpa using h1), if_pos (by simp only [List.length_cons, List.length_nil]; omega)]
        exact h
      · rw [if_neg (by simpa using h1)]
        by_cases h2 : c = 10
        · simp only [Tk.qbyte, if_neg h1, if_pos h2] at h
          rw [if_pos h2, if_pos (by simp only [List.length_cons, List.length_nil]; omega)]
          exact h
        · by_cases h3 : c = 9
          · simp only [Tk.qbyte, if_neg h1, if_neg h2, if_pos h3] at h
            rw [if_neg h2, if_pos h3, if_pos (by simp only [List.length_cons, List.length_nil]; omega)]
            exact h
          · rw [if_neg h2, if_neg h3]
            have hd : (Int.tdiv c 16) % 256 = c / 16 := by rw [Int.tdiv_eq_ediv_of_nonneg hc.1]; omega
            have hm : Int.tmod c 16 = c % 16 := by rw [Int.tmod_eq_emod_of_nonneg hc.1]
            have hx1 := hexdig (c / 16) (by omega)
            have hx2 := hexdig (c % 16) (by omega)
            rw [hd, hm]
            by_cases h4 : 32 ≤ c ∧ c ≤ 126
            · simp only [Tk.qbyte, if_neg h1, if_neg h2, if_neg h3, if_pos h4] at h
              rw [if_pos (by omega), if_pos (by omega), if_pos (by omega)]
              exact h
            · simp only [Tk.qbyte, if_neg h1, if_neg h2, if_neg h3, if_neg h4] at h
              have hl : (acc.length + ([92, 120, Tk.dig (c / 16), Tk.dig (c % 16)] : List Int).length < 140737488355328) := by simp only [List.length_cons, List.length_nil]; omega
              rw [hx1, hx2, if_pos (show 0 ≤ c / 16 by omega), if_pos (show c / 16 < 16 by omega), if_pos (show 0 ≤ c % 16 by omega), if_pos (show c % 16 < 16 by omega), if_pos hl]
              by_cases h5 : c ≥ 32
              · rw [if_pos h5, if_neg (by omega)]; exact h
              · rw [if_neg h5]; exact h
    by_cases h1 : c = 34
    · rw [if_pos h1]; exact j1 _ (by simp [h1])
    · rw [if_neg h1]
      exact j1 _ (by rw [Bool.eq_iff_iff, beq_iff_eq, decide_eq_true_eq]; simp [h1])
theorem quote_all (s : ByteArray) (hs : s.size ≤ 1048576) : Ev (fun k => tokens_Quote.f k s) (strOfNums (Tk.quote (bs s))) := by
  have h := quote_ev s hs s.size 0 [34] (by omega) (by omega) (by simp)
  simpa [tokens_Quote.f, Tk.quote] using h
theorem quote_all' (s : ByteArray) (hs : s.size ≤ 1048576) : Ev (fun k => hearsayref04_Quote.f k s) (strOfNums (Tk.quote (bs s))) := by
  have h := quote_rf s hs s.size 0 [34] (by omega) (by omega) (by simp)
  simpa [hearsayref04_Quote.f, Tk.quote] using h

theorem words_pure (s : ByteArray) (hs : s.size ≤ 1048576) : ∃ k, hearsaylaw04_TokensWords.f k s = some true := by
  obtain ⟨K1, h1⟩ := word_ev s hs
  obtain ⟨K2, h2⟩ := quote_all s hs
  obtain ⟨K3, h3⟩ := quote_all' s hs
  refine ⟨K1 + K2 + K3, ?_⟩
  have a := h1 (K1 + K2 + K3) (by omega)
  have b := h2 (K1 + K2 + K3) (by omega)
  have c := h3 (K1 + K2 + K3) (by omega)
  simp only at a b c
  simp only [hearsaylaw04_TokensWords.f, word_same, a, b, c, Option.bind_some]
  simp

end Go.Proofs.Ytmpaipbpnkfmfaa.WordsPure
