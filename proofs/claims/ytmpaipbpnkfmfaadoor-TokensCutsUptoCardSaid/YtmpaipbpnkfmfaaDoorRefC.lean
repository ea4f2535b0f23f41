/-
  PLAIN: the document's hex, escape, run and quoted as the plain theory says them. Conditions: texts of at most 2^40 bytes.
  PLAIN: the document's quoted and Number as the plain theory says them. Conditions: texts of at most 2^40 bytes.
  PLAIN: the document's one token and its Cut as the plain theory says them. Conditions: texts of at most 2^40 bytes.
-/
import Derived.Test.YtmpaipbpnkfmfaaDoorPx10
import Derived.Test.YtmpaipbpnkfmfaaDoorPx11
import Derived.Test.YtmpaipbpnkfmfaaDoorPx9
import Derived.Test.YtmpaipbpnkfmfaaDoorPure
import Derived.Test.YtmpaipbpnkfmfaaDoorPx26
import Derived.Test.YtmpaipbpnkfmfaaDoorPx27
namespace Go.Proofs.YtmpaipbpnkfmfaaDoor.CutPure
open Go.RowKit Go.Proofs.YtmpaipbpnkfmfaaDoor.P Go.Proofs.YtmpaipbpnkfmfaaDoorW.PrintWords Go.Proofs.YtmpaipbpnkfmfaaDoorW.PrintLast Go.Proofs.YtmpaipbpnkfmfaaDoor.Br
open Go.Proofs.YtmpaipbpnkfmfaaDoor

theorem rsmall_eq (c : Int) : hearsayref04_small.f c = some (Tk.sm c) := small_eq c
theorem rgreat_eq (c : Int) : hearsayref04_great.f c = some (Tk.gr c) := great_eq c
theorem rdigit_eq (c : Int) : hearsayref04_digit.f c = some (Tk.dg c) := digit_eq c

theorem rhex_eq (c : Int) (hc : 0 ≤ c ∧ c ≤ 255) (k : Nat) : hearsayref04_hex.f (k + 1) c = some (Tk.hx c) := by
  unfold hearsayref04_hex.f Tk.hx
  rw [rdigit_eq, Option.bind_some]
  by_cases h1 : Tk.dg c = true
  · rw [if_pos h1, if_pos h1]
    rw [Tk.dg_iff] at h1
    congr 1
    omega
  · rw [if_neg h1, if_neg h1]
    by_cases h2 : 97 ≤ c ∧ c ≤ 102
    · rw [if_pos h2, if_pos h2.1, hearsayref04_hex.j0, if_pos (decide_eq_true h2.2)]
      congr 1
      omega
    · rw [if_neg h2]
      have j : ∀ b, b = false → hearsayref04_hex.j0 (k + 1) c b = some (if 65 ≤ c ∧ c ≤ 70 then c - 55 else -1) := by
        intro b hb
        rw [hb, hearsayref04_hex.j0, if_neg (by simp)]
        by_cases h3 : c ≥ 65
        · rw [if_pos h3]
          by_cases h4 : c ≤ 70
          · rw [if_pos h4, if_pos ⟨h3, h4⟩]
            congr 1
            omega
          · rw [if_neg h4, if_neg (by omega)]
        · rw [if_neg h3, if_neg (by omega)]
      by_cases h5 : c ≥ 97
      · rw [if_pos h5]
        exact j _ (decide_eq_false (by omega))
      · rw [if_neg h5]
        exact j _ rfl

theorem wr1 (i : Nat) (j : Int) (n : Nat) (hj : j = (n : Int)) (h : i + n ≤ 4611686018427387904) : wrap64 ((i : Int) + j) = ((i + n : Nat) : Int) := by rw [hj]; unfold wrap64; omega

/-- what stands behind a backslash at i -/
theorem resc_f (s : ByteArray) (hs : s.size ≤ 1099511627776) (i : Nat) (hi : i < s.size) (k : Nat) :
    hearsayref04_escape.f (k + 3) s (i : Int) = some ((Tk.esc ((bs s).drop (i + 1))).1, if (Tk.esc ((bs s).drop (i + 1))).2 = 0 then 0 else ((Tk.esc ((bs s).drop (i + 1))).2 : Int) + 1) := by
  have e1 := wr1 i 1 1 rfl (by omega)
  have e2 := wr1 i 2 2 rfl (by omega)
  have e3 := wr1 i 3 3 rfl (by omega)
  have gt : ∀ j : Nat, j < s.size → 0 ≤ bt s (j : Int) ∧ bt s (j : Int) ≤ 255 := fun j hj => bs_bytes s _ (List.mem_of_mem_drop (i := j) (by rw [bs_drop s j hj]; simp))
  unfold hearsayref04_escape.f
  rw [e1]
  by_cases h1 : i + 1 < s.size
  case neg =>
    rw [if_pos (by omega), bs_drop_all s (i + 1) (by omega)]
    rfl
  have d1 := bs_drop s (i + 1) h1
  rw [if_neg (by omega), if_pos (by omega), if_pos (by omega), d1]
  have g1 := gt (i + 1) h1
  have J0 : ∀ b, b = decide (bt s ((i + 1 : Nat) : Int) = 34 ∨ bt s ((i + 1 : Nat) : Int) = 92) → hearsayref04_escape.j0 (k + 3) s (i : Int) (bt s ((i + 1 : Nat) : Int)) b =
      some ((Tk.esc (bt s ((i + 1 : Nat) : Int) :: (bs s).drop (i + 1 + 1))).1, if (Tk.esc (bt s ((i + 1 : Nat) : Int) :: (bs s).drop (i + 1 + 1))).2 = 0 then 0 else ((Tk.esc (bt s ((i + 1 : Nat) : Int) :: (bs s).drop (i + 1 + 1))).2 : Int) + 1) := by
    intro b hb
    rw [hb, hearsayref04_escape.j0, e1]
    generalize hcc : bt s ((i + 1 : Nat) : Int) = c at *
    by_cases c1 : c = 34 ∨ c = 92
    · have he : Tk.esc (c :: (bs s).drop (i + 1 + 1)) = (c, 1) := by simp only [Tk.esc, if_pos c1]
      rw [he, if_pos (decide_eq_true c1), if_pos (by omega), if_pos (by omega)]
      rfl
    · rw [if_neg (by simpa using c1)]
      by_cases c2 : c = 110
      · have he : Tk.esc (c :: (bs s).drop (i + 1 + 1)) = (10, 1) := by rw [c2]; rfl
        rw [he, if_pos c2]
        rfl
      · rw [if_neg c2]
        by_cases c3 : c = 116
        · have he : Tk.esc (c :: (bs s).drop (i + 1 + 1)) = (9, 1) := by rw [c3]; rfl
          rw [he, if_pos c3]
          rfl
        · rw [if_neg c3]
          by_cases c4 : c = 120
          · rw [if_pos c4, e2, e3]
            subst c4
            have hz : ∀ r : List Int, (∀ a b x, r ≠ a :: b :: x) → Tk.esc (120 :: r) = (0, 0) := by
              intro r hr
              cases r with
              | nil => rfl
              | cons a r =>
                cases r with
                | nil => rfl
                | cons b r => exact absurd rfl (hr a b r)
            by_cases h3 : i + 3 < s.size
            · have d2 := bs_drop s (i + 2) (by omega)
              have d3 := bs_drop s (i + 3) h3
              have g2 := gt (i + 2) (by omega)
              have g3 := gt (i + 3) h3
              rw [show i + 1 + 1 = i + 2 by omega, d2, show i + 2 + 1 = i + 3 by omega, d3]
              rw [if_pos (by omega), if_pos (by omega), if_pos (by omega), rhex_eq _ g2, Option.bind_some]
              generalize ha : bt s ((i + 2 : Nat) : Int) = a at *
              generalize hb3 : bt s ((i + 3 : Nat) : Int) = b3 at *
              have J1 : ∀ q, hearsayref04_escape.j1 (k + 2) s (i : Int) q = if q = true then some ((wrap64 ((wrap64 (16 * Tk.hx a)) + Tk.hx b3)) % 256, 4) else some (0, 0) := by
                intro q
                rw [hearsayref04_escape.j1, e2, e3]
                by_cases hq : q = true
                · rw [if_pos hq, if_pos hq, if_pos (by omega), if_pos (by omega), ha, rhex_eq _ g2, Option.bind_some, if_pos (by omega), if_pos (by omega), hb3, rhex_eq _ g3, Option.bind_some]
                · rw [if_neg hq, if_neg hq]
              have hh : ∀ y, Tk.esc (120 :: a :: b3 :: y) = if 0 ≤ Tk.hx a ∧ 0 ≤ Tk.hx b3 then (16 * Tk.hx a + Tk.hx b3, 3) else (0, 0) := by
                intro y
                simp only [Tk.esc]
                rw [if_neg (by decide), if_neg (by decide), if_neg (by decide), if_pos trivial]
              rw [hh]
              have b1 := Tk.hx_bd a
              have b2 := Tk.hx_bd b3
              by_cases h4 : Tk.hx a ≥ 0
              · rw [if_pos h4, if_pos (by omega), rhex_eq _ g3, Option.bind_some, J1]
                by_cases h5 : Tk.hx b3 ≥ 0
                · rw [if_pos (decide_eq_true h5), if_pos ⟨h4, h5⟩]
                  have : wrap64 (wrap64 (16 * Tk.hx a) + Tk.hx b3) % 256 = 16 * Tk.hx a + Tk.hx b3 := by unfold wrap64; omega
                  rw [this]
                  rfl
                · rw [if_neg (by simpa using h5), if_neg (by omega)]
                  rfl
              · rw [if_neg h4, J1, if_neg (by simp), if_neg (by omega)]
                rfl
            · rw [if_neg (by omega), hz _ (by
                intro a b x e
                have := congrArg List.length e
                rw [List.length_drop, bs_length] at this
                simp at this
                omega)]
              have J1 : hearsayref04_escape.j1 (k + 2) s (i : Int) false = some (0, 0) := by rw [hearsayref04_escape.j1, if_neg (by simp)]
              rw [J1]
              rfl
          · rw [if_neg c4]
            have he : Tk.esc (c :: (bs s).drop (i + 1 + 1)) = (0, 0) := by
              simp only [Tk.esc]
              rw [if_neg c1, if_neg c2, if_neg c3, if_neg c4]
            rw [he]
            rfl
  by_cases h34 : bt s ((i + 1 : Nat) : Int) = 34
  · rw [if_pos h34]
    exact J0 _ (by rw [h34]; rfl)
  · rw [if_neg h34]
    refine J0 _ ?_
    generalize bt s ((i + 1 : Nat) : Int) = c at *
    by_cases h92 : c = 92
    · rw [h92]; rfl
    · simp [h34, h92]

theorem rrun_ev (s : ByteArray) (hs : s.size ≤ 1099511627776) : ∀ (d i : Nat), i ≤ s.size → s.size - i ≤ d → Ev (fun k => hearsayref04_run.l0 k s (i : Int)) (((i + (Tk.run ((bs s).drop i)).length : Nat)) : Int) := by
  intro d
  induction d with
  | zero =>
    intro i hi hd
    refine ⟨1, fun k hk => ?_⟩
    obtain ⟨k, rfl⟩ : ∃ m, k = m + 1 := ⟨k - 1, by omega⟩
    show hearsayref04_run.l0 (k + 1) s (i : Int) = _
    rw [hearsayref04_run.l0, if_neg (by omega), bs_drop_all s i (by omega)]
    rfl
  | succ d ih =>
    intro i hi hd
    rcases Nat.lt_or_ge i s.size with hi2 | hi2
    case inr => exact ih i hi (by omega)
    have hdr := bs_drop s i hi2
    rw [hdr]
    obtain ⟨K, hK⟩ := ih (i + 1) (by omega) (by omega)
    generalize hc : bt s (i : Int) = c at *
    refine ⟨K + 1, fun k hk => ?_⟩
    obtain ⟨k, rfl⟩ : ∃ m, k = m + 1 := ⟨k - 1, by omega⟩
    have h : hearsayref04_run.l0 k s ((i + 1 : Nat) : Int) = _ := hK k (by omega)
    show hearsayref04_run.l0 (k + 1) s (i : Int) = _
    rw [hearsayref04_run.l0, if_pos (by omega), if_pos (by omega), hc, rsmall_eq, Option.bind_some, next_ i (by omega), h, rgreat_eq, rdigit_eq]
    simp only [Option.bind_some]
    have hr : Tk.rn c = (Tk.sm c || Tk.gr c || Tk.dg c) := rfl
    have yes : Tk.rn c = true → (some (((i + 1 + (Tk.run ((bs s).drop (i + 1))).length : Nat)) : Int)) = some (((i + (Tk.run (c :: (bs s).drop (i + 1))).length : Nat)) : Int) := by
      intro hy
      simp only [Tk.run, hy, if_true, List.length_cons]
      congr 2
      omega
    by_cases h1 : Tk.sm c = true
    · rw [if_pos h1]; exact yes (by rw [hr, h1]; rfl)
    · rw [if_neg h1]
      by_cases h2 : Tk.gr c = true
      · rw [if_pos h2]; exact yes (by rw [hr, h2]; simp)
      · rw [if_neg h2]
        by_cases h3 : Tk.dg c = true
        · rw [if_pos h3]; exact yes (by rw [hr, h3]; simp)
        · rw [if_neg h3]
          have hn : Tk.rn c = false := by rw [hr]; simp [h1, h2, h3]
          simp [Tk.run, hn]
theorem rrun_f (s : ByteArray) (hs : s.size ≤ 1099511627776) (i : Nat) (hi : i ≤ s.size) : Ev (fun k => hearsayref04_run.f k s (i : Int)) (((i + (Tk.run ((bs s).drop i)).length : Nat)) : Int) :=
  rrun_ev s hs s.size i hi (by omega)

end Go.Proofs.YtmpaipbpnkfmfaaDoor.CutPure

namespace Go.Proofs.YtmpaipbpnkfmfaaDoor.CutPure
open Go.RowKit Go.Proofs.YtmpaipbpnkfmfaaDoor.P Go.Proofs.YtmpaipbpnkfmfaaDoorW.PrintWords Go.Proofs.YtmpaipbpnkfmfaaDoorW.PrintLast Go.Proofs.YtmpaipbpnkfmfaaDoor.Br
open Go.Proofs.YtmpaipbpnkfmfaaDoor

theorem rquoted_ev (s : ByteArray) (a : Int) (hs : s.size ≤ 1099511627776) : ∀ (d i : Nat) (acc : List Int), i ≤ s.size → s.size - i ≤ d → acc.length ≤ i →
    Ev (fun k => hearsayref04_quoted.l0 k s a acc (i : Int)) (encQ a acc i (Tk.quot 0 ((bs s).drop i))) := by
  intro d
  induction d with
  | zero =>
    intro i acc hi hd hl
    rw [bs_drop_all s i (by omega)]
    refine ⟨2, fun k hk => ?_⟩
    obtain ⟨k, rfl⟩ : ∃ m, k = m + 2 := ⟨k - 2, by omega⟩
    show hearsayref04_quoted.l0 (k + 2) s a acc (i : Int) = _
    rw [hearsayref04_quoted.l0, if_neg (by omega), hearsayref04_quoted.j1, if_neg (by simp), if_pos (by omega)]
    rfl
  | succ d ih =>
    intro i acc hi hd hl
    rcases Nat.lt_or_ge i s.size with hi2 | hi2
    case inr => exact ih i acc hi (by omega) hl
    have hdr := bs_drop s i hi2
    rw [hdr]
    have hesc := resc_f s hs i hi2
    generalize hc : bt s (i : Int) = c at *
    simp only [Tk.quot]
    by_cases h1 : c = 34
    · rw [if_pos h1]
      refine ⟨2, fun k hk => ?_⟩
      obtain ⟨k, rfl⟩ : ∃ m, k = m + 2 := ⟨k - 2, by omega⟩
      show hearsayref04_quoted.l0 (k + 2) s a acc (i : Int) = _
      rw [hearsayref04_quoted.l0, if_pos (by omega), if_pos (by omega), hc, hearsayref04_quoted.j1, if_neg (by rw [h1]; simp), if_neg (by omega), next_ i (by omega)]
      simp only [encQ, List.append_nil]
    · rw [if_neg h1]
      have enter : ∀ k, hearsayref04_quoted.l0 (k + 2) s a acc (i : Int) = if c < 32 then hearsayref04_quoted.j2 k s a acc (i : Int) true else hearsayref04_quoted.j2 k s a acc (i : Int) (c == 127) := by
        intro k
        rw [hearsayref04_quoted.l0, if_pos (by omega), if_pos (by omega), hc, hearsayref04_quoted.j1, if_pos (by simpa using h1), if_pos (by omega), if_pos (by omega), hc]
      by_cases h2 : c = 92
      · rw [if_pos h2]
        have enter2 : ∀ k, hearsayref04_quoted.l0 (k + 3) s a acc (i : Int) = (hearsayref04_escape.f k s (i : Int)).bind fun bt237 => (if bt237.2 = 0 then (some (0, (⟨#[]⟩ : ByteArray), 0, 0, 0, 44, (i : Int))) else (if acc.length < 140737488355328 then (hearsayref04_quoted.l0 k s a (acc ++ [bt237.1]) (wrap64 ((i : Int) + bt237.2))) else (none))) := by
          intro k
          rw [show k + 3 = (k + 1) + 2 by omega, enter, if_neg (by omega)]
          have h127 : (c == 127) = false := by rw [h2]; rfl
          rw [h127, hearsayref04_quoted.j2, if_neg (by simp), if_pos (by omega), if_pos (by omega), hc, if_pos h2]
        have hle := Tk.esc_le ((bs s).drop (i + 1))
        rw [List.length_drop, bs_length] at hle
        have h3 := Tk.esc_le3 ((bs s).drop (i + 1))
        by_cases h0 : (Tk.esc ((bs s).drop (i + 1))).2 = 0
        · rw [if_pos h0]
          refine ⟨6, fun k hk => ?_⟩
          obtain ⟨k, rfl⟩ : ∃ m, k = m + 3 + 3 := ⟨k - 6, by omega⟩
          show hearsayref04_quoted.l0 (k + 3 + 3) s a acc (i : Int) = _
          rw [enter2, hesc, Option.bind_some, if_pos (by simp only; rw [if_pos h0])]
          rfl
        · rw [if_neg h0, encQ_adv, encQ_put, Tk.quot_far _ _ (by rw [List.length_drop, bs_length]; omega), encQ_far, List.drop_drop]
          obtain ⟨K, hK⟩ := ih (i + 1 + (Tk.esc ((bs s).drop (i + 1))).2) (acc ++ [(Tk.esc ((bs s).drop (i + 1))).1]) (by omega) (by omega) (by rw [List.length_append, List.length_singleton]; omega)
          generalize hn : (Tk.esc ((bs s).drop (i + 1))).2 = n at *
          generalize hm : (Tk.esc ((bs s).drop (i + 1))).1 = m at *
          refine ⟨K + 6, fun k hk => ?_⟩
          obtain ⟨k, rfl⟩ : ∃ m, k = m + 3 + 3 := ⟨k - 6, by omega⟩
          have h : hearsayref04_quoted.l0 (k + 3) s a (acc ++ [m]) ((i + 1 + n : Nat) : Int) = _ := hK (k + 3) (by omega)
          show hearsayref04_quoted.l0 (k + 3 + 3) s a acc (i : Int) = _
          rw [enter2, hesc, Option.bind_some]
          dsimp only
          rw [if_neg h0, if_neg (by omega), if_pos (by omega), wr1 i _ (n + 1) (by omega) (by omega), show i + (n + 1) = i + 1 + n by omega]
          exact h
      · rw [if_neg h2]
        by_cases h3 : c < 32 ∨ c = 127
        · rw [if_pos h3]
          refine ⟨3, fun k hk => ?_⟩
          obtain ⟨k, rfl⟩ : ∃ m, k = m + 1 + 2 := ⟨k - 3, by omega⟩
          show hearsayref04_quoted.l0 (k + 1 + 2) s a acc (i : Int) = _
          have hj : hearsayref04_quoted.j2 (k + 1) s a acc (i : Int) true = some (0, (⟨#[]⟩ : ByteArray), 0, 0, 0, 44, (i : Int)) := by rw [hearsayref04_quoted.j2, if_pos rfl]
          rw [enter]
          by_cases h4 : c < 32
          · rw [if_pos h4, hj]; rfl
          · rw [if_neg h4, show (c == 127) = true by rw [beq_iff_eq]; omega, hj]; rfl
        · rw [if_neg h3, encQ_adv, encQ_put]
          obtain ⟨K, hK⟩ := ih (i + 1) (acc ++ [c]) (by omega) (by omega) (by rw [List.length_append, List.length_singleton]; omega)
          refine ⟨K + 3, fun k hk => ?_⟩
          obtain ⟨k, rfl⟩ : ∃ m, k = m + 1 + 2 := ⟨k - 3, by omega⟩
          have h : hearsayref04_quoted.l0 k s a (acc ++ [c]) ((i + 1 : Nat) : Int) = _ := hK k (by omega)
          show hearsayref04_quoted.l0 (k + 1 + 2) s a acc (i : Int) = _
          rw [enter, if_neg (by omega), show (c == 127) = false by rw [beq_eq_false_iff_ne]; omega, hearsayref04_quoted.j2, if_neg (by simp), if_pos (by omega), if_pos (by omega), hc, if_neg h2, if_pos (by omega), next_ i (by omega)]
          exact h
theorem rquoted_f (s : ByteArray) (a : Nat) (hs : s.size ≤ 1099511627776) (ha : a < s.size) : Ev (fun k => hearsayref04_quoted.f k s (a : Int)) (encQ (a : Int) [] (a + 1) (Tk.quot 0 ((bs s).drop (a + 1)))) := by
  obtain ⟨K, hK⟩ := rquoted_ev s (a : Int) hs s.size (a + 1) [] (by omega) (by omega) (by simp)
  refine ⟨K, fun k hk => ?_⟩
  show hearsayref04_quoted.f k s (a : Int) = _
  unfold hearsayref04_quoted.f
  rw [next_ a (by omega)]
  exact hK k hk

/-! ### Number -/
theorem rnum_ev (s : ByteArray) (hs : s.size ≤ 19) (minus : Bool) : ∀ (d i v : Nat), i ≤ s.size → s.size - i ≤ d → v < 10 ^ i →
    Ev (fun k => hearsayref04_Number.l0 k s minus (v : Int) (i : Int)) (if Tk.alld ((bs s).drop i) = true then
      (if minus = true then (if Tk.val v ((bs s).drop i) > 9223372036854775808 then (0, false) else (-(Tk.val v ((bs s).drop i) : Int), true))
        else (wrap64 (Tk.val v ((bs s).drop i) : Int), decide ((Tk.val v ((bs s).drop i) : Int) ≤ 9223372036854775807))) else (0, false)) := by
  intro d
  induction d with
  | zero =>
    intro i v hi hd hv
    have hp : 10 ^ i ≤ 10 ^ 19 := Nat.pow_le_pow_right (by omega) (by omega)
    have h19 : (10 : Nat) ^ 19 = 10000000000000000000 := by decide
    refine ⟨1, fun k hk => ?_⟩
    obtain ⟨k, rfl⟩ : ∃ m, k = m + 1 := ⟨k - 1, by omega⟩
    show hearsayref04_Number.l0 (k + 1) s minus (v : Int) (i : Int) = _
    rw [hearsayref04_Number.l0, if_neg (by omega), bs_drop_all s i (by omega)]
    rw [show Tk.val v ([] : List Int) = v from rfl, if_pos (show Tk.alld ([] : List Int) = true from rfl)]
    cases minus with
    | true =>
      rw [if_pos rfl, if_pos rfl]
      by_cases h : v > 9223372036854775808
      · rw [if_pos (by omega), if_pos h]
      · rw [if_neg (by omega), if_neg h]
        have : wrap64 (IntKind.u64.wrap (-(v : Int))) = -(v : Int) := by
          rw [IntKind.wrap_u64]
          unfold wrap64
          omega
        rw [this]
    | false =>
      rw [if_neg (by simp), if_neg (by simp)]
  | succ d ih =>
    intro i v hi hd hv
    rcases Nat.lt_or_ge i s.size with hi2 | hi2
    case inr => exact ih i v hi (by omega) hv
    have hp : 10 ^ i ≤ 10 ^ 18 := Nat.pow_le_pow_right (by omega) (by omega)
    have h18 : (10 : Nat) ^ 18 = 1000000000000000000 := by decide
    have hp1 : (10 : Nat) ^ (i + 1) = 10 ^ i * 10 := Nat.pow_succ 10 i
    have hdr := bs_drop s i hi2
    have hcb : 0 ≤ bt s (i : Int) ∧ bt s (i : Int) ≤ 255 := bs_bytes s _ (List.mem_of_mem_drop (i := i) (by rw [hdr]; simp))
    rw [hdr]
    generalize hc : bt s (i : Int) = c at *
    by_cases hdg : Tk.dg c = true
    · have hdg' := hdg
      rw [Tk.dg_iff] at hdg'
      have hv' : 10 * v + (c - 48).toNat < 10 ^ (i + 1) := by rw [hp1]; omega
      obtain ⟨K, hK⟩ := ih (i + 1) (10 * v + (c - 48).toNat) (by omega) (by omega) hv'
      refine ⟨K + 1, fun k hk => ?_⟩
      obtain ⟨k, rfl⟩ : ∃ m, k = m + 1 := ⟨k - 1, by omega⟩
      have h : hearsayref04_Number.l0 k s minus ((10 * v + (c - 48).toNat : Nat) : Int) ((i + 1 : Nat) : Int) = _ := hK k (by omega)
      have hw : IntKind.u64.wrap (IntKind.u64.wrap (10 * (v : Int)) + (c - 48) % 256) = ((10 * v + (c - 48).toNat : Nat) : Int) := by
        rw [IntKind.wrap_u64, IntKind.wrap_u64]
        omega
      show hearsayref04_Number.l0 (k + 1) s minus (v : Int) (i : Int) = _
      rw [hearsayref04_Number.l0, if_pos (by omega), if_pos (by omega), hc, rdigit_eq, Option.bind_some, if_pos hdg, hw, next_ i (by omega), h]
      have ea : Tk.alld (c :: (bs s).drop (i + 1)) = Tk.alld ((bs s).drop (i + 1)) := by simp [Tk.alld, hdg]
      have ev : Tk.val v (c :: (bs s).drop (i + 1)) = Tk.val (10 * v + (c - 48).toNat) ((bs s).drop (i + 1)) := rfl
      rw [ea, ev]
    · refine ⟨1, fun k hk => ?_⟩
      obtain ⟨k, rfl⟩ : ∃ m, k = m + 1 := ⟨k - 1, by omega⟩
      show hearsayref04_Number.l0 (k + 1) s minus (v : Int) (i : Int) = _
      rw [hearsayref04_Number.l0, if_pos (by omega), if_pos (by omega), hc, rdigit_eq, Option.bind_some, if_neg hdg]
      have : Tk.alld (c :: (bs s).drop (i + 1)) = false := by simp [Tk.alld, hdg]
      rw [this]
      rfl

theorem val_ge : ∀ (l : List Int) (a : Nat), a * 10 ^ l.length ≤ Tk.val a l := by
  intro l
  induction l with
  | nil => intro a; simp [Tk.val]
  | cons c r ih =>
    intro a
    simp only [Tk.val, List.length_cons]
    have h1 := ih (10 * a + (c - 48).toNat)
    have h2 : a * 10 ^ (r.length + 1) = (10 * a) * 10 ^ r.length := by rw [Nat.pow_succ 10 r.length, Nat.mul_comm (10 ^ r.length) 10, ← Nat.mul_assoc, Nat.mul_comm a 10]
    have h3 : (10 * a) * 10 ^ r.length ≤ (10 * a + (c - 48).toNat) * 10 ^ r.length := Nat.mul_le_mul_right _ (by omega)
    omega

def numres (minus : Bool) (o : Option Nat) (r : Int × Bool) : Prop :=
  match o with
  | none => r.2 = false
  | some v => if minus = true then (if v ≤ 9223372036854775808 then r = (-(v : Int), true) else r.2 = false) else (if v ≤ 9223372036854775807 then r = ((v : Int), true) else r.2 = false)

theorem rnat_ev (t : ByteArray) (minus : Bool) : ∃ r, Ev (fun k => hearsayref04_Number.j1 k t minus) r ∧ numres minus (Tk.nat? (bs t)) r := by
  have bad : ∀ k, hearsayref04_Number.j2 (k + 1) t minus true = some (0, false) := fun k => by rw [hearsayref04_Number.j2, if_pos rfl]
  by_cases h0 : t.size < 1
  · refine ⟨(0, false), ⟨2, fun k hk => ?_⟩, ?_⟩
    · obtain ⟨k, rfl⟩ : ∃ m, k = m + 2 := ⟨k - 2, by omega⟩
      show hearsayref04_Number.j1 (k + 2) t minus = _
      rw [hearsayref04_Number.j1, if_pos (by omega), bad]
    · have e : bs t = [] := List.eq_nil_of_length_eq_zero (by rw [bs_length]; omega)
      rw [e]; rfl
  · have hd := bs_drop t 0 (by omega)
    rw [List.drop_zero] at hd
    have hz : (((0 : Nat)) : Int) = 0 := rfl
    rw [hz] at hd
    generalize hc : bt t 0 = c at *
    have hr : ((bs t).drop (0 + 1)).length = t.size - 1 := by rw [List.length_drop, bs_length]
    generalize hrr : (bs t).drop (0 + 1) = r0 at *
    rw [hd]
    by_cases h1 : t.size > 19
    · refine ⟨(0, false), ⟨2, fun k hk => ?_⟩, ?_⟩
      · obtain ⟨k, rfl⟩ : ∃ m, k = m + 2 := ⟨k - 2, by omega⟩
        show hearsayref04_Number.j1 (k + 2) t minus = _
        rw [hearsayref04_Number.j1, if_neg (by omega), if_pos (by omega), bad]
      · unfold Tk.nat?
        by_cases h48 : c = 48
        · simp only [if_pos h48]; rfl
        · simp only [if_neg h48]
          by_cases ha : (Tk.dg c && Tk.alld r0) = true
          · rw [if_pos ha]
            have hdg : Tk.dg c = true := by simp only [Bool.and_eq_true] at ha; exact ha.1
            rw [Tk.dg_iff] at hdg
            have hv : 10000000000000000000 ≤ Tk.val 0 (c :: r0) := by
              simp only [Tk.val]
              have g1 := val_ge r0 (10 * 0 + (c - 48).toNat)
              have g2 : 1 * 10 ^ r0.length ≤ (10 * 0 + (c - 48).toNat) * 10 ^ r0.length := Nat.mul_le_mul_right _ (by omega)
              have g3 : 10 ^ 19 ≤ 10 ^ r0.length := Nat.pow_le_pow_right (by omega) (by omega)
              have g4 : (10 : Nat) ^ 19 = 10000000000000000000 := by decide
              omega
            simp only [numres]
            cases minus with
            | true => rw [if_pos rfl, if_neg (by omega)]; trivial
            | false => rw [if_neg (by simp), if_neg (by omega)]; trivial
          · rw [if_neg ha]; rfl
    · obtain ⟨K, hK⟩ := rnum_ev t (by omega) minus t.size 0 0 (by omega) (by omega) (by simp)
      rw [List.drop_zero, hd] at hK
      by_cases h48 : c = 48
      · refine ⟨(0, false), ⟨2, fun k hk => ?_⟩, ?_⟩
        · obtain ⟨k, rfl⟩ : ∃ m, k = m + 2 := ⟨k - 2, by omega⟩
          show hearsayref04_Number.j1 (k + 2) t minus = _
          rw [hearsayref04_Number.j1, if_neg (by omega), if_neg (by omega), if_pos (by omega), hc, show (c == 48) = true by rw [beq_iff_eq]; exact h48, bad]
        · unfold Tk.nat?
          simp only [if_pos h48]; rfl
      · have hEv : Ev (fun k => hearsayref04_Number.j1 k t minus) (if Tk.alld (c :: r0) = true then
            (if minus = true then (if Tk.val 0 (c :: r0) > 9223372036854775808 then (0, false) else (-(Tk.val 0 (c :: r0) : Int), true))
              else (wrap64 (Tk.val 0 (c :: r0) : Int), decide ((Tk.val 0 (c :: r0) : Int) ≤ 9223372036854775807))) else (0, false)) := by
          refine ⟨K + 2, fun k hk => ?_⟩
          obtain ⟨k, rfl⟩ : ∃ m, k = m + 2 := ⟨k - 2, by omega⟩
          have h : hearsayref04_Number.l0 k t minus ((0 : Nat) : Int) ((0 : Nat) : Int) = _ := hK k (by omega)
          show hearsayref04_Number.j1 (k + 2) t minus = _
          rw [hearsayref04_Number.j1, if_neg (by omega), if_neg (by omega), if_pos (by omega), hc, show (c == 48) = false by rw [beq_eq_false_iff_ne]; exact h48, hearsayref04_Number.j2, if_neg (by simp)]
          exact h
        refine ⟨_, hEv, ?_⟩
        · unfold Tk.nat?
          simp only [if_neg h48]
          have hal : Tk.alld (c :: r0) = (Tk.dg c && Tk.alld r0) := rfl
          rw [hal]
          by_cases ha : (Tk.dg c && Tk.alld r0) = true
          · rw [if_pos ha, if_pos ha]
            generalize Tk.val 0 (c :: r0) = v
            simp only [numres]
            cases minus with
            | true =>
              simp only [if_true]
              by_cases h : v ≤ 9223372036854775808
              · simp only [if_pos h, if_neg (show ¬ v > 9223372036854775808 by omega)]
              · simp only [if_neg h, if_pos (show v > 9223372036854775808 by omega)]
            | false =>
              simp only [Bool.false_eq_true, if_false]
              by_cases h : v ≤ 9223372036854775807
              · rw [if_pos h, w64 (by omega), decide_eq_true (by omega)]
              · rw [if_neg h]
                exact decide_eq_false (by omega)
          · rw [if_neg ha, if_neg ha]; rfl

theorem rNumber_f (s : ByteArray) : ∃ r, Ev (fun k => hearsayref04_Number.f k s) r ∧ (match Tk.num (bs s) with | some n => r = (n, true) | none => r.2 = false) := by
  have h48 : s.toList = ([48] : List UInt8) ↔ bs s = [48] := toList_lit s [48]
  by_cases h0 : bs s = [48]
  · refine ⟨(0, true), ⟨0, fun k _ => ?_⟩, ?_⟩
    · show hearsayref04_Number.f k s = _
      unfold hearsayref04_Number.f
      rw [if_pos (h48.2 h0)]
    · rw [h0]; rfl
  · have ent : ∀ k, hearsayref04_Number.f k s = if (s.size : Int) > 0 then hearsayref04_Number.j0 k s ((bt s 0) == 45) else hearsayref04_Number.j0 k s false := by
      intro k
      unfold hearsayref04_Number.f
      rw [if_neg (fun h => h0 (h48.1 h))]
      by_cases h : (s.size : Int) > 0
      · rw [if_pos h, if_pos h, if_pos h]
      · rw [if_neg h, if_neg h]
    by_cases hs : s.size = 0
    · have e : bs s = [] := List.eq_nil_of_length_eq_zero (by rw [bs_length]; exact hs)
      obtain ⟨r, ⟨K, hK⟩, hr⟩ := rnat_ev s false
      refine ⟨r, ⟨K + 1, fun k hk => ?_⟩, ?_⟩
      · obtain ⟨k, rfl⟩ : ∃ m, k = m + 1 := ⟨k - 1, by omega⟩
        have h : hearsayref04_Number.j1 k s false = _ := hK k (by omega)
        show hearsayref04_Number.f (k + 1) s = _
        rw [ent, if_neg (by omega), hearsayref04_Number.j0, if_neg (by simp)]
        exact h
      · rw [e] at hr ⊢
        exact hr
    · have hd := bs_drop s 0 (by omega)
      rw [List.drop_zero] at hd
      have hz : (((0 : Nat)) : Int) = 0 := rfl
      rw [hz] at hd
      have hex : bs (s.extract 1 s.size) = (bs s).drop 1 := by rw [bs_extract]; exact List.take_of_length_le (by rw [List.length_drop, bs_length]; omega)
      generalize hc : bt s 0 = c at *
      unfold Tk.num
      rw [if_neg h0]
      by_cases h45 : c = 45
      · obtain ⟨r, ⟨K, hK⟩, hr⟩ := rnat_ev (s.extract 1 s.size) true
        rw [hex] at hr
        refine ⟨r, ⟨K + 1, fun k hk => ?_⟩, ?_⟩
        · obtain ⟨k, rfl⟩ : ∃ m, k = m + 1 := ⟨k - 1, by omega⟩
          have h : hearsayref04_Number.j1 k (s.extract 1 s.size) true = _ := hK k (by omega)
          show hearsayref04_Number.f (k + 1) s = _
          rw [ent, if_pos (by omega), show (c == 45) = true by rw [beq_iff_eq]; exact h45, hearsayref04_Number.j0, if_pos rfl, if_pos (by omega)]
          exact h
        · rw [hd]
          simp only [if_pos h45]
          rw [show (0 + 1 : Nat) = 1 from rfl]
          cases hn : Tk.nat? ((bs s).drop 1) with
          | none => rw [hn] at hr; exact hr
          | some v =>
            rw [hn] at hr
            simp only [numres, if_true] at hr
            dsimp only
            by_cases hv : v ≤ 9223372036854775808
            · rw [if_pos hv] at hr ⊢
              exact hr
            · rw [if_neg hv] at hr ⊢
              exact hr
      · obtain ⟨r, ⟨K, hK⟩, hr⟩ := rnat_ev s false
        refine ⟨r, ⟨K + 1, fun k hk => ?_⟩, ?_⟩
        · obtain ⟨k, rfl⟩ : ∃ m, k = m + 1 := ⟨k - 1, by omega⟩
          have h : hearsayref04_Number.j1 k s false = _ := hK k (by omega)
          show hearsayref04_Number.f (k + 1) s = _
          rw [ent, if_pos (by omega), show (c == 45) = false by rw [beq_eq_false_iff_ne]; exact h45, hearsayref04_Number.j0, if_neg (by simp)]
          exact h
        · rw [hd] at hr ⊢
          simp only [if_neg h45]
          cases hn : Tk.nat? (c :: (bs s).drop (0 + 1)) with
          | none => rw [hn] at hr; exact hr
          | some v =>
            rw [hn] at hr
            simp only [numres] at hr
            rw [if_neg (by simp)] at hr
            dsimp only
            by_cases hv : v ≤ 9223372036854775807
            · rw [if_pos hv] at hr ⊢
              exact hr
            · rw [if_neg hv] at hr ⊢
              exact hr

end Go.Proofs.YtmpaipbpnkfmfaaDoor.CutPure

namespace Go.Proofs.YtmpaipbpnkfmfaaDoor.CutPure
open Go.RowKit Go.Proofs.YtmpaipbpnkfmfaaDoor.P Go.Proofs.YtmpaipbpnkfmfaaDoorW.PrintWords Go.Proofs.YtmpaipbpnkfmfaaDoorW.PrintLast Go.Proofs.YtmpaipbpnkfmfaaDoor.Br
open Go.Proofs.YtmpaipbpnkfmfaaDoor

abbrev TV := Int × ByteArray × Int × Int × Int × Int × Int
/-- the loop over the signs from the place j on, as it answers -/
def sgv (c : Int) (r : List Int) (a : Nat) : List (List Int × Int) → TV
  | [] => (0, ⟨#[]⟩, 0, 0, 0, 42, (a : Int))
  | (g, q) :: t => if (c :: r).take g.length = g then (q, ⟨#[]⟩, 0, (a : Int), (a : Int) + (g.length : Int), 0, 0) else sgv c r a t
def sgl : List (List Int × Int) := [([58, 45], 11), ([33, 61], 14), ([60, 61], 16), ([40], 6), ([41], 7), ([44], 8), ([59], 9), ([46], 10), ([63], 12), ([61], 13), ([60], 15)]

theorem sgv_enc (c : Int) (r : List Int) (a : Nat) : Enc (a : Int) (sgv c r a sgl) (Tk.signs c r) := by
  cases r with
  | nil =>
    by_cases e1 : c = 40
    · subst e1; exact rfl
    · by_cases e2 : c = 41
      · subst e2; exact rfl
      · by_cases e3 : c = 44
        · subst e3; exact rfl
        · by_cases e4 : c = 59
          · subst e4; exact rfl
          · by_cases e5 : c = 46
            · subst e5; exact rfl
            · by_cases e6 : c = 63
              · subst e6; exact rfl
              · by_cases e7 : c = 61
                · subst e7; exact rfl
                · by_cases e8 : c = 60
                  · subst e8; exact rfl
                  · have : Tk.signs c [] = .bad 42 0 := by simp [Tk.signs, Tk.sign1, e1, e2, e3, e4, e5, e6, e7, e8]
                    rw [this]
                    simp [sgl, sgv, Enc, e1, e2, e3, e4, e5, e6, e7, e8]
  | cons d x =>
    by_cases d1 : c = 58 ∧ d = 45
    · obtain ⟨rfl, rfl⟩ := d1; exact rfl
    · by_cases d2 : c = 33 ∧ d = 61
      · obtain ⟨rfl, rfl⟩ := d2; exact rfl
      · by_cases d3 : c = 60 ∧ d = 61
        · obtain ⟨rfl, rfl⟩ := d3; exact rfl
        · have h2 : Tk.sign2 c d = 0 := by unfold Tk.sign2; rw [if_neg d1, if_neg d2, if_neg d3]
          have hs : Tk.signs c (d :: x) = if Tk.sign1 c ≠ 0 then .tok (Tk.sign1 c) [] 0 1 else .bad 42 0 := by
            simp only [Tk.signs]
            rw [if_neg (by rw [h2]; simp)]
          have t2 : sgv c (d :: x) a sgl = sgv c (d :: x) a (sgl.drop 3) := by
            have z1 : ¬ (c :: d :: x).take ([58, 45] : List Int).length = [58, 45] := by simpa using d1
            have z2 : ¬ (c :: d :: x).take ([33, 61] : List Int).length = [33, 61] := by simpa using d2
            have z3 : ¬ (c :: d :: x).take ([60, 61] : List Int).length = [60, 61] := by simpa using d3
            show sgv c (d :: x) a (([58, 45], 11) :: ([33, 61], 14) :: ([60, 61], 16) :: sgl.drop 3) = _
            rw [sgv, if_neg z1, sgv, if_neg z2, sgv, if_neg z3]
          rw [hs, t2]
          by_cases e1 : c = 40
          · subst e1; exact rfl
          · by_cases e2 : c = 41
            · subst e2; exact rfl
            · by_cases e3 : c = 44
              · subst e3; exact rfl
              · by_cases e4 : c = 59
                · subst e4; exact rfl
                · by_cases e5 : c = 46
                  · subst e5; exact rfl
                  · by_cases e6 : c = 63
                    · subst e6; exact rfl
                    · by_cases e7 : c = 61
                      · subst e7; exact rfl
                      · by_cases e8 : c = 60
                        · subst e8; exact rfl
                        · have : Tk.sign1 c = 0 := by simp [Tk.sign1, e1, e2, e3, e4, e5, e6, e7, e8]
                          rw [if_neg (by rw [this]; simp)]
                          simp [sgl, sgv, Enc, e1, e2, e3, e4, e5, e6, e7, e8]

/-- one round of the signs' loop -/
theorem sg_round (s : ByteArray) (hs : s.size ≤ 1099511627776) (a : Nat) (c : Int) (r : List Int) (h : (bs s).drop a = c :: r) (ha : a < s.size) (j : Nat) (hj : j < 11) (sg : ByteArray) (g : List Int) (q : Int) (hsg : rdOf ByteArray.empty lg0 (j : Int) = sg) (hg : bs sg = g) (hq : rd lg1 (j : Int) = q) (hl : sg.size ≤ 2) (k : Nat) :
    hearsayref04_one.l0 (k + 1) s (a : Int) (j : Int) = if (c :: r).take g.length = g then some (q, (⟨#[]⟩ : ByteArray), 0, (a : Int), (a : Int) + (g.length : Int), 0, 0) else hearsayref04_one.l0 k s (a : Int) ((j + 1 : Nat) : Int) := by
  have hgl : g.length = sg.size := by rw [← hg, bs_length]
  have hlen : r.length + 1 = s.size - a := by
    have := congrArg List.length h
    rw [List.length_drop, bs_length, List.length_cons] at this
    omega
  have l0 : lg0.length = 11 := rfl
  have l1 : lg1.length = 11 := rfl
  rw [hearsayref04_one.l0, if_pos (by omega), if_pos (by omega), if_pos (by rw [l0]; omega), hsg, hq, wr1 a _ sg.size rfl (by omega), next_ j (by omega)]
  by_cases hfit : a + sg.size ≤ s.size
  · rw [if_pos (by omega), if_pos (by omega), if_pos (by omega), Int.toNat_natCast, Int.toNat_natCast]
    have hsub : bs (s.extract a (a + sg.size)) = (c :: r).take g.length := by rw [sub_at s a sg.size _ h, hgl]
    have hiff : ((s.extract a (a + sg.size)).toList = sg.toList) ↔ (c :: r).take g.length = g := by rw [toList_iff, hsub, hg]
    by_cases hm : (c :: r).take g.length = g
    · rw [if_pos (hiff.2 hm), if_pos hm, if_pos (by rw [l1]; omega), ca_, hgl]
    · rw [if_neg (fun x => hm (hiff.1 x)), if_neg hm]
  · rw [if_neg (by omega)]
    have hm : ¬ (c :: r).take g.length = g := by
      intro x
      have := congrArg List.length x
      rw [List.length_take, List.length_cons] at this
      omega
    rw [if_neg hm]

theorem sg_all (s : ByteArray) (hs : s.size ≤ 1099511627776) (a : Nat) (c : Int) (r : List Int) (h : (bs s).drop a = c :: r) (ha : a < s.size) (k : Nat) : hearsayref04_one.l0 (k + 12) s (a : Int) 0 = some (sgv c r a sgl) := by
  have R := fun j hj sg g q h1 h2 h3 h4 k => sg_round s hs a c r h ha j hj sg g q h1 h2 h3 h4 k
  have e : ∀ (P : Prop) [Decidable P] (x y : TV), (if P then some x else some y) = some (if P then x else y) := by
    intro P _ x y
    by_cases hp : P
    · rw [if_pos hp, if_pos hp]
    · rw [if_neg hp, if_neg hp]
  have last : hearsayref04_one.l0 (k + 1) s (a : Int) ((10 + 1 : Nat) : Int) = some (0, (⟨#[]⟩ : ByteArray), 0, 0, 0, 42, (a : Int)) := by
    rw [hearsayref04_one.l0, if_neg (by omega)]
  have z : (0 : Int) = ((0 : Nat) : Int) := rfl
  rw [z, R 0 (by decide) ⟨#[58, 45]⟩ [58, 45] 11 rfl rfl rfl (by decide) (k + 11), R 1 (by decide) ⟨#[33, 61]⟩ [33, 61] 14 rfl rfl rfl (by decide) (k + 10), R 2 (by decide) ⟨#[60, 61]⟩ [60, 61] 16 rfl rfl rfl (by decide) (k + 9),
    R 3 (by decide) ⟨#[40]⟩ [40] 6 rfl rfl rfl (by decide) (k + 8), R 4 (by decide) ⟨#[41]⟩ [41] 7 rfl rfl rfl (by decide) (k + 7), R 5 (by decide) ⟨#[44]⟩ [44] 8 rfl rfl rfl (by decide) (k + 6), R 6 (by decide) ⟨#[59]⟩ [59] 9 rfl rfl rfl (by decide) (k + 5),
    R 7 (by decide) ⟨#[46]⟩ [46] 10 rfl rfl rfl (by decide) (k + 4), R 8 (by decide) ⟨#[63]⟩ [63] 12 rfl rfl rfl (by decide) (k + 3), R 9 (by decide) ⟨#[61]⟩ [61] 13 rfl rfl rfl (by decide) (k + 2), R 10 (by decide) ⟨#[60]⟩ [60] 15 rfl rfl rfl (by decide) (k + 1), last]
  simp only [e]
  rfl

theorem one_ev (s : ByteArray) (hs : s.size ≤ 1099511627776) (a : Nat) (c : Int) (r : List Int) (h : (bs s).drop a = c :: r) : ∃ v, Ev (fun k => hearsayref04_one.f k s (a : Int)) v ∧ Enc (a : Int) v (Tk.lex c r) := by
  obtain ⟨he, ha, hl, hb0⟩ := run_at s a c r h
  have hb : bt s (a : Int) = c := by
    have := bs_drop s a ha
    rw [h] at this
    exact (List.cons.inj this).1.symm
  have hd1 : (bs s).drop (a + 1) = r := by
    have := congrArg List.tail h
    simpa using this
  have hrl := Tk.run_le r
  have nat1 : ((a : Int)).toNat = a := Int.toNat_natCast _
  obtain ⟨Kr, hKr⟩ := rrun_f s hs a (by omega)
  rw [h] at hKr
  obtain ⟨Ks, hKs⟩ := rrun_f s hs (a + 1) (by omega)
  rw [hd1] at hKs
  have sub1 : bs (s.extract a (a + ((Tk.run r).length + 1))) = c :: Tk.run r := by
    rw [sub_at s a _ _ h, List.take_succ_cons, Tk.run_take]
  have runrn : Tk.rn c = true → (Tk.run (c :: r)).length = (Tk.run r).length + 1 := by
    intro hr; simp [Tk.run, hr]
  -- how it begins
  have base : ∀ k, Kr ≤ k → hearsayref04_one.f k s (a : Int) = (if Tk.sm c = true then hearsayref04_one.j0 k s (a : Int) c ((a + ((Tk.run r).length + 1) : Nat) : Int) (decide (c :: Tk.run r = Tk.says)) else hearsayref04_one.j0 k s (a : Int) c ((a + (Tk.run (c :: r)).length : Nat) : Int) false) := by
    intro k hk
    have hKk : hearsayref04_run.f k s (a : Int) = _ := hKr k hk
    unfold hearsayref04_one.f
    rw [if_pos (by omega), if_pos (by omega), hKk, Option.bind_some, hb, rsmall_eq, Option.bind_some]
    by_cases h1 : Tk.sm c = true
    · rw [if_pos h1, if_pos h1, runrn (by simp [Tk.rn, h1]), if_pos (by omega), if_pos (by omega), nat1, Int.toNat_natCast]
      congr 1
      have := beq_toList (s.extract a (a + ((Tk.run r).length + 1))) ⟨#[115, 97, 121, 115]⟩
      rw [sub1] at this
      have e2 : (⟨#[115, 97, 121, 115]⟩ : ByteArray).toList = ([115, 97, 121, 115] : List UInt8) := (toList_lit _ _).2 rfl
      rw [e2] at this
      rw [this]
      rfl
    · rw [if_neg h1, if_neg h1]
  have h0 : ∀ (k : Nat) (e : Int) (b : Bool), hearsayref04_one.j0 (k + 1) s (a : Int) c e b = if b = true then (some (5, (⟨#[]⟩ : ByteArray), 0, (a : Int), e, 0, 0)) else if Tk.sm c = true then (if 0 ≤ (a : Int) then (if (a : Int) ≤ e then (if e ≤ (s.size : Int) then (some (1, s.extract ((a : Int)).toNat (e : Int).toNat, 0, (a : Int), e, 0, 0)) else (none)) else (none)) else (none))
      else if Tk.gr c = true then (if 0 ≤ (a : Int) then (if (a : Int) ≤ e then (if e ≤ (s.size : Int) then (some (2, s.extract ((a : Int)).toNat (e : Int).toNat, 0, (a : Int), e, 0, 0)) else (none)) else (none)) else (none))
      else if Tk.dg c = true then hearsayref04_one.j1 k s (a : Int) c e true else hearsayref04_one.j1 k s (a : Int) c e (c == 45) := by
    intro k e b
    rw [hearsayref04_one.j0, rsmall_eq, rgreat_eq, rdigit_eq]
    simp only [Option.bind_some]
  have wc : ((a + ((Tk.run r).length + 1) : Nat) : Int) = (a : Int) + (((Tk.run r).length + 1 : Nat) : Int) := ca_ _ _
  simp only [Tk.lex]
  by_cases h1 : Tk.sm c = true
  · simp only [if_pos h1] at base h0
    rw [if_pos h1]
    by_cases hsay : c :: Tk.run r = Tk.says
    · rw [if_pos hsay]
      refine ⟨_, ⟨Kr + 1, fun k hk => ?_⟩, rfl⟩
      obtain ⟨k, rfl⟩ : ∃ m, k = m + 1 := ⟨k - 1, by omega⟩
      show hearsayref04_one.f (k + 1) s (a : Int) = _
      have : (Tk.run r).length = 3 := by have := congrArg List.length hsay; simpa [Tk.says] using this
      rw [base (k + 1) (by omega), h0, if_pos (decide_eq_true hsay), wc, this]
      rfl
    · rw [if_neg hsay]
      refine ⟨_, ⟨Kr + 1, fun k hk => ?_⟩, rfl⟩
      obtain ⟨k, rfl⟩ : ∃ m, k = m + 1 := ⟨k - 1, by omega⟩
      show hearsayref04_one.f (k + 1) s (a : Int) = _
      rw [base (k + 1) (by omega), h0, if_neg (by simpa using hsay), if_pos (by omega), if_pos (by omega), if_pos (by omega), nat1, Int.toNat_natCast, str_of sub1, wc]
  · simp only [if_neg h1] at base h0
    rw [if_neg h1]
    by_cases h2 : Tk.gr c = true
    · simp only [if_pos h2] at h0
      rw [if_pos h2]
      refine ⟨_, ⟨Kr + 1, fun k hk => ?_⟩, rfl⟩
      obtain ⟨k, rfl⟩ : ∃ m, k = m + 1 := ⟨k - 1, by omega⟩
      show hearsayref04_one.f (k + 1) s (a : Int) = _
      rw [base (k + 1) (by omega), runrn (by simp [Tk.rn, h2]), h0, if_neg (by simp), if_pos (by omega), if_pos (by omega), if_pos (by omega), nat1, Int.toNat_natCast, str_of sub1, wc]
    · simp only [if_neg h2] at h0
      rw [if_neg h2]
      have hj1 : ∀ (k : Nat) (e : Int), hearsayref04_one.j0 (k + 1) s (a : Int) c e false = hearsayref04_one.j1 k s (a : Int) c e (decide (Tk.dg c = true ∨ c = 45)) := by
        intro k e
        rw [h0, if_neg (by simp)]
        by_cases h3 : Tk.dg c = true
        · rw [if_pos h3, decide_eq_true (Or.inl h3)]
        · rw [if_neg h3]
          congr 1
          by_cases h45 : c = 45 <;> simp [h3, h45]
      by_cases h3 : Tk.dg c = true ∨ c = 45
      · rw [if_pos h3]
        obtain ⟨v, ⟨Kn, hKn⟩, hm⟩ := rNumber_f (s.extract a (a + ((Tk.run r).length + 1)))
        rw [sub1] at hm
        have step : ∀ k, Kr + Ks + Kn ≤ k → hearsayref04_one.f (k + 2) s (a : Int) = if v.2 = true then (some (4, (⟨#[]⟩ : ByteArray), v.1, (a : Int), ((a + ((Tk.run r).length + 1) : Nat) : Int), 0, 0)) else (some (0, (⟨#[]⟩ : ByteArray), 0, 0, 0, 45, (a : Int))) := by
          intro k hk
          have hKnk : hearsayref04_Number.f k (s.extract a (a + ((Tk.run r).length + 1))) = _ := hKn k (by omega)
          have hKsk : hearsayref04_run.f k s ((a + 1 : Nat) : Int) = _ := hKs k (by omega)
          rw [base (k + 2) (by omega), hj1, hearsayref04_one.j1, if_pos (decide_eq_true h3)]
          by_cases h45 : c = 45
          · rw [if_pos h45, next_ a (by omega), hKsk, Option.bind_some, show a + 1 + (Tk.run r).length = a + ((Tk.run r).length + 1) by omega, if_pos (by omega), if_pos (by omega), if_pos (by omega), nat1, Int.toNat_natCast, hKnk, Option.bind_some]
          · have hdg : Tk.dg c = true := by rcases h3 with h | h; exact h; exact absurd h h45
            rw [if_neg h45, runrn (by simp [Tk.rn, hdg]), if_pos (by omega), if_pos (by omega), if_pos (by omega), nat1, Int.toNat_natCast, hKnk, Option.bind_some]
        cases hn : Tk.num (c :: Tk.run r) with
        | some n =>
          rw [hn] at hm
          obtain rfl : v = (n, true) := hm
          refine ⟨_, ⟨Kr + Ks + Kn + 2, fun k hk => ?_⟩, rfl⟩
          obtain ⟨k, rfl⟩ : ∃ m, k = m + 2 := ⟨k - 2, by omega⟩
          show hearsayref04_one.f (k + 2) s (a : Int) = _
          rw [step k (by omega), if_pos rfl, wc]
          rfl
        | none =>
          rw [hn] at hm
          have hv2 : v.2 = false := hm
          refine ⟨(0, (⟨#[]⟩ : ByteArray), 0, 0, 0, 45, (a : Int)), ⟨Kr + Ks + Kn + 2, fun k hk => ?_⟩, by simp [Enc]⟩
          obtain ⟨k, rfl⟩ : ∃ m, k = m + 2 := ⟨k - 2, by omega⟩
          show hearsayref04_one.f (k + 2) s (a : Int) = _
          rw [step k (by omega), if_neg (by rw [hv2]; simp)]
      · rw [if_neg h3]
        by_cases h4 : c = 34
        · rw [if_pos h4]
          obtain ⟨K, hK⟩ := rquoted_f s a hs ha
          rw [hd1] at hK
          have step : ∀ k, Kr + K ≤ k → hearsayref04_one.f (k + 2) s (a : Int) = some (encQ (a : Int) [] (a + 1) (Tk.quot 0 r)) := by
            intro k hk
            have hKk : hearsayref04_quoted.f k s (a : Int) = _ := hK k (by omega)
            rw [base (k + 2) (by omega), hj1, hearsayref04_one.j1, if_neg (by simpa using h3), if_pos h4, hKk, Option.bind_some]
          refine ⟨encQ (a : Int) [] (a + 1) (Tk.quot 0 r), ⟨Kr + K + 2, fun k hk => ?_⟩, ?_⟩
          · obtain ⟨k, rfl⟩ : ∃ m, k = m + 2 := ⟨k - 2, by omega⟩
            exact step k (by omega)
          · cases Tk.quot 0 r with
            | ok m n =>
              simp only [encQ, Enc, List.nil_append]
              rw [show ((a + 1 + n : Nat) : Int) = (a : Int) + ((n + 1 : Nat) : Int) by omega]
            | bad n =>
              simp only [encQ, Enc]
              rw [show ((a + 1 + n : Nat) : Int) = (a : Int) + ((n + 1 : Nat) : Int) by omega]
            | opn => simp [encQ, Enc]
        · rw [if_neg h4]
          refine ⟨sgv c r a sgl, ⟨Kr + 14, fun k hk => ?_⟩, ?_⟩
          · obtain ⟨k, rfl⟩ : ∃ m, k = m + 12 + 2 := ⟨k - 14, by omega⟩
            show hearsayref04_one.f (k + 12 + 2) s (a : Int) = _
            rw [base (k + 12 + 2) (by omega), hj1, hearsayref04_one.j1, if_neg (by simpa using h3), if_neg h4, sg_all s hs a c r h ha]
          · have := sgv_enc c r a
            revert this
            cases Tk.signs c r <;> exact id

/-! ### Cut -/
theorem rrem_ev (s : ByteArray) (hs : s.size ≤ 1099511627776) (acc : List S33) (i0 : Nat) (P : ∀ j : Nat, i0 ≤ j → j ≤ s.size → Ev (fun k => hearsayref04_Cut.l0 k s acc (j : Int)) (encC acc (Tk.cut 0 (j : Int) ((bs s).drop j)))) :
    ∀ (d j : Nat), i0 ≤ j → j ≤ s.size → s.size - j ≤ d → Ev (fun k => hearsayref04_Cut.l1 k s acc (j : Int)) (encC acc (Tk.cut 0 ((j + Tk.rem ((bs s).drop j) : Nat) : Int) ((bs s).drop (j + Tk.rem ((bs s).drop j))))) := by
  intro d
  induction d with
  | zero =>
    intro j h0 hj hd
    obtain ⟨K, hK⟩ := P j h0 hj
    refine ⟨K + 1, fun k hk => ?_⟩
    obtain ⟨k, rfl⟩ : ∃ m, k = m + 1 := ⟨k - 1, by omega⟩
    show hearsayref04_Cut.l1 (k + 1) s acc (j : Int) = _
    rw [hearsayref04_Cut.l1, if_neg (by omega)]
    have h := hK k (by omega)
    have e : Tk.rem ((bs s).drop j) = 0 := by rw [bs_drop_all s j (by omega)]; rfl
    rw [e]
    exact h
  | succ d ih =>
    intro j h0 hj hd
    rcases Nat.lt_or_ge j s.size with hj2 | hj2
    case inr => exact ih j h0 hj (by omega)
    by_cases h10 : bt s (j : Int) = 10
    · obtain ⟨K, hK⟩ := P j h0 hj
      refine ⟨K + 1, fun k hk => ?_⟩
      obtain ⟨k, rfl⟩ : ∃ m, k = m + 1 := ⟨k - 1, by omega⟩
      show hearsayref04_Cut.l1 (k + 1) s acc (j : Int) = _
      rw [hearsayref04_Cut.l1, if_pos (by omega), if_pos (by omega), if_pos h10]
      have h := hK k (by omega)
      have e : Tk.rem ((bs s).drop j) = 0 := by rw [bs_drop s j hj2]; simp only [Tk.rem]; rw [if_pos h10]
      rw [e]
      exact h
    · obtain ⟨K, hK⟩ := ih (j + 1) (by omega) (by omega) (by omega)
      refine ⟨K + 1, fun k hk => ?_⟩
      obtain ⟨k, rfl⟩ : ∃ m, k = m + 1 := ⟨k - 1, by omega⟩
      show hearsayref04_Cut.l1 (k + 1) s acc (j : Int) = _
      rw [hearsayref04_Cut.l1, if_pos (by omega), if_pos (by omega), if_neg h10, next_ j (by omega)]
      have h := hK k (by omega)
      have e : j + Tk.rem ((bs s).drop j) = j + 1 + Tk.rem ((bs s).drop (j + 1)) := by rw [bs_drop s j hj2]; simp only [Tk.rem]; rw [if_neg h10]; omega
      rw [e]
      exact h

theorem rcut_ev (s : ByteArray) (hs : s.size ≤ 1099511627776) : ∀ (d i : Nat) (acc : List S33), i ≤ s.size → s.size - i ≤ d → acc.length ≤ i →
    Ev (fun k => hearsayref04_Cut.l0 k s acc (i : Int)) (encC acc (Tk.cut 0 (i : Int) ((bs s).drop i))) := by
  intro d
  induction d with
  | zero =>
    intro i acc hi hd hl
    refine ⟨1, fun k hk => ?_⟩
    obtain ⟨k, rfl⟩ : ∃ m, k = m + 1 := ⟨k - 1, by omega⟩
    show hearsayref04_Cut.l0 (k + 1) s acc (i : Int) = _
    rw [hearsayref04_Cut.l0, if_neg (by omega), bs_drop_all s i (by omega), Tk.cut_nil]
    simp [encC]
  | succ d ih =>
    intro i acc hi hd hl
    rcases Nat.lt_or_ge i s.size with hi2 | hi2
    case inr => exact ih i acc hi (by omega) hl
    have hdr := bs_drop s i hi2
    have hlr : ((bs s).drop (i + 1)).length = s.size - (i + 1) := by rw [List.length_drop, bs_length]
    have hj : ∀ k, hearsayref04_Cut.l0 (k + 1) s acc (i : Int) = hearsayref04_Cut.j1 k s acc (i : Int) (bt s (i : Int)) (Tk.bl (bt s (i : Int))) := by
      intro k
      rw [hearsayref04_Cut.l0, if_pos (by omega), if_pos (by omega)]
      unfold Tk.bl
      generalize bt s (i : Int) = c
      by_cases a1 : c = 32
      · subst a1; rfl
      · rw [if_neg a1]
        by_cases a2 : c = 9
        · subst a2; rfl
        · rw [if_neg a2]
          by_cases a3 : c = 10
          · subst a3; rfl
          · rw [if_neg a3]
            congr 1
            rw [decide_eq_false a1, decide_eq_false a2, decide_eq_false a3, Bool.eq_iff_iff]
            simp
    by_cases hb : Tk.bl (bt s (i : Int)) = true
    · obtain ⟨K, hK⟩ := ih (i + 1) acc (by omega) (by omega) (by omega)
      refine ⟨K + 2, fun k hk => ?_⟩
      obtain ⟨k, rfl⟩ : ∃ m, k = m + 1 + 1 := ⟨k - 2, by omega⟩
      show hearsayref04_Cut.l0 (k + 1 + 1) s acc (i : Int) = _
      rw [hj, hearsayref04_Cut.j1, if_pos hb, next_ i (by omega), hdr, Tk.cut_bl _ hb]
      exact hK k (by omega)
    · replace hb : Tk.bl (bt s (i : Int)) = false := by simpa using hb
      by_cases h37 : bt s (i : Int) = 37
      · have hr := rrem_ev s hs acc (i + 1) (fun j h1 h2 => ih j acc h2 (by omega) (by omega)) s.size (i + 1) (Nat.le_refl _) (by omega) (by omega)
        obtain ⟨K, hK⟩ := hr
        refine ⟨K + 3, fun k hk => ?_⟩
        obtain ⟨k, rfl⟩ : ∃ m, k = m + 1 + 1 + 1 := ⟨k - 3, by omega⟩
        show hearsayref04_Cut.l0 (k + 1 + 1 + 1) s acc (i : Int) = _
        rw [hj, hearsayref04_Cut.j1, if_neg (by rw [hb]; simp), if_pos h37, hearsayref04_Cut.l1, if_pos (by omega), if_pos (by omega), if_neg (by omega), next_ i (by omega)]
        have h := hK k (by omega)
        rw [hdr, h37, Tk.cut_rem, List.drop_drop]
        rw [show ((i : Int) + 1 + (Tk.rem ((bs s).drop (i + 1)) : Int)) = ((i + 1 + Tk.rem ((bs s).drop (i + 1)) : Nat) : Int) by omega]
        exact h
      · obtain ⟨v, ⟨K1, hK1⟩, hv⟩ := one_ev s hs i _ _ hdr
        cases hx : Tk.lex (bt s (i : Int)) ((bs s).drop (i + 1)) with
        | tok q t n len =>
          rw [hx] at hv
          obtain rfl : v = _ := hv
          have hlen := Tk.lex_len hx
          obtain ⟨K, hK⟩ := ih (i + len) (acc ++ [toS ⟨q, t, n, (i : Int), (i : Int) + (len : Int)⟩]) (by omega) (by omega) (by rw [List.length_append, List.length_singleton]; omega)
          refine ⟨K + K1 + 2, fun k hk => ?_⟩
          obtain ⟨k, rfl⟩ : ∃ m, k = m + 1 + 1 := ⟨k - 2, by omega⟩
          show hearsayref04_Cut.l0 (k + 1 + 1) s acc (i : Int) = _
          have h1 : hearsayref04_one.f k s (i : Int) = _ := hK1 k (by omega)
          rw [hj, hearsayref04_Cut.j1, if_neg (by rw [hb]; simp), if_neg h37, h1, Option.bind_some, if_pos rfl, if_pos (by omega), hdr, Tk.cut_tok _ hb h37 hx, encC_cons]
          have h : hearsayref04_Cut.l0 k s (acc ++ [toS ⟨q, t, n, (i : Int), (i : Int) + (len : Int)⟩]) ((i + len : Nat) : Int) = _ := hK k (by omega)
          rw [ca_ i len] at h
          rw [← hdr, List.drop_drop]
          exact h
        | bad e off =>
          rw [hx] at hv
          have hoff := Tk.lex_off hx
          refine ⟨K1 + 2, fun k hk => ?_⟩
          obtain ⟨k, rfl⟩ : ∃ m, k = m + 1 + 1 := ⟨k - 2, by omega⟩
          show hearsayref04_Cut.l0 (k + 1 + 1) s acc (i : Int) = _
          have h1 : hearsayref04_one.f k s (i : Int) = _ := hK1 k (by omega)
          have hv5 : v.2.2.2.2.2 = (e, (i : Int) + (off : Int)) := hv
          rw [hj, hearsayref04_Cut.j1, if_neg (by rw [hb]; simp), if_neg h37, h1, Option.bind_some, hv5, if_neg (show ¬ e = 0 by omega), hdr, Tk.cut_bad _ hb h37 hx]
          simp only [encC]
          rw [if_neg (show ¬ e = 0 by omega)]

theorem rCut_f (s : ByteArray) (most : Int) (hs : s.size ≤ 1099511627776) : Ev (fun k => hearsayref04_Cut.f k s most) (encC [] (Tk.Cut (bs s) most)) := by
  unfold hearsayref04_Cut.f Tk.Cut
  by_cases h : most < (s.size : Int)
  · rw [if_pos (by rw [bs_length]; exact h)]
    refine ⟨0, fun k _ => ?_⟩
    show (if _ then _ else _) = _
    rw [if_pos h]
    rfl
  · rw [if_neg (by rw [bs_length]; exact h)]
    obtain ⟨K, hK⟩ := rcut_ev s hs s.size 0 [] (by omega) (by omega) (by simp)
    refine ⟨K, fun k hk => ?_⟩
    show (if _ then _ else _) = _
    rw [if_neg h]
    exact hK k hk

end Go.Proofs.YtmpaipbpnkfmfaaDoor.CutPure
