/-
  PLAIN: TokensCuts comes to true. Conditions: a text of at most 2^20 bytes, at most 2^20 numbers.
-/
import Derived.Test.YtmpaipbpnkfmfaaDoorPx28
import Derived.Test.YtmpaipbpnkfmfaaDoorRefC
namespace Go.Proofs.YtmpaipbpnkfmfaaDoor.CutPure
open Go.RowKit Go.Proofs.YtmpaipbpnkfmfaaDoor.P Go.Proofs.YtmpaipbpnkfmfaaDoorW.PrintWords Go.Proofs.YtmpaipbpnkfmfaaDoorW.PrintLast Go.Proofs.YtmpaipbpnkfmfaaDoor.Br
open Go.Proofs.YtmpaipbpnkfmfaaDoor

theorem csame_ev (l : List S33) (hs : l.length ≤ 1099511627776) : ∀ (d i : Nat), i ≤ l.length → l.length - i ≤ d → Ev (fun k => hearsaylaw04_same.l0 k l l (i : Int)) true := by
  intro d
  induction d with
  | zero =>
    intro i hi hd
    refine ⟨1, fun k hk => ?_⟩
    obtain ⟨k, rfl⟩ : ∃ m, k = m + 1 := ⟨k - 1, by omega⟩
    show hearsaylaw04_same.l0 (k + 1) l l (i : Int) = _
    rw [hearsaylaw04_same.l0, if_neg (by omega)]
  | succ d ih =>
    intro i hi hd
    rcases Nat.lt_or_ge i l.length with hi2 | hi2
    case inr => exact ih i hi (by omega)
    obtain ⟨K, hK⟩ := ih (i + 1) (by omega) (by omega)
    refine ⟨K + 1, fun k hk => ?_⟩
    obtain ⟨k, rfl⟩ : ∃ m, k = m + 1 := ⟨k - 1, by omega⟩
    have h : hearsaylaw04_same.l0 k l l ((i + 1 : Nat) : Int) = _ := hK k (by omega)
    show hearsaylaw04_same.l0 (k + 1) l l (i : Int) = _
    rw [hearsaylaw04_same.l0, if_pos (by omega), if_pos (by omega), if_pos (by omega), if_neg (by simp), next_ i (by omega)]
    exact h
theorem csame_f (l : List S33) (hs : l.length ≤ 1099511627776) : Ev (fun k => hearsaylaw04_same.f k l l) true := by
  obtain ⟨K, hK⟩ := csame_ev l hs l.length 0 (by omega) (by omega)
  refine ⟨K, fun k hk => ?_⟩
  show hearsaylaw04_same.f k l l = _
  unfold hearsaylaw04_same.f
  rw [if_pos rfl]
  exact hK k hk

theorem encC_len (s : ByteArray) (hs : s.size ≤ 1048576) (most : Int) : (encC [] (Tk.Cut (bs s) most)).1.length ≤ 1099511627776 := by
  unfold Tk.Cut encC
  by_cases h : most < ((bs s).length : Int)
  · rw [if_pos h]; simp
  · rw [if_neg h]
    have g := (good s).ws
    have := len_wsum (Tk.cut 0 0 (bs s)).l
    split
    · rw [List.nil_append, List.length_map]; omega
    · simp

/-- both cut a text alike -/
theorem both (s : ByteArray) (hs : s.size ≤ 1048576) (most : Int) : ∃ (R : List S33 × Int × Int) (K : Nat), ∀ k, K ≤ k → tokens_Cut.f k s most = some R ∧ hearsayref04_Cut.f k s most = some R ∧ hearsaylaw04_same.f k R.1 R.1 = some true := by
  obtain ⟨K1, h1⟩ := Cut_f s most (by omega)
  obtain ⟨K2, h2⟩ := rCut_f s most (by omega)
  obtain ⟨K3, h3⟩ := csame_f _ (encC_len s hs most)
  exact ⟨_, K1 + K2 + K3, fun k hk => ⟨h1 k (by omega), h2 k (by omega), h3 k (by omega)⟩⟩

theorem cuts_ev (s : ByteArray) (hs : s.size ≤ 1048576) (l : List Int) (hl : l.length ≤ 1048576) : ∀ (d i : Nat), i ≤ l.length → l.length - i ≤ d → Ev (fun k => hearsaylaw04_TokensCuts.l0 k s l (i : Int)) true := by
  intro d
  induction d with
  | zero =>
    intro i hi hd
    obtain ⟨K, hK⟩ := head_f
    refine ⟨K + 1, fun k hk => ?_⟩
    obtain ⟨k, rfl⟩ : ∃ m, k = m + 1 := ⟨k - 1, by omega⟩
    have h : hearsaylaw04_head.f k = _ := hK k (by omega)
    show hearsaylaw04_TokensCuts.l0 (k + 1) s l (i : Int) = _
    rw [hearsaylaw04_TokensCuts.l0, if_neg (by omega), h, Option.bind_some]
  | succ d ih =>
    intro i hi hd
    rcases Nat.lt_or_ge i l.length with hi2 | hi2
    case inr => exact ih i hi (by omega)
    obtain ⟨K, hK⟩ := ih (i + 1) (by omega) (by omega)
    have skip : ∀ k, K ≤ k → hearsaylaw04_TokensCuts.j2 (k + 1) s l (i : Int) true = some true := by
      intro k hk
      have h : hearsaylaw04_TokensCuts.l0 k s l ((i + 1 : Nat) : Int) = _ := hK k hk
      rw [hearsaylaw04_TokensCuts.j2, if_pos rfl, next_ i (by omega)]
      exact h
    generalize hx : rd l (i : Int) = x at *
    by_cases h0 : x < 0
    · refine ⟨K + 2, fun k hk => ?_⟩
      obtain ⟨k, rfl⟩ : ∃ m, k = m + 2 := ⟨k - 2, by omega⟩
      show hearsaylaw04_TokensCuts.l0 (k + 2) s l (i : Int) = _
      rw [hearsaylaw04_TokensCuts.l0, if_pos (by omega), if_pos (by omega), hx, if_pos h0]
      exact skip k (by omega)
    · by_cases h1 : x > (s.size : Int)
      · refine ⟨K + 2, fun k hk => ?_⟩
        obtain ⟨k, rfl⟩ : ∃ m, k = m + 2 := ⟨k - 2, by omega⟩
        show hearsaylaw04_TokensCuts.l0 (k + 2) s l (i : Int) = _
        rw [hearsaylaw04_TokensCuts.l0, if_pos (by omega), if_pos (by omega), hx, if_neg h0, decide_eq_true h1]
        exact skip k (by omega)
      · obtain ⟨R, K2, hb⟩ := both (s.extract 0 x.toNat) (by rw [ByteArray.size_extract]; omega) ((s.extract 0 x.toNat).size : Int)
        refine ⟨K + K2 + 2, fun k hk => ?_⟩
        obtain ⟨k, rfl⟩ : ∃ m, k = m + 2 := ⟨k - 2, by omega⟩
        obtain ⟨b1, b2, b3⟩ := hb k (by omega)
        have h : hearsaylaw04_TokensCuts.l0 k s l ((i + 1 : Nat) : Int) = _ := hK k (by omega)
        show hearsaylaw04_TokensCuts.l0 (k + 2) s l (i : Int) = _
        rw [hearsaylaw04_TokensCuts.l0, if_pos (by omega), if_pos (by omega), hx, if_neg h0, decide_eq_false h1, hearsaylaw04_TokensCuts.j2, if_neg (by simp), if_pos (by omega), if_pos (by omega), hx, if_pos (by omega), if_pos (by omega), b1, Option.bind_some, b2, Option.bind_some,
          if_neg (by simp), b3, Option.bind_some, if_pos rfl, next_ i (by omega)]
        exact h

theorem cuts_f (s : ByteArray) (most : Int) (l : List Int) (hs : s.size ≤ 1048576) (_ : (Lit.int .i64 most).wf = true) (_ : ∀ n ∈ l, (Lit.int .i64 n).wf = true) (hl : l.length ≤ 1048576) : Ev (fun k => hearsaylaw04_TokensCuts.f k s most l) true := by
  obtain ⟨R, K1, hb⟩ := both s hs most
  obtain ⟨K2, h2⟩ := cuts_ev s hs l hl l.length 0 (by omega) (by omega)
  refine ⟨K1 + K2 + 1, fun k hk => ?_⟩
  obtain ⟨k, rfl⟩ : ∃ m, k = m + 1 := ⟨k - 1, by omega⟩
  obtain ⟨b1, b2, b3⟩ := hb (k + 1) (by omega)
  have h : hearsaylaw04_TokensCuts.l0 k s l ((0 : Nat) : Int) = _ := h2 k (by omega)
  show hearsaylaw04_TokensCuts.f (k + 1) s most l = _
  unfold hearsaylaw04_TokensCuts.f
  rw [b1, Option.bind_some, b2, Option.bind_some, if_neg (by simp), b3, Option.bind_some]
  show hearsaylaw04_TokensCuts.j0 (k + 1) s l false = _
  rw [hearsaylaw04_TokensCuts.j0, if_neg (by simp)]
  exact h

end Go.Proofs.YtmpaipbpnkfmfaaDoor.CutPure
