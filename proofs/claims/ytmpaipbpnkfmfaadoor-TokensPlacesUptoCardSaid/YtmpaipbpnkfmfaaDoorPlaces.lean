/-
  PLAIN: TokensPlaces comes to true. Conditions: texts of at most 2^20 bytes.
-/
import Derived.Test.YtmpaipbpnkfmfaaDoorPx25
import Derived.Test.YtmpaipbpnkfmfaaDoorPure
import Derived.Test.YtmpaipbpnkfmfaaDoorTokA
namespace Go.Proofs.YtmpaipbpnkfmfaaDoor.CutPure
open Go.RowKit Go.Proofs.YtmpaipbpnkfmfaaDoor.P Go.Proofs.YtmpaipbpnkfmfaaDoorW.PrintWords Go.Proofs.YtmpaipbpnkfmfaaDoorW.PrintLast Go.Proofs.YtmpaipbpnkfmfaaDoor.Br
open Go.Proofs.YtmpaipbpnkfmfaaDoor

def gv (e : Bool) : Option Bool → Bool
  | none => false
  | some rm => if rm = true then e else true

theorem gap_ev (s : ByteArray) (e : Bool) (hs : s.size ≤ 1099511627776) : ∀ (d i : Nat) (rm : Bool), i ≤ s.size → s.size - i ≤ d → Ev (fun k => hearsaylaw04_gap.l0 k s e rm (i : Int)) (gv e (Tk.gp rm ((bs s).drop i))) := by
  intro d
  induction d with
  | zero =>
    intro i rm hi hd
    refine ⟨1, fun k hk => ?_⟩
    obtain ⟨k, rfl⟩ : ∃ m, k = m + 1 := ⟨k - 1, by omega⟩
    show hearsaylaw04_gap.l0 (k + 1) s e rm (i : Int) = _
    rw [hearsaylaw04_gap.l0, if_neg (by omega), bs_drop_all s i (by omega)]
    cases rm <;> simp [Tk.gp, gv]
  | succ d ih =>
    intro i rm hi hd
    rcases Nat.lt_or_ge i s.size with hi2 | hi2
    case inr => exact ih i rm hi (by omega)
    have hdr := bs_drop s i hi2
    rw [hdr]
    have ihn := fun rm => ih (i + 1) rm (by omega) (by omega)
    generalize hc : bt s (i : Int) = c at *
    have step : ∀ rm', Tk.gp rm (c :: (bs s).drop (i + 1)) = Tk.gp rm' ((bs s).drop (i + 1)) →
        (∀ k, hearsaylaw04_gap.l0 (k + 1) s e rm (i : Int) = hearsaylaw04_gap.l0 k s e rm' (wrap64 ((i : Int) + 1))) → Ev (fun k => hearsaylaw04_gap.l0 k s e rm (i : Int)) (gv e (Tk.gp rm (c :: (bs s).drop (i + 1)))) := by
      intro rm' h1 h2
      obtain ⟨K, hK⟩ := ihn rm'
      refine ⟨K + 1, fun k hk => ?_⟩
      obtain ⟨k, rfl⟩ : ∃ m, k = m + 1 := ⟨k - 1, by omega⟩
      have h : hearsaylaw04_gap.l0 k s e rm' ((i + 1 : Nat) : Int) = _ := hK k (by omega)
      show hearsaylaw04_gap.l0 (k + 1) s e rm (i : Int) = _
      rw [h2, next_ i (by omega), h, h1]
    cases rm with
    | true =>
      refine step (decide (c ≠ 10)) (by rw [Tk.gp, if_pos rfl]) (fun k => ?_)
      rw [hearsaylaw04_gap.l0, if_pos (by omega), if_pos (by omega), if_pos rfl, hc]
      congr 1
      by_cases h : c = 10 <;> simp [h]
    | false =>
      by_cases h1 : c = 37
      · refine step true (by rw [Tk.gp, if_neg (by simp), if_pos h1]) (fun k => ?_)
        rw [hearsaylaw04_gap.l0, if_pos (by omega), if_pos (by omega), if_neg (by simp), hc, if_pos h1]
      · by_cases h2 : Tk.bl c = true
        · refine step false (by rw [Tk.gp, if_neg (by simp), if_neg h1, if_pos h2]) (fun k => ?_)
          rw [hearsaylaw04_gap.l0, if_pos (by omega), if_pos (by omega), if_neg (by simp), hc, if_neg h1]
          simp only [Tk.bl, Bool.or_eq_true, decide_eq_true_eq] at h2
          by_cases e1 : c = 32
          · rw [if_pos e1]
          · rw [if_neg e1]
            by_cases e2 : c = 9
            · rw [if_pos e2]
            · rw [if_neg e2]
              by_cases e3 : c = 10
              · rw [if_pos e3]
              · rw [if_neg e3, if_pos (by omega)]
        · refine ⟨1, fun k hk => ?_⟩
          obtain ⟨k, rfl⟩ : ∃ m, k = m + 1 := ⟨k - 1, by omega⟩
          have hg : Tk.gp false (c :: (bs s).drop (i + 1)) = none := by rw [Tk.gp, if_neg (by simp), if_neg h1, if_neg h2]
          show hearsaylaw04_gap.l0 (k + 1) s e false (i : Int) = _
          rw [hg, hearsaylaw04_gap.l0, if_pos (by omega), if_pos (by omega), if_neg (by simp), hc, if_neg h1]
          simp only [Tk.bl, Bool.or_eq_true, decide_eq_true_eq] at h2
          rw [if_neg (by omega), if_neg (by omega), if_neg (by omega), if_neg (by omega)]
          rfl
theorem gap_f (s : ByteArray) (e : Bool) (hs : s.size ≤ 1099511627776) : Ev (fun k => hearsaylaw04_gap.f k s e) (gv e (Tk.gp false (bs s))) := by
  have h := gap_ev s e hs s.size 0 false (by omega) (by omega)
  rw [List.drop_zero] at h
  exact h

theorem places_ev (s : ByteArray) (hs : s.size ≤ 1048576) (l : List S33) (hl : l.length ≤ 1099511627776) : ∀ (rest : List Tk.Tok) (i a : Nat), l.drop i = rest.map toS → i ≤ l.length → a ≤ s.size → Tk.cut 0 (a : Int) ((bs s).drop a) = ⟨rest, 0, 0⟩ →
    Ev (fun k => hearsaylaw04_TokensPlaces.l0 k s l (a : Int) (i : Int)) true := by
  intro rest
  induction rest with
  | nil =>
    intro i a hd hi ha hc
    have hil : l.length ≤ i := by have := congrArg List.length hd; simp at this; omega
    have hb : ∃ b, Tk.gp false ((bs s).drop a) = some b := by
      rcases Tk.cut_step _ _ _ (Nat.le_refl _) _ _ hc with ⟨_, b, hb⟩ | ⟨_, _, _, _, _, _, _, _, h, _⟩
      · exact ⟨b, hb⟩
      · cases h
    obtain ⟨b, hb⟩ := hb
    obtain ⟨K, hK⟩ := gap_f (s.extract a s.size) true (by rw [ByteArray.size_extract]; omega)
    have he : bs (s.extract a s.size) = (bs s).drop a := by rw [bs_extract]; exact List.take_of_length_le (by rw [List.length_drop, bs_length]; omega)
    rw [he, hb] at hK
    refine ⟨K + 1, fun k hk => ?_⟩
    obtain ⟨k, rfl⟩ : ∃ m, k = m + 1 := ⟨k - 1, by omega⟩
    have h : hearsaylaw04_gap.f k (s.extract a s.size) true = _ := hK k (by omega)
    show hearsaylaw04_TokensPlaces.l0 (k + 1) s l (a : Int) (i : Int) = _
    rw [hearsaylaw04_TokensPlaces.l0, if_neg (by omega), if_pos (by omega), if_pos (by omega), Int.toNat_natCast, h, Option.bind_some]
    cases b <;> rfl
  | cons t rest' ih =>
    intro i a hd hi ha hc
    have hi2 : i < l.length := by
      rcases Nat.lt_or_ge i l.length with h | h
      · exact h
      · rw [List.drop_eq_nil_of_le h] at hd; simp at hd
    have hdr := rd_drop l i hi2
    rw [hd, List.map_cons] at hdr
    obtain ⟨hrd, hdn⟩ := List.cons.inj hdr
    rcases Tk.cut_step _ _ _ (Nat.le_refl _) _ _ hc with ⟨h, _⟩ | ⟨u, c, v, w, q, tt, x, L', e1, e2, e3, e4, e5⟩
    · cases h
    obtain ⟨rfl, rfl⟩ := List.cons.inj e1
    have hlen := congrArg List.length e2
    simp only [List.length_drop, bs_length, List.length_append, List.length_cons] at hlen
    have c1 : (a : Int) + (u.length : Int) = ((a + u.length : Nat) : Int) := by omega
    have c2 : ((a + u.length : Nat) : Int) + ((v.length + 1 : Nat) : Int) = ((a + u.length + (v.length + 1) : Nat) : Int) := by omega
    rw [c1, c2] at hrd e5
    have hdw : (bs s).drop (a + u.length + (v.length + 1)) = w := by
      rw [show a + u.length + (v.length + 1) = a + (u.length + (v.length + 1)) by omega, ← List.drop_drop, e2, ← List.append_assoc, List.drop_left' (by simp)]
    obtain ⟨K1, h1⟩ := ih (i + 1) (a + u.length + (v.length + 1)) hdn.symm (by omega) (by omega) (by rw [hdw]; exact e5)
    have hgu : bs (s.extract a (a + u.length)) = u := by rw [bs_extract, e2, show a + u.length - a = u.length by omega, List.take_left]
    have hsu : (s.extract a (a + u.length)).size = u.length := by rw [← bs_length, hgu]
    obtain ⟨K2, h2⟩ := gap_f (s.extract a (a + u.length)) false (by omega)
    rw [hgu, e3] at h2
    have hown : bs (s.extract (a + u.length) (a + u.length + (v.length + 1))) = c :: v := by
      rw [bs_extract, ← List.drop_drop, e2, List.drop_left, show a + u.length + (v.length + 1) - (a + u.length) = v.length + 1 by omega, List.take_left' (by simp)]
    have hso : (s.extract (a + u.length) (a + u.length + (v.length + 1))).size = v.length + 1 := by rw [← bs_length, hown, List.length_cons]
    obtain ⟨K3, h3⟩ := cutall (s.extract (a + u.length) (a + u.length + (v.length + 1))) (by omega)
    rw [hown, Tk.cut_own e4, encC_ok] at h3
    have hL : List.map toS [⟨q, tt, x, 0, 0 + ((v.length + 1 : Nat) : Int)⟩] = [(⟨q, strOfNums tt, x, 0, ((v.length + 1 : Nat) : Int)⟩ : S33)] := by simp [toS]
    rw [hL] at h3
    have hT : toS ⟨q, tt, x, ((a + u.length : Nat) : Int), ((a + u.length + (v.length + 1) : Nat) : Int)⟩ = (⟨q, strOfNums tt, x, ((a + u.length : Nat) : Int), ((a + u.length + (v.length + 1) : Nat) : Int)⟩ : S33) := rfl
    rw [hT] at hrd
    refine ⟨K1 + K2 + K3 + 2, fun k hk => ?_⟩
    obtain ⟨k, rfl⟩ : ∃ m, k = m + 2 := ⟨k - 2, by omega⟩
    have h1k : hearsaylaw04_TokensPlaces.l0 k s l ((a + u.length + (v.length + 1) : Nat) : Int) ((i + 1 : Nat) : Int) = _ := h1 k (by omega)
    have h2k : hearsaylaw04_gap.f (k + 1) (s.extract a (a + u.length)) false = _ := h2 (k + 1) (by omega)
    have h3k : tokens_Cut.f k (s.extract (a + u.length) (a + u.length + (v.length + 1))) ((s.extract (a + u.length) (a + u.length + (v.length + 1))).size : Int) = _ := h3 k (by omega)
    have hj : hearsaylaw04_TokensPlaces.j1 (k + 1) s l (i : Int) false q (strOfNums tt) x ((a + u.length : Nat) : Int) ((a + u.length + (v.length + 1) : Nat) : Int) = some true := by
      rw [hearsaylaw04_TokensPlaces.j1, if_neg (by simp), if_pos (by omega), if_pos (by omega), if_pos (by omega), Int.toNat_natCast, Int.toNat_natCast, h3k, Option.bind_some, if_pos rfl, if_pos (by simp), if_pos (by simp)]
      simp only [hearsaylaw04_bare.f, Option.bind_some]
      have hr0 : ∀ y : S33, rd_T33 [y] 0 = y := fun _ => rfl
      rw [hr0]
      dsimp only
      rw [if_neg (by simp), if_pos (by omega), if_pos (by rw [hso]), next_ i (by omega)]
      exact h1k
    show hearsaylaw04_TokensPlaces.l0 (k + 2) s l (a : Int) (i : Int) = _
    rw [hearsaylaw04_TokensPlaces.l0, if_pos (by omega), if_pos (by omega), ← hrd]
    dsimp only
    rw [if_neg (by omega), if_neg (by omega), if_neg (by omega), if_pos (by omega), if_pos (by omega), if_pos (by omega), Int.toNat_natCast, Int.toNat_natCast, h2k, Option.bind_some]
    exact hj

theorem places_f (s : ByteArray) (hs : s.size ≤ 1048576) : Ev (fun k => hearsaylaw04_TokensPlaces.f k s) true := by
  obtain ⟨K1, h1⟩ := cutall s (by omega)
  obtain ⟨K2, h2⟩ := head_f
  have g := good s
  by_cases he : (Tk.cut 0 0 (bs s)).e = 0
  · obtain ⟨L, hL⟩ := res_of s he
    rw [hL] at h1 g
    have gw := g.ws
    simp only at gw
    have hlw := len_wsum L
    obtain ⟨K3, h3⟩ := places_ev s hs (L.map toS) (by rw [List.length_map]; omega) L 0 0 rfl (by omega) (by omega) (by rw [List.drop_zero]; exact hL)
    refine ⟨K1 + K2 + K3, fun k hk => ?_⟩
    have h1k : tokens_Cut.f k s (s.size : Int) = _ := h1 k (by omega)
    have h2k : hearsaylaw04_head.f k = _ := h2 k (by omega)
    have h3k : hearsaylaw04_TokensPlaces.l0 k s (L.map toS) ((0 : Nat) : Int) ((0 : Nat) : Int) = _ := h3 k (by omega)
    show hearsaylaw04_TokensPlaces.f k s = _
    unfold hearsaylaw04_TokensPlaces.f
    rw [h1k, Option.bind_some, h2k, Option.bind_some, if_pos rfl, encC_ok, if_pos rfl]
    exact h3k
  · refine ⟨K1 + K2, fun k hk => ?_⟩
    have h1k : tokens_Cut.f k s (s.size : Int) = _ := h1 k (by omega)
    have h2k : hearsaylaw04_head.f k = _ := h2 k (by omega)
    show hearsaylaw04_TokensPlaces.f k s = _
    unfold hearsaylaw04_TokensPlaces.f
    rw [h1k, Option.bind_some, h2k, Option.bind_some, if_pos rfl]
    simp only [encC, if_neg he]

end Go.Proofs.YtmpaipbpnkfmfaaDoor.CutPure
