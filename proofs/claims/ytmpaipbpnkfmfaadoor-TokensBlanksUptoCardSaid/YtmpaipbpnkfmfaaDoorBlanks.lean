/-
  PLAIN: TokensBlanks comes to true. Conditions: a list of bulk at most 2^20, at most 2^20 numbers.
-/
import Derived.Test.YtmpaipbpnkfmfaaDoorPx23
import Derived.Test.YtmpaipbpnkfmfaaDoorOpenP
import Derived.Test.YtmpaipbpnkfmfaaDoorTokA
namespace Go.Proofs.YtmpaipbpnkfmfaaDoor.CutPure
open Go.RowKit Go.Proofs.YtmpaipbpnkfmfaaDoor.P Go.Proofs.YtmpaipbpnkfmfaaDoorW.PrintWords Go.Proofs.YtmpaipbpnkfmfaaDoorW.PrintLast Go.Proofs.YtmpaipbpnkfmfaaDoor.Br
open Go.Proofs.YtmpaipbpnkfmfaaDoor

theorem same_ev (l : List S33) (hs : l.length ≤ 1099511627776) : ∀ (d i : Nat), i ≤ l.length → l.length - i ≤ d → Ev (fun k => hearsaylaw04_same.l0 k l l (i : Int)) true := by
  intro d
  induction d with
  | zero =>
    intro i hi hd
    refine ⟨1, fun k hk => ?_⟩
    obtain ⟨k, rfl⟩ : ∃ m, k = m + 1 := ⟨k - 1, by omega⟩
    show hearsaylaw04_same.l0 (k + 1) l l (i : Int) = _
    rw [hearsaylaw04_same.l0, if_neg (by omega)]
  | succ d ih =>
    intro i hi hd
    rcases Nat.lt_or_ge i l.length with hi2 | hi2
    case inr => exact ih i hi (by omega)
    obtain ⟨K, hK⟩ := ih (i + 1) (by omega) (by omega)
    refine ⟨K + 1, fun k hk => ?_⟩
    obtain ⟨k, rfl⟩ : ∃ m, k = m + 1 := ⟨k - 1, by omega⟩
    have h : hearsaylaw04_same.l0 k l l ((i + 1 : Nat) : Int) = _ := hK k (by omega)
    show hearsaylaw04_same.l0 (k + 1) l l (i : Int) = _
    rw [hearsaylaw04_same.l0, if_pos (by omega), if_pos (by omega), if_pos (by omega), if_neg (by simp), next_ i (by omega)]
    exact h
theorem same_f (l : List S33) (hs : l.length ≤ 1099511627776) : Ev (fun k => hearsaylaw04_same.f k l l) true := by
  obtain ⟨K, hK⟩ := same_ev l hs l.length 0 (by omega) (by omega)
  refine ⟨K, fun k hk => ?_⟩
  show hearsaylaw04_same.f k l l = _
  unfold hearsaylaw04_same.f
  rw [if_pos rfl]
  exact hK k hk

def fillS (a : Int) : ByteArray := if (Go.bits .and .i64 a 7) = 1 then (⟨#[9]⟩ : ByteArray) else (if (Go.bits .and .i64 a 7) = 2 then (⟨#[13, 10]⟩ : ByteArray) else (if (Go.bits .and .i64 a 7) = 3 then (⟨#[32, 37, 32, 40, 32, 34, 32, 115, 97, 121, 115, 10]⟩ : ByteArray) else (if (Go.bits .and .i64 a 7) = 4 then (⟨#[37, 10]⟩ : ByteArray) else (if (Go.bits .and .i64 a 7) = 5 then (⟨#[32, 32, 10, 32]⟩ : ByteArray) else (⟨#[32]⟩ : ByteArray)))))
theorem fill_eq (a : Int) : hearsaylaw04_fill.f a = some (fillS a) := by
  unfold hearsaylaw04_fill.f fillS
  repeat' split
  all_goals rfl
theorem fill_filler (a : Int) : Tk.filler (bs (fillS a)) ∧ (fillS a).size ≤ 12 := by
  unfold fillS
  split
  · exact ⟨.inl rfl, by decide⟩
  · split
    · exact ⟨.inr (.inl rfl), by decide⟩
    · split
      · exact ⟨.inr (.inr (.inl rfl)), by decide⟩
      · split
        · exact ⟨.inr (.inr (.inr (.inl rfl))), by decide⟩
        · split
          · exact ⟨.inr (.inr (.inr (.inr (.inl rfl)))), by decide⟩
          · exact ⟨.inr (.inr (.inr (.inr (.inr rfl)))), by decide⟩
/-- the number that chooses the filler at place i -/
def pick (l : List Int) (i : Nat) : Int := if (l.length : Int) > 0 then rd l (Int.tmod (i : Int) (l.length : Int)) else 0
def fs (l : List Int) (i : Nat) : List Int := bs (fillS (pick l i))

theorem bytesOf_bs (s : ByteArray) : bytesOf s = bs s := rfl
theorem toS_of (t : S33) (a e : Int) : toS ⟨(ofS t).k, (ofS t).t, (ofS t).n, a, e⟩ = ⟨t.f0, t.f1, t.f2, a, e⟩ := by
  unfold toS ofS
  simp only [str_bs]

theorem blanks_ev (l : List S33) (ok : ∀ t ∈ l, okS t) (hl : l.length ≤ 1048576) (how : List Int) (hh : how.length ≤ 1048576) (W : List S33) (R : List Tk.Tok) (T : List Int)
    (hc : Tk.cut 0 0 T = ⟨R, 0, 0⟩) (hW : R.map toS = W) :
    ∀ (d i : Nat) (acc : List Int) (want : List S33), i ≤ l.length → l.length - i ≤ d → Tk.bytes acc → acc.length + 2 * wt (l.drop i) ≤ 1099511627000 → want.length ≤ i →
    T = acc ++ ((Tk.blanks (fs how) i (acc.length : Int) ((l.drop i).map ofS)).1 ++ Tk.tail) → W = want ++ (Tk.blanks (fs how) i (acc.length : Int) ((l.drop i).map ofS)).2.map toS →
    Ev (fun k => hearsaylaw04_TokensBlanks.l0 k l how acc want (i : Int)) true := by
  intro d
  induction d with
  | zero =>
    intro i acc want hi hd hb hs hw hT hWw
    rw [List.drop_eq_nil_of_le (by omega)] at hT hWw hs
    simp only [List.map_nil, Tk.blanks, List.nil_append, List.append_nil] at hT hWw
    have hbt : Tk.bytes T := by
      rw [hT]
      intro c hcm
      rcases List.mem_append.1 hcm with h | h
      · exact hb c h
      · simp only [Tk.tail, List.mem_cons, List.not_mem_nil, or_false] at h; omega
    have hbs : bs (strOfNums T) = T := bs_str T hbt
    have hTl : T.length = acc.length + 10 := by rw [hT, List.length_append]; rfl
    obtain ⟨K1, h1⟩ := cutall (strOfNums T) (by rw [son_len]; omega)
    rw [hbs, hc, encC_ok, hW, hWw, son_len] at h1
    obtain ⟨K2, h2⟩ := same_f want (by omega)
    obtain ⟨K3, h3⟩ := head_f
    refine ⟨K1 + K2 + K3 + 1, fun k hk => ?_⟩
    obtain ⟨k, rfl⟩ : ∃ m, k = m + 1 := ⟨k - 1, by omega⟩
    have h1k : tokens_Cut.f k (strOfNums T) (T.length : Int) = _ := h1 k (by omega)
    have h2k : hearsaylaw04_same.f k want want = _ := h2 k (by omega)
    have h3k : hearsaylaw04_head.f k = _ := h3 k (by omega)
    show hearsaylaw04_TokensBlanks.l0 (k + 1) l how acc want (i : Int) = _
    have hTT : acc ++ bytesOf (⟨#[32, 37, 32, 116, 104, 101, 32, 101, 110, 100]⟩ : ByteArray) = T := by rw [hT]; rfl
    rw [hearsaylaw04_TokensBlanks.l0, if_neg (by omega), if_pos (by omega), Option.bind_some, hTT, h1k, Option.bind_some, if_pos rfl, h2k, Option.bind_some, if_pos rfl, h3k, Option.bind_some]
  | succ d ih =>
    intro i acc want hi hd hb hs hw hT hWw
    rcases Nat.lt_or_ge i l.length with hi2 | hi2
    case inr => exact ih i acc want hi (by omega) hb hs hw hT hWw
    have hdr := rd_drop l i hi2
    have hmem : rd_T33 l (i : Int) ∈ l := List.mem_of_mem_drop (i := i) (by rw [hdr]; simp)
    have o := ok _ hmem
    have hSp := Spell_f (rd_T33 l (i : Int)).f0 (rd_T33 l (i : Int)).f1 (rd_T33 l (i : Int)).f2 (rd_T33 l (i : Int)).f3 (rd_T33 l (i : Int)).f4 o.1 o.2
    rw [hdr] at hT hWw hs
    simp only [List.map_cons, Tk.blanks, wt] at hT hWw hs
    have hof : Tk.spell (ofS (rd_T33 l (i : Int))).k (ofS (rd_T33 l (i : Int))).t (ofS (rd_T33 l (i : Int))).n = Tk.spell (rd_T33 l (i : Int)).f0 (bs (rd_T33 l (i : Int)).f1) (rd_T33 l (i : Int)).f2 := rfl
    rw [hof] at hT hWw
    obtain ⟨K1, h1⟩ := hSp
    have hwt : wt (l.drop (i + 1)) ≤ 1099511627776 := by omega
    cases hsp : Tk.spell (rd_T33 l (i : Int)).f0 (bs (rd_T33 l (i : Int)).f1) (rd_T33 l (i : Int)).f2 with
    | none =>
      rw [hsp] at hT hWw h1
      obtain ⟨K2, h2⟩ := ih (i + 1) acc want (by omega) (by omega) hb (by omega) (by omega) hT hWw
      refine ⟨K1 + K2 + 1, fun k hk => ?_⟩
      obtain ⟨k, rfl⟩ : ∃ m, k = m + 1 := ⟨k - 1, by omega⟩
      have h1k : tokens_Spell.f k (rd_T33 l (i : Int)).f0 (rd_T33 l (i : Int)).f1 (rd_T33 l (i : Int)).f2 (rd_T33 l (i : Int)).f3 (rd_T33 l (i : Int)).f4 = _ := h1 k (by omega)
      have h2k : hearsaylaw04_TokensBlanks.l0 k l how acc want ((i + 1 : Nat) : Int) = _ := h2 k (by omega)
      show hearsaylaw04_TokensBlanks.l0 (k + 1) l how acc want (i : Int) = _
      rw [hearsaylaw04_TokensBlanks.l0, if_pos (by omega), if_pos (by omega), h1k, Option.bind_some]
      rw [if_neg (show ¬ (encS none).2 = true by simp [encS]), next_ i (by omega)]
      exact h2k
    | some w =>
      rw [hsp] at hT hWw h1
      simp only at hT hWw
      have hwb : Tk.bytes w := spell_bytes hsp o.2 (bs_bytes _)
      have hbw : bs (strOfNums w) = w := bs_str w hwb
      have hwl := spell_le hsp o.2
      rw [bs_length] at hwl
      obtain ⟨hf1, hf2⟩ := fill_filler (pick how i)
      have hfl : (fs how i).length = (fillS (pick how i)).size := bs_length _
      have hfb : Tk.bytes (fs how i) := bs_bytes _
      have hacc' : (acc ++ fs how i ++ w).length = acc.length + (fs how i).length + w.length := by rw [List.length_append, List.length_append]
      have ca : ((acc ++ fs how i).length : Int) = (acc.length : Int) + ((fs how i).length : Int) := by rw [List.length_append]; omega
      have cb : ((acc ++ fs how i ++ w).length : Int) = (acc.length : Int) + ((fs how i).length : Int) + (w.length : Int) := by rw [hacc']; omega
      rw [List.map_cons] at hWw
      obtain ⟨K2, h2⟩ := ih (i + 1) (acc ++ fs how i ++ w) (want ++ [(⟨(rd_T33 l (i : Int)).f0, (rd_T33 l (i : Int)).f1, (rd_T33 l (i : Int)).f2, ((acc ++ fs how i).length : Int), ((acc ++ fs how i ++ w).length : Int)⟩ : S33)]) (by omega) (by omega)
        (by
          intro c hcm
          rcases List.mem_append.1 hcm with h | h
          · rcases List.mem_append.1 h with h | h
            · exact hb c h
            · exact hfb c h
          · exact hwb c h) (by rw [hacc']; omega) (by rw [List.length_append]; simp; omega)
        (by rw [hT, cb]; simp only [List.append_assoc]) (by rw [hWw, cb, ca, toS_of, List.append_assoc]; rfl)
      refine ⟨K1 + K2 + 1, fun k hk => ?_⟩
      obtain ⟨k, rfl⟩ : ∃ m, k = m + 1 := ⟨k - 1, by omega⟩
      have h1k : tokens_Spell.f k (rd_T33 l (i : Int)).f0 (rd_T33 l (i : Int)).f1 (rd_T33 l (i : Int)).f2 (rd_T33 l (i : Int)).f3 (rd_T33 l (i : Int)).f4 = _ := h1 k (by omega)
      have h2k : hearsaylaw04_TokensBlanks.l0 k l how (acc ++ fs how i ++ w) (want ++ [(⟨(rd_T33 l (i : Int)).f0, (rd_T33 l (i : Int)).f1, (rd_T33 l (i : Int)).f2, ((acc ++ fs how i).length : Int), ((acc ++ fs how i ++ w).length : Int)⟩ : S33)]) ((i + 1 : Nat) : Int) = _ := h2 k (by omega)
      have e1 : bytesOf (strOfNums w) = w := hbw
      have e2 : bytesOf (fillS (pick how i)) = fs how i := rfl
      show hearsaylaw04_TokensBlanks.l0 (k + 1) l how acc want (i : Int) = _
      rw [hearsaylaw04_TokensBlanks.l0, if_pos (by omega), if_pos (by omega), h1k, Option.bind_some]
      rw [if_pos (show (encS (some w)).2 = true from rfl)]
      have hend : ((hearsaylaw04_fill.f (pick how i)).bind fun t430 => (if acc.length + t430.size < 140737488355328 then ((some (acc ++ bytesOf t430 : List Int)).bind fun y431 => (if y431.length + (strOfNums w).size < 140737488355328 then ((some (y431 ++ bytesOf (strOfNums w) : List Int)).bind fun y436 => (if want.length < 2932031007402 then (hearsaylaw04_TokensBlanks.l0 k l how y436 (want ++ [(⟨(rd_T33 l (i : Int)).f0, (rd_T33 l (i : Int)).f1, (rd_T33 l (i : Int)).f2, (y431.length : Int), (y436.length : Int)⟩ : S33)]) (wrap64 ((i : Int) + 1))) else (none))) else (none))) else (none))) = some true := by
        rw [fill_eq, Option.bind_some, if_pos (by omega), Option.bind_some, e2, if_pos (by rw [List.length_append, son_len]; omega), Option.bind_some, e1, if_pos (by omega), next_ i (by omega)]
        exact h2k
      by_cases hp : (how.length : Int) > 0
      · have hpk : pick how i = rd how (Int.tmod (i : Int) (how.length : Int)) := by unfold pick; rw [if_pos hp]
        rw [hpk] at hend
        rw [if_pos hp, if_neg (by omega), if_pos (Int.tmod_nonneg _ (by omega)), if_pos (Int.tmod_lt_of_pos _ hp)]
        exact hend
      · have hpk : pick how i = 0 := by unfold pick; rw [if_neg hp]
        rw [hpk] at hend
        rw [if_neg hp]
        exact hend

theorem blanks_g (l : List S33) (how : List Int) (o : ∀ t ∈ l, Open.okT t) (b : Open.bulk l ≤ 1048576) (_ : ∀ n ∈ how, (Lit.int .i64 n).wf = true) (hh : how.length ≤ 1048576) : Ev (fun k => hearsaylaw04_TokensBlanks.f k l how) true := by
  obtain ⟨h1, h2, h3⟩ := ok_bulk l o b
  have hfine : ∀ t ∈ l.map ofS, Tk.fine t := by
    intro t ht
    obtain ⟨x, hx, rfl⟩ := List.mem_map.1 ht
    exact ⟨(h1 x hx).2, bs_bytes x.f1⟩
  have hc := Tk.cut_blanks (fs how) (fun i => (fill_filler _).1) (l.map ofS) hfine 0 0
  exact blanks_ev l h1 h2 how hh _ _ _ hc rfl l.length 0 [] [] (by omega) (by omega) (fun c hc => by cases hc) (by rw [List.drop_zero, List.length_nil]; omega) (by simp) rfl rfl

end Go.Proofs.YtmpaipbpnkfmfaaDoor.CutPure
