/-
  PLAIN: TokensBack comes to true. Conditions: a list of at most 2^20 tokens, texts of at most 2^20 bytes, numbers of 64 bits.
-/
import Derived.Test.YtmpaipbpnkfmfaaDoorPx16
import Derived.Test.YtmpaipbpnkfmfaaDoorPure
import Derived.Test.YtmpaipbpnkfmfaaDoorOpenP
namespace Go.Proofs.YtmpaipbpnkfmfaaDoor.CutPure
open Go.RowKit Go.Proofs.YtmpaipbpnkfmfaaDoor.P Go.Proofs.YtmpaipbpnkfmfaaDoorW.PrintWords Go.Proofs.YtmpaipbpnkfmfaaDoorW.PrintLast Go.Proofs.YtmpaipbpnkfmfaaDoor.Br
open Go.Proofs.YtmpaipbpnkfmfaaDoor

theorem fine_ofS {t : S33} (h : okS t) : Tk.fine (ofS t) := ⟨h.2, bs_bytes t.f1⟩

/-- one round's two answers -/
theorem spell_two (t : S33) (h : okS t) (o : Option (List Int)) (ho : Tk.spell t.f0 (bs t.f1) t.f2 = o) :
    (encS o).2 = o.isSome ∧ ((encS o).2 == ((encS o).1.toList == ([] : List UInt8))) = false ∧ (encS o).1.size = Tk.lenO o := by
  cases o with
  | none => exact ⟨rfl, by simp only [encS]; rw [(toList_nil (⟨#[]⟩ : ByteArray)).2 rfl]; rfl, rfl⟩
  | some w =>
    refine ⟨rfl, ?_, son_len w⟩
    obtain ⟨c, r, rfl, _⟩ := Tk.spell_lex ho h.2 (bs_bytes t.f1)
    have : ((strOfNums (c :: r)).toList == ([] : List UInt8)) = false := by
      rw [beq_eq_false_iff_ne]
      intro e
      have := (toList_nil _).1 e
      rw [son_len] at this
      simp at this
    simp only [encS, this]
    rfl

theorem w_most (m n : Nat) (h : m + n + 1 ≤ 4611686018427387904) : wrap64 (wrap64 ((m : Int) + (n : Int)) + 1) = ((m + n + 1 : Nat) : Int) := by unfold wrap64; omega

theorem back_ev (l : List S33) (ok : ∀ t ∈ l, okS t) (hl : l.length ≤ 1099511627776) (s : ByteArray) (okb : Bool) (J : ∀ m : Nat, (okb = true → s.size ≤ m) → Ev (fun k => hearsaylaw04_TokensBack.j1 k l s okb (m : Int) false) true) :
    ∀ (d i m : Nat) (all : Bool), i ≤ l.length → l.length - i ≤ d → okb = (all && Tk.allsp ((l.drop i).map ofS)) → (okb = true → s.size ≤ m + Tk.sumsp ((l.drop i).map ofS)) → m + Tk.sumsp ((l.drop i).map ofS) ≤ 4611686018427387904 →
    Ev (fun k => hearsaylaw04_TokensBack.l0 k l s okb all (m : Int) (i : Int)) true := by
  intro d
  induction d with
  | zero =>
    intro i m all hi hd hall hm hb
    rw [List.drop_eq_nil_of_le (by omega)] at hall hm
    obtain ⟨K1, h1⟩ := head_f
    obtain ⟨K2, h2⟩ := J m (fun h => by have := hm h; simpa [Tk.sumsp] using this)
    have hall' : okb = all := by rw [hall]; simp [Tk.allsp]
    refine ⟨K1 + K2 + 1, fun k hk => ?_⟩
    obtain ⟨k, rfl⟩ : ∃ j, k = j + 1 := ⟨k - 1, by omega⟩
    have h1k : hearsaylaw04_head.f k = _ := h1 k (by omega)
    have h2k : hearsaylaw04_TokensBack.j1 k l s okb (m : Int) false = _ := h2 k (by omega)
    show hearsaylaw04_TokensBack.l0 (k + 1) l s okb all (m : Int) (i : Int) = _
    rw [hearsaylaw04_TokensBack.l0, if_neg (by omega), if_neg (by rw [hall']; simp), h1k, Option.bind_some]
    exact h2k
  | succ d ih =>
    intro i m all hi hd hall hm hb
    rcases Nat.lt_or_ge i l.length with hi2 | hi2
    case inr => exact ih i m all hi (by omega) hall hm hb
    have hdr := rd_drop l i hi2
    have hmem : rd_T33 l (i : Int) ∈ l := List.mem_of_mem_drop (i := i) (by rw [hdr]; simp)
    have o := ok _ hmem
    obtain ⟨K1, h1⟩ := Spell_f (rd_T33 l (i : Int)).f0 (rd_T33 l (i : Int)).f1 (rd_T33 l (i : Int)).f2 (rd_T33 l (i : Int)).f3 (rd_T33 l (i : Int)).f4 o.1 o.2
    obtain ⟨e1, e2, e3⟩ := spell_two _ o _ rfl
    rw [hdr] at hall hm hb
    simp only [List.map_cons, Tk.allsp, Tk.sumsp] at hall hm hb
    have hof : ∀ x, Tk.spell (ofS x).k (ofS x).t (ofS x).n = Tk.spell x.f0 (bs x.f1) x.f2 := fun _ => rfl
    rw [hof] at hall hm hb
    rw [← e3] at hm hb
    rw [← e1] at hall
    generalize hE : encS (Tk.spell (rd_T33 l (i : Int)).f0 (bs (rd_T33 l (i : Int)).f1) (rd_T33 l (i : Int)).f2) = E at *
    obtain ⟨K2, h2⟩ := ih (i + 1) (m + E.1.size + 1) (all && E.2) (by omega) (by omega) (by rw [hall, Bool.and_assoc]) (fun h => by have := hm h; omega) (by omega)
    refine ⟨K1 + K2 + 1, fun k hk => ?_⟩
    obtain ⟨k, rfl⟩ : ∃ j, k = j + 1 := ⟨k - 1, by omega⟩
    have h1k : tokens_Spell.f k (rd_T33 l (i : Int)).f0 (rd_T33 l (i : Int)).f1 (rd_T33 l (i : Int)).f2 (rd_T33 l (i : Int)).f3 (rd_T33 l (i : Int)).f4 = _ := h1 k (by omega)
    have h2k : hearsaylaw04_TokensBack.l0 k l s okb (all && E.2) ((m + E.1.size + 1 : Nat) : Int) ((i + 1 : Nat) : Int) = _ := h2 k (by omega)
    show hearsaylaw04_TokensBack.l0 (k + 1) l s okb all (m : Int) (i : Int) = _
    rw [hearsaylaw04_TokensBack.l0, if_pos (by omega), if_pos (by omega), h1k, Option.bind_some, e2, w_most m E.1.size (by omega), next_ i (by omega)]
    cases all with
    | true => rw [if_pos rfl, if_neg (by simp)]; exact h2k
    | false => rw [if_neg (by simp), if_neg (by simp)]; exact h2k

theorem sum_wt : ∀ (l : List S33), (∀ t ∈ l, okS t) → Tk.sumsp (l.map ofS) ≤ wt l := by
  intro l
  induction l with
  | nil => intro _; exact Nat.le_refl _
  | cons t r ih =>
    intro h
    have ho := h t (by simp)
    have hi := ih (fun x hx => h x (by simp [hx]))
    simp only [List.map_cons, Tk.sumsp, wt]
    have : Tk.lenO (Tk.spell (ofS t).k (ofS t).t (ofS t).n) ≤ 4 * t.f1.size + 22 := by
      cases hs : Tk.spell (ofS t).k (ofS t).t (ofS t).n with
      | none => simp [Tk.lenO]
      | some w =>
        have := spell_le hs ho.2
        have e : (ofS t).t.length = t.f1.size := bs_length t.f1
        simp only [Tk.lenO]; omega
    omega

theorem back_f (l : List S33) (ok : ∀ t ∈ l, okS t) (hl : l.length ≤ 1099511627776) (hw : wt l ≤ 1099511627776) : Ev (fun k => hearsaylaw04_TokensBack.f k l) true := by
  have hfine : ∀ t ∈ l.map ofS, Tk.fine t := by
    intro t ht
    obtain ⟨x, hx, rfl⟩ := List.mem_map.1 ht
    exact fine_ofS (ok x hx)
  have hsum := sum_wt l ok
  obtain ⟨K1, h1⟩ := Join_f l ok hl (by omega)
  cases hj : Tk.join (l.map ofS) with
  | none =>
    rw [hj] at h1
    obtain ⟨K2, h2⟩ := back_ev l ok hl ⟨#[]⟩ false (fun m _ => by
      refine ⟨1, fun k hk => ?_⟩
      obtain ⟨k, rfl⟩ : ∃ j, k = j + 1 := ⟨k - 1, by omega⟩
      show hearsaylaw04_TokensBack.j1 (k + 1) l ⟨#[]⟩ false (m : Int) false = _
      rw [hearsaylaw04_TokensBack.j1, if_neg (by simp), if_neg (by simp), (toList_nil (⟨#[]⟩ : ByteArray)).2 rfl]
      rfl) l.length 0 0 true (by omega) (by omega) (by have := Tk.join_some (l.map ofS) 0; simp only [Tk.join] at hj; rw [hj] at this; simpa using this) (fun h => by cases h) (by simp; omega)
    refine ⟨K1 + K2, fun k hk => ?_⟩
    have h1k : tokens_Join.f k l = _ := h1 k (by omega)
    have h2k : hearsaylaw04_TokensBack.l0 k l ⟨#[]⟩ false true ((0 : Nat) : Int) ((0 : Nat) : Int) = _ := h2 k (by omega)
    show hearsaylaw04_TokensBack.f k l = _
    unfold hearsaylaw04_TokensBack.f
    rw [copied_eq l hl, Option.bind_some, h1k, Option.bind_some]
    exact h2k
  | some w =>
    rw [hj] at h1
    have hjw := Tk.join_sum _ _ _ hj
    have hb := join_bytes _ _ _ hfine hj
    have hbs : bs (strOfNums w) = w := bs_str w hb
    obtain ⟨L, hL, hk⟩ := Tk.cut_join Tk.stop_join _ _ _ 0 hfine hj
    have hcut : Tk.Cut (bs (strOfNums w)) ((strOfNums w).size : Int) = ⟨L, 0, 0⟩ := by
      rw [hbs, son_len]; unfold Tk.Cut; rw [if_neg (by omega), hL]
    obtain ⟨K3, h3⟩ := Cut_f (strOfNums w) ((strOfNums w).size : Int) (by rw [son_len]; omega)
    rw [hcut] at h3
    have hkey : (L.map toS).map lk = l.map lk := by
      have := congrArg (List.map fun q : Int × List Int × Int => (q.1, strOfNums q.2.1, q.2.2)) hk
      simp only [List.map_map] at this
      rw [List.map_map, show lk ∘ toS = (fun q : Int × List Int × Int => (q.1, strOfNums q.2.1, q.2.2)) ∘ Tk.key from rfl, this]
      congr 1
      funext x
      simp only [Function.comp, Tk.key, ofS, lk, str_bs]
    have hLl : L.length = l.length := by have := congrArg List.length hkey; simpa using this
    obtain ⟨K4, h4⟩ := alike_f (L.map toS) l (by rw [List.length_map]; omega) hkey
    obtain ⟨K2, h2⟩ := back_ev l ok hl (strOfNums w) true (fun m hm => by
      refine ⟨K3 + K4 + 1, fun k hk => ?_⟩
      obtain ⟨k, rfl⟩ : ∃ j, k = j + 1 := ⟨k - 1, by omega⟩
      have h3k : tokens_Cut.f k (strOfNums w) ((strOfNums w).size : Int) = _ := h3 k (by omega)
      have h4k : hearsaylaw04_alike.f k (L.map toS) l = _ := h4 k (by omega)
      show hearsaylaw04_TokensBack.j1 (k + 1) l (strOfNums w) true (m : Int) false = _
      have e1 : encC [] ⟨L, 0, 0⟩ = (L.map toS, 0, 0) := rfl
      rw [hearsaylaw04_TokensBack.j1, if_neg (by simp), if_pos rfl, h3k, e1, Option.bind_some, if_pos rfl, h4k, Option.bind_some, if_pos rfl, decide_eq_true (by have := hm rfl; omega)]) l.length 0 0 true (by omega) (by omega)
      (by have := Tk.join_some (l.map ofS) 0; simp only [Tk.join] at hj; rw [hj] at this; simpa using this) (fun _ => by rw [son_len]; simpa using hjw) (by simp; omega)
    have hs : (⟨([] ++ (strOfNums w).data.toList).toArray⟩ : ByteArray) = strOfNums w := by simp
    refine ⟨K1 + K2, fun k hk => ?_⟩
    have h1k : tokens_Join.f k l = _ := h1 k (by omega)
    have h2k : hearsaylaw04_TokensBack.l0 k l (strOfNums w) true true ((0 : Nat) : Int) ((0 : Nat) : Int) = _ := h2 k (by omega)
    show hearsaylaw04_TokensBack.f k l = _
    unfold hearsaylaw04_TokensBack.f
    rw [copied_eq l hl, Option.bind_some, h1k, Option.bind_some]
    simp only [encJ]
    rw [hs]
    exact h2k

theorem back_g (l : List S33) (o : ∀ t ∈ l, Open.okT t) (b : Open.bulk l ≤ 1048576) : Ev (fun k => hearsaylaw04_TokensBack.f k l) true := by
  obtain ⟨h1, h2, h3⟩ := ok_bulk l o b
  exact back_f l h1 (by omega) (by omega)

end Go.Proofs.YtmpaipbpnkfmfaaDoor.CutPure
