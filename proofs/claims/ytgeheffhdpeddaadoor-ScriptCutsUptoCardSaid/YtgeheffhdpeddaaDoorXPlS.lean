/-
  Texts laid together: PLAIN; PLAIN. Conditions: as each theorem states.
-/
import Derived.Test.YtgeheffhdpeddaaDoorXPlR
import Derived.Test.YtgeheffhdpeddaaDoorXEqS
import Derived.Test.YtgeheffhdpeddaaDoorXTok
/- PLAIN: lists of tokens as values; the document's own Spell; same. Conditions: as each theorem states. -/
namespace Go.Proofs.YtgeheffhdpeddaaDoor.VX
open Go Go.Proofs Go.Proofs.YtgeheffhdpeddaaDoor
theorem ints_bytes (s : List UInt8) : Tk.bytes (Sp.ints s) := fun c hc => by
  unfold Sp.ints at hc
  obtain ⟨b, _, rfl⟩ := List.mem_map.mp hc
  have := b.toNat_lt
  omega
theorem ints_tb {l : List Int} (h : Tk.bytes l) : Sp.ints (Sp.tb l) = l := by
  induction l with
  | nil => rfl
  | cons c r ih =>
    have hc := h c (by simp)
    have := ih fun x hx => h x (by simp [hx])
    simp only [Sp.tb, Sp.ints, List.map_cons, List.map_map] at this ⊢
    rw [this]
    congr 1
    simp only [UInt8.toNat_ofNat']
    omega
theorem tb_len (l : List Int) : (Sp.tb l).length = l.length := by simp [Sp.tb]
theorem tb_inj {a b : List Int} (ha : Tk.bytes a) (hb : Tk.bytes b) (h : Sp.tb a = Sp.tb b) : a = b := by
  have := congrArg Sp.ints h
  rwa [ints_tb ha, ints_tb hb] at this
theorem tb_beq {a b : List Int} (ha : Tk.bytes a) (hb : Tk.bytes b) : (Sp.tb a == Sp.tb b) = decide (a = b) := by
  rw [Bool.eq_iff_iff, beq_iff_eq, decide_eq_true_eq]
  exact ⟨tb_inj ha hb, fun h => by rw [h]⟩
/-! a token that is read -/
theorem wide_tok (t : Tk.Tok) : Sp.wide 5 (tokA t) = true := rfl
theorem shp_tok (t : Tk.Tok) : Sp.shp [.i .i64, .s, .i .i64, .i .i64, .i .i64] (Sp.cs 5 0 (tokA t)) = true := rfl
theorem f0_tok (t : Tk.Tok) : Sp.fI 5 0 0 (tokA t) = t.k := rfl
theorem f1_tok (t : Tk.Tok) : Sp.fS 5 0 1 (tokA t) = Sp.tb t.t := rfl
theorem f2_tok (t : Tk.Tok) : Sp.fI 5 0 2 (tokA t) = t.n := rfl
theorem f3_tok (t : Tk.Tok) : Sp.fI 5 0 3 (tokA t) = t.at_ := rfl
theorem f4_tok (t : Tk.Tok) : Sp.fI 5 0 4 (tokA t) = t.e := rfl
theorem map_at {l r : List Tk.Tok} {x : Tk.Tok} {i : Nat} (h : l.drop i = x :: r) : i < l.length ∧ (l.map tokA).getD i .top = tokA x ∧ l.drop (i + 1) = r ∧ l.length = i + 1 + r.length ∧ l[i]? = some x := by
  have hl := congrArg List.length h
  simp only [List.length_drop, List.length_cons] at hl
  have hi : i < l.length := by omega
  rw [List.drop_eq_getElem_cons hi] at h
  injection h with h1 h2
  refine ⟨hi, ?_, h2, by omega, by rw [List.getElem?_eq_getElem hi, h1]⟩
  simp [List.getD_eq_getElem?_getD, hi, h1]
theorem tok?_tokA {t : Tk.Tok} (h : Tk.bytes t.t) : Sp.tok? (tokA t) = some t := by
  unfold tokA Sp.tok?
  simp only [ints_tb h]
theorem toks?_map : ∀ {l : List Tk.Tok}, (∀ t ∈ l, Tk.bytes t.t) → Sp.toks? (l.map tokA) = some l
  | [], _ => rfl
  | t :: l, h => by
    have ih := toks?_map (l := l) fun x hx => h x (List.mem_cons_of_mem _ hx)
    simp only [List.map_cons, Sp.toks?, tok?_tokA (h t (by simp)), ih]
theorem tok?_some {v : AV} {t : Tk.Tok} (h : Sp.tok? v = some t) : v = tokA t ∧ Tk.bytes t.t := by
  unfold Sp.tok? at h
  split at h
  · cases h
    exact ⟨by unfold tokA; rw [Sp.tb_ints], ints_bytes _⟩
  · cases h
theorem toks?_some : ∀ {xs : List AV} {l : List Tk.Tok}, Sp.toks? xs = some l → xs = l.map tokA ∧ ∀ t ∈ l, Tk.bytes t.t
  | [], l, h => by cases h; exact ⟨rfl, fun t ht => by cases ht⟩
  | v :: xs, l, h => by
    unfold Sp.toks? at h
    split at h
    · rename_i t l' h1 h2
      cases h
      obtain ⟨rfl, hb⟩ := tok?_some h1
      obtain ⟨rfl, hbs⟩ := toks?_some h2
      exact ⟨rfl, fun x hx => (List.mem_cons.mp hx).elim (fun e => e ▸ hb) (hbs x)⟩
    · cases h
/-! same -/
/-! the document's Spell -/
def rspI (q : Int) (t : List Int) (n : Int) : List Int := if q = 1 ∨ q = 2 then t else if q = 3 then Tk.quote t else if q = 4 then Tk.dec n else Tk.signOf q
theorem quote_bytes (t : List Int) (h : Tk.bytes t) : Tk.bytes (Tk.quote t) := fun c hc => by have := Tk.quote_plain t h c hc; omega
theorem sign_bytes (q : Int) : Tk.bytes (Tk.signOf q) ∧ (Tk.signOf q).length ≤ 4 := by
  unfold Tk.signOf Tk.says
  repeat' split
  all_goals (refine ⟨fun c hc => ?_, by simp⟩; first | (cases hc; done) | (simp only [List.mem_cons, List.not_mem_nil, or_false] at hc; omega))
theorem dec_bytes {n : Int} (h : -9223372036854775808 ≤ n ∧ n ≤ 9223372036854775807) : Tk.bytes (Tk.dec n) := by
  rw [← itoa_dec n h]; exact ints_bytes _
theorem rsp_bytes (q : Int) (t : List Int) (n : Int) (ht : Tk.bytes t) (hn : -9223372036854775808 ≤ n ∧ n ≤ 9223372036854775807) : Tk.bytes (rspI q t n) ∧ (rspI q t n).length ≤ 4 * t.length + 22 := by
  unfold rspI
  split
  · exact ⟨ht, by omega⟩
  · split
    · exact ⟨quote_bytes t ht, by have := Tk.quote_len t; have := Tk.qbody_le t; omega⟩
    · split
      · refine ⟨dec_bytes hn, ?_⟩
        obtain ⟨c, r, e, _, _, _, _, hr⟩ := Tk.dec_form hn.1 hn.2
        rw [e, List.length_cons]; omega
      · exact ⟨(sign_bytes q).1, by have := (sign_bytes q).2; omega⟩
theorem spell_is {q : Int} {t : List Int} {n : Int} {w : List Int} (hw : Tk.spell q t n = some w) : rspI q t n = w := by
  unfold Tk.spell at hw
  unfold rspI
  by_cases c1 : q = 1
  · rw [if_pos c1] at hw
    rw [if_pos (Or.inl c1)]
    split at hw
    · exact Option.some.inj hw
    · cases hw
  · rw [if_neg c1] at hw
    by_cases c2 : q = 2
    · rw [if_pos c2] at hw
      rw [if_pos (Or.inr c2)]
      split at hw
      · exact Option.some.inj hw
      · cases hw
    · rw [if_neg c2] at hw
      rw [if_neg (by omega)]
      by_cases c3 : q = 3
      · rw [if_pos c3] at hw ⊢
        split at hw
        · exact Option.some.inj hw
        · cases hw
      · rw [if_neg c3] at hw ⊢
        by_cases c4 : q = 4
        · rw [if_pos c4] at hw ⊢
          split at hw
          · exact Option.some.inj hw
          · cases hw
        · rw [if_neg c4] at hw ⊢
          split at hw
          · split at hw
            · exact Option.some.inj hw
            · cases hw
          · cases hw
/-- the document spells a token just where the plain theory does, and so -/
theorem rsp_spell (q : Int) (t : List Int) (n : Int) (ht : Tk.bytes t) (hn : -9223372036854775808 ≤ n ∧ n ≤ 9223372036854775807) :
    (∀ w, Tk.spell q t n = some w → rspI q t n = w ∧ Tk.cut 0 0 w = ⟨[⟨q, t, n, 0, (w.length : Int)⟩], 0, 0⟩) ∧ (Tk.spell q t n = none → (Tk.cut 0 0 (rspI q t n)).e = 0 → (Tk.cut 0 0 (rspI q t n)).l.map Tk.key ≠ [(q, t, n)]) := by
  refine ⟨fun w hw => ⟨spell_is hw, ?_⟩, fun hnone he hk => ?_⟩
  · have := Tk.cut_spell hw hn ht [] (Tk.stop_nil q) 0
    rw [List.append_nil, Tk.cut_nil] at this
    rw [this]
    simp [Tk.Res.cons]
  · have g := (Tk.cut_good _ (rspI q t n) 0 (Nat.le_refl _) (rsp_bytes q t n ht hn).1).sp
    cases hl : (Tk.cut 0 0 (rspI q t n)).l with
    | nil => rw [hl] at hk; simp at hk
    | cons x r =>
      rw [hl] at hk g
      simp only [List.map_cons, List.cons.injEq, Tk.key, Prod.mk.injEq] at hk
      simp only [Tk.allsp, Bool.and_eq_true] at g
      rw [hk.1.1, hk.1.2.1, hk.1.2.2, hnone] at g
      simp at g
theorem rsp_tb (k v : Int) (s : List UInt8) (hv : Sp.i64 v = true) : Sp.rsp k s v = Sp.tb (rspI k (Sp.ints s) v) := by
  unfold Sp.rsp rspI
  by_cases c1 : k = 1
  · subst c1; simp [Sp.tb_ints]
  by_cases c2 : k = 2
  · subst c2; simp [Sp.tb_ints]
  rw [if_neg (by omega), eq_f c1, eq_f c2]
  by_cases c3 : k = 3
  · subst c3; rfl
  rw [if_neg c3, eq_f c3]
  by_cases c4 : k = 4
  · subst c4; exact itoa_tb v hv
  rw [if_neg c4, eq_f c4]
  show Sp.signOf k = _
  unfold Sp.signOf
  by_cases h : 5 ≤ k ∧ k ≤ 16
  · rw [decide_eq_true h.1, decide_eq_true h.2]; rfl
  · have e : Tk.signOf k = [] := by
      unfold Tk.signOf
      rw [if_neg (by omega), if_neg (by omega), if_neg (by omega), if_neg (by omega), if_neg (by omega), if_neg (by omega), if_neg (by omega), if_neg (by omega), if_neg (by omega), if_neg (by omega), if_neg (by omega), if_neg (by omega)]
    have e2 : (decide (5 ≤ k) && decide (k ≤ 16)) = false := by
      rw [Bool.eq_false_iff]; intro hh; simp only [Bool.and_eq_true, decide_eq_true_eq] at hh; exact h hh
    rw [e, e2]; rfl
theorem light_lt {s : List UInt8} (h : Sp.light s = true) : 4 * s.length + 24 < 68719476736 := of_decide_eq_true h
end Go.Proofs.YtgeheffhdpeddaaDoor.VX

/- PLAIN: tokens joined: the program's Join and the document's. Conditions: as each theorem states. -/
namespace Go.Proofs.YtgeheffhdpeddaaDoor.VX
open Go Go.Proofs Go.Proofs.YtgeheffhdpeddaaDoor
theorem fine_of {t : Tk.Tok} (hb : Tk.bytes t.t) (hn : Sp.fineB t = true) : Tk.fine t := ⟨of_i64 hn, hb⟩
theorem toksOK_inv {xs : List AV} (h : Sp.toksOK xs = true) : ∃ l, xs = l.map tokA ∧ (∀ t ∈ l, Tk.fine t) ∧ Sp.weigh l < 68719476736 ∧ Sp.toks xs = l := by
  unfold Sp.toksOK at h
  simp only [Bool.and_eq_true, decide_eq_true_eq, Option.isSome_iff_exists, List.all_eq_true] at h
  obtain ⟨⟨l, hl⟩, h1, h2⟩ := h
  have e : Sp.toks xs = l := by unfold Sp.toks; rw [hl]; rfl
  rw [e] at h1 h2
  obtain ⟨rfl, hb⟩ := toks?_some hl
  exact ⟨l, rfl, fun t ht => fine_of (hb t ht) (h1 t ht), h2, e⟩
theorem toksOK_of {l : List Tk.Tok} (hf : ∀ t ∈ l, Tk.fine t) (hw : Sp.weigh l < 68719476736) : Sp.toksOK (l.map tokA) = true := by
  unfold Sp.toksOK Sp.toks
  rw [toks?_map fun t ht => (hf t ht).2]
  simp only [Option.isSome_some, Option.getD_some, Bool.true_and, Bool.and_eq_true, List.all_eq_true, decide_eq_true_eq]
  exact ⟨fun t ht => i64_of (hf t ht).1, hw⟩
theorem spT_tok {x : Tk.Tok} (fx : Tk.fine x) : Sp.spT x.k (Sp.tb x.t) x.n = Sp.tb ((Tk.spell x.k x.t x.n).getD []) := by
  unfold Sp.spT; rw [ints_tb fx.2]
theorem spOk_tok {x : Tk.Tok} (fx : Tk.fine x) : Sp.spOk x.k (Sp.tb x.t) x.n = (Tk.spell x.k x.t x.n).isSome := by
  unfold Sp.spOk; rw [ints_tb fx.2]
theorem spell_len {x : Tk.Tok} {w : List Int} (fx : Tk.fine x) (h : Tk.spell x.k x.t x.n = some w) : Tk.bytes w ∧ w.length ≤ 4 * x.t.length + 22 := by
  have := rsp_bytes x.k x.t x.n fx.2 fx.1
  rwa [spell_is h] at this
theorem weigh_mem : ∀ {l : List Tk.Tok} {x : Tk.Tok}, x ∈ l → 4 * x.t.length + 24 ≤ Sp.weigh l
  | t :: l, x, h => by
    rcases List.mem_cons.mp h with rfl | h
    · unfold Sp.weigh; omega
    · have := weigh_mem h; unfold Sp.weigh; omega
theorem weigh_len : ∀ l : List Tk.Tok, l.length ≤ Sp.weigh l
  | [] => Nat.le_refl _
  | t :: l => by have := weigh_len l; simp only [List.length_cons, Sp.weigh]; omega
theorem weigh_drop : ∀ (l : List Tk.Tok) (k : Nat), Sp.weigh (l.drop k) ≤ Sp.weigh l
  | l, 0 => Nat.le_refl _
  | [], k + 1 => Nat.le_refl _
  | t :: l, k + 1 => by have := weigh_drop l k; simp only [List.drop_succ_cons, Sp.weigh]; omega
def encJ (acc : List UInt8) : Option (List Int) → AV
  | some w => .tup [.str (acc ++ Sp.tb w), .bool true]
  | none => .tup [.str [], .bool false]
/-- The kind of what stands ahead. -/
def Ahead (l : List Tk.Tok) (i : Nat) (r : List Tk.Tok) (p : Int) : Prop := (i = 0 ∧ p = 0) ∨ ∃ y, 0 < i ∧ l.drop (i - 1) = y :: r ∧ p = y.k
theorem ble40 {n : Nat} (h : n < 137438953472) : n.ble 1099511627776 = true := Nat.ble_eq_true_of_le (by omega)
theorem join_enc (l : List Tk.Tok) : encJ [] (Tk.joinTail 0 l) = .tup [.str (Sp.tb ((Tk.join l).getD [])), .bool (Tk.join l).isSome] := by
  unfold Tk.join
  cases Tk.joinTail 0 l with
  | none => rfl
  | some w => rfl
/-! the document's Join -/
def keyB (a y : Tk.Tok) : Bool := a.k == y.k && (Sp.tb a.t == Sp.tb y.t && (a.n == y.n && true))
theorem keyB_iff {a y : Tk.Tok} (ha : Tk.bytes a.t) (hy : Tk.bytes y.t) : keyB a y = true ↔ Tk.key a = Tk.key y := by
  unfold keyB Tk.key
  rw [tb_beq ha hy]
  simp only [Bool.and_eq_true, beq_iff_eq, decide_eq_true_eq, Bool.and_true, Prod.mk.injEq]
/-- What stands ahead, and its spelling. -/
def AheadR (l : List Tk.Tok) (i : Nat) (r : List Tk.Tok) (p : Int) (last : List UInt8) : Prop := (i = 0 ∧ p = 0 ∧ last = []) ∨ ∃ y u, 0 < i ∧ l.drop (i - 1) = y :: r ∧ p = y.k ∧ Tk.spell y.k y.t y.n = some u ∧ last = Sp.tb u
end Go.Proofs.YtgeheffhdpeddaaDoor.VX
