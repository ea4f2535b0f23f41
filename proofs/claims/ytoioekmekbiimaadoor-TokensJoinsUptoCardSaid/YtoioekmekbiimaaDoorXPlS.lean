/-
  Texts laid together: PLAIN; PLAIN. Conditions: as each theorem states.
-/
import Derived.Test.YtoioekmekbiimaaDoorXPlR
import Derived.Test.YtoioekmekbiimaaDoorXEqS
import Derived.Test.YtoioekmekbiimaaDoorXTok
/- PLAIN: lists of tokens as values; the document's own Spell; same. Conditions: as each theorem states. -/
namespace Go.Proofs.YtoioekmekbiimaaDoor.VX
open Go Go.Proofs Go.Proofs.YtoioekmekbiimaaDoor
theorem ints_bytes (s : List UInt8) : Tk.bytes (Sp.ints s) := fun c hc => by
  unfold Sp.ints at hc
  obtain ⟨b, _, rfl⟩ := List.mem_map.mp hc
  have := b.toNat_lt
  omega
theorem ints_tb {l : List Int} (h : Tk.bytes l) : Sp.ints (Sp.tb l) = l := by
  induction l with
  | nil => rfl
  | cons c r ih =>
    have hc := h c (by simp)
    have := ih fun x hx => h x (by simp [hx])
    simp only [Sp.tb, Sp.ints, List.map_cons, List.map_map] at this ⊢
    rw [this]
    congr 1
    simp only [UInt8.toNat_ofNat']
    omega
theorem tb_len (l : List Int) : (Sp.tb l).length = l.length := by simp [Sp.tb]
theorem tb_inj {a b : List Int} (ha : Tk.bytes a) (hb : Tk.bytes b) (h : Sp.tb a = Sp.tb b) : a = b := by
  have := congrArg Sp.ints h
  rwa [ints_tb ha, ints_tb hb] at this
theorem tb_beq {a b : List Int} (ha : Tk.bytes a) (hb : Tk.bytes b) : (Sp.tb a == Sp.tb b) = decide (a = b) := by
  rw [Bool.eq_iff_iff, beq_iff_eq, decide_eq_true_eq]
  exact ⟨tb_inj ha hb, fun h => by rw [h]⟩
/-! a token that is read -/
theorem wide_tok (t : Tk.Tok) : Sp.wide 5 (tokA t) = true := rfl
theorem shp_tok (t : Tk.Tok) : Sp.shp [.i .i64, .s, .i .i64, .i .i64, .i .i64] (Sp.cs 5 0 (tokA t)) = true := rfl
theorem f0_tok (t : Tk.Tok) : Sp.fI 5 0 0 (tokA t) = t.k := rfl
theorem f1_tok (t : Tk.Tok) : Sp.fS 5 0 1 (tokA t) = Sp.tb t.t := rfl
theorem f2_tok (t : Tk.Tok) : Sp.fI 5 0 2 (tokA t) = t.n := rfl
theorem f3_tok (t : Tk.Tok) : Sp.fI 5 0 3 (tokA t) = t.at_ := rfl
theorem f4_tok (t : Tk.Tok) : Sp.fI 5 0 4 (tokA t) = t.e := rfl
theorem map_at {l r : List Tk.Tok} {x : Tk.Tok} {i : Nat} (h : l.drop i = x :: r) : i < l.length ∧ (l.map tokA).getD i .top = tokA x ∧ l.drop (i + 1) = r ∧ l.length = i + 1 + r.length ∧ l[i]? = some x := by
  have hl := congrArg List.length h
  simp only [List.length_drop, List.length_cons] at hl
  have hi : i < l.length := by omega
  rw [List.drop_eq_getElem_cons hi] at h
  injection h with h1 h2
  refine ⟨hi, ?_, h2, by omega, by rw [List.getElem?_eq_getElem hi, h1]⟩
  simp [List.getD_eq_getElem?_getD, hi, h1]
theorem tok?_tokA {t : Tk.Tok} (h : Tk.bytes t.t) : Sp.tok? (tokA t) = some t := by
  unfold tokA Sp.tok?
  simp only [ints_tb h]
theorem toks?_map : ∀ {l : List Tk.Tok}, (∀ t ∈ l, Tk.bytes t.t) → Sp.toks? (l.map tokA) = some l
  | [], _ => rfl
  | t :: l, h => by
    have ih := toks?_map (l := l) fun x hx => h x (List.mem_cons_of_mem _ hx)
    simp only [List.map_cons, Sp.toks?, tok?_tokA (h t (by simp)), ih]
theorem tok?_some {v : AV} {t : Tk.Tok} (h : Sp.tok? v = some t) : v = tokA t ∧ Tk.bytes t.t := by
  unfold Sp.tok? at h
  split at h
  · cases h
    exact ⟨by unfold tokA; rw [Sp.tb_ints], ints_bytes _⟩
  · cases h
theorem toks?_some : ∀ {xs : List AV} {l : List Tk.Tok}, Sp.toks? xs = some l → xs = l.map tokA ∧ ∀ t ∈ l, Tk.bytes t.t
  | [], l, h => by cases h; exact ⟨rfl, fun t ht => by cases ht⟩
  | v :: xs, l, h => by
    unfold Sp.toks? at h
    split at h
    · rename_i t l' h1 h2
      cases h
      obtain ⟨rfl, hb⟩ := tok?_some h1
      obtain ⟨rfl, hbs⟩ := toks?_some h2
      exact ⟨rfl, fun x hx => (List.mem_cons.mp hx).elim (fun e => e ▸ hb) (hbs x)⟩
    · cases h
/-! same -/
theorem same_loop (a b : List Tk.Tok) (ha : ∀ t ∈ a, Tk.bytes t.t) (hb : ∀ t ∈ b, Tk.bytes t.t) (hlen : a.length = b.length) (hs : a.length < 68719476736) (n : Nat) :
    ∀ (r r' : List Tk.Tok) (i m : Nat), a.drop i = r → b.drop i = r' → i ≤ a.length → r.length < m → L_hearsaylaw04_same_0 n m (b.map tokA) (a.map tokA) (i : Int) = some (.bool (decide (r = r')))
  | [], r', i, m + 1, h, h', hi, _ => by
    have h1 : i = a.length := by
      have := congrArg List.length h; simp only [List.length_drop, List.length_nil] at this; omega
    have : r' = [] := by
      rw [← h', List.drop_eq_nil_of_le (by omega)]
    subst this
    rw [L_hearsaylaw04_same_0_eq, lt_f (by simp; omega)]; rfl
  | x :: r, r', i, m + 1, h, h', hi, hm => by
    obtain ⟨h1, h2, h3, h4, hx⟩ := map_at h
    obtain ⟨y, r'', hy⟩ : ∃ y r'', b.drop i = y :: r'' := ⟨_, _, List.drop_eq_getElem_cons (by omega)⟩
    rw [hy] at h'
    subst h'
    obtain ⟨k1, k2, k3, k4, hy'⟩ := map_at hy
    have ew : IntKind.i64.wrap ((i : Int) + 1) = ((i + 1 : Nat) : Int) := by rw [wrap_id (by omega) (by omega)]; rfl
    have ih := same_loop a b ha hb hlen hs n r r'' (i + 1) m h3 k3 (by omega) (by simp at hm; omega)
    rw [L_hearsaylaw04_same_0_eq, lt_t (by simp; omega), le_t (by omega), toNat_cast, h2, k2, lt_t (by simp; omega), ew, ih, wide_tok, shp_tok, wide_tok, shp_tok, f0_tok, f0_tok, f1_tok, f1_tok, f2_tok, f2_tok, f3_tok, f3_tok, f4_tok, f4_tok, tb_beq (ha x (List.mem_of_getElem? hx)) (hb y (List.mem_of_getElem? hy'))]
    simp only [cond_true]
    obtain ⟨xk, xt, xn, xa, xe⟩ := x
    obtain ⟨yk, yt, yn, ya, ye⟩ := y
    have bq : ∀ p q : Int, (p == q) = decide (p = q) := fun p q => by rw [Bool.eq_iff_iff, beq_iff_eq, decide_eq_true_eq]
    simp only [List.cons.injEq, Tk.Tok.mk.injEq, bq]
    by_cases q1 : xk = yk <;> by_cases q2 : xt = yt <;> by_cases q3 : xn = yn <;> by_cases q4 : xa = ya <;> by_cases q5 : xe = ye <;> simp [q1, q2, q3, q4, q5]
theorem same_eq (xs ys : List AV) (h : ((Sp.toks? xs).isSome && ((Sp.toks? ys).isSome && (decide (xs.length < 68719476736) && decide (ys.length < 68719476736)))) = true) : ∃ n, runA Tryd.prog (X 40) n 12 [.view 5 xs, .view 5 ys] = some (.bool (Sp.sameL xs ys)) := by
  simp only [Bool.and_eq_true, decide_eq_true_eq, Option.isSome_iff_exists] at h
  obtain ⟨⟨a, ha⟩, ⟨b, hb⟩, h1, h2⟩ := h
  obtain ⟨rfl, ba⟩ := toks?_some ha
  obtain ⟨rfl, bb⟩ := toks?_some hb
  simp only [List.length_map] at h1 h2
  refine ⟨a.length + 2, ?_⟩
  rw [e_hearsaylaw04_same a.length]
  simp only [List.length_map]
  unfold Sp.sameL
  rw [ha, hb]
  by_cases hl : a.length = b.length
  · have e : ((a.length : Int) != (b.length : Int)) = false := by rw [hl]; simp
    have := same_loop a b ba bb hl h1 a.length a b 0 (a.length + 1) rfl rfl (Nat.zero_le _) (by omega)
    rw [e, show (0 : Int) = ((0 : Nat) : Int) from rfl]
    simp only [cond_false]
    rw [this]
    simp
  · have e : ((a.length : Int) != (b.length : Int)) = true := by rw [bne_iff_ne]; omega
    have e2 : decide (some a = some b) = false := decide_eq_false fun e => hl (by cases e; rfl)
    rw [e, e2]; rfl
/-! the document's Spell -/
def rspI (q : Int) (t : List Int) (n : Int) : List Int := if q = 1 ∨ q = 2 then t else if q = 3 then Tk.quote t else if q = 4 then Tk.dec n else Tk.signOf q
theorem quote_bytes (t : List Int) (h : Tk.bytes t) : Tk.bytes (Tk.quote t) := fun c hc => by have := Tk.quote_plain t h c hc; omega
theorem sign_bytes (q : Int) : Tk.bytes (Tk.signOf q) ∧ (Tk.signOf q).length ≤ 4 := by
  unfold Tk.signOf Tk.says
  repeat' split
  all_goals (refine ⟨fun c hc => ?_, by simp⟩; first | (cases hc; done) | (simp only [List.mem_cons, List.not_mem_nil, or_false] at hc; omega))
theorem dec_bytes {n : Int} (h : -9223372036854775808 ≤ n ∧ n ≤ 9223372036854775807) : Tk.bytes (Tk.dec n) := by
  rw [← itoa_dec n h]; exact ints_bytes _
theorem rsp_bytes (q : Int) (t : List Int) (n : Int) (ht : Tk.bytes t) (hn : -9223372036854775808 ≤ n ∧ n ≤ 9223372036854775807) : Tk.bytes (rspI q t n) ∧ (rspI q t n).length ≤ 4 * t.length + 22 := by
  unfold rspI
  split
  · exact ⟨ht, by omega⟩
  · split
    · exact ⟨quote_bytes t ht, by have := Tk.quote_len t; have := Tk.qbody_le t; omega⟩
    · split
      · refine ⟨dec_bytes hn, ?_⟩
        obtain ⟨c, r, e, _, _, _, _, hr⟩ := Tk.dec_form hn.1 hn.2
        rw [e, List.length_cons]; omega
      · exact ⟨(sign_bytes q).1, by have := (sign_bytes q).2; omega⟩
theorem spell_is {q : Int} {t : List Int} {n : Int} {w : List Int} (hw : Tk.spell q t n = some w) : rspI q t n = w := by
  unfold Tk.spell at hw
  unfold rspI
  by_cases c1 : q = 1
  · rw [if_pos c1] at hw
    rw [if_pos (Or.inl c1)]
    split at hw
    · exact Option.some.inj hw
    · cases hw
  · rw [if_neg c1] at hw
    by_cases c2 : q = 2
    · rw [if_pos c2] at hw
      rw [if_pos (Or.inr c2)]
      split at hw
      · exact Option.some.inj hw
      · cases hw
    · rw [if_neg c2] at hw
      rw [if_neg (by omega)]
      by_cases c3 : q = 3
      · rw [if_pos c3] at hw ⊢
        split at hw
        · exact Option.some.inj hw
        · cases hw
      · rw [if_neg c3] at hw ⊢
        by_cases c4 : q = 4
        · rw [if_pos c4] at hw ⊢
          split at hw
          · exact Option.some.inj hw
          · cases hw
        · rw [if_neg c4] at hw ⊢
          split at hw
          · split at hw
            · exact Option.some.inj hw
            · cases hw
          · cases hw
/-- the document spells a token just where the plain theory does, and so -/
theorem rsp_spell (q : Int) (t : List Int) (n : Int) (ht : Tk.bytes t) (hn : -9223372036854775808 ≤ n ∧ n ≤ 9223372036854775807) :
    (∀ w, Tk.spell q t n = some w → rspI q t n = w ∧ Tk.cut 0 0 w = ⟨[⟨q, t, n, 0, (w.length : Int)⟩], 0, 0⟩) ∧ (Tk.spell q t n = none → (Tk.cut 0 0 (rspI q t n)).e = 0 → (Tk.cut 0 0 (rspI q t n)).l.map Tk.key ≠ [(q, t, n)]) := by
  refine ⟨fun w hw => ⟨spell_is hw, ?_⟩, fun hnone he hk => ?_⟩
  · have := Tk.cut_spell hw hn ht [] (Tk.stop_nil q) 0
    rw [List.append_nil, Tk.cut_nil] at this
    rw [this]
    simp [Tk.Res.cons]
  · have g := (Tk.cut_good _ (rspI q t n) 0 (Nat.le_refl _) (rsp_bytes q t n ht hn).1).sp
    cases hl : (Tk.cut 0 0 (rspI q t n)).l with
    | nil => rw [hl] at hk; simp at hk
    | cons x r =>
      rw [hl] at hk g
      simp only [List.map_cons, List.cons.injEq, Tk.key, Prod.mk.injEq] at hk
      simp only [Tk.allsp, Bool.and_eq_true] at g
      rw [hk.1.1, hk.1.2.1, hk.1.2.2, hnone] at g
      simp at g
theorem rsp_tb (k v : Int) (s : List UInt8) (hv : Sp.i64 v = true) : Sp.rsp k s v = Sp.tb (rspI k (Sp.ints s) v) := by
  unfold Sp.rsp rspI
  by_cases c1 : k = 1
  · subst c1; simp [Sp.tb_ints]
  by_cases c2 : k = 2
  · subst c2; simp [Sp.tb_ints]
  rw [if_neg (by omega), eq_f c1, eq_f c2]
  by_cases c3 : k = 3
  · subst c3; rfl
  rw [if_neg c3, eq_f c3]
  by_cases c4 : k = 4
  · subst c4; exact itoa_tb v hv
  rw [if_neg c4, eq_f c4]
  show Sp.signOf k = _
  unfold Sp.signOf
  by_cases h : 5 ≤ k ∧ k ≤ 16
  · rw [decide_eq_true h.1, decide_eq_true h.2]; rfl
  · have e : Tk.signOf k = [] := by
      unfold Tk.signOf
      rw [if_neg (by omega), if_neg (by omega), if_neg (by omega), if_neg (by omega), if_neg (by omega), if_neg (by omega), if_neg (by omega), if_neg (by omega), if_neg (by omega), if_neg (by omega), if_neg (by omega), if_neg (by omega)]
    have e2 : (decide (5 ≤ k) && decide (k ≤ 16)) = false := by
      rw [Bool.eq_false_iff]; intro hh; simp only [Bool.and_eq_true, decide_eq_true_eq] at hh; exact h hh
    rw [e, e2]; rfl
theorem light_lt {s : List UInt8} (h : Sp.light s = true) : 4 * s.length + 24 < 68719476736 := of_decide_eq_true h
theorem rspell_eq (k v a b : Int) (s : List UInt8) (hs : Sp.light s = true) (hv : Sp.i64 v = true) : runA Tryd.prog (X 37) 2 8 [.agg [.int .i64 k, .str s, .int .i64 v, .int .i64 a, .int .i64 b]] = some (.tup [.str (Sp.spT k s v), .bool (Sp.spOk k s v)]) := by
  have hl := light_lt hs
  have hn := of_i64 hv
  have ht := ints_bytes s
  obtain ⟨rb, rl⟩ := rsp_bytes k (Sp.ints s) v ht hn
  obtain ⟨r1, r2⟩ := rsp_spell k (Sp.ints s) v ht hn
  rw [Sp.ints_len] at rl
  have er := rsp_tb k v s hv
  have hsh : Sp.short s = true := decide_eq_true (by omega)
  have hshr : Sp.short (Sp.rsp k s v) = true := decide_eq_true (by rw [er, tb_len]; omega)
  have hc : Sp.cut (Sp.rsp k s v) ((Sp.rsp k s v).length : Int) = Tk.cut 0 0 (rspI k (Sp.ints s) v) := by
    unfold Sp.cut Tk.Cut
    rw [Sp.ints_len, if_neg (by omega), er, ints_tb rb]
  rw [e_hearsayref04_Spell 0 k v a b s, hsh, hv, hshr]
  unfold Sp.cutL
  rw [hc]
  cases hw : Tk.spell k (Sp.ints s) v with
  | some w =>
    obtain ⟨e1, e2⟩ := r1 w hw
    rw [e1, e2]
    have e3 : Sp.spT k s v = Sp.rsp k s v := by unfold Sp.spT; rw [hw, er, e1]; rfl
    have e4 : Sp.spOk k s v = true := by unfold Sp.spOk; rw [hw]; rfl
    have e5 : (⟨k, Sp.ints s, v, 0, (w.length : Int)⟩ : Tk.Tok).t = Sp.ints s := rfl
    rw [e3, e4]
    simp only [bne_self_eq_false, beq_self_eq_true, cond_true, cond_false, List.map_cons, List.map_nil, List.length_cons, List.length_nil, List.getD_cons_zero, Bool.and_self, wide_tok, shp_tok, f0_tok, f1_tok, f2_tok, Sp.tb_ints, Bool.and_true, Bool.not_true]
    rfl
  | none =>
    have e4 : Sp.spOk k s v = false := by unfold Sp.spOk; rw [hw]; rfl
    have e3 : Sp.spT k s v = [] := by unfold Sp.spT; rw [hw]; rfl
    have hne := r2 hw
    rw [e3, e4]
    generalize hR : Tk.cut 0 0 (rspI k (Sp.ints s) v) = R at hne
    have gd := (Tk.cut_good _ (rspI k (Sp.ints s) v) 0 (Nat.le_refl _) rb)
    rw [hR] at gd
    by_cases he : R.e = 0
    · have e : (R.e != 0) = false := by rw [he]; rfl
      have e' : (R.e == 0) = true := by rw [he]; rfl
      rw [e, e']
      simp only [Bool.and_self, cond_true, cond_false, List.length_map]
      by_cases hl1 : R.l.length = 1
      · obtain ⟨x, hx⟩ : ∃ x, R.l = [x] := by
          match h : R.l, hl1 with
          | [x], _ => exact ⟨x, rfl⟩
        have hk := hne he
        have hxb : Tk.bytes x.t := (gd.fin x (by rw [hx]; simp)).2
        rw [hx] at hk ⊢
        have hkey : ¬ (x.k = k ∧ x.t = Sp.ints s ∧ x.n = v) := fun ⟨q1, q2, q3⟩ => hk (by simp [Tk.key, q1, q2, q3])
        have hb : (x.k == k && (Sp.tb x.t == s && (x.n == v && true))) = false := by
          rw [Bool.eq_false_iff]
          intro h
          simp only [Bool.and_eq_true, beq_iff_eq] at h
          exact hkey ⟨h.1, by rw [← h.2.1, ints_tb hxb], h.2.2.1⟩
        simp only [List.map_cons, List.map_nil, List.length_cons, List.length_nil, List.getD_cons_zero, wide_tok, shp_tok, f0_tok, f1_tok, f2_tok, hb]
        rfl
      · have e : ((R.l.length : Int) != 1) = true := by rw [bne_iff_ne]; omega
        rw [e]; rfl
    · have e : (R.e != 0) = true := by rw [bne_iff_ne]; exact he
      rw [e]; rfl
end Go.Proofs.YtoioekmekbiimaaDoor.VX

/- PLAIN: tokens joined: the program's Join and the document's. Conditions: as each theorem states. -/
namespace Go.Proofs.YtoioekmekbiimaaDoor.VX
open Go Go.Proofs Go.Proofs.YtoioekmekbiimaaDoor
theorem fine_of {t : Tk.Tok} (hb : Tk.bytes t.t) (hn : Sp.fineB t = true) : Tk.fine t := ⟨of_i64 hn, hb⟩
theorem toksOK_inv {xs : List AV} (h : Sp.toksOK xs = true) : ∃ l, xs = l.map tokA ∧ (∀ t ∈ l, Tk.fine t) ∧ Sp.weigh l < 68719476736 ∧ Sp.toks xs = l := by
  unfold Sp.toksOK at h
  simp only [Bool.and_eq_true, decide_eq_true_eq, Option.isSome_iff_exists, List.all_eq_true] at h
  obtain ⟨⟨l, hl⟩, h1, h2⟩ := h
  have e : Sp.toks xs = l := by unfold Sp.toks; rw [hl]; rfl
  rw [e] at h1 h2
  obtain ⟨rfl, hb⟩ := toks?_some hl
  exact ⟨l, rfl, fun t ht => fine_of (hb t ht) (h1 t ht), h2, e⟩
theorem toksOK_of {l : List Tk.Tok} (hf : ∀ t ∈ l, Tk.fine t) (hw : Sp.weigh l < 68719476736) : Sp.toksOK (l.map tokA) = true := by
  unfold Sp.toksOK Sp.toks
  rw [toks?_map fun t ht => (hf t ht).2]
  simp only [Option.isSome_some, Option.getD_some, Bool.true_and, Bool.and_eq_true, List.all_eq_true, decide_eq_true_eq]
  exact ⟨fun t ht => i64_of (hf t ht).1, hw⟩
theorem spT_tok {x : Tk.Tok} (fx : Tk.fine x) : Sp.spT x.k (Sp.tb x.t) x.n = Sp.tb ((Tk.spell x.k x.t x.n).getD []) := by
  unfold Sp.spT; rw [ints_tb fx.2]
theorem spOk_tok {x : Tk.Tok} (fx : Tk.fine x) : Sp.spOk x.k (Sp.tb x.t) x.n = (Tk.spell x.k x.t x.n).isSome := by
  unfold Sp.spOk; rw [ints_tb fx.2]
theorem spell_len {x : Tk.Tok} {w : List Int} (fx : Tk.fine x) (h : Tk.spell x.k x.t x.n = some w) : Tk.bytes w ∧ w.length ≤ 4 * x.t.length + 22 := by
  have := rsp_bytes x.k x.t x.n fx.2 fx.1
  rwa [spell_is h] at this
theorem weigh_mem : ∀ {l : List Tk.Tok} {x : Tk.Tok}, x ∈ l → 4 * x.t.length + 24 ≤ Sp.weigh l
  | t :: l, x, h => by
    rcases List.mem_cons.mp h with rfl | h
    · unfold Sp.weigh; omega
    · have := weigh_mem h; unfold Sp.weigh; omega
theorem weigh_len : ∀ l : List Tk.Tok, l.length ≤ Sp.weigh l
  | [] => Nat.le_refl _
  | t :: l => by have := weigh_len l; simp only [List.length_cons, Sp.weigh]; omega
theorem weigh_drop : ∀ (l : List Tk.Tok) (k : Nat), Sp.weigh (l.drop k) ≤ Sp.weigh l
  | l, 0 => Nat.le_refl _
  | [], k + 1 => Nat.le_refl _
  | t :: l, k + 1 => by have := weigh_drop l k; simp only [List.drop_succ_cons, Sp.weigh]; omega
def encJ (acc : List UInt8) : Option (List Int) → AV
  | some w => .tup [.str (acc ++ Sp.tb w), .bool true]
  | none => .tup [.str [], .bool false]
/-- The kind of what stands ahead. -/
def Ahead (l : List Tk.Tok) (i : Nat) (r : List Tk.Tok) (p : Int) : Prop := (i = 0 ∧ p = 0) ∨ ∃ y, 0 < i ∧ l.drop (i - 1) = y :: r ∧ p = y.k
theorem ble40 {n : Nat} (h : n < 137438953472) : n.ble 1099511627776 = true := Nat.ble_eq_true_of_le (by omega)
theorem join_loop (l : List Tk.Tok) (hf : ∀ t ∈ l, Tk.fine t) (hw : Sp.weigh l < 68719476736) (n : Nat) : ∀ (r : List Tk.Tok) (i m : Nat) (p : Int) (acc : List UInt8), l.drop i = r → i ≤ l.length → Ahead l i r p → acc.length + Sp.weigh r ≤ Sp.weigh l → r.length < m →
    L_tokens_Join_0 n m (l.length : Int) (l.map tokA) (l.map tokA) (i : Int) acc = some (encJ acc (Tk.joinTail p r))
  | [], i, m + 1, p, acc, h, hi, _, ha, _ => by
    have h1 : i = l.length := by
      have := congrArg List.length h; simp only [List.length_drop, List.length_nil] at this; omega
    have b0 : acc.length.ble 1099511627776 = true := ble40 (by omega)
    rw [L_tokens_Join_0_eq, lt_f (by omega), b0]
    simp [encJ, Tk.joinTail, Sp.tb]
  | x :: r, i, m + 1, p, acc, h, hi, hp, ha, hm => by
    obtain ⟨h1, h2, h3, h4, hx⟩ := map_at h
    have hll := weigh_len l
    have fx := hf x (List.mem_of_getElem? hx)
    have hwx := weigh_mem (List.mem_of_getElem? hx)
    have ew : IntKind.i64.wrap ((i : Int) + 1) = ((i + 1 : Nat) : Int) := by rw [wrap_id (by omega) (by omega)]; rfl
    have hsh : Sp.short (Sp.tb x.t) = true := decide_eq_true (by rw [tb_len]; omega)
    simp only [Sp.weigh] at ha
    rw [L_tokens_Join_0_eq, lt_t (by omega), le_t (by omega), toNat_cast, h2, lt_t (by simp; omega), ew, wide_tok, shp_tok, f0_tok, f1_tok, f2_tok, hsh, i64_of fx.1, spOk_tok fx, spT_tok fx]
    simp only [cond_true, Bool.and_self]
    cases hs : Tk.spell x.k x.t x.n with
    | none =>
      have : Tk.joinTail p (x :: r) = none := by simp [Tk.joinTail, hs]
      rw [this]; rfl
    | some v =>
      obtain ⟨hvb, hvl⟩ := spell_len fx hs
      have ih := fun acc' ha' => join_loop l hf hw n r (i + 1) m x.k acc' h3 (by omega) (.inr ⟨x, by omega, by rw [Nat.add_sub_cancel]; exact h, rfl⟩) ha' (by simp at hm; omega)
      have hvt := tb_len v
      have b2 : (acc.length + (Sp.tb v).length).ble 1099511627776 = true := ble40 (by omega)
      have b3 : (acc.length + 1).ble 1099511627776 = true := ble40 (by omega)
      have b4 : ((acc ++ [32]).length + (Sp.tb v).length).ble 1099511627776 = true := ble40 (by simp only [List.length_append, List.length_cons, List.length_nil]; omega)
      simp only [Option.isSome_some, Bool.not_true, cond_false, Option.getD_some]
      have fin : ∀ (b : Bool) , (∀ acc', acc' = acc ++ ((if b = true then [32] else []) ++ Sp.tb v) → some (encJ acc' (Tk.joinTail x.k r)) = some (encJ acc (match Tk.joinTail x.k r with | some w => some ((if b = true then [32] else []) ++ v ++ w) | none => none))) := by
        intro b acc' e
        subst e
        cases Tk.joinTail x.k r with
        | none => rfl
        | some w => cases b <;> simp [encJ, Sp.tb]
      have hj : Tk.joinTail p (x :: r) = (match Tk.joinTail x.k r with | some w => some ((if Tk.apart p x.k x.n = true then [32] else []) ++ v ++ w) | none => none) := by
        simp only [Tk.joinTail, hs]; cases Tk.joinTail x.k r <;> rfl
      rw [hj]
      have ihA := ih (acc ++ [32] ++ Sp.tb v) (by simp only [List.length_append, List.length_cons, List.length_nil]; omega)
      have ihB := ih (acc ++ Sp.tb v) (by rw [List.length_append]; omega)
      rcases hp with ⟨rfl, rfl⟩ | ⟨y, hi0, hy, rfl⟩
      · have e : decide (((0 : Nat) : Int) > 0) = false := rfl
        rw [e, b2, ihB]
        simp only [cond_true, cond_false]
        refine fin (Tk.apart 0 x.k x.n) _ ?_
        simp [Tk.apart]
      · obtain ⟨k1, k2, k3, k4, _⟩ := map_at hy
        have ew2 : IntKind.i64.wrap ((i : Int) - 1) = ((i - 1 : Nat) : Int) := by rw [wrap_id (by omega) (by omega)]; omega
        rw [gt_t (by omega), ew2, le_t (by omega), toNat_cast, k2, lt_t (by simp; omega), wide_tok, shp_tok, f0_tok]
        simp only [cond_true]
        show (bif Tk.apart y.k x.k x.n then _ else _) = _
        cases hap : Tk.apart y.k x.k x.n with
        | true =>
          rw [b3, b4, ihA]
          simp only [cond_true]
          exact fin true _ (by simp)
        | false =>
          rw [b2, ihB]
          simp only [cond_true, cond_false]
          exact fin false _ (by simp)
theorem join_enc (l : List Tk.Tok) : encJ [] (Tk.joinTail 0 l) = .tup [.str (Sp.tb ((Tk.join l).getD [])), .bool (Tk.join l).isSome] := by
  unfold Tk.join
  cases Tk.joinTail 0 l with
  | none => rfl
  | some w => rfl
theorem join_eq (xs : List AV) (h : Sp.toksOK xs = true) : ∃ n, runA Tryd.prog (X 38) n 10 [.view 5 xs] = some (.tup [.str (Sp.joinS xs), .bool (Sp.joinB xs)]) := by
  obtain ⟨l, rfl, hf, hw, ht⟩ := toksOK_inv h
  refine ⟨l.length + 5, ?_⟩
  rw [e_tokens_Join l.length]
  unfold Sp.joinS Sp.joinB
  rw [ht, ← join_enc, List.length_map]
  exact join_loop l hf hw l.length l 0 (l.length + 4) 0 [] rfl (Nat.zero_le _) (.inl ⟨rfl, rfl⟩) (by simp) (by omega)
/-! the document's Join -/
def keyB (a y : Tk.Tok) : Bool := a.k == y.k && (Sp.tb a.t == Sp.tb y.t && (a.n == y.n && true))
theorem keyB_iff {a y : Tk.Tok} (ha : Tk.bytes a.t) (hy : Tk.bytes y.t) : keyB a y = true ↔ Tk.key a = Tk.key y := by
  unfold keyB Tk.key
  rw [tb_beq ha hy]
  simp only [Bool.and_eq_true, beq_iff_eq, decide_eq_true_eq, Bool.and_true, Prod.mk.injEq]
/-- What stands ahead, and its spelling. -/
def AheadR (l : List Tk.Tok) (i : Nat) (r : List Tk.Tok) (p : Int) (last : List UInt8) : Prop := (i = 0 ∧ p = 0 ∧ last = []) ∨ ∃ y u, 0 < i ∧ l.drop (i - 1) = y :: r ∧ p = y.k ∧ Tk.spell y.k y.t y.n = some u ∧ last = Sp.tb u
theorem rjoin_loop (l : List Tk.Tok) (hf : ∀ t ∈ l, Tk.fine t) (hw : Sp.weigh l < 68719476736) (n : Nat) : ∀ (r : List Tk.Tok) (i m : Nat) (p : Int) (last acc : List UInt8), l.drop i = r → i ≤ l.length → AheadR l i r p last → acc.length + last.length + Sp.weigh r ≤ 2 * Sp.weigh l → acc.length + Sp.weigh r ≤ Sp.weigh l → r.length < m →
    L_hearsayref04_Join_0 n m (l.map tokA) (i : Int) last (acc.map .u8) = some (encJ acc (Tk.joinTail p r))
  | [], i, m + 1, p, last, acc, h, hi, _, _, ha, _ => by
    have h1 : i = l.length := by
      have := congrArg List.length h; simp only [List.length_drop, List.length_nil] at this; omega
    rw [L_hearsayref04_Join_0_eq, lt_f (by simp; omega), isU8_map, toU8_map]
    simp [encJ, Tk.joinTail, Sp.tb]
  | x :: r, i, m + 1, p, last, acc, h, hi, hp, ha0, ha, hm => by
    obtain ⟨h1, h2, h3, h4, hx⟩ := map_at h
    have hll := weigh_len l
    have fx := hf x (List.mem_of_getElem? hx)
    have hwx := weigh_mem (List.mem_of_getElem? hx)
    have ew : IntKind.i64.wrap ((i : Int) + 1) = ((i + 1 : Nat) : Int) := by rw [wrap_id (by omega) (by omega)]; rfl
    have hsh : Sp.light (Sp.tb x.t) = true := decide_eq_true (by rw [tb_len]; omega)
    simp only [Sp.weigh] at ha ha0
    rw [L_hearsayref04_Join_0_eq, lt_t (by simp; omega), le_t (by omega), toNat_cast, h2, ew, wide_tok, shp_tok, f0_tok, f1_tok, f2_tok, hsh, i64_of fx.1, spOk_tok fx, spT_tok fx]
    simp only [cond_true, Bool.and_self]
    cases hs : Tk.spell x.k x.t x.n with
    | none =>
      have : Tk.joinTail p (x :: r) = none := by simp [Tk.joinTail, hs]
      rw [this]; rfl
    | some v =>
      obtain ⟨hvb, hvl⟩ := spell_len fx hs
      have hvt := tb_len v
      have ih := fun acc' ha0' ha' => rjoin_loop l hf hw n r (i + 1) m x.k (Sp.tb v) acc' h3 (by omega) (.inr ⟨x, v, by omega, by rw [Nat.add_sub_cancel]; exact h, rfl, hs, rfl⟩) ha0' ha' (by simp at hm; omega)
      simp only [Option.isSome_some, Bool.not_true, cond_false, Option.getD_some]
      have fin : ∀ (b : Bool) , (∀ acc', acc' = acc ++ ((if b = true then [32] else []) ++ Sp.tb v) → some (encJ acc' (Tk.joinTail x.k r)) = some (encJ acc (match Tk.joinTail x.k r with | some w => some ((if b = true then [32] else []) ++ v ++ w) | none => none))) := by
        intro b acc' e
        subst e
        cases Tk.joinTail x.k r with
        | none => rfl
        | some w => cases b <;> simp [encJ, Sp.tb]
      have hj : Tk.joinTail p (x :: r) = (match Tk.joinTail x.k r with | some w => some ((if Tk.apart p x.k x.n = true then [32] else []) ++ v ++ w) | none => none) := by
        simp only [Tk.joinTail, hs]; cases Tk.joinTail x.k r <;> rfl
      rw [hj]
      -- the two ways on
      have eA : acc.map AV.u8 ++ [AV.u8 32] ++ (Sp.tb v).map AV.u8 = (acc ++ [32] ++ Sp.tb v).map .u8 := by simp
      have eB : acc.map AV.u8 ++ (Sp.tb v).map AV.u8 = (acc ++ Sp.tb v).map .u8 := by simp
      have rA1 : roomA ((acc.map AV.u8).length + 1) 1 = true := room_t (by simp; omega) (by decide)
      have rA2 : roomA ((acc.map AV.u8 ++ [AV.u8 32]).length + ((Sp.tb v).map AV.u8).length) 1 = true := room_t (by simp only [List.length_append, List.length_map, List.length_cons, List.length_nil]; omega) (by decide)
      have rB : roomA ((acc.map AV.u8).length + ((Sp.tb v).map AV.u8).length) 1 = true := room_t (by simp only [List.length_map]; omega) (by decide)
      have ihA := ih (acc ++ [32] ++ Sp.tb v) (by simp only [List.length_append, List.length_cons, List.length_nil]; omega) (by simp only [List.length_append, List.length_cons, List.length_nil]; omega)
      have ihB := ih (acc ++ Sp.tb v) (by simp only [List.length_append]; omega) (by simp only [List.length_append]; omega)
      rw [eA, eB, rA1, rA2, rB, ihA, ihB]
      simp only [cond_true]
      rcases hp with ⟨rfl, rfl, rfl⟩ | ⟨y, u, hi0, hy, rfl, hu, rfl⟩
      · have e : decide (((0 : Nat) : Int) > 0) = false := rfl
        rw [e]
        simp only [cond_false]
        exact fin (Tk.apart 0 x.k x.n) _ (by simp [Tk.apart])
      · obtain ⟨k1, k2, k3, k4, hy'⟩ := map_at hy
        have fy := hf y (List.mem_of_getElem? hy')
        have hwy := weigh_drop l (i - 1)
        rw [hy] at hwy
        simp only [Sp.weigh] at hwy
        obtain ⟨hub, hul⟩ := spell_len fy hu
        have hut := tb_len u
        have ew2 : IntKind.i64.wrap ((i : Int) - 1) = ((i - 1 : Nat) : Int) := by rw [wrap_id (by omega) (by omega)]; omega
        have hcut : Sp.cut (Sp.tb u ++ Sp.tb v) ((Sp.tb u ++ Sp.tb v).length : Int) = Tk.cut 0 0 (u ++ v) := by
          unfold Sp.cut Tk.Cut
          rw [Sp.ints_len, if_neg (by omega), Sp.ints_app, ints_tb hub, ints_tb hvb]
        have hsh2 : Sp.short (Sp.tb u ++ Sp.tb v) = true := decide_eq_true (by rw [List.length_append]; omega)
        obtain ⟨t1, t2⟩ := Tk.two_cut hu hs fy fx
        have hub' : Tk.bytes (u ++ v) := fun c hc => (List.mem_append.mp hc).elim (hub c) (hvb c)
        have gd := Tk.cut_good _ (u ++ v) 0 (Nat.le_refl _) hub'
        unfold Sp.cutL
        rw [gt_t (by omega), ew2, le_t (a := (0 : Int)) (b := ((i - 1 : Nat) : Int)) (by omega), toNat_cast, k2, lt_t (a := ((i - 1 : Nat) : Int)) (by simp; omega), wide_tok, shp_tok, f0_tok, f1_tok, f2_tok, hsh2, Nat.ble_eq_true_of_le (by omega)]
        simp only [hcut, cond_true]
        generalize Tk.cut 0 0 (u ++ v) = R at t1 t2 gd
        cases hap : Tk.apart y.k x.k x.n with
        | false =>
          obtain ⟨a, b, hR, ka, kb⟩ := t1 hap
          have ga := (gd.fin a (by rw [hR]; simp)).2
          have gb := (gd.fin b (by rw [hR]; simp)).2
          have qa := (keyB_iff ga fy.2).mpr ka
          have qb := (keyB_iff gb fx.2).mpr kb
          unfold keyB at qa qb
          rw [hR]
          simp only [bne_self_eq_false, beq_self_eq_true, cond_true, cond_false, List.map_cons, List.map_nil, List.length_cons, List.length_nil, List.getD_cons_zero, List.getD_cons_succ, wide_tok, shp_tok, f0_tok, f1_tok, f2_tok, qa, qb, Bool.not_true]
          exact fin false _ (by simp)
        | true =>
          have fA := fin true (acc ++ [32] ++ Sp.tb v) (by simp)
          have hne := t2 hap
          by_cases he : R.e = 0
          · have e : (R.e != 0) = false := by rw [he]; rfl
            have e' : (R.e == 0) = true := by rw [he]; rfl
            rw [e, e']
            simp only [cond_true, cond_false, List.length_map]
            by_cases hl2 : R.l.length = 2
            · obtain ⟨a, b, hab⟩ : ∃ a b, R.l = [a, b] := by
                match h : R.l, hl2 with
                | [a, b], _ => exact ⟨a, b, rfl⟩
              have ga := (gd.fin a (by rw [hab]; simp)).2
              have gb := (gd.fin b (by rw [hab]; simp)).2
              have hk := hne he
              rw [hab] at hk ⊢
              have e2 : (((([a, b] : List Tk.Tok).length : Nat) : Int) != 2) = false := rfl
              rw [e2]
              simp only [List.map_cons, List.map_nil, List.length_cons, List.length_nil, List.getD_cons_zero, List.getD_cons_succ, wide_tok, shp_tok, f0_tok, f1_tok, f2_tok, cond_false]
              have hkk : keyB a y = true → keyB b x = true → False := fun q1 q2 => hk (by simp [(keyB_iff ga fy.2).mp q1, (keyB_iff gb fx.2).mp q2])
              cases qa : keyB a y with
              | false =>
                unfold keyB at qa
                rw [qa]
                exact fA
              | true =>
                cases qb : keyB b x with
                | true => exact absurd qb (fun q => hkk qa q)
                | false =>
                  unfold keyB at qa qb
                  rw [qa, qb]
                  exact fA
            · have e2 : ((R.l.length : Int) != 2) = true := by rw [bne_iff_ne]; omega
              rw [e2]; exact fA
          · have e : (R.e != 0) = true := by rw [bne_iff_ne]; exact he
            rw [e]; exact fA
theorem rjoin_eq (xs : List AV) (h : Sp.toksOK xs = true) : ∃ n, runA Tryd.prog (X 39) n 11 [.view 5 xs] = some (.tup [.str (Sp.joinS xs), .bool (Sp.joinB xs)]) := by
  obtain ⟨l, rfl, hf, hw, ht⟩ := toksOK_inv h
  refine ⟨l.length + 2, ?_⟩
  rw [e_hearsayref04_Join l.length]
  unfold Sp.joinS Sp.joinB
  rw [ht, ← join_enc]
  exact rjoin_loop l hf hw l.length l 0 (l.length + 1) 0 [] [] rfl (Nat.zero_le _) (.inl ⟨rfl, rfl, rfl⟩) (by simp; omega) (by simp) (by omega)
end Go.Proofs.YtoioekmekbiimaaDoor.VX
