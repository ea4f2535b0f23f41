/-
  Texts laid together: THE LIBRARY's FUNCTIONS WHOSE CONTRACTS ARE GIVEN; THE WHOLE TABLE HOLDS; EQUATIONS of script; ROWS 42 to 75 of the table hold; THE LIBRARY's FUNCTIONS OF CHAPTER 25 WHOSE CONTRACTS ARE GIVEN. Conditions: as each theorem states.
-/
import Derived.Test.YtgeheffhdpeddaaDoorShelf
import Derived.Test.YtgeheffhdpeddaaDoorXBld
import Derived.Test.YtgeheffhdpeddaaDoorXPlS
import Derived.Lib.AtoiErrMem
import Derived.Lib.AppendIntMem
import Derived.Lib.LaidTab
import Derived.WalkSmall
import Derived.Test.YtgeheffhdpeddaaDoorXPlR
import Derived.Test.YtgeheffhdpeddaaDoorXExD
import Derived.Test.YtgeheffhdpeddaaDoorTie
import Derived.Lib.Join
/- THE LIBRARY's FUNCTIONS WHOSE CONTRACTS ARE GIVEN: rows of the table; what is asked of the world. Conditions: as each theorem states. -/
namespace Go.Proofs.YtgeheffhdpeddaaDoor.VX
open Go Go.Proofs Go.RowKit Go.Shelf

theorem gSigns : Tryd.prog.globalNamed "hearsay/hearsayref04.signs" = some 1 := by kernel_rfl
theorem gKinds : Tryd.prog.globalNamed "hearsay/hearsayref04.kinds" = some 2 := by kernel_rfl
theorem gPow : Tryd.prog.globalNamed "internal/strconv.uint64pow10" = some 4 := by kernel_rfl
theorem gES : Tryd.prog.globalNamed "strconv.ErrSyntax" = some 5 := by kernel_rfl
theorem gER : Tryd.prog.globalNamed "strconv.ErrRange" = some 6 := by kernel_rfl
theorem gRows : Tryd.prog.globalNamed "hearsay/script.rows" = some 0 := by kernel_rfl
def rowVals : List (List UInt8 × Int × Nat) → List Value
  | [] => []
  | (n, k, f) :: l => .string ⟨n.toArray⟩ :: .int .i64 k :: .func (.func f) #[] #[] :: rowVals l
def rowsRow : Array Value := (rowVals rowsL).toArray
theorem rows_rel {w : World} : ∀ l : List (List UInt8 × Int × Nat), VRels (fun _ _ => False) w nop (rowCells l) (rowVals l)
  | [] => rfl
  | (n, k, f) :: l => ⟨_, _, rfl, rfl, _, _, rfl, rfl, _, _, rfl, ⟨#[], #[], rfl, rfl, rfl⟩, rows_rel l⟩
theorem rows_shape {P : Value → Prop} (h1 : ∀ s, P (.string s)) (h2 : ∀ n, P (.int .i64 n)) (h3 : ∀ f, P (.func (.func f) #[] #[])) : ∀ l : List (List UInt8 × Int × Nat), ∀ u ∈ rowVals l, P u
  | [], u, h => by cases h
  | (n, k, f) :: l, u, h => by
    unfold rowVals at h
    rcases List.mem_cons.mp h with rfl | h
    · exact h1 _
    rcases List.mem_cons.mp h with rfl | h
    · exact h2 _
    rcases List.mem_cons.mp h with rfl | h
    · exact h3 _
    exact rows_shape h1 h2 h3 l u h
def signsRow : Array Value := #[.string ⟨#[58, 45]⟩, .string ⟨#[33, 61]⟩, .string ⟨#[60, 61]⟩, .string ⟨#[40]⟩, .string ⟨#[41]⟩, .string ⟨#[44]⟩, .string ⟨#[59]⟩, .string ⟨#[46]⟩, .string ⟨#[63]⟩, .string ⟨#[61]⟩, .string ⟨#[60]⟩]
def kindsRow : Array Value := #[.int .i64 11, .int .i64 14, .int .i64 16, .int .i64 6, .int .i64 7, .int .i64 8, .int .i64 9, .int .i64 10, .int .i64 12, .int .i64 13, .int .i64 15]
/-- The package-level variables that the road meets hold what the row lists. -/
structure Gl (w : World) : Prop where
  pow : Lib.TabIs Tryd.prog w "internal/strconv.uint64pow10" .u64 Lib.pow10Tab
  es : ∃ t p, w.var? Tryd.prog "strconv.ErrSyntax" = some #[.iface t p]
  er : ∃ t p, w.var? Tryd.prog "strconv.ErrRange" = some #[.iface t p]
  rw_ : w.var? Tryd.prog "hearsay/script.rows" = some rowsRow
theorem var_lt {n : String} {g : Nat} {cs : Array Value} {w : World} (hg : Tryd.prog.globalNamed n = some g) (h : w.var? Tryd.prog n = some cs) : g < w.heap.size ∧ ∃ ty fz, w.heap[g]? = some (.cells cs ty fz) := by
  simp only [World.var?, hg, Option.bind_some] at h
  split at h
  · rename_i c ty fz hh
    cases h
    exact ⟨lt_heap hh, ty, fz, hh⟩
  · cases h
theorem Gl.ww : WW Gl := fun w w' h b => by
  obtain ⟨h1, ⟨t, p, h2⟩, ⟨t', p', h3⟩, h6⟩ := h
  exact ⟨var?_below b gPow (var_lt gPow h1).1 h1, ⟨t, p, var?_below b gES (var_lt gES h2).1 h2⟩, ⟨t', p', var?_below b gER (var_lt gER h3).1 h3⟩, var?_below b gRows (var_lt gRows h6).1 h6⟩
theorem strs_rel {w : World} : ∀ l : List (List UInt8), VRels (fun _ _ => False) w nop (l.map .str) (l.map fun s => Value.string ⟨s.toArray⟩)
  | [] => rfl
  | s :: l => ⟨_, _, rfl, rfl, strs_rel l⟩
theorem i64s_rel {w : World} : ∀ l : List Int, VRels (fun _ _ => False) w nop (l.map (.int .i64)) (l.map fun n => Value.int .i64 n)
  | [] => rfl
  | s :: l => ⟨_, _, rfl, rfl, i64s_rel l⟩
theorem Gl.glob (w : World) (h : Gl w) : GlobOK globs w := by
  intro i cs hi
  have hm := getRow_mem (show getRow i [(0, rowsG)] = some cs from hi)
  simp only [List.mem_cons, List.not_mem_nil, or_false, Prod.mk.injEq] at hm
  obtain ⟨rfl, rfl⟩ := hm
  obtain ⟨_, ty, fz, hh⟩ := var_lt gRows h.rw_
  refine ⟨_, ty, fz, hh, fun u hu => ?_, ?_⟩
  · exact rows_shape (P := fun u => u.oneCell' = true) (fun _ => rfl) (fun _ => rfl) (fun _ => rfl) rowsL u (by simpa [rowsRow] using hu)
  · exact rows_rel rowsL
theorem Wok.gl : Wok Gl := ⟨Gl.glob, Gl.ww, bldRows_ok 0⟩

theorem grows_below {st : Cells} {w w' : World} (h : ∀ b o, st b o → b < w.heap.size) (hb : Below w.heap.size w w') : Grows st w st w' :=
  ⟨hb, fun _ _ x => x, fun _ _ x => .inl x, fun b o x => Nat.lt_of_lt_of_le (h b o x) hb.size⟩
theorem byte_back (c : UInt8) : ((c.toNat : Int)).toNat.toUInt8 = c := by simp
theorem indexByte_ok : RowOK Gl (59, r_indexByte) := by
  intro args v hv0
  have hv : (r_indexByte args).val = some v := hv0
  clear hv0
  unfold r_indexByte at hv
  split at hv
  · rename_i s c
    cases hv
    refine ⟨⟨_, Tryd.func59, rfl⟩, fun st w vals hW hlt hr => ?_⟩
    obtain ⟨_, _, rfl, rfl, _, _, rfl, rfl, rfl⟩ := hr
    refine (Tryd.strings_IndexByte ⟨s.toArray⟩ c.toNat w).mono ?_
    rintro e w' ⟨rfl, rfl⟩
    rw [byte_back]
    exact ⟨_, st, rfl, Grows.same hlt, rfl⟩
  · cases hv
theorem parseInt_ok : RowOK Gl (65, r_parseInt) := by
  intro args v hv0
  have hv : (r_parseInt args).val = some v := hv0
  clear hv0
  unfold r_parseInt at hv
  split at hv
  · rename_i s
    obtain ⟨hs, hv⟩ := val_when hv
    have hs := Sp.short_lt hs
    have hsz : (⟨s.toArray⟩ : ByteArray).size = s.length := by show s.toArray.size = _; simp
    refine ⟨⟨_, Tryd.func65, rfl⟩, fun st w vals hW hlt hr => ?_⟩
    obtain ⟨_, _, rfl, rfl, _, _, rfl, rfl, _, _, rfl, rfl, rfl⟩ := hr
    cases hp : Lib.parseIntB 64 s with
    | ok n =>
      have e1 : Sp.pOk s = true := by unfold Sp.pOk; rw [hp]
      have e2 : Sp.pV s = n := by unfold Sp.pV; rw [hp]
      rw [e1, e2] at hv
      cases hv
      refine (Tryd.strconv_ParseInt_10_at64_ok ⟨s.toArray⟩ (by omega) n hp w).mono ?_
      rintro e w' ⟨rfl, hw⟩
      refine ⟨_, st, rfl, grows_below hlt ?_, ?_⟩
      · rcases hw with rfl | ⟨t, rfl⟩
        · exact Below.refl _ _
        · exact Lib.bytesWorld_below _ _ _
      · exact ⟨_, rfl, _, _, rfl, rfl, _, _, rfl, rfl, rfl⟩
    | range =>
      have e1 : Sp.pOk s = false := by unfold Sp.pOk; rw [hp]
      have e2 : Sp.pV s = Lib.intSat 64 s := by unfold Sp.pV; rw [hp]
      rw [e1, e2] at hv
      cases hv
      obtain ⟨t, p, hvar⟩ := hW.er
      refine (Tryd.strconv_ParseInt_10_at64_range_var ⟨s.toArray⟩ (by omega) hp t p w hvar).mono ?_
      rintro e w' ⟨N, rfl, _, _, hb⟩
      exact ⟨_, st, rfl, grows_below hlt hb, _, rfl, _, _, rfl, rfl, _, _, rfl, ⟨_, rfl, trivial⟩, rfl⟩
    | _ =>
      have e1 : Sp.pOk s = false := by unfold Sp.pOk; rw [hp]
      have e2 : Sp.pV s = 0 := by unfold Sp.pV; rw [hp]
      rw [e1, e2] at hv
      cases hv
      obtain ⟨t, p, hvar⟩ := hW.es
      refine (Any.strconv_ParseInt_10_at64_syntax_var Tryd.laysC174 ⟨s.toArray⟩ (by omega) hp t p w hvar).mono ?_
      rintro e w' ⟨N, rfl, _, _, hb⟩
      exact ⟨_, st, rfl, grows_below hlt hb, _, rfl, _, _, rfl, rfl, _, _, rfl, ⟨_, rfl, trivial⟩, rfl⟩
  · cases hv
theorem formatInt_ok : RowOK Gl (66, r_formatInt) := by
  intro args v hv0
  have hv : (r_formatInt args).val = some v := hv0
  clear hv0
  unfold r_formatInt at hv
  split at hv
  · rename_i n
    obtain ⟨hs, hv⟩ := val_when hv
    cases hv
    have hb := of_i64 hs
    refine ⟨⟨_, Tryd.func66, rfl⟩, fun st w vals hW hlt hr => ?_⟩
    obtain ⟨_, _, rfl, rfl, _, _, rfl, rfl, rfl⟩ := hr
    refine (Tryd.strconv_FormatInt_10 n hb.1 hb.2 w hW.pow).mono ?_
    rintro e w' ⟨rfl, k, os, rfl⟩
    exact ⟨_, st, rfl, grows_below hlt (Lib.below_grow _ w (Nat.le_refl _) k os), rfl⟩
  · cases hv
theorem itoa_ok : RowOK Gl (49, r_itoa) := by
  intro args v hv
  obtain ⟨n, rfl, hs, rfl⟩ := r_itoa_inv hv
  have hb := of_i64 hs
  refine ⟨⟨_, Tryd.func49, rfl⟩, fun st w vals hW hlt hr => ?_⟩
  obtain ⟨_, _, rfl, rfl, rfl⟩ := hr
  refine (Tryd.strconv_Itoa n hb.1 hb.2 w hW.pow).mono ?_
  rintro e w' ⟨rfl, k, os, rfl⟩
  exact ⟨_, st, rfl, grows_below hlt (Lib.below_grow _ w (Nat.le_refl _) k os), rfl⟩
end Go.Proofs.YtgeheffhdpeddaaDoor.VX

/- THE WHOLE TABLE HOLDS. Conditions: the package-level variables are as laid. -/
namespace Go.Proofs.YtgeheffhdpeddaaDoor.VX
open Go Go.Proofs Go.RowKit
theorem callOK_weak {P : Program} {W : World → Prop} {f : FuncId} {args : List AV} {v v' : AV} (h : CallOK P W f args v) (hv : ∀ st w u, VRel st w nop v u → VRel st w nop v' u) : CallOK P W f args v' :=
  ⟨h.1, fun st w vals hW hlt hr => (h.2 st w vals hW hlt hr).mono fun _ _ ⟨u, st', e, g, r⟩ => ⟨u, st', e, g, hv _ _ _ r⟩⟩
theorem w_ (R : List AV → Ans AV) {f : Nat} {k : Nat} (h : ∀ args v, (R args).val = some v → ∃ n, runA Tryd.prog (X k) n f args = some v) : ∀ args v, (R args).val = some v → ∃ n, runA Tryd.prog (X k) n f args = some v := h
theorem str1 {R : List AV → Ans AV} {c : List UInt8 → Bool} {a : List UInt8 → AV} (hR : R = fun | [.str s] => .when (c s) (.one (a s)) | _ => .no) {args : List AV} {v : AV} (h : (R args).val = some v) : ∃ s, args = [.str s] ∧ c s = true ∧ v = a s := by
  subst hR
  simp only at h
  split at h
  · obtain ⟨h1, h2⟩ := val_when h
    cases h2
    exact ⟨_, rfl, h1, rfl⟩
  · cases h
theorem stri {R : List AV → Ans AV} {c : List UInt8 → Int → Bool} {a : List UInt8 → Int → AV} (hR : R = fun | [.str s, .int .i64 i] => .when (c s i) (.one (a s i)) | _ => .no) {args : List AV} {v : AV} (h : (R args).val = some v) : ∃ s i, args = [.str s, .int .i64 i] ∧ c s i = true ∧ v = a s i := by
  subst hR
  simp only at h
  split at h
  · obtain ⟨h1, h2⟩ := val_when h
    cases h2
    exact ⟨_, _, rfl, h1, rfl⟩
  · cases h
theorem byte1 {R : List AV → Ans AV} {a : UInt8 → AV} (hR : R = fun | [.u8 b] => .one (a b) | _ => .no) {args : List AV} {v : AV} (h : (R args).val = some v) : ∃ b, args = [.u8 b] ∧ v = a b := by
  subst hR
  simp only at h
  split at h
  · cases h; exact ⟨_, rfl, rfl⟩
  · cases h
theorem tok1 {R : List AV → Ans AV} {c : List UInt8 → Int → Bool} {a : Int → List UInt8 → Int → AV} (hR : R = fun | [.agg [.int .i64 k, .str t, .int .i64 n, .int .i64 _, .int .i64 _]] => .when (c t n) (.one (a k t n)) | _ => .no) {args : List AV} {v : AV} (h : (R args).val = some v) :
    ∃ k t n x y, args = [.agg [.int .i64 k, .str t, .int .i64 n, .int .i64 x, .int .i64 y]] ∧ c t n = true ∧ v = a k t n := by
  subst hR
  simp only at h
  split at h
  · obtain ⟨h1, h2⟩ := val_when h
    cases h2
    exact ⟨_, _, _, _, _, rfl, h1, rfl⟩
  · cases h
theorem list1 {R : List AV → Ans AV} {c : List AV → Bool} {a : List AV → AV} (hR : R = fun | [.view 5 xs] => .when (c xs) (.one (a xs)) | _ => .no) {args : List AV} {v : AV} (h : (R args).val = some v) : ∃ xs, args = [.view 5 xs] ∧ c xs = true ∧ v = a xs := by
  subst hR
  simp only at h
  split at h
  · obtain ⟨h1, h2⟩ := val_when h
    cases h2
    exact ⟨_, rfl, h1, rfl⟩
  · cases h
section
variable {W : World → Prop}
theorem step_quoted (h : Wok W) (hp : ∀ q ∈ tab.take 9, RowOK W q) : ∀ q ∈ tab.take 10, RowOK W q := by
  refine rows_step h hp (f := 55) (r := r_quoted) rfl fun args v hv => ?_
  obtain ⟨s, a, rfl, hs, rfl⟩ := stri rfl hv
  exact quoted_eq s a hs
theorem step_sign (h : Wok W) (hp : ∀ q ∈ tab.take 11, RowOK W q) : ∀ q ∈ tab.take 12, RowOK W q := by
  refine rows_step h hp (f := 68) (r := r_sign) rfl fun args v hv => ?_
  obtain ⟨b, rfl, rfl⟩ := byte1 rfl hv
  refine ⟨2, ?_⟩
  rw [e_tokens_sign 0 b, ← sign_eq b]
  cases decide (Sp.idx [40, 41, 44, 59, 46] b ≥ 0) <;> cases b == 63 <;> cases b == 61 <;> cases b == 60 <;> rfl
theorem step_signs (h : Wok W) (hp : ∀ q ∈ tab.take 12, RowOK W q) : ∀ q ∈ tab.take 13, RowOK W q := by
  refine rows_step h hp (f := 56) (r := r_signs) rfl fun args v hv => ?_
  unfold r_signs at hv
  split at hv
  · obtain ⟨h1, h2⟩ := val_when hv
    cases h2
    simp only [Bool.and_eq_true, decide_eq_true_eq, Bool.not_eq_true', List.isEmpty_eq_false_iff] at h1
    exact ⟨2, signs_eq _ _ h1.1 h1.2.1 h1.2.2⟩
  · cases hv
theorem step_number (h : Wok W) (hp : ∀ q ∈ tab.take 15, RowOK W q) : ∀ q ∈ tab.take 16, RowOK W q := by
  refine rows_step h hp (f := 54) (r := r_number) rfl fun args v hv => ?_
  obtain ⟨s, rfl, hs, rfl⟩ := str1 rfl hv
  refine ⟨2, ?_⟩
  rw [e_tokens_number 0 s, hs]
  unfold Sp.numOk Sp.numV
  cases hp : Sp.pOk s with
  | true => rw [pv_rng hp]; rfl
  | false => rfl
theorem step_token (h : Wok W) (hp : ∀ q ∈ tab.take 16, RowOK W q) : ∀ q ∈ tab.take 17, RowOK W q := by
  refine rows_step h hp (f := 37) (r := r_token) rfl fun args v hv => ?_
  obtain ⟨s, a, rfl, hs, rfl⟩ := stri rfl hv
  exact ⟨2, token_eq s a hs⟩
theorem step_cut (h : Wok W) (hp : ∀ q ∈ tab.take 17, RowOK W q) : ∀ q ∈ tab.take 18, RowOK W q := by
  refine rows_step h hp (f := 18) (r := r_cut) rfl fun args v hv => ?_
  obtain ⟨s, a, rfl, hs, rfl⟩ := stri (c := fun s _ => Sp.short s) rfl hv
  exact cut_eq s a hs
theorem step_spelling (h : Wok W) (hp : ∀ q ∈ tab.take 18, RowOK W q) : ∀ q ∈ tab.take 19, RowOK W q := by
  refine rows_step h hp (f := 180) (r := r_spelling) rfl fun args v hv => ?_
  unfold r_spelling at hv
  split at hv
  · cases hv; exact ⟨2, spelling_eq _⟩
  · cases hv
theorem step_spell (h : Wok W) (hp : ∀ q ∈ tab.take 20, RowOK W q) : ∀ q ∈ tab.take 21, RowOK W q := by
  refine rows_step h hp (f := 177) (r := r_spell) rfl fun args v hv => ?_
  obtain ⟨k, t, n, x, y, rfl, hs, rfl⟩ := tok1 (c := fun t n => Sp.short t && Sp.i64 n) rfl hv
  rw [Bool.and_eq_true] at hs
  exact ⟨2, spell_eq k n x y t hs.1 hs.2⟩
theorem step_apart (h : Wok W) (hp : ∀ q ∈ tab.take 21, RowOK W q) : ∀ q ∈ tab.take 22, RowOK W q := rows_succ (r := (999999, fun _ => .no)) hp rfl fun args v hv => by cases hv
theorem step_rsmall (h : Wok W) (hp : ∀ q ∈ tab.take 22, RowOK W q) : ∀ q ∈ tab.take 23, RowOK W q := by
  refine rows_step h hp (f := 70) (r := r_small) rfl fun args v hv => ?_
  obtain ⟨b, rfl, rfl⟩ := byte1 rfl hv
  exact ⟨1, rsmall_eq b⟩
theorem step_rgreat (h : Wok W) (hp : ∀ q ∈ tab.take 23, RowOK W q) : ∀ q ∈ tab.take 24, RowOK W q := by
  refine rows_step h hp (f := 71) (r := r_great) rfl fun args v hv => ?_
  obtain ⟨b, rfl, rfl⟩ := byte1 rfl hv
  exact ⟨1, rgreat_eq b⟩
theorem step_rdigit (h : Wok W) (hp : ∀ q ∈ tab.take 24, RowOK W q) : ∀ q ∈ tab.take 25, RowOK W q := by
  refine rows_step h hp (f := 72) (r := r_digit) rfl fun args v hv => ?_
  obtain ⟨b, rfl, rfl⟩ := byte1 rfl hv
  exact ⟨1, rdigit_eq b⟩
theorem step_rrun (h : Wok W) (hp : ∀ q ∈ tab.take 25, RowOK W q) : ∀ q ∈ tab.take 26, RowOK W q := by
  refine rows_step h hp (f := 69) (r := r_rrun) rfl fun args v hv => ?_
  obtain ⟨s, a, rfl, hs, rfl⟩ := stri rfl hv
  exact rrun_eq s a hs
theorem step_rnumber (h : Wok W) (hp : ∀ q ∈ tab.take 26, RowOK W q) : ∀ q ∈ tab.take 27, RowOK W q := by
  refine rows_succ (r := (73, r_rnumber)) hp rfl fun args v hv0 => ?_
  have hv : (r_rnumber args).val = some v := hv0
  clear hv0
  unfold r_rnumber at hv
  split at hv
  · rename_i s
    obtain ⟨h1, h2⟩ := val_when hv
    obtain ⟨n, u, hu, k1, k2⟩ := rnumber_eq s
    have hc := runA_ok (X := X 26) progOK h.glob h.ww (tableOK_of hp) (h.rowsX 26) hu
    cases hn : Sp.rNumOk s with
    | true =>
      rw [hn] at h2
      cases h2
      rw [k1 hn] at hc
      exact hc
    | false =>
      rw [hn] at h2
      cases h2
      obtain ⟨z, rfl⟩ := k2 hn
      refine callOK_weak hc ?_
      rintro st w u ⟨us, rfl, y, ys, e, _, hr⟩
      exact ⟨us, rfl, y, ys, e, trivial, hr⟩
  · cases hv
theorem step_rhex (h : Wok W) (hp : ∀ q ∈ tab.take 27, RowOK W q) : ∀ q ∈ tab.take 28, RowOK W q := by
  refine rows_step h hp (f := 94) (r := r_hex) rfl fun args v hv => ?_
  obtain ⟨b, rfl, rfl⟩ := byte1 rfl hv
  exact ⟨2, rhex_eq b⟩
theorem step_resc (h : Wok W) (hp : ∀ q ∈ tab.take 28, RowOK W q) : ∀ q ∈ tab.take 29, RowOK W q := by
  refine rows_step h hp (f := 83) (r := r_rescape) rfl fun args v hv => ?_
  obtain ⟨s, a, rfl, hs, rfl⟩ := stri rfl hv
  exact ⟨2, resc_eq s a hs⟩
theorem step_rquoted (h : Wok W) (hp : ∀ q ∈ tab.take 29, RowOK W q) : ∀ q ∈ tab.take 30, RowOK W q := by
  refine rows_step h hp (f := 74) (r := r_quoted) rfl fun args v hv => ?_
  obtain ⟨s, a, rfl, hs, rfl⟩ := stri rfl hv
  exact rquoted_eq s a hs
theorem step_one (h : Wok W) (hp : ∀ q ∈ tab.take 30, RowOK W q) : ∀ q ∈ tab.take 31, RowOK W q := rows_succ (r := (999999, fun _ => .no)) hp rfl fun args v hv => by cases hv
theorem step_rcut (h : Wok W) (hp : ∀ q ∈ tab.take 31, RowOK W q) : ∀ q ∈ tab.take 32, RowOK W q := rows_succ (r := (999999, fun _ => .no)) hp rfl fun args v hv => by cases hv
theorem step_rword (h : Wok W) (hp : ∀ q ∈ tab.take 32, RowOK W q) : ∀ q ∈ tab.take 33, RowOK W q := by
  refine rows_step h hp (f := 63) (r := r_word) rfl fun args v hv => ?_
  obtain ⟨s, rfl, hs, rfl⟩ := str1 rfl hv
  exact ⟨1, rword_eq s hs⟩
theorem step_rquote (h : Wok W) (hp : ∀ q ∈ tab.take 33, RowOK W q) : ∀ q ∈ tab.take 34, RowOK W q := by
  refine rows_step h hp (f := 48) (r := r_quote) rfl fun args v hv => ?_
  obtain ⟨s, rfl, hs, rfl⟩ := str1 rfl hv
  exact rquote_eq s hs
theorem step_rdecimal (h : Wok W) (hp : ∀ q ∈ tab.take 34, RowOK W q) : ∀ q ∈ tab.take 35, RowOK W q := rows_succ (r := (999999, fun _ => .no)) hp rfl fun args v hv => by cases hv
theorem step_rspelled (h : Wok W) (hp : ∀ q ∈ tab.take 35, RowOK W q) : ∀ q ∈ tab.take 36, RowOK W q := rows_succ (r := (999999, fun _ => .no)) hp rfl fun args v hv => by cases hv
theorem step_rbare (h : Wok W) (hp : ∀ q ∈ tab.take 36, RowOK W q) : ∀ q ∈ tab.take 37, RowOK W q := rows_succ (r := (999999, fun _ => .no)) hp rfl fun args v hv => by cases hv
theorem step_rspell (h : Wok W) (hp : ∀ q ∈ tab.take 37, RowOK W q) : ∀ q ∈ tab.take 38, RowOK W q := rows_succ (r := (999999, fun _ => .no)) hp rfl fun args v hv => by cases hv
theorem step_join (h : Wok W) (hp : ∀ q ∈ tab.take 38, RowOK W q) : ∀ q ∈ tab.take 39, RowOK W q := rows_succ (r := (999999, fun _ => .no)) hp rfl fun args v hv => by cases hv
theorem step_rjoin (h : Wok W) (hp : ∀ q ∈ tab.take 39, RowOK W q) : ∀ q ∈ tab.take 40, RowOK W q := rows_succ (r := (999999, fun _ => .no)) hp rfl fun args v hv => by cases hv
theorem step_same (h : Wok W) (hp : ∀ q ∈ tab.take 40, RowOK W q) : ∀ q ∈ tab.take 41, RowOK W q := rows_succ (r := (999999, fun _ => .no)) hp rfl fun args v hv => by cases hv
theorem step_head (h : Wok W) (hp : ∀ q ∈ tab.take 41, RowOK W q) : ∀ q ∈ tab.take 42, RowOK W q := rows_succ (r := (999999, fun _ => .no)) hp rfl fun args v hv => by cases hv
end
/-- Package tokens and the document's own answer of chapter 04. -/
theorem rows42 : ∀ q ∈ tab.take 42, RowOK Gl q := by
  have h := Wok.gl
  have r9 := rowsB h
  have r10 := step_quoted h r9
  have r11 : ∀ q ∈ tab.take 11, RowOK Gl q := rows_succ (r := (59, r_indexByte)) r10 rfl indexByte_ok
  have r13 := step_signs h (step_sign h r11)
  have r14 : ∀ q ∈ tab.take 14, RowOK Gl q := rows_succ (r := (65, r_parseInt)) r13 rfl parseInt_ok
  have r15 : ∀ q ∈ tab.take 15, RowOK Gl q := rows_succ (r := (66, r_formatInt)) r14 rfl formatInt_ok
  have r19 := step_spelling h (step_cut h (step_token h (step_number h r15)))
  have r20 : ∀ q ∈ tab.take 20, RowOK Gl q := rows_succ (r := (49, r_itoa)) r19 rfl itoa_ok
  have r26 := step_rrun h (step_rdigit h (step_rgreat h (step_rsmall h (step_apart h (step_spell h r20)))))
  have r33 := step_rword h (step_rcut h (step_one h (step_rquoted h (step_resc h (step_rhex h (step_rnumber h r26))))))
  exact step_head h (step_same h (step_rjoin h (step_join h (step_rspell h (step_rbare h (step_rspelled h (step_rdecimal h (step_rquote h r33))))))))
end Go.Proofs.YtgeheffhdpeddaaDoor.VX

/- EQUATIONS of script.byName: its loop, a round for each row. Printed by genby.py. Conditions: none. -/
namespace Go.Proofs.YtgeheffhdpeddaaDoor.VX
open Go Go.Proofs Go.Proofs.YtgeheffhdpeddaaDoor
noncomputable def LBy (n m : Nat) (s : List UInt8) (i : Int) : Option AV := runL Tryd.prog (X 42) (n + 2) 34 [⟨0, m, [1], 5⟩] [(.x, (.num 12)), ((.t 0), (.av (.str s) .none)), ((.t 6), (.av (.agg rowsG) .none)), ((.t 7), (.av (.int .i64 i) .none)), ((.t 2), (.av (.ptr 1 0) .none)), ((.o 1), (.obj [(.str [], .none), (.int .i64 0, .none), (.raw .nilFunc, .none)])), ((.l 5), (.flag false)), ((.l 6), (.flag false)), ((.l 7), (.flag false)), ((.l 8), (.flag false)), ((.l 9), (.flag false)), ((.l 10), (.flag false)), ((.l 11), (.flag false)), ((.y 1), (.num 55))]
theorem e_byName (n : Nat) (s : List UInt8) : runA Tryd.prog (X 42) (n + 3) 34 [.str s] = LBy n (n + 2) s 0 := by kernel_rfl
theorem LBy_0 (n m : Nat) (s : List UInt8) : LBy n (m + 1) s 0 = bif ([101, 110, 114, 111, 108, 108] : List UInt8) == s then some (.tup [.agg [.str [101, 110, 114, 111, 108, 108], .int .i64 1, .fn (.func 126) [] []], .bool true]) else LBy n m s 1 := by unfold LBy; rw [runL_round]; kernel_rfl
theorem LBy_1 (n m : Nat) (s : List UInt8) : LBy n (m + 1) s 1 = bif ([97, 115, 115, 101, 114, 116] : List UInt8) == s then some (.tup [.agg [.str [97, 115, 115, 101, 114, 116], .int .i64 2, .fn (.func 128) [] []], .bool true]) else LBy n m s 2 := by unfold LBy; rw [runL_round]; kernel_rfl
theorem LBy_2 (n m : Nat) (s : List UInt8) : LBy n (m + 1) s 2 = bif ([114, 101, 116, 114, 97, 99, 116] : List UInt8) == s then some (.tup [.agg [.str [114, 101, 116, 114, 97, 99, 116], .int .i64 3, .fn (.func 130) [] []], .bool true]) else LBy n m s 3 := by unfold LBy; rw [runL_round]; kernel_rfl
theorem LBy_3 (n m : Nat) (s : List UInt8) : LBy n (m + 1) s 3 = bif ([101, 120, 112, 111, 114, 116] : List UInt8) == s then some (.tup [.agg [.str [101, 120, 112, 111, 114, 116], .int .i64 4, .fn (.func 131) [] []], .bool true]) else LBy n m s 4 := by unfold LBy; rw [runL_round]; kernel_rfl
theorem LBy_4 (n m : Nat) (s : List UInt8) : LBy n (m + 1) s 4 = bif ([105, 109, 112, 111, 114, 116] : List UInt8) == s then some (.tup [.agg [.str [105, 109, 112, 111, 114, 116], .int .i64 5, .fn (.func 133) [] []], .bool true]) else LBy n m s 5 := by unfold LBy; rw [runL_round]; kernel_rfl
theorem LBy_5 (n m : Nat) (s : List UInt8) : LBy n (m + 1) s 5 = bif ([102, 111, 114, 103, 101, 116] : List UInt8) == s then some (.tup [.agg [.str [102, 111, 114, 103, 101, 116], .int .i64 6, .fn (.func 134) [] []], .bool true]) else LBy n m s 6 := by unfold LBy; rw [runL_round]; kernel_rfl
theorem LBy_6 (n m : Nat) (s : List UInt8) : LBy n (m + 1) s 6 = bif ([113, 117, 101, 114, 121] : List UInt8) == s then some (.tup [.agg [.str [113, 117, 101, 114, 121], .int .i64 7, .fn (.func 135) [] []], .bool true]) else LBy n m s 7 := by unfold LBy; rw [runL_round]; kernel_rfl
theorem LBy_7 (n m : Nat) (s : List UInt8) : LBy n (m + 1) s 7 = bif ([97, 115, 107] : List UInt8) == s then some (.tup [.agg [.str [97, 115, 107], .int .i64 8, .fn (.func 136) [] []], .bool true]) else LBy n m s 8 := by unfold LBy; rw [runL_round]; kernel_rfl
theorem LBy_8 (n m : Nat) (s : List UInt8) : LBy n (m + 1) s 8 = bif ([119, 97, 116, 99, 104] : List UInt8) == s then some (.tup [.agg [.str [119, 97, 116, 99, 104], .int .i64 9, .fn (.func 137) [] []], .bool true]) else LBy n m s 9 := by unfold LBy; rw [runL_round]; kernel_rfl
theorem LBy_9 (n m : Nat) (s : List UInt8) : LBy n (m + 1) s 9 = bif ([110, 101, 119, 115] : List UInt8) == s then some (.tup [.agg [.str [110, 101, 119, 115], .int .i64 10, .fn (.func 138) [] []], .bool true]) else LBy n m s 10 := by unfold LBy; rw [runL_round]; kernel_rfl
theorem LBy_10 (n m : Nat) (s : List UInt8) : LBy n (m + 1) s 10 = bif ([119, 104, 121] : List UInt8) == s then some (.tup [.agg [.str [119, 104, 121], .int .i64 11, .fn (.func 139) [] []], .bool true]) else LBy n m s 11 := by unfold LBy; rw [runL_round]; kernel_rfl
theorem LBy_11 (n m : Nat) (s : List UInt8) : LBy n (m + 1) s 11 = bif ([108, 111, 115, 115] : List UInt8) == s then some (.tup [.agg [.str [108, 111, 115, 115], .int .i64 12, .fn (.func 140) [] []], .bool true]) else LBy n m s 12 := by unfold LBy; rw [runL_round]; kernel_rfl
theorem LBy_12 (n m : Nat) (s : List UInt8) : LBy n (m + 1) s 12 = bif ([112, 114, 111, 118, 101] : List UInt8) == s then some (.tup [.agg [.str [112, 114, 111, 118, 101], .int .i64 13, .fn (.func 142) [] []], .bool true]) else LBy n m s 13 := by unfold LBy; rw [runL_round]; kernel_rfl
theorem LBy_13 (n m : Nat) (s : List UInt8) : LBy n (m + 1) s 13 = bif ([115, 104, 111, 119] : List UInt8) == s then some (.tup [.agg [.str [115, 104, 111, 119], .int .i64 14, .fn (.func 143) [] []], .bool true]) else LBy n m s 14 := by unfold LBy; rw [runL_round]; kernel_rfl
theorem LBy_14 (n m : Nat) (s : List UInt8) : LBy n (m + 1) s 14 = bif ([99, 108, 97, 117, 115, 101, 115] : List UInt8) == s then some (.tup [.agg [.str [99, 108, 97, 117, 115, 101, 115], .int .i64 15, .fn (.func 144) [] []], .bool true]) else LBy n m s 15 := by unfold LBy; rw [runL_round]; kernel_rfl
theorem LBy_15 (n m : Nat) (s : List UInt8) : LBy n (m + 1) s 15 = bif ([114, 101, 100, 117, 110, 100, 97, 110, 116] : List UInt8) == s then some (.tup [.agg [.str [114, 101, 100, 117, 110, 100, 97, 110, 116], .int .i64 24, .fn (.func 145) [] []], .bool true]) else LBy n m s 16 := by unfold LBy; rw [runL_round]; kernel_rfl
theorem LBy_16 (n m : Nat) (s : List UInt8) : LBy n (m + 1) s 16 = bif ([100, 114, 111, 112] : List UInt8) == s then some (.tup [.agg [.str [100, 114, 111, 112], .int .i64 16, .fn (.func 146) [] []], .bool true]) else LBy n m s 17 := by unfold LBy; rw [runL_round]; kernel_rfl
theorem LBy_17 (n m : Nat) (s : List UInt8) : LBy n (m + 1) s 17 = bif ([99, 111, 112, 121] : List UInt8) == s then some (.tup [.agg [.str [99, 111, 112, 121], .int .i64 17, .fn (.func 147) [] []], .bool true]) else LBy n m s 18 := by unfold LBy; rw [runL_round]; kernel_rfl
theorem LBy_18 (n m : Nat) (s : List UInt8) : LBy n (m + 1) s 18 = bif ([115, 119, 97, 112] : List UInt8) == s then some (.tup [.agg [.str [115, 119, 97, 112], .int .i64 18, .fn (.func 148) [] []], .bool true]) else LBy n m s 19 := by unfold LBy; rw [runL_round]; kernel_rfl
theorem LBy_19 (n m : Nat) (s : List UInt8) : LBy n (m + 1) s 19 = bif ([102, 108, 105, 112] : List UInt8) == s then some (.tup [.agg [.str [102, 108, 105, 112], .int .i64 19, .fn (.func 150) [] []], .bool true]) else LBy n m s 20 := by unfold LBy; rw [runL_round]; kernel_rfl
theorem LBy_20 (n m : Nat) (s : List UInt8) : LBy n (m + 1) s 20 = bif ([99, 117, 116] : List UInt8) == s then some (.tup [.agg [.str [99, 117, 116], .int .i64 20, .fn (.func 152) [] []], .bool true]) else LBy n m s 21 := by unfold LBy; rw [runL_round]; kernel_rfl
theorem LBy_21 (n m : Nat) (s : List UInt8) : LBy n (m + 1) s 21 = bif ([102, 111, 114, 103, 101] : List UInt8) == s then some (.tup [.agg [.str [102, 111, 114, 103, 101], .int .i64 21, .fn (.func 153) [] []], .bool true]) else LBy n m s 22 := by unfold LBy; rw [runL_round]; kernel_rfl
theorem LBy_22 (n m : Nat) (s : List UInt8) : LBy n (m + 1) s 22 = bif ([119, 97, 105, 116, 105, 110, 103] : List UInt8) == s then some (.tup [.agg [.str [119, 97, 105, 116, 105, 110, 103], .int .i64 22, .fn (.func 155) [] []], .bool true]) else LBy n m s 23 := by unfold LBy; rw [runL_round]; kernel_rfl
theorem LBy_23 (n m : Nat) (s : List UInt8) : LBy n (m + 1) s 23 = bif ([99, 114, 97, 115, 104] : List UInt8) == s then some (.tup [.agg [.str [99, 114, 97, 115, 104], .int .i64 23, .fn (.func 156) [] []], .bool true]) else LBy n m s 24 := by unfold LBy; rw [runL_round]; kernel_rfl
theorem LBy_24 (n m : Nat) (s : List UInt8) : LBy n (m + 1) s 24 = some (.tup [.agg [.str [], .int .i64 0, .raw .nilFunc], .bool false]) := by unfold LBy; rw [runL_round]; kernel_rfl
theorem byName_eq (s : List UInt8) : runA Tryd.prog (X 42) 33 34 [.str s] = (byAns s rowsL).val := by
  rw [e_byName 30 s, LBy_0, LBy_1, LBy_2, LBy_3, LBy_4, LBy_5, LBy_6, LBy_7, LBy_8, LBy_9, LBy_10, LBy_11, LBy_12, LBy_13, LBy_14, LBy_15, LBy_16, LBy_17, LBy_18, LBy_19, LBy_20, LBy_21, LBy_22, LBy_23, LBy_24]
  rfl
end Go.Proofs.YtgeheffhdpeddaaDoor.VX

/- ROWS 42 to 75 of the table hold: the row of a name, the parts of lines. Conditions: as each theorem states. -/
namespace Go.Proofs.YtgeheffhdpeddaaDoor.VX
open Go Go.Proofs Go.Proofs.YtgeheffhdpeddaaDoor
theorem step_c {k : Nat} {f : Nat} {v : AV} (hp : ∀ q ∈ tab.take k, RowOK Gl q) (hk : tab[k]? = some (f, r_c v)) (he : ∃ n, runA Tryd.prog (X k) n f [] = some v) : ∀ q ∈ tab.take (k + 1), RowOK Gl q := by
  refine rows_step Wok.gl hp hk fun args u hu => ?_
  unfold r_c at hu
  split at hu
  · cases hu; exact he
  · cases hu

theorem rows43 : ∀ q ∈ tab.take 43, RowOK Gl q := by
  refine rows_step Wok.gl rows42 (f := 34) (r := r_byName) rfl fun args v hv => ?_
  unfold r_byName at hv
  split at hv
  · exact ⟨33, (byName_eq _).trans hv⟩
  · cases hv
theorem rows44 : ∀ q ∈ tab.take 44, RowOK Gl q := by
  refine rows_step Wok.gl rows43 (f := 157) (r := r_name) rfl fun args v hv => ?_
  unfold r_name at hv
  split at hv
  · cases hv; exact ⟨3, by kernel_rfl⟩
  · cases hv
theorem rows45 : ∀ q ∈ tab.take 45, RowOK Gl q := by
  refine rows_step Wok.gl rows44 (f := 163) (r := r_numb) rfl fun args v hv => ?_
  unfold r_numb at hv
  split at hv
  · cases hv; exact ⟨3, by kernel_rfl⟩
  · cases hv
theorem rows46 : ∀ q ∈ tab.take 46, RowOK Gl q := step_c rows45 rfl ⟨3, by kernel_rfl⟩
theorem rows47 : ∀ q ∈ tab.take 47, RowOK Gl q := step_c rows46 rfl ⟨3, by kernel_rfl⟩
theorem rows48 : ∀ q ∈ tab.take 48, RowOK Gl q := step_c rows47 rfl ⟨3, by kernel_rfl⟩
theorem rows49 : ∀ q ∈ tab.take 49, RowOK Gl q := step_c rows48 rfl ⟨3, by kernel_rfl⟩
theorem rows50 : ∀ q ∈ tab.take 50, RowOK Gl q := step_c rows49 rfl ⟨3, by kernel_rfl⟩
theorem rows51 : ∀ q ∈ tab.take 51, RowOK Gl q := step_c rows50 rfl ⟨3, by kernel_rfl⟩
theorem rows52 : ∀ q ∈ tab.take 52, RowOK Gl q := step_c rows51 rfl ⟨3, by kernel_rfl⟩
theorem rows53 : ∀ q ∈ tab.take 53, RowOK Gl q := step_c rows52 rfl ⟨3, by kernel_rfl⟩
theorem rows54 : ∀ q ∈ tab.take 54, RowOK Gl q := step_c rows53 rfl ⟨3, by kernel_rfl⟩
theorem rows55 : ∀ q ∈ tab.take 55, RowOK Gl q := step_c rows54 rfl ⟨3, by kernel_rfl⟩
theorem rows56 : ∀ q ∈ tab.take 56, RowOK Gl q := step_c rows55 rfl ⟨3, by kernel_rfl⟩
theorem rows57 : ∀ q ∈ tab.take 57, RowOK Gl q := step_c rows56 rfl ⟨3, by kernel_rfl⟩
theorem rows58 : ∀ q ∈ tab.take 58, RowOK Gl q := step_c rows57 rfl ⟨3, by kernel_rfl⟩
theorem rows59 : ∀ q ∈ tab.take 59, RowOK Gl q := step_c rows58 rfl ⟨3, by kernel_rfl⟩
theorem rows60 : ∀ q ∈ tab.take 60, RowOK Gl q := step_c rows59 rfl ⟨3, by kernel_rfl⟩
theorem rows61 : ∀ q ∈ tab.take 61, RowOK Gl q := step_c rows60 rfl ⟨3, by kernel_rfl⟩
theorem rows62 : ∀ q ∈ tab.take 62, RowOK Gl q := step_c rows61 rfl ⟨3, by kernel_rfl⟩
theorem rows63 : ∀ q ∈ tab.take 63, RowOK Gl q := step_c rows62 rfl ⟨3, by kernel_rfl⟩
theorem rows64 : ∀ q ∈ tab.take 64, RowOK Gl q := step_c rows63 rfl ⟨3, by kernel_rfl⟩
theorem rows65 : ∀ q ∈ tab.take 65, RowOK Gl q := step_c rows64 rfl ⟨3, by kernel_rfl⟩
theorem rows66 : ∀ q ∈ tab.take 66, RowOK Gl q := step_c rows65 rfl ⟨3, by kernel_rfl⟩
theorem rows67 : ∀ q ∈ tab.take 67, RowOK Gl q := step_c rows66 rfl ⟨3, by kernel_rfl⟩
theorem rows68 : ∀ q ∈ tab.take 68, RowOK Gl q := step_c rows67 rfl ⟨3, by kernel_rfl⟩
theorem rows69 : ∀ q ∈ tab.take 69, RowOK Gl q := step_c rows68 rfl ⟨3, by kernel_rfl⟩
theorem rows70 : ∀ q ∈ tab.take 70, RowOK Gl q := step_c rows69 rfl ⟨3, by kernel_rfl⟩
theorem rows71 : ∀ q ∈ tab.take 71, RowOK Gl q := step_c rows70 rfl ⟨3, by kernel_rfl⟩
theorem rows72 : ∀ q ∈ tab.take 72, RowOK Gl q := step_c rows71 rfl ⟨3, by kernel_rfl⟩
theorem rows73 : ∀ q ∈ tab.take 73, RowOK Gl q := step_c rows72 rfl ⟨3, by kernel_rfl⟩
theorem rows74 : ∀ q ∈ tab.take 74, RowOK Gl q := step_c rows73 rfl ⟨3, by kernel_rfl⟩
theorem rows75 : ∀ q ∈ tab.take 75, RowOK Gl q := step_c rows74 rfl ⟨3, by kernel_rfl⟩
theorem rows76 : ∀ q ∈ tab.take 76, RowOK Gl q := step_c rows75 rfl ⟨3, by kernel_rfl⟩
end Go.Proofs.YtgeheffhdpeddaaDoor.VX

/- THE LIBRARY's FUNCTIONS OF CHAPTER 25 WHOSE CONTRACTS ARE GIVEN: strings.Join, bytes.Clone. Conditions: as each theorem states. -/
namespace Go.Proofs.YtgeheffhdpeddaaDoor.VX
open Go Go.Proofs Go.RowKit Go.Shelf
theorem u8_list : ∀ {xs : List AV}, xs.all isU8 = true → xs = (Sp.bys xs).map .u8
  | [], _ => rfl
  | x :: xs, h => by
    simp only [List.all_cons, Bool.and_eq_true] at h
    cases x <;> first | (cases h.1) | skip
    rw [show Sp.bys (AV.u8 _ :: xs) = _ :: Sp.bys xs from rfl, List.map_cons, ← u8_list h.2]
    rfl
theorem s_list : ∀ {xs : List AV}, xs.all isS = true → xs = (Sp.strs xs).map .str
  | [], _ => rfl
  | x :: xs, h => by
    simp only [List.all_cons, Bool.and_eq_true] at h
    cases x <;> first | (cases h.1) | skip
    rw [show Sp.strs (AV.str _ :: xs) = _ :: Sp.strs xs from rfl, List.map_cons, ← s_list h.2]
    rfl
theorem clone_ok : RowOK Gl (27, r_clone) := by
  intro args v hv0
  have hv : (r_clone args).val = some v := hv0
  clear hv0
  unfold r_clone at hv
  split at hv
  · rename_i xs
    obtain ⟨hc, hv⟩ := val_when hv
    cases hv
    simp only [Bool.and_eq_true, decide_eq_true_eq] at hc
    obtain ⟨ha, hl⟩ := hc
    have hx := u8_list ha
    generalize Sp.bys xs = s at hx
    subst hx
    rw [List.length_map] at hl
    refine ⟨⟨_, Tryd.func27, rfl⟩, fun st w vals hW hlt hr => ?_⟩
    obtain ⟨_, _, rfl, ⟨a, cap, rfl, hcap, hh⟩, rfl⟩ := hr
    cases a with
    | none =>
      have h0 : s = [] := by simpa using hh
      subst h0
      refine (Tryd.bytes_Clone_nil _ cap w).mono ?_
      rintro e w' ⟨rfl, rfl⟩
      exact ⟨_, st, rfl, Grows.same hlt, none, 0, rfl, Nat.le_refl _, rfl⟩
    | some ad =>
      obtain ⟨hsp, hE⟩ := hh
      obtain ⟨k0, us, k1, k2, k3, k4⟩ := hE.vals
      rw [u8s_flat] at k1
      have hus := u8s_of k1
      have hlen : us.length = s.length := by rw [hus]; simp
      obtain ⟨bl, of_, sp⟩ := ad
      have hcell := spot_cells hsp hcap (n := 1) (us := us) (by rw [hlen, Nat.mul_one, List.length_map]) k3
      refine (Tryd.bytes_Clone_at ⟨bl, of_, sp⟩ _ cap (s.map fun b => (b.toNat : Int)) w (by simp) (by rw [List.length_map]; omega) (fun i hi => ?_)).mono ?_
      · rw [List.length_map] at hi
        refine hcell i _ ?_
        rw [hus, List.getElem?_map, List.getD_eq_getElem?_getD, List.getElem?_eq_getElem (by simpa using hi)]
        rfl
      · rintro e w' ⟨v', rfl, ⟨_, ho⟩, _, hb⟩
        rw [List.length_map] at ho
        rcases ho with ⟨rfl, h0⟩ | ⟨g, cap', cur, rfl, hg, hheap, hn, _, hsz, htake⟩
        · obtain rfl : s = [] := List.length_eq_zero_iff.mp h0
          exact ⟨_, st, rfl, grows_below hlt hb, none, 0, rfl, Nat.le_refl _, rfl⟩
        · refine ⟨_, fun b o => st b o ∨ (b = g ∧ o < s.length), rfl, ⟨hb, fun _ _ x => .inl x, fun b o x => x.elim .inl fun y => .inr (by rw [y.1]; exact hg), fun b o x => x.elim (fun y => Nat.lt_of_lt_of_le (hlt b o y) hb.size) fun y => by rw [y.1]; exact lt_heap hheap⟩, ?_⟩
          refine ⟨some ⟨g, 0, none⟩, cap', by rw [List.length_map], by rw [List.length_map]; exact hn, .inr rfl, ?_⟩
          refine EsRel.mk (us := s.map fun b => Value.int .u8 b.toNat) (u8s_each s) (by rw [u8s_flat]; exact u8s_vals s) ?_ ?_ ?_
          · intro v hv; obtain ⟨b, _, rfl⟩ := List.mem_map.mp hv; rfl
          · refine LieAt.row hheap fun i v hv => ?_
            have e : (s.map fun b => Value.int .u8 b.toNat) = cur.toList.take (s.length * 1) := by rw [htake]; simp
            rw [e] at hv
            rw [List.getElem?_take] at hv
            split at hv
            · simpa using hv
            · cases hv
          · intro i hi; exact .inr ⟨rfl, by simpa using hi⟩
  · cases hv
theorem join_lib : ∀ l : List (List UInt8), Lib.join l [32] = Sp.joinL [32] l
  | [] => rfl
  | [s] => by simp [Lib.join, Sp.joinL, List.intercalate]
  | s :: t :: l => by
    have ih := join_lib (t :: l)
    unfold Lib.join at ih ⊢
    rw [Sp.joinL, ← ih]
    simp [List.intercalate]
theorem joinL_len : ∀ l : List (List UInt8), (Sp.joinL [32] l).length ≤ Sp.sizes l + l.length
  | [] => Nat.le_refl _
  | [s] => by simp [Sp.joinL, Sp.sizes]
  | s :: t :: l => by
    have ih := joinL_len (t :: l)
    simp only [Sp.joinL, Sp.sizes, List.length_append, List.length_cons, List.length_nil] at ih ⊢
    omega
theorem sjoin_ok : RowOK Gl (28, r_sjoin) := by
  intro args v hv0
  have hv : (r_sjoin args).val = some v := hv0
  clear hv0
  unfold r_sjoin at hv
  split at hv
  · rename_i xs
    obtain ⟨hc, hv⟩ := val_when hv
    cases hv
    simp only [Bool.and_eq_true, decide_eq_true_eq] at hc
    obtain ⟨ha, hl⟩ := hc
    have hx := s_list ha
    generalize Sp.strs xs = l at hx hl
    subst hx
    rw [List.length_map] at hl
    have hjl := joinL_len l
    refine ⟨⟨_, Tryd.func28, rfl⟩, fun st w vals hW hlt hr => ?_⟩
    obtain ⟨_, _, rfl, ⟨a, cap, rfl, hcap, hh⟩, _, _, rfl, rfl, rfl⟩ := hr
    rw [List.length_map] at hcap ⊢
    by_cases h0 : l = []
    · subst h0
      refine (Tryd.strings_Join_none a cap ⟨#[32]⟩ w).mono ?_
      rintro e w' ⟨rfl, rfl⟩
      exact ⟨_, st, rfl, Grows.same hlt, rfl⟩
    · have hpos : 0 < l.length := List.length_pos_iff.mpr h0
      cases a with
      | none => exact absurd (by simpa using hh) h0
      | some ad =>
        obtain ⟨hsp, hE⟩ := hh
        obtain ⟨bl, of_, sp⟩ := ad
        obtain rfl : sp = none := hsp.resolve_left (by omega)
        have hget : ∀ (j : Nat) (s : List UInt8), l[j]? = some s → w.cell? ⟨bl, of_ + j, none⟩ = some (.string ⟨s.toArray⟩) ∧ bl < w.heap.size := by
          intro j s hj
          obtain ⟨cs, hcs, _, hR⟩ := hE.get (i := j) (x := .str s) (by rw [List.getElem?_map, hj]; rfl)
          cases hcs
          obtain ⟨⟨v, h1, h2, _, h3⟩, _⟩ := hR
          obtain rfl : v = .string ⟨s.toArray⟩ := h3
          rw [Nat.mul_one] at h1 h2
          exact ⟨h2, hlt _ _ h1⟩
        have hb0 := (hget 0 (l[0]'hpos) (List.getElem?_eq_getElem hpos)).2
        have hmm : (l.map fun s => (⟨s.toArray⟩ : ByteArray)).map (·.data.toList) = l := by simp [Function.comp_def]
        have hj : Lib.join ((l.map fun s => (⟨s.toArray⟩ : ByteArray)).map (·.data.toList)) [32] = Sp.joinL [32] l := by rw [hmm, join_lib]
        have hcall := Tryd.strings_Join bl of_ cap (l.map fun s => (⟨s.toArray⟩ : ByteArray)) ⟨#[32]⟩ w (fun j x hx => by
          rw [List.getElem?_map] at hx
          obtain ⟨s, hs, rfl⟩ := Option.map_eq_some_iff.mp hx
          exact (hget j s hs).1) hb0 (by rw [List.length_map]; omega) (by rw [List.length_map]; exact hcap) (by
            show (Lib.join _ [32]).length ≤ _
            rw [hj]; omega)
        rw [List.length_map] at hcall
        refine hcall.mono ?_
        rintro e w' ⟨rfl, hb⟩
        refine ⟨_, st, rfl, grows_below hlt hb, ?_⟩
        show Value.string ⟨(Lib.join _ [32]).toArray⟩ = _
        rw [hj]
  · cases hv
end Go.Proofs.YtgeheffhdpeddaaDoor.VX
