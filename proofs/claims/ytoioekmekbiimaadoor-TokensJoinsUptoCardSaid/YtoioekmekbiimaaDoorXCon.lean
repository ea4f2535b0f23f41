/-
  Texts laid together: THE LIBRARY's FUNCTIONS WHOSE CONTRACTS ARE GIVEN; THE WHOLE TABLE HOLDS; A ROW's ARGUMENTS, OPENED; WHAT A ROW's LIST OF VARIABLES GIVES. Conditions: as each theorem states.
-/
import Derived.Test.YtoioekmekbiimaaDoorShelf
import Derived.Test.YtoioekmekbiimaaDoorXBld
import Derived.Test.YtoioekmekbiimaaDoorXPlS
import Derived.Lib.AtoiErrMem
import Derived.Lib.AppendIntMem
import Derived.Lib.LaidTab
import Derived.WalkSmall
import Derived.Test.YtoioekmekbiimaaDoorXPlR
import Derived.Test.YtoioekmekbiimaaDoorRows
import Derived.ChangeSlices
import Derived.Stop.LaidErr
import Derived.WalkKit
import Derived.ProofKit
import Derived.LaidLaws
/- THE LIBRARY's FUNCTIONS WHOSE CONTRACTS ARE GIVEN: rows of the table; what is asked of the world. Conditions: as each theorem states. -/
namespace Go.Proofs.YtoioekmekbiimaaDoor.VX
open Go Go.Proofs Go.RowKit Go.Shelf

theorem gSigns : Tryd.prog.globalNamed "hearsay/hearsayref04.signs" = some 1 := by kernel_rfl
theorem gKinds : Tryd.prog.globalNamed "hearsay/hearsayref04.kinds" = some 0 := by kernel_rfl
theorem gPow : Tryd.prog.globalNamed "internal/strconv.uint64pow10" = some 6 := by kernel_rfl
theorem gES : Tryd.prog.globalNamed "strconv.ErrSyntax" = some 7 := by kernel_rfl
theorem gER : Tryd.prog.globalNamed "strconv.ErrRange" = some 8 := by kernel_rfl
def signsRow : Array Value := #[.string ⟨#[58, 45]⟩, .string ⟨#[33, 61]⟩, .string ⟨#[60, 61]⟩, .string ⟨#[40]⟩, .string ⟨#[41]⟩, .string ⟨#[44]⟩, .string ⟨#[59]⟩, .string ⟨#[46]⟩, .string ⟨#[63]⟩, .string ⟨#[61]⟩, .string ⟨#[60]⟩]
def kindsRow : Array Value := #[.int .i64 11, .int .i64 14, .int .i64 16, .int .i64 6, .int .i64 7, .int .i64 8, .int .i64 9, .int .i64 10, .int .i64 12, .int .i64 13, .int .i64 15]
/-- The package-level variables that the road meets hold what the row lists. -/
structure Gl (w : World) : Prop where
  pow : Lib.TabIs Tryd.prog w "internal/strconv.uint64pow10" .u64 Lib.pow10Tab
  es : ∃ t p, w.var? Tryd.prog "strconv.ErrSyntax" = some #[.iface t p]
  er : ∃ t p, w.var? Tryd.prog "strconv.ErrRange" = some #[.iface t p]
  sg : w.var? Tryd.prog "hearsay/hearsayref04.signs" = some signsRow
  kd : w.var? Tryd.prog "hearsay/hearsayref04.kinds" = some kindsRow
theorem var_lt {n : String} {g : Nat} {cs : Array Value} {w : World} (hg : Tryd.prog.globalNamed n = some g) (h : w.var? Tryd.prog n = some cs) : g < w.heap.size ∧ ∃ ty fz, w.heap[g]? = some (.cells cs ty fz) := by
  simp only [World.var?, hg, Option.bind_some] at h
  split at h
  · rename_i c ty fz hh
    cases h
    exact ⟨lt_heap hh, ty, fz, hh⟩
  · cases h
theorem Gl.ww : WW Gl := fun w w' h b => by
  obtain ⟨h1, ⟨t, p, h2⟩, ⟨t', p', h3⟩, h4, h5⟩ := h
  exact ⟨var?_below b gPow (var_lt gPow h1).1 h1, ⟨t, p, var?_below b gES (var_lt gES h2).1 h2⟩, ⟨t', p', var?_below b gER (var_lt gER h3).1 h3⟩, var?_below b gSigns (var_lt gSigns h4).1 h4, var?_below b gKinds (var_lt gKinds h5).1 h5⟩
theorem strs_rel {w : World} : ∀ l : List (List UInt8), VRels (fun _ _ => False) w nop (l.map .str) (l.map fun s => Value.string ⟨s.toArray⟩)
  | [] => rfl
  | s :: l => ⟨_, _, rfl, rfl, strs_rel l⟩
theorem i64s_rel {w : World} : ∀ l : List Int, VRels (fun _ _ => False) w nop (l.map (.int .i64)) (l.map fun n => Value.int .i64 n)
  | [] => rfl
  | s :: l => ⟨_, _, rfl, rfl, i64s_rel l⟩
theorem Gl.glob (w : World) (h : Gl w) : GlobOK globs w := by
  intro i cs hi
  have hm := getRow_mem (show getRow i [(1, signsG), (0, kindsG)] = some cs from hi)
  simp only [List.mem_cons, List.not_mem_nil, or_false, Prod.mk.injEq] at hm
  rcases hm with ⟨rfl, rfl⟩ | ⟨rfl, rfl⟩
  · obtain ⟨_, ty, fz, hh⟩ := var_lt gSigns h.sg
    refine ⟨_, ty, fz, hh, fun u hu => ?_, ?_⟩
    · simp [signsRow] at hu
      rcases hu with rfl | rfl | rfl | rfl | rfl | rfl | rfl | rfl | rfl | rfl | rfl <;> rfl
    · exact strs_rel [[58, 45], [33, 61], [60, 61], [40], [41], [44], [59], [46], [63], [61], [60]]
  · obtain ⟨_, ty, fz, hh⟩ := var_lt gKinds h.kd
    refine ⟨_, ty, fz, hh, fun u hu => ?_, ?_⟩
    · simp [kindsRow] at hu
      rcases hu with rfl | rfl | rfl | rfl | rfl | rfl | rfl | rfl | rfl | rfl | rfl <;> rfl
    · exact i64s_rel [11, 14, 16, 6, 7, 8, 9, 10, 12, 13, 15]
theorem Wok.gl : Wok Gl := ⟨Gl.glob, Gl.ww, bldRows_ok 0⟩

theorem grows_below {st : Cells} {w w' : World} (h : ∀ b o, st b o → b < w.heap.size) (hb : Below w.heap.size w w') : Grows st w st w' :=
  ⟨hb, fun _ _ x => x, fun _ _ x => .inl x, fun b o x => Nat.lt_of_lt_of_le (h b o x) hb.size⟩
theorem byte_back (c : UInt8) : ((c.toNat : Int)).toNat.toUInt8 = c := by simp
theorem indexByte_ok : RowOK Gl (77, r_indexByte) := by
  intro args v hv0
  have hv : (r_indexByte args).val = some v := hv0
  clear hv0
  unfold r_indexByte at hv
  split at hv
  · rename_i s c
    cases hv
    refine ⟨⟨_, Tryd.func77, rfl⟩, fun st w vals hW hlt hr => ?_⟩
    obtain ⟨_, _, rfl, rfl, _, _, rfl, rfl, rfl⟩ := hr
    refine (Tryd.strings_IndexByte ⟨s.toArray⟩ c.toNat w).mono ?_
    rintro e w' ⟨rfl, rfl⟩
    rw [byte_back]
    exact ⟨_, st, rfl, Grows.same hlt, rfl⟩
  · cases hv
theorem parseInt_ok : RowOK Gl (63, r_parseInt) := by
  intro args v hv0
  have hv : (r_parseInt args).val = some v := hv0
  clear hv0
  unfold r_parseInt at hv
  split at hv
  · rename_i s
    obtain ⟨hs, hv⟩ := val_when hv
    have hs := Sp.short_lt hs
    have hsz : (⟨s.toArray⟩ : ByteArray).size = s.length := by show s.toArray.size = _; simp
    refine ⟨⟨_, Tryd.func63, rfl⟩, fun st w vals hW hlt hr => ?_⟩
    obtain ⟨_, _, rfl, rfl, _, _, rfl, rfl, _, _, rfl, rfl, rfl⟩ := hr
    cases hp : Lib.parseIntB 64 s with
    | ok n =>
      have e1 : Sp.pOk s = true := by unfold Sp.pOk; rw [hp]
      have e2 : Sp.pV s = n := by unfold Sp.pV; rw [hp]
      rw [e1, e2] at hv
      cases hv
      refine (Tryd.strconv_ParseInt_10_at64_ok ⟨s.toArray⟩ (by omega) n hp w).mono ?_
      rintro e w' ⟨rfl, hw⟩
      refine ⟨_, st, rfl, grows_below hlt ?_, ?_⟩
      · rcases hw with rfl | ⟨t, rfl⟩
        · exact Below.refl _ _
        · exact Lib.bytesWorld_below _ _ _
      · exact ⟨_, rfl, _, _, rfl, rfl, _, _, rfl, rfl, rfl⟩
    | range =>
      have e1 : Sp.pOk s = false := by unfold Sp.pOk; rw [hp]
      have e2 : Sp.pV s = Lib.intSat 64 s := by unfold Sp.pV; rw [hp]
      rw [e1, e2] at hv
      cases hv
      obtain ⟨t, p, hvar⟩ := hW.er
      refine (Tryd.strconv_ParseInt_10_at64_range_var ⟨s.toArray⟩ (by omega) hp t p w hvar).mono ?_
      rintro e w' ⟨N, rfl, _, _, hb⟩
      exact ⟨_, st, rfl, grows_below hlt hb, _, rfl, _, _, rfl, rfl, _, _, rfl, ⟨_, rfl, trivial⟩, rfl⟩
    | _ =>
      have e1 : Sp.pOk s = false := by unfold Sp.pOk; rw [hp]
      have e2 : Sp.pV s = 0 := by unfold Sp.pV; rw [hp]
      rw [e1, e2] at hv
      cases hv
      obtain ⟨t, p, hvar⟩ := hW.es
      refine (Any.strconv_ParseInt_10_at64_syntax_var Tryd.laysC174 ⟨s.toArray⟩ (by omega) hp t p w hvar).mono ?_
      rintro e w' ⟨N, rfl, _, _, hb⟩
      exact ⟨_, st, rfl, grows_below hlt hb, _, rfl, _, _, rfl, rfl, _, _, rfl, ⟨_, rfl, trivial⟩, rfl⟩
  · cases hv
theorem formatInt_ok : RowOK Gl (64, r_formatInt) := by
  intro args v hv0
  have hv : (r_formatInt args).val = some v := hv0
  clear hv0
  unfold r_formatInt at hv
  split at hv
  · rename_i n
    obtain ⟨hs, hv⟩ := val_when hv
    cases hv
    have hb := of_i64 hs
    refine ⟨⟨_, Tryd.func64, rfl⟩, fun st w vals hW hlt hr => ?_⟩
    obtain ⟨_, _, rfl, rfl, _, _, rfl, rfl, rfl⟩ := hr
    refine (Tryd.strconv_FormatInt_10 n hb.1 hb.2 w hW.pow).mono ?_
    rintro e w' ⟨rfl, k, os, rfl⟩
    exact ⟨_, st, rfl, grows_below hlt (Lib.below_grow _ w (Nat.le_refl _) k os), rfl⟩
  · cases hv
theorem itoa_ok : RowOK Gl (24, r_itoa) := by
  intro args v hv
  obtain ⟨n, rfl, hs, rfl⟩ := r_itoa_inv hv
  have hb := of_i64 hs
  refine ⟨⟨_, Tryd.func24, rfl⟩, fun st w vals hW hlt hr => ?_⟩
  obtain ⟨_, _, rfl, rfl, rfl⟩ := hr
  refine (Tryd.strconv_Itoa n hb.1 hb.2 w hW.pow).mono ?_
  rintro e w' ⟨rfl, k, os, rfl⟩
  exact ⟨_, st, rfl, grows_below hlt (Lib.below_grow _ w (Nat.le_refl _) k os), rfl⟩
end Go.Proofs.YtoioekmekbiimaaDoor.VX

/- THE WHOLE TABLE HOLDS. Conditions: the package-level variables are as laid. -/
namespace Go.Proofs.YtoioekmekbiimaaDoor.VX
open Go Go.Proofs Go.RowKit
theorem callOK_weak {P : Program} {W : World → Prop} {f : FuncId} {args : List AV} {v v' : AV} (h : CallOK P W f args v) (hv : ∀ st w u, VRel st w nop v u → VRel st w nop v' u) : CallOK P W f args v' :=
  ⟨h.1, fun st w vals hW hlt hr => (h.2 st w vals hW hlt hr).mono fun _ _ ⟨u, st', e, g, r⟩ => ⟨u, st', e, g, hv _ _ _ r⟩⟩
theorem w_ (R : List AV → Ans AV) {f : Nat} {k : Nat} (h : ∀ args v, (R args).val = some v → ∃ n, runA Tryd.prog (X k) n f args = some v) : ∀ args v, (R args).val = some v → ∃ n, runA Tryd.prog (X k) n f args = some v := h
theorem str1 {R : List AV → Ans AV} {c : List UInt8 → Bool} {a : List UInt8 → AV} (hR : R = fun | [.str s] => .when (c s) (.one (a s)) | _ => .no) {args : List AV} {v : AV} (h : (R args).val = some v) : ∃ s, args = [.str s] ∧ c s = true ∧ v = a s := by
  subst hR
  simp only at h
  split at h
  · obtain ⟨h1, h2⟩ := val_when h
    cases h2
    exact ⟨_, rfl, h1, rfl⟩
  · cases h
theorem stri {R : List AV → Ans AV} {c : List UInt8 → Int → Bool} {a : List UInt8 → Int → AV} (hR : R = fun | [.str s, .int .i64 i] => .when (c s i) (.one (a s i)) | _ => .no) {args : List AV} {v : AV} (h : (R args).val = some v) : ∃ s i, args = [.str s, .int .i64 i] ∧ c s i = true ∧ v = a s i := by
  subst hR
  simp only at h
  split at h
  · obtain ⟨h1, h2⟩ := val_when h
    cases h2
    exact ⟨_, _, rfl, h1, rfl⟩
  · cases h
theorem byte1 {R : List AV → Ans AV} {a : UInt8 → AV} (hR : R = fun | [.u8 b] => .one (a b) | _ => .no) {args : List AV} {v : AV} (h : (R args).val = some v) : ∃ b, args = [.u8 b] ∧ v = a b := by
  subst hR
  simp only at h
  split at h
  · cases h; exact ⟨_, rfl, rfl⟩
  · cases h
theorem tok1 {R : List AV → Ans AV} {c : List UInt8 → Int → Bool} {a : Int → List UInt8 → Int → AV} (hR : R = fun | [.agg [.int .i64 k, .str t, .int .i64 n, .int .i64 _, .int .i64 _]] => .when (c t n) (.one (a k t n)) | _ => .no) {args : List AV} {v : AV} (h : (R args).val = some v) :
    ∃ k t n x y, args = [.agg [.int .i64 k, .str t, .int .i64 n, .int .i64 x, .int .i64 y]] ∧ c t n = true ∧ v = a k t n := by
  subst hR
  simp only at h
  split at h
  · obtain ⟨h1, h2⟩ := val_when h
    cases h2
    exact ⟨_, _, _, _, _, rfl, h1, rfl⟩
  · cases h
theorem list1 {R : List AV → Ans AV} {c : List AV → Bool} {a : List AV → AV} (hR : R = fun | [.view 5 xs] => .when (c xs) (.one (a xs)) | _ => .no) {args : List AV} {v : AV} (h : (R args).val = some v) : ∃ xs, args = [.view 5 xs] ∧ c xs = true ∧ v = a xs := by
  subst hR
  simp only at h
  split at h
  · obtain ⟨h1, h2⟩ := val_when h
    cases h2
    exact ⟨_, rfl, h1, rfl⟩
  · cases h
section
variable {W : World → Prop}
theorem step_quoted (h : Wok W) (hp : ∀ q ∈ tab.take 9, RowOK W q) : ∀ q ∈ tab.take 10, RowOK W q := by
  refine rows_step h hp (f := 49) (r := r_quoted) rfl fun args v hv => ?_
  obtain ⟨s, a, rfl, hs, rfl⟩ := stri rfl hv
  exact quoted_eq s a hs
theorem step_sign (h : Wok W) (hp : ∀ q ∈ tab.take 11, RowOK W q) : ∀ q ∈ tab.take 12, RowOK W q := by
  refine rows_step h hp (f := 66) (r := r_sign) rfl fun args v hv => ?_
  obtain ⟨b, rfl, rfl⟩ := byte1 rfl hv
  refine ⟨2, ?_⟩
  rw [e_tokens_sign 0 b, ← sign_eq b]
  cases decide (Sp.idx [40, 41, 44, 59, 46] b ≥ 0) <;> cases b == 63 <;> cases b == 61 <;> cases b == 60 <;> rfl
theorem step_signs (h : Wok W) (hp : ∀ q ∈ tab.take 12, RowOK W q) : ∀ q ∈ tab.take 13, RowOK W q := by
  refine rows_step h hp (f := 50) (r := r_signs) rfl fun args v hv => ?_
  unfold r_signs at hv
  split at hv
  · obtain ⟨h1, h2⟩ := val_when hv
    cases h2
    simp only [Bool.and_eq_true, decide_eq_true_eq, Bool.not_eq_true', List.isEmpty_eq_false_iff] at h1
    exact ⟨2, signs_eq _ _ h1.1 h1.2.1 h1.2.2⟩
  · cases hv
theorem step_number (h : Wok W) (hp : ∀ q ∈ tab.take 15, RowOK W q) : ∀ q ∈ tab.take 16, RowOK W q := by
  refine rows_step h hp (f := 48) (r := r_number) rfl fun args v hv => ?_
  obtain ⟨s, rfl, hs, rfl⟩ := str1 rfl hv
  refine ⟨2, ?_⟩
  rw [e_tokens_number 0 s, hs]
  unfold Sp.numOk Sp.numV
  cases hp : Sp.pOk s with
  | true => rw [pv_rng hp]; rfl
  | false => rfl
theorem step_token (h : Wok W) (hp : ∀ q ∈ tab.take 16, RowOK W q) : ∀ q ∈ tab.take 17, RowOK W q := by
  refine rows_step h hp (f := 35) (r := r_token) rfl fun args v hv => ?_
  obtain ⟨s, a, rfl, hs, rfl⟩ := stri rfl hv
  exact ⟨2, token_eq s a hs⟩
theorem step_cut (h : Wok W) (hp : ∀ q ∈ tab.take 17, RowOK W q) : ∀ q ∈ tab.take 18, RowOK W q := by
  refine rows_step h hp (f := 16) (r := r_cut) rfl fun args v hv => ?_
  obtain ⟨s, a, rfl, hs, rfl⟩ := stri (c := fun s _ => Sp.short s) rfl hv
  exact cut_eq s a hs
theorem step_spelling (h : Wok W) (hp : ∀ q ∈ tab.take 18, RowOK W q) : ∀ q ∈ tab.take 19, RowOK W q := by
  refine rows_step h hp (f := 25) (r := r_spelling) rfl fun args v hv => ?_
  unfold r_spelling at hv
  split at hv
  · cases hv; exact ⟨2, spelling_eq _⟩
  · cases hv
theorem step_spell (h : Wok W) (hp : ∀ q ∈ tab.take 20, RowOK W q) : ∀ q ∈ tab.take 21, RowOK W q := by
  refine rows_step h hp (f := 7) (r := r_spell) rfl fun args v hv => ?_
  obtain ⟨k, t, n, x, y, rfl, hs, rfl⟩ := tok1 (c := fun t n => Sp.short t && Sp.i64 n) rfl hv
  rw [Bool.and_eq_true] at hs
  exact ⟨2, spell_eq k n x y t hs.1 hs.2⟩
theorem step_apart (h : Wok W) (hp : ∀ q ∈ tab.take 21, RowOK W q) : ∀ q ∈ tab.take 22, RowOK W q := by
  refine rows_step h hp (f := 29) (r := r_apart) rfl fun args v hv => ?_
  unfold r_apart at hv
  split at hv
  · cases hv; exact ⟨2, apart_eq _ _ _ _ _ _ _ _ _ _⟩
  · cases hv
theorem step_rsmall (h : Wok W) (hp : ∀ q ∈ tab.take 22, RowOK W q) : ∀ q ∈ tab.take 23, RowOK W q := by
  refine rows_step h hp (f := 53) (r := r_small) rfl fun args v hv => ?_
  obtain ⟨b, rfl, rfl⟩ := byte1 rfl hv
  exact ⟨1, rsmall_eq b⟩
theorem step_rgreat (h : Wok W) (hp : ∀ q ∈ tab.take 23, RowOK W q) : ∀ q ∈ tab.take 24, RowOK W q := by
  refine rows_step h hp (f := 54) (r := r_great) rfl fun args v hv => ?_
  obtain ⟨b, rfl, rfl⟩ := byte1 rfl hv
  exact ⟨1, rgreat_eq b⟩
theorem step_rdigit (h : Wok W) (hp : ∀ q ∈ tab.take 24, RowOK W q) : ∀ q ∈ tab.take 25, RowOK W q := by
  refine rows_step h hp (f := 55) (r := r_digit) rfl fun args v hv => ?_
  obtain ⟨b, rfl, rfl⟩ := byte1 rfl hv
  exact ⟨1, rdigit_eq b⟩
theorem step_rrun (h : Wok W) (hp : ∀ q ∈ tab.take 25, RowOK W q) : ∀ q ∈ tab.take 26, RowOK W q := by
  refine rows_step h hp (f := 52) (r := r_rrun) rfl fun args v hv => ?_
  obtain ⟨s, a, rfl, hs, rfl⟩ := stri rfl hv
  exact rrun_eq s a hs
theorem step_rnumber (h : Wok W) (hp : ∀ q ∈ tab.take 26, RowOK W q) : ∀ q ∈ tab.take 27, RowOK W q := by
  refine rows_succ (r := (56, r_rnumber)) hp rfl fun args v hv0 => ?_
  have hv : (r_rnumber args).val = some v := hv0
  clear hv0
  unfold r_rnumber at hv
  split at hv
  · rename_i s
    obtain ⟨h1, h2⟩ := val_when hv
    obtain ⟨n, u, hu, k1, k2⟩ := rnumber_eq s
    have hc := runA_ok (X := X 26) progOK h.glob h.ww (tableOK_of hp) (h.rowsX 26) hu
    cases hn : Sp.rNumOk s with
    | true =>
      rw [hn] at h2
      cases h2
      rw [k1 hn] at hc
      exact hc
    | false =>
      rw [hn] at h2
      cases h2
      obtain ⟨z, rfl⟩ := k2 hn
      refine callOK_weak hc ?_
      rintro st w u ⟨us, rfl, y, ys, e, _, hr⟩
      exact ⟨us, rfl, y, ys, e, trivial, hr⟩
  · cases hv
theorem step_rhex (h : Wok W) (hp : ∀ q ∈ tab.take 27, RowOK W q) : ∀ q ∈ tab.take 28, RowOK W q := by
  refine rows_step h hp (f := 83) (r := r_hex) rfl fun args v hv => ?_
  obtain ⟨b, rfl, rfl⟩ := byte1 rfl hv
  exact ⟨2, rhex_eq b⟩
theorem step_resc (h : Wok W) (hp : ∀ q ∈ tab.take 28, RowOK W q) : ∀ q ∈ tab.take 29, RowOK W q := by
  refine rows_step h hp (f := 71) (r := r_rescape) rfl fun args v hv => ?_
  obtain ⟨s, a, rfl, hs, rfl⟩ := stri rfl hv
  exact ⟨2, resc_eq s a hs⟩
theorem step_rquoted (h : Wok W) (hp : ∀ q ∈ tab.take 29, RowOK W q) : ∀ q ∈ tab.take 30, RowOK W q := by
  refine rows_step h hp (f := 57) (r := r_quoted) rfl fun args v hv => ?_
  obtain ⟨s, a, rfl, hs, rfl⟩ := stri rfl hv
  exact rquoted_eq s a hs
theorem step_one (h : Wok W) (hp : ∀ q ∈ tab.take 30, RowOK W q) : ∀ q ∈ tab.take 31, RowOK W q := by
  refine rows_step h hp (f := 41) (r := r_one) rfl fun args v hv => ?_
  obtain ⟨s, a, rfl, hs, rfl⟩ := stri rfl hv
  exact ⟨13, one_eq s a hs⟩
theorem step_rcut (h : Wok W) (hp : ∀ q ∈ tab.take 31, RowOK W q) : ∀ q ∈ tab.take 32, RowOK W q := by
  refine rows_step h hp (f := 27) (r := r_cut) rfl fun args v hv => ?_
  obtain ⟨s, a, rfl, hs, rfl⟩ := stri (c := fun s _ => Sp.short s) rfl hv
  exact rcut_eq s a hs
theorem step_rword (h : Wok W) (hp : ∀ q ∈ tab.take 32, RowOK W q) : ∀ q ∈ tab.take 33, RowOK W q := by
  exact rows_succ (r := (999999, fun _ => .no)) hp rfl fun args v hv => by cases hv
theorem step_rquote (h : Wok W) (hp : ∀ q ∈ tab.take 33, RowOK W q) : ∀ q ∈ tab.take 34, RowOK W q := by
  refine rows_step h hp (f := 39) (r := r_quote) rfl fun args v hv => ?_
  obtain ⟨s, rfl, hs, rfl⟩ := str1 rfl hv
  exact rquote_eq s hs
theorem step_rdecimal (h : Wok W) (hp : ∀ q ∈ tab.take 34, RowOK W q) : ∀ q ∈ tab.take 35, RowOK W q :=
  rows_succ (r := (40, r_itoa)) hp rfl (decimal_ok h hp)
theorem step_rspelled (h : Wok W) (hp : ∀ q ∈ tab.take 35, RowOK W q) : ∀ q ∈ tab.take 36, RowOK W q := by
  refine rows_step h hp (f := 26) (r := r_spelled) rfl fun args v hv => ?_
  obtain ⟨k, t, n, x, y, rfl, hs, rfl⟩ := tok1 (c := fun t n => Sp.short t && Sp.i64 n) rfl hv
  rw [Bool.and_eq_true] at hs
  exact ⟨13, spelled_eq k n x y t hs.1 hs.2⟩
theorem step_rbare (h : Wok W) (hp : ∀ q ∈ tab.take 36, RowOK W q) : ∀ q ∈ tab.take 37, RowOK W q := by
  refine rows_step h hp (f := 28) (r := r_bare) rfl fun args v hv => ?_
  unfold r_bare at hv
  split at hv
  · cases hv; exact ⟨2, e_hearsayref04_bare 0 _ _ _ _ _⟩
  · cases hv
theorem step_rspell (h : Wok W) (hp : ∀ q ∈ tab.take 37, RowOK W q) : ∀ q ∈ tab.take 38, RowOK W q := by
  refine rows_step h hp (f := 8) (r := r_rspell) rfl fun args v hv => ?_
  obtain ⟨k, t, n, x, y, rfl, hs, rfl⟩ := tok1 (c := fun t n => Sp.light t && Sp.i64 n) rfl hv
  rw [Bool.and_eq_true] at hs
  exact ⟨2, rspell_eq k n x y t hs.1 hs.2⟩
theorem step_join (h : Wok W) (hp : ∀ q ∈ tab.take 38, RowOK W q) : ∀ q ∈ tab.take 39, RowOK W q := by
  refine rows_step h hp (f := 10) (r := r_join) rfl fun args v hv => ?_
  obtain ⟨xs, rfl, hs, rfl⟩ := list1 rfl hv
  exact join_eq xs hs
theorem step_rjoin (h : Wok W) (hp : ∀ q ∈ tab.take 39, RowOK W q) : ∀ q ∈ tab.take 40, RowOK W q := by
  refine rows_step h hp (f := 11) (r := r_join) rfl fun args v hv => ?_
  obtain ⟨xs, rfl, hs, rfl⟩ := list1 rfl hv
  exact rjoin_eq xs hs
theorem step_same (h : Wok W) (hp : ∀ q ∈ tab.take 40, RowOK W q) : ∀ q ∈ tab.take 41, RowOK W q := by
  refine rows_step h hp (f := 12) (r := r_same) rfl fun args v hv => ?_
  unfold r_same at hv
  split at hv
  · obtain ⟨h1, h2⟩ := val_when hv
    cases h2
    exact same_eq _ _ h1
  · cases hv
theorem step_head (h : Wok W) (hp : ∀ q ∈ tab.take 41, RowOK W q) : ∀ q ∈ tab.take 42, RowOK W q := by
  refine rows_step h hp (f := 9) (r := r_head) rfl fun args v hv => ?_
  unfold r_head at hv
  split at hv
  · cases hv; exact ⟨2, e_head⟩
  · cases hv
end
/-- Package tokens and the document's own answer of chapter 04. -/
theorem rows42 : ∀ q ∈ tab.take 42, RowOK Gl q := by
  have h := Wok.gl
  have r9 := rowsB h
  have r10 := step_quoted h r9
  have r11 : ∀ q ∈ tab.take 11, RowOK Gl q := rows_succ (r := (77, r_indexByte)) r10 rfl indexByte_ok
  have r13 := step_signs h (step_sign h r11)
  have r14 : ∀ q ∈ tab.take 14, RowOK Gl q := rows_succ (r := (63, r_parseInt)) r13 rfl parseInt_ok
  have r15 : ∀ q ∈ tab.take 15, RowOK Gl q := rows_succ (r := (64, r_formatInt)) r14 rfl formatInt_ok
  have r19 := step_spelling h (step_cut h (step_token h (step_number h r15)))
  have r20 : ∀ q ∈ tab.take 20, RowOK Gl q := rows_succ (r := (24, r_itoa)) r19 rfl itoa_ok
  have r26 := step_rrun h (step_rdigit h (step_rgreat h (step_rsmall h (step_apart h (step_spell h r20)))))
  have r33 := step_rword h (step_rcut h (step_one h (step_rquoted h (step_resc h (step_rhex h (step_rnumber h r26))))))
  exact step_head h (step_same h (step_rjoin h (step_join h (step_rspell h (step_rbare h (step_rspelled h (step_rdecimal h (step_rquote h r33))))))))
end Go.Proofs.YtoioekmekbiimaaDoor.VX

/- A ROW's ARGUMENTS, OPENED: from the reading of a token, of a list of tokens, to plain values, with the sizes that the reading's bulk allows. Conditions: none. -/
namespace Go.Proofs.YtoioekmekbiimaaDoor.VX
open Go Go.Proofs Go.ChangeShapes Go.WideShapes Go.RowKit

/-- Cells that are there. -/
def There (w : World) : Cells := fun b o => (w.cell? ⟨b, o, none⟩).isSome = true
theorem There.lt {w : World} : ∀ b o, There w b o → b < w.heap.size := fun b o h => by
  unfold There at h
  rcases Nat.lt_or_ge b w.heap.size with h' | h'
  · exact h'
  · simp [World.cell?, Array.getElem?_eq_none h'] at h
structure T5 where
  k : Int
  t : ByteArray
  n : Int
  a : Int
  e : Int
namespace T5
def dat {H : Type} (t : T5) : DataW H := .agg [.lit (.int .i64 t.k), .lit (.string t.t.data.toList), .lit (.int .i64 t.n), .lit (.int .i64 t.a), .lit (.int .i64 t.e)]
def cells (t : T5) : List Value := [.int .i64 t.k, .string t.t, .int .i64 t.n, .int .i64 t.a, .int .i64 t.e]
def tok (t : T5) : Tk.Tok := ⟨t.k, Sp.ints t.t.data.toList, t.n, t.a, t.e⟩
def bulk : List T5 → Nat
  | [] => 0
  | t :: r => t.t.data.toList.length + 6 + bulk r
theorem bulk_dat {H : Type} (l : List T5) : Rows.uptoBulkAll (l.map (dat (H := H))) = bulk l := by
  induction l with
  | nil => rfl
  | cons t r ih =>
    simp only [List.map_cons, Rows.uptoBulkAll, ih, bulk, dat, Rows.uptoBulk]
    omega
theorem weigh_bulk (l : List T5) : Sp.weigh (l.map tok) ≤ 4 * bulk l := by
  induction l with
  | nil => exact Nat.le_refl _
  | cons t r ih =>
    simp only [List.map_cons, Sp.weigh, bulk, tok, Sp.ints_len]
    omega
def ok (t : T5) : Prop := Sp.i64 t.n = true
theorem rels {st : Cells} {w : World} {ι : Inj} (t : T5) : VRels st w ι [.int .i64 t.k, .str t.t.data.toList, .int .i64 t.n, .int .i64 t.a, .int .i64 t.e] t.cells :=
  ⟨_, _, rfl, rfl, _, _, rfl, by show Value.string t.t = .string ⟨t.t.data.toList.toArray⟩; simp, _, _, rfl, rfl, _, _, rfl, rfl, _, _, rfl, rfl, rfl⟩
theorem tokA_eq (t : T5) : tokA t.tok = .agg [.int .i64 t.k, .str t.t.data.toList, .int .i64 t.n, .int .i64 t.a, .int .i64 t.e] := by
  unfold tokA tok; rw [Sp.tb_ints]
theorem fine (t : T5) (h : t.ok) : Tk.fine t.tok := ⟨of_i64 h, ints_bytes _⟩
theorem ones (t : T5) : ∀ u ∈ t.cells, u.oneCell' = true := fun u hu => by
  simp [cells] at hu
  rcases hu with rfl | rfl | rfl | rfl | rfl <;> rfl
end T5
theorem i64_wf {n : Int} (h : (Lit.int .i64 n).wf = true) : Sp.i64 n = true := by
  have : -9223372036854775808 ≤ n ∧ n ≤ 9223372036854775807 := by
    simp only [Lit.wf, IntKind.min, IntKind.max, IntKind.signed, IntKind.bits, Bool.and_eq_true, decide_eq_true_eq] at h
    simpa using h
  exact i64_of this

section
variable {H : Type} {enc : TypeId × Value → H} {W : World} {base : Nat} {spare : Nat → Bool} {held : Bool}
set_option maxRecDepth 100000 in
theorem open_token {fuel : Nat} {cs : List Value} {x : DataW H × List MemPlace} (h : DataW.trod enc Tryd.prog W base spare held fuel 23 cs = some x) :
    ∃ t : T5, cs = t.cells ∧ x.1 = t.dat ∧ t.ok := by
  obtain ⟨xs, n, _, rfl, hl, hlen, hf⟩ := DataW.trod_struct Tryd.underlying23 h
  have w3_ : Tryd.prog.cellsOf 3 = 1 := by kernel_rfl
  have w9_ : Tryd.prog.cellsOf 9 = 1 := by kernel_rfl
  have hc5 : cs.length = 5 := hl.trans (by kernel_rfl)
  match cs, hc5 with
  | [c0, c1, c2, c3, c4], _ =>
    match xs, hlen with
    | [y0, y1, y2, y3, y4], _ =>
      have h0 : DataW.trod enc Tryd.prog W base spare held n 3 (List.take (Tryd.prog.cellsOf 3) (List.drop 0 [c0, c1, c2, c3, c4])) = some y0 := hf 0 _ rfl
      rw [w3_] at h0
      have h1 : DataW.trod enc Tryd.prog W base spare held n 9 (List.take (Tryd.prog.cellsOf 9) (List.drop 1 [c0, c1, c2, c3, c4])) = some y1 := hf 1 _ rfl
      rw [w9_] at h1
      have h2 : DataW.trod enc Tryd.prog W base spare held n 3 (List.take (Tryd.prog.cellsOf 3) (List.drop 2 [c0, c1, c2, c3, c4])) = some y2 := hf 2 _ rfl
      rw [w3_] at h2
      have h3 : DataW.trod enc Tryd.prog W base spare held n 3 (List.take (Tryd.prog.cellsOf 3) (List.drop 3 [c0, c1, c2, c3, c4])) = some y3 := hf 3 _ rfl
      rw [w3_] at h3
      have h4 : DataW.trod enc Tryd.prog W base spare held n 3 (List.take (Tryd.prog.cellsOf 3) (List.drop 4 [c0, c1, c2, c3, c4])) = some y4 := hf 4 _ rfl
      rw [w3_] at h4
      obtain ⟨a0, e0, rfl, w0⟩ := DataW.trod_int Tryd.underlying3 h0
      obtain ⟨a1, e1, rfl, w1⟩ := DataW.trod_string Tryd.underlying9 h1
      obtain ⟨a2, e2, rfl, w2⟩ := DataW.trod_int Tryd.underlying3 h2
      obtain ⟨a3, e3, rfl, w3⟩ := DataW.trod_int Tryd.underlying3 h3
      obtain ⟨a4, e4, rfl, w4⟩ := DataW.trod_int Tryd.underlying3 h4
      have f0 : c0 = .int .i64 a0 := (List.cons.inj e0).1
      have f1 : c1 = .string a1 := (List.cons.inj e1).1
      have f2 : c2 = .int .i64 a2 := (List.cons.inj e2).1
      have f3 : c3 = .int .i64 a3 := (List.cons.inj e3).1
      have f4 : c4 = .int .i64 a4 := (List.cons.inj e4).1
      exact ⟨⟨a0, a1, a2, a3, a4⟩, by rw [f0, f1, f2, f3, f4]; rfl, rfl, i64_wf w2⟩

theorem addr_add (a : Addr) (m n : Nat) : a.add (m + n) = (a.add m).add n := by
  unfold Addr.add
  by_cases hm : m = 0
  · subst hm; simp
  · by_cases hn : n = 0
    · subst hn; simp
    · rw [if_neg (by omega), if_neg hm, if_neg hn]; simp [Nat.add_assoc]
theorem cells_get {a : Addr} {n : Nat} {cs : List Value} (h : W.cells? base a n = some cs) : ∀ i u, cs[i]? = some u → W.cell? (a.add i) = some u := by
  unfold World.cells? at h
  split at h
  · intro i u hu
    have hl := mapM_some_length h
    have hi : i < n := by
      have := (List.getElem?_eq_some_iff.1 hu).1
      simp at hl
      omega
    have := mapM_some_get h i i (by simp [hi])
    rw [this, hu]
  · cases h
theorem cell_spot {a : Addr} {u : Value} (h : W.cell? a = some u) : a.spot = none := by
  unfold World.cell? at h
  cases hs : a.spot with
  | none => rfl
  | some s => rw [hs] at h; simp only [Option.isSome_some, if_true] at h; split at h <;> cases h
theorem toks_rel {w : World} : ∀ (l : List T5) (b o : Nat), (∀ j t, l[j]? = some t → ∀ i u, t.cells[i]? = some u → w.cell? ⟨b, o + (j * 5 + i), none⟩ = some u) → EsRel (There w) w 5 (l.map fun t => tokA t.tok) b o
  | [], _, _, _ => trivial
  | t :: l, b, o, h => by
    rw [List.map_cons, T5.tokA_eq]
    refine ⟨⟨rfl, ?_⟩, toks_rel l b (o + 5) fun j t' hj i u hu => ?_⟩
    · have hc : ∀ i u, t.cells[i]? = some u → w.cell? ⟨b, o + i, none⟩ = some u := fun i u hu => by
        have := h 0 t rfl i u hu
        rwa [show 0 * 5 + i = i by omega] at this
      have there : ∀ i u, t.cells[i]? = some u → There w b (o + i) := fun i u hu => by unfold There; rw [hc i u hu]; rfl
      refine ⟨⟨_, there 0 _ rfl, hc 0 _ rfl, rfl, rfl⟩, ⟨_, there 1 _ rfl, hc 1 _ rfl, rfl, ?_⟩, ⟨_, there 2 _ rfl, hc 2 _ rfl, rfl, rfl⟩, ⟨_, there 3 _ rfl, hc 3 _ rfl, rfl, rfl⟩, ⟨_, there 4 _ rfl, hc 4 _ rfl, rfl, rfl⟩, trivial⟩
      show Value.string t.t = .string ⟨t.t.data.toList.toArray⟩
      simp
    · have := h (j + 1) t' (by simpa using hj) i u hu
      rwa [show o + ((j + 1) * 5 + i) = o + 5 + (j * 5 + i) by omega] at this
theorem open_tokens {T fuel : Nat} {cs : List Value} {x : DataW H × List MemPlace} (hsp : ∀ b, spare b = true) (ht : Tryd.prog.underlying T = some (.slice 23)) (h : DataW.trod enc Tryd.prog W base spare held fuel T cs = some x) :
    ∃ (v : Value) (l : List T5), cs = [v] ∧ VRel (There W) W nop (.view 5 (l.map fun t => tokA t.tok)) v ∧ (∀ t ∈ l, t.ok) ∧ T5.bulk l ≤ Rows.uptoBulk x.1 := by
  rcases DataW.trod_slice ht h with ⟨rfl, rfl⟩ | ⟨a, len, cap, elems, rest, n, _, rfl, rfl, hb, hl, hm, hlen, hel, hrest, _⟩
  · exact ⟨_, [], rfl, ⟨none, 0, rfl, Nat.le_refl _, rfl⟩, (fun _ h => by cases h), Nat.zero_le _⟩
  · have hc33 : Tryd.prog.cellsOf 23 = 5 := by kernel_rfl
    rw [hc33] at hel hrest
    have each : ∀ i, ∃ t : T5, i < len → (W.cells? base (a.add (i * 5)) 5 = some t.cells ∧ ((elems.map (·.1))[i]? = some t.dat) ∧ t.ok) := by
      intro i
      by_cases hi : i < len
      · have h1 := hel i hi
        have he : elems[i]? = some (elems[i]'(by omega)) := List.getElem?_eq_getElem (by omega)
        rw [he] at h1
        obtain ⟨cs', hcs, hy⟩ := Option.bind_eq_some_iff.1 h1
        obtain ⟨t, rfl, hx, hk⟩ := open_token hy
        exact ⟨t, fun _ => ⟨hcs, by rw [List.getElem?_map, he, Option.map_some, hx], hk⟩⟩
      · exact ⟨⟨0, .empty, 0, 0, 0⟩, fun h => absurd h hi⟩
    let f : Nat → T5 := fun i => Classical.choose (each i)
    have hf : ∀ i, i < len → (W.cells? base (a.add (i * 5)) 5 = some (f i).cells ∧ ((elems.map (·.1))[i]? = some (f i).dat) ∧ (f i).ok) := fun i => Classical.choose_spec (each i)
    have hll : ((List.range len).map f).length = len := by simp
    have hget : ∀ j p, ((List.range len).map f)[j]? = some p → j < len ∧ p = f j := by
      intro j p hp
      have hj : j < len := by have := (List.getElem?_eq_some_iff.1 hp).1; rw [hll] at this; exact this
      rw [List.getElem?_map, List.getElem?_range hj, Option.map_some] at hp
      exact ⟨hj, (Option.some.inj hp).symm⟩
    have hmap : elems.map (·.1) = ((List.range len).map f).map (T5.dat (H := H)) := by
      apply List.ext_getElem?
      intro i
      by_cases hi : i < len
      · rw [(hf i hi).2.1, List.getElem?_map, List.getElem?_map, List.getElem?_range hi]; rfl
      · rw [List.getElem?_eq_none (by simp; omega), List.getElem?_eq_none (by simp; omega)]
    have hcell : ∀ j t, ((List.range len).map f)[j]? = some t → ∀ i u, t.cells[i]? = some u → W.cell? (a.add (j * 5 + i)) = some u := fun j t hj i u hu => by
      obtain ⟨hj', rfl⟩ := hget j t hj
      rw [addr_add]
      exact cells_get (hf j hj').1 i u hu
    refine ⟨_, (List.range len).map f, rfl, ⟨some a, cap, by rw [List.length_map, hll], by rw [List.length_map, hll]; exact hl, ?_, ?_⟩, ?_, ?_⟩
    · rcases Nat.eq_zero_or_pos len with h0 | h0
      · by_cases hs : a.spot = none
        · exact .inr hs
        · refine .inl (Nat.eq_zero_of_not_pos fun hc => hs ?_)
          obtain ⟨r1, r2⟩ := hrest (hsp _)
          have h1 := r2 0 (by omega)
          have he : rest[0]? = some (rest[0]'(by omega)) := List.getElem?_eq_getElem (by omega)
          rw [he] at h1
          obtain ⟨cs', hcs, hy⟩ := Option.bind_eq_some_iff.1 h1
          obtain ⟨t, rfl, _, _⟩ := open_token hy
          have := cell_spot (cells_get hcs 0 _ rfl)
          unfold Addr.add at this
          simp only [if_true] at this
          split at this
          · exact this
          · rename_i hne; exact absurd (by rw [h0]) hne
      · refine .inr ?_
        have := cell_spot (hcell 0 (f 0) (by rw [List.getElem?_map, List.getElem?_range h0]; rfl) 0 _ rfl)
        unfold Addr.add at this
        simpa using this
    · rcases Nat.eq_zero_or_pos len with h0 | h0
      · subst h0; trivial
      · have hs := cell_spot (hcell 0 (f 0) (by rw [List.getElem?_map, List.getElem?_range h0]; rfl) 0 _ rfl)
        have hs : a.spot = none := by unfold Addr.add at hs; simpa using hs
        refine toks_rel _ _ _ fun j t hj i u hu => ?_
        have := hcell j t hj i u hu
        obtain ⟨b, o, sp⟩ := a
        obtain rfl : sp = none := hs
        rwa [add_none] at this
    · intro t ht'
      obtain ⟨j, hj⟩ := List.getElem?_of_mem ht'
      obtain ⟨hj', rfl⟩ := hget j t hj
      exact (hf j hj').2.2
    · show T5.bulk _ ≤ Rows.uptoBulkAll (elems.map (·.1)) + Rows.uptoBulkAll (rest.map (·.1)) + 1
      rw [hmap, T5.bulk_dat]
      omega
end
/-- A law that comes to true, walked. -/
theorem walk_of {f : FuncId} {args : List AV} (h : CallOK Tryd.prog Gl f args (.bool true)) {w : World} {vals : List Value} (g : Gl w) (hv : VRels (There w) w nop args vals) :
    Calls Tryd.prog f vals.toArray w fun e w' => e = .returned (.bool true) ∧ Below w.heap.size w w' :=
  (h.2 (There w) w vals g There.lt hv).mono fun e w' ⟨u, st', he, hg, hr⟩ => by
    obtain rfl : u = .bool true := hr
    exact ⟨he, hg.below⟩
theorem ok42 {f : FuncId} {args : List AV} {n : Nat} {v : AV} (h : runA Tryd.prog (X 42) n f args = some v) : CallOK Tryd.prog Gl f args v :=
  runA_ok (X := X 42) progOK Wok.gl.glob Wok.gl.ww (tableOK_of rows42) (Wok.gl.rowsX 42) h
end Go.Proofs.YtoioekmekbiimaaDoor.VX

/- WHAT A ROW's LIST OF VARIABLES GIVES: the tables and the two errors are as the walks ask; and a world that holds them all. Conditions: none. -/
namespace Go.Proofs.YtoioekmekbiimaaDoor.Laid
open Go Go.Proofs Go.ChangeShapes Go.WideShapes Go.ChangeAt Go.RowKit
open Go.Proofs.YtoioekmekbiimaaDoor

abbrev list5 : List (String × DataW Unit) := [("math/bits.deBruijn32tab", Rows.laid_math_bits_deBruijn32tab), ("math/bits.deBruijn64tab", Rows.laid_math_bits_deBruijn64tab), ("internal/strconv.uint64pow10", Rows.laid_internal_strconv_uint64pow10), ("strconv.ErrRange", Rows.laid_strconv_ErrRange), ("strconv.ErrSyntax", Rows.laid_strconv_ErrSyntax)]
abbrev list7 : List (String × DataW Unit) := [("hearsay/hearsayref04.signs", Rows.laid_hearsay_hearsayref04_signs), ("hearsay/hearsayref04.kinds", Rows.laid_hearsay_hearsayref04_kinds), ("math/bits.deBruijn32tab", Rows.laid_math_bits_deBruijn32tab), ("math/bits.deBruijn64tab", Rows.laid_math_bits_deBruijn64tab), ("internal/strconv.uint64pow10", Rows.laid_internal_strconv_uint64pow10), ("strconv.ErrRange", Rows.laid_strconv_ErrRange), ("strconv.ErrSyntax", Rows.laid_strconv_ErrSyntax)]
theorem tPow : (Tryd.prog.globals[6]?).map (·.type) = some 121 := by kernel_rfl
theorem tES : (Tryd.prog.globals[7]?).map (·.type) = some 63 := by kernel_rfl
theorem tER : (Tryd.prog.globals[8]?).map (·.type) = some 63 := by kernel_rfl
theorem cells135 : Tryd.prog.cellsOf 121 = 20 := by kernel_rfl
theorem cells104 : Tryd.prog.cellsOf 98 = 1 := by kernel_rfl
theorem cells146 : Tryd.prog.cellsOf 138 = 1 := by kernel_rfl
theorem cells9 : Tryd.prog.cellsOf 9 = 1 := by kernel_rfl
theorem star : "*" ++ "errors.errorString" = "*errors.errorString" := by decide
theorem row144 (u : TypeId) (h : Tryd.prog.typeName? 3 u = some "*errors.errorString") : u = 136 :=
  typeName_ptr_named (nm := "errors.errorString") (by rw [star]; kernel_rfl) (by kernel_rfl) (by decide) u (by rw [star]; exact h)

theorem gl5 {W : World} (h : laidMetH Tryd.prog list5 W) : Lib.TabIs Tryd.prog W "internal/strconv.uint64pow10" .u64 Lib.pow10Tab ∧ (∃ t p, W.var? Tryd.prog "strconv.ErrSyntax" = some #[.iface t p]) ∧ ∃ t p, W.var? Tryd.prog "strconv.ErrRange" = some #[.iface t p] := by
  have h0 : laidMet Tryd.prog list5 W := h
  have h2 := h0.tail.tail
  have hp : Lib.TabIs Tryd.prog W "internal/strconv.uint64pow10" .u64 Lib.pow10Tab := Lib.tabIs_of_head VX.gPow tPow Tryd.underlying121 Tryd.underlying98 cells104 cells135 h2
  obtain ⟨a, s, hr, -, -, -⟩ := laid_sentinel h2.tail VX.gER tER Tryd.underlying63 row144 Tryd.underlying136 Tryd.underlying138 rfl rfl Tryd.underlying9 cells146 cells9
  obtain ⟨a', s', hs, -, -, -⟩ := laid_sentinel h2.tail.tail VX.gES tES Tryd.underlying63 row144 Tryd.underlying136 Tryd.underlying138 rfl rfl Tryd.underlying9 cells146 cells9
  exact ⟨hp, ⟨_, _, hs⟩, ⟨_, _, hr⟩⟩

theorem tSigns : (Tryd.prog.globals[1]?).map (·.type) = some 76 := by kernel_rfl
theorem tKinds : (Tryd.prog.globals[0]?).map (·.type) = some 75 := by kernel_rfl
theorem cells86 : Tryd.prog.cellsOf 76 = 11 := by kernel_rfl
theorem cells87 : Tryd.prog.cellsOf 75 = 11 := by kernel_rfl
theorem cells3 : Tryd.prog.cellsOf 3 = 1 := by kernel_rfl

theorem cells_of_strs {H : Type} {enc : TypeId × Value → H} {P : Program} {w : World} {base : Nat} {sp : Nat → Bool} {held : Bool} {fuel : Nat} {t e : TypeId} {n : Nat} {cs : List Value} {zs : List (List UInt8)} {p : List MemPlace}
    (ht : P.underlying t = some (.array n e)) (he : P.underlying e = some .string) (hce : P.cellsOf e = 1) (hct : P.cellsOf t = n)
    (h : DataW.trod enc P w base sp held fuel t cs = some (.agg (zs.map fun l => .lit (.string l)), p)) : cs = zs.map fun l => Value.string ⟨l.toArray⟩ := by
  cases fuel with
  | zero => simp [DataW.trod] at h
  | succ fuel =>
    simp only [DataW.trod, ht, hce, hct, Nat.mul_one] at h
    split at h
    · rename_i hl
      obtain ⟨xs, hm, hx⟩ := Option.map_eq_some_iff.1 h
      have hxs : xs.map (·.1) = zs.map fun l => (DataW.lit (.string l) : DataW H) := by
        have := congrArg Prod.fst hx
        simpa using this
      have hxl : xs.length = n := by simpa using Lib.mapM_length hm
      have hzl : zs.length = n := by
        have := congrArg List.length hxs
        simp at this
        omega
      apply List.ext_getElem?
      intro i
      by_cases hi : i < n
      · obtain ⟨b, hb, hf⟩ := Lib.mapM_at hm i i (by simp [hi])
        obtain ⟨s, hc, rfl, _⟩ := DataW.trod_string he hf
        have h1 : cs[i]? = some (.string s) := by
          have := congrArg (·[0]?) hc
          simpa [List.getElem?_take, List.getElem?_drop] using this
        have h2 : (xs.map (·.1))[i]? = some (DataW.lit (.string s.data.toList) : DataW H) := by simp [hb]
        rw [hxs] at h2
        simp only [List.getElem?_map, Option.map_eq_some_iff, DataW.lit.injEq, Lit.string.injEq] at h2
        obtain ⟨l, hl', hs⟩ := h2
        rw [h1, List.getElem?_map, hl', Option.map_some, hs]
      · rw [List.getElem?_eq_none (by omega), List.getElem?_eq_none (by simp; omega)]
    · cases h

theorem gl {W : World} (h : laidMetH Tryd.prog list7 W) : VX.Gl W := by
  have h0 : laidMet Tryd.prog list7 W := h
  have h1 := h0.tail
  have h2 : laidMet Tryd.prog list5 W := h1.tail
  have hk : Lib.TabIs Tryd.prog W "hearsay/hearsayref04.kinds" .i64 [11, 14, 16, 6, 7, 8, 9, 10, 12, 13, 15] := Lib.tabIs_of_head VX.gKinds tKinds Tryd.underlying75 Tryd.underlying3 cells3 cells87 h1
  obtain ⟨g1, g2, g3⟩ := gl5 h2
  refine ⟨g1, g2, g3, ?_, hk⟩
  obtain ⟨ps, ⟨g', t', cs, fuel, p, q, hg', ht', hvar, hd, _, _⟩, _⟩ := h0
  obtain rfl := Option.some.inj (VX.gSigns.symm.trans hg')
  obtain rfl := Option.some.inj (tSigns.symm.trans ht')
  rw [hvar]
  have hc := cells_of_strs (zs := [[58, 45], [33, 61], [60, 61], [40], [41], [44], [59], [46], [63], [61], [60]]) Tryd.underlying76 Tryd.underlying9 cells9 cells86 hd
  obtain ⟨l⟩ := cs
  have hc' : l = _ := hc
  rw [hc']
  rfl

/-! ### a world that holds them -/
def rowOf (k : IntKind) : DataW Unit → Array Value
  | .agg ps => (ps.map fun | .lit (.int _ z) => Value.int k z | _ => Value.int k 0).toArray
  | _ => #[]
def textOf : DataW Unit → ByteArray
  | .iface _ (.ptr (.agg [.lit (.string l)])) => ⟨l.toArray⟩
  | _ => ⟨#[]⟩
def put (cs : Array Value) : Obj → Obj
  | .cells _ t frozen => .cells cs t frozen
  | o => o
noncomputable def low : Nat := (World.holding Tryd.prog default ⟨#[], #[], []⟩).heap.size
noncomputable def laidWorld (os : Os) : World :=
  let w0 := World.holding Tryd.prog os ⟨#[.cells #[.string (textOf Rows.laid_strconv_ErrRange)] 138, .cells #[.string (textOf Rows.laid_strconv_ErrSyntax)] 138], #[], []⟩
  { w0 with heap := ((((w0.heap.modify 6 (put (rowOf .u64 Rows.laid_internal_strconv_uint64pow10))).modify 9 (put (rowOf .u8 Rows.laid_math_bits_deBruijn32tab))).modify 10 (put (rowOf .u8 Rows.laid_math_bits_deBruijn64tab))).modify 8 (put #[.iface 136 (.pointer (some ⟨low, 0, none⟩))])).modify 7 (put #[.iface 136 (.pointer (some ⟨low + 1, 0, none⟩))]) }

def strsOf : DataW Unit → Array Value
  | .agg ps => (ps.map fun | .lit (.string l) => Value.string ⟨l.toArray⟩ | _ => Value.string ⟨#[]⟩).toArray
  | _ => #[]
noncomputable def laidWorld7 (os : Os) : World :=
  { laidWorld os with heap := ((laidWorld os).heap.modify 1 (put (strsOf Rows.laid_hearsay_hearsayref04_signs))).modify 0 (put (rowOf .i64 Rows.laid_hearsay_hearsayref04_kinds)) }
theorem met7 (os : Os) (args : Array Value) : laidMet Tryd.prog list7 ((laidWorld7 os).forCall (fun _ _ => 0) ⟨#[], args, []⟩).memory :=
  laidMet_of_run' 8 (by kernel_rfl) (by kernel_rfl)
end Go.Proofs.YtoioekmekbiimaaDoor.Laid
