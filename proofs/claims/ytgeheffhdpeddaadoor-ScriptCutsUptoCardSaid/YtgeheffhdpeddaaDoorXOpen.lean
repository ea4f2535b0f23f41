/-
  Texts laid together: A ROW's ARGUMENTS, OPENED; WHAT A ROW's LIST OF VARIABLES GIVES; WHAT A ROW's LIST OF VARIABLES GIVES, chapter 25; A ROW's ARGUMENTS, OPENED. Conditions: as each theorem states.
-/
import Derived.Test.YtgeheffhdpeddaaDoorXCon
import Derived.Test.YtgeheffhdpeddaaDoorRows
import Derived.ChangeSlices
import Derived.Stop.LaidErr
import Derived.WalkKit
import Derived.ProofKit
import Derived.LaidLaws
import Derived.LaidMore
import Derived.LaidHandle
import Derived.Test.YtgeheffhdpeddaaDoorXPr
/- A ROW's ARGUMENTS, OPENED: from the reading of a token, of a list of tokens, to plain values, with the sizes that the reading's bulk allows. Conditions: none. -/
namespace Go.Proofs.YtgeheffhdpeddaaDoor.VX
open Go Go.Proofs Go.ChangeShapes Go.WideShapes Go.RowKit

/-- Cells that are there. -/
def There (w : World) : Cells := fun b o => (w.cell? ⟨b, o, none⟩).isSome = true
theorem There.lt {w : World} : ∀ b o, There w b o → b < w.heap.size := fun b o h => by
  unfold There at h
  rcases Nat.lt_or_ge b w.heap.size with h' | h'
  · exact h'
  · simp [World.cell?, Array.getElem?_eq_none h'] at h
structure T5 where
  k : Int
  t : ByteArray
  n : Int
  a : Int
  e : Int
namespace T5
def dat {H : Type} (t : T5) : DataW H := .agg [.lit (.int .i64 t.k), .lit (.string t.t.data.toList), .lit (.int .i64 t.n), .lit (.int .i64 t.a), .lit (.int .i64 t.e)]
def cells (t : T5) : List Value := [.int .i64 t.k, .string t.t, .int .i64 t.n, .int .i64 t.a, .int .i64 t.e]
def tok (t : T5) : Tk.Tok := ⟨t.k, Sp.ints t.t.data.toList, t.n, t.a, t.e⟩
def bulk : List T5 → Nat
  | [] => 0
  | t :: r => t.t.data.toList.length + 6 + bulk r
theorem bulk_dat {H : Type} (l : List T5) : Rows.uptoBulkAll (l.map (dat (H := H))) = bulk l := by
  induction l with
  | nil => rfl
  | cons t r ih =>
    simp only [List.map_cons, Rows.uptoBulkAll, ih, bulk, dat, Rows.uptoBulk]
    omega
theorem weigh_bulk (l : List T5) : Sp.weigh (l.map tok) ≤ 4 * bulk l := by
  induction l with
  | nil => exact Nat.le_refl _
  | cons t r ih =>
    simp only [List.map_cons, Sp.weigh, bulk, tok, Sp.ints_len]
    omega
def ok (t : T5) : Prop := Sp.i64 t.n = true
theorem rels {st : Cells} {w : World} {ι : Inj} (t : T5) : VRels st w ι [.int .i64 t.k, .str t.t.data.toList, .int .i64 t.n, .int .i64 t.a, .int .i64 t.e] t.cells :=
  ⟨_, _, rfl, rfl, _, _, rfl, by show Value.string t.t = .string ⟨t.t.data.toList.toArray⟩; simp, _, _, rfl, rfl, _, _, rfl, rfl, _, _, rfl, rfl, rfl⟩
theorem tokA_eq (t : T5) : tokA t.tok = .agg [.int .i64 t.k, .str t.t.data.toList, .int .i64 t.n, .int .i64 t.a, .int .i64 t.e] := by
  unfold tokA tok; rw [Sp.tb_ints]
theorem fine (t : T5) (h : t.ok) : Tk.fine t.tok := ⟨of_i64 h, ints_bytes _⟩
theorem ones (t : T5) : ∀ u ∈ t.cells, u.oneCell' = true := fun u hu => by
  simp [cells] at hu
  rcases hu with rfl | rfl | rfl | rfl | rfl <;> rfl
end T5
theorem i64_wf {n : Int} (h : (Lit.int .i64 n).wf = true) : Sp.i64 n = true := by
  have : -9223372036854775808 ≤ n ∧ n ≤ 9223372036854775807 := by
    simp only [Lit.wf, IntKind.min, IntKind.max, IntKind.signed, IntKind.bits, Bool.and_eq_true, decide_eq_true_eq] at h
    simpa using h
  exact i64_of this

section
variable {H : Type} {enc : TypeId × Value → H} {W : World} {base : Nat} {spare : Nat → Bool} {held : Bool}
set_option maxRecDepth 100000 in
theorem open_token {fuel : Nat} {cs : List Value} {x : DataW H × List MemPlace} (h : DataW.trod enc Tryd.prog W base spare held fuel 44 cs = some x) :
    ∃ t : T5, cs = t.cells ∧ x.1 = t.dat ∧ t.ok := by
  obtain ⟨xs, n, _, rfl, hl, hlen, hf⟩ := DataW.trod_struct Tryd.underlying44 h
  have w3_ : Tryd.prog.cellsOf 3 = 1 := by kernel_rfl
  have w9_ : Tryd.prog.cellsOf 9 = 1 := by kernel_rfl
  have hc5 : cs.length = 5 := hl.trans (by kernel_rfl)
  match cs, hc5 with
  | [c0, c1, c2, c3, c4], _ =>
    match xs, hlen with
    | [y0, y1, y2, y3, y4], _ =>
      have h0 : DataW.trod enc Tryd.prog W base spare held n 3 (List.take (Tryd.prog.cellsOf 3) (List.drop 0 [c0, c1, c2, c3, c4])) = some y0 := hf 0 _ rfl
      rw [w3_] at h0
      have h1 : DataW.trod enc Tryd.prog W base spare held n 9 (List.take (Tryd.prog.cellsOf 9) (List.drop 1 [c0, c1, c2, c3, c4])) = some y1 := hf 1 _ rfl
      rw [w9_] at h1
      have h2 : DataW.trod enc Tryd.prog W base spare held n 3 (List.take (Tryd.prog.cellsOf 3) (List.drop 2 [c0, c1, c2, c3, c4])) = some y2 := hf 2 _ rfl
      rw [w3_] at h2
      have h3 : DataW.trod enc Tryd.prog W base spare held n 3 (List.take (Tryd.prog.cellsOf 3) (List.drop 3 [c0, c1, c2, c3, c4])) = some y3 := hf 3 _ rfl
      rw [w3_] at h3
      have h4 : DataW.trod enc Tryd.prog W base spare held n 3 (List.take (Tryd.prog.cellsOf 3) (List.drop 4 [c0, c1, c2, c3, c4])) = some y4 := hf 4 _ rfl
      rw [w3_] at h4
      obtain ⟨a0, e0, rfl, w0⟩ := DataW.trod_int Tryd.underlying3 h0
      obtain ⟨a1, e1, rfl, w1⟩ := DataW.trod_string Tryd.underlying9 h1
      obtain ⟨a2, e2, rfl, w2⟩ := DataW.trod_int Tryd.underlying3 h2
      obtain ⟨a3, e3, rfl, w3⟩ := DataW.trod_int Tryd.underlying3 h3
      obtain ⟨a4, e4, rfl, w4⟩ := DataW.trod_int Tryd.underlying3 h4
      have f0 : c0 = .int .i64 a0 := (List.cons.inj e0).1
      have f1 : c1 = .string a1 := (List.cons.inj e1).1
      have f2 : c2 = .int .i64 a2 := (List.cons.inj e2).1
      have f3 : c3 = .int .i64 a3 := (List.cons.inj e3).1
      have f4 : c4 = .int .i64 a4 := (List.cons.inj e4).1
      exact ⟨⟨a0, a1, a2, a3, a4⟩, by rw [f0, f1, f2, f3, f4]; rfl, rfl, i64_wf w2⟩

theorem addr_add (a : Addr) (m n : Nat) : a.add (m + n) = (a.add m).add n := by
  unfold Addr.add
  by_cases hm : m = 0
  · subst hm; simp
  · by_cases hn : n = 0
    · subst hn; simp
    · rw [if_neg (by omega), if_neg hm, if_neg hn]; simp [Nat.add_assoc]
theorem cells_get {a : Addr} {n : Nat} {cs : List Value} (h : W.cells? base a n = some cs) : ∀ i u, cs[i]? = some u → W.cell? (a.add i) = some u := by
  unfold World.cells? at h
  split at h
  · intro i u hu
    have hl := mapM_some_length h
    have hi : i < n := by
      have := (List.getElem?_eq_some_iff.1 hu).1
      simp at hl
      omega
    have := mapM_some_get h i i (by simp [hi])
    rw [this, hu]
  · cases h
theorem cell_spot {a : Addr} {u : Value} (h : W.cell? a = some u) : a.spot = none := by
  unfold World.cell? at h
  cases hs : a.spot with
  | none => rfl
  | some s => rw [hs] at h; simp only [Option.isSome_some, if_true] at h; split at h <;> cases h
theorem toks_rel {w : World} : ∀ (l : List T5) (b o : Nat), (∀ j t, l[j]? = some t → ∀ i u, t.cells[i]? = some u → w.cell? ⟨b, o + (j * 5 + i), none⟩ = some u) → EsRel (There w) w 5 (l.map fun t => tokA t.tok) b o
  | [], _, _, _ => trivial
  | t :: l, b, o, h => by
    rw [List.map_cons, T5.tokA_eq]
    refine ⟨⟨rfl, ?_⟩, toks_rel l b (o + 5) fun j t' hj i u hu => ?_⟩
    · have hc : ∀ i u, t.cells[i]? = some u → w.cell? ⟨b, o + i, none⟩ = some u := fun i u hu => by
        have := h 0 t rfl i u hu
        rwa [show 0 * 5 + i = i by omega] at this
      have there : ∀ i u, t.cells[i]? = some u → There w b (o + i) := fun i u hu => by unfold There; rw [hc i u hu]; rfl
      refine ⟨⟨_, there 0 _ rfl, hc 0 _ rfl, rfl, rfl⟩, ⟨_, there 1 _ rfl, hc 1 _ rfl, rfl, ?_⟩, ⟨_, there 2 _ rfl, hc 2 _ rfl, rfl, rfl⟩, ⟨_, there 3 _ rfl, hc 3 _ rfl, rfl, rfl⟩, ⟨_, there 4 _ rfl, hc 4 _ rfl, rfl, rfl⟩, trivial⟩
      show Value.string t.t = .string ⟨t.t.data.toList.toArray⟩
      simp
    · have := h (j + 1) t' (by simpa using hj) i u hu
      rwa [show o + ((j + 1) * 5 + i) = o + 5 + (j * 5 + i) by omega] at this
theorem open_tokens {T fuel : Nat} {cs : List Value} {x : DataW H × List MemPlace} (hsp : ∀ b, spare b = true) (ht : Tryd.prog.underlying T = some (.slice 44)) (h : DataW.trod enc Tryd.prog W base spare held fuel T cs = some x) :
    ∃ (v : Value) (l : List T5), cs = [v] ∧ VRel (There W) W nop (.view 5 (l.map fun t => tokA t.tok)) v ∧ (∀ t ∈ l, t.ok) ∧ T5.bulk l ≤ Rows.uptoBulk x.1 := by
  rcases DataW.trod_slice ht h with ⟨rfl, rfl⟩ | ⟨a, len, cap, elems, rest, n, _, rfl, rfl, hb, hl, hm, hlen, hel, hrest, _⟩
  · exact ⟨_, [], rfl, ⟨none, 0, rfl, Nat.le_refl _, rfl⟩, (fun _ h => by cases h), Nat.zero_le _⟩
  · have hc33 : Tryd.prog.cellsOf 44 = 5 := by kernel_rfl
    rw [hc33] at hel hrest
    have each : ∀ i, ∃ t : T5, i < len → (W.cells? base (a.add (i * 5)) 5 = some t.cells ∧ ((elems.map (·.1))[i]? = some t.dat) ∧ t.ok) := by
      intro i
      by_cases hi : i < len
      · have h1 := hel i hi
        have he : elems[i]? = some (elems[i]'(by omega)) := List.getElem?_eq_getElem (by omega)
        rw [he] at h1
        obtain ⟨cs', hcs, hy⟩ := Option.bind_eq_some_iff.1 h1
        obtain ⟨t, rfl, hx, hk⟩ := open_token hy
        exact ⟨t, fun _ => ⟨hcs, by rw [List.getElem?_map, he, Option.map_some, hx], hk⟩⟩
      · exact ⟨⟨0, .empty, 0, 0, 0⟩, fun h => absurd h hi⟩
    let f : Nat → T5 := fun i => Classical.choose (each i)
    have hf : ∀ i, i < len → (W.cells? base (a.add (i * 5)) 5 = some (f i).cells ∧ ((elems.map (·.1))[i]? = some (f i).dat) ∧ (f i).ok) := fun i => Classical.choose_spec (each i)
    have hll : ((List.range len).map f).length = len := by simp
    have hget : ∀ j p, ((List.range len).map f)[j]? = some p → j < len ∧ p = f j := by
      intro j p hp
      have hj : j < len := by have := (List.getElem?_eq_some_iff.1 hp).1; rw [hll] at this; exact this
      rw [List.getElem?_map, List.getElem?_range hj, Option.map_some] at hp
      exact ⟨hj, (Option.some.inj hp).symm⟩
    have hmap : elems.map (·.1) = ((List.range len).map f).map (T5.dat (H := H)) := by
      apply List.ext_getElem?
      intro i
      by_cases hi : i < len
      · rw [(hf i hi).2.1, List.getElem?_map, List.getElem?_map, List.getElem?_range hi]; rfl
      · rw [List.getElem?_eq_none (by simp; omega), List.getElem?_eq_none (by simp; omega)]
    have hcell : ∀ j t, ((List.range len).map f)[j]? = some t → ∀ i u, t.cells[i]? = some u → W.cell? (a.add (j * 5 + i)) = some u := fun j t hj i u hu => by
      obtain ⟨hj', rfl⟩ := hget j t hj
      rw [addr_add]
      exact cells_get (hf j hj').1 i u hu
    refine ⟨_, (List.range len).map f, rfl, ⟨some a, cap, by rw [List.length_map, hll], by rw [List.length_map, hll]; exact hl, ?_, ?_⟩, ?_, ?_⟩
    · rcases Nat.eq_zero_or_pos len with h0 | h0
      · by_cases hs : a.spot = none
        · exact .inr hs
        · refine .inl (Nat.eq_zero_of_not_pos fun hc => hs ?_)
          obtain ⟨r1, r2⟩ := hrest (hsp _)
          have h1 := r2 0 (by omega)
          have he : rest[0]? = some (rest[0]'(by omega)) := List.getElem?_eq_getElem (by omega)
          rw [he] at h1
          obtain ⟨cs', hcs, hy⟩ := Option.bind_eq_some_iff.1 h1
          obtain ⟨t, rfl, _, _⟩ := open_token hy
          have := cell_spot (cells_get hcs 0 _ rfl)
          unfold Addr.add at this
          simp only [if_true] at this
          split at this
          · exact this
          · rename_i hne; exact absurd (by rw [h0]) hne
      · refine .inr ?_
        have := cell_spot (hcell 0 (f 0) (by rw [List.getElem?_map, List.getElem?_range h0]; rfl) 0 _ rfl)
        unfold Addr.add at this
        simpa using this
    · rcases Nat.eq_zero_or_pos len with h0 | h0
      · subst h0; trivial
      · have hs := cell_spot (hcell 0 (f 0) (by rw [List.getElem?_map, List.getElem?_range h0]; rfl) 0 _ rfl)
        have hs : a.spot = none := by unfold Addr.add at hs; simpa using hs
        refine toks_rel _ _ _ fun j t hj i u hu => ?_
        have := hcell j t hj i u hu
        obtain ⟨b, o, sp⟩ := a
        obtain rfl : sp = none := hs
        rwa [add_none] at this
    · intro t ht'
      obtain ⟨j, hj⟩ := List.getElem?_of_mem ht'
      obtain ⟨hj', rfl⟩ := hget j t hj
      exact (hf j hj').2.2
    · show T5.bulk _ ≤ Rows.uptoBulkAll (elems.map (·.1)) + Rows.uptoBulkAll (rest.map (·.1)) + 1
      rw [hmap, T5.bulk_dat]
      omega
end
/-- A law that comes to true, walked. -/
theorem walk_of {f : FuncId} {args : List AV} (h : CallOK Tryd.prog Gl f args (.bool true)) {w : World} {vals : List Value} (g : Gl w) (hv : VRels (There w) w nop args vals) :
    Calls Tryd.prog f vals.toArray w fun e w' => e = .returned (.bool true) ∧ Below w.heap.size w w' :=
  (h.2 (There w) w vals g There.lt hv).mono fun e w' ⟨u, st', he, hg, hr⟩ => by
    obtain rfl : u = .bool true := hr
    exact ⟨he, hg.below⟩
theorem ok42 {f : FuncId} {args : List AV} {n : Nat} {v : AV} (h : runA Tryd.prog (X 42) n f args = some v) : CallOK Tryd.prog Gl f args v :=
  runA_ok (X := X 42) progOK Wok.gl.glob Wok.gl.ww (tableOK_of rows42) (Wok.gl.rowsX 42) h
end Go.Proofs.YtgeheffhdpeddaaDoor.VX

/- WHAT A ROW's LIST OF VARIABLES GIVES: the tables and the two errors are as the walks ask; and a world that holds them all. Conditions: none. -/
namespace Go.Proofs.YtgeheffhdpeddaaDoor.Laid
open Go Go.Proofs Go.ChangeShapes Go.WideShapes Go.ChangeAt Go.RowKit
open Go.Proofs.YtgeheffhdpeddaaDoor

abbrev list5 : List (String × DataW Unit) := [("math/bits.deBruijn32tab", Rows.laid_math_bits_deBruijn32tab), ("math/bits.deBruijn64tab", Rows.laid_math_bits_deBruijn64tab), ("internal/strconv.uint64pow10", Rows.laid_internal_strconv_uint64pow10), ("strconv.ErrRange", Rows.laid_strconv_ErrRange), ("strconv.ErrSyntax", Rows.laid_strconv_ErrSyntax)]
abbrev list7 : List (String × DataW Unit) := [("hearsay/hearsayref04.signs", Rows.laid_hearsay_hearsayref04_signs), ("hearsay/hearsayref04.kinds", Rows.laid_hearsay_hearsayref04_kinds), ("math/bits.deBruijn32tab", Rows.laid_math_bits_deBruijn32tab), ("math/bits.deBruijn64tab", Rows.laid_math_bits_deBruijn64tab), ("internal/strconv.uint64pow10", Rows.laid_internal_strconv_uint64pow10), ("strconv.ErrRange", Rows.laid_strconv_ErrRange), ("strconv.ErrSyntax", Rows.laid_strconv_ErrSyntax)]
theorem tPow : (Tryd.prog.globals[4]?).map (·.type) = some 134 := by kernel_rfl
theorem tES : (Tryd.prog.globals[5]?).map (·.type) = some 90 := by kernel_rfl
theorem tER : (Tryd.prog.globals[6]?).map (·.type) = some 90 := by kernel_rfl
theorem cells135 : Tryd.prog.cellsOf 134 = 20 := by kernel_rfl
theorem cells104 : Tryd.prog.cellsOf 120 = 1 := by kernel_rfl
theorem cells146 : Tryd.prog.cellsOf 146 = 1 := by kernel_rfl
theorem cells9 : Tryd.prog.cellsOf 9 = 1 := by kernel_rfl
theorem star : "*" ++ "errors.errorString" = "*errors.errorString" := by decide
theorem row144 (u : TypeId) (h : Tryd.prog.typeName? 3 u = some "*errors.errorString") : u = 144 :=
  typeName_ptr_named (nm := "errors.errorString") (by rw [star]; kernel_rfl) (by kernel_rfl) (by decide) u (by rw [star]; exact h)

theorem gl5' {W : World} (h : laidMet Tryd.prog list5 W) : Lib.TabIs Tryd.prog W "internal/strconv.uint64pow10" .u64 Lib.pow10Tab ∧ (∃ t p, W.var? Tryd.prog "strconv.ErrSyntax" = some #[.iface t p]) ∧ ∃ t p, W.var? Tryd.prog "strconv.ErrRange" = some #[.iface t p] := by
  have h2 := h.tail.tail
  have hp : Lib.TabIs Tryd.prog W "internal/strconv.uint64pow10" .u64 Lib.pow10Tab := Lib.tabIs_of_head VX.gPow tPow Tryd.underlying134 Tryd.underlying120 cells104 cells135 h2
  obtain ⟨a, s, hr, -, -, -⟩ := laid_sentinel h2.tail VX.gER tER Tryd.underlying90 row144 Tryd.underlying144 Tryd.underlying146 rfl rfl Tryd.underlying9 cells146 cells9
  obtain ⟨a', s', hs, -, -, -⟩ := laid_sentinel h2.tail.tail VX.gES tES Tryd.underlying90 row144 Tryd.underlying144 Tryd.underlying146 rfl rfl Tryd.underlying9 cells146 cells9
  exact ⟨hp, ⟨_, _, hs⟩, ⟨_, _, hr⟩⟩

theorem tSigns : (Tryd.prog.globals[1]?).map (·.type) = some 112 := by kernel_rfl
theorem tKinds : (Tryd.prog.globals[2]?).map (·.type) = some 113 := by kernel_rfl
theorem cells86 : Tryd.prog.cellsOf 112 = 11 := by kernel_rfl
theorem cells87 : Tryd.prog.cellsOf 113 = 11 := by kernel_rfl
theorem cells3 : Tryd.prog.cellsOf 3 = 1 := by kernel_rfl

theorem cells_of_strs {H : Type} {enc : TypeId × Value → H} {P : Program} {w : World} {base : Nat} {sp : Nat → Bool} {held : Bool} {fuel : Nat} {t e : TypeId} {n : Nat} {cs : List Value} {zs : List (List UInt8)} {p : List MemPlace}
    (ht : P.underlying t = some (.array n e)) (he : P.underlying e = some .string) (hce : P.cellsOf e = 1) (hct : P.cellsOf t = n)
    (h : DataW.trod enc P w base sp held fuel t cs = some (.agg (zs.map fun l => .lit (.string l)), p)) : cs = zs.map fun l => Value.string ⟨l.toArray⟩ := by
  cases fuel with
  | zero => simp [DataW.trod] at h
  | succ fuel =>
    simp only [DataW.trod, ht, hce, hct, Nat.mul_one] at h
    split at h
    · rename_i hl
      obtain ⟨xs, hm, hx⟩ := Option.map_eq_some_iff.1 h
      have hxs : xs.map (·.1) = zs.map fun l => (DataW.lit (.string l) : DataW H) := by
        have := congrArg Prod.fst hx
        simpa using this
      have hxl : xs.length = n := by simpa using Lib.mapM_length hm
      have hzl : zs.length = n := by
        have := congrArg List.length hxs
        simp at this
        omega
      apply List.ext_getElem?
      intro i
      by_cases hi : i < n
      · obtain ⟨b, hb, hf⟩ := Lib.mapM_at hm i i (by simp [hi])
        obtain ⟨s, hc, rfl, _⟩ := DataW.trod_string he hf
        have h1 : cs[i]? = some (.string s) := by
          have := congrArg (·[0]?) hc
          simpa [List.getElem?_take, List.getElem?_drop] using this
        have h2 : (xs.map (·.1))[i]? = some (DataW.lit (.string s.data.toList) : DataW H) := by simp [hb]
        rw [hxs] at h2
        simp only [List.getElem?_map, Option.map_eq_some_iff, DataW.lit.injEq, Lit.string.injEq] at h2
        obtain ⟨l, hl', hs⟩ := h2
        rw [h1, List.getElem?_map, hl', Option.map_some, hs]
      · rw [List.getElem?_eq_none (by omega), List.getElem?_eq_none (by simp; omega)]
    · cases h


/-! ### a world that holds them -/
def rowOf (k : IntKind) : DataW Unit → Array Value
  | .agg ps => (ps.map fun | .lit (.int _ z) => Value.int k z | _ => Value.int k 0).toArray
  | _ => #[]
def textOf : DataW Unit → ByteArray
  | .iface _ (.ptr (.agg [.lit (.string l)])) => ⟨l.toArray⟩
  | _ => ⟨#[]⟩
def put (cs : Array Value) : Obj → Obj
  | .cells _ t frozen => .cells cs t frozen
  | o => o
noncomputable def low : Nat := (World.holding Tryd.prog default ⟨#[], #[], []⟩).heap.size
noncomputable def laidWorld (os : Os) : World :=
  let w0 := World.holding Tryd.prog os ⟨#[.cells #[.string (textOf Rows.laid_strconv_ErrRange)] 146, .cells #[.string (textOf Rows.laid_strconv_ErrSyntax)] 146], #[], []⟩
  { w0 with heap := ((((w0.heap.modify 4 (put (rowOf .u64 Rows.laid_internal_strconv_uint64pow10))).modify 7 (put (rowOf .u8 Rows.laid_math_bits_deBruijn32tab))).modify 8 (put (rowOf .u8 Rows.laid_math_bits_deBruijn64tab))).modify 6 (put #[.iface 144 (.pointer (some ⟨low, 0, none⟩))])).modify 5 (put #[.iface 144 (.pointer (some ⟨low + 1, 0, none⟩))]) }

def strsOf : DataW Unit → Array Value
  | .agg ps => (ps.map fun | .lit (.string l) => Value.string ⟨l.toArray⟩ | _ => Value.string ⟨#[]⟩).toArray
  | _ => #[]
noncomputable def laidWorld7 (os : Os) : World :=
  { laidWorld os with heap := ((laidWorld os).heap.modify 1 (put (strsOf Rows.laid_hearsay_hearsayref04_signs))).modify 2 (put (rowOf .i64 Rows.laid_hearsay_hearsayref04_kinds)) }
theorem met7 (os : Os) (args : Array Value) : laidMet Tryd.prog list7 ((laidWorld7 os).forCall (fun _ _ => 0) ⟨#[], args, []⟩).memory :=
  laidMet_of_run' 8 (by kernel_rfl) (by kernel_rfl)
end Go.Proofs.YtgeheffhdpeddaaDoor.Laid

/- WHAT A ROW's LIST OF VARIABLES GIVES, chapter 25: the script's table, which holds functions, too; and a world that holds them all. Conditions: none. -/
namespace Go.Proofs.YtgeheffhdpeddaaDoor.Laid
open Go Go.Proofs Go.ChangeShapes Go.WideShapes Go.ChangeAt Go.RowKit
open Go.Proofs.YtgeheffhdpeddaaDoor
abbrev list6 : List (String × DataW Unit) := [("math/bits.deBruijn32tab", Rows.laid_math_bits_deBruijn32tab), ("math/bits.deBruijn64tab", Rows.laid_math_bits_deBruijn64tab), ("internal/strconv.uint64pow10", Rows.laid_internal_strconv_uint64pow10), ("strconv.ErrRange", Rows.laid_strconv_ErrRange), ("strconv.ErrSyntax", Rows.laid_strconv_ErrSyntax), ("hearsay/script.rows", Rows.laid_hearsay_script_rows)]
abbrev list8 : List (String × DataW Unit) := [("hearsay/hearsayref04.signs", Rows.laid_hearsay_hearsayref04_signs), ("hearsay/hearsayref04.kinds", Rows.laid_hearsay_hearsayref04_kinds), ("math/bits.deBruijn32tab", Rows.laid_math_bits_deBruijn32tab), ("math/bits.deBruijn64tab", Rows.laid_math_bits_deBruijn64tab), ("internal/strconv.uint64pow10", Rows.laid_internal_strconv_uint64pow10), ("strconv.ErrRange", Rows.laid_strconv_ErrRange), ("strconv.ErrSyntax", Rows.laid_strconv_ErrSyntax), ("hearsay/script.rows", Rows.laid_hearsay_script_rows)]
theorem tRows : (Tryd.prog.globals[0]?).map (·.type) = some 56 := by kernel_rfl
theorem cellsRow : Tryd.prog.cellsOf 55 = 3 := by kernel_rfl
theorem cellsRows : Tryd.prog.cellsOf 56 = 72 := by kernel_rfl
theorem cellsFun : Tryd.prog.cellsOf 53 = 1 := by kernel_rfl
noncomputable def tokenOf (f : Nat) : List UInt8 := match Tryd.prog.funcs[f]? with | some fn => fn.name.toUTF8.data.toList | none => []
noncomputable def oneOf (q : List UInt8 × Int × Nat) : Bool := ((List.range Tryd.prog.funcs.size).filter fun f => (Tryd.prog.funcs[f]?).any (·.name.toUTF8.data.toList == tokenOf q.2.2)) == [q.2.2] && !(tokenOf q.2.2).isEmpty
theorem one_all : VX.rowsL.all oneOf = true := by kernel_rfl
noncomputable def rowD (q : List UInt8 × Int × Nat) : DataW (List UInt8) := .agg [.lit (.string q.1), .lit (.int .i64 q.2.1), .held (tokenOf q.2.2)]
def rowsD : DataW Unit := match (Rows.laid_hearsay_script_rows : DataW Unit) with | .iface _ d => d | d => d
theorem rowsD_eq : (Rows.laid_hearsay_script_rows : DataW Unit) = .iface "func table" rowsD := rfl
theorem rowsD_out : rowsD.funcsOut = .agg (VX.rowsL.map rowD) := by kernel_rfl
set_option maxRecDepth 100000 in
theorem elem_row {w : World} {sp : Nat → Bool} {fuel : Nat} {cs : List Value} {p : List MemPlace} {q : List UInt8 × Int × Nat} (hq : oneOf q = true)
    (h : DataW.trod (funcToken Tryd.prog) Tryd.prog w 0 sp true fuel 55 cs = some (rowD q, p)) : cs = [.string ⟨q.1.toArray⟩, .int .i64 q.2.1, .func (.func q.2.2) #[] #[]] := by
  obtain ⟨xs, n, _, hx, hl, hlen, hf⟩ := DataW.trod_struct Tryd.underlying55 h
  have hc3 : cs.length = 3 := hl.trans cellsRow
  match cs, hc3 with
  | [c0, c1, c2], _ =>
    match xs, hlen with
    | [y0, y1, y2], _ =>
      have h0 : DataW.trod (funcToken Tryd.prog) Tryd.prog w 0 sp true n 9 (List.take (Tryd.prog.cellsOf 9) (List.drop 0 [c0, c1, c2])) = some y0 := hf 0 _ rfl
      have h1 : DataW.trod (funcToken Tryd.prog) Tryd.prog w 0 sp true n 3 (List.take (Tryd.prog.cellsOf 3) (List.drop 1 [c0, c1, c2])) = some y1 := hf 1 _ rfl
      have h2 : DataW.trod (funcToken Tryd.prog) Tryd.prog w 0 sp true n 53 (List.take (Tryd.prog.cellsOf 53) (List.drop 2 [c0, c1, c2])) = some y2 := hf 2 _ rfl
      rw [cells9] at h0
      rw [cells3] at h1
      rw [cellsFun] at h2
      have hp := congrArg Prod.fst hx
      simp only [rowD, List.map_cons, List.map_nil, DataW.agg.injEq, List.cons.injEq, and_true] at hp
      obtain ⟨p0, p1, p2⟩ := hp
      obtain ⟨a0, e0, rfl, w0⟩ := DataW.trod_string Tryd.underlying9 h0
      obtain ⟨a1, e1, rfl, w1⟩ := DataW.trod_int Tryd.underlying3 h1
      have f0 : c0 = .string a0 := (List.cons.inj e0).1
      have f1 : c1 = .int .i64 a1 := (List.cons.inj e1).1
      simp only [DataW.lit.injEq, Lit.string.injEq] at p0
      simp only [DataW.lit.injEq, Lit.int.injEq, true_and] at p1
      have f2 : c2 = .func (.func q.2.2) #[] #[] := by
        unfold oneOf at hq
        simp only [Bool.and_eq_true, beq_iff_eq, Bool.not_eq_true'] at hq
        cases ht : tokenOf q.2.2 with
        | nil => rw [ht] at hq; exact absurd hq.2 (by simp)
        | cons b r =>
          rw [ht] at hq
          have h2' : DataW.trod (funcToken Tryd.prog) Tryd.prog w 0 sp true n 53 [c2] = some (.held (b :: r), y2.2) := by
            refine (show _ = some y2 from h2).trans ?_
            rw [← ht, p2]
          exact func_of_trod Tryd.underlying53 hq.1 h2'
      rw [f0, f1, f2, ← p1]
      congr 2
      rw [p0]
set_option maxRecDepth 100000 in
theorem cells_of_rows {w : World} {sp : Nat → Bool} {fuel : Nat} {cs : List Value} {p : List MemPlace} (h : DataW.trod (funcToken Tryd.prog) Tryd.prog w 0 sp true fuel 56 cs = some (.agg (VX.rowsL.map rowD), p)) : cs = VX.rowVals VX.rowsL := by
  cases fuel with
  | zero => simp [DataW.trod] at h
  | succ fuel =>
    simp only [DataW.trod, Tryd.underlying56, cellsRow] at h
    split at h
    · rename_i hl
      obtain ⟨xs, hm, hx⟩ := Option.map_eq_some_iff.1 h
      have hxs : xs.map (·.1) = VX.rowsL.map rowD := by
        have := congrArg Prod.fst hx
        simpa using this
      have key : ∀ (L : List (List UInt8 × Int × Nat)) (cs : List Value), cs.length = L.length * 3 → (∀ i q, L[i]? = some q → (cs.drop (i * 3)).take 3 = [.string ⟨q.1.toArray⟩, .int .i64 q.2.1, .func (.func q.2.2) #[] #[]]) → cs = VX.rowVals L := by
        intro L
        induction L with
        | nil => intro cs hc _; exact List.length_eq_zero_iff.mp (by simpa using hc)
        | cons q L ih =>
          intro cs hc hi
          have h0 := hi 0 q rfl
          rw [Nat.zero_mul, List.drop_zero] at h0
          have hr := ih (cs.drop 3) (by simp at hc ⊢; omega) fun i q' hq' => by
            have := hi (i + 1) q' (by simpa using hq')
            rw [List.drop_drop]
            rwa [show 3 + i * 3 = (i + 1) * 3 by omega]
          conv => lhs; rw [← List.take_append_drop 3 cs, h0, hr]
          obtain ⟨a, b, c⟩ := q
          rfl
      refine key _ _ hl fun i q hq => ?_
      have hi : i < 24 := by
        have h1 : i < VX.rowsL.length := (List.getElem?_eq_some_iff.mp hq).1
        have h2 : VX.rowsL.length = 24 := rfl
        omega
      obtain ⟨b, hb, hf⟩ := Lib.mapM_at hm i i (by simp [hi])
      have hbq : b.1 = rowD q := by
        have h2 : (xs.map (·.1))[i]? = some b.1 := by simp [hb]
        rw [hxs, List.getElem?_map, hq] at h2
        exact (Option.some.inj h2).symm
      refine elem_row (p := b.2) (List.all_eq_true.mp one_all q (List.mem_of_getElem? hq)) (hf.trans ?_)
      rw [← hbq]
    · cases h
theorem rows_at {W : World} (h : funcsAt Tryd.prog W "hearsay/script.rows" rowsD) : W.var? Tryd.prog "hearsay/script.rows" = some VX.rowsRow := by
  obtain ⟨g, t, cs, fuel, p, hg, ht, hv, hd⟩ := h
  obtain rfl := Option.some.inj (VX.gRows.symm.trans hg)
  obtain rfl := Option.some.inj (tRows.symm.trans ht)
  rw [rowsD_out] at hd
  have hc := cells_of_rows hd
  rw [hv]
  obtain ⟨l⟩ := cs
  have hc' : l = _ := hc
  rw [hc']
  rfl
/-! worlds -/
noncomputable def laidWorld6 (os : Os) : World := { laidWorld os with heap := (laidWorld os).heap.modify 0 (put VX.rowsRow) }
theorem met6 (os : Os) (args : Array Value) : laidMetH Tryd.prog list6 ((laidWorld6 os).forCall (fun _ _ => 0) ⟨#[], args, []⟩).memory :=
  laidMetH_of_parts3 (fuel := 8) (laidMet_of_run' 8 (by kernel_rfl) (by kernel_rfl)) (by kernel_rfl) (by kernel_rfl)
theorem gl6 {W : World} (h : laidMetH Tryd.prog list6 W) : VX.Gl W := by
  have hr := rows_at (h.funcs (n := "hearsay/script.rows") (d := rowsD) (by rw [← rowsD_eq]; simp))
  have h5 : laidMet Tryd.prog list5 W := (show laidMet Tryd.prog list5 W ∧ handlesMet Tryd.prog _ W from h).1
  obtain ⟨g1, g2, g3⟩ := gl5' h5
  exact ⟨g1, g2, g3, hr⟩
end Go.Proofs.YtgeheffhdpeddaaDoor.Laid

/- A ROW's ARGUMENTS, OPENED: from the reading of a step to plain values, with the sizes that the reading's bulk allows. Conditions: none. -/
namespace Go.Proofs.YtgeheffhdpeddaaDoor.VX
open Go Go.Proofs Go.ChangeShapes Go.WideShapes Go.RowKit
def DV.cellsA (d : DV) : List AV := [.int .i64 d.kd, .str d.who, .str d.to, .str d.text, .view 1 d.xs, .int .i64 d.n, .int .i64 d.m, .int .i64 d.k]
theorem bulk_lits {H : Type} (k : IntKind) : ∀ l : List Int, Rows.uptoBulkAll (lits (H := H) k l) = l.length
  | [] => rfl
  | n :: l => by
    have ih := bulk_lits (H := H) k l
    simp only [lits, List.map_cons, Rows.uptoBulkAll, Rows.uptoBulk, List.length_cons] at ih ⊢
    omega
section
variable {H : Type} {enc : TypeId × Value → H} {W : World} {base : Nat} {spare : Nat → Bool} {held : Bool}
theorem u8_back {n : Int} (h : (Lit.int .u8 n).wf = true) : ((UInt8.ofNat n.toNat).toNat : Int) = n := by
  have : 0 ≤ n ∧ n ≤ 255 := by
    simp only [Lit.wf, IntKind.min, IntKind.max, IntKind.signed, IntKind.bits, Bool.and_eq_true, decide_eq_true_eq] at h
    simpa using h
  rw [UInt8.toNat_ofNat']
  omega
theorem open_u8s {fuel : Nat} {cs : List Value} {x : DataW H × List MemPlace} (hsp : ∀ b, spare b = true) (h : DataW.trod enc Tryd.prog W base spare held fuel 22 cs = some x) :
    ∃ (v : Value) (s : List UInt8), cs = [v] ∧ v.oneCell' = true ∧ VRel (There W) W nop (.view 1 (s.map .u8)) v ∧ s.length ≤ Rows.uptoBulk x.1 := by
  rcases open_ints Tryd.underlying22 Tryd.underlying5 (by kernel_rfl) h with ⟨rfl, rfl⟩ | ⟨a, len, cap, zs, rfl, _, hl, _, hz, rfl, hc, hw⟩
  · exact ⟨_, [], rfl, rfl, ⟨none, 0, rfl, Nat.le_refl _, rfl⟩, Nat.zero_le _⟩
  · rw [hsp] at hz
    have hz : zs.length = cap := hz
    have hlen : ((zs.take len).map fun n => UInt8.ofNat n.toNat).length = len := by simp; omega
    have hspot : cap = 0 ∨ a.spot = none := by
      rcases Nat.eq_zero_or_pos cap with h0 | h0
      · exact .inl h0
      · refine .inr ?_
        have := cell_spot (hc 0 (by omega))
        unfold Addr.add at this
        simpa using this
    refine ⟨_, (zs.take len).map fun n => UInt8.ofNat n.toNat, rfl, rfl, ⟨some a, cap, by rw [List.length_map, hlen], by rw [List.length_map, hlen]; exact hl, hspot, ?_⟩, ?_⟩
    · rcases hspot with h0 | h0
      · have : zs = [] := List.length_eq_zero_iff.mp (by omega)
        subst this
        simp only [List.take_nil, List.map_nil]
        trivial
      · have hus : ((zs.take len).map fun n => UInt8.ofNat n.toNat).map (fun b => Value.int .u8 b.toNat) = (zs.take len).map (Value.int .u8) := by
          rw [List.map_map]
          refine List.map_congr_left fun n hn => ?_
          show Value.int .u8 _ = _
          rw [u8_back (hw n (List.mem_of_mem_take hn))]
        have hcell : ∀ i u, ((zs.take len).map (Value.int .u8))[i]? = some u → W.cell? ⟨a.block, a.off + i, none⟩ = some u := by
          intro i u hi
          rw [List.getElem?_map] at hi
          obtain ⟨n, hn, rfl⟩ := Option.map_eq_some_iff.1 hi
          rw [List.getElem?_take] at hn
          split at hn
          · have hi2 : i < zs.length := (List.getElem?_eq_some_iff.1 hn).1
            have := hc i hi2
            rw [List.getD_eq_getElem?_getD, hn] at this
            obtain ⟨b, o, sp⟩ := a
            obtain rfl : sp = none := h0
            rw [add_none] at this
            exact this
          · cases hn
        refine EsRel.mk (us := ((zs.take len).map fun n => UInt8.ofNat n.toNat).map fun b => Value.int .u8 b.toNat) (u8s_each _) (by rw [u8s_flat]; exact u8s_vals _) ?_ ?_ ?_
        · intro v hv; obtain ⟨b, _, rfl⟩ := List.mem_map.mp hv; rfl
        · rw [hus]; exact hcell
        · rw [hus]
          intro i hi
          have := hcell i _ (List.getElem?_eq_getElem hi)
          show (W.cell? ⟨a.block, a.off + i, none⟩).isSome = true
          rw [this]; rfl
    · rw [hlen]
      show len ≤ Rows.uptoBulkAll (lits .u8 (zs.take len)) + Rows.uptoBulkAll (lits .u8 (zs.drop len)) + 1
      rw [bulk_lits, List.length_take]
      omega
set_option maxRecDepth 100000 in
theorem open_do {fuel : Nat} {cs : List Value} {x : DataW H × List MemPlace} (hsp : ∀ b, spare b = true) (h : DataW.trod enc Tryd.prog W base spare held fuel 24 cs = some x) :
    ∃ d : DV, VRels (There W) W nop d.cellsA cs ∧ (∀ u ∈ cs, u.oneCell' = true) ∧ (d.who.length + d.to.length + d.text.length + d.xs.length ≤ Rows.uptoBulk x.1) ∧ d.xs.all isU8 = true ∧ Sp.i64 d.n = true ∧ Sp.i64 d.m = true ∧ Sp.i64 d.k = true := by
  obtain ⟨xs, n, _, rfl, hl, hlen, hf⟩ := DataW.trod_struct Tryd.underlying24 h
  have w3_ : Tryd.prog.cellsOf 3 = 1 := by kernel_rfl
  have w9_ : Tryd.prog.cellsOf 9 = 1 := by kernel_rfl
  have w22_ : Tryd.prog.cellsOf 22 = 1 := by kernel_rfl
  have hc8 : cs.length = 8 := hl.trans (by kernel_rfl)
  match cs, hc8 with
  | [c0, c1, c2, c3, c4, c5, c6, c7], _ =>
    match xs, hlen with
    | [y0, y1, y2, y3, y4, y5, y6, y7], _ =>
      have h0 : DataW.trod enc Tryd.prog W base spare held n 3 (List.take (Tryd.prog.cellsOf 3) (List.drop 0 [c0, c1, c2, c3, c4, c5, c6, c7])) = some y0 := hf 0 _ rfl
      rw [w3_] at h0
      have h1 : DataW.trod enc Tryd.prog W base spare held n 9 (List.take (Tryd.prog.cellsOf 9) (List.drop 1 [c0, c1, c2, c3, c4, c5, c6, c7])) = some y1 := hf 1 _ rfl
      rw [w9_] at h1
      have h2 : DataW.trod enc Tryd.prog W base spare held n 9 (List.take (Tryd.prog.cellsOf 9) (List.drop 2 [c0, c1, c2, c3, c4, c5, c6, c7])) = some y2 := hf 2 _ rfl
      rw [w9_] at h2
      have h3 : DataW.trod enc Tryd.prog W base spare held n 9 (List.take (Tryd.prog.cellsOf 9) (List.drop 3 [c0, c1, c2, c3, c4, c5, c6, c7])) = some y3 := hf 3 _ rfl
      rw [w9_] at h3
      have h4 : DataW.trod enc Tryd.prog W base spare held n 22 (List.take (Tryd.prog.cellsOf 22) (List.drop 4 [c0, c1, c2, c3, c4, c5, c6, c7])) = some y4 := hf 4 _ rfl
      rw [w22_] at h4
      have h5 : DataW.trod enc Tryd.prog W base spare held n 3 (List.take (Tryd.prog.cellsOf 3) (List.drop 5 [c0, c1, c2, c3, c4, c5, c6, c7])) = some y5 := hf 5 _ rfl
      rw [w3_] at h5
      have h6 : DataW.trod enc Tryd.prog W base spare held n 3 (List.take (Tryd.prog.cellsOf 3) (List.drop 6 [c0, c1, c2, c3, c4, c5, c6, c7])) = some y6 := hf 6 _ rfl
      rw [w3_] at h6
      have h7 : DataW.trod enc Tryd.prog W base spare held n 3 (List.take (Tryd.prog.cellsOf 3) (List.drop 7 [c0, c1, c2, c3, c4, c5, c6, c7])) = some y7 := hf 7 _ rfl
      rw [w3_] at h7
      obtain ⟨a0, e0, rfl, w0⟩ := DataW.trod_int Tryd.underlying3 h0
      obtain ⟨a1, e1, rfl, w1⟩ := DataW.trod_string Tryd.underlying9 h1
      obtain ⟨a2, e2, rfl, w2⟩ := DataW.trod_string Tryd.underlying9 h2
      obtain ⟨a3, e3, rfl, w3⟩ := DataW.trod_string Tryd.underlying9 h3
      obtain ⟨v4, s4, e4, o4, r4, b4⟩ := open_u8s hsp h4
      obtain ⟨a5, e5, rfl, w5⟩ := DataW.trod_int Tryd.underlying3 h5
      obtain ⟨a6, e6, rfl, w6⟩ := DataW.trod_int Tryd.underlying3 h6
      obtain ⟨a7, e7, rfl, w7⟩ := DataW.trod_int Tryd.underlying3 h7
      have f0 : c0 = .int .i64 a0 := (List.cons.inj e0).1
      have f1 : c1 = .string a1 := (List.cons.inj e1).1
      have f2 : c2 = .string a2 := (List.cons.inj e2).1
      have f3 : c3 = .string a3 := (List.cons.inj e3).1
      have f4 : c4 = v4 := (List.cons.inj e4).1
      have f5 : c5 = .int .i64 a5 := (List.cons.inj e5).1
      have f6 : c6 = .int .i64 a6 := (List.cons.inj e6).1
      have f7 : c7 = .int .i64 a7 := (List.cons.inj e7).1
      subst f0 f1 f2 f3 f4 f5 f6 f7
      have st : ∀ a : ByteArray, Value.string a = .string ⟨a.data.toList.toArray⟩ := fun a => by simp
      refine ⟨⟨a0, a1.data.toList, a2.data.toList, a3.data.toList, s4.map .u8, a5, a6, a7⟩, ⟨_, _, rfl, rfl, _, _, rfl, st a1, _, _, rfl, st a2, _, _, rfl, st a3, _, _, rfl, r4, _, _, rfl, rfl, _, _, rfl, rfl, _, _, rfl, rfl, rfl⟩, ?_, ?_, isU8_map _, i64_wf w5, i64_wf w6, i64_wf w7⟩
      · intro u hu
        simp only [List.mem_cons, List.not_mem_nil, or_false] at hu
        rcases hu with rfl | rfl | rfl | rfl | rfl | rfl | rfl | rfl <;> first | rfl | exact o4
      · show a1.data.toList.length + a2.data.toList.length + a3.data.toList.length + (s4.map AV.u8).length ≤ Rows.uptoBulkAll [_, _, _, _, y4.1, _, _, _] + 1
        simp only [Rows.uptoBulkAll, Rows.uptoBulk, List.length_map]
        omega
end
set_option maxRecDepth 100000 in
theorem open_bad {H : Type} {enc : TypeId × Value → H} {W : World} {base : Nat} {spare : Nat → Bool} {held : Bool} {fuel : Nat} {cs : List Value} {x : DataW H × List MemPlace} (h : DataW.trod enc Tryd.prog W base spare held fuel 38 cs = some x) :
    ∃ a b, cs = [.int .i64 a, .int .i64 b] := by
  obtain ⟨xs, n, _, rfl, hl, hlen, hf⟩ := DataW.trod_struct Tryd.underlying38 h
  have w3_ : Tryd.prog.cellsOf 3 = 1 := by kernel_rfl
  have hc2 : cs.length = 2 := hl.trans (by kernel_rfl)
  match cs, hc2 with
  | [c0, c1], _ =>
    match xs, hlen with
    | [y0, y1], _ =>
      have h0 : DataW.trod enc Tryd.prog W base spare held n 3 (List.take (Tryd.prog.cellsOf 3) (List.drop 0 [c0, c1])) = some y0 := hf 0 _ rfl
      rw [w3_] at h0
      have h1 : DataW.trod enc Tryd.prog W base spare held n 3 (List.take (Tryd.prog.cellsOf 3) (List.drop 1 [c0, c1])) = some y1 := hf 1 _ rfl
      rw [w3_] at h1
      obtain ⟨a0, e0, rfl, w0⟩ := DataW.trod_int Tryd.underlying3 h0
      obtain ⟨a1, e1, rfl, w1⟩ := DataW.trod_int Tryd.underlying3 h1
      exact ⟨a0, a1, by rw [show c0 = .int .i64 a0 from (List.cons.inj e0).1, show c1 = .int .i64 a1 from (List.cons.inj e1).1]⟩
theorem DV.Ok.mk' {d : DV} (h1 : d.who.length + d.to.length + d.text.length + d.xs.length ≤ 1048576) (h2 : d.xs.all isU8 = true) (h3 : Sp.i64 d.n = true) (h4 : Sp.i64 d.m = true) (h5 : Sp.i64 d.k = true) : DV.Ok d := ⟨by omega, h2, h3, h4, h5⟩
end Go.Proofs.YtgeheffhdpeddaaDoor.VX
