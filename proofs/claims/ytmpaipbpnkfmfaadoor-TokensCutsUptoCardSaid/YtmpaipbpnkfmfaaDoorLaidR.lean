/-
  WHAT A ROW's LIST GIVES WHERE THE DOCUMENT's TWO TABLES STAND ON IT AS WELL; and a world that holds all seven. Conditions: none.
-/
import Derived.Test.YtmpaipbpnkfmfaaDoorLaid
namespace Go.Proofs.YtmpaipbpnkfmfaaDoor.Laid
open Go.ChangeShapes Go.WideShapes Go.ChangeAt Go.RowKit
open Go.Proofs.YtmpaipbpnkfmfaaDoor

abbrev list7 : List (String × DataW Unit) := [("hearsay/hearsayref04.signs", Rows.laid_hearsay_hearsayref04_signs), ("hearsay/hearsayref04.kinds", Rows.laid_hearsay_hearsayref04_kinds), ("math/bits.deBruijn32tab", Rows.laid_math_bits_deBruijn32tab), ("math/bits.deBruijn64tab", Rows.laid_math_bits_deBruijn64tab), ("internal/strconv.uint64pow10", Rows.laid_internal_strconv_uint64pow10), ("strconv.ErrRange", Rows.laid_strconv_ErrRange), ("strconv.ErrSyntax", Rows.laid_strconv_ErrSyntax)]

theorem tSigns : (Tryd.prog.globals[0]?).map (·.type) = some 86 := by kernel_rfl
theorem tKinds : (Tryd.prog.globals[1]?).map (·.type) = some 87 := by kernel_rfl
theorem cells86 : Tryd.prog.cellsOf 86 = 11 := by kernel_rfl
theorem cells87 : Tryd.prog.cellsOf 87 = 11 := by kernel_rfl
theorem cells3 : Tryd.prog.cellsOf 3 = 1 := by kernel_rfl

theorem cells_of_strs {H : Type} {enc : TypeId × Value → H} {P : Program} {w : World} {base : Nat} {sp : Nat → Bool} {held : Bool} {fuel : Nat} {t e : TypeId} {n : Nat} {cs : List Value} {zs : List (List UInt8)} {p : List MemPlace}
    (ht : P.underlying t = some (.array n e)) (he : P.underlying e = some .string) (hce : P.cellsOf e = 1) (hct : P.cellsOf t = n)
    (h : DataW.trod enc P w base sp held fuel t cs = some (.agg (zs.map fun l => .lit (.string l)), p)) : cs = zs.map fun l => Value.string ⟨l.toArray⟩ := by
  cases fuel with
  | zero => simp [DataW.trod] at h
  | succ fuel =>
    simp only [DataW.trod, ht, hce, hct, Nat.mul_one] at h
    split at h
    · rename_i hl
      obtain ⟨xs, hm, hx⟩ := Option.map_eq_some_iff.1 h
      have hxs : xs.map (·.1) = zs.map fun l => (DataW.lit (.string l) : DataW H) := by
        have := congrArg Prod.fst hx
        simpa using this
      have hxl : xs.length = n := by simpa using Lib.mapM_length hm
      have hzl : zs.length = n := by
        have := congrArg List.length hxs
        simp at this
        omega
      apply List.ext_getElem?
      intro i
      by_cases hi : i < n
      · obtain ⟨b, hb, hf⟩ := Lib.mapM_at hm i i (by simp [hi])
        obtain ⟨s, hc, rfl, _⟩ := DataW.trod_string he hf
        have h1 : cs[i]? = some (.string s) := by
          have := congrArg (·[0]?) hc
          simpa [List.getElem?_take, List.getElem?_drop] using this
        have h2 : (xs.map (·.1))[i]? = some (DataW.lit (.string s.data.toList) : DataW H) := by simp [hb]
        rw [hxs] at h2
        simp only [List.getElem?_map, Option.map_eq_some_iff, DataW.lit.injEq, Lit.string.injEq] at h2
        obtain ⟨l, hl', hs⟩ := h2
        rw [h1, List.getElem?_map, hl', Option.map_some, hs]
      · rw [List.getElem?_eq_none (by omega), List.getElem?_eq_none (by simp; omega)]
    · cases h

theorem glr {W : World} (h : laidMetH Tryd.prog list7 W) : GlR W := by
  have h0 : laidMet Tryd.prog list7 W := h
  have h1 := h0.tail
  have h2 : laidMet Tryd.prog list5 W := h1.tail
  have hk : Lib.TabIs Tryd.prog W "hearsay/hearsayref04.kinds" .i64 [11, 14, 16, 6, 7, 8, 9, 10, 12, 13, 15] := Lib.tabIs_of_head gKinds tKinds Tryd.underlying87 Tryd.underlying3 cells3 cells87 h1
  refine ⟨gl h2, ?_, hk⟩
  obtain ⟨ps, ⟨g', t', cs, fuel, p, q, hg', ht', hvar, hd, _, _⟩, _⟩ := h0
  obtain rfl := Option.some.inj (gSigns.symm.trans hg')
  obtain rfl := Option.some.inj (tSigns.symm.trans ht')
  rw [hvar]
  have hc := cells_of_strs (zs := [[58, 45], [33, 61], [60, 61], [40], [41], [44], [59], [46], [63], [61], [60]]) Tryd.underlying86 Tryd.underlying9 cells9 cells86 hd
  obtain ⟨l⟩ := cs
  have hc' : l = _ := hc
  rw [hc']
  rfl

def strsOf : DataW Unit → Array Value
  | .agg ps => (ps.map fun | .lit (.string l) => Value.string ⟨l.toArray⟩ | _ => Value.string ⟨#[]⟩).toArray
  | _ => #[]
noncomputable def laidWorld7 (os : Os) : World :=
  { laidWorld os with heap := ((laidWorld os).heap.modify 0 (put (strsOf Rows.laid_hearsay_hearsayref04_signs))).modify 1 (put (rowOf .i64 Rows.laid_hearsay_hearsayref04_kinds)) }
theorem met7 (os : Os) (args : Array Value) : laidMet Tryd.prog list7 ((laidWorld7 os).forCall (fun _ _ => 0) ⟨#[], args, []⟩).memory :=
  laidMet_of_run' 8 (by kernel_rfl) (by kernel_rfl)
end Go.Proofs.YtmpaipbpnkfmfaaDoor.Laid
