/-
  WHAT A ROW's LIST OF VARIABLES GIVES: the table of powers and the two errors are as the walks ask; and a world that holds them all. Conditions: none.
-/
import Derived.Test.YtmpaipbpnkfmfaaDoorGl
import Derived.Test.YtmpaipbpnkfmfaaDoorRows
import Derived.Stop.LaidErr
import Derived.WalkKit
import Derived.ProofKit
import Derived.LaidLaws
namespace Go.Proofs.YtmpaipbpnkfmfaaDoor.Laid
open Go.ChangeShapes Go.WideShapes Go.ChangeAt Go.RowKit
open Go.Proofs.YtmpaipbpnkfmfaaDoor

abbrev list5 : List (String × DataW Unit) := [("math/bits.deBruijn32tab", Rows.laid_math_bits_deBruijn32tab), ("math/bits.deBruijn64tab", Rows.laid_math_bits_deBruijn64tab), ("internal/strconv.uint64pow10", Rows.laid_internal_strconv_uint64pow10), ("strconv.ErrRange", Rows.laid_strconv_ErrRange), ("strconv.ErrSyntax", Rows.laid_strconv_ErrSyntax)]

theorem tPow : (Tryd.prog.globals[6]?).map (·.type) = some 135 := by kernel_rfl
theorem tES : (Tryd.prog.globals[7]?).map (·.type) = some 73 := by kernel_rfl
theorem tER : (Tryd.prog.globals[8]?).map (·.type) = some 73 := by kernel_rfl
theorem cells135 : Tryd.prog.cellsOf 135 = 20 := by kernel_rfl
theorem cells104 : Tryd.prog.cellsOf 104 = 1 := by kernel_rfl
theorem cells146 : Tryd.prog.cellsOf 146 = 1 := by kernel_rfl
theorem cells9 : Tryd.prog.cellsOf 9 = 1 := by kernel_rfl
theorem star : "*" ++ "errors.errorString" = "*errors.errorString" := by decide
theorem row144 (u : TypeId) (h : Tryd.prog.typeName? 3 u = some "*errors.errorString") : u = 144 :=
  typeName_ptr_named (nm := "errors.errorString") (by rw [star]; kernel_rfl) (by kernel_rfl) (by decide) u (by rw [star]; exact h)

theorem var_size {P : Program} {w : World} {n : String} {g : Nat} {cs : Array Value} (hg : P.globalNamed n = some g) (h : w.var? P n = some cs) : g < w.heap.size := by
  unfold World.var? at h
  rw [hg] at h
  rcases Nat.lt_or_ge g w.heap.size with h' | h'
  · exact h'
  · simp [Array.getElem?_eq_none h'] at h

theorem gl {W : World} (h : laidMetH Tryd.prog list5 W) : Gl W := by
  have h0 : laidMet Tryd.prog list5 W := h
  have h2 := h0.tail.tail
  have hp : Lib.TabIs Tryd.prog W "internal/strconv.uint64pow10" .u64 Lib.pow10Tab := Lib.tabIs_of_head gPow tPow Tryd.underlying135 Tryd.underlying104 cells104 cells135 h2
  obtain ⟨a, s, hr, -, -, -⟩ := laid_sentinel h2.tail gER tER Tryd.underlying73 row144 Tryd.underlying144 Tryd.underlying146 rfl rfl Tryd.underlying9 cells146 cells9
  obtain ⟨a', s', hs, -, -, -⟩ := laid_sentinel h2.tail.tail gES tES Tryd.underlying73 row144 Tryd.underlying144 Tryd.underlying146 rfl rfl Tryd.underlying9 cells146 cells9
  exact ⟨hp, ⟨_, _, hs⟩, ⟨_, _, hr⟩, var_size gER hr⟩

/-! ### a world that holds them -/
def rowOf (k : IntKind) : DataW Unit → Array Value
  | .agg ps => (ps.map fun | .lit (.int _ z) => Value.int k z | _ => Value.int k 0).toArray
  | _ => #[]
def textOf : DataW Unit → ByteArray
  | .iface _ (.ptr (.agg [.lit (.string l)])) => ⟨l.toArray⟩
  | _ => ⟨#[]⟩
def put (cs : Array Value) : Obj → Obj
  | .cells _ t frozen => .cells cs t frozen
  | o => o
noncomputable def low : Nat := (World.holding Tryd.prog default ⟨#[], #[], []⟩).heap.size
noncomputable def laidWorld (os : Os) : World :=
  let w0 := World.holding Tryd.prog os ⟨#[.cells #[.string (textOf Rows.laid_strconv_ErrRange)] 146, .cells #[.string (textOf Rows.laid_strconv_ErrSyntax)] 146], #[], []⟩
  { w0 with heap := ((((w0.heap.modify 6 (put (rowOf .u64 Rows.laid_internal_strconv_uint64pow10))).modify 10 (put (rowOf .u8 Rows.laid_math_bits_deBruijn32tab))).modify 11 (put (rowOf .u8 Rows.laid_math_bits_deBruijn64tab))).modify 8 (put #[.iface 144 (.pointer (some ⟨low, 0, none⟩))])).modify 7 (put #[.iface 144 (.pointer (some ⟨low + 1, 0, none⟩))]) }

theorem met (os : Os) (args : Array Value) : laidMet Tryd.prog list5 ((laidWorld os).forCall (fun _ _ => 0) ⟨#[], args, []⟩).memory :=
  laidMet_of_run' 8 (by kernel_rfl) (by kernel_rfl)
end Go.Proofs.YtmpaipbpnkfmfaaDoor.Laid
