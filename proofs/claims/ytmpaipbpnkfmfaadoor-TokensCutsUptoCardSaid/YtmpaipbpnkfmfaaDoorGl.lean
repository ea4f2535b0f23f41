/-
  WHAT A WALK ASKS OF THE WORLD: the package-level variables that the road meets hold what the row lists; it stays so in every later world. Conditions: none.
-/
import Derived.Test.YtmpaipbpnkfmfaaDoorShelf
import Derived.Lib.LaidTab
import Derived.WalkSmall
namespace Go.Proofs.YtmpaipbpnkfmfaaDoor
open Go.RowKit

theorem gSigns : Tryd.prog.globalNamed "hearsay/hearsayref04.signs" = some 0 := by kernel_rfl
theorem gKinds : Tryd.prog.globalNamed "hearsay/hearsayref04.kinds" = some 1 := by kernel_rfl
theorem gPow : Tryd.prog.globalNamed "internal/strconv.uint64pow10" = some 6 := by kernel_rfl
theorem gES : Tryd.prog.globalNamed "strconv.ErrSyntax" = some 7 := by kernel_rfl
theorem gER : Tryd.prog.globalNamed "strconv.ErrRange" = some 8 := by kernel_rfl

/-- The program's own road: a table of the library's, two errors of the library's. -/
structure Gl (w : World) : Prop where
  pow : Lib.TabIs Tryd.prog w "internal/strconv.uint64pow10" .u64 Lib.pow10Tab
  es : ∃ t p, w.var? Tryd.prog "strconv.ErrSyntax" = some #[.iface t p]
  er : ∃ t p, w.var? Tryd.prog "strconv.ErrRange" = some #[.iface t p]
  big : 9 ≤ w.heap.size

theorem Gl.below {w W : World} (h : Gl w) (b : Below w.heap.size w W) : Gl W := by
  obtain ⟨h1, ⟨t, p, h2⟩, ⟨t', p', h3⟩, h4⟩ := h
  refine ⟨?_, ⟨t, p, var?_below b gES (by omega) h2⟩, ⟨t', p', var?_below b gER (by omega) h3⟩, ?_⟩
  · exact var?_below b gPow (by omega) h1
  · have := b.size; omega

/-- The document's road: its two tables besides. -/
def signsRow : Array Value := #[.string ⟨#[58, 45]⟩, .string ⟨#[33, 61]⟩, .string ⟨#[60, 61]⟩, .string ⟨#[40]⟩, .string ⟨#[41]⟩, .string ⟨#[44]⟩, .string ⟨#[59]⟩, .string ⟨#[46]⟩, .string ⟨#[63]⟩, .string ⟨#[61]⟩, .string ⟨#[60]⟩]
def kindsRow : Array Value := #[.int .i64 11, .int .i64 14, .int .i64 16, .int .i64 6, .int .i64 7, .int .i64 8, .int .i64 9, .int .i64 10, .int .i64 12, .int .i64 13, .int .i64 15]
structure GlR (w : World) : Prop where
  gl : Gl w
  sg : w.var? Tryd.prog "hearsay/hearsayref04.signs" = some signsRow
  kd : w.var? Tryd.prog "hearsay/hearsayref04.kinds" = some kindsRow

theorem GlR.below {w W : World} (h : GlR w) (b : Below w.heap.size w W) : GlR W := by
  have h4 := h.gl.big
  exact ⟨h.gl.below b, var?_below b gSigns (by omega) h.sg, var?_below b gKinds (by omega) h.kd⟩

end Go.Proofs.YtmpaipbpnkfmfaaDoor
