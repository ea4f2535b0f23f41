/-
  A ROW's LIST OF TOKENS within the statement's bound is within the plain laws' bounds. Conditions: none.
-/
import Derived.Test.YtmpaipbpnkfmfaaDoorOpen
import Derived.Test.YtmpaipbpnkfmfaaDoorPure
namespace Go.Proofs.YtmpaipbpnkfmfaaDoor.CutPure
open Go.RowKit Go.Proofs.YtmpaipbpnkfmfaaDoor.P Go.Proofs.YtmpaipbpnkfmfaaDoorW.PrintWords Go.Proofs.YtmpaipbpnkfmfaaDoorW.PrintLast Go.Proofs.YtmpaipbpnkfmfaaDoor.Br
open Go.Proofs.YtmpaipbpnkfmfaaDoor

theorem i64_bd {n : Int} (h : (Lit.int .i64 n).wf = true) : -9223372036854775808 ≤ n ∧ n ≤ 9223372036854775807 := by
  simp [Lit.wf, IntKind.min, IntKind.max, IntKind.signed, IntKind.bits] at h
  omega
theorem ok_bulk (l : List S33) (o : ∀ t ∈ l, Open.okT t) (b : Open.bulk l ≤ 1048576) : (∀ t ∈ l, okS t) ∧ l.length ≤ 1048576 ∧ wt l ≤ 8388608 := by
  have key : ∀ l : List S33, l.length ≤ Open.bulk l ∧ wt l ≤ 5 * Open.bulk l ∧ ∀ t ∈ l, t.f1.size ≤ Open.bulk l := by
    intro l
    induction l with
    | nil => exact ⟨Nat.le_refl _, Nat.le_refl _, fun t h => (by cases h)⟩
    | cons t r ih =>
      obtain ⟨h1, h2, h3⟩ := ih
      simp only [Open.bulk, wt, List.length_cons]
      refine ⟨by omega, by omega, fun x hx => ?_⟩
      rcases List.mem_cons.1 hx with rfl | hx
      · omega
      · have := h3 x hx; omega
  obtain ⟨h1, h2, h3⟩ := key l
  refine ⟨fun t ht => ?_, by omega, by omega⟩
  have := h3 t ht
  exact ⟨by omega, i64_bd (o t ht).2.2.1⟩
end Go.Proofs.YtmpaipbpnkfmfaaDoor.CutPure
