/-
  THE DOCUMENT's TWO TABLES AS ROWS THAT CAME IN: what the walks of hearsayref04's one and spelled read. Conditions: none.
-/
import Derived.Test.YtmpaipbpnkfmfaaDoorGl
import Derived.Test.YtmpaipbpnkfmfaaDoorPx0
namespace Go.Proofs.YtmpaipbpnkfmfaaDoor
open Go.RowKit Go.Proofs.YtmpaipbpnkfmfaaDoorW.PrintWords Go.Proofs.YtmpaipbpnkfmfaaDoorW.PrintLast

def lg0 : List ByteArray := [⟨#[58, 45]⟩, ⟨#[33, 61]⟩, ⟨#[60, 61]⟩, ⟨#[40]⟩, ⟨#[41]⟩, ⟨#[44]⟩, ⟨#[59]⟩, ⟨#[46]⟩, ⟨#[63]⟩, ⟨#[61]⟩, ⟨#[60]⟩]
def lg1 : List Int := [11, 14, 16, 6, 7, 8, 9, 10, 12, 13, 15]
abbrev Ag0 : Option Addr := some ⟨0, 0, none⟩
abbrev Ag1 : Option Addr := some ⟨1, 0, none⟩
abbrev cg0 : Nat := 11
abbrev cg1 : Nat := 11
theorem add_gl (b n : Nat) : (Addr.add ⟨b, 0, none⟩ n) = ⟨b, n, none⟩ := by
  unfold Addr.add
  by_cases h : n = 0
  · rw [if_pos h, h]
  · rw [if_neg h]; simp

theorem c_g0 {w : World} (h : GlR w) : Kd.C Kd.string w Ag0 lg0.length lg0 := by
  refine ⟨rfl, by decide, fun _ => ⟨_, rfl, fun j p hj => ⟨[.string p], rfl, rfl, fun i u hu => ?_⟩⟩⟩
  cases i with
  | succ i => simp at hu
  | zero =>
    simp only [List.getElem?_cons_zero, Option.some.injEq] at hu
    have hc := World.var?_cell gSigns h.sg j
    show w.cell? (Addr.add ⟨0, 0, none⟩ (j * 1 + 0)) = some u
    rw [add_gl, show j * 1 + 0 = j by omega, hc, ← hu]
    have e : signsRow = (lg0.map Value.string).toArray := rfl
    rw [e, List.getElem?_toArray, List.getElem?_map, hj]
    rfl
theorem c_g1 {w : World} (h : GlR w) : Kd.C (Kd.int .i64) w Ag1 lg1.length lg1 := by
  refine ⟨rfl, by decide, fun _ => ⟨_, rfl, fun j p hj => ⟨[.int .i64 p], rfl, rfl, fun i u hu => ?_⟩⟩⟩
  cases i with
  | succ i => simp at hu
  | zero =>
    simp only [List.getElem?_cons_zero, Option.some.injEq] at hu
    have hc := World.var?_cell gKinds h.kd j
    show w.cell? (Addr.add ⟨1, 0, none⟩ (j * 1 + 0)) = some u
    rw [add_gl, show j * 1 + 0 = j by omega, hc, ← hu]
    have e : kindsRow = (lg1.map (Value.int .i64)).toArray := rfl
    rw [e, List.getElem?_toArray, List.getElem?_map, hj]
    rfl

/-- a string of a row that is read -/
theorem at_gl {w : World} {A : Option Addr} {n : Nat} {xs : List ByteArray} (h : Kd.C Kd.string w A n xs) (i : Int) (h0 : 0 ≤ i) (h1 : i < n) : ∃ ad, A = some ad ∧ w.cell? (ad.add i.toNat) = some (.string (rdOf ByteArray.empty xs i)) := by
  obtain ⟨ad, c, e, _, hk, hc⟩ := Kd.C_get h ByteArray.empty i h0 h1
  have hk' : c = [.string (xs.getD i.toNat ByteArray.empty)] := hk
  refine ⟨ad, e, ?_⟩
  have := hc 0 (.string (xs.getD i.toNat ByteArray.empty)) (by rw [hk']; rfl)
  have e1 : i.toNat * Kd.string.sz + 0 = i.toNat := Nat.mul_one _
  rw [e1] at this
  exact this

end Go.Proofs.YtmpaipbpnkfmfaaDoor
