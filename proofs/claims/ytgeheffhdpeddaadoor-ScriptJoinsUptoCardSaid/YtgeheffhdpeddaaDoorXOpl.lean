/-
  A LIST OF TEXTS among a row's arguments, opened. Conditions: none.
-/
import Derived.Test.YtgeheffhdpeddaaDoorXOpen
import Derived.Test.YtgeheffhdpeddaaDoorXLin
import Derived.SliceStrings
namespace Go.Proofs.YtgeheffhdpeddaaDoor.VX
open Go Go.Proofs Go.ChangeShapes Go.WideShapes Go.RowKit
theorem bulk_strs {H : Type} : ∀ ss : List ByteArray, Rows.uptoBulkAll (strs (H := H) ss) = Sp.sizes (ss.map (·.data.toList)) + ss.length
  | [] => rfl
  | s :: l => by
    have ih := bulk_strs (H := H) l
    simp only [strs, List.map_cons, Rows.uptoBulkAll, Rows.uptoBulk, List.length_cons, Sp.sizes] at ih ⊢
    omega
theorem open_strs {H : Type} {enc : TypeId × Value → H} {W : World} {base : Nat} {spare : Nat → Bool} {held : Bool} {fuel : Nat} {cs : List Value} {x : DataW H × List MemPlace} (hsp : ∀ b, spare b = true) (h : DataW.trod enc Tryd.prog W base spare held fuel 49 cs = some x) :
    ∃ (v : Value) (l : List (List UInt8)), cs = [v] ∧ VRel (There W) W nop (.view 1 (l.map .str)) v ∧ Sp.sizes l + l.length ≤ Rows.uptoBulk x.1 := by
  rcases open_strings Tryd.underlying49 Tryd.underlying9 (by kernel_rfl) h with ⟨rfl, rfl⟩ | ⟨a, len, cap, ss, rfl, _, hl, _, hz, rfl, hc, hw⟩
  · exact ⟨_, [], rfl, ⟨none, 0, rfl, Nat.le_refl _, rfl⟩, Nat.zero_le _⟩
  · rw [hsp] at hz
    have hz : ss.length = cap := hz
    have hlen : ((ss.take len).map fun s => s.data.toList).length = len := by simp; omega
    have hspot : cap = 0 ∨ a.spot = none := by
      rcases Nat.eq_zero_or_pos cap with h0 | h0
      · exact .inl h0
      · refine .inr ?_
        have := cell_spot (hc 0 (by omega))
        unfold Addr.add at this
        simpa using this
    refine ⟨_, (ss.take len).map fun s => s.data.toList, rfl, ⟨some a, cap, by rw [List.length_map, hlen], by rw [List.length_map, hlen]; exact hl, hspot, ?_⟩, ?_⟩
    · rcases hspot with h0 | h0
      · have : ss = [] := List.length_eq_zero_iff.mp (by omega)
        subst this
        simp only [List.take_nil, List.map_nil]
        trivial
      · have hus : ((ss.take len).map fun s => s.data.toList).map strV = (ss.take len).map Value.string := by
          rw [List.map_map]
          refine List.map_congr_left fun s _ => ?_
          show Value.string ⟨s.data.toList.toArray⟩ = .string s
          simp
        have hcell : ∀ i u, ((ss.take len).map Value.string)[i]? = some u → W.cell? ⟨a.block, a.off + i, none⟩ = some u := by
          intro i u hi
          rw [List.getElem?_map] at hi
          obtain ⟨n, hn, rfl⟩ := Option.map_eq_some_iff.1 hi
          rw [List.getElem?_take] at hn
          split at hn
          · have hi2 : i < ss.length := (List.getElem?_eq_some_iff.1 hn).1
            have := hc i hi2
            rw [List.getD_eq_getElem?_getD, hn] at this
            obtain ⟨b, o, sp⟩ := a
            obtain rfl : sp = none := h0
            rw [add_none] at this
            exact this
          · cases hn
        refine EsRel.mk (us := ((ss.take len).map fun s => s.data.toList).map strV) (strs_each _) (by rw [strs_flat]; exact strs_vals _) ?_ ?_ ?_
        · intro v hv; obtain ⟨b, _, rfl⟩ := List.mem_map.mp hv; rfl
        · rw [hus]; exact hcell
        · rw [hus]
          intro i hi
          have := hcell i _ (List.getElem?_eq_getElem hi)
          show (W.cell? ⟨a.block, a.off + i, none⟩).isSome = true
          rw [this]; rfl
    · rw [hlen]
      show _ ≤ Rows.uptoBulkAll (strs (ss.take len)) + Rows.uptoBulkAll (strs (ss.drop len)) + 1
      rw [bulk_strs, List.length_take]
      omega
end Go.Proofs.YtgeheffhdpeddaaDoor.VX
