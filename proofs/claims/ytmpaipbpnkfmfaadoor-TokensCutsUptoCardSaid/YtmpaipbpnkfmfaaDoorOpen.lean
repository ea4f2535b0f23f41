/-
  A ROW's LIST OF TOKENS, OPENED: from the reading of a slice of tokens to the list that the printed contracts ask, with the sizes that the reading's bulk allows. Conditions: none.
-/
import Derived.Test.YtmpaipbpnkfmfaaDoorPx0
import Derived.Test.YtmpaipbpnkfmfaaDoorRows
import Derived.ChangeSlices
namespace Go.Proofs.YtmpaipbpnkfmfaaDoor.Open
open Go.ChangeShapes Go.WideShapes Go.RowKit Go.Proofs.YtmpaipbpnkfmfaaDoor.P Go.Proofs.YtmpaipbpnkfmfaaDoorW.PrintWords Go.Proofs.YtmpaipbpnkfmfaaDoorW.PrintLast
open Go.Proofs.YtmpaipbpnkfmfaaDoor

def okT (t : S33) : Prop := t.f1.size ≤ maxLen ∧ (Lit.int .i64 t.f0).wf = true ∧ (Lit.int .i64 t.f2).wf = true ∧ (Lit.int .i64 t.f3).wf = true ∧ (Lit.int .i64 t.f4).wf = true
def dat {H : Type} (t : S33) : DataW H := .agg [.lit (.int .i64 t.f0), .lit (.string t.f1.data.toList), .lit (.int .i64 t.f2), .lit (.int .i64 t.f3), .lit (.int .i64 t.f4)]
def cellsT (t : S33) : List Value := [.int .i64 t.f0, .string t.f1, .int .i64 t.f2, .int .i64 t.f3, .int .i64 t.f4]
def bulk : List S33 → Nat
  | [] => 0
  | t :: r => t.f1.size + 6 + bulk r

theorem bulk_dat {H : Type} (l : List S33) : Rows.uptoBulkAll (l.map (dat (H := H))) = bulk l := by
  induction l with
  | nil => rfl
  | cons t r ih =>
    simp only [List.map_cons, Rows.uptoBulkAll, ih, bulk, dat, Rows.uptoBulk]
    have e : t.f1.data.toList.length = t.f1.size := by rw [Array.length_toList]; rfl
    omega

section
variable {H : Type} {enc : TypeId × Value → H} {W : World} {base : Nat} {spare : Nat → Bool} {held : Bool}

set_option maxRecDepth 100000 in
theorem open_token {fuel : Nat} {cs : List Value} {x : DataW H × List MemPlace} (h : DataW.trod enc Tryd.prog W base spare held fuel 33 cs = some x) :
    ∃ t : S33, cs = cellsT t ∧ x.1 = dat t ∧ okT t := by
  obtain ⟨xs, n, _, rfl, hl, hlen, hf⟩ := DataW.trod_struct Tryd.underlying33 h
  have w3_ : Tryd.prog.cellsOf 3 = 1 := by kernel_rfl
  have w9_ : Tryd.prog.cellsOf 9 = 1 := by kernel_rfl
  have hc5 : cs.length = 5 := hl.trans (by kernel_rfl)
  match cs, hc5 with
  | [c0, c1, c2, c3, c4], _ =>
    match xs, hlen with
    | [y0, y1, y2, y3, y4], _ =>
      have h0 : DataW.trod enc Tryd.prog W base spare held n 3 (List.take (Tryd.prog.cellsOf 3) (List.drop 0 [c0, c1, c2, c3, c4])) = some y0 := hf 0 _ rfl
      rw [w3_] at h0
      have h1 : DataW.trod enc Tryd.prog W base spare held n 9 (List.take (Tryd.prog.cellsOf 9) (List.drop 1 [c0, c1, c2, c3, c4])) = some y1 := hf 1 _ rfl
      rw [w9_] at h1
      have h2 : DataW.trod enc Tryd.prog W base spare held n 3 (List.take (Tryd.prog.cellsOf 3) (List.drop 2 [c0, c1, c2, c3, c4])) = some y2 := hf 2 _ rfl
      rw [w3_] at h2
      have h3 : DataW.trod enc Tryd.prog W base spare held n 3 (List.take (Tryd.prog.cellsOf 3) (List.drop 3 [c0, c1, c2, c3, c4])) = some y3 := hf 3 _ rfl
      rw [w3_] at h3
      have h4 : DataW.trod enc Tryd.prog W base spare held n 3 (List.take (Tryd.prog.cellsOf 3) (List.drop 4 [c0, c1, c2, c3, c4])) = some y4 := hf 4 _ rfl
      rw [w3_] at h4
      obtain ⟨a0, e0, rfl, w0⟩ := DataW.trod_int Tryd.underlying3 h0
      obtain ⟨a1, e1, rfl, w1⟩ := DataW.trod_string Tryd.underlying9 h1
      obtain ⟨a2, e2, rfl, w2⟩ := DataW.trod_int Tryd.underlying3 h2
      obtain ⟨a3, e3, rfl, w3⟩ := DataW.trod_int Tryd.underlying3 h3
      obtain ⟨a4, e4, rfl, w4⟩ := DataW.trod_int Tryd.underlying3 h4
      have f0 : c0 = .int .i64 a0 := (List.cons.inj e0).1
      have f1 : c1 = .string a1 := (List.cons.inj e1).1
      have f2 : c2 = .int .i64 a2 := (List.cons.inj e2).1
      have f3 : c3 = .int .i64 a3 := (List.cons.inj e3).1
      have f4 : c4 = .int .i64 a4 := (List.cons.inj e4).1
      exact ⟨⟨a0, a1, a2, a3, a4⟩, by rw [f0, f1, f2, f3, f4]; rfl, rfl, w1, w0, w2, w3, w4⟩

theorem add_add (a : Addr) (m n : Nat) : a.add (m + n) = (a.add m).add n := by
  unfold Addr.add
  by_cases hm : m = 0
  · subst hm; simp
  · by_cases hn : n = 0
    · subst hn; simp
    · rw [if_neg (by omega), if_neg hm, if_neg hn]; simp [Nat.add_assoc]

theorem cells_get {a : Addr} {n : Nat} {cs : List Value} (h : W.cells? base a n = some cs) : ∀ i u, cs[i]? = some u → W.cell? (a.add i) = some u := by
  unfold World.cells? at h
  split at h
  · intro i u hu
    have hl := mapM_some_length h
    have hi : i < n := by
      have := (List.getElem?_eq_some_iff.1 hu).1
      simp at hl
      omega
    have := mapM_some_get h i i (by simp [hi])
    rw [this, hu]
  · cases h

theorem open_tokens {T fuel : Nat} {cs : List Value} {x : DataW H × List MemPlace} (ht : Tryd.prog.underlying T = some (.slice 33)) (h : DataW.trod enc Tryd.prog W base spare held fuel T cs = some x) :
    ∃ (A : Option Addr) (c : Nat) (l : List S33), cs = [.slice A l.length c] ∧ l.length ≤ c ∧ Kd.C k33 W A l.length l ∧ (∀ t ∈ l, okT t) ∧ bulk l ≤ Rows.uptoBulk x.1 := by
  rcases DataW.trod_slice ht h with ⟨rfl, rfl⟩ | ⟨a, len, cap, elems, rest, n, _, rfl, rfl, hb, hl, hm, hlen, hel, _, _⟩
  · exact ⟨none, 0, [], rfl, Nat.le_refl _, ⟨rfl, by decide, fun h => absurd h (by decide)⟩, (fun _ h => by cases h), Nat.zero_le _⟩
  · have hc33 : Tryd.prog.cellsOf 33 = 5 := by kernel_rfl
    rw [hc33] at hel
    have each : ∀ i, ∃ t : S33, i < len → (W.cells? base (a.add (i * 5)) 5 = some (cellsT t) ∧ ((elems.map (·.1))[i]? = some (dat t)) ∧ okT t) := by
      intro i
      by_cases hi : i < len
      · have h1 := hel i hi
        have he : elems[i]? = some (elems[i]'(by omega)) := List.getElem?_eq_getElem (by omega)
        rw [he] at h1
        obtain ⟨cs', hcs, hy⟩ := Option.bind_eq_some_iff.1 h1
        obtain ⟨t, rfl, hx, hk⟩ := open_token hy
        exact ⟨t, fun _ => ⟨hcs, by rw [List.getElem?_map, he, Option.map_some, hx], hk⟩⟩
      · exact ⟨⟨0, .empty, 0, 0, 0⟩, fun h => absurd h hi⟩
    let f : Nat → S33 := fun i => Classical.choose (each i)
    have hf : ∀ i, i < len → (W.cells? base (a.add (i * 5)) 5 = some (cellsT (f i)) ∧ ((elems.map (·.1))[i]? = some (dat (f i))) ∧ okT (f i)) := fun i => Classical.choose_spec (each i)
    have hll : ((List.range len).map f).length = len := by simp
    have hget : ∀ j p, ((List.range len).map f)[j]? = some p → j < len ∧ p = f j := by
      intro j p hp
      have hj : j < len := by have := (List.getElem?_eq_some_iff.1 hp).1; rw [hll] at this; exact this
      rw [List.getElem?_map, List.getElem?_range hj, Option.map_some] at hp
      exact ⟨hj, (Option.some.inj hp).symm⟩
    have hmap : elems.map (·.1) = ((List.range len).map f).map (dat (H := H)) := by
      apply List.ext_getElem?
      intro i
      by_cases hi : i < len
      · rw [(hf i hi).2.1, List.getElem?_map, List.getElem?_map, List.getElem?_range hi]; rfl
      · rw [List.getElem?_eq_none (by simp; omega), List.getElem?_eq_none (by simp; omega)]
    refine ⟨some a, cap, (List.range len).map f, by rw [hll], by rw [hll]; exact hl, ⟨rfl, by rw [hll]; unfold maxLen at hm; omega, fun _ => ⟨a, rfl, fun j p hj => ?_⟩⟩, ?_, ?_⟩
    · obtain ⟨hj', rfl⟩ := hget j p hj
      exact ⟨cellsT (f j), rfl, k33_mk W (f j), fun i u hu => by
        have := cells_get (hf j hj').1 i u hu
        show W.cell? (a.add (j * 5 + i)) = some u
        rw [add_add]
        exact this⟩
    · intro t ht'
      obtain ⟨j, hj⟩ := List.getElem?_of_mem ht'
      obtain ⟨hj', rfl⟩ := hget j t hj
      exact (hf j hj').2.2
    · show bulk _ ≤ Rows.uptoBulkAll (elems.map (·.1)) + Rows.uptoBulkAll (rest.map (·.1)) + 1
      rw [hmap, bulk_dat]
      omega
theorem bulk_lits {H : Type} (zs : List Int) : Rows.uptoBulkAll (lits (H := H) .i64 zs) = zs.length := by
  induction zs with
  | nil => rfl
  | cons z r ih =>
    have : Rows.uptoBulkAll (lits (H := H) .i64 (z :: r)) = 1 + Rows.uptoBulkAll (lits (H := H) .i64 r) := rfl
    rw [this, ih, List.length_cons]
    omega

theorem open_int64s {T fuel : Nat} {cs : List Value} {x : DataW H × List MemPlace} (ht : Tryd.prog.underlying T = some (.slice 3)) (h : DataW.trod enc Tryd.prog W base spare held fuel T cs = some x) :
    ∃ (A : Option Addr) (c : Nat) (l : List Int), cs = [.slice A l.length c] ∧ l.length ≤ c ∧ Kd.C (Kd.int .i64) W A l.length l ∧ (∀ n ∈ l, (Lit.int .i64 n).wf = true) ∧ l.length ≤ Rows.uptoBulk x.1 := by
  rcases open_ints ht Tryd.underlying3 (by kernel_rfl) h with ⟨rfl, rfl⟩ | ⟨a, len, cap, zs, rfl, _, hl, hm, hz, hx, hcell, hw⟩
  · exact ⟨none, 0, [], rfl, Nat.le_refl _, ⟨rfl, by decide, fun h => absurd h (by decide)⟩, (fun _ h => by cases h), Nat.zero_le _⟩
  · have hzl : len ≤ zs.length := by rw [hz]; split <;> omega
    have hlen : (zs.take len).length = len := by rw [List.length_take]; omega
    refine ⟨some a, cap, zs.take len, by rw [hlen], by rw [hlen]; exact hl, ⟨rfl, by rw [hlen]; unfold maxLen at hm; omega, fun _ => ⟨a, rfl, fun j p hj => ?_⟩⟩, ?_, ?_⟩
    · have hj' : j < len := by have := (List.getElem?_eq_some_iff.1 hj).1; omega
      have hp : zs.getD j 0 = p := by
        rw [List.getElem?_take, if_pos hj'] at hj
        rw [List.getD_eq_getElem?_getD, hj]; rfl
      refine ⟨[.int .i64 p], rfl, rfl, fun i u hu => ?_⟩
      cases i with
      | zero =>
        simp only [List.getElem?_cons_zero, Option.some.injEq] at hu
        have := hcell j (by omega)
        rw [hp] at this
        rw [← hu]
        show W.cell? (a.add (j * 1 + 0)) = _
        rw [show j * 1 + 0 = j by omega]
        exact this
      | succ i => simp at hu
    · intro n hn
      exact hw n (List.mem_of_mem_take hn)
    · subst hx
      show _ ≤ Rows.uptoBulkAll (lits (H := H) .i64 (zs.take len)) + _ + 1
      rw [bulk_lits]
      omega
end
end Go.Proofs.YtmpaipbpnkfmfaaDoor.Open
