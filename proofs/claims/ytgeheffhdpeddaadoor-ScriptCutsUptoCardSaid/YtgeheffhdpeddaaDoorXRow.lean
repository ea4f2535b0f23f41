/-
  ROWS 76 to 102 of the table hold: what chapter 25's functions come to. Conditions: as each theorem states.
-/
import Derived.Test.YtgeheffhdpeddaaDoorXCon
import Derived.Test.YtgeheffhdpeddaaDoorXRef
namespace Go.Proofs.YtgeheffhdpeddaaDoor.VX
open Go Go.Proofs Go.Proofs.YtgeheffhdpeddaaDoor Go.RowKit
/-- A step whose bytes are none is one whose bytes are empty. -/
theorem weak_do {st : Cells} {w : World} {ι : Inj} {kd : Int} {who to text : List UInt8} {n m k : Int} {u : Value} (h : VRel st w ι (.agg [.int .i64 kd, .str who, .str to, .str text, .raw (.slice none 0 0), .int .i64 n, .int .i64 m, .int .i64 k]) u) :
    VRel st w ι (.agg [.int .i64 kd, .str who, .str to, .str text, .view 1 [], .int .i64 n, .int .i64 m, .int .i64 k]) u := by
  obtain ⟨us, rfl, ho, v0, r0, e0, h0, v1, r1, rfl, h1, v2, r2, rfl, h2, v3, r3, rfl, h3, v4, r4, rfl, h4, hr⟩ := h
  have h4' : VRel st w ι (.view 1 []) v4 := by
    obtain rfl : v4 = .slice none 0 0 := h4
    exact ⟨none, 0, rfl, Nat.le_refl _, rfl⟩
  exact ⟨us, rfl, ho, v0, _, e0, h0, v1, _, rfl, h1, v2, _, rfl, h2, v3, _, rfl, h3, v4, _, rfl, h4', hr⟩
theorem raw_sdo {d : Scr.D} (h : d.bytes = []) : sdo25 d = .agg [.int .i64 d.kind, .str (Sp.tb d.who), .str (Sp.tb d.to), .str (Sp.tb d.text), .view 1 [], .int .i64 d.n, .int .i64 d.m, .int .i64 d.k] := by
  unfold sdo25; rw [h]; rfl
theorem near_ok {f : FuncId} {args : List AV} {r : Scr.R} {v : AV} (h : CallOK Tryd.prog Gl f args v) (hn : Near r v) : CallOK Tryd.prog Gl f args (.tup [sdo25 r.d, faultA r.e r.p]) := by
  rcases hn with rfl | ⟨rfl, hb⟩
  · exact h
  · refine callOK_weak h ?_
    rintro st w u ⟨us, rfl, v0, r0, e0, h0, hr⟩
    refine ⟨us, rfl, v0, r0, e0, ?_, hr⟩
    rw [raw_sdo hb]
    exact weak_do h0
theorem run_ok {k f : Nat} {args : List AV} {n : Nat} {v : AV} (hp : ∀ q ∈ tab.take k, RowOK Gl q) (h : runA Tryd.prog (X k) n f args = some v) : CallOK Tryd.prog Gl f args v :=
  runA_ok (X := X k) progOK Wok.gl.glob Wok.gl.ww (tableOK_of hp) (Wok.gl.rowsX k) h
theorem read_row {k f : Nat} (hp : ∀ q ∈ tab.take k, RowOK Gl q) (h : ∀ s, Sp.short s = true → ∃ n v, runA Tryd.prog (X k) n f [.str s] = some v ∧ Near (Scr.read (Sp.ints s)) v) : RowOK Gl (f, r_sread) := by
  intro args v hv
  obtain ⟨s, rfl, hs, rfl⟩ := str1 rfl hv
  obtain ⟨n, v, h1, h2⟩ := h s hs
  exact near_ok (run_ok hp h1) h2
theorem rows77 : ∀ q ∈ tab.take 77, RowOK Gl q := rows_succ rows76 rfl (read_row rows76 sread_eq)
theorem rows78 : ∀ q ∈ tab.take 78, RowOK Gl q := by
  refine rows_step Wok.gl rows77 (f := 20) (r := r_blank) rfl fun args v hv => ?_
  obtain ⟨s, rfl, hs, rfl⟩ := str1 rfl hv
  exact ⟨3, sblank_eq _ 77 s (e_script_Blank 0 s) hs⟩
theorem fits_eq (p : UInt8) (k : Int) (t : List UInt8) (v a e : Int) : runA Tryd.prog (X 78) 3 39 [.u8 p, .agg [.int .i64 k, .str t, .int .i64 v, .int .i64 a, .int .i64 e]] = some (.bool (Sp.fitsB p k)) := by
  rw [e_hearsayref25_fits 0 p k t v a e]
  unfold Sp.fitsB
  cases p == 119 <;> cases p == 111 <;> cases p == 116 <;> cases p == 98 <;> cases k == 1 <;> rfl
theorem rows79 : ∀ q ∈ tab.take 79, RowOK Gl q := by
  refine rows_step Wok.gl rows78 (f := 39) (r := r_fits) rfl fun args v hv => ?_
  unfold r_fits at hv
  split at hv
  · cases hv; exact ⟨3, fits_eq _ _ _ _ _ _⟩
  · cases hv
theorem letters8 (p : UInt8) : p = 119 ∨ p = 111 ∨ p = 116 ∨ p = 98 ∨ p = 110 ∨ p = 109 ∨ p = 107 ∨ ((p == 119) = false ∧ (p == 111) = false ∧ (p == 116) = false ∧ (p == 98) = false ∧ (p == 110) = false ∧ (p == 109) = false ∧ (p == 107) = false) := by
  by_cases h1 : p = 119
  · exact .inl h1
  by_cases h2 : p = 111
  · exact .inr (.inl h2)
  by_cases h3 : p = 116
  · exact .inr (.inr (.inl h3))
  by_cases h4 : p = 98
  · exact .inr (.inr (.inr (.inl h4)))
  by_cases h5 : p = 110
  · exact .inr (.inr (.inr (.inr (.inl h5))))
  by_cases h6 : p = 109
  · exact .inr (.inr (.inr (.inr (.inr (.inl h6)))))
  by_cases h7 : p = 107
  · exact .inr (.inr (.inr (.inr (.inr (.inr (.inl h7))))))
  exact .inr (.inr (.inr (.inr (.inr (.inr (.inr ⟨by simp [h1], by simp [h2], by simp [h3], by simp [h4], by simp [h5], by simp [h6], by simp [h7]⟩))))))
theorem put_eq (kd : Int) (who to text : List UInt8) (xs : List AV) (j m k : Int) (p : UInt8) (k1 : Int) (t : List UInt8) (v a e : Int) : runA Tryd.prog (X 79) 3 40 [.agg [.int .i64 kd, .str who, .str to, .str text, .view 1 xs, .int .i64 j, .int .i64 m, .int .i64 k], .u8 p, .agg [.int .i64 k1, .str t, .int .i64 v, .int .i64 a, .int .i64 e]] =
    some (.agg [.int .i64 kd, .str (bif p == 119 then t else who), .str (bif p == 111 then t else to), .str (bif p == 116 then t else text), .view 1 (bif p == 98 then t.map .u8 else xs), .int .i64 (bif p == 110 then v else j), .int .i64 (bif p == 109 then v else m), .int .i64 (bif p == 107 then v else k)]) := by
  rw [e_hearsayref25_put 0 kd who to text xs j m k p k1 t v a e]
  rcases letters8 p with rfl | rfl | rfl | rfl | rfl | rfl | rfl | ⟨h1, h2, h3, h4, h5, h6, h7⟩
  · rfl
  · rfl
  · rfl
  · rfl
  · rfl
  · rfl
  · rfl
  · rw [h1, h2, h3, h4, h5, h6, h7]; rfl
theorem put_raw (kd : Int) (who to text : List UInt8) (j m k : Int) (p : UInt8) (k1 : Int) (t : List UInt8) (v a e : Int) : ∃ b, runA Tryd.prog (X 79) 3 40 [.agg [.int .i64 kd, .str who, .str to, .str text, .raw (.slice none 0 0), .int .i64 j, .int .i64 m, .int .i64 k], .u8 p, .agg [.int .i64 k1, .str t, .int .i64 v, .int .i64 a, .int .i64 e]] =
    some (.agg [.int .i64 kd, .str (bif p == 119 then t else who), .str (bif p == 111 then t else to), .str (bif p == 116 then t else text), b, .int .i64 (bif p == 110 then v else j), .int .i64 (bif p == 109 then v else m), .int .i64 (bif p == 107 then v else k)]) ∧
    (b = .view 1 (bif p == 98 then t.map .u8 else []) ∨ (b = .raw (.slice none 0 0) ∧ (bif p == 98 then t.map AV.u8 else []) = [])) := by
  rw [e_put_raw 0 kd who to text j m k p k1 t v a e]
  rcases letters8 p with rfl | rfl | rfl | rfl | rfl | rfl | rfl | ⟨h1, h2, h3, h4, h5, h6, h7⟩
  · exact ⟨_, rfl, .inr ⟨rfl, rfl⟩⟩
  · exact ⟨_, rfl, .inr ⟨rfl, rfl⟩⟩
  · exact ⟨_, rfl, .inr ⟨rfl, rfl⟩⟩
  · exact ⟨_, rfl, .inl rfl⟩
  · exact ⟨_, rfl, .inr ⟨rfl, rfl⟩⟩
  · exact ⟨_, rfl, .inr ⟨rfl, rfl⟩⟩
  · exact ⟨_, rfl, .inr ⟨rfl, rfl⟩⟩
  · rw [h1, h2, h3, h4, h5, h6, h7]
    exact ⟨_, rfl, .inr ⟨rfl, rfl⟩⟩
theorem rows80 : ∀ q ∈ tab.take 80, RowOK Gl q := by
  refine rows_succ (r := (40, r_put)) rows79 rfl fun args v hv0 => ?_
  have hv : (r_put args).val = some v := hv0
  clear hv0
  unfold r_put at hv
  split at hv
  · cases hv; exact run_ok rows79 (put_eq _ _ _ _ _ _ _ _ _ _ _ _ _ _)
  · rename_i kd who to text n m k p k1 t v a e
    cases hv
    obtain ⟨b, h1, hb⟩ := put_raw kd who to text n m k p k1 t v a e
    rcases hb with rfl | ⟨rfl, hb⟩
    · exact run_ok rows79 h1
    · rw [hb]
      exact callOK_weak (run_ok rows79 h1) fun st w u h => weak_do h
  · cases hv
theorem rows81 : ∀ q ∈ tab.take 81, RowOK Gl q := step_c rows80 rfl ⟨3, e_hearsayref25_Rows 0⟩
theorem rows82 : ∀ q ∈ tab.take 82, RowOK Gl q := rows_succ (r := (999999, fun _ => .no)) rows81 rfl fun args v hv => by cases hv
theorem rows83 : ∀ q ∈ tab.take 83, RowOK Gl q := rows_succ (r := (999999, fun _ => .no)) rows82 rfl fun args v hv => by cases hv
theorem rows84 : ∀ q ∈ tab.take 84, RowOK Gl q := by
  refine rows_step Wok.gl rows83 (f := 47) (r := r_rname) rfl fun args v hv => ?_
  obtain ⟨s, rfl, hs, rfl⟩ := str1 rfl hv
  refine ⟨3, (e_hearsayref25_name 0 s).trans ?_⟩
  rw [hs]
  unfold Sp.nameB
  cases Sp.word s <;> rfl
theorem rows85 : ∀ q ∈ tab.take 85, RowOK Gl q := by
  refine rows_step Wok.gl rows84 (f := 32) (r := r_shown) rfl fun args v hv => ?_
  unfold r_shown at hv
  split at hv
  · rename_i kd who to text xs n m k p
    obtain ⟨h, hv⟩ := val_when hv
    cases hv
    exact ⟨3, shown_eq (d := ⟨kd, who, to, text, xs, n, m, k⟩) h p⟩
  · cases hv
theorem rows86 : ∀ q ∈ tab.take 86, RowOK Gl q := by
  refine rows_step Wok.gl rows85 (f := 46) (r := r_used) rfl fun args v hv => ?_
  unfold r_used at hv
  split at hv
  · obtain ⟨h, hv⟩ := val_when hv
    cases hv
    exact used_eq _ _ _ _ h
  · cases hv
theorem rows87 : ∀ q ∈ tab.take 87, RowOK Gl q := by
  refine rows_step Wok.gl rows86 (f := 31) (r := r_clean) rfl fun args v hv => ?_
  unfold r_clean at hv
  split at hv
  · obtain ⟨h, hv⟩ := val_when hv
    cases hv
    exact ⟨3, clean_eq _ _ _ _ _ _ _ _ _ _ _ h⟩
  · cases hv
theorem print_row {k f : Nat} {args : List AV} {v : AV} (h : ∀ d : DV, d.ok = true → ∃ n, runA Tryd.prog (X k) n f [d.av] = some (.tup [.str (Sp.printT d.D), .bool (Sp.printOk d.D)])) (hv : (r_print args).val = some v) : ∃ n, runA Tryd.prog (X k) n f args = some v := by
  unfold r_print at hv
  split at hv
  · rename_i kd who to text xs n m k
    obtain ⟨hh, hv⟩ := val_when hv
    cases hv
    exact h ⟨kd, who, to, text, xs, n, m, k⟩ hh
  · cases hv
theorem rows88 : ∀ q ∈ tab.take 88, RowOK Gl q := rows_step Wok.gl rows87 (f := 13) (r := r_print) rfl fun _ _ hv => print_row (fun _ h => rprint_eq h) hv
theorem empty_eq (kd : Int) (who to text : List UInt8) (xs : List AV) (j m k : Int) : runA Tryd.prog (X 88) 3 29 [.agg [.int .i64 kd, .str who, .str to, .str text, .view 1 xs, .int .i64 j, .int .i64 m, .int .i64 k]] = some (.bool (Sp.emptyB who to text xs j m k)) := by
  rw [e_script_empty 0 kd who to text xs j m k]
  have hx : ((xs.length : Int) == 0) = xs.isEmpty := by cases xs with | nil => rfl | cons a l => simp only [List.length_cons, List.isEmpty_cons, beq_eq_false_iff_ne]; omega
  rw [hx]
  unfold Sp.emptyB
  cases who == [] <;> cases to == [] <;> cases text == [] <;> cases xs.isEmpty <;> cases j == 0 <;> cases m == 0 <;> rfl
theorem e_empty_raw (kd : Int) (who to text : List UInt8) (j m k : Int) : runA Tryd.prog (X 88) 3 29 [.agg [.int .i64 kd, .str who, .str to, .str text, .raw (.slice none 0 0), .int .i64 j, .int .i64 m, .int .i64 k]] =
    bif (who == []) then bif (to == []) then bif (text == []) then bif (j == 0) then bif (m == 0) then some (.bool (k == 0)) else some (.bool false) else some (.bool false) else some (.bool false) else some (.bool false) else some (.bool false) := by kernel_rfl
theorem rows89 : ∀ q ∈ tab.take 89, RowOK Gl q := by
  refine rows_step Wok.gl rows88 (f := 29) (r := r_empty) rfl fun args v hv => ?_
  unfold r_empty at hv
  split at hv
  · cases hv; exact ⟨3, empty_eq _ _ _ _ _ _ _ _⟩
  · rename_i kd who to text n m k
    cases hv
    refine ⟨3, (e_empty_raw kd who to text n m k).trans ?_⟩
    unfold Sp.emptyB
    cases who == [] <;> cases to == [] <;> cases text == [] <;> cases n == 0 <;> cases m == 0 <;> rfl
  · cases hv
theorem rows90 : ∀ q ∈ tab.take 90, RowOK Gl q := rows_succ rows89 rfl sjoin_ok
theorem rows91 : ∀ q ∈ tab.take 91, RowOK Gl q := rows_succ rows90 rfl clone_ok
theorem say_to (kd : Int) (who to text : List UInt8) (xs : List AV) (j m k : Int) : runA Tryd.prog (X 91) 4 172 [.agg [.int .i64 kd, .str who, .str to, .str text, .view 1 xs, .int .i64 j, .int .i64 m, .int .i64 k], .cptr [.fn (.func 165) [] []] 0] =
  bif (Sp.short to) then bif (Sp.word to) then some (.str to) else bif (Sp.short to) then some (.str (Sp.quote to)) else none else none := by kernel_rfl
theorem say_m (kd : Int) (who to text : List UInt8) (xs : List AV) (j m k : Int) : runA Tryd.prog (X 92) 4 176 [.agg [.int .i64 kd, .str who, .str to, .str text, .view 1 xs, .int .i64 j, .int .i64 m, .int .i64 k], .cptr [.fn (.func 166) [] []] 0] =
  bif (true && Sp.i64 m) then some (.str (Sp.spT (4 : Int) [] m)) else none := by kernel_rfl
theorem say_k (kd : Int) (who to text : List UInt8) (xs : List AV) (j m k : Int) : runA Tryd.prog (X 92) 4 176 [.agg [.int .i64 kd, .str who, .str to, .str text, .view 1 xs, .int .i64 j, .int .i64 m, .int .i64 k], .cptr [.fn (.func 167) [] []] 0] =
  bif (true && Sp.i64 k) then some (.str (Sp.spT (4 : Int) [] k)) else none := by kernel_rfl
theorem spT4 (n : Int) (h : Sp.i64 n = true) : Sp.spT 4 [] n = Sp.itoa n := by
  rw [itoa_tb n h]
  unfold Sp.spT
  simp [Tk.spell, Sp.ints]
theorem rows92 : ∀ q ∈ tab.take 92, RowOK Gl q := by
  refine rows_step Wok.gl rows91 (f := 172) (r := r_sayName) rfl fun args v hv => ?_
  unfold r_sayName at hv
  split at hv
  · rename_i kd who to text xs n m k f
    cases h1 : Nat.beq f 158 with
    | true =>
      obtain rfl := Nat.eq_of_beq_eq_true h1
      obtain ⟨hs, hv⟩ := val_when hv
      cases hv
      refine ⟨4, (e_script_name_2 0 kd who to text xs n m k).trans ?_⟩
      rw [hs]; unfold Sp.nameB; cases Sp.word who <;> rfl
    | false =>
      rw [h1] at hv
      cases h2 : Nat.beq f 165 with
      | true =>
        obtain rfl := Nat.eq_of_beq_eq_true h2
        obtain ⟨hs, hv⟩ := val_when hv
        cases hv
        refine ⟨4, (say_to kd who to text xs n m k).trans ?_⟩
        rw [hs]; unfold Sp.nameB; cases Sp.word to <;> rfl
      | false => rw [h2] at hv; cases hv
  · cases hv
theorem rows93 : ∀ q ∈ tab.take 93, RowOK Gl q := by
  refine rows_step Wok.gl rows92 (f := 176) (r := r_sayNum) rfl fun args v hv => ?_
  unfold r_sayNum at hv
  split at hv
  · rename_i kd who to text xs n m k f
    cases h1 : Nat.beq f 164 with
    | true =>
      obtain rfl := Nat.eq_of_beq_eq_true h1
      obtain ⟨hs, hv⟩ := val_when hv
      cases hv
      refine ⟨4, (e_script_number_2 0 kd who to text xs n m k).trans ?_⟩
      rw [hs, spT4 n hs]; rfl
    | false =>
      rw [h1] at hv
      cases h2 : Nat.beq f 166 with
      | true =>
        obtain rfl := Nat.eq_of_beq_eq_true h2
        obtain ⟨hs, hv⟩ := val_when hv
        cases hv
        refine ⟨4, (say_m kd who to text xs n m k).trans ?_⟩
        rw [hs, spT4 m hs]; rfl
      | false =>
        rw [h2] at hv
        cases h3 : Nat.beq f 167 with
        | true =>
          obtain rfl := Nat.eq_of_beq_eq_true h3
          obtain ⟨hs, hv⟩ := val_when hv
          cases hv
          refine ⟨4, (say_k kd who to text xs n m k).trans ?_⟩
          rw [hs, spT4 k hs]; rfl
        | false => rw [h3] at hv; cases hv
  · cases hv
theorem rows94 : ∀ q ∈ tab.take 94, RowOK Gl q := by
  refine rows_step Wok.gl rows93 (f := 160) (r := r_sayText) rfl fun args v hv => ?_
  unfold r_sayText at hv
  split at hv
  · rename_i kd who to text xs n m k
    obtain ⟨hs, hv⟩ := val_when hv
    cases hv
    refine ⟨4, (e_script_text_2 0 kd who to text xs n m k).trans ?_⟩
    rw [hs]; rfl
  · cases hv
theorem rows95 : ∀ q ∈ tab.take 95, RowOK Gl q := by
  refine rows_step Wok.gl rows94 (f := 169) (r := r_sayRaw) rfl fun args v hv => ?_
  unfold r_sayRaw at hv
  split at hv
  · rename_i kd who to text xs n m k
    obtain ⟨hs, hv⟩ := val_when hv
    cases hv
    rw [Bool.and_eq_true] at hs
    refine ⟨4, (e_script_raw_2 0 kd who to text xs n m k).trans ?_⟩
    rw [hs.1, show Sp.short (List.map toU8 xs) = true from hs.2]; rfl
  · cases hv
theorem rows96 : ∀ q ∈ tab.take 96, RowOK Gl q := rows_step Wok.gl rows95 (f := 12) (r := r_print) rfl fun _ _ hv => print_row (fun _ h => sprint_eq h) hv
theorem rows97 : ∀ q ∈ tab.take 97, RowOK Gl q := by
  refine rows_step Wok.gl rows96 (f := 16) (r := r_same25) rfl fun args v hv => ?_
  unfold r_same25 at hv
  split at hv
  · rename_i kd who to text xs n m k kd' who' to' text' xs' n' m' k'
    obtain ⟨hs, hv⟩ := val_when hv
    cases hv
    rw [Bool.and_eq_true] at hs
    exact ⟨3, same25_eq ⟨kd, who, to, text, xs, n, m, k⟩ ⟨kd', who', to', text', xs', n', m', k'⟩ hs.1 hs.2⟩
  · rename_i kd who to text xs n m k kd' who' to' text' n' m' k'
    obtain ⟨hs, hv⟩ := val_when hv
    cases hv
    exact ⟨3, same25_raw ⟨kd, who, to, text, xs, n, m, k⟩ ⟨kd', who', to', text', [], n', m', k'⟩ hs rfl⟩
  · cases hv
theorem rows98 : ∀ q ∈ tab.take 98, RowOK Gl q := by
  refine rows_step Wok.gl rows97 (f := 14) (r := r_head) rfl fun args v hv => ?_
  unfold r_head at hv
  split at hv
  · cases hv; exact ⟨3, e_hearsaylaw25_first 0⟩
  · cases hv
theorem parts_1 : runA Tryd.prog (X 98) 4 35 [.int .i64 1] = some (.tup [.str (Sp.nameOf 1), .str (Sp.lettersOf 1)]) := by kernel_rfl
theorem parts_2 : runA Tryd.prog (X 98) 4 35 [.int .i64 2] = some (.tup [.str (Sp.nameOf 2), .str (Sp.lettersOf 2)]) := by kernel_rfl
theorem parts_3 : runA Tryd.prog (X 98) 4 35 [.int .i64 3] = some (.tup [.str (Sp.nameOf 3), .str (Sp.lettersOf 3)]) := by kernel_rfl
theorem parts_4 : runA Tryd.prog (X 98) 4 35 [.int .i64 4] = some (.tup [.str (Sp.nameOf 4), .str (Sp.lettersOf 4)]) := by kernel_rfl
theorem parts_5 : runA Tryd.prog (X 98) 4 35 [.int .i64 5] = some (.tup [.str (Sp.nameOf 5), .str (Sp.lettersOf 5)]) := by kernel_rfl
theorem parts_6 : runA Tryd.prog (X 98) 4 35 [.int .i64 6] = some (.tup [.str (Sp.nameOf 6), .str (Sp.lettersOf 6)]) := by kernel_rfl
theorem parts_7 : runA Tryd.prog (X 98) 4 35 [.int .i64 7] = some (.tup [.str (Sp.nameOf 7), .str (Sp.lettersOf 7)]) := by kernel_rfl
theorem parts_8 : runA Tryd.prog (X 98) 4 35 [.int .i64 8] = some (.tup [.str (Sp.nameOf 8), .str (Sp.lettersOf 8)]) := by kernel_rfl
theorem parts_9 : runA Tryd.prog (X 98) 4 35 [.int .i64 9] = some (.tup [.str (Sp.nameOf 9), .str (Sp.lettersOf 9)]) := by kernel_rfl
theorem parts_10 : runA Tryd.prog (X 98) 4 35 [.int .i64 10] = some (.tup [.str (Sp.nameOf 10), .str (Sp.lettersOf 10)]) := by kernel_rfl
theorem parts_11 : runA Tryd.prog (X 98) 4 35 [.int .i64 11] = some (.tup [.str (Sp.nameOf 11), .str (Sp.lettersOf 11)]) := by kernel_rfl
theorem parts_12 : runA Tryd.prog (X 98) 4 35 [.int .i64 12] = some (.tup [.str (Sp.nameOf 12), .str (Sp.lettersOf 12)]) := by kernel_rfl
theorem parts_13 : runA Tryd.prog (X 98) 4 35 [.int .i64 13] = some (.tup [.str (Sp.nameOf 13), .str (Sp.lettersOf 13)]) := by kernel_rfl
theorem parts_14 : runA Tryd.prog (X 98) 4 35 [.int .i64 14] = some (.tup [.str (Sp.nameOf 14), .str (Sp.lettersOf 14)]) := by kernel_rfl
theorem parts_15 : runA Tryd.prog (X 98) 4 35 [.int .i64 15] = some (.tup [.str (Sp.nameOf 15), .str (Sp.lettersOf 15)]) := by kernel_rfl
theorem parts_16 : runA Tryd.prog (X 98) 4 35 [.int .i64 16] = some (.tup [.str (Sp.nameOf 16), .str (Sp.lettersOf 16)]) := by kernel_rfl
theorem parts_17 : runA Tryd.prog (X 98) 4 35 [.int .i64 17] = some (.tup [.str (Sp.nameOf 17), .str (Sp.lettersOf 17)]) := by kernel_rfl
theorem parts_18 : runA Tryd.prog (X 98) 4 35 [.int .i64 18] = some (.tup [.str (Sp.nameOf 18), .str (Sp.lettersOf 18)]) := by kernel_rfl
theorem parts_19 : runA Tryd.prog (X 98) 4 35 [.int .i64 19] = some (.tup [.str (Sp.nameOf 19), .str (Sp.lettersOf 19)]) := by kernel_rfl
theorem parts_20 : runA Tryd.prog (X 98) 4 35 [.int .i64 20] = some (.tup [.str (Sp.nameOf 20), .str (Sp.lettersOf 20)]) := by kernel_rfl
theorem parts_21 : runA Tryd.prog (X 98) 4 35 [.int .i64 21] = some (.tup [.str (Sp.nameOf 21), .str (Sp.lettersOf 21)]) := by kernel_rfl
theorem parts_22 : runA Tryd.prog (X 98) 4 35 [.int .i64 22] = some (.tup [.str (Sp.nameOf 22), .str (Sp.lettersOf 22)]) := by kernel_rfl
theorem parts_23 : runA Tryd.prog (X 98) 4 35 [.int .i64 23] = some (.tup [.str (Sp.nameOf 23), .str (Sp.lettersOf 23)]) := by kernel_rfl
theorem parts_24 : runA Tryd.prog (X 98) 4 35 [.int .i64 24] = some (.tup [.str (Sp.nameOf 24), .str (Sp.lettersOf 24)]) := by kernel_rfl
theorem parts_run (k : Int) (h1 : 1 ≤ k) (h2 : k ≤ 24) : runA Tryd.prog (X 98) 4 35 [.int .i64 k] = some (.tup [.str (Sp.nameOf k), .str (Sp.lettersOf k)]) := by
  have : k = 1 ∨ k = 2 ∨ k = 3 ∨ k = 4 ∨ k = 5 ∨ k = 6 ∨ k = 7 ∨ k = 8 ∨ k = 9 ∨ k = 10 ∨ k = 11 ∨ k = 12 ∨ k = 13 ∨ k = 14 ∨ k = 15 ∨ k = 16 ∨ k = 17 ∨ k = 18 ∨ k = 19 ∨ k = 20 ∨ k = 21 ∨ k = 22 ∨ k = 23 ∨ k = 24 := by omega
  rcases this with rfl | rfl | rfl | rfl | rfl | rfl | rfl | rfl | rfl | rfl | rfl | rfl | rfl | rfl | rfl | rfl | rfl | rfl | rfl | rfl | rfl | rfl | rfl | rfl
  · exact parts_1
  · exact parts_2
  · exact parts_3
  · exact parts_4
  · exact parts_5
  · exact parts_6
  · exact parts_7
  · exact parts_8
  · exact parts_9
  · exact parts_10
  · exact parts_11
  · exact parts_12
  · exact parts_13
  · exact parts_14
  · exact parts_15
  · exact parts_16
  · exact parts_17
  · exact parts_18
  · exact parts_19
  · exact parts_20
  · exact parts_21
  · exact parts_22
  · exact parts_23
  · exact parts_24
theorem rows99 : ∀ q ∈ tab.take 99, RowOK Gl q := by
  refine rows_step Wok.gl rows98 (f := 35) (r := r_parts) rfl fun args v hv => ?_
  unfold r_parts at hv
  split at hv
  · obtain ⟨hs, hv⟩ := val_when hv
    cases hv
    simp only [Bool.and_eq_true, decide_eq_true_eq] at hs
    exact ⟨4, parts_run _ hs.1 hs.2⟩
  · cases hv
theorem rows100 : ∀ q ∈ tab.take 100, RowOK Gl q := by
  refine rows_step Wok.gl rows99 (f := 36) (r := r_has) rfl fun args v hv => ?_
  unfold r_has at hv
  split at hv
  · obtain ⟨hs, hv⟩ := val_when hv
    cases hv
    exact has_eq _ _ hs
  · cases hv
theorem rows101 : ∀ q ∈ tab.take 101, RowOK Gl q := by
  refine rows_step Wok.gl rows100 (f := 23) (r := r_cut4) rfl fun args v hv => ?_
  unfold r_cut4 at hv
  split at hv
  · cases hv; exact ⟨3, cut4_eq _⟩
  · cases hv
theorem rows102 : ∀ q ∈ tab.take 102, RowOK Gl q := by
  refine rows_succ (r := (17, r_made)) rows101 rfl fun args v hv0 => ?_
  have hv : (r_made args).val = some v := hv0
  clear hv0
  unfold r_made at hv
  split at hv
  · rename_i kd who to text xs n m k
    obtain ⟨hs, hv⟩ := val_when hv
    cases hv
    rw [Bool.and_eq_true] at hs
    obtain ⟨v, h1, h2⟩ := made_eq ⟨kd, who, to, text, xs, n, m, k⟩ hs.1
    have hc := run_ok rows101 h1
    rcases h2 with rfl | ⟨rfl, hb⟩
    · exact hc
    · refine callOK_weak hc fun st w u h => ?_
      have : sdo25 (Scr.made (Sp.dO kd who to text xs n m k)) = _ := raw_sdo hb
      rw [this]
      exact weak_do h
  · cases hv
theorem rows103 : ∀ q ∈ tab.take 103, RowOK Gl q := by
  refine rows_step Wok.gl rows102 (f := 22) (r := r_line) rfl fun args v hv => ?_
  obtain ⟨s, rfl, hs, rfl⟩ := str1 rfl hv
  exact line_eq s hs
theorem ok103 {f : FuncId} {args : List AV} {n : Nat} {v : AV} (h : runA Tryd.prog (X 103) n f args = some v) : CallOK Tryd.prog Gl f args v := run_ok rows103 h
end Go.Proofs.YtgeheffhdpeddaaDoor.VX
