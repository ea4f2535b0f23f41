/-
  Proved: the card TokensJoinsUptoCardSaid: for every input of bulk at most 1048576, TokensJoins returns true and leaves its arguments as they were: the joined text of every list of tokens is the document's, and the list stays. Condition: the statement's own bound on the arguments.
-/
import Derived.Test.YtoioekmekbiimaaDoorCards
import Derived.Test.YtoioekmekbiimaaDoorTie
import Derived.Test.YtoioekmekbiimaaDoorXCon
import Derived.OpenShut
import Derived.JoinedCond
import Derived.Deep.DeepHandedRow
import Derived.Lib.LaidTab
import Derived.ChangeOld
import Derived.Below
namespace Go.Proofs.YtoioekmekbiimaaDoor.tokensJoins
open Go Go.Proofs Go.ChangeShapes Go.WideShapes Go.ChangeAt Go.RowKit Go.Proofs.YtoioekmekbiimaaDoor Go.Proofs.YtoioekmekbiimaaDoor.VX
theorem own : ownKnob Tryd.prog.godebug = none := by kernel_rfl
theorem laidOut : laidOutB Tryd.prog = true := by kernel_rfl
theorem laid5 : Rows.tokensJoinsUptoRow.laid = Laid.list7 := by kernel_rfl
theorem take2 (xs : List AV) (A B : AV) : List.drop 0 (List.take ((xs.length : Nat) : Int).toNat ([] ++ xs ++ [A, B])) = xs := by simp
theorem len2 (xs : List AV) (A B : AV) : ([] ++ xs ++ [A, B]).length = xs.length + 2 := by simp
theorem get0 (xs : List AV) (A B : AV) : ([] ++ xs ++ [A, B]).getD ((xs.length : Nat) : Int).toNat .top = A := by simp [List.getD_eq_getElem?_getD]
theorem get1 (xs : List AV) (A B : AV) : ([] ++ xs ++ [A, B]).getD ((xs.length + 1 : Nat) : Int).toNat .top = B := by
  rw [toNat_cast, List.getD_eq_getElem?_getD, List.nil_append, List.getElem?_append_right (by omega), Nat.add_sub_cancel_left]; rfl
theorem runs (l : List Tk.Tok) (hf : ∀ t ∈ l, Tk.fine t) (hw : Sp.weigh l ≤ 4194304) : ∃ n, runA Tryd.prog (X 42) n 4 [.view 5 (l.map tokA)] = some (.bool true) := by
  refine ⟨2, ?_⟩
  have hl := weigh_len l
  have hok := toksOK_of hf (by omega)
  have hks := toks?_map fun t ht => (hf t ht).2
  have hlen : (l.map tokA).length = l.length := List.length_map _
  rw [e_hearsaylaw04_TokensJoins 0 (l.map tokA)]
  generalize hx : l.map tokA = xs at *
  have ew : IntKind.i64.wrap ((xs.length : Int) + 1) = ((xs.length + 1 : Nat) : Int) := by rw [wrap_id (by omega) (by omega)]; rfl
  have hs : Sp.sameL xs xs = true := by unfold Sp.sameL; simp
  have r2 : roomA (([] ++ xs : List AV).length + 2) 48 = true := room_t (by simp; omega) (by decide)
  rw [take2, get0, ew, get1, len2, hok, hks, hs, room_t (n := 0 + xs.length) (by omega) (by decide), r2, le_t (a := (xs.length : Int)) (b := ((xs.length + 2 : Nat) : Int)) (by omega), lt_t (a := (xs.length : Int)) (b := ((xs.length + 2 : Nat) : Int)) (by omega),
    le_t (a := 0) (b := ((xs.length + 1 : Nat) : Int)) (by omega), lt_t (a := ((xs.length + 1 : Nat) : Int)) (b := ((xs.length + 2 : Nat) : Int)) (by omega)]
  have hd : decide (xs.length < 68719476736) = true := decide_eq_true (by omega)
  rw [hd]
  simp only [beq_self_eq_true, cond_true, Bool.and_self]
  rfl
theorem walk (v : Value) (l : List T5) (w : World) (hv : VRel (There w) w nop (.view 5 (l.map fun t => tokA t.tok)) v) (o : ∀ t ∈ l, t.ok) (b : T5.bulk l ≤ 1048576) (g : Gl w) :
    Calls Tryd.prog 4 #[v] w fun e w' => e = .returned (.bool true) ∧ Below w.heap.size w w' := by
  have hw := T5.weigh_bulk l
  obtain ⟨n, h⟩ := runs (l.map T5.tok) (fun t ht => by obtain ⟨t', h1, rfl⟩ := List.mem_map.mp ht; exact t'.fine (o t' h1)) (by omega)
  rw [List.map_map] at h
  exact walk_of (ok42 h) (vals := [v]) g ⟨_, _, rfl, hv, rfl⟩
set_option maxRecDepth 100000 in
theorem contract (H : Type) (enc : TypeId × Value → H) (W : World) (base : Nat) (args : Array Value) (ds gs : List (DataW H)) (before : List MemPlace)
    (hval : ∀ (j : Nat) t v, Tryd.f4.params[j]? = some t → args[j]? = some v → Value.okWide Tryd.prog W .any base t v)
    (hW : DataW.Whole enc Tryd.prog Tryd.f4.params.toList Rows.tokensJoinsSpec.vars false W args.toList ds gs before) (hk : Rows.uptoSmall H (ds ++ gs) = true) (hL : laidMetH Tryd.prog Rows.tokensJoinsUptoRow.laid W) :
    Calls Tryd.prog 4 args W fun e W' => ∃ v, e = .returned v ∧ Rows.tokensJoinsSpec.post enc Tryd.prog Tryd.f4 false true false false W args v W' := by
  have hW' := hW
  obtain ⟨p, q, hA0, hV, rfl, hfz, hnd⟩ := hW
  have hA : DataW.TrodAll enc Tryd.prog W 0 (fun _ => true) true Tryd.f4.params.toList args.toList ds p := hA0
  rw [Tryd.params4] at hA hval
  obtain ⟨v0, vs0, d0, ds0, p0, q0, hargs, rfl, rfl, h0, z0⟩ := trodAll_cons hA
  obtain ⟨rfl, rfl, rfl⟩ := trodAll_nil z0
  obtain rfl : args = #[v0] := by cases args; simp_all
  obtain ⟨rfl, rfl⟩ := trodVars_none hV
  have hB : Rows.uptoBulkAll ([d0] ++ ([] : List (DataW H))) ≤ 1048576 := of_decide_eq_true hk
  simp only [List.append_nil, Rows.uptoBulkAll] at hB
  have k0 := h0
  have lt0 : ∀ x ∈ p0, x.block < W.heap.size := by obtain ⟨m, hm⟩ := k0; exact DataW.trod_lt m _ _ _ hm
  obtain ⟨A0, n0, C0, rfl⟩ := okWide_slice Tryd.underlying28 (hval 0 28 v0 rfl rfl)
  obtain ⟨f0, hf0⟩ := h0
  obtain ⟨v1, l0, hcs0, r0, o0, bb0⟩ := open_tokens (fun _ => rfl) Tryd.underlying28 hf0
  obtain rfl : v1 = .slice A0 n0 C0 := by simpa [Value.cells] using hcs0.symm
  have b0 : T5.bulk l0 ≤ 1048576 := by simp only at bb0; omega
  clear hA0
  rw [laid5] at hL
  simp only [List.append_nil] at hW'
  refine (walk _ l0 W r0 o0 b0 (Laid.gl hL)).mono fun e W' ⟨he, bel⟩ => ?_
  subst he
  exact ⟨_, rfl, _, _, _, [], _, [], hW', trodAll_mk1 (shut_bool Tryd.underlying4 _), (trodAll_cons_mk (Below.trod laidOut (by kernel_rfl) (of_decide_eq_true (by kernel_rfl)) k0 bel lt0) trodAll_mk0), rfl, bel.frame _, fun h => by cases h⟩

theorem reads (os : Os) {H : Type} (enc : TypeId × Value → H) : ∃ places, DataW.whole enc Tryd.prog ((Laid.laidWorld7 os).forCall (fun _ _ => 0) ⟨#[], #[.slice none 0 0], []⟩).memory Tryd.f4.params.toList Rows.tokensJoinsSpec.vars false (#[.slice none 0 0] : Array Value).toList 8 = some ([.nil], [], places) :=
  ⟨[], by kernel_rfl⟩
set_option maxRecDepth 100000 in
theorem lifted (os : Os) (started : os.Started) (H : Type) (enc : TypeId × Value → H) (F : Stop.Interp) :
    ReturnsInHanded {} Tryd.checked os 4 .any ((Rows.OpenSpec.upto Rows.tokensJoinsSpec).preRow enc Tryd.prog Tryd.f4 Rows.tokensJoinsUptoRow.domain false Rows.tokensJoinsUptoRow.laid) (((Rows.OpenSpec.upto Rows.tokensJoinsSpec).at F).post enc Tryd.prog Tryd.f4 false true false false) := by
  obtain ⟨places, hx⟩ := reads os enc
  refine returnsInHanded_of_row (C := Tryd.checked) (s := Rows.OpenSpec.upto Rows.tokensJoinsSpec) own started (by kernel_rfl) Tryd.func4
    (witness_row_at (enc := enc) (C := Tryd.checked) false (Laid.laidWorld7 os) #[.slice none 0 0] rfl (by kernel_rfl) (by kernel_rfl) (by kernel_rfl)
      (OpenSpec.preRow_of_cond 8 hx (by kernel_rfl) (fun k hk => by cases hk; kernel_rfl) (by kernel_rfl) (by rw [laid5]; exact Laid.met7 os _))) ?_
  intro W base args ds gs before hval hW _ hcond _ hL _ _
  exact contract H enc W base args ds gs before hval hW (hcond _ rfl) hL

theorem said : Rows.TokensJoinsUptoSaid :=
  OpenClaim.holds_of_cond 4 Tryd.f4 rfl rfl rfl rfl rfl rfl rfl ⟨rfl, rfl, rfl, rfl, rfl⟩ rfl rfl rfl rfl rfl (by kernel_rfl) Tryd.func4 (by kernel_rfl)
    (of_decide_eq_true (by kernel_rfl)) (by unfold Func.isWrapper; first | (rw [if_pos (by decide +kernel)]; kernel_rfl) | (rw [if_neg (by decide +kernel)]; exact ⟨rfl, rfl⟩))
    (fun os started H enc _ F => by rw [OpenClaim.pre_eq_preRow]; exact lifted os started H enc F)

theorem plain (f : FuncId) (fn : Func) (hf : Tryd.pinned.checked.prog.funcNamed "hearsay/hearsaylaw04.TokensJoins" = some f) (hfn : Tryd.pinned.checked.prog.funcs[f]? = some fn) :
    true = Tryd.pinned.checked.prog.looks [] ∧ ∀ (j : Nat) t, fn.params[j]? = some t → Tryd.pinned.checked.prog.wantsStandIn t = false := by
  obtain rfl : f = 4 := Option.some.inj ((show Tryd.prog.funcNamed "hearsay/hearsaylaw04.TokensJoins" = some 4 by kernel_rfl).symm.trans hf) |>.symm
  obtain rfl : fn = Tryd.f4 := (Option.some.inj (Tryd.func4.symm.trans hfn)).symm
  refine ⟨by kernel_rfl, fun j t ht => ?_⟩
  rw [Tryd.params4] at ht
  obtain rfl : t = 28 := by have := Array.mem_of_getElem? ht; simpa using this
  exact (show Tryd.prog.wantsStandIn 28 = false by kernel_rfl)
theorem card : Rows.TokensJoinsUptoCardSaid :=
  Claim7.holds_tied_plain_at .later [] _ _ _ _ said (fun _ h => by cases h) (by kernel_rfl) (fun _ h => by cases h) tokensJoinsUpto_row_tie rfl ⟨rfl, rfl⟩ (by kernel_rfl) rfl plain (by kernel_rfl)
#print axioms card
end Go.Proofs.YtoioekmekbiimaaDoor.tokensJoins
namespace Go.Proofs.YtoioekmekbiimaaDoor
/-- The card, under a short name, for the claim. -/
theorem tokensJoinsUpto_holds : Rows.TokensJoinsUptoCardSaid := tokensJoins.card
end Go.Proofs.YtoioekmekbiimaaDoor
