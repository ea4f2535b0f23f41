/-
  Proved: the card TokensSpellsUptoCardSaid: for every input of bulk at most 1048576, TokensSpells returns true and leaves its arguments as they were: every token's spelling, or that it has none, is the document's. Condition: the statement's own bound on the arguments.
-/
import Derived.Test.YtoioekmekbiimaaDoorCards
import Derived.Test.YtoioekmekbiimaaDoorTie
import Derived.Test.YtoioekmekbiimaaDoorXCon
import Derived.OpenShut
import Derived.JoinedCond
import Derived.Deep.DeepHandedRow
import Derived.Lib.LaidTab
import Derived.ChangeOld
import Derived.Below
namespace Go.Proofs.YtoioekmekbiimaaDoor.tokensSpells
open Go Go.Proofs Go.ChangeShapes Go.WideShapes Go.ChangeAt Go.RowKit Go.Proofs.YtoioekmekbiimaaDoor Go.Proofs.YtoioekmekbiimaaDoor.VX
open Go.ChangeMaps (open_string shut_string)
theorem own : ownKnob Tryd.prog.godebug = none := by kernel_rfl
theorem laidOut : laidOutB Tryd.prog = true := by kernel_rfl
theorem laid5 : Rows.tokensSpellsUptoRow.laid = Laid.list7 := by kernel_rfl
theorem runs (t : T5) (o : t.ok) (b : t.t.data.toList.length ≤ 1048576) : ∃ n, runA Tryd.prog (X 42) n 3 [.agg [.int .i64 t.k, .str t.t.data.toList, .int .i64 t.n, .int .i64 t.a, .int .i64 t.e]] = some (.bool true) := by
  have h1 : Sp.short t.t.data.toList = true := decide_eq_true (by omega)
  have h2 : Sp.light t.t.data.toList = true := decide_eq_true (by omega)
  have h3 : Sp.i64 t.n = true := o
  refine ⟨2, ?_⟩
  rw [e_hearsaylaw04_TokensSpells 0 t.k t.n t.a t.e t.t.data.toList, h1, h2, h3]
  simp only [Bool.and_self, cond_true, beq_self_eq_true]
theorem walk (t : T5) (w : World) (o : t.ok) (b : t.t.data.toList.length ≤ 1048576) (g : Gl w) :
    Calls Tryd.prog 3 #[.agg t.cells.toArray] w fun e w' => e = .returned (.bool true) ∧ Below w.heap.size w w' := by
  obtain ⟨n, h⟩ := runs t o b
  exact walk_of (ok42 h) (vals := [.agg t.cells.toArray]) g ⟨_, _, rfl, ⟨_, rfl, t.ones, t.rels⟩, rfl⟩
set_option maxRecDepth 100000 in
theorem contract (H : Type) (enc : TypeId × Value → H) (W : World) (base : Nat) (args : Array Value) (ds gs : List (DataW H)) (before : List MemPlace)
    (hval : ∀ (j : Nat) t v, Tryd.f3.params[j]? = some t → args[j]? = some v → Value.okWide Tryd.prog W .any base t v)
    (hW : DataW.Whole enc Tryd.prog Tryd.f3.params.toList Rows.tokensSpellsSpec.vars false W args.toList ds gs before) (hk : Rows.uptoSmall H (ds ++ gs) = true) (hL : laidMetH Tryd.prog Rows.tokensSpellsUptoRow.laid W) :
    Calls Tryd.prog 3 args W fun e W' => ∃ v, e = .returned v ∧ Rows.tokensSpellsSpec.post enc Tryd.prog Tryd.f3 false true false false W args v W' := by
  have hW' := hW
  obtain ⟨p, q, hA0, hV, rfl, hfz, hnd⟩ := hW
  have hA : DataW.TrodAll enc Tryd.prog W 0 (fun _ => true) true Tryd.f3.params.toList args.toList ds p := hA0
  rw [Tryd.params3] at hA hval
  obtain ⟨v0, vs0, d0, ds0, p0, q0, hargs, rfl, rfl, h0, z0⟩ := trodAll_cons hA
  obtain ⟨rfl, rfl, rfl⟩ := trodAll_nil z0
  obtain rfl : args = #[v0] := by cases args; simp_all
  obtain ⟨rfl, rfl⟩ := trodVars_none hV
  have hB : Rows.uptoBulkAll ([d0] ++ ([] : List (DataW H))) ≤ 1048576 := of_decide_eq_true hk
  simp only [List.append_nil, Rows.uptoBulkAll] at hB
  have k0 := h0
  have lt0 : ∀ x ∈ p0, x.block < W.heap.size := by obtain ⟨m, hm⟩ := k0; exact DataW.trod_lt m _ _ _ hm
  obtain ⟨cs0, rfl, hz0⟩ := okWide_struct Tryd.underlying23 (hval 0 23 v0 rfl rfl)
  obtain ⟨f0, hf0⟩ := h0
  obtain ⟨t0, hc0, hx0, o0⟩ := open_token hf0
  obtain rfl : cs0 = t0.cells.toArray := by
    obtain ⟨l⟩ := cs0
    have e : l = t0.cells := hc0
    rw [e]
  obtain rfl : d0 = t0.dat := hx0
  have b0 : t0.t.data.toList.length ≤ 1048576 := by
    simp only [T5.dat, Rows.uptoBulk, Rows.uptoBulkAll] at hB
    omega
  clear hA0
  rw [laid5] at hL
  simp only [List.append_nil] at hW'
  refine (walk t0 W o0 b0 (Laid.gl hL)).mono fun e W' ⟨he, bel⟩ => ?_
  subst he
  exact ⟨_, rfl, _, _, _, [], _, [], hW', trodAll_mk1 (shut_bool Tryd.underlying4 _), (trodAll_cons_mk (Below.trod laidOut (by kernel_rfl) (of_decide_eq_true (by kernel_rfl)) k0 bel lt0) trodAll_mk0), rfl, bel.frame _, fun h => by cases h⟩

theorem reads (os : Os) {H : Type} (enc : TypeId × Value → H) : ∃ places, DataW.whole enc Tryd.prog ((Laid.laidWorld7 os).forCall (fun _ _ => 0) ⟨#[], #[.agg #[.int .i64 0, .string .empty, .int .i64 0, .int .i64 0, .int .i64 0]], []⟩).memory Tryd.f3.params.toList Rows.tokensSpellsSpec.vars false (#[.agg #[.int .i64 0, .string .empty, .int .i64 0, .int .i64 0, .int .i64 0]] : Array Value).toList 8 = some ([.agg [.lit (.int .i64 0), .lit (.string []), .lit (.int .i64 0), .lit (.int .i64 0), .lit (.int .i64 0)]], [], places) :=
  ⟨[], by kernel_rfl⟩
set_option maxRecDepth 100000 in
theorem lifted (os : Os) (started : os.Started) (H : Type) (enc : TypeId × Value → H) (F : Stop.Interp) :
    ReturnsInHanded {} Tryd.checked os 3 .any ((Rows.OpenSpec.upto Rows.tokensSpellsSpec).preRow enc Tryd.prog Tryd.f3 Rows.tokensSpellsUptoRow.domain false Rows.tokensSpellsUptoRow.laid) (((Rows.OpenSpec.upto Rows.tokensSpellsSpec).at F).post enc Tryd.prog Tryd.f3 false true false false) := by
  obtain ⟨places, hx⟩ := reads os enc
  refine returnsInHanded_of_row (C := Tryd.checked) (s := Rows.OpenSpec.upto Rows.tokensSpellsSpec) own started (by kernel_rfl) Tryd.func3
    (witness_row_at (enc := enc) (C := Tryd.checked) false (Laid.laidWorld7 os) #[.agg #[.int .i64 0, .string .empty, .int .i64 0, .int .i64 0, .int .i64 0]] rfl (by kernel_rfl) (by kernel_rfl) (by kernel_rfl)
      (OpenSpec.preRow_of_cond 8 hx (by kernel_rfl) (fun k hk => by cases hk; kernel_rfl) (by kernel_rfl) (by rw [laid5]; exact Laid.met7 os _))) ?_
  intro W base args ds gs before hval hW _ hcond _ hL _ _
  exact contract H enc W base args ds gs before hval hW (hcond _ rfl) hL

theorem said : Rows.TokensSpellsUptoSaid :=
  OpenClaim.holds_of_cond 3 Tryd.f3 rfl rfl rfl rfl rfl rfl rfl ⟨rfl, rfl, rfl, rfl, rfl⟩ rfl rfl rfl rfl rfl (by kernel_rfl) Tryd.func3 (by kernel_rfl)
    (of_decide_eq_true (by kernel_rfl)) (by unfold Func.isWrapper; first | (rw [if_pos (by decide +kernel)]; kernel_rfl) | (rw [if_neg (by decide +kernel)]; exact ⟨rfl, rfl⟩))
    (fun os started H enc _ F => by rw [OpenClaim.pre_eq_preRow]; exact lifted os started H enc F)

theorem plain (f : FuncId) (fn : Func) (hf : Tryd.pinned.checked.prog.funcNamed "hearsay/hearsaylaw04.TokensSpells" = some f) (hfn : Tryd.pinned.checked.prog.funcs[f]? = some fn) :
    true = Tryd.pinned.checked.prog.looks [] ∧ ∀ (j : Nat) t, fn.params[j]? = some t → Tryd.pinned.checked.prog.wantsStandIn t = false := by
  obtain rfl : f = 3 := Option.some.inj ((show Tryd.prog.funcNamed "hearsay/hearsaylaw04.TokensSpells" = some 3 by kernel_rfl).symm.trans hf) |>.symm
  obtain rfl : fn = Tryd.f3 := (Option.some.inj (Tryd.func3.symm.trans hfn)).symm
  refine ⟨by kernel_rfl, fun j t ht => ?_⟩
  rw [Tryd.params3] at ht
  obtain rfl : t = 23 := by have := Array.mem_of_getElem? ht; simpa using this
  exact (show Tryd.prog.wantsStandIn 23 = false by kernel_rfl)
theorem card : Rows.TokensSpellsUptoCardSaid :=
  Claim7.holds_tied_plain_at .later [] _ _ _ _ said (fun _ h => by cases h) (by kernel_rfl) (fun _ h => by cases h) tokensSpellsUpto_row_tie rfl ⟨rfl, rfl⟩ (by kernel_rfl) rfl plain (by kernel_rfl)
#print axioms card
end Go.Proofs.YtoioekmekbiimaaDoor.tokensSpells
namespace Go.Proofs.YtoioekmekbiimaaDoor
/-- The card, under a short name, for the claim. -/
theorem tokensSpellsUpto_holds : Rows.TokensSpellsUptoCardSaid := tokensSpells.card
end Go.Proofs.YtoioekmekbiimaaDoor
