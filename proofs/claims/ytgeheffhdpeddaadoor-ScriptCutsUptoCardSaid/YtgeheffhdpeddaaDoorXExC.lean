/-
  Texts laid together: ONE OPERATION OF A REGION, from any state that agrees with the executor's on wha; REGIONS; REGIONS; THE ONE FORM OF A STATE at a loop's head says nothing but what the state said; CODE; CALLS. Conditions: as each theorem states.
-/
import Derived.Test.YtgeheffhdpeddaaDoorXExB
import Derived.Orders
import Derived.BigFrame
import Derived.WalkSmall
import Derived.LoopN
import Derived.Scope
import Derived.Laws.Sem
/- ONE OPERATION OF A REGION, from any state that agrees with the executor's on what it reads. Conditions: as each theorem states. -/
namespace Go.Proofs.YtgeheffhdpeddaaDoor.VX
open Go Go.RowKit

/-! ### lookups -/
theorem nonT_at {S : St} {κ : Key} (h : isT κ = false) : St.at (nonT S) κ = S.at κ := by
  induction S with
  | nil => rfl
  | cons p S ih =>
    obtain ⟨k, e⟩ := p
    unfold nonT at ih ⊢
    rw [List.filter_cons]
    by_cases hk : k = κ
    · subst hk
      simp only [h, Bool.not_false, if_true, St.at, Key.same_self, cond_true]
    · split
      · simp only [St.at, Key.same_ne hk, cond_false]; exact ih
      · simp only [St.at, Key.same_ne hk, cond_false]; exact ih
theorem nonT_T {S : St} {κ : Key} (h : isT κ = true) : St.at (nonT S) κ = .none := by
  induction S with
  | nil => rfl
  | cons p S ih =>
    obtain ⟨k, e⟩ := p
    unfold nonT at ih ⊢
    rw [List.filter_cons]
    split
    · rename_i hk
      have hne : k ≠ κ := fun e => by subst e; rw [h] at hk; cases hk
      simp only [St.at, Key.same_ne hne, cond_false]; exact ih
    · exact ih
theorem onlyT_at {S : St} {κ : Key} (h : isT κ = true) : St.at (onlyT S) κ = S.at κ := by
  induction S with
  | nil => rfl
  | cons p S ih =>
    obtain ⟨k, e⟩ := p
    unfold onlyT at ih ⊢
    rw [List.filter_cons]
    by_cases hk : k = κ
    · subst hk
      simp only [h, if_true, St.at, Key.same_self, cond_true]
    · split
      · simp only [St.at, Key.same_ne hk, cond_false]; exact ih
      · simp only [St.at, Key.same_ne hk, cond_false]; exact ih
theorem onlyT_T {S : St} {κ : Key} (h : isT κ = false) : St.at (onlyT S) κ = .none := by
  induction S with
  | nil => rfl
  | cons p S ih =>
    obtain ⟨k, e⟩ := p
    unfold onlyT at ih ⊢
    rw [List.filter_cons]
    split
    · rename_i hk
      have hne : k ≠ κ := fun e => by subst e; rw [h] at hk; cases hk
      simp only [St.at, Key.same_ne hne, cond_false]; exact ih
    · exact ih
/-- No temporary stands among the entries. -/
def NoT (S : St) : Prop := ∀ p ∈ S, isT p.1 = false
theorem NoT.nonT (S : St) : NoT (nonT S) := fun p hp => by
  have := (List.mem_filter.mp hp).2
  simpa using this
theorem NoT.at {S : St} (h : NoT S) {κ : Key} (hk : isT κ = true) : S.at κ = .none := by
  induction S with
  | nil => rfl
  | cons p S ih =>
    obtain ⟨k, e⟩ := p
    have hne : k ≠ κ := fun e' => by have := h (k, e) (by simp); rw [e'] at this; rw [this] at hk; cases hk
    simp only [St.at, Key.same_ne hne, cond_false]
    exact ih fun q hq => h q (by simp [hq])
theorem NoT.ovr {S : St} (h : NoT S) {g : Key → Ent} {κ : Key} (hk : isT κ = true) : ovr S g κ = g κ :=
  ovr_other fun p hp e => by have := h p hp; rw [e] at this; rw [this] at hk; cases hk
theorem at_ovr {S : St} {κ : Key} : S.at κ = ovr S (fun _ => .none) κ := by
  induction S with
  | nil => rfl
  | cons p S ih => obtain ⟨k, e⟩ := p; simp only [St.at, ovr]; rw [ih]
theorem ovr_congr : ∀ {S : St} {g g' : Key → Ent} {κ : Key}, g κ = g' κ → ovr S g κ = ovr S g' κ
  | [], _, _, _, h => h
  | (k, e) :: S, g, g', κ, h => by simp only [ovr]; rw [ovr_congr h]
theorem ovr_mem : ∀ {S : St} {g g' : Key → Ent} {κ : Key}, κ ∈ S.map (·.1) → ovr S g κ = ovr S g' κ
  | [], _, _, _, h => by simp at h
  | (k, e) :: S, g, g', κ, h => by
    simp only [ovr]
    by_cases hk : k = κ
    · subst hk; simp [Key.same_self]
    · rw [Key.same_ne hk]
      simp only [cond_false]
      exact ovr_mem (by simpa [Ne.symm hk] using h)
theorem ovr_nonT {S : St} {g : Key → Ent} {κ : Key} (h : isT κ = false) : ovr (nonT S) g κ = ovr S g κ := by
  induction S with
  | nil => rfl
  | cons p S ih =>
    obtain ⟨k, e⟩ := p
    unfold nonT at ih ⊢
    rw [List.filter_cons]
    by_cases hk : k = κ
    · subst hk
      simp only [h, Bool.not_false, if_true, ovr, Key.same_self, cond_true]
    · split
      · simp only [ovr, Key.same_ne hk, cond_false]; exact ih
      · simp only [ovr, Key.same_ne hk, cond_false]; exact ih

/-! ### a frame and its state -/
def Live (g : Key → Ent) (tm : Array Value) (susp : Exs) : Exs := fun v lab u => (∃ t, g (.t t) = .av v lab ∧ u = tm.getD t undef) ∨ susp v lab u
def Good (B : Base) (D : List Deferred) (susp : Exs) (nt : Nat) (g : Key → Ent) (a : Act) (w : World) : Prop :=
  a.defers = D ∧ a.tmps.size = nt ∧ ∃ ι T st, Inv B ι T st g (Live g a.tmps susp) w
/-- Behind a panic: no temporary is told any more. -/
def PGood (B : Base) (D : List Deferred) (susp : Exs) (g : Key → Ent) (v : AV) (u : Value) (a : Act) (w : World) : Prop :=
  a.defers = D ∧ ∃ ι T st, Inv B ι T st g (fun v' lab u' => susp v' lab u' ∨ (v' = v ∧ lab = none ∧ u' = u)) w
/-- How the machine goes on: with the next operation, or out by a panic. -/
def Cont (B : Base) (D : List Deferred) (susp : Exs) (nt : Nat) (g : Key → Ent) (p : Option AV) (Q : Exit → Act → World → Prop) (K : Act → World → Prop) : Prop :=
  match p with
  | none => ∀ a w, Good B D susp nt g a w → K a w
  | some v => ∀ u a w, PGood B D susp g v u a w → Q (.panic [{ v := u, recovered := false }]) a w
/-- What is known of the world stays while the old blocks stay. -/
def WB (W : World → Prop) (B : Base) : Prop := W B.w0 ∧ ∀ w, Keeps B.old B.w0 w → W w

theorem Good.congr {B : Base} {D : List Deferred} {susp : Exs} {nt : Nat} {g g' : Key → Ent} {a : Act} {w : World} (h : Good B D susp nt g a w) (hg : ∀ κ, g' κ = g κ) : Good B D susp nt g' a w := by
  have : g' = g := funext hg
  rw [this]; exact h

/-- A call of plain arguments comes to a plain answer. -/
def CallOK (P : Program) (W : World → Prop) (f : FuncId) (args : List AV) (v : AV) : Prop :=
  (∃ fn, P.funcs[f]? = some fn ∧ fn.body.isSome = true) ∧
  ∀ (st : Cells) (w : World) (vals : List Value), W w → (∀ b o, st b o → b < w.heap.size) → VRels st w nop args vals →
    Calls P f vals.toArray w fun e w' => ∃ u st', e = .returned u ∧ Grows st w st' w' ∧ VRel st' w' nop v u
/-- The same, what is given and what is handed back pointing where it may. -/
def CallG (P : Program) (W : World → Prop) (f : FuncId) (args : List AV) (v : AV) : Prop :=
  (∃ fn, P.funcs[f]? = some fn ∧ fn.body.isSome = true) ∧
  ∀ (ι : Inj) (st : Cells) (w : World) (vals : List Value), W w → (∀ b o, st b o → b < w.heap.size) → VRels st w ι args vals →
    Calls P f vals.toArray w fun e w' => ∃ u st', e = .returned u ∧ Grows st w st' w' ∧ VRel st' w' ι v u
theorem CallOK.gen {P : Program} {W : World → Prop} {f : FuncId} {args : List AV} {v : AV} (hp : pureAV.pures args = true) (h : CallOK P W f args v) : CallG P W f args v :=
  ⟨h.1, fun ι st w vals hW hlt hr => (h.2 st w vals hW hlt (VRels.pure _ _ hp hr)).mono fun _ _ ⟨u, st', e, g, r⟩ => ⟨u, st', e, g, VRel.mono (Stays.refl _ _) (nop_le ι) _ _ r⟩⟩
def Oc.ends : Oc → Value → Ending → Prop
  | .ret _, u, e => e = .returned u
  | .pan _, u, e => e = .panicked [{ v := u, recovered := false }]
/-- A call that shares its caller's blocks. -/
def InlOK (P : Program) (W : World → Prop) (f : FuncId) (args : List AV) (S : St) (c : Oc) (S' : St) : Prop :=
  (∃ fn, P.funcs[f]? = some fn ∧ fn.body.isSome = true) ∧ NoT S' ∧
  ∀ (B : Base) (susp : Exs) (ι : Inj) (T : Labs) (st : Cells) (w : World) (vals : List Value), NoT S → WB W B → Inv B ι T st S.at susp w → VRels st w ι args vals →
    Calls P f vals.toArray w fun e w' => ∃ u, c.ends u e ∧ ∃ ι' T' st', Inv B ι' T' st' S'.at (fun v' lab u' => susp v' lab u' ∨ (v' = c.val ∧ lab = none ∧ u' = u)) w'

/-- What holds of the program: names of functions, the temporaries of its code. -/
structure ProgOK (P : Program) : Prop where
  name : ∀ (f : FuncId) (fn : Func), P.funcs[f]? = some fn → (fn.name == "runtime.NumGoroutine") = false
  dsts : ∀ (f : FuncId) (fn : Func) (c : Code), P.funcs[f]? = some fn → fn.body = some c → dstsOK fn.ntmps c = true
  mixed : P.follows .mixedOrders = true

section
variable {P : Program} {B : Base} {D : List Deferred} {susp : Exs} {nt : Nat} {g g' : Key → Ent} {a : Act} {w w' : World} {ι : Inj} {T : Labs} {st : Cells}

theorem norm_rel {ty : TypeId} {v : AV} {lab : Option Nat} {u : Value} (hv : VRel st w ι v u) (hl : LabRel T lab v u) : VRel st w ι (norm P ty v lab).1 u ∧ LabRel T (norm P ty v lab).2 (norm P ty v lab).1 u := by
  unfold norm
  split
  · split
    · split
      · obtain rfl := hv
        exact ⟨⟨none, 0, rfl, Nat.le_refl _, rfl⟩, _, [], rfl, none, 0, rfl⟩
      · exact ⟨hv, hl⟩
    · exact ⟨hv, hl⟩
  · exact ⟨hv, hl⟩

/-- The state behind an operation: its value is laid into its temporary. -/
theorem good_put {o : Oper} {v : AV} {lab : Option Nat} {u : Value} {g1 g2 : Key → Ent} (hd : a.defers = D) (hs : a.tmps.size = nt) (hdst : ∀ d, o.dst = some d → d < nt)
    (hI : Inv B ι T st g1 (fun v' lab' u' => Live g a.tmps susp v' lab' u' ∨ (v' = v ∧ lab' = lab ∧ u' = u)) w')
    (h0 : ∀ κ, isT κ = false → g2 κ = g1 κ) (h1 : ∀ t, o.dst ≠ some t → g2 (.t t) = g (.t t)) (h2 : ∀ d, o.dst = some d → g2 (.t d) = .av (norm P o.type v lab).1 (norm P o.type v lab).2) : Good B D susp nt g2 (a.put o.dst u) w' := by
  refine ⟨?_, ?_, ι, T, st, (Inv.exs (hI.keys (g' := g2) (fun id => h0 _ rfl) (fun l => h0 _ rfl) (fun id => h0 _ rfl)) ?_)⟩
  · unfold Act.put; split <;> exact hd
  · unfold Act.put; split
    · simpa using hs
    · exact hs
  · intro v' lab' u' h
    rcases h with ⟨t, ht, rfl⟩ | h
    · by_cases hdt : o.dst = some t
      · rw [h2 t hdt] at ht
        cases ht
        refine .inr ?_
        have e : (a.put o.dst u).tmps.getD t undef = u := by
          have := hdst t hdt
          simp [Act.put, hdt, hs, this]
        rw [e]
        obtain ⟨k1, k2⟩ := hI.live v lab u (.inr ⟨rfl, rfl, rfl⟩)
        exact norm_rel k1 k2
      · rw [h1 t hdt] at ht
        refine .inl (.inl (.inl ⟨t, ht, ?_⟩))
        unfold Act.put
        split
        · rename_i d he
          have hne : d ≠ t := fun e => hdt (by rw [he, e])
          simp [Array.getElem?_setIfInBounds_ne hne]
        · rfl
    · exact .inl (.inl (.inr h))

/-- The machine's call of a function that is known. -/
theorem call_run {C : Call} {o : Oper} {f : Operand} {fid : FuncId} {first cap : Array Value} (hP : ProgOK P) (ho : o.op = .call C) (hc : C.callee = .value f) (hf : a.eval f = .func (.func fid) first cap) (hfn : ∃ fn, P.funcs[fid]? = some fn ∧ fn.body.isSome = true) :
    (execOp a.eval o).run P w = .ok (.enter fid (first ++ C.args.map a.eval ++ cap)) w := by
  obtain ⟨fn, h1, h2⟩ := hfn
  obtain ⟨callee, args, ats⟩ := C
  simp only at hc
  subst hc
  have hn : ¬ fn.name = "runtime.NumGoroutine" := by simpa using hP.name fid fn h1
  have hb : ¬ fn.body = none := fun e => by rw [e] at h2; cases h2
  simp [execOp, ho, resolve, Deferred.ofValue, hf, invoke, callFunc, h1, hn, hb]

/-- The program's own panic. -/
theorem panic_run {ex : Exs} {o : Oper} {rd : Rd AV} {v : AV} (hI : Inv B ι T st g ex w) (ht : Tmps g a ex) (ho : panicA o = some rd) (hv : Rd.val noCf g rd = some v) :
    ∃ u, (execOp a.eval o).run P w = .halt (.panic u) w ∧ VRel st w ι v u := by
  unfold panicA at ho
  split at ho
  · rename_i C hC
    split at ho
    · rename_i x hc hx
      cases ho
      simp only [Rd.val_bind', Option.bind_eq_some_iff, Prod.exists] at hv
      obtain ⟨v0, l, h1, h2⟩ := hv
      have k1 := (ev_ok hI ht h1).1
      split at h2
      · cases h2
        obtain ⟨u', e, k2⟩ := id k1
        refine ⟨a.eval x, ?_, k1⟩
        obtain ⟨callee, args, ats⟩ := C
        simp only at hc hx
        subst hc
        obtain rfl : args = #[x] := by cases args; simp_all
        have key : ∀ cs, (builtin .panic ats o.type cs #[a.eval x]).run P w = .halt (.panic (a.eval x)) w := fun cs => by
          rw [BigFrame.builtin_panic, e]
          simp only [Array.getD_eq_getD_getElem?, List.getElem?_toArray, List.getElem?_cons_zero, Option.getD_some, Sem.run_bind, run_panic_iface]
          rfl
        simpa [execOp, hC, resolve, invoke] using key _
      · cases h2
    · cases ho
  · cases ho

/-! ### what an operation reads and writes -/
def FR (f : Foot) (κ : Key) : Prop := κ ∈ f.rd ∨ (f.all = true ∧ isT κ = false)
def FW (f : Foot) (κ : Key) : Prop := κ ∈ f.wr ∨ (f.all = true ∧ isT κ = false)
open Classical in
/-- The state behind an operation, told over another state. -/
noncomputable def upd (f : Foot) (g1 g' : Key → Ent) : Key → Ent := fun κ => if FW f κ then g1 κ else g' κ

/-- What 'wpOp' asks of an operation that is there. -/
def Nxt (P : Program) (ops : Array Oper) (o : Oper) (Q : Exit → Act → World → Prop) (K : Act → World → Prop) (a : Act) (w : World) : Prop :=
  if Region.wanted o (yielded ops a.tmps) then o.wp P a w K Q ∨ (o.asks P a w ∧ LetsOut Q) else K (a.put o.dst undef) w

/-- The machine's operation, from a state that agrees with the executor's on what is read. -/
def StepOK (P : Program) (W : World → Prop) (nt : Nat) (ops : Array Oper) (o : Oper) (g : Key → Ent) (p : Option AV) (g1 : Key → Ent) (f : Foot) : Prop :=
  (∀ κ, ¬ FW f κ → g1 κ = g κ) ∧
  ∀ (B : Base) (D : List Deferred) (susp : Exs), WB W B → ∀ (g' : Key → Ent) (a : Act) (w : World), (∀ κ, FR f κ → g' κ = g κ) → Good B D susp nt g' a w → ∀ (Q : Exit → Act → World → Prop) (K : Act → World → Prop), Cont B D susp nt (upd f g1 g') p Q K → Nxt P ops o Q K a w

theorem at_sub {S : St} {t : Nat} {e : Ent} (h : S.at (.t t) = e) : St.at ((.t t, e) :: S) = S.at := by
  funext κ
  simp only [St.at]
  by_cases hk : Key.t t = κ
  · subst hk; simp [Key.same_self, h]
  · simp [Key.same_ne hk]

variable {R : Type} {cf : FuncId → List AV → (AV → Option R) → Option R} {ci : FuncId → List AV → St → (Oc → St → Option R) → Option R} {inl : FuncId → Option Bool} {G : Globs} {W : World → Prop} {ops : Array Oper}

/-- Is the operation wanted? -/
theorem doA_ok (hP : ProgOK P) (hG : ∀ w, W w → GlobOK G w) (hcf : ∀ f args K r, cf f args K = some r → ∃ v, K v = some r ∧ CallG P W f args v)
    (hci : ∀ f args S K r, ci f args S K = some r → ∃ v S', K v S' = some r ∧ InlOK P W f args S v S')
    {o : Oper} {i fresh : Nat} {S : St} {rs : List Key} {K : Option AV → St → Foot → Option R} {r : R} (hdst : ∀ d, o.dst = some d → d < nt) (h : doA P cf ci inl G o i fresh S rs K = some r) :
    ∃ p S1 f, K p S1 f = some r ∧ f.i = i ∧ (∀ κ ∈ rs, κ ∈ f.rd) ∧
      ((∀ κ, ¬ FW f κ → S1.at κ = S.at κ) ∧ ∀ (B : Base) (D : List Deferred) (susp : Exs), WB W B → ∀ (g' : Key → Ent) (a : Act) (w : World), (∀ κ, FR f κ → g' κ = S.at κ) → Good B D susp nt g' a w → ∀ (Q : Exit → Act → World → Prop) (Kc : Act → World → Prop), Cont B D susp nt (upd f S1.at g') p Q Kc → o.wp P a w Kc Q) := by
  have dst_ne : ∀ {t : Nat}, (.t t : Key) ∉ wroteA o [] → o.dst ≠ some t := by
    intro t ht e; apply ht; simp [wroteA, e]
  unfold doA at h
  cases hcl : callee o with
  | none =>
    rw [hcl] at h
    simp only at h
    cases hpa : panicA o with
    | some rd =>
    rw [hpa] at h
    simp only [Rd.go_val, Option.bind_eq_some_iff] at h
    obtain ⟨v, hv, h⟩ := h
    refine ⟨some v, _, _, h, rfl, fun κ hκ => by simp [hκ], fun _ _ => rfl, ?_⟩
    intro B D susp hB g' a w hag hgood Q Kc hK
    obtain ⟨hd, hs, ι, T, st, hI⟩ := hgood
    have hv' : Rd.val noCf g' rd = some v := by
      rw [(Rd.val_local noCf rd (fun κ hκ => hag κ (.inl (by simp [hκ])))).1]; exact hv
    have ht : Tmps g' a (Live g' a.tmps susp) := fun t v lab e => .inl ⟨t, e, rfl⟩
    obtain ⟨u, hrun, hu⟩ := panic_run (P := P) hI ht hpa hv'
    unfold Oper.wp
    rw [hrun]
    refine hK u _ _ ⟨hd, ι, T, st, (hI.keys (g' := upd ⟨i, false, _, []⟩ S.at g') (fun id => ?_) (fun l => ?_) (fun id => ?_)).exs fun v' lab' u' x => ?_⟩
    · unfold upd; rw [if_neg]; rintro (x | ⟨x, _⟩) <;> cases x
    · unfold upd; rw [if_neg]; rintro (x | ⟨x, _⟩) <;> cases x
    · unfold upd; rw [if_neg]; rintro (x | ⟨x, _⟩) <;> cases x
    · rcases x with x | ⟨rfl, rfl, rfl⟩
      · exact .inl (.inr x)
      · exact .inr ⟨hu, trivial⟩
    | none =>
    rw [hpa] at h
    simp only [Rd.go_val, Option.bind_eq_some_iff] at h
    obtain ⟨res, hv, h⟩ := h
    refine ⟨none, _, _, h, rfl, fun κ hκ => by simp [hκ], ?_, ?_⟩
    · intro κ hκ
      have hκ' : κ ∉ wroteA o ((nonT res.ws).map (·.1)) := fun e => hκ (.inl e)
      unfold putA
      cases ho : o.dst with
      | none =>
        simp only [wroteA, ho] at hκ' ⊢
        rw [St.at_append]; exact ovr_other fun p hp e => hκ' (List.mem_map.mpr ⟨p, hp, e⟩)
      | some d =>
        simp only [wroteA, ho, List.mem_cons, not_or] at hκ' ⊢
        simp only [St.at, Key.same_ne (Ne.symm hκ'.1), cond_false, St.at_append]
        exact ovr_other fun p hp e => hκ'.2 (List.mem_map.mpr ⟨p, hp, e⟩)
    · intro B D susp hB g' a w hag hgood Q Kc hK
      obtain ⟨hd, hs, ι, T, st, hI⟩ := hgood
      have hv' : Rd.val noCf g' (opA P G o fresh) = some res := by
        refine val_opE ?_
        rw [(Rd.val_local noCf (opE P G o fresh) (fun κ hκ => hag κ (.inl (by simp [hκ])))).1]; exact hv
      have ht : Tmps g' a (Live g' a.tmps susp) := fun t v lab e => .inl ⟨t, e, rfl⟩
      obtain ⟨u, w', hrun, ι', T', st', hI'⟩ := opA_ok hI ht (hG w (hB.2 w hI.below)) hv'
      have hgood : Good B D susp nt (upd ⟨i, false, (Rd.rds noCf S.at (opE P G o fresh)).reverse ++ rs, wroteA o ((nonT res.ws).map (·.1))⟩ (putA P o res S).at g') (a.put o.dst u) w' := by
        refine good_put (P := P) (g := g') (g1 := ovr res.ws g') hd hs hdst hI' ?_ ?_ ?_
        · intro κ hκ
          unfold upd
          have e1 : ovr res.ws g' κ = ovr (nonT res.ws) g' κ := (ovr_nonT hκ).symm
          rw [e1]
          split
          · rename_i hw
            rcases hw with hw | ⟨hw, _⟩
            · unfold putA
              cases ho : o.dst with
              | none =>
                simp only [wroteA, ho] at hw ⊢
                rw [St.at_append]; exact ovr_mem hw
              | some d =>
                have hne : (.t d : Key) ≠ κ := fun e => by subst e; cases hκ
                simp only [wroteA, ho, List.mem_cons] at hw ⊢
                simp only [St.at, Key.same_ne hne, cond_false, St.at_append]
                exact ovr_mem (hw.resolve_left (Ne.symm hne))
            · cases hw
          · rename_i hw
            refine (ovr_other fun p hp e => hw (.inl ?_)).symm
            have : κ ∈ (nonT res.ws).map (·.1) := List.mem_map.mpr ⟨p, hp, e⟩
            unfold wroteA; split <;> simp_all
        · intro t hne
          unfold upd
          rw [if_neg]
          intro hw
          rcases hw with hw | ⟨hw, _⟩
          · have hnt : (.t t : Key) ∉ (nonT res.ws).map (·.1) := fun e => by
              obtain ⟨p, hp, e⟩ := List.mem_map.mp e
              have := NoT.nonT res.ws p hp; rw [e] at this; cases this
            unfold wroteA at hw
            split at hw
            · rename_i d ho
              simp only [List.mem_cons, Key.t.injEq] at hw
              rcases hw with rfl | hw
              · exact hne ho
              · exact hnt hw
            · exact hnt hw
          · cases hw
        · intro d ho
          unfold upd
          rw [if_pos (.inl (by simp [wroteA, ho]))]
          unfold putA
          simp only [ho, St.at, Key.same_self, cond_true]
      unfold Oper.wp
      rcases hrun with hrun | ⟨hrun, rfl⟩
      · rw [hrun]; exact hK _ _ hgood
      · rw [hrun]; exact hK _ _ hgood
  | some rd =>
    rw [hcl] at h
    simp only [Rd.go_val, Option.bind_eq_some_iff] at h
    obtain ⟨⟨fid, args⟩, hv, h⟩ := h
    -- what is called
    obtain ⟨C, f, ho, hc, rfl⟩ : ∃ C f, o.op = .call C ∧ C.callee = .value f ∧ rd = (do
        let (f, _) ← ev f
        let args ← evs C.args.toList
        match f with
        | .fn (.func g) first cap => .ret (g, first ++ args ++ cap)
        | _ => .fail) := by
      unfold callee at hcl
      split at hcl
      · rename_i C hC
        split at hcl
        · rename_i f hf
          cases hcl
          exact ⟨C, f, hC, hf, rfl⟩
        · cases hcl
      · cases hcl
    -- the machine's call, wherever the operands are as they were read
    have mach : ∀ (B : Base) (D : List Deferred) (susp : Exs) (g' : Key → Ent) (a : Act) (w : World) (ι : Inj) (T : Labs) (st : Cells), Inv B ι T st g' (Live g' a.tmps susp) w → (∀ κ ∈ Rd.rds noCf S.at (do
        let (f, _) ← ev f
        let args ← evs C.args.toList
        match f with
        | .fn (.func g) first cap => .ret (g, first ++ args ++ cap)
        | _ => (.fail : Rd (FuncId × List AV))), g' κ = S.at κ) → (∃ fn, P.funcs[fid]? = some fn ∧ fn.body.isSome = true) →
        ∃ vals : List Value, VRels st w ι args vals ∧ (execOp a.eval o).run P w = .ok (.enter fid vals.toArray) w := by
      intro B D susp g' a w ι T st hI hag hfn
      have hv' := (Rd.val_local noCf _ hag).1.trans hv
      have ht : Tmps g' a (Live g' a.tmps susp) := fun t v lab e => .inl ⟨t, e, rfl⟩
      simp only [Rd.val_bind', Option.bind_eq_some_iff, Prod.exists] at hv'
      obtain ⟨fv, l, h1, as, h2, h3⟩ := hv'
      have k1 := (ev_ok hI ht h1).1
      have k2 := evs_ok hI ht h2
      split at h3
      · rename_i g0 first cap
        cases h3
        obtain ⟨l', c', e, e1, e2⟩ := k1
        refine ⟨l'.toList ++ C.args.toList.map a.eval ++ c'.toList, (e1.app k2).app e2, ?_⟩
        rw [call_run hP ho hc e hfn]
        congr 2
        apply Array.ext'
        simp
      · cases h3
    cases hpi : ownCall inl fid args with
    | true =>
      rw [hpi] at h
      simp only [cond_true] at h
      obtain ⟨v, h, hfn, hcall⟩ := hcf _ _ _ _ h
      refine ⟨none, _, _, h, rfl, fun κ hκ => by simp [hκ], ?_, ?_⟩
      · intro κ hκ
        have hκ' : κ ∉ wroteA o [] := fun e => hκ (.inl e)
        unfold putA
        cases ho' : o.dst with
        | none => rfl
        | some d =>
          simp only [wroteA, ho', List.mem_cons, List.not_mem_nil, or_false] at hκ'
          simp only [St.at, Key.same_ne (Ne.symm hκ'), cond_false]; rfl
      · intro B D susp hB g' a w hag hgood Q Kc hK
        obtain ⟨hd, hs, ι, T, st, hI⟩ := hgood
        obtain ⟨vals, k1, k2⟩ := mach B D susp g' a w ι T st hI (fun κ hκ => hag κ (.inl (List.mem_append.mpr (.inl (List.mem_reverse.mpr hκ))))) hfn
        unfold Oper.wp
        rw [k2]
        refine Calls.mono (hcall ι st w vals (hB.2 w hI.below) hI.lt (VRels.weak _ _ k1)) ?_
        rintro e w' ⟨u, st', rfl, hg, hu⟩
        refine hK _ _ (good_put (P := P) (o := o) (g := g') (g1 := g') (v := v) (lab := none) (ι := ι) (T := T) (st := st') hd hs hdst ((hI.grow hg.below hg.sub hg.new hg.lt).exs fun v' lab' u' x => x.elim .inl fun ⟨e1, e2, e3⟩ => .inr ⟨by rw [e1, e3]; exact hu, by rw [e2]; trivial⟩) ?_ ?_ ?_)
        · intro κ hκ
          unfold upd
          rw [if_neg]
          rintro (hw | ⟨hw, _⟩)
          · unfold wroteA at hw
            split at hw
            · simp only [List.mem_cons, List.not_mem_nil, or_false] at hw; subst hw; cases hκ
            · cases hw
          · cases hw
        · intro t hne
          unfold upd
          rw [if_neg]
          rintro (hw | ⟨hw, _⟩)
          · unfold wroteA at hw
            split at hw
            · rename_i d ho'
              simp only [List.mem_cons, List.not_mem_nil, or_false, Key.t.injEq] at hw; subst hw; exact hne ho'
            · cases hw
          · cases hw
        · intro d ho'
          unfold upd
          rw [if_pos (.inl (by simp [wroteA, ho']))]
          unfold putA
          simp only [ho', St.at, Key.same_self, cond_true]
    | false =>
      rw [hpi] at h
      simp only [cond_false] at h
      obtain ⟨c, S', h, hfn, hnt, hcall⟩ := hci _ _ _ _ _ h
      cases c with
      | pan v =>
        simp only at h
        have hput : ∀ κ, isT κ = false → (S' ++ onlyT S).at κ = S'.at κ := by
          intro κ hκ
          rw [St.at_append, at_ovr (S := S')]
          exact ovr_congr (onlyT_T hκ)
        refine ⟨some v, _, _, h, rfl, fun κ hκ => by simp [hκ], ?_, ?_⟩
        · intro κ hκ
          have hT : isT κ = true := by
            cases hi : isT κ with
            | true => rfl
            | false => exact absurd (.inr ⟨rfl, hi⟩) hκ
          rw [St.at_append, hnt.ovr hT]; exact onlyT_at hT
        · intro B D susp hB g' a w hag hgood Q Kc hK
          obtain ⟨hd, hs, ι, T, st, hI⟩ := hgood
          obtain ⟨vals, k1, k2⟩ := mach B D susp g' a w ι T st hI (fun κ hκ => hag κ (.inl (List.mem_append.mpr (.inl (List.mem_reverse.mpr hκ))))) hfn
          have hI' : Inv B ι T st (nonT S).at (Live g' a.tmps susp) w := hI.keys (fun id => by rw [nonT_at rfl, hag _ (.inr ⟨rfl, rfl⟩)]) (fun l => by rw [nonT_at rfl, hag _ (.inr ⟨rfl, rfl⟩)]) (fun id => by rw [nonT_at rfl, hag _ (.inr ⟨rfl, rfl⟩)])
          unfold Oper.wp
          rw [k2]
          refine Calls.mono (hcall B (Live g' a.tmps susp) ι T st w vals (NoT.nonT S) hB hI' k1) ?_
          rintro e w' ⟨u, rfl, ι', T', st', hI2⟩
          refine hK u _ _ ⟨hd, ι', T', st', (hI2.keys (g' := upd ⟨i, true, _, []⟩ (S' ++ onlyT S).at g') (fun id => ?_) (fun l => ?_) (fun id => ?_)).exs fun v' lab' u' x => ?_⟩
          · unfold upd; rw [if_pos (.inr ⟨rfl, rfl⟩)]; exact hput _ rfl
          · unfold upd; rw [if_pos (.inr ⟨rfl, rfl⟩)]; exact hput _ rfl
          · unfold upd; rw [if_pos (.inr ⟨rfl, rfl⟩)]; exact hput _ rfl
          · rcases x with x | x
            · exact .inl (.inl (.inr x))
            · exact .inl (.inr x)
      | ret v =>
      simp only at h
      have e0 : ∀ κ, (.t 0 : Key) = κ → True := fun _ _ => trivial
      have hput : ∀ κ, isT κ = false → (putA P o { val := v } (S' ++ onlyT S)).at κ = S'.at κ := by
        intro κ hκ
        have : (S' ++ onlyT S).at κ = S'.at κ := by
          rw [St.at_append, at_ovr (S := S')]
          exact ovr_congr (onlyT_T hκ)
        unfold putA
        cases ho' : o.dst with
        | none => exact this
        | some d =>
          have hne : (.t d : Key) ≠ κ := fun e => by subst e; cases hκ
          simp only [St.at, Key.same_ne hne, cond_false]; exact this
      refine ⟨none, _, _, h, rfl, fun κ hκ => by simp [hκ], ?_, ?_⟩
      · intro κ hκ
        have hκ' : κ ∉ wroteA o [] := fun e => hκ (.inl e)
        have hT : isT κ = true := by
          cases hi : isT κ with
          | true => rfl
          | false => exact absurd (.inr ⟨rfl, hi⟩) hκ
        have : (S' ++ onlyT S).at κ = S.at κ := by
          rw [St.at_append, hnt.ovr hT]; exact onlyT_at hT
        unfold putA
        cases ho' : o.dst with
        | none => exact this
        | some d =>
          simp only [wroteA, ho', List.mem_cons, List.not_mem_nil, or_false] at hκ'
          simp only [St.at, Key.same_ne (Ne.symm hκ'), cond_false]; exact this
      · intro B D susp hB g' a w hag hgood Q Kc hK
        obtain ⟨hd, hs, ι, T, st, hI⟩ := hgood
        obtain ⟨vals, k1, k2⟩ := mach B D susp g' a w ι T st hI (fun κ hκ => hag κ (.inl (List.mem_append.mpr (.inl (List.mem_reverse.mpr hκ))))) hfn
        have hI' : Inv B ι T st (nonT S).at (Live g' a.tmps susp) w := hI.keys (fun id => by rw [nonT_at rfl, hag _ (.inr ⟨rfl, rfl⟩)]) (fun l => by rw [nonT_at rfl, hag _ (.inr ⟨rfl, rfl⟩)]) (fun id => by rw [nonT_at rfl, hag _ (.inr ⟨rfl, rfl⟩)])
        unfold Oper.wp
        rw [k2]
        refine Calls.mono (hcall B (Live g' a.tmps susp) ι T st w vals (NoT.nonT S) hB hI' k1) ?_
        rintro e w' ⟨u, rfl, ι', T', st', hI2⟩
        refine hK _ _ (good_put (P := P) (o := o) (g := g') (g1 := S'.at) (v := v) (lab := none) hd hs hdst hI2 ?_ ?_ ?_)
        · intro κ hκ
          unfold upd
          rw [if_pos (.inr ⟨rfl, hκ⟩)]
          exact hput κ hκ
        · intro t hne
          unfold upd
          rw [if_neg]
          rintro (hw | ⟨_, hw⟩)
          · unfold wroteA at hw
            split at hw
            · rename_i d ho'
              simp only [List.mem_cons, List.not_mem_nil, or_false, Key.t.injEq] at hw; subst hw; exact hne ho'
            · cases hw
          · cases hw
        · intro d ho'
          unfold upd
          rw [if_pos (.inl (by simp [wroteA, ho']))]
          unfold putA
          simp only [ho', St.at, Key.same_self, cond_true]

/-- An operation that is not wanted. -/
theorem skipA_ok {o : Oper} {i : Nat} {S : St} {rs : List Key} {K : Option AV → St → Foot → Option R} {r : R} (hdst : ∀ d, o.dst = some d → d < nt) (h : skipA o i S rs K = some r) :
    ∃ S1 f, K none S1 f = some r ∧ f.i = i ∧ (∀ κ ∈ rs, κ ∈ f.rd) ∧
      ((∀ κ, ¬ FW f κ → S1.at κ = S.at κ) ∧ ∀ (B : Base) (D : List Deferred) (susp : Exs) (g' : Key → Ent) (a : Act) (w : World), Good B D susp nt g' a w → Good B D susp nt (upd f S1.at g') (a.put o.dst undef) w) := by
  unfold skipA at h
  refine ⟨_, _, h, rfl, fun κ hκ => hκ, ?_, ?_⟩
  · intro κ hκ
    have hκ' : κ ∉ wroteA o [] := fun e => hκ (.inl e)
    cases ho' : o.dst with
    | none => rfl
    | some d =>
      simp only [wroteA, ho', List.mem_cons, List.not_mem_nil, or_false] at hκ'
      simp only [St.at, Key.same_ne (Ne.symm hκ'), cond_false]
  · intro B D susp g' a w hgood
    obtain ⟨hd, hs, ι, T, st, hI⟩ := hgood
    refine ⟨?_, ?_, ι, T, st, (Inv.exs (hI.keys (g' := upd ⟨i, false, rs, wroteA o []⟩ _ g') (fun id => ?_) (fun l => ?_) (fun id => ?_)) ?_)⟩
    · unfold Act.put; split <;> exact hd
    · unfold Act.put; split
      · simpa using hs
      · exact hs
    · unfold upd
      rw [if_neg]
      rintro (hw | ⟨hw, _⟩)
      · unfold wroteA at hw
        split at hw
        · simp at hw
        · cases hw
      · cases hw
    · unfold upd
      rw [if_neg]
      rintro (hw | ⟨hw, _⟩)
      · unfold wroteA at hw
        split at hw
        · simp at hw
        · cases hw
      · cases hw
    · unfold upd
      rw [if_neg]
      rintro (hw | ⟨hw, _⟩)
      · unfold wroteA at hw
        split at hw
        · simp at hw
        · cases hw
      · cases hw
    · intro v' lab' u' hx
      rcases hx with ⟨t, ht, rfl⟩ | hx
      · unfold upd at ht
        split at ht
        · rename_i hw
          rcases hw with hw | ⟨hw, _⟩
          · unfold wroteA at hw
            split at hw
            · rename_i d ho'
              simp only [List.mem_cons, List.not_mem_nil, or_false, Key.t.injEq] at hw
              subst hw
              simp only [ho', St.at, Key.same_self, cond_true] at ht
              cases ht
              refine .inr ?_
              have e : (a.put o.dst undef).tmps.getD t undef = undef := by
                have := hdst t ho'
                simp [Act.put, ho', hs, this]
              rw [e]
              exact ⟨⟨#[], rfl, rfl⟩, trivial⟩
            · cases hw
          · cases hw
        · rename_i hw
          refine .inl (.inl ⟨t, ht, ?_⟩)
          unfold Act.put
          split
          · rename_i d he
            have hne : d ≠ t := fun e => hw (.inl (by simp [wroteA, he, e]))
            simp [Array.getElem?_setIfInBounds_ne hne]
          · rfl
      · exact .inl (.inr hx)

/-- ONE OPERATION, its guard asked. -/
theorem stepA_ok (hP : ProgOK P) (hG : ∀ w, W w → GlobOK G w) (hcf : ∀ f args K r, cf f args K = some r → ∃ v, K v = some r ∧ CallG P W f args v)
    (hci : ∀ f args S K r, ci f args S K = some r → ∃ v S', K v S' = some r ∧ InlOK P W f args S v S')
    {o : Oper} {i fresh : Nat} {S : St} {K : Option AV → St → Foot → Option R} {r : R} (hdst : ∀ d, o.dst = some d → d < nt) (h : stepA P cf ci inl G ops.toList o i fresh S K = some r) :
    ∃ p S1 f, K p S1 f = some r ∧ f.i = i ∧ StepOK P W nt ops o S.at p S1.at f := by
  unfold stepA at h
  cases hg : o.guard with
  | none =>
    rw [hg] at h
    obtain ⟨p, S1, f, h1, h2, _, h3, h4⟩ := doA_ok hP hG hcf hci hdst h
    refine ⟨p, S1, f, h1, h2, h3, fun B D susp hB g' a w hag hgood Q Kc hK => ?_⟩
    unfold Nxt
    rw [if_pos (by simp [Region.wanted, hg])]
    exact .inl (h4 B D susp hB g' a w hag hgood Q Kc hK)
  | some gw =>
    obtain ⟨gi, want⟩ := gw
    rw [hg] at h
    simp only at h
    cases hgd : (ops.toList[gi]?).bind (·.dst) with
    | none => rw [hgd] at h; cases h
    | some t =>
      rw [hgd] at h
      simp only at h
      have hgd' : (ops[gi]?).bind (·.dst) = some t := by rw [← Array.getElem?_toList]; exact hgd
      -- what is asked of the state
      have asks : ∀ {B : Base} {D : List Deferred} {susp : Exs} {v : AV} {l : Option Nat} {g' : Key → Ent} {a : Act} {w : World}, S.at (.t t) = .av v l → g' (.t t) = S.at (.t t) → Good B D susp nt g' a w → ∃ ι st, VRel st w ι v (a.tmps.getD t undef) := by
        intro B D susp v l g' a w e1 e2 hgood
        obtain ⟨hd, hs, ι, T, st, hI⟩ := hgood
        exact ⟨ι, st, (hI.live v l _ (.inl ⟨t, by rw [e2, e1], rfl⟩)).1⟩
      have wants : ∀ {B : Base} {D : List Deferred} {susp : Exs} {c : Bool} {l : Option Nat} {g' : Key → Ent} {a : Act} {w : World}, S.at (.t t) = .av (.bool c) l → g' (.t t) = S.at (.t t) → Good B D susp nt g' a w → Region.wanted o (yielded ops a.tmps) = (c == want) := by
        intro B D susp c l g' a w e1 e2 hgood
        obtain ⟨ι, st, hv⟩ := asks e1 e2 hgood
        have hv : a.tmps.getD t undef = .bool c := hv
        have hv' : a.tmps[t]? = some (.bool c) := by
          cases hx : a.tmps[t]? with
          | none => simp [hx, undef] at hv
          | some x => simp [hx] at hv; rw [hv]
        simp only [Region.wanted, hg, yielded, hgd', Option.bind_some, hv']
        cases c <;> cases want <;> rfl
      have run : ∀ {c : Bool} {l : Option Nat}, S.at (.t t) = .av (.bool c) l → (c == want) = true → doA P cf ci inl G o i fresh ((.t t, .av (.bool c) l) :: S) [.t t] K = some r → ∃ p S1 f, K p S1 f = some r ∧ f.i = i ∧ StepOK P W nt ops o S.at p S1.at f := by
        intro c l e1 hw h
        obtain ⟨p, S1, f, h1, h2, h5, h3, h4⟩ := doA_ok hP hG hcf hci hdst h
        rw [at_sub e1] at h3 h4
        refine ⟨p, S1, f, h1, h2, h3, fun B D susp hB g' a w hag hgood Q Kc hK => ?_⟩
        unfold Nxt
        rw [if_pos (by rw [wants e1 (hag _ (.inl (h5 _ (by simp)))) hgood]; exact hw)]
        exact .inl (h4 B D susp hB g' a w hag hgood Q Kc hK)
      have skip : ∀ {c : Bool} {l : Option Nat}, S.at (.t t) = .av (.bool c) l → (c == want) = false → skipA o i ((.t t, .av (.bool c) l) :: S) [.t t] K = some r → ∃ p S1 f, K p S1 f = some r ∧ f.i = i ∧ StepOK P W nt ops o S.at p S1.at f := by
        intro c l e1 hw h
        obtain ⟨S1, f, h1, h2, h5, h3, h4⟩ := skipA_ok hdst h
        rw [at_sub e1] at h3
        refine ⟨none, S1, f, h1, h2, h3, fun B D susp hB g' a w hag hgood Q Kc hK => ?_⟩
        unfold Nxt
        rw [if_neg (by rw [wants e1 (hag _ (.inl (h5 _ (by simp)))) hgood, hw]; simp)]
        exact hK _ _ (h4 B D susp g' a w hgood)
      cases hat : S.at (.t t) with
      | av v l =>
        rw [hat] at h
        cases v with
        | bool c =>
          cases c with
          | true =>
            cases want with
            | true => exact run hat rfl h
            | false => exact skip hat rfl h
          | false =>
            cases want with
            | true => exact skip hat rfl h
            | false => exact run hat rfl h
        | tup vs =>
          cases vs with
          | nil =>
            obtain ⟨S1, f, h1, h2, h5, h3, h4⟩ := skipA_ok hdst h
            refine ⟨none, S1, f, h1, h2, h3, fun B D susp hB g' a w hag hgood Q Kc hK => ?_⟩
            have hw : Region.wanted o (yielded ops a.tmps) = false := by
              obtain ⟨ι, st, us, hv, hu⟩ := asks hat (hag _ (.inl (h5 _ (by simp)))) hgood
              have hus : us = #[] := by apply Array.ext'; exact hu
              subst hus
              simp only [Region.wanted, hg, yielded, hgd', Option.bind_some]
              cases hx : a.tmps[t]? with
              | none => rfl
              | some x =>
                have : x = .tuple #[] := by simpa [hx] using hv
                subst this; rfl
            unfold Nxt
            rw [if_neg (by rw [hw]; simp)]
            exact hK _ _ (h4 B D susp g' a w hgood)
          | cons x xs => simp at h
        | _ => simp at h
      | _ => rw [hat] at h; simp at h
end
end Go.Proofs.YtgeheffhdpeddaaDoor.VX

/- REGIONS: in the text's order, and in whatever order is drawn. Conditions: as each theorem states. -/
namespace Go.Proofs.YtgeheffhdpeddaaDoor.VX
open Go Go.RowKit

section
variable {P : Program} {W : World → Prop} {B : Base} {D : List Deferred} {susp : Exs} {nt : Nat} {ops : Array Oper}

/-- The operations one behind the other. -/
inductive Seq (P : Program) (W : World → Prop) (nt : Nat) (ops : Array Oper) : List Oper → Nat → (Key → Ent) → List Foot → (Key → Ent) → Prop
  | nil (i : Nat) (g : Key → Ent) : Seq P W nt ops [] i g [] g
  | cons {o : Oper} {rest : List Oper} {i : Nat} {g g1 gn : Key → Ent} {f : Foot} {fs : List Foot} : StepOK P W nt ops o g none g1 f → f.i = i → Seq P W nt ops rest (i + 1) g1 fs gn → Seq P W nt ops (o :: rest) i g (f :: fs) gn

theorem opsA_ok {R : Type} {cf : FuncId → List AV → (AV → Option R) → Option R} {ci : FuncId → List AV → St → (Oc → St → Option R) → Option R} {inl : FuncId → Option Bool} {G : Globs} (hP : ProgOK P) (hG : ∀ w, W w → GlobOK G w) (hcf : ∀ f args K r, cf f args K = some r → ∃ v, K v = some r ∧ CallG P W f args v)
    (hci : ∀ f args S K r, ci f args S K = some r → ∃ v S', K v S' = some r ∧ InlOK P W f args S v S') {base : Nat} : ∀ {l : List Oper} {i : Nat} {S : St} {fs0 : List Foot} {K : Option AV → St → List Foot → Option R} {r : R},
    (∀ o ∈ l, ∀ d, o.dst = some d → d < nt) → opsA P cf ci inl G ops.toList base l i S fs0 K = some r →
      (∃ Sn fs, K none Sn (fs.reverse ++ fs0) = some r ∧ Seq P W nt ops l i S.at fs Sn.at) ∨
      (∃ l1 o l2 v fs S1 Sp f, l = l1 ++ o :: l2 ∧ K (some v) Sp (f :: (fs.reverse ++ fs0)) = some r ∧ Seq P W nt ops l1 i S.at fs (St.at S1) ∧ f.i = i + l1.length ∧ StepOK P W nt ops o (St.at S1) (some v) (St.at Sp) f)
  | [], i, S, fs0, K, r, _, h => .inl ⟨S, [], h, .nil i _⟩
  | o :: rest, i, S, fs0, K, r, hd, h => by
    unfold opsA at h
    obtain ⟨p, S1, f, h1, h2, h3⟩ := stepA_ok hP hG hcf hci (hd o (by simp)) h
    cases p with
    | none =>
      rcases opsA_ok hP hG hcf hci (fun o' ho' => hd o' (by simp [ho'])) h1 with ⟨Sn, fs, h4, h5⟩ | ⟨l1, o1, l2, v, fs, S2, Sp, f1, e, h4, h5, h6, h7⟩
      · exact .inl ⟨Sn, f :: fs, by simpa using h4, .cons h3 h2 h5⟩
      · exact .inr ⟨o :: l1, o1, l2, v, f :: fs, S2, Sp, f1, by rw [e]; rfl, by simpa using h4, .cons h3 h2 h5, by rw [h6, List.length_cons]; omega, h7⟩
    | some v => exact .inr ⟨[], o, rest, v, [], S, S1, f, rfl, by simpa using h1, .nil i _, by rw [h2]; rfl, h3⟩

theorem upd_self {o : Oper} {p : Option AV} {g g1 : Key → Ent} {f : Foot} (h : StepOK P W nt ops o g p g1 f) : upd f g1 g = g1 := by
  funext κ
  unfold upd
  split
  · rfl
  · rename_i hk; exact (h.1 κ hk).symm

theorem nxt_wpOps {Q : Exit → Act → World → Prop} {i : Nat} {o : Oper} (ho : ops[i]? = some o) {rest : List Nat} {a : Act} {w : World} (h : Nxt P ops o Q (wpOps P ops Q rest) a w) : wpOps P ops Q (i :: rest) a w := by
  simp only [wpOps, ho]; exact h

/-- In the text's order. -/
theorem seq_wp (hB : WB W B) {Q : Exit → Act → World → Prop} : ∀ {l : List Oper} {i : Nat} {g : Key → Ent} {fs : List Foot} {gn : Key → Ent}, Seq P W nt ops l i g fs gn → (∀ j, l[j]? = ops[i + j]?) → (∀ a w, Good B D susp nt gn a w → Q .normal a w) → ∀ {a : Act} {w : World}, Good B D susp nt g a w →
    wpOps P ops Q (List.range' i l.length) a w := by
  intro l
  induction l with
  | nil => intro i g fs gn h _ hQ a w hg; cases h; exact hQ a w hg
  | cons o l ih =>
    intro i g fs gn h ho hQ a w hg
    cases h with
    | cons h1 h2 h3 =>
      have h0 : ops[i]? = some o := by simpa using (ho 0).symm
      rw [List.length_cons, List.range'_succ]
      refine nxt_wpOps h0 (h1.2 B D susp hB g a w (fun _ _ => rfl) hg Q _ fun a' w' (hg' : Good B D susp nt _ a' w') => ?_)
      rw [upd_self h1] at hg'
      exact ih h3 (fun j => by have := ho (j + 1); simpa [Nat.add_assoc, Nat.add_comm 1 j] using this) hQ hg'

theorem seq_wp_pan (hB : WB W B) {Q : Exit → Act → World → Prop} {o : Oper} {l2 : List Oper} {v : AV} {gp : Key → Ent} {f : Foot} {g1 : Key → Ent} (hs : StepOK P W nt ops o g1 (some v) gp f)
    (hQ : ∀ u a w, PGood B D susp gp v u a w → Q (.panic [{ v := u, recovered := false }]) a w) : ∀ {l : List Oper} {i : Nat} {g : Key → Ent} {fs : List Foot}, Seq P W nt ops l i g fs g1 → (∀ j, (l ++ o :: l2)[j]? = ops[i + j]?) → ∀ {a : Act} {w : World}, Good B D susp nt g a w →
    wpOps P ops Q (List.range' i (l ++ o :: l2).length) a w := by
  intro l
  induction l with
  | nil =>
    intro i g fs h ho a w hg
    cases h
    have h0 : ops[i]? = some o := by simpa using (ho 0).symm
    rw [List.nil_append, List.length_cons, List.range'_succ]
    refine nxt_wpOps h0 (hs.2 B D susp hB g1 a w (fun _ _ => rfl) hg Q _ fun u a' w' hg' => ?_)
    rw [upd_self hs] at hg'
    exact hQ u a' w' hg'
  | cons o1 l ih =>
    intro i g fs h ho a w hg
    cases h with
    | cons h1 h2 h3 =>
      have h0 : ops[i]? = some o1 := by simpa using (ho 0).symm
      rw [List.cons_append, List.length_cons, List.range'_succ]
      refine nxt_wpOps h0 (h1.2 B D susp hB g a w (fun _ _ => rfl) hg Q _ fun a' w' (hg' : Good B D susp nt _ a' w') => ?_)
      rw [upd_self h1] at hg'
      exact ih h3 (fun j => by have := ho (j + 1); simpa [Nat.add_assoc, Nat.add_comm 1 j] using this) hg'

/-! ### whatever order is drawn -/
/-- Stands surely ahead. -/
inductive Anc (ops : Array Oper) : Nat → Nat → Prop
  | edge {j : Nat} {o : Oper} {e : Edge} : ops[j]? = some o → e ∈ o.after → Region.binds .any e = true → Anc ops e.on j
  | trans {i j : Nat} {o : Oper} {e : Edge} : Anc ops i e.on → ops[j]? = some o → e ∈ o.after → Region.binds .any e = true → Anc ops i j
def Closed (ops : Array Oper) (D : Nat → Prop) : Prop := ∀ j o, D j → ops[j]? = some o → ∀ e ∈ o.after, Region.binds .any e = true → D e.on
theorem Anc.closed {D : Nat → Prop} (hD : Closed ops D) : ∀ {i j : Nat}, Anc ops i j → D j → D i := by
  intro i j h
  induction h with
  | edge h1 h2 h3 => intro hj; exact hD _ _ hj h1 _ h2 h3
  | trans _ h1 h2 h3 ih => intro hj; exact ih (hD _ _ hj h1 _ h2 h3)
theorem Anc.ready {D : Nat → Prop} (hD : Closed ops D) {i j : Nat} {o : Oper} (ho : ops[j]? = some o) (hr : ∀ e ∈ o.after, Region.binds .any e = true → D e.on) (h : Anc ops i j) : D i := by
  cases h with
  | edge h1 h2 h3 => rw [ho] at h1; cases h1; exact hr _ h2 h3
  | trans h0 h1 h2 h3 => rw [ho] at h1; cases h1; exact h0.closed hD (hr _ h2 h3)

def ancStep (acc : List (List Nat)) (o : Oper) : List (List Nat) := acc ++ [o.after.toList.foldl (fun s e => bif Region.binds .any e then e.on :: (acc.getD e.on [] ++ s) else s) []]
theorem ancs_eq (l : List Oper) : ancs l = l.foldl ancStep [] := rfl
theorem ancs_inv : ∀ (l : List Oper) (k : Nat) (acc : List (List Nat)), acc.length = k → (∀ j, l[j]? = ops[k + j]?) → (∀ j i, i ∈ acc.getD j [] → Anc ops i j) → ∀ j i, i ∈ (l.foldl ancStep acc).getD j [] → Anc ops i j := by
  intro l
  induction l with
  | nil => intro k acc _ _ h; exact h
  | cons o l ih =>
    intro k acc hk ho h
    have h0 : ops[k]? = some o := by simpa using (ho 0).symm
    refine ih (k + 1) (ancStep acc o) (by simp [ancStep, hk]) (fun j => by have := ho (j + 1); simpa [Nat.add_assoc, Nat.add_comm 1 j] using this) ?_
    intro j i hi
    unfold ancStep at hi
    rw [List.getD_eq_getElem?_getD] at hi
    by_cases hj : j < acc.length
    · rw [List.getElem?_append_left hj, ← List.getD_eq_getElem?_getD] at hi; exact h j i hi
    · rw [List.getElem?_append_right (by omega)] at hi
      by_cases hj2 : j - acc.length = 0
      · have hjk : j = k := by omega
        rw [hj2] at hi
        simp only [List.getElem?_cons_zero, Option.getD_some] at hi
        subst hjk
        have key : ∀ (es : List Edge) (s : List Nat), (∀ e ∈ es, e ∈ o.after) → (∀ x ∈ s, Anc ops x j) → ∀ x ∈ es.foldl (fun s e => bif Region.binds .any e then e.on :: (acc.getD e.on [] ++ s) else s) s, Anc ops x j := by
          intro es
          induction es with
          | nil => intro s _ hs; exact hs
          | cons e es ihe =>
            intro s he hs
            simp only [List.foldl_cons]
            refine ihe _ (fun e' he' => he e' (by simp [he'])) ?_
            cases hb : Region.binds .any e with
            | false => exact hs
            | true =>
              intro x hx
              simp only [cond_true, List.mem_cons, List.mem_append] at hx
              rcases hx with rfl | hx | hx
              · exact .edge h0 (he e (by simp)) hb
              · exact .trans (h _ _ hx) h0 (he e (by simp)) hb
              · exact hs x hx
        exact key o.after.toList [] (fun e he => by simpa using he) (by simp) i hi
      · have : ([o.after.toList.foldl (fun s e => bif Region.binds .any e then e.on :: (acc.getD e.on [] ++ s) else s) []] : List (List Nat))[j - acc.length]? = none := by
          rw [List.getElem?_eq_none]; simp; omega
        rw [this] at hi; simp at hi
theorem ancs_anc {j i : Nat} (h : i ∈ (ancs ops.toList).getD j []) : Anc ops i j := by
  rw [ancs_eq] at h
  exact ancs_inv ops.toList 0 [] rfl (fun j => by simp) (fun j i hi => by simp at hi) j i h

theorem meets_false {a b : List Key} (h : meets a b = false) {κ : Key} (h1 : κ ∈ a) : κ ∉ b := by
  intro h2
  have : meets a b = true := List.any_eq_true.mpr ⟨κ, h1, List.any_eq_true.mpr ⟨κ, h2, Key.same_self κ⟩⟩
  rw [this] at h; cases h
/-- Feet that leave each other alone. -/
theorem clash_false {f g : Foot} (h : clash f g = false) : (∀ κ, FW f κ → ¬ FR g κ) ∧ (∀ κ, FW f κ → ¬ FW g κ) ∧ (∀ κ, FR f κ → ¬ FW g κ) := by
  unfold clash at h
  simp only [Bool.or_eq_false_iff, Bool.and_eq_false_iff, Bool.not_eq_false', List.all_eq_true] at h
  obtain ⟨⟨⟨⟨⟨⟨⟨h1, h2⟩, h3⟩, h4⟩, h5⟩, h6⟩, h7⟩, h8⟩ := h
  refine ⟨?_, ?_, ?_⟩
  · rintro κ (a | ⟨a, a'⟩) (b | ⟨b, b'⟩)
    · exact meets_false h1 a b
    · rcases h6 with h | h
      · rw [b] at h; cases h
      · have := h κ a; rw [b'] at this; cases this
    · rcases h5 with h | h
      · rw [a] at h; cases h
      · have := h κ b; rw [a'] at this; cases this
    · rcases h8 with h | h
      · rw [a] at h; cases h
      · rw [b] at h; cases h
  · rintro κ (a | ⟨a, a'⟩) (b | ⟨b, b'⟩)
    · exact meets_false h2 a b
    · rcases h6 with h | h
      · rw [b] at h; cases h
      · have := h κ a; rw [b'] at this; cases this
    · rcases h4 with h | h
      · rw [a] at h; cases h
      · have := h κ b; rw [a'] at this; cases this
    · rcases h8 with h | h
      · rw [a] at h; cases h
      · rw [b] at h; cases h
  · rintro κ (a | ⟨a, a'⟩) (b | ⟨b, b'⟩)
    · exact meets_false h3 a b
    · rcases h7 with h | h
      · rw [b] at h; cases h
      · have := h κ a; rw [b'] at this; cases this
    · rcases h4 with h | h
      · rw [a] at h; cases h
      · have := h κ b; rw [a'] at this; cases this
    · rcases h8 with h | h
      · rw [a] at h; cases h
      · rw [b] at h; cases h

open Classical in
/-- The state when the operations D are done. -/
noncomputable def gD (Ss : Nat → Key → Ent) (ft : Nat → Foot) (D : Nat → Prop) : Nat → Key → Ent
  | 0 => Ss 0
  | m + 1 => fun κ => if D m ∧ FW (ft m) κ then Ss (m + 1) κ else gD Ss ft D m κ

theorem gD_pos {Ss : Nat → Key → Ent} {ft : Nat → Foot} {D : Nat → Prop} {m : Nat} {κ : Key} (h : D m ∧ FW (ft m) κ) : gD Ss ft D (m + 1) κ = Ss (m + 1) κ := by
  simp only [gD]; rw [if_pos h]
theorem gD_neg {Ss : Nat → Key → Ent} {ft : Nat → Foot} {D : Nat → Prop} {m : Nat} {κ : Key} (h : ¬ (D m ∧ FW (ft m) κ)) : gD Ss ft D (m + 1) κ = gD Ss ft D m κ := by
  simp only [gD]; rw [if_neg h]

/-- The first n operations of a region's run: what they leave alone. -/
structure Run (ops : Array Oper) (n : Nat) (Ss : Nat → Key → Ent) (ft : Nat → Foot) : Prop where
  frame : ∀ i, i < n → ∀ κ, ¬ FW (ft i) κ → Ss (i + 1) κ = Ss i κ
  apart : ∀ i j, i < j → j < n → Anc ops i j ∨ clash (ft j) (ft i) = false

variable {Ss : Nat → Key → Ent} {ft : Nat → Foot} {n : Nat}
open Classical in
theorem Run.agree (h : Run ops n Ss ft) {D : Nat → Prop} (hD : Closed ops D) {i : Nat} {o : Oper} (hin : i < n) (ho : ops[i]? = some o) (hi : ¬ D i) (hr : ∀ e ∈ o.after, Region.binds .any e = true → D e.on) {κ : Key} (hκ : FR (ft i) κ) :
    gD Ss ft D n κ = Ss i κ := by
  have h1 : ∀ m, m ≤ i → gD Ss ft D m κ = Ss m κ := by
    intro m
    induction m with
    | zero => intro _; rfl
    | succ m ih =>
      intro hm
      show (if D m ∧ FW (ft m) κ then _ else _) = _
      split
      · rfl
      · rename_i hn
        rw [ih (by omega)]
        have hw : ¬ FW (ft m) κ := by
          intro hw
          rcases h.apart m i (by omega) hin with ha | hc
          · exact hn ⟨ha.ready hD ho hr, hw⟩
          · exact (clash_false hc).2.2 κ hκ hw
        have : m < n := by omega
        exact (h.frame m this κ hw).symm
  have h2 : ∀ m, i ≤ m → m ≤ n → gD Ss ft D m κ = gD Ss ft D i κ := by
    intro m
    induction m with
    | zero => intro hm _; rw [show i = 0 by omega]
    | succ m ih =>
      intro hm hm2
      by_cases he : i = m + 1
      · rw [he]
      · show (if D m ∧ FW (ft m) κ then _ else _) = _
        rw [if_neg, ih (by omega) (by omega)]
        rintro ⟨hd, hw⟩
        by_cases hmi : m = i
        · subst hmi; exact hi hd
        · rcases h.apart i m (by omega) (by omega) with ha | hc
          · exact hi (ha.closed hD hd)
          · exact (clash_false hc).1 κ hw hκ
  rw [h2 n (by omega) (Nat.le_refl _), h1 i (Nat.le_refl _)]

open Classical in
theorem Run.next (h : Run ops n Ss ft) {D : Nat → Prop} (hD : Closed ops D) {i : Nat} {o : Oper} (hin : i < n) (ho : ops[i]? = some o) (hi : ¬ D i) :
    upd (ft i) (Ss (i + 1)) (gD Ss ft D n) = gD Ss ft (fun j => D j ∨ j = i) n := by
  funext κ
  unfold upd
  split
  · rename_i hw
    have h2 : ∀ m, i + 1 ≤ m → m ≤ n → gD Ss ft (fun j => D j ∨ j = i) m κ = Ss (i + 1) κ := by
      intro m
      induction m with
      | zero => intro hm _; omega
      | succ m ih =>
        intro hm hm2
        by_cases hmi : m = i
        · subst hmi; rw [gD_pos ⟨.inr rfl, hw⟩]
        · rw [gD_neg, ih (by omega) (by omega)]
          rintro ⟨hd | hd, hw'⟩
          · rcases h.apart i m (by omega) (by omega) with ha | hc
            · exact hi (ha.closed hD hd)
            · exact (clash_false hc).2.1 κ hw' hw
          · exact hmi hd
    exact (h2 n (by omega) (Nat.le_refl _)).symm
  · rename_i hw
    have : ∀ m, gD Ss ft D m κ = gD Ss ft (fun j => D j ∨ j = i) m κ := by
      intro m
      induction m with
      | zero => rfl
      | succ m ih =>
        by_cases hmi : m = i
        · subst hmi
          rw [gD_neg (fun x => hw x.2), gD_neg (fun x => hw x.2), ih]
        · by_cases hd : D m ∧ FW (ft m) κ
          · rw [gD_pos hd, gD_pos ⟨.inl hd.1, hd.2⟩]
          · rw [gD_neg hd, gD_neg (fun x => hd ⟨x.1.resolve_right hmi, x.2⟩), ih]
    exact this _

open Classical in
theorem gD_all (h : Run ops n Ss ft) {D : Nat → Prop} (hD : ∀ i, i < n → D i) : gD Ss ft D n = Ss n := by
  have : ∀ m, m ≤ n → gD Ss ft D m = Ss m := by
    intro m
    induction m with
    | zero => intro _; rfl
    | succ m ih =>
      intro hm
      funext κ
      show (if D m ∧ FW (ft m) κ then _ else _) = _
      split
      · rfl
      · rename_i hn
        rw [ih (by omega)]
        have hm' : m < n := by omega
        exact (h.frame m hm' κ (fun hw => hn ⟨hD m hm', hw⟩)).symm
  exact this _ (Nat.le_refl _)
open Classical in
theorem gD_keep (h : Run ops n Ss ft) {D : Nat → Prop} {κ : Key} : ∀ m, m ≤ n → (∀ j, j < m → ¬ D j → ¬ FW (ft j) κ) → gD Ss ft D m κ = Ss m κ
  | 0, _, _ => rfl
  | m + 1, hm, hd => by
    show (if D m ∧ FW (ft m) κ then _ else _) = _
    split
    · rfl
    · rename_i hn
      rw [gD_keep h m (by omega) (fun j hj => hd j (by omega))]
      refine (h.frame m (by omega) κ fun hw => ?_).symm
      by_cases hD : D m
      · exact hn ⟨hD, hw⟩
      · exact hd m (by omega) hD hw
open Classical in
theorem gD_none {D : Nat → Prop} (hD : ∀ i, ¬ D i) : ∀ m, gD Ss ft D m = Ss 0
  | 0 => rfl
  | m + 1 => by
    funext κ
    show (if D m ∧ FW (ft m) κ then _ else _) = _
    rw [if_neg (fun x => hD m x.1), gD_none hD m]
end
end Go.Proofs.YtgeheffhdpeddaaDoor.VX

/- REGIONS: the machine's wp of a region, in the text's order or in any. Conditions: as each theorem states. -/
namespace Go.Proofs.YtgeheffhdpeddaaDoor.VX
open Go Go.RowKit

section
variable {P : Program} {W : World → Prop} {B : Base} {D : List Deferred} {susp : Exs} {nt : Nat} {ops : Array Oper} {Ss : Nat → Key → Ent} {ft : Nat → Foot}

theorem Seq.run : ∀ {l : List Oper} {i : Nat} {g : Key → Ent} {fs : List Foot} {gn : Key → Ent}, Seq P W nt ops l i g fs gn →
    fs.length = l.length ∧ ∃ (Ss : Nat → Key → Ent) (ft : Nat → Foot), Ss 0 = g ∧ Ss l.length = gn ∧ (∀ (j : Nat) (f : Foot), fs[j]? = some f → ft j = f ∧ f.i = i + j) ∧ ∀ (j : Nat) (o : Oper), l[j]? = some o → StepOK P W nt ops o (Ss j) none (Ss (j + 1)) (ft j) := by
  intro l
  induction l with
  | nil => intro i g fs gn h; cases h; exact ⟨rfl, fun _ => g, fun _ => ⟨0, false, [], []⟩, rfl, rfl, fun j f h => by simp at h, fun j o h => by simp at h⟩
  | cons o l ih =>
    intro i g fs gn h
    cases h with
    | @cons _ _ _ _ g1 _ f fs h1 h2 h3 =>
      obtain ⟨k0, Ss, ft, k1, k2, k3, k4⟩ := ih h3
      refine ⟨by simp [k0], fun j => match j with | 0 => g | j + 1 => Ss j, fun j => match j with | 0 => f | j + 1 => ft j, rfl, k2, ?_, ?_⟩
      · intro j f' hf
        cases j with
        | zero => simp at hf; subst hf; exact ⟨rfl, h2⟩
        | succ j => have := k3 j f' (by simpa using hf); exact ⟨this.1, by rw [this.2]; omega⟩
      · intro j o' ho
        cases j with
        | zero => simp at ho; subst ho; simp only [k1]; exact h1
        | succ j => exact k4 j o' (by simpa using ho)

theorem apartAll_pw {an : List (List Nat)} : ∀ {l : List Foot}, apartAll an l = true → l.Pairwise fun f g => g.i ∈ an.getD f.i [] ∨ clash f g = false
  | [], _ => .nil
  | f :: l, h => by
    simp only [apartAll, Bool.and_eq_true, List.all_eq_true] at h
    refine .cons (fun g hg => ?_) (apartAll_pw h.2)
    have := h.1 g hg
    simp only [Bool.or_eq_true, List.any_eq_true, Bool.not_eq_true'] at this
    rcases this with ⟨x, hx, e⟩ | h
    · rw [Nat.eq_of_beq_eq_true e]; exact .inl hx
    · exact .inr h

theorem edgesBack_spec : ∀ {l : List Oper} {i : Nat}, edgesBack i l = true → ∀ j o, l[j]? = some o → ∀ e ∈ o.after, Region.binds .any e = true → e.on < i + j
  | [], _, _, j, o, h, _, _, _ => by simp at h
  | o0 :: l, i, h, j, o, ho, e, he, hb => by
    simp only [edgesBack, Bool.and_eq_true, List.all_eq_true] at h
    cases j with
    | zero =>
      simp at ho; subst ho
      have := h.1 e (by simpa using he)
      rw [hb] at this
      simp only [Bool.not_true, Bool.false_or] at this
      have := Nat.blt_eq.mp this
      omega
    | succ j =>
      have := edgesBack_spec h.2 j o (by simpa using ho) e he hb
      omega

theorem filter_lt {α : Type} {p q : α → Bool} {i : α} : ∀ {l : List α}, (∀ j, q j = true → p j = true) → i ∈ l → p i = true → q i = false → (l.filter q).length < (l.filter p).length
  | [], _, h, _, _ => by simp at h
  | x :: l, hpq, hi, hp, hq => by
    have hle : ∀ l : List α, (l.filter q).length ≤ (l.filter p).length := by
      intro l
      induction l with
      | nil => simp
      | cons y l ih =>
        rw [List.filter_cons, List.filter_cons]
        cases hy : q y with
        | true => rw [hpq y hy]; simpa using ih
        | false =>
          cases p y with
          | true => simp only [Bool.false_eq_true, if_false, if_true, List.length_cons]; omega
          | false => simpa using ih
    rw [List.filter_cons, List.filter_cons]
    by_cases hx : x = i
    · subst hx
      have := hle l
      rw [hp, hq]
      simp only [Bool.false_eq_true, if_false, if_true, List.length_cons]; omega
    · have ih := filter_lt (l := l) hpq (by simpa [Ne.symm hx] using hi) hp hq
      cases hy : q x with
      | true => rw [hpq x hy]; simp only [if_true, List.length_cons]; omega
      | false =>
        cases p x with
        | true => simp only [Bool.false_eq_true, if_false, if_true, List.length_cons]; omega
        | false => simpa using ih

def openAt (listed : Array Bool) (i : Nat) : Bool := !listed.getD i true
def cnt (ops : Array Oper) (listed : Array Bool) : Nat := ((List.range ops.size).filter (openAt listed)).length

theorem any_wp (hB : WB W B) {Q : Exit → Act → World → Prop} (h : Run ops ops.size Ss ft) (hst : ∀ i o, ops[i]? = some o → StepOK P W nt ops o (Ss i) none (Ss (i + 1)) (ft i)) (he : ∀ j o, ops[j]? = some o → ∀ e ∈ o.after, Region.binds .any e = true → e.on < j) (hQ : ∀ a w, Good B D susp nt (Ss ops.size) a w → Q .normal a w) :
    ∀ (fuel : Nat) (listed : Array Bool) (a : Act) (w : World), listed.size = ops.size → cnt ops listed ≤ fuel → Closed ops (fun j => listed.getD j false = true) → Good B D susp nt (gD Ss ft (fun j => listed.getD j false = true) ops.size) a w → wpAny P .any ops Q fuel listed a w := by
  have hnil : ∀ (listed : Array Bool) (a : Act) (w : World), listed.size = ops.size → Region.ready .any ops listed = [] → Good B D susp nt (gD Ss ft (fun j => listed.getD j false = true) ops.size) a w → Q .normal a w := by
    intro listed a w hsz hr hg
    refine hQ a w ?_
    rw [gD_all h] at hg
    · exact hg
    · intro i
      induction i using Nat.strongRecOn with
      | _ i ih =>
        intro hi
        cases hl : listed.getD i false with
        | true => rfl
        | false =>
          have hlt : i < listed.size := by omega
          have hm : i ∈ Region.ready .any ops listed := by
            rw [mem_ready]
            refine ⟨by simpa [hlt] using hl, ops[i], by simp [hi], fun e h1 h2 => ?_⟩
            have := he i ops[i] (by simp [hi]) e h1 h2
            exact ih e.on this (by omega)
          rw [hr] at hm; cases hm
  intro fuel
  induction fuel with
  | zero =>
    intro listed a w hsz hc hD hg
    have hr : Region.ready .any ops listed = [] := by
      cases hx : Region.ready .any ops listed with
      | nil => rfl
      | cons i r =>
        have hm : i ∈ Region.ready .any ops listed := by rw [hx]; simp
        obtain ⟨k1, o, k2, _⟩ := mem_ready.mp hm
        have hlt : i < ops.size := (Array.getElem?_eq_some_iff.1 k2).1
        have : i ∈ (List.range ops.size).filter (openAt listed) := List.mem_filter.mpr ⟨List.mem_range.mpr hlt, by rw [openAt, k1]; rfl⟩
        have := List.length_pos_of_mem this
        unfold cnt at hc
        omega
    exact ⟨hr, hnil listed a w hsz hr hg⟩
  | succ fuel ih =>
    intro listed a w hsz hc hD hg
    refine ⟨fun hr => hnil listed a w hsz hr hg, fun i hi => ?_⟩
    obtain ⟨k1, o, k2, k3⟩ := mem_ready.mp hi
    have hlt : i < ops.size := (Array.getElem?_eq_some_iff.1 k2).1
    have hlt' : i < listed.size := by omega
    have hni : ¬ listed.getD i false = true := by
      have : listed.getD i false = false := by simpa [hlt'] using k1
      rw [this]; simp
    have hset : (fun j => (listed.setIfInBounds i true).getD j false = true) = fun j => listed.getD j false = true ∨ j = i := by
      funext j
      apply propext
      by_cases hji : i = j
      · subst hji; simp [hlt']
      · rw [getD_set_ne false hji]; simp [Ne.symm hji]
    unfold wpOp
    rw [k2]
    refine (hst i o k2).2 B D susp hB _ a w (fun κ hκ => h.agree hD hlt k2 hni k3 hκ) hg Q _ fun a' w' (hg' : Good B D susp nt _ a' w') => ?_
    rw [h.next hD hlt k2 hni, ← hset] at hg'
    refine ih _ a' w' (by simpa using hsz) ?_ ?_ hg'
    · have : cnt ops (listed.setIfInBounds i true) < cnt ops listed := by
        refine filter_lt (i := i) (fun j hj => ?_) (List.mem_range.mpr hlt) (by rw [openAt, k1]; rfl) (by simp [openAt, hlt'])
        by_cases hji : i = j
        · subst hji; simp [openAt, hlt'] at hj
        · unfold openAt at hj ⊢; rw [getD_set_ne true hji] at hj; exact hj
      omega
    · rw [hset]
      intro j o' hj ho e h1 h2
      rcases hj with hj | rfl
      · exact .inl (hD j o' hj ho e h1 h2)
      · rw [k2] at ho; cases ho; exact .inl (k3 e h1 h2)

/-- One of the operations panics, whatever order is drawn. -/
theorem any_wp_pan (hB : WB W B) {Q : Exit → Act → World → Prop} {i0 : Nat} (h0 : i0 < ops.size) (h : Run ops (i0 + 1) Ss ft) (hst : ∀ i o, i < i0 → ops[i]? = some o → StepOK P W nt ops o (Ss i) none (Ss (i + 1)) (ft i))
    {v : AV} (hp : ∀ o, ops[i0]? = some o → StepOK P W nt ops o (Ss i0) (some v) (Ss (i0 + 1)) (ft i0))
    (hb : ∀ j, j < i0 → Anc ops j i0 ∨ ∀ κ, FW (ft j) κ → isT κ = true) (ha : ∀ j, i0 < j → j < ops.size → Anc ops i0 j)
    (he : ∀ j o, ops[j]? = some o → ∀ e ∈ o.after, Region.binds .any e = true → e.on < j) (hQ : ∀ u a w, PGood B D susp (Ss (i0 + 1)) v u a w → Q (.panic [{ v := u, recovered := false }]) a w) :
    ∀ (fuel : Nat) (listed : Array Bool) (a : Act) (w : World), listed.size = ops.size → cnt ops listed ≤ fuel → listed.getD i0 false = false → Closed ops (fun j => listed.getD j false = true) → Good B D susp nt (gD Ss ft (fun j => listed.getD j false = true) (i0 + 1)) a w → wpAny P .any ops Q fuel listed a w := by
  have hnil : ∀ (listed : Array Bool), listed.size = ops.size → listed.getD i0 false = false → Region.ready .any ops listed = [] → False := by
    intro listed hsz hn hr
    have : ∀ i, i < ops.size → listed.getD i false = true := by
      intro i
      induction i using Nat.strongRecOn with
      | _ i ih =>
        intro hi
        cases hl : listed.getD i false with
        | true => rfl
        | false =>
          have hlt : i < listed.size := by omega
          have hm : i ∈ Region.ready .any ops listed := by
            rw [mem_ready]
            refine ⟨by simpa [hlt] using hl, ops[i], by simp [hi], fun e h1 h2 => ?_⟩
            have := he i ops[i] (by simp [hi]) e h1 h2
            exact ih e.on this (by omega)
          rw [hr] at hm; cases hm
    rw [this i0 h0] at hn; cases hn
  intro fuel
  induction fuel with
  | zero =>
    intro listed a w hsz hc hn hD hg
    exfalso
    have hlt' : i0 < listed.size := by omega
    have : i0 ∈ (List.range ops.size).filter (openAt listed) := List.mem_filter.mpr ⟨List.mem_range.mpr h0, by
      have : listed.getD i0 true = false := by simpa [hlt'] using hn
      rw [openAt, this]; rfl⟩
    have := List.length_pos_of_mem this
    unfold cnt at hc
    omega
  | succ fuel ih =>
    intro listed a w hsz hc hn hD hg
    refine ⟨fun hr => (hnil listed hsz hn hr).elim, fun i hi => ?_⟩
    obtain ⟨k1, o, k2, k3⟩ := mem_ready.mp hi
    have hlt : i < ops.size := (Array.getElem?_eq_some_iff.1 k2).1
    have hlt' : i < listed.size := by omega
    have hni : ¬ listed.getD i false = true := by
      have : listed.getD i false = false := by simpa [hlt'] using k1
      rw [this]; simp
    have hle : i ≤ i0 := by
      rcases Nat.lt_or_ge i0 i with hgt | hle
      · have := (ha i hgt hlt).ready hD k2 k3
        rw [hn] at this; cases this
      · exact hle
    unfold wpOp
    rw [k2]
    by_cases hi0 : i = i0
    · subst hi0
      refine (hp o k2).2 B D susp hB _ a w (fun κ hκ => h.agree hD (Nat.lt_succ_self i) k2 hni k3 hκ) hg Q _ fun u a' w' hg' => ?_
      obtain ⟨hd, ι, T, st, hI⟩ := hg'
      have hkey : ∀ κ, isT κ = false → Ss (i + 1) κ = upd (ft i) (Ss (i + 1)) (gD Ss ft (fun j => listed.getD j false = true) (i + 1)) κ := by
        intro κ hκ
        unfold upd
        split
        · rfl
        · rename_i hw
          rw [gD_neg (fun x => hw x.2), h.frame i (Nat.lt_succ_self i) κ hw]
          refine (gD_keep h i (Nat.le_succ i) fun j hj hdj hwj => ?_).symm
          rcases hb j hj with hx | hx
          · exact hdj (hx.ready hD k2 k3)
          · rw [hx κ hwj] at hκ; cases hκ
      exact hQ u a' w' ⟨hd, ι, T, st, hI.keys (fun id => hkey _ rfl) (fun l => hkey _ rfl) (fun id => hkey _ rfl)⟩
    · have hlt0 : i < i0 := by omega
      have hset : (fun j => (listed.setIfInBounds i true).getD j false = true) = fun j => listed.getD j false = true ∨ j = i := by
        funext j
        apply propext
        by_cases hji : i = j
        · subst hji; simp [hlt']
        · rw [getD_set_ne false hji]; simp [Ne.symm hji]
      refine (hst i o hlt0 k2).2 B D susp hB _ a w (fun κ hκ => h.agree hD (by omega) k2 hni k3 hκ) hg Q _ fun a' w' (hg' : Good B D susp nt _ a' w') => ?_
      rw [h.next hD (by omega) k2 hni, ← hset] at hg'
      refine ih _ a' w' (by simpa using hsz) ?_ ?_ ?_ hg'
      · have : cnt ops (listed.setIfInBounds i true) < cnt ops listed := by
          refine filter_lt (i := i) (fun j hj => ?_) (List.mem_range.mpr hlt) (by rw [openAt, k1]; rfl) (by simp [openAt, hlt'])
          by_cases hji : i = j
          · subst hji; simp [openAt, hlt'] at hj
          · unfold openAt at hj ⊢; rw [getD_set_ne true hji] at hj; exact hj
        omega
      · rw [getD_set_ne false hi0]; exact hn
      · rw [hset]
        intro j o' hj ho e h1 h2
        rcases hj with hj | rfl
        · exact .inl (hD j o' hj ho e h1 h2)
        · rw [k2] at ho; cases ho; exact .inl (k3 e h1 h2)

theorem Good.drew {g : Key → Ent} {a : Act} {w : World} (h : Good B D susp nt g a w) : Good B D susp nt g a { w with drawn := w.drawn + 1 } := by
  obtain ⟨hd, hs, ι, T, st, hI⟩ := h
  exact ⟨hd, hs, ι, T, st, hI.grow0 (w' := { w with drawn := w.drawn + 1 }) ⟨rfl, rfl, rfl, Nat.le_refl _, fun _ _ => rfl⟩⟩
theorem Good.x {S : St} {e : Ent} {a : Act} {w : World} (h : Good B D susp nt S.at a w) : Good B D susp nt (St.at ((.x, e) :: S)) a w := by
  obtain ⟨hd, hs, ι, T, st, hI⟩ := h
  refine ⟨hd, hs, ι, T, st, (hI.keys (g' := St.at ((.x, e) :: S)) (fun _ => rfl) (fun _ => rfl) (fun _ => rfl)).exs fun v lab u hx => ?_⟩
  rcases hx with ⟨t, ht, hu⟩ | hx
  · exact .inl (.inl ⟨t, ht, hu⟩)
  · exact .inl (.inr hx)

/-- How a piece of code comes out. -/
def PostX (B : Base) (D : List Deferred) (susp : Exs) (nt : Nat) (ex : Ex) (S' : St) (e : Exit) (a : Act) (w : World) : Prop :=
  match ex with
  | .normal => e = .normal ∧ Good B D susp nt S'.at a w
  | .exit id => e = .exit id ∧ Good B D susp nt S'.at a w
  | .ret => e = .ret ∧ Good B D susp nt S'.at a w
  | .pan v => ∃ u, e = .panic [{ v := u, recovered := false }] ∧ PGood B D susp S'.at v u a w

theorem foot_run {l : List Oper} {fs : List Foot} (k0 : fs.length = l.length) (k3 : ∀ (j : Nat) (f : Foot), fs[j]? = some f → ft j = f ∧ f.i = 0 + j) {an : List (List Nat)} (han : ∀ j i, i ∈ an.getD j [] → Anc ops i j) (hpw : apartAll an fs.reverse = true) : ∀ i j, i < j → j < l.length → Anc ops i j ∨ clash (ft j) (ft i) = false := by
  have hpw := List.pairwise_reverse.mp (apartAll_pw hpw)
  rw [List.pairwise_iff_getElem] at hpw
  intro i j hij hj
  have hj' : j < fs.length := by omega
  have hi' : i < fs.length := by omega
  have ei := k3 i fs[i] (by simp [hi'])
  have ej := k3 j fs[j] (by simp [hj'])
  have := hpw i j hi' hj' hij
  rw [ei.1, ej.1]
  rcases this with h | h
  · rw [ei.2, ej.2, Nat.zero_add, Nat.zero_add] at h
    exact .inl (han _ _ h)
  · exact .inr h

theorem PGood.nonT {S : St} {v : AV} {u : Value} {a : Act} {w : World} (h : PGood B D susp S.at v u a w) : PGood B D susp (St.at (nonT S)) v u a w := by
  obtain ⟨hd, ι, T, st, hI⟩ := h
  exact ⟨hd, ι, T, st, hI.keys (fun id => nonT_at rfl) (fun l => nonT_at rfl) (fun id => nonT_at rfl)⟩

/-- A REGION. -/
theorem regionA_ok {R : Type} {cf : FuncId → List AV → (AV → Option R) → Option R} {ci : FuncId → List AV → St → (Oc → St → Option R) → Option R} {inl : FuncId → Option Bool} {G : Globs} (hP : ProgOK P) (hG : ∀ w, W w → GlobOK G w) (hcf : ∀ f args K r, cf f args K = some r → ∃ v, K v = some r ∧ CallG P W f args v)
    (hci : ∀ f args S K r, ci f args S K = some r → ∃ v S', K v S' = some r ∧ InlOK P W f args S v S') {id : Nat} {draw : Bool} {S : St} {K : Ex → St → Option R} {r : R}
    (hd : dstsOK nt (.region id ops draw) = true) (h : regionA P cf ci inl G ops.toList draw S K = some r) :
    ∃ ex Sn, K ex Sn = some r ∧ ∀ B D susp, WB W B → ∀ a w, Good B D susp nt S.at a w → (Code.region id ops draw).wp P (PostX B D susp nt ex Sn) a w := by
  simp only [dstsOK, Bool.and_eq_true, List.all_eq_true] at hd
  unfold regionA at h
  split at h
  · cases h
  rename_i base _
  have hback : ∀ j o, ops[j]? = some o → ∀ e ∈ o.after, Region.binds .any e = true → e.on < j := fun j o ho e h1 h2 => by have := edgesBack_spec hd.2 j o (by simpa using ho) e h1 h2; omega
  have hcnt : cnt ops (Array.replicate ops.size false) ≤ ops.size := by
    have := List.length_filter_le (openAt (Array.replicate ops.size false)) (List.range ops.size)
    rw [List.length_range] at this
    exact this
  have hnone : ∀ j, (Array.replicate ops.size false).getD j false = false := by
    intro j
    by_cases hjs : j < ops.size
    · simp [hjs]
    · simp [hjs]
  rcases opsA_ok (nt := nt) hP hG hcf hci (fun o ho d hd' => by
    have := hd.1 o ho
    rw [hd'] at this
    exact Nat.blt_eq.mp this) h with ⟨Sn, fs, h1, h2⟩ | ⟨l1, o, l2, v, fs, S1, Sp, f, hl, h1, h2, hfi, hp⟩
  · rw [List.append_nil] at h1
    simp only at h1
    cases hx : (!draw || apartAll (ancs ops.toList) fs.reverse) with
    | false => rw [hx] at h1; cases h1
    | true =>
      rw [hx] at h1
      refine ⟨.normal, Sn, h1, fun B D susp hB a w hg => ?_⟩
      cases draw with
      | false =>
        refine wp_region ?_
        have := seq_wp hB (Q := PostX B D susp nt .normal Sn) h2 (fun j => by simp) (fun a w hg => ⟨rfl, hg⟩) (hg.x (e := .num (base + ops.toList.length)))
        rw [List.range_eq_range']
        simpa using this
      | true =>
        obtain ⟨k0, Ss, ft, k1, k2, k3, k4⟩ := h2.run
        have hstep : ∀ i o, ops[i]? = some o → StepOK P W nt ops o (Ss i) none (Ss (i + 1)) (ft i) := fun i o ho => k4 i o (by simpa using ho)
        have hrun : Run ops ops.size Ss ft :=
          ⟨fun i hi κ hκ => (hstep i ops[i] (by simp [hi])).1 κ hκ, fun i j hij hj => foot_run k0 k3 (fun _ _ => ancs_anc) (by simpa using hx) i j hij (by simpa using hj)⟩
        refine wp_region_any hP.mixed (any_wp hB hrun hstep hback (fun a w hg => ⟨rfl, by rw [← k2]; simpa using hg⟩) ops.size _ a _ (by simp) hcnt (fun j o (hj : (Array.replicate ops.size false).getD j false = true) => by rw [hnone] at hj; cases hj) ?_)
        rw [gD_none]
        · rw [k1]; exact (hg.x).drew
        · intro j; rw [hnone]; simp
  · rw [List.append_nil] at h1
    simp only at h1
    cases hx : (!draw || (apartAll (ancs ops.toList) (f :: fs.reverse) && panOK (ancs ops.toList) ops.toList.length (f :: fs.reverse))) with
    | false => rw [hx] at h1; cases h1
    | true =>
      rw [hx] at h1
      refine ⟨.pan v, nonT Sp, h1, fun B D susp hB a w hg => ?_⟩
      have hQ : ∀ u a w, PGood B D susp Sp.at v u a w → PostX B D susp nt (.pan v) (nonT Sp) (.panic [{ v := u, recovered := false }]) a w := fun u a w hg => ⟨u, rfl, hg.nonT⟩
      cases draw with
      | false =>
        refine wp_region ?_
        have := seq_wp_pan hB (Q := PostX B D susp nt (.pan v) (nonT Sp)) hp hQ (l2 := l2) h2 (fun j => by rw [← hl]; simp) (hg.x (e := .num (base + ops.toList.length)))
        rw [List.range_eq_range']
        rw [← hl] at this
        simpa using this
      | true =>
        simp only [Bool.not_true, Bool.false_or, Bool.and_eq_true] at hx
        obtain ⟨hx1, hx2⟩ := hx
        obtain ⟨k0, Ss, ft, k1, k2, k3, k4⟩ := h2.run
        have hfi' : f.i = l1.length := by omega
        have hsz : ops.size = l1.length + 1 + l2.length := by
          have := congrArg List.length hl
          simp at this; omega
        -- the run with the one that panics
        let Ss' : Nat → Key → Ent := fun j => if j = l1.length + 1 then Sp.at else Ss j
        let ft' : Nat → Foot := fun j => if j = l1.length then f else ft j
        have s1 : ∀ j, j ≤ l1.length → Ss' j = Ss j := fun j hj => if_neg (by omega)
        have s2 : Ss' (l1.length + 1) = Sp.at := if_pos rfl
        have f1 : ∀ j, j < l1.length → ft' j = ft j := fun j hj => if_neg (by omega)
        have f2 : ft' l1.length = f := if_pos rfl
        have hops : ∀ j, j < l1.length → ∀ o', ops[j]? = some o' → l1[j]? = some o' := fun j hj o' ho => by
          have : ops.toList[j]? = some o' := by simpa using ho
          rw [hl, List.getElem?_append_left hj] at this; exact this
        have hopi : ∀ o', ops[l1.length]? = some o' → o' = o := fun o' ho => by
          have : ops.toList[l1.length]? = some o' := by simpa using ho
          rw [hl] at this; simpa using this.symm
        have hstep : ∀ i o, i < l1.length → ops[i]? = some o → StepOK P W nt ops o (Ss' i) none (Ss' (i + 1)) (ft' i) := fun i o' hi ho => by
          rw [s1 i (by omega), s1 (i + 1) (by omega), f1 i hi]; exact k4 i o' (hops i hi o' ho)
        have hpan : ∀ o', ops[l1.length]? = some o' → StepOK P W nt ops o' (Ss' l1.length) (some v) (Ss' (l1.length + 1)) (ft' l1.length) := fun o' ho => by
          rw [hopi o' ho, s1 _ (Nat.le_refl _), s2, f2, k2]; exact hp
        have hk3 : ∀ (j : Nat) (g : Foot), (fs ++ [f])[j]? = some g → ft' j = g ∧ g.i = 0 + j := fun j g hg => by
          rcases Nat.lt_or_ge j fs.length with hj | hj
          · rw [List.getElem?_append_left hj] at hg
            rw [f1 j (by omega)]; exact k3 j g hg
          · rw [List.getElem?_append_right hj] at hg
            have hj0 : j - fs.length = 0 := by
              rcases Nat.eq_zero_or_pos (j - fs.length) with h | h
              · exact h
              · rw [List.getElem?_eq_none (by simp; omega)] at hg; cases hg
            rw [hj0] at hg
            simp at hg
            subst hg
            have hjl : j = l1.length := by omega
            rw [hjl, f2]; exact ⟨rfl, by omega⟩
        have hlt0 : l1.length < ops.size := by omega
        have hrun : Run ops (l1.length + 1) Ss' ft' := by
          refine ⟨fun i hi κ hκ => ?_, fun i j hij hj => foot_run (l := l1 ++ [o]) (fs := fs ++ [f]) (by simp [k0]) hk3 (fun _ _ => ancs_anc) (by simpa using hx1) i j hij (by simpa using hj)⟩
          rcases Nat.lt_or_ge i l1.length with h | h
          · exact (hstep i ops[i] h (by simp)).1 κ hκ
          · obtain rfl : i = l1.length := by omega
            exact (hpan ops[l1.length] (by simp)).1 κ hκ
        simp only [panOK, Bool.and_eq_true, List.all_eq_true] at hx2
        obtain ⟨⟨⟨p1, p2⟩, p3⟩, p4⟩ := hx2
        have hanlen : (ancs ops.toList).length = ops.size := by have := Nat.eq_of_beq_eq_true p3; simpa using this
        refine wp_region_any hP.mixed (any_wp_pan hB hlt0 hrun hstep hpan (fun j hj => ?_) (fun j hj hjs => ?_) hback (fun u a w hg => hQ u a w (by rw [s2] at hg; exact hg)) ops.size _ a _ (by simp) hcnt (hnone _) (fun j o (hj : (Array.replicate ops.size false).getD j false = true) => by rw [hnone] at hj; cases hj) ?_)
        · have hjf : j < fs.length := by omega
          have e := k3 j fs[j] (by simp [hjf])
          have := p1 fs[j] (by simp)
          rw [f1 j hj, e.1]
          simp only [Bool.or_eq_true, List.any_eq_true, Bool.and_eq_true, Bool.not_eq_true', List.all_eq_true] at this
          rcases this with ⟨x, hx, ex⟩ | ⟨x1, x2⟩
          · refine .inl (ancs_anc ?_)
            have := Nat.eq_of_beq_eq_true ex
            rw [hfi'] at hx
            rw [← this, e.2] at hx
            simpa using hx
          · right
            rintro κ (hκ | ⟨hκ, _⟩)
            · exact x2 κ hκ
            · rw [x1] at hκ; cases hκ
        · have hjl : j < (ancs ops.toList).length := by omega
          have := p2 ((ancs ops.toList)[j]) (by
            rw [List.mem_drop_iff_getElem]
            exact ⟨j - (f.i + 1), by omega, by congr 1; omega⟩)
          simp only [List.any_eq_true] at this
          obtain ⟨x, hx, ex⟩ := this
          refine ancs_anc ?_
          have ex := Nat.eq_of_beq_eq_true ex
          rw [← hfi', ex, List.getD_eq_getElem?_getD, List.getElem?_eq_getElem hjl]
          exact hx
        · rw [gD_none]
          · rw [s1 0 (Nat.zero_le _), k1]; exact (hg.x).drew
          · intro j; rw [hnone]; simp
end
end Go.Proofs.YtgeheffhdpeddaaDoor.VX

/- THE ONE FORM OF A STATE at a loop's head says nothing but what the state said. Conditions: as each theorem states. -/
namespace Go.Proofs.YtgeheffhdpeddaaDoor.VX
open Go Go.RowKit

mutual
theorem VRel.refs {st : Cells} {w : World} {ι ι' : Inj} {keep : List Nat} (hk : ∀ id b, id < HID → id ∈ keep → ι id = some b → ι' id = some b) : ∀ (v : AV) (u : Value), refsIn keep v = true → VRel st w ι v u → VRel st w ι' v u
  | .int _ _, _, _, h => h
  | .u8 _, _, _, h => h
  | .bool _, _, _, h => h
  | .str _, _, _, h => h
  | .raw _, _, _, h => h
  | .top, _, _, _ => trivial
  | .view _ _, _, _, h => h
  | .part _ _ _, _, _, h => h
  | .cptr _ _, _, _, h => h
  | .ptr id _, _, p, h => by
    obtain ⟨b, h1, h2⟩ := h
    have p : keep.any (Nat.beq id) = true := by simpa only [refsIn] using p
    obtain ⟨x, hx, e⟩ := List.any_eq_true.mp p
    exact ⟨b, ⟨hk id b h1.2 (by rw [Nat.eq_of_beq_eq_true e]; exact hx) h1.1, h1.2⟩, h2⟩
  | .agg cs, _, p, h => by
    obtain ⟨us, e, o, h⟩ := h
    exact ⟨us, e, o, VRels.refs hk cs _ (by simpa only [refsIn] using p) h⟩
  | .tup cs, _, p, h => by
    obtain ⟨us, e, h⟩ := h
    exact ⟨us, e, VRels.refs hk cs _ (by simpa only [refsIn] using p) h⟩
  | .fn _ l c, _, p, h => by
    obtain ⟨l', c', e, h1, h2⟩ := h
    have p : refsIn.all keep l = true ∧ refsIn.all keep c = true := by simpa only [refsIn, Bool.and_eq_true] using p
    exact ⟨l', c', e, VRels.refs hk l _ p.1 h1, VRels.refs hk c _ p.2 h2⟩
  | .iface _ x, _, p, h => by
    obtain ⟨v, e, h⟩ := h
    exact ⟨v, e, VRel.refs hk x _ (by simpa only [refsIn] using p) h⟩
theorem VRels.refs {st : Cells} {w : World} {ι ι' : Inj} {keep : List Nat} (hk : ∀ id b, id < HID → id ∈ keep → ι id = some b → ι' id = some b) : ∀ (cs : List AV) (us : List Value), refsIn.all keep cs = true → VRels st w ι cs us → VRels st w ι' cs us
  | [], _, _, h => h
  | c :: cs, _, p, h => by
    obtain ⟨v, vs, e, h1, h2⟩ := h
    have p : refsIn keep c = true ∧ refsIn.all keep cs = true := by simpa only [refsIn.all, Bool.and_eq_true] using p
    exact ⟨v, vs, e, VRel.refs hk c _ p.1 h1, VRels.refs hk cs _ p.2 h2⟩
end
mutual
theorem VRel.leans {st : Cells} {w : World} {ι : Inj} {keep : List Nat} (hk : ∀ id b, id < HID → ι id = some b → id ∈ keep) : ∀ (v : AV) (u : Value), VRel st w ι v u → refsIn keep v = true
  | .int _ _, _, _ => rfl
  | .u8 _, _, _ => rfl
  | .bool _, _, _ => rfl
  | .str _, _, _ => rfl
  | .raw _, _, _ => rfl
  | .top, _, _ => rfl
  | .view _ _, _, _ => rfl
  | .part _ _ _, _, _ => rfl
  | .cptr _ _, _, _ => rfl
  | .ptr id _, _, h => by
    obtain ⟨b, h1, h2⟩ := h
    simp only [refsIn]
    exact List.any_eq_true.mpr ⟨id, hk id b h1.2 h1.1, by simp⟩
  | .agg cs, _, h => by
    obtain ⟨us, e, o, h⟩ := h
    simp only [refsIn]; exact VRels.leans hk cs _ h
  | .tup cs, _, h => by
    obtain ⟨us, e, h⟩ := h
    simp only [refsIn]; exact VRels.leans hk cs _ h
  | .fn _ l c, _, h => by
    obtain ⟨l', c', e, h1, h2⟩ := h
    simp only [refsIn, Bool.and_eq_true]
    exact ⟨VRels.leans hk l _ h1, VRels.leans hk c _ h2⟩
  | .iface _ x, _, h => by
    obtain ⟨v, e, h⟩ := h
    simp only [refsIn]; exact VRel.leans hk x _ h
theorem VRels.leans {st : Cells} {w : World} {ι : Inj} {keep : List Nat} (hk : ∀ id b, id < HID → ι id = some b → id ∈ keep) : ∀ (cs : List AV) (us : List Value), VRels st w ι cs us → refsIn.all keep cs = true
  | [], _, _ => rfl
  | c :: cs, _, h => by
    obtain ⟨v, vs, e, h1, h2⟩ := h
    simp only [refsIn.all, Bool.and_eq_true]
    exact ⟨VRel.leans hk c _ h1, VRels.leans hk cs _ h2⟩
end

/-! ### entries -/
theorem at_mem : ∀ {S : St} {κ : Key} {e : Ent}, S.at κ = e → e ≠ .none → (κ, e) ∈ S
  | [], κ, e, h, hn => absurd h.symm hn
  | (k, e0) :: S, κ, e, h, hn => by
    simp only [St.at] at h
    cases hk : k.same κ with
    | true => rw [hk] at h; rw [Key.same_iff.mp hk]; simp only [cond_true] at h; rw [h]; simp
    | false => rw [hk] at h; exact List.mem_cons_of_mem _ (at_mem h hn)
theorem at_key : ∀ {S : St} {κ : Key} {e : Ent}, (κ, e) ∈ S → (κ, S.at κ) ∈ S
  | (k, e0) :: S, κ, e, h => by
    simp only [St.at]
    cases hk : k.same κ with
    | true => rw [Key.same_iff.mp hk]; simp
    | false =>
      refine List.mem_cons_of_mem _ (at_key (e := e) ((List.mem_cons.mp h).resolve_left fun x => ?_))
      cases x; rw [Key.same_self] at hk; cases hk

section
variable {S : St} {slots : List (AV × Option Nat)} {keep : List Nat} {n0 fl : Nat}
theorem mem_canT : ∀ {ts : List Nat} {i : Nat} {κ : Key} {e : Ent}, (κ, e) ∈ canT S slots keep n0 ts i → ∃ j t, ts[j]? = some t ∧ κ = .t t ∧ e = .av (slotN S slots keep n0 (i + j) (slotT S t)).1 (slotN S slots keep n0 (i + j) (slotT S t)).2
  | [], _, _, _, h => by cases h
  | t :: ts, i, κ, e, h => by
    rcases List.mem_cons.mp h with h | h
    · cases h; exact ⟨0, t, rfl, rfl, rfl⟩
    · obtain ⟨j, t', h1, h2, h3⟩ := mem_canT h
      exact ⟨j + 1, t', by simpa using h1, h2, by rw [h3, show i + (j + 1) = i + 1 + j by omega]⟩
theorem mem_canF : ∀ {ps : List (AV × Option Nat)} {i : Nat} {κ : Key} {e : Ent}, (κ, e) ∈ canF S slots n0 ps i → ∃ j p, ps[j]? = some p ∧ κ = .l (n0 + (i + j)) ∧ e = .flag (hasLab (n0 + (i + j)) (newLab S slots n0 (i + j) p.2))
  | [], _, _, _, h => by cases h
  | p :: ps, i, κ, e, h => by
    rcases List.mem_cons.mp h with h | h
    · cases h; exact ⟨0, p, rfl, rfl, rfl⟩
    · obtain ⟨j, t', h1, h2, h3⟩ := mem_canF h
      exact ⟨j + 1, t', by simpa using h1, by rw [h2, show i + (j + 1) = i + 1 + j by omega], by rw [h3, show i + (j + 1) = i + 1 + j by omega]⟩
theorem canF_key : ∀ {ps : List (AV × Option Nat)} {i j : Nat}, j < ps.length → ∃ e, ((.l (n0 + (i + j)) : Key), e) ∈ canF S slots n0 ps i
  | [], _, j, h => by simp at h
  | p :: ps, i, 0, h => ⟨_, by simp only [canF]; exact List.mem_cons_self⟩
  | p :: ps, i, j + 1, h => by
    obtain ⟨e, he⟩ := canF_key (i := i + 1) (j := j) (by simpa using h)
    exact ⟨e, by rw [show i + (j + 1) = i + 1 + j by omega]; exact List.mem_cons_of_mem _ he⟩
theorem mem_canL : ∀ {ls : List Nat} {κ : Key} {e : Ent}, (κ, e) ∈ canL S slots ls → ∃ l, l ∈ ls ∧ κ = .l l ∧ e = .flag (liveL S l && !slots.any fun p => hasLab l p.2)
  | [], _, _, h => by cases h
  | l :: ls, κ, e, h => by
    rcases List.mem_cons.mp h with h | h
    · cases h; exact ⟨l, by simp, rfl, rfl⟩
    · obtain ⟨l', h1, h2, h3⟩ := mem_canL h
      exact ⟨l', by simp [h1], h2, h3⟩
theorem canL_key : ∀ {ls : List Nat} {l : Nat}, l ∈ ls → ∃ e, ((.l l : Key), e) ∈ canL S slots ls
  | l' :: ls, l, h => by
    rcases List.mem_cons.mp h with rfl | h
    · exact ⟨_, List.mem_cons_self⟩
    · obtain ⟨e, he⟩ := canL_key h; exact ⟨e, List.mem_cons_of_mem _ he⟩
theorem mem_canO : ∀ {ids : List Nat} {i : Nat} {κ : Key} {e : Ent}, (κ, e) ∈ canO S slots keep n0 ids i → ∃ pre id post, ids = pre ++ id :: post ∧ κ = .o id ∧ ((∃ cs, S.at (.o id) = .obj cs ∧ e = .obj (slotsN S slots keep n0 cs (i + (slotsO S pre).length))) ∨ ∃ bs, S.at (.o id) = .bld bs ∧ e = .bld bs)
  | [], _, _, _, h => by cases h
  | id :: ids, i, κ, e, h => by
    unfold canO at h
    split at h
    · rename_i cs hcs
      have hc : cellsO S id = cs := by unfold cellsO; rw [hcs]
      rcases List.mem_cons.mp h with h | h
      · cases h; exact ⟨[], id, ids, rfl, rfl, .inl ⟨cs, hcs, rfl⟩⟩
      · obtain ⟨pre, id', post, h1, h2, h3⟩ := mem_canO h
        exact ⟨id :: pre, id', post, by rw [h1]; rfl, h2, h3.imp_left fun ⟨cs', h3, h4⟩ => ⟨cs', h3, by rw [h4]; simp only [slotsO, hc, List.length_append, Nat.add_assoc]⟩⟩
    · rename_i bs hcs
      have hc : cellsO S id = [] := by unfold cellsO; rw [hcs]
      rcases List.mem_cons.mp h with h | h
      · cases h; exact ⟨[], id, ids, rfl, rfl, .inr ⟨bs, hcs, rfl⟩⟩
      · obtain ⟨pre, id', post, h1, h2, h3⟩ := mem_canO h
        exact ⟨id :: pre, id', post, by rw [h1]; rfl, h2, h3.imp_left fun ⟨cs', h3, h4⟩ => ⟨cs', h3, by rw [h4]; simp only [slotsO, hc, List.nil_append]⟩⟩
    · rename_i hcs _
      have hc : cellsO S id = [] := by unfold cellsO; split <;> first | rfl | (rename_i cs hx; exact absurd hx (hcs cs))
      obtain ⟨pre, id', post, h1, h2, h3⟩ := mem_canO h
      exact ⟨id :: pre, id', post, by rw [h1]; rfl, h2, h3.imp_left fun ⟨cs', h3, h4⟩ => ⟨cs', h3, by rw [h4]; simp only [slotsO, hc, List.nil_append]⟩⟩
theorem canO_key : ∀ {ids : List Nat} {i id : Nat}, id ∈ ids → isBlk (S.at (.o id)) → ∃ e, ((.o id : Key), e) ∈ canO S slots keep n0 ids i
  | id' :: ids, i, id, h, hc => by
    unfold canO
    by_cases e : id = id'
    · subst e
      split
      · exact ⟨_, List.mem_cons_self⟩
      · exact ⟨_, List.mem_cons_self⟩
      · rename_i h1 h2
        cases hx : S.at (.o id) with
        | obj cs => exact absurd hx (h1 cs)
        | bld bs => exact absurd hx (h2 bs)
        | none => rw [hx] at hc; exact hc.elim
        | av v l => rw [hx] at hc; exact hc.elim
        | flag b => rw [hx] at hc; exact hc.elim
        | num n => rw [hx] at hc; exact hc.elim
    · have h := (List.mem_cons.mp h).resolve_left e
      split
      · obtain ⟨x, hx⟩ := canO_key (i := _) h hc; exact ⟨x, List.mem_cons_of_mem _ hx⟩
      · obtain ⟨x, hx⟩ := canO_key (i := _) h hc; exact ⟨x, List.mem_cons_of_mem _ hx⟩
      · exact canO_key h hc
end
theorem mem_canY {S : St} : ∀ {ids : List Nat} {κ : Key} {e : Ent}, (κ, e) ∈ canY S ids → ∃ id, id ∈ ids ∧ κ = .y id ∧ e = S.at (.y id)
  | [], _, _, h => by cases h
  | id :: ids, κ, e, h => by
    rcases List.mem_cons.mp h with h | h
    · cases h; exact ⟨id, by simp, rfl, rfl⟩
    · obtain ⟨i, h1, h2⟩ := mem_canY h; exact ⟨i, by simp [h1], h2⟩
theorem labIds_acc {fl : Nat} : ∀ {S : St} {acc : List Nat} {l : Nat}, l ∈ acc → l ∈ labIds fl S acc
  | [], _, _, h => h
  | (.l id, _) :: S, acc, l, h => by
    unfold labIds
    refine labIds_acc ?_
    cases (Nat.ble fl id || acc.any (Nat.beq id)) <;> simp [h]
  | (.t _, _) :: S, acc, l, h => by unfold labIds; exact labIds_acc h
  | (.o _, _) :: S, acc, l, h => by unfold labIds; exact labIds_acc h
  | (.x, _) :: S, acc, l, h => by unfold labIds; exact labIds_acc h
  | (.y _, _) :: S, acc, l, h => by unfold labIds; exact labIds_acc h
theorem labIds_mem {fl : Nat} : ∀ {S : St} {acc : List Nat} {l : Nat} {e : Ent}, (.l l, e) ∈ S → l < fl → l ∈ labIds fl S acc
  | (k, e0) :: S, acc, l, e, h0, hl => by
    rcases List.mem_cons.mp h0 with h | h
    · cases h
      unfold labIds
      refine labIds_acc ?_
      have hb : Nat.ble fl l = false := by
        cases hx : Nat.ble fl l with
        | false => rfl
        | true => have := Nat.le_of_ble_eq_true hx; omega
      rw [hb]
      cases hx : acc.any (Nat.beq l) with
      | false => simp
      | true =>
        obtain ⟨x, h1, h2⟩ := List.any_eq_true.mp hx
        simp only [Bool.or_true, cond_true]
        rw [Nat.eq_of_beq_eq_true h2]; exact h1
    · clear h0
      cases k <;> (unfold labIds; exact labIds_mem h hl)
theorem labIds_lt {fl : Nat} : ∀ {S : St} {acc : List Nat} {l : Nat}, l ∈ labIds fl S acc → l ∈ acc ∨ l < fl
  | [], _, _, h => .inl h
  | (.l id, _) :: S, acc, l, h => by
    unfold labIds at h
    rcases labIds_lt h with h | h
    · cases hx : (Nat.ble fl id || acc.any (Nat.beq id)) with
      | true => rw [hx] at h; exact .inl h
      | false =>
        rw [hx] at h
        simp only [cond_false, List.mem_cons] at h
        rcases h with rfl | h
        · simp only [Bool.or_eq_false_iff] at hx
          refine .inr ?_
          rcases Nat.lt_or_ge l fl with h | h
          · exact h
          · rw [Nat.ble_eq_true_of_le h] at hx; cases hx.1
        · exact .inl h
    · exact .inr h
  | (.t _, _) :: S, acc, l, h => by unfold labIds at h; exact labIds_lt h
  | (.o _, _) :: S, acc, l, h => by unfold labIds at h; exact labIds_lt h
  | (.x, _) :: S, acc, l, h => by unfold labIds at h; exact labIds_lt h
  | (.y _, _) :: S, acc, l, h => by unfold labIds at h; exact labIds_lt h
theorem objIds_acc : ∀ {S : St} {acc : List Nat} {l : Nat}, l ∈ acc → l ∈ objIds S acc
  | [], _, _, h => h
  | (.o id, _) :: S, acc, l, h => by
    unfold objIds
    refine objIds_acc ?_
    cases (acc.any (Nat.beq id)) <;> simp [h]
  | (.t _, _) :: S, acc, l, h => by unfold objIds; exact objIds_acc h
  | (.l _, _) :: S, acc, l, h => by unfold objIds; exact objIds_acc h
  | (.x, _) :: S, acc, l, h => by unfold objIds; exact objIds_acc h
  | (.y _, _) :: S, acc, l, h => by unfold objIds; exact objIds_acc h
theorem objIds_mem : ∀ {S : St} {acc : List Nat} {l : Nat} {e : Ent}, (.o l, e) ∈ S → l ∈ objIds S acc
  | (k, e0) :: S, acc, l, e, h0 => by
    rcases List.mem_cons.mp h0 with h | h
    · cases h
      unfold objIds
      refine objIds_acc ?_
      cases hx : acc.any (Nat.beq l) with
      | false => simp
      | true =>
        obtain ⟨x, h1, h2⟩ := List.any_eq_true.mp hx
        simp only [cond_true]
        rw [Nat.eq_of_beq_eq_true h2]; exact h1
    · clear h0
      cases k <;> (unfold objIds; exact objIds_mem h)
theorem hasLab_iff {l : Nat} {p : Option Nat} : hasLab l p = true ↔ p = some l := by
  cases p with
  | none => simp [hasLab]
  | some m => simp [hasLab]
theorem firstIdx_some {l : Nat} : ∀ {s : List (AV × Option Nat)} {i j : Nat}, firstIdx l s i = some j → i ≤ j ∧ ∃ p, s[j - i]? = some p ∧ p.2 = some l
  | [], _, _, h => by cases h
  | p :: s, i, j, h => by
    unfold firstIdx at h
    cases hx : hasLab l p.2 with
    | true => rw [hx] at h; cases h; exact ⟨Nat.le_refl _, p, by simp, hasLab_iff.mp hx⟩
    | false =>
      rw [hx] at h
      obtain ⟨h1, q, h2, h3⟩ := firstIdx_some h
      refine ⟨by omega, q, ?_, h3⟩
      rw [show j - i = (j - (i + 1)) + 1 by omega]; simpa using h2
theorem firstIdx_ex {l : Nat} : ∀ {s : List (AV × Option Nat)} {i k : Nat} {p : AV × Option Nat}, s[k]? = some p → p.2 = some l → ∃ j, firstIdx l s i = some j
  | [], _, _, _, h, _ => by simp at h
  | q :: s, i, k, p, h, hp => by
    unfold firstIdx
    cases hx : hasLab l q.2 with
    | true => exact ⟨i, rfl⟩
    | false =>
      cases k with
      | zero => simp at h; subst h; rw [hasLab_iff.mpr hp] at hx; cases hx
      | succ k => exact firstIdx_ex (k := k) (by simpa using h) hp
theorem liveL_iff {S : St} {l : Nat} : liveL S l = true ↔ S.at (.l l) = .flag true := by
  unfold liveL
  split
  · rename_i h; simp [h]
  · rename_i h; exact ⟨fun x => by simp at x, fun x => absurd x h⟩

/-- The labels of the one form. -/
def canTT (S : St) (slots : List (AV × Option Nat)) (n0 fl : Nat) (T : Labs) (uf : Nat → Value) : Labs := fun x =>
  if x < fl then T x else
  if n0 ≤ x then (match slots[x - n0]? with
    | some (.view sz _, some 0) => some (uf (x - n0), sz)
    | some (_, some (l + 1)) => if liveL S (l + 1) = true ∧ firstIdx (l + 1) slots 0 = some (x - n0) then T (l + 1) else none
    | _ => none) else none

section
variable {B : Base} {ι : Inj} {T : Labs} {st : Cells} {w : World} {S : St} {susp ex : Exs} {tm : Array Value} {hint keep : List Nat} {n0 fl : Nat}

theorem canTT_first {slots : List (AV × Option Nat)} {uf : Nat → Value} (h0 : fl ≤ n0) {l j : Nat} (hl : liveL S (l + 1) = true) (hf : firstIdx (l + 1) slots 0 = some j) : canTT S slots n0 fl T uf (n0 + j) = T (l + 1) := by
  obtain ⟨_, p, h1, h2⟩ := firstIdx_some hf
  obtain ⟨v, lab⟩ := p
  simp only at h2
  subst h2
  unfold canTT
  rw [if_neg (by omega), if_pos (by omega), show n0 + j - n0 = j by omega]
  rw [Nat.sub_zero] at h1
  rw [h1]
  simp only [hl, hf, and_self, if_true]

theorem slotsO_append : ∀ (a b : List Nat), slotsO S (a ++ b) = slotsO S a ++ slotsO S b
  | [], _ => rfl
  | x :: a, b => by simp only [List.cons_append, slotsO, slotsO_append a b, List.append_assoc]

theorem slotsN_rel {ι' : Inj} {T' : Labs} {slots : List (AV × Option Nat)} {uf : Nat → Value} (hs : ∀ i p, slots[i]? = some p → VRel st w ι' (slotN S slots keep n0 i p).1 (uf i) ∧ LabRel T' (slotN S slots keep n0 i p).2 (slotN S slots keep n0 i p).1 (uf i)) :
    ∀ {cs : List (AV × Option Nat)} {us : List Value} {i : Nat}, LRels st w ι T cs us → (∀ j p, cs[j]? = some p → slots[i + j]? = some p ∧ us[j]? = some (uf (i + j))) → LRels st w ι' T' (slotsN S slots keep n0 cs i) us
  | [], _, _, h, _ => h
  | (c, l) :: cs, _, i, h, hu => by
    obtain ⟨v, vs, rfl, h0, h1, h2, h3⟩ := h
    have hh := hu 0 (c, l) rfl
    simp only [Nat.add_zero] at hh
    have e : v = uf i := by simpa using hh.2
    obtain ⟨k1, k2⟩ := hs i (c, l) hh.1
    refine ⟨v, vs, rfl, h0, by rw [e]; exact k1, by rw [e]; exact k2, slotsN_rel hs h3 fun j p hj => ?_⟩
    have := hu (j + 1) p (by simpa using hj)
    rw [show i + 1 + j = i + (j + 1) by omega]
    simpa using this

theorem LRels.len : ∀ {cs : List (AV × Option Nat)} {us : List Value}, LRels st w ι T cs us → us.length = cs.length
  | [], us, h => by have h : us = [] := h; rw [h]; rfl
  | (c, l) :: cs, _, h => by obtain ⟨v, vs, rfl, _, _, _, h3⟩ := h; simp [LRels.len h3]
theorem LRels.nth : ∀ {cs : List (AV × Option Nat)} {us : List Value} {j : Nat} {p : AV × Option Nat}, LRels st w ι T cs us → cs[j]? = some p → ∃ u, us[j]? = some u ∧ VRel st w ι p.1 u ∧ LabRel T p.2 p.1 u
  | [], _, _, _, _, hj => by simp at hj
  | (c, l) :: cs, _, j, p, h, hj => by
    obtain ⟨v, vs, rfl, _, h1, h2, h3⟩ := h
    cases j with
    | zero => simp at hj; subst hj; exact ⟨v, rfl, h1, h2⟩
    | succ j => obtain ⟨u, k⟩ := LRels.nth h3 (by simpa using hj); exact ⟨u, by simpa using k⟩

/-- The values in the slots. -/
theorem slots_vals (hI : Inv B ι T st S.at (Live S.at tm susp) w) : ∃ uf : Nat → Value,
    (∀ i p, (slotsA S hint keep)[i]? = some p → VRel st w ι p.1 (uf i) ∧ LabRel T p.2 p.1 (uf i)) ∧ (∀ j t, hint[j]? = some t → uf j = tm.getD t undef) ∧
    ∀ pre id post cs b us ty, keep = pre ++ id :: post → S.at (.o id) = .obj cs → ι id = some b → w.heap[b]? = some (.cells us ty (0, 0)) → ∀ j p, cs[j]? = some p → us.toList[j]? = some (uf (hint.length + (slotsO S pre).length + j)) := by
  let bc : Nat → List Value := fun id => match S.at (.o id) with | .obj _ => (match ι id with | some b => (match w.heap[b]? with | some (.cells us _ _) => us.toList | _ => []) | none => []) | _ => []
  have hbc : ∀ {id cs}, S.at (.o id) = .obj cs → LRels st w ι T cs (bc id) ∧ ∀ b us ty, ι id = some b → w.heap[b]? = some (.cells us ty (0, 0)) → bc id = us.toList := by
    intro id cs hc
    obtain ⟨b, us, ty, h1, h2, h3, _⟩ := hI.obj id cs hc
    have e : bc id = us.toList := by show (match S.at (.o id) with | .obj _ => _ | _ => _) = _; rw [hc]; simp only [h1, h2]
    refine ⟨by rw [e]; exact h3, fun b' us' ty' h1' h2' => ?_⟩
    rw [h1] at h1'; cases h1'; rw [h2] at h2'; cases h2'; exact e
  have hbn : ∀ {id}, (∀ cs, S.at (.o id) ≠ .obj cs) → cellsO S id = [] ∧ bc id = [] := by
    intro id hc
    refine ⟨?_, ?_⟩
    · unfold cellsO; split <;> first | rfl | (rename_i cs hx; exact absurd hx (hc cs))
    · show (match S.at (.o id) with | .obj _ => _ | _ => _) = _
      split
      · rename_i cs hx; exact absurd hx (hc cs)
      · rfl
  have hpt : ∀ id, (bc id).length = (cellsO S id).length ∧ ∀ (j : Nat) (p : AV × Option Nat), (cellsO S id)[j]? = some p → ∃ u, (bc id)[j]? = some u ∧ VRel st w ι p.1 u ∧ LabRel T p.2 p.1 u := by
    intro id
    by_cases hx : ∃ cs, S.at (.o id) = .obj cs
    · obtain ⟨cs, hc⟩ := hx
      have e : cellsO S id = cs := by unfold cellsO; rw [hc]
      rw [e]
      exact ⟨(hbc hc).1.len, fun j p hj => (hbc hc).1.nth hj⟩
    · obtain ⟨e1, e2⟩ := hbn (fun cs hc => hx ⟨cs, hc⟩)
      rw [e1, e2]; exact ⟨rfl, fun j p hj => by simp at hj⟩
  have hall : ∀ ks : List Nat, (ks.flatMap bc).length = (slotsO S ks).length ∧ ∀ (j : Nat) (p : AV × Option Nat), (slotsO S ks)[j]? = some p → ∃ u, (ks.flatMap bc)[j]? = some u ∧ VRel st w ι p.1 u ∧ LabRel T p.2 p.1 u := by
    intro ks
    induction ks with
    | nil => exact ⟨rfl, fun j p hj => by simp [slotsO] at hj⟩
    | cons id ks ih =>
      obtain ⟨k1, k2⟩ := hpt id
      refine ⟨by simp only [List.flatMap_cons, slotsO, List.length_append, k1, ih.1], fun j p hj => ?_⟩
      simp only [slotsO, List.flatMap_cons] at hj ⊢
      by_cases hlt : j < (cellsO S id).length
      · rw [List.getElem?_append_left hlt] at hj
        rw [List.getElem?_append_left (by omega)]
        exact k2 j p hj
      · rw [List.getElem?_append_right (by omega)] at hj
        rw [List.getElem?_append_right (by omega), k1]
        exact ih.2 _ p hj
  let L : List Value := hint.map (fun t => tm.getD t undef) ++ keep.flatMap bc
  refine ⟨fun i => L.getD i undef, ?_, ?_, ?_⟩
  · intro i p hi
    unfold slotsA at hi
    by_cases hlt : i < hint.length
    · rw [List.getElem?_append_left (by simpa using hlt)] at hi
      have e : L.getD i undef = tm.getD hint[i] undef := by
        rw [List.getD_eq_getElem?_getD]
        show ((hint.map (fun t => tm.getD t undef) ++ keep.flatMap bc)[i]?).getD undef = _
        rw [List.getElem?_append_left (by simpa using hlt)]; simp [hlt]
      simp only [List.getElem?_map, List.getElem?_eq_getElem hlt, Option.map_some, Option.some.injEq] at hi
      show VRel st w ι p.1 (L.getD i undef) ∧ LabRel T p.2 p.1 (L.getD i undef)
      rw [e, ← hi]
      unfold slotT
      split
      · rename_i v lab hx; exact hI.live v lab _ (.inl ⟨_, hx, rfl⟩)
      · exact ⟨trivial, trivial⟩
    · rw [List.getElem?_append_right (by simpa using hlt), List.length_map] at hi
      obtain ⟨u, h1, h2⟩ := (hall keep).2 _ p hi
      have e : L.getD i undef = u := by
        rw [List.getD_eq_getElem?_getD]
        show ((hint.map (fun t => tm.getD t undef) ++ keep.flatMap bc)[i]?).getD undef = _
        rw [List.getElem?_append_right (by simpa using hlt), List.length_map, h1]; rfl
      show VRel st w ι p.1 (L.getD i undef) ∧ LabRel T p.2 p.1 (L.getD i undef)
      rw [e]; exact h2
  · intro j t hj
    have hlt : j < hint.length := (List.getElem?_eq_some_iff.mp hj).1
    show L.getD j undef = _
    rw [List.getD_eq_getElem?_getD]
    show ((hint.map (fun t => tm.getD t undef) ++ keep.flatMap bc)[j]?).getD undef = _
    rw [List.getElem?_append_left (by simpa using hlt)]; simp [hj]
  · intro pre id post cs b us ty hk hc h1 h2 j p hj
    have e := (hbc hc).2 b us ty h1 h2
    have hl : (bc id).length = cs.length := (hbc hc).1.len
    have hjl : j < cs.length := (List.getElem?_eq_some_iff.mp hj).1
    rw [← e]
    show _ = some (L.getD _ undef)
    have e2 : L[hint.length + (slotsO S pre).length + j]? = (bc id)[j]? := by
      show (hint.map (fun t => tm.getD t undef) ++ keep.flatMap bc)[_]? = _
      rw [List.getElem?_append_right (by simp; omega), List.length_map, hk, List.flatMap_append, List.flatMap_cons]
      rw [List.getElem?_append_right (by rw [(hall pre).1]; omega), (hall pre).1, List.getElem?_append_left (by omega)]
      congr 1; omega
    rw [List.getD_eq_getElem?_getD, e2, List.getElem?_eq_getElem (by omega)]
    rfl

theorem canA_inv (hI : Inv B ι T st S.at (Live S.at tm susp) w) (hf : 1 ≤ fl) (h0 : fl ≤ n0) (hsusp : ∀ v lab u, susp v lab u → refsIn keep v = true ∧ ∀ l, lab = some l → l < fl) :
    ∃ ι' T', Inv B ι' T' st (canA hint keep n0 fl S).at (Live (canA hint keep n0 fl S).at tm susp) w := by
  obtain ⟨uf, hu, hut, huo⟩ := slots_vals (hint := hint) (keep := keep) hI
  generalize hsl : slotsA S hint keep = slots at hu
  let ι' : Inj := fun id => if (id < HID ∧ id ∈ keep) ∨ (HID ≤ id ∧ id - HID ∈ keep) then ι id else none
  let T' : Labs := canTT S slots n0 fl T uf
  have hι : ∀ id b, id < HID → id ∈ keep → ι id = some b → ι' id = some b := fun id b h0 h1 h2 => by show (if _ then _ else _) = _; rw [if_pos (.inl ⟨h0, h1⟩)]; exact h2
  have hι2 : ∀ id b, ι' id = some b → ((id < HID ∧ id ∈ keep) ∨ (HID ≤ id ∧ id - HID ∈ keep)) ∧ ι id = some b := by
    intro id b h
    by_cases hk : (id < HID ∧ id ∈ keep) ∨ (HID ≤ id ∧ id - HID ∈ keep)
    · exact ⟨hk, by have : (if (id < HID ∧ id ∈ keep) ∨ (HID ≤ id ∧ id - HID ∈ keep) then ι id else none) = some b := h; rwa [if_pos hk] at this⟩
    · have : (if (id < HID ∧ id ∈ keep) ∨ (HID ≤ id ∧ id - HID ∈ keep) then ι id else none) = some b := h; rw [if_neg hk] at this; cases this
  have hιh : ∀ id, id ∈ keep → ι' (hid id) = ι (hid id) := fun id h => by
    show (if _ then _ else _) = _
    rw [if_pos (.inr ⟨by unfold hid; omega, by rw [show hid id - HID = id by unfold hid; omega]; exact h⟩)]
  -- a slot anew
  have hs : ∀ i p, slots[i]? = some p → VRel st w ι' (slotN S slots keep n0 i p).1 (uf i) ∧ LabRel T' (slotN S slots keep n0 i p).2 (slotN S slots keep n0 i p).1 (uf i) := by
    intro i p hp
    obtain ⟨k1, k2⟩ := hu i p hp
    obtain ⟨v, lab⟩ := p
    simp only at k1 k2
    unfold slotN
    constructor
    · simp only
      cases hr : refsIn keep v with
      | true => exact VRel.refs hι _ _ hr k1
      | false => trivial
    · simp only
      cases lab with
      | none => exact trivial
      | some l =>
        cases l with
        | zero =>
          obtain ⟨sz, xs, rfl, hful⟩ := k2
          obtain ⟨m, hm⟩ : ∃ m, n0 + i = m + 1 := ⟨n0 + i - 1, by omega⟩
          simp only [newLab, hm]
          refine ⟨sz, xs, rfl, ?_⟩
          rw [← hm]
          show canTT S slots n0 fl T uf (n0 + i) = _
          unfold canTT
          rw [if_neg (by omega), if_pos (by omega), show n0 + i - n0 = i by omega, hp]
        | succ l =>
          obtain ⟨sz, xs, rfl, hT⟩ := k2
          simp only [newLab]
          cases hl : liveL S (l + 1) with
          | false => trivial
          | true =>
            obtain ⟨j, hj⟩ := firstIdx_ex (i := 0) hp rfl
            obtain ⟨m, hm⟩ : ∃ m, n0 + j = m + 1 := ⟨n0 + j - 1, by omega⟩
            simp only [cond_true, hj, Option.map_some, hm]
            refine ⟨sz, xs, rfl, ?_⟩
            rw [← hm]
            show canTT S slots n0 fl T uf (n0 + j) = _
            rw [canTT_first h0 hl hj, hT]
  -- what is an entry
  have hcan : canA hint keep n0 fl S = (.x, .num (n0 + slots.length)) :: (canT S slots keep n0 hint 0 ++ (canO S slots keep n0 keep hint.length ++ (canF S slots n0 slots 0 ++ (canL S slots (labIds fl S []) ++ canY S keep)))) := by unfold canA; rw [hsl]
  have mem : ∀ {κ e}, (κ, e) ∈ canA hint keep n0 fl S → κ = .x ∨ (κ, e) ∈ canT S slots keep n0 hint 0 ∨ (κ, e) ∈ canO S slots keep n0 keep hint.length ∨ (κ, e) ∈ canF S slots n0 slots 0 ∨ (κ, e) ∈ canL S slots (labIds fl S []) ∨ (κ, e) ∈ canY S keep := by
    intro κ e h
    rw [hcan] at h
    simp only [List.mem_cons, List.mem_append, Prod.mk.injEq] at h
    rcases h with h | h
    · exact .inl h.1
    · exact .inr h
  have atT : ∀ {t e}, (.t t, e) ∈ canA hint keep n0 fl S → ∃ j, hint[j]? = some t ∧ e = .av (slotN S slots keep n0 j (slotT S t)).1 (slotN S slots keep n0 j (slotT S t)).2 := by
    intro t e h
    rcases mem h with h | h | h | h | h | h
    · cases h
    · obtain ⟨j, t', h1, h2, h3⟩ := mem_canT h; cases h2; exact ⟨j, h1, by rw [Nat.zero_add] at h3; exact h3⟩
    · obtain ⟨_, _, _, _, h2, _⟩ := mem_canO h; cases h2
    · obtain ⟨_, _, _, h2, _⟩ := mem_canF h; cases h2
    · obtain ⟨_, _, h2, _⟩ := mem_canL h; cases h2
    · obtain ⟨_, _, h2, _⟩ := mem_canY h; cases h2
  have atO : ∀ {id e}, (.o id, e) ∈ canA hint keep n0 fl S → ∃ pre post, keep = pre ++ id :: post ∧ ((∃ cs, S.at (.o id) = .obj cs ∧ e = .obj (slotsN S slots keep n0 cs (hint.length + (slotsO S pre).length))) ∨ ∃ bs, S.at (.o id) = .bld bs ∧ e = .bld bs) := by
    intro t e h
    rcases mem h with h | h | h | h | h | h
    · cases h
    · obtain ⟨_, _, _, h2, _⟩ := mem_canT h; cases h2
    · obtain ⟨pre, id, post, h1, h2, h3⟩ := mem_canO h; cases h2; exact ⟨pre, post, h1, h3⟩
    · obtain ⟨_, _, _, h2, _⟩ := mem_canF h; cases h2
    · obtain ⟨_, _, h2, _⟩ := mem_canL h; cases h2
    · obtain ⟨_, _, h2, _⟩ := mem_canY h; cases h2
  have atL : ∀ {l e}, (.l l, e) ∈ canA hint keep n0 fl S → (∃ j p, slots[j]? = some p ∧ l = n0 + j ∧ e = .flag (hasLab l (newLab S slots n0 j p.2))) ∨ (l < fl ∧ e = .flag (liveL S l && !slots.any fun p => hasLab l p.2)) := by
    intro t e h
    rcases mem h with h | h | h | h | h | h
    · cases h
    · obtain ⟨_, _, _, h2, _⟩ := mem_canT h; cases h2
    · obtain ⟨_, _, _, _, h2, _⟩ := mem_canO h; cases h2
    · obtain ⟨j, p, h1, h2, h3⟩ := mem_canF h
      cases h2; rw [Nat.zero_add] at h3 ⊢; exact .inl ⟨j, p, h1, rfl, h3⟩
    · obtain ⟨l, h1, h2, h3⟩ := mem_canL h
      cases h2
      exact .inr ⟨(labIds_lt h1).resolve_left (by simp), h3⟩
    · obtain ⟨_, _, h2, _⟩ := mem_canY h; cases h2
  have atY : ∀ {id e}, (.y id, e) ∈ canA hint keep n0 fl S → id ∈ keep ∧ e = S.at (.y id) := by
    intro id e h
    rcases mem h with h | h | h | h | h | h
    · cases h
    · obtain ⟨_, _, _, h2, _⟩ := mem_canT h; cases h2
    · obtain ⟨_, _, _, _, h2, _⟩ := mem_canO h; cases h2
    · obtain ⟨_, _, _, h2, _⟩ := mem_canF h; cases h2
    · obtain ⟨_, _, h2, _⟩ := mem_canL h; cases h2
    · obtain ⟨i, h1, h2, h3⟩ := mem_canY h; cases h2; exact ⟨h1, h3⟩
  have keyL : ∀ {l}, (∃ e, (.l l, e) ∈ canA hint keep n0 fl S) → ∃ b, (canA hint keep n0 fl S).at (.l l) = .flag b := by
    rintro l ⟨e, he⟩
    rcases atL (at_key he) with ⟨_, _, _, _, h⟩ | ⟨_, h⟩
    · exact ⟨_, h⟩
    · exact ⟨_, h⟩
  have hTfl : ∀ {l}, l < fl → T' l = T l := fun h => by show canTT S slots n0 fl T uf _ = _; unfold canTT; rw [if_pos h]
  -- a living label
  have alive : ∀ {l}, (canA hint keep n0 fl S).at (.l l) = .flag true → (∃ u sz, T' l = some (u, sz) ∧ Full u) ∨ ∃ m, S.at (.l m) = .flag true ∧ T' l = T m ∧ ((l = m ∧ ∀ (j : Nat) (p : AV × Option Nat), slots[j]? = some p → p.2 ≠ some m) ∨ ∃ j, firstIdx m slots 0 = some j ∧ l = n0 + j) := by
    intro l hl
    rcases atL (at_mem hl (by simp)) with ⟨j, p, h1, h2, h3⟩ | ⟨h1, h3⟩
    · have h4 : newLab S slots n0 j p.2 = some l := hasLab_iff.mp (by simpa using h3.symm)
      obtain ⟨v, lab⟩ := p
      cases lab with
      | none => cases h4
      | some k =>
        cases k with
        | zero =>
          obtain ⟨_, sz, xs, e, hful⟩ := hu j _ h1
          simp only at e
          subst e
          refine .inl ⟨uf j, sz, ?_, hful⟩
          show canTT S slots n0 fl T uf l = _
          unfold canTT
          rw [if_neg (by omega), if_pos (by omega), h2, show n0 + j - n0 = j by omega, h1]
        | succ k =>
          simp only [newLab] at h4
          cases hlv : liveL S (k + 1) with
          | false => rw [hlv] at h4; cases h4
          | true =>
            rw [hlv] at h4
            simp only [cond_true, Option.map_eq_some_iff] at h4
            obtain ⟨j', h5, h6⟩ := h4
            refine .inr ⟨k + 1, liveL_iff.mp hlv, ?_, .inr ⟨j', h5, h6.symm⟩⟩
            rw [← h6]; exact canTT_first h0 hlv h5
    · have h3 : (liveL S l && !slots.any fun p => hasLab l p.2) = true := by simpa using h3.symm
      simp only [Bool.and_eq_true, Bool.not_eq_true', List.any_eq_false] at h3
      refine .inr ⟨l, liveL_iff.mp h3.1, hTfl h1, .inl ⟨rfl, fun j p hj hp => h3.2 p (List.mem_of_getElem? hj) (hasLab_iff.mpr hp)⟩⟩
  refine ⟨ι', T', hI.below, hI.oldlt, hI.sub, hI.new, hI.lt, ?_, ?_, ?_, ?_, ?_, ?_, ?_, ?_, ?_, ?_⟩
  · intro v lab u hx
    rcases hx with ⟨t, ht, rfl⟩ | hx
    · obtain ⟨j, h1, h2⟩ := atT (at_mem ht (by simp))
      cases h2
      have hj : slots[j]? = some (slotT S t) := by
        rw [← hsl]; unfold slotsA
        rw [List.getElem?_append_left (by simpa using (List.getElem?_eq_some_iff.mp h1).1)]; simp [h1]
      have := hs j _ hj
      rwa [hut j t h1] at this
    · obtain ⟨k1, k2⟩ := hI.live v lab u (.inr hx)
      obtain ⟨k3, k4⟩ := hsusp v lab u hx
      refine ⟨VRel.refs hι _ _ k3 k1, ?_⟩
      cases lab with
      | none => trivial
      | some l =>
        cases l with
        | zero => exact k2
        | succ l =>
          obtain ⟨sz, xs, e, hT⟩ := k2
          exact ⟨sz, xs, e, by rw [hTfl (k4 _ rfl)]; exact hT⟩
  · intro id cs' hc'
    obtain ⟨pre, post, h1, h23⟩ := atO (at_mem hc' (by simp))
    obtain ⟨cs, h2, h3⟩ := h23.resolve_right fun ⟨_, _, h⟩ => by cases h
    cases h3
    obtain ⟨b, us, ty, e1, e2, e3, e4, e5⟩ := hI.obj id cs h2
    refine ⟨b, us, ty, hι id b (hI.lo id (by rw [h2]; trivial)) (by rw [h1]; simp) e1, e2, slotsN_rel hs e3 (fun j p hj => ⟨?_, huo pre id post cs b us ty h1 h2 e1 e2 j p hj⟩), e4, e5⟩
    have hc : cellsO S id = cs := by unfold cellsO; rw [h2]
    have hjl := (List.getElem?_eq_some_iff.mp hj).1
    rw [← hsl]; unfold slotsA
    rw [List.getElem?_append_right (by simp; omega), List.length_map, h1, slotsO_append, List.getElem?_append_right (by omega)]
    simp only [slotsO, hc]
    rw [List.getElem?_append_left (by omega), ← hj]
    congr 1; omega
  · intro id b hb
    obtain ⟨k1, k2⟩ := hι2 id b hb
    have blk : ∀ id, id ∈ keep → isBlk (S.at (.o id)) → ∃ pre post, keep = pre ++ id :: post ∧ ((∃ cs, S.at (.o id) = .obj cs ∧ (canA hint keep n0 fl S).at (.o id) = .obj (slotsN S slots keep n0 cs (hint.length + (slotsO S pre).length))) ∨ ∃ bs, S.at (.o id) = .bld bs ∧ (canA hint keep n0 fl S).at (.o id) = .bld bs) := fun id k1 hc => by
      obtain ⟨e, he⟩ := canO_key (S := S) (slots := slots) (keep := keep) (n0 := n0) (i := hint.length) k1 hc
      have : (.o id, e) ∈ canA hint keep n0 fl S := by rw [hcan]; simp [he]
      exact atO (at_key this)
    have hlo : ∀ id, isBlk (S.at (.o id)) → id < HID := hI.lo
    refine ⟨?_, (hI.dom id b k2).2⟩
    rcases (hI.dom id b k2).1 with hc | ⟨i, bs, rfl, hc⟩
    · have hk : id ∈ keep := (k1.resolve_right fun h => absurd (hlo id hc) (Nat.not_lt.mpr h.1)).2
      obtain ⟨_, _, _, ⟨_, _, h⟩ | ⟨_, _, h⟩⟩ := blk id hk hc
      · exact .inl (by rw [h]; trivial)
      · exact .inl (by rw [h]; trivial)
    · have hi := hlo i (by rw [hc]; trivial)
      rcases k1 with k1 | ⟨_, k1⟩
      · exact absurd k1.1 hid_lt
      · rw [show hid i - HID = i by unfold hid; omega] at k1
        obtain ⟨_, _, _, ⟨_, h0, _⟩ | ⟨bs', h0, h⟩⟩ := blk i k1 (by rw [hc]; trivial)
        · rw [hc] at h0; cases h0
        · exact .inr ⟨i, bs', rfl, h⟩
  · intro id h
    cases hx : (canA hint keep n0 fl S).at (.o id) with
    | obj cs =>
      obtain ⟨_, _, _, ⟨_, h2, _⟩ | ⟨_, h2, _⟩⟩ := atO (at_mem hx (by simp))
      · exact hI.lo id (by rw [h2]; trivial)
      · exact hI.lo id (by rw [h2]; trivial)
    | bld bs =>
      obtain ⟨_, _, _, ⟨_, h2, _⟩ | ⟨_, h2, _⟩⟩ := atO (at_mem hx (by simp))
      · exact hI.lo id (by rw [h2]; trivial)
      · exact hI.lo id (by rw [h2]; trivial)
    | none => rw [hx] at h; exact h.elim
    | av v l => rw [hx] at h; exact h.elim
    | flag b => rw [hx] at h; exact h.elim
    | num n => rw [hx] at h; exact h.elim
  · intro id bs h
    obtain ⟨pre, post, h1, h23⟩ := atO (at_mem h (by simp))
    obtain ⟨bs', h2, h3⟩ := h23.resolve_left fun ⟨_, _, h⟩ => by cases h
    cases h3
    have hk : id ∈ keep := by rw [h1]; simp
    obtain ⟨b, e1, e2⟩ := hI.bld id _ h2
    exact ⟨b, hι id b (hI.lo id (by rw [h2]; trivial)) hk e1, by rw [hιh id hk]; exact e2⟩
  · intro id t b hlo e e'
    obtain ⟨_, h2⟩ := atY (at_mem e (by simp))
    exact hI.ty id t b hlo h2.symm (hι2 _ _ e').2
  · intro id id' b h1 h2
    exact hI.inj id id' b (hι2 _ _ h1).2 (hι2 _ _ h2).2
  · intro l hl
    rcases alive hl with ⟨u, sz, h1, a, n, rfl⟩ | ⟨m, h1, h2, _⟩
    · exact ⟨_, sz, h1, a, n, n, rfl, Nat.le_refl _, fun h => absurd h (Nat.lt_irrefl _)⟩
    · obtain ⟨u, sz, e1, a, n, cap, e2, e3, e4⟩ := hI.lab m h1
      refine ⟨u, sz, by rw [h2]; exact e1, a, n, cap, e2, e3, fun hlt => ?_⟩
      obtain ⟨b, o, us, ty, f1, f2, f3, f4, f5, f6⟩ := e4 hlt
      exact ⟨b, o, us, ty, f1, f2, f3, fun id hid => f4 id (hι2 _ _ hid).2, f5, f6⟩
  · intro l x hx
    by_cases hlf : l < fl
    · rw [hTfl hlf] at hx
      obtain ⟨b, hb⟩ := hI.labd l x hx
      obtain ⟨e, he⟩ := canL_key (S := S) (slots := slots) (labIds_mem (acc := []) (at_mem hb (by simp)) hlf)
      exact keyL ⟨e, by rw [hcan]; simp [he]⟩
    · have hx : canTT S slots n0 fl T uf l = some x := hx
      unfold canTT at hx
      rw [if_neg hlf] at hx
      by_cases hn : n0 ≤ l
      · rw [if_pos hn] at hx
        cases hp : slots[l - n0]? with
        | none => rw [hp] at hx; cases hx
        | some p =>
          obtain ⟨e, he⟩ := canF_key (S := S) (slots := slots) (n0 := n0) (ps := slots) (i := 0) (j := l - n0) (List.getElem?_eq_some_iff.mp hp).1
          rw [show n0 + (0 + (l - n0)) = l by omega] at he
          exact keyL ⟨e, by rw [hcan]; simp [he]⟩
      · rw [if_neg hn] at hx; cases hx
  · intro l l' x x' b hl hl' hx hx' hsp hsp'
    have nofull : ∀ {u : Value} {sz : Nat} {x : Value × Nat} {l}, T' l = some (u, sz) → Full u → T' l = some x → ¬ Spare x.1 b := by
      rintro u sz x l e1 ⟨a, n, rfl⟩ e2 ⟨o, n', cap, e3, hlt⟩
      rw [e1] at e2; cases e2
      simp only [Value.slice.injEq] at e3
      omega
    rcases alive hl with ⟨u, sz, h1, h2⟩ | ⟨m, h1, h2, h3⟩
    · exact absurd hsp (nofull h1 h2 hx)
    rcases alive hl' with ⟨u, sz, h1', h2'⟩ | ⟨m', h1', h2', h3'⟩
    · exact absurd hsp' (nofull h1' h2' hx')
    have hm := hI.one m m' x x' b h1 h1' (by rw [← h2]; exact hx) (by rw [← h2']; exact hx') hsp hsp'
    subst hm
    rcases h3 with ⟨e, hno⟩ | ⟨j, hj, e⟩ <;> rcases h3' with ⟨e', hno'⟩ | ⟨j', hj', e'⟩
    · rw [e, e']
    · obtain ⟨_, p, k1, k2⟩ := firstIdx_some hj'
      exact absurd k2 (hno _ p k1)
    · obtain ⟨_, p, k1, k2⟩ := firstIdx_some hj
      exact absurd k2 (hno' _ p k1)
    · rw [hj] at hj'; cases hj'; rw [e, e']
end
end Go.Proofs.YtgeheffhdpeddaaDoor.VX

/- CODE: the machine's wp of what the executor ran. Conditions: as each theorem states. -/
namespace Go.Proofs.YtgeheffhdpeddaaDoor.VX
open Go Go.RowKit

def Ex.to : Ex → Exit
  | .normal => .normal
  | .exit id => .exit id
  | .ret => .ret
  | .pan _ => .panic []

section
variable {P : Program} {W : World → Prop} {B : Base} {D : List Deferred} {susp : Exs} {nt fl : Nat}

theorem PostX.ne {ex : Ex} (hx : ex ≠ .normal) {S' : St} {e : Exit} {a : Act} {w : World} (h : PostX B D susp nt ex S' e a w) : e ≠ .normal := by
  cases ex with
  | normal => exact absurd rfl hx
  | exit id => rw [h.1]; simp
  | ret => rw [h.1]; simp
  | pan v => obtain ⟨u, e, _⟩ := h; rw [e]; simp
theorem then_ne {nx : Act → World → Prop} {Q : Exit → Act → World → Prop} {e : Exit} {a : Act} {w : World} (he : e ≠ .normal) (h : Q e a w) : Exit.then nx Q e a w := by
  cases e with
  | normal => exact absurd rfl he
  | _ => exact h

/-- What a piece of code does from every state that is told. -/
def ExecOK (P : Program) (W : World → Prop) (nt fl : Nat) (c : Code) (S : St) (ex : Ex) (S' : St) : Prop :=
  ∀ (B : Base) (D : List Deferred) (susp : Exs), WB W B → (∀ v lab u, susp v lab u → ∀ l, lab = some l → l < fl) → ∀ a w, Good B D susp nt S.at a w → c.wp P (PostX B D susp nt ex S') a w

theorem can_good {hint keep : List Nat} {n0 : Nat} {S : St} {a : Act} {w : World} (hf : 1 ≤ fl) (h0 : fl ≤ n0) (hsusp : ∀ v lab u, susp v lab u → refsIn keep v = true ∧ ∀ l, lab = some l → l < fl) (h : Good B D susp nt S.at a w) : Good B D susp nt (canA hint keep n0 fl S).at a w := by
  obtain ⟨hd, hs, ι, T, st, hI⟩ := h
  obtain ⟨ι', T', hI'⟩ := canA_inv (hint := hint) hI hf h0 hsusp
  exact ⟨hd, hs, ι', T', st, hI'⟩

theorem iterA_ok {R : Type} {c : Code} {body : St → (Ex → St → Option R) → Option R} {can : St → St} (hb : ∀ S K r, body S K = some r → ∃ ex S', K ex S' = some r ∧ ExecOK P W nt fl c S ex S') :
    ∀ (m : Nat) (S : St) (K : Ex → St → Option R) (r : R), iterA body can m S K = some r → ∃ ex S', ex ≠ .normal ∧ K ex S' = some r ∧
      ∀ (B : Base) (D : List Deferred) (susp : Exs), WB W B → (∀ v lab u, susp v lab u → ∀ l, lab = some l → l < fl) → ((∀ S a w, Good B D susp nt S.at a w → Good B D susp nt (can S).at a w) → ∀ a w, Good B D susp nt S.at a w → Code.rounds P c (PostX B D susp nt ex S') m a w)
  | 0, _, _, _, h => by cases h
  | m + 1, S, K, r, h => by
    unfold iterA at h
    obtain ⟨ex1, S1, h1, h2⟩ := hb _ _ _ h
    by_cases hx : ex1 = .normal
    · subst hx
      obtain ⟨ex, S', h3, h4, h5⟩ := iterA_ok hb m _ _ _ h1
      refine ⟨ex, S', h3, h4, fun B D susp hB hsusp hc a w hg => ?_⟩
      refine wp_mono (h2 B D susp hB hsusp a w hg) ?_
      rintro e a' w' ⟨rfl, hg'⟩
      exact h5 B D susp hB hsusp hc a' w' (hc _ _ _ hg')
    · have h1' : K ex1 S1 = some r := by cases ex1 <;> first | exact absurd rfl hx | exact h1
      refine ⟨ex1, S1, hx, h1', fun B D susp hB hsusp hc a w hg => wp_mono (h2 B D susp hB hsusp a w hg) ?_⟩
      intro e a' w' hp
      have := hp.ne hx
      cases e <;> first | exact absurd rfl this | exact hp

theorem inBlock_ok {R : Type} {id : Nat} {ex : Ex} {S : St} {K : Ex → St → Option R} {r : R} (h : (match ex with | .exit j => bif Nat.beq j id then K .normal S else K ex S | e => K e S) = some r) :
    ∃ ex', K ex' S = some r ∧ ∀ (B : Base) (D : List Deferred) (susp : Exs) (e : Exit) (a : Act) (w : World), PostX B D susp nt ex S e a w → Exit.inBlock id (PostX B D susp nt ex' S) e a w := by
  cases ex with
  | normal => exact ⟨.normal, h, fun B D susp e a w hg => by obtain ⟨rfl, hg⟩ := hg; exact ⟨rfl, hg⟩⟩
  | ret => exact ⟨.ret, h, fun B D susp e a w hg => by obtain ⟨rfl, hg⟩ := hg; exact ⟨rfl, hg⟩⟩
  | pan v => exact ⟨.pan v, h, fun B D susp e a w hg => by obtain ⟨u, rfl, hg⟩ := hg; exact ⟨u, rfl, hg⟩⟩
  | exit j =>
    simp only at h
    cases hj : Nat.beq j id with
    | true =>
      rw [hj] at h
      refine ⟨.normal, h, fun B D susp e a w hg => ?_⟩
      obtain ⟨rfl, hg⟩ := hg
      have := Nat.eq_of_beq_eq_true hj
      simp only [Exit.inBlock, if_pos this]
      exact ⟨rfl, hg⟩
    | false =>
      rw [hj] at h
      refine ⟨.exit j, h, fun B D susp e a w hg => ?_⟩
      obtain ⟨rfl, hg⟩ := hg
      have : ¬ j = id := fun e => by rw [e] at hj; simp at hj
      simp only [Exit.inBlock, if_neg this]
      exact ⟨rfl, hg⟩

theorem execA_ok {R : Type} {cf : FuncId → List AV → (AV → Option R) → Option R} {ci : FuncId → List AV → St → (Oc → St → Option R) → Option R} {inl : FuncId → Option Bool} {G : Globs} (hP : ProgOK P) (hG : ∀ w, W w → GlobOK G w) (hcf : ∀ f args K r, cf f args K = some r → ∃ v, K v = some r ∧ CallG P W f args v)
    (hci : ∀ f args S K r, ci f args S K = some r → ∃ v S', K v S' = some r ∧ InlOK P W f args S v S') {hint : Nat → List Nat} {n : Nat} :
    ∀ (c : Code) {S : St} {K : Ex → St → Option R} {r : R}, dstsOK nt c = true → execA P cf ci inl G hint fl n c S K = some r → ∃ ex S', K ex S' = some r ∧ ExecOK P W nt fl c S ex S' := by
  intro c
  induction hsz : SizeOf.sizeOf c using Nat.strongRecOn generalizing c with
  | _ sz ih =>
  subst hsz
  intro S K r hd h
  cases c with
  | skip => unfold execA at h; exact ⟨.normal, S, h, fun B D susp hB hsusp a w hg => wp_skip ⟨rfl, hg⟩⟩
  | region id ops draw =>
    unfold execA at h
    obtain ⟨ex, Sn, h1, h2⟩ := regionA_ok (nt := nt) hP hG hcf hci hd h
    exact ⟨ex, Sn, h1, fun B D susp hB _ => h2 B D susp hB⟩
  | seq x y =>
    unfold execA at h
    simp only [dstsOK, Bool.and_eq_true] at hd
    obtain ⟨ex1, S1, h1, h2⟩ := ih (SizeOf.sizeOf x) (by simp; omega) x rfl hd.1 h
    by_cases hx : ex1 = .normal
    · subst hx
      obtain ⟨ex, S', h3, h4⟩ := ih (SizeOf.sizeOf y) (by simp; omega) y rfl hd.2 h1
      refine ⟨ex, S', h3, fun B D susp hB hsusp a w hg => wp_seq (wp_mono (h2 B D susp hB hsusp a w hg) ?_)⟩
      rintro e a' w' ⟨rfl, hg'⟩
      exact h4 B D susp hB hsusp a' w' hg'
    · have h1' : K ex1 S1 = some r := by cases ex1 <;> first | exact absurd rfl hx | exact h1
      refine ⟨ex1, S1, h1', fun B D susp hB hsusp a w hg => wp_seq (wp_mono (h2 B D susp hB hsusp a w hg) ?_)⟩
      intro e a' w' hp
      exact then_ne (hp.ne hx) hp
  | cond c x y =>
    unfold execA at h
    simp only [dstsOK, Bool.and_eq_true] at hd
    split at h
    · rename_i t
      split at h
      · rename_i b l hat
        have hev : ∀ {B : Base} {D : List Deferred} {susp : Exs} {a : Act} {w : World}, Good B D susp nt S.at a w → a.eval (.tmp t) = .bool b := by
          rintro B D susp a w ⟨_, _, ι, T, st, hI⟩
          exact (hI.live _ _ _ (.inl ⟨t, hat, rfl⟩)).1
        cases b with
        | true =>
          obtain ⟨ex, S', h3, h4⟩ := ih (SizeOf.sizeOf x) (by simp; omega) x rfl hd.1 h
          exact ⟨ex, S', h3, fun B D susp hB hsusp a w hg => wp_cond_true (hev hg) (h4 B D susp hB hsusp a w (by rw [at_sub hat]; exact hg))⟩
        | false =>
          obtain ⟨ex, S', h3, h4⟩ := ih (SizeOf.sizeOf y) (by simp; omega) y rfl hd.2 h
          exact ⟨ex, S', h3, fun B D susp hB hsusp a w hg => wp_cond_false (hev hg) (h4 B D susp hB hsusp a w (by rw [at_sub hat]; exact hg))⟩
      · cases h
    · rename_i b
      cases b with
      | true =>
        obtain ⟨ex, S', h3, h4⟩ := ih (SizeOf.sizeOf x) (by simp; omega) x rfl hd.1 h
        exact ⟨ex, S', h3, fun B D susp hB hsusp a w hg => wp_cond_true rfl (h4 B D susp hB hsusp a w hg)⟩
      | false =>
        obtain ⟨ex, S', h3, h4⟩ := ih (SizeOf.sizeOf y) (by simp; omega) y rfl hd.2 h
        exact ⟨ex, S', h3, fun B D susp hB hsusp a w hg => wp_cond_false rfl (h4 B D susp hB hsusp a w hg)⟩
    · cases h
  | block id c =>
    have hd : dstsOK nt c = true := by simpa only [dstsOK] using hd
    by_cases hl : ∃ c', c = .loop c'
    · obtain ⟨c', rfl⟩ := hl
      unfold execA at h
      simp only at h
      split at h
      · rename_i n0 hn
        cases hx : (Nat.ble 1 fl && Nat.ble fl n0) with
        | false => rw [hx] at h; cases h
        | true =>
          rw [hx] at h
          simp only [Bool.and_eq_true] at hx
          have hf : 1 ≤ fl := Nat.le_of_ble_eq_true hx.1
          have h0 : fl ≤ n0 := Nat.le_of_ble_eq_true hx.2
          simp only [cond_true, iterO_eq] at h
          obtain ⟨ex, S', h1, h2, h3⟩ := iterA_ok (P := P) (W := W) (nt := nt) (fl := fl) (c := c') (fun S K r hh => ih (SizeOf.sizeOf c') (by simp; omega) c' rfl (by simpa only [dstsOK] using hd) hh) _ _ _ _ h
          obtain ⟨ex', h4, h5⟩ := inBlock_ok (nt := nt) h2
          refine ⟨ex', S', h4, fun B D susp hB hsusp a w hg => wp_block (wp_loop_rounds n ?_)⟩
          have hk : ∀ v lab u, susp v lab u → refsIn (objIds S []) v = true ∧ ∀ l, lab = some l → l < fl := by
            intro v lab u hsu
            refine ⟨?_, hsusp v lab u hsu⟩
            obtain ⟨_, _, ι, T, st, hI⟩ := hg
            refine VRel.leans (fun id b hlo e => ?_) v u (hI.live v lab u (.inr hsu)).1
            have hc := (hI.dom id b e).1.resolve_right fun ⟨i, _, e, _⟩ => hid_lt (e ▸ hlo)
            exact objIds_mem (at_mem (e := S.at (.o id)) rfl (fun e => by rw [e] at hc; exact hc))
          have hr := h3 B D susp hB hsusp (fun S a w hg => can_good hf h0 hk hg) a w (can_good hf h0 hk hg)
          have hmono : ∀ {Q Q' : Exit → Act → World → Prop}, (∀ e a w, Q e a w → Q' e a w) → ∀ m a w, Code.rounds P c' Q m a w → Code.rounds P c' Q' m a w := by
            intro Q Q' hq m
            induction m with
            | zero => intro a w h; exact h
            | succ m ihm =>
              intro a w h
              refine wp_mono h ?_
              intro e a' w' he
              cases e <;> first | exact ihm _ _ he | exact hq _ _ _ he
          refine hmono ?_ _ _ _ hr
          intro e a' w' hp
          exact h5 B D susp e a' w' hp
      · cases h
    · have hne : execA P cf ci inl G hint fl n (.block id c) S K = execA P cf ci inl G hint fl n c S (fun e S => match e with | .exit j => bif Nat.beq j id then K .normal S else K e S | e => K e S) := by
        cases c <;> first | rfl | exact absurd ⟨_, rfl⟩ hl
      rw [hne] at h
      obtain ⟨ex, S', h1, h2⟩ := ih (SizeOf.sizeOf c) (by simp; omega) c rfl hd h
      obtain ⟨ex', h4, h5⟩ := inBlock_ok (nt := nt) h1
      refine ⟨ex', S', h4, fun B D susp hB hsusp a w hg => wp_block (wp_mono (h2 B D susp hB hsusp a w hg) ?_)⟩
      intro e a' w' hp
      exact h5 B D susp e a' w' hp
  | label l => unfold execA at h; exact ⟨.normal, S, h, fun B D susp hB hsusp a w hg => wp_label ⟨rfl, hg⟩⟩
  | scope c =>
    unfold execA at h
    obtain ⟨ex, S', h1, h2⟩ := ih (SizeOf.sizeOf c) (by simp) c rfl (by simpa only [dstsOK] using hd) h
    refine ⟨ex, S', h1, fun B D susp hB hsusp a w hg => wp_scope_straight (wp_mono (h2 B D susp hB hsusp a w hg) ?_)⟩
    intro e a' w' hp
    cases ex with
    | normal => obtain ⟨rfl, hp⟩ := hp; exact ⟨rfl, hp⟩
    | exit id => obtain ⟨rfl, hp⟩ := hp; exact ⟨rfl, hp⟩
    | ret => obtain ⟨rfl, hp⟩ := hp; exact ⟨rfl, hp⟩
    | pan v => obtain ⟨u, rfl, hp⟩ := hp; exact ⟨u, rfl, hp⟩
  | exit id => unfold execA at h; exact ⟨.exit id, S, h, fun B D susp hB hsusp a w hg => wp_exit ⟨rfl, hg⟩⟩
  | ret => unfold execA at h; exact ⟨.ret, S, h, fun B D susp hB hsusp a w hg => wp_ret ⟨rfl, hg⟩⟩
  | _ => unfold execA at h; cases h
end
end Go.Proofs.YtgeheffhdpeddaaDoor.VX

/- CALLS: what the executor answers of a call, the machine's call does. Conditions: as each theorem states. -/
namespace Go.Proofs.YtgeheffhdpeddaaDoor.VX
open Go Go.RowKit

theorem dstsOK_mono {n m : Nat} (h : n ≤ m) : ∀ {c : Code}, dstsOK n c = true → dstsOK m c = true := by
  intro c
  induction c with
  | region id ops draw =>
    intro hd
    simp only [dstsOK, Bool.and_eq_true, List.all_eq_true] at hd ⊢
    refine ⟨fun o ho => ?_, hd.2⟩
    have := hd.1 o ho
    cases hx : o.dst with
    | none => rfl
    | some x => rw [hx] at this; exact Nat.blt_eq.mpr (Nat.lt_of_lt_of_le (Nat.blt_eq.mp this) h)
  | seq a b iha ihb => intro hd; simp only [dstsOK, Bool.and_eq_true] at hd ⊢; exact ⟨iha hd.1, ihb hd.2⟩
  | cond c a b iha ihb => intro hd; simp only [dstsOK, Bool.and_eq_true] at hd ⊢; exact ⟨iha hd.1, ihb hd.2⟩
  | block id a iha => intro hd; simp only [dstsOK] at hd ⊢; exact iha hd
  | loop a iha => intro hd; simp only [dstsOK] at hd ⊢; exact iha hd
  | scope a iha => intro hd; simp only [dstsOK] at hd ⊢; exact iha hd
  | _ => intro _; rfl

section
variable {P : Program} {B : Base} {ι : Inj} {T : Labs} {st : Cells} {w : World} {g : Key → Ent} {ex : Exs} {G : Globs} {a : Act} {cf : FuncId → List AV → Option AV}

/-! ### results -/
def resF (tmps : Array Value) : ResultVar → Sem Value
  | .tmp t => pure (tmps.getD t undef)
  | .cell a t => do loadVar t (← asAddr (tmps.getD a undef))
theorem results_eq (fn : Func) (tmps : Array Value) : results fn tmps = (do let vs ← fn.results.mapM (resF tmps); pure (if h : vs.size = 1 then vs[0] else .tuple vs)) := by
  have : resF tmps = (fun | .tmp t => pure (tmps.getD t undef) | .cell a t => do loadVar t (← asAddr (tmps.getD a undef))) := by
    funext r
    cases r <;> rfl
  rw [this]
  rfl
theorem loadAt_asAddr {t : TypeId} {u r : Value} (h : (Instr.loadAt t u).run P w = .ok r w) : (do loadVar t (← asAddr u)).run P w = .ok r w := by
  unfold Instr.loadAt at h
  cases u with
  | pointer p =>
    cases p with
    | some a => exact h
    | none => simp [Instr.sureAddr, stuck] at h
  | _ => simp [Instr.sureAddr, stuck] at h
theorem resA_ok (hI : Inv B ι T st g ex w) (ht : Tmps g a ex) (hG : GlobOK G w) : ∀ {rs : List ResultVar} {tys : List TypeId} {vs : List AV}, Rd.val cf g (resA P G rs tys) = some vs → ∃ us, (rs.mapM (resF a.tmps)).run P w = .ok us w ∧ VRels st w ι vs us
  | [], tys, vs, h => by cases h; exact ⟨[], by simp, rfl⟩
  | r :: rs, tys, vs, h => by
    unfold resA at h
    simp only [Rd.val_bind', Option.bind_eq_some_iff] at h
    obtain ⟨v, h1, vs', h2, h3⟩ := h
    cases h3
    obtain ⟨us, k1, k2⟩ := resA_ok hI ht hG h2
    have : ∃ u, (resF a.tmps r).run P w = .ok u w ∧ VRel st w ι v u := by
      cases r with
      | tmp t =>
        simp only [Rd.val_bind', Option.bind_eq_some_iff] at h1
        obtain ⟨⟨v', l⟩, h4, h5⟩ := h1
        cases h5
        exact ⟨a.eval (.tmp t), rfl, (ev_ok hI ht h4).1⟩
      | cell ad t =>
        simp only [Rd.val_bind', Option.bind_eq_some_iff] at h1
        obtain ⟨⟨v', l⟩, h4, ⟨v2, l2⟩, h5, h6⟩ := h1
        cases h6
        obtain ⟨u, k3, k4, _⟩ := loadA_ok hI hG (ev_ok hI ht h4).1 h5
        exact ⟨u, loadAt_asAddr k3, k4⟩
    obtain ⟨u, k3, k4⟩ := this
    refine ⟨u :: us, ?_, u, us, rfl, (norm_rel (T := T) (lab := none) k4 trivial).1, k2⟩
    rw [List.mapM_cons]
    simp [k3, k1]
theorem tup_rel {vs : List AV} {us : List Value} (h : VRels st w ι vs us) : VRel st w ι (tupA vs) (if h : us.toArray.size = 1 then us.toArray[0] else .tuple us.toArray) := by
  unfold tupA
  split
  · rename_i v
    obtain ⟨u, us', rfl, h1, h2⟩ := h
    obtain rfl : us' = [] := h2
    simpa using h1
  · rename_i hne
    rw [dif_neg]
    · exact ⟨_, rfl, by simpa using h⟩
    · intro hs
      cases vs with
      | nil => have : us = [] := h; subst this; simp at hs
      | cons v vs =>
        obtain ⟨u, us', rfl, h1, h2⟩ := h
        cases vs with
        | nil => exact hne v rfl
        | cons v' vs =>
          obtain ⟨u', us'', rfl, _⟩ := h2
          simp at hs

/-! ### what is let go -/
def Frozen (st : Cells) (ι : Inj) (w : World) : Cells := fun b o => st b o ∨ ∃ id us ty, ι id = some b ∧ w.heap[b]? = some (.cells us ty (0, 0)) ∧ o < us.size

theorem manyO_rels {f : AV → Option AV} {st' : Cells} {ι' : Inj} (hf : ∀ v v' u, f v = some v' → VRel st w ι v u → VRel st' w ι' v' u) : ∀ {l l' : List AV} {us : List Value}, manyO f l = some l' → VRels st w ι l us → VRels st' w ι' l' us
  | [], _, us, h, hv => by cases h; exact hv
  | c :: cs, l', us, h, hv => by
    simp only [manyO, Option.bind_eq_some_iff, Option.map_eq_some_iff] at h
    obtain ⟨c', h1, cs', h2, rfl⟩ := h
    obtain ⟨u, us', rfl, h3, h4⟩ := hv
    exact ⟨u, us', rfl, hf _ _ _ h1 h3, manyO_rels hf h2 h4⟩
theorem manyO_cells {f : AV → Option AV} {st' : Cells} {b : Nat} (hf : ∀ v v' u, f v = some v' → VRel st w ι v u → VRel st' w nop v' u) : ∀ {cs : List (AV × Option Nat)} {cs' : List AV} {us : List Value} {o : Nat}, manyO f (cs.map (·.1)) = some cs' → LRels st w ι T cs us →
    (∀ j u, us[j]? = some u → st' b (o + j) ∧ w.cell? ⟨b, o + j, none⟩ = some u) → CsRel st' w cs' b o
  | [], _, us, o, h, hv, _ => by cases h; trivial
  | (c, l) :: cs, l', us, o, h, hv, hu => by
    simp only [List.map_cons, manyO, Option.bind_eq_some_iff, Option.map_eq_some_iff] at h
    obtain ⟨c', h1, cs', h2, rfl⟩ := h
    obtain ⟨u, us', rfl, h0, h3, _, h4⟩ := hv
    have k := hu 0 u rfl
    refine ⟨⟨u, k.1, k.2, h0, hf _ _ _ h1 h3⟩, manyO_cells hf h2 h4 fun j u' hj => ?_⟩
    have := hu (j + 1) u' (by simpa using hj)
    rw [show o + 1 + j = o + (j + 1) by omega]; exact this

theorem freeze_ok {S : St} (hI : Inv B ι T st S.at ex w) : ∀ (n : Nat) (v v' : AV) (u : Value), freezeA S n v = some v' → VRel st w ι v u → VRel (Frozen st ι w) w nop v' u
  | 0, _, _, _, h, _ => by cases h
  | n + 1, v, v', u, h, hv => by
    have ih := freeze_ok hI n
    have hs : Stays st w (Frozen st ι w) w := ⟨fun _ _ x => .inl x, fun _ _ _ => rfl⟩
    have plain : pureAV v = true → VRel (Frozen st ι w) w nop v u := fun hp => VRel.mono hs (ιLe.refl nop) _ _ (VRel.pure (ι' := nop) _ _ hp hv)
    unfold freezeA at h
    cases v with
    | agg cs =>
      simp only [Option.map_eq_some_iff] at h
      obtain ⟨cs', h1, rfl⟩ := h
      obtain ⟨us, e, o, h2⟩ := hv
      exact ⟨us, e, o, manyO_rels (fun _ _ _ => ih _ _ _) h1 h2⟩
    | tup cs =>
      simp only [Option.map_eq_some_iff] at h
      obtain ⟨cs', h1, rfl⟩ := h
      obtain ⟨us, e, h2⟩ := hv
      exact ⟨us, e, manyO_rels (fun _ _ _ => ih _ _ _) h1 h2⟩
    | fn f l c =>
      simp only [Option.bind_eq_some_iff, Option.map_eq_some_iff] at h
      obtain ⟨l', h1, c', h2, rfl⟩ := h
      obtain ⟨ul, uc, e, h3, h4⟩ := hv
      exact ⟨ul, uc, e, manyO_rels (fun _ _ _ => ih _ _ _) h1 h3, manyO_rels (fun _ _ _ => ih _ _ _) h2 h4⟩
    | iface t x =>
      simp only [Option.map_eq_some_iff] at h
      obtain ⟨x', h1, rfl⟩ := h
      obtain ⟨u', e, h2⟩ := hv
      exact ⟨u', e, ih _ _ _ h1 h2⟩
    | ptr id off =>
      simp only at h
      split at h
      · rename_i cs hc
        simp only [Option.map_eq_some_iff] at h
        obtain ⟨cs', h1, rfl⟩ := h
        obtain ⟨b, ⟨hb, _⟩, rfl⟩ := hv
        obtain ⟨b', us, ty, e1, e2, e3, _⟩ := hI.obj id cs hc
        rw [hb] at e1; cases e1
        refine ⟨b, 0, by rw [Nat.zero_add], manyO_cells (fun _ _ _ => ih _ _ _) h1 e3 fun j x hj => ?_⟩
        have hj' : us[j]? = some x := by simpa using hj
        have hlt : j < us.size := (Array.getElem?_eq_some_iff.mp hj').1
        rw [Nat.zero_add]
        exact ⟨.inr ⟨id, us, ty, hb, e2, hlt⟩, by simp [World.cell?, e2, hj']⟩
      · cases h
    | int k n => cases h; exact plain rfl
    | u8 b => cases h; exact plain rfl
    | bool b => cases h; exact plain rfl
    | str s => cases h; exact plain rfl
    | raw x => cases h; exact plain rfl
    | view sz xs => cases h; exact plain rfl
    | part sz xs ys => cases h; exact plain rfl
    | cptr cs off => cases h; exact plain rfl
    | top => cases h; exact plain rfl

/-! ### calls -/
theorem argsA_at : ∀ {args : List AV} {i t : Nat} {S : St} {v : AV} {lab : Option Nat}, NoT S → (argsA i args ++ S).at (.t t) = .av v lab → ∃ j, args[j]? = some v ∧ t = i + j ∧ lab = none
  | [], i, t, S, v, lab, hS, h => by rw [argsA, List.nil_append, hS.at rfl] at h; cases h
  | x :: xs, i, t, S, v, lab, hS, h => by
    simp only [argsA, List.cons_append, St.at] at h
    cases hk : (Key.t i).same (.t t) with
    | true =>
      have e := Key.same_iff.mp hk
      cases e
      rw [hk] at h; cases h
      exact ⟨0, rfl, rfl, rfl⟩
    | false =>
      rw [hk] at h
      obtain ⟨j, h1, h2, h3⟩ := argsA_at hS h
      exact ⟨j + 1, by simpa using h1, by omega, h3⟩
theorem argsA_other : ∀ {args : List AV} {i : Nat} {S : St} {κ : Key}, isT κ = false → (argsA i args ++ S).at κ = S.at κ
  | [], _, _, _, _ => rfl
  | x :: xs, i, S, κ, h => by
    have hne : (Key.t i) ≠ κ := fun e => by subst e; cases h
    simp only [argsA, List.cons_append, St.at, Key.same_ne hne, cond_false]
    exact argsA_other h
theorem labsBelow_mem {fl : Nat} : ∀ {S : St} {l : Nat} {e : Ent}, labsBelow fl S = true → (.l l, e) ∈ S → l < fl
  | (k, e0) :: S, l, e, h, h0 => by
    rcases List.mem_cons.mp h0 with h1 | h1
    · cases h1
      simp only [labsBelow, Bool.and_eq_true] at h
      exact Nat.blt_eq.mp h.1
    · cases k with
      | l m => simp only [labsBelow, Bool.and_eq_true] at h; exact labsBelow_mem h.2 h1
      | _ => exact labsBelow_mem (by simpa only [labsBelow] using h) h1

/-- What holds of the table. -/
def TableOK (P : Program) (W : World → Prop) (X : Cx) : Prop := ∀ f g args v, X.table f = some g → (g args).val = some v → CallOK P W f args v

theorem askT_some {α R : Type} : ∀ {a : Ans α} {K : α → Option R} {r : R}, askT a K = some r → ∃ v, a.val = some v ∧ K v = some r
  | .no, _, _, h => by cases h
  | .one v, _, _, h => ⟨v, rfl, h⟩
  | .when c x, K, r, h => by
    cases c with
    | true => exact askT_some (a := x) h
    | false => cases h
  | .br c x y, K, r, h => by
    cases c with
    | true => exact askT_some (a := x) h
    | false => exact askT_some (a := y) h
theorem Ans.val_map {α β : Type} (f : α → β) : ∀ a : Ans α, (a.map f).val = a.val.map f
  | .no => rfl
  | .one _ => rfl
  | .when c x => by cases c <;> simp [Ans.map, Ans.val, Ans.val_map f x]
  | .br c x y => by cases c <;> simp [Ans.map, Ans.val, Ans.val_map f x, Ans.val_map f y]
/-- What holds of the rows of calls that share blocks. -/
def RowsOK (P : Program) (W : World → Prop) (X : Cx) : Prop := (∀ f g args S c S', X.rows f = some g → (g args S).val = some (c, S') → InlOK P W f args S c S') ∧ ∀ f g args v, X.pj f = some g → (g args).val = some v → CallG P W f args v
/-- What is known of the world stays while nothing old is written. -/
def WW (W : World → Prop) : Prop := ∀ w w', W w → Below w.heap.size w w' → W w'
theorem call_of_inl {W : World → Prop} {f : FuncId} {args : List AV} {c : Oc} {r : AV} {S' : St} (hWW : WW W) (h : InlOK P W f args [(.x, .num 1)] c S') (hf : letGo c S' = some r) : CallOK P W f args r := by
  obtain ⟨h1, h2, h3⟩ := h
  cases c with
  | pan v => cases hf
  | ret v =>
  have hf : freezeA S' 9 v = some r := hf
  refine ⟨h1, fun st w vals hW hlt hv => ?_⟩
  have hI : Inv ⟨w, st, fun b => b < w.heap.size⟩ nop (fun _ => none) st (St.at [(.x, .num 1)]) (fun _ _ _ => False) w := by
    refine ⟨Keeps.refl _ _, fun _ h => h, fun _ _ x => x, fun _ _ x => .inl x, hlt, fun _ _ _ x => x.elim, ?_, ?_, ?_, ?_, ?_, ?_, ?_, ?_, ?_⟩
    · intro id cs e; simp [St.at, Key.same] at e
    · intro id b e; cases e
    · intro id e; simp [St.at, Key.same, isBlk] at e
    · intro id bs e; simp [St.at, Key.same] at e
    · intro id t b _ e; simp [St.at, Key.same] at e
    · intro id id' b e; cases e
    · intro l e; simp [St.at, Key.same] at e
    · intro l x e; cases e
    · intro l l' x x' b e; simp [St.at, Key.same] at e
  refine Calls.mono (h3 ⟨w, st, fun b => b < w.heap.size⟩ _ nop _ st w vals (fun p hp => by simp at hp; subst hp; rfl) ⟨hW, fun w' hk => hWW w w' hW hk.below⟩ hI hv) ?_
  rintro e w' ⟨u, rfl, ι', T', st', hI'⟩
  refine ⟨u, Frozen st' ι' w', rfl, ⟨hI'.below.below, fun b o x => .inl (hI'.sub b o x), ?_, ?_⟩, freeze_ok hI' 9 v r u hf (hI'.live v none u (.inr ⟨rfl, rfl, rfl⟩)).1⟩
  · rintro b o (x | ⟨id, us, ty, e1, e2, _⟩)
    · exact (hI'.new b o x).imp_right Nat.not_lt.mp
    · exact .inr (Nat.not_lt.mp (hI'.own e1).1)
  · rintro b o (x | ⟨id, us, ty, e1, e2, _⟩)
    · exact hI'.lt b o x
    · exact lt_of_heap e2

theorem runI_ok {W : World → Prop} {X : Cx} (hP : ProgOK P) (hG : ∀ w, W w → GlobOK X.G w) (hWW : WW W) (hX : TableOK P W X) (hR : RowsOK P W X) :
    ∀ (n : Nat) (R : Type) (f : FuncId) (args : List AV) (S : St) (K : Oc → St → Option R) (r : R), runI P X n R f args S K = some r → ∃ v S', K v S' = some r ∧ InlOK P W f args S v S'
  | 0, _, _, _, _, _, _, h => by cases h
  | n + 1, R, f, args, S, K, r, h => by
    have ih := runI_ok hP hG hWW hX hR n
    unfold runI at h
    split at h
    · cases h
    rename_i fn hfn
    split at h
    · rename_i c fl hc hfl
      cases hx : (labsBelow fl S && Nat.ble 1 fl) with
      | false => rw [hx] at h; cases h
      | true =>
        rw [hx] at h
        simp only [cond_true] at h
        simp only [Bool.and_eq_true] at hx
        have h1 : 1 ≤ fl := Nat.le_of_ble_eq_true hx.2
        obtain ⟨ex, S1, h2, h3⟩ := execA_ok (W := W) (nt := args.length + (fn.ntmps - args.length)) hP hG
          (fun f args K r hh => by
            cases hp : pureAV.pures args with
            | true =>
              rw [hp] at hh
              simp only [cond_true] at hh
              split at hh
              · rename_i g hg
                obtain ⟨v, k1, k2⟩ := askT_some hh
                exact ⟨v, k2, (hX f g args v hg k1).gen hp⟩
              · obtain ⟨u, k0, k3⟩ := Option.bind_eq_some_iff.mp hh
                obtain ⟨v', S', k1, k2⟩ := ih _ _ _ _ _ _ k0
                exact ⟨u, k3, (call_of_inl hWW k2 k1).gen hp⟩
            | false =>
              rw [hp] at hh
              simp only [cond_false] at hh
              split at hh
              · rename_i g hg
                obtain ⟨v, k1, k2⟩ := askT_some hh
                exact ⟨v, k2, hR.2 f g args v hg k1⟩
              · cases hh)
          (fun f args S K r hh => by
            split at hh
            · rename_i g hg
              obtain ⟨⟨c, S'⟩, k1, k2⟩ := askT_some hh
              exact ⟨c, S', k2, hR.1 f g args S c S' hg k1⟩
            · exact ih _ _ _ _ _ _ hh) c (dstsOK_mono (by omega) (hP.dsts f fn c hfn hc)) h
        -- what it hands back
        have h4 : (∃ v, ex = .pan v ∧ K (.pan v) (nonT S1) = some r) ∨ ((ex = .normal ∨ ex = .ret) ∧ ∃ vs, Rd.val (fun _ _ => none) S1.at (resA P X.G fn.results.toList fn.resultTypes.toList) = some vs ∧ K (.ret (tupA vs)) (nonT S1) = some r) := by
          cases ex with
          | exit id => cases h2
          | pan v => exact .inl ⟨v, rfl, h2⟩
          | normal =>
            simp only [Rd.go_val, Option.bind_eq_some_iff] at h2
            obtain ⟨vs, k1, k2⟩ := h2
            exact .inr ⟨.inl rfl, vs, k1, k2⟩
          | ret =>
            simp only [Rd.go_val, Option.bind_eq_some_iff] at h2
            obtain ⟨vs, k1, k2⟩ := h2
            exact .inr ⟨.inr rfl, vs, k1, k2⟩
        have common : ∀ (B : Base) (susp : Exs) (ι : Inj) (T : Labs) (st : Cells) (w : World) (vals : List Value), NoT S → WB W B → Inv B ι T st S.at susp w → VRels st w ι args vals →
            c.wp P (PostX B [] susp (args.length + (fn.ntmps - args.length)) ex S1) { tmps := vals.toArray ++ Array.replicate (fn.ntmps - vals.toArray.size) undef, defers := [] } w := by
          intro B susp ι T st w vals hS hB hI hv
          have hlen : vals.length = args.length := VRels.length hv
          have hsusp : ∀ v lab u, susp v lab u → ∀ l, lab = some l → l < fl := by
            rintro v lab u hu l rfl
            have := (hI.live v _ u hu).2
            cases l with
            | zero => omega
            | succ l =>
              obtain ⟨sz, xs, e, hT⟩ := this
              obtain ⟨b, hb⟩ := hI.labd _ _ hT
              exact labsBelow_mem hx.1 (at_mem hb (by simp))
          have hgood : Good B [] susp (args.length + (fn.ntmps - args.length)) (argsA 0 args ++ S).at { tmps := vals.toArray ++ Array.replicate (fn.ntmps - vals.toArray.size) undef, defers := [] } w := by
            refine ⟨rfl, by simp [hlen], ι, T, st, (hI.keys (g' := (argsA 0 args ++ S).at) (fun id => argsA_other rfl) (fun l => argsA_other rfl) (fun id => argsA_other rfl)).exs ?_⟩
            rintro v lab u (⟨t, ht, rfl⟩ | hu)
            · obtain ⟨j, k1, k2, rfl⟩ := argsA_at hS ht
              obtain ⟨u, k3, k4⟩ := VRels.get hv k1
              refine .inr ⟨?_, trivial⟩
              have hj : j < vals.length := (List.getElem?_eq_some_iff.mp k3).1
              have : (vals.toArray ++ Array.replicate (fn.ntmps - vals.toArray.size) undef).getD t undef = u := by
                rw [k2, Nat.zero_add]
                rw [Array.getD_eq_getD_getElem?, Array.getElem?_append_left (by simpa using hj)]
                simp [k3]
              rw [this]; exact k4
            · exact .inl hu
          exact h3 B [] susp hB hsusp _ _ hgood
        rcases h4 with ⟨v, rfl, h6⟩ | ⟨hex, vs, h5, h6⟩
        · refine ⟨.pan v, nonT S1, h6, ⟨fn, hfn, by rw [hc]; rfl⟩, NoT.nonT S1, fun B susp ι T st w vals hS hB hI hv => calls_of_wp hfn hc (wp_mono (common B susp ι T st w vals hS hB hI hv) ?_)⟩
          rintro e a' w' ⟨u, rfl, hg⟩
          obtain ⟨hd, ι', T', st', hI'⟩ := hg.nonT
          exact ⟨hd, u, rfl, ι', T', st', hI'⟩
        · refine ⟨.ret (tupA vs), nonT S1, h6, ⟨fn, hfn, by rw [hc]; rfl⟩, NoT.nonT S1, fun B susp ι T st w vals hS hB hI hv => calls_of_wp hfn hc (wp_mono (common B susp ι T st w vals hS hB hI hv) ?_)⟩
          intro e a' w' hp
          have hp' : (e = .normal ∨ e = .ret) ∧ Good B [] susp (args.length + (fn.ntmps - args.length)) S1.at a' w' := by
            rcases hex with rfl | rfl
            · exact ⟨.inl hp.1, hp.2⟩
            · exact ⟨.inr hp.1, hp.2⟩
          obtain ⟨he, hd, hs, ι', T', st', hI'⟩ := hp'
          have ht : Tmps S1.at a' (Live S1.at a'.tmps susp) := fun t v lab e => .inl ⟨t, e, rfl⟩
          obtain ⟨us, k1, k2⟩ := resA_ok hI' ht (hG w' (hB.2 w' hI'.below)) h5
          have hfin : a'.defers = [] ∧ ∃ v, (results fn a'.tmps).run P w' = .ok v w' ∧ ∃ u, (Oc.ret (tupA vs)).ends u (.returned v) ∧ ∃ ι' T' st', Inv B ι' T' st' (nonT S1).at (fun v' lab u' => susp v' lab u' ∨ (v' = (Oc.ret (tupA vs)).val ∧ lab = none ∧ u' = u)) w' := by
            refine ⟨hd, (if h : us.toArray.size = 1 then us.toArray[0] else .tuple us.toArray), ?_, _, rfl, ι', T', st', (hI'.keys (g' := (nonT S1).at) (fun id => nonT_at rfl) (fun l => nonT_at rfl) (fun id => nonT_at rfl)).exs ?_⟩
            · rw [results_eq, Array.mapM_eq_mapM_toList]
              simp only [map_eq_pure_bind, bind_assoc, pure_bind]
              simp [k1]
            · rintro v' lab u' (hu | ⟨rfl, rfl, rfl⟩)
              · exact .inl (.inr hu)
              · exact .inr ⟨tup_rel k2, trivial⟩
          rcases he with rfl | rfl
          · exact hfin
          · exact hfin
    · cases h

/-- A CALL OF PLAIN ARGUMENTS. -/
theorem runA_ok {W : World → Prop} {X : Cx} (hP : ProgOK P) (hG : ∀ w, W w → GlobOK X.G w) (hWW : WW W) (hX : TableOK P W X) (hR : RowsOK P W X) {n : Nat} {f : FuncId} {args : List AV} {r : AV} (h : runA P X n f args = some r) : CallOK P W f args r := by
  unfold runA at h
  split at h
  · rename_i g hg
    obtain ⟨v, k1, k2⟩ := askT_some h
    cases k2
    exact hX f g args _ hg k1
  · obtain ⟨v, S', k1, k2⟩ := runI_ok hP hG hWW hX hR n _ _ _ _ _ _ h
    exact call_of_inl hWW k2 k1
/-- A BODY's RUN: as a call's. -/
theorem runB_ok {W : World → Prop} {X : Cx} (hP : ProgOK P) (hG : ∀ w, W w → GlobOK X.G w) (hWW : WW W) (hX : TableOK P W X) (hR : RowsOK P W X) {n : Nat} {f : FuncId} {args : List AV} {r : AV} (h : runB P X n f args = some r) : CallOK P W f args r := by
  obtain ⟨v, S', k1, k2⟩ := runI_ok hP hG hWW hX hR n _ _ _ _ _ _ h
  exact call_of_inl hWW k2 k1
end
end Go.Proofs.YtgeheffhdpeddaaDoor.VX
