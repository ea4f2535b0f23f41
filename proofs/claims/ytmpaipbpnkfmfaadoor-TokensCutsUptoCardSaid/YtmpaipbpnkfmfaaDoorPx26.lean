/- THE PROGRAM's FUNCTIONS AS PLAIN LEAN FUNCTIONS, and proofs that its calls come to them: written by a program of this claim's own. Conditions: as each theorem states. -/
import Derived.Test.YtmpaipbpnkfmfaaDoorPx0
import Derived.Test.YtmpaipbpnkfmfaaDoorPx9
import Derived.Test.YtmpaipbpnkfmfaaDoorPx10
import Derived.Test.YtmpaipbpnkfmfaaDoorPx11
import Derived.Test.YtmpaipbpnkfmfaaDoorGl
import Derived.Test.YtmpaipbpnkfmfaaDoorGw
namespace Go.Proofs.YtmpaipbpnkfmfaaDoor.P
open Go.RowKit Go.Proofs.YtmpaipbpnkfmfaaDoorW.PrintWords Go.Proofs.YtmpaipbpnkfmfaaDoorW.PrintLast Go.Proofs.YtmpaipbpnkfmfaaDoorW.PrintMore
attribute [local go_sem] max2_int min2_int max_two min_two max_three min_three max_four min_four   -- for this text's walks alone
set_option linter.unusedVariables false
set_option linter.unusedSimpArgs false

attribute [local go_sem high] isSome_setCell_
/-! ### hearsayref04_one: function 35 -/
mutual
def hearsayref04_one.j0 : Nat → ByteArray → Int → Int → Int → Bool → Option (Int × ByteArray × Int × Int × Int × Int × Int)
 | 0, _, _, _, _, _ => none
 | k + 1, x0, x1, x6, x7, x17 => if x17 = true then (some (5, (⟨#[]⟩ : ByteArray), 0, x1, x7, 0, 0)) else ((hearsayref04_small.f x6).bind fun t487 => (if t487 = true then (if 0 ≤ x1 then (if x1 ≤ x7 then (if x7 ≤ (x0.size : Int) then (some (1, x0.extract (x1 : Int).toNat (x7 : Int).toNat, 0, x1, x7, 0, 0)) else (none)) else (none)) else (none)) else ((hearsayref04_great.f x6).bind fun t488 => (if t488 = true then (if 0 ≤ x1 then (if x1 ≤ x7 then (if x7 ≤ (x0.size : Int) then (some (2, x0.extract (x1 : Int).toNat (x7 : Int).toNat, 0, x1, x7, 0, 0)) else (none)) else (none)) else (none)) else ((hearsayref04_digit.f x6).bind fun t489 => (if t489 = true then (hearsayref04_one.j1 k x0 x1 x6 x7 true) else (hearsayref04_one.j1 k x0 x1 x6 x7 (x6 == 45))))))))
def hearsayref04_one.j1 : Nat → ByteArray → Int → Int → Int → Bool → Option (Int × ByteArray × Int × Int × Int × Int × Int)
 | 0, _, _, _, _, _ => none
 | k + 1, x0, x1, x6, x7, x53 => if x53 = true then (if x6 = 45 then ((hearsayref04_run.f k x0 (wrap64 (x1 + 1))).bind fun t490 => (if 0 ≤ x1 then (if x1 ≤ t490 then (if t490 ≤ (x0.size : Int) then ((hearsayref04_Number.f k (x0.extract (x1 : Int).toNat (t490 : Int).toNat)).bind fun bt491 => (if bt491.2 = true then (some (4, (⟨#[]⟩ : ByteArray), bt491.1, x1, t490, 0, 0)) else (some (0, (⟨#[]⟩ : ByteArray), 0, 0, 0, 45, x1)))) else (none)) else (none)) else (none))) else (if 0 ≤ x1 then (if x1 ≤ x7 then (if x7 ≤ (x0.size : Int) then ((hearsayref04_Number.f k (x0.extract (x1 : Int).toNat (x7 : Int).toNat)).bind fun bt493 => (if bt493.2 = true then (some (4, (⟨#[]⟩ : ByteArray), bt493.1, x1, x7, 0, 0)) else (some (0, (⟨#[]⟩ : ByteArray), 0, 0, 0, 45, x1)))) else (none)) else (none)) else (none))) else (if x6 = 34 then ((hearsayref04_quoted.f k x0 x1).bind fun bt495 => (some (bt495.1, bt495.2.1, bt495.2.2.1, bt495.2.2.2.1, bt495.2.2.2.2.1, bt495.2.2.2.2.2.1, bt495.2.2.2.2.2.2))) else (hearsayref04_one.l0 k x0 x1 0))
def hearsayref04_one.l0 : Nat → ByteArray → Int → Int → Option (Int × ByteArray × Int × Int × Int × Int × Int)
 | 0, _, _, _ => none
 | k + 1, x0, x1, x10 => if x10 < 11 then (if 0 ≤ x10 then (if x10 < (lg0.length : Int) then (if (wrap64 (x1 + ((rdOf ByteArray.empty lg0 x10).size : Int))) ≤ (x0.size : Int) then (if 0 ≤ x1 then (if x1 ≤ (wrap64 (x1 + ((rdOf ByteArray.empty lg0 x10).size : Int))) then (if (x0.extract (x1 : Int).toNat ((wrap64 (x1 + ((rdOf ByteArray.empty lg0 x10).size : Int))) : Int).toNat).toList = (rdOf ByteArray.empty lg0 x10).toList then (if x10 < (lg1.length : Int) then (some (rd lg1 x10, (⟨#[]⟩ : ByteArray), 0, x1, wrap64 (x1 + ((rdOf ByteArray.empty lg0 x10).size : Int)), 0, 0)) else (none)) else (hearsayref04_one.l0 k x0 x1 (wrap64 (x10 + 1)))) else (none)) else (none)) else (hearsayref04_one.l0 k x0 x1 (wrap64 (x10 + 1)))) else (none)) else (none)) else (some (0, (⟨#[]⟩ : ByteArray), 0, 0, 0, 42, x1))
end
def hearsayref04_one.f (k : Nat) (a0 : ByteArray) (a1 : Int) : Option (Int × ByteArray × Int × Int × Int × Int × Int) := if 0 ≤ a1 then (if a1 < (a0.size : Int) then ((hearsayref04_run.f k a0 a1).bind fun t485 => ((hearsayref04_small.f (bt a0 a1)).bind fun t486 => (if t486 = true then (if a1 ≤ t485 then (if t485 ≤ (a0.size : Int) then (hearsayref04_one.j0 k a0 a1 (bt a0 a1) t485 ((a0.extract (a1 : Int).toNat (t485 : Int).toNat).toList == ([115, 97, 121, 115] : List UInt8))) else (none)) else (none)) else (hearsayref04_one.j0 k a0 a1 (bt a0 a1) t485 false)))) else (none)) else (none)
theorem hearsayref04_one.mono_l : ∀ k, (∀ y0 y1 y2 y3 y4, LeO (hearsayref04_one.j0 k y0 y1 y2 y3 y4) (hearsayref04_one.j0 (k + 1) y0 y1 y2 y3 y4)) ∧ (∀ y0 y1 y2 y3 y4, LeO (hearsayref04_one.j1 k y0 y1 y2 y3 y4) (hearsayref04_one.j1 (k + 1) y0 y1 y2 y3 y4)) ∧ (∀ y0 y1 y2, LeO (hearsayref04_one.l0 k y0 y1 y2) (hearsayref04_one.l0 (k + 1) y0 y1 y2))
 | 0 => ⟨fun _ _ _ _ _ r h => by simp [hearsayref04_one.j0] at h, fun _ _ _ _ _ r h => by simp [hearsayref04_one.j1] at h, fun _ _ _ r h => by simp [hearsayref04_one.l0] at h⟩
 | k + 1 => by
  obtain ⟨ih0, ih1, ih2⟩ := hearsayref04_one.mono_l k
  refine ⟨?_, ?_, ?_⟩
  ·intro y0 y1 y2 y3 y4
   unfold hearsayref04_one.j0
   repeat' first
   | (with_reducible exact ih0 _ _ _ _ _)
   | (with_reducible exact ih1 _ _ _ _ _)
   | (with_reducible exact ih2 _ _ _)
   | (with_reducible exact hearsayref04_Number.mono _ _)
   | (with_reducible exact hearsayref04_quoted.mono _ _ _)
   | (with_reducible exact hearsayref04_run.mono _ _ _)
   | (with_reducible exact LeO.refl _)
   | (with_reducible exact LeO.none _)
   | (with_reducible refine LeO.ite ?_ ?_)
   | (with_reducible refine LeO.bind ?_ (fun _ => ?_))
   | exact ih0 _ _ _ _ _
   | exact ih1 _ _ _ _ _
   | exact ih2 _ _ _
   | exact hearsayref04_Number.mono _ _
   | exact hearsayref04_quoted.mono _ _ _
   | exact hearsayref04_run.mono _ _ _
   | exact LeO.none _
   | refine LeO.ite ?_ ?_
   | refine LeO.bind ?_ (fun _ => ?_)
  ·intro y0 y1 y2 y3 y4
   unfold hearsayref04_one.j1
   repeat' first
   | (with_reducible exact ih0 _ _ _ _ _)
   | (with_reducible exact ih1 _ _ _ _ _)
   | (with_reducible exact ih2 _ _ _)
   | (with_reducible exact hearsayref04_Number.mono _ _)
   | (with_reducible exact hearsayref04_quoted.mono _ _ _)
   | (with_reducible exact hearsayref04_run.mono _ _ _)
   | (with_reducible exact LeO.refl _)
   | (with_reducible exact LeO.none _)
   | (with_reducible refine LeO.ite ?_ ?_)
   | (with_reducible refine LeO.bind ?_ (fun _ => ?_))
   | exact ih0 _ _ _ _ _
   | exact ih1 _ _ _ _ _
   | exact ih2 _ _ _
   | exact hearsayref04_Number.mono _ _
   | exact hearsayref04_quoted.mono _ _ _
   | exact hearsayref04_run.mono _ _ _
   | exact LeO.none _
   | refine LeO.ite ?_ ?_
   | refine LeO.bind ?_ (fun _ => ?_)
  ·intro y0 y1 y2
   unfold hearsayref04_one.l0
   repeat' first
   | (with_reducible exact ih0 _ _ _ _ _)
   | (with_reducible exact ih1 _ _ _ _ _)
   | (with_reducible exact ih2 _ _ _)
   | (with_reducible exact hearsayref04_Number.mono _ _)
   | (with_reducible exact hearsayref04_quoted.mono _ _ _)
   | (with_reducible exact hearsayref04_run.mono _ _ _)
   | (with_reducible exact LeO.refl _)
   | (with_reducible exact LeO.none _)
   | (with_reducible refine LeO.ite ?_ ?_)
   | (with_reducible refine LeO.bind ?_ (fun _ => ?_))
   | exact ih0 _ _ _ _ _
   | exact ih1 _ _ _ _ _
   | exact ih2 _ _ _
   | exact hearsayref04_Number.mono _ _
   | exact hearsayref04_quoted.mono _ _ _
   | exact hearsayref04_run.mono _ _ _
   | exact LeO.none _
   | refine LeO.ite ?_ ?_
   | refine LeO.bind ?_ (fun _ => ?_)
theorem hearsayref04_one.mono : ∀ a0 a1 k, LeO (hearsayref04_one.f k a0 a1) (hearsayref04_one.f (k + 1) a0 a1) := by
 intro a0 a1 k
 obtain ⟨ih0, ih1, ih2⟩ := hearsayref04_one.mono_l k
 unfold hearsayref04_one.f
 repeat' first
   | (with_reducible exact ih0 _ _ _ _ _)
   | (with_reducible exact ih1 _ _ _ _ _)
   | (with_reducible exact ih2 _ _ _)
   | (with_reducible exact hearsayref04_Number.mono _ _)
   | (with_reducible exact hearsayref04_quoted.mono _ _ _)
   | (with_reducible exact hearsayref04_run.mono _ _ _)
   | (with_reducible exact LeO.refl _)
   | (with_reducible exact LeO.none _)
   | (with_reducible refine LeO.ite ?_ ?_)
   | (with_reducible refine LeO.bind ?_ (fun _ => ?_))
   | exact ih0 _ _ _ _ _
   | exact ih1 _ _ _ _ _
   | exact ih2 _ _ _
   | exact hearsayref04_Number.mono _ _
   | exact hearsayref04_quoted.mono _ _ _
   | exact hearsayref04_run.mono _ _ _
   | exact LeO.none _
   | refine LeO.ite ?_ ?_
   | refine LeO.bind ?_ (fun _ => ?_)
set_option maxHeartbeats 20000000 in
set_option maxRecDepth 100000 in
theorem hearsayref04_one.calls (k : Nat) (a0 : ByteArray) (a1 : Int) (r1 : Int) (r2 : ByteArray) (r3 : Int) (r4 : Int) (r5 : Int) (r6 : Int) (r7 : Int) (w : World) (hG : GlR w) (h : hearsayref04_one.f k a0 a1 = some (r1, r2, r3, r4, r5, r6, r7)) :
  Calls Tryd.prog 35 #[.string a0, .int .i64 a1] w fun e w' => e = .returned (.tuple #[.agg #[.int .i64 r1, .string r2, .int .i64 r3, .int .i64 r4, .int .i64 r5], .agg #[.int .i64 r6, .int .i64 r7]]) ∧ Below w.heap.size w w' := by
 have hu33 := Tryd.underlying33
 have hu26 := Tryd.underlying26
 have HG := Aside0.mk hG
 clear hG
 have HRg0 := Aside0.mk (c_g0 HG.out)
 have HCg0 := Aside0.mk (show lg0.length ≤ cg0 from by decide)
 have HRg1 := Aside0.mk (c_g1 HG.out)
 have HCg1 := Aside0.mk (show lg1.length ≤ cg1 from by decide)
 have HB := Aside0.mk (Below.refl w.heap.size w)
 have H : (if 0 ≤ a1 then (if a1 < (a0.size : Int) then ((hearsayref04_run.f k a0 a1).bind fun t485 => ((hearsayref04_small.f (bt a0 a1)).bind fun t486 => (if t486 = true then (if a1 ≤ t485 then (if t485 ≤ (a0.size : Int) then (hearsayref04_one.j0 k a0 a1 (bt a0 a1) t485 ((a0.extract (a1 : Int).toNat (t485 : Int).toNat).toList == ([115, 97, 121, 115] : List UInt8))) else (none)) else (none)) else (hearsayref04_one.j0 k a0 a1 (bt a0 a1) t485 false)))) else (none)) else (none)) = some (r1, r2, r3, r4, r5, r6, r7) := h
 clear h
 by_cases c3 : 0 ≤ a1
 ·rw [if_pos c3] at H
  have c3b0 : decide (0 ≤ a1) = true := decide_eq_true c3
  clear c3
  by_cases c4 : a1 < (a0.size : Int)
  ·rw [if_pos c4] at H
   have c4b0 : decide (a1 < (a0.size : Int)) = true := decide_eq_true c4
   clear c4
   replace H := Option.bind_eq_some_iff.mp H
   obtain ⟨t485, A60, H⟩ := H
   replace H : ((hearsayref04_small.f (bt a0 a1)).bind fun t486 => (if t486 = true then (if a1 ≤ t485 then (if t485 ≤ (a0.size : Int) then (hearsayref04_one.j0 k a0 a1 (bt a0 a1) t485 ((a0.extract (a1 : Int).toNat (t485 : Int).toNat).toList == ([115, 97, 121, 115] : List UInt8))) else (none)) else (none)) else (hearsayref04_one.j0 k a0 a1 (bt a0 a1) t485 false))) = some (r1, r2, r3, r4, r5, r6, r7) := H
   have A6 := Aside0.mk A60
   clear A60
   have HC7 := Aside0.mk H
   clear H
   go_enter Tryd.func35, Tryd.ntmps35
   go_upto_region 3 with (first | ((with_reducible refine gate_dst (N := 4) rfl ?_); refine box_event ?hg (N := 4) ?hd (cs := #[.int .i64 0, .string (⟨#[]⟩ : ByteArray), .int .i64 0, .int .i64 0, .int .i64 0]) (t := 33) ?hr ?_; (case hd => rfl); (case hg => rfl); (case hr => first | (go_simp; done) | (go_simp; rfl)); intro gb483 hg w8 hbox hb; have n0_ := Aside0.mk (below_step h0_ hb); have n1_ := Aside0.mk (hbox); have n2_ := Aside0.mk ((by rw [hg]; exact (below_size h0_) : w.heap.size ≤ gb483)); have n3_ := Aside0.mk ((by rw [hg]; exact (below_size h0_) : w.heap.size ≤ gb483)); clear HB; have HB := n0_; have BK483 := n1_; have GW483 := n2_; have GE483 := n3_; clear n0_ n1_ n2_ n3_; clear hb hbox hg) | ((with_reducible refine gate_dst (N := 5) rfl ?_); refine box_event ?hg (N := 5) ?hd (cs := #[.int .i64 0, .int .i64 0]) (t := 26) ?hr ?_; (case hd => rfl); (case hg => rfl); (case hr => first | (go_simp; done) | (go_simp; rfl)); intro gb484 hg w9 hbox hb; have n0_ := Aside0.mk (blk_below (g := gb483) (o := .cells #[.int .i64 0, .string (⟨#[]⟩ : ByteArray), .int .i64 0, .int .i64 0, .int .i64 0] 33 (0, 0)) (bk_ BK483) hb); have n1_ := Aside0.mk (below_step h1_ hb); have n2_ := Aside0.mk (hbox); have n3_ := Aside0.mk ((by rw [hg]; exact (below_size h1_) : w.heap.size ≤ gb484)); have n4_ := Aside0.mk ((by rw [hg]; exact (below_size h1_) : w.heap.size ≤ gb484)); have n5_ := Aside0.mk ((by rw [hg]; exact Nat.ne_of_lt (blk_lt (g := gb483) (o := .cells #[.int .i64 0, .string (⟨#[]⟩ : ByteArray), .int .i64 0, .int .i64 0, .int .i64 0] 33 (0, 0)) (bk_ BK483)) : gb483 ≠ gb484)); have n6_ := Aside0.mk ((by rw [hg]; exact Nat.ne_of_gt (blk_lt (g := gb483) (o := .cells #[.int .i64 0, .string (⟨#[]⟩ : ByteArray), .int .i64 0, .int .i64 0, .int .i64 0] 33 (0, 0)) (bk_ BK483)) : gb484 ≠ gb483)); clear BK483; clear HB; have BK483 := n0_; have HB := n1_; have BK484 := n2_; have GW484 := n3_; have GE484 := n4_; have NB483_484 := n5_; have NB484_483 := n6_; clear n0_ n1_ n2_ n3_ n4_ n5_ n6_; clear hb hbox hg; have p5 : 0 ≤ (a1 : Int) := of_decide_eq_true (by first | (with_reducible assumption) | assumption); have q5 : a1 < (a0.size : Int) := of_decide_eq_true (by first | (with_reducible assumption) | assumption); have hx5 := bt_at a0 a1; replace p5 := eq_true p5; replace q5 := eq_true q5) | (go_at_call 55; (with_reducible refine (hearsayref04_run.calls k a0 a1 t485 _ A6.out).mono ?_); rintro e w' ⟨rfl, ⟨nd, rfl⟩⟩; (try first | exact ⟨rfl, _, World.drewN_drewN _ _ _⟩ | exact ⟨rfl, _, Eq.trans (World.drewN_drewN _ _ _) (congrArg (World.drewN _) (Nat.add_assoc _ _ _))⟩)))
   repeat (go_quiet (first | ((with_reducible refine gate_dst (N := 4) rfl ?_); refine box_event ?hg (N := 4) ?hd (cs := #[.int .i64 0, .string (⟨#[]⟩ : ByteArray), .int .i64 0, .int .i64 0, .int .i64 0]) (t := 33) ?hr ?_; (case hd => rfl); (case hg => rfl); (case hr => first | (go_simp; done) | (go_simp; rfl)); intro gb483 hg w8 hbox hb; have n0_ := Aside0.mk (below_step h0_ hb); have n1_ := Aside0.mk (hbox); have n2_ := Aside0.mk ((by rw [hg]; exact (below_size h0_) : w.heap.size ≤ gb483)); have n3_ := Aside0.mk ((by rw [hg]; exact (below_size h0_) : w.heap.size ≤ gb483)); clear HB; have HB := n0_; have BK483 := n1_; have GW483 := n2_; have GE483 := n3_; clear n0_ n1_ n2_ n3_; clear hb hbox hg) | ((with_reducible refine gate_dst (N := 5) rfl ?_); refine box_event ?hg (N := 5) ?hd (cs := #[.int .i64 0, .int .i64 0]) (t := 26) ?hr ?_; (case hd => rfl); (case hg => rfl); (case hr => first | (go_simp; done) | (go_simp; rfl)); intro gb484 hg w9 hbox hb; have n0_ := Aside0.mk (blk_below (g := gb483) (o := .cells #[.int .i64 0, .string (⟨#[]⟩ : ByteArray), .int .i64 0, .int .i64 0, .int .i64 0] 33 (0, 0)) (bk_ BK483) hb); have n1_ := Aside0.mk (below_step h1_ hb); have n2_ := Aside0.mk (hbox); have n3_ := Aside0.mk ((by rw [hg]; exact (below_size h1_) : w.heap.size ≤ gb484)); have n4_ := Aside0.mk ((by rw [hg]; exact (below_size h1_) : w.heap.size ≤ gb484)); have n5_ := Aside0.mk ((by rw [hg]; exact Nat.ne_of_lt (blk_lt (g := gb483) (o := .cells #[.int .i64 0, .string (⟨#[]⟩ : ByteArray), .int .i64 0, .int .i64 0, .int .i64 0] 33 (0, 0)) (bk_ BK483)) : gb483 ≠ gb484)); have n6_ := Aside0.mk ((by rw [hg]; exact Nat.ne_of_gt (blk_lt (g := gb483) (o := .cells #[.int .i64 0, .string (⟨#[]⟩ : ByteArray), .int .i64 0, .int .i64 0, .int .i64 0] 33 (0, 0)) (bk_ BK483)) : gb484 ≠ gb483)); clear BK483; clear HB; have BK483 := n0_; have HB := n1_; have BK484 := n2_; have GW484 := n3_; have GE484 := n4_; have NB483_484 := n5_; have NB484_483 := n6_; clear n0_ n1_ n2_ n3_ n4_ n5_ n6_; clear hb hbox hg; have p5 : 0 ≤ (a1 : Int) := of_decide_eq_true (by first | (with_reducible assumption) | assumption); have q5 : a1 < (a0.size : Int) := of_decide_eq_true (by first | (with_reducible assumption) | assumption); have hx5 := bt_at a0 a1; replace p5 := eq_true p5; replace q5 := eq_true q5) | (go_at_call 55; (with_reducible refine (hearsayref04_run.calls k a0 a1 t485 _ A6.out).mono ?_); rintro e w' ⟨rfl, ⟨nd, rfl⟩⟩; (try first | exact ⟨rfl, _, World.drewN_drewN _ _ _⟩ | exact ⟨rfl, _, Eq.trans (World.drewN_drewN _ _ _) (congrArg (World.drewN _) (Nat.add_assoc _ _ _))⟩))); go_upto_region 3 with (first | ((with_reducible refine gate_dst (N := 4) rfl ?_); refine box_event ?hg (N := 4) ?hd (cs := #[.int .i64 0, .string (⟨#[]⟩ : ByteArray), .int .i64 0, .int .i64 0, .int .i64 0]) (t := 33) ?hr ?_; (case hd => rfl); (case hg => rfl); (case hr => first | (go_simp; done) | (go_simp; rfl)); intro gb483 hg w8 hbox hb; have n0_ := Aside0.mk (below_step h0_ hb); have n1_ := Aside0.mk (hbox); have n2_ := Aside0.mk ((by rw [hg]; exact (below_size h0_) : w.heap.size ≤ gb483)); have n3_ := Aside0.mk ((by rw [hg]; exact (below_size h0_) : w.heap.size ≤ gb483)); clear HB; have HB := n0_; have BK483 := n1_; have GW483 := n2_; have GE483 := n3_; clear n0_ n1_ n2_ n3_; clear hb hbox hg) | ((with_reducible refine gate_dst (N := 5) rfl ?_); refine box_event ?hg (N := 5) ?hd (cs := #[.int .i64 0, .int .i64 0]) (t := 26) ?hr ?_; (case hd => rfl); (case hg => rfl); (case hr => first | (go_simp; done) | (go_simp; rfl)); intro gb484 hg w9 hbox hb; have n0_ := Aside0.mk (blk_below (g := gb483) (o := .cells #[.int .i64 0, .string (⟨#[]⟩ : ByteArray), .int .i64 0, .int .i64 0, .int .i64 0] 33 (0, 0)) (bk_ BK483) hb); have n1_ := Aside0.mk (below_step h1_ hb); have n2_ := Aside0.mk (hbox); have n3_ := Aside0.mk ((by rw [hg]; exact (below_size h1_) : w.heap.size ≤ gb484)); have n4_ := Aside0.mk ((by rw [hg]; exact (below_size h1_) : w.heap.size ≤ gb484)); have n5_ := Aside0.mk ((by rw [hg]; exact Nat.ne_of_lt (blk_lt (g := gb483) (o := .cells #[.int .i64 0, .string (⟨#[]⟩ : ByteArray), .int .i64 0, .int .i64 0, .int .i64 0] 33 (0, 0)) (bk_ BK483)) : gb483 ≠ gb484)); have n6_ := Aside0.mk ((by rw [hg]; exact Nat.ne_of_gt (blk_lt (g := gb483) (o := .cells #[.int .i64 0, .string (⟨#[]⟩ : ByteArray), .int .i64 0, .int .i64 0, .int .i64 0] 33 (0, 0)) (bk_ BK483)) : gb484 ≠ gb483)); clear BK483; clear HB; have BK483 := n0_; have HB := n1_; have BK484 := n2_; have GW484 := n3_; have GE484 := n4_; have NB483_484 := n5_; have NB484_483 := n6_; clear n0_ n1_ n2_ n3_ n4_ n5_ n6_; clear hb hbox hg; have p5 : 0 ≤ (a1 : Int) := of_decide_eq_true (by first | (with_reducible assumption) | assumption); have q5 : a1 < (a0.size : Int) := of_decide_eq_true (by first | (with_reducible assumption) | assumption); have hx5 := bt_at a0 a1; replace p5 := eq_true p5; replace q5 := eq_true q5) | (go_at_call 55; (with_reducible refine (hearsayref04_run.calls k a0 a1 t485 _ A6.out).mono ?_); rintro e w' ⟨rfl, ⟨nd, rfl⟩⟩; (try first | exact ⟨rfl, _, World.drewN_drewN _ _ _⟩ | exact ⟨rfl, _, Eq.trans (World.drewN_drewN _ _ _) (congrArg (World.drewN _) (Nat.add_assoc _ _ _))⟩))))
   (try simp only [Act.put, List.setIfInBounds_toArray, List.set_cons_zero, List.set_cons_succ])
   go_cut [17] (fun v17 wc => ∃ (kq : Nat) (x17_6 : Bool), v17 = .bool x17_6 ∧ Aside0 (hearsayref04_one.j0 kq a0 a1 (bt a0 a1) t485 x17_6 = some (r1, r2, r3, r4, r5, r6, r7)) ∧ Aside0 (kq ≤ k) ∧ Aside0 (wc.heap[gb483]? = some (.cells #[.int .i64 0, .string (⟨#[]⟩ : ByteArray), .int .i64 0, .int .i64 0, .int .i64 0] 33 (0, 0))) ∧ Aside0 (wc.heap[gb484]? = some (.cells #[.int .i64 0, .int .i64 0] 26 (0, 0))) ∧ Aside0 (Below w.heap.size w wc))
   case first =>
    have H := HC7.out
    clear HC7
    replace H := Option.bind_eq_some_iff.mp H
    obtain ⟨t486, A100, H⟩ := H
    replace H : (if t486 = true then (if a1 ≤ t485 then (if t485 ≤ (a0.size : Int) then (hearsayref04_one.j0 k a0 a1 (bt a0 a1) t485 ((a0.extract (a1 : Int).toNat (t485 : Int).toNat).toList == ([115, 97, 121, 115] : List UInt8))) else (none)) else (none)) else (hearsayref04_one.j0 k a0 a1 (bt a0 a1) t485 false)) = some (r1, r2, r3, r4, r5, r6, r7) := H
    have A10 := Aside0.mk A100
    clear A100
    by_cases c11 : t486 = true
    ·subst c11
     have H1 : (if a1 ≤ t485 then (if t485 ≤ (a0.size : Int) then (hearsayref04_one.j0 k a0 a1 (bt a0 a1) t485 ((a0.extract (a1 : Int).toNat (t485 : Int).toNat).toList == ([115, 97, 121, 115] : List UInt8))) else (none)) else (none)) = some (r1, r2, r3, r4, r5, r6, r7) := by rw [if_pos rfl] at H; exact H
     clear H
     have H := H1
     clear H1
     have c12b0 := eq_true (of_decide_eq_true (by first | (with_reducible assumption) | assumption) : 0 ≤ a1)
     by_cases c13 : a1 ≤ t485
     ·rw [if_pos c13] at H
      have c13b0 := eq_true c13
      have c13b1 : decide (a1 ≤ t485) = true := decide_eq_true c13
      clear c13
      by_cases c14 : t485 ≤ (a0.size : Int)
      ·rw [if_pos c14] at H
       have c14b0 := eq_true c14
       have c14b1 : decide (t485 ≤ (a0.size : Int)) = true := decide_eq_true c14
       clear c14
       have H' := Aside0.mk H
       clear H
       go_wp2_with (first | (go_at_call 56; (with_reducible refine (hearsayref04_small.calls (bt a0 a1) true _ A10.out).mono ?_); rintro e w' ⟨rfl, ⟨nd, rfl⟩⟩; (try first | exact ⟨rfl, _, World.drewN_drewN _ _ _⟩ | exact ⟨rfl, _, Eq.trans (World.drewN_drewN _ _ _) (congrArg (World.drewN _) (Nat.add_assoc _ _ _))⟩)))
       repeat (go_quiet (first | (go_at_call 56; (with_reducible refine (hearsayref04_small.calls (bt a0 a1) true _ A10.out).mono ?_); rintro e w' ⟨rfl, ⟨nd, rfl⟩⟩; (try first | exact ⟨rfl, _, World.drewN_drewN _ _ _⟩ | exact ⟨rfl, _, Eq.trans (World.drewN_drewN _ _ _) (congrArg (World.drewN _) (Nat.add_assoc _ _ _))⟩))); try go_wp2_with (first | (go_at_call 56; (with_reducible refine (hearsayref04_small.calls (bt a0 a1) true _ A10.out).mono ?_); rintro e w' ⟨rfl, ⟨nd, rfl⟩⟩; (try first | exact ⟨rfl, _, World.drewN_drewN _ _ _⟩ | exact ⟨rfl, _, Eq.trans (World.drewN_drewN _ _ _) (congrArg (World.drewN _) (Nat.add_assoc _ _ _))⟩))))
       go_meet
       case rel => exact ⟨_, (((a0.extract (a1 : Int).toNat (t485 : Int).toNat).toList == ([115, 97, 121, 115] : List UInt8))), eq_, H', ⟨by first | omega | exact Nat.le_refl _⟩, ⟨by (with_reducible repeat first|apply bk1_|apply bk2_|apply bk3_); exact BK483.out⟩, ⟨by (with_reducible repeat first|apply bk1_|apply bk2_|apply bk3_); exact BK484.out⟩, ⟨h1_⟩⟩
      ·rw [if_neg c14] at H
       exact absurd H (by simp)
     ·rw [if_neg c13] at H
      exact absurd H (by simp)
    ·replace c11 := Bool.eq_false_iff.mpr c11
     subst c11
     have H1 : (hearsayref04_one.j0 k a0 a1 (bt a0 a1) t485 false) = some (r1, r2, r3, r4, r5, r6, r7) := by rw [if_neg (show ¬ (false = true) by decide)] at H; exact H
     clear H
     have H := H1
     clear H1
     have H' := Aside0.mk H
     clear H
     go_wp2_with (first | (go_at_call 56; (with_reducible refine (hearsayref04_small.calls (bt a0 a1) false _ A10.out).mono ?_); rintro e w' ⟨rfl, ⟨nd, rfl⟩⟩; (try first | exact ⟨rfl, _, World.drewN_drewN _ _ _⟩ | exact ⟨rfl, _, Eq.trans (World.drewN_drewN _ _ _) (congrArg (World.drewN _) (Nat.add_assoc _ _ _))⟩)))
     repeat (go_quiet (first | (go_at_call 56; (with_reducible refine (hearsayref04_small.calls (bt a0 a1) false _ A10.out).mono ?_); rintro e w' ⟨rfl, ⟨nd, rfl⟩⟩; (try first | exact ⟨rfl, _, World.drewN_drewN _ _ _⟩ | exact ⟨rfl, _, Eq.trans (World.drewN_drewN _ _ _) (congrArg (World.drewN _) (Nat.add_assoc _ _ _))⟩))); try go_wp2_with (first | (go_at_call 56; (with_reducible refine (hearsayref04_small.calls (bt a0 a1) false _ A10.out).mono ?_); rintro e w' ⟨rfl, ⟨nd, rfl⟩⟩; (try first | exact ⟨rfl, _, World.drewN_drewN _ _ _⟩ | exact ⟨rfl, _, Eq.trans (World.drewN_drewN _ _ _) (congrArg (World.drewN _) (Nat.add_assoc _ _ _))⟩))))
     go_meet
     case rel => exact ⟨_, (false), eq_, H', ⟨by first | omega | exact Nat.le_refl _⟩, ⟨by (with_reducible repeat first|apply bk1_|apply bk2_|apply bk3_); exact BK483.out⟩, ⟨by (with_reducible repeat first|apply bk1_|apply bk2_|apply bk3_); exact BK484.out⟩, ⟨h1_⟩⟩
   case rest =>
    clear HC7
    try clear c1
    try clear p2
    try clear c3
    try clear c3b0
    try clear c4
    try clear c4b0
    try clear p5
    try clear q5
    try clear hx5
    try clear c11
    try clear c12
    try clear c12b0
    try clear c13
    try clear c13b0
    try clear c13b1
    try clear c14
    try clear c14b0
    try clear c14b1
    try clear p5
    try clear q5
    obtain ⟨kq, x17_6, rfl, HA, HJ6, BK483, BK484, HB⟩ := hcut
    cases kq with
    | zero => exact absurd HA.out (by simp [hearsayref04_one.j0])
    | succ kj6 =>
     have H := HA.out
     clear HA
     simp only [hearsayref04_one.j0] at H
     by_cases c15 : x17_6 = true
     ·subst c15
      have H1 : (some (5, (⟨#[]⟩ : ByteArray), 0, a1, t485, 0, 0)) = some (r1, r2, r3, r4, r5, r6, r7) := by rw [if_pos rfl] at H; exact H
      clear H
      have H := H1
      clear H1
      simp only [Option.some.injEq, Prod.mk.injEq] at H
      obtain ⟨rfl, rfl, rfl, rfl, rfl, rfl, rfl⟩ := H
      have hnb16 := NB483_484.out
      have hnc16 := NB484_483.out
      have hcz17_0 : wc.cell? ⟨gb483, 0, none⟩ = some (.int .i64 0) := (blk_cell BK483.out 0).trans rfl
      have hcz17_1 : wc.cell? ⟨gb483, 1, none⟩ = some (.string (⟨#[]⟩ : ByteArray)) := (blk_cell BK483.out 1).trans rfl
      have hcz17_2 : wc.cell? ⟨gb483, 2, none⟩ = some (.int .i64 0) := (blk_cell BK483.out 2).trans rfl
      have hcz17_3 : wc.cell? ⟨gb483, 3, none⟩ = some (.int .i64 0) := (blk_cell BK483.out 3).trans rfl
      have hcz17_4 : wc.cell? ⟨gb483, 4, none⟩ = some (.int .i64 0) := (blk_cell BK483.out 4).trans rfl
      have hfz17_0 := blk_frozen BK483.out 0
      have hfz17_1 := blk_frozen BK483.out 1
      have hfz17_2 := blk_frozen BK483.out 2
      have hfz17_3 := blk_frozen BK483.out 3
      have hfz17_4 := blk_frozen BK483.out 4
      have hcz18_0 : wc.cell? ⟨gb484, 0, none⟩ = some (.int .i64 0) := (blk_cell BK484.out 0).trans rfl
      have hcz18_1 : wc.cell? ⟨gb484, 1, none⟩ = some (.int .i64 0) := (blk_cell BK484.out 1).trans rfl
      have hfz18_0 := blk_frozen BK484.out 0
      have hfz18_1 := blk_frozen BK484.out 1
      go_wp2
      repeat (go_quiet (fail); try go_wp2)
      refine bodyPost_ret (results_cc rfl _ _ gb483 gb484 33 26 #[.int .i64 5, .string (⟨#[]⟩ : ByteArray), .int .i64 0, .int .i64 a1, .int .i64 t485] #[.int .i64 0, .int .i64 0] (0, 0) (0, 0) _ _ rfl (by (with_reducible repeat first|apply bk1_|apply bk2_|apply bk3_); refine blk_far ?_ NB483_484.out _; (with_reducible repeat first|apply bk1_|apply bk2_|apply bk3_); refine blk_far ?_ NB483_484.out _; (with_reducible repeat first|apply bk1_|apply bk2_|apply bk3_); refine blk_put (cs := #[.int .i64 5, .string (⟨#[]⟩ : ByteArray), .int .i64 0, .int .i64 a1, .int .i64 0]) ?_ 4 _ rfl; (with_reducible repeat first|apply bk1_|apply bk2_|apply bk3_); refine blk_put (cs := #[.int .i64 5, .string (⟨#[]⟩ : ByteArray), .int .i64 0, .int .i64 0, .int .i64 0]) ?_ 3 _ rfl; (with_reducible repeat first|apply bk1_|apply bk2_|apply bk3_); refine blk_put (cs := #[.int .i64 5, .string (⟨#[]⟩ : ByteArray), .int .i64 0, .int .i64 0, .int .i64 0]) ?_ 2 _ rfl; (with_reducible repeat first|apply bk1_|apply bk2_|apply bk3_); refine blk_put (cs := #[.int .i64 5, .string (⟨#[]⟩ : ByteArray), .int .i64 0, .int .i64 0, .int .i64 0]) ?_ 1 _ rfl; (with_reducible repeat first|apply bk1_|apply bk2_|apply bk3_); refine blk_put (cs := #[.int .i64 0, .string (⟨#[]⟩ : ByteArray), .int .i64 0, .int .i64 0, .int .i64 0]) ?_ 0 _ rfl; (with_reducible repeat first|apply bk1_|apply bk2_|apply bk3_); exact BK483.out) Tryd.underlying33 rfl (by kernel_rfl) rfl (by (with_reducible repeat first|apply bk1_|apply bk2_|apply bk3_); refine blk_put (cs := #[.int .i64 0, .int .i64 0]) ?_ 1 _ rfl; (with_reducible repeat first|apply bk1_|apply bk2_|apply bk3_); refine blk_put (cs := #[.int .i64 0, .int .i64 0]) ?_ 0 _ rfl; (with_reducible repeat first|apply bk1_|apply bk2_|apply bk3_); refine blk_far ?_ NB484_483.out _; (with_reducible repeat first|apply bk1_|apply bk2_|apply bk3_); refine blk_far ?_ NB484_483.out _; (with_reducible repeat first|apply bk1_|apply bk2_|apply bk3_); refine blk_far ?_ NB484_483.out _; (with_reducible repeat first|apply bk1_|apply bk2_|apply bk3_); refine blk_far ?_ NB484_483.out _; (with_reducible repeat first|apply bk1_|apply bk2_|apply bk3_); refine blk_far ?_ NB484_483.out _; (with_reducible repeat first|apply bk1_|apply bk2_|apply bk3_); exact BK484.out) Tryd.underlying26 rfl (by kernel_rfl)) rfl ?_
      exact ⟨er_, h1_⟩
     ·replace c15 := Bool.eq_false_iff.mpr c15
      subst c15
      have H1 : ((hearsayref04_small.f (bt a0 a1)).bind fun t487 => (if t487 = true then (if 0 ≤ a1 then (if a1 ≤ t485 then (if t485 ≤ (a0.size : Int) then (some (1, a0.extract (a1 : Int).toNat (t485 : Int).toNat, 0, a1, t485, 0, 0)) else (none)) else (none)) else (none)) else ((hearsayref04_great.f (bt a0 a1)).bind fun t488 => (if t488 = true then (if 0 ≤ a1 then (if a1 ≤ t485 then (if t485 ≤ (a0.size : Int) then (some (2, a0.extract (a1 : Int).toNat (t485 : Int).toNat, 0, a1, t485, 0, 0)) else (none)) else (none)) else (none)) else ((hearsayref04_digit.f (bt a0 a1)).bind fun t489 => (if t489 = true then (hearsayref04_one.j1 kj6 a0 a1 (bt a0 a1) t485 true) else (hearsayref04_one.j1 kj6 a0 a1 (bt a0 a1) t485 ((bt a0 a1) == 45)))))))) = some (r1, r2, r3, r4, r5, r6, r7) := by rw [if_neg (show ¬ (false = true) by decide)] at H; exact H
      clear H
      have H := H1
      clear H1
      replace H := Option.bind_eq_some_iff.mp H
      obtain ⟨t487, A190, H⟩ := H
      replace H : (if t487 = true then (if 0 ≤ a1 then (if a1 ≤ t485 then (if t485 ≤ (a0.size : Int) then (some (1, a0.extract (a1 : Int).toNat (t485 : Int).toNat, 0, a1, t485, 0, 0)) else (none)) else (none)) else (none)) else ((hearsayref04_great.f (bt a0 a1)).bind fun t488 => (if t488 = true then (if 0 ≤ a1 then (if a1 ≤ t485 then (if t485 ≤ (a0.size : Int) then (some (2, a0.extract (a1 : Int).toNat (t485 : Int).toNat, 0, a1, t485, 0, 0)) else (none)) else (none)) else (none)) else ((hearsayref04_digit.f (bt a0 a1)).bind fun t489 => (if t489 = true then (hearsayref04_one.j1 kj6 a0 a1 (bt a0 a1) t485 true) else (hearsayref04_one.j1 kj6 a0 a1 (bt a0 a1) t485 ((bt a0 a1) == 45))))))) = some (r1, r2, r3, r4, r5, r6, r7) := H
      have A19 := Aside0.mk A190
      clear A190
      by_cases c20 : t487 = true
      ·subst c20
       have H1 : (if 0 ≤ a1 then (if a1 ≤ t485 then (if t485 ≤ (a0.size : Int) then (some (1, a0.extract (a1 : Int).toNat (t485 : Int).toNat, 0, a1, t485, 0, 0)) else (none)) else (none)) else (none)) = some (r1, r2, r3, r4, r5, r6, r7) := by rw [if_pos rfl] at H; exact H
       clear H
       have H := H1
       clear H1
       by_cases c21 : 0 ≤ a1
       ·rw [if_pos c21] at H
        have c21b0 := eq_true c21
        have c21b1 : decide (0 ≤ a1) = true := decide_eq_true c21
        clear c21
        by_cases c22 : a1 ≤ t485
        ·rw [if_pos c22] at H
         have c22b0 := eq_true c22
         have c22b1 : decide (a1 ≤ t485) = true := decide_eq_true c22
         clear c22
         by_cases c23 : t485 ≤ (a0.size : Int)
         ·rw [if_pos c23] at H
          have c23b0 := eq_true c23
          have c23b1 : decide (t485 ≤ (a0.size : Int)) = true := decide_eq_true c23
          clear c23
          simp only [Option.some.injEq, Prod.mk.injEq] at H
          obtain ⟨rfl, rfl, rfl, rfl, rfl, rfl, rfl⟩ := H
          go_wp2_with (first | (go_at_call 56; (with_reducible refine (hearsayref04_small.calls (bt a0 a1) true _ A19.out).mono ?_); rintro e w' ⟨rfl, ⟨nd, rfl⟩⟩; (try first | exact ⟨rfl, _, World.drewN_drewN _ _ _⟩ | exact ⟨rfl, _, Eq.trans (World.drewN_drewN _ _ _) (congrArg (World.drewN _) (Nat.add_assoc _ _ _))⟩); have hnb24 := NB483_484.out; have hnc24 := NB484_483.out; have hcz25_0 : wc.cell? ⟨gb483, 0, none⟩ = some (.int .i64 0) := (blk_cell BK483.out 0).trans rfl; have hcz25_1 : wc.cell? ⟨gb483, 1, none⟩ = some (.string (⟨#[]⟩ : ByteArray)) := (blk_cell BK483.out 1).trans rfl; have hcz25_2 : wc.cell? ⟨gb483, 2, none⟩ = some (.int .i64 0) := (blk_cell BK483.out 2).trans rfl; have hcz25_3 : wc.cell? ⟨gb483, 3, none⟩ = some (.int .i64 0) := (blk_cell BK483.out 3).trans rfl; have hcz25_4 : wc.cell? ⟨gb483, 4, none⟩ = some (.int .i64 0) := (blk_cell BK483.out 4).trans rfl; have hfz25_0 := blk_frozen BK483.out 0; have hfz25_1 := blk_frozen BK483.out 1; have hfz25_2 := blk_frozen BK483.out 2; have hfz25_3 := blk_frozen BK483.out 3; have hfz25_4 := blk_frozen BK483.out 4; have hcz26_0 : wc.cell? ⟨gb484, 0, none⟩ = some (.int .i64 0) := (blk_cell BK484.out 0).trans rfl; have hcz26_1 : wc.cell? ⟨gb484, 1, none⟩ = some (.int .i64 0) := (blk_cell BK484.out 1).trans rfl; have hfz26_0 := blk_frozen BK484.out 0; have hfz26_1 := blk_frozen BK484.out 1))
          repeat (go_quiet (first | (go_at_call 56; (with_reducible refine (hearsayref04_small.calls (bt a0 a1) true _ A19.out).mono ?_); rintro e w' ⟨rfl, ⟨nd, rfl⟩⟩; (try first | exact ⟨rfl, _, World.drewN_drewN _ _ _⟩ | exact ⟨rfl, _, Eq.trans (World.drewN_drewN _ _ _) (congrArg (World.drewN _) (Nat.add_assoc _ _ _))⟩); have hnb24 := NB483_484.out; have hnc24 := NB484_483.out; have hcz25_0 : wc.cell? ⟨gb483, 0, none⟩ = some (.int .i64 0) := (blk_cell BK483.out 0).trans rfl; have hcz25_1 : wc.cell? ⟨gb483, 1, none⟩ = some (.string (⟨#[]⟩ : ByteArray)) := (blk_cell BK483.out 1).trans rfl; have hcz25_2 : wc.cell? ⟨gb483, 2, none⟩ = some (.int .i64 0) := (blk_cell BK483.out 2).trans rfl; have hcz25_3 : wc.cell? ⟨gb483, 3, none⟩ = some (.int .i64 0) := (blk_cell BK483.out 3).trans rfl; have hcz25_4 : wc.cell? ⟨gb483, 4, none⟩ = some (.int .i64 0) := (blk_cell BK483.out 4).trans rfl; have hfz25_0 := blk_frozen BK483.out 0; have hfz25_1 := blk_frozen BK483.out 1; have hfz25_2 := blk_frozen BK483.out 2; have hfz25_3 := blk_frozen BK483.out 3; have hfz25_4 := blk_frozen BK483.out 4; have hcz26_0 : wc.cell? ⟨gb484, 0, none⟩ = some (.int .i64 0) := (blk_cell BK484.out 0).trans rfl; have hcz26_1 : wc.cell? ⟨gb484, 1, none⟩ = some (.int .i64 0) := (blk_cell BK484.out 1).trans rfl; have hfz26_0 := blk_frozen BK484.out 0; have hfz26_1 := blk_frozen BK484.out 1)); try go_wp2_with (first | (go_at_call 56; (with_reducible refine (hearsayref04_small.calls (bt a0 a1) true _ A19.out).mono ?_); rintro e w' ⟨rfl, ⟨nd, rfl⟩⟩; (try first | exact ⟨rfl, _, World.drewN_drewN _ _ _⟩ | exact ⟨rfl, _, Eq.trans (World.drewN_drewN _ _ _) (congrArg (World.drewN _) (Nat.add_assoc _ _ _))⟩); have hnb24 := NB483_484.out; have hnc24 := NB484_483.out; have hcz25_0 : wc.cell? ⟨gb483, 0, none⟩ = some (.int .i64 0) := (blk_cell BK483.out 0).trans rfl; have hcz25_1 : wc.cell? ⟨gb483, 1, none⟩ = some (.string (⟨#[]⟩ : ByteArray)) := (blk_cell BK483.out 1).trans rfl; have hcz25_2 : wc.cell? ⟨gb483, 2, none⟩ = some (.int .i64 0) := (blk_cell BK483.out 2).trans rfl; have hcz25_3 : wc.cell? ⟨gb483, 3, none⟩ = some (.int .i64 0) := (blk_cell BK483.out 3).trans rfl; have hcz25_4 : wc.cell? ⟨gb483, 4, none⟩ = some (.int .i64 0) := (blk_cell BK483.out 4).trans rfl; have hfz25_0 := blk_frozen BK483.out 0; have hfz25_1 := blk_frozen BK483.out 1; have hfz25_2 := blk_frozen BK483.out 2; have hfz25_3 := blk_frozen BK483.out 3; have hfz25_4 := blk_frozen BK483.out 4; have hcz26_0 : wc.cell? ⟨gb484, 0, none⟩ = some (.int .i64 0) := (blk_cell BK484.out 0).trans rfl; have hcz26_1 : wc.cell? ⟨gb484, 1, none⟩ = some (.int .i64 0) := (blk_cell BK484.out 1).trans rfl; have hfz26_0 := blk_frozen BK484.out 0; have hfz26_1 := blk_frozen BK484.out 1)))
          refine bodyPost_ret (results_cc rfl _ _ gb483 gb484 33 26 #[.int .i64 1, .string (a0.extract (a1 : Int).toNat (t485 : Int).toNat), .int .i64 0, .int .i64 a1, .int .i64 t485] #[.int .i64 0, .int .i64 0] (0, 0) (0, 0) _ _ rfl (by (with_reducible repeat first|apply bk1_|apply bk2_|apply bk3_); refine blk_far ?_ NB483_484.out _; (with_reducible repeat first|apply bk1_|apply bk2_|apply bk3_); refine blk_far ?_ NB483_484.out _; (with_reducible repeat first|apply bk1_|apply bk2_|apply bk3_); refine blk_put (cs := #[.int .i64 1, .string (a0.extract (a1 : Int).toNat (t485 : Int).toNat), .int .i64 0, .int .i64 a1, .int .i64 0]) ?_ 4 _ rfl; (with_reducible repeat first|apply bk1_|apply bk2_|apply bk3_); refine blk_put (cs := #[.int .i64 1, .string (a0.extract (a1 : Int).toNat (t485 : Int).toNat), .int .i64 0, .int .i64 0, .int .i64 0]) ?_ 3 _ rfl; (with_reducible repeat first|apply bk1_|apply bk2_|apply bk3_); refine blk_put (cs := #[.int .i64 1, .string (a0.extract (a1 : Int).toNat (t485 : Int).toNat), .int .i64 0, .int .i64 0, .int .i64 0]) ?_ 2 _ rfl; (with_reducible repeat first|apply bk1_|apply bk2_|apply bk3_); refine blk_put (cs := #[.int .i64 1, .string (⟨#[]⟩ : ByteArray), .int .i64 0, .int .i64 0, .int .i64 0]) ?_ 1 _ rfl; (with_reducible repeat first|apply bk1_|apply bk2_|apply bk3_); refine blk_put (cs := #[.int .i64 0, .string (⟨#[]⟩ : ByteArray), .int .i64 0, .int .i64 0, .int .i64 0]) ?_ 0 _ rfl; (with_reducible repeat first|apply bk1_|apply bk2_|apply bk3_); exact BK483.out) Tryd.underlying33 rfl (by kernel_rfl) rfl (by (with_reducible repeat first|apply bk1_|apply bk2_|apply bk3_); refine blk_put (cs := #[.int .i64 0, .int .i64 0]) ?_ 1 _ rfl; (with_reducible repeat first|apply bk1_|apply bk2_|apply bk3_); refine blk_put (cs := #[.int .i64 0, .int .i64 0]) ?_ 0 _ rfl; (with_reducible repeat first|apply bk1_|apply bk2_|apply bk3_); refine blk_far ?_ NB484_483.out _; (with_reducible repeat first|apply bk1_|apply bk2_|apply bk3_); refine blk_far ?_ NB484_483.out _; (with_reducible repeat first|apply bk1_|apply bk2_|apply bk3_); refine blk_far ?_ NB484_483.out _; (with_reducible repeat first|apply bk1_|apply bk2_|apply bk3_); refine blk_far ?_ NB484_483.out _; (with_reducible repeat first|apply bk1_|apply bk2_|apply bk3_); refine blk_far ?_ NB484_483.out _; (with_reducible repeat first|apply bk1_|apply bk2_|apply bk3_); exact BK484.out) Tryd.underlying26 rfl (by kernel_rfl)) rfl ?_
          exact ⟨er_, h1_⟩
         ·rw [if_neg c23] at H
          exact absurd H (by simp)
        ·rw [if_neg c22] at H
         exact absurd H (by simp)
       ·rw [if_neg c21] at H
        exact absurd H (by simp)
      ·replace c20 := Bool.eq_false_iff.mpr c20
       subst c20
       have H1 : ((hearsayref04_great.f (bt a0 a1)).bind fun t488 => (if t488 = true then (if 0 ≤ a1 then (if a1 ≤ t485 then (if t485 ≤ (a0.size : Int) then (some (2, a0.extract (a1 : Int).toNat (t485 : Int).toNat, 0, a1, t485, 0, 0)) else (none)) else (none)) else (none)) else ((hearsayref04_digit.f (bt a0 a1)).bind fun t489 => (if t489 = true then (hearsayref04_one.j1 kj6 a0 a1 (bt a0 a1) t485 true) else (hearsayref04_one.j1 kj6 a0 a1 (bt a0 a1) t485 ((bt a0 a1) == 45)))))) = some (r1, r2, r3, r4, r5, r6, r7) := by rw [if_neg (show ¬ (false = true) by decide)] at H; exact H
       clear H
       have H := H1
       clear H1
       replace H := Option.bind_eq_some_iff.mp H
       obtain ⟨t488, A270, H⟩ := H
       replace H : (if t488 = true then (if 0 ≤ a1 then (if a1 ≤ t485 then (if t485 ≤ (a0.size : Int) then (some (2, a0.extract (a1 : Int).toNat (t485 : Int).toNat, 0, a1, t485, 0, 0)) else (none)) else (none)) else (none)) else ((hearsayref04_digit.f (bt a0 a1)).bind fun t489 => (if t489 = true then (hearsayref04_one.j1 kj6 a0 a1 (bt a0 a1) t485 true) else (hearsayref04_one.j1 kj6 a0 a1 (bt a0 a1) t485 ((bt a0 a1) == 45))))) = some (r1, r2, r3, r4, r5, r6, r7) := H
       have A27 := Aside0.mk A270
       clear A270
       by_cases c28 : t488 = true
       ·subst c28
        have H1 : (if 0 ≤ a1 then (if a1 ≤ t485 then (if t485 ≤ (a0.size : Int) then (some (2, a0.extract (a1 : Int).toNat (t485 : Int).toNat, 0, a1, t485, 0, 0)) else (none)) else (none)) else (none)) = some (r1, r2, r3, r4, r5, r6, r7) := by rw [if_pos rfl] at H; exact H
        clear H
        have H := H1
        clear H1
        by_cases c29 : 0 ≤ a1
        ·rw [if_pos c29] at H
         have c29b0 := eq_true c29
         have c29b1 : decide (0 ≤ a1) = true := decide_eq_true c29
         clear c29
         by_cases c30 : a1 ≤ t485
         ·rw [if_pos c30] at H
          have c30b0 := eq_true c30
          have c30b1 : decide (a1 ≤ t485) = true := decide_eq_true c30
          clear c30
          by_cases c31 : t485 ≤ (a0.size : Int)
          ·rw [if_pos c31] at H
           have c31b0 := eq_true c31
           have c31b1 : decide (t485 ≤ (a0.size : Int)) = true := decide_eq_true c31
           clear c31
           simp only [Option.some.injEq, Prod.mk.injEq] at H
           obtain ⟨rfl, rfl, rfl, rfl, rfl, rfl, rfl⟩ := H
           go_wp2_with (first | (go_at_call 56; (with_reducible refine (hearsayref04_small.calls (bt a0 a1) false _ A19.out).mono ?_); rintro e w' ⟨rfl, ⟨nd, rfl⟩⟩; (try first | exact ⟨rfl, _, World.drewN_drewN _ _ _⟩ | exact ⟨rfl, _, Eq.trans (World.drewN_drewN _ _ _) (congrArg (World.drewN _) (Nat.add_assoc _ _ _))⟩)) | (go_at_call 57; (with_reducible refine (hearsayref04_great.calls (bt a0 a1) true _ A27.out).mono ?_); rintro e w' ⟨rfl, ⟨nd, rfl⟩⟩; (try first | exact ⟨rfl, _, World.drewN_drewN _ _ _⟩ | exact ⟨rfl, _, Eq.trans (World.drewN_drewN _ _ _) (congrArg (World.drewN _) (Nat.add_assoc _ _ _))⟩); have hnb32 := NB483_484.out; have hnc32 := NB484_483.out; have hcz33_0 : wc.cell? ⟨gb483, 0, none⟩ = some (.int .i64 0) := (blk_cell BK483.out 0).trans rfl; have hcz33_1 : wc.cell? ⟨gb483, 1, none⟩ = some (.string (⟨#[]⟩ : ByteArray)) := (blk_cell BK483.out 1).trans rfl; have hcz33_2 : wc.cell? ⟨gb483, 2, none⟩ = some (.int .i64 0) := (blk_cell BK483.out 2).trans rfl; have hcz33_3 : wc.cell? ⟨gb483, 3, none⟩ = some (.int .i64 0) := (blk_cell BK483.out 3).trans rfl; have hcz33_4 : wc.cell? ⟨gb483, 4, none⟩ = some (.int .i64 0) := (blk_cell BK483.out 4).trans rfl; have hfz33_0 := blk_frozen BK483.out 0; have hfz33_1 := blk_frozen BK483.out 1; have hfz33_2 := blk_frozen BK483.out 2; have hfz33_3 := blk_frozen BK483.out 3; have hfz33_4 := blk_frozen BK483.out 4; have hcz34_0 : wc.cell? ⟨gb484, 0, none⟩ = some (.int .i64 0) := (blk_cell BK484.out 0).trans rfl; have hcz34_1 : wc.cell? ⟨gb484, 1, none⟩ = some (.int .i64 0) := (blk_cell BK484.out 1).trans rfl; have hfz34_0 := blk_frozen BK484.out 0; have hfz34_1 := blk_frozen BK484.out 1))
           repeat (go_quiet (first | (go_at_call 56; (with_reducible refine (hearsayref04_small.calls (bt a0 a1) false _ A19.out).mono ?_); rintro e w' ⟨rfl, ⟨nd, rfl⟩⟩; (try first | exact ⟨rfl, _, World.drewN_drewN _ _ _⟩ | exact ⟨rfl, _, Eq.trans (World.drewN_drewN _ _ _) (congrArg (World.drewN _) (Nat.add_assoc _ _ _))⟩)) | (go_at_call 57; (with_reducible refine (hearsayref04_great.calls (bt a0 a1) true _ A27.out).mono ?_); rintro e w' ⟨rfl, ⟨nd, rfl⟩⟩; (try first | exact ⟨rfl, _, World.drewN_drewN _ _ _⟩ | exact ⟨rfl, _, Eq.trans (World.drewN_drewN _ _ _) (congrArg (World.drewN _) (Nat.add_assoc _ _ _))⟩); have hnb32 := NB483_484.out; have hnc32 := NB484_483.out; have hcz33_0 : wc.cell? ⟨gb483, 0, none⟩ = some (.int .i64 0) := (blk_cell BK483.out 0).trans rfl; have hcz33_1 : wc.cell? ⟨gb483, 1, none⟩ = some (.string (⟨#[]⟩ : ByteArray)) := (blk_cell BK483.out 1).trans rfl; have hcz33_2 : wc.cell? ⟨gb483, 2, none⟩ = some (.int .i64 0) := (blk_cell BK483.out 2).trans rfl; have hcz33_3 : wc.cell? ⟨gb483, 3, none⟩ = some (.int .i64 0) := (blk_cell BK483.out 3).trans rfl; have hcz33_4 : wc.cell? ⟨gb483, 4, none⟩ = some (.int .i64 0) := (blk_cell BK483.out 4).trans rfl; have hfz33_0 := blk_frozen BK483.out 0; have hfz33_1 := blk_frozen BK483.out 1; have hfz33_2 := blk_frozen BK483.out 2; have hfz33_3 := blk_frozen BK483.out 3; have hfz33_4 := blk_frozen BK483.out 4; have hcz34_0 : wc.cell? ⟨gb484, 0, none⟩ = some (.int .i64 0) := (blk_cell BK484.out 0).trans rfl; have hcz34_1 : wc.cell? ⟨gb484, 1, none⟩ = some (.int .i64 0) := (blk_cell BK484.out 1).trans rfl; have hfz34_0 := blk_frozen BK484.out 0; have hfz34_1 := blk_frozen BK484.out 1)); try go_wp2_with (first | (go_at_call 56; (with_reducible refine (hearsayref04_small.calls (bt a0 a1) false _ A19.out).mono ?_); rintro e w' ⟨rfl, ⟨nd, rfl⟩⟩; (try first | exact ⟨rfl, _, World.drewN_drewN _ _ _⟩ | exact ⟨rfl, _, Eq.trans (World.drewN_drewN _ _ _) (congrArg (World.drewN _) (Nat.add_assoc _ _ _))⟩)) | (go_at_call 57; (with_reducible refine (hearsayref04_great.calls (bt a0 a1) true _ A27.out).mono ?_); rintro e w' ⟨rfl, ⟨nd, rfl⟩⟩; (try first | exact ⟨rfl, _, World.drewN_drewN _ _ _⟩ | exact ⟨rfl, _, Eq.trans (World.drewN_drewN _ _ _) (congrArg (World.drewN _) (Nat.add_assoc _ _ _))⟩); have hnb32 := NB483_484.out; have hnc32 := NB484_483.out; have hcz33_0 : wc.cell? ⟨gb483, 0, none⟩ = some (.int .i64 0) := (blk_cell BK483.out 0).trans rfl; have hcz33_1 : wc.cell? ⟨gb483, 1, none⟩ = some (.string (⟨#[]⟩ : ByteArray)) := (blk_cell BK483.out 1).trans rfl; have hcz33_2 : wc.cell? ⟨gb483, 2, none⟩ = some (.int .i64 0) := (blk_cell BK483.out 2).trans rfl; have hcz33_3 : wc.cell? ⟨gb483, 3, none⟩ = some (.int .i64 0) := (blk_cell BK483.out 3).trans rfl; have hcz33_4 : wc.cell? ⟨gb483, 4, none⟩ = some (.int .i64 0) := (blk_cell BK483.out 4).trans rfl; have hfz33_0 := blk_frozen BK483.out 0; have hfz33_1 := blk_frozen BK483.out 1; have hfz33_2 := blk_frozen BK483.out 2; have hfz33_3 := blk_frozen BK483.out 3; have hfz33_4 := blk_frozen BK483.out 4; have hcz34_0 : wc.cell? ⟨gb484, 0, none⟩ = some (.int .i64 0) := (blk_cell BK484.out 0).trans rfl; have hcz34_1 : wc.cell? ⟨gb484, 1, none⟩ = some (.int .i64 0) := (blk_cell BK484.out 1).trans rfl; have hfz34_0 := blk_frozen BK484.out 0; have hfz34_1 := blk_frozen BK484.out 1)))
           refine bodyPost_ret (results_cc rfl _ _ gb483 gb484 33 26 #[.int .i64 2, .string (a0.extract (a1 : Int).toNat (t485 : Int).toNat), .int .i64 0, .int .i64 a1, .int .i64 t485] #[.int .i64 0, .int .i64 0] (0, 0) (0, 0) _ _ rfl (by (with_reducible repeat first|apply bk1_|apply bk2_|apply bk3_); refine blk_far ?_ NB483_484.out _; (with_reducible repeat first|apply bk1_|apply bk2_|apply bk3_); refine blk_far ?_ NB483_484.out _; (with_reducible repeat first|apply bk1_|apply bk2_|apply bk3_); refine blk_put (cs := #[.int .i64 2, .string (a0.extract (a1 : Int).toNat (t485 : Int).toNat), .int .i64 0, .int .i64 a1, .int .i64 0]) ?_ 4 _ rfl; (with_reducible repeat first|apply bk1_|apply bk2_|apply bk3_); refine blk_put (cs := #[.int .i64 2, .string (a0.extract (a1 : Int).toNat (t485 : Int).toNat), .int .i64 0, .int .i64 0, .int .i64 0]) ?_ 3 _ rfl; (with_reducible repeat first|apply bk1_|apply bk2_|apply bk3_); refine blk_put (cs := #[.int .i64 2, .string (a0.extract (a1 : Int).toNat (t485 : Int).toNat), .int .i64 0, .int .i64 0, .int .i64 0]) ?_ 2 _ rfl; (with_reducible repeat first|apply bk1_|apply bk2_|apply bk3_); refine blk_put (cs := #[.int .i64 2, .string (⟨#[]⟩ : ByteArray), .int .i64 0, .int .i64 0, .int .i64 0]) ?_ 1 _ rfl; (with_reducible repeat first|apply bk1_|apply bk2_|apply bk3_); refine blk_put (cs := #[.int .i64 0, .string (⟨#[]⟩ : ByteArray), .int .i64 0, .int .i64 0, .int .i64 0]) ?_ 0 _ rfl; (with_reducible repeat first|apply bk1_|apply bk2_|apply bk3_); exact BK483.out) Tryd.underlying33 rfl (by kernel_rfl) rfl (by (with_reducible repeat first|apply bk1_|apply bk2_|apply bk3_); refine blk_put (cs := #[.int .i64 0, .int .i64 0]) ?_ 1 _ rfl; (with_reducible repeat first|apply bk1_|apply bk2_|apply bk3_); refine blk_put (cs := #[.int .i64 0, .int .i64 0]) ?_ 0 _ rfl; (with_reducible repeat first|apply bk1_|apply bk2_|apply bk3_); refine blk_far ?_ NB484_483.out _; (with_reducible repeat first|apply bk1_|apply bk2_|apply bk3_); refine blk_far ?_ NB484_483.out _; (with_reducible repeat first|apply bk1_|apply bk2_|apply bk3_); refine blk_far ?_ NB484_483.out _; (with_reducible repeat first|apply bk1_|apply bk2_|apply bk3_); refine blk_far ?_ NB484_483.out _; (with_reducible repeat first|apply bk1_|apply bk2_|apply bk3_); refine blk_far ?_ NB484_483.out _; (with_reducible repeat first|apply bk1_|apply bk2_|apply bk3_); exact BK484.out) Tryd.underlying26 rfl (by kernel_rfl)) rfl ?_
           exact ⟨er_, h1_⟩
          ·rw [if_neg c31] at H
           exact absurd H (by simp)
         ·rw [if_neg c30] at H
          exact absurd H (by simp)
        ·rw [if_neg c29] at H
         exact absurd H (by simp)
       ·replace c28 := Bool.eq_false_iff.mpr c28
        subst c28
        have H1 : ((hearsayref04_digit.f (bt a0 a1)).bind fun t489 => (if t489 = true then (hearsayref04_one.j1 kj6 a0 a1 (bt a0 a1) t485 true) else (hearsayref04_one.j1 kj6 a0 a1 (bt a0 a1) t485 ((bt a0 a1) == 45)))) = some (r1, r2, r3, r4, r5, r6, r7) := by rw [if_neg (show ¬ (false = true) by decide)] at H; exact H
        clear H
        have H := H1
        clear H1
        have HC35 := Aside0.mk H
        clear H
        go_upto_region 9 with (first | (go_at_call 56; (with_reducible refine (hearsayref04_small.calls (bt a0 a1) false _ A19.out).mono ?_); rintro e w' ⟨rfl, ⟨nd, rfl⟩⟩; (try first | exact ⟨rfl, _, World.drewN_drewN _ _ _⟩ | exact ⟨rfl, _, Eq.trans (World.drewN_drewN _ _ _) (congrArg (World.drewN _) (Nat.add_assoc _ _ _))⟩)) | (go_at_call 57; (with_reducible refine (hearsayref04_great.calls (bt a0 a1) false _ A27.out).mono ?_); rintro e w' ⟨rfl, ⟨nd, rfl⟩⟩; (try first | exact ⟨rfl, _, World.drewN_drewN _ _ _⟩ | exact ⟨rfl, _, Eq.trans (World.drewN_drewN _ _ _) (congrArg (World.drewN _) (Nat.add_assoc _ _ _))⟩)))
        repeat (go_quiet (first | (go_at_call 56; (with_reducible refine (hearsayref04_small.calls (bt a0 a1) false _ A19.out).mono ?_); rintro e w' ⟨rfl, ⟨nd, rfl⟩⟩; (try first | exact ⟨rfl, _, World.drewN_drewN _ _ _⟩ | exact ⟨rfl, _, Eq.trans (World.drewN_drewN _ _ _) (congrArg (World.drewN _) (Nat.add_assoc _ _ _))⟩)) | (go_at_call 57; (with_reducible refine (hearsayref04_great.calls (bt a0 a1) false _ A27.out).mono ?_); rintro e w' ⟨rfl, ⟨nd, rfl⟩⟩; (try first | exact ⟨rfl, _, World.drewN_drewN _ _ _⟩ | exact ⟨rfl, _, Eq.trans (World.drewN_drewN _ _ _) (congrArg (World.drewN _) (Nat.add_assoc _ _ _))⟩))); go_upto_region 9 with (first | (go_at_call 56; (with_reducible refine (hearsayref04_small.calls (bt a0 a1) false _ A19.out).mono ?_); rintro e w' ⟨rfl, ⟨nd, rfl⟩⟩; (try first | exact ⟨rfl, _, World.drewN_drewN _ _ _⟩ | exact ⟨rfl, _, Eq.trans (World.drewN_drewN _ _ _) (congrArg (World.drewN _) (Nat.add_assoc _ _ _))⟩)) | (go_at_call 57; (with_reducible refine (hearsayref04_great.calls (bt a0 a1) false _ A27.out).mono ?_); rintro e w' ⟨rfl, ⟨nd, rfl⟩⟩; (try first | exact ⟨rfl, _, World.drewN_drewN _ _ _⟩ | exact ⟨rfl, _, Eq.trans (World.drewN_drewN _ _ _) (congrArg (World.drewN _) (Nat.add_assoc _ _ _))⟩))))
        (try simp only [Act.put, List.setIfInBounds_toArray, List.set_cons_zero, List.set_cons_succ])
        go_cut [53] (fun v53 wc => ∃ (kq : Nat) (x53_34 : Bool), v53 = .bool x53_34 ∧ Aside0 (hearsayref04_one.j1 kq a0 a1 (bt a0 a1) t485 x53_34 = some (r1, r2, r3, r4, r5, r6, r7)) ∧ Aside0 (kq ≤ kj6) ∧ Aside0 (wc.heap[gb483]? = some (.cells #[.int .i64 0, .string (⟨#[]⟩ : ByteArray), .int .i64 0, .int .i64 0, .int .i64 0] 33 (0, 0))) ∧ Aside0 (wc.heap[gb484]? = some (.cells #[.int .i64 0, .int .i64 0] 26 (0, 0))) ∧ Aside0 (Below w.heap.size w wc))
        case first =>
         have H := HC35.out
         clear HC35
         replace H := Option.bind_eq_some_iff.mp H
         obtain ⟨t489, A360, H⟩ := H
         replace H : (if t489 = true then (hearsayref04_one.j1 kj6 a0 a1 (bt a0 a1) t485 true) else (hearsayref04_one.j1 kj6 a0 a1 (bt a0 a1) t485 ((bt a0 a1) == 45))) = some (r1, r2, r3, r4, r5, r6, r7) := H
         have A36 := Aside0.mk A360
         clear A360
         by_cases c37 : t489 = true
         ·subst c37
          have H1 : (hearsayref04_one.j1 kj6 a0 a1 (bt a0 a1) t485 true) = some (r1, r2, r3, r4, r5, r6, r7) := by rw [if_pos rfl] at H; exact H
          clear H
          have H := H1
          clear H1
          have H' := Aside0.mk H
          clear H
          go_wp2_with (first | (go_at_call 58; (with_reducible refine (hearsayref04_digit.calls (bt a0 a1) true _ A36.out).mono ?_); rintro e w' ⟨rfl, ⟨nd, rfl⟩⟩; (try first | exact ⟨rfl, _, World.drewN_drewN _ _ _⟩ | exact ⟨rfl, _, Eq.trans (World.drewN_drewN _ _ _) (congrArg (World.drewN _) (Nat.add_assoc _ _ _))⟩)))
          repeat (go_quiet (first | (go_at_call 58; (with_reducible refine (hearsayref04_digit.calls (bt a0 a1) true _ A36.out).mono ?_); rintro e w' ⟨rfl, ⟨nd, rfl⟩⟩; (try first | exact ⟨rfl, _, World.drewN_drewN _ _ _⟩ | exact ⟨rfl, _, Eq.trans (World.drewN_drewN _ _ _) (congrArg (World.drewN _) (Nat.add_assoc _ _ _))⟩))); try go_wp2_with (first | (go_at_call 58; (with_reducible refine (hearsayref04_digit.calls (bt a0 a1) true _ A36.out).mono ?_); rintro e w' ⟨rfl, ⟨nd, rfl⟩⟩; (try first | exact ⟨rfl, _, World.drewN_drewN _ _ _⟩ | exact ⟨rfl, _, Eq.trans (World.drewN_drewN _ _ _) (congrArg (World.drewN _) (Nat.add_assoc _ _ _))⟩))))
          go_meet
          case rel => exact ⟨_, (true), eq_, H', ⟨by have := HJ6.out; first | omega | exact Nat.le_refl _⟩, ⟨by (with_reducible repeat first|apply bk1_|apply bk2_|apply bk3_); exact BK483.out⟩, ⟨by (with_reducible repeat first|apply bk1_|apply bk2_|apply bk3_); exact BK484.out⟩, ⟨h1_⟩⟩
         ·replace c37 := Bool.eq_false_iff.mpr c37
          subst c37
          have H1 : (hearsayref04_one.j1 kj6 a0 a1 (bt a0 a1) t485 ((bt a0 a1) == 45)) = some (r1, r2, r3, r4, r5, r6, r7) := by rw [if_neg (show ¬ (false = true) by decide)] at H; exact H
          clear H
          have H := H1
          clear H1
          have H' := Aside0.mk H
          clear H
          go_wp2_with (first | (go_at_call 58; (with_reducible refine (hearsayref04_digit.calls (bt a0 a1) false _ A36.out).mono ?_); rintro e w' ⟨rfl, ⟨nd, rfl⟩⟩; (try first | exact ⟨rfl, _, World.drewN_drewN _ _ _⟩ | exact ⟨rfl, _, Eq.trans (World.drewN_drewN _ _ _) (congrArg (World.drewN _) (Nat.add_assoc _ _ _))⟩)))
          repeat (go_quiet (first | (go_at_call 58; (with_reducible refine (hearsayref04_digit.calls (bt a0 a1) false _ A36.out).mono ?_); rintro e w' ⟨rfl, ⟨nd, rfl⟩⟩; (try first | exact ⟨rfl, _, World.drewN_drewN _ _ _⟩ | exact ⟨rfl, _, Eq.trans (World.drewN_drewN _ _ _) (congrArg (World.drewN _) (Nat.add_assoc _ _ _))⟩))); try go_wp2_with (first | (go_at_call 58; (with_reducible refine (hearsayref04_digit.calls (bt a0 a1) false _ A36.out).mono ?_); rintro e w' ⟨rfl, ⟨nd, rfl⟩⟩; (try first | exact ⟨rfl, _, World.drewN_drewN _ _ _⟩ | exact ⟨rfl, _, Eq.trans (World.drewN_drewN _ _ _) (congrArg (World.drewN _) (Nat.add_assoc _ _ _))⟩))))
          go_meet
          case rel => exact ⟨_, (((bt a0 a1) == 45)), eq_, H', ⟨by have := HJ6.out; first | omega | exact Nat.le_refl _⟩, ⟨by (with_reducible repeat first|apply bk1_|apply bk2_|apply bk3_); exact BK483.out⟩, ⟨by (with_reducible repeat first|apply bk1_|apply bk2_|apply bk3_); exact BK484.out⟩, ⟨h1_⟩⟩
        case rest =>
         clear HC35
         try clear c1
         try clear c2
         try clear p2
         try clear c3
         try clear c3b0
         try clear c4
         try clear c4b0
         try clear p5
         try clear q5
         try clear hx5
         try clear c11
         try clear c12
         try clear c12b0
         try clear c13
         try clear c13b0
         try clear c13b1
         try clear c14
         try clear c14b0
         try clear c14b1
         try clear c15
         try clear c16
         try clear c20
         try clear c21
         try clear c21b0
         try clear c21b1
         try clear c22
         try clear c22b0
         try clear c22b1
         try clear c23
         try clear c23b0
         try clear c23b1
         try clear c24
         try clear c28
         try clear c29
         try clear c29b0
         try clear c29b1
         try clear c30
         try clear c30b0
         try clear c30b1
         try clear c31
         try clear c31b0
         try clear c31b1
         try clear c32
         try clear c35
         try clear c37
         try clear hcz17_0
         try clear hcz17_1
         try clear hcz17_2
         try clear hcz17_3
         try clear hcz17_4
         try clear hcz18_0
         try clear hcz18_1
         try clear hcz25_0
         try clear hcz25_1
         try clear hcz25_2
         try clear hcz25_3
         try clear hcz25_4
         try clear hcz26_0
         try clear hcz26_1
         try clear hcz33_0
         try clear hcz33_1
         try clear hcz33_2
         try clear hcz33_3
         try clear hcz33_4
         try clear hcz34_0
         try clear hcz34_1
         try clear hfz17_0
         try clear hfz17_1
         try clear hfz17_2
         try clear hfz17_3
         try clear hfz17_4
         try clear hfz18_0
         try clear hfz18_1
         try clear hfz25_0
         try clear hfz25_1
         try clear hfz25_2
         try clear hfz25_3
         try clear hfz25_4
         try clear hfz26_0
         try clear hfz26_1
         try clear hfz33_0
         try clear hfz33_1
         try clear hfz33_2
         try clear hfz33_3
         try clear hfz33_4
         try clear hfz34_0
         try clear hfz34_1
         try clear p2
         try clear p5
         try clear q5
         obtain ⟨kq, x53_34, rfl, HA, HJ34, BK483, BK484, HB⟩ := hcut
         cases kq with
         | zero => exact absurd HA.out (by simp [hearsayref04_one.j1])
         | succ kj34 =>
          have H := HA.out
          clear HA
          simp only [hearsayref04_one.j1] at H
          by_cases c38 : x53_34 = true
          ·subst c38
           have H1 : (if (bt a0 a1) = 45 then ((hearsayref04_run.f kj34 a0 (wrap64 (a1 + 1))).bind fun t490 => (if 0 ≤ a1 then (if a1 ≤ t490 then (if t490 ≤ (a0.size : Int) then ((hearsayref04_Number.f kj34 (a0.extract (a1 : Int).toNat (t490 : Int).toNat)).bind fun bt491 => (if bt491.2 = true then (some (4, (⟨#[]⟩ : ByteArray), bt491.1, a1, t490, 0, 0)) else (some (0, (⟨#[]⟩ : ByteArray), 0, 0, 0, 45, a1)))) else (none)) else (none)) else (none))) else (if 0 ≤ a1 then (if a1 ≤ t485 then (if t485 ≤ (a0.size : Int) then ((hearsayref04_Number.f kj34 (a0.extract (a1 : Int).toNat (t485 : Int).toNat)).bind fun bt493 => (if bt493.2 = true then (some (4, (⟨#[]⟩ : ByteArray), bt493.1, a1, t485, 0, 0)) else (some (0, (⟨#[]⟩ : ByteArray), 0, 0, 0, 45, a1)))) else (none)) else (none)) else (none))) = some (r1, r2, r3, r4, r5, r6, r7) := by rw [if_pos rfl] at H; exact H
           clear H
           have H := H1
           clear H1
           by_cases c39 : (bt a0 a1) = 45
           ·rw [if_pos c39] at H
            have c39b0 : ((bt a0 a1) == 45) = true := beq_iff_eq.mpr c39
            have c39b1 : ((bt a0 a1) != 45) = false := bne_eq_false_iff_eq.mpr c39
            clear c39
            replace H := Option.bind_eq_some_iff.mp H
            obtain ⟨t490, A400, H⟩ := H
            replace H : (if 0 ≤ a1 then (if a1 ≤ t490 then (if t490 ≤ (a0.size : Int) then ((hearsayref04_Number.f kj34 (a0.extract (a1 : Int).toNat (t490 : Int).toNat)).bind fun bt491 => (if bt491.2 = true then (some (4, (⟨#[]⟩ : ByteArray), bt491.1, a1, t490, 0, 0)) else (some (0, (⟨#[]⟩ : ByteArray), 0, 0, 0, 45, a1)))) else (none)) else (none)) else (none)) = some (r1, r2, r3, r4, r5, r6, r7) := H
            have A40 := Aside0.mk A400
            clear A400
            by_cases c41 : 0 ≤ a1
            ·rw [if_pos c41] at H
             have c41b0 := eq_true c41
             have c41b1 : decide (0 ≤ a1) = true := decide_eq_true c41
             clear c41
             by_cases c42 : a1 ≤ t490
             ·rw [if_pos c42] at H
              have c42b0 := eq_true c42
              have c42b1 : decide (a1 ≤ t490) = true := decide_eq_true c42
              clear c42
              by_cases c43 : t490 ≤ (a0.size : Int)
              ·rw [if_pos c43] at H
               have c43b0 := eq_true c43
               have c43b1 : decide (t490 ≤ (a0.size : Int)) = true := decide_eq_true c43
               clear c43
               replace H := Option.bind_eq_some_iff.mp H
               obtain ⟨⟨t491, t492⟩, A440, H⟩ := H
               replace H : (if t492 = true then (some (4, (⟨#[]⟩ : ByteArray), t491, a1, t490, 0, 0)) else (some (0, (⟨#[]⟩ : ByteArray), 0, 0, 0, 45, a1))) = some (r1, r2, r3, r4, r5, r6, r7) := H
               have A44 := Aside0.mk A440
               clear A440
               by_cases c45 : t492 = true
               ·subst c45
                have H1 : (some (4, (⟨#[]⟩ : ByteArray), t491, a1, t490, 0, 0)) = some (r1, r2, r3, r4, r5, r6, r7) := by rw [if_pos rfl] at H; exact H
                clear H
                have H := H1
                clear H1
                simp only [Option.some.injEq, Prod.mk.injEq] at H
                obtain ⟨rfl, rfl, rfl, rfl, rfl, rfl, rfl⟩ := H
                go_wp2_with (first | (go_at_call 55; (with_reducible refine (hearsayref04_run.calls kj34 a0 (wrap64 (a1 + 1)) t490 _ A40.out).mono ?_); rintro e w' ⟨rfl, ⟨nd, rfl⟩⟩; (try first | exact ⟨rfl, _, World.drewN_drewN _ _ _⟩ | exact ⟨rfl, _, Eq.trans (World.drewN_drewN _ _ _) (congrArg (World.drewN _) (Nat.add_assoc _ _ _))⟩)) | (go_at_call 59; (with_reducible refine (hearsayref04_Number.calls kj34 (a0.extract (a1 : Int).toNat (t490 : Int).toNat) t491 true _ A44.out).mono ?_); rintro e w' ⟨rfl, ⟨nd, rfl⟩⟩; (try first | exact ⟨rfl, _, World.drewN_drewN _ _ _⟩ | exact ⟨rfl, _, Eq.trans (World.drewN_drewN _ _ _) (congrArg (World.drewN _) (Nat.add_assoc _ _ _))⟩); have hnb46 := NB483_484.out; have hnc46 := NB484_483.out; have hcz47_0 : wc.cell? ⟨gb483, 0, none⟩ = some (.int .i64 0) := (blk_cell BK483.out 0).trans rfl; have hcz47_1 : wc.cell? ⟨gb483, 1, none⟩ = some (.string (⟨#[]⟩ : ByteArray)) := (blk_cell BK483.out 1).trans rfl; have hcz47_2 : wc.cell? ⟨gb483, 2, none⟩ = some (.int .i64 0) := (blk_cell BK483.out 2).trans rfl; have hcz47_3 : wc.cell? ⟨gb483, 3, none⟩ = some (.int .i64 0) := (blk_cell BK483.out 3).trans rfl; have hcz47_4 : wc.cell? ⟨gb483, 4, none⟩ = some (.int .i64 0) := (blk_cell BK483.out 4).trans rfl; have hfz47_0 := blk_frozen BK483.out 0; have hfz47_1 := blk_frozen BK483.out 1; have hfz47_2 := blk_frozen BK483.out 2; have hfz47_3 := blk_frozen BK483.out 3; have hfz47_4 := blk_frozen BK483.out 4; have hcz48_0 : wc.cell? ⟨gb484, 0, none⟩ = some (.int .i64 0) := (blk_cell BK484.out 0).trans rfl; have hcz48_1 : wc.cell? ⟨gb484, 1, none⟩ = some (.int .i64 0) := (blk_cell BK484.out 1).trans rfl; have hfz48_0 := blk_frozen BK484.out 0; have hfz48_1 := blk_frozen BK484.out 1))
                repeat (go_quiet (first | (go_at_call 55; (with_reducible refine (hearsayref04_run.calls kj34 a0 (wrap64 (a1 + 1)) t490 _ A40.out).mono ?_); rintro e w' ⟨rfl, ⟨nd, rfl⟩⟩; (try first | exact ⟨rfl, _, World.drewN_drewN _ _ _⟩ | exact ⟨rfl, _, Eq.trans (World.drewN_drewN _ _ _) (congrArg (World.drewN _) (Nat.add_assoc _ _ _))⟩)) | (go_at_call 59; (with_reducible refine (hearsayref04_Number.calls kj34 (a0.extract (a1 : Int).toNat (t490 : Int).toNat) t491 true _ A44.out).mono ?_); rintro e w' ⟨rfl, ⟨nd, rfl⟩⟩; (try first | exact ⟨rfl, _, World.drewN_drewN _ _ _⟩ | exact ⟨rfl, _, Eq.trans (World.drewN_drewN _ _ _) (congrArg (World.drewN _) (Nat.add_assoc _ _ _))⟩); have hnb46 := NB483_484.out; have hnc46 := NB484_483.out; have hcz47_0 : wc.cell? ⟨gb483, 0, none⟩ = some (.int .i64 0) := (blk_cell BK483.out 0).trans rfl; have hcz47_1 : wc.cell? ⟨gb483, 1, none⟩ = some (.string (⟨#[]⟩ : ByteArray)) := (blk_cell BK483.out 1).trans rfl; have hcz47_2 : wc.cell? ⟨gb483, 2, none⟩ = some (.int .i64 0) := (blk_cell BK483.out 2).trans rfl; have hcz47_3 : wc.cell? ⟨gb483, 3, none⟩ = some (.int .i64 0) := (blk_cell BK483.out 3).trans rfl; have hcz47_4 : wc.cell? ⟨gb483, 4, none⟩ = some (.int .i64 0) := (blk_cell BK483.out 4).trans rfl; have hfz47_0 := blk_frozen BK483.out 0; have hfz47_1 := blk_frozen BK483.out 1; have hfz47_2 := blk_frozen BK483.out 2; have hfz47_3 := blk_frozen BK483.out 3; have hfz47_4 := blk_frozen BK483.out 4; have hcz48_0 : wc.cell? ⟨gb484, 0, none⟩ = some (.int .i64 0) := (blk_cell BK484.out 0).trans rfl; have hcz48_1 : wc.cell? ⟨gb484, 1, none⟩ = some (.int .i64 0) := (blk_cell BK484.out 1).trans rfl; have hfz48_0 := blk_frozen BK484.out 0; have hfz48_1 := blk_frozen BK484.out 1)); try go_wp2_with (first | (go_at_call 55; (with_reducible refine (hearsayref04_run.calls kj34 a0 (wrap64 (a1 + 1)) t490 _ A40.out).mono ?_); rintro e w' ⟨rfl, ⟨nd, rfl⟩⟩; (try first | exact ⟨rfl, _, World.drewN_drewN _ _ _⟩ | exact ⟨rfl, _, Eq.trans (World.drewN_drewN _ _ _) (congrArg (World.drewN _) (Nat.add_assoc _ _ _))⟩)) | (go_at_call 59; (with_reducible refine (hearsayref04_Number.calls kj34 (a0.extract (a1 : Int).toNat (t490 : Int).toNat) t491 true _ A44.out).mono ?_); rintro e w' ⟨rfl, ⟨nd, rfl⟩⟩; (try first | exact ⟨rfl, _, World.drewN_drewN _ _ _⟩ | exact ⟨rfl, _, Eq.trans (World.drewN_drewN _ _ _) (congrArg (World.drewN _) (Nat.add_assoc _ _ _))⟩); have hnb46 := NB483_484.out; have hnc46 := NB484_483.out; have hcz47_0 : wc.cell? ⟨gb483, 0, none⟩ = some (.int .i64 0) := (blk_cell BK483.out 0).trans rfl; have hcz47_1 : wc.cell? ⟨gb483, 1, none⟩ = some (.string (⟨#[]⟩ : ByteArray)) := (blk_cell BK483.out 1).trans rfl; have hcz47_2 : wc.cell? ⟨gb483, 2, none⟩ = some (.int .i64 0) := (blk_cell BK483.out 2).trans rfl; have hcz47_3 : wc.cell? ⟨gb483, 3, none⟩ = some (.int .i64 0) := (blk_cell BK483.out 3).trans rfl; have hcz47_4 : wc.cell? ⟨gb483, 4, none⟩ = some (.int .i64 0) := (blk_cell BK483.out 4).trans rfl; have hfz47_0 := blk_frozen BK483.out 0; have hfz47_1 := blk_frozen BK483.out 1; have hfz47_2 := blk_frozen BK483.out 2; have hfz47_3 := blk_frozen BK483.out 3; have hfz47_4 := blk_frozen BK483.out 4; have hcz48_0 : wc.cell? ⟨gb484, 0, none⟩ = some (.int .i64 0) := (blk_cell BK484.out 0).trans rfl; have hcz48_1 : wc.cell? ⟨gb484, 1, none⟩ = some (.int .i64 0) := (blk_cell BK484.out 1).trans rfl; have hfz48_0 := blk_frozen BK484.out 0; have hfz48_1 := blk_frozen BK484.out 1)))
                refine bodyPost_ret (results_cc rfl _ _ gb483 gb484 33 26 #[.int .i64 4, .string (⟨#[]⟩ : ByteArray), .int .i64 t491, .int .i64 a1, .int .i64 t490] #[.int .i64 0, .int .i64 0] (0, 0) (0, 0) _ _ rfl (by (with_reducible repeat first|apply bk1_|apply bk2_|apply bk3_); refine blk_far ?_ NB483_484.out _; (with_reducible repeat first|apply bk1_|apply bk2_|apply bk3_); refine blk_far ?_ NB483_484.out _; (with_reducible repeat first|apply bk1_|apply bk2_|apply bk3_); refine blk_put (cs := #[.int .i64 4, .string (⟨#[]⟩ : ByteArray), .int .i64 t491, .int .i64 a1, .int .i64 0]) ?_ 4 _ rfl; (with_reducible repeat first|apply bk1_|apply bk2_|apply bk3_); refine blk_put (cs := #[.int .i64 4, .string (⟨#[]⟩ : ByteArray), .int .i64 t491, .int .i64 0, .int .i64 0]) ?_ 3 _ rfl; (with_reducible repeat first|apply bk1_|apply bk2_|apply bk3_); refine blk_put (cs := #[.int .i64 4, .string (⟨#[]⟩ : ByteArray), .int .i64 0, .int .i64 0, .int .i64 0]) ?_ 2 _ rfl; (with_reducible repeat first|apply bk1_|apply bk2_|apply bk3_); refine blk_put (cs := #[.int .i64 4, .string (⟨#[]⟩ : ByteArray), .int .i64 0, .int .i64 0, .int .i64 0]) ?_ 1 _ rfl; (with_reducible repeat first|apply bk1_|apply bk2_|apply bk3_); refine blk_put (cs := #[.int .i64 0, .string (⟨#[]⟩ : ByteArray), .int .i64 0, .int .i64 0, .int .i64 0]) ?_ 0 _ rfl; (with_reducible repeat first|apply bk1_|apply bk2_|apply bk3_); exact BK483.out) Tryd.underlying33 rfl (by kernel_rfl) rfl (by (with_reducible repeat first|apply bk1_|apply bk2_|apply bk3_); refine blk_put (cs := #[.int .i64 0, .int .i64 0]) ?_ 1 _ rfl; (with_reducible repeat first|apply bk1_|apply bk2_|apply bk3_); refine blk_put (cs := #[.int .i64 0, .int .i64 0]) ?_ 0 _ rfl; (with_reducible repeat first|apply bk1_|apply bk2_|apply bk3_); refine blk_far ?_ NB484_483.out _; (with_reducible repeat first|apply bk1_|apply bk2_|apply bk3_); refine blk_far ?_ NB484_483.out _; (with_reducible repeat first|apply bk1_|apply bk2_|apply bk3_); refine blk_far ?_ NB484_483.out _; (with_reducible repeat first|apply bk1_|apply bk2_|apply bk3_); refine blk_far ?_ NB484_483.out _; (with_reducible repeat first|apply bk1_|apply bk2_|apply bk3_); refine blk_far ?_ NB484_483.out _; (with_reducible repeat first|apply bk1_|apply bk2_|apply bk3_); exact BK484.out) Tryd.underlying26 rfl (by kernel_rfl)) rfl ?_
                exact ⟨er_, h1_⟩
               ·replace c45 := Bool.eq_false_iff.mpr c45
                subst c45
                have H1 : (some (0, (⟨#[]⟩ : ByteArray), 0, 0, 0, 45, a1)) = some (r1, r2, r3, r4, r5, r6, r7) := by rw [if_neg (show ¬ (false = true) by decide)] at H; exact H
                clear H
                have H := H1
                clear H1
                simp only [Option.some.injEq, Prod.mk.injEq] at H
                obtain ⟨rfl, rfl, rfl, rfl, rfl, rfl, rfl⟩ := H
                go_wp2_with (first | (go_at_call 55; (with_reducible refine (hearsayref04_run.calls kj34 a0 (wrap64 (a1 + 1)) t490 _ A40.out).mono ?_); rintro e w' ⟨rfl, ⟨nd, rfl⟩⟩; (try first | exact ⟨rfl, _, World.drewN_drewN _ _ _⟩ | exact ⟨rfl, _, Eq.trans (World.drewN_drewN _ _ _) (congrArg (World.drewN _) (Nat.add_assoc _ _ _))⟩)) | (go_at_call 59; (with_reducible refine (hearsayref04_Number.calls kj34 (a0.extract (a1 : Int).toNat (t490 : Int).toNat) t491 false _ A44.out).mono ?_); rintro e w' ⟨rfl, ⟨nd, rfl⟩⟩; (try first | exact ⟨rfl, _, World.drewN_drewN _ _ _⟩ | exact ⟨rfl, _, Eq.trans (World.drewN_drewN _ _ _) (congrArg (World.drewN _) (Nat.add_assoc _ _ _))⟩); have hnb49 := NB483_484.out; have hnc49 := NB484_483.out; have hcz50_0 : wc.cell? ⟨gb483, 0, none⟩ = some (.int .i64 0) := (blk_cell BK483.out 0).trans rfl; have hcz50_1 : wc.cell? ⟨gb483, 1, none⟩ = some (.string (⟨#[]⟩ : ByteArray)) := (blk_cell BK483.out 1).trans rfl; have hcz50_2 : wc.cell? ⟨gb483, 2, none⟩ = some (.int .i64 0) := (blk_cell BK483.out 2).trans rfl; have hcz50_3 : wc.cell? ⟨gb483, 3, none⟩ = some (.int .i64 0) := (blk_cell BK483.out 3).trans rfl; have hcz50_4 : wc.cell? ⟨gb483, 4, none⟩ = some (.int .i64 0) := (blk_cell BK483.out 4).trans rfl; have hfz50_0 := blk_frozen BK483.out 0; have hfz50_1 := blk_frozen BK483.out 1; have hfz50_2 := blk_frozen BK483.out 2; have hfz50_3 := blk_frozen BK483.out 3; have hfz50_4 := blk_frozen BK483.out 4; have hcz51_0 : wc.cell? ⟨gb484, 0, none⟩ = some (.int .i64 0) := (blk_cell BK484.out 0).trans rfl; have hcz51_1 : wc.cell? ⟨gb484, 1, none⟩ = some (.int .i64 0) := (blk_cell BK484.out 1).trans rfl; have hfz51_0 := blk_frozen BK484.out 0; have hfz51_1 := blk_frozen BK484.out 1))
                repeat (go_quiet (first | (go_at_call 55; (with_reducible refine (hearsayref04_run.calls kj34 a0 (wrap64 (a1 + 1)) t490 _ A40.out).mono ?_); rintro e w' ⟨rfl, ⟨nd, rfl⟩⟩; (try first | exact ⟨rfl, _, World.drewN_drewN _ _ _⟩ | exact ⟨rfl, _, Eq.trans (World.drewN_drewN _ _ _) (congrArg (World.drewN _) (Nat.add_assoc _ _ _))⟩)) | (go_at_call 59; (with_reducible refine (hearsayref04_Number.calls kj34 (a0.extract (a1 : Int).toNat (t490 : Int).toNat) t491 false _ A44.out).mono ?_); rintro e w' ⟨rfl, ⟨nd, rfl⟩⟩; (try first | exact ⟨rfl, _, World.drewN_drewN _ _ _⟩ | exact ⟨rfl, _, Eq.trans (World.drewN_drewN _ _ _) (congrArg (World.drewN _) (Nat.add_assoc _ _ _))⟩); have hnb49 := NB483_484.out; have hnc49 := NB484_483.out; have hcz50_0 : wc.cell? ⟨gb483, 0, none⟩ = some (.int .i64 0) := (blk_cell BK483.out 0).trans rfl; have hcz50_1 : wc.cell? ⟨gb483, 1, none⟩ = some (.string (⟨#[]⟩ : ByteArray)) := (blk_cell BK483.out 1).trans rfl; have hcz50_2 : wc.cell? ⟨gb483, 2, none⟩ = some (.int .i64 0) := (blk_cell BK483.out 2).trans rfl; have hcz50_3 : wc.cell? ⟨gb483, 3, none⟩ = some (.int .i64 0) := (blk_cell BK483.out 3).trans rfl; have hcz50_4 : wc.cell? ⟨gb483, 4, none⟩ = some (.int .i64 0) := (blk_cell BK483.out 4).trans rfl; have hfz50_0 := blk_frozen BK483.out 0; have hfz50_1 := blk_frozen BK483.out 1; have hfz50_2 := blk_frozen BK483.out 2; have hfz50_3 := blk_frozen BK483.out 3; have hfz50_4 := blk_frozen BK483.out 4; have hcz51_0 : wc.cell? ⟨gb484, 0, none⟩ = some (.int .i64 0) := (blk_cell BK484.out 0).trans rfl; have hcz51_1 : wc.cell? ⟨gb484, 1, none⟩ = some (.int .i64 0) := (blk_cell BK484.out 1).trans rfl; have hfz51_0 := blk_frozen BK484.out 0; have hfz51_1 := blk_frozen BK484.out 1)); try go_wp2_with (first | (go_at_call 55; (with_reducible refine (hearsayref04_run.calls kj34 a0 (wrap64 (a1 + 1)) t490 _ A40.out).mono ?_); rintro e w' ⟨rfl, ⟨nd, rfl⟩⟩; (try first | exact ⟨rfl, _, World.drewN_drewN _ _ _⟩ | exact ⟨rfl, _, Eq.trans (World.drewN_drewN _ _ _) (congrArg (World.drewN _) (Nat.add_assoc _ _ _))⟩)) | (go_at_call 59; (with_reducible refine (hearsayref04_Number.calls kj34 (a0.extract (a1 : Int).toNat (t490 : Int).toNat) t491 false _ A44.out).mono ?_); rintro e w' ⟨rfl, ⟨nd, rfl⟩⟩; (try first | exact ⟨rfl, _, World.drewN_drewN _ _ _⟩ | exact ⟨rfl, _, Eq.trans (World.drewN_drewN _ _ _) (congrArg (World.drewN _) (Nat.add_assoc _ _ _))⟩); have hnb49 := NB483_484.out; have hnc49 := NB484_483.out; have hcz50_0 : wc.cell? ⟨gb483, 0, none⟩ = some (.int .i64 0) := (blk_cell BK483.out 0).trans rfl; have hcz50_1 : wc.cell? ⟨gb483, 1, none⟩ = some (.string (⟨#[]⟩ : ByteArray)) := (blk_cell BK483.out 1).trans rfl; have hcz50_2 : wc.cell? ⟨gb483, 2, none⟩ = some (.int .i64 0) := (blk_cell BK483.out 2).trans rfl; have hcz50_3 : wc.cell? ⟨gb483, 3, none⟩ = some (.int .i64 0) := (blk_cell BK483.out 3).trans rfl; have hcz50_4 : wc.cell? ⟨gb483, 4, none⟩ = some (.int .i64 0) := (blk_cell BK483.out 4).trans rfl; have hfz50_0 := blk_frozen BK483.out 0; have hfz50_1 := blk_frozen BK483.out 1; have hfz50_2 := blk_frozen BK483.out 2; have hfz50_3 := blk_frozen BK483.out 3; have hfz50_4 := blk_frozen BK483.out 4; have hcz51_0 : wc.cell? ⟨gb484, 0, none⟩ = some (.int .i64 0) := (blk_cell BK484.out 0).trans rfl; have hcz51_1 : wc.cell? ⟨gb484, 1, none⟩ = some (.int .i64 0) := (blk_cell BK484.out 1).trans rfl; have hfz51_0 := blk_frozen BK484.out 0; have hfz51_1 := blk_frozen BK484.out 1)))
                refine bodyPost_ret (results_cc rfl _ _ gb483 gb484 33 26 #[.int .i64 0, .string (⟨#[]⟩ : ByteArray), .int .i64 0, .int .i64 0, .int .i64 0] #[.int .i64 45, .int .i64 a1] (0, 0) (0, 0) _ _ rfl (by (with_reducible repeat first|apply bk1_|apply bk2_|apply bk3_); refine blk_far ?_ NB483_484.out _; (with_reducible repeat first|apply bk1_|apply bk2_|apply bk3_); refine blk_far ?_ NB483_484.out _; (with_reducible repeat first|apply bk1_|apply bk2_|apply bk3_); refine blk_put (cs := #[.int .i64 0, .string (⟨#[]⟩ : ByteArray), .int .i64 0, .int .i64 0, .int .i64 0]) ?_ 4 _ rfl; (with_reducible repeat first|apply bk1_|apply bk2_|apply bk3_); refine blk_put (cs := #[.int .i64 0, .string (⟨#[]⟩ : ByteArray), .int .i64 0, .int .i64 0, .int .i64 0]) ?_ 3 _ rfl; (with_reducible repeat first|apply bk1_|apply bk2_|apply bk3_); refine blk_put (cs := #[.int .i64 0, .string (⟨#[]⟩ : ByteArray), .int .i64 0, .int .i64 0, .int .i64 0]) ?_ 2 _ rfl; (with_reducible repeat first|apply bk1_|apply bk2_|apply bk3_); refine blk_put (cs := #[.int .i64 0, .string (⟨#[]⟩ : ByteArray), .int .i64 0, .int .i64 0, .int .i64 0]) ?_ 1 _ rfl; (with_reducible repeat first|apply bk1_|apply bk2_|apply bk3_); refine blk_put (cs := #[.int .i64 0, .string (⟨#[]⟩ : ByteArray), .int .i64 0, .int .i64 0, .int .i64 0]) ?_ 0 _ rfl; (with_reducible repeat first|apply bk1_|apply bk2_|apply bk3_); exact BK483.out) Tryd.underlying33 rfl (by kernel_rfl) rfl (by (with_reducible repeat first|apply bk1_|apply bk2_|apply bk3_); refine blk_put (cs := #[.int .i64 45, .int .i64 0]) ?_ 1 _ rfl; (with_reducible repeat first|apply bk1_|apply bk2_|apply bk3_); refine blk_put (cs := #[.int .i64 0, .int .i64 0]) ?_ 0 _ rfl; (with_reducible repeat first|apply bk1_|apply bk2_|apply bk3_); refine blk_far ?_ NB484_483.out _; (with_reducible repeat first|apply bk1_|apply bk2_|apply bk3_); refine blk_far ?_ NB484_483.out _; (with_reducible repeat first|apply bk1_|apply bk2_|apply bk3_); refine blk_far ?_ NB484_483.out _; (with_reducible repeat first|apply bk1_|apply bk2_|apply bk3_); refine blk_far ?_ NB484_483.out _; (with_reducible repeat first|apply bk1_|apply bk2_|apply bk3_); refine blk_far ?_ NB484_483.out _; (with_reducible repeat first|apply bk1_|apply bk2_|apply bk3_); exact BK484.out) Tryd.underlying26 rfl (by kernel_rfl)) rfl ?_
                exact ⟨er_, h1_⟩
              ·rw [if_neg c43] at H
               exact absurd H (by simp)
             ·rw [if_neg c42] at H
              exact absurd H (by simp)
            ·rw [if_neg c41] at H
             exact absurd H (by simp)
           ·rw [if_neg c39] at H
            have c39b0 : ((bt a0 a1) == 45) = false := beq_eq_false_iff_ne.mpr c39
            have c39b1 : ((bt a0 a1) != 45) = true := bne_iff_ne.mpr c39
            by_cases c52 : 0 ≤ a1
            ·rw [if_pos c52] at H
             have c52b0 := eq_true c52
             have c52b1 : decide (0 ≤ a1) = true := decide_eq_true c52
             clear c52
             by_cases c53 : a1 ≤ t485
             ·rw [if_pos c53] at H
              have c53b0 := eq_true c53
              have c53b1 : decide (a1 ≤ t485) = true := decide_eq_true c53
              clear c53
              by_cases c54 : t485 ≤ (a0.size : Int)
              ·rw [if_pos c54] at H
               have c54b0 := eq_true c54
               have c54b1 : decide (t485 ≤ (a0.size : Int)) = true := decide_eq_true c54
               clear c54
               replace H := Option.bind_eq_some_iff.mp H
               obtain ⟨⟨t493, t494⟩, A550, H⟩ := H
               replace H : (if t494 = true then (some (4, (⟨#[]⟩ : ByteArray), t493, a1, t485, 0, 0)) else (some (0, (⟨#[]⟩ : ByteArray), 0, 0, 0, 45, a1))) = some (r1, r2, r3, r4, r5, r6, r7) := H
               have A55 := Aside0.mk A550
               clear A550
               by_cases c56 : t494 = true
               ·subst c56
                have H1 : (some (4, (⟨#[]⟩ : ByteArray), t493, a1, t485, 0, 0)) = some (r1, r2, r3, r4, r5, r6, r7) := by rw [if_pos rfl] at H; exact H
                clear H
                have H := H1
                clear H1
                simp only [Option.some.injEq, Prod.mk.injEq] at H
                obtain ⟨rfl, rfl, rfl, rfl, rfl, rfl, rfl⟩ := H
                go_wp2_with (first | (go_at_call 59; (with_reducible refine (hearsayref04_Number.calls kj34 (a0.extract (a1 : Int).toNat (t485 : Int).toNat) t493 true _ A55.out).mono ?_); rintro e w' ⟨rfl, ⟨nd, rfl⟩⟩; (try first | exact ⟨rfl, _, World.drewN_drewN _ _ _⟩ | exact ⟨rfl, _, Eq.trans (World.drewN_drewN _ _ _) (congrArg (World.drewN _) (Nat.add_assoc _ _ _))⟩); have hnb57 := NB483_484.out; have hnc57 := NB484_483.out; have hcz58_0 : wc.cell? ⟨gb483, 0, none⟩ = some (.int .i64 0) := (blk_cell BK483.out 0).trans rfl; have hcz58_1 : wc.cell? ⟨gb483, 1, none⟩ = some (.string (⟨#[]⟩ : ByteArray)) := (blk_cell BK483.out 1).trans rfl; have hcz58_2 : wc.cell? ⟨gb483, 2, none⟩ = some (.int .i64 0) := (blk_cell BK483.out 2).trans rfl; have hcz58_3 : wc.cell? ⟨gb483, 3, none⟩ = some (.int .i64 0) := (blk_cell BK483.out 3).trans rfl; have hcz58_4 : wc.cell? ⟨gb483, 4, none⟩ = some (.int .i64 0) := (blk_cell BK483.out 4).trans rfl; have hfz58_0 := blk_frozen BK483.out 0; have hfz58_1 := blk_frozen BK483.out 1; have hfz58_2 := blk_frozen BK483.out 2; have hfz58_3 := blk_frozen BK483.out 3; have hfz58_4 := blk_frozen BK483.out 4; have hcz59_0 : wc.cell? ⟨gb484, 0, none⟩ = some (.int .i64 0) := (blk_cell BK484.out 0).trans rfl; have hcz59_1 : wc.cell? ⟨gb484, 1, none⟩ = some (.int .i64 0) := (blk_cell BK484.out 1).trans rfl; have hfz59_0 := blk_frozen BK484.out 0; have hfz59_1 := blk_frozen BK484.out 1))
                repeat (go_quiet (first | (go_at_call 59; (with_reducible refine (hearsayref04_Number.calls kj34 (a0.extract (a1 : Int).toNat (t485 : Int).toNat) t493 true _ A55.out).mono ?_); rintro e w' ⟨rfl, ⟨nd, rfl⟩⟩; (try first | exact ⟨rfl, _, World.drewN_drewN _ _ _⟩ | exact ⟨rfl, _, Eq.trans (World.drewN_drewN _ _ _) (congrArg (World.drewN _) (Nat.add_assoc _ _ _))⟩); have hnb57 := NB483_484.out; have hnc57 := NB484_483.out; have hcz58_0 : wc.cell? ⟨gb483, 0, none⟩ = some (.int .i64 0) := (blk_cell BK483.out 0).trans rfl; have hcz58_1 : wc.cell? ⟨gb483, 1, none⟩ = some (.string (⟨#[]⟩ : ByteArray)) := (blk_cell BK483.out 1).trans rfl; have hcz58_2 : wc.cell? ⟨gb483, 2, none⟩ = some (.int .i64 0) := (blk_cell BK483.out 2).trans rfl; have hcz58_3 : wc.cell? ⟨gb483, 3, none⟩ = some (.int .i64 0) := (blk_cell BK483.out 3).trans rfl; have hcz58_4 : wc.cell? ⟨gb483, 4, none⟩ = some (.int .i64 0) := (blk_cell BK483.out 4).trans rfl; have hfz58_0 := blk_frozen BK483.out 0; have hfz58_1 := blk_frozen BK483.out 1; have hfz58_2 := blk_frozen BK483.out 2; have hfz58_3 := blk_frozen BK483.out 3; have hfz58_4 := blk_frozen BK483.out 4; have hcz59_0 : wc.cell? ⟨gb484, 0, none⟩ = some (.int .i64 0) := (blk_cell BK484.out 0).trans rfl; have hcz59_1 : wc.cell? ⟨gb484, 1, none⟩ = some (.int .i64 0) := (blk_cell BK484.out 1).trans rfl; have hfz59_0 := blk_frozen BK484.out 0; have hfz59_1 := blk_frozen BK484.out 1)); try go_wp2_with (first | (go_at_call 59; (with_reducible refine (hearsayref04_Number.calls kj34 (a0.extract (a1 : Int).toNat (t485 : Int).toNat) t493 true _ A55.out).mono ?_); rintro e w' ⟨rfl, ⟨nd, rfl⟩⟩; (try first | exact ⟨rfl, _, World.drewN_drewN _ _ _⟩ | exact ⟨rfl, _, Eq.trans (World.drewN_drewN _ _ _) (congrArg (World.drewN _) (Nat.add_assoc _ _ _))⟩); have hnb57 := NB483_484.out; have hnc57 := NB484_483.out; have hcz58_0 : wc.cell? ⟨gb483, 0, none⟩ = some (.int .i64 0) := (blk_cell BK483.out 0).trans rfl; have hcz58_1 : wc.cell? ⟨gb483, 1, none⟩ = some (.string (⟨#[]⟩ : ByteArray)) := (blk_cell BK483.out 1).trans rfl; have hcz58_2 : wc.cell? ⟨gb483, 2, none⟩ = some (.int .i64 0) := (blk_cell BK483.out 2).trans rfl; have hcz58_3 : wc.cell? ⟨gb483, 3, none⟩ = some (.int .i64 0) := (blk_cell BK483.out 3).trans rfl; have hcz58_4 : wc.cell? ⟨gb483, 4, none⟩ = some (.int .i64 0) := (blk_cell BK483.out 4).trans rfl; have hfz58_0 := blk_frozen BK483.out 0; have hfz58_1 := blk_frozen BK483.out 1; have hfz58_2 := blk_frozen BK483.out 2; have hfz58_3 := blk_frozen BK483.out 3; have hfz58_4 := blk_frozen BK483.out 4; have hcz59_0 : wc.cell? ⟨gb484, 0, none⟩ = some (.int .i64 0) := (blk_cell BK484.out 0).trans rfl; have hcz59_1 : wc.cell? ⟨gb484, 1, none⟩ = some (.int .i64 0) := (blk_cell BK484.out 1).trans rfl; have hfz59_0 := blk_frozen BK484.out 0; have hfz59_1 := blk_frozen BK484.out 1)))
                refine bodyPost_ret (results_cc rfl _ _ gb483 gb484 33 26 #[.int .i64 4, .string (⟨#[]⟩ : ByteArray), .int .i64 t493, .int .i64 a1, .int .i64 t485] #[.int .i64 0, .int .i64 0] (0, 0) (0, 0) _ _ rfl (by (with_reducible repeat first|apply bk1_|apply bk2_|apply bk3_); refine blk_far ?_ NB483_484.out _; (with_reducible repeat first|apply bk1_|apply bk2_|apply bk3_); refine blk_far ?_ NB483_484.out _; (with_reducible repeat first|apply bk1_|apply bk2_|apply bk3_); refine blk_put (cs := #[.int .i64 4, .string (⟨#[]⟩ : ByteArray), .int .i64 t493, .int .i64 a1, .int .i64 0]) ?_ 4 _ rfl; (with_reducible repeat first|apply bk1_|apply bk2_|apply bk3_); refine blk_put (cs := #[.int .i64 4, .string (⟨#[]⟩ : ByteArray), .int .i64 t493, .int .i64 0, .int .i64 0]) ?_ 3 _ rfl; (with_reducible repeat first|apply bk1_|apply bk2_|apply bk3_); refine blk_put (cs := #[.int .i64 4, .string (⟨#[]⟩ : ByteArray), .int .i64 0, .int .i64 0, .int .i64 0]) ?_ 2 _ rfl; (with_reducible repeat first|apply bk1_|apply bk2_|apply bk3_); refine blk_put (cs := #[.int .i64 4, .string (⟨#[]⟩ : ByteArray), .int .i64 0, .int .i64 0, .int .i64 0]) ?_ 1 _ rfl; (with_reducible repeat first|apply bk1_|apply bk2_|apply bk3_); refine blk_put (cs := #[.int .i64 0, .string (⟨#[]⟩ : ByteArray), .int .i64 0, .int .i64 0, .int .i64 0]) ?_ 0 _ rfl; (with_reducible repeat first|apply bk1_|apply bk2_|apply bk3_); exact BK483.out) Tryd.underlying33 rfl (by kernel_rfl) rfl (by (with_reducible repeat first|apply bk1_|apply bk2_|apply bk3_); refine blk_put (cs := #[.int .i64 0, .int .i64 0]) ?_ 1 _ rfl; (with_reducible repeat first|apply bk1_|apply bk2_|apply bk3_); refine blk_put (cs := #[.int .i64 0, .int .i64 0]) ?_ 0 _ rfl; (with_reducible repeat first|apply bk1_|apply bk2_|apply bk3_); refine blk_far ?_ NB484_483.out _; (with_reducible repeat first|apply bk1_|apply bk2_|apply bk3_); refine blk_far ?_ NB484_483.out _; (with_reducible repeat first|apply bk1_|apply bk2_|apply bk3_); refine blk_far ?_ NB484_483.out _; (with_reducible repeat first|apply bk1_|apply bk2_|apply bk3_); refine blk_far ?_ NB484_483.out _; (with_reducible repeat first|apply bk1_|apply bk2_|apply bk3_); refine blk_far ?_ NB484_483.out _; (with_reducible repeat first|apply bk1_|apply bk2_|apply bk3_); exact BK484.out) Tryd.underlying26 rfl (by kernel_rfl)) rfl ?_
                exact ⟨er_, h1_⟩
               ·replace c56 := Bool.eq_false_iff.mpr c56
                subst c56
                have H1 : (some (0, (⟨#[]⟩ : ByteArray), 0, 0, 0, 45, a1)) = some (r1, r2, r3, r4, r5, r6, r7) := by rw [if_neg (show ¬ (false = true) by decide)] at H; exact H
                clear H
                have H := H1
                clear H1
                simp only [Option.some.injEq, Prod.mk.injEq] at H
                obtain ⟨rfl, rfl, rfl, rfl, rfl, rfl, rfl⟩ := H
                go_wp2_with (first | (go_at_call 59; (with_reducible refine (hearsayref04_Number.calls kj34 (a0.extract (a1 : Int).toNat (t485 : Int).toNat) t493 false _ A55.out).mono ?_); rintro e w' ⟨rfl, ⟨nd, rfl⟩⟩; (try first | exact ⟨rfl, _, World.drewN_drewN _ _ _⟩ | exact ⟨rfl, _, Eq.trans (World.drewN_drewN _ _ _) (congrArg (World.drewN _) (Nat.add_assoc _ _ _))⟩); have hnb60 := NB483_484.out; have hnc60 := NB484_483.out; have hcz61_0 : wc.cell? ⟨gb483, 0, none⟩ = some (.int .i64 0) := (blk_cell BK483.out 0).trans rfl; have hcz61_1 : wc.cell? ⟨gb483, 1, none⟩ = some (.string (⟨#[]⟩ : ByteArray)) := (blk_cell BK483.out 1).trans rfl; have hcz61_2 : wc.cell? ⟨gb483, 2, none⟩ = some (.int .i64 0) := (blk_cell BK483.out 2).trans rfl; have hcz61_3 : wc.cell? ⟨gb483, 3, none⟩ = some (.int .i64 0) := (blk_cell BK483.out 3).trans rfl; have hcz61_4 : wc.cell? ⟨gb483, 4, none⟩ = some (.int .i64 0) := (blk_cell BK483.out 4).trans rfl; have hfz61_0 := blk_frozen BK483.out 0; have hfz61_1 := blk_frozen BK483.out 1; have hfz61_2 := blk_frozen BK483.out 2; have hfz61_3 := blk_frozen BK483.out 3; have hfz61_4 := blk_frozen BK483.out 4; have hcz62_0 : wc.cell? ⟨gb484, 0, none⟩ = some (.int .i64 0) := (blk_cell BK484.out 0).trans rfl; have hcz62_1 : wc.cell? ⟨gb484, 1, none⟩ = some (.int .i64 0) := (blk_cell BK484.out 1).trans rfl; have hfz62_0 := blk_frozen BK484.out 0; have hfz62_1 := blk_frozen BK484.out 1))
                repeat (go_quiet (first | (go_at_call 59; (with_reducible refine (hearsayref04_Number.calls kj34 (a0.extract (a1 : Int).toNat (t485 : Int).toNat) t493 false _ A55.out).mono ?_); rintro e w' ⟨rfl, ⟨nd, rfl⟩⟩; (try first | exact ⟨rfl, _, World.drewN_drewN _ _ _⟩ | exact ⟨rfl, _, Eq.trans (World.drewN_drewN _ _ _) (congrArg (World.drewN _) (Nat.add_assoc _ _ _))⟩); have hnb60 := NB483_484.out; have hnc60 := NB484_483.out; have hcz61_0 : wc.cell? ⟨gb483, 0, none⟩ = some (.int .i64 0) := (blk_cell BK483.out 0).trans rfl; have hcz61_1 : wc.cell? ⟨gb483, 1, none⟩ = some (.string (⟨#[]⟩ : ByteArray)) := (blk_cell BK483.out 1).trans rfl; have hcz61_2 : wc.cell? ⟨gb483, 2, none⟩ = some (.int .i64 0) := (blk_cell BK483.out 2).trans rfl; have hcz61_3 : wc.cell? ⟨gb483, 3, none⟩ = some (.int .i64 0) := (blk_cell BK483.out 3).trans rfl; have hcz61_4 : wc.cell? ⟨gb483, 4, none⟩ = some (.int .i64 0) := (blk_cell BK483.out 4).trans rfl; have hfz61_0 := blk_frozen BK483.out 0; have hfz61_1 := blk_frozen BK483.out 1; have hfz61_2 := blk_frozen BK483.out 2; have hfz61_3 := blk_frozen BK483.out 3; have hfz61_4 := blk_frozen BK483.out 4; have hcz62_0 : wc.cell? ⟨gb484, 0, none⟩ = some (.int .i64 0) := (blk_cell BK484.out 0).trans rfl; have hcz62_1 : wc.cell? ⟨gb484, 1, none⟩ = some (.int .i64 0) := (blk_cell BK484.out 1).trans rfl; have hfz62_0 := blk_frozen BK484.out 0; have hfz62_1 := blk_frozen BK484.out 1)); try go_wp2_with (first | (go_at_call 59; (with_reducible refine (hearsayref04_Number.calls kj34 (a0.extract (a1 : Int).toNat (t485 : Int).toNat) t493 false _ A55.out).mono ?_); rintro e w' ⟨rfl, ⟨nd, rfl⟩⟩; (try first | exact ⟨rfl, _, World.drewN_drewN _ _ _⟩ | exact ⟨rfl, _, Eq.trans (World.drewN_drewN _ _ _) (congrArg (World.drewN _) (Nat.add_assoc _ _ _))⟩); have hnb60 := NB483_484.out; have hnc60 := NB484_483.out; have hcz61_0 : wc.cell? ⟨gb483, 0, none⟩ = some (.int .i64 0) := (blk_cell BK483.out 0).trans rfl; have hcz61_1 : wc.cell? ⟨gb483, 1, none⟩ = some (.string (⟨#[]⟩ : ByteArray)) := (blk_cell BK483.out 1).trans rfl; have hcz61_2 : wc.cell? ⟨gb483, 2, none⟩ = some (.int .i64 0) := (blk_cell BK483.out 2).trans rfl; have hcz61_3 : wc.cell? ⟨gb483, 3, none⟩ = some (.int .i64 0) := (blk_cell BK483.out 3).trans rfl; have hcz61_4 : wc.cell? ⟨gb483, 4, none⟩ = some (.int .i64 0) := (blk_cell BK483.out 4).trans rfl; have hfz61_0 := blk_frozen BK483.out 0; have hfz61_1 := blk_frozen BK483.out 1; have hfz61_2 := blk_frozen BK483.out 2; have hfz61_3 := blk_frozen BK483.out 3; have hfz61_4 := blk_frozen BK483.out 4; have hcz62_0 : wc.cell? ⟨gb484, 0, none⟩ = some (.int .i64 0) := (blk_cell BK484.out 0).trans rfl; have hcz62_1 : wc.cell? ⟨gb484, 1, none⟩ = some (.int .i64 0) := (blk_cell BK484.out 1).trans rfl; have hfz62_0 := blk_frozen BK484.out 0; have hfz62_1 := blk_frozen BK484.out 1)))
                refine bodyPost_ret (results_cc rfl _ _ gb483 gb484 33 26 #[.int .i64 0, .string (⟨#[]⟩ : ByteArray), .int .i64 0, .int .i64 0, .int .i64 0] #[.int .i64 45, .int .i64 a1] (0, 0) (0, 0) _ _ rfl (by (with_reducible repeat first|apply bk1_|apply bk2_|apply bk3_); refine blk_far ?_ NB483_484.out _; (with_reducible repeat first|apply bk1_|apply bk2_|apply bk3_); refine blk_far ?_ NB483_484.out _; (with_reducible repeat first|apply bk1_|apply bk2_|apply bk3_); refine blk_put (cs := #[.int .i64 0, .string (⟨#[]⟩ : ByteArray), .int .i64 0, .int .i64 0, .int .i64 0]) ?_ 4 _ rfl; (with_reducible repeat first|apply bk1_|apply bk2_|apply bk3_); refine blk_put (cs := #[.int .i64 0, .string (⟨#[]⟩ : ByteArray), .int .i64 0, .int .i64 0, .int .i64 0]) ?_ 3 _ rfl; (with_reducible repeat first|apply bk1_|apply bk2_|apply bk3_); refine blk_put (cs := #[.int .i64 0, .string (⟨#[]⟩ : ByteArray), .int .i64 0, .int .i64 0, .int .i64 0]) ?_ 2 _ rfl; (with_reducible repeat first|apply bk1_|apply bk2_|apply bk3_); refine blk_put (cs := #[.int .i64 0, .string (⟨#[]⟩ : ByteArray), .int .i64 0, .int .i64 0, .int .i64 0]) ?_ 1 _ rfl; (with_reducible repeat first|apply bk1_|apply bk2_|apply bk3_); refine blk_put (cs := #[.int .i64 0, .string (⟨#[]⟩ : ByteArray), .int .i64 0, .int .i64 0, .int .i64 0]) ?_ 0 _ rfl; (with_reducible repeat first|apply bk1_|apply bk2_|apply bk3_); exact BK483.out) Tryd.underlying33 rfl (by kernel_rfl) rfl (by (with_reducible repeat first|apply bk1_|apply bk2_|apply bk3_); refine blk_put (cs := #[.int .i64 45, .int .i64 0]) ?_ 1 _ rfl; (with_reducible repeat first|apply bk1_|apply bk2_|apply bk3_); refine blk_put (cs := #[.int .i64 0, .int .i64 0]) ?_ 0 _ rfl; (with_reducible repeat first|apply bk1_|apply bk2_|apply bk3_); refine blk_far ?_ NB484_483.out _; (with_reducible repeat first|apply bk1_|apply bk2_|apply bk3_); refine blk_far ?_ NB484_483.out _; (with_reducible repeat first|apply bk1_|apply bk2_|apply bk3_); refine blk_far ?_ NB484_483.out _; (with_reducible repeat first|apply bk1_|apply bk2_|apply bk3_); refine blk_far ?_ NB484_483.out _; (with_reducible repeat first|apply bk1_|apply bk2_|apply bk3_); refine blk_far ?_ NB484_483.out _; (with_reducible repeat first|apply bk1_|apply bk2_|apply bk3_); exact BK484.out) Tryd.underlying26 rfl (by kernel_rfl)) rfl ?_
                exact ⟨er_, h1_⟩
              ·rw [if_neg c54] at H
               exact absurd H (by simp)
             ·rw [if_neg c53] at H
              exact absurd H (by simp)
            ·rw [if_neg c52] at H
             exact absurd H (by simp)
          ·replace c38 := Bool.eq_false_iff.mpr c38
           subst c38
           have H1 : (if (bt a0 a1) = 34 then ((hearsayref04_quoted.f kj34 a0 a1).bind fun bt495 => (some (bt495.1, bt495.2.1, bt495.2.2.1, bt495.2.2.2.1, bt495.2.2.2.2.1, bt495.2.2.2.2.2.1, bt495.2.2.2.2.2.2))) else (hearsayref04_one.l0 kj34 a0 a1 0)) = some (r1, r2, r3, r4, r5, r6, r7) := by rw [if_neg (show ¬ (false = true) by decide)] at H; exact H
           clear H
           have H := H1
           clear H1
           by_cases c63 : (bt a0 a1) = 34
           ·rw [if_pos c63] at H
            have c63b0 : ((bt a0 a1) == 34) = true := beq_iff_eq.mpr c63
            have c63b1 : ((bt a0 a1) != 34) = false := bne_eq_false_iff_eq.mpr c63
            clear c63
            replace H := Option.bind_eq_some_iff.mp H
            obtain ⟨⟨t495, t496, t497, t498, t499, t500, t501⟩, A640, H⟩ := H
            replace H : (some (t495, t496, t497, t498, t499, t500, t501)) = some (r1, r2, r3, r4, r5, r6, r7) := H
            have A64 := Aside0.mk A640
            clear A640
            simp only [Option.some.injEq, Prod.mk.injEq] at H
            obtain ⟨rfl, rfl, rfl, rfl, rfl, rfl, rfl⟩ := H
            go_wp2_with (first | (go_at_call 60; (with_reducible refine (hearsayref04_quoted.calls kj34 a0 a1 t495 t496 t497 t498 t499 t500 t501 _ A64.out).mono ?_); rintro e w65 ⟨rfl, hb⟩; have n0_ := Aside0.mk (blk_below (g := gb483) (o := .cells #[.int .i64 0, .string (⟨#[]⟩ : ByteArray), .int .i64 0, .int .i64 0, .int .i64 0] 33 (0, 0)) (bk_ BK483) hb); have n1_ := Aside0.mk (blk_below (g := gb484) (o := .cells #[.int .i64 0, .int .i64 0] 26 (0, 0)) (bk_ BK484) hb); have n2_ := Aside0.mk (below_step h1_ hb); clear BK483; clear BK484; clear HB; have BK483 := n0_; have BK484 := n1_; have HB := n2_; clear n0_ n1_ n2_; (try clear hb); (try clear hb2); (try clear hk); (try clear hi); have hnb66 := NB483_484.out; have hnc66 := NB484_483.out; have hcz67_0 : w65.cell? ⟨gb483, 0, none⟩ = some (.int .i64 0) := (blk_cell BK483.out 0).trans rfl; have hcz67_1 : w65.cell? ⟨gb483, 1, none⟩ = some (.string (⟨#[]⟩ : ByteArray)) := (blk_cell BK483.out 1).trans rfl; have hcz67_2 : w65.cell? ⟨gb483, 2, none⟩ = some (.int .i64 0) := (blk_cell BK483.out 2).trans rfl; have hcz67_3 : w65.cell? ⟨gb483, 3, none⟩ = some (.int .i64 0) := (blk_cell BK483.out 3).trans rfl; have hcz67_4 : w65.cell? ⟨gb483, 4, none⟩ = some (.int .i64 0) := (blk_cell BK483.out 4).trans rfl; have hfz67_0 := blk_frozen BK483.out 0; have hfz67_1 := blk_frozen BK483.out 1; have hfz67_2 := blk_frozen BK483.out 2; have hfz67_3 := blk_frozen BK483.out 3; have hfz67_4 := blk_frozen BK483.out 4; have hcz68_0 : w65.cell? ⟨gb484, 0, none⟩ = some (.int .i64 0) := (blk_cell BK484.out 0).trans rfl; have hcz68_1 : w65.cell? ⟨gb484, 1, none⟩ = some (.int .i64 0) := (blk_cell BK484.out 1).trans rfl; have hfz68_0 := blk_frozen BK484.out 0; have hfz68_1 := blk_frozen BK484.out 1))
            repeat (go_quiet (first | (go_at_call 60; (with_reducible refine (hearsayref04_quoted.calls kj34 a0 a1 t495 t496 t497 t498 t499 t500 t501 _ A64.out).mono ?_); rintro e w65 ⟨rfl, hb⟩; have n0_ := Aside0.mk (blk_below (g := gb483) (o := .cells #[.int .i64 0, .string (⟨#[]⟩ : ByteArray), .int .i64 0, .int .i64 0, .int .i64 0] 33 (0, 0)) (bk_ BK483) hb); have n1_ := Aside0.mk (blk_below (g := gb484) (o := .cells #[.int .i64 0, .int .i64 0] 26 (0, 0)) (bk_ BK484) hb); have n2_ := Aside0.mk (below_step h1_ hb); clear BK483; clear BK484; clear HB; have BK483 := n0_; have BK484 := n1_; have HB := n2_; clear n0_ n1_ n2_; (try clear hb); (try clear hb2); (try clear hk); (try clear hi); have hnb66 := NB483_484.out; have hnc66 := NB484_483.out; have hcz67_0 : w65.cell? ⟨gb483, 0, none⟩ = some (.int .i64 0) := (blk_cell BK483.out 0).trans rfl; have hcz67_1 : w65.cell? ⟨gb483, 1, none⟩ = some (.string (⟨#[]⟩ : ByteArray)) := (blk_cell BK483.out 1).trans rfl; have hcz67_2 : w65.cell? ⟨gb483, 2, none⟩ = some (.int .i64 0) := (blk_cell BK483.out 2).trans rfl; have hcz67_3 : w65.cell? ⟨gb483, 3, none⟩ = some (.int .i64 0) := (blk_cell BK483.out 3).trans rfl; have hcz67_4 : w65.cell? ⟨gb483, 4, none⟩ = some (.int .i64 0) := (blk_cell BK483.out 4).trans rfl; have hfz67_0 := blk_frozen BK483.out 0; have hfz67_1 := blk_frozen BK483.out 1; have hfz67_2 := blk_frozen BK483.out 2; have hfz67_3 := blk_frozen BK483.out 3; have hfz67_4 := blk_frozen BK483.out 4; have hcz68_0 : w65.cell? ⟨gb484, 0, none⟩ = some (.int .i64 0) := (blk_cell BK484.out 0).trans rfl; have hcz68_1 : w65.cell? ⟨gb484, 1, none⟩ = some (.int .i64 0) := (blk_cell BK484.out 1).trans rfl; have hfz68_0 := blk_frozen BK484.out 0; have hfz68_1 := blk_frozen BK484.out 1)); try go_wp2_with (first | (go_at_call 60; (with_reducible refine (hearsayref04_quoted.calls kj34 a0 a1 t495 t496 t497 t498 t499 t500 t501 _ A64.out).mono ?_); rintro e w65 ⟨rfl, hb⟩; have n0_ := Aside0.mk (blk_below (g := gb483) (o := .cells #[.int .i64 0, .string (⟨#[]⟩ : ByteArray), .int .i64 0, .int .i64 0, .int .i64 0] 33 (0, 0)) (bk_ BK483) hb); have n1_ := Aside0.mk (blk_below (g := gb484) (o := .cells #[.int .i64 0, .int .i64 0] 26 (0, 0)) (bk_ BK484) hb); have n2_ := Aside0.mk (below_step h1_ hb); clear BK483; clear BK484; clear HB; have BK483 := n0_; have BK484 := n1_; have HB := n2_; clear n0_ n1_ n2_; (try clear hb); (try clear hb2); (try clear hk); (try clear hi); have hnb66 := NB483_484.out; have hnc66 := NB484_483.out; have hcz67_0 : w65.cell? ⟨gb483, 0, none⟩ = some (.int .i64 0) := (blk_cell BK483.out 0).trans rfl; have hcz67_1 : w65.cell? ⟨gb483, 1, none⟩ = some (.string (⟨#[]⟩ : ByteArray)) := (blk_cell BK483.out 1).trans rfl; have hcz67_2 : w65.cell? ⟨gb483, 2, none⟩ = some (.int .i64 0) := (blk_cell BK483.out 2).trans rfl; have hcz67_3 : w65.cell? ⟨gb483, 3, none⟩ = some (.int .i64 0) := (blk_cell BK483.out 3).trans rfl; have hcz67_4 : w65.cell? ⟨gb483, 4, none⟩ = some (.int .i64 0) := (blk_cell BK483.out 4).trans rfl; have hfz67_0 := blk_frozen BK483.out 0; have hfz67_1 := blk_frozen BK483.out 1; have hfz67_2 := blk_frozen BK483.out 2; have hfz67_3 := blk_frozen BK483.out 3; have hfz67_4 := blk_frozen BK483.out 4; have hcz68_0 : w65.cell? ⟨gb484, 0, none⟩ = some (.int .i64 0) := (blk_cell BK484.out 0).trans rfl; have hcz68_1 : w65.cell? ⟨gb484, 1, none⟩ = some (.int .i64 0) := (blk_cell BK484.out 1).trans rfl; have hfz68_0 := blk_frozen BK484.out 0; have hfz68_1 := blk_frozen BK484.out 1)))
            refine bodyPost_ret (results_cc rfl _ _ gb483 gb484 33 26 #[.int .i64 t495, .string t496, .int .i64 t497, .int .i64 t498, .int .i64 t499] #[.int .i64 t500, .int .i64 t501] (0, 0) (0, 0) _ _ rfl (by (with_reducible repeat first|apply bk1_|apply bk2_|apply bk3_); refine blk_far ?_ NB483_484.out _; (with_reducible repeat first|apply bk1_|apply bk2_|apply bk3_); refine blk_far ?_ NB483_484.out _; (with_reducible repeat first|apply bk1_|apply bk2_|apply bk3_); refine blk_put (cs := #[.int .i64 t495, .string t496, .int .i64 t497, .int .i64 t498, .int .i64 0]) ?_ 4 _ rfl; (with_reducible repeat first|apply bk1_|apply bk2_|apply bk3_); refine blk_put (cs := #[.int .i64 t495, .string t496, .int .i64 t497, .int .i64 0, .int .i64 0]) ?_ 3 _ rfl; (with_reducible repeat first|apply bk1_|apply bk2_|apply bk3_); refine blk_put (cs := #[.int .i64 t495, .string t496, .int .i64 0, .int .i64 0, .int .i64 0]) ?_ 2 _ rfl; (with_reducible repeat first|apply bk1_|apply bk2_|apply bk3_); refine blk_put (cs := #[.int .i64 t495, .string (⟨#[]⟩ : ByteArray), .int .i64 0, .int .i64 0, .int .i64 0]) ?_ 1 _ rfl; (with_reducible repeat first|apply bk1_|apply bk2_|apply bk3_); refine blk_put (cs := #[.int .i64 0, .string (⟨#[]⟩ : ByteArray), .int .i64 0, .int .i64 0, .int .i64 0]) ?_ 0 _ rfl; (with_reducible repeat first|apply bk1_|apply bk2_|apply bk3_); exact BK483.out) Tryd.underlying33 rfl (by kernel_rfl) rfl (by (with_reducible repeat first|apply bk1_|apply bk2_|apply bk3_); refine blk_put (cs := #[.int .i64 t500, .int .i64 0]) ?_ 1 _ rfl; (with_reducible repeat first|apply bk1_|apply bk2_|apply bk3_); refine blk_put (cs := #[.int .i64 0, .int .i64 0]) ?_ 0 _ rfl; (with_reducible repeat first|apply bk1_|apply bk2_|apply bk3_); refine blk_far ?_ NB484_483.out _; (with_reducible repeat first|apply bk1_|apply bk2_|apply bk3_); refine blk_far ?_ NB484_483.out _; (with_reducible repeat first|apply bk1_|apply bk2_|apply bk3_); refine blk_far ?_ NB484_483.out _; (with_reducible repeat first|apply bk1_|apply bk2_|apply bk3_); refine blk_far ?_ NB484_483.out _; (with_reducible repeat first|apply bk1_|apply bk2_|apply bk3_); refine blk_far ?_ NB484_483.out _; (with_reducible repeat first|apply bk1_|apply bk2_|apply bk3_); exact BK484.out) Tryd.underlying26 rfl (by kernel_rfl)) rfl ?_
            exact ⟨er_, h1_⟩
           ·rw [if_neg c63] at H
            have c63b0 : ((bt a0 a1) == 34) = false := beq_eq_false_iff_ne.mpr c63
            have c63b1 : ((bt a0 a1) != 34) = true := bne_iff_ne.mpr c63
            have H' := Aside0.mk H
            clear H
            go_wp2
            repeat (go_quiet (fail); try go_wp2)
            go_loopg [10] kj34 (fun kq v10 w' => ∃ (x10_3 : Int) (x484000_3 : Int) (x484001_3 : ByteArray) (x484002_3 : Int) (x484003_3 : Int) (x484004_3 : Int) (x485000_3 : Int) (x485001_3 : Int), v10 = .int .i64 x10_3 ∧ Aside0 (hearsayref04_one.l0 kq a0 a1 x10_3 = some (r1, r2, r3, r4, r5, r6, r7)) ∧ Aside0 (kq ≤ kj34) ∧ Aside0 (w'.heap[gb483]? = some (.cells #[.int .i64 x484000_3, .string x484001_3, .int .i64 x484002_3, .int .i64 x484003_3, .int .i64 x484004_3] 33 (0, 0))) ∧ Aside0 (w'.heap[gb484]? = some (.cells #[.int .i64 x485000_3, .int .i64 x485001_3] 26 (0, 0))) ∧ Aside0 (Below w.heap.size w w'))
            case atStart => exact ⟨(0), (0), ((⟨#[]⟩ : ByteArray)), (0), (0), (0), (0), (0), eq_, H', ⟨Nat.le_refl _⟩, ⟨by (with_reducible repeat first|apply bk1_|apply bk2_|apply bk3_); exact BK483.out⟩, ⟨by (with_reducible repeat first|apply bk1_|apply bk2_|apply bk3_); exact BK484.out⟩, ⟨h1_⟩⟩
            case round =>
             clear H'
             try clear c1
             try clear c2
             try clear p2
             try clear c3
             try clear c3b0
             try clear c4
             try clear c4b0
             try clear c5
             try clear p5
             try clear q5
             try clear hx5
             try clear c6
             try clear p6
             try clear c11
             try clear c12
             try clear c12b0
             try clear c13
             try clear c13b0
             try clear c13b1
             try clear c14
             try clear c14b0
             try clear c14b1
             try clear c15
             try clear c16
             try clear c20
             try clear c21
             try clear c21b0
             try clear c21b1
             try clear c22
             try clear c22b0
             try clear c22b1
             try clear c23
             try clear c23b0
             try clear c23b1
             try clear c24
             try clear c28
             try clear c29
             try clear c29b0
             try clear c29b1
             try clear c30
             try clear c30b0
             try clear c30b1
             try clear c31
             try clear c31b0
             try clear c31b1
             try clear c32
             try clear c35
             try clear c37
             try clear c38
             try clear c39
             try clear c39b0
             try clear c39b1
             try clear c41
             try clear c41b0
             try clear c41b1
             try clear c42
             try clear c42b0
             try clear c42b1
             try clear c43
             try clear c43b0
             try clear c43b1
             try clear c45
             try clear c46
             try clear c49
             try clear c52
             try clear c52b0
             try clear c52b1
             try clear c53
             try clear c53b0
             try clear c53b1
             try clear c54
             try clear c54b0
             try clear c54b1
             try clear c56
             try clear c57
             try clear c60
             try clear c63
             try clear c63b0
             try clear c63b1
             try clear p64
             try clear c66
             try clear hcz17_0
             try clear hcz17_1
             try clear hcz17_2
             try clear hcz17_3
             try clear hcz17_4
             try clear hcz18_0
             try clear hcz18_1
             try clear hcz25_0
             try clear hcz25_1
             try clear hcz25_2
             try clear hcz25_3
             try clear hcz25_4
             try clear hcz26_0
             try clear hcz26_1
             try clear hcz33_0
             try clear hcz33_1
             try clear hcz33_2
             try clear hcz33_3
             try clear hcz33_4
             try clear hcz34_0
             try clear hcz34_1
             try clear hcz47_0
             try clear hcz47_1
             try clear hcz47_2
             try clear hcz47_3
             try clear hcz47_4
             try clear hcz48_0
             try clear hcz48_1
             try clear hcz50_0
             try clear hcz50_1
             try clear hcz50_2
             try clear hcz50_3
             try clear hcz50_4
             try clear hcz51_0
             try clear hcz51_1
             try clear hcz58_0
             try clear hcz58_1
             try clear hcz58_2
             try clear hcz58_3
             try clear hcz58_4
             try clear hcz59_0
             try clear hcz59_1
             try clear hcz61_0
             try clear hcz61_1
             try clear hcz61_2
             try clear hcz61_3
             try clear hcz61_4
             try clear hcz62_0
             try clear hcz62_1
             try clear hcz67_0
             try clear hcz67_1
             try clear hcz67_2
             try clear hcz67_3
             try clear hcz67_4
             try clear hcz68_0
             try clear hcz68_1
             try clear hfz17_0
             try clear hfz17_1
             try clear hfz17_2
             try clear hfz17_3
             try clear hfz17_4
             try clear hfz18_0
             try clear hfz18_1
             try clear hfz25_0
             try clear hfz25_1
             try clear hfz25_2
             try clear hfz25_3
             try clear hfz25_4
             try clear hfz26_0
             try clear hfz26_1
             try clear hfz33_0
             try clear hfz33_1
             try clear hfz33_2
             try clear hfz33_3
             try clear hfz33_4
             try clear hfz34_0
             try clear hfz34_1
             try clear hfz47_0
             try clear hfz47_1
             try clear hfz47_2
             try clear hfz47_3
             try clear hfz47_4
             try clear hfz48_0
             try clear hfz48_1
             try clear hfz50_0
             try clear hfz50_1
             try clear hfz50_2
             try clear hfz50_3
             try clear hfz50_4
             try clear hfz51_0
             try clear hfz51_1
             try clear hfz58_0
             try clear hfz58_1
             try clear hfz58_2
             try clear hfz58_3
             try clear hfz58_4
             try clear hfz59_0
             try clear hfz59_1
             try clear hfz61_0
             try clear hfz61_1
             try clear hfz61_2
             try clear hfz61_3
             try clear hfz61_4
             try clear hfz62_0
             try clear hfz62_1
             try clear hfz67_0
             try clear hfz67_1
             try clear hfz67_2
             try clear hfz67_3
             try clear hfz67_4
             try clear hfz68_0
             try clear hfz68_1
             try clear p2
             try clear p5
             try clear q5
             obtain ⟨x10_3, x484000_3, x484001_3, x484002_3, x484003_3, x484004_3, x485000_3, x485001_3, rfl, HA, HK3, BK483, BK484, HB⟩ := hrel
             cases gk with
             | zero => exact absurd HA.out (by simp [hearsayref04_one.l0])
             | succ k3 =>
              have H := HA.out
              clear HA
              simp only [hearsayref04_one.l0] at H
              by_cases c69 : x10_3 < 11
              ·rw [if_pos c69] at H
               have c69b0 : decide (x10_3 < 11) = true := decide_eq_true c69
               clear c69
               by_cases c70 : 0 ≤ x10_3
               ·rw [if_pos c70] at H
                have c70b0 : decide (0 ≤ x10_3) = true := decide_eq_true c70
                clear c70
                by_cases c71 : x10_3 < (lg0.length : Int)
                ·rw [if_pos c71] at H
                 have c71b0 : decide (x10_3 < (lg0.length : Int)) = true := decide_eq_true c71
                 clear c71
                 by_cases c72 : (wrap64 (a1 + ((rdOf ByteArray.empty lg0 x10_3).size : Int))) ≤ (a0.size : Int)
                 ·rw [if_pos c72] at H
                  have c72b0 : decide ((wrap64 (a1 + ((rdOf ByteArray.empty lg0 x10_3).size : Int))) ≤ (a0.size : Int)) = true := decide_eq_true c72
                  clear c72
                  by_cases c73 : 0 ≤ a1
                  ·rw [if_pos c73] at H
                   have c73b0 := eq_true c73
                   have c73b1 : decide (0 ≤ a1) = true := decide_eq_true c73
                   clear c73
                   obtain ⟨ji74, hji74⟩ : ∃ j_ : Int, (wrap64 (a1 + ((rdOf ByteArray.empty lg0 x10_3).size : Int))) = j_ := ⟨_, rfl⟩
                   replace H : (if a1 ≤ (ji74) then (if (a0.extract (a1 : Int).toNat ((ji74) : Int).toNat).toList = (rdOf ByteArray.empty lg0 x10_3).toList then (if x10_3 < (lg1.length : Int) then (some (rd lg1 x10_3, (⟨#[]⟩ : ByteArray), 0, a1, ji74, 0, 0)) else (none)) else (hearsayref04_one.l0 k3 a0 a1 (wrap64 (x10_3 + 1)))) else (none)) = some (r1, r2, r3, r4, r5, r6, r7) := by first | (rw [hji74] at H; exact H) | (simp only [hji74] at H ⊢; exact H)
                   (try rw [hji74] at c72b0)
                   have hji74w : (IntKind.i64.wrap (a1 + ((rdOf ByteArray.empty lg0 x10_3).size : Int))) = ji74 := (i64_w _).trans hji74
                   by_cases c75 : a1 ≤ (ji74)
                   ·rw [if_pos c75] at H
                    have c75b0 := eq_true c75
                    have c75b1 : decide (a1 ≤ (ji74)) = true := decide_eq_true c75
                    clear c75
                    have c76b0 := eq_true (of_decide_eq_true (by first | (with_reducible assumption) | assumption) : (ji74) ≤ (a0.size : Int))
                    by_cases c77 : (a0.extract (a1 : Int).toNat ((ji74) : Int).toNat).toList = (rdOf ByteArray.empty lg0 x10_3).toList
                    ·rw [if_pos c77] at H
                     have c77b0 : ((a0.extract (a1 : Int).toNat ((ji74) : Int).toNat).toList == (rdOf ByteArray.empty lg0 x10_3).toList) = true := beq_iff_eq.mpr c77
                     have c77b1 : ((a0.extract (a1 : Int).toNat ((ji74) : Int).toNat).toList != (rdOf ByteArray.empty lg0 x10_3).toList) = false := bne_eq_false_iff_eq.mpr c77
                     clear c77
                     by_cases c78 : x10_3 < (lg1.length : Int)
                     ·rw [if_pos c78] at H
                      have c78b0 : decide (x10_3 < (lg1.length : Int)) = true := decide_eq_true c78
                      clear c78
                      simp only [Option.some.injEq, Prod.mk.injEq] at H
                      obtain ⟨rfl, rfl, rfl, rfl, rfl, rfl, rfl⟩ := H
                      have p502 : 0 ≤ (x10_3 : Int) := of_decide_eq_true (by first | (with_reducible assumption) | assumption)
                      have q502 : x10_3 < (lg0.length : Int) := of_decide_eq_true (by first | (with_reducible assumption) | assumption)
                      obtain ⟨ad502, e502, hx502_0⟩ := at_gl HRg0.out x10_3 p502 q502
                      cases e502
                      rw [add_gl] at hx502_0
                      have qz502 : (x10_3 < (11 : Int)) = True := eq_true q502
                      replace hx502_0 := (HB.out.cell (World.block_lt_of_cell? w _ hx502_0)).trans hx502_0
                      replace p502 := eq_true p502
                      replace q502 := eq_true q502
                      have p503 : 0 ≤ (x10_3 : Int) := of_decide_eq_true (by first | (with_reducible assumption) | assumption)
                      have q503 : x10_3 < (lg0.length : Int) := of_decide_eq_true (by first | (with_reducible assumption) | assumption)
                      obtain ⟨ad503, e503, hx503_0⟩ := at_gl HRg0.out x10_3 p503 q503
                      cases e503
                      rw [add_gl] at hx503_0
                      have qz503 : (x10_3 < (11 : Int)) = True := eq_true q503
                      replace hx503_0 := (HB.out.cell (World.block_lt_of_cell? w _ hx503_0)).trans hx503_0
                      replace p503 := eq_true p503
                      replace q503 := eq_true q503
                      have p504 : 0 ≤ (x10_3 : Int) := of_decide_eq_true (by first | (with_reducible assumption) | assumption)
                      have q504 : x10_3 < (lg1.length : Int) := of_decide_eq_true (by first | (with_reducible assumption) | assumption)
                      obtain ⟨ad504, e504, hx504_0⟩ := Kd.at_int HRg1.out x10_3 p504 q504
                      cases e504
                      rw [add_gl] at hx504_0
                      have qz504 : (x10_3 < (11 : Int)) = True := eq_true q504
                      replace hx504_0 := (HB.out.cell (World.block_lt_of_cell? w _ hx504_0)).trans hx504_0
                      replace p504 := eq_true p504
                      replace q504 := eq_true q504
                      have hnb79 := NB483_484.out
                      have hnc79 := NB484_483.out
                      have hcz80_0 : wr.cell? ⟨gb483, 0, none⟩ = some (.int .i64 x484000_3) := (blk_cell BK483.out 0).trans rfl
                      have hcz80_1 : wr.cell? ⟨gb483, 1, none⟩ = some (.string x484001_3) := (blk_cell BK483.out 1).trans rfl
                      have hcz80_2 : wr.cell? ⟨gb483, 2, none⟩ = some (.int .i64 x484002_3) := (blk_cell BK483.out 2).trans rfl
                      have hcz80_3 : wr.cell? ⟨gb483, 3, none⟩ = some (.int .i64 x484003_3) := (blk_cell BK483.out 3).trans rfl
                      have hcz80_4 : wr.cell? ⟨gb483, 4, none⟩ = some (.int .i64 x484004_3) := (blk_cell BK483.out 4).trans rfl
                      have hfz80_0 := blk_frozen BK483.out 0
                      have hfz80_1 := blk_frozen BK483.out 1
                      have hfz80_2 := blk_frozen BK483.out 2
                      have hfz80_3 := blk_frozen BK483.out 3
                      have hfz80_4 := blk_frozen BK483.out 4
                      have hcz81_0 : wr.cell? ⟨gb484, 0, none⟩ = some (.int .i64 x485000_3) := (blk_cell BK484.out 0).trans rfl
                      have hcz81_1 : wr.cell? ⟨gb484, 1, none⟩ = some (.int .i64 x485001_3) := (blk_cell BK484.out 1).trans rfl
                      have hfz81_0 := blk_frozen BK484.out 0
                      have hfz81_1 := blk_frozen BK484.out 1
                      go_wp2
                      repeat (go_quiet (fail); try go_wp2)
                      refine bodyPost_ret (results_cc rfl _ _ gb483 gb484 33 26 #[.int .i64 (rd lg1 x10_3), .string (⟨#[]⟩ : ByteArray), .int .i64 0, .int .i64 a1, .int .i64 ji74] #[.int .i64 0, .int .i64 0] (0, 0) (0, 0) _ _ rfl (by (with_reducible repeat first|apply bk1_|apply bk2_|apply bk3_); refine blk_far ?_ NB483_484.out _; (with_reducible repeat first|apply bk1_|apply bk2_|apply bk3_); refine blk_far ?_ NB483_484.out _; (with_reducible repeat first|apply bk1_|apply bk2_|apply bk3_); refine blk_put (cs := #[.int .i64 (rd lg1 x10_3), .string (⟨#[]⟩ : ByteArray), .int .i64 0, .int .i64 a1, .int .i64 x484004_3]) ?_ 4 _ rfl; (with_reducible repeat first|apply bk1_|apply bk2_|apply bk3_); refine blk_put (cs := #[.int .i64 (rd lg1 x10_3), .string (⟨#[]⟩ : ByteArray), .int .i64 0, .int .i64 x484003_3, .int .i64 x484004_3]) ?_ 3 _ rfl; (with_reducible repeat first|apply bk1_|apply bk2_|apply bk3_); refine blk_put (cs := #[.int .i64 (rd lg1 x10_3), .string (⟨#[]⟩ : ByteArray), .int .i64 x484002_3, .int .i64 x484003_3, .int .i64 x484004_3]) ?_ 2 _ rfl; (with_reducible repeat first|apply bk1_|apply bk2_|apply bk3_); refine blk_put (cs := #[.int .i64 (rd lg1 x10_3), .string x484001_3, .int .i64 x484002_3, .int .i64 x484003_3, .int .i64 x484004_3]) ?_ 1 _ rfl; (with_reducible repeat first|apply bk1_|apply bk2_|apply bk3_); refine blk_put (cs := #[.int .i64 x484000_3, .string x484001_3, .int .i64 x484002_3, .int .i64 x484003_3, .int .i64 x484004_3]) ?_ 0 _ rfl; (with_reducible repeat first|apply bk1_|apply bk2_|apply bk3_); exact BK483.out) Tryd.underlying33 rfl (by kernel_rfl) rfl (by (with_reducible repeat first|apply bk1_|apply bk2_|apply bk3_); refine blk_put (cs := #[.int .i64 0, .int .i64 x485001_3]) ?_ 1 _ rfl; (with_reducible repeat first|apply bk1_|apply bk2_|apply bk3_); refine blk_put (cs := #[.int .i64 x485000_3, .int .i64 x485001_3]) ?_ 0 _ rfl; (with_reducible repeat first|apply bk1_|apply bk2_|apply bk3_); refine blk_far ?_ NB484_483.out _; (with_reducible repeat first|apply bk1_|apply bk2_|apply bk3_); refine blk_far ?_ NB484_483.out _; (with_reducible repeat first|apply bk1_|apply bk2_|apply bk3_); refine blk_far ?_ NB484_483.out _; (with_reducible repeat first|apply bk1_|apply bk2_|apply bk3_); refine blk_far ?_ NB484_483.out _; (with_reducible repeat first|apply bk1_|apply bk2_|apply bk3_); refine blk_far ?_ NB484_483.out _; (with_reducible repeat first|apply bk1_|apply bk2_|apply bk3_); exact BK484.out) Tryd.underlying26 rfl (by kernel_rfl)) rfl ?_
                      exact ⟨by first | rfl | (simp [errW_none, errW_some] <;> rfl) | (simp only [← hji74]; first | rfl | (simp [errW_none, errW_some] <;> rfl)) | (simp [*, errW_none, errW_some] <;> rfl), h1_⟩
                     ·rw [if_neg c78] at H
                      exact absurd H (by simp)
                    ·rw [if_neg c77] at H
                     have c77b0 : ((a0.extract (a1 : Int).toNat ((ji74) : Int).toNat).toList == (rdOf ByteArray.empty lg0 x10_3).toList) = false := beq_eq_false_iff_ne.mpr c77
                     have c77b1 : ((a0.extract (a1 : Int).toNat ((ji74) : Int).toNat).toList != (rdOf ByteArray.empty lg0 x10_3).toList) = true := bne_iff_ne.mpr c77
                     have H' := Aside0.mk H
                     clear H
                     have p502 : 0 ≤ (x10_3 : Int) := of_decide_eq_true (by first | (with_reducible assumption) | assumption)
                     have q502 : x10_3 < (lg0.length : Int) := of_decide_eq_true (by first | (with_reducible assumption) | assumption)
                     obtain ⟨ad502, e502, hx502_0⟩ := at_gl HRg0.out x10_3 p502 q502
                     cases e502
                     rw [add_gl] at hx502_0
                     have qz502 : (x10_3 < (11 : Int)) = True := eq_true q502
                     replace hx502_0 := (HB.out.cell (World.block_lt_of_cell? w _ hx502_0)).trans hx502_0
                     replace p502 := eq_true p502
                     replace q502 := eq_true q502
                     have p503 : 0 ≤ (x10_3 : Int) := of_decide_eq_true (by first | (with_reducible assumption) | assumption)
                     have q503 : x10_3 < (lg0.length : Int) := of_decide_eq_true (by first | (with_reducible assumption) | assumption)
                     obtain ⟨ad503, e503, hx503_0⟩ := at_gl HRg0.out x10_3 p503 q503
                     cases e503
                     rw [add_gl] at hx503_0
                     have qz503 : (x10_3 < (11 : Int)) = True := eq_true q503
                     replace hx503_0 := (HB.out.cell (World.block_lt_of_cell? w _ hx503_0)).trans hx503_0
                     replace p503 := eq_true p503
                     replace q503 := eq_true q503
                     go_wp2
                     repeat (go_quiet (fail); try go_wp2)
                     go_roundg k3
                     case measure => have := HJ6.out; have := HJ34.out; have := HK3.out; omega
                     case rel => exact ⟨(wrap64 (x10_3 + 1)), (x484000_3), (x484001_3), (x484002_3), (x484003_3), (x484004_3), (x485000_3), (x485001_3), eq_, H', ⟨by have := HJ6.out; have := HJ34.out; have := HK3.out; omega⟩, ⟨by (with_reducible repeat first|apply bk1_|apply bk2_|apply bk3_); exact BK483.out⟩, ⟨by (with_reducible repeat first|apply bk1_|apply bk2_|apply bk3_); exact BK484.out⟩, ⟨h1_⟩⟩
                   ·rw [if_neg c75] at H
                    exact absurd H (by simp)
                  ·rw [if_neg c73] at H
                   exact absurd H (by simp)
                 ·rw [if_neg c72] at H
                  have c72b0 : decide ((wrap64 (a1 + ((rdOf ByteArray.empty lg0 x10_3).size : Int))) ≤ (a0.size : Int)) = false := decide_eq_false c72
                  clear c72
                  have H' := Aside0.mk H
                  clear H
                  have p502 : 0 ≤ (x10_3 : Int) := of_decide_eq_true (by first | (with_reducible assumption) | assumption)
                  have q502 : x10_3 < (lg0.length : Int) := of_decide_eq_true (by first | (with_reducible assumption) | assumption)
                  obtain ⟨ad502, e502, hx502_0⟩ := at_gl HRg0.out x10_3 p502 q502
                  cases e502
                  rw [add_gl] at hx502_0
                  have qz502 : (x10_3 < (11 : Int)) = True := eq_true q502
                  replace hx502_0 := (HB.out.cell (World.block_lt_of_cell? w _ hx502_0)).trans hx502_0
                  replace p502 := eq_true p502
                  replace q502 := eq_true q502
                  go_wp2
                  repeat (go_quiet (fail); try go_wp2)
                  go_roundg k3
                  case measure => have := HJ6.out; have := HJ34.out; have := HK3.out; omega
                  case rel => exact ⟨(wrap64 (x10_3 + 1)), (x484000_3), (x484001_3), (x484002_3), (x484003_3), (x484004_3), (x485000_3), (x485001_3), eq_, H', ⟨by have := HJ6.out; have := HJ34.out; have := HK3.out; omega⟩, ⟨by (with_reducible repeat first|apply bk1_|apply bk2_|apply bk3_); exact BK483.out⟩, ⟨by (with_reducible repeat first|apply bk1_|apply bk2_|apply bk3_); exact BK484.out⟩, ⟨h1_⟩⟩
                ·rw [if_neg c71] at H
                 exact absurd H (by simp)
               ·rw [if_neg c70] at H
                exact absurd H (by simp)
              ·rw [if_neg c69] at H
               have c69b0 : decide (x10_3 < 11) = false := decide_eq_false c69
               clear c69
               simp only [Option.some.injEq, Prod.mk.injEq] at H
               obtain ⟨rfl, rfl, rfl, rfl, rfl, rfl, rfl⟩ := H
               have hnb82 := NB483_484.out
               have hnc82 := NB484_483.out
               have hcz83_0 : wr.cell? ⟨gb483, 0, none⟩ = some (.int .i64 x484000_3) := (blk_cell BK483.out 0).trans rfl
               have hcz83_1 : wr.cell? ⟨gb483, 1, none⟩ = some (.string x484001_3) := (blk_cell BK483.out 1).trans rfl
               have hcz83_2 : wr.cell? ⟨gb483, 2, none⟩ = some (.int .i64 x484002_3) := (blk_cell BK483.out 2).trans rfl
               have hcz83_3 : wr.cell? ⟨gb483, 3, none⟩ = some (.int .i64 x484003_3) := (blk_cell BK483.out 3).trans rfl
               have hcz83_4 : wr.cell? ⟨gb483, 4, none⟩ = some (.int .i64 x484004_3) := (blk_cell BK483.out 4).trans rfl
               have hfz83_0 := blk_frozen BK483.out 0
               have hfz83_1 := blk_frozen BK483.out 1
               have hfz83_2 := blk_frozen BK483.out 2
               have hfz83_3 := blk_frozen BK483.out 3
               have hfz83_4 := blk_frozen BK483.out 4
               have hcz84_0 : wr.cell? ⟨gb484, 0, none⟩ = some (.int .i64 x485000_3) := (blk_cell BK484.out 0).trans rfl
               have hcz84_1 : wr.cell? ⟨gb484, 1, none⟩ = some (.int .i64 x485001_3) := (blk_cell BK484.out 1).trans rfl
               have hfz84_0 := blk_frozen BK484.out 0
               have hfz84_1 := blk_frozen BK484.out 1
               go_wp2
               repeat (go_quiet (fail); try go_wp2)
               refine bodyPost_ret (results_cc rfl _ _ gb483 gb484 33 26 #[.int .i64 0, .string (⟨#[]⟩ : ByteArray), .int .i64 0, .int .i64 0, .int .i64 0] #[.int .i64 42, .int .i64 a1] (0, 0) (0, 0) _ _ rfl (by (with_reducible repeat first|apply bk1_|apply bk2_|apply bk3_); refine blk_far ?_ NB483_484.out _; (with_reducible repeat first|apply bk1_|apply bk2_|apply bk3_); refine blk_far ?_ NB483_484.out _; (with_reducible repeat first|apply bk1_|apply bk2_|apply bk3_); refine blk_put (cs := #[.int .i64 0, .string (⟨#[]⟩ : ByteArray), .int .i64 0, .int .i64 0, .int .i64 x484004_3]) ?_ 4 _ rfl; (with_reducible repeat first|apply bk1_|apply bk2_|apply bk3_); refine blk_put (cs := #[.int .i64 0, .string (⟨#[]⟩ : ByteArray), .int .i64 0, .int .i64 x484003_3, .int .i64 x484004_3]) ?_ 3 _ rfl; (with_reducible repeat first|apply bk1_|apply bk2_|apply bk3_); refine blk_put (cs := #[.int .i64 0, .string (⟨#[]⟩ : ByteArray), .int .i64 x484002_3, .int .i64 x484003_3, .int .i64 x484004_3]) ?_ 2 _ rfl; (with_reducible repeat first|apply bk1_|apply bk2_|apply bk3_); refine blk_put (cs := #[.int .i64 0, .string x484001_3, .int .i64 x484002_3, .int .i64 x484003_3, .int .i64 x484004_3]) ?_ 1 _ rfl; (with_reducible repeat first|apply bk1_|apply bk2_|apply bk3_); refine blk_put (cs := #[.int .i64 x484000_3, .string x484001_3, .int .i64 x484002_3, .int .i64 x484003_3, .int .i64 x484004_3]) ?_ 0 _ rfl; (with_reducible repeat first|apply bk1_|apply bk2_|apply bk3_); exact BK483.out) Tryd.underlying33 rfl (by kernel_rfl) rfl (by (with_reducible repeat first|apply bk1_|apply bk2_|apply bk3_); refine blk_put (cs := #[.int .i64 42, .int .i64 x485001_3]) ?_ 1 _ rfl; (with_reducible repeat first|apply bk1_|apply bk2_|apply bk3_); refine blk_put (cs := #[.int .i64 x485000_3, .int .i64 x485001_3]) ?_ 0 _ rfl; (with_reducible repeat first|apply bk1_|apply bk2_|apply bk3_); refine blk_far ?_ NB484_483.out _; (with_reducible repeat first|apply bk1_|apply bk2_|apply bk3_); refine blk_far ?_ NB484_483.out _; (with_reducible repeat first|apply bk1_|apply bk2_|apply bk3_); refine blk_far ?_ NB484_483.out _; (with_reducible repeat first|apply bk1_|apply bk2_|apply bk3_); refine blk_far ?_ NB484_483.out _; (with_reducible repeat first|apply bk1_|apply bk2_|apply bk3_); refine blk_far ?_ NB484_483.out _; (with_reducible repeat first|apply bk1_|apply bk2_|apply bk3_); exact BK484.out) Tryd.underlying26 rfl (by kernel_rfl)) rfl ?_
               exact ⟨er_, h1_⟩
  ·rw [if_neg c4] at H
   exact absurd H (by simp)
 ·rw [if_neg c3] at H
  exact absurd H (by simp)

end Go.Proofs.YtmpaipbpnkfmfaaDoor.P
