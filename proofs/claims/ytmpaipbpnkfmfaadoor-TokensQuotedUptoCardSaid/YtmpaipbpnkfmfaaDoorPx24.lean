/- THE PROGRAM's FUNCTIONS AS PLAIN LEAN FUNCTIONS, and proofs that its calls come to them: written by a program of this claim's own. Conditions: as each theorem states. -/
import Derived.Test.YtmpaipbpnkfmfaaDoorPx0
import Derived.Test.YtmpaipbpnkfmfaaDoorPx2
import Derived.Test.YtmpaipbpnkfmfaaDoorPx6
import Derived.Test.YtmpaipbpnkfmfaaDoorPx7
import Derived.Test.YtmpaipbpnkfmfaaDoorPx12
import Derived.Test.YtmpaipbpnkfmfaaDoorPx17
import Derived.Test.YtmpaipbpnkfmfaaDoorPx19
import Derived.Test.YtmpaipbpnkfmfaaDoorGl
namespace Go.Proofs.YtmpaipbpnkfmfaaDoor.P
open Go.RowKit Go.Proofs.YtmpaipbpnkfmfaaDoorW.PrintWords Go.Proofs.YtmpaipbpnkfmfaaDoorW.PrintLast Go.Proofs.YtmpaipbpnkfmfaaDoorW.PrintMore
attribute [local go_sem] max2_int min2_int max_two min_two max_three min_three max_four min_four   -- for this text's walks alone
set_option linter.unusedVariables false
set_option linter.unusedSimpArgs false

attribute [local go_sem high] isSome_setCell_
attribute [local go_sem high] eqA33
/-! ### hearsaylaw04_TokensQuoted: function 11 -/
mutual
def hearsaylaw04_TokensQuoted.j0 : Nat → ByteArray → ByteArray → List (S33) → ByteArray → List (S33) → Bool → Option (Bool)
 | 0, _, _, _, _, _, _ => none
 | k + 1, x0, x5, x6, x8, x9, x53 => if x53 = true then (some false) else (hearsaylaw04_TokensQuoted.l0 k x0 x5 x6 x8 x9 0)
def hearsaylaw04_TokensQuoted.l0 : Nat → ByteArray → ByteArray → List (S33) → ByteArray → List (S33) → Int → Option (Bool)
 | 0, _, _, _, _, _, _ => none
 | k + 1, x0, x5, x6, x8, x9, x11 => if x11 < (x8.size : Int) then (if 0 ≤ x11 then (if (bt x8 x11) < 32 then (some false) else (if (bt x8 x11) > 126 then (some false) else (hearsaylaw04_TokensQuoted.l0 k x0 x5 x6 x8 x9 (wrap64 (x11 + 1))))) else (none)) else (if 0 < (x6.length : Int) then ((hearsaylaw04_bare.f ((rd_T33 x6 0).f0) ((rd_T33 x6 0).f1) ((rd_T33 x6 0).f2) ((rd_T33 x6 0).f3) ((rd_T33 x6 0).f4)).bind fun bt471 => (if (bt471.1 == 3 && (bt471.2.1.toList == x0.toList && (bt471.2.2.1 == 0 && (bt471.2.2.2.1 == 0 && (bt471.2.2.2.2 == 0))))) = true then (if 0 < (x9.length : Int) then ((hearsaylaw04_bare.f ((rd_T33 x9 0).f0) ((rd_T33 x9 0).f1) ((rd_T33 x9 0).f2) ((rd_T33 x9 0).f3) ((rd_T33 x9 0).f4)).bind fun bt477 => (if (bt477.1 == 3 && (bt477.2.1.toList == x0.toList && (bt477.2.2.1 == 0 && (bt477.2.2.2.1 == 0 && (bt477.2.2.2.2 == 0))))) = true then (if ((rd_T33 x6 0).f4) = (x5.size : Int) then (some (decide ((x8.size : Int) ≤ (wrap64 ((wrap64 (4 * (x0.size : Int))) + 2))))) else (some false)) else (some false))) else (none)) else (some false))) else (none))
end
def hearsaylaw04_TokensQuoted.f (k : Nat) (a0 : ByteArray) (l1 : List Int) : Option (Bool) := (hearsaylaw04_spelt.f k a0 l1).bind fun t454 => ((tokens_Cut.f k t454 (t454.size : Int)).bind fun bt455 => ((tokens_Quote.f k a0).bind fun t461 => ((tokens_Cut.f k t461 (t461.size : Int)).bind fun bt462 => (if bt455.2.1 = 0 then (if bt462.2.1 = 0 then (if (bt455.1.length : Int) = 1 then (if (bt462.1.length : Int) = 1 then ((hearsaylaw04_head.f k).bind fun t468 => (hearsaylaw04_TokensQuoted.j0 k a0 t454 bt455.1 t461 bt462.1 (!t468))) else (hearsaylaw04_TokensQuoted.j0 k a0 t454 bt455.1 t461 bt462.1 true)) else (hearsaylaw04_TokensQuoted.j0 k a0 t454 bt455.1 t461 bt462.1 true)) else (hearsaylaw04_TokensQuoted.j0 k a0 t454 bt455.1 t461 bt462.1 true)) else (hearsaylaw04_TokensQuoted.j0 k a0 t454 bt455.1 t461 bt462.1 true)))))
theorem hearsaylaw04_TokensQuoted.mono_l : ∀ k, (∀ y0 y1 y2 y3 y4 y5, LeO (hearsaylaw04_TokensQuoted.j0 k y0 y1 y2 y3 y4 y5) (hearsaylaw04_TokensQuoted.j0 (k + 1) y0 y1 y2 y3 y4 y5)) ∧ (∀ y0 y1 y2 y3 y4 y5, LeO (hearsaylaw04_TokensQuoted.l0 k y0 y1 y2 y3 y4 y5) (hearsaylaw04_TokensQuoted.l0 (k + 1) y0 y1 y2 y3 y4 y5))
 | 0 => ⟨fun _ _ _ _ _ _ r h => by simp [hearsaylaw04_TokensQuoted.j0] at h, fun _ _ _ _ _ _ r h => by simp [hearsaylaw04_TokensQuoted.l0] at h⟩
 | k + 1 => by
  obtain ⟨ih0, ih1⟩ := hearsaylaw04_TokensQuoted.mono_l k
  refine ⟨?_, ?_⟩
  ·intro y0 y1 y2 y3 y4 y5
   unfold hearsaylaw04_TokensQuoted.j0
   repeat' first
   | (with_reducible exact ih0 _ _ _ _ _ _)
   | (with_reducible exact ih1 _ _ _ _ _ _)
   | (with_reducible exact hearsaylaw04_head.mono _)
   | (with_reducible exact hearsaylaw04_spelt.mono _ _ _)
   | (with_reducible exact tokens_Cut.mono _ _ _)
   | (with_reducible exact tokens_Quote.mono _ _)
   | (with_reducible exact LeO.refl _)
   | (with_reducible exact LeO.none _)
   | (with_reducible refine LeO.ite ?_ ?_)
   | (with_reducible refine LeO.bind ?_ (fun _ => ?_))
   | exact ih0 _ _ _ _ _ _
   | exact ih1 _ _ _ _ _ _
   | exact hearsaylaw04_head.mono _
   | exact hearsaylaw04_spelt.mono _ _ _
   | exact tokens_Cut.mono _ _ _
   | exact tokens_Quote.mono _ _
   | exact LeO.none _
   | refine LeO.ite ?_ ?_
   | refine LeO.bind ?_ (fun _ => ?_)
  ·intro y0 y1 y2 y3 y4 y5
   unfold hearsaylaw04_TokensQuoted.l0
   repeat' first
   | (with_reducible exact ih0 _ _ _ _ _ _)
   | (with_reducible exact ih1 _ _ _ _ _ _)
   | (with_reducible exact hearsaylaw04_head.mono _)
   | (with_reducible exact hearsaylaw04_spelt.mono _ _ _)
   | (with_reducible exact tokens_Cut.mono _ _ _)
   | (with_reducible exact tokens_Quote.mono _ _)
   | (with_reducible exact LeO.refl _)
   | (with_reducible exact LeO.none _)
   | (with_reducible refine LeO.ite ?_ ?_)
   | (with_reducible refine LeO.bind ?_ (fun _ => ?_))
   | exact ih0 _ _ _ _ _ _
   | exact ih1 _ _ _ _ _ _
   | exact hearsaylaw04_head.mono _
   | exact hearsaylaw04_spelt.mono _ _ _
   | exact tokens_Cut.mono _ _ _
   | exact tokens_Quote.mono _ _
   | exact LeO.none _
   | refine LeO.ite ?_ ?_
   | refine LeO.bind ?_ (fun _ => ?_)
theorem hearsaylaw04_TokensQuoted.mono : ∀ a0 a1 k, LeO (hearsaylaw04_TokensQuoted.f k a0 a1) (hearsaylaw04_TokensQuoted.f (k + 1) a0 a1) := by
 intro a0 a1 k
 obtain ⟨ih0, ih1⟩ := hearsaylaw04_TokensQuoted.mono_l k
 unfold hearsaylaw04_TokensQuoted.f
 repeat' first
   | (with_reducible exact ih0 _ _ _ _ _ _)
   | (with_reducible exact ih1 _ _ _ _ _ _)
   | (with_reducible exact hearsaylaw04_head.mono _)
   | (with_reducible exact hearsaylaw04_spelt.mono _ _ _)
   | (with_reducible exact tokens_Cut.mono _ _ _)
   | (with_reducible exact tokens_Quote.mono _ _)
   | (with_reducible exact LeO.refl _)
   | (with_reducible exact LeO.none _)
   | (with_reducible refine LeO.ite ?_ ?_)
   | (with_reducible refine LeO.bind ?_ (fun _ => ?_))
   | exact ih0 _ _ _ _ _ _
   | exact ih1 _ _ _ _ _ _
   | exact hearsaylaw04_head.mono _
   | exact hearsaylaw04_spelt.mono _ _ _
   | exact tokens_Cut.mono _ _ _
   | exact tokens_Quote.mono _ _
   | exact LeO.none _
   | refine LeO.ite ?_ ?_
   | refine LeO.bind ?_ (fun _ => ?_)
def hearsaylaw04_TokensQuoted.T13 : Bool × List (List Nat × List Nat) := (true, [([], []), ([0], [0]), ([1], [1]), ([2], [2]), ([], []), ([3, 4], [3, 4]), ([5, 3], [5]), ([6], [6]), ([7, 6], [6, 7]), ([8, 6], [6, 8]), ([9, 6, 6], [6, 9]), ([6], [6]), ([10, 11, 6], [6, 10, 11]), ([6, 12], [6, 12]), ([13, 10], [13]), ([14], [14]), ([15, 14], [14, 15]), ([16, 14], [14, 16]), ([17, 14], [14, 17]), ([14], [14]), ([19, 14], [14, 19]), ([18, 20, 14], [14, 18, 20]), ([14, 21], [14, 21]), ([22, 14], [22]), ([23], [23]), ([24, 23], [23, 24]), ([23], [23]), ([26, 23], [23, 26]), ([27, 23], [23, 27]), ([28, 23], [23, 28]), ([25, 29, 23], [23, 25, 29]), ([23, 30], [23, 30]), ([31, 23, 0, 1, 2, 3, 4, 5, 6, 7, 8, 9, 10, 11, 12, 13, 14, 15, 16, 17, 18, 19, 20, 21, 22, 23, 24, 25, 26, 27, 28, 29, 30, 31], [31])])
def hearsaylaw04_TokensQuoted.B13 : List Nat := [0, 1, 3, 7, 0, 31, 63, 127, 255, 511, 1023, 127, 4095, 8191, 16383, 32767, 65535, 131071, 262143, 32767, 557055, 2097151, 4194303, 8388607, 16777215, 33554431, 16777215, 83886079, 218103807, 486539263, 1073741823, 2147483647, 4294967295]
theorem hearsaylaw04_TokensQuoted.tab13 : rtab .any (opsOf Tryd.f11 13) = hearsaylaw04_TokensQuoted.T13 := by kernel_rfl
theorem hearsaylaw04_TokensQuoted.bits13 : waitsOk hearsaylaw04_TokensQuoted.T13.2 hearsaylaw04_TokensQuoted.B13 = true := by kernel_rfl
set_option maxHeartbeats 20000000 in
set_option maxRecDepth 100000 in
theorem hearsaylaw04_TokensQuoted.calls (k : Nat) (a0 : ByteArray) (A1 : Option Addr) (c1 : Nat) (l1 : List Int) (r : Bool) (w : World) (hr1 : Kd.C (Kd.int .i64) w A1 l1.length l1) (hc1 : l1.length ≤ c1) (hG : Gl w) (h : hearsaylaw04_TokensQuoted.f k a0 l1 = some r) :
  Calls Tryd.prog 11 #[.string a0, .slice A1 l1.length c1] w fun e w' => e = .returned (.bool r) ∧ Below w.heap.size w w' := by
 have hu26 := Tryd.underlying26
 have hu33 := Tryd.underlying33
 have HG := Aside0.mk hG
 clear hG
 have HR1 := Aside0.mk hr1
 have HC1 := Aside0.mk hc1
 clear hr1 hc1
 have HB := Aside0.mk (Below.refl w.heap.size w)
 have H : ((hearsaylaw04_spelt.f k a0 l1).bind fun t454 => ((tokens_Cut.f k t454 (t454.size : Int)).bind fun bt455 => ((tokens_Quote.f k a0).bind fun t461 => ((tokens_Cut.f k t461 (t461.size : Int)).bind fun bt462 => (if bt455.2.1 = 0 then (if bt462.2.1 = 0 then (if (bt455.1.length : Int) = 1 then (if (bt462.1.length : Int) = 1 then ((hearsaylaw04_head.f k).bind fun t468 => (hearsaylaw04_TokensQuoted.j0 k a0 t454 bt455.1 t461 bt462.1 (!t468))) else (hearsaylaw04_TokensQuoted.j0 k a0 t454 bt455.1 t461 bt462.1 true)) else (hearsaylaw04_TokensQuoted.j0 k a0 t454 bt455.1 t461 bt462.1 true)) else (hearsaylaw04_TokensQuoted.j0 k a0 t454 bt455.1 t461 bt462.1 true)) else (hearsaylaw04_TokensQuoted.j0 k a0 t454 bt455.1 t461 bt462.1 true)))))) = some r := h
 clear h
 replace H := Option.bind_eq_some_iff.mp H
 obtain ⟨t454, A30, H⟩ := H
 replace H : ((tokens_Cut.f k t454 (t454.size : Int)).bind fun bt455 => ((tokens_Quote.f k a0).bind fun t461 => ((tokens_Cut.f k t461 (t461.size : Int)).bind fun bt462 => (if bt455.2.1 = 0 then (if bt462.2.1 = 0 then (if (bt455.1.length : Int) = 1 then (if (bt462.1.length : Int) = 1 then ((hearsaylaw04_head.f k).bind fun t468 => (hearsaylaw04_TokensQuoted.j0 k a0 t454 bt455.1 t461 bt462.1 (!t468))) else (hearsaylaw04_TokensQuoted.j0 k a0 t454 bt455.1 t461 bt462.1 true)) else (hearsaylaw04_TokensQuoted.j0 k a0 t454 bt455.1 t461 bt462.1 true)) else (hearsaylaw04_TokensQuoted.j0 k a0 t454 bt455.1 t461 bt462.1 true)) else (hearsaylaw04_TokensQuoted.j0 k a0 t454 bt455.1 t461 bt462.1 true))))) = some r := H
 have A3 := Aside0.mk A30
 clear A30
 replace H := Option.bind_eq_some_iff.mp H
 obtain ⟨⟨t455, t458, t459⟩, A40, H⟩ := H
 replace H : ((tokens_Quote.f k a0).bind fun t461 => ((tokens_Cut.f k t461 (t461.size : Int)).bind fun bt462 => (if t458 = 0 then (if bt462.2.1 = 0 then (if (t455.length : Int) = 1 then (if (bt462.1.length : Int) = 1 then ((hearsaylaw04_head.f k).bind fun t468 => (hearsaylaw04_TokensQuoted.j0 k a0 t454 t455 t461 bt462.1 (!t468))) else (hearsaylaw04_TokensQuoted.j0 k a0 t454 t455 t461 bt462.1 true)) else (hearsaylaw04_TokensQuoted.j0 k a0 t454 t455 t461 bt462.1 true)) else (hearsaylaw04_TokensQuoted.j0 k a0 t454 t455 t461 bt462.1 true)) else (hearsaylaw04_TokensQuoted.j0 k a0 t454 t455 t461 bt462.1 true)))) = some r := H
 have A4 := Aside0.mk A40
 clear A40
 replace H := Option.bind_eq_some_iff.mp H
 obtain ⟨t461, A50, H⟩ := H
 replace H : ((tokens_Cut.f k t461 (t461.size : Int)).bind fun bt462 => (if t458 = 0 then (if bt462.2.1 = 0 then (if (t455.length : Int) = 1 then (if (bt462.1.length : Int) = 1 then ((hearsaylaw04_head.f k).bind fun t468 => (hearsaylaw04_TokensQuoted.j0 k a0 t454 t455 t461 bt462.1 (!t468))) else (hearsaylaw04_TokensQuoted.j0 k a0 t454 t455 t461 bt462.1 true)) else (hearsaylaw04_TokensQuoted.j0 k a0 t454 t455 t461 bt462.1 true)) else (hearsaylaw04_TokensQuoted.j0 k a0 t454 t455 t461 bt462.1 true)) else (hearsaylaw04_TokensQuoted.j0 k a0 t454 t455 t461 bt462.1 true))) = some r := H
 have A5 := Aside0.mk A50
 clear A50
 replace H := Option.bind_eq_some_iff.mp H
 obtain ⟨⟨t462, t465, t466⟩, A60, H⟩ := H
 replace H : (if t458 = 0 then (if t465 = 0 then (if (t455.length : Int) = 1 then (if (t462.length : Int) = 1 then ((hearsaylaw04_head.f k).bind fun t468 => (hearsaylaw04_TokensQuoted.j0 k a0 t454 t455 t461 t462 (!t468))) else (hearsaylaw04_TokensQuoted.j0 k a0 t454 t455 t461 t462 true)) else (hearsaylaw04_TokensQuoted.j0 k a0 t454 t455 t461 t462 true)) else (hearsaylaw04_TokensQuoted.j0 k a0 t454 t455 t461 t462 true)) else (hearsaylaw04_TokensQuoted.j0 k a0 t454 t455 t461 t462 true)) = some r := H
 have A6 := Aside0.mk A60
 clear A60
 have HC7 := Aside0.mk H
 clear H
 go_enter Tryd.func11, Tryd.ntmps11
 go_upto_region 5 with (first | ((with_reducible refine gate_callee (f := 27) rfl ?_); refine goesL_ (some 15) rfl rfl Tryd.func27 (by kernel_rfl) rfl #[.string a0, .slice A1 l1.length c1] rfl (by (try simp only [List.map_toArray, List.map_cons, List.map_nil]); first | done | rfl | (simp only [List.length_drop, List.length_take]; rfl) | (simp only [beq_nil_, bne_nil_]; rfl) | (simp only [ByteArray.size_extract, Nat.min_self]; rfl)) ?_; (with_reducible refine (hearsaylaw04_spelt.calls k a0 _ _ l1 t454 _ ?side1 ?side2 A3.out).mono ?_); (case side1 => repeat (first | exact HR1.out | (with_reducible refine Kd.C_alloc ?_ _) | (with_reducible refine Kd.C_drewN ?_ _) | (with_reducible refine Kd.C_drew ?_))); (case side2 => exact HC1.out); rintro e w8 ⟨rfl, hb⟩; refine ⟨_, rfl, ?_⟩; have n0_ := Aside0.mk (below_step (by repeat (first | (with_reducible first | exact HB.out | apply below_alloc | apply pw_below_drewN | apply below_drew1) | exact HB.out)) hb); clear HB; have HB := n0_; clear n0_; (try clear hb); (try clear hb2); (try clear hk); (try clear hi)) | ((with_reducible refine gate_callee (f := 14) rfl ?_); refine goesL_ (some 20) rfl rfl Tryd.func14 (by kernel_rfl) rfl #[.string t454, .int .i64 (t454.size : Int)] rfl (by (try simp only [List.map_toArray, List.map_cons, List.map_nil]); first | done | rfl | (simp only [List.length_drop, List.length_take]; rfl) | (simp only [beq_nil_, bne_nil_]; rfl) | (simp only [ByteArray.size_extract, Nat.min_self]; rfl)) ?_; (with_reducible refine (tokens_Cut.calls k t454 (t454.size : Int) t455 t458 t459 _ ?side1 A4.out).mono ?_); (case side1 => exact Gl.below HG.out (by repeat (first | (with_reducible first | exact HB.out | apply below_alloc | apply pw_below_drewN | apply below_drew1) | exact HB.out))); rintro e w9 ⟨v456, rfl, ho0, hb⟩; refine ⟨_, rfl, ?_⟩; have n0_ := Aside0.mk (Kd.R_lower ho0 (below_size (by repeat (first | (with_reducible first | exact HB.out | apply below_alloc | apply pw_below_drewN | apply below_drew1) | exact HB.out)))); have n1_ := Aside0.mk (below_step (by repeat (first | (with_reducible first | exact HB.out | apply below_alloc | apply pw_below_drewN | apply below_drew1) | exact HB.out)) hb); clear HB; have HO457 := n0_; have HB := n1_; clear n0_ n1_; (try clear hb); (try clear hb2); (try clear hk); (try clear hi); (try clear ho0)) | ((with_reducible refine gate_dst (N := 7) rfl ?_); (try (refine gate_guard (by rfl) ?_; dsimp only)); refine box_event ?hg (N := 7) ?hd (cs := #[.int .i64 0, .int .i64 0]) (t := 26) ?hr ?_; (case hd => rfl); (case hg => rfl); (case hr => first | (go_simp; done) | (go_simp; rfl)); intro gb460 hg w10 hbox hb; have n0_ := Aside0.mk (Kd.R_below (by (with_reducible repeat (first | apply Kd.R_alloc | apply Kd.R_drewN | apply Kd.R_drew)); exact HO457.out) hb); have n1_ := Aside0.mk (below_step (by repeat (first | (with_reducible first | exact HB.out | apply below_alloc | apply pw_below_drewN | apply below_drew1) | exact HB.out)) hb); have n2_ := Aside0.mk (hbox); have n3_ := Aside0.mk ((by rw [hg]; exact (below_size (by repeat (first | (with_reducible first | exact HB.out | apply below_alloc | apply pw_below_drewN | apply below_drew1) | exact HB.out))) : w.heap.size ≤ gb460)); have n4_ := Aside0.mk ((by rw [hg]; exact (below_size (by repeat (first | (with_reducible first | exact HB.out | apply below_alloc | apply pw_below_drewN | apply below_drew1) | exact HB.out))) : w.heap.size ≤ gb460)); clear HO457; clear HB; have HO457 := n0_; have HB := n1_; have BK460 := n2_; have GW460 := n3_; have GE460 := n4_; clear n0_ n1_ n2_ n3_ n4_; clear hb hbox hg; have hcz11_0 : w10.cell? ⟨gb460, 0, none⟩ = some (.int .i64 0) := (blk_cell BK460.out 0).trans rfl; have hcz11_1 : w10.cell? ⟨gb460, 1, none⟩ = some (.int .i64 0) := (blk_cell BK460.out 1).trans rfl; have hfz11_0 := blk_frozen BK460.out 0; have hfz11_1 := blk_frozen BK460.out 1) | ((with_reducible refine gate_callee (f := 28) rfl ?_); refine goesL_ (some 24) rfl rfl Tryd.func28 (by kernel_rfl) rfl #[.string a0] rfl (by (try simp only [List.map_toArray, List.map_cons, List.map_nil]); first | done | rfl | (simp only [List.length_drop, List.length_take]; rfl) | (simp only [beq_nil_, bne_nil_]; rfl) | (simp only [ByteArray.size_extract, Nat.min_self]; rfl)) ?_; (with_reducible refine (tokens_Quote.calls k a0 t461 _ A5.out).mono ?_); rintro e w12 ⟨rfl, hb⟩; refine ⟨_, rfl, ?_⟩; have n0_ := Aside0.mk (Kd.R_below (by (with_reducible repeat (first | apply Kd.R_alloc | apply Kd.R_drewN | apply Kd.R_drew)); exact (Kd.R_mono (Kd.R_far (p := ⟨gb460, 1, none⟩) (Kd.R_far (p := ⟨gb460, 0, none⟩) (Kd.R_types HO457.out BK460.out (by decide)) (fun _ hk => hk.2) (.int .i64 t458)) (fun _ hk => hk.2) (.int .i64 t459)) (fun _ h_ => h_.1))) hb); have n1_ := Aside0.mk (blk_below (g := gb460) (o := .cells #[.int .i64 t458, .int .i64 t459] 26 (0, 0)) (by (with_reducible repeat (first | refine blk_drewN ?_ _ | refine blk_drew ?_ | refine blk_alloc ?_ _)); refine blk_put (cs := #[.int .i64 t458, .int .i64 0]) ?_ 1 _ rfl; (with_reducible repeat (first | refine blk_drewN ?_ _ | refine blk_drew ?_ | refine blk_alloc ?_ _)); refine blk_put (cs := #[.int .i64 0, .int .i64 0]) ?_ 0 _ rfl; (with_reducible repeat (first | refine blk_drewN ?_ _ | refine blk_drew ?_ | refine blk_alloc ?_ _)); exact BK460.out) hb); have n2_ := Aside0.mk (below_step (by repeat (first | (with_reducible first | exact HB.out | apply below_alloc | apply pw_below_drewN | apply below_drew1 | refine below_set ?_ GE460.out) | exact HB.out)) hb); clear HO457; clear BK460; clear HB; have HO457 := n0_; have BK460 := n1_; have HB := n2_; clear n0_ n1_ n2_; (try clear hb); (try clear hb2); (try clear hk); (try clear hi)) | ((with_reducible refine gate_callee (f := 14) rfl ?_); refine goesL_ (some 29) rfl rfl Tryd.func14 (by kernel_rfl) rfl #[.string t461, .int .i64 (t461.size : Int)] rfl (by (try simp only [List.map_toArray, List.map_cons, List.map_nil]); first | done | rfl | (simp only [List.length_drop, List.length_take]; rfl) | (simp only [beq_nil_, bne_nil_]; rfl) | (simp only [ByteArray.size_extract, Nat.min_self]; rfl)) ?_; (with_reducible refine (tokens_Cut.calls k t461 (t461.size : Int) t462 t465 t466 _ ?side1 A6.out).mono ?_); (case side1 => exact Gl.below HG.out (by repeat (first | (with_reducible first | exact HB.out | apply below_alloc | apply pw_below_drewN | apply below_drew1 | refine below_set ?_ GE460.out) | exact HB.out))); rintro e w13 ⟨v463, rfl, ho0, hb⟩; refine ⟨_, rfl, ?_⟩; have n0_ := Aside0.mk (Kd.R_elder' (by (with_reducible repeat (first | apply Kd.R_alloc | apply Kd.R_drewN | apply Kd.R_drew)); exact HO457.out) (Kd.R_base ho0) hb); have n1_ := Aside0.mk (Kd.R_lower (Kd.R_new' ho0 (Kd.R_lt (by (with_reducible repeat (first | apply Kd.R_alloc | apply Kd.R_drewN | apply Kd.R_drew)); exact HO457.out))) (below_size (by repeat (first | (with_reducible first | exact HB.out | apply below_alloc | apply pw_below_drewN | apply below_drew1 | refine below_set ?_ GE460.out) | exact HB.out)))); have n2_ := Aside0.mk (blk_below (g := gb460) (o := .cells #[.int .i64 t458, .int .i64 t459] 26 (0, 0)) (by (with_reducible repeat (first | refine blk_drewN ?_ _ | refine blk_drew ?_ | refine blk_alloc ?_ _)); exact BK460.out) hb); have n3_ := Aside0.mk (below_step (by repeat (first | (with_reducible first | exact HB.out | apply below_alloc | apply pw_below_drewN | apply below_drew1 | refine below_set ?_ GE460.out) | exact HB.out)) hb); clear HO457; clear BK460; clear HB; have HO457 := n0_; have HO464 := n1_; have BK460 := n2_; have HB := n3_; clear n0_ n1_ n2_ n3_; (try clear hb); (try clear hb2); (try clear hk); (try clear hi); (try clear ho0)) | ((with_reducible refine gate_dst (N := 10) rfl ?_); (try (refine gate_guard (by rfl) ?_; dsimp only)); refine box_event ?hg (N := 10) ?hd (cs := #[.int .i64 0, .int .i64 0]) (t := 26) ?hr ?_; (case hd => rfl); (case hg => rfl); (case hr => first | (go_simp; done) | (go_simp; rfl)); intro gb467 hg w14 hbox hb; have n0_ := Aside0.mk (Kd.R_below (by (with_reducible repeat (first | apply Kd.R_alloc | apply Kd.R_drewN | apply Kd.R_drew)); exact HO457.out) hb); have n1_ := Aside0.mk (Kd.R_below (by (with_reducible repeat (first | apply Kd.R_alloc | apply Kd.R_drewN | apply Kd.R_drew)); exact HO464.out) hb); have n2_ := Aside0.mk (blk_below (g := gb460) (o := .cells #[.int .i64 t458, .int .i64 t459] 26 (0, 0)) (by (with_reducible repeat (first | refine blk_drewN ?_ _ | refine blk_drew ?_ | refine blk_alloc ?_ _)); exact BK460.out) hb); have n3_ := Aside0.mk (below_step (by repeat (first | (with_reducible first | exact HB.out | apply below_alloc | apply pw_below_drewN | apply below_drew1 | refine below_set ?_ GE460.out) | exact HB.out)) hb); have n4_ := Aside0.mk (hbox); have n5_ := Aside0.mk ((by rw [hg]; exact (below_size (by repeat (first | (with_reducible first | exact HB.out | apply below_alloc | apply pw_below_drewN | apply below_drew1 | refine below_set ?_ GE460.out) | exact HB.out))) : w.heap.size ≤ gb467)); have n6_ := Aside0.mk ((by rw [hg]; exact (below_size (by repeat (first | (with_reducible first | exact HB.out | apply below_alloc | apply pw_below_drewN | apply below_drew1 | refine below_set ?_ GE460.out) | exact HB.out))) : w.heap.size ≤ gb467)); have n7_ := Aside0.mk ((by rw [hg]; exact Nat.ne_of_lt (blk_lt (g := gb460) (o := .cells #[.int .i64 t458, .int .i64 t459] 26 (0, 0)) (by (with_reducible repeat (first | refine blk_drewN ?_ _ | refine blk_drew ?_ | refine blk_alloc ?_ _)); exact BK460.out)) : gb460 ≠ gb467)); have n8_ := Aside0.mk ((by rw [hg]; exact Nat.ne_of_gt (blk_lt (g := gb460) (o := .cells #[.int .i64 t458, .int .i64 t459] 26 (0, 0)) (by (with_reducible repeat (first | refine blk_drewN ?_ _ | refine blk_drew ?_ | refine blk_alloc ?_ _)); exact BK460.out)) : gb467 ≠ gb460)); clear HO457; clear HO464; clear BK460; clear HB; have HO457 := n0_; have HO464 := n1_; have BK460 := n2_; have HB := n3_; have BK467 := n4_; have GW467 := n5_; have GE467 := n6_; have NB460_467 := n7_; have NB467_460 := n8_; clear n0_ n1_ n2_ n3_ n4_ n5_ n6_ n7_ n8_; clear hb hbox hg; have hnb15 := NB467_460.out; have hnc15 := NB460_467.out; have hcz16_0 : w14.cell? ⟨gb467, 0, none⟩ = some (.int .i64 0) := (blk_cell BK467.out 0).trans rfl; have hcz16_1 : w14.cell? ⟨gb467, 1, none⟩ = some (.int .i64 0) := (blk_cell BK467.out 1).trans rfl; have hfz16_0 := blk_frozen BK467.out 0; have hfz16_1 := blk_frozen BK467.out 1))
 (try simp only [Act.put, List.setIfInBounds_toArray, List.set_cons_zero, List.set_cons_succ])
 go_cut [53] (fun v53 wc => ∃ (kq : Nat) (x53_6 : Bool), v53 = .bool x53_6 ∧ Aside0 (hearsaylaw04_TokensQuoted.j0 kq a0 t454 t455 t461 t462 x53_6 = some r) ∧ Aside0 (kq ≤ k) ∧ Aside0 (Kd.R k33 33 wc w.heap.size (fun k_ => some k_ ≠ (v463 : Value).ownBlock) v456 t455) ∧ Aside0 (Kd.R k33 33 wc w.heap.size (fun k_ => some k_ ≠ (v456 : Value).ownBlock) v463 t462) ∧ Aside0 (wc.heap[gb460]? = some (.cells #[.int .i64 t458, .int .i64 t459] 26 (0, 0))) ∧ Aside0 (wc.heap[gb467]? = some (.cells #[.int .i64 t465, .int .i64 t466] 26 (0, 0))) ∧ Aside0 (Below w.heap.size w wc))
 case first =>
  have H := HC7.out
  clear HC7
  by_cases c17 : t458 = 0
  ·rw [if_pos c17] at H
   have c17b0 : (t458 == 0) = true := beq_iff_eq.mpr c17
   have c17b1 : (t458 != 0) = false := bne_eq_false_iff_eq.mpr c17
   clear c17
   (first | rw [c17b0] | (simp only [i64_w, i32_w]; rw [c17b0]) | skip)
   by_cases c18 : t465 = 0
   ·rw [if_pos c18] at H
    have c18b0 : (t465 == 0) = true := beq_iff_eq.mpr c18
    have c18b1 : (t465 != 0) = false := bne_eq_false_iff_eq.mpr c18
    clear c18
    by_cases c19 : (t455.length : Int) = 1
    ·rw [if_pos c19] at H
     have c19b0 : ((t455.length : Int) == 1) = true := beq_iff_eq.mpr c19
     have c19b1 : ((t455.length : Int) != 1) = false := bne_eq_false_iff_eq.mpr c19
     clear c19
     by_cases c20 : (t462.length : Int) = 1
     ·rw [if_pos c20] at H
      have c20b0 : ((t462.length : Int) == 1) = true := beq_iff_eq.mpr c20
      have c20b1 : ((t462.length : Int) != 1) = false := bne_eq_false_iff_eq.mpr c20
      clear c20
      replace H := Option.bind_eq_some_iff.mp H
      obtain ⟨t468, A210, H⟩ := H
      replace H : (hearsaylaw04_TokensQuoted.j0 k a0 t454 t455 t461 t462 (!t468)) = some r := H
      have A21 := Aside0.mk A210
      clear A210
      have H' := Aside0.mk H
      clear H
      have hnb22 := NB460_467.out
      have hnc22 := NB467_460.out
      have hcz23_0 : w14.cell? ⟨gb460, 0, none⟩ = some (.int .i64 t458) := (blk_cell BK460.out 0).trans rfl
      have hcz23_1 : w14.cell? ⟨gb460, 1, none⟩ = some (.int .i64 t459) := (blk_cell BK460.out 1).trans rfl
      have hfz23_0 := blk_frozen BK460.out 0
      have hfz23_1 := blk_frozen BK460.out 1
      have hcz24_0 : w14.cell? ⟨gb467, 0, none⟩ = some (.int .i64 0) := (blk_cell BK467.out 0).trans rfl
      have hcz24_1 : w14.cell? ⟨gb467, 1, none⟩ = some (.int .i64 0) := (blk_cell BK467.out 1).trans rfl
      have hfz24_0 := blk_frozen BK467.out 0
      have hfz24_1 := blk_frozen BK467.out 1
      obtain ⟨Ao25, co25, eo25⟩ := Kd.R_slice HO457.out
      subst eo25
      obtain ⟨Ao26, co26, eo26⟩ := Kd.R_slice HO464.out
      subst eo26
      go_wp2_with (first | (go_at_call 17; (with_reducible refine (hearsaylaw04_head.calls k  t468 _ ?side1 A21.out).mono ?_); (case side1 => exact Gl.below HG.out (by repeat (first | (with_reducible first | exact HB.out | apply below_alloc | apply pw_below_drewN | apply below_drew1 | refine below_set ?_ GE460.out | refine below_set ?_ GE467.out) | exact HB.out))); rintro e w27 ⟨rfl, hb⟩; have n0_ := Aside0.mk (Kd.R_below (by (with_reducible repeat (first | apply Kd.R_alloc | apply Kd.R_drewN | apply Kd.R_drew)); exact (Kd.R_mono (Kd.R_far (p := ⟨gb467, 1, none⟩) (Kd.R_far (p := ⟨gb467, 0, none⟩) (Kd.R_types HO457.out BK467.out (by decide)) (fun _ hk => hk.2) (.int .i64 t465)) (fun _ hk => hk.2) (.int .i64 t466)) (fun _ h_ => h_.1))) hb); have n1_ := Aside0.mk (Kd.R_below (by (with_reducible repeat (first | apply Kd.R_alloc | apply Kd.R_drewN | apply Kd.R_drew)); exact (Kd.R_mono (Kd.R_far (p := ⟨gb467, 1, none⟩) (Kd.R_far (p := ⟨gb467, 0, none⟩) (Kd.R_types HO464.out BK467.out (by decide)) (fun _ hk => hk.2) (.int .i64 t465)) (fun _ hk => hk.2) (.int .i64 t466)) (fun _ h_ => h_.1))) hb); have n2_ := Aside0.mk (blk_below (g := gb460) (o := .cells #[.int .i64 t458, .int .i64 t459] 26 (0, 0)) (by (with_reducible repeat (first | refine blk_drewN ?_ _ | refine blk_drew ?_ | refine blk_alloc ?_ _)); refine blk_far ?_ NB460_467.out _; (with_reducible repeat (first | refine blk_drewN ?_ _ | refine blk_drew ?_ | refine blk_alloc ?_ _)); refine blk_far ?_ NB460_467.out _; (with_reducible repeat (first | refine blk_drewN ?_ _ | refine blk_drew ?_ | refine blk_alloc ?_ _)); exact BK460.out) hb); have n3_ := Aside0.mk (blk_below (g := gb467) (o := .cells #[.int .i64 t465, .int .i64 t466] 26 (0, 0)) (by (with_reducible repeat (first | refine blk_drewN ?_ _ | refine blk_drew ?_ | refine blk_alloc ?_ _)); refine blk_put (cs := #[.int .i64 t465, .int .i64 0]) ?_ 1 _ rfl; (with_reducible repeat (first | refine blk_drewN ?_ _ | refine blk_drew ?_ | refine blk_alloc ?_ _)); refine blk_put (cs := #[.int .i64 0, .int .i64 0]) ?_ 0 _ rfl; (with_reducible repeat (first | refine blk_drewN ?_ _ | refine blk_drew ?_ | refine blk_alloc ?_ _)); exact BK467.out) hb); have n4_ := Aside0.mk (below_step (by repeat (first | (with_reducible first | exact HB.out | apply below_alloc | apply pw_below_drewN | apply below_drew1 | refine below_set ?_ GE460.out | refine below_set ?_ GE467.out) | exact HB.out)) hb); clear HO457; clear HO464; clear BK460; clear BK467; clear HB; have HO457 := n0_; have HO464 := n1_; have BK460 := n2_; have BK467 := n3_; have HB := n4_; clear n0_ n1_ n2_ n3_ n4_; (try clear hb); (try clear hb2); (try clear hk); (try clear hi)))
      go_meet
      case rel => exact ⟨_, (!t468), (by first | rfl | (simp; done) | (simp [*]; done) | (simp [i64_w, i32_w, IntKind.wrap_u8]; done) | (simp [*, i64_w, i32_w, IntKind.wrap_u8]; done)), H', ⟨by first | omega | exact Nat.le_refl _⟩, ⟨by (with_reducible repeat (first | apply Kd.R_alloc | apply Kd.R_drewN | apply Kd.R_drew)); exact Kd.R_mono HO457.out (fun _ hk => hk.2)⟩, ⟨by (with_reducible repeat (first | apply Kd.R_alloc | apply Kd.R_drewN | apply Kd.R_drew)); exact Kd.R_mono HO464.out (fun _ hk => hk.2)⟩, ⟨by (with_reducible repeat (first | refine blk_drewN ?_ _ | refine blk_drew ?_ | refine blk_alloc ?_ _)); exact BK460.out⟩, ⟨by (with_reducible repeat (first | refine blk_drewN ?_ _ | refine blk_drew ?_ | refine blk_alloc ?_ _)); exact BK467.out⟩, ⟨by repeat (first | (with_reducible first | exact HB.out | apply below_alloc | apply pw_below_drewN | apply below_drew1 | refine below_set ?_ GE460.out | refine below_set ?_ GE467.out) | exact HB.out)⟩⟩
     ·rw [if_neg c20] at H
      have c20b0 : ((t462.length : Int) == 1) = false := beq_eq_false_iff_ne.mpr c20
      have c20b1 : ((t462.length : Int) != 1) = true := bne_iff_ne.mpr c20
      have H' := Aside0.mk H
      clear H
      have hnb28 := NB460_467.out
      have hnc28 := NB467_460.out
      have hcz29_0 : w14.cell? ⟨gb460, 0, none⟩ = some (.int .i64 t458) := (blk_cell BK460.out 0).trans rfl
      have hcz29_1 : w14.cell? ⟨gb460, 1, none⟩ = some (.int .i64 t459) := (blk_cell BK460.out 1).trans rfl
      have hfz29_0 := blk_frozen BK460.out 0
      have hfz29_1 := blk_frozen BK460.out 1
      have hcz30_0 : w14.cell? ⟨gb467, 0, none⟩ = some (.int .i64 0) := (blk_cell BK467.out 0).trans rfl
      have hcz30_1 : w14.cell? ⟨gb467, 1, none⟩ = some (.int .i64 0) := (blk_cell BK467.out 1).trans rfl
      have hfz30_0 := blk_frozen BK467.out 0
      have hfz30_1 := blk_frozen BK467.out 1
      obtain ⟨Ao31, co31, eo31⟩ := Kd.R_slice HO457.out
      subst eo31
      obtain ⟨Ao32, co32, eo32⟩ := Kd.R_slice HO464.out
      subst eo32
      go_wp2
      go_meet
      case rel => exact ⟨_, (true), (by first | rfl | (simp; done) | (simp [*]; done) | (simp [i64_w, i32_w, IntKind.wrap_u8]; done) | (simp [*, i64_w, i32_w, IntKind.wrap_u8]; done)), H', ⟨by first | omega | exact Nat.le_refl _⟩, ⟨by (with_reducible repeat (first | apply Kd.R_alloc | apply Kd.R_drewN | apply Kd.R_drew)); exact Kd.R_mono (Kd.R_far (p := ⟨gb467, 1, none⟩) (Kd.R_far (p := ⟨gb467, 0, none⟩) (Kd.R_types HO457.out BK467.out (by decide)) (fun _ hk => hk.2) (.int .i64 t465)) (fun _ hk => hk.2) (.int .i64 t466)) (fun _ hk => hk.1.2)⟩, ⟨by (with_reducible repeat (first | apply Kd.R_alloc | apply Kd.R_drewN | apply Kd.R_drew)); exact Kd.R_mono (Kd.R_far (p := ⟨gb467, 1, none⟩) (Kd.R_far (p := ⟨gb467, 0, none⟩) (Kd.R_types HO464.out BK467.out (by decide)) (fun _ hk => hk.2) (.int .i64 t465)) (fun _ hk => hk.2) (.int .i64 t466)) (fun _ hk => hk.1.2)⟩, ⟨by (with_reducible repeat (first | refine blk_drewN ?_ _ | refine blk_drew ?_ | refine blk_alloc ?_ _)); refine blk_far ?_ NB460_467.out _; (with_reducible repeat (first | refine blk_drewN ?_ _ | refine blk_drew ?_ | refine blk_alloc ?_ _)); refine blk_far ?_ NB460_467.out _; (with_reducible repeat (first | refine blk_drewN ?_ _ | refine blk_drew ?_ | refine blk_alloc ?_ _)); exact BK460.out⟩, ⟨by (with_reducible repeat (first | refine blk_drewN ?_ _ | refine blk_drew ?_ | refine blk_alloc ?_ _)); refine blk_put (cs := #[.int .i64 t465, .int .i64 0]) ?_ 1 _ rfl; (with_reducible repeat (first | refine blk_drewN ?_ _ | refine blk_drew ?_ | refine blk_alloc ?_ _)); refine blk_put (cs := #[.int .i64 0, .int .i64 0]) ?_ 0 _ rfl; (with_reducible repeat (first | refine blk_drewN ?_ _ | refine blk_drew ?_ | refine blk_alloc ?_ _)); exact BK467.out⟩, ⟨by repeat (first | (with_reducible first | exact HB.out | apply below_alloc | apply pw_below_drewN | apply below_drew1 | refine below_set ?_ GE460.out | refine below_set ?_ GE467.out) | exact HB.out)⟩⟩
    ·rw [if_neg c19] at H
     have c19b0 : ((t455.length : Int) == 1) = false := beq_eq_false_iff_ne.mpr c19
     have c19b1 : ((t455.length : Int) != 1) = true := bne_iff_ne.mpr c19
     have H' := Aside0.mk H
     clear H
     have hnb33 := NB460_467.out
     have hnc33 := NB467_460.out
     have hcz34_0 : w14.cell? ⟨gb460, 0, none⟩ = some (.int .i64 t458) := (blk_cell BK460.out 0).trans rfl
     have hcz34_1 : w14.cell? ⟨gb460, 1, none⟩ = some (.int .i64 t459) := (blk_cell BK460.out 1).trans rfl
     have hfz34_0 := blk_frozen BK460.out 0
     have hfz34_1 := blk_frozen BK460.out 1
     have hcz35_0 : w14.cell? ⟨gb467, 0, none⟩ = some (.int .i64 0) := (blk_cell BK467.out 0).trans rfl
     have hcz35_1 : w14.cell? ⟨gb467, 1, none⟩ = some (.int .i64 0) := (blk_cell BK467.out 1).trans rfl
     have hfz35_0 := blk_frozen BK467.out 0
     have hfz35_1 := blk_frozen BK467.out 1
     obtain ⟨Ao36, co36, eo36⟩ := Kd.R_slice HO457.out
     subst eo36
     go_wp2
     go_meet
     case rel => exact ⟨_, (true), (by first | rfl | (simp; done) | (simp [*]; done) | (simp [i64_w, i32_w, IntKind.wrap_u8]; done) | (simp [*, i64_w, i32_w, IntKind.wrap_u8]; done)), H', ⟨by first | omega | exact Nat.le_refl _⟩, ⟨by (with_reducible repeat (first | apply Kd.R_alloc | apply Kd.R_drewN | apply Kd.R_drew)); exact Kd.R_mono (Kd.R_far (p := ⟨gb467, 1, none⟩) (Kd.R_far (p := ⟨gb467, 0, none⟩) (Kd.R_types HO457.out BK467.out (by decide)) (fun _ hk => hk.2) (.int .i64 t465)) (fun _ hk => hk.2) (.int .i64 t466)) (fun _ hk => hk.1.2)⟩, ⟨by (with_reducible repeat (first | apply Kd.R_alloc | apply Kd.R_drewN | apply Kd.R_drew)); exact Kd.R_mono (Kd.R_far (p := ⟨gb467, 1, none⟩) (Kd.R_far (p := ⟨gb467, 0, none⟩) (Kd.R_types HO464.out BK467.out (by decide)) (fun _ hk => hk.2) (.int .i64 t465)) (fun _ hk => hk.2) (.int .i64 t466)) (fun _ hk => hk.1.2)⟩, ⟨by (with_reducible repeat (first | refine blk_drewN ?_ _ | refine blk_drew ?_ | refine blk_alloc ?_ _)); refine blk_far ?_ NB460_467.out _; (with_reducible repeat (first | refine blk_drewN ?_ _ | refine blk_drew ?_ | refine blk_alloc ?_ _)); refine blk_far ?_ NB460_467.out _; (with_reducible repeat (first | refine blk_drewN ?_ _ | refine blk_drew ?_ | refine blk_alloc ?_ _)); exact BK460.out⟩, ⟨by (with_reducible repeat (first | refine blk_drewN ?_ _ | refine blk_drew ?_ | refine blk_alloc ?_ _)); refine blk_put (cs := #[.int .i64 t465, .int .i64 0]) ?_ 1 _ rfl; (with_reducible repeat (first | refine blk_drewN ?_ _ | refine blk_drew ?_ | refine blk_alloc ?_ _)); refine blk_put (cs := #[.int .i64 0, .int .i64 0]) ?_ 0 _ rfl; (with_reducible repeat (first | refine blk_drewN ?_ _ | refine blk_drew ?_ | refine blk_alloc ?_ _)); exact BK467.out⟩, ⟨by repeat (first | (with_reducible first | exact HB.out | apply below_alloc | apply pw_below_drewN | apply below_drew1 | refine below_set ?_ GE460.out | refine below_set ?_ GE467.out) | exact HB.out)⟩⟩
   ·rw [if_neg c18] at H
    have c18b0 : (t465 == 0) = false := beq_eq_false_iff_ne.mpr c18
    have c18b1 : (t465 != 0) = true := bne_iff_ne.mpr c18
    have H' := Aside0.mk H
    clear H
    have hnb37 := NB460_467.out
    have hnc37 := NB467_460.out
    have hcz38_0 : w14.cell? ⟨gb460, 0, none⟩ = some (.int .i64 t458) := (blk_cell BK460.out 0).trans rfl
    have hcz38_1 : w14.cell? ⟨gb460, 1, none⟩ = some (.int .i64 t459) := (blk_cell BK460.out 1).trans rfl
    have hfz38_0 := blk_frozen BK460.out 0
    have hfz38_1 := blk_frozen BK460.out 1
    have hcz39_0 : w14.cell? ⟨gb467, 0, none⟩ = some (.int .i64 0) := (blk_cell BK467.out 0).trans rfl
    have hcz39_1 : w14.cell? ⟨gb467, 1, none⟩ = some (.int .i64 0) := (blk_cell BK467.out 1).trans rfl
    have hfz39_0 := blk_frozen BK467.out 0
    have hfz39_1 := blk_frozen BK467.out 1
    go_wp2
    go_meet
    case rel => exact ⟨_, (true), (by first | rfl | (simp; done) | (simp [*]; done) | (simp [i64_w, i32_w, IntKind.wrap_u8]; done) | (simp [*, i64_w, i32_w, IntKind.wrap_u8]; done)), H', ⟨by first | omega | exact Nat.le_refl _⟩, ⟨by (with_reducible repeat (first | apply Kd.R_alloc | apply Kd.R_drewN | apply Kd.R_drew)); exact Kd.R_mono (Kd.R_far (p := ⟨gb467, 1, none⟩) (Kd.R_far (p := ⟨gb467, 0, none⟩) (Kd.R_types HO457.out BK467.out (by decide)) (fun _ hk => hk.2) (.int .i64 t465)) (fun _ hk => hk.2) (.int .i64 t466)) (fun _ hk => hk.1.2)⟩, ⟨by (with_reducible repeat (first | apply Kd.R_alloc | apply Kd.R_drewN | apply Kd.R_drew)); exact Kd.R_mono (Kd.R_far (p := ⟨gb467, 1, none⟩) (Kd.R_far (p := ⟨gb467, 0, none⟩) (Kd.R_types HO464.out BK467.out (by decide)) (fun _ hk => hk.2) (.int .i64 t465)) (fun _ hk => hk.2) (.int .i64 t466)) (fun _ hk => hk.1.2)⟩, ⟨by (with_reducible repeat (first | refine blk_drewN ?_ _ | refine blk_drew ?_ | refine blk_alloc ?_ _)); refine blk_far ?_ NB460_467.out _; (with_reducible repeat (first | refine blk_drewN ?_ _ | refine blk_drew ?_ | refine blk_alloc ?_ _)); refine blk_far ?_ NB460_467.out _; (with_reducible repeat (first | refine blk_drewN ?_ _ | refine blk_drew ?_ | refine blk_alloc ?_ _)); exact BK460.out⟩, ⟨by (with_reducible repeat (first | refine blk_drewN ?_ _ | refine blk_drew ?_ | refine blk_alloc ?_ _)); refine blk_put (cs := #[.int .i64 t465, .int .i64 0]) ?_ 1 _ rfl; (with_reducible repeat (first | refine blk_drewN ?_ _ | refine blk_drew ?_ | refine blk_alloc ?_ _)); refine blk_put (cs := #[.int .i64 0, .int .i64 0]) ?_ 0 _ rfl; (with_reducible repeat (first | refine blk_drewN ?_ _ | refine blk_drew ?_ | refine blk_alloc ?_ _)); exact BK467.out⟩, ⟨by repeat (first | (with_reducible first | exact HB.out | apply below_alloc | apply pw_below_drewN | apply below_drew1 | refine below_set ?_ GE460.out | refine below_set ?_ GE467.out) | exact HB.out)⟩⟩
  ·rw [if_neg c17] at H
   have c17b0 : (t458 == 0) = false := beq_eq_false_iff_ne.mpr c17
   have c17b1 : (t458 != 0) = true := bne_iff_ne.mpr c17
   (first | rw [c17b0] | (simp only [i64_w, i32_w]; rw [c17b0]) | skip)
   have H' := Aside0.mk H
   clear H
   have hnb40 := NB460_467.out
   have hnc40 := NB467_460.out
   have hcz41_0 : w14.cell? ⟨gb460, 0, none⟩ = some (.int .i64 t458) := (blk_cell BK460.out 0).trans rfl
   have hcz41_1 : w14.cell? ⟨gb460, 1, none⟩ = some (.int .i64 t459) := (blk_cell BK460.out 1).trans rfl
   have hfz41_0 := blk_frozen BK460.out 0
   have hfz41_1 := blk_frozen BK460.out 1
   go_wp2
   go_meet
   case rel => exact ⟨_, (true), (by first | rfl | (simp; done) | (simp [*]; done) | (simp [i64_w, i32_w, IntKind.wrap_u8]; done) | (simp [*, i64_w, i32_w, IntKind.wrap_u8]; done)), H', ⟨by first | omega | exact Nat.le_refl _⟩, ⟨by (with_reducible repeat (first | apply Kd.R_alloc | apply Kd.R_drewN | apply Kd.R_drew)); exact Kd.R_mono (Kd.R_far (p := ⟨gb467, 1, none⟩) (Kd.R_far (p := ⟨gb467, 0, none⟩) (Kd.R_types HO457.out BK467.out (by decide)) (fun _ hk => hk.2) (.int .i64 t465)) (fun _ hk => hk.2) (.int .i64 t466)) (fun _ hk => hk.1.2)⟩, ⟨by (with_reducible repeat (first | apply Kd.R_alloc | apply Kd.R_drewN | apply Kd.R_drew)); exact Kd.R_mono (Kd.R_far (p := ⟨gb467, 1, none⟩) (Kd.R_far (p := ⟨gb467, 0, none⟩) (Kd.R_types HO464.out BK467.out (by decide)) (fun _ hk => hk.2) (.int .i64 t465)) (fun _ hk => hk.2) (.int .i64 t466)) (fun _ hk => hk.1.2)⟩, ⟨by (with_reducible repeat (first | refine blk_drewN ?_ _ | refine blk_drew ?_ | refine blk_alloc ?_ _)); refine blk_far ?_ NB460_467.out _; (with_reducible repeat (first | refine blk_drewN ?_ _ | refine blk_drew ?_ | refine blk_alloc ?_ _)); refine blk_far ?_ NB460_467.out _; (with_reducible repeat (first | refine blk_drewN ?_ _ | refine blk_drew ?_ | refine blk_alloc ?_ _)); exact BK460.out⟩, ⟨by (with_reducible repeat (first | refine blk_drewN ?_ _ | refine blk_drew ?_ | refine blk_alloc ?_ _)); refine blk_put (cs := #[.int .i64 t465, .int .i64 0]) ?_ 1 _ rfl; (with_reducible repeat (first | refine blk_drewN ?_ _ | refine blk_drew ?_ | refine blk_alloc ?_ _)); refine blk_put (cs := #[.int .i64 0, .int .i64 0]) ?_ 0 _ rfl; (with_reducible repeat (first | refine blk_drewN ?_ _ | refine blk_drew ?_ | refine blk_alloc ?_ _)); exact BK467.out⟩, ⟨by repeat (first | (with_reducible first | exact HB.out | apply below_alloc | apply pw_below_drewN | apply below_drew1 | refine below_set ?_ GE460.out | refine below_set ?_ GE467.out) | exact HB.out)⟩⟩
 case rest =>
  clear HC7
  try clear c1
  try clear c2
  try clear p2
  try clear c3
  try clear c4
  try clear c11
  try clear c14
  try clear c15
  try clear c17
  try clear c17b0
  try clear c17b1
  try clear c18
  try clear c18b0
  try clear c18b1
  try clear c19
  try clear c19b0
  try clear c19b1
  try clear c20
  try clear c20b0
  try clear c20b1
  try clear c22
  try clear c27
  try clear c28
  try clear c33
  try clear c37
  try clear c40
  try clear hcz11_0
  try clear hcz11_1
  try clear hcz16_0
  try clear hcz16_1
  try clear hcz23_0
  try clear hcz23_1
  try clear hcz24_0
  try clear hcz24_1
  try clear hcz29_0
  try clear hcz29_1
  try clear hcz30_0
  try clear hcz30_1
  try clear hcz34_0
  try clear hcz34_1
  try clear hcz35_0
  try clear hcz35_1
  try clear hcz38_0
  try clear hcz38_1
  try clear hcz39_0
  try clear hcz39_1
  try clear hcz41_0
  try clear hcz41_1
  try clear hfz11_0
  try clear hfz11_1
  try clear hfz16_0
  try clear hfz16_1
  try clear hfz23_0
  try clear hfz23_1
  try clear hfz24_0
  try clear hfz24_1
  try clear hfz29_0
  try clear hfz29_1
  try clear hfz30_0
  try clear hfz30_1
  try clear hfz34_0
  try clear hfz34_1
  try clear hfz35_0
  try clear hfz35_1
  try clear hfz38_0
  try clear hfz38_1
  try clear hfz39_0
  try clear hfz39_1
  try clear hfz41_0
  try clear hfz41_1
  obtain ⟨kq, x53_6, rfl, HA, HJ6, HO_6, HO_9, BK460, BK467, HB⟩ := hcut
  cases kq with
  | zero => exact absurd HA.out (by simp [hearsaylaw04_TokensQuoted.j0])
  | succ kj6 =>
   have H := HA.out
   clear HA
   simp only [hearsaylaw04_TokensQuoted.j0] at H
   by_cases c42 : x53_6 = true
   ·subst c42
    have H1 : (some false) = some r := by rw [if_pos rfl] at H; exact H
    clear H
    have H := H1
    clear H1
    obtain rfl := Option.some.inj H
    go_wp2
    go_ret
    exact ⟨by first | rfl | (simp [errW_none, errW_some] <;> rfl) | (simp [*, errW_none, errW_some] <;> rfl), by repeat (first | (with_reducible first | exact HB.out | apply below_alloc | apply pw_below_drewN | apply below_drew1 | refine below_set ?_ GE460.out | refine below_set ?_ GE467.out) | exact HB.out)⟩
   ·replace c42 := Bool.eq_false_iff.mpr c42
    subst c42
    have H1 : (hearsaylaw04_TokensQuoted.l0 kj6 a0 t454 t455 t461 t462 0) = some r := by rw [if_neg (show ¬ (false = true) by decide)] at H; exact H
    clear H
    have H := H1
    clear H1
    have H' := Aside0.mk H
    clear H
    go_wp2
    go_loopg [11] kj6 (fun kq v11 w' => ∃ (x11_2 : Int), v11 = .int .i64 x11_2 ∧ Aside0 (hearsaylaw04_TokensQuoted.l0 kq a0 t454 t455 t461 t462 x11_2 = some r) ∧ Aside0 (kq ≤ kj6) ∧ Aside0 (Kd.R k33 33 w' w.heap.size (fun k_ => some k_ ≠ (v463 : Value).ownBlock) v456 t455) ∧ Aside0 (Kd.R k33 33 w' w.heap.size (fun k_ => some k_ ≠ (v456 : Value).ownBlock) v463 t462) ∧ Aside0 (w'.heap[gb460]? = some (.cells #[.int .i64 t458, .int .i64 t459] 26 (0, 0))) ∧ Aside0 (w'.heap[gb467]? = some (.cells #[.int .i64 t465, .int .i64 t466] 26 (0, 0))) ∧ Aside0 (Below w.heap.size w w'))
    case atStart => exact ⟨(0), (by first | rfl | (simp; done) | (simp [*]; done) | (simp [i64_w, i32_w, IntKind.wrap_u8]; done) | (simp [*, i64_w, i32_w, IntKind.wrap_u8]; done)), H', ⟨Nat.le_refl _⟩, ⟨by (with_reducible repeat (first | apply Kd.R_alloc | apply Kd.R_drewN | apply Kd.R_drew)); exact HO_6.out⟩, ⟨by (with_reducible repeat (first | apply Kd.R_alloc | apply Kd.R_drewN | apply Kd.R_drew)); exact HO_9.out⟩, ⟨by (with_reducible repeat (first | refine blk_drewN ?_ _ | refine blk_drew ?_ | refine blk_alloc ?_ _)); exact BK460.out⟩, ⟨by (with_reducible repeat (first | refine blk_drewN ?_ _ | refine blk_drew ?_ | refine blk_alloc ?_ _)); exact BK467.out⟩, ⟨by repeat (first | (with_reducible first | exact HB.out | apply below_alloc | apply pw_below_drewN | apply below_drew1 | refine below_set ?_ GE460.out | refine below_set ?_ GE467.out) | exact HB.out)⟩⟩
    case round =>
     clear H'
     try clear c1
     try clear c2
     try clear p2
     try clear c3
     try clear c4
     try clear c11
     try clear c14
     try clear c15
     try clear c17
     try clear c17b0
     try clear c17b1
     try clear c18
     try clear c18b0
     try clear c18b1
     try clear c19
     try clear c19b0
     try clear c19b1
     try clear c20
     try clear c20b0
     try clear c20b1
     try clear c22
     try clear c27
     try clear c28
     try clear c33
     try clear c37
     try clear c40
     try clear c42
     try clear hcz11_0
     try clear hcz11_1
     try clear hcz16_0
     try clear hcz16_1
     try clear hcz23_0
     try clear hcz23_1
     try clear hcz24_0
     try clear hcz24_1
     try clear hcz29_0
     try clear hcz29_1
     try clear hcz30_0
     try clear hcz30_1
     try clear hcz34_0
     try clear hcz34_1
     try clear hcz35_0
     try clear hcz35_1
     try clear hcz38_0
     try clear hcz38_1
     try clear hcz39_0
     try clear hcz39_1
     try clear hcz41_0
     try clear hcz41_1
     try clear hfz11_0
     try clear hfz11_1
     try clear hfz16_0
     try clear hfz16_1
     try clear hfz23_0
     try clear hfz23_1
     try clear hfz24_0
     try clear hfz24_1
     try clear hfz29_0
     try clear hfz29_1
     try clear hfz30_0
     try clear hfz30_1
     try clear hfz34_0
     try clear hfz34_1
     try clear hfz35_0
     try clear hfz35_1
     try clear hfz38_0
     try clear hfz38_1
     try clear hfz39_0
     try clear hfz39_1
     try clear hfz41_0
     try clear hfz41_1
     try clear p2
     obtain ⟨x11_2, rfl, HA, HK2, HO_6, HO_9, BK460, BK467, HB⟩ := hrel
     cases gk with
     | zero => exact absurd HA.out (by simp [hearsaylaw04_TokensQuoted.l0])
     | succ k2 =>
      have H := HA.out
      clear HA
      simp only [hearsaylaw04_TokensQuoted.l0] at H
      by_cases c43 : x11_2 < (t461.size : Int)
      ·rw [if_pos c43] at H
       have c43b0 : decide (x11_2 < (t461.size : Int)) = true := decide_eq_true c43
       clear c43
       by_cases c44 : 0 ≤ x11_2
       ·rw [if_pos c44] at H
        have c44b0 : decide (0 ≤ x11_2) = true := decide_eq_true c44
        clear c44
        by_cases c46 : (bt t461 x11_2) < 32
        ·rw [if_pos c46] at H
         have c46b0 : decide ((bt t461 x11_2) < 32) = true := decide_eq_true c46
         clear c46
         obtain rfl := Option.some.inj H
         have p45 : 0 ≤ (x11_2 : Int) := of_decide_eq_true (by first | (with_reducible assumption) | assumption)
         have q45 : x11_2 < (t461.size : Int) := of_decide_eq_true (by first | (with_reducible assumption) | assumption)
         have hx45 := bt_at t461 x11_2
         replace p45 := eq_true p45
         replace q45 := eq_true q45
         go_wp2
         go_ret
         exact ⟨by first | rfl | (simp [errW_none, errW_some] <;> rfl) | (simp [*, errW_none, errW_some] <;> rfl), by repeat (first | (with_reducible first | exact HB.out | apply below_alloc | apply pw_below_drewN | apply below_drew1 | refine below_set ?_ GE460.out | refine below_set ?_ GE467.out) | exact HB.out)⟩
        ·rw [if_neg c46] at H
         have c46b0 : decide ((bt t461 x11_2) < 32) = false := decide_eq_false c46
         clear c46
         by_cases c48 : (bt t461 x11_2) > 126
         ·rw [if_pos c48] at H
          have c48b0 : decide (126 < (bt t461 x11_2)) = true := decide_eq_true c48
          clear c48
          obtain rfl := Option.some.inj H
          have p45 : 0 ≤ (x11_2 : Int) := of_decide_eq_true (by first | (with_reducible assumption) | assumption)
          have q45 : x11_2 < (t461.size : Int) := of_decide_eq_true (by first | (with_reducible assumption) | assumption)
          have hx45 := bt_at t461 x11_2
          replace p45 := eq_true p45
          replace q45 := eq_true q45
          have p47 : 0 ≤ (x11_2 : Int) := of_decide_eq_true (by first | (with_reducible assumption) | assumption)
          have q47 : x11_2 < (t461.size : Int) := of_decide_eq_true (by first | (with_reducible assumption) | assumption)
          have hx47 := bt_at t461 x11_2
          replace p47 := eq_true p47
          replace q47 := eq_true q47
          go_wp2
          go_ret
          exact ⟨by first | rfl | (simp [errW_none, errW_some] <;> rfl) | (simp [*, errW_none, errW_some] <;> rfl), by repeat (first | (with_reducible first | exact HB.out | apply below_alloc | apply pw_below_drewN | apply below_drew1 | refine below_set ?_ GE460.out | refine below_set ?_ GE467.out) | exact HB.out)⟩
         ·rw [if_neg c48] at H
          have c48b0 : decide (126 < (bt t461 x11_2)) = false := decide_eq_false c48
          clear c48
          have H' := Aside0.mk H
          clear H
          have p45 : 0 ≤ (x11_2 : Int) := of_decide_eq_true (by first | (with_reducible assumption) | assumption)
          have q45 : x11_2 < (t461.size : Int) := of_decide_eq_true (by first | (with_reducible assumption) | assumption)
          have hx45 := bt_at t461 x11_2
          replace p45 := eq_true p45
          replace q45 := eq_true q45
          have p47 : 0 ≤ (x11_2 : Int) := of_decide_eq_true (by first | (with_reducible assumption) | assumption)
          have q47 : x11_2 < (t461.size : Int) := of_decide_eq_true (by first | (with_reducible assumption) | assumption)
          have hx47 := bt_at t461 x11_2
          replace p47 := eq_true p47
          replace q47 := eq_true q47
          go_wp2
          go_roundg k2
          case measure => have := HJ6.out; have := HK2.out; omega
          case rel => exact ⟨(wrap64 (x11_2 + 1)), (by first | rfl | (simp; done) | (simp [*]; done) | (simp [i64_w, i32_w, IntKind.wrap_u8]; done) | (simp [*, i64_w, i32_w, IntKind.wrap_u8]; done)), H', ⟨by have := HJ6.out; have := HK2.out; omega⟩, ⟨by (with_reducible repeat (first | apply Kd.R_alloc | apply Kd.R_drewN | apply Kd.R_drew)); exact HO_6.out⟩, ⟨by (with_reducible repeat (first | apply Kd.R_alloc | apply Kd.R_drewN | apply Kd.R_drew)); exact HO_9.out⟩, ⟨by (with_reducible repeat (first | refine blk_drewN ?_ _ | refine blk_drew ?_ | refine blk_alloc ?_ _)); exact BK460.out⟩, ⟨by (with_reducible repeat (first | refine blk_drewN ?_ _ | refine blk_drew ?_ | refine blk_alloc ?_ _)); exact BK467.out⟩, ⟨by repeat (first | (with_reducible first | exact HB.out | apply below_alloc | apply pw_below_drewN | apply below_drew1 | refine below_set ?_ GE460.out | refine below_set ?_ GE467.out) | exact HB.out)⟩⟩
       ·rw [if_neg c44] at H
        exact absurd H (by simp)
      ·rw [if_neg c43] at H
       have c43b0 : decide (x11_2 < (t461.size : Int)) = false := decide_eq_false c43
       clear c43
       by_cases c49 : 0 < (t455.length : Int)
       ·rw [if_pos c49] at H
        have c49b0 : decide (0 < (t455.length : Int)) = true := decide_eq_true c49
        have c49b1 : decide (0 < t455.length) = true := decide_eq_true (by omega)
        clear c49
        replace H := Option.bind_eq_some_iff.mp H
        obtain ⟨⟨t471, t472, t473, t474, t475⟩, A500, H⟩ := H
        replace H : (if (t471 == 3 && (t472.toList == a0.toList && (t473 == 0 && (t474 == 0 && (t475 == 0))))) = true then (if 0 < (t462.length : Int) then ((hearsaylaw04_bare.f ((rd_T33 t462 0).f0) ((rd_T33 t462 0).f1) ((rd_T33 t462 0).f2) ((rd_T33 t462 0).f3) ((rd_T33 t462 0).f4)).bind fun bt477 => (if (bt477.1 == 3 && (bt477.2.1.toList == a0.toList && (bt477.2.2.1 == 0 && (bt477.2.2.2.1 == 0 && (bt477.2.2.2.2 == 0))))) = true then (if ((rd_T33 t455 0).f4) = (t454.size : Int) then (some (decide ((t461.size : Int) ≤ (wrap64 ((wrap64 (4 * (a0.size : Int))) + 2))))) else (some false)) else (some false))) else (none)) else (some false)) = some r := H
        have A50 := Aside0.mk A500
        clear A500
        by_cases c51 : (t471 == 3 && (t472.toList == a0.toList && (t473 == 0 && (t474 == 0 && (t475 == 0))))) = true
        ·rw [if_pos c51] at H
         have c51b0 : (t471 == 3 && (t472.toList == a0.toList && (t473 == 0 && (t474 == 0 && (t475 == 0))))) = true := c51
         (try (have c51b1 : decide (t471 = 3 && (t472.toList == a0.toList && (t473 == 0 && (t474 == 0 && (t475 == 0))))) = true := by simpa using c51))
         (try (have c51b2 : (t471 == 3 && (t472.toList == a0.toList && (t473 == 0 && (t474 == 0 && (t475 == 0))))) = true := by simpa using c51))
         clear c51
         by_cases c52 : 0 < (t462.length : Int)
         ·rw [if_pos c52] at H
          have c52b0 : decide (0 < (t462.length : Int)) = true := decide_eq_true c52
          have c52b1 : decide (0 < t462.length) = true := decide_eq_true (by omega)
          clear c52
          replace H := Option.bind_eq_some_iff.mp H
          obtain ⟨⟨t477, t478, t479, t480, t481⟩, A530, H⟩ := H
          replace H : (if (t477 == 3 && (t478.toList == a0.toList && (t479 == 0 && (t480 == 0 && (t481 == 0))))) = true then (if ((rd_T33 t455 0).f4) = (t454.size : Int) then (some (decide ((t461.size : Int) ≤ (wrap64 ((wrap64 (4 * (a0.size : Int))) + 2))))) else (some false)) else (some false)) = some r := H
          have A53 := Aside0.mk A530
          clear A530
          by_cases c54 : (t477 == 3 && (t478.toList == a0.toList && (t479 == 0 && (t480 == 0 && (t481 == 0))))) = true
          ·rw [if_pos c54] at H
           have c54b0 : (t477 == 3 && (t478.toList == a0.toList && (t479 == 0 && (t480 == 0 && (t481 == 0))))) = true := c54
           (try (have c54b1 : decide (t477 = 3 && (t478.toList == a0.toList && (t479 == 0 && (t480 == 0 && (t481 == 0))))) = true := by simpa using c54))
           (try (have c54b2 : (t477 == 3 && (t478.toList == a0.toList && (t479 == 0 && (t480 == 0 && (t481 == 0))))) = true := by simpa using c54))
           clear c54
           by_cases c55 : ((rd_T33 t455 0).f4) = (t454.size : Int)
           ·rw [if_pos c55] at H
            have c55b0 : (((rd_T33 t455 0).f4) == (t454.size : Int)) = true := beq_iff_eq.mpr c55
            have c55b1 : (((rd_T33 t455 0).f4) != (t454.size : Int)) = false := bne_eq_false_iff_eq.mpr c55
            clear c55
            obtain rfl := Option.some.inj H
            try go_wp2_with (first | ((with_reducible refine gate_dst (N := 12) rfl ?_); (try (refine gate_guard (by rfl) ?_; dsimp only)); refine box_event ?hg (N := 12) ?hd (cs := #[.int .i64 0, .string (⟨#[]⟩ : ByteArray), .int .i64 0, .int .i64 0, .int .i64 0]) (t := 33) ?hr ?_; (case hd => rfl); (case hg => rfl); (case hr => first | (go_simp; done) | (go_simp; rfl)); intro gb469 hg w56 hbox hb; have n0_ := Aside0.mk (Kd.R_below (Kd.R_elderB (by (with_reducible repeat (first | apply Kd.R_alloc | apply Kd.R_drewN | apply Kd.R_drew)); exact HO_6.out) gb469 (Nat.le_of_eq hg.symm)) hb); have n1_ := Aside0.mk (Kd.R_below (Kd.R_elderB (by (with_reducible repeat (first | apply Kd.R_alloc | apply Kd.R_drewN | apply Kd.R_drew)); exact HO_9.out) gb469 (Nat.le_of_eq hg.symm)) hb); have n2_ := Aside0.mk (blk_below (g := gb460) (o := .cells #[.int .i64 t458, .int .i64 t459] 26 (0, 0)) (by (with_reducible repeat (first | refine blk_drewN ?_ _ | refine blk_drew ?_ | refine blk_alloc ?_ _)); exact BK460.out) hb); have n3_ := Aside0.mk (blk_below (g := gb467) (o := .cells #[.int .i64 t465, .int .i64 t466] 26 (0, 0)) (by (with_reducible repeat (first | refine blk_drewN ?_ _ | refine blk_drew ?_ | refine blk_alloc ?_ _)); exact BK467.out) hb); have n4_ := Aside0.mk (below_step (by repeat (first | (with_reducible first | exact HB.out | apply below_alloc | apply pw_below_drewN | apply below_drew1 | refine below_set ?_ GE460.out | refine below_set ?_ GE467.out) | exact HB.out)) hb); have n5_ := Aside0.mk (hbox); have n6_ := Aside0.mk ((by rw [hg]; exact (below_size (by repeat (first | (with_reducible first | exact HB.out | apply below_alloc | apply pw_below_drewN | apply below_drew1 | refine below_set ?_ GE460.out | refine below_set ?_ GE467.out) | exact HB.out))) : w.heap.size ≤ gb469)); have n7_ := Aside0.mk ((by rw [hg]; exact (below_size (by repeat (first | (with_reducible first | exact HB.out | apply below_alloc | apply pw_below_drewN | apply below_drew1 | refine below_set ?_ GE460.out | refine below_set ?_ GE467.out) | exact HB.out))) : w.heap.size ≤ gb469)); have n8_ := Aside0.mk ((by rw [hg]; exact Nat.ne_of_lt (blk_lt (g := gb460) (o := .cells #[.int .i64 t458, .int .i64 t459] 26 (0, 0)) (by (with_reducible repeat (first | refine blk_drewN ?_ _ | refine blk_drew ?_ | refine blk_alloc ?_ _)); exact BK460.out)) : gb460 ≠ gb469)); have n9_ := Aside0.mk ((by rw [hg]; exact Nat.ne_of_gt (blk_lt (g := gb460) (o := .cells #[.int .i64 t458, .int .i64 t459] 26 (0, 0)) (by (with_reducible repeat (first | refine blk_drewN ?_ _ | refine blk_drew ?_ | refine blk_alloc ?_ _)); exact BK460.out)) : gb469 ≠ gb460)); have n10_ := Aside0.mk ((by rw [hg]; exact Nat.ne_of_lt (blk_lt (g := gb467) (o := .cells #[.int .i64 t465, .int .i64 t466] 26 (0, 0)) (by (with_reducible repeat (first | refine blk_drewN ?_ _ | refine blk_drew ?_ | refine blk_alloc ?_ _)); exact BK467.out)) : gb467 ≠ gb469)); have n11_ := Aside0.mk ((by rw [hg]; exact Nat.ne_of_gt (blk_lt (g := gb467) (o := .cells #[.int .i64 t465, .int .i64 t466] 26 (0, 0)) (by (with_reducible repeat (first | refine blk_drewN ?_ _ | refine blk_drew ?_ | refine blk_alloc ?_ _)); exact BK467.out)) : gb469 ≠ gb467)); clear HO_6; clear HO_9; clear BK460; clear BK467; clear HB; have HO_6 := n0_; have HO_9 := n1_; have BK460 := n2_; have BK467 := n3_; have HB := n4_; have BK469 := n5_; have GW469 := n6_; have GE469 := n7_; have NB460_469 := n8_; have NB469_460 := n9_; have NB467_469 := n10_; have NB469_467 := n11_; clear n0_ n1_ n2_ n3_ n4_ n5_ n6_ n7_ n8_ n9_ n10_ n11_; clear hb hbox hg; have hnb57 := NB469_460.out; have hnc57 := NB460_469.out; have hnb58 := NB469_467.out; have hnc58 := NB467_469.out; have hcz59_0 : w56.cell? ⟨gb469, 0, none⟩ = some (.int .i64 0) := (blk_cell BK469.out 0).trans rfl; have hcz59_1 : w56.cell? ⟨gb469, 1, none⟩ = some (.string (⟨#[]⟩ : ByteArray)) := (blk_cell BK469.out 1).trans rfl; have hcz59_2 : w56.cell? ⟨gb469, 2, none⟩ = some (.int .i64 0) := (blk_cell BK469.out 2).trans rfl; have hcz59_3 : w56.cell? ⟨gb469, 3, none⟩ = some (.int .i64 0) := (blk_cell BK469.out 3).trans rfl; have hcz59_4 : w56.cell? ⟨gb469, 4, none⟩ = some (.int .i64 0) := (blk_cell BK469.out 4).trans rfl; have hfz59_0 := blk_frozen BK469.out 0; have hfz59_1 := blk_frozen BK469.out 1; have hfz59_2 := blk_frozen BK469.out 2; have hfz59_3 := blk_frozen BK469.out 3; have hfz59_4 := blk_frozen BK469.out 4))
            have n0_ : Aside0 (Kd.R k33 33 (((((w56.setCell ⟨gb469, 0, none⟩ (.int .i64 3)).setCell ⟨gb469, 1, none⟩ (.string a0)).setCell ⟨gb469, 2, none⟩ (.int .i64 0)).setCell ⟨gb469, 3, none⟩ (.int .i64 0)).setCell ⟨gb469, 4, none⟩ (.int .i64 0)) w.heap.size (fun k_ => some k_ ≠ (v463 : Value).ownBlock ∧ k_ ≠ gb469) v456 t455) := ⟨by (with_reducible repeat (first | apply Kd.R_alloc | apply Kd.R_drewN | apply Kd.R_drew)); exact Kd.R_mono (Kd.R_far (p := ⟨gb469, 4, none⟩) (Kd.R_far (p := ⟨gb469, 3, none⟩) (Kd.R_far (p := ⟨gb469, 2, none⟩) (Kd.R_far (p := ⟨gb469, 1, none⟩) (Kd.R_far (p := ⟨gb469, 0, none⟩) (Kd.R_mono HO_6.out (fun k_ hk => (⟨hk, hk.2⟩ : _ ∧ k_ ≠ gb469))) (fun _ hk => hk.2) (.int .i64 3)) (fun _ hk => hk.2) (.string a0)) (fun _ hk => hk.2) (.int .i64 0)) (fun _ hk => hk.2) (.int .i64 0)) (fun _ hk => hk.2) (.int .i64 0)) (fun _ hk => ⟨hk.1.1, hk.1.2⟩)⟩
            have n1_ : Aside0 (Kd.R k33 33 (((((w56.setCell ⟨gb469, 0, none⟩ (.int .i64 3)).setCell ⟨gb469, 1, none⟩ (.string a0)).setCell ⟨gb469, 2, none⟩ (.int .i64 0)).setCell ⟨gb469, 3, none⟩ (.int .i64 0)).setCell ⟨gb469, 4, none⟩ (.int .i64 0)) w.heap.size (fun k_ => some k_ ≠ (v456 : Value).ownBlock ∧ k_ ≠ gb469) v463 t462) := ⟨by (with_reducible repeat (first | apply Kd.R_alloc | apply Kd.R_drewN | apply Kd.R_drew)); exact Kd.R_mono (Kd.R_far (p := ⟨gb469, 4, none⟩) (Kd.R_far (p := ⟨gb469, 3, none⟩) (Kd.R_far (p := ⟨gb469, 2, none⟩) (Kd.R_far (p := ⟨gb469, 1, none⟩) (Kd.R_far (p := ⟨gb469, 0, none⟩) (Kd.R_mono HO_9.out (fun k_ hk => (⟨hk, hk.2⟩ : _ ∧ k_ ≠ gb469))) (fun _ hk => hk.2) (.int .i64 3)) (fun _ hk => hk.2) (.string a0)) (fun _ hk => hk.2) (.int .i64 0)) (fun _ hk => hk.2) (.int .i64 0)) (fun _ hk => hk.2) (.int .i64 0)) (fun _ hk => ⟨hk.1.1, hk.1.2⟩)⟩
            have n2_ : Aside0 ((((((w56.setCell ⟨gb469, 0, none⟩ (.int .i64 3)).setCell ⟨gb469, 1, none⟩ (.string a0)).setCell ⟨gb469, 2, none⟩ (.int .i64 0)).setCell ⟨gb469, 3, none⟩ (.int .i64 0)).setCell ⟨gb469, 4, none⟩ (.int .i64 0)).heap[gb460]? = some (.cells #[.int .i64 t458, .int .i64 t459] 26 (0, 0))) := ⟨by (with_reducible repeat (first | refine blk_drewN ?_ _ | refine blk_drew ?_ | refine blk_alloc ?_ _)); refine blk_far ?_ NB460_469.out _; (with_reducible repeat (first | refine blk_drewN ?_ _ | refine blk_drew ?_ | refine blk_alloc ?_ _)); refine blk_far ?_ NB460_469.out _; (with_reducible repeat (first | refine blk_drewN ?_ _ | refine blk_drew ?_ | refine blk_alloc ?_ _)); refine blk_far ?_ NB460_469.out _; (with_reducible repeat (first | refine blk_drewN ?_ _ | refine blk_drew ?_ | refine blk_alloc ?_ _)); refine blk_far ?_ NB460_469.out _; (with_reducible repeat (first | refine blk_drewN ?_ _ | refine blk_drew ?_ | refine blk_alloc ?_ _)); refine blk_far ?_ NB460_469.out _; (with_reducible repeat (first | refine blk_drewN ?_ _ | refine blk_drew ?_ | refine blk_alloc ?_ _)); exact BK460.out⟩
            have n3_ : Aside0 ((((((w56.setCell ⟨gb469, 0, none⟩ (.int .i64 3)).setCell ⟨gb469, 1, none⟩ (.string a0)).setCell ⟨gb469, 2, none⟩ (.int .i64 0)).setCell ⟨gb469, 3, none⟩ (.int .i64 0)).setCell ⟨gb469, 4, none⟩ (.int .i64 0)).heap[gb467]? = some (.cells #[.int .i64 t465, .int .i64 t466] 26 (0, 0))) := ⟨by (with_reducible repeat (first | refine blk_drewN ?_ _ | refine blk_drew ?_ | refine blk_alloc ?_ _)); refine blk_far ?_ NB467_469.out _; (with_reducible repeat (first | refine blk_drewN ?_ _ | refine blk_drew ?_ | refine blk_alloc ?_ _)); refine blk_far ?_ NB467_469.out _; (with_reducible repeat (first | refine blk_drewN ?_ _ | refine blk_drew ?_ | refine blk_alloc ?_ _)); refine blk_far ?_ NB467_469.out _; (with_reducible repeat (first | refine blk_drewN ?_ _ | refine blk_drew ?_ | refine blk_alloc ?_ _)); refine blk_far ?_ NB467_469.out _; (with_reducible repeat (first | refine blk_drewN ?_ _ | refine blk_drew ?_ | refine blk_alloc ?_ _)); refine blk_far ?_ NB467_469.out _; (with_reducible repeat (first | refine blk_drewN ?_ _ | refine blk_drew ?_ | refine blk_alloc ?_ _)); exact BK467.out⟩
            have n4_ : Aside0 ((((((w56.setCell ⟨gb469, 0, none⟩ (.int .i64 3)).setCell ⟨gb469, 1, none⟩ (.string a0)).setCell ⟨gb469, 2, none⟩ (.int .i64 0)).setCell ⟨gb469, 3, none⟩ (.int .i64 0)).setCell ⟨gb469, 4, none⟩ (.int .i64 0)).heap[gb469]? = some (.cells #[.int .i64 3, .string a0, .int .i64 0, .int .i64 0, .int .i64 0] 33 (0, 0))) := ⟨by (with_reducible repeat (first | refine blk_drewN ?_ _ | refine blk_drew ?_ | refine blk_alloc ?_ _)); refine blk_put (cs := #[.int .i64 3, .string a0, .int .i64 0, .int .i64 0, .int .i64 0]) ?_ 4 _ rfl; (with_reducible repeat (first | refine blk_drewN ?_ _ | refine blk_drew ?_ | refine blk_alloc ?_ _)); refine blk_put (cs := #[.int .i64 3, .string a0, .int .i64 0, .int .i64 0, .int .i64 0]) ?_ 3 _ rfl; (with_reducible repeat (first | refine blk_drewN ?_ _ | refine blk_drew ?_ | refine blk_alloc ?_ _)); refine blk_put (cs := #[.int .i64 3, .string a0, .int .i64 0, .int .i64 0, .int .i64 0]) ?_ 2 _ rfl; (with_reducible repeat (first | refine blk_drewN ?_ _ | refine blk_drew ?_ | refine blk_alloc ?_ _)); refine blk_put (cs := #[.int .i64 3, .string (⟨#[]⟩ : ByteArray), .int .i64 0, .int .i64 0, .int .i64 0]) ?_ 1 _ rfl; (with_reducible repeat (first | refine blk_drewN ?_ _ | refine blk_drew ?_ | refine blk_alloc ?_ _)); refine blk_put (cs := #[.int .i64 0, .string (⟨#[]⟩ : ByteArray), .int .i64 0, .int .i64 0, .int .i64 0]) ?_ 0 _ rfl; (with_reducible repeat (first | refine blk_drewN ?_ _ | refine blk_drew ?_ | refine blk_alloc ?_ _)); exact BK469.out⟩
            have n5_ : Aside0 (Below w.heap.size w (((((w56.setCell ⟨gb469, 0, none⟩ (.int .i64 3)).setCell ⟨gb469, 1, none⟩ (.string a0)).setCell ⟨gb469, 2, none⟩ (.int .i64 0)).setCell ⟨gb469, 3, none⟩ (.int .i64 0)).setCell ⟨gb469, 4, none⟩ (.int .i64 0))) := ⟨by repeat (first | (with_reducible first | exact HB.out | apply below_alloc | apply pw_below_drewN | apply below_drew1 | refine below_set ?_ GE460.out | refine below_set ?_ GE467.out | refine below_set ?_ GE469.out) | exact HB.out)⟩
            (try clear HO_6)
            (try clear HO_9)
            (try clear BK460)
            (try clear BK467)
            (try clear BK469)
            (try clear HB)
            generalize (((((w56.setCell ⟨gb469, 0, none⟩ (.int .i64 3)).setCell ⟨gb469, 1, none⟩ (.string a0)).setCell ⟨gb469, 2, none⟩ (.int .i64 0)).setCell ⟨gb469, 3, none⟩ (.int .i64 0)).setCell ⟨gb469, 4, none⟩ (.int .i64 0)) = w60 at n0_ n1_ n2_ n3_ n4_ n5_ ⊢
            have HO_6 := n0_
            have HO_9 := n1_
            have BK460 := n2_
            have BK467 := n3_
            have BK469 := n4_
            have HB := n5_
            clear n0_ n1_ n2_ n3_ n4_ n5_
            have n0_ := Aside0.mk (Kd.R_drew HO_6.out)
            have n1_ := Aside0.mk (Kd.R_drew HO_9.out)
            have n2_ := Aside0.mk (blk_drew BK460.out)
            have n3_ := Aside0.mk (blk_drew BK467.out)
            have n4_ := Aside0.mk (blk_drew BK469.out)
            have n5_ := Aside0.mk (below_drew1 HB.out)
            clear HO_6
            clear HO_9
            clear BK460
            clear BK467
            clear BK469
            clear HB
            have HO_6 := n0_
            have HO_9 := n1_
            have BK460 := n2_
            have BK467 := n3_
            have BK469 := n4_
            have HB := n5_
            clear n0_ n1_ n2_ n3_ n4_ n5_
            obtain ⟨Ao62, co62, eo62⟩ := Kd.R_slice HO_6.out
            (first | subst eo62 | (injection eo62 with f1_ f2_ f3_; have f4_ := f1_.symm; have f5_ := f3_.symm; clear f1_ f2_ f3_; subst f4_; subst f5_))
            have p470 : 0 ≤ (0 : Int) := (by omega)
            have q470 : 0 < (t455.length : Int) := of_decide_eq_true (by first | (with_reducible assumption) | assumption)
            obtain ⟨ad470, e470, hx470_0, hx470_1, hx470_2, hx470_3, hx470_4⟩ := at_T33 (Kd.R_reads' HO_6.out).2.2 0 p470 q470
            cases e470
            have qi470 : (0 < t455.length) = True := eq_true (by omega)
            (try simp only [show ((0 : Int)).toNat = 0 from rfl, show 0 * 5 = 0 from rfl, Addr.add_zero'] at hx470_0 hx470_1 hx470_2 hx470_3 hx470_4)
            replace p470 := eq_true p470
            replace q470 := eq_true q470
            have p476 : 0 ≤ (0 : Int) := (by omega)
            have q476 : 0 < (t462.length : Int) := of_decide_eq_true (by first | (with_reducible assumption) | assumption)
            obtain ⟨Aoz, coz, eoz⟩ := Kd.R_slice HO_9.out
            subst eoz
            obtain ⟨ad476, e476, hx476_0, hx476_1, hx476_2, hx476_3, hx476_4⟩ := at_T33 (Kd.R_reads' HO_9.out).2.2 0 p476 q476
            cases e476
            have qi476 : (0 < t462.length) = True := eq_true (by omega)
            (try simp only [show ((0 : Int)).toNat = 0 from rfl, show 0 * 5 = 0 from rfl, Addr.add_zero'] at hx476_0 hx476_1 hx476_2 hx476_3 hx476_4)
            replace p476 := eq_true p476
            replace q476 := eq_true q476
            have p482 : 0 ≤ (0 : Int) := (by omega)
            have q482 : 0 < (t455.length : Int) := of_decide_eq_true (by first | (with_reducible assumption) | assumption)
            obtain ⟨ad482, e482, hx482_0, hx482_1, hx482_2, hx482_3, hx482_4⟩ := at_T33 (Kd.R_reads' HO_6.out).2.2 0 p482 q482
            obtain rfl : ad470 = ad482 := (by injection e482)
            have qi482 : (0 < t455.length) = True := eq_true (by omega)
            (try simp only [show ((0 : Int)).toNat = 0 from rfl, show 0 * 5 = 0 from rfl, Addr.add_zero'] at hx482_0 hx482_1 hx482_2 hx482_3 hx482_4)
            replace p482 := eq_true p482
            replace q482 := eq_true q482
            refine start_ (n := 33) (S := fun w' => w'.cell? ⟨gb469, 0, none⟩ = some (.int .i64 3) ∧ w'.cell? ⟨gb469, 1, none⟩ = some (.string a0) ∧ w'.cell? ⟨gb469, 2, none⟩ = some (.int .i64 0) ∧ w'.cell? ⟨gb469, 3, none⟩ = some (.int .i64 0) ∧ w'.cell? ⟨gb469, 4, none⟩ = some (.int .i64 0) ∧ w'.cell? ad470 = some (.int .i64 ((rd_T33 t455 0).f0)) ∧ w'.cell? ⟨ad470.block, ad470.off + 1, none⟩ = some (.string ((rd_T33 t455 0).f1)) ∧ w'.cell? ⟨ad470.block, ad470.off + 2, none⟩ = some (.int .i64 ((rd_T33 t455 0).f2)) ∧ w'.cell? ⟨ad470.block, ad470.off + 3, none⟩ = some (.int .i64 ((rd_T33 t455 0).f3)) ∧ w'.cell? ⟨ad470.block, ad470.off + 4, none⟩ = some (.int .i64 ((rd_T33 t455 0).f4)) ∧ w'.cell? ad476 = some (.int .i64 ((rd_T33 t462 0).f0)) ∧ w'.cell? ⟨ad476.block, ad476.off + 1, none⟩ = some (.string ((rd_T33 t462 0).f1)) ∧ w'.cell? ⟨ad476.block, ad476.off + 2, none⟩ = some (.int .i64 ((rd_T33 t462 0).f2)) ∧ w'.cell? ⟨ad476.block, ad476.off + 3, none⟩ = some (.int .i64 ((rd_T33 t462 0).f3)) ∧ w'.cell? ⟨ad476.block, ad476.off + 4, none⟩ = some (.int .i64 ((rd_T33 t462 0).f4)) ∧ w'.cell? ad470 = some (.int .i64 ((rd_T33 t455 0).f0)) ∧ w'.cell? ⟨ad470.block, ad470.off + 1, none⟩ = some (.string ((rd_T33 t455 0).f1)) ∧ w'.cell? ⟨ad470.block, ad470.off + 2, none⟩ = some (.int .i64 ((rd_T33 t455 0).f2)) ∧ w'.cell? ⟨ad470.block, ad470.off + 3, none⟩ = some (.int .i64 ((rd_T33 t455 0).f3)) ∧ w'.cell? ⟨ad470.block, ad470.off + 4, none⟩ = some (.int .i64 ((rd_T33 t455 0).f4))) (ds := []) #[f_,f_,f_,f_,f_,f_,f_,f_,f_,f_,f_,f_,f_,f_,f_,f_,f_,f_,f_,f_,f_,f_,f_,f_,f_,f_,f_,f_,f_,f_,f_,f_,f_] (by kernel_rfl) rfl rfl ⟨(blk_cell BK469.out 0).trans rfl, (blk_cell BK469.out 1).trans rfl, (blk_cell BK469.out 2).trans rfl, (blk_cell BK469.out 3).trans rfl, (blk_cell BK469.out 4).trans rfl, hx470_0, hx470_1, hx470_2, hx470_3, hx470_4, hx476_0, hx476_1, hx476_2, hx476_3, hx476_4, hx482_0, hx482_1, hx482_2, hx482_3, hx482_4⟩ (fun hHeld => ?_); refine with_tabW hearsaylaw04_TokensQuoted.tab13 hearsaylaw04_TokensQuoted.bits13 (fun HT_ HW_ => ?_)
            generalize w60.drew = w61 at HO_6 HO_9 BK460 BK467 BK469 HB hx470_0 hx470_1 hx470_2 hx470_3 hx470_4 hx476_0 hx476_1 hx476_2 hx476_3 hx476_4 hx482_0 hx482_1 hx482_2 hx482_3 hx482_4 hHeld ⊢
            refine pB_ HT_ 0 72 #[t_,f_,f_,f_,f_,f_,f_,f_,f_,f_,f_,f_,f_,f_,f_,f_,f_,f_,f_,f_,f_,f_,f_,f_,f_,f_,f_,f_,f_,f_,f_,f_,f_] ?_
            refine pB_ HT_ 1 73 #[t_,t_,f_,f_,f_,f_,f_,f_,f_,f_,f_,f_,f_,f_,f_,f_,f_,f_,f_,f_,f_,f_,f_,f_,f_,f_,f_,f_,f_,f_,f_,f_,f_] ?_
            refine take_ (i := 2) (N := some 74) (v := ?_) (a' := ?_) #[t_,t_,t_,f_,f_,f_,f_,f_,f_,f_,f_,f_,f_,f_,f_,f_,f_,f_,f_,f_,f_,f_,f_,f_,f_,f_,f_,f_,f_,f_,f_,f_,f_] rfl rfl (take_ofW HT_.out HW_.out (by kernel_rfl)) (fun _ _ _ h => h) (Or.inl ⟨by rfl, ?_⟩) hHeld ?_ ?_
            rotate_left
            ·rintro w' ⟨s0, s1, s2, s3, s4, s5, s6, s7, s8, s9, s10, s11, s12, s13, s14, s15, s16, s17, s18, s19⟩
             go_simp
             with_reducible rfl
            rotate_left
            ·simp only [Act.put, List.setIfInBounds_toArray, List.set_cons_zero, List.set_cons_succ, i64_w, i32_w]
             rfl
            refine take_ (i := 4) (N := some 76) (v := ?_) (a' := ?_) #[t_,t_,t_,f_,t_,f_,f_,f_,f_,f_,f_,f_,f_,f_,f_,f_,f_,f_,f_,f_,f_,f_,f_,f_,f_,f_,f_,f_,f_,f_,f_,f_,f_] rfl rfl (take_ofW HT_.out HW_.out (by kernel_rfl)) (fun _ _ _ h => h) (Or.inl ⟨by rfl, ?_⟩) hHeld ?_ ?_
            rotate_left
            ·rintro w' ⟨s0, s1, s2, s3, s4, s5, s6, s7, s8, s9, s10, s11, s12, s13, s14, s15, s16, s17, s18, s19⟩
             go_simp
             with_reducible rfl
            rotate_left
            ·simp only [Act.put, List.setIfInBounds_toArray, List.set_cons_zero, List.set_cons_succ, i64_w, i32_w]
             rfl
            refine one_ (i := 3) (N := some 75) #[t_,t_,t_,t_,t_,f_,f_,f_,f_,f_,f_,f_,f_,f_,f_,f_,f_,f_,f_,f_,f_,f_,f_,f_,f_,f_,f_,f_,f_,f_,f_,f_,f_] rfl rfl (one_of HT_.out (by kernel_rfl)) (by decide) (fun K hK => ?_)
            refine goes_ Tryd.func25 (by kernel_rfl) rfl #[.agg #[.int .i64 ((rd_T33 t455 0).f0), .string ((rd_T33 t455 0).f1), .int .i64 ((rd_T33 t455 0).f2), .int .i64 ((rd_T33 t455 0).f3), .int .i64 ((rd_T33 t455 0).f4)]] (by rfl) rfl rfl (by (try simp only [List.map_toArray, List.map_cons, List.map_nil]); first | done | rfl | (simp only [List.length_drop, List.length_take]; rfl) | (simp only [beq_nil_, bne_nil_]; rfl) | (simp only [ByteArray.size_extract, Nat.min_self]; rfl)) ?_
            with_reducible refine (hearsaylaw04_bare.calls ((rd_T33 t455 0).f0) ((rd_T33 t455 0).f1) ((rd_T33 t455 0).f2) ((rd_T33 t455 0).f3) ((rd_T33 t455 0).f4) t471 t472 t473 t474 t475 _ A50.out).mono ?_
            rintro e w63 ⟨rfl, hb⟩
            have HS5_ := (hb.cell (World.block_lt_of_cell? _ _ (hHeld.2.2.2.2.2.1))).trans (hHeld.2.2.2.2.2.1)
            have HS6_ := (hb.cell (World.block_lt_of_cell? _ _ (hHeld.2.2.2.2.2.2.1))).trans (hHeld.2.2.2.2.2.2.1)
            have HS7_ := (hb.cell (World.block_lt_of_cell? _ _ (hHeld.2.2.2.2.2.2.2.1))).trans (hHeld.2.2.2.2.2.2.2.1)
            have HS8_ := (hb.cell (World.block_lt_of_cell? _ _ (hHeld.2.2.2.2.2.2.2.2.1))).trans (hHeld.2.2.2.2.2.2.2.2.1)
            have HS9_ := (hb.cell (World.block_lt_of_cell? _ _ (hHeld.2.2.2.2.2.2.2.2.2.1))).trans (hHeld.2.2.2.2.2.2.2.2.2.1)
            have HS10_ := (hb.cell (World.block_lt_of_cell? _ _ (hHeld.2.2.2.2.2.2.2.2.2.2.1))).trans (hHeld.2.2.2.2.2.2.2.2.2.2.1)
            have HS11_ := (hb.cell (World.block_lt_of_cell? _ _ (hHeld.2.2.2.2.2.2.2.2.2.2.2.1))).trans (hHeld.2.2.2.2.2.2.2.2.2.2.2.1)
            have HS12_ := (hb.cell (World.block_lt_of_cell? _ _ (hHeld.2.2.2.2.2.2.2.2.2.2.2.2.1))).trans (hHeld.2.2.2.2.2.2.2.2.2.2.2.2.1)
            have HS13_ := (hb.cell (World.block_lt_of_cell? _ _ (hHeld.2.2.2.2.2.2.2.2.2.2.2.2.2.1))).trans (hHeld.2.2.2.2.2.2.2.2.2.2.2.2.2.1)
            have HS14_ := (hb.cell (World.block_lt_of_cell? _ _ (hHeld.2.2.2.2.2.2.2.2.2.2.2.2.2.2.1))).trans (hHeld.2.2.2.2.2.2.2.2.2.2.2.2.2.2.1)
            have HS15_ := (hb.cell (World.block_lt_of_cell? _ _ (hHeld.2.2.2.2.2.2.2.2.2.2.2.2.2.2.2.1))).trans (hHeld.2.2.2.2.2.2.2.2.2.2.2.2.2.2.2.1)
            have HS16_ := (hb.cell (World.block_lt_of_cell? _ _ (hHeld.2.2.2.2.2.2.2.2.2.2.2.2.2.2.2.2.1))).trans (hHeld.2.2.2.2.2.2.2.2.2.2.2.2.2.2.2.2.1)
            have HS17_ := (hb.cell (World.block_lt_of_cell? _ _ (hHeld.2.2.2.2.2.2.2.2.2.2.2.2.2.2.2.2.2.1))).trans (hHeld.2.2.2.2.2.2.2.2.2.2.2.2.2.2.2.2.2.1)
            have HS18_ := (hb.cell (World.block_lt_of_cell? _ _ (hHeld.2.2.2.2.2.2.2.2.2.2.2.2.2.2.2.2.2.2.1))).trans (hHeld.2.2.2.2.2.2.2.2.2.2.2.2.2.2.2.2.2.2.1)
            have HS19_ := (hb.cell (World.block_lt_of_cell? _ _ (hHeld.2.2.2.2.2.2.2.2.2.2.2.2.2.2.2.2.2.2.2))).trans (hHeld.2.2.2.2.2.2.2.2.2.2.2.2.2.2.2.2.2.2.2)
            refine ⟨_, rfl, ?_⟩
            have n0_ := Aside0.mk (Kd.R_below (by (with_reducible repeat (first | apply Kd.R_alloc | apply Kd.R_drewN | apply Kd.R_drew)); exact HO_6.out) hb)
            have n1_ := Aside0.mk (Kd.R_below (by (with_reducible repeat (first | apply Kd.R_alloc | apply Kd.R_drewN | apply Kd.R_drew)); exact HO_9.out) hb)
            have n2_ := Aside0.mk (blk_below (g := gb460) (o := .cells #[.int .i64 t458, .int .i64 t459] 26 (0, 0)) (by (with_reducible repeat (first | refine blk_drewN ?_ _ | refine blk_drew ?_ | refine blk_alloc ?_ _)); exact BK460.out) hb)
            have n3_ := Aside0.mk (blk_below (g := gb467) (o := .cells #[.int .i64 t465, .int .i64 t466] 26 (0, 0)) (by (with_reducible repeat (first | refine blk_drewN ?_ _ | refine blk_drew ?_ | refine blk_alloc ?_ _)); exact BK467.out) hb)
            have n4_ := Aside0.mk (blk_below (g := gb469) (o := .cells #[.int .i64 3, .string a0, .int .i64 0, .int .i64 0, .int .i64 0] 33 (0, 0)) (by (with_reducible repeat (first | refine blk_drewN ?_ _ | refine blk_drew ?_ | refine blk_alloc ?_ _)); exact BK469.out) hb)
            have n5_ := Aside0.mk (below_step (by repeat (first | (with_reducible first | exact HB.out | apply below_alloc | apply pw_below_drewN | apply below_drew1 | refine below_set ?_ GE460.out | refine below_set ?_ GE467.out | refine below_set ?_ GE469.out) | exact HB.out)) hb)
            clear HO_6
            clear HO_9
            clear BK460
            clear BK467
            clear BK469
            clear HB
            have HO_6 := n0_
            have HO_9 := n1_
            have BK460 := n2_
            have BK467 := n3_
            have BK469 := n4_
            have HB := n5_
            clear n0_ n1_ n2_ n3_ n4_ n5_
            (try clear hb)
            (try clear hb2)
            (try clear hk)
            (try clear hi)
            obtain ⟨Ao64, co64, eo64⟩ := Kd.R_slice HO_9.out
            (first | subst eo64 | (injection eo64 with f1_ f2_ f3_; have f4_ := f1_.symm; have f5_ := f3_.symm; clear f1_ f2_ f3_; subst f4_; subst f5_))
            refine hK.out _ _ ⟨(blk_cell BK469.out 0).trans rfl, (blk_cell BK469.out 1).trans rfl, (blk_cell BK469.out 2).trans rfl, (blk_cell BK469.out 3).trans rfl, (blk_cell BK469.out 4).trans rfl, HS5_, HS6_, HS7_, HS8_, HS9_, HS10_, HS11_, HS12_, HS13_, HS14_, HS15_, HS16_, HS17_, HS18_, HS19_⟩ (fun hHeld => ?_)
            clear hK K
            refine norm_ (a' := ?_) ?_ ?_
            rotate_left
            ·show Act.put _ (some 75) _ = _
             simp only [Act.put, List.setIfInBounds_toArray, List.set_cons_zero, List.set_cons_succ, i64_w, i32_w]
             rfl
            refine pB_ HT_ 5 77 #[t_,t_,t_,t_,t_,t_,f_,f_,f_,f_,f_,f_,f_,f_,f_,f_,f_,f_,f_,f_,f_,f_,f_,f_,f_,f_,f_,f_,f_,f_,f_,f_,f_] ?_
            refine pB_ HT_ 6 78 #[t_,t_,t_,t_,t_,t_,t_,f_,f_,f_,f_,f_,f_,f_,f_,f_,f_,f_,f_,f_,f_,f_,f_,f_,f_,f_,f_,f_,f_,f_,f_,f_,f_] ?_
            refine pB_ HT_ 7 79 #[t_,t_,t_,t_,t_,t_,t_,t_,f_,f_,f_,f_,f_,f_,f_,f_,f_,f_,f_,f_,f_,f_,f_,f_,f_,f_,f_,f_,f_,f_,f_,f_,f_] ?_
            refine pB_ HT_ 8 80 #[t_,t_,t_,t_,t_,t_,t_,t_,t_,f_,f_,f_,f_,f_,f_,f_,f_,f_,f_,f_,f_,f_,f_,f_,f_,f_,f_,f_,f_,f_,f_,f_,f_] ?_
            refine take_ (i := 9) (N := some 81) (v := ?_) (a' := ?_) #[t_,t_,t_,t_,t_,t_,t_,t_,t_,t_,f_,f_,f_,f_,f_,f_,f_,f_,f_,f_,f_,f_,f_,f_,f_,f_,f_,f_,f_,f_,f_,f_,f_] rfl rfl (take_ofW HT_.out HW_.out (by kernel_rfl)) (fun _ _ _ h => h) (Or.inl ⟨by rfl, ?_⟩) hHeld ?_ ?_
            rotate_left
            ·rintro w' ⟨s0, s1, s2, s3, s4, s5, s6, s7, s8, s9, s10, s11, s12, s13, s14, s15, s16, s17, s18, s19⟩
             go_simp
             with_reducible rfl
            rotate_left
            ·simp only [Act.put, List.setIfInBounds_toArray, List.set_cons_zero, List.set_cons_succ, i64_w, i32_w]
             rfl
            refine take_ (i := 11) (N := some 83) (v := ?_) (a' := ?_) #[t_,t_,t_,t_,t_,t_,t_,t_,t_,t_,f_,t_,f_,f_,f_,f_,f_,f_,f_,f_,f_,f_,f_,f_,f_,f_,f_,f_,f_,f_,f_,f_,f_] rfl rfl (take_ofW HT_.out HW_.out (by kernel_rfl)) (fun _ _ _ h => h) (Or.inl ⟨by rfl, ?_⟩) hHeld ?_ ?_
            rotate_left
            ·rintro w' ⟨s0, s1, s2, s3, s4, s5, s6, s7, s8, s9, s10, s11, s12, s13, s14, s15, s16, s17, s18, s19⟩
             go_simp
             with_reducible rfl
            rotate_left
            ·simp only [Act.put, List.setIfInBounds_toArray, List.set_cons_zero, List.set_cons_succ, i64_w, i32_w]
             rfl
            refine one_ (i := 10) (N := some 82) #[t_,t_,t_,t_,t_,t_,t_,t_,t_,t_,t_,t_,f_,f_,f_,f_,f_,f_,f_,f_,f_,f_,f_,f_,f_,f_,f_,f_,f_,f_,f_,f_,f_] rfl rfl (one_of HT_.out (by kernel_rfl)) (by decide) (fun K hK => ?_)
            refine goes_ Tryd.func25 (by kernel_rfl) rfl #[.agg #[.int .i64 ((rd_T33 t462 0).f0), .string ((rd_T33 t462 0).f1), .int .i64 ((rd_T33 t462 0).f2), .int .i64 ((rd_T33 t462 0).f3), .int .i64 ((rd_T33 t462 0).f4)]] (by rfl) rfl rfl (by (try simp only [List.map_toArray, List.map_cons, List.map_nil]); first | done | rfl | (simp only [List.length_drop, List.length_take]; rfl) | (simp only [beq_nil_, bne_nil_]; rfl) | (simp only [ByteArray.size_extract, Nat.min_self]; rfl)) ?_
            with_reducible refine (hearsaylaw04_bare.calls ((rd_T33 t462 0).f0) ((rd_T33 t462 0).f1) ((rd_T33 t462 0).f2) ((rd_T33 t462 0).f3) ((rd_T33 t462 0).f4) t477 t478 t479 t480 t481 _ A53.out).mono ?_
            rintro e w65 ⟨rfl, hb⟩
            have HS5_ := (hb.cell (World.block_lt_of_cell? _ _ (hHeld.2.2.2.2.2.1))).trans (hHeld.2.2.2.2.2.1)
            have HS6_ := (hb.cell (World.block_lt_of_cell? _ _ (hHeld.2.2.2.2.2.2.1))).trans (hHeld.2.2.2.2.2.2.1)
            have HS7_ := (hb.cell (World.block_lt_of_cell? _ _ (hHeld.2.2.2.2.2.2.2.1))).trans (hHeld.2.2.2.2.2.2.2.1)
            have HS8_ := (hb.cell (World.block_lt_of_cell? _ _ (hHeld.2.2.2.2.2.2.2.2.1))).trans (hHeld.2.2.2.2.2.2.2.2.1)
            have HS9_ := (hb.cell (World.block_lt_of_cell? _ _ (hHeld.2.2.2.2.2.2.2.2.2.1))).trans (hHeld.2.2.2.2.2.2.2.2.2.1)
            have HS10_ := (hb.cell (World.block_lt_of_cell? _ _ (hHeld.2.2.2.2.2.2.2.2.2.2.1))).trans (hHeld.2.2.2.2.2.2.2.2.2.2.1)
            have HS11_ := (hb.cell (World.block_lt_of_cell? _ _ (hHeld.2.2.2.2.2.2.2.2.2.2.2.1))).trans (hHeld.2.2.2.2.2.2.2.2.2.2.2.1)
            have HS12_ := (hb.cell (World.block_lt_of_cell? _ _ (hHeld.2.2.2.2.2.2.2.2.2.2.2.2.1))).trans (hHeld.2.2.2.2.2.2.2.2.2.2.2.2.1)
            have HS13_ := (hb.cell (World.block_lt_of_cell? _ _ (hHeld.2.2.2.2.2.2.2.2.2.2.2.2.2.1))).trans (hHeld.2.2.2.2.2.2.2.2.2.2.2.2.2.1)
            have HS14_ := (hb.cell (World.block_lt_of_cell? _ _ (hHeld.2.2.2.2.2.2.2.2.2.2.2.2.2.2.1))).trans (hHeld.2.2.2.2.2.2.2.2.2.2.2.2.2.2.1)
            have HS15_ := (hb.cell (World.block_lt_of_cell? _ _ (hHeld.2.2.2.2.2.2.2.2.2.2.2.2.2.2.2.1))).trans (hHeld.2.2.2.2.2.2.2.2.2.2.2.2.2.2.2.1)
            have HS16_ := (hb.cell (World.block_lt_of_cell? _ _ (hHeld.2.2.2.2.2.2.2.2.2.2.2.2.2.2.2.2.1))).trans (hHeld.2.2.2.2.2.2.2.2.2.2.2.2.2.2.2.2.1)
            have HS17_ := (hb.cell (World.block_lt_of_cell? _ _ (hHeld.2.2.2.2.2.2.2.2.2.2.2.2.2.2.2.2.2.1))).trans (hHeld.2.2.2.2.2.2.2.2.2.2.2.2.2.2.2.2.2.1)
            have HS18_ := (hb.cell (World.block_lt_of_cell? _ _ (hHeld.2.2.2.2.2.2.2.2.2.2.2.2.2.2.2.2.2.2.1))).trans (hHeld.2.2.2.2.2.2.2.2.2.2.2.2.2.2.2.2.2.2.1)
            have HS19_ := (hb.cell (World.block_lt_of_cell? _ _ (hHeld.2.2.2.2.2.2.2.2.2.2.2.2.2.2.2.2.2.2.2))).trans (hHeld.2.2.2.2.2.2.2.2.2.2.2.2.2.2.2.2.2.2.2)
            refine ⟨_, rfl, ?_⟩
            have n0_ := Aside0.mk (Kd.R_below (by (with_reducible repeat (first | apply Kd.R_alloc | apply Kd.R_drewN | apply Kd.R_drew)); exact HO_6.out) hb)
            have n1_ := Aside0.mk (Kd.R_below (by (with_reducible repeat (first | apply Kd.R_alloc | apply Kd.R_drewN | apply Kd.R_drew)); exact HO_9.out) hb)
            have n2_ := Aside0.mk (blk_below (g := gb460) (o := .cells #[.int .i64 t458, .int .i64 t459] 26 (0, 0)) (by (with_reducible repeat (first | refine blk_drewN ?_ _ | refine blk_drew ?_ | refine blk_alloc ?_ _)); exact BK460.out) hb)
            have n3_ := Aside0.mk (blk_below (g := gb467) (o := .cells #[.int .i64 t465, .int .i64 t466] 26 (0, 0)) (by (with_reducible repeat (first | refine blk_drewN ?_ _ | refine blk_drew ?_ | refine blk_alloc ?_ _)); exact BK467.out) hb)
            have n4_ := Aside0.mk (blk_below (g := gb469) (o := .cells #[.int .i64 3, .string a0, .int .i64 0, .int .i64 0, .int .i64 0] 33 (0, 0)) (by (with_reducible repeat (first | refine blk_drewN ?_ _ | refine blk_drew ?_ | refine blk_alloc ?_ _)); exact BK469.out) hb)
            have n5_ := Aside0.mk (below_step (by repeat (first | (with_reducible first | exact HB.out | apply below_alloc | apply pw_below_drewN | apply below_drew1 | refine below_set ?_ GE460.out | refine below_set ?_ GE467.out | refine below_set ?_ GE469.out) | exact HB.out)) hb)
            clear HO_6
            clear HO_9
            clear BK460
            clear BK467
            clear BK469
            clear HB
            have HO_6 := n0_
            have HO_9 := n1_
            have BK460 := n2_
            have BK467 := n3_
            have BK469 := n4_
            have HB := n5_
            clear n0_ n1_ n2_ n3_ n4_ n5_
            (try clear hb)
            (try clear hb2)
            (try clear hk)
            (try clear hi)
            refine hK.out _ _ ⟨(blk_cell BK469.out 0).trans rfl, (blk_cell BK469.out 1).trans rfl, (blk_cell BK469.out 2).trans rfl, (blk_cell BK469.out 3).trans rfl, (blk_cell BK469.out 4).trans rfl, HS5_, HS6_, HS7_, HS8_, HS9_, HS10_, HS11_, HS12_, HS13_, HS14_, HS15_, HS16_, HS17_, HS18_, HS19_⟩ (fun hHeld => ?_)
            clear hK K
            refine norm_ (a' := ?_) ?_ ?_
            rotate_left
            ·show Act.put _ (some 82) _ = _
             simp only [Act.put, List.setIfInBounds_toArray, List.set_cons_zero, List.set_cons_succ, i64_w, i32_w]
             rfl
            refine pB_ HT_ 12 84 #[t_,t_,t_,t_,t_,t_,t_,t_,t_,t_,t_,t_,t_,f_,f_,f_,f_,f_,f_,f_,f_,f_,f_,f_,f_,f_,f_,f_,f_,f_,f_,f_,f_] ?_
            refine pB_ HT_ 13 85 #[t_,t_,t_,t_,t_,t_,t_,t_,t_,t_,t_,t_,t_,t_,f_,f_,f_,f_,f_,f_,f_,f_,f_,f_,f_,f_,f_,f_,f_,f_,f_,f_,f_] ?_
            refine pB_ HT_ 14 86 #[t_,t_,t_,t_,t_,t_,t_,t_,t_,t_,t_,t_,t_,t_,t_,f_,f_,f_,f_,f_,f_,f_,f_,f_,f_,f_,f_,f_,f_,f_,f_,f_,f_] ?_
            refine pB_ HT_ 15 87 #[t_,t_,t_,t_,t_,t_,t_,t_,t_,t_,t_,t_,t_,t_,t_,t_,f_,f_,f_,f_,f_,f_,f_,f_,f_,f_,f_,f_,f_,f_,f_,f_,f_] ?_
            refine pB_ HT_ 16 88 #[t_,t_,t_,t_,t_,t_,t_,t_,t_,t_,t_,t_,t_,t_,t_,t_,t_,f_,f_,f_,f_,f_,f_,f_,f_,f_,f_,f_,f_,f_,f_,f_,f_] ?_
            refine pB_ HT_ 17 89 #[t_,t_,t_,t_,t_,t_,t_,t_,t_,t_,t_,t_,t_,t_,t_,t_,t_,t_,f_,f_,f_,f_,f_,f_,f_,f_,f_,f_,f_,f_,f_,f_,f_] ?_
            refine pB_ HT_ 19 91 #[t_,t_,t_,t_,t_,t_,t_,t_,t_,t_,t_,t_,t_,t_,t_,t_,t_,t_,f_,t_,f_,f_,f_,f_,f_,f_,f_,f_,f_,f_,f_,f_,f_] ?_
            refine pB_ HT_ 20 92 #[t_,t_,t_,t_,t_,t_,t_,t_,t_,t_,t_,t_,t_,t_,t_,t_,t_,t_,f_,t_,t_,f_,f_,f_,f_,f_,f_,f_,f_,f_,f_,f_,f_] ?_
            refine take_ (i := 18) (N := some 90) (v := ?_) (a' := ?_) #[t_,t_,t_,t_,t_,t_,t_,t_,t_,t_,t_,t_,t_,t_,t_,t_,t_,t_,t_,t_,t_,f_,f_,f_,f_,f_,f_,f_,f_,f_,f_,f_,f_] rfl rfl (take_ofW HT_.out HW_.out (by kernel_rfl)) (fun _ _ _ h => h) (Or.inl ⟨by rfl, ?_⟩) hHeld ?_ ?_
            rotate_left
            ·rintro w' ⟨s0, s1, s2, s3, s4, s5, s6, s7, s8, s9, s10, s11, s12, s13, s14, s15, s16, s17, s18, s19⟩
             go_simp
             with_reducible rfl
            rotate_left
            ·simp only [Act.put, List.setIfInBounds_toArray, List.set_cons_zero, List.set_cons_succ, i64_w, i32_w]
             rfl
            refine pB_ HT_ 21 93 #[t_,t_,t_,t_,t_,t_,t_,t_,t_,t_,t_,t_,t_,t_,t_,t_,t_,t_,t_,t_,t_,t_,f_,f_,f_,f_,f_,f_,f_,f_,f_,f_,f_] ?_
            refine pB_ HT_ 22 94 #[t_,t_,t_,t_,t_,t_,t_,t_,t_,t_,t_,t_,t_,t_,t_,t_,t_,t_,t_,t_,t_,t_,t_,f_,f_,f_,f_,f_,f_,f_,f_,f_,f_] ?_
            refine pB_ HT_ 23 95 #[t_,t_,t_,t_,t_,t_,t_,t_,t_,t_,t_,t_,t_,t_,t_,t_,t_,t_,t_,t_,t_,t_,t_,t_,f_,f_,f_,f_,f_,f_,f_,f_,f_] ?_
            refine pB_ HT_ 24 96 #[t_,t_,t_,t_,t_,t_,t_,t_,t_,t_,t_,t_,t_,t_,t_,t_,t_,t_,t_,t_,t_,t_,t_,t_,t_,f_,f_,f_,f_,f_,f_,f_,f_] ?_
            refine pB_ HT_ 25 97 #[t_,t_,t_,t_,t_,t_,t_,t_,t_,t_,t_,t_,t_,t_,t_,t_,t_,t_,t_,t_,t_,t_,t_,t_,t_,t_,f_,f_,f_,f_,f_,f_,f_] ?_
            refine pB_ HT_ 26 98 #[t_,t_,t_,t_,t_,t_,t_,t_,t_,t_,t_,t_,t_,t_,t_,t_,t_,t_,t_,t_,t_,t_,t_,t_,t_,t_,t_,f_,f_,f_,f_,f_,f_] ?_
            refine pB_ HT_ 27 99 #[t_,t_,t_,t_,t_,t_,t_,t_,t_,t_,t_,t_,t_,t_,t_,t_,t_,t_,t_,t_,t_,t_,t_,t_,t_,t_,t_,t_,f_,f_,f_,f_,f_] ?_
            refine pB_ HT_ 28 100 #[t_,t_,t_,t_,t_,t_,t_,t_,t_,t_,t_,t_,t_,t_,t_,t_,t_,t_,t_,t_,t_,t_,t_,t_,t_,t_,t_,t_,t_,f_,f_,f_,f_] ?_
            refine pB_ HT_ 29 101 #[t_,t_,t_,t_,t_,t_,t_,t_,t_,t_,t_,t_,t_,t_,t_,t_,t_,t_,t_,t_,t_,t_,t_,t_,t_,t_,t_,t_,t_,t_,f_,f_,f_] ?_
            refine pB_ HT_ 30 102 #[t_,t_,t_,t_,t_,t_,t_,t_,t_,t_,t_,t_,t_,t_,t_,t_,t_,t_,t_,t_,t_,t_,t_,t_,t_,t_,t_,t_,t_,t_,t_,f_,f_] ?_
            refine pB_ HT_ 31 103 #[t_,t_,t_,t_,t_,t_,t_,t_,t_,t_,t_,t_,t_,t_,t_,t_,t_,t_,t_,t_,t_,t_,t_,t_,t_,t_,t_,t_,t_,t_,t_,t_,f_] ?_
            refine pB_ HT_ 32 4 #[t_,t_,t_,t_,t_,t_,t_,t_,t_,t_,t_,t_,t_,t_,t_,t_,t_,t_,t_,t_,t_,t_,t_,t_,t_,t_,t_,t_,t_,t_,t_,t_,t_] ?_
            refine done_ (done_of HT_.out (by kernel_rfl)) ?_
            try go_wp2
            go_ret
            exact ⟨by first | rfl | (simp [errW_none, errW_some] <;> rfl) | (simp [*, errW_none, errW_some] <;> rfl), by repeat (first | (with_reducible first | exact HB.out | apply below_alloc | apply pw_below_drewN | apply below_drew1 | refine below_set ?_ GE460.out | refine below_set ?_ GE467.out | refine below_set ?_ GE469.out) | exact HB.out)⟩
           ·rw [if_neg c55] at H
            have c55b0 : (((rd_T33 t455 0).f4) == (t454.size : Int)) = false := beq_eq_false_iff_ne.mpr c55
            have c55b1 : (((rd_T33 t455 0).f4) != (t454.size : Int)) = true := bne_iff_ne.mpr c55
            obtain rfl := Option.some.inj H
            try go_wp2_with (first | ((with_reducible refine gate_dst (N := 12) rfl ?_); (try (refine gate_guard (by rfl) ?_; dsimp only)); refine box_event ?hg (N := 12) ?hd (cs := #[.int .i64 0, .string (⟨#[]⟩ : ByteArray), .int .i64 0, .int .i64 0, .int .i64 0]) (t := 33) ?hr ?_; (case hd => rfl); (case hg => rfl); (case hr => first | (go_simp; done) | (go_simp; rfl)); intro gb469 hg w66 hbox hb; have n0_ := Aside0.mk (Kd.R_below (Kd.R_elderB (by (with_reducible repeat (first | apply Kd.R_alloc | apply Kd.R_drewN | apply Kd.R_drew)); exact HO_6.out) gb469 (Nat.le_of_eq hg.symm)) hb); have n1_ := Aside0.mk (Kd.R_below (Kd.R_elderB (by (with_reducible repeat (first | apply Kd.R_alloc | apply Kd.R_drewN | apply Kd.R_drew)); exact HO_9.out) gb469 (Nat.le_of_eq hg.symm)) hb); have n2_ := Aside0.mk (blk_below (g := gb460) (o := .cells #[.int .i64 t458, .int .i64 t459] 26 (0, 0)) (by (with_reducible repeat (first | refine blk_drewN ?_ _ | refine blk_drew ?_ | refine blk_alloc ?_ _)); exact BK460.out) hb); have n3_ := Aside0.mk (blk_below (g := gb467) (o := .cells #[.int .i64 t465, .int .i64 t466] 26 (0, 0)) (by (with_reducible repeat (first | refine blk_drewN ?_ _ | refine blk_drew ?_ | refine blk_alloc ?_ _)); exact BK467.out) hb); have n4_ := Aside0.mk (below_step (by repeat (first | (with_reducible first | exact HB.out | apply below_alloc | apply pw_below_drewN | apply below_drew1 | refine below_set ?_ GE460.out | refine below_set ?_ GE467.out) | exact HB.out)) hb); have n5_ := Aside0.mk (hbox); have n6_ := Aside0.mk ((by rw [hg]; exact (below_size (by repeat (first | (with_reducible first | exact HB.out | apply below_alloc | apply pw_below_drewN | apply below_drew1 | refine below_set ?_ GE460.out | refine below_set ?_ GE467.out) | exact HB.out))) : w.heap.size ≤ gb469)); have n7_ := Aside0.mk ((by rw [hg]; exact (below_size (by repeat (first | (with_reducible first | exact HB.out | apply below_alloc | apply pw_below_drewN | apply below_drew1 | refine below_set ?_ GE460.out | refine below_set ?_ GE467.out) | exact HB.out))) : w.heap.size ≤ gb469)); have n8_ := Aside0.mk ((by rw [hg]; exact Nat.ne_of_lt (blk_lt (g := gb460) (o := .cells #[.int .i64 t458, .int .i64 t459] 26 (0, 0)) (by (with_reducible repeat (first | refine blk_drewN ?_ _ | refine blk_drew ?_ | refine blk_alloc ?_ _)); exact BK460.out)) : gb460 ≠ gb469)); have n9_ := Aside0.mk ((by rw [hg]; exact Nat.ne_of_gt (blk_lt (g := gb460) (o := .cells #[.int .i64 t458, .int .i64 t459] 26 (0, 0)) (by (with_reducible repeat (first | refine blk_drewN ?_ _ | refine blk_drew ?_ | refine blk_alloc ?_ _)); exact BK460.out)) : gb469 ≠ gb460)); have n10_ := Aside0.mk ((by rw [hg]; exact Nat.ne_of_lt (blk_lt (g := gb467) (o := .cells #[.int .i64 t465, .int .i64 t466] 26 (0, 0)) (by (with_reducible repeat (first | refine blk_drewN ?_ _ | refine blk_drew ?_ | refine blk_alloc ?_ _)); exact BK467.out)) : gb467 ≠ gb469)); have n11_ := Aside0.mk ((by rw [hg]; exact Nat.ne_of_gt (blk_lt (g := gb467) (o := .cells #[.int .i64 t465, .int .i64 t466] 26 (0, 0)) (by (with_reducible repeat (first | refine blk_drewN ?_ _ | refine blk_drew ?_ | refine blk_alloc ?_ _)); exact BK467.out)) : gb469 ≠ gb467)); clear HO_6; clear HO_9; clear BK460; clear BK467; clear HB; have HO_6 := n0_; have HO_9 := n1_; have BK460 := n2_; have BK467 := n3_; have HB := n4_; have BK469 := n5_; have GW469 := n6_; have GE469 := n7_; have NB460_469 := n8_; have NB469_460 := n9_; have NB467_469 := n10_; have NB469_467 := n11_; clear n0_ n1_ n2_ n3_ n4_ n5_ n6_ n7_ n8_ n9_ n10_ n11_; clear hb hbox hg; have hnb67 := NB469_460.out; have hnc67 := NB460_469.out; have hnb68 := NB469_467.out; have hnc68 := NB467_469.out; have hcz69_0 : w66.cell? ⟨gb469, 0, none⟩ = some (.int .i64 0) := (blk_cell BK469.out 0).trans rfl; have hcz69_1 : w66.cell? ⟨gb469, 1, none⟩ = some (.string (⟨#[]⟩ : ByteArray)) := (blk_cell BK469.out 1).trans rfl; have hcz69_2 : w66.cell? ⟨gb469, 2, none⟩ = some (.int .i64 0) := (blk_cell BK469.out 2).trans rfl; have hcz69_3 : w66.cell? ⟨gb469, 3, none⟩ = some (.int .i64 0) := (blk_cell BK469.out 3).trans rfl; have hcz69_4 : w66.cell? ⟨gb469, 4, none⟩ = some (.int .i64 0) := (blk_cell BK469.out 4).trans rfl; have hfz69_0 := blk_frozen BK469.out 0; have hfz69_1 := blk_frozen BK469.out 1; have hfz69_2 := blk_frozen BK469.out 2; have hfz69_3 := blk_frozen BK469.out 3; have hfz69_4 := blk_frozen BK469.out 4))
            have n0_ : Aside0 (Kd.R k33 33 (((((w66.setCell ⟨gb469, 0, none⟩ (.int .i64 3)).setCell ⟨gb469, 1, none⟩ (.string a0)).setCell ⟨gb469, 2, none⟩ (.int .i64 0)).setCell ⟨gb469, 3, none⟩ (.int .i64 0)).setCell ⟨gb469, 4, none⟩ (.int .i64 0)) w.heap.size (fun k_ => some k_ ≠ (v463 : Value).ownBlock ∧ k_ ≠ gb469) v456 t455) := ⟨by (with_reducible repeat (first | apply Kd.R_alloc | apply Kd.R_drewN | apply Kd.R_drew)); exact Kd.R_mono (Kd.R_far (p := ⟨gb469, 4, none⟩) (Kd.R_far (p := ⟨gb469, 3, none⟩) (Kd.R_far (p := ⟨gb469, 2, none⟩) (Kd.R_far (p := ⟨gb469, 1, none⟩) (Kd.R_far (p := ⟨gb469, 0, none⟩) (Kd.R_mono HO_6.out (fun k_ hk => (⟨hk, hk.2⟩ : _ ∧ k_ ≠ gb469))) (fun _ hk => hk.2) (.int .i64 3)) (fun _ hk => hk.2) (.string a0)) (fun _ hk => hk.2) (.int .i64 0)) (fun _ hk => hk.2) (.int .i64 0)) (fun _ hk => hk.2) (.int .i64 0)) (fun _ hk => ⟨hk.1.1, hk.1.2⟩)⟩
            have n1_ : Aside0 (Kd.R k33 33 (((((w66.setCell ⟨gb469, 0, none⟩ (.int .i64 3)).setCell ⟨gb469, 1, none⟩ (.string a0)).setCell ⟨gb469, 2, none⟩ (.int .i64 0)).setCell ⟨gb469, 3, none⟩ (.int .i64 0)).setCell ⟨gb469, 4, none⟩ (.int .i64 0)) w.heap.size (fun k_ => some k_ ≠ (v456 : Value).ownBlock ∧ k_ ≠ gb469) v463 t462) := ⟨by (with_reducible repeat (first | apply Kd.R_alloc | apply Kd.R_drewN | apply Kd.R_drew)); exact Kd.R_mono (Kd.R_far (p := ⟨gb469, 4, none⟩) (Kd.R_far (p := ⟨gb469, 3, none⟩) (Kd.R_far (p := ⟨gb469, 2, none⟩) (Kd.R_far (p := ⟨gb469, 1, none⟩) (Kd.R_far (p := ⟨gb469, 0, none⟩) (Kd.R_mono HO_9.out (fun k_ hk => (⟨hk, hk.2⟩ : _ ∧ k_ ≠ gb469))) (fun _ hk => hk.2) (.int .i64 3)) (fun _ hk => hk.2) (.string a0)) (fun _ hk => hk.2) (.int .i64 0)) (fun _ hk => hk.2) (.int .i64 0)) (fun _ hk => hk.2) (.int .i64 0)) (fun _ hk => ⟨hk.1.1, hk.1.2⟩)⟩
            have n2_ : Aside0 ((((((w66.setCell ⟨gb469, 0, none⟩ (.int .i64 3)).setCell ⟨gb469, 1, none⟩ (.string a0)).setCell ⟨gb469, 2, none⟩ (.int .i64 0)).setCell ⟨gb469, 3, none⟩ (.int .i64 0)).setCell ⟨gb469, 4, none⟩ (.int .i64 0)).heap[gb460]? = some (.cells #[.int .i64 t458, .int .i64 t459] 26 (0, 0))) := ⟨by (with_reducible repeat (first | refine blk_drewN ?_ _ | refine blk_drew ?_ | refine blk_alloc ?_ _)); refine blk_far ?_ NB460_469.out _; (with_reducible repeat (first | refine blk_drewN ?_ _ | refine blk_drew ?_ | refine blk_alloc ?_ _)); refine blk_far ?_ NB460_469.out _; (with_reducible repeat (first | refine blk_drewN ?_ _ | refine blk_drew ?_ | refine blk_alloc ?_ _)); refine blk_far ?_ NB460_469.out _; (with_reducible repeat (first | refine blk_drewN ?_ _ | refine blk_drew ?_ | refine blk_alloc ?_ _)); refine blk_far ?_ NB460_469.out _; (with_reducible repeat (first | refine blk_drewN ?_ _ | refine blk_drew ?_ | refine blk_alloc ?_ _)); refine blk_far ?_ NB460_469.out _; (with_reducible repeat (first | refine blk_drewN ?_ _ | refine blk_drew ?_ | refine blk_alloc ?_ _)); exact BK460.out⟩
            have n3_ : Aside0 ((((((w66.setCell ⟨gb469, 0, none⟩ (.int .i64 3)).setCell ⟨gb469, 1, none⟩ (.string a0)).setCell ⟨gb469, 2, none⟩ (.int .i64 0)).setCell ⟨gb469, 3, none⟩ (.int .i64 0)).setCell ⟨gb469, 4, none⟩ (.int .i64 0)).heap[gb467]? = some (.cells #[.int .i64 t465, .int .i64 t466] 26 (0, 0))) := ⟨by (with_reducible repeat (first | refine blk_drewN ?_ _ | refine blk_drew ?_ | refine blk_alloc ?_ _)); refine blk_far ?_ NB467_469.out _; (with_reducible repeat (first | refine blk_drewN ?_ _ | refine blk_drew ?_ | refine blk_alloc ?_ _)); refine blk_far ?_ NB467_469.out _; (with_reducible repeat (first | refine blk_drewN ?_ _ | refine blk_drew ?_ | refine blk_alloc ?_ _)); refine blk_far ?_ NB467_469.out _; (with_reducible repeat (first | refine blk_drewN ?_ _ | refine blk_drew ?_ | refine blk_alloc ?_ _)); refine blk_far ?_ NB467_469.out _; (with_reducible repeat (first | refine blk_drewN ?_ _ | refine blk_drew ?_ | refine blk_alloc ?_ _)); refine blk_far ?_ NB467_469.out _; (with_reducible repeat (first | refine blk_drewN ?_ _ | refine blk_drew ?_ | refine blk_alloc ?_ _)); exact BK467.out⟩
            have n4_ : Aside0 ((((((w66.setCell ⟨gb469, 0, none⟩ (.int .i64 3)).setCell ⟨gb469, 1, none⟩ (.string a0)).setCell ⟨gb469, 2, none⟩ (.int .i64 0)).setCell ⟨gb469, 3, none⟩ (.int .i64 0)).setCell ⟨gb469, 4, none⟩ (.int .i64 0)).heap[gb469]? = some (.cells #[.int .i64 3, .string a0, .int .i64 0, .int .i64 0, .int .i64 0] 33 (0, 0))) := ⟨by (with_reducible repeat (first | refine blk_drewN ?_ _ | refine blk_drew ?_ | refine blk_alloc ?_ _)); refine blk_put (cs := #[.int .i64 3, .string a0, .int .i64 0, .int .i64 0, .int .i64 0]) ?_ 4 _ rfl; (with_reducible repeat (first | refine blk_drewN ?_ _ | refine blk_drew ?_ | refine blk_alloc ?_ _)); refine blk_put (cs := #[.int .i64 3, .string a0, .int .i64 0, .int .i64 0, .int .i64 0]) ?_ 3 _ rfl; (with_reducible repeat (first | refine blk_drewN ?_ _ | refine blk_drew ?_ | refine blk_alloc ?_ _)); refine blk_put (cs := #[.int .i64 3, .string a0, .int .i64 0, .int .i64 0, .int .i64 0]) ?_ 2 _ rfl; (with_reducible repeat (first | refine blk_drewN ?_ _ | refine blk_drew ?_ | refine blk_alloc ?_ _)); refine blk_put (cs := #[.int .i64 3, .string (⟨#[]⟩ : ByteArray), .int .i64 0, .int .i64 0, .int .i64 0]) ?_ 1 _ rfl; (with_reducible repeat (first | refine blk_drewN ?_ _ | refine blk_drew ?_ | refine blk_alloc ?_ _)); refine blk_put (cs := #[.int .i64 0, .string (⟨#[]⟩ : ByteArray), .int .i64 0, .int .i64 0, .int .i64 0]) ?_ 0 _ rfl; (with_reducible repeat (first | refine blk_drewN ?_ _ | refine blk_drew ?_ | refine blk_alloc ?_ _)); exact BK469.out⟩
            have n5_ : Aside0 (Below w.heap.size w (((((w66.setCell ⟨gb469, 0, none⟩ (.int .i64 3)).setCell ⟨gb469, 1, none⟩ (.string a0)).setCell ⟨gb469, 2, none⟩ (.int .i64 0)).setCell ⟨gb469, 3, none⟩ (.int .i64 0)).setCell ⟨gb469, 4, none⟩ (.int .i64 0))) := ⟨by repeat (first | (with_reducible first | exact HB.out | apply below_alloc | apply pw_below_drewN | apply below_drew1 | refine below_set ?_ GE460.out | refine below_set ?_ GE467.out | refine below_set ?_ GE469.out) | exact HB.out)⟩
            (try clear HO_6)
            (try clear HO_9)
            (try clear BK460)
            (try clear BK467)
            (try clear BK469)
            (try clear HB)
            generalize (((((w66.setCell ⟨gb469, 0, none⟩ (.int .i64 3)).setCell ⟨gb469, 1, none⟩ (.string a0)).setCell ⟨gb469, 2, none⟩ (.int .i64 0)).setCell ⟨gb469, 3, none⟩ (.int .i64 0)).setCell ⟨gb469, 4, none⟩ (.int .i64 0)) = w70 at n0_ n1_ n2_ n3_ n4_ n5_ ⊢
            have HO_6 := n0_
            have HO_9 := n1_
            have BK460 := n2_
            have BK467 := n3_
            have BK469 := n4_
            have HB := n5_
            clear n0_ n1_ n2_ n3_ n4_ n5_
            have n0_ := Aside0.mk (Kd.R_drew HO_6.out)
            have n1_ := Aside0.mk (Kd.R_drew HO_9.out)
            have n2_ := Aside0.mk (blk_drew BK460.out)
            have n3_ := Aside0.mk (blk_drew BK467.out)
            have n4_ := Aside0.mk (blk_drew BK469.out)
            have n5_ := Aside0.mk (below_drew1 HB.out)
            clear HO_6
            clear HO_9
            clear BK460
            clear BK467
            clear BK469
            clear HB
            have HO_6 := n0_
            have HO_9 := n1_
            have BK460 := n2_
            have BK467 := n3_
            have BK469 := n4_
            have HB := n5_
            clear n0_ n1_ n2_ n3_ n4_ n5_
            obtain ⟨Ao72, co72, eo72⟩ := Kd.R_slice HO_6.out
            (first | subst eo72 | (injection eo72 with f1_ f2_ f3_; have f4_ := f1_.symm; have f5_ := f3_.symm; clear f1_ f2_ f3_; subst f4_; subst f5_))
            have p470 : 0 ≤ (0 : Int) := (by omega)
            have q470 : 0 < (t455.length : Int) := of_decide_eq_true (by first | (with_reducible assumption) | assumption)
            obtain ⟨ad470, e470, hx470_0, hx470_1, hx470_2, hx470_3, hx470_4⟩ := at_T33 (Kd.R_reads' HO_6.out).2.2 0 p470 q470
            cases e470
            have qi470 : (0 < t455.length) = True := eq_true (by omega)
            (try simp only [show ((0 : Int)).toNat = 0 from rfl, show 0 * 5 = 0 from rfl, Addr.add_zero'] at hx470_0 hx470_1 hx470_2 hx470_3 hx470_4)
            replace p470 := eq_true p470
            replace q470 := eq_true q470
            have p476 : 0 ≤ (0 : Int) := (by omega)
            have q476 : 0 < (t462.length : Int) := of_decide_eq_true (by first | (with_reducible assumption) | assumption)
            obtain ⟨Aoz, coz, eoz⟩ := Kd.R_slice HO_9.out
            subst eoz
            obtain ⟨ad476, e476, hx476_0, hx476_1, hx476_2, hx476_3, hx476_4⟩ := at_T33 (Kd.R_reads' HO_9.out).2.2 0 p476 q476
            cases e476
            have qi476 : (0 < t462.length) = True := eq_true (by omega)
            (try simp only [show ((0 : Int)).toNat = 0 from rfl, show 0 * 5 = 0 from rfl, Addr.add_zero'] at hx476_0 hx476_1 hx476_2 hx476_3 hx476_4)
            replace p476 := eq_true p476
            replace q476 := eq_true q476
            have p482 : 0 ≤ (0 : Int) := (by omega)
            have q482 : 0 < (t455.length : Int) := of_decide_eq_true (by first | (with_reducible assumption) | assumption)
            obtain ⟨ad482, e482, hx482_0, hx482_1, hx482_2, hx482_3, hx482_4⟩ := at_T33 (Kd.R_reads' HO_6.out).2.2 0 p482 q482
            obtain rfl : ad470 = ad482 := (by injection e482)
            have qi482 : (0 < t455.length) = True := eq_true (by omega)
            (try simp only [show ((0 : Int)).toNat = 0 from rfl, show 0 * 5 = 0 from rfl, Addr.add_zero'] at hx482_0 hx482_1 hx482_2 hx482_3 hx482_4)
            replace p482 := eq_true p482
            replace q482 := eq_true q482
            refine start_ (n := 33) (S := fun w' => w'.cell? ⟨gb469, 0, none⟩ = some (.int .i64 3) ∧ w'.cell? ⟨gb469, 1, none⟩ = some (.string a0) ∧ w'.cell? ⟨gb469, 2, none⟩ = some (.int .i64 0) ∧ w'.cell? ⟨gb469, 3, none⟩ = some (.int .i64 0) ∧ w'.cell? ⟨gb469, 4, none⟩ = some (.int .i64 0) ∧ w'.cell? ad470 = some (.int .i64 ((rd_T33 t455 0).f0)) ∧ w'.cell? ⟨ad470.block, ad470.off + 1, none⟩ = some (.string ((rd_T33 t455 0).f1)) ∧ w'.cell? ⟨ad470.block, ad470.off + 2, none⟩ = some (.int .i64 ((rd_T33 t455 0).f2)) ∧ w'.cell? ⟨ad470.block, ad470.off + 3, none⟩ = some (.int .i64 ((rd_T33 t455 0).f3)) ∧ w'.cell? ⟨ad470.block, ad470.off + 4, none⟩ = some (.int .i64 ((rd_T33 t455 0).f4)) ∧ w'.cell? ad476 = some (.int .i64 ((rd_T33 t462 0).f0)) ∧ w'.cell? ⟨ad476.block, ad476.off + 1, none⟩ = some (.string ((rd_T33 t462 0).f1)) ∧ w'.cell? ⟨ad476.block, ad476.off + 2, none⟩ = some (.int .i64 ((rd_T33 t462 0).f2)) ∧ w'.cell? ⟨ad476.block, ad476.off + 3, none⟩ = some (.int .i64 ((rd_T33 t462 0).f3)) ∧ w'.cell? ⟨ad476.block, ad476.off + 4, none⟩ = some (.int .i64 ((rd_T33 t462 0).f4)) ∧ w'.cell? ad470 = some (.int .i64 ((rd_T33 t455 0).f0)) ∧ w'.cell? ⟨ad470.block, ad470.off + 1, none⟩ = some (.string ((rd_T33 t455 0).f1)) ∧ w'.cell? ⟨ad470.block, ad470.off + 2, none⟩ = some (.int .i64 ((rd_T33 t455 0).f2)) ∧ w'.cell? ⟨ad470.block, ad470.off + 3, none⟩ = some (.int .i64 ((rd_T33 t455 0).f3)) ∧ w'.cell? ⟨ad470.block, ad470.off + 4, none⟩ = some (.int .i64 ((rd_T33 t455 0).f4))) (ds := []) #[f_,f_,f_,f_,f_,f_,f_,f_,f_,f_,f_,f_,f_,f_,f_,f_,f_,f_,f_,f_,f_,f_,f_,f_,f_,f_,f_,f_,f_,f_,f_,f_,f_] (by kernel_rfl) rfl rfl ⟨(blk_cell BK469.out 0).trans rfl, (blk_cell BK469.out 1).trans rfl, (blk_cell BK469.out 2).trans rfl, (blk_cell BK469.out 3).trans rfl, (blk_cell BK469.out 4).trans rfl, hx470_0, hx470_1, hx470_2, hx470_3, hx470_4, hx476_0, hx476_1, hx476_2, hx476_3, hx476_4, hx482_0, hx482_1, hx482_2, hx482_3, hx482_4⟩ (fun hHeld => ?_); refine with_tabW hearsaylaw04_TokensQuoted.tab13 hearsaylaw04_TokensQuoted.bits13 (fun HT_ HW_ => ?_)
            generalize w70.drew = w71 at HO_6 HO_9 BK460 BK467 BK469 HB hx470_0 hx470_1 hx470_2 hx470_3 hx470_4 hx476_0 hx476_1 hx476_2 hx476_3 hx476_4 hx482_0 hx482_1 hx482_2 hx482_3 hx482_4 hHeld ⊢
            refine pB_ HT_ 0 72 #[t_,f_,f_,f_,f_,f_,f_,f_,f_,f_,f_,f_,f_,f_,f_,f_,f_,f_,f_,f_,f_,f_,f_,f_,f_,f_,f_,f_,f_,f_,f_,f_,f_] ?_
            refine pB_ HT_ 1 73 #[t_,t_,f_,f_,f_,f_,f_,f_,f_,f_,f_,f_,f_,f_,f_,f_,f_,f_,f_,f_,f_,f_,f_,f_,f_,f_,f_,f_,f_,f_,f_,f_,f_] ?_
            refine take_ (i := 2) (N := some 74) (v := ?_) (a' := ?_) #[t_,t_,t_,f_,f_,f_,f_,f_,f_,f_,f_,f_,f_,f_,f_,f_,f_,f_,f_,f_,f_,f_,f_,f_,f_,f_,f_,f_,f_,f_,f_,f_,f_] rfl rfl (take_ofW HT_.out HW_.out (by kernel_rfl)) (fun _ _ _ h => h) (Or.inl ⟨by rfl, ?_⟩) hHeld ?_ ?_
            rotate_left
            ·rintro w' ⟨s0, s1, s2, s3, s4, s5, s6, s7, s8, s9, s10, s11, s12, s13, s14, s15, s16, s17, s18, s19⟩
             go_simp
             with_reducible rfl
            rotate_left
            ·simp only [Act.put, List.setIfInBounds_toArray, List.set_cons_zero, List.set_cons_succ, i64_w, i32_w]
             rfl
            refine take_ (i := 4) (N := some 76) (v := ?_) (a' := ?_) #[t_,t_,t_,f_,t_,f_,f_,f_,f_,f_,f_,f_,f_,f_,f_,f_,f_,f_,f_,f_,f_,f_,f_,f_,f_,f_,f_,f_,f_,f_,f_,f_,f_] rfl rfl (take_ofW HT_.out HW_.out (by kernel_rfl)) (fun _ _ _ h => h) (Or.inl ⟨by rfl, ?_⟩) hHeld ?_ ?_
            rotate_left
            ·rintro w' ⟨s0, s1, s2, s3, s4, s5, s6, s7, s8, s9, s10, s11, s12, s13, s14, s15, s16, s17, s18, s19⟩
             go_simp
             with_reducible rfl
            rotate_left
            ·simp only [Act.put, List.setIfInBounds_toArray, List.set_cons_zero, List.set_cons_succ, i64_w, i32_w]
             rfl
            refine one_ (i := 3) (N := some 75) #[t_,t_,t_,t_,t_,f_,f_,f_,f_,f_,f_,f_,f_,f_,f_,f_,f_,f_,f_,f_,f_,f_,f_,f_,f_,f_,f_,f_,f_,f_,f_,f_,f_] rfl rfl (one_of HT_.out (by kernel_rfl)) (by decide) (fun K hK => ?_)
            refine goes_ Tryd.func25 (by kernel_rfl) rfl #[.agg #[.int .i64 ((rd_T33 t455 0).f0), .string ((rd_T33 t455 0).f1), .int .i64 ((rd_T33 t455 0).f2), .int .i64 ((rd_T33 t455 0).f3), .int .i64 ((rd_T33 t455 0).f4)]] (by rfl) rfl rfl (by (try simp only [List.map_toArray, List.map_cons, List.map_nil]); first | done | rfl | (simp only [List.length_drop, List.length_take]; rfl) | (simp only [beq_nil_, bne_nil_]; rfl) | (simp only [ByteArray.size_extract, Nat.min_self]; rfl)) ?_
            with_reducible refine (hearsaylaw04_bare.calls ((rd_T33 t455 0).f0) ((rd_T33 t455 0).f1) ((rd_T33 t455 0).f2) ((rd_T33 t455 0).f3) ((rd_T33 t455 0).f4) t471 t472 t473 t474 t475 _ A50.out).mono ?_
            rintro e w73 ⟨rfl, hb⟩
            have HS5_ := (hb.cell (World.block_lt_of_cell? _ _ (hHeld.2.2.2.2.2.1))).trans (hHeld.2.2.2.2.2.1)
            have HS6_ := (hb.cell (World.block_lt_of_cell? _ _ (hHeld.2.2.2.2.2.2.1))).trans (hHeld.2.2.2.2.2.2.1)
            have HS7_ := (hb.cell (World.block_lt_of_cell? _ _ (hHeld.2.2.2.2.2.2.2.1))).trans (hHeld.2.2.2.2.2.2.2.1)
            have HS8_ := (hb.cell (World.block_lt_of_cell? _ _ (hHeld.2.2.2.2.2.2.2.2.1))).trans (hHeld.2.2.2.2.2.2.2.2.1)
            have HS9_ := (hb.cell (World.block_lt_of_cell? _ _ (hHeld.2.2.2.2.2.2.2.2.2.1))).trans (hHeld.2.2.2.2.2.2.2.2.2.1)
            have HS10_ := (hb.cell (World.block_lt_of_cell? _ _ (hHeld.2.2.2.2.2.2.2.2.2.2.1))).trans (hHeld.2.2.2.2.2.2.2.2.2.2.1)
            have HS11_ := (hb.cell (World.block_lt_of_cell? _ _ (hHeld.2.2.2.2.2.2.2.2.2.2.2.1))).trans (hHeld.2.2.2.2.2.2.2.2.2.2.2.1)
            have HS12_ := (hb.cell (World.block_lt_of_cell? _ _ (hHeld.2.2.2.2.2.2.2.2.2.2.2.2.1))).trans (hHeld.2.2.2.2.2.2.2.2.2.2.2.2.1)
            have HS13_ := (hb.cell (World.block_lt_of_cell? _ _ (hHeld.2.2.2.2.2.2.2.2.2.2.2.2.2.1))).trans (hHeld.2.2.2.2.2.2.2.2.2.2.2.2.2.1)
            have HS14_ := (hb.cell (World.block_lt_of_cell? _ _ (hHeld.2.2.2.2.2.2.2.2.2.2.2.2.2.2.1))).trans (hHeld.2.2.2.2.2.2.2.2.2.2.2.2.2.2.1)
            have HS15_ := (hb.cell (World.block_lt_of_cell? _ _ (hHeld.2.2.2.2.2.2.2.2.2.2.2.2.2.2.2.1))).trans (hHeld.2.2.2.2.2.2.2.2.2.2.2.2.2.2.2.1)
            have HS16_ := (hb.cell (World.block_lt_of_cell? _ _ (hHeld.2.2.2.2.2.2.2.2.2.2.2.2.2.2.2.2.1))).trans (hHeld.2.2.2.2.2.2.2.2.2.2.2.2.2.2.2.2.1)
            have HS17_ := (hb.cell (World.block_lt_of_cell? _ _ (hHeld.2.2.2.2.2.2.2.2.2.2.2.2.2.2.2.2.2.1))).trans (hHeld.2.2.2.2.2.2.2.2.2.2.2.2.2.2.2.2.2.1)
            have HS18_ := (hb.cell (World.block_lt_of_cell? _ _ (hHeld.2.2.2.2.2.2.2.2.2.2.2.2.2.2.2.2.2.2.1))).trans (hHeld.2.2.2.2.2.2.2.2.2.2.2.2.2.2.2.2.2.2.1)
            have HS19_ := (hb.cell (World.block_lt_of_cell? _ _ (hHeld.2.2.2.2.2.2.2.2.2.2.2.2.2.2.2.2.2.2.2))).trans (hHeld.2.2.2.2.2.2.2.2.2.2.2.2.2.2.2.2.2.2.2)
            refine ⟨_, rfl, ?_⟩
            have n0_ := Aside0.mk (Kd.R_below (by (with_reducible repeat (first | apply Kd.R_alloc | apply Kd.R_drewN | apply Kd.R_drew)); exact HO_6.out) hb)
            have n1_ := Aside0.mk (Kd.R_below (by (with_reducible repeat (first | apply Kd.R_alloc | apply Kd.R_drewN | apply Kd.R_drew)); exact HO_9.out) hb)
            have n2_ := Aside0.mk (blk_below (g := gb460) (o := .cells #[.int .i64 t458, .int .i64 t459] 26 (0, 0)) (by (with_reducible repeat (first | refine blk_drewN ?_ _ | refine blk_drew ?_ | refine blk_alloc ?_ _)); exact BK460.out) hb)
            have n3_ := Aside0.mk (blk_below (g := gb467) (o := .cells #[.int .i64 t465, .int .i64 t466] 26 (0, 0)) (by (with_reducible repeat (first | refine blk_drewN ?_ _ | refine blk_drew ?_ | refine blk_alloc ?_ _)); exact BK467.out) hb)
            have n4_ := Aside0.mk (blk_below (g := gb469) (o := .cells #[.int .i64 3, .string a0, .int .i64 0, .int .i64 0, .int .i64 0] 33 (0, 0)) (by (with_reducible repeat (first | refine blk_drewN ?_ _ | refine blk_drew ?_ | refine blk_alloc ?_ _)); exact BK469.out) hb)
            have n5_ := Aside0.mk (below_step (by repeat (first | (with_reducible first | exact HB.out | apply below_alloc | apply pw_below_drewN | apply below_drew1 | refine below_set ?_ GE460.out | refine below_set ?_ GE467.out | refine below_set ?_ GE469.out) | exact HB.out)) hb)
            clear HO_6
            clear HO_9
            clear BK460
            clear BK467
            clear BK469
            clear HB
            have HO_6 := n0_
            have HO_9 := n1_
            have BK460 := n2_
            have BK467 := n3_
            have BK469 := n4_
            have HB := n5_
            clear n0_ n1_ n2_ n3_ n4_ n5_
            (try clear hb)
            (try clear hb2)
            (try clear hk)
            (try clear hi)
            obtain ⟨Ao74, co74, eo74⟩ := Kd.R_slice HO_9.out
            (first | subst eo74 | (injection eo74 with f1_ f2_ f3_; have f4_ := f1_.symm; have f5_ := f3_.symm; clear f1_ f2_ f3_; subst f4_; subst f5_))
            refine hK.out _ _ ⟨(blk_cell BK469.out 0).trans rfl, (blk_cell BK469.out 1).trans rfl, (blk_cell BK469.out 2).trans rfl, (blk_cell BK469.out 3).trans rfl, (blk_cell BK469.out 4).trans rfl, HS5_, HS6_, HS7_, HS8_, HS9_, HS10_, HS11_, HS12_, HS13_, HS14_, HS15_, HS16_, HS17_, HS18_, HS19_⟩ (fun hHeld => ?_)
            clear hK K
            refine norm_ (a' := ?_) ?_ ?_
            rotate_left
            ·show Act.put _ (some 75) _ = _
             simp only [Act.put, List.setIfInBounds_toArray, List.set_cons_zero, List.set_cons_succ, i64_w, i32_w]
             rfl
            refine pB_ HT_ 5 77 #[t_,t_,t_,t_,t_,t_,f_,f_,f_,f_,f_,f_,f_,f_,f_,f_,f_,f_,f_,f_,f_,f_,f_,f_,f_,f_,f_,f_,f_,f_,f_,f_,f_] ?_
            refine pB_ HT_ 6 78 #[t_,t_,t_,t_,t_,t_,t_,f_,f_,f_,f_,f_,f_,f_,f_,f_,f_,f_,f_,f_,f_,f_,f_,f_,f_,f_,f_,f_,f_,f_,f_,f_,f_] ?_
            refine pB_ HT_ 7 79 #[t_,t_,t_,t_,t_,t_,t_,t_,f_,f_,f_,f_,f_,f_,f_,f_,f_,f_,f_,f_,f_,f_,f_,f_,f_,f_,f_,f_,f_,f_,f_,f_,f_] ?_
            refine pB_ HT_ 8 80 #[t_,t_,t_,t_,t_,t_,t_,t_,t_,f_,f_,f_,f_,f_,f_,f_,f_,f_,f_,f_,f_,f_,f_,f_,f_,f_,f_,f_,f_,f_,f_,f_,f_] ?_
            refine take_ (i := 9) (N := some 81) (v := ?_) (a' := ?_) #[t_,t_,t_,t_,t_,t_,t_,t_,t_,t_,f_,f_,f_,f_,f_,f_,f_,f_,f_,f_,f_,f_,f_,f_,f_,f_,f_,f_,f_,f_,f_,f_,f_] rfl rfl (take_ofW HT_.out HW_.out (by kernel_rfl)) (fun _ _ _ h => h) (Or.inl ⟨by rfl, ?_⟩) hHeld ?_ ?_
            rotate_left
            ·rintro w' ⟨s0, s1, s2, s3, s4, s5, s6, s7, s8, s9, s10, s11, s12, s13, s14, s15, s16, s17, s18, s19⟩
             go_simp
             with_reducible rfl
            rotate_left
            ·simp only [Act.put, List.setIfInBounds_toArray, List.set_cons_zero, List.set_cons_succ, i64_w, i32_w]
             rfl
            refine take_ (i := 11) (N := some 83) (v := ?_) (a' := ?_) #[t_,t_,t_,t_,t_,t_,t_,t_,t_,t_,f_,t_,f_,f_,f_,f_,f_,f_,f_,f_,f_,f_,f_,f_,f_,f_,f_,f_,f_,f_,f_,f_,f_] rfl rfl (take_ofW HT_.out HW_.out (by kernel_rfl)) (fun _ _ _ h => h) (Or.inl ⟨by rfl, ?_⟩) hHeld ?_ ?_
            rotate_left
            ·rintro w' ⟨s0, s1, s2, s3, s4, s5, s6, s7, s8, s9, s10, s11, s12, s13, s14, s15, s16, s17, s18, s19⟩
             go_simp
             with_reducible rfl
            rotate_left
            ·simp only [Act.put, List.setIfInBounds_toArray, List.set_cons_zero, List.set_cons_succ, i64_w, i32_w]
             rfl
            refine one_ (i := 10) (N := some 82) #[t_,t_,t_,t_,t_,t_,t_,t_,t_,t_,t_,t_,f_,f_,f_,f_,f_,f_,f_,f_,f_,f_,f_,f_,f_,f_,f_,f_,f_,f_,f_,f_,f_] rfl rfl (one_of HT_.out (by kernel_rfl)) (by decide) (fun K hK => ?_)
            refine goes_ Tryd.func25 (by kernel_rfl) rfl #[.agg #[.int .i64 ((rd_T33 t462 0).f0), .string ((rd_T33 t462 0).f1), .int .i64 ((rd_T33 t462 0).f2), .int .i64 ((rd_T33 t462 0).f3), .int .i64 ((rd_T33 t462 0).f4)]] (by rfl) rfl rfl (by (try simp only [List.map_toArray, List.map_cons, List.map_nil]); first | done | rfl | (simp only [List.length_drop, List.length_take]; rfl) | (simp only [beq_nil_, bne_nil_]; rfl) | (simp only [ByteArray.size_extract, Nat.min_self]; rfl)) ?_
            with_reducible refine (hearsaylaw04_bare.calls ((rd_T33 t462 0).f0) ((rd_T33 t462 0).f1) ((rd_T33 t462 0).f2) ((rd_T33 t462 0).f3) ((rd_T33 t462 0).f4) t477 t478 t479 t480 t481 _ A53.out).mono ?_
            rintro e w75 ⟨rfl, hb⟩
            have HS5_ := (hb.cell (World.block_lt_of_cell? _ _ (hHeld.2.2.2.2.2.1))).trans (hHeld.2.2.2.2.2.1)
            have HS6_ := (hb.cell (World.block_lt_of_cell? _ _ (hHeld.2.2.2.2.2.2.1))).trans (hHeld.2.2.2.2.2.2.1)
            have HS7_ := (hb.cell (World.block_lt_of_cell? _ _ (hHeld.2.2.2.2.2.2.2.1))).trans (hHeld.2.2.2.2.2.2.2.1)
            have HS8_ := (hb.cell (World.block_lt_of_cell? _ _ (hHeld.2.2.2.2.2.2.2.2.1))).trans (hHeld.2.2.2.2.2.2.2.2.1)
            have HS9_ := (hb.cell (World.block_lt_of_cell? _ _ (hHeld.2.2.2.2.2.2.2.2.2.1))).trans (hHeld.2.2.2.2.2.2.2.2.2.1)
            have HS10_ := (hb.cell (World.block_lt_of_cell? _ _ (hHeld.2.2.2.2.2.2.2.2.2.2.1))).trans (hHeld.2.2.2.2.2.2.2.2.2.2.1)
            have HS11_ := (hb.cell (World.block_lt_of_cell? _ _ (hHeld.2.2.2.2.2.2.2.2.2.2.2.1))).trans (hHeld.2.2.2.2.2.2.2.2.2.2.2.1)
            have HS12_ := (hb.cell (World.block_lt_of_cell? _ _ (hHeld.2.2.2.2.2.2.2.2.2.2.2.2.1))).trans (hHeld.2.2.2.2.2.2.2.2.2.2.2.2.1)
            have HS13_ := (hb.cell (World.block_lt_of_cell? _ _ (hHeld.2.2.2.2.2.2.2.2.2.2.2.2.2.1))).trans (hHeld.2.2.2.2.2.2.2.2.2.2.2.2.2.1)
            have HS14_ := (hb.cell (World.block_lt_of_cell? _ _ (hHeld.2.2.2.2.2.2.2.2.2.2.2.2.2.2.1))).trans (hHeld.2.2.2.2.2.2.2.2.2.2.2.2.2.2.1)
            have HS15_ := (hb.cell (World.block_lt_of_cell? _ _ (hHeld.2.2.2.2.2.2.2.2.2.2.2.2.2.2.2.1))).trans (hHeld.2.2.2.2.2.2.2.2.2.2.2.2.2.2.2.1)
            have HS16_ := (hb.cell (World.block_lt_of_cell? _ _ (hHeld.2.2.2.2.2.2.2.2.2.2.2.2.2.2.2.2.1))).trans (hHeld.2.2.2.2.2.2.2.2.2.2.2.2.2.2.2.2.1)
            have HS17_ := (hb.cell (World.block_lt_of_cell? _ _ (hHeld.2.2.2.2.2.2.2.2.2.2.2.2.2.2.2.2.2.1))).trans (hHeld.2.2.2.2.2.2.2.2.2.2.2.2.2.2.2.2.2.1)
            have HS18_ := (hb.cell (World.block_lt_of_cell? _ _ (hHeld.2.2.2.2.2.2.2.2.2.2.2.2.2.2.2.2.2.2.1))).trans (hHeld.2.2.2.2.2.2.2.2.2.2.2.2.2.2.2.2.2.2.1)
            have HS19_ := (hb.cell (World.block_lt_of_cell? _ _ (hHeld.2.2.2.2.2.2.2.2.2.2.2.2.2.2.2.2.2.2.2))).trans (hHeld.2.2.2.2.2.2.2.2.2.2.2.2.2.2.2.2.2.2.2)
            refine ⟨_, rfl, ?_⟩
            have n0_ := Aside0.mk (Kd.R_below (by (with_reducible repeat (first | apply Kd.R_alloc | apply Kd.R_drewN | apply Kd.R_drew)); exact HO_6.out) hb)
            have n1_ := Aside0.mk (Kd.R_below (by (with_reducible repeat (first | apply Kd.R_alloc | apply Kd.R_drewN | apply Kd.R_drew)); exact HO_9.out) hb)
            have n2_ := Aside0.mk (blk_below (g := gb460) (o := .cells #[.int .i64 t458, .int .i64 t459] 26 (0, 0)) (by (with_reducible repeat (first | refine blk_drewN ?_ _ | refine blk_drew ?_ | refine blk_alloc ?_ _)); exact BK460.out) hb)
            have n3_ := Aside0.mk (blk_below (g := gb467) (o := .cells #[.int .i64 t465, .int .i64 t466] 26 (0, 0)) (by (with_reducible repeat (first | refine blk_drewN ?_ _ | refine blk_drew ?_ | refine blk_alloc ?_ _)); exact BK467.out) hb)
            have n4_ := Aside0.mk (blk_below (g := gb469) (o := .cells #[.int .i64 3, .string a0, .int .i64 0, .int .i64 0, .int .i64 0] 33 (0, 0)) (by (with_reducible repeat (first | refine blk_drewN ?_ _ | refine blk_drew ?_ | refine blk_alloc ?_ _)); exact BK469.out) hb)
            have n5_ := Aside0.mk (below_step (by repeat (first | (with_reducible first | exact HB.out | apply below_alloc | apply pw_below_drewN | apply below_drew1 | refine below_set ?_ GE460.out | refine below_set ?_ GE467.out | refine below_set ?_ GE469.out) | exact HB.out)) hb)
            clear HO_6
            clear HO_9
            clear BK460
            clear BK467
            clear BK469
            clear HB
            have HO_6 := n0_
            have HO_9 := n1_
            have BK460 := n2_
            have BK467 := n3_
            have BK469 := n4_
            have HB := n5_
            clear n0_ n1_ n2_ n3_ n4_ n5_
            (try clear hb)
            (try clear hb2)
            (try clear hk)
            (try clear hi)
            refine hK.out _ _ ⟨(blk_cell BK469.out 0).trans rfl, (blk_cell BK469.out 1).trans rfl, (blk_cell BK469.out 2).trans rfl, (blk_cell BK469.out 3).trans rfl, (blk_cell BK469.out 4).trans rfl, HS5_, HS6_, HS7_, HS8_, HS9_, HS10_, HS11_, HS12_, HS13_, HS14_, HS15_, HS16_, HS17_, HS18_, HS19_⟩ (fun hHeld => ?_)
            clear hK K
            refine norm_ (a' := ?_) ?_ ?_
            rotate_left
            ·show Act.put _ (some 82) _ = _
             simp only [Act.put, List.setIfInBounds_toArray, List.set_cons_zero, List.set_cons_succ, i64_w, i32_w]
             rfl
            refine pB_ HT_ 12 84 #[t_,t_,t_,t_,t_,t_,t_,t_,t_,t_,t_,t_,t_,f_,f_,f_,f_,f_,f_,f_,f_,f_,f_,f_,f_,f_,f_,f_,f_,f_,f_,f_,f_] ?_
            refine pB_ HT_ 13 85 #[t_,t_,t_,t_,t_,t_,t_,t_,t_,t_,t_,t_,t_,t_,f_,f_,f_,f_,f_,f_,f_,f_,f_,f_,f_,f_,f_,f_,f_,f_,f_,f_,f_] ?_
            refine pB_ HT_ 14 86 #[t_,t_,t_,t_,t_,t_,t_,t_,t_,t_,t_,t_,t_,t_,t_,f_,f_,f_,f_,f_,f_,f_,f_,f_,f_,f_,f_,f_,f_,f_,f_,f_,f_] ?_
            refine pB_ HT_ 15 87 #[t_,t_,t_,t_,t_,t_,t_,t_,t_,t_,t_,t_,t_,t_,t_,t_,f_,f_,f_,f_,f_,f_,f_,f_,f_,f_,f_,f_,f_,f_,f_,f_,f_] ?_
            refine pB_ HT_ 16 88 #[t_,t_,t_,t_,t_,t_,t_,t_,t_,t_,t_,t_,t_,t_,t_,t_,t_,f_,f_,f_,f_,f_,f_,f_,f_,f_,f_,f_,f_,f_,f_,f_,f_] ?_
            refine pB_ HT_ 17 89 #[t_,t_,t_,t_,t_,t_,t_,t_,t_,t_,t_,t_,t_,t_,t_,t_,t_,t_,f_,f_,f_,f_,f_,f_,f_,f_,f_,f_,f_,f_,f_,f_,f_] ?_
            refine pB_ HT_ 19 91 #[t_,t_,t_,t_,t_,t_,t_,t_,t_,t_,t_,t_,t_,t_,t_,t_,t_,t_,f_,t_,f_,f_,f_,f_,f_,f_,f_,f_,f_,f_,f_,f_,f_] ?_
            refine pB_ HT_ 20 92 #[t_,t_,t_,t_,t_,t_,t_,t_,t_,t_,t_,t_,t_,t_,t_,t_,t_,t_,f_,t_,t_,f_,f_,f_,f_,f_,f_,f_,f_,f_,f_,f_,f_] ?_
            refine take_ (i := 18) (N := some 90) (v := ?_) (a' := ?_) #[t_,t_,t_,t_,t_,t_,t_,t_,t_,t_,t_,t_,t_,t_,t_,t_,t_,t_,t_,t_,t_,f_,f_,f_,f_,f_,f_,f_,f_,f_,f_,f_,f_] rfl rfl (take_ofW HT_.out HW_.out (by kernel_rfl)) (fun _ _ _ h => h) (Or.inl ⟨by rfl, ?_⟩) hHeld ?_ ?_
            rotate_left
            ·rintro w' ⟨s0, s1, s2, s3, s4, s5, s6, s7, s8, s9, s10, s11, s12, s13, s14, s15, s16, s17, s18, s19⟩
             go_simp
             with_reducible rfl
            rotate_left
            ·simp only [Act.put, List.setIfInBounds_toArray, List.set_cons_zero, List.set_cons_succ, i64_w, i32_w]
             rfl
            refine pB_ HT_ 21 93 #[t_,t_,t_,t_,t_,t_,t_,t_,t_,t_,t_,t_,t_,t_,t_,t_,t_,t_,t_,t_,t_,t_,f_,f_,f_,f_,f_,f_,f_,f_,f_,f_,f_] ?_
            refine pB_ HT_ 22 94 #[t_,t_,t_,t_,t_,t_,t_,t_,t_,t_,t_,t_,t_,t_,t_,t_,t_,t_,t_,t_,t_,t_,t_,f_,f_,f_,f_,f_,f_,f_,f_,f_,f_] ?_
            refine pB_ HT_ 23 95 #[t_,t_,t_,t_,t_,t_,t_,t_,t_,t_,t_,t_,t_,t_,t_,t_,t_,t_,t_,t_,t_,t_,t_,t_,f_,f_,f_,f_,f_,f_,f_,f_,f_] ?_
            refine pA_ HT_ 24 96 #[t_,t_,t_,t_,t_,t_,t_,t_,t_,t_,t_,t_,t_,t_,t_,t_,t_,t_,t_,t_,t_,t_,t_,t_,t_,f_,f_,f_,f_,f_,f_,f_,f_] ?_
            refine pA_ HT_ 25 97 #[t_,t_,t_,t_,t_,t_,t_,t_,t_,t_,t_,t_,t_,t_,t_,t_,t_,t_,t_,t_,t_,t_,t_,t_,t_,t_,f_,f_,f_,f_,f_,f_,f_] ?_
            refine pA_ HT_ 26 98 #[t_,t_,t_,t_,t_,t_,t_,t_,t_,t_,t_,t_,t_,t_,t_,t_,t_,t_,t_,t_,t_,t_,t_,t_,t_,t_,t_,f_,f_,f_,f_,f_,f_] ?_
            refine pA_ HT_ 27 99 #[t_,t_,t_,t_,t_,t_,t_,t_,t_,t_,t_,t_,t_,t_,t_,t_,t_,t_,t_,t_,t_,t_,t_,t_,t_,t_,t_,t_,f_,f_,f_,f_,f_] ?_
            refine pA_ HT_ 28 100 #[t_,t_,t_,t_,t_,t_,t_,t_,t_,t_,t_,t_,t_,t_,t_,t_,t_,t_,t_,t_,t_,t_,t_,t_,t_,t_,t_,t_,t_,f_,f_,f_,f_] ?_
            refine pA_ HT_ 29 101 #[t_,t_,t_,t_,t_,t_,t_,t_,t_,t_,t_,t_,t_,t_,t_,t_,t_,t_,t_,t_,t_,t_,t_,t_,t_,t_,t_,t_,t_,t_,f_,f_,f_] ?_
            refine pA_ HT_ 30 102 #[t_,t_,t_,t_,t_,t_,t_,t_,t_,t_,t_,t_,t_,t_,t_,t_,t_,t_,t_,t_,t_,t_,t_,t_,t_,t_,t_,t_,t_,t_,t_,f_,f_] ?_
            refine pB_ HT_ 31 103 #[t_,t_,t_,t_,t_,t_,t_,t_,t_,t_,t_,t_,t_,t_,t_,t_,t_,t_,t_,t_,t_,t_,t_,t_,t_,t_,t_,t_,t_,t_,t_,t_,f_] ?_
            refine pB_ HT_ 32 4 #[t_,t_,t_,t_,t_,t_,t_,t_,t_,t_,t_,t_,t_,t_,t_,t_,t_,t_,t_,t_,t_,t_,t_,t_,t_,t_,t_,t_,t_,t_,t_,t_,t_] ?_
            refine done_ (done_of HT_.out (by kernel_rfl)) ?_
            try go_wp2
            go_ret
            exact ⟨by first | rfl | (simp [errW_none, errW_some] <;> rfl) | (simp [*, errW_none, errW_some] <;> rfl), by repeat (first | (with_reducible first | exact HB.out | apply below_alloc | apply pw_below_drewN | apply below_drew1 | refine below_set ?_ GE460.out | refine below_set ?_ GE467.out | refine below_set ?_ GE469.out) | exact HB.out)⟩
          ·rw [if_neg c54] at H
           have c54b0 : (t477 == 3 && (t478.toList == a0.toList && (t479 == 0 && (t480 == 0 && (t481 == 0))))) = false := by simpa using c54
           (try (have c54b1 : decide (t477 = 3 && (t478.toList == a0.toList && (t479 == 0 && (t480 == 0 && (t481 == 0))))) = false := by simpa using c54))
           (try (have c54b2 : (t477 == 3 && (t478.toList == a0.toList && (t479 == 0 && (t480 == 0 && (t481 == 0))))) = false := by simpa using c54))
           (try (have c54b3 : ¬ (t477 = 3 && (t478.toList == a0.toList && (t479 == 0 && (t480 == 0 && (t481 == 0))))) := by simpa using c54))
           clear c54
           obtain rfl := Option.some.inj H
           try go_wp2_with (first | ((with_reducible refine gate_dst (N := 12) rfl ?_); (try (refine gate_guard (by rfl) ?_; dsimp only)); refine box_event ?hg (N := 12) ?hd (cs := #[.int .i64 0, .string (⟨#[]⟩ : ByteArray), .int .i64 0, .int .i64 0, .int .i64 0]) (t := 33) ?hr ?_; (case hd => rfl); (case hg => rfl); (case hr => first | (go_simp; done) | (go_simp; rfl)); intro gb469 hg w76 hbox hb; have n0_ := Aside0.mk (Kd.R_below (Kd.R_elderB (by (with_reducible repeat (first | apply Kd.R_alloc | apply Kd.R_drewN | apply Kd.R_drew)); exact HO_6.out) gb469 (Nat.le_of_eq hg.symm)) hb); have n1_ := Aside0.mk (Kd.R_below (Kd.R_elderB (by (with_reducible repeat (first | apply Kd.R_alloc | apply Kd.R_drewN | apply Kd.R_drew)); exact HO_9.out) gb469 (Nat.le_of_eq hg.symm)) hb); have n2_ := Aside0.mk (blk_below (g := gb460) (o := .cells #[.int .i64 t458, .int .i64 t459] 26 (0, 0)) (by (with_reducible repeat (first | refine blk_drewN ?_ _ | refine blk_drew ?_ | refine blk_alloc ?_ _)); exact BK460.out) hb); have n3_ := Aside0.mk (blk_below (g := gb467) (o := .cells #[.int .i64 t465, .int .i64 t466] 26 (0, 0)) (by (with_reducible repeat (first | refine blk_drewN ?_ _ | refine blk_drew ?_ | refine blk_alloc ?_ _)); exact BK467.out) hb); have n4_ := Aside0.mk (below_step (by repeat (first | (with_reducible first | exact HB.out | apply below_alloc | apply pw_below_drewN | apply below_drew1 | refine below_set ?_ GE460.out | refine below_set ?_ GE467.out) | exact HB.out)) hb); have n5_ := Aside0.mk (hbox); have n6_ := Aside0.mk ((by rw [hg]; exact (below_size (by repeat (first | (with_reducible first | exact HB.out | apply below_alloc | apply pw_below_drewN | apply below_drew1 | refine below_set ?_ GE460.out | refine below_set ?_ GE467.out) | exact HB.out))) : w.heap.size ≤ gb469)); have n7_ := Aside0.mk ((by rw [hg]; exact (below_size (by repeat (first | (with_reducible first | exact HB.out | apply below_alloc | apply pw_below_drewN | apply below_drew1 | refine below_set ?_ GE460.out | refine below_set ?_ GE467.out) | exact HB.out))) : w.heap.size ≤ gb469)); have n8_ := Aside0.mk ((by rw [hg]; exact Nat.ne_of_lt (blk_lt (g := gb460) (o := .cells #[.int .i64 t458, .int .i64 t459] 26 (0, 0)) (by (with_reducible repeat (first | refine blk_drewN ?_ _ | refine blk_drew ?_ | refine blk_alloc ?_ _)); exact BK460.out)) : gb460 ≠ gb469)); have n9_ := Aside0.mk ((by rw [hg]; exact Nat.ne_of_gt (blk_lt (g := gb460) (o := .cells #[.int .i64 t458, .int .i64 t459] 26 (0, 0)) (by (with_reducible repeat (first | refine blk_drewN ?_ _ | refine blk_drew ?_ | refine blk_alloc ?_ _)); exact BK460.out)) : gb469 ≠ gb460)); have n10_ := Aside0.mk ((by rw [hg]; exact Nat.ne_of_lt (blk_lt (g := gb467) (o := .cells #[.int .i64 t465, .int .i64 t466] 26 (0, 0)) (by (with_reducible repeat (first | refine blk_drewN ?_ _ | refine blk_drew ?_ | refine blk_alloc ?_ _)); exact BK467.out)) : gb467 ≠ gb469)); have n11_ := Aside0.mk ((by rw [hg]; exact Nat.ne_of_gt (blk_lt (g := gb467) (o := .cells #[.int .i64 t465, .int .i64 t466] 26 (0, 0)) (by (with_reducible repeat (first | refine blk_drewN ?_ _ | refine blk_drew ?_ | refine blk_alloc ?_ _)); exact BK467.out)) : gb469 ≠ gb467)); clear HO_6; clear HO_9; clear BK460; clear BK467; clear HB; have HO_6 := n0_; have HO_9 := n1_; have BK460 := n2_; have BK467 := n3_; have HB := n4_; have BK469 := n5_; have GW469 := n6_; have GE469 := n7_; have NB460_469 := n8_; have NB469_460 := n9_; have NB467_469 := n10_; have NB469_467 := n11_; clear n0_ n1_ n2_ n3_ n4_ n5_ n6_ n7_ n8_ n9_ n10_ n11_; clear hb hbox hg; have hnb77 := NB469_460.out; have hnc77 := NB460_469.out; have hnb78 := NB469_467.out; have hnc78 := NB467_469.out; have hcz79_0 : w76.cell? ⟨gb469, 0, none⟩ = some (.int .i64 0) := (blk_cell BK469.out 0).trans rfl; have hcz79_1 : w76.cell? ⟨gb469, 1, none⟩ = some (.string (⟨#[]⟩ : ByteArray)) := (blk_cell BK469.out 1).trans rfl; have hcz79_2 : w76.cell? ⟨gb469, 2, none⟩ = some (.int .i64 0) := (blk_cell BK469.out 2).trans rfl; have hcz79_3 : w76.cell? ⟨gb469, 3, none⟩ = some (.int .i64 0) := (blk_cell BK469.out 3).trans rfl; have hcz79_4 : w76.cell? ⟨gb469, 4, none⟩ = some (.int .i64 0) := (blk_cell BK469.out 4).trans rfl; have hfz79_0 := blk_frozen BK469.out 0; have hfz79_1 := blk_frozen BK469.out 1; have hfz79_2 := blk_frozen BK469.out 2; have hfz79_3 := blk_frozen BK469.out 3; have hfz79_4 := blk_frozen BK469.out 4))
           have n0_ : Aside0 (Kd.R k33 33 (((((w76.setCell ⟨gb469, 0, none⟩ (.int .i64 3)).setCell ⟨gb469, 1, none⟩ (.string a0)).setCell ⟨gb469, 2, none⟩ (.int .i64 0)).setCell ⟨gb469, 3, none⟩ (.int .i64 0)).setCell ⟨gb469, 4, none⟩ (.int .i64 0)) w.heap.size (fun k_ => some k_ ≠ (v463 : Value).ownBlock ∧ k_ ≠ gb469) v456 t455) := ⟨by (with_reducible repeat (first | apply Kd.R_alloc | apply Kd.R_drewN | apply Kd.R_drew)); exact Kd.R_mono (Kd.R_far (p := ⟨gb469, 4, none⟩) (Kd.R_far (p := ⟨gb469, 3, none⟩) (Kd.R_far (p := ⟨gb469, 2, none⟩) (Kd.R_far (p := ⟨gb469, 1, none⟩) (Kd.R_far (p := ⟨gb469, 0, none⟩) (Kd.R_mono HO_6.out (fun k_ hk => (⟨hk, hk.2⟩ : _ ∧ k_ ≠ gb469))) (fun _ hk => hk.2) (.int .i64 3)) (fun _ hk => hk.2) (.string a0)) (fun _ hk => hk.2) (.int .i64 0)) (fun _ hk => hk.2) (.int .i64 0)) (fun _ hk => hk.2) (.int .i64 0)) (fun _ hk => ⟨hk.1.1, hk.1.2⟩)⟩
           have n1_ : Aside0 (Kd.R k33 33 (((((w76.setCell ⟨gb469, 0, none⟩ (.int .i64 3)).setCell ⟨gb469, 1, none⟩ (.string a0)).setCell ⟨gb469, 2, none⟩ (.int .i64 0)).setCell ⟨gb469, 3, none⟩ (.int .i64 0)).setCell ⟨gb469, 4, none⟩ (.int .i64 0)) w.heap.size (fun k_ => some k_ ≠ (v456 : Value).ownBlock ∧ k_ ≠ gb469) v463 t462) := ⟨by (with_reducible repeat (first | apply Kd.R_alloc | apply Kd.R_drewN | apply Kd.R_drew)); exact Kd.R_mono (Kd.R_far (p := ⟨gb469, 4, none⟩) (Kd.R_far (p := ⟨gb469, 3, none⟩) (Kd.R_far (p := ⟨gb469, 2, none⟩) (Kd.R_far (p := ⟨gb469, 1, none⟩) (Kd.R_far (p := ⟨gb469, 0, none⟩) (Kd.R_mono HO_9.out (fun k_ hk => (⟨hk, hk.2⟩ : _ ∧ k_ ≠ gb469))) (fun _ hk => hk.2) (.int .i64 3)) (fun _ hk => hk.2) (.string a0)) (fun _ hk => hk.2) (.int .i64 0)) (fun _ hk => hk.2) (.int .i64 0)) (fun _ hk => hk.2) (.int .i64 0)) (fun _ hk => ⟨hk.1.1, hk.1.2⟩)⟩
           have n2_ : Aside0 ((((((w76.setCell ⟨gb469, 0, none⟩ (.int .i64 3)).setCell ⟨gb469, 1, none⟩ (.string a0)).setCell ⟨gb469, 2, none⟩ (.int .i64 0)).setCell ⟨gb469, 3, none⟩ (.int .i64 0)).setCell ⟨gb469, 4, none⟩ (.int .i64 0)).heap[gb460]? = some (.cells #[.int .i64 t458, .int .i64 t459] 26 (0, 0))) := ⟨by (with_reducible repeat (first | refine blk_drewN ?_ _ | refine blk_drew ?_ | refine blk_alloc ?_ _)); refine blk_far ?_ NB460_469.out _; (with_reducible repeat (first | refine blk_drewN ?_ _ | refine blk_drew ?_ | refine blk_alloc ?_ _)); refine blk_far ?_ NB460_469.out _; (with_reducible repeat (first | refine blk_drewN ?_ _ | refine blk_drew ?_ | refine blk_alloc ?_ _)); refine blk_far ?_ NB460_469.out _; (with_reducible repeat (first | refine blk_drewN ?_ _ | refine blk_drew ?_ | refine blk_alloc ?_ _)); refine blk_far ?_ NB460_469.out _; (with_reducible repeat (first | refine blk_drewN ?_ _ | refine blk_drew ?_ | refine blk_alloc ?_ _)); refine blk_far ?_ NB460_469.out _; (with_reducible repeat (first | refine blk_drewN ?_ _ | refine blk_drew ?_ | refine blk_alloc ?_ _)); exact BK460.out⟩
           have n3_ : Aside0 ((((((w76.setCell ⟨gb469, 0, none⟩ (.int .i64 3)).setCell ⟨gb469, 1, none⟩ (.string a0)).setCell ⟨gb469, 2, none⟩ (.int .i64 0)).setCell ⟨gb469, 3, none⟩ (.int .i64 0)).setCell ⟨gb469, 4, none⟩ (.int .i64 0)).heap[gb467]? = some (.cells #[.int .i64 t465, .int .i64 t466] 26 (0, 0))) := ⟨by (with_reducible repeat (first | refine blk_drewN ?_ _ | refine blk_drew ?_ | refine blk_alloc ?_ _)); refine blk_far ?_ NB467_469.out _; (with_reducible repeat (first | refine blk_drewN ?_ _ | refine blk_drew ?_ | refine blk_alloc ?_ _)); refine blk_far ?_ NB467_469.out _; (with_reducible repeat (first | refine blk_drewN ?_ _ | refine blk_drew ?_ | refine blk_alloc ?_ _)); refine blk_far ?_ NB467_469.out _; (with_reducible repeat (first | refine blk_drewN ?_ _ | refine blk_drew ?_ | refine blk_alloc ?_ _)); refine blk_far ?_ NB467_469.out _; (with_reducible repeat (first | refine blk_drewN ?_ _ | refine blk_drew ?_ | refine blk_alloc ?_ _)); refine blk_far ?_ NB467_469.out _; (with_reducible repeat (first | refine blk_drewN ?_ _ | refine blk_drew ?_ | refine blk_alloc ?_ _)); exact BK467.out⟩
           have n4_ : Aside0 ((((((w76.setCell ⟨gb469, 0, none⟩ (.int .i64 3)).setCell ⟨gb469, 1, none⟩ (.string a0)).setCell ⟨gb469, 2, none⟩ (.int .i64 0)).setCell ⟨gb469, 3, none⟩ (.int .i64 0)).setCell ⟨gb469, 4, none⟩ (.int .i64 0)).heap[gb469]? = some (.cells #[.int .i64 3, .string a0, .int .i64 0, .int .i64 0, .int .i64 0] 33 (0, 0))) := ⟨by (with_reducible repeat (first | refine blk_drewN ?_ _ | refine blk_drew ?_ | refine blk_alloc ?_ _)); refine blk_put (cs := #[.int .i64 3, .string a0, .int .i64 0, .int .i64 0, .int .i64 0]) ?_ 4 _ rfl; (with_reducible repeat (first | refine blk_drewN ?_ _ | refine blk_drew ?_ | refine blk_alloc ?_ _)); refine blk_put (cs := #[.int .i64 3, .string a0, .int .i64 0, .int .i64 0, .int .i64 0]) ?_ 3 _ rfl; (with_reducible repeat (first | refine blk_drewN ?_ _ | refine blk_drew ?_ | refine blk_alloc ?_ _)); refine blk_put (cs := #[.int .i64 3, .string a0, .int .i64 0, .int .i64 0, .int .i64 0]) ?_ 2 _ rfl; (with_reducible repeat (first | refine blk_drewN ?_ _ | refine blk_drew ?_ | refine blk_alloc ?_ _)); refine blk_put (cs := #[.int .i64 3, .string (⟨#[]⟩ : ByteArray), .int .i64 0, .int .i64 0, .int .i64 0]) ?_ 1 _ rfl; (with_reducible repeat (first | refine blk_drewN ?_ _ | refine blk_drew ?_ | refine blk_alloc ?_ _)); refine blk_put (cs := #[.int .i64 0, .string (⟨#[]⟩ : ByteArray), .int .i64 0, .int .i64 0, .int .i64 0]) ?_ 0 _ rfl; (with_reducible repeat (first | refine blk_drewN ?_ _ | refine blk_drew ?_ | refine blk_alloc ?_ _)); exact BK469.out⟩
           have n5_ : Aside0 (Below w.heap.size w (((((w76.setCell ⟨gb469, 0, none⟩ (.int .i64 3)).setCell ⟨gb469, 1, none⟩ (.string a0)).setCell ⟨gb469, 2, none⟩ (.int .i64 0)).setCell ⟨gb469, 3, none⟩ (.int .i64 0)).setCell ⟨gb469, 4, none⟩ (.int .i64 0))) := ⟨by repeat (first | (with_reducible first | exact HB.out | apply below_alloc | apply pw_below_drewN | apply below_drew1 | refine below_set ?_ GE460.out | refine below_set ?_ GE467.out | refine below_set ?_ GE469.out) | exact HB.out)⟩
           (try clear HO_6)
           (try clear HO_9)
           (try clear BK460)
           (try clear BK467)
           (try clear BK469)
           (try clear HB)
           generalize (((((w76.setCell ⟨gb469, 0, none⟩ (.int .i64 3)).setCell ⟨gb469, 1, none⟩ (.string a0)).setCell ⟨gb469, 2, none⟩ (.int .i64 0)).setCell ⟨gb469, 3, none⟩ (.int .i64 0)).setCell ⟨gb469, 4, none⟩ (.int .i64 0)) = w80 at n0_ n1_ n2_ n3_ n4_ n5_ ⊢
           have HO_6 := n0_
           have HO_9 := n1_
           have BK460 := n2_
           have BK467 := n3_
           have BK469 := n4_
           have HB := n5_
           clear n0_ n1_ n2_ n3_ n4_ n5_
           have n0_ := Aside0.mk (Kd.R_drew HO_6.out)
           have n1_ := Aside0.mk (Kd.R_drew HO_9.out)
           have n2_ := Aside0.mk (blk_drew BK460.out)
           have n3_ := Aside0.mk (blk_drew BK467.out)
           have n4_ := Aside0.mk (blk_drew BK469.out)
           have n5_ := Aside0.mk (below_drew1 HB.out)
           clear HO_6
           clear HO_9
           clear BK460
           clear BK467
           clear BK469
           clear HB
           have HO_6 := n0_
           have HO_9 := n1_
           have BK460 := n2_
           have BK467 := n3_
           have BK469 := n4_
           have HB := n5_
           clear n0_ n1_ n2_ n3_ n4_ n5_
           obtain ⟨Ao82, co82, eo82⟩ := Kd.R_slice HO_6.out
           (first | subst eo82 | (injection eo82 with f1_ f2_ f3_; have f4_ := f1_.symm; have f5_ := f3_.symm; clear f1_ f2_ f3_; subst f4_; subst f5_))
           have p470 : 0 ≤ (0 : Int) := (by omega)
           have q470 : 0 < (t455.length : Int) := of_decide_eq_true (by first | (with_reducible assumption) | assumption)
           obtain ⟨ad470, e470, hx470_0, hx470_1, hx470_2, hx470_3, hx470_4⟩ := at_T33 (Kd.R_reads' HO_6.out).2.2 0 p470 q470
           cases e470
           have qi470 : (0 < t455.length) = True := eq_true (by omega)
           (try simp only [show ((0 : Int)).toNat = 0 from rfl, show 0 * 5 = 0 from rfl, Addr.add_zero'] at hx470_0 hx470_1 hx470_2 hx470_3 hx470_4)
           replace p470 := eq_true p470
           replace q470 := eq_true q470
           have p476 : 0 ≤ (0 : Int) := (by omega)
           have q476 : 0 < (t462.length : Int) := of_decide_eq_true (by first | (with_reducible assumption) | assumption)
           obtain ⟨Aoz, coz, eoz⟩ := Kd.R_slice HO_9.out
           subst eoz
           obtain ⟨ad476, e476, hx476_0, hx476_1, hx476_2, hx476_3, hx476_4⟩ := at_T33 (Kd.R_reads' HO_9.out).2.2 0 p476 q476
           cases e476
           have qi476 : (0 < t462.length) = True := eq_true (by omega)
           (try simp only [show ((0 : Int)).toNat = 0 from rfl, show 0 * 5 = 0 from rfl, Addr.add_zero'] at hx476_0 hx476_1 hx476_2 hx476_3 hx476_4)
           replace p476 := eq_true p476
           replace q476 := eq_true q476
           refine start_ (n := 33) (S := fun w' => w'.cell? ⟨gb469, 0, none⟩ = some (.int .i64 3) ∧ w'.cell? ⟨gb469, 1, none⟩ = some (.string a0) ∧ w'.cell? ⟨gb469, 2, none⟩ = some (.int .i64 0) ∧ w'.cell? ⟨gb469, 3, none⟩ = some (.int .i64 0) ∧ w'.cell? ⟨gb469, 4, none⟩ = some (.int .i64 0) ∧ w'.cell? ad470 = some (.int .i64 ((rd_T33 t455 0).f0)) ∧ w'.cell? ⟨ad470.block, ad470.off + 1, none⟩ = some (.string ((rd_T33 t455 0).f1)) ∧ w'.cell? ⟨ad470.block, ad470.off + 2, none⟩ = some (.int .i64 ((rd_T33 t455 0).f2)) ∧ w'.cell? ⟨ad470.block, ad470.off + 3, none⟩ = some (.int .i64 ((rd_T33 t455 0).f3)) ∧ w'.cell? ⟨ad470.block, ad470.off + 4, none⟩ = some (.int .i64 ((rd_T33 t455 0).f4)) ∧ w'.cell? ad476 = some (.int .i64 ((rd_T33 t462 0).f0)) ∧ w'.cell? ⟨ad476.block, ad476.off + 1, none⟩ = some (.string ((rd_T33 t462 0).f1)) ∧ w'.cell? ⟨ad476.block, ad476.off + 2, none⟩ = some (.int .i64 ((rd_T33 t462 0).f2)) ∧ w'.cell? ⟨ad476.block, ad476.off + 3, none⟩ = some (.int .i64 ((rd_T33 t462 0).f3)) ∧ w'.cell? ⟨ad476.block, ad476.off + 4, none⟩ = some (.int .i64 ((rd_T33 t462 0).f4))) (ds := []) #[f_,f_,f_,f_,f_,f_,f_,f_,f_,f_,f_,f_,f_,f_,f_,f_,f_,f_,f_,f_,f_,f_,f_,f_,f_,f_,f_,f_,f_,f_,f_,f_,f_] (by kernel_rfl) rfl rfl ⟨(blk_cell BK469.out 0).trans rfl, (blk_cell BK469.out 1).trans rfl, (blk_cell BK469.out 2).trans rfl, (blk_cell BK469.out 3).trans rfl, (blk_cell BK469.out 4).trans rfl, hx470_0, hx470_1, hx470_2, hx470_3, hx470_4, hx476_0, hx476_1, hx476_2, hx476_3, hx476_4⟩ (fun hHeld => ?_); refine with_tabW hearsaylaw04_TokensQuoted.tab13 hearsaylaw04_TokensQuoted.bits13 (fun HT_ HW_ => ?_)
           generalize w80.drew = w81 at HO_6 HO_9 BK460 BK467 BK469 HB hx470_0 hx470_1 hx470_2 hx470_3 hx470_4 hx476_0 hx476_1 hx476_2 hx476_3 hx476_4 hHeld ⊢
           refine pB_ HT_ 0 72 #[t_,f_,f_,f_,f_,f_,f_,f_,f_,f_,f_,f_,f_,f_,f_,f_,f_,f_,f_,f_,f_,f_,f_,f_,f_,f_,f_,f_,f_,f_,f_,f_,f_] ?_
           refine pB_ HT_ 1 73 #[t_,t_,f_,f_,f_,f_,f_,f_,f_,f_,f_,f_,f_,f_,f_,f_,f_,f_,f_,f_,f_,f_,f_,f_,f_,f_,f_,f_,f_,f_,f_,f_,f_] ?_
           refine take_ (i := 2) (N := some 74) (v := ?_) (a' := ?_) #[t_,t_,t_,f_,f_,f_,f_,f_,f_,f_,f_,f_,f_,f_,f_,f_,f_,f_,f_,f_,f_,f_,f_,f_,f_,f_,f_,f_,f_,f_,f_,f_,f_] rfl rfl (take_ofW HT_.out HW_.out (by kernel_rfl)) (fun _ _ _ h => h) (Or.inl ⟨by rfl, ?_⟩) hHeld ?_ ?_
           rotate_left
           ·rintro w' ⟨s0, s1, s2, s3, s4, s5, s6, s7, s8, s9, s10, s11, s12, s13, s14⟩
            go_simp
            with_reducible rfl
           rotate_left
           ·simp only [Act.put, List.setIfInBounds_toArray, List.set_cons_zero, List.set_cons_succ, i64_w, i32_w]
            rfl
           refine take_ (i := 4) (N := some 76) (v := ?_) (a' := ?_) #[t_,t_,t_,f_,t_,f_,f_,f_,f_,f_,f_,f_,f_,f_,f_,f_,f_,f_,f_,f_,f_,f_,f_,f_,f_,f_,f_,f_,f_,f_,f_,f_,f_] rfl rfl (take_ofW HT_.out HW_.out (by kernel_rfl)) (fun _ _ _ h => h) (Or.inl ⟨by rfl, ?_⟩) hHeld ?_ ?_
           rotate_left
           ·rintro w' ⟨s0, s1, s2, s3, s4, s5, s6, s7, s8, s9, s10, s11, s12, s13, s14⟩
            go_simp
            with_reducible rfl
           rotate_left
           ·simp only [Act.put, List.setIfInBounds_toArray, List.set_cons_zero, List.set_cons_succ, i64_w, i32_w]
            rfl
           refine one_ (i := 3) (N := some 75) #[t_,t_,t_,t_,t_,f_,f_,f_,f_,f_,f_,f_,f_,f_,f_,f_,f_,f_,f_,f_,f_,f_,f_,f_,f_,f_,f_,f_,f_,f_,f_,f_,f_] rfl rfl (one_of HT_.out (by kernel_rfl)) (by decide) (fun K hK => ?_)
           refine goes_ Tryd.func25 (by kernel_rfl) rfl #[.agg #[.int .i64 ((rd_T33 t455 0).f0), .string ((rd_T33 t455 0).f1), .int .i64 ((rd_T33 t455 0).f2), .int .i64 ((rd_T33 t455 0).f3), .int .i64 ((rd_T33 t455 0).f4)]] (by rfl) rfl rfl (by (try simp only [List.map_toArray, List.map_cons, List.map_nil]); first | done | rfl | (simp only [List.length_drop, List.length_take]; rfl) | (simp only [beq_nil_, bne_nil_]; rfl) | (simp only [ByteArray.size_extract, Nat.min_self]; rfl)) ?_
           with_reducible refine (hearsaylaw04_bare.calls ((rd_T33 t455 0).f0) ((rd_T33 t455 0).f1) ((rd_T33 t455 0).f2) ((rd_T33 t455 0).f3) ((rd_T33 t455 0).f4) t471 t472 t473 t474 t475 _ A50.out).mono ?_
           rintro e w83 ⟨rfl, hb⟩
           have HS5_ := (hb.cell (World.block_lt_of_cell? _ _ (hHeld.2.2.2.2.2.1))).trans (hHeld.2.2.2.2.2.1)
           have HS6_ := (hb.cell (World.block_lt_of_cell? _ _ (hHeld.2.2.2.2.2.2.1))).trans (hHeld.2.2.2.2.2.2.1)
           have HS7_ := (hb.cell (World.block_lt_of_cell? _ _ (hHeld.2.2.2.2.2.2.2.1))).trans (hHeld.2.2.2.2.2.2.2.1)
           have HS8_ := (hb.cell (World.block_lt_of_cell? _ _ (hHeld.2.2.2.2.2.2.2.2.1))).trans (hHeld.2.2.2.2.2.2.2.2.1)
           have HS9_ := (hb.cell (World.block_lt_of_cell? _ _ (hHeld.2.2.2.2.2.2.2.2.2.1))).trans (hHeld.2.2.2.2.2.2.2.2.2.1)
           have HS10_ := (hb.cell (World.block_lt_of_cell? _ _ (hHeld.2.2.2.2.2.2.2.2.2.2.1))).trans (hHeld.2.2.2.2.2.2.2.2.2.2.1)
           have HS11_ := (hb.cell (World.block_lt_of_cell? _ _ (hHeld.2.2.2.2.2.2.2.2.2.2.2.1))).trans (hHeld.2.2.2.2.2.2.2.2.2.2.2.1)
           have HS12_ := (hb.cell (World.block_lt_of_cell? _ _ (hHeld.2.2.2.2.2.2.2.2.2.2.2.2.1))).trans (hHeld.2.2.2.2.2.2.2.2.2.2.2.2.1)
           have HS13_ := (hb.cell (World.block_lt_of_cell? _ _ (hHeld.2.2.2.2.2.2.2.2.2.2.2.2.2.1))).trans (hHeld.2.2.2.2.2.2.2.2.2.2.2.2.2.1)
           have HS14_ := (hb.cell (World.block_lt_of_cell? _ _ (hHeld.2.2.2.2.2.2.2.2.2.2.2.2.2.2))).trans (hHeld.2.2.2.2.2.2.2.2.2.2.2.2.2.2)
           refine ⟨_, rfl, ?_⟩
           have n0_ := Aside0.mk (Kd.R_below (by (with_reducible repeat (first | apply Kd.R_alloc | apply Kd.R_drewN | apply Kd.R_drew)); exact HO_6.out) hb)
           have n1_ := Aside0.mk (Kd.R_below (by (with_reducible repeat (first | apply Kd.R_alloc | apply Kd.R_drewN | apply Kd.R_drew)); exact HO_9.out) hb)
           have n2_ := Aside0.mk (blk_below (g := gb460) (o := .cells #[.int .i64 t458, .int .i64 t459] 26 (0, 0)) (by (with_reducible repeat (first | refine blk_drewN ?_ _ | refine blk_drew ?_ | refine blk_alloc ?_ _)); exact BK460.out) hb)
           have n3_ := Aside0.mk (blk_below (g := gb467) (o := .cells #[.int .i64 t465, .int .i64 t466] 26 (0, 0)) (by (with_reducible repeat (first | refine blk_drewN ?_ _ | refine blk_drew ?_ | refine blk_alloc ?_ _)); exact BK467.out) hb)
           have n4_ := Aside0.mk (blk_below (g := gb469) (o := .cells #[.int .i64 3, .string a0, .int .i64 0, .int .i64 0, .int .i64 0] 33 (0, 0)) (by (with_reducible repeat (first | refine blk_drewN ?_ _ | refine blk_drew ?_ | refine blk_alloc ?_ _)); exact BK469.out) hb)
           have n5_ := Aside0.mk (below_step (by repeat (first | (with_reducible first | exact HB.out | apply below_alloc | apply pw_below_drewN | apply below_drew1 | refine below_set ?_ GE460.out | refine below_set ?_ GE467.out | refine below_set ?_ GE469.out) | exact HB.out)) hb)
           clear HO_6
           clear HO_9
           clear BK460
           clear BK467
           clear BK469
           clear HB
           have HO_6 := n0_
           have HO_9 := n1_
           have BK460 := n2_
           have BK467 := n3_
           have BK469 := n4_
           have HB := n5_
           clear n0_ n1_ n2_ n3_ n4_ n5_
           (try clear hb)
           (try clear hb2)
           (try clear hk)
           (try clear hi)
           obtain ⟨Ao84, co84, eo84⟩ := Kd.R_slice HO_9.out
           (first | subst eo84 | (injection eo84 with f1_ f2_ f3_; have f4_ := f1_.symm; have f5_ := f3_.symm; clear f1_ f2_ f3_; subst f4_; subst f5_))
           refine hK.out _ _ ⟨(blk_cell BK469.out 0).trans rfl, (blk_cell BK469.out 1).trans rfl, (blk_cell BK469.out 2).trans rfl, (blk_cell BK469.out 3).trans rfl, (blk_cell BK469.out 4).trans rfl, HS5_, HS6_, HS7_, HS8_, HS9_, HS10_, HS11_, HS12_, HS13_, HS14_⟩ (fun hHeld => ?_)
           clear hK K
           refine norm_ (a' := ?_) ?_ ?_
           rotate_left
           ·show Act.put _ (some 75) _ = _
            simp only [Act.put, List.setIfInBounds_toArray, List.set_cons_zero, List.set_cons_succ, i64_w, i32_w]
            rfl
           refine pB_ HT_ 5 77 #[t_,t_,t_,t_,t_,t_,f_,f_,f_,f_,f_,f_,f_,f_,f_,f_,f_,f_,f_,f_,f_,f_,f_,f_,f_,f_,f_,f_,f_,f_,f_,f_,f_] ?_
           refine pB_ HT_ 6 78 #[t_,t_,t_,t_,t_,t_,t_,f_,f_,f_,f_,f_,f_,f_,f_,f_,f_,f_,f_,f_,f_,f_,f_,f_,f_,f_,f_,f_,f_,f_,f_,f_,f_] ?_
           refine pB_ HT_ 7 79 #[t_,t_,t_,t_,t_,t_,t_,t_,f_,f_,f_,f_,f_,f_,f_,f_,f_,f_,f_,f_,f_,f_,f_,f_,f_,f_,f_,f_,f_,f_,f_,f_,f_] ?_
           refine pB_ HT_ 8 80 #[t_,t_,t_,t_,t_,t_,t_,t_,t_,f_,f_,f_,f_,f_,f_,f_,f_,f_,f_,f_,f_,f_,f_,f_,f_,f_,f_,f_,f_,f_,f_,f_,f_] ?_
           refine take_ (i := 9) (N := some 81) (v := ?_) (a' := ?_) #[t_,t_,t_,t_,t_,t_,t_,t_,t_,t_,f_,f_,f_,f_,f_,f_,f_,f_,f_,f_,f_,f_,f_,f_,f_,f_,f_,f_,f_,f_,f_,f_,f_] rfl rfl (take_ofW HT_.out HW_.out (by kernel_rfl)) (fun _ _ _ h => h) (Or.inl ⟨by rfl, ?_⟩) hHeld ?_ ?_
           rotate_left
           ·rintro w' ⟨s0, s1, s2, s3, s4, s5, s6, s7, s8, s9, s10, s11, s12, s13, s14⟩
            go_simp
            with_reducible rfl
           rotate_left
           ·simp only [Act.put, List.setIfInBounds_toArray, List.set_cons_zero, List.set_cons_succ, i64_w, i32_w]
            rfl
           refine take_ (i := 11) (N := some 83) (v := ?_) (a' := ?_) #[t_,t_,t_,t_,t_,t_,t_,t_,t_,t_,f_,t_,f_,f_,f_,f_,f_,f_,f_,f_,f_,f_,f_,f_,f_,f_,f_,f_,f_,f_,f_,f_,f_] rfl rfl (take_ofW HT_.out HW_.out (by kernel_rfl)) (fun _ _ _ h => h) (Or.inl ⟨by rfl, ?_⟩) hHeld ?_ ?_
           rotate_left
           ·rintro w' ⟨s0, s1, s2, s3, s4, s5, s6, s7, s8, s9, s10, s11, s12, s13, s14⟩
            go_simp
            with_reducible rfl
           rotate_left
           ·simp only [Act.put, List.setIfInBounds_toArray, List.set_cons_zero, List.set_cons_succ, i64_w, i32_w]
            rfl
           refine one_ (i := 10) (N := some 82) #[t_,t_,t_,t_,t_,t_,t_,t_,t_,t_,t_,t_,f_,f_,f_,f_,f_,f_,f_,f_,f_,f_,f_,f_,f_,f_,f_,f_,f_,f_,f_,f_,f_] rfl rfl (one_of HT_.out (by kernel_rfl)) (by decide) (fun K hK => ?_)
           refine goes_ Tryd.func25 (by kernel_rfl) rfl #[.agg #[.int .i64 ((rd_T33 t462 0).f0), .string ((rd_T33 t462 0).f1), .int .i64 ((rd_T33 t462 0).f2), .int .i64 ((rd_T33 t462 0).f3), .int .i64 ((rd_T33 t462 0).f4)]] (by rfl) rfl rfl (by (try simp only [List.map_toArray, List.map_cons, List.map_nil]); first | done | rfl | (simp only [List.length_drop, List.length_take]; rfl) | (simp only [beq_nil_, bne_nil_]; rfl) | (simp only [ByteArray.size_extract, Nat.min_self]; rfl)) ?_
           with_reducible refine (hearsaylaw04_bare.calls ((rd_T33 t462 0).f0) ((rd_T33 t462 0).f1) ((rd_T33 t462 0).f2) ((rd_T33 t462 0).f3) ((rd_T33 t462 0).f4) t477 t478 t479 t480 t481 _ A53.out).mono ?_
           rintro e w85 ⟨rfl, hb⟩
           have HS5_ := (hb.cell (World.block_lt_of_cell? _ _ (hHeld.2.2.2.2.2.1))).trans (hHeld.2.2.2.2.2.1)
           have HS6_ := (hb.cell (World.block_lt_of_cell? _ _ (hHeld.2.2.2.2.2.2.1))).trans (hHeld.2.2.2.2.2.2.1)
           have HS7_ := (hb.cell (World.block_lt_of_cell? _ _ (hHeld.2.2.2.2.2.2.2.1))).trans (hHeld.2.2.2.2.2.2.2.1)
           have HS8_ := (hb.cell (World.block_lt_of_cell? _ _ (hHeld.2.2.2.2.2.2.2.2.1))).trans (hHeld.2.2.2.2.2.2.2.2.1)
           have HS9_ := (hb.cell (World.block_lt_of_cell? _ _ (hHeld.2.2.2.2.2.2.2.2.2.1))).trans (hHeld.2.2.2.2.2.2.2.2.2.1)
           have HS10_ := (hb.cell (World.block_lt_of_cell? _ _ (hHeld.2.2.2.2.2.2.2.2.2.2.1))).trans (hHeld.2.2.2.2.2.2.2.2.2.2.1)
           have HS11_ := (hb.cell (World.block_lt_of_cell? _ _ (hHeld.2.2.2.2.2.2.2.2.2.2.2.1))).trans (hHeld.2.2.2.2.2.2.2.2.2.2.2.1)
           have HS12_ := (hb.cell (World.block_lt_of_cell? _ _ (hHeld.2.2.2.2.2.2.2.2.2.2.2.2.1))).trans (hHeld.2.2.2.2.2.2.2.2.2.2.2.2.1)
           have HS13_ := (hb.cell (World.block_lt_of_cell? _ _ (hHeld.2.2.2.2.2.2.2.2.2.2.2.2.2.1))).trans (hHeld.2.2.2.2.2.2.2.2.2.2.2.2.2.1)
           have HS14_ := (hb.cell (World.block_lt_of_cell? _ _ (hHeld.2.2.2.2.2.2.2.2.2.2.2.2.2.2))).trans (hHeld.2.2.2.2.2.2.2.2.2.2.2.2.2.2)
           refine ⟨_, rfl, ?_⟩
           have n0_ := Aside0.mk (Kd.R_below (by (with_reducible repeat (first | apply Kd.R_alloc | apply Kd.R_drewN | apply Kd.R_drew)); exact HO_6.out) hb)
           have n1_ := Aside0.mk (Kd.R_below (by (with_reducible repeat (first | apply Kd.R_alloc | apply Kd.R_drewN | apply Kd.R_drew)); exact HO_9.out) hb)
           have n2_ := Aside0.mk (blk_below (g := gb460) (o := .cells #[.int .i64 t458, .int .i64 t459] 26 (0, 0)) (by (with_reducible repeat (first | refine blk_drewN ?_ _ | refine blk_drew ?_ | refine blk_alloc ?_ _)); exact BK460.out) hb)
           have n3_ := Aside0.mk (blk_below (g := gb467) (o := .cells #[.int .i64 t465, .int .i64 t466] 26 (0, 0)) (by (with_reducible repeat (first | refine blk_drewN ?_ _ | refine blk_drew ?_ | refine blk_alloc ?_ _)); exact BK467.out) hb)
           have n4_ := Aside0.mk (blk_below (g := gb469) (o := .cells #[.int .i64 3, .string a0, .int .i64 0, .int .i64 0, .int .i64 0] 33 (0, 0)) (by (with_reducible repeat (first | refine blk_drewN ?_ _ | refine blk_drew ?_ | refine blk_alloc ?_ _)); exact BK469.out) hb)
           have n5_ := Aside0.mk (below_step (by repeat (first | (with_reducible first | exact HB.out | apply below_alloc | apply pw_below_drewN | apply below_drew1 | refine below_set ?_ GE460.out | refine below_set ?_ GE467.out | refine below_set ?_ GE469.out) | exact HB.out)) hb)
           clear HO_6
           clear HO_9
           clear BK460
           clear BK467
           clear BK469
           clear HB
           have HO_6 := n0_
           have HO_9 := n1_
           have BK460 := n2_
           have BK467 := n3_
           have BK469 := n4_
           have HB := n5_
           clear n0_ n1_ n2_ n3_ n4_ n5_
           (try clear hb)
           (try clear hb2)
           (try clear hk)
           (try clear hi)
           refine hK.out _ _ ⟨(blk_cell BK469.out 0).trans rfl, (blk_cell BK469.out 1).trans rfl, (blk_cell BK469.out 2).trans rfl, (blk_cell BK469.out 3).trans rfl, (blk_cell BK469.out 4).trans rfl, HS5_, HS6_, HS7_, HS8_, HS9_, HS10_, HS11_, HS12_, HS13_, HS14_⟩ (fun hHeld => ?_)
           clear hK K
           refine norm_ (a' := ?_) ?_ ?_
           rotate_left
           ·show Act.put _ (some 82) _ = _
            simp only [Act.put, List.setIfInBounds_toArray, List.set_cons_zero, List.set_cons_succ, i64_w, i32_w]
            rfl
           refine pB_ HT_ 12 84 #[t_,t_,t_,t_,t_,t_,t_,t_,t_,t_,t_,t_,t_,f_,f_,f_,f_,f_,f_,f_,f_,f_,f_,f_,f_,f_,f_,f_,f_,f_,f_,f_,f_] ?_
           refine pB_ HT_ 13 85 #[t_,t_,t_,t_,t_,t_,t_,t_,t_,t_,t_,t_,t_,t_,f_,f_,f_,f_,f_,f_,f_,f_,f_,f_,f_,f_,f_,f_,f_,f_,f_,f_,f_] ?_
           refine pB_ HT_ 14 86 #[t_,t_,t_,t_,t_,t_,t_,t_,t_,t_,t_,t_,t_,t_,t_,f_,f_,f_,f_,f_,f_,f_,f_,f_,f_,f_,f_,f_,f_,f_,f_,f_,f_] ?_
           refine pA_ HT_ 15 87 #[t_,t_,t_,t_,t_,t_,t_,t_,t_,t_,t_,t_,t_,t_,t_,t_,f_,f_,f_,f_,f_,f_,f_,f_,f_,f_,f_,f_,f_,f_,f_,f_,f_] ?_
           refine pA_ HT_ 16 88 #[t_,t_,t_,t_,t_,t_,t_,t_,t_,t_,t_,t_,t_,t_,t_,t_,t_,f_,f_,f_,f_,f_,f_,f_,f_,f_,f_,f_,f_,f_,f_,f_,f_] ?_
           refine pA_ HT_ 17 89 #[t_,t_,t_,t_,t_,t_,t_,t_,t_,t_,t_,t_,t_,t_,t_,t_,t_,t_,f_,f_,f_,f_,f_,f_,f_,f_,f_,f_,f_,f_,f_,f_,f_] ?_
           refine pA_ HT_ 18 90 #[t_,t_,t_,t_,t_,t_,t_,t_,t_,t_,t_,t_,t_,t_,t_,t_,t_,t_,t_,f_,f_,f_,f_,f_,f_,f_,f_,f_,f_,f_,f_,f_,f_] ?_
           refine pA_ HT_ 19 91 #[t_,t_,t_,t_,t_,t_,t_,t_,t_,t_,t_,t_,t_,t_,t_,t_,t_,t_,t_,t_,f_,f_,f_,f_,f_,f_,f_,f_,f_,f_,f_,f_,f_] ?_
           refine pA_ HT_ 20 92 #[t_,t_,t_,t_,t_,t_,t_,t_,t_,t_,t_,t_,t_,t_,t_,t_,t_,t_,t_,t_,t_,f_,f_,f_,f_,f_,f_,f_,f_,f_,f_,f_,f_] ?_
           refine pA_ HT_ 21 93 #[t_,t_,t_,t_,t_,t_,t_,t_,t_,t_,t_,t_,t_,t_,t_,t_,t_,t_,t_,t_,t_,t_,f_,f_,f_,f_,f_,f_,f_,f_,f_,f_,f_] ?_
           refine pB_ HT_ 22 94 #[t_,t_,t_,t_,t_,t_,t_,t_,t_,t_,t_,t_,t_,t_,t_,t_,t_,t_,t_,t_,t_,t_,t_,f_,f_,f_,f_,f_,f_,f_,f_,f_,f_] ?_
           refine pB_ HT_ 23 95 #[t_,t_,t_,t_,t_,t_,t_,t_,t_,t_,t_,t_,t_,t_,t_,t_,t_,t_,t_,t_,t_,t_,t_,t_,f_,f_,f_,f_,f_,f_,f_,f_,f_] ?_
           refine pA_ HT_ 24 96 #[t_,t_,t_,t_,t_,t_,t_,t_,t_,t_,t_,t_,t_,t_,t_,t_,t_,t_,t_,t_,t_,t_,t_,t_,t_,f_,f_,f_,f_,f_,f_,f_,f_] ?_
           refine pA_ HT_ 25 97 #[t_,t_,t_,t_,t_,t_,t_,t_,t_,t_,t_,t_,t_,t_,t_,t_,t_,t_,t_,t_,t_,t_,t_,t_,t_,t_,f_,f_,f_,f_,f_,f_,f_] ?_
           refine pA_ HT_ 26 98 #[t_,t_,t_,t_,t_,t_,t_,t_,t_,t_,t_,t_,t_,t_,t_,t_,t_,t_,t_,t_,t_,t_,t_,t_,t_,t_,t_,f_,f_,f_,f_,f_,f_] ?_
           refine pA_ HT_ 27 99 #[t_,t_,t_,t_,t_,t_,t_,t_,t_,t_,t_,t_,t_,t_,t_,t_,t_,t_,t_,t_,t_,t_,t_,t_,t_,t_,t_,t_,f_,f_,f_,f_,f_] ?_
           refine pA_ HT_ 28 100 #[t_,t_,t_,t_,t_,t_,t_,t_,t_,t_,t_,t_,t_,t_,t_,t_,t_,t_,t_,t_,t_,t_,t_,t_,t_,t_,t_,t_,t_,f_,f_,f_,f_] ?_
           refine pA_ HT_ 29 101 #[t_,t_,t_,t_,t_,t_,t_,t_,t_,t_,t_,t_,t_,t_,t_,t_,t_,t_,t_,t_,t_,t_,t_,t_,t_,t_,t_,t_,t_,t_,f_,f_,f_] ?_
           refine pA_ HT_ 30 102 #[t_,t_,t_,t_,t_,t_,t_,t_,t_,t_,t_,t_,t_,t_,t_,t_,t_,t_,t_,t_,t_,t_,t_,t_,t_,t_,t_,t_,t_,t_,t_,f_,f_] ?_
           refine pB_ HT_ 31 103 #[t_,t_,t_,t_,t_,t_,t_,t_,t_,t_,t_,t_,t_,t_,t_,t_,t_,t_,t_,t_,t_,t_,t_,t_,t_,t_,t_,t_,t_,t_,t_,t_,f_] ?_
           refine pB_ HT_ 32 4 #[t_,t_,t_,t_,t_,t_,t_,t_,t_,t_,t_,t_,t_,t_,t_,t_,t_,t_,t_,t_,t_,t_,t_,t_,t_,t_,t_,t_,t_,t_,t_,t_,t_] ?_
           refine done_ (done_of HT_.out (by kernel_rfl)) ?_
           try go_wp2
           go_ret
           exact ⟨by first | rfl | (simp [errW_none, errW_some] <;> rfl) | (simp [*, errW_none, errW_some] <;> rfl), by repeat (first | (with_reducible first | exact HB.out | apply below_alloc | apply pw_below_drewN | apply below_drew1 | refine below_set ?_ GE460.out | refine below_set ?_ GE467.out | refine below_set ?_ GE469.out) | exact HB.out)⟩
         ·rw [if_neg c52] at H
          exact absurd H (by simp)
        ·rw [if_neg c51] at H
         have c51b0 : (t471 == 3 && (t472.toList == a0.toList && (t473 == 0 && (t474 == 0 && (t475 == 0))))) = false := by simpa using c51
         (try (have c51b1 : decide (t471 = 3 && (t472.toList == a0.toList && (t473 == 0 && (t474 == 0 && (t475 == 0))))) = false := by simpa using c51))
         (try (have c51b2 : (t471 == 3 && (t472.toList == a0.toList && (t473 == 0 && (t474 == 0 && (t475 == 0))))) = false := by simpa using c51))
         (try (have c51b3 : ¬ (t471 = 3 && (t472.toList == a0.toList && (t473 == 0 && (t474 == 0 && (t475 == 0))))) := by simpa using c51))
         clear c51
         obtain rfl := Option.some.inj H
         try go_wp2_with (first | ((with_reducible refine gate_dst (N := 12) rfl ?_); (try (refine gate_guard (by rfl) ?_; dsimp only)); refine box_event ?hg (N := 12) ?hd (cs := #[.int .i64 0, .string (⟨#[]⟩ : ByteArray), .int .i64 0, .int .i64 0, .int .i64 0]) (t := 33) ?hr ?_; (case hd => rfl); (case hg => rfl); (case hr => first | (go_simp; done) | (go_simp; rfl)); intro gb469 hg w86 hbox hb; have n0_ := Aside0.mk (Kd.R_below (Kd.R_elderB (by (with_reducible repeat (first | apply Kd.R_alloc | apply Kd.R_drewN | apply Kd.R_drew)); exact HO_6.out) gb469 (Nat.le_of_eq hg.symm)) hb); have n1_ := Aside0.mk (Kd.R_below (Kd.R_elderB (by (with_reducible repeat (first | apply Kd.R_alloc | apply Kd.R_drewN | apply Kd.R_drew)); exact HO_9.out) gb469 (Nat.le_of_eq hg.symm)) hb); have n2_ := Aside0.mk (blk_below (g := gb460) (o := .cells #[.int .i64 t458, .int .i64 t459] 26 (0, 0)) (by (with_reducible repeat (first | refine blk_drewN ?_ _ | refine blk_drew ?_ | refine blk_alloc ?_ _)); exact BK460.out) hb); have n3_ := Aside0.mk (blk_below (g := gb467) (o := .cells #[.int .i64 t465, .int .i64 t466] 26 (0, 0)) (by (with_reducible repeat (first | refine blk_drewN ?_ _ | refine blk_drew ?_ | refine blk_alloc ?_ _)); exact BK467.out) hb); have n4_ := Aside0.mk (below_step (by repeat (first | (with_reducible first | exact HB.out | apply below_alloc | apply pw_below_drewN | apply below_drew1 | refine below_set ?_ GE460.out | refine below_set ?_ GE467.out) | exact HB.out)) hb); have n5_ := Aside0.mk (hbox); have n6_ := Aside0.mk ((by rw [hg]; exact (below_size (by repeat (first | (with_reducible first | exact HB.out | apply below_alloc | apply pw_below_drewN | apply below_drew1 | refine below_set ?_ GE460.out | refine below_set ?_ GE467.out) | exact HB.out))) : w.heap.size ≤ gb469)); have n7_ := Aside0.mk ((by rw [hg]; exact (below_size (by repeat (first | (with_reducible first | exact HB.out | apply below_alloc | apply pw_below_drewN | apply below_drew1 | refine below_set ?_ GE460.out | refine below_set ?_ GE467.out) | exact HB.out))) : w.heap.size ≤ gb469)); have n8_ := Aside0.mk ((by rw [hg]; exact Nat.ne_of_lt (blk_lt (g := gb460) (o := .cells #[.int .i64 t458, .int .i64 t459] 26 (0, 0)) (by (with_reducible repeat (first | refine blk_drewN ?_ _ | refine blk_drew ?_ | refine blk_alloc ?_ _)); exact BK460.out)) : gb460 ≠ gb469)); have n9_ := Aside0.mk ((by rw [hg]; exact Nat.ne_of_gt (blk_lt (g := gb460) (o := .cells #[.int .i64 t458, .int .i64 t459] 26 (0, 0)) (by (with_reducible repeat (first | refine blk_drewN ?_ _ | refine blk_drew ?_ | refine blk_alloc ?_ _)); exact BK460.out)) : gb469 ≠ gb460)); have n10_ := Aside0.mk ((by rw [hg]; exact Nat.ne_of_lt (blk_lt (g := gb467) (o := .cells #[.int .i64 t465, .int .i64 t466] 26 (0, 0)) (by (with_reducible repeat (first | refine blk_drewN ?_ _ | refine blk_drew ?_ | refine blk_alloc ?_ _)); exact BK467.out)) : gb467 ≠ gb469)); have n11_ := Aside0.mk ((by rw [hg]; exact Nat.ne_of_gt (blk_lt (g := gb467) (o := .cells #[.int .i64 t465, .int .i64 t466] 26 (0, 0)) (by (with_reducible repeat (first | refine blk_drewN ?_ _ | refine blk_drew ?_ | refine blk_alloc ?_ _)); exact BK467.out)) : gb469 ≠ gb467)); clear HO_6; clear HO_9; clear BK460; clear BK467; clear HB; have HO_6 := n0_; have HO_9 := n1_; have BK460 := n2_; have BK467 := n3_; have HB := n4_; have BK469 := n5_; have GW469 := n6_; have GE469 := n7_; have NB460_469 := n8_; have NB469_460 := n9_; have NB467_469 := n10_; have NB469_467 := n11_; clear n0_ n1_ n2_ n3_ n4_ n5_ n6_ n7_ n8_ n9_ n10_ n11_; clear hb hbox hg; have hnb87 := NB469_460.out; have hnc87 := NB460_469.out; have hnb88 := NB469_467.out; have hnc88 := NB467_469.out; have hcz89_0 : w86.cell? ⟨gb469, 0, none⟩ = some (.int .i64 0) := (blk_cell BK469.out 0).trans rfl; have hcz89_1 : w86.cell? ⟨gb469, 1, none⟩ = some (.string (⟨#[]⟩ : ByteArray)) := (blk_cell BK469.out 1).trans rfl; have hcz89_2 : w86.cell? ⟨gb469, 2, none⟩ = some (.int .i64 0) := (blk_cell BK469.out 2).trans rfl; have hcz89_3 : w86.cell? ⟨gb469, 3, none⟩ = some (.int .i64 0) := (blk_cell BK469.out 3).trans rfl; have hcz89_4 : w86.cell? ⟨gb469, 4, none⟩ = some (.int .i64 0) := (blk_cell BK469.out 4).trans rfl; have hfz89_0 := blk_frozen BK469.out 0; have hfz89_1 := blk_frozen BK469.out 1; have hfz89_2 := blk_frozen BK469.out 2; have hfz89_3 := blk_frozen BK469.out 3; have hfz89_4 := blk_frozen BK469.out 4))
         have n0_ : Aside0 (Kd.R k33 33 (((((w86.setCell ⟨gb469, 0, none⟩ (.int .i64 3)).setCell ⟨gb469, 1, none⟩ (.string a0)).setCell ⟨gb469, 2, none⟩ (.int .i64 0)).setCell ⟨gb469, 3, none⟩ (.int .i64 0)).setCell ⟨gb469, 4, none⟩ (.int .i64 0)) w.heap.size (fun k_ => some k_ ≠ (v463 : Value).ownBlock ∧ k_ ≠ gb469) v456 t455) := ⟨by (with_reducible repeat (first | apply Kd.R_alloc | apply Kd.R_drewN | apply Kd.R_drew)); exact Kd.R_mono (Kd.R_far (p := ⟨gb469, 4, none⟩) (Kd.R_far (p := ⟨gb469, 3, none⟩) (Kd.R_far (p := ⟨gb469, 2, none⟩) (Kd.R_far (p := ⟨gb469, 1, none⟩) (Kd.R_far (p := ⟨gb469, 0, none⟩) (Kd.R_mono HO_6.out (fun k_ hk => (⟨hk, hk.2⟩ : _ ∧ k_ ≠ gb469))) (fun _ hk => hk.2) (.int .i64 3)) (fun _ hk => hk.2) (.string a0)) (fun _ hk => hk.2) (.int .i64 0)) (fun _ hk => hk.2) (.int .i64 0)) (fun _ hk => hk.2) (.int .i64 0)) (fun _ hk => ⟨hk.1.1, hk.1.2⟩)⟩
         have n1_ : Aside0 (Kd.R k33 33 (((((w86.setCell ⟨gb469, 0, none⟩ (.int .i64 3)).setCell ⟨gb469, 1, none⟩ (.string a0)).setCell ⟨gb469, 2, none⟩ (.int .i64 0)).setCell ⟨gb469, 3, none⟩ (.int .i64 0)).setCell ⟨gb469, 4, none⟩ (.int .i64 0)) w.heap.size (fun k_ => some k_ ≠ (v456 : Value).ownBlock ∧ k_ ≠ gb469) v463 t462) := ⟨by (with_reducible repeat (first | apply Kd.R_alloc | apply Kd.R_drewN | apply Kd.R_drew)); exact Kd.R_mono (Kd.R_far (p := ⟨gb469, 4, none⟩) (Kd.R_far (p := ⟨gb469, 3, none⟩) (Kd.R_far (p := ⟨gb469, 2, none⟩) (Kd.R_far (p := ⟨gb469, 1, none⟩) (Kd.R_far (p := ⟨gb469, 0, none⟩) (Kd.R_mono HO_9.out (fun k_ hk => (⟨hk, hk.2⟩ : _ ∧ k_ ≠ gb469))) (fun _ hk => hk.2) (.int .i64 3)) (fun _ hk => hk.2) (.string a0)) (fun _ hk => hk.2) (.int .i64 0)) (fun _ hk => hk.2) (.int .i64 0)) (fun _ hk => hk.2) (.int .i64 0)) (fun _ hk => ⟨hk.1.1, hk.1.2⟩)⟩
         have n2_ : Aside0 ((((((w86.setCell ⟨gb469, 0, none⟩ (.int .i64 3)).setCell ⟨gb469, 1, none⟩ (.string a0)).setCell ⟨gb469, 2, none⟩ (.int .i64 0)).setCell ⟨gb469, 3, none⟩ (.int .i64 0)).setCell ⟨gb469, 4, none⟩ (.int .i64 0)).heap[gb460]? = some (.cells #[.int .i64 t458, .int .i64 t459] 26 (0, 0))) := ⟨by (with_reducible repeat (first | refine blk_drewN ?_ _ | refine blk_drew ?_ | refine blk_alloc ?_ _)); refine blk_far ?_ NB460_469.out _; (with_reducible repeat (first | refine blk_drewN ?_ _ | refine blk_drew ?_ | refine blk_alloc ?_ _)); refine blk_far ?_ NB460_469.out _; (with_reducible repeat (first | refine blk_drewN ?_ _ | refine blk_drew ?_ | refine blk_alloc ?_ _)); refine blk_far ?_ NB460_469.out _; (with_reducible repeat (first | refine blk_drewN ?_ _ | refine blk_drew ?_ | refine blk_alloc ?_ _)); refine blk_far ?_ NB460_469.out _; (with_reducible repeat (first | refine blk_drewN ?_ _ | refine blk_drew ?_ | refine blk_alloc ?_ _)); refine blk_far ?_ NB460_469.out _; (with_reducible repeat (first | refine blk_drewN ?_ _ | refine blk_drew ?_ | refine blk_alloc ?_ _)); exact BK460.out⟩
         have n3_ : Aside0 ((((((w86.setCell ⟨gb469, 0, none⟩ (.int .i64 3)).setCell ⟨gb469, 1, none⟩ (.string a0)).setCell ⟨gb469, 2, none⟩ (.int .i64 0)).setCell ⟨gb469, 3, none⟩ (.int .i64 0)).setCell ⟨gb469, 4, none⟩ (.int .i64 0)).heap[gb467]? = some (.cells #[.int .i64 t465, .int .i64 t466] 26 (0, 0))) := ⟨by (with_reducible repeat (first | refine blk_drewN ?_ _ | refine blk_drew ?_ | refine blk_alloc ?_ _)); refine blk_far ?_ NB467_469.out _; (with_reducible repeat (first | refine blk_drewN ?_ _ | refine blk_drew ?_ | refine blk_alloc ?_ _)); refine blk_far ?_ NB467_469.out _; (with_reducible repeat (first | refine blk_drewN ?_ _ | refine blk_drew ?_ | refine blk_alloc ?_ _)); refine blk_far ?_ NB467_469.out _; (with_reducible repeat (first | refine blk_drewN ?_ _ | refine blk_drew ?_ | refine blk_alloc ?_ _)); refine blk_far ?_ NB467_469.out _; (with_reducible repeat (first | refine blk_drewN ?_ _ | refine blk_drew ?_ | refine blk_alloc ?_ _)); refine blk_far ?_ NB467_469.out _; (with_reducible repeat (first | refine blk_drewN ?_ _ | refine blk_drew ?_ | refine blk_alloc ?_ _)); exact BK467.out⟩
         have n4_ : Aside0 ((((((w86.setCell ⟨gb469, 0, none⟩ (.int .i64 3)).setCell ⟨gb469, 1, none⟩ (.string a0)).setCell ⟨gb469, 2, none⟩ (.int .i64 0)).setCell ⟨gb469, 3, none⟩ (.int .i64 0)).setCell ⟨gb469, 4, none⟩ (.int .i64 0)).heap[gb469]? = some (.cells #[.int .i64 3, .string a0, .int .i64 0, .int .i64 0, .int .i64 0] 33 (0, 0))) := ⟨by (with_reducible repeat (first | refine blk_drewN ?_ _ | refine blk_drew ?_ | refine blk_alloc ?_ _)); refine blk_put (cs := #[.int .i64 3, .string a0, .int .i64 0, .int .i64 0, .int .i64 0]) ?_ 4 _ rfl; (with_reducible repeat (first | refine blk_drewN ?_ _ | refine blk_drew ?_ | refine blk_alloc ?_ _)); refine blk_put (cs := #[.int .i64 3, .string a0, .int .i64 0, .int .i64 0, .int .i64 0]) ?_ 3 _ rfl; (with_reducible repeat (first | refine blk_drewN ?_ _ | refine blk_drew ?_ | refine blk_alloc ?_ _)); refine blk_put (cs := #[.int .i64 3, .string a0, .int .i64 0, .int .i64 0, .int .i64 0]) ?_ 2 _ rfl; (with_reducible repeat (first | refine blk_drewN ?_ _ | refine blk_drew ?_ | refine blk_alloc ?_ _)); refine blk_put (cs := #[.int .i64 3, .string (⟨#[]⟩ : ByteArray), .int .i64 0, .int .i64 0, .int .i64 0]) ?_ 1 _ rfl; (with_reducible repeat (first | refine blk_drewN ?_ _ | refine blk_drew ?_ | refine blk_alloc ?_ _)); refine blk_put (cs := #[.int .i64 0, .string (⟨#[]⟩ : ByteArray), .int .i64 0, .int .i64 0, .int .i64 0]) ?_ 0 _ rfl; (with_reducible repeat (first | refine blk_drewN ?_ _ | refine blk_drew ?_ | refine blk_alloc ?_ _)); exact BK469.out⟩
         have n5_ : Aside0 (Below w.heap.size w (((((w86.setCell ⟨gb469, 0, none⟩ (.int .i64 3)).setCell ⟨gb469, 1, none⟩ (.string a0)).setCell ⟨gb469, 2, none⟩ (.int .i64 0)).setCell ⟨gb469, 3, none⟩ (.int .i64 0)).setCell ⟨gb469, 4, none⟩ (.int .i64 0))) := ⟨by repeat (first | (with_reducible first | exact HB.out | apply below_alloc | apply pw_below_drewN | apply below_drew1 | refine below_set ?_ GE460.out | refine below_set ?_ GE467.out | refine below_set ?_ GE469.out) | exact HB.out)⟩
         (try clear HO_6)
         (try clear HO_9)
         (try clear BK460)
         (try clear BK467)
         (try clear BK469)
         (try clear HB)
         generalize (((((w86.setCell ⟨gb469, 0, none⟩ (.int .i64 3)).setCell ⟨gb469, 1, none⟩ (.string a0)).setCell ⟨gb469, 2, none⟩ (.int .i64 0)).setCell ⟨gb469, 3, none⟩ (.int .i64 0)).setCell ⟨gb469, 4, none⟩ (.int .i64 0)) = w90 at n0_ n1_ n2_ n3_ n4_ n5_ ⊢
         have HO_6 := n0_
         have HO_9 := n1_
         have BK460 := n2_
         have BK467 := n3_
         have BK469 := n4_
         have HB := n5_
         clear n0_ n1_ n2_ n3_ n4_ n5_
         have n0_ := Aside0.mk (Kd.R_drew HO_6.out)
         have n1_ := Aside0.mk (Kd.R_drew HO_9.out)
         have n2_ := Aside0.mk (blk_drew BK460.out)
         have n3_ := Aside0.mk (blk_drew BK467.out)
         have n4_ := Aside0.mk (blk_drew BK469.out)
         have n5_ := Aside0.mk (below_drew1 HB.out)
         clear HO_6
         clear HO_9
         clear BK460
         clear BK467
         clear BK469
         clear HB
         have HO_6 := n0_
         have HO_9 := n1_
         have BK460 := n2_
         have BK467 := n3_
         have BK469 := n4_
         have HB := n5_
         clear n0_ n1_ n2_ n3_ n4_ n5_
         obtain ⟨Ao92, co92, eo92⟩ := Kd.R_slice HO_6.out
         (first | subst eo92 | (injection eo92 with f1_ f2_ f3_; have f4_ := f1_.symm; have f5_ := f3_.symm; clear f1_ f2_ f3_; subst f4_; subst f5_))
         have p470 : 0 ≤ (0 : Int) := (by omega)
         have q470 : 0 < (t455.length : Int) := of_decide_eq_true (by first | (with_reducible assumption) | assumption)
         obtain ⟨ad470, e470, hx470_0, hx470_1, hx470_2, hx470_3, hx470_4⟩ := at_T33 (Kd.R_reads' HO_6.out).2.2 0 p470 q470
         cases e470
         have qi470 : (0 < t455.length) = True := eq_true (by omega)
         (try simp only [show ((0 : Int)).toNat = 0 from rfl, show 0 * 5 = 0 from rfl, Addr.add_zero'] at hx470_0 hx470_1 hx470_2 hx470_3 hx470_4)
         replace p470 := eq_true p470
         replace q470 := eq_true q470
         refine start_ (n := 33) (S := fun w' => w'.cell? ⟨gb469, 0, none⟩ = some (.int .i64 3) ∧ w'.cell? ⟨gb469, 1, none⟩ = some (.string a0) ∧ w'.cell? ⟨gb469, 2, none⟩ = some (.int .i64 0) ∧ w'.cell? ⟨gb469, 3, none⟩ = some (.int .i64 0) ∧ w'.cell? ⟨gb469, 4, none⟩ = some (.int .i64 0) ∧ w'.cell? ad470 = some (.int .i64 ((rd_T33 t455 0).f0)) ∧ w'.cell? ⟨ad470.block, ad470.off + 1, none⟩ = some (.string ((rd_T33 t455 0).f1)) ∧ w'.cell? ⟨ad470.block, ad470.off + 2, none⟩ = some (.int .i64 ((rd_T33 t455 0).f2)) ∧ w'.cell? ⟨ad470.block, ad470.off + 3, none⟩ = some (.int .i64 ((rd_T33 t455 0).f3)) ∧ w'.cell? ⟨ad470.block, ad470.off + 4, none⟩ = some (.int .i64 ((rd_T33 t455 0).f4))) (ds := []) #[f_,f_,f_,f_,f_,f_,f_,f_,f_,f_,f_,f_,f_,f_,f_,f_,f_,f_,f_,f_,f_,f_,f_,f_,f_,f_,f_,f_,f_,f_,f_,f_,f_] (by kernel_rfl) rfl rfl ⟨(blk_cell BK469.out 0).trans rfl, (blk_cell BK469.out 1).trans rfl, (blk_cell BK469.out 2).trans rfl, (blk_cell BK469.out 3).trans rfl, (blk_cell BK469.out 4).trans rfl, hx470_0, hx470_1, hx470_2, hx470_3, hx470_4⟩ (fun hHeld => ?_); refine with_tabW hearsaylaw04_TokensQuoted.tab13 hearsaylaw04_TokensQuoted.bits13 (fun HT_ HW_ => ?_)
         generalize w90.drew = w91 at HO_6 HO_9 BK460 BK467 BK469 HB hx470_0 hx470_1 hx470_2 hx470_3 hx470_4 hHeld ⊢
         refine pB_ HT_ 0 72 #[t_,f_,f_,f_,f_,f_,f_,f_,f_,f_,f_,f_,f_,f_,f_,f_,f_,f_,f_,f_,f_,f_,f_,f_,f_,f_,f_,f_,f_,f_,f_,f_,f_] ?_
         refine pB_ HT_ 1 73 #[t_,t_,f_,f_,f_,f_,f_,f_,f_,f_,f_,f_,f_,f_,f_,f_,f_,f_,f_,f_,f_,f_,f_,f_,f_,f_,f_,f_,f_,f_,f_,f_,f_] ?_
         refine take_ (i := 2) (N := some 74) (v := ?_) (a' := ?_) #[t_,t_,t_,f_,f_,f_,f_,f_,f_,f_,f_,f_,f_,f_,f_,f_,f_,f_,f_,f_,f_,f_,f_,f_,f_,f_,f_,f_,f_,f_,f_,f_,f_] rfl rfl (take_ofW HT_.out HW_.out (by kernel_rfl)) (fun _ _ _ h => h) (Or.inl ⟨by rfl, ?_⟩) hHeld ?_ ?_
         rotate_left
         ·rintro w' ⟨s0, s1, s2, s3, s4, s5, s6, s7, s8, s9⟩
          go_simp
          with_reducible rfl
         rotate_left
         ·simp only [Act.put, List.setIfInBounds_toArray, List.set_cons_zero, List.set_cons_succ, i64_w, i32_w]
          rfl
         refine take_ (i := 4) (N := some 76) (v := ?_) (a' := ?_) #[t_,t_,t_,f_,t_,f_,f_,f_,f_,f_,f_,f_,f_,f_,f_,f_,f_,f_,f_,f_,f_,f_,f_,f_,f_,f_,f_,f_,f_,f_,f_,f_,f_] rfl rfl (take_ofW HT_.out HW_.out (by kernel_rfl)) (fun _ _ _ h => h) (Or.inl ⟨by rfl, ?_⟩) hHeld ?_ ?_
         rotate_left
         ·rintro w' ⟨s0, s1, s2, s3, s4, s5, s6, s7, s8, s9⟩
          go_simp
          with_reducible rfl
         rotate_left
         ·simp only [Act.put, List.setIfInBounds_toArray, List.set_cons_zero, List.set_cons_succ, i64_w, i32_w]
          rfl
         refine one_ (i := 3) (N := some 75) #[t_,t_,t_,t_,t_,f_,f_,f_,f_,f_,f_,f_,f_,f_,f_,f_,f_,f_,f_,f_,f_,f_,f_,f_,f_,f_,f_,f_,f_,f_,f_,f_,f_] rfl rfl (one_of HT_.out (by kernel_rfl)) (by decide) (fun K hK => ?_)
         refine goes_ Tryd.func25 (by kernel_rfl) rfl #[.agg #[.int .i64 ((rd_T33 t455 0).f0), .string ((rd_T33 t455 0).f1), .int .i64 ((rd_T33 t455 0).f2), .int .i64 ((rd_T33 t455 0).f3), .int .i64 ((rd_T33 t455 0).f4)]] (by rfl) rfl rfl (by (try simp only [List.map_toArray, List.map_cons, List.map_nil]); first | done | rfl | (simp only [List.length_drop, List.length_take]; rfl) | (simp only [beq_nil_, bne_nil_]; rfl) | (simp only [ByteArray.size_extract, Nat.min_self]; rfl)) ?_
         with_reducible refine (hearsaylaw04_bare.calls ((rd_T33 t455 0).f0) ((rd_T33 t455 0).f1) ((rd_T33 t455 0).f2) ((rd_T33 t455 0).f3) ((rd_T33 t455 0).f4) t471 t472 t473 t474 t475 _ A50.out).mono ?_
         rintro e w93 ⟨rfl, hb⟩
         have HS5_ := (hb.cell (World.block_lt_of_cell? _ _ (hHeld.2.2.2.2.2.1))).trans (hHeld.2.2.2.2.2.1)
         have HS6_ := (hb.cell (World.block_lt_of_cell? _ _ (hHeld.2.2.2.2.2.2.1))).trans (hHeld.2.2.2.2.2.2.1)
         have HS7_ := (hb.cell (World.block_lt_of_cell? _ _ (hHeld.2.2.2.2.2.2.2.1))).trans (hHeld.2.2.2.2.2.2.2.1)
         have HS8_ := (hb.cell (World.block_lt_of_cell? _ _ (hHeld.2.2.2.2.2.2.2.2.1))).trans (hHeld.2.2.2.2.2.2.2.2.1)
         have HS9_ := (hb.cell (World.block_lt_of_cell? _ _ (hHeld.2.2.2.2.2.2.2.2.2))).trans (hHeld.2.2.2.2.2.2.2.2.2)
         refine ⟨_, rfl, ?_⟩
         have n0_ := Aside0.mk (Kd.R_below (by (with_reducible repeat (first | apply Kd.R_alloc | apply Kd.R_drewN | apply Kd.R_drew)); exact HO_6.out) hb)
         have n1_ := Aside0.mk (Kd.R_below (by (with_reducible repeat (first | apply Kd.R_alloc | apply Kd.R_drewN | apply Kd.R_drew)); exact HO_9.out) hb)
         have n2_ := Aside0.mk (blk_below (g := gb460) (o := .cells #[.int .i64 t458, .int .i64 t459] 26 (0, 0)) (by (with_reducible repeat (first | refine blk_drewN ?_ _ | refine blk_drew ?_ | refine blk_alloc ?_ _)); exact BK460.out) hb)
         have n3_ := Aside0.mk (blk_below (g := gb467) (o := .cells #[.int .i64 t465, .int .i64 t466] 26 (0, 0)) (by (with_reducible repeat (first | refine blk_drewN ?_ _ | refine blk_drew ?_ | refine blk_alloc ?_ _)); exact BK467.out) hb)
         have n4_ := Aside0.mk (blk_below (g := gb469) (o := .cells #[.int .i64 3, .string a0, .int .i64 0, .int .i64 0, .int .i64 0] 33 (0, 0)) (by (with_reducible repeat (first | refine blk_drewN ?_ _ | refine blk_drew ?_ | refine blk_alloc ?_ _)); exact BK469.out) hb)
         have n5_ := Aside0.mk (below_step (by repeat (first | (with_reducible first | exact HB.out | apply below_alloc | apply pw_below_drewN | apply below_drew1 | refine below_set ?_ GE460.out | refine below_set ?_ GE467.out | refine below_set ?_ GE469.out) | exact HB.out)) hb)
         clear HO_6
         clear HO_9
         clear BK460
         clear BK467
         clear BK469
         clear HB
         have HO_6 := n0_
         have HO_9 := n1_
         have BK460 := n2_
         have BK467 := n3_
         have BK469 := n4_
         have HB := n5_
         clear n0_ n1_ n2_ n3_ n4_ n5_
         (try clear hb)
         (try clear hb2)
         (try clear hk)
         (try clear hi)
         refine hK.out _ _ ⟨(blk_cell BK469.out 0).trans rfl, (blk_cell BK469.out 1).trans rfl, (blk_cell BK469.out 2).trans rfl, (blk_cell BK469.out 3).trans rfl, (blk_cell BK469.out 4).trans rfl, HS5_, HS6_, HS7_, HS8_, HS9_⟩ (fun hHeld => ?_)
         clear hK K
         refine norm_ (a' := ?_) ?_ ?_
         rotate_left
         ·show Act.put _ (some 75) _ = _
          simp only [Act.put, List.setIfInBounds_toArray, List.set_cons_zero, List.set_cons_succ, i64_w, i32_w]
          rfl
         refine pB_ HT_ 5 77 #[t_,t_,t_,t_,t_,t_,f_,f_,f_,f_,f_,f_,f_,f_,f_,f_,f_,f_,f_,f_,f_,f_,f_,f_,f_,f_,f_,f_,f_,f_,f_,f_,f_] ?_
         refine pB_ HT_ 6 78 #[t_,t_,t_,t_,t_,t_,t_,f_,f_,f_,f_,f_,f_,f_,f_,f_,f_,f_,f_,f_,f_,f_,f_,f_,f_,f_,f_,f_,f_,f_,f_,f_,f_] ?_
         refine pA_ HT_ 7 79 #[t_,t_,t_,t_,t_,t_,t_,t_,f_,f_,f_,f_,f_,f_,f_,f_,f_,f_,f_,f_,f_,f_,f_,f_,f_,f_,f_,f_,f_,f_,f_,f_,f_] ?_
         refine pA_ HT_ 8 80 #[t_,t_,t_,t_,t_,t_,t_,t_,t_,f_,f_,f_,f_,f_,f_,f_,f_,f_,f_,f_,f_,f_,f_,f_,f_,f_,f_,f_,f_,f_,f_,f_,f_] ?_
         refine pA_ HT_ 9 81 #[t_,t_,t_,t_,t_,t_,t_,t_,t_,t_,f_,f_,f_,f_,f_,f_,f_,f_,f_,f_,f_,f_,f_,f_,f_,f_,f_,f_,f_,f_,f_,f_,f_] ?_
         refine pA_ HT_ 10 82 #[t_,t_,t_,t_,t_,t_,t_,t_,t_,t_,t_,f_,f_,f_,f_,f_,f_,f_,f_,f_,f_,f_,f_,f_,f_,f_,f_,f_,f_,f_,f_,f_,f_] ?_
         refine pA_ HT_ 11 83 #[t_,t_,t_,t_,t_,t_,t_,t_,t_,t_,t_,t_,f_,f_,f_,f_,f_,f_,f_,f_,f_,f_,f_,f_,f_,f_,f_,f_,f_,f_,f_,f_,f_] ?_
         refine pA_ HT_ 12 84 #[t_,t_,t_,t_,t_,t_,t_,t_,t_,t_,t_,t_,t_,f_,f_,f_,f_,f_,f_,f_,f_,f_,f_,f_,f_,f_,f_,f_,f_,f_,f_,f_,f_] ?_
         refine pB_ HT_ 13 85 #[t_,t_,t_,t_,t_,t_,t_,t_,t_,t_,t_,t_,t_,t_,f_,f_,f_,f_,f_,f_,f_,f_,f_,f_,f_,f_,f_,f_,f_,f_,f_,f_,f_] ?_
         refine pB_ HT_ 14 86 #[t_,t_,t_,t_,t_,t_,t_,t_,t_,t_,t_,t_,t_,t_,t_,f_,f_,f_,f_,f_,f_,f_,f_,f_,f_,f_,f_,f_,f_,f_,f_,f_,f_] ?_
         refine pA_ HT_ 15 87 #[t_,t_,t_,t_,t_,t_,t_,t_,t_,t_,t_,t_,t_,t_,t_,t_,f_,f_,f_,f_,f_,f_,f_,f_,f_,f_,f_,f_,f_,f_,f_,f_,f_] ?_
         refine pA_ HT_ 16 88 #[t_,t_,t_,t_,t_,t_,t_,t_,t_,t_,t_,t_,t_,t_,t_,t_,t_,f_,f_,f_,f_,f_,f_,f_,f_,f_,f_,f_,f_,f_,f_,f_,f_] ?_
         refine pA_ HT_ 17 89 #[t_,t_,t_,t_,t_,t_,t_,t_,t_,t_,t_,t_,t_,t_,t_,t_,t_,t_,f_,f_,f_,f_,f_,f_,f_,f_,f_,f_,f_,f_,f_,f_,f_] ?_
         refine pA_ HT_ 18 90 #[t_,t_,t_,t_,t_,t_,t_,t_,t_,t_,t_,t_,t_,t_,t_,t_,t_,t_,t_,f_,f_,f_,f_,f_,f_,f_,f_,f_,f_,f_,f_,f_,f_] ?_
         refine pA_ HT_ 19 91 #[t_,t_,t_,t_,t_,t_,t_,t_,t_,t_,t_,t_,t_,t_,t_,t_,t_,t_,t_,t_,f_,f_,f_,f_,f_,f_,f_,f_,f_,f_,f_,f_,f_] ?_
         refine pA_ HT_ 20 92 #[t_,t_,t_,t_,t_,t_,t_,t_,t_,t_,t_,t_,t_,t_,t_,t_,t_,t_,t_,t_,t_,f_,f_,f_,f_,f_,f_,f_,f_,f_,f_,f_,f_] ?_
         refine pA_ HT_ 21 93 #[t_,t_,t_,t_,t_,t_,t_,t_,t_,t_,t_,t_,t_,t_,t_,t_,t_,t_,t_,t_,t_,t_,f_,f_,f_,f_,f_,f_,f_,f_,f_,f_,f_] ?_
         refine pB_ HT_ 22 94 #[t_,t_,t_,t_,t_,t_,t_,t_,t_,t_,t_,t_,t_,t_,t_,t_,t_,t_,t_,t_,t_,t_,t_,f_,f_,f_,f_,f_,f_,f_,f_,f_,f_] ?_
         refine pB_ HT_ 23 95 #[t_,t_,t_,t_,t_,t_,t_,t_,t_,t_,t_,t_,t_,t_,t_,t_,t_,t_,t_,t_,t_,t_,t_,t_,f_,f_,f_,f_,f_,f_,f_,f_,f_] ?_
         refine pA_ HT_ 24 96 #[t_,t_,t_,t_,t_,t_,t_,t_,t_,t_,t_,t_,t_,t_,t_,t_,t_,t_,t_,t_,t_,t_,t_,t_,t_,f_,f_,f_,f_,f_,f_,f_,f_] ?_
         refine pA_ HT_ 25 97 #[t_,t_,t_,t_,t_,t_,t_,t_,t_,t_,t_,t_,t_,t_,t_,t_,t_,t_,t_,t_,t_,t_,t_,t_,t_,t_,f_,f_,f_,f_,f_,f_,f_] ?_
         refine pA_ HT_ 26 98 #[t_,t_,t_,t_,t_,t_,t_,t_,t_,t_,t_,t_,t_,t_,t_,t_,t_,t_,t_,t_,t_,t_,t_,t_,t_,t_,t_,f_,f_,f_,f_,f_,f_] ?_
         refine pA_ HT_ 27 99 #[t_,t_,t_,t_,t_,t_,t_,t_,t_,t_,t_,t_,t_,t_,t_,t_,t_,t_,t_,t_,t_,t_,t_,t_,t_,t_,t_,t_,f_,f_,f_,f_,f_] ?_
         refine pA_ HT_ 28 100 #[t_,t_,t_,t_,t_,t_,t_,t_,t_,t_,t_,t_,t_,t_,t_,t_,t_,t_,t_,t_,t_,t_,t_,t_,t_,t_,t_,t_,t_,f_,f_,f_,f_] ?_
         refine pA_ HT_ 29 101 #[t_,t_,t_,t_,t_,t_,t_,t_,t_,t_,t_,t_,t_,t_,t_,t_,t_,t_,t_,t_,t_,t_,t_,t_,t_,t_,t_,t_,t_,t_,f_,f_,f_] ?_
         refine pA_ HT_ 30 102 #[t_,t_,t_,t_,t_,t_,t_,t_,t_,t_,t_,t_,t_,t_,t_,t_,t_,t_,t_,t_,t_,t_,t_,t_,t_,t_,t_,t_,t_,t_,t_,f_,f_] ?_
         refine pB_ HT_ 31 103 #[t_,t_,t_,t_,t_,t_,t_,t_,t_,t_,t_,t_,t_,t_,t_,t_,t_,t_,t_,t_,t_,t_,t_,t_,t_,t_,t_,t_,t_,t_,t_,t_,f_] ?_
         refine pB_ HT_ 32 4 #[t_,t_,t_,t_,t_,t_,t_,t_,t_,t_,t_,t_,t_,t_,t_,t_,t_,t_,t_,t_,t_,t_,t_,t_,t_,t_,t_,t_,t_,t_,t_,t_,t_] ?_
         refine done_ (done_of HT_.out (by kernel_rfl)) ?_
         try go_wp2
         go_ret
         exact ⟨by first | rfl | (simp [errW_none, errW_some] <;> rfl) | (simp [*, errW_none, errW_some] <;> rfl), by repeat (first | (with_reducible first | exact HB.out | apply below_alloc | apply pw_below_drewN | apply below_drew1 | refine below_set ?_ GE460.out | refine below_set ?_ GE467.out | refine below_set ?_ GE469.out) | exact HB.out)⟩
       ·rw [if_neg c49] at H
        exact absurd H (by simp)

end Go.Proofs.YtmpaipbpnkfmfaaDoor.P
