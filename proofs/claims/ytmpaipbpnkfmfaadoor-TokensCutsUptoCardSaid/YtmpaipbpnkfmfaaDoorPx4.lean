/- THE PROGRAM's FUNCTIONS AS PLAIN LEAN FUNCTIONS, and proofs that its calls come to them: written by a program of this claim's own. Conditions: as each theorem states. -/
import Derived.Test.YtmpaipbpnkfmfaaDoorPx0
import Derived.Test.YtmpaipbpnkfmfaaDoorPx3
import Derived.Test.YtmpaipbpnkfmfaaDoorNum
namespace Go.Proofs.YtmpaipbpnkfmfaaDoor.P
open Go.RowKit Go.Proofs.YtmpaipbpnkfmfaaDoorW.PrintWords Go.Proofs.YtmpaipbpnkfmfaaDoorW.PrintLast Go.Proofs.YtmpaipbpnkfmfaaDoorW.PrintMore
attribute [local go_sem] max2_int min2_int max_two min_two max_three min_three max_four min_four   -- for this text's walks alone
set_option linter.unusedVariables false
set_option linter.unusedSimpArgs false

attribute [local go_sem high] isSome_setCell_
/-! ### tokens_quoted: function 53 -/
def tokens_quoted.l0 : Nat → ByteArray → Int → List Int → Int → Option (Int × ByteArray × Int × Int × Int × Int × Int)
 | 0, _, _, _, _ => none
 | k + 1, x0, x1, x6, x7 => if x7 < (x0.size : Int) then (if 0 ≤ x7 then (if (bt x0 x7) = 34 then (some (3, strOfNums x6, 0, x1, wrap64 (x7 + 1), 0, 0)) else (if (bt x0 x7) = 92 then (if 0 ≤ (wrap64 (x7 + 1)) then (if (wrap64 (x7 + 1)) ≤ (x0.size : Int) then ((tokens_escape.f k (x0.extract ((wrap64 (x7 + 1)) : Int).toNat x0.size)).bind fun bt111 => (if bt111.2 = 0 then (some (0, (⟨#[]⟩ : ByteArray), 0, 0, 0, 44, x7)) else (if x6.length < 140737488355328 then (tokens_quoted.l0 k x0 x1 (x6 ++ [bt111.1]) (wrap64 (x7 + (wrap64 (1 + bt111.2))))) else (none)))) else (none)) else (none)) else (if (bt x0 x7) < 32 then (some (0, (⟨#[]⟩ : ByteArray), 0, 0, 0, 44, x7)) else (if (bt x0 x7) = 127 then (some (0, (⟨#[]⟩ : ByteArray), 0, 0, 0, 44, x7)) else (if x6.length < 140737488355328 then (tokens_quoted.l0 k x0 x1 (x6 ++ [bt x0 x7]) (wrap64 (x7 + 1))) else (none)))))) else (none)) else (some (0, (⟨#[]⟩ : ByteArray), 0, 0, 0, 43, x1))
def tokens_quoted.f (k : Nat) (a0 : ByteArray) (a1 : Int) : Option (Int × ByteArray × Int × Int × Int × Int × Int) := tokens_quoted.l0 k a0 a1 ([] : List Int) (wrap64 (a1 + 1))
theorem tokens_quoted.mono_l : ∀ k, (∀ y0 y1 y2 y3, LeO (tokens_quoted.l0 k y0 y1 y2 y3) (tokens_quoted.l0 (k + 1) y0 y1 y2 y3))
 | 0 => fun _ _ _ _ r h => by simp [tokens_quoted.l0] at h
 | k + 1 => by
  have ih0 := tokens_quoted.mono_l k
  ·intro y0 y1 y2 y3
   unfold tokens_quoted.l0
   repeat' first
   | (with_reducible exact ih0 _ _ _ _)
   | (with_reducible exact tokens_escape.mono _ _)
   | (with_reducible exact LeO.refl _)
   | (with_reducible exact LeO.none _)
   | (with_reducible refine LeO.ite ?_ ?_)
   | (with_reducible refine LeO.bind ?_ (fun _ => ?_))
   | exact ih0 _ _ _ _
   | exact tokens_escape.mono _ _
   | exact LeO.none _
   | refine LeO.ite ?_ ?_
   | refine LeO.bind ?_ (fun _ => ?_)
theorem tokens_quoted.mono : ∀ a0 a1 k, LeO (tokens_quoted.f k a0 a1) (tokens_quoted.f (k + 1) a0 a1) := by
 intro a0 a1 k
 have ih0 := tokens_quoted.mono_l k
 unfold tokens_quoted.f
 repeat' first
   | (with_reducible exact ih0 _ _ _ _)
   | (with_reducible exact tokens_escape.mono _ _)
   | (with_reducible exact LeO.refl _)
   | (with_reducible exact LeO.none _)
   | (with_reducible refine LeO.ite ?_ ?_)
   | (with_reducible refine LeO.bind ?_ (fun _ => ?_))
   | exact ih0 _ _ _ _
   | exact tokens_escape.mono _ _
   | exact LeO.none _
   | refine LeO.ite ?_ ?_
   | refine LeO.bind ?_ (fun _ => ?_)
set_option maxHeartbeats 20000000 in
set_option maxRecDepth 100000 in
theorem tokens_quoted.calls (k : Nat) (a0 : ByteArray) (a1 : Int) (r1 : Int) (r2 : ByteArray) (r3 : Int) (r4 : Int) (r5 : Int) (r6 : Int) (r7 : Int) (w : World) (h : tokens_quoted.f k a0 a1 = some (r1, r2, r3, r4, r5, r6, r7)) :
  Calls Tryd.prog 53 #[.string a0, .int .i64 a1] w fun e w' => e = .returned (.tuple #[.agg #[.int .i64 r1, .string r2, .int .i64 r3, .int .i64 r4, .int .i64 r5], .agg #[.int .i64 r6, .int .i64 r7]]) ∧ Below w.heap.size w w' := by
 have hu33 := Tryd.underlying33
 have hu26 := Tryd.underlying26
 have HB := Aside0.mk (Below.refl w.heap.size w)
 have H : (tokens_quoted.l0 k a0 a1 ([] : List Int) (wrap64 (a1 + 1))) = some (r1, r2, r3, r4, r5, r6, r7) := h
 clear h
 have H' := Aside0.mk H
 clear H
 go_enter Tryd.func53, Tryd.ntmps53
 go_wp2_with (first | ((with_reducible refine gate_dst (N := 4) rfl ?_); refine box_event ?hg (N := 4) ?hd (cs := #[.int .i64 0, .string (⟨#[]⟩ : ByteArray), .int .i64 0, .int .i64 0, .int .i64 0]) (t := 33) ?hr ?_; (case hd => rfl); (case hg => rfl); (case hr => first | (go_simp; done) | (go_simp; rfl)); intro gb109 hg w3 hbox hb; have n0_ := Aside0.mk (below_step h0_ hb); have n1_ := Aside0.mk (hbox); have n2_ := Aside0.mk ((by rw [hg]; exact (below_size h0_) : w.heap.size ≤ gb109)); have n3_ := Aside0.mk ((by rw [hg]; exact (below_size h0_) : w.heap.size ≤ gb109)); clear HB; have HB := n0_; have BK109 := n1_; have GW109 := n2_; have GE109 := n3_; clear n0_ n1_ n2_ n3_; clear hb hbox hg) | ((with_reducible refine gate_dst (N := 5) rfl ?_); refine box_event ?hg (N := 5) ?hd (cs := #[.int .i64 0, .int .i64 0]) (t := 26) ?hr ?_; (case hd => rfl); (case hg => rfl); (case hr => first | (go_simp; done) | (go_simp; rfl)); intro gb110 hg w4 hbox hb; have n0_ := Aside0.mk (blk_below (g := gb109) (o := .cells #[.int .i64 0, .string (⟨#[]⟩ : ByteArray), .int .i64 0, .int .i64 0, .int .i64 0] 33 (0, 0)) (bk_ BK109) hb); have n1_ := Aside0.mk (below_step h1_ hb); have n2_ := Aside0.mk (hbox); have n3_ := Aside0.mk ((by rw [hg]; exact (below_size h1_) : w.heap.size ≤ gb110)); have n4_ := Aside0.mk ((by rw [hg]; exact (below_size h1_) : w.heap.size ≤ gb110)); have n5_ := Aside0.mk ((by rw [hg]; exact Nat.ne_of_lt (blk_lt (g := gb109) (o := .cells #[.int .i64 0, .string (⟨#[]⟩ : ByteArray), .int .i64 0, .int .i64 0, .int .i64 0] 33 (0, 0)) (bk_ BK109)) : gb109 ≠ gb110)); have n6_ := Aside0.mk ((by rw [hg]; exact Nat.ne_of_gt (blk_lt (g := gb109) (o := .cells #[.int .i64 0, .string (⟨#[]⟩ : ByteArray), .int .i64 0, .int .i64 0, .int .i64 0] 33 (0, 0)) (bk_ BK109)) : gb110 ≠ gb109)); clear BK109; clear HB; have BK109 := n0_; have HB := n1_; have BK110 := n2_; have GW110 := n3_; have GE110 := n4_; have NB109_110 := n5_; have NB110_109 := n6_; clear n0_ n1_ n2_ n3_ n4_ n5_ n6_; clear hb hbox hg))
 go_loopg [6, 7] k (fun kq v6 v7 w' => ∃ (x6_1 : List Int) (x7_1 : Int) (x110000_1 : Int) (x110001_1 : ByteArray) (x110002_1 : Int) (x110003_1 : Int) (x110004_1 : Int) (x111000_1 : Int) (x111001_1 : Int), v7 = .int .i64 x7_1 ∧ Aside0 (tokens_quoted.l0 kq a0 a1 x6_1 x7_1 = some (r1, r2, r3, r4, r5, r6, r7)) ∧ Aside0 (kq ≤ k) ∧ Aside0 (Kd.R (Kd.int .u8) 5 w' w.heap.size (fun _ => True) v6 x6_1) ∧ Aside0 (w'.heap[gb109]? = some (.cells #[.int .i64 x110000_1, .string x110001_1, .int .i64 x110002_1, .int .i64 x110003_1, .int .i64 x110004_1] 33 (0, 0))) ∧ Aside0 (w'.heap[gb110]? = some (.cells #[.int .i64 x111000_1, .int .i64 x111001_1] 26 (0, 0))) ∧ Aside0 (Below w.heap.size w w'))
 case atStart => exact ⟨(([] : List Int)), (wrap64 (a1 + 1)), (0), ((⟨#[]⟩ : ByteArray)), (0), (0), (0), (0), (0), eq_, H', ⟨Nat.le_refl _⟩, ⟨by first | exact Kd.R_nil _ _ _ _ _ | exact Kd.N_nil _ _ _ _ _ | exact Kd.V_nil _ _ _ _ _ | exact Kd.Q_nil _ _ _ _ _ | exact Kd.S_nil _ _ _ _ _⟩, ⟨by (with_reducible repeat first|apply bk1_|apply bk2_|apply bk3_); exact BK109.out⟩, ⟨by (with_reducible repeat first|apply bk1_|apply bk2_|apply bk3_); exact BK110.out⟩, ⟨h1_⟩⟩
 case round =>
  clear H'
  try clear p2
  obtain ⟨x6_1, x7_1, x110000_1, x110001_1, x110002_1, x110003_1, x110004_1, x111000_1, x111001_1, rfl, HA, HK1, HO_6, BK109, BK110, HB⟩ := hrel
  cases gk with
  | zero => exact absurd HA.out (by simp [tokens_quoted.l0])
  | succ k1 =>
   have H := HA.out
   clear HA
   simp only [tokens_quoted.l0] at H
   by_cases c5 : x7_1 < (a0.size : Int)
   ·rw [if_pos c5] at H
    have c5b0 : decide (x7_1 < (a0.size : Int)) = true := decide_eq_true c5
    clear c5
    by_cases c6 : 0 ≤ x7_1
    ·rw [if_pos c6] at H
     have c6b0 : decide (0 ≤ x7_1) = true := decide_eq_true c6
     clear c6
     by_cases c8 : (bt a0 x7_1) = 34
     ·rw [if_pos c8] at H
      have c8b0 : ((bt a0 x7_1) == 34) = true := beq_iff_eq.mpr c8
      have c8b1 : ((bt a0 x7_1) != 34) = false := bne_eq_false_iff_eq.mpr c8
      clear c8
      simp only [Option.some.injEq, Prod.mk.injEq] at H
      obtain ⟨rfl, rfl, rfl, rfl, rfl, rfl, rfl⟩ := H
      have p7 : 0 ≤ (x7_1 : Int) := of_decide_eq_true (by first | (with_reducible assumption) | assumption)
      have q7 : x7_1 < (a0.size : Int) := of_decide_eq_true (by first | (with_reducible assumption) | assumption)
      have hx7 := bt_at a0 x7_1
      replace p7 := eq_true p7
      replace q7 := eq_true q7
      have hcv9 := own_string (P := Tryd.prog) Tryd.underlying44 Tryd.underlying5 Tryd.underlying9 (Kd.own_of_R HO_6.out)
      have hnb10 := NB109_110.out
      have hnc10 := NB110_109.out
      have hcz11_0 : wr.cell? ⟨gb109, 0, none⟩ = some (.int .i64 x110000_1) := (blk_cell BK109.out 0).trans rfl
      have hcz11_1 : wr.cell? ⟨gb109, 1, none⟩ = some (.string x110001_1) := (blk_cell BK109.out 1).trans rfl
      have hcz11_2 : wr.cell? ⟨gb109, 2, none⟩ = some (.int .i64 x110002_1) := (blk_cell BK109.out 2).trans rfl
      have hcz11_3 : wr.cell? ⟨gb109, 3, none⟩ = some (.int .i64 x110003_1) := (blk_cell BK109.out 3).trans rfl
      have hcz11_4 : wr.cell? ⟨gb109, 4, none⟩ = some (.int .i64 x110004_1) := (blk_cell BK109.out 4).trans rfl
      have hfz11_0 := blk_frozen BK109.out 0
      have hfz11_1 := blk_frozen BK109.out 1
      have hfz11_2 := blk_frozen BK109.out 2
      have hfz11_3 := blk_frozen BK109.out 3
      have hfz11_4 := blk_frozen BK109.out 4
      have hcz12_0 : wr.cell? ⟨gb110, 0, none⟩ = some (.int .i64 x111000_1) := (blk_cell BK110.out 0).trans rfl
      have hcz12_1 : wr.cell? ⟨gb110, 1, none⟩ = some (.int .i64 x111001_1) := (blk_cell BK110.out 1).trans rfl
      have hfz12_0 := blk_frozen BK110.out 0
      have hfz12_1 := blk_frozen BK110.out 1
      go_wp2
      refine bodyPost_ret (results_cc rfl _ _ gb109 gb110 33 26 #[.int .i64 3, .string (strOfNums x6_1), .int .i64 0, .int .i64 a1, .int .i64 (wrap64 (x7_1 + 1))] #[.int .i64 0, .int .i64 0] (0, 0) (0, 0) _ _ rfl (by (with_reducible repeat first|apply bk1_|apply bk2_|apply bk3_); refine blk_far ?_ NB109_110.out _; (with_reducible repeat first|apply bk1_|apply bk2_|apply bk3_); refine blk_far ?_ NB109_110.out _; (with_reducible repeat first|apply bk1_|apply bk2_|apply bk3_); refine blk_put (cs := #[.int .i64 3, .string (strOfNums x6_1), .int .i64 0, .int .i64 a1, .int .i64 x110004_1]) ?_ 4 _ rfl; (with_reducible repeat first|apply bk1_|apply bk2_|apply bk3_); refine blk_put (cs := #[.int .i64 3, .string (strOfNums x6_1), .int .i64 0, .int .i64 x110003_1, .int .i64 x110004_1]) ?_ 3 _ rfl; (with_reducible repeat first|apply bk1_|apply bk2_|apply bk3_); refine blk_put (cs := #[.int .i64 3, .string (strOfNums x6_1), .int .i64 x110002_1, .int .i64 x110003_1, .int .i64 x110004_1]) ?_ 2 _ rfl; (with_reducible repeat first|apply bk1_|apply bk2_|apply bk3_); refine blk_put (cs := #[.int .i64 3, .string x110001_1, .int .i64 x110002_1, .int .i64 x110003_1, .int .i64 x110004_1]) ?_ 1 _ rfl; (with_reducible repeat first|apply bk1_|apply bk2_|apply bk3_); refine blk_put (cs := #[.int .i64 x110000_1, .string x110001_1, .int .i64 x110002_1, .int .i64 x110003_1, .int .i64 x110004_1]) ?_ 0 _ rfl; (with_reducible repeat first|apply bk1_|apply bk2_|apply bk3_); exact BK109.out) Tryd.underlying33 rfl (by kernel_rfl) rfl (by (with_reducible repeat first|apply bk1_|apply bk2_|apply bk3_); refine blk_put (cs := #[.int .i64 0, .int .i64 x111001_1]) ?_ 1 _ rfl; (with_reducible repeat first|apply bk1_|apply bk2_|apply bk3_); refine blk_put (cs := #[.int .i64 x111000_1, .int .i64 x111001_1]) ?_ 0 _ rfl; (with_reducible repeat first|apply bk1_|apply bk2_|apply bk3_); refine blk_far ?_ NB110_109.out _; (with_reducible repeat first|apply bk1_|apply bk2_|apply bk3_); refine blk_far ?_ NB110_109.out _; (with_reducible repeat first|apply bk1_|apply bk2_|apply bk3_); refine blk_far ?_ NB110_109.out _; (with_reducible repeat first|apply bk1_|apply bk2_|apply bk3_); refine blk_far ?_ NB110_109.out _; (with_reducible repeat first|apply bk1_|apply bk2_|apply bk3_); refine blk_far ?_ NB110_109.out _; (with_reducible repeat first|apply bk1_|apply bk2_|apply bk3_); exact BK110.out) Tryd.underlying26 rfl (by kernel_rfl)) rfl ?_
      exact ⟨er_, h1_⟩
     ·rw [if_neg c8] at H
      have c8b0 : ((bt a0 x7_1) == 34) = false := beq_eq_false_iff_ne.mpr c8
      have c8b1 : ((bt a0 x7_1) != 34) = true := bne_iff_ne.mpr c8
      by_cases c13 : (bt a0 x7_1) = 92
      ·rw [if_pos c13] at H
       have c13b0 : ((bt a0 x7_1) == 92) = true := beq_iff_eq.mpr c13
       have c13b1 : ((bt a0 x7_1) != 92) = false := bne_eq_false_iff_eq.mpr c13
       clear c13
       obtain ⟨ji14, hji14⟩ : ∃ j_ : Int, (wrap64 (x7_1 + 1)) = j_ := ⟨_, rfl⟩
       replace H : (if 0 ≤ (ji14) then (if (ji14) ≤ (a0.size : Int) then ((tokens_escape.f k1 (a0.extract ((ji14) : Int).toNat a0.size)).bind fun bt111 => (if bt111.2 = 0 then (some (0, (⟨#[]⟩ : ByteArray), 0, 0, 0, 44, x7_1)) else (if x6_1.length < 140737488355328 then (tokens_quoted.l0 k1 a0 a1 (x6_1 ++ [bt111.1]) (wrap64 (x7_1 + (wrap64 (1 + bt111.2))))) else (none)))) else (none)) else (none)) = some (r1, r2, r3, r4, r5, r6, r7) := by first | (rw [hji14] at H; exact H) | (simp only [hji14] at H ⊢; exact H)
       have hji14w : (IntKind.i64.wrap (x7_1 + 1)) = ji14 := (i64_w _).trans hji14
       by_cases c15 : 0 ≤ (ji14)
       ·rw [if_pos c15] at H
        have c15b0 := eq_true c15
        have c15b1 : decide (0 ≤ (ji14)) = true := decide_eq_true c15
        clear c15
        by_cases c16 : (ji14) ≤ (a0.size : Int)
        ·rw [if_pos c16] at H
         have c16b0 := eq_true c16
         have c16b1 : decide ((ji14) ≤ (a0.size : Int)) = true := decide_eq_true c16
         clear c16
         replace H := Option.bind_eq_some_iff.mp H
         obtain ⟨⟨t111, t112⟩, A170, H⟩ := H
         replace H : (if t112 = 0 then (some (0, (⟨#[]⟩ : ByteArray), 0, 0, 0, 44, x7_1)) else (if x6_1.length < 140737488355328 then (tokens_quoted.l0 k1 a0 a1 (x6_1 ++ [t111]) (wrap64 (x7_1 + (wrap64 (1 + t112))))) else (none))) = some (r1, r2, r3, r4, r5, r6, r7) := H
         have A17 := Aside0.mk A170
         clear A170
         by_cases c18 : t112 = 0
         ·rw [if_pos c18] at H
          have c18b0 : (t112 == 0) = true := beq_iff_eq.mpr c18
          have c18b1 : (t112 != 0) = false := bne_eq_false_iff_eq.mpr c18
          clear c18
          simp only [Option.some.injEq, Prod.mk.injEq] at H
          obtain ⟨rfl, rfl, rfl, rfl, rfl, rfl, rfl⟩ := H
          have p7 : 0 ≤ (x7_1 : Int) := of_decide_eq_true (by first | (with_reducible assumption) | assumption)
          have q7 : x7_1 < (a0.size : Int) := of_decide_eq_true (by first | (with_reducible assumption) | assumption)
          have hx7 := bt_at a0 x7_1
          replace p7 := eq_true p7
          replace q7 := eq_true q7
          go_wp2_with (first | ((with_reducible refine gate_callee (f := 72) rfl ?_); refine goesL_ (some 44) rfl rfl Tryd.func72 (by kernel_rfl) rfl #[.string (a0.extract ((ji14) : Int).toNat a0.size)] rfl (by (try simp only [List.map_toArray, List.map_cons, List.map_nil]); first | done | (simp only [hji14]; rfl) | rfl | (simp only [List.length_drop, List.length_take]; rfl) | (simp only [beq_nil_, bne_nil_]; rfl) | (simp only [ByteArray.size_extract, Nat.min_self]; rfl)) ?_; (with_reducible refine (tokens_escape.calls k1 (a0.extract ((ji14) : Int).toNat a0.size) t111 t112 _ A17.out).mono ?_); rintro e w' ⟨rfl, ⟨nd, rfl⟩⟩; refine ⟨_, rfl, ?_⟩; (try (rw [drewN_self wr]; generalize hq_ : World.drewN wr _ = wr; have n0_ : Aside0 (Kd.R (Kd.int .u8) 5 wr w.heap.size (fun _ => True) u6 x6_1) := ⟨by rw [← hq_]; exact (rk_ HO_6)⟩; have n1_ : Aside0 (wr.heap[gb109]? = some (.cells #[.int .i64 x110000_1, .string x110001_1, .int .i64 x110002_1, .int .i64 x110003_1, .int .i64 x110004_1] 33 (0, 0))) := ⟨by rw [← hq_]; exact (bk_ BK109)⟩; have n2_ : Aside0 (wr.heap[gb110]? = some (.cells #[.int .i64 x111000_1, .int .i64 x111001_1] 26 (0, 0))) := ⟨by rw [← hq_]; exact (bk_ BK110)⟩; have n3_ : Aside0 (Below w.heap.size w wr) := ⟨by rw [← hq_]; exact h1_⟩; clear HO_6 BK109 BK110 HB hq_; have HO_6 := n0_; have BK109 := n1_; have BK110 := n2_; have HB := n3_; clear n0_ n1_ n2_ n3_)); have hnb19 := NB109_110.out; have hnc19 := NB110_109.out; have hcz20_0 : wr.cell? ⟨gb109, 0, none⟩ = some (.int .i64 x110000_1) := (blk_cell BK109.out 0).trans rfl; have hcz20_1 : wr.cell? ⟨gb109, 1, none⟩ = some (.string x110001_1) := (blk_cell BK109.out 1).trans rfl; have hcz20_2 : wr.cell? ⟨gb109, 2, none⟩ = some (.int .i64 x110002_1) := (blk_cell BK109.out 2).trans rfl; have hcz20_3 : wr.cell? ⟨gb109, 3, none⟩ = some (.int .i64 x110003_1) := (blk_cell BK109.out 3).trans rfl; have hcz20_4 : wr.cell? ⟨gb109, 4, none⟩ = some (.int .i64 x110004_1) := (blk_cell BK109.out 4).trans rfl; have hfz20_0 := blk_frozen BK109.out 0; have hfz20_1 := blk_frozen BK109.out 1; have hfz20_2 := blk_frozen BK109.out 2; have hfz20_3 := blk_frozen BK109.out 3; have hfz20_4 := blk_frozen BK109.out 4; have hcz21_0 : wr.cell? ⟨gb110, 0, none⟩ = some (.int .i64 x111000_1) := (blk_cell BK110.out 0).trans rfl; have hcz21_1 : wr.cell? ⟨gb110, 1, none⟩ = some (.int .i64 x111001_1) := (blk_cell BK110.out 1).trans rfl; have hfz21_0 := blk_frozen BK110.out 0; have hfz21_1 := blk_frozen BK110.out 1))
          refine bodyPost_ret (results_cc rfl _ _ gb109 gb110 33 26 #[.int .i64 0, .string (⟨#[]⟩ : ByteArray), .int .i64 0, .int .i64 0, .int .i64 0] #[.int .i64 44, .int .i64 x7_1] (0, 0) (0, 0) _ _ rfl (by (with_reducible repeat first|apply bk1_|apply bk2_|apply bk3_); refine blk_far ?_ NB109_110.out _; (with_reducible repeat first|apply bk1_|apply bk2_|apply bk3_); refine blk_far ?_ NB109_110.out _; (with_reducible repeat first|apply bk1_|apply bk2_|apply bk3_); refine blk_put (cs := #[.int .i64 0, .string (⟨#[]⟩ : ByteArray), .int .i64 0, .int .i64 0, .int .i64 x110004_1]) ?_ 4 _ rfl; (with_reducible repeat first|apply bk1_|apply bk2_|apply bk3_); refine blk_put (cs := #[.int .i64 0, .string (⟨#[]⟩ : ByteArray), .int .i64 0, .int .i64 x110003_1, .int .i64 x110004_1]) ?_ 3 _ rfl; (with_reducible repeat first|apply bk1_|apply bk2_|apply bk3_); refine blk_put (cs := #[.int .i64 0, .string (⟨#[]⟩ : ByteArray), .int .i64 x110002_1, .int .i64 x110003_1, .int .i64 x110004_1]) ?_ 2 _ rfl; (with_reducible repeat first|apply bk1_|apply bk2_|apply bk3_); refine blk_put (cs := #[.int .i64 0, .string x110001_1, .int .i64 x110002_1, .int .i64 x110003_1, .int .i64 x110004_1]) ?_ 1 _ rfl; (with_reducible repeat first|apply bk1_|apply bk2_|apply bk3_); refine blk_put (cs := #[.int .i64 x110000_1, .string x110001_1, .int .i64 x110002_1, .int .i64 x110003_1, .int .i64 x110004_1]) ?_ 0 _ rfl; (with_reducible repeat first|apply bk1_|apply bk2_|apply bk3_); exact BK109.out) Tryd.underlying33 rfl (by kernel_rfl) rfl (by (with_reducible repeat first|apply bk1_|apply bk2_|apply bk3_); refine blk_put (cs := #[.int .i64 44, .int .i64 x111001_1]) ?_ 1 _ rfl; (with_reducible repeat first|apply bk1_|apply bk2_|apply bk3_); refine blk_put (cs := #[.int .i64 x111000_1, .int .i64 x111001_1]) ?_ 0 _ rfl; (with_reducible repeat first|apply bk1_|apply bk2_|apply bk3_); refine blk_far ?_ NB110_109.out _; (with_reducible repeat first|apply bk1_|apply bk2_|apply bk3_); refine blk_far ?_ NB110_109.out _; (with_reducible repeat first|apply bk1_|apply bk2_|apply bk3_); refine blk_far ?_ NB110_109.out _; (with_reducible repeat first|apply bk1_|apply bk2_|apply bk3_); refine blk_far ?_ NB110_109.out _; (with_reducible repeat first|apply bk1_|apply bk2_|apply bk3_); refine blk_far ?_ NB110_109.out _; (with_reducible repeat first|apply bk1_|apply bk2_|apply bk3_); exact BK110.out) Tryd.underlying26 rfl (by kernel_rfl)) rfl ?_
          exact ⟨by first | rfl | (simp [errW_none, errW_some] <;> rfl) | (simp only [← hji14]; first | rfl | (simp [errW_none, errW_some] <;> rfl)) | (simp [*, errW_none, errW_some] <;> rfl), h1_⟩
         ·rw [if_neg c18] at H
          have c18b0 : (t112 == 0) = false := beq_eq_false_iff_ne.mpr c18
          have c18b1 : (t112 != 0) = true := bne_iff_ne.mpr c18
          by_cases c22 : x6_1.length < 140737488355328
          ·rw [if_pos c22] at H
           have LMc22 := Aside0.mk c22
           clear c22
           obtain ⟨y113, hy113⟩ : ∃ y_ : List Int, y_ = (x6_1 ++ [t111]) := ⟨_, rfl⟩
           replace H : (tokens_quoted.l0 k1 a0 a1 y113 (wrap64 (x7_1 + (wrap64 (1 + t112))))) = some (r1, r2, r3, r4, r5, r6, r7) := by first | (rw [hy113]; with_reducible exact H) | (have H2_ := (Option.bind_some _ _).symm.trans H; rw [hy113]; with_reducible exact H2_) | (have H2_ := (Option.bind_some _ _).symm.trans H; with_reducible exact H2_) | with_reducible exact H | (rw [hy113]; exact H) | exact H
           have Ny113 := Aside0.mk hy113
           clear hy113
           have H' := Aside0.mk H
           clear H
           have p7 : 0 ≤ (x7_1 : Int) := of_decide_eq_true (by first | (with_reducible assumption) | assumption)
           have q7 : x7_1 < (a0.size : Int) := of_decide_eq_true (by first | (with_reducible assumption) | assumption)
           have hx7 := bt_at a0 x7_1
           replace p7 := eq_true p7
           replace q7 := eq_true q7
           go_wp2_with (first | ((with_reducible refine gate_callee (f := 72) rfl ?_); refine goesL_ (some 44) rfl rfl Tryd.func72 (by kernel_rfl) rfl #[.string (a0.extract ((ji14) : Int).toNat a0.size)] rfl (by (try simp only [List.map_toArray, List.map_cons, List.map_nil]); first | done | (simp only [hji14]; rfl) | rfl | (simp only [List.length_drop, List.length_take]; rfl) | (simp only [beq_nil_, bne_nil_]; rfl) | (simp only [ByteArray.size_extract, Nat.min_self]; rfl)) ?_; (with_reducible refine (tokens_escape.calls k1 (a0.extract ((ji14) : Int).toNat a0.size) t111 t112 _ A17.out).mono ?_); rintro e w' ⟨rfl, ⟨nd, rfl⟩⟩; refine ⟨_, rfl, ?_⟩) | ((with_reducible refine gate_builtin (b := .append) (xs := #[.tmp 52, .tmp 54]) rfl ?_); at_builtin; refine Kd.R_append (Kd.int .u8) (w0 := w) w.heap.size rfl (.tmp 52) (.tmp 54) 44 5 (.int .u8 0) 1 rfl Tryd.underlying44 info5 rfl (by decide) (by omega) u6 x6_1 t111 [.int .u8 t111] (fun _ => True) (fun _ => False) rfl rfl ?aP (fun _ hk => hk.elim) ?aF ?aO ?aB ?aS ?aL ?_; (case aP => exact rfl); (case aB => exact h1_); (case aF => exact (fun _ _ => trivial)); (case aO => exact (rk_ HO_6)); (case aS => exact (below_size h1_)); (case aL => have := LMc22.out; omega); intro v114 w23 ho hb hg hat; rw [← Ny113.out] at ho; have n0_ := Aside0.mk (blk_grown (g := gb109) (o := .cells #[.int .i64 x110000_1, .string x110001_1, .int .i64 x110002_1, .int .i64 x110003_1, .int .i64 x110004_1] 33 (0, 0)) (bk_ BK109) hg (Kd.R_ne HO_6.out BK109.out (by decide))); have n1_ := Aside0.mk (blk_grown (g := gb110) (o := .cells #[.int .i64 x111000_1, .int .i64 x111001_1] 26 (0, 0)) (bk_ BK110) hg (Kd.R_ne HO_6.out BK110.out (by decide))); have n2_ := Aside0.mk (hb); have n3_ := Aside0.mk (ho); clear BK109; clear BK110; clear HB; clear HO_6; have BK109 := n0_; have BK110 := n1_; have HB := n2_; have HO115 := n3_; clear n0_ n1_ n2_ n3_; clear ho hb hg hat))
           go_roundg k1
           case measure => have := HK1.out; omega
           case rel => exact ⟨(y113), (wrap64 (x7_1 + (wrap64 (1 + t112)))), (x110000_1), (x110001_1), (x110002_1), (x110003_1), (x110004_1), (x111000_1), (x111001_1), eq_, H', ⟨by have := HK1.out; omega⟩, ⟨by (with_reducible repeat (first | apply Kd.R_alloc | apply Kd.R_drewN | apply Kd.R_drew)); exact HO115.out⟩, ⟨by (with_reducible repeat first|apply bk1_|apply bk2_|apply bk3_); exact BK109.out⟩, ⟨by (with_reducible repeat first|apply bk1_|apply bk2_|apply bk3_); exact BK110.out⟩, ⟨h1_⟩⟩
          ·rw [if_neg c22] at H
           exact absurd H (by simp)
        ·rw [if_neg c16] at H
         exact absurd H (by simp)
       ·rw [if_neg c15] at H
        exact absurd H (by simp)
      ·rw [if_neg c13] at H
       have c13b0 : ((bt a0 x7_1) == 92) = false := beq_eq_false_iff_ne.mpr c13
       have c13b1 : ((bt a0 x7_1) != 92) = true := bne_iff_ne.mpr c13
       by_cases c24 : (bt a0 x7_1) < 32
       ·rw [if_pos c24] at H
        have c24b0 : decide ((bt a0 x7_1) < 32) = true := decide_eq_true c24
        clear c24
        simp only [Option.some.injEq, Prod.mk.injEq] at H
        obtain ⟨rfl, rfl, rfl, rfl, rfl, rfl, rfl⟩ := H
        have p7 : 0 ≤ (x7_1 : Int) := of_decide_eq_true (by first | (with_reducible assumption) | assumption)
        have q7 : x7_1 < (a0.size : Int) := of_decide_eq_true (by first | (with_reducible assumption) | assumption)
        have hx7 := bt_at a0 x7_1
        replace p7 := eq_true p7
        replace q7 := eq_true q7
        have hnb25 := NB109_110.out
        have hnc25 := NB110_109.out
        have hcz26_0 : wr.cell? ⟨gb109, 0, none⟩ = some (.int .i64 x110000_1) := (blk_cell BK109.out 0).trans rfl
        have hcz26_1 : wr.cell? ⟨gb109, 1, none⟩ = some (.string x110001_1) := (blk_cell BK109.out 1).trans rfl
        have hcz26_2 : wr.cell? ⟨gb109, 2, none⟩ = some (.int .i64 x110002_1) := (blk_cell BK109.out 2).trans rfl
        have hcz26_3 : wr.cell? ⟨gb109, 3, none⟩ = some (.int .i64 x110003_1) := (blk_cell BK109.out 3).trans rfl
        have hcz26_4 : wr.cell? ⟨gb109, 4, none⟩ = some (.int .i64 x110004_1) := (blk_cell BK109.out 4).trans rfl
        have hfz26_0 := blk_frozen BK109.out 0
        have hfz26_1 := blk_frozen BK109.out 1
        have hfz26_2 := blk_frozen BK109.out 2
        have hfz26_3 := blk_frozen BK109.out 3
        have hfz26_4 := blk_frozen BK109.out 4
        have hcz27_0 : wr.cell? ⟨gb110, 0, none⟩ = some (.int .i64 x111000_1) := (blk_cell BK110.out 0).trans rfl
        have hcz27_1 : wr.cell? ⟨gb110, 1, none⟩ = some (.int .i64 x111001_1) := (blk_cell BK110.out 1).trans rfl
        have hfz27_0 := blk_frozen BK110.out 0
        have hfz27_1 := blk_frozen BK110.out 1
        go_wp2
        refine bodyPost_ret (results_cc rfl _ _ gb109 gb110 33 26 #[.int .i64 0, .string (⟨#[]⟩ : ByteArray), .int .i64 0, .int .i64 0, .int .i64 0] #[.int .i64 44, .int .i64 x7_1] (0, 0) (0, 0) _ _ rfl (by (with_reducible repeat first|apply bk1_|apply bk2_|apply bk3_); refine blk_far ?_ NB109_110.out _; (with_reducible repeat first|apply bk1_|apply bk2_|apply bk3_); refine blk_far ?_ NB109_110.out _; (with_reducible repeat first|apply bk1_|apply bk2_|apply bk3_); refine blk_put (cs := #[.int .i64 0, .string (⟨#[]⟩ : ByteArray), .int .i64 0, .int .i64 0, .int .i64 x110004_1]) ?_ 4 _ rfl; (with_reducible repeat first|apply bk1_|apply bk2_|apply bk3_); refine blk_put (cs := #[.int .i64 0, .string (⟨#[]⟩ : ByteArray), .int .i64 0, .int .i64 x110003_1, .int .i64 x110004_1]) ?_ 3 _ rfl; (with_reducible repeat first|apply bk1_|apply bk2_|apply bk3_); refine blk_put (cs := #[.int .i64 0, .string (⟨#[]⟩ : ByteArray), .int .i64 x110002_1, .int .i64 x110003_1, .int .i64 x110004_1]) ?_ 2 _ rfl; (with_reducible repeat first|apply bk1_|apply bk2_|apply bk3_); refine blk_put (cs := #[.int .i64 0, .string x110001_1, .int .i64 x110002_1, .int .i64 x110003_1, .int .i64 x110004_1]) ?_ 1 _ rfl; (with_reducible repeat first|apply bk1_|apply bk2_|apply bk3_); refine blk_put (cs := #[.int .i64 x110000_1, .string x110001_1, .int .i64 x110002_1, .int .i64 x110003_1, .int .i64 x110004_1]) ?_ 0 _ rfl; (with_reducible repeat first|apply bk1_|apply bk2_|apply bk3_); exact BK109.out) Tryd.underlying33 rfl (by kernel_rfl) rfl (by (with_reducible repeat first|apply bk1_|apply bk2_|apply bk3_); refine blk_put (cs := #[.int .i64 44, .int .i64 x111001_1]) ?_ 1 _ rfl; (with_reducible repeat first|apply bk1_|apply bk2_|apply bk3_); refine blk_put (cs := #[.int .i64 x111000_1, .int .i64 x111001_1]) ?_ 0 _ rfl; (with_reducible repeat first|apply bk1_|apply bk2_|apply bk3_); refine blk_far ?_ NB110_109.out _; (with_reducible repeat first|apply bk1_|apply bk2_|apply bk3_); refine blk_far ?_ NB110_109.out _; (with_reducible repeat first|apply bk1_|apply bk2_|apply bk3_); refine blk_far ?_ NB110_109.out _; (with_reducible repeat first|apply bk1_|apply bk2_|apply bk3_); refine blk_far ?_ NB110_109.out _; (with_reducible repeat first|apply bk1_|apply bk2_|apply bk3_); refine blk_far ?_ NB110_109.out _; (with_reducible repeat first|apply bk1_|apply bk2_|apply bk3_); exact BK110.out) Tryd.underlying26 rfl (by kernel_rfl)) rfl ?_
        exact ⟨er_, h1_⟩
       ·rw [if_neg c24] at H
        have c24b0 : decide ((bt a0 x7_1) < 32) = false := decide_eq_false c24
        clear c24
        by_cases c28 : (bt a0 x7_1) = 127
        ·rw [if_pos c28] at H
         have c28b0 : ((bt a0 x7_1) == 127) = true := beq_iff_eq.mpr c28
         have c28b1 : ((bt a0 x7_1) != 127) = false := bne_eq_false_iff_eq.mpr c28
         clear c28
         simp only [Option.some.injEq, Prod.mk.injEq] at H
         obtain ⟨rfl, rfl, rfl, rfl, rfl, rfl, rfl⟩ := H
         have p7 : 0 ≤ (x7_1 : Int) := of_decide_eq_true (by first | (with_reducible assumption) | assumption)
         have q7 : x7_1 < (a0.size : Int) := of_decide_eq_true (by first | (with_reducible assumption) | assumption)
         have hx7 := bt_at a0 x7_1
         replace p7 := eq_true p7
         replace q7 := eq_true q7
         have hnb29 := NB109_110.out
         have hnc29 := NB110_109.out
         have hcz30_0 : wr.cell? ⟨gb109, 0, none⟩ = some (.int .i64 x110000_1) := (blk_cell BK109.out 0).trans rfl
         have hcz30_1 : wr.cell? ⟨gb109, 1, none⟩ = some (.string x110001_1) := (blk_cell BK109.out 1).trans rfl
         have hcz30_2 : wr.cell? ⟨gb109, 2, none⟩ = some (.int .i64 x110002_1) := (blk_cell BK109.out 2).trans rfl
         have hcz30_3 : wr.cell? ⟨gb109, 3, none⟩ = some (.int .i64 x110003_1) := (blk_cell BK109.out 3).trans rfl
         have hcz30_4 : wr.cell? ⟨gb109, 4, none⟩ = some (.int .i64 x110004_1) := (blk_cell BK109.out 4).trans rfl
         have hfz30_0 := blk_frozen BK109.out 0
         have hfz30_1 := blk_frozen BK109.out 1
         have hfz30_2 := blk_frozen BK109.out 2
         have hfz30_3 := blk_frozen BK109.out 3
         have hfz30_4 := blk_frozen BK109.out 4
         have hcz31_0 : wr.cell? ⟨gb110, 0, none⟩ = some (.int .i64 x111000_1) := (blk_cell BK110.out 0).trans rfl
         have hcz31_1 : wr.cell? ⟨gb110, 1, none⟩ = some (.int .i64 x111001_1) := (blk_cell BK110.out 1).trans rfl
         have hfz31_0 := blk_frozen BK110.out 0
         have hfz31_1 := blk_frozen BK110.out 1
         go_wp2
         refine bodyPost_ret (results_cc rfl _ _ gb109 gb110 33 26 #[.int .i64 0, .string (⟨#[]⟩ : ByteArray), .int .i64 0, .int .i64 0, .int .i64 0] #[.int .i64 44, .int .i64 x7_1] (0, 0) (0, 0) _ _ rfl (by (with_reducible repeat first|apply bk1_|apply bk2_|apply bk3_); refine blk_far ?_ NB109_110.out _; (with_reducible repeat first|apply bk1_|apply bk2_|apply bk3_); refine blk_far ?_ NB109_110.out _; (with_reducible repeat first|apply bk1_|apply bk2_|apply bk3_); refine blk_put (cs := #[.int .i64 0, .string (⟨#[]⟩ : ByteArray), .int .i64 0, .int .i64 0, .int .i64 x110004_1]) ?_ 4 _ rfl; (with_reducible repeat first|apply bk1_|apply bk2_|apply bk3_); refine blk_put (cs := #[.int .i64 0, .string (⟨#[]⟩ : ByteArray), .int .i64 0, .int .i64 x110003_1, .int .i64 x110004_1]) ?_ 3 _ rfl; (with_reducible repeat first|apply bk1_|apply bk2_|apply bk3_); refine blk_put (cs := #[.int .i64 0, .string (⟨#[]⟩ : ByteArray), .int .i64 x110002_1, .int .i64 x110003_1, .int .i64 x110004_1]) ?_ 2 _ rfl; (with_reducible repeat first|apply bk1_|apply bk2_|apply bk3_); refine blk_put (cs := #[.int .i64 0, .string x110001_1, .int .i64 x110002_1, .int .i64 x110003_1, .int .i64 x110004_1]) ?_ 1 _ rfl; (with_reducible repeat first|apply bk1_|apply bk2_|apply bk3_); refine blk_put (cs := #[.int .i64 x110000_1, .string x110001_1, .int .i64 x110002_1, .int .i64 x110003_1, .int .i64 x110004_1]) ?_ 0 _ rfl; (with_reducible repeat first|apply bk1_|apply bk2_|apply bk3_); exact BK109.out) Tryd.underlying33 rfl (by kernel_rfl) rfl (by (with_reducible repeat first|apply bk1_|apply bk2_|apply bk3_); refine blk_put (cs := #[.int .i64 44, .int .i64 x111001_1]) ?_ 1 _ rfl; (with_reducible repeat first|apply bk1_|apply bk2_|apply bk3_); refine blk_put (cs := #[.int .i64 x111000_1, .int .i64 x111001_1]) ?_ 0 _ rfl; (with_reducible repeat first|apply bk1_|apply bk2_|apply bk3_); refine blk_far ?_ NB110_109.out _; (with_reducible repeat first|apply bk1_|apply bk2_|apply bk3_); refine blk_far ?_ NB110_109.out _; (with_reducible repeat first|apply bk1_|apply bk2_|apply bk3_); refine blk_far ?_ NB110_109.out _; (with_reducible repeat first|apply bk1_|apply bk2_|apply bk3_); refine blk_far ?_ NB110_109.out _; (with_reducible repeat first|apply bk1_|apply bk2_|apply bk3_); refine blk_far ?_ NB110_109.out _; (with_reducible repeat first|apply bk1_|apply bk2_|apply bk3_); exact BK110.out) Tryd.underlying26 rfl (by kernel_rfl)) rfl ?_
         exact ⟨er_, h1_⟩
        ·rw [if_neg c28] at H
         have c28b0 : ((bt a0 x7_1) == 127) = false := beq_eq_false_iff_ne.mpr c28
         have c28b1 : ((bt a0 x7_1) != 127) = true := bne_iff_ne.mpr c28
         by_cases c32 : x6_1.length < 140737488355328
         ·rw [if_pos c32] at H
          have LMc32 := Aside0.mk c32
          clear c32
          obtain ⟨y116, hy116⟩ : ∃ y_ : List Int, y_ = (x6_1 ++ [bt a0 x7_1]) := ⟨_, rfl⟩
          replace H : (tokens_quoted.l0 k1 a0 a1 y116 (wrap64 (x7_1 + 1))) = some (r1, r2, r3, r4, r5, r6, r7) := by first | (rw [hy116]; with_reducible exact H) | (have H2_ := (Option.bind_some _ _).symm.trans H; rw [hy116]; with_reducible exact H2_) | (have H2_ := (Option.bind_some _ _).symm.trans H; with_reducible exact H2_) | with_reducible exact H | (rw [hy116]; exact H) | exact H
          have Ny116 := Aside0.mk hy116
          clear hy116
          have H' := Aside0.mk H
          clear H
          have p7 : 0 ≤ (x7_1 : Int) := of_decide_eq_true (by first | (with_reducible assumption) | assumption)
          have q7 : x7_1 < (a0.size : Int) := of_decide_eq_true (by first | (with_reducible assumption) | assumption)
          have hx7 := bt_at a0 x7_1
          replace p7 := eq_true p7
          replace q7 := eq_true q7
          go_wp2_with (first | ((with_reducible refine gate_builtin (b := .append) (xs := #[.tmp 20, .tmp 22]) rfl ?_); at_builtin; refine Kd.R_append (Kd.int .u8) (w0 := w) w.heap.size rfl (.tmp 20) (.tmp 22) 44 5 (.int .u8 0) 1 rfl Tryd.underlying44 info5 rfl (by decide) (by omega) u6 x6_1 (bt a0 x7_1) [.int .u8 (bt a0 x7_1)] (fun _ => True) (fun _ => False) rfl rfl ?aP (fun _ hk => hk.elim) ?aF ?aO ?aB ?aS ?aL ?_; (case aP => exact rfl); (case aB => exact h1_); (case aF => exact (fun _ _ => trivial)); (case aO => exact (rk_ HO_6)); (case aS => exact (below_size h1_)); (case aL => have := LMc32.out; omega); intro v117 w33 ho hb hg hat; rw [← Ny116.out] at ho; have n0_ := Aside0.mk (blk_grown (g := gb109) (o := .cells #[.int .i64 x110000_1, .string x110001_1, .int .i64 x110002_1, .int .i64 x110003_1, .int .i64 x110004_1] 33 (0, 0)) (bk_ BK109) hg (Kd.R_ne HO_6.out BK109.out (by decide))); have n1_ := Aside0.mk (blk_grown (g := gb110) (o := .cells #[.int .i64 x111000_1, .int .i64 x111001_1] 26 (0, 0)) (bk_ BK110) hg (Kd.R_ne HO_6.out BK110.out (by decide))); have n2_ := Aside0.mk (hb); have n3_ := Aside0.mk (ho); clear BK109; clear BK110; clear HB; clear HO_6; have BK109 := n0_; have BK110 := n1_; have HB := n2_; have HO118 := n3_; clear n0_ n1_ n2_ n3_; clear ho hb hg hat))
          go_roundg k1
          case measure => have := HK1.out; omega
          case rel => exact ⟨(y116), (wrap64 (x7_1 + 1)), (x110000_1), (x110001_1), (x110002_1), (x110003_1), (x110004_1), (x111000_1), (x111001_1), eq_, H', ⟨by have := HK1.out; omega⟩, ⟨by (with_reducible repeat (first | apply Kd.R_alloc | apply Kd.R_drewN | apply Kd.R_drew)); exact HO118.out⟩, ⟨by (with_reducible repeat first|apply bk1_|apply bk2_|apply bk3_); exact BK109.out⟩, ⟨by (with_reducible repeat first|apply bk1_|apply bk2_|apply bk3_); exact BK110.out⟩, ⟨h1_⟩⟩
         ·rw [if_neg c32] at H
          exact absurd H (by simp)
    ·rw [if_neg c6] at H
     exact absurd H (by simp)
   ·rw [if_neg c5] at H
    have c5b0 : decide (x7_1 < (a0.size : Int)) = false := decide_eq_false c5
    clear c5
    simp only [Option.some.injEq, Prod.mk.injEq] at H
    obtain ⟨rfl, rfl, rfl, rfl, rfl, rfl, rfl⟩ := H
    have hnb34 := NB109_110.out
    have hnc34 := NB110_109.out
    have hcz35_0 : wr.cell? ⟨gb109, 0, none⟩ = some (.int .i64 x110000_1) := (blk_cell BK109.out 0).trans rfl
    have hcz35_1 : wr.cell? ⟨gb109, 1, none⟩ = some (.string x110001_1) := (blk_cell BK109.out 1).trans rfl
    have hcz35_2 : wr.cell? ⟨gb109, 2, none⟩ = some (.int .i64 x110002_1) := (blk_cell BK109.out 2).trans rfl
    have hcz35_3 : wr.cell? ⟨gb109, 3, none⟩ = some (.int .i64 x110003_1) := (blk_cell BK109.out 3).trans rfl
    have hcz35_4 : wr.cell? ⟨gb109, 4, none⟩ = some (.int .i64 x110004_1) := (blk_cell BK109.out 4).trans rfl
    have hfz35_0 := blk_frozen BK109.out 0
    have hfz35_1 := blk_frozen BK109.out 1
    have hfz35_2 := blk_frozen BK109.out 2
    have hfz35_3 := blk_frozen BK109.out 3
    have hfz35_4 := blk_frozen BK109.out 4
    have hcz36_0 : wr.cell? ⟨gb110, 0, none⟩ = some (.int .i64 x111000_1) := (blk_cell BK110.out 0).trans rfl
    have hcz36_1 : wr.cell? ⟨gb110, 1, none⟩ = some (.int .i64 x111001_1) := (blk_cell BK110.out 1).trans rfl
    have hfz36_0 := blk_frozen BK110.out 0
    have hfz36_1 := blk_frozen BK110.out 1
    go_wp2
    refine bodyPost_ret (results_cc rfl _ _ gb109 gb110 33 26 #[.int .i64 0, .string (⟨#[]⟩ : ByteArray), .int .i64 0, .int .i64 0, .int .i64 0] #[.int .i64 43, .int .i64 a1] (0, 0) (0, 0) _ _ rfl (by (with_reducible repeat first|apply bk1_|apply bk2_|apply bk3_); refine blk_far ?_ NB109_110.out _; (with_reducible repeat first|apply bk1_|apply bk2_|apply bk3_); refine blk_far ?_ NB109_110.out _; (with_reducible repeat first|apply bk1_|apply bk2_|apply bk3_); refine blk_put (cs := #[.int .i64 0, .string (⟨#[]⟩ : ByteArray), .int .i64 0, .int .i64 0, .int .i64 x110004_1]) ?_ 4 _ rfl; (with_reducible repeat first|apply bk1_|apply bk2_|apply bk3_); refine blk_put (cs := #[.int .i64 0, .string (⟨#[]⟩ : ByteArray), .int .i64 0, .int .i64 x110003_1, .int .i64 x110004_1]) ?_ 3 _ rfl; (with_reducible repeat first|apply bk1_|apply bk2_|apply bk3_); refine blk_put (cs := #[.int .i64 0, .string (⟨#[]⟩ : ByteArray), .int .i64 x110002_1, .int .i64 x110003_1, .int .i64 x110004_1]) ?_ 2 _ rfl; (with_reducible repeat first|apply bk1_|apply bk2_|apply bk3_); refine blk_put (cs := #[.int .i64 0, .string x110001_1, .int .i64 x110002_1, .int .i64 x110003_1, .int .i64 x110004_1]) ?_ 1 _ rfl; (with_reducible repeat first|apply bk1_|apply bk2_|apply bk3_); refine blk_put (cs := #[.int .i64 x110000_1, .string x110001_1, .int .i64 x110002_1, .int .i64 x110003_1, .int .i64 x110004_1]) ?_ 0 _ rfl; (with_reducible repeat first|apply bk1_|apply bk2_|apply bk3_); exact BK109.out) Tryd.underlying33 rfl (by kernel_rfl) rfl (by (with_reducible repeat first|apply bk1_|apply bk2_|apply bk3_); refine blk_put (cs := #[.int .i64 43, .int .i64 x111001_1]) ?_ 1 _ rfl; (with_reducible repeat first|apply bk1_|apply bk2_|apply bk3_); refine blk_put (cs := #[.int .i64 x111000_1, .int .i64 x111001_1]) ?_ 0 _ rfl; (with_reducible repeat first|apply bk1_|apply bk2_|apply bk3_); refine blk_far ?_ NB110_109.out _; (with_reducible repeat first|apply bk1_|apply bk2_|apply bk3_); refine blk_far ?_ NB110_109.out _; (with_reducible repeat first|apply bk1_|apply bk2_|apply bk3_); refine blk_far ?_ NB110_109.out _; (with_reducible repeat first|apply bk1_|apply bk2_|apply bk3_); refine blk_far ?_ NB110_109.out _; (with_reducible repeat first|apply bk1_|apply bk2_|apply bk3_); refine blk_far ?_ NB110_109.out _; (with_reducible repeat first|apply bk1_|apply bk2_|apply bk3_); exact BK110.out) Tryd.underlying26 rfl (by kernel_rfl)) rfl ?_
    exact ⟨er_, h1_⟩

-- GIVEN: function 73 (tokens_sign)

/-! ### tokens_signs: function 54 -/
def tokens_signs.j0 : Nat → ByteArray → ByteArray → Int → ByteArray → Int → Int → Int → Option (Int × ByteArray × Int × Int × Int × Int × Int)
 | 0, _, _, _, _, _, _, _ => none
 | k + 1, x0, x6, x120000, x120001, x120002, x120003, x120004 => if x6.toList = ([58, 45] : List UInt8) then (some (11, x120001, x120002, x120003, wrap64 (x120003 + 2), 0, 0)) else (if x6.toList = ([33, 61] : List UInt8) then (some (14, x120001, x120002, x120003, wrap64 (x120003 + 2), 0, 0)) else (if x6.toList = ([60, 61] : List UInt8) then (some (16, x120001, x120002, x120003, wrap64 (x120003 + 2), 0, 0)) else (if 0 < (x0.size : Int) then ((tokens_sign.f (bt x0 0)).bind fun t122 => (if t122 = 0 then (some (t122, x120001, x120002, x120003, x120004, 42, x120003)) else (some (t122, x120001, x120002, x120003, wrap64 (x120003 + 1), 0, 0)))) else (none))))
def tokens_signs.f (k : Nat) (a0 : ByteArray) (a1_0 : Int) (a1_1 : ByteArray) (a1_2 : Int) (a1_3 : Int) (a1_4 : Int) : Option (Int × ByteArray × Int × Int × Int × Int × Int) := if (a0.size : Int) > 1 then (if 2 ≤ (a0.size : Int) then (tokens_signs.j0 k a0 (a0.extract 0 2) a1_0 a1_1 a1_2 a1_3 a1_4) else (none)) else (tokens_signs.j0 k a0 (⟨#[]⟩ : ByteArray) a1_0 a1_1 a1_2 a1_3 a1_4)
theorem tokens_signs.mono_l : ∀ k, (∀ y0 y1 y2 y3 y4 y5 y6, LeO (tokens_signs.j0 k y0 y1 y2 y3 y4 y5 y6) (tokens_signs.j0 (k + 1) y0 y1 y2 y3 y4 y5 y6))
 | 0 => fun _ _ _ _ _ _ _ r h => by simp [tokens_signs.j0] at h
 | k + 1 => by
  have ih0 := tokens_signs.mono_l k
  ·intro y0 y1 y2 y3 y4 y5 y6
   unfold tokens_signs.j0
   repeat' first
   | (with_reducible exact ih0 _ _ _ _ _ _ _)
   | (with_reducible exact LeO.refl _)
   | (with_reducible exact LeO.none _)
   | (with_reducible refine LeO.ite ?_ ?_)
   | (with_reducible refine LeO.bind ?_ (fun _ => ?_))
   | exact ih0 _ _ _ _ _ _ _
   | exact LeO.none _
   | refine LeO.ite ?_ ?_
   | refine LeO.bind ?_ (fun _ => ?_)
theorem tokens_signs.mono : ∀ a0 a1 a2 a3 a4 a5 k, LeO (tokens_signs.f k a0 a1 a2 a3 a4 a5) (tokens_signs.f (k + 1) a0 a1 a2 a3 a4 a5) := by
 intro a0 a1 a2 a3 a4 a5 k
 have ih0 := tokens_signs.mono_l k
 unfold tokens_signs.f
 repeat' first
   | (with_reducible exact ih0 _ _ _ _ _ _ _)
   | (with_reducible exact LeO.refl _)
   | (with_reducible exact LeO.none _)
   | (with_reducible refine LeO.ite ?_ ?_)
   | (with_reducible refine LeO.bind ?_ (fun _ => ?_))
   | exact ih0 _ _ _ _ _ _ _
   | exact LeO.none _
   | refine LeO.ite ?_ ?_
   | refine LeO.bind ?_ (fun _ => ?_)
set_option maxHeartbeats 20000000 in
set_option maxRecDepth 100000 in
theorem tokens_signs.calls (k : Nat) (a0 : ByteArray) (a1_0 : Int) (a1_1 : ByteArray) (a1_2 : Int) (a1_3 : Int) (a1_4 : Int) (r1 : Int) (r2 : ByteArray) (r3 : Int) (r4 : Int) (r5 : Int) (r6 : Int) (r7 : Int) (w : World) (h : tokens_signs.f k a0 a1_0 a1_1 a1_2 a1_3 a1_4 = some (r1, r2, r3, r4, r5, r6, r7)) :
  Calls Tryd.prog 54 #[.string a0, .agg #[.int .i64 a1_0, .string a1_1, .int .i64 a1_2, .int .i64 a1_3, .int .i64 a1_4]] w fun e w' => e = .returned (.tuple #[.agg #[.int .i64 r1, .string r2, .int .i64 r3, .int .i64 r4, .int .i64 r5], .agg #[.int .i64 r6, .int .i64 r7]]) ∧ Below w.heap.size w w' := by
 have hu33 := Tryd.underlying33
 have hu26 := Tryd.underlying26
 have HB := Aside0.mk (Below.refl w.heap.size w)
 have H : (if (a0.size : Int) > 1 then (if 2 ≤ (a0.size : Int) then (tokens_signs.j0 k a0 (a0.extract 0 2) a1_0 a1_1 a1_2 a1_3 a1_4) else (none)) else (tokens_signs.j0 k a0 (⟨#[]⟩ : ByteArray) a1_0 a1_1 a1_2 a1_3 a1_4)) = some (r1, r2, r3, r4, r5, r6, r7) := h
 clear h
 have HC3 := Aside0.mk H
 clear H
 go_enter Tryd.func54, Tryd.ntmps54
 go_upto_if 10 with (first | ((with_reducible refine gate_dst (N := 3) rfl ?_); refine box_event ?hg (N := 3) ?hd (cs := #[.int .i64 a1_0, .string a1_1, .int .i64 a1_2, .int .i64 a1_3, .int .i64 a1_4]) (t := 33) ?hr ?_; (case hd => rfl); (case hg => rfl); (case hr => first | (go_simp; done) | (go_simp; rfl)); intro gb119 hg w4 hbox hb; have n0_ := Aside0.mk (below_step h0_ hb); have n1_ := Aside0.mk (hbox); have n2_ := Aside0.mk ((by rw [hg]; exact (below_size h0_) : w.heap.size ≤ gb119)); have n3_ := Aside0.mk ((by rw [hg]; exact (below_size h0_) : w.heap.size ≤ gb119)); clear HB; have HB := n0_; have BK119 := n1_; have GW119 := n2_; have GE119 := n3_; clear n0_ n1_ n2_ n3_; clear hb hbox hg) | ((with_reducible refine gate_dst (N := 4) rfl ?_); refine box_event ?hg (N := 4) ?hd (cs := #[.int .i64 0, .string (⟨#[]⟩ : ByteArray), .int .i64 0, .int .i64 0, .int .i64 0]) (t := 33) ?hr ?_; (case hd => rfl); (case hg => rfl); (case hr => first | (go_simp; done) | (go_simp; rfl)); intro gb120 hg w5 hbox hb; have n0_ := Aside0.mk (blk_below (g := gb119) (o := .cells #[.int .i64 a1_0, .string a1_1, .int .i64 a1_2, .int .i64 a1_3, .int .i64 a1_4] 33 (0, 0)) (bk_ BK119) hb); have n1_ := Aside0.mk (below_step h1_ hb); have n2_ := Aside0.mk (hbox); have n3_ := Aside0.mk ((by rw [hg]; exact (below_size h1_) : w.heap.size ≤ gb120)); have n4_ := Aside0.mk ((by rw [hg]; exact (below_size h1_) : w.heap.size ≤ gb120)); have n5_ := Aside0.mk ((by rw [hg]; exact Nat.ne_of_lt (blk_lt (g := gb119) (o := .cells #[.int .i64 a1_0, .string a1_1, .int .i64 a1_2, .int .i64 a1_3, .int .i64 a1_4] 33 (0, 0)) (bk_ BK119)) : gb119 ≠ gb120)); have n6_ := Aside0.mk ((by rw [hg]; exact Nat.ne_of_gt (blk_lt (g := gb119) (o := .cells #[.int .i64 a1_0, .string a1_1, .int .i64 a1_2, .int .i64 a1_3, .int .i64 a1_4] 33 (0, 0)) (bk_ BK119)) : gb120 ≠ gb119)); clear BK119; clear HB; have BK119 := n0_; have HB := n1_; have BK120 := n2_; have GW120 := n3_; have GE120 := n4_; have NB119_120 := n5_; have NB120_119 := n6_; clear n0_ n1_ n2_ n3_ n4_ n5_ n6_; clear hb hbox hg) | ((with_reducible refine gate_dst (N := 5) rfl ?_); refine box_event ?hg (N := 5) ?hd (cs := #[.int .i64 0, .int .i64 0]) (t := 26) ?hr ?_; (case hd => rfl); (case hg => rfl); (case hr => first | (go_simp; done) | (go_simp; rfl)); intro gb121 hg w6 hbox hb; have n0_ := Aside0.mk (blk_below (g := gb119) (o := .cells #[.int .i64 a1_0, .string a1_1, .int .i64 a1_2, .int .i64 a1_3, .int .i64 a1_4] 33 (0, 0)) (bk_ BK119) hb); have n1_ := Aside0.mk (blk_below (g := gb120) (o := .cells #[.int .i64 0, .string (⟨#[]⟩ : ByteArray), .int .i64 0, .int .i64 0, .int .i64 0] 33 (0, 0)) (bk_ BK120) hb); have n2_ := Aside0.mk (below_step h1_ hb); have n3_ := Aside0.mk (hbox); have n4_ := Aside0.mk ((by rw [hg]; exact (below_size h1_) : w.heap.size ≤ gb121)); have n5_ := Aside0.mk ((by rw [hg]; exact (below_size h1_) : w.heap.size ≤ gb121)); have n6_ := Aside0.mk ((by rw [hg]; exact Nat.ne_of_lt (blk_lt (g := gb119) (o := .cells #[.int .i64 a1_0, .string a1_1, .int .i64 a1_2, .int .i64 a1_3, .int .i64 a1_4] 33 (0, 0)) (bk_ BK119)) : gb119 ≠ gb121)); have n7_ := Aside0.mk ((by rw [hg]; exact Nat.ne_of_gt (blk_lt (g := gb119) (o := .cells #[.int .i64 a1_0, .string a1_1, .int .i64 a1_2, .int .i64 a1_3, .int .i64 a1_4] 33 (0, 0)) (bk_ BK119)) : gb121 ≠ gb119)); have n8_ := Aside0.mk ((by rw [hg]; exact Nat.ne_of_lt (blk_lt (g := gb120) (o := .cells #[.int .i64 0, .string (⟨#[]⟩ : ByteArray), .int .i64 0, .int .i64 0, .int .i64 0] 33 (0, 0)) (bk_ BK120)) : gb120 ≠ gb121)); have n9_ := Aside0.mk ((by rw [hg]; exact Nat.ne_of_gt (blk_lt (g := gb120) (o := .cells #[.int .i64 0, .string (⟨#[]⟩ : ByteArray), .int .i64 0, .int .i64 0, .int .i64 0] 33 (0, 0)) (bk_ BK120)) : gb121 ≠ gb120)); clear BK119; clear BK120; clear HB; have BK119 := n0_; have BK120 := n1_; have HB := n2_; have BK121 := n3_; have GW121 := n4_; have GE121 := n5_; have NB119_121 := n6_; have NB121_119 := n7_; have NB120_121 := n8_; have NB121_120 := n9_; clear n0_ n1_ n2_ n3_ n4_ n5_ n6_ n7_ n8_ n9_; clear hb hbox hg))
 (try simp only [Act.put, List.setIfInBounds_toArray, List.set_cons_zero, List.set_cons_succ])
 go_cut [6] (fun v6 wc => ∃ (kq : Nat) (x6_2 : ByteArray), v6 = .string x6_2 ∧ Aside0 (tokens_signs.j0 kq a0 x6_2 a1_0 a1_1 a1_2 a1_3 a1_4 = some (r1, r2, r3, r4, r5, r6, r7)) ∧ Aside0 (kq ≤ k) ∧ Aside0 (wc.heap[gb119]? = some (.cells #[.int .i64 a1_0, .string a1_1, .int .i64 a1_2, .int .i64 a1_3, .int .i64 a1_4] 33 (0, 0))) ∧ Aside0 (wc.heap[gb120]? = some (.cells #[.int .i64 0, .string (⟨#[]⟩ : ByteArray), .int .i64 0, .int .i64 0, .int .i64 0] 33 (0, 0))) ∧ Aside0 (wc.heap[gb121]? = some (.cells #[.int .i64 0, .int .i64 0] 26 (0, 0))) ∧ Aside0 (Below w.heap.size w wc))
 case first =>
  have H := HC3.out
  clear HC3
  by_cases c7 : (a0.size : Int) > 1
  ·rw [if_pos c7] at H
   have c7b0 : decide (1 < (a0.size : Int)) = true := decide_eq_true c7
   have c7b1 : decide (1 < a0.size) = true := decide_eq_true (by omega)
   clear c7
   (first | rw [c7b0] | (simp only [i64_w, i32_w]; rw [c7b0]) | skip)
   by_cases c8 : 2 ≤ (a0.size : Int)
   ·rw [if_pos c8] at H
    have c8b0 := eq_true c8
    have c8b1 : decide (2 ≤ (a0.size : Int)) = true := decide_eq_true c8
    clear c8
    have H' := Aside0.mk H
    clear H
    go_wp2
    go_meet
    case rel => exact ⟨_, (a0.extract 0 2), eq_, H', ⟨by first | omega | exact Nat.le_refl _⟩, ⟨by (with_reducible repeat first|apply bk1_|apply bk2_|apply bk3_); exact BK119.out⟩, ⟨by (with_reducible repeat first|apply bk1_|apply bk2_|apply bk3_); exact BK120.out⟩, ⟨by (with_reducible repeat first|apply bk1_|apply bk2_|apply bk3_); exact BK121.out⟩, ⟨h1_⟩⟩
   ·rw [if_neg c8] at H
    exact absurd H (by simp)
  ·rw [if_neg c7] at H
   have c7b0 : decide (1 < (a0.size : Int)) = false := decide_eq_false c7
   have c7b1 : decide (1 < a0.size) = false := decide_eq_false (by omega)
   clear c7
   (first | rw [c7b0] | (simp only [i64_w, i32_w]; rw [c7b0]) | skip)
   have H' := Aside0.mk H
   clear H
   go_wp2
   go_meet
   case rel => exact ⟨_, ((⟨#[]⟩ : ByteArray)), eq_, H', ⟨by first | omega | exact Nat.le_refl _⟩, ⟨by (with_reducible repeat first|apply bk1_|apply bk2_|apply bk3_); exact BK119.out⟩, ⟨by (with_reducible repeat first|apply bk1_|apply bk2_|apply bk3_); exact BK120.out⟩, ⟨by (with_reducible repeat first|apply bk1_|apply bk2_|apply bk3_); exact BK121.out⟩, ⟨h1_⟩⟩
 case rest =>
  clear HC3
  try clear p2
  try clear c5
  try clear c7
  try clear c7b0
  try clear c7b1
  try clear c8
  try clear c8b0
  try clear c8b1
  obtain ⟨kq, x6_2, rfl, HA, HJ2, BK119, BK120, BK121, HB⟩ := hcut
  cases kq with
  | zero => exact absurd HA.out (by simp [tokens_signs.j0])
  | succ kj2 =>
   have H := HA.out
   clear HA
   simp only [tokens_signs.j0] at H
   by_cases c9 : x6_2.toList = ([58, 45] : List UInt8)
   ·rw [if_pos c9] at H
    have c9b0 : (x6_2.toList == ([58, 45] : List UInt8)) = true := beq_iff_eq.mpr c9
    have c9b1 : (x6_2.toList != ([58, 45] : List UInt8)) = false := bne_eq_false_iff_eq.mpr c9
    clear c9
    simp only [Option.some.injEq, Prod.mk.injEq] at H
    obtain ⟨rfl, rfl, rfl, rfl, rfl, rfl, rfl⟩ := H
    have hnb10 := NB119_120.out
    have hnc10 := NB120_119.out
    have hnb11 := NB119_121.out
    have hnc11 := NB121_119.out
    have hcz12_0 : wc.cell? ⟨gb119, 0, none⟩ = some (.int .i64 a1_0) := (blk_cell BK119.out 0).trans rfl
    have hcz12_1 : wc.cell? ⟨gb119, 1, none⟩ = some (.string a1_1) := (blk_cell BK119.out 1).trans rfl
    have hcz12_2 : wc.cell? ⟨gb119, 2, none⟩ = some (.int .i64 a1_2) := (blk_cell BK119.out 2).trans rfl
    have hcz12_3 : wc.cell? ⟨gb119, 3, none⟩ = some (.int .i64 a1_3) := (blk_cell BK119.out 3).trans rfl
    have hcz12_4 : wc.cell? ⟨gb119, 4, none⟩ = some (.int .i64 a1_4) := (blk_cell BK119.out 4).trans rfl
    have hfz12_0 := blk_frozen BK119.out 0
    have hfz12_1 := blk_frozen BK119.out 1
    have hfz12_2 := blk_frozen BK119.out 2
    have hfz12_3 := blk_frozen BK119.out 3
    have hfz12_4 := blk_frozen BK119.out 4
    have hnb13 := NB120_121.out
    have hnc13 := NB121_120.out
    have hcz14_0 : wc.cell? ⟨gb120, 0, none⟩ = some (.int .i64 0) := (blk_cell BK120.out 0).trans rfl
    have hcz14_1 : wc.cell? ⟨gb120, 1, none⟩ = some (.string (⟨#[]⟩ : ByteArray)) := (blk_cell BK120.out 1).trans rfl
    have hcz14_2 : wc.cell? ⟨gb120, 2, none⟩ = some (.int .i64 0) := (blk_cell BK120.out 2).trans rfl
    have hcz14_3 : wc.cell? ⟨gb120, 3, none⟩ = some (.int .i64 0) := (blk_cell BK120.out 3).trans rfl
    have hcz14_4 : wc.cell? ⟨gb120, 4, none⟩ = some (.int .i64 0) := (blk_cell BK120.out 4).trans rfl
    have hfz14_0 := blk_frozen BK120.out 0
    have hfz14_1 := blk_frozen BK120.out 1
    have hfz14_2 := blk_frozen BK120.out 2
    have hfz14_3 := blk_frozen BK120.out 3
    have hfz14_4 := blk_frozen BK120.out 4
    have hcz15_0 : wc.cell? ⟨gb121, 0, none⟩ = some (.int .i64 0) := (blk_cell BK121.out 0).trans rfl
    have hcz15_1 : wc.cell? ⟨gb121, 1, none⟩ = some (.int .i64 0) := (blk_cell BK121.out 1).trans rfl
    have hfz15_0 := blk_frozen BK121.out 0
    have hfz15_1 := blk_frozen BK121.out 1
    go_wp2
    refine bodyPost_ret (results_cc rfl _ _ gb120 gb121 33 26 #[.int .i64 11, .string a1_1, .int .i64 a1_2, .int .i64 a1_3, .int .i64 (wrap64 (a1_3 + 2))] #[.int .i64 0, .int .i64 0] (0, 0) (0, 0) _ _ rfl (by (with_reducible repeat first|apply bk1_|apply bk2_|apply bk3_); refine blk_far ?_ NB120_121.out _; (with_reducible repeat first|apply bk1_|apply bk2_|apply bk3_); refine blk_far ?_ NB120_121.out _; (with_reducible repeat first|apply bk1_|apply bk2_|apply bk3_); refine blk_put (cs := #[.int .i64 11, .string a1_1, .int .i64 a1_2, .int .i64 a1_3, .int .i64 0]) ?_ 4 _ rfl; (with_reducible repeat first|apply bk1_|apply bk2_|apply bk3_); refine blk_put (cs := #[.int .i64 11, .string a1_1, .int .i64 a1_2, .int .i64 0, .int .i64 0]) ?_ 3 _ rfl; (with_reducible repeat first|apply bk1_|apply bk2_|apply bk3_); refine blk_put (cs := #[.int .i64 11, .string a1_1, .int .i64 0, .int .i64 0, .int .i64 0]) ?_ 2 _ rfl; (with_reducible repeat first|apply bk1_|apply bk2_|apply bk3_); refine blk_put (cs := #[.int .i64 11, .string (⟨#[]⟩ : ByteArray), .int .i64 0, .int .i64 0, .int .i64 0]) ?_ 1 _ rfl; (with_reducible repeat first|apply bk1_|apply bk2_|apply bk3_); refine blk_put (cs := #[.int .i64 0, .string (⟨#[]⟩ : ByteArray), .int .i64 0, .int .i64 0, .int .i64 0]) ?_ 0 _ rfl; (with_reducible repeat first|apply bk1_|apply bk2_|apply bk3_); refine blk_far ?_ NB120_119.out _; (with_reducible repeat first|apply bk1_|apply bk2_|apply bk3_); refine blk_far ?_ NB120_119.out _; (with_reducible repeat first|apply bk1_|apply bk2_|apply bk3_); exact BK120.out) Tryd.underlying33 rfl (by kernel_rfl) rfl (by (with_reducible repeat first|apply bk1_|apply bk2_|apply bk3_); refine blk_put (cs := #[.int .i64 0, .int .i64 0]) ?_ 1 _ rfl; (with_reducible repeat first|apply bk1_|apply bk2_|apply bk3_); refine blk_put (cs := #[.int .i64 0, .int .i64 0]) ?_ 0 _ rfl; (with_reducible repeat first|apply bk1_|apply bk2_|apply bk3_); refine blk_far ?_ NB121_120.out _; (with_reducible repeat first|apply bk1_|apply bk2_|apply bk3_); refine blk_far ?_ NB121_120.out _; (with_reducible repeat first|apply bk1_|apply bk2_|apply bk3_); refine blk_far ?_ NB121_120.out _; (with_reducible repeat first|apply bk1_|apply bk2_|apply bk3_); refine blk_far ?_ NB121_120.out _; (with_reducible repeat first|apply bk1_|apply bk2_|apply bk3_); refine blk_far ?_ NB121_120.out _; (with_reducible repeat first|apply bk1_|apply bk2_|apply bk3_); refine blk_far ?_ NB121_119.out _; (with_reducible repeat first|apply bk1_|apply bk2_|apply bk3_); refine blk_far ?_ NB121_119.out _; (with_reducible repeat first|apply bk1_|apply bk2_|apply bk3_); exact BK121.out) Tryd.underlying26 rfl (by kernel_rfl)) rfl ?_
    exact ⟨er_, h1_⟩
   ·rw [if_neg c9] at H
    have c9b0 : (x6_2.toList == ([58, 45] : List UInt8)) = false := beq_eq_false_iff_ne.mpr c9
    have c9b1 : (x6_2.toList != ([58, 45] : List UInt8)) = true := bne_iff_ne.mpr c9
    by_cases c16 : x6_2.toList = ([33, 61] : List UInt8)
    ·rw [if_pos c16] at H
     have c16b0 : (x6_2.toList == ([33, 61] : List UInt8)) = true := beq_iff_eq.mpr c16
     have c16b1 : (x6_2.toList != ([33, 61] : List UInt8)) = false := bne_eq_false_iff_eq.mpr c16
     clear c16
     simp only [Option.some.injEq, Prod.mk.injEq] at H
     obtain ⟨rfl, rfl, rfl, rfl, rfl, rfl, rfl⟩ := H
     have hnb17 := NB119_120.out
     have hnc17 := NB120_119.out
     have hnb18 := NB119_121.out
     have hnc18 := NB121_119.out
     have hcz19_0 : wc.cell? ⟨gb119, 0, none⟩ = some (.int .i64 a1_0) := (blk_cell BK119.out 0).trans rfl
     have hcz19_1 : wc.cell? ⟨gb119, 1, none⟩ = some (.string a1_1) := (blk_cell BK119.out 1).trans rfl
     have hcz19_2 : wc.cell? ⟨gb119, 2, none⟩ = some (.int .i64 a1_2) := (blk_cell BK119.out 2).trans rfl
     have hcz19_3 : wc.cell? ⟨gb119, 3, none⟩ = some (.int .i64 a1_3) := (blk_cell BK119.out 3).trans rfl
     have hcz19_4 : wc.cell? ⟨gb119, 4, none⟩ = some (.int .i64 a1_4) := (blk_cell BK119.out 4).trans rfl
     have hfz19_0 := blk_frozen BK119.out 0
     have hfz19_1 := blk_frozen BK119.out 1
     have hfz19_2 := blk_frozen BK119.out 2
     have hfz19_3 := blk_frozen BK119.out 3
     have hfz19_4 := blk_frozen BK119.out 4
     have hnb20 := NB120_121.out
     have hnc20 := NB121_120.out
     have hcz21_0 : wc.cell? ⟨gb120, 0, none⟩ = some (.int .i64 0) := (blk_cell BK120.out 0).trans rfl
     have hcz21_1 : wc.cell? ⟨gb120, 1, none⟩ = some (.string (⟨#[]⟩ : ByteArray)) := (blk_cell BK120.out 1).trans rfl
     have hcz21_2 : wc.cell? ⟨gb120, 2, none⟩ = some (.int .i64 0) := (blk_cell BK120.out 2).trans rfl
     have hcz21_3 : wc.cell? ⟨gb120, 3, none⟩ = some (.int .i64 0) := (blk_cell BK120.out 3).trans rfl
     have hcz21_4 : wc.cell? ⟨gb120, 4, none⟩ = some (.int .i64 0) := (blk_cell BK120.out 4).trans rfl
     have hfz21_0 := blk_frozen BK120.out 0
     have hfz21_1 := blk_frozen BK120.out 1
     have hfz21_2 := blk_frozen BK120.out 2
     have hfz21_3 := blk_frozen BK120.out 3
     have hfz21_4 := blk_frozen BK120.out 4
     have hcz22_0 : wc.cell? ⟨gb121, 0, none⟩ = some (.int .i64 0) := (blk_cell BK121.out 0).trans rfl
     have hcz22_1 : wc.cell? ⟨gb121, 1, none⟩ = some (.int .i64 0) := (blk_cell BK121.out 1).trans rfl
     have hfz22_0 := blk_frozen BK121.out 0
     have hfz22_1 := blk_frozen BK121.out 1
     go_wp2
     refine bodyPost_ret (results_cc rfl _ _ gb120 gb121 33 26 #[.int .i64 14, .string a1_1, .int .i64 a1_2, .int .i64 a1_3, .int .i64 (wrap64 (a1_3 + 2))] #[.int .i64 0, .int .i64 0] (0, 0) (0, 0) _ _ rfl (by (with_reducible repeat first|apply bk1_|apply bk2_|apply bk3_); refine blk_far ?_ NB120_121.out _; (with_reducible repeat first|apply bk1_|apply bk2_|apply bk3_); refine blk_far ?_ NB120_121.out _; (with_reducible repeat first|apply bk1_|apply bk2_|apply bk3_); refine blk_put (cs := #[.int .i64 14, .string a1_1, .int .i64 a1_2, .int .i64 a1_3, .int .i64 0]) ?_ 4 _ rfl; (with_reducible repeat first|apply bk1_|apply bk2_|apply bk3_); refine blk_put (cs := #[.int .i64 14, .string a1_1, .int .i64 a1_2, .int .i64 0, .int .i64 0]) ?_ 3 _ rfl; (with_reducible repeat first|apply bk1_|apply bk2_|apply bk3_); refine blk_put (cs := #[.int .i64 14, .string a1_1, .int .i64 0, .int .i64 0, .int .i64 0]) ?_ 2 _ rfl; (with_reducible repeat first|apply bk1_|apply bk2_|apply bk3_); refine blk_put (cs := #[.int .i64 14, .string (⟨#[]⟩ : ByteArray), .int .i64 0, .int .i64 0, .int .i64 0]) ?_ 1 _ rfl; (with_reducible repeat first|apply bk1_|apply bk2_|apply bk3_); refine blk_put (cs := #[.int .i64 0, .string (⟨#[]⟩ : ByteArray), .int .i64 0, .int .i64 0, .int .i64 0]) ?_ 0 _ rfl; (with_reducible repeat first|apply bk1_|apply bk2_|apply bk3_); refine blk_far ?_ NB120_119.out _; (with_reducible repeat first|apply bk1_|apply bk2_|apply bk3_); refine blk_far ?_ NB120_119.out _; (with_reducible repeat first|apply bk1_|apply bk2_|apply bk3_); exact BK120.out) Tryd.underlying33 rfl (by kernel_rfl) rfl (by (with_reducible repeat first|apply bk1_|apply bk2_|apply bk3_); refine blk_put (cs := #[.int .i64 0, .int .i64 0]) ?_ 1 _ rfl; (with_reducible repeat first|apply bk1_|apply bk2_|apply bk3_); refine blk_put (cs := #[.int .i64 0, .int .i64 0]) ?_ 0 _ rfl; (with_reducible repeat first|apply bk1_|apply bk2_|apply bk3_); refine blk_far ?_ NB121_120.out _; (with_reducible repeat first|apply bk1_|apply bk2_|apply bk3_); refine blk_far ?_ NB121_120.out _; (with_reducible repeat first|apply bk1_|apply bk2_|apply bk3_); refine blk_far ?_ NB121_120.out _; (with_reducible repeat first|apply bk1_|apply bk2_|apply bk3_); refine blk_far ?_ NB121_120.out _; (with_reducible repeat first|apply bk1_|apply bk2_|apply bk3_); refine blk_far ?_ NB121_120.out _; (with_reducible repeat first|apply bk1_|apply bk2_|apply bk3_); refine blk_far ?_ NB121_119.out _; (with_reducible repeat first|apply bk1_|apply bk2_|apply bk3_); refine blk_far ?_ NB121_119.out _; (with_reducible repeat first|apply bk1_|apply bk2_|apply bk3_); exact BK121.out) Tryd.underlying26 rfl (by kernel_rfl)) rfl ?_
     exact ⟨er_, h1_⟩
    ·rw [if_neg c16] at H
     have c16b0 : (x6_2.toList == ([33, 61] : List UInt8)) = false := beq_eq_false_iff_ne.mpr c16
     have c16b1 : (x6_2.toList != ([33, 61] : List UInt8)) = true := bne_iff_ne.mpr c16
     by_cases c23 : x6_2.toList = ([60, 61] : List UInt8)
     ·rw [if_pos c23] at H
      have c23b0 : (x6_2.toList == ([60, 61] : List UInt8)) = true := beq_iff_eq.mpr c23
      have c23b1 : (x6_2.toList != ([60, 61] : List UInt8)) = false := bne_eq_false_iff_eq.mpr c23
      clear c23
      simp only [Option.some.injEq, Prod.mk.injEq] at H
      obtain ⟨rfl, rfl, rfl, rfl, rfl, rfl, rfl⟩ := H
      have hnb24 := NB119_120.out
      have hnc24 := NB120_119.out
      have hnb25 := NB119_121.out
      have hnc25 := NB121_119.out
      have hcz26_0 : wc.cell? ⟨gb119, 0, none⟩ = some (.int .i64 a1_0) := (blk_cell BK119.out 0).trans rfl
      have hcz26_1 : wc.cell? ⟨gb119, 1, none⟩ = some (.string a1_1) := (blk_cell BK119.out 1).trans rfl
      have hcz26_2 : wc.cell? ⟨gb119, 2, none⟩ = some (.int .i64 a1_2) := (blk_cell BK119.out 2).trans rfl
      have hcz26_3 : wc.cell? ⟨gb119, 3, none⟩ = some (.int .i64 a1_3) := (blk_cell BK119.out 3).trans rfl
      have hcz26_4 : wc.cell? ⟨gb119, 4, none⟩ = some (.int .i64 a1_4) := (blk_cell BK119.out 4).trans rfl
      have hfz26_0 := blk_frozen BK119.out 0
      have hfz26_1 := blk_frozen BK119.out 1
      have hfz26_2 := blk_frozen BK119.out 2
      have hfz26_3 := blk_frozen BK119.out 3
      have hfz26_4 := blk_frozen BK119.out 4
      have hnb27 := NB120_121.out
      have hnc27 := NB121_120.out
      have hcz28_0 : wc.cell? ⟨gb120, 0, none⟩ = some (.int .i64 0) := (blk_cell BK120.out 0).trans rfl
      have hcz28_1 : wc.cell? ⟨gb120, 1, none⟩ = some (.string (⟨#[]⟩ : ByteArray)) := (blk_cell BK120.out 1).trans rfl
      have hcz28_2 : wc.cell? ⟨gb120, 2, none⟩ = some (.int .i64 0) := (blk_cell BK120.out 2).trans rfl
      have hcz28_3 : wc.cell? ⟨gb120, 3, none⟩ = some (.int .i64 0) := (blk_cell BK120.out 3).trans rfl
      have hcz28_4 : wc.cell? ⟨gb120, 4, none⟩ = some (.int .i64 0) := (blk_cell BK120.out 4).trans rfl
      have hfz28_0 := blk_frozen BK120.out 0
      have hfz28_1 := blk_frozen BK120.out 1
      have hfz28_2 := blk_frozen BK120.out 2
      have hfz28_3 := blk_frozen BK120.out 3
      have hfz28_4 := blk_frozen BK120.out 4
      have hcz29_0 : wc.cell? ⟨gb121, 0, none⟩ = some (.int .i64 0) := (blk_cell BK121.out 0).trans rfl
      have hcz29_1 : wc.cell? ⟨gb121, 1, none⟩ = some (.int .i64 0) := (blk_cell BK121.out 1).trans rfl
      have hfz29_0 := blk_frozen BK121.out 0
      have hfz29_1 := blk_frozen BK121.out 1
      go_wp2
      refine bodyPost_ret (results_cc rfl _ _ gb120 gb121 33 26 #[.int .i64 16, .string a1_1, .int .i64 a1_2, .int .i64 a1_3, .int .i64 (wrap64 (a1_3 + 2))] #[.int .i64 0, .int .i64 0] (0, 0) (0, 0) _ _ rfl (by (with_reducible repeat first|apply bk1_|apply bk2_|apply bk3_); refine blk_far ?_ NB120_121.out _; (with_reducible repeat first|apply bk1_|apply bk2_|apply bk3_); refine blk_far ?_ NB120_121.out _; (with_reducible repeat first|apply bk1_|apply bk2_|apply bk3_); refine blk_put (cs := #[.int .i64 16, .string a1_1, .int .i64 a1_2, .int .i64 a1_3, .int .i64 0]) ?_ 4 _ rfl; (with_reducible repeat first|apply bk1_|apply bk2_|apply bk3_); refine blk_put (cs := #[.int .i64 16, .string a1_1, .int .i64 a1_2, .int .i64 0, .int .i64 0]) ?_ 3 _ rfl; (with_reducible repeat first|apply bk1_|apply bk2_|apply bk3_); refine blk_put (cs := #[.int .i64 16, .string a1_1, .int .i64 0, .int .i64 0, .int .i64 0]) ?_ 2 _ rfl; (with_reducible repeat first|apply bk1_|apply bk2_|apply bk3_); refine blk_put (cs := #[.int .i64 16, .string (⟨#[]⟩ : ByteArray), .int .i64 0, .int .i64 0, .int .i64 0]) ?_ 1 _ rfl; (with_reducible repeat first|apply bk1_|apply bk2_|apply bk3_); refine blk_put (cs := #[.int .i64 0, .string (⟨#[]⟩ : ByteArray), .int .i64 0, .int .i64 0, .int .i64 0]) ?_ 0 _ rfl; (with_reducible repeat first|apply bk1_|apply bk2_|apply bk3_); refine blk_far ?_ NB120_119.out _; (with_reducible repeat first|apply bk1_|apply bk2_|apply bk3_); refine blk_far ?_ NB120_119.out _; (with_reducible repeat first|apply bk1_|apply bk2_|apply bk3_); exact BK120.out) Tryd.underlying33 rfl (by kernel_rfl) rfl (by (with_reducible repeat first|apply bk1_|apply bk2_|apply bk3_); refine blk_put (cs := #[.int .i64 0, .int .i64 0]) ?_ 1 _ rfl; (with_reducible repeat first|apply bk1_|apply bk2_|apply bk3_); refine blk_put (cs := #[.int .i64 0, .int .i64 0]) ?_ 0 _ rfl; (with_reducible repeat first|apply bk1_|apply bk2_|apply bk3_); refine blk_far ?_ NB121_120.out _; (with_reducible repeat first|apply bk1_|apply bk2_|apply bk3_); refine blk_far ?_ NB121_120.out _; (with_reducible repeat first|apply bk1_|apply bk2_|apply bk3_); refine blk_far ?_ NB121_120.out _; (with_reducible repeat first|apply bk1_|apply bk2_|apply bk3_); refine blk_far ?_ NB121_120.out _; (with_reducible repeat first|apply bk1_|apply bk2_|apply bk3_); refine blk_far ?_ NB121_120.out _; (with_reducible repeat first|apply bk1_|apply bk2_|apply bk3_); refine blk_far ?_ NB121_119.out _; (with_reducible repeat first|apply bk1_|apply bk2_|apply bk3_); refine blk_far ?_ NB121_119.out _; (with_reducible repeat first|apply bk1_|apply bk2_|apply bk3_); exact BK121.out) Tryd.underlying26 rfl (by kernel_rfl)) rfl ?_
      exact ⟨er_, h1_⟩
     ·rw [if_neg c23] at H
      have c23b0 : (x6_2.toList == ([60, 61] : List UInt8)) = false := beq_eq_false_iff_ne.mpr c23
      have c23b1 : (x6_2.toList != ([60, 61] : List UInt8)) = true := bne_iff_ne.mpr c23
      by_cases c30 : 0 < (a0.size : Int)
      ·rw [if_pos c30] at H
       have c30b0 : decide (0 < (a0.size : Int)) = true := decide_eq_true c30
       have c30b1 : decide (0 < a0.size) = true := decide_eq_true (by omega)
       clear c30
       replace H := Option.bind_eq_some_iff.mp H
       obtain ⟨t122, A320, H⟩ := H
       replace H : (if t122 = 0 then (some (t122, a1_1, a1_2, a1_3, a1_4, 42, a1_3)) else (some (t122, a1_1, a1_2, a1_3, wrap64 (a1_3 + 1), 0, 0))) = some (r1, r2, r3, r4, r5, r6, r7) := H
       have A32 := Aside0.mk A320
       clear A320
       by_cases c33 : t122 = 0
       ·rw [if_pos c33] at H
        have c33b0 : (t122 == 0) = true := beq_iff_eq.mpr c33
        have c33b1 : (t122 != 0) = false := bne_eq_false_iff_eq.mpr c33
        clear c33
        simp only [Option.some.injEq, Prod.mk.injEq] at H
        obtain ⟨rfl, rfl, rfl, rfl, rfl, rfl, rfl⟩ := H
        have p31 : 0 ≤ (0 : Int) := (by omega)
        have q31 : 0 < a0.size := (by have : (0 : Int) < (a0.size : Int) := of_decide_eq_true (by first | (with_reducible assumption) | assumption); omega)
        have hx31 : ∀ h : 0 < a0.size, ((a0[0]'h).toNat : Int) = bt a0 0 := bt_at a0 0
        clear p31
        have qi31 : (0 < (a0.size : Int)) = True := eq_true (of_decide_eq_true (by first | (with_reducible assumption) | assumption))
        replace q31 := eq_true q31
        try go_wp2_with (first | ((with_reducible refine gate_callee (f := 73) rfl ?_); refine goesL_ (some 15) rfl rfl Tryd.func73 (by kernel_rfl) rfl #[.int .u8 (bt a0 0)] rfl ar_ ?_; (with_reducible refine (tokens_sign.calls (bt a0 0) t122 _ A32.out).mono ?_); rintro e w34 ⟨rfl, hb⟩; refine ⟨_, rfl, ?_⟩; have n0_ := Aside0.mk (blk_below (g := gb119) (o := .cells #[.int .i64 a1_0, .string a1_1, .int .i64 a1_2, .int .i64 a1_3, .int .i64 a1_4] 33 (0, 0)) (bk_ BK119) hb); have n1_ := Aside0.mk (blk_below (g := gb120) (o := .cells #[.int .i64 0, .string (⟨#[]⟩ : ByteArray), .int .i64 0, .int .i64 0, .int .i64 0] 33 (0, 0)) (bk_ BK120) hb); have n2_ := Aside0.mk (blk_below (g := gb121) (o := .cells #[.int .i64 0, .int .i64 0] 26 (0, 0)) (bk_ BK121) hb); have n3_ := Aside0.mk (below_step h1_ hb); clear BK119; clear BK120; clear BK121; clear HB; have BK119 := n0_; have BK120 := n1_; have BK121 := n2_; have HB := n3_; clear n0_ n1_ n2_ n3_; (try clear hb); (try clear hb2); (try clear hk); (try clear hi); have hnb35 := NB119_120.out; have hnc35 := NB120_119.out; have hnb36 := NB119_121.out; have hnc36 := NB121_119.out; have hcz37_0 : w34.cell? ⟨gb119, 0, none⟩ = some (.int .i64 a1_0) := (blk_cell BK119.out 0).trans rfl; have hcz37_1 : w34.cell? ⟨gb119, 1, none⟩ = some (.string a1_1) := (blk_cell BK119.out 1).trans rfl; have hcz37_2 : w34.cell? ⟨gb119, 2, none⟩ = some (.int .i64 a1_2) := (blk_cell BK119.out 2).trans rfl; have hcz37_3 : w34.cell? ⟨gb119, 3, none⟩ = some (.int .i64 a1_3) := (blk_cell BK119.out 3).trans rfl; have hcz37_4 : w34.cell? ⟨gb119, 4, none⟩ = some (.int .i64 a1_4) := (blk_cell BK119.out 4).trans rfl; have hfz37_0 := blk_frozen BK119.out 0; have hfz37_1 := blk_frozen BK119.out 1; have hfz37_2 := blk_frozen BK119.out 2; have hfz37_3 := blk_frozen BK119.out 3; have hfz37_4 := blk_frozen BK119.out 4))
        have n0_ : Aside0 ((w34.setCell ⟨gb119, 0, none⟩ (.int .i64 t122)).heap[gb119]? = some (.cells #[.int .i64 t122, .string a1_1, .int .i64 a1_2, .int .i64 a1_3, .int .i64 a1_4] 33 (0, 0))) := ⟨by (with_reducible repeat first|apply bk1_|apply bk2_|apply bk3_); refine blk_put (cs := #[.int .i64 a1_0, .string a1_1, .int .i64 a1_2, .int .i64 a1_3, .int .i64 a1_4]) ?_ 0 _ rfl; (with_reducible repeat first|apply bk1_|apply bk2_|apply bk3_); exact BK119.out⟩
        have n1_ : Aside0 ((w34.setCell ⟨gb119, 0, none⟩ (.int .i64 t122)).heap[gb120]? = some (.cells #[.int .i64 0, .string (⟨#[]⟩ : ByteArray), .int .i64 0, .int .i64 0, .int .i64 0] 33 (0, 0))) := ⟨by (with_reducible repeat first|apply bk1_|apply bk2_|apply bk3_); refine blk_far ?_ NB120_119.out _; (with_reducible repeat first|apply bk1_|apply bk2_|apply bk3_); exact BK120.out⟩
        have n2_ : Aside0 ((w34.setCell ⟨gb119, 0, none⟩ (.int .i64 t122)).heap[gb121]? = some (.cells #[.int .i64 0, .int .i64 0] 26 (0, 0))) := ⟨by (with_reducible repeat first|apply bk1_|apply bk2_|apply bk3_); refine blk_far ?_ NB121_119.out _; (with_reducible repeat first|apply bk1_|apply bk2_|apply bk3_); exact BK121.out⟩
        have n3_ : Aside0 (Below w.heap.size w (w34.setCell ⟨gb119, 0, none⟩ (.int .i64 t122))) := ⟨h1_⟩
        (try clear BK119)
        (try clear BK120)
        (try clear BK121)
        (try clear HB)
        generalize (w34.setCell ⟨gb119, 0, none⟩ (.int .i64 t122)) = w38 at n0_ n1_ n2_ n3_ ⊢
        have BK119 := n0_
        have BK120 := n1_
        have BK121 := n2_
        have HB := n3_
        clear n0_ n1_ n2_ n3_
        have n0_ := Aside0.mk (blk_drew BK119.out)
        have n1_ := Aside0.mk (blk_drew BK120.out)
        have n2_ := Aside0.mk (blk_drew BK121.out)
        have n3_ := Aside0.mk (below_drew1 HB.out)
        clear BK119 BK120 BK121 HB
        have BK119 := n0_
        have BK120 := n1_
        have BK121 := n2_
        have HB := n3_
        clear n0_ n1_ n2_ n3_
        refine start_ (n := 6) (S := fun w' => w'.cell? ⟨gb119, 0, none⟩ = some (.int .i64 t122) ∧ w'.cell? ⟨gb119, 1, none⟩ = some (.string a1_1) ∧ w'.cell? ⟨gb119, 2, none⟩ = some (.int .i64 a1_2) ∧ w'.cell? ⟨gb119, 3, none⟩ = some (.int .i64 a1_3) ∧ w'.cell? ⟨gb119, 4, none⟩ = some (.int .i64 a1_4)) (ds := []) #[f_,f_,f_,f_,f_,f_] (by kernel_rfl) rfl rfl ⟨(blk_cell BK119.out 0).trans rfl, (blk_cell BK119.out 1).trans rfl, (blk_cell BK119.out 2).trans rfl, (blk_cell BK119.out 3).trans rfl, (blk_cell BK119.out 4).trans rfl⟩ (fun hHeld => ?_)
        generalize w38.drew = w39 at BK119 BK120 BK121 HB hHeld ⊢
        refine pure_ (i := 1) (N := some 33) (v := ?_) (a' := ?_) #[f_,t_,f_,f_,f_,f_] rfl rfl (by kernel_rfl) (fun _ _ _ h => h) (Or.inl ⟨by rfl, ?_⟩) ?_ ?_
        rotate_left
        ·intro w'
         go_simp
         with_reducible rfl
        rotate_left
        ·simp only [Act.put, List.setIfInBounds_toArray, List.set_cons_zero, List.set_cons_succ, i64_w, i32_w]
         rfl
        refine take_ (i := 0) (N := some 32) (v := ?_) (a' := ?_) #[t_,t_,f_,f_,f_,f_] rfl rfl (by kernel_rfl) (fun _ _ _ h => h) (Or.inl ⟨by rfl, ?_⟩) hHeld ?_ ?_
        rotate_left
        ·rintro w' ⟨s0, s1, s2, s3, s4⟩
         go_simp
         with_reducible rfl
        rotate_left
        ·simp only [Act.put, List.setIfInBounds_toArray, List.set_cons_zero, List.set_cons_succ, i64_w, i32_w]
         rfl
        refine take_ (i := 2) (N := some 34) (v := ?_) (a' := ?_) #[t_,t_,t_,f_,f_,f_] rfl rfl (by kernel_rfl) (fun _ _ _ h => h) (Or.inl ⟨by rfl, ?_⟩) hHeld ?_ ?_
        rotate_left
        ·rintro w' ⟨s0, s1, s2, s3, s4⟩
         go_simp
         with_reducible rfl
        rotate_left
        ·simp only [Act.put, List.setIfInBounds_toArray, List.set_cons_zero, List.set_cons_succ, i64_w, i32_w]
         rfl
        refine pure_ (i := 3) (N := some 35) (v := ?_) (a' := ?_) #[t_,t_,t_,t_,f_,f_] rfl rfl (by kernel_rfl) (fun _ _ _ h => h) (Or.inl ⟨by rfl, ?_⟩) ?_ ?_
        rotate_left
        ·intro w'
         go_simp
         with_reducible rfl
        rotate_left
        ·simp only [Act.put, List.setIfInBounds_toArray, List.set_cons_zero, List.set_cons_succ, i64_w, i32_w]
         rfl
        refine one_ (i := 4) (N := none) #[t_,t_,t_,t_,t_,f_] rfl rfl (by kernel_rfl) (by decide) (fun K hK => ?_)
        have hs40 : w39.cell? ⟨gb120, 0, none⟩ = some (.int .i64 0) := (blk_cell BK120.out 0).trans rfl
        have hfs40 := blk_frozen BK120.out 0
        have hns40_0 := NB119_120.out
        have hns40_2 := NB121_120.out
        have hms40_0 := NB120_119.out
        have hms40_2 := NB120_121.out
        have hs41 : w39.cell? ⟨gb120, 1, none⟩ = some (.string (⟨#[]⟩ : ByteArray)) := (blk_cell BK120.out 1).trans rfl
        have hfs41 := blk_frozen BK120.out 1
        have hns41_0 := NB119_120.out
        have hns41_2 := NB121_120.out
        have hms41_0 := NB120_119.out
        have hms41_2 := NB120_121.out
        have hs42 : w39.cell? ⟨gb120, 2, none⟩ = some (.int .i64 0) := (blk_cell BK120.out 2).trans rfl
        have hfs42 := blk_frozen BK120.out 2
        have hns42_0 := NB119_120.out
        have hns42_2 := NB121_120.out
        have hms42_0 := NB120_119.out
        have hms42_2 := NB120_121.out
        have hs43 : w39.cell? ⟨gb120, 3, none⟩ = some (.int .i64 0) := (blk_cell BK120.out 3).trans rfl
        have hfs43 := blk_frozen BK120.out 3
        have hns43_0 := NB119_120.out
        have hns43_2 := NB121_120.out
        have hms43_0 := NB120_119.out
        have hms43_2 := NB120_121.out
        have hs44 : w39.cell? ⟨gb120, 4, none⟩ = some (.int .i64 0) := (blk_cell BK120.out 4).trans rfl
        have hfs44 := blk_frozen BK120.out 4
        have hns44_0 := NB119_120.out
        have hns44_2 := NB121_120.out
        have hms44_0 := NB120_119.out
        have hms44_2 := NB120_121.out
        refine skip_ (w1 := ?_) (by rfl) rfl ?_ ?_
        rotate_left
        ·go_simp
         rfl
        refine hK.out _ _ ⟨((cell_far (p := ⟨gb120, _, none⟩) NB119_120.out _).trans (((cell_far (p := ⟨gb120, _, none⟩) NB119_120.out _).trans (((cell_far (p := ⟨gb120, _, none⟩) NB119_120.out _).trans (((cell_far (p := ⟨gb120, _, none⟩) NB119_120.out _).trans (((cell_far (p := ⟨gb120, _, none⟩) NB119_120.out _).trans (hHeld.1)))))))))), ((cell_far (p := ⟨gb120, _, none⟩) NB119_120.out _).trans (((cell_far (p := ⟨gb120, _, none⟩) NB119_120.out _).trans (((cell_far (p := ⟨gb120, _, none⟩) NB119_120.out _).trans (((cell_far (p := ⟨gb120, _, none⟩) NB119_120.out _).trans (((cell_far (p := ⟨gb120, _, none⟩) NB119_120.out _).trans (hHeld.2.1)))))))))), ((cell_far (p := ⟨gb120, _, none⟩) NB119_120.out _).trans (((cell_far (p := ⟨gb120, _, none⟩) NB119_120.out _).trans (((cell_far (p := ⟨gb120, _, none⟩) NB119_120.out _).trans (((cell_far (p := ⟨gb120, _, none⟩) NB119_120.out _).trans (((cell_far (p := ⟨gb120, _, none⟩) NB119_120.out _).trans (hHeld.2.2.1)))))))))), ((cell_far (p := ⟨gb120, _, none⟩) NB119_120.out _).trans (((cell_far (p := ⟨gb120, _, none⟩) NB119_120.out _).trans (((cell_far (p := ⟨gb120, _, none⟩) NB119_120.out _).trans (((cell_far (p := ⟨gb120, _, none⟩) NB119_120.out _).trans (((cell_far (p := ⟨gb120, _, none⟩) NB119_120.out _).trans (hHeld.2.2.2.1)))))))))), ((cell_far (p := ⟨gb120, _, none⟩) NB119_120.out _).trans (((cell_far (p := ⟨gb120, _, none⟩) NB119_120.out _).trans (((cell_far (p := ⟨gb120, _, none⟩) NB119_120.out _).trans (((cell_far (p := ⟨gb120, _, none⟩) NB119_120.out _).trans (((cell_far (p := ⟨gb120, _, none⟩) NB119_120.out _).trans (hHeld.2.2.2.2))))))))))⟩ (fun hHeld => ?_)
        clear hK K
        refine one_ (i := 5) (N := none) #[t_,t_,t_,t_,t_,t_] rfl rfl (by kernel_rfl) (by decide) (fun K hK => ?_)
        have hs45 : w39.cell? ⟨gb121, 0, none⟩ = some (.int .i64 0) := (blk_cell BK121.out 0).trans rfl
        have hfs45 := blk_frozen BK121.out 0
        have hns45_0 := NB119_121.out
        have hns45_1 := NB120_121.out
        have hms45_0 := NB121_119.out
        have hms45_1 := NB121_120.out
        have hs46 : w39.cell? ⟨gb121, 1, none⟩ = some (.int .i64 0) := (blk_cell BK121.out 1).trans rfl
        have hfs46 := blk_frozen BK121.out 1
        have hns46_0 := NB119_121.out
        have hns46_1 := NB120_121.out
        have hms46_0 := NB121_119.out
        have hms46_1 := NB121_120.out
        refine skip_ (w1 := ?_) (by rfl) rfl ?_ ?_
        rotate_left
        ·go_simp
         rfl
        refine hK.out _ _ ⟨((cell_far (p := ⟨gb121, _, none⟩) NB119_121.out _).trans (((cell_far (p := ⟨gb121, _, none⟩) NB119_121.out _).trans (hHeld.1)))), ((cell_far (p := ⟨gb121, _, none⟩) NB119_121.out _).trans (((cell_far (p := ⟨gb121, _, none⟩) NB119_121.out _).trans (hHeld.2.1)))), ((cell_far (p := ⟨gb121, _, none⟩) NB119_121.out _).trans (((cell_far (p := ⟨gb121, _, none⟩) NB119_121.out _).trans (hHeld.2.2.1)))), ((cell_far (p := ⟨gb121, _, none⟩) NB119_121.out _).trans (((cell_far (p := ⟨gb121, _, none⟩) NB119_121.out _).trans (hHeld.2.2.2.1)))), ((cell_far (p := ⟨gb121, _, none⟩) NB119_121.out _).trans (((cell_far (p := ⟨gb121, _, none⟩) NB119_121.out _).trans (hHeld.2.2.2.2))))⟩ (fun hHeld => ?_)
        clear hK K
        refine done_ (by kernel_rfl) ?_
        try go_wp2
        refine bodyPost_ret (results_cc rfl _ _ gb120 gb121 33 26 #[.int .i64 t122, .string a1_1, .int .i64 a1_2, .int .i64 a1_3, .int .i64 a1_4] #[.int .i64 42, .int .i64 a1_3] (0, 0) (0, 0) _ _ rfl (by (with_reducible repeat first|apply bk1_|apply bk2_|apply bk3_); refine blk_far ?_ NB120_121.out _; (with_reducible repeat first|apply bk1_|apply bk2_|apply bk3_); refine blk_far ?_ NB120_121.out _; (with_reducible repeat first|apply bk1_|apply bk2_|apply bk3_); refine blk_put (cs := #[.int .i64 t122, .string a1_1, .int .i64 a1_2, .int .i64 a1_3, .int .i64 0]) ?_ 4 _ rfl; (with_reducible repeat first|apply bk1_|apply bk2_|apply bk3_); refine blk_put (cs := #[.int .i64 t122, .string a1_1, .int .i64 a1_2, .int .i64 0, .int .i64 0]) ?_ 3 _ rfl; (with_reducible repeat first|apply bk1_|apply bk2_|apply bk3_); refine blk_put (cs := #[.int .i64 t122, .string a1_1, .int .i64 0, .int .i64 0, .int .i64 0]) ?_ 2 _ rfl; (with_reducible repeat first|apply bk1_|apply bk2_|apply bk3_); refine blk_put (cs := #[.int .i64 t122, .string (⟨#[]⟩ : ByteArray), .int .i64 0, .int .i64 0, .int .i64 0]) ?_ 1 _ rfl; (with_reducible repeat first|apply bk1_|apply bk2_|apply bk3_); refine blk_put (cs := #[.int .i64 0, .string (⟨#[]⟩ : ByteArray), .int .i64 0, .int .i64 0, .int .i64 0]) ?_ 0 _ rfl; (with_reducible repeat first|apply bk1_|apply bk2_|apply bk3_); exact BK120.out) Tryd.underlying33 rfl (by kernel_rfl) rfl (by (with_reducible repeat first|apply bk1_|apply bk2_|apply bk3_); refine blk_put (cs := #[.int .i64 42, .int .i64 0]) ?_ 1 _ rfl; (with_reducible repeat first|apply bk1_|apply bk2_|apply bk3_); refine blk_put (cs := #[.int .i64 0, .int .i64 0]) ?_ 0 _ rfl; (with_reducible repeat first|apply bk1_|apply bk2_|apply bk3_); refine blk_far ?_ NB121_120.out _; (with_reducible repeat first|apply bk1_|apply bk2_|apply bk3_); refine blk_far ?_ NB121_120.out _; (with_reducible repeat first|apply bk1_|apply bk2_|apply bk3_); refine blk_far ?_ NB121_120.out _; (with_reducible repeat first|apply bk1_|apply bk2_|apply bk3_); refine blk_far ?_ NB121_120.out _; (with_reducible repeat first|apply bk1_|apply bk2_|apply bk3_); refine blk_far ?_ NB121_120.out _; (with_reducible repeat first|apply bk1_|apply bk2_|apply bk3_); exact BK121.out) Tryd.underlying26 rfl (by kernel_rfl)) rfl ?_
        exact ⟨er_, h1_⟩
       ·rw [if_neg c33] at H
        have c33b0 : (t122 == 0) = false := beq_eq_false_iff_ne.mpr c33
        have c33b1 : (t122 != 0) = true := bne_iff_ne.mpr c33
        simp only [Option.some.injEq, Prod.mk.injEq] at H
        obtain ⟨rfl, rfl, rfl, rfl, rfl, rfl, rfl⟩ := H
        have p31 : 0 ≤ (0 : Int) := (by omega)
        have q31 : 0 < a0.size := (by have : (0 : Int) < (a0.size : Int) := of_decide_eq_true (by first | (with_reducible assumption) | assumption); omega)
        have hx31 : ∀ h : 0 < a0.size, ((a0[0]'h).toNat : Int) = bt a0 0 := bt_at a0 0
        clear p31
        have qi31 : (0 < (a0.size : Int)) = True := eq_true (of_decide_eq_true (by first | (with_reducible assumption) | assumption))
        replace q31 := eq_true q31
        go_wp2_with (first | ((with_reducible refine gate_callee (f := 73) rfl ?_); refine goesL_ (some 15) rfl rfl Tryd.func73 (by kernel_rfl) rfl #[.int .u8 (bt a0 0)] rfl ar_ ?_; (with_reducible refine (tokens_sign.calls (bt a0 0) t122 _ A32.out).mono ?_); rintro e w47 ⟨rfl, hb⟩; refine ⟨_, rfl, ?_⟩; have n0_ := Aside0.mk (blk_below (g := gb119) (o := .cells #[.int .i64 a1_0, .string a1_1, .int .i64 a1_2, .int .i64 a1_3, .int .i64 a1_4] 33 (0, 0)) (bk_ BK119) hb); have n1_ := Aside0.mk (blk_below (g := gb120) (o := .cells #[.int .i64 0, .string (⟨#[]⟩ : ByteArray), .int .i64 0, .int .i64 0, .int .i64 0] 33 (0, 0)) (bk_ BK120) hb); have n2_ := Aside0.mk (blk_below (g := gb121) (o := .cells #[.int .i64 0, .int .i64 0] 26 (0, 0)) (bk_ BK121) hb); have n3_ := Aside0.mk (below_step h1_ hb); clear BK119; clear BK120; clear BK121; clear HB; have BK119 := n0_; have BK120 := n1_; have BK121 := n2_; have HB := n3_; clear n0_ n1_ n2_ n3_; (try clear hb); (try clear hb2); (try clear hk); (try clear hi); have hnb48 := NB119_120.out; have hnc48 := NB120_119.out; have hnb49 := NB119_121.out; have hnc49 := NB121_119.out; have hcz50_0 : w47.cell? ⟨gb119, 0, none⟩ = some (.int .i64 a1_0) := (blk_cell BK119.out 0).trans rfl; have hcz50_1 : w47.cell? ⟨gb119, 1, none⟩ = some (.string a1_1) := (blk_cell BK119.out 1).trans rfl; have hcz50_2 : w47.cell? ⟨gb119, 2, none⟩ = some (.int .i64 a1_2) := (blk_cell BK119.out 2).trans rfl; have hcz50_3 : w47.cell? ⟨gb119, 3, none⟩ = some (.int .i64 a1_3) := (blk_cell BK119.out 3).trans rfl; have hcz50_4 : w47.cell? ⟨gb119, 4, none⟩ = some (.int .i64 a1_4) := (blk_cell BK119.out 4).trans rfl; have hfz50_0 := blk_frozen BK119.out 0; have hfz50_1 := blk_frozen BK119.out 1; have hfz50_2 := blk_frozen BK119.out 2; have hfz50_3 := blk_frozen BK119.out 3; have hfz50_4 := blk_frozen BK119.out 4; have hnb51 := NB120_121.out; have hnc51 := NB121_120.out; have hcz52_0 : w47.cell? ⟨gb120, 0, none⟩ = some (.int .i64 0) := (blk_cell BK120.out 0).trans rfl; have hcz52_1 : w47.cell? ⟨gb120, 1, none⟩ = some (.string (⟨#[]⟩ : ByteArray)) := (blk_cell BK120.out 1).trans rfl; have hcz52_2 : w47.cell? ⟨gb120, 2, none⟩ = some (.int .i64 0) := (blk_cell BK120.out 2).trans rfl; have hcz52_3 : w47.cell? ⟨gb120, 3, none⟩ = some (.int .i64 0) := (blk_cell BK120.out 3).trans rfl; have hcz52_4 : w47.cell? ⟨gb120, 4, none⟩ = some (.int .i64 0) := (blk_cell BK120.out 4).trans rfl; have hfz52_0 := blk_frozen BK120.out 0; have hfz52_1 := blk_frozen BK120.out 1; have hfz52_2 := blk_frozen BK120.out 2; have hfz52_3 := blk_frozen BK120.out 3; have hfz52_4 := blk_frozen BK120.out 4; have hcz53_0 : w47.cell? ⟨gb121, 0, none⟩ = some (.int .i64 0) := (blk_cell BK121.out 0).trans rfl; have hcz53_1 : w47.cell? ⟨gb121, 1, none⟩ = some (.int .i64 0) := (blk_cell BK121.out 1).trans rfl; have hfz53_0 := blk_frozen BK121.out 0; have hfz53_1 := blk_frozen BK121.out 1))
        refine bodyPost_ret (results_cc rfl _ _ gb120 gb121 33 26 #[.int .i64 t122, .string a1_1, .int .i64 a1_2, .int .i64 a1_3, .int .i64 (wrap64 (a1_3 + 1))] #[.int .i64 0, .int .i64 0] (0, 0) (0, 0) _ _ rfl (by (with_reducible repeat first|apply bk1_|apply bk2_|apply bk3_); refine blk_far ?_ NB120_121.out _; (with_reducible repeat first|apply bk1_|apply bk2_|apply bk3_); refine blk_far ?_ NB120_121.out _; (with_reducible repeat first|apply bk1_|apply bk2_|apply bk3_); refine blk_put (cs := #[.int .i64 t122, .string a1_1, .int .i64 a1_2, .int .i64 a1_3, .int .i64 0]) ?_ 4 _ rfl; (with_reducible repeat first|apply bk1_|apply bk2_|apply bk3_); refine blk_put (cs := #[.int .i64 t122, .string a1_1, .int .i64 a1_2, .int .i64 0, .int .i64 0]) ?_ 3 _ rfl; (with_reducible repeat first|apply bk1_|apply bk2_|apply bk3_); refine blk_put (cs := #[.int .i64 t122, .string a1_1, .int .i64 0, .int .i64 0, .int .i64 0]) ?_ 2 _ rfl; (with_reducible repeat first|apply bk1_|apply bk2_|apply bk3_); refine blk_put (cs := #[.int .i64 t122, .string (⟨#[]⟩ : ByteArray), .int .i64 0, .int .i64 0, .int .i64 0]) ?_ 1 _ rfl; (with_reducible repeat first|apply bk1_|apply bk2_|apply bk3_); refine blk_put (cs := #[.int .i64 0, .string (⟨#[]⟩ : ByteArray), .int .i64 0, .int .i64 0, .int .i64 0]) ?_ 0 _ rfl; (with_reducible repeat first|apply bk1_|apply bk2_|apply bk3_); refine blk_far ?_ NB120_119.out _; (with_reducible repeat first|apply bk1_|apply bk2_|apply bk3_); refine blk_far ?_ NB120_119.out _; (with_reducible repeat first|apply bk1_|apply bk2_|apply bk3_); exact BK120.out) Tryd.underlying33 rfl (by kernel_rfl) rfl (by (with_reducible repeat first|apply bk1_|apply bk2_|apply bk3_); refine blk_put (cs := #[.int .i64 0, .int .i64 0]) ?_ 1 _ rfl; (with_reducible repeat first|apply bk1_|apply bk2_|apply bk3_); refine blk_put (cs := #[.int .i64 0, .int .i64 0]) ?_ 0 _ rfl; (with_reducible repeat first|apply bk1_|apply bk2_|apply bk3_); refine blk_far ?_ NB121_120.out _; (with_reducible repeat first|apply bk1_|apply bk2_|apply bk3_); refine blk_far ?_ NB121_120.out _; (with_reducible repeat first|apply bk1_|apply bk2_|apply bk3_); refine blk_far ?_ NB121_120.out _; (with_reducible repeat first|apply bk1_|apply bk2_|apply bk3_); refine blk_far ?_ NB121_120.out _; (with_reducible repeat first|apply bk1_|apply bk2_|apply bk3_); refine blk_far ?_ NB121_120.out _; (with_reducible repeat first|apply bk1_|apply bk2_|apply bk3_); refine blk_far ?_ NB121_119.out _; (with_reducible repeat first|apply bk1_|apply bk2_|apply bk3_); refine blk_far ?_ NB121_119.out _; (with_reducible repeat first|apply bk1_|apply bk2_|apply bk3_); exact BK121.out) Tryd.underlying26 rfl (by kernel_rfl)) rfl ?_
        exact ⟨er_, h1_⟩
      ·rw [if_neg c30] at H
       exact absurd H (by simp)

end Go.Proofs.YtmpaipbpnkfmfaaDoor.P
