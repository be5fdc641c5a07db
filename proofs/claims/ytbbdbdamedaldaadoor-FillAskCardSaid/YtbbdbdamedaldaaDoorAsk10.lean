/- The card of FillAsk: the row, its listed variable tied to the program's text. Whatever the input, the law returns true, and each argument reads afterwards as it did. (part 11) -/
import Derived.Test.YtbbdbdamedaldaaDoorAsk9
set_option linter.unusedVariables false
set_option linter.unusedSimpArgs false
section
namespace Go.Proofs.YtbbdbdamedaldaaDoor.PL
open Go.RowKit Go.Proofs.YtbbdbdamedaldaaDoorW.PrintWords Go.Proofs.YtbbdbdamedaldaaDoorW.PrintLast Go.Proofs.YtbbdbdamedaldaaDoorW.PrintMore
attribute [local go_sem] max2_int min2_int max_two min_two max_three min_three max_four min_four
set_option linter.unusedVariables false
set_option linter.unusedSimpArgs false
def luciferlaw05_FillAsk.j0 : Nat → Int → Int → List Int → Bool → Int → Int → Int → Int → List (S27) → Option (Bool)
  | 0, _, _, _, _, _, _, _, _, _ => none
  | k + 1, x1, x5, x9, x65, x987000, x987001, x987002, x987003, x987004 => if x65 = true then (some false) else ((luciferref00_Spin.f x1 (x987004.length : Int)).bind fun t1001 => ((luciferlaw05_worst.f x987000 x987001 x987002 x987003 x987004 x5).bind fun t1002 => ((luciferlaw05_worst.f x987000 x987001 x987002 x987003 x987004 t1001).bind fun t1003 => (if t1002 ≤ (x9.length : Int) then (if t1002 < t1003 then ((luciferlaw05_filled.f).bind fun t1004 => (some t1004)) else (if t1002 = t1003 then (if x5 ≤ t1001 then ((luciferlaw05_filled.f).bind fun t1005 => (some t1005)) else (some false)) else (some false))) else (some false)))))
def luciferlaw05_FillAsk.f (k : Nat) (a0_0 : Int) (a0_1 : Int) (a0_2 : Int) (a0_3 : Int) (l0_4 : List (S27)) (a1 : Int) : Option (Bool) := (luciferlaw05_sound.f k a0_0 a0_1 a0_2 a0_3 l0_4).bind fun t987 => (if t987 = true then ((fill_Ask.f a0_0 a0_1 a0_2 a0_3 l0_4).bind fun bt989 => (if (l0_4.length : Int) = 0 then (if bt989.2 = 4 then (if bt989.1 = 0 then ((luciferlaw05_filled.f).bind fun t991 => (some t991)) else (some false)) else (some false)) else ((fill_Best.f a0_0 a0_1 a0_2 a0_3 l0_4).bind fun bt992 => ((fill_ByHand.f a0_0 a0_1 a0_2 a0_3 l0_4 bt992.1).bind fun bt996 => (if bt989.2 = 0 then (if bt992.2 = 0 then (if bt996.2 = 0 then ((luciferref00_Fits.f bt989.1 0 (wrap64 ((l0_4.length : Int) - 1))).bind fun t1000 => (luciferlaw05_FillAsk.j0 k a1 bt989.1 bt996.1 (!t1000) a0_0 a0_1 a0_2 a0_3 l0_4)) else (luciferlaw05_FillAsk.j0 k a1 bt989.1 bt996.1 true a0_0 a0_1 a0_2 a0_3 l0_4)) else (luciferlaw05_FillAsk.j0 k a1 bt989.1 bt996.1 true a0_0 a0_1 a0_2 a0_3 l0_4)) else (luciferlaw05_FillAsk.j0 k a1 bt989.1 bt996.1 true a0_0 a0_1 a0_2 a0_3 l0_4)))))) else ((luciferlaw05_filled.f).bind fun t988 => (some t988)))
def luciferlaw05_FillAsk.T11 : Bool × List (List Nat × List Nat) := (true, [([], []), ([], []), ([0, 1], [0, 1]), ([], []), ([], []), ([3, 4, 2], [3, 4]), ([2, 5, 0, 1, 2], [2]), ([5, 6, 0, 1, 2, 3, 4, 5, 6], [5])])
def luciferlaw05_FillAsk.B11 : List Nat := [0, 0, 3, 0, 0, 31, 63, 127]
theorem luciferlaw05_FillAsk.tab11 : rtab .any (opsOf Tryd.f13 11) = luciferlaw05_FillAsk.T11 := by kernel_rfl
theorem luciferlaw05_FillAsk.bits11 : waitsOk luciferlaw05_FillAsk.T11.2 luciferlaw05_FillAsk.B11 = true := by kernel_rfl
set_option maxHeartbeats 8000000 in
set_option maxRecDepth 100000 in
theorem luciferlaw05_FillAsk.calls (k : Nat) (a0_0 : Int) (a0_1 : Int) (a0_2 : Int) (a0_3 : Int) (A0_4 : Option Addr) (c0_4 : Nat) (l0_4 : List (S27)) (a1 : Int) (r : Bool) (w : World) (hLd0 : Fl.Laid w) (hr0_4 : Kd.C k27 w A0_4 l0_4.length l0_4) (hc0_4 : l0_4.length ≤ c0_4) (h : luciferlaw05_FillAsk.f k a0_0 a0_1 a0_2 a0_3 l0_4 a1 = some r) :
    Calls Tryd.prog 13 #[.agg #[.int .i64 a0_0, .int .i64 a0_1, .int .i64 a0_2, .int .i64 a0_3, .slice A0_4 l0_4.length c0_4], .int .i64 a1] w fun e w' => e = .returned (.bool r) ∧ Below w.heap.size w w' := by
  have hu24 := Tryd.underlying24
  have HLd0 := Aside0.mk hLd0
  clear hLd0
  have HR0_4 := Aside0.mk hr0_4
  have HC0_4 := Aside0.mk hc0_4
  clear hr0_4 hc0_4
  have HB := Aside0.mk (Below.refl w.heap.size w)
  have H : ((luciferlaw05_sound.f k a0_0 a0_1 a0_2 a0_3 l0_4).bind fun t987 => (if t987 = true then ((fill_Ask.f a0_0 a0_1 a0_2 a0_3 l0_4).bind fun bt989 => (if (l0_4.length : Int) = 0 then (if bt989.2 = 4 then (if bt989.1 = 0 then ((luciferlaw05_filled.f).bind fun t991 => (some t991)) else (some false)) else (some false)) else ((fill_Best.f a0_0 a0_1 a0_2 a0_3 l0_4).bind fun bt992 => ((fill_ByHand.f a0_0 a0_1 a0_2 a0_3 l0_4 bt992.1).bind fun bt996 => (if bt989.2 = 0 then (if bt992.2 = 0 then (if bt996.2 = 0 then ((luciferref00_Fits.f bt989.1 0 (wrap64 ((l0_4.length : Int) - 1))).bind fun t1000 => (luciferlaw05_FillAsk.j0 k a1 bt989.1 bt996.1 (!t1000) a0_0 a0_1 a0_2 a0_3 l0_4)) else (luciferlaw05_FillAsk.j0 k a1 bt989.1 bt996.1 true a0_0 a0_1 a0_2 a0_3 l0_4)) else (luciferlaw05_FillAsk.j0 k a1 bt989.1 bt996.1 true a0_0 a0_1 a0_2 a0_3 l0_4)) else (luciferlaw05_FillAsk.j0 k a1 bt989.1 bt996.1 true a0_0 a0_1 a0_2 a0_3 l0_4)))))) else ((luciferlaw05_filled.f).bind fun t988 => (some t988)))) = some r := h
  clear h
  replace H := Option.bind_eq_some_iff.mp H
  obtain ⟨t987, A30, H⟩ := H
  replace H : (if t987 = true then ((fill_Ask.f a0_0 a0_1 a0_2 a0_3 l0_4).bind fun bt989 => (if (l0_4.length : Int) = 0 then (if bt989.2 = 4 then (if bt989.1 = 0 then ((luciferlaw05_filled.f).bind fun t991 => (some t991)) else (some false)) else (some false)) else ((fill_Best.f a0_0 a0_1 a0_2 a0_3 l0_4).bind fun bt992 => ((fill_ByHand.f a0_0 a0_1 a0_2 a0_3 l0_4 bt992.1).bind fun bt996 => (if bt989.2 = 0 then (if bt992.2 = 0 then (if bt996.2 = 0 then ((luciferref00_Fits.f bt989.1 0 (wrap64 ((l0_4.length : Int) - 1))).bind fun t1000 => (luciferlaw05_FillAsk.j0 k a1 bt989.1 bt996.1 (!t1000) a0_0 a0_1 a0_2 a0_3 l0_4)) else (luciferlaw05_FillAsk.j0 k a1 bt989.1 bt996.1 true a0_0 a0_1 a0_2 a0_3 l0_4)) else (luciferlaw05_FillAsk.j0 k a1 bt989.1 bt996.1 true a0_0 a0_1 a0_2 a0_3 l0_4)) else (luciferlaw05_FillAsk.j0 k a1 bt989.1 bt996.1 true a0_0 a0_1 a0_2 a0_3 l0_4)))))) else ((luciferlaw05_filled.f).bind fun t988 => (some t988))) = some r := H
  have A3 := Aside0.mk A30
  clear A30
  by_cases c4 : t987 = true
  · subst c4
    have H1 : ((fill_Ask.f a0_0 a0_1 a0_2 a0_3 l0_4).bind fun bt989 => (if (l0_4.length : Int) = 0 then (if bt989.2 = 4 then (if bt989.1 = 0 then ((luciferlaw05_filled.f).bind fun t991 => (some t991)) else (some false)) else (some false)) else ((fill_Best.f a0_0 a0_1 a0_2 a0_3 l0_4).bind fun bt992 => ((fill_ByHand.f a0_0 a0_1 a0_2 a0_3 l0_4 bt992.1).bind fun bt996 => (if bt989.2 = 0 then (if bt992.2 = 0 then (if bt996.2 = 0 then ((luciferref00_Fits.f bt989.1 0 (wrap64 ((l0_4.length : Int) - 1))).bind fun t1000 => (luciferlaw05_FillAsk.j0 k a1 bt989.1 bt996.1 (!t1000) a0_0 a0_1 a0_2 a0_3 l0_4)) else (luciferlaw05_FillAsk.j0 k a1 bt989.1 bt996.1 true a0_0 a0_1 a0_2 a0_3 l0_4)) else (luciferlaw05_FillAsk.j0 k a1 bt989.1 bt996.1 true a0_0 a0_1 a0_2 a0_3 l0_4)) else (luciferlaw05_FillAsk.j0 k a1 bt989.1 bt996.1 true a0_0 a0_1 a0_2 a0_3 l0_4)))))) = some r := by rw [if_pos rfl] at H; exact H
    clear H
    have H := H1
    clear H1
    replace H := Option.bind_eq_some_iff.mp H
    obtain ⟨⟨t989, t990⟩, A50, H⟩ := H
    replace H : (if (l0_4.length : Int) = 0 then (if t990 = 4 then (if t989 = 0 then ((luciferlaw05_filled.f).bind fun t991 => (some t991)) else (some false)) else (some false)) else ((fill_Best.f a0_0 a0_1 a0_2 a0_3 l0_4).bind fun bt992 => ((fill_ByHand.f a0_0 a0_1 a0_2 a0_3 l0_4 bt992.1).bind fun bt996 => (if t990 = 0 then (if bt992.2 = 0 then (if bt996.2 = 0 then ((luciferref00_Fits.f t989 0 (wrap64 ((l0_4.length : Int) - 1))).bind fun t1000 => (luciferlaw05_FillAsk.j0 k a1 t989 bt996.1 (!t1000) a0_0 a0_1 a0_2 a0_3 l0_4)) else (luciferlaw05_FillAsk.j0 k a1 t989 bt996.1 true a0_0 a0_1 a0_2 a0_3 l0_4)) else (luciferlaw05_FillAsk.j0 k a1 t989 bt996.1 true a0_0 a0_1 a0_2 a0_3 l0_4)) else (luciferlaw05_FillAsk.j0 k a1 t989 bt996.1 true a0_0 a0_1 a0_2 a0_3 l0_4))))) = some r := H
    have A5 := Aside0.mk A50
    clear A50
    by_cases c6 : (l0_4.length : Int) = 0
    · rw [if_pos c6] at H
      have c6b0 : ((l0_4.length : Int) == 0) = true := beq_iff_eq.mpr c6
      have c6b1 : ((l0_4.length : Int) != 0) = false := bne_eq_false_iff_eq.mpr c6
      clear c6
      by_cases c7 : t990 = 4
      · rw [if_pos c7] at H
        have c7b0 : (t990 == 4) = true := beq_iff_eq.mpr c7
        have c7b1 : (t990 != 4) = false := bne_eq_false_iff_eq.mpr c7
        clear c7
        by_cases c8 : t989 = 0
        · rw [if_pos c8] at H
          have c8b0 : (t989 == 0) = true := beq_iff_eq.mpr c8
          have c8b1 : (t989 != 0) = false := bne_eq_false_iff_eq.mpr c8
          clear c8
          replace H := Option.bind_eq_some_iff.mp H
          obtain ⟨t991, A90, H⟩ := H
          replace H : (some t991) = some r := H
          have A9 := Aside0.mk A90
          clear A90
          obtain rfl := Option.some.inj H
          go_enter Tryd.func13, Tryd.ntmps13
          go_wp2_with (first | ((with_reducible refine gate_dst (N := 2) rfl ?_); (try (refine gate_guard (by rfl) ?_; dsimp only)); refine box_event ?hg (N := 2) ?hd (cs := #[.int .i64 a0_0, .int .i64 a0_1, .int .i64 a0_2, .int .i64 a0_3, .slice A0_4 l0_4.length c0_4]) (t := 24) ?hr ?_; (case hd => rfl); (case hg => rfl); (case hr => first | (go_simp; done) | (go_simp; rfl)); intro gb986 hg w10 hbox hb; have n0_ := Aside0.mk (below_step (by repeat (first | (with_reducible first | exact HB.out | apply below_alloc | apply pw_below_drewN | apply below_drew1) | exact HB.out)) hb); have n1_ := Aside0.mk (hbox); have n2_ := Aside0.mk ((by rw [hg]; exact (below_size (by repeat (first | (with_reducible first | exact HB.out | apply below_alloc | apply pw_below_drewN | apply below_drew1) | exact HB.out))) : w.heap.size ≤ gb986)); have n3_ := Aside0.mk ((by rw [hg]; exact (below_size (by repeat (first | (with_reducible first | exact HB.out | apply below_alloc | apply pw_below_drewN | apply below_drew1) | exact HB.out))) : w.heap.size ≤ gb986)); clear HB; have HB := n0_; have BK986 := n1_; have GW986 := n2_; have GE986 := n3_; clear n0_ n1_ n2_ n3_; clear hb hbox hg; have hcz11_0 : w10.cell? ⟨gb986, 0, none⟩ = some (.int .i64 a0_0) := (blk_cell BK986.out 0).trans rfl; have hcz11_1 : w10.cell? ⟨gb986, 1, none⟩ = some (.int .i64 a0_1) := (blk_cell BK986.out 1).trans rfl; have hcz11_2 : w10.cell? ⟨gb986, 2, none⟩ = some (.int .i64 a0_2) := (blk_cell BK986.out 2).trans rfl; have hcz11_3 : w10.cell? ⟨gb986, 3, none⟩ = some (.int .i64 a0_3) := (blk_cell BK986.out 3).trans rfl; have hcz11_4 : w10.cell? ⟨gb986, 4, none⟩ = some (.slice A0_4 l0_4.length c0_4) := (blk_cell BK986.out 4).trans rfl; have hfz11_0 := blk_frozen BK986.out 0; have hfz11_1 := blk_frozen BK986.out 1; have hfz11_2 := blk_frozen BK986.out 2; have hfz11_3 := blk_frozen BK986.out 3; have hfz11_4 := blk_frozen BK986.out 4) | ((with_reducible refine gate_callee (f := 37) rfl ?_); refine goesL_ (some 15) rfl rfl Tryd.func37 (by kernel_rfl) rfl #[.agg #[.int .i64 a0_0, .int .i64 a0_1, .int .i64 a0_2, .int .i64 a0_3, .slice A0_4 l0_4.length c0_4]] rfl (by (try simp only [List.map_toArray, List.map_cons, List.map_nil]); first | done | rfl | (simp only [List.length_drop, List.length_take]; rfl)) ?_; (with_reducible refine (luciferlaw05_sound.calls k a0_0 a0_1 a0_2 a0_3 _ _ l0_4 true _ ?side1 ?side2 A3.out).mono ?_); (case side1 => repeat (first | exact (Kd.C_below HR0_4.out HB.out) | (with_reducible refine Kd.C_alloc ?_ _) | (with_reducible refine Kd.C_drewN ?_ _) | (with_reducible refine Kd.C_drew ?_))); (case side2 => exact HC0_4.out); rintro e w12 ⟨rfl, hb⟩; refine ⟨_, rfl, ?_⟩; have n0_ := Aside0.mk (blk_below (g := gb986) (o := .cells #[.int .i64 a0_0, .int .i64 a0_1, .int .i64 a0_2, .int .i64 a0_3, .slice A0_4 l0_4.length c0_4] 24 (0, 0)) (by (with_reducible repeat (first | refine blk_drewN ?_ _ | refine blk_drew ?_ | refine blk_alloc ?_ _)); exact BK986.out) hb); have n1_ := Aside0.mk (below_step (by repeat (first | (with_reducible first | exact HB.out | apply below_alloc | apply pw_below_drewN | apply below_drew1 | refine below_set ?_ GE986.out) | exact HB.out)) hb); clear BK986; clear HB; have BK986 := n0_; have HB := n1_; clear n0_ n1_; (try clear hb); (try clear hb2); (try clear hk); (try clear hi); have hcz13_0 : w12.cell? ⟨gb986, 0, none⟩ = some (.int .i64 a0_0) := (blk_cell BK986.out 0).trans rfl; have hcz13_1 : w12.cell? ⟨gb986, 1, none⟩ = some (.int .i64 a0_1) := (blk_cell BK986.out 1).trans rfl; have hcz13_2 : w12.cell? ⟨gb986, 2, none⟩ = some (.int .i64 a0_2) := (blk_cell BK986.out 2).trans rfl; have hcz13_3 : w12.cell? ⟨gb986, 3, none⟩ = some (.int .i64 a0_3) := (blk_cell BK986.out 3).trans rfl; have hcz13_4 : w12.cell? ⟨gb986, 4, none⟩ = some (.slice A0_4 l0_4.length c0_4) := (blk_cell BK986.out 4).trans rfl; have hfz13_0 := blk_frozen BK986.out 0; have hfz13_1 := blk_frozen BK986.out 1; have hfz13_2 := blk_frozen BK986.out 2; have hfz13_3 := blk_frozen BK986.out 3; have hfz13_4 := blk_frozen BK986.out 4) | ((with_reducible refine gate_callee (f := 35) rfl ?_); refine goesL_ (some 20) rfl rfl Tryd.func35 (by kernel_rfl) rfl #[.agg #[.int .i64 a0_0, .int .i64 a0_1, .int .i64 a0_2, .int .i64 a0_3, .slice A0_4 l0_4.length c0_4]] rfl (by (try simp only [List.map_toArray, List.map_cons, List.map_nil]); first | done | rfl | (simp only [List.length_drop, List.length_take]; rfl)) ?_; (with_reducible refine (fill_Ask.calls a0_0 a0_1 a0_2 a0_3 _ _ l0_4 t989 t990 _ ?side1 ?side2 ?side3 A5.out).mono ?_); (case side1 => exact Fl.Laid.below HLd0.out (by repeat (first | (with_reducible first | exact HB.out | apply below_alloc | apply pw_below_drewN | apply below_drew1 | refine below_set ?_ GE986.out) | exact HB.out))); (case side2 => repeat (first | exact (Kd.C_below HR0_4.out HB.out) | (with_reducible refine Kd.C_alloc ?_ _) | (with_reducible refine Kd.C_drewN ?_ _) | (with_reducible refine Kd.C_drew ?_))); (case side3 => exact HC0_4.out); rintro e w14 ⟨rfl, hb⟩; refine ⟨_, rfl, ?_⟩; have n0_ := Aside0.mk (blk_below (g := gb986) (o := .cells #[.int .i64 a0_0, .int .i64 a0_1, .int .i64 a0_2, .int .i64 a0_3, .slice A0_4 l0_4.length c0_4] 24 (0, 0)) (by (with_reducible repeat (first | refine blk_drewN ?_ _ | refine blk_drew ?_ | refine blk_alloc ?_ _)); exact BK986.out) hb); have n1_ := Aside0.mk (below_step (by repeat (first | (with_reducible first | exact HB.out | apply below_alloc | apply pw_below_drewN | apply below_drew1 | refine below_set ?_ GE986.out) | exact HB.out)) hb); clear BK986; clear HB; have BK986 := n0_; have HB := n1_; clear n0_ n1_; (try clear hb); (try clear hb2); (try clear hk); (try clear hi); have hcz15_0 : w14.cell? ⟨gb986, 0, none⟩ = some (.int .i64 a0_0) := (blk_cell BK986.out 0).trans rfl; have hcz15_1 : w14.cell? ⟨gb986, 1, none⟩ = some (.int .i64 a0_1) := (blk_cell BK986.out 1).trans rfl; have hcz15_2 : w14.cell? ⟨gb986, 2, none⟩ = some (.int .i64 a0_2) := (blk_cell BK986.out 2).trans rfl; have hcz15_3 : w14.cell? ⟨gb986, 3, none⟩ = some (.int .i64 a0_3) := (blk_cell BK986.out 3).trans rfl; have hcz15_4 : w14.cell? ⟨gb986, 4, none⟩ = some (.slice A0_4 l0_4.length c0_4) := (blk_cell BK986.out 4).trans rfl; have hfz15_0 := blk_frozen BK986.out 0; have hfz15_1 := blk_frozen BK986.out 1; have hfz15_2 := blk_frozen BK986.out 2; have hfz15_3 := blk_frozen BK986.out 3; have hfz15_4 := blk_frozen BK986.out 4) | (go_at_call 23; (with_reducible refine (luciferlaw05_filled.calls  t991 _ ?side1 A9.out).mono ?_); (case side1 => exact Fl.Laid.below HLd0.out (by repeat (first | (with_reducible first | exact HB.out | apply below_alloc | apply pw_below_drewN | apply below_drew1 | refine below_set ?_ GE986.out) | exact HB.out))); rintro e w16 ⟨rfl, hb⟩; have n0_ := Aside0.mk (blk_below (g := gb986) (o := .cells #[.int .i64 a0_0, .int .i64 a0_1, .int .i64 a0_2, .int .i64 a0_3, .slice A0_4 l0_4.length c0_4] 24 (0, 0)) (by (with_reducible repeat (first | refine blk_drewN ?_ _ | refine blk_drew ?_ | refine blk_alloc ?_ _)); exact BK986.out) hb); have n1_ := Aside0.mk (below_step (by repeat (first | (with_reducible first | exact HB.out | apply below_alloc | apply pw_below_drewN | apply below_drew1 | refine below_set ?_ GE986.out) | exact HB.out)) hb); clear BK986; clear HB; have BK986 := n0_; have HB := n1_; clear n0_ n1_; (try clear hb); (try clear hb2); (try clear hk); (try clear hi)))
          go_ret
          exact ⟨by first | rfl | (simp [errW_none, errW_some] <;> rfl) | (simp [*, errW_none, errW_some] <;> rfl), by repeat (first | (with_reducible first | exact HB.out | apply below_alloc | apply pw_below_drewN | apply below_drew1 | refine below_set ?_ GE986.out) | exact HB.out)⟩
        · rw [if_neg c8] at H
          have c8b0 : (t989 == 0) = false := beq_eq_false_iff_ne.mpr c8
          have c8b1 : (t989 != 0) = true := bne_iff_ne.mpr c8
          obtain rfl := Option.some.inj H
          go_enter Tryd.func13, Tryd.ntmps13
          go_wp2_with (first | ((with_reducible refine gate_dst (N := 2) rfl ?_); (try (refine gate_guard (by rfl) ?_; dsimp only)); refine box_event ?hg (N := 2) ?hd (cs := #[.int .i64 a0_0, .int .i64 a0_1, .int .i64 a0_2, .int .i64 a0_3, .slice A0_4 l0_4.length c0_4]) (t := 24) ?hr ?_; (case hd => rfl); (case hg => rfl); (case hr => first | (go_simp; done) | (go_simp; rfl)); intro gb986 hg w17 hbox hb; have n0_ := Aside0.mk (below_step (by repeat (first | (with_reducible first | exact HB.out | apply below_alloc | apply pw_below_drewN | apply below_drew1) | exact HB.out)) hb); have n1_ := Aside0.mk (hbox); have n2_ := Aside0.mk ((by rw [hg]; exact (below_size (by repeat (first | (with_reducible first | exact HB.out | apply below_alloc | apply pw_below_drewN | apply below_drew1) | exact HB.out))) : w.heap.size ≤ gb986)); have n3_ := Aside0.mk ((by rw [hg]; exact (below_size (by repeat (first | (with_reducible first | exact HB.out | apply below_alloc | apply pw_below_drewN | apply below_drew1) | exact HB.out))) : w.heap.size ≤ gb986)); clear HB; have HB := n0_; have BK986 := n1_; have GW986 := n2_; have GE986 := n3_; clear n0_ n1_ n2_ n3_; clear hb hbox hg; have hcz18_0 : w17.cell? ⟨gb986, 0, none⟩ = some (.int .i64 a0_0) := (blk_cell BK986.out 0).trans rfl; have hcz18_1 : w17.cell? ⟨gb986, 1, none⟩ = some (.int .i64 a0_1) := (blk_cell BK986.out 1).trans rfl; have hcz18_2 : w17.cell? ⟨gb986, 2, none⟩ = some (.int .i64 a0_2) := (blk_cell BK986.out 2).trans rfl; have hcz18_3 : w17.cell? ⟨gb986, 3, none⟩ = some (.int .i64 a0_3) := (blk_cell BK986.out 3).trans rfl; have hcz18_4 : w17.cell? ⟨gb986, 4, none⟩ = some (.slice A0_4 l0_4.length c0_4) := (blk_cell BK986.out 4).trans rfl; have hfz18_0 := blk_frozen BK986.out 0; have hfz18_1 := blk_frozen BK986.out 1; have hfz18_2 := blk_frozen BK986.out 2; have hfz18_3 := blk_frozen BK986.out 3; have hfz18_4 := blk_frozen BK986.out 4) | ((with_reducible refine gate_callee (f := 37) rfl ?_); refine goesL_ (some 15) rfl rfl Tryd.func37 (by kernel_rfl) rfl #[.agg #[.int .i64 a0_0, .int .i64 a0_1, .int .i64 a0_2, .int .i64 a0_3, .slice A0_4 l0_4.length c0_4]] rfl (by (try simp only [List.map_toArray, List.map_cons, List.map_nil]); first | done | rfl | (simp only [List.length_drop, List.length_take]; rfl)) ?_; (with_reducible refine (luciferlaw05_sound.calls k a0_0 a0_1 a0_2 a0_3 _ _ l0_4 true _ ?side1 ?side2 A3.out).mono ?_); (case side1 => repeat (first | exact (Kd.C_below HR0_4.out HB.out) | (with_reducible refine Kd.C_alloc ?_ _) | (with_reducible refine Kd.C_drewN ?_ _) | (with_reducible refine Kd.C_drew ?_))); (case side2 => exact HC0_4.out); rintro e w19 ⟨rfl, hb⟩; refine ⟨_, rfl, ?_⟩; have n0_ := Aside0.mk (blk_below (g := gb986) (o := .cells #[.int .i64 a0_0, .int .i64 a0_1, .int .i64 a0_2, .int .i64 a0_3, .slice A0_4 l0_4.length c0_4] 24 (0, 0)) (by (with_reducible repeat (first | refine blk_drewN ?_ _ | refine blk_drew ?_ | refine blk_alloc ?_ _)); exact BK986.out) hb); have n1_ := Aside0.mk (below_step (by repeat (first | (with_reducible first | exact HB.out | apply below_alloc | apply pw_below_drewN | apply below_drew1 | refine below_set ?_ GE986.out) | exact HB.out)) hb); clear BK986; clear HB; have BK986 := n0_; have HB := n1_; clear n0_ n1_; (try clear hb); (try clear hb2); (try clear hk); (try clear hi); have hcz20_0 : w19.cell? ⟨gb986, 0, none⟩ = some (.int .i64 a0_0) := (blk_cell BK986.out 0).trans rfl; have hcz20_1 : w19.cell? ⟨gb986, 1, none⟩ = some (.int .i64 a0_1) := (blk_cell BK986.out 1).trans rfl; have hcz20_2 : w19.cell? ⟨gb986, 2, none⟩ = some (.int .i64 a0_2) := (blk_cell BK986.out 2).trans rfl; have hcz20_3 : w19.cell? ⟨gb986, 3, none⟩ = some (.int .i64 a0_3) := (blk_cell BK986.out 3).trans rfl; have hcz20_4 : w19.cell? ⟨gb986, 4, none⟩ = some (.slice A0_4 l0_4.length c0_4) := (blk_cell BK986.out 4).trans rfl; have hfz20_0 := blk_frozen BK986.out 0; have hfz20_1 := blk_frozen BK986.out 1; have hfz20_2 := blk_frozen BK986.out 2; have hfz20_3 := blk_frozen BK986.out 3; have hfz20_4 := blk_frozen BK986.out 4) | ((with_reducible refine gate_callee (f := 35) rfl ?_); refine goesL_ (some 20) rfl rfl Tryd.func35 (by kernel_rfl) rfl #[.agg #[.int .i64 a0_0, .int .i64 a0_1, .int .i64 a0_2, .int .i64 a0_3, .slice A0_4 l0_4.length c0_4]] rfl (by (try simp only [List.map_toArray, List.map_cons, List.map_nil]); first | done | rfl | (simp only [List.length_drop, List.length_take]; rfl)) ?_; (with_reducible refine (fill_Ask.calls a0_0 a0_1 a0_2 a0_3 _ _ l0_4 t989 t990 _ ?side1 ?side2 ?side3 A5.out).mono ?_); (case side1 => exact Fl.Laid.below HLd0.out (by repeat (first | (with_reducible first | exact HB.out | apply below_alloc | apply pw_below_drewN | apply below_drew1 | refine below_set ?_ GE986.out) | exact HB.out))); (case side2 => repeat (first | exact (Kd.C_below HR0_4.out HB.out) | (with_reducible refine Kd.C_alloc ?_ _) | (with_reducible refine Kd.C_drewN ?_ _) | (with_reducible refine Kd.C_drew ?_))); (case side3 => exact HC0_4.out); rintro e w21 ⟨rfl, hb⟩; refine ⟨_, rfl, ?_⟩; have n0_ := Aside0.mk (blk_below (g := gb986) (o := .cells #[.int .i64 a0_0, .int .i64 a0_1, .int .i64 a0_2, .int .i64 a0_3, .slice A0_4 l0_4.length c0_4] 24 (0, 0)) (by (with_reducible repeat (first | refine blk_drewN ?_ _ | refine blk_drew ?_ | refine blk_alloc ?_ _)); exact BK986.out) hb); have n1_ := Aside0.mk (below_step (by repeat (first | (with_reducible first | exact HB.out | apply below_alloc | apply pw_below_drewN | apply below_drew1 | refine below_set ?_ GE986.out) | exact HB.out)) hb); clear BK986; clear HB; have BK986 := n0_; have HB := n1_; clear n0_ n1_; (try clear hb); (try clear hb2); (try clear hk); (try clear hi); have hcz22_0 : w21.cell? ⟨gb986, 0, none⟩ = some (.int .i64 a0_0) := (blk_cell BK986.out 0).trans rfl; have hcz22_1 : w21.cell? ⟨gb986, 1, none⟩ = some (.int .i64 a0_1) := (blk_cell BK986.out 1).trans rfl; have hcz22_2 : w21.cell? ⟨gb986, 2, none⟩ = some (.int .i64 a0_2) := (blk_cell BK986.out 2).trans rfl; have hcz22_3 : w21.cell? ⟨gb986, 3, none⟩ = some (.int .i64 a0_3) := (blk_cell BK986.out 3).trans rfl; have hcz22_4 : w21.cell? ⟨gb986, 4, none⟩ = some (.slice A0_4 l0_4.length c0_4) := (blk_cell BK986.out 4).trans rfl; have hfz22_0 := blk_frozen BK986.out 0; have hfz22_1 := blk_frozen BK986.out 1; have hfz22_2 := blk_frozen BK986.out 2; have hfz22_3 := blk_frozen BK986.out 3; have hfz22_4 := blk_frozen BK986.out 4))
          go_ret
          exact ⟨by first | rfl | (simp [errW_none, errW_some] <;> rfl) | (simp [*, errW_none, errW_some] <;> rfl), by repeat (first | (with_reducible first | exact HB.out | apply below_alloc | apply pw_below_drewN | apply below_drew1 | refine below_set ?_ GE986.out) | exact HB.out)⟩
      · rw [if_neg c7] at H
        have c7b0 : (t990 == 4) = false := beq_eq_false_iff_ne.mpr c7
        have c7b1 : (t990 != 4) = true := bne_iff_ne.mpr c7
        obtain rfl := Option.some.inj H
        go_enter Tryd.func13, Tryd.ntmps13
        go_wp2_with (first | ((with_reducible refine gate_dst (N := 2) rfl ?_); (try (refine gate_guard (by rfl) ?_; dsimp only)); refine box_event ?hg (N := 2) ?hd (cs := #[.int .i64 a0_0, .int .i64 a0_1, .int .i64 a0_2, .int .i64 a0_3, .slice A0_4 l0_4.length c0_4]) (t := 24) ?hr ?_; (case hd => rfl); (case hg => rfl); (case hr => first | (go_simp; done) | (go_simp; rfl)); intro gb986 hg w23 hbox hb; have n0_ := Aside0.mk (below_step (by repeat (first | (with_reducible first | exact HB.out | apply below_alloc | apply pw_below_drewN | apply below_drew1) | exact HB.out)) hb); have n1_ := Aside0.mk (hbox); have n2_ := Aside0.mk ((by rw [hg]; exact (below_size (by repeat (first | (with_reducible first | exact HB.out | apply below_alloc | apply pw_below_drewN | apply below_drew1) | exact HB.out))) : w.heap.size ≤ gb986)); have n3_ := Aside0.mk ((by rw [hg]; exact (below_size (by repeat (first | (with_reducible first | exact HB.out | apply below_alloc | apply pw_below_drewN | apply below_drew1) | exact HB.out))) : w.heap.size ≤ gb986)); clear HB; have HB := n0_; have BK986 := n1_; have GW986 := n2_; have GE986 := n3_; clear n0_ n1_ n2_ n3_; clear hb hbox hg; have hcz24_0 : w23.cell? ⟨gb986, 0, none⟩ = some (.int .i64 a0_0) := (blk_cell BK986.out 0).trans rfl; have hcz24_1 : w23.cell? ⟨gb986, 1, none⟩ = some (.int .i64 a0_1) := (blk_cell BK986.out 1).trans rfl; have hcz24_2 : w23.cell? ⟨gb986, 2, none⟩ = some (.int .i64 a0_2) := (blk_cell BK986.out 2).trans rfl; have hcz24_3 : w23.cell? ⟨gb986, 3, none⟩ = some (.int .i64 a0_3) := (blk_cell BK986.out 3).trans rfl; have hcz24_4 : w23.cell? ⟨gb986, 4, none⟩ = some (.slice A0_4 l0_4.length c0_4) := (blk_cell BK986.out 4).trans rfl; have hfz24_0 := blk_frozen BK986.out 0; have hfz24_1 := blk_frozen BK986.out 1; have hfz24_2 := blk_frozen BK986.out 2; have hfz24_3 := blk_frozen BK986.out 3; have hfz24_4 := blk_frozen BK986.out 4) | ((with_reducible refine gate_callee (f := 37) rfl ?_); refine goesL_ (some 15) rfl rfl Tryd.func37 (by kernel_rfl) rfl #[.agg #[.int .i64 a0_0, .int .i64 a0_1, .int .i64 a0_2, .int .i64 a0_3, .slice A0_4 l0_4.length c0_4]] rfl (by (try simp only [List.map_toArray, List.map_cons, List.map_nil]); first | done | rfl | (simp only [List.length_drop, List.length_take]; rfl)) ?_; (with_reducible refine (luciferlaw05_sound.calls k a0_0 a0_1 a0_2 a0_3 _ _ l0_4 true _ ?side1 ?side2 A3.out).mono ?_); (case side1 => repeat (first | exact (Kd.C_below HR0_4.out HB.out) | (with_reducible refine Kd.C_alloc ?_ _) | (with_reducible refine Kd.C_drewN ?_ _) | (with_reducible refine Kd.C_drew ?_))); (case side2 => exact HC0_4.out); rintro e w25 ⟨rfl, hb⟩; refine ⟨_, rfl, ?_⟩; have n0_ := Aside0.mk (blk_below (g := gb986) (o := .cells #[.int .i64 a0_0, .int .i64 a0_1, .int .i64 a0_2, .int .i64 a0_3, .slice A0_4 l0_4.length c0_4] 24 (0, 0)) (by (with_reducible repeat (first | refine blk_drewN ?_ _ | refine blk_drew ?_ | refine blk_alloc ?_ _)); exact BK986.out) hb); have n1_ := Aside0.mk (below_step (by repeat (first | (with_reducible first | exact HB.out | apply below_alloc | apply pw_below_drewN | apply below_drew1 | refine below_set ?_ GE986.out) | exact HB.out)) hb); clear BK986; clear HB; have BK986 := n0_; have HB := n1_; clear n0_ n1_; (try clear hb); (try clear hb2); (try clear hk); (try clear hi); have hcz26_0 : w25.cell? ⟨gb986, 0, none⟩ = some (.int .i64 a0_0) := (blk_cell BK986.out 0).trans rfl; have hcz26_1 : w25.cell? ⟨gb986, 1, none⟩ = some (.int .i64 a0_1) := (blk_cell BK986.out 1).trans rfl; have hcz26_2 : w25.cell? ⟨gb986, 2, none⟩ = some (.int .i64 a0_2) := (blk_cell BK986.out 2).trans rfl; have hcz26_3 : w25.cell? ⟨gb986, 3, none⟩ = some (.int .i64 a0_3) := (blk_cell BK986.out 3).trans rfl; have hcz26_4 : w25.cell? ⟨gb986, 4, none⟩ = some (.slice A0_4 l0_4.length c0_4) := (blk_cell BK986.out 4).trans rfl; have hfz26_0 := blk_frozen BK986.out 0; have hfz26_1 := blk_frozen BK986.out 1; have hfz26_2 := blk_frozen BK986.out 2; have hfz26_3 := blk_frozen BK986.out 3; have hfz26_4 := blk_frozen BK986.out 4) | ((with_reducible refine gate_callee (f := 35) rfl ?_); refine goesL_ (some 20) rfl rfl Tryd.func35 (by kernel_rfl) rfl #[.agg #[.int .i64 a0_0, .int .i64 a0_1, .int .i64 a0_2, .int .i64 a0_3, .slice A0_4 l0_4.length c0_4]] rfl (by (try simp only [List.map_toArray, List.map_cons, List.map_nil]); first | done | rfl | (simp only [List.length_drop, List.length_take]; rfl)) ?_; (with_reducible refine (fill_Ask.calls a0_0 a0_1 a0_2 a0_3 _ _ l0_4 t989 t990 _ ?side1 ?side2 ?side3 A5.out).mono ?_); (case side1 => exact Fl.Laid.below HLd0.out (by repeat (first | (with_reducible first | exact HB.out | apply below_alloc | apply pw_below_drewN | apply below_drew1 | refine below_set ?_ GE986.out) | exact HB.out))); (case side2 => repeat (first | exact (Kd.C_below HR0_4.out HB.out) | (with_reducible refine Kd.C_alloc ?_ _) | (with_reducible refine Kd.C_drewN ?_ _) | (with_reducible refine Kd.C_drew ?_))); (case side3 => exact HC0_4.out); rintro e w27 ⟨rfl, hb⟩; refine ⟨_, rfl, ?_⟩; have n0_ := Aside0.mk (blk_below (g := gb986) (o := .cells #[.int .i64 a0_0, .int .i64 a0_1, .int .i64 a0_2, .int .i64 a0_3, .slice A0_4 l0_4.length c0_4] 24 (0, 0)) (by (with_reducible repeat (first | refine blk_drewN ?_ _ | refine blk_drew ?_ | refine blk_alloc ?_ _)); exact BK986.out) hb); have n1_ := Aside0.mk (below_step (by repeat (first | (with_reducible first | exact HB.out | apply below_alloc | apply pw_below_drewN | apply below_drew1 | refine below_set ?_ GE986.out) | exact HB.out)) hb); clear BK986; clear HB; have BK986 := n0_; have HB := n1_; clear n0_ n1_; (try clear hb); (try clear hb2); (try clear hk); (try clear hi); have hcz28_0 : w27.cell? ⟨gb986, 0, none⟩ = some (.int .i64 a0_0) := (blk_cell BK986.out 0).trans rfl; have hcz28_1 : w27.cell? ⟨gb986, 1, none⟩ = some (.int .i64 a0_1) := (blk_cell BK986.out 1).trans rfl; have hcz28_2 : w27.cell? ⟨gb986, 2, none⟩ = some (.int .i64 a0_2) := (blk_cell BK986.out 2).trans rfl; have hcz28_3 : w27.cell? ⟨gb986, 3, none⟩ = some (.int .i64 a0_3) := (blk_cell BK986.out 3).trans rfl; have hcz28_4 : w27.cell? ⟨gb986, 4, none⟩ = some (.slice A0_4 l0_4.length c0_4) := (blk_cell BK986.out 4).trans rfl; have hfz28_0 := blk_frozen BK986.out 0; have hfz28_1 := blk_frozen BK986.out 1; have hfz28_2 := blk_frozen BK986.out 2; have hfz28_3 := blk_frozen BK986.out 3; have hfz28_4 := blk_frozen BK986.out 4))
        go_ret
        exact ⟨by first | rfl | (simp [errW_none, errW_some] <;> rfl) | (simp [*, errW_none, errW_some] <;> rfl), by repeat (first | (with_reducible first | exact HB.out | apply below_alloc | apply pw_below_drewN | apply below_drew1 | refine below_set ?_ GE986.out) | exact HB.out)⟩
    · rw [if_neg c6] at H
      have c6b0 : ((l0_4.length : Int) == 0) = false := beq_eq_false_iff_ne.mpr c6
      have c6b1 : ((l0_4.length : Int) != 0) = true := bne_iff_ne.mpr c6
      have c6b2 : ¬ (l0_4 = []) := fun h_ => c6 (by rw [h_]; rfl)
      replace H := Option.bind_eq_some_iff.mp H
      obtain ⟨⟨t992, t995⟩, A290, H⟩ := H
      replace H : ((fill_ByHand.f a0_0 a0_1 a0_2 a0_3 l0_4 t992).bind fun bt996 => (if t990 = 0 then (if t995 = 0 then (if bt996.2 = 0 then ((luciferref00_Fits.f t989 0 (wrap64 ((l0_4.length : Int) - 1))).bind fun t1000 => (luciferlaw05_FillAsk.j0 k a1 t989 bt996.1 (!t1000) a0_0 a0_1 a0_2 a0_3 l0_4)) else (luciferlaw05_FillAsk.j0 k a1 t989 bt996.1 true a0_0 a0_1 a0_2 a0_3 l0_4)) else (luciferlaw05_FillAsk.j0 k a1 t989 bt996.1 true a0_0 a0_1 a0_2 a0_3 l0_4)) else (luciferlaw05_FillAsk.j0 k a1 t989 bt996.1 true a0_0 a0_1 a0_2 a0_3 l0_4))) = some r := H
      have A29 := Aside0.mk A290
      clear A290
      replace H := Option.bind_eq_some_iff.mp H
      obtain ⟨⟨t996, t999⟩, A300, H⟩ := H
      replace H : (if t990 = 0 then (if t995 = 0 then (if t999 = 0 then ((luciferref00_Fits.f t989 0 (wrap64 ((l0_4.length : Int) - 1))).bind fun t1000 => (luciferlaw05_FillAsk.j0 k a1 t989 t996 (!t1000) a0_0 a0_1 a0_2 a0_3 l0_4)) else (luciferlaw05_FillAsk.j0 k a1 t989 t996 true a0_0 a0_1 a0_2 a0_3 l0_4)) else (luciferlaw05_FillAsk.j0 k a1 t989 t996 true a0_0 a0_1 a0_2 a0_3 l0_4)) else (luciferlaw05_FillAsk.j0 k a1 t989 t996 true a0_0 a0_1 a0_2 a0_3 l0_4)) = some r := H
      have A30 := Aside0.mk A300
      clear A300
      have HC31 := Aside0.mk H
      clear H
      go_enter Tryd.func13, Tryd.ntmps13
      go_upto_region 8 with (first | ((with_reducible refine gate_dst (N := 2) rfl ?_); (try (refine gate_guard (by rfl) ?_; dsimp only)); refine box_event ?hg (N := 2) ?hd (cs := #[.int .i64 a0_0, .int .i64 a0_1, .int .i64 a0_2, .int .i64 a0_3, .slice A0_4 l0_4.length c0_4]) (t := 24) ?hr ?_; (case hd => rfl); (case hg => rfl); (case hr => first | (go_simp; done) | (go_simp; rfl)); intro gb986 hg w32 hbox hb; have n0_ := Aside0.mk (below_step (by repeat (first | (with_reducible first | exact HB.out | apply below_alloc | apply pw_below_drewN | apply below_drew1) | exact HB.out)) hb); have n1_ := Aside0.mk (hbox); have n2_ := Aside0.mk ((by rw [hg]; exact (below_size (by repeat (first | (with_reducible first | exact HB.out | apply below_alloc | apply pw_below_drewN | apply below_drew1) | exact HB.out))) : w.heap.size ≤ gb986)); have n3_ := Aside0.mk ((by rw [hg]; exact (below_size (by repeat (first | (with_reducible first | exact HB.out | apply below_alloc | apply pw_below_drewN | apply below_drew1) | exact HB.out))) : w.heap.size ≤ gb986)); clear HB; have HB := n0_; have BK986 := n1_; have GW986 := n2_; have GE986 := n3_; clear n0_ n1_ n2_ n3_; clear hb hbox hg; have hcz33_0 : w32.cell? ⟨gb986, 0, none⟩ = some (.int .i64 a0_0) := (blk_cell BK986.out 0).trans rfl; have hcz33_1 : w32.cell? ⟨gb986, 1, none⟩ = some (.int .i64 a0_1) := (blk_cell BK986.out 1).trans rfl; have hcz33_2 : w32.cell? ⟨gb986, 2, none⟩ = some (.int .i64 a0_2) := (blk_cell BK986.out 2).trans rfl; have hcz33_3 : w32.cell? ⟨gb986, 3, none⟩ = some (.int .i64 a0_3) := (blk_cell BK986.out 3).trans rfl; have hcz33_4 : w32.cell? ⟨gb986, 4, none⟩ = some (.slice A0_4 l0_4.length c0_4) := (blk_cell BK986.out 4).trans rfl; have hfz33_0 := blk_frozen BK986.out 0; have hfz33_1 := blk_frozen BK986.out 1; have hfz33_2 := blk_frozen BK986.out 2; have hfz33_3 := blk_frozen BK986.out 3; have hfz33_4 := blk_frozen BK986.out 4) | ((with_reducible refine gate_callee (f := 37) rfl ?_); refine goesL_ (some 15) rfl rfl Tryd.func37 (by kernel_rfl) rfl #[.agg #[.int .i64 a0_0, .int .i64 a0_1, .int .i64 a0_2, .int .i64 a0_3, .slice A0_4 l0_4.length c0_4]] rfl (by (try simp only [List.map_toArray, List.map_cons, List.map_nil]); first | done | rfl | (simp only [List.length_drop, List.length_take]; rfl)) ?_; (with_reducible refine (luciferlaw05_sound.calls k a0_0 a0_1 a0_2 a0_3 _ _ l0_4 true _ ?side1 ?side2 A3.out).mono ?_); (case side1 => repeat (first | exact (Kd.C_below HR0_4.out HB.out) | (with_reducible refine Kd.C_alloc ?_ _) | (with_reducible refine Kd.C_drewN ?_ _) | (with_reducible refine Kd.C_drew ?_))); (case side2 => exact HC0_4.out); rintro e w34 ⟨rfl, hb⟩; refine ⟨_, rfl, ?_⟩; have n0_ := Aside0.mk (blk_below (g := gb986) (o := .cells #[.int .i64 a0_0, .int .i64 a0_1, .int .i64 a0_2, .int .i64 a0_3, .slice A0_4 l0_4.length c0_4] 24 (0, 0)) (by (with_reducible repeat (first | refine blk_drewN ?_ _ | refine blk_drew ?_ | refine blk_alloc ?_ _)); exact BK986.out) hb); have n1_ := Aside0.mk (below_step (by repeat (first | (with_reducible first | exact HB.out | apply below_alloc | apply pw_below_drewN | apply below_drew1 | refine below_set ?_ GE986.out) | exact HB.out)) hb); clear BK986; clear HB; have BK986 := n0_; have HB := n1_; clear n0_ n1_; (try clear hb); (try clear hb2); (try clear hk); (try clear hi); have hcz35_0 : w34.cell? ⟨gb986, 0, none⟩ = some (.int .i64 a0_0) := (blk_cell BK986.out 0).trans rfl; have hcz35_1 : w34.cell? ⟨gb986, 1, none⟩ = some (.int .i64 a0_1) := (blk_cell BK986.out 1).trans rfl; have hcz35_2 : w34.cell? ⟨gb986, 2, none⟩ = some (.int .i64 a0_2) := (blk_cell BK986.out 2).trans rfl; have hcz35_3 : w34.cell? ⟨gb986, 3, none⟩ = some (.int .i64 a0_3) := (blk_cell BK986.out 3).trans rfl; have hcz35_4 : w34.cell? ⟨gb986, 4, none⟩ = some (.slice A0_4 l0_4.length c0_4) := (blk_cell BK986.out 4).trans rfl; have hfz35_0 := blk_frozen BK986.out 0; have hfz35_1 := blk_frozen BK986.out 1; have hfz35_2 := blk_frozen BK986.out 2; have hfz35_3 := blk_frozen BK986.out 3; have hfz35_4 := blk_frozen BK986.out 4) | ((with_reducible refine gate_callee (f := 35) rfl ?_); refine goesL_ (some 20) rfl rfl Tryd.func35 (by kernel_rfl) rfl #[.agg #[.int .i64 a0_0, .int .i64 a0_1, .int .i64 a0_2, .int .i64 a0_3, .slice A0_4 l0_4.length c0_4]] rfl (by (try simp only [List.map_toArray, List.map_cons, List.map_nil]); first | done | rfl | (simp only [List.length_drop, List.length_take]; rfl)) ?_; (with_reducible refine (fill_Ask.calls a0_0 a0_1 a0_2 a0_3 _ _ l0_4 t989 t990 _ ?side1 ?side2 ?side3 A5.out).mono ?_); (case side1 => exact Fl.Laid.below HLd0.out (by repeat (first | (with_reducible first | exact HB.out | apply below_alloc | apply pw_below_drewN | apply below_drew1 | refine below_set ?_ GE986.out) | exact HB.out))); (case side2 => repeat (first | exact (Kd.C_below HR0_4.out HB.out) | (with_reducible refine Kd.C_alloc ?_ _) | (with_reducible refine Kd.C_drewN ?_ _) | (with_reducible refine Kd.C_drew ?_))); (case side3 => exact HC0_4.out); rintro e w36 ⟨rfl, hb⟩; refine ⟨_, rfl, ?_⟩; have n0_ := Aside0.mk (blk_below (g := gb986) (o := .cells #[.int .i64 a0_0, .int .i64 a0_1, .int .i64 a0_2, .int .i64 a0_3, .slice A0_4 l0_4.length c0_4] 24 (0, 0)) (by (with_reducible repeat (first | refine blk_drewN ?_ _ | refine blk_drew ?_ | refine blk_alloc ?_ _)); exact BK986.out) hb); have n1_ := Aside0.mk (below_step (by repeat (first | (with_reducible first | exact HB.out | apply below_alloc | apply pw_below_drewN | apply below_drew1 | refine below_set ?_ GE986.out) | exact HB.out)) hb); clear BK986; clear HB; have BK986 := n0_; have HB := n1_; clear n0_ n1_; (try clear hb); (try clear hb2); (try clear hk); (try clear hi); have hcz37_0 : w36.cell? ⟨gb986, 0, none⟩ = some (.int .i64 a0_0) := (blk_cell BK986.out 0).trans rfl; have hcz37_1 : w36.cell? ⟨gb986, 1, none⟩ = some (.int .i64 a0_1) := (blk_cell BK986.out 1).trans rfl; have hcz37_2 : w36.cell? ⟨gb986, 2, none⟩ = some (.int .i64 a0_2) := (blk_cell BK986.out 2).trans rfl; have hcz37_3 : w36.cell? ⟨gb986, 3, none⟩ = some (.int .i64 a0_3) := (blk_cell BK986.out 3).trans rfl; have hcz37_4 : w36.cell? ⟨gb986, 4, none⟩ = some (.slice A0_4 l0_4.length c0_4) := (blk_cell BK986.out 4).trans rfl; have hfz37_0 := blk_frozen BK986.out 0; have hfz37_1 := blk_frozen BK986.out 1; have hfz37_2 := blk_frozen BK986.out 2; have hfz37_3 := blk_frozen BK986.out 3; have hfz37_4 := blk_frozen BK986.out 4) | ((with_reducible refine gate_callee (f := 31) rfl ?_); refine goesL_ (some 38) rfl rfl Tryd.func31 (by kernel_rfl) rfl #[.agg #[.int .i64 a0_0, .int .i64 a0_1, .int .i64 a0_2, .int .i64 a0_3, .slice A0_4 l0_4.length c0_4]] rfl (by (try simp only [List.map_toArray, List.map_cons, List.map_nil]); first | done | rfl | (simp only [List.length_drop, List.length_take]; rfl)) ?_; (with_reducible refine (fill_Best.calls a0_0 a0_1 a0_2 a0_3 _ _ l0_4 t992 t995 _ ?side1 ?side2 ?side3 A29.out).mono ?_); (case side1 => exact Fl.Laid.below HLd0.out (by repeat (first | (with_reducible first | exact HB.out | apply below_alloc | apply pw_below_drewN | apply below_drew1 | refine below_set ?_ GE986.out) | exact HB.out))); (case side2 => repeat (first | exact (Kd.C_below HR0_4.out HB.out) | (with_reducible refine Kd.C_alloc ?_ _) | (with_reducible refine Kd.C_drewN ?_ _) | (with_reducible refine Kd.C_drew ?_))); (case side3 => exact HC0_4.out); rintro e w38 ⟨v993, rfl, ho0, hb⟩; refine ⟨_, rfl, ?_⟩; have n0_ := Aside0.mk (Kd.V_lower (Kd.V_mono (ok' := fun k_ => k_ ≠ gb986) ho0 (fun k_ hk_ => (Kd.freshB (g := gb986) (o := .cells #[.int .i64 a0_0, .int .i64 a0_1, .int .i64 a0_2, .int .i64 a0_3, .slice A0_4 l0_4.length c0_4] 24 (0, 0)) (by (with_reducible repeat (first | refine blk_drewN ?_ _ | refine blk_drew ?_ | refine blk_alloc ?_ _)); exact BK986.out) k_ hk_))) (below_size (by repeat (first | (with_reducible first | exact HB.out | apply below_alloc | apply pw_below_drewN | apply below_drew1 | refine below_set ?_ GE986.out) | exact HB.out)))); have n1_ := Aside0.mk (blk_below (g := gb986) (o := .cells #[.int .i64 a0_0, .int .i64 a0_1, .int .i64 a0_2, .int .i64 a0_3, .slice A0_4 l0_4.length c0_4] 24 (0, 0)) (by (with_reducible repeat (first | refine blk_drewN ?_ _ | refine blk_drew ?_ | refine blk_alloc ?_ _)); exact BK986.out) hb); have n2_ := Aside0.mk (below_step (by repeat (first | (with_reducible first | exact HB.out | apply below_alloc | apply pw_below_drewN | apply below_drew1 | refine below_set ?_ GE986.out) | exact HB.out)) hb); clear BK986; clear HB; have HO994 := n0_; have BK986 := n1_; have HB := n2_; clear n0_ n1_ n2_; (try clear hb); (try clear hb2); (try clear hk); (try clear hi); (try clear ho0); have hcz39_0 : w38.cell? ⟨gb986, 0, none⟩ = some (.int .i64 a0_0) := (blk_cell BK986.out 0).trans rfl; have hcz39_1 : w38.cell? ⟨gb986, 1, none⟩ = some (.int .i64 a0_1) := (blk_cell BK986.out 1).trans rfl; have hcz39_2 : w38.cell? ⟨gb986, 2, none⟩ = some (.int .i64 a0_2) := (blk_cell BK986.out 2).trans rfl; have hcz39_3 : w38.cell? ⟨gb986, 3, none⟩ = some (.int .i64 a0_3) := (blk_cell BK986.out 3).trans rfl; have hcz39_4 : w38.cell? ⟨gb986, 4, none⟩ = some (.slice A0_4 l0_4.length c0_4) := (blk_cell BK986.out 4).trans rfl; have hfz39_0 := blk_frozen BK986.out 0; have hfz39_1 := blk_frozen BK986.out 1; have hfz39_2 := blk_frozen BK986.out 2; have hfz39_3 := blk_frozen BK986.out 3; have hfz39_4 := blk_frozen BK986.out 4; obtain ⟨Ao40, co40, eo40⟩ := Kd.V_slice HO994.out; subst eo40) | ((with_reducible refine gate_callee (f := 26) rfl ?_); refine goesL_ (some 44) rfl rfl Tryd.func26 (by kernel_rfl) rfl #[.agg #[.int .i64 a0_0, .int .i64 a0_1, .int .i64 a0_2, .int .i64 a0_3, .slice A0_4 l0_4.length c0_4], .slice Ao40 t992.length co40] rfl (by (try simp only [List.map_toArray, List.map_cons, List.map_nil]); first | done | rfl | (simp only [List.length_drop, List.length_take]; rfl)) ?_; (with_reducible refine (fill_ByHand.calls a0_0 a0_1 a0_2 a0_3 _ _ l0_4 _ _ t992 t996 t999 _ ?side1 ?side2 ?side3 ?side4 ?side5 A30.out).mono ?_); (case side1 => exact Fl.Laid.below HLd0.out (by repeat (first | (with_reducible first | exact HB.out | apply below_alloc | apply pw_below_drewN | apply below_drew1 | refine below_set ?_ GE986.out) | exact HB.out))); (case side2 => repeat (first | exact (Kd.C_below HR0_4.out HB.out) | (with_reducible refine Kd.C_alloc ?_ _) | (with_reducible refine Kd.C_drewN ?_ _) | (with_reducible refine Kd.C_drew ?_))); (case side3 => exact HC0_4.out); (case side4 => repeat (first | exact (Kd.V_reads' HO994.out).2.2 | (with_reducible refine Kd.C_alloc ?_ _) | (with_reducible refine Kd.C_drewN ?_ _) | (with_reducible refine Kd.C_drew ?_))); (case side5 => exact (Kd.V_reads' HO994.out).2.1); rintro e w41 ⟨v997, rfl, ho0, hb⟩; refine ⟨_, rfl, ?_⟩; have n0_ := Aside0.mk (Kd.V_below (by (with_reducible repeat (first | apply Kd.V_alloc | apply Kd.V_drewN | apply Kd.V_drew)); exact HO994.out) hb); have n1_ := Aside0.mk (Kd.V_lower (Kd.V_mono (ok' := fun k_ => k_ ≠ gb986) ho0 (fun k_ hk_ => (Kd.freshB (g := gb986) (o := .cells #[.int .i64 a0_0, .int .i64 a0_1, .int .i64 a0_2, .int .i64 a0_3, .slice A0_4 l0_4.length c0_4] 24 (0, 0)) (by (with_reducible repeat (first | refine blk_drewN ?_ _ | refine blk_drew ?_ | refine blk_alloc ?_ _)); exact BK986.out) k_ hk_))) (below_size (by repeat (first | (with_reducible first | exact HB.out | apply below_alloc | apply pw_below_drewN | apply below_drew1 | refine below_set ?_ GE986.out) | exact HB.out)))); have n2_ := Aside0.mk (blk_below (g := gb986) (o := .cells #[.int .i64 a0_0, .int .i64 a0_1, .int .i64 a0_2, .int .i64 a0_3, .slice A0_4 l0_4.length c0_4] 24 (0, 0)) (by (with_reducible repeat (first | refine blk_drewN ?_ _ | refine blk_drew ?_ | refine blk_alloc ?_ _)); exact BK986.out) hb); have n3_ := Aside0.mk (below_step (by repeat (first | (with_reducible first | exact HB.out | apply below_alloc | apply pw_below_drewN | apply below_drew1 | refine below_set ?_ GE986.out) | exact HB.out)) hb); clear HO994; clear BK986; clear HB; have HO994 := n0_; have HO998 := n1_; have BK986 := n2_; have HB := n3_; clear n0_ n1_ n2_ n3_; (try clear hb); (try clear hb2); (try clear hk); (try clear hi); (try clear ho0)))
      (try simp only [Act.put, List.setIfInBounds_toArray, List.set_cons_zero, List.set_cons_succ])
      go_cut [65] (fun v65 wc => ∃ (kq : Nat) (x65_30 : Bool), v65 = .bool x65_30 ∧ Aside0 (luciferlaw05_FillAsk.j0 kq a1 t989 t996 x65_30 a0_0 a0_1 a0_2 a0_3 l0_4 = some r) ∧ Aside0 (kq ≤ k) ∧ Aside0 (Kd.V (Kd.int .i64) 3 wc w.heap.size (fun k_ => k_ ≠ gb986) v997 t996) ∧ Aside0 (wc.heap[gb986]? = some (.cells #[.int .i64 a0_0, .int .i64 a0_1, .int .i64 a0_2, .int .i64 a0_3, (.slice A0_4 l0_4.length c0_4)] 24 (0, 0))) ∧ Aside0 (Below w.heap.size w wc))
      case first =>
        have H := HC31.out
        clear HC31
        by_cases c42 : t990 = 0
        · rw [if_pos c42] at H
          have c42b0 : (t990 == 0) = true := beq_iff_eq.mpr c42
          have c42b1 : (t990 != 0) = false := bne_eq_false_iff_eq.mpr c42
          clear c42
          (first | rw [c42b0] | (simp only [i64_w, i32_w]; rw [c42b0]) | skip)
          by_cases c43 : t995 = 0
          · rw [if_pos c43] at H
            have c43b0 : (t995 == 0) = true := beq_iff_eq.mpr c43
            have c43b1 : (t995 != 0) = false := bne_eq_false_iff_eq.mpr c43
            clear c43
            by_cases c44 : t999 = 0
            · rw [if_pos c44] at H
              have c44b0 : (t999 == 0) = true := beq_iff_eq.mpr c44
              have c44b1 : (t999 != 0) = false := bne_eq_false_iff_eq.mpr c44
              clear c44
              replace H := Option.bind_eq_some_iff.mp H
              obtain ⟨t1000, A450, H⟩ := H
              replace H : (luciferlaw05_FillAsk.j0 k a1 t989 t996 (!t1000) a0_0 a0_1 a0_2 a0_3 l0_4) = some r := H
              have A45 := Aside0.mk A450
              clear A450
              have H' := Aside0.mk H
              clear H
              have hcz46_0 : w41.cell? ⟨gb986, 0, none⟩ = some (.int .i64 a0_0) := (blk_cell BK986.out 0).trans rfl
              have hcz46_1 : w41.cell? ⟨gb986, 1, none⟩ = some (.int .i64 a0_1) := (blk_cell BK986.out 1).trans rfl
              have hcz46_2 : w41.cell? ⟨gb986, 2, none⟩ = some (.int .i64 a0_2) := (blk_cell BK986.out 2).trans rfl
              have hcz46_3 : w41.cell? ⟨gb986, 3, none⟩ = some (.int .i64 a0_3) := (blk_cell BK986.out 3).trans rfl
              have hcz46_4 : w41.cell? ⟨gb986, 4, none⟩ = some (.slice A0_4 l0_4.length c0_4) := (blk_cell BK986.out 4).trans rfl
              have hfz46_0 := blk_frozen BK986.out 0
              have hfz46_1 := blk_frozen BK986.out 1
              have hfz46_2 := blk_frozen BK986.out 2
              have hfz46_3 := blk_frozen BK986.out 3
              have hfz46_4 := blk_frozen BK986.out 4
              go_wp2_with (first | (go_at_call 55; (with_reducible refine (luciferref00_Fits.calls t989 0 (wrap64 ((l0_4.length : Int) - 1)) t1000 _ A45.out).mono ?_); rintro e w' ⟨rfl, ⟨nd, rfl⟩⟩))
              go_meet
              case rel => exact ⟨_, (!t1000), (by first | rfl | (simp; done) | (simp [*]; done)), H', ⟨by first | omega | exact Nat.le_refl _⟩, ⟨by (with_reducible repeat (first | apply Kd.V_alloc | apply Kd.V_drewN | apply Kd.V_drew)); exact HO998.out⟩, ⟨by (with_reducible repeat (first | refine blk_drewN ?_ _ | refine blk_drew ?_ | refine blk_alloc ?_ _)); exact BK986.out⟩, ⟨by repeat (first | (with_reducible first | exact HB.out | apply below_alloc | apply pw_below_drewN | apply below_drew1 | refine below_set ?_ GE986.out) | exact HB.out)⟩⟩
            · rw [if_neg c44] at H
              have c44b0 : (t999 == 0) = false := beq_eq_false_iff_ne.mpr c44
              have c44b1 : (t999 != 0) = true := bne_iff_ne.mpr c44
              have H' := Aside0.mk H
              clear H
              go_wp2
              go_meet
              case rel => exact ⟨_, (true), (by first | rfl | (simp; done) | (simp [*]; done)), H', ⟨by first | omega | exact Nat.le_refl _⟩, ⟨by (with_reducible repeat (first | apply Kd.V_alloc | apply Kd.V_drewN | apply Kd.V_drew)); exact HO998.out⟩, ⟨by (with_reducible repeat (first | refine blk_drewN ?_ _ | refine blk_drew ?_ | refine blk_alloc ?_ _)); exact BK986.out⟩, ⟨by repeat (first | (with_reducible first | exact HB.out | apply below_alloc | apply pw_below_drewN | apply below_drew1 | refine below_set ?_ GE986.out) | exact HB.out)⟩⟩
          · rw [if_neg c43] at H
            have c43b0 : (t995 == 0) = false := beq_eq_false_iff_ne.mpr c43
            have c43b1 : (t995 != 0) = true := bne_iff_ne.mpr c43
            have H' := Aside0.mk H
            clear H
            go_wp2
            go_meet
            case rel => exact ⟨_, (true), (by first | rfl | (simp; done) | (simp [*]; done)), H', ⟨by first | omega | exact Nat.le_refl _⟩, ⟨by (with_reducible repeat (first | apply Kd.V_alloc | apply Kd.V_drewN | apply Kd.V_drew)); exact HO998.out⟩, ⟨by (with_reducible repeat (first | refine blk_drewN ?_ _ | refine blk_drew ?_ | refine blk_alloc ?_ _)); exact BK986.out⟩, ⟨by repeat (first | (with_reducible first | exact HB.out | apply below_alloc | apply pw_below_drewN | apply below_drew1 | refine below_set ?_ GE986.out) | exact HB.out)⟩⟩
        · rw [if_neg c42] at H
          have c42b0 : (t990 == 0) = false := beq_eq_false_iff_ne.mpr c42
          have c42b1 : (t990 != 0) = true := bne_iff_ne.mpr c42
          (first | rw [c42b0] | (simp only [i64_w, i32_w]; rw [c42b0]) | skip)
          have H' := Aside0.mk H
          clear H
          go_wp2
          go_meet
          case rel => exact ⟨_, (true), (by first | rfl | (simp; done) | (simp [*]; done)), H', ⟨by first | omega | exact Nat.le_refl _⟩, ⟨by (with_reducible repeat (first | apply Kd.V_alloc | apply Kd.V_drewN | apply Kd.V_drew)); exact HO998.out⟩, ⟨by (with_reducible repeat (first | refine blk_drewN ?_ _ | refine blk_drew ?_ | refine blk_alloc ?_ _)); exact BK986.out⟩, ⟨by repeat (first | (with_reducible first | exact HB.out | apply below_alloc | apply pw_below_drewN | apply below_drew1 | refine below_set ?_ GE986.out) | exact HB.out)⟩⟩
      case rest =>
        clear HC31
        try clear c1
        try clear c2
        try clear p2
        try clear c3
        try clear c4
        try clear c6
        try clear c6b0
        try clear c6b1
        try clear c6b2
        try clear p6
        try clear c7
        try clear c7b0
        try clear c7b1
        try clear c8
        try clear c8b0
        try clear c8b1
        try clear c13
        try clear c26
        try clear c31
        try clear c35
        try clear c37
        try clear c42
        try clear c42b0
        try clear c42b1
        try clear c43
        try clear c43b0
        try clear c43b1
        try clear c44
        try clear c44b0
        try clear c44b1
        try clear hcz11_0
        try clear hcz11_1
        try clear hcz11_2
        try clear hcz11_3
        try clear hcz11_4
        try clear hcz13_0
        try clear hcz13_1
        try clear hcz13_2
        try clear hcz13_3
        try clear hcz13_4
        try clear hcz15_0
        try clear hcz15_1
        try clear hcz15_2
        try clear hcz15_3
        try clear hcz15_4
        try clear hcz18_0
        try clear hcz18_1
        try clear hcz18_2
        try clear hcz18_3
        try clear hcz18_4
        try clear hcz20_0
        try clear hcz20_1
        try clear hcz20_2
        try clear hcz20_3
        try clear hcz20_4
        try clear hcz22_0
        try clear hcz22_1
        try clear hcz22_2
        try clear hcz22_3
        try clear hcz22_4
        try clear hcz24_0
        try clear hcz24_1
        try clear hcz24_2
        try clear hcz24_3
        try clear hcz24_4
        try clear hcz26_0
        try clear hcz26_1
        try clear hcz26_2
        try clear hcz26_3
        try clear hcz26_4
        try clear hcz28_0
        try clear hcz28_1
        try clear hcz28_2
        try clear hcz28_3
        try clear hcz28_4
        try clear hcz33_0
        try clear hcz33_1
        try clear hcz33_2
        try clear hcz33_3
        try clear hcz33_4
        try clear hcz35_0
        try clear hcz35_1
        try clear hcz35_2
        try clear hcz35_3
        try clear hcz35_4
        try clear hcz37_0
        try clear hcz37_1
        try clear hcz37_2
        try clear hcz37_3
        try clear hcz37_4
        try clear hcz39_0
        try clear hcz39_1
        try clear hcz39_2
        try clear hcz39_3
        try clear hcz39_4
        try clear hcz46_0
        try clear hcz46_1
        try clear hcz46_2
        try clear hcz46_3
        try clear hcz46_4
        try clear hfz11_0
        try clear hfz11_1
        try clear hfz11_2
        try clear hfz11_3
        try clear hfz11_4
        try clear hfz13_0
        try clear hfz13_1
        try clear hfz13_2
        try clear hfz13_3
        try clear hfz13_4
        try clear hfz15_0
        try clear hfz15_1
        try clear hfz15_2
        try clear hfz15_3
        try clear hfz15_4
        try clear hfz18_0
        try clear hfz18_1
        try clear hfz18_2
        try clear hfz18_3
        try clear hfz18_4
        try clear hfz20_0
        try clear hfz20_1
        try clear hfz20_2
        try clear hfz20_3
        try clear hfz20_4
        try clear hfz22_0
        try clear hfz22_1
        try clear hfz22_2
        try clear hfz22_3
        try clear hfz22_4
        try clear hfz24_0
        try clear hfz24_1
        try clear hfz24_2
        try clear hfz24_3
        try clear hfz24_4
        try clear hfz26_0
        try clear hfz26_1
        try clear hfz26_2
        try clear hfz26_3
        try clear hfz26_4
        try clear hfz28_0
        try clear hfz28_1
        try clear hfz28_2
        try clear hfz28_3
        try clear hfz28_4
        try clear hfz33_0
        try clear hfz33_1
        try clear hfz33_2
        try clear hfz33_3
        try clear hfz33_4
        try clear hfz35_0
        try clear hfz35_1
        try clear hfz35_2
        try clear hfz35_3
        try clear hfz35_4
        try clear hfz37_0
        try clear hfz37_1
        try clear hfz37_2
        try clear hfz37_3
        try clear hfz37_4
        try clear hfz39_0
        try clear hfz39_1
        try clear hfz39_2
        try clear hfz39_3
        try clear hfz39_4
        try clear hfz46_0
        try clear hfz46_1
        try clear hfz46_2
        try clear hfz46_3
        try clear hfz46_4
        obtain ⟨kq, x65_30, rfl, HA, HJ30, HO_9, BK986, HB⟩ := hcut
        cases kq with
        | zero => exact absurd HA.out (by simp [luciferlaw05_FillAsk.j0])
        | succ kj30 =>
          have H := HA.out
          clear HA
          simp only [luciferlaw05_FillAsk.j0] at H
          by_cases c47 : x65_30 = true
          · subst c47
            have H1 : (some false) = some r := by rw [if_pos rfl] at H; exact H
            clear H
            have H := H1
            clear H1
            obtain rfl := Option.some.inj H
            go_wp2
            go_ret
            exact ⟨by first | rfl | (simp [errW_none, errW_some] <;> rfl) | (simp [*, errW_none, errW_some] <;> rfl), by repeat (first | (with_reducible first | exact HB.out | apply below_alloc | apply pw_below_drewN | apply below_drew1 | refine below_set ?_ GE986.out) | exact HB.out)⟩
          · replace c47 := Bool.eq_false_iff.mpr c47
            subst c47
            have H1 : ((luciferref00_Spin.f a1 (l0_4.length : Int)).bind fun t1001 => ((luciferlaw05_worst.f a0_0 a0_1 a0_2 a0_3 l0_4 t989).bind fun t1002 => ((luciferlaw05_worst.f a0_0 a0_1 a0_2 a0_3 l0_4 t1001).bind fun t1003 => (if t1002 ≤ (t996.length : Int) then (if t1002 < t1003 then ((luciferlaw05_filled.f).bind fun t1004 => (some t1004)) else (if t1002 = t1003 then (if t989 ≤ t1001 then ((luciferlaw05_filled.f).bind fun t1005 => (some t1005)) else (some false)) else (some false))) else (some false))))) = some r := by rw [if_neg (show ¬ (false = true) by decide)] at H; exact H
            clear H
            have H := H1
            clear H1
            replace H := Option.bind_eq_some_iff.mp H
            obtain ⟨t1001, A480, H⟩ := H
            replace H : ((luciferlaw05_worst.f a0_0 a0_1 a0_2 a0_3 l0_4 t989).bind fun t1002 => ((luciferlaw05_worst.f a0_0 a0_1 a0_2 a0_3 l0_4 t1001).bind fun t1003 => (if t1002 ≤ (t996.length : Int) then (if t1002 < t1003 then ((luciferlaw05_filled.f).bind fun t1004 => (some t1004)) else (if t1002 = t1003 then (if t989 ≤ t1001 then ((luciferlaw05_filled.f).bind fun t1005 => (some t1005)) else (some false)) else (some false))) else (some false)))) = some r := H
            have A48 := Aside0.mk A480
            clear A480
            replace H := Option.bind_eq_some_iff.mp H
            obtain ⟨t1002, A490, H⟩ := H
            replace H : ((luciferlaw05_worst.f a0_0 a0_1 a0_2 a0_3 l0_4 t1001).bind fun t1003 => (if t1002 ≤ (t996.length : Int) then (if t1002 < t1003 then ((luciferlaw05_filled.f).bind fun t1004 => (some t1004)) else (if t1002 = t1003 then (if t989 ≤ t1001 then ((luciferlaw05_filled.f).bind fun t1005 => (some t1005)) else (some false)) else (some false))) else (some false))) = some r := H
            have A49 := Aside0.mk A490
            clear A490
            replace H := Option.bind_eq_some_iff.mp H
            obtain ⟨t1003, A500, H⟩ := H
            replace H : (if t1002 ≤ (t996.length : Int) then (if t1002 < t1003 then ((luciferlaw05_filled.f).bind fun t1004 => (some t1004)) else (if t1002 = t1003 then (if t989 ≤ t1001 then ((luciferlaw05_filled.f).bind fun t1005 => (some t1005)) else (some false)) else (some false))) else (some false)) = some r := H
            have A50 := Aside0.mk A500
            clear A500
            by_cases c51 : t1002 ≤ (t996.length : Int)
            · rw [if_pos c51] at H
              have c51b0 : decide (t1002 ≤ (t996.length : Int)) = true := decide_eq_true c51
              clear c51
              by_cases c52 : t1002 < t1003
              · rw [if_pos c52] at H
                have c52b0 : decide (t1002 < t1003) = true := decide_eq_true c52
                clear c52
                replace H := Option.bind_eq_some_iff.mp H
                obtain ⟨t1004, A530, H⟩ := H
                replace H : (some t1004) = some r := H
                have A53 := Aside0.mk A530
                clear A530
                obtain rfl := Option.some.inj H
                have hcz54_0 : wc.cell? ⟨gb986, 0, none⟩ = some (.int .i64 a0_0) := (blk_cell BK986.out 0).trans rfl
                have hcz54_1 : wc.cell? ⟨gb986, 1, none⟩ = some (.int .i64 a0_1) := (blk_cell BK986.out 1).trans rfl
                have hcz54_2 : wc.cell? ⟨gb986, 2, none⟩ = some (.int .i64 a0_2) := (blk_cell BK986.out 2).trans rfl
                have hcz54_3 : wc.cell? ⟨gb986, 3, none⟩ = some (.int .i64 a0_3) := (blk_cell BK986.out 3).trans rfl
                have hcz54_4 : wc.cell? ⟨gb986, 4, none⟩ = some (.slice A0_4 l0_4.length c0_4) := (blk_cell BK986.out 4).trans rfl
                have hfz54_0 := blk_frozen BK986.out 0
                have hfz54_1 := blk_frozen BK986.out 1
                have hfz54_2 := blk_frozen BK986.out 2
                have hfz54_3 := blk_frozen BK986.out 3
                have hfz54_4 := blk_frozen BK986.out 4
                try go_wp2_with (first | ((with_reducible refine gate_callee (f := 48) rfl ?_); refine goesL_ (some 70) rfl rfl Tryd.func48 (by kernel_rfl) rfl #[.int .i64 a1, .int .i64 (l0_4.length : Int)] rfl (by (try simp only [List.map_toArray, List.map_cons, List.map_nil]); first | done | rfl | (simp only [List.length_drop, List.length_take]; rfl)) ?_; (with_reducible refine (luciferref00_Spin.calls a1 (l0_4.length : Int) t1001 _ A48.out).mono ?_); rintro e w' ⟨rfl, ⟨nd, rfl⟩⟩; refine ⟨_, rfl, ?_⟩))
                (try (rw [drewN_self wc]; generalize hq_ : World.drewN wc _ = wc; have n0_ : Aside0 (Kd.V (Kd.int .i64) 3 wc w.heap.size (fun k_ => k_ ≠ gb986) v997 t996) := ⟨by rw [← hq_]; exact (by (with_reducible repeat (first | apply Kd.V_alloc | apply Kd.V_drewN | apply Kd.V_drew)); exact HO_9.out)⟩; have n1_ : Aside0 (wc.heap[gb986]? = some (.cells #[.int .i64 a0_0, .int .i64 a0_1, .int .i64 a0_2, .int .i64 a0_3, .slice A0_4 l0_4.length c0_4] 24 (0, 0))) := ⟨by rw [← hq_]; exact (by (with_reducible repeat (first | refine blk_drewN ?_ _ | refine blk_drew ?_ | refine blk_alloc ?_ _)); exact BK986.out)⟩; have n2_ : Aside0 (Below w.heap.size w wc) := ⟨by rw [← hq_]; exact (by repeat (first | (with_reducible first | exact HB.out | apply below_alloc | apply pw_below_drewN | apply below_drew1 | refine below_set ?_ GE986.out) | exact HB.out))⟩; clear HO_9 BK986 HB hq_; have HO_9 := n0_; have BK986 := n1_; have HB := n2_; clear n0_ n1_ n2_))
                have n0_ := Aside0.mk (Kd.V_drew HO_9.out)
                have n1_ := Aside0.mk (blk_drew BK986.out)
                have n2_ := Aside0.mk (below_drew1 HB.out)
                clear HO_9
                clear BK986
                clear HB
                have HO_9 := n0_
                have BK986 := n1_
                have HB := n2_
                clear n0_ n1_ n2_
                refine start_ (n := 8) (S := fun w' => w'.cell? ⟨gb986, 0, none⟩ = some (.int .i64 a0_0) ∧ w'.cell? ⟨gb986, 1, none⟩ = some (.int .i64 a0_1) ∧ w'.cell? ⟨gb986, 2, none⟩ = some (.int .i64 a0_2) ∧ w'.cell? ⟨gb986, 3, none⟩ = some (.int .i64 a0_3) ∧ w'.cell? ⟨gb986, 4, none⟩ = some (.slice A0_4 l0_4.length c0_4)) (ds := []) #[false, false, false, false, false, false, false, false] (by kernel_rfl) rfl rfl ⟨(blk_cell BK986.out 0).trans rfl, (blk_cell BK986.out 1).trans rfl, (blk_cell BK986.out 2).trans rfl, (blk_cell BK986.out 3).trans rfl, (blk_cell BK986.out 4).trans rfl⟩ (fun hHeld => ?_); refine with_tabW luciferlaw05_FillAsk.tab11 luciferlaw05_FillAsk.bits11 (fun HT_ HW_ => ?_)
                generalize wc.drew = w55 at HO_9 BK986 HB hHeld ⊢
                refine pure_ (i := 1) (N := some 72) (v := ?_) (a' := ?_) #[false, true, false, false, false, false, false, false] rfl rfl (any_of HT_.out (by kernel_rfl)) (fun _ _ _ h => h) (Or.inl ⟨by rfl, ?_⟩) ?_ ?_
                rotate_left
                · intro w'
                  go_simp
                  with_reducible rfl
                rotate_left
                · simp only [Act.put, List.setIfInBounds_toArray, List.set_cons_zero, List.set_cons_succ, i64_w, i32_w]
                  rfl
                refine pure_ (i := 4) (N := some 75) (v := ?_) (a' := ?_) #[false, true, false, false, true, false, false, false] rfl rfl (any_of HT_.out (by kernel_rfl)) (fun _ _ _ h => h) (Or.inl ⟨by rfl, ?_⟩) ?_ ?_
                rotate_left
                · intro w'
                  go_simp
                  with_reducible rfl
                rotate_left
                · simp only [Act.put, List.setIfInBounds_toArray, List.set_cons_zero, List.set_cons_succ, i64_w, i32_w]
                  rfl
                refine take_ (i := 0) (N := some 71) (v := ?_) (a' := ?_) #[true, true, false, false, true, false, false, false] rfl rfl (take_ofW HT_.out HW_.out (by kernel_rfl)) (fun _ _ _ h => h) (Or.inl ⟨by rfl, ?_⟩) hHeld ?_ ?_
                rotate_left
                · rintro w' ⟨s0, s1, s2, s3, s4⟩
                  go_simp
                  with_reducible rfl
                rotate_left
                · simp only [Act.put, List.setIfInBounds_toArray, List.set_cons_zero, List.set_cons_succ, i64_w, i32_w]
                  rfl
                refine take_ (i := 3) (N := some 74) (v := ?_) (a' := ?_) #[true, true, false, true, true, false, false, false] rfl rfl (take_ofW HT_.out HW_.out (by kernel_rfl)) (fun _ _ _ h => h) (Or.inl ⟨by rfl, ?_⟩) hHeld ?_ ?_
                rotate_left
                · rintro w' ⟨s0, s1, s2, s3, s4⟩
                  go_simp
                  with_reducible rfl
                rotate_left
                · simp only [Act.put, List.setIfInBounds_toArray, List.set_cons_zero, List.set_cons_succ, i64_w, i32_w]
                  rfl
                refine one_ (i := 2) (N := some 73) #[true, true, true, true, true, false, false, false] rfl rfl (one_of HT_.out (by kernel_rfl)) (by decide) (fun K hK => ?_)
                refine goes_ Tryd.func56 (by kernel_rfl) rfl #[.agg #[.int .i64 a0_0, .int .i64 a0_1, .int .i64 a0_2, .int .i64 a0_3, .slice A0_4 l0_4.length c0_4], .int .i64 t989] (by rfl) rfl rfl (by (try simp only [List.map_toArray, List.map_cons, List.map_nil]); first | done | rfl | (simp only [List.length_drop, List.length_take]; rfl)) ?_
                with_reducible refine (luciferlaw05_worst.calls a0_0 a0_1 a0_2 a0_3 _ _ l0_4 t989 t1002 _ ?side1 ?side2 ?side3 A49.out).mono ?_
                (case side1 => exact Fl.Laid.below HLd0.out (by repeat (first | (with_reducible first | exact HB.out | apply below_alloc | apply pw_below_drewN | apply below_drew1 | refine below_set ?_ GE986.out) | exact HB.out)))
                (case side2 => repeat (first | exact (Kd.C_below HR0_4.out HB.out) | (with_reducible refine Kd.C_alloc ?_ _) | (with_reducible refine Kd.C_drewN ?_ _) | (with_reducible refine Kd.C_drew ?_)))
                (case side3 => exact HC0_4.out)
                rintro e w56 ⟨rfl, hb⟩
                refine ⟨_, rfl, ?_⟩
                have n0_ := Aside0.mk (Kd.V_below (by (with_reducible repeat (first | apply Kd.V_alloc | apply Kd.V_drewN | apply Kd.V_drew)); exact HO_9.out) hb)
                have n1_ := Aside0.mk (blk_below (g := gb986) (o := .cells #[.int .i64 a0_0, .int .i64 a0_1, .int .i64 a0_2, .int .i64 a0_3, .slice A0_4 l0_4.length c0_4] 24 (0, 0)) (by (with_reducible repeat (first | refine blk_drewN ?_ _ | refine blk_drew ?_ | refine blk_alloc ?_ _)); exact BK986.out) hb)
                have n2_ := Aside0.mk (below_step (by repeat (first | (with_reducible first | exact HB.out | apply below_alloc | apply pw_below_drewN | apply below_drew1 | refine below_set ?_ GE986.out) | exact HB.out)) hb)
                clear HO_9
                clear BK986
                clear HB
                have HO_9 := n0_
                have BK986 := n1_
                have HB := n2_
                clear n0_ n1_ n2_
                (try clear hb)
                (try clear hb2)
                (try clear hk)
                (try clear hi)
                refine hK.out _ _ ⟨(blk_cell BK986.out 0).trans rfl, (blk_cell BK986.out 1).trans rfl, (blk_cell BK986.out 2).trans rfl, (blk_cell BK986.out 3).trans rfl, (blk_cell BK986.out 4).trans rfl⟩ (fun hHeld => ?_)
                clear hK K
                refine norm_ (a' := ?_) ?_ ?_
                rotate_left
                · show Act.put _ (some 73) _ = _
                  simp only [Act.put, List.setIfInBounds_toArray, List.set_cons_zero, List.set_cons_succ, i64_w, i32_w]
                  rfl
                refine one_ (i := 5) (N := some 76) #[true, true, true, true, true, true, false, false] rfl rfl (one_of HT_.out (by kernel_rfl)) (by decide) (fun K hK => ?_)
                refine goes_ Tryd.func56 (by kernel_rfl) rfl #[.agg #[.int .i64 a0_0, .int .i64 a0_1, .int .i64 a0_2, .int .i64 a0_3, .slice A0_4 l0_4.length c0_4], .int .i64 t1001] (by rfl) rfl rfl (by (try simp only [List.map_toArray, List.map_cons, List.map_nil]); first | done | rfl | (simp only [List.length_drop, List.length_take]; rfl)) ?_
                with_reducible refine (luciferlaw05_worst.calls a0_0 a0_1 a0_2 a0_3 _ _ l0_4 t1001 t1003 _ ?side1 ?side2 ?side3 A50.out).mono ?_
                (case side1 => exact Fl.Laid.below HLd0.out (by repeat (first | (with_reducible first | exact HB.out | apply below_alloc | apply pw_below_drewN | apply below_drew1 | refine below_set ?_ GE986.out) | exact HB.out)))
                (case side2 => repeat (first | exact (Kd.C_below HR0_4.out HB.out) | (with_reducible refine Kd.C_alloc ?_ _) | (with_reducible refine Kd.C_drewN ?_ _) | (with_reducible refine Kd.C_drew ?_)))
                (case side3 => exact HC0_4.out)
                rintro e w57 ⟨rfl, hb⟩
                refine ⟨_, rfl, ?_⟩
                have n0_ := Aside0.mk (Kd.V_below (by (with_reducible repeat (first | apply Kd.V_alloc | apply Kd.V_drewN | apply Kd.V_drew)); exact HO_9.out) hb)
                have n1_ := Aside0.mk (blk_below (g := gb986) (o := .cells #[.int .i64 a0_0, .int .i64 a0_1, .int .i64 a0_2, .int .i64 a0_3, .slice A0_4 l0_4.length c0_4] 24 (0, 0)) (by (with_reducible repeat (first | refine blk_drewN ?_ _ | refine blk_drew ?_ | refine blk_alloc ?_ _)); exact BK986.out) hb)
                have n2_ := Aside0.mk (below_step (by repeat (first | (with_reducible first | exact HB.out | apply below_alloc | apply pw_below_drewN | apply below_drew1 | refine below_set ?_ GE986.out) | exact HB.out)) hb)
                clear HO_9
                clear BK986
                clear HB
                have HO_9 := n0_
                have BK986 := n1_
                have HB := n2_
                clear n0_ n1_ n2_
                (try clear hb)
                (try clear hb2)
                (try clear hk)
                (try clear hi)
                refine hK.out _ _ ⟨(blk_cell BK986.out 0).trans rfl, (blk_cell BK986.out 1).trans rfl, (blk_cell BK986.out 2).trans rfl, (blk_cell BK986.out 3).trans rfl, (blk_cell BK986.out 4).trans rfl⟩ (fun hHeld => ?_)
                clear hK K
                refine norm_ (a' := ?_) ?_ ?_
                rotate_left
                · show Act.put _ (some 76) _ = _
                  simp only [Act.put, List.setIfInBounds_toArray, List.set_cons_zero, List.set_cons_succ, i64_w, i32_w]
                  rfl
                refine pure_ (i := 6) (N := some 12) (v := ?_) (a' := ?_) #[true, true, true, true, true, true, true, false] rfl rfl (any_of HT_.out (by kernel_rfl)) (fun _ _ _ h => h) (Or.inl ⟨by rfl, ?_⟩) ?_ ?_
                rotate_left
                · intro w'
                  go_simp
                  with_reducible rfl
                rotate_left
                · simp only [Act.put, List.setIfInBounds_toArray, List.set_cons_zero, List.set_cons_succ, i64_w, i32_w]
                  rfl
                refine pure_ (i := 7) (N := some 13) (v := ?_) (a' := ?_) #[true, true, true, true, true, true, true, true] rfl rfl (any_of HT_.out (by kernel_rfl)) (fun _ _ _ h => h) (Or.inl ⟨by rfl, ?_⟩) ?_ ?_
                rotate_left
                · intro w'
                  go_simp
                  with_reducible rfl
                rotate_left
                · simp only [Act.put, List.setIfInBounds_toArray, List.set_cons_zero, List.set_cons_succ, i64_w, i32_w]
                  rfl
                refine done_ (done_of HT_.out (by kernel_rfl)) ?_
                obtain ⟨Ao58, co58, eo58⟩ := Kd.V_slice HO_9.out
                subst eo58
                try go_wp2_with (first | (go_at_call 23; (with_reducible refine (luciferlaw05_filled.calls  t1004 _ ?side1 A53.out).mono ?_); (case side1 => exact Fl.Laid.below HLd0.out (by repeat (first | (with_reducible first | exact HB.out | apply below_alloc | apply pw_below_drewN | apply below_drew1 | refine below_set ?_ GE986.out) | exact HB.out))); rintro e w59 ⟨rfl, hb⟩; have n0_ := Aside0.mk (Kd.V_below (by (with_reducible repeat (first | apply Kd.V_alloc | apply Kd.V_drewN | apply Kd.V_drew)); exact HO_9.out) hb); have n1_ := Aside0.mk (blk_below (g := gb986) (o := .cells #[.int .i64 a0_0, .int .i64 a0_1, .int .i64 a0_2, .int .i64 a0_3, .slice A0_4 l0_4.length c0_4] 24 (0, 0)) (by (with_reducible repeat (first | refine blk_drewN ?_ _ | refine blk_drew ?_ | refine blk_alloc ?_ _)); exact BK986.out) hb); have n2_ := Aside0.mk (below_step (by repeat (first | (with_reducible first | exact HB.out | apply below_alloc | apply pw_below_drewN | apply below_drew1 | refine below_set ?_ GE986.out) | exact HB.out)) hb); clear HO_9; clear BK986; clear HB; have HO_9 := n0_; have BK986 := n1_; have HB := n2_; clear n0_ n1_ n2_; (try clear hb); (try clear hb2); (try clear hk); (try clear hi)))
                go_ret
                exact ⟨by first | rfl | (simp [errW_none, errW_some] <;> rfl) | (simp [*, errW_none, errW_some] <;> rfl), by repeat (first | (with_reducible first | exact HB.out | apply below_alloc | apply pw_below_drewN | apply below_drew1 | refine below_set ?_ GE986.out) | exact HB.out)⟩
              · rw [if_neg c52] at H
                have c52b0 : decide (t1002 < t1003) = false := decide_eq_false c52
                clear c52
                by_cases c60 : t1002 = t1003
                · rw [if_pos c60] at H
                  have c60b0 : (t1002 == t1003) = true := beq_iff_eq.mpr c60
                  have c60b1 : (t1002 != t1003) = false := bne_eq_false_iff_eq.mpr c60
                  clear c60
                  by_cases c61 : t989 ≤ t1001
                  · rw [if_pos c61] at H
                    have c61b0 : decide (t989 ≤ t1001) = true := decide_eq_true c61
                    clear c61
                    replace H := Option.bind_eq_some_iff.mp H
                    obtain ⟨t1005, A620, H⟩ := H
                    replace H : (some t1005) = some r := H
                    have A62 := Aside0.mk A620
                    clear A620
                    obtain rfl := Option.some.inj H
                    have hcz63_0 : wc.cell? ⟨gb986, 0, none⟩ = some (.int .i64 a0_0) := (blk_cell BK986.out 0).trans rfl
                    have hcz63_1 : wc.cell? ⟨gb986, 1, none⟩ = some (.int .i64 a0_1) := (blk_cell BK986.out 1).trans rfl
                    have hcz63_2 : wc.cell? ⟨gb986, 2, none⟩ = some (.int .i64 a0_2) := (blk_cell BK986.out 2).trans rfl
                    have hcz63_3 : wc.cell? ⟨gb986, 3, none⟩ = some (.int .i64 a0_3) := (blk_cell BK986.out 3).trans rfl
                    have hcz63_4 : wc.cell? ⟨gb986, 4, none⟩ = some (.slice A0_4 l0_4.length c0_4) := (blk_cell BK986.out 4).trans rfl
                    have hfz63_0 := blk_frozen BK986.out 0
                    have hfz63_1 := blk_frozen BK986.out 1
                    have hfz63_2 := blk_frozen BK986.out 2
                    have hfz63_3 := blk_frozen BK986.out 3
                    have hfz63_4 := blk_frozen BK986.out 4
                    try go_wp2_with (first | ((with_reducible refine gate_callee (f := 48) rfl ?_); refine goesL_ (some 70) rfl rfl Tryd.func48 (by kernel_rfl) rfl #[.int .i64 a1, .int .i64 (l0_4.length : Int)] rfl (by (try simp only [List.map_toArray, List.map_cons, List.map_nil]); first | done | rfl | (simp only [List.length_drop, List.length_take]; rfl)) ?_; (with_reducible refine (luciferref00_Spin.calls a1 (l0_4.length : Int) t1001 _ A48.out).mono ?_); rintro e w' ⟨rfl, ⟨nd, rfl⟩⟩; refine ⟨_, rfl, ?_⟩))
                    (try (rw [drewN_self wc]; generalize hq_ : World.drewN wc _ = wc; have n0_ : Aside0 (Kd.V (Kd.int .i64) 3 wc w.heap.size (fun k_ => k_ ≠ gb986) v997 t996) := ⟨by rw [← hq_]; exact (by (with_reducible repeat (first | apply Kd.V_alloc | apply Kd.V_drewN | apply Kd.V_drew)); exact HO_9.out)⟩; have n1_ : Aside0 (wc.heap[gb986]? = some (.cells #[.int .i64 a0_0, .int .i64 a0_1, .int .i64 a0_2, .int .i64 a0_3, .slice A0_4 l0_4.length c0_4] 24 (0, 0))) := ⟨by rw [← hq_]; exact (by (with_reducible repeat (first | refine blk_drewN ?_ _ | refine blk_drew ?_ | refine blk_alloc ?_ _)); exact BK986.out)⟩; have n2_ : Aside0 (Below w.heap.size w wc) := ⟨by rw [← hq_]; exact (by repeat (first | (with_reducible first | exact HB.out | apply below_alloc | apply pw_below_drewN | apply below_drew1 | refine below_set ?_ GE986.out) | exact HB.out))⟩; clear HO_9 BK986 HB hq_; have HO_9 := n0_; have BK986 := n1_; have HB := n2_; clear n0_ n1_ n2_))
                    have n0_ := Aside0.mk (Kd.V_drew HO_9.out)
                    have n1_ := Aside0.mk (blk_drew BK986.out)
                    have n2_ := Aside0.mk (below_drew1 HB.out)
                    clear HO_9
                    clear BK986
                    clear HB
                    have HO_9 := n0_
                    have BK986 := n1_
                    have HB := n2_
                    clear n0_ n1_ n2_
                    refine start_ (n := 8) (S := fun w' => w'.cell? ⟨gb986, 0, none⟩ = some (.int .i64 a0_0) ∧ w'.cell? ⟨gb986, 1, none⟩ = some (.int .i64 a0_1) ∧ w'.cell? ⟨gb986, 2, none⟩ = some (.int .i64 a0_2) ∧ w'.cell? ⟨gb986, 3, none⟩ = some (.int .i64 a0_3) ∧ w'.cell? ⟨gb986, 4, none⟩ = some (.slice A0_4 l0_4.length c0_4)) (ds := []) #[false, false, false, false, false, false, false, false] (by kernel_rfl) rfl rfl ⟨(blk_cell BK986.out 0).trans rfl, (blk_cell BK986.out 1).trans rfl, (blk_cell BK986.out 2).trans rfl, (blk_cell BK986.out 3).trans rfl, (blk_cell BK986.out 4).trans rfl⟩ (fun hHeld => ?_); refine with_tabW luciferlaw05_FillAsk.tab11 luciferlaw05_FillAsk.bits11 (fun HT_ HW_ => ?_)
                    generalize wc.drew = w64 at HO_9 BK986 HB hHeld ⊢
                    refine pure_ (i := 1) (N := some 72) (v := ?_) (a' := ?_) #[false, true, false, false, false, false, false, false] rfl rfl (any_of HT_.out (by kernel_rfl)) (fun _ _ _ h => h) (Or.inl ⟨by rfl, ?_⟩) ?_ ?_
                    rotate_left
                    · intro w'
                      go_simp
                      with_reducible rfl
                    rotate_left
                    · simp only [Act.put, List.setIfInBounds_toArray, List.set_cons_zero, List.set_cons_succ, i64_w, i32_w]
                      rfl
                    refine pure_ (i := 4) (N := some 75) (v := ?_) (a' := ?_) #[false, true, false, false, true, false, false, false] rfl rfl (any_of HT_.out (by kernel_rfl)) (fun _ _ _ h => h) (Or.inl ⟨by rfl, ?_⟩) ?_ ?_
                    rotate_left
                    · intro w'
                      go_simp
                      with_reducible rfl
                    rotate_left
                    · simp only [Act.put, List.setIfInBounds_toArray, List.set_cons_zero, List.set_cons_succ, i64_w, i32_w]
                      rfl
                    refine take_ (i := 0) (N := some 71) (v := ?_) (a' := ?_) #[true, true, false, false, true, false, false, false] rfl rfl (take_ofW HT_.out HW_.out (by kernel_rfl)) (fun _ _ _ h => h) (Or.inl ⟨by rfl, ?_⟩) hHeld ?_ ?_
                    rotate_left
                    · rintro w' ⟨s0, s1, s2, s3, s4⟩
                      go_simp
                      with_reducible rfl
                    rotate_left
                    · simp only [Act.put, List.setIfInBounds_toArray, List.set_cons_zero, List.set_cons_succ, i64_w, i32_w]
                      rfl
                    refine take_ (i := 3) (N := some 74) (v := ?_) (a' := ?_) #[true, true, false, true, true, false, false, false] rfl rfl (take_ofW HT_.out HW_.out (by kernel_rfl)) (fun _ _ _ h => h) (Or.inl ⟨by rfl, ?_⟩) hHeld ?_ ?_
                    rotate_left
                    · rintro w' ⟨s0, s1, s2, s3, s4⟩
                      go_simp
                      with_reducible rfl
                    rotate_left
                    · simp only [Act.put, List.setIfInBounds_toArray, List.set_cons_zero, List.set_cons_succ, i64_w, i32_w]
                      rfl
                    refine one_ (i := 2) (N := some 73) #[true, true, true, true, true, false, false, false] rfl rfl (one_of HT_.out (by kernel_rfl)) (by decide) (fun K hK => ?_)
                    refine goes_ Tryd.func56 (by kernel_rfl) rfl #[.agg #[.int .i64 a0_0, .int .i64 a0_1, .int .i64 a0_2, .int .i64 a0_3, .slice A0_4 l0_4.length c0_4], .int .i64 t989] (by rfl) rfl rfl (by (try simp only [List.map_toArray, List.map_cons, List.map_nil]); first | done | rfl | (simp only [List.length_drop, List.length_take]; rfl)) ?_
                    with_reducible refine (luciferlaw05_worst.calls a0_0 a0_1 a0_2 a0_3 _ _ l0_4 t989 t1002 _ ?side1 ?side2 ?side3 A49.out).mono ?_
                    (case side1 => exact Fl.Laid.below HLd0.out (by repeat (first | (with_reducible first | exact HB.out | apply below_alloc | apply pw_below_drewN | apply below_drew1 | refine below_set ?_ GE986.out) | exact HB.out)))
                    (case side2 => repeat (first | exact (Kd.C_below HR0_4.out HB.out) | (with_reducible refine Kd.C_alloc ?_ _) | (with_reducible refine Kd.C_drewN ?_ _) | (with_reducible refine Kd.C_drew ?_)))
                    (case side3 => exact HC0_4.out)
                    rintro e w65 ⟨rfl, hb⟩
                    refine ⟨_, rfl, ?_⟩
                    have n0_ := Aside0.mk (Kd.V_below (by (with_reducible repeat (first | apply Kd.V_alloc | apply Kd.V_drewN | apply Kd.V_drew)); exact HO_9.out) hb)
                    have n1_ := Aside0.mk (blk_below (g := gb986) (o := .cells #[.int .i64 a0_0, .int .i64 a0_1, .int .i64 a0_2, .int .i64 a0_3, .slice A0_4 l0_4.length c0_4] 24 (0, 0)) (by (with_reducible repeat (first | refine blk_drewN ?_ _ | refine blk_drew ?_ | refine blk_alloc ?_ _)); exact BK986.out) hb)
                    have n2_ := Aside0.mk (below_step (by repeat (first | (with_reducible first | exact HB.out | apply below_alloc | apply pw_below_drewN | apply below_drew1 | refine below_set ?_ GE986.out) | exact HB.out)) hb)
                    clear HO_9
                    clear BK986
                    clear HB
                    have HO_9 := n0_
                    have BK986 := n1_
                    have HB := n2_
                    clear n0_ n1_ n2_
                    (try clear hb)
                    (try clear hb2)
                    (try clear hk)
                    (try clear hi)
                    refine hK.out _ _ ⟨(blk_cell BK986.out 0).trans rfl, (blk_cell BK986.out 1).trans rfl, (blk_cell BK986.out 2).trans rfl, (blk_cell BK986.out 3).trans rfl, (blk_cell BK986.out 4).trans rfl⟩ (fun hHeld => ?_)
                    clear hK K
                    refine norm_ (a' := ?_) ?_ ?_
                    rotate_left
                    · show Act.put _ (some 73) _ = _
                      simp only [Act.put, List.setIfInBounds_toArray, List.set_cons_zero, List.set_cons_succ, i64_w, i32_w]
                      rfl
                    refine one_ (i := 5) (N := some 76) #[true, true, true, true, true, true, false, false] rfl rfl (one_of HT_.out (by kernel_rfl)) (by decide) (fun K hK => ?_)
                    refine goes_ Tryd.func56 (by kernel_rfl) rfl #[.agg #[.int .i64 a0_0, .int .i64 a0_1, .int .i64 a0_2, .int .i64 a0_3, .slice A0_4 l0_4.length c0_4], .int .i64 t1001] (by rfl) rfl rfl (by (try simp only [List.map_toArray, List.map_cons, List.map_nil]); first | done | rfl | (simp only [List.length_drop, List.length_take]; rfl)) ?_
                    with_reducible refine (luciferlaw05_worst.calls a0_0 a0_1 a0_2 a0_3 _ _ l0_4 t1001 t1003 _ ?side1 ?side2 ?side3 A50.out).mono ?_
                    (case side1 => exact Fl.Laid.below HLd0.out (by repeat (first | (with_reducible first | exact HB.out | apply below_alloc | apply pw_below_drewN | apply below_drew1 | refine below_set ?_ GE986.out) | exact HB.out)))
                    (case side2 => repeat (first | exact (Kd.C_below HR0_4.out HB.out) | (with_reducible refine Kd.C_alloc ?_ _) | (with_reducible refine Kd.C_drewN ?_ _) | (with_reducible refine Kd.C_drew ?_)))
                    (case side3 => exact HC0_4.out)
                    rintro e w66 ⟨rfl, hb⟩
                    refine ⟨_, rfl, ?_⟩
                    have n0_ := Aside0.mk (Kd.V_below (by (with_reducible repeat (first | apply Kd.V_alloc | apply Kd.V_drewN | apply Kd.V_drew)); exact HO_9.out) hb)
                    have n1_ := Aside0.mk (blk_below (g := gb986) (o := .cells #[.int .i64 a0_0, .int .i64 a0_1, .int .i64 a0_2, .int .i64 a0_3, .slice A0_4 l0_4.length c0_4] 24 (0, 0)) (by (with_reducible repeat (first | refine blk_drewN ?_ _ | refine blk_drew ?_ | refine blk_alloc ?_ _)); exact BK986.out) hb)
                    have n2_ := Aside0.mk (below_step (by repeat (first | (with_reducible first | exact HB.out | apply below_alloc | apply pw_below_drewN | apply below_drew1 | refine below_set ?_ GE986.out) | exact HB.out)) hb)
                    clear HO_9
                    clear BK986
                    clear HB
                    have HO_9 := n0_
                    have BK986 := n1_
                    have HB := n2_
                    clear n0_ n1_ n2_
                    (try clear hb)
                    (try clear hb2)
                    (try clear hk)
                    (try clear hi)
                    refine hK.out _ _ ⟨(blk_cell BK986.out 0).trans rfl, (blk_cell BK986.out 1).trans rfl, (blk_cell BK986.out 2).trans rfl, (blk_cell BK986.out 3).trans rfl, (blk_cell BK986.out 4).trans rfl⟩ (fun hHeld => ?_)
                    clear hK K
                    refine norm_ (a' := ?_) ?_ ?_
                    rotate_left
                    · show Act.put _ (some 76) _ = _
                      simp only [Act.put, List.setIfInBounds_toArray, List.set_cons_zero, List.set_cons_succ, i64_w, i32_w]
                      rfl
                    refine pure_ (i := 6) (N := some 12) (v := ?_) (a' := ?_) #[true, true, true, true, true, true, true, false] rfl rfl (any_of HT_.out (by kernel_rfl)) (fun _ _ _ h => h) (Or.inl ⟨by rfl, ?_⟩) ?_ ?_
                    rotate_left
                    · intro w'
                      go_simp
                      with_reducible rfl
                    rotate_left
                    · simp only [Act.put, List.setIfInBounds_toArray, List.set_cons_zero, List.set_cons_succ, i64_w, i32_w]
                      rfl
                    refine pure_ (i := 7) (N := some 13) (v := ?_) (a' := ?_) #[true, true, true, true, true, true, true, true] rfl rfl (any_of HT_.out (by kernel_rfl)) (fun _ _ _ h => h) (Or.inl ⟨by rfl, ?_⟩) ?_ ?_
                    rotate_left
                    · intro w'
                      go_simp
                      with_reducible rfl
                    rotate_left
                    · simp only [Act.put, List.setIfInBounds_toArray, List.set_cons_zero, List.set_cons_succ, i64_w, i32_w]
                      rfl
                    refine done_ (done_of HT_.out (by kernel_rfl)) ?_
                    obtain ⟨Ao67, co67, eo67⟩ := Kd.V_slice HO_9.out
                    subst eo67
                    try go_wp2_with (first | (go_at_call 23; (with_reducible refine (luciferlaw05_filled.calls  t1005 _ ?side1 A62.out).mono ?_); (case side1 => exact Fl.Laid.below HLd0.out (by repeat (first | (with_reducible first | exact HB.out | apply below_alloc | apply pw_below_drewN | apply below_drew1 | refine below_set ?_ GE986.out) | exact HB.out))); rintro e w68 ⟨rfl, hb⟩; have n0_ := Aside0.mk (Kd.V_below (by (with_reducible repeat (first | apply Kd.V_alloc | apply Kd.V_drewN | apply Kd.V_drew)); exact HO_9.out) hb); have n1_ := Aside0.mk (blk_below (g := gb986) (o := .cells #[.int .i64 a0_0, .int .i64 a0_1, .int .i64 a0_2, .int .i64 a0_3, .slice A0_4 l0_4.length c0_4] 24 (0, 0)) (by (with_reducible repeat (first | refine blk_drewN ?_ _ | refine blk_drew ?_ | refine blk_alloc ?_ _)); exact BK986.out) hb); have n2_ := Aside0.mk (below_step (by repeat (first | (with_reducible first | exact HB.out | apply below_alloc | apply pw_below_drewN | apply below_drew1 | refine below_set ?_ GE986.out) | exact HB.out)) hb); clear HO_9; clear BK986; clear HB; have HO_9 := n0_; have BK986 := n1_; have HB := n2_; clear n0_ n1_ n2_; (try clear hb); (try clear hb2); (try clear hk); (try clear hi)))
                    go_ret
                    exact ⟨by first | rfl | (simp [errW_none, errW_some] <;> rfl) | (simp [*, errW_none, errW_some] <;> rfl), by repeat (first | (with_reducible first | exact HB.out | apply below_alloc | apply pw_below_drewN | apply below_drew1 | refine below_set ?_ GE986.out) | exact HB.out)⟩
                  · rw [if_neg c61] at H
                    have c61b0 : decide (t989 ≤ t1001) = false := decide_eq_false c61
                    clear c61
                    obtain rfl := Option.some.inj H
                    have hcz69_0 : wc.cell? ⟨gb986, 0, none⟩ = some (.int .i64 a0_0) := (blk_cell BK986.out 0).trans rfl
                    have hcz69_1 : wc.cell? ⟨gb986, 1, none⟩ = some (.int .i64 a0_1) := (blk_cell BK986.out 1).trans rfl
                    have hcz69_2 : wc.cell? ⟨gb986, 2, none⟩ = some (.int .i64 a0_2) := (blk_cell BK986.out 2).trans rfl
                    have hcz69_3 : wc.cell? ⟨gb986, 3, none⟩ = some (.int .i64 a0_3) := (blk_cell BK986.out 3).trans rfl
                    have hcz69_4 : wc.cell? ⟨gb986, 4, none⟩ = some (.slice A0_4 l0_4.length c0_4) := (blk_cell BK986.out 4).trans rfl
                    have hfz69_0 := blk_frozen BK986.out 0
                    have hfz69_1 := blk_frozen BK986.out 1
                    have hfz69_2 := blk_frozen BK986.out 2
                    have hfz69_3 := blk_frozen BK986.out 3
                    have hfz69_4 := blk_frozen BK986.out 4
                    try go_wp2_with (first | ((with_reducible refine gate_callee (f := 48) rfl ?_); refine goesL_ (some 70) rfl rfl Tryd.func48 (by kernel_rfl) rfl #[.int .i64 a1, .int .i64 (l0_4.length : Int)] rfl (by (try simp only [List.map_toArray, List.map_cons, List.map_nil]); first | done | rfl | (simp only [List.length_drop, List.length_take]; rfl)) ?_; (with_reducible refine (luciferref00_Spin.calls a1 (l0_4.length : Int) t1001 _ A48.out).mono ?_); rintro e w' ⟨rfl, ⟨nd, rfl⟩⟩; refine ⟨_, rfl, ?_⟩))
                    (try (rw [drewN_self wc]; generalize hq_ : World.drewN wc _ = wc; have n0_ : Aside0 (Kd.V (Kd.int .i64) 3 wc w.heap.size (fun k_ => k_ ≠ gb986) v997 t996) := ⟨by rw [← hq_]; exact (by (with_reducible repeat (first | apply Kd.V_alloc | apply Kd.V_drewN | apply Kd.V_drew)); exact HO_9.out)⟩; have n1_ : Aside0 (wc.heap[gb986]? = some (.cells #[.int .i64 a0_0, .int .i64 a0_1, .int .i64 a0_2, .int .i64 a0_3, .slice A0_4 l0_4.length c0_4] 24 (0, 0))) := ⟨by rw [← hq_]; exact (by (with_reducible repeat (first | refine blk_drewN ?_ _ | refine blk_drew ?_ | refine blk_alloc ?_ _)); exact BK986.out)⟩; have n2_ : Aside0 (Below w.heap.size w wc) := ⟨by rw [← hq_]; exact (by repeat (first | (with_reducible first | exact HB.out | apply below_alloc | apply pw_below_drewN | apply below_drew1 | refine below_set ?_ GE986.out) | exact HB.out))⟩; clear HO_9 BK986 HB hq_; have HO_9 := n0_; have BK986 := n1_; have HB := n2_; clear n0_ n1_ n2_))
                    have n0_ := Aside0.mk (Kd.V_drew HO_9.out)
                    have n1_ := Aside0.mk (blk_drew BK986.out)
                    have n2_ := Aside0.mk (below_drew1 HB.out)
                    clear HO_9
                    clear BK986
                    clear HB
                    have HO_9 := n0_
                    have BK986 := n1_
                    have HB := n2_
                    clear n0_ n1_ n2_
                    refine start_ (n := 8) (S := fun w' => w'.cell? ⟨gb986, 0, none⟩ = some (.int .i64 a0_0) ∧ w'.cell? ⟨gb986, 1, none⟩ = some (.int .i64 a0_1) ∧ w'.cell? ⟨gb986, 2, none⟩ = some (.int .i64 a0_2) ∧ w'.cell? ⟨gb986, 3, none⟩ = some (.int .i64 a0_3) ∧ w'.cell? ⟨gb986, 4, none⟩ = some (.slice A0_4 l0_4.length c0_4)) (ds := []) #[false, false, false, false, false, false, false, false] (by kernel_rfl) rfl rfl ⟨(blk_cell BK986.out 0).trans rfl, (blk_cell BK986.out 1).trans rfl, (blk_cell BK986.out 2).trans rfl, (blk_cell BK986.out 3).trans rfl, (blk_cell BK986.out 4).trans rfl⟩ (fun hHeld => ?_); refine with_tabW luciferlaw05_FillAsk.tab11 luciferlaw05_FillAsk.bits11 (fun HT_ HW_ => ?_)
                    generalize wc.drew = w70 at HO_9 BK986 HB hHeld ⊢
                    refine pure_ (i := 1) (N := some 72) (v := ?_) (a' := ?_) #[false, true, false, false, false, false, false, false] rfl rfl (any_of HT_.out (by kernel_rfl)) (fun _ _ _ h => h) (Or.inl ⟨by rfl, ?_⟩) ?_ ?_
                    rotate_left
                    · intro w'
                      go_simp
                      with_reducible rfl
                    rotate_left
                    · simp only [Act.put, List.setIfInBounds_toArray, List.set_cons_zero, List.set_cons_succ, i64_w, i32_w]
                      rfl
                    refine pure_ (i := 4) (N := some 75) (v := ?_) (a' := ?_) #[false, true, false, false, true, false, false, false] rfl rfl (any_of HT_.out (by kernel_rfl)) (fun _ _ _ h => h) (Or.inl ⟨by rfl, ?_⟩) ?_ ?_
                    rotate_left
                    · intro w'
                      go_simp
                      with_reducible rfl
                    rotate_left
                    · simp only [Act.put, List.setIfInBounds_toArray, List.set_cons_zero, List.set_cons_succ, i64_w, i32_w]
                      rfl
                    refine take_ (i := 0) (N := some 71) (v := ?_) (a' := ?_) #[true, true, false, false, true, false, false, false] rfl rfl (take_ofW HT_.out HW_.out (by kernel_rfl)) (fun _ _ _ h => h) (Or.inl ⟨by rfl, ?_⟩) hHeld ?_ ?_
                    rotate_left
                    · rintro w' ⟨s0, s1, s2, s3, s4⟩
                      go_simp
                      with_reducible rfl
                    rotate_left
                    · simp only [Act.put, List.setIfInBounds_toArray, List.set_cons_zero, List.set_cons_succ, i64_w, i32_w]
                      rfl
                    refine take_ (i := 3) (N := some 74) (v := ?_) (a' := ?_) #[true, true, false, true, true, false, false, false] rfl rfl (take_ofW HT_.out HW_.out (by kernel_rfl)) (fun _ _ _ h => h) (Or.inl ⟨by rfl, ?_⟩) hHeld ?_ ?_
                    rotate_left
                    · rintro w' ⟨s0, s1, s2, s3, s4⟩
                      go_simp
                      with_reducible rfl
                    rotate_left
                    · simp only [Act.put, List.setIfInBounds_toArray, List.set_cons_zero, List.set_cons_succ, i64_w, i32_w]
                      rfl
                    refine one_ (i := 2) (N := some 73) #[true, true, true, true, true, false, false, false] rfl rfl (one_of HT_.out (by kernel_rfl)) (by decide) (fun K hK => ?_)
                    refine goes_ Tryd.func56 (by kernel_rfl) rfl #[.agg #[.int .i64 a0_0, .int .i64 a0_1, .int .i64 a0_2, .int .i64 a0_3, .slice A0_4 l0_4.length c0_4], .int .i64 t989] (by rfl) rfl rfl (by (try simp only [List.map_toArray, List.map_cons, List.map_nil]); first | done | rfl | (simp only [List.length_drop, List.length_take]; rfl)) ?_
                    with_reducible refine (luciferlaw05_worst.calls a0_0 a0_1 a0_2 a0_3 _ _ l0_4 t989 t1002 _ ?side1 ?side2 ?side3 A49.out).mono ?_
                    (case side1 => exact Fl.Laid.below HLd0.out (by repeat (first | (with_reducible first | exact HB.out | apply below_alloc | apply pw_below_drewN | apply below_drew1 | refine below_set ?_ GE986.out) | exact HB.out)))
                    (case side2 => repeat (first | exact (Kd.C_below HR0_4.out HB.out) | (with_reducible refine Kd.C_alloc ?_ _) | (with_reducible refine Kd.C_drewN ?_ _) | (with_reducible refine Kd.C_drew ?_)))
                    (case side3 => exact HC0_4.out)
                    rintro e w71 ⟨rfl, hb⟩
                    refine ⟨_, rfl, ?_⟩
                    have n0_ := Aside0.mk (Kd.V_below (by (with_reducible repeat (first | apply Kd.V_alloc | apply Kd.V_drewN | apply Kd.V_drew)); exact HO_9.out) hb)
                    have n1_ := Aside0.mk (blk_below (g := gb986) (o := .cells #[.int .i64 a0_0, .int .i64 a0_1, .int .i64 a0_2, .int .i64 a0_3, .slice A0_4 l0_4.length c0_4] 24 (0, 0)) (by (with_reducible repeat (first | refine blk_drewN ?_ _ | refine blk_drew ?_ | refine blk_alloc ?_ _)); exact BK986.out) hb)
                    have n2_ := Aside0.mk (below_step (by repeat (first | (with_reducible first | exact HB.out | apply below_alloc | apply pw_below_drewN | apply below_drew1 | refine below_set ?_ GE986.out) | exact HB.out)) hb)
                    clear HO_9
                    clear BK986
                    clear HB
                    have HO_9 := n0_
                    have BK986 := n1_
                    have HB := n2_
                    clear n0_ n1_ n2_
                    (try clear hb)
                    (try clear hb2)
                    (try clear hk)
                    (try clear hi)
                    refine hK.out _ _ ⟨(blk_cell BK986.out 0).trans rfl, (blk_cell BK986.out 1).trans rfl, (blk_cell BK986.out 2).trans rfl, (blk_cell BK986.out 3).trans rfl, (blk_cell BK986.out 4).trans rfl⟩ (fun hHeld => ?_)
                    clear hK K
                    refine norm_ (a' := ?_) ?_ ?_
                    rotate_left
                    · show Act.put _ (some 73) _ = _
                      simp only [Act.put, List.setIfInBounds_toArray, List.set_cons_zero, List.set_cons_succ, i64_w, i32_w]
                      rfl
                    refine one_ (i := 5) (N := some 76) #[true, true, true, true, true, true, false, false] rfl rfl (one_of HT_.out (by kernel_rfl)) (by decide) (fun K hK => ?_)
                    refine goes_ Tryd.func56 (by kernel_rfl) rfl #[.agg #[.int .i64 a0_0, .int .i64 a0_1, .int .i64 a0_2, .int .i64 a0_3, .slice A0_4 l0_4.length c0_4], .int .i64 t1001] (by rfl) rfl rfl (by (try simp only [List.map_toArray, List.map_cons, List.map_nil]); first | done | rfl | (simp only [List.length_drop, List.length_take]; rfl)) ?_
                    with_reducible refine (luciferlaw05_worst.calls a0_0 a0_1 a0_2 a0_3 _ _ l0_4 t1001 t1003 _ ?side1 ?side2 ?side3 A50.out).mono ?_
                    (case side1 => exact Fl.Laid.below HLd0.out (by repeat (first | (with_reducible first | exact HB.out | apply below_alloc | apply pw_below_drewN | apply below_drew1 | refine below_set ?_ GE986.out) | exact HB.out)))
                    (case side2 => repeat (first | exact (Kd.C_below HR0_4.out HB.out) | (with_reducible refine Kd.C_alloc ?_ _) | (with_reducible refine Kd.C_drewN ?_ _) | (with_reducible refine Kd.C_drew ?_)))
                    (case side3 => exact HC0_4.out)
                    rintro e w72 ⟨rfl, hb⟩
                    refine ⟨_, rfl, ?_⟩
                    have n0_ := Aside0.mk (Kd.V_below (by (with_reducible repeat (first | apply Kd.V_alloc | apply Kd.V_drewN | apply Kd.V_drew)); exact HO_9.out) hb)
                    have n1_ := Aside0.mk (blk_below (g := gb986) (o := .cells #[.int .i64 a0_0, .int .i64 a0_1, .int .i64 a0_2, .int .i64 a0_3, .slice A0_4 l0_4.length c0_4] 24 (0, 0)) (by (with_reducible repeat (first | refine blk_drewN ?_ _ | refine blk_drew ?_ | refine blk_alloc ?_ _)); exact BK986.out) hb)
                    have n2_ := Aside0.mk (below_step (by repeat (first | (with_reducible first | exact HB.out | apply below_alloc | apply pw_below_drewN | apply below_drew1 | refine below_set ?_ GE986.out) | exact HB.out)) hb)
                    clear HO_9
                    clear BK986
                    clear HB
                    have HO_9 := n0_
                    have BK986 := n1_
                    have HB := n2_
                    clear n0_ n1_ n2_
                    (try clear hb)
                    (try clear hb2)
                    (try clear hk)
                    (try clear hi)
                    refine hK.out _ _ ⟨(blk_cell BK986.out 0).trans rfl, (blk_cell BK986.out 1).trans rfl, (blk_cell BK986.out 2).trans rfl, (blk_cell BK986.out 3).trans rfl, (blk_cell BK986.out 4).trans rfl⟩ (fun hHeld => ?_)
                    clear hK K
                    refine norm_ (a' := ?_) ?_ ?_
                    rotate_left
                    · show Act.put _ (some 76) _ = _
                      simp only [Act.put, List.setIfInBounds_toArray, List.set_cons_zero, List.set_cons_succ, i64_w, i32_w]
                      rfl
                    refine pure_ (i := 6) (N := some 12) (v := ?_) (a' := ?_) #[true, true, true, true, true, true, true, false] rfl rfl (any_of HT_.out (by kernel_rfl)) (fun _ _ _ h => h) (Or.inl ⟨by rfl, ?_⟩) ?_ ?_
                    rotate_left
                    · intro w'
                      go_simp
                      with_reducible rfl
                    rotate_left
                    · simp only [Act.put, List.setIfInBounds_toArray, List.set_cons_zero, List.set_cons_succ, i64_w, i32_w]
                      rfl
                    refine pure_ (i := 7) (N := some 13) (v := ?_) (a' := ?_) #[true, true, true, true, true, true, true, true] rfl rfl (any_of HT_.out (by kernel_rfl)) (fun _ _ _ h => h) (Or.inl ⟨by rfl, ?_⟩) ?_ ?_
                    rotate_left
                    · intro w'
                      go_simp
                      with_reducible rfl
                    rotate_left
                    · simp only [Act.put, List.setIfInBounds_toArray, List.set_cons_zero, List.set_cons_succ, i64_w, i32_w]
                      rfl
                    refine done_ (done_of HT_.out (by kernel_rfl)) ?_
                    obtain ⟨Ao73, co73, eo73⟩ := Kd.V_slice HO_9.out
                    subst eo73
                    try go_wp2
                    go_ret
                    exact ⟨by first | rfl | (simp [errW_none, errW_some] <;> rfl) | (simp [*, errW_none, errW_some] <;> rfl), by repeat (first | (with_reducible first | exact HB.out | apply below_alloc | apply pw_below_drewN | apply below_drew1 | refine below_set ?_ GE986.out) | exact HB.out)⟩
                · rw [if_neg c60] at H
                  have c60b0 : (t1002 == t1003) = false := beq_eq_false_iff_ne.mpr c60
                  have c60b1 : (t1002 != t1003) = true := bne_iff_ne.mpr c60
                  obtain rfl := Option.some.inj H
                  have hcz74_0 : wc.cell? ⟨gb986, 0, none⟩ = some (.int .i64 a0_0) := (blk_cell BK986.out 0).trans rfl
                  have hcz74_1 : wc.cell? ⟨gb986, 1, none⟩ = some (.int .i64 a0_1) := (blk_cell BK986.out 1).trans rfl
                  have hcz74_2 : wc.cell? ⟨gb986, 2, none⟩ = some (.int .i64 a0_2) := (blk_cell BK986.out 2).trans rfl
                  have hcz74_3 : wc.cell? ⟨gb986, 3, none⟩ = some (.int .i64 a0_3) := (blk_cell BK986.out 3).trans rfl
                  have hcz74_4 : wc.cell? ⟨gb986, 4, none⟩ = some (.slice A0_4 l0_4.length c0_4) := (blk_cell BK986.out 4).trans rfl
                  have hfz74_0 := blk_frozen BK986.out 0
                  have hfz74_1 := blk_frozen BK986.out 1
                  have hfz74_2 := blk_frozen BK986.out 2
                  have hfz74_3 := blk_frozen BK986.out 3
                  have hfz74_4 := blk_frozen BK986.out 4
                  try go_wp2_with (first | ((with_reducible refine gate_callee (f := 48) rfl ?_); refine goesL_ (some 70) rfl rfl Tryd.func48 (by kernel_rfl) rfl #[.int .i64 a1, .int .i64 (l0_4.length : Int)] rfl (by (try simp only [List.map_toArray, List.map_cons, List.map_nil]); first | done | rfl | (simp only [List.length_drop, List.length_take]; rfl)) ?_; (with_reducible refine (luciferref00_Spin.calls a1 (l0_4.length : Int) t1001 _ A48.out).mono ?_); rintro e w' ⟨rfl, ⟨nd, rfl⟩⟩; refine ⟨_, rfl, ?_⟩))
                  (try (rw [drewN_self wc]; generalize hq_ : World.drewN wc _ = wc; have n0_ : Aside0 (Kd.V (Kd.int .i64) 3 wc w.heap.size (fun k_ => k_ ≠ gb986) v997 t996) := ⟨by rw [← hq_]; exact (by (with_reducible repeat (first | apply Kd.V_alloc | apply Kd.V_drewN | apply Kd.V_drew)); exact HO_9.out)⟩; have n1_ : Aside0 (wc.heap[gb986]? = some (.cells #[.int .i64 a0_0, .int .i64 a0_1, .int .i64 a0_2, .int .i64 a0_3, .slice A0_4 l0_4.length c0_4] 24 (0, 0))) := ⟨by rw [← hq_]; exact (by (with_reducible repeat (first | refine blk_drewN ?_ _ | refine blk_drew ?_ | refine blk_alloc ?_ _)); exact BK986.out)⟩; have n2_ : Aside0 (Below w.heap.size w wc) := ⟨by rw [← hq_]; exact (by repeat (first | (with_reducible first | exact HB.out | apply below_alloc | apply pw_below_drewN | apply below_drew1 | refine below_set ?_ GE986.out) | exact HB.out))⟩; clear HO_9 BK986 HB hq_; have HO_9 := n0_; have BK986 := n1_; have HB := n2_; clear n0_ n1_ n2_))
                  have n0_ := Aside0.mk (Kd.V_drew HO_9.out)
                  have n1_ := Aside0.mk (blk_drew BK986.out)
                  have n2_ := Aside0.mk (below_drew1 HB.out)
                  clear HO_9
                  clear BK986
                  clear HB
                  have HO_9 := n0_
                  have BK986 := n1_
                  have HB := n2_
                  clear n0_ n1_ n2_
                  refine start_ (n := 8) (S := fun w' => w'.cell? ⟨gb986, 0, none⟩ = some (.int .i64 a0_0) ∧ w'.cell? ⟨gb986, 1, none⟩ = some (.int .i64 a0_1) ∧ w'.cell? ⟨gb986, 2, none⟩ = some (.int .i64 a0_2) ∧ w'.cell? ⟨gb986, 3, none⟩ = some (.int .i64 a0_3) ∧ w'.cell? ⟨gb986, 4, none⟩ = some (.slice A0_4 l0_4.length c0_4)) (ds := []) #[false, false, false, false, false, false, false, false] (by kernel_rfl) rfl rfl ⟨(blk_cell BK986.out 0).trans rfl, (blk_cell BK986.out 1).trans rfl, (blk_cell BK986.out 2).trans rfl, (blk_cell BK986.out 3).trans rfl, (blk_cell BK986.out 4).trans rfl⟩ (fun hHeld => ?_); refine with_tabW luciferlaw05_FillAsk.tab11 luciferlaw05_FillAsk.bits11 (fun HT_ HW_ => ?_)
                  generalize wc.drew = w75 at HO_9 BK986 HB hHeld ⊢
                  refine pure_ (i := 1) (N := some 72) (v := ?_) (a' := ?_) #[false, true, false, false, false, false, false, false] rfl rfl (any_of HT_.out (by kernel_rfl)) (fun _ _ _ h => h) (Or.inl ⟨by rfl, ?_⟩) ?_ ?_
                  rotate_left
                  · intro w'
                    go_simp
                    with_reducible rfl
                  rotate_left
                  · simp only [Act.put, List.setIfInBounds_toArray, List.set_cons_zero, List.set_cons_succ, i64_w, i32_w]
                    rfl
                  refine pure_ (i := 4) (N := some 75) (v := ?_) (a' := ?_) #[false, true, false, false, true, false, false, false] rfl rfl (any_of HT_.out (by kernel_rfl)) (fun _ _ _ h => h) (Or.inl ⟨by rfl, ?_⟩) ?_ ?_
                  rotate_left
                  · intro w'
                    go_simp
                    with_reducible rfl
                  rotate_left
                  · simp only [Act.put, List.setIfInBounds_toArray, List.set_cons_zero, List.set_cons_succ, i64_w, i32_w]
                    rfl
                  refine take_ (i := 0) (N := some 71) (v := ?_) (a' := ?_) #[true, true, false, false, true, false, false, false] rfl rfl (take_ofW HT_.out HW_.out (by kernel_rfl)) (fun _ _ _ h => h) (Or.inl ⟨by rfl, ?_⟩) hHeld ?_ ?_
                  rotate_left
                  · rintro w' ⟨s0, s1, s2, s3, s4⟩
                    go_simp
                    with_reducible rfl
                  rotate_left
                  · simp only [Act.put, List.setIfInBounds_toArray, List.set_cons_zero, List.set_cons_succ, i64_w, i32_w]
                    rfl
                  refine take_ (i := 3) (N := some 74) (v := ?_) (a' := ?_) #[true, true, false, true, true, false, false, false] rfl rfl (take_ofW HT_.out HW_.out (by kernel_rfl)) (fun _ _ _ h => h) (Or.inl ⟨by rfl, ?_⟩) hHeld ?_ ?_
                  rotate_left
                  · rintro w' ⟨s0, s1, s2, s3, s4⟩
                    go_simp
                    with_reducible rfl
                  rotate_left
                  · simp only [Act.put, List.setIfInBounds_toArray, List.set_cons_zero, List.set_cons_succ, i64_w, i32_w]
                    rfl
                  refine one_ (i := 2) (N := some 73) #[true, true, true, true, true, false, false, false] rfl rfl (one_of HT_.out (by kernel_rfl)) (by decide) (fun K hK => ?_)
                  refine goes_ Tryd.func56 (by kernel_rfl) rfl #[.agg #[.int .i64 a0_0, .int .i64 a0_1, .int .i64 a0_2, .int .i64 a0_3, .slice A0_4 l0_4.length c0_4], .int .i64 t989] (by rfl) rfl rfl (by (try simp only [List.map_toArray, List.map_cons, List.map_nil]); first | done | rfl | (simp only [List.length_drop, List.length_take]; rfl)) ?_
                  with_reducible refine (luciferlaw05_worst.calls a0_0 a0_1 a0_2 a0_3 _ _ l0_4 t989 t1002 _ ?side1 ?side2 ?side3 A49.out).mono ?_
                  (case side1 => exact Fl.Laid.below HLd0.out (by repeat (first | (with_reducible first | exact HB.out | apply below_alloc | apply pw_below_drewN | apply below_drew1 | refine below_set ?_ GE986.out) | exact HB.out)))
                  (case side2 => repeat (first | exact (Kd.C_below HR0_4.out HB.out) | (with_reducible refine Kd.C_alloc ?_ _) | (with_reducible refine Kd.C_drewN ?_ _) | (with_reducible refine Kd.C_drew ?_)))
                  (case side3 => exact HC0_4.out)
                  rintro e w76 ⟨rfl, hb⟩
                  refine ⟨_, rfl, ?_⟩
                  have n0_ := Aside0.mk (Kd.V_below (by (with_reducible repeat (first | apply Kd.V_alloc | apply Kd.V_drewN | apply Kd.V_drew)); exact HO_9.out) hb)
                  have n1_ := Aside0.mk (blk_below (g := gb986) (o := .cells #[.int .i64 a0_0, .int .i64 a0_1, .int .i64 a0_2, .int .i64 a0_3, .slice A0_4 l0_4.length c0_4] 24 (0, 0)) (by (with_reducible repeat (first | refine blk_drewN ?_ _ | refine blk_drew ?_ | refine blk_alloc ?_ _)); exact BK986.out) hb)
                  have n2_ := Aside0.mk (below_step (by repeat (first | (with_reducible first | exact HB.out | apply below_alloc | apply pw_below_drewN | apply below_drew1 | refine below_set ?_ GE986.out) | exact HB.out)) hb)
                  clear HO_9
                  clear BK986
                  clear HB
                  have HO_9 := n0_
                  have BK986 := n1_
                  have HB := n2_
                  clear n0_ n1_ n2_
                  (try clear hb)
                  (try clear hb2)
                  (try clear hk)
                  (try clear hi)
                  refine hK.out _ _ ⟨(blk_cell BK986.out 0).trans rfl, (blk_cell BK986.out 1).trans rfl, (blk_cell BK986.out 2).trans rfl, (blk_cell BK986.out 3).trans rfl, (blk_cell BK986.out 4).trans rfl⟩ (fun hHeld => ?_)
                  clear hK K
                  refine norm_ (a' := ?_) ?_ ?_
                  rotate_left
                  · show Act.put _ (some 73) _ = _
                    simp only [Act.put, List.setIfInBounds_toArray, List.set_cons_zero, List.set_cons_succ, i64_w, i32_w]
                    rfl
                  refine one_ (i := 5) (N := some 76) #[true, true, true, true, true, true, false, false] rfl rfl (one_of HT_.out (by kernel_rfl)) (by decide) (fun K hK => ?_)
                  refine goes_ Tryd.func56 (by kernel_rfl) rfl #[.agg #[.int .i64 a0_0, .int .i64 a0_1, .int .i64 a0_2, .int .i64 a0_3, .slice A0_4 l0_4.length c0_4], .int .i64 t1001] (by rfl) rfl rfl (by (try simp only [List.map_toArray, List.map_cons, List.map_nil]); first | done | rfl | (simp only [List.length_drop, List.length_take]; rfl)) ?_
                  with_reducible refine (luciferlaw05_worst.calls a0_0 a0_1 a0_2 a0_3 _ _ l0_4 t1001 t1003 _ ?side1 ?side2 ?side3 A50.out).mono ?_
                  (case side1 => exact Fl.Laid.below HLd0.out (by repeat (first | (with_reducible first | exact HB.out | apply below_alloc | apply pw_below_drewN | apply below_drew1 | refine below_set ?_ GE986.out) | exact HB.out)))
                  (case side2 => repeat (first | exact (Kd.C_below HR0_4.out HB.out) | (with_reducible refine Kd.C_alloc ?_ _) | (with_reducible refine Kd.C_drewN ?_ _) | (with_reducible refine Kd.C_drew ?_)))
                  (case side3 => exact HC0_4.out)
                  rintro e w77 ⟨rfl, hb⟩
                  refine ⟨_, rfl, ?_⟩
                  have n0_ := Aside0.mk (Kd.V_below (by (with_reducible repeat (first | apply Kd.V_alloc | apply Kd.V_drewN | apply Kd.V_drew)); exact HO_9.out) hb)
                  have n1_ := Aside0.mk (blk_below (g := gb986) (o := .cells #[.int .i64 a0_0, .int .i64 a0_1, .int .i64 a0_2, .int .i64 a0_3, .slice A0_4 l0_4.length c0_4] 24 (0, 0)) (by (with_reducible repeat (first | refine blk_drewN ?_ _ | refine blk_drew ?_ | refine blk_alloc ?_ _)); exact BK986.out) hb)
                  have n2_ := Aside0.mk (below_step (by repeat (first | (with_reducible first | exact HB.out | apply below_alloc | apply pw_below_drewN | apply below_drew1 | refine below_set ?_ GE986.out) | exact HB.out)) hb)
                  clear HO_9
                  clear BK986
                  clear HB
                  have HO_9 := n0_
                  have BK986 := n1_
                  have HB := n2_
                  clear n0_ n1_ n2_
                  (try clear hb)
                  (try clear hb2)
                  (try clear hk)
                  (try clear hi)
                  refine hK.out _ _ ⟨(blk_cell BK986.out 0).trans rfl, (blk_cell BK986.out 1).trans rfl, (blk_cell BK986.out 2).trans rfl, (blk_cell BK986.out 3).trans rfl, (blk_cell BK986.out 4).trans rfl⟩ (fun hHeld => ?_)
                  clear hK K
                  refine norm_ (a' := ?_) ?_ ?_
                  rotate_left
                  · show Act.put _ (some 76) _ = _
                    simp only [Act.put, List.setIfInBounds_toArray, List.set_cons_zero, List.set_cons_succ, i64_w, i32_w]
                    rfl
                  refine pure_ (i := 6) (N := some 12) (v := ?_) (a' := ?_) #[true, true, true, true, true, true, true, false] rfl rfl (any_of HT_.out (by kernel_rfl)) (fun _ _ _ h => h) (Or.inl ⟨by rfl, ?_⟩) ?_ ?_
                  rotate_left
                  · intro w'
                    go_simp
                    with_reducible rfl
                  rotate_left
                  · simp only [Act.put, List.setIfInBounds_toArray, List.set_cons_zero, List.set_cons_succ, i64_w, i32_w]
                    rfl
                  refine pure_ (i := 7) (N := some 13) (v := ?_) (a' := ?_) #[true, true, true, true, true, true, true, true] rfl rfl (any_of HT_.out (by kernel_rfl)) (fun _ _ _ h => h) (Or.inl ⟨by rfl, ?_⟩) ?_ ?_
                  rotate_left
                  · intro w'
                    go_simp
                    with_reducible rfl
                  rotate_left
                  · simp only [Act.put, List.setIfInBounds_toArray, List.set_cons_zero, List.set_cons_succ, i64_w, i32_w]
                    rfl
                  refine done_ (done_of HT_.out (by kernel_rfl)) ?_
                  obtain ⟨Ao78, co78, eo78⟩ := Kd.V_slice HO_9.out
                  subst eo78
                  try go_wp2
                  go_ret
                  exact ⟨by first | rfl | (simp [errW_none, errW_some] <;> rfl) | (simp [*, errW_none, errW_some] <;> rfl), by repeat (first | (with_reducible first | exact HB.out | apply below_alloc | apply pw_below_drewN | apply below_drew1 | refine below_set ?_ GE986.out) | exact HB.out)⟩
            · rw [if_neg c51] at H
              have c51b0 : decide (t1002 ≤ (t996.length : Int)) = false := decide_eq_false c51
              clear c51
              obtain rfl := Option.some.inj H
              have hcz79_0 : wc.cell? ⟨gb986, 0, none⟩ = some (.int .i64 a0_0) := (blk_cell BK986.out 0).trans rfl
              have hcz79_1 : wc.cell? ⟨gb986, 1, none⟩ = some (.int .i64 a0_1) := (blk_cell BK986.out 1).trans rfl
              have hcz79_2 : wc.cell? ⟨gb986, 2, none⟩ = some (.int .i64 a0_2) := (blk_cell BK986.out 2).trans rfl
              have hcz79_3 : wc.cell? ⟨gb986, 3, none⟩ = some (.int .i64 a0_3) := (blk_cell BK986.out 3).trans rfl
              have hcz79_4 : wc.cell? ⟨gb986, 4, none⟩ = some (.slice A0_4 l0_4.length c0_4) := (blk_cell BK986.out 4).trans rfl
              have hfz79_0 := blk_frozen BK986.out 0
              have hfz79_1 := blk_frozen BK986.out 1
              have hfz79_2 := blk_frozen BK986.out 2
              have hfz79_3 := blk_frozen BK986.out 3
              have hfz79_4 := blk_frozen BK986.out 4
              try go_wp2_with (first | ((with_reducible refine gate_callee (f := 48) rfl ?_); refine goesL_ (some 70) rfl rfl Tryd.func48 (by kernel_rfl) rfl #[.int .i64 a1, .int .i64 (l0_4.length : Int)] rfl (by (try simp only [List.map_toArray, List.map_cons, List.map_nil]); first | done | rfl | (simp only [List.length_drop, List.length_take]; rfl)) ?_; (with_reducible refine (luciferref00_Spin.calls a1 (l0_4.length : Int) t1001 _ A48.out).mono ?_); rintro e w' ⟨rfl, ⟨nd, rfl⟩⟩; refine ⟨_, rfl, ?_⟩))
              (try (rw [drewN_self wc]; generalize hq_ : World.drewN wc _ = wc; have n0_ : Aside0 (Kd.V (Kd.int .i64) 3 wc w.heap.size (fun k_ => k_ ≠ gb986) v997 t996) := ⟨by rw [← hq_]; exact (by (with_reducible repeat (first | apply Kd.V_alloc | apply Kd.V_drewN | apply Kd.V_drew)); exact HO_9.out)⟩; have n1_ : Aside0 (wc.heap[gb986]? = some (.cells #[.int .i64 a0_0, .int .i64 a0_1, .int .i64 a0_2, .int .i64 a0_3, .slice A0_4 l0_4.length c0_4] 24 (0, 0))) := ⟨by rw [← hq_]; exact (by (with_reducible repeat (first | refine blk_drewN ?_ _ | refine blk_drew ?_ | refine blk_alloc ?_ _)); exact BK986.out)⟩; have n2_ : Aside0 (Below w.heap.size w wc) := ⟨by rw [← hq_]; exact (by repeat (first | (with_reducible first | exact HB.out | apply below_alloc | apply pw_below_drewN | apply below_drew1 | refine below_set ?_ GE986.out) | exact HB.out))⟩; clear HO_9 BK986 HB hq_; have HO_9 := n0_; have BK986 := n1_; have HB := n2_; clear n0_ n1_ n2_))
              have n0_ := Aside0.mk (Kd.V_drew HO_9.out)
              have n1_ := Aside0.mk (blk_drew BK986.out)
              have n2_ := Aside0.mk (below_drew1 HB.out)
              clear HO_9
              clear BK986
              clear HB
              have HO_9 := n0_
              have BK986 := n1_
              have HB := n2_
              clear n0_ n1_ n2_
              refine start_ (n := 8) (S := fun w' => w'.cell? ⟨gb986, 0, none⟩ = some (.int .i64 a0_0) ∧ w'.cell? ⟨gb986, 1, none⟩ = some (.int .i64 a0_1) ∧ w'.cell? ⟨gb986, 2, none⟩ = some (.int .i64 a0_2) ∧ w'.cell? ⟨gb986, 3, none⟩ = some (.int .i64 a0_3) ∧ w'.cell? ⟨gb986, 4, none⟩ = some (.slice A0_4 l0_4.length c0_4)) (ds := []) #[false, false, false, false, false, false, false, false] (by kernel_rfl) rfl rfl ⟨(blk_cell BK986.out 0).trans rfl, (blk_cell BK986.out 1).trans rfl, (blk_cell BK986.out 2).trans rfl, (blk_cell BK986.out 3).trans rfl, (blk_cell BK986.out 4).trans rfl⟩ (fun hHeld => ?_); refine with_tabW luciferlaw05_FillAsk.tab11 luciferlaw05_FillAsk.bits11 (fun HT_ HW_ => ?_)
              generalize wc.drew = w80 at HO_9 BK986 HB hHeld ⊢
              refine pure_ (i := 1) (N := some 72) (v := ?_) (a' := ?_) #[false, true, false, false, false, false, false, false] rfl rfl (any_of HT_.out (by kernel_rfl)) (fun _ _ _ h => h) (Or.inl ⟨by rfl, ?_⟩) ?_ ?_
              rotate_left
              · intro w'
                go_simp
                with_reducible rfl
              rotate_left
              · simp only [Act.put, List.setIfInBounds_toArray, List.set_cons_zero, List.set_cons_succ, i64_w, i32_w]
                rfl
              refine pure_ (i := 4) (N := some 75) (v := ?_) (a' := ?_) #[false, true, false, false, true, false, false, false] rfl rfl (any_of HT_.out (by kernel_rfl)) (fun _ _ _ h => h) (Or.inl ⟨by rfl, ?_⟩) ?_ ?_
              rotate_left
              · intro w'
                go_simp
                with_reducible rfl
              rotate_left
              · simp only [Act.put, List.setIfInBounds_toArray, List.set_cons_zero, List.set_cons_succ, i64_w, i32_w]
                rfl
              refine take_ (i := 0) (N := some 71) (v := ?_) (a' := ?_) #[true, true, false, false, true, false, false, false] rfl rfl (take_ofW HT_.out HW_.out (by kernel_rfl)) (fun _ _ _ h => h) (Or.inl ⟨by rfl, ?_⟩) hHeld ?_ ?_
              rotate_left
              · rintro w' ⟨s0, s1, s2, s3, s4⟩
                go_simp
                with_reducible rfl
              rotate_left
              · simp only [Act.put, List.setIfInBounds_toArray, List.set_cons_zero, List.set_cons_succ, i64_w, i32_w]
                rfl
              refine take_ (i := 3) (N := some 74) (v := ?_) (a' := ?_) #[true, true, false, true, true, false, false, false] rfl rfl (take_ofW HT_.out HW_.out (by kernel_rfl)) (fun _ _ _ h => h) (Or.inl ⟨by rfl, ?_⟩) hHeld ?_ ?_
              rotate_left
              · rintro w' ⟨s0, s1, s2, s3, s4⟩
                go_simp
                with_reducible rfl
              rotate_left
              · simp only [Act.put, List.setIfInBounds_toArray, List.set_cons_zero, List.set_cons_succ, i64_w, i32_w]
                rfl
              refine one_ (i := 2) (N := some 73) #[true, true, true, true, true, false, false, false] rfl rfl (one_of HT_.out (by kernel_rfl)) (by decide) (fun K hK => ?_)
              refine goes_ Tryd.func56 (by kernel_rfl) rfl #[.agg #[.int .i64 a0_0, .int .i64 a0_1, .int .i64 a0_2, .int .i64 a0_3, .slice A0_4 l0_4.length c0_4], .int .i64 t989] (by rfl) rfl rfl (by (try simp only [List.map_toArray, List.map_cons, List.map_nil]); first | done | rfl | (simp only [List.length_drop, List.length_take]; rfl)) ?_
              with_reducible refine (luciferlaw05_worst.calls a0_0 a0_1 a0_2 a0_3 _ _ l0_4 t989 t1002 _ ?side1 ?side2 ?side3 A49.out).mono ?_
              (case side1 => exact Fl.Laid.below HLd0.out (by repeat (first | (with_reducible first | exact HB.out | apply below_alloc | apply pw_below_drewN | apply below_drew1 | refine below_set ?_ GE986.out) | exact HB.out)))
              (case side2 => repeat (first | exact (Kd.C_below HR0_4.out HB.out) | (with_reducible refine Kd.C_alloc ?_ _) | (with_reducible refine Kd.C_drewN ?_ _) | (with_reducible refine Kd.C_drew ?_)))
              (case side3 => exact HC0_4.out)
              rintro e w81 ⟨rfl, hb⟩
              refine ⟨_, rfl, ?_⟩
              have n0_ := Aside0.mk (Kd.V_below (by (with_reducible repeat (first | apply Kd.V_alloc | apply Kd.V_drewN | apply Kd.V_drew)); exact HO_9.out) hb)
              have n1_ := Aside0.mk (blk_below (g := gb986) (o := .cells #[.int .i64 a0_0, .int .i64 a0_1, .int .i64 a0_2, .int .i64 a0_3, .slice A0_4 l0_4.length c0_4] 24 (0, 0)) (by (with_reducible repeat (first | refine blk_drewN ?_ _ | refine blk_drew ?_ | refine blk_alloc ?_ _)); exact BK986.out) hb)
              have n2_ := Aside0.mk (below_step (by repeat (first | (with_reducible first | exact HB.out | apply below_alloc | apply pw_below_drewN | apply below_drew1 | refine below_set ?_ GE986.out) | exact HB.out)) hb)
              clear HO_9
              clear BK986
              clear HB
              have HO_9 := n0_
              have BK986 := n1_
              have HB := n2_
              clear n0_ n1_ n2_
              (try clear hb)
              (try clear hb2)
              (try clear hk)
              (try clear hi)
              refine hK.out _ _ ⟨(blk_cell BK986.out 0).trans rfl, (blk_cell BK986.out 1).trans rfl, (blk_cell BK986.out 2).trans rfl, (blk_cell BK986.out 3).trans rfl, (blk_cell BK986.out 4).trans rfl⟩ (fun hHeld => ?_)
              clear hK K
              refine norm_ (a' := ?_) ?_ ?_
              rotate_left
              · show Act.put _ (some 73) _ = _
                simp only [Act.put, List.setIfInBounds_toArray, List.set_cons_zero, List.set_cons_succ, i64_w, i32_w]
                rfl
              refine one_ (i := 5) (N := some 76) #[true, true, true, true, true, true, false, false] rfl rfl (one_of HT_.out (by kernel_rfl)) (by decide) (fun K hK => ?_)
              refine goes_ Tryd.func56 (by kernel_rfl) rfl #[.agg #[.int .i64 a0_0, .int .i64 a0_1, .int .i64 a0_2, .int .i64 a0_3, .slice A0_4 l0_4.length c0_4], .int .i64 t1001] (by rfl) rfl rfl (by (try simp only [List.map_toArray, List.map_cons, List.map_nil]); first | done | rfl | (simp only [List.length_drop, List.length_take]; rfl)) ?_
              with_reducible refine (luciferlaw05_worst.calls a0_0 a0_1 a0_2 a0_3 _ _ l0_4 t1001 t1003 _ ?side1 ?side2 ?side3 A50.out).mono ?_
              (case side1 => exact Fl.Laid.below HLd0.out (by repeat (first | (with_reducible first | exact HB.out | apply below_alloc | apply pw_below_drewN | apply below_drew1 | refine below_set ?_ GE986.out) | exact HB.out)))
              (case side2 => repeat (first | exact (Kd.C_below HR0_4.out HB.out) | (with_reducible refine Kd.C_alloc ?_ _) | (with_reducible refine Kd.C_drewN ?_ _) | (with_reducible refine Kd.C_drew ?_)))
              (case side3 => exact HC0_4.out)
              rintro e w82 ⟨rfl, hb⟩
              refine ⟨_, rfl, ?_⟩
              have n0_ := Aside0.mk (Kd.V_below (by (with_reducible repeat (first | apply Kd.V_alloc | apply Kd.V_drewN | apply Kd.V_drew)); exact HO_9.out) hb)
              have n1_ := Aside0.mk (blk_below (g := gb986) (o := .cells #[.int .i64 a0_0, .int .i64 a0_1, .int .i64 a0_2, .int .i64 a0_3, .slice A0_4 l0_4.length c0_4] 24 (0, 0)) (by (with_reducible repeat (first | refine blk_drewN ?_ _ | refine blk_drew ?_ | refine blk_alloc ?_ _)); exact BK986.out) hb)
              have n2_ := Aside0.mk (below_step (by repeat (first | (with_reducible first | exact HB.out | apply below_alloc | apply pw_below_drewN | apply below_drew1 | refine below_set ?_ GE986.out) | exact HB.out)) hb)
              clear HO_9
              clear BK986
              clear HB
              have HO_9 := n0_
              have BK986 := n1_
              have HB := n2_
              clear n0_ n1_ n2_
              (try clear hb)
              (try clear hb2)
              (try clear hk)
              (try clear hi)
              refine hK.out _ _ ⟨(blk_cell BK986.out 0).trans rfl, (blk_cell BK986.out 1).trans rfl, (blk_cell BK986.out 2).trans rfl, (blk_cell BK986.out 3).trans rfl, (blk_cell BK986.out 4).trans rfl⟩ (fun hHeld => ?_)
              clear hK K
              refine norm_ (a' := ?_) ?_ ?_
              rotate_left
              · show Act.put _ (some 76) _ = _
                simp only [Act.put, List.setIfInBounds_toArray, List.set_cons_zero, List.set_cons_succ, i64_w, i32_w]
                rfl
              refine pure_ (i := 6) (N := some 12) (v := ?_) (a' := ?_) #[true, true, true, true, true, true, true, false] rfl rfl (any_of HT_.out (by kernel_rfl)) (fun _ _ _ h => h) (Or.inl ⟨by rfl, ?_⟩) ?_ ?_
              rotate_left
              · intro w'
                go_simp
                with_reducible rfl
              rotate_left
              · simp only [Act.put, List.setIfInBounds_toArray, List.set_cons_zero, List.set_cons_succ, i64_w, i32_w]
                rfl
              refine pure_ (i := 7) (N := some 13) (v := ?_) (a' := ?_) #[true, true, true, true, true, true, true, true] rfl rfl (any_of HT_.out (by kernel_rfl)) (fun _ _ _ h => h) (Or.inl ⟨by rfl, ?_⟩) ?_ ?_
              rotate_left
              · intro w'
                go_simp
                with_reducible rfl
              rotate_left
              · simp only [Act.put, List.setIfInBounds_toArray, List.set_cons_zero, List.set_cons_succ, i64_w, i32_w]
                rfl
              refine done_ (done_of HT_.out (by kernel_rfl)) ?_
              obtain ⟨Ao83, co83, eo83⟩ := Kd.V_slice HO_9.out
              subst eo83
              try go_wp2
              go_ret
              exact ⟨by first | rfl | (simp [errW_none, errW_some] <;> rfl) | (simp [*, errW_none, errW_some] <;> rfl), by repeat (first | (with_reducible first | exact HB.out | apply below_alloc | apply pw_below_drewN | apply below_drew1 | refine below_set ?_ GE986.out) | exact HB.out)⟩
  · replace c4 := Bool.eq_false_iff.mpr c4
    subst c4
    have H1 : ((luciferlaw05_filled.f).bind fun t988 => (some t988)) = some r := by rw [if_neg (show ¬ (false = true) by decide)] at H; exact H
    clear H
    have H := H1
    clear H1
    replace H := Option.bind_eq_some_iff.mp H
    obtain ⟨t988, A840, H⟩ := H
    replace H : (some t988) = some r := H
    have A84 := Aside0.mk A840
    clear A840
    obtain rfl := Option.some.inj H
    go_enter Tryd.func13, Tryd.ntmps13
    go_wp2_with (first | ((with_reducible refine gate_dst (N := 2) rfl ?_); (try (refine gate_guard (by rfl) ?_; dsimp only)); refine box_event ?hg (N := 2) ?hd (cs := #[.int .i64 a0_0, .int .i64 a0_1, .int .i64 a0_2, .int .i64 a0_3, .slice A0_4 l0_4.length c0_4]) (t := 24) ?hr ?_; (case hd => rfl); (case hg => rfl); (case hr => first | (go_simp; done) | (go_simp; rfl)); intro gb986 hg w85 hbox hb; have n0_ := Aside0.mk (below_step (by repeat (first | (with_reducible first | exact HB.out | apply below_alloc | apply pw_below_drewN | apply below_drew1) | exact HB.out)) hb); have n1_ := Aside0.mk (hbox); have n2_ := Aside0.mk ((by rw [hg]; exact (below_size (by repeat (first | (with_reducible first | exact HB.out | apply below_alloc | apply pw_below_drewN | apply below_drew1) | exact HB.out))) : w.heap.size ≤ gb986)); have n3_ := Aside0.mk ((by rw [hg]; exact (below_size (by repeat (first | (with_reducible first | exact HB.out | apply below_alloc | apply pw_below_drewN | apply below_drew1) | exact HB.out))) : w.heap.size ≤ gb986)); clear HB; have HB := n0_; have BK986 := n1_; have GW986 := n2_; have GE986 := n3_; clear n0_ n1_ n2_ n3_; clear hb hbox hg; have hcz86_0 : w85.cell? ⟨gb986, 0, none⟩ = some (.int .i64 a0_0) := (blk_cell BK986.out 0).trans rfl; have hcz86_1 : w85.cell? ⟨gb986, 1, none⟩ = some (.int .i64 a0_1) := (blk_cell BK986.out 1).trans rfl; have hcz86_2 : w85.cell? ⟨gb986, 2, none⟩ = some (.int .i64 a0_2) := (blk_cell BK986.out 2).trans rfl; have hcz86_3 : w85.cell? ⟨gb986, 3, none⟩ = some (.int .i64 a0_3) := (blk_cell BK986.out 3).trans rfl; have hcz86_4 : w85.cell? ⟨gb986, 4, none⟩ = some (.slice A0_4 l0_4.length c0_4) := (blk_cell BK986.out 4).trans rfl; have hfz86_0 := blk_frozen BK986.out 0; have hfz86_1 := blk_frozen BK986.out 1; have hfz86_2 := blk_frozen BK986.out 2; have hfz86_3 := blk_frozen BK986.out 3; have hfz86_4 := blk_frozen BK986.out 4) | ((with_reducible refine gate_callee (f := 37) rfl ?_); refine goesL_ (some 15) rfl rfl Tryd.func37 (by kernel_rfl) rfl #[.agg #[.int .i64 a0_0, .int .i64 a0_1, .int .i64 a0_2, .int .i64 a0_3, .slice A0_4 l0_4.length c0_4]] rfl (by (try simp only [List.map_toArray, List.map_cons, List.map_nil]); first | done | rfl | (simp only [List.length_drop, List.length_take]; rfl)) ?_; (with_reducible refine (luciferlaw05_sound.calls k a0_0 a0_1 a0_2 a0_3 _ _ l0_4 false _ ?side1 ?side2 A3.out).mono ?_); (case side1 => repeat (first | exact (Kd.C_below HR0_4.out HB.out) | (with_reducible refine Kd.C_alloc ?_ _) | (with_reducible refine Kd.C_drewN ?_ _) | (with_reducible refine Kd.C_drew ?_))); (case side2 => exact HC0_4.out); rintro e w87 ⟨rfl, hb⟩; refine ⟨_, rfl, ?_⟩; have n0_ := Aside0.mk (blk_below (g := gb986) (o := .cells #[.int .i64 a0_0, .int .i64 a0_1, .int .i64 a0_2, .int .i64 a0_3, .slice A0_4 l0_4.length c0_4] 24 (0, 0)) (by (with_reducible repeat (first | refine blk_drewN ?_ _ | refine blk_drew ?_ | refine blk_alloc ?_ _)); exact BK986.out) hb); have n1_ := Aside0.mk (below_step (by repeat (first | (with_reducible first | exact HB.out | apply below_alloc | apply pw_below_drewN | apply below_drew1 | refine below_set ?_ GE986.out) | exact HB.out)) hb); clear BK986; clear HB; have BK986 := n0_; have HB := n1_; clear n0_ n1_; (try clear hb); (try clear hb2); (try clear hk); (try clear hi)) | ((with_reducible refine gate_callee (f := 23) rfl ?_); refine goesL_ (some 17) rfl rfl Tryd.func23 (by kernel_rfl) rfl #[] rfl (by (try simp only [List.map_toArray, List.map_cons, List.map_nil]); first | done | rfl | (simp only [List.length_drop, List.length_take]; rfl)) ?_; (with_reducible refine (luciferlaw05_filled.calls  t988 _ ?side1 A84.out).mono ?_); (case side1 => exact Fl.Laid.below HLd0.out (by repeat (first | (with_reducible first | exact HB.out | apply below_alloc | apply pw_below_drewN | apply below_drew1 | refine below_set ?_ GE986.out) | exact HB.out))); rintro e w88 ⟨rfl, hb⟩; refine ⟨_, rfl, ?_⟩; have n0_ := Aside0.mk (blk_below (g := gb986) (o := .cells #[.int .i64 a0_0, .int .i64 a0_1, .int .i64 a0_2, .int .i64 a0_3, .slice A0_4 l0_4.length c0_4] 24 (0, 0)) (by (with_reducible repeat (first | refine blk_drewN ?_ _ | refine blk_drew ?_ | refine blk_alloc ?_ _)); exact BK986.out) hb); have n1_ := Aside0.mk (below_step (by repeat (first | (with_reducible first | exact HB.out | apply below_alloc | apply pw_below_drewN | apply below_drew1 | refine below_set ?_ GE986.out) | exact HB.out)) hb); clear BK986; clear HB; have BK986 := n0_; have HB := n1_; clear n0_ n1_; (try clear hb); (try clear hb2); (try clear hk); (try clear hi)))
    go_ret
    exact ⟨by first | rfl | (simp [errW_none, errW_some] <;> rfl) | (simp [*, errW_none, errW_some] <;> rfl), by repeat (first | (with_reducible first | exact HB.out | apply below_alloc | apply pw_below_drewN | apply below_drew1 | refine below_set ?_ GE986.out) | exact HB.out)⟩
end Go.Proofs.YtbbdbdamedaldaaDoor.PL
end
