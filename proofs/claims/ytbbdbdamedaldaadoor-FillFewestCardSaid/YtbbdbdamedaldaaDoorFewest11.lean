/- The card of FillFewest: the row, its listed variable tied to the program's text. Whatever the input, the law returns true, and each argument reads afterwards as it did. (part 12) -/
import Derived.Test.YtbbdbdamedaldaaDoorFewest10
set_option linter.unusedVariables false
set_option linter.unusedSimpArgs false
section
namespace Go.Proofs.YtbbdbdamedaldaaDoor.PL
open Go.RowKit Go.Proofs.YtbbdbdamedaldaaDoorW.PrintWords Go.Proofs.YtbbdbdamedaldaaDoorW.PrintLast Go.Proofs.YtbbdbdamedaldaaDoorW.PrintMore
attribute [local go_sem] max2_int min2_int max_two min_two max_three min_three max_four min_four
set_option linter.unusedVariables false
set_option linter.unusedSimpArgs false
def luciferlaw05_FillFewest.j0 : Nat → List Int → List Int → List Int → List Int → Bool → Option (Bool)
  | 0, _, _, _, _, _ => none
  | k + 1, x5, x7, x11, x12, x100 => if x100 = true then (some false) else (if (x12.length : Int) > (x7.length : Int) then ((luciferlaw05_filled.f).bind fun t361 => (some t361)) else (if (x11.length : Int) < (x5.length : Int) then ((luciferlaw05_filled.f).bind fun t362 => (some t362)) else (if (x11.length : Int) = (x5.length : Int) then ((luciferref00_Earlier.f k x11 x5).bind fun t363 => (if t363 = true then (some false) else ((luciferlaw05_filled.f).bind fun t364 => (some t364)))) else (some false))))
def luciferlaw05_FillFewest.f (k : Nat) (a0_0 : Int) (a0_1 : Int) (a0_2 : Int) (a0_3 : Int) (l0_4 : List (S27)) (l1 : List Int) : Option (Bool) := (luciferlaw05_sound.f k a0_0 a0_1 a0_2 a0_3 l0_4).bind fun t340 => (if t340 = true then ((fill_Best.f a0_0 a0_1 a0_2 a0_3 l0_4).bind fun bt342 => ((fill_ByHand.f a0_0 a0_1 a0_2 a0_3 l0_4 bt342.1).bind fun bt346 => ((fill_Boxes.f a0_0 a0_1 a0_2 a0_3 l0_4).bind fun bt350 => ((luciferlaw05_drawn.f k a0_0 a0_1 a0_2 a0_3 l0_4 l1).bind fun t352 => ((fill_ByHand.f a0_0 a0_1 a0_2 a0_3 l0_4 t352).bind fun bt355 => (if bt342.2 = 0 then (if bt346.2 = 0 then (if bt350.2 = 0 then (if bt355.2 = 0 then ((luciferlaw05_plan.f a0_0 a0_1 a0_2 a0_3 l0_4 bt342.1).bind fun t359 => (if t359 = true then ((luciferlaw05_plan.f a0_0 a0_1 a0_2 a0_3 l0_4 t352).bind fun t360 => (if t360 = true then (if (bt355.1.length : Int) < (bt346.1.length : Int) then (luciferlaw05_FillFewest.j0 k bt342.1 bt346.1 t352 bt355.1 true) else (if (wrap64 ((t352.length : Int) - (bt355.1.length : Int))) > bt350.1 then (luciferlaw05_FillFewest.j0 k bt342.1 bt346.1 t352 bt355.1 true) else (if (wrap64 ((bt342.1.length : Int) - (bt346.1.length : Int))) > bt350.1 then (luciferlaw05_FillFewest.j0 k bt342.1 bt346.1 t352 bt355.1 true) else (luciferlaw05_FillFewest.j0 k bt342.1 bt346.1 t352 bt355.1 (decide (bt350.1 > (l0_4.length : Int))))))) else (luciferlaw05_FillFewest.j0 k bt342.1 bt346.1 t352 bt355.1 true))) else (luciferlaw05_FillFewest.j0 k bt342.1 bt346.1 t352 bt355.1 true))) else (luciferlaw05_FillFewest.j0 k bt342.1 bt346.1 t352 bt355.1 true)) else (luciferlaw05_FillFewest.j0 k bt342.1 bt346.1 t352 bt355.1 true)) else (luciferlaw05_FillFewest.j0 k bt342.1 bt346.1 t352 bt355.1 true)) else (luciferlaw05_FillFewest.j0 k bt342.1 bt346.1 t352 bt355.1 true))))))) else ((luciferlaw05_filled.f).bind fun t341 => (some t341)))
set_option maxHeartbeats 8000000 in
set_option maxRecDepth 100000 in
theorem luciferlaw05_FillFewest.calls (k : Nat) (a0_0 : Int) (a0_1 : Int) (a0_2 : Int) (a0_3 : Int) (A0_4 : Option Addr) (c0_4 : Nat) (l0_4 : List (S27)) (A1 : Option Addr) (c1 : Nat) (l1 : List Int) (r : Bool) (w : World) (hLd0 : Fl.Laid w) (hr0_4 : Kd.C k27 w A0_4 l0_4.length l0_4) (hc0_4 : l0_4.length ≤ c0_4) (hr1 : Kd.C (Kd.int .i64) w A1 l1.length l1) (hc1 : l1.length ≤ c1) (h : luciferlaw05_FillFewest.f k a0_0 a0_1 a0_2 a0_3 l0_4 l1 = some r) :
    Calls Tryd.prog 7 #[.agg #[.int .i64 a0_0, .int .i64 a0_1, .int .i64 a0_2, .int .i64 a0_3, .slice A0_4 l0_4.length c0_4], .slice A1 l1.length c1] w fun e w' => e = .returned (.bool r) ∧ Below w.heap.size w w' := by
  have hu24 := Tryd.underlying24
  have HLd0 := Aside0.mk hLd0
  clear hLd0
  have HR0_4 := Aside0.mk hr0_4
  have HC0_4 := Aside0.mk hc0_4
  clear hr0_4 hc0_4
  have HR1 := Aside0.mk hr1
  have HC1 := Aside0.mk hc1
  clear hr1 hc1
  have HB := Aside0.mk (Below.refl w.heap.size w)
  have H : ((luciferlaw05_sound.f k a0_0 a0_1 a0_2 a0_3 l0_4).bind fun t340 => (if t340 = true then ((fill_Best.f a0_0 a0_1 a0_2 a0_3 l0_4).bind fun bt342 => ((fill_ByHand.f a0_0 a0_1 a0_2 a0_3 l0_4 bt342.1).bind fun bt346 => ((fill_Boxes.f a0_0 a0_1 a0_2 a0_3 l0_4).bind fun bt350 => ((luciferlaw05_drawn.f k a0_0 a0_1 a0_2 a0_3 l0_4 l1).bind fun t352 => ((fill_ByHand.f a0_0 a0_1 a0_2 a0_3 l0_4 t352).bind fun bt355 => (if bt342.2 = 0 then (if bt346.2 = 0 then (if bt350.2 = 0 then (if bt355.2 = 0 then ((luciferlaw05_plan.f a0_0 a0_1 a0_2 a0_3 l0_4 bt342.1).bind fun t359 => (if t359 = true then ((luciferlaw05_plan.f a0_0 a0_1 a0_2 a0_3 l0_4 t352).bind fun t360 => (if t360 = true then (if (bt355.1.length : Int) < (bt346.1.length : Int) then (luciferlaw05_FillFewest.j0 k bt342.1 bt346.1 t352 bt355.1 true) else (if (wrap64 ((t352.length : Int) - (bt355.1.length : Int))) > bt350.1 then (luciferlaw05_FillFewest.j0 k bt342.1 bt346.1 t352 bt355.1 true) else (if (wrap64 ((bt342.1.length : Int) - (bt346.1.length : Int))) > bt350.1 then (luciferlaw05_FillFewest.j0 k bt342.1 bt346.1 t352 bt355.1 true) else (luciferlaw05_FillFewest.j0 k bt342.1 bt346.1 t352 bt355.1 (decide (bt350.1 > (l0_4.length : Int))))))) else (luciferlaw05_FillFewest.j0 k bt342.1 bt346.1 t352 bt355.1 true))) else (luciferlaw05_FillFewest.j0 k bt342.1 bt346.1 t352 bt355.1 true))) else (luciferlaw05_FillFewest.j0 k bt342.1 bt346.1 t352 bt355.1 true)) else (luciferlaw05_FillFewest.j0 k bt342.1 bt346.1 t352 bt355.1 true)) else (luciferlaw05_FillFewest.j0 k bt342.1 bt346.1 t352 bt355.1 true)) else (luciferlaw05_FillFewest.j0 k bt342.1 bt346.1 t352 bt355.1 true))))))) else ((luciferlaw05_filled.f).bind fun t341 => (some t341)))) = some r := h
  clear h
  replace H := Option.bind_eq_some_iff.mp H
  obtain ⟨t340, A30, H⟩ := H
  replace H : (if t340 = true then ((fill_Best.f a0_0 a0_1 a0_2 a0_3 l0_4).bind fun bt342 => ((fill_ByHand.f a0_0 a0_1 a0_2 a0_3 l0_4 bt342.1).bind fun bt346 => ((fill_Boxes.f a0_0 a0_1 a0_2 a0_3 l0_4).bind fun bt350 => ((luciferlaw05_drawn.f k a0_0 a0_1 a0_2 a0_3 l0_4 l1).bind fun t352 => ((fill_ByHand.f a0_0 a0_1 a0_2 a0_3 l0_4 t352).bind fun bt355 => (if bt342.2 = 0 then (if bt346.2 = 0 then (if bt350.2 = 0 then (if bt355.2 = 0 then ((luciferlaw05_plan.f a0_0 a0_1 a0_2 a0_3 l0_4 bt342.1).bind fun t359 => (if t359 = true then ((luciferlaw05_plan.f a0_0 a0_1 a0_2 a0_3 l0_4 t352).bind fun t360 => (if t360 = true then (if (bt355.1.length : Int) < (bt346.1.length : Int) then (luciferlaw05_FillFewest.j0 k bt342.1 bt346.1 t352 bt355.1 true) else (if (wrap64 ((t352.length : Int) - (bt355.1.length : Int))) > bt350.1 then (luciferlaw05_FillFewest.j0 k bt342.1 bt346.1 t352 bt355.1 true) else (if (wrap64 ((bt342.1.length : Int) - (bt346.1.length : Int))) > bt350.1 then (luciferlaw05_FillFewest.j0 k bt342.1 bt346.1 t352 bt355.1 true) else (luciferlaw05_FillFewest.j0 k bt342.1 bt346.1 t352 bt355.1 (decide (bt350.1 > (l0_4.length : Int))))))) else (luciferlaw05_FillFewest.j0 k bt342.1 bt346.1 t352 bt355.1 true))) else (luciferlaw05_FillFewest.j0 k bt342.1 bt346.1 t352 bt355.1 true))) else (luciferlaw05_FillFewest.j0 k bt342.1 bt346.1 t352 bt355.1 true)) else (luciferlaw05_FillFewest.j0 k bt342.1 bt346.1 t352 bt355.1 true)) else (luciferlaw05_FillFewest.j0 k bt342.1 bt346.1 t352 bt355.1 true)) else (luciferlaw05_FillFewest.j0 k bt342.1 bt346.1 t352 bt355.1 true))))))) else ((luciferlaw05_filled.f).bind fun t341 => (some t341))) = some r := H
  have A3 := Aside0.mk A30
  clear A30
  by_cases c4 : t340 = true
  · subst c4
    have H1 : ((fill_Best.f a0_0 a0_1 a0_2 a0_3 l0_4).bind fun bt342 => ((fill_ByHand.f a0_0 a0_1 a0_2 a0_3 l0_4 bt342.1).bind fun bt346 => ((fill_Boxes.f a0_0 a0_1 a0_2 a0_3 l0_4).bind fun bt350 => ((luciferlaw05_drawn.f k a0_0 a0_1 a0_2 a0_3 l0_4 l1).bind fun t352 => ((fill_ByHand.f a0_0 a0_1 a0_2 a0_3 l0_4 t352).bind fun bt355 => (if bt342.2 = 0 then (if bt346.2 = 0 then (if bt350.2 = 0 then (if bt355.2 = 0 then ((luciferlaw05_plan.f a0_0 a0_1 a0_2 a0_3 l0_4 bt342.1).bind fun t359 => (if t359 = true then ((luciferlaw05_plan.f a0_0 a0_1 a0_2 a0_3 l0_4 t352).bind fun t360 => (if t360 = true then (if (bt355.1.length : Int) < (bt346.1.length : Int) then (luciferlaw05_FillFewest.j0 k bt342.1 bt346.1 t352 bt355.1 true) else (if (wrap64 ((t352.length : Int) - (bt355.1.length : Int))) > bt350.1 then (luciferlaw05_FillFewest.j0 k bt342.1 bt346.1 t352 bt355.1 true) else (if (wrap64 ((bt342.1.length : Int) - (bt346.1.length : Int))) > bt350.1 then (luciferlaw05_FillFewest.j0 k bt342.1 bt346.1 t352 bt355.1 true) else (luciferlaw05_FillFewest.j0 k bt342.1 bt346.1 t352 bt355.1 (decide (bt350.1 > (l0_4.length : Int))))))) else (luciferlaw05_FillFewest.j0 k bt342.1 bt346.1 t352 bt355.1 true))) else (luciferlaw05_FillFewest.j0 k bt342.1 bt346.1 t352 bt355.1 true))) else (luciferlaw05_FillFewest.j0 k bt342.1 bt346.1 t352 bt355.1 true)) else (luciferlaw05_FillFewest.j0 k bt342.1 bt346.1 t352 bt355.1 true)) else (luciferlaw05_FillFewest.j0 k bt342.1 bt346.1 t352 bt355.1 true)) else (luciferlaw05_FillFewest.j0 k bt342.1 bt346.1 t352 bt355.1 true))))))) = some r := by rw [if_pos rfl] at H; exact H
    clear H
    have H := H1
    clear H1
    replace H := Option.bind_eq_some_iff.mp H
    obtain ⟨⟨t342, t345⟩, A50, H⟩ := H
    replace H : ((fill_ByHand.f a0_0 a0_1 a0_2 a0_3 l0_4 t342).bind fun bt346 => ((fill_Boxes.f a0_0 a0_1 a0_2 a0_3 l0_4).bind fun bt350 => ((luciferlaw05_drawn.f k a0_0 a0_1 a0_2 a0_3 l0_4 l1).bind fun t352 => ((fill_ByHand.f a0_0 a0_1 a0_2 a0_3 l0_4 t352).bind fun bt355 => (if t345 = 0 then (if bt346.2 = 0 then (if bt350.2 = 0 then (if bt355.2 = 0 then ((luciferlaw05_plan.f a0_0 a0_1 a0_2 a0_3 l0_4 t342).bind fun t359 => (if t359 = true then ((luciferlaw05_plan.f a0_0 a0_1 a0_2 a0_3 l0_4 t352).bind fun t360 => (if t360 = true then (if (bt355.1.length : Int) < (bt346.1.length : Int) then (luciferlaw05_FillFewest.j0 k t342 bt346.1 t352 bt355.1 true) else (if (wrap64 ((t352.length : Int) - (bt355.1.length : Int))) > bt350.1 then (luciferlaw05_FillFewest.j0 k t342 bt346.1 t352 bt355.1 true) else (if (wrap64 ((t342.length : Int) - (bt346.1.length : Int))) > bt350.1 then (luciferlaw05_FillFewest.j0 k t342 bt346.1 t352 bt355.1 true) else (luciferlaw05_FillFewest.j0 k t342 bt346.1 t352 bt355.1 (decide (bt350.1 > (l0_4.length : Int))))))) else (luciferlaw05_FillFewest.j0 k t342 bt346.1 t352 bt355.1 true))) else (luciferlaw05_FillFewest.j0 k t342 bt346.1 t352 bt355.1 true))) else (luciferlaw05_FillFewest.j0 k t342 bt346.1 t352 bt355.1 true)) else (luciferlaw05_FillFewest.j0 k t342 bt346.1 t352 bt355.1 true)) else (luciferlaw05_FillFewest.j0 k t342 bt346.1 t352 bt355.1 true)) else (luciferlaw05_FillFewest.j0 k t342 bt346.1 t352 bt355.1 true)))))) = some r := H
    have A5 := Aside0.mk A50
    clear A50
    replace H := Option.bind_eq_some_iff.mp H
    obtain ⟨⟨t346, t349⟩, A60, H⟩ := H
    replace H : ((fill_Boxes.f a0_0 a0_1 a0_2 a0_3 l0_4).bind fun bt350 => ((luciferlaw05_drawn.f k a0_0 a0_1 a0_2 a0_3 l0_4 l1).bind fun t352 => ((fill_ByHand.f a0_0 a0_1 a0_2 a0_3 l0_4 t352).bind fun bt355 => (if t345 = 0 then (if t349 = 0 then (if bt350.2 = 0 then (if bt355.2 = 0 then ((luciferlaw05_plan.f a0_0 a0_1 a0_2 a0_3 l0_4 t342).bind fun t359 => (if t359 = true then ((luciferlaw05_plan.f a0_0 a0_1 a0_2 a0_3 l0_4 t352).bind fun t360 => (if t360 = true then (if (bt355.1.length : Int) < (t346.length : Int) then (luciferlaw05_FillFewest.j0 k t342 t346 t352 bt355.1 true) else (if (wrap64 ((t352.length : Int) - (bt355.1.length : Int))) > bt350.1 then (luciferlaw05_FillFewest.j0 k t342 t346 t352 bt355.1 true) else (if (wrap64 ((t342.length : Int) - (t346.length : Int))) > bt350.1 then (luciferlaw05_FillFewest.j0 k t342 t346 t352 bt355.1 true) else (luciferlaw05_FillFewest.j0 k t342 t346 t352 bt355.1 (decide (bt350.1 > (l0_4.length : Int))))))) else (luciferlaw05_FillFewest.j0 k t342 t346 t352 bt355.1 true))) else (luciferlaw05_FillFewest.j0 k t342 t346 t352 bt355.1 true))) else (luciferlaw05_FillFewest.j0 k t342 t346 t352 bt355.1 true)) else (luciferlaw05_FillFewest.j0 k t342 t346 t352 bt355.1 true)) else (luciferlaw05_FillFewest.j0 k t342 t346 t352 bt355.1 true)) else (luciferlaw05_FillFewest.j0 k t342 t346 t352 bt355.1 true))))) = some r := H
    have A6 := Aside0.mk A60
    clear A60
    replace H := Option.bind_eq_some_iff.mp H
    obtain ⟨⟨t350, t351⟩, A70, H⟩ := H
    replace H : ((luciferlaw05_drawn.f k a0_0 a0_1 a0_2 a0_3 l0_4 l1).bind fun t352 => ((fill_ByHand.f a0_0 a0_1 a0_2 a0_3 l0_4 t352).bind fun bt355 => (if t345 = 0 then (if t349 = 0 then (if t351 = 0 then (if bt355.2 = 0 then ((luciferlaw05_plan.f a0_0 a0_1 a0_2 a0_3 l0_4 t342).bind fun t359 => (if t359 = true then ((luciferlaw05_plan.f a0_0 a0_1 a0_2 a0_3 l0_4 t352).bind fun t360 => (if t360 = true then (if (bt355.1.length : Int) < (t346.length : Int) then (luciferlaw05_FillFewest.j0 k t342 t346 t352 bt355.1 true) else (if (wrap64 ((t352.length : Int) - (bt355.1.length : Int))) > t350 then (luciferlaw05_FillFewest.j0 k t342 t346 t352 bt355.1 true) else (if (wrap64 ((t342.length : Int) - (t346.length : Int))) > t350 then (luciferlaw05_FillFewest.j0 k t342 t346 t352 bt355.1 true) else (luciferlaw05_FillFewest.j0 k t342 t346 t352 bt355.1 (decide (t350 > (l0_4.length : Int))))))) else (luciferlaw05_FillFewest.j0 k t342 t346 t352 bt355.1 true))) else (luciferlaw05_FillFewest.j0 k t342 t346 t352 bt355.1 true))) else (luciferlaw05_FillFewest.j0 k t342 t346 t352 bt355.1 true)) else (luciferlaw05_FillFewest.j0 k t342 t346 t352 bt355.1 true)) else (luciferlaw05_FillFewest.j0 k t342 t346 t352 bt355.1 true)) else (luciferlaw05_FillFewest.j0 k t342 t346 t352 bt355.1 true)))) = some r := H
    have A7 := Aside0.mk A70
    clear A70
    replace H := Option.bind_eq_some_iff.mp H
    obtain ⟨t352, A80, H⟩ := H
    replace H : ((fill_ByHand.f a0_0 a0_1 a0_2 a0_3 l0_4 t352).bind fun bt355 => (if t345 = 0 then (if t349 = 0 then (if t351 = 0 then (if bt355.2 = 0 then ((luciferlaw05_plan.f a0_0 a0_1 a0_2 a0_3 l0_4 t342).bind fun t359 => (if t359 = true then ((luciferlaw05_plan.f a0_0 a0_1 a0_2 a0_3 l0_4 t352).bind fun t360 => (if t360 = true then (if (bt355.1.length : Int) < (t346.length : Int) then (luciferlaw05_FillFewest.j0 k t342 t346 t352 bt355.1 true) else (if (wrap64 ((t352.length : Int) - (bt355.1.length : Int))) > t350 then (luciferlaw05_FillFewest.j0 k t342 t346 t352 bt355.1 true) else (if (wrap64 ((t342.length : Int) - (t346.length : Int))) > t350 then (luciferlaw05_FillFewest.j0 k t342 t346 t352 bt355.1 true) else (luciferlaw05_FillFewest.j0 k t342 t346 t352 bt355.1 (decide (t350 > (l0_4.length : Int))))))) else (luciferlaw05_FillFewest.j0 k t342 t346 t352 bt355.1 true))) else (luciferlaw05_FillFewest.j0 k t342 t346 t352 bt355.1 true))) else (luciferlaw05_FillFewest.j0 k t342 t346 t352 bt355.1 true)) else (luciferlaw05_FillFewest.j0 k t342 t346 t352 bt355.1 true)) else (luciferlaw05_FillFewest.j0 k t342 t346 t352 bt355.1 true)) else (luciferlaw05_FillFewest.j0 k t342 t346 t352 bt355.1 true))) = some r := H
    have A8 := Aside0.mk A80
    clear A80
    replace H := Option.bind_eq_some_iff.mp H
    obtain ⟨⟨t355, t358⟩, A90, H⟩ := H
    replace H : (if t345 = 0 then (if t349 = 0 then (if t351 = 0 then (if t358 = 0 then ((luciferlaw05_plan.f a0_0 a0_1 a0_2 a0_3 l0_4 t342).bind fun t359 => (if t359 = true then ((luciferlaw05_plan.f a0_0 a0_1 a0_2 a0_3 l0_4 t352).bind fun t360 => (if t360 = true then (if (t355.length : Int) < (t346.length : Int) then (luciferlaw05_FillFewest.j0 k t342 t346 t352 t355 true) else (if (wrap64 ((t352.length : Int) - (t355.length : Int))) > t350 then (luciferlaw05_FillFewest.j0 k t342 t346 t352 t355 true) else (if (wrap64 ((t342.length : Int) - (t346.length : Int))) > t350 then (luciferlaw05_FillFewest.j0 k t342 t346 t352 t355 true) else (luciferlaw05_FillFewest.j0 k t342 t346 t352 t355 (decide (t350 > (l0_4.length : Int))))))) else (luciferlaw05_FillFewest.j0 k t342 t346 t352 t355 true))) else (luciferlaw05_FillFewest.j0 k t342 t346 t352 t355 true))) else (luciferlaw05_FillFewest.j0 k t342 t346 t352 t355 true)) else (luciferlaw05_FillFewest.j0 k t342 t346 t352 t355 true)) else (luciferlaw05_FillFewest.j0 k t342 t346 t352 t355 true)) else (luciferlaw05_FillFewest.j0 k t342 t346 t352 t355 true)) = some r := H
    have A9 := Aside0.mk A90
    clear A90
    have HC10 := Aside0.mk H
    clear H
    go_enter Tryd.func7, Tryd.ntmps7
    go_upto_region 8 with (first | ((with_reducible refine gate_dst (N := 2) rfl ?_); (try (refine gate_guard (by rfl) ?_; dsimp only)); refine box_event ?hg (N := 2) ?hd (cs := #[.int .i64 a0_0, .int .i64 a0_1, .int .i64 a0_2, .int .i64 a0_3, .slice A0_4 l0_4.length c0_4]) (t := 24) ?hr ?_; (case hd => rfl); (case hg => rfl); (case hr => first | (go_simp; done) | (go_simp; rfl)); intro gb339 hg w11 hbox hb; have n0_ := Aside0.mk (below_step (by repeat (first | (with_reducible first | exact HB.out | apply below_alloc | apply pw_below_drewN | apply below_drew1) | exact HB.out)) hb); have n1_ := Aside0.mk (hbox); have n2_ := Aside0.mk ((by rw [hg]; exact (below_size (by repeat (first | (with_reducible first | exact HB.out | apply below_alloc | apply pw_below_drewN | apply below_drew1) | exact HB.out))) : w.heap.size ≤ gb339)); have n3_ := Aside0.mk ((by rw [hg]; exact (below_size (by repeat (first | (with_reducible first | exact HB.out | apply below_alloc | apply pw_below_drewN | apply below_drew1) | exact HB.out))) : w.heap.size ≤ gb339)); clear HB; have HB := n0_; have BK339 := n1_; have GW339 := n2_; have GE339 := n3_; clear n0_ n1_ n2_ n3_; clear hb hbox hg; have hcz12_0 : w11.cell? ⟨gb339, 0, none⟩ = some (.int .i64 a0_0) := (blk_cell BK339.out 0).trans rfl; have hcz12_1 : w11.cell? ⟨gb339, 1, none⟩ = some (.int .i64 a0_1) := (blk_cell BK339.out 1).trans rfl; have hcz12_2 : w11.cell? ⟨gb339, 2, none⟩ = some (.int .i64 a0_2) := (blk_cell BK339.out 2).trans rfl; have hcz12_3 : w11.cell? ⟨gb339, 3, none⟩ = some (.int .i64 a0_3) := (blk_cell BK339.out 3).trans rfl; have hcz12_4 : w11.cell? ⟨gb339, 4, none⟩ = some (.slice A0_4 l0_4.length c0_4) := (blk_cell BK339.out 4).trans rfl; have hfz12_0 := blk_frozen BK339.out 0; have hfz12_1 := blk_frozen BK339.out 1; have hfz12_2 := blk_frozen BK339.out 2; have hfz12_3 := blk_frozen BK339.out 3; have hfz12_4 := blk_frozen BK339.out 4) | ((with_reducible refine gate_callee (f := 37) rfl ?_); refine goesL_ (some 15) rfl rfl Tryd.func37 (by kernel_rfl) rfl #[.agg #[.int .i64 a0_0, .int .i64 a0_1, .int .i64 a0_2, .int .i64 a0_3, .slice A0_4 l0_4.length c0_4]] rfl (by (try simp only [List.map_toArray, List.map_cons, List.map_nil]); first | done | rfl | (simp only [List.length_drop, List.length_take]; rfl)) ?_; (with_reducible refine (luciferlaw05_sound.calls k a0_0 a0_1 a0_2 a0_3 _ _ l0_4 true _ ?side1 ?side2 A3.out).mono ?_); (case side1 => repeat (first | exact (Kd.C_below HR0_4.out HB.out) | (with_reducible refine Kd.C_alloc ?_ _) | (with_reducible refine Kd.C_drewN ?_ _) | (with_reducible refine Kd.C_drew ?_))); (case side2 => exact HC0_4.out); rintro e w13 ⟨rfl, hb⟩; refine ⟨_, rfl, ?_⟩; have n0_ := Aside0.mk (blk_below (g := gb339) (o := .cells #[.int .i64 a0_0, .int .i64 a0_1, .int .i64 a0_2, .int .i64 a0_3, .slice A0_4 l0_4.length c0_4] 24 (0, 0)) (by (with_reducible repeat (first | refine blk_drewN ?_ _ | refine blk_drew ?_ | refine blk_alloc ?_ _)); exact BK339.out) hb); have n1_ := Aside0.mk (below_step (by repeat (first | (with_reducible first | exact HB.out | apply below_alloc | apply pw_below_drewN | apply below_drew1 | refine below_set ?_ GE339.out) | exact HB.out)) hb); clear BK339; clear HB; have BK339 := n0_; have HB := n1_; clear n0_ n1_; (try clear hb); (try clear hb2); (try clear hk); (try clear hi); have hcz14_0 : w13.cell? ⟨gb339, 0, none⟩ = some (.int .i64 a0_0) := (blk_cell BK339.out 0).trans rfl; have hcz14_1 : w13.cell? ⟨gb339, 1, none⟩ = some (.int .i64 a0_1) := (blk_cell BK339.out 1).trans rfl; have hcz14_2 : w13.cell? ⟨gb339, 2, none⟩ = some (.int .i64 a0_2) := (blk_cell BK339.out 2).trans rfl; have hcz14_3 : w13.cell? ⟨gb339, 3, none⟩ = some (.int .i64 a0_3) := (blk_cell BK339.out 3).trans rfl; have hcz14_4 : w13.cell? ⟨gb339, 4, none⟩ = some (.slice A0_4 l0_4.length c0_4) := (blk_cell BK339.out 4).trans rfl; have hfz14_0 := blk_frozen BK339.out 0; have hfz14_1 := blk_frozen BK339.out 1; have hfz14_2 := blk_frozen BK339.out 2; have hfz14_3 := blk_frozen BK339.out 3; have hfz14_4 := blk_frozen BK339.out 4) | ((with_reducible refine gate_callee (f := 31) rfl ?_); refine goesL_ (some 20) rfl rfl Tryd.func31 (by kernel_rfl) rfl #[.agg #[.int .i64 a0_0, .int .i64 a0_1, .int .i64 a0_2, .int .i64 a0_3, .slice A0_4 l0_4.length c0_4]] rfl (by (try simp only [List.map_toArray, List.map_cons, List.map_nil]); first | done | rfl | (simp only [List.length_drop, List.length_take]; rfl)) ?_; (with_reducible refine (fill_Best.calls a0_0 a0_1 a0_2 a0_3 _ _ l0_4 t342 t345 _ ?side1 ?side2 ?side3 A5.out).mono ?_); (case side1 => exact Fl.Laid.below HLd0.out (by repeat (first | (with_reducible first | exact HB.out | apply below_alloc | apply pw_below_drewN | apply below_drew1 | refine below_set ?_ GE339.out) | exact HB.out))); (case side2 => repeat (first | exact (Kd.C_below HR0_4.out HB.out) | (with_reducible refine Kd.C_alloc ?_ _) | (with_reducible refine Kd.C_drewN ?_ _) | (with_reducible refine Kd.C_drew ?_))); (case side3 => exact HC0_4.out); rintro e w15 ⟨v343, rfl, ho0, hb⟩; refine ⟨_, rfl, ?_⟩; have n0_ := Aside0.mk (Kd.V_lower (Kd.V_mono (ok' := fun k_ => k_ ≠ gb339) ho0 (fun k_ hk_ => (Kd.freshB (g := gb339) (o := .cells #[.int .i64 a0_0, .int .i64 a0_1, .int .i64 a0_2, .int .i64 a0_3, .slice A0_4 l0_4.length c0_4] 24 (0, 0)) (by (with_reducible repeat (first | refine blk_drewN ?_ _ | refine blk_drew ?_ | refine blk_alloc ?_ _)); exact BK339.out) k_ hk_))) (below_size (by repeat (first | (with_reducible first | exact HB.out | apply below_alloc | apply pw_below_drewN | apply below_drew1 | refine below_set ?_ GE339.out) | exact HB.out)))); have n1_ := Aside0.mk (blk_below (g := gb339) (o := .cells #[.int .i64 a0_0, .int .i64 a0_1, .int .i64 a0_2, .int .i64 a0_3, .slice A0_4 l0_4.length c0_4] 24 (0, 0)) (by (with_reducible repeat (first | refine blk_drewN ?_ _ | refine blk_drew ?_ | refine blk_alloc ?_ _)); exact BK339.out) hb); have n2_ := Aside0.mk (below_step (by repeat (first | (with_reducible first | exact HB.out | apply below_alloc | apply pw_below_drewN | apply below_drew1 | refine below_set ?_ GE339.out) | exact HB.out)) hb); clear BK339; clear HB; have HO344 := n0_; have BK339 := n1_; have HB := n2_; clear n0_ n1_ n2_; (try clear hb); (try clear hb2); (try clear hk); (try clear hi); (try clear ho0); have hcz16_0 : w15.cell? ⟨gb339, 0, none⟩ = some (.int .i64 a0_0) := (blk_cell BK339.out 0).trans rfl; have hcz16_1 : w15.cell? ⟨gb339, 1, none⟩ = some (.int .i64 a0_1) := (blk_cell BK339.out 1).trans rfl; have hcz16_2 : w15.cell? ⟨gb339, 2, none⟩ = some (.int .i64 a0_2) := (blk_cell BK339.out 2).trans rfl; have hcz16_3 : w15.cell? ⟨gb339, 3, none⟩ = some (.int .i64 a0_3) := (blk_cell BK339.out 3).trans rfl; have hcz16_4 : w15.cell? ⟨gb339, 4, none⟩ = some (.slice A0_4 l0_4.length c0_4) := (blk_cell BK339.out 4).trans rfl; have hfz16_0 := blk_frozen BK339.out 0; have hfz16_1 := blk_frozen BK339.out 1; have hfz16_2 := blk_frozen BK339.out 2; have hfz16_3 := blk_frozen BK339.out 3; have hfz16_4 := blk_frozen BK339.out 4; obtain ⟨Ao17, co17, eo17⟩ := Kd.V_slice HO344.out; subst eo17) | ((with_reducible refine gate_callee (f := 26) rfl ?_); refine goesL_ (some 26) rfl rfl Tryd.func26 (by kernel_rfl) rfl #[.agg #[.int .i64 a0_0, .int .i64 a0_1, .int .i64 a0_2, .int .i64 a0_3, .slice A0_4 l0_4.length c0_4], .slice Ao17 t342.length co17] rfl (by (try simp only [List.map_toArray, List.map_cons, List.map_nil]); first | done | rfl | (simp only [List.length_drop, List.length_take]; rfl)) ?_; (with_reducible refine (fill_ByHand.calls a0_0 a0_1 a0_2 a0_3 _ _ l0_4 _ _ t342 t346 t349 _ ?side1 ?side2 ?side3 ?side4 ?side5 A6.out).mono ?_); (case side1 => exact Fl.Laid.below HLd0.out (by repeat (first | (with_reducible first | exact HB.out | apply below_alloc | apply pw_below_drewN | apply below_drew1 | refine below_set ?_ GE339.out) | exact HB.out))); (case side2 => repeat (first | exact (Kd.C_below HR0_4.out HB.out) | (with_reducible refine Kd.C_alloc ?_ _) | (with_reducible refine Kd.C_drewN ?_ _) | (with_reducible refine Kd.C_drew ?_))); (case side3 => exact HC0_4.out); (case side4 => repeat (first | exact (Kd.V_reads' HO344.out).2.2 | (with_reducible refine Kd.C_alloc ?_ _) | (with_reducible refine Kd.C_drewN ?_ _) | (with_reducible refine Kd.C_drew ?_))); (case side5 => exact (Kd.V_reads' HO344.out).2.1); rintro e w18 ⟨v347, rfl, ho0, hb⟩; refine ⟨_, rfl, ?_⟩; have n0_ := Aside0.mk (Kd.V_below (by (with_reducible repeat (first | apply Kd.V_alloc | apply Kd.V_drewN | apply Kd.V_drew)); exact HO344.out) hb); have n1_ := Aside0.mk (Kd.V_lower (Kd.V_mono (ok' := fun k_ => k_ ≠ gb339) ho0 (fun k_ hk_ => (Kd.freshB (g := gb339) (o := .cells #[.int .i64 a0_0, .int .i64 a0_1, .int .i64 a0_2, .int .i64 a0_3, .slice A0_4 l0_4.length c0_4] 24 (0, 0)) (by (with_reducible repeat (first | refine blk_drewN ?_ _ | refine blk_drew ?_ | refine blk_alloc ?_ _)); exact BK339.out) k_ hk_))) (below_size (by repeat (first | (with_reducible first | exact HB.out | apply below_alloc | apply pw_below_drewN | apply below_drew1 | refine below_set ?_ GE339.out) | exact HB.out)))); have n2_ := Aside0.mk (blk_below (g := gb339) (o := .cells #[.int .i64 a0_0, .int .i64 a0_1, .int .i64 a0_2, .int .i64 a0_3, .slice A0_4 l0_4.length c0_4] 24 (0, 0)) (by (with_reducible repeat (first | refine blk_drewN ?_ _ | refine blk_drew ?_ | refine blk_alloc ?_ _)); exact BK339.out) hb); have n3_ := Aside0.mk (below_step (by repeat (first | (with_reducible first | exact HB.out | apply below_alloc | apply pw_below_drewN | apply below_drew1 | refine below_set ?_ GE339.out) | exact HB.out)) hb); clear HO344; clear BK339; clear HB; have HO344 := n0_; have HO348 := n1_; have BK339 := n2_; have HB := n3_; clear n0_ n1_ n2_ n3_; (try clear hb); (try clear hb2); (try clear hk); (try clear hi); (try clear ho0); have hcz19_0 : w18.cell? ⟨gb339, 0, none⟩ = some (.int .i64 a0_0) := (blk_cell BK339.out 0).trans rfl; have hcz19_1 : w18.cell? ⟨gb339, 1, none⟩ = some (.int .i64 a0_1) := (blk_cell BK339.out 1).trans rfl; have hcz19_2 : w18.cell? ⟨gb339, 2, none⟩ = some (.int .i64 a0_2) := (blk_cell BK339.out 2).trans rfl; have hcz19_3 : w18.cell? ⟨gb339, 3, none⟩ = some (.int .i64 a0_3) := (blk_cell BK339.out 3).trans rfl; have hcz19_4 : w18.cell? ⟨gb339, 4, none⟩ = some (.slice A0_4 l0_4.length c0_4) := (blk_cell BK339.out 4).trans rfl; have hfz19_0 := blk_frozen BK339.out 0; have hfz19_1 := blk_frozen BK339.out 1; have hfz19_2 := blk_frozen BK339.out 2; have hfz19_3 := blk_frozen BK339.out 3; have hfz19_4 := blk_frozen BK339.out 4) | ((with_reducible refine gate_callee (f := 33) rfl ?_); refine goesL_ (some 31) rfl rfl Tryd.func33 (by kernel_rfl) rfl #[.agg #[.int .i64 a0_0, .int .i64 a0_1, .int .i64 a0_2, .int .i64 a0_3, .slice A0_4 l0_4.length c0_4]] rfl (by (try simp only [List.map_toArray, List.map_cons, List.map_nil]); first | done | rfl | (simp only [List.length_drop, List.length_take]; rfl)) ?_; (with_reducible refine (fill_Boxes.calls a0_0 a0_1 a0_2 a0_3 _ _ l0_4 t350 t351 _ ?side1 ?side2 ?side3 A7.out).mono ?_); (case side1 => exact Fl.Laid.below HLd0.out (by repeat (first | (with_reducible first | exact HB.out | apply below_alloc | apply pw_below_drewN | apply below_drew1 | refine below_set ?_ GE339.out) | exact HB.out))); (case side2 => repeat (first | exact (Kd.C_below HR0_4.out HB.out) | (with_reducible refine Kd.C_alloc ?_ _) | (with_reducible refine Kd.C_drewN ?_ _) | (with_reducible refine Kd.C_drew ?_))); (case side3 => exact HC0_4.out); rintro e w20 ⟨rfl, hb⟩; refine ⟨_, rfl, ?_⟩; have n0_ := Aside0.mk (Kd.V_below (by (with_reducible repeat (first | apply Kd.V_alloc | apply Kd.V_drewN | apply Kd.V_drew)); exact HO344.out) hb); have n1_ := Aside0.mk (Kd.V_below (by (with_reducible repeat (first | apply Kd.V_alloc | apply Kd.V_drewN | apply Kd.V_drew)); exact HO348.out) hb); have n2_ := Aside0.mk (blk_below (g := gb339) (o := .cells #[.int .i64 a0_0, .int .i64 a0_1, .int .i64 a0_2, .int .i64 a0_3, .slice A0_4 l0_4.length c0_4] 24 (0, 0)) (by (with_reducible repeat (first | refine blk_drewN ?_ _ | refine blk_drew ?_ | refine blk_alloc ?_ _)); exact BK339.out) hb); have n3_ := Aside0.mk (below_step (by repeat (first | (with_reducible first | exact HB.out | apply below_alloc | apply pw_below_drewN | apply below_drew1 | refine below_set ?_ GE339.out) | exact HB.out)) hb); clear HO344; clear HO348; clear BK339; clear HB; have HO344 := n0_; have HO348 := n1_; have BK339 := n2_; have HB := n3_; clear n0_ n1_ n2_ n3_; (try clear hb); (try clear hb2); (try clear hk); (try clear hi); have hcz21_0 : w20.cell? ⟨gb339, 0, none⟩ = some (.int .i64 a0_0) := (blk_cell BK339.out 0).trans rfl; have hcz21_1 : w20.cell? ⟨gb339, 1, none⟩ = some (.int .i64 a0_1) := (blk_cell BK339.out 1).trans rfl; have hcz21_2 : w20.cell? ⟨gb339, 2, none⟩ = some (.int .i64 a0_2) := (blk_cell BK339.out 2).trans rfl; have hcz21_3 : w20.cell? ⟨gb339, 3, none⟩ = some (.int .i64 a0_3) := (blk_cell BK339.out 3).trans rfl; have hcz21_4 : w20.cell? ⟨gb339, 4, none⟩ = some (.slice A0_4 l0_4.length c0_4) := (blk_cell BK339.out 4).trans rfl; have hfz21_0 := blk_frozen BK339.out 0; have hfz21_1 := blk_frozen BK339.out 1; have hfz21_2 := blk_frozen BK339.out 2; have hfz21_3 := blk_frozen BK339.out 3; have hfz21_4 := blk_frozen BK339.out 4) | ((with_reducible refine gate_callee (f := 39) rfl ?_); refine goesL_ (some 36) rfl rfl Tryd.func39 (by kernel_rfl) rfl #[.agg #[.int .i64 a0_0, .int .i64 a0_1, .int .i64 a0_2, .int .i64 a0_3, .slice A0_4 l0_4.length c0_4], .slice A1 l1.length c1] rfl (by (try simp only [List.map_toArray, List.map_cons, List.map_nil]); first | done | rfl | (simp only [List.length_drop, List.length_take]; rfl)) ?_; (with_reducible refine (luciferlaw05_drawn.calls k a0_0 a0_1 a0_2 a0_3 _ _ l0_4 _ _ l1 t352 _ ?side1 ?side2 ?side3 ?side4 A8.out).mono ?_); (case side1 => repeat (first | exact (Kd.C_below HR0_4.out HB.out) | (with_reducible refine Kd.C_alloc ?_ _) | (with_reducible refine Kd.C_drewN ?_ _) | (with_reducible refine Kd.C_drew ?_))); (case side2 => exact HC0_4.out); (case side3 => repeat (first | exact (Kd.C_below HR1.out HB.out) | (with_reducible refine Kd.C_alloc ?_ _) | (with_reducible refine Kd.C_drewN ?_ _) | (with_reducible refine Kd.C_drew ?_))); (case side4 => exact HC1.out); rintro e w22 ⟨v353, rfl, ho0, hb⟩; refine ⟨_, rfl, ?_⟩; have n0_ := Aside0.mk (Kd.V_elder' (by (with_reducible repeat (first | apply Kd.V_alloc | apply Kd.V_drewN | apply Kd.V_drew)); exact HO344.out) (Kd.R_base ho0) hb); have n1_ := Aside0.mk (Kd.V_elder' (by (with_reducible repeat (first | apply Kd.V_alloc | apply Kd.V_drewN | apply Kd.V_drew)); exact HO348.out) (Kd.R_base ho0) hb); have n2_ := Aside0.mk (Kd.R_lower ho0 (below_size (by repeat (first | (with_reducible first | exact HB.out | apply below_alloc | apply pw_below_drewN | apply below_drew1 | refine below_set ?_ GE339.out) | exact HB.out)))); have n3_ := Aside0.mk (blk_below (g := gb339) (o := .cells #[.int .i64 a0_0, .int .i64 a0_1, .int .i64 a0_2, .int .i64 a0_3, .slice A0_4 l0_4.length c0_4] 24 (0, 0)) (by (with_reducible repeat (first | refine blk_drewN ?_ _ | refine blk_drew ?_ | refine blk_alloc ?_ _)); exact BK339.out) hb); have n4_ := Aside0.mk (below_step (by repeat (first | (with_reducible first | exact HB.out | apply below_alloc | apply pw_below_drewN | apply below_drew1 | refine below_set ?_ GE339.out) | exact HB.out)) hb); clear HO344; clear HO348; clear BK339; clear HB; have HO344 := n0_; have HO348 := n1_; have HO354 := n2_; have BK339 := n3_; have HB := n4_; clear n0_ n1_ n2_ n3_ n4_; (try clear hb); (try clear hb2); (try clear hk); (try clear hi); (try clear ho0); have hcz23_0 : w22.cell? ⟨gb339, 0, none⟩ = some (.int .i64 a0_0) := (blk_cell BK339.out 0).trans rfl; have hcz23_1 : w22.cell? ⟨gb339, 1, none⟩ = some (.int .i64 a0_1) := (blk_cell BK339.out 1).trans rfl; have hcz23_2 : w22.cell? ⟨gb339, 2, none⟩ = some (.int .i64 a0_2) := (blk_cell BK339.out 2).trans rfl; have hcz23_3 : w22.cell? ⟨gb339, 3, none⟩ = some (.int .i64 a0_3) := (blk_cell BK339.out 3).trans rfl; have hcz23_4 : w22.cell? ⟨gb339, 4, none⟩ = some (.slice A0_4 l0_4.length c0_4) := (blk_cell BK339.out 4).trans rfl; have hfz23_0 := blk_frozen BK339.out 0; have hfz23_1 := blk_frozen BK339.out 1; have hfz23_2 := blk_frozen BK339.out 2; have hfz23_3 := blk_frozen BK339.out 3; have hfz23_4 := blk_frozen BK339.out 4; obtain ⟨Ao24, co24, eo24⟩ := Kd.R_slice HO354.out; subst eo24) | ((with_reducible refine gate_callee (f := 26) rfl ?_); refine goesL_ (some 40) rfl rfl Tryd.func26 (by kernel_rfl) rfl #[.agg #[.int .i64 a0_0, .int .i64 a0_1, .int .i64 a0_2, .int .i64 a0_3, .slice A0_4 l0_4.length c0_4], .slice Ao24 t352.length co24] rfl (by (try simp only [List.map_toArray, List.map_cons, List.map_nil]); first | done | rfl | (simp only [List.length_drop, List.length_take]; rfl)) ?_; (with_reducible refine (fill_ByHand.calls a0_0 a0_1 a0_2 a0_3 _ _ l0_4 _ _ t352 t355 t358 _ ?side1 ?side2 ?side3 ?side4 ?side5 A9.out).mono ?_); (case side1 => exact Fl.Laid.below HLd0.out (by repeat (first | (with_reducible first | exact HB.out | apply below_alloc | apply pw_below_drewN | apply below_drew1 | refine below_set ?_ GE339.out) | exact HB.out))); (case side2 => repeat (first | exact (Kd.C_below HR0_4.out HB.out) | (with_reducible refine Kd.C_alloc ?_ _) | (with_reducible refine Kd.C_drewN ?_ _) | (with_reducible refine Kd.C_drew ?_))); (case side3 => exact HC0_4.out); (case side4 => repeat (first | exact (Kd.R_reads' HO354.out).2.2 | (with_reducible refine Kd.C_alloc ?_ _) | (with_reducible refine Kd.C_drewN ?_ _) | (with_reducible refine Kd.C_drew ?_))); (case side5 => exact (Kd.R_reads' HO354.out).2.1); rintro e w25 ⟨v356, rfl, ho0, hb⟩; refine ⟨_, rfl, ?_⟩; have n0_ := Aside0.mk (Kd.V_below (by (with_reducible repeat (first | apply Kd.V_alloc | apply Kd.V_drewN | apply Kd.V_drew)); exact HO344.out) hb); have n1_ := Aside0.mk (Kd.V_below (by (with_reducible repeat (first | apply Kd.V_alloc | apply Kd.V_drewN | apply Kd.V_drew)); exact HO348.out) hb); have n2_ := Aside0.mk (Kd.R_below (by (with_reducible repeat (first | apply Kd.R_alloc | apply Kd.R_drewN | apply Kd.R_drew)); exact HO354.out) hb); have n3_ := Aside0.mk (Kd.V_lower (Kd.V_mono (ok' := fun k_ => some k_ ≠ (.slice Ao24 t352.length co24 : Value).ownBlock ∧ k_ ≠ gb339) ho0 (fun k_ hk_ => ⟨(Kd.fresh' (Kd.R_lt (by (with_reducible repeat (first | apply Kd.R_alloc | apply Kd.R_drewN | apply Kd.R_drew)); exact HO354.out)) k_ hk_), (Kd.freshB (g := gb339) (o := .cells #[.int .i64 a0_0, .int .i64 a0_1, .int .i64 a0_2, .int .i64 a0_3, .slice A0_4 l0_4.length c0_4] 24 (0, 0)) (by (with_reducible repeat (first | refine blk_drewN ?_ _ | refine blk_drew ?_ | refine blk_alloc ?_ _)); exact BK339.out) k_ hk_)⟩)) (below_size (by repeat (first | (with_reducible first | exact HB.out | apply below_alloc | apply pw_below_drewN | apply below_drew1 | refine below_set ?_ GE339.out) | exact HB.out)))); have n4_ := Aside0.mk (blk_below (g := gb339) (o := .cells #[.int .i64 a0_0, .int .i64 a0_1, .int .i64 a0_2, .int .i64 a0_3, .slice A0_4 l0_4.length c0_4] 24 (0, 0)) (by (with_reducible repeat (first | refine blk_drewN ?_ _ | refine blk_drew ?_ | refine blk_alloc ?_ _)); exact BK339.out) hb); have n5_ := Aside0.mk (below_step (by repeat (first | (with_reducible first | exact HB.out | apply below_alloc | apply pw_below_drewN | apply below_drew1 | refine below_set ?_ GE339.out) | exact HB.out)) hb); clear HO344; clear HO348; clear HO354; clear BK339; clear HB; have HO344 := n0_; have HO348 := n1_; have HO354 := n2_; have HO357 := n3_; have BK339 := n4_; have HB := n5_; clear n0_ n1_ n2_ n3_ n4_ n5_; (try clear hb); (try clear hb2); (try clear hk); (try clear hi); (try clear ho0)))
    (try simp only [Act.put, List.setIfInBounds_toArray, List.set_cons_zero, List.set_cons_succ])
    go_cut [100] (fun v100 wc => ∃ (kq : Nat) (x100_9 : Bool), v100 = .bool x100_9 ∧ Aside0 (luciferlaw05_FillFewest.j0 kq t342 t346 t352 t355 x100_9 = some r) ∧ Aside0 (kq ≤ k) ∧ Aside0 (Kd.V (Kd.int .i64) 3 wc w.heap.size (fun k_ => some k_ ≠ ((.slice Ao24 t352.length co24) : Value).ownBlock ∧ k_ ≠ gb339) (.slice Ao17 t342.length co17) t342) ∧ Aside0 (Kd.V (Kd.int .i64) 3 wc w.heap.size (fun k_ => some k_ ≠ ((.slice Ao24 t352.length co24) : Value).ownBlock ∧ k_ ≠ gb339) v347 t346) ∧ Aside0 (Kd.R (Kd.int .i64) 3 wc w.heap.size (fun _ => True) (.slice Ao24 t352.length co24) t352) ∧ Aside0 (Kd.V (Kd.int .i64) 3 wc w.heap.size (fun k_ => some k_ ≠ ((.slice Ao24 t352.length co24) : Value).ownBlock ∧ k_ ≠ gb339) v356 t355) ∧ Aside0 (wc.heap[gb339]? = some (.cells #[.int .i64 a0_0, .int .i64 a0_1, .int .i64 a0_2, .int .i64 a0_3, (.slice A0_4 l0_4.length c0_4)] 24 (0, 0))) ∧ Aside0 (Below w.heap.size w wc))
    case first =>
      have H := HC10.out
      clear HC10
      by_cases c26 : t345 = 0
      · rw [if_pos c26] at H
        have c26b0 : (t345 == 0) = true := beq_iff_eq.mpr c26
        have c26b1 : (t345 != 0) = false := bne_eq_false_iff_eq.mpr c26
        clear c26
        (first | rw [c26b0] | (simp only [i64_w, i32_w]; rw [c26b0]) | skip)
        by_cases c27 : t349 = 0
        · rw [if_pos c27] at H
          have c27b0 : (t349 == 0) = true := beq_iff_eq.mpr c27
          have c27b1 : (t349 != 0) = false := bne_eq_false_iff_eq.mpr c27
          clear c27
          by_cases c28 : t351 = 0
          · rw [if_pos c28] at H
            have c28b0 : (t351 == 0) = true := beq_iff_eq.mpr c28
            have c28b1 : (t351 != 0) = false := bne_eq_false_iff_eq.mpr c28
            clear c28
            by_cases c29 : t358 = 0
            · rw [if_pos c29] at H
              have c29b0 : (t358 == 0) = true := beq_iff_eq.mpr c29
              have c29b1 : (t358 != 0) = false := bne_eq_false_iff_eq.mpr c29
              clear c29
              replace H := Option.bind_eq_some_iff.mp H
              obtain ⟨t359, A300, H⟩ := H
              replace H : (if t359 = true then ((luciferlaw05_plan.f a0_0 a0_1 a0_2 a0_3 l0_4 t352).bind fun t360 => (if t360 = true then (if (t355.length : Int) < (t346.length : Int) then (luciferlaw05_FillFewest.j0 k t342 t346 t352 t355 true) else (if (wrap64 ((t352.length : Int) - (t355.length : Int))) > t350 then (luciferlaw05_FillFewest.j0 k t342 t346 t352 t355 true) else (if (wrap64 ((t342.length : Int) - (t346.length : Int))) > t350 then (luciferlaw05_FillFewest.j0 k t342 t346 t352 t355 true) else (luciferlaw05_FillFewest.j0 k t342 t346 t352 t355 (decide (t350 > (l0_4.length : Int))))))) else (luciferlaw05_FillFewest.j0 k t342 t346 t352 t355 true))) else (luciferlaw05_FillFewest.j0 k t342 t346 t352 t355 true)) = some r := H
              have A30 := Aside0.mk A300
              clear A300
              by_cases c31 : t359 = true
              · subst c31
                have H1 : ((luciferlaw05_plan.f a0_0 a0_1 a0_2 a0_3 l0_4 t352).bind fun t360 => (if t360 = true then (if (t355.length : Int) < (t346.length : Int) then (luciferlaw05_FillFewest.j0 k t342 t346 t352 t355 true) else (if (wrap64 ((t352.length : Int) - (t355.length : Int))) > t350 then (luciferlaw05_FillFewest.j0 k t342 t346 t352 t355 true) else (if (wrap64 ((t342.length : Int) - (t346.length : Int))) > t350 then (luciferlaw05_FillFewest.j0 k t342 t346 t352 t355 true) else (luciferlaw05_FillFewest.j0 k t342 t346 t352 t355 (decide (t350 > (l0_4.length : Int))))))) else (luciferlaw05_FillFewest.j0 k t342 t346 t352 t355 true))) = some r := by rw [if_pos rfl] at H; exact H
                clear H
                have H := H1
                clear H1
                replace H := Option.bind_eq_some_iff.mp H
                obtain ⟨t360, A320, H⟩ := H
                replace H : (if t360 = true then (if (t355.length : Int) < (t346.length : Int) then (luciferlaw05_FillFewest.j0 k t342 t346 t352 t355 true) else (if (wrap64 ((t352.length : Int) - (t355.length : Int))) > t350 then (luciferlaw05_FillFewest.j0 k t342 t346 t352 t355 true) else (if (wrap64 ((t342.length : Int) - (t346.length : Int))) > t350 then (luciferlaw05_FillFewest.j0 k t342 t346 t352 t355 true) else (luciferlaw05_FillFewest.j0 k t342 t346 t352 t355 (decide (t350 > (l0_4.length : Int))))))) else (luciferlaw05_FillFewest.j0 k t342 t346 t352 t355 true)) = some r := H
                have A32 := Aside0.mk A320
                clear A320
                by_cases c33 : t360 = true
                · subst c33
                  have H1 : (if (t355.length : Int) < (t346.length : Int) then (luciferlaw05_FillFewest.j0 k t342 t346 t352 t355 true) else (if (wrap64 ((t352.length : Int) - (t355.length : Int))) > t350 then (luciferlaw05_FillFewest.j0 k t342 t346 t352 t355 true) else (if (wrap64 ((t342.length : Int) - (t346.length : Int))) > t350 then (luciferlaw05_FillFewest.j0 k t342 t346 t352 t355 true) else (luciferlaw05_FillFewest.j0 k t342 t346 t352 t355 (decide (t350 > (l0_4.length : Int))))))) = some r := by rw [if_pos rfl] at H; exact H
                  clear H
                  have H := H1
                  clear H1
                  by_cases c34 : (t355.length : Int) < (t346.length : Int)
                  · rw [if_pos c34] at H
                    have c34b0 : decide ((t355.length : Int) < (t346.length : Int)) = true := decide_eq_true c34
                    have c34b1 : decide (t355.length < t346.length) = true := decide_eq_true (Int.ofNat_lt.mp c34)
                    clear c34
                    have H' := Aside0.mk H
                    clear H
                    have hcz35_0 : w25.cell? ⟨gb339, 0, none⟩ = some (.int .i64 a0_0) := (blk_cell BK339.out 0).trans rfl
                    have hcz35_1 : w25.cell? ⟨gb339, 1, none⟩ = some (.int .i64 a0_1) := (blk_cell BK339.out 1).trans rfl
                    have hcz35_2 : w25.cell? ⟨gb339, 2, none⟩ = some (.int .i64 a0_2) := (blk_cell BK339.out 2).trans rfl
                    have hcz35_3 : w25.cell? ⟨gb339, 3, none⟩ = some (.int .i64 a0_3) := (blk_cell BK339.out 3).trans rfl
                    have hcz35_4 : w25.cell? ⟨gb339, 4, none⟩ = some (.slice A0_4 l0_4.length c0_4) := (blk_cell BK339.out 4).trans rfl
                    have hfz35_0 := blk_frozen BK339.out 0
                    have hfz35_1 := blk_frozen BK339.out 1
                    have hfz35_2 := blk_frozen BK339.out 2
                    have hfz35_3 := blk_frozen BK339.out 3
                    have hfz35_4 := blk_frozen BK339.out 4
                    go_wp2_with (first | (go_at_call 40; (with_reducible refine (luciferlaw05_plan.calls a0_0 a0_1 a0_2 a0_3 _ _ l0_4 _ _ t342 true _ ?side1 ?side2 ?side3 ?side4 A30.out).mono ?_); (case side1 => repeat (first | exact (Kd.C_below HR0_4.out HB.out) | (with_reducible refine Kd.C_alloc ?_ _) | (with_reducible refine Kd.C_drewN ?_ _) | (with_reducible refine Kd.C_drew ?_))); (case side2 => exact HC0_4.out); (case side3 => repeat (first | exact (Kd.V_reads' HO344.out).2.2 | (with_reducible refine Kd.C_alloc ?_ _) | (with_reducible refine Kd.C_drewN ?_ _) | (with_reducible refine Kd.C_drew ?_))); (case side4 => exact (Kd.V_reads' HO344.out).2.1); rintro e w36 ⟨rfl, hb⟩; have n0_ := Aside0.mk (Kd.V_below (by (with_reducible repeat (first | apply Kd.V_alloc | apply Kd.V_drewN | apply Kd.V_drew)); exact HO344.out) hb); have n1_ := Aside0.mk (Kd.V_below (by (with_reducible repeat (first | apply Kd.V_alloc | apply Kd.V_drewN | apply Kd.V_drew)); exact HO348.out) hb); have n2_ := Aside0.mk (Kd.R_below (by (with_reducible repeat (first | apply Kd.R_alloc | apply Kd.R_drewN | apply Kd.R_drew)); exact HO354.out) hb); have n3_ := Aside0.mk (Kd.V_below (by (with_reducible repeat (first | apply Kd.V_alloc | apply Kd.V_drewN | apply Kd.V_drew)); exact HO357.out) hb); have n4_ := Aside0.mk (blk_below (g := gb339) (o := .cells #[.int .i64 a0_0, .int .i64 a0_1, .int .i64 a0_2, .int .i64 a0_3, .slice A0_4 l0_4.length c0_4] 24 (0, 0)) (by (with_reducible repeat (first | refine blk_drewN ?_ _ | refine blk_drew ?_ | refine blk_alloc ?_ _)); exact BK339.out) hb); have n5_ := Aside0.mk (below_step (by repeat (first | (with_reducible first | exact HB.out | apply below_alloc | apply pw_below_drewN | apply below_drew1 | refine below_set ?_ GE339.out) | exact HB.out)) hb); clear HO344; clear HO348; clear HO354; clear HO357; clear BK339; clear HB; have HO344 := n0_; have HO348 := n1_; have HO354 := n2_; have HO357 := n3_; have BK339 := n4_; have HB := n5_; clear n0_ n1_ n2_ n3_ n4_ n5_; (try clear hb); (try clear hb2); (try clear hk); (try clear hi); have hcz37_0 : w36.cell? ⟨gb339, 0, none⟩ = some (.int .i64 a0_0) := (blk_cell BK339.out 0).trans rfl; have hcz37_1 : w36.cell? ⟨gb339, 1, none⟩ = some (.int .i64 a0_1) := (blk_cell BK339.out 1).trans rfl; have hcz37_2 : w36.cell? ⟨gb339, 2, none⟩ = some (.int .i64 a0_2) := (blk_cell BK339.out 2).trans rfl; have hcz37_3 : w36.cell? ⟨gb339, 3, none⟩ = some (.int .i64 a0_3) := (blk_cell BK339.out 3).trans rfl; have hcz37_4 : w36.cell? ⟨gb339, 4, none⟩ = some (.slice A0_4 l0_4.length c0_4) := (blk_cell BK339.out 4).trans rfl; have hfz37_0 := blk_frozen BK339.out 0; have hfz37_1 := blk_frozen BK339.out 1; have hfz37_2 := blk_frozen BK339.out 2; have hfz37_3 := blk_frozen BK339.out 3; have hfz37_4 := blk_frozen BK339.out 4) | (go_at_call 40; (with_reducible refine (luciferlaw05_plan.calls a0_0 a0_1 a0_2 a0_3 _ _ l0_4 _ _ t352 true _ ?side1 ?side2 ?side3 ?side4 A32.out).mono ?_); (case side1 => repeat (first | exact (Kd.C_below HR0_4.out HB.out) | (with_reducible refine Kd.C_alloc ?_ _) | (with_reducible refine Kd.C_drewN ?_ _) | (with_reducible refine Kd.C_drew ?_))); (case side2 => exact HC0_4.out); (case side3 => repeat (first | exact (Kd.R_reads' HO354.out).2.2 | (with_reducible refine Kd.C_alloc ?_ _) | (with_reducible refine Kd.C_drewN ?_ _) | (with_reducible refine Kd.C_drew ?_))); (case side4 => exact (Kd.R_reads' HO354.out).2.1); rintro e w38 ⟨rfl, hb⟩; have n0_ := Aside0.mk (Kd.V_below (by (with_reducible repeat (first | apply Kd.V_alloc | apply Kd.V_drewN | apply Kd.V_drew)); exact HO344.out) hb); have n1_ := Aside0.mk (Kd.V_below (by (with_reducible repeat (first | apply Kd.V_alloc | apply Kd.V_drewN | apply Kd.V_drew)); exact HO348.out) hb); have n2_ := Aside0.mk (Kd.R_below (by (with_reducible repeat (first | apply Kd.R_alloc | apply Kd.R_drewN | apply Kd.R_drew)); exact HO354.out) hb); have n3_ := Aside0.mk (Kd.V_below (by (with_reducible repeat (first | apply Kd.V_alloc | apply Kd.V_drewN | apply Kd.V_drew)); exact HO357.out) hb); have n4_ := Aside0.mk (blk_below (g := gb339) (o := .cells #[.int .i64 a0_0, .int .i64 a0_1, .int .i64 a0_2, .int .i64 a0_3, .slice A0_4 l0_4.length c0_4] 24 (0, 0)) (by (with_reducible repeat (first | refine blk_drewN ?_ _ | refine blk_drew ?_ | refine blk_alloc ?_ _)); exact BK339.out) hb); have n5_ := Aside0.mk (below_step (by repeat (first | (with_reducible first | exact HB.out | apply below_alloc | apply pw_below_drewN | apply below_drew1 | refine below_set ?_ GE339.out) | exact HB.out)) hb); clear HO344; clear HO348; clear HO354; clear HO357; clear BK339; clear HB; have HO344 := n0_; have HO348 := n1_; have HO354 := n2_; have HO357 := n3_; have BK339 := n4_; have HB := n5_; clear n0_ n1_ n2_ n3_ n4_ n5_; (try clear hb); (try clear hb2); (try clear hk); (try clear hi); obtain ⟨Ao39, co39, eo39⟩ := Kd.V_slice HO357.out; subst eo39; obtain ⟨Ao40, co40, eo40⟩ := Kd.V_slice HO348.out; subst eo40))
                    go_meet
                    case rel => exact ⟨_, (true), (by first | rfl | (simp; done) | (simp [*]; done)), H', ⟨by first | omega | exact Nat.le_refl _⟩, ⟨by (with_reducible repeat (first | apply Kd.V_alloc | apply Kd.V_drewN | apply Kd.V_drew)); exact Kd.V_mono HO344.out (fun _ hk => ⟨hk.2, hk.1⟩)⟩, ⟨by (with_reducible repeat (first | apply Kd.V_alloc | apply Kd.V_drewN | apply Kd.V_drew)); exact Kd.V_mono HO348.out (fun _ hk => ⟨hk.2, hk.1⟩)⟩, ⟨by (with_reducible repeat (first | apply Kd.R_alloc | apply Kd.R_drewN | apply Kd.R_drew)); exact HO354.out⟩, ⟨by (with_reducible repeat (first | apply Kd.V_alloc | apply Kd.V_drewN | apply Kd.V_drew)); exact HO357.out⟩, ⟨by (with_reducible repeat (first | refine blk_drewN ?_ _ | refine blk_drew ?_ | refine blk_alloc ?_ _)); exact BK339.out⟩, ⟨by repeat (first | (with_reducible first | exact HB.out | apply below_alloc | apply pw_below_drewN | apply below_drew1 | refine below_set ?_ GE339.out) | exact HB.out)⟩⟩
                  · rw [if_neg c34] at H
                    have c34b0 : decide ((t355.length : Int) < (t346.length : Int)) = false := decide_eq_false c34
                    have c34b1 : decide (t355.length < t346.length) = false := decide_eq_false (fun h => c34 (Int.ofNat_lt.mpr h))
                    clear c34
                    by_cases c41 : (wrap64 ((t352.length : Int) - (t355.length : Int))) > t350
                    · rw [if_pos c41] at H
                      have c41b0 : decide (t350 < (wrap64 ((t352.length : Int) - (t355.length : Int)))) = true := decide_eq_true c41
                      clear c41
                      have H' := Aside0.mk H
                      clear H
                      have hcz42_0 : w25.cell? ⟨gb339, 0, none⟩ = some (.int .i64 a0_0) := (blk_cell BK339.out 0).trans rfl
                      have hcz42_1 : w25.cell? ⟨gb339, 1, none⟩ = some (.int .i64 a0_1) := (blk_cell BK339.out 1).trans rfl
                      have hcz42_2 : w25.cell? ⟨gb339, 2, none⟩ = some (.int .i64 a0_2) := (blk_cell BK339.out 2).trans rfl
                      have hcz42_3 : w25.cell? ⟨gb339, 3, none⟩ = some (.int .i64 a0_3) := (blk_cell BK339.out 3).trans rfl
                      have hcz42_4 : w25.cell? ⟨gb339, 4, none⟩ = some (.slice A0_4 l0_4.length c0_4) := (blk_cell BK339.out 4).trans rfl
                      have hfz42_0 := blk_frozen BK339.out 0
                      have hfz42_1 := blk_frozen BK339.out 1
                      have hfz42_2 := blk_frozen BK339.out 2
                      have hfz42_3 := blk_frozen BK339.out 3
                      have hfz42_4 := blk_frozen BK339.out 4
                      go_wp2_with (first | (go_at_call 40; (with_reducible refine (luciferlaw05_plan.calls a0_0 a0_1 a0_2 a0_3 _ _ l0_4 _ _ t342 true _ ?side1 ?side2 ?side3 ?side4 A30.out).mono ?_); (case side1 => repeat (first | exact (Kd.C_below HR0_4.out HB.out) | (with_reducible refine Kd.C_alloc ?_ _) | (with_reducible refine Kd.C_drewN ?_ _) | (with_reducible refine Kd.C_drew ?_))); (case side2 => exact HC0_4.out); (case side3 => repeat (first | exact (Kd.V_reads' HO344.out).2.2 | (with_reducible refine Kd.C_alloc ?_ _) | (with_reducible refine Kd.C_drewN ?_ _) | (with_reducible refine Kd.C_drew ?_))); (case side4 => exact (Kd.V_reads' HO344.out).2.1); rintro e w43 ⟨rfl, hb⟩; have n0_ := Aside0.mk (Kd.V_below (by (with_reducible repeat (first | apply Kd.V_alloc | apply Kd.V_drewN | apply Kd.V_drew)); exact HO344.out) hb); have n1_ := Aside0.mk (Kd.V_below (by (with_reducible repeat (first | apply Kd.V_alloc | apply Kd.V_drewN | apply Kd.V_drew)); exact HO348.out) hb); have n2_ := Aside0.mk (Kd.R_below (by (with_reducible repeat (first | apply Kd.R_alloc | apply Kd.R_drewN | apply Kd.R_drew)); exact HO354.out) hb); have n3_ := Aside0.mk (Kd.V_below (by (with_reducible repeat (first | apply Kd.V_alloc | apply Kd.V_drewN | apply Kd.V_drew)); exact HO357.out) hb); have n4_ := Aside0.mk (blk_below (g := gb339) (o := .cells #[.int .i64 a0_0, .int .i64 a0_1, .int .i64 a0_2, .int .i64 a0_3, .slice A0_4 l0_4.length c0_4] 24 (0, 0)) (by (with_reducible repeat (first | refine blk_drewN ?_ _ | refine blk_drew ?_ | refine blk_alloc ?_ _)); exact BK339.out) hb); have n5_ := Aside0.mk (below_step (by repeat (first | (with_reducible first | exact HB.out | apply below_alloc | apply pw_below_drewN | apply below_drew1 | refine below_set ?_ GE339.out) | exact HB.out)) hb); clear HO344; clear HO348; clear HO354; clear HO357; clear BK339; clear HB; have HO344 := n0_; have HO348 := n1_; have HO354 := n2_; have HO357 := n3_; have BK339 := n4_; have HB := n5_; clear n0_ n1_ n2_ n3_ n4_ n5_; (try clear hb); (try clear hb2); (try clear hk); (try clear hi); have hcz44_0 : w43.cell? ⟨gb339, 0, none⟩ = some (.int .i64 a0_0) := (blk_cell BK339.out 0).trans rfl; have hcz44_1 : w43.cell? ⟨gb339, 1, none⟩ = some (.int .i64 a0_1) := (blk_cell BK339.out 1).trans rfl; have hcz44_2 : w43.cell? ⟨gb339, 2, none⟩ = some (.int .i64 a0_2) := (blk_cell BK339.out 2).trans rfl; have hcz44_3 : w43.cell? ⟨gb339, 3, none⟩ = some (.int .i64 a0_3) := (blk_cell BK339.out 3).trans rfl; have hcz44_4 : w43.cell? ⟨gb339, 4, none⟩ = some (.slice A0_4 l0_4.length c0_4) := (blk_cell BK339.out 4).trans rfl; have hfz44_0 := blk_frozen BK339.out 0; have hfz44_1 := blk_frozen BK339.out 1; have hfz44_2 := blk_frozen BK339.out 2; have hfz44_3 := blk_frozen BK339.out 3; have hfz44_4 := blk_frozen BK339.out 4) | (go_at_call 40; (with_reducible refine (luciferlaw05_plan.calls a0_0 a0_1 a0_2 a0_3 _ _ l0_4 _ _ t352 true _ ?side1 ?side2 ?side3 ?side4 A32.out).mono ?_); (case side1 => repeat (first | exact (Kd.C_below HR0_4.out HB.out) | (with_reducible refine Kd.C_alloc ?_ _) | (with_reducible refine Kd.C_drewN ?_ _) | (with_reducible refine Kd.C_drew ?_))); (case side2 => exact HC0_4.out); (case side3 => repeat (first | exact (Kd.R_reads' HO354.out).2.2 | (with_reducible refine Kd.C_alloc ?_ _) | (with_reducible refine Kd.C_drewN ?_ _) | (with_reducible refine Kd.C_drew ?_))); (case side4 => exact (Kd.R_reads' HO354.out).2.1); rintro e w45 ⟨rfl, hb⟩; have n0_ := Aside0.mk (Kd.V_below (by (with_reducible repeat (first | apply Kd.V_alloc | apply Kd.V_drewN | apply Kd.V_drew)); exact HO344.out) hb); have n1_ := Aside0.mk (Kd.V_below (by (with_reducible repeat (first | apply Kd.V_alloc | apply Kd.V_drewN | apply Kd.V_drew)); exact HO348.out) hb); have n2_ := Aside0.mk (Kd.R_below (by (with_reducible repeat (first | apply Kd.R_alloc | apply Kd.R_drewN | apply Kd.R_drew)); exact HO354.out) hb); have n3_ := Aside0.mk (Kd.V_below (by (with_reducible repeat (first | apply Kd.V_alloc | apply Kd.V_drewN | apply Kd.V_drew)); exact HO357.out) hb); have n4_ := Aside0.mk (blk_below (g := gb339) (o := .cells #[.int .i64 a0_0, .int .i64 a0_1, .int .i64 a0_2, .int .i64 a0_3, .slice A0_4 l0_4.length c0_4] 24 (0, 0)) (by (with_reducible repeat (first | refine blk_drewN ?_ _ | refine blk_drew ?_ | refine blk_alloc ?_ _)); exact BK339.out) hb); have n5_ := Aside0.mk (below_step (by repeat (first | (with_reducible first | exact HB.out | apply below_alloc | apply pw_below_drewN | apply below_drew1 | refine below_set ?_ GE339.out) | exact HB.out)) hb); clear HO344; clear HO348; clear HO354; clear HO357; clear BK339; clear HB; have HO344 := n0_; have HO348 := n1_; have HO354 := n2_; have HO357 := n3_; have BK339 := n4_; have HB := n5_; clear n0_ n1_ n2_ n3_ n4_ n5_; (try clear hb); (try clear hb2); (try clear hk); (try clear hi); obtain ⟨Ao46, co46, eo46⟩ := Kd.V_slice HO357.out; subst eo46; obtain ⟨Ao47, co47, eo47⟩ := Kd.V_slice HO348.out; subst eo47))
                      go_meet
                      case rel => exact ⟨_, (true), (by first | rfl | (simp; done) | (simp [*]; done)), H', ⟨by first | omega | exact Nat.le_refl _⟩, ⟨by (with_reducible repeat (first | apply Kd.V_alloc | apply Kd.V_drewN | apply Kd.V_drew)); exact Kd.V_mono HO344.out (fun _ hk => ⟨hk.2, hk.1⟩)⟩, ⟨by (with_reducible repeat (first | apply Kd.V_alloc | apply Kd.V_drewN | apply Kd.V_drew)); exact Kd.V_mono HO348.out (fun _ hk => ⟨hk.2, hk.1⟩)⟩, ⟨by (with_reducible repeat (first | apply Kd.R_alloc | apply Kd.R_drewN | apply Kd.R_drew)); exact HO354.out⟩, ⟨by (with_reducible repeat (first | apply Kd.V_alloc | apply Kd.V_drewN | apply Kd.V_drew)); exact HO357.out⟩, ⟨by (with_reducible repeat (first | refine blk_drewN ?_ _ | refine blk_drew ?_ | refine blk_alloc ?_ _)); exact BK339.out⟩, ⟨by repeat (first | (with_reducible first | exact HB.out | apply below_alloc | apply pw_below_drewN | apply below_drew1 | refine below_set ?_ GE339.out) | exact HB.out)⟩⟩
                    · rw [if_neg c41] at H
                      have c41b0 : decide (t350 < (wrap64 ((t352.length : Int) - (t355.length : Int)))) = false := decide_eq_false c41
                      clear c41
                      by_cases c48 : (wrap64 ((t342.length : Int) - (t346.length : Int))) > t350
                      · rw [if_pos c48] at H
                        have c48b0 : decide (t350 < (wrap64 ((t342.length : Int) - (t346.length : Int)))) = true := decide_eq_true c48
                        clear c48
                        have H' := Aside0.mk H
                        clear H
                        have hcz49_0 : w25.cell? ⟨gb339, 0, none⟩ = some (.int .i64 a0_0) := (blk_cell BK339.out 0).trans rfl
                        have hcz49_1 : w25.cell? ⟨gb339, 1, none⟩ = some (.int .i64 a0_1) := (blk_cell BK339.out 1).trans rfl
                        have hcz49_2 : w25.cell? ⟨gb339, 2, none⟩ = some (.int .i64 a0_2) := (blk_cell BK339.out 2).trans rfl
                        have hcz49_3 : w25.cell? ⟨gb339, 3, none⟩ = some (.int .i64 a0_3) := (blk_cell BK339.out 3).trans rfl
                        have hcz49_4 : w25.cell? ⟨gb339, 4, none⟩ = some (.slice A0_4 l0_4.length c0_4) := (blk_cell BK339.out 4).trans rfl
                        have hfz49_0 := blk_frozen BK339.out 0
                        have hfz49_1 := blk_frozen BK339.out 1
                        have hfz49_2 := blk_frozen BK339.out 2
                        have hfz49_3 := blk_frozen BK339.out 3
                        have hfz49_4 := blk_frozen BK339.out 4
                        go_wp2_with (first | (go_at_call 40; (with_reducible refine (luciferlaw05_plan.calls a0_0 a0_1 a0_2 a0_3 _ _ l0_4 _ _ t342 true _ ?side1 ?side2 ?side3 ?side4 A30.out).mono ?_); (case side1 => repeat (first | exact (Kd.C_below HR0_4.out HB.out) | (with_reducible refine Kd.C_alloc ?_ _) | (with_reducible refine Kd.C_drewN ?_ _) | (with_reducible refine Kd.C_drew ?_))); (case side2 => exact HC0_4.out); (case side3 => repeat (first | exact (Kd.V_reads' HO344.out).2.2 | (with_reducible refine Kd.C_alloc ?_ _) | (with_reducible refine Kd.C_drewN ?_ _) | (with_reducible refine Kd.C_drew ?_))); (case side4 => exact (Kd.V_reads' HO344.out).2.1); rintro e w50 ⟨rfl, hb⟩; have n0_ := Aside0.mk (Kd.V_below (by (with_reducible repeat (first | apply Kd.V_alloc | apply Kd.V_drewN | apply Kd.V_drew)); exact HO344.out) hb); have n1_ := Aside0.mk (Kd.V_below (by (with_reducible repeat (first | apply Kd.V_alloc | apply Kd.V_drewN | apply Kd.V_drew)); exact HO348.out) hb); have n2_ := Aside0.mk (Kd.R_below (by (with_reducible repeat (first | apply Kd.R_alloc | apply Kd.R_drewN | apply Kd.R_drew)); exact HO354.out) hb); have n3_ := Aside0.mk (Kd.V_below (by (with_reducible repeat (first | apply Kd.V_alloc | apply Kd.V_drewN | apply Kd.V_drew)); exact HO357.out) hb); have n4_ := Aside0.mk (blk_below (g := gb339) (o := .cells #[.int .i64 a0_0, .int .i64 a0_1, .int .i64 a0_2, .int .i64 a0_3, .slice A0_4 l0_4.length c0_4] 24 (0, 0)) (by (with_reducible repeat (first | refine blk_drewN ?_ _ | refine blk_drew ?_ | refine blk_alloc ?_ _)); exact BK339.out) hb); have n5_ := Aside0.mk (below_step (by repeat (first | (with_reducible first | exact HB.out | apply below_alloc | apply pw_below_drewN | apply below_drew1 | refine below_set ?_ GE339.out) | exact HB.out)) hb); clear HO344; clear HO348; clear HO354; clear HO357; clear BK339; clear HB; have HO344 := n0_; have HO348 := n1_; have HO354 := n2_; have HO357 := n3_; have BK339 := n4_; have HB := n5_; clear n0_ n1_ n2_ n3_ n4_ n5_; (try clear hb); (try clear hb2); (try clear hk); (try clear hi); have hcz51_0 : w50.cell? ⟨gb339, 0, none⟩ = some (.int .i64 a0_0) := (blk_cell BK339.out 0).trans rfl; have hcz51_1 : w50.cell? ⟨gb339, 1, none⟩ = some (.int .i64 a0_1) := (blk_cell BK339.out 1).trans rfl; have hcz51_2 : w50.cell? ⟨gb339, 2, none⟩ = some (.int .i64 a0_2) := (blk_cell BK339.out 2).trans rfl; have hcz51_3 : w50.cell? ⟨gb339, 3, none⟩ = some (.int .i64 a0_3) := (blk_cell BK339.out 3).trans rfl; have hcz51_4 : w50.cell? ⟨gb339, 4, none⟩ = some (.slice A0_4 l0_4.length c0_4) := (blk_cell BK339.out 4).trans rfl; have hfz51_0 := blk_frozen BK339.out 0; have hfz51_1 := blk_frozen BK339.out 1; have hfz51_2 := blk_frozen BK339.out 2; have hfz51_3 := blk_frozen BK339.out 3; have hfz51_4 := blk_frozen BK339.out 4) | (go_at_call 40; (with_reducible refine (luciferlaw05_plan.calls a0_0 a0_1 a0_2 a0_3 _ _ l0_4 _ _ t352 true _ ?side1 ?side2 ?side3 ?side4 A32.out).mono ?_); (case side1 => repeat (first | exact (Kd.C_below HR0_4.out HB.out) | (with_reducible refine Kd.C_alloc ?_ _) | (with_reducible refine Kd.C_drewN ?_ _) | (with_reducible refine Kd.C_drew ?_))); (case side2 => exact HC0_4.out); (case side3 => repeat (first | exact (Kd.R_reads' HO354.out).2.2 | (with_reducible refine Kd.C_alloc ?_ _) | (with_reducible refine Kd.C_drewN ?_ _) | (with_reducible refine Kd.C_drew ?_))); (case side4 => exact (Kd.R_reads' HO354.out).2.1); rintro e w52 ⟨rfl, hb⟩; have n0_ := Aside0.mk (Kd.V_below (by (with_reducible repeat (first | apply Kd.V_alloc | apply Kd.V_drewN | apply Kd.V_drew)); exact HO344.out) hb); have n1_ := Aside0.mk (Kd.V_below (by (with_reducible repeat (first | apply Kd.V_alloc | apply Kd.V_drewN | apply Kd.V_drew)); exact HO348.out) hb); have n2_ := Aside0.mk (Kd.R_below (by (with_reducible repeat (first | apply Kd.R_alloc | apply Kd.R_drewN | apply Kd.R_drew)); exact HO354.out) hb); have n3_ := Aside0.mk (Kd.V_below (by (with_reducible repeat (first | apply Kd.V_alloc | apply Kd.V_drewN | apply Kd.V_drew)); exact HO357.out) hb); have n4_ := Aside0.mk (blk_below (g := gb339) (o := .cells #[.int .i64 a0_0, .int .i64 a0_1, .int .i64 a0_2, .int .i64 a0_3, .slice A0_4 l0_4.length c0_4] 24 (0, 0)) (by (with_reducible repeat (first | refine blk_drewN ?_ _ | refine blk_drew ?_ | refine blk_alloc ?_ _)); exact BK339.out) hb); have n5_ := Aside0.mk (below_step (by repeat (first | (with_reducible first | exact HB.out | apply below_alloc | apply pw_below_drewN | apply below_drew1 | refine below_set ?_ GE339.out) | exact HB.out)) hb); clear HO344; clear HO348; clear HO354; clear HO357; clear BK339; clear HB; have HO344 := n0_; have HO348 := n1_; have HO354 := n2_; have HO357 := n3_; have BK339 := n4_; have HB := n5_; clear n0_ n1_ n2_ n3_ n4_ n5_; (try clear hb); (try clear hb2); (try clear hk); (try clear hi); obtain ⟨Ao53, co53, eo53⟩ := Kd.V_slice HO357.out; subst eo53; obtain ⟨Ao54, co54, eo54⟩ := Kd.V_slice HO348.out; subst eo54))
                        go_meet
                        case rel => exact ⟨_, (true), (by first | rfl | (simp; done) | (simp [*]; done)), H', ⟨by first | omega | exact Nat.le_refl _⟩, ⟨by (with_reducible repeat (first | apply Kd.V_alloc | apply Kd.V_drewN | apply Kd.V_drew)); exact Kd.V_mono HO344.out (fun _ hk => ⟨hk.2, hk.1⟩)⟩, ⟨by (with_reducible repeat (first | apply Kd.V_alloc | apply Kd.V_drewN | apply Kd.V_drew)); exact Kd.V_mono HO348.out (fun _ hk => ⟨hk.2, hk.1⟩)⟩, ⟨by (with_reducible repeat (first | apply Kd.R_alloc | apply Kd.R_drewN | apply Kd.R_drew)); exact HO354.out⟩, ⟨by (with_reducible repeat (first | apply Kd.V_alloc | apply Kd.V_drewN | apply Kd.V_drew)); exact HO357.out⟩, ⟨by (with_reducible repeat (first | refine blk_drewN ?_ _ | refine blk_drew ?_ | refine blk_alloc ?_ _)); exact BK339.out⟩, ⟨by repeat (first | (with_reducible first | exact HB.out | apply below_alloc | apply pw_below_drewN | apply below_drew1 | refine below_set ?_ GE339.out) | exact HB.out)⟩⟩
                      · rw [if_neg c48] at H
                        have c48b0 : decide (t350 < (wrap64 ((t342.length : Int) - (t346.length : Int)))) = false := decide_eq_false c48
                        clear c48
                        have H' := Aside0.mk H
                        clear H
                        have hcz55_0 : w25.cell? ⟨gb339, 0, none⟩ = some (.int .i64 a0_0) := (blk_cell BK339.out 0).trans rfl
                        have hcz55_1 : w25.cell? ⟨gb339, 1, none⟩ = some (.int .i64 a0_1) := (blk_cell BK339.out 1).trans rfl
                        have hcz55_2 : w25.cell? ⟨gb339, 2, none⟩ = some (.int .i64 a0_2) := (blk_cell BK339.out 2).trans rfl
                        have hcz55_3 : w25.cell? ⟨gb339, 3, none⟩ = some (.int .i64 a0_3) := (blk_cell BK339.out 3).trans rfl
                        have hcz55_4 : w25.cell? ⟨gb339, 4, none⟩ = some (.slice A0_4 l0_4.length c0_4) := (blk_cell BK339.out 4).trans rfl
                        have hfz55_0 := blk_frozen BK339.out 0
                        have hfz55_1 := blk_frozen BK339.out 1
                        have hfz55_2 := blk_frozen BK339.out 2
                        have hfz55_3 := blk_frozen BK339.out 3
                        have hfz55_4 := blk_frozen BK339.out 4
                        go_wp2_with (first | (go_at_call 40; (with_reducible refine (luciferlaw05_plan.calls a0_0 a0_1 a0_2 a0_3 _ _ l0_4 _ _ t342 true _ ?side1 ?side2 ?side3 ?side4 A30.out).mono ?_); (case side1 => repeat (first | exact (Kd.C_below HR0_4.out HB.out) | (with_reducible refine Kd.C_alloc ?_ _) | (with_reducible refine Kd.C_drewN ?_ _) | (with_reducible refine Kd.C_drew ?_))); (case side2 => exact HC0_4.out); (case side3 => repeat (first | exact (Kd.V_reads' HO344.out).2.2 | (with_reducible refine Kd.C_alloc ?_ _) | (with_reducible refine Kd.C_drewN ?_ _) | (with_reducible refine Kd.C_drew ?_))); (case side4 => exact (Kd.V_reads' HO344.out).2.1); rintro e w56 ⟨rfl, hb⟩; have n0_ := Aside0.mk (Kd.V_below (by (with_reducible repeat (first | apply Kd.V_alloc | apply Kd.V_drewN | apply Kd.V_drew)); exact HO344.out) hb); have n1_ := Aside0.mk (Kd.V_below (by (with_reducible repeat (first | apply Kd.V_alloc | apply Kd.V_drewN | apply Kd.V_drew)); exact HO348.out) hb); have n2_ := Aside0.mk (Kd.R_below (by (with_reducible repeat (first | apply Kd.R_alloc | apply Kd.R_drewN | apply Kd.R_drew)); exact HO354.out) hb); have n3_ := Aside0.mk (Kd.V_below (by (with_reducible repeat (first | apply Kd.V_alloc | apply Kd.V_drewN | apply Kd.V_drew)); exact HO357.out) hb); have n4_ := Aside0.mk (blk_below (g := gb339) (o := .cells #[.int .i64 a0_0, .int .i64 a0_1, .int .i64 a0_2, .int .i64 a0_3, .slice A0_4 l0_4.length c0_4] 24 (0, 0)) (by (with_reducible repeat (first | refine blk_drewN ?_ _ | refine blk_drew ?_ | refine blk_alloc ?_ _)); exact BK339.out) hb); have n5_ := Aside0.mk (below_step (by repeat (first | (with_reducible first | exact HB.out | apply below_alloc | apply pw_below_drewN | apply below_drew1 | refine below_set ?_ GE339.out) | exact HB.out)) hb); clear HO344; clear HO348; clear HO354; clear HO357; clear BK339; clear HB; have HO344 := n0_; have HO348 := n1_; have HO354 := n2_; have HO357 := n3_; have BK339 := n4_; have HB := n5_; clear n0_ n1_ n2_ n3_ n4_ n5_; (try clear hb); (try clear hb2); (try clear hk); (try clear hi); have hcz57_0 : w56.cell? ⟨gb339, 0, none⟩ = some (.int .i64 a0_0) := (blk_cell BK339.out 0).trans rfl; have hcz57_1 : w56.cell? ⟨gb339, 1, none⟩ = some (.int .i64 a0_1) := (blk_cell BK339.out 1).trans rfl; have hcz57_2 : w56.cell? ⟨gb339, 2, none⟩ = some (.int .i64 a0_2) := (blk_cell BK339.out 2).trans rfl; have hcz57_3 : w56.cell? ⟨gb339, 3, none⟩ = some (.int .i64 a0_3) := (blk_cell BK339.out 3).trans rfl; have hcz57_4 : w56.cell? ⟨gb339, 4, none⟩ = some (.slice A0_4 l0_4.length c0_4) := (blk_cell BK339.out 4).trans rfl; have hfz57_0 := blk_frozen BK339.out 0; have hfz57_1 := blk_frozen BK339.out 1; have hfz57_2 := blk_frozen BK339.out 2; have hfz57_3 := blk_frozen BK339.out 3; have hfz57_4 := blk_frozen BK339.out 4) | (go_at_call 40; (with_reducible refine (luciferlaw05_plan.calls a0_0 a0_1 a0_2 a0_3 _ _ l0_4 _ _ t352 true _ ?side1 ?side2 ?side3 ?side4 A32.out).mono ?_); (case side1 => repeat (first | exact (Kd.C_below HR0_4.out HB.out) | (with_reducible refine Kd.C_alloc ?_ _) | (with_reducible refine Kd.C_drewN ?_ _) | (with_reducible refine Kd.C_drew ?_))); (case side2 => exact HC0_4.out); (case side3 => repeat (first | exact (Kd.R_reads' HO354.out).2.2 | (with_reducible refine Kd.C_alloc ?_ _) | (with_reducible refine Kd.C_drewN ?_ _) | (with_reducible refine Kd.C_drew ?_))); (case side4 => exact (Kd.R_reads' HO354.out).2.1); rintro e w58 ⟨rfl, hb⟩; have n0_ := Aside0.mk (Kd.V_below (by (with_reducible repeat (first | apply Kd.V_alloc | apply Kd.V_drewN | apply Kd.V_drew)); exact HO344.out) hb); have n1_ := Aside0.mk (Kd.V_below (by (with_reducible repeat (first | apply Kd.V_alloc | apply Kd.V_drewN | apply Kd.V_drew)); exact HO348.out) hb); have n2_ := Aside0.mk (Kd.R_below (by (with_reducible repeat (first | apply Kd.R_alloc | apply Kd.R_drewN | apply Kd.R_drew)); exact HO354.out) hb); have n3_ := Aside0.mk (Kd.V_below (by (with_reducible repeat (first | apply Kd.V_alloc | apply Kd.V_drewN | apply Kd.V_drew)); exact HO357.out) hb); have n4_ := Aside0.mk (blk_below (g := gb339) (o := .cells #[.int .i64 a0_0, .int .i64 a0_1, .int .i64 a0_2, .int .i64 a0_3, .slice A0_4 l0_4.length c0_4] 24 (0, 0)) (by (with_reducible repeat (first | refine blk_drewN ?_ _ | refine blk_drew ?_ | refine blk_alloc ?_ _)); exact BK339.out) hb); have n5_ := Aside0.mk (below_step (by repeat (first | (with_reducible first | exact HB.out | apply below_alloc | apply pw_below_drewN | apply below_drew1 | refine below_set ?_ GE339.out) | exact HB.out)) hb); clear HO344; clear HO348; clear HO354; clear HO357; clear BK339; clear HB; have HO344 := n0_; have HO348 := n1_; have HO354 := n2_; have HO357 := n3_; have BK339 := n4_; have HB := n5_; clear n0_ n1_ n2_ n3_ n4_ n5_; (try clear hb); (try clear hb2); (try clear hk); (try clear hi); obtain ⟨Ao59, co59, eo59⟩ := Kd.V_slice HO357.out; subst eo59; obtain ⟨Ao60, co60, eo60⟩ := Kd.V_slice HO348.out; subst eo60; have hcz61_0 : w58.cell? ⟨gb339, 0, none⟩ = some (.int .i64 a0_0) := (blk_cell BK339.out 0).trans rfl; have hcz61_1 : w58.cell? ⟨gb339, 1, none⟩ = some (.int .i64 a0_1) := (blk_cell BK339.out 1).trans rfl; have hcz61_2 : w58.cell? ⟨gb339, 2, none⟩ = some (.int .i64 a0_2) := (blk_cell BK339.out 2).trans rfl; have hcz61_3 : w58.cell? ⟨gb339, 3, none⟩ = some (.int .i64 a0_3) := (blk_cell BK339.out 3).trans rfl; have hcz61_4 : w58.cell? ⟨gb339, 4, none⟩ = some (.slice A0_4 l0_4.length c0_4) := (blk_cell BK339.out 4).trans rfl; have hfz61_0 := blk_frozen BK339.out 0; have hfz61_1 := blk_frozen BK339.out 1; have hfz61_2 := blk_frozen BK339.out 2; have hfz61_3 := blk_frozen BK339.out 3; have hfz61_4 := blk_frozen BK339.out 4))
                        go_meet
                        case rel => exact ⟨_, (decide (t350 > (l0_4.length : Int))), (by first | rfl | (simp; done) | (simp [*]; done)), H', ⟨by first | omega | exact Nat.le_refl _⟩, ⟨by (with_reducible repeat (first | apply Kd.V_alloc | apply Kd.V_drewN | apply Kd.V_drew)); exact Kd.V_mono HO344.out (fun _ hk => ⟨hk.2, hk.1⟩)⟩, ⟨by (with_reducible repeat (first | apply Kd.V_alloc | apply Kd.V_drewN | apply Kd.V_drew)); exact Kd.V_mono HO348.out (fun _ hk => ⟨hk.2, hk.1⟩)⟩, ⟨by (with_reducible repeat (first | apply Kd.R_alloc | apply Kd.R_drewN | apply Kd.R_drew)); exact HO354.out⟩, ⟨by (with_reducible repeat (first | apply Kd.V_alloc | apply Kd.V_drewN | apply Kd.V_drew)); exact HO357.out⟩, ⟨by (with_reducible repeat (first | refine blk_drewN ?_ _ | refine blk_drew ?_ | refine blk_alloc ?_ _)); exact BK339.out⟩, ⟨by repeat (first | (with_reducible first | exact HB.out | apply below_alloc | apply pw_below_drewN | apply below_drew1 | refine below_set ?_ GE339.out) | exact HB.out)⟩⟩
                · replace c33 := Bool.eq_false_iff.mpr c33
                  subst c33
                  have H1 : (luciferlaw05_FillFewest.j0 k t342 t346 t352 t355 true) = some r := by rw [if_neg (show ¬ (false = true) by decide)] at H; exact H
                  clear H
                  have H := H1
                  clear H1
                  have H' := Aside0.mk H
                  clear H
                  have hcz62_0 : w25.cell? ⟨gb339, 0, none⟩ = some (.int .i64 a0_0) := (blk_cell BK339.out 0).trans rfl
                  have hcz62_1 : w25.cell? ⟨gb339, 1, none⟩ = some (.int .i64 a0_1) := (blk_cell BK339.out 1).trans rfl
                  have hcz62_2 : w25.cell? ⟨gb339, 2, none⟩ = some (.int .i64 a0_2) := (blk_cell BK339.out 2).trans rfl
                  have hcz62_3 : w25.cell? ⟨gb339, 3, none⟩ = some (.int .i64 a0_3) := (blk_cell BK339.out 3).trans rfl
                  have hcz62_4 : w25.cell? ⟨gb339, 4, none⟩ = some (.slice A0_4 l0_4.length c0_4) := (blk_cell BK339.out 4).trans rfl
                  have hfz62_0 := blk_frozen BK339.out 0
                  have hfz62_1 := blk_frozen BK339.out 1
                  have hfz62_2 := blk_frozen BK339.out 2
                  have hfz62_3 := blk_frozen BK339.out 3
                  have hfz62_4 := blk_frozen BK339.out 4
                  go_wp2_with (first | (go_at_call 40; (with_reducible refine (luciferlaw05_plan.calls a0_0 a0_1 a0_2 a0_3 _ _ l0_4 _ _ t342 true _ ?side1 ?side2 ?side3 ?side4 A30.out).mono ?_); (case side1 => repeat (first | exact (Kd.C_below HR0_4.out HB.out) | (with_reducible refine Kd.C_alloc ?_ _) | (with_reducible refine Kd.C_drewN ?_ _) | (with_reducible refine Kd.C_drew ?_))); (case side2 => exact HC0_4.out); (case side3 => repeat (first | exact (Kd.V_reads' HO344.out).2.2 | (with_reducible refine Kd.C_alloc ?_ _) | (with_reducible refine Kd.C_drewN ?_ _) | (with_reducible refine Kd.C_drew ?_))); (case side4 => exact (Kd.V_reads' HO344.out).2.1); rintro e w63 ⟨rfl, hb⟩; have n0_ := Aside0.mk (Kd.V_below (by (with_reducible repeat (first | apply Kd.V_alloc | apply Kd.V_drewN | apply Kd.V_drew)); exact HO344.out) hb); have n1_ := Aside0.mk (Kd.V_below (by (with_reducible repeat (first | apply Kd.V_alloc | apply Kd.V_drewN | apply Kd.V_drew)); exact HO348.out) hb); have n2_ := Aside0.mk (Kd.R_below (by (with_reducible repeat (first | apply Kd.R_alloc | apply Kd.R_drewN | apply Kd.R_drew)); exact HO354.out) hb); have n3_ := Aside0.mk (Kd.V_below (by (with_reducible repeat (first | apply Kd.V_alloc | apply Kd.V_drewN | apply Kd.V_drew)); exact HO357.out) hb); have n4_ := Aside0.mk (blk_below (g := gb339) (o := .cells #[.int .i64 a0_0, .int .i64 a0_1, .int .i64 a0_2, .int .i64 a0_3, .slice A0_4 l0_4.length c0_4] 24 (0, 0)) (by (with_reducible repeat (first | refine blk_drewN ?_ _ | refine blk_drew ?_ | refine blk_alloc ?_ _)); exact BK339.out) hb); have n5_ := Aside0.mk (below_step (by repeat (first | (with_reducible first | exact HB.out | apply below_alloc | apply pw_below_drewN | apply below_drew1 | refine below_set ?_ GE339.out) | exact HB.out)) hb); clear HO344; clear HO348; clear HO354; clear HO357; clear BK339; clear HB; have HO344 := n0_; have HO348 := n1_; have HO354 := n2_; have HO357 := n3_; have BK339 := n4_; have HB := n5_; clear n0_ n1_ n2_ n3_ n4_ n5_; (try clear hb); (try clear hb2); (try clear hk); (try clear hi); have hcz64_0 : w63.cell? ⟨gb339, 0, none⟩ = some (.int .i64 a0_0) := (blk_cell BK339.out 0).trans rfl; have hcz64_1 : w63.cell? ⟨gb339, 1, none⟩ = some (.int .i64 a0_1) := (blk_cell BK339.out 1).trans rfl; have hcz64_2 : w63.cell? ⟨gb339, 2, none⟩ = some (.int .i64 a0_2) := (blk_cell BK339.out 2).trans rfl; have hcz64_3 : w63.cell? ⟨gb339, 3, none⟩ = some (.int .i64 a0_3) := (blk_cell BK339.out 3).trans rfl; have hcz64_4 : w63.cell? ⟨gb339, 4, none⟩ = some (.slice A0_4 l0_4.length c0_4) := (blk_cell BK339.out 4).trans rfl; have hfz64_0 := blk_frozen BK339.out 0; have hfz64_1 := blk_frozen BK339.out 1; have hfz64_2 := blk_frozen BK339.out 2; have hfz64_3 := blk_frozen BK339.out 3; have hfz64_4 := blk_frozen BK339.out 4) | (go_at_call 40; (with_reducible refine (luciferlaw05_plan.calls a0_0 a0_1 a0_2 a0_3 _ _ l0_4 _ _ t352 false _ ?side1 ?side2 ?side3 ?side4 A32.out).mono ?_); (case side1 => repeat (first | exact (Kd.C_below HR0_4.out HB.out) | (with_reducible refine Kd.C_alloc ?_ _) | (with_reducible refine Kd.C_drewN ?_ _) | (with_reducible refine Kd.C_drew ?_))); (case side2 => exact HC0_4.out); (case side3 => repeat (first | exact (Kd.R_reads' HO354.out).2.2 | (with_reducible refine Kd.C_alloc ?_ _) | (with_reducible refine Kd.C_drewN ?_ _) | (with_reducible refine Kd.C_drew ?_))); (case side4 => exact (Kd.R_reads' HO354.out).2.1); rintro e w65 ⟨rfl, hb⟩; have n0_ := Aside0.mk (Kd.V_below (by (with_reducible repeat (first | apply Kd.V_alloc | apply Kd.V_drewN | apply Kd.V_drew)); exact HO344.out) hb); have n1_ := Aside0.mk (Kd.V_below (by (with_reducible repeat (first | apply Kd.V_alloc | apply Kd.V_drewN | apply Kd.V_drew)); exact HO348.out) hb); have n2_ := Aside0.mk (Kd.R_below (by (with_reducible repeat (first | apply Kd.R_alloc | apply Kd.R_drewN | apply Kd.R_drew)); exact HO354.out) hb); have n3_ := Aside0.mk (Kd.V_below (by (with_reducible repeat (first | apply Kd.V_alloc | apply Kd.V_drewN | apply Kd.V_drew)); exact HO357.out) hb); have n4_ := Aside0.mk (blk_below (g := gb339) (o := .cells #[.int .i64 a0_0, .int .i64 a0_1, .int .i64 a0_2, .int .i64 a0_3, .slice A0_4 l0_4.length c0_4] 24 (0, 0)) (by (with_reducible repeat (first | refine blk_drewN ?_ _ | refine blk_drew ?_ | refine blk_alloc ?_ _)); exact BK339.out) hb); have n5_ := Aside0.mk (below_step (by repeat (first | (with_reducible first | exact HB.out | apply below_alloc | apply pw_below_drewN | apply below_drew1 | refine below_set ?_ GE339.out) | exact HB.out)) hb); clear HO344; clear HO348; clear HO354; clear HO357; clear BK339; clear HB; have HO344 := n0_; have HO348 := n1_; have HO354 := n2_; have HO357 := n3_; have BK339 := n4_; have HB := n5_; clear n0_ n1_ n2_ n3_ n4_ n5_; (try clear hb); (try clear hb2); (try clear hk); (try clear hi)))
                  go_meet
                  case rel => exact ⟨_, (true), (by first | rfl | (simp; done) | (simp [*]; done)), H', ⟨by first | omega | exact Nat.le_refl _⟩, ⟨by (with_reducible repeat (first | apply Kd.V_alloc | apply Kd.V_drewN | apply Kd.V_drew)); exact Kd.V_mono HO344.out (fun _ hk => ⟨hk.2, hk.1⟩)⟩, ⟨by (with_reducible repeat (first | apply Kd.V_alloc | apply Kd.V_drewN | apply Kd.V_drew)); exact Kd.V_mono HO348.out (fun _ hk => ⟨hk.2, hk.1⟩)⟩, ⟨by (with_reducible repeat (first | apply Kd.R_alloc | apply Kd.R_drewN | apply Kd.R_drew)); exact HO354.out⟩, ⟨by (with_reducible repeat (first | apply Kd.V_alloc | apply Kd.V_drewN | apply Kd.V_drew)); exact HO357.out⟩, ⟨by (with_reducible repeat (first | refine blk_drewN ?_ _ | refine blk_drew ?_ | refine blk_alloc ?_ _)); exact BK339.out⟩, ⟨by repeat (first | (with_reducible first | exact HB.out | apply below_alloc | apply pw_below_drewN | apply below_drew1 | refine below_set ?_ GE339.out) | exact HB.out)⟩⟩
              · replace c31 := Bool.eq_false_iff.mpr c31
                subst c31
                have H1 : (luciferlaw05_FillFewest.j0 k t342 t346 t352 t355 true) = some r := by rw [if_neg (show ¬ (false = true) by decide)] at H; exact H
                clear H
                have H := H1
                clear H1
                have H' := Aside0.mk H
                clear H
                have hcz66_0 : w25.cell? ⟨gb339, 0, none⟩ = some (.int .i64 a0_0) := (blk_cell BK339.out 0).trans rfl
                have hcz66_1 : w25.cell? ⟨gb339, 1, none⟩ = some (.int .i64 a0_1) := (blk_cell BK339.out 1).trans rfl
                have hcz66_2 : w25.cell? ⟨gb339, 2, none⟩ = some (.int .i64 a0_2) := (blk_cell BK339.out 2).trans rfl
                have hcz66_3 : w25.cell? ⟨gb339, 3, none⟩ = some (.int .i64 a0_3) := (blk_cell BK339.out 3).trans rfl
                have hcz66_4 : w25.cell? ⟨gb339, 4, none⟩ = some (.slice A0_4 l0_4.length c0_4) := (blk_cell BK339.out 4).trans rfl
                have hfz66_0 := blk_frozen BK339.out 0
                have hfz66_1 := blk_frozen BK339.out 1
                have hfz66_2 := blk_frozen BK339.out 2
                have hfz66_3 := blk_frozen BK339.out 3
                have hfz66_4 := blk_frozen BK339.out 4
                go_wp2_with (first | (go_at_call 40; (with_reducible refine (luciferlaw05_plan.calls a0_0 a0_1 a0_2 a0_3 _ _ l0_4 _ _ t342 false _ ?side1 ?side2 ?side3 ?side4 A30.out).mono ?_); (case side1 => repeat (first | exact (Kd.C_below HR0_4.out HB.out) | (with_reducible refine Kd.C_alloc ?_ _) | (with_reducible refine Kd.C_drewN ?_ _) | (with_reducible refine Kd.C_drew ?_))); (case side2 => exact HC0_4.out); (case side3 => repeat (first | exact (Kd.V_reads' HO344.out).2.2 | (with_reducible refine Kd.C_alloc ?_ _) | (with_reducible refine Kd.C_drewN ?_ _) | (with_reducible refine Kd.C_drew ?_))); (case side4 => exact (Kd.V_reads' HO344.out).2.1); rintro e w67 ⟨rfl, hb⟩; have n0_ := Aside0.mk (Kd.V_below (by (with_reducible repeat (first | apply Kd.V_alloc | apply Kd.V_drewN | apply Kd.V_drew)); exact HO344.out) hb); have n1_ := Aside0.mk (Kd.V_below (by (with_reducible repeat (first | apply Kd.V_alloc | apply Kd.V_drewN | apply Kd.V_drew)); exact HO348.out) hb); have n2_ := Aside0.mk (Kd.R_below (by (with_reducible repeat (first | apply Kd.R_alloc | apply Kd.R_drewN | apply Kd.R_drew)); exact HO354.out) hb); have n3_ := Aside0.mk (Kd.V_below (by (with_reducible repeat (first | apply Kd.V_alloc | apply Kd.V_drewN | apply Kd.V_drew)); exact HO357.out) hb); have n4_ := Aside0.mk (blk_below (g := gb339) (o := .cells #[.int .i64 a0_0, .int .i64 a0_1, .int .i64 a0_2, .int .i64 a0_3, .slice A0_4 l0_4.length c0_4] 24 (0, 0)) (by (with_reducible repeat (first | refine blk_drewN ?_ _ | refine blk_drew ?_ | refine blk_alloc ?_ _)); exact BK339.out) hb); have n5_ := Aside0.mk (below_step (by repeat (first | (with_reducible first | exact HB.out | apply below_alloc | apply pw_below_drewN | apply below_drew1 | refine below_set ?_ GE339.out) | exact HB.out)) hb); clear HO344; clear HO348; clear HO354; clear HO357; clear BK339; clear HB; have HO344 := n0_; have HO348 := n1_; have HO354 := n2_; have HO357 := n3_; have BK339 := n4_; have HB := n5_; clear n0_ n1_ n2_ n3_ n4_ n5_; (try clear hb); (try clear hb2); (try clear hk); (try clear hi)))
                go_meet
                case rel => exact ⟨_, (true), (by first | rfl | (simp; done) | (simp [*]; done)), H', ⟨by first | omega | exact Nat.le_refl _⟩, ⟨by (with_reducible repeat (first | apply Kd.V_alloc | apply Kd.V_drewN | apply Kd.V_drew)); exact Kd.V_mono HO344.out (fun _ hk => ⟨hk.2, hk.1⟩)⟩, ⟨by (with_reducible repeat (first | apply Kd.V_alloc | apply Kd.V_drewN | apply Kd.V_drew)); exact Kd.V_mono HO348.out (fun _ hk => ⟨hk.2, hk.1⟩)⟩, ⟨by (with_reducible repeat (first | apply Kd.R_alloc | apply Kd.R_drewN | apply Kd.R_drew)); exact HO354.out⟩, ⟨by (with_reducible repeat (first | apply Kd.V_alloc | apply Kd.V_drewN | apply Kd.V_drew)); exact HO357.out⟩, ⟨by (with_reducible repeat (first | refine blk_drewN ?_ _ | refine blk_drew ?_ | refine blk_alloc ?_ _)); exact BK339.out⟩, ⟨by repeat (first | (with_reducible first | exact HB.out | apply below_alloc | apply pw_below_drewN | apply below_drew1 | refine below_set ?_ GE339.out) | exact HB.out)⟩⟩
            · rw [if_neg c29] at H
              have c29b0 : (t358 == 0) = false := beq_eq_false_iff_ne.mpr c29
              have c29b1 : (t358 != 0) = true := bne_iff_ne.mpr c29
              have H' := Aside0.mk H
              clear H
              go_wp2
              go_meet
              case rel => exact ⟨_, (true), (by first | rfl | (simp; done) | (simp [*]; done)), H', ⟨by first | omega | exact Nat.le_refl _⟩, ⟨by (with_reducible repeat (first | apply Kd.V_alloc | apply Kd.V_drewN | apply Kd.V_drew)); exact Kd.V_mono HO344.out (fun _ hk => ⟨hk.2, hk.1⟩)⟩, ⟨by (with_reducible repeat (first | apply Kd.V_alloc | apply Kd.V_drewN | apply Kd.V_drew)); exact Kd.V_mono HO348.out (fun _ hk => ⟨hk.2, hk.1⟩)⟩, ⟨by (with_reducible repeat (first | apply Kd.R_alloc | apply Kd.R_drewN | apply Kd.R_drew)); exact HO354.out⟩, ⟨by (with_reducible repeat (first | apply Kd.V_alloc | apply Kd.V_drewN | apply Kd.V_drew)); exact HO357.out⟩, ⟨by (with_reducible repeat (first | refine blk_drewN ?_ _ | refine blk_drew ?_ | refine blk_alloc ?_ _)); exact BK339.out⟩, ⟨by repeat (first | (with_reducible first | exact HB.out | apply below_alloc | apply pw_below_drewN | apply below_drew1 | refine below_set ?_ GE339.out) | exact HB.out)⟩⟩
          · rw [if_neg c28] at H
            have c28b0 : (t351 == 0) = false := beq_eq_false_iff_ne.mpr c28
            have c28b1 : (t351 != 0) = true := bne_iff_ne.mpr c28
            have H' := Aside0.mk H
            clear H
            go_wp2
            go_meet
            case rel => exact ⟨_, (true), (by first | rfl | (simp; done) | (simp [*]; done)), H', ⟨by first | omega | exact Nat.le_refl _⟩, ⟨by (with_reducible repeat (first | apply Kd.V_alloc | apply Kd.V_drewN | apply Kd.V_drew)); exact Kd.V_mono HO344.out (fun _ hk => ⟨hk.2, hk.1⟩)⟩, ⟨by (with_reducible repeat (first | apply Kd.V_alloc | apply Kd.V_drewN | apply Kd.V_drew)); exact Kd.V_mono HO348.out (fun _ hk => ⟨hk.2, hk.1⟩)⟩, ⟨by (with_reducible repeat (first | apply Kd.R_alloc | apply Kd.R_drewN | apply Kd.R_drew)); exact HO354.out⟩, ⟨by (with_reducible repeat (first | apply Kd.V_alloc | apply Kd.V_drewN | apply Kd.V_drew)); exact HO357.out⟩, ⟨by (with_reducible repeat (first | refine blk_drewN ?_ _ | refine blk_drew ?_ | refine blk_alloc ?_ _)); exact BK339.out⟩, ⟨by repeat (first | (with_reducible first | exact HB.out | apply below_alloc | apply pw_below_drewN | apply below_drew1 | refine below_set ?_ GE339.out) | exact HB.out)⟩⟩
        · rw [if_neg c27] at H
          have c27b0 : (t349 == 0) = false := beq_eq_false_iff_ne.mpr c27
          have c27b1 : (t349 != 0) = true := bne_iff_ne.mpr c27
          have H' := Aside0.mk H
          clear H
          go_wp2
          go_meet
          case rel => exact ⟨_, (true), (by first | rfl | (simp; done) | (simp [*]; done)), H', ⟨by first | omega | exact Nat.le_refl _⟩, ⟨by (with_reducible repeat (first | apply Kd.V_alloc | apply Kd.V_drewN | apply Kd.V_drew)); exact Kd.V_mono HO344.out (fun _ hk => ⟨hk.2, hk.1⟩)⟩, ⟨by (with_reducible repeat (first | apply Kd.V_alloc | apply Kd.V_drewN | apply Kd.V_drew)); exact Kd.V_mono HO348.out (fun _ hk => ⟨hk.2, hk.1⟩)⟩, ⟨by (with_reducible repeat (first | apply Kd.R_alloc | apply Kd.R_drewN | apply Kd.R_drew)); exact HO354.out⟩, ⟨by (with_reducible repeat (first | apply Kd.V_alloc | apply Kd.V_drewN | apply Kd.V_drew)); exact HO357.out⟩, ⟨by (with_reducible repeat (first | refine blk_drewN ?_ _ | refine blk_drew ?_ | refine blk_alloc ?_ _)); exact BK339.out⟩, ⟨by repeat (first | (with_reducible first | exact HB.out | apply below_alloc | apply pw_below_drewN | apply below_drew1 | refine below_set ?_ GE339.out) | exact HB.out)⟩⟩
      · rw [if_neg c26] at H
        have c26b0 : (t345 == 0) = false := beq_eq_false_iff_ne.mpr c26
        have c26b1 : (t345 != 0) = true := bne_iff_ne.mpr c26
        (first | rw [c26b0] | (simp only [i64_w, i32_w]; rw [c26b0]) | skip)
        have H' := Aside0.mk H
        clear H
        go_wp2
        go_meet
        case rel => exact ⟨_, (true), (by first | rfl | (simp; done) | (simp [*]; done)), H', ⟨by first | omega | exact Nat.le_refl _⟩, ⟨by (with_reducible repeat (first | apply Kd.V_alloc | apply Kd.V_drewN | apply Kd.V_drew)); exact Kd.V_mono HO344.out (fun _ hk => ⟨hk.2, hk.1⟩)⟩, ⟨by (with_reducible repeat (first | apply Kd.V_alloc | apply Kd.V_drewN | apply Kd.V_drew)); exact Kd.V_mono HO348.out (fun _ hk => ⟨hk.2, hk.1⟩)⟩, ⟨by (with_reducible repeat (first | apply Kd.R_alloc | apply Kd.R_drewN | apply Kd.R_drew)); exact HO354.out⟩, ⟨by (with_reducible repeat (first | apply Kd.V_alloc | apply Kd.V_drewN | apply Kd.V_drew)); exact HO357.out⟩, ⟨by (with_reducible repeat (first | refine blk_drewN ?_ _ | refine blk_drew ?_ | refine blk_alloc ?_ _)); exact BK339.out⟩, ⟨by repeat (first | (with_reducible first | exact HB.out | apply below_alloc | apply pw_below_drewN | apply below_drew1 | refine below_set ?_ GE339.out) | exact HB.out)⟩⟩
    case rest =>
      clear HC10
      try clear c1
      try clear c2
      try clear p2
      try clear c3
      try clear c4
      try clear p6
      try clear c7
      try clear c26
      try clear c26b0
      try clear c26b1
      try clear c27
      try clear c27b0
      try clear c27b1
      try clear c28
      try clear c28b0
      try clear c28b1
      try clear c29
      try clear c29b0
      try clear c29b1
      try clear c31
      try clear c33
      try clear c34
      try clear c34b0
      try clear c34b1
      try clear c37
      try clear c39
      try clear c41
      try clear c41b0
      try clear c48
      try clear c48b0
      try clear p64
      try clear hcz12_0
      try clear hcz12_1
      try clear hcz12_2
      try clear hcz12_3
      try clear hcz12_4
      try clear hcz14_0
      try clear hcz14_1
      try clear hcz14_2
      try clear hcz14_3
      try clear hcz14_4
      try clear hcz16_0
      try clear hcz16_1
      try clear hcz16_2
      try clear hcz16_3
      try clear hcz16_4
      try clear hcz19_0
      try clear hcz19_1
      try clear hcz19_2
      try clear hcz19_3
      try clear hcz19_4
      try clear hcz21_0
      try clear hcz21_1
      try clear hcz21_2
      try clear hcz21_3
      try clear hcz21_4
      try clear hcz23_0
      try clear hcz23_1
      try clear hcz23_2
      try clear hcz23_3
      try clear hcz23_4
      try clear hcz35_0
      try clear hcz35_1
      try clear hcz35_2
      try clear hcz35_3
      try clear hcz35_4
      try clear hcz37_0
      try clear hcz37_1
      try clear hcz37_2
      try clear hcz37_3
      try clear hcz37_4
      try clear hcz42_0
      try clear hcz42_1
      try clear hcz42_2
      try clear hcz42_3
      try clear hcz42_4
      try clear hcz44_0
      try clear hcz44_1
      try clear hcz44_2
      try clear hcz44_3
      try clear hcz44_4
      try clear hcz49_0
      try clear hcz49_1
      try clear hcz49_2
      try clear hcz49_3
      try clear hcz49_4
      try clear hcz51_0
      try clear hcz51_1
      try clear hcz51_2
      try clear hcz51_3
      try clear hcz51_4
      try clear hcz55_0
      try clear hcz55_1
      try clear hcz55_2
      try clear hcz55_3
      try clear hcz55_4
      try clear hcz57_0
      try clear hcz57_1
      try clear hcz57_2
      try clear hcz57_3
      try clear hcz57_4
      try clear hcz61_0
      try clear hcz61_1
      try clear hcz61_2
      try clear hcz61_3
      try clear hcz61_4
      try clear hcz62_0
      try clear hcz62_1
      try clear hcz62_2
      try clear hcz62_3
      try clear hcz62_4
      try clear hcz64_0
      try clear hcz64_1
      try clear hcz64_2
      try clear hcz64_3
      try clear hcz64_4
      try clear hcz66_0
      try clear hcz66_1
      try clear hcz66_2
      try clear hcz66_3
      try clear hcz66_4
      try clear hfz12_0
      try clear hfz12_1
      try clear hfz12_2
      try clear hfz12_3
      try clear hfz12_4
      try clear hfz14_0
      try clear hfz14_1
      try clear hfz14_2
      try clear hfz14_3
      try clear hfz14_4
      try clear hfz16_0
      try clear hfz16_1
      try clear hfz16_2
      try clear hfz16_3
      try clear hfz16_4
      try clear hfz19_0
      try clear hfz19_1
      try clear hfz19_2
      try clear hfz19_3
      try clear hfz19_4
      try clear hfz21_0
      try clear hfz21_1
      try clear hfz21_2
      try clear hfz21_3
      try clear hfz21_4
      try clear hfz23_0
      try clear hfz23_1
      try clear hfz23_2
      try clear hfz23_3
      try clear hfz23_4
      try clear hfz35_0
      try clear hfz35_1
      try clear hfz35_2
      try clear hfz35_3
      try clear hfz35_4
      try clear hfz37_0
      try clear hfz37_1
      try clear hfz37_2
      try clear hfz37_3
      try clear hfz37_4
      try clear hfz42_0
      try clear hfz42_1
      try clear hfz42_2
      try clear hfz42_3
      try clear hfz42_4
      try clear hfz44_0
      try clear hfz44_1
      try clear hfz44_2
      try clear hfz44_3
      try clear hfz44_4
      try clear hfz49_0
      try clear hfz49_1
      try clear hfz49_2
      try clear hfz49_3
      try clear hfz49_4
      try clear hfz51_0
      try clear hfz51_1
      try clear hfz51_2
      try clear hfz51_3
      try clear hfz51_4
      try clear hfz55_0
      try clear hfz55_1
      try clear hfz55_2
      try clear hfz55_3
      try clear hfz55_4
      try clear hfz57_0
      try clear hfz57_1
      try clear hfz57_2
      try clear hfz57_3
      try clear hfz57_4
      try clear hfz61_0
      try clear hfz61_1
      try clear hfz61_2
      try clear hfz61_3
      try clear hfz61_4
      try clear hfz62_0
      try clear hfz62_1
      try clear hfz62_2
      try clear hfz62_3
      try clear hfz62_4
      try clear hfz64_0
      try clear hfz64_1
      try clear hfz64_2
      try clear hfz64_3
      try clear hfz64_4
      try clear hfz66_0
      try clear hfz66_1
      try clear hfz66_2
      try clear hfz66_3
      try clear hfz66_4
      obtain ⟨kq, x100_9, rfl, HA, HJ9, HO_5, HO_7, HO_11, HO_12, BK339, HB⟩ := hcut
      cases kq with
      | zero => exact absurd HA.out (by simp [luciferlaw05_FillFewest.j0])
      | succ kj9 =>
        have H := HA.out
        clear HA
        simp only [luciferlaw05_FillFewest.j0] at H
        by_cases c68 : x100_9 = true
        · subst c68
          have H1 : (some false) = some r := by rw [if_pos rfl] at H; exact H
          clear H
          have H := H1
          clear H1
          obtain rfl := Option.some.inj H
          go_wp2
          go_ret
          exact ⟨by first | rfl | (simp [errW_none, errW_some] <;> rfl) | (simp [*, errW_none, errW_some] <;> rfl), by repeat (first | (with_reducible first | exact HB.out | apply below_alloc | apply pw_below_drewN | apply below_drew1 | refine below_set ?_ GE339.out) | exact HB.out)⟩
        · replace c68 := Bool.eq_false_iff.mpr c68
          subst c68
          have H1 : (if (t355.length : Int) > (t346.length : Int) then ((luciferlaw05_filled.f).bind fun t361 => (some t361)) else (if (t352.length : Int) < (t342.length : Int) then ((luciferlaw05_filled.f).bind fun t362 => (some t362)) else (if (t352.length : Int) = (t342.length : Int) then ((luciferref00_Earlier.f kj9 t352 t342).bind fun t363 => (if t363 = true then (some false) else ((luciferlaw05_filled.f).bind fun t364 => (some t364)))) else (some false)))) = some r := by rw [if_neg (show ¬ (false = true) by decide)] at H; exact H
          clear H
          have H := H1
          clear H1
          by_cases c69 : (t355.length : Int) > (t346.length : Int)
          · rw [if_pos c69] at H
            have c69b0 : decide ((t346.length : Int) < (t355.length : Int)) = true := decide_eq_true c69
            have c69b1 : decide (t346.length < t355.length) = true := decide_eq_true (Int.ofNat_lt.mp c69)
            clear c69
            replace H := Option.bind_eq_some_iff.mp H
            obtain ⟨t361, A700, H⟩ := H
            replace H : (some t361) = some r := H
            have A70 := Aside0.mk A700
            clear A700
            obtain rfl := Option.some.inj H
            obtain ⟨Ao71, co71, eo71⟩ := Kd.V_slice HO_12.out
            subst eo71
            obtain ⟨Ao72, co72, eo72⟩ := Kd.V_slice HO_7.out
            subst eo72
            go_wp2_with (first | ((with_reducible refine gate_callee (f := 23) rfl ?_); refine goesL_ (some 106) rfl rfl Tryd.func23 (by kernel_rfl) rfl #[] rfl (by (try simp only [List.map_toArray, List.map_cons, List.map_nil]); first | done | rfl | (simp only [List.length_drop, List.length_take]; rfl)) ?_; (with_reducible refine (luciferlaw05_filled.calls  t361 _ ?side1 A70.out).mono ?_); (case side1 => exact Fl.Laid.below HLd0.out (by repeat (first | (with_reducible first | exact HB.out | apply below_alloc | apply pw_below_drewN | apply below_drew1 | refine below_set ?_ GE339.out) | exact HB.out))); rintro e w73 ⟨rfl, hb⟩; refine ⟨_, rfl, ?_⟩; have n0_ := Aside0.mk (Kd.V_below (by (with_reducible repeat (first | apply Kd.V_alloc | apply Kd.V_drewN | apply Kd.V_drew)); exact HO_5.out) hb); have n1_ := Aside0.mk (Kd.V_below (by (with_reducible repeat (first | apply Kd.V_alloc | apply Kd.V_drewN | apply Kd.V_drew)); exact HO_7.out) hb); have n2_ := Aside0.mk (Kd.R_below (by (with_reducible repeat (first | apply Kd.R_alloc | apply Kd.R_drewN | apply Kd.R_drew)); exact HO_11.out) hb); have n3_ := Aside0.mk (Kd.V_below (by (with_reducible repeat (first | apply Kd.V_alloc | apply Kd.V_drewN | apply Kd.V_drew)); exact HO_12.out) hb); have n4_ := Aside0.mk (blk_below (g := gb339) (o := .cells #[.int .i64 a0_0, .int .i64 a0_1, .int .i64 a0_2, .int .i64 a0_3, .slice A0_4 l0_4.length c0_4] 24 (0, 0)) (by (with_reducible repeat (first | refine blk_drewN ?_ _ | refine blk_drew ?_ | refine blk_alloc ?_ _)); exact BK339.out) hb); have n5_ := Aside0.mk (below_step (by repeat (first | (with_reducible first | exact HB.out | apply below_alloc | apply pw_below_drewN | apply below_drew1 | refine below_set ?_ GE339.out) | exact HB.out)) hb); clear HO_5; clear HO_7; clear HO_11; clear HO_12; clear BK339; clear HB; have HO_5 := n0_; have HO_7 := n1_; have HO_11 := n2_; have HO_12 := n3_; have BK339 := n4_; have HB := n5_; clear n0_ n1_ n2_ n3_ n4_ n5_; (try clear hb); (try clear hb2); (try clear hk); (try clear hi)))
            go_ret
            exact ⟨by first | rfl | (simp [errW_none, errW_some] <;> rfl) | (simp [*, errW_none, errW_some] <;> rfl), by repeat (first | (with_reducible first | exact HB.out | apply below_alloc | apply pw_below_drewN | apply below_drew1 | refine below_set ?_ GE339.out) | exact HB.out)⟩
          · rw [if_neg c69] at H
            have c69b0 : decide ((t346.length : Int) < (t355.length : Int)) = false := decide_eq_false c69
            have c69b1 : decide (t346.length < t355.length) = false := decide_eq_false (fun h => c69 (Int.ofNat_lt.mpr h))
            clear c69
            by_cases c74 : (t352.length : Int) < (t342.length : Int)
            · rw [if_pos c74] at H
              have c74b0 : decide ((t352.length : Int) < (t342.length : Int)) = true := decide_eq_true c74
              have c74b1 : decide (t352.length < t342.length) = true := decide_eq_true (Int.ofNat_lt.mp c74)
              clear c74
              replace H := Option.bind_eq_some_iff.mp H
              obtain ⟨t362, A750, H⟩ := H
              replace H : (some t362) = some r := H
              have A75 := Aside0.mk A750
              clear A750
              obtain rfl := Option.some.inj H
              obtain ⟨Ao76, co76, eo76⟩ := Kd.V_slice HO_12.out
              subst eo76
              obtain ⟨Ao77, co77, eo77⟩ := Kd.V_slice HO_7.out
              subst eo77
              go_wp2_with (first | (go_at_call 23; (with_reducible refine (luciferlaw05_filled.calls  t362 _ ?side1 A75.out).mono ?_); (case side1 => exact Fl.Laid.below HLd0.out (by repeat (first | (with_reducible first | exact HB.out | apply below_alloc | apply pw_below_drewN | apply below_drew1 | refine below_set ?_ GE339.out) | exact HB.out))); rintro e w78 ⟨rfl, hb⟩; have n0_ := Aside0.mk (Kd.V_below (by (with_reducible repeat (first | apply Kd.V_alloc | apply Kd.V_drewN | apply Kd.V_drew)); exact HO_5.out) hb); have n1_ := Aside0.mk (Kd.V_below (by (with_reducible repeat (first | apply Kd.V_alloc | apply Kd.V_drewN | apply Kd.V_drew)); exact HO_7.out) hb); have n2_ := Aside0.mk (Kd.R_below (by (with_reducible repeat (first | apply Kd.R_alloc | apply Kd.R_drewN | apply Kd.R_drew)); exact HO_11.out) hb); have n3_ := Aside0.mk (Kd.V_below (by (with_reducible repeat (first | apply Kd.V_alloc | apply Kd.V_drewN | apply Kd.V_drew)); exact HO_12.out) hb); have n4_ := Aside0.mk (blk_below (g := gb339) (o := .cells #[.int .i64 a0_0, .int .i64 a0_1, .int .i64 a0_2, .int .i64 a0_3, .slice A0_4 l0_4.length c0_4] 24 (0, 0)) (by (with_reducible repeat (first | refine blk_drewN ?_ _ | refine blk_drew ?_ | refine blk_alloc ?_ _)); exact BK339.out) hb); have n5_ := Aside0.mk (below_step (by repeat (first | (with_reducible first | exact HB.out | apply below_alloc | apply pw_below_drewN | apply below_drew1 | refine below_set ?_ GE339.out) | exact HB.out)) hb); clear HO_5; clear HO_7; clear HO_11; clear HO_12; clear BK339; clear HB; have HO_5 := n0_; have HO_7 := n1_; have HO_11 := n2_; have HO_12 := n3_; have BK339 := n4_; have HB := n5_; clear n0_ n1_ n2_ n3_ n4_ n5_; (try clear hb); (try clear hb2); (try clear hk); (try clear hi)))
              go_ret
              exact ⟨by first | rfl | (simp [errW_none, errW_some] <;> rfl) | (simp [*, errW_none, errW_some] <;> rfl), by repeat (first | (with_reducible first | exact HB.out | apply below_alloc | apply pw_below_drewN | apply below_drew1 | refine below_set ?_ GE339.out) | exact HB.out)⟩
            · rw [if_neg c74] at H
              have c74b0 : decide ((t352.length : Int) < (t342.length : Int)) = false := decide_eq_false c74
              have c74b1 : decide (t352.length < t342.length) = false := decide_eq_false (fun h => c74 (Int.ofNat_lt.mpr h))
              clear c74
              by_cases c79 : (t352.length : Int) = (t342.length : Int)
              · rw [if_pos c79] at H
                have c79b0 : ((t352.length : Int) == (t342.length : Int)) = true := beq_iff_eq.mpr c79
                have c79b1 : ((t352.length : Int) != (t342.length : Int)) = false := bne_eq_false_iff_eq.mpr c79
                have c79b2 : (t352.length == t342.length) = true := by first | simpa using c79 | (simp at c79 ⊢; omega)
                clear c79
                replace H := Option.bind_eq_some_iff.mp H
                obtain ⟨t363, A800, H⟩ := H
                replace H : (if t363 = true then (some false) else ((luciferlaw05_filled.f).bind fun t364 => (some t364))) = some r := H
                have A80 := Aside0.mk A800
                clear A800
                by_cases c81 : t363 = true
                · subst c81
                  have H1 : (some false) = some r := by rw [if_pos rfl] at H; exact H
                  clear H
                  have H := H1
                  clear H1
                  obtain rfl := Option.some.inj H
                  obtain ⟨Ao82, co82, eo82⟩ := Kd.V_slice HO_12.out
                  subst eo82
                  obtain ⟨Ao83, co83, eo83⟩ := Kd.V_slice HO_7.out
                  subst eo83
                  go_wp2_with (first | (go_at_call 46; (with_reducible refine (luciferref00_Earlier.calls kj9 _ _ t352 _ _ t342 true _ ?side1 ?side2 ?side3 ?side4 A80.out).mono ?_); (case side1 => repeat (first | exact (Kd.R_reads' HO_11.out).2.2 | (with_reducible refine Kd.C_alloc ?_ _) | (with_reducible refine Kd.C_drewN ?_ _) | (with_reducible refine Kd.C_drew ?_))); (case side2 => exact (Kd.R_reads' HO_11.out).2.1); (case side3 => repeat (first | exact (Kd.V_reads' HO_5.out).2.2 | (with_reducible refine Kd.C_alloc ?_ _) | (with_reducible refine Kd.C_drewN ?_ _) | (with_reducible refine Kd.C_drew ?_))); (case side4 => exact (Kd.V_reads' HO_5.out).2.1); rintro e w' ⟨rfl, ⟨nd, rfl⟩⟩))
                  go_ret
                  exact ⟨by first | rfl | (simp [errW_none, errW_some] <;> rfl) | (simp [*, errW_none, errW_some] <;> rfl), by repeat (first | (with_reducible first | exact HB.out | apply below_alloc | apply pw_below_drewN | apply below_drew1 | refine below_set ?_ GE339.out) | exact HB.out)⟩
                · replace c81 := Bool.eq_false_iff.mpr c81
                  subst c81
                  have H1 : ((luciferlaw05_filled.f).bind fun t364 => (some t364)) = some r := by rw [if_neg (show ¬ (false = true) by decide)] at H; exact H
                  clear H
                  have H := H1
                  clear H1
                  replace H := Option.bind_eq_some_iff.mp H
                  obtain ⟨t364, A840, H⟩ := H
                  replace H : (some t364) = some r := H
                  have A84 := Aside0.mk A840
                  clear A840
                  obtain rfl := Option.some.inj H
                  obtain ⟨Ao85, co85, eo85⟩ := Kd.V_slice HO_12.out
                  subst eo85
                  obtain ⟨Ao86, co86, eo86⟩ := Kd.V_slice HO_7.out
                  subst eo86
                  go_wp2_with (first | (go_at_call 46; (with_reducible refine (luciferref00_Earlier.calls kj9 _ _ t352 _ _ t342 false _ ?side1 ?side2 ?side3 ?side4 A80.out).mono ?_); (case side1 => repeat (first | exact (Kd.R_reads' HO_11.out).2.2 | (with_reducible refine Kd.C_alloc ?_ _) | (with_reducible refine Kd.C_drewN ?_ _) | (with_reducible refine Kd.C_drew ?_))); (case side2 => exact (Kd.R_reads' HO_11.out).2.1); (case side3 => repeat (first | exact (Kd.V_reads' HO_5.out).2.2 | (with_reducible refine Kd.C_alloc ?_ _) | (with_reducible refine Kd.C_drewN ?_ _) | (with_reducible refine Kd.C_drew ?_))); (case side4 => exact (Kd.V_reads' HO_5.out).2.1); rintro e w' ⟨rfl, ⟨nd, rfl⟩⟩) | (go_at_call 23; (with_reducible refine (luciferlaw05_filled.calls  t364 _ ?side1 A84.out).mono ?_); (case side1 => exact Fl.Laid.below HLd0.out (by repeat (first | (with_reducible first | exact HB.out | apply below_alloc | apply pw_below_drewN | apply below_drew1 | refine below_set ?_ GE339.out) | exact HB.out))); rintro e w87 ⟨rfl, hb⟩; have n0_ := Aside0.mk (Kd.V_below (by (with_reducible repeat (first | apply Kd.V_alloc | apply Kd.V_drewN | apply Kd.V_drew)); exact HO_5.out) hb); have n1_ := Aside0.mk (Kd.V_below (by (with_reducible repeat (first | apply Kd.V_alloc | apply Kd.V_drewN | apply Kd.V_drew)); exact HO_7.out) hb); have n2_ := Aside0.mk (Kd.R_below (by (with_reducible repeat (first | apply Kd.R_alloc | apply Kd.R_drewN | apply Kd.R_drew)); exact HO_11.out) hb); have n3_ := Aside0.mk (Kd.V_below (by (with_reducible repeat (first | apply Kd.V_alloc | apply Kd.V_drewN | apply Kd.V_drew)); exact HO_12.out) hb); have n4_ := Aside0.mk (blk_below (g := gb339) (o := .cells #[.int .i64 a0_0, .int .i64 a0_1, .int .i64 a0_2, .int .i64 a0_3, .slice A0_4 l0_4.length c0_4] 24 (0, 0)) (by (with_reducible repeat (first | refine blk_drewN ?_ _ | refine blk_drew ?_ | refine blk_alloc ?_ _)); exact BK339.out) hb); have n5_ := Aside0.mk (below_step (by repeat (first | (with_reducible first | exact HB.out | apply below_alloc | apply pw_below_drewN | apply below_drew1 | refine below_set ?_ GE339.out) | exact HB.out)) hb); clear HO_5; clear HO_7; clear HO_11; clear HO_12; clear BK339; clear HB; have HO_5 := n0_; have HO_7 := n1_; have HO_11 := n2_; have HO_12 := n3_; have BK339 := n4_; have HB := n5_; clear n0_ n1_ n2_ n3_ n4_ n5_; (try clear hb); (try clear hb2); (try clear hk); (try clear hi)))
                  go_ret
                  exact ⟨by first | rfl | (simp [errW_none, errW_some] <;> rfl) | (simp [*, errW_none, errW_some] <;> rfl), by repeat (first | (with_reducible first | exact HB.out | apply below_alloc | apply pw_below_drewN | apply below_drew1 | refine below_set ?_ GE339.out) | exact HB.out)⟩
              · rw [if_neg c79] at H
                have c79b0 : ((t352.length : Int) == (t342.length : Int)) = false := beq_eq_false_iff_ne.mpr c79
                have c79b1 : ((t352.length : Int) != (t342.length : Int)) = true := bne_iff_ne.mpr c79
                have c79b2 : (t352.length == t342.length) = false := by first | simpa using c79 | (simp at c79 ⊢; omega)
                obtain rfl := Option.some.inj H
                obtain ⟨Ao88, co88, eo88⟩ := Kd.V_slice HO_12.out
                subst eo88
                obtain ⟨Ao89, co89, eo89⟩ := Kd.V_slice HO_7.out
                subst eo89
                go_wp2
                go_ret
                exact ⟨by first | rfl | (simp [errW_none, errW_some] <;> rfl) | (simp [*, errW_none, errW_some] <;> rfl), by repeat (first | (with_reducible first | exact HB.out | apply below_alloc | apply pw_below_drewN | apply below_drew1 | refine below_set ?_ GE339.out) | exact HB.out)⟩
  · replace c4 := Bool.eq_false_iff.mpr c4
    subst c4
    have H1 : ((luciferlaw05_filled.f).bind fun t341 => (some t341)) = some r := by rw [if_neg (show ¬ (false = true) by decide)] at H; exact H
    clear H
    have H := H1
    clear H1
    replace H := Option.bind_eq_some_iff.mp H
    obtain ⟨t341, A900, H⟩ := H
    replace H : (some t341) = some r := H
    have A90 := Aside0.mk A900
    clear A900
    obtain rfl := Option.some.inj H
    go_enter Tryd.func7, Tryd.ntmps7
    go_wp2_with (first | ((with_reducible refine gate_dst (N := 2) rfl ?_); (try (refine gate_guard (by rfl) ?_; dsimp only)); refine box_event ?hg (N := 2) ?hd (cs := #[.int .i64 a0_0, .int .i64 a0_1, .int .i64 a0_2, .int .i64 a0_3, .slice A0_4 l0_4.length c0_4]) (t := 24) ?hr ?_; (case hd => rfl); (case hg => rfl); (case hr => first | (go_simp; done) | (go_simp; rfl)); intro gb339 hg w91 hbox hb; have n0_ := Aside0.mk (below_step (by repeat (first | (with_reducible first | exact HB.out | apply below_alloc | apply pw_below_drewN | apply below_drew1) | exact HB.out)) hb); have n1_ := Aside0.mk (hbox); have n2_ := Aside0.mk ((by rw [hg]; exact (below_size (by repeat (first | (with_reducible first | exact HB.out | apply below_alloc | apply pw_below_drewN | apply below_drew1) | exact HB.out))) : w.heap.size ≤ gb339)); have n3_ := Aside0.mk ((by rw [hg]; exact (below_size (by repeat (first | (with_reducible first | exact HB.out | apply below_alloc | apply pw_below_drewN | apply below_drew1) | exact HB.out))) : w.heap.size ≤ gb339)); clear HB; have HB := n0_; have BK339 := n1_; have GW339 := n2_; have GE339 := n3_; clear n0_ n1_ n2_ n3_; clear hb hbox hg; have hcz92_0 : w91.cell? ⟨gb339, 0, none⟩ = some (.int .i64 a0_0) := (blk_cell BK339.out 0).trans rfl; have hcz92_1 : w91.cell? ⟨gb339, 1, none⟩ = some (.int .i64 a0_1) := (blk_cell BK339.out 1).trans rfl; have hcz92_2 : w91.cell? ⟨gb339, 2, none⟩ = some (.int .i64 a0_2) := (blk_cell BK339.out 2).trans rfl; have hcz92_3 : w91.cell? ⟨gb339, 3, none⟩ = some (.int .i64 a0_3) := (blk_cell BK339.out 3).trans rfl; have hcz92_4 : w91.cell? ⟨gb339, 4, none⟩ = some (.slice A0_4 l0_4.length c0_4) := (blk_cell BK339.out 4).trans rfl; have hfz92_0 := blk_frozen BK339.out 0; have hfz92_1 := blk_frozen BK339.out 1; have hfz92_2 := blk_frozen BK339.out 2; have hfz92_3 := blk_frozen BK339.out 3; have hfz92_4 := blk_frozen BK339.out 4) | ((with_reducible refine gate_callee (f := 37) rfl ?_); refine goesL_ (some 15) rfl rfl Tryd.func37 (by kernel_rfl) rfl #[.agg #[.int .i64 a0_0, .int .i64 a0_1, .int .i64 a0_2, .int .i64 a0_3, .slice A0_4 l0_4.length c0_4]] rfl (by (try simp only [List.map_toArray, List.map_cons, List.map_nil]); first | done | rfl | (simp only [List.length_drop, List.length_take]; rfl)) ?_; (with_reducible refine (luciferlaw05_sound.calls k a0_0 a0_1 a0_2 a0_3 _ _ l0_4 false _ ?side1 ?side2 A3.out).mono ?_); (case side1 => repeat (first | exact (Kd.C_below HR0_4.out HB.out) | (with_reducible refine Kd.C_alloc ?_ _) | (with_reducible refine Kd.C_drewN ?_ _) | (with_reducible refine Kd.C_drew ?_))); (case side2 => exact HC0_4.out); rintro e w93 ⟨rfl, hb⟩; refine ⟨_, rfl, ?_⟩; have n0_ := Aside0.mk (blk_below (g := gb339) (o := .cells #[.int .i64 a0_0, .int .i64 a0_1, .int .i64 a0_2, .int .i64 a0_3, .slice A0_4 l0_4.length c0_4] 24 (0, 0)) (by (with_reducible repeat (first | refine blk_drewN ?_ _ | refine blk_drew ?_ | refine blk_alloc ?_ _)); exact BK339.out) hb); have n1_ := Aside0.mk (below_step (by repeat (first | (with_reducible first | exact HB.out | apply below_alloc | apply pw_below_drewN | apply below_drew1 | refine below_set ?_ GE339.out) | exact HB.out)) hb); clear BK339; clear HB; have BK339 := n0_; have HB := n1_; clear n0_ n1_; (try clear hb); (try clear hb2); (try clear hk); (try clear hi)) | ((with_reducible refine gate_callee (f := 23) rfl ?_); refine goesL_ (some 17) rfl rfl Tryd.func23 (by kernel_rfl) rfl #[] rfl (by (try simp only [List.map_toArray, List.map_cons, List.map_nil]); first | done | rfl | (simp only [List.length_drop, List.length_take]; rfl)) ?_; (with_reducible refine (luciferlaw05_filled.calls  t341 _ ?side1 A90.out).mono ?_); (case side1 => exact Fl.Laid.below HLd0.out (by repeat (first | (with_reducible first | exact HB.out | apply below_alloc | apply pw_below_drewN | apply below_drew1 | refine below_set ?_ GE339.out) | exact HB.out))); rintro e w94 ⟨rfl, hb⟩; refine ⟨_, rfl, ?_⟩; have n0_ := Aside0.mk (blk_below (g := gb339) (o := .cells #[.int .i64 a0_0, .int .i64 a0_1, .int .i64 a0_2, .int .i64 a0_3, .slice A0_4 l0_4.length c0_4] 24 (0, 0)) (by (with_reducible repeat (first | refine blk_drewN ?_ _ | refine blk_drew ?_ | refine blk_alloc ?_ _)); exact BK339.out) hb); have n1_ := Aside0.mk (below_step (by repeat (first | (with_reducible first | exact HB.out | apply below_alloc | apply pw_below_drewN | apply below_drew1 | refine below_set ?_ GE339.out) | exact HB.out)) hb); clear BK339; clear HB; have BK339 := n0_; have HB := n1_; clear n0_ n1_; (try clear hb); (try clear hb2); (try clear hk); (try clear hi)))
    go_ret
    exact ⟨by first | rfl | (simp [errW_none, errW_some] <;> rfl) | (simp [*, errW_none, errW_some] <;> rfl), by repeat (first | (with_reducible first | exact HB.out | apply below_alloc | apply pw_below_drewN | apply below_drew1 | refine below_set ?_ GE339.out) | exact HB.out)⟩
end Go.Proofs.YtbbdbdamedaldaaDoor.PL
end
