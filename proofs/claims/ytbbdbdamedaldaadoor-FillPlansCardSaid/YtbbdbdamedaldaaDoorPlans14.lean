/- The card of FillPlans: the row, its listed variable tied to the program's text. Whatever the input, the law returns true, and each argument reads afterwards as it did. (part 15) -/
import Derived.Test.YtbbdbdamedaldaaDoorPlans13
set_option linter.unusedVariables false
set_option linter.unusedSimpArgs false
section
namespace Go.Proofs.YtbbdbdamedaldaaDoor.PL
open Go Go.RowKit Go.Proofs.YtbbdbdamedaldaaDoorW.PrintWords Fl
def inI (x : Int) : Prop := -9223372036854775808 ≤ x ∧ x ≤ 9223372036854775807
def inS (l : List S27) : Prop := ∀ s ∈ l, inI s.f0 ∧ inI s.f1
theorem fits_f (x a b : Int) : luciferref00_Fits.f x a b = some (decide (a ≤ x) && decide (x ≤ b)) := by
  unfold luciferref00_Fits.f
  by_cases h : a ≤ x <;> simp [h]
theorem right_f (x y a b : Int) : luciferref00_Right.f x y a b = some (decide (a ≤ x) && decide (x ≤ y) && decide (y ≤ b)) := by
  unfold luciferref00_Right.f
  by_cases h : a ≤ x <;> by_cases h2 : x ≤ y <;> simp [h, h2]
theorem wraps_f (a b c d : Int) : luciferref00_Wraps.f a b c d = some (decide (a ≤ c) && decide (d ≤ b)) := by
  unfold luciferref00_Wraps.f
  by_cases h : a ≤ c <;> simp [h]
theorem rd27 (l : List S27) (i : Nat) (hi : i < l.length) : rd_T27 l (i : Int) = l[i] := by
  simp [rd_T27, List.getD_eq_getElem?_getD, List.getElem?_eq_getElem hi]
theorem w64 {x : Int} (h : inI x) : wrap64 x = x := IntWalk.wrap64_in _ h
theorem prs_get (l : List S27) (i : Nat) (hi : i < l.length) : (prs l)[i]'(by rw [prs_length]; exact hi) = ((l[i]).f0, (l[i]).f1) := by simp [prs]
theorem prs_drop (l : List S27) (i : Nat) (hi : i < l.length) : (prs l).drop i = ((l[i]).f0, (l[i]).f1) :: (prs l).drop (i + 1) := by
  rw [List.drop_eq_getElem_cons (by rw [prs_length]; exact hi), prs_get]
theorem okS_ref (x y : Int) (hx : inI x) (hy : inI y) : (decide (0 ≤ x) && decide (x ≤ y) && decide (y ≤ 200) && decide (wrap64 (y - x) ≤ 10)) = okS (x, y) := by
  unfold okS
  by_cases h : 0 ≤ x ∧ x ≤ y ∧ y ≤ 200
  · rw [w64 (show inI (y - x) from ⟨by omega, by omega⟩)]
  · rcases Decidable.not_and_iff_or_not.1 h with h | h
    · simp [h]
    · rcases Decidable.not_and_iff_or_not.1 h with h | h <;> simp [h]
theorem refCheck_l0 (a b c d : Int) (l : List S27) (hs : inS l) (hl : l.length ≤ 9223372036854775807) : ∀ (m i : Nat) (x3 : Bool), i + m = l.length → Ev (fun k => luciferref05_Check.l0 k x3 i a b c d l) (errOf (x3 && ((prs l).drop i).all okS))
  | m, i, false, _ => Ev.step (f := fun _ => some 50) (fun k => by simp [luciferref05_Check.l0]) (Ev.now _)
  | 0, i, true, h => by
    have e : (prs l).drop i = [] := List.drop_eq_nil_of_le (by rw [prs_length]; omega)
    rw [e]
    exact Ev.step (f := fun _ => some 0) (fun k => by simp only [luciferref05_Check.l0]; rw [if_pos trivial, if_neg (by omega)]) (Ev.now _)
  | m + 1, i, true, h => by
    have hi : i < l.length := by omega
    have hsi := hs l[i] (List.getElem_mem _)
    have hw : wrap64 ((i : Int) + 1) = ((i + 1 : Nat) : Int) := by rw [w64 ⟨by omega, by omega⟩]; omega
    rw [prs_drop l i hi, List.all_cons]
    by_cases hr : (decide (0 ≤ l[i].f0) && decide (l[i].f0 ≤ l[i].f1) && decide (l[i].f1 ≤ 200)) = true
    · refine Ev.step (f := fun k => luciferref05_Check.l0 k (decide (wrap64 (l[i].f1 - l[i].f0) ≤ 10)) (i + 1 : Nat) a b c d l) (fun k => ?_) ?_
      · simp only [luciferref05_Check.l0]
        rw [if_pos trivial, if_pos (by omega), if_pos (by omega), rd27 l i hi, right_f, Option.bind_some, if_pos hr, hw]
      · have e := okS_ref l[i].f0 l[i].f1 hsi.1 hsi.2
        rw [hr, Bool.true_and] at e
        rw [Bool.true_and, ← e]
        exact refCheck_l0 a b c d l hs hl m (i + 1) _ (by omega)
    · refine Ev.step (f := fun k => luciferref05_Check.l0 k false (i + 1 : Nat) a b c d l) (fun k => ?_) ?_
      · simp only [luciferref05_Check.l0]
        rw [if_pos trivial, if_pos (by omega), if_pos (by omega), rd27 l i hi, right_f, Option.bind_some, if_neg hr, hw]
      · have e := okS_ref l[i].f0 l[i].f1 hsi.1 hsi.2
        have hr2 : (decide (0 ≤ l[i].f0) && decide (l[i].f0 ≤ l[i].f1) && decide (l[i].f1 ≤ 200)) = false := by simpa using hr
        rw [hr2, Bool.false_and] at e
        rw [Bool.true_and, ← e, Bool.false_and]
        have := refCheck_l0 a b c d l hs hl m (i + 1) false (by omega)
        simpa using this
theorem refCheck_f (a b c d : Int) (l : List S27) (ha : inI a) (hs : inS l) (hl : l.length ≤ 9223372036854775807) : Ev (fun k => luciferref05_Check.f k a b c d l) (errOf (checkB a b c d (prs l))) := by
  have hj : ∀ x, Ev (fun k => luciferref05_Check.j0 k x a b c d l) (errOf (x && (prs l).all okS)) := fun x => by
    refine Ev.step (f := fun k => luciferref05_Check.l0 k x 0 a b c d l) (fun k => by simp only [luciferref05_Check.j0]) ?_
    have := refCheck_l0 a b c d l hs hl l.length 0 x (by omega)
    simpa using this
  have hf : ∀ k, luciferref05_Check.f k a b c d l = luciferref05_Check.j0 k (decide (1 ≤ a) && decide (a ≤ 500) && (decide (0 ≤ b) && decide (b ≤ mn 50 (wrap64 (a - 1)))) && (decide (0 ≤ c) && decide (c ≤ 50)) && (decide (1 ≤ d) && decide (d ≤ 4)) && decide ((l.length : Int) ≤ 8)) a b c d l := by
    intro k
    unfold luciferref05_Check.f
    rw [fits_f, fits_f, fits_f, fits_f]
    simp only [Option.bind_some]
    cases h1 : (decide (1 ≤ a) && decide (a ≤ 500)) <;> cases h2 : (decide (0 ≤ b) && decide (b ≤ mn 50 (wrap64 (a - 1)))) <;> cases h3 : (decide (0 ≤ c) && decide (c ≤ 50)) <;> cases h4 : (decide (1 ≤ d) && decide (d ≤ 4)) <;> simp
  refine Ev.congr hf ?_
  have e : checkB a b c d (prs l) = ((decide (1 ≤ a) && decide (a ≤ 500) && (decide (0 ≤ b) && decide (b ≤ mn 50 (wrap64 (a - 1)))) && (decide (0 ≤ c) && decide (c ≤ 50)) && (decide (1 ≤ d) && decide (d ≤ 4)) && decide ((l.length : Int) ≤ 8)) && (prs l).all okS) := by
    unfold checkB
    congr 1
    rw [prs_length]
    rw [Bool.eq_iff_iff]
    simp only [Bool.and_eq_true, decide_eq_true_eq]
    unfold mn
    by_cases h1 : 1 ≤ a ∧ a ≤ 500
    · rw [w64 (show inI (a - 1) from ⟨by omega, by omega⟩)]
      constructor
      · intro h
        refine ⟨⟨⟨⟨h1, by omega, ?_⟩, by omega⟩, by omega⟩, by omega⟩
        split <;> omega
      · rintro ⟨⟨⟨⟨_, h2, h3⟩, h4⟩, h5⟩, h6⟩
        split at h3 <;> omega
    · constructor
      · intro h; omega
      · rintro ⟨⟨⟨⟨h, _⟩, _⟩, _⟩, _⟩; exact absurd h h1
  rw [e]
  exact hj _
theorem refAsked_f (a b c d : Int) (l : List S27) (x : Bool) (ha : inI a) (hs : inS l) (hl : l.length ≤ 9223372036854775807) : Ev (fun k => luciferref05_asked.f k a b c d l x) (if checkB a b c d (prs l) = true then (if x = true then 0 else 51) else 50) := by
  unfold luciferref05_asked.f
  refine Ev.bind (refCheck_f a b c d l ha hs hl) ?_
  cases checkB a b c d (prs l) with
  | true => cases x <;> exact Ev.now _
  | false => exact Ev.now _
theorem refSum_l0 (a b c d : Int) (l : List S27) (hl : l.length ≤ 8) (hb : ∀ s ∈ l, (0 ≤ s.f0 ∧ s.f0 ≤ 200) ∧ (0 ≤ s.f1 ∧ s.f1 ≤ 200)) (y : Nat) (hy : y ≤ l.length) : ∀ (m i : Nat) (u v : Int), (i + m = y) → (0 ≤ u ∧ u ≤ 200 * i) → (0 ≤ v ∧ v ≤ 200 * i) →
    Ev (fun k => luciferref05_sum.l0 k y i a b c d l u v) (u + sg (lowOf (prs l)) i y, v + sg (highOf (prs l)) i y)
  | 0, i, u, v, h, _, _ => by
    have e : i = y := by omega
    subst e
    have z : ∀ f : Nat → Int, sg f i i = 0 := fun f => by simp [sg]
    rw [z, z, Int.add_zero, Int.add_zero]
    exact Ev.step (f := fun _ => some (u, v)) (fun k => by simp only [luciferref05_sum.l0]; rw [if_neg (by omega)]) (Ev.now _)
  | m + 1, i, u, v, h, hu, hv => by
    have hi : i < l.length := by omega
    obtain ⟨h1, h2⟩ := hb l[i] (List.getElem_mem _)
    have hw : wrap64 ((i : Int) + 1) = ((i + 1 : Nat) : Int) := by rw [w64 ⟨by omega, by omega⟩]; omega
    have z : ∀ f : Nat → Int, sg f i y = f i + sg f (i + 1) y := fun f => by
      unfold sg
      rw [show y - i = (y - (i + 1)) + 1 by omega, List.range'_succ, List.map_cons, List.sum_cons]
    have e1 : lowOf (prs l) i = l[i].f0 := by simp [lowOf, prs, List.getD_eq_getElem?_getD, List.getElem?_eq_getElem hi]
    have e2 : highOf (prs l) i = l[i].f1 := by simp [highOf, prs, List.getD_eq_getElem?_getD, List.getElem?_eq_getElem hi]
    rw [z, z, e1, e2, ← Int.add_assoc, ← Int.add_assoc]
    refine Ev.step (f := fun k => luciferref05_sum.l0 k y (i + 1 : Nat) a b c d l (u + l[i].f0) (v + l[i].f1)) (fun k => ?_) (refSum_l0 a b c d l hl hb y hy m (i + 1) (u + l[i].f0) (v + l[i].f1) (by omega) (by omega) (by omega))
    simp only [luciferref05_sum.l0]
    rw [if_pos (by omega), if_pos (by omega), if_pos (by omega), rd27 l i hi, hw, w64 ⟨by omega, by omega⟩, w64 ⟨by omega, by omega⟩]
    rfl
theorem inB {a b c d : Int} {l : List S27} (h : checkB a b c d (prs l) = true) : l.length ≤ 8 ∧ ∀ s ∈ l, (0 ≤ s.f0 ∧ s.f0 ≤ 200) ∧ (0 ≤ s.f1 ∧ s.f1 ≤ 200) := by
  have hF := bookF h
  refine ⟨by have := hF.n8; rw [prs_length] at this; exact this, fun s hs => ?_⟩
  have := hF.ok (s.f0, s.f1) (List.mem_map.2 ⟨s, hs, rfl⟩)
  simp only at this
  omega
theorem refSum_f {a b c d : Int} {l : List S27} (h : checkB a b c d (prs l) = true) (x y : Nat) (hxy : x ≤ y) (hy : y ≤ l.length) : Ev (fun k => luciferref05_sum.f k a b c d l x y) (sg (lowOf (prs l)) x y, sg (highOf (prs l)) x y) := by
  obtain ⟨h8, hb⟩ := inB h
  have := refSum_l0 a b c d l h8 hb y hy (y - x) x 0 0 (by omega) (by omega) (by omega)
  simp only [Int.zero_add] at this
  exact this
theorem sg_bd2 {a b c d : Int} {l : List S27} (h : checkB a b c d (prs l) = true) (x y : Nat) (hy : y ≤ 8) : (0 ≤ sg (lowOf (prs l)) x y ∧ sg (lowOf (prs l)) x y ≤ 1600) ∧ (0 ≤ sg (highOf (prs l)) x y ∧ sg (highOf (prs l)) x y ≤ 1600) := by
  have hF := bookF h
  have key : ∀ (f : Nat → Int), (∀ i, 0 ≤ f i ∧ f i ≤ 200) → ∀ (n x : Nat), 0 ≤ ((List.range' x n).map f).sum ∧ ((List.range' x n).map f).sum ≤ 200 * n := by
    intro f hf n
    induction n with
    | zero => intro x; simp
    | succ n ih =>
      intro x
      have := hf x
      have := ih (x + 1)
      rw [List.range'_succ, List.map_cons, List.sum_cons]
      omega
  have k1 := key (lowOf (prs l)) hF.hl (y - x) x
  have k2 := key (highOf (prs l)) hF.hh (y - x) x
  unfold sg
  omega
theorem label_f {a b c d : Int} {l : List S27} (h : checkB a b c d (prs l) = true) : luciferref05_label.f a b c d l = some (a - b, a + c) := by
  have hF := bookF h
  have := hF.b1
  have := hF.b2
  have := hF.b3
  have := hF.b4
  have := hF.b5
  have := hF.b6
  unfold luciferref05_label.f
  rw [w64 ⟨by omega, by omega⟩, w64 ⟨by omega, by omega⟩]
  rfl
theorem refRight_f {a b c d : Int} {l : List S27} (h : checkB a b c d (prs l) = true) (x y : Nat) (hxy : x ≤ y) (hy : y ≤ l.length) : Ev (fun k => luciferref05_right.f k a b c d l x y) (rightB a b c (lowOf (prs l)) (highOf (prs l)) x y) := by
  unfold luciferref05_right.f
  rw [label_f h]
  simp only [Option.bind_some]
  refine Ev.bind (refSum_f h x y hxy hy) ?_
  simp only [wraps_f, Option.bind_some]
  exact Ev.now _
theorem refIsBox_f (a b c d : Int) (l : List S27) (x y : Int) (hx : inI x) (hy : inI y) (hl : l.length ≤ 9223372036854775807) : luciferref05_isBox.f a b c d l x y = some (decide (0 ≤ x) && decide (x ≤ l.length) && (decide (0 ≤ y) && decide (y ≤ l.length)) && (decide (1 ≤ wrap64 (y - x)) && decide (wrap64 (y - x) ≤ d))) := by
  unfold luciferref05_isBox.f
  rw [fits_f, fits_f, fits_f]
  simp only [Option.bind_some]
  cases h1 : (decide (0 ≤ x) && decide (x ≤ (l.length : Int))) <;> cases h2 : (decide (0 ≤ y) && decide (y ≤ (l.length : Int))) <;> simp
theorem refIsBox (a b c d : Int) (l : List S27) (x y : Int) (hx : inI x) (hy : inI y) (hl : l.length ≤ 9223372036854775807) : luciferref05_isBox.f a b c d l x y = some (boxB l.length d x y) := by
  rw [refIsBox_f a b c d l x y hx hy (by omega)]
  congr 1
  rw [Bool.eq_iff_iff, boxB_iff]
  simp only [Bool.and_eq_true, decide_eq_true_eq]
  by_cases h : (0 ≤ x ∧ x ≤ l.length) ∧ (0 ≤ y ∧ y ≤ l.length)
  · rw [w64 (show inI (y - x) from ⟨by omega, by omega⟩)]
    omega
  · constructor
    · rintro ⟨h1, _⟩; exact absurd h1 h
    · intro h2; omega
def planFB (n : Nat) (gr : Int) : Int → List Int → Bool
  | a, [] => a == n
  | a, t :: p => boxB n gr a t && planFB n gr t p
theorem planFB_iff (n : Nat) (gr : Int) : ∀ (p : List Int) (a : Int), 0 ≤ a → (planFB n gr a p = true ↔ okF n gr a p)
  | [], a, _ => by simp [planFB, okF]
  | t :: p, a, ha => by
    unfold planFB okF
    rw [Bool.and_eq_true, boxB_iff]
    constructor
    · rintro ⟨h1, h2⟩
      exact ⟨h1.2.1, h1.2.2.1, h1.2.2.2, (planFB_iff n gr p t (by omega)).1 h2⟩
    · rintro ⟨h1, h2, h3, h4⟩
      exact ⟨⟨ha, h1, h2, h3⟩, (planFB_iff n gr p t (by omega)).2 h4⟩
theorem planB_FB (n : Nat) (gr : Int) (p : List Int) : planB n gr p = planFB n gr 0 p := by
  rw [Bool.eq_iff_iff, planB_iff, planP_iff, planFB_iff n gr p 0 (Int.le_refl _)]
theorem rd_get (p : List Int) (i : Nat) (hi : i < p.length) : rd p (i : Int) = p[i] := by
  simp [rd, List.getD_eq_getElem?_getD, List.getElem?_eq_getElem hi]
theorem refIsPlan_l0 (a b c d : Int) (l : List S27) (p : List Int) (hp : wfL p) (hl : l.length ≤ 9223372036854775807) (hpl : p.length ≤ 9223372036854775807) : ∀ (m i : Nat) (fr : Int), inI fr → i + m = p.length → Ev (fun k => luciferref05_isPlan.l0 k p fr i a b c d l) (planFB l.length d fr (p.drop i))
  | 0, i, fr, _, h => by
    have e : p.drop i = [] := List.drop_eq_nil_of_le (by omega)
    rw [e]
    refine Ev.step (f := fun _ => some (fr == (l.length : Int))) (fun k => ?_) (Ev.now _)
    simp only [luciferref05_isPlan.l0]
    rw [if_neg (by omega)]
  | m + 1, i, fr, hf, h => by
    have hi : i < p.length := by omega
    have hx : inI p[i] := hp _ (List.getElem_mem _)
    have hw : wrap64 ((i : Int) + 1) = ((i + 1 : Nat) : Int) := by rw [w64 ⟨by omega, by omega⟩]; omega
    rw [List.drop_eq_getElem_cons hi]
    unfold planFB
    cases hb : boxB l.length d fr p[i] with
    | true =>
      refine Ev.step (f := fun k => luciferref05_isPlan.l0 k p p[i] (i + 1 : Nat) a b c d l) (fun k => ?_) ?_
      · simp only [luciferref05_isPlan.l0]
        rw [if_pos (by omega), if_pos (by omega), rd_get p i hi, refIsBox a b c d l _ _ hf hx hl, Option.bind_some, hb, if_pos rfl, hw]
      · rw [Bool.true_and]
        exact refIsPlan_l0 a b c d l p hp hl hpl m (i + 1) _ hx (by omega)
    | false =>
      refine Ev.step (f := fun _ => some false) (fun k => ?_) (Ev.now _)
      simp only [luciferref05_isPlan.l0]
      rw [if_pos (by omega), if_pos (by omega), rd_get p i hi, refIsBox a b c d l _ _ hf hx hl, Option.bind_some, hb, if_neg (by decide)]
theorem refIsPlan_f (a b c d : Int) (l : List S27) (p : List Int) (hp : wfL p) (hl : l.length ≤ 9223372036854775807) (hpl : p.length ≤ 9223372036854775807) : Ev (fun k => luciferref05_isPlan.f k a b c d l p) (planB l.length d p) := by
  rw [planB_FB]
  have := refIsPlan_l0 a b c d l p hp hl hpl p.length 0 0 ⟨by omega, by omega⟩ (by omega)
  unfold luciferref05_isPlan.f
  simpa using this
theorem begins_f (p : List Int) (i : Nat) (hi : i < p.length) (hpl : p.length ≤ 9223372036854775807) : luciferref05_begins.f p (i : Int) = some (prev p i) := by
  unfold luciferref05_begins.f prev
  cases i with
  | zero => rfl
  | succ i =>
    have hw : wrap64 (((i + 1 : Nat) : Int) - 1) = (i : Int) := by rw [w64 ⟨by omega, by omega⟩]; omega
    rw [if_neg (by omega), hw, if_pos (by omega), if_pos (by omega), if_neg (by omega), rd_get p i (by omega)]
    simp [List.getD_eq_getElem?_getD, List.getElem?_eq_getElem (show i < p.length by omega)]
theorem plan_at {n : Nat} {gr : Int} {p : List Int} (h : planP n gr p) (i : Nat) (hi : i < p.length) : 0 ≤ prev p i ∧ prev p i < p[i] ∧ p[i] ≤ n := by
  have := h.1 i hi
  rw [boxB_iff] at this
  have e : p.getD i 0 = p[i] := by simp [List.getD_eq_getElem?_getD, List.getElem?_eq_getElem hi]
  rw [e] at this
  omega
theorem boxesOf_at (p : List Int) (i : Nat) (hi : i < p.length) : (boxesOf p).getD i (0, 0) = ((prev p i).toNat, p[i].toNat) := by
  simp [boxesOf, List.getD_eq_getElem?_getD, hi]
theorem refRight_at {a b c d : Int} {l : List S27} (h : checkB a b c d (prs l) = true) {p : List Int} (hp : planP l.length d p) (i : Nat) (hi : i < p.length) : Ev (fun k => luciferref05_right.f k a b c d l (prev p i) p[i]) (rightB a b c (lowOf (prs l)) (highOf (prs l)) ((boxesOf p).getD i (0, 0)).1 ((boxesOf p).getD i (0, 0)).2) := by
  obtain ⟨h1, h2, h3⟩ := plan_at hp i hi
  rw [boxesOf_at p i hi]
  have := refRight_f h (prev p i).toNat p[i].toNat (by omega) (by omega)
  rw [Int.toNat_of_nonneg h1, Int.toNat_of_nonneg (by omega)] at this
  exact this
theorem refSum_at {a b c d : Int} {l : List S27} (h : checkB a b c d (prs l) = true) {p : List Int} (hp : planP l.length d p) (i : Nat) (hi : i < p.length) : Ev (fun k => luciferref05_sum.f k a b c d l (prev p i) p[i]) (sg (lowOf (prs l)) ((boxesOf p).getD i (0, 0)).1 ((boxesOf p).getD i (0, 0)).2, sg (highOf (prs l)) ((boxesOf p).getD i (0, 0)).1 ((boxesOf p).getD i (0, 0)).2) := by
  obtain ⟨h1, h2, h3⟩ := plan_at hp i hi
  rw [boxesOf_at p i hi]
  have := refSum_f h (prev p i).toNat p[i].toNat (by omega) (by omega)
  rw [Int.toNat_of_nonneg h1, Int.toNat_of_nonneg (by omega)] at this
  exact this
theorem refByHand_l0 {a b c d : Int} {l : List S27} (h : checkB a b c d (prs l) = true) {p : List Int} (hp : planP l.length d p) : ∀ (m i : Nat), i + m = p.length →
    Ev (fun k => luciferref05_byHand.l0 k p (handsTo (rightB a b c (lowOf (prs l)) (highOf (prs l))) (boxesOf p) i) i a b c d l) (handL a b c (prs l) p)
  | 0, i, hm => by
    have e : i = p.length := by omega
    subst e
    refine Ev.step (f := fun _ => some (handL a b c (prs l) p)) (fun k => ?_) (Ev.now _)
    simp only [luciferref05_byHand.l0]
    rw [if_neg (by omega)]
    rfl
  | m + 1, i, hm => by
    have hi : i < p.length := by omega
    have h8 := planP_length hp
    have h9 := (inB h).1
    have hw : wrap64 ((i : Int) + 1) = ((i + 1 : Nat) : Int) := by rw [w64 ⟨by omega, by omega⟩]; omega
    have hlen := handsTo_len (rightB a b c (lowOf (prs l)) (highOf (prs l))) (boxesOf p) i
    have ih := refByHand_l0 h hp m (i + 1) (by omega)
    rw [handsTo_succ] at ih
    have hr := refRight_at h hp i hi
    refine Ev.step (f := fun k => (luciferref05_right.f k a b c d l (prev p i) p[i]).bind fun t => if t = true then luciferref05_byHand.l0 k p (handsTo (rightB a b c (lowOf (prs l)) (highOf (prs l))) (boxesOf p) i) (i + 1 : Nat) a b c d l else luciferref05_byHand.l0 k p (handsTo (rightB a b c (lowOf (prs l)) (highOf (prs l))) (boxesOf p) i ++ [(i : Int)]) (i + 1 : Nat) a b c d l) (fun k => ?_) (Ev.bind hr ?_)
    · simp only [luciferref05_byHand.l0]
      rw [if_pos (by omega), begins_f p i hi (by omega), Option.bind_some, if_pos (by omega), rd_get p i hi, hw]
      congr 1
      funext t
      split
      · rfl
      · rw [if_pos (by omega)]
    · cases hb : rightB a b c (lowOf (prs l)) (highOf (prs l)) ((boxesOf p).getD i (0, 0)).1 ((boxesOf p).getD i (0, 0)).2 with
      | true =>
        rw [hb, if_pos rfl, List.append_nil] at ih
        simpa using ih
      | false =>
        rw [hb, if_neg (by decide)] at ih
        simpa using ih
theorem refByHand_f {a b c d : Int} {l : List S27} (h : checkB a b c d (prs l) = true) {p : List Int} (hp : planP l.length d p) : Ev (fun k => luciferref05_byHand.f k a b c d l p) (handL a b c (prs l) p) := by
  have := refByHand_l0 h hp p.length 0 (by omega)
  unfold luciferref05_byHand.f
  simpa [handsTo] using this
theorem refOver_l0 {a b c d : Int} {l : List S27} (h : checkB a b c d (prs l) = true) {p : List Int} (hp : planP l.length d p) : ∀ (m i : Nat), i + m = p.length →
    Ev (fun k => luciferref05_Over.l0 k p i a b c d l (overTo a b c (lowOf (prs l)) (highOf (prs l)) (boxesOf p) i).1 (overTo a b c (lowOf (prs l)) (highOf (prs l)) (boxesOf p) i).2) ((overTo a b c (lowOf (prs l)) (highOf (prs l)) (boxesOf p) p.length).1, (overTo a b c (lowOf (prs l)) (highOf (prs l)) (boxesOf p) p.length).2, 0)
  | 0, i, hm => by
    have e : i = p.length := by omega
    subst e
    refine Ev.step (f := fun _ => some _) (fun k => ?_) (Ev.now _)
    simp only [luciferref05_Over.l0]
    rw [if_neg (by omega)]
  | m + 1, i, hm => by
    have hi : i < p.length := by omega
    have h8 := planP_length hp
    have h9 := (inB h).1
    have hF := bookF h
    have hw : wrap64 ((i : Int) + 1) = ((i + 1 : Nat) : Int) := by rw [w64 ⟨by omega, by omega⟩]; omega
    have ih := refOver_l0 h hp m (i + 1) (by omega)
    have hr := refRight_at h hp i hi
    have hsm := refSum_at h hp i hi
    have hbd := overTo_bd a b c (lowOf (prs l)) (highOf (prs l)) (boxesOf p) hF.b1 hF.b2 hF.hl hF.hh (fun x hx => by
      unfold boxesOf at hx
      obtain ⟨j, hj, rfl⟩ := List.mem_map.1 hx
      have hj2 := List.mem_range.1 hj
      obtain ⟨q1, q2, q3⟩ := plan_at hp j hj2
      have e : p.getD j 0 = p[j] := by simp [List.getD_eq_getElem?_getD, List.getElem?_eq_getElem hj2]
      simp only [e]
      omega) i
    obtain ⟨q1, q2, q3⟩ := plan_at hp i hi
    have hs := sg_bd2 h ((boxesOf p).getD i (0, 0)).1 ((boxesOf p).getD i (0, 0)).2 (by rw [boxesOf_at p i hi]; simp only; omega)
    have b1 := hF.b1
    have b2 := hF.b2
    refine Ev.step (f := fun k => (luciferref05_right.f k a b c d l (prev p i) p[i]).bind fun t => if t = true then (luciferref05_sum.f k a b c d l (prev p i) p[i]).bind fun bt => luciferref05_Over.l0 k p (i + 1 : Nat) a b c d l (wrap64 (wrap64 ((overTo a b c (lowOf (prs l)) (highOf (prs l)) (boxesOf p) i).1 + bt.1) - a)) (wrap64 (wrap64 ((overTo a b c (lowOf (prs l)) (highOf (prs l)) (boxesOf p) i).2 + bt.2) - a)) else luciferref05_Over.l0 k p (i + 1 : Nat) a b c d l (overTo a b c (lowOf (prs l)) (highOf (prs l)) (boxesOf p) i).1 (overTo a b c (lowOf (prs l)) (highOf (prs l)) (boxesOf p) i).2) (fun k => ?_) (Ev.bind hr ?_)
    · simp only [luciferref05_Over.l0]
      rw [if_pos (by omega), begins_f p i hi (by omega), Option.bind_some, if_pos (by omega), rd_get p i hi, hw]
      rfl
    · have hsc : overTo a b c (lowOf (prs l)) (highOf (prs l)) (boxesOf p) (i + 1) = if rightB a b c (lowOf (prs l)) (highOf (prs l)) ((boxesOf p).getD i (0, 0)).1 ((boxesOf p).getD i (0, 0)).2 = true then ((overTo a b c (lowOf (prs l)) (highOf (prs l)) (boxesOf p) i).1 + sg (lowOf (prs l)) ((boxesOf p).getD i (0, 0)).1 ((boxesOf p).getD i (0, 0)).2 - a, (overTo a b c (lowOf (prs l)) (highOf (prs l)) (boxesOf p) i).2 + sg (highOf (prs l)) ((boxesOf p).getD i (0, 0)).1 ((boxesOf p).getD i (0, 0)).2 - a) else overTo a b c (lowOf (prs l)) (highOf (prs l)) (boxesOf p) i := rfl
      rw [hsc] at ih
      cases hb : rightB a b c (lowOf (prs l)) (highOf (prs l)) ((boxesOf p).getD i (0, 0)).1 ((boxesOf p).getD i (0, 0)).2 with
      | true =>
        rw [hb, if_pos rfl] at ih
        simp only [if_true]
        refine Ev.bind hsm ?_
        simp only
        rw [w64 (x := (overTo a b c (lowOf (prs l)) (highOf (prs l)) (boxesOf p) i).1 + _) ⟨by omega, by omega⟩, w64 (x := (overTo a b c (lowOf (prs l)) (highOf (prs l)) (boxesOf p) i).2 + _) ⟨by omega, by omega⟩, w64 ⟨by omega, by omega⟩, w64 ⟨by omega, by omega⟩]
        exact ih
      | false =>
        rw [hb, if_neg (by decide)] at ih
        simpa using ih
theorem alike_l0 (p : List Int) (hpl : p.length ≤ 9223372036854775807) : ∀ (m i : Nat), i + m = p.length → Ev (fun k => luciferref00_Alike.l0 k p p i) true
  | 0, i, hm => Ev.step (f := fun _ => some true) (fun k => by simp only [luciferref00_Alike.l0]; rw [if_neg (by omega)]) (Ev.now _)
  | m + 1, i, hm => by
    have hw : wrap64 ((i : Int) + 1) = ((i + 1 : Nat) : Int) := by rw [w64 ⟨by omega, by omega⟩]; omega
    refine Ev.step (f := fun k => luciferref00_Alike.l0 k p p (i + 1 : Nat)) (fun k => ?_) (alike_l0 p hpl m (i + 1) (by omega))
    simp only [luciferref00_Alike.l0]
    rw [if_pos (by omega), if_pos (by omega), if_pos (by omega), if_pos trivial, hw]
theorem alike_f (p : List Int) (hpl : p.length ≤ 9223372036854775807) : Ev (fun k => luciferref00_Alike.f k p p) true := by
  unfold luciferref00_Alike.f
  simp only [if_true]
  exact alike_l0 p hpl p.length 0 (by omega)
end Go.Proofs.YtbbdbdamedaldaaDoor.PL
end
section
namespace Go.Proofs.YtbbdbdamedaldaaDoor.PL
open Go Go.RowKit Go.Proofs.YtbbdbdamedaldaaDoorW.PrintWords Fl
theorem pure_FillPlans (a b c d : Int) (l : List S27) (p : List Int) (ha : inI a) (_ : inI b) (_ : inI c) (_ : inI d) (hs : inS l) (hl : l.length ≤ 9223372036854775807) (hp : wfL p) (hpl : p.length ≤ 9223372036854775807) : Ev (fun k => luciferlaw05_FillPlans.f k a b c d l p) true := by
  have hl2 : l.length ≤ 9223372036854775807 := by omega
  have hw : wfB p = true := (wfB_iff p).2 hp
  have hplan := refIsPlan_f a b c d l p hp hl hpl
  have hfill : Ev (fun _ => luciferlaw05_filled.f.bind fun t => some t) true := Ev.now _
  have h3 : Ev (fun k => luciferlaw05_FillPlans.j1 k p false a b c d l) true := by
    cases hck : checkB a b c d (prs l) with
    | false =>
      have hask := refAsked_f a b c d l (planB l.length d p) ha hs hl2
      rw [hck, if_neg (by decide)] at hask
      have hO : fill_Over.f a b c d l p = some (0, 0, 50) := by unfold fill_Over.f; rw [if_pos hw, hck, if_neg (by decide)]
      have hR : Ev (fun k => luciferref05_Over.f k a b c d l p) (0, 0, 50) := by
        unfold luciferref05_Over.f
        refine Ev.bind hplan (Ev.bind hask ?_)
        exact Ev.now _
      refine Ev.step (f := fun k => (fill_Over.f a b c d l p).bind fun x => (luciferref05_Over.f k a b c d l p).bind fun y => if (x.1 == y.1 && (x.2.1 == y.2.1)) = true then (if x.2.2 = y.2.2 then (luciferlaw05_filled.f.bind fun t => some t) else some false) else some false) (fun k => by simp only [luciferlaw05_FillPlans.j1]; rw [if_neg (by decide)]) ?_
      rw [hO]
      simp only [Option.bind_some]
      refine Ev.bind hR ?_
      exact Ev.now _
    | true =>
      have hask := refAsked_f a b c d l (planB l.length d p) ha hs hl2
      rw [hck, if_pos rfl] at hask
      cases hpb : planB l.length d p with
      | false =>
        rw [hpb, if_neg (by decide)] at hask
        rw [hpb] at hplan
        have hO : fill_Over.f a b c d l p = some (0, 0, 51) := by unfold fill_Over.f; rw [if_pos hw, hck, if_pos rfl, hpb, if_neg (by decide)]
        have hR : Ev (fun k => luciferref05_Over.f k a b c d l p) (0, 0, 51) := by
          unfold luciferref05_Over.f
          refine Ev.bind hplan (Ev.bind hask ?_)
          exact Ev.now _
        refine Ev.step (f := fun k => (fill_Over.f a b c d l p).bind fun x => (luciferref05_Over.f k a b c d l p).bind fun y => if (x.1 == y.1 && (x.2.1 == y.2.1)) = true then (if x.2.2 = y.2.2 then (luciferlaw05_filled.f.bind fun t => some t) else some false) else some false) (fun k => by simp only [luciferlaw05_FillPlans.j1]; rw [if_neg (by decide)]) ?_
        rw [hO]
        simp only [Option.bind_some]
        refine Ev.bind hR ?_
        exact Ev.now _
      | true =>
        rw [hpb, if_pos rfl] at hask
        rw [hpb] at hplan
        have hP := (planB_iff _ _ _).1 hpb
        have hO : fill_Over.f a b c d l p = some ((overTo a b c (lowOf (prs l)) (highOf (prs l)) (boxesOf p) p.length).1, (overTo a b c (lowOf (prs l)) (highOf (prs l)) (boxesOf p) p.length).2, 0) := by unfold fill_Over.f; rw [if_pos hw, hck, if_pos rfl, hpb, if_pos rfl]
        have hR : Ev (fun k => luciferref05_Over.f k a b c d l p) ((overTo a b c (lowOf (prs l)) (highOf (prs l)) (boxesOf p) p.length).1, (overTo a b c (lowOf (prs l)) (highOf (prs l)) (boxesOf p) p.length).2, 0) := by
          unfold luciferref05_Over.f
          refine Ev.bind hplan (Ev.bind hask ?_)
          exact refOver_l0 hck hP p.length 0 (by omega)
        refine Ev.step (f := fun k => (fill_Over.f a b c d l p).bind fun x => (luciferref05_Over.f k a b c d l p).bind fun y => if (x.1 == y.1 && (x.2.1 == y.2.1)) = true then (if x.2.2 = y.2.2 then (luciferlaw05_filled.f.bind fun t => some t) else some false) else some false) (fun k => by simp only [luciferlaw05_FillPlans.j1]; rw [if_neg (by decide)]) ?_
        rw [hO]
        simp only [Option.bind_some]
        refine Ev.bind hR ?_
        simp only [BEq.rfl, Bool.and_self, if_true]
        exact Ev.now _
  have h2 : Ev (fun k => luciferlaw05_FillPlans.j0 k p false a b c d l) true := by
    have key : ∀ (xs : List Int) (e : Int), fill_ByHand.f a b c d l p = some (xs, e) → xs.length ≤ 9223372036854775807 → Ev (fun k => luciferref05_ByHand.f k a b c d l p) (xs, e) → Ev (fun k => luciferlaw05_FillPlans.j0 k p false a b c d l) true := by
      intro xs e hO hx hR
      refine Ev.step (f := fun k => (fill_ByHand.f a b c d l p).bind fun x => (luciferref05_ByHand.f k a b c d l p).bind fun y => (luciferref00_Alike.f k x.1 y.1).bind fun t => if t = true then luciferlaw05_FillPlans.j1 k p (x.2 != y.2) a b c d l else luciferlaw05_FillPlans.j1 k p true a b c d l) (fun k => by simp only [luciferlaw05_FillPlans.j0]; rw [if_neg (by decide)]) ?_
      rw [hO]
      simp only [Option.bind_some]
      refine Ev.bind hR (Ev.bind (alike_f xs hx) ?_)
      simp only [if_true, bne_self_eq_false]
      exact h3
    have hask := refAsked_f a b c d l (planB l.length d p) ha hs hl2
    cases hck : checkB a b c d (prs l) with
    | false =>
      rw [hck, if_neg (by decide)] at hask
      refine key [] 50 (by unfold fill_ByHand.f; rw [if_pos hw, hck, if_neg (by decide)]) (by simp) ?_
      unfold luciferref05_ByHand.f
      refine Ev.bind hplan (Ev.bind hask ?_)
      exact Ev.now _
    | true =>
      rw [hck, if_pos rfl] at hask
      cases hpb : planB l.length d p with
      | false =>
        rw [hpb, if_neg (by decide)] at hask
        rw [hpb] at hplan
        refine key [] 51 (by unfold fill_ByHand.f; rw [if_pos hw, hck, if_pos rfl, hpb, if_neg (by decide)]) (by simp) ?_
        unfold luciferref05_ByHand.f
        refine Ev.bind hplan (Ev.bind hask ?_)
        exact Ev.now _
      | true =>
        rw [hpb, if_pos rfl] at hask
        rw [hpb] at hplan
        have hP := (planB_iff _ _ _).1 hpb
        refine key (handL a b c (prs l) p) 0 (by unfold fill_ByHand.f; rw [if_pos hw, hck, if_pos rfl, hpb, if_pos rfl]) (by have := handsTo_len (rightB a b c (lowOf (prs l)) (highOf (prs l))) (boxesOf p) p.length; unfold handL; omega) ?_
        unfold luciferref05_ByHand.f
        refine Ev.bind hplan (Ev.bind hask ?_)
        simp only [if_true]
        refine Ev.bind (refByHand_f hck hP) ?_
        exact Ev.now _
  have key : ∀ (x : Bool) (e : Int), fill_IsPlan.f a b c d l p = some (x, e) → Ev (fun k => luciferref05_IsPlan.f k a b c d l p) (x, e) → Ev (fun k => luciferlaw05_FillPlans.f k a b c d l p) true := by
    intro x e hO hR
    unfold luciferlaw05_FillPlans.f
    rw [hO]
    simp only [Option.bind_some]
    refine Ev.bind hR ?_
    simp only [bne_self_eq_false, Bool.false_eq_true, if_false]
    exact h2
  have hc := refCheck_f a b c d l ha hs hl2
  cases hck : checkB a b c d (prs l) with
  | false =>
    rw [hck] at hc
    refine key false 50 (by unfold fill_IsPlan.f; rw [if_pos hw, hck, if_neg (by decide)]) ?_
    unfold luciferref05_IsPlan.f
    refine Ev.bind hc ?_
    exact Ev.now _
  | true =>
    rw [hck] at hc
    refine key (planB l.length d p) 0 (by unfold fill_IsPlan.f; rw [if_pos hw, hck, if_pos rfl]) ?_
    unfold luciferref05_IsPlan.f
    refine Ev.bind hc ?_
    simp only [errOf, if_true]
    exact Ev.bind hplan (Ev.now _)
end Go.Proofs.YtbbdbdamedaldaaDoor.PL
end
section
namespace Go.Proofs.YtbbdbdamedaldaaDoor.RowFillPlans
open Go Go.Proofs.YtbbdbdamedaldaaDoorW.PrintWords Go.ChangeShapes Go.WideShapes Go.ChangeAt Go.RowKit Go.Joins Go.Deep Rw
open Go.ChangeMaps (open_string shut_string)
set_option linter.unusedVariables false
set_option maxRecDepth 100000 in
theorem lifted (os : Os) (started : os.Started) (H : Type) (enc : TypeId × Value → H) :
    ReturnsInHanded {} Tryd.checked os 4 .any (fun w args => (Rows.fillPlansSpec.pre enc Tryd.prog Tryd.f4 [] false w args ∧ laidMetH Tryd.prog laid1 w) ∧ sizedMet enc Tryd.prog Tryd.f4 (OpenSpec.ofChange Rows.fillPlansSpec) false w args)
      (Rows.fillPlansSpec.post enc Tryd.prog Tryd.f4 false true false false) := by
  refine returnsInHanded_of_change_and (C := Tryd.checked) (X := fun w _ => laidMetH Tryd.prog laid1 w) (fun _ _ _ hh h => h.of_heap hh) own started (by kernel_rfl) Tryd.func4
    (ChangeSpec.witness_shaped (enc := enc) (C := Tryd.checked) (os := os) (X := fun w _ => laidMetH Tryd.prog laid1 w) false (World.doorLaid Tryd.prog 600 os) #[.agg #[.int .i64 0, .int .i64 0, .int .i64 0, .int .i64 0, .slice none 0 0], .slice none 0 0] 8 rfl (World.shaped_of_RefB (by kernel_rfl) (by kernel_rfl)) (by kernel_rfl) (by kernel_rfl) (by kernel_rfl) (door_met os _)) ?_
  intro W base args ds gs before hval0 hW _ hsz0 hL _
  have hsz : (DataW.weightsEach Tryd.prog (Tryd.f4.params.toList ++ Rows.fillPlansSpec.plain.varTypes Tryd.prog) (ds ++ gs)).all (· ≤ reachBytes) = true := hsz0
  have hval : ∀ (j : Nat) t v, Tryd.f4.params[j]? = some t → args[j]? = some v → Value.okWide Tryd.prog W .any base t v := hval0
  have hW' := hW
  obtain ⟨p, q, hA0, hV, rfl, hfz, hnd⟩ := hW
  have hA : DataW.TrodAll enc Tryd.prog W 0 (fun _ => true) true Tryd.f4.params.toList args.toList ds p := hA0
  rw [Tryd.params4] at hA hval hsz
  obtain ⟨v0, vs0, d0, ds0, p0, q0, hargs, rfl, rfl, h0, r0⟩ := trodAll_cons hA
  obtain ⟨v1, vs1, d1, ds1, p1, q1, rfl, rfl, rfl, h1, r1⟩ := trodAll_cons r0
  obtain ⟨rfl, rfl, rfl⟩ := trodAll_nil r1
  obtain rfl : args = #[v0, v1] := by cases args; simp_all
  obtain ⟨rfl, rfl⟩ := trodVars_none hV
  have k0 := h0
  have lt0 : ∀ x ∈ p0, x.block < W.heap.size := by obtain ⟨m, hm⟩ := k0; exact DataW.trod_lt m _ _ _ hm
  obtain ⟨a0, b0, c0, e0, A0, cap0, l0, rfl, hl0, hC0, ia0, ib0, ic0, ie0, il0⟩ := book_open (hval 0 24 v0 rfl rfl) h0
  have k1 := h1
  have lt1 : ∀ x ∈ p1, x.block < W.heap.size := by obtain ⟨m, hm⟩ := k1; exact DataW.trod_lt m _ _ _ hm
  obtain ⟨A1, cap1, l1, rfl, hl1, hC1, il1⟩ := ints_open (hval 1 38 v1 rfl rfl) h1
  have z0 : l0.length ≤ 9223372036854775807 := hC0.2.1
  have z1 : l1.length ≤ 9223372036854775807 := hC1.2.1
  obtain ⟨k, hk⟩ := (PL.pure_FillPlans a0 b0 c0 e0 l0 l1 ia0 ib0 ic0 ie0 il0 z0 il1 z1).rounds
  have hLd := laid_of hL
  clear hA0 hval0 hsz0 hsz hL
  refine (PL.luciferlaw05_FillPlans.calls k a0 b0 c0 e0 A0 cap0 l0 A1 cap1 l1 true W hLd hC0 hl0 hC1 hl1 hk).mono fun e W' ⟨he, bel⟩ => ?_
  subst he
  exact ⟨_, rfl, _, _, _, [], _, [], hW', trodAll_mk1 (shut_bool Tryd.underlying4 _), (trodAll_cons_mk (Below.trod laidOut (by kernel_rfl) (of_decide_eq_true (by kernel_rfl)) k0 bel lt0) (trodAll_cons_mk (Below.trod laidOut (by kernel_rfl) (of_decide_eq_true (by kernel_rfl)) k1 bel lt1) trodAll_mk0)), rfl, bel.frame _, fun h => by cases h⟩
theorem over : Rows.fillPlansRow.holds Tryd.pinned (OpenSpec.ofChange Rows.fillPlansSpec) :=
  OpenClaim.holds_of_wide 4 Tryd.f4 rfl rfl rfl rfl rfl rfl rfl ⟨rfl, rfl, rfl, rfl, rfl⟩ rfl rfl rfl rfl rfl (by kernel_rfl) Tryd.func4 (by kernel_rfl)
    (of_decide_eq_true (by kernel_rfl)) (by unfold Func.isWrapper; first | (rw [if_pos (by decide +kernel)]; kernel_rfl) | (rw [if_neg (by decide +kernel)]; exact ⟨rfl, rfl⟩))
    (fun os started H enc _ => lifted os started H enc)
theorem proved : Rows.FillPlansSaid := over
end Go.Proofs.YtbbdbdamedaldaaDoor.RowFillPlans
end
