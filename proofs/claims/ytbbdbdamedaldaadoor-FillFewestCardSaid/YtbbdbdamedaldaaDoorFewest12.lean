/- The card of FillFewest: the row, its listed variable tied to the program's text. Whatever the input, the law returns true, and each argument reads afterwards as it did. (part 13) -/
import Derived.Test.YtbbdbdamedaldaaDoorFewest11
set_option linter.unusedVariables false
set_option linter.unusedSimpArgs false
section
namespace Go.Proofs.YtbbdbdamedaldaaDoor.Fl
open Go
def earB : List Int → List Int → Bool
  | [], [] => false
  | [], _ :: _ => true
  | _ :: _, [] => false
  | a :: l, b :: k => if a = b then earB l k else decide (a < b)
theorem earB_self : ∀ l : List Int, earB l l = false
  | [] => rfl
  | a :: l => by unfold earB; rw [if_pos rfl]; exact earB_self l
theorem earB_asymm : ∀ l k : List Int, earB l k = true → earB k l = false
  | [], [], h => by simp [earB] at h
  | [], _ :: _, _ => rfl
  | _ :: _, [], h => by simp [earB] at h
  | a :: l, b :: k, h => by
    unfold earB at h ⊢
    by_cases e : a = b
    · rw [if_pos e] at h
      rw [if_pos e.symm]
      exact earB_asymm l k h
    · rw [if_neg e] at h
      rw [if_neg (fun e2 => e e2.symm)]
      simp at h ⊢
      omega
theorem earB_append (p l k : List Int) : earB (p ++ l) (p ++ k) = earB l k := by
  induction p with
  | nil => rfl
  | cons a p ih =>
    rw [List.cons_append, List.cons_append]
    show (if a = a then earB (p ++ l) (p ++ k) else decide (a < a)) = _
    rw [if_pos rfl]
    exact ih
theorem plansF_sorted (n : Nat) (gr : Int) (hg : 0 ≤ gr) : ∀ (d a : Nat) (plan : List Int), n ≤ a + d → a ≤ n → (plansF n gr.toNat d a plan).Pairwise fun p q => earB p q = true
  | 0, a, plan, hd, ha => by
    have e : a = n := by omega
    subst e
    rw [plansF_leaf]
    simp
  | d + 1, a, plan, hd, ha => by
    by_cases e : a = n
    · subst e
      rw [plansF_leaf]
      simp
    · rw [plansF_step _ _ _ _ _ e]
      unfold flatP
      rw [List.pairwise_flatMap]
      constructor
      · intro k _
        split
        · rename_i hle
          exact plansF_sorted n gr hg d (a + k + 1) _ (by omega) hle
        · simp
      · refine List.pairwise_lt_range.imp ?_
        intro x y hxy p hp r hr
        split at hp
        · split at hr
          · rename_i h1 h2
            obtain ⟨s, rfl, _⟩ := (mem_plansF n gr hg d (a + x + 1) _ (by omega) h1 p).1 hp
            obtain ⟨s', rfl, _⟩ := (mem_plansF n gr hg d (a + y + 1) _ (by omega) h2 r).1 hr
            rw [List.append_assoc, List.append_assoc, earB_append]
            show (if ((a + x + 1 : Nat) : Int) = ((a + y + 1 : Nat) : Int) then _ else decide (((a + x + 1 : Nat) : Int) < ((a + y + 1 : Nat) : Int))) = true
            rw [if_neg (by omega)]
            simp
            omega
          · simp at hr
        · simp at hp
theorem best_first {pr le mo gr : Int} {q : List (Int × Int)} (hck : checkB pr le mo gr q = true) (c : List Int) (hc : planP q.length gr c) (h1 : handB pr le mo q c = handB pr le mo q (bestPlan pr le mo gr q)) (h2 : c.length = (bestPlan pr le mo gr q).length) : earB c (bestPlan pr le mo gr q) = false := by
  have hg : 0 ≤ gr := by have := (bookF hck).g1; omega
  obtain ⟨_, l1, l2, he, hl1⟩ := best_is hck
  have hs : (plansL q.length gr.toNat).Pairwise fun p q => earB p q = true := plansF_sorted q.length gr hg q.length 0 [] (by omega) (by omega)
  have hm := (mem_plansL _ _ hg c).2 hc
  rw [he] at hm hs
  rcases List.mem_append.1 hm with hm | hm
  · have := hl1 c hm
    omega
  · rcases List.mem_cons.1 hm with rfl | hm
    · exact earB_self _
    · exact earB_asymm _ _ ((List.pairwise_cons.1 (List.pairwise_append.1 hs).2.1).1 c hm)
end Go.Proofs.YtbbdbdamedaldaaDoor.Fl
end
section
namespace Go.Proofs.YtbbdbdamedaldaaDoor.PL
open Go Go.RowKit Go.Proofs.YtbbdbdamedaldaaDoorW.PrintWords Fl
theorem spin_f (x m : Int) (h1 : 1 ≤ m) (h2 : m ≤ 9223372036854775807) : luciferref00_Spin.f x m = some (x % m) := by
  unfold luciferref00_Spin.f
  rw [if_neg (by omega), if_neg (by omega)]
  have hm0 : 0 ≤ x % m := Int.emod_nonneg _ (by omega)
  have hm1 : x % m < m := Int.emod_lt_of_pos _ (by omega)
  by_cases h : 0 ≤ x ∨ m ∣ x
  · have e : x.tmod m = x % m := by rw [Int.tmod_eq_emod, if_pos h]; simp
    rw [e, if_neg (by omega)]
  · have e : x.tmod m = x % m - m := by
      rw [Int.tmod_eq_emod, if_neg h]
      omega
    rw [e, if_pos (by omega), w64 ⟨by omega, by omega⟩]
    congr 1
    omega
theorem item_f (l : List Int) (i : Int) (hl : l.length ≤ 9223372036854775807) (hw : wfL l) : ∃ t, luciferref00_Item.f l i = some t ∧ inI t := by
  unfold luciferref00_Item.f
  by_cases h : (l.length : Int) = 0
  · rw [if_pos h]
    exact ⟨0, rfl, by omega, by omega⟩
  · rw [if_neg h, spin_f _ _ (by omega) (by omega), Option.bind_some]
    have hm0 : 0 ≤ i % (l.length : Int) := Int.emod_nonneg _ h
    have hm1 : i % (l.length : Int) < l.length := Int.emod_lt_of_pos _ (by omega)
    rw [if_pos hm0, if_pos hm1]
    refine ⟨_, rfl, ?_⟩
    have hlt : (i % (l.length : Int)).toNat < l.length := by omega
    have e : rd l (i % (l.length : Int)) = l[(i % (l.length : Int)).toNat] := by simp [rd, List.getD_eq_getElem?_getD, List.getElem?_eq_getElem hlt]
    rw [e]
    exact hw _ (List.getElem_mem _)
set_option maxHeartbeats 4000000 in
theorem drawn_l0 (a b c d : Int) (l : List S27) (st : List Int) (hst : st.length ≤ 9223372036854775807) (hw : wfL st) (h8 : l.length ≤ 8) (g1 : 1 ≤ d) (g4 : d ≤ 4) (m : Nat) : ∀ (out : List Int) (at_ i : Nat), out.length + m ≤ 1000 → i + m ≤ 1000 → l.length ≤ at_ + m → at_ ≤ l.length →
    ∃ s, okF l.length d at_ s ∧ Ev (fun k => luciferlaw05_drawn.l0 k st out at_ i a b c d l) (out ++ s) := by
  induction m with
  | zero =>
    intro out at_ i ho hi hm ha
    have e : at_ = l.length := by omega
    refine ⟨[], by simp [okF, e], Ev.step (f := fun _ => some out) (fun k => ?_) (by rw [List.append_nil]; exact Ev.now _)⟩
    simp only [luciferlaw05_drawn.l0]
    rw [if_neg (by omega)]
  | succ m ih =>
    intro out at_ i ho hi hm ha
    have ho2 : out.length + 1 + m ≤ 1000 := by omega
    have hi2 : i + 1 + m ≤ 1000 := by omega
    by_cases hlt : at_ < l.length
    · obtain ⟨t, ht, _⟩ := item_f st (i : Int) hst hw
      have hmn := Lib.hid (show mn d (wrap64 ((l.length : Int) - at_)) = min d ((l.length : Int) - at_) by
        rw [w64 ⟨by omega, by omega⟩]
        unfold mn
        split <;> omega)
      have hm1 : 1 ≤ min d ((l.length : Int) - at_) := by omega
      have hr0 : 0 ≤ t % min d ((l.length : Int) - at_) := Int.emod_nonneg _ (by omega)
      have hr1 : t % min d ((l.length : Int) - at_) < min d ((l.length : Int) - at_) := Int.emod_lt_of_pos _ (by omega)
      obtain ⟨r, hr⟩ : ∃ r : Nat, t % min d ((l.length : Int) - at_) = r := ⟨(t % min d ((l.length : Int) - at_)).toNat, by omega⟩
      have hsp := Lib.hid (show luciferref00_Spin.f t (min d ((l.length : Int) - at_)) = some (r : Int) by rw [spin_f _ _ hm1 (by omega), hr])
      have hrd : (r : Int) < d ∧ (r : Int) < (l.length : Int) - at_ := by rw [hr] at hr1; omega
      clear hr0 hr1 hr
      have hb1 : out.length < 17592186044416 := by omega
      have hb2 : ((at_ : Int) < ((at_ + 1 + r : Nat) : Int)) ∧ (((at_ + 1 + r : Nat) : Int) ≤ (l.length : Int)) ∧ (((at_ + 1 + r : Nat) : Int) - (at_ : Int) ≤ d) := by omega
      have hb4 : l.length ≤ at_ + 1 + r + m ∧ at_ + 1 + r ≤ l.length := by omega
      have hb3 : ((at_ : Int) < (l.length : Int)) := by omega
      have hw1 := Lib.hid (show wrap64 ((at_ : Int) + wrap64 (1 + (r : Int))) = ((at_ + 1 + r : Nat) : Int) by
        rw [w64 (x := 1 + (r : Int)) ⟨by omega, by omega⟩, w64 ⟨by omega, by omega⟩]
        omega)
      have hw2 := Lib.hid (show wrap64 ((i : Int) + 1) = ((i + 1 : Nat) : Int) by rw [w64 ⟨by omega, by omega⟩]; omega)
      have ho3 : (out ++ [((at_ + 1 + r : Nat) : Int)]).length + m ≤ 1000 := by
        rw [List.length_append, List.length_singleton]
        omega
      obtain ⟨s, hs, hE⟩ := ih (out ++ [((at_ + 1 + r : Nat) : Int)]) (at_ + 1 + r) (i + 1) ho3 hi2 hb4.1 hb4.2
      refine ⟨((at_ + 1 + r : Nat) : Int) :: s, ⟨hb2.1, hb2.2.1, hb2.2.2, hs⟩, ?_⟩
      refine Ev.step (f := fun k => luciferlaw05_drawn.l0 k st (out ++ [((at_ + 1 + r : Nat) : Int)]) (at_ + 1 + r : Nat) (i + 1 : Nat) a b c d l) (fun k => ?_) (by rw [List.append_assoc] at hE; exact hE)
      simp only [luciferlaw05_drawn.l0]
      rw [if_pos hb3, ht, Option.bind_some, hmn.out, hsp.out, Option.bind_some, if_pos hb1, hw1.out, hw2.out]
    · have e : at_ = l.length := by omega
      refine ⟨[], by simp [okF, e], Ev.step (f := fun _ => some out) (fun k => ?_) (by rw [List.append_nil]; exact Ev.now _)⟩
      simp only [luciferlaw05_drawn.l0]
      rw [if_neg (by omega)]
theorem drawn_f {a b c d : Int} {l : List S27} (h : checkB a b c d (prs l) = true) (st : List Int) (hst : st.length ≤ 9223372036854775807) (hw : wfL st) : ∃ p, planP l.length d p ∧ Ev (fun k => luciferlaw05_drawn.f k a b c d l st) p := by
  have hF := bookF h
  obtain ⟨h8, _⟩ := inB h
  obtain ⟨s, hs, hE⟩ := drawn_l0 a b c d l st hst hw h8 hF.g1 hF.g4 8 [] 0 0 (by simp) (by omega) (by omega) (by omega)
  refine ⟨s, (planP_iff _ _ _).2 hs, ?_⟩
  unfold luciferlaw05_drawn.f
  simpa using hE
theorem plan_wf {n : Nat} {gr : Int} {p : List Int} (h : planP n gr p) (hn : n ≤ 8) : wfB p = true := by
  rw [wfB_iff]
  intro x hx
  have := okF_mem ((planP_iff _ _ _).1 h) x hx
  omega
theorem earlier_l0 (x y : List Int) (hx : x.length ≤ 9223372036854775807) : ∀ (m i : Nat), i + m = x.length → i ≤ y.length → Ev (fun k => luciferref00_Earlier.l0 k x y i) (earB (x.drop i) (y.drop i))
  | 0, i, hm, hi => by
    have e : x.drop i = [] := List.drop_eq_nil_of_le (by omega)
    rw [e]
    refine Ev.step (f := fun k => luciferref00_Earlier.j1 k x y i false) (fun k => by simp only [luciferref00_Earlier.l0]; rw [if_neg (by omega)]) ?_
    refine Ev.step (f := fun _ => some (decide ((x.length : Int) < (y.length : Int)))) (fun k => by simp only [luciferref00_Earlier.j1]; rw [if_neg (by decide)]) ?_
    have : decide ((x.length : Int) < (y.length : Int)) = earB [] (y.drop i) := by
      by_cases hy : i = y.length
      · have e2 : y.drop i = [] := List.drop_eq_nil_of_le (by omega)
        rw [e2]
        simp [earB]
        omega
      · rw [List.drop_eq_getElem_cons (by omega)]
        simp [earB]
        omega
    rw [this]
    exact Ev.now _
  | m + 1, i, hm, hi => by
    have hix : i < x.length := by omega
    have hw : wrap64 ((i : Int) + 1) = ((i + 1 : Nat) : Int) := by rw [w64 ⟨by omega, by omega⟩]; omega
    rw [List.drop_eq_getElem_cons hix]
    by_cases hy : i < y.length
    · rw [List.drop_eq_getElem_cons hy]
      refine Ev.step (f := fun k => luciferref00_Earlier.j1 k x y i true) (fun k => by simp only [luciferref00_Earlier.l0]; rw [if_pos (by omega), decide_eq_true (by omega)]) ?_
      by_cases he : x[i] = y[i]
      · have e2 : earB (x[i] :: x.drop (i + 1)) (y[i] :: y.drop (i + 1)) = earB (x.drop (i + 1)) (y.drop (i + 1)) := by
          show (if x[i] = y[i] then _ else _) = _
          rw [if_pos he]
        rw [e2]
        refine Ev.step (f := fun k => luciferref00_Earlier.l0 k x y (i + 1 : Nat)) (fun k => ?_) (earlier_l0 x y hx m (i + 1) (by omega) (by omega))
        simp only [luciferref00_Earlier.j1]
        rw [if_pos trivial, if_pos (by omega), if_pos (by omega), if_pos (by omega), rd_get x i hix, rd_get y i hy, if_pos he, hw]
      · have e2 : earB (x[i] :: x.drop (i + 1)) (y[i] :: y.drop (i + 1)) = decide (x[i] < y[i]) := by
          show (if x[i] = y[i] then _ else _) = _
          rw [if_neg he]
        rw [e2]
        refine Ev.step (f := fun _ => some (decide (x[i] < y[i]))) (fun k => ?_) (Ev.now _)
        simp only [luciferref00_Earlier.j1]
        rw [if_pos trivial, if_pos (by omega), if_pos (by omega), if_pos (by omega), rd_get x i hix, rd_get y i hy, if_neg he]
    · have e2 : y.drop i = [] := List.drop_eq_nil_of_le (by omega)
      rw [e2]
      refine Ev.step (f := fun k => luciferref00_Earlier.j1 k x y i false) (fun k => by simp only [luciferref00_Earlier.l0]; rw [if_pos (by omega), decide_eq_false (by omega)]) ?_
      refine Ev.step (f := fun _ => some (decide ((x.length : Int) < (y.length : Int)))) (fun k => by simp only [luciferref00_Earlier.j1]; rw [if_neg (by decide)]) ?_
      have : decide ((x.length : Int) < (y.length : Int)) = false := by simp; omega
      rw [this]
      exact Ev.now _
theorem earlier_f (x y : List Int) (hx : x.length ≤ 9223372036854775807) : Ev (fun k => luciferref00_Earlier.f k x y) (earB x y) := earlier_l0 x y hx x.length 0 (by omega) (by omega)
theorem fillCheck_f (a b c d : Int) (l : List S27) (hl : l.length ≤ 9223372036854775807) : Ev (fun k => fill_Check.f k a b c d l) (errOf (checkB a b c d (prs l))) := by
  have hm : (prs l).map mkS = l := by
    unfold prs
    rw [List.map_map]
    have : (mkS ∘ fun x : S27 => (x.f0, x.f1)) = id := rfl
    rw [this, List.map_id]
  have := check_f a b c d (prs l) (by rw [prs_length]; exact hl)
  rw [hm] at this
  exact Ev.of (g := fun k => fill_Check.f k a b c d l) (fun k => fill_Check.mono a b c d l k) this
end Go.Proofs.YtbbdbdamedaldaaDoor.PL
end
section
namespace Go.Proofs.YtbbdbdamedaldaaDoor.PL
open Go Go.RowKit Go.Proofs.YtbbdbdamedaldaaDoorW.PrintWords Fl
theorem sound_l0 (a b c d : Int) (l : List S27) (h8 : l.length ≤ 8) (hok : ∀ s ∈ l, okS (s.f0, s.f1) = true) : ∀ (m i : Nat), i + m = l.length → Ev (fun k => luciferlaw05_sound.l0 k true i a b c d l) true
  | 0, i, h => by
    refine Ev.step (f := fun _ => some true) (fun k => ?_) (Ev.now _)
    simp only [luciferlaw05_sound.l0]
    rw [if_pos trivial, if_neg (by omega)]
  | m + 1, i, h => by
    have hi : i < l.length := by omega
    have hw : wrap64 ((i : Int) + 1) = ((i + 1 : Nat) : Int) := by rw [w64 ⟨by omega, by omega⟩]; omega
    have ho := hok l[i] (List.getElem_mem _)
    simp only [okS, Bool.and_eq_true, decide_eq_true_eq] at ho
    obtain ⟨⟨⟨h1, h2⟩, h3⟩, h4⟩ := ho
    refine Ev.step (f := fun k => luciferlaw05_sound.l0 k true (i + 1 : Nat) a b c d l) (fun k => ?_) (sound_l0 a b c d l h8 hok m (i + 1) (by omega))
    simp only [luciferlaw05_sound.l0]
    rw [if_pos trivial, if_pos (by omega), if_pos (by omega), rd27 l i hi, right_f, Option.bind_some, decide_eq_true h1, decide_eq_true h2, decide_eq_true h3, if_pos (by rfl), w64 ⟨by omega, by omega⟩, decide_eq_true h4, hw]
theorem sound_f (a b c d : Int) (l : List S27) (hl : l.length ≤ 9223372036854775807) : Ev (fun k => luciferlaw05_sound.f k a b c d l) (checkB a b c d (prs l)) := by
  unfold luciferlaw05_sound.f
  refine Ev.bind (fillCheck_f a b c d l hl) ?_
  cases hck : checkB a b c d (prs l) with
  | false =>
    have hz : ∀ p q : Option Bool, (if errOf false = 0 then p else q) = q := fun p q => if_neg (by decide)
    simp only [hz]
    refine Ev.step (f := fun k => luciferlaw05_sound.l0 k false 0 a b c d l) (fun k => by simp only [luciferlaw05_sound.j0]) ?_
    refine Ev.step (f := fun _ => some false) (fun k => ?_) (Ev.now _)
    simp only [luciferlaw05_sound.l0]
    rw [if_neg (by decide)]
  | true =>
    have hF := bookF hck
    have h8 := hF.n8
    rw [prs_length] at h8
    have hok : ∀ s ∈ l, okS (s.f0, s.f1) = true := fun s hs => by
      have hc := hck
      unfold checkB at hc
      simp only [Bool.and_eq_true, List.all_eq_true] at hc
      exact hc.2 (s.f0, s.f1) (List.mem_map.2 ⟨s, hs, rfl⟩)
    have hz : ∀ p q : Option Bool, (if errOf true = 0 then p else q) = p := fun p q => if_pos (by decide)
    have e1 : luciferref00_Fits.f a 1 500 = some true := by rw [fits_f, decide_eq_true hF.b1, decide_eq_true hF.b2]; rfl
    have e2 : luciferref00_Fits.f b 0 50 = some true := by rw [fits_f, decide_eq_true hF.b3, decide_eq_true hF.b4]; rfl
    have e3 : luciferref00_Fits.f c 0 50 = some true := by rw [fits_f, decide_eq_true hF.b5, decide_eq_true hF.b6]; rfl
    have e4 : luciferref00_Fits.f d 1 4 = some true := by rw [fits_f, decide_eq_true hF.g1, decide_eq_true hF.g4]; rfl
    have e5 : decide ((l.length : Int) ≤ 8) = true := decide_eq_true (by omega)
    simp only [hz, e1, e2, e3, e4, e5, Option.bind_some, if_true]
    refine Ev.step (f := fun k => luciferlaw05_sound.l0 k true (0 : Nat) a b c d l) (fun k => by simp only [luciferlaw05_sound.j0]; rfl) ?_
    exact sound_l0 a b c d l h8 hok l.length 0 (by omega)
theorem pure_FillFewest (a b c d : Int) (l : List S27) (st : List Int) (_ : inI a) (_ : inI b) (_ : inI c) (_ : inI d) (_ : inS l) (hl : l.length ≤ 9223372036854775807) (hp : wfL st) (hpl : st.length ≤ 9223372036854775807) : Ev (fun k => luciferlaw05_FillFewest.f k a b c d l st) true := by
  have hfill : luciferlaw05_filled.f = some true := rfl
  unfold luciferlaw05_FillFewest.f
  refine Ev.bind (sound_f a b c d l hl) ?_
  cases hck : checkB a b c d (prs l) with
  | false =>
    simp only [Bool.false_eq_true, if_false, hfill, Option.bind_some]
    exact Ev.now _
  | true =>
    have hF := bookF hck
    have h8 := hF.n8
    rw [prs_length] at h8
    obtain ⟨hB, _⟩ := best_is hck
    obtain ⟨⟨pm, hpm, hmost⟩, hmostle⟩ := most_is hck
    obtain ⟨p, hP, hdr⟩ := drawn_f hck st hpl hp
    have hP' : planP (prs l).length d p := by rw [prs_length]; exact hP
    have hfirst := best_first hck p hP'
    have hBp := hB.plan
    rw [prs_length] at hBp
    have wfb : wfB (bestPlan a b c d (prs l)) = true := plan_wf hBp h8
    have wfp : wfB p = true := plan_wf hP h8
    have x1 : fill_Best.f a b c d l = some (bestPlan a b c d (prs l), 0) := by unfold fill_Best.f; rw [hck]; rfl
    have x2 : fill_Boxes.f a b c d l = some (mostBoxes a b c d (prs l), 0) := by unfold fill_Boxes.f; rw [hck]; rfl
    have x3 : ∀ q, planP l.length d q → wfB q = true → fill_ByHand.f a b c d l q = some (handL a b c (prs l) q, 0) := fun q hq hw => by
      unfold fill_ByHand.f
      rw [if_pos hw, hck, if_pos rfl, (planB_iff _ _ _).2 hq, if_pos rfl]
    have x4 : ∀ q, planP l.length d q → wfB q = true → luciferlaw05_plan.f a b c d l q = some true := fun q hq hw => by
      unfold luciferlaw05_plan.f
      rw [if_pos ⟨hw, hck⟩, (planB_iff _ _ _).2 hq]
    have l1 := hB.least p hP'
    have l2 := hB.long p hP'
    have l3 := hmostle p hP'
    have l4 := hmostle _ hB.plan
    have b1 := handB_bd a b c (prs l) p
    have b2 := handB_bd a b c (prs l) (bestPlan a b c d (prs l))
    have b3 := handB_bd a b c (prs l) pm
    have n1 := planP_length hP
    have n2 := planP_length hBp
    have n3 := planP_length hpm
    rw [prs_length] at n3
    simp only [if_true, x1, x2, Option.bind_some, x3 _ hBp wfb]
    refine Ev.bind hdr ?_
    simp only [x3 p hP wfp, x4 p hP wfp, x4 _ hBp wfb, Option.bind_some, if_true, handL_length]
    have e1 : ¬ handB a b c (prs l) p < handB a b c (prs l) (bestPlan a b c d (prs l)) := by omega
    have e2 := Lib.hid (show ¬ wrap64 ((p.length : Int) - handB a b c (prs l) p) > mostBoxes a b c d (prs l) by rw [w64 ⟨by omega, by omega⟩]; omega)
    have e3 := Lib.hid (show ¬ wrap64 (((bestPlan a b c d (prs l)).length : Int) - handB a b c (prs l) (bestPlan a b c d (prs l))) > mostBoxes a b c d (prs l) by rw [w64 ⟨by omega, by omega⟩]; omega)
    have e4 : decide (mostBoxes a b c d (prs l) > (l.length : Int)) = false := decide_eq_false (by omega)
    simp only [if_neg e1, if_neg e2.out, if_neg e3.out, e4]
    by_cases hgt : ((handL a b c (prs l) p).length : Int) > ((handL a b c (prs l) (bestPlan a b c d (prs l))).length : Int)
    · refine Ev.step (f := fun _ => some true) (fun k => ?_) (Ev.now _)
      simp only [luciferlaw05_FillFewest.j0]
      rw [if_neg (by decide), if_pos hgt, hfill]
      rfl
    · have heq : handB a b c (prs l) p = handB a b c (prs l) (bestPlan a b c d (prs l)) := by rw [handL_length, handL_length] at hgt; omega
      have hle := l2 heq
      by_cases hlt : (p.length : Int) < ((bestPlan a b c d (prs l)).length : Int)
      · refine Ev.step (f := fun _ => some true) (fun k => ?_) (Ev.now _)
        simp only [luciferlaw05_FillFewest.j0]
        rw [if_neg (by decide), if_neg hgt, if_pos hlt, hfill]
        rfl
      · have hlen : p.length = (bestPlan a b c d (prs l)).length := by omega
        have hE := earlier_f p (bestPlan a b c d (prs l)) (by omega)
        rw [hfirst heq hlen] at hE
        refine Ev.step (f := fun k => (luciferref00_Earlier.f k p (bestPlan a b c d (prs l))).bind fun t => if t = true then some false else luciferlaw05_filled.f.bind fun t => some t) (fun k => ?_) (Ev.bind hE ?_)
        · simp only [luciferlaw05_FillFewest.j0]
          rw [if_neg (by decide), if_neg hgt, if_neg hlt, if_pos (by rw [hlen])]
        · simp only [Bool.false_eq_true, if_false, hfill, Option.bind_some]
          exact Ev.now _
end Go.Proofs.YtbbdbdamedaldaaDoor.PL
end
section
namespace Go.Proofs.YtbbdbdamedaldaaDoor.RowFillFewest
open Go Go.Proofs.YtbbdbdamedaldaaDoorW.PrintWords Go.ChangeShapes Go.WideShapes Go.ChangeAt Go.RowKit Go.Joins Go.Deep Rw
open Go.ChangeMaps (open_string shut_string)
set_option linter.unusedVariables false
set_option maxRecDepth 100000 in
theorem lifted (os : Os) (started : os.Started) (H : Type) (enc : TypeId × Value → H) :
    ReturnsInHanded {} Tryd.checked os 7 .any (fun w args => (Rows.fillFewestSpec.pre enc Tryd.prog Tryd.f7 [] false w args ∧ laidMetH Tryd.prog laid1 w) ∧ sizedMet enc Tryd.prog Tryd.f7 (OpenSpec.ofChange Rows.fillFewestSpec) false w args)
      (Rows.fillFewestSpec.post enc Tryd.prog Tryd.f7 false true false false) := by
  refine returnsInHanded_of_change_and (C := Tryd.checked) (X := fun w _ => laidMetH Tryd.prog laid1 w) (fun _ _ _ hh h => h.of_heap hh) own started (by kernel_rfl) Tryd.func7
    (ChangeSpec.witness_shaped (enc := enc) (C := Tryd.checked) (os := os) (X := fun w _ => laidMetH Tryd.prog laid1 w) false (World.doorLaid Tryd.prog 600 os) #[.agg #[.int .i64 0, .int .i64 0, .int .i64 0, .int .i64 0, .slice none 0 0], .slice none 0 0] 8 rfl (World.shaped_of_RefB (by kernel_rfl) (by kernel_rfl)) (by kernel_rfl) (by kernel_rfl) (by kernel_rfl) (door_met os _)) ?_
  intro W base args ds gs before hval0 hW _ hsz0 hL _
  have hsz : (DataW.weightsEach Tryd.prog (Tryd.f7.params.toList ++ Rows.fillFewestSpec.plain.varTypes Tryd.prog) (ds ++ gs)).all (· ≤ reachBytes) = true := hsz0
  have hval : ∀ (j : Nat) t v, Tryd.f7.params[j]? = some t → args[j]? = some v → Value.okWide Tryd.prog W .any base t v := hval0
  have hW' := hW
  obtain ⟨p, q, hA0, hV, rfl, hfz, hnd⟩ := hW
  have hA : DataW.TrodAll enc Tryd.prog W 0 (fun _ => true) true Tryd.f7.params.toList args.toList ds p := hA0
  rw [Tryd.params7] at hA hval hsz
  obtain ⟨v0, vs0, d0, ds0, p0, q0, hargs, rfl, rfl, h0, r0⟩ := trodAll_cons hA
  obtain ⟨v1, vs1, d1, ds1, p1, q1, rfl, rfl, rfl, h1, r1⟩ := trodAll_cons r0
  obtain ⟨rfl, rfl, rfl⟩ := trodAll_nil r1
  obtain rfl : args = #[v0, v1] := by cases args; simp_all
  obtain ⟨rfl, rfl⟩ := trodVars_none hV
  have k0 := h0
  have lt0 : ∀ x ∈ p0, x.block < W.heap.size := by obtain ⟨m, hm⟩ := k0; exact DataW.trod_lt m _ _ _ hm
  obtain ⟨a0, b0, c0, e0, A0, cap0, l0, rfl, hl0, hC0, ia0, ib0, ic0, ie0, il0⟩ := book_open (hval 0 24 v0 rfl rfl) h0
  have k1 := h1
  have lt1 : ∀ x ∈ p1, x.block < W.heap.size := by obtain ⟨m, hm⟩ := k1; exact DataW.trod_lt m _ _ _ hm
  obtain ⟨A1, cap1, l1, rfl, hl1, hC1, il1⟩ := ints_open (hval 1 38 v1 rfl rfl) h1
  have z0 : l0.length ≤ 9223372036854775807 := hC0.2.1
  have z1 : l1.length ≤ 9223372036854775807 := hC1.2.1
  obtain ⟨k, hk⟩ := (PL.pure_FillFewest a0 b0 c0 e0 l0 l1 ia0 ib0 ic0 ie0 il0 z0 il1 z1).rounds
  have hLd := laid_of hL
  clear hA0 hval0 hsz0 hsz hL
  refine (PL.luciferlaw05_FillFewest.calls k a0 b0 c0 e0 A0 cap0 l0 A1 cap1 l1 true W hLd hC0 hl0 hC1 hl1 hk).mono fun e W' ⟨he, bel⟩ => ?_
  subst he
  exact ⟨_, rfl, _, _, _, [], _, [], hW', trodAll_mk1 (shut_bool Tryd.underlying4 _), (trodAll_cons_mk (Below.trod laidOut (by kernel_rfl) (of_decide_eq_true (by kernel_rfl)) k0 bel lt0) (trodAll_cons_mk (Below.trod laidOut (by kernel_rfl) (of_decide_eq_true (by kernel_rfl)) k1 bel lt1) trodAll_mk0)), rfl, bel.frame _, fun h => by cases h⟩
theorem over : Rows.fillFewestRow.holds Tryd.pinned (OpenSpec.ofChange Rows.fillFewestSpec) :=
  OpenClaim.holds_of_wide 7 Tryd.f7 rfl rfl rfl rfl rfl rfl rfl ⟨rfl, rfl, rfl, rfl, rfl⟩ rfl rfl rfl rfl rfl (by kernel_rfl) Tryd.func7 (by kernel_rfl)
    (of_decide_eq_true (by kernel_rfl)) (by unfold Func.isWrapper; first | (rw [if_pos (by decide +kernel)]; kernel_rfl) | (rw [if_neg (by decide +kernel)]; exact ⟨rfl, rfl⟩))
    (fun os started H enc _ => lifted os started H enc)
theorem proved : Rows.FillFewestSaid := over
end Go.Proofs.YtbbdbdamedaldaaDoor.RowFillFewest
end
