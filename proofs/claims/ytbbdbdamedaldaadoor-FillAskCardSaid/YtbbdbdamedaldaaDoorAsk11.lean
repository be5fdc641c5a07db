/- The card of FillAsk: the row, its listed variable tied to the program's text. Whatever the input, the law returns true, and each argument reads afterwards as it did. (part 12) -/
import Derived.Test.YtbbdbdamedaldaaDoorAsk10
set_option linter.unusedVariables false
set_option linter.unusedSimpArgs false
section
namespace Go.Proofs.YtbbdbdamedaldaaDoor.PL
open Go Go.RowKit Go.Proofs.YtbbdbdamedaldaaDoorW.PrintWords Fl
theorem sound_l0 (a b c d : Int) (l : List S27) (h8 : l.length ≤ 8) (hok : ∀ s ∈ l, okS (s.f0, s.f1) = true) : ∀ (m i : Nat), i + m = l.length → Ev (fun k => luciferlaw05_sound.l0 k true i a b c d l) true
  | 0, i, h => by
    refine Ev.step (f := fun _ => some true) (fun k => ?_) (Ev.now _)
    simp only [luciferlaw05_sound.l0]
    rw [if_pos trivial, if_neg (by omega)]
  | m + 1, i, h => by
    have hi : i < l.length := by omega
    have hw : wrap64 ((i : Int) + 1) = ((i + 1 : Nat) : Int) := by rw [w64 ⟨by omega, by omega⟩]; omega
    have ho := hok l[i] (List.getElem_mem _)
    simp only [okS, Bool.and_eq_true, decide_eq_true_eq] at ho
    obtain ⟨⟨⟨h1, h2⟩, h3⟩, h4⟩ := ho
    refine Ev.step (f := fun k => luciferlaw05_sound.l0 k true (i + 1 : Nat) a b c d l) (fun k => ?_) (sound_l0 a b c d l h8 hok m (i + 1) (by omega))
    simp only [luciferlaw05_sound.l0]
    rw [if_pos trivial, if_pos (by omega), if_pos (by omega), rd27 l i hi, right_f, Option.bind_some, decide_eq_true h1, decide_eq_true h2, decide_eq_true h3, if_pos (by rfl), w64 ⟨by omega, by omega⟩, decide_eq_true h4, hw]
theorem sound_f (a b c d : Int) (l : List S27) (hl : l.length ≤ 9223372036854775807) : Ev (fun k => luciferlaw05_sound.f k a b c d l) (checkB a b c d (prs l)) := by
  unfold luciferlaw05_sound.f
  refine Ev.bind (fillCheck_f a b c d l hl) ?_
  cases hck : checkB a b c d (prs l) with
  | false =>
    have hz : ∀ p q : Option Bool, (if errOf false = 0 then p else q) = q := fun p q => if_neg (by decide)
    simp only [hz]
    refine Ev.step (f := fun k => luciferlaw05_sound.l0 k false 0 a b c d l) (fun k => by simp only [luciferlaw05_sound.j0]) ?_
    refine Ev.step (f := fun _ => some false) (fun k => ?_) (Ev.now _)
    simp only [luciferlaw05_sound.l0]
    rw [if_neg (by decide)]
  | true =>
    have hF := bookF hck
    have h8 := hF.n8
    rw [prs_length] at h8
    have hok : ∀ s ∈ l, okS (s.f0, s.f1) = true := fun s hs => by
      have hc := hck
      unfold checkB at hc
      simp only [Bool.and_eq_true, List.all_eq_true] at hc
      exact hc.2 (s.f0, s.f1) (List.mem_map.2 ⟨s, hs, rfl⟩)
    have hz : ∀ p q : Option Bool, (if errOf true = 0 then p else q) = p := fun p q => if_pos (by decide)
    have e1 : luciferref00_Fits.f a 1 500 = some true := by rw [fits_f, decide_eq_true hF.b1, decide_eq_true hF.b2]; rfl
    have e2 : luciferref00_Fits.f b 0 50 = some true := by rw [fits_f, decide_eq_true hF.b3, decide_eq_true hF.b4]; rfl
    have e3 : luciferref00_Fits.f c 0 50 = some true := by rw [fits_f, decide_eq_true hF.b5, decide_eq_true hF.b6]; rfl
    have e4 : luciferref00_Fits.f d 1 4 = some true := by rw [fits_f, decide_eq_true hF.g1, decide_eq_true hF.g4]; rfl
    have e5 : decide ((l.length : Int) ≤ 8) = true := decide_eq_true (by omega)
    simp only [hz, e1, e2, e3, e4, e5, Option.bind_some, if_true]
    refine Ev.step (f := fun k => luciferlaw05_sound.l0 k true (0 : Nat) a b c d l) (fun k => by simp only [luciferlaw05_sound.j0]; rfl) ?_
    exact sound_l0 a b c d l h8 hok l.length 0 (by omega)
end Go.Proofs.YtbbdbdamedaldaaDoor.PL
end
section
namespace Go.Proofs.YtbbdbdamedaldaaDoor.PL
open Go Go.RowKit Go.Proofs.YtbbdbdamedaldaaDoorW.PrintWords Fl
theorem sum_map_le (f g : Nat → Int) (h : ∀ i, f i ≤ g i) : ∀ r : List Nat, (r.map f).sum ≤ (r.map g).sum
  | [] => by simp
  | x :: r => by
    have ih := sum_map_le f g h r
    have := h x
    rw [List.map_cons, List.map_cons, List.sum_cons, List.sum_cons]
    omega
theorem getD_set (q : List (Int × Int)) (k i : Nat) (v : Int × Int) (hk : k < q.length) : (q.set k v).getD i (0, 0) = if k = i then v else q.getD i (0, 0) := by
  rw [List.getD_eq_getElem?_getD, List.getD_eq_getElem?_getD, List.getElem?_set]
  by_cases h : k = i
  · subst h
    rw [if_pos rfl, if_pos rfl, if_pos hk]
    rfl
  · rw [if_neg h, if_neg h]
theorem hand_set {a b c d : Int} {q : List (Int × Int)} (hck : checkB a b c d q = true) (k : Nat) (hk : k < q.length) (v : Int) (h1 : lowOf q k ≤ v) (h2 : v ≤ highOf q k) : handBest a b c d (q.set k (v, v)) ≤ handBest a b c d q := by
  have hb := (bookF hck).at_ k
  have hck' := checkB_set hck k v (by omega) (by omega)
  have hB := (best_is hck).1
  have hB' := (best_is hck').1
  have hpl := hB.plan
  rw [show q.length = (q.set k (v, v)).length by rw [List.length_set]] at hpl
  have s1 := hB'.least _ hpl
  have hl : ∀ i, lowOf q i ≤ lowOf (q.set k (v, v)) i := fun i => by
    unfold lowOf
    rw [getD_set q k i _ hk]
    split
    · next e => subst e; exact h1
    · exact Int.le_refl _
  have hh : ∀ i, highOf (q.set k (v, v)) i ≤ highOf q i := fun i => by
    unfold highOf
    rw [getD_set q k i _ hk]
    split
    · next e => subst e; exact h2
    · exact Int.le_refl _
  have s2 : handB a b c (q.set k (v, v)) (bestPlan a b c d q) ≤ handB a b c q (bestPlan a b c d q) := handB_mono fun x y hxy => by
    rw [rightB_iff] at hxy ⊢
    have t1 : sg (lowOf q) x y ≤ sg (lowOf (q.set k (v, v))) x y := sum_map_le _ _ hl _
    have t2 : sg (highOf (q.set k (v, v))) x y ≤ sg (highOf q) x y := sum_map_le _ _ hh _
    omega
  show handB a b c (q.set k (v, v)) (bestPlan a b c d (q.set k (v, v))) ≤ handB a b c q (bestPlan a b c d q)
  omega
theorem worstTo_le {a b c d : Int} {q : List (Int × Int)} (hck : checkB a b c d q = true) (k : Nat) (hk : k < q.length) : ∀ j : Nat, (j : Int) ≤ highOf q k - lowOf q k + 1 → worstTo a b c d q k j ≤ handBest a b c d q
  | 0, _ => (handB_bd a b c q (bestPlan a b c d q)).1
  | j + 1, hj => by
    have ih := worstTo_le hck k hk j (by omega)
    have h := hand_set hck k hk (lowOf q k + j) (by omega) (by omega)
    show max (worstTo a b c d q k j) (handBest a b c d (q.set k (lowOf q k + j, lowOf q k + j))) ≤ _
    omega
theorem worstOf_le {a b c d : Int} {q : List (Int × Int)} (hck : checkB a b c d q = true) (k : Nat) (hk : k < q.length) : worstOf a b c d q k ≤ handBest a b c d q :=
  worstTo_le hck k hk _ (by have := (bookF hck).at_ k; omega)
theorem askTo_is {a b c d : Int} {q : List (Int × Int)} (hck : checkB a b c d q = true) : ∀ k : Nat, ∃ i : Nat, i < k + 1 ∧ (askTo a b c d q (k + 1)).1 = (i : Int) ∧ (askTo a b c d q (k + 1)).2 = worstOf a b c d q i ∧ ∀ o, o < k + 1 → worstOf a b c d q i ≤ worstOf a b c d q o ∧ (worstOf a b c d q i = worstOf a b c d q o → i ≤ o)
  | 0 => by
    have h0 : askTo a b c d q 1 = ((0 : Int), worstOf a b c d q 0) := if_pos (Or.inl (show (-1 : Int) < 0 by decide))
    refine ⟨0, by omega, by rw [h0]; rfl, by rw [h0], fun o ho => ?_⟩
    · have : o = 0 := by omega
      subst this
      exact ⟨Int.le_refl _, fun _ => Nat.le_refl _⟩
  | k + 1 => by
    obtain ⟨i, hi, e1, e2, hall⟩ := askTo_is hck k
    have hst : askTo a b c d q (k + 1 + 1) = if (askTo a b c d q (k + 1)).1 < 0 ∨ worstOf a b c d q (k + 1) < (askTo a b c d q (k + 1)).2 then (((k + 1 : Nat) : Int), worstOf a b c d q (k + 1)) else askTo a b c d q (k + 1) := rfl
    rw [hst, e1, e2]
    by_cases h : worstOf a b c d q (k + 1) < worstOf a b c d q i
    · rw [if_pos (.inr h)]
      refine ⟨k + 1, by omega, rfl, rfl, fun o ho => ?_⟩
      rcases Nat.lt_succ_iff_lt_or_eq.1 ho with h2 | rfl
      · have := hall o h2
        exact ⟨by omega, fun e => by omega⟩
      · exact ⟨Int.le_refl _, fun _ => Nat.le_refl _⟩
    · rw [if_neg (by omega)]
      refine ⟨i, by omega, e1, e2, fun o ho => ?_⟩
      rcases Nat.lt_succ_iff_lt_or_eq.1 ho with h2 | rfl
      · exact hall o h2
      · exact ⟨by omega, fun _ => by omega⟩
theorem pure_FillAsk (a b c d : Int) (l : List S27) (x : Int) (_ : inI a) (_ : inI b) (_ : inI c) (_ : inI d) (_ : inS l) (hl : l.length ≤ 9223372036854775807) (hx : inI x) : Ev (fun k => luciferlaw05_FillAsk.f k a b c d l x) true := by
  have hfill : luciferlaw05_filled.f = some true := rfl
  unfold luciferlaw05_FillAsk.f
  refine Ev.bind (sound_f a b c d l hl) ?_
  cases hck : checkB a b c d (prs l) with
  | false =>
    simp only [Bool.false_eq_true, if_false, hfill, Option.bind_some]
    exact Ev.now _
  | true =>
    have hF := bookF hck
    have h8 := hF.n8
    rw [prs_length] at h8
    simp only [if_true]
    by_cases hn : l.length = 0
    · have x1 : fill_Ask.f a b c d l = some (0, 4) := by unfold fill_Ask.f; rw [hck, if_pos rfl, if_pos hn]
      have e0 : ((l.length : Nat) : Int) = 0 := by omega
      simp only [x1, Option.bind_some, if_pos e0, if_true, hfill]
      exact Ev.now _
    · obtain ⟨n, hnn⟩ : ∃ n, l.length = n + 1 := ⟨l.length - 1, by omega⟩
      obtain ⟨i, hi, e1, e2, hall⟩ := askTo_is hck n
      obtain ⟨hB, _⟩ := best_is hck
      have hBp := hB.plan
      rw [prs_length] at hBp
      have wfb : wfB (bestPlan a b c d (prs l)) = true := plan_wf hBp h8
      have x1 : fill_Ask.f a b c d l = some ((i : Int), 0) := by unfold fill_Ask.f; rw [hck, if_pos rfl, if_neg hn, hnn, e1]
      have x2 : fill_Best.f a b c d l = some (bestPlan a b c d (prs l), 0) := by unfold fill_Best.f; rw [hck]; rfl
      have x3 : fill_ByHand.f a b c d l (bestPlan a b c d (prs l)) = some (handL a b c (prs l) (bestPlan a b c d (prs l)), 0) := by
        unfold fill_ByHand.f
        rw [if_pos wfb, hck, if_pos rfl, (planB_iff _ _ _).2 hBp, if_pos rfl]
      have e0 : ¬ ((l.length : Nat) : Int) = 0 := by omega
      have x4 : luciferref00_Fits.f (i : Int) 0 (wrap64 ((l.length : Int) - 1)) = some true := by
        rw [w64 ⟨by omega, by omega⟩, fits_f, decide_eq_true (by omega), decide_eq_true (by omega)]
        rfl
      have x5 : luciferref00_Spin.f x (l.length : Int) = some (x % (l.length : Int)) := spin_f x _ (by omega) (by omega)
      have o0 : 0 ≤ x % (l.length : Int) := Int.emod_nonneg _ e0
      have o1 : x % (l.length : Int) < l.length := Int.emod_lt_of_pos _ (by omega)
      obtain ⟨o, ho⟩ : ∃ o : Nat, x % (l.length : Int) = o := ⟨(x % (l.length : Int)).toNat, by omega⟩
      rw [ho] at x5 o1
      have x6 : ∀ m : Nat, m < l.length → luciferlaw05_worst.f a b c d l (m : Int) = some (worstOf a b c d (prs l) m) := fun m hm => by
        unfold luciferlaw05_worst.f
        rw [if_pos ⟨hck, by omega, by omega⟩, Int.toNat_natCast]
      have hal := hall o (by omega)
      have hle : worstOf a b c d (prs l) i ≤ ((handL a b c (prs l) (bestPlan a b c d (prs l))).length : Int) := worstOf_le hck i (by rw [prs_length]; omega)
      simp only [x1, x2, x3, x4, Option.bind_some, if_neg e0, if_true, Bool.not_true]
      refine Ev.step (f := fun _ => some true) (fun k => ?_) (Ev.now _)
      simp only [luciferlaw05_FillAsk.j0]
      rw [if_neg (by decide), x5, Option.bind_some, x6 i (by omega), Option.bind_some, x6 o (by omega), Option.bind_some, if_pos hle]
      by_cases h1 : worstOf a b c d (prs l) i < worstOf a b c d (prs l) o
      · rw [if_pos h1, hfill]
        rfl
      · have h2 : worstOf a b c d (prs l) i = worstOf a b c d (prs l) o := by omega
        rw [if_neg h1, if_pos h2, if_pos (by have := hal.2 h2; omega), hfill]
        rfl
end Go.Proofs.YtbbdbdamedaldaaDoor.PL
end
section
namespace Go.Proofs.YtbbdbdamedaldaaDoor.RowFillAsk
open Go Go.Proofs.YtbbdbdamedaldaaDoorW.PrintWords Go.ChangeShapes Go.WideShapes Go.ChangeAt Go.RowKit Go.Joins Go.Deep Rw
open Go.ChangeMaps (open_string shut_string)
set_option linter.unusedVariables false
set_option maxRecDepth 100000 in
theorem lifted (os : Os) (started : os.Started) (H : Type) (enc : TypeId × Value → H) :
    ReturnsInHanded {} Tryd.checked os 13 .any (fun w args => (Rows.fillAskSpec.pre enc Tryd.prog Tryd.f13 [] false w args ∧ laidMetH Tryd.prog laid1 w) ∧ sizedMet enc Tryd.prog Tryd.f13 (OpenSpec.ofChange Rows.fillAskSpec) false w args)
      (Rows.fillAskSpec.post enc Tryd.prog Tryd.f13 false true false false) := by
  refine returnsInHanded_of_change_and (C := Tryd.checked) (X := fun w _ => laidMetH Tryd.prog laid1 w) (fun _ _ _ hh h => h.of_heap hh) own started (by kernel_rfl) Tryd.func13
    (ChangeSpec.witness_shaped (enc := enc) (C := Tryd.checked) (os := os) (X := fun w _ => laidMetH Tryd.prog laid1 w) false (World.doorLaid Tryd.prog 600 os) #[.agg #[.int .i64 0, .int .i64 0, .int .i64 0, .int .i64 0, .slice none 0 0], .int .i64 0] 8 rfl (World.shaped_of_RefB (by kernel_rfl) (by kernel_rfl)) (by kernel_rfl) (by kernel_rfl) (by kernel_rfl) (door_met os _)) ?_
  intro W base args ds gs before hval0 hW _ hsz0 hL _
  have hsz : (DataW.weightsEach Tryd.prog (Tryd.f13.params.toList ++ Rows.fillAskSpec.plain.varTypes Tryd.prog) (ds ++ gs)).all (· ≤ reachBytes) = true := hsz0
  have hval : ∀ (j : Nat) t v, Tryd.f13.params[j]? = some t → args[j]? = some v → Value.okWide Tryd.prog W .any base t v := hval0
  have hW' := hW
  obtain ⟨p, q, hA0, hV, rfl, hfz, hnd⟩ := hW
  have hA : DataW.TrodAll enc Tryd.prog W 0 (fun _ => true) true Tryd.f13.params.toList args.toList ds p := hA0
  rw [Tryd.params13] at hA hval hsz
  obtain ⟨v0, vs0, d0, ds0, p0, q0, hargs, rfl, rfl, h0, r0⟩ := trodAll_cons hA
  obtain ⟨v1, vs1, d1, ds1, p1, q1, rfl, rfl, rfl, h1, r1⟩ := trodAll_cons r0
  obtain ⟨rfl, rfl, rfl⟩ := trodAll_nil r1
  obtain rfl : args = #[v0, v1] := by cases args; simp_all
  obtain ⟨rfl, rfl⟩ := trodVars_none hV
  have k0 := h0
  have lt0 : ∀ x ∈ p0, x.block < W.heap.size := by obtain ⟨m, hm⟩ := k0; exact DataW.trod_lt m _ _ _ hm
  obtain ⟨a0, b0, c0, e0, A0, cap0, l0, rfl, hl0, hC0, ia0, ib0, ic0, ie0, il0⟩ := book_open (hval 0 24 v0 rfl rfl) h0
  have k1 := h1
  have lt1 : ∀ x ∈ p1, x.block < W.heap.size := by obtain ⟨m, hm⟩ := k1; exact DataW.trod_lt m _ _ _ hm
  obtain ⟨a1, rfl, ia1⟩ := int_open (hval 1 3 v1 rfl rfl) h1
  have z0 : l0.length ≤ 9223372036854775807 := hC0.2.1
  obtain ⟨k, hk⟩ := (PL.pure_FillAsk a0 b0 c0 e0 l0 a1 ia0 ib0 ic0 ie0 il0 z0 ia1).rounds
  have hLd := laid_of hL
  clear hA0 hval0 hsz0 hsz hL
  refine (PL.luciferlaw05_FillAsk.calls k a0 b0 c0 e0 A0 cap0 l0 a1 true W hLd hC0 hl0 hk).mono fun e W' ⟨he, bel⟩ => ?_
  subst he
  exact ⟨_, rfl, _, _, _, [], _, [], hW', trodAll_mk1 (shut_bool Tryd.underlying4 _), (trodAll_cons_mk (Below.trod laidOut (by kernel_rfl) (of_decide_eq_true (by kernel_rfl)) k0 bel lt0) (trodAll_cons_mk (Below.trod laidOut (by kernel_rfl) (of_decide_eq_true (by kernel_rfl)) k1 bel lt1) trodAll_mk0)), rfl, bel.frame _, fun h => by cases h⟩
theorem over : Rows.fillAskRow.holds Tryd.pinned (OpenSpec.ofChange Rows.fillAskSpec) :=
  OpenClaim.holds_of_wide 13 Tryd.f13 rfl rfl rfl rfl rfl rfl rfl ⟨rfl, rfl, rfl, rfl, rfl⟩ rfl rfl rfl rfl rfl (by kernel_rfl) Tryd.func13 (by kernel_rfl)
    (of_decide_eq_true (by kernel_rfl)) (by unfold Func.isWrapper; first | (rw [if_pos (by decide +kernel)]; kernel_rfl) | (rw [if_neg (by decide +kernel)]; exact ⟨rfl, rfl⟩))
    (fun os started H enc _ => lifted os started H enc)
theorem proved : Rows.FillAskSaid := over
end Go.Proofs.YtbbdbdamedaldaaDoor.RowFillAsk
end
