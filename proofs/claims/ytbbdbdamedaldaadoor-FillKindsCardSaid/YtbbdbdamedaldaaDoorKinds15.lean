/- The card of FillKinds: the row, its listed variable tied to the program's text. Whatever the input, the law returns true, and each argument reads afterwards as it did. (part 16) -/
import Derived.Laws.BitsLemmas
import Derived.Test.YtbbdbdamedaldaaDoorKinds14
set_option linter.unusedVariables false
set_option linter.unusedSimpArgs false
section
namespace Go.Proofs.YtbbdbdamedaldaaDoor.Fl
open Go
def okF (n : Nat) (gr : Int) : Int → List Int → Prop
  | a, [] => a = n
  | a, t :: p => a < t ∧ t ≤ n ∧ t - a ≤ gr ∧ okF n gr t p
def prevA (a : Int) (p : List Int) (k : Nat) : Int := if k = 0 then a else p.getD (k - 1) 0
theorem okF_iff (n : Nat) (gr : Int) : ∀ (p : List Int) (a : Int), 0 ≤ a → (okF n gr a p ↔ (∀ i, i < p.length → boxB n gr (prevA a p i) (p.getD i 0) = true) ∧ prevA a p p.length = n)
  | [], a, _ => by simp [okF, prevA]
  | t :: p, a, ha => by
    constructor
    · rintro ⟨h1, h2, h3, h4⟩
      obtain ⟨h5, h6⟩ := (okF_iff n gr p t (by omega)).1 h4
      refine ⟨fun i hi => ?_, ?_⟩
      · cases i with
        | zero =>
          show boxB n gr a t = true
          rw [boxB_iff]
          omega
        | succ i =>
          have := h5 i (by simpa using hi)
          have e : prevA a (t :: p) (i + 1) = prevA t p i := by
            unfold prevA
            cases i <;> simp
          rw [e]
          simpa using this
      · have e : prevA a (t :: p) (p.length + 1) = prevA t p p.length := by
          unfold prevA
          cases hp : p.length <;> simp
        rw [List.length_cons, e]
        exact h6
    · rintro ⟨h5, h6⟩
      have h0 := h5 0 (by simp)
      have h0' : boxB n gr a t = true := h0
      rw [boxB_iff] at h0'
      refine ⟨h0'.2.1, h0'.2.2.1, h0'.2.2.2, (okF_iff n gr p t (by omega)).2 ⟨fun i hi => ?_, ?_⟩⟩
      · have := h5 (i + 1) (by simpa using hi)
        have e : prevA a (t :: p) (i + 1) = prevA t p i := by
          unfold prevA
          cases i <;> simp
        rw [e] at this
        simpa using this
      · have e : prevA a (t :: p) (p.length + 1) = prevA t p p.length := by
          unfold prevA
          cases hp : p.length <;> simp
        rw [List.length_cons, e] at h6
        exact h6
theorem planP_iff (n : Nat) (gr : Int) (p : List Int) : planP n gr p ↔ okF n gr 0 p := by
  rw [okF_iff n gr p 0 (Int.le_refl _)]
  rfl
theorem mem_plansF (n : Nat) (gr : Int) (hg : 0 ≤ gr) : ∀ (d a : Nat) (plan : List Int), n ≤ a + d → a ≤ n → ∀ p, p ∈ plansF n gr.toNat d a plan ↔ ∃ s, p = plan ++ s ∧ okF n gr a s
  | 0, a, plan, hd, ha, p => by
    have e : a = n := by omega
    subst e
    rw [plansF_leaf]
    constructor
    · intro h
      exact ⟨[], by simpa using h, rfl⟩
    · rintro ⟨s, rfl, hs⟩
      cases s with
      | nil => simp
      | cons t s =>
        have := hs.1
        have := hs.2.1
        omega
  | d + 1, a, plan, hd, ha, p => by
    by_cases e : a = n
    · subst e
      rw [plansF_leaf]
      constructor
      · intro h
        exact ⟨[], by simpa using h, rfl⟩
      · rintro ⟨s, rfl, hs⟩
        cases s with
        | nil => simp
        | cons t s =>
          have := hs.1
          have := hs.2.1
          omega
    · rw [plansF_step _ _ _ _ _ e]
      unfold flatP
      simp only [List.mem_flatMap, List.mem_range]
      constructor
      · rintro ⟨k, hk, hp⟩
        split at hp
        · rename_i hle
          obtain ⟨s, rfl, hs⟩ := (mem_plansF n gr hg d (a + k + 1) _ (by omega) hle p).1 hp
          exact ⟨((a + k + 1 : Nat) : Int) :: s, by simp, by omega, by omega, by omega, hs⟩
        · simp at hp
      · rintro ⟨s, rfl, hs⟩
        cases s with
        | nil => exact absurd (Int.natCast_inj.1 hs) e
        | cons t s =>
          obtain ⟨h1, h2, h3, h4⟩ := hs
          obtain ⟨k, hk⟩ : ∃ k : Nat, t = ((a + k + 1 : Nat) : Int) := ⟨(t - a - 1).toNat, by omega⟩
          subst hk
          refine ⟨k, by omega, ?_⟩
          rw [if_pos (by omega)]
          exact (mem_plansF n gr hg d (a + k + 1) _ (by omega) (by omega) _).2 ⟨s, by simp, h4⟩
theorem mem_plansL (n : Nat) (gr : Int) (hg : 0 ≤ gr) (p : List Int) : p ∈ plansL n gr.toNat ↔ planP n gr p := by
  rw [planP_iff]
  unfold plansL
  rw [mem_plansF n gr hg n 0 [] (by omega) (by omega)]
  simp
def pick1 (bt : Int → Int → Int → Int → Bool) (hn : List Int → Int) (o : Option (List Int)) (p : List Int) : Option (List Int) := match o with | none => some p | some q => if bt p.length (hn p) q.length (hn q) = true then some p else some q
theorem fold_some {bt : Int → Int → Int → Int → Bool} {hn key : List Int → Int} {P : List Int → Prop} (hk : ∀ p q, P p → P q → bt p.length (hn p) q.length (hn q) = decide (key p < key q)) :
    ∀ (l : List (List Int)) (d : List Int), P d → (∀ c ∈ l, P c) → ∃ e, l.foldl (pick1 bt hn) (some d) = some e ∧ P e ∧ (∀ c ∈ l, key e ≤ key c) ∧ key e ≤ key d ∧
      ((e = d) ∨ ∃ l1 l2, l = l1 ++ e :: l2 ∧ key e < key d ∧ ∀ c ∈ l1, key e < key c)
  | [], d, hd, _ => ⟨d, rfl, hd, by simp, by omega, .inl rfl⟩
  | c :: l, d, hd, hl => by
    have hc := hl c List.mem_cons_self
    have hl2 : ∀ c ∈ l, P c := fun x hx => hl x (List.mem_cons_of_mem _ hx)
    rw [List.foldl_cons]
    by_cases h : key c < key d
    · have hb : pick1 bt hn (some d) c = some c := by unfold pick1; simp only; rw [hk c d hc hd, if_pos (by simpa using h)]
      rw [hb]
      obtain ⟨e, he, hP, h1, h2, h3⟩ := fold_some hk l c hc hl2
      refine ⟨e, he, hP, ?_, by omega, .inr ?_⟩
      · intro x hx
        rcases List.mem_cons.1 hx with rfl | hx
        · exact h2
        · exact h1 x hx
      · rcases h3 with rfl | ⟨l1, l2, rfl, h4, h5⟩
        · exact ⟨[], l, rfl, h, by simp⟩
        · refine ⟨c :: l1, l2, rfl, by omega, ?_⟩
          intro x hx
          rcases List.mem_cons.1 hx with rfl | hx
          · exact h4
          · exact h5 x hx
    · have hb : pick1 bt hn (some d) c = some d := by unfold pick1; simp only; rw [hk c d hc hd, if_neg (by simpa using h)]
      rw [hb]
      obtain ⟨e, he, hP, h1, h2, h3⟩ := fold_some hk l d hd hl2
      refine ⟨e, he, hP, ?_, h2, ?_⟩
      · intro x hx
        rcases List.mem_cons.1 hx with rfl | hx
        · omega
        · exact h1 x hx
      · rcases h3 with h3 | ⟨l1, l2, rfl, h4, h5⟩
        · exact .inl h3
        · refine .inr ⟨c :: l1, l2, rfl, h4, ?_⟩
          intro x hx
          rcases List.mem_cons.1 hx with rfl | hx
          · omega
          · exact h5 x hx
theorem bestP_first {bt : Int → Int → Int → Int → Bool} {hn key : List Int → Int} {P : List Int → Prop} (hk : ∀ p q, P p → P q → bt p.length (hn p) q.length (hn q) = decide (key p < key q))
    (l : List (List Int)) (hl : l ≠ []) (hP : ∀ c ∈ l, P c) : ∃ l1 l2, l = l1 ++ bestP bt hn l :: l2 ∧ (∀ c ∈ l, key (bestP bt hn l) ≤ key c) ∧ ∀ c ∈ l1, key (bestP bt hn l) < key c := by
  cases l with
  | nil => exact absurd rfl hl
  | cons c l =>
    have e0 : bestP bt hn (c :: l) = (l.foldl (pick1 bt hn) (some c)).getD [] := rfl
    obtain ⟨e, he, _, h1, h2, h3⟩ := fold_some hk l c (hP c List.mem_cons_self) (fun x hx => hP x (List.mem_cons_of_mem _ hx))
    rw [e0, he]
    simp only [Option.getD_some]
    rcases h3 with rfl | ⟨l1, l2, rfl, h4, h5⟩
    · refine ⟨[], l, rfl, ?_, by simp⟩
      intro x hx
      rcases List.mem_cons.1 hx with rfl | hx
      · omega
      · exact h1 x hx
    · refine ⟨c :: l1, l2, rfl, ?_, ?_⟩
      · intro x hx
        rcases List.mem_cons.1 hx with rfl | hx
        · exact h2
        · exact h1 x hx
      · intro x hx
        rcases List.mem_cons.1 hx with rfl | hx
        · exact h4
        · exact h5 x hx
def handB (pr le mo : Int) (q : List (Int × Int)) (p : List Int) : Int := handN pr le mo (lowOf q) (highOf q) p
theorem most_is {pr le mo gr : Int} {q : List (Int × Int)} (hck : checkB pr le mo gr q = true) : (∃ p, planP q.length gr p ∧ mostBoxes pr le mo gr q = (p.length : Int) - handB pr le mo q p) ∧ ∀ c, planP q.length gr c → (c.length : Int) - handB pr le mo q c ≤ mostBoxes pr le mo gr q := by
  have hF := bookF hck
  have hg : 0 ≤ gr := by have := hF.g1; omega
  have hne := plansL_ne q.length gr.toNat (by have := hF.g1; omega)
  obtain ⟨l1, l2, h1, h2, h3⟩ := bestP_first (bt := btSure) (hn := handB pr le mo q) (key := fun p => handB pr le mo q p - p.length) (P := fun _ => True)
    (fun p r _ _ => by unfold btSure; rw [Bool.eq_iff_iff]; simp; omega) (plansL q.length gr.toNat) hne (fun c hc => trivial)
  have hm : mostBoxes pr le mo gr q = ((bestP btSure (handB pr le mo q) (plansL q.length gr.toNat)).length : Int) - handB pr le mo q (bestP btSure (handB pr le mo q) (plansL q.length gr.toNat)) := rfl
  rw [hm]
  refine ⟨⟨_, (mem_plansL _ _ hg _).1 (bestP_mem hne), rfl⟩, fun c hc => ?_⟩
  have := h2 c ((mem_plansL _ _ hg c).2 hc)
  omega
end Go.Proofs.YtbbdbdamedaldaaDoor.Fl
end
section
namespace FM
theorem take_sum_le {s : List Int} (hs : s.Pairwise (· ≤ ·)) : ∀ (t : List Int), t.Sublist s → (s.take t.length).sum ≤ t.sum := by
  induction s with
  | nil =>
    intro t ht
    have := List.sublist_nil.1 ht
    subst this
    simp
  | cons a s ih =>
    intro t ht
    cases t with
    | nil => simp
    | cons b t =>
      have hp := List.pairwise_cons.1 hs
      have hab : a ≤ b := by
        have : b ∈ a :: s := ht.subset List.mem_cons_self
        rcases List.mem_cons.1 this with rfl | h
        · omega
        · exact hp.1 b h
      have ht' : t.Sublist s := by
        have := ht.tail
        simpa using this
      have := ih hp.2 t ht'
      simp
      omega
theorem drop_sum_ge {s : List Int} (hs : s.Pairwise (· ≤ ·)) (t : List Int) (ht : t.Sublist s) : t.sum ≤ (s.drop (s.length - t.length)).sum := by
  have h1 : ((s.map (- ·)).reverse).Pairwise (· ≤ ·) := by
    rw [List.pairwise_reverse, List.pairwise_map]
    exact hs.imp (fun h => by omega)
  have h2 : ((t.map (- ·)).reverse).Sublist ((s.map (- ·)).reverse) := (ht.map _).reverse
  have h3 := take_sum_le h1 _ h2
  have hneg : ∀ l : List Int, (l.map (- ·)).sum = - l.sum := by
    intro l
    induction l with
    | nil => simp
    | cons a l ih => simp [ih]; omega
  rw [List.length_reverse, List.length_map, List.take_reverse, List.length_map] at h3
  rw [List.sum_reverse, List.sum_reverse, hneg, ← List.map_drop, hneg] at h3
  omega
theorem perm_sum {l k : List Int} (h : l.Perm k) : l.sum = k.sum := by
  induction h with
  | nil => rfl
  | cons x _ ih => simp [ih]
  | swap x y l => simp; omega
  | trans _ _ h1 h2 => rw [h1, h2]
theorem least_le {l s : List Int} (hp : l.Perm s) (hs : s.Pairwise (· ≤ ·)) {t : List Int} (ht : t.Sublist l) : (s.take t.length).sum ≤ t.sum := by
  obtain ⟨t', h1, h2⟩ := List.exists_perm_sublist ht hp
  have := take_sum_le hs t' h2
  rw [h1.length_eq, perm_sum h1] at this
  exact this
theorem most_ge {l s : List Int} (hp : l.Perm s) (hs : s.Pairwise (· ≤ ·)) {t : List Int} (ht : t.Sublist l) : t.sum ≤ (s.drop (s.length - t.length)).sum := by
  obtain ⟨t', h1, h2⟩ := List.exists_perm_sublist ht hp
  have := drop_sum_ge hs t' h2
  rw [h1.length_eq, perm_sum h1] at this
  exact this
theorem least_is {l s : List Int} (hp : l.Perm s) (m : Nat) (hm : m ≤ l.length) : ∃ t : List Int, t.Sublist l ∧ t.length = m ∧ t.sum = (s.take m).sum := by
  obtain ⟨t', h1, h2⟩ := List.exists_perm_sublist (List.take_sublist m s) hp.symm
  refine ⟨t', h2, ?_, perm_sum h1⟩
  rw [h1.length_eq, List.length_take, ← hp.length_eq]
  omega
theorem most_is {l s : List Int} (hp : l.Perm s) (m : Nat) (hm : m ≤ l.length) : ∃ t : List Int, t.Sublist l ∧ t.length = m ∧ t.sum = (s.drop (s.length - m)).sum := by
  obtain ⟨t', h1, h2⟩ := List.exists_perm_sublist (List.drop_sublist (s.length - m) s) hp.symm
  refine ⟨t', h2, ?_, perm_sum h1⟩
  rw [h1.length_eq, List.length_drop, ← hp.length_eq]
  omega
theorem any_iff (q : List (Int × Int)) (sl sh : List Int) (hl : (q.map (·.1)).Perm sl) (hsl : sl.Pairwise (· ≤ ·)) (hh : (q.map (·.2)).Perm sh) (hsh : sh.Pairwise (· ≤ ·)) (m : Nat) (hm : m ≤ q.length) (A B : Int) :
    (∀ t : List (Int × Int), t.Sublist q → t.length = m → A ≤ (t.map (·.1)).sum ∧ (t.map (·.2)).sum ≤ B) ↔ (A ≤ (sl.take m).sum ∧ (sh.drop (sh.length - m)).sum ≤ B) := by
  constructor
  · intro h
    constructor
    · obtain ⟨t, h1, h2, h3⟩ := least_is hl m (by simpa using hm)
      obtain ⟨t', h4, rfl⟩ := List.sublist_map_iff.1 h1
      rw [← h3]
      exact (h t' h4 (by simpa using h2)).1
    · obtain ⟨t, h1, h2, h3⟩ := most_is hh m (by simpa using hm)
      obtain ⟨t', h4, rfl⟩ := List.sublist_map_iff.1 h1
      rw [← h3]
      exact (h t' h4 (by simpa using h2)).2
  · rintro ⟨h1, h2⟩ t ht hn
    have h3 := least_le hl hsl (ht.map (·.1))
    have h4 := most_ge hh hsh (ht.map (·.2))
    rw [List.length_map, hn] at h3 h4
    omega
end FM
end
section
namespace Go.Proofs.YtbbdbdamedaldaaDoor.Fl
open Go
theorem kind0 (pr le mo lo hi : Int) : kindOf pr le mo lo hi = 0 ↔ pr - le ≤ lo ∧ hi ≤ pr + mo := by
  unfold kindOf
  split <;> split <;> omega
theorem anyB_iff (pr le mo : Int) (q : List (Int × Int)) (m : Nat) (hm : m ≤ q.length) : anyB pr le mo q m = true ↔ ∀ t : List (Int × Int), t.Sublist q → t.length = m → pr - le ≤ (t.map (·.1)).sum ∧ (t.map (·.2)).sum ≤ pr + mo := by
  have h := FM.any_iff q (srt (q.map (·.1))) (srt (q.map (·.2))) (srt_perm _) (srt_sorted _) (srt_perm _) (srt_sorted _) m hm (pr - le) (pr + mo)
  rw [h]
  unfold anyB
  rw [beq_iff_eq, kind0, srt_length, List.length_map]
end Go.Proofs.YtbbdbdamedaldaaDoor.Fl
end
section
namespace Go.Proofs.YtbbdbdamedaldaaDoor.PL
open Go Go.RowKit Go.Proofs.YtbbdbdamedaldaaDoorW.PrintWords Fl
def inI (x : Int) : Prop := -9223372036854775808 ≤ x ∧ x ≤ 9223372036854775807
def inS (l : List S27) : Prop := ∀ s ∈ l, inI s.f0 ∧ inI s.f1
theorem fits_f (x a b : Int) : luciferref00_Fits.f x a b = some (decide (a ≤ x) && decide (x ≤ b)) := by
  unfold luciferref00_Fits.f
  by_cases h : a ≤ x <;> simp [h]
theorem right_f (x y a b : Int) : luciferref00_Right.f x y a b = some (decide (a ≤ x) && decide (x ≤ y) && decide (y ≤ b)) := by
  unfold luciferref00_Right.f
  by_cases h : a ≤ x <;> by_cases h2 : x ≤ y <;> simp [h, h2]
theorem wraps_f (a b c d : Int) : luciferref00_Wraps.f a b c d = some (decide (a ≤ c) && decide (d ≤ b)) := by
  unfold luciferref00_Wraps.f
  by_cases h : a ≤ c <;> simp [h]
theorem rd27 (l : List S27) (i : Nat) (hi : i < l.length) : rd_T27 l (i : Int) = l[i] := by
  simp [rd_T27, List.getD_eq_getElem?_getD, List.getElem?_eq_getElem hi]
theorem w64 {x : Int} (h : inI x) : wrap64 x = x := IntWalk.wrap64_in _ h
theorem prs_get (l : List S27) (i : Nat) (hi : i < l.length) : (prs l)[i]'(by rw [prs_length]; exact hi) = ((l[i]).f0, (l[i]).f1) := by simp [prs]
theorem prs_drop (l : List S27) (i : Nat) (hi : i < l.length) : (prs l).drop i = ((l[i]).f0, (l[i]).f1) :: (prs l).drop (i + 1) := by
  rw [List.drop_eq_getElem_cons (by rw [prs_length]; exact hi), prs_get]
theorem okS_ref (x y : Int) (hx : inI x) (hy : inI y) : (decide (0 ≤ x) && decide (x ≤ y) && decide (y ≤ 200) && decide (wrap64 (y - x) ≤ 10)) = okS (x, y) := by
  unfold okS
  by_cases h : 0 ≤ x ∧ x ≤ y ∧ y ≤ 200
  · rw [w64 (show inI (y - x) from ⟨by omega, by omega⟩)]
  · rcases Decidable.not_and_iff_or_not.1 h with h | h
    · simp [h]
    · rcases Decidable.not_and_iff_or_not.1 h with h | h <;> simp [h]
theorem refCheck_l0 (a b c d : Int) (l : List S27) (hs : inS l) (hl : l.length ≤ 9223372036854775807) : ∀ (m i : Nat) (x3 : Bool), i + m = l.length → Ev (fun k => luciferref05_Check.l0 k x3 i a b c d l) (errOf (x3 && ((prs l).drop i).all okS))
  | m, i, false, _ => Ev.step (f := fun _ => some 50) (fun k => by simp [luciferref05_Check.l0]) (Ev.now _)
  | 0, i, true, h => by
    have e : (prs l).drop i = [] := List.drop_eq_nil_of_le (by rw [prs_length]; omega)
    rw [e]
    exact Ev.step (f := fun _ => some 0) (fun k => by simp only [luciferref05_Check.l0]; rw [if_pos trivial, if_neg (by omega)]) (Ev.now _)
  | m + 1, i, true, h => by
    have hi : i < l.length := by omega
    have hsi := hs l[i] (List.getElem_mem _)
    have hw : wrap64 ((i : Int) + 1) = ((i + 1 : Nat) : Int) := by rw [w64 ⟨by omega, by omega⟩]; omega
    rw [prs_drop l i hi, List.all_cons]
    by_cases hr : (decide (0 ≤ l[i].f0) && decide (l[i].f0 ≤ l[i].f1) && decide (l[i].f1 ≤ 200)) = true
    · refine Ev.step (f := fun k => luciferref05_Check.l0 k (decide (wrap64 (l[i].f1 - l[i].f0) ≤ 10)) (i + 1 : Nat) a b c d l) (fun k => ?_) ?_
      · simp only [luciferref05_Check.l0]
        rw [if_pos trivial, if_pos (by omega), if_pos (by omega), rd27 l i hi, right_f, Option.bind_some, if_pos hr, hw]
      · have e := okS_ref l[i].f0 l[i].f1 hsi.1 hsi.2
        rw [hr, Bool.true_and] at e
        rw [Bool.true_and, ← e]
        exact refCheck_l0 a b c d l hs hl m (i + 1) _ (by omega)
    · refine Ev.step (f := fun k => luciferref05_Check.l0 k false (i + 1 : Nat) a b c d l) (fun k => ?_) ?_
      · simp only [luciferref05_Check.l0]
        rw [if_pos trivial, if_pos (by omega), if_pos (by omega), rd27 l i hi, right_f, Option.bind_some, if_neg hr, hw]
      · have e := okS_ref l[i].f0 l[i].f1 hsi.1 hsi.2
        have hr2 : (decide (0 ≤ l[i].f0) && decide (l[i].f0 ≤ l[i].f1) && decide (l[i].f1 ≤ 200)) = false := by simpa using hr
        rw [hr2, Bool.false_and] at e
        rw [Bool.true_and, ← e, Bool.false_and]
        have := refCheck_l0 a b c d l hs hl m (i + 1) false (by omega)
        simpa using this
theorem refCheck_f (a b c d : Int) (l : List S27) (ha : inI a) (hs : inS l) (hl : l.length ≤ 9223372036854775807) : Ev (fun k => luciferref05_Check.f k a b c d l) (errOf (checkB a b c d (prs l))) := by
  have hj : ∀ x, Ev (fun k => luciferref05_Check.j0 k x a b c d l) (errOf (x && (prs l).all okS)) := fun x => by
    refine Ev.step (f := fun k => luciferref05_Check.l0 k x 0 a b c d l) (fun k => by simp only [luciferref05_Check.j0]) ?_
    have := refCheck_l0 a b c d l hs hl l.length 0 x (by omega)
    simpa using this
  have hf : ∀ k, luciferref05_Check.f k a b c d l = luciferref05_Check.j0 k (decide (1 ≤ a) && decide (a ≤ 500) && (decide (0 ≤ b) && decide (b ≤ mn 50 (wrap64 (a - 1)))) && (decide (0 ≤ c) && decide (c ≤ 50)) && (decide (1 ≤ d) && decide (d ≤ 4)) && decide ((l.length : Int) ≤ 8)) a b c d l := by
    intro k
    unfold luciferref05_Check.f
    rw [fits_f, fits_f, fits_f, fits_f]
    simp only [Option.bind_some]
    cases h1 : (decide (1 ≤ a) && decide (a ≤ 500)) <;> cases h2 : (decide (0 ≤ b) && decide (b ≤ mn 50 (wrap64 (a - 1)))) <;> cases h3 : (decide (0 ≤ c) && decide (c ≤ 50)) <;> cases h4 : (decide (1 ≤ d) && decide (d ≤ 4)) <;> simp
  refine Ev.congr hf ?_
  have e : checkB a b c d (prs l) = ((decide (1 ≤ a) && decide (a ≤ 500) && (decide (0 ≤ b) && decide (b ≤ mn 50 (wrap64 (a - 1)))) && (decide (0 ≤ c) && decide (c ≤ 50)) && (decide (1 ≤ d) && decide (d ≤ 4)) && decide ((l.length : Int) ≤ 8)) && (prs l).all okS) := by
    unfold checkB
    congr 1
    rw [prs_length]
    rw [Bool.eq_iff_iff]
    simp only [Bool.and_eq_true, decide_eq_true_eq]
    unfold mn
    by_cases h1 : 1 ≤ a ∧ a ≤ 500
    · rw [w64 (show inI (a - 1) from ⟨by omega, by omega⟩)]
      constructor
      · intro h
        refine ⟨⟨⟨⟨h1, by omega, ?_⟩, by omega⟩, by omega⟩, by omega⟩
        split <;> omega
      · rintro ⟨⟨⟨⟨_, h2, h3⟩, h4⟩, h5⟩, h6⟩
        split at h3 <;> omega
    · constructor
      · intro h; omega
      · rintro ⟨⟨⟨⟨h, _⟩, _⟩, _⟩, _⟩; exact absurd h h1
  rw [e]
  exact hj _
theorem refAsked_f (a b c d : Int) (l : List S27) (x : Bool) (ha : inI a) (hs : inS l) (hl : l.length ≤ 9223372036854775807) : Ev (fun k => luciferref05_asked.f k a b c d l x) (if checkB a b c d (prs l) = true then (if x = true then 0 else 51) else 50) := by
  unfold luciferref05_asked.f
  refine Ev.bind (refCheck_f a b c d l ha hs hl) ?_
  cases checkB a b c d (prs l) with
  | true => cases x <;> exact Ev.now _
  | false => exact Ev.now _
theorem refSum_l0 (a b c d : Int) (l : List S27) (hl : l.length ≤ 8) (hb : ∀ s ∈ l, (0 ≤ s.f0 ∧ s.f0 ≤ 200) ∧ (0 ≤ s.f1 ∧ s.f1 ≤ 200)) (y : Nat) (hy : y ≤ l.length) : ∀ (m i : Nat) (u v : Int), (i + m = y) → (0 ≤ u ∧ u ≤ 200 * i) → (0 ≤ v ∧ v ≤ 200 * i) →
    Ev (fun k => luciferref05_sum.l0 k y i a b c d l u v) (u + sg (lowOf (prs l)) i y, v + sg (highOf (prs l)) i y)
  | 0, i, u, v, h, _, _ => by
    have e : i = y := by omega
    subst e
    have z : ∀ f : Nat → Int, sg f i i = 0 := fun f => by simp [sg]
    rw [z, z, Int.add_zero, Int.add_zero]
    exact Ev.step (f := fun _ => some (u, v)) (fun k => by simp only [luciferref05_sum.l0]; rw [if_neg (by omega)]) (Ev.now _)
  | m + 1, i, u, v, h, hu, hv => by
    have hi : i < l.length := by omega
    obtain ⟨h1, h2⟩ := hb l[i] (List.getElem_mem _)
    have hw : wrap64 ((i : Int) + 1) = ((i + 1 : Nat) : Int) := by rw [w64 ⟨by omega, by omega⟩]; omega
    have z : ∀ f : Nat → Int, sg f i y = f i + sg f (i + 1) y := fun f => by
      unfold sg
      rw [show y - i = (y - (i + 1)) + 1 by omega, List.range'_succ, List.map_cons, List.sum_cons]
    have e1 : lowOf (prs l) i = l[i].f0 := by simp [lowOf, prs, List.getD_eq_getElem?_getD, List.getElem?_eq_getElem hi]
    have e2 : highOf (prs l) i = l[i].f1 := by simp [highOf, prs, List.getD_eq_getElem?_getD, List.getElem?_eq_getElem hi]
    rw [z, z, e1, e2, ← Int.add_assoc, ← Int.add_assoc]
    refine Ev.step (f := fun k => luciferref05_sum.l0 k y (i + 1 : Nat) a b c d l (u + l[i].f0) (v + l[i].f1)) (fun k => ?_) (refSum_l0 a b c d l hl hb y hy m (i + 1) (u + l[i].f0) (v + l[i].f1) (by omega) (by omega) (by omega))
    simp only [luciferref05_sum.l0]
    rw [if_pos (by omega), if_pos (by omega), if_pos (by omega), rd27 l i hi, hw, w64 ⟨by omega, by omega⟩, w64 ⟨by omega, by omega⟩]
    rfl
theorem inB {a b c d : Int} {l : List S27} (h : checkB a b c d (prs l) = true) : l.length ≤ 8 ∧ ∀ s ∈ l, (0 ≤ s.f0 ∧ s.f0 ≤ 200) ∧ (0 ≤ s.f1 ∧ s.f1 ≤ 200) := by
  have hF := bookF h
  refine ⟨by have := hF.n8; rw [prs_length] at this; exact this, fun s hs => ?_⟩
  have := hF.ok (s.f0, s.f1) (List.mem_map.2 ⟨s, hs, rfl⟩)
  simp only at this
  omega
theorem refSum_f {a b c d : Int} {l : List S27} (h : checkB a b c d (prs l) = true) (x y : Nat) (hxy : x ≤ y) (hy : y ≤ l.length) : Ev (fun k => luciferref05_sum.f k a b c d l x y) (sg (lowOf (prs l)) x y, sg (highOf (prs l)) x y) := by
  obtain ⟨h8, hb⟩ := inB h
  have := refSum_l0 a b c d l h8 hb y hy (y - x) x 0 0 (by omega) (by omega) (by omega)
  simp only [Int.zero_add] at this
  exact this
theorem label_f {a b c d : Int} {l : List S27} (h : checkB a b c d (prs l) = true) : luciferref05_label.f a b c d l = some (a - b, a + c) := by
  have hF := bookF h
  have := hF.b1
  have := hF.b2
  have := hF.b3
  have := hF.b4
  have := hF.b5
  have := hF.b6
  unfold luciferref05_label.f
  rw [w64 ⟨by omega, by omega⟩, w64 ⟨by omega, by omega⟩]
  rfl
theorem refIsBox_f (a b c d : Int) (l : List S27) (x y : Int) (hx : inI x) (hy : inI y) (hl : l.length ≤ 9223372036854775807) : luciferref05_isBox.f a b c d l x y = some (decide (0 ≤ x) && decide (x ≤ l.length) && (decide (0 ≤ y) && decide (y ≤ l.length)) && (decide (1 ≤ wrap64 (y - x)) && decide (wrap64 (y - x) ≤ d))) := by
  unfold luciferref05_isBox.f
  rw [fits_f, fits_f, fits_f]
  simp only [Option.bind_some]
  cases h1 : (decide (0 ≤ x) && decide (x ≤ (l.length : Int))) <;> cases h2 : (decide (0 ≤ y) && decide (y ≤ (l.length : Int))) <;> simp
theorem refIsBox (a b c d : Int) (l : List S27) (x y : Int) (hx : inI x) (hy : inI y) (hl : l.length ≤ 9223372036854775807) : luciferref05_isBox.f a b c d l x y = some (boxB l.length d x y) := by
  rw [refIsBox_f a b c d l x y hx hy (by omega)]
  congr 1
  rw [Bool.eq_iff_iff, boxB_iff]
  simp only [Bool.and_eq_true, decide_eq_true_eq]
  by_cases h : (0 ≤ x ∧ x ≤ l.length) ∧ (0 ≤ y ∧ y ≤ l.length)
  · rw [w64 (show inI (y - x) from ⟨by omega, by omega⟩)]
    omega
  · constructor
    · rintro ⟨h1, _⟩; exact absurd h1 h
    · intro h2; omega
theorem rd_get (p : List Int) (i : Nat) (hi : i < p.length) : rd p (i : Int) = p[i] := by
  simp [rd, List.getD_eq_getElem?_getD, List.getElem?_eq_getElem hi]
end Go.Proofs.YtbbdbdamedaldaaDoor.PL
end
section
namespace FM
def bitsOf {α : Type} : Nat → List α → List α
  | _, [] => []
  | s, x :: l => if s % 2 = 1 then x :: bitsOf (s / 2) l else bitsOf (s / 2) l
theorem bitsOf_sub {α : Type} : ∀ (l : List α) (s : Nat), (bitsOf s l).Sublist l
  | [], _ => List.Sublist.refl _
  | x :: l, s => by
    unfold bitsOf
    split
    · exact (bitsOf_sub l _).cons_cons x
    · exact (bitsOf_sub l _).cons x
theorem bitsOf_all {α : Type} {t l : List α} (h : t.Sublist l) : ∃ s, s < 2 ^ l.length ∧ bitsOf s l = t := by
  induction h with
  | slnil => exact ⟨0, by simp, rfl⟩
  | @cons t l x _ ih =>
    obtain ⟨s, h1, h2⟩ := ih
    refine ⟨2 * s, by rw [List.length_cons, Nat.pow_succ]; omega, ?_⟩
    unfold bitsOf
    rw [if_neg (by omega), show 2 * s / 2 = s by omega]
    exact h2
  | @cons_cons t l x _ ih =>
    obtain ⟨s, h1, h2⟩ := ih
    refine ⟨2 * s + 1, by rw [List.length_cons, Nat.pow_succ]; omega, ?_⟩
    unfold bitsOf
    rw [if_pos (by omega), show (2 * s + 1) / 2 = s by omega, h2]
theorem bitsOf_map {α β : Type} (f : α → β) : ∀ (l : List α) (s : Nat), bitsOf s (l.map f) = (bitsOf s l).map f
  | [], _ => rfl
  | x :: l, s => by
    simp only [List.map_cons, bitsOf]
    split <;> simp [bitsOf_map f l]
theorem bitsOf_range' : ∀ (n s a : Nat), bitsOf s (List.range' a n) = (List.range' a n).filter fun i => s.testBit (i - a)
  | 0, s, a => by simp [bitsOf]
  | n + 1, s, a => by
    rw [List.range'_succ]
    unfold bitsOf
    rw [bitsOf_range' n (s / 2) (a + 1), List.filter_cons]
    have h0 : s.testBit (a - a) = decide (s % 2 = 1) := by rw [Nat.sub_self, Nat.testBit_zero]
    have h1 : (List.range' (a + 1) n).filter (fun i => (s / 2).testBit (i - (a + 1))) = (List.range' (a + 1) n).filter (fun i => s.testBit (i - a)) := by
      apply List.filter_congr
      intro i hi
      have := List.mem_range'_1.1 hi
      rw [← Nat.testBit_succ]
      congr 1
      omega
    rw [h0, h1]
    by_cases h : s % 2 = 1
    · simp [h]
    · simp [h]
theorem bitsOf_range (n s : Nat) : bitsOf s (List.range n) = (List.range n).filter fun i => s.testBit i := by
  rw [List.range_eq_range', bitsOf_range']
  simp
theorem map_range_getD {α : Type} (d : α) (l : List α) : (List.range l.length).map (fun i => l.getD i d) = l := by
  apply List.ext_getElem
  · simp
  · intro i h1 h2
    simp [List.getD_eq_getElem?_getD, List.getElem?_eq_getElem h2]
theorem bitsOf_getD {α : Type} (d : α) (l : List α) (s : Nat) : bitsOf s l = ((List.range l.length).filter fun i => s.testBit i).map fun i => l.getD i d := by
  rw [← bitsOf_range, ← bitsOf_map, map_range_getD]
end FM
end
section
namespace Go.Proofs.YtbbdbdamedaldaaDoor.PL
open Go Go.RowKit Go.Proofs.YtbbdbdamedaldaaDoorW.PrintWords Fl FM
theorem wraps62 : ∀ n : Int, 0 ≤ n → n < 2 ^ 62 → IntKind.i64.wrap n = n := fun n h0 h1 => by
  rw [IntWalk.i64_left]
  exact IntWalk.wrap64_in _ ⟨by omega, by omega⟩
theorem and_one (x : Int) (h0 : 0 ≤ x) (h1 : x < 2 ^ 62) : Go.bits .and .i64 x 1 = x % 2 := bits_mask .i64 62 (by decide) wraps62 1 (by decide) x h0 h1
theorem in_f (s i : Nat) (hs : s < 1024) (hi : i ≤ 8) : luciferref00_In.f (s : Int) (i : Int) = some (s.testBit i) := by
  unfold luciferref00_In.f shr
  have e : min (i : Int).toNat IntKind.i64.bits = i := by
    have : IntKind.i64.bits = 64 := rfl
    rw [this]
    omega
  have e2 : (s : Int) / 2 ^ i = ((s / 2 ^ i : Nat) : Int) := by
    rw [Int.natCast_ediv]
    simp
  have hle : s / 2 ^ i ≤ s := Nat.div_le_self _ _
  rw [if_pos (by omega), e, e2]
  generalize hx : s / 2 ^ i = x at hle
  rw [and_one _ (by omega) (by omega)]
  congr 1
  rw [Nat.testBit_eq_decide_div_mod_eq, hx]
  rw [Bool.eq_iff_iff]
  simp only [beq_iff_eq, decide_eq_true_eq]
  omega
def markL (s n : Nat) : List Nat := (List.range n).filter fun i => s.testBit i
theorem marks_l0 (s n : Nat) (hs : s < 1024) (hn : n ≤ 8) : ∀ (m i : Nat), i + m = n → Ev (fun k => luciferref00_Marks.l0 k s n ((markL s i).map Int.ofNat) i) ((markL s n).map Int.ofNat)
  | 0, i, h => by
    have e : i = n := by omega
    subst e
    exact Ev.step (f := fun _ => some _) (fun k => by simp only [luciferref00_Marks.l0]; rw [if_neg (by omega)]) (Ev.now _)
  | m + 1, i, h => by
    have hw : wrap64 ((i : Int) + 1) = ((i + 1 : Nat) : Int) := by rw [w64 ⟨by omega, by omega⟩]; omega
    have ih := marks_l0 s n hs hn m (i + 1) (by omega)
    have hsc : (markL s (i + 1)).map Int.ofNat = if s.testBit i = true then (markL s i).map Int.ofNat ++ [(i : Int)] else (markL s i).map Int.ofNat := by
      unfold markL
      rw [List.range_succ, List.filter_append]
      cases hb : s.testBit i <;> simp [hb]
    have hlen : ((markL s i).map Int.ofNat).length ≤ i := by
      rw [List.length_map]
      have := List.length_filter_le (fun i => s.testBit i) (List.range i)
      simpa [markL] using this
    rw [hsc] at ih
    refine Ev.step (f := fun k => luciferref00_Marks.l0 k s n (if s.testBit i = true then (markL s i).map Int.ofNat ++ [(i : Int)] else (markL s i).map Int.ofNat) (i + 1 : Nat)) (fun k => ?_) ih
    simp only [luciferref00_Marks.l0]
    rw [if_pos (by omega), in_f s i hs (by omega), Option.bind_some, hw]
    split
    · rw [if_pos (by omega)]
    · rfl
theorem marks_f (s n : Nat) (hs : s < 1024) (hn : n ≤ 8) : Ev (fun k => luciferref00_Marks.f k s n) ((markL s n).map Int.ofNat) := by
  have := marks_l0 s n hs hn n 0 (by omega)
  unfold luciferref00_Marks.f
  simpa [markL] using this
theorem pick_eq (l : List S27) (s : Nat) : bitsOf s l = (markL s l.length).map fun i => l.getD i z27 := bitsOf_getD z27 l s
theorem mark_lt {s n i : Nat} (h : i ∈ markL s n) : i < n := List.mem_range.1 (List.mem_filter.1 h).1
def okT (a b c : Int) (t : List S27) : Bool := decide (a - b ≤ (t.map (·.f0)).sum) && decide ((t.map (·.f1)).sum ≤ a + c)
def condS (a b c : Int) (l : List S27) (m : Int) (s : Nat) : Bool := !decide (((bitsOf s l).length : Int) = m) || okT a b c (bitsOf s l)
theorem sum_bd2 (f : S27 → Int) (l : List S27) (hb : ∀ s ∈ l, 0 ≤ f s ∧ f s ≤ 200) : 0 ≤ (l.map f).sum ∧ (l.map f).sum ≤ 200 * l.length := by
  induction l with
  | nil => simp
  | cons x l ih =>
    have h1 := hb x List.mem_cons_self
    have h2 := ih (fun s hs => hb s (List.mem_cons_of_mem _ hs))
    rw [List.map_cons, List.sum_cons, List.length_cons]
    omega
theorem any_l1 {a b c d : Int} {l : List S27} (h : checkB a b c d (prs l) = true) (m : Int) (s : Nat) (hs : s < 1024) (R : Bool × Int)
    (hnext : okT a b c (bitsOf s l) = true → Ev (fun k => luciferref05_Any.l0 k m (wrap64 ((s : Int) + 1)) a b c d l) R) (hbad : okT a b c (bitsOf s l) = false → R = (false, 0)) :
    ∀ (n j : Nat), j + n = (bitsOf s l).length → Ev (fun k => luciferref05_Any.l1 k m s ((markL s l.length).map Int.ofNat) j a b c d l (((bitsOf s l).take j).map (·.f0)).sum (((bitsOf s l).take j).map (·.f1)).sum) R
  | 0, j, hj => by
    have hlen : ((markL s l.length).map Int.ofNat).length = (bitsOf s l).length := by rw [pick_eq, List.length_map, List.length_map]
    have e : (bitsOf s l).take j = bitsOf s l := List.take_of_length_le (by omega)
    rw [e]
    cases ho : okT a b c (bitsOf s l) with
    | true =>
      refine Ev.step (f := fun k => luciferref05_Any.l0 k m (wrap64 ((s : Int) + 1)) a b c d l) (fun k => ?_) (hnext ho)
      simp only [luciferref05_Any.l1]
      rw [if_neg (by omega), label_f h, Option.bind_some, wraps_f, Option.bind_some]
      unfold okT at ho
      rw [if_pos ho]
    | false =>
      rw [hbad ho]
      refine Ev.step (f := fun k => some (false, 0)) (fun k => ?_) (Ev.now _)
      simp only [luciferref05_Any.l1]
      rw [if_neg (by omega), label_f h, Option.bind_some, wraps_f, Option.bind_some]
      unfold okT at ho
      rw [if_neg (by rw [ho]; decide)]
  | n + 1, j, hj => by
    obtain ⟨h8, hb⟩ := inB h
    have hlen : ((markL s l.length).map Int.ofNat).length = (bitsOf s l).length := by rw [pick_eq, List.length_map, List.length_map]
    have hlm : (markL s l.length).length = (bitsOf s l).length := by rw [pick_eq, List.length_map]
    have hjl : j < (bitsOf s l).length := by omega
    have hjm : j < (markL s l.length).length := by omega
    have ht8 : (bitsOf s l).length ≤ l.length := (bitsOf_sub l s).length_le
    have hw : wrap64 ((j : Int) + 1) = ((j + 1 : Nat) : Int) := by rw [w64 ⟨by omega, by omega⟩]; omega
    have hmi := mark_lt (List.getElem_mem hjm)
    have hr : rd ((markL s l.length).map Int.ofNat) (j : Int) = (((markL s l.length)[j] : Nat) : Int) := by
      rw [rd_get _ j (by omega)]
      simp
    have hx : (bitsOf s l)[j] = l[(markL s l.length)[j]] := by
      have h2 : (bitsOf s l)[j]? = ((markL s l.length).map fun i => l.getD i z27)[j]? := by rw [← pick_eq]
      rw [List.getElem?_eq_getElem hjl, List.getElem?_map, List.getElem?_eq_getElem hjm] at h2
      have h3 := Option.some.inj h2
      rw [h3]
      show l.getD (markL s l.length)[j] z27 = _
      rw [List.getD_eq_getElem?_getD, List.getElem?_eq_getElem hmi]
      rfl
    have hmem := hb _ (List.getElem_mem hmi)
    have hbt : ∀ s' ∈ (bitsOf s l).take j, (0 ≤ s'.f0 ∧ s'.f0 ≤ 200) ∧ (0 ≤ s'.f1 ∧ s'.f1 ≤ 200) := fun s' hs' => hb s' ((bitsOf_sub l s).subset (List.mem_of_mem_take hs'))
    have b1 := sum_bd2 (·.f0) ((bitsOf s l).take j) (fun s' hs' => (hbt s' hs').1)
    have b2 := sum_bd2 (·.f1) ((bitsOf s l).take j) (fun s' hs' => (hbt s' hs').2)
    rw [List.length_take] at b1 b2
    have ih := any_l1 h m s hs R hnext hbad n (j + 1) (by omega)
    have hs1 : ∀ f : S27 → Int, (((bitsOf s l).take (j + 1)).map f).sum = (((bitsOf s l).take j).map f).sum + f ((bitsOf s l)[j]) := fun f => by
      rw [List.take_add_one, List.getElem?_eq_getElem hjl]
      rw [List.map_append, List.sum_append]
      congr 1
      simp
    rw [hs1, hs1, hx] at ih
    refine Ev.step (f := fun k => luciferref05_Any.l1 k m s ((markL s l.length).map Int.ofNat) (j + 1 : Nat) a b c d l ((((bitsOf s l).take j).map (·.f0)).sum + (l[(markL s l.length)[j]]).f0) ((((bitsOf s l).take j).map (·.f1)).sum + (l[(markL s l.length)[j]]).f1)) (fun k => ?_) ih
    simp only [luciferref05_Any.l1]
    rw [if_pos (by omega), if_pos (by omega), hr, if_pos (by omega), if_pos (by omega), rd27 l _ hmi, hw, w64 ⟨by omega, by omega⟩, w64 ⟨by omega, by omega⟩]
    rfl
theorem any_l0 {a b c d : Int} {l : List S27} (h : checkB a b c d (prs l) = true) (m : Int) : ∀ (n s : Nat), s + n = 2 ^ l.length → Ev (fun k => luciferref05_Any.l0 k m s a b c d l) ((List.range' s n).all (condS a b c l m), 0)
  | 0, s, hs => by
    obtain ⟨h8, _⟩ := inB h
    have hp : 2 ^ l.length ≤ 2 ^ 8 := Nat.pow_le_pow_right (by decide) h8
    have hsh : shl .i64 1 (l.length : Int) = ((2 ^ l.length : Nat) : Int) := by
      unfold shl
      have e : min (l.length : Int).toNat IntKind.i64.bits = l.length := by
        have : IntKind.i64.bits = 64 := rfl
        rw [this]
        omega
      rw [e, Int.one_mul, IntWalk.i64_left]
      have e2 : (2 : Int) ^ l.length = ((2 ^ l.length : Nat) : Int) := by simp
      rw [e2, w64 ⟨by omega, by omega⟩]
    refine Ev.step (f := fun _ => some (true, 0)) (fun k => ?_) (Ev.now _)
    simp only [luciferref05_Any.l0]
    rw [hsh, if_neg (by omega)]
  | n + 1, s, hs => by
    obtain ⟨h8, _⟩ := inB h
    have hp : 2 ^ l.length ≤ 2 ^ 8 := Nat.pow_le_pow_right (by decide) h8
    have hsh : shl .i64 1 (l.length : Int) = ((2 ^ l.length : Nat) : Int) := by
      unfold shl
      have e : min (l.length : Int).toNat IntKind.i64.bits = l.length := by
        have : IntKind.i64.bits = 64 := rfl
        rw [this]
        omega
      rw [e, Int.one_mul, IntWalk.i64_left]
      have e2 : (2 : Int) ^ l.length = ((2 ^ l.length : Nat) : Int) := by simp
      rw [e2, w64 ⟨by omega, by omega⟩]
    have hw : wrap64 ((s : Int) + 1) = ((s + 1 : Nat) : Int) := by rw [w64 ⟨by omega, by omega⟩]; omega
    have ih := any_l0 h m n (s + 1) (by omega)
    have hlm : ((markL s l.length).map Int.ofNat).length = (bitsOf s l).length := by rw [pick_eq, List.length_map, List.length_map]
    rw [List.range'_succ, List.all_cons]
    refine Ev.step (f := fun k => (luciferref00_Marks.f k s l.length).bind fun t => if (t.length : Int) = m then ((luciferref00_Only.f 0).bind fun bt => luciferref05_Any.l1 k m s t 0 a b c d l bt.1 bt.2) else luciferref05_Any.l0 k m (s + 1 : Nat) a b c d l) (fun k => ?_) (Ev.bind (marks_f s l.length (by omega) h8) ?_)
    · simp only [luciferref05_Any.l0]
      rw [hsh, if_pos (by omega), hw]
    · by_cases hm : (((markL s l.length).map Int.ofNat).length : Int) = m
      · simp only [if_pos hm]
        have hm2 : ((bitsOf s l).length : Int) = m := by rw [← hlm]; exact hm
        have hc : condS a b c l m s = okT a b c (bitsOf s l) := by unfold condS; simp [hm2]
        rw [hc]
        have := any_l1 h m s (by omega) (okT a b c (bitsOf s l) && (List.range' (s + 1) n).all (condS a b c l m), 0) (fun ho => by rw [hw, ho, Bool.true_and]; exact ih) (fun ho => by rw [ho, Bool.false_and]) (bitsOf s l).length 0 (by omega)
        simpa [luciferref00_Only.f, luciferref00_Sp.f] using this
      · simp only [if_neg hm]
        have hm2 : ¬ ((bitsOf s l).length : Int) = m := by rw [← hlm]; exact hm
        have hc : condS a b c l m s = true := by unfold condS; simp [hm2]
        rw [hc, Bool.true_and]
        exact ih
theorem any_all {a b c d : Int} {l : List S27} (m : Nat) (hm : m ≤ l.length) : (List.range' 0 (2 ^ l.length)).all (condS a b c l m) = anyB a b c (prs l) m := by
  rw [Bool.eq_iff_iff, anyB_iff a b c (prs l) m (by rw [prs_length]; exact hm), List.all_eq_true]
  have hmap : ∀ t : List S27, (t.map fun x => (x.f0, x.f1)).map (·.1) = t.map (·.f0) ∧ (t.map fun x => (x.f0, x.f1)).map (·.2) = t.map (·.f1) := fun t => by simp
  constructor
  · intro hall t ht hl
    obtain ⟨t', ht', rfl⟩ := List.sublist_map_iff.1 ht
    obtain ⟨s, hs, hb⟩ := bitsOf_all ht'
    have := hall s (by rw [List.mem_range'_1]; omega)
    unfold condS okT at this
    rw [hb] at this
    rw [List.length_map] at hl
    rw [(hmap t').1, (hmap t').2]
    simpa [hl] using this
  · intro hall s _
    unfold condS okT
    by_cases hl : ((bitsOf s l).length : Int) = m
    · have := hall ((bitsOf s l).map fun x => (x.f0, x.f1)) ((bitsOf_sub l s).map _) (by rw [List.length_map]; omega)
      rw [(hmap _).1, (hmap _).2] at this
      simp [hl, this]
    · simp [hl]
theorem refSum2_f (a b c d : Int) (l : List S27) (x y : Int) (ha : inI a) (hs : inS l) (hl : l.length ≤ 9223372036854775807) : Ev (fun k => luciferref05_Sum.f k a b c d l x y) (if checkB a b c d (prs l) = true then (if sumOk l.length x y = true then (sg (lowOf (prs l)) x.toNat y.toNat, sg (highOf (prs l)) x.toNat y.toNat, 0) else (0, 0, 51)) else (0, 0, 50)) := by
  have hask := fun z => refAsked_f a b c d l z ha hs hl
  have hf : ∀ k, luciferref05_Sum.f k a b c d l x y = (luciferref05_asked.f k a b c d l (sumOk l.length x y)).bind fun t => if t = 0 then (luciferref05_sum.f k a b c d l x y).bind fun bt => some (bt.1, bt.2, 0) else some (0, 0, t) := by
    intro k
    unfold luciferref05_Sum.f
    rw [fits_f, Option.bind_some]
    unfold sumOk
    cases h1 : (decide (0 ≤ x) && decide (x ≤ y)) <;> simp
  refine Ev.congr hf (Ev.bind (hask _) ?_)
  cases hck : checkB a b c d (prs l) with
  | false => exact Ev.now _
  | true =>
    cases hok : sumOk l.length x y with
    | false => exact Ev.now _
    | true =>
      simp only [if_true]
      have h3 : 0 ≤ x ∧ x ≤ y ∧ y ≤ l.length := by simpa [sumOk, and_assoc] using hok
      have := refSum_f hck x.toNat y.toNat (by omega) (by omega)
      rw [Int.toNat_of_nonneg h3.1, Int.toNat_of_nonneg (by omega)] at this
      exact Ev.bind this (Ev.now _)
theorem refKind_f (a b c d : Int) (l : List S27) (x y : Int) (ha : inI a) (hs : inS l) (hl : l.length ≤ 9223372036854775807) (hx : inI x) (hy : inI y) : Ev (fun k => luciferref05_Kind.f k a b c d l x y) (if checkB a b c d (prs l) = true then (if boxB l.length d x y = true then (kindOf a b c (sg (lowOf (prs l)) x.toNat y.toNat) (sg (highOf (prs l)) x.toNat y.toNat), 0) else (0, 51)) else (0, 50)) := by
  unfold luciferref05_Kind.f
  rw [refIsBox a b c d l x y hx hy hl]
  simp only [Option.bind_some]
  refine Ev.bind (refAsked_f a b c d l _ ha hs hl) ?_
  cases hck : checkB a b c d (prs l) with
  | false => exact Ev.now _
  | true =>
    cases hok : boxB l.length d x y with
    | false => exact Ev.now _
    | true =>
      simp only [if_true]
      have h3 := (boxB_iff _ _ _ _).1 hok
      have := refSum_f hck x.toNat y.toNat (by omega) (by omega)
      rw [Int.toNat_of_nonneg h3.1, Int.toNat_of_nonneg (by omega)] at this
      refine Ev.bind this ?_
      rw [label_f hck]
      simp only [Option.bind_some]
      unfold kindOf
      split <;> split <;> exact Ev.now _
theorem refAny_f (a b c d : Int) (l : List S27) (m : Int) (ha : inI a) (hs : inS l) (hl : l.length ≤ 9223372036854775807) : Ev (fun k => luciferref05_Any.f k a b c d l m) (if checkB a b c d (prs l) = true then (if anyOk l.length m = true then (anyB a b c (prs l) m.toNat, 0) else (false, 51)) else (false, 50)) := by
  unfold luciferref05_Any.f
  rw [fits_f]
  simp only [Option.bind_some]
  refine Ev.bind (refAsked_f a b c d l _ ha hs hl) ?_
  cases hck : checkB a b c d (prs l) with
  | false => exact Ev.now _
  | true =>
    have he : (decide (1 ≤ m) && decide (m ≤ (l.length : Int))) = anyOk l.length m := rfl
    rw [he]
    cases hok : anyOk l.length m with
    | false => exact Ev.now _
    | true =>
      simp only [if_true]
      have h3 : 1 ≤ m ∧ m ≤ l.length := by simpa [anyOk] using hok
      obtain ⟨mm, rfl⟩ : ∃ mm : Nat, m = mm := ⟨m.toNat, by omega⟩
      have := any_l0 hck (mm : Int) (2 ^ l.length) 0 (by omega)
      rw [any_all (d := d) mm (by omega)] at this
      exact this
theorem pure_FillKinds (a b c d : Int) (l : List S27) (x y m : Int) (ha : inI a) (_ : inI b) (_ : inI c) (_ : inI d) (hs : inS l) (hl : l.length ≤ 9223372036854775807) (hx : inI x) (hy : inI y) (_ : inI m) : Ev (fun k => luciferlaw05_FillKinds.f k a b c d l x y m) true := by
  have h2 : Ev (fun k => luciferlaw05_FillKinds.j1 k false a b c d l x y m) true := by
    refine Ev.step (f := fun k => (fill_Any.f a b c d l m).bind fun u => (luciferref05_Any.f k a b c d l m).bind fun v => if (u.1 == v.1) = true then (if u.2 = v.2 then (luciferlaw05_filled.f.bind fun t => some t) else some false) else some false) (fun k => by simp only [luciferlaw05_FillKinds.j1]; rw [if_neg (by decide)]) ?_
    unfold fill_Any.f
    simp only [Option.bind_some]
    refine Ev.bind (refAny_f a b c d l m ha hs hl) ?_
    simp only [BEq.rfl, if_true]
    exact Ev.now _
  have h1 : Ev (fun k => luciferlaw05_FillKinds.j0 k false a b c d l x y m) true := by
    refine Ev.step (f := fun k => (fill_Kind.f a b c d l x y).bind fun u => (luciferref05_Kind.f k a b c d l x y).bind fun v => if u.1 = v.1 then luciferlaw05_FillKinds.j1 k (u.2 != v.2) a b c d l x y m else luciferlaw05_FillKinds.j1 k true a b c d l x y m) (fun k => by simp only [luciferlaw05_FillKinds.j0]; rw [if_neg (by decide)]) ?_
    unfold fill_Kind.f
    have hy' : -9223372036854775808 ≤ y ∧ y ≤ 9223372036854775807 := hy
    rw [if_pos hy']
    simp only [Option.bind_some]
    refine Ev.bind (refKind_f a b c d l x y ha hs hl hx hy) ?_
    simp only [if_true, bne_self_eq_false]
    exact h2
  unfold luciferlaw05_FillKinds.f fill_Sum.f
  simp only [Option.bind_some]
  refine Ev.bind (refSum2_f a b c d l x y ha hs hl) ?_
  simp only [BEq.rfl, Bool.not_true, Bool.or_self, Bool.false_eq_true, if_false, if_true]
  have hchk : Ev (fun k => fill_Check.f k a b c d l) (errOf (checkB a b c d (prs l))) := by
    have hm : (prs l).map mkS = l := by
      unfold prs
      rw [List.map_map]
      have : (mkS ∘ fun x : S27 => (x.f0, x.f1)) = id := rfl
      rw [this, List.map_id]
    have := check_f a b c d (prs l) (by rw [prs_length]; exact hl)
    rw [hm] at this
    exact Ev.of (g := fun k => fill_Check.f k a b c d l) (fun k => fill_Check.mono a b c d l k) this
  refine Ev.bind hchk (Ev.bind (refCheck_f a b c d l ha hs hl) ?_)
  simp only [bne_self_eq_false]
  exact h1
end Go.Proofs.YtbbdbdamedaldaaDoor.PL
end
section
namespace Go.Proofs.YtbbdbdamedaldaaDoor.RowFillKinds
open Go Go.Proofs.YtbbdbdamedaldaaDoorW.PrintWords Go.ChangeShapes Go.WideShapes Go.ChangeAt Go.RowKit Go.Joins Go.Deep Rw
open Go.ChangeMaps (open_string shut_string)
set_option linter.unusedVariables false
set_option maxRecDepth 100000 in
theorem lifted (os : Os) (started : os.Started) (H : Type) (enc : TypeId × Value → H) :
    ReturnsInHanded {} Tryd.checked os 3 .any (fun w args => (Rows.fillKindsSpec.pre enc Tryd.prog Tryd.f3 [] false w args ∧ laidMetH Tryd.prog laid1 w) ∧ sizedMet enc Tryd.prog Tryd.f3 (OpenSpec.ofChange Rows.fillKindsSpec) false w args)
      (Rows.fillKindsSpec.post enc Tryd.prog Tryd.f3 false true false false) := by
  refine returnsInHanded_of_change_and (C := Tryd.checked) (X := fun w _ => laidMetH Tryd.prog laid1 w) (fun _ _ _ hh h => h.of_heap hh) own started (by kernel_rfl) Tryd.func3
    (ChangeSpec.witness_shaped (enc := enc) (C := Tryd.checked) (os := os) (X := fun w _ => laidMetH Tryd.prog laid1 w) false (World.doorLaid Tryd.prog 600 os) #[.agg #[.int .i64 0, .int .i64 0, .int .i64 0, .int .i64 0, .slice none 0 0], .agg #[.int .i64 0, .int .i64 0, .int .i64 0]] 8 rfl (World.shaped_of_RefB (by kernel_rfl) (by kernel_rfl)) (by kernel_rfl) (by kernel_rfl) (by kernel_rfl) (door_met os _)) ?_
  intro W base args ds gs before hval0 hW _ hsz0 hL _
  have hsz : (DataW.weightsEach Tryd.prog (Tryd.f3.params.toList ++ Rows.fillKindsSpec.plain.varTypes Tryd.prog) (ds ++ gs)).all (· ≤ reachBytes) = true := hsz0
  have hval : ∀ (j : Nat) t v, Tryd.f3.params[j]? = some t → args[j]? = some v → Value.okWide Tryd.prog W .any base t v := hval0
  have hW' := hW
  obtain ⟨p, q, hA0, hV, rfl, hfz, hnd⟩ := hW
  have hA : DataW.TrodAll enc Tryd.prog W 0 (fun _ => true) true Tryd.f3.params.toList args.toList ds p := hA0
  rw [Tryd.params3] at hA hval hsz
  obtain ⟨v0, vs0, d0, ds0, p0, q0, hargs, rfl, rfl, h0, r0⟩ := trodAll_cons hA
  obtain ⟨v1, vs1, d1, ds1, p1, q1, rfl, rfl, rfl, h1, r1⟩ := trodAll_cons r0
  obtain ⟨rfl, rfl, rfl⟩ := trodAll_nil r1
  obtain rfl : args = #[v0, v1] := by cases args; simp_all
  obtain ⟨rfl, rfl⟩ := trodVars_none hV
  have k0 := h0
  have lt0 : ∀ x ∈ p0, x.block < W.heap.size := by obtain ⟨m, hm⟩ := k0; exact DataW.trod_lt m _ _ _ hm
  obtain ⟨a0, b0, c0, e0, A0, cap0, l0, rfl, hl0, hC0, ia0, ib0, ic0, ie0, il0⟩ := book_open (hval 0 24 v0 rfl rfl) h0
  have k1 := h1
  have lt1 : ∀ x ∈ p1, x.block < W.heap.size := by obtain ⟨m, hm⟩ := k1; exact DataW.trod_lt m _ _ _ hm
  obtain ⟨a1_0, a1_1, a1_2, rfl, ia1_0, ia1_1, ia1_2⟩ := arr3_open Tryd.underlying25 (by kernel_rfl) (hval 1 25 v1 rfl rfl) h1
  have z0 : l0.length ≤ 9223372036854775807 := hC0.2.1
  obtain ⟨k, hk⟩ := (PL.pure_FillKinds a0 b0 c0 e0 l0 a1_0 a1_1 a1_2 ia0 ib0 ic0 ie0 il0 z0 ia1_0 ia1_1 ia1_2).rounds
  have hLd := laid_of hL
  clear hA0 hval0 hsz0 hsz hL
  refine (PL.luciferlaw05_FillKinds.calls k a0 b0 c0 e0 A0 cap0 l0 a1_0 a1_1 a1_2 true W hLd hC0 hl0 hk).mono fun e W' ⟨he, bel⟩ => ?_
  subst he
  exact ⟨_, rfl, _, _, _, [], _, [], hW', trodAll_mk1 (shut_bool Tryd.underlying4 _), (trodAll_cons_mk (Below.trod laidOut (by kernel_rfl) (of_decide_eq_true (by kernel_rfl)) k0 bel lt0) (trodAll_cons_mk (Below.trod laidOut (by kernel_rfl) (of_decide_eq_true (by kernel_rfl)) k1 bel lt1) trodAll_mk0)), rfl, bel.frame _, fun h => by cases h⟩
theorem over : Rows.fillKindsRow.holds Tryd.pinned (OpenSpec.ofChange Rows.fillKindsSpec) :=
  OpenClaim.holds_of_wide 3 Tryd.f3 rfl rfl rfl rfl rfl rfl rfl ⟨rfl, rfl, rfl, rfl, rfl⟩ rfl rfl rfl rfl rfl (by kernel_rfl) Tryd.func3 (by kernel_rfl)
    (of_decide_eq_true (by kernel_rfl)) (by unfold Func.isWrapper; first | (rw [if_pos (by decide +kernel)]; kernel_rfl) | (rw [if_neg (by decide +kernel)]; exact ⟨rfl, rfl⟩))
    (fun os started H enc _ => lifted os started H enc)
theorem proved : Rows.FillKindsSaid := over
end Go.Proofs.YtbbdbdamedaldaaDoor.RowFillKinds
end
