/- The card of FillAsk: the row, its listed variable tied to the program's text. Whatever the input, the law returns true, and each argument reads afterwards as it did. (part 9) -/
import Derived.Test.YtbbdbdamedaldaaDoorAsk7
set_option linter.unusedVariables false
set_option linter.unusedSimpArgs false
section
namespace Go.Proofs.YtbbdbdamedaldaaDoor.PL
open Go Go.RowKit Go.Proofs.YtbbdbdamedaldaaDoorW.PrintWords Fl
def prs (l : List S27) : List (Int × Int) := l.map fun x => (x.f0, x.f1)
theorem prs_length (l : List S27) : (prs l).length = l.length := by simp [prs]
def wfB (p : List Int) : Bool := p.all fun x => decide (-9223372036854775808 ≤ x) && decide (x ≤ 9223372036854775807)
theorem wfB_iff (p : List Int) : wfB p = true ↔ wfL p := by
  simp [wfB, wfL, List.all_eq_true]
def planB (m gr : Int) (p : List Int) : Bool := ((List.range p.length).all fun i => boxB m gr (prev p i) (p.getD i 0)) && decide (prev p p.length = m)
theorem planB_iff (m gr : Int) (p : List Int) : planB m gr p = true ↔ planP m gr p := by
  unfold planB planP okTo
  simp only [Bool.and_eq_true, List.all_eq_true, List.mem_range, decide_eq_true_eq]
theorem rd_of {w : World} {A : Option Addr} {l : List S27} (h : Kd.C k27 w A l.length l) : RdH w A (prs l) := by
  intro hp
  rw [hcells_length, prs_length] at hp
  obtain ⟨ad, e, hc⟩ := h.2.2 (by omega)
  refine ⟨ad, e, fun j v hj => ?_⟩
  have hjl : j < 2 * l.length := by
    have := (List.getElem?_eq_some_iff.1 hj).1
    rw [hcells_length, prs_length] at this
    omega
  have hk : j / 2 < l.length := by omega
  obtain ⟨c, _, hK, hcell⟩ := hc (j / 2) _ (List.getElem?_eq_getElem hk)
  have hcs := k27_open hK
  subst hcs
  obtain ⟨h1, h2⟩ := hcells_at (prs l) (j / 2) (by rw [prs_length]; exact hk)
  have e1 : ((prs l).getD (j / 2) (0, 0)).1 = (l[j / 2]'hk).f0 := by simp [prs, List.getD_eq_getElem?_getD, List.getElem?_eq_getElem hk]
  have e2 : ((prs l).getD (j / 2) (0, 0)).2 = (l[j / 2]'hk).f1 := by simp [prs, List.getD_eq_getElem?_getD, List.getElem?_eq_getElem hk]
  rcases Nat.mod_two_eq_zero_or_one j with hm | hm
  · have ej : j = 2 * (j / 2) := by omega
    rw [ej, h1] at hj
    cases hj
    have := hcell 0 _ rfl
    rw [show j / 2 * k27.sz + 0 = j by show j / 2 * 2 + 0 = j; omega] at this
    rw [this, e1]
  · have ej : j = 2 * (j / 2) + 1 := by omega
    rw [ej, h2] at hj
    cases hj
    have := hcell 1 _ rfl
    rw [show j / 2 * k27.sz + 1 = j by show j / 2 * 2 + 1 = j; omega] at this
    rw [this, e2]
theorem rdi_of {w : World} {A : Option Addr} {l : List Int} (h : Kd.C (Kd.int .i64) w A l.length l) : RdI w A l := by
  refine ⟨h.2.1, fun j hj => ?_⟩
  obtain ⟨ad, e, hc⟩ := h.2.2 (by omega)
  obtain ⟨c, _, hK, hcell⟩ := hc j _ (List.getElem?_eq_getElem hj)
  refine ⟨ad, e, ?_⟩
  have hcs : c = [.int .i64 l[j]] := hK
  subst hcs
  have := hcell 0 _ rfl
  rw [show j * (Kd.int .i64).sz + 0 = j by show j * 1 + 0 = j; omega] at this
  rw [this]
  simp [List.getD_eq_getElem?_getD, List.getElem?_eq_getElem hj]
theorem v_of {w' : World} {base : Nat} {v : Value} {xs : List Int} (h : ShI w' base v xs) : Kd.V (Kd.int .i64) 3 w' base (fun k_ => base ≤ k_) v xs := by
  obtain ⟨⟨A, c, rfl, hc, hr⟩, hl⟩ := h
  refine Kd.V_mk hc (fun W hW => ⟨rfl, by omega, fun hp => ?_⟩)
  obtain ⟨g, hg, rfl, hcell⟩ := hr hp
  refine ⟨_, rfl, fun j p hj => ⟨[.int .i64 p], rfl, rfl, fun i u hu => ?_⟩⟩
  have hjl := (List.getElem?_eq_some_iff.1 hj).1
  have h0 := hcell j hjl
  have hlt := World.block_lt_of_cell? w' _ h0
  have hb : W.heap[g]? = w'.heap[g]? := hW g hg hlt
  have hp2 : xs.getD j 0 = p := by simp [List.getD_eq_getElem?_getD, hj]
  match i, hu with
  | 0, hu =>
    cases hu
    have ha : (⟨g, 0, none⟩ : Addr).add (j * (Kd.int .i64).sz + 0) = ⟨g, j, none⟩ := by
      rw [show j * (Kd.int .i64).sz + 0 = j by show j * 1 + 0 = j; omega]
      unfold Addr.add; split <;> simp_all
    rw [ha, World.cell?_of_block (w := w') hb, h0, hp2]
def fill_Sum.f (a b c d : Int) (l : List S27) (x y : Int) : Option (Int × Int × Int) :=
  some (if checkB a b c d (prs l) = true then (if sumOk l.length x y = true then (sg (lowOf (prs l)) x.toNat y.toNat, sg (highOf (prs l)) x.toNat y.toNat, 0) else (0, 0, 51)) else (0, 0, 50))
def fill_Kind.f (a b c d : Int) (l : List S27) (x y : Int) : Option (Int × Int) :=
  if -9223372036854775808 ≤ y ∧ y ≤ 9223372036854775807 then some (if checkB a b c d (prs l) = true then (if boxB l.length d x y = true then (kindOf a b c (sg (lowOf (prs l)) x.toNat y.toNat) (sg (highOf (prs l)) x.toNat y.toNat), 0) else (0, 51)) else (0, 50)) else none
def fill_Any.f (a b c d : Int) (l : List S27) (m : Int) : Option (Bool × Int) :=
  some (if checkB a b c d (prs l) = true then (if anyOk l.length m = true then (anyB a b c (prs l) m.toNat, 0) else (false, 51)) else (false, 50))
def fill_IsPlan.f (a b c d : Int) (l : List S27) (p : List Int) : Option (Bool × Int) :=
  if wfB p = true then some (if checkB a b c d (prs l) = true then (planB l.length d p, 0) else (false, 50)) else none
def fill_ByHand.f (a b c d : Int) (l : List S27) (p : List Int) : Option (List Int × Int) :=
  if wfB p = true then some (if checkB a b c d (prs l) = true then (if planB l.length d p = true then (handL a b c (prs l) p, 0) else ([], 51)) else ([], 50)) else none
def fill_Over.f (a b c d : Int) (l : List S27) (p : List Int) : Option (Int × Int × Int) :=
  if wfB p = true then some (if checkB a b c d (prs l) = true then (if planB l.length d p = true then ((overTo a b c (lowOf (prs l)) (highOf (prs l)) (boxesOf p) p.length).1, (overTo a b c (lowOf (prs l)) (highOf (prs l)) (boxesOf p) p.length).2, 0) else (0, 0, 51)) else (0, 0, 50)) else none
def fill_Best.f (a b c d : Int) (l : List S27) : Option (List Int × Int) := some (if checkB a b c d (prs l) = true then (bestPlan a b c d (prs l), 0) else ([], 50))
def fill_Boxes.f (a b c d : Int) (l : List S27) : Option (Int × Int) := some (if checkB a b c d (prs l) = true then (mostBoxes a b c d (prs l), 0) else (0, 50))
def fill_Ask.f (a b c d : Int) (l : List S27) : Option (Int × Int) := some (if checkB a b c d (prs l) = true then (if l.length = 0 then (0, 4) else ((askTo a b c d (prs l) l.length).1, 0)) else (0, 50))
theorem fill_Sum.calls (a b c d : Int) (A : Option Addr) (cap : Nat) (l : List S27) (x y r1 r2 r3 : Int) (w : World) (hLd : Laid w) (hr : Kd.C k27 w A l.length l) (hc : l.length ≤ cap) (h : fill_Sum.f a b c d l x y = some (r1, r2, r3)) :
    Calls Tryd.prog 15 #[.agg #[.int .i64 a, .int .i64 b, .int .i64 c, .int .i64 d, .slice A l.length cap], .int .i64 x, .int .i64 y] w fun e w' => e = .returned (.tuple #[.agg #[.int .i64 r1, .int .i64 r2], .int .i64 r3]) ∧ Below w.heap.size w w' := by
  have h' := Option.some.inj h
  refine (apiSum_calls a b c d A l.length cap (prs l) (prs_length l).symm (by rw [prs_length]; exact hc) (by rw [prs_length]; exact hr.2.1) x y w (rd_of hr) hLd).mono ?_
  rintro e w' ⟨hb, h1, h2, h3⟩
  rw [prs_length] at h2 h3
  cases hck : checkB a b c d (prs l) with
  | false => rw [hck] at h'; cases h'; exact ⟨h1 hck, hb⟩
  | true =>
    rw [hck] at h'
    cases hok : sumOk l.length x y with
    | false => rw [hok] at h'; cases h'; exact ⟨h2 hck hok, hb⟩
    | true => rw [hok] at h'; cases h'; exact ⟨h3 hck hok, hb⟩
theorem fill_Kind.calls (a b c d : Int) (A : Option Addr) (cap : Nat) (l : List S27) (x y r1 r2 : Int) (w : World) (hLd : Laid w) (hr : Kd.C k27 w A l.length l) (hc : l.length ≤ cap) (h : fill_Kind.f a b c d l x y = some (r1, r2)) :
    Calls Tryd.prog 19 #[.agg #[.int .i64 a, .int .i64 b, .int .i64 c, .int .i64 d, .slice A l.length cap], .int .i64 x, .int .i64 y] w fun e w' => e = .returned (.tuple #[.int .i64 r1, .int .i64 r2]) ∧ Below w.heap.size w w' := by
  unfold fill_Kind.f at h
  by_cases hy : -9223372036854775808 ≤ y ∧ y ≤ 9223372036854775807
  case neg => rw [if_neg hy] at h; cases h
  rw [if_pos hy] at h
  have h' := Option.some.inj h
  refine (apiKind_calls a b c d A l.length cap (prs l) (prs_length l).symm (by rw [prs_length]; exact hc) (by rw [prs_length]; exact hr.2.1) x y hy w (rd_of hr) hLd).mono ?_
  rintro e w' ⟨hb, h1, h2, h3⟩
  rw [prs_length] at h2 h3
  cases hck : checkB a b c d (prs l) with
  | false => rw [hck] at h'; cases h'; exact ⟨h1 hck, hb⟩
  | true =>
    rw [hck] at h'
    cases hok : boxB l.length d x y with
    | false => rw [hok] at h'; cases h'; exact ⟨h2 hck hok, hb⟩
    | true => rw [hok] at h'; cases h'; exact ⟨h3 hck hok, hb⟩
theorem fill_Any.calls (a b c d : Int) (A : Option Addr) (cap : Nat) (l : List S27) (m : Int) (r1 : Bool) (r2 : Int) (w : World) (hr : Kd.C k27 w A l.length l) (hc : l.length ≤ cap) (h : fill_Any.f a b c d l m = some (r1, r2)) :
    Calls Tryd.prog 21 #[.agg #[.int .i64 a, .int .i64 b, .int .i64 c, .int .i64 d, .slice A l.length cap], .int .i64 m] w fun e w' => e = .returned (.tuple #[.bool r1, .int .i64 r2]) ∧ Below w.heap.size w w' := by
  have h' := Option.some.inj h
  refine (apiAny_calls a b c d A l.length cap (prs l) (prs_length l).symm (by rw [prs_length]; exact hc) (by rw [prs_length]; exact hr.2.1) m w (rd_of hr)).mono ?_
  rintro e w' ⟨hb, h1, h2, h3⟩
  rw [prs_length] at h2 h3
  cases hck : checkB a b c d (prs l) with
  | false => rw [hck] at h'; cases h'; exact ⟨h1 hck, hb⟩
  | true =>
    rw [hck] at h'
    cases hok : anyOk l.length m with
    | false => rw [hok] at h'; cases h'; exact ⟨h2 hck hok, hb⟩
    | true => rw [hok] at h'; cases h'; exact ⟨h3 hck hok, hb⟩
theorem fill_IsPlan.calls (a b c d : Int) (A : Option Addr) (cap : Nat) (l : List S27) (A1 : Option Addr) (c1 : Nat) (p : List Int) (r1 : Bool) (r2 : Int) (w : World) (hr : Kd.C k27 w A l.length l) (hc : l.length ≤ cap) (hr1 : Kd.C (Kd.int .i64) w A1 p.length p) (hc1 : p.length ≤ c1)
    (h : fill_IsPlan.f a b c d l p = some (r1, r2)) :
    Calls Tryd.prog 24 #[.agg #[.int .i64 a, .int .i64 b, .int .i64 c, .int .i64 d, .slice A l.length cap], .slice A1 p.length c1] w fun e w' => e = .returned (.tuple #[.bool r1, .int .i64 r2]) ∧ Below w.heap.size w w' := by
  unfold fill_IsPlan.f at h
  by_cases hy : wfB p = true
  case neg => rw [if_neg hy] at h; cases h
  rw [if_pos hy] at h
  have h' := Option.some.inj h
  refine (isPlan_calls a b c d A l.length cap (prs l) (prs_length l).symm (by rw [prs_length]; exact hc) (by rw [prs_length]; exact hr.2.1) A1 p.length c1 p rfl w (rd_of hr) (rdi_of hr1) ((wfB_iff p).1 hy)).mono ?_
  rintro e w' ⟨hb, h1, h2⟩
  rw [prs_length] at h2
  cases hck : checkB a b c d (prs l) with
  | false => rw [hck] at h'; cases h'; exact ⟨h1 hck, hb⟩
  | true =>
    rw [hck] at h'
    obtain ⟨bb, hbb, he⟩ := h2 hck
    have e1 : bb = planB l.length d p := by rw [Bool.eq_iff_iff, hbb, planB_iff]
    cases h'
    exact ⟨by rw [he, e1], hb⟩
theorem fill_ByHand.calls (a b c d : Int) (A : Option Addr) (cap : Nat) (l : List S27) (A1 : Option Addr) (c1 : Nat) (p : List Int) (r1 : List Int) (r2 : Int) (w : World) (hLd : Laid w) (hr : Kd.C k27 w A l.length l) (hc : l.length ≤ cap) (hr1 : Kd.C (Kd.int .i64) w A1 p.length p) (hc1 : p.length ≤ c1)
    (h : fill_ByHand.f a b c d l p = some (r1, r2)) :
    Calls Tryd.prog 26 #[.agg #[.int .i64 a, .int .i64 b, .int .i64 c, .int .i64 d, .slice A l.length cap], .slice A1 p.length c1] w fun e w' => ∃ v0_ : Value, e = .returned (.tuple #[v0_, .int .i64 r2]) ∧ Kd.V (Kd.int .i64) 3 w' w.heap.size (fun k_ => w.heap.size ≤ k_) v0_ r1 ∧ Below w.heap.size w w' := by
  unfold fill_ByHand.f at h
  by_cases hy : wfB p = true
  case neg => rw [if_neg hy] at h; cases h
  rw [if_pos hy] at h
  have h' := Option.some.inj h
  refine (apiByHand_calls a b c d A l.length cap (prs l) (prs_length l).symm (by rw [prs_length]; exact hc) (by rw [prs_length]; exact hr.2.1) A1 p.length c1 p rfl w (rd_of hr) (rdi_of hr1) ((wfB_iff p).1 hy) hLd).mono ?_
  rintro e w' ⟨hb, h1, h2, h3⟩
  rw [prs_length] at h2 h3
  cases hck : checkB a b c d (prs l) with
  | false => rw [hck] at h'; cases h'; exact ⟨_, h1 hck, Kd.V_nil _ _ _ _ _, hb⟩
  | true =>
    rw [hck] at h'
    cases hok : planB l.length d p with
    | false => rw [hok] at h'; cases h'; exact ⟨_, h2 hck (fun hp => by rw [(planB_iff _ _ _).2 hp] at hok; cases hok), Kd.V_nil _ _ _ _ _, hb⟩
    | true =>
      rw [hok] at h'
      cases h'
      obtain ⟨v, he, hv⟩ := h3 hck ((planB_iff _ _ _).1 hok)
      exact ⟨v, he, v_of hv, hb⟩
theorem fill_Over.calls (a b c d : Int) (A : Option Addr) (cap : Nat) (l : List S27) (A1 : Option Addr) (c1 : Nat) (p : List Int) (r1 r2 r3 : Int) (w : World) (hLd : Laid w) (hr : Kd.C k27 w A l.length l) (hc : l.length ≤ cap) (hr1 : Kd.C (Kd.int .i64) w A1 p.length p) (hc1 : p.length ≤ c1)
    (h : fill_Over.f a b c d l p = some (r1, r2, r3)) :
    Calls Tryd.prog 29 #[.agg #[.int .i64 a, .int .i64 b, .int .i64 c, .int .i64 d, .slice A l.length cap], .slice A1 p.length c1] w fun e w' => e = .returned (.tuple #[.agg #[.int .i64 r1, .int .i64 r2], .int .i64 r3]) ∧ Below w.heap.size w w' := by
  unfold fill_Over.f at h
  by_cases hy : wfB p = true
  case neg => rw [if_neg hy] at h; cases h
  rw [if_pos hy] at h
  have h' := Option.some.inj h
  refine (apiOver_calls a b c d A l.length cap (prs l) (prs_length l).symm (by rw [prs_length]; exact hc) (by rw [prs_length]; exact hr.2.1) A1 p.length c1 p rfl w (rd_of hr) (rdi_of hr1) ((wfB_iff p).1 hy) hLd).mono ?_
  rintro e w' ⟨hb, h1, h2, h3⟩
  rw [prs_length] at h2 h3
  cases hck : checkB a b c d (prs l) with
  | false => rw [hck] at h'; cases h'; exact ⟨h1 hck, hb⟩
  | true =>
    rw [hck] at h'
    cases hok : planB l.length d p with
    | false => rw [hok] at h'; cases h'; exact ⟨h2 hck (fun hp => by rw [(planB_iff _ _ _).2 hp] at hok; cases hok), hb⟩
    | true => rw [hok] at h'; cases h'; exact ⟨h3 hck ((planB_iff _ _ _).1 hok), hb⟩
theorem fill_Best.calls (a b c d : Int) (A : Option Addr) (cap : Nat) (l : List S27) (r1 : List Int) (r2 : Int) (w : World) (hLd : Laid w) (hr : Kd.C k27 w A l.length l) (hc : l.length ≤ cap) (h : fill_Best.f a b c d l = some (r1, r2)) :
    Calls Tryd.prog 31 #[.agg #[.int .i64 a, .int .i64 b, .int .i64 c, .int .i64 d, .slice A l.length cap]] w fun e w' => ∃ v0_ : Value, e = .returned (.tuple #[v0_, .int .i64 r2]) ∧ Kd.V (Kd.int .i64) 3 w' w.heap.size (fun k_ => w.heap.size ≤ k_) v0_ r1 ∧ Below w.heap.size w w' := by
  have h' := Option.some.inj h
  refine (apiBest_calls a b c d A l.length cap (prs l) (prs_length l).symm (by rw [prs_length]; exact hc) (by rw [prs_length]; exact hr.2.1) w (rd_of hr) hLd).mono ?_
  rintro e w' ⟨hb, h1, h2⟩
  cases hck : checkB a b c d (prs l) with
  | false => rw [hck] at h'; cases h'; exact ⟨_, h1 hck, Kd.V_nil _ _ _ _ _, hb⟩
  | true =>
    rw [hck] at h'
    cases h'
    obtain ⟨v, he, hv⟩ := h2 hck
    exact ⟨v, he, v_of hv, hb⟩
theorem fill_Boxes.calls (a b c d : Int) (A : Option Addr) (cap : Nat) (l : List S27) (r1 r2 : Int) (w : World) (hLd : Laid w) (hr : Kd.C k27 w A l.length l) (hc : l.length ≤ cap) (h : fill_Boxes.f a b c d l = some (r1, r2)) :
    Calls Tryd.prog 33 #[.agg #[.int .i64 a, .int .i64 b, .int .i64 c, .int .i64 d, .slice A l.length cap]] w fun e w' => e = .returned (.tuple #[.int .i64 r1, .int .i64 r2]) ∧ Below w.heap.size w w' := by
  have h' := Option.some.inj h
  refine (apiBoxes_calls a b c d A l.length cap (prs l) (prs_length l).symm (by rw [prs_length]; exact hc) (by rw [prs_length]; exact hr.2.1) w (rd_of hr) hLd).mono ?_
  rintro e w' ⟨hb, h1, h2⟩
  cases hck : checkB a b c d (prs l) with
  | false => rw [hck] at h'; cases h'; exact ⟨h1 hck, hb⟩
  | true => rw [hck] at h'; cases h'; exact ⟨h2 hck, hb⟩
theorem fill_Ask.calls (a b c d : Int) (A : Option Addr) (cap : Nat) (l : List S27) (r1 r2 : Int) (w : World) (hLd : Laid w) (hr : Kd.C k27 w A l.length l) (hc : l.length ≤ cap) (h : fill_Ask.f a b c d l = some (r1, r2)) :
    Calls Tryd.prog 35 #[.agg #[.int .i64 a, .int .i64 b, .int .i64 c, .int .i64 d, .slice A l.length cap]] w fun e w' => e = .returned (.tuple #[.int .i64 r1, .int .i64 r2]) ∧ Below w.heap.size w w' := by
  have h' := Option.some.inj h
  refine (apiAsk_calls a b c d A l.length cap (prs l) (prs_length l).symm (by rw [prs_length]; exact hc) (by rw [prs_length]; exact hr.2.1) w (rd_of hr) hLd).mono ?_
  rintro e w' ⟨hb, h1, h2, h3⟩
  rw [prs_length] at h3
  cases hck : checkB a b c d (prs l) with
  | false => rw [hck] at h'; cases h'; exact ⟨h1 hck, hb⟩
  | true =>
    rw [hck] at h'
    by_cases hl : l.length = 0
    · rw [if_pos hl] at h'
      cases h'
      exact ⟨h2 hck (List.eq_nil_of_length_eq_zero (by rw [prs_length]; exact hl)), hb⟩
    · rw [if_neg hl] at h'
      cases h'
      exact ⟨h3 hck (fun he => hl (by rw [← prs_length, he]; rfl)), hb⟩
end Go.Proofs.YtbbdbdamedaldaaDoor.PL
end
section
namespace Go.Proofs.YtbbdbdamedaldaaDoor.PL
open Go Go.RowKit Go.Proofs.YtbbdbdamedaldaaDoorW.PrintWords Fl
def bookL : List S27 := [⟨24, 26⟩, ⟨24, 26⟩, ⟨16, 18⟩, ⟨16, 17⟩, ⟨15, 18⟩, ⟨49, 52⟩, ⟨20, 30⟩]
def evenL : List S27 := [⟨24, 26⟩, ⟨23, 26⟩, ⟨24, 27⟩, ⟨25, 25⟩]
def betweenL : List S27 := [⟨30, 30⟩, ⟨17, 27⟩, ⟨25, 25⟩]
theorem book_f : luciferlaw05_book.f = some (50, 2, 3, 3, bookL) := rfl
theorem even_f : luciferlaw05_even.f = some (50, 4, 4, 2, evenL) := rfl
theorem between_f : luciferlaw05_between.f = some (50, 3, 3, 2, betweenL) := rfl
theorem x_sum : fill_Sum.f 50 2 3 3 bookL 2 5 = some (47, 53, 0) := by decide +kernel
theorem x_kind : fill_Kind.f 50 2 3 3 bookL 5 7 = some (2, 0) := by decide +kernel
theorem x_byHand : fill_ByHand.f 50 2 3 3 bookL [2, 5, 6, 7] = some ([1, 3], 0) := by decide +kernel
theorem x_over : fill_Over.f 50 2 3 3 bookL [2, 5, 6, 7] = some (-3, 4, 0) := by decide +kernel
theorem x_best : fill_Best.f 50 2 3 3 bookL = some ([2, 5, 6, 7], 0) := by decide +kernel
theorem x_best2 : fill_Best.f 50 3 3 2 betweenL = some ([1, 3], 0) := by decide +kernel
theorem x_boxes : fill_Boxes.f 50 2 3 3 bookL = some (2, 0) := by decide +kernel
theorem x_ask : fill_Ask.f 50 3 3 2 betweenL = some (1, 0) := by decide +kernel
theorem x_isPlan : fill_IsPlan.f 50 2 3 3 bookL [2, 5, 6, 7] = some (true, 0) := by decide +kernel
theorem srt1 : srt [24, 23, 24, 25] = [23, 24, 24, 25] := by simp [srt, List.mergeSort, List.MergeSort.Internal.splitInTwo]
theorem srt2 : srt [26, 26, 27, 25] = [25, 26, 26, 27] := by simp [srt, List.mergeSort, List.MergeSort.Internal.splitInTwo]
theorem x_any : fill_Any.f 50 4 4 2 evenL 2 = some (true, 0) := by
  have h1 : anyB 50 4 4 (prs evenL) 2 = true := by
    unfold anyB
    rw [show (prs evenL).map (·.1) = [24, 23, 24, 25] from rfl, show (prs evenL).map (·.2) = [26, 26, 27, 25] from rfl, srt1, srt2]
    decide
  unfold fill_Any.f
  rw [if_pos (by decide +kernel), if_pos (by decide +kernel)]
  show some (anyB 50 4 4 (prs evenL) 2, (0 : Int)) = _
  rw [h1]
def Made (w : World) (pr le mo gr : Int) (l : List S27) (n : Nat) (e : Ending) (w' : World) : Prop := ∃ A c, e = .returned (.agg #[.int .i64 pr, .int .i64 le, .int .i64 mo, .int .i64 gr, .slice A n c]) ∧ Kd.C k27 w' A n l ∧ n ≤ c ∧ Below w.heap.size w w'
theorem c_book (w : World) : Calls Tryd.prog 57 #[] w (Made w 50 2 3 3 bookL 7) := by
  refine (luciferlaw05_book.calls 50 2 3 3 bookL w book_f).mono ?_
  rintro e w' ⟨v, rfl, hR, hb⟩
  obtain ⟨A, c, rfl⟩ := Kd.R_slice hR
  exact ⟨A, c, rfl, (Kd.R_reads' hR).2.2, (Kd.R_reads' hR).2.1, hb⟩
theorem c_even (w : World) : Calls Tryd.prog 58 #[] w (Made w 50 4 4 2 evenL 4) := by
  refine (luciferlaw05_even.calls 50 4 4 2 evenL w even_f).mono ?_
  rintro e w' ⟨v, rfl, hR, hb⟩
  obtain ⟨A, c, rfl⟩ := Kd.R_slice hR
  exact ⟨A, c, rfl, (Kd.R_reads' hR).2.2, (Kd.R_reads' hR).2.1, hb⟩
theorem c_between (w : World) : Calls Tryd.prog 59 #[] w (Made w 50 3 3 2 betweenL 3) := by
  refine (luciferlaw05_between.calls 50 3 3 2 betweenL w between_f).mono ?_
  rintro e w' ⟨v, rfl, hR, hb⟩
  obtain ⟨A, c, rfl⟩ := Kd.R_slice hR
  exact ⟨A, c, rfl, (Kd.R_reads' hR).2.2, (Kd.R_reads' hR).2.1, hb⟩
def Told (w : World) (v : Value) (e : Ending) (w' : World) : Prop := e = .returned v ∧ Below w.heap.size w w'
def ToldL (w : World) (xs : List Int) (n : Nat) (e : Ending) (w' : World) : Prop := ∃ A c, e = .returned (.tuple #[.slice A n c, .int .i64 0]) ∧ Kd.C (Kd.int .i64) w' A n xs ∧ n ≤ c ∧ Below w.heap.size w w'
theorem toldL_of {w w' : World} {xs : List Int} {e : Ending} {v : Value} (he : e = .returned (.tuple #[v, .int .i64 0])) (hV : Kd.V (Kd.int .i64) 3 w' w.heap.size (fun k_ => w.heap.size ≤ k_) v xs) (hb : Below w.heap.size w w') : ToldL w xs xs.length e w' := by
  obtain ⟨A, c, rfl⟩ := Kd.V_slice hV
  exact ⟨A, c, he, (Kd.V_reads' hV).2.2, (Kd.V_reads' hV).2.1, hb⟩
theorem c_sum (A : Option Addr) (c : Nat) (w : World) (hL : Laid w) (hr : Kd.C k27 w A 7 bookL) (hc : 7 ≤ c) : Calls Tryd.prog 15 #[(.agg #[.int .i64 50, .int .i64 2, .int .i64 3, .int .i64 3, .slice A 7 c]), .int .i64 2, .int .i64 5] w (Told w (.tuple #[.agg #[.int .i64 47, .int .i64 53], .int .i64 0])) :=
  fill_Sum.calls 50 2 3 3 A c bookL 2 5 47 53 0 w hL hr hc x_sum
theorem c_kind (A : Option Addr) (c : Nat) (w : World) (hL : Laid w) (hr : Kd.C k27 w A 7 bookL) (hc : 7 ≤ c) : Calls Tryd.prog 19 #[(.agg #[.int .i64 50, .int .i64 2, .int .i64 3, .int .i64 3, .slice A 7 c]), .int .i64 5, .int .i64 7] w (Told w (.tuple #[.int .i64 2, .int .i64 0])) :=
  fill_Kind.calls 50 2 3 3 A c bookL 5 7 2 0 w hL hr hc x_kind
theorem c_any (A : Option Addr) (c : Nat) (w : World) (hr : Kd.C k27 w A 4 evenL) (hc : 4 ≤ c) : Calls Tryd.prog 21 #[(.agg #[.int .i64 50, .int .i64 4, .int .i64 4, .int .i64 2, .slice A 4 c]), .int .i64 2] w (Told w (.tuple #[.bool true, .int .i64 0])) :=
  fill_Any.calls 50 4 4 2 A c evenL 2 true 0 w hr hc x_any
theorem c_byHand (A : Option Addr) (c : Nat) (w : World) (hL : Laid w) (hr : Kd.C k27 w A 7 bookL) (hc : 7 ≤ c) (A1 : Option Addr) (c1 : Nat) (hp : Kd.C (Kd.int .i64) w A1 4 [2, 5, 6, 7]) (hc1 : 4 ≤ c1) : Calls Tryd.prog 26 #[(.agg #[.int .i64 50, .int .i64 2, .int .i64 3, .int .i64 3, .slice A 7 c]), .slice A1 4 c1] w (ToldL w [1, 3] 2) := by
  refine (fill_ByHand.calls 50 2 3 3 A c bookL A1 c1 [2, 5, 6, 7] [1, 3] 0 w hL hr hc hp hc1 x_byHand).mono ?_
  rintro e w' ⟨v, he, hV, hb⟩
  exact toldL_of he hV hb
theorem c_over (A : Option Addr) (c : Nat) (w : World) (hL : Laid w) (hr : Kd.C k27 w A 7 bookL) (hc : 7 ≤ c) (A1 : Option Addr) (c1 : Nat) (hp : Kd.C (Kd.int .i64) w A1 4 [2, 5, 6, 7]) (hc1 : 4 ≤ c1) : Calls Tryd.prog 29 #[(.agg #[.int .i64 50, .int .i64 2, .int .i64 3, .int .i64 3, .slice A 7 c]), .slice A1 4 c1] w (Told w (.tuple #[.agg #[.int .i64 (-3), .int .i64 4], .int .i64 0])) :=
  fill_Over.calls 50 2 3 3 A c bookL A1 c1 [2, 5, 6, 7] (-3) 4 0 w hL hr hc hp hc1 x_over
theorem c_isPlan (A : Option Addr) (c : Nat) (w : World) (hr : Kd.C k27 w A 7 bookL) (hc : 7 ≤ c) (A1 : Option Addr) (c1 : Nat) (hp : Kd.C (Kd.int .i64) w A1 4 [2, 5, 6, 7]) (hc1 : 4 ≤ c1) : Calls Tryd.prog 24 #[(.agg #[.int .i64 50, .int .i64 2, .int .i64 3, .int .i64 3, .slice A 7 c]), .slice A1 4 c1] w (Told w (.tuple #[.bool true, .int .i64 0])) :=
  fill_IsPlan.calls 50 2 3 3 A c bookL A1 c1 [2, 5, 6, 7] true 0 w hr hc hp hc1 x_isPlan
theorem c_best (A : Option Addr) (c : Nat) (w : World) (hL : Laid w) (hr : Kd.C k27 w A 7 bookL) (hc : 7 ≤ c) : Calls Tryd.prog 31 #[(.agg #[.int .i64 50, .int .i64 2, .int .i64 3, .int .i64 3, .slice A 7 c])] w (ToldL w [2, 5, 6, 7] 4) := by
  refine (fill_Best.calls 50 2 3 3 A c bookL [2, 5, 6, 7] 0 w hL hr hc x_best).mono ?_
  rintro e w' ⟨v, he, hV, hb⟩
  exact toldL_of he hV hb
theorem c_best2 (A : Option Addr) (c : Nat) (w : World) (hL : Laid w) (hr : Kd.C k27 w A 3 betweenL) (hc : 3 ≤ c) : Calls Tryd.prog 31 #[(.agg #[.int .i64 50, .int .i64 3, .int .i64 3, .int .i64 2, .slice A 3 c])] w (ToldL w [1, 3] 2) := by
  refine (fill_Best.calls 50 3 3 2 A c betweenL [1, 3] 0 w hL hr hc x_best2).mono ?_
  rintro e w' ⟨v, he, hV, hb⟩
  exact toldL_of he hV hb
theorem c_boxes (A : Option Addr) (c : Nat) (w : World) (hL : Laid w) (hr : Kd.C k27 w A 7 bookL) (hc : 7 ≤ c) : Calls Tryd.prog 33 #[(.agg #[.int .i64 50, .int .i64 2, .int .i64 3, .int .i64 3, .slice A 7 c])] w (Told w (.tuple #[.int .i64 2, .int .i64 0])) :=
  fill_Boxes.calls 50 2 3 3 A c bookL 2 0 w hL hr hc x_boxes
theorem c_ask (A : Option Addr) (c : Nat) (w : World) (hL : Laid w) (hr : Kd.C k27 w A 3 betweenL) (hc : 3 ≤ c) : Calls Tryd.prog 35 #[(.agg #[.int .i64 50, .int .i64 3, .int .i64 3, .int .i64 2, .slice A 3 c])] w (Told w (.tuple #[.int .i64 1, .int .i64 0])) :=
  fill_Ask.calls 50 3 3 2 A c betweenL 1 0 w hL hr hc x_ask
theorem c_sp (x y : Int) (w : World) : Calls Tryd.prog 53 #[.int .i64 x, .int .i64 y] w (Told w (.agg #[.int .i64 x, .int .i64 y])) := luciferref00_Sp.calls x y x y w rfl
theorem c_alike (xs : List Int) (n : Nat) (hn : n = xs.length) (A : Option Addr) (c : Nat) (A1 : Option Addr) (c1 : Nat) (w : World) (hr : Kd.C (Kd.int .i64) w A n xs) (hc : n ≤ c) (hr1 : Kd.C (Kd.int .i64) w A1 n xs) (hc1 : n ≤ c1) (h : luciferref00_Alike.f 100 xs xs = some true) :
    Calls Tryd.prog 28 #[.slice A n c, .slice A1 n c1] w (Told w (.bool true)) := by
  subst hn
  refine (luciferref00_Alike.calls 100 A c xs A1 c1 xs true w hr hc hr1 hc1 h).mono ?_
  rintro e w' ⟨he, hd⟩
  exact ⟨he, hd.below⟩
theorem reads_block {W : World} {g : Nat} {xs : List Int} (h : W.heap[g]? = some (.cells (xs.map (Value.int .i64)).toArray 3)) (hl : xs.length ≤ 100) : Kd.C (Kd.int .i64) W (some ⟨g, 0, none⟩) xs.length xs := by
  refine ⟨rfl, by omega, fun hp => ⟨_, rfl, fun j p hj => ⟨[.int .i64 p], rfl, rfl, fun i u hu => ?_⟩⟩⟩
  match i, hu with
  | 0, hu =>
    cases hu
    have ha : (⟨g, 0, none⟩ : Addr).add (j * (Kd.int .i64).sz + 0) = ⟨g, j, none⟩ := by
      rw [show j * (Kd.int .i64).sz + 0 = j by show j * 1 + 0 = j; omega]
      unfold Addr.add; split <;> simp_all
    rw [ha, cell_of_row _ _ _ _ _ _ h]
    simp [hj]
end Go.Proofs.YtbbdbdamedaldaaDoor.PL
end
section
namespace Go.Proofs.YtbbdbdamedaldaaDoor.PL
open Go Go.RowKit Go.Proofs.YtbbdbdamedaldaaDoorW.PrintWords Fl
def luciferlaw05_filled.f : Option Bool := some true
theorem info27s (x y : Int) : (Tryd.prog.info? 27).map (·.size) = some (#[Value.int .i64 x, .int .i64 y] : Array Value).size := by
  have h : (Tryd.prog.info? 27).map (·.size) = some 2 := by kernel_rfl
  exact h
set_option maxRecDepth 100000 in
set_option maxHeartbeats 4000000 in
theorem luciferlaw05_filled.calls (r : Bool) (w : World) (hLd : Laid w) (h : luciferlaw05_filled.f = some r) :
    Calls Tryd.prog 23 #[] w fun e w' => e = .returned (.bool r) ∧ Below w.heap.size w w' := by
  cases h
  have HLd := Lib.hid hLd
  have hu24 := Tryd.underlying24
  have hu27 := Tryd.underlying27
  clear hLd
  have HB0 := Lib.hid (Below.refl w.heap.size w)
  go_enter Tryd.func23, Tryd.ntmps23
  go_upto_region 2 with (first | (go_at_call 57; refine (c_book _).mono ?_; rintro e wa1 ⟨A1, c1, rfl, hr1, hc1, hb1⟩) | (go_at_call 15; refine (c_sum A1 c1 _ (HLd.out.below (HB0.out.trans (hb1.mono HB0.out.size))) hr1 hc1).mono ?_; rintro e wb1 ⟨rfl, hd1⟩))
  have hs1 : Below w.heap.size w wb1 := hb1.trans (hd1.mono hb1.size)
  have hn1 := Go.heap_alloc_new wb1 (.cells #[.int .i64 47, .int .i64 53] 27)
  have ht1 : Below w.heap.size w (wb1.alloc (.cells #[.int .i64 47, .int .i64 53] 27)) := hs1.alloc hs1.size _
  obtain ⟨W1, hW1⟩ : ∃ X, wb1.alloc (.cells #[.int .i64 47, .int .i64 53] 27) = X := ⟨_, rfl⟩
  rw [hW1] at hn1 ht1 ⊢
  have F1 := Lib.hid hn1
  clear hW1 hn1 hs1
  have HB1 := Lib.hid (HB0.out.trans (ht1.mono HB0.out.size))
  clear HB0 ht1 hb1 hd1 hr1 hc1
  go_upto_region 3 with (first | (go_at_call 57; refine (c_book _).mono ?_; rintro e wa2 ⟨A2, c2, rfl, hr2, hc2, hb2⟩) | (go_at_call 19; refine (c_kind A2 c2 _ (HLd.out.below (HB1.out.trans (hb2.mono HB1.out.size))) hr2 hc2).mono ?_; rintro e wb2 ⟨rfl, hd2⟩))
  have hs2 : Below W1.heap.size W1 wb2 := hb2.trans (hd2.mono hb2.size)
  have GF1_2 := Lib.hid (below_heap hs2 F1.out)
  clear F1
  have HB2 := Lib.hid (HB1.out.trans (hs2.mono HB1.out.size))
  clear HB1 hs2 hb2 hd2 hr2 hc2
  go_upto_region 4 with (first | (go_at_call 58; refine (c_even _).mono ?_; rintro e wa3 ⟨A3, c3, rfl, hr3, hc3, hb3⟩) | (go_at_call 21; refine (c_any A3 c3 _ hr3 hc3).mono ?_; rintro e wb3 ⟨rfl, hd3⟩))
  have hs3 : Below wb2.heap.size wb2 wb3 := hb3.trans (hd3.mono hb3.size)
  have GF1_3 := Lib.hid (below_heap hs3 GF1_2.out)
  clear GF1_2
  have HB3 := Lib.hid (HB2.out.trans (hs3.mono HB2.out.size))
  clear HB2 hs3 hb3 hd3 hr3 hc3
  go_upto_region 5 with (first | (go_at_call 57; refine (c_book _).mono ?_; rintro e wa4 ⟨A4, c4, rfl, hr4, hc4, hb4⟩) | (go_at_call 26; refine (c_byHand A4 c4 _ (HLd.out.below ((HB3.out.trans (hb4.mono HB3.out.size)).trans (((Below.refl _ _).alloc (Nat.le_refl _) _).mono (Nat.le_trans HB3.out.size hb4.size)))) (Kd.C_below hr4 ((Below.refl _ _).alloc (Nat.le_refl _) _)) hc4 _ _ (reads_block (xs := [2, 5, 6, 7]) (Go.heap_alloc_new _ _) (by decide)) (Nat.le_refl _)).mono ?_; rintro e wb4 ⟨B4, d4, rfl, hl4, hm4, hd4⟩))
  have hs4 : Below wb3.heap.size wb3 wb4 := (hb4.trans (((Below.refl _ _).alloc (Nat.le_refl _) _).mono hb4.size)).trans (hd4.mono (by have := hb4.size; simp; omega))
  have F4 := Lib.hid (And.intro hl4 hm4)
  clear hl4 hm4
  have GF1_4 := Lib.hid (below_heap hs4 GF1_3.out)
  clear GF1_3
  have HB4 := Lib.hid (HB3.out.trans (hs4.mono HB3.out.size))
  clear HB3 hs4 hb4 hd4 hr4 hc4
  go_upto_region 6 with (first | (go_at_call 57; refine (c_book _).mono ?_; rintro e wa5 ⟨A5, c5, rfl, hr5, hc5, hb5⟩) | (go_at_call 29; refine (c_over A5 c5 _ (HLd.out.below ((HB4.out.trans (hb5.mono HB4.out.size)).trans (((Below.refl _ _).alloc (Nat.le_refl _) _).mono (Nat.le_trans HB4.out.size hb5.size)))) (Kd.C_below hr5 ((Below.refl _ _).alloc (Nat.le_refl _) _)) hc5 _ _ (reads_block (xs := [2, 5, 6, 7]) (Go.heap_alloc_new _ _) (by decide)) (Nat.le_refl _)).mono ?_; rintro e wb5 ⟨rfl, hd5⟩))
  have hs5 : Below wb4.heap.size wb4 wb5 := (hb5.trans (((Below.refl _ _).alloc (Nat.le_refl _) _).mono hb5.size)).trans (hd5.mono (by have := hb5.size; simp; omega))
  have hn5 := Go.heap_alloc_new wb5 (.cells #[.int .i64 (-3), .int .i64 4] 27)
  have ht5 : Below wb4.heap.size wb4 (wb5.alloc (.cells #[.int .i64 (-3), .int .i64 4] 27)) := hs5.alloc hs5.size _
  obtain ⟨W5, hW5⟩ : ∃ X, wb5.alloc (.cells #[.int .i64 (-3), .int .i64 4] 27) = X := ⟨_, rfl⟩
  rw [hW5] at hn5 ht5 ⊢
  have F5 := Lib.hid hn5
  clear hW5 hn5 hs5
  have GF1_5 := Lib.hid (below_heap ht5 GF1_4.out)
  clear GF1_4
  have GF4_5 := Lib.hid (And.intro (Kd.C_below F4.out.1 ht5) F4.out.2)
  clear F4
  have HB5 := Lib.hid (HB4.out.trans (ht5.mono HB4.out.size))
  clear HB4 ht5 hb5 hd5 hr5 hc5
  have hx1 := GF1_5.out
  have hx4 := GF4_5.out
  have hx5 := F5.out
  have hbw := HB5.out
  refine wp_region_held_drew (S := fun W => W.heap[wb1.heap.size]? = some (.cells #[.int .i64 47, .int .i64 53] 27) ∧ W.heap[wb5.heap.size]? = some (.cells #[.int .i64 (-3), .int .i64 4] 27) ∧ Kd.C (Kd.int .i64) W B4 2 [1, 3] ∧ Below w.heap.size w W) (by kernel_rfl) ⟨hx1, hx5, Kd.C_below hx4.1 (Below.drew (Below.refl _ _)), hbw.drew⟩ (fun hS => ?_)
  have hd4 := hx4.2
  clear hx1 hx4 hx5 hbw
  refine wpAnyH_take (i := 0) (oi := _) (v := .int .i64 0) rfl (by kernel_rfl) (by kernel_rfl) (by kernel_rfl) (fun _ _ _ h => h) (Or.inl ⟨by rfl, fun W hW => ?_⟩) (by assumption) ?_
  · go_simp
  simp only [Act.put, List.getElem_toArray, List.getElem_cons_succ, List.getElem_cons_zero, List.setIfInBounds_toArray, List.set_cons_zero, List.set_cons_succ]
  refine wpAnyH_take (i := 1) (oi := _) (v := .bool false) rfl (by kernel_rfl) (by kernel_rfl) (by kernel_rfl) (fun _ _ _ h => h) (Or.inl ⟨by rfl, fun W hW => ?_⟩) (by assumption) ?_
  · go_simp
  simp only [Act.put, List.getElem_toArray, List.getElem_cons_succ, List.getElem_cons_zero, List.setIfInBounds_toArray, List.set_cons_zero, List.set_cons_succ]
  refine wpAnyH_take (i := 2) (oi := _) (v := .bool false) rfl (by kernel_rfl) (by kernel_rfl) (by kernel_rfl) (fun _ _ _ h => h) (Or.inl ⟨by rfl, fun W hW => ?_⟩) (by assumption) ?_
  · go_simp
  simp only [Act.put, List.getElem_toArray, List.getElem_cons_succ, List.getElem_cons_zero, List.setIfInBounds_toArray, List.set_cons_zero, List.set_cons_succ]
  refine wpAnyH_take (i := 3) (oi := _) (v := .int .i64 0) rfl (by kernel_rfl) (by kernel_rfl) (by kernel_rfl) (fun _ _ _ h => h) (Or.inl ⟨by rfl, fun W hW => ?_⟩) (by assumption) ?_
  · go_simp
  simp only [Act.put, List.getElem_toArray, List.getElem_cons_succ, List.getElem_cons_zero, List.setIfInBounds_toArray, List.set_cons_zero, List.set_cons_succ]
  refine wpAnyH_take (i := 4) (oi := _) (v := .bool false) rfl (by kernel_rfl) (by kernel_rfl) (by kernel_rfl) (fun _ _ _ h => h) (Or.inl ⟨by rfl, fun W hW => ?_⟩) (by assumption) ?_
  · go_simp
  simp only [Act.put, List.getElem_toArray, List.getElem_cons_succ, List.getElem_cons_zero, List.setIfInBounds_toArray, List.set_cons_zero, List.set_cons_succ]
  refine wpAnyH_take (i := 5) (oi := _) (v := .bool false) rfl (by kernel_rfl) (by kernel_rfl) (by kernel_rfl) (fun _ _ _ h => h) (Or.inl ⟨by rfl, fun W hW => ?_⟩) (by assumption) ?_
  · go_simp
  simp only [Act.put, List.getElem_toArray, List.getElem_cons_succ, List.getElem_cons_zero, List.setIfInBounds_toArray, List.set_cons_zero, List.set_cons_succ]
  refine wpAnyH_take (i := 6) (oi := _) (v := .bool false) rfl (by kernel_rfl) (by kernel_rfl) (by kernel_rfl) (fun _ _ _ h => h) (Or.inl ⟨by rfl, fun W hW => ?_⟩) (by assumption) ?_
  · go_simp
  simp only [Act.put, List.getElem_toArray, List.getElem_cons_succ, List.getElem_cons_zero, List.setIfInBounds_toArray, List.set_cons_zero, List.set_cons_succ]
  refine wpAnyH_take (i := 7) (oi := _) (v := .int .i64 0) rfl (by kernel_rfl) (by kernel_rfl) (by kernel_rfl) (fun _ _ _ h => h) (Or.inl ⟨by rfl, fun W hW => ?_⟩) (by assumption) ?_
  · go_simp
  simp only [Act.put, List.getElem_toArray, List.getElem_cons_succ, List.getElem_cons_zero, List.setIfInBounds_toArray, List.set_cons_zero, List.set_cons_succ]
  refine wpAnyH_take (i := 8) (oi := _) (v := .bool false) rfl (by kernel_rfl) (by kernel_rfl) (by kernel_rfl) (fun _ _ _ h => h) (Or.inl ⟨by rfl, fun W hW => ?_⟩) (by assumption) ?_
  · go_simp
  simp only [Act.put, List.getElem_toArray, List.getElem_cons_succ, List.getElem_cons_zero, List.setIfInBounds_toArray, List.set_cons_zero, List.set_cons_succ]
  refine wpAnyH_take (i := 9) (oi := _) (v := .bool false) rfl (by kernel_rfl) (by kernel_rfl) (by kernel_rfl) (fun _ _ _ h => h) (Or.inl ⟨by rfl, fun W hW => ?_⟩) (by assumption) ?_
  · go_simp
  simp only [Act.put, List.getElem_toArray, List.getElem_cons_succ, List.getElem_cons_zero, List.setIfInBounds_toArray, List.set_cons_zero, List.set_cons_succ]
  refine wpAnyH_take (i := 10) (oi := _) (v := .bool false) rfl (by kernel_rfl) (by kernel_rfl) (by kernel_rfl) (fun _ _ _ h => h) (Or.inl ⟨by rfl, fun W hW => ?_⟩) (by assumption) ?_
  · go_simp
  simp only [Act.put, List.getElem_toArray, List.getElem_cons_succ, List.getElem_cons_zero, List.setIfInBounds_toArray, List.set_cons_zero, List.set_cons_succ]
  refine wpAnyH_take (i := 11) (oi := _) (v := .int .i64 0) rfl (by kernel_rfl) (by kernel_rfl) (by kernel_rfl) (fun _ _ _ h => h) (Or.inl ⟨by rfl, fun W hW => ?_⟩) (by assumption) ?_
  · go_simp
  simp only [Act.put, List.getElem_toArray, List.getElem_cons_succ, List.getElem_cons_zero, List.setIfInBounds_toArray, List.set_cons_zero, List.set_cons_succ]
  refine wpAnyH_take (i := 12) (oi := _) (v := .bool false) rfl (by kernel_rfl) (by kernel_rfl) (by kernel_rfl) (fun _ _ _ h => h) (Or.inl ⟨by rfl, fun W hW => ?_⟩) (by assumption) ?_
  · go_simp
  simp only [Act.put, List.getElem_toArray, List.getElem_cons_succ, List.getElem_cons_zero, List.setIfInBounds_toArray, List.set_cons_zero, List.set_cons_succ]
  refine wpAnyH_take (i := 13) (oi := _) (v := .bool false) rfl (by kernel_rfl) (by kernel_rfl) (by kernel_rfl) (fun _ _ _ h => h) (Or.inl ⟨by rfl, fun W hW => ?_⟩) (by assumption) ?_
  · go_simp
  simp only [Act.put, List.getElem_toArray, List.getElem_cons_succ, List.getElem_cons_zero, List.setIfInBounds_toArray, List.set_cons_zero, List.set_cons_succ]
  refine wpAnyH_take (i := 14) (oi := _) (v := .bool false) rfl (by kernel_rfl) (by kernel_rfl) (by kernel_rfl) (fun _ _ _ h => h) (Or.inl ⟨by rfl, fun W hW => ?_⟩) (by assumption) ?_
  · go_simp
  simp only [Act.put, List.getElem_toArray, List.getElem_cons_succ, List.getElem_cons_zero, List.setIfInBounds_toArray, List.set_cons_zero, List.set_cons_succ]
  refine wpAnyH_take (i := 15) (oi := _) (v := .int .i64 0) rfl (by kernel_rfl) (by kernel_rfl) (by kernel_rfl) (fun _ _ _ h => h) (Or.inl ⟨by rfl, fun W hW => ?_⟩) (by assumption) ?_
  · go_simp
  simp only [Act.put, List.getElem_toArray, List.getElem_cons_succ, List.getElem_cons_zero, List.setIfInBounds_toArray, List.set_cons_zero, List.set_cons_succ]
  refine wpAnyH_take (i := 16) (oi := _) (v := .bool false) rfl (by kernel_rfl) (by kernel_rfl) (by kernel_rfl) (fun _ _ _ h => h) (Or.inl ⟨by rfl, fun W hW => ?_⟩) (by assumption) ?_
  · go_simp
  simp only [Act.put, List.getElem_toArray, List.getElem_cons_succ, List.getElem_cons_zero, List.setIfInBounds_toArray, List.set_cons_zero, List.set_cons_succ]
  refine wpAnyH_take (i := 17) (oi := _) (v := .bool false) rfl (by kernel_rfl) (by kernel_rfl) (by kernel_rfl) (fun _ _ _ h => h) (Or.inl ⟨by rfl, fun W hW => ?_⟩) (by assumption) ?_
  · go_simp
  simp only [Act.put, List.getElem_toArray, List.getElem_cons_succ, List.getElem_cons_zero, List.setIfInBounds_toArray, List.set_cons_zero, List.set_cons_succ]
  refine wpAnyH_take (i := 18) (oi := _) (v := .bool false) rfl (by kernel_rfl) (by kernel_rfl) (by kernel_rfl) (fun _ _ _ h => h) (Or.inl ⟨by rfl, fun W hW => ?_⟩) (by assumption) ?_
  · go_simp
  simp only [Act.put, List.getElem_toArray, List.getElem_cons_succ, List.getElem_cons_zero, List.setIfInBounds_toArray, List.set_cons_zero, List.set_cons_succ]
  refine wpAnyH_take (i := 19) (oi := _) (v := .agg #[.int .i64 47, .int .i64 53]) rfl (by kernel_rfl) (by kernel_rfl) (by kernel_rfl) (fun _ _ _ h => h) (yieldsIf_load_row (by rfl) _ _ rfl _ rfl _ #[.int .i64 47, .int .i64 53] (0, 0) _ (fun W hW => hW.1) Tryd.underlying27 rfl (info27s _ _)) (by assumption) ?_
  simp only [Act.put, List.getElem_toArray, List.getElem_cons_succ, List.getElem_cons_zero, List.setIfInBounds_toArray, List.set_cons_zero, List.set_cons_succ]
  refine wpAnyH_ready (rs := [20]) (by kernel_rfl) (by simp) ?_
  refine AllReadyH.cons rfl (fun K hK => ?_) AllReadyH.nil
  go_simp
  refine (c_sp 47 53 _).mono ?_
  rintro e wc20 ⟨rfl, hb_⟩
  refine hK.out _ _ ⟨below_heap hb_ hS.1, below_heap hb_ hS.2.1, Kd.C_below hS.2.2.1 hb_, hS.2.2.2.trans (hb_.mono hS.2.2.2.size)⟩ (fun hS => ?_)
  clear hK K
  refine wpAnyH_take (i := 21) (oi := _) (v := .bool false) rfl (by kernel_rfl) (by kernel_rfl) (by kernel_rfl) (fun _ _ _ h => h) (Or.inl ⟨by rfl, fun W hW => ?_⟩) (by assumption) ?_
  · go_simp
  simp only [Act.put, List.getElem_toArray, List.getElem_cons_succ, List.getElem_cons_zero, List.setIfInBounds_toArray, List.set_cons_zero, List.set_cons_succ]
  refine wpAnyH_take (i := 22) (oi := _) (v := .bool false) rfl (by kernel_rfl) (by kernel_rfl) (by kernel_rfl) (fun _ _ _ h => h) (Or.inl ⟨by rfl, fun W hW => ?_⟩) (by assumption) ?_
  · go_simp
  simp only [Act.put, List.getElem_toArray, List.getElem_cons_succ, List.getElem_cons_zero, List.setIfInBounds_toArray, List.set_cons_zero, List.set_cons_succ]
  refine wpAnyH_take (i := 23) (oi := _) (v := .bool false) rfl (by kernel_rfl) (by kernel_rfl) (by kernel_rfl) (fun _ _ _ h => h) (Or.inl ⟨by rfl, fun W hW => ?_⟩) (by assumption) ?_
  · go_simp
  simp only [Act.put, List.getElem_toArray, List.getElem_cons_succ, List.getElem_cons_zero, List.setIfInBounds_toArray, List.set_cons_zero, List.set_cons_succ]
  refine wpAnyH_take (i := 24) (oi := _) (v := .int .i64 2) rfl (by kernel_rfl) (by kernel_rfl) (by kernel_rfl) (fun _ _ _ h => h) (Or.inl ⟨by rfl, fun W hW => ?_⟩) (by assumption) ?_
  · go_simp
  simp only [Act.put, List.getElem_toArray, List.getElem_cons_succ, List.getElem_cons_zero, List.setIfInBounds_toArray, List.set_cons_zero, List.set_cons_succ]
  refine wpAnyH_take (i := 25) (oi := _) (v := .bool false) rfl (by kernel_rfl) (by kernel_rfl) (by kernel_rfl) (fun _ _ _ h => h) (Or.inl ⟨by rfl, fun W hW => ?_⟩) (by assumption) ?_
  · go_simp
  simp only [Act.put, List.getElem_toArray, List.getElem_cons_succ, List.getElem_cons_zero, List.setIfInBounds_toArray, List.set_cons_zero, List.set_cons_succ]
  refine wpAnyH_take (i := 26) (oi := _) (v := .bool false) rfl (by kernel_rfl) (by kernel_rfl) (by kernel_rfl) (fun _ _ _ h => h) (Or.inl ⟨by rfl, fun W hW => ?_⟩) (by assumption) ?_
  · go_simp
  simp only [Act.put, List.getElem_toArray, List.getElem_cons_succ, List.getElem_cons_zero, List.setIfInBounds_toArray, List.set_cons_zero, List.set_cons_succ]
  refine wpAnyH_take (i := 27) (oi := _) (v := .bool false) rfl (by kernel_rfl) (by kernel_rfl) (by kernel_rfl) (fun _ _ _ h => h) (Or.inl ⟨by rfl, fun W hW => ?_⟩) (by assumption) ?_
  · go_simp
  simp only [Act.put, List.getElem_toArray, List.getElem_cons_succ, List.getElem_cons_zero, List.setIfInBounds_toArray, List.set_cons_zero, List.set_cons_succ]
  refine wpAnyH_take (i := 28) (oi := _) (v := .bool true) rfl (by kernel_rfl) (by kernel_rfl) (by kernel_rfl) (fun _ _ _ h => h) (Or.inl ⟨by rfl, fun W hW => ?_⟩) (by assumption) ?_
  · go_simp
  simp only [Act.put, List.getElem_toArray, List.getElem_cons_succ, List.getElem_cons_zero, List.setIfInBounds_toArray, List.set_cons_zero, List.set_cons_succ]
  refine wpAnyH_take (i := 29) (oi := _) (v := .bool false) rfl (by kernel_rfl) (by kernel_rfl) (by kernel_rfl) (fun _ _ _ h => h) (Or.inl ⟨by rfl, fun W hW => ?_⟩) (by assumption) ?_
  · go_simp
  simp only [Act.put, List.getElem_toArray, List.getElem_cons_succ, List.getElem_cons_zero, List.setIfInBounds_toArray, List.set_cons_zero, List.set_cons_succ]
  refine wpAnyH_take (i := 30) (oi := _) (v := .bool false) rfl (by kernel_rfl) (by kernel_rfl) (by kernel_rfl) (fun _ _ _ h => h) (Or.inl ⟨by rfl, fun W hW => ?_⟩) (by assumption) ?_
  · go_simp
  simp only [Act.put, List.getElem_toArray, List.getElem_cons_succ, List.getElem_cons_zero, List.setIfInBounds_toArray, List.set_cons_zero, List.set_cons_succ]
  refine wpAnyH_take (i := 31) (oi := _) (v := .bool false) rfl (by kernel_rfl) (by kernel_rfl) (by kernel_rfl) (fun _ _ _ h => h) (Or.inl ⟨by rfl, fun W hW => ?_⟩) (by assumption) ?_
  · go_simp
  simp only [Act.put, List.getElem_toArray, List.getElem_cons_succ, List.getElem_cons_zero, List.setIfInBounds_toArray, List.set_cons_zero, List.set_cons_succ]
  refine wpAnyH_take (i := 32) (oi := _) (v := .slice B4 2 d4) rfl (by kernel_rfl) (by kernel_rfl) (by kernel_rfl) (fun _ _ _ h => h) (Or.inl ⟨by rfl, fun W hW => ?_⟩) (by assumption) ?_
  · go_simp
  simp only [Act.put, List.getElem_toArray, List.getElem_cons_succ, List.getElem_cons_zero, List.setIfInBounds_toArray, List.set_cons_zero, List.set_cons_succ]
  have hS33 := hS
  refine wpAnyH_ready (rs := [33]) (by kernel_rfl) (by simp) ?_
  refine AllReadyH.cons rfl (fun K hK => ?_) AllReadyH.nil
  go_simp
  refine hK.out _ _ ⟨heap_alloc_keep hS33.1 _, heap_alloc_keep hS33.2.1 _, Kd.C_below hS33.2.2.1 ((Below.refl _ _).alloc (Nat.le_refl _) _), hS33.2.2.2.alloc hS33.2.2.2.size _⟩ (fun hS => ?_)
  clear hK K
  refine wpAnyH_ready (rs := [34]) (by kernel_rfl) (by simp) ?_
  refine AllReadyH.cons rfl (fun K hK => ?_) AllReadyH.nil
  go_simp
  refine (c_alike [1, 3] 2 rfl B4 d4 _ _ _ hS.2.2.1 hd4 (reads_block (xs := [1, 3]) (Go.heap_alloc_new _ _) (by decide)) (Nat.le_refl _) (by decide +kernel)).mono ?_
  rintro e wc34 ⟨rfl, hb_⟩
  refine hK.out _ _ ⟨below_heap hb_ hS.1, below_heap hb_ hS.2.1, Kd.C_below hS.2.2.1 hb_, hS.2.2.2.trans (hb_.mono hS.2.2.2.size)⟩ (fun hS => ?_)
  clear hK K
  refine wpAnyH_take (i := 35) (oi := _) (v := .bool false) rfl (by kernel_rfl) (by kernel_rfl) (by kernel_rfl) (fun _ _ _ h => h) (Or.inl ⟨by rfl, fun W hW => ?_⟩) (by assumption) ?_
  · go_simp
  simp only [Act.put, List.getElem_toArray, List.getElem_cons_succ, List.getElem_cons_zero, List.setIfInBounds_toArray, List.set_cons_zero, List.set_cons_succ]
  refine wpAnyH_take (i := 36) (oi := _) (v := .bool false) rfl (by kernel_rfl) (by kernel_rfl) (by kernel_rfl) (fun _ _ _ h => h) (Or.inl ⟨by rfl, fun W hW => ?_⟩) (by assumption) ?_
  · go_simp
  simp only [Act.put, List.getElem_toArray, List.getElem_cons_succ, List.getElem_cons_zero, List.setIfInBounds_toArray, List.set_cons_zero, List.set_cons_succ]
  refine wpAnyH_take (i := 37) (oi := _) (v := .bool false) rfl (by kernel_rfl) (by kernel_rfl) (by kernel_rfl) (fun _ _ _ h => h) (Or.inl ⟨by rfl, fun W hW => ?_⟩) (by assumption) ?_
  · go_simp
  simp only [Act.put, List.getElem_toArray, List.getElem_cons_succ, List.getElem_cons_zero, List.setIfInBounds_toArray, List.set_cons_zero, List.set_cons_succ]
  refine wpAnyH_take (i := 38) (oi := _) (v := .agg #[.int .i64 (-3), .int .i64 4]) rfl (by kernel_rfl) (by kernel_rfl) (by kernel_rfl) (fun _ _ _ h => h) (yieldsIf_load_row (by rfl) _ _ rfl _ rfl _ #[.int .i64 (-3), .int .i64 4] (0, 0) _ (fun W hW => hW.2.1) Tryd.underlying27 rfl (info27s _ _)) (by assumption) ?_
  simp only [Act.put, List.getElem_toArray, List.getElem_cons_succ, List.getElem_cons_zero, List.setIfInBounds_toArray, List.set_cons_zero, List.set_cons_succ]
  refine wpAnyH_ready (rs := [39]) (by kernel_rfl) (by simp) ?_
  refine AllReadyH.cons rfl (fun K hK => ?_) AllReadyH.nil
  go_simp
  refine (c_sp (-3) 4 _).mono ?_
  rintro e wc39 ⟨rfl, hb_⟩
  refine hK.out _ _ ⟨below_heap hb_ hS.1, below_heap hb_ hS.2.1, Kd.C_below hS.2.2.1 hb_, hS.2.2.2.trans (hb_.mono hS.2.2.2.size)⟩ (fun hS => ?_)
  clear hK K
  refine wpAnyH_take (i := 40) (oi := _) (v := .bool false) rfl (by kernel_rfl) (by kernel_rfl) (by kernel_rfl) (fun _ _ _ h => h) (Or.inl ⟨by rfl, fun W hW => ?_⟩) (by assumption) ?_
  · go_simp
  simp only [Act.put, List.getElem_toArray, List.getElem_cons_succ, List.getElem_cons_zero, List.setIfInBounds_toArray, List.set_cons_zero, List.set_cons_succ]
  refine wpAnyH_take (i := 41) (oi := _) (v := .bool false) rfl (by kernel_rfl) (by kernel_rfl) (by kernel_rfl) (fun _ _ _ h => h) (Or.inl ⟨by rfl, fun W hW => ?_⟩) (by assumption) ?_
  · go_simp
  simp only [Act.put, List.getElem_toArray, List.getElem_cons_succ, List.getElem_cons_zero, List.setIfInBounds_toArray, List.set_cons_zero, List.set_cons_succ]
  refine wpAnyH_done (by kernel_rfl) ?_ _
  have HB6 := Lib.hid hS.2.2.2
  clear hS hS33 hd4 hb_ HB5
  go_upto_region 9 with (first | (go_at_call 57; refine (c_book _).mono ?_; rintro e wa8 ⟨A8, c8, rfl, hr8, hc8, hb8⟩) | (go_at_call 31; refine (c_best A8 c8 _ (HLd.out.below (HB6.out.trans (hb8.mono HB6.out.size))) hr8 hc8).mono ?_; rintro e wb8 ⟨B8, d8, rfl, hl8, hm8, hd8⟩))
  have hs8 : Below wc39.heap.size wc39 wb8 := hb8.trans (hd8.mono hb8.size)
  have F8 := Lib.hid (And.intro hl8 hm8)
  clear hl8 hm8
  have HB8 := Lib.hid (HB6.out.trans (hs8.mono HB6.out.size))
  clear HB6 hs8 hb8 hd8 hr8 hc8
  go_upto_region 10 with (first | (go_at_call 59; refine (c_between _).mono ?_; rintro e wa9 ⟨A9, c9, rfl, hr9, hc9, hb9⟩) | (go_at_call 31; refine (c_best2 A9 c9 _ (HLd.out.below (HB8.out.trans (hb9.mono HB8.out.size))) hr9 hc9).mono ?_; rintro e wb9 ⟨B9, d9, rfl, hl9, hm9, hd9⟩))
  have hs9 : Below wb8.heap.size wb8 wb9 := hb9.trans (hd9.mono hb9.size)
  have F9 := Lib.hid (And.intro hl9 hm9)
  clear hl9 hm9
  have GF8_9 := Lib.hid (And.intro (Kd.C_below F8.out.1 hs9) F8.out.2)
  clear F8
  have HB9 := Lib.hid (HB8.out.trans (hs9.mono HB8.out.size))
  clear HB8 hs9 hb9 hd9 hr9 hc9
  go_upto_region 11 with (first | (go_at_call 57; refine (c_book _).mono ?_; rintro e wa10 ⟨A10, c10, rfl, hr10, hc10, hb10⟩) | (go_at_call 33; refine (c_boxes A10 c10 _ (HLd.out.below (HB9.out.trans (hb10.mono HB9.out.size))) hr10 hc10).mono ?_; rintro e wb10 ⟨rfl, hd10⟩))
  have hs10 : Below wb9.heap.size wb9 wb10 := hb10.trans (hd10.mono hb10.size)
  have GF8_10 := Lib.hid (And.intro (Kd.C_below GF8_9.out.1 hs10) GF8_9.out.2)
  clear GF8_9
  have GF9_10 := Lib.hid (And.intro (Kd.C_below F9.out.1 hs10) F9.out.2)
  clear F9
  have HB10 := Lib.hid (HB9.out.trans (hs10.mono HB9.out.size))
  clear HB9 hs10 hb10 hd10 hr10 hc10
  go_upto_region 12 with (first | (go_at_call 59; refine (c_between _).mono ?_; rintro e wa11 ⟨A11, c11, rfl, hr11, hc11, hb11⟩) | (go_at_call 35; refine (c_ask A11 c11 _ (HLd.out.below (HB10.out.trans (hb11.mono HB10.out.size))) hr11 hc11).mono ?_; rintro e wb11 ⟨rfl, hd11⟩))
  have hs11 : Below wb10.heap.size wb10 wb11 := hb11.trans (hd11.mono hb11.size)
  have GF8_11 := Lib.hid (And.intro (Kd.C_below GF8_10.out.1 hs11) GF8_10.out.2)
  clear GF8_10
  have GF9_11 := Lib.hid (And.intro (Kd.C_below GF9_10.out.1 hs11) GF9_10.out.2)
  clear GF9_10
  have HB11 := Lib.hid (HB10.out.trans (hs11.mono HB10.out.size))
  clear HB10 hs11 hb11 hd11 hr11 hc11
  go_upto_region 13 with (first | (go_at_call 57; refine (c_book _).mono ?_; rintro e wa12 ⟨A12, c12, rfl, hr12, hc12, hb12⟩) | (go_at_call 24; refine (c_isPlan A12 c12 _ (Kd.C_below hr12 ((Below.refl _ _).alloc (Nat.le_refl _) _)) hc12 _ _ (reads_block (xs := [2, 5, 6, 7]) (Go.heap_alloc_new _ _) (by decide)) (Nat.le_refl _)).mono ?_; rintro e wb12 ⟨rfl, hd12⟩))
  have hs12 : Below wb11.heap.size wb11 wb12 := (hb12.trans (((Below.refl _ _).alloc (Nat.le_refl _) _).mono hb12.size)).trans (hd12.mono (by have := hb12.size; simp; omega))
  have GF8_12 := Lib.hid (And.intro (Kd.C_below GF8_11.out.1 hs12) GF8_11.out.2)
  clear GF8_11
  have GF9_12 := Lib.hid (And.intro (Kd.C_below GF9_11.out.1 hs12) GF9_11.out.2)
  clear GF9_11
  have HB12 := Lib.hid (HB11.out.trans (hs12.mono HB11.out.size))
  clear HB11 hs12 hb12 hd12 hr12 hc12
  go_wp2_with fail
  refine (c_alike [2, 5, 6, 7] 4 rfl B8 d8 _ _ _ (Kd.C_below GF8_12.out.1 ((Below.refl _ _).alloc (Nat.le_refl _) _)) GF8_12.out.2 (reads_block (xs := [2, 5, 6, 7]) (Go.heap_alloc_new _ _) (by decide)) (Nat.le_refl _) (by decide +kernel)).mono ?_
  rintro e wx ⟨rfl, hx⟩
  have hy : Below wb12.heap.size wb12 wx := ((Below.refl _ _).alloc (Nat.le_refl _) _).trans (hx.mono (by simp))
  go_wp2_with fail
  refine (c_alike [1, 3] 2 rfl B9 d9 _ _ _ (Kd.C_below (Kd.C_below GF9_12.out.1 hy) ((Below.refl _ _).alloc (Nat.le_refl _) _)) GF9_12.out.2 (reads_block (xs := [1, 3]) (Go.heap_alloc_new _ _) (by decide)) (Nat.le_refl _) (by decide +kernel)).mono ?_
  rintro e wz ⟨rfl, hz⟩
  have hq : Below wx.heap.size wx wz := ((Below.refl _ _).alloc (Nat.le_refl _) _).trans (hz.mono (by simp))
  go_wp2_with fail
  go_ret
  exact ⟨rfl, HB12.out.trans ((hy.trans (hq.mono hy.size)).mono HB12.out.size)⟩
end Go.Proofs.YtbbdbdamedaldaaDoor.PL
end
