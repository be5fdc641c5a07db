/- The card of FillAsk: the row, its listed variable tied to the program's text. Whatever the input, the law returns true, and each argument reads afterwards as it did. (part 10) -/
import Derived.WalkKit
import Derived.ProofKit
import Derived.OpenShut
import Derived.ShutString
import Derived.ChangeOld
import Derived.SizedLaws
import Derived.LaidMore
import Derived.Stop.Joined
import Derived.Lib.SmallJoins
import Derived.Deep.Slices
import Derived.Deep.Fields
import Derived.ChangeSame
import Derived.Test.YtbbdbdamedaldaaDoorRows
import Derived.Test.YtbbdbdamedaldaaDoorAsk8
set_option linter.unusedVariables false
set_option linter.unusedSimpArgs false
section
namespace Go.Proofs.YtbbdbdamedaldaaDoor.Rw
open Go Go.Proofs.YtbbdbdamedaldaaDoorW.PrintWords Go.ChangeShapes Go.WideShapes Go.ChangeAt Go.RowKit Go.Joins Go.Deep
open Go.ChangeMaps (open_string shut_string)
section
variable {H : Type} {enc : TypeId × Value → H} {P : Program} {w : World} {base : Nat} {spare : Nat → Bool} {held : Bool}
theorem open_slice_fields {t e : TypeId} {fs : Array Field} {fuel : Nat} {cs : List Value} {x : DataW H × List MemPlace} (ht : P.underlying t = some (.slice e)) (he : P.underlying e = some (.struct fs))
    (hone : oneCellFields P fs = true) (hC : P.cellsOf e = fs.size) (h : DataW.trod enc P w base spare held fuel t cs = some x) :
    (cs = [.slice none 0 0] ∧ x = (.nil, [])) ∨
    ∃ (a : Addr) (len cap m : Nat) (D : Nat → DataW H) (Pl : Nat → List MemPlace), cs = [.slice (some a) len cap] ∧ base ≤ a.block ∧ len ≤ cap ∧ cap ≤ maxLen ∧ m = (if spare a.block then cap else len) ∧
      x = (.slice ((List.range len).map D) ((List.range (m - len)).map fun j => D (len + j)), MemPlace.row a (m * fs.size) ++ (List.range m).flatMap Pl) ∧
      ∀ i, i < m → ∃ (ys : List (DataW H × List MemPlace)) (n : Nat), D i = .agg (ys.map (·.1)) ∧ Pl i = ys.flatMap (·.2) ∧ ys.length = fs.size ∧
        ∀ (j : Nat) (f : Field), fs[j]? = some f → ∃ (v : Value) (y : DataW H × List MemPlace), w.cell? (a.add (i * fs.size + j)) = some v ∧ ys[j]? = some y ∧ DataW.trod enc P w base spare held n f.type [v] = some y := by
  rcases open_slice ht h with h0 | ⟨a, len, cap, m, n, D, Pl, hcs, hb, hl, hm, hmm, hx, hi⟩
  · exact .inl h0
  · refine .inr ⟨a, len, cap, m, D, Pl, hcs, hb, hl, hm, hmm, by rw [hC] at hx; exact hx, fun i him => ?_⟩
    obtain ⟨cs', hc, ht'⟩ := hi i him
    rw [hC] at hc
    obtain ⟨ys, n', hn', hy, hlen, hyl, hf⟩ := DataW.trod_struct he ht'
    obtain ⟨_, hcl, hat⟩ := World.cells?_some hc
    simp only [Prod.mk.injEq] at hy
    refine ⟨ys, n', hy.1, hy.2, hyl, fun j f hj => ?_⟩
    obtain ⟨ho, hk⟩ := hone_of hone j f hj
    have hjl : j < fs.size := (Array.getElem?_eq_some_iff.1 hj).1
    have hcell := hat j hjl
    have hv : cs'[j]? = some (cs'[j]'(by omega)) := List.getElem?_eq_getElem (by omega)
    have h1 := hf j f hj
    rw [ho, hk] at h1
    have hone' : (cs'.drop j).take 1 = [cs'[j]'(by omega)] := by
      rw [List.drop_eq_getElem_cons (by omega)]
      rfl
    rw [hone'] at h1
    have hys : ys[j]? = some (ys[j]'(by omega)) := List.getElem?_eq_getElem (by omega)
    refine ⟨_, _, ?_, hys, h1.trans hys⟩
    rw [← Go.Deep.add_add, hcell, hv]
end
section
variable {H : Type} {enc : TypeId × Value → H} {P : Program} {w : World} {base : Nat} {spare : Nat → Bool} {held : Bool}
theorem open_agg5 {r : Reach} {b0 : Nat} {t : TypeId} {f0 f1 f2 f3 f4 : Field} {v : Value} {d : DataW H} {p : List MemPlace} (hs : P.underlying t = some (.struct #[f0, f1, f2, f3, f4])) (hone : oneCellFields P #[f0, f1, f2, f3, f4] = true) (hC : P.cellsOf t = 5)
    (hv : Value.okWide P w r b0 t v) (h : DataW.Trod enc P w base spare held t v d p) :
    ∃ (v0 v1 v2 v3 v4 : Value) (y0 y1 y2 y3 y4 : DataW H × List MemPlace) (n : Nat), v = .agg #[v0, v1, v2, v3, v4] ∧ d = .agg [y0.1, y1.1, y2.1, y3.1, y4.1] ∧ p = y0.2 ++ (y1.2 ++ (y2.2 ++ (y3.2 ++ y4.2))) ∧
      DataW.trod enc P w base spare held n f0.type [v0] = some y0 ∧ DataW.trod enc P w base spare held n f1.type [v1] = some y1 ∧ DataW.trod enc P w base spare held n f2.type [v2] = some y2 ∧ DataW.trod enc P w base spare held n f3.type [v3] = some y3 ∧ DataW.trod enc P w base spare held n f4.type [v4] = some y4 := by
  obtain ⟨cs, rfl, hsz⟩ := okWide_struct hs hv
  obtain ⟨l⟩ := cs
  match l, hsz.trans hC with
  | [c0, c1, c2, c3, c4], _ =>
    obtain ⟨fuel, hf⟩ := h
    obtain ⟨xs, n, _, hx, _, hlen, hg⟩ := DataW.trod_struct hs hf
    obtain ⟨o0, k0⟩ := hone_of hone 0 f0 rfl
    obtain ⟨o1, k1⟩ := hone_of hone 1 f1 rfl
    obtain ⟨o2, k2⟩ := hone_of hone 2 f2 rfl
    obtain ⟨o3, k3⟩ := hone_of hone 3 f3 rfl
    obtain ⟨o4, k4⟩ := hone_of hone 4 f4 rfl
    match xs, hlen with
    | [y0, y1, y2, y3, y4], _ =>
      simp only [Prod.mk.injEq] at hx
      exact ⟨c0, c1, c2, c3, c4, y0, y1, y2, y3, y4, n, rfl, by simpa using hx.1, by simpa using hx.2, by simpa [Value.cells, o0, k0] using hg 0 f0 rfl, by simpa [Value.cells, o1, k1] using hg 1 f1 rfl, by simpa [Value.cells, o2, k2] using hg 2 f2 rfl, by simpa [Value.cells, o3, k3] using hg 3 f3 rfl, by simpa [Value.cells, o4, k4] using hg 4 f4 rfl⟩
end
abbrev laid1 {H : Type} : List (String × DataW H) := [("lucifer/fill.ends", Rows.laid_lucifer_fill_ends)]
theorem own : ownKnob Tryd.prog.godebug = none := by kernel_rfl
theorem laidOut : laidOutB Tryd.prog = true := by kernel_rfl
theorem gEnds : Tryd.prog.globalNamed "lucifer/fill.ends" = some 0 := by kernel_rfl
theorem tEnds : (Tryd.prog.globals[0]?).map (·.type) = some 115 := by kernel_rfl
theorem cTab : Tryd.prog.cellsOf 114 = 1 := by kernel_rfl
theorem door_met (os : Os) (args : Array Value) : laidMetH Tryd.prog laid1 ((World.doorLaid Tryd.prog 600 os).forCall (fun _ _ => 0) ⟨#[], args, []⟩).memory :=
  laidMetH_of_parts3 (fuel := 8) (laidMet_of_run' 8 (by kernel_rfl) (by kernel_rfl)) (by kernel_rfl) (by kernel_rfl)
set_option maxRecDepth 100000 in
theorem laid_of {W : World} (h : laidMetH Tryd.prog laid1 W) : Fl.Laid W := by
  obtain ⟨g, t, cs, fuel, p, hg, ht, hv, hd⟩ := h.funcs (List.mem_singleton.2 rfl)
  obtain rfl := Option.some.inj (gEnds.symm.trans hg)
  obtain rfl := Option.some.inj (tEnds.symm.trans ht)
  have hd' : DataW.trod (funcToken Tryd.prog) Tryd.prog W 0 (fun _ => true) true fuel 115 cs.toList = some (.agg [.held [40, 108, 117, 99, 105, 102, 101, 114, 47, 102, 105, 108, 108, 46, 98, 111, 111, 107, 41, 46, 108, 111, 119], .held [40, 108, 117, 99, 105, 102, 101, 114, 47, 102, 105, 108, 108, 46, 98, 111, 111, 107, 41, 46, 104, 105, 103, 104]], p) := hd
  obtain ⟨xs, m, _, ex, hlen, hl, hel⟩ := DataW.trod_array Tryd.underlying115 hd'
  have h0 := hel 0 (by decide)
  have h1 := hel 1 (by decide)
  rw [cTab] at h0 h1
  have hlen2 : cs.toList.length = 2 := hlen.trans (by kernel_rfl)
  obtain ⟨l⟩ := cs
  match l, hlen2, xs, hl with
  | [c0, c1], _, [x0, x1], _ =>
    simp only [List.map_cons, List.map_nil, Prod.mk.injEq, DataW.agg.injEq, List.cons.injEq] at ex
    obtain ⟨⟨e0, e1, _⟩, _⟩ := ex
    obtain ⟨d0, q0⟩ := x0
    obtain ⟨d1, q1⟩ := x1
    simp only at e0 e1
    subst e0
    subst e1
    have f0 := func_of_trod (f0 := 138) Tryd.underlying114 (by kernel_rfl) h0
    have f1 := func_of_trod (f0 := 136) Tryd.underlying114 (by kernel_rfl) h1
    have v0 := World.var?_cell hg hv 0
    have v1 := World.var?_cell hg hv 1
    subst f0
    subst f1
    exact ⟨by simpa using v0, by simpa using v1⟩
def inI (x : Int) : Prop := -9223372036854775808 ≤ x ∧ x ≤ 9223372036854775807
theorem inI_of {x : Int} (h : (Lit.int .i64 x).wf = true) : inI x := by
  simp [Lit.wf, IntKind.min, IntKind.max, IntKind.signed, IntKind.bits] at h
  exact ⟨by omega, by omega⟩
def inS (l : List PL.S27) : Prop := ∀ s ∈ l, inI s.f0 ∧ inI s.f1
theorem list_of {α : Type} : ∀ (n : Nat) (P : Nat → α → Prop), (∀ i, i < n → ∃ s, P i s) → ∃ l : List α, l.length = n ∧ ∀ i s, l[i]? = some s → P i s
  | 0, _, _ => ⟨[], rfl, fun i s h => by simp at h⟩
  | n + 1, P, hel => by
    obtain ⟨s0, h0⟩ := hel 0 (by omega)
    obtain ⟨l, hl, hp⟩ := list_of n (fun i s => P (i + 1) s) (fun i hi => hel (i + 1) (by omega))
    refine ⟨s0 :: l, by simp [hl], fun i s h => ?_⟩
    cases i with
    | zero => simp at h; subst h; exact h0
    | succ i => exact hp i s (by simpa using h)
set_option maxRecDepth 100000 in
theorem spans_open {H : Type} {enc : TypeId × Value → H} {W : World} {base fuel : Nat} {spare : Nat → Bool} {held : Bool} {v : Value} {x : DataW H × List MemPlace} (h : DataW.trod enc Tryd.prog W base spare held fuel 22 [v] = some x) :
    ∃ (A : Option Addr) (c : Nat) (l : List PL.S27), v = .slice A l.length c ∧ l.length ≤ c ∧ Kd.C PL.k27 W A l.length l ∧ inS l := by
  rcases open_slice_fields (e := 27) Tryd.underlying22 Tryd.underlying27 (by kernel_rfl) (by kernel_rfl) h with ⟨hc, _⟩ | ⟨a, len, cap, m, D, Pl, hcs, _, hl, hm, hmm, _, hi⟩
  · simp only [List.cons.injEq, and_true] at hc
    subst hc
    exact ⟨none, 0, [], rfl, by simp, ⟨rfl, by simp, fun h => by simp at h⟩, fun s hs => by simp at hs⟩
  · simp only [List.cons.injEq, and_true] at hcs
    subst hcs
    have hlm : len ≤ m := by rw [hmm]; split <;> omega
    have hel : ∀ i, i < len → ∃ s : PL.S27, W.cell? (a.add (i * 2 + 0)) = some (.int .i64 s.f0) ∧ W.cell? (a.add (i * 2 + 1)) = some (.int .i64 s.f1) ∧ inI s.f0 ∧ inI s.f1 := by
      intro i hil
      obtain ⟨ys, n, _, _, _, hf⟩ := hi i (by omega)
      obtain ⟨v0, y0, hc0, _, ht0⟩ := hf 0 _ rfl
      obtain ⟨v1, y1, hc1, _, ht1⟩ := hf 1 _ rfl
      obtain ⟨n0, e0, _, w0⟩ := DataW.trod_int Tryd.underlying3 ht0
      obtain ⟨n1, e1, _, w1⟩ := DataW.trod_int Tryd.underlying3 ht1
      simp only [List.cons.injEq, and_true] at e0 e1
      subst e0
      subst e1
      exact ⟨⟨n0, n1⟩, hc0, hc1, inI_of w0, inI_of w1⟩
    have hsp := list_of len _ hel
    obtain ⟨l, hll, hp⟩ := hsp
    subst hll
    refine ⟨some a, cap, l, rfl, hl, ⟨rfl, Nat.le_trans hl hm, fun _ => ⟨a, rfl, fun j p hj => ?_⟩⟩, fun s hs => ?_⟩
    · obtain ⟨h0, h1, _⟩ := hp j p hj
      refine ⟨[.int .i64 p.f0, .int .i64 p.f1], rfl, PL.k27_mk W p, fun i u hu => ?_⟩
      match i, hu with
      | 0, hu => cases hu; exact h0
      | 1, hu => cases hu; exact h1
    · obtain ⟨i, hi', rfl⟩ := List.mem_iff_getElem.1 hs
      exact (hp i _ (List.getElem?_eq_getElem hi')).2.2
set_option maxRecDepth 100000 in
theorem book_open {H : Type} {enc : TypeId × Value → H} {r : Reach} {b0 : Nat} {W : World} {base : Nat} {spare : Nat → Bool} {held : Bool} {v : Value} {d : DataW H} {p : List MemPlace}
    (hv : Value.okWide Tryd.prog W r b0 24 v) (h : DataW.Trod enc Tryd.prog W base spare held 24 v d p) :
    ∃ (a b c e : Int) (A : Option Addr) (cap : Nat) (l : List PL.S27), v = .agg #[.int .i64 a, .int .i64 b, .int .i64 c, .int .i64 e, .slice A l.length cap] ∧ l.length ≤ cap ∧ Kd.C PL.k27 W A l.length l ∧ inI a ∧ inI b ∧ inI c ∧ inI e ∧ inS l := by
  obtain ⟨v0, v1, v2, v3, v4, y0, y1, y2, y3, y4, n, rfl, _, _, h0, h1, h2, h3, h4⟩ := open_agg5 Tryd.underlying24 (by kernel_rfl) (by kernel_rfl) hv h
  obtain ⟨n0, e0, _, w0⟩ := DataW.trod_int Tryd.underlying3 h0
  obtain ⟨n1, e1, _, w1⟩ := DataW.trod_int Tryd.underlying3 h1
  obtain ⟨n2, e2, _, w2⟩ := DataW.trod_int Tryd.underlying3 h2
  obtain ⟨n3, e3, _, w3⟩ := DataW.trod_int Tryd.underlying3 h3
  simp only [List.cons.injEq, and_true] at e0 e1 e2 e3
  subst e0
  subst e1
  subst e2
  subst e3
  obtain ⟨A, c, l, rfl, hl, hC, hin⟩ := spans_open h4
  exact ⟨n0, n1, n2, n3, A, c, l, rfl, hl, hC, inI_of w0, inI_of w1, inI_of w2, inI_of w3, hin⟩
set_option maxRecDepth 100000 in
theorem int_open {H : Type} {enc : TypeId × Value → H} {r : Reach} {b0 : Nat} {W : World} {base : Nat} {spare : Nat → Bool} {held : Bool} {v : Value} {d : DataW H} {p : List MemPlace}
    (hv : Value.okWide Tryd.prog W r b0 3 v) (h : DataW.Trod enc Tryd.prog W base spare held 3 v d p) : ∃ x, v = .int .i64 x ∧ inI x := by
  obtain ⟨x, rfl, _, _, wx⟩ := open_int Tryd.underlying3 hv h
  exact ⟨x, rfl, inI_of wx⟩
end Go.Proofs.YtbbdbdamedaldaaDoor.Rw
end
section
namespace Go.Proofs.YtbbdbdamedaldaaDoor.Fl
open Go
def okF (n : Nat) (gr : Int) : Int → List Int → Prop
  | a, [] => a = n
  | a, t :: p => a < t ∧ t ≤ n ∧ t - a ≤ gr ∧ okF n gr t p
def prevA (a : Int) (p : List Int) (k : Nat) : Int := if k = 0 then a else p.getD (k - 1) 0
theorem okF_iff (n : Nat) (gr : Int) : ∀ (p : List Int) (a : Int), 0 ≤ a → (okF n gr a p ↔ (∀ i, i < p.length → boxB n gr (prevA a p i) (p.getD i 0) = true) ∧ prevA a p p.length = n)
  | [], a, _ => by simp [okF, prevA]
  | t :: p, a, ha => by
    constructor
    · rintro ⟨h1, h2, h3, h4⟩
      obtain ⟨h5, h6⟩ := (okF_iff n gr p t (by omega)).1 h4
      refine ⟨fun i hi => ?_, ?_⟩
      · cases i with
        | zero =>
          show boxB n gr a t = true
          rw [boxB_iff]
          omega
        | succ i =>
          have := h5 i (by simpa using hi)
          have e : prevA a (t :: p) (i + 1) = prevA t p i := by
            unfold prevA
            cases i <;> simp
          rw [e]
          simpa using this
      · have e : prevA a (t :: p) (p.length + 1) = prevA t p p.length := by
          unfold prevA
          cases hp : p.length <;> simp
        rw [List.length_cons, e]
        exact h6
    · rintro ⟨h5, h6⟩
      have h0 := h5 0 (by simp)
      have h0' : boxB n gr a t = true := h0
      rw [boxB_iff] at h0'
      refine ⟨h0'.2.1, h0'.2.2.1, h0'.2.2.2, (okF_iff n gr p t (by omega)).2 ⟨fun i hi => ?_, ?_⟩⟩
      · have := h5 (i + 1) (by simpa using hi)
        have e : prevA a (t :: p) (i + 1) = prevA t p i := by
          unfold prevA
          cases i <;> simp
        rw [e] at this
        simpa using this
      · have e : prevA a (t :: p) (p.length + 1) = prevA t p p.length := by
          unfold prevA
          cases hp : p.length <;> simp
        rw [List.length_cons, e] at h6
        exact h6
theorem planP_iff (n : Nat) (gr : Int) (p : List Int) : planP n gr p ↔ okF n gr 0 p := by
  rw [okF_iff n gr p 0 (Int.le_refl _)]
  rfl
theorem okF_mem {n : Nat} {gr : Int} : ∀ {p : List Int} {a : Int}, okF n gr a p → ∀ x ∈ p, a < x ∧ x ≤ n
  | [], _, _, x, hx => by simp at hx
  | t :: p, a, h, x, hx => by
    rcases List.mem_cons.1 hx with rfl | hx
    · exact ⟨h.1, h.2.1⟩
    · have := okF_mem h.2.2.2 x hx
      have := h.1
      omega
theorem mem_plansF (n : Nat) (gr : Int) (hg : 0 ≤ gr) : ∀ (d a : Nat) (plan : List Int), n ≤ a + d → a ≤ n → ∀ p, p ∈ plansF n gr.toNat d a plan ↔ ∃ s, p = plan ++ s ∧ okF n gr a s
  | 0, a, plan, hd, ha, p => by
    have e : a = n := by omega
    subst e
    rw [plansF_leaf]
    constructor
    · intro h
      exact ⟨[], by simpa using h, rfl⟩
    · rintro ⟨s, rfl, hs⟩
      cases s with
      | nil => simp
      | cons t s =>
        have := hs.1
        have := hs.2.1
        omega
  | d + 1, a, plan, hd, ha, p => by
    by_cases e : a = n
    · subst e
      rw [plansF_leaf]
      constructor
      · intro h
        exact ⟨[], by simpa using h, rfl⟩
      · rintro ⟨s, rfl, hs⟩
        cases s with
        | nil => simp
        | cons t s =>
          have := hs.1
          have := hs.2.1
          omega
    · rw [plansF_step _ _ _ _ _ e]
      unfold flatP
      simp only [List.mem_flatMap, List.mem_range]
      constructor
      · rintro ⟨k, hk, hp⟩
        split at hp
        · rename_i hle
          obtain ⟨s, rfl, hs⟩ := (mem_plansF n gr hg d (a + k + 1) _ (by omega) hle p).1 hp
          exact ⟨((a + k + 1 : Nat) : Int) :: s, by simp, by omega, by omega, by omega, hs⟩
        · simp at hp
      · rintro ⟨s, rfl, hs⟩
        cases s with
        | nil => exact absurd (Int.natCast_inj.1 hs) e
        | cons t s =>
          obtain ⟨h1, h2, h3, h4⟩ := hs
          obtain ⟨k, hk⟩ : ∃ k : Nat, t = ((a + k + 1 : Nat) : Int) := ⟨(t - a - 1).toNat, by omega⟩
          subst hk
          refine ⟨k, by omega, ?_⟩
          rw [if_pos (by omega)]
          exact (mem_plansF n gr hg d (a + k + 1) _ (by omega) (by omega) _).2 ⟨s, by simp, h4⟩
theorem mem_plansL (n : Nat) (gr : Int) (hg : 0 ≤ gr) (p : List Int) : p ∈ plansL n gr.toNat ↔ planP n gr p := by
  rw [planP_iff]
  unfold plansL
  rw [mem_plansF n gr hg n 0 [] (by omega) (by omega)]
  simp
def pick1 (bt : Int → Int → Int → Int → Bool) (hn : List Int → Int) (o : Option (List Int)) (p : List Int) : Option (List Int) := match o with | none => some p | some q => if bt p.length (hn p) q.length (hn q) = true then some p else some q
theorem fold_some {bt : Int → Int → Int → Int → Bool} {hn key : List Int → Int} {P : List Int → Prop} (hk : ∀ p q, P p → P q → bt p.length (hn p) q.length (hn q) = decide (key p < key q)) :
    ∀ (l : List (List Int)) (d : List Int), P d → (∀ c ∈ l, P c) → ∃ e, l.foldl (pick1 bt hn) (some d) = some e ∧ P e ∧ (∀ c ∈ l, key e ≤ key c) ∧ key e ≤ key d ∧
      ((e = d) ∨ ∃ l1 l2, l = l1 ++ e :: l2 ∧ key e < key d ∧ ∀ c ∈ l1, key e < key c)
  | [], d, hd, _ => ⟨d, rfl, hd, by simp, by omega, .inl rfl⟩
  | c :: l, d, hd, hl => by
    have hc := hl c List.mem_cons_self
    have hl2 : ∀ c ∈ l, P c := fun x hx => hl x (List.mem_cons_of_mem _ hx)
    rw [List.foldl_cons]
    by_cases h : key c < key d
    · have hb : pick1 bt hn (some d) c = some c := by unfold pick1; simp only; rw [hk c d hc hd, if_pos (by simpa using h)]
      rw [hb]
      obtain ⟨e, he, hP, h1, h2, h3⟩ := fold_some hk l c hc hl2
      refine ⟨e, he, hP, ?_, by omega, .inr ?_⟩
      · intro x hx
        rcases List.mem_cons.1 hx with rfl | hx
        · exact h2
        · exact h1 x hx
      · rcases h3 with rfl | ⟨l1, l2, rfl, h4, h5⟩
        · exact ⟨[], l, rfl, h, by simp⟩
        · refine ⟨c :: l1, l2, rfl, by omega, ?_⟩
          intro x hx
          rcases List.mem_cons.1 hx with rfl | hx
          · exact h4
          · exact h5 x hx
    · have hb : pick1 bt hn (some d) c = some d := by unfold pick1; simp only; rw [hk c d hc hd, if_neg (by simpa using h)]
      rw [hb]
      obtain ⟨e, he, hP, h1, h2, h3⟩ := fold_some hk l d hd hl2
      refine ⟨e, he, hP, ?_, h2, ?_⟩
      · intro x hx
        rcases List.mem_cons.1 hx with rfl | hx
        · omega
        · exact h1 x hx
      · rcases h3 with h3 | ⟨l1, l2, rfl, h4, h5⟩
        · exact .inl h3
        · refine .inr ⟨c :: l1, l2, rfl, h4, ?_⟩
          intro x hx
          rcases List.mem_cons.1 hx with rfl | hx
          · omega
          · exact h5 x hx
theorem bestP_first {bt : Int → Int → Int → Int → Bool} {hn key : List Int → Int} {P : List Int → Prop} (hk : ∀ p q, P p → P q → bt p.length (hn p) q.length (hn q) = decide (key p < key q))
    (l : List (List Int)) (hl : l ≠ []) (hP : ∀ c ∈ l, P c) : ∃ l1 l2, l = l1 ++ bestP bt hn l :: l2 ∧ (∀ c ∈ l, key (bestP bt hn l) ≤ key c) ∧ ∀ c ∈ l1, key (bestP bt hn l) < key c := by
  cases l with
  | nil => exact absurd rfl hl
  | cons c l =>
    have e0 : bestP bt hn (c :: l) = (l.foldl (pick1 bt hn) (some c)).getD [] := rfl
    obtain ⟨e, he, _, h1, h2, h3⟩ := fold_some hk l c (hP c List.mem_cons_self) (fun x hx => hP x (List.mem_cons_of_mem _ hx))
    rw [e0, he]
    simp only [Option.getD_some]
    rcases h3 with rfl | ⟨l1, l2, rfl, h4, h5⟩
    · refine ⟨[], l, rfl, ?_, by simp⟩
      intro x hx
      rcases List.mem_cons.1 hx with rfl | hx
      · omega
      · exact h1 x hx
    · refine ⟨c :: l1, l2, rfl, ?_, ?_⟩
      · intro x hx
        rcases List.mem_cons.1 hx with rfl | hx
        · exact h2
        · exact h1 x hx
      · intro x hx
        rcases List.mem_cons.1 hx with rfl | hx
        · exact h4
        · exact h5 x hx
def handB (pr le mo : Int) (q : List (Int × Int)) (p : List Int) : Int := handN pr le mo (lowOf q) (highOf q) p
theorem handB_bd (pr le mo : Int) (q : List (Int × Int)) (p : List Int) : 0 ≤ handB pr le mo q p ∧ handB pr le mo q p ≤ p.length := handN_bd _ _ _ _ _ _
structure Bk (pr le mo gr : Int) (q : List (Int × Int)) (p : List Int) : Prop where
  plan : planP q.length gr p
  least : ∀ c, planP q.length gr c → handB pr le mo q p ≤ handB pr le mo q c
  long : ∀ c, planP q.length gr c → handB pr le mo q c = handB pr le mo q p → c.length ≤ p.length
theorem best_is {pr le mo gr : Int} {q : List (Int × Int)} (hck : checkB pr le mo gr q = true) : Bk pr le mo gr q (bestPlan pr le mo gr q) ∧
    ∃ l1 l2, plansL q.length gr.toNat = l1 ++ bestPlan pr le mo gr q :: l2 ∧ ∀ c ∈ l1, handB pr le mo q (bestPlan pr le mo gr q) < handB pr le mo q c ∨ (handB pr le mo q (bestPlan pr le mo gr q) = handB pr le mo q c ∧ c.length < (bestPlan pr le mo gr q).length) := by
  have hF := bookF hck
  have hg : 0 ≤ gr := by have := hF.g1; omega
  have h8 : ∀ c, planP q.length gr c → c.length ≤ 8 := fun c hc => Nat.le_trans (planP_length hc) hF.n8
  have hne := plansL_ne q.length gr.toNat (by have := hF.g1; omega)
  obtain ⟨l1, l2, h1, h2, h3⟩ := bestP_first (bt := btFew) (hn := handB pr le mo q) (key := fun p => handB pr le mo q p * 16 - p.length) (P := fun p => p.length ≤ 8)
    (fun p r hp hr => by unfold btFew; rw [Bool.eq_iff_iff]; simp; omega) (plansL q.length gr.toNat) hne (fun c hc => h8 c ((mem_plansL _ _ hg c).1 hc))
  have hb : bestP btFew (handB pr le mo q) (plansL q.length gr.toNat) = bestPlan pr le mo gr q := rfl
  rw [hb] at h1 h2 h3
  have hpl : planP q.length gr (bestPlan pr le mo gr q) := (mem_plansL _ _ hg _).1 (by rw [h1]; simp)
  have hl := h8 _ hpl
  refine ⟨⟨hpl, fun c hc => ?_, fun c hc he => ?_⟩, l1, l2, h1, fun c hc => ?_⟩
  · have := h2 c ((mem_plansL _ _ hg c).2 hc)
    have := h8 c hc
    omega
  · have := h2 c ((mem_plansL _ _ hg c).2 hc)
    omega
  · have := h3 c hc
    have := h8 c ((mem_plansL _ _ hg c).1 (by rw [h1]; simp [hc]))
    omega
end Go.Proofs.YtbbdbdamedaldaaDoor.Fl
end
section
namespace Go.Proofs.YtbbdbdamedaldaaDoor.Fl
open Go
theorem rightB_iff (pr le mo : Int) (l h : Nat → Int) (a b : Nat) : rightB pr le mo l h a b = true ↔ pr - le ≤ sg l a b ∧ sg h a b ≤ pr + mo := by
  unfold rightB rightOf
  simp
theorem filter_le {α : Type} (f g : α → Bool) (h : ∀ x, g x = true → f x = true) : ∀ r : List α, (r.filter g).length ≤ (r.filter f).length
  | [] => by simp
  | x :: r => by
    have ih := filter_le f g h r
    rw [List.filter_cons, List.filter_cons]
    cases h1 : g x with
    | true => rw [h x h1]; simpa using ih
    | false =>
      cases h2 : f x with
      | true => simp only [if_true, List.length_cons, Bool.false_eq_true, if_false]; omega
      | false => simpa using ih
theorem handB_mono {pr le mo pr' le' mo' : Int} {q q' : List (Int × Int)} {p : List Int} (h : ∀ a b, rightB pr le mo (lowOf q) (highOf q) a b = true → rightB pr' le' mo' (lowOf q') (highOf q') a b = true) : handB pr' le' mo' q' p ≤ handB pr le mo q p := by
  unfold handB handN handsTo
  rw [List.length_map, List.length_map]
  have := filter_le (fun i => !rightB pr le mo (lowOf q) (highOf q) ((boxesOf p).getD i (0, 0)).1 ((boxesOf p).getD i (0, 0)).2) (fun i => !rightB pr' le' mo' (lowOf q') (highOf q') ((boxesOf p).getD i (0, 0)).1 ((boxesOf p).getD i (0, 0)).2) (fun i hi => by
    have hx := h ((boxesOf p).getD i (0, 0)).1 ((boxesOf p).getD i (0, 0)).2
    cases h1 : rightB pr le mo (lowOf q) (highOf q) ((boxesOf p).getD i (0, 0)).1 ((boxesOf p).getD i (0, 0)).2 with
    | true => rw [hx h1] at hi; cases hi
    | false => rfl) (List.range p.length)
  omega
end Go.Proofs.YtbbdbdamedaldaaDoor.Fl
end
section
namespace Go.Proofs.YtbbdbdamedaldaaDoor.PL
open Go Go.RowKit Go.Proofs.YtbbdbdamedaldaaDoorW.PrintWords Fl
def inI (x : Int) : Prop := -9223372036854775808 ≤ x ∧ x ≤ 9223372036854775807
def inS (l : List S27) : Prop := ∀ s ∈ l, inI s.f0 ∧ inI s.f1
theorem fits_f (x a b : Int) : luciferref00_Fits.f x a b = some (decide (a ≤ x) && decide (x ≤ b)) := by
  unfold luciferref00_Fits.f
  by_cases h : a ≤ x <;> simp [h]
theorem right_f (x y a b : Int) : luciferref00_Right.f x y a b = some (decide (a ≤ x) && decide (x ≤ y) && decide (y ≤ b)) := by
  unfold luciferref00_Right.f
  by_cases h : a ≤ x <;> by_cases h2 : x ≤ y <;> simp [h, h2]
theorem rd27 (l : List S27) (i : Nat) (hi : i < l.length) : rd_T27 l (i : Int) = l[i] := by
  simp [rd_T27, List.getD_eq_getElem?_getD, List.getElem?_eq_getElem hi]
theorem w64 {x : Int} (h : inI x) : wrap64 x = x := IntWalk.wrap64_in _ h
end Go.Proofs.YtbbdbdamedaldaaDoor.PL
end
section
namespace Go.Proofs.YtbbdbdamedaldaaDoor.PL
open Go Go.RowKit Go.Proofs.YtbbdbdamedaldaaDoorW.PrintWords Fl
theorem spin_f (x m : Int) (h1 : 1 ≤ m) (h2 : m ≤ 9223372036854775807) : luciferref00_Spin.f x m = some (x % m) := by
  unfold luciferref00_Spin.f
  rw [if_neg (by omega), if_neg (by omega)]
  have hm0 : 0 ≤ x % m := Int.emod_nonneg _ (by omega)
  have hm1 : x % m < m := Int.emod_lt_of_pos _ (by omega)
  by_cases h : 0 ≤ x ∨ m ∣ x
  · have e : x.tmod m = x % m := by rw [Int.tmod_eq_emod, if_pos h]; simp
    rw [e, if_neg (by omega)]
  · have e : x.tmod m = x % m - m := by
      rw [Int.tmod_eq_emod, if_neg h]
      omega
    rw [e, if_pos (by omega), w64 ⟨by omega, by omega⟩]
    congr 1
    omega
theorem plan_wf {n : Nat} {gr : Int} {p : List Int} (h : planP n gr p) (hn : n ≤ 8) : wfB p = true := by
  rw [wfB_iff]
  intro x hx
  have := okF_mem ((planP_iff _ _ _).1 h) x hx
  omega
theorem fillCheck_f (a b c d : Int) (l : List S27) (hl : l.length ≤ 9223372036854775807) : Ev (fun k => fill_Check.f k a b c d l) (errOf (checkB a b c d (prs l))) := by
  have hm : (prs l).map mkS = l := by
    unfold prs
    rw [List.map_map]
    have : (mkS ∘ fun x : S27 => (x.f0, x.f1)) = id := rfl
    rw [this, List.map_id]
  have := check_f a b c d (prs l) (by rw [prs_length]; exact hl)
  rw [hm] at this
  exact Ev.of (g := fun k => fill_Check.f k a b c d l) (fun k => fill_Check.mono a b c d l k) this
end Go.Proofs.YtbbdbdamedaldaaDoor.PL
end
section
namespace Go.Proofs.YtbbdbdamedaldaaDoor.PL
open Go Go.RowKit Go.Proofs.YtbbdbdamedaldaaDoorW.PrintWords Go.Proofs.EqArr Go.Proofs.RngLaw Go.Proofs.CopyN Fl
theorem shi_rdi {W : World} {base : Nat} {v : Value} {xs : List Int} (h : ShI W base v xs) : ∃ A c, v = .slice A xs.length c ∧ RdI W A xs := by
  have hV := v_of h
  obtain ⟨A, c, rfl⟩ := Kd.V_slice hV
  exact ⟨A, c, rfl, rdi_of (Kd.V_reads' hV).2.2⟩
theorem best_told (pr le mo gr : Int) (ad : Addr) (n c : Nat) (q : List (Int × Int)) (hn : q.length = n) (hc : n ≤ c) (hck : checkB pr le mo gr q = true) (W : World) (hrd : RdH W (some ad) q) (hLd : Laid W) :
    Calls Tryd.prog 31 #[.agg #[.int .i64 pr, .int .i64 le, .int .i64 mo, .int .i64 gr, .slice (some ad) n c]] W fun e w' => ∃ A c, e = .returned (.tuple #[.slice A (bestPlan pr le mo gr q).length c, .int .i64 0]) ∧ RdI w' A (bestPlan pr le mo gr q) ∧ Below W.heap.size W w' := by
  have h8 := (bookF hck).n8
  refine (apiBest_calls pr le mo gr (some ad) n c q hn.symm (by omega) (by omega) W hrd hLd).mono ?_
  rintro e w' ⟨hb, _, h2⟩
  obtain ⟨v, rfl, hv⟩ := h2 hck
  obtain ⟨A, c', rfl, hr⟩ := shi_rdi hv
  exact ⟨A, c', rfl, hr, hb⟩
theorem hand_told (pr le mo gr : Int) (ad : Addr) (n c : Nat) (q : List (Int × Int)) (hn : q.length = n) (hc : n ≤ c) (hck : checkB pr le mo gr q = true) (A1 : Option Addr) (n1 c1 : Nat) (P : List Int) (hn1 : P.length = n1) (hP : planP q.length gr P) (W : World) (hrd : RdH W (some ad) q) (hp : RdI W A1 P) (hLd : Laid W) :
    Calls Tryd.prog 26 #[.agg #[.int .i64 pr, .int .i64 le, .int .i64 mo, .int .i64 gr, .slice (some ad) n c], .slice A1 n1 c1] W fun e w' => ∃ A c m, e = .returned (.tuple #[.slice A m c, .int .i64 0]) ∧ (m : Int) = handN pr le mo (lowOf q) (highOf q) P ∧ Below W.heap.size W w' := by
  have h8 := (bookF hck).n8
  refine (apiByHand_calls pr le mo gr (some ad) n c q hn.symm (by omega) (by omega) A1 n1 c1 P hn1 W hrd hp ((wfB_iff _).1 (plan_wf hP h8)) hLd).mono ?_
  rintro e w' ⟨hb, _, _, h2⟩
  obtain ⟨v, rfl, hv⟩ := h2 hck hP
  obtain ⟨A, c', rfl, hr⟩ := shi_rdi hv
  exact ⟨A, c', _, rfl, rfl, hb⟩
theorem step_store_at {P : Program} {ops : Array Oper} {o : Oper} {a : Act} {w : World} {K : Act → World → Prop} {Q : Exit → Act → World → Prop} {E : Prop} (hgd : o.guard = none) (ty : TypeId) (x y : Operand) (ho : o.op = .store ty x y)
    (g off : Nat) (cells : Array Value) (hx : a.eval x = .pointer (some ⟨g, off, none⟩)) (hy : a.eval y = .agg cells)
    (t : TypeId) (cur : Array Value) (hg : w.heap[g]? = some (.cells cur t (0, 0))) (hi : (P.info? ty).map (·.size) = some cells.size)
    (hfit : off + cells.size ≤ cur.size) (h1 : ∀ v ∈ cells.toList, v.oneCell' = true)
    (h : K (a.put o.dst undef) (w.setRow g (cur.toList.take off ++ cells.toList ++ cur.toList.drop (off + cells.size)).toArray)) :
    if Region.wanted o (yielded ops a.tmps) = true then Oper.wp P o a w K Q else E := by
  have hw : Region.wanted o (yielded ops a.tmps) = true := by simp [Region.wanted, hgd]
  rw [if_pos hw]
  unfold Oper.wp execOp
  simp only [ho, hx, hy, Instr.storeAt, Instr.sureAddr, Sem.run_bind, Sem.run_pure, Result.andThen_ok, run_storeVar_at w g off t ty cur cells hg hi hfit h1]
  exact h
theorem low_rd (l : List S27) (k : Nat) : (rd_T27 l (k : Int)).f0 = lowOf (prs l) k := by
  unfold lowOf prs rd_T27
  rw [List.getD_eq_getElem?_getD, List.getD_eq_getElem?_getD, List.getElem?_map, Int.toNat_natCast]
  cases l[k]? <;> rfl
theorem high_rd (l : List S27) (k : Nat) : (rd_T27 l (k : Int)).f1 = highOf (prs l) k := by
  unfold highOf prs rd_T27
  rw [List.getD_eq_getElem?_getD, List.getD_eq_getElem?_getD, List.getElem?_map, Int.toNat_natCast]
  cases l[k]? <;> rfl
theorem only_f (x : Int) : luciferref00_Only.f x = some (x, x) := rfl
set_option maxRecDepth 100000 in
set_option maxHeartbeats 4000000 in
theorem worst_walk (pr le mo gr : Int) (A : Option Addr) (c : Nat) (l : List S27) (k n : Nat) (hn : l.length = n) (hk : k < n) (w : World) (hLd : Laid w) (hr : Kd.C k27 w A l.length l) (hc : l.length ≤ c) (hck : checkB pr le mo gr (prs l) = true) :
    Calls Tryd.prog 56 #[.agg #[.int .i64 pr, .int .i64 le, .int .i64 mo, .int .i64 gr, .slice A n c], .int .i64 k] w fun e w' => e = .returned (.int .i64 (worstOf pr le mo gr (prs l) k)) ∧ Below w.heap.size w w' := by
  have hrd := rd_of hr
  obtain ⟨ad, rfl, r0, r1⟩ := at_T27 hr (k : Int) (by omega) (by omega)
  rw [low_rd, Int.toNat_natCast] at r0
  rw [high_rd, Int.toNat_natCast] at r1
  have hql : (prs l).length = n := by rw [prs_length]; exact hn
  obtain ⟨q, hq⟩ : ∃ q, prs l = q := ⟨_, rfl⟩
  rw [hq] at hrd hck r0 r1 hql ⊢
  have hat := (bookF hck).at_ k
  have hwd : highOf q k - lowOf q k ≤ 10 := by
    have hmem : q.getD k (0, 0) ∈ q := by
      rw [List.getD_eq_getElem?_getD, List.getElem?_eq_getElem (by omega)]
      exact List.getElem_mem _
    have := (bookF hck).ok _ hmem
    unfold lowOf highOf
    omega
  have h8 : n ≤ 8 := by rw [← hql]; exact (bookF hck).n8
  have hcn : n ≤ c := by omega
  obtain ⟨lo, hlo⟩ : ∃ lo, lowOf q k = lo := ⟨_, rfl⟩
  obtain ⟨hi, hhi⟩ : ∃ hi, highOf q k = hi := ⟨_, rfl⟩
  rw [hlo] at r0 hat hwd
  rw [hhi] at r1 hat hwd
  obtain ⟨cnt, hcnt⟩ : ∃ cnt : Int, hi - lo + 1 = cnt := ⟨_, rfl⟩
  have hnc : 1 ≤ cnt ∧ cnt ≤ 11 := by omega
  have i24 : ∀ A' n' c', (Tryd.prog.info? 24).map (·.size) = some (#[Value.int .i64 pr, .int .i64 le, .int .i64 mo, .int .i64 gr, .slice A' n' c'] : Array Value).size := fun _ _ _ => info24
  have I24 := Lib.hid i24
  have i27 : ∀ x y : Int, (Tryd.prog.info? 27).map (·.size) = some (#[Value.int .i64 x, .int .i64 y] : Array Value).size := fun x y => by
    have h : (Tryd.prog.info? 27).map (·.size) = some 2 := by kernel_rfl
    exact h
  have I27 := Lib.hid i27
  obtain ⟨i0, hi0, hz0, hz1, hz2⟩ := info_parts info27z
  have Hi := Lib.hid (And.intro hi0 (And.intro hz0 (And.intro hz1 hz2)))
  have hu24 := Tryd.underlying24
  have hu27 := Tryd.underlying27
  have hal0 : Below w.heap.size w (w.alloc (.cells #[.int .i64 pr, .int .i64 le, .int .i64 mo, .int .i64 gr, .slice (some ad) n c] 24)) := (Below.refl _ _).alloc (Nat.le_refl _) _
  have harg : (w.alloc (.cells #[.int .i64 pr, .int .i64 le, .int .i64 mo, .int .i64 gr, .slice (some ad) n c] 24)).heap[w.heap.size]? = some (.cells #[.int .i64 pr, .int .i64 le, .int .i64 mo, .int .i64 gr, .slice (some ad) n c] 24) := Go.heap_alloc_new _ _
  have hsz0 : (w.alloc (.cells #[.int .i64 pr, .int .i64 le, .int .i64 mo, .int .i64 gr, .slice (some ad) n c] 24)).heap.size = w.heap.size + 1 := by simp
  have r00 := cell_kept_below hal0 r0
  have ha40 : (w.alloc (.cells #[.int .i64 pr, .int .i64 le, .int .i64 mo, .int .i64 gr, .slice (some ad) n c] 24)).cell? ⟨w.heap.size, 4, none⟩ = some (.slice (some ad) n c) := (cell_of_row _ _ 4 _ _ _ harg).trans rfl
  have hlk : (k : Int) < n := by omega
  have F0 := Lib.hid (And.intro hal0 (And.intro harg (And.intro hsz0 (And.intro r1 (And.intro hat (And.intro hwd (And.intro hcnt (And.intro hnc (And.intro hlo hhi)))))))))
  have HLd := Lib.hid hLd
  have Hrd := Lib.hid hrd
  have Hck := Lib.hid hck
  have Hm := Lib.hid hql
  clear hal0 harg hsz0 r0 r1 hat hwd hcnt hnc hlo hhi hLd hrd hck hql i24 i27 hi0 hz0 hz1 hz2 hr hc hq hn
  go_enter Tryd.func56, Tryd.ntmps56
  go_wp2_with fail
  clear r00 ha40
  obtain ⟨W0, hW0⟩ : ∃ X, w.alloc (.cells #[.int .i64 pr, .int .i64 le, .int .i64 mo, .int .i64 gr, .slice (some ad) n c] 24) = X := ⟨_, rfl⟩
  rw [hW0] at F0 ⊢
  clear hW0
  go_loopw [5, 6] (fun v5 v6 wr => ∃ j : Nat, (j : Int) ≤ cnt ∧ v6 = .int .i64 (lo + j) ∧ v5 = .int .i64 (worstTo pr le mo gr q k j) ∧ Below W0.heap.size W0 wr) (fun _ v6 _ => (hi + 1 - intOf v6).toNat)
  case atStart => exact ⟨0, by have := F0.out.2.2.2.2.2.2.2.1; omega, by simp, rfl, Below.refl _ _⟩
  case round =>
    obtain ⟨j, hj, rfl, rfl, hbr⟩ := hrel
    have hbw := F0.out.1.trans (hbr.mono (by have := F0.out.2.2.1; omega))
    have hargr := below_heap hbr F0.out.2.1
    have ha4 : wr.cell? ⟨w.heap.size, 4, none⟩ = some (.slice (some ad) n c) := (cell_of_row _ _ 4 _ _ _ hargr).trans rfl
    have r1r := cell_kept_below hbw F0.out.2.2.2.1
    by_cases hltj : (j : Int) < cnt
    · obtain ⟨nv, hnv⟩ : ∃ nv : Int, lo + j = nv := ⟨_, rfl⟩
      have hle : nv ≤ hi := by have := F0.out.2.2.2.2.2.2.1; omega
      have hnvb : 0 ≤ nv ∧ nv ≤ 200 := by have h1 := F0.out.2.2.2.2.1; omega
      rw [hnv]
      have hal : Below wr.heap.size wr (wr.alloc (.cells #[.int .i64 pr, .int .i64 le, .int .i64 mo, .int .i64 gr, .slice (some ad) n c] 24)) := (Below.refl _ _).alloc (Nat.le_refl _) _
      have ga := Go.heap_alloc_new wr (.cells #[.int .i64 pr, .int .i64 le, .int .i64 mo, .int .i64 gr, .slice (some ad) n c] 24)
      have hs1 : (wr.alloc (.cells #[.int .i64 pr, .int .i64 le, .int .i64 mo, .int .i64 gr, .slice (some ad) n c] 24)).heap.size = wr.heap.size + 1 := by simp
      have hsw : w.heap.size + 1 ≤ wr.heap.size := by have := hbr.size; have := F0.out.2.2.1; omega
      have HX := Lib.hid (And.intro hbw (And.intro hnv (And.intro hal (And.intro ga (And.intro hs1 (And.intro hsw (And.intro hbr (And.intro ha4 hargr))))))))
      clear hbw hnv hal ga hs1 hsw hbr
      go_upto_region 6 with (refine wpList_load_row rfl 24 _ rfl w.heap.size rfl 24 _ (0, 0) _ hargr Tryd.underlying24 rfl (I24.out _ _ _) ?_)
      clear ha4 hargr r1r
      obtain ⟨W1, hW1⟩ : ∃ X, wr.alloc (.cells #[.int .i64 pr, .int .i64 le, .int .i64 mo, .int .i64 gr, .slice (some ad) n c] 24) = X := ⟨_, rfl⟩
      rw [hW1] at HX ⊢
      clear hW1
      have hs1 := HX.out.2.2.2.2.1
      have ha41 : W1.cell? ⟨w.heap.size, 4, none⟩ = some (.slice (some ad) n c) := cell_kept_below HX.out.2.2.1 HX.out.2.2.2.2.2.2.2.1
      have hl : (hcells q).length = n * 2 := by rw [hcells_length, Hm.out]; omega
      have hal2 : Below W1.heap.size W1 (W1.alloc (.cells #[] 27)) := (Below.refl _ _).alloc (Nat.le_refl _) _
      have ha42 := cell_kept_below hal2 ha41
      have hne : ∀ j u, (hcells q)[j]? = some u → (W1.alloc (.cells #[] 27)).cell? (ad.add j) = some u := fun j u hu => by
        obtain ⟨a', e, hcc⟩ := ((Hrd.out.below HX.out.1).below HX.out.2.2.1) (by rw [hl]; omega)
        cases e
        exact cell_kept_below hal2 (hcc j u hu)
      have hown : (W1.alloc (.cells #[] 27)).ownsRow (wr.heap.size + 1) 27 2 (.slice (some ⟨wr.heap.size + 1, 0, none⟩) 0 0) 0 [] := by
        rw [← hs1]
        exact ⟨rfl, .inr ⟨W1.heap.size, 0, #[], rfl, Nat.le_refl _, Go.heap_alloc_new _ _, Nat.le_refl _, by unfold maxLen; omega, rfl, rfl⟩⟩
      have H := Lib.hid (And.intro hl (And.intro hne (And.intro hown hal2)))
      clear hl hne hown hal2
      have hpos : 0 < n := by omega
      go_upto_region 7 with (at_builtin; (refine wpList_append_own _ rfl _ _ 22 rfl (wr.heap.size + 1) 27 i0 (.agg #[.int .i64 0, .int .i64 0]) 2 16 Tryd.underlying22 Hi.out.1 Hi.out.2.1 Hi.out.2.2.1 Hi.out.2.2.2 rfl (by decide) (.slice (some ⟨wr.heap.size + 1, 0, none⟩) 0 0) 0 [] rfl H.out.2.2.1 ad n c (hcells q) rfl H.out.1 H.out.2.1 (hcells_one q) (by unfold maxLen; omega) (by omega) (by simp <;> omega) ?_; intro v' w3 hown' hgrow3 hnil3; rw [Nat.zero_add, List.nil_append] at hown'; rcases hown'.2 with ⟨_, h0⟩ | ⟨g, cap, cur, rfl, hg, hh, hn1, hcap, hsz, ht⟩; (· exfalso; omega); have hb2 := H.out.2.2.2.grown hgrow3 (by simp <;> omega) (fun k hk => by cases hk; rw [hs1]; exact Nat.le_refl _); have g2 : w3.heap[wr.heap.size]? = some (.cells #[.int .i64 pr, .int .i64 le, .int .i64 mo, .int .i64 gr, .slice (some ad) n c] 24) := (hb2.block _ (by omega)).trans HX.out.2.2.2.1; have q4 : w3.cell? ⟨wr.heap.size, 4, none⟩ = some (.slice (some ad) n c) := (cell_of_row _ _ 4 _ _ _ g2).trans rfl; have q5 := frozen_of_row _ _ 4 _ _ g2))
      obtain ⟨w3d, hw3e⟩ : ∃ X, w3.setCell ⟨wr.heap.size, 4, none⟩ (.slice (some ⟨g, 0, none⟩) n cap) = X := ⟨_, rfl⟩
      have g3 : w3d.heap[g]? = some (.cells cur 27) := by rw [← hw3e]; exact (heap_setCell_other _ _ _ _ (by simp; omega)).trans hh
      have g3b : w3d.heap[wr.heap.size]? = some (.cells #[.int .i64 pr, .int .i64 le, .int .i64 mo, .int .i64 gr, .slice (some ⟨g, 0, none⟩) n cap] 24) := by rw [← hw3e]; exact heap_setCell_same _ _ _ _ _ _ g2
      have q43 : w3d.cell? ⟨wr.heap.size, 4, none⟩ = some (.slice (some ⟨g, 0, none⟩) n cap) := (cell_of_row _ _ 4 _ _ _ g3b).trans rfl
      have hb3 : Below wr.heap.size wr w3d := by rw [← hw3e]; exact (HX.out.2.2.1.trans (hb2.mono (by omega))).setCell (p := ⟨wr.heap.size, 4, none⟩) (Nat.le_refl _) _
      have hgw : wr.heap.size < g := by omega
      have hfit : k * 2 + 2 ≤ cur.size := by rw [hsz]; omega
      rw [hw3e]
      have HY := Lib.hid (And.intro hb3 (And.intro hgw (And.intro hcap (And.intro hsz (And.intro ht (And.intro g3 (And.intro g3b hfit)))))))
      clear hw3e hb2 g2 q4 q5 hh hb3 hsz ht hg hcap g3 g3b hgw hfit ha42
      refine wp_region_held_drew (S := fun W => W.cell? ⟨wr.heap.size, 4, none⟩ = some (.slice (some ⟨g, 0, none⟩) n cap)) (by kernel_rfl) q43 (fun hS => ?_)
      refine wpAnyH_take (i := 0) (oi := _) (v := .pointer (some ⟨wr.heap.size, 4, none⟩)) rfl (by kernel_rfl) (by kernel_rfl) (by kernel_rfl) (fun _ _ _ h => h) (Or.inl ⟨by rfl, fun W hW => ?_⟩) (by assumption) ?_
      · go_simp
      simp only [Act.put, List.getElem_toArray, List.getElem_cons_succ, List.getElem_cons_zero, List.setIfInBounds_toArray, List.set_cons_zero, List.set_cons_succ]
      refine wpAnyH_take (i := 1) (oi := _) (v := .slice (some ⟨g, 0, none⟩) n cap) rfl (by kernel_rfl) (by kernel_rfl) (by kernel_rfl) (fun _ _ _ h => h) (Or.inl ⟨by rfl, fun W hW => ?_⟩) (by assumption) ?_
      · go_simp
      simp only [Act.put, List.getElem_toArray, List.getElem_cons_succ, List.getElem_cons_zero, List.setIfInBounds_toArray, List.set_cons_zero, List.set_cons_succ]
      refine wpAnyH_take (i := 2) (oi := _) (v := .int .i64 k) rfl (by kernel_rfl) (by kernel_rfl) (by kernel_rfl) (fun _ _ _ h => h) (Or.inl ⟨by rfl, fun W hW => ?_⟩) (by assumption) ?_
      · go_simp
      simp only [Act.put, List.getElem_toArray, List.getElem_cons_succ, List.getElem_cons_zero, List.setIfInBounds_toArray, List.set_cons_zero, List.set_cons_succ]
      refine wpAnyH_take (i := 3) (oi := _) (v := .int .i64 nv) rfl (by kernel_rfl) (by kernel_rfl) (by kernel_rfl) (fun _ _ _ h => h) (Or.inl ⟨by rfl, fun W hW => ?_⟩) (by assumption) ?_
      · go_simp
      simp only [Act.put, List.getElem_toArray, List.getElem_cons_succ, List.getElem_cons_zero, List.setIfInBounds_toArray, List.set_cons_zero, List.set_cons_succ]
      refine wpAnyH_ready (rs := [4]) (by kernel_rfl) (by simp) ?_
      refine AllReadyH.cons rfl (fun K hK => ?_) AllReadyH.nil
      go_simp
      refine (luciferref00_Only.calls nv nv nv _ (only_f nv)).mono ?_
      rintro e w5 ⟨rfl, hb5⟩
      refine hK.out _ _ (cell_kept_below hb5 hS) (fun hS2 => ?_)
      clear hK K
      refine wpAnyH_take (i := 5) (oi := _) (v := .pointer (some ⟨g, k * 2, none⟩)) rfl (by kernel_rfl) (by kernel_rfl) (by kernel_rfl) (fun _ _ _ h => h) (Or.inl ⟨by rfl, fun W hW => ?_⟩) (by assumption) ?_
      · go_simp
      simp only [Act.put, List.getElem_toArray, List.getElem_cons_succ, List.getElem_cons_zero, List.setIfInBounds_toArray, List.set_cons_zero, List.set_cons_succ]
      have hg3d : g < w3d.heap.size := (Array.getElem?_eq_some_iff.1 HY.out.2.2.2.2.2.1).1
      have g5 : w5.heap[g]? = some (.cells cur 27) := (hb5.block g (by exact hg3d)).trans (by exact HY.out.2.2.2.2.2.1)
      have g5b : w5.heap[wr.heap.size]? = some (.cells #[.int .i64 pr, .int .i64 le, .int .i64 mo, .int .i64 gr, .slice (some ⟨g, 0, none⟩) n cap] 24) := (hb5.block wr.heap.size (by have := HY.out.2.1; show _ < w3d.heap.size; omega)).trans (by exact HY.out.2.2.2.2.2.2.1)
      have hb35 : Below wr.heap.size wr w5 := (below_drew1 HY.out.1).trans (hb5.mono (by have := HY.out.1.size; simpa using this))
      refine wpAnyH_ready (rs := [6]) (by kernel_rfl) (by simp) ?_
      refine AllReadyH.cons rfl (fun K hK => ?_) AllReadyH.nil
      refine step_store_at rfl 27 _ _ rfl g (k * 2) #[.int .i64 nv, .int .i64 nv] (by rfl) (by rfl) 27 cur g5 (I27.out _ _) HY.out.2.2.2.2.2.2.2 (by simp [Value.oneCell']) ?_
      obtain ⟨W4, hW4⟩ : ∃ X, w5.setRow g (cur.toList.take (k * 2) ++ (#[.int .i64 nv, .int .i64 nv] : Array Value).toList ++ cur.toList.drop (k * 2 + (#[.int .i64 nv, .int .i64 nv] : Array Value).size)).toArray = X := ⟨_, rfl⟩
      rw [hW4]
      obtain ⟨rest, hrest⟩ := set_row k (nv, nv) (by rw [Hm.out]; exact hk) (cur := cur) (by rw [hcells_length, Hm.out, Nat.mul_comm]; exact HY.out.2.2.2.2.1)
      have hb4 : Below wr.heap.size wr W4 := by rw [← hW4]; exact below_setRow hb35 (by have := HY.out.2.1; omega) _
      have g4 : W4.heap[wr.heap.size]? = some (.cells #[.int .i64 pr, .int .i64 le, .int .i64 mo, .int .i64 gr, .slice (some ⟨g, 0, none⟩) n cap] 24) := by rw [← hW4]; exact (setRow_other _ _ _ _ (by have := HY.out.2.1; omega)).trans g5b
      have rd4 : RdH W4 (some ⟨g, 0, none⟩) (q.set k (nv, nv)) := by rw [← hW4]; exact rdH_row (setRow_heap _ _ _ _ _ _ g5) (rest := rest) (by simpa using hrest)
      have hq' : (q.set k (nv, nv)).length = n := by rw [List.length_set]; exact Hm.out
      have ck4 := checkB_set Hck.out k nv hnvb.1 hnvb.2
      have hLd4 : Laid W4 := HLd.out.below (HX.out.1.trans (hb4.mono HX.out.1.size))
      have q44 : W4.cell? ⟨wr.heap.size, 4, none⟩ = some (.slice (some ⟨g, 0, none⟩) n cap) := (cell_of_row _ _ 4 _ _ _ g4).trans rfl
      refine hK.out _ _ q44 (fun hS3 => ?_)
      clear hK K
      refine wpAnyH_done (by kernel_rfl) ?_ _
      have hwj : worstTo pr le mo gr q k (j + 1) = max (worstTo pr le mo gr q k j) (handN pr le mo (lowOf (q.set k (nv, nv))) (highOf (q.set k (nv, nv))) (bestPlan pr le mo gr (q.set k (nv, nv)))) := by
        show max _ (handBest pr le mo gr (q.set k (lowOf q k + j, lowOf q k + j))) = _
        rw [F0.out.2.2.2.2.2.2.2.2.1, HX.out.2.1]
        rfl
      obtain ⟨q2, hq2⟩ : ∃ q2, q.set k (nv, nv) = q2 := ⟨_, rfl⟩
      rw [hq2] at rd4 hq' ck4 hwj
      have bst := best_told pr le mo gr ⟨g, 0, none⟩ n cap q2 hq' hn1 ck4 W4 rd4 hLd4
      have hpl := (best_is ck4).1.plan
      obtain ⟨P, hP⟩ : ∃ P, bestPlan pr le mo gr q2 = P := ⟨_, rfl⟩
      rw [hP] at bst hpl hwj
      have hnd := fun (w6 : World) (hb6 : Below W4.heap.size W4 w6) A1 n1 c1 (hn1' : P.length = n1) (hr1 : RdI w6 A1 P) => hand_told pr le mo gr ⟨g, 0, none⟩ n cap q2 hq' hn1 ck4 A1 n1 c1 P hn1' hpl w6 (rd4.below hb6) hr1 (hLd4.below hb6)
      have Bst := Lib.hid bst
      have Hnd := Lib.hid hnd
      have HZ := Lib.hid (And.intro hwj (And.intro hb4 hb35))
      clear hW4 hrest rd4 hnvb ck4 bst hnd hpl hP hq2 hwj hb4 hq' hS hS2 hS3 q43 q44 hLd4 g5 g5b hb35 hb5 hg3d hown' hgrow3 hnil3
      go_wp2_with (first
        | (refine wpList_load_row rfl 24 _ rfl wr.heap.size rfl 24 _ (0, 0) _ g4 Tryd.underlying24 rfl (I24.out _ _ _) ?_)
        | (go_at_call 31; refine Bst.out.mono ?_; rintro e w6 ⟨A6, c6, rfl, hr6, hb6⟩; have g6 := below_heap hb6 g4)
        | (refine wpList_load_row rfl 24 _ rfl wr.heap.size rfl 24 _ (0, 0) _ g6 Tryd.underlying24 rfl (I24.out _ _ _) ?_)
        | (go_at_call 26; refine (Hnd.out _ hb6 A6 _ c6 rfl hr6).mono ?_; rintro e w7 ⟨A7, c7, m7, rfl, hm7, hb7⟩))
      have hb67 : Below W4.heap.size W4 w7 := hb6.trans (hb7.mono hb6.size)
      have hb47 : Below wr.heap.size wr w7 := HZ.out.2.1.trans (hb67.mono HZ.out.2.1.size)
      have hbr := HX.out.2.2.2.2.2.2.1
      have hnv := HX.out.2.1
      have hat := F0.out.2.2.2.2.1
      have hcnt := F0.out.2.2.2.2.2.2.1
      have hw4 : wrap64 (nv + 1) = nv + 1 := IntWalk.wrap64_in _ (by omega)
      rw [hw4]
      clear hw4
      refine ⟨⟨j + 1, by omega, by rw [show nv + 1 = lo + ((j + 1 : Nat) : Int) by omega], by rw [HZ.out.1], hbr.trans (hb47.mono hbr.size)⟩, ?_⟩
      show (hi + 1 - (nv + 1)).toNat < (hi + 1 - nv).toNat
      omega
    · have hjc : j = (highOf q k - lowOf q k + 1).toNat := by
        have h1 := F0.out.2.2.2.2.2.2.2.2.1
        have h2 := F0.out.2.2.2.2.2.2.2.2.2
        have h3 := F0.out.2.2.2.2.2.2.1
        omega
      have hwo : worstTo pr le mo gr q k j = worstOf pr le mo gr q k := by unfold worstOf; rw [hjc]
      have hnle : ¬ (lo + (j : Int) ≤ hi) := by have := F0.out.2.2.2.2.2.2.1; omega
      rw [hwo]
      clear hjc hwo
      go_wp2
      go_ret
      exact ⟨rfl, hbw⟩
def luciferlaw05_worst.f (a b c d : Int) (l : List S27) (i : Int) : Option Int := if checkB a b c d (prs l) = true ∧ 0 ≤ i ∧ i < l.length then some (worstOf a b c d (prs l) i.toNat) else none
theorem luciferlaw05_worst.calls (a b c d : Int) (A : Option Addr) (cap : Nat) (l : List S27) (i : Int) (r : Int) (w : World) (hLd : Laid w) (hr : Kd.C k27 w A l.length l) (hc : l.length ≤ cap)
    (h : luciferlaw05_worst.f a b c d l i = some r) :
    Calls Tryd.prog 56 #[.agg #[.int .i64 a, .int .i64 b, .int .i64 c, .int .i64 d, .slice A l.length cap], .int .i64 i] w fun e w' => e = .returned (.int .i64 r) ∧ Below w.heap.size w w' := by
  unfold luciferlaw05_worst.f at h
  by_cases hy : checkB a b c d (prs l) = true ∧ 0 ≤ i ∧ i < l.length
  case neg => rw [if_neg hy] at h; cases h
  rw [if_pos hy] at h
  obtain rfl := Option.some.inj h
  obtain ⟨k, rfl⟩ : ∃ k : Nat, i = k := ⟨i.toNat, by omega⟩
  exact worst_walk a b c d A cap l k l.length rfl (by omega) w hLd hr hc hy.1
end Go.Proofs.YtbbdbdamedaldaaDoor.PL
end
