/- The card of FillKinds: the row, its listed variable tied to the program's text. Whatever the input, the law returns true, and each argument reads afterwards as it did. (part 14) -/
import Derived.WalkKit
import Derived.ProofKit
import Derived.OpenShut
import Derived.ShutString
import Derived.ChangeOld
import Derived.SizedLaws
import Derived.LaidMore
import Derived.Stop.Joined
import Derived.Lib.SmallJoins
import Derived.Deep.Slices
import Derived.Deep.Fields
import Derived.ChangeSame
import Derived.Test.YtbbdbdamedaldaaDoorRows
import Derived.Test.YtbbdbdamedaldaaDoorKinds12
set_option linter.unusedVariables false
set_option linter.unusedSimpArgs false
section
namespace Go.Proofs.YtbbdbdamedaldaaDoor.Rw
open Go Go.Proofs.YtbbdbdamedaldaaDoorW.PrintWords Go.ChangeShapes Go.WideShapes Go.ChangeAt Go.RowKit Go.Joins Go.Deep
open Go.ChangeMaps (open_string shut_string)
section
variable {H : Type} {enc : TypeId × Value → H} {P : Program} {w : World} {base : Nat} {spare : Nat → Bool} {held : Bool}
theorem open_slice_fields {t e : TypeId} {fs : Array Field} {fuel : Nat} {cs : List Value} {x : DataW H × List MemPlace} (ht : P.underlying t = some (.slice e)) (he : P.underlying e = some (.struct fs))
    (hone : oneCellFields P fs = true) (hC : P.cellsOf e = fs.size) (h : DataW.trod enc P w base spare held fuel t cs = some x) :
    (cs = [.slice none 0 0] ∧ x = (.nil, [])) ∨
    ∃ (a : Addr) (len cap m : Nat) (D : Nat → DataW H) (Pl : Nat → List MemPlace), cs = [.slice (some a) len cap] ∧ base ≤ a.block ∧ len ≤ cap ∧ cap ≤ maxLen ∧ m = (if spare a.block then cap else len) ∧
      x = (.slice ((List.range len).map D) ((List.range (m - len)).map fun j => D (len + j)), MemPlace.row a (m * fs.size) ++ (List.range m).flatMap Pl) ∧
      ∀ i, i < m → ∃ (ys : List (DataW H × List MemPlace)) (n : Nat), D i = .agg (ys.map (·.1)) ∧ Pl i = ys.flatMap (·.2) ∧ ys.length = fs.size ∧
        ∀ (j : Nat) (f : Field), fs[j]? = some f → ∃ (v : Value) (y : DataW H × List MemPlace), w.cell? (a.add (i * fs.size + j)) = some v ∧ ys[j]? = some y ∧ DataW.trod enc P w base spare held n f.type [v] = some y := by
  rcases open_slice ht h with h0 | ⟨a, len, cap, m, n, D, Pl, hcs, hb, hl, hm, hmm, hx, hi⟩
  · exact .inl h0
  · refine .inr ⟨a, len, cap, m, D, Pl, hcs, hb, hl, hm, hmm, by rw [hC] at hx; exact hx, fun i him => ?_⟩
    obtain ⟨cs', hc, ht'⟩ := hi i him
    rw [hC] at hc
    obtain ⟨ys, n', hn', hy, hlen, hyl, hf⟩ := DataW.trod_struct he ht'
    obtain ⟨_, hcl, hat⟩ := World.cells?_some hc
    simp only [Prod.mk.injEq] at hy
    refine ⟨ys, n', hy.1, hy.2, hyl, fun j f hj => ?_⟩
    obtain ⟨ho, hk⟩ := hone_of hone j f hj
    have hjl : j < fs.size := (Array.getElem?_eq_some_iff.1 hj).1
    have hcell := hat j hjl
    have hv : cs'[j]? = some (cs'[j]'(by omega)) := List.getElem?_eq_getElem (by omega)
    have h1 := hf j f hj
    rw [ho, hk] at h1
    have hone' : (cs'.drop j).take 1 = [cs'[j]'(by omega)] := by
      rw [List.drop_eq_getElem_cons (by omega)]
      rfl
    rw [hone'] at h1
    have hys : ys[j]? = some (ys[j]'(by omega)) := List.getElem?_eq_getElem (by omega)
    refine ⟨_, _, ?_, hys, h1.trans hys⟩
    rw [← Go.Deep.add_add, hcell, hv]
end
section
variable {H : Type} {enc : TypeId × Value → H} {P : Program} {w : World} {base : Nat} {spare : Nat → Bool} {held : Bool}
theorem open_agg5 {r : Reach} {b0 : Nat} {t : TypeId} {f0 f1 f2 f3 f4 : Field} {v : Value} {d : DataW H} {p : List MemPlace} (hs : P.underlying t = some (.struct #[f0, f1, f2, f3, f4])) (hone : oneCellFields P #[f0, f1, f2, f3, f4] = true) (hC : P.cellsOf t = 5)
    (hv : Value.okWide P w r b0 t v) (h : DataW.Trod enc P w base spare held t v d p) :
    ∃ (v0 v1 v2 v3 v4 : Value) (y0 y1 y2 y3 y4 : DataW H × List MemPlace) (n : Nat), v = .agg #[v0, v1, v2, v3, v4] ∧ d = .agg [y0.1, y1.1, y2.1, y3.1, y4.1] ∧ p = y0.2 ++ (y1.2 ++ (y2.2 ++ (y3.2 ++ y4.2))) ∧
      DataW.trod enc P w base spare held n f0.type [v0] = some y0 ∧ DataW.trod enc P w base spare held n f1.type [v1] = some y1 ∧ DataW.trod enc P w base spare held n f2.type [v2] = some y2 ∧ DataW.trod enc P w base spare held n f3.type [v3] = some y3 ∧ DataW.trod enc P w base spare held n f4.type [v4] = some y4 := by
  obtain ⟨cs, rfl, hsz⟩ := okWide_struct hs hv
  obtain ⟨l⟩ := cs
  match l, hsz.trans hC with
  | [c0, c1, c2, c3, c4], _ =>
    obtain ⟨fuel, hf⟩ := h
    obtain ⟨xs, n, _, hx, _, hlen, hg⟩ := DataW.trod_struct hs hf
    obtain ⟨o0, k0⟩ := hone_of hone 0 f0 rfl
    obtain ⟨o1, k1⟩ := hone_of hone 1 f1 rfl
    obtain ⟨o2, k2⟩ := hone_of hone 2 f2 rfl
    obtain ⟨o3, k3⟩ := hone_of hone 3 f3 rfl
    obtain ⟨o4, k4⟩ := hone_of hone 4 f4 rfl
    match xs, hlen with
    | [y0, y1, y2, y3, y4], _ =>
      simp only [Prod.mk.injEq] at hx
      exact ⟨c0, c1, c2, c3, c4, y0, y1, y2, y3, y4, n, rfl, by simpa using hx.1, by simpa using hx.2, by simpa [Value.cells, o0, k0] using hg 0 f0 rfl, by simpa [Value.cells, o1, k1] using hg 1 f1 rfl, by simpa [Value.cells, o2, k2] using hg 2 f2 rfl, by simpa [Value.cells, o3, k3] using hg 3 f3 rfl, by simpa [Value.cells, o4, k4] using hg 4 f4 rfl⟩
end
abbrev laid1 {H : Type} : List (String × DataW H) := [("lucifer/fill.ends", Rows.laid_lucifer_fill_ends)]
theorem own : ownKnob Tryd.prog.godebug = none := by kernel_rfl
theorem laidOut : laidOutB Tryd.prog = true := by kernel_rfl
theorem gEnds : Tryd.prog.globalNamed "lucifer/fill.ends" = some 0 := by kernel_rfl
theorem tEnds : (Tryd.prog.globals[0]?).map (·.type) = some 115 := by kernel_rfl
theorem cTab : Tryd.prog.cellsOf 114 = 1 := by kernel_rfl
theorem door_met (os : Os) (args : Array Value) : laidMetH Tryd.prog laid1 ((World.doorLaid Tryd.prog 600 os).forCall (fun _ _ => 0) ⟨#[], args, []⟩).memory :=
  laidMetH_of_parts3 (fuel := 8) (laidMet_of_run' 8 (by kernel_rfl) (by kernel_rfl)) (by kernel_rfl) (by kernel_rfl)
set_option maxRecDepth 100000 in
theorem laid_of {W : World} (h : laidMetH Tryd.prog laid1 W) : Fl.Laid W := by
  obtain ⟨g, t, cs, fuel, p, hg, ht, hv, hd⟩ := h.funcs (List.mem_singleton.2 rfl)
  obtain rfl := Option.some.inj (gEnds.symm.trans hg)
  obtain rfl := Option.some.inj (tEnds.symm.trans ht)
  have hd' : DataW.trod (funcToken Tryd.prog) Tryd.prog W 0 (fun _ => true) true fuel 115 cs.toList = some (.agg [.held [40, 108, 117, 99, 105, 102, 101, 114, 47, 102, 105, 108, 108, 46, 98, 111, 111, 107, 41, 46, 108, 111, 119], .held [40, 108, 117, 99, 105, 102, 101, 114, 47, 102, 105, 108, 108, 46, 98, 111, 111, 107, 41, 46, 104, 105, 103, 104]], p) := hd
  obtain ⟨xs, m, _, ex, hlen, hl, hel⟩ := DataW.trod_array Tryd.underlying115 hd'
  have h0 := hel 0 (by decide)
  have h1 := hel 1 (by decide)
  rw [cTab] at h0 h1
  have hlen2 : cs.toList.length = 2 := hlen.trans (by kernel_rfl)
  obtain ⟨l⟩ := cs
  match l, hlen2, xs, hl with
  | [c0, c1], _, [x0, x1], _ =>
    simp only [List.map_cons, List.map_nil, Prod.mk.injEq, DataW.agg.injEq, List.cons.injEq] at ex
    obtain ⟨⟨e0, e1, _⟩, _⟩ := ex
    obtain ⟨d0, q0⟩ := x0
    obtain ⟨d1, q1⟩ := x1
    simp only at e0 e1
    subst e0
    subst e1
    have f0 := func_of_trod (f0 := 138) Tryd.underlying114 (by kernel_rfl) h0
    have f1 := func_of_trod (f0 := 136) Tryd.underlying114 (by kernel_rfl) h1
    have v0 := World.var?_cell hg hv 0
    have v1 := World.var?_cell hg hv 1
    subst f0
    subst f1
    exact ⟨by simpa using v0, by simpa using v1⟩
def inI (x : Int) : Prop := -9223372036854775808 ≤ x ∧ x ≤ 9223372036854775807
theorem inI_of {x : Int} (h : (Lit.int .i64 x).wf = true) : inI x := by
  simp [Lit.wf, IntKind.min, IntKind.max, IntKind.signed, IntKind.bits] at h
  exact ⟨by omega, by omega⟩
def inS (l : List PL.S27) : Prop := ∀ s ∈ l, inI s.f0 ∧ inI s.f1
theorem list_of {α : Type} : ∀ (n : Nat) (P : Nat → α → Prop), (∀ i, i < n → ∃ s, P i s) → ∃ l : List α, l.length = n ∧ ∀ i s, l[i]? = some s → P i s
  | 0, _, _ => ⟨[], rfl, fun i s h => by simp at h⟩
  | n + 1, P, hel => by
    obtain ⟨s0, h0⟩ := hel 0 (by omega)
    obtain ⟨l, hl, hp⟩ := list_of n (fun i s => P (i + 1) s) (fun i hi => hel (i + 1) (by omega))
    refine ⟨s0 :: l, by simp [hl], fun i s h => ?_⟩
    cases i with
    | zero => simp at h; subst h; exact h0
    | succ i => exact hp i s (by simpa using h)
set_option maxRecDepth 100000 in
theorem spans_open {H : Type} {enc : TypeId × Value → H} {W : World} {base fuel : Nat} {spare : Nat → Bool} {held : Bool} {v : Value} {x : DataW H × List MemPlace} (h : DataW.trod enc Tryd.prog W base spare held fuel 22 [v] = some x) :
    ∃ (A : Option Addr) (c : Nat) (l : List PL.S27), v = .slice A l.length c ∧ l.length ≤ c ∧ Kd.C PL.k27 W A l.length l ∧ inS l := by
  rcases open_slice_fields (e := 27) Tryd.underlying22 Tryd.underlying27 (by kernel_rfl) (by kernel_rfl) h with ⟨hc, _⟩ | ⟨a, len, cap, m, D, Pl, hcs, _, hl, hm, hmm, _, hi⟩
  · simp only [List.cons.injEq, and_true] at hc
    subst hc
    exact ⟨none, 0, [], rfl, by simp, ⟨rfl, by simp, fun h => by simp at h⟩, fun s hs => by simp at hs⟩
  · simp only [List.cons.injEq, and_true] at hcs
    subst hcs
    have hlm : len ≤ m := by rw [hmm]; split <;> omega
    have hel : ∀ i, i < len → ∃ s : PL.S27, W.cell? (a.add (i * 2 + 0)) = some (.int .i64 s.f0) ∧ W.cell? (a.add (i * 2 + 1)) = some (.int .i64 s.f1) ∧ inI s.f0 ∧ inI s.f1 := by
      intro i hil
      obtain ⟨ys, n, _, _, _, hf⟩ := hi i (by omega)
      obtain ⟨v0, y0, hc0, _, ht0⟩ := hf 0 _ rfl
      obtain ⟨v1, y1, hc1, _, ht1⟩ := hf 1 _ rfl
      obtain ⟨n0, e0, _, w0⟩ := DataW.trod_int Tryd.underlying3 ht0
      obtain ⟨n1, e1, _, w1⟩ := DataW.trod_int Tryd.underlying3 ht1
      simp only [List.cons.injEq, and_true] at e0 e1
      subst e0
      subst e1
      exact ⟨⟨n0, n1⟩, hc0, hc1, inI_of w0, inI_of w1⟩
    have hsp := list_of len _ hel
    obtain ⟨l, hll, hp⟩ := hsp
    subst hll
    refine ⟨some a, cap, l, rfl, hl, ⟨rfl, Nat.le_trans hl hm, fun _ => ⟨a, rfl, fun j p hj => ?_⟩⟩, fun s hs => ?_⟩
    · obtain ⟨h0, h1, _⟩ := hp j p hj
      refine ⟨[.int .i64 p.f0, .int .i64 p.f1], rfl, PL.k27_mk W p, fun i u hu => ?_⟩
      match i, hu with
      | 0, hu => cases hu; exact h0
      | 1, hu => cases hu; exact h1
    · obtain ⟨i, hi', rfl⟩ := List.mem_iff_getElem.1 hs
      exact (hp i _ (List.getElem?_eq_getElem hi')).2.2
set_option maxRecDepth 100000 in
theorem book_open {H : Type} {enc : TypeId × Value → H} {r : Reach} {b0 : Nat} {W : World} {base : Nat} {spare : Nat → Bool} {held : Bool} {v : Value} {d : DataW H} {p : List MemPlace}
    (hv : Value.okWide Tryd.prog W r b0 24 v) (h : DataW.Trod enc Tryd.prog W base spare held 24 v d p) :
    ∃ (a b c e : Int) (A : Option Addr) (cap : Nat) (l : List PL.S27), v = .agg #[.int .i64 a, .int .i64 b, .int .i64 c, .int .i64 e, .slice A l.length cap] ∧ l.length ≤ cap ∧ Kd.C PL.k27 W A l.length l ∧ inI a ∧ inI b ∧ inI c ∧ inI e ∧ inS l := by
  obtain ⟨v0, v1, v2, v3, v4, y0, y1, y2, y3, y4, n, rfl, _, _, h0, h1, h2, h3, h4⟩ := open_agg5 Tryd.underlying24 (by kernel_rfl) (by kernel_rfl) hv h
  obtain ⟨n0, e0, _, w0⟩ := DataW.trod_int Tryd.underlying3 h0
  obtain ⟨n1, e1, _, w1⟩ := DataW.trod_int Tryd.underlying3 h1
  obtain ⟨n2, e2, _, w2⟩ := DataW.trod_int Tryd.underlying3 h2
  obtain ⟨n3, e3, _, w3⟩ := DataW.trod_int Tryd.underlying3 h3
  simp only [List.cons.injEq, and_true] at e0 e1 e2 e3
  subst e0
  subst e1
  subst e2
  subst e3
  obtain ⟨A, c, l, rfl, hl, hC, hin⟩ := spans_open h4
  exact ⟨n0, n1, n2, n3, A, c, l, rfl, hl, hC, inI_of w0, inI_of w1, inI_of w2, inI_of w3, hin⟩
theorem cInt : Tryd.prog.cellsOf 3 = 1 := by kernel_rfl
set_option maxRecDepth 100000 in
theorem arr3_open {H : Type} {enc : TypeId × Value → H} {b0 : Nat} {W : World} {base : Nat} {spare : Nat → Bool} {held : Bool} {t : TypeId} {v : Value} {d : DataW H} {p : List MemPlace} (ht : Tryd.prog.underlying t = some (.array 3 3)) (hc : Tryd.prog.cellsOf t = 3)
    (hv : Value.okWide Tryd.prog W .any b0 t v) (h : DataW.Trod enc Tryd.prog W base spare held t v d p) : ∃ x0 x1 x2 : Int, v = .agg #[.int .i64 x0, .int .i64 x1, .int .i64 x2] ∧ inI x0 ∧ inI x1 ∧ inI x2 := by
  obtain ⟨cs, rfl, hsz, _⟩ : ∃ cs, v = .agg cs ∧ cs.size = Tryd.prog.cellsOf t ∧ Row.okWide Tryd.prog W .any b0 t cs := by simpa [Value.okWide, ht] using hv
  rw [hc] at hsz
  obtain ⟨l⟩ := cs
  obtain ⟨fuel, hf⟩ := h
  obtain ⟨xs, m, _, _, _, hl, hel⟩ := DataW.trod_array ht hf
  match l, hsz, xs, hl with
  | [c0, c1, c2], _, [y0, y1, y2], _ =>
    have h0 := hel 0 (by decide)
    rw [cInt] at h0
    obtain ⟨x0, e0, _, w0⟩ := DataW.trod_int Tryd.underlying3 (show DataW.trod enc Tryd.prog W base spare held m 3 [c0] = some y0 from h0)
    simp only [List.cons.injEq, and_true] at e0
    subst e0
    have h1 := hel 1 (by decide)
    rw [cInt] at h1
    obtain ⟨x1, e1, _, w1⟩ := DataW.trod_int Tryd.underlying3 (show DataW.trod enc Tryd.prog W base spare held m 3 [c1] = some y1 from h1)
    simp only [List.cons.injEq, and_true] at e1
    subst e1
    have h2 := hel 2 (by decide)
    rw [cInt] at h2
    obtain ⟨x2, e2, _, w2⟩ := DataW.trod_int Tryd.underlying3 (show DataW.trod enc Tryd.prog W base spare held m 3 [c2] = some y2 from h2)
    simp only [List.cons.injEq, and_true] at e2
    subst e2
    exact ⟨x0, x1, x2, rfl, inI_of w0, inI_of w1, inI_of w2⟩
end Go.Proofs.YtbbdbdamedaldaaDoor.Rw
end
