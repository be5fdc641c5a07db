/- The card of FillFewest: the row, its listed variable tied to the program's text. Whatever the input, the law returns true, and each argument reads afterwards as it did. (part 11) -/
import Derived.WalkKit
import Derived.ProofKit
import Derived.OpenShut
import Derived.ShutString
import Derived.ChangeOld
import Derived.SizedLaws
import Derived.LaidMore
import Derived.Stop.Joined
import Derived.Lib.SmallJoins
import Derived.Deep.Slices
import Derived.Deep.Fields
import Derived.ChangeSame
import Derived.Test.YtbbdbdamedaldaaDoorRows
import Derived.Test.YtbbdbdamedaldaaDoorFewest9
set_option linter.unusedVariables false
set_option linter.unusedSimpArgs false
section
namespace Go.Proofs.YtbbdbdamedaldaaDoor.Rw
open Go Go.Proofs.YtbbdbdamedaldaaDoorW.PrintWords Go.ChangeShapes Go.WideShapes Go.ChangeAt Go.RowKit Go.Joins Go.Deep
open Go.ChangeMaps (open_string shut_string)
section
variable {H : Type} {enc : TypeId × Value → H} {P : Program} {w : World} {base : Nat} {spare : Nat → Bool} {held : Bool}
theorem open_slice_fields {t e : TypeId} {fs : Array Field} {fuel : Nat} {cs : List Value} {x : DataW H × List MemPlace} (ht : P.underlying t = some (.slice e)) (he : P.underlying e = some (.struct fs))
    (hone : oneCellFields P fs = true) (hC : P.cellsOf e = fs.size) (h : DataW.trod enc P w base spare held fuel t cs = some x) :
    (cs = [.slice none 0 0] ∧ x = (.nil, [])) ∨
    ∃ (a : Addr) (len cap m : Nat) (D : Nat → DataW H) (Pl : Nat → List MemPlace), cs = [.slice (some a) len cap] ∧ base ≤ a.block ∧ len ≤ cap ∧ cap ≤ maxLen ∧ m = (if spare a.block then cap else len) ∧
      x = (.slice ((List.range len).map D) ((List.range (m - len)).map fun j => D (len + j)), MemPlace.row a (m * fs.size) ++ (List.range m).flatMap Pl) ∧
      ∀ i, i < m → ∃ (ys : List (DataW H × List MemPlace)) (n : Nat), D i = .agg (ys.map (·.1)) ∧ Pl i = ys.flatMap (·.2) ∧ ys.length = fs.size ∧
        ∀ (j : Nat) (f : Field), fs[j]? = some f → ∃ (v : Value) (y : DataW H × List MemPlace), w.cell? (a.add (i * fs.size + j)) = some v ∧ ys[j]? = some y ∧ DataW.trod enc P w base spare held n f.type [v] = some y := by
  rcases open_slice ht h with h0 | ⟨a, len, cap, m, n, D, Pl, hcs, hb, hl, hm, hmm, hx, hi⟩
  · exact .inl h0
  · refine .inr ⟨a, len, cap, m, D, Pl, hcs, hb, hl, hm, hmm, by rw [hC] at hx; exact hx, fun i him => ?_⟩
    obtain ⟨cs', hc, ht'⟩ := hi i him
    rw [hC] at hc
    obtain ⟨ys, n', hn', hy, hlen, hyl, hf⟩ := DataW.trod_struct he ht'
    obtain ⟨_, hcl, hat⟩ := World.cells?_some hc
    simp only [Prod.mk.injEq] at hy
    refine ⟨ys, n', hy.1, hy.2, hyl, fun j f hj => ?_⟩
    obtain ⟨ho, hk⟩ := hone_of hone j f hj
    have hjl : j < fs.size := (Array.getElem?_eq_some_iff.1 hj).1
    have hcell := hat j hjl
    have hv : cs'[j]? = some (cs'[j]'(by omega)) := List.getElem?_eq_getElem (by omega)
    have h1 := hf j f hj
    rw [ho, hk] at h1
    have hone' : (cs'.drop j).take 1 = [cs'[j]'(by omega)] := by
      rw [List.drop_eq_getElem_cons (by omega)]
      rfl
    rw [hone'] at h1
    have hys : ys[j]? = some (ys[j]'(by omega)) := List.getElem?_eq_getElem (by omega)
    refine ⟨_, _, ?_, hys, h1.trans hys⟩
    rw [← Go.Deep.add_add, hcell, hv]
end
section
variable {H : Type} {enc : TypeId × Value → H} {P : Program} {w : World} {base : Nat} {spare : Nat → Bool} {held : Bool}
theorem open_agg5 {r : Reach} {b0 : Nat} {t : TypeId} {f0 f1 f2 f3 f4 : Field} {v : Value} {d : DataW H} {p : List MemPlace} (hs : P.underlying t = some (.struct #[f0, f1, f2, f3, f4])) (hone : oneCellFields P #[f0, f1, f2, f3, f4] = true) (hC : P.cellsOf t = 5)
    (hv : Value.okWide P w r b0 t v) (h : DataW.Trod enc P w base spare held t v d p) :
    ∃ (v0 v1 v2 v3 v4 : Value) (y0 y1 y2 y3 y4 : DataW H × List MemPlace) (n : Nat), v = .agg #[v0, v1, v2, v3, v4] ∧ d = .agg [y0.1, y1.1, y2.1, y3.1, y4.1] ∧ p = y0.2 ++ (y1.2 ++ (y2.2 ++ (y3.2 ++ y4.2))) ∧
      DataW.trod enc P w base spare held n f0.type [v0] = some y0 ∧ DataW.trod enc P w base spare held n f1.type [v1] = some y1 ∧ DataW.trod enc P w base spare held n f2.type [v2] = some y2 ∧ DataW.trod enc P w base spare held n f3.type [v3] = some y3 ∧ DataW.trod enc P w base spare held n f4.type [v4] = some y4 := by
  obtain ⟨cs, rfl, hsz⟩ := okWide_struct hs hv
  obtain ⟨l⟩ := cs
  match l, hsz.trans hC with
  | [c0, c1, c2, c3, c4], _ =>
    obtain ⟨fuel, hf⟩ := h
    obtain ⟨xs, n, _, hx, _, hlen, hg⟩ := DataW.trod_struct hs hf
    obtain ⟨o0, k0⟩ := hone_of hone 0 f0 rfl
    obtain ⟨o1, k1⟩ := hone_of hone 1 f1 rfl
    obtain ⟨o2, k2⟩ := hone_of hone 2 f2 rfl
    obtain ⟨o3, k3⟩ := hone_of hone 3 f3 rfl
    obtain ⟨o4, k4⟩ := hone_of hone 4 f4 rfl
    match xs, hlen with
    | [y0, y1, y2, y3, y4], _ =>
      simp only [Prod.mk.injEq] at hx
      exact ⟨c0, c1, c2, c3, c4, y0, y1, y2, y3, y4, n, rfl, by simpa using hx.1, by simpa using hx.2, by simpa [Value.cells, o0, k0] using hg 0 f0 rfl, by simpa [Value.cells, o1, k1] using hg 1 f1 rfl, by simpa [Value.cells, o2, k2] using hg 2 f2 rfl, by simpa [Value.cells, o3, k3] using hg 3 f3 rfl, by simpa [Value.cells, o4, k4] using hg 4 f4 rfl⟩
end
abbrev laid1 {H : Type} : List (String × DataW H) := [("lucifer/fill.ends", Rows.laid_lucifer_fill_ends)]
theorem own : ownKnob Tryd.prog.godebug = none := by kernel_rfl
theorem laidOut : laidOutB Tryd.prog = true := by kernel_rfl
theorem gEnds : Tryd.prog.globalNamed "lucifer/fill.ends" = some 0 := by kernel_rfl
theorem tEnds : (Tryd.prog.globals[0]?).map (·.type) = some 115 := by kernel_rfl
theorem cTab : Tryd.prog.cellsOf 114 = 1 := by kernel_rfl
theorem door_met (os : Os) (args : Array Value) : laidMetH Tryd.prog laid1 ((World.doorLaid Tryd.prog 600 os).forCall (fun _ _ => 0) ⟨#[], args, []⟩).memory :=
  laidMetH_of_parts3 (fuel := 8) (laidMet_of_run' 8 (by kernel_rfl) (by kernel_rfl)) (by kernel_rfl) (by kernel_rfl)
set_option maxRecDepth 100000 in
theorem laid_of {W : World} (h : laidMetH Tryd.prog laid1 W) : Fl.Laid W := by
  obtain ⟨g, t, cs, fuel, p, hg, ht, hv, hd⟩ := h.funcs (List.mem_singleton.2 rfl)
  obtain rfl := Option.some.inj (gEnds.symm.trans hg)
  obtain rfl := Option.some.inj (tEnds.symm.trans ht)
  have hd' : DataW.trod (funcToken Tryd.prog) Tryd.prog W 0 (fun _ => true) true fuel 115 cs.toList = some (.agg [.held [40, 108, 117, 99, 105, 102, 101, 114, 47, 102, 105, 108, 108, 46, 98, 111, 111, 107, 41, 46, 108, 111, 119], .held [40, 108, 117, 99, 105, 102, 101, 114, 47, 102, 105, 108, 108, 46, 98, 111, 111, 107, 41, 46, 104, 105, 103, 104]], p) := hd
  obtain ⟨xs, m, _, ex, hlen, hl, hel⟩ := DataW.trod_array Tryd.underlying115 hd'
  have h0 := hel 0 (by decide)
  have h1 := hel 1 (by decide)
  rw [cTab] at h0 h1
  have hlen2 : cs.toList.length = 2 := hlen.trans (by kernel_rfl)
  obtain ⟨l⟩ := cs
  match l, hlen2, xs, hl with
  | [c0, c1], _, [x0, x1], _ =>
    simp only [List.map_cons, List.map_nil, Prod.mk.injEq, DataW.agg.injEq, List.cons.injEq] at ex
    obtain ⟨⟨e0, e1, _⟩, _⟩ := ex
    obtain ⟨d0, q0⟩ := x0
    obtain ⟨d1, q1⟩ := x1
    simp only at e0 e1
    subst e0
    subst e1
    have f0 := func_of_trod (f0 := 138) Tryd.underlying114 (by kernel_rfl) h0
    have f1 := func_of_trod (f0 := 136) Tryd.underlying114 (by kernel_rfl) h1
    have v0 := World.var?_cell hg hv 0
    have v1 := World.var?_cell hg hv 1
    subst f0
    subst f1
    exact ⟨by simpa using v0, by simpa using v1⟩
def inI (x : Int) : Prop := -9223372036854775808 ≤ x ∧ x ≤ 9223372036854775807
theorem inI_of {x : Int} (h : (Lit.int .i64 x).wf = true) : inI x := by
  simp [Lit.wf, IntKind.min, IntKind.max, IntKind.signed, IntKind.bits] at h
  exact ⟨by omega, by omega⟩
def inS (l : List PL.S27) : Prop := ∀ s ∈ l, inI s.f0 ∧ inI s.f1
theorem list_of {α : Type} : ∀ (n : Nat) (P : Nat → α → Prop), (∀ i, i < n → ∃ s, P i s) → ∃ l : List α, l.length = n ∧ ∀ i s, l[i]? = some s → P i s
  | 0, _, _ => ⟨[], rfl, fun i s h => by simp at h⟩
  | n + 1, P, hel => by
    obtain ⟨s0, h0⟩ := hel 0 (by omega)
    obtain ⟨l, hl, hp⟩ := list_of n (fun i s => P (i + 1) s) (fun i hi => hel (i + 1) (by omega))
    refine ⟨s0 :: l, by simp [hl], fun i s h => ?_⟩
    cases i with
    | zero => simp at h; subst h; exact h0
    | succ i => exact hp i s (by simpa using h)
set_option maxRecDepth 100000 in
theorem spans_open {H : Type} {enc : TypeId × Value → H} {W : World} {base fuel : Nat} {spare : Nat → Bool} {held : Bool} {v : Value} {x : DataW H × List MemPlace} (h : DataW.trod enc Tryd.prog W base spare held fuel 22 [v] = some x) :
    ∃ (A : Option Addr) (c : Nat) (l : List PL.S27), v = .slice A l.length c ∧ l.length ≤ c ∧ Kd.C PL.k27 W A l.length l ∧ inS l := by
  rcases open_slice_fields (e := 27) Tryd.underlying22 Tryd.underlying27 (by kernel_rfl) (by kernel_rfl) h with ⟨hc, _⟩ | ⟨a, len, cap, m, D, Pl, hcs, _, hl, hm, hmm, _, hi⟩
  · simp only [List.cons.injEq, and_true] at hc
    subst hc
    exact ⟨none, 0, [], rfl, by simp, ⟨rfl, by simp, fun h => by simp at h⟩, fun s hs => by simp at hs⟩
  · simp only [List.cons.injEq, and_true] at hcs
    subst hcs
    have hlm : len ≤ m := by rw [hmm]; split <;> omega
    have hel : ∀ i, i < len → ∃ s : PL.S27, W.cell? (a.add (i * 2 + 0)) = some (.int .i64 s.f0) ∧ W.cell? (a.add (i * 2 + 1)) = some (.int .i64 s.f1) ∧ inI s.f0 ∧ inI s.f1 := by
      intro i hil
      obtain ⟨ys, n, _, _, _, hf⟩ := hi i (by omega)
      obtain ⟨v0, y0, hc0, _, ht0⟩ := hf 0 _ rfl
      obtain ⟨v1, y1, hc1, _, ht1⟩ := hf 1 _ rfl
      obtain ⟨n0, e0, _, w0⟩ := DataW.trod_int Tryd.underlying3 ht0
      obtain ⟨n1, e1, _, w1⟩ := DataW.trod_int Tryd.underlying3 ht1
      simp only [List.cons.injEq, and_true] at e0 e1
      subst e0
      subst e1
      exact ⟨⟨n0, n1⟩, hc0, hc1, inI_of w0, inI_of w1⟩
    have hsp := list_of len _ hel
    obtain ⟨l, hll, hp⟩ := hsp
    subst hll
    refine ⟨some a, cap, l, rfl, hl, ⟨rfl, Nat.le_trans hl hm, fun _ => ⟨a, rfl, fun j p hj => ?_⟩⟩, fun s hs => ?_⟩
    · obtain ⟨h0, h1, _⟩ := hp j p hj
      refine ⟨[.int .i64 p.f0, .int .i64 p.f1], rfl, PL.k27_mk W p, fun i u hu => ?_⟩
      match i, hu with
      | 0, hu => cases hu; exact h0
      | 1, hu => cases hu; exact h1
    · obtain ⟨i, hi', rfl⟩ := List.mem_iff_getElem.1 hs
      exact (hp i _ (List.getElem?_eq_getElem hi')).2.2
set_option maxRecDepth 100000 in
theorem book_open {H : Type} {enc : TypeId × Value → H} {r : Reach} {b0 : Nat} {W : World} {base : Nat} {spare : Nat → Bool} {held : Bool} {v : Value} {d : DataW H} {p : List MemPlace}
    (hv : Value.okWide Tryd.prog W r b0 24 v) (h : DataW.Trod enc Tryd.prog W base spare held 24 v d p) :
    ∃ (a b c e : Int) (A : Option Addr) (cap : Nat) (l : List PL.S27), v = .agg #[.int .i64 a, .int .i64 b, .int .i64 c, .int .i64 e, .slice A l.length cap] ∧ l.length ≤ cap ∧ Kd.C PL.k27 W A l.length l ∧ inI a ∧ inI b ∧ inI c ∧ inI e ∧ inS l := by
  obtain ⟨v0, v1, v2, v3, v4, y0, y1, y2, y3, y4, n, rfl, _, _, h0, h1, h2, h3, h4⟩ := open_agg5 Tryd.underlying24 (by kernel_rfl) (by kernel_rfl) hv h
  obtain ⟨n0, e0, _, w0⟩ := DataW.trod_int Tryd.underlying3 h0
  obtain ⟨n1, e1, _, w1⟩ := DataW.trod_int Tryd.underlying3 h1
  obtain ⟨n2, e2, _, w2⟩ := DataW.trod_int Tryd.underlying3 h2
  obtain ⟨n3, e3, _, w3⟩ := DataW.trod_int Tryd.underlying3 h3
  simp only [List.cons.injEq, and_true] at e0 e1 e2 e3
  subst e0
  subst e1
  subst e2
  subst e3
  obtain ⟨A, c, l, rfl, hl, hC, hin⟩ := spans_open h4
  exact ⟨n0, n1, n2, n3, A, c, l, rfl, hl, hC, inI_of w0, inI_of w1, inI_of w2, inI_of w3, hin⟩
set_option maxRecDepth 100000 in
theorem ints_open {H : Type} {enc : TypeId × Value → H} {r : Reach} {b0 : Nat} {W : World} {base : Nat} {spare : Nat → Bool} {held : Bool} {v : Value} {d : DataW H} {p : List MemPlace}
    (hv : Value.okWide Tryd.prog W r b0 38 v) (h : DataW.Trod enc Tryd.prog W base spare held 38 v d p) :
    ∃ (A : Option Addr) (c : Nat) (l : List Int), v = .slice A l.length c ∧ l.length ≤ c ∧ Kd.C (Kd.int .i64) W A l.length l ∧ ∀ x ∈ l, inI x := by
  obtain ⟨a0, len0, cap0, rfl⟩ := okWide_slice Tryd.underlying38 hv
  obtain ⟨fuel, hf⟩ := h
  rcases open_ints Tryd.underlying38 Tryd.underlying3 (by kernel_rfl) hf with ⟨hcs, _⟩ | ⟨x, l, c, zs, hcs, _, hl, hm, hz, _, hcell, hwz⟩
  · simp [Value.cells] at hcs
    obtain ⟨rfl, rfl, rfl⟩ := hcs
    exact ⟨none, 0, [], rfl, by simp, ⟨rfl, by simp, fun h => by simp at h⟩, fun s hs => by simp at hs⟩
  · simp [Value.cells] at hcs
    obtain ⟨rfl, rfl, rfl⟩ := hcs
    have hz2 : len0 ≤ zs.length := by rw [hz]; split <;> omega
    have hlen : (zs.take len0).length = len0 := by rw [List.length_take]; omega
    refine ⟨some x, cap0, zs.take len0, by rw [hlen], by rw [hlen]; exact hl, ⟨rfl, by rw [hlen]; exact Nat.le_trans hl hm, fun _ => ⟨x, rfl, fun j p hj => ?_⟩⟩, fun y hy => inI_of (hwz y (List.mem_of_mem_take hy))⟩
    refine ⟨[.int .i64 p], rfl, rfl, fun i u hu => ?_⟩
    match i, hu with
    | 0, hu =>
      cases hu
      have hjl : j < len0 := by have := (List.getElem?_eq_some_iff.1 hj).1; rw [hlen] at this; exact this
      have := hcell j (by omega)
      rw [show j * (Kd.int .i64).sz + 0 = j by show j * 1 + 0 = j; omega, this]
      rw [List.getElem?_take_of_lt hjl] at hj
      simp [List.getD_eq_getElem?_getD, hj]
end Go.Proofs.YtbbdbdamedaldaaDoor.Rw
end
section
namespace Go.Proofs.YtbbdbdamedaldaaDoor.PL
open Go.RowKit Go.Proofs.YtbbdbdamedaldaaDoorW.PrintWords Go.Proofs.YtbbdbdamedaldaaDoorW.PrintLast Go.Proofs.YtbbdbdamedaldaaDoorW.PrintMore
attribute [local go_sem] max2_int min2_int max_two min_two max_three min_three max_four min_four
set_option linter.unusedVariables false
set_option linter.unusedSimpArgs false
def luciferlaw05_planx.l0 : Nat → List Int → Bool → Int → Int → Int → Int → Int → Int → Int → List (S27) → Option (Bool)
  | 0, _, _, _, _, _, _, _, _, _, _ => none
  | k + 1, x1, x5, x6, x7, x8, x102000, x102001, x102002, x102003, x102004 => if x8 < (x1.length : Int) then (if 0 ≤ x8 then ((luciferref00_Fits.f (rd x1 x8) (wrap64 (x7 + 1)) (mn (wrap64 (x7 + x102003)) (x102004.length : Int))).bind fun t105 => (if t105 = true then (luciferlaw05_planx.l0 k x1 x5 x6 (rd x1 x8) (wrap64 (x8 + 1)) x102000 x102001 x102002 x102003 x102004) else (some false))) else (none)) else (if x5 = true then (if x6 = 0 then (some (x7 == (x102004.length : Int))) else (some false)) else (some false))
def luciferlaw05_planx.f (k : Nat) (a0_0 : Int) (a0_1 : Int) (a0_2 : Int) (a0_3 : Int) (l0_4 : List (S27)) (l1 : List Int) : Option (Bool) := (fill_IsPlan.f a0_0 a0_1 a0_2 a0_3 l0_4 l1).bind fun bt102 => (luciferlaw05_planx.l0 k l1 bt102.1 bt102.2 0 0 a0_0 a0_1 a0_2 a0_3 l0_4)
set_option maxHeartbeats 8000000 in
set_option maxRecDepth 100000 in
theorem luciferlaw05_planx.calls (k : Nat) (a0_0 : Int) (a0_1 : Int) (a0_2 : Int) (a0_3 : Int) (A0_4 : Option Addr) (c0_4 : Nat) (l0_4 : List (S27)) (A1 : Option Addr) (c1 : Nat) (l1 : List Int) (r : Bool) (w : World) (hr0_4 : Kd.C k27 w A0_4 l0_4.length l0_4) (hc0_4 : l0_4.length ≤ c0_4) (hr1 : Kd.C (Kd.int .i64) w A1 l1.length l1) (hc1 : l1.length ≤ c1) (h : luciferlaw05_planx.f k a0_0 a0_1 a0_2 a0_3 l0_4 l1 = some r) :
    Calls Tryd.prog 40 #[.agg #[.int .i64 a0_0, .int .i64 a0_1, .int .i64 a0_2, .int .i64 a0_3, .slice A0_4 l0_4.length c0_4], .slice A1 l1.length c1] w fun e w' => e = .returned (.bool r) ∧ Below w.heap.size w w' := by
  have hu24 := Tryd.underlying24
  have HR0_4 := Aside0.mk hr0_4
  have HC0_4 := Aside0.mk hc0_4
  clear hr0_4 hc0_4
  have HR1 := Aside0.mk hr1
  have HC1 := Aside0.mk hc1
  clear hr1 hc1
  have HB := Aside0.mk (Below.refl w.heap.size w)
  have H : ((fill_IsPlan.f a0_0 a0_1 a0_2 a0_3 l0_4 l1).bind fun bt102 => (luciferlaw05_planx.l0 k l1 bt102.1 bt102.2 0 0 a0_0 a0_1 a0_2 a0_3 l0_4)) = some r := h
  clear h
  replace H := Option.bind_eq_some_iff.mp H
  obtain ⟨⟨t102, t103⟩, A30, H⟩ := H
  replace H : (luciferlaw05_planx.l0 k l1 t102 t103 0 0 a0_0 a0_1 a0_2 a0_3 l0_4) = some r := H
  have A3 := Aside0.mk A30
  clear A30
  have H' := Aside0.mk H
  clear H
  go_enter Tryd.func40, Tryd.ntmps40
  go_wp2_with (first | ((with_reducible refine gate_dst (N := 2) rfl ?_); (try (refine gate_guard (by rfl) ?_; dsimp only)); refine box_event ?hg (N := 2) ?hd (cs := #[.int .i64 a0_0, .int .i64 a0_1, .int .i64 a0_2, .int .i64 a0_3, .slice A0_4 l0_4.length c0_4]) (t := 24) ?hr ?_; (case hd => rfl); (case hg => rfl); (case hr => first | (go_simp; done) | (go_simp; rfl)); intro gb101 hg w4 hbox hb; have n0_ := Aside0.mk (below_step (by repeat (first | (with_reducible first | exact HB.out | apply below_alloc | apply pw_below_drewN | apply below_drew1) | exact HB.out)) hb); have n1_ := Aside0.mk (hbox); have n2_ := Aside0.mk ((by rw [hg]; exact (below_size (by repeat (first | (with_reducible first | exact HB.out | apply below_alloc | apply pw_below_drewN | apply below_drew1) | exact HB.out))) : w.heap.size ≤ gb101)); have n3_ := Aside0.mk ((by rw [hg]; exact (below_size (by repeat (first | (with_reducible first | exact HB.out | apply below_alloc | apply pw_below_drewN | apply below_drew1) | exact HB.out))) : w.heap.size ≤ gb101)); clear HB; have HB := n0_; have BK101 := n1_; have GW101 := n2_; have GE101 := n3_; clear n0_ n1_ n2_ n3_; clear hb hbox hg; have hcz5_0 : w4.cell? ⟨gb101, 0, none⟩ = some (.int .i64 a0_0) := (blk_cell BK101.out 0).trans rfl; have hcz5_1 : w4.cell? ⟨gb101, 1, none⟩ = some (.int .i64 a0_1) := (blk_cell BK101.out 1).trans rfl; have hcz5_2 : w4.cell? ⟨gb101, 2, none⟩ = some (.int .i64 a0_2) := (blk_cell BK101.out 2).trans rfl; have hcz5_3 : w4.cell? ⟨gb101, 3, none⟩ = some (.int .i64 a0_3) := (blk_cell BK101.out 3).trans rfl; have hcz5_4 : w4.cell? ⟨gb101, 4, none⟩ = some (.slice A0_4 l0_4.length c0_4) := (blk_cell BK101.out 4).trans rfl; have hfz5_0 := blk_frozen BK101.out 0; have hfz5_1 := blk_frozen BK101.out 1; have hfz5_2 := blk_frozen BK101.out 2; have hfz5_3 := blk_frozen BK101.out 3; have hfz5_4 := blk_frozen BK101.out 4) | (go_at_call 24; (with_reducible refine (fill_IsPlan.calls a0_0 a0_1 a0_2 a0_3 _ _ l0_4 _ _ l1 t102 t103 _ ?side1 ?side2 ?side3 ?side4 A3.out).mono ?_); (case side1 => repeat (first | exact (Kd.C_below HR0_4.out HB.out) | (with_reducible refine Kd.C_alloc ?_ _) | (with_reducible refine Kd.C_drewN ?_ _) | (with_reducible refine Kd.C_drew ?_))); (case side2 => exact HC0_4.out); (case side3 => repeat (first | exact (Kd.C_below HR1.out HB.out) | (with_reducible refine Kd.C_alloc ?_ _) | (with_reducible refine Kd.C_drewN ?_ _) | (with_reducible refine Kd.C_drew ?_))); (case side4 => exact HC1.out); rintro e w6 ⟨rfl, hb⟩; have n0_ := Aside0.mk (blk_below (g := gb101) (o := .cells #[.int .i64 a0_0, .int .i64 a0_1, .int .i64 a0_2, .int .i64 a0_3, .slice A0_4 l0_4.length c0_4] 24 (0, 0)) (by (with_reducible repeat (first | refine blk_drewN ?_ _ | refine blk_drew ?_ | refine blk_alloc ?_ _)); exact BK101.out) hb); have n1_ := Aside0.mk (below_step (by repeat (first | (with_reducible first | exact HB.out | apply below_alloc | apply pw_below_drewN | apply below_drew1 | refine below_set ?_ GE101.out) | exact HB.out)) hb); clear BK101; clear HB; have BK101 := n0_; have HB := n1_; clear n0_ n1_; (try clear hb); (try clear hb2); (try clear hk); (try clear hi)))
  repeat (go_quiet (first | ((with_reducible refine gate_dst (N := 2) rfl ?_); (try (refine gate_guard (by rfl) ?_; dsimp only)); refine box_event ?hg (N := 2) ?hd (cs := #[.int .i64 a0_0, .int .i64 a0_1, .int .i64 a0_2, .int .i64 a0_3, .slice A0_4 l0_4.length c0_4]) (t := 24) ?hr ?_; (case hd => rfl); (case hg => rfl); (case hr => first | (go_simp; done) | (go_simp; rfl)); intro gb101 hg w4 hbox hb; have n0_ := Aside0.mk (below_step (by repeat (first | (with_reducible first | exact HB.out | apply below_alloc | apply pw_below_drewN | apply below_drew1) | exact HB.out)) hb); have n1_ := Aside0.mk (hbox); have n2_ := Aside0.mk ((by rw [hg]; exact (below_size (by repeat (first | (with_reducible first | exact HB.out | apply below_alloc | apply pw_below_drewN | apply below_drew1) | exact HB.out))) : w.heap.size ≤ gb101)); have n3_ := Aside0.mk ((by rw [hg]; exact (below_size (by repeat (first | (with_reducible first | exact HB.out | apply below_alloc | apply pw_below_drewN | apply below_drew1) | exact HB.out))) : w.heap.size ≤ gb101)); clear HB; have HB := n0_; have BK101 := n1_; have GW101 := n2_; have GE101 := n3_; clear n0_ n1_ n2_ n3_; clear hb hbox hg; have hcz5_0 : w4.cell? ⟨gb101, 0, none⟩ = some (.int .i64 a0_0) := (blk_cell BK101.out 0).trans rfl; have hcz5_1 : w4.cell? ⟨gb101, 1, none⟩ = some (.int .i64 a0_1) := (blk_cell BK101.out 1).trans rfl; have hcz5_2 : w4.cell? ⟨gb101, 2, none⟩ = some (.int .i64 a0_2) := (blk_cell BK101.out 2).trans rfl; have hcz5_3 : w4.cell? ⟨gb101, 3, none⟩ = some (.int .i64 a0_3) := (blk_cell BK101.out 3).trans rfl; have hcz5_4 : w4.cell? ⟨gb101, 4, none⟩ = some (.slice A0_4 l0_4.length c0_4) := (blk_cell BK101.out 4).trans rfl; have hfz5_0 := blk_frozen BK101.out 0; have hfz5_1 := blk_frozen BK101.out 1; have hfz5_2 := blk_frozen BK101.out 2; have hfz5_3 := blk_frozen BK101.out 3; have hfz5_4 := blk_frozen BK101.out 4) | (go_at_call 24; (with_reducible refine (fill_IsPlan.calls a0_0 a0_1 a0_2 a0_3 _ _ l0_4 _ _ l1 t102 t103 _ ?side1 ?side2 ?side3 ?side4 A3.out).mono ?_); (case side1 => repeat (first | exact (Kd.C_below HR0_4.out HB.out) | (with_reducible refine Kd.C_alloc ?_ _) | (with_reducible refine Kd.C_drewN ?_ _) | (with_reducible refine Kd.C_drew ?_))); (case side2 => exact HC0_4.out); (case side3 => repeat (first | exact (Kd.C_below HR1.out HB.out) | (with_reducible refine Kd.C_alloc ?_ _) | (with_reducible refine Kd.C_drewN ?_ _) | (with_reducible refine Kd.C_drew ?_))); (case side4 => exact HC1.out); rintro e w6 ⟨rfl, hb⟩; have n0_ := Aside0.mk (blk_below (g := gb101) (o := .cells #[.int .i64 a0_0, .int .i64 a0_1, .int .i64 a0_2, .int .i64 a0_3, .slice A0_4 l0_4.length c0_4] 24 (0, 0)) (by (with_reducible repeat (first | refine blk_drewN ?_ _ | refine blk_drew ?_ | refine blk_alloc ?_ _)); exact BK101.out) hb); have n1_ := Aside0.mk (below_step (by repeat (first | (with_reducible first | exact HB.out | apply below_alloc | apply pw_below_drewN | apply below_drew1 | refine below_set ?_ GE101.out) | exact HB.out)) hb); clear BK101; clear HB; have BK101 := n0_; have HB := n1_; clear n0_ n1_; (try clear hb); (try clear hb2); (try clear hk); (try clear hi))); try go_wp2_with (first | ((with_reducible refine gate_dst (N := 2) rfl ?_); (try (refine gate_guard (by rfl) ?_; dsimp only)); refine box_event ?hg (N := 2) ?hd (cs := #[.int .i64 a0_0, .int .i64 a0_1, .int .i64 a0_2, .int .i64 a0_3, .slice A0_4 l0_4.length c0_4]) (t := 24) ?hr ?_; (case hd => rfl); (case hg => rfl); (case hr => first | (go_simp; done) | (go_simp; rfl)); intro gb101 hg w4 hbox hb; have n0_ := Aside0.mk (below_step (by repeat (first | (with_reducible first | exact HB.out | apply below_alloc | apply pw_below_drewN | apply below_drew1) | exact HB.out)) hb); have n1_ := Aside0.mk (hbox); have n2_ := Aside0.mk ((by rw [hg]; exact (below_size (by repeat (first | (with_reducible first | exact HB.out | apply below_alloc | apply pw_below_drewN | apply below_drew1) | exact HB.out))) : w.heap.size ≤ gb101)); have n3_ := Aside0.mk ((by rw [hg]; exact (below_size (by repeat (first | (with_reducible first | exact HB.out | apply below_alloc | apply pw_below_drewN | apply below_drew1) | exact HB.out))) : w.heap.size ≤ gb101)); clear HB; have HB := n0_; have BK101 := n1_; have GW101 := n2_; have GE101 := n3_; clear n0_ n1_ n2_ n3_; clear hb hbox hg; have hcz5_0 : w4.cell? ⟨gb101, 0, none⟩ = some (.int .i64 a0_0) := (blk_cell BK101.out 0).trans rfl; have hcz5_1 : w4.cell? ⟨gb101, 1, none⟩ = some (.int .i64 a0_1) := (blk_cell BK101.out 1).trans rfl; have hcz5_2 : w4.cell? ⟨gb101, 2, none⟩ = some (.int .i64 a0_2) := (blk_cell BK101.out 2).trans rfl; have hcz5_3 : w4.cell? ⟨gb101, 3, none⟩ = some (.int .i64 a0_3) := (blk_cell BK101.out 3).trans rfl; have hcz5_4 : w4.cell? ⟨gb101, 4, none⟩ = some (.slice A0_4 l0_4.length c0_4) := (blk_cell BK101.out 4).trans rfl; have hfz5_0 := blk_frozen BK101.out 0; have hfz5_1 := blk_frozen BK101.out 1; have hfz5_2 := blk_frozen BK101.out 2; have hfz5_3 := blk_frozen BK101.out 3; have hfz5_4 := blk_frozen BK101.out 4) | (go_at_call 24; (with_reducible refine (fill_IsPlan.calls a0_0 a0_1 a0_2 a0_3 _ _ l0_4 _ _ l1 t102 t103 _ ?side1 ?side2 ?side3 ?side4 A3.out).mono ?_); (case side1 => repeat (first | exact (Kd.C_below HR0_4.out HB.out) | (with_reducible refine Kd.C_alloc ?_ _) | (with_reducible refine Kd.C_drewN ?_ _) | (with_reducible refine Kd.C_drew ?_))); (case side2 => exact HC0_4.out); (case side3 => repeat (first | exact (Kd.C_below HR1.out HB.out) | (with_reducible refine Kd.C_alloc ?_ _) | (with_reducible refine Kd.C_drewN ?_ _) | (with_reducible refine Kd.C_drew ?_))); (case side4 => exact HC1.out); rintro e w6 ⟨rfl, hb⟩; have n0_ := Aside0.mk (blk_below (g := gb101) (o := .cells #[.int .i64 a0_0, .int .i64 a0_1, .int .i64 a0_2, .int .i64 a0_3, .slice A0_4 l0_4.length c0_4] 24 (0, 0)) (by (with_reducible repeat (first | refine blk_drewN ?_ _ | refine blk_drew ?_ | refine blk_alloc ?_ _)); exact BK101.out) hb); have n1_ := Aside0.mk (below_step (by repeat (first | (with_reducible first | exact HB.out | apply below_alloc | apply pw_below_drewN | apply below_drew1 | refine below_set ?_ GE101.out) | exact HB.out)) hb); clear BK101; clear HB; have BK101 := n0_; have HB := n1_; clear n0_ n1_; (try clear hb); (try clear hb2); (try clear hk); (try clear hi))))
  go_loopg [7, 8] k (fun kq v7 v8 w' => ∃ (x7_1 : Int) (x8_1 : Int), v7 = .int .i64 x7_1 ∧ v8 = .int .i64 x8_1 ∧ Aside0 (luciferlaw05_planx.l0 kq l1 t102 t103 x7_1 x8_1 a0_0 a0_1 a0_2 a0_3 l0_4 = some r) ∧ Aside0 (kq ≤ k) ∧ Aside0 (w'.heap[gb101]? = some (.cells #[.int .i64 a0_0, .int .i64 a0_1, .int .i64 a0_2, .int .i64 a0_3, (.slice A0_4 l0_4.length c0_4)] 24 (0, 0))) ∧ Aside0 (Below w.heap.size w w'))
  case atStart => exact ⟨(0), (0), (by first | rfl | (simp; done) | (simp [*]; done)), (by first | rfl | (simp; done) | (simp [*]; done)), H', ⟨Nat.le_refl _⟩, ⟨by (with_reducible repeat (first | refine blk_drewN ?_ _ | refine blk_drew ?_ | refine blk_alloc ?_ _)); exact BK101.out⟩, ⟨by repeat (first | (with_reducible first | exact HB.out | apply below_alloc | apply pw_below_drewN | apply below_drew1 | refine below_set ?_ GE101.out) | exact HB.out)⟩⟩
  case round =>
    clear H'
    try clear c1
    try clear p2
    try clear c4
    try clear hcz5_0
    try clear hcz5_1
    try clear hcz5_2
    try clear hcz5_3
    try clear hcz5_4
    try clear hfz5_0
    try clear hfz5_1
    try clear hfz5_2
    try clear hfz5_3
    try clear hfz5_4
    obtain ⟨x7_1, x8_1, rfl, rfl, HA, HK1, BK101, HB⟩ := hrel
    cases gk with
    | zero => exact absurd HA.out (by simp [luciferlaw05_planx.l0])
    | succ k1 =>
      have H := HA.out
      clear HA
      simp only [luciferlaw05_planx.l0] at H
      by_cases c7 : x8_1 < (l1.length : Int)
      · rw [if_pos c7] at H
        have c7b0 : decide (x8_1 < (l1.length : Int)) = true := decide_eq_true c7
        clear c7
        by_cases c8 : 0 ≤ x8_1
        · rw [if_pos c8] at H
          have c8b0 : decide (0 ≤ x8_1) = true := decide_eq_true c8
          clear c8
          obtain ⟨ji9, hji9⟩ : ∃ j_ : Int, (mn (wrap64 (x7_1 + a0_3)) (l0_4.length : Int)) = j_ := ⟨_, rfl⟩
          replace H : ((luciferref00_Fits.f (rd l1 x8_1) (wrap64 (x7_1 + 1)) (ji9)).bind fun t105 => (if t105 = true then (luciferlaw05_planx.l0 k1 l1 t102 t103 (rd l1 x8_1) (wrap64 (x8_1 + 1)) a0_0 a0_1 a0_2 a0_3 l0_4) else (some false))) = some r := by first | (rw [hji9] at H; exact H) | (simp only [hji9] at H ⊢; exact H)
          have hji9_ : (if (l0_4.length : Int) < (wrap64 (x7_1 + a0_3)) then (l0_4.length : Int) else (wrap64 (x7_1 + a0_3))) = ji9 := hji9
          have hji9W : (if (l0_4.length : Int) < (IntKind.i64.wrap (x7_1 + a0_3)) then (l0_4.length : Int) else (IntKind.i64.wrap (x7_1 + a0_3))) = ji9 := by simpa only [IntWalk.i64_left] using hji9_
          replace H := Option.bind_eq_some_iff.mp H
          obtain ⟨t105, A100, H⟩ := H
          replace H : (if t105 = true then (luciferlaw05_planx.l0 k1 l1 t102 t103 (rd l1 x8_1) (wrap64 (x8_1 + 1)) a0_0 a0_1 a0_2 a0_3 l0_4) else (some false)) = some r := H
          have A10 := Aside0.mk A100
          clear A100
          by_cases c11 : t105 = true
          · subst c11
            have H1 : (luciferlaw05_planx.l0 k1 l1 t102 t103 (rd l1 x8_1) (wrap64 (x8_1 + 1)) a0_0 a0_1 a0_2 a0_3 l0_4) = some r := by rw [if_pos rfl] at H; exact H
            clear H
            have H := H1
            clear H1
            have H' := Aside0.mk H
            clear H
            have p104 : 0 ≤ (x8_1 : Int) := of_decide_eq_true (by first | (with_reducible assumption) | assumption)
            have q104 : x8_1 < (l1.length : Int) := of_decide_eq_true (by first | (with_reducible assumption) | assumption)
            obtain ⟨ad104, e104, hx104_0⟩ := Kd.at_int HR1.out x8_1 p104 q104
            cases e104
            replace hx104_0 := (HB.out.cell (World.block_lt_of_cell? w _ hx104_0)).trans hx104_0
            replace p104 := eq_true p104
            replace q104 := eq_true q104
            have hcz12_0 : wr.cell? ⟨gb101, 0, none⟩ = some (.int .i64 a0_0) := (blk_cell BK101.out 0).trans rfl
            have hcz12_1 : wr.cell? ⟨gb101, 1, none⟩ = some (.int .i64 a0_1) := (blk_cell BK101.out 1).trans rfl
            have hcz12_2 : wr.cell? ⟨gb101, 2, none⟩ = some (.int .i64 a0_2) := (blk_cell BK101.out 2).trans rfl
            have hcz12_3 : wr.cell? ⟨gb101, 3, none⟩ = some (.int .i64 a0_3) := (blk_cell BK101.out 3).trans rfl
            have hcz12_4 : wr.cell? ⟨gb101, 4, none⟩ = some (.slice A0_4 l0_4.length c0_4) := (blk_cell BK101.out 4).trans rfl
            have hfz12_0 := blk_frozen BK101.out 0
            have hfz12_1 := blk_frozen BK101.out 1
            have hfz12_2 := blk_frozen BK101.out 2
            have hfz12_3 := blk_frozen BK101.out 3
            have hfz12_4 := blk_frozen BK101.out 4
            go_wp2_with fail
            refine wp_region_held_drew (S := fun W => W.cell? ⟨gb101, 3, none⟩ = some (.int .i64 a0_3) ∧ W.cell? ⟨gb101, 4, none⟩ = some (.slice A0_4 l0_4.length c0_4) ∧ W.cell? (ad104.add x8_1.toNat) = some (.int .i64 (rd l1 x8_1))) (by kernel_rfl) ⟨hcz12_3, hcz12_4, hx104_0⟩ (fun hS => ?_)
            refine wpAnyH_take (i := 0) (oi := _) (v := .slice (some ad104) l1.length c1) rfl (by kernel_rfl) (by kernel_rfl) (by kernel_rfl) (fun _ _ _ h => h) (Or.inl ⟨by rfl, fun W hW => ?_⟩) (by assumption) ?_
            · obtain ⟨hW1, hW2, hW3⟩ := hW
              go_simp
            simp only [Act.put, List.getElem_toArray, List.getElem_cons_succ, List.getElem_cons_zero, List.setIfInBounds_toArray, List.set_cons_zero, List.set_cons_succ]
            refine wpAnyH_take (i := 1) (oi := _) (v := .int .i64 x8_1) rfl (by kernel_rfl) (by kernel_rfl) (by kernel_rfl) (fun _ _ _ h => h) (Or.inl ⟨by rfl, fun W hW => ?_⟩) (by assumption) ?_
            · obtain ⟨hW1, hW2, hW3⟩ := hW
              go_simp
            simp only [Act.put, List.getElem_toArray, List.getElem_cons_succ, List.getElem_cons_zero, List.setIfInBounds_toArray, List.set_cons_zero, List.set_cons_succ]
            refine wpAnyH_take (i := 2) (oi := _) (v := .pointer (some (ad104.add x8_1.toNat))) rfl (by kernel_rfl) (by kernel_rfl) (by kernel_rfl) (fun _ _ _ h => h) (Or.inl ⟨by rfl, fun W hW => ?_⟩) (by assumption) ?_
            · obtain ⟨hW1, hW2, hW3⟩ := hW
              go_simp
            simp only [Act.put, List.getElem_toArray, List.getElem_cons_succ, List.getElem_cons_zero, List.setIfInBounds_toArray, List.set_cons_zero, List.set_cons_succ]
            refine wpAnyH_take (i := 3) (oi := _) (v := .int .i64 (rd l1 x8_1)) rfl (by kernel_rfl) (by kernel_rfl) (by kernel_rfl) (fun _ _ _ h => h) (Or.inl ⟨by rfl, fun W hW => ?_⟩) (by assumption) ?_
            · obtain ⟨hW1, hW2, hW3⟩ := hW
              go_simp
            simp only [Act.put, List.getElem_toArray, List.getElem_cons_succ, List.getElem_cons_zero, List.setIfInBounds_toArray, List.set_cons_zero, List.set_cons_succ]
            refine wpAnyH_take (i := 4) (oi := _) (v := .int .i64 x7_1) rfl (by kernel_rfl) (by kernel_rfl) (by kernel_rfl) (fun _ _ _ h => h) (Or.inl ⟨by rfl, fun W hW => ?_⟩) (by assumption) ?_
            · obtain ⟨hW1, hW2, hW3⟩ := hW
              go_simp
            simp only [Act.put, List.getElem_toArray, List.getElem_cons_succ, List.getElem_cons_zero, List.setIfInBounds_toArray, List.set_cons_zero, List.set_cons_succ]
            refine wpAnyH_take (i := 5) (oi := _) (v := .int .i64 (wrap64 (x7_1 + 1))) rfl (by kernel_rfl) (by kernel_rfl) (by kernel_rfl) (fun _ _ _ h => h) (Or.inl ⟨by rfl, fun W hW => ?_⟩) (by assumption) ?_
            · obtain ⟨hW1, hW2, hW3⟩ := hW
              go_simp
              exact IntWalk.i64_left _
            simp only [Act.put, List.getElem_toArray, List.getElem_cons_succ, List.getElem_cons_zero, List.setIfInBounds_toArray, List.set_cons_zero, List.set_cons_succ]
            refine wpAnyH_take (i := 6) (oi := _) (v := .int .i64 x7_1) rfl (by kernel_rfl) (by kernel_rfl) (by kernel_rfl) (fun _ _ _ h => h) (Or.inl ⟨by rfl, fun W hW => ?_⟩) (by assumption) ?_
            · obtain ⟨hW1, hW2, hW3⟩ := hW
              go_simp
            simp only [Act.put, List.getElem_toArray, List.getElem_cons_succ, List.getElem_cons_zero, List.setIfInBounds_toArray, List.set_cons_zero, List.set_cons_succ]
            refine wpAnyH_take (i := 7) (oi := _) (v := .pointer (some ⟨gb101, 3, none⟩)) rfl (by kernel_rfl) (by kernel_rfl) (by kernel_rfl) (fun _ _ _ h => h) (Or.inl ⟨by rfl, fun W hW => ?_⟩) (by assumption) ?_
            · obtain ⟨hW1, hW2, hW3⟩ := hW
              go_simp
            simp only [Act.put, List.getElem_toArray, List.getElem_cons_succ, List.getElem_cons_zero, List.setIfInBounds_toArray, List.set_cons_zero, List.set_cons_succ]
            refine wpAnyH_take (i := 8) (oi := _) (v := .int .i64 a0_3) rfl (by kernel_rfl) (by kernel_rfl) (by kernel_rfl) (fun _ _ _ h => h) (Or.inl ⟨by rfl, fun W hW => ?_⟩) (by assumption) ?_
            · obtain ⟨hW1, hW2, hW3⟩ := hW
              go_simp
            simp only [Act.put, List.getElem_toArray, List.getElem_cons_succ, List.getElem_cons_zero, List.setIfInBounds_toArray, List.set_cons_zero, List.set_cons_succ]
            refine wpAnyH_take (i := 9) (oi := _) (v := .int .i64 (wrap64 (x7_1 + a0_3))) rfl (by kernel_rfl) (by kernel_rfl) (by kernel_rfl) (fun _ _ _ h => h) (Or.inl ⟨by rfl, fun W hW => ?_⟩) (by assumption) ?_
            · obtain ⟨hW1, hW2, hW3⟩ := hW
              go_simp
              exact IntWalk.i64_left _
            simp only [Act.put, List.getElem_toArray, List.getElem_cons_succ, List.getElem_cons_zero, List.setIfInBounds_toArray, List.set_cons_zero, List.set_cons_succ]
            refine wpAnyH_take (i := 10) (oi := _) (v := .pointer (some ⟨gb101, 4, none⟩)) rfl (by kernel_rfl) (by kernel_rfl) (by kernel_rfl) (fun _ _ _ h => h) (Or.inl ⟨by rfl, fun W hW => ?_⟩) (by assumption) ?_
            · obtain ⟨hW1, hW2, hW3⟩ := hW
              go_simp
            simp only [Act.put, List.getElem_toArray, List.getElem_cons_succ, List.getElem_cons_zero, List.setIfInBounds_toArray, List.set_cons_zero, List.set_cons_succ]
            refine wpAnyH_take (i := 11) (oi := _) (v := .slice A0_4 l0_4.length c0_4) rfl (by kernel_rfl) (by kernel_rfl) (by kernel_rfl) (fun _ _ _ h => h) (Or.inl ⟨by rfl, fun W hW => ?_⟩) (by assumption) ?_
            · obtain ⟨hW1, hW2, hW3⟩ := hW
              go_simp
            simp only [Act.put, List.getElem_toArray, List.getElem_cons_succ, List.getElem_cons_zero, List.setIfInBounds_toArray, List.set_cons_zero, List.set_cons_succ]
            refine wpAnyH_take (i := 12) (oi := _) (v := .int .i64 (l0_4.length : Int)) rfl (by kernel_rfl) (by kernel_rfl) (by kernel_rfl) (fun _ _ _ h => h) (Or.inl ⟨by rfl, fun W hW => ?_⟩) (by assumption) ?_
            · obtain ⟨hW1, hW2, hW3⟩ := hW
              go_simp
            simp only [Act.put, List.getElem_toArray, List.getElem_cons_succ, List.getElem_cons_zero, List.setIfInBounds_toArray, List.set_cons_zero, List.set_cons_succ]
            refine wpAnyH_take (i := 13) (oi := _) (v := .int .i64 ji9) rfl (by kernel_rfl) (by kernel_rfl) (by kernel_rfl) (fun _ _ _ h => h) (Or.inl ⟨by rfl, fun W hW => ?_⟩) (by assumption) ?_
            · obtain ⟨hW1, hW2, hW3⟩ := hW
              go_simp
            simp only [Act.put, List.getElem_toArray, List.getElem_cons_succ, List.getElem_cons_zero, List.setIfInBounds_toArray, List.set_cons_zero, List.set_cons_succ]
            refine wpAnyH_ready (rs := [14]) (by kernel_rfl) (by simp) ?_
            refine AllReadyH.cons rfl (fun K hK => ?_) AllReadyH.nil
            go_simp
            refine (luciferref00_Fits.calls (rd l1 x8_1) (wrap64 (x7_1 + 1)) ji9 true _ A10.out).mono ?_
            rintro e w' ⟨rfl, ⟨nd, rfl⟩⟩
            refine hK.out _ _ ⟨(by simpa using hcz12_3), (by simpa using hcz12_4), (by simpa using hx104_0)⟩ (fun hS2 => ?_)
            clear hK K
            refine wpAnyH_take (i := 15) (oi := _) (v := .bool false) rfl (by kernel_rfl) (by kernel_rfl) (by kernel_rfl) (fun _ _ _ h => h) (Or.inl ⟨by rfl, fun W hW => ?_⟩) (by assumption) ?_
            · obtain ⟨hW1, hW2, hW3⟩ := hW
              go_simp
            simp only [Act.put, List.getElem_toArray, List.getElem_cons_succ, List.getElem_cons_zero, List.setIfInBounds_toArray, List.set_cons_zero, List.set_cons_succ]
            refine wpAnyH_done (by kernel_rfl) ?_ _
            go_wp2
            go_roundg k1
            case measure => have := HK1.out; omega
            case rel => exact ⟨(rd l1 x8_1), (wrap64 (x8_1 + 1)), (by first | rfl | (simp; done) | (simp [*]; done)), (by first | rfl | (simp; done) | (simp [*]; done)), H', ⟨by have := HK1.out; omega⟩, ⟨by (with_reducible repeat (first | refine blk_drewN ?_ _ | refine blk_drew ?_ | refine blk_alloc ?_ _)); exact BK101.out⟩, ⟨by repeat (first | (with_reducible first | exact HB.out | apply below_alloc | apply pw_below_drewN | apply below_drew1 | refine below_set ?_ GE101.out) | exact HB.out)⟩⟩
          · replace c11 := Bool.eq_false_iff.mpr c11
            subst c11
            have H1 : (some false) = some r := by rw [if_neg (show ¬ (false = true) by decide)] at H; exact H
            clear H
            have H := H1
            clear H1
            obtain rfl := Option.some.inj H
            have p104 : 0 ≤ (x8_1 : Int) := of_decide_eq_true (by first | (with_reducible assumption) | assumption)
            have q104 : x8_1 < (l1.length : Int) := of_decide_eq_true (by first | (with_reducible assumption) | assumption)
            obtain ⟨ad104, e104, hx104_0⟩ := Kd.at_int HR1.out x8_1 p104 q104
            cases e104
            replace hx104_0 := (HB.out.cell (World.block_lt_of_cell? w _ hx104_0)).trans hx104_0
            replace p104 := eq_true p104
            replace q104 := eq_true q104
            have hcz13_0 : wr.cell? ⟨gb101, 0, none⟩ = some (.int .i64 a0_0) := (blk_cell BK101.out 0).trans rfl
            have hcz13_1 : wr.cell? ⟨gb101, 1, none⟩ = some (.int .i64 a0_1) := (blk_cell BK101.out 1).trans rfl
            have hcz13_2 : wr.cell? ⟨gb101, 2, none⟩ = some (.int .i64 a0_2) := (blk_cell BK101.out 2).trans rfl
            have hcz13_3 : wr.cell? ⟨gb101, 3, none⟩ = some (.int .i64 a0_3) := (blk_cell BK101.out 3).trans rfl
            have hcz13_4 : wr.cell? ⟨gb101, 4, none⟩ = some (.slice A0_4 l0_4.length c0_4) := (blk_cell BK101.out 4).trans rfl
            have hfz13_0 := blk_frozen BK101.out 0
            have hfz13_1 := blk_frozen BK101.out 1
            have hfz13_2 := blk_frozen BK101.out 2
            have hfz13_3 := blk_frozen BK101.out 3
            have hfz13_4 := blk_frozen BK101.out 4
            go_wp2_with fail
            refine wp_region_held_drew (S := fun W => W.cell? ⟨gb101, 3, none⟩ = some (.int .i64 a0_3) ∧ W.cell? ⟨gb101, 4, none⟩ = some (.slice A0_4 l0_4.length c0_4) ∧ W.cell? (ad104.add x8_1.toNat) = some (.int .i64 (rd l1 x8_1))) (by kernel_rfl) ⟨hcz13_3, hcz13_4, hx104_0⟩ (fun hS => ?_)
            refine wpAnyH_take (i := 0) (oi := _) (v := .slice (some ad104) l1.length c1) rfl (by kernel_rfl) (by kernel_rfl) (by kernel_rfl) (fun _ _ _ h => h) (Or.inl ⟨by rfl, fun W hW => ?_⟩) (by assumption) ?_
            · obtain ⟨hW1, hW2, hW3⟩ := hW
              go_simp
            simp only [Act.put, List.getElem_toArray, List.getElem_cons_succ, List.getElem_cons_zero, List.setIfInBounds_toArray, List.set_cons_zero, List.set_cons_succ]
            refine wpAnyH_take (i := 1) (oi := _) (v := .int .i64 x8_1) rfl (by kernel_rfl) (by kernel_rfl) (by kernel_rfl) (fun _ _ _ h => h) (Or.inl ⟨by rfl, fun W hW => ?_⟩) (by assumption) ?_
            · obtain ⟨hW1, hW2, hW3⟩ := hW
              go_simp
            simp only [Act.put, List.getElem_toArray, List.getElem_cons_succ, List.getElem_cons_zero, List.setIfInBounds_toArray, List.set_cons_zero, List.set_cons_succ]
            refine wpAnyH_take (i := 2) (oi := _) (v := .pointer (some (ad104.add x8_1.toNat))) rfl (by kernel_rfl) (by kernel_rfl) (by kernel_rfl) (fun _ _ _ h => h) (Or.inl ⟨by rfl, fun W hW => ?_⟩) (by assumption) ?_
            · obtain ⟨hW1, hW2, hW3⟩ := hW
              go_simp
            simp only [Act.put, List.getElem_toArray, List.getElem_cons_succ, List.getElem_cons_zero, List.setIfInBounds_toArray, List.set_cons_zero, List.set_cons_succ]
            refine wpAnyH_take (i := 3) (oi := _) (v := .int .i64 (rd l1 x8_1)) rfl (by kernel_rfl) (by kernel_rfl) (by kernel_rfl) (fun _ _ _ h => h) (Or.inl ⟨by rfl, fun W hW => ?_⟩) (by assumption) ?_
            · obtain ⟨hW1, hW2, hW3⟩ := hW
              go_simp
            simp only [Act.put, List.getElem_toArray, List.getElem_cons_succ, List.getElem_cons_zero, List.setIfInBounds_toArray, List.set_cons_zero, List.set_cons_succ]
            refine wpAnyH_take (i := 4) (oi := _) (v := .int .i64 x7_1) rfl (by kernel_rfl) (by kernel_rfl) (by kernel_rfl) (fun _ _ _ h => h) (Or.inl ⟨by rfl, fun W hW => ?_⟩) (by assumption) ?_
            · obtain ⟨hW1, hW2, hW3⟩ := hW
              go_simp
            simp only [Act.put, List.getElem_toArray, List.getElem_cons_succ, List.getElem_cons_zero, List.setIfInBounds_toArray, List.set_cons_zero, List.set_cons_succ]
            refine wpAnyH_take (i := 5) (oi := _) (v := .int .i64 (wrap64 (x7_1 + 1))) rfl (by kernel_rfl) (by kernel_rfl) (by kernel_rfl) (fun _ _ _ h => h) (Or.inl ⟨by rfl, fun W hW => ?_⟩) (by assumption) ?_
            · obtain ⟨hW1, hW2, hW3⟩ := hW
              go_simp
              exact IntWalk.i64_left _
            simp only [Act.put, List.getElem_toArray, List.getElem_cons_succ, List.getElem_cons_zero, List.setIfInBounds_toArray, List.set_cons_zero, List.set_cons_succ]
            refine wpAnyH_take (i := 6) (oi := _) (v := .int .i64 x7_1) rfl (by kernel_rfl) (by kernel_rfl) (by kernel_rfl) (fun _ _ _ h => h) (Or.inl ⟨by rfl, fun W hW => ?_⟩) (by assumption) ?_
            · obtain ⟨hW1, hW2, hW3⟩ := hW
              go_simp
            simp only [Act.put, List.getElem_toArray, List.getElem_cons_succ, List.getElem_cons_zero, List.setIfInBounds_toArray, List.set_cons_zero, List.set_cons_succ]
            refine wpAnyH_take (i := 7) (oi := _) (v := .pointer (some ⟨gb101, 3, none⟩)) rfl (by kernel_rfl) (by kernel_rfl) (by kernel_rfl) (fun _ _ _ h => h) (Or.inl ⟨by rfl, fun W hW => ?_⟩) (by assumption) ?_
            · obtain ⟨hW1, hW2, hW3⟩ := hW
              go_simp
            simp only [Act.put, List.getElem_toArray, List.getElem_cons_succ, List.getElem_cons_zero, List.setIfInBounds_toArray, List.set_cons_zero, List.set_cons_succ]
            refine wpAnyH_take (i := 8) (oi := _) (v := .int .i64 a0_3) rfl (by kernel_rfl) (by kernel_rfl) (by kernel_rfl) (fun _ _ _ h => h) (Or.inl ⟨by rfl, fun W hW => ?_⟩) (by assumption) ?_
            · obtain ⟨hW1, hW2, hW3⟩ := hW
              go_simp
            simp only [Act.put, List.getElem_toArray, List.getElem_cons_succ, List.getElem_cons_zero, List.setIfInBounds_toArray, List.set_cons_zero, List.set_cons_succ]
            refine wpAnyH_take (i := 9) (oi := _) (v := .int .i64 (wrap64 (x7_1 + a0_3))) rfl (by kernel_rfl) (by kernel_rfl) (by kernel_rfl) (fun _ _ _ h => h) (Or.inl ⟨by rfl, fun W hW => ?_⟩) (by assumption) ?_
            · obtain ⟨hW1, hW2, hW3⟩ := hW
              go_simp
              exact IntWalk.i64_left _
            simp only [Act.put, List.getElem_toArray, List.getElem_cons_succ, List.getElem_cons_zero, List.setIfInBounds_toArray, List.set_cons_zero, List.set_cons_succ]
            refine wpAnyH_take (i := 10) (oi := _) (v := .pointer (some ⟨gb101, 4, none⟩)) rfl (by kernel_rfl) (by kernel_rfl) (by kernel_rfl) (fun _ _ _ h => h) (Or.inl ⟨by rfl, fun W hW => ?_⟩) (by assumption) ?_
            · obtain ⟨hW1, hW2, hW3⟩ := hW
              go_simp
            simp only [Act.put, List.getElem_toArray, List.getElem_cons_succ, List.getElem_cons_zero, List.setIfInBounds_toArray, List.set_cons_zero, List.set_cons_succ]
            refine wpAnyH_take (i := 11) (oi := _) (v := .slice A0_4 l0_4.length c0_4) rfl (by kernel_rfl) (by kernel_rfl) (by kernel_rfl) (fun _ _ _ h => h) (Or.inl ⟨by rfl, fun W hW => ?_⟩) (by assumption) ?_
            · obtain ⟨hW1, hW2, hW3⟩ := hW
              go_simp
            simp only [Act.put, List.getElem_toArray, List.getElem_cons_succ, List.getElem_cons_zero, List.setIfInBounds_toArray, List.set_cons_zero, List.set_cons_succ]
            refine wpAnyH_take (i := 12) (oi := _) (v := .int .i64 (l0_4.length : Int)) rfl (by kernel_rfl) (by kernel_rfl) (by kernel_rfl) (fun _ _ _ h => h) (Or.inl ⟨by rfl, fun W hW => ?_⟩) (by assumption) ?_
            · obtain ⟨hW1, hW2, hW3⟩ := hW
              go_simp
            simp only [Act.put, List.getElem_toArray, List.getElem_cons_succ, List.getElem_cons_zero, List.setIfInBounds_toArray, List.set_cons_zero, List.set_cons_succ]
            refine wpAnyH_take (i := 13) (oi := _) (v := .int .i64 ji9) rfl (by kernel_rfl) (by kernel_rfl) (by kernel_rfl) (fun _ _ _ h => h) (Or.inl ⟨by rfl, fun W hW => ?_⟩) (by assumption) ?_
            · obtain ⟨hW1, hW2, hW3⟩ := hW
              go_simp
            simp only [Act.put, List.getElem_toArray, List.getElem_cons_succ, List.getElem_cons_zero, List.setIfInBounds_toArray, List.set_cons_zero, List.set_cons_succ]
            refine wpAnyH_ready (rs := [14]) (by kernel_rfl) (by simp) ?_
            refine AllReadyH.cons rfl (fun K hK => ?_) AllReadyH.nil
            go_simp
            refine (luciferref00_Fits.calls (rd l1 x8_1) (wrap64 (x7_1 + 1)) ji9 false _ A10.out).mono ?_
            rintro e w' ⟨rfl, ⟨nd, rfl⟩⟩
            refine hK.out _ _ ⟨(by simpa using hcz13_3), (by simpa using hcz13_4), (by simpa using hx104_0)⟩ (fun hS2 => ?_)
            clear hK K
            refine wpAnyH_take (i := 15) (oi := _) (v := .bool true) rfl (by kernel_rfl) (by kernel_rfl) (by kernel_rfl) (fun _ _ _ h => h) (Or.inl ⟨by rfl, fun W hW => ?_⟩) (by assumption) ?_
            · obtain ⟨hW1, hW2, hW3⟩ := hW
              go_simp
            simp only [Act.put, List.getElem_toArray, List.getElem_cons_succ, List.getElem_cons_zero, List.setIfInBounds_toArray, List.set_cons_zero, List.set_cons_succ]
            refine wpAnyH_done (by kernel_rfl) ?_ _
            go_wp2
            go_ret
            exact ⟨by first | rfl | (simp [errW_none, errW_some] <;> rfl) | (simp only [← hji9]; first | rfl | (simp [errW_none, errW_some] <;> rfl)) | (simp [*, errW_none, errW_some] <;> rfl), by repeat (first | (with_reducible first | exact HB.out | apply below_alloc | apply pw_below_drewN | apply below_drew1 | refine below_set ?_ GE101.out) | exact HB.out)⟩
        · rw [if_neg c8] at H
          exact absurd H (by simp)
      · rw [if_neg c7] at H
        have c7b0 : decide (x8_1 < (l1.length : Int)) = false := decide_eq_false c7
        clear c7
        by_cases c14 : t102 = true
        · subst c14
          have H1 : (if t103 = 0 then (some (x7_1 == (l0_4.length : Int))) else (some false)) = some r := by rw [if_pos rfl] at H; exact H
          clear H
          have H := H1
          clear H1
          by_cases c15 : t103 = 0
          · rw [if_pos c15] at H
            have c15b0 : (t103 == 0) = true := beq_iff_eq.mpr c15
            have c15b1 : (t103 != 0) = false := bne_eq_false_iff_eq.mpr c15
            clear c15
            obtain rfl := Option.some.inj H
            have hcz16_0 : wr.cell? ⟨gb101, 0, none⟩ = some (.int .i64 a0_0) := (blk_cell BK101.out 0).trans rfl
            have hcz16_1 : wr.cell? ⟨gb101, 1, none⟩ = some (.int .i64 a0_1) := (blk_cell BK101.out 1).trans rfl
            have hcz16_2 : wr.cell? ⟨gb101, 2, none⟩ = some (.int .i64 a0_2) := (blk_cell BK101.out 2).trans rfl
            have hcz16_3 : wr.cell? ⟨gb101, 3, none⟩ = some (.int .i64 a0_3) := (blk_cell BK101.out 3).trans rfl
            have hcz16_4 : wr.cell? ⟨gb101, 4, none⟩ = some (.slice A0_4 l0_4.length c0_4) := (blk_cell BK101.out 4).trans rfl
            have hfz16_0 := blk_frozen BK101.out 0
            have hfz16_1 := blk_frozen BK101.out 1
            have hfz16_2 := blk_frozen BK101.out 2
            have hfz16_3 := blk_frozen BK101.out 3
            have hfz16_4 := blk_frozen BK101.out 4
            go_wp2
            repeat (go_quiet (fail); try go_wp2)
            go_ret
            exact ⟨by first | rfl | (simp [errW_none, errW_some] <;> rfl) | (simp [*, errW_none, errW_some] <;> rfl), by repeat (first | (with_reducible first | exact HB.out | apply below_alloc | apply pw_below_drewN | apply below_drew1 | refine below_set ?_ GE101.out) | exact HB.out)⟩
          · rw [if_neg c15] at H
            have c15b0 : (t103 == 0) = false := beq_eq_false_iff_ne.mpr c15
            have c15b1 : (t103 != 0) = true := bne_iff_ne.mpr c15
            obtain rfl := Option.some.inj H
            go_wp2
            repeat (go_quiet (fail); try go_wp2)
            go_ret
            exact ⟨by first | rfl | (simp [errW_none, errW_some] <;> rfl) | (simp [*, errW_none, errW_some] <;> rfl), by repeat (first | (with_reducible first | exact HB.out | apply below_alloc | apply pw_below_drewN | apply below_drew1 | refine below_set ?_ GE101.out) | exact HB.out)⟩
        · replace c14 := Bool.eq_false_iff.mpr c14
          subst c14
          have H1 : (some false) = some r := by rw [if_neg (show ¬ (false = true) by decide)] at H; exact H
          clear H
          have H := H1
          clear H1
          obtain rfl := Option.some.inj H
          go_wp2
          repeat (go_quiet (fail); try go_wp2)
          go_ret
          exact ⟨by first | rfl | (simp [errW_none, errW_some] <;> rfl) | (simp [*, errW_none, errW_some] <;> rfl), by repeat (first | (with_reducible first | exact HB.out | apply below_alloc | apply pw_below_drewN | apply below_drew1 | refine below_set ?_ GE101.out) | exact HB.out)⟩
end Go.Proofs.YtbbdbdamedaldaaDoor.PL
end
section
namespace Go.Proofs.YtbbdbdamedaldaaDoor.Fl
open Go
def okF (n : Nat) (gr : Int) : Int → List Int → Prop
  | a, [] => a = n
  | a, t :: p => a < t ∧ t ≤ n ∧ t - a ≤ gr ∧ okF n gr t p
def prevA (a : Int) (p : List Int) (k : Nat) : Int := if k = 0 then a else p.getD (k - 1) 0
theorem okF_iff (n : Nat) (gr : Int) : ∀ (p : List Int) (a : Int), 0 ≤ a → (okF n gr a p ↔ (∀ i, i < p.length → boxB n gr (prevA a p i) (p.getD i 0) = true) ∧ prevA a p p.length = n)
  | [], a, _ => by simp [okF, prevA]
  | t :: p, a, ha => by
    constructor
    · rintro ⟨h1, h2, h3, h4⟩
      obtain ⟨h5, h6⟩ := (okF_iff n gr p t (by omega)).1 h4
      refine ⟨fun i hi => ?_, ?_⟩
      · cases i with
        | zero =>
          show boxB n gr a t = true
          rw [boxB_iff]
          omega
        | succ i =>
          have := h5 i (by simpa using hi)
          have e : prevA a (t :: p) (i + 1) = prevA t p i := by
            unfold prevA
            cases i <;> simp
          rw [e]
          simpa using this
      · have e : prevA a (t :: p) (p.length + 1) = prevA t p p.length := by
          unfold prevA
          cases hp : p.length <;> simp
        rw [List.length_cons, e]
        exact h6
    · rintro ⟨h5, h6⟩
      have h0 := h5 0 (by simp)
      have h0' : boxB n gr a t = true := h0
      rw [boxB_iff] at h0'
      refine ⟨h0'.2.1, h0'.2.2.1, h0'.2.2.2, (okF_iff n gr p t (by omega)).2 ⟨fun i hi => ?_, ?_⟩⟩
      · have := h5 (i + 1) (by simpa using hi)
        have e : prevA a (t :: p) (i + 1) = prevA t p i := by
          unfold prevA
          cases i <;> simp
        rw [e] at this
        simpa using this
      · have e : prevA a (t :: p) (p.length + 1) = prevA t p p.length := by
          unfold prevA
          cases hp : p.length <;> simp
        rw [List.length_cons, e] at h6
        exact h6
theorem planP_iff (n : Nat) (gr : Int) (p : List Int) : planP n gr p ↔ okF n gr 0 p := by
  rw [okF_iff n gr p 0 (Int.le_refl _)]
  rfl
theorem okF_mem {n : Nat} {gr : Int} : ∀ {p : List Int} {a : Int}, okF n gr a p → ∀ x ∈ p, a < x ∧ x ≤ n
  | [], _, _, x, hx => by simp at hx
  | t :: p, a, h, x, hx => by
    rcases List.mem_cons.1 hx with rfl | hx
    · exact ⟨h.1, h.2.1⟩
    · have := okF_mem h.2.2.2 x hx
      have := h.1
      omega
theorem mem_plansF (n : Nat) (gr : Int) (hg : 0 ≤ gr) : ∀ (d a : Nat) (plan : List Int), n ≤ a + d → a ≤ n → ∀ p, p ∈ plansF n gr.toNat d a plan ↔ ∃ s, p = plan ++ s ∧ okF n gr a s
  | 0, a, plan, hd, ha, p => by
    have e : a = n := by omega
    subst e
    rw [plansF_leaf]
    constructor
    · intro h
      exact ⟨[], by simpa using h, rfl⟩
    · rintro ⟨s, rfl, hs⟩
      cases s with
      | nil => simp
      | cons t s =>
        have := hs.1
        have := hs.2.1
        omega
  | d + 1, a, plan, hd, ha, p => by
    by_cases e : a = n
    · subst e
      rw [plansF_leaf]
      constructor
      · intro h
        exact ⟨[], by simpa using h, rfl⟩
      · rintro ⟨s, rfl, hs⟩
        cases s with
        | nil => simp
        | cons t s =>
          have := hs.1
          have := hs.2.1
          omega
    · rw [plansF_step _ _ _ _ _ e]
      unfold flatP
      simp only [List.mem_flatMap, List.mem_range]
      constructor
      · rintro ⟨k, hk, hp⟩
        split at hp
        · rename_i hle
          obtain ⟨s, rfl, hs⟩ := (mem_plansF n gr hg d (a + k + 1) _ (by omega) hle p).1 hp
          exact ⟨((a + k + 1 : Nat) : Int) :: s, by simp, by omega, by omega, by omega, hs⟩
        · simp at hp
      · rintro ⟨s, rfl, hs⟩
        cases s with
        | nil => exact absurd (Int.natCast_inj.1 hs) e
        | cons t s =>
          obtain ⟨h1, h2, h3, h4⟩ := hs
          obtain ⟨k, hk⟩ : ∃ k : Nat, t = ((a + k + 1 : Nat) : Int) := ⟨(t - a - 1).toNat, by omega⟩
          subst hk
          refine ⟨k, by omega, ?_⟩
          rw [if_pos (by omega)]
          exact (mem_plansF n gr hg d (a + k + 1) _ (by omega) (by omega) _).2 ⟨s, by simp, h4⟩
theorem mem_plansL (n : Nat) (gr : Int) (hg : 0 ≤ gr) (p : List Int) : p ∈ plansL n gr.toNat ↔ planP n gr p := by
  rw [planP_iff]
  unfold plansL
  rw [mem_plansF n gr hg n 0 [] (by omega) (by omega)]
  simp
def pick1 (bt : Int → Int → Int → Int → Bool) (hn : List Int → Int) (o : Option (List Int)) (p : List Int) : Option (List Int) := match o with | none => some p | some q => if bt p.length (hn p) q.length (hn q) = true then some p else some q
theorem fold_some {bt : Int → Int → Int → Int → Bool} {hn key : List Int → Int} {P : List Int → Prop} (hk : ∀ p q, P p → P q → bt p.length (hn p) q.length (hn q) = decide (key p < key q)) :
    ∀ (l : List (List Int)) (d : List Int), P d → (∀ c ∈ l, P c) → ∃ e, l.foldl (pick1 bt hn) (some d) = some e ∧ P e ∧ (∀ c ∈ l, key e ≤ key c) ∧ key e ≤ key d ∧
      ((e = d) ∨ ∃ l1 l2, l = l1 ++ e :: l2 ∧ key e < key d ∧ ∀ c ∈ l1, key e < key c)
  | [], d, hd, _ => ⟨d, rfl, hd, by simp, by omega, .inl rfl⟩
  | c :: l, d, hd, hl => by
    have hc := hl c List.mem_cons_self
    have hl2 : ∀ c ∈ l, P c := fun x hx => hl x (List.mem_cons_of_mem _ hx)
    rw [List.foldl_cons]
    by_cases h : key c < key d
    · have hb : pick1 bt hn (some d) c = some c := by unfold pick1; simp only; rw [hk c d hc hd, if_pos (by simpa using h)]
      rw [hb]
      obtain ⟨e, he, hP, h1, h2, h3⟩ := fold_some hk l c hc hl2
      refine ⟨e, he, hP, ?_, by omega, .inr ?_⟩
      · intro x hx
        rcases List.mem_cons.1 hx with rfl | hx
        · exact h2
        · exact h1 x hx
      · rcases h3 with rfl | ⟨l1, l2, rfl, h4, h5⟩
        · exact ⟨[], l, rfl, h, by simp⟩
        · refine ⟨c :: l1, l2, rfl, by omega, ?_⟩
          intro x hx
          rcases List.mem_cons.1 hx with rfl | hx
          · exact h4
          · exact h5 x hx
    · have hb : pick1 bt hn (some d) c = some d := by unfold pick1; simp only; rw [hk c d hc hd, if_neg (by simpa using h)]
      rw [hb]
      obtain ⟨e, he, hP, h1, h2, h3⟩ := fold_some hk l d hd hl2
      refine ⟨e, he, hP, ?_, h2, ?_⟩
      · intro x hx
        rcases List.mem_cons.1 hx with rfl | hx
        · omega
        · exact h1 x hx
      · rcases h3 with h3 | ⟨l1, l2, rfl, h4, h5⟩
        · exact .inl h3
        · refine .inr ⟨c :: l1, l2, rfl, h4, ?_⟩
          intro x hx
          rcases List.mem_cons.1 hx with rfl | hx
          · omega
          · exact h5 x hx
theorem bestP_first {bt : Int → Int → Int → Int → Bool} {hn key : List Int → Int} {P : List Int → Prop} (hk : ∀ p q, P p → P q → bt p.length (hn p) q.length (hn q) = decide (key p < key q))
    (l : List (List Int)) (hl : l ≠ []) (hP : ∀ c ∈ l, P c) : ∃ l1 l2, l = l1 ++ bestP bt hn l :: l2 ∧ (∀ c ∈ l, key (bestP bt hn l) ≤ key c) ∧ ∀ c ∈ l1, key (bestP bt hn l) < key c := by
  cases l with
  | nil => exact absurd rfl hl
  | cons c l =>
    have e0 : bestP bt hn (c :: l) = (l.foldl (pick1 bt hn) (some c)).getD [] := rfl
    obtain ⟨e, he, _, h1, h2, h3⟩ := fold_some hk l c (hP c List.mem_cons_self) (fun x hx => hP x (List.mem_cons_of_mem _ hx))
    rw [e0, he]
    simp only [Option.getD_some]
    rcases h3 with rfl | ⟨l1, l2, rfl, h4, h5⟩
    · refine ⟨[], l, rfl, ?_, by simp⟩
      intro x hx
      rcases List.mem_cons.1 hx with rfl | hx
      · omega
      · exact h1 x hx
    · refine ⟨c :: l1, l2, rfl, ?_, ?_⟩
      · intro x hx
        rcases List.mem_cons.1 hx with rfl | hx
        · exact h2
        · exact h1 x hx
      · intro x hx
        rcases List.mem_cons.1 hx with rfl | hx
        · exact h4
        · exact h5 x hx
def handB (pr le mo : Int) (q : List (Int × Int)) (p : List Int) : Int := handN pr le mo (lowOf q) (highOf q) p
theorem handL_length (pr le mo : Int) (q : List (Int × Int)) (p : List Int) : ((handL pr le mo q p).length : Int) = handB pr le mo q p := rfl
theorem handB_bd (pr le mo : Int) (q : List (Int × Int)) (p : List Int) : 0 ≤ handB pr le mo q p ∧ handB pr le mo q p ≤ p.length := handN_bd _ _ _ _ _ _
structure Bk (pr le mo gr : Int) (q : List (Int × Int)) (p : List Int) : Prop where
  plan : planP q.length gr p
  least : ∀ c, planP q.length gr c → handB pr le mo q p ≤ handB pr le mo q c
  long : ∀ c, planP q.length gr c → handB pr le mo q c = handB pr le mo q p → c.length ≤ p.length
theorem best_is {pr le mo gr : Int} {q : List (Int × Int)} (hck : checkB pr le mo gr q = true) : Bk pr le mo gr q (bestPlan pr le mo gr q) ∧
    ∃ l1 l2, plansL q.length gr.toNat = l1 ++ bestPlan pr le mo gr q :: l2 ∧ ∀ c ∈ l1, handB pr le mo q (bestPlan pr le mo gr q) < handB pr le mo q c ∨ (handB pr le mo q (bestPlan pr le mo gr q) = handB pr le mo q c ∧ c.length < (bestPlan pr le mo gr q).length) := by
  have hF := bookF hck
  have hg : 0 ≤ gr := by have := hF.g1; omega
  have h8 : ∀ c, planP q.length gr c → c.length ≤ 8 := fun c hc => Nat.le_trans (planP_length hc) hF.n8
  have hne := plansL_ne q.length gr.toNat (by have := hF.g1; omega)
  obtain ⟨l1, l2, h1, h2, h3⟩ := bestP_first (bt := btFew) (hn := handB pr le mo q) (key := fun p => handB pr le mo q p * 16 - p.length) (P := fun p => p.length ≤ 8)
    (fun p r hp hr => by unfold btFew; rw [Bool.eq_iff_iff]; simp; omega) (plansL q.length gr.toNat) hne (fun c hc => h8 c ((mem_plansL _ _ hg c).1 hc))
  have hb : bestP btFew (handB pr le mo q) (plansL q.length gr.toNat) = bestPlan pr le mo gr q := rfl
  rw [hb] at h1 h2 h3
  have hpl : planP q.length gr (bestPlan pr le mo gr q) := (mem_plansL _ _ hg _).1 (by rw [h1]; simp)
  have hl := h8 _ hpl
  refine ⟨⟨hpl, fun c hc => ?_, fun c hc he => ?_⟩, l1, l2, h1, fun c hc => ?_⟩
  · have := h2 c ((mem_plansL _ _ hg c).2 hc)
    have := h8 c hc
    omega
  · have := h2 c ((mem_plansL _ _ hg c).2 hc)
    omega
  · have := h3 c hc
    have := h8 c ((mem_plansL _ _ hg c).1 (by rw [h1]; simp [hc]))
    omega
theorem most_is {pr le mo gr : Int} {q : List (Int × Int)} (hck : checkB pr le mo gr q = true) : (∃ p, planP q.length gr p ∧ mostBoxes pr le mo gr q = (p.length : Int) - handB pr le mo q p) ∧ ∀ c, planP q.length gr c → (c.length : Int) - handB pr le mo q c ≤ mostBoxes pr le mo gr q := by
  have hF := bookF hck
  have hg : 0 ≤ gr := by have := hF.g1; omega
  have hne := plansL_ne q.length gr.toNat (by have := hF.g1; omega)
  obtain ⟨l1, l2, h1, h2, h3⟩ := bestP_first (bt := btSure) (hn := handB pr le mo q) (key := fun p => handB pr le mo q p - p.length) (P := fun _ => True)
    (fun p r _ _ => by unfold btSure; rw [Bool.eq_iff_iff]; simp; omega) (plansL q.length gr.toNat) hne (fun c hc => trivial)
  have hm : mostBoxes pr le mo gr q = ((bestP btSure (handB pr le mo q) (plansL q.length gr.toNat)).length : Int) - handB pr le mo q (bestP btSure (handB pr le mo q) (plansL q.length gr.toNat)) := rfl
  rw [hm]
  refine ⟨⟨_, (mem_plansL _ _ hg _).1 (bestP_mem hne), rfl⟩, fun c hc => ?_⟩
  have := h2 c ((mem_plansL _ _ hg c).2 hc)
  omega
end Go.Proofs.YtbbdbdamedaldaaDoor.Fl
end
section
namespace FM
theorem perm_sum {l k : List Int} (h : l.Perm k) : l.sum = k.sum := by
  induction h with
  | nil => rfl
  | cons x _ ih => simp [ih]
  | swap x y l => simp; omega
  | trans _ _ h1 h2 => rw [h1, h2]
theorem most_is {l s : List Int} (hp : l.Perm s) (m : Nat) (hm : m ≤ l.length) : ∃ t : List Int, t.Sublist l ∧ t.length = m ∧ t.sum = (s.drop (s.length - m)).sum := by
  obtain ⟨t', h1, h2⟩ := List.exists_perm_sublist (List.drop_sublist (s.length - m) s) hp.symm
  refine ⟨t', h2, ?_, perm_sum h1⟩
  rw [h1.length_eq, List.length_drop, ← hp.length_eq]
  omega
end FM
end
section
namespace Go.Proofs.YtbbdbdamedaldaaDoor.PL
open Go Go.RowKit Go.Proofs.YtbbdbdamedaldaaDoorW.PrintWords Fl
def inI (x : Int) : Prop := -9223372036854775808 ≤ x ∧ x ≤ 9223372036854775807
def inS (l : List S27) : Prop := ∀ s ∈ l, inI s.f0 ∧ inI s.f1
theorem fits_f (x a b : Int) : luciferref00_Fits.f x a b = some (decide (a ≤ x) && decide (x ≤ b)) := by
  unfold luciferref00_Fits.f
  by_cases h : a ≤ x <;> simp [h]
theorem right_f (x y a b : Int) : luciferref00_Right.f x y a b = some (decide (a ≤ x) && decide (x ≤ y) && decide (y ≤ b)) := by
  unfold luciferref00_Right.f
  by_cases h : a ≤ x <;> by_cases h2 : x ≤ y <;> simp [h, h2]
theorem rd27 (l : List S27) (i : Nat) (hi : i < l.length) : rd_T27 l (i : Int) = l[i] := by
  simp [rd_T27, List.getD_eq_getElem?_getD, List.getElem?_eq_getElem hi]
theorem w64 {x : Int} (h : inI x) : wrap64 x = x := IntWalk.wrap64_in _ h
theorem inB {a b c d : Int} {l : List S27} (h : checkB a b c d (prs l) = true) : l.length ≤ 8 ∧ ∀ s ∈ l, (0 ≤ s.f0 ∧ s.f0 ≤ 200) ∧ (0 ≤ s.f1 ∧ s.f1 ≤ 200) := by
  have hF := bookF h
  refine ⟨by have := hF.n8; rw [prs_length] at this; exact this, fun s hs => ?_⟩
  have := hF.ok (s.f0, s.f1) (List.mem_map.2 ⟨s, hs, rfl⟩)
  simp only at this
  omega
def planFB (n : Nat) (gr : Int) : Int → List Int → Bool
  | a, [] => a == n
  | a, t :: p => boxB n gr a t && planFB n gr t p
theorem planFB_iff (n : Nat) (gr : Int) : ∀ (p : List Int) (a : Int), 0 ≤ a → (planFB n gr a p = true ↔ okF n gr a p)
  | [], a, _ => by simp [planFB, okF]
  | t :: p, a, ha => by
    unfold planFB okF
    rw [Bool.and_eq_true, boxB_iff]
    constructor
    · rintro ⟨h1, h2⟩
      exact ⟨h1.2.1, h1.2.2.1, h1.2.2.2, (planFB_iff n gr p t (by omega)).1 h2⟩
    · rintro ⟨h1, h2, h3, h4⟩
      exact ⟨⟨ha, h1, h2, h3⟩, (planFB_iff n gr p t (by omega)).2 h4⟩
theorem planB_FB (n : Nat) (gr : Int) (p : List Int) : planB n gr p = planFB n gr 0 p := by
  rw [Bool.eq_iff_iff, planB_iff, planP_iff, planFB_iff n gr p 0 (Int.le_refl _)]
theorem rd_get (p : List Int) (i : Nat) (hi : i < p.length) : rd p (i : Int) = p[i] := by
  simp [rd, List.getD_eq_getElem?_getD, List.getElem?_eq_getElem hi]
end Go.Proofs.YtbbdbdamedaldaaDoor.PL
end
section
namespace Go.Proofs.YtbbdbdamedaldaaDoor.PL
open Go Go.RowKit Go.Proofs.YtbbdbdamedaldaaDoorW.PrintWords Fl
theorem planx_l0 (a b c d : Int) (l : List S27) (p : List Int) (B : Bool) (hp : wfL p) (h8 : l.length ≤ 8) (hpl : p.length ≤ 9223372036854775807) (g1 : 1 ≤ d) (g4 : d ≤ 4) : ∀ (m i : Nat) (fr : Int), 0 ≤ fr → fr ≤ 8 → i + m = p.length →
    Ev (fun k => luciferlaw05_planx.l0 k p B 0 fr i a b c d l) (B && planFB l.length d fr (p.drop i))
  | 0, i, fr, _, _, h => by
    have e : p.drop i = [] := List.drop_eq_nil_of_le (by omega)
    rw [e]
    refine Ev.step (f := fun _ => some (B && planFB l.length d fr [])) (fun k => ?_) (Ev.now _)
    simp only [luciferlaw05_planx.l0]
    rw [if_neg (by omega)]
    cases B <;> rfl
  | m + 1, i, fr, hf0, hf8, h => by
    have hi : i < p.length := by omega
    have hx : inI p[i] := hp _ (List.getElem_mem _)
    have hw := Lib.hid (show wrap64 ((i : Int) + 1) = ((i + 1 : Nat) : Int) by rw [w64 ⟨by omega, by omega⟩]; omega)
    have hfit := Lib.hid (show luciferref00_Fits.f p[i] (wrap64 (fr + 1)) (mn (wrap64 (fr + d)) (l.length : Int)) = some (boxB l.length d fr p[i]) by
      rw [fits_f, w64 (x := fr + 1) ⟨by omega, by omega⟩, w64 (x := fr + d) ⟨by omega, by omega⟩]
      congr 1
      rw [Bool.eq_iff_iff, boxB_iff, Bool.and_eq_true, decide_eq_true_eq, decide_eq_true_eq]
      unfold mn
      split <;> omega)
    rw [List.drop_eq_getElem_cons hi]
    unfold planFB
    cases hb : boxB l.length d fr p[i] with
    | true =>
      have hbb := (boxB_iff _ _ _ _).1 hb
      refine Ev.step (f := fun k => luciferlaw05_planx.l0 k p B 0 p[i] (i + 1 : Nat) a b c d l) (fun k => ?_) ?_
      · simp only [luciferlaw05_planx.l0]
        rw [if_pos (by omega), if_pos (by omega), rd_get p i hi, hfit.out, Option.bind_some, hb, if_pos rfl, hw.out]
      · rw [Bool.true_and]
        exact planx_l0 a b c d l p B hp h8 hpl g1 g4 m (i + 1) _ (by omega) (by omega) (by omega)
    | false =>
      refine Ev.step (f := fun _ => some false) (fun k => ?_) (by rw [Bool.false_and, Bool.and_false]; exact Ev.now _)
      simp only [luciferlaw05_planx.l0]
      rw [if_pos (by omega), if_pos (by omega), rd_get p i hi, hfit.out, Option.bind_some, hb, if_neg (by decide)]
def luciferlaw05_plan.f (a b c d : Int) (l : List S27) (p : List Int) : Option Bool := if wfB p = true ∧ checkB a b c d (prs l) = true then some (planB l.length d p) else none
theorem planx_f {a b c d : Int} {l : List S27} (h : checkB a b c d (prs l) = true) (p : List Int) (hwf : wfB p = true) (hpl : p.length ≤ 9223372036854775807) : Ev (fun k => luciferlaw05_planx.f k a b c d l p) (planB l.length d p) := by
  have hF := bookF h
  have h8 := hF.n8
  rw [prs_length] at h8
  have := planx_l0 a b c d l p (planB l.length d p) ((wfB_iff p).1 hwf) h8 hpl hF.g1 hF.g4 p.length 0 0 (by omega) (by omega) (by omega)
  rw [List.drop_zero, ← planB_FB, Bool.and_self] at this
  refine Ev.congr (fun k => ?_) this
  unfold luciferlaw05_planx.f fill_IsPlan.f
  rw [if_pos hwf, if_pos h, Option.bind_some]
  rfl
theorem luciferlaw05_plan.calls (a b c d : Int) (A : Option Addr) (cap : Nat) (l : List S27) (A1 : Option Addr) (c1 : Nat) (p : List Int) (r : Bool) (w : World) (hr : Kd.C k27 w A l.length l) (hc : l.length ≤ cap) (hr1 : Kd.C (Kd.int .i64) w A1 p.length p) (hc1 : p.length ≤ c1)
    (h : luciferlaw05_plan.f a b c d l p = some r) :
    Calls Tryd.prog 40 #[.agg #[.int .i64 a, .int .i64 b, .int .i64 c, .int .i64 d, .slice A l.length cap], .slice A1 p.length c1] w fun e w' => e = .returned (.bool r) ∧ Below w.heap.size w w' := by
  unfold luciferlaw05_plan.f at h
  by_cases hy : wfB p = true ∧ checkB a b c d (prs l) = true
  case neg => rw [if_neg hy] at h; cases h
  rw [if_pos hy] at h
  obtain rfl := Option.some.inj h
  obtain ⟨K, hK⟩ := planx_f hy.2 p hy.1 hr1.2.1
  exact luciferlaw05_planx.calls _ a b c d A cap l A1 c1 p _ w hr hc hr1 hc1 (hK K (Nat.le_refl _))
end Go.Proofs.YtbbdbdamedaldaaDoor.PL
end
