/- The card of FillAsk: the row, its listed variable tied to the program's text. Whatever the input, the law returns true, and each argument reads afterwards as it did. (part 7) -/
import Derived.ArgAppend
import Derived.Deep.RegionLawGrows
import Derived.TacticsInMore
import Derived.Laws.EntriesVeiled
import Derived.RangeFuncCalls
import Derived.WalkKit
import Derived.Test.YtbbdbdamedaldaaDoorAsk5
set_option linter.unusedVariables false
set_option linter.unusedSimpArgs false
section
namespace Go.Proofs.YtbbdbdamedaldaaDoor.Fl
open Go Go.RowKit Go.Proofs.EqArr Go.Proofs.RngLaw Go.Proofs.CopyN
abbrev KN (S : Nat → Prop) (A B : World) : Prop := KeepsBut (fun k => S k ∨ ∃ o : Obj, A.heap[k]? = some o ∧ o.isCells = false) A B
theorem KN.trans {S : Nat → Prop} {A B C : World} (h : KN S A B) (k : KN S B C) : KN S A C :=
  ⟨k.os.trans h.os, k.tape.trans h.tape, k.output.trans h.output, Nat.le_trans h.size k.size, fun i hi hs => by
    have e := h.same i hi hs
    refine (k.same i (Nat.lt_of_lt_of_le hi h.size) (fun hB => hB.elim (fun x => hs (.inl x)) fun ⟨o, ho, hc⟩ => hs (.inr ⟨o, e ▸ ho, hc⟩))).trans e⟩
theorem KN.of_below {S : Nat → Prop} {A B : World} (h : Below A.heap.size A B) : KN S A B := KeepsBut.of_below h
theorem KN.block {S : Nat → Prop} {A B : World} (h : KN S A B) {k : Nat} {o : Obj} (ho : A.heap[k]? = some o) (hc : o.isCells = true) (hs : ¬ S k) : B.heap[k]? = some o :=
  (h.same k (Array.getElem?_eq_some_iff.1 ho).1 (fun x => x.elim hs fun ⟨o', ho', hc'⟩ => by rw [ho] at ho'; cases ho'; rw [hc] at hc'; cases hc')).trans ho
theorem cell_isCells {A : World} {p : Addr} {v : Value} (h : A.cell? p = some v) : ∃ o, A.heap[p.block]? = some o ∧ o.isCells = true := by
  unfold World.cell? at h
  cases hb : A.heap[p.block]? with
  | none => simp [hb] at h
  | some o => cases o <;> simp [hb] at h <;> exact ⟨_, rfl, rfl⟩
theorem KN.cell {S : Nat → Prop} {A B : World} (h : KN S A B) {p : Addr} {v : Value} (hc : A.cell? p = some v) (hs : ¬ S p.block) : B.cell? p = some v := by
  obtain ⟨o, ho, hoc⟩ := cell_isCells hc
  exact (World.cell?_of_block ((h.block ho hoc hs).trans ho.symm)).trans hc
def ElI (S : Nat → Prop) (W : World) (x : List Int) (v : Value) : Prop :=
  ∃ A c, v = .slice A x.length c ∧ RdI W A x ∧ x.length ≤ c ∧ (A = none → c = 0) ∧ ∀ ad, A = some ad → (∃ g, ad = ⟨g, 0, none⟩) ∧ ¬ S ad.block
theorem ElI.kn {S T : Nat → Prop} (hST : ∀ k, S k → T k) {W W' : World} {x : List Int} {v : Value} (hk : KN S W W') (h : ElI T W x v) : ElI T W' x v := by
  obtain ⟨A, c, rfl, hr, hc, h0, hs⟩ := h
  refine ⟨A, c, rfl, ⟨hr.len, fun j hj => ?_⟩, hc, h0, hs⟩
  obtain ⟨ad, rfl, hc⟩ := hr.at_ j hj
  have hb : (ad.add j).block = ad.block := by unfold Addr.add; split <;> rfl
  exact ⟨ad, rfl, hk.cell hc (by rw [hb]; exact fun h => (hs ad rfl).2 (hST _ h))⟩
theorem rdI_ints {W : World} {A : Option Addr} {xs : List Int} (h : RdI W A xs) (ad : Addr) (hA : A = some ad) : ∀ j u, (ints xs)[j]? = some u → W.cell? (ad.add j) = some u := by
  intro j u hu
  have hj : j < xs.length := by
    have := (List.getElem?_eq_some_iff.1 hu).1
    simpa [ints] using this
  rw [ints_at xs j hj] at hu
  cases hu
  obtain ⟨ad', e, hc⟩ := h.at_ j hj
  rw [hA] at e
  cases e
  exact hc
theorem elI_own {N : Nat} {W : World} {base : Nat} {e : TypeId} {v : Value} {xs : List Int} (hN : N ≤ base) (h : W.ownsRow base e 1 v xs.length (ints xs)) (hpos : 0 < xs.length) : ElI (· < N) W xs v := by
  obtain ⟨A, c, rfl, hc, _, hsh⟩ := own_full h
  obtain ⟨⟨A', c', e1, h1, h2⟩, hl⟩ := hsh c hc
  cases e1
  obtain ⟨g, hg, rfl, hcell⟩ := h2 hpos
  refine ⟨_, c, rfl, ⟨hl, fun j hj => ⟨_, rfl, ?_⟩⟩, hc, fun h => (by cases h), fun ad he => ?_⟩
  · have ha : (⟨g, 0, none⟩ : Addr).add j = ⟨g, j, none⟩ := by unfold Addr.add; split <;> simp_all
    rw [ha]
    exact hcell j hj
  · cases he
    exact ⟨⟨g, rfl⟩, by simp; omega⟩
def plansF (n gr : Nat) : Nat → Nat → List Int → List (List Int)
  | 0, a, plan => if a = n then [plan] else []
  | d + 1, a, plan => if a = n then [plan] else (List.range gr).flatMap fun k => if a + k + 1 ≤ n then plansF n gr d (a + k + 1) (plan ++ [((a + k + 1 : Nat) : Int)]) else []
structure OnW (W : World) (cs : Array Value) (B Y O l : Nat) : Prop where
  book : W.heap[B]? = some (.cells cs 74)
  yv : W.cell? ⟨Y, 0, none⟩ = some (.func (.yield l) #[] #[])
  on : W.cell? ⟨O, 0, none⟩ = some (.func (.func 113) #[] #[.pointer (some ⟨B, 0, none⟩), .pointer (some ⟨Y, 0, none⟩), .pointer (some ⟨O, 0, none⟩)])
theorem OnW.kn {S : Nat → Prop} {W W' : World} {cs : Array Value} {B Y O l : Nat} (h : OnW W cs B Y O l) (hk : KN S W W') (hB : ¬ S B) (hY : ¬ S Y) (hO : ¬ S O) : OnW W' cs B Y O l :=
  ⟨hk.block h.book rfl hB, hk.cell h.yv hY, hk.cell h.on hO⟩
def OnPost (S : Nat → Prop) (J : List (List Int) → World → Prop) (ys : List (List Int)) (W : World) (e : Ending) (W' : World) : Prop := e = .returned (.bool true) ∧ J ys W' ∧ KN S W W'
end Go.Proofs.YtbbdbdamedaldaaDoor.Fl
end
section
namespace Go.Proofs.YtbbdbdamedaldaaDoor.Fl
open Go Go.RowKit Go.Proofs.EqArr Go.Proofs.RngLaw Go.Proofs.CopyN
theorem wp_append_grows {P : Program} {o : Oper} {a : Act} {w : World} {K : Act → World → Prop} {Q : Exit → Act → World → Prop}
    (s x : Operand) (t : TypeId) (hop : o.op = Op.call { callee := Callee.builtin Builtin.append, args := #[s, x], argTypes := #[t, t] })
    (e : TypeId) (i : TypeInfo) (z : Value) (size bytes : Nat) (h1 : P.underlying t = some (.slice e)) (h2 : P.info? e = some i) (h3 : i.zero = some z) (h4 : i.size = size) (h5 : i.bytes = bytes) (h6 : z.cells.size = size) (h7 : 0 < size)
    (ao : Option Addr) (n cap : Nat) (olds : List Value) (hs : a.eval s = .slice ao n cap) (hnone : ao = none → n = 0 ∧ cap = 0) (hlo : olds.length = n * size) (holds : ∀ b, ao = some b → ∀ j u, olds[j]? = some u → w.cell? (b.add j) = some u)
    (ad : Addr) (m c : Nat) (news : List Value) (hx : a.eval x = .slice (some ad) m c) (hn : news.length = m * size) (hc : ∀ j u, news[j]? = some u → w.cell? (ad.add j) = some u) (h1c : ∀ u ∈ news, u.oneCell' = true)
    (hfull : cap < n + m) (b1 : n + m ≤ maxLen) (b2 : (n + m) * bytes ≤ 140737488355328)
    (hK : ∀ v' w', w'.ownsRow w.heap.size e size v' (n + m) (olds ++ news) → w.grownBy w' none → K (a.put o.dst v') w') : Oper.wp P o a w K Q := by
  have h := step_append_grows (P := P) (ops := #[]) (o := { o with guard := none }) (a := a) (w := w) (K := K) (Q := Q) (E := False) rfl s x t hop e i z size bytes h1 h2 h3 h4 h5 h6 h7 ao n cap olds hs hnone hlo holds ad m c news hx hn hc h1c hfull b1 b2 hK
  rw [if_pos (by simp [Region.wanted])] at h
  exact h
set_option maxRecDepth 100000 in
set_option maxHeartbeats 2000000 in
theorem on_leaf (cs : Array Value) (pr le mo gr : Int) (A : Option Addr) (n c : Nat) (l h : Nat → Int) (r : Nat) (hB : BookC cs pr le mo gr A n c l h r)
    (S : Nat → Prop) (B Y O lp : Nat) (J : List (List Int) → World → Prop) (plan : List Int) (v : Value) (pre : List (List Int)) (W : World) (hW : OnW W cs B Y O lp)
    (hY : GoesOn Fence.wide 2 Tryd.prog lp v W fun W' => J (pre ++ [plan]) W' ∧ KN S W W') :
    Calls Tryd.prog 113 #[.int .i64 n, v, .pointer (some ⟨B, 0, none⟩), .pointer (some ⟨Y, 0, none⟩), .pointer (some ⟨O, 0, none⟩)] W (OnPost S J (pre ++ [plan]) W) := by
  have c4 := (cell_of_row _ _ 4 _ _ _ hW.book).trans hB.c4
  have hyv := hW.yv
  have hu2 := Tryd.underlying74
  have hu3 := Tryd.underlying24
  clear hB hW
  refine (callsIn_wide (n := 3)).1 ?_
  obtain ⟨fn, tmps, assign, body, hy, hR⟩ := hY
  refine callsIn_of_wp Tryd.func113 rfl trivial ?_ rfl
  simp only [Tryd.ntmps113, List.size_toArray, List.length_cons, List.length_nil, Nat.reduceAdd, Nat.reduceSub, Array.replicate_succ, Array.replicate_zero, List.push_toArray, List.append_toArray, List.nil_append, List.cons_append]
  gi_wp2_with (first
    | (refine hR.mono ?_; clear hR; rintro e W2 ⟨rfl, hJ2, hk2⟩)
    | (refine ⟨fun h => (by cases h), hR.mono ?_⟩; clear hR; rintro e W2 ⟨rfl, hJ2, hk2⟩))
  go_ret
  exact ⟨rfl, hJ2, hk2⟩
end Go.Proofs.YtbbdbdamedaldaaDoor.Fl
end
section
namespace Go.Proofs.YtbbdbdamedaldaaDoor.Fl
open Go Go.RowKit Go.Proofs.EqArr Go.Proofs.RngLaw Go.Proofs.CopyN
def onV (B Y O : Nat) : Value := .func (.func 113) #[] #[.pointer (some ⟨B, 0, none⟩), .pointer (some ⟨Y, 0, none⟩), .pointer (some ⟨O, 0, none⟩)]
def flatP (n gr d a : Nat) (plan : List Int) (k : Nat) : List (List Int) := (List.range k).flatMap fun k => if a + k + 1 ≤ n then plansF n gr d (a + k + 1) (plan ++ [((a + k + 1 : Nat) : Int)]) else []
theorem flatP_succ (n gr d a : Nat) (plan : List Int) (k : Nat) : flatP n gr d a plan (k + 1) = flatP n gr d a plan k ++ if a + k + 1 ≤ n then plansF n gr d (a + k + 1) (plan ++ [((a + k + 1 : Nat) : Int)]) else [] := by
  unfold flatP
  rw [List.range_succ, List.flatMap_append]
  simp
theorem flatP_prefix (n gr d a : Nat) (plan : List Int) : ∀ (k j : Nat), flatP n gr d a plan k <+: flatP n gr d a plan (k + j)
  | k, 0 => List.prefix_refl _
  | k, j + 1 => (flatP_prefix n gr d a plan k j).trans ⟨_, (flatP_succ n gr d a plan (k + j)).symm⟩
set_option maxRecDepth 100000 in
set_option maxHeartbeats 8000000 in
theorem on_loop (cs : Array Value) (pr le mo gr : Int) (A : Option Addr) (n c : Nat) (l h : Nat → Int) (r : Nat) (hB : BookC cs pr le mo gr A n c l h r) (hn : n ≤ 8) (g1 : 1 ≤ gr) (g4 : gr ≤ 4)
    (S : Nat → Prop) (N : Nat) (hSN : ∀ k, S k → k < N) (B Y O lp : Nat) (hSB : ¬ S B) (hSY : ¬ S Y) (hSO : ¬ S O)
    (J : List (List Int) → World → Prop) (hJ : ∀ pre A B, J pre A → Below A.heap.size A B → J pre B) (d a : Nat) (ha : a < n)
    (plan : List Int) (AP : Option Addr) (c1 : Nat) (pre : List (List Int)) (W : World) (hW : OnW W cs B Y O lp) (hN : N ≤ W.heap.size)
    (hpl : plan.length ≤ a) (hp : RdI W AP plan) (hc1 : plan.length ≤ c1) (hc0 : AP = none → c1 = 0) (hAS : ∀ ad, AP = some ad → (∃ g, ad = ⟨g, 0, none⟩) ∧ ¬ (ad.block < N)) (hJ0 : J pre W)
    (rec : ∀ k : Nat, (k : Int) < gr → a + k + 1 ≤ n → ∀ (v : Value) (X : World), OnW X cs B Y O lp → N ≤ X.heap.size → ElI (· < N) X (plan ++ [((a + k + 1 : Nat) : Int)]) v → J (pre ++ flatP n gr.toNat d a plan k) X →
      Calls Tryd.prog 113 #[.int .i64 ((a + k + 1 : Nat) : Int), v, .pointer (some ⟨B, 0, none⟩), .pointer (some ⟨Y, 0, none⟩), .pointer (some ⟨O, 0, none⟩)] X (OnPost S J (pre ++ flatP n gr.toNat d a plan k ++ plansF n gr.toNat d (a + k + 1) (plan ++ [((a + k + 1 : Nat) : Int)])) X)) :
    Calls Tryd.prog 113 #[.int .i64 a, .slice AP plan.length c1, .pointer (some ⟨B, 0, none⟩), .pointer (some ⟨Y, 0, none⟩), .pointer (some ⟨O, 0, none⟩)] W (OnPost S J (pre ++ flatP n gr.toNat d a plan gr.toNat) W) := by
  have c4 := (cell_of_row _ _ 4 _ _ _ hW.book).trans hB.c4
  have c3 := (cell_of_row _ _ 3 _ _ _ hW.book).trans hB.c3
  have i74 : (Tryd.prog.info? 74).map (·.size) = some cs.size := by rw [hB.sz]; exact info74
  have hu2 := Tryd.underlying74
  have hu3 := Tryd.underlying24
  have hu4 := Tryd.underlying80
  obtain ⟨av, hav⟩ : ∃ av : Int, (a : Int) = av := ⟨_, rfl⟩
  rw [hav]
  have hne : (av == (n : Int)) = false := beq_eq_false_iff_ne.2 (by omega)
  have ibx := fun (k : Nat) (hk : (k : Int) < gr) (bv : Int) (hbv : av + k + 1 = bv) (b : Bool) (hb : b = decide (a + k + 1 ≤ n)) (X : World) =>
    (isBox_calls cs pr le mo gr A n c l h r hB av bv hn ⟨by omega, by omega⟩ X).mono (R' := fun e w' => e = .returned (.bool b) ∧ Below X.heap.size X w') (by
      rintro e w' ⟨rfl, hb'⟩
      refine ⟨?_, hb'⟩
      have h1 : decide (0 ≤ av) = true := decide_eq_true (by omega)
      have h2 : decide (av < bv) = true := decide_eq_true (by omega)
      have h3 : decide (bv - av ≤ gr) = true := decide_eq_true (by omega)
      have h4 : decide (bv ≤ (n : Int)) = decide (a + k + 1 ≤ n) := decide_eq_decide.2 (by omega)
      rw [h1, h2, h3, h4, hb]; simp)
  obtain ⟨m, hm⟩ : ∃ m, plan.length = m := ⟨_, rfl⟩
  have F0 := Lib.hid (And.intro hW (And.intro hp (And.intro hm (And.intro hJ0 (And.intro hpl (And.intro hc0 hAS))))))
  rw [hm]
  have hmc : m ≤ c1 := by omega
  have hma : m ≤ a := by omega
  have Rec := Lib.hid rec
  have IbxA := Lib.hid ibx
  have HJ := Lib.hid hJ
  have HS := Lib.hid (And.intro hSB (And.intro hSY (And.intro hSO hSN)))
  have ha2 : av ≤ 8 ∧ 0 ≤ av := by omega
  have Hav := Lib.hid hav
  have Ha2 := Lib.hid ha2
  clear ha2
  clear hB hW hp hm hJ0 hpl hc0 hAS rec ibx hJ hSB hSY hSO hSN hc1 hav
  go_enter Tryd.func113, Tryd.ntmps113
  go_wp2
  go_loopw [8, 9, 22] (fun _ _ v22 wr => ∃ k : Nat, (k : Int) ≤ gr ∧ v22 = .int .i64 k ∧ KN S W wr ∧ J (pre ++ flatP n gr.toNat d a plan k) wr) (fun _ _ v22 _ => gr.toNat - (intOf v22).toNat)
  case atStart => exact ⟨0, by omega, rfl, KeepsBut.refl _ _, by simpa [flatP] using F0.out.2.2.2.1⟩
  case round =>
    obtain ⟨k, hk, rfl, hkr, hJr⟩ := hrel
    by_cases hlt : (k : Int) < gr
    · have hw3 : wrap64 ((k : Int) + 1) = (k : Int) + 1 := IntWalk.wrap64_in _ (by omega)
      have HW3 := Lib.hid hw3
      clear hw3
      obtain ⟨sv, hsv⟩ : ∃ sv : Int, av + k = sv := ⟨_, rfl⟩
      have hw1 : wrap64 (av + k) = sv := (IntWalk.wrap64_in _ (by have := Ha2.out; omega)).trans hsv
      obtain ⟨bv, hbv⟩ : ∃ bv : Int, av + k + 1 = bv := ⟨_, rfl⟩
      have HW1 := Lib.hid hw1
      clear hw1
      have hw2 : wrap64 (sv + 1) = bv := (IntWalk.wrap64_in _ (by have := Ha2.out; omega)).trans (by rw [← hsv]; exact hbv)
      have HW2 := Lib.hid hw2
      clear hw2
      have Hbv := Lib.hid hbv
      have hbvn : bv = ((a + k + 1 : Nat) : Int) := by have := Hav.out; omega
      have Hbvn := Lib.hid hbvn
      clear hbvn
      have hWr : OnW wr cs B Y O lp := F0.out.1.kn hkr HS.out.1 HS.out.2.1 HS.out.2.2.1
      have hal : Below wr.heap.size wr (wr.alloc (.cells #[.int .i64 av, .int .i64 bv] 80)) := (Below.refl _ _).alloc (Nat.le_refl _) _
      have s1 := below_heap hal hWr.book
      have s2 := Go.heap_alloc_new wr (.cells #[.int .i64 av, .int .i64 bv] 80)
      have s3 : (wr.alloc (.cells #[.int .i64 av, .int .i64 bv] 80)).cell? ⟨O, 0, none⟩ = some (onV B Y O) := cell_kept_below hal hWr.on
      have hD : ∃ X, (wr.alloc (.cells #[.int .i64 av, .int .i64 bv] 80)).drew = X ∧ Below wr.heap.size wr X ∧ X.heap[B]? = some (.cells cs 74) ∧ X.heap[wr.heap.size]? = some (.cells #[.int .i64 av, .int .i64 bv] 80) ∧ X.cell? ⟨O, 0, none⟩ = some (onV B Y O) := ⟨_, rfl, hal.drew, s1, s2, s3⟩
      obtain ⟨w0, hw0, hB1⟩ := hD
      have HB1 := Lib.hid hB1
      have Hw0 := Lib.hid hw0
      have Hkr := Lib.hid (And.intro hkr (And.intro hJr hWr))
      have hNr : N ≤ wr.heap.size := Nat.le_trans hN hkr.size
      clear hal s1 s2 s3 hWr hkr hJr hbv hw0 hB1 hsv
      cases hle : decide (a + k + 1 ≤ n) with
      | false =>
        have Ibx := Lib.hid (IbxA.out k hlt bv Hbv.out false hle.symm)
        have hle2 : ¬ (a + k + 1 ≤ n) := by simpa using hle
        clear hle
        have hw1 := HW1.out
        have hw2 := HW2.out
        go_wp2_with fail
        clear hw1 hw2
        refine wp_region_held_drew (S := fun X => X.heap[B]? = some (.cells cs 74) ∧ X.heap[wr.heap.size]? = some (.cells #[.int .i64 av, .int .i64 bv] 80) ∧ X.cell? ⟨O, 0, none⟩ = some (onV B Y O)) (by kernel_rfl) (by rw [Hw0.out]; exact HB1.out.2) (fun hS0 => ?_)
        rw [Hw0.out] at hS0 ⊢
        refine wpAnyH_take (i := 0) (oi := _) (v := .agg cs) rfl (by kernel_rfl) (by kernel_rfl) (by kernel_rfl) (fun _ _ _ h => h) (yieldsIf_load_row (by rfl) _ _ rfl _ rfl _ cs (0, 0) _ (fun X hX => hX.1) Tryd.underlying74 rfl i74) (by assumption) ?_
        simp only [Act.put, List.getElem_toArray, List.getElem_cons_succ, List.getElem_cons_zero, List.setIfInBounds_toArray, List.set_cons_zero, List.set_cons_succ]
        refine wpAnyH_take (i := 1) (oi := _) (v := .agg #[.int .i64 av, .int .i64 bv]) rfl (by kernel_rfl) (by kernel_rfl) (by kernel_rfl) (fun _ _ _ h => h) (yieldsIf_load_row (by rfl) _ _ rfl _ rfl _ _ (0, 0) _ (fun X hX => hX.2.1) Tryd.underlying80 rfl info80) (by assumption) ?_
        simp only [Act.put, List.getElem_toArray, List.getElem_cons_succ, List.getElem_cons_zero, List.setIfInBounds_toArray, List.set_cons_zero, List.set_cons_succ]
        refine wpAnyH_ready (rs := [2]) (by kernel_rfl) (by simp) ?_
        refine AllReadyH.cons rfl (fun K hK => ?_) AllReadyH.nil
        go_simp
        refine (Ibx.out _).mono ?_
        rintro e w1 ⟨rfl, hx1⟩
        have hb1 := HB1.out.1.trans (hx1.mono HB1.out.1.size)
        have f1 := below_heap hx1 HB1.out.2.1
        have f2 := below_heap hx1 HB1.out.2.2.1
        have f3 := cell_kept_below hx1 HB1.out.2.2.2
        refine hK.out _ _ ⟨f1, f2, f3⟩ (fun _ => ?_)
        clear hK K
        have hS1 : w1.heap[B]? = some (.cells cs 74) ∧ w1.heap[wr.heap.size]? = some (.cells #[.int .i64 av, .int .i64 bv] 80) ∧ w1.cell? ⟨O, 0, none⟩ = some (onV B Y O) := ⟨f1, f2, f3⟩
        refine wpAnyH_take (i := 3) (oi := _) (v := .bool false) rfl (by kernel_rfl) (by kernel_rfl) (by kernel_rfl) (fun _ _ _ h => h) (Or.inl ⟨by rfl, fun X hX => ?_⟩) (by assumption) ?_
        · go_simp
        simp only [Act.put, List.getElem_toArray, List.getElem_cons_succ, List.getElem_cons_zero, List.setIfInBounds_toArray, List.set_cons_zero, List.set_cons_succ]
        refine wpAnyH_take (i := 4) (oi := _) (v := undef) rfl (by kernel_rfl) (by kernel_rfl) (by kernel_rfl) (fun _ _ _ h => h) (Or.inr ⟨by rfl, rfl⟩) (by assumption) ?_
        simp only [Act.put, List.getElem_toArray, List.getElem_cons_succ, List.getElem_cons_zero, List.setIfInBounds_toArray, List.set_cons_zero, List.set_cons_succ]
        refine wpAnyH_take (i := 5) (oi := _) (v := undef) rfl (by kernel_rfl) (by kernel_rfl) (by kernel_rfl) (fun _ _ _ h => h) (Or.inr ⟨by rfl, rfl⟩) (by assumption) ?_
        simp only [Act.put, List.getElem_toArray, List.getElem_cons_succ, List.getElem_cons_zero, List.setIfInBounds_toArray, List.set_cons_zero, List.set_cons_succ]
        refine wpAnyH_take (i := 6) (oi := _) (v := undef) rfl (by kernel_rfl) (by kernel_rfl) (by kernel_rfl) (fun _ _ _ h => h) (Or.inr ⟨by rfl, rfl⟩) (by assumption) ?_
        simp only [Act.put, List.getElem_toArray, List.getElem_cons_succ, List.getElem_cons_zero, List.setIfInBounds_toArray, List.set_cons_zero, List.set_cons_succ]
        refine wpAnyH_take (i := 7) (oi := _) (v := undef) rfl (by kernel_rfl) (by kernel_rfl) (by kernel_rfl) (fun _ _ _ h => h) (Or.inr ⟨by rfl, rfl⟩) (by assumption) ?_
        simp only [Act.put, List.getElem_toArray, List.getElem_cons_succ, List.getElem_cons_zero, List.setIfInBounds_toArray, List.set_cons_zero, List.set_cons_succ]
        refine wpAnyH_take (i := 8) (oi := _) (v := undef) rfl (by kernel_rfl) (by kernel_rfl) (by kernel_rfl) (fun _ _ _ h => h) (Or.inr ⟨by rfl, rfl⟩) (by assumption) ?_
        simp only [Act.put, List.getElem_toArray, List.getElem_cons_succ, List.getElem_cons_zero, List.setIfInBounds_toArray, List.set_cons_zero, List.set_cons_succ]
        refine wpAnyH_take (i := 9) (oi := _) (v := undef) rfl (by kernel_rfl) (by kernel_rfl) (by kernel_rfl) (fun _ _ _ h => h) (Or.inr ⟨by rfl, rfl⟩) (by assumption) ?_
        simp only [Act.put, List.getElem_toArray, List.getElem_cons_succ, List.getElem_cons_zero, List.setIfInBounds_toArray, List.set_cons_zero, List.set_cons_succ]
        refine wpAnyH_take (i := 10) (oi := _) (v := undef) rfl (by kernel_rfl) (by kernel_rfl) (by kernel_rfl) (fun _ _ _ h => h) (Or.inr ⟨by rfl, rfl⟩) (by assumption) ?_
        simp only [Act.put, List.getElem_toArray, List.getElem_cons_succ, List.getElem_cons_zero, List.setIfInBounds_toArray, List.set_cons_zero, List.set_cons_succ]
        refine wpAnyH_take (i := 11) (oi := _) (v := undef) rfl (by kernel_rfl) (by kernel_rfl) (by kernel_rfl) (fun _ _ _ h => h) (Or.inr ⟨by rfl, rfl⟩) (by assumption) ?_
        simp only [Act.put, List.getElem_toArray, List.getElem_cons_succ, List.getElem_cons_zero, List.setIfInBounds_toArray, List.set_cons_zero, List.set_cons_succ]
        refine wpAnyH_take (i := 12) (oi := _) (v := undef) rfl (by kernel_rfl) (by kernel_rfl) (by kernel_rfl) (fun _ _ _ h => h) (Or.inr ⟨by rfl, rfl⟩) (by assumption) ?_
        simp only [Act.put, List.getElem_toArray, List.getElem_cons_succ, List.getElem_cons_zero, List.setIfInBounds_toArray, List.set_cons_zero, List.set_cons_succ]
        refine wpAnyH_take (i := 13) (oi := _) (v := undef) rfl (by kernel_rfl) (by kernel_rfl) (by kernel_rfl) (fun _ _ _ h => h) (Or.inr ⟨by rfl, rfl⟩) (by assumption) ?_
        simp only [Act.put, List.getElem_toArray, List.getElem_cons_succ, List.getElem_cons_zero, List.setIfInBounds_toArray, List.set_cons_zero, List.set_cons_succ]
        refine wpAnyH_take (i := 14) (oi := _) (v := undef) rfl (by kernel_rfl) (by kernel_rfl) (by kernel_rfl) (fun _ _ _ h => h) (Or.inr ⟨by rfl, rfl⟩) (by assumption) ?_
        simp only [Act.put, List.getElem_toArray, List.getElem_cons_succ, List.getElem_cons_zero, List.setIfInBounds_toArray, List.set_cons_zero, List.set_cons_succ]
        refine wpAnyH_take (i := 15) (oi := _) (v := undef) rfl (by kernel_rfl) (by kernel_rfl) (by kernel_rfl) (fun _ _ _ h => h) (Or.inr ⟨by rfl, rfl⟩) (by assumption) ?_
        simp only [Act.put, List.getElem_toArray, List.getElem_cons_succ, List.getElem_cons_zero, List.setIfInBounds_toArray, List.set_cons_zero, List.set_cons_succ]
        refine wpAnyH_take (i := 16) (oi := _) (v := undef) rfl (by kernel_rfl) (by kernel_rfl) (by kernel_rfl) (fun _ _ _ h => h) (Or.inr ⟨by rfl, rfl⟩) (by assumption) ?_
        simp only [Act.put, List.getElem_toArray, List.getElem_cons_succ, List.getElem_cons_zero, List.setIfInBounds_toArray, List.set_cons_zero, List.set_cons_succ]
        refine wpAnyH_take (i := 17) (oi := _) (v := undef) rfl (by kernel_rfl) (by kernel_rfl) (by kernel_rfl) (fun _ _ _ h => h) (Or.inr ⟨by rfl, rfl⟩) (by assumption) ?_
        simp only [Act.put, List.getElem_toArray, List.getElem_cons_succ, List.getElem_cons_zero, List.setIfInBounds_toArray, List.set_cons_zero, List.set_cons_succ]
        refine wpAnyH_take (i := 18) (oi := _) (v := undef) rfl (by kernel_rfl) (by kernel_rfl) (by kernel_rfl) (fun _ _ _ h => h) (Or.inr ⟨by rfl, rfl⟩) (by assumption) ?_
        simp only [Act.put, List.getElem_toArray, List.getElem_cons_succ, List.getElem_cons_zero, List.setIfInBounds_toArray, List.set_cons_zero, List.set_cons_succ]
        refine wpAnyH_take (i := 19) (oi := _) (v := .bool false) rfl (by kernel_rfl) (by kernel_rfl) (by kernel_rfl) (fun _ _ _ h => h) (Or.inl ⟨by rfl, fun X hX => ?_⟩) (by assumption) ?_
        · go_simp
        simp only [Act.put, List.getElem_toArray, List.getElem_cons_succ, List.getElem_cons_zero, List.setIfInBounds_toArray, List.set_cons_zero, List.set_cons_succ]
        refine wpAnyH_done (by kernel_rfl) ?_ _
        have hw3 := HW3.out
        go_wp2
        clear hw3
        go_roundw
        case rel =>
          refine ⟨k + 1, by omega, by simp [HW3.out], Hkr.out.1.trans (KN.of_below hb1), ?_⟩
          rw [flatP_succ, if_neg hle2, List.append_nil]
          exact HJ.out _ _ _ Hkr.out.2.1 hb1
        case measure => simp [intOf, HW3.out]; omega
      | true =>
        have Ibx := Lib.hid (IbxA.out k hlt bv Hbv.out true hle.symm)
        have hle2 : a + k + 1 ≤ n := by simpa using hle
        clear hle
        have hw1 := HW1.out
        have hw2 := HW2.out
        go_wp2_with fail
        clear hw1 hw2
        refine wp_region_held_drew (S := fun X => X.heap[B]? = some (.cells cs 74) ∧ X.heap[wr.heap.size]? = some (.cells #[.int .i64 av, .int .i64 bv] 80) ∧ X.cell? ⟨O, 0, none⟩ = some (onV B Y O)) (by kernel_rfl) (by rw [Hw0.out]; exact HB1.out.2) (fun hS0 => ?_)
        rw [Hw0.out] at hS0 ⊢
        refine wpAnyH_take (i := 0) (oi := _) (v := .agg cs) rfl (by kernel_rfl) (by kernel_rfl) (by kernel_rfl) (fun _ _ _ h => h) (yieldsIf_load_row (by rfl) _ _ rfl _ rfl _ cs (0, 0) _ (fun X hX => hX.1) Tryd.underlying74 rfl i74) (by assumption) ?_
        simp only [Act.put, List.getElem_toArray, List.getElem_cons_succ, List.getElem_cons_zero, List.setIfInBounds_toArray, List.set_cons_zero, List.set_cons_succ]
        refine wpAnyH_take (i := 1) (oi := _) (v := .agg #[.int .i64 av, .int .i64 bv]) rfl (by kernel_rfl) (by kernel_rfl) (by kernel_rfl) (fun _ _ _ h => h) (yieldsIf_load_row (by rfl) _ _ rfl _ rfl _ _ (0, 0) _ (fun X hX => hX.2.1) Tryd.underlying80 rfl info80) (by assumption) ?_
        simp only [Act.put, List.getElem_toArray, List.getElem_cons_succ, List.getElem_cons_zero, List.setIfInBounds_toArray, List.set_cons_zero, List.set_cons_succ]
        refine wpAnyH_ready (rs := [2]) (by kernel_rfl) (by simp) ?_
        refine AllReadyH.cons rfl (fun K hK => ?_) AllReadyH.nil
        go_simp
        refine (Ibx.out _).mono ?_
        rintro e w1 ⟨rfl, hx1⟩
        have hb1 := HB1.out.1.trans (hx1.mono HB1.out.1.size)
        have f1 := below_heap hx1 HB1.out.2.1
        have f2 := below_heap hx1 HB1.out.2.2.1
        have f3 := cell_kept_below hx1 HB1.out.2.2.2
        refine hK.out _ _ ⟨f1, f2, f3⟩ (fun _ => ?_)
        clear hK K
        have hS1 : w1.heap[B]? = some (.cells cs 74) ∧ w1.heap[wr.heap.size]? = some (.cells #[.int .i64 av, .int .i64 bv] 80) ∧ w1.cell? ⟨O, 0, none⟩ = some (onV B Y O) := ⟨f1, f2, f3⟩
        refine wpAnyH_take (i := 3) (oi := _) (v := .bool true) rfl (by kernel_rfl) (by kernel_rfl) (by kernel_rfl) (fun _ _ _ h => h) (Or.inl ⟨by rfl, fun X hX => ?_⟩) (by assumption) ?_
        · go_simp
        simp only [Act.put, List.getElem_toArray, List.getElem_cons_succ, List.getElem_cons_zero, List.setIfInBounds_toArray, List.set_cons_zero, List.set_cons_succ]
        refine wpAnyH_take (i := 4) (oi := _) (v := onV B Y O) rfl (by kernel_rfl) (by kernel_rfl) (by kernel_rfl) (fun _ _ _ h => h) (Or.inl ⟨by rfl, fun X hX => ?_⟩) (by assumption) ?_
        · obtain ⟨x1, x2, x3⟩ := hX; unfold onV at x3 ⊢; go_simp
        simp only [Act.put, List.getElem_toArray, List.getElem_cons_succ, List.getElem_cons_zero, List.setIfInBounds_toArray, List.set_cons_zero, List.set_cons_succ]
        refine wpAnyH_take (i := 5) (oi := _) (v := .pointer (some ⟨wr.heap.size, 1, none⟩)) rfl (by kernel_rfl) (by kernel_rfl) (by kernel_rfl) (fun _ _ _ h => h) (Or.inl ⟨by rfl, fun X hX => ?_⟩) (by assumption) ?_
        · obtain ⟨x1, x2, x3⟩ := hX; go_simp
        simp only [Act.put, List.getElem_toArray, List.getElem_cons_succ, List.getElem_cons_zero, List.setIfInBounds_toArray, List.set_cons_zero, List.set_cons_succ]
        refine wpAnyH_take (i := 6) (oi := _) (v := .int .i64 bv) rfl (by kernel_rfl) (by kernel_rfl) (by kernel_rfl) (fun _ _ _ h => h) (Or.inl ⟨by rfl, fun X hX => ?_⟩) (by assumption) ?_
        · obtain ⟨x1, x2, x3⟩ := hX; have y1 := (cell_of_row _ _ 1 _ _ _ x2).trans rfl; go_simp
        simp only [Act.put, List.getElem_toArray, List.getElem_cons_succ, List.getElem_cons_zero, List.setIfInBounds_toArray, List.set_cons_zero, List.set_cons_succ]
        refine wpAnyH_take (i := 7) (oi := _) (v := .slice AP m c1) rfl (by kernel_rfl) (by kernel_rfl) (by kernel_rfl) (fun _ _ _ h => h) (Or.inl ⟨by rfl, fun X hX => ?_⟩) (by assumption) ?_
        · obtain ⟨x1, x2, x3⟩ := hX; go_simp
        simp only [Act.put, List.getElem_toArray, List.getElem_cons_succ, List.getElem_cons_zero, List.setIfInBounds_toArray, List.set_cons_zero, List.set_cons_succ]
        refine wpAnyH_take (i := 8) (oi := _) (v := .slice AP m c1) rfl (by kernel_rfl) (by kernel_rfl) (by kernel_rfl) (fun _ _ _ h => h) (Or.inl ⟨by rfl, fun X hX => ?_⟩) (by assumption) ?_
        · obtain ⟨x1, x2, x3⟩ := hX; go_simp
        simp only [Act.put, List.getElem_toArray, List.getElem_cons_succ, List.getElem_cons_zero, List.setIfInBounds_toArray, List.set_cons_zero, List.set_cons_succ]
        refine wpAnyH_take (i := 9) (oi := _) (v := .int .i64 m) rfl (by kernel_rfl) (by kernel_rfl) (by kernel_rfl) (fun _ _ _ h => h) (Or.inl ⟨by rfl, fun X hX => ?_⟩) (by assumption) ?_
        · obtain ⟨x1, x2, x3⟩ := hX; go_simp
        simp only [Act.put, List.getElem_toArray, List.getElem_cons_succ, List.getElem_cons_zero, List.setIfInBounds_toArray, List.set_cons_zero, List.set_cons_succ]
        refine wpAnyH_take (i := 10) (oi := _) (v := .slice AP m c1) rfl (by kernel_rfl) (by kernel_rfl) (by kernel_rfl) (fun _ _ _ h => h) (Or.inl ⟨by rfl, fun X hX => ?_⟩) (by assumption) ?_
        · obtain ⟨x1, x2, x3⟩ := hX; go_simp
        simp only [Act.put, List.getElem_toArray, List.getElem_cons_succ, List.getElem_cons_zero, List.setIfInBounds_toArray, List.set_cons_zero, List.set_cons_succ]
        refine wpAnyH_take (i := 11) (oi := _) (v := .int .i64 m) rfl (by kernel_rfl) (by kernel_rfl) (by kernel_rfl) (fun _ _ _ h => h) (Or.inl ⟨by rfl, fun X hX => ?_⟩) (by assumption) ?_
        · obtain ⟨x1, x2, x3⟩ := hX; go_simp
        simp only [Act.put, List.getElem_toArray, List.getElem_cons_succ, List.getElem_cons_zero, List.setIfInBounds_toArray, List.set_cons_zero, List.set_cons_succ]
        refine wpAnyH_take (i := 12) (oi := _) (v := .slice AP m m) rfl (by kernel_rfl) (by kernel_rfl) (by kernel_rfl) (fun _ _ _ h => h) (Or.inl ⟨by rfl, fun X hX => ?_⟩) (by assumption) ?_
        · go_simp
        simp only [Act.put, List.getElem_toArray, List.getElem_cons_succ, List.getElem_cons_zero, List.setIfInBounds_toArray, List.set_cons_zero, List.set_cons_succ]
        refine wpAnyH_take (i := 13) (oi := _) (v := .pointer (some ⟨wr.heap.size, 1, none⟩)) rfl (by kernel_rfl) (by kernel_rfl) (by kernel_rfl) (fun _ _ _ h => h) (Or.inl ⟨by rfl, fun X hX => ?_⟩) (by assumption) ?_
        · obtain ⟨x1, x2, x3⟩ := hX; go_simp
        simp only [Act.put, List.getElem_toArray, List.getElem_cons_succ, List.getElem_cons_zero, List.setIfInBounds_toArray, List.set_cons_zero, List.set_cons_succ]
        refine wpAnyH_take (i := 14) (oi := _) (v := .int .i64 bv) rfl (by kernel_rfl) (by kernel_rfl) (by kernel_rfl) (fun _ _ _ h => h) (Or.inl ⟨by rfl, fun X hX => ?_⟩) (by assumption) ?_
        · obtain ⟨x1, x2, x3⟩ := hX; have y1 := (cell_of_row _ _ 1 _ _ _ x2).trans rfl; go_simp
        simp only [Act.put, List.getElem_toArray, List.getElem_cons_succ, List.getElem_cons_zero, List.setIfInBounds_toArray, List.set_cons_zero, List.set_cons_succ]
        refine wpAnyH_ready (rs := [15]) (by kernel_rfl) (by simp) ?_
        refine AllReadyH.cons rfl (fun K hK => ?_) AllReadyH.nil
        go_simp
        obtain ⟨w2, hw2⟩ : ∃ X, X = w1.alloc (.cells #[.int .i64 bv] 3) := ⟨_, rfl⟩
        have hx2 : Below w1.heap.size w1 w2 := by rw [hw2]; exact (Below.refl _ _).alloc (Nat.le_refl _) _
        have q2 : ∀ j u, ([.int .i64 bv] : List Value)[j]? = some u → w2.cell? ((⟨w1.heap.size, 0, none⟩ : Addr).add j) = some u := by rw [hw2]; exact cell_one_new _ _ _
        have hb2 := hb1.trans (hx2.mono hb1.size)
        have f21 := below_heap hx2 f1
        have f22 := below_heap hx2 f2
        have f23 := cell_kept_below hx2 f3
        rw [← hw2]
        clear hw2
        refine hK.out _ _ ⟨f21, f22, f23⟩ (fun _ => ?_)
        clear hK K
        refine wpAnyH_ready (rs := [16]) (by kernel_rfl) (by simp) ?_
        refine AllReadyH.cons rfl (fun K hK => ?_) AllReadyH.nil
        rw [if_pos (by rfl)]
        have hEl2 : ElI (· < N) w2 plan (.slice AP m c1) := by
          have h0 : ElI (· < N) W plan (.slice AP m c1) := ⟨AP, c1, by rw [F0.out.2.2.1], F0.out.2.1, by rw [F0.out.2.2.1]; exact hmc, F0.out.2.2.2.2.2.1, F0.out.2.2.2.2.2.2⟩
          exact (h0.kn HS.out.2.2.2 Hkr.out.1).kn HS.out.2.2.2 (KN.of_below hb2)
        have hRd2 : RdI w2 AP plan := by
          obtain ⟨A', c', e1, h1, _⟩ := hEl2
          cases e1
          exact h1
        obtain ⟨i0, hi, hz0, hz1, hz2⟩ := info_parts info3
        refine wp_append_grows (.tmp 43) (.tmp 46) 38 rfl 3 i0 (.int .i64 0) 1 8 Tryd.underlying38 hi hz0 hz1 hz2 rfl (by decide) AP m m (ints plan) rfl (fun h0 => by have := F0.out.2.2.2.2.2.1 h0; omega) (by simp [ints, F0.out.2.2.1]) (fun ad hA => rdI_ints hRd2 ad hA) ⟨w1.heap.size, 0, none⟩ 1 1 [.int .i64 bv] rfl rfl q2 (fun x hx => by simp at hx; subst hx; rfl) (by omega) (by unfold maxLen; omega) (by omega) ?_
        intro v' w3 hown hgrow
        clear hi hz0 hz1 hz2
        have hx3 : Below w2.heap.size w2 w3 := (Below.refl _ _).grown hgrow (Nat.le_refl _) (fun _ h => (by cases h))
        have hb3 := hb2.trans (hx3.mono hb2.size)
        have f31 := below_heap hx3 f21
        have f32 := below_heap hx3 f22
        have f33 := cell_kept_below hx3 f23
        have hEl3 : ElI (· < N) w3 (plan ++ [bv]) v' := by
          have h1 : w3.ownsRow w2.heap.size 3 1 v' (plan ++ [bv]).length (ints (plan ++ [bv])) := by
            simpa [ints, F0.out.2.2.1] using hown
          exact elI_own (Nat.le_trans hNr hb2.size) h1 (by simp)
        have hOn3 : OnW w3 cs B Y O lp := Hkr.out.2.2.kn (KN.of_below hb3) HS.out.1 HS.out.2.1 HS.out.2.2.1
        have hJ3 := HJ.out _ _ _ Hkr.out.2.1 hb3
        have rk := Rec.out k hlt hle2 v' w3 hOn3 (Nat.le_trans hNr hb3.size) (by rw [← Hbvn.out]; exact hEl3) hJ3
        rw [← Hbvn.out] at rk
        have Rk := Lib.hid rk
        have Hv := Lib.hid hown
        clear rk hown hEl3 hOn3 hJ3 hEl2 hRd2 q2 hgrow
        refine hK.out _ _ ⟨f31, f32, f33⟩ (fun _ => ?_)
        clear hK K
        refine wpAnyH_ready (rs := [17]) (by kernel_rfl) (by simp) ?_
        refine AllReadyH.cons rfl (fun K hK => ?_) AllReadyH.nil
        go_simp
        simp only [onV]
        go_simp
        refine Rk.out.mono ?_
        rintro e w4 ⟨rfl, hJ4, hk4⟩
        have f41 := hk4.block f31 rfl HS.out.1
        have f42 := hk4.block f32 rfl (fun hs => by have := HS.out.2.2.2 _ hs; omega)
        have f43 := hk4.cell f33 HS.out.2.2.1
        have HJ4 := Lib.hid (And.intro hJ4 hk4)
        clear hJ4 hk4
        refine hK.out _ _ ⟨f41, f42, f43⟩ (fun _ => ?_)
        clear hK K
        have hS4 : w4.heap[B]? = some (.cells cs 74) ∧ w4.heap[wr.heap.size]? = some (.cells #[.int .i64 av, .int .i64 bv] 80) ∧ w4.cell? ⟨O, 0, none⟩ = some (onV B Y O) := ⟨f41, f42, f43⟩
        refine wpAnyH_take (i := 18) (oi := _) (v := .bool false) rfl (by kernel_rfl) (by kernel_rfl) (by kernel_rfl) (fun _ _ _ h => h) (Or.inl ⟨by rfl, fun X hX => ?_⟩) (by assumption) ?_
        · go_simp
        simp only [Act.put, List.getElem_toArray, List.getElem_cons_succ, List.getElem_cons_zero, List.setIfInBounds_toArray, List.set_cons_zero, List.set_cons_succ]
        refine wpAnyH_take (i := 19) (oi := _) (v := .bool false) rfl (by kernel_rfl) (by kernel_rfl) (by kernel_rfl) (fun _ _ _ h => h) (Or.inl ⟨by rfl, fun X hX => ?_⟩) (by assumption) ?_
        · go_simp
        simp only [Act.put, List.getElem_toArray, List.getElem_cons_succ, List.getElem_cons_zero, List.setIfInBounds_toArray, List.set_cons_zero, List.set_cons_succ]
        refine wpAnyH_done (by kernel_rfl) ?_ _
        have hw3 := HW3.out
        go_wp2
        clear hw3
        go_roundw
        case rel =>
          refine ⟨k + 1, by omega, by simp [HW3.out], (Hkr.out.1.trans (KN.of_below hb3)).trans HJ4.out.2, ?_⟩
          rw [flatP_succ, if_pos hle2, ← Hbvn.out, ← List.append_assoc]
          exact HJ4.out.1
        case measure => simp [intOf, HW3.out]; omega
    · have hkk : k = gr.toNat := by omega
      subst hkk
      have Hkr := Lib.hid (And.intro hJr hkr)
      clear hJr hkr
      go_wp2
      go_ret
      exact ⟨rfl, Hkr.out.1, Hkr.out.2⟩
end Go.Proofs.YtbbdbdamedaldaaDoor.Fl
end
section
namespace Go.Proofs.YtbbdbdamedaldaaDoor.Fl
open Go Go.RowKit Go.Proofs.EqArr Go.Proofs.RngLaw Go.Proofs.CopyN
theorem plansF_leaf (n gr d : Nat) (plan : List Int) : plansF n gr d n plan = [plan] := by cases d <;> simp [plansF]
theorem plansF_step (n gr d a : Nat) (plan : List Int) (h : ¬ a = n) : plansF n gr (d + 1) a plan = flatP n gr d a plan gr := by
  show (if a = n then [plan] else _) = _
  rw [if_neg h]
  rfl
theorem on_calls (cs : Array Value) (pr le mo gr : Int) (A : Option Addr) (n c : Nat) (l h : Nat → Int) (r : Nat) (hB : BookC cs pr le mo gr A n c l h r) (hn : n ≤ 8) (g1 : 1 ≤ gr) (g4 : gr ≤ 4)
    (S : Nat → Prop) (N : Nat) (hSN : ∀ k, S k → k < N) (B Y O lp : Nat) (hSB : ¬ S B) (hSY : ¬ S Y) (hSO : ¬ S O)
    (J : List (List Int) → World → Prop) (hJ : ∀ pre A B, J pre A → Below A.heap.size A B → J pre B) (xs : List (List Int))
    (hY : ∀ pre x v W1, J pre W1 → ElI (· < N) W1 x v → (pre ++ [x]) <+: xs → GoesOn Fence.wide 2 Tryd.prog lp v W1 fun W' => J (pre ++ [x]) W' ∧ KN S W1 W') :
    ∀ (d a : Nat) (plan : List Int) (v : Value) (pre : List (List Int)) (W : World), n ≤ a + d → a ≤ n → plan.length ≤ a → OnW W cs B Y O lp → N ≤ W.heap.size → ElI (· < N) W plan v → J pre W →
      (pre ++ plansF n gr.toNat d a plan) <+: xs →
      Calls Tryd.prog 113 #[.int .i64 a, v, .pointer (some ⟨B, 0, none⟩), .pointer (some ⟨Y, 0, none⟩), .pointer (some ⟨O, 0, none⟩)] W (OnPost S J (pre ++ plansF n gr.toNat d a plan) W) := by
  intro d
  induction d with
  | zero =>
    intro a plan v pre W hd ha hpl hW hN hEl hJ0 hx
    have e : a = n := by omega
    subst e
    rw [plansF_leaf] at hx ⊢
    exact on_leaf cs pr le mo gr A a c l h r hB S B Y O lp J plan v pre W hW (hY pre plan v W hJ0 hEl hx)
  | succ d ih =>
    intro a plan v pre W hd ha hpl hW hN hEl hJ0 hx
    by_cases e : a = n
    · subst e
      rw [plansF_leaf] at hx ⊢
      exact on_leaf cs pr le mo gr A a c l h r hB S B Y O lp J plan v pre W hW (hY pre plan v W hJ0 hEl hx)
    · rw [plansF_step _ _ _ _ _ e] at hx ⊢
      obtain ⟨AP, c1, rfl, hp, hc1, hc0, hAS⟩ := hEl
      refine on_loop cs pr le mo gr A n c l h r hB hn g1 g4 S N hSN B Y O lp hSB hSY hSO J hJ d a (by omega) plan AP c1 pre W hW hN hpl hp hc1 hc0 hAS hJ0 ?_
      intro k hk hle v X hX hNX hElX hJX
      refine ih (a + k + 1) _ v _ X (by omega) hle (by simp; omega) hX hNX hElX hJX ?_
      have h1 := flatP_prefix n gr.toNat d a plan (k + 1) (gr.toNat - (k + 1))
      rw [show k + 1 + (gr.toNat - (k + 1)) = gr.toNat by omega, flatP_succ, if_pos hle] at h1
      rw [List.append_assoc]
      exact ((List.prefix_append_right_inj pre).2 h1).trans hx
def plansL (n gr : Nat) : List (List Int) := plansF n gr n 0 []
set_option maxRecDepth 100000 in
set_option maxHeartbeats 2000000 in
theorem iter_calls (cs : Array Value) (pr le mo gr : Int) (A : Option Addr) (n c : Nat) (l h : Nat → Int) (r : Nat) (hB : BookC cs pr le mo gr A n c l h r) (hn : n ≤ 8) (g1 : 1 ≤ gr) (g4 : gr ≤ 4)
    (S : Nat → Prop) (N : Nat) (hSN : ∀ k, S k → k < N) (B lp : Nat) (hSB : ¬ S B)
    (J : List (List Int) → World → Prop) (hJ : ∀ pre A B, J pre A → Below A.heap.size A B → J pre B)
    (hY : ∀ pre x v W1, J pre W1 → ElI (· < N) W1 x v → (pre ++ [x]) <+: plansL n gr.toNat → GoesOn Fence.wide 2 Tryd.prog lp v W1 fun W' => J (pre ++ [x]) W' ∧ KN S W1 W')
    (W : World) (hN : N ≤ W.heap.size) (hbk : W.heap[B]? = some (.cells cs 74)) (hJ0 : J [] W) :
    Calls Tryd.prog 112 #[.func (.yield lp) #[] #[], .pointer (some ⟨B, 0, none⟩)] W fun e W' => (∃ v, e = .returned v) ∧ J (plansL n gr.toNat) W' := by
  obtain ⟨X, hX⟩ : ∃ X, ((W.alloc (.cells #[.func (.yield lp) #[] #[]] 134)).alloc (.cells #[.nilFunc] 135)) = X := ⟨_, rfl⟩
  have hb1 : Below W.heap.size W X := by rw [← hX]; exact ((Below.refl _ _).alloc (Nat.le_refl _) _).alloc (by simp) _
  have h1 : X.heap[W.heap.size]? = some (.cells #[.func (.yield lp) #[] #[]] 134) := by rw [← hX]; exact heap_alloc2_old _ _ _
  have h2 : X.heap[W.heap.size + 1]? = some (.cells #[.nilFunc] 135) := by rw [← hX]; exact heap_alloc2_new _ _ _
  have q2 : X.cell? ⟨W.heap.size + 1, 0, none⟩ = some .nilFunc := (cell_of_row _ _ 0 _ _ _ h2).trans rfl
  have q3 : X.frozen? ⟨W.heap.size + 1, 0, none⟩ = false := by simp [World.frozen?, h2]
  obtain ⟨CL, hCL⟩ : ∃ v : Value, v = (.func (.func 113) #[] #[.pointer (some ⟨B, 0, none⟩), .pointer (some ⟨W.heap.size, 0, none⟩), .pointer (some ⟨W.heap.size + 1, 0, none⟩)]) := ⟨_, rfl⟩
  have hb0 : Below W.heap.size W (X.setCell ⟨W.heap.size + 1, 0, none⟩ CL) := hb1.setCell (p := ⟨W.heap.size + 1, 0, none⟩) (by simp) _
  have hOn : OnW (X.setCell ⟨W.heap.size + 1, 0, none⟩ CL) cs B W.heap.size (W.heap.size + 1) lp :=
    ⟨below_heap hb0 hbk, ((World.cell?_setCell_far _ _ _ _ (by simp)).trans (cell_of_row _ _ 0 _ _ _ h1)).trans rfl, by rw [hCL]; exact World.cell?_setCell_same' _ _ _ (by rw [q2]; rfl)⟩
  have on := on_calls cs pr le mo gr A n c l h r hB hn g1 g4 S N hSN B W.heap.size (W.heap.size + 1) lp hSB (fun hs => by have := hSN _ hs; omega) (fun hs => by have := hSN _ hs; omega) J hJ (plansL n gr.toNat) hY
    n 0 [] (.slice none 0 0) [] _ (by omega) (by omega) (by simp) hOn (Nat.le_trans hN hb0.size) ⟨none, 0, rfl, RdI.nil _, Nat.le_refl _, fun _ => rfl, fun _ h => (by cases h)⟩ (hJ _ _ _ hJ0 hb0) (List.prefix_refl _)
  rw [List.nil_append] at on
  have On := Lib.hid on
  clear on hOn h1 h2 hb0 hb1 hY hJ hB hJ0 hbk hSB hSN
  rw [hCL] at On
  clear hCL
  go_enter Tryd.func112, Tryd.ntmps112
  go_wp2_with (first
    | (refine On.out.mono ?_; rintro e W2 ⟨rfl, hJ2, hk2⟩))
  go_end0
  exact ⟨⟨_, rfl⟩, hJ2⟩
set_option maxRecDepth 100000 in
theorem plans_calls (cs : Array Value) (w : World) :
    Calls Tryd.prog 97 #[.agg cs] w fun e w' => e = .returned (.func (.func 112) #[] #[.pointer (some ⟨w.heap.size, 0, none⟩)]) ∧ w' = w.alloc (.cells cs 74) := by
  go_enter Tryd.func97, Tryd.ntmps97
  go_wp2
  go_ret
  exact ⟨rfl, rfl⟩
end Go.Proofs.YtbbdbdamedaldaaDoor.Fl
end
section
namespace Go.Proofs.YtbbdbdamedaldaaDoor.Fl
open Go Go.RowKit Go.Proofs.EqArr Go.Proofs.RngLaw Go.Proofs.CopyN
def btFew (b1 h1 b2 h2 : Int) : Bool := decide (h1 < h2) || (decide (h1 = h2) && decide (b2 < b1))
def btSure (b1 h1 b2 h2 : Int) : Bool := decide (b2 - h2 < b1 - h1)
set_option maxRecDepth 100000 in
theorem fewest1_calls (A1 : Option Addr) (m1 c1 : Nat) (b1 h1 : Int) (A2 : Option Addr) (m2 c2 : Nat) (b2 h2 : Int) (w : World) :
    Calls Tryd.prog 98 #[.agg #[.slice A1 m1 c1, .int .i64 b1, .int .i64 h1], .agg #[.slice A2 m2 c2, .int .i64 b2, .int .i64 h2]] w fun e w' => e = .returned (.bool (btFew b1 h1 b2 h2)) ∧ Below w.heap.size w w' := by
  have hu := Tryd.underlying100
  have hb : Below w.heap.size w ((w.alloc (.cells #[.slice A1 m1 c1, .int .i64 b1, .int .i64 h1] 100)).alloc (.cells #[.slice A2 m2 c2, .int .i64 b2, .int .i64 h2] 100)) := ((Below.refl _ _).alloc (Nat.le_refl _) _).alloc (by simp) _
  have g1 := heap_alloc2_old w (.cells #[.slice A1 m1 c1, .int .i64 b1, .int .i64 h1] 100) (.cells #[.slice A2 m2 c2, .int .i64 b2, .int .i64 h2] 100)
  have g2 := heap_alloc2_new w (.cells #[.slice A1 m1 c1, .int .i64 b1, .int .i64 h1] 100) (.cells #[.slice A2 m2 c2, .int .i64 b2, .int .i64 h2] 100)
  have p1 := (cell_of_row _ _ 1 _ _ _ g1).trans rfl
  have p2 := (cell_of_row _ _ 2 _ _ _ g1).trans rfl
  have q1 := (cell_of_row _ _ 1 _ _ _ g2).trans rfl
  have q2 := (cell_of_row _ _ 2 _ _ _ g2).trans rfl
  have Hb := Lib.hid hb
  clear hb g1 g2
  by_cases e1 : h1 < h2
  · have hv : btFew b1 h1 b2 h2 = true := by unfold btFew; rw [decide_eq_true e1]; rfl
    have Hv := Lib.hid hv
    clear hv
    go_enter Tryd.func98, Tryd.ntmps98
    go_wp2
    all_goals (try (exfalso; omega))
    all_goals go_ret
    all_goals exact ⟨by rw [Hv.out]; rfl, Hb.out⟩
  · by_cases e2 : h1 = h2
    · subst e2
      by_cases e3 : b2 < b1
      · have hv : btFew b1 h1 b2 h1 = true := by unfold btFew; rw [decide_eq_true e3]; simp
        have Hv := Lib.hid hv
        clear hv
        go_enter Tryd.func98, Tryd.ntmps98
        go_wp2
        all_goals (try (exfalso; omega))
        all_goals go_ret
        all_goals exact ⟨by rw [Hv.out]; rfl, Hb.out⟩
      · have hv : btFew b1 h1 b2 h1 = false := by unfold btFew; rw [decide_eq_false e1, decide_eq_false e3]; simp
        have Hv := Lib.hid hv
        clear hv
        go_enter Tryd.func98, Tryd.ntmps98
        go_wp2
        all_goals (try (exfalso; omega))
        all_goals go_ret
        all_goals exact ⟨by rw [Hv.out]; rfl, Hb.out⟩
    · have hv : btFew b1 h1 b2 h2 = false := by unfold btFew; rw [decide_eq_false e1, decide_eq_false e2]; simp
      have Hv := Lib.hid hv
      clear hv
      go_enter Tryd.func98, Tryd.ntmps98
      go_wp2
      all_goals (try (exfalso; omega))
      all_goals go_ret
      all_goals exact ⟨by rw [Hv.out]; rfl, Hb.out⟩
set_option maxRecDepth 100000 in
theorem surest1_calls (A1 : Option Addr) (m1 c1 : Nat) (b1 h1 : Int) (A2 : Option Addr) (m2 c2 : Nat) (b2 h2 : Int) (hb1 : 0 ≤ b1 ∧ b1 ≤ 8) (hh1 : 0 ≤ h1 ∧ h1 ≤ 8) (hb2 : 0 ≤ b2 ∧ b2 ≤ 8) (hh2 : 0 ≤ h2 ∧ h2 ≤ 8) (w : World) :
    Calls Tryd.prog 99 #[.agg #[.slice A1 m1 c1, .int .i64 b1, .int .i64 h1], .agg #[.slice A2 m2 c2, .int .i64 b2, .int .i64 h2]] w fun e w' => e = .returned (.bool (btSure b1 h1 b2 h2)) ∧ Below w.heap.size w w' := by
  have hu := Tryd.underlying100
  have hb : Below w.heap.size w ((w.alloc (.cells #[.slice A1 m1 c1, .int .i64 b1, .int .i64 h1] 100)).alloc (.cells #[.slice A2 m2 c2, .int .i64 b2, .int .i64 h2] 100)) := ((Below.refl _ _).alloc (Nat.le_refl _) _).alloc (by simp) _
  have g1 := heap_alloc2_old w (.cells #[.slice A1 m1 c1, .int .i64 b1, .int .i64 h1] 100) (.cells #[.slice A2 m2 c2, .int .i64 b2, .int .i64 h2] 100)
  have g2 := heap_alloc2_new w (.cells #[.slice A1 m1 c1, .int .i64 b1, .int .i64 h1] 100) (.cells #[.slice A2 m2 c2, .int .i64 b2, .int .i64 h2] 100)
  have p1 := (cell_of_row _ _ 1 _ _ _ g1).trans rfl
  have p2 := (cell_of_row _ _ 2 _ _ _ g1).trans rfl
  have q1 := (cell_of_row _ _ 1 _ _ _ g2).trans rfl
  have q2 := (cell_of_row _ _ 2 _ _ _ g2).trans rfl
  have Hb := Lib.hid hb
  have hw1 : wrap64 (b1 - h1) = b1 - h1 := IntWalk.wrap64_in _ (by omega)
  have hw2 : wrap64 (b2 - h2) = b2 - h2 := IntWalk.wrap64_in _ (by omega)
  clear hb g1 g2 hb1 hh1 hb2 hh2
  go_enter Tryd.func99, Tryd.ntmps99
  go_wp2
  go_ret
  refine ⟨?_, Hb.out⟩
  simp [btSure]
theorem plansF_planP (n : Nat) (gr : Int) (hg : 1 ≤ gr) : ∀ (d a : Nat) (plan : List Int), n ≤ a + d → a ≤ n → okTo n gr plan plan.length → prev plan plan.length = (a : Int) → ∀ p ∈ plansF n gr.toNat d a plan, planP n gr p := by
  intro d
  induction d with
  | zero =>
    intro a plan hd ha hok hpr p hp
    have e : a = n := by omega
    subst e
    rw [plansF_leaf] at hp
    cases List.mem_singleton.1 hp
    exact ⟨hok, hpr⟩
  | succ d ih =>
    intro a plan hd ha hok hpr p hp
    by_cases e : a = n
    · subst e
      rw [plansF_leaf] at hp
      cases List.mem_singleton.1 hp
      exact ⟨hok, hpr⟩
    · rw [plansF_step _ _ _ _ _ e] at hp
      unfold flatP at hp
      obtain ⟨k, hk, hp⟩ := List.mem_flatMap.1 hp
      have hk2 : k < gr.toNat := List.mem_range.1 hk
      split at hp
      · rename_i hle
        refine ih (a + k + 1) _ (by omega) hle ?_ ?_ p hp
        · intro i hi
          rw [List.length_append, List.length_singleton] at hi
          by_cases hi2 : i < plan.length
          · have h1 := hok i hi2
            have e1 : prev (plan ++ [((a + k + 1 : Nat) : Int)]) i = prev plan i := by
              unfold prev
              split
              · rfl
              · rw [List.getD_eq_getElem?_getD, List.getD_eq_getElem?_getD, List.getElem?_append_left (by omega)]
            have e2 : (plan ++ [((a + k + 1 : Nat) : Int)]).getD i 0 = plan.getD i 0 := by rw [List.getD_eq_getElem?_getD, List.getD_eq_getElem?_getD, List.getElem?_append_left hi2]
            rw [e1, e2]
            exact h1
          · have hi3 : i = plan.length := by omega
            subst hi3
            have e1 : prev (plan ++ [((a + k + 1 : Nat) : Int)]) plan.length = (a : Int) := by
              rw [← hpr]
              unfold prev
              split
              · rfl
              · rw [List.getD_eq_getElem?_getD, List.getD_eq_getElem?_getD, List.getElem?_append_left (by omega)]
            have e2 : (plan ++ [((a + k + 1 : Nat) : Int)]).getD plan.length 0 = ((a + k + 1 : Nat) : Int) := by simp [List.getD_eq_getElem?_getD]
            rw [e1, e2, boxB_iff]
            omega
        · rw [List.length_append, List.length_singleton, prev_succ]
          simp [List.getD_eq_getElem?_getD]
      · simp at hp
theorem plansL_planP {n : Nat} {gr : Int} (hg : 1 ≤ gr) : ∀ p ∈ plansL n gr.toNat, planP n gr p :=
  plansF_planP n gr hg n 0 [] (by omega) (by omega) (fun i hi => by simp at hi) rfl
end Go.Proofs.YtbbdbdamedaldaaDoor.Fl
end
section
namespace Go.Proofs.YtbbdbdamedaldaaDoor.Fl
open Go Go.RowKit Go.Proofs.EqArr Go.Proofs.RngLaw Go.Proofs.CopyN
theorem wpListIn_load_row {F : Fence} {nn : Nat} {P : Program} {ops : Array Oper} {rest : List Oper} {o : Oper} {a : Act} {w : World} {Q : Exit → Act → World → Prop} (hgd : o.guard = none) (ty : TypeId) (x : Operand) (ho : o.op = .load ty x)
    (g : Nat) (hx : a.eval x = .pointer (some ⟨g, 0, none⟩)) (t : TypeId) (cs : Array Value) (fr : Nat × Nat) (d : TypeDesc) (hg : w.heap[g]? = some (.cells cs t fr))
    (hu : P.underlying ty = some d) (hd : (match d with | .struct _ | .array _ _ => true | _ => false) = true) (hi : (P.info? ty).map (·.size) = some cs.size)
    (h : wpListIn F nn P ops Q rest (a.put o.dst (.agg cs)) w) : wpListIn F nn P ops Q (o :: rest) a w := by
  refine wpListIn_plain hgd fun K' hK' => ?_
  unfold Oper.wpIn
  refine ⟨?_, ?_⟩
  · simp [Oper.about, ho]
  · rw [Oper.semAt_eq _ _ _ (by rw [ho]; intro c hc'; cases hc')]
    have hrun : (execOp a.eval o).run P w = .ok (.value (.agg cs)) w := by
      unfold execOp
      simp only [ho, hx, Instr.loadAt, Instr.sureAddr, Sem.run_bind, Sem.run_pure, Result.andThen_ok, run_loadVar_row w g t ty cs fr d hg hu hd hi]
    rw [hrun]
    exact hK' _ _ h
theorem wpListIn_store_row {F : Fence} {nn : Nat} {P : Program} {ops : Array Oper} {rest : List Oper} {o : Oper} {a : Act} {w : World} {Q : Exit → Act → World → Prop} (hgd : o.guard = none) (ty : TypeId) (x y : Operand) (ho : o.op = .store ty x y)
    (g : Nat) (cells : Array Value) (hx : a.eval x = .pointer (some ⟨g, 0, none⟩)) (hy : a.eval y = .agg cells)
    (t : TypeId) (old : Array Value) (hg : w.heap[g]? = some (.cells old t (0, 0))) (hi : (P.info? ty).map (·.size) = some cells.size)
    (hold : old.size = cells.size) (h1 : cells.all (·.oneCell') = true)
    (h : wpListIn F nn P ops Q rest (a.put o.dst undef) (w.setRow g cells)) : wpListIn F nn P ops Q (o :: rest) a w := by
  refine wpListIn_plain hgd fun K' hK' => ?_
  unfold Oper.wpIn
  refine ⟨?_, ?_⟩
  · simp [Oper.about, ho]
  · rw [Oper.semAt_eq _ _ _ (by rw [ho]; intro c hc'; cases hc')]
    have hrun : (execOp a.eval o).run P w = .ok .skip (w.setRow g cells) := by
      unfold execOp
      simp only [ho, hx, hy, Instr.storeAt, Instr.sureAddr, Sem.run_bind, Sem.run_pure, Result.andThen_ok, run_storeVar_row w g t ty old cells hg hi hold h1]
    rw [hrun]
    exact hK' _ _ h
theorem Laid.keeps {w W : World} {r : Nat} {S : Int → Int → Int × Int} (h : Laid w) (hM : Memo w r S) (hk : KeepsBut (· = r) w W) : Laid W := by
  have hr : ¬ (0 = r) := by
    rintro rfl
    obtain ⟨m, k, hm, _⟩ := hM
    have := h.1
    simp [World.cell?, hm] at this
  exact ⟨hk.cell h.1 hr, hk.cell h.2 hr⟩
def bestTo (bt : Int → Int → Int → Int → Bool) (hn : List Int → Int) (ps : List (List Int)) : Option (List Int) :=
  ps.foldl (fun o p => match o with | none => some p | some q => if bt p.length (hn p) q.length (hn q) = true then some p else some q) none
theorem bestTo_snoc (bt : Int → Int → Int → Int → Bool) (hn : List Int → Int) (ps : List (List Int)) (p : List Int) :
    bestTo bt hn (ps ++ [p]) = match bestTo bt hn ps with | none => some p | some q => if bt p.length (hn p) q.length (hn q) = true then some p else some q := by
  unfold bestTo
  rw [List.foldl_append]
  rfl
theorem bestTo_some (bt : Int → Int → Int → Int → Bool) (hn : List Int → Int) : ∀ (ps : List (List Int)) (p : List Int), ∃ q, bestTo bt hn (ps ++ [p]) = some q := by
  intro ps p
  rw [bestTo_snoc]
  cases bestTo bt hn ps with
  | none => exact ⟨p, rfl⟩
  | some q =>
    simp only
    split
    · exact ⟨p, rfl⟩
    · exact ⟨q, rfl⟩
def OutIs (bt : Int → Int → Int → Int → Bool) (hn : List Int → Int) (N : Nat) (pre : List (List Int)) (W : World) (A : Option Addr) (m c : Nat) (b h : Int) : Prop :=
  match bestTo bt hn pre with
  | none => A = none ∧ m = 0 ∧ c = 0 ∧ b = 0 ∧ h = 0
  | some p => ElI (· < N) W p (.slice A m c) ∧ b = p.length ∧ h = hn p ∧ p ∈ pre
structure BestI (bt : Int → Int → Int → Int → Bool) (hn : List Int → Int) (l h : Nat → Int) (cs : Array Value) (g r : Nat) (w : World) (N : Nat) (pre : List (List Int)) (W : World) : Prop where
  keeps : KeepsBut (· = r) w W
  size : w.heap.size + 5 < W.heap.size
  book : W.heap[w.heap.size]? = some (.cells cs 74)
  ord : W.heap[w.heap.size + 1]? = some (.cells #[.func (.func g) #[] #[]] 104)
  res : W.heap[w.heap.size + 2]? = some (.cells #[.slice none 0 0, .int .i64 0, .int .i64 0] 100)
  out : ∃ A m c b h', W.heap[w.heap.size + 3]? = some (.cells #[.slice A m c, .int .i64 b, .int .i64 h'] 100) ∧ OutIs bt hn N pre W A m c b h'
  first : W.heap[w.heap.size + 4]? = some (.cells #[.bool pre.isEmpty] 4)
  memo : Memo W r (sums l h)
theorem OutIs.kn {bt : Int → Int → Int → Int → Bool} {hn : List Int → Int} {N : Nat} {pre : List (List Int)} {W W' : World} {A : Option Addr} {m c : Nat} {b h : Int} {S : Nat → Prop} (hS : ∀ k, S k → k < N) (hk : KN S W W') (ho : OutIs bt hn N pre W A m c b h) : OutIs bt hn N pre W' A m c b h := by
  unfold OutIs at ho ⊢
  cases hb : bestTo bt hn pre with
  | none => rw [hb] at ho; exact ho
  | some p => rw [hb] at ho; exact ⟨ho.1.kn hS hk, ho.2⟩
theorem run_zero100 (w : World) : (zeroValue 100).run Tryd.prog w = .ok (.agg #[.slice none 0 0, .int .i64 0, .int .i64 0]) w := by
  have h : (Tryd.prog.info? 100).map (·.zero) = some (some (.agg #[.slice none 0 0, .int .i64 0, .int .i64 0])) := by kernel_rfl
  cases hq : Tryd.prog.info? 100 with
  | none => simp [hq] at h
  | some i => simp [hq] at h; simp [zeroValue, typeInfo, hq, h]
def handN (pr le mo : Int) (l h : Nat → Int) (p : List Int) : Int := (handsTo (rightB pr le mo l h) (boxesOf p) p.length).length
def BestPost (bt : Int → Int → Int → Int → Bool) (hn : List Int → Int) (l h : Nat → Int) (r : Nat) (ps : List (List Int)) (w : World) (e : Ending) (w' : World) : Prop :=
  KeepsBut (· = r) w w' ∧ Memo w' r (sums l h) ∧ ∃ A m c b h' N, w.heap.size ≤ N ∧ OutIs bt hn N ps w' A m c b h' ∧ e = .returned (.agg #[.slice A m c, .int .i64 b, .int .i64 h'])
theorem five (w : World) (o0 o1 o2 o3 o4 : Obj) : ∃ X, ((((w.alloc o0).alloc o1).alloc o2).alloc o3).alloc o4 = X ∧ Below w.heap.size w X ∧ (X.heap.size ≤ w.heap.size + 5 ∧ w.heap.size + 5 ≤ X.heap.size) ∧ X.heap[w.heap.size]? = some o0 ∧
    X.heap[w.heap.size + 1]? = some o1 ∧ X.heap[w.heap.size + 2]? = some o2 ∧ X.heap[w.heap.size + 3]? = some o3 ∧ X.heap[w.heap.size + 4]? = some o4 := by
  have h0 := Go.heap_alloc_new w o0
  have h1 := Go.heap_alloc_new (w.alloc o0) o1
  have h2 := Go.heap_alloc_new ((w.alloc o0).alloc o1) o2
  have h3 := Go.heap_alloc_new (((w.alloc o0).alloc o1).alloc o2) o3
  have h4 := Go.heap_alloc_new ((((w.alloc o0).alloc o1).alloc o2).alloc o3) o4
  simp only [World.size_alloc] at h1 h2 h3 h4
  refine ⟨_, rfl, ?_, by simp only [World.size_alloc]; omega, ?_, ?_, ?_, ?_, ?_⟩
  · exact ((((((Below.refl _ w).alloc (Nat.le_refl _) o0).alloc (by simp only [World.size_alloc]; omega) o1).alloc (by simp only [World.size_alloc]; omega) o2).alloc (by simp only [World.size_alloc]; omega) o3).alloc (by simp only [World.size_alloc]; omega) o4)
  · exact heap_alloc_keep (heap_alloc_keep (heap_alloc_keep (heap_alloc_keep h0 _) _) _) _
  · exact heap_alloc_keep (heap_alloc_keep (heap_alloc_keep h1 _) _) _
  · exact heap_alloc_keep (heap_alloc_keep h2 _) _
  · exact heap_alloc_keep h3 _
  · exact h4
theorem best_end {bt : Int → Int → Int → Int → Bool} {hn : List Int → Int} {l h : Nat → Int} {cs : Array Value} {g r : Nat} {w : World} {pre : List (List Int)} {W : World} (hI : BestI bt hn l h cs g r w (w.heap.size + 6) pre W) (hrw : r < w.heap.size)
    {X : World} (hk : KeepsBut (· = r) W X) (hM : Memo X r (sums l h)) {x : List Int} {A : Option Addr} {m c : Nat} {b h' : Int} (hnew : OutIs bt hn (w.heap.size + 6) (pre ++ [x]) W A m c b h') :
    KeepsBut (fun k => k = r ∨ k = w.heap.size + 3 ∨ k = w.heap.size + 4) W ((X.setRow (w.heap.size + 3) #[.slice A m c, .int .i64 b, .int .i64 h']).setCell ⟨w.heap.size + 4, 0, none⟩ (.bool false)) ∧
    BestI bt hn l h cs g r w (w.heap.size + 6) (pre ++ [x]) ((X.setRow (w.heap.size + 3) #[.slice A m c, .int .i64 b, .int .i64 h']).setCell ⟨w.heap.size + 4, 0, none⟩ (.bool false)) := by
  have hs := hI.size
  have hoth : ∀ k, k ≠ w.heap.size + 3 → k ≠ w.heap.size + 4 → ((X.setRow (w.heap.size + 3) #[.slice A m c, .int .i64 b, .int .i64 h']).setCell ⟨w.heap.size + 4, 0, none⟩ (.bool false)).heap[k]? = X.heap[k]? :=
    fun k h3 h4 => (heap_setCell_other _ _ _ _ (by simpa using h4)).trans (setRow_other _ _ _ _ (by omega))
  have hsz : ((X.setRow (w.heap.size + 3) #[.slice A m c, .int .i64 b, .int .i64 h']).setCell ⟨w.heap.size + 4, 0, none⟩ (.bool false)).heap.size = X.heap.size := by simp [World.setCell]
  have hkS : KeepsBut (fun k => k = r ∨ k = w.heap.size + 3 ∨ k = w.heap.size + 4) W ((X.setRow (w.heap.size + 3) #[.slice A m c, .int .i64 b, .int .i64 h']).setCell ⟨w.heap.size + 4, 0, none⟩ (.bool false)) :=
    (hk.mono (fun _ h => .inl h)).trans ⟨rfl, rfl, rfl, by rw [hsz]; exact Nat.le_refl _, fun k _ hs => hoth k (fun e => hs (.inr (.inl e))) (fun e => hs (.inr (.inr e)))⟩
  have hX : ∀ k, k < W.heap.size → k ≠ r → X.heap[k]? = W.heap[k]? := fun k hk1 hk2 => hk.same k hk1 hk2
  have hout : ∃ o, X.heap[w.heap.size + 3]? = some (.cells o 100) := by
    obtain ⟨A', m', c', b', h'', ho, _⟩ := hI.out
    exact ⟨_, (hX _ (by omega) (by omega)).trans ho⟩
  obtain ⟨o3, ho3⟩ := hout
  have hfi : (X.setRow (w.heap.size + 3) #[.slice A m c, .int .i64 b, .int .i64 h']).heap[w.heap.size + 4]? = some (.cells #[.bool pre.isEmpty] 4) :=
    (setRow_other _ _ _ _ (by omega)).trans ((hX _ (by omega) (by omega)).trans hI.first)
  refine ⟨hkS, ⟨?_, ?_, ?_, ?_, ?_, ?_, ?_, ?_⟩⟩
  · exact ⟨hkS.os.trans hI.keeps.os, hkS.tape.trans hI.keeps.tape, hkS.output.trans hI.keeps.output, Nat.le_trans hI.keeps.size hkS.size, fun k hk1 hk2 => by
      rw [hoth _ (by omega) (by omega), hX _ (by omega) hk2]; exact hI.keeps.same k hk1 hk2⟩
  · rw [hsz]; exact Nat.lt_of_lt_of_le hs hk.size
  · rw [hoth _ (by omega) (by omega), hX _ (by omega) (by omega)]; exact hI.book
  · rw [hoth _ (by omega) (by omega), hX _ (by omega) (by omega)]; exact hI.ord
  · rw [hoth _ (by omega) (by omega), hX _ (by omega) (by omega)]; exact hI.res
  · exact ⟨A, m, c, b, h', (heap_setCell_other _ _ _ _ (by simp)).trans (setRow_heap _ _ _ _ _ _ ho3), hnew.kn (fun k hk => by omega) (hkS.mono (fun _ h => .inl h))⟩
  · rw [heap_setCell_same _ _ _ _ _ _ hfi]
    simp
  · exact hM.keep (hoth _ (by omega) (by omega))
theorem best_keep {bt : Int → Int → Int → Int → Bool} {hn : List Int → Int} {l h : Nat → Int} {cs : Array Value} {g r : Nat} {w : World} {pre : List (List Int)} {W : World} (hI : BestI bt hn l h cs g r w (w.heap.size + 6) pre W) (hrw : r < w.heap.size)
    {X : World} (hk : KeepsBut (· = r) W X) (hM : Memo X r (sums l h)) {x : List Int} (hp : pre ≠ []) (hsame : bestTo bt hn (pre ++ [x]) = bestTo bt hn pre) :
    KeepsBut (fun k => k = r ∨ k = w.heap.size + 3 ∨ k = w.heap.size + 4) W X ∧ BestI bt hn l h cs g r w (w.heap.size + 6) (pre ++ [x]) X := by
  have hs := hI.size
  have hX : ∀ k, k < W.heap.size → k ≠ r → X.heap[k]? = W.heap[k]? := fun k hk1 hk2 => hk.same k hk1 hk2
  refine ⟨hk.mono (fun _ h => .inl h), ⟨hI.keeps.trans hk, Nat.lt_of_lt_of_le hs hk.size, ?_, ?_, ?_, ?_, ?_, hM⟩⟩
  · rw [hX _ (by omega) (by omega)]; exact hI.book
  · rw [hX _ (by omega) (by omega)]; exact hI.ord
  · rw [hX _ (by omega) (by omega)]; exact hI.res
  · obtain ⟨A', m', c', b', h'', ho, hO⟩ := hI.out
    refine ⟨A', m', c', b', h'', by rw [hX _ (by omega) (by omega)]; exact ho, ?_⟩
    have hO2 := OutIs.kn (S := fun k => k = r) (fun k hk => by omega) (hk.mono (fun _ h => .inl h)) hO
    unfold OutIs at hO2 ⊢
    rw [hsame]
    cases hb : bestTo bt hn pre with
    | none => rw [hb] at hO2; exact hO2
    | some p => rw [hb] at hO2; exact ⟨hO2.1, hO2.2.1, hO2.2.2.1, List.mem_append_left _ hO2.2.2.2⟩
  · rw [hX _ (by omega) (by omega), hI.first]
    cases pre with
    | nil => exact absurd rfl hp
    | cons a t => rfl
theorem round_new {r : Nat} {l h : Nat → Int} {W w1 w2 : World} (hb : Below W.heap.size W w1) (hk : KeepsBut (· = r) w1 w2) (hM : Memo w2 r (sums l h)) (row : Array Value) :
    ∃ X, w2.alloc (.cells row 100) = X ∧ (KeepsBut (· = r) W X ∧ Memo X r (sums l h) ∧ X.heap[w2.heap.size]? = some (.cells row 100) ∧ W.heap.size ≤ w2.heap.size) := by
  have ha : Below w2.heap.size w2 (w2.alloc (.cells row 100)) := (Below.refl _ _).alloc (Nat.le_refl _) _
  exact ⟨_, rfl, (KeepsBut.of_below hb).trans (hk.trans (KeepsBut.of_below ha)), hM.keep (ha.block r hM.lt), Go.heap_alloc_new _ _, Nat.le_trans hb.size hk.size⟩
theorem round_rows {bt : Int → Int → Int → Int → Bool} {hn : List Int → Int} {l h : Nat → Int} {cs : Array Value} {g r : Nat} {w : World} {pre : List (List Int)} {W : World} (hI : BestI bt hn l h cs g r w (w.heap.size + 6) pre W) (hrw : r < w.heap.size)
    {X : World} (hk : KeepsBut (· = r) W X) : X.heap[w.heap.size + 1]? = some (.cells #[.func (.func g) #[] #[]] 104) ∧ X.heap[w.heap.size + 4]? = some (.cells #[.bool pre.isEmpty] 4) ∧ ∀ o, W.heap[w.heap.size + 3]? = some o → X.heap[w.heap.size + 3]? = some o := by
  have hs := hI.size
  exact ⟨(hk.same _ (by omega) (by omega)).trans hI.ord, (hk.same _ (by omega) (by omega)).trans hI.first, fun o ho => (hk.same _ (by omega) (by omega)).trans ho⟩
theorem info100 : (Tryd.prog.info? 100).map (·.size) = some 3 := by kernel_rfl
theorem best_stable {bt : Int → Int → Int → Int → Bool} {hn : List Int → Int} {l h : Nat → Int} {cs : Array Value} {g r : Nat} {w : World} {pre : List (List Int)} {W W' : World} (hI : BestI bt hn l h cs g r w (w.heap.size + 6) pre W) (hrw : r < w.heap.size) {M : Nat} (hM : w.heap.size + 6 ≤ M)
    (hk : KeepsBut (fun k => M ≤ k ∧ ∃ o : Obj, W.heap[k]? = some o ∧ o.isCells = false) W W') : BestI bt hn l h cs g r w (w.heap.size + 6) pre W' := by
  have hs := hI.size
  have hX : ∀ k, k < w.heap.size + 6 → k < W.heap.size → W'.heap[k]? = W.heap[k]? := fun k hk1 hk2 => hk.same k hk2 (fun h => by omega)
  refine ⟨⟨hk.os.trans hI.keeps.os, hk.tape.trans hI.keeps.tape, hk.output.trans hI.keeps.output, Nat.le_trans hI.keeps.size hk.size, fun k hk1 hk2 => ?_⟩, Nat.lt_of_lt_of_le hs hk.size, ?_, ?_, ?_, ?_, ?_, ?_⟩
  · rw [hX _ (by omega) (by omega)]; exact hI.keeps.same k hk1 hk2
  · rw [hX _ (by omega) (by omega)]; exact hI.book
  · rw [hX _ (by omega) (by omega)]; exact hI.ord
  · rw [hX _ (by omega) (by omega)]; exact hI.res
  · obtain ⟨A', m', c', b', h'', ho, hO⟩ := hI.out
    refine ⟨A', m', c', b', h'', by rw [hX _ (by omega) (by omega)]; exact ho, OutIs.kn (S := fun _ => False) (fun k hk => hk.elim) ?_ hO⟩
    exact hk.mono (fun k h => .inr h.2)
  · rw [hX _ (by omega) (by omega)]; exact hI.first
  · exact hI.memo.keep (hX _ (by omega) (by omega))
end Go.Proofs.YtbbdbdamedaldaaDoor.Fl
end
section
namespace Go.Proofs.YtbbdbdamedaldaaDoor.Fl
open Go Go.RowKit Go.Proofs.EqArr Go.Proofs.RngLaw Go.Proofs.CopyN
def overTo (pr le mo : Int) (l h : Nat → Int) (q : List (Nat × Nat)) : Nat → Int × Int
  | 0 => (0, 0)
  | k + 1 => if rightB pr le mo l h (q.getD k (0, 0)).1 (q.getD k (0, 0)).2 = true then
      ((overTo pr le mo l h q k).1 + sg l (q.getD k (0, 0)).1 (q.getD k (0, 0)).2 - pr, (overTo pr le mo l h q k).2 + sg h (q.getD k (0, 0)).1 (q.getD k (0, 0)).2 - pr)
    else overTo pr le mo l h q k
theorem sg_bd (f : Nat → Int) (hf : ∀ i, 0 ≤ f i ∧ f i ≤ 200) (a b : Nat) : 0 ≤ sg f a b ∧ sg f a b ≤ 200 * (b - a : Nat) := by
  unfold sg
  have : ∀ (n a : Nat), 0 ≤ ((List.range' a n).map f).sum ∧ ((List.range' a n).map f).sum ≤ 200 * (n : Int) := by
    intro n
    induction n with
    | zero => intro a; simp
    | succ n ih =>
      intro a
      have h1 := ih (a + 1)
      have h2 := hf a
      rw [List.range'_succ, List.map_cons, List.sum_cons]
      omega
  exact this (b - a) a
theorem overTo_bd (pr le mo : Int) (l h : Nat → Int) (q : List (Nat × Nat)) (p1 : 1 ≤ pr) (p2 : pr ≤ 500) (hl : ∀ i, 0 ≤ l i ∧ l i ≤ 200) (hh : ∀ i, 0 ≤ h i ∧ h i ≤ 200) (hq : ∀ x ∈ q, x.1 ≤ x.2 ∧ x.2 ≤ 8) :
    ∀ k : Nat, -500 * (k : Int) ≤ (overTo pr le mo l h q k).1 ∧ (overTo pr le mo l h q k).1 ≤ 1600 * k ∧ -500 * (k : Int) ≤ (overTo pr le mo l h q k).2 ∧ (overTo pr le mo l h q k).2 ≤ 1600 * k
  | 0 => by simp [overTo]
  | k + 1 => by
    have ih := overTo_bd pr le mo l h q p1 p2 hl hh hq k
    unfold overTo
    have hx : (q.getD k (0, 0)).1 ≤ (q.getD k (0, 0)).2 ∧ (q.getD k (0, 0)).2 ≤ 8 := by
      by_cases hk : k < q.length
      · have := hq q[k] (List.getElem_mem _)
        simpa [List.getD_eq_getElem?_getD, List.getElem?_eq_getElem hk] using this
      · simp [List.getD_eq_getElem?_getD, List.getElem?_eq_none (Nat.le_of_not_lt hk)]
    have s1 := sg_bd l hl (q.getD k (0, 0)).1 (q.getD k (0, 0)).2
    have s2 := sg_bd h hh (q.getD k (0, 0)).1 (q.getD k (0, 0)).2
    split
    · simp only
      omega
    · omega
theorem own_pairs {w : World} {base : Nat} {e : TypeId} {v : Value} {q : List (Nat × Nat)} {m : Nat} (hm : q.length = m) (hv : w.ownsRow base e 2 v m (pairCells q)) :
    ∃ A1 c1, v = .slice A1 m c1 ∧ (0 < m → ∃ g, A1 = some ⟨g, 0, none⟩ ∧ base ≤ g ∧ g < w.heap.size ∧ ∀ k, k < m → w.cell? ⟨g, k * 2, none⟩ = some (.int .i64 (q.getD k (0, 0)).1) ∧ w.cell? ⟨g, k * 2 + 1, none⟩ = some (.int .i64 (q.getD k (0, 0)).2)) := by
  subst hm
  rcases Nat.eq_zero_or_pos q.length with h0 | h0
  · rcases hv.2 with ⟨rfl, _⟩ | ⟨g, cap, cur, rfl, _⟩
    · exact ⟨none, 0, by rw [h0], fun hp => by omega⟩
    · exact ⟨_, cap, rfl, fun hp => by omega⟩
  · rcases hv.2 with ⟨rfl, h⟩ | ⟨g, cap, cur, rfl, hg, hh, _⟩
    · omega
    · refine ⟨_, cap, rfl, fun _ => ⟨g, rfl, hg, (Array.getElem?_eq_some_iff.1 hh).1, fun k hk => ?_⟩⟩
      obtain ⟨p1, p2⟩ := pairCells_at q k hk
      have q1 := hv.cells (g := g) rfl _ _ p1
      have q2 := hv.cells (g := g) rfl _ _ p2
      have ha : ∀ j, (⟨g, 0, none⟩ : Addr).add j = ⟨g, j, none⟩ := fun j => by unfold Addr.add; split <;> simp_all
      rw [ha] at q1 q2
      exact ⟨q1, q2⟩
theorem built27 (a b : Int) : Tryd.prog.built 27 [(0, .int .i64 a), (1, .int .i64 b)] = some #[.int .i64 a, .int .i64 b] := by kernel_rfl
def OverPost (w : World) (pr le mo gr : Int) (q : List (Int × Int)) (p : List Int) (ck : Bool) (e : Ending) (w' : World) : Prop :=
  Below w.heap.size w w' ∧ (ck = false → e = .returned (.tuple #[.agg #[.int .i64 0, .int .i64 0], .int .i64 50])) ∧
  (ck = true → ¬ planP q.length gr p → e = .returned (.tuple #[.agg #[.int .i64 0, .int .i64 0], .int .i64 51])) ∧
  (ck = true → planP q.length gr p → e = .returned (.tuple #[.agg #[.int .i64 (overTo pr le mo (lowOf q) (highOf q) (boxesOf p) p.length).1, .int .i64 (overTo pr le mo (lowOf q) (highOf q) (boxesOf p) p.length).2], .int .i64 0]))
set_option maxRecDepth 100000 in
set_option maxHeartbeats 2000000 in
theorem apiOver_calls (pr le mo gr : Int) (A : Option Addr) (n c : Nat) (q : List (Int × Int)) (hn : n = q.length) (hc : q.length ≤ c) (hl : q.length ≤ 9223372036854775807)
    (A1 : Option Addr) (n1 c1 : Nat) (p : List Int) (hn1 : p.length = n1) (w : World) (hrd : RdH w A q) (hp : RdI w A1 p) (hwf : wfL p) (hLd : Laid w) :
    Calls Tryd.prog 29 #[.agg #[.int .i64 pr, .int .i64 le, .int .i64 mo, .int .i64 gr, .slice A n c], .slice A1 n1 c1] w (OverPost w pr le mo gr q p (checkB pr le mo gr q)) := by
  have pln := fun W (hb : Below w.heap.size w W) => planned_calls pr le mo gr A n c q hn hc hl A1 n1 c1 p hn1 W (hrd.below hb) (hp.below hb) hwf
  clear hn hn1
  have Pln := Lib.hid pln
  have HLd := Lib.hid hLd
  clear hrd pln hp hwf hLd
  have hz := run_zero74
  have hz27 : ∀ w, (zeroValue 27).run Tryd.prog w = .ok (.agg #[.int .i64 0, .int .i64 0]) w := fun w => zero27 w
  have hu27 := Tryd.underlying27
  have i74z : (Tryd.prog.info? 74).map (·.size) = some z22.size := info74
  have i24 : (Tryd.prog.info? 24).map (·.size) = some (#[.int .i64 pr, .int .i64 le, .int .i64 mo, .int .i64 gr, .slice A n c] : Array Value).size := info24
  have i27 : ∀ x y : Int, (Tryd.prog.info? 27).map (·.size) = some (#[Value.int .i64 x, .int .i64 y] : Array Value).size := fun x y => by
    have h : (Tryd.prog.info? 27).map (·.size) = some 2 := by kernel_rfl
    exact h
  have I27 := Lib.hid i27
  have hb0 : Below w.heap.size w ((w.alloc (.cells #[.int .i64 pr, .int .i64 le, .int .i64 mo, .int .i64 gr, .slice A n c] 24)).alloc (.cells #[.int .i64 0, .int .i64 0] 27)) := ((Below.refl _ _).alloc (Nat.le_refl _) _).alloc (by simp) _
  have g6 : ((w.alloc (.cells #[.int .i64 pr, .int .i64 le, .int .i64 mo, .int .i64 gr, .slice A n c] 24)).alloc (.cells #[.int .i64 0, .int .i64 0] 27)).heap[w.heap.size + 1]? = some (.cells #[.int .i64 0, .int .i64 0] 27) := heap_alloc2_new _ _ _
  have g0 : ((w.alloc (.cells #[.int .i64 pr, .int .i64 le, .int .i64 mo, .int .i64 gr, .slice A n c] 24)).alloc (.cells #[.int .i64 0, .int .i64 0] 27)).heap[w.heap.size]? = some (.cells #[.int .i64 pr, .int .i64 le, .int .i64 mo, .int .i64 gr, .slice A n c] 24) := heap_alloc2_old _ _ _
  have B0 := Lib.hid (And.intro hb0 (And.intro g6 g0))
  clear hb0 g6 g0 i27
  have bad : ∀ (k : Int), k ≠ 0 → (∀ W, Below w.heap.size w W → Calls Tryd.prog 80 #[.agg #[.int .i64 pr, .int .i64 le, .int .i64 mo, .int .i64 gr, .slice A n c], .slice A1 n1 c1] W (fun e W' => e = .returned (.tuple #[.agg z22, .slice none 0 0, .int .i64 k]) ∧ Below W.heap.size W W')) →
      Calls Tryd.prog 29 #[.agg #[.int .i64 pr, .int .i64 le, .int .i64 mo, .int .i64 gr, .slice A n c], .slice A1 n1 c1] w (fun e W' => e = .returned (.tuple #[.agg #[.int .i64 0, .int .i64 0], .int .i64 k]) ∧ Below w.heap.size w W') := by
    intro k hk hP
    have hk1 : (k != 0) = true := by simpa using hk
    have HP := Lib.hid hP
    clear hP
    go_enter Tryd.func29, Tryd.ntmps29
    go_wp2_with (first
      | (go_at_call 80; refine (HP.out _ B0.out.1).mono ?_; rintro e w1 ⟨rfl, hb1⟩; have hb2 := B0.out.1.trans (hb1.mono (by simp <;> omega)); have g7 := below_heap hb1 B0.out.2.1; have hs2 := hb1.size; simp at hs2; have hb5 := below_setRow (g := w1.heap.size) ((Below.refl w1.heap.size w1).alloc (Nat.le_refl _) (.cells z22 74)) (Nat.le_refl _) z22; have g9 := below_heap hb5 g7)
      | (refine wpList_store_row rfl 74 _ _ rfl w1.heap.size z22 rfl rfl 74 z22 (Go.heap_alloc_new _ _) i74z rfl z22_one ?_)
      | (refine wpList_built rfl 27 #[] rfl [] (by kernel_rfl) built27z ?_)
      | (refine wpList_store_row rfl 27 _ _ rfl (w.heap.size + 1) #[.int .i64 0, .int .i64 0] rfl rfl 27 #[.int .i64 0, .int .i64 0] g9 (I27.out 0 0) rfl (two_one 0 0) ?_))
    exact bodyPost_ret (v := .tuple #[.agg #[.int .i64 0, .int .i64 0], .int .i64 k]) (results_row_tmp Tryd.results29 _ _ (w.heap.size + 1) 27 _ (0, 0) _ rfl (setRow_heap _ _ _ _ _ _ g9) Tryd.underlying27 rfl (I27.out 0 0) _ rfl) rfl
      ⟨rfl, below_setRow (hb2.trans (hb5.mono (by omega))) (by omega) _⟩
  cases hck : checkB pr le mo gr q with
  | false =>
    rw [hck] at Pln
    refine (bad 50 (by decide) (fun W hb => (Pln.out W hb).mono ?_)).mono ?_
    · rintro e W' ⟨h1, h2, _⟩
      exact ⟨h2 rfl, h1⟩
    · rintro e W' ⟨rfl, h⟩
      exact ⟨h, fun _ => rfl, fun h => (by cases h), fun h => (by cases h)⟩
  | true =>
    rw [hck] at Pln
    by_cases hpl : planP q.length gr p
    · clear bad
      have hF := bookF hck
      have h8 := hF.n8
      have hm8 : ∀ x ∈ boxesOf p, x.1 ≤ x.2 ∧ x.2 ≤ 8 := fun x hx => ⟨(planP_mem hpl x hx).1, Nat.le_trans (planP_mem hpl x hx).2 h8⟩
      have hp8 : p.length ≤ 8 := Nat.le_trans (planP_length hpl) h8
      have hbd := overTo_bd pr le mo (lowOf q) (highOf q) (boxesOf p) hF.b1 hF.b2 hF.hl hF.hh hm8
      have i74o := fun r => openCells_i74 pr le mo gr A q.length c q r h8
      have o22 := fun r => openCells_size pr le mo gr A q.length c q r h8
      have I74 := Lib.hid (And.intro i74o o22)
      have smc := fun (r a b : Nat) (hab : a ≤ b) (hb8 : b ≤ 8) (W : World) (hL : Laid W) (hM : Memo W r (sums (lowOf q) (highOf q))) =>
        sum_calls (openCells pr le mo gr A q.length c q r) pr le mo gr A q.length c (lowOf q) (highOf q) r (openCells_bookC _ _ _ _ _ _ _ _ _ h8) hF.hl hF.hh a b hab hb8 W hM hL.1 hL.2
      have irt := fun (r a b : Nat) (hab : a ≤ b) (hb8 : b ≤ 8) (W : World) (hL : Laid W) (hM : Memo W r (sums (lowOf q) (highOf q))) =>
        isRight_calls (openCells pr le mo gr A q.length c q r) pr le mo gr A q.length c (lowOf q) (highOf q) r (openCells_bookC _ _ _ _ _ _ _ _ _ h8) hF.b1 hF.b2 hF.b3 hF.b4 hF.b5 hF.b6 hF.hl hF.hh a b hab hb8 W hM hL.1 hL.2
      have sgb : ∀ a b : Nat, a ≤ b → b ≤ 8 → (0 ≤ sg (lowOf q) a b ∧ sg (lowOf q) a b ≤ 1600) ∧ (0 ≤ sg (highOf q) a b ∧ sg (highOf q) a b ≤ 1600) := fun a b hab hb8 => by
        have h1 := sg_bd (lowOf q) hF.hl a b
        have h2 := sg_bd (highOf q) hF.hh a b
        omega
      have Fcs := Lib.hid (And.intro smc (And.intro irt (And.intro hbd (And.intro hm8 (And.intro sgb (And.intro hF.b1 hF.b2))))))
      have Pln2 : Hid (∀ W, Below w.heap.size w W → Calls Tryd.prog 80 #[.agg #[.int .i64 pr, .int .i64 le, .int .i64 mo, .int .i64 gr, .slice A n c], .slice A1 n1 c1] W (fun e W' => Below W.heap.size W W' ∧
        ∃ r v, e = .returned (.tuple #[.agg (openCells pr le mo gr A q.length c q r), v, .int .i64 0]) ∧ W'.ownsRow W.heap.size 80 2 v p.length (boxCells p p.length) ∧ W'.heap[r]? = some (.map #[] 0) ∧ W.heap.size ≤ r)) :=
        Lib.hid fun W hb => (Pln.out W hb).mono (by rintro e W' ⟨h1, _, _, h4⟩; exact ⟨h1, h4 rfl hpl⟩)
      have Hpl := Lib.hid hpl
      clear Pln smc irt hbd hm8 sgb i74o o22 hck hF hpl
      go_enter Tryd.func29, Tryd.ntmps29
      go_wp2_with (first
        | (go_at_call 80; refine (Pln2.out _ B0.out.1).mono ?_; rintro e w1 ⟨hb1, r, v, rfl, hown, hm, hr⟩; have hb2 := B0.out.1.trans (hb1.mono (by simp <;> omega)); have g7 := below_heap hb1 B0.out.2.1; have g8 := below_heap hb1 B0.out.2.2; have hs2 := hb1.size; simp at hs2; simp at hr; have hr2 : r < w1.heap.size := (Array.getElem?_eq_some_iff.1 hm).1; have Hm := Lib.hid hm; clear hm; rw [planP_boxes Hpl.out] at hown; obtain ⟨A3, c3, rfl, hrd3⟩ := own_pairs (boxesOf_length p) hown; have Hrd := Lib.hid hrd3; clear hown hrd3)
        | (refine wpList_store_row rfl 74 _ _ rfl w1.heap.size (openCells pr le mo gr A q.length c q r) rfl rfl 74 z22 (Go.heap_alloc_new _ _) (I74.out.1 r) (I74.out.2 r).symm (openCells_one _ _ _ _ _ _ _ _ _) ?_))
      have g5 : ((w1.alloc (.cells z22 74)).setRow w1.heap.size (openCells pr le mo gr A q.length c q r)).heap[w1.heap.size]? = some (.cells (openCells pr le mo gr A q.length c q r) 74) := setRow_heap _ _ _ _ _ _ (Go.heap_alloc_new _ _)
      have hbA : Below w1.heap.size w1 (((w1.alloc (.cells z22 74)).setRow w1.heap.size (openCells pr le mo gr A q.length c q r)).alloc (.cells #[.int .i64 0, .int .i64 0] 27)) := (below_setRow ((Below.refl w1.heap.size w1).alloc (Nat.le_refl _) _) (Nat.le_refl _) _).alloc (by simp) _
      have gO : (((w1.alloc (.cells z22 74)).setRow w1.heap.size (openCells pr le mo gr A q.length c q r)).alloc (.cells #[.int .i64 0, .int .i64 0] 27)).heap[w1.heap.size + 1]? = some (.cells #[.int .i64 0, .int .i64 0] 27) := by
        have := Go.heap_alloc_new ((w1.alloc (.cells z22 74)).setRow w1.heap.size (openCells pr le mo gr A q.length c q r)) (.cells #[.int .i64 0, .int .i64 0] 27)
        simpa using this
      have gB := heap_alloc_keep g5 (.cells #[.int .i64 0, .int .i64 0] 27)
      have sz6 : w1.heap.size + 2 ≤ (((w1.alloc (.cells z22 74)).setRow w1.heap.size (openCells pr le mo gr A q.length c q r)).alloc (.cells #[.int .i64 0, .int .i64 0] 27)).heap.size := by simp
      generalize hW6 : ((w1.alloc (.cells z22 74)).setRow w1.heap.size (openCells pr le mo gr A q.length c q r)).alloc (.cells #[.int .i64 0, .int .i64 0] 27) = W6 at *
      clear g5 hW6
      have F6 := Lib.hid (And.intro hbA (And.intro gO gB))
      clear hbA gO gB
      go_loopw [11, 12, 26] (fun _ _ v26 wr => ∃ k : Nat, k ≤ p.length ∧ v26 = .int .i64 k ∧ KeepsBut (fun b => b = r ∨ b = w1.heap.size + 1) W6 wr ∧
        wr.heap[w1.heap.size + 1]? = some (.cells #[.int .i64 (overTo pr le mo (lowOf q) (highOf q) (boxesOf p) k).1, .int .i64 (overTo pr le mo (lowOf q) (highOf q) (boxesOf p) k).2] 27) ∧ Memo wr r (sums (lowOf q) (highOf q))) (fun _ _ v26 _ => p.length - (intOf v26).toNat)
      case atStart => exact ⟨0, Nat.zero_le _, rfl, KeepsBut.refl _ _, F6.out.2.1, memo0 (below_heap F6.out.1 Hm.out) _⟩
      case round =>
        obtain ⟨k, hk, rfl, hkr, hout, hMr⟩ := hrel
        by_cases hlt : k < p.length
        · obtain ⟨g, rfl, hgb, hgl, hrd⟩ := Hrd.out (by omega)
          have hgr : g ≠ r := by
            rintro rfl
            have h1 := (hrd k hlt).1
            simp [World.cell?, Hm.out] at h1
          obtain ⟨d0, d1⟩ := hrd k hlt
          have c0 := hkr.cell (cell_kept_below F6.out.1 d0) (fun h => h.elim hgr (fun h => by have : g = w1.heap.size + 1 := h; omega))
          have c1' := hkr.cell (cell_kept_below F6.out.1 d1) (fun h => h.elim hgr (fun h => by have : g = w1.heap.size + 1 := h; omega))
          have hbk := (hkr.same w1.heap.size (by omega) (fun h => h.elim (fun h => by have : w1.heap.size = r := h; omega) (fun h => by have : w1.heap.size = w1.heap.size + 1 := h; omega))).trans F6.out.2.2
          have hbd1 := Fcs.out.2.2.1 k
          have hm : (boxesOf p).getD k (0, 0) ∈ boxesOf p := by
            rw [List.getD_eq_getElem?_getD, List.getElem?_eq_getElem (by rw [boxesOf_length]; exact hlt)]
            exact List.getElem_mem _
          obtain ⟨hab, hb8⟩ := Fcs.out.2.2.2.1 _ hm
          have hsn : overTo pr le mo (lowOf q) (highOf q) (boxesOf p) (k + 1) = _ := overTo.eq_2 _ _ _ _ _ _ k
          clear hm hrd d0 d1
          have harg : wr.cell? ⟨w.heap.size, 0, none⟩ = some (.int .i64 pr) := hkr.cell (cell_kept_below F6.out.1 ((cell_of_row _ _ 0 _ _ _ g8).trans rfl)) (fun h => h.elim (fun h => by have : w.heap.size = r := h; omega) (fun h => by have : w.heap.size = w1.heap.size + 1 := h; omega))
          generalize ((boxesOf p).getD k (0, 0)).1 = a at *
          generalize ((boxesOf p).getD k (0, 0)).2 = b at *
          have hwr : Below w.heap.size w wr := ((KeepsBut.of_below (hb2.trans (F6.out.1.mono (by omega)))).trans hkr).below (Nat.le_refl _) (fun j hj => hj.elim (fun h => by have : j = r := h; omega) (fun h => by have : j = w1.heap.size + 1 := h; omega))
          have hal : Below wr.heap.size wr (wr.alloc (.cells #[.int .i64 a, .int .i64 b] 80)) := (Below.refl _ _).alloc (Nat.le_refl _) _
          have smc := Fcs.out.1 r a b hab hb8 (wr.alloc (.cells #[.int .i64 a, .int .i64 b] 80)) (HLd.out.below (hwr.trans (hal.mono hwr.size))) (hMr.keep (hal.block r hMr.lt))
          have irt := Fcs.out.2.1 r a b hab hb8
          have gy := Go.heap_alloc_new wr (.cells #[.int .i64 a, .int .i64 b] 80)
          have hb7 := below_heap hal hbk
          have ho7 := below_heap hal hout
          have hg7 := cell_kept_below hal harg
          have hrr := hMr.lt
          have hsr := hkr.size
          have Smc := Lib.hid (And.intro smc irt)
          have HM := Lib.hid hMr
          have HK := Lib.hid hkr
          have Hsn := Lib.hid hsn
          clear smc irt hMr hkr hsn
          go_wp2_with (first
            | (refine wpList_load_row rfl 74 _ rfl w1.heap.size rfl 74 (openCells pr le mo gr A q.length c q r) (0, 0) _ hb7 Tryd.underlying74 rfl (I74.out.1 r) ?_)
            | (refine wpList_load_row rfl 80 _ rfl wr.heap.size rfl 80 _ (0, 0) _ gy Tryd.underlying80 rfl info80 ?_))
          refine Smc.out.1.mono ?_
          rintro e w3 ⟨rfl, hk3, hM3⟩
          have hs3 := hk3.size
          simp at hs3
          have hb9 := (hk3.same w1.heap.size (by simp; omega) (fun h => by have : w1.heap.size = r := h; omega)).trans hb7
          have gy9 := (hk3.same wr.heap.size (by simp) (fun h => by have : wr.heap.size = r := h; omega)).trans gy
          have ho9 := (hk3.same (w1.heap.size + 1) (by simp; omega) (fun h => by have : w1.heap.size + 1 = r := h; omega)).trans ho7
          go_wp2_with (first
            | (refine wpList_store_row rfl 27 _ _ rfl w3.heap.size #[.int .i64 (sg (lowOf q) a b), .int .i64 (sg (highOf q) a b)] rfl rfl 27 #[.int .i64 0, .int .i64 0] (Go.heap_alloc_new _ _) (I27.out _ _) rfl (two_one _ _) ?_)
            | (refine wpList_load_row rfl 74 _ rfl w1.heap.size rfl 74 (openCells pr le mo gr A q.length c q r) (0, 0) _ ((setRow_other _ _ _ _ (by omega)).trans (heap_alloc_keep hb9 _)) Tryd.underlying74 rfl (I74.out.1 r) ?_)
            | (refine wpList_load_row rfl 80 _ rfl wr.heap.size rfl 80 _ (0, 0) _ ((setRow_other _ _ _ _ (by omega)).trans (heap_alloc_keep gy9 _)) Tryd.underlying80 rfl info80 ?_))
          have hb8' : Below w3.heap.size w3 ((w3.alloc (.cells #[.int .i64 0, .int .i64 0] 27)).setRow w3.heap.size #[.int .i64 (sg (lowOf q) a b), .int .i64 (sg (highOf q) a b)]) := below_setRow ((Below.refl _ _).alloc (Nat.le_refl _) _) (Nat.le_refl _) _
          have hw3 : Below w.heap.size w w3 := ((KeepsBut.of_below (hwr.trans (hal.mono hwr.size))).trans hk3).below (Nat.le_refl _) (fun j hj => by have : j = r := hj; omega)
          refine (Smc.out.2 ((w3.alloc (.cells #[.int .i64 0, .int .i64 0] 27)).setRow w3.heap.size #[.int .i64 (sg (lowOf q) a b), .int .i64 (sg (highOf q) a b)]) (HLd.out.below (hw3.trans (hb8'.mono hw3.size))) (hM3.keep (hb8'.block r hM3.lt))).mono ?_
          rintro e w4 ⟨rfl, hk4, hM4⟩
          have hsr4 := hk4.size
          have ho10 := (hk4.same (w1.heap.size + 1) (by simp [World.setRow]; omega) (fun h => by have : w1.heap.size + 1 = r := h; omega)).trans (below_heap hb8' ho9)
          have hs10 := (hk4.same w3.heap.size (by simp [World.setRow]) (fun h => by have : w3.heap.size = r := h; omega)).trans (setRow_heap _ _ _ _ _ _ (Go.heap_alloc_new w3 (.cells #[.int .i64 0, .int .i64 0] 27)))
          have hp10 : w4.cell? ⟨w.heap.size, 0, none⟩ = some (.int .i64 pr) := hk4.cell (cell_kept_below hb8' (hk3.cell hg7 (fun h => by have : w.heap.size = r := h; omega))) (fun h => by have : w.heap.size = r := h; omega)
          have hKc : KeepsBut (fun b => b = r ∨ b = w1.heap.size + 1) W6 w4 := HK.out.trans ((KeepsBut.of_below hal).trans ((hk3.mono (fun _ h => .inl h)).trans ((KeepsBut.of_below hb8').trans (hk4.mono (fun _ h => .inl h)))))
          have HKc := Lib.hid hKc
          have Ho10 := Lib.hid ho10
          clear hKc
          have hlk : (k : Int) < p.length := by omega
          cases hv : rightOf pr le mo (sg (lowOf q) a b) (sg (highOf q) a b) with
          | false =>
            clear hs10 hp10
            go_wp2
            go_roundw
            case rel =>
              refine ⟨k + 1, by omega, by simp, HKc.out, ?_, hM4⟩
              rw [Hsn.out, if_neg (show ¬ rightB pr le mo (lowOf q) (highOf q) a b = true by rw [show rightB pr le mo (lowOf q) (highOf q) a b = false from hv]; decide)]
              exact Ho10.out
            case measure => simp [intOf]; omega
          | true =>
            obtain ⟨⟨z1, z2⟩, z3, z4⟩ := Fcs.out.2.2.2.2.1 a b hab hb8
            have z5 := Fcs.out.2.2.2.2.2.1
            have z6 := Fcs.out.2.2.2.2.2.2
            have hw1 : wrap64 ((overTo pr le mo (lowOf q) (highOf q) (boxesOf p) k).1 + sg (lowOf q) a b) = (overTo pr le mo (lowOf q) (highOf q) (boxesOf p) k).1 + sg (lowOf q) a b := IntWalk.wrap64_in _ (by omega)
            have hw2 : wrap64 ((overTo pr le mo (lowOf q) (highOf q) (boxesOf p) k).2 + sg (highOf q) a b) = (overTo pr le mo (lowOf q) (highOf q) (boxesOf p) k).2 + sg (highOf q) a b := IntWalk.wrap64_in _ (by omega)
            have hw3 : wrap64 ((overTo pr le mo (lowOf q) (highOf q) (boxesOf p) k).1 + sg (lowOf q) a b - pr) = (overTo pr le mo (lowOf q) (highOf q) (boxesOf p) k).1 + sg (lowOf q) a b - pr := IntWalk.wrap64_in _ (by omega)
            have hw4 : wrap64 ((overTo pr le mo (lowOf q) (highOf q) (boxesOf p) k).2 + sg (highOf q) a b - pr) = (overTo pr le mo (lowOf q) (highOf q) (boxesOf p) k).2 + sg (highOf q) a b - pr := IntWalk.wrap64_in _ (by omega)
            have co0 := (cell_of_row _ _ 0 _ _ _ ho10).trans rfl
            have co1 := (cell_of_row _ _ 1 _ _ _ ho10).trans rfl
            have cs0 := (cell_of_row _ _ 0 _ _ _ hs10).trans rfl
            have cs1 := (cell_of_row _ _ 1 _ _ _ hs10).trans rfl
            clear hs10 ho10
            go_wp2_with (first
              | (refine wpList_built rfl 27 _ rfl [(0, .int .i64 ((overTo pr le mo (lowOf q) (highOf q) (boxesOf p) k).1 + sg (lowOf q) a b - pr)), (1, .int .i64 ((overTo pr le mo (lowOf q) (highOf q) (boxesOf p) k).2 + sg (highOf q) a b - pr))] (by kernel_rfl) (built27 _ _) ?_)
              | (refine wpList_store_row rfl 27 _ _ rfl (w1.heap.size + 1) #[.int .i64 ((overTo pr le mo (lowOf q) (highOf q) (boxesOf p) k).1 + sg (lowOf q) a b - pr), .int .i64 ((overTo pr le mo (lowOf q) (highOf q) (boxesOf p) k).2 + sg (highOf q) a b - pr)] rfl rfl 27 _ Ho10.out (I27.out _ _) rfl (two_one _ _) ?_))
            go_roundw
            case rel =>
              refine ⟨k + 1, by omega, by simp, HKc.out.trans ⟨rfl, rfl, rfl, by simp, fun j hj hs => setRow_other _ _ _ _ (fun e => hs (.inr e))⟩, ?_, hM4.keep (setRow_other _ _ _ _ (by omega))⟩
              rw [Hsn.out, if_pos (show rightB pr le mo (lowOf q) (highOf q) a b = true from hv)]
              exact setRow_heap _ _ _ _ _ _ Ho10.out
            case measure => simp [intOf]; omega
        · have hkk : k = p.length := by omega
          subst hkk
          have g6 := (hkr.same (w.heap.size + 1) (by omega) (fun h => h.elim (fun h => by have : w.heap.size + 1 = r := h; omega) (fun h => by have : w.heap.size + 1 = w1.heap.size + 1 := h; omega))).trans (below_heap F6.out.1 g7)
          go_wp2_with (first
            | (refine wpList_load_row rfl 27 _ rfl (w1.heap.size + 1) rfl 27 _ (0, 0) _ hout Tryd.underlying27 rfl (I27.out _ _) ?_)
            | (refine wpList_store_row rfl 27 _ _ rfl (w.heap.size + 1) #[.int .i64 (overTo pr le mo (lowOf q) (highOf q) (boxesOf p) p.length).1, .int .i64 (overTo pr le mo (lowOf q) (highOf q) (boxesOf p) p.length).2] rfl rfl 27 _ g6 (I27.out _ _) rfl (two_one _ _) ?_))
          refine bodyPost_ret (v := .tuple #[.agg #[.int .i64 (overTo pr le mo (lowOf q) (highOf q) (boxesOf p) p.length).1, .int .i64 (overTo pr le mo (lowOf q) (highOf q) (boxesOf p) p.length).2], .int .i64 0]) (results_row_tmp Tryd.results29 _ _ (w.heap.size + 1) 27 _ (0, 0) _ rfl (setRow_heap _ _ _ _ _ _ g6) Tryd.underlying27 rfl (I27.out _ _) _ rfl) rfl ?_
          refine ⟨?_, fun h => (by cases h), fun _ h => absurd Hpl.out h, fun _ _ => rfl⟩
          have hwr : Below w.heap.size w wr := ((KeepsBut.of_below (hb2.trans (F6.out.1.mono (by omega)))).trans hkr).below (Nat.le_refl _) (fun j hj => hj.elim (fun h => by have : j = r := h; omega) (fun h => by have : j = w1.heap.size + 1 := h; omega))
          exact below_setRow hwr (by omega) _
    · refine (bad 51 (by decide) (fun W hb => (Pln.out W hb).mono ?_)).mono ?_
      · rintro e W' ⟨h1, _, h3, _⟩
        exact ⟨h3 rfl hpl, h1⟩
      · rintro e W' ⟨rfl, h⟩
        exact ⟨h, fun h => (by cases h), fun _ _ => rfl, fun _ h => absurd h hpl⟩
end Go.Proofs.YtbbdbdamedaldaaDoor.Fl
end
section
namespace Go.Proofs.YtbbdbdamedaldaaDoor.Fl
open Go Go.RowKit Go.Proofs.EqArr Go.Proofs.RngLaw Go.Proofs.CopyN
attribute [local go_sem] Oper.semAt_some
set_option maxRecDepth 100000 in
set_option maxHeartbeats 4000000 in
theorem best_calls (cs : Array Value) (pr le mo gr : Int) (A : Option Addr) (n c : Nat) (l h : Nat → Int) (r : Nat) (hB : BookC cs pr le mo gr A n c l h r) (hn : n ≤ 8) (g1 : 1 ≤ gr) (g4 : gr ≤ 4)
    (b1 : 1 ≤ pr) (b2 : pr ≤ 500) (b3 : 0 ≤ le) (b4 : le ≤ 50) (b5 : 0 ≤ mo) (b6 : mo ≤ 50) (hl : ∀ i, 0 ≤ l i ∧ l i ≤ 200) (hh : ∀ i, 0 ≤ h i ∧ h i ≤ 200)
    (g : Nat) (eg : ∀ args w, (callFunc g args).run Tryd.prog w = .ok (.enter g args) w) (bt : Int → Int → Int → Int → Bool)
    (hbt : ∀ A1 m1 c1 b1 h1 A2 m2 c2 b2 h2 W, 0 ≤ b1 ∧ b1 ≤ 8 → 0 ≤ h1 ∧ h1 ≤ 8 → 0 ≤ b2 ∧ b2 ≤ 8 → 0 ≤ h2 ∧ h2 ≤ 8 →
      Calls Tryd.prog g #[.agg #[.slice A1 m1 c1, .int .i64 b1, .int .i64 h1], .agg #[.slice A2 m2 c2, .int .i64 b2, .int .i64 h2]] W fun e w' => e = .returned (.bool (bt b1 h1 b2 h2)) ∧ Below W.heap.size W w')
    (w : World) (hM : Memo w r (sums l h)) (hL : Laid w) :
    Calls Tryd.prog 86 #[.agg cs, .agg #[.func (.func g) #[] #[]]] w (BestPost bt (handN pr le mo l h) l h r (plansL n gr.toNat) w) := by
  have i74 : (Tryd.prog.info? 74).map (·.size) = some cs.size := by rw [hB.sz]; exact info74
  have hz := run_zero100
  obtain ⟨W5, hW5, hb5, hs5, f0, f1, f2, f3, f4⟩ := five w (.cells cs 74) (.cells #[.func (.func g) #[] #[]] 104) (.cells #[.slice none 0 0, .int .i64 0, .int .i64 0] 100) (.cells #[.slice none 0 0, .int .i64 0, .int .i64 0] 100) (.cells #[.bool true] 4)
  have F5 := Lib.hid (And.intro hb5 (And.intro hs5 (And.intro f0 (And.intro f1 (And.intro f2 (And.intro f3 f4))))))
  have HB := Lib.hid hB
  have HM := Lib.hid hM
  have HL := Lib.hid hL
  have Hbt := Lib.hid hbt
  have Hbk := Lib.hid (And.intro b1 (And.intro b2 (And.intro b3 (And.intro b4 (And.intro b5 (And.intro b6 (And.intro hl (And.intro hh (And.intro hn (And.intro g1 g4))))))))))
  have hrw := hM.lt
  clear hb5 hs5 f0 f1 f2 f3 f4 hB hM hL hbt b1 b2 b3 b4 b5 b6 hl hh hn g1 g4
  refine (callsIn_wide (n := 4)).1 ?_
  refine callsIn_of_wp_marks Tryd.func86 rfl trivial ?_ rfl
  simp only [Tryd.ntmps86, List.size_toArray, List.length_cons, List.length_nil, Nat.reduceAdd, Nat.reduceSub, Array.replicate_succ, Array.replicate_zero, List.push_toArray, List.append_toArray, List.nil_append, List.cons_append]
  gi_wp2_with (first
    | ((try refine ⟨(by first | trivial | (intro h; cases h)), ?_⟩); gi_at_call 97; refine (callsIn_wide.2 (plans_calls _ _)).mono ?_; rintro e w' ⟨rfl, rfl⟩)
    | (refine wpListIn_load_row rfl 74 _ rfl w.heap.size rfl 74 cs (0, 0) _ F5.out.2.2.1 Tryd.underlying74 rfl i74 ?_))
  have hs5e : W5.heap.size = w.heap.size + 5 := by have := F5.out.2.1; omega
  have f5 := Go.heap_alloc_new W5 (.cells cs 74)
  rw [hs5e] at f5 ⊢
  have hb6 : Below W5.heap.size W5 (W5.alloc (.cells cs 74)) := (Below.refl _ _).alloc (Nat.le_refl _) _
  have hs6 : (W5.alloc (.cells cs 74)).heap.size = w.heap.size + 6 := by simp [hs5e]
  have hbw : Below w.heap.size w (W5.alloc (.cells cs 74)) := F5.out.1.trans (hb6.mono F5.out.1.size)
  have hSN : ∀ k, (k = r ∨ k = w.heap.size + 3 ∨ k = w.heap.size + 4) → k < w.heap.size + 6 := fun k hk => by omega
  have hI0 : BestI bt (handN pr le mo l h) l h cs g r w (w.heap.size + 6) [] (W5.alloc (.cells cs 74)) :=
    ⟨KeepsBut.of_below hbw, by omega, below_heap hb6 F5.out.2.2.1, below_heap hb6 F5.out.2.2.2.1, below_heap hb6 F5.out.2.2.2.2.1, ⟨none, 0, 0, 0, 0, below_heap hb6 F5.out.2.2.2.2.2.1, rfl, rfl, rfl, rfl, rfl⟩, below_heap hb6 F5.out.2.2.2.2.2.2, HM.out.keep (hbw.block r hrw)⟩
  generalize hW6 : W5.alloc (.cells cs 74) = W6 at *
  clear hW5 hW6
  have hn1 : 1 ≤ 4 := by omega
  have hsN : w.heap.size + 6 ≤ W6.heap.size := by have := hI0.size; omega
  refine wpIn_rangeFunc_all (S := fun k => k = r ∨ k = w.heap.size + 3 ∨ k = w.heap.size + 4) rfl hn1 (gf := 112) (lb := #[.pointer (some ⟨w.heap.size + 5, 0, none⟩)]) rfl trivial (enters Tryd.func112 (by kernel_rfl) (by kernel_rfl))
    (ElI (· < w.heap.size + 6)) (fun hk hel => ElI.kn hSN hk hel) (BestI bt (handN pr le mo l h) l h cs g r w (w.heap.size + 6)) ?hI (fun k hk => by have := hSN k hk; omega) (plansL n gr.toNat) hI0
    (fun v => { tmps := #[.agg cs, .agg #[.func (.func g) #[] #[]], .pointer (some ⟨w.heap.size, 0, none⟩), .pointer (some ⟨w.heap.size + 1, 0, none⟩), .pointer (some ⟨w.heap.size + 2, 0, none⟩), .pointer (some ⟨w.heap.size + 3, 0, none⟩), .pointer (some ⟨w.heap.size + 4, 0, none⟩), v, undef, undef, undef, .agg cs, .func (.func 112) #[] #[.pointer (some ⟨w.heap.size + 5, 0, none⟩)], v, undef, undef, undef, undef, undef, undef, undef, undef, undef, undef, undef, undef, undef, undef, undef, undef, undef, undef, undef, undef, undef, undef, undef, undef], defers := [] }) ?iter ?assign ?body ?done
  case hI =>
    intro pre W W' hI hk
    exact best_stable hI hrw (by have := hI0.size; omega) hk
  case iter =>
    intro lp W J hb hJ hY hJ0
    refine callsIn_wide.2 (iter_calls cs pr le mo gr A n c l h r HB.out Hbk.out.2.2.2.2.2.2.2.2.1 Hbk.out.2.2.2.2.2.2.2.2.2.1 Hbk.out.2.2.2.2.2.2.2.2.2.2 _ (w.heap.size + 6) hSN (w.heap.size + 5) lp (fun hs => by omega) J hJ hY W (by have := hb.size; omega) (below_heap hb f5) hJ0)
  case assign =>
    intro lp v W K hK
    gi_wp2
    exact hK
  case body =>
    intro lp pre x v W hI hEl hpre
    clear f5 hI0 hbw hb6 hs6 F5
    have hx : x ∈ plansL n gr.toNat := hpre.subset (by simp)
    have hn8 := Hbk.out.2.2.2.2.2.2.2.2.1
    have hpl := plansL_planP Hbk.out.2.2.2.2.2.2.2.2.2.1 x hx
    have hx8 : x.length ≤ 8 := Nat.le_trans (planP_length hpl) hn8
    have HEl := Lib.hid hEl
    obtain ⟨AX, cX, rfl, hrdX, hcX, _, _⟩ := hEl
    have hLW : Laid W := HL.out.keeps HM.out hI.keeps
    have hwf : ∀ i, i < x.length → -9223372036854775808 ≤ x.getD i 0 ∧ x.getD i 0 ≤ 9223372036854775807 := fun i hi => by
      have := (boxB_iff _ _ _ _).1 (hpl.1 i hi)
      omega
    have bxs := (boxes_calls cs pr le mo gr A n c l h r HB.out hn8 AX x.length cX x rfl W hrdX hwf).mono (R' := fun e W' => Below W.heap.size W W' ∧ ∃ A3 c3, e = .returned (.tuple #[.slice A3 x.length c3, .bool true]) ∧ W'.ownsRow W.heap.size 80 2 (.slice A3 x.length c3) (boxesOf x).length (pairCells (boxesOf x))) (by
      rintro e W' ⟨hb, ⟨_, v, rfl, ho⟩ | ⟨hno, _⟩⟩
      · rw [planP_boxes hpl, ← boxesOf_length x] at ho
        obtain ⟨A3, c3, rfl, _⟩ := own_pairs rfl ho
        rw [boxesOf_length] at ho ⊢
        exact ⟨hb, A3, c3, rfl, ho⟩
      · exact absurd hpl hno)
    have hnd := fun W1 A3 c3 (hb : Below W.heap.size W W1) (ho : W1.ownsRow W.heap.size 80 2 (.slice A3 x.length c3) (boxesOf x).length (pairCells (boxesOf x))) =>
      (byHand_calls cs pr le mo gr A n c l h r HB.out Hbk.out.1 Hbk.out.2.1 Hbk.out.2.2.1 Hbk.out.2.2.2.1 Hbk.out.2.2.2.2.1 Hbk.out.2.2.2.2.2.1 Hbk.out.2.2.2.2.2.2.1 Hbk.out.2.2.2.2.2.2.2.1 (boxesOf x) (by rw [boxesOf_length]; exact hx8)
        (fun y hy => ⟨(planP_mem hpl y hy).1, Nat.le_trans (planP_mem hpl y hy).2 hn8⟩) W.heap.size _ W1 ho (hI.memo.keep (hb.block r hI.memo.lt)) (hLW.below hb).1 (hLW.below hb).2).mono
        (R' := fun e W2 => (KeepsBut (· = r) W1 W2 ∧ Memo W2 r (sums l h)) ∧ ∃ A4 m4 c4, e = .returned (.slice A4 m4 c4) ∧ (m4 : Int) = handN pr le mo l h x) (by
          rintro e W2 ⟨hk, hM2, v, rfl, ho2⟩
          obtain ⟨A4, c4, rfl, _⟩ := own_full ho2
          refine ⟨⟨hk, hM2⟩, A4, _, c4, rfl, ?_⟩
          unfold handN
          rw [boxesOf_length])
    have HI := Lib.hid hI
    have Bxs := Lib.hid bxs
    have Hnd := Lib.hid hnd
    have hbk := hI.book
    have hsz := hI.size
    clear bxs hnd hI hLW hwf hrdX hx hpl
    obtain ⟨Ao, mo', co, bo, ho', hoW, hOW⟩ := HI.out.out
    have HOW := Lib.hid (And.intro hoW hOW)
    clear hoW hOW
    have i100 : ∀ (A' : Option Addr) (m' c' : Nat) (b' h'' : Int), (Tryd.prog.info? 100).map (·.size) = some (#[Value.slice A' m' c', .int .i64 b', .int .i64 h''] : Array Value).size := fun _ _ _ _ _ => info100
    have I100 := Lib.hid i100
    clear i100
    have hu100 := Tryd.underlying100
    have hu104 := Tryd.underlying104
    rcases pre with _ | ⟨p0, pre'⟩
    · have hnew : ∀ m4 : Nat, (m4 : Int) = handN pr le mo l h x → OutIs bt (handN pr le mo l h) (w.heap.size + 6) ([] ++ [x]) W AX x.length cX x.length m4 := fun m4 hm => ⟨HEl.out, rfl, hm, by simp⟩
      have Hnew := Lib.hid hnew
      clear hnew
      gi_wp2_with (first
        | (refine wpListIn_load_row rfl 74 _ rfl w.heap.size rfl 74 cs (0, 0) _ hbk Tryd.underlying74 rfl i74 ?_)
        | (refine wpListIn_load_row rfl 74 _ rfl w.heap.size rfl 74 cs (0, 0) _ hbk1 Tryd.underlying74 rfl i74 ?_)
        | ((try refine ⟨(by first | trivial | (intro h; cases h)), ?_⟩); gi_at_call 78; refine (CallsIn.inRound lp (callsIn_wide.2 Bxs.out)).mono ?_; rintro e w1 ⟨hb1, A3, c3, rfl, ho1⟩; have hbk1 := below_heap hb1 hbk; have Ho1 := Lib.hid (And.intro hb1 ho1); clear hb1 ho1)
        | ((try refine ⟨(by first | trivial | (intro h; cases h)), ?_⟩); gi_at_call 81; refine (CallsIn.inRound lp (callsIn_wide.2 (Hnd.out _ _ _ Ho1.out.1 Ho1.out.2))).mono ?_; rintro e w2 ⟨⟨hk2, hM2⟩, A4, m4, c4, rfl, hm4⟩; have Hm4 := Lib.hid hm4; clear hm4; obtain ⟨X, hX, hRX⟩ := round_new Ho1.out.1 hk2 hM2 #[.slice AX x.length cX, .int .i64 x.length, .int .i64 m4]; have HRX := Lib.hid hRX; have hrr := round_rows HI.out hrw hRX.1; have nX := hRX.2.2.1; have q4 : X.cell? ⟨w.heap.size + 4, 0, none⟩ = some (.bool true) := (cell_of_row _ _ 0 _ _ _ hrr.2.1).trans rfl; have o3 := hrr.2.2 _ HOW.out.1; have f4 : (X.setRow (w.heap.size + 3) #[.slice AX x.length cX, .int .i64 x.length, .int .i64 m4]).heap[w.heap.size + 4]? = some (.cells #[.bool true] 4) := (setRow_other _ _ _ _ (by omega)).trans hrr.2.1; have q5 : (X.setRow (w.heap.size + 3) #[.slice AX x.length cX, .int .i64 x.length, .int .i64 m4]).cell? ⟨w.heap.size + 4, 0, none⟩ = some (.bool true) := (cell_of_row _ _ 0 _ _ _ f4).trans rfl; have q6 := frozen_of_row _ _ 0 _ _ f4; clear f4 hrr hk2 hM2 hRX))
      refine ⟨fun _ h => (by cases h), ?_⟩
      gi_wp2_with (first
        | (refine wpListIn_load_row rfl 100 _ rfl w2.heap.size rfl 100 #[.slice AX x.length cX, .int .i64 x.length, .int .i64 m4] (0, 0) _ nX Tryd.underlying100 rfl (I100.out _ _ _ _ _) ?_)
        | (refine wpListIn_store_row rfl 100 _ _ rfl (w.heap.size + 3) #[.slice AX x.length cX, .int .i64 x.length, .int .i64 m4] rfl rfl 100 _ o3 (I100.out _ _ _ _ _) rfl (by simp [Value.oneCell']) ?_))
      exact ⟨trivial, best_end HI.out hrw HRX.out.1 HRX.out.2.1 (Hnew.out m4 Hm4.out)⟩
    · obtain ⟨q, hq⟩ : ∃ q, bestTo bt (handN pr le mo l h) (p0 :: pre') = some q := by
        rcases List.eq_nil_or_concat (p0 :: pre') with h0 | ⟨L, z, h0⟩
        · cases h0
        · rw [h0, List.concat_eq_append]; exact bestTo_some _ _ L z
      have hO := HOW.out.2
      unfold OutIs at hO
      rw [hq] at hO
      obtain ⟨hOe, hObo, hOho, hOm⟩ := hO
      have hqP : planP n gr q := plansL_planP Hbk.out.2.2.2.2.2.2.2.2.2.1 q (((List.prefix_append _ _).trans hpre).subset hOm)
      have hq8 : q.length ≤ 8 := Nat.le_trans (planP_length hqP) hn8
      have hbq : (0 ≤ bo ∧ bo ≤ 8) ∧ (0 ≤ ho' ∧ ho' ≤ 8) := by
        have := handsTo_len (rightB pr le mo l h) (boxesOf q) q.length
        rw [hObo, hOho]
        unfold handN
        omega
      have hbx : ∀ m4 : Nat, (m4 : Int) = handN pr le mo l h x → (0 ≤ (x.length : Int) ∧ (x.length : Int) ≤ 8) ∧ (0 ≤ (m4 : Int) ∧ (m4 : Int) ≤ 8) := fun m4 hm => by
        have := handsTo_len (rightB pr le mo l h) (boxesOf x) x.length
        rw [hm]
        unfold handN
        omega
      have hsn : ∀ m4 : Nat, (m4 : Int) = handN pr le mo l h x → bestTo bt (handN pr le mo l h) ((p0 :: pre') ++ [x]) = if bt x.length m4 bo ho' = true then some x else some q := fun m4 hm => by
        rw [bestTo_snoc, hq, hm, hObo, hOho]
      have hnew : ∀ m4 : Nat, (m4 : Int) = handN pr le mo l h x → bt x.length m4 bo ho' = true → OutIs bt (handN pr le mo l h) (w.heap.size + 6) ((p0 :: pre') ++ [x]) W AX x.length cX x.length m4 := fun m4 hm hb => by
        unfold OutIs
        rw [hsn m4 hm, if_pos hb]
        exact ⟨HEl.out, rfl, hm, by simp⟩
      have hold : ∀ m4 : Nat, (m4 : Int) = handN pr le mo l h x → bt x.length m4 bo ho' = false → bestTo bt (handN pr le mo l h) ((p0 :: pre') ++ [x]) = bestTo bt (handN pr le mo l h) (p0 :: pre') := fun m4 hm hb => by
        rw [hsn m4 hm, hb, hq]
        simp
      have Hq := Lib.hid (And.intro hbq (And.intro hbx (And.intro hnew hold)))
      clear hq hOe hObo hOho hOm hqP hq8 hbq hbx hsn hnew hold
      gi_wp2_with (first
        | (refine wpListIn_load_row rfl 74 _ rfl w.heap.size rfl 74 cs (0, 0) _ hbk Tryd.underlying74 rfl i74 ?_)
        | (refine wpListIn_load_row rfl 74 _ rfl w.heap.size rfl 74 cs (0, 0) _ hbk1 Tryd.underlying74 rfl i74 ?_)
        | ((try refine ⟨(by first | trivial | (intro h; cases h)), ?_⟩); gi_at_call 78; refine (CallsIn.inRound lp (callsIn_wide.2 Bxs.out)).mono ?_; rintro e w1 ⟨hb1, A3, c3, rfl, ho1⟩; have hbk1 := below_heap hb1 hbk; have Ho1 := Lib.hid (And.intro hb1 ho1); clear hb1 ho1)
        | ((try refine ⟨(by first | trivial | (intro h; cases h)), ?_⟩); gi_at_call 81; refine (CallsIn.inRound lp (callsIn_wide.2 (Hnd.out _ _ _ Ho1.out.1 Ho1.out.2))).mono ?_; rintro e w2 ⟨⟨hk2, hM2⟩, A4, m4, c4, rfl, hm4⟩; have Hm4 := Lib.hid hm4; clear hm4; obtain ⟨X, hX, hRX⟩ := round_new Ho1.out.1 hk2 hM2 #[.slice AX x.length cX, .int .i64 x.length, .int .i64 m4]; have HRX := Lib.hid hRX; have hrr := round_rows HI.out hrw hRX.1; have nX := hRX.2.2.1; have q4 : X.cell? ⟨w.heap.size + 4, 0, none⟩ = some (.bool false) := (cell_of_row _ _ 0 _ _ _ hrr.2.1).trans rfl; have o3 := hrr.2.2 _ HOW.out.1; have q1 : X.cell? ⟨w.heap.size + 1, 0, none⟩ = some (.func (.func g) #[] #[]) := (cell_of_row _ _ 0 _ _ _ hrr.1).trans rfl; have n0 := (cell_of_row _ _ 0 _ _ _ nX).trans rfl; have n1 := (cell_of_row _ _ 1 _ _ _ nX).trans rfl; have n2 := (cell_of_row _ _ 2 _ _ _ nX).trans rfl; have u0 := (cell_of_row _ _ 0 _ _ _ o3).trans rfl; have u1 := (cell_of_row _ _ 1 _ _ _ o3).trans rfl; have u2 := (cell_of_row _ _ 2 _ _ _ o3).trans rfl; have Hrr := Lib.hid hrr; clear hrr hk2 hM2 hRX)
        | ((try refine ⟨(by first | trivial | (intro h; cases h)), ?_⟩); refine (CallsIn.inRound lp (callsIn_wide.2 (Hbt.out AX x.length cX x.length m4 Ao mo' co bo ho' X (Hq.out.2.1 m4 Hm4.out).1 (Hq.out.2.1 m4 Hm4.out).2 Hq.out.1.1 Hq.out.1.2))).mono ?_; rintro e w4 ⟨rfl, hb4⟩; have nX4 := below_heap hb4 nX; have o34 := below_heap hb4 o3; have f44 := below_heap hb4 Hrr.out.2.1; have f4 : (w4.setRow (w.heap.size + 3) #[.slice AX x.length cX, .int .i64 x.length, .int .i64 m4]).heap[w.heap.size + 4]? = some (.cells #[.bool false] 4) := (setRow_other _ _ _ _ (by omega)).trans f44; have q5 : (w4.setRow (w.heap.size + 3) #[.slice AX x.length cX, .int .i64 x.length, .int .i64 m4]).cell? ⟨w.heap.size + 4, 0, none⟩ = some (.bool false) := (cell_of_row _ _ 0 _ _ _ f4).trans rfl; have q6 := frozen_of_row _ _ 0 _ _ f4; clear f4 f44; have Hb4 := Lib.hid hb4; clear hb4; cases hbv : bt x.length m4 bo ho')
        | (refine wpListIn_load_row rfl 100 _ rfl w2.heap.size rfl 100 #[.slice AX x.length cX, .int .i64 x.length, .int .i64 m4] (0, 0) _ nX4 Tryd.underlying100 rfl (I100.out _ _ _ _ _) ?_)
        | (refine wpListIn_store_row rfl 100 _ _ rfl (w.heap.size + 3) #[.slice AX x.length cX, .int .i64 x.length, .int .i64 m4] rfl rfl 100 _ o34 (I100.out _ _ _ _ _) rfl (by simp [Value.oneCell']) ?_))
      · exact ⟨trivial, best_keep HI.out hrw (HRX.out.1.trans (KeepsBut.of_below Hb4.out)) (HRX.out.2.1.keep (Hb4.out.block r HRX.out.2.1.lt)) (by simp) (Hq.out.2.2.2 m4 Hm4.out hbv)⟩
      · exact ⟨trivial, best_end HI.out hrw (HRX.out.1.trans (KeepsBut.of_below Hb4.out)) (HRX.out.2.1.keep (Hb4.out.block r HRX.out.2.1.lt)) (Hq.out.2.2.1 m4 Hm4.out hbv)⟩
  case done =>
    intro D W hD hI hK
    clear f5 hI0 hbw hb6 hs6 F5
    obtain ⟨Ao, mo', co, bo, ho', hoW, hOW⟩ := hI.out
    have i100 : ∀ (A' : Option Addr) (m' c' : Nat) (b' h'' : Int), (Tryd.prog.info? 100).map (·.size) = some (#[Value.slice A' m' c', .int .i64 b', .int .i64 h''] : Array Value).size := fun _ _ _ _ _ => info100
    have I100 := Lib.hid i100
    have HI := Lib.hid (And.intro hI (And.intro hOW hK))
    have hsz := hI.size
    have hrs := hI.res
    have hKr : (W.setRow (w.heap.size + 2) #[.slice Ao mo' co, .int .i64 bo, .int .i64 ho']).heap[D]? = some (.deferred (some [])) := (setRow_other _ _ _ _ (by have := hsN; omega)).trans hK
    clear i100 hOW hI hK
    gi_wp2_with (first
      | (refine wpListIn_load_row rfl 100 _ rfl (w.heap.size + 3) rfl 100 #[.slice Ao mo' co, .int .i64 bo, .int .i64 ho'] (0, 0) _ hoW Tryd.underlying100 rfl (I100.out _ _ _ _ _) ?_)
      | (refine wpListIn_store_row rfl 100 _ _ rfl (w.heap.size + 2) #[.slice Ao mo' co, .int .i64 bo, .int .i64 ho'] rfl rfl 100 _ hrs (I100.out _ _ _ _ _) rfl (by simp [Value.oneCell']) ?_))
    refine ⟨by simp, .inl ⟨_, _, rfl, run_takeDeferred hKr, ?_⟩⟩
    have hoth : ∀ k, k ≠ w.heap.size + 2 → k ≠ D → ((W.setRow (w.heap.size + 2) #[.slice Ao mo' co, .int .i64 bo, .int .i64 ho']).putObj D (.deferred none)).heap[k]? = W.heap[k]? := fun k h2 hD' => (World.putObj_heap_other hD').trans (setRow_other _ _ _ _ (by omega))
    have hsz2 : W.heap.size ≤ ((W.setRow (w.heap.size + 2) #[.slice Ao mo' co, .int .i64 bo, .int .i64 ho']).putObj D (.deferred none)).heap.size := by simp
    have hrow : ((W.setRow (w.heap.size + 2) #[.slice Ao mo' co, .int .i64 bo, .int .i64 ho']).putObj D (.deferred none)).heap[w.heap.size + 2]? = some (.cells #[.slice Ao mo' co, .int .i64 bo, .int .i64 ho'] 100) := (World.putObj_heap_other (by omega)).trans (setRow_heap _ _ _ _ _ _ hrs)
    have hkp := HI.out.1.keeps
    have hkk : KeepsBut (fun k => k = w.heap.size + 2 ∨ ∃ o : Obj, W.heap[k]? = some o ∧ o.isCells = false) W ((W.setRow (w.heap.size + 2) #[.slice Ao mo' co, .int .i64 bo, .int .i64 ho']).putObj D (.deferred none)) :=
      ⟨rfl, rfl, rfl, hsz2, fun k _ hs => hoth k (fun e => hs (.inl e)) (fun e => hs (.inr ⟨_, e ▸ HI.out.2.2, rfl⟩))⟩
    refine ⟨_, results_cell_row Tryd.results86 _ _ (w.heap.size + 2) 100 _ (0, 0) _ rfl hrow Tryd.underlying100 rfl (I100.out _ _ _ _ _), ?_⟩
    refine ⟨⟨hkp.os, hkp.tape, hkp.output, Nat.le_trans hkp.size hsz2, fun k hk1 hk2 => (hoth k (by omega) (by omega)).trans (hkp.same k hk1 hk2)⟩, HI.out.1.memo.keep (hoth r (by omega) (by omega)), Ao, mo', co, bo, ho', w.heap.size + 6, by omega, ?_, rfl⟩
    exact OutIs.kn (S := fun k => k = w.heap.size + 2) (fun k hk => by omega) hkk HI.out.2.1
end Go.Proofs.YtbbdbdamedaldaaDoor.Fl
end
