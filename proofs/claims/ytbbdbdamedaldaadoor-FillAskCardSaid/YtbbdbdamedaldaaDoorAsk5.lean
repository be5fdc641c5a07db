/- The card of FillAsk: the row, its listed variable tied to the program's text. Whatever the input, the law returns true, and each argument reads afterwards as it did. (part 6) -/
import Derived.Laws.CopyOwn
import Derived.Laws.ResultCell
import Derived.Test.YtbbdbdamedaldaaDoorAsk4
set_option linter.unusedVariables false
set_option linter.unusedSimpArgs false
section
namespace Go.Proofs.YtbbdbdamedaldaaDoor.Fl
open Go Go.RowKit Go.Proofs.EqArr Go.Proofs.RngLaw Go.Proofs.CopyN
def bookCells (pr le mo gr : Int) (A : Option Addr) (n c : Nat) (r : Nat) : Array Value := #[.int .i64 pr, .int .i64 le, .int .i64 mo, .int .i64 gr, .slice A n c, .int .i64 0, .int .i64 0, .int .i64 0, .int .i64 0, .int .i64 0, .int .i64 0, .int .i64 0, .int .i64 0, .int .i64 0, .int .i64 0, .int .i64 0, .int .i64 0, .int .i64 0, .int .i64 0, .int .i64 0, .int .i64 0, .map (some r)]
def z22 : Array Value := #[.int .i64 0, .int .i64 0, .int .i64 0, .int .i64 0, .slice none 0 0, .int .i64 0, .int .i64 0, .int .i64 0, .int .i64 0, .int .i64 0, .int .i64 0, .int .i64 0, .int .i64 0, .int .i64 0, .int .i64 0, .int .i64 0, .int .i64 0, .int .i64 0, .int .i64 0, .int .i64 0, .int .i64 0, .map none]
theorem bookCells_one (pr le mo gr : Int) (A : Option Addr) (n c : Nat) (r : Nat) : (bookCells pr le mo gr A n c r).all (·.oneCell') = true := by simp [bookCells, Value.oneCell']
theorem built74 (pr le mo gr : Int) (A : Option Addr) (n c : Nat) (r : Nat) : Tryd.prog.built 74 [(0, .agg #[.int .i64 pr, .int .i64 le, .int .i64 mo, .int .i64 gr, .slice A n c]), (1, .agg zeros16), (2, .map (some r))] = some (bookCells pr le mo gr A n c r) := by kernel_rfl
theorem run_zero74 (w : World) : (zeroValue 74).run Tryd.prog w = .ok (.agg z22) w := by
  have h : (Tryd.prog.info? 74).map (·.zero) = some (some (.agg z22)) := by kernel_rfl
  cases hq : Tryd.prog.info? 74 with
  | none => simp [hq] at h
  | some i => simp [hq] at h; simp [zeroValue, typeInfo, hq, h]
theorem info24 : (Tryd.prog.info? 24).map (·.size) = some 5 := by kernel_rfl
theorem yieldsIf_build {P : Program} {ops : Array Oper} {S : World → Prop} {op : Oper} {a : Act} (hw : Region.wanted op (yielded ops a.tmps) = true) (t : TypeId) (parts : Array (Nat × Operand)) (ho : op.op = .build t parts)
    (vs : List (Nat × Value)) (hp : (parts.map fun (i, x) => (i, a.eval x)).toList = vs) {cells : Array Value} (h : P.built t vs = some cells) : YieldsIf P ops S op (.agg cells) a :=
  .inl ⟨hw, fun w _ => by
    have hrun := run_build (P := P) w t (parts.map fun (i, x) => (i, a.eval x)) cells (by rw [hp]; exact h)
    unfold execOp
    simp only [ho, Sem.run_bind, hrun, Result.andThen_ok, Sem.run_pure]⟩
theorem below_heap {W W' : World} (hb : Below W.heap.size W W') {k : Nat} {o : Obj} (h : W.heap[k]? = some o) : W'.heap[k]? = some o :=
  (hb.block k (Array.getElem?_eq_some_iff.1 h).1).trans h
structure OpCut (w : World) (pr le mo gr : Int) (A : Option Addr) (n c B r : Nat) (wx : World) : Prop where
  book : wx.heap[B]? = some (.cells (bookCells pr le mo gr A n c r) 74)
  map : wx.heap[r]? = some (.map #[] 0)
  below : Below w.heap.size w wx
  hB : w.heap.size + 1 < B
  hr : w.heap.size + 1 < r
  hne : B ≠ r
  res : wx.heap[w.heap.size + 1]? = some (.cells z22 74)
  arg : wx.heap[w.heap.size]? = some (.cells #[.int .i64 pr, .int .i64 le, .int .i64 mo, .int .i64 gr, .slice A n c] 24)
def hcells (q : List (Int × Int)) : List Value := q.flatMap fun x => [.int .i64 x.1, .int .i64 x.2]
theorem hcells_length (q : List (Int × Int)) : (hcells q).length = 2 * q.length := by
  induction q with
  | nil => rfl
  | cons x q ih => simp only [hcells, List.flatMap_cons, List.length_append, List.length_cons, List.length_nil] at ih ⊢; omega
theorem hcells_at : ∀ (q : List (Int × Int)) (i : Nat), i < q.length → (hcells q)[2 * i]? = some (.int .i64 (q.getD i (0, 0)).1) ∧ (hcells q)[2 * i + 1]? = some (.int .i64 (q.getD i (0, 0)).2)
  | x :: q, 0, _ => by simp [hcells]
  | x :: q, i + 1, hi => by
    have := hcells_at q i (by simpa using hi)
    simpa [hcells, Nat.mul_add] using this
theorem hcells_one (q : List (Int × Int)) : ∀ v ∈ hcells q, v.oneCell' = true := by
  intro v hv
  simp only [hcells, List.mem_flatMap] at hv
  obtain ⟨x, _, hv⟩ := hv
  simp at hv
  rcases hv with rfl | rfl <;> rfl
def RdH (W : World) (A : Option Addr) (q : List (Int × Int)) : Prop := 0 < (hcells q).length → ∃ a, A = some a ∧ ∀ j v, (hcells q)[j]? = some v → W.cell? (a.add j) = some v
theorem RdH.below {W W' : World} {A : Option Addr} {q : List (Int × Int)} (h : RdH W A q) (hb : Below W.heap.size W W') : RdH W' A q := fun hp => by
  obtain ⟨a, e, hc⟩ := h hp
  refine ⟨a, e, fun j v hv => (hb.cell (World.block_lt_of_cell? W _ (hc j v hv))).trans (hc j v hv)⟩
def openCells (pr le mo gr : Int) (A : Option Addr) (n c : Nat) (q : List (Int × Int)) (r : Nat) : Array Value :=
  ((bookCells pr le mo gr A n c r).toList.take 5 ++ hcells q ++ (bookCells pr le mo gr A n c r).toList.drop (5 + (hcells q).length)).toArray
def lowOf (q : List (Int × Int)) (i : Nat) : Int := (q.getD i (0, 0)).1
def highOf (q : List (Int × Int)) (i : Nat) : Int := (q.getD i (0, 0)).2
theorem bookCells_size (pr le mo gr : Int) (A : Option Addr) (n c : Nat) (r : Nat) : (bookCells pr le mo gr A n c r).toList.length = 22 := rfl
theorem openCells_at (pr le mo gr : Int) (A : Option Addr) (n c : Nat) (q : List (Int × Int)) (r : Nat) (hq : q.length ≤ 8) (k : Nat) :
    (openCells pr le mo gr A n c q r)[k]? = if k < 5 then (bookCells pr le mo gr A n c r)[k]? else if k < 5 + 2 * q.length then (hcells q)[k - 5]? else (bookCells pr le mo gr A n c r)[k]? := by
  have hs := bookCells_size pr le mo gr A n c r
  have hl := hcells_length q
  unfold openCells
  rw [List.getElem?_toArray]
  by_cases h1 : k < 5
  · rw [if_pos h1, List.append_assoc, List.getElem?_append_left (by rw [List.length_take, hs]; omega), List.getElem?_take, if_pos h1, Array.getElem?_toList]
  · rw [if_neg h1]
    by_cases h2 : k < 5 + 2 * q.length
    · rw [if_pos h2, List.getElem?_append_left (by rw [List.length_append, List.length_take, hs]; omega), List.getElem?_append_right (by rw [List.length_take, hs]; omega), List.length_take, hs]
      rfl
    · rw [if_neg h2, List.getElem?_append_right (by rw [List.length_append, List.length_take, hs]; omega), List.length_append, List.length_take, hs, List.getElem?_drop, hl, ← Array.getElem?_toList]
      congr 1
      omega
theorem openCells_size (pr le mo gr : Int) (A : Option Addr) (n c : Nat) (q : List (Int × Int)) (r : Nat) (hq : q.length ≤ 8) : (openCells pr le mo gr A n c q r).size = 22 := by
  have hs := bookCells_size pr le mo gr A n c r
  have hl := hcells_length q
  unfold openCells
  simp only [List.size_toArray, List.length_append, List.length_take, List.length_drop, hs, hl]
  omega
theorem openCells_bookC (pr le mo gr : Int) (A : Option Addr) (n c : Nat) (q : List (Int × Int)) (r : Nat) (hq : q.length ≤ 8) : BookC (openCells pr le mo gr A n c q r) pr le mo gr A n c (lowOf q) (highOf q) r := by
  refine ⟨openCells_size _ _ _ _ _ _ _ _ _ hq, ?_, ?_, ?_, ?_, ?_, fun i hi => ?_, fun i hi => ?_, ?_⟩
  · rw [openCells_at _ _ _ _ _ _ _ _ _ hq]; rfl
  · rw [openCells_at _ _ _ _ _ _ _ _ _ hq]; rfl
  · rw [openCells_at _ _ _ _ _ _ _ _ _ hq]; rfl
  · rw [openCells_at _ _ _ _ _ _ _ _ _ hq]; rfl
  · rw [openCells_at _ _ _ _ _ _ _ _ _ hq]; rfl
  · rw [openCells_at _ _ _ _ _ _ _ _ _ hq, if_neg (by omega)]
    by_cases h : i < q.length
    · rw [if_pos (by omega), show 5 + 2 * i - 5 = 2 * i by omega]
      exact (hcells_at q i h).1
    · have h0 : lowOf q i = 0 := by simp [lowOf, List.getD_eq_getElem?_getD, List.getElem?_eq_none (Nat.le_of_not_lt h)]
      rw [if_neg (by omega), h0]
      match i, hi with
      | 0, _ => rfl
      | 1, _ => rfl
      | 2, _ => rfl
      | 3, _ => rfl
      | 4, _ => rfl
      | 5, _ => rfl
      | 6, _ => rfl
      | 7, _ => rfl
  · rw [openCells_at _ _ _ _ _ _ _ _ _ hq, if_neg (by omega)]
    by_cases h : i < q.length
    · rw [if_pos (by omega), show 6 + 2 * i - 5 = 2 * i + 1 by omega]
      exact (hcells_at q i h).2
    · have h0 : highOf q i = 0 := by simp [highOf, List.getD_eq_getElem?_getD, List.getElem?_eq_none (Nat.le_of_not_lt h)]
      rw [if_neg (by omega), h0]
      match i, hi with
      | 0, _ => rfl
      | 1, _ => rfl
      | 2, _ => rfl
      | 3, _ => rfl
      | 4, _ => rfl
      | 5, _ => rfl
      | 6, _ => rfl
      | 7, _ => rfl
  · rw [openCells_at _ _ _ _ _ _ _ _ _ hq, if_neg (by omega), if_neg (by omega)]; rfl
theorem openCells_one (pr le mo gr : Int) (A : Option Addr) (n c : Nat) (q : List (Int × Int)) (r : Nat) : (openCells pr le mo gr A n c q r).all (·.oneCell') = true := by
  have hb : ∀ v ∈ (bookCells pr le mo gr A n c r).toList, v.oneCell' = true := by simp [bookCells, Value.oneCell']
  rw [← Array.all_toList, List.all_eq_true]
  intro v hv
  unfold openCells at hv
  simp only [List.mem_append] at hv
  rcases hv with (hv | hv) | hv
  · exact hb v (List.mem_of_mem_take hv)
  · exact hcells_one q v hv
  · exact hb v (List.mem_of_mem_drop hv)
def OpenPost (w : World) (pr le mo gr : Int) (A : Option Addr) (c : Nat) (q : List (Int × Int)) (e : Ending) (w' : World) : Prop :=
  ∃ r, e = .returned (.agg (openCells pr le mo gr A q.length c q r)) ∧ Below w.heap.size w w' ∧ w'.heap[r]? = some (.map #[] 0) ∧ w.heap.size ≤ r
structure OpCut2 (w : World) (pr le mo gr : Int) (A : Option Addr) (c B r : Nat) (q : List (Int × Int)) (wx : World) : Prop where
  book : wx.heap[B]? = some (.cells (openCells pr le mo gr A q.length c q r) 74)
  map : wx.heap[r]? = some (.map #[] 0)
  below : Below w.heap.size w wx
  hr : w.heap.size + 1 < r
  res : wx.heap[w.heap.size + 1]? = some (.cells z22 74)
set_option maxRecDepth 100000 in
set_option maxHeartbeats 4000000 in
theorem opened_calls (pr le mo gr : Int) (A : Option Addr) (n c : Nat) (q : List (Int × Int)) (hn : n = q.length) (hq : q.length ≤ 8) (w : World) (hrd : RdH w A q) :
    Calls Tryd.prog 77 #[.agg #[.int .i64 pr, .int .i64 le, .int .i64 mo, .int .i64 gr, .slice A n c]] w (OpenPost w pr le mo gr A c q) := by
  have hnn := Lib.hid hn
  clear hn
  have hz := run_zero74
  have hmm := @run_makeMap Tryd.prog
  have i24 : (Tryd.prog.info? 24).map (·.size) = some (#[Value.int .i64 pr, .int .i64 le, .int .i64 mo, .int .i64 gr, .slice A n c] : Array Value).size := info24
  have i74 : (Tryd.prog.info? 74).map (·.size) = some (bookCells pr le mo gr A n c 0).size := info74
  go_enter Tryd.func77, Tryd.ntmps77
  go_upto_region 1 with fail
  go_cut [3] (fun v3 wx => ∃ B r, v3 = .pointer (some ⟨B, 0, none⟩) ∧ OpCut w pr le mo gr A n c B r wx)
  case first =>
    refine wp_region_held_drew (S := fun W => W.heap[w.heap.size]? = some (.cells #[.int .i64 pr, .int .i64 le, .int .i64 mo, .int .i64 gr, .slice A n c] 24)) (by kernel_rfl) (heap_alloc2_old _ _ _) (fun hS => ?_)
    refine wpAnyH_take (i := 0) (oi := _) (v := .agg #[.int .i64 pr, .int .i64 le, .int .i64 mo, .int .i64 gr, .slice A n c]) rfl (by kernel_rfl) (by kernel_rfl) (by kernel_rfl) (fun _ _ _ h => h) (yieldsIf_load_row (by rfl) _ _ rfl _ rfl _ _ (0, 0) _ (fun W hW => hW) Tryd.underlying24 rfl i24) (by assumption) ?_
    simp only [Act.put, List.getElem_toArray, List.getElem_cons_succ, List.getElem_cons_zero, List.setIfInBounds_toArray, List.set_cons_zero, List.set_cons_succ]
    obtain ⟨w0, hw0⟩ : ∃ W, W = ((w.alloc (.cells #[.int .i64 pr, .int .i64 le, .int .i64 mo, .int .i64 gr, .slice A n c] 24)).alloc (.cells z22 74)).drew := ⟨_, rfl⟩
    have hN : w0.heap[w.heap.size]? = some (.cells #[.int .i64 pr, .int .i64 le, .int .i64 mo, .int .i64 gr, .slice A n c] 24) := by rw [hw0]; exact heap_alloc2_old _ _ _
    have hR : w0.heap[w.heap.size + 1]? = some (.cells z22 74) := by rw [hw0]; exact heap_alloc2_new _ _ _
    have hbS : Below w.heap.size w w0 := by rw [hw0]; exact (((Below.refl _ _).alloc (Nat.le_refl _) _).alloc (by simp) _).drew
    have hs0 : w0.heap.size ≤ w.heap.size + 2 ∧ w.heap.size + 2 ≤ w0.heap.size := by rw [hw0]; simp [World.drew]
    rw [← hw0]
    clear hw0 hS
    refine wpAnyH_ready (rs := [1, 2, 4]) (by kernel_rfl) (by simp) ?_
    refine AllReadyH.cons rfl (fun K hK => ?_) ?_
    · skip
      go_simp
      refine (empty_calls _).mono ?_
      rintro e w1 ⟨rfl, hx1⟩
      have hs1 := hx1.size
      have fN1 := below_heap hx1 hN
      have fR1 := below_heap hx1 hR
      have hb1 := hbS.trans (hx1.mono (Nat.le_trans hbS.size (Nat.le_refl _)))
      refine hK.out _ _ fN1 (fun _ => ?_)
      clear hK K
      refine wpAnyH_ready (rs := [2, 4]) (by kernel_rfl) (by simp) ?_
      refine AllReadyH.cons rfl (fun K hK => ?_) ?_
      · skip
        go_simp
        obtain ⟨w2, hw2⟩ : ∃ W, W = w1.alloc (.map #[] 0) := ⟨_, rfl⟩
        have hx2 : Below w1.heap.size w1 w2 := by rw [hw2]; exact (Below.refl _ _).alloc (Nat.le_refl _) _
        have hs2 : w2.heap.size ≤ w1.heap.size + 1 ∧ w1.heap.size + 1 ≤ w2.heap.size := by rw [hw2]; simp
        have fr2 : w2.heap[w1.heap.size]? = some (.map #[] 0) := by rw [hw2]; exact Go.heap_alloc_new _ _
        have fN2 := below_heap hx2 fN1
        have fR2 := below_heap hx2 fR1
        have hb2 := hb1.trans (hx2.mono (Nat.le_trans hb1.size (Nat.le_refl _)))
        rw [← hw2]
        clear hw2
        refine hK.out _ _ fN2 (fun _ => ?_)
        clear hK K
        refine wpAnyH_take (i := 3) (oi := _) (v := .agg (bookCells pr le mo gr A n c (w1.heap.size))) rfl (by kernel_rfl) (by kernel_rfl) (by kernel_rfl) (fun _ _ _ h => h) (yieldsIf_build (by rfl) _ _ rfl [(0, .agg #[.int .i64 pr, .int .i64 le, .int .i64 mo, .int .i64 gr, .slice A n c]), (1, .agg zeros16), (2, .map (some (w1.heap.size)))] (by kernel_rfl) (built74 pr le mo gr A n c (w1.heap.size))) fN2 ?_
        simp only [Act.put, List.getElem_toArray, List.getElem_cons_succ, List.getElem_cons_zero, List.setIfInBounds_toArray, List.set_cons_zero, List.set_cons_succ]
        refine wpAnyH_ready (rs := [4]) (by kernel_rfl) (by simp) ?_
        refine AllReadyH.cons rfl (fun K hK => ?_) AllReadyH.nil
        · skip
          go_simp
          obtain ⟨w3, hw3⟩ : ∃ W, W = w2.alloc (.cells z22 74) := ⟨_, rfl⟩
          have hx3 : Below w2.heap.size w2 w3 := by rw [hw3]; exact (Below.refl _ _).alloc (Nat.le_refl _) _
          have hs3 : w3.heap.size ≤ w2.heap.size + 1 ∧ w2.heap.size + 1 ≤ w3.heap.size := by rw [hw3]; simp
          have fB3 : w3.heap[w2.heap.size]? = some (.cells z22 74) := by rw [hw3]; exact Go.heap_alloc_new _ _
          have fN3 := below_heap hx3 fN2
          have fr3 := below_heap hx3 fr2
          have fR3 := below_heap hx3 fR2
          have hb3 := hb2.trans (hx3.mono (Nat.le_trans hb2.size (Nat.le_refl _)))
          rw [← hw3]
          clear hw3
          refine hK.out _ _ fN3 (fun _ => ?_)
          clear hK K
          refine wpAnyH_ready (rs := [5]) (by kernel_rfl) (by simp) ?_
          refine AllReadyH.cons rfl (fun K hK => ?_) AllReadyH.nil
          rw [if_pos (by rfl)]
          refine wp_store_row 74 _ _ rfl _ (bookCells pr le mo gr A n c (w1.heap.size)) rfl rfl 74 z22 fB3 i74 rfl (bookCells_one _ _ _ _ _ _ _ _) ?_
          refine hK.out _ _ ?_ (fun hS => ?_)
          · rw [setRow_other _ _ _ _ (by omega)]; exact fN3
          clear hK K
          refine wpAnyH_done (by kernel_rfl) ?_ _
          (try simp only [Act.put])
          go_wp2_with fail
          go_meet
          have hbs := hb3.size
          refine ⟨_, w1.heap.size, rfl, ?_⟩
          exact ⟨setRow_heap _ _ _ _ _ _ fB3, (setRow_other _ _ _ _ (by omega)).trans fr3, below_setRow hb3 (by omega) _, by omega, by omega, by omega, (setRow_other _ _ _ _ (by omega)).trans fR3, (setRow_other _ _ _ _ (by omega)).trans fN3⟩
      refine AllReadyH.cons rfl (fun K hK => ?_) AllReadyH.nil
      · skip
        go_simp
        obtain ⟨w4, hw4⟩ : ∃ W, W = w1.alloc (.cells z22 74) := ⟨_, rfl⟩
        have hx4 : Below w1.heap.size w1 w4 := by rw [hw4]; exact (Below.refl _ _).alloc (Nat.le_refl _) _
        have hs4 : w4.heap.size ≤ w1.heap.size + 1 ∧ w1.heap.size + 1 ≤ w4.heap.size := by rw [hw4]; simp
        have fB4 : w4.heap[w1.heap.size]? = some (.cells z22 74) := by rw [hw4]; exact Go.heap_alloc_new _ _
        have fN4 := below_heap hx4 fN1
        have fR4 := below_heap hx4 fR1
        have hb4 := hb1.trans (hx4.mono (Nat.le_trans hb1.size (Nat.le_refl _)))
        rw [← hw4]
        clear hw4
        refine hK.out _ _ fN4 (fun _ => ?_)
        clear hK K
        refine wpAnyH_ready (rs := [2]) (by kernel_rfl) (by simp) ?_
        refine AllReadyH.cons rfl (fun K hK => ?_) AllReadyH.nil
        · skip
          go_simp
          obtain ⟨w5, hw5⟩ : ∃ W, W = w4.alloc (.map #[] 0) := ⟨_, rfl⟩
          have hx5 : Below w4.heap.size w4 w5 := by rw [hw5]; exact (Below.refl _ _).alloc (Nat.le_refl _) _
          have hs5 : w5.heap.size ≤ w4.heap.size + 1 ∧ w4.heap.size + 1 ≤ w5.heap.size := by rw [hw5]; simp
          have fr5 : w5.heap[w4.heap.size]? = some (.map #[] 0) := by rw [hw5]; exact Go.heap_alloc_new _ _
          have fN5 := below_heap hx5 fN4
          have fB5 := below_heap hx5 fB4
          have fR5 := below_heap hx5 fR4
          have hb5 := hb4.trans (hx5.mono (Nat.le_trans hb4.size (Nat.le_refl _)))
          rw [← hw5]
          clear hw5
          refine hK.out _ _ fN5 (fun _ => ?_)
          clear hK K
          refine wpAnyH_take (i := 3) (oi := _) (v := .agg (bookCells pr le mo gr A n c (w4.heap.size))) rfl (by kernel_rfl) (by kernel_rfl) (by kernel_rfl) (fun _ _ _ h => h) (yieldsIf_build (by rfl) _ _ rfl [(0, .agg #[.int .i64 pr, .int .i64 le, .int .i64 mo, .int .i64 gr, .slice A n c]), (1, .agg zeros16), (2, .map (some (w4.heap.size)))] (by kernel_rfl) (built74 pr le mo gr A n c (w4.heap.size))) fN5 ?_
          simp only [Act.put, List.getElem_toArray, List.getElem_cons_succ, List.getElem_cons_zero, List.setIfInBounds_toArray, List.set_cons_zero, List.set_cons_succ]
          refine wpAnyH_ready (rs := [5]) (by kernel_rfl) (by simp) ?_
          refine AllReadyH.cons rfl (fun K hK => ?_) AllReadyH.nil
          rw [if_pos (by rfl)]
          refine wp_store_row 74 _ _ rfl _ (bookCells pr le mo gr A n c (w4.heap.size)) rfl rfl 74 z22 fB5 i74 rfl (bookCells_one _ _ _ _ _ _ _ _) ?_
          refine hK.out _ _ ?_ (fun hS => ?_)
          · rw [setRow_other _ _ _ _ (by omega)]; exact fN5
          clear hK K
          refine wpAnyH_done (by kernel_rfl) ?_ _
          (try simp only [Act.put])
          go_wp2_with fail
          go_meet
          have hbs := hb5.size
          refine ⟨_, w4.heap.size, rfl, ?_⟩
          exact ⟨setRow_heap _ _ _ _ _ _ fB5, (setRow_other _ _ _ _ (by omega)).trans fr5, below_setRow hb5 (by omega) _, by omega, by omega, by omega, (setRow_other _ _ _ _ (by omega)).trans fR5, (setRow_other _ _ _ _ (by omega)).trans fN5⟩
    refine AllReadyH.cons rfl (fun K hK => ?_) ?_
    · skip
      go_simp
      obtain ⟨w6, hw6⟩ : ∃ W, W = w0.alloc (.map #[] 0) := ⟨_, rfl⟩
      have hx6 : Below w0.heap.size w0 w6 := by rw [hw6]; exact (Below.refl _ _).alloc (Nat.le_refl _) _
      have hs6 : w6.heap.size ≤ w0.heap.size + 1 ∧ w0.heap.size + 1 ≤ w6.heap.size := by rw [hw6]; simp
      have fr6 : w6.heap[w0.heap.size]? = some (.map #[] 0) := by rw [hw6]; exact Go.heap_alloc_new _ _
      have fN6 := below_heap hx6 hN
      have fR6 := below_heap hx6 hR
      have hb6 := hbS.trans (hx6.mono (Nat.le_trans hbS.size (Nat.le_refl _)))
      rw [← hw6]
      clear hw6
      refine hK.out _ _ fN6 (fun _ => ?_)
      clear hK K
      refine wpAnyH_ready (rs := [1, 4]) (by kernel_rfl) (by simp) ?_
      refine AllReadyH.cons rfl (fun K hK => ?_) ?_
      · skip
        go_simp
        refine (empty_calls _).mono ?_
        rintro e w7 ⟨rfl, hx7⟩
        have hs7 := hx7.size
        have fN7 := below_heap hx7 fN6
        have fr7 := below_heap hx7 fr6
        have fR7 := below_heap hx7 fR6
        have hb7 := hb6.trans (hx7.mono (Nat.le_trans hb6.size (Nat.le_refl _)))
        refine hK.out _ _ fN7 (fun _ => ?_)
        clear hK K
        refine wpAnyH_take (i := 3) (oi := _) (v := .agg (bookCells pr le mo gr A n c (w0.heap.size))) rfl (by kernel_rfl) (by kernel_rfl) (by kernel_rfl) (fun _ _ _ h => h) (yieldsIf_build (by rfl) _ _ rfl [(0, .agg #[.int .i64 pr, .int .i64 le, .int .i64 mo, .int .i64 gr, .slice A n c]), (1, .agg zeros16), (2, .map (some (w0.heap.size)))] (by kernel_rfl) (built74 pr le mo gr A n c (w0.heap.size))) fN7 ?_
        simp only [Act.put, List.getElem_toArray, List.getElem_cons_succ, List.getElem_cons_zero, List.setIfInBounds_toArray, List.set_cons_zero, List.set_cons_succ]
        refine wpAnyH_ready (rs := [4]) (by kernel_rfl) (by simp) ?_
        refine AllReadyH.cons rfl (fun K hK => ?_) AllReadyH.nil
        · skip
          go_simp
          obtain ⟨w8, hw8⟩ : ∃ W, W = w7.alloc (.cells z22 74) := ⟨_, rfl⟩
          have hx8 : Below w7.heap.size w7 w8 := by rw [hw8]; exact (Below.refl _ _).alloc (Nat.le_refl _) _
          have hs8 : w8.heap.size ≤ w7.heap.size + 1 ∧ w7.heap.size + 1 ≤ w8.heap.size := by rw [hw8]; simp
          have fB8 : w8.heap[w7.heap.size]? = some (.cells z22 74) := by rw [hw8]; exact Go.heap_alloc_new _ _
          have fN8 := below_heap hx8 fN7
          have fr8 := below_heap hx8 fr7
          have fR8 := below_heap hx8 fR7
          have hb8 := hb7.trans (hx8.mono (Nat.le_trans hb7.size (Nat.le_refl _)))
          rw [← hw8]
          clear hw8
          refine hK.out _ _ fN8 (fun _ => ?_)
          clear hK K
          refine wpAnyH_ready (rs := [5]) (by kernel_rfl) (by simp) ?_
          refine AllReadyH.cons rfl (fun K hK => ?_) AllReadyH.nil
          rw [if_pos (by rfl)]
          refine wp_store_row 74 _ _ rfl _ (bookCells pr le mo gr A n c (w0.heap.size)) rfl rfl 74 z22 fB8 i74 rfl (bookCells_one _ _ _ _ _ _ _ _) ?_
          refine hK.out _ _ ?_ (fun hS => ?_)
          · rw [setRow_other _ _ _ _ (by omega)]; exact fN8
          clear hK K
          refine wpAnyH_done (by kernel_rfl) ?_ _
          (try simp only [Act.put])
          go_wp2_with fail
          go_meet
          have hbs := hb8.size
          refine ⟨_, w0.heap.size, rfl, ?_⟩
          exact ⟨setRow_heap _ _ _ _ _ _ fB8, (setRow_other _ _ _ _ (by omega)).trans fr8, below_setRow hb8 (by omega) _, by omega, by omega, by omega, (setRow_other _ _ _ _ (by omega)).trans fR8, (setRow_other _ _ _ _ (by omega)).trans fN8⟩
      refine AllReadyH.cons rfl (fun K hK => ?_) AllReadyH.nil
      · skip
        go_simp
        obtain ⟨w9, hw9⟩ : ∃ W, W = w6.alloc (.cells z22 74) := ⟨_, rfl⟩
        have hx9 : Below w6.heap.size w6 w9 := by rw [hw9]; exact (Below.refl _ _).alloc (Nat.le_refl _) _
        have hs9 : w9.heap.size ≤ w6.heap.size + 1 ∧ w6.heap.size + 1 ≤ w9.heap.size := by rw [hw9]; simp
        have fB9 : w9.heap[w6.heap.size]? = some (.cells z22 74) := by rw [hw9]; exact Go.heap_alloc_new _ _
        have fN9 := below_heap hx9 fN6
        have fr9 := below_heap hx9 fr6
        have fR9 := below_heap hx9 fR6
        have hb9 := hb6.trans (hx9.mono (Nat.le_trans hb6.size (Nat.le_refl _)))
        rw [← hw9]
        clear hw9
        refine hK.out _ _ fN9 (fun _ => ?_)
        clear hK K
        refine wpAnyH_ready (rs := [1]) (by kernel_rfl) (by simp) ?_
        refine AllReadyH.cons rfl (fun K hK => ?_) AllReadyH.nil
        · skip
          go_simp
          refine (empty_calls _).mono ?_
          rintro e w10 ⟨rfl, hx10⟩
          have hs10 := hx10.size
          have fN10 := below_heap hx10 fN9
          have fr10 := below_heap hx10 fr9
          have fB10 := below_heap hx10 fB9
          have fR10 := below_heap hx10 fR9
          have hb10 := hb9.trans (hx10.mono (Nat.le_trans hb9.size (Nat.le_refl _)))
          refine hK.out _ _ fN10 (fun _ => ?_)
          clear hK K
          refine wpAnyH_take (i := 3) (oi := _) (v := .agg (bookCells pr le mo gr A n c (w0.heap.size))) rfl (by kernel_rfl) (by kernel_rfl) (by kernel_rfl) (fun _ _ _ h => h) (yieldsIf_build (by rfl) _ _ rfl [(0, .agg #[.int .i64 pr, .int .i64 le, .int .i64 mo, .int .i64 gr, .slice A n c]), (1, .agg zeros16), (2, .map (some (w0.heap.size)))] (by kernel_rfl) (built74 pr le mo gr A n c (w0.heap.size))) fN10 ?_
          simp only [Act.put, List.getElem_toArray, List.getElem_cons_succ, List.getElem_cons_zero, List.setIfInBounds_toArray, List.set_cons_zero, List.set_cons_succ]
          refine wpAnyH_ready (rs := [5]) (by kernel_rfl) (by simp) ?_
          refine AllReadyH.cons rfl (fun K hK => ?_) AllReadyH.nil
          rw [if_pos (by rfl)]
          refine wp_store_row 74 _ _ rfl _ (bookCells pr le mo gr A n c (w0.heap.size)) rfl rfl 74 z22 fB10 i74 rfl (bookCells_one _ _ _ _ _ _ _ _) ?_
          refine hK.out _ _ ?_ (fun hS => ?_)
          · rw [setRow_other _ _ _ _ (by omega)]; exact fN10
          clear hK K
          refine wpAnyH_done (by kernel_rfl) ?_ _
          (try simp only [Act.put])
          go_wp2_with fail
          go_meet
          have hbs := hb10.size
          refine ⟨_, w0.heap.size, rfl, ?_⟩
          exact ⟨setRow_heap _ _ _ _ _ _ fB10, (setRow_other _ _ _ _ (by omega)).trans fr10, below_setRow hb10 (by omega) _, by omega, by omega, by omega, (setRow_other _ _ _ _ (by omega)).trans fR10, (setRow_other _ _ _ _ (by omega)).trans fN10⟩
    refine AllReadyH.cons rfl (fun K hK => ?_) AllReadyH.nil
    · skip
      go_simp
      obtain ⟨w11, hw11⟩ : ∃ W, W = w0.alloc (.cells z22 74) := ⟨_, rfl⟩
      have hx11 : Below w0.heap.size w0 w11 := by rw [hw11]; exact (Below.refl _ _).alloc (Nat.le_refl _) _
      have hs11 : w11.heap.size ≤ w0.heap.size + 1 ∧ w0.heap.size + 1 ≤ w11.heap.size := by rw [hw11]; simp
      have fB11 : w11.heap[w0.heap.size]? = some (.cells z22 74) := by rw [hw11]; exact Go.heap_alloc_new _ _
      have fN11 := below_heap hx11 hN
      have fR11 := below_heap hx11 hR
      have hb11 := hbS.trans (hx11.mono (Nat.le_trans hbS.size (Nat.le_refl _)))
      rw [← hw11]
      clear hw11
      refine hK.out _ _ fN11 (fun _ => ?_)
      clear hK K
      refine wpAnyH_ready (rs := [1, 2]) (by kernel_rfl) (by simp) ?_
      refine AllReadyH.cons rfl (fun K hK => ?_) ?_
      · skip
        go_simp
        refine (empty_calls _).mono ?_
        rintro e w12 ⟨rfl, hx12⟩
        have hs12 := hx12.size
        have fN12 := below_heap hx12 fN11
        have fB12 := below_heap hx12 fB11
        have fR12 := below_heap hx12 fR11
        have hb12 := hb11.trans (hx12.mono (Nat.le_trans hb11.size (Nat.le_refl _)))
        refine hK.out _ _ fN12 (fun _ => ?_)
        clear hK K
        refine wpAnyH_ready (rs := [2]) (by kernel_rfl) (by simp) ?_
        refine AllReadyH.cons rfl (fun K hK => ?_) AllReadyH.nil
        · skip
          go_simp
          obtain ⟨w13, hw13⟩ : ∃ W, W = w12.alloc (.map #[] 0) := ⟨_, rfl⟩
          have hx13 : Below w12.heap.size w12 w13 := by rw [hw13]; exact (Below.refl _ _).alloc (Nat.le_refl _) _
          have hs13 : w13.heap.size ≤ w12.heap.size + 1 ∧ w12.heap.size + 1 ≤ w13.heap.size := by rw [hw13]; simp
          have fr13 : w13.heap[w12.heap.size]? = some (.map #[] 0) := by rw [hw13]; exact Go.heap_alloc_new _ _
          have fN13 := below_heap hx13 fN12
          have fB13 := below_heap hx13 fB12
          have fR13 := below_heap hx13 fR12
          have hb13 := hb12.trans (hx13.mono (Nat.le_trans hb12.size (Nat.le_refl _)))
          rw [← hw13]
          clear hw13
          refine hK.out _ _ fN13 (fun _ => ?_)
          clear hK K
          refine wpAnyH_take (i := 3) (oi := _) (v := .agg (bookCells pr le mo gr A n c (w12.heap.size))) rfl (by kernel_rfl) (by kernel_rfl) (by kernel_rfl) (fun _ _ _ h => h) (yieldsIf_build (by rfl) _ _ rfl [(0, .agg #[.int .i64 pr, .int .i64 le, .int .i64 mo, .int .i64 gr, .slice A n c]), (1, .agg zeros16), (2, .map (some (w12.heap.size)))] (by kernel_rfl) (built74 pr le mo gr A n c (w12.heap.size))) fN13 ?_
          simp only [Act.put, List.getElem_toArray, List.getElem_cons_succ, List.getElem_cons_zero, List.setIfInBounds_toArray, List.set_cons_zero, List.set_cons_succ]
          refine wpAnyH_ready (rs := [5]) (by kernel_rfl) (by simp) ?_
          refine AllReadyH.cons rfl (fun K hK => ?_) AllReadyH.nil
          rw [if_pos (by rfl)]
          refine wp_store_row 74 _ _ rfl _ (bookCells pr le mo gr A n c (w12.heap.size)) rfl rfl 74 z22 fB13 i74 rfl (bookCells_one _ _ _ _ _ _ _ _) ?_
          refine hK.out _ _ ?_ (fun hS => ?_)
          · rw [setRow_other _ _ _ _ (by omega)]; exact fN13
          clear hK K
          refine wpAnyH_done (by kernel_rfl) ?_ _
          (try simp only [Act.put])
          go_wp2_with fail
          go_meet
          have hbs := hb13.size
          refine ⟨_, w12.heap.size, rfl, ?_⟩
          exact ⟨setRow_heap _ _ _ _ _ _ fB13, (setRow_other _ _ _ _ (by omega)).trans fr13, below_setRow hb13 (by omega) _, by omega, by omega, by omega, (setRow_other _ _ _ _ (by omega)).trans fR13, (setRow_other _ _ _ _ (by omega)).trans fN13⟩
      refine AllReadyH.cons rfl (fun K hK => ?_) AllReadyH.nil
      · skip
        go_simp
        obtain ⟨w14, hw14⟩ : ∃ W, W = w11.alloc (.map #[] 0) := ⟨_, rfl⟩
        have hx14 : Below w11.heap.size w11 w14 := by rw [hw14]; exact (Below.refl _ _).alloc (Nat.le_refl _) _
        have hs14 : w14.heap.size ≤ w11.heap.size + 1 ∧ w11.heap.size + 1 ≤ w14.heap.size := by rw [hw14]; simp
        have fr14 : w14.heap[w11.heap.size]? = some (.map #[] 0) := by rw [hw14]; exact Go.heap_alloc_new _ _
        have fN14 := below_heap hx14 fN11
        have fB14 := below_heap hx14 fB11
        have fR14 := below_heap hx14 fR11
        have hb14 := hb11.trans (hx14.mono (Nat.le_trans hb11.size (Nat.le_refl _)))
        rw [← hw14]
        clear hw14
        refine hK.out _ _ fN14 (fun _ => ?_)
        clear hK K
        refine wpAnyH_ready (rs := [1]) (by kernel_rfl) (by simp) ?_
        refine AllReadyH.cons rfl (fun K hK => ?_) AllReadyH.nil
        · skip
          go_simp
          refine (empty_calls _).mono ?_
          rintro e w15 ⟨rfl, hx15⟩
          have hs15 := hx15.size
          have fN15 := below_heap hx15 fN14
          have fr15 := below_heap hx15 fr14
          have fB15 := below_heap hx15 fB14
          have fR15 := below_heap hx15 fR14
          have hb15 := hb14.trans (hx15.mono (Nat.le_trans hb14.size (Nat.le_refl _)))
          refine hK.out _ _ fN15 (fun _ => ?_)
          clear hK K
          refine wpAnyH_take (i := 3) (oi := _) (v := .agg (bookCells pr le mo gr A n c (w11.heap.size))) rfl (by kernel_rfl) (by kernel_rfl) (by kernel_rfl) (fun _ _ _ h => h) (yieldsIf_build (by rfl) _ _ rfl [(0, .agg #[.int .i64 pr, .int .i64 le, .int .i64 mo, .int .i64 gr, .slice A n c]), (1, .agg zeros16), (2, .map (some (w11.heap.size)))] (by kernel_rfl) (built74 pr le mo gr A n c (w11.heap.size))) fN15 ?_
          simp only [Act.put, List.getElem_toArray, List.getElem_cons_succ, List.getElem_cons_zero, List.setIfInBounds_toArray, List.set_cons_zero, List.set_cons_succ]
          refine wpAnyH_ready (rs := [5]) (by kernel_rfl) (by simp) ?_
          refine AllReadyH.cons rfl (fun K hK => ?_) AllReadyH.nil
          rw [if_pos (by rfl)]
          refine wp_store_row 74 _ _ rfl _ (bookCells pr le mo gr A n c (w11.heap.size)) rfl rfl 74 z22 fB15 i74 rfl (bookCells_one _ _ _ _ _ _ _ _) ?_
          refine hK.out _ _ ?_ (fun hS => ?_)
          · rw [setRow_other _ _ _ _ (by omega)]; exact fN15
          clear hK K
          refine wpAnyH_done (by kernel_rfl) ?_ _
          (try simp only [Act.put])
          go_wp2_with fail
          go_meet
          have hbs := hb15.size
          refine ⟨_, w11.heap.size, rfl, ?_⟩
          exact ⟨setRow_heap _ _ _ _ _ _ fB15, (setRow_other _ _ _ _ (by omega)).trans fr15, below_setRow hb15 (by omega) _, by omega, by omega, by omega, (setRow_other _ _ _ _ (by omega)).trans fR15, (setRow_other _ _ _ _ (by omega)).trans fN15⟩
  case rest =>
    obtain ⟨B, r, rfl, hc⟩ := hcut
    have hbs := hc.below.size
    have hB := hc.hB
    have hr := hc.hr
    go_upto_region 2 with fail
    go_cut [] (fun wx => OpCut2 w pr le mo gr A c B r q wx)
    case first =>
      refine wp_region_held_drew (S := fun W => W.heap[w.heap.size]? = some (.cells #[.int .i64 pr, .int .i64 le, .int .i64 mo, .int .i64 gr, .slice A n c] 24)) (by kernel_rfl) hc.arg (fun hS => ?_)
      refine wpAnyH_take (i := 0) (oi := _) (v := .pointer (some ⟨B, 5, none⟩)) rfl (by kernel_rfl) (by kernel_rfl) (by kernel_rfl) (fun _ _ _ h => h) (Or.inl ⟨by rfl, fun W hW => ?_⟩) (by assumption) ?_
      · go_simp
      simp only [Act.put, List.getElem_toArray, List.getElem_cons_succ, List.getElem_cons_zero, List.setIfInBounds_toArray, List.set_cons_zero, List.set_cons_succ]
      refine wpAnyH_take (i := 1) (oi := _) (v := .slice (some ⟨B, 5, none⟩) 8 8) rfl (by kernel_rfl) (by kernel_rfl) (by kernel_rfl) (fun _ _ _ h => h) (Or.inl ⟨by rfl, fun W hW => ?_⟩) (by assumption) ?_
      · go_simp
      simp only [Act.put, List.getElem_toArray, List.getElem_cons_succ, List.getElem_cons_zero, List.setIfInBounds_toArray, List.set_cons_zero, List.set_cons_succ]
      refine wpAnyH_take (i := 2) (oi := _) (v := .pointer (some ⟨w.heap.size, 4, none⟩)) rfl (by kernel_rfl) (by kernel_rfl) (by kernel_rfl) (fun _ _ _ h => h) (Or.inl ⟨by rfl, fun W hW => ?_⟩) (by assumption) ?_
      · go_simp
      simp only [Act.put, List.getElem_toArray, List.getElem_cons_succ, List.getElem_cons_zero, List.setIfInBounds_toArray, List.set_cons_zero, List.set_cons_succ]
      refine wpAnyH_take (i := 3) (oi := _) (v := .slice A n c) rfl (by kernel_rfl) (by kernel_rfl) (by kernel_rfl) (fun _ _ _ h => h) (Or.inl ⟨by rfl, fun W hW => ?_⟩) (by assumption) ?_
      · have hcell : W.cell? ⟨w.heap.size, 4, none⟩ = some (.slice A n c) := by
          have hW' : W.heap[w.heap.size]? = some (.cells #[.int .i64 pr, .int .i64 le, .int .i64 mo, .int .i64 gr, .slice A n c] 24 (0, 0)) := hW
          simp [World.cell?, hW']
        go_simp
      simp only [Act.put, List.getElem_toArray, List.getElem_cons_succ, List.getElem_cons_zero, List.setIfInBounds_toArray, List.set_cons_zero, List.set_cons_succ]
      refine wpAnyH_ready (rs := [4]) (by kernel_rfl) (by simp) ?_
      refine AllReadyH.cons rfl (fun K hK => ?_) AllReadyH.nil
      refine step_copy_cells rfl _ _ _ _ rfl 27 2 B 5 8 8 n c A (bookCells pr le mo gr A n c r) 74 (hcells q) rfl rfl Tryd.underlying22 (by kernel_rfl) (by rw [hnn.out]; exact hq) hc.book (by rw [hcells_length, hnn.out]; omega) (hrd.below (hc.below.drew)) (by rw [hcells_length]; show 5 + 2 * q.length ≤ 22; omega) (hcells_one q) ?_
      refine hK.out _ _ ?_ (fun hS2 => ?_)
      · rw [setRow_other _ _ _ _ (by omega)]; exact hc.arg
      clear hK
      simp only [Act.put, List.getElem_toArray, List.getElem_cons_succ, List.getElem_cons_zero, List.setIfInBounds_toArray, List.set_cons_zero, List.set_cons_succ]
      refine wpAnyH_done (by kernel_rfl) ?_ _
      go_wp2_with fail
      go_meet
      refine ⟨?_, (setRow_other _ _ _ _ (by have := hc.hne; omega)).trans hc.map, below_setRow hc.below.drew (by omega) _, hr, (setRow_other _ _ _ _ (by omega)).trans hc.res⟩
      have hn := hnn.out
      subst hn
      exact setRow_heap _ _ _ _ _ _ hc.book
    case rest =>
      have i74' : (Tryd.prog.info? 74).map (·.size) = some (openCells pr le mo gr A q.length c q r).size := by rw [openCells_size _ _ _ _ _ _ _ _ _ hq]; exact info74
      go_wp2_with (first
        | (refine wpList_load_row rfl 74 _ rfl B rfl 74 _ (0, 0) _ hcut.book Tryd.underlying74 rfl i74' ?_)
        | (refine wpList_store_row rfl 74 _ _ rfl (w.heap.size + 1) _ rfl rfl 74 z22 hcut.res i74' (openCells_size _ _ _ _ _ _ _ _ _ hq).symm (openCells_one _ _ _ _ _ _ _ _ _) ?_))
      exact bodyPost_ret (v := .agg (openCells pr le mo gr A q.length c q r)) (results_cell_row Tryd.results77 _ _ (w.heap.size + 1) 74 _ (0, 0) _ rfl (setRow_heap _ _ _ _ _ _ hcut.res) Tryd.underlying74 rfl i74') rfl ⟨r, rfl, below_setRow hcut.below (by omega) _, (setRow_other _ _ _ _ (by have := hcut.hr; omega)).trans hcut.map, by have := hcut.hr; omega⟩
end Go.Proofs.YtbbdbdamedaldaaDoor.Fl
end
section
namespace Go.Proofs.YtbbdbdamedaldaaDoor.Fl
open Go Go.RowKit Go.Proofs.EqArr Go.Proofs.RngLaw Go.Proofs.CopyN Go.Proofs.YtbbdbdamedaldaaDoorW.PrintWords
def okS (s : Int × Int) : Bool := decide (0 ≤ s.1) && decide (s.1 ≤ s.2) && decide (s.2 ≤ 200) && decide (s.2 - s.1 ≤ 10)
def checkB (pr le mo gr : Int) (q : List (Int × Int)) : Bool :=
  decide (1 ≤ pr) && decide (pr ≤ 500) && decide (0 ≤ le) && decide (le ≤ 50) && decide (0 ≤ mo) && decide (mo ≤ 50) && decide (le < pr) && decide (1 ≤ gr) && decide (gr ≤ 4) && decide (q.length ≤ 8) && q.all okS
def errOf (b : Bool) : Int := if b = true then 0 else 50
def mkS (x : Int × Int) : PL.S27 := ⟨x.1, x.2⟩
theorem check_l0 (q : List (Int × Int)) (hl : q.length ≤ 9223372036854775807) : ∀ (m k : Nat) (x3 : Bool) (i : Nat), i + m = q.length → m < k →
    PL.fill_Check.l0 k x3 (q.map mkS) (q.length : Int) i = some (errOf (x3 && (q.drop i).all okS))
  | 0, k + 1, x3, i, h, _ => by
    have e : q.drop i = [] := List.drop_eq_nil_of_le (by omega)
    unfold PL.fill_Check.l0
    rw [if_neg (by omega), e]
    cases x3 <;> simp [errOf]
  | m + 1, k + 1, x3, i, h, hk => by
    have hi : i < q.length := by omega
    have hg : PL.rd_T27 (q.map mkS) (i : Int) = mkS q[i] := by
      simp [PL.rd_T27, List.getD_eq_getElem?_getD, hi]
    have hd : q.drop i = q[i] :: q.drop (i + 1) := List.drop_eq_getElem_cons hi
    have hw : wrap64 ((i : Int) + 1) = ((i + 1 : Nat) : Int) := by rw [IntWalk.wrap64_in _ (by omega)]; omega
    have ih := fun b => check_l0 q hl m k b (i + 1) (by omega) (by omega)
    unfold PL.fill_Check.l0
    rw [if_pos (by omega), if_pos (by omega), if_pos (by simpa using hi), hg, hd, hw]
    simp only [PL.fill_in.f, mkS, ih, List.all_cons, okS]
    cases x3
    · simp
    · by_cases h1 : 0 ≤ q[i].1
      · by_cases h2 : q[i].1 ≤ q[i].2
        · by_cases h3 : q[i].2 ≤ 200
          · have hw2 : wrap64 (q[i].2 - q[i].1) = q[i].2 - q[i].1 := IntWalk.wrap64_in _ (by omega)
            simp [h1, h2, h3, hw2]
          · simp [h1, h2, h3]
        · simp [h1, h2]
      · simp [h1]
theorem check_f (pr le mo gr : Int) (q : List (Int × Int)) (hl : q.length ≤ 9223372036854775807) : PL.fill_Check.f (q.length + 2) pr le mo gr (q.map mkS) = some (errOf (checkB pr le mo gr q)) := by
  have hj : ∀ b, PL.fill_Check.j0 (q.length + 2) b pr le mo gr (q.map mkS) = some (errOf (b && q.all okS)) := fun b => by
    unfold PL.fill_Check.j0
    have := check_l0 q hl q.length (q.length + 1) b 0 (by omega) (by omega)
    simpa using this
  unfold PL.fill_Check.f PL.fill_in.f checkB
  simp only [hj]
  by_cases h1 : 1 ≤ pr
  · by_cases h2 : pr ≤ 500
    · by_cases h3 : 0 ≤ le
      · by_cases h4 : le ≤ 50
        · by_cases h5 : 0 ≤ mo
          · by_cases h6 : mo ≤ 50
            · by_cases h7 : le < pr
              · by_cases h8 : 1 ≤ gr
                · by_cases h9 : gr ≤ 4
                  · simp [h1, h2, h3, h4, h5, h6, h7, h8, h9]
                    congr 1
                    by_cases h10 : q.length ≤ 8
                    · have h11 : (q.length : Int) ≤ 8 := by omega
                      simp [h10, h11]
                    · have h11 : ¬ (q.length : Int) ≤ 8 := by omega
                      simp [h10, h11]
                  · simp [h1, h2, h3, h4, h5, h6, h7, h8, h9]
                · simp [h1, h2, h3, h4, h5, h6, h7, h8]
              · simp [h1, h2, h3, h4, h5, h6, h7]
            · simp [h1, h2, h3, h4, h5, h6]
          · simp [h1, h2, h3, h4, h5]
        · simp [h1, h2, h3, h4]
      · simp [h1, h2, h3]
    · simp [h1, h2]
  · simp [h1]
theorem rdh_reads {w : World} {A : Option Addr} {q : List (Int × Int)} (h : RdH w A q) (hl : q.length ≤ 9223372036854775807) : Kd.C PL.k27 w A q.length (q.map mkS) := by
  refine ⟨by simp, hl, fun hp => ?_⟩
  obtain ⟨ad, e, hc⟩ := h (by rw [hcells_length]; omega)
  refine ⟨ad, e, fun j p hj => ?_⟩
  have hj2 : j < q.length := by
    have := (List.getElem?_eq_some_iff.1 hj).1
    simpa using this
  obtain rfl : mkS (q.getD j (0, 0)) = p := by
    simp [hj2] at hj
    simp [List.getD_eq_getElem?_getD, hj2, hj]
  refine ⟨[.int .i64 (q.getD j (0, 0)).1, .int .i64 (q.getD j (0, 0)).2], rfl, PL.k27_mk _ _, fun i u hu => ?_⟩
  obtain ⟨h1, h2⟩ := hcells_at q j hj2
  match i, hu with
  | 0, hu =>
    have e0 : j * PL.k27.sz + 0 = 2 * j := by show j * 2 + 0 = 2 * j; omega
    have hu' := Option.some.inj hu
    rw [← hu', e0]
    exact hc _ _ h1
  | 1, hu =>
    have e0 : j * PL.k27.sz + 1 = 2 * j + 1 := by show j * 2 + 1 = 2 * j + 1; omega
    have hu' := Option.some.inj hu
    rw [← hu', e0]
    exact hc _ _ h2
theorem check_calls (pr le mo gr : Int) (A : Option Addr) (n c : Nat) (q : List (Int × Int)) (hn : n = q.length) (hc : q.length ≤ c) (hl : q.length ≤ 9223372036854775807) (w : World) (hrd : RdH w A q) :
    Calls Tryd.prog 17 #[.agg #[.int .i64 pr, .int .i64 le, .int .i64 mo, .int .i64 gr, .slice A n c]] w fun e w' => e = .returned (.int .i64 (errOf (checkB pr le mo gr q))) ∧ Below w.heap.size w w' := by
  subst hn
  have h := PL.fill_Check.calls (q.length + 2) pr le mo gr A c (q.map mkS) _ w (by simpa using rdh_reads hrd hl) (by simpa using hc) (check_f pr le mo gr q hl)
  simpa using h
end Go.Proofs.YtbbdbdamedaldaaDoor.Fl
end
section
namespace Go.Proofs.YtbbdbdamedaldaaDoor.Fl
open Go Go.RowKit Go.Proofs.EqArr Go.Proofs.RngLaw Go.Proofs.CopyN
theorem wpList_built {P : Program} {ops : Array Oper} {rest : List Oper} {o : Oper} {a : Act} {w : World} {Q : Exit → Act → World → Prop} (hgd : o.guard = none) (t : TypeId) (parts : Array (Nat × Operand)) (ho : o.op = .build t parts)
    (vs : List (Nat × Value)) (hp : (parts.map fun (i, x) => (i, a.eval x)).toList = vs) {cells : Array Value} (h : P.built t vs = some cells) (hk : wpList P ops Q rest (a.put o.dst (.agg cells)) w) : wpList P ops Q (o :: rest) a w :=
  wpList_plain hgd fun _ hK => by
    have hrun := run_build (P := P) w t (parts.map fun (i, x) => (i, a.eval x)) cells (by rw [hp]; exact h)
    unfold Oper.wp execOp
    simp only [ho, Sem.run_bind, hrun, Result.andThen_ok, Sem.run_pure]
    exact hK _ _ hk
theorem results_row_tmp {fn : Func} {P : Program} {p u : Tmp} {ty : TypeId} (h : fn.results = #[.cell p ty, .tmp u]) (tmps : Array Value) (w : World) (g : Nat) (t : TypeId) (cs : Array Value) (fr : Nat × Nat) (d : TypeDesc)
    (hp : tmps.getD p undef = .pointer (some ⟨g, 0, none⟩)) (hg : w.heap[g]? = some (.cells cs t fr))
    (hu : P.underlying ty = some d) (hd : (match d with | .struct _ | .array _ _ => true | _ => false) = true) (hi : (P.info? ty).map (·.size) = some cs.size) (x : Value) (hx : tmps.getD u undef = x) :
    (results fn tmps).run P w = .ok (.tuple #[.agg cs, x]) w := by
  have hp' : tmps[p]?.getD undef = .pointer (some ⟨g, 0, none⟩) := by simpa using hp
  have hx' : tmps[u]?.getD undef = x := by simpa using hx
  rw [results_cell_tmp h]
  simp [hp', hx', asAddr, run_loadVar_row w g t ty cs fr d hg hu hd hi]
theorem built74z : Tryd.prog.built 74 [] = some z22 := by kernel_rfl
theorem z22_one : z22.all (·.oneCell') = true := by decide +kernel
theorem openCells_i74 (pr le mo gr : Int) (A : Option Addr) (n c : Nat) (q : List (Int × Int)) (r : Nat) (hq : q.length ≤ 8) : (Tryd.prog.info? 74).map (·.size) = some (openCells pr le mo gr A n c q r).size := by
  rw [openCells_size _ _ _ _ _ _ _ _ _ hq]; exact info74
def AskedPost (w : World) (pr le mo gr : Int) (A : Option Addr) (c : Nat) (q : List (Int × Int)) (ck b : Bool) (e : Ending) (w' : World) : Prop :=
  Below w.heap.size w w' ∧ match ck, b with
  | false, _ => e = .returned (.tuple #[.agg z22, .int .i64 50])
  | true, false => e = .returned (.tuple #[.agg z22, .int .i64 51])
  | true, true => ∃ r, e = .returned (.tuple #[.agg (openCells pr le mo gr A q.length c q r), .int .i64 0]) ∧ w'.heap[r]? = some (.map #[] 0) ∧ w.heap.size ≤ r
set_option maxRecDepth 100000 in
set_option maxHeartbeats 2000000 in
theorem asked_calls (g : Nat) (lb : Array Value) (eg : ∀ args w, (callFunc g args).run Tryd.prog w = .ok (.enter g args) w) (b : Bool)
    (pr le mo gr : Int) (A : Option Addr) (n c : Nat) (q : List (Int × Int)) (hn : n = q.length) (hc : q.length ≤ c) (hl : q.length ≤ 9223372036854775807) (w : World) (hrd : RdH w A q)
    (hright : checkB pr le mo gr q = true → ∀ r W, Below w.heap.size w W → Calls Tryd.prog g (#[.agg (openCells pr le mo gr A q.length c q r)] ++ lb) W (fun e W' => e = .returned (.bool b) ∧ Below W.heap.size W W')) :
    Calls Tryd.prog 60 #[.agg #[.int .i64 pr, .int .i64 le, .int .i64 mo, .int .i64 gr, .slice A n c], .func (.func g) #[] lb] w (AskedPost w pr le mo gr A c q (checkB pr le mo gr q) b) := by
  have chk := fun W (hb : Below w.heap.size w W) => check_calls pr le mo gr A n c q hn hc hl W (hrd.below hb)
  have opn := fun (h8 : q.length ≤ 8) W (hb : Below w.heap.size w W) => opened_calls pr le mo gr A n c q hn h8 W (hrd.below hb)
  clear hn
  have hz := run_zero74
  have HR := Lib.hid hright
  have Chk := Lib.hid chk
  have Opn := Lib.hid opn
  clear hright hrd chk opn
  have i74z : (Tryd.prog.info? 74).map (·.size) = some z22.size := info74
  have i24 : (Tryd.prog.info? 24).map (·.size) = some (#[Value.int .i64 pr, .int .i64 le, .int .i64 mo, .int .i64 gr, .slice A n c] : Array Value).size := info24
  have harg : ((w.alloc (.cells #[.int .i64 pr, .int .i64 le, .int .i64 mo, .int .i64 gr, .slice A n c] 24)).alloc (.cells z22 74)).heap[w.heap.size]? = some (.cells #[.int .i64 pr, .int .i64 le, .int .i64 mo, .int .i64 gr, .slice A n c] 24) := heap_alloc2_old _ _ _
  have hb0 : Below w.heap.size w (((w.alloc (.cells #[.int .i64 pr, .int .i64 le, .int .i64 mo, .int .i64 gr, .slice A n c] 24)).alloc (.cells z22 74))) := ((Below.refl _ _).alloc (Nat.le_refl _) _).alloc (by simp) _
  have hres : ((w.alloc (.cells #[.int .i64 pr, .int .i64 le, .int .i64 mo, .int .i64 gr, .slice A n c] 24)).alloc (.cells z22 74)).heap[w.heap.size + 1]? = some (.cells z22 74) := heap_alloc2_new _ _ _
  cases hck : checkB pr le mo gr q with
  | false =>
    have e50 : errOf (checkB pr le mo gr q) = 50 := by rw [hck]; rfl
    have E50 := Lib.hid e50
    clear hck e50
    go_enter Tryd.func60, Tryd.ntmps60
    go_wp2_with (first
      | (go_at_call 17; refine (Chk.out _ hb0).mono ?_; rintro e w1 ⟨rfl, hb1⟩; rw [E50.out]; have hb2 := hb0.trans (hb1.mono (by simp; omega)); have hres1 := below_heap hb1 hres; have hs2 := hb1.size; simp at hs2)
      | (refine wpList_built rfl _ _ rfl [] rfl built74z ?_)
      | (refine wpList_store_row rfl 74 _ _ rfl (w.heap.size + 1) z22 rfl rfl 74 z22 hres1 i74z rfl z22_one ?_))
    exact bodyPost_ret (v := .tuple #[.agg z22, .int .i64 50]) (results_row_tmp Tryd.results60 _ _ (w.heap.size + 1) 74 z22 (0, 0) _ rfl (setRow_heap _ _ _ _ _ _ hres1) Tryd.underlying74 rfl i74z _ rfl) rfl ⟨below_setRow hb2 (by omega) _, rfl⟩
  | true =>
    have e50 : errOf (checkB pr le mo gr q) = 0 := by rw [hck]; rfl
    have h8 : q.length ≤ 8 := by
      unfold checkB at hck
      simp at hck
      omega
    have E50 := Lib.hid e50
    have HR2 := Lib.hid (HR.out hck)
    have i74o := fun r => openCells_i74 pr le mo gr A q.length c q r h8
    have o22 := fun r => openCells_size pr le mo gr A q.length c q r h8
    have I74 := Lib.hid (And.intro i74o o22)
    clear hck e50 HR i74o o22
    have hS : ∀ (w2 : World) (x : Array Value), Below w.heap.size w w2 → w.heap.size + 2 ≤ w2.heap.size → w2.heap[w.heap.size + 1]? = some (.cells z22 74) → ((w2.alloc (.cells z22 74)).setRow w2.heap.size x).heap[w.heap.size + 1]? = some (.cells z22 74) :=
      fun w2 x hb hs h => (setRow_other _ _ _ _ (by omega)).trans (heap_alloc_keep h _)
    cases b with
    | true =>
      go_enter Tryd.func60, Tryd.ntmps60
      go_wp2_with (first
        | (go_at_call 17; refine (Chk.out _ hb0).mono ?_; rintro e w1 ⟨rfl, hb1⟩; rw [E50.out]; have hb2 := hb0.trans (hb1.mono (by simp; omega)); have hres1 := below_heap hb1 hres; have harg1 := below_heap hb1 harg; have hs2 := hb1.size; simp at hs2)
        | (refine wpList_load_row rfl 24 _ rfl w.heap.size rfl 24 _ (0, 0) _ harg1 Tryd.underlying24 rfl i24 ?_)
        | (go_at_call 77; refine (Opn.out h8 _ hb2).mono ?_; rintro e w2 ⟨r, rfl, hb3, hm3, hr3⟩; have hres2 := below_heap hb3 hres1; have hs3 := hb3.size; have hb4 := hb2.trans (hb3.mono (by omega)))
        | (refine wpList_store_row rfl 74 _ _ rfl w2.heap.size (openCells pr le mo gr A q.length c q r) rfl rfl 74 z22 (Go.heap_alloc_new _ _) (I74.out.1 r) (I74.out.2 r).symm (openCells_one _ _ _ _ _ _ _ _ _) ?_)
        | (refine wpList_load_row rfl 74 _ rfl w2.heap.size rfl 74 (openCells pr le mo gr A q.length c q r) (0, 0) _ (setRow_heap _ _ _ _ _ _ (Go.heap_alloc_new _ _)) Tryd.underlying74 rfl (I74.out.1 r) ?_))
      have hb5 : Below w.heap.size w ((w2.alloc (.cells z22 74)).setRow w2.heap.size (openCells pr le mo gr A q.length c q r)) := below_setRow (hb4.alloc (by omega) _) (by omega) _
      have gb5 : ((w2.alloc (.cells z22 74)).setRow w2.heap.size (openCells pr le mo gr A q.length c q r)).heap[w2.heap.size]? = some (.cells (openCells pr le mo gr A q.length c q r) 74) := setRow_heap _ _ _ _ _ _ (Go.heap_alloc_new _ _)
      have hres5 := hS w2 (openCells pr le mo gr A q.length c q r) hb4 (by omega) hres2
      have hm5 : ((w2.alloc (.cells z22 74)).setRow w2.heap.size (openCells pr le mo gr A q.length c q r)).heap[r]? = some (.map #[] 0) := by
        have hr2 : r < w2.heap.size := (Array.getElem?_eq_some_iff.1 hm3).1
        exact (setRow_other _ _ _ _ (by omega)).trans (heap_alloc_keep hm3 _)
      refine (HR2.out r _ hb5).mono ?_
      rintro e w3 ⟨rfl, hb6⟩
      have gb6 := below_heap hb6 gb5
      have hres6 := below_heap hb6 hres5
      have hm6 := below_heap hb6 hm5
      have hb7 := hb5.trans (hb6.mono (by simp; omega))
      have hb8 : Below w.heap.size w w3 := hb7
      go_wp2_with (first
        | (refine wpList_load_row rfl 74 _ rfl w2.heap.size rfl 74 (openCells pr le mo gr A q.length c q r) (0, 0) _ gb6 Tryd.underlying74 rfl (I74.out.1 r) ?_)
        | (refine wpList_store_row rfl 74 _ _ rfl (w.heap.size + 1) (openCells pr le mo gr A q.length c q r) rfl rfl 74 z22 hres6 (I74.out.1 r) (I74.out.2 r).symm (openCells_one _ _ _ _ _ _ _ _ _) ?_))
      exact bodyPost_ret (v := .tuple #[.agg (openCells pr le mo gr A q.length c q r), .int .i64 0]) (results_row_tmp Tryd.results60 _ _ (w.heap.size + 1) 74 _ (0, 0) _ rfl (setRow_heap _ _ _ _ _ _ hres6) Tryd.underlying74 rfl (I74.out.1 r) _ rfl) rfl
        ⟨below_setRow hb8 (by omega) _, r, rfl, (setRow_other _ _ _ _ (by omega)).trans hm6, by omega⟩
    | false =>
      go_enter Tryd.func60, Tryd.ntmps60
      go_wp2_with (first
        | (go_at_call 17; refine (Chk.out _ hb0).mono ?_; rintro e w1 ⟨rfl, hb1⟩; rw [E50.out]; have hb2 := hb0.trans (hb1.mono (by simp; omega)); have hres1 := below_heap hb1 hres; have harg1 := below_heap hb1 harg; have hs2 := hb1.size; simp at hs2)
        | (refine wpList_load_row rfl 24 _ rfl w.heap.size rfl 24 _ (0, 0) _ harg1 Tryd.underlying24 rfl i24 ?_)
        | (go_at_call 77; refine (Opn.out h8 _ hb2).mono ?_; rintro e w2 ⟨r, rfl, hb3, hm3, hr3⟩; have hres2 := below_heap hb3 hres1; have hs3 := hb3.size; have hb4 := hb2.trans (hb3.mono (by omega)))
        | (refine wpList_store_row rfl 74 _ _ rfl w2.heap.size (openCells pr le mo gr A q.length c q r) rfl rfl 74 z22 (Go.heap_alloc_new _ _) (I74.out.1 r) (I74.out.2 r).symm (openCells_one _ _ _ _ _ _ _ _ _) ?_)
        | (refine wpList_load_row rfl 74 _ rfl w2.heap.size rfl 74 (openCells pr le mo gr A q.length c q r) (0, 0) _ (setRow_heap _ _ _ _ _ _ (Go.heap_alloc_new _ _)) Tryd.underlying74 rfl (I74.out.1 r) ?_))
      have hb5 : Below w.heap.size w ((w2.alloc (.cells z22 74)).setRow w2.heap.size (openCells pr le mo gr A q.length c q r)) := below_setRow (hb4.alloc (by omega) _) (by omega) _
      have gb5 : ((w2.alloc (.cells z22 74)).setRow w2.heap.size (openCells pr le mo gr A q.length c q r)).heap[w2.heap.size]? = some (.cells (openCells pr le mo gr A q.length c q r) 74) := setRow_heap _ _ _ _ _ _ (Go.heap_alloc_new _ _)
      have hres5 := hS w2 (openCells pr le mo gr A q.length c q r) hb4 (by omega) hres2
      have hm5 : ((w2.alloc (.cells z22 74)).setRow w2.heap.size (openCells pr le mo gr A q.length c q r)).heap[r]? = some (.map #[] 0) := by
        have hr2 : r < w2.heap.size := (Array.getElem?_eq_some_iff.1 hm3).1
        exact (setRow_other _ _ _ _ (by omega)).trans (heap_alloc_keep hm3 _)
      refine (HR2.out r _ hb5).mono ?_
      rintro e w3 ⟨rfl, hb6⟩
      have gb6 := below_heap hb6 gb5
      have hres6 := below_heap hb6 hres5
      have hm6 := below_heap hb6 hm5
      have hb7 := hb5.trans (hb6.mono (by simp; omega))
      have hb8 : Below w.heap.size w w3 := hb7
      go_wp2_with (first
        | (refine wpList_built rfl _ _ rfl [] rfl built74z ?_)
        | (refine wpList_store_row rfl 74 _ _ rfl (w.heap.size + 1) z22 rfl rfl 74 z22 hres6 i74z rfl z22_one ?_))
      exact bodyPost_ret (v := .tuple #[.agg z22, .int .i64 51]) (results_row_tmp Tryd.results60 _ _ (w.heap.size + 1) 74 z22 (0, 0) _ rfl (setRow_heap _ _ _ _ _ _ hres6) Tryd.underlying74 rfl i74z _ rfl) rfl ⟨below_setRow hb8 (by omega) _, rfl⟩
end Go.Proofs.YtbbdbdamedaldaaDoor.Fl
end
section
namespace Go.Proofs.YtbbdbdamedaldaaDoor.Fl
open Go Go.RowKit Go.Proofs.EqArr Go.Proofs.RngLaw Go.Proofs.CopyN
def Laid (w : World) : Prop := w.cell? ⟨0, 0, none⟩ = some (.func (.func 138) #[] #[]) ∧ w.cell? ⟨0, 1, none⟩ = some (.func (.func 136) #[] #[])
theorem Laid.below {w W : World} (h : Laid w) (hb : Below w.heap.size w W) : Laid W := ⟨cell_kept_below hb h.1, cell_kept_below hb h.2⟩
structure BookF (pr le mo gr : Int) (q : List (Int × Int)) : Prop where
  b1 : 1 ≤ pr
  b2 : pr ≤ 500
  b3 : 0 ≤ le
  b4 : le ≤ 50
  b5 : 0 ≤ mo
  b6 : mo ≤ 50
  b7 : le < pr
  g1 : 1 ≤ gr
  g4 : gr ≤ 4
  n8 : q.length ≤ 8
  ok : ∀ s ∈ q, 0 ≤ s.1 ∧ s.1 ≤ s.2 ∧ s.2 ≤ 200 ∧ s.2 - s.1 ≤ 10
theorem bookF {pr le mo gr : Int} {q : List (Int × Int)} (h : checkB pr le mo gr q = true) : BookF pr le mo gr q := by
  unfold checkB at h
  simp only [Bool.and_eq_true, decide_eq_true_eq, List.all_eq_true] at h
  obtain ⟨⟨⟨⟨⟨⟨⟨⟨⟨⟨h1, h2⟩, h3⟩, h4⟩, h5⟩, h6⟩, h7⟩, h8⟩, h9⟩, h10⟩, h11⟩ := h
  refine ⟨h1, h2, h3, h4, h5, h6, h7, h8, h9, h10, fun s hs => ?_⟩
  have := h11 s hs
  simp only [okS, Bool.and_eq_true, decide_eq_true_eq] at this
  omega
theorem BookF.at_ {pr le mo gr : Int} {q : List (Int × Int)} (h : BookF pr le mo gr q) (i : Nat) : 0 ≤ lowOf q i ∧ lowOf q i ≤ highOf q i ∧ highOf q i ≤ 200 := by
  unfold lowOf highOf
  by_cases hi : i < q.length
  · have := h.ok q[i] (List.getElem_mem _)
    simp only [List.getD_eq_getElem?_getD, List.getElem?_eq_getElem hi, Option.getD_some]
    omega
  · simp [List.getD_eq_getElem?_getD, List.getElem?_eq_none (Nat.le_of_not_lt hi)]
theorem BookF.hl {pr le mo gr : Int} {q : List (Int × Int)} (h : BookF pr le mo gr q) (i : Nat) : 0 ≤ lowOf q i ∧ lowOf q i ≤ 200 := by have := h.at_ i; omega
theorem BookF.hh {pr le mo gr : Int} {q : List (Int × Int)} (h : BookF pr le mo gr q) (i : Nat) : 0 ≤ highOf q i ∧ highOf q i ≤ 200 := by have := h.at_ i; omega
theorem memo0 {w : World} {r : Nat} (h : w.heap[r]? = some (.map #[] 0)) (S : Int → Int → Int × Int) : Memo w r S := ⟨#[], 0, h, fun e he => by simp at he⟩
def wfL (p : List Int) : Prop := ∀ x ∈ p, -9223372036854775808 ≤ x ∧ x ≤ 9223372036854775807
theorem wfL.at_ {p : List Int} (h : wfL p) (i : Nat) (hi : i < p.length) : -9223372036854775808 ≤ p.getD i 0 ∧ p.getD i 0 ≤ 9223372036854775807 := by
  have := h p[i] (List.getElem_mem _)
  simpa [List.getD_eq_getElem?_getD, List.getElem?_eq_getElem hi] using this
def IsPlanPost (w : World) (m gr : Int) (p : List Int) (ck : Bool) (e : Ending) (w' : World) : Prop :=
  Below w.heap.size w w' ∧ (ck = false → e = .returned (.tuple #[.bool false, .int .i64 50])) ∧ (ck = true → ∃ b, (b = true ↔ planP m gr p) ∧ e = .returned (.tuple #[.bool b, .int .i64 0]))
set_option maxRecDepth 100000 in
set_option maxHeartbeats 2000000 in
theorem isPlan_calls (pr le mo gr : Int) (A : Option Addr) (n c : Nat) (q : List (Int × Int)) (hn : n = q.length) (hc : q.length ≤ c) (hl : q.length ≤ 9223372036854775807)
    (A1 : Option Addr) (n1 c1 : Nat) (p : List Int) (hn1 : p.length = n1) (w : World) (hrd : RdH w A q) (hp : RdI w A1 p) (hwf : wfL p) :
    Calls Tryd.prog 24 #[.agg #[.int .i64 pr, .int .i64 le, .int .i64 mo, .int .i64 gr, .slice A n c], .slice A1 n1 c1] w (IsPlanPost w q.length gr p (checkB pr le mo gr q)) := by
  have chk := fun W (hb : Below w.heap.size w W) => check_calls pr le mo gr A n c q hn hc hl W (hrd.below hb)
  have opn := fun (h8 : q.length ≤ 8) W (hb : Below w.heap.size w W) => opened_calls pr le mo gr A n c q hn h8 W (hrd.below hb)
  have bxs := fun (r : Nat) (h8 : q.length ≤ 8) W (hb : Below w.heap.size w W) =>
    boxes_calls (openCells pr le mo gr A q.length c q r) pr le mo gr A q.length c (lowOf q) (highOf q) r (openCells_bookC _ _ _ _ _ _ _ _ _ h8) h8 A1 n1 c1 p hn1 W (hp.below hb) (fun i hi => hwf.at_ i hi)
  clear hn hn1
  have Chk := Lib.hid chk
  have Opn := Lib.hid opn
  have Bxs := Lib.hid bxs
  clear hrd chk opn bxs hp hwf
  have i24 : (Tryd.prog.info? 24).map (·.size) = some (#[Value.int .i64 pr, .int .i64 le, .int .i64 mo, .int .i64 gr, .slice A n c] : Array Value).size := info24
  have harg : (w.alloc (.cells #[.int .i64 pr, .int .i64 le, .int .i64 mo, .int .i64 gr, .slice A n c] 24)).heap[w.heap.size]? = some (.cells #[.int .i64 pr, .int .i64 le, .int .i64 mo, .int .i64 gr, .slice A n c] 24) := Go.heap_alloc_new _ _
  have hb0 : Below w.heap.size w (w.alloc (.cells #[.int .i64 pr, .int .i64 le, .int .i64 mo, .int .i64 gr, .slice A n c] 24)) := (Below.refl _ _).alloc (Nat.le_refl _) _
  cases hck : checkB pr le mo gr q with
  | false =>
    have e50 : errOf (checkB pr le mo gr q) = 50 := by rw [hck]; rfl
    have E50 := Lib.hid e50
    clear hck e50
    go_enter Tryd.func24, Tryd.ntmps24
    go_wp2_with (first
      | (go_at_call 17; refine (Chk.out _ hb0).mono ?_; rintro e w1 ⟨rfl, hb1⟩; rw [E50.out]; have hb2 := hb0.trans (hb1.mono (by simp <;> omega))))
    go_ret2
    exact ⟨hb2, fun _ => rfl, fun h => by cases h⟩
  | true =>
    have e50 : errOf (checkB pr le mo gr q) = 0 := by rw [hck]; rfl
    have h8 := (bookF hck).n8
    have E50 := Lib.hid e50
    clear hck e50
    go_enter Tryd.func24, Tryd.ntmps24
    go_wp2_with (first
      | (go_at_call 17; refine (Chk.out _ hb0).mono ?_; rintro e w1 ⟨rfl, hb1⟩; rw [E50.out]; have hb2 := hb0.trans (hb1.mono (by simp <;> omega)); have harg1 := below_heap hb1 harg)
      | (refine wpList_load_row rfl 24 _ rfl w.heap.size rfl 24 _ (0, 0) _ harg1 Tryd.underlying24 rfl i24 ?_)
      | (go_at_call 77; refine (Opn.out h8 _ hb2).mono ?_; rintro e w2 ⟨r, rfl, hb3, hm3, hr3⟩; have hb4 := hb2.trans (hb3.mono hb2.size)))
    refine (Bxs.out r h8 _ hb4).mono ?_
    rintro e w3 ⟨hb5, ⟨hpl, v, rfl, hown⟩ | ⟨hpl, v, rfl⟩⟩
    · have hb6 := hb4.trans (hb5.mono hb4.size)
      go_wp2
      go_ret2
      exact ⟨hb6, fun h => (by cases h), fun _ => ⟨true, by simpa using hpl, rfl⟩⟩
    · have hb6 := hb4.trans (hb5.mono hb4.size)
      go_wp2
      go_ret2
      exact ⟨hb6, fun h => (by cases h), fun _ => ⟨false, by simpa using hpl, rfl⟩⟩
end Go.Proofs.YtbbdbdamedaldaaDoor.Fl
end
section
namespace Go.Proofs.YtbbdbdamedaldaaDoor.Fl
open Go Go.RowKit Go.Proofs.EqArr Go.Proofs.RngLaw Go.Proofs.CopyN
theorem results_row_tmp2 {fn : Func} {P : Program} {p u x : Tmp} {ty : TypeId} (h : fn.results = #[.cell p ty, .tmp u, .tmp x]) (tmps : Array Value) (w : World) (g : Nat) (t : TypeId) (cs : Array Value) (fr : Nat × Nat) (d : TypeDesc)
    (hp : tmps.getD p undef = .pointer (some ⟨g, 0, none⟩)) (hg : w.heap[g]? = some (.cells cs t fr))
    (hu : P.underlying ty = some d) (hd : (match d with | .struct _ | .array _ _ => true | _ => false) = true) (hi : (P.info? ty).map (·.size) = some cs.size) (y z : Value) (hy : tmps.getD u undef = y) (hz : tmps.getD x undef = z) :
    (results fn tmps).run P w = .ok (.tuple #[.agg cs, y, z]) w := by
  have hp' : tmps[p]?.getD undef = .pointer (some ⟨g, 0, none⟩) := by simpa using hp
  have hy' : tmps[u]?.getD undef = y := by simpa using hy
  have hz' : tmps[x]?.getD undef = z := by simpa using hz
  simp only [results, h]
  simp [hp', hy', hz', asAddr, run_loadVar_row w g t ty cs fr d hg hu hd hi, Sem.run_bind, Result.andThen]
theorem own_setRow {w : World} {base j : Nat} {x : Array Value} {e : TypeId} {size : Nat} {v : Value} {n : Nat} {xs : List Value} (h : w.ownsRow base e size v n xs) (hj : j < base) : (w.setRow j x).ownsRow base e size v n xs := by
  obtain ⟨h1, h2⟩ := h
  refine ⟨h1, ?_⟩
  rcases h2 with h2 | ⟨g, cap, cur, rfl, hg, hh, r⟩
  · exact .inl h2
  · exact .inr ⟨g, cap, cur, rfl, hg, (setRow_other _ _ _ _ (by omega)).trans hh, r⟩
def PlannedPost (w : World) (pr le mo gr : Int) (A : Option Addr) (c : Nat) (q : List (Int × Int)) (p : List Int) (ck : Bool) (e : Ending) (w' : World) : Prop :=
  Below w.heap.size w w' ∧ (ck = false → e = .returned (.tuple #[.agg z22, .slice none 0 0, .int .i64 50])) ∧
  (ck = true → ¬ planP q.length gr p → e = .returned (.tuple #[.agg z22, .slice none 0 0, .int .i64 51])) ∧
  (ck = true → planP q.length gr p → ∃ r v, e = .returned (.tuple #[.agg (openCells pr le mo gr A q.length c q r), v, .int .i64 0]) ∧ w'.ownsRow w.heap.size 80 2 v p.length (boxCells p p.length) ∧ w'.heap[r]? = some (.map #[] 0) ∧ w.heap.size ≤ r)
set_option maxRecDepth 100000 in
set_option maxHeartbeats 2000000 in
theorem planned_calls (pr le mo gr : Int) (A : Option Addr) (n c : Nat) (q : List (Int × Int)) (hn : n = q.length) (hc : q.length ≤ c) (hl : q.length ≤ 9223372036854775807)
    (A1 : Option Addr) (n1 c1 : Nat) (p : List Int) (hn1 : p.length = n1) (w : World) (hrd : RdH w A q) (hp : RdI w A1 p) (hwf : wfL p) :
    Calls Tryd.prog 80 #[.agg #[.int .i64 pr, .int .i64 le, .int .i64 mo, .int .i64 gr, .slice A n c], .slice A1 n1 c1] w (PlannedPost w pr le mo gr A c q p (checkB pr le mo gr q)) := by
  have chk := fun W (hb : Below w.heap.size w W) => check_calls pr le mo gr A n c q hn hc hl W (hrd.below hb)
  have opn := fun (h8 : q.length ≤ 8) W (hb : Below w.heap.size w W) => opened_calls pr le mo gr A n c q hn h8 W (hrd.below hb)
  have bxs := fun (r : Nat) (h8 : q.length ≤ 8) W (hb : Below w.heap.size w W) =>
    boxes_calls (openCells pr le mo gr A q.length c q r) pr le mo gr A q.length c (lowOf q) (highOf q) r (openCells_bookC _ _ _ _ _ _ _ _ _ h8) h8 A1 n1 c1 p hn1 W (hp.below hb) (fun i hi => hwf.at_ i hi)
  clear hn hn1
  have Chk := Lib.hid chk
  have Opn := Lib.hid opn
  have Bxs := Lib.hid bxs
  clear hrd chk opn bxs hp hwf
  have hz := run_zero74
  have i74z : (Tryd.prog.info? 74).map (·.size) = some z22.size := info74
  have i24 : (Tryd.prog.info? 24).map (·.size) = some (#[Value.int .i64 pr, .int .i64 le, .int .i64 mo, .int .i64 gr, .slice A n c] : Array Value).size := info24
  have harg : ((w.alloc (.cells #[.int .i64 pr, .int .i64 le, .int .i64 mo, .int .i64 gr, .slice A n c] 24)).alloc (.cells z22 74)).heap[w.heap.size]? = some (.cells #[.int .i64 pr, .int .i64 le, .int .i64 mo, .int .i64 gr, .slice A n c] 24) := heap_alloc2_old _ _ _
  have hb0 : Below w.heap.size w (((w.alloc (.cells #[.int .i64 pr, .int .i64 le, .int .i64 mo, .int .i64 gr, .slice A n c] 24)).alloc (.cells z22 74))) := ((Below.refl _ _).alloc (Nat.le_refl _) _).alloc (by simp) _
  have hres : ((w.alloc (.cells #[.int .i64 pr, .int .i64 le, .int .i64 mo, .int .i64 gr, .slice A n c] 24)).alloc (.cells z22 74)).heap[w.heap.size + 1]? = some (.cells z22 74) := heap_alloc2_new _ _ _
  cases hck : checkB pr le mo gr q with
  | false =>
    have e50 : errOf (checkB pr le mo gr q) = 50 := by rw [hck]; rfl
    have E50 := Lib.hid e50
    clear hck e50
    go_enter Tryd.func80, Tryd.ntmps80
    go_wp2_with (first
      | (go_at_call 17; refine (Chk.out _ hb0).mono ?_; rintro e w1 ⟨rfl, hb1⟩; rw [E50.out]; have hb2 := hb0.trans (hb1.mono (by simp <;> omega)); have hres1 := below_heap hb1 hres; have hs2 := hb1.size; simp at hs2)
      | (refine wpList_built rfl _ _ rfl [] rfl built74z ?_)
      | (refine wpList_store_row rfl 74 _ _ rfl (w.heap.size + 1) z22 rfl rfl 74 z22 hres1 i74z rfl z22_one ?_))
    exact bodyPost_ret (v := .tuple #[.agg z22, .slice none 0 0, .int .i64 50]) (results_row_tmp2 Tryd.results80 _ _ (w.heap.size + 1) 74 z22 (0, 0) _ rfl (setRow_heap _ _ _ _ _ _ hres1) Tryd.underlying74 rfl i74z _ _ rfl rfl) rfl
      ⟨below_setRow hb2 (by omega) _, fun _ => rfl, fun h => (by cases h), fun h => (by cases h)⟩
  | true =>
    have e50 : errOf (checkB pr le mo gr q) = 0 := by rw [hck]; rfl
    have h8 := (bookF hck).n8
    have E50 := Lib.hid e50
    have i74o := fun r => openCells_i74 pr le mo gr A q.length c q r h8
    have o22 := fun r => openCells_size pr le mo gr A q.length c q r h8
    have I74 := Lib.hid (And.intro i74o o22)
    clear hck e50 i74o o22
    go_enter Tryd.func80, Tryd.ntmps80
    go_wp2_with (first
      | (go_at_call 17; refine (Chk.out _ hb0).mono ?_; rintro e w1 ⟨rfl, hb1⟩; rw [E50.out]; have hb2 := hb0.trans (hb1.mono (by simp <;> omega)); have hres1 := below_heap hb1 hres; have harg1 := below_heap hb1 harg; have hs2 := hb1.size; simp at hs2)
      | (refine wpList_load_row rfl 24 _ rfl w.heap.size rfl 24 _ (0, 0) _ harg1 Tryd.underlying24 rfl i24 ?_)
      | (go_at_call 77; refine (Opn.out h8 _ hb2).mono ?_; rintro e w2 ⟨r, rfl, hb3, hm3, hr3⟩; have hres2 := below_heap hb3 hres1; have hs3 := hb3.size; have hb4 := hb2.trans (hb3.mono (by omega)))
      | (refine wpList_store_row rfl 74 _ _ rfl w2.heap.size (openCells pr le mo gr A q.length c q r) rfl rfl 74 z22 (Go.heap_alloc_new _ _) (I74.out.1 r) (I74.out.2 r).symm (openCells_one _ _ _ _ _ _ _ _ _) ?_)
      | (refine wpList_load_row rfl 74 _ rfl w2.heap.size rfl 74 (openCells pr le mo gr A q.length c q r) (0, 0) _ (setRow_heap _ _ _ _ _ _ (Go.heap_alloc_new _ _)) Tryd.underlying74 rfl (I74.out.1 r) ?_))
    have hb5 : Below w.heap.size w ((w2.alloc (.cells z22 74)).setRow w2.heap.size (openCells pr le mo gr A q.length c q r)) := below_setRow (hb4.alloc (by omega) _) (by omega) _
    have gb5 : ((w2.alloc (.cells z22 74)).setRow w2.heap.size (openCells pr le mo gr A q.length c q r)).heap[w2.heap.size]? = some (.cells (openCells pr le mo gr A q.length c q r) 74) := setRow_heap _ _ _ _ _ _ (Go.heap_alloc_new _ _)
    have hres5 : ((w2.alloc (.cells z22 74)).setRow w2.heap.size (openCells pr le mo gr A q.length c q r)).heap[w.heap.size + 1]? = some (.cells z22 74) := (setRow_other _ _ _ _ (by omega)).trans (heap_alloc_keep hres2 _)
    have hm5 : ((w2.alloc (.cells z22 74)).setRow w2.heap.size (openCells pr le mo gr A q.length c q r)).heap[r]? = some (.map #[] 0) := by
      have hr2 : r < w2.heap.size := (Array.getElem?_eq_some_iff.1 hm3).1
      exact (setRow_other _ _ _ _ (by omega)).trans (heap_alloc_keep hm3 _)
    refine (Bxs.out r h8 _ hb5).mono ?_
    rintro e w3 ⟨hb6, hpost⟩
    have gb6 := below_heap hb6 gb5
    have hres6 := below_heap hb6 hres5
    have hm6 := below_heap hb6 hm5
    have hb8 := hb5.trans (hb6.mono (by simp <;> omega))
    rcases hpost with ⟨hpl, v, rfl, hown⟩ | ⟨hpl, v, rfl⟩
    · have hown2 := fun x => own_lower (own_setRow (j := w.heap.size + 1) (x := x) hown (by simp <;> omega)) (base' := w.heap.size) (by simp <;> omega)
      have Hown := Lib.hid (And.intro hpl hown2)
      clear hpl hown hown2
      go_wp2_with (first
        | (refine wpList_load_row rfl 74 _ rfl w2.heap.size rfl 74 (openCells pr le mo gr A q.length c q r) (0, 0) _ gb6 Tryd.underlying74 rfl (I74.out.1 r) ?_)
        | (refine wpList_store_row rfl 74 _ _ rfl (w.heap.size + 1) (openCells pr le mo gr A q.length c q r) rfl rfl 74 z22 hres6 (I74.out.1 r) (I74.out.2 r).symm (openCells_one _ _ _ _ _ _ _ _ _) ?_))
      exact bodyPost_ret (v := .tuple #[.agg (openCells pr le mo gr A q.length c q r), v, .int .i64 0]) (results_row_tmp2 Tryd.results80 _ _ (w.heap.size + 1) 74 _ (0, 0) _ rfl (setRow_heap _ _ _ _ _ _ hres6) Tryd.underlying74 rfl (I74.out.1 r) _ _ rfl rfl) rfl
        ⟨below_setRow hb8 (by omega) _, fun h => (by cases h), fun _ h => absurd Hown.out.1 h, fun _ _ => ⟨r, v, rfl, Hown.out.2 _, (setRow_other _ _ _ _ (by omega)).trans hm6, by omega⟩⟩
    · have Hpl := Lib.hid hpl
      clear hpl
      go_wp2_with (first
        | (refine wpList_built rfl _ _ rfl [] rfl built74z ?_)
        | (refine wpList_store_row rfl 74 _ _ rfl (w.heap.size + 1) z22 rfl rfl 74 z22 hres6 i74z rfl z22_one ?_))
      exact bodyPost_ret (v := .tuple #[.agg z22, .slice none 0 0, .int .i64 51]) (results_row_tmp2 Tryd.results80 _ _ (w.heap.size + 1) 74 z22 (0, 0) _ rfl (setRow_heap _ _ _ _ _ _ hres6) Tryd.underlying74 rfl i74z _ _ rfl rfl) rfl
        ⟨below_setRow hb8 (by omega) _, fun h => (by cases h), fun _ _ => rfl, fun _ h => absurd h Hpl.out⟩
end Go.Proofs.YtbbdbdamedaldaaDoor.Fl
end
section
namespace Go.Proofs.YtbbdbdamedaldaaDoor.Fl
open Go Go.RowKit Go.Proofs.EqArr Go.Proofs.RngLaw Go.Proofs.CopyN
def boxesOf (p : List Int) : List (Nat × Nat) := (List.range p.length).map fun k => ((prev p k).toNat, (p.getD k 0).toNat)
theorem boxesOf_length (p : List Int) : (boxesOf p).length = p.length := by simp [boxesOf]
theorem boxCells_pairs {m gr : Int} {p : List Int} : ∀ (k : Nat), okTo m gr p k → boxCells p k = pairCells ((List.range k).map fun k => ((prev p k).toNat, (p.getD k 0).toNat))
  | 0, _ => rfl
  | k + 1, h => by
    have hb := (boxB_iff _ _ _ _).1 (h k (by omega))
    have ih := boxCells_pairs k (fun i hi => h i (by omega))
    rw [List.range_succ, List.map_append]
    unfold pairCells at ih ⊢
    rw [List.flatMap_append, ← ih]
    have e1 : ((prev p k).toNat : Int) = prev p k := by omega
    have e2 : ((p.getD k 0).toNat : Int) = p.getD k 0 := by omega
    show boxCells p k ++ [Value.int .i64 (prev p k), .int .i64 (p.getD k 0)] = boxCells p k ++ [Value.int .i64 ((prev p k).toNat : Int), .int .i64 ((p.getD k 0).toNat : Int)]
    rw [e1, e2]
theorem planP_boxes {m gr : Int} {p : List Int} (h : planP m gr p) : boxCells p p.length = pairCells (boxesOf p) := boxCells_pairs p.length h.1
theorem planP_mem {m : Nat} {gr : Int} {p : List Int} (h : planP m gr p) : ∀ x ∈ boxesOf p, x.1 ≤ x.2 ∧ x.2 ≤ m := by
  intro x hx
  simp only [boxesOf, List.mem_map, List.mem_range] at hx
  obtain ⟨k, hk, rfl⟩ := hx
  have hb := (boxB_iff _ _ _ _).1 (h.1 k hk)
  simp only
  omega
theorem planP_length {m : Nat} {gr : Int} {p : List Int} (h : planP m gr p) : p.length ≤ m := by
  have := okTo_bound h.1
  have h2 := h.2
  omega
structure ShI (W : World) (base : Nat) (v : Value) (xs : List Int) : Prop where
  at_ : ∃ A c, v = .slice A xs.length c ∧ xs.length ≤ c ∧ (0 < xs.length → ∃ g, base ≤ g ∧ A = some ⟨g, 0, none⟩ ∧ ∀ j, j < xs.length → W.cell? ⟨g, j, none⟩ = some (.int .i64 (xs.getD j 0)))
  len : xs.length ≤ 9223372036854775807
theorem ShI.nil (W : World) (base : Nat) : ShI W base (.slice none 0 0) [] := ⟨⟨none, 0, rfl, Nat.le_refl _, fun h => by simp at h⟩, by simp⟩
theorem ShI.lower {W : World} {base base' : Nat} {v : Value} {xs : List Int} (h : ShI W base v xs) (hb : base' ≤ base) : ShI W base' v xs := by
  obtain ⟨⟨A, c, hv, hc, ha⟩, hl⟩ := h
  refine ⟨⟨A, c, hv, hc, fun hp => ?_⟩, hl⟩
  obtain ⟨g, h1, h2, h3⟩ := ha hp
  exact ⟨g, Nat.le_trans hb h1, h2, h3⟩
theorem ints_at (xs : List Int) (j : Nat) (h : j < xs.length) : (ints xs)[j]? = some (.int .i64 (xs.getD j 0)) := by
  simp [ints, List.getD_eq_getElem?_getD, List.getElem?_eq_getElem h]
theorem own_full {W : World} {base : Nat} {e : TypeId} {v : Value} {xs : List Int} (h : W.ownsRow base e 1 v xs.length (ints xs)) :
    ∃ A c, v = .slice A xs.length c ∧ xs.length ≤ c ∧ c ≤ maxLen ∧ ∀ c', xs.length ≤ c' → ShI W base (.slice A xs.length c') xs := by
  rcases h.2 with ⟨rfl, h0⟩ | ⟨g, cap, cur, rfl, hg, hh, hn, hcap, hsz, ht⟩
  · obtain rfl : xs = [] := List.eq_nil_of_length_eq_zero h0
    exact ⟨none, 0, rfl, Nat.le_refl _, by unfold maxLen; omega, fun c' _ => ⟨⟨none, c', rfl, by omega, fun h => by simp at h⟩, by simp⟩⟩
  · refine ⟨_, cap, rfl, hn, hcap, fun c' hc' => ⟨⟨_, c', rfl, hc', fun _ => ⟨g, hg, rfl, fun j hj => ?_⟩⟩, by unfold maxLen at hcap; omega⟩⟩
    have := h.cells (g := g) rfl j _ (ints_at xs j hj)
    have ha : (⟨g, 0, none⟩ : Addr).add j = ⟨g, j, none⟩ := by unfold Addr.add; split <;> simp_all
    rw [ha] at this
    exact this
def handL (pr le mo : Int) (q : List (Int × Int)) (p : List Int) : List Int := handsTo (rightB pr le mo (lowOf q) (highOf q)) (boxesOf p) p.length
def ByHandPost (w : World) (pr le mo gr : Int) (q : List (Int × Int)) (p : List Int) (ck : Bool) (e : Ending) (w' : World) : Prop :=
  Below w.heap.size w w' ∧ (ck = false → e = .returned (.tuple #[.slice none 0 0, .int .i64 50])) ∧
  (ck = true → ¬ planP q.length gr p → e = .returned (.tuple #[.slice none 0 0, .int .i64 51])) ∧
  (ck = true → planP q.length gr p → ∃ v, e = .returned (.tuple #[v, .int .i64 0]) ∧ ShI w' w.heap.size v (handL pr le mo q p))
set_option maxRecDepth 100000 in
set_option maxHeartbeats 2000000 in
theorem apiByHand_calls (pr le mo gr : Int) (A : Option Addr) (n c : Nat) (q : List (Int × Int)) (hn : n = q.length) (hc : q.length ≤ c) (hl : q.length ≤ 9223372036854775807)
    (A1 : Option Addr) (n1 c1 : Nat) (p : List Int) (hn1 : p.length = n1) (w : World) (hrd : RdH w A q) (hp : RdI w A1 p) (hwf : wfL p) (hLd : Laid w) :
    Calls Tryd.prog 26 #[.agg #[.int .i64 pr, .int .i64 le, .int .i64 mo, .int .i64 gr, .slice A n c], .slice A1 n1 c1] w (ByHandPost w pr le mo gr q p (checkB pr le mo gr q)) := by
  have pln := fun W (hb : Below w.heap.size w W) => planned_calls pr le mo gr A n c q hn hc hl A1 n1 c1 p hn1 W (hrd.below hb) (hp.below hb) hwf
  clear hn hn1
  have Pln := Lib.hid pln
  have HLd := Lib.hid hLd
  clear hrd pln hp hwf hLd
  have hz := run_zero74
  have i74z : (Tryd.prog.info? 74).map (·.size) = some z22.size := info74
  have i24 : (Tryd.prog.info? 24).map (·.size) = some (#[Value.int .i64 pr, .int .i64 le, .int .i64 mo, .int .i64 gr, .slice A n c] : Array Value).size := info24
  have harg : (w.alloc (.cells #[.int .i64 pr, .int .i64 le, .int .i64 mo, .int .i64 gr, .slice A n c] 24)).heap[w.heap.size]? = some (.cells #[.int .i64 pr, .int .i64 le, .int .i64 mo, .int .i64 gr, .slice A n c] 24) := Go.heap_alloc_new _ _
  have hb0 : Below w.heap.size w (w.alloc (.cells #[.int .i64 pr, .int .i64 le, .int .i64 mo, .int .i64 gr, .slice A n c] 24)) := (Below.refl _ _).alloc (Nat.le_refl _) _
  have bad : ∀ (k : Int), k ≠ 0 → (∀ W, Below w.heap.size w W → Calls Tryd.prog 80 #[.agg #[.int .i64 pr, .int .i64 le, .int .i64 mo, .int .i64 gr, .slice A n c], .slice A1 n1 c1] W (fun e W' => e = .returned (.tuple #[.agg z22, .slice none 0 0, .int .i64 k]) ∧ Below W.heap.size W W')) →
      Calls Tryd.prog 26 #[.agg #[.int .i64 pr, .int .i64 le, .int .i64 mo, .int .i64 gr, .slice A n c], .slice A1 n1 c1] w (fun e W' => e = .returned (.tuple #[.slice none 0 0, .int .i64 k]) ∧ Below w.heap.size w W') := by
    intro k hk hP
    have HP := Lib.hid hP
    clear hP
    go_enter Tryd.func26, Tryd.ntmps26
    go_wp2_with (first
      | (go_at_call 80; refine (HP.out _ hb0).mono ?_; rintro e w1 ⟨rfl, hb1⟩; have hb2 := hb0.trans (hb1.mono (by simp <;> omega)); have hs2 := hb1.size; simp at hs2)
      | (refine wpList_store_row rfl 74 _ _ rfl w1.heap.size z22 rfl rfl 74 z22 (Go.heap_alloc_new _ _) i74z rfl z22_one ?_))
    go_ret2
    exact ⟨rfl, below_setRow (hb2.alloc (by omega) _) (by omega) _⟩
  cases hck : checkB pr le mo gr q with
  | false =>
    rw [hck] at Pln
    refine (bad 50 (by decide) (fun W hb => (Pln.out W hb).mono ?_)).mono ?_
    · rintro e W' ⟨h1, h2, _⟩
      exact ⟨h2 rfl, h1⟩
    · rintro e W' ⟨rfl, h⟩
      exact ⟨h, fun _ => rfl, fun h => (by cases h), fun h => (by cases h)⟩
  | true =>
    rw [hck] at Pln
    by_cases hpl : planP q.length gr p
    · clear bad
      have hF := bookF hck
      have h8 := hF.n8
      have i74o := fun r => openCells_i74 pr le mo gr A q.length c q r h8
      have o22 := fun r => openCells_size pr le mo gr A q.length c q r h8
      have I74 := Lib.hid (And.intro i74o o22)
      have byh := fun (r : Nat) (v : Value) (base : Nat) (W : World) (hb : Below w.heap.size w W) (hown : W.ownsRow base 80 2 v p.length (boxCells p p.length)) (hm : W.heap[r]? = some (.map #[] 0)) =>
        byHand_calls (openCells pr le mo gr A q.length c q r) pr le mo gr A q.length c (lowOf q) (highOf q) r (openCells_bookC _ _ _ _ _ _ _ _ _ h8) hF.b1 hF.b2 hF.b3 hF.b4 hF.b5 hF.b6 hF.hl hF.hh
          (boxesOf p) (by rw [boxesOf_length]; exact Nat.le_trans (planP_length hpl) h8) (fun x hx => ⟨(planP_mem hpl x hx).1, Nat.le_trans (planP_mem hpl x hx).2 h8⟩) base v W (by rw [boxesOf_length, ← planP_boxes hpl]; exact hown) (memo0 hm _) (HLd.out.below hb).1 (HLd.out.below hb).2
      have Byh := Lib.hid byh
      have Pln2 : Hid (∀ W, Below w.heap.size w W → Calls Tryd.prog 80 #[.agg #[.int .i64 pr, .int .i64 le, .int .i64 mo, .int .i64 gr, .slice A n c], .slice A1 n1 c1] W (fun e W' => Below W.heap.size W W' ∧
        ∃ r v, e = .returned (.tuple #[.agg (openCells pr le mo gr A q.length c q r), v, .int .i64 0]) ∧ W'.ownsRow W.heap.size 80 2 v p.length (boxCells p p.length) ∧ W'.heap[r]? = some (.map #[] 0) ∧ W.heap.size ≤ r)) :=
        Lib.hid fun W hb => (Pln.out W hb).mono (by rintro e W' ⟨h1, _, _, h4⟩; exact ⟨h1, h4 rfl hpl⟩)
      have Hpl := Lib.hid hpl
      clear Pln byh i74o o22 hck hF hpl
      go_enter Tryd.func26, Tryd.ntmps26
      go_wp2_with (first
        | (go_at_call 80; refine (Pln2.out _ hb0).mono ?_; rintro e w1 ⟨hb1, r, v, rfl, hown, hm, hr⟩; have hb2 := hb0.trans (hb1.mono (by simp <;> omega)); have hs2 := hb1.size; simp at hs2; simp at hr; have Hown := Lib.hid (And.intro hown hm); clear hown hm)
        | (refine wpList_store_row rfl 74 _ _ rfl w1.heap.size (openCells pr le mo gr A q.length c q r) rfl rfl 74 z22 (Go.heap_alloc_new _ _) (I74.out.1 r) (I74.out.2 r).symm (openCells_one _ _ _ _ _ _ _ _ _) ?_)
        | (refine wpList_load_row rfl 74 _ rfl w1.heap.size rfl 74 (openCells pr le mo gr A q.length c q r) (0, 0) _ (setRow_heap _ _ _ _ _ _ (Go.heap_alloc_new _ _)) Tryd.underlying74 rfl (I74.out.1 r) ?_))
      have hb5 : Below w.heap.size w ((w1.alloc (.cells z22 74)).setRow w1.heap.size (openCells pr le mo gr A q.length c q r)) := below_setRow (hb2.alloc (by omega) _) (by omega) _
      have hm5 : ((w1.alloc (.cells z22 74)).setRow w1.heap.size (openCells pr le mo gr A q.length c q r)).heap[r]? = some (.map #[] 0) := by
        have hr2 : r < w1.heap.size := (Array.getElem?_eq_some_iff.1 Hown.out.2).1
        exact (setRow_other _ _ _ _ (by omega)).trans (heap_alloc_keep Hown.out.2 _)
      refine (Byh.out r v w.heap.size _ hb5 ?_ hm5).mono ?_
      · exact own_lower (own_below Hown.out.1 (below_setRow ((Below.refl w1.heap.size w1).alloc (Nat.le_refl _) _) (Nat.le_refl _) _)) (by simp)
      rintro e w3 ⟨hk3, hM3, v3, rfl, hown3⟩
      have hb6 : Below w.heap.size w w3 := ((KeepsBut.of_below hb5).trans hk3).below (Nat.le_refl _) (fun k hk => by have : k = r := hk; omega)
      rw [boxesOf_length] at hown3
      obtain ⟨A3, c3, rfl, h3, h3m, hsh⟩ := own_full hown3
      have hsh2 := hsh _ (Nat.le_refl _)
      clear hsh hown3 hM3 hk3
      obtain ⟨xs, hxs⟩ : ∃ xs, handsTo (rightB pr le mo (lowOf q) (highOf q)) (boxesOf p) p.length = xs := ⟨_, rfl⟩
      rw [hxs] at hsh2 h3 ⊢
      obtain ⟨m, hm⟩ : ∃ m, xs.length = m := ⟨_, rfl⟩
      rw [hm] at hsh2 h3 ⊢
      have Hsh := Lib.hid (And.intro hxs (And.intro hm hsh2))
      clear hxs hm hsh2
      unfold maxLen at h3m
      go_wp2
      have hsh3 : ShI w3 w.heap.size (.slice A3 m m) (handL pr le mo q p) := by
        unfold handL
        rw [Hsh.out.1]
        exact Hsh.out.2.2.lower (by simp <;> omega)
      go_ret2
      exact ⟨hb6, fun h => (by cases h), fun _ h => absurd Hpl.out h, fun _ _ => ⟨_, rfl, hsh3⟩⟩
    · refine (bad 51 (by decide) (fun W hb => (Pln.out W hb).mono ?_)).mono ?_
      · rintro e W' ⟨h1, _, h3, _⟩
        exact ⟨h3 rfl hpl, h1⟩
      · rintro e W' ⟨rfl, h⟩
        exact ⟨h, fun h => (by cases h), fun _ _ => rfl, fun _ h => absurd h hpl⟩
end Go.Proofs.YtbbdbdamedaldaaDoor.Fl
end
section
namespace Go.Proofs.YtbbdbdamedaldaaDoor.Fl
open Go Go.RowKit Go.Proofs.EqArr Go.Proofs.RngLaw Go.Proofs.CopyN
theorem enters {P : Program} {f : FuncId} {fn : Func} (hf : P.funcs[f]? = some fn) (h1 : (fn.name == "runtime.NumGoroutine") = false) (h2 : fn.body.isNone = false) : ∀ args w, (callFunc f args).run P w = .ok (.enter f args) w := by
  intro args w
  have h1' : ¬ fn.name = "runtime.NumGoroutine" := by simpa using h1
  cases hb : fn.body with
  | none => simp [hb] at h2
  | some b => simp [callFunc, hf, h1', hb]
def sumOk (n : Nat) (a b : Int) : Bool := decide (0 ≤ a) && decide (a ≤ b) && decide (b ≤ n)
set_option maxRecDepth 100000 in
theorem sum1_calls (cs : Array Value) (pr le mo gr : Int) (A : Option Addr) (n c : Nat) (l h : Nat → Int) (r : Nat) (hB : BookC cs pr le mo gr A n c l h r) (hn : n ≤ 8) (a b : Int) (p1 p2 : Nat) (w : World)
    (h1 : w.cell? ⟨p1, 0, none⟩ = some (.int .i64 a)) (h2 : w.cell? ⟨p2, 0, none⟩ = some (.int .i64 b)) :
    Calls Tryd.prog 61 #[.agg cs, .pointer (some ⟨p1, 0, none⟩), .pointer (some ⟨p2, 0, none⟩)] w fun e w' => e = .returned (.bool (sumOk n a b)) ∧ Below w.heap.size w w' := by
  have hu2 := Tryd.underlying74
  have hu3 := Tryd.underlying24
  have c4 := hB.c4
  have q1 : (w.alloc (.cells cs 74)).cell? ⟨p1, 0, none⟩ = some (.int .i64 a) := cell_kept_below ((Below.refl _ _).alloc (Nat.le_refl _) _) h1
  have q2 : (w.alloc (.cells cs 74)).cell? ⟨p2, 0, none⟩ = some (.int .i64 b) := cell_kept_below ((Below.refl _ _).alloc (Nat.le_refl _) _) h2
  have gb : (w.alloc (.cells cs 74)).heap[w.heap.size]? = some (.cells cs 74) := Go.heap_alloc_new _ _
  have cb := (cell_of_row _ _ 4 _ _ _ gb).trans c4
  clear hB h1 h2 c4
  by_cases h1 : 0 ≤ a ∧ a ≤ b
  · by_cases h2 : b ≤ n
    · have hs : sumOk n a b = true := by simp [sumOk, h1, h2]
      have Hs := Lib.hid hs
      clear hs
      go_enter Tryd.func61, Tryd.ntmps61
      go_wp2_with (go_at_call 62; refine (in_true _ _ _ h1.1 h1.2 _).mono ?_; rintro e w1 ⟨rfl, rfl⟩)
      go_ret
      exact ⟨by rw [Hs.out]; rfl, (Below.refl _ _).alloc (Nat.le_refl _) _⟩
    · have hs : sumOk n a b = false := by simp [sumOk, h2]
      have hd : decide (b ≤ (n : Int)) = false := by simpa using h2
      have Hs := Lib.hid hs
      clear hs
      go_enter Tryd.func61, Tryd.ntmps61
      go_wp2_with (go_at_call 62; refine (in_true _ _ _ h1.1 h1.2 _).mono ?_; rintro e w1 ⟨rfl, rfl⟩)
      go_ret
      exact ⟨by rw [Hs.out]; rfl, (Below.refl _ _).alloc (Nat.le_refl _) _⟩
  · have hs : sumOk n a b = false := by
      simp only [sumOk, Bool.and_eq_false_iff, decide_eq_false_iff_not]
      by_cases h3 : 0 ≤ a
      · exact .inl (.inr (fun h4 => h1 ⟨h3, h4⟩))
      · exact .inl (.inl h3)
    have Hs := Lib.hid hs
    clear hs
    go_enter Tryd.func61, Tryd.ntmps61
    go_wp2_with (go_at_call 62; refine (in_false _ _ _ h1 _).mono ?_; rintro e w1 ⟨rfl, rfl⟩)
    go_ret
    exact ⟨by rw [Hs.out]; rfl, (Below.refl _ _).alloc (Nat.le_refl _) _⟩
set_option maxRecDepth 100000 in
theorem kind1_calls (cs : Array Value) (pr le mo gr : Int) (A : Option Addr) (n c : Nat) (l h : Nat → Int) (r : Nat) (hB : BookC cs pr le mo gr A n c l h r) (hn : n ≤ 8) (a b : Int) (hb : -9223372036854775808 ≤ b ∧ b ≤ 9223372036854775807) (p1 p2 : Nat) (w : World)
    (h1 : w.cell? ⟨p1, 0, none⟩ = some (.int .i64 a)) (h2 : w.cell? ⟨p2, 0, none⟩ = some (.int .i64 b)) :
    Calls Tryd.prog 67 #[.agg cs, .pointer (some ⟨p1, 0, none⟩), .pointer (some ⟨p2, 0, none⟩)] w fun e w' => e = .returned (.bool (boxB n gr a b)) ∧ Below w.heap.size w w' := by
  have hu := Tryd.underlying80
  have q1 : (w.alloc (.cells cs 74)).cell? ⟨p1, 0, none⟩ = some (.int .i64 a) := cell_kept_below ((Below.refl _ _).alloc (Nat.le_refl _) _) h1
  have q2 : (w.alloc (.cells cs 74)).cell? ⟨p2, 0, none⟩ = some (.int .i64 b) := cell_kept_below ((Below.refl _ _).alloc (Nat.le_refl _) _) h2
  have i74 : (Tryd.prog.info? 74).map (·.size) = some cs.size := by rw [hB.sz]; exact info74
  have I74 := Lib.hid i74
  have ib := Lib.hid (isBox_calls cs pr le mo gr A n c l h r hB a b hn hb)
  clear hB h1 h2 i74
  go_enter Tryd.func67, Tryd.ntmps67
  go_wp2_with (first
    | (refine wpList_load_row rfl 74 _ rfl w.heap.size rfl 74 cs (0, 0) _ (Go.heap_alloc_new _ _) Tryd.underlying74 rfl I74.out ?_)
    | (go_at_call 68; refine (ib.out _).mono ?_; rintro e w1 ⟨rfl, hb1⟩))
  go_ret
  exact ⟨rfl, ((Below.refl _ _).alloc (Nat.le_refl _) _).trans (hb1.mono (by simp))⟩
theorem two_one (x y : Int) : (#[Value.int .i64 x, .int .i64 y] : Array Value).all (·.oneCell') = true := by simp [Value.oneCell']
theorem built27z : Tryd.prog.built 27 [] = some #[.int .i64 0, .int .i64 0] := by kernel_rfl
def SumApiPost (w : World) (q : List (Int × Int)) (a b : Int) (ck : Bool) (e : Ending) (w' : World) : Prop :=
  Below w.heap.size w w' ∧ (ck = false → e = .returned (.tuple #[.agg #[.int .i64 0, .int .i64 0], .int .i64 50])) ∧
  (ck = true → sumOk q.length a b = false → e = .returned (.tuple #[.agg #[.int .i64 0, .int .i64 0], .int .i64 51])) ∧
  (ck = true → sumOk q.length a b = true → e = .returned (.tuple #[.agg #[.int .i64 (sg (lowOf q) a.toNat b.toNat), .int .i64 (sg (highOf q) a.toNat b.toNat)], .int .i64 0]))
set_option maxRecDepth 100000 in
set_option maxHeartbeats 2000000 in
theorem apiSum_calls (pr le mo gr : Int) (A : Option Addr) (n c : Nat) (q : List (Int × Int)) (hn : n = q.length) (hc : q.length ≤ c) (hl : q.length ≤ 9223372036854775807)
    (a b : Int) (w : World) (hrd : RdH w A q) (hLd : Laid w) :
    Calls Tryd.prog 15 #[.agg #[.int .i64 pr, .int .i64 le, .int .i64 mo, .int .i64 gr, .slice A n c], .int .i64 a, .int .i64 b] w (SumApiPost w q a b (checkB pr le mo gr q)) := by
  have h61 : ∀ args w, (callFunc 61 args).run Tryd.prog w = .ok (.enter 61 args) w := enters Tryd.func61 (by kernel_rfl) (by kernel_rfl)
  have ask := fun (p1 p2 : Nat) (W : World) (hb : Below w.heap.size w W) (k1 : W.cell? ⟨p1, 0, none⟩ = some (.int .i64 a)) (k2 : W.cell? ⟨p2, 0, none⟩ = some (.int .i64 b)) =>
    asked_calls 61 #[.pointer (some ⟨p1, 0, none⟩), .pointer (some ⟨p2, 0, none⟩)] h61 (sumOk q.length a b) pr le mo gr A n c q hn hc hl W (hrd.below hb)
      (fun hck r W2 hb2 => sum1_calls _ pr le mo gr A q.length c (lowOf q) (highOf q) r (openCells_bookC _ _ _ _ _ _ _ _ _ (bookF hck).n8) (bookF hck).n8 a b p1 p2 W2 (cell_kept_below hb2 k1) (cell_kept_below hb2 k2))
  clear hn
  have Ask := Lib.hid ask
  have HLd := Lib.hid hLd
  clear hrd ask hLd h61
  have hu27 := Tryd.underlying27
  have hz := run_zero74
  have hz27 := zero27
  have i24 : (Tryd.prog.info? 24).map (·.size) = some (#[Value.int .i64 pr, .int .i64 le, .int .i64 mo, .int .i64 gr, .slice A n c] : Array Value).size := info24
  have i74z : (Tryd.prog.info? 74).map (·.size) = some z22.size := info74
  have hb0 : Below w.heap.size w ((((w.alloc (.cells #[.int .i64 pr, .int .i64 le, .int .i64 mo, .int .i64 gr, .slice A n c] 24)).alloc (.cells #[.int .i64 a] 3)).alloc (.cells #[.int .i64 b] 3)).alloc (.cells #[.int .i64 0, .int .i64 0] 27)) := (((((Below.refl _ _).alloc (Nat.le_refl _) _).alloc (by simp) _).alloc (by simp <;> omega) _).alloc (by simp <;> omega) _)
  have k1 : ((((w.alloc (.cells #[.int .i64 pr, .int .i64 le, .int .i64 mo, .int .i64 gr, .slice A n c] 24)).alloc (.cells #[.int .i64 a] 3)).alloc (.cells #[.int .i64 b] 3)).alloc (.cells #[.int .i64 0, .int .i64 0] 27)).cell? ⟨w.heap.size + 1, 0, none⟩ = some (.int .i64 a) := by go_simp
  have k2 : ((((w.alloc (.cells #[.int .i64 pr, .int .i64 le, .int .i64 mo, .int .i64 gr, .slice A n c] 24)).alloc (.cells #[.int .i64 a] 3)).alloc (.cells #[.int .i64 b] 3)).alloc (.cells #[.int .i64 0, .int .i64 0] 27)).cell? ⟨w.heap.size + 1 + 1, 0, none⟩ = some (.int .i64 b) := by go_simp
  have g6 : ((((w.alloc (.cells #[.int .i64 pr, .int .i64 le, .int .i64 mo, .int .i64 gr, .slice A n c] 24)).alloc (.cells #[.int .i64 a] 3)).alloc (.cells #[.int .i64 b] 3)).alloc (.cells #[.int .i64 0, .int .i64 0] 27)).heap[w.heap.size + 1 + 1 + 1]? = some (.cells #[.int .i64 0, .int .i64 0] 27) := by have := Go.heap_alloc_new (((w.alloc (.cells #[.int .i64 pr, .int .i64 le, .int .i64 mo, .int .i64 gr, .slice A n c] 24)).alloc (.cells #[.int .i64 a] 3)).alloc (.cells #[.int .i64 b] 3)) (.cells #[.int .i64 0, .int .i64 0] 27); simpa using this
  have i27 : ∀ x y : Int, (Tryd.prog.info? 27).map (·.size) = some (#[Value.int .i64 x, .int .i64 y] : Array Value).size := fun x y => by
    have h : (Tryd.prog.info? 27).map (·.size) = some 2 := by kernel_rfl
    exact h
  have I27 := Lib.hid i27
  have B0 := Lib.hid (And.intro hb0 (And.intro k1 (And.intro k2 g6)))
  clear i27 hb0 k1 k2 g6
  have bad : ∀ (k : Int), k ≠ 0 → (∀ p1 p2 W, Below w.heap.size w W → W.cell? ⟨p1, 0, none⟩ = some (.int .i64 a) → W.cell? ⟨p2, 0, none⟩ = some (.int .i64 b) → Calls Tryd.prog 60 #[.agg #[.int .i64 pr, .int .i64 le, .int .i64 mo, .int .i64 gr, .slice A n c], .func (.func 61) #[] #[.pointer (some ⟨p1, 0, none⟩), .pointer (some ⟨p2, 0, none⟩)]] W (fun e W' => e = .returned (.tuple #[.agg z22, .int .i64 k]) ∧ Below W.heap.size W W')) →
      Calls Tryd.prog 15 #[.agg #[.int .i64 pr, .int .i64 le, .int .i64 mo, .int .i64 gr, .slice A n c], .int .i64 a, .int .i64 b] w (fun e W' => e = .returned (.tuple #[.agg #[.int .i64 0, .int .i64 0], .int .i64 k]) ∧ Below w.heap.size w W') := by
    intro k hk hP
    have hk1 : (k != 0) = true := by simpa using hk
    have HP := Lib.hid hP
    clear hP
    go_enter Tryd.func15, Tryd.ntmps15
    go_wp2_with (first
      | (go_at_call 60; refine (HP.out (w.heap.size + 1) (w.heap.size + 1 + 1) _ B0.out.1 B0.out.2.1 B0.out.2.2.1).mono ?_; rintro e w1 ⟨rfl, hb1⟩; have g7 := below_heap hb1 B0.out.2.2.2; have hb2 := B0.out.1.trans (hb1.mono (by simp <;> omega)); have hs2 := hb1.size; simp at hs2; have hb5 := below_setRow (g := w1.heap.size) ((Below.refl w1.heap.size w1).alloc (Nat.le_refl _) (.cells z22 74)) (Nat.le_refl _) z22; have g9 := below_heap hb5 g7)
      | (refine wpList_store_row rfl 74 _ _ rfl w1.heap.size z22 rfl rfl 74 z22 (Go.heap_alloc_new _ _) i74z rfl z22_one ?_)
      | (refine wpList_built rfl 27 #[] rfl [] (by kernel_rfl) built27z ?_)
      | (refine wpList_store_row rfl 27 _ _ rfl (w.heap.size + 1 + 1 + 1) #[.int .i64 0, .int .i64 0] rfl rfl 27 #[.int .i64 0, .int .i64 0] g9 (I27.out 0 0) rfl (two_one 0 0) ?_))
    exact bodyPost_ret (v := .tuple #[.agg #[.int .i64 0, .int .i64 0], .int .i64 k]) (results_row_tmp Tryd.results15 _ _ (w.heap.size + 1 + 1 + 1) 27 _ (0, 0) _ rfl (setRow_heap _ _ _ _ _ _ g9) Tryd.underlying27 rfl (I27.out 0 0) _ rfl) rfl
      ⟨rfl, below_setRow (hb2.trans (hb5.mono (by omega))) (by omega) _⟩
  cases hck : checkB pr le mo gr q with
  | false =>
    rw [hck] at Ask
    refine (bad 50 (by decide) (fun p1 p2 W hb k1 k2 => (Ask.out p1 p2 W hb k1 k2).mono ?_)).mono ?_
    · rintro e W' ⟨h1, h2⟩
      exact ⟨h2, h1⟩
    · rintro e W' ⟨rfl, h⟩
      exact ⟨h, fun _ => rfl, fun h => (by cases h), fun h => (by cases h)⟩
  | true =>
    rw [hck] at Ask
    cases hok : sumOk q.length a b with
    | false =>
      rw [hok] at Ask
      refine (bad 51 (by decide) (fun p1 p2 W hb k1 k2 => (Ask.out p1 p2 W hb k1 k2).mono ?_)).mono ?_
      · rintro e W' ⟨h1, h2⟩
        exact ⟨h2, h1⟩
      · rintro e W' ⟨rfl, h⟩
        exact ⟨h, fun h => (by cases h), fun _ _ => rfl, fun _ h => absurd (hok.symm.trans h) (by decide)⟩
    | true =>
      rw [hok] at Ask
      have hF := bookF hck
      have h8 := hF.n8
      have Hok2 := Lib.hid hok
      simp only [sumOk, Bool.and_eq_true, decide_eq_true_eq] at hok
      have hab : 0 ≤ a ∧ a ≤ b ∧ b ≤ 8 := by omega
      have ea : ((a.toNat : Nat) : Int) = a := by omega
      have eb : ((b.toNat : Nat) : Int) = b := by omega
      have i74o := fun r => openCells_i74 pr le mo gr A q.length c q r h8
      have o22 := fun r => openCells_size pr le mo gr A q.length c q r h8
      have I74 := Lib.hid (And.intro i74o o22)
      have smc := fun (r : Nat) (W : World) (hb : Below w.heap.size w W) (hm : W.heap[r]? = some (.map #[] 0)) =>
        sum_calls (openCells pr le mo gr A q.length c q r) pr le mo gr A q.length c (lowOf q) (highOf q) r (openCells_bookC _ _ _ _ _ _ _ _ _ h8) hF.hl hF.hh a.toNat b.toNat (by omega) (by omega) W (memo0 hm _) (HLd.out.below hb).1 (HLd.out.below hb).2
      rw [ea, eb] at smc
      have Smc := Lib.hid smc
      have Hok := Lib.hid hok
      clear smc i74o o22 hF hck bad ea eb hab hok
      go_enter Tryd.func15, Tryd.ntmps15
      go_wp2_with (first
        | (go_at_call 60; refine (Ask.out (w.heap.size + 1) (w.heap.size + 1 + 1) _ B0.out.1 B0.out.2.1 B0.out.2.2.1).mono ?_; rintro e w1 ⟨hb1, r, rfl, hm, hr⟩; have g7 := below_heap hb1 B0.out.2.2.2; have k3 := cell_kept_below hb1 B0.out.2.1; have k4 := cell_kept_below hb1 B0.out.2.2.1; have hb2 := B0.out.1.trans (hb1.mono (by simp <;> omega)); have hs2 := hb1.size; simp at hs2; simp at hr; have hb5 := below_setRow (g := w1.heap.size) ((Below.refl w1.heap.size w1).alloc (Nat.le_refl _) (.cells z22 74)) (Nat.le_refl _) (openCells pr le mo gr A q.length c q r); have g9 := below_heap hb5 g7; have k5 := cell_kept_below hb5 k3; have k6 := cell_kept_below hb5 k4; have hm5 := below_heap hb5 hm)
        | (refine wpList_store_row rfl 74 _ _ rfl w1.heap.size (openCells pr le mo gr A q.length c q r) rfl rfl 74 z22 (Go.heap_alloc_new _ _) (I74.out.1 r) (I74.out.2 r).symm (openCells_one _ _ _ _ _ _ _ _ _) ?_)
        | (refine wpList_load_row rfl 74 _ rfl w1.heap.size rfl 74 (openCells pr le mo gr A q.length c q r) (0, 0) _ (setRow_heap _ _ _ _ _ _ (Go.heap_alloc_new _ _)) Tryd.underlying74 rfl (I74.out.1 r) ?_)
        | (go_at_call 63; refine (Smc.out r _ (hb2.trans (hb5.mono (by omega))) hm5).mono ?_; rintro e w3 ⟨rfl, hk3, hM3⟩; have hb7 := hb5.size; simp at hb7; have hb8 : Below w.heap.size w w3 := ((KeepsBut.of_below (hb2.trans (hb5.mono (by omega)))).trans hk3).below (Nat.le_refl _) (fun k hk => by have : k = r := hk; omega); have g10 := (hk3.same (w.heap.size + 1 + 1 + 1) (by simp <;> omega) (fun h => by have : w.heap.size + 1 + 1 + 1 = r := h; omega)).trans g9)
        | (refine wpList_store_row rfl 27 _ _ rfl (w.heap.size + 1 + 1 + 1) #[.int .i64 (sg (lowOf q) a.toNat b.toNat), .int .i64 (sg (highOf q) a.toNat b.toNat)] rfl rfl 27 #[.int .i64 0, .int .i64 0] g10 (I27.out _ _) rfl (two_one _ _) ?_))
      exact bodyPost_ret (v := .tuple #[.agg #[.int .i64 (sg (lowOf q) a.toNat b.toNat), .int .i64 (sg (highOf q) a.toNat b.toNat)], .int .i64 0]) (results_row_tmp Tryd.results15 _ _ (w.heap.size + 1 + 1 + 1) 27 _ (0, 0) _ rfl (setRow_heap _ _ _ _ _ _ g10) Tryd.underlying27 rfl (I27.out _ _) _ rfl) rfl
        ⟨below_setRow hb8 (by omega) _, fun h => (by cases h), fun _ h => absurd (Hok2.out.symm.trans h) (by decide), fun _ _ => rfl⟩
end Go.Proofs.YtbbdbdamedaldaaDoor.Fl
end
section
namespace Go.Proofs.YtbbdbdamedaldaaDoor.Fl
open Go Go.RowKit Go.Proofs.EqArr Go.Proofs.RngLaw Go.Proofs.CopyN
theorem built80 (a b : Int) : Tryd.prog.built 80 [(0, .int .i64 a), (1, .int .i64 b)] = some #[.int .i64 a, .int .i64 b] := by kernel_rfl
def KindPost (w : World) (pr le mo gr : Int) (q : List (Int × Int)) (a b : Int) (ck : Bool) (e : Ending) (w' : World) : Prop :=
  Below w.heap.size w w' ∧ (ck = false → e = .returned (.tuple #[.int .i64 0, .int .i64 50])) ∧
  (ck = true → boxB q.length gr a b = false → e = .returned (.tuple #[.int .i64 0, .int .i64 51])) ∧
  (ck = true → boxB q.length gr a b = true → e = .returned (.tuple #[.int .i64 (kindOf pr le mo (sg (lowOf q) a.toNat b.toNat) (sg (highOf q) a.toNat b.toNat)), .int .i64 0]))
set_option maxRecDepth 100000 in
set_option maxHeartbeats 2000000 in
theorem apiKind_calls (pr le mo gr : Int) (A : Option Addr) (n c : Nat) (q : List (Int × Int)) (hn : n = q.length) (hc : q.length ≤ c) (hl : q.length ≤ 9223372036854775807)
    (a b : Int) (hb64 : -9223372036854775808 ≤ b ∧ b ≤ 9223372036854775807) (w : World) (hrd : RdH w A q) (hLd : Laid w) :
    Calls Tryd.prog 19 #[.agg #[.int .i64 pr, .int .i64 le, .int .i64 mo, .int .i64 gr, .slice A n c], .int .i64 a, .int .i64 b] w (KindPost w pr le mo gr q a b (checkB pr le mo gr q)) := by
  have h67 : ∀ args w, (callFunc 67 args).run Tryd.prog w = .ok (.enter 67 args) w := enters Tryd.func67 (by kernel_rfl) (by kernel_rfl)
  have ask := fun (p1 p2 : Nat) (W : World) (hb : Below w.heap.size w W) (k1 : W.cell? ⟨p1, 0, none⟩ = some (.int .i64 a)) (k2 : W.cell? ⟨p2, 0, none⟩ = some (.int .i64 b)) =>
    asked_calls 67 #[.pointer (some ⟨p1, 0, none⟩), .pointer (some ⟨p2, 0, none⟩)] h67 (boxB q.length gr a b) pr le mo gr A n c q hn hc hl W (hrd.below hb)
      (fun hck r W2 hb2 => kind1_calls _ pr le mo gr A q.length c (lowOf q) (highOf q) r (openCells_bookC _ _ _ _ _ _ _ _ _ (bookF hck).n8) (bookF hck).n8 a b hb64 p1 p2 W2 (cell_kept_below hb2 k1) (cell_kept_below hb2 k2))
  clear hn
  have Ask := Lib.hid ask
  have HLd := Lib.hid hLd
  clear hrd ask hLd h67
  have hu80 := Tryd.underlying80
  have hz := run_zero74
  have i24 : (Tryd.prog.info? 24).map (·.size) = some (#[Value.int .i64 pr, .int .i64 le, .int .i64 mo, .int .i64 gr, .slice A n c] : Array Value).size := info24
  have i74z : (Tryd.prog.info? 74).map (·.size) = some z22.size := info74
  have hb0 : Below w.heap.size w (((w.alloc (.cells #[.int .i64 pr, .int .i64 le, .int .i64 mo, .int .i64 gr, .slice A n c] 24)).alloc (.cells #[.int .i64 a] 3)).alloc (.cells #[.int .i64 b] 3)) := ((((Below.refl _ _).alloc (Nat.le_refl _) _).alloc (by simp) _).alloc (by simp <;> omega) _)
  have k1 : (((w.alloc (.cells #[.int .i64 pr, .int .i64 le, .int .i64 mo, .int .i64 gr, .slice A n c] 24)).alloc (.cells #[.int .i64 a] 3)).alloc (.cells #[.int .i64 b] 3)).cell? ⟨w.heap.size + 1, 0, none⟩ = some (.int .i64 a) := by go_simp
  have k2 : (((w.alloc (.cells #[.int .i64 pr, .int .i64 le, .int .i64 mo, .int .i64 gr, .slice A n c] 24)).alloc (.cells #[.int .i64 a] 3)).alloc (.cells #[.int .i64 b] 3)).cell? ⟨w.heap.size + 1 + 1, 0, none⟩ = some (.int .i64 b) := by go_simp
  have B0 := Lib.hid (And.intro hb0 (And.intro k1 k2))
  clear hb0 k1 k2
  have bad : ∀ (k : Int), k ≠ 0 → (∀ p1 p2 W, Below w.heap.size w W → W.cell? ⟨p1, 0, none⟩ = some (.int .i64 a) → W.cell? ⟨p2, 0, none⟩ = some (.int .i64 b) → Calls Tryd.prog 60 #[.agg #[.int .i64 pr, .int .i64 le, .int .i64 mo, .int .i64 gr, .slice A n c], .func (.func 67) #[] #[.pointer (some ⟨p1, 0, none⟩), .pointer (some ⟨p2, 0, none⟩)]] W (fun e W' => e = .returned (.tuple #[.agg z22, .int .i64 k]) ∧ Below W.heap.size W W')) →
      Calls Tryd.prog 19 #[.agg #[.int .i64 pr, .int .i64 le, .int .i64 mo, .int .i64 gr, .slice A n c], .int .i64 a, .int .i64 b] w (fun e W' => e = .returned (.tuple #[.int .i64 0, .int .i64 k]) ∧ Below w.heap.size w W') := by
    intro k hk hP
    have hk1 : (k != 0) = true := by simpa using hk
    have HP := Lib.hid hP
    clear hP
    go_enter Tryd.func19, Tryd.ntmps19
    go_wp2_with (first
      | (go_at_call 60; refine (HP.out (w.heap.size + 1) (w.heap.size + 1 + 1) _ B0.out.1 B0.out.2.1 B0.out.2.2).mono ?_; rintro e w1 ⟨rfl, hb1⟩; have hb2 := B0.out.1.trans (hb1.mono (by simp <;> omega)); have hs2 := hb1.size; simp at hs2)
      | (refine wpList_store_row rfl 74 _ _ rfl w1.heap.size z22 rfl rfl 74 z22 (Go.heap_alloc_new _ _) i74z rfl z22_one ?_))
    go_ret2
    exact ⟨rfl, below_setRow (hb2.alloc (by omega) _) (by omega) _⟩
  cases hck : checkB pr le mo gr q with
  | false =>
    rw [hck] at Ask
    refine (bad 50 (by decide) (fun p1 p2 W hb k1 k2 => (Ask.out p1 p2 W hb k1 k2).mono ?_)).mono ?_
    · rintro e W' ⟨h1, h2⟩
      exact ⟨h2, h1⟩
    · rintro e W' ⟨rfl, h⟩
      exact ⟨h, fun _ => rfl, fun h => (by cases h), fun h => (by cases h)⟩
  | true =>
    rw [hck] at Ask
    cases hok : boxB q.length gr a b with
    | false =>
      rw [hok] at Ask
      refine (bad 51 (by decide) (fun p1 p2 W hb k1 k2 => (Ask.out p1 p2 W hb k1 k2).mono ?_)).mono ?_
      · rintro e W' ⟨h1, h2⟩
        exact ⟨h2, h1⟩
      · rintro e W' ⟨rfl, h⟩
        exact ⟨h, fun h => (by cases h), fun _ _ => rfl, fun _ h => absurd (hok.symm.trans h) (by decide)⟩
    | true =>
      rw [hok] at Ask
      have hF := bookF hck
      have h8 := hF.n8
      have Hok2 := Lib.hid hok
      have hok3 := (boxB_iff _ _ _ _).1 hok
      have hab : 0 ≤ a ∧ a ≤ b ∧ b ≤ 8 := by omega
      have ea : ((a.toNat : Nat) : Int) = a := by omega
      have eb : ((b.toNat : Nat) : Int) = b := by omega
      have i74o := fun r => openCells_i74 pr le mo gr A q.length c q r h8
      have o22 := fun r => openCells_size pr le mo gr A q.length c q r h8
      have I74 := Lib.hid (And.intro i74o o22)
      have smc := fun (r : Nat) (W : World) (hb : Below w.heap.size w W) (hm : W.heap[r]? = some (.map #[] 0)) =>
        sum_calls (openCells pr le mo gr A q.length c q r) pr le mo gr A q.length c (lowOf q) (highOf q) r (openCells_bookC _ _ _ _ _ _ _ _ _ h8) hF.hl hF.hh a.toNat b.toNat (by omega) (by omega) W (memo0 hm _) (HLd.out.below hb).1 (HLd.out.below hb).2
      have knd := fun (r : Nat) (lo hi : Int) (W : World) =>
        kind_calls (openCells pr le mo gr A q.length c q r) pr le mo gr A q.length c (lowOf q) (highOf q) r (openCells_bookC _ _ _ _ _ _ _ _ _ h8) lo hi hF.b1 hF.b2 hF.b3 hF.b4 hF.b5 hF.b6 W
      rw [ea, eb] at smc
      have Smc := Lib.hid (And.intro smc knd)
      clear smc knd i74o o22 hF hck bad ea eb hab hok hok3
      go_enter Tryd.func19, Tryd.ntmps19
      go_wp2_with (first
        | (go_at_call 60; refine (Ask.out (w.heap.size + 1) (w.heap.size + 1 + 1) _ B0.out.1 B0.out.2.1 B0.out.2.2).mono ?_; rintro e w1 ⟨hb1, r, rfl, hm, hr⟩; have k3 := cell_kept_below hb1 B0.out.2.1; have k4 := cell_kept_below hb1 B0.out.2.2; have hb2 := B0.out.1.trans (hb1.mono (by simp <;> omega)); have hs2 := hb1.size; simp at hs2; simp at hr; have hr2 : r < w1.heap.size := (Array.getElem?_eq_some_iff.1 hm).1; have hb5 := below_setRow (g := w1.heap.size) ((Below.refl w1.heap.size w1).alloc (Nat.le_refl _) (.cells z22 74)) (Nat.le_refl _) (openCells pr le mo gr A q.length c q r); have k5 := cell_kept_below hb5 k3; have k6 := cell_kept_below hb5 k4; have hm5 := below_heap hb5 hm)
        | (refine wpList_store_row rfl 74 _ _ rfl w1.heap.size (openCells pr le mo gr A q.length c q r) rfl rfl 74 z22 (Go.heap_alloc_new _ _) (I74.out.1 r) (I74.out.2 r).symm (openCells_one _ _ _ _ _ _ _ _ _) ?_))
      have g5 : ((w1.alloc (.cells z22 74)).setRow w1.heap.size (openCells pr le mo gr A q.length c q r)).heap[w1.heap.size]? = some (.cells (openCells pr le mo gr A q.length c q r) 74) := setRow_heap _ _ _ _ _ _ (Go.heap_alloc_new _ _)
      have hbw := hb2.trans (hb5.mono (by omega))
      have hs5 := hb5.size
      obtain ⟨W5, hW5⟩ : ∃ W, W = (w1.alloc (.cells z22 74)).setRow w1.heap.size (openCells pr le mo gr A q.length c q r) := ⟨_, rfl⟩
      have hgt : w1.heap.size < W5.heap.size := by rw [hW5]; exact (Array.getElem?_eq_some_iff.1 g5).1
      rw [← hW5] at g5 hbw k5 k6 hm5 hs5 ⊢
      clear hW5 hb5
      refine wp_region_held_drew (S := fun W => W.heap[w1.heap.size]? = some (.cells (openCells pr le mo gr A q.length c q r) 74) ∧ W.cell? ⟨w.heap.size + 1, 0, none⟩ = some (.int .i64 a) ∧ W.cell? ⟨w.heap.size + 1 + 1, 0, none⟩ = some (.int .i64 b)) (by kernel_rfl) ⟨g5, k5, k6⟩ (fun hS => ?_)
      refine wpAnyH_take (i := 0) (oi := _) (v := .agg (openCells pr le mo gr A q.length c q r)) rfl (by kernel_rfl) (by kernel_rfl) (by kernel_rfl) (fun _ _ _ h => h) (yieldsIf_load_row (by rfl) _ _ rfl _ rfl _ (openCells pr le mo gr A q.length c q r) (0, 0) _ (fun W hW => hW.1) Tryd.underlying74 rfl (I74.out.1 r)) (by assumption) ?_
      simp only [Act.put, List.getElem_toArray, List.getElem_cons_succ, List.getElem_cons_zero, List.setIfInBounds_toArray, List.set_cons_zero, List.set_cons_succ]
      refine wpAnyH_take (i := 1) (oi := _) (v := .agg (openCells pr le mo gr A q.length c q r)) rfl (by kernel_rfl) (by kernel_rfl) (by kernel_rfl) (fun _ _ _ h => h) (yieldsIf_load_row (by rfl) _ _ rfl _ rfl _ (openCells pr le mo gr A q.length c q r) (0, 0) _ (fun W hW => hW.1) Tryd.underlying74 rfl (I74.out.1 r)) (by assumption) ?_
      simp only [Act.put, List.getElem_toArray, List.getElem_cons_succ, List.getElem_cons_zero, List.setIfInBounds_toArray, List.set_cons_zero, List.set_cons_succ]
      refine wpAnyH_take (i := 2) (oi := _) (v := .int .i64 a) rfl (by kernel_rfl) (by kernel_rfl) (by kernel_rfl) (fun _ _ _ h => h) (Or.inl ⟨by rfl, fun W hW => ?_⟩) (by assumption) ?_
      · have hc1 := hW.2.1
        go_simp
      simp only [Act.put, List.getElem_toArray, List.getElem_cons_succ, List.getElem_cons_zero, List.setIfInBounds_toArray, List.set_cons_zero, List.set_cons_succ]
      refine wpAnyH_take (i := 3) (oi := _) (v := .int .i64 b) rfl (by kernel_rfl) (by kernel_rfl) (by kernel_rfl) (fun _ _ _ h => h) (Or.inl ⟨by rfl, fun W hW => ?_⟩) (by assumption) ?_
      · have hc1 := hW.2.2
        go_simp
      simp only [Act.put, List.getElem_toArray, List.getElem_cons_succ, List.getElem_cons_zero, List.setIfInBounds_toArray, List.set_cons_zero, List.set_cons_succ]
      refine wpAnyH_take (i := 4) (oi := _) (v := .agg #[.int .i64 a, .int .i64 b]) rfl (by kernel_rfl) (by kernel_rfl) (by kernel_rfl) (fun _ _ _ h => h) (yieldsIf_build (by rfl) _ _ rfl [(0, .int .i64 a), (1, .int .i64 b)] (by kernel_rfl) (built80 a b)) (by assumption) ?_
      simp only [Act.put, List.getElem_toArray, List.getElem_cons_succ, List.getElem_cons_zero, List.setIfInBounds_toArray, List.set_cons_zero, List.set_cons_succ]
      refine wpAnyH_ready (rs := [5]) (by kernel_rfl) (by simp) ?_
      refine AllReadyH.cons rfl (fun K hK => ?_) AllReadyH.nil
      go_simp
      refine (Smc.out.1 r _ (by exact hbw.drew) (by exact hm5)).mono ?_
      rintro e w3 ⟨rfl, hk3, hM3⟩
      refine hK.out _ _ ⟨(hk3.same _ (by exact hgt) (by omega)).trans g5, hk3.cell (by exact k5) (by simp; omega), hk3.cell (by exact k6) (by simp; omega)⟩ (fun hS1 => ?_)
      clear hK K
      refine wpAnyH_ready (rs := [6]) (by kernel_rfl) (by simp) ?_
      refine AllReadyH.cons rfl (fun K hK => ?_) AllReadyH.nil
      go_simp
      refine (Smc.out.2 r _ _ _).mono ?_
      rintro e w4 ⟨rfl, hb4⟩
      refine hK.out _ _ ⟨below_heap hb4 hS1.1, cell_kept_below hb4 hS1.2.1, cell_kept_below hb4 hS1.2.2⟩ (fun hS2 => ?_)
      clear hK K
      refine wpAnyH_take (i := 7) (oi := _) (v := .int .i64 (kindOf pr le mo (sg (lowOf q) a.toNat b.toNat) (sg (highOf q) a.toNat b.toNat))) rfl (by kernel_rfl) (by kernel_rfl) (by kernel_rfl) (fun _ _ _ h => h) (Or.inl ⟨by rfl, fun W hW => ?_⟩) (by assumption) ?_
      · go_simp
      simp only [Act.put, List.getElem_toArray, List.getElem_cons_succ, List.getElem_cons_zero, List.setIfInBounds_toArray, List.set_cons_zero, List.set_cons_succ]
      refine wpAnyH_take (i := 8) (oi := _) (v := .int .i64 0) rfl (by kernel_rfl) (by kernel_rfl) (by kernel_rfl) (fun _ _ _ h => h) (Or.inl ⟨by rfl, fun W hW => ?_⟩) (by assumption) ?_
      · go_simp
      simp only [Act.put, List.getElem_toArray, List.getElem_cons_succ, List.getElem_cons_zero, List.setIfInBounds_toArray, List.set_cons_zero, List.set_cons_succ]
      refine wpAnyH_done (by kernel_rfl) ?_ _
      go_wp2
      go_ret2
      have hb6 : Below w.heap.size w w3 := ((KeepsBut.of_below hbw).trans hk3.undrew).below (Nat.le_refl _) (fun k hk => by have : k = r := hk; omega)
      exact ⟨hb6.trans (hb4.mono hb6.size), fun h => (by cases h), fun _ h => absurd (Hok2.out.symm.trans h) (by decide), fun _ _ => rfl⟩
end Go.Proofs.YtbbdbdamedaldaaDoor.Fl
end
