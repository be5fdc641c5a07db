/- The card of FillAsk: the row, its listed variable tied to the program's text. Whatever the input, the law returns true, and each argument reads afterwards as it did. (part 5) -/
import Derived.Test.YtbbdbdamedaldaaDoorProg
import Derived.WalkKit
import Derived.Below
import Derived.KernelRfl
import Derived.Laws.NewBlocks
import Derived.Deep.QuietTactic
import Derived.BigQuiet
import Derived.Deep.RegionHeld3
import Derived.WalkSpells
import Derived.Lib.Hide
import Derived.Laws.Rows
import Derived.Laws.Tables
import Derived.Laws.CopyRow
import Derived.OwnWalk
import Derived.Laws.StructEq
import Derived.RangeFuncRecord
import Derived.Deep.MidRow
import Derived.Deep.DeepCutAuto
import Derived.RangeFuncWrites
import Derived.RangeFuncBound
import Derived.RangeFuncCalls
import Derived.RangeFuncLeaves
import Derived.Outline
import Derived.Maps.AppendAt
import Derived.Deep.AppendLies
import Derived.WalkSmall
import Derived.WalkMore
import Derived.Test.YtbbdbdamedaldaaDoorAsk3
set_option linter.unusedVariables false
set_option linter.unusedSimpArgs false
section
namespace Go.Proofs.YtbbdbdamedaldaaDoor.Fl
open Go Go.RowKit
structure BookC (cs : Array Value) (pr le mo gr : Int) (A : Option Addr) (n c : Nat) (l h : Nat → Int) (r : Nat) : Prop where
  sz : cs.size = 22
  c0 : cs[0]? = some (.int .i64 pr)
  c1 : cs[1]? = some (.int .i64 le)
  c2 : cs[2]? = some (.int .i64 mo)
  c3 : cs[3]? = some (.int .i64 gr)
  c4 : cs[4]? = some (.slice A n c)
  cl : ∀ i : Nat, i < 8 → cs[5 + 2 * i]? = some (.int .i64 (l i))
  ch : ∀ i : Nat, i < 8 → cs[6 + 2 * i]? = some (.int .i64 (h i))
  c21 : cs[21]? = some (.map (some r))
theorem info74 : (Tryd.prog.info? 74).map (·.size) = some 22 := by kernel_rfl
theorem info71 : (Tryd.prog.info? 71).map (·.size) = some 16 := by kernel_rfl
theorem zero71 : (Tryd.prog.info? 71).map (fun i => (i.zero, i.size, i.bytes)) = some (some (.agg (Array.replicate 16 (.int .i64 0))), 16, 128) := by kernel_rfl
theorem nothing_calls (w : World) : Calls Tryd.prog 93 #[] w fun e w' => e = .returned (.agg #[.int .i64 0, .int .i64 0]) ∧ Below w.heap.size w w' := by
  have hu := Tryd.underlying80
  go_enter Tryd.func93, Tryd.ntmps93
  go_wp2
  exact bodyPost_ret (v := .agg #[.int .i64 0, .int .i64 0]) (by simp [results, Tryd.results93, go_sem]) rfl ⟨rfl, (((Below.refl _ _).alloc (Nat.le_refl _) _).alloc (by simp) _)⟩
def zeros16 : Array Value := Array.replicate 16 (.int .i64 0)
theorem run_zero71 (w : World) : (zeroValue 71).run Tryd.prog w = .ok (.agg zeros16) w := by
  have h := zero71
  cases hq : Tryd.prog.info? 71 with
  | none => simp [hq] at h
  | some i =>
    have hz : i.zero = some (.agg zeros16) := by simp [hq] at h; rw [h.1]; rfl
    simp [zeroValue, typeInfo, hq, hz]
theorem empty_calls (w : World) : Calls Tryd.prog 94 #[] w fun e w' => e = .returned (.agg zeros16) ∧ Below w.heap.size w w' := by
  have hz := run_zero71
  have i71 : (Tryd.prog.info? 71).map (·.size) = some zeros16.size := info71
  go_enter Tryd.func94, Tryd.ntmps94
  go_wp2_with (first
    | (refine wpList_load_row rfl 71 _ rfl (w.heap.size + 1) rfl 71 zeros16 (0, 0) _ (heap_alloc2_new _ _ _) Tryd.underlying71 rfl i71 ?_)
    | (refine wpList_store_row rfl 71 _ _ rfl w.heap.size zeros16 rfl rfl 71 zeros16 (heap_alloc2_old _ _ _) i71 rfl (by decide +kernel) ?_))
  exact bodyPost_ret (v := .agg zeros16) (results_cell_row Tryd.results94 _ _ w.heap.size 71 zeros16 (0, 0) _ rfl (setRow_heap _ _ _ _ _ _ (heap_alloc2_old _ _ _)) Tryd.underlying71 rfl i71) rfl ⟨rfl, by
    rw [setRow_self _ _ _ _ _ (heap_alloc2_old _ _ _)]
    exact ((Below.refl _ _).alloc (Nat.le_refl _) _).alloc (by simp) _⟩
theorem in_true (x a b : Int) (h1 : a ≤ x) (h2 : x ≤ b) (w : World) : Calls Tryd.prog 62 #[.int .i64 x, .int .i64 a, .int .i64 b] w fun e w' => e = .returned (.bool true) ∧ w' = w := by
  have hd : decide (a ≤ x) = true := by simpa using h1
  have hd2 : decide (x ≤ b) = true := by simpa using h2
  go_enter Tryd.func62, Tryd.ntmps62
  go_wp2
  go_ret
  exact ⟨rfl, rfl⟩
theorem in_false (x a b : Int) (h : ¬ (a ≤ x ∧ x ≤ b)) (w : World) : Calls Tryd.prog 62 #[.int .i64 x, .int .i64 a, .int .i64 b] w fun e w' => e = .returned (.bool false) ∧ w' = w := by
  by_cases h1 : a ≤ x
  · have hd : decide (a ≤ x) = true := by simpa using h1
    have hd2 : decide (x ≤ b) = false := by simp; omega
    go_enter Tryd.func62, Tryd.ntmps62
    go_wp2
    go_ret
    exact ⟨rfl, rfl⟩
  · have hd : decide (a ≤ x) = false := by simpa using h1
    go_enter Tryd.func62, Tryd.ntmps62
    go_wp2
    go_ret
    exact ⟨rfl, rfl⟩
def kindOf (pr le mo lo hi : Int) : Int := (if lo < pr - le then 1 else 0) + (if hi > pr + mo then 2 else 0)
def rightOf (pr le mo lo hi : Int) : Bool := decide (pr - le ≤ lo) && decide (hi ≤ pr + mo)
theorem kindOf_right (pr le mo lo hi : Int) : (kindOf pr le mo lo hi == 0) = rightOf pr le mo lo hi := by
  unfold kindOf rightOf
  by_cases h1 : lo < pr - le <;> by_cases h2 : hi > pr + mo <;> simp [h1, h2] <;> omega
set_option maxRecDepth 100000 in
theorem kind_calls (cs : Array Value) (pr le mo gr : Int) (A : Option Addr) (n c : Nat) (l h : Nat → Int) (r : Nat) (hB : BookC cs pr le mo gr A n c l h r) (lo hi : Int)
    (b1 : 1 ≤ pr) (b2 : pr ≤ 500) (b3 : 0 ≤ le) (b4 : le ≤ 50) (b5 : 0 ≤ mo) (b6 : mo ≤ 50) (w : World) :
    Calls Tryd.prog 69 #[.agg cs, .agg #[.int .i64 lo, .int .i64 hi]] w fun e w' => e = .returned (.int .i64 (kindOf pr le mo lo hi)) ∧ Below w.heap.size w w' := by
  have hu := Tryd.underlying27
  have hu2 := Tryd.underlying74
  have hu3 := Tryd.underlying24
  have c0 := hB.c0
  have c1 := hB.c1
  have c2 := hB.c2
  clear hB
  by_cases h1 : lo < pr - le <;> by_cases h2 : pr + mo < hi
  all_goals
    have hk : kindOf pr le mo lo hi = kindOf pr le mo lo hi := rfl
    conv at hk => rhs; unfold kindOf; simp only [h1, h2, gt_iff_lt, if_true, if_false]
    have Hk := Lib.hid hk
    clear hk
    go_enter Tryd.func69, Tryd.ntmps69
    go_wp2
    go_ret
    exact ⟨by rw [Hk.out]; rfl, ((Below.refl _ _).alloc (Nat.le_refl _) _).alloc (by simp) _⟩
set_option maxRecDepth 100000 in
theorem isBox_calls (cs : Array Value) (pr le mo gr : Int) (A : Option Addr) (n c : Nat) (l h : Nat → Int) (r : Nat) (hB : BookC cs pr le mo gr A n c l h r) (a b : Int) (hn : n ≤ 8) (hb : -9223372036854775808 ≤ b ∧ b ≤ 9223372036854775807) (w : World) :
    Calls Tryd.prog 68 #[.agg cs, .agg #[.int .i64 a, .int .i64 b]] w fun e w' => e = .returned (.bool (decide (0 ≤ a) && decide (a < b) && decide (b ≤ n) && decide (b - a ≤ gr))) ∧ Below w.heap.size w w' := by
  have hu := Tryd.underlying80
  have hu2 := Tryd.underlying74
  have hu3 := Tryd.underlying24
  have c3 := hB.c3
  have c4 := hB.c4
  clear hB
  by_cases h1 : 0 ≤ a ∧ a ≤ wrap64 (b - 1)
  · by_cases h2 : 1 ≤ b ∧ b ≤ (n : Int)
    · have hw : wrap64 (b - 1) = b - 1 := by unfold wrap64; omega
      have hr : (decide (0 ≤ a) && decide (a < b) && decide (b ≤ n) && decide (b - a ≤ gr)) = decide (b - a ≤ gr) := by
        have e1 : decide (0 ≤ a) = true := by simpa using h1.1
        have e2 : decide (a < b) = true := by simp; omega
        have e3 : decide (b ≤ (n : Int)) = true := by simpa using h2.2
        rw [e1, e2, e3]; rfl
      rw [hr]
      obtain ⟨p1, p2⟩ := h1
      obtain ⟨p3, p4⟩ := h2
      rw [hw] at p2
      clear hw hr
      have p5 : 0 ≤ b := by omega
      go_enter Tryd.func68, Tryd.ntmps68
      go_wp2_with fail
      refine (in_true _ _ _ p1 p2 _).mono ?_
      rintro e w1 ⟨rfl, rfl⟩
      go_wp2_with fail
      refine (in_true _ _ _ p3 p4 _).mono ?_
      rintro e w1 ⟨rfl, rfl⟩
      go_wp2
      go_ret
      exact ⟨rfl, ((Below.refl _ _).alloc (Nat.le_refl _) _).alloc (by simp) _⟩
    · have hr : (decide (0 ≤ a) && decide (a < b) && decide (b ≤ n) && decide (b - a ≤ gr)) = false := by
        simp; omega
      rw [hr]
      clear hr
      obtain ⟨p1, p2⟩ := h1
      go_enter Tryd.func68, Tryd.ntmps68
      go_wp2_with fail
      refine (in_true _ _ _ p1 p2 _).mono ?_
      rintro e w1 ⟨rfl, rfl⟩
      go_wp2_with fail
      refine (in_false _ _ _ h2 _).mono ?_
      rintro e w1 ⟨rfl, rfl⟩
      go_wp2
      go_ret
      exact ⟨rfl, ((Below.refl _ _).alloc (Nat.le_refl _) _).alloc (by simp) _⟩
  · have hr : (decide (0 ≤ a) && decide (a < b) && decide (b ≤ n) && decide (b - a ≤ gr)) = false := by
      have : wrap64 (b - 1) = if b = -9223372036854775808 then 9223372036854775807 else b - 1 := by unfold wrap64; split <;> omega
      rw [this] at h1
      simp
      split at h1 <;> omega
    rw [hr]
    clear hr
    go_enter Tryd.func68, Tryd.ntmps68
    go_wp2_with fail
    refine (in_false _ _ _ h1 _).mono ?_
    rintro e w1 ⟨rfl, rfl⟩
    go_wp2
    go_ret
    exact ⟨rfl, ((Below.refl _ _).alloc (Nat.le_refl _) _).alloc (by simp) _⟩
end Go.Proofs.YtbbdbdamedaldaaDoor.Fl
end
section
namespace Go.Proofs.YtbbdbdamedaldaaDoor.Fl
open Go Go.RowKit
set_option maxRecDepth 100000 in
theorem low_calls (cs : Array Value) (pr le mo gr : Int) (A : Option Addr) (n c : Nat) (l h : Nat → Int) (r : Nat) (hB : BookC cs pr le mo gr A n c l h r) (i : Nat) (hi : i < 8) (w : World) :
    Calls Tryd.prog 138 #[.agg cs, .int .i64 i] w fun e w' => e = .returned (.int .i64 (l i)) ∧ Below w.heap.size w w' := by
  have hu := Tryd.underlying27
  have hu2 := Tryd.underlying74
  have hu3 := Tryd.underlying71
  have hc := hB.cl i hi
  rw [show 5 + 2 * i = 5 + i * 2 by omega] at hc
  clear hB
  have hi2 : (i : Int) < 8 := by omega
  go_enter Tryd.func138, Tryd.ntmps138
  go_wp2
  go_ret
  exact ⟨rfl, (Below.refl _ _).alloc (Nat.le_refl _) _⟩
set_option maxRecDepth 100000 in
theorem high_calls (cs : Array Value) (pr le mo gr : Int) (A : Option Addr) (n c : Nat) (l h : Nat → Int) (r : Nat) (hB : BookC cs pr le mo gr A n c l h r) (i : Nat) (hi : i < 8) (w : World) :
    Calls Tryd.prog 136 #[.agg cs, .int .i64 i] w fun e w' => e = .returned (.int .i64 (h i)) ∧ Below w.heap.size w w' := by
  have hu := Tryd.underlying27
  have hu2 := Tryd.underlying74
  have hu3 := Tryd.underlying71
  have hc := hB.ch i hi
  rw [show 6 + 2 * i = 5 + i * 2 + 1 by omega] at hc
  clear hB
  have hi2 : (i : Int) < 8 := by omega
  go_enter Tryd.func136, Tryd.ntmps136
  go_wp2
  go_ret
  exact ⟨rfl, (Below.refl _ _).alloc (Nat.le_refl _) _⟩
structure RdI (W : World) (A : Option Addr) (xs : List Int) : Prop where
  len : xs.length ≤ 9223372036854775807
  at_ : ∀ j, j < xs.length → ∃ ad, A = some ad ∧ W.cell? (ad.add j) = some (.int .i64 (xs.getD j 0))
theorem RdI.nil (W : World) : RdI W none [] := ⟨by simp, fun j hj => by simp at hj⟩
theorem RdI.ad {W : World} {A : Option Addr} {xs : List Int} (h : RdI W A xs) (hx : 0 < xs.length) : ∃ ad, A = some ad ∧ ∀ j, j < xs.length → W.cell? (ad.add j) = some (.int .i64 (xs.getD j 0)) := by
  obtain ⟨ad, rfl, _⟩ := h.at_ 0 hx
  refine ⟨ad, rfl, fun j hj => ?_⟩
  obtain ⟨ad', e, hc⟩ := h.at_ j hj
  cases e
  exact hc
theorem RdI.below {W W' : World} {A : Option Addr} {xs : List Int} (h : RdI W A xs) (hb : Below W.heap.size W W') : RdI W' A xs :=
  ⟨h.len, fun j hj => by
    obtain ⟨ad, e, hc⟩ := h.at_ j hj
    exact ⟨ad, e, (hb.cell (World.block_lt_of_cell? W _ hc)).trans hc⟩⟩
theorem sum_take_succ (xs : List Int) (k : Nat) (hk : k < xs.length) : (xs.take (k + 1)).sum = (xs.take k).sum + xs.getD k 0 := by
  rw [List.take_add_one, List.sum_append, List.getElem?_eq_getElem hk, List.getD_eq_getElem?_getD, List.getElem?_eq_getElem hk]
  simp
theorem sum_take_bd (xs : List Int) (B : Int) (hb : ∀ x ∈ xs, 0 ≤ x ∧ x ≤ B) : ∀ k : Nat, k ≤ xs.length → 0 ≤ (xs.take k).sum ∧ (xs.take k).sum ≤ B * k
  | 0, _ => by simp
  | k + 1, hk => by
    have h := sum_take_bd xs B hb k (by omega)
    rw [sum_take_succ xs k (by omega)]
    have hm : xs.getD k 0 ∈ xs := by
      rw [List.getD_eq_getElem?_getD, List.getElem?_eq_getElem (by omega)]
      exact List.getElem_mem _
    have := hb _ hm
    have e : B * ((k + 1 : Nat) : Int) = B * k + B := by rw [Int.natCast_add, Int.mul_add]; simp
    omega
set_option maxRecDepth 100000 in
theorem sumInts_calls (A : Option Addr) (n c : Nat) (xs : List Int) (hn : xs.length = n) (w : World) (hr : RdI w A xs) (hl : xs.length ≤ 8) (hb : ∀ x ∈ xs, 0 ≤ x ∧ x ≤ 200) :
    Calls Tryd.prog 74 #[.slice A n c] w fun e w' => e = .returned (.int .i64 xs.sum) ∧ w' = w := by
  subst hn
  go_enter Tryd.func74, Tryd.ntmps74
  go_wp2
  go_loop [3, 5, 8] (fun s _ i => ∃ k : Nat, k ≤ xs.length ∧ i = .int .i64 k ∧ s = .int .i64 (xs.take k).sum) (fun _ _ i => xs.length - (intOf i).toNat)
  case atStart => exact ⟨0, Nat.zero_le _, rfl, rfl⟩
  case round =>
    obtain ⟨k, hk, rfl, rfl⟩ := hrel
    obtain ⟨h1, h2⟩ := sum_take_bd xs 200 hb k hk
    by_cases hlt : k < xs.length
    · obtain ⟨ad, rfl, hc⟩ := hr.ad (by omega)
      have hck := hc k hlt
      have hsn := sum_take_succ xs k hlt
      have hm : xs.getD k 0 ∈ xs := by
        rw [List.getD_eq_getElem?_getD, List.getElem?_eq_getElem (by omega)]
        exact List.getElem_mem _
      obtain ⟨h3, h4⟩ := hb _ hm
      have h5 : (xs.take k).sum ≤ 1600 := by omega
      generalize xs.getD k 0 = y at *
      have Hsn := Lib.hid hsn
      clear hsn hm hc hb hr
      go_wp2
      go_round
      case rel => exact ⟨k + 1, by omega, by go_num, by rw [Hsn.out]⟩
      case measure => simp [intOf]; omega
    · obtain rfl : k = xs.length := by omega
      clear hb hr
      go_wp2
      go_ret
      simp
end Go.Proofs.YtbbdbdamedaldaaDoor.Fl
end
section
namespace Go.Proofs.EqArr
open Go Go.RowKit
theorem run_equalIn_array {P : Program} (w : World) (d : Nat) (t elem : TypeId) (len n : Nat) (xs ys : Array Value) (r : Nat → Bool)
    (ht : P.underlying t = some (.array len elem)) (hn : (sizeOf elem).run P w = .ok n w)
    (h : ∀ i, i < len → ∃ a b, (part elem xs (i * n)).run P w = .ok a w ∧ (part elem ys (i * n)).run P w = .ok b w ∧ (Op.equalIn d elem a b).run P w = .ok (r i) w) :
    (Op.equalIn (d + 1) t (.agg xs) (.agg ys)).run P w = .ok ((List.range len).all r) w := by
  simp only [Op.equalIn, Sem.run_bind, run_underlying ht, Result.andThen_ok, hn]
  simp only [Std.Legacy.Range.forIn_eq_forIn_range']
  have hl : List.range' 0 [:len].size = List.range len := by simp [Std.Legacy.Range.size, List.range_eq_range']
  rw [hl]
  have key : ∀ l : List Nat, (∀ i ∈ l, i < len) → Sem.run P
          (forIn l ((none, ()) : Option Bool × Unit) fun i __s => do
            let __do_lift ← part elem xs (i * n)
            let __do_lift_1 ← part elem ys (i * n)
            let __do_lift ← Op.equalIn d elem __do_lift __do_lift_1
            if (!__do_lift) = true then pure (ForInStep.done (some false, ())) else pure (ForInStep.yield (none, ()))) w = .ok (if l.all r then (none, ()) else (some false, ())) w := by
    intro l
    induction l with
    | nil => intro _; simp
    | cons i l ih =>
      intro hl
      obtain ⟨a, b, ha, hb, he⟩ := h i (hl i (by simp))
      simp only [List.forIn_cons, Sem.run_bind, ha, hb, he, Result.andThen_ok]
      cases hr : r i
      · simp [hr]
      · simp only [Bool.not_true, Bool.false_eq_true, if_false, Sem.run_pure, Result.andThen_ok]
        rw [ih (fun j hj => hl j (by simp [hj]))]
        simp [hr]
  rw [key (List.range len) (fun i hi => by simpa using hi)]
  cases h2 : (List.range len).all r <;> simp
def pairV (a b : Int) : Value := .agg #[.int .i64 a, .int .i64 b]
def Memo (W : World) (r : Nat) (S : Int → Int → Int × Int) : Prop :=
  ∃ (es : Array MapEntry) (clock : Nat), W.heap[r]? = some (.map es clock) ∧ ∀ e ∈ es.toList, ∃ a b : Int, e.key = pairV a b ∧ e.val = pairV (S a b).1 (S a b).2
theorem Memo.keep {W W' : World} {r : Nat} {S : Int → Int → Int × Int} (h : Memo W r S) (hk : W'.heap[r]? = W.heap[r]?) : Memo W' r S := by
  obtain ⟨es, clock, hr, he⟩ := h
  exact ⟨es, clock, hk.trans hr, he⟩
theorem Memo.lt {W : World} {r : Nat} {S : Int → Int → Int × Int} (h : Memo W r S) : r < W.heap.size := by
  obtain ⟨es, clock, hr, _⟩ := h
  exact (Array.getElem?_eq_some_iff.1 hr).1
section
variable {P : Program} {kt et mt : TypeId} {W : World}
structure PairKey (P : Program) (kt : TypeId) : Prop where
  struct : ∃ fs, P.underlying kt = some (.struct fs)
  eq : ∀ (w : World) (a b c d : Int), (Op.equal kt (pairV a b) (pairV c d)).run P w = .ok (a == c && (b == d)) w
  check : ∀ (w : World) (e : Bool) (a b : Int), (Instr.checkKey e 10000 kt (pairV a b)).run P w = .ok () w
theorem run_findAsking (hk : PairKey P kt) (a b : Int) (S : Int → Int → Int × Int) : ∀ (es : List MapEntry) (i : Nat) (w : World),
    (∀ e ∈ es, ∃ a b : Int, e.key = pairV a b ∧ e.val = pairV (S a b).1 (S a b).2) →
    (Instr.findAsking kt (pairV a b) es i).run P w = .ok none w ∨ ∃ j, i ≤ j ∧ j < i + es.length ∧ (∃ e, es[j - i]? = some e ∧ e.key = pairV a b) ∧ (Instr.findAsking kt (pairV a b) es i).run P w = .ok (some (j, pairV (S a b).1 (S a b).2)) w := by
  intro es
  induction es with
  | nil => intro i w _; exact .inl (by simp [Instr.findAsking])
  | cons e es ih =>
    intro i w he
    obtain ⟨c, d, hk1, hv1⟩ := he e (by simp)
    simp only [Instr.findAsking, Sem.run_bind, hk1, hk.eq, Result.andThen_ok]
    cases hb : (a == c && (b == d))
    · simp only [Bool.false_eq_true, if_false]
      rcases ih (i + 1) w (fun e' he' => he e' (by simp [he'])) with h | ⟨j, h1, h2, h3, h4⟩
      · exact .inl h
      · refine .inr ⟨j, by omega, by simp; omega, ?_, h4⟩
        obtain ⟨e', h5, h6⟩ := h3
        refine ⟨e', ?_, h6⟩
        have : j - i = (j - (i + 1)) + 1 := by omega
        rw [this]
        simpa using h5
    · simp only [Bool.and_eq_true, beq_iff_eq] at hb
      obtain ⟨rfl, rfl⟩ := hb
      refine .inr ⟨i, Nat.le_refl _, by simp, ⟨e, by simp, hk1⟩, by simp [hv1]⟩
theorem run_findKey (hk : PairKey P kt) (a b : Int) (S : Int → Int → Int × Int) (es : List MapEntry) (w : World)
    (he : ∀ e ∈ es, ∃ a b : Int, e.key = pairV a b ∧ e.val = pairV (S a b).1 (S a b).2) :
    (Instr.findKey kt (pairV a b) es).run P w = .ok none w ∨ ∃ j, j < es.length ∧ (∃ e, es[j]? = some e ∧ e.key = pairV a b) ∧ (Instr.findKey kt (pairV a b) es).run P w = .ok (some (j, pairV (S a b).1 (S a b).2)) w := by
  obtain ⟨fs, hf⟩ := hk.struct
  cases es with
  | nil => left; simp [Instr.findKey, run_underlying hf, Instr.findNow]
  | cons e es =>
    obtain ⟨c, d, hk1, hv1⟩ := he e (by simp)
    have hn : Instr.findNow (.struct fs) (pairV a b) (e :: es) 0 = none := by simp [Instr.findNow, Instr.sameNow]
    have hr : (Instr.findKey kt (pairV a b) (e :: es)).run P w = (Instr.findAsking kt (pairV a b) (e :: es) 0).run P w := by
      simp [Instr.findKey, Sem.run_bind, run_underlying hf, hn]
    rw [hr]
    rcases run_findAsking hk a b S (e :: es) 0 w he with h | ⟨j, _, h2, h3, h4⟩
    · exact .inl h
    · exact .inr ⟨j, by simpa using h2, by simpa using h3, h4⟩
theorem run_lookup_memo (hk : PairKey P kt) (hm : P.underlying mt = some (.map kt et)) (hz : ∀ w, (zeroValue et).run P w = .ok (pairV 0 0) w) {r : Nat} {S : Int → Int → Int × Int} (h : Memo W r S) (a b : Int) :
    ∃ x y ok, (Instr.lookup mt (.map (some r)) (pairV a b) true).run P W = .ok (.tuple #[pairV x y, .bool ok]) W ∧ (ok = true → x = (S a b).1 ∧ y = (S a b).2) := by
  obtain ⟨es, clock, hr, he⟩ := h
  have hg : (getObj r).run P W = .ok (.map es clock) W := by simp [getObj, Sem.run, hr]
  rcases run_findKey hk a b S es.toList W he with hf | ⟨j, _, _, hf⟩
  · refine ⟨0, 0, false, ?_, by simp⟩
    simp [Instr.lookup, Sem.run_bind, run_underlying hm, hg, hk.check, hf, hz]
  · refine ⟨_, _, true, ?_, fun _ => ⟨rfl, rfl⟩⟩
    simp [Instr.lookup, Sem.run_bind, run_underlying hm, hg, hk.check, hf]
theorem run_update_memo (hk : PairKey P kt) (hm : P.underlying mt = some (.map kt et)) {r : Nat} {S : Int → Int → Int × Int} (h : Memo W r S) (a b : Int) :
    ∃ o, (Instr.mapUpdate mt (.map (some r)) (pairV a b) (pairV (S a b).1 (S a b).2)).run P W = .ok () (W.putObj r o) ∧ Memo (W.putObj r o) r S := by
  have hlt := h.lt
  obtain ⟨es, clock, hr, he⟩ := h
  have hg : (getObj r).run P W = .ok (.map es clock) W := by simp [getObj, Sem.run, hr]
  have hs : ∀ o : Obj, (setObj r o).run P W = .ok () (W.putObj r o) := fun o => by simp [setObj, Sem.run, hr, World.putObj]
  rcases run_findKey hk a b S es.toList W he with hf | ⟨j, hj, ⟨e, hej, hkey⟩, hf⟩
  · refine ⟨.map (es.push { key := pairV a b, val := pairV (S a b).1 (S a b).2, born := clock }) (clock + 1), ?_, _, _, World.putObj_heap_same hlt, ?_⟩
    · simp [Instr.mapUpdate, Sem.run_bind, run_underlying hm, hg, hk.check, hf, hs]
    · intro e' he'
      simp only [Array.toList_push, List.mem_append, List.mem_singleton] at he'
      rcases he' with he' | rfl
      · exact he e' he'
      · exact ⟨a, b, rfl, rfl⟩
  · have hej' : es[j]? = some e := by rw [← Array.getElem?_toList]; exact hej
    have hst : (Instr.keyThatStays (pairV a b) (pairV a b)).run P W = .ok (pairV a b) W := by
      simp [Instr.keyThatStays, Instr.sameBits, pairV]
    refine ⟨.map (es.modify j fun e => { e with key := pairV a b, val := pairV (S a b).1 (S a b).2 }) clock, ?_, _, _, World.putObj_heap_same hlt, ?_⟩
    · simp [Instr.mapUpdate, Sem.run_bind, run_underlying hm, hg, hk.check, hf, hs, hej', hkey, hst]
    · intro e' he'
      rw [Array.mem_toList_iff, Array.mem_iff_getElem?] at he'
      obtain ⟨i, hi⟩ := he'
      rw [Array.getElem?_modify] at hi
      split at hi
      · rename_i hji
        subst hji
        rw [hej'] at hi
        simp only [Option.map_some, Option.some.injEq] at hi
        subst hi
        exact ⟨a, b, rfl, rfl⟩
      · exact he e' (by rw [Array.mem_toList_iff]; exact Array.mem_of_getElem? hi)
end
end Go.Proofs.EqArr
end
section
namespace Go.Proofs.YtbbdbdamedaldaaDoor.Fl
open Go Go.RowKit Go.Proofs.EqArr
def hv (l h : Nat → Int) : List Value := [.int .i64 (l 0), .int .i64 (h 0), .int .i64 (l 1), .int .i64 (h 1), .int .i64 (l 2), .int .i64 (h 2), .int .i64 (l 3), .int .i64 (h 3), .int .i64 (l 4), .int .i64 (h 4), .int .i64 (l 5), .int .i64 (h 5), .int .i64 (l 6), .int .i64 (h 6), .int .i64 (l 7), .int .i64 (h 7)]
theorem hv_at (l h : Nat → Int) (i : Nat) (hi : i < 8) : (hv l h)[2 * i]? = some (.int .i64 (l i)) ∧ (hv l h)[2 * i + 1]? = some (.int .i64 (h i)) := by
  have : i = 0 ∨ i = 1 ∨ i = 2 ∨ i = 3 ∨ i = 4 ∨ i = 5 ∨ i = 6 ∨ i = 7 := by omega
  rcases this with rfl | rfl | rfl | rfl | rfl | rfl | rfl | rfl <;> exact ⟨rfl, rfl⟩
theorem hv_len (l h : Nat → Int) : (hv l h).length = 16 := rfl
theorem BookC.range {cs : Array Value} {pr le mo gr : Int} {A : Option Addr} {n c : Nat} {l h : Nat → Int} {r : Nat} (hB : BookC cs pr le mo gr A n c l h r) (j : Nat) (v : Value) (hj : (hv l h)[j]? = some v) : cs[5 + j]? = some v := by
  have hlt : j < 16 := by
    have := (List.getElem?_eq_some_iff.1 hj).1
    rwa [hv_len] at this
  obtain ⟨i, hi, hij⟩ : ∃ i, i < 8 ∧ (j = 2 * i ∨ j = 2 * i + 1) := ⟨j / 2, by omega, by omega⟩
  rcases hij with rfl | rfl
  · rw [(hv_at l h i hi).1] at hj
    rw [← hj]; exact hB.cl i hi
  · rw [(hv_at l h i hi).2] at hj
    rw [← hj, show 5 + (2 * i + 1) = 6 + 2 * i by omega]; exact hB.ch i hi
theorem eq27 (d : Nat) (w : World) (x0 y0 x1 y1 : Int) :
    (Op.equalIn (d + 2) 27 (.agg #[.int .i64 x0, .int .i64 x1]) (.agg #[.int .i64 y0, .int .i64 y1])).run Tryd.prog w = .ok (x0 == y0 && (x1 == y1)) w := by
  rw [run_equalIn_struct (P := Tryd.prog) w (d + 1) 27 _ _ (by simp only [Program.fieldsOf, Tryd.underlying27]) (by kernel_rfl)]
  simp only [Program.fieldsOf, Tryd.underlying27]
  have h1 : ("Low" ≠ "_") := by decide
  have h2 : ("High" ≠ "_") := by decide
  simp only [Op.eqFields, if_pos h1, if_pos h2, Sem.run_bind]
  go_simp
  by_cases e1 : x0 = y0 <;> by_cases e2 : x1 = y1 <;> simp [e1, e2]
theorem eq80 (d : Nat) (w : World) (x0 x1 y0 y1 : Int) :
    (Op.equalIn (d + 2) 80 (.agg #[.int .i64 x0, .int .i64 x1]) (.agg #[.int .i64 y0, .int .i64 y1])).run Tryd.prog w = .ok (x0 == y0 && (x1 == y1)) w := by
  rw [run_equalIn_struct (P := Tryd.prog) w (d + 1) 80 _ _ (by simp only [Program.fieldsOf, Tryd.underlying80]) (by kernel_rfl)]
  simp only [Program.fieldsOf, Tryd.underlying80]
  have h1 : ("from" ≠ "_") := by decide
  have h2 : ("to" ≠ "_") := by decide
  simp only [Op.eqFields, if_pos h1, if_pos h2, Sem.run_bind]
  go_simp
  by_cases e1 : x0 = y0 <;> by_cases e2 : x1 = y1 <;> simp [e1, e2]
theorem size27 (w : World) : (sizeOf 27).run Tryd.prog w = .ok 2 w := by
  have h : (Tryd.prog.info? 27).map (·.size) = some 2 := by kernel_rfl
  cases hq : Tryd.prog.info? 27 with
  | none => simp [hq] at h
  | some i => simp [hq] at h; simp [sizeOf, typeInfo, hq, h]
theorem agg27 (w : World) : (isAgg 27).run Tryd.prog w = .ok true w := by
  simp [isAgg, run_underlying Tryd.underlying27]
def noHands (l h : Nat → Int) : Bool := (List.range 8).all fun i => l i == 0 && (h i == 0)
theorem noHands_iff (l h : Nat → Int) : noHands l h = true ↔ ∀ i, i < 8 → l i = 0 ∧ h i = 0 := by
  simp [noHands]
theorem eq71 (d : Nat) (w : World) (l h : Nat → Int) : (Op.equalIn (d + 3) 71 (.agg (hv l h).toArray) (.agg zeros16)).run Tryd.prog w = .ok (noHands l h) w := by
  refine Go.Proofs.EqArr.run_equalIn_array w (d + 2) 71 27 8 2 _ _ (fun i => l i == 0 && (h i == 0)) Tryd.underlying71 (size27 w) ?_
  intro i hi
  refine ⟨.agg #[.int .i64 (l i), .int .i64 (h i)], .agg #[.int .i64 0, .int .i64 0], ?_, ?_, eq27 d w _ _ _ _⟩
  · have : i = 0 ∨ i = 1 ∨ i = 2 ∨ i = 3 ∨ i = 4 ∨ i = 5 ∨ i = 6 ∨ i = 7 := by omega
    rcases this with rfl | rfl | rfl | rfl | rfl | rfl | rfl | rfl <;> simp [part, agg27, size27, hv]
  · have : i = 0 ∨ i = 1 ∨ i = 2 ∨ i = 3 ∨ i = 4 ∨ i = 5 ∨ i = 6 ∨ i = 7 := by omega
    rcases this with rfl | rfl | rfl | rfl | rfl | rfl | rfl | rfl <;> (simp [part, agg27, size27]; rfl)
theorem check80 (n : Nat) (w : World) (e : Bool) (a b : Int) : (Instr.checkKey e (n + 1 + 1) 80 (pairV a b)).run Tryd.prog w = .ok () w := by
  have h1 : ("from" ≠ "_") := by decide
  have h2 : ("to" ≠ "_") := by decide
  have hu := Tryd.underlying80
  simp [Instr.checkKey, pairV, Sem.run_bind, run_underlying hu]
  go_simp
theorem boxKey : PairKey Tryd.prog 80 where
  struct := ⟨_, Tryd.underlying80⟩
  eq := fun w a b c d => eq80 9998 w a b c d
  check := fun w e a b => check80 9998 w e a b
end Go.Proofs.YtbbdbdamedaldaaDoor.Fl
end
section
namespace Go.Proofs.RngLaw
open Go Go.RowKit
structure KeepsBut (S : Nat → Prop) (W W' : World) : Prop where
  os : W'.os = W.os
  tape : W'.tape = W.tape
  output : W'.output = W.output
  size : W.heap.size ≤ W'.heap.size
  same : ∀ k, k < W.heap.size → ¬ S k → W'.heap[k]? = W.heap[k]?
theorem KeepsBut.refl (S : Nat → Prop) (W : World) : KeepsBut S W W := ⟨rfl, rfl, rfl, Nat.le_refl _, fun _ _ _ => rfl⟩
theorem KeepsBut.trans {S : Nat → Prop} {A B C : World} (h : KeepsBut S A B) (k : KeepsBut S B C) : KeepsBut S A C :=
  ⟨k.os.trans h.os, k.tape.trans h.tape, k.output.trans h.output, Nat.le_trans h.size k.size, fun i hi hs => (k.same i (Nat.lt_of_lt_of_le hi h.size) hs).trans (h.same i hi hs)⟩
theorem KeepsBut.of_below {S : Nat → Prop} {A B : World} (h : Below A.heap.size A B) : KeepsBut S A B := ⟨h.os, h.tape, h.output, h.size, fun k hk _ => h.block k hk⟩
theorem KeepsBut.mono {S T : Nat → Prop} {A B : World} (h : KeepsBut S A B) (hst : ∀ k, S k → T k) : KeepsBut T A B := ⟨h.os, h.tape, h.output, h.size, fun k hk ht => h.same k hk (fun hs => ht (hst k hs))⟩
theorem KeepsBut.below {S : Nat → Prop} {n₀ : Nat} {A B : World} (h : KeepsBut S A B) (hn : n₀ ≤ A.heap.size) (hs : ∀ k, S k → n₀ ≤ k) : Below n₀ A B :=
  ⟨h.os, h.tape, h.output, h.size, fun k hk => h.same k (by omega) (fun hS => by have := hs k hS; omega)⟩
theorem KeepsBut.putObj {S : Nat → Prop} (W : World) {l : Nat} (o : Obj) (hl : S l) : KeepsBut S W (W.putObj l o) :=
  ⟨rfl, rfl, rfl, by simp, fun k _ hs => World.putObj_heap_other (fun e => hs (e ▸ hl))⟩
theorem KeepsBut.setCell {S : Nat → Prop} {A B : World} (h : KeepsBut S A B) {p : Addr} (hp : S p.block) (u : Value) : KeepsBut S A (B.setCell p u) :=
  h.trans ⟨rfl, rfl, rfl, by simp [World.setCell], fun k _ hs => Below.heap_setCell _ _ _ _ (fun e => hs (e ▸ hp))⟩
theorem KeepsBut.setNew {S : Nat → Prop} {A B : World} (h : KeepsBut S A B) {p : Addr} (hp : A.heap.size ≤ p.block) (u : Value) : KeepsBut S A (B.setCell p u) :=
  ⟨h.os, h.tape, h.output, by simp [World.setCell]; exact h.size, fun k hk hs => (Below.heap_setCell _ _ _ _ (by omega)).trans (h.same k hk hs)⟩
theorem KeepsBut.alloc {S : Nat → Prop} {A B : World} (h : KeepsBut S A B) (o : Obj) : KeepsBut S A (B.alloc o) := h.trans (.of_below ((Below.refl _ B).alloc (Nat.le_refl _) o))
theorem KeepsBut.undrew {S : Nat → Prop} {A B : World} (h : KeepsBut S A.drew B) : KeepsBut S A B := ⟨h.os, h.tape, h.output, h.size, h.same⟩
theorem KeepsBut.drew {S : Nat → Prop} {A B : World} (h : KeepsBut S A B) : KeepsBut S A B.drew := h.trans (.of_below ((Below.refl _ B).drew))
theorem KeepsBut.grown {S : Nat → Prop} {A B C : World} (h : KeepsBut S A B) {row : Option Nat} (hg : B.grownBy C row) (hr : ∀ k, row = some k → S k) : KeepsBut S A C :=
  h.trans ⟨hg.os, hg.tape, hg.output, hg.size, fun k hk hs => hg.block k hk (fun e => hs (hr k e.symm))⟩
theorem KeepsBut.cell {S : Nat → Prop} {A B : World} (h : KeepsBut S A B) {p : Addr} {v : Value} (hc : A.cell? p = some v) (hs : ¬ S p.block) : B.cell? p = some v :=
  (World.cell?_of_block (h.same p.block (World.block_lt_of_cell? A p hc) hs)).trans hc
theorem KeepsBut.frozen {S : Nat → Prop} {A B : World} (h : KeepsBut S A B) {p : Addr} {v : Value} (hc : A.cell? p = some v) (hs : ¬ S p.block) : B.frozen? p = A.frozen? p :=
  World.frozen?_of_block (h.same p.block (World.block_lt_of_cell? A p hc) hs)
abbrev GoesOn (F : Fence) (m : Nat) (P : Program) (l : Nat) (v : Value) (W : World) (R : World → Prop) : Prop :=
  YieldAt F m P l #[v] W fun e W' => e = .returned (.bool true) ∧ R W'
variable {F : Fence} {n : Nat} {P : Program}
theorem wpIn_rangeFunc_all {β : Type} {g : Operand} {p : Tmp} {assign body : Code} {Q : Exit → Act → World → Prop} {a : Act} {w : World} {S : Nat → Prop}
    (hro : F.round = none) (h1 : 1 ≤ n) {gf : Nat} {lb : Array Value} (hg : a.eval g = .func (.func gf) #[] lb) (hFg : F.fn gf) (eg : ∀ args w, (callFunc gf args).run P w = .ok (.enter gf args) w)
    (El : World → β → Value → Prop) (hEl : ∀ {W W' : World} {x : β} {v : Value}, KeepsBut (fun k => S k ∨ ∃ o : Obj, W.heap[k]? = some o ∧ o.isCells = false) W W' → El W x v → El W' x v)
    (I : List β → World → Prop) (hI : ∀ pre W W', I pre W → KeepsBut (fun k => w.heap.size ≤ k ∧ ∃ o : Obj, W.heap[k]? = some o ∧ o.isCells = false) W W' → I pre W')
    (hS : ∀ k, S k → k < w.heap.size) (xs : List β) (h0 : I [] w) (a₁ : Value → Act)
    (hiter : ∀ (l : Nat) (W : World) (J : List β → World → Prop), Below w.heap.size w W → (∀ pre A B, J pre A → Below A.heap.size A B → J pre B) →
      (∀ pre x v W1, J pre W1 → El W1 x v → (pre ++ [x]) <+: xs → GoesOn F (n - 1 - 1) P l v W1 fun W' => J (pre ++ [x]) W' ∧ KeepsBut (fun k => S k ∨ ∃ o : Obj, W1.heap[k]? = some o ∧ o.isCells = false) W1 W') →
      J [] W → CallsIn F (n - 1) P gf (#[.func (.yield l) #[] #[]] ++ lb) W fun e W' => (∃ v, e = .returned v) ∧ J xs W')
    (hassign : ∀ (l : Nat) (v : Value) (W : World) (K : Act → World → Prop), K (a₁ v) W →
      assign.wpIn (F.inRound l) (n - 1 - 1) P (Exit.then K (fun _ _ _ => False)) { tmps := a.tmps.setIfInBounds p v, defers := [] } W)
    (hbody : ∀ (l : Nat) (pre : List β) (x : β) (v : Value) (W : World), I pre W → El W x v → (pre ++ [x]) <+: xs →
      body.wpIn (F.inRound l) (n - 1 - 1) P (fun e _ W' => e = .normal ∧ KeepsBut S W W' ∧ I (pre ++ [x]) W') (a₁ v) W)
    (hdone : ∀ (D : Nat) (W : World), w.heap.size ≤ D → I xs W → W.heap[D]? = some (.deferred (some [])) → Q .normal { a with defers := { target := .collected D, args := #[] } :: a.defers } W) :
    (Code.rangeFunc g #[p] assign body).wpIn F n P Q a w := by
  refine wpIn_rangeFunc ?_
  intro fn hfn
  rw [hro]
  obtain ⟨rec, hrec⟩ : ∃ rec : LoopState → Option Code → Loop, rec = fun st pe => { state := st, pending := pe, fn, tmps := a.tmps, params := #[p], assign, body, defers := w.heap.size } := ⟨_, rfl⟩
  obtain ⟨W1, hW1⟩ : ∃ W1, (w.alloc (.deferred (some []))).alloc (.loop (rec .ready none)) = W1 := ⟨_, rfl⟩
  have hL1 : W1.heap[w.heap.size + 1]? = some (.loop (rec .ready none)) := by
    rw [← hW1]; have := World.alloc_heap_new (w.alloc (.deferred (some []))) (.loop (rec .ready none)); rwa [World.size_alloc] at this
  have hK1 : W1.heap[w.heap.size]? = some (.deferred (some [])) := by
    rw [← hW1]; exact (Below.heap_alloc _ _ _ (by simp)).trans (World.alloc_heap_new w _)
  have hb1 : Below w.heap.size w W1 := by
    rw [← hW1]; exact (((Below.refl _ w).alloc (Nat.le_refl _) _).alloc (by simp) _)
  have hI1 : I [] W1 := hI _ _ _ h0 (.of_below hb1)
  refine ⟨w.heap.size + 1, [{ target := .collected w.heap.size, args := #[] }], W1, { target := .fn (.func gf) lb, args := #[.func (.yield (w.heap.size + 1)) #[] #[]] }, W1, gf,
    #[.func (.yield (w.heap.size + 1)) #[] #[]] ++ lb, W1, ?_, ?_, ?_, ?_, fun _ => h1, ?_⟩
  · rw [← hW1, hrec]; exact run_enterLoop_outer _ _ _ _ _
  · simp only [resolve, hg]
    simp [go_sem]
  · intro f' hf'; simp [Target.leads] at hf'; subst hf'; exact hFg
  · simp [invoke, go_sem, eg]
  · refine (hiter (w.heap.size + 1) W1
      (fun pre W => I pre W ∧ W.heap[w.heap.size + 1]? = some (.loop (rec .ready none)) ∧ W.heap[w.heap.size]? = some (.deferred (some [])))
      hb1 ?_ ?_ ⟨hI1, hL1, hK1⟩).mono ?_
    · rintro pre A B ⟨hi, hl, hk⟩ hAB
      exact ⟨hI _ _ _ hi (.of_below hAB), (hAB.block _ (Array.getElem?_eq_some_iff.1 hl).1).trans hl, (hAB.block _ (Array.getElem?_eq_some_iff.1 hk).1).trans hk⟩
    ·
      rintro pre x v W ⟨hi, hl, hk⟩ hel hpre
      have hlt : w.heap.size + 1 < W.heap.size := (Array.getElem?_eq_some_iff.1 hl).1
      have hy := run_yield (P := P) (args := #[v]) hl (by rw [hrec]; rfl)
      rw [hrec] at hy
      have hy2 : (Instr.yield (w.heap.size + 1) #[v]).run P W = .ok (.round (w.heap.size + 1) fn (a.tmps.setIfInBounds p v) assign body) W := by rw [hy]; simp
      refine ⟨fn, a.tmps.setIfInBounds p v, assign, body, hy2, roundIn_of_wpIn hfn ?_⟩
      refine hassign _ v W _ ?_
      refine ⟨_, run_beginRound hl (by rw [hrec]), ?_⟩
      have hput : ∀ (A : World) (o o' : Obj), A.heap[w.heap.size + 1]? = some o → o.isCells = false → ∀ T : Nat → Prop, KeepsBut (fun k => T k ∨ ∃ o : Obj, A.heap[k]? = some o ∧ o.isCells = false) A (A.putObj (w.heap.size + 1) o') :=
        fun A o o' ho hc T => KeepsBut.putObj A o' (.inr ⟨o, ho, hc⟩)
      have hputI : ∀ (pre : List β) (A : World) (o o' : Obj), I pre A → A.heap[w.heap.size + 1]? = some o → o.isCells = false → I pre (A.putObj (w.heap.size + 1) o') :=
        fun pre A o o' hi ho hc => hI _ _ _ hi (KeepsBut.putObj A o' ⟨by omega, o, ho, hc⟩)
      have hl2 : (W.putObj (w.heap.size + 1) (.loop { rec .ready none with state := .busy })).heap[w.heap.size + 1]? = some (.loop { rec .ready none with state := .busy }) := World.putObj_heap_same hlt
      have hk2 : (W.putObj (w.heap.size + 1) (.loop { rec .ready none with state := .busy })).heap[w.heap.size]? = some (.deferred (some [])) := (World.putObj_heap_other (by omega)).trans hk
      refine wpIn_mono (hbody _ pre x v _ (hputI _ _ _ _ hi hl rfl) (hEl (hput W _ _ hl rfl S) hel) hpre) ?_
      rintro e a3 W3 ⟨rfl, hk3, hi3⟩
      have hl3 : W3.heap[w.heap.size + 1]? = some (.loop { rec .ready none with state := .busy }) := (hk3.same _ (by simpa using hlt) (fun hs => by have := hS _ hs; omega)).trans hl2
      have hk4 : W3.heap[w.heap.size]? = some (.deferred (some [])) := (hk3.same _ (by simp; omega) (fun hs => by have := hS _ hs; omega)).trans hk2
      have hr := run_endRound (P := P) none hl3
      refine ⟨_, _, hr, rfl, ⟨hputI _ _ _ _ hi3 hl3 rfl, ?_, (World.putObj_heap_other (by omega)).trans hk4⟩, ?_⟩
      · rw [World.putObj_heap_same (Array.getElem?_eq_some_iff.1 hl3).1, hrec]; rfl
      · have e1 := hput W _ (.loop { rec .ready none with state := .busy }) hl rfl S
        have e2 : KeepsBut (fun k => S k ∨ ∃ o : Obj, W.heap[k]? = some o ∧ o.isCells = false) (W.putObj (w.heap.size + 1) (.loop { rec .ready none with state := .busy })) W3 := hk3.mono (fun k hk => .inl hk)
        exact (e1.trans e2).trans (KeepsBut.putObj W3 _ (.inr ⟨_, hl, rfl⟩))
    ·
      rintro e W2 ⟨⟨v, rfl⟩, hi, hl, hk⟩
      refine ⟨none, _, by have := run_endLoop (P := P) hl (by rw [hrec]; simp); rw [hrec] at this; exact this, hdone _ _ (Nat.le_refl _) (hI _ _ _ hi (KeepsBut.putObj W2 _ ⟨by omega, _, hl, rfl⟩)) ((World.putObj_heap_other (by omega)).trans hk)⟩
end Go.Proofs.RngLaw
end
section
namespace Go.Proofs.YtbbdbdamedaldaaDoor.Fl
open Go Go.RowKit Go.Proofs.EqArr Go.Proofs.RngLaw
theorem cell_kept_below {W W' : World} (hb : Below W.heap.size W W') {p : Addr} {v : Value} (h : W.cell? p = some v) : W'.cell? p = some v :=
  (hb.cell (World.block_lt_of_cell? W p h)).trans h
theorem range_below {W W' : World} (hb : Below W.heap.size W W') {b o : Nat} {cs : List Value} (h : W.rangeAt b o cs) : W'.rangeAt b o cs :=
  fun j v hj => cell_kept_below hb (h j v hj)
attribute [local go_sem high] eq80 eq71
theorem below_undrew {B : Nat} {w w' : World} (h : Below B w.drew w') : Below B w w' := ⟨h.os, h.tape, h.output, h.size, h.block⟩
abbrev sumW (w : World) (cs : Array Value) (a b : Nat) : World := ((w.alloc (.cells cs 74)).alloc (.cells #[.int .i64 a, .int .i64 b] 80)).alloc (.cells #[.int .i64 0, .int .i64 0] 27)
theorem sumW_heap0 (w : World) (cs : Array Value) (a b : Nat) : (sumW w cs a b).heap[w.heap.size]? = some (.cells cs 74) := by
  show ((w.alloc (.cells cs 74)).alloc (.cells #[.int .i64 a, .int .i64 b] 80)).alloc (.cells #[.int .i64 0, .int .i64 0] 27) |>.heap[w.heap.size]? = _
  rw [Below.heap_alloc _ _ _ (by simp; omega)]
  exact heap_alloc2_old _ _ _
theorem sumS_keep {N a b : Nat} {l h : Nat → Int} {W W' : World} (hb : Below W.heap.size W W') (hs : W.cell? ⟨N + 1, 0, none⟩ = some (.int .i64 a) ∧ W.cell? ⟨N + 1, 1, none⟩ = some (.int .i64 b) ∧ W.rangeAt N 5 (hv l h)) :
    W'.cell? ⟨N + 1, 0, none⟩ = some (.int .i64 a) ∧ W'.cell? ⟨N + 1, 1, none⟩ = some (.int .i64 b) ∧ W'.rangeAt N 5 (hv l h) :=
  ⟨cell_kept_below hb hs.1, cell_kept_below hb hs.2.1, range_below hb hs.2.2⟩
theorem sum_start (w : World) (cs : Array Value) (pr le mo gr : Int) (A : Option Addr) (n c : Nat) (l h : Nat → Int) (r : Nat) (hB : BookC cs pr le mo gr A n c l h r) (a b : Nat) :
    (sumW w cs a b).cell? ⟨w.heap.size + 1, 0, none⟩ = some (.int .i64 a) ∧ (sumW w cs a b).cell? ⟨w.heap.size + 1, 1, none⟩ = some (.int .i64 b) ∧ (sumW w cs a b).rangeAt w.heap.size 5 (hv l h) := by
  refine ⟨by go_simp, by go_simp, fun j v hj => ?_⟩
  have h5 := hB.range j v hj
  rw [cell_of_row _ _ _ _ _ _ (sumW_heap0 w cs a b)]
  exact h5
def sg (f : Nat → Int) (a b : Nat) : Int := ((List.range' a (b - a)).map f).sum
def sums (l h : Nat → Int) (x y : Int) : Int × Int := (sg l x.toNat y.toNat, sg h x.toNat y.toNat)
theorem sums_nat (l h : Nat → Int) (a b : Nat) : sums l h a b = (sg l a b, sg h a b) := by simp [sums]
theorem sg_zero (f : Nat → Int) (a b : Nat) (hf : ∀ i, a ≤ i → i < b → f i = 0) : sg f a b = 0 := by
  unfold sg
  have : ∀ (n a : Nat), (∀ i, a ≤ i → i < a + n → f i = 0) → ((List.range' a n).map f).sum = 0 := by
    intro n
    induction n with
    | zero => intro a _; simp
    | succ n ih =>
      intro a h
      rw [List.range'_succ, List.map_cons, List.sum_cons, h a (Nat.le_refl _) (by omega), ih (a + 1) (fun i h1 h2 => h i (by omega) (by omega))]
      rfl
  exact this (b - a) a (fun i h1 h2 => hf i h1 (by omega))
theorem zero27 (w : World) : (zeroValue 27).run Tryd.prog w = .ok (pairV 0 0) w := by
  have h : (Tryd.prog.info? 27).map (·.zero) = some (some (pairV 0 0)) := by kernel_rfl
  cases hq : Tryd.prog.info? 27 with
  | none => simp [hq] at h
  | some i => simp [hq] at h; simp [zeroValue, typeInfo, hq, h]
def SumPost (w : World) (r : Nat) (l h : Nat → Int) (x y : Int) (e : Ending) (w' : World) : Prop :=
  e = .returned (.agg #[.int .i64 x, .int .i64 y]) ∧ KeepsBut (· = r) w w' ∧ Memo w' r (sums l h)
structure SumCut (w : World) (cs : Array Value) (a b r : Nat) (l h : Nat → Int) (N : Nat) (wc : World) : Prop where
  c21 : wc.cell? ⟨N, 21, none⟩ = some (.map (some r))
  f0 : wc.cell? ⟨N + 1, 0, none⟩ = some (.int .i64 a)
  f1 : wc.cell? ⟨N + 1, 1, none⟩ = some (.int .i64 b)
  z0 : wc.cell? ⟨N + 1 + 1, 0, none⟩ = some (.int .i64 0)
  z1 : wc.cell? ⟨N + 1 + 1, 1, none⟩ = some (.int .i64 0)
  q0 : wc.frozen? ⟨N + 1 + 1, 0, none⟩ = false
  q1 : wc.frozen? ⟨N + 1 + 1, 1, none⟩ = false
  e0 : wc.cell? ⟨0, 0, none⟩ = some (.func (.func 138) #[] #[])
  e1 : wc.cell? ⟨0, 1, none⟩ = some (.func (.func 136) #[] #[])
  book : wc.heap[N]? = some (.cells cs 74)
  size : N + 1 + 1 < wc.heap.size
  rlt : r < N
  memo : Memo wc r (sums l h)
  below : Below w.heap.size w wc
theorem sum_cut {w : World} {cs : Array Value} {pr le mo gr : Int} {A : Option Addr} {n c : Nat} {l h : Nat → Int} {r : Nat} (hB : BookC cs pr le mo gr A n c l h r) {a b : Nat} (hM : Memo w r (sums l h))
    (e0 : w.cell? ⟨0, 0, none⟩ = some (.func (.func 138) #[] #[])) (e1 : w.cell? ⟨0, 1, none⟩ = some (.func (.func 136) #[] #[]))
    {wc : World} (hb : Below (w.heap.size + 3) (sumW w cs a b) wc) : SumCut w cs a b r l h w.heap.size wc := by
  have hw : Below w.heap.size w (sumW w cs a b) := (((Below.refl _ _).alloc (Nat.le_refl _) _).alloc (by simp) _).alloc (by simp; omega) _
  have hall : Below w.heap.size w wc := hw.trans (hb.mono (by omega))
  have h0 : wc.heap[w.heap.size]? = some (.cells cs 74) := (hb.block _ (by omega)).trans (sumW_heap0 w cs a b)
  have k : ∀ {p : Addr} {v : Value}, p.block < w.heap.size + 3 → (sumW w cs a b).cell? p = some v → wc.cell? p = some v := fun hp hv => (hb.cell hp).trans hv
  have kf : ∀ {p : Addr}, p.block < w.heap.size + 3 → (sumW w cs a b).frozen? p = false → wc.frozen? p = false := fun hp hv => (hb.frozen hp).trans hv
  refine ⟨?_, k (by simp) (by go_simp), k (by simp) (by go_simp), k (by simp) (by go_simp), k (by simp) (by go_simp), kf (by simp) (by go_simp), kf (by simp) (by go_simp), cell_kept_below hall e0, cell_kept_below hall e1, h0, ?_, hM.lt, hM.keep (hall.block r hM.lt), hall⟩
  · rw [cell_of_row _ _ _ _ _ _ h0]; exact hB.c21
  · have := hb.size; simp at this; omega
theorem info3 : (Tryd.prog.info? 3).map (fun i => (i.zero, i.size, i.bytes)) = some (some (.int .i64 0), 1, 8) := by kernel_rfl
def ints (xs : List Int) : List Value := xs.map (.int .i64)
theorem own_below {w w1 : World} {base : Nat} {e : TypeId} {size : Nat} {v : Value} {n : Nat} {xs : List Value} (h : w.ownsRow base e size v n xs) (hb : Below w.heap.size w w1) : w1.ownsRow base e size v n xs :=
  h.kept ⟨hb.os, hb.tape, hb.output, hb.size, fun k hk _ => hb.block k hk⟩ (by cases v.ownBlock <;> simp) (row := none)
structure LoopR (wc : World) (x y s t : Int) (k : Nat) (wr : World) : Prop where
  keeps : KeepsBut (· = wc.heap.size + 1) ((wc.alloc (.cells #[.int .i64 x, .int .i64 y] 27)).alloc (.cells #[.int .i64 0, .int .i64 0] 113)) wr
  row : wr.heap[wc.heap.size + 1]? = some (.cells #[.int .i64 (if 0 < k then s else 0), .int .i64 (if 1 < k then t else 0)] 113)
  size : wc.heap.size + 1 < wr.heap.size
theorem loopR_start (wc : World) (x y s t : Int) : LoopR wc x y s t 0 ((wc.alloc (.cells #[.int .i64 x, .int .i64 y] 27)).alloc (.cells #[.int .i64 0, .int .i64 0] 113)) :=
  ⟨KeepsBut.refl _ _, heap_alloc2_new _ _ _, by simp⟩
theorem loopR_below {wc : World} {x y s t : Int} {k : Nat} {wr : World} (h : LoopR wc x y s t k wr) : Below wc.heap.size wc wr :=
  ((((Below.refl _ wc).alloc (Nat.le_refl _) _).alloc (by simp) _)).trans (h.keeps.below (by simp; omega) (fun k hk => by omega))
theorem ints_snoc (f : Nat → Int) (a j : Nat) : ints ((List.range' a (j + 1)).map f) = ints ((List.range' a j).map f) ++ [.int .i64 (f (a + j))] := by
  rw [List.range'_1_concat]; simp [ints]
theorem own_rdI {w : World} {base n : Nat} {v : Value} {xs : List Int} (h : w.ownsRow base 3 1 v n (ints xs)) : ∃ A c, v = .slice A n c ∧ xs.length = n ∧ RdI w A xs := by
  have hl : xs.length = n := by have := h.1; simp [ints] at this; exact this
  rcases Nat.eq_zero_or_pos n with h0 | h0
  · obtain rfl : xs = [] := List.eq_nil_of_length_eq_zero (by omega)
    rcases h.2 with ⟨rfl, _⟩ | ⟨g, cap, cur, rfl, _⟩
    · subst h0; exact ⟨none, 0, rfl, rfl, by simp, fun j hj => by simp at hj⟩
    · subst h0; exact ⟨some ⟨g, 0, none⟩, cap, rfl, rfl, by simp, fun j hj => by simp at hj⟩
  · have hm : n ≤ 9223372036854775807 := by
      rcases h.2 with ⟨_, h1⟩ | ⟨g', cap', cur, he, _, _, h1, h2, _⟩
      · omega
      · simp only [maxLen] at h2; omega
    obtain ⟨g, cap, rfl, _, _⟩ := h.form h0
    refine ⟨_, cap, rfl, hl, by omega, fun j hj => ⟨_, rfl, h.cells (g := g) rfl j _ ?_⟩⟩
    simp [ints, List.getElem?_eq_getElem hj, List.getD_eq_getElem?_getD]
theorem loopR_step0 {wc : World} {x y s t : Int} {wo wr : World} (h : LoopR wc x y s t 0 wo) (hb : Below wo.heap.size wo wr) : LoopR wc x y s t (0 + 1) (wr.setCell ⟨wc.heap.size + 1, 0, none⟩ (.int .i64 s)) := by
  have hr := (hb.block _ h.size).trans h.row
  refine ⟨(h.keeps.trans (.of_below hb)).setCell rfl _, ?_, ?_⟩
  · rw [heap_setCell_same _ _ _ _ _ _ hr]
    simp
  · have := h.size; have := hb.size; simp [World.setCell]; omega
theorem loopR_step1 {wc : World} {x y s t : Int} {wo wr : World} (h : LoopR wc x y s t 1 wo) (hb : Below wo.heap.size wo wr) : LoopR wc x y s t (1 + 1) (wr.setCell ⟨wc.heap.size + 1, 1, none⟩ (.int .i64 t)) := by
  have hr := (hb.block _ h.size).trans h.row
  refine ⟨(h.keeps.trans (.of_below hb)).setCell rfl _, ?_, ?_⟩
  · rw [heap_setCell_same _ _ _ _ _ _ hr]
    simp
  · have := h.size; have := hb.size; simp [World.setCell]; omega
theorem sum_end {P : Program} {kt et mt : TypeId} (hk : PairKey P kt) (hm : P.underlying mt = some (.map kt et)) {w wo : World} {r N : Nat} {l h : Nat → Int} (a b : Nat) (hb : Below w.heap.size w wo) (hM : Memo wo r (sums l h)) (hr : r < w.heap.size)
    (z0 : wo.cell? ⟨N, 0, none⟩ = some (.int .i64 0)) (z1 : wo.cell? ⟨N, 1, none⟩ = some (.int .i64 0)) (q0 : wo.frozen? ⟨N, 0, none⟩ = false) (q1 : wo.frozen? ⟨N, 1, none⟩ = false) (hN : w.heap.size ≤ N) :
    ∃ W, (Instr.mapUpdate mt (.map (some r)) (.agg #[.int .i64 a, .int .i64 b]) (.agg #[.int .i64 (sg l a b), .int .i64 (sg h a b)])).run P (wo.alloc (.cells #[.int .i64 (sg l a b), .int .i64 (sg h a b)] 27)) = .ok () W ∧
      W.cell? ⟨wo.heap.size, 0, none⟩ = some (.int .i64 (sg l a b)) ∧ W.cell? ⟨wo.heap.size, 1, none⟩ = some (.int .i64 (sg h a b)) ∧
      W.cell? ⟨N, 0, none⟩ = some (.int .i64 0) ∧ W.cell? ⟨N, 1, none⟩ = some (.int .i64 0) ∧ W.frozen? ⟨N, 0, none⟩ = false ∧ W.frozen? ⟨N, 1, none⟩ = false ∧
      KeepsBut (· = r) w W ∧ Memo W r (sums l h) := by
  have hal : Below wo.heap.size wo (wo.alloc (.cells #[.int .i64 (sg l a b), .int .i64 (sg h a b)] 27)) := (Below.refl _ _).alloc (Nat.le_refl _) _
  obtain ⟨o, ho, hM2⟩ := run_update_memo hk hm (W := wo.alloc (.cells #[.int .i64 (sg l a b), .int .i64 (sg h a b)] 27)) (hM.keep (hal.block r hM.lt)) (a : Int) (b : Int)
  rw [sums_nat] at ho
  have hne : ∀ {p : Addr} {v : Value}, p.block ≠ r → (wo.alloc (.cells #[.int .i64 (sg l a b), .int .i64 (sg h a b)] 27)).cell? p = some v → ((wo.alloc (.cells #[.int .i64 (sg l a b), .int .i64 (sg h a b)] 27)).putObj r o).cell? p = some v :=
    fun hp hv => (World.cell?_of_block (World.putObj_heap_other hp)).trans hv
  have hnf : ∀ {p : Addr}, p.block ≠ r → (wo.alloc (.cells #[.int .i64 (sg l a b), .int .i64 (sg h a b)] 27)).frozen? p = false → ((wo.alloc (.cells #[.int .i64 (sg l a b), .int .i64 (sg h a b)] 27)).putObj r o).frozen? p = false :=
    fun hp hv => (World.frozen?_of_block (World.putObj_heap_other hp)).trans hv
  have hwo := hb.size
  refine ⟨_, ho, hne (by simp; omega) (by go_simp), hne (by simp; omega) (by go_simp), hne (by simp; omega) (cell_kept_below hal z0), hne (by simp; omega) (cell_kept_below hal z1), hnf (by simp; omega) ?_, hnf (by simp; omega) ?_, ?_, hM2⟩
  · exact (hal.frozen (World.block_lt_of_cell? wo _ z0)).trans q0
  · exact (hal.frozen (World.block_lt_of_cell? wo _ z1)).trans q1
  · exact ((KeepsBut.of_below hb).trans (.of_below hal)).trans (KeepsBut.putObj _ o rfl)
set_option maxRecDepth 100000 in
set_option maxHeartbeats 4000000 in
theorem sum_calls (cs : Array Value) (pr le mo gr : Int) (A : Option Addr) (n c : Nat) (l h : Nat → Int) (r : Nat) (hB : BookC cs pr le mo gr A n c l h r) (hl : ∀ i, 0 ≤ l i ∧ l i ≤ 200) (hh : ∀ i, 0 ≤ h i ∧ h i ≤ 200) (a b : Nat) (hab : a ≤ b) (hb8 : b ≤ 8) (w : World) (hM : Memo w r (sums l h))
    (e0 : w.cell? ⟨0, 0, none⟩ = some (.func (.func 138) #[] #[])) (e1 : w.cell? ⟨0, 1, none⟩ = some (.func (.func 136) #[] #[])) :
    Calls Tryd.prog 63 #[.agg cs, .agg #[.int .i64 a, .int .i64 b]] w (SumPost w r l h (sg l a b) (sg h a b)) := by
  have hM1 := Lib.hid hM
  have E0 := Lib.hid e0
  have E1 := Lib.hid e1
  clear hM e0 e1
  have hu := Tryd.underlying27
  have hu80 := Tryd.underlying80
  have hu74 := Tryd.underlying74
  have hu71 := Tryd.underlying71
  have i71 : (Tryd.prog.info? 71).map (·.size) = some (hv l h).length := info71
  have hst := sum_start w cs pr le mo gr A n c l h r hB a b
  have Hst := Lib.hid hst
  clear hst
  go_enter Tryd.func63, Tryd.ntmps63
  go_upto_region 1 with fail
  go_cut [21] (fun v wx => v = .bool ((decide (a = 0) && decide (b = 0)) || noHands l h) ∧ Below (w.heap.size + 3) (((w.alloc (.cells cs 74)).alloc (.cells #[.int .i64 a, .int .i64 b] 80)).alloc (.cells #[.int .i64 0, .int .i64 0] 27)) wx)
  case first =>
    by_cases h0 : a = 0 ∧ b = 0
    · obtain ⟨rfl, rfl⟩ := h0
      refine wp_region_held_drew (S := fun w' => w'.cell? ⟨w.heap.size + 1, 0, none⟩ = some (.int .i64 ((0 : Nat) : Int)) ∧ w'.cell? ⟨w.heap.size + 1, 1, none⟩ = some (.int .i64 ((0 : Nat) : Int)) ∧ w'.rangeAt w.heap.size 5 (hv l h)) (by kernel_rfl) Hst.out (fun hS => ?_)
      refine wpAnyH_take (i := 0) (oi := _) (v := .agg #[.int .i64 0, .int .i64 0]) rfl (by kernel_rfl) (by kernel_rfl) (by kernel_rfl) (fun _ _ _ h => h) (Or.inl ⟨by rfl, fun W hW => ?_⟩) hS ?_
      · obtain ⟨h1, h2, h3⟩ := hW
        go_simp
      simp only [Act.put, List.getElem_toArray, List.getElem_cons_succ, List.getElem_cons_zero, List.setIfInBounds_toArray, List.set_cons_zero, List.set_cons_succ]
      refine wpAnyH_ready (rs := [1]) (by kernel_rfl) (by simp) ?_
      refine AllReadyH.cons rfl (fun K hK => ?_) AllReadyH.nil
      go_simp
      go_wp2_with (go_at_call 93; refine (nothing_calls _).mono ?_; rintro e w1 ⟨rfl, hb1⟩)
      refine hK.out _ _ (sumS_keep hb1 hS) (fun hS1 => ?_)
      clear hK K
      refine wpAnyH_take (i := 2) (oi := _) (v := .bool true) rfl (by kernel_rfl) (by kernel_rfl) (by kernel_rfl) (fun _ _ _ h => h) (Or.inl ⟨by rfl, fun W hW => ?_⟩) (by assumption) ?_
      · go_simp
      simp only [Act.put, List.getElem_toArray, List.getElem_cons_succ, List.getElem_cons_zero, List.setIfInBounds_toArray, List.set_cons_zero, List.set_cons_succ]
      refine wpAnyH_take (i := 3) (oi := _) (v := .bool true) rfl (by kernel_rfl) (by kernel_rfl) (by kernel_rfl) (fun _ _ _ h => h) (Or.inl ⟨by rfl, fun W hW => ?_⟩) (by assumption) ?_
      · go_simp
      simp only [Act.put, List.getElem_toArray, List.getElem_cons_succ, List.getElem_cons_zero, List.setIfInBounds_toArray, List.set_cons_zero, List.set_cons_succ]
      refine wpAnyH_take (i := 4) (oi := _) (v := undef) rfl (by kernel_rfl) (by kernel_rfl) (by kernel_rfl) (fun _ _ _ h => h) (Or.inr ⟨by rfl, rfl⟩) (by assumption) ?_
      simp only [Act.put, List.getElem_toArray, List.getElem_cons_succ, List.getElem_cons_zero, List.setIfInBounds_toArray, List.set_cons_zero, List.set_cons_succ]
      refine wpAnyH_take (i := 5) (oi := _) (v := undef) rfl (by kernel_rfl) (by kernel_rfl) (by kernel_rfl) (fun _ _ _ h => h) (Or.inr ⟨by rfl, rfl⟩) (by assumption) ?_
      simp only [Act.put, List.getElem_toArray, List.getElem_cons_succ, List.getElem_cons_zero, List.setIfInBounds_toArray, List.set_cons_zero, List.set_cons_succ]
      refine wpAnyH_take (i := 6) (oi := _) (v := undef) rfl (by kernel_rfl) (by kernel_rfl) (by kernel_rfl) (fun _ _ _ h => h) (Or.inr ⟨by rfl, rfl⟩) (by assumption) ?_
      simp only [Act.put, List.getElem_toArray, List.getElem_cons_succ, List.getElem_cons_zero, List.setIfInBounds_toArray, List.set_cons_zero, List.set_cons_succ]
      refine wpAnyH_take (i := 7) (oi := _) (v := undef) rfl (by kernel_rfl) (by kernel_rfl) (by kernel_rfl) (fun _ _ _ h => h) (Or.inr ⟨by rfl, rfl⟩) (by assumption) ?_
      simp only [Act.put, List.getElem_toArray, List.getElem_cons_succ, List.getElem_cons_zero, List.setIfInBounds_toArray, List.set_cons_zero, List.set_cons_succ]
      refine wpAnyH_take (i := 8) (oi := _) (v := .bool true) rfl (by kernel_rfl) (by kernel_rfl) (by kernel_rfl) (fun _ _ _ h => h) (Or.inl ⟨by rfl, fun W hW => ?_⟩) (by assumption) ?_
      · go_simp
      simp only [Act.put, List.getElem_toArray, List.getElem_cons_succ, List.getElem_cons_zero, List.setIfInBounds_toArray, List.set_cons_zero, List.set_cons_succ]
      refine wpAnyH_done (by kernel_rfl) ?_ _
      go_wp2_with fail
      go_meet
      exact ⟨rfl, below_undrew (hb1.mono (B' := w.heap.size + 3) (by simp))⟩
    · have hz : ((a : Int) == 0 && ((b : Int) == 0)) = false := by
        simp; omega
      refine wp_region_held_drew (S := fun w' => w'.cell? ⟨w.heap.size + 1, 0, none⟩ = some (.int .i64 a) ∧ w'.cell? ⟨w.heap.size + 1, 1, none⟩ = some (.int .i64 b) ∧ w'.rangeAt w.heap.size 5 (hv l h)) (by kernel_rfl) Hst.out (fun hS => ?_)
      refine wpAnyH_take (i := 0) (oi := _) (v := .agg #[.int .i64 a, .int .i64 b]) rfl (by kernel_rfl) (by kernel_rfl) (by kernel_rfl) (fun _ _ _ h => h) (Or.inl ⟨by rfl, fun W hW => ?_⟩) hS ?_
      · obtain ⟨h1, h2, h3⟩ := hW
        go_simp
      simp only [Act.put, List.getElem_toArray, List.getElem_cons_succ, List.getElem_cons_zero, List.setIfInBounds_toArray, List.set_cons_zero, List.set_cons_succ]
      refine wpAnyH_ready (rs := [1]) (by kernel_rfl) (by simp) ?_
      refine AllReadyH.cons rfl (fun K hK => ?_) AllReadyH.nil
      go_simp
      go_wp2_with (go_at_call 93; refine (nothing_calls _).mono ?_; rintro e w1 ⟨rfl, hb1⟩)
      refine hK.out _ _ (sumS_keep hb1 hS) (fun hS1 => ?_)
      clear hK K
      refine wpAnyH_take (i := 2) (oi := _) (v := .bool false) rfl (by kernel_rfl) (by kernel_rfl) (by kernel_rfl) (fun _ _ _ h => h) (Or.inl ⟨by rfl, fun W hW => ?_⟩) (by assumption) ?_
      · go_simp
      simp only [Act.put, List.getElem_toArray, List.getElem_cons_succ, List.getElem_cons_zero, List.setIfInBounds_toArray, List.set_cons_zero, List.set_cons_succ]
      refine wpAnyH_take (i := 3) (oi := _) (v := .bool false) rfl (by kernel_rfl) (by kernel_rfl) (by kernel_rfl) (fun _ _ _ h => h) (Or.inl ⟨by rfl, fun W hW => ?_⟩) (by assumption) ?_
      · go_simp
      simp only [Act.put, List.getElem_toArray, List.getElem_cons_succ, List.getElem_cons_zero, List.setIfInBounds_toArray, List.set_cons_zero, List.set_cons_succ]
      refine wpAnyH_take (i := 4) (oi := _) (v := .pointer (some ⟨w.heap.size, 5, none⟩)) rfl (by kernel_rfl) (by kernel_rfl) (by kernel_rfl) (fun _ _ _ h => h) (Or.inl ⟨by rfl, fun W hW => ?_⟩) (by assumption) ?_
      · go_simp
      simp only [Act.put, List.getElem_toArray, List.getElem_cons_succ, List.getElem_cons_zero, List.setIfInBounds_toArray, List.set_cons_zero, List.set_cons_succ]
      refine wpAnyH_take (i := 5) (oi := _) (v := .agg (hv l h).toArray) rfl (by kernel_rfl) (by kernel_rfl) (by kernel_rfl) (fun _ _ _ h => h) (yieldsIf_load_mid (by rfl) _ _ rfl _ _ rfl (hv l h) _ (fun W hW => hW.2.2) hu71 rfl i71) (by assumption) ?_
      simp only [Act.put, List.getElem_toArray, List.getElem_cons_succ, List.getElem_cons_zero, List.setIfInBounds_toArray, List.set_cons_zero, List.set_cons_succ]
      refine wpAnyH_ready (rs := [6]) (by kernel_rfl) (by simp) ?_
      refine AllReadyH.cons rfl (fun K hK => ?_) AllReadyH.nil
      go_simp
      go_wp2_with (go_at_call 94; refine (empty_calls _).mono ?_; rintro e w2 ⟨rfl, hb2⟩)
      refine hK.out _ _ (sumS_keep hb2 hS1) (fun hS2 => ?_)
      clear hK K
      refine wpAnyH_take (i := 7) (oi := _) (v := .bool (noHands l h)) rfl (by kernel_rfl) (by kernel_rfl) (by kernel_rfl) (fun _ _ _ h => h) (Or.inl ⟨by rfl, fun W hW => ?_⟩) (by assumption) ?_
      · go_simp
      simp only [Act.put, List.getElem_toArray, List.getElem_cons_succ, List.getElem_cons_zero, List.setIfInBounds_toArray, List.set_cons_zero, List.set_cons_succ]
      refine wpAnyH_take (i := 8) (oi := _) (v := .bool (noHands l h)) rfl (by kernel_rfl) (by kernel_rfl) (by kernel_rfl) (fun _ _ _ h => h) (Or.inl ⟨by rfl, fun W hW => ?_⟩) (by assumption) ?_
      · go_simp
      simp only [Act.put, List.getElem_toArray, List.getElem_cons_succ, List.getElem_cons_zero, List.setIfInBounds_toArray, List.set_cons_zero, List.set_cons_succ]
      refine wpAnyH_done (by kernel_rfl) ?_ _
      go_wp2_with fail
      go_meet
      refine ⟨?_, (below_undrew (hb1.mono (B' := w.heap.size + 3) (by simp))).trans (hb2.mono (B' := w.heap.size + 3) (by have := hb1.size; simp at this; omega))⟩
      rw [show (decide (a = 0) && decide (b = 0)) = false by simp; omega]
      rfl
  case rest =>
    obtain ⟨rfl, hb⟩ := hcut
    have hc := sum_cut hB hM1.out E0.out E1.out hb
    clear hb hM1 E0 E1 Hst
    by_cases hz : ((decide (a = 0) && decide (b = 0)) || noHands l h) = true
    · have hs : sg l a b = 0 ∧ sg h a b = 0 := by
        rw [Bool.or_eq_true] at hz
        rcases hz with hz | hz
        · simp at hz
          obtain ⟨rfl, rfl⟩ := hz
          exact ⟨rfl, rfl⟩
        · rw [noHands_iff] at hz
          exact ⟨sg_zero _ _ _ (fun i _ h2 => (hz i (by omega)).1), sg_zero _ _ _ (fun i _ h2 => (hz i (by omega)).2)⟩
      rw [hz]
      have Hs := Lib.hid hs
      clear hs hz
      have z0 := hc.z0
      have z1 := hc.z1
      have q0 := hc.q0
      have q1 := hc.q1
      have Hc := Lib.hid hc
      clear hc
      go_wp2
      have hb2 : Below w.heap.size w ((wc.setCell ⟨w.heap.size + 1 + 1, 0, none⟩ (.int .i64 0)).setCell ⟨w.heap.size + 1 + 1, 1, none⟩ (.int .i64 0)) := (Hc.out.below.setCell (by simp; omega) _).setCell (by simp; omega) _
      refine bodyPost_ret (v := .agg #[.int .i64 0, .int .i64 0]) (by simp [results, Tryd.results63, go_sem, z0, z1]) rfl ⟨by rw [Hs.out.1, Hs.out.2], .of_below hb2, ?_⟩
      exact Hc.out.memo.keep ((hb2.block r Hc.out.rlt).trans (Hc.out.below.block r Hc.out.rlt).symm)
    · have c21 := hc.c21
      have f0 := hc.f0
      have f1 := hc.f1
      have e0 := hc.e0
      have e1 := hc.e1
      have z0 := hc.z0
      have z1 := hc.z1
      have q0 := hc.q0
      have q1 := hc.q1
      have hzf : ((decide (a = 0) && decide (b = 0)) || noHands l h) = false := by simpa using hz
      rw [hzf]
      obtain ⟨x, y, ok, hlk, hok⟩ := run_lookup_memo (P := Tryd.prog) (mt := 72) boxKey Tryd.underlying72 zero27 hc.memo (a : Int) (b : Int)
      have Hc := Lib.hid hc
      have Hok := Lib.hid hok
      have hsz := hc.size
      have hsz0 : 0 < wc.heap.size := by omega
      clear hc hz hzf hok
      unfold pairV at hlk
      cases ok with
      | true =>
        go_wp2
        have hb3 : Below w.heap.size w (((wc.setCell ⟨w.heap.size + 1 + 1, 0, none⟩ (.int .i64 x)).setCell ⟨w.heap.size + 1 + 1, 1, none⟩ (.int .i64 y)).alloc (.cells #[.int .i64 x, .int .i64 y] 27)) :=
          ((Hc.out.below.setCell (by simp; omega) _).setCell (by simp; omega) _).alloc (by simp; omega) _
        obtain ⟨hx, hy⟩ := Hok.out (by simp)
        rw [sums_nat] at hx hy
        subst hx hy
        exact bodyPost_ret (v := .agg #[.int .i64 (sg l a b), .int .i64 (sg h a b)]) (by simp [results, Tryd.results63, go_sem, z0, z1, hsz]) rfl ⟨rfl, .of_below hb3, Hc.out.memo.keep ((hb3.block r Hc.out.rlt).trans (Hc.out.below.block r Hc.out.rlt).symm)⟩
      | false =>
        go_wp2_with fail
        obtain ⟨i0, hi, hz0, hz1, hz2⟩ := info_parts info3
        have i74 : (Tryd.prog.info? 74).map (·.size) = some cs.size := by rw [hB.sz]; exact info74
        have hBB := Lib.hid hB
        clear hB
        have x0 : ∀ w, (Instr.index 115 (.agg #[.func (.func 138) #[] #[], .func (.func 136) #[] #[]]) (.int .i64 0)).run Tryd.prog w = .ok (.func (.func 138) #[] #[]) w := fun _ => by kernel_rfl
        have x1 : ∀ w, (Instr.index 115 (.agg #[.func (.func 138) #[] #[], .func (.func 136) #[] #[]]) (.int .i64 1)).run Tryd.prog w = .ok (.func (.func 136) #[] #[]) w := fun _ => by kernel_rfl
        go_loopw [8, 9, 10, 11, 33] (fun _ _ _ _ v33 wr => (v33 = .int .i64 0 ∧ LoopR wc x y (sg l a b) (sg h a b) 0 wr) ∨ (v33 = .int .i64 1 ∧ LoopR wc x y (sg l a b) (sg h a b) 1 wr) ∨ (v33 = .int .i64 2 ∧ LoopR wc x y (sg l a b) (sg h a b) 2 wr)) (fun _ _ _ _ v33 _ => 2 - (intOf v33).toNat)
        case atStart => exact .inl ⟨rfl, loopR_start _ _ _ _ _⟩
        case round =>
          obtain ⟨wo, rfl⟩ : ∃ wo : World, wo = wr := ⟨_, rfl⟩
          have hbr : Below wc.heap.size wc wo := by rcases hrel with ⟨_, hL⟩ | ⟨_, hL⟩ | ⟨_, hL⟩ <;> exact loopR_below hL
          have hsr : wc.heap.size + 1 < wo.heap.size := by rcases hrel with ⟨_, hL⟩ | ⟨_, hL⟩ | ⟨_, hL⟩ <;> exact hL.size
          have f0r := (hbr.cell (p := ⟨w.heap.size + 1, 0, none⟩) (by simp; omega)).trans f0
          have f1r := (hbr.cell (p := ⟨w.heap.size + 1, 1, none⟩) (by simp; omega)).trans f1
          have bookr := (hbr.block w.heap.size (by omega)).trans Hc.out.book
          rcases hrel with ⟨rfl, hL⟩ | ⟨rfl, hL⟩ | ⟨rfl, hL⟩
          ·
            have HL := Lib.hid hL
            clear hL
            go_wp2_with fail
            go_loopw [10, 11] (fun v10 v11 wi => ∃ (j : Nat) (sl : Value), j ≤ b - a ∧ v11 = .int .i64 ((a + j : Nat) : Int) ∧ sl = v10 ∧ wi.ownsRow wo.heap.size 3 1 sl j (ints ((List.range' a j).map l)) ∧ Below wo.heap.size wo wi) (fun _ v11 _ => b - (intOf v11).toNat)
            case atStart => exact ⟨0, _, Nat.zero_le _, rfl, rfl, World.ownsRow_nil _ _ _ _, Below.refl _ _⟩
            case round =>
              obtain ⟨j, sl, hj, rfl, rfl, hown, hbi⟩ := hrel
              have g1 := (hbi.cell (p := ⟨w.heap.size + 1, 1, none⟩) (by simp; omega)).trans f1r
              have gb := (hbi.block w.heap.size (by omega)).trans bookr
              have hsi := hbi.size
              by_cases hlt : j < b - a
              · have hlt2 : a + j < b := by omega
                have hj8 : a + j < 8 := by omega
                go_wp2_with (first
                  | (refine wpList_load_row rfl 74 _ rfl w.heap.size rfl 74 cs (0, 0) _ gb Tryd.underlying74 rfl i74 ?_)
                  | (go_at_call 138; refine (low_calls cs pr le mo gr A n c l h r hBB.out (a + j) hj8 _).mono ?_; rintro e w1 ⟨rfl, hb1⟩; have hown1 := own_below hown hb1; have hs1 := hb1.size)
                  | (at_builtin; refine wpList_append_own _ rfl _ _ 38 rfl wo.heap.size 3 i0 (.int .i64 0) 1 8 Tryd.underlying38 hi hz0 hz1 hz2 rfl (by decide) sl j (ints ((List.range' a j).map l)) rfl (hown1.alloc _) ⟨w1.heap.size, 0, none⟩ 1 1 [.int .i64 (l (a + j))] rfl rfl (cell_one_new _ _ _) (fun x hx => by simp at hx; subst hx; rfl) (by unfold maxLen; omega) (by omega) (by simp; omega) ?_; intro v' w3 hown' hgrow3 hnil3))
                go_roundw
                case rel => exact ⟨j + 1, v', by omega, by go_num, rfl, by rw [ints_snoc]; exact hown', ((hbi.trans (hb1.mono (by omega))).alloc (by omega) _).grown hgrow3 (by simp; omega) (fun k e => (hown.lt k e).1)⟩
                case measure => simp [intOf]; omega
              · obtain rfl : j = b - a := by omega
                obtain ⟨Al, cl, rfl, hln, hrd⟩ := own_rdI hown
                have hbd : ∀ x ∈ (List.range' a (b - a)).map l, 0 ≤ x ∧ x ≤ 200 := by
                  intro x hx
                  simp only [List.mem_map] at hx
                  obtain ⟨i, _, rfl⟩ := hx
                  exact hl i
                have dr := (hbi.block (wc.heap.size + 1) HL.out.size).trans HL.out.row
                have d0 := (cell_of_row _ _ 0 _ _ _ dr)
                have q0 := frozen_of_row _ _ 0 _ _ dr
                have hl8 : ((List.range' a (b - a)).map l).length ≤ 8 := by simp; omega
                have Hln := Lib.hid hln
                clear hln
                clear dr
                go_wp2_with (go_at_call 74; ((with_reducible refine (sumInts_calls Al (b - a) cl _ Hln.out _ hrd hl8 hbd).mono ?_); rintro e w1 ⟨rfl, rfl⟩))
                go_roundw
                case rel => exact .inr (.inl ⟨rfl, loopR_step0 HL.out hbi⟩)
                case measure => simp [intOf]
          ·
            have HL := Lib.hid hL
            clear hL
            go_wp2_with fail
            go_loopw [10, 11] (fun v10 v11 wi => ∃ (j : Nat) (sl : Value), j ≤ b - a ∧ v11 = .int .i64 ((a + j : Nat) : Int) ∧ sl = v10 ∧ wi.ownsRow wo.heap.size 3 1 sl j (ints ((List.range' a j).map h)) ∧ Below wo.heap.size wo wi) (fun _ v11 _ => b - (intOf v11).toNat)
            case atStart => exact ⟨0, _, Nat.zero_le _, rfl, rfl, World.ownsRow_nil _ _ _ _, Below.refl _ _⟩
            case round =>
              obtain ⟨j, sl, hj, rfl, rfl, hown, hbi⟩ := hrel
              have g1 := (hbi.cell (p := ⟨w.heap.size + 1, 1, none⟩) (by simp; omega)).trans f1r
              have gb := (hbi.block w.heap.size (by omega)).trans bookr
              have hsi := hbi.size
              by_cases hlt : j < b - a
              · have hlt2 : a + j < b := by omega
                have hj8 : a + j < 8 := by omega
                go_wp2_with (first
                  | (refine wpList_load_row rfl 74 _ rfl w.heap.size rfl 74 cs (0, 0) _ gb Tryd.underlying74 rfl i74 ?_)
                  | (go_at_call 136; refine (high_calls cs pr le mo gr A n c l h r hBB.out (a + j) hj8 _).mono ?_; rintro e w1 ⟨rfl, hb1⟩; have hown1 := own_below hown hb1; have hs1 := hb1.size)
                  | (at_builtin; refine wpList_append_own _ rfl _ _ 38 rfl wo.heap.size 3 i0 (.int .i64 0) 1 8 Tryd.underlying38 hi hz0 hz1 hz2 rfl (by decide) sl j (ints ((List.range' a j).map h)) rfl (hown1.alloc _) ⟨w1.heap.size, 0, none⟩ 1 1 [.int .i64 (h (a + j))] rfl rfl (cell_one_new _ _ _) (fun x hx => by simp at hx; subst hx; rfl) (by unfold maxLen; omega) (by omega) (by simp; omega) ?_; intro v' w3 hown' hgrow3 hnil3))
                go_roundw
                case rel => exact ⟨j + 1, v', by omega, by go_num, rfl, by rw [ints_snoc]; exact hown', ((hbi.trans (hb1.mono (by omega))).alloc (by omega) _).grown hgrow3 (by simp; omega) (fun k e => (hown.lt k e).1)⟩
                case measure => simp [intOf]; omega
              · obtain rfl : j = b - a := by omega
                obtain ⟨Al, cl, rfl, hln, hrd⟩ := own_rdI hown
                have hbd : ∀ x ∈ (List.range' a (b - a)).map h, 0 ≤ x ∧ x ≤ 200 := by
                  intro x hx
                  simp only [List.mem_map] at hx
                  obtain ⟨i, _, rfl⟩ := hx
                  exact hh i
                have dr := (hbi.block (wc.heap.size + 1) HL.out.size).trans HL.out.row
                have d1 := (cell_of_row _ _ 1 _ _ _ dr)
                have q1 := frozen_of_row _ _ 1 _ _ dr
                have hl8 : ((List.range' a (b - a)).map h).length ≤ 8 := by simp; omega
                have Hln := Lib.hid hln
                clear hln
                clear dr
                go_wp2_with (go_at_call 74; ((with_reducible refine (sumInts_calls Al (b - a) cl _ Hln.out _ hrd hl8 hbd).mono ?_); rintro e w1 ⟨rfl, rfl⟩))
                go_roundw
                case rel => exact .inr (.inr ⟨rfl, loopR_step1 HL.out hbi⟩)
                case measure => simp [intOf]
          ·
            have z0r := (hbr.cell (p := ⟨w.heap.size + 1 + 1, 0, none⟩) (by simp; omega)).trans z0
            have z1r := (hbr.cell (p := ⟨w.heap.size + 1 + 1, 1, none⟩) (by simp; omega)).trans z1
            have q0r := (hbr.frozen (p := ⟨w.heap.size + 1 + 1, 0, none⟩) (by simp; omega)).trans q0
            have q1r := (hbr.frozen (p := ⟨w.heap.size + 1 + 1, 1, none⟩) (by simp; omega)).trans q1
            have c21r := (hbr.cell (p := ⟨w.heap.size, 21, none⟩) (by simp; omega)).trans c21
            have d0 : wo.cell? ⟨wc.heap.size + 1, 0, none⟩ = some (.int .i64 (sg l a b)) := cell_of_row _ _ 0 _ _ _ hL.row
            have d1 : wo.cell? ⟨wc.heap.size + 1, 1, none⟩ = some (.int .i64 (sg h a b)) := cell_of_row _ _ 1 _ _ _ hL.row
            have hwo : Below w.heap.size w wo := Hc.out.below.trans (hbr.mono (by omega))
            obtain ⟨W2, hup, k0, k1, k2, k3, k4, k5, hkW, hMW⟩ := sum_end (P := Tryd.prog) boxKey Tryd.underlying72 a b hwo (Hc.out.memo.keep (hbr.block r (by have := Hc.out.rlt; omega))) Hc.out.rlt z0r z1r q0r q1r (by omega)
            have hs1 : w.heap.size < wo.heap.size := by omega
            have hs2 : w.heap.size + 1 < wo.heap.size := by omega
            have hs3 : w.heap.size + 1 + 1 < wo.heap.size := by omega
            have HW := Lib.hid (And.intro hkW hMW)
            clear hL hwo hkW hMW
            go_wp2
            refine bodyPost_ret (v := .agg #[.int .i64 (sg l a b), .int .i64 (sg h a b)]) (by simp [results, Tryd.results63, go_sem, k2, k3]) rfl ⟨rfl, ((HW.out.1.setNew (by simp; omega) _).setNew (by simp; omega) _), HW.out.2.keep ?_⟩
            rw [Below.heap_setCell _ _ _ _ (by have := Hc.out.rlt; simp; omega), Below.heap_setCell _ _ _ _ (by have := Hc.out.rlt; simp; omega)]
end Go.Proofs.YtbbdbdamedaldaaDoor.Fl
end
section
namespace Go.Proofs.YtbbdbdamedaldaaDoor.Fl
open Go Go.RowKit Go.Proofs.EqArr Go.Proofs.RngLaw
theorem yieldsIf_load_row {P : Program} {ops : Array Oper} {S : World → Prop} {op : Oper} {a : Act} (hw : Region.wanted op (yielded ops a.tmps) = true) (ty : TypeId) (x : Operand) (ho : op.op = .load ty x)
    (g : Nat) (hx : a.eval x = .pointer (some ⟨g, 0, none⟩)) (t : TypeId) (cs : Array Value) (fr : Nat × Nat) (d : TypeDesc) (hS : ∀ w, S w → w.heap[g]? = some (.cells cs t fr))
    (hu : P.underlying ty = some d) (hd : (match d with | .struct _ | .array _ _ => true | _ => false) = true) (hi : (P.info? ty).map (·.size) = some cs.size) : YieldsIf P ops S op (.agg cs) a :=
  .inl ⟨hw, fun w hw' => by
    unfold execOp
    simp only [ho, hx, Instr.loadAt, Instr.sureAddr, Sem.run_bind, Sem.run_pure, Result.andThen_ok, run_loadVar_row w g t ty cs fr d (hS w hw') hu hd hi]⟩
theorem info80 : (Tryd.prog.info? 80).map (·.size) = some 2 := by kernel_rfl
def BoolPost (w : World) (r : Nat) (l h : Nat → Int) (v : Bool) (e : Ending) (w' : World) : Prop := e = .returned (.bool v) ∧ KeepsBut (· = r) w w' ∧ Memo w' r (sums l h)
set_option maxRecDepth 100000 in
set_option maxHeartbeats 2000000 in
theorem isRight_calls (cs : Array Value) (pr le mo gr : Int) (A : Option Addr) (n c : Nat) (l h : Nat → Int) (r : Nat) (hB : BookC cs pr le mo gr A n c l h r)
    (b1 : 1 ≤ pr) (b2 : pr ≤ 500) (b3 : 0 ≤ le) (b4 : le ≤ 50) (b5 : 0 ≤ mo) (b6 : mo ≤ 50) (hl : ∀ i, 0 ≤ l i ∧ l i ≤ 200) (hh : ∀ i, 0 ≤ h i ∧ h i ≤ 200) (a b : Nat) (hab : a ≤ b) (hb8 : b ≤ 8) (w : World) (hM : Memo w r (sums l h))
    (e0 : w.cell? ⟨0, 0, none⟩ = some (.func (.func 138) #[] #[])) (e1 : w.cell? ⟨0, 1, none⟩ = some (.func (.func 136) #[] #[])) :
    Calls Tryd.prog 83 #[.agg cs, .agg #[.int .i64 a, .int .i64 b]] w (BoolPost w r l h (rightOf pr le mo (sg l a b) (sg h a b))) := by
  have i74 : (Tryd.prog.info? 74).map (·.size) = some cs.size := by rw [hB.sz]; exact info74
  have i80 : (Tryd.prog.info? 80).map (·.size) = some (#[Value.int .i64 a, .int .i64 b] : Array Value).size := info80
  have hk := kindOf_right pr le mo (sg l a b) (sg h a b)
  have hbW : Below w.heap.size w ((w.alloc (.cells cs 74)).alloc (.cells #[.int .i64 a, .int .i64 b] 80)) := ((Below.refl _ _).alloc (Nat.le_refl _) _).alloc (by simp) _
  have h0 := heap_alloc2_old w (.cells cs 74) (.cells #[.int .i64 a, .int .i64 b] 80)
  have h1 := heap_alloc2_new w (.cells cs 74) (.cells #[.int .i64 a, .int .i64 b] 80)
  have hMW := hM.keep (hbW.block r hM.lt)
  have hr := hM.lt
  have e0W := cell_kept_below hbW e0
  have e1W := cell_kept_below hbW e1
  have HF := Lib.hid (And.intro hbW (And.intro h0 (And.intro h1 (And.intro hMW (And.intro e0W e1W)))))
  have HB := Lib.hid hB
  clear hbW h0 h1 hMW e0W e1W hM e0 e1 hB
  go_enter Tryd.func83, Tryd.ntmps83
  go_wp2_with fail
  refine wp_region_held_drew (S := fun W => W.heap[w.heap.size]? = some (.cells cs 74) ∧ W.heap[w.heap.size + 1]? = some (.cells #[.int .i64 a, .int .i64 b] 80)) (by kernel_rfl) ⟨HF.out.2.1, HF.out.2.2.1⟩ (fun hS => ?_)
  refine wpAnyH_take (i := 0) (oi := _) (v := .agg cs) rfl (by kernel_rfl) (by kernel_rfl) (by kernel_rfl) (fun _ _ _ h => h) (yieldsIf_load_row (by rfl) _ _ rfl _ rfl _ cs (0, 0) _ (fun W hW => hW.1) Tryd.underlying74 rfl i74) (by assumption) ?_
  simp only [Act.put, List.getElem_toArray, List.getElem_cons_succ, List.getElem_cons_zero, List.setIfInBounds_toArray, List.set_cons_zero, List.set_cons_succ]
  refine wpAnyH_take (i := 1) (oi := _) (v := .agg cs) rfl (by kernel_rfl) (by kernel_rfl) (by kernel_rfl) (fun _ _ _ h => h) (yieldsIf_load_row (by rfl) _ _ rfl _ rfl _ cs (0, 0) _ (fun W hW => hW.1) Tryd.underlying74 rfl i74) (by assumption) ?_
  simp only [Act.put, List.getElem_toArray, List.getElem_cons_succ, List.getElem_cons_zero, List.setIfInBounds_toArray, List.set_cons_zero, List.set_cons_succ]
  refine wpAnyH_take (i := 2) (oi := _) (v := .agg #[.int .i64 a, .int .i64 b]) rfl (by kernel_rfl) (by kernel_rfl) (by kernel_rfl) (fun _ _ _ h => h) (yieldsIf_load_row (by rfl) _ _ rfl _ rfl _ _ (0, 0) _ (fun W hW => hW.2) Tryd.underlying80 rfl i80) (by assumption) ?_
  simp only [Act.put, List.getElem_toArray, List.getElem_cons_succ, List.getElem_cons_zero, List.setIfInBounds_toArray, List.set_cons_zero, List.set_cons_succ]
  refine wpAnyH_ready (rs := [3]) (by kernel_rfl) (by simp) ?_
  refine AllReadyH.cons rfl (fun K hK => ?_) AllReadyH.nil
  go_simp
  refine (sum_calls cs pr le mo gr A n c l h r HB.out hl hh a b hab hb8 _ (by exact HF.out.2.2.2.1) (by exact HF.out.2.2.2.2.1) (by exact HF.out.2.2.2.2.2)).mono ?_
  rintro e w1 ⟨rfl, hk1, hM1⟩
  have HkM := Lib.hid (And.intro hk1 hM1)
  refine hK.out _ _ ⟨(hk1.same _ (by simp; omega) (by omega)).trans HF.out.2.1, (hk1.same _ (by simp) (by omega)).trans HF.out.2.2.1⟩ (fun hS1 => ?_)
  clear hk1 hM1
  clear hK K
  refine wpAnyH_ready (rs := [4]) (by kernel_rfl) (by simp) ?_
  refine AllReadyH.cons rfl (fun K hK => ?_) AllReadyH.nil
  go_simp
  refine (kind_calls cs pr le mo gr A n c l h r HB.out _ _ b1 b2 b3 b4 b5 b6 _).mono ?_
  rintro e w2 ⟨rfl, hb2⟩
  refine hK.out _ _ ⟨(hb2.block _ (Array.getElem?_eq_some_iff.1 hS1.1).1).trans hS1.1, (hb2.block _ (Array.getElem?_eq_some_iff.1 hS1.2).1).trans hS1.2⟩ (fun hS2 => ?_)
  clear hK K
  refine wpAnyH_take (i := 5) (oi := _) (v := .bool (rightOf pr le mo (sg l a b) (sg h a b))) rfl (by kernel_rfl) (by kernel_rfl) (by kernel_rfl) (fun _ _ _ h => h) (Or.inl ⟨by rfl, fun W hW => ?_⟩) (by assumption) ?_
  · go_simp
  simp only [Act.put, List.getElem_toArray, List.getElem_cons_succ, List.getElem_cons_zero, List.setIfInBounds_toArray, List.set_cons_zero, List.set_cons_succ]
  refine wpAnyH_take (i := 6) (oi := _) (v := .bool (rightOf pr le mo (sg l a b) (sg h a b))) rfl (by kernel_rfl) (by kernel_rfl) (by kernel_rfl) (fun _ _ _ h => h) (Or.inl ⟨by rfl, fun W hW => ?_⟩) (by assumption) ?_
  · go_simp
  simp only [Act.put, List.getElem_toArray, List.getElem_cons_succ, List.getElem_cons_zero, List.setIfInBounds_toArray, List.set_cons_zero, List.set_cons_succ]
  refine wpAnyH_done (by kernel_rfl) ?_ _
  go_wp2
  go_ret
  have hkw : KeepsBut (· = r) w w1 := (KeepsBut.of_below HF.out.1).trans HkM.out.1.undrew
  exact ⟨rfl, hkw.trans (.of_below hb2), HkM.out.2.keep (hb2.block r HkM.out.2.lt)⟩
end Go.Proofs.YtbbdbdamedaldaaDoor.Fl
end
section
namespace Go.Proofs.YtbbdbdamedaldaaDoor.Fl
open Go Go.RowKit Go.Proofs.EqArr Go.Proofs.RngLaw
def boxB (m gr a b : Int) : Bool := decide (0 ≤ a) && decide (a < b) && decide (b ≤ m) && decide (b - a ≤ gr)
def prev (p : List Int) (k : Nat) : Int := if k = 0 then 0 else p.getD (k - 1) 0
def okTo (m gr : Int) (p : List Int) (k : Nat) : Prop := ∀ i, i < k → boxB m gr (prev p i) (p.getD i 0) = true
def boxCells (p : List Int) : Nat → List Value
  | 0 => []
  | k + 1 => boxCells p k ++ [.int .i64 (prev p k), .int .i64 (p.getD k 0)]
def planP (m gr : Int) (p : List Int) : Prop := okTo m gr p p.length ∧ prev p p.length = m
theorem boxB_iff (m gr a b : Int) : boxB m gr a b = true ↔ 0 ≤ a ∧ a < b ∧ b ≤ m ∧ b - a ≤ gr := by
  simp [boxB, and_assoc]
theorem prev_succ (p : List Int) (k : Nat) : prev p (k + 1) = p.getD k 0 := by simp [prev]
theorem okTo_bound {m gr : Int} {p : List Int} : ∀ {k : Nat}, okTo m gr p k → (k : Int) ≤ prev p k ∧ (k = 0 ∨ prev p k ≤ m)
  | 0, _ => by simp [prev]
  | k + 1, h => by
    obtain ⟨h1, _⟩ := okTo_bound (k := k) (fun i hi => h i (by omega))
    have h2 := (boxB_iff _ _ _ _).1 (h k (by omega))
    rw [prev_succ]
    omega
def BoxesPost (w : World) (m gr : Int) (p : List Int) (e : Ending) (w' : World) : Prop :=
  Below w.heap.size w w' ∧ ((planP m gr p ∧ ∃ v, e = .returned (.tuple #[v, .bool true]) ∧ w'.ownsRow w.heap.size 80 2 v p.length (boxCells p p.length)) ∨ (¬ planP m gr p ∧ ∃ v, e = .returned (.tuple #[v, .bool false])))
theorem drewN_below (B : Nat) (w : World) (n : Nat) : Below B w (w.drewN n) := ⟨rfl, rfl, rfl, Nat.le_refl _, fun _ _ => rfl⟩
theorem own_lower {w : World} {base base' : Nat} {e : TypeId} {size : Nat} {v : Value} {n : Nat} {xs : List Value} (h : w.ownsRow base e size v n xs) (hb : base' ≤ base) : w.ownsRow base' e size v n xs := by
  obtain ⟨h1, h2⟩ := h
  refine ⟨h1, ?_⟩
  rcases h2 with h2 | ⟨g, cap, cur, hv, hg, r⟩
  · exact .inl h2
  · exact .inr ⟨g, cap, cur, hv, Nat.le_trans hb hg, r⟩
theorem heap_alloc_keep {w : World} {g : Nat} {o : Obj} (h : w.heap[g]? = some o) (o' : Obj) : (w.alloc o').heap[g]? = some o :=
  (Below.heap_alloc w o' g (Array.getElem?_eq_some_iff.1 h).1).trans h
theorem box_keep {w w1 : World} (x y : Int) (hb : Below (w.alloc (.cells #[.int .i64 x, .int .i64 y] 80)).heap.size (w.alloc (.cells #[.int .i64 x, .int .i64 y] 80)) w1) :
    w1.cell? ⟨w.heap.size, 0, none⟩ = some (.int .i64 x) ∧ w1.cell? ⟨w.heap.size, 1, none⟩ = some (.int .i64 y) :=
  ⟨cell_kept_below hb (by go_simp), cell_kept_below hb (by go_simp)⟩
theorem info80z : (Tryd.prog.info? 80).map (fun i => (i.zero, i.size, i.bytes)) = some (some (.agg #[.int .i64 0, .int .i64 0]), 2, 16) := by kernel_rfl
set_option maxRecDepth 100000 in
set_option maxHeartbeats 2000000 in
theorem boxes_calls (cs : Array Value) (pr le mo gr : Int) (A : Option Addr) (n c : Nat) (l h : Nat → Int) (r : Nat) (hB : BookC cs pr le mo gr A n c l h r) (hn : n ≤ 8)
    (A1 : Option Addr) (n1 c1 : Nat) (p : List Int) (hn1 : p.length = n1) (w : World) (hp : RdI w A1 p) (hwf : ∀ i, i < p.length → -9223372036854775808 ≤ p.getD i 0 ∧ p.getD i 0 ≤ 9223372036854775807) :
    Calls Tryd.prog 78 #[.agg cs, .slice A1 n1 c1] w (BoxesPost w n gr p) := by
  have i74 : (Tryd.prog.info? 74).map (·.size) = some cs.size := by rw [hB.sz]; exact info74
  have hu := Tryd.underlying80
  have hu2 := Tryd.underlying74
  have hu3 := Tryd.underlying24
  have c4 := hB.c4
  have HB := Lib.hid hB
  obtain ⟨i0, hi, hz0, hz1, hz2⟩ := info_parts info80z
  have hn1' := hp.len
  have hn2 : n1 ≤ 9223372036854775807 := by omega
  have Hn1 := Lib.hid hn1
  clear hB hn1 hn1'
  go_enter Tryd.func78, Tryd.ntmps78
  go_wp2_with fail
  go_loopw [6, 7, 9, 10, 13] (fun v6 v7 _ _ v13 wr => ∃ (k : Nat) (sl : Value), k ≤ n1 ∧ v13 = .int .i64 k ∧ v7 = .int .i64 (prev p k) ∧ sl = v6 ∧ okTo n gr p k ∧
    wr.ownsRow (w.heap.size + 1) 80 2 sl k (boxCells p k) ∧ Below (w.heap.size + 1) (w.alloc (.cells cs 74)) wr) (fun _ _ _ _ v13 _ => n1 - (intOf v13).toNat)
  case atStart => exact ⟨0, _, Nat.zero_le _, rfl, rfl, rfl, fun i hi => by omega, World.ownsRow_nil _ _ _ _, Below.refl _ _⟩
  case round =>
    obtain ⟨k, sl, hk, rfl, rfl, rfl, hok, hown, hbr⟩ := hrel
    obtain ⟨hb1, hb2⟩ := okTo_bound hok
    have hk8 : k ≤ 8 := by omega
    have hsr := hbr.size
    simp at hsr
    have hbw : Below w.heap.size w wr := ((Below.refl _ w).alloc (Nat.le_refl _) _).trans (hbr.mono (by omega))
    have gb : wr.heap[w.heap.size]? = some (.cells cs 74) := (hbr.block _ (by omega)).trans (Go.heap_alloc_new w _)
    by_cases hlt : k < n1
    · obtain ⟨ad, rfl, hc⟩ := hp.ad (by have := Hn1.out; omega)
      have hck := cell_kept_below hbw (hc k (by have := Hn1.out; omega))
      have hwk := hwf k (by have := Hn1.out; omega)
      have hps : prev p (k + 1) = p.getD k 0 := prev_succ p k
      have hcs : boxCells p (k + 1) = boxCells p k ++ [.int .i64 (prev p k), .int .i64 (p.getD k 0)] := rfl
      have hos : ∀ b, boxB n gr (prev p k) (p.getD k 0) = b → (b = true → okTo n gr p (k + 1)) ∧ (b = false → ¬ planP n gr p) := by
        rintro b rfl
        refine ⟨fun hb i hi => ?_, fun hb hpl => ?_⟩
        · rcases Nat.lt_succ_iff_lt_or_eq.1 hi with h | rfl
          · exact hok i h
          · exact hb
        · rw [hpl.1 k (by have := Hn1.out; omega)] at hb
          cases hb
      generalize p.getD k 0 = y at *
      generalize prev p k = x at *
      have Hhid := Lib.hid (And.intro hps (And.intro hcs hos))
      have Hown := Lib.hid hown
      clear hps hcs hos hc hown
      have isb : ∀ (v : Bool) (W : World), boxB n gr x y = v → Calls Tryd.prog 68 #[.agg cs, .agg #[.int .i64 x, .int .i64 y]] W fun e w' => e = .returned (.bool v) ∧ Below W.heap.size W w' := by
        rintro v W rfl
        exact isBox_calls cs pr le mo gr A n c l h r HB.out x y hn hwk W
      have hsz1 : w.heap.size < wr.heap.size := by omega
      cases hb : boxB n gr x y with
      | true =>
        have Hb := Lib.hid hb
        have Isb := Lib.hid isb
        clear hb isb
        go_wp2_with (first
          | (refine wpList_load_row rfl 74 _ rfl w.heap.size rfl 74 cs (0, 0) _ (heap_alloc_keep gb _) Tryd.underlying74 rfl i74 ?_)
          | (go_at_call 68; refine (Isb.out true _ Hb.out).mono ?_; rintro e w1 ⟨rfl, hb1⟩; have hs1 := hb1.size; have hf := box_keep x y hb1; obtain ⟨hf0, hf1⟩ := hf; have hown1 := own_below (Hown.out.alloc (.cells #[.int .i64 x, .int .i64 y] 80)) hb1)
          | (at_builtin; refine wpList_append_own _ rfl _ _ 92 rfl (w.heap.size + 1) 80 i0 (.agg #[.int .i64 0, .int .i64 0]) 2 16 Tryd.underlying92 hi hz0 hz1 hz2 rfl (by decide) sl k (boxCells p k) rfl (hown1.alloc _) ⟨w1.heap.size, 0, none⟩ 1 1 [.int .i64 x, .int .i64 y] rfl rfl (cell_two_new _ _ _ _) (fun x hx => by simp at hx; rcases hx with rfl | rfl <;> rfl) (by unfold maxLen; omega) (by omega) (by simp at hs1 ⊢; omega) ?_; intro v' w3 hown' hgrow3 hnil3))
        go_roundw
        case rel =>
          simp at hs1
          exact ⟨k + 1, v', by omega, by go_num, by rw [Hhid.out.1], rfl, (Hhid.out.2.2 true Hb.out).1 rfl, by rw [Hhid.out.2.1]; exact hown', (((hbr.alloc (by omega) _).trans (hb1.mono (by simp; omega))).alloc (by omega) _).grown hgrow3 (by simp; omega) (fun k e => (Hown.out.lt k e).1)⟩
        case measure => simp [intOf]; omega
      | false =>
        have Hb := Lib.hid hb
        have Isb := Lib.hid isb
        clear hb isb
        go_wp2_with (first
          | (refine wpList_load_row rfl 74 _ rfl w.heap.size rfl 74 cs (0, 0) _ (heap_alloc_keep gb _) Tryd.underlying74 rfl i74 ?_)
          | (go_at_call 68; refine (Isb.out false _ Hb.out).mono ?_; rintro e w1 ⟨rfl, hb1⟩))
        go_ret2
        exact ⟨(hbw.alloc (by omega) _).trans (hb1.mono (by simp; omega)), .inr ⟨(Hhid.out.2.2 false Hb.out).2 rfl, _, rfl⟩⟩
    · obtain rfl : k = n1 := by omega
      have cb := (cell_of_row _ _ 4 _ _ _ gb).trans c4
      have Hown := Lib.hid hown
      have Hok := Lib.hid hok
      have hlast : ∀ v : Bool, (prev p k == (n : Int)) = v → (v = true → planP n gr p) ∧ (v = false → ¬ planP n gr p) := by
        rintro v rfl
        refine ⟨fun h1 => ⟨by rw [Hn1.out]; exact Hok.out, by rw [Hn1.out]; simpa using h1⟩, fun h1 h2 => ?_⟩
        have := h2.2
        rw [Hn1.out] at this
        rw [this] at h1
        simp at h1
      have Hl := Lib.hid hlast
      clear hok hown hlast
      generalize hx : prev p k = x at *
      have Hx := Lib.hid hx
      clear hx
      cases hz : (x == (n : Int)) with
      | true =>
        have hpl := (Hl.out true hz).1 rfl
        have Hpl := Lib.hid hpl
        clear hpl Hl
        go_wp2_with fail
        go_quiet (fail)
        go_wp2
        go_ret2
        exact ⟨hbw.trans (drewN_below _ _ _), .inl ⟨Hpl.out, _, rfl, by rw [Hn1.out]; exact own_below (own_lower Hown.out (by omega)) (drewN_below _ _ _)⟩⟩
      | false =>
        have hpl := (Hl.out false hz).2 rfl
        have Hpl := Lib.hid hpl
        clear hpl Hl
        go_wp2_with fail
        go_quiet (fail)
        go_wp2
        go_ret2
        exact ⟨hbw.trans (drewN_below _ _ _), .inr ⟨Hpl.out, _, rfl⟩⟩
end Go.Proofs.YtbbdbdamedaldaaDoor.Fl
end
section
namespace Go.Proofs.YtbbdbdamedaldaaDoor.Fl
open Go Go.RowKit Go.Proofs.EqArr Go.Proofs.RngLaw
def pairCells (q : List (Nat × Nat)) : List Value := q.flatMap fun x => [.int .i64 x.1, .int .i64 x.2]
def handsTo (f : Nat → Nat → Bool) (q : List (Nat × Nat)) (k : Nat) : List Int := ((List.range k).filter fun i => !f (q.getD i (0, 0)).1 (q.getD i (0, 0)).2).map Int.ofNat
theorem handsTo_succ (f : Nat → Nat → Bool) (q : List (Nat × Nat)) (k : Nat) : handsTo f q (k + 1) = handsTo f q k ++ if f (q.getD k (0, 0)).1 (q.getD k (0, 0)).2 then [] else [(k : Int)] := by
  unfold handsTo
  rw [List.range_succ, List.filter_append, List.map_append]
  congr 1
  cases h : f (q.getD k (0, 0)).1 (q.getD k (0, 0)).2
  · rw [List.filter_cons_of_pos (by rw [h]; rfl)]; rfl
  · rw [List.filter_cons_of_neg (by rw [h]; simp)]; rfl
theorem handsTo_len (f : Nat → Nat → Bool) (q : List (Nat × Nat)) (k : Nat) : (handsTo f q k).length ≤ k := by
  unfold handsTo
  rw [List.length_map]
  exact Nat.le_trans (List.length_filter_le _ _) (by simp)
theorem pairCells_at (q : List (Nat × Nat)) (k : Nat) (hk : k < q.length) : (pairCells q)[k * 2]? = some (.int .i64 (q.getD k (0, 0)).1) ∧ (pairCells q)[k * 2 + 1]? = some (.int .i64 (q.getD k (0, 0)).2) := by
  induction q generalizing k with
  | nil => simp at hk
  | cons x q ih =>
    have e : pairCells (x :: q) = .int .i64 x.1 :: .int .i64 x.2 :: pairCells q := rfl
    rw [e]
    cases k with
    | zero => exact ⟨rfl, rfl⟩
    | succ k =>
      have h := ih k (by simpa using hk)
      rw [show (k + 1) * 2 = k * 2 + 1 + 1 by omega]
      simpa using h
def HandsPost (w : World) (r : Nat) (l h : Nat → Int) (xs : List Int) (e : Ending) (w' : World) : Prop :=
  KeepsBut (· = r) w w' ∧ Memo w' r (sums l h) ∧ ∃ v, e = .returned v ∧ w'.ownsRow w.heap.size 3 1 v xs.length (ints xs)
def rightB (pr le mo : Int) (l h : Nat → Int) (a b : Nat) : Bool := rightOf pr le mo (sg l a b) (sg h a b)
theorem own_keeps {w w1 : World} {base : Nat} {e : TypeId} {size : Nat} {v : Value} {n : Nat} {xs : List Value} {S : Nat → Prop} (h : w.ownsRow base e size v n xs) (hk : KeepsBut S w w1) (hs : ∀ g, v.ownBlock = some g → ¬ S g) : w1.ownsRow base e size v n xs := by
  obtain ⟨h1, h2⟩ := h
  refine ⟨h1, ?_⟩
  rcases h2 with h2 | ⟨g, cap, cur, rfl, hg, hh, r⟩
  · exact .inl h2
  · exact .inr ⟨g, cap, cur, rfl, hg, (hk.same g (Array.getElem?_eq_some_iff.1 hh).1 (hs g rfl)).trans hh, r⟩
set_option maxRecDepth 100000 in
set_option maxHeartbeats 2000000 in
theorem byHand_calls (cs : Array Value) (pr le mo gr : Int) (A : Option Addr) (n c : Nat) (l h : Nat → Int) (r : Nat) (hB : BookC cs pr le mo gr A n c l h r)
    (b1 : 1 ≤ pr) (b2 : pr ≤ 500) (b3 : 0 ≤ le) (b4 : le ≤ 50) (b5 : 0 ≤ mo) (b6 : mo ≤ 50) (hl : ∀ i, 0 ≤ l i ∧ l i ≤ 200) (hh : ∀ i, 0 ≤ h i ∧ h i ≤ 200)
    (q : List (Nat × Nat)) (hq8 : q.length ≤ 8) (hq : ∀ x ∈ q, x.1 ≤ x.2 ∧ x.2 ≤ 8) (base : Nat) (v : Value) (w : World) (hv : w.ownsRow base 80 2 v q.length (pairCells q)) (hM : Memo w r (sums l h))
    (e0 : w.cell? ⟨0, 0, none⟩ = some (.func (.func 138) #[] #[])) (e1 : w.cell? ⟨0, 1, none⟩ = some (.func (.func 136) #[] #[])) :
    Calls Tryd.prog 81 #[.agg cs, v] w (HandsPost w r l h (handsTo (rightB pr le mo l h) q q.length)) := by
  have i74 : (Tryd.prog.info? 74).map (·.size) = some cs.size := by rw [hB.sz]; exact info74
  have hu := Tryd.underlying80
  obtain ⟨i0, hi, hz0, hz1, hz2⟩ := info_parts info3
  have hbW : Below w.heap.size w (w.alloc (.cells cs 74)) := (Below.refl _ _).alloc (Nat.le_refl _) _
  have hr := hM.lt
  have hsl : ∃ A1 c1, v = .slice A1 q.length c1 ∧ (0 < q.length → ∃ g, A1 = some ⟨g, 0, none⟩ ∧ ∀ W, KeepsBut (· = r) w W → ∀ k, k < q.length → W.cell? ⟨g, k * 2, none⟩ = some (.int .i64 (q.getD k (0, 0)).1) ∧ W.cell? ⟨g, k * 2 + 1, none⟩ = some (.int .i64 (q.getD k (0, 0)).2)) := by
    rcases Nat.eq_zero_or_pos q.length with h0 | h0
    · rcases hv.2 with ⟨rfl, _⟩ | ⟨g, cap, cur, rfl, _⟩
      · exact ⟨none, 0, by rw [h0], fun hp => by omega⟩
      · exact ⟨_, cap, rfl, fun hp => by omega⟩
    · obtain ⟨g, cap, rfl, _, _⟩ := hv.form h0
      refine ⟨_, cap, rfl, fun _ => ⟨g, rfl, fun W hW k hk => ?_⟩⟩
      obtain ⟨p1, p2⟩ := pairCells_at q k hk
      have q1 := hv.cells (g := g) rfl _ _ p1
      have q2 := hv.cells (g := g) rfl _ _ p2
      have hg : g ≠ r := by
        rintro rfl
        obtain ⟨es, ck, hm, _⟩ := hM
        unfold World.cell? at q1
        have : ((⟨g, 0, none⟩ : Addr).add (k * 2)).block = g := by unfold Addr.add; split <;> rfl
        rw [this, hm] at q1
        cases q1
      have ha : ∀ j, (⟨g, 0, none⟩ : Addr).add j = ⟨g, j, none⟩ := fun j => by unfold Addr.add; split <;> simp_all
      rw [ha] at q1 q2
      exact ⟨hW.cell q1 (by simpa using hg), hW.cell q2 (by simpa using hg)⟩
  obtain ⟨A1, c1, rfl, hrd⟩ := hsl
  have HF := Lib.hid (And.intro hM (And.intro e0 (And.intro e1 hrd)))
  have HB := Lib.hid hB
  clear hM e0 e1 hB hrd hv
  obtain ⟨n1, hn1⟩ : ∃ n1, q.length = n1 := ⟨_, rfl⟩
  rw [hn1] at hq8 ⊢
  have Hn1 := Lib.hid hn1
  clear hn1
  go_enter Tryd.func81, Tryd.ntmps81
  go_wp2
  go_step3
  go_wp2_with (refine wpList_load_row rfl 74 _ rfl w.heap.size rfl 74 cs (0, 0) _ (Go.heap_alloc_new _ _) Tryd.underlying74 rfl i74 ?_)
  go_step3
  go_wp2
  go_loopw [5, 7, 8, 13] (fun v5 _ _ v13 wr => ∃ (k : Nat) (sl : Value), k ≤ n1 ∧ v13 = .int .i64 k ∧ sl = v5 ∧ wr.ownsRow w.heap.size 3 1 sl (handsTo (rightB pr le mo l h) q k).length (ints (handsTo (rightB pr le mo l h) q k)) ∧
    KeepsBut (· = r) w wr ∧ Memo wr r (sums l h)) (fun _ _ _ v13 _ => n1 - (intOf v13).toNat)
  case atStart => exact ⟨0, _, Nat.zero_le _, rfl, rfl, World.ownsRow_nil _ _ _ _, .of_below hbW, HF.out.1.keep (hbW.block r hr)⟩
  case round =>
    obtain ⟨k, sl, hk, rfl, rfl, hown, hkr, hMr⟩ := hrel
    have hsr := hkr.size
    by_cases hlt : k < n1
    · obtain ⟨g, rfl, hrd⟩ := HF.out.2.2.2 (by have := Hn1.out; omega)
      obtain ⟨c0, c1'⟩ := hrd wr hkr k (by have := Hn1.out; omega)
      have hm : q.getD k (0, 0) ∈ q := by
        rw [List.getD_eq_getElem?_getD, List.getElem?_eq_getElem (by have := Hn1.out; omega)]
        exact List.getElem_mem _
      obtain ⟨hab, hb8⟩ := hq _ hm
      have hsn := handsTo_succ (rightB pr le mo l h) q k
      have hln := handsTo_len (rightB pr le mo l h) q k
      clear hm hrd
      generalize (q.getD k (0, 0)).1 = a at *
      generalize (q.getD k (0, 0)).2 = b at *
      have hal : Below wr.heap.size wr (wr.alloc (.cells #[.int .i64 a, .int .i64 b] 80)) := (Below.refl _ _).alloc (Nat.le_refl _) _
      have h0 := HF.out.2.1
      have h1 := HF.out.2.2.1
      have hne : ¬ (0 = r) := by
        rintro rfl
        obtain ⟨es, ck, hm, _⟩ := HF.out.1
        simp [World.cell?, hm] at h0
      have h0r := cell_kept_below hal (hkr.cell h0 hne)
      have h1r := cell_kept_below hal (hkr.cell h1 hne)
      have isr : ∀ (v : Bool), rightB pr le mo l h a b = v → Calls Tryd.prog 83 #[.agg cs, .agg #[.int .i64 a, .int .i64 b]] (wr.alloc (.cells #[.int .i64 a, .int .i64 b] 80)) (BoolPost (wr.alloc (.cells #[.int .i64 a, .int .i64 b] 80)) r l h v) := by
        rintro v rfl
        exact isRight_calls cs pr le mo gr A n c l h r HB.out b1 b2 b3 b4 b5 b6 hl hh a b hab hb8 _ (hMr.keep (hal.block r hMr.lt)) h0r h1r
      have hrr := hMr.lt
      have HM := Lib.hid hMr
      have HK := Lib.hid hkr
      have HI := Lib.hid isr
      have Hown := Lib.hid hown
      have Hsn := Lib.hid hsn
      clear hMr hkr isr hown hsn h0 h1 h0r h1r
      cases hv : rightB pr le mo l h a b with
      | true =>
        have HV := Lib.hid hv
        clear hv
        go_wp2_with (go_at_call 83; refine (HI.out true HV.out).mono ?_; rintro e w1 ⟨rfl, hk1, hM1⟩; have HK1 := Lib.hid (And.intro hk1 hM1); clear hk1 hM1)
        go_roundw
        case rel =>
          have e : handsTo (rightB pr le mo l h) q (k + 1) = handsTo (rightB pr le mo l h) q k := by rw [Hsn.out, if_pos HV.out]; simp
          refine ⟨k + 1, sl, by omega, by go_num, rfl, ?_, (HK.out.trans (.of_below hal)).trans HK1.out.1, HK1.out.2⟩
          rw [e]
          exact own_keeps (own_below Hown.out hal) HK1.out.1 (fun g hg he => by have := (Hown.out.lt g hg).1; omega)
        case measure => simp [intOf]; omega
      | false =>
        have HV := Lib.hid hv
        clear hv
        go_wp2_with (first
          | (go_at_call 83; refine (HI.out false HV.out).mono ?_; rintro e w1 ⟨rfl, hk1, hM1⟩; have hs1 := hk1.size; have hown1 := own_keeps (own_below Hown.out hal) hk1 (fun g hg he => by have := (Hown.out.lt g hg).1; omega); have HK1 := Lib.hid (And.intro hk1 hM1); clear hk1 hM1)
          | (at_builtin; refine wpList_append_own _ rfl _ _ 38 rfl w.heap.size 3 i0 (.int .i64 0) 1 8 Tryd.underlying38 hi hz0 hz1 hz2 rfl (by decide) sl (handsTo (rightB pr le mo l h) q k).length (ints (handsTo (rightB pr le mo l h) q k)) rfl (hown1.alloc _) ⟨w1.heap.size, 0, none⟩ 1 1 [.int .i64 k] rfl rfl (cell_one_new _ _ _) (fun x hx => by simp at hx; subst hx; rfl) (by unfold maxLen; omega) (by omega) (by simp at hs1 ⊢; omega) ?_; intro v' w3 hown' hgrow3 hnil3))
        go_roundw
        case rel =>
          have e : handsTo (rightB pr le mo l h) q (k + 1) = handsTo (rightB pr le mo l h) q k ++ [(k : Int)] := by rw [Hsn.out, if_neg (by rw [HV.out]; simp)]
          have hkk : KeepsBut (· = r) wr (w1.alloc (.cells #[.int .i64 k] 3)) := (((KeepsBut.of_below hal).trans HK1.out.1)).alloc _
          have hg3 : KeepsBut (· = r) w w3 := by
            refine ⟨hgrow3.os.trans (HK.out.trans hkk).os, hgrow3.tape.trans (HK.out.trans hkk).tape, hgrow3.output.trans (HK.out.trans hkk).output, Nat.le_trans (HK.out.trans hkk).size hgrow3.size, fun i hi hs => ?_⟩
            rw [hgrow3.block i (Nat.lt_of_lt_of_le hi (HK.out.trans hkk).size) (fun e => by have := (Hown.out.lt i e.symm).1; omega)]
            exact (HK.out.trans hkk).same i hi hs
          refine ⟨k + 1, v', by omega, by go_num, rfl, ?_, hg3, ?_⟩
          · rw [e]
            simpa [ints] using hown'
          · refine (HK1.out.2.keep (Below.heap_alloc _ (.cells #[.int .i64 k] 3) r HK1.out.2.lt)).keep (hgrow3.block r ?_ (fun e => by have := (Hown.out.lt r e.symm).1; omega))
            simp
            exact Nat.lt_succ_of_lt HK1.out.2.lt
        case measure => simp [intOf]; omega
    · obtain rfl : k = n1 := by omega
      have HM := Lib.hid hMr
      have HK := Lib.hid hkr
      have Hown := Lib.hid hown
      clear hMr hkr hown
      go_wp2
      rw [Exit.noGoto_ret]
      go_ret
      exact ⟨HK.out, HM.out, _, rfl, Hown.out⟩
end Go.Proofs.YtbbdbdamedaldaaDoor.Fl
end
section
namespace Go.Proofs.CopyN
open Go Go.RowKit
theorem run_copy_cells {P : Program} (w : World) (dT sT ty elem : TypeId) (sz g o dLen dCap sLen sCap : Nat) (sp : Option Addr) (cur : Array Value) (t : TypeId) (cs : List Value)
    (hu : P.underlying dT = some (.slice elem)) (hs : (P.info? elem).map (·.size) = some sz) (hle : sLen ≤ dLen)
    (hg : w.heap[g]? = some (.cells cur t (0, 0))) (hn : cs.length = sLen * sz)
    (hsrc : 0 < cs.length → ∃ a, sp = some a ∧ ∀ j v, cs[j]? = some v → w.cell? (a.add j) = some v) (hfit : o + cs.length ≤ cur.size) (h1 : ∀ v ∈ cs, v.oneCell' = true) :
    (Builtin.copy_ #[dT, sT] ty #[.slice (some ⟨g, o, none⟩) dLen dCap, .slice sp sLen sCap]).run P w =
      .ok (goInt sLen) (w.setRow g (cur.toList.take o ++ cs ++ cur.toList.drop (o + cs.length)).toArray) := by
  have hst := run_storeCells_at P g o t cs 0 cur w hg (by simpa using hfit) h1
  have hmin : Nat.min sLen dLen = sLen := Nat.min_eq_left hle
  cases hq : P.info? elem with
  | none => simp [hq] at hs
  | some i =>
    have hi : i.size = sz := by simpa [hq] using hs
    have hfc : (Builtin.firstCells sz sLen (.slice sp sLen sCap)).run P w = .ok cs.toArray w := by
      rcases Nat.eq_zero_or_pos cs.length with h0 | h0
      · have hz : sLen * sz = 0 := by omega
        have hc : cs = [] := List.eq_nil_of_length_eq_zero h0
        subst hc
        cases sp with
        | none => simp [Builtin.firstCells]
        | some a => simp [Builtin.firstCells, hz, loadCells, loadCellsFrom]
      · obtain ⟨a, rfl, hc⟩ := hsrc h0
        have hl := run_loadCells_list (P := P) w a cs hc
        simp [Builtin.firstCells, ← hn, hl]
    simp [Builtin.copy_, run_underlying hu, Builtin.lenOf, sizeOf, typeInfo, hq, hi, hmin, hfc, hst]
theorem step_copy_cells {P : Program} {ops : Array Oper} {o : Oper} {a : Act} {w : World} {K : Act → World → Prop} {Q : Exit → Act → World → Prop} {E : Prop} (hgd : o.guard = none) (d s : Operand) (dT sT : TypeId)
    (ho : o.op = .call { callee := .builtin .copy, args := #[d, s], argTypes := #[dT, sT] }) (elem : TypeId) (sz g off dLen dCap sLen sCap : Nat) (sp : Option Addr) (cur : Array Value) (t : TypeId) (cs : List Value)
    (hd : a.eval d = .slice (some ⟨g, off, none⟩) dLen dCap) (hs : a.eval s = .slice sp sLen sCap)
    (hu : P.underlying dT = some (.slice elem)) (hsz : (P.info? elem).map (·.size) = some sz) (hle : sLen ≤ dLen)
    (hg : w.heap[g]? = some (.cells cur t (0, 0))) (hn : cs.length = sLen * sz)
    (hsrc : 0 < cs.length → ∃ a, sp = some a ∧ ∀ j v, cs[j]? = some v → w.cell? (a.add j) = some v) (hfit : off + cs.length ≤ cur.size) (h1 : ∀ v ∈ cs, v.oneCell' = true)
    (h : K (a.put o.dst (goInt sLen)) (w.setRow g (cur.toList.take off ++ cs ++ cur.toList.drop (off + cs.length)).toArray)) :
    if Region.wanted o (yielded ops a.tmps) = true then Oper.wp P o a w K Q else E := by
  have hw : Region.wanted o (yielded ops a.tmps) = true := by simp [Region.wanted, hgd]
  rw [if_pos hw]
  have hrun := run_copy_cells (P := P) w dT sT o.type elem sz g off dLen dCap sLen sCap sp cur t cs hu hsz hle hg hn hsrc hfit h1
  unfold Oper.wp
  simp only [List.append_assoc] at h hrun
  simp [execOp, ho, resolve, invoke, builtin, hd, hs, hrun, Result.andThen]
  exact h
end Go.Proofs.CopyN
end
