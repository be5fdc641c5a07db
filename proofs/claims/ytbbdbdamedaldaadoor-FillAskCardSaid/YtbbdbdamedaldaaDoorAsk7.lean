/- The card of FillAsk: the row, its listed variable tied to the program's text. Whatever the input, the law returns true, and each argument reads afterwards as it did. (part 8) -/
import Derived.Laws.CopyRow
import Derived.DataElems
import Derived.Shelf.Sort.Plain
import Derived.Shelf.Slices.In.SortNone
import Derived.Test.YtbbdbdamedaldaaDoorProg
import Derived.Sort.OwnSortedInts
import Derived.Deep.AppendLies
import Derived.Test.YtbbdbdamedaldaaDoorAsk6
set_option linter.unusedVariables false
set_option linter.unusedSimpArgs false
section
namespace Go.Proofs.YtbbdbdamedaldaaDoor.Fl
open Go Go.RowKit Go.Proofs.EqArr Go.Proofs.RngLaw Go.Proofs.CopyN
theorem plansF_ne (n gr : Nat) (hg : 1 ≤ gr) : ∀ (d a : Nat) (plan : List Int), n ≤ a + d → a ≤ n → plansF n gr d a plan ≠ [] := by
  intro d
  induction d with
  | zero =>
    intro a plan hd ha
    have e : a = n := by omega
    subst e
    rw [plansF_leaf]
    simp
  | succ d ih =>
    intro a plan hd ha
    by_cases e : a = n
    · subst e
      rw [plansF_leaf]
      simp
    · rw [plansF_step _ _ _ _ _ e]
      intro h
      have h1 := flatP_prefix n gr d a plan 1 (gr - 1)
      rw [show 1 + (gr - 1) = gr by omega, h, List.prefix_nil, flatP_succ, if_pos (by omega)] at h1
      exact ih (a + 0 + 1) _ (by omega) (by omega) (List.append_eq_nil_iff.1 h1).2
theorem plansL_ne (n gr : Nat) (hg : 1 ≤ gr) : plansL n gr ≠ [] := plansF_ne n gr hg n 0 [] (by omega) (by omega)
def bestP (bt : Int → Int → Int → Int → Bool) (hn : List Int → Int) (ps : List (List Int)) : List Int := (bestTo bt hn ps).getD []
theorem bestTo_ne {bt : Int → Int → Int → Int → Bool} {hn : List Int → Int} {ps : List (List Int)} (h : ps ≠ []) : bestTo bt hn ps = some (bestP bt hn ps) := by
  unfold bestP
  rcases List.eq_nil_or_concat ps with h0 | ⟨L, z, h0⟩
  · exact absurd h0 h
  · rw [h0, List.concat_eq_append]
    obtain ⟨q, hq⟩ := bestTo_some bt hn L z
    rw [hq]
    rfl
set_option maxRecDepth 100000 in
theorem fewest_calls (w : World) : Calls Tryd.prog 87 #[] w fun e w' => e = .returned (.agg #[.func (.func 98) #[] #[]]) ∧ Below w.heap.size w w' := by
  have hu := Tryd.underlying104
  have i104 : (Tryd.prog.info? 104).map (·.size) = some (#[Value.func (.func 98) #[] #[]] : Array Value).size := by
    have h : (Tryd.prog.info? 104).map (·.size) = some 1 := by kernel_rfl
    exact h
  go_enter Tryd.func87, Tryd.ntmps87
  go_wp2
  exact bodyPost_ret (v := .agg #[.func (.func 98) #[] #[]]) (results_cell_row Tryd.results87 _ _ w.heap.size 104 _ (0, 0) _ rfl (Go.heap_alloc_new _ _) hu rfl i104) rfl ⟨rfl, (Below.refl _ _).alloc (Nat.le_refl _) _⟩
set_option maxRecDepth 100000 in
theorem surest_calls (w : World) : Calls Tryd.prog 89 #[] w fun e w' => e = .returned (.agg #[.func (.func 99) #[] #[]]) ∧ Below w.heap.size w w' := by
  have hu := Tryd.underlying104
  have i104 : (Tryd.prog.info? 104).map (·.size) = some (#[Value.func (.func 99) #[] #[]] : Array Value).size := by
    have h : (Tryd.prog.info? 104).map (·.size) = some 1 := by kernel_rfl
    exact h
  go_enter Tryd.func89, Tryd.ntmps89
  go_wp2
  exact bodyPost_ret (v := .agg #[.func (.func 99) #[] #[]]) (results_cell_row Tryd.results89 _ _ w.heap.size 104 _ (0, 0) _ rfl (Go.heap_alloc_new _ _) hu rfl i104) rfl ⟨rfl, (Below.refl _ _).alloc (Nat.le_refl _) _⟩
def BestQ (r : Nat) (P : List Int) (hN : Int) (W : World) (e : Ending) (W' : World) : Prop :=
  KeepsBut (· = r) W W' ∧ ∃ A c, e = .returned (.agg #[.slice A P.length c, .int .i64 P.length, .int .i64 hN]) ∧ P.length ≤ c ∧ ∀ c', P.length ≤ c' → ShI W' W.heap.size (.slice A P.length c') P
theorem best_open (pr le mo gr : Int) (A : Option Addr) (c : Nat) (q : List (Int × Int)) (hck : checkB pr le mo gr q = true) (g : Nat) (eg : ∀ args w, (callFunc g args).run Tryd.prog w = .ok (.enter g args) w) (bt : Int → Int → Int → Int → Bool)
    (hbt : ∀ A1 m1 c1 b1 h1 A2 m2 c2 b2 h2 W, 0 ≤ b1 ∧ b1 ≤ 8 → 0 ≤ h1 ∧ h1 ≤ 8 → 0 ≤ b2 ∧ b2 ≤ 8 → 0 ≤ h2 ∧ h2 ≤ 8 →
      Calls Tryd.prog g #[.agg #[.slice A1 m1 c1, .int .i64 b1, .int .i64 h1], .agg #[.slice A2 m2 c2, .int .i64 b2, .int .i64 h2]] W fun e w' => e = .returned (.bool (bt b1 h1 b2 h2)) ∧ Below W.heap.size W w')
    (r : Nat) (W : World) (hm : W.heap[r]? = some (.map #[] 0)) (hL : Laid W) :
    Calls Tryd.prog 86 #[.agg (openCells pr le mo gr A q.length c q r), .agg #[.func (.func g) #[] #[]]] W
      (BestQ r (bestP bt (handN pr le mo (lowOf q) (highOf q)) (plansL q.length gr.toNat)) (handN pr le mo (lowOf q) (highOf q) (bestP bt (handN pr le mo (lowOf q) (highOf q)) (plansL q.length gr.toNat))) W) := by
  have hF := bookF hck
  refine (best_calls (openCells pr le mo gr A q.length c q r) pr le mo gr A q.length c (lowOf q) (highOf q) r (openCells_bookC _ _ _ _ _ _ _ _ _ hF.n8) hF.n8 hF.g1 hF.g4 hF.b1 hF.b2 hF.b3 hF.b4 hF.b5 hF.b6 hF.hl hF.hh g eg bt hbt W (memo0 hm _) hL).mono ?_
  rintro e W' ⟨hk, _, A', m', c', b', h', N, hN, hO, rfl⟩
  have hg : 1 ≤ gr.toNat := by have := hF.g1; omega
  unfold OutIs at hO
  rw [bestTo_ne (plansL_ne _ _ hg)] at hO
  obtain ⟨⟨A2, c2, he, hrd, hc2, _, hbl⟩, rfl, rfl, _⟩ := hO
  cases he
  refine ⟨hk, A', c', rfl, hc2, fun c'' hc'' => ⟨⟨A', c'', rfl, hc'', fun hp => ?_⟩, hrd.len⟩⟩
  obtain ⟨ad, rfl, hcell⟩ := hrd.ad hp
  obtain ⟨⟨g', rfl⟩, hnb⟩ := hbl _ rfl
  refine ⟨g', by simp at hnb; omega, rfl, fun j hj => ?_⟩
  have := hcell j hj
  have ha : (⟨g', 0, none⟩ : Addr).add j = ⟨g', j, none⟩ := by unfold Addr.add; split <;> simp_all
  rw [ha] at this
  exact this
theorem bestTo_mem (bt : Int → Int → Int → Int → Bool) (hn : List Int → Int) : ∀ (ps : List (List Int)) (o : Option (List Int)) (p : List Int), ps.foldl (fun o p => match o with | none => some p | some q => if bt p.length (hn p) q.length (hn q) = true then some p else some q) o = some p → p ∈ ps ∨ o = some p
  | [], o, p, h => .inr h
  | x :: ps, o, p, h => by
    rw [List.foldl_cons] at h
    rcases bestTo_mem bt hn ps _ p h with h1 | h1
    · exact .inl (List.mem_cons_of_mem _ h1)
    · cases o with
      | none => cases h1; exact .inl List.mem_cons_self
      | some q =>
        simp only at h1
        split at h1
        · cases h1; exact .inl List.mem_cons_self
        · exact .inr h1
theorem bestP_mem {bt : Int → Int → Int → Int → Bool} {hn : List Int → Int} {ps : List (List Int)} (h : ps ≠ []) : bestP bt hn ps ∈ ps := by
  rcases bestTo_mem bt hn ps none _ (bestTo_ne h) with h1 | h1
  · exact h1
  · cases h1
theorem handN_bd (pr le mo : Int) (l h : Nat → Int) (p : List Int) : 0 ≤ handN pr le mo l h p ∧ handN pr le mo l h p ≤ p.length := by
  have := handsTo_len (rightB pr le mo l h) (boxesOf p) p.length
  unfold handN
  omega
theorem run_field100 (A : Option Addr) (m c : Nat) (b h : Int) (W : World) : (Instr.field 100 (.agg #[.slice A m c, .int .i64 b, .int .i64 h]) 0).run Tryd.prog W = .ok (.slice A m c) W := by kernel_rfl
theorem run_field100h (A : Option Addr) (m c : Nat) (b h : Int) (W : World) : (Instr.field 100 (.agg #[.slice A m c, .int .i64 b, .int .i64 h]) 2).run Tryd.prog W = .ok (.int .i64 h) W := by kernel_rfl
def bestPlan (pr le mo gr : Int) (q : List (Int × Int)) : List Int := bestP btFew (handN pr le mo (lowOf q) (highOf q)) (plansL q.length gr.toNat)
def mostBoxes (pr le mo gr : Int) (q : List (Int × Int)) : Int :=
  ((bestP btSure (handN pr le mo (lowOf q) (highOf q)) (plansL q.length gr.toNat)).length : Int) - handN pr le mo (lowOf q) (highOf q) (bestP btSure (handN pr le mo (lowOf q) (highOf q)) (plansL q.length gr.toNat))
def BestApiPost (w : World) (pr le mo gr : Int) (q : List (Int × Int)) (ck : Bool) (e : Ending) (w' : World) : Prop :=
  Below w.heap.size w w' ∧ (ck = false → e = .returned (.tuple #[.slice none 0 0, .int .i64 50])) ∧ (ck = true → ∃ v, e = .returned (.tuple #[v, .int .i64 0]) ∧ ShI w' w.heap.size v (bestPlan pr le mo gr q))
def BoxesApiPost (w : World) (pr le mo gr : Int) (q : List (Int × Int)) (ck : Bool) (e : Ending) (w' : World) : Prop :=
  Below w.heap.size w w' ∧ (ck = false → e = .returned (.tuple #[.int .i64 0, .int .i64 50])) ∧ (ck = true → e = .returned (.tuple #[.int .i64 (mostBoxes pr le mo gr q), .int .i64 0]))
set_option maxRecDepth 100000 in
set_option maxHeartbeats 2000000 in
theorem apiBest_calls (pr le mo gr : Int) (A : Option Addr) (n c : Nat) (q : List (Int × Int)) (hn : n = q.length) (hc : q.length ≤ c) (hl : q.length ≤ 9223372036854775807) (w : World) (hrd : RdH w A q) (hLd : Laid w) :
    Calls Tryd.prog 31 #[.agg #[.int .i64 pr, .int .i64 le, .int .i64 mo, .int .i64 gr, .slice A n c]] w (BestApiPost w pr le mo gr q (checkB pr le mo gr q)) := by
  have chk := fun W (hb : Below w.heap.size w W) => check_calls pr le mo gr A n c q hn hc hl W (hrd.below hb)
  have opn := fun (h8 : q.length ≤ 8) W (hb : Below w.heap.size w W) => opened_calls pr le mo gr A n c q hn h8 W (hrd.below hb)
  clear hn
  have Chk := Lib.hid chk
  have Opn := Lib.hid opn
  have HLd := Lib.hid hLd
  clear hrd chk opn hLd
  have i24 : (Tryd.prog.info? 24).map (·.size) = some (#[Value.int .i64 pr, .int .i64 le, .int .i64 mo, .int .i64 gr, .slice A n c] : Array Value).size := info24
  have harg : (w.alloc (.cells #[.int .i64 pr, .int .i64 le, .int .i64 mo, .int .i64 gr, .slice A n c] 24)).heap[w.heap.size]? = some (.cells #[.int .i64 pr, .int .i64 le, .int .i64 mo, .int .i64 gr, .slice A n c] 24) := Go.heap_alloc_new _ _
  have hb0 : Below w.heap.size w (w.alloc (.cells #[.int .i64 pr, .int .i64 le, .int .i64 mo, .int .i64 gr, .slice A n c] 24)) := (Below.refl _ _).alloc (Nat.le_refl _) _
  cases hck : checkB pr le mo gr q with
  | false =>
    have e50 : errOf (checkB pr le mo gr q) = 50 := by rw [hck]; rfl
    have E50 := Lib.hid e50
    clear hck e50
    go_enter Tryd.func31, Tryd.ntmps31
    go_wp2_with (first
      | (go_at_call 17; refine (Chk.out _ hb0).mono ?_; rintro e w1 ⟨rfl, hb1⟩; rw [E50.out]; have hb2 := hb0.trans (hb1.mono (by simp <;> omega))))
    go_ret2
    exact ⟨hb2, fun _ => rfl, fun h => by cases h⟩
  | true =>
    have e50 : errOf (checkB pr le mo gr q) = 0 := by rw [hck]; rfl
    have hF := bookF hck
    have h8 := hF.n8
    have hg : 1 ≤ gr.toNat := by have := hF.g1; omega
    have hP8 : (bestP btFew (handN pr le mo (lowOf q) (highOf q)) (plansL q.length gr.toNat)).length ≤ 8 := by
      refine Nat.le_trans (planP_length (plansL_planP hF.g1 _ ?_)) h8
      exact bestP_mem (plansL_ne _ _ hg)
    have hH8 : 0 ≤ handN pr le mo (lowOf q) (highOf q) (bestP btFew (handN pr le mo (lowOf q) (highOf q)) (plansL q.length gr.toNat)) ∧ handN pr le mo (lowOf q) (highOf q) (bestP btFew (handN pr le mo (lowOf q) (highOf q)) (plansL q.length gr.toNat)) ≤ 8 := by
      have := handN_bd pr le mo (lowOf q) (highOf q) (bestP btFew (handN pr le mo (lowOf q) (highOf q)) (plansL q.length gr.toNat))
      omega
    have bst := fun r W hm hL => best_open pr le mo gr A c q hck 98 (enters Tryd.func98 (by kernel_rfl) (by kernel_rfl)) btFew (fun A1 m1 c1 b1 h1 A2 m2 c2 b2 h2 W' k1 k2 k3 k4 => fewest1_calls A1 m1 c1 b1 h1 A2 m2 c2 b2 h2 W') r W hm hL
    obtain ⟨P, hP⟩ : ∃ P, bestP btFew (handN pr le mo (lowOf q) (highOf q)) (plansL q.length gr.toNat) = P := ⟨_, rfl⟩
    obtain ⟨H, hH⟩ : ∃ H, handN pr le mo (lowOf q) (highOf q) P = H := ⟨_, rfl⟩
    rw [hP] at bst hP8 hH8
    rw [hH] at bst hH8
    have HPH := Lib.hid (And.intro hP hH)
    have Bst := Lib.hid bst
    have E50 := Lib.hid e50
    clear hck e50 bst hF hP hH hg
    go_enter Tryd.func31, Tryd.ntmps31
    go_wp2_with (first
      | (go_at_call 17; refine (Chk.out _ hb0).mono ?_; rintro e w1 ⟨rfl, hb1⟩; rw [E50.out]; have hb2 := hb0.trans (hb1.mono (by simp <;> omega)); have harg1 := below_heap hb1 harg)
      | (refine wpList_load_row rfl 24 _ rfl w.heap.size rfl 24 _ (0, 0) _ harg1 Tryd.underlying24 rfl i24 ?_)
      | (go_at_call 77; refine (Opn.out h8 _ hb2).mono ?_; rintro e w2 ⟨r, rfl, hb3, hm3, hr3⟩; have hb4 := hb2.trans (hb3.mono hb2.size))
      | (go_at_call 87; refine (fewest_calls _).mono ?_; rintro e w3 ⟨rfl, hb5⟩; have hb6 := hb4.trans (hb5.mono hb4.size); have hm4 := below_heap hb5 hm3))
    refine (Bst.out r _ hm4 (HLd.out.below hb6)).mono ?_
    rintro e w4 ⟨hk4, A4, c4, rfl, hc4, hsh⟩
    have hb7 : Below w.heap.size w w4 := ((KeepsBut.of_below hb6).trans hk4).below (Nat.le_refl _) (fun k hk => by have : k = r := hk; have := hb2.size; omega)
    obtain ⟨m, hm⟩ : ∃ m, P.length = m := ⟨_, rfl⟩
    have hsh2 := (hsh m (by omega)).lower (Nat.le_trans hb6.size (Nat.le_refl _))
    rw [hm] at hc4 hP8 ⊢
    rw [hm] at hsh2
    have Hsh := Lib.hid hsh2
    have hfd := run_field100
    clear hsh hsh2 hm
    go_wp2
    go_ret2
    refine ⟨hb7, fun h => (by cases h), fun _ => ⟨_, rfl, ?_⟩⟩
    unfold bestPlan
    rw [HPH.out.1]
    exact Hsh.out
set_option maxRecDepth 100000 in
set_option maxHeartbeats 2000000 in
theorem apiBoxes_calls (pr le mo gr : Int) (A : Option Addr) (n c : Nat) (q : List (Int × Int)) (hn : n = q.length) (hc : q.length ≤ c) (hl : q.length ≤ 9223372036854775807) (w : World) (hrd : RdH w A q) (hLd : Laid w) :
    Calls Tryd.prog 33 #[.agg #[.int .i64 pr, .int .i64 le, .int .i64 mo, .int .i64 gr, .slice A n c]] w (BoxesApiPost w pr le mo gr q (checkB pr le mo gr q)) := by
  have chk := fun W (hb : Below w.heap.size w W) => check_calls pr le mo gr A n c q hn hc hl W (hrd.below hb)
  have opn := fun (h8 : q.length ≤ 8) W (hb : Below w.heap.size w W) => opened_calls pr le mo gr A n c q hn h8 W (hrd.below hb)
  clear hn
  have Chk := Lib.hid chk
  have Opn := Lib.hid opn
  have HLd := Lib.hid hLd
  clear hrd chk opn hLd
  have i24 : (Tryd.prog.info? 24).map (·.size) = some (#[Value.int .i64 pr, .int .i64 le, .int .i64 mo, .int .i64 gr, .slice A n c] : Array Value).size := info24
  have harg : (w.alloc (.cells #[.int .i64 pr, .int .i64 le, .int .i64 mo, .int .i64 gr, .slice A n c] 24)).heap[w.heap.size]? = some (.cells #[.int .i64 pr, .int .i64 le, .int .i64 mo, .int .i64 gr, .slice A n c] 24) := Go.heap_alloc_new _ _
  have hb0 : Below w.heap.size w (w.alloc (.cells #[.int .i64 pr, .int .i64 le, .int .i64 mo, .int .i64 gr, .slice A n c] 24)) := (Below.refl _ _).alloc (Nat.le_refl _) _
  cases hck : checkB pr le mo gr q with
  | false =>
    have e50 : errOf (checkB pr le mo gr q) = 50 := by rw [hck]; rfl
    have E50 := Lib.hid e50
    clear hck e50
    go_enter Tryd.func33, Tryd.ntmps33
    go_wp2_with (first
      | (go_at_call 17; refine (Chk.out _ hb0).mono ?_; rintro e w1 ⟨rfl, hb1⟩; rw [E50.out]; have hb2 := hb0.trans (hb1.mono (by simp <;> omega))))
    go_ret2
    exact ⟨hb2, fun _ => rfl, fun h => by cases h⟩
  | true =>
    have e50 : errOf (checkB pr le mo gr q) = 0 := by rw [hck]; rfl
    have hF := bookF hck
    have h8 := hF.n8
    have hg : 1 ≤ gr.toNat := by have := hF.g1; omega
    have hP8 : (bestP btSure (handN pr le mo (lowOf q) (highOf q)) (plansL q.length gr.toNat)).length ≤ 8 := by
      refine Nat.le_trans (planP_length (plansL_planP hF.g1 _ ?_)) h8
      exact bestP_mem (plansL_ne _ _ hg)
    have hH8 : 0 ≤ handN pr le mo (lowOf q) (highOf q) (bestP btSure (handN pr le mo (lowOf q) (highOf q)) (plansL q.length gr.toNat)) ∧ handN pr le mo (lowOf q) (highOf q) (bestP btSure (handN pr le mo (lowOf q) (highOf q)) (plansL q.length gr.toNat)) ≤ 8 := by
      have := handN_bd pr le mo (lowOf q) (highOf q) (bestP btSure (handN pr le mo (lowOf q) (highOf q)) (plansL q.length gr.toNat))
      omega
    have bst := fun r W hm hL => best_open pr le mo gr A c q hck 99 (enters Tryd.func99 (by kernel_rfl) (by kernel_rfl)) btSure (fun A1 m1 c1 b1 h1 A2 m2 c2 b2 h2 W' k1 k2 k3 k4 => surest1_calls A1 m1 c1 b1 h1 A2 m2 c2 b2 h2 k1 k2 k3 k4 W') r W hm hL
    obtain ⟨P, hP⟩ : ∃ P, bestP btSure (handN pr le mo (lowOf q) (highOf q)) (plansL q.length gr.toNat) = P := ⟨_, rfl⟩
    obtain ⟨H, hH⟩ : ∃ H, handN pr le mo (lowOf q) (highOf q) P = H := ⟨_, rfl⟩
    rw [hP] at bst hP8 hH8
    rw [hH] at bst hH8
    have HPH := Lib.hid (And.intro hP hH)
    have Bst := Lib.hid bst
    have E50 := Lib.hid e50
    clear hck e50 bst hF hP hH hg
    go_enter Tryd.func33, Tryd.ntmps33
    go_wp2_with (first
      | (go_at_call 17; refine (Chk.out _ hb0).mono ?_; rintro e w1 ⟨rfl, hb1⟩; rw [E50.out]; have hb2 := hb0.trans (hb1.mono (by simp <;> omega)); have harg1 := below_heap hb1 harg)
      | (refine wpList_load_row rfl 24 _ rfl w.heap.size rfl 24 _ (0, 0) _ harg1 Tryd.underlying24 rfl i24 ?_)
      | (go_at_call 77; refine (Opn.out h8 _ hb2).mono ?_; rintro e w2 ⟨r, rfl, hb3, hm3, hr3⟩; have hb4 := hb2.trans (hb3.mono hb2.size))
      | (go_at_call 89; refine (surest_calls _).mono ?_; rintro e w3 ⟨rfl, hb5⟩; have hb6 := hb4.trans (hb5.mono hb4.size); have hm4 := below_heap hb5 hm3))
    refine (Bst.out r _ hm4 (HLd.out.below hb6)).mono ?_
    rintro e w4 ⟨hk4, A4, c4, rfl, hc4, hsh⟩
    have hb7 : Below w.heap.size w w4 := ((KeepsBut.of_below hb6).trans hk4).below (Nat.le_refl _) (fun k hk => by have : k = r := hk; have := hb2.size; omega)
    obtain ⟨m, hm⟩ : ∃ m, P.length = m := ⟨_, rfl⟩
    have hw1 : wrap64 ((m : Int) - H) = (m : Int) - H := IntWalk.wrap64_in _ (by omega)
    have Hm := Lib.hid hm
    rw [hm]
    clear hsh hm hP8 hH8 hc4
    go_wp2
    go_ret2
    refine ⟨hb7.alloc hb7.size _, fun h => (by cases h), fun _ => ?_⟩
    unfold mostBoxes
    rw [HPH.out.1, HPH.out.2, Hm.out]
    exact (show Ending.returned (.tuple #[.int .i64 (wrap64 ((m:Int) - H)), .int .i64 0]) = .returned (.tuple #[.int .i64 ((m : Int) - H), .int .i64 0]) from by rw [hw1])
end Go.Proofs.YtbbdbdamedaldaaDoor.Fl
end
section
namespace Go.Proofs.YtbbdbdamedaldaaDoor.Fl
open Go Go.RowKit Go.Proofs.EqArr Go.Proofs.RngLaw Go.Proofs.CopyN
theorem info27z : (Tryd.prog.info? 27).map (fun i => (i.zero, i.size, i.bytes)) = some (some (.agg #[.int .i64 0, .int .i64 0]), 2, 16) := by kernel_rfl
theorem run_nil22 (ad : Addr) (n c : Nat) (W : World) : (binOp BinOp.eql 22 (.slice (some ad) n c) (.slice none 0 0)).run Tryd.prog W = .ok (.bool false) W := by kernel_rfl
set_option maxRecDepth 100000 in
set_option maxHeartbeats 2000000 in
theorem clone_calls (ad : Addr) (c : Nat) (q : List (Int × Int)) (h1 : 0 < q.length) (h8 : q.length ≤ 8) (w : World) (hrd : RdH w (some ad) q) :
    Calls Tryd.prog 91 #[.slice (some ad) q.length c] w (fun e w' => Below w.heap.size w w' ∧ ∃ v, e = .returned v ∧ w'.ownsRow w.heap.size 27 2 v q.length (hcells q)) := by
  have hnil := run_nil22
  obtain ⟨m, hm⟩ : ∃ m, q.length = m := ⟨_, rfl⟩
  have hl : (hcells q).length = m * 2 := by rw [hcells_length, hm]; omega
  have hal : Below w.heap.size w (w.alloc (.cells #[] 27)) := (Below.refl _ _).alloc (Nat.le_refl _) _
  have hne : ∀ j u, (hcells q)[j]? = some u → (w.alloc (.cells #[] 27)).cell? (ad.add j) = some u := fun j u hu => by
    obtain ⟨a', e, hc⟩ := hrd (by rw [hl]; omega)
    cases e
    exact cell_kept_below hal (hc j u hu)
  have hown : (w.alloc (.cells #[] 27)).ownsRow w.heap.size 27 2 (.slice (some ⟨w.heap.size, 0, none⟩) 0 0) 0 [] :=
    ⟨rfl, .inr ⟨w.heap.size, 0, #[], rfl, Nat.le_refl _, Go.heap_alloc_new _ _, Nat.le_refl _, by unfold maxLen; omega, rfl, rfl⟩⟩
  obtain ⟨i0, hi, hz0, hz1, hz2⟩ := info_parts info27z
  rw [hm] at h1 h8 ⊢
  have H := Lib.hid (And.intro hl (And.intro hne (And.intro hown hal)))
  have Hi := Lib.hid (And.intro hi (And.intro hz0 (And.intro hz1 hz2)))
  clear hl hne hown hal hm hrd hi hz0 hz1 hz2
  go_enter Tryd.func91, Tryd.ntmps91
  go_wp2_with (first
    | (at_builtin; refine wpList_append_own _ rfl _ _ 22 rfl w.heap.size 27 i0 (.agg #[.int .i64 0, .int .i64 0]) 2 16 Tryd.underlying22 Hi.out.1 Hi.out.2.1 Hi.out.2.2.1 Hi.out.2.2.2 rfl (by decide) (.slice (some ⟨w.heap.size, 0, none⟩) 0 0) 0 [] rfl H.out.2.2.1 ad m c (hcells q) rfl H.out.1 H.out.2.1 (hcells_one q) (by unfold maxLen; omega) (by omega) (by simp) ?_; intro v' w3 hown' hgrow3 hnil3))
  go_ret
  refine ⟨H.out.2.2.2.grown hgrow3 (by simp) (fun k hk => ?_), v', rfl, ?_⟩
  · cases hk; exact Nat.le_refl _
  · simpa using hown'
end Go.Proofs.YtbbdbdamedaldaaDoor.Fl
end
section
namespace Go.Proofs.YtbbdbdamedaldaaDoor.Fl
open Go Go.RowKit Go.Proofs.EqArr Go.Proofs.RngLaw Go.Proofs.CopyN
def handBest (pr le mo gr : Int) (q : List (Int × Int)) : Int := handN pr le mo (lowOf q) (highOf q) (bestPlan pr le mo gr q)
def worstTo (pr le mo gr : Int) (q : List (Int × Int)) (k : Nat) : Nat → Int
  | 0 => 0
  | j + 1 => max (worstTo pr le mo gr q k j) (handBest pr le mo gr (q.set k (lowOf q k + j, lowOf q k + j)))
def worstOf (pr le mo gr : Int) (q : List (Int × Int)) (k : Nat) : Int := worstTo pr le mo gr q k (highOf q k - lowOf q k + 1).toNat
def askTo (pr le mo gr : Int) (q : List (Int × Int)) : Nat → Int × Int
  | 0 => (-1, 0)
  | k + 1 => if (askTo pr le mo gr q k).1 < 0 ∨ worstOf pr le mo gr q k < (askTo pr le mo gr q k).2 then ((k : Int), worstOf pr le mo gr q k) else askTo pr le mo gr q k
theorem checkB_set {pr le mo gr : Int} {q : List (Int × Int)} (h : checkB pr le mo gr q = true) (k : Nat) (v : Int) (h0 : 0 ≤ v) (h2 : v ≤ 200) : checkB pr le mo gr (q.set k (v, v)) = true := by
  have hF := bookF h
  unfold checkB
  simp only [Bool.and_eq_true, decide_eq_true_eq, List.all_eq_true]
  refine ⟨⟨⟨⟨⟨⟨⟨⟨⟨⟨hF.b1, hF.b2⟩, hF.b3⟩, hF.b4⟩, hF.b5⟩, hF.b6⟩, hF.b7⟩, hF.g1⟩, hF.g4⟩, by rw [List.length_set]; exact hF.n8⟩, fun s hs => ?_⟩
  simp only [okS, Bool.and_eq_true, decide_eq_true_eq]
  rcases List.mem_or_eq_of_mem_set hs with hs | rfl
  · have := hF.ok s hs
    omega
  · simp
    omega
theorem hcells_set : ∀ (q : List (Int × Int)) (k : Nat) (v : Int × Int), k < q.length → (hcells q).take (k * 2) ++ [.int .i64 v.1, .int .i64 v.2] ++ (hcells q).drop (k * 2 + 2) = hcells (q.set k v)
  | x :: q, 0, v, _ => by simp [hcells]
  | x :: q, k + 1, v, hk => by
    have := hcells_set q k v (by simpa using hk)
    rw [List.set_cons_succ]
    show ((Value.int .i64 x.1 :: Value.int .i64 x.2 :: hcells q).take ((k + 1) * 2)) ++ _ ++ ((Value.int .i64 x.1 :: Value.int .i64 x.2 :: hcells q).drop ((k + 1) * 2 + 2)) = Value.int .i64 x.1 :: Value.int .i64 x.2 :: hcells (q.set k v)
    rw [← this, show (k + 1) * 2 = k * 2 + 2 by omega]
    simp
theorem set_row {q : List (Int × Int)} {cur : Array Value} (k : Nat) (v : Int × Int) (hk : k < q.length) (ht : cur.toList.take (hcells q).length = hcells q) :
    ∃ rest, cur.toList.take (k * 2) ++ [.int .i64 v.1, .int .i64 v.2] ++ cur.toList.drop (k * 2 + 2) = hcells (q.set k v) ++ rest := by
  have hl := hcells_length q
  refine ⟨cur.toList.drop (hcells q).length, ?_⟩
  have hc : cur.toList = hcells q ++ cur.toList.drop (hcells q).length := by
    have := List.take_append_drop (hcells q).length cur.toList
    rw [ht] at this
    exact this.symm
  rw [← hcells_set q k v hk]
  rw [hc]
  rw [List.take_append_of_le_length (by omega), List.drop_append_of_le_length (by omega), List.drop_append_of_le_length (Nat.le_refl _), List.drop_length, List.nil_append]
  simp [List.append_assoc]
theorem rdH_row {W : World} {g : Nat} {cells : Array Value} {t : TypeId} {fr : Nat × Nat} {q : List (Int × Int)} {rest : List Value} (hg : W.heap[g]? = some (.cells cells t fr)) (hc : cells.toList = hcells q ++ rest) : RdH W (some ⟨g, 0, none⟩) q := fun _ =>
  ⟨_, rfl, fun j v hj => by
    have ha : (⟨g, 0, none⟩ : Addr).add j = ⟨g, j, none⟩ := by unfold Addr.add; split <;> simp_all
    rw [ha, cell_of_row _ _ _ _ _ _ hg, ← Array.getElem?_toList, hc, List.getElem?_append_left (List.getElem?_eq_some_iff.1 hj).1]
    exact hj⟩
theorem run_storeVar_at {P : Program} (w : World) (g off : Nat) (t ty : TypeId) (cur cells : Array Value) (hg : w.heap[g]? = some (.cells cur t (0, 0))) (hi : (P.info? ty).map (·.size) = some cells.size)
    (hfit : off + cells.size ≤ cur.size) (h1 : ∀ v ∈ cells.toList, v.oneCell' = true) :
    (storeVar ty ⟨g, off, none⟩ (.agg cells)).run P w = .ok () (w.setRow g (cur.toList.take off ++ cells.toList ++ cur.toList.drop (off + cells.size)).toArray) := by
  have := run_storeCells_at (P := P) g off t cells.toList 0 cur w hg (by simpa using hfit) h1
  simp only [Nat.add_zero, Array.length_toList] at this
  cases hq : P.info? ty with
  | none => simp [hq] at hi
  | some i =>
    have hs : cells.size = i.size := by simp [hq] at hi; omega
    rw [hs] at this ⊢
    simp [storeVar, sizeOf, typeInfo, hq, Value.cells, hs, this]
theorem wpList_store_at {P : Program} {ops : Array Oper} {rest : List Oper} {o : Oper} {a : Act} {w : World} {Q : Exit → Act → World → Prop} (hgd : o.guard = none) (ty : TypeId) (x y : Operand) (ho : o.op = .store ty x y)
    (g off : Nat) (cells : Array Value) (hx : a.eval x = .pointer (some ⟨g, off, none⟩)) (hy : a.eval y = .agg cells)
    (t : TypeId) (cur : Array Value) (hg : w.heap[g]? = some (.cells cur t (0, 0))) (hi : (P.info? ty).map (·.size) = some cells.size)
    (hfit : off + cells.size ≤ cur.size) (h1 : ∀ v ∈ cells.toList, v.oneCell' = true)
    (h : wpList P ops Q rest (a.put o.dst undef) (w.setRow g (cur.toList.take off ++ cells.toList ++ cur.toList.drop (off + cells.size)).toArray)) : wpList P ops Q (o :: rest) a w :=
  wpList_plain hgd fun _ hK => by
    unfold Oper.wp execOp
    simp only [ho, hx, hy, Instr.storeAt, Instr.sureAddr, Sem.run_bind, Sem.run_pure, Result.andThen_ok, run_storeVar_at w g off t ty cur cells hg hi hfit h1]
    exact hK _ _ h
end Go.Proofs.YtbbdbdamedaldaaDoor.Fl
end
section
namespace Go.Proofs.YtbbdbdamedaldaaDoor.Fl
open Go Go.RowKit Go.Proofs.EqArr Go.Proofs.RngLaw Go.Proofs.CopyN
theorem run_loadVar_at {P : Program} (w : World) (a : Addr) (ty : TypeId) (cs : Array Value) (d : TypeDesc) (hc : ∀ j v, cs[j]? = some v → w.cell? (a.add j) = some v)
    (hu : P.underlying ty = some d) (hd : (match d with | .struct _ | .array _ _ => true | _ => false) = true) (hi : (P.info? ty).map (·.size) = some cs.size) :
    (loadVar ty a).run P w = .ok (.agg cs) w := by
  have hl : (loadCells a cs.toList.length).run P w = .ok cs.toList.toArray w := run_loadCells_list (P := P) w a cs.toList (fun j v hv => hc j v (by simpa using hv))
  cases hq : P.info? ty with
  | none => simp [hq] at hi
  | some i =>
    have hs : i.size = cs.size := by simpa [hq] using hi
    have hagg : (isAgg ty).run P w = .ok true w := by
      unfold isAgg
      rw [Sem.run_bind, run_underlying hu w]
      cases d <;> simp_all
    simp only [Array.length_toList, Array.toArray_toList] at hl
    simp [loadVar, hagg, sizeOf, typeInfo, hq, hs, hl]
theorem wpList_load_at {P : Program} {ops : Array Oper} {rest : List Oper} {o : Oper} {a : Act} {w : World} {Q : Exit → Act → World → Prop} (hgd : o.guard = none) (ty : TypeId) (x : Operand) (ho : o.op = .load ty x)
    (ad : Addr) (hx : a.eval x = .pointer (some ad)) (cs : Array Value) (d : TypeDesc) (hc : ∀ j v, cs[j]? = some v → w.cell? (ad.add j) = some v)
    (hu : P.underlying ty = some d) (hd : (match d with | .struct _ | .array _ _ => true | _ => false) = true) (hi : (P.info? ty).map (·.size) = some cs.size)
    (h : wpList P ops Q rest (a.put o.dst (.agg cs)) w) : wpList P ops Q (o :: rest) a w :=
  wpList_plain hgd fun _ hK => by
    unfold Oper.wp execOp
    simp only [ho, hx, Instr.loadAt, Instr.sureAddr, Sem.run_bind, Sem.run_pure, Result.andThen_ok, run_loadVar_at w ad ty cs d hc hu hd hi]
    exact hK _ _ h
theorem rdH_at {W : World} {ad : Addr} {q : List (Int × Int)} (h : RdH W (some ad) q) (k : Nat) (hk : k < q.length) : ∀ j v, (#[.int .i64 (lowOf q k), .int .i64 (highOf q k)] : Array Value)[j]? = some v → W.cell? ((ad.add (k * 2)).add j) = some v := by
  intro j v hv
  have hl := hcells_length q
  obtain ⟨ad', e, hc⟩ := h (by omega)
  cases e
  obtain ⟨h1, h2⟩ := hcells_at q k hk
  rw [Addr.add_add]
  match j, hv with
  | 0, hv =>
    cases hv
    exact hc _ _ (by rw [show k * 2 + 0 = 2 * k by omega]; exact h1)
  | 1, hv =>
    cases hv
    exact hc _ _ (by rw [show k * 2 + 1 = 2 * k + 1 by omega]; exact h2)
def AskApiPost (w : World) (pr le mo gr : Int) (q : List (Int × Int)) (ck : Bool) (e : Ending) (w' : World) : Prop :=
  Below w.heap.size w w' ∧ (ck = false → e = .returned (.tuple #[.int .i64 0, .int .i64 50])) ∧ (ck = true → q = [] → e = .returned (.tuple #[.int .i64 0, .int .i64 4])) ∧
  (ck = true → q ≠ [] → e = .returned (.tuple #[.int .i64 (askTo pr le mo gr q q.length).1, .int .i64 0]))
theorem worstTo_bd {pr le mo gr : Int} {q : List (Int × Int)} (hck : checkB pr le mo gr q = true) (k : Nat) : ∀ j : Nat, (j : Int) ≤ highOf q k - lowOf q k + 1 → 0 ≤ worstTo pr le mo gr q k j ∧ worstTo pr le mo gr q k j ≤ 8
  | 0, _ => by simp [worstTo]
  | j + 1, hj => by
    have ih := worstTo_bd hck k j (by omega)
    have hF := bookF hck
    have h1 := hF.at_ k
    have hq := checkB_set hck k (lowOf q k + j) (by omega) (by omega)
    have hF2 := bookF hq
    have h2 := handN_bd pr le mo (lowOf (q.set k (lowOf q k + j, lowOf q k + j))) (highOf (q.set k (lowOf q k + j, lowOf q k + j))) (bestPlan pr le mo gr (q.set k (lowOf q k + j, lowOf q k + j)))
    have h3 : (bestPlan pr le mo gr (q.set k (lowOf q k + j, lowOf q k + j))).length ≤ 8 :=
      Nat.le_trans (planP_length (plansL_planP hF2.g1 _ (bestP_mem (plansL_ne _ _ (by have := hF2.g1; omega))))) hF2.n8
    unfold worstTo handBest
    omega
theorem askTo_bd {pr le mo gr : Int} {q : List (Int × Int)} (hck : checkB pr le mo gr q = true) : ∀ k : Nat, (-1 ≤ (askTo pr le mo gr q k).1 ∧ (askTo pr le mo gr q k).1 ≤ k) ∧ (0 ≤ (askTo pr le mo gr q k).2 ∧ (askTo pr le mo gr q k).2 ≤ 8) ∧ (0 < k → 0 ≤ (askTo pr le mo gr q k).1)
  | 0 => by simp [askTo]
  | k + 1 => by
    have ih := askTo_bd hck k
    have h1 := worstTo_bd hck k (highOf q k - lowOf q k + 1).toNat (by have := (bookF hck).at_ k; omega)
    unfold askTo
    unfold worstOf
    split
    · simp only
      omega
    · rename_i hc
      omega
end Go.Proofs.YtbbdbdamedaldaaDoor.Fl
end
section
namespace Go.Proofs.YtbbdbdamedaldaaDoor.Fl
open Go Go.RowKit Go.Proofs.EqArr Go.Proofs.RngLaw Go.Proofs.CopyN
set_option maxRecDepth 100000 in
set_option maxHeartbeats 4000000 in
theorem apiAsk_calls (pr le mo gr : Int) (A : Option Addr) (n c : Nat) (q : List (Int × Int)) (hn : n = q.length) (hc : q.length ≤ c) (hl : q.length ≤ 9223372036854775807) (w : World) (hrd : RdH w A q) (hLd : Laid w) :
    Calls Tryd.prog 35 #[.agg #[.int .i64 pr, .int .i64 le, .int .i64 mo, .int .i64 gr, .slice A n c]] w (AskApiPost w pr le mo gr q (checkB pr le mo gr q)) := by
  have chk := fun W (hb : Below w.heap.size w W) => check_calls pr le mo gr A n c q hn hc hl W (hrd.below hb)
  have Chk := Lib.hid chk
  have HLd := Lib.hid hLd
  have Hrd := Lib.hid hrd
  have Hm := Lib.hid hn.symm
  clear hrd chk hLd hn
  have i24 : ∀ A' n' c', (Tryd.prog.info? 24).map (·.size) = some (#[Value.int .i64 pr, .int .i64 le, .int .i64 mo, .int .i64 gr, .slice A' n' c'] : Array Value).size := fun _ _ _ => info24
  have I24 := Lib.hid i24
  clear i24
  have harg : (w.alloc (.cells #[.int .i64 pr, .int .i64 le, .int .i64 mo, .int .i64 gr, .slice A n c] 24)).heap[w.heap.size]? = some (.cells #[.int .i64 pr, .int .i64 le, .int .i64 mo, .int .i64 gr, .slice A n c] 24) := Go.heap_alloc_new _ _
  have hb0 : Below w.heap.size w (w.alloc (.cells #[.int .i64 pr, .int .i64 le, .int .i64 mo, .int .i64 gr, .slice A n c] 24)) := (Below.refl _ _).alloc (Nat.le_refl _) _
  cases hck : checkB pr le mo gr q with
  | false =>
    have e50 : errOf (checkB pr le mo gr q) = 50 := by rw [hck]; rfl
    have E50 := Lib.hid e50
    clear hck e50
    go_enter Tryd.func35, Tryd.ntmps35
    go_wp2_with (first
      | (go_at_call 17; refine (Chk.out _ hb0).mono ?_; rintro e w1 ⟨rfl, hb1⟩; rw [E50.out]; have hb2 := hb0.trans (hb1.mono (by simp <;> omega))))
    go_ret2
    exact ⟨hb2, fun _ => rfl, fun h => (by cases h), fun h => (by cases h)⟩
  | true =>
    have e50 : errOf (checkB pr le mo gr q) = 0 := by rw [hck]; rfl
    have E50 := Lib.hid e50
    have Hck := Lib.hid hck
    have hu24 := Tryd.underlying24
    have hu27 := Tryd.underlying27
    have h8 : n ≤ 8 := by rw [← Hm.out]; exact (bookF hck).n8
    have hcn' : n ≤ c := by rw [← Hm.out]; exact hc
    clear hck e50 hc hl
    have i27 : ∀ x y : Int, (Tryd.prog.info? 27).map (·.size) = some (#[Value.int .i64 x, .int .i64 y] : Array Value).size := fun x y => by
      have h : (Tryd.prog.info? 27).map (·.size) = some 2 := by kernel_rfl
      exact h
    have I27 := Lib.hid i27
    clear i27
    go_enter Tryd.func35, Tryd.ntmps35
    go_wp2_with (first
      | (go_at_call 17; refine (Chk.out _ hb0).mono ?_; rintro e w1 ⟨rfl, hb1⟩; rw [E50.out]; have hb2 := hb0.trans (hb1.mono (by simp <;> omega)); have harg1 := below_heap hb1 harg; have hs2 := hb1.size; simp at hs2; have ha4 : w1.cell? ⟨w.heap.size, 4, none⟩ = some (.slice A n c) := (cell_of_row _ _ 4 _ _ _ harg1).trans rfl)
      | (refine wpList_load_row rfl 24 _ rfl w.heap.size rfl 24 _ (0, 0) _ harg1 Tryd.underlying24 rfl (I24.out _ _ _) ?_))
    have F1 := Lib.hid (And.intro hb2 harg1)
    clear hb0 harg hb2 harg1 hb1
    go_loopw [5, 6, 20] (fun v5 v6 v20 wr => ∃ k : Nat, k ≤ n ∧ v20 = .int .i64 k ∧ v5 = .int .i64 (askTo pr le mo gr q k).1 ∧ v6 = .int .i64 (askTo pr le mo gr q k).2 ∧ Below w1.heap.size w1 wr) (fun _ _ v20 _ => n - (intOf v20).toNat)
    case atStart => exact ⟨0, Nat.zero_le _, rfl, rfl, rfl, Below.refl _ _⟩
    case round =>
      obtain ⟨k, hk, rfl, rfl, rfl, hbr⟩ := hrel
      by_cases hlt : k < n
      · have hlk : (k : Int) < n := by omega
        obtain ⟨ad, rfl⟩ : ∃ ad, A = some ad := by
          obtain ⟨a', e, _⟩ := Hrd.out (by rw [hcells_length, Hm.out]; omega)
          exact ⟨a', e⟩
        have hbw := F1.out.1.trans (hbr.mono F1.out.1.size)
        have hrr : RdH wr (some ad) q := Hrd.out.below hbw
        have hld := rdH_at hrr k (by rw [Hm.out]; exact hlt)
        have hat := (bookF Hck.out).at_ k
        obtain ⟨lo, hlo⟩ : ∃ lo, lowOf q k = lo := ⟨_, rfl⟩
        obtain ⟨hi, hhi⟩ : ∃ hi, highOf q k = hi := ⟨_, rfl⟩
        have hwd : hi - lo ≤ 10 := by
          have hmem : q.getD k (0, 0) ∈ q := by
            rw [List.getD_eq_getElem?_getD, List.getElem?_eq_getElem (by rw [Hm.out]; exact hlt)]
            exact List.getElem_mem _
          have := (bookF Hck.out).ok _ hmem
          rw [← hlo, ← hhi]
          unfold lowOf highOf
          omega
        rw [hlo, hhi] at hld hat
        have hw1 : wrap64 (hi - lo) = hi - lo := IntWalk.wrap64_in _ (by omega)
        obtain ⟨cnt, hcnt⟩ : ∃ cnt : Int, hi - lo + 1 = cnt := ⟨_, rfl⟩
        have HW1 := Lib.hid hw1
        clear hw1
        have hw2 : wrap64 (hi - lo + 1) = cnt := (IntWalk.wrap64_in _ (by omega)).trans hcnt
        have HW2 := Lib.hid hw2
        clear hw2
        have hal : Below wr.heap.size wr (wr.alloc (.cells #[.int .i64 lo, .int .i64 hi] 27)) := (Below.refl _ _).alloc (Nat.le_refl _) _
        have g8 := Go.heap_alloc_new wr (.cells #[.int .i64 lo, .int .i64 hi] 27)
        have G := Lib.hid (And.intro hlo (And.intro hhi (And.intro hat (And.intro hwd (And.intro hcnt (And.intro hbr (And.intro hal g8)))))))
        have hcn : 1 ≤ cnt := by omega
        clear hlo hhi hat hwd hcnt hal g8 hrr hbr
        go_upto_region 9 with (refine wpList_load_at rfl 27 _ rfl (ad.add (k * 2)) rfl _ _ hld Tryd.underlying27 rfl (I27.out _ _) ?_)
        have k0 : (wr.alloc (.cells #[.int .i64 lo, .int .i64 hi] 27)).cell? ⟨wr.heap.size, 0, none⟩ = some (.int .i64 lo) := (cell_of_row _ _ 0 _ _ _ G.out.2.2.2.2.2.2.2).trans rfl
        have k1 : (wr.alloc (.cells #[.int .i64 lo, .int .i64 hi] 27)).cell? ⟨wr.heap.size, 1, none⟩ = some (.int .i64 hi) := (cell_of_row _ _ 1 _ _ _ G.out.2.2.2.2.2.2.2).trans rfl
        obtain ⟨W8, hW8⟩ : ∃ X, wr.alloc (.cells #[.int .i64 lo, .int .i64 hi] 27) = X := ⟨_, rfl⟩
        rw [hW8] at k0 k1 G ⊢
        have hs8 : W8.heap.size = wr.heap.size + 1 := by rw [← hW8]; simp
        have Hs8 := Lib.hid hs8
        clear hW8 hs8
        have hw1 := HW1.out
        have hw2 := HW2.out
        go_wp2_with fail
        clear hw1 hw2
        simp only [HW1.out, HW2.out]
        go_loopw [9, 31] (fun v9 v31 wx => ∃ j : Nat, (j : Int) ≤ cnt ∧ v31 = .int .i64 j ∧ v9 = .int .i64 (worstTo pr le mo gr q k j) ∧ Below W8.heap.size W8 wx) (fun _ v31 _ => cnt.toNat - (intOf v31).toNat)
        case atStart => exact ⟨0, by omega, rfl, rfl, Below.refl _ _⟩
        case round =>
          obtain ⟨j, hj, rfl, rfl, hbx⟩ := hrel
          by_cases hltj : (j : Int) < cnt
          · have hball : Below w1.heap.size w1 wr := (G.out.2.2.2.2.2.1.trans (G.out.2.2.2.2.2.2.1.mono G.out.2.2.2.2.2.1.size)).trans (hbx.mono (Nat.le_trans G.out.2.2.2.2.2.1.size (by have := Hs8.out; omega)))
            have hbwr := F1.out.1.trans (hball.mono F1.out.1.size)
            have hargr := below_heap hball F1.out.2
            have hsw : w.heap.size + 1 ≤ w1.heap.size := by have := (Array.getElem?_eq_some_iff.1 F1.out.2).1; omega
            have k0r := cell_kept_below hbx k0
            have hal : Below wr.heap.size wr (wr.alloc (.cells #[.int .i64 pr, .int .i64 le, .int .i64 mo, .int .i64 gr, .slice (some ad) n c] 24)) := (Below.refl _ _).alloc (Nat.le_refl _) _
            have ga := Go.heap_alloc_new wr (.cells #[.int .i64 pr, .int .i64 le, .int .i64 mo, .int .i64 gr, .slice (some ad) n c] 24)
            have ha4 : (wr.alloc (.cells #[.int .i64 pr, .int .i64 le, .int .i64 mo, .int .i64 gr, .slice (some ad) n c] 24)).cell? ⟨w.heap.size, 4, none⟩ = some (.slice (some ad) n c) := (cell_of_row _ _ 4 _ _ _ (below_heap hal hargr)).trans rfl
            obtain ⟨nv, hnv⟩ : ∃ nv : Int, lo + j = nv := ⟨_, rfl⟩
            have hw3 : wrap64 (lo + j) = nv := (IntWalk.wrap64_in _ (by have := G.out.2.2.1; have := G.out.2.2.2.1; have := G.out.2.2.2.2.1; omega)).trans hnv
            have HW3 := Lib.hid hw3
            clear hw3
            have cln : Calls Tryd.prog 91 #[.slice (some ad) n c] (wr.alloc (.cells #[.int .i64 pr, .int .i64 le, .int .i64 mo, .int .i64 gr, .slice (some ad) n c] 24)) (fun e w' => Below (wr.heap.size + 1) (wr.alloc (.cells #[.int .i64 pr, .int .i64 le, .int .i64 mo, .int .i64 gr, .slice (some ad) n c] 24)) w' ∧ ∃ g cap cur, e = .returned (.slice (some ⟨g, 0, none⟩) n cap) ∧ wr.heap.size + 1 ≤ g ∧ w'.heap[g]? = some (.cells cur 27) ∧ n ≤ cap ∧ cap ≤ maxLen ∧ cur.size = cap * 2 ∧ cur.toList.take (hcells q).length = hcells q) := by
              have h := clone_calls ad c q (by rw [Hm.out]; omega) (by rw [Hm.out]; exact h8) _ ((Hrd.out.below hbwr).below hal)
              rw [Hm.out] at h
              refine h.mono ?_
              rintro e w' ⟨hb, v, rfl, hown⟩
              have e1 : (wr.alloc (.cells #[.int .i64 pr, .int .i64 le, .int .i64 mo, .int .i64 gr, .slice (some ad) n c] 24)).heap.size = wr.heap.size + 1 := by simp
              rw [e1] at hb hown
              refine ⟨hb, ?_⟩
              rcases hown.2 with ⟨_, h0⟩ | ⟨g, cap, cur, rfl, hg, hh, hn1, hcap, hsz, ht⟩
              · omega
              · exact ⟨g, cap, cur, rfl, hg, hh, hn1, hcap, hsz, by rw [hcells_length, Hm.out, Nat.mul_comm]; exact ht⟩
            have HX := Lib.hid (And.intro hball (And.intro hnv (And.intro k0r (And.intro hal (And.intro ga hsw)))))
            have Cln := Lib.hid cln
            clear hball hnv k0r hal ga hbwr cln hsw k0 k1
            go_upto_region 14 with (first
              | (go_at_call 91; refine Cln.out.mono ?_; rintro e w2 ⟨hb2, g, cap, cur, rfl, hg, hh, hn1, hcap, hsz, ht⟩; have g2 : w2.heap[wr.heap.size]? = some (.cells #[.int .i64 pr, .int .i64 le, .int .i64 mo, .int .i64 gr, .slice (some ad) n c] 24) := (hb2.block _ (by omega)).trans HX.out.2.2.2.2.1; have q4 : w2.cell? ⟨wr.heap.size, 4, none⟩ = some (.slice (some ad) n c) := (cell_of_row _ _ 4 _ _ _ g2).trans rfl; have q5 := frozen_of_row _ _ 4 _ _ g2; have k02 := cell_kept_below (HX.out.2.2.2.1.trans (hb2.mono (by omega))) HX.out.2.2.1)
              | (refine wpList_load_row rfl 24 _ rfl w.heap.size rfl 24 _ (0, 0) _ hargr Tryd.underlying24 rfl (I24.out _ _ _) ?_))
            obtain ⟨w3, hw3e⟩ : ∃ X, w2.setCell ⟨wr.heap.size, 4, none⟩ (.slice (some ⟨g, 0, none⟩) n cap) = X := ⟨_, rfl⟩
            have g3 : w3.heap[g]? = some (.cells cur 27) := by rw [← hw3e]; exact (heap_setCell_other _ _ _ _ (by simp; omega)).trans hh
            have g3b : w3.heap[wr.heap.size]? = some (.cells #[.int .i64 pr, .int .i64 le, .int .i64 mo, .int .i64 gr, .slice (some ⟨g, 0, none⟩) n cap] 24) := by rw [← hw3e]; exact heap_setCell_same _ _ _ _ _ _ g2
            have k03 := (World.cell?_setCell_far w2 ⟨wr.heap.size, 4, none⟩ _ (.slice (some ⟨g, 0, none⟩) n cap) (by have := Hs8.out; have := hbx.size; simp; omega)).trans k02
            have q43 : w3.cell? ⟨wr.heap.size, 4, none⟩ = some (.slice (some ⟨g, 0, none⟩) n cap) := (cell_of_row _ _ 4 _ _ _ g3b).trans rfl
            have hb3 : Below wr.heap.size wr w3 := by rw [← hw3e]; exact ((HX.out.2.2.2.1.trans (hb2.mono (by omega)))).setCell (p := ⟨wr.heap.size, 4, none⟩) (Nat.le_refl _) _
            rw [hw3e] at k03 ⊢
            have hfit : k * 2 + 2 ≤ cur.size := by rw [hsz]; omega
            have HY := Lib.hid (And.intro hb3 (And.intro hg (And.intro hcap (And.intro hsz ht))))
            clear hw3e hb2 g2 q4 q5 k02 hh hb3 hsz ht hg hcap hargr ha4
            go_upto_region 15 with (first
              | (refine wpList_built rfl 27 _ rfl [(0, .int .i64 (wrap64 (lo + j))), (1, .int .i64 (wrap64 (lo + j)))] (by kernel_rfl) (built27 _ _) ?_)
              | (refine wpList_store_at rfl 27 _ _ rfl g (k * 2) #[.int .i64 (wrap64 (lo + j)), .int .i64 (wrap64 (lo + j))] rfl rfl 27 cur g3 (I27.out _ _) hfit (by simp [Value.oneCell']) ?_))
            rw [HW3.out]
            have hq' : (q.set k (nv, nv)).length = n := by rw [List.length_set]; exact Hm.out
            obtain ⟨W4, hW4⟩ : ∃ X, w3.setRow g (cur.toList.take (k * 2) ++ (#[.int .i64 nv, .int .i64 nv] : Array Value).toList ++ cur.toList.drop (k * 2 + (#[.int .i64 nv, .int .i64 nv] : Array Value).size)).toArray = X := ⟨_, rfl⟩
            obtain ⟨rest, hrest⟩ := set_row k (nv, nv) (by rw [Hm.out]; exact hlt) HY.out.2.2.2.2
            have hb4 : Below wr.heap.size wr W4 := by rw [← hW4]; exact below_setRow HY.out.1 (by have := HY.out.2.1; omega) _
            have g4 : W4.heap[wr.heap.size]? = some (.cells #[.int .i64 pr, .int .i64 le, .int .i64 mo, .int .i64 gr, .slice (some ⟨g, 0, none⟩) n cap] 24) := by rw [← hW4]; exact (setRow_other _ _ _ _ (by have := HY.out.2.1; omega)).trans g3b
            have rd4 : RdH W4 (some ⟨g, 0, none⟩) (q.set k (nv, nv)) := by rw [← hW4]; exact rdH_row (setRow_heap _ _ _ _ _ _ g3) (rest := rest) (by simpa using hrest)
            have hnvb : 0 ≤ nv ∧ nv ≤ 200 := by have h1 := G.out.2.2.1; have h2 := HX.out.2.1; have h3 := G.out.2.2.2.2.1; omega
            have ck4 := checkB_set Hck.out k nv hnvb.1 hnvb.2
            have hbw4 : Below w.heap.size w W4 := (F1.out.1.trans (HX.out.1.mono F1.out.1.size)).trans (hb4.mono (Nat.le_trans F1.out.1.size HX.out.1.size))
            have opn := opened_calls pr le mo gr (some ⟨g, 0, none⟩) n cap (q.set k (nv, nv)) hq'.symm (by rw [hq']; exact h8) W4 rd4
            have bst := fun r W hm hL => best_open pr le mo gr (some ⟨g, 0, none⟩) cap (q.set k (nv, nv)) ck4 98 (enters Tryd.func98 (by kernel_rfl) (by kernel_rfl)) btFew (fun A1 m1 c1 b1 h1 A2 m2 c2 b2 h2 W' k1 k2 k3 k4 => fewest1_calls A1 m1 c1 b1 h1 A2 m2 c2 b2 h2 W') r W hm hL
            obtain ⟨q2, hq2⟩ : ∃ q2, q.set k (nv, nv) = q2 := ⟨_, rfl⟩
            rw [hq2] at opn bst
            obtain ⟨P, hP⟩ : ∃ P, bestP btFew (handN pr le mo (lowOf q2) (highOf q2)) (plansL q2.length gr.toNat) = P := ⟨_, rfl⟩
            obtain ⟨H, hH⟩ : ∃ H, handN pr le mo (lowOf q2) (highOf q2) P = H := ⟨_, rfl⟩
            rw [hP, hH] at bst
            have hwj : worstTo pr le mo gr q k (j + 1) = max (worstTo pr le mo gr q k j) H := by
              show max _ (handBest pr le mo gr (q.set k (lowOf q k + j, lowOf q k + j))) = _
              rw [G.out.1, HX.out.2.1, hq2]
              unfold handBest bestPlan
              rw [hP, hH]
            have hb8 : Below W8.heap.size W8 W4 := hbx.trans (hb4.mono hbx.size)
            have HZ := Lib.hid (And.intro hwj (And.intro hb8 hbw4))
            have Opn := Lib.hid opn
            have Bst := Lib.hid bst
            have hfd := run_field100h
            rw [hW4]
            clear hW4 hrest rd4 hnvb ck4 opn bst hP hH hq2 hwj hb8 hbw4 hq' g3 g3b k03 q43 hfit
            go_wp2_with (first
              | (refine wpList_load_row rfl 24 _ rfl wr.heap.size rfl 24 _ (0, 0) _ g4 Tryd.underlying24 rfl (I24.out _ _ _) ?_)
              | (go_at_call 77; refine Opn.out.mono ?_; rintro e w5 ⟨r, rfl, hb5, hm5, hr5⟩)
              | (go_at_call 87; refine (fewest_calls _).mono ?_; rintro e w6 ⟨rfl, hb6⟩; have hm6 := below_heap hb6 hm5; have hb56 := hb5.trans (hb6.mono hb5.size)))
            refine (Bst.out r _ hm6 (HLd.out.below (HZ.out.2.2.trans (hb56.mono HZ.out.2.2.size)))).mono ?_
            rintro e w7 ⟨hk7, A7, c7, rfl, _, _⟩
            have hb7 : Below W4.heap.size W4 w7 := ((KeepsBut.of_below hb56).trans hk7).below (Nat.le_refl _) (fun k hk => by have : k = r := hk; omega)
            have HZ2 := Lib.hid hb7
            clear hk7 hb7 hb56 hm6 hm5 hr5
            go_wp2
            have hj11 : (j : Int) ≤ 10 := by
              have h1 := G.out.2.2.2.1
              have h2 := G.out.2.2.2.2.1
              omega
            have hw4 : wrap64 ((j : Int) + 1) = ((j + 1 : Nat) : Int) := by
              rw [IntWalk.wrap64_in _ (by omega)]
              omega
            rw [hw4]
            clear hw4
            have hms : cnt.toNat - (j + 1) < cnt.toNat - j := by omega
            refine ⟨⟨j + 1, by omega, rfl, ?_, HZ.out.2.1.trans (HZ2.out.mono HZ.out.2.1.size)⟩, hms⟩
            rw [HZ.out.1]
            all_goals first | (congr 1 <;> split <;> omega) | omega | rfl
          · have hjc : j = (highOf q k - lowOf q k + 1).toNat := by
              have h1 := G.out.1
              have h2 := G.out.2.1
              have h3 := G.out.2.2.2.2.1
              omega
            have hwo : worstTo pr le mo gr q k j = worstOf pr le mo gr q k := by unfold worstOf; rw [hjc]
            have hb1x : Below w1.heap.size w1 wr := (G.out.2.2.2.2.2.1.trans (G.out.2.2.2.2.2.2.1.mono G.out.2.2.2.2.2.1.size)).trans (hbx.mono (Nat.le_trans G.out.2.2.2.2.2.1.size (by have := Hs8.out; omega)))
            have hst : askTo pr le mo gr q (k + 1) = if (askTo pr le mo gr q k).1 < 0 ∨ worstOf pr le mo gr q k < (askTo pr le mo gr q k).2 then ((k : Int), worstOf pr le mo gr q k) else askTo pr le mo gr q k := rfl
            rw [hwo]
            have Hx := Lib.hid (And.intro hb1x hst)
            clear hjc hwo hb1x hst
            by_cases ha : (askTo pr le mo gr q k).1 < 0
            · go_wp2
              go_roundw
              case rel => exact ⟨k + 1, by omega, by simp, by rw [Hx.out.2, if_pos (.inl ha)], by rw [Hx.out.2, if_pos (.inl ha)], Hx.out.1⟩
              case measure => simp [intOf]; omega
            · by_cases hb : worstOf pr le mo gr q k < (askTo pr le mo gr q k).2
              · go_wp2
                go_roundw
                case rel => exact ⟨k + 1, by omega, by simp, by rw [Hx.out.2, if_pos (.inr hb)], by rw [Hx.out.2, if_pos (.inr hb)], Hx.out.1⟩
                case measure => simp [intOf]; omega
              · go_wp2
                go_roundw
                case rel => exact ⟨k + 1, by omega, by simp, by rw [Hx.out.2, if_neg (by omega)], by rw [Hx.out.2, if_neg (by omega)], Hx.out.1⟩
                case measure => simp [intOf]; omega
      · have hkn : k = n := by omega
        subst hkn
        have hbd := askTo_bd Hck.out k
        have hbw := F1.out.1.trans (hbr.mono F1.out.1.size)
        by_cases ha : (askTo pr le mo gr q k).1 < 0
        · have hk0 : k = 0 := by omega
          have hq0 : q = [] := List.eq_nil_of_length_eq_zero (by rw [Hm.out]; exact hk0)
          have Hq0 := Lib.hid hq0
          clear hq0 hk0 hbd
          go_wp2
          go_ret2
          exact ⟨hbw, fun h => (by cases h), fun _ _ => rfl, fun _ h => absurd Hq0.out h⟩
        · have hq1 : q ≠ [] := by
            rintro rfl
            have : k = 0 := Hm.out.symm
            subst this
            simp [askTo] at ha
          have Hq1 := Lib.hid hq1
          clear hq1 hbd
          go_wp2
          go_ret2
          exact ⟨hbw, fun h => (by cases h), fun _ h => absurd h Hq1.out, fun _ _ => by rw [Hm.out]; rfl⟩
end Go.Proofs.YtbbdbdamedaldaaDoor.Fl
end
section
namespace Go.Proofs
open Go.Shelf
def Tryd.lays189_ren : Go.Shelf.Ren := ⟨fun | 189 => 73 | 125 => 96 | 257 => 95 | 128 => 110 | 129 => 111 | 294 => 101 | 295 => 102 | 296 => 103 | 297 => 104 | 298 => 105 | 299 => 106 | 216 => 107 | 300 => 108 | 301 => 109 | 328 => 114 | 329 => 115 | 330 => 116 | 331 => 117 | 332 => 118 | 215 => 119 | 343 => 120 | n => n, fun | 28 => 38 | 3 => 3 | 46 => 118 | 0 => 0 | 51 => 131 | 53 => 133 | 4 => 4 | 183 => 124 | 182 => 123 | 131 => 128 | 5 => 5 | 9 => 9 | 218 => 136 | 222 => 140 | 228 => 143 | 229 => 144 | n => n, fun | n => n⟩
theorem Tryd.lays189 : Go.Proofs.Lays.n189 Tryd.prog Tryd.lays189_ren := {
  mixed := by kernel_rfl
  f125 := Tryd.func96.trans (congrArg some (by kernel_rfl))
  f128 := Tryd.func110.trans (congrArg some (by kernel_rfl))
  f129 := Tryd.func111.trans (congrArg some (by kernel_rfl))
  f189 := Tryd.func73.trans (congrArg some (by kernel_rfl))
  f215 := Tryd.func119.trans (congrArg some (by kernel_rfl))
  f216 := Tryd.func107.trans (congrArg some (by kernel_rfl))
  f257 := Tryd.func95.trans (congrArg some (by kernel_rfl))
  f294 := Tryd.func101.trans (congrArg some (by kernel_rfl))
  f295 := Tryd.func102.trans (congrArg some (by kernel_rfl))
  f296 := Tryd.func103.trans (congrArg some (by kernel_rfl))
  f297 := Tryd.func104.trans (congrArg some (by kernel_rfl))
  f298 := Tryd.func105.trans (congrArg some (by kernel_rfl))
  f299 := Tryd.func106.trans (congrArg some (by kernel_rfl))
  f300 := Tryd.func108.trans (congrArg some (by kernel_rfl))
  f301 := Tryd.func109.trans (congrArg some (by kernel_rfl))
  f328 := Tryd.func114.trans (congrArg some (by kernel_rfl))
  f329 := Tryd.func115.trans (congrArg some (by kernel_rfl))
  f330 := Tryd.func116.trans (congrArg some (by kernel_rfl))
  f331 := Tryd.func117.trans (congrArg some (by kernel_rfl))
  f332 := Tryd.func118.trans (congrArg some (by kernel_rfl))
  f343 := Tryd.func120.trans (congrArg some (by kernel_rfl))
  t0 := Tryd.underlying0
  a0 := Tryd.isAgg0
  z0 := Tryd.sizeOf0
  v0 := Tryd.zeroValue0
  t3 := Tryd.underlying3
  a3 := Tryd.isAgg3
  z3 := Tryd.sizeOf3
  v3 := Tryd.zeroValue3
  t4 := Tryd.underlying4
  a4 := Tryd.isAgg4
  z4 := Tryd.sizeOf4
  v4 := Tryd.zeroValue4
  t5 := Tryd.underlying5
  a5 := Tryd.isAgg5
  z5 := Tryd.sizeOf5
  v5 := Tryd.zeroValue5
  t9 := Tryd.underlying9
  a9 := Tryd.isAgg9
  z9 := Tryd.sizeOf9
  v9 := Tryd.zeroValue9
  t28 := Tryd.underlying38
  a28 := Tryd.isAgg38
  z28 := Tryd.sizeOf38
  v28 := Tryd.zeroValue38
  t46 := Tryd.underlying118
  a46 := Tryd.isAgg118
  z46 := Tryd.sizeOf118
  v46 := Tryd.zeroValue118
  t51 := Tryd.underlying131
  a51 := Tryd.isAgg131
  z51 := Tryd.sizeOf131
  v51 := Tryd.zeroValue131
  t53 := Tryd.underlying133
  a53 := Tryd.isAgg133
  z53 := Tryd.sizeOf133
  v53 := Tryd.zeroValue133
  t131 := Tryd.underlying128
  a131 := Tryd.isAgg128
  z131 := Tryd.sizeOf128
  v131 := Tryd.zeroValue128
  t182 := Tryd.underlying123
  a182 := Tryd.isAgg123
  z182 := Tryd.sizeOf123
  v182 := Tryd.zeroValue123
  t183 := Tryd.underlying124
  a183 := Tryd.isAgg124
  z183 := Tryd.sizeOf124
  v183 := Tryd.zeroValue124
  t218 := Tryd.underlying136
  a218 := Tryd.isAgg136
  z218 := Tryd.sizeOf136
  v218 := Tryd.zeroValue136
  t222 := Tryd.underlying140
  a222 := Tryd.isAgg140
  z222 := Tryd.sizeOf140
  v222 := Tryd.zeroValue140
  t228 := Tryd.underlying143
  a228 := Tryd.isAgg143
  z228 := Tryd.sizeOf143
  v228 := Tryd.zeroValue143
  t229 := Tryd.underlying144
  a229 := Tryd.isAgg144
  z229 := Tryd.sizeOf144
  v229 := Tryd.zeroValue144 }
open Go.Sort Go.RowKit in
theorem Tryd.slices_Sort_int (blk off cap : Nat) (zs : List Int) (w : World) (hH : Holds (Value.int .i64) w blk off zs.toArray) (hblk : blk < w.heap.size) (hsz : zs.length < 4611686018427387904) :
    Calls Tryd.prog 73 #[.slice (some ⟨blk, off, none⟩) zs.length cap] w fun e w' =>
      e = .returned (.tuple #[]) ∧ ∃ n os, w' = grow (putRow (Value.int .i64) (Sort.ahead w n) blk off (zs.mergeSort fun x y => decide (x ≤ y)).toArray) os := Any.slices_Sort_int Tryd.lays189 blk off cap zs w hH hblk hsz
open Go.RowKit Go.Sort in
theorem Tryd.slices_Sort_int_none (p : Option Addr) (cap : Nat) (w : World) :
    Calls Tryd.prog 73 #[.slice p 0 cap] w fun e w' => e = .returned (.tuple #[]) ∧ w' = w := Any.slices_Sort_int_none Tryd.lays189 p cap w
end Go.Proofs
end
section
namespace Go.Proofs.YtbbdbdamedaldaaDoor.Fl
open Go Go.RowKit Go.Proofs.EqArr Go.Proofs.RngLaw Go.Proofs.CopyN
def srt (zs : List Int) : List Int := zs.mergeSort fun x y => decide (x ≤ y)
theorem srt_length (zs : List Int) : (srt zs).length = zs.length := by simp [srt]
theorem srt_perm (zs : List Int) : zs.Perm (srt zs) := (List.mergeSort_perm zs _).symm
theorem srt_bd {zs : List Int} {B : Int} (h : ∀ x ∈ zs, 0 ≤ x ∧ x ≤ B) : ∀ x ∈ srt zs, 0 ≤ x ∧ x ≤ B := fun x hx => h x ((srt_perm zs).symm.subset hx)
def SortPost (w : World) (base : Nat) (v : Value) (zs : List Int) (e : Ending) (w' : World) : Prop :=
  e = .returned (.tuple #[]) ∧ w'.ownsRow base 3 1 v zs.length ((srt zs).map (Value.int .i64)) ∧ w.grownBy w' v.ownBlock
theorem sort_own (base : Nat) (v : Value) (zs : List Int) (w : World) (hv : w.ownsRow base 3 1 v zs.length (zs.map (Value.int .i64))) (hl : zs.length ≤ 8) :
    Calls Tryd.prog 73 #[v] w (SortPost w base v zs) := by
  rcases hv.2 with ⟨hv0, h0⟩ | ⟨g, cap, cur, hv0, hbase, hb, h1, h2, h3, h4⟩
  · subst hv0
    rw [h0] at hv
    have hz : zs = [] := List.eq_nil_of_length_eq_zero h0
    subst hz
    refine (Tryd.slices_Sort_int_none none 0 w).mono ?_
    rintro e w' ⟨rfl, rfl⟩
    refine ⟨rfl, ?_, ⟨rfl, rfl, rfl, Nat.le_refl _, fun _ _ _ => rfl⟩⟩
    simpa [srt] using hv
  · subst hv0
    have hH := holds_of_blockI hb (by simpa using h4)
    refine (Tryd.slices_Sort_int g 0 cap zs w hH (Array.getElem?_eq_some_iff.1 hb).1 (by omega)).mono ?_
    rintro e w' ⟨rfl, nn, os, rfl⟩
    exact ⟨rfl, ownsRow_sortedI (ts := srt zs) (srt_length zs) hbase hb h1 h2 h3, grownBy_sortedI _⟩
def anyOk (n : Nat) (m : Int) : Bool := decide (1 ≤ m) && decide (m ≤ n)
set_option maxRecDepth 100000 in
theorem any1_calls (cs : Array Value) (pr le mo gr : Int) (A : Option Addr) (n c : Nat) (l h : Nat → Int) (r : Nat) (hB : BookC cs pr le mo gr A n c l h r) (m : Int) (p1 : Nat) (w : World)
    (h1 : w.cell? ⟨p1, 0, none⟩ = some (.int .i64 m)) :
    Calls Tryd.prog 72 #[.agg cs, .pointer (some ⟨p1, 0, none⟩)] w fun e w' => e = .returned (.bool (anyOk n m)) ∧ Below w.heap.size w w' := by
  have hu2 := Tryd.underlying74
  have hu3 := Tryd.underlying24
  have c4 := hB.c4
  have q1 : (w.alloc (.cells cs 74)).cell? ⟨p1, 0, none⟩ = some (.int .i64 m) := cell_kept_below ((Below.refl _ _).alloc (Nat.le_refl _) _) h1
  have gb : (w.alloc (.cells cs 74)).heap[w.heap.size]? = some (.cells cs 74) := Go.heap_alloc_new _ _
  have cb := (cell_of_row _ _ 4 _ _ _ gb).trans c4
  clear hB h1 c4
  by_cases h1 : 1 ≤ m ∧ m ≤ n
  · have hs : anyOk n m = true := by simp [anyOk, h1]
    have Hs := Lib.hid hs
    clear hs
    go_enter Tryd.func72, Tryd.ntmps72
    go_wp2_with (go_at_call 62; refine (in_true _ _ _ h1.1 h1.2 _).mono ?_; rintro e w1 ⟨rfl, rfl⟩)
    go_ret
    exact ⟨by rw [Hs.out]; rfl, (Below.refl _ _).alloc (Nat.le_refl _) _⟩
  · have hs : anyOk n m = false := by
      simp only [anyOk, Bool.and_eq_false_iff, decide_eq_false_iff_not]
      omega
    have Hs := Lib.hid hs
    clear hs
    go_enter Tryd.func72, Tryd.ntmps72
    go_wp2_with (go_at_call 62; refine (in_false _ _ _ h1 _).mono ?_; rintro e w1 ⟨rfl, rfl⟩)
    go_ret
    exact ⟨by rw [Hs.out]; rfl, (Below.refl _ _).alloc (Nat.le_refl _) _⟩
def nums (xs : List Int) : List Value := xs.map (Value.int .i64)
structure LH (w0 : World) (B : Nat) (W : World) (v u : Value) (ls hs : List Int) (b : Nat) (R : Obj) : Prop where
  below : Below B w0 W
  size : B ≤ W.heap.size
  lo : W.ownsRow B 3 1 v ls.length (nums ls)
  hi : W.ownsRow B 3 1 u hs.length (nums hs)
  ne : ∀ k, v.ownBlock = some k → u.ownBlock ≠ some k
  blk : W.heap[b]? = some R
  nb1 : v.ownBlock ≠ some b
  nb2 : u.ownBlock ≠ some b
theorem LH.drew {w0 W : World} {B : Nat} {v u : Value} {ls hs : List Int} {b : Nat} {R : Obj} (h : LH w0 B W v u ls hs b R) : LH w0 B W.drew v u ls hs b R := ⟨h.below.drew, h.size, h.lo.drew, h.hi.drew, h.ne, h.blk, h.nb1, h.nb2⟩
theorem LH.alloc {w0 W : World} {B : Nat} {v u : Value} {ls hs : List Int} {b : Nat} {R : Obj} (h : LH w0 B W v u ls hs b R) (o : Obj) : LH w0 B (W.alloc o) v u ls hs b R :=
  ⟨h.below.alloc h.size o, by simp; have := h.size; omega, h.lo.alloc o, h.hi.alloc o, h.ne, heap_alloc_keep h.blk o, h.nb1, h.nb2⟩
theorem LH.app1 {w0 W W' : World} {B : Nat} {v u v' : Value} {ls hs : List Int} {x : Int} {b g : Nat} {R : Obj} (h : LH w0 B W v u ls hs b R) (ho : W'.ownsRow B 3 1 v' (ls.length + 1) (nums ls ++ [Value.int .i64 x])) (hg : W.grownBy W' v.ownBlock)
    (hb : v'.ownBlock = some g) (hw : v.ownBlock = some g ∨ g = W.heap.size) : LH w0 B W' v' u (ls ++ [x]) hs b R := by
  have hbl := (Array.getElem?_eq_some_iff.1 h.blk).1
  refine ⟨h.below.grown hg h.size (fun k hk => (h.lo.lt k hk).1), Nat.le_trans h.size hg.size, by simpa [nums] using ho, h.hi.kept hg ?_, ?_, (hg.block b hbl (Ne.symm h.nb1)).trans h.blk, ?_, h.nb2⟩
  · cases hu : u.ownBlock with
    | none => exact .inl rfl
    | some k => exact .inr (fun e => h.ne k e.symm hu)
  · intro k hk hu
    rw [hb] at hk
    cases hk
    rcases hw with hw | hw
    · exact h.ne _ hw hu
    · have := (h.hi.lt _ hu).2
      omega
  · rw [hb]
    rintro e
    cases e
    rcases hw with hw | hw
    · exact h.nb1 hw
    · omega
theorem LH.app2 {w0 W W' : World} {B : Nat} {v u u' : Value} {ls hs : List Int} {x : Int} {b g : Nat} {R : Obj} (h : LH w0 B W v u ls hs b R) (ho : W'.ownsRow B 3 1 u' (hs.length + 1) (nums hs ++ [Value.int .i64 x])) (hg : W.grownBy W' u.ownBlock)
    (hb : u'.ownBlock = some g) (hw : u.ownBlock = some g ∨ g = W.heap.size) : LH w0 B W' v u' ls (hs ++ [x]) b R := by
  have hs : LH w0 B W u v hs ls b R := ⟨h.below, h.size, h.hi, h.lo, fun k hk hv => h.ne k hv hk, h.blk, h.nb2, h.nb1⟩
  have := hs.app1 ho hg hb hw
  exact ⟨this.below, this.size, this.hi, this.lo, fun k hk hv => this.ne k hv hk, this.blk, this.nb2, this.nb1⟩
theorem LH.sort1 {w0 W W' : World} {B : Nat} {v u : Value} {ls hs : List Int} {b : Nat} {R : Obj} (h : LH w0 B W v u ls hs b R) (ho : W'.ownsRow B 3 1 v ls.length ((srt ls).map (Value.int .i64))) (hg : W.grownBy W' v.ownBlock) : LH w0 B W' v u (srt ls) hs b R := by
  refine ⟨h.below.grown hg h.size (fun k hk => (h.lo.lt k hk).1), Nat.le_trans h.size hg.size, by rw [srt_length]; exact ho, h.hi.kept hg ?_, h.ne, (hg.block b (Array.getElem?_eq_some_iff.1 h.blk).1 (Ne.symm h.nb1)).trans h.blk, h.nb1, h.nb2⟩
  cases hu : u.ownBlock with
  | none => exact .inl rfl
  | some k => exact .inr (fun e => h.ne k e.symm hu)
theorem LH.sort2 {w0 W W' : World} {B : Nat} {v u : Value} {ls hs : List Int} {b : Nat} {R : Obj} (h : LH w0 B W v u ls hs b R) (ho : W'.ownsRow B 3 1 u hs.length ((srt hs).map (Value.int .i64))) (hg : W.grownBy W' u.ownBlock) : LH w0 B W' v u ls (srt hs) b R := by
  have hs : LH w0 B W u v hs ls b R := ⟨h.below, h.size, h.hi, h.lo, fun k hk hv => h.ne k hv hk, h.blk, h.nb2, h.nb1⟩
  have := hs.sort1 ho hg
  exact ⟨this.below, this.size, this.hi, this.lo, fun k hk hv => this.ne k hv hk, this.blk, this.nb2, this.nb1⟩
theorem own_cut {W : World} {B : Nat} {xs : List Int} {n : Nat} {g cap : Nat} (h : W.ownsRow B 3 1 (.slice (some ⟨g, 0, none⟩) n cap) n (nums xs)) (hl : xs.length ≤ 8) (o m : Nat) (hom : o + m ≤ xs.length) : RdI W (some ⟨g, o, none⟩) ((xs.drop o).take m) := by
  refine ⟨by rw [List.length_take, List.length_drop]; omega, fun j hj => ⟨_, rfl, ?_⟩⟩
  rw [List.length_take, List.length_drop] at hj
  have hx : o + j < xs.length := by omega
  have hc := h.cells (g := g) rfl (o + j) (.int .i64 (xs.getD (o + j) 0)) (by simp [nums, List.getD_eq_getElem?_getD, List.getElem?_eq_getElem hx])
  have ha : (⟨g, 0, none⟩ : Addr).add (o + j) = ⟨g, o + j, none⟩ := by unfold Addr.add; split <;> simp_all
  have hb : (⟨g, o, none⟩ : Addr).add j = ⟨g, o + j, none⟩ := by unfold Addr.add; split <;> simp_all
  rw [ha] at hc
  rw [hb, hc]
  simp [List.getD_eq_getElem?_getD, List.getElem?_take, List.getElem?_drop, show j < m by omega]
structure Kp (W : World) (v u : Value) (b : Nat) (R : Obj) : Prop where
  blk : W.heap[b]? = some R
  nb1 : v.ownBlock ≠ some b
  nb2 : u.ownBlock ≠ some b
theorem Kp.drew {W : World} {v u : Value} {b : Nat} {R : Obj} (h : Kp W v u b R) : Kp W.drew v u b R := ⟨h.blk, h.nb1, h.nb2⟩
theorem Kp.alloc {W : World} {v u : Value} {b : Nat} {R : Obj} (h : Kp W v u b R) (o : Obj) : Kp (W.alloc o) v u b R := ⟨heap_alloc_keep h.blk o, h.nb1, h.nb2⟩
theorem Kp.app1 {W W' : World} {v v' u : Value} {b g : Nat} {R : Obj} (h : Kp W v u b R) (hg : W.grownBy W' v.ownBlock) (hb : v'.ownBlock = some g) (hw : v.ownBlock = some g ∨ g = W.heap.size) : Kp W' v' u b R := by
  have hbl := (Array.getElem?_eq_some_iff.1 h.blk).1
  refine ⟨(hg.block b hbl (Ne.symm h.nb1)).trans h.blk, ?_, h.nb2⟩
  rw [hb]
  rintro e
  cases e
  rcases hw with hw | hw
  · exact h.nb1 hw
  · omega
theorem Kp.app2 {W W' : World} {v u u' : Value} {b g : Nat} {R : Obj} (h : Kp W v u b R) (hg : W.grownBy W' u.ownBlock) (hb : u'.ownBlock = some g) (hw : u.ownBlock = some g ∨ g = W.heap.size) : Kp W' v u' b R := by
  have hs : Kp W u v b R := ⟨h.blk, h.nb2, h.nb1⟩
  have := hs.app1 hg hb hw
  exact ⟨this.blk, this.nb2, this.nb1⟩
theorem LH.new {w0 W : World} {B : Nat} {v u : Value} {ls hs : List Int} {b : Nat} {R : Obj} (h : LH w0 B W v u ls hs b R) (o : Obj) (k : Nat) (hk : W.heap.size = k) : Kp (W.alloc o) v u k o := by
  subst hk
  exact ⟨Go.heap_alloc_new _ _, fun e => by have := (h.lo.lt _ e).2; omega, fun e => by have := (h.hi.lt _ e).2; omega⟩
end Go.Proofs.YtbbdbdamedaldaaDoor.Fl
end
section
namespace Go.Proofs.YtbbdbdamedaldaaDoor.Fl
open Go Go.RowKit Go.Proofs.EqArr Go.Proofs.RngLaw Go.Proofs.CopyN
def anyB (pr le mo : Int) (q : List (Int × Int)) (m : Nat) : Bool := kindOf pr le mo ((srt (q.map (·.1))).take m).sum ((srt (q.map (·.2))).drop (q.length - m)).sum == 0
def AnyPost (w : World) (pr le mo : Int) (q : List (Int × Int)) (m : Int) (ck : Bool) (e : Ending) (w' : World) : Prop :=
  Below w.heap.size w w' ∧ (ck = false → e = .returned (.tuple #[.bool false, .int .i64 50])) ∧
  (ck = true → anyOk q.length m = false → e = .returned (.tuple #[.bool false, .int .i64 51])) ∧
  (ck = true → anyOk q.length m = true → e = .returned (.tuple #[.bool (anyB pr le mo q m.toNat), .int .i64 0]))
set_option maxRecDepth 100000 in
set_option maxHeartbeats 4000000 in
theorem apiAny_calls (pr le mo gr : Int) (A : Option Addr) (n c : Nat) (q : List (Int × Int)) (hn : n = q.length) (hc : q.length ≤ c) (hl : q.length ≤ 9223372036854775807)
    (m : Int) (w : World) (hrd : RdH w A q) :
    Calls Tryd.prog 21 #[.agg #[.int .i64 pr, .int .i64 le, .int .i64 mo, .int .i64 gr, .slice A n c], .int .i64 m] w (AnyPost w pr le mo q m (checkB pr le mo gr q)) := by
  have h72 : ∀ args w, (callFunc 72 args).run Tryd.prog w = .ok (.enter 72 args) w := enters Tryd.func72 (by kernel_rfl) (by kernel_rfl)
  have ask := fun (p1 : Nat) (W : World) (hb : Below w.heap.size w W) (k1 : W.cell? ⟨p1, 0, none⟩ = some (.int .i64 m)) =>
    asked_calls 72 #[.pointer (some ⟨p1, 0, none⟩)] h72 (anyOk q.length m) pr le mo gr A n c q hn hc hl W (hrd.below hb)
      (fun hck r W2 hb2 => any1_calls _ pr le mo gr A q.length c (lowOf q) (highOf q) r (openCells_bookC _ _ _ _ _ _ _ _ _ (bookF hck).n8) m p1 W2 (cell_kept_below hb2 k1))
  have Hm := Lib.hid hn.symm
  have Hrd := Lib.hid hrd
  clear hn
  have Ask := Lib.hid ask
  clear hrd ask h72
  have hz := run_zero74
  have i24 : (Tryd.prog.info? 24).map (·.size) = some (#[Value.int .i64 pr, .int .i64 le, .int .i64 mo, .int .i64 gr, .slice A n c] : Array Value).size := info24
  have i74z : (Tryd.prog.info? 74).map (·.size) = some z22.size := info74
  have hb0 : Below w.heap.size w ((w.alloc (.cells #[.int .i64 pr, .int .i64 le, .int .i64 mo, .int .i64 gr, .slice A n c] 24)).alloc (.cells #[.int .i64 m] 3)) := (((Below.refl _ _).alloc (Nat.le_refl _) _).alloc (by simp) _)
  have k1 : ((w.alloc (.cells #[.int .i64 pr, .int .i64 le, .int .i64 mo, .int .i64 gr, .slice A n c] 24)).alloc (.cells #[.int .i64 m] 3)).cell? ⟨w.heap.size + 1, 0, none⟩ = some (.int .i64 m) := by go_simp
  have k0 : ((w.alloc (.cells #[.int .i64 pr, .int .i64 le, .int .i64 mo, .int .i64 gr, .slice A n c] 24)).alloc (.cells #[.int .i64 m] 3)).heap[w.heap.size]? = some (.cells #[.int .i64 pr, .int .i64 le, .int .i64 mo, .int .i64 gr, .slice A n c] 24) := heap_alloc2_old _ _ _
  have B0 := Lib.hid (And.intro hb0 (And.intro k1 k0))
  clear hb0 k1 k0
  have bad : ∀ (k : Int), k ≠ 0 → (∀ p1 W, Below w.heap.size w W → W.cell? ⟨p1, 0, none⟩ = some (.int .i64 m) → Calls Tryd.prog 60 #[.agg #[.int .i64 pr, .int .i64 le, .int .i64 mo, .int .i64 gr, .slice A n c], .func (.func 72) #[] #[.pointer (some ⟨p1, 0, none⟩)]] W (fun e W' => e = .returned (.tuple #[.agg z22, .int .i64 k]) ∧ Below W.heap.size W W')) →
      Calls Tryd.prog 21 #[.agg #[.int .i64 pr, .int .i64 le, .int .i64 mo, .int .i64 gr, .slice A n c], .int .i64 m] w (fun e W' => e = .returned (.tuple #[.bool false, .int .i64 k]) ∧ Below w.heap.size w W') := by
    intro k hk hP
    have hk1 : (k != 0) = true := by simpa using hk
    have HP := Lib.hid hP
    clear hP
    go_enter Tryd.func21, Tryd.ntmps21
    go_wp2_with (first
      | (go_at_call 60; refine (HP.out (w.heap.size + 1) _ B0.out.1 B0.out.2.1).mono ?_; rintro e w1 ⟨rfl, hb1⟩; have hb2 := B0.out.1.trans (hb1.mono (by simp <;> omega)); have hs2 := hb1.size; simp at hs2)
      | (refine wpList_store_row rfl 74 _ _ rfl w1.heap.size z22 rfl rfl 74 z22 (Go.heap_alloc_new _ _) i74z rfl z22_one ?_))
    go_ret2
    exact ⟨rfl, below_setRow (hb2.alloc (by omega) _) (by omega) _⟩
  cases hck : checkB pr le mo gr q with
  | false =>
    rw [hck] at Ask
    refine (bad 50 (by decide) (fun p1 W hb k1 => (Ask.out p1 W hb k1).mono ?_)).mono ?_
    · rintro e W' ⟨h1, h2⟩
      exact ⟨h2, h1⟩
    · rintro e W' ⟨rfl, h⟩
      exact ⟨h, fun _ => rfl, fun h => (by cases h), fun h => (by cases h)⟩
  | true =>
    rw [hck] at Ask
    cases hok : anyOk q.length m with
    | false =>
      rw [hok] at Ask
      refine (bad 51 (by decide) (fun p1 W hb k1 => (Ask.out p1 W hb k1).mono ?_)).mono ?_
      · rintro e W' ⟨h1, h2⟩
        exact ⟨h2, h1⟩
      · rintro e W' ⟨rfl, h⟩
        exact ⟨h, fun h => (by cases h), fun _ _ => rfl, fun _ h => absurd (hok.symm.trans h) (by decide)⟩
    | true =>
      rw [hok] at Ask
      have hF := bookF hck
      have h8 := hF.n8
      have Hok2 := Lib.hid hok
      have hok3 : 1 ≤ m ∧ m ≤ q.length := by simpa [anyOk] using hok
      have i74o := fun r => openCells_i74 pr le mo gr A q.length c q r h8
      have o22 := fun r => openCells_size pr le mo gr A q.length c q r h8
      have I74 := Lib.hid (And.intro i74o o22)
      have knd := fun (r : Nat) (lo hi : Int) (W : World) =>
        kind_calls (openCells pr le mo gr A q.length c q r) pr le mo gr A q.length c (lowOf q) (highOf q) r (openCells_bookC _ _ _ _ _ _ _ _ _ h8) lo hi hF.b1 hF.b2 hF.b3 hF.b4 hF.b5 hF.b6 W
      have Knd := Lib.hid knd
      have HF := Lib.hid hF
      have hm8 : 1 ≤ m ∧ m ≤ 8 := by omega
      have Hok3 := Lib.hid hok3
      have hcn : n ≤ c := by have := Hm.out; omega
      have hn8 : n ≤ 8 := by have := Hm.out; omega
      clear knd i74o o22 hF hck bad hok hok3 hc hl h8
      go_enter Tryd.func21, Tryd.ntmps21
      go_wp2_with (first
        | (go_at_call 60; refine (Ask.out (w.heap.size + 1) _ B0.out.1 B0.out.2.1).mono ?_; rintro e w1 ⟨hb1, r, rfl, hm, hr⟩; have k3 := cell_kept_below hb1 B0.out.2.1; have k4 := below_heap hb1 B0.out.2.2; have hb2 := B0.out.1.trans (hb1.mono (by simp <;> omega)); have hs2 := hb1.size; simp at hs2; simp at hr; have hr2 : r < w1.heap.size := (Array.getElem?_eq_some_iff.1 hm).1; have hb5 := below_setRow (g := w1.heap.size) ((Below.refl w1.heap.size w1).alloc (Nat.le_refl _) (.cells z22 74)) (Nat.le_refl _) (openCells pr le mo gr A q.length c q r); have k5 := cell_kept_below hb5 k3; have k6 := (cell_of_row _ _ 4 _ _ _ (below_heap hb5 k4)).trans rfl)
        | (refine wpList_store_row rfl 74 _ _ rfl w1.heap.size (openCells pr le mo gr A q.length c q r) rfl rfl 74 z22 (Go.heap_alloc_new _ _) (I74.out.1 r) (I74.out.2 r).symm (openCells_one _ _ _ _ _ _ _ _ _) ?_))
      have g5 : ((w1.alloc (.cells z22 74)).setRow w1.heap.size (openCells pr le mo gr A q.length c q r)).heap[w1.heap.size]? = some (.cells (openCells pr le mo gr A q.length c q r) 74) := setRow_heap _ _ _ _ _ _ (Go.heap_alloc_new _ _)
      have hbw := hb2.trans (hb5.mono (by omega))
      have hs5 := hb5.size
      obtain ⟨W5, hW5⟩ : ∃ W, W = (w1.alloc (.cells z22 74)).setRow w1.heap.size (openCells pr le mo gr A q.length c q r) := ⟨_, rfl⟩
      have hgt : w1.heap.size < W5.heap.size := by rw [hW5]; exact (Array.getElem?_eq_some_iff.1 g5).1
      rw [← hW5] at g5 hbw k5 hs5 ⊢
      have F5 := Lib.hid (And.intro g5 (And.intro hbw (And.intro k5 (And.intro hs5 hgt))))
      clear hW5 hb5 g5 hbw k5 k6 hs5 hgt hb1 hb2 hm hr hr2 k3 k4 hs2
      have hu27 := Tryd.underlying27
      have i27 : ∀ x y : Int, (Tryd.prog.info? 27).map (·.size) = some (#[Value.int .i64 x, .int .i64 y] : Array Value).size := fun x y => by
        have h : (Tryd.prog.info? 27).map (·.size) = some 2 := by kernel_rfl
        exact h
      have I27 := Lib.hid i27
      clear i27
      go_loopw [8, 9, 24] (fun v8 v9 v24 wr => ∃ k : Nat, k ≤ n ∧ v24 = .int .i64 k ∧ LH W5 W5.heap.size wr v8 v9 ((q.map (·.1)).take k) ((q.map (·.2)).take k) w1.heap.size (.cells (openCells pr le mo gr A q.length c q r) 74)) (fun _ _ v24 _ => n - (intOf v24).toNat)
      case atStart =>
        refine ⟨0, Nat.zero_le _, rfl, ⟨Below.refl _ _, Nat.le_refl _, World.ownsRow_nil _ _ _ _, World.ownsRow_nil _ _ _ _, ?_, F5.out.1, ?_, ?_⟩⟩
        · intro k h; simp [Value.ownBlock] at h
        · simp [Value.ownBlock]
        · simp [Value.ownBlock]
      case round =>
        obtain ⟨k, hk, rfl, hLH⟩ := hrel
        by_cases hlt : k < n
        · have hlk : (k : Int) < n := by omega
          obtain ⟨ad, rfl⟩ : ∃ ad, A = some ad := by
            obtain ⟨a', e, _⟩ := Hrd.out (by rw [hcells_length, Hm.out]; omega)
            exact ⟨a', e⟩
          have hrr : RdH wr (some ad) q := Hrd.out.below (F5.out.2.1.trans (hLH.below.mono F5.out.2.1.size))
          have hld := rdH_at hrr k (by rw [Hm.out]; exact hlt)
          obtain ⟨lo, hlo⟩ : ∃ lo, lowOf q k = lo := ⟨_, rfl⟩
          obtain ⟨hi, hhi⟩ : ∃ hi, highOf q k = hi := ⟨_, rfl⟩
          rw [hlo, hhi] at hld
          have Hlh := Lib.hid (And.intro hlo hhi)
          have HL := Lib.hid hLH
          clear hlo hhi hLH hrr
          go_upto_region 8 with (refine wpList_load_at rfl 27 _ rfl (ad.add (k * 2)) rfl _ _ hld Tryd.underlying27 rfl (I27.out _ _) ?_)
          have g7 := Go.heap_alloc_new wr (.cells #[.int .i64 lo, .int .i64 hi] 27)
          have hL7 := (HL.out.alloc (.cells #[.int .i64 lo, .int .i64 hi] 27)).drew
          have hS7 := (HL.out.new (.cells #[.int .i64 lo, .int .i64 hi] 27) _ rfl).drew
          have hlen1 : ((q.map (·.1)).take k).length ≤ 8 := by rw [List.length_take]; omega
          have hlen2 : ((q.map (·.2)).take k).length ≤ 8 := by rw [List.length_take]; omega
          have htk1 : (q.map (·.1)).take (k + 1) = (q.map (·.1)).take k ++ [lo] := by
            have hkl : k < (q.map (·.1)).length := by rw [List.length_map, Hm.out]; exact hlt
            rw [List.take_add_one, List.getElem?_eq_getElem hkl, ← Hlh.out.1]
            simp [lowOf, List.getD_eq_getElem?_getD, List.getElem?_eq_getElem (show k < q.length by simpa using hkl)]
          have htk2 : (q.map (·.2)).take (k + 1) = (q.map (·.2)).take k ++ [hi] := by
            have hkl : k < (q.map (·.2)).length := by rw [List.length_map, Hm.out]; exact hlt
            rw [List.take_add_one, List.getElem?_eq_getElem hkl, ← Hlh.out.2]
            simp [highOf, List.getD_eq_getElem?_getD, List.getElem?_eq_getElem (show k < q.length by simpa using hkl)]
          obtain ⟨i0, hi0, hz0, hz1, hz2⟩ : ∃ i0, Tryd.prog.info? 3 = some i0 ∧ i0.zero = some (.int .i64 0) ∧ i0.size = 1 ∧ i0.bytes = 8 := by
            have h : (Tryd.prog.info? 3).map (fun i => (i.zero, i.size, i.bytes)) = some (some (.int .i64 0), 1, 8) := by kernel_rfl
            cases hq : Tryd.prog.info? 3 with
            | none => simp [hq] at h
            | some i => simp [hq] at h; exact ⟨i, rfl, h.1, h.2.1, h.2.2⟩
          refine wp_region_held_drew (S := fun W => W.heap[wr.heap.size]? = some (.cells #[.int .i64 lo, .int .i64 hi] 27)) (by kernel_rfl) g7 (fun hS => ?_)
          refine wpAnyH_take (i := 0) (oi := _) (v := u8) rfl (by kernel_rfl) (by kernel_rfl) (by kernel_rfl) (fun _ _ _ h => h) (Or.inl ⟨by rfl, fun W hW => ?_⟩) (by assumption) ?_
          · go_simp
          simp only [Act.put, List.getElem_toArray, List.getElem_cons_succ, List.getElem_cons_zero, List.setIfInBounds_toArray, List.set_cons_zero, List.set_cons_succ]
          refine wpAnyH_take (i := 1) (oi := _) (v := .pointer (some ⟨wr.heap.size, 0, none⟩)) rfl (by kernel_rfl) (by kernel_rfl) (by kernel_rfl) (fun _ _ _ h => h) (Or.inl ⟨by rfl, fun W hW => ?_⟩) (by assumption) ?_
          · go_simp
          simp only [Act.put, List.getElem_toArray, List.getElem_cons_succ, List.getElem_cons_zero, List.setIfInBounds_toArray, List.set_cons_zero, List.set_cons_succ]
          refine wpAnyH_take (i := 2) (oi := _) (v := .int .i64 lo) rfl (by kernel_rfl) (by kernel_rfl) (by kernel_rfl) (fun _ _ _ h => h) (Or.inl ⟨by rfl, fun W hW => ?_⟩) (by assumption) ?_
          · have hc1 := (cell_of_row _ _ 0 _ _ _ hW).trans rfl
            go_simp
          simp only [Act.put, List.getElem_toArray, List.getElem_cons_succ, List.getElem_cons_zero, List.setIfInBounds_toArray, List.set_cons_zero, List.set_cons_succ]
          refine wpAnyH_take (i := 5) (oi := _) (v := u9) rfl (by kernel_rfl) (by kernel_rfl) (by kernel_rfl) (fun _ _ _ h => h) (Or.inl ⟨by rfl, fun W hW => ?_⟩) (by assumption) ?_
          · go_simp
          simp only [Act.put, List.getElem_toArray, List.getElem_cons_succ, List.getElem_cons_zero, List.setIfInBounds_toArray, List.set_cons_zero, List.set_cons_succ]
          refine wpAnyH_take (i := 6) (oi := _) (v := .pointer (some ⟨wr.heap.size, 1, none⟩)) rfl (by kernel_rfl) (by kernel_rfl) (by kernel_rfl) (fun _ _ _ h => h) (Or.inl ⟨by rfl, fun W hW => ?_⟩) (by assumption) ?_
          · go_simp
          simp only [Act.put, List.getElem_toArray, List.getElem_cons_succ, List.getElem_cons_zero, List.setIfInBounds_toArray, List.set_cons_zero, List.set_cons_succ]
          refine wpAnyH_take (i := 7) (oi := _) (v := .int .i64 hi) rfl (by kernel_rfl) (by kernel_rfl) (by kernel_rfl) (fun _ _ _ h => h) (Or.inl ⟨by rfl, fun W hW => ?_⟩) (by assumption) ?_
          · have hc1 := (cell_of_row _ _ 1 _ _ _ hW).trans rfl
            go_simp
          simp only [Act.put, List.getElem_toArray, List.getElem_cons_succ, List.getElem_cons_zero, List.setIfInBounds_toArray, List.set_cons_zero, List.set_cons_succ]
          refine wpAnyH_ready (rs := [3, 8]) (by kernel_rfl) (by simp) ?_
          refine (AllReadyH.cons rfl (fun K hK => ?_) (AllReadyH.cons rfl (fun K hK => ?_) AllReadyH.nil))
          · skip
            go_simp
            have L1_ := hL7.alloc (.cells #[.int .i64 lo] 3)
            have S1_ := hS7.alloc (.cells #[.int .i64 lo] 3)
            have B1_3 := hL7.new (.cells #[.int .i64 lo] 3) (wr.heap.size + 1) (by simp)
            refine hK.out _ _ S1_.1 (fun hS => ?_)
            clear hK K
            refine wpAnyH_ready (rs := [4, 8]) (by kernel_rfl) (by simp) ?_
            refine (AllReadyH.cons rfl (fun K hK => ?_) (AllReadyH.cons rfl (fun K hK => ?_) AllReadyH.nil))
            · skip
              refine step_append_lies _ rfl (.tmp 28) (.tmp 31) 38 rfl W5.heap.size 3 i0 (.int .i64 0) 1 8 Tryd.underlying38 hi0 hz0 hz1 hz2 rfl (by decide) u8 _ _ (by rfl) L1_.lo ⟨_, 0, none⟩ 1 1 [.int .i64 lo] (by rfl) rfl (World.news_of_block B1_3.1) (by simp [Value.oneCell']) (by decide) (by have := hlen1; unfold maxLen; omega) (by have := hlen1; omega) L1_.size _ rfl ?_
              intro g2 cap2 W2_ ho2 hg2 hw2 hl2
              simp only [Act.put, List.getElem_toArray, List.getElem_cons_succ, List.getElem_cons_zero, List.setIfInBounds_toArray, List.set_cons_zero, List.set_cons_succ]
              have L2_ := L1_.app1 ho2 hg2 rfl hw2
              have S2_ := S1_.app1 (g := g2) (v' := .slice (some ⟨g2, 0, none⟩) (((q.map (·.1)).take k).length + 1) cap2) hg2 rfl hw2
              refine hK.out _ _ S2_.1 (fun hS => ?_)
              clear hK K
              refine wpAnyH_ready (rs := [8]) (by kernel_rfl) (by simp) ?_
              refine (AllReadyH.cons rfl (fun K hK => ?_) AllReadyH.nil)
              go_simp
              have L3_ := L2_.alloc (.cells #[.int .i64 hi] 3)
              have S3_ := S2_.alloc (.cells #[.int .i64 hi] 3)
              have B3_8 := L2_.new (.cells #[.int .i64 hi] 3) (W2_.heap.size) (by rfl)
              refine hK.out _ _ S3_.1 (fun hS => ?_)
              clear hK K
              refine wpAnyH_ready (rs := [9]) (by kernel_rfl) (by simp) ?_
              refine (AllReadyH.cons rfl (fun K hK => ?_) AllReadyH.nil)
              refine step_append_lies _ rfl (.tmp 33) (.tmp 36) 38 rfl W5.heap.size 3 i0 (.int .i64 0) 1 8 Tryd.underlying38 hi0 hz0 hz1 hz2 rfl (by decide) u9 _ _ (by rfl) L3_.hi ⟨_, 0, none⟩ 1 1 [.int .i64 hi] (by rfl) rfl (World.news_of_block B3_8.1) (by simp [Value.oneCell']) (by decide) (by have := hlen2; unfold maxLen; omega) (by have := hlen2; omega) L3_.size _ rfl ?_
              intro g4 cap4 W4_ ho4 hg4 hw4 hl4
              simp only [Act.put, List.getElem_toArray, List.getElem_cons_succ, List.getElem_cons_zero, List.setIfInBounds_toArray, List.set_cons_zero, List.set_cons_succ]
              have L4_ := L3_.app2 ho4 hg4 rfl hw4
              have S4_ := S3_.app2 (g := g4) (u' := .slice (some ⟨g4, 0, none⟩) (((q.map (·.2)).take k).length + 1) cap4) hg4 rfl hw4
              refine hK.out _ _ S4_.1 (fun hS => ?_)
              clear hK K
              refine wpAnyH_take (i := 10) (oi := _) (v := .slice (some ⟨g2, 0, none⟩) (((q.map (·.1)).take k).length + 1) cap2) rfl (by kernel_rfl) (by kernel_rfl) (by kernel_rfl) (fun _ _ _ h => h) (Or.inl ⟨by rfl, fun W hW => ?_⟩) (by assumption) ?_
              · go_simp
              simp only [Act.put, List.getElem_toArray, List.getElem_cons_succ, List.getElem_cons_zero, List.setIfInBounds_toArray, List.set_cons_zero, List.set_cons_succ]
              refine wpAnyH_take (i := 11) (oi := _) (v := .slice (some ⟨g4, 0, none⟩) (((q.map (·.2)).take k).length + 1) cap4) rfl (by kernel_rfl) (by kernel_rfl) (by kernel_rfl) (fun _ _ _ h => h) (Or.inl ⟨by rfl, fun W hW => ?_⟩) (by assumption) ?_
              · go_simp
              simp only [Act.put, List.getElem_toArray, List.getElem_cons_succ, List.getElem_cons_zero, List.setIfInBounds_toArray, List.set_cons_zero, List.set_cons_succ]
              refine wpAnyH_done (by kernel_rfl) ?_ _
              rw [← htk1, ← htk2] at L4_
              have HE := Lib.hid L4_
              clear L4_
              go_wp2
              go_roundw
              case rel => exact ⟨k + 1, by omega, by simp, HE.out⟩
              case measure => simp [intOf]; omega
            · skip
              go_simp
              have L5_ := L1_.alloc (.cells #[.int .i64 hi] 3)
              have S5_ := S1_.alloc (.cells #[.int .i64 hi] 3)
              have B5_8 := L1_.new (.cells #[.int .i64 hi] 3) (wr.heap.size + 1 + 1) (by simp)
              have B5_3 := B1_3.alloc (.cells #[.int .i64 hi] 3)
              refine hK.out _ _ S5_.1 (fun hS => ?_)
              clear hK K
              refine wpAnyH_ready (rs := [4]) (by kernel_rfl) (by simp) ?_
              refine (AllReadyH.cons rfl (fun K hK => ?_) AllReadyH.nil)
              refine step_append_lies _ rfl (.tmp 28) (.tmp 31) 38 rfl W5.heap.size 3 i0 (.int .i64 0) 1 8 Tryd.underlying38 hi0 hz0 hz1 hz2 rfl (by decide) u8 _ _ (by rfl) L5_.lo ⟨_, 0, none⟩ 1 1 [.int .i64 lo] (by rfl) rfl (World.news_of_block B5_3.1) (by simp [Value.oneCell']) (by decide) (by have := hlen1; unfold maxLen; omega) (by have := hlen1; omega) L5_.size _ rfl ?_
              intro g6 cap6 W6_ ho6 hg6 hw6 hl6
              simp only [Act.put, List.getElem_toArray, List.getElem_cons_succ, List.getElem_cons_zero, List.setIfInBounds_toArray, List.set_cons_zero, List.set_cons_succ]
              have L6_ := L5_.app1 ho6 hg6 rfl hw6
              have S6_ := S5_.app1 (g := g6) (v' := .slice (some ⟨g6, 0, none⟩) (((q.map (·.1)).take k).length + 1) cap6) hg6 rfl hw6
              have B6_8 := B5_8.app1 (g := g6) (v' := .slice (some ⟨g6, 0, none⟩) (((q.map (·.1)).take k).length + 1) cap6) hg6 rfl hw6
              refine hK.out _ _ S6_.1 (fun hS => ?_)
              clear hK K
              refine wpAnyH_ready (rs := [9]) (by kernel_rfl) (by simp) ?_
              refine (AllReadyH.cons rfl (fun K hK => ?_) AllReadyH.nil)
              refine step_append_lies _ rfl (.tmp 33) (.tmp 36) 38 rfl W5.heap.size 3 i0 (.int .i64 0) 1 8 Tryd.underlying38 hi0 hz0 hz1 hz2 rfl (by decide) u9 _ _ (by rfl) L6_.hi ⟨_, 0, none⟩ 1 1 [.int .i64 hi] (by rfl) rfl (World.news_of_block B6_8.1) (by simp [Value.oneCell']) (by decide) (by have := hlen2; unfold maxLen; omega) (by have := hlen2; omega) L6_.size _ rfl ?_
              intro g7 cap7 W7_ ho7 hg7 hw7 hl7
              simp only [Act.put, List.getElem_toArray, List.getElem_cons_succ, List.getElem_cons_zero, List.setIfInBounds_toArray, List.set_cons_zero, List.set_cons_succ]
              have L7_ := L6_.app2 ho7 hg7 rfl hw7
              have S7_ := S6_.app2 (g := g7) (u' := .slice (some ⟨g7, 0, none⟩) (((q.map (·.2)).take k).length + 1) cap7) hg7 rfl hw7
              refine hK.out _ _ S7_.1 (fun hS => ?_)
              clear hK K
              refine wpAnyH_take (i := 10) (oi := _) (v := .slice (some ⟨g6, 0, none⟩) (((q.map (·.1)).take k).length + 1) cap6) rfl (by kernel_rfl) (by kernel_rfl) (by kernel_rfl) (fun _ _ _ h => h) (Or.inl ⟨by rfl, fun W hW => ?_⟩) (by assumption) ?_
              · go_simp
              simp only [Act.put, List.getElem_toArray, List.getElem_cons_succ, List.getElem_cons_zero, List.setIfInBounds_toArray, List.set_cons_zero, List.set_cons_succ]
              refine wpAnyH_take (i := 11) (oi := _) (v := .slice (some ⟨g7, 0, none⟩) (((q.map (·.2)).take k).length + 1) cap7) rfl (by kernel_rfl) (by kernel_rfl) (by kernel_rfl) (fun _ _ _ h => h) (Or.inl ⟨by rfl, fun W hW => ?_⟩) (by assumption) ?_
              · go_simp
              simp only [Act.put, List.getElem_toArray, List.getElem_cons_succ, List.getElem_cons_zero, List.setIfInBounds_toArray, List.set_cons_zero, List.set_cons_succ]
              refine wpAnyH_done (by kernel_rfl) ?_ _
              rw [← htk1, ← htk2] at L7_
              have HE := Lib.hid L7_
              clear L7_
              go_wp2
              go_roundw
              case rel => exact ⟨k + 1, by omega, by simp, HE.out⟩
              case measure => simp [intOf]; omega
          · skip
            go_simp
            have L8_ := hL7.alloc (.cells #[.int .i64 hi] 3)
            have S8_ := hS7.alloc (.cells #[.int .i64 hi] 3)
            have B8_8 := hL7.new (.cells #[.int .i64 hi] 3) (wr.heap.size + 1) (by simp)
            refine hK.out _ _ S8_.1 (fun hS => ?_)
            clear hK K
            refine wpAnyH_ready (rs := [3]) (by kernel_rfl) (by simp) ?_
            refine (AllReadyH.cons rfl (fun K hK => ?_) AllReadyH.nil)
            go_simp
            have L9_ := L8_.alloc (.cells #[.int .i64 lo] 3)
            have S9_ := S8_.alloc (.cells #[.int .i64 lo] 3)
            have B9_3 := L8_.new (.cells #[.int .i64 lo] 3) (wr.heap.size + 1 + 1) (by simp)
            have B9_8 := B8_8.alloc (.cells #[.int .i64 lo] 3)
            refine hK.out _ _ S9_.1 (fun hS => ?_)
            clear hK K
            refine wpAnyH_ready (rs := [4]) (by kernel_rfl) (by simp) ?_
            refine (AllReadyH.cons rfl (fun K hK => ?_) AllReadyH.nil)
            refine step_append_lies _ rfl (.tmp 28) (.tmp 31) 38 rfl W5.heap.size 3 i0 (.int .i64 0) 1 8 Tryd.underlying38 hi0 hz0 hz1 hz2 rfl (by decide) u8 _ _ (by rfl) L9_.lo ⟨_, 0, none⟩ 1 1 [.int .i64 lo] (by rfl) rfl (World.news_of_block B9_3.1) (by simp [Value.oneCell']) (by decide) (by have := hlen1; unfold maxLen; omega) (by have := hlen1; omega) L9_.size _ rfl ?_
            intro g10 cap10 W10_ ho10 hg10 hw10 hl10
            simp only [Act.put, List.getElem_toArray, List.getElem_cons_succ, List.getElem_cons_zero, List.setIfInBounds_toArray, List.set_cons_zero, List.set_cons_succ]
            have L10_ := L9_.app1 ho10 hg10 rfl hw10
            have S10_ := S9_.app1 (g := g10) (v' := .slice (some ⟨g10, 0, none⟩) (((q.map (·.1)).take k).length + 1) cap10) hg10 rfl hw10
            have B10_8 := B9_8.app1 (g := g10) (v' := .slice (some ⟨g10, 0, none⟩) (((q.map (·.1)).take k).length + 1) cap10) hg10 rfl hw10
            refine hK.out _ _ S10_.1 (fun hS => ?_)
            clear hK K
            refine wpAnyH_ready (rs := [9]) (by kernel_rfl) (by simp) ?_
            refine (AllReadyH.cons rfl (fun K hK => ?_) AllReadyH.nil)
            refine step_append_lies _ rfl (.tmp 33) (.tmp 36) 38 rfl W5.heap.size 3 i0 (.int .i64 0) 1 8 Tryd.underlying38 hi0 hz0 hz1 hz2 rfl (by decide) u9 _ _ (by rfl) L10_.hi ⟨_, 0, none⟩ 1 1 [.int .i64 hi] (by rfl) rfl (World.news_of_block B10_8.1) (by simp [Value.oneCell']) (by decide) (by have := hlen2; unfold maxLen; omega) (by have := hlen2; omega) L10_.size _ rfl ?_
            intro g11 cap11 W11_ ho11 hg11 hw11 hl11
            simp only [Act.put, List.getElem_toArray, List.getElem_cons_succ, List.getElem_cons_zero, List.setIfInBounds_toArray, List.set_cons_zero, List.set_cons_succ]
            have L11_ := L10_.app2 ho11 hg11 rfl hw11
            have S11_ := S10_.app2 (g := g11) (u' := .slice (some ⟨g11, 0, none⟩) (((q.map (·.2)).take k).length + 1) cap11) hg11 rfl hw11
            refine hK.out _ _ S11_.1 (fun hS => ?_)
            clear hK K
            refine wpAnyH_take (i := 10) (oi := _) (v := .slice (some ⟨g10, 0, none⟩) (((q.map (·.1)).take k).length + 1) cap10) rfl (by kernel_rfl) (by kernel_rfl) (by kernel_rfl) (fun _ _ _ h => h) (Or.inl ⟨by rfl, fun W hW => ?_⟩) (by assumption) ?_
            · go_simp
            simp only [Act.put, List.getElem_toArray, List.getElem_cons_succ, List.getElem_cons_zero, List.setIfInBounds_toArray, List.set_cons_zero, List.set_cons_succ]
            refine wpAnyH_take (i := 11) (oi := _) (v := .slice (some ⟨g11, 0, none⟩) (((q.map (·.2)).take k).length + 1) cap11) rfl (by kernel_rfl) (by kernel_rfl) (by kernel_rfl) (fun _ _ _ h => h) (Or.inl ⟨by rfl, fun W hW => ?_⟩) (by assumption) ?_
            · go_simp
            simp only [Act.put, List.getElem_toArray, List.getElem_cons_succ, List.getElem_cons_zero, List.setIfInBounds_toArray, List.set_cons_zero, List.set_cons_succ]
            refine wpAnyH_done (by kernel_rfl) ?_ _
            rw [← htk1, ← htk2] at L11_
            have HE := Lib.hid L11_
            clear L11_
            go_wp2
            go_roundw
            case rel => exact ⟨k + 1, by omega, by simp, HE.out⟩
            case measure => simp [intOf]; omega
        · have hkn : k = n := by omega
          subst hkn
          have hlo8 : (q.map (·.1)).length ≤ 8 := by rw [List.length_map, Hm.out]; exact hn8
          have hhi8 : (q.map (·.2)).length ≤ 8 := by rw [List.length_map, Hm.out]; exact hn8
          rw [List.take_of_length_le (by rw [List.length_map, Hm.out]; exact Nat.le_refl _), List.take_of_length_le (by rw [List.length_map, Hm.out]; exact Nat.le_refl _)] at hLH
          have HL := Lib.hid hLH
          clear hLH
          have st1 := sort_own W5.heap.size u8 (q.map (·.1)) wr HL.out.lo hlo8
          have St1 := Lib.hid st1
          clear st1
          go_upto_region 11 with (go_at_call 73; refine St1.out.mono ?_; rintro e w2 ⟨rfl, ho2, hg2⟩)
          have L2 := HL.out.sort1 ho2 hg2
          have st2 := sort_own W5.heap.size u9 (q.map (·.2)) w2 L2.hi hhi8
          have St2 := Lib.hid st2
          have HL2 := Lib.hid L2
          clear st2 ho2 hg2 L2
          go_upto_region 12 with (go_at_call 73; refine St2.out.mono ?_; rintro e w3 ⟨rfl, ho3, hg3⟩)
          have L3 := HL2.out.sort2 ho3 hg3
          have HL3 := Lib.hid L3
          clear ho3 hg3 L3 HL2
          have hq1 : (srt (q.map (·.1))).length = k := by rw [srt_length, List.length_map, Hm.out]
          have hq2 : (srt (q.map (·.2))).length = k := by rw [srt_length, List.length_map, Hm.out]
          have hk1 : 1 ≤ k := by have := Hok3.out; have := Hm.out; omega
          obtain ⟨g8, cap8, rfl, hlo3, hcap8⟩ : ∃ g cap, u8 = .slice (some ⟨g, 0, none⟩) k cap ∧ w3.ownsRow W5.heap.size 3 1 (.slice (some ⟨g, 0, none⟩) k cap) k (nums (srt (q.map (·.1)))) ∧ k ≤ cap := by
            have h := HL3.out.lo
            rw [hq1] at h
            rcases h.2 with ⟨_, h0⟩ | ⟨g, cap, cur, hv, _, _, h1, _⟩
            · omega
            · exact ⟨g, cap, hv, by rw [← hv]; exact h, h1⟩
          obtain ⟨g9, cap9, rfl, hhi3, hcap9⟩ : ∃ g cap, u9 = .slice (some ⟨g, 0, none⟩) k cap ∧ w3.ownsRow W5.heap.size 3 1 (.slice (some ⟨g, 0, none⟩) k cap) k (nums (srt (q.map (·.2)))) ∧ k ≤ cap := by
            have h := HL3.out.hi
            rw [hq2] at h
            rcases h.2 with ⟨_, h0⟩ | ⟨g, cap, cur, hv, _, _, h1, _⟩
            · omega
            · exact ⟨g, cap, hv, by rw [← hv]; exact h, h1⟩
          obtain ⟨mm, hmm⟩ : ∃ mm : Nat, m = mm := ⟨m.toNat, by omega⟩
          have hmm1 : 1 ≤ mm := by omega
          have hmk : mm ≤ k := by have := Hok3.out; have := Hm.out; omega
          have r8 := own_cut hlo3 (by omega) 0 mm (by omega)
          have r9 := own_cut hhi3 (by omega) (k - mm) mm (by omega)
          have bd1 : ∀ x ∈ srt (q.map (·.1)), 0 ≤ x ∧ x ≤ 200 := srt_bd (fun x hx => by obtain ⟨y, hy, rfl⟩ := List.mem_map.1 hx; have := HF.out.ok y hy; omega)
          have bd2 : ∀ x ∈ srt (q.map (·.2)), 0 ≤ x ∧ x ≤ 200 := srt_bd (fun x hx => by obtain ⟨y, hy, rfl⟩ := List.mem_map.1 hx; have := HF.out.ok y hy; omega)
          obtain ⟨xs8, hx8⟩ : ∃ xs, ((srt (q.map (·.1))).drop 0).take mm = xs := ⟨_, rfl⟩
          obtain ⟨xs9, hx9⟩ : ∃ xs, ((srt (q.map (·.2))).drop (k - mm)).take mm = xs := ⟨_, rfl⟩
          have l8 : xs8.length = mm := by rw [← hx8, List.length_take, List.length_drop]; omega
          have l9 : xs9.length = mm := by rw [← hx9, List.length_take, List.length_drop]; omega
          have b8 : ∀ x ∈ xs8, 0 ≤ x ∧ x ≤ 200 := fun x hx => bd1 x (by rw [← hx8] at hx; exact List.mem_of_mem_drop (List.mem_of_mem_take hx))
          have b9 : ∀ x ∈ xs9, 0 ≤ x ∧ x ≤ 200 := fun x hx => bd2 x (by rw [← hx9] at hx; exact List.mem_of_mem_drop (List.mem_of_mem_take hx))
          rw [hx8] at r8
          rw [hx9] at r9
          have hfin : anyB pr le mo q m.toNat = (kindOf pr le mo xs8.sum xs9.sum == 0) := by
            have e : m.toNat = mm := by omega
            unfold anyB
            rw [e, ← hx8, ← hx9, Hm.out, List.drop_zero, List.take_of_length_le (l := (srt (q.map (·.2))).drop (k - mm)) (by rw [List.length_drop]; omega)]
          have s8 := fun W (h : RdI W (some ⟨g8, 0, none⟩) xs8) => sumInts_calls (some ⟨g8, 0, none⟩) mm cap8 xs8 l8 W h (by omega) b8
          have s9 := fun W (h : RdI W (some ⟨g9, k - mm, none⟩) xs9) => sumInts_calls (some ⟨g9, k - mm, none⟩) mm (cap9 - (k - mm)) xs9 l9 W h (by omega) b9
          have HS := Lib.hid (And.intro s8 (And.intro s9 (And.intro hfin hmm)))
          have c1 : w3.cell? ⟨w.heap.size + 1, 0, none⟩ = some (.int .i64 mm) := by rw [← hmm]; exact cell_kept_below HL3.out.below F5.out.2.2.1
          have hm0 : (0 : Int) ≤ mm := by omega
          have hm1 : (mm : Int) ≤ cap8 := by omega
          have hmk2 : (mm : Int) ≤ k := by omega
          have hw : wrap64 ((k : Int) - mm) = ((k - mm : Nat) : Int) := by rw [IntWalk.wrap64_in _ (by omega)]; omega
          have HW := Lib.hid hw
          clear hw s8 s9 hfin hmm hx8 hx9 l8 l9 b8 b9 bd1 bd2 hlo3 hhi3 hq1 hq2 hlo8 hhi8 St1 St2
          refine wp_region_held_drew (S := fun W => W.heap[w1.heap.size]? = some (.cells (openCells pr le mo gr A q.length c q r) 74) ∧ W.cell? ⟨w.heap.size + 1, 0, none⟩ = some (.int .i64 mm) ∧ RdI W (some ⟨g8, 0, none⟩) xs8 ∧ RdI W (some ⟨g9, k - mm, none⟩) xs9) (by kernel_rfl) ⟨HL3.out.blk, c1, ⟨r8.len, r8.at_⟩, ⟨r9.len, r9.at_⟩⟩ (fun hS => ?_)
          refine wpAnyH_take (i := 0) (oi := _) (v := .agg (openCells pr le mo gr A q.length c q r)) rfl (by kernel_rfl) (by kernel_rfl) (by kernel_rfl) (fun _ _ _ h => h) (yieldsIf_load_row (by rfl) _ _ rfl _ rfl _ (openCells pr le mo gr A q.length c q r) (0, 0) _ (fun W hW => hW.1) Tryd.underlying74 rfl (I74.out.1 r)) (by assumption) ?_
          simp only [Act.put, List.getElem_toArray, List.getElem_cons_succ, List.getElem_cons_zero, List.setIfInBounds_toArray, List.set_cons_zero, List.set_cons_succ]
          refine wpAnyH_take (i := 1) (oi := _) (v := .slice (some ⟨g8, 0, none⟩) k cap8) rfl (by kernel_rfl) (by kernel_rfl) (by kernel_rfl) (fun _ _ _ h => h) (Or.inl ⟨by rfl, fun W hW => ?_⟩) (by assumption) ?_
          · go_simp
          simp only [Act.put, List.getElem_toArray, List.getElem_cons_succ, List.getElem_cons_zero, List.setIfInBounds_toArray, List.set_cons_zero, List.set_cons_succ]
          refine wpAnyH_take (i := 2) (oi := _) (v := .int .i64 mm) rfl (by kernel_rfl) (by kernel_rfl) (by kernel_rfl) (fun _ _ _ h => h) (Or.inl ⟨by rfl, fun W hW => ?_⟩) (by assumption) ?_
          · have hc1 := hW.2.1
            go_simp
          simp only [Act.put, List.getElem_toArray, List.getElem_cons_succ, List.getElem_cons_zero, List.setIfInBounds_toArray, List.set_cons_zero, List.set_cons_succ]
          refine wpAnyH_take (i := 3) (oi := _) (v := .slice (some ⟨g8, 0, none⟩) mm cap8) rfl (by kernel_rfl) (by kernel_rfl) (by kernel_rfl) (fun _ _ _ h => h) (Or.inl ⟨by rfl, fun W hW => ?_⟩) (by assumption) ?_
          · go_simp
          simp only [Act.put, List.getElem_toArray, List.getElem_cons_succ, List.getElem_cons_zero, List.setIfInBounds_toArray, List.set_cons_zero, List.set_cons_succ]
          refine wpAnyH_take (i := 5) (oi := _) (v := .slice (some ⟨g9, 0, none⟩) k cap9) rfl (by kernel_rfl) (by kernel_rfl) (by kernel_rfl) (fun _ _ _ h => h) (Or.inl ⟨by rfl, fun W hW => ?_⟩) (by assumption) ?_
          · go_simp
          simp only [Act.put, List.getElem_toArray, List.getElem_cons_succ, List.getElem_cons_zero, List.setIfInBounds_toArray, List.set_cons_zero, List.set_cons_succ]
          refine wpAnyH_take (i := 6) (oi := _) (v := .slice (some ⟨g9, 0, none⟩) k cap9) rfl (by kernel_rfl) (by kernel_rfl) (by kernel_rfl) (fun _ _ _ h => h) (Or.inl ⟨by rfl, fun W hW => ?_⟩) (by assumption) ?_
          · go_simp
          simp only [Act.put, List.getElem_toArray, List.getElem_cons_succ, List.getElem_cons_zero, List.setIfInBounds_toArray, List.set_cons_zero, List.set_cons_succ]
          refine wpAnyH_take (i := 7) (oi := _) (v := .int .i64 k) rfl (by kernel_rfl) (by kernel_rfl) (by kernel_rfl) (fun _ _ _ h => h) (Or.inl ⟨by rfl, fun W hW => ?_⟩) (by assumption) ?_
          · go_simp
          simp only [Act.put, List.getElem_toArray, List.getElem_cons_succ, List.getElem_cons_zero, List.setIfInBounds_toArray, List.set_cons_zero, List.set_cons_succ]
          refine wpAnyH_take (i := 8) (oi := _) (v := .int .i64 mm) rfl (by kernel_rfl) (by kernel_rfl) (by kernel_rfl) (fun _ _ _ h => h) (Or.inl ⟨by rfl, fun W hW => ?_⟩) (by assumption) ?_
          · have hc1 := hW.2.1
            go_simp
          simp only [Act.put, List.getElem_toArray, List.getElem_cons_succ, List.getElem_cons_zero, List.setIfInBounds_toArray, List.set_cons_zero, List.set_cons_succ]
          refine wpAnyH_take (i := 9) (oi := _) (v := .int .i64 (k - mm : Nat)) rfl (by kernel_rfl) (by kernel_rfl) (by kernel_rfl) (fun _ _ _ h => h) (Or.inl ⟨by rfl, fun W hW => ?_⟩) (by assumption) ?_
          · go_simp
            exact (IntWalk.i64_left _).trans HW.out
          simp only [Act.put, List.getElem_toArray, List.getElem_cons_succ, List.getElem_cons_zero, List.setIfInBounds_toArray, List.set_cons_zero, List.set_cons_succ]
          refine wpAnyH_take (i := 10) (oi := _) (v := .slice (some ⟨g9, k - mm, none⟩) mm (cap9 - (k - mm))) rfl (by kernel_rfl) (by kernel_rfl) (by kernel_rfl) (fun _ _ _ h => h) (Or.inl ⟨by rfl, fun W hW => ?_⟩) (by assumption) ?_
          · go_simp
            omega
          simp only [Act.put, List.getElem_toArray, List.getElem_cons_succ, List.getElem_cons_zero, List.setIfInBounds_toArray, List.set_cons_zero, List.set_cons_succ]
          refine wpAnyH_ready (rs := [4]) (by kernel_rfl) (by simp) ?_
          refine AllReadyH.cons rfl (fun K hK => ?_) AllReadyH.nil
          go_simp
          refine (HS.out.1 _ hS.2.2.1).mono ?_
          rintro e w4_ ⟨rfl, rfl⟩
          refine hK.out _ _ hS (fun hS => ?_)
          clear hK K
          refine wpAnyH_ready (rs := [11]) (by kernel_rfl) (by simp) ?_
          refine AllReadyH.cons rfl (fun K hK => ?_) AllReadyH.nil
          go_simp
          refine (HS.out.2.1 _ hS.2.2.2).mono ?_
          rintro e w11_ ⟨rfl, rfl⟩
          refine hK.out _ _ hS (fun hS => ?_)
          clear hK K
          refine wpAnyH_take (i := 12) (oi := _) (v := .agg #[.int .i64 xs8.sum, .int .i64 xs9.sum]) rfl (by kernel_rfl) (by kernel_rfl) (by kernel_rfl) (fun _ _ _ h => h) (yieldsIf_build (by rfl) _ _ rfl [(0, .int .i64 xs8.sum), (1, .int .i64 xs9.sum)] (by kernel_rfl) (built27 _ _)) (by assumption) ?_
          simp only [Act.put, List.getElem_toArray, List.getElem_cons_succ, List.getElem_cons_zero, List.setIfInBounds_toArray, List.set_cons_zero, List.set_cons_succ]
          refine wpAnyH_ready (rs := [13]) (by kernel_rfl) (by simp) ?_
          refine AllReadyH.cons rfl (fun K hK => ?_) AllReadyH.nil
          go_simp
          refine (Knd.out r _ _ _).mono ?_
          rintro e w13_ ⟨rfl, hb13⟩
          refine hK.out _ _ ⟨below_heap hb13 hS.1, cell_kept_below hb13 hS.2.1, hS.2.2.1.below hb13, hS.2.2.2.below hb13⟩ (fun hS => ?_)
          clear hK K
          refine wpAnyH_take (i := 14) (oi := _) (v := .bool (kindOf pr le mo xs8.sum xs9.sum == 0)) rfl (by kernel_rfl) (by kernel_rfl) (by kernel_rfl) (fun _ _ _ h => h) (Or.inl ⟨by rfl, fun W hW => ?_⟩) (by assumption) ?_
          · go_simp
          simp only [Act.put, List.getElem_toArray, List.getElem_cons_succ, List.getElem_cons_zero, List.setIfInBounds_toArray, List.set_cons_zero, List.set_cons_succ]
          refine wpAnyH_take (i := 15) (oi := _) (v := .bool (kindOf pr le mo xs8.sum xs9.sum == 0)) rfl (by kernel_rfl) (by kernel_rfl) (by kernel_rfl) (fun _ _ _ h => h) (Or.inl ⟨by rfl, fun W hW => ?_⟩) (by assumption) ?_
          · go_simp
          simp only [Act.put, List.getElem_toArray, List.getElem_cons_succ, List.getElem_cons_zero, List.setIfInBounds_toArray, List.set_cons_zero, List.set_cons_succ]
          refine wpAnyH_take (i := 16) (oi := _) (v := .int .i64 0) rfl (by kernel_rfl) (by kernel_rfl) (by kernel_rfl) (fun _ _ _ h => h) (Or.inl ⟨by rfl, fun W hW => ?_⟩) (by assumption) ?_
          · go_simp
          simp only [Act.put, List.getElem_toArray, List.getElem_cons_succ, List.getElem_cons_zero, List.setIfInBounds_toArray, List.set_cons_zero, List.set_cons_succ]
          refine wpAnyH_done (by kernel_rfl) ?_ _
          go_wp2
          go_ret2
          have hb6 : Below w.heap.size w w3 := F5.out.2.1.trans (HL3.out.below.mono F5.out.2.1.size)
          exact ⟨hb6.trans ((Below.drew (Below.refl _ _)).trans hb13 |>.mono hb6.size), fun h => (by cases h), fun _ h => absurd (Hok2.out.symm.trans h) (by decide), fun _ _ => by rw [HS.out.2.2.1]; rfl⟩
end Go.Proofs.YtbbdbdamedaldaaDoor.Fl
end
