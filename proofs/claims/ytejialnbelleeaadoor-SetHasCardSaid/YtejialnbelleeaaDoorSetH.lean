/-
  Package set: Runs.
-/
import Derived.Test.YtejialnbelleeaaDoorSetG
namespace Go.Proofs.YtejialnbelleeaaDoor
open Go Go.RowKit Go.Shelf
attribute [local go_sem] Oper.semAt_some

abbrev RunN := Nat × Nat
abbrev runL (r : RunN) : List Value := [.int .u8 (r.1 : Int), .int .u8 (r.2 : Int)]
abbrev runsL (l : List RunN) : List Value := l.flatMap runL
/-- A byte that comes to runs. -/
def runStep (acc : List RunN) (b : Fin 256) : List RunN :=
  match acc.getLast? with
  | some r => if r.2 + 1 = b.val then acc.dropLast ++ [(r.1, b.val)] else acc ++ [(b.val, b.val)]
  | none => [(b.val, b.val)]
def runsU (l : List (Fin 256)) : List RunN := l.foldl runStep []
def runsS (s : Bs) : List RunN := runsU (bytesS s)
theorem runsU_snoc (pre : List (Fin 256)) (x : Fin 256) : runsU (pre ++ [x]) = runStep (runsU pre) x := by simp [runsU]
theorem runStep_nil (x : Fin 256) : runStep [] x = [(x.val, x.val)] := rfl
theorem runStep_on (i : List RunN) (r : RunN) (x : Fin 256) (h : r.2 + 1 = x.val) : runStep (i ++ [r]) x = i ++ [(r.1, x.val)] := by simp [runStep, h]
theorem runStep_new (i : List RunN) (r : RunN) (x : Fin 256) (h : ¬ r.2 + 1 = x.val) : runStep (i ++ [r]) x = i ++ [r] ++ [(x.val, x.val)] := by simp [runStep, h]
theorem runStep_length (acc : List RunN) (x : Fin 256) : (runStep acc x).length ≤ acc.length + 1 := by
  rcases List.eq_nil_or_concat acc with rfl | ⟨i, r, rfl⟩
  · simp [runStep_nil]
  · rw [List.concat_eq_append]
    by_cases h : r.2 + 1 = x.val
    · rw [runStep_on _ _ _ h]; simp
    · rw [runStep_new _ _ _ h]; simp
theorem runsU_length_aux : ∀ (l : List (Fin 256)) (acc : List RunN), (l.foldl runStep acc).length ≤ acc.length + l.length
  | [], acc => by simp
  | x :: l, acc => by
    have h1 := runsU_length_aux l (runStep acc x)
    have h2 := runStep_length acc x
    simp only [List.foldl_cons, List.length_cons]
    omega
theorem runsU_length (pre : List (Fin 256)) : (runsU pre).length ≤ pre.length := by
  have := runsU_length_aux pre []
  simpa [runsU] using this
theorem runStep_lt (acc : List RunN) (x : Fin 256) (ih : ∀ r ∈ acc, r.1 < 256 ∧ r.2 < 256) : ∀ r ∈ runStep acc x, r.1 < 256 ∧ r.2 < 256 := by
  have hx := x.isLt
  rcases List.eq_nil_or_concat acc with h | ⟨i, r, h⟩
  · rw [h, runStep_nil]; simp
  · rw [List.concat_eq_append] at h
    rw [h] at ih
    have hr := ih r (by simp)
    by_cases h2 : r.2 + 1 = x.val
    · rw [h, runStep_on _ _ _ h2]
      intro q hq
      rcases List.mem_append.1 hq with hq | hq
      · exact ih q (List.mem_append.2 (.inl hq))
      · simp at hq; subst hq; exact ⟨hr.1, hx⟩
    · rw [h, runStep_new _ _ _ h2]
      intro q hq
      rcases List.mem_append.1 hq with hq | hq
      · exact ih q hq
      · simp at hq; subst hq; exact ⟨hx, hx⟩
theorem runsU_lt_aux : ∀ (l : List (Fin 256)) (acc : List RunN), (∀ r ∈ acc, r.1 < 256 ∧ r.2 < 256) → ∀ r ∈ l.foldl runStep acc, r.1 < 256 ∧ r.2 < 256
  | [], _, h => h
  | x :: l, acc, h => runsU_lt_aux l (runStep acc x) (runStep_lt acc x h)
theorem runsU_lt (pre : List (Fin 256)) : ∀ r ∈ runsU pre, r.1 < 256 ∧ r.2 < 256 := runsU_lt_aux pre [] (by simp)

theorem runsL_length : ∀ (l : List RunN), (runsL l).length = l.length * 2
  | [] => rfl
  | r :: l => by
    have := runsL_length l
    simp only [runsL, List.flatMap_cons, List.length_append, List.length_cons] at *
    simp only [List.length_nil]
    omega
theorem set_last (l : List Value) (a b u : Value) (n : Nat) (h : l.length = n) : (l ++ [a, b]).set (n + 1) u = l ++ [a, u] := by
  subst h
  rw [List.set_append_right _ _ (by omega), show l.length + 1 - l.length = 1 by omega]
  rfl

theorem info_run : (Tryd.prog.info? 32).map (fun i => (i.zero, i.size, i.bytes)) = some (some (.agg #[.int .u8 0, .int .u8 0]), 2, 2) := by kernel_rfl

theorem cells_two_new (w : World) (a b : Value) (t : TypeId) : ∀ j u, [a, b][j]? = some u → (w.alloc (.cells #[a, b] t)).cell? ((⟨w.heap.size, 0, none⟩ : Addr).add j) = some u := by
  intro j u h
  have := blk_cell (heap_new w (.cells #[a, b] t)) j
  rw [show (⟨w.heap.size, 0, none⟩ : Addr).add j = ⟨w.heap.size, j, none⟩ by simp [Addr.add]; intro e; exact e.symm, this]
  rw [← h]
  exact List.getElem?_toArray

set_option maxRecDepth 100000 in
set_option maxHeartbeats 2000000 in
theorem runs_any (s : Bs) (w : World) (htab : TabOk w) :
    Calls Tryd.prog 11 #[setV s] w fun e w' => ∃ v, e = .returned v ∧ w'.ownsRow w.heap.size 32 2 v (runsS s).length (runsL (runsS s)) ∧ Below w.heap.size w w' := by
  obtain ⟨i0, hi, hz0, hz1, hz2⟩ := info_parts info_run
  unfold runsS
  refine (callsIn_wide (n := 7)).1 ?_
  refine callsIn_of_wp_marks Tryd.func11 rfl trivial ?_ rfl
  simp only [Tryd.ntmps11, List.size_toArray, List.length_cons, List.length_nil, Nat.reduceAdd, Nat.reduceSub, Array.replicate_succ, Array.replicate_zero, List.push_toArray, List.append_toArray, List.nil_append, List.cons_append]
  gi_wp2_with (refine ⟨trivial, ?_⟩; gi_at_call 48; refine (callsIn_wide.2 (each_any s _)).mono ?_; rintro e w' ⟨rfl, rfl⟩)
  generalize hw2 : World.alloc (World.alloc w _) _ = w2
  have hsz2 : w2.heap.size = w.heap.size + 2 := by rw [← hw2]; simp
  have hb2 : Below w.heap.size w w2 := by rw [← hw2]; exact ((Below.refl _ w).alloc (Nat.le_refl _) _).alloc (by simp) _
  have bO2 : Boxed w2 (w.heap.size + 1) 25 (.slice none 0 0) := by rw [← hw2]; exact heap_two w _ _
  generalize hw3 : World.alloc w2 _ = w3
  have hsz3 : w3.heap.size = w.heap.size + 3 := by rw [← hw3]; simp [hsz2]
  have hb3 : Below w.heap.size w w3 := by rw [← hw3]; exact hb2.alloc (by omega) _
  have bO3 : Boxed w3 (w.heap.size + 1) 25 (.slice none 0 0) := by rw [← hw3]; exact bO2.alloc _
  have bS3 : w3.heap[w2.heap.size]? = some (.cells (setC s) 24 (0, 0)) := by rw [← hw3]; exact heap_new _ _
  rw [hsz2] at bS3
  clear hw2 hw3 bO2 hb2 hsz2
  refine wpIn_rangeFunc_ownG rfl (by decide) (gf := 62) (lb := #[.pointer (some ⟨w.heap.size + 2, 0, none⟩)]) rfl trivial (enters_of Tryd.func62 (by kernel_rfl) rfl)
    (each1_stops s w.heap.size (w.heap.size + 2) 6 (by decide) w3 bS3 (htab.below hb3) (lt_of_block (htab.choose_spec))) (fun h k => h.trans k) (fun W l o o' hl _ _ _ => ext_putObj o' (by omega) (by omega)) (Below.refl _ _) (fun _ => rfl)
    (fun pre W => (∃ v, Boxed W (w.heap.size + 1) 25 v ∧ W.ownsRow w.heap.size 32 2 v (runsU pre).length (runsL (runsU pre)) ∧ True) ∧ (W.heap[w.heap.size + 2]? = some (.cells (setC s) 24 (0, 0)) ∧ Below w.heap.size w W))
    (fun _ _ _ => False)
    (OwnFrom.and (Own.from (holdsRow_own w.heap.size (w.heap.size + 1) 25 32 2 (fun pre => (runsU pre).length) (fun pre => runsL (runsU pre)) (fun _ _ => True)) _) (OwnFrom.and (Own.from (cells_own _ (fun _ => setC s) _) _) (ownFrom_below (Nat.le_refl _) (by omega))))
    (fun _ _ _ _ _ hs _ _ => hs)
    ⟨⟨_, bO3, World.ownsRow_nil _ _ _ _, trivial⟩, bS3, hb3⟩
    (fun x => { tmps := #[setV s, .pointer (some ⟨w.heap.size, 0, none⟩), .slice none 0 0, .pointer (some ⟨w.heap.size + 1, 0, none⟩), .int .u8 ((x.val : Nat) : Int), undef, setV s, .func (.func 62) #[] #[.pointer (some ⟨w.heap.size + 2, 0, none⟩)], .int .u8 ((x.val : Nat) : Int), undef, undef, undef, undef, undef, undef, undef, undef, undef, undef, undef, undef, undef, undef, undef, undef, undef, undef, undef, undef, undef, undef, undef, undef, undef, undef, undef, undef, undef, undef], defers := [] }) ?assign ?body ?done ?stop
  case assign =>
    intro l x W K hK
    gi_wp2
    exact hK
  case body =>
    rintro l pre x W ⟨⟨v, hv, hrow, -⟩, hS, hB⟩ hlt
    have hc := hv.cell
    have hsz := hB.size
    have hlt' := hS
    replace hlt' := lt_of_block hlt'
    have hlr := runsU_length pre
    have hst := runsU_snoc pre x
    rcases List.eq_nil_or_concat (runsU pre) with h | ⟨i, r, h⟩
    · rw [h] at hrow hlr hst
      rw [runStep_nil] at hst
      have hv0 : v = .slice none 0 0 ∨ ∃ g cap, v = .slice (some ⟨g, 0, none⟩) 0 cap := by
        rcases hrow.2 with ⟨e, _⟩ | ⟨g, cap, cur, e, _⟩
        · exact .inl e
        · exact .inr ⟨g, cap, e⟩
      obtain ⟨A, c, rfl⟩ : ∃ A c, v = .slice A 0 c := by
        rcases hv0 with rfl | ⟨g, cap, rfl⟩
        · exact ⟨_, _, rfl⟩
        · exact ⟨_, _, rfl⟩
      clear hv0
      gi_wp2_with (gi_at_builtin; refine wpListIn_append_own _ rfl _ _ 25 rfl w.heap.size 32 i0 (.agg #[.int .u8 0, .int .u8 0]) 2 2 Tryd.underlying25 hi hz0 hz1 hz2 rfl (by decide) _ _ _ rfl (hrow.alloc _) ⟨W.heap.size, 0, none⟩ 1 1 [.int .u8 ((x.val : Nat) : Int), .int .u8 ((x.val : Nat) : Int)] rfl rfl (cells_two_new _ _ _ _) (by simp [Value.oneCell']) (by simp only [maxLen]; omega) (by omega) (by simp; omega) ?_; intro v' w1 hown' hgrow _; obtain ⟨g', cap', rfl⟩ := ownsRow_succ hown'; obtain ⟨hv1, hv2, hr2, hk2, hb2⟩ := hv.appended (by decide) hrow hB.size (by omega) hown' hgrow; have hc1 := hv1.cell; have hf1 := hv1.frozen)
      have hS1 : w1.heap[w.heap.size + 2]? = some (.cells (setC s) 24 (0, 0)) := (hgrow.block _ (by simp; omega) (cells_not_row hS (by decide) hrow)).trans (heap_past hS _)
      have hS2 := (Below.heap_setCell w1 ⟨w.heap.size + 1, 0, none⟩ (.slice (some ⟨g', 0, none⟩) (0 + 1) cap') (w.heap.size + 2) (by simp)).trans hS1
      exact ⟨hk2.from _, ext_of_below_cells hb2 hS hS2, ⟨_, hv2, by rw [hst]; simpa [runsL] using hr2, trivial⟩, hS2, hB.trans hb2⟩
    · rw [List.concat_eq_append] at h
      have hlt2 := runsU_lt pre
      rw [h] at hrow hlr hst hlt2
      have hr := hlt2 r (by simp)
      clear hlt2
      simp only [List.length_append, List.length_singleton] at hrow hlr
      obtain ⟨g, cap, rfl⟩ := ownsRow_succ hrow
      have hl2 := runsL_length i
      have hxs : runsL (i ++ [r]) = runsL i ++ runL r := by simp [runsL]
      rw [hxs] at hrow
      obtain ⟨lo, hh⟩ := r
      have hch := hrow.cellAt (i.length * 2 + 1) (by omega)
      rw [List.getElem?_append_right (by omega), show i.length * 2 + 1 - (runsL i).length = 1 by omega] at hch
      have hfz := fun j => hrow.frozenAt j
      have h0x : (0 : Int) ≤ ((x.val : Nat) : Int) := by omega
      have h1x : ((x.val : Nat) : Int) < 256 := by have := x.isLt; omega
      have h0h : (0 : Int) ≤ (hh : Int) := by omega
      have h1h : (hh : Int) < 256 := by have := hr.2; omega
      have hki : (i.length : Int) < 256 := by omega
      by_cases hon : hh + 1 = x.val
      · have hon' : (hh : Int) + 1 = ((x.val : Nat) : Int) := by omega
        rw [runStep_on _ _ _ hon] at hst
        gi_wp2
        have hst' := hrow.stored (i.length * 2 + 1) (.int .u8 ((x.val : Nat) : Int))
        rw [set_last _ _ _ _ _ hl2] at hst'
        have hgl := hrow.lt g rfl
        have hneS : w.heap.size + 2 ≠ g := fun e => cells_not_row hS (by decide) hrow (by rw [e]; rfl)
        have hS2 := (Below.heap_setCell W ⟨g, i.length * 2 + 1, none⟩ (.int .u8 ((x.val : Nat) : Int)) (w.heap.size + 2) hneS).trans hS
        have hb2 : Below w.heap.size W (W.setCell ⟨g, i.length * 2 + 1, none⟩ (.int .u8 ((x.val : Nat) : Int))) := (Below.refl _ W).setCell hgl.1 _
        have hrw : (W.setCell ⟨g, i.length * 2 + 1, none⟩ (.int .u8 ((x.val : Nat) : Int))).ownsRow w.heap.size 32 2 (.slice (some ⟨g, 0, none⟩) (i.length + 1) cap) (runsU (pre ++ [x])).length (runsL (runsU (pre ++ [x]))) := by
          rw [hst, List.length_append, runsL, List.flatMap_append]
          exact hst'.1
        exact ⟨(KeepsOthers.setCell _ _ _).from _, ext_of_below_cells hb2 hS hS2, ⟨_, hv.kept hst'.2 (hv.not_row (by decide) hrow), hrw⟩, hS2, hB.trans hb2⟩
      · have hon' : ¬ (hh : Int) + 1 = ((x.val : Nat) : Int) := by omega
        rw [runStep_new _ _ _ hon] at hst
        gi_wp2_with (gi_at_builtin; refine wpListIn_append_own _ rfl _ _ 25 rfl w.heap.size 32 i0 (.agg #[.int .u8 0, .int .u8 0]) 2 2 Tryd.underlying25 hi hz0 hz1 hz2 rfl (by decide) _ _ _ rfl (hrow.alloc _) ⟨W.heap.size, 0, none⟩ 1 1 [.int .u8 ((x.val : Nat) : Int), .int .u8 ((x.val : Nat) : Int)] rfl rfl (cells_two_new _ _ _ _) (by simp [Value.oneCell']) (by simp only [maxLen]; omega) (by omega) (by simp; omega) ?_; intro v' w1 hown' hgrow _; obtain ⟨g', cap', rfl⟩ := ownsRow_succ hown'; obtain ⟨hv1, hv2, hr2, hk2, hb2⟩ := hv.appended (by decide) hrow hB.size (by omega) hown' hgrow; have hc1 := hv1.cell; have hf1 := hv1.frozen)
        have hS1 : w1.heap[w.heap.size + 2]? = some (.cells (setC s) 24 (0, 0)) := (hgrow.block _ (by simp; omega) (cells_not_row hS (by decide) hrow)).trans (heap_past hS _)
        have hS2 := (Below.heap_setCell w1 ⟨w.heap.size + 1, 0, none⟩ (.slice (some ⟨g', 0, none⟩) (i.length + 1 + 1) cap') (w.heap.size + 2) (by simp)).trans hS1
        have hrw : (w1.setCell ⟨w.heap.size + 1, 0, none⟩ (.slice (some ⟨g', 0, none⟩) (i.length + 1 + 1) cap')).ownsRow w.heap.size 32 2 (.slice (some ⟨g', 0, none⟩) (i.length + 1 + 1) cap') (runsU (pre ++ [x])).length (runsL (runsU (pre ++ [x]))) := by
          rw [hst, List.length_append, List.length_append, runsL, List.flatMap_append, List.flatMap_append]
          exact hr2
        exact ⟨hk2.from _, ext_of_below_cells hb2 hS hS2, ⟨_, hv2, hrw⟩, hS2, hB.trans hb2⟩
  case done =>
    rintro D ys W hD rfl ⟨⟨v, hv, hrow, -⟩, hS, hB⟩ hK
    have hc := hv.cell
    gi_wp2
    refine ⟨by simp, .inl ⟨_, _, rfl, run_takeDeferred hK, ?_⟩⟩
    exact ⟨_, results_tmp rfl _ _ _, v, rfl, ownsRow_putObj hrow _ hK rfl, hB.trans (belowK_b (w := w3) (by omega) W D _ _ hD hK rfl rfl)⟩
  case stop =>
    rintro D c pre W _ _ h _
    exact h.elim

end Go.Proofs.YtejialnbelleeaaDoor
