/-
  The reference for sets: Runs.
-/
import Derived.Test.YtejialnbelleeaaDoorRefG
namespace Go.Proofs.YtejialnbelleeaaDoor
open Go Go.RowKit

/-- The bytes of a set below k, as places. -/
def preF (s : Bs) : Nat → List (Fin 256)
  | 0 => []
  | k + 1 => if h : k < 256 ∧ s.getLsbD k = true then preF s k ++ [⟨k, h.1⟩] else preF s k
theorem preF_yes {s : Bs} {k : Nat} (hk : k < 256) (h : s.getLsbD k = true) : preF s (k + 1) = preF s k ++ [⟨k, hk⟩] := dif_pos ⟨hk, h⟩
theorem preF_no {s : Bs} {k : Nat} (h : s.getLsbD k = false) : preF s (k + 1) = preF s k := dif_neg (by rw [h]; simp)
theorem preF_up (s : Bs) : ∀ m k, k + m = 256 → preF s k ++ upS s m k = preF s 256
  | 0, k, h => by obtain rfl : k = 256 := by omega
                  simp [upS]
  | m + 1, k, h => by
    have ih := preF_up s m (k + 1) (by omega)
    have hk : k < 256 := by omega
    unfold upS
    rw [dif_pos hk]
    cases hs : s.getLsbD k with
    | true => rw [if_pos rfl, ← ih, preF_yes hk hs, List.append_assoc]; rfl
    | false => rw [if_neg (by decide), ← ih, preF_no hs]
theorem preF_all (s : Bs) : preF s 256 = bytesS s := (preF_up s 256 0 rfl).symm.trans (by simp [preF, bytesS])
theorem preF_map (s : Bs) : ∀ k, k ≤ 256 → (preF s k).map (·.val) = preS s k
  | 0, _ => rfl
  | k + 1, h => by
    rw [preS_succ]
    cases hs : s.getLsbD k with
    | true => rw [preF_yes (by omega) hs, if_pos rfl, List.map_append, preF_map s k (by omega)]; rfl
    | false => rw [preF_no hs, if_neg (by decide), preF_map s k (by omega)]
theorem preF_len (s : Bs) : ∀ k, (preF s k).length ≤ k
  | 0 => Nat.le_refl _
  | k + 1 => by
    have := preF_len s k
    unfold preF
    split
    · rw [List.length_append]; simp; omega
    · omega
theorem preF_last (s : Bs) : ∀ k, preF s k = [] ∨ ∃ p y, preF s k = p ++ [y] ∧ y.val < k ∧ s.getLsbD y.val = true
  | 0 => .inl rfl
  | k + 1 => by
    by_cases h : k < 256 ∧ s.getLsbD k = true
    · exact .inr ⟨_, _, preF_yes h.1 h.2, Nat.lt_succ_self k, h.2⟩
    · rw [show preF s (k + 1) = preF s k from dif_neg h]
      rcases preF_last s k with h1 | ⟨p, y, h1, h2, h3⟩
      · exact .inl h1
      · exact .inr ⟨p, y, h1, by omega, h3⟩
theorem last_run (p : List (Fin 256)) (y : Fin 256) : ∃ i a, runsU (p ++ [y]) = i ++ [(a, y.val)] := by
  rw [runsU_snoc]
  rcases List.eq_nil_or_concat (runsU p) with h | ⟨i, r, h⟩
  · exact ⟨[], y.val, by rw [h, runStep_nil]; rfl⟩
  · rw [h, List.concat_eq_append]
    by_cases h2 : r.2 + 1 = y.val
    · exact ⟨i, r.1, runStep_on _ _ _ h2⟩
    · exact ⟨i ++ [r], y.val, runStep_new _ _ _ h2⟩
/-- A byte whose neighbour below is not there begins a run. -/
theorem runs_begin {s : Bs} {k : Nat} (hk : k < 256) (h : s.getLsbD k = true) (h0 : k = 0 ∨ s.getLsbD (k - 1) = false) : runsU (preF s (k + 1)) = runsU (preF s k) ++ [(k, k)] := by
  rw [preF_yes hk h, runsU_snoc]
  rcases preF_last s k with h1 | ⟨p, y, h1, h2, h3⟩
  · rw [h1]; rfl
  · obtain ⟨i, a, hi⟩ := last_run p y
    rw [h1, hi]
    refine runStep_new _ _ _ ?_
    show ¬ y.val + 1 = k
    intro e
    rcases h0 with rfl | h0
    · omega
    · rw [show k - 1 = y.val by omega, h3] at h0; cases h0
/-- Else it goes on with the last. -/
theorem runs_on {s : Bs} {k : Nat} (hk : k < 256) (h : s.getLsbD k = true) (hp : 0 < k) (h0 : s.getLsbD (k - 1) = true) : ∃ i a, runsU (preF s k) = i ++ [(a, k - 1)] ∧ runsU (preF s (k + 1)) = i ++ [(a, k)] := by
  obtain ⟨j, rfl⟩ : ∃ j, k = j + 1 := ⟨k - 1, by omega⟩
  rw [Nat.add_sub_cancel] at h0
  obtain ⟨i, a, hi⟩ := last_run (preF s j) ⟨j, by omega⟩
  rw [← preF_yes (by omega) h0] at hi
  refine ⟨i, a, hi, ?_⟩
  rw [preF_yes hk h, runsU_snoc, hi]
  exact runStep_on _ _ _ rfl

set_option maxRecDepth 100000 in
set_option maxHeartbeats 8000000 in
theorem rruns_any (s : Bs) (w : World) :
    Calls Tryd.prog 24 #[setV s] w fun e w' => ∃ v, e = .returned v ∧ w'.ownsRow w.heap.size 32 2 v (runsS s).length (runsL (runsS s)) ∧ Below w.heap.size w w' := by
  obtain ⟨i0, hi, hz0, hz1, hz2⟩ := info_parts info_run
  have hfin : runsU (preF s 256) = runsS s := by rw [preF_all]; rfl
  rw [← hfin]
  clear hfin
  go_enter Tryd.func24, Tryd.ntmps24
  go_wp2
  generalize hwz : World.alloc w _ = wz
  have fS : wz.heap[w.heap.size]? = some (.cells (setC s) 24 (0, 0)) := by rw [← hwz]; exact heap_new _ _
  have y0 : Below w.heap.size w wz := by rw [← hwz]; exact (Below.refl _ _).alloc (Nat.le_refl _) _
  have hsz : w.heap.size + 1 = wz.heap.size := by rw [← hwz]; simp
  clear hwz
  go_loopw [3, 5] (fun v i wr => ∃ k : Nat, k ≤ 256 ∧ i = .int .i64 (k : Int) ∧ wr.heap[w.heap.size]? = some (.cells (setC s) 24 (0, 0)) ∧ wr.ownsRow (w.heap.size + 1) 32 2 v (runsU (preF s k)).length (runsL (runsU (preF s k))) ∧ Below w.heap.size w wr) (fun _ i _ => 256 - (intOf i).toNat)
  case atStart => exact ⟨0, by omega, rfl, fS, World.ownsRow_nil _ _ _ _, y0⟩
  case round =>
    obtain ⟨k, hk, rfl, gS, hrow, hx⟩ := hrel
    clear fS y0
    by_cases hlt : k < 256
    · have hlen : (runsU (preF s k)).length ≤ k := Nat.le_trans (runsU_length _) (preF_len s k)
      have HA := Lib.hid (rhas_any s k · hlt)
      have i1 : (k : Int) < 256 := by omega
      have i2 : (0 : Int) ≤ (k : Int) := by omega
      obtain ⟨q0, q1, q2, q3⟩ := cells4 gS
      have hszr := hx.size
      go_wp2_with fail
      refine (HA.out _).mono ?_
      rintro e w1 ⟨rfl, b1⟩
      have x1 := Ext.of_below b1 G0
      replace gS := ext_heap x1 gS (fun x => x)
      replace hrow := ownsRow_ext hrow x1
      replace hx := hx.trans (b1.mono hszr)
      have hsz1 := x1.size
      clear q0 q1 q2 q3 x1 b1
      cases hs : s.getLsbD k with
      | false =>
        have hst := Lib.hid (preF_no hs)
        go_wp2
        go_roundw
        case rel => exact ⟨k + 1, by omega, by go_num, gS, by rw [hst.out]; exact hrow, hx⟩
        case measure => first | (simp [intOf]; done) | (simp [intOf]; omega)
      | true =>
        by_cases hk0 : k = 0
        · subst hk0
          have HB := Lib.hid (runs_begin hlt hs (.inl rfl))
          generalize runsU (preF s 0) = R at *
          have hlR := runsL_length R
          have hlS := lt_of_block gS
          have hki : (R.length : Int) < 256 := by omega
          go_wp2_with (at_builtin; refine wpList_append_own _ rfl _ _ 25 rfl (w.heap.size + 1) 32 i0 (.agg #[.int .u8 0, .int .u8 0]) 2 2 Tryd.underlying25 hi hz0 hz1 hz2 rfl (by decide) _ _ _ rfl (hrow.alloc _) ⟨w1.heap.size, 0, none⟩ 1 1 [.int .u8 ((0 : Nat) : Int), .int .u8 0] rfl rfl (cells_two_new _ _ _ _) (by simp [Value.oneCell']) (by simp only [maxLen]; omega) (by omega) (by simp; omega) ?_; intro v' w5 hown hgrow _; obtain ⟨g', cap', rfl⟩ := ownsRow_succ hown; have hch := hown.cellAt (R.length * 2 + 1) (by omega); rw [List.getElem?_append_right (by omega), show R.length * 2 + 1 - (runsL R).length = 1 by omega] at hch; have hfz := fun j => hown.frozenAt j; have hll := hown.lt g' rfl)
          go_roundw
          case rel =>
            have hst := (hown.stored (R.length * 2 + 1) (.int .u8 ((0 : Nat) : Int))).1
            rw [set_last _ _ _ _ _ hlR] at hst
            have gS2 := (hgrow.block w.heap.size (by simp; omega) (fun e => by have := (hrow.lt _ e.symm).1; omega)).trans (heap_past gS _)
            have hx2 := (hx.alloc (by omega) _).grown hgrow (by simp; omega) (fun k hk => by have := (hrow.lt _ hk).1; omega)
            refine ⟨0 + 1, by omega, by go_num, (Below.heap_setCell _ _ _ _ (by simp; omega)).trans gS2, ?_, hx2.setCell (by first | omega | (simp; omega)) _⟩
            rw [HB.out, List.length_append, runsL, List.flatMap_append]
            exact hst
          case measure => first | (simp [intOf]; done) | (simp [intOf]; omega)
        · have HP := Lib.hid (rhas_any s (k - 1) · (by omega))
          have hki0 : (k : Int) - 1 = ((k - 1 : Nat) : Int) := by omega
          have hk1 : ((k : Int) == 0) = false := by simp; omega
          obtain ⟨q0, q1, q2, q3⟩ := cells4 gS
          go_wp2_with fail
          have hp := HP.out
          refine (hp _).mono ?_
          clear hp
          rintro e w2 ⟨rfl, b2⟩
          have x2 := Ext.of_below b2 G0
          replace gS := ext_heap x2 gS (fun x => x)
          replace hrow := ownsRow_ext hrow x2
          replace hx := hx.trans (b2.mono (by omega))
          have hsz2 := x2.size
          clear q0 q1 q2 q3 x2 b2
          cases hs1 : s.getLsbD (k - 1) with
          | false =>
            have HB := Lib.hid (runs_begin hlt hs (.inr hs1))
            generalize runsU (preF s k) = R at *
            have hlR := runsL_length R
            have hlS := lt_of_block gS
            have hki : (R.length : Int) < 256 := by omega
            go_wp2_with (at_builtin; refine wpList_append_own _ rfl _ _ 25 rfl (w.heap.size + 1) 32 i0 (.agg #[.int .u8 0, .int .u8 0]) 2 2 Tryd.underlying25 hi hz0 hz1 hz2 rfl (by decide) _ _ _ rfl (hrow.alloc _) ⟨w2.heap.size, 0, none⟩ 1 1 [.int .u8 (k : Int), .int .u8 0] rfl rfl (cells_two_new _ _ _ _) (by simp [Value.oneCell']) (by simp only [maxLen]; omega) (by omega) (by simp; omega) ?_; intro v' w5 hown hgrow _; obtain ⟨g', cap', rfl⟩ := ownsRow_succ hown; have hch := hown.cellAt (R.length * 2 + 1) (by omega); rw [List.getElem?_append_right (by omega), show R.length * 2 + 1 - (runsL R).length = 1 by omega] at hch; have hfz := fun j => hown.frozenAt j; have hll := hown.lt g' rfl)
            go_roundw
            case rel =>
              have hst := (hown.stored (R.length * 2 + 1) (.int .u8 (k : Int))).1
              rw [set_last _ _ _ _ _ hlR] at hst
              have gS2 := (hgrow.block w.heap.size (by simp; omega) (fun e => by have := (hrow.lt _ e.symm).1; omega)).trans (heap_past gS _)
              have hx2 := (hx.alloc (by omega) _).grown hgrow (by simp; omega) (fun k hk => by have := (hrow.lt _ hk).1; omega)
              refine ⟨k + 1, by omega, by go_num, (Below.heap_setCell _ _ _ _ (by simp; omega)).trans gS2, ?_, hx2.setCell (by first | omega | (simp; omega)) _⟩
              rw [HB.out, List.length_append, runsL, List.flatMap_append]
              exact hst
            case measure => first | (simp [intOf]; done) | (simp [intOf]; omega)
          | true =>
            obtain ⟨i, a, hR, hR'⟩ := runs_on hlt hs (by omega) hs1
            have HR' := Lib.hid hR'
            rw [hR] at hrow hlen
            clear hR hR'
            simp only [List.length_append, List.length_singleton] at hrow hlen
            obtain ⟨g, cap, rfl⟩ := ownsRow_succ hrow
            have hl2 := runsL_length i
            have hxs : runsL (i ++ [(a, k - 1)]) = runsL i ++ runL (a, k - 1) := by simp [runsL]
            rw [hxs] at hrow
            have hch := hrow.cellAt (i.length * 2 + 1) (by omega)
            rw [List.getElem?_append_right (by omega), show i.length * 2 + 1 - (runsL i).length = 1 by omega] at hch
            have hfz := fun j => hrow.frozenAt j
            have hll := hrow.lt g rfl
            have hki : (i.length : Int) < 256 := by omega
            go_wp2
            go_roundw
            case rel =>
              have hst := (hrow.stored (i.length * 2 + 1) (.int .u8 (k : Int))).1
              rw [set_last _ _ _ _ _ hl2] at hst
              refine ⟨k + 1, by omega, by go_num, (Below.heap_setCell _ _ _ _ (by simp; omega)).trans gS, ?_, hx.setCell (by first | omega | (simp; omega)) _⟩
              rw [HR'.out, List.length_append, runsL, List.flatMap_append]
              exact hst
            case measure => first | (simp [intOf]; done) | (simp [intOf]; omega)
    · obtain rfl : k = 256 := by omega
      go_wp2
      go_ret
      exact ⟨_, rfl, ownsRow_mono hrow (by omega), hx⟩

end Go.Proofs.YtejialnbelleeaaDoor
