/-
  The reference for sets: Span, Or, Less.
-/
import Derived.Test.YtejialnbelleeaaDoorRefB
namespace Go.Proofs.YtejialnbelleeaaDoor
open Go Go.RowKit

theorem zero_bools (w : World) : (zeroValue 85).run Tryd.prog w = .ok (.agg (boolsC fun _ => false)) w := by kernel_rfl
theorem info_bools (p : Nat → Bool) : (Tryd.prog.info? 85).map (·.size) = some (boolsC p).size := by rw [boolsC_size]; kernel_rfl

set_option maxRecDepth 100000 in
set_option maxHeartbeats 4000000 in
theorem rspan_any (lo hi : Nat) (w : World) (hhi : hi < 256) :
    Calls Tryd.prog 41 #[.int .i64 (lo : Int), .int .i64 (hi : Int)] w fun e w' => e = .returned (setV (spanS lo hi)) ∧ Below w.heap.size w w' := by
  have hz := zero_bools
  go_enter Tryd.func41, Tryd.ntmps41
  go_wp2
  generalize hwz : World.alloc (World.alloc w _) _ = wz
  have fR : wz.heap[w.heap.size]? = some (.cells (setC 0#256) 24 (0, 0)) := by rw [← hwz]; exact heap_two' w _ _
  have fB : wz.heap[w.heap.size + 1]? = some (.cells (boolsC fun _ => false) 85 (0, 0)) := by rw [← hwz]; exact heap_two w _ _
  have y0 : Ext G0 w wz := by rw [← hwz]; exact ((Ext.refl _ _).alloc _).alloc _
  clear hwz
  go_loopw [6] (fun i wr => ∃ k : Nat, lo ≤ k ∧ k ≤ max lo (hi + 1) ∧ i = .int .i64 (k : Int) ∧ wr.heap[w.heap.size]? = some (.cells (setC 0#256) 24 (0, 0)) ∧
      wr.heap[w.heap.size + 1]? = some (.cells (boolsC fun i => decide (lo ≤ i) && decide (i < k)) 85 (0, 0)) ∧ Ext G0 w wr) (fun i _ => hi + 1 - (intOf i).toNat)
  case atStart =>
    refine ⟨lo, Nat.le_refl _, by omega, rfl, fR, ?_, y0⟩
    rw [boolsC_congr (q := fun _ => false) (fun i _ => by rw [Bool.eq_iff_iff]; simp)]
    exact fB
  case round =>
    obtain ⟨k, hk1, hk2, rfl, gR, gB, hx⟩ := hrel
    clear fR fB y0
    by_cases hlt : k ≤ hi
    · have c0 := (blk_cell gB k).trans (boolsC_get _ k (by omega))
      have z := blk_free gB
      have hl := lt_of_block gB
      have i1 : (k : Int) < 256 := by omega
      have t1 : decide ((k : Int) ≤ (hi : Int)) = true := by simp; omega
      have hs := Lib.hid (boolsC_set (fun i => decide (lo ≤ i) && decide (i < k)) k true)
      generalize (decide (lo ≤ k) && decide (k < k)) = b0 at *
      go_wp2
      go_roundw
      case rel =>
        refine ⟨k + 1, by omega, by omega, by go_num, (Below.heap_setCell _ _ _ _ (by simp)).trans gR, ?_, hx.set (by simp) _⟩
        rw [blk_set gB, hs.out]
        rw [boolsC_congr (q := fun i => decide (lo ≤ i) && decide (i < k + 1)) (fun i _ => ?_)]
        by_cases e : i = k
        · subst e; simp; omega
        · rw [if_neg e, Bool.eq_iff_iff]; simp; omega
      case measure => simp [intOf]; omega
    · have hfin : boolsC (fun i => decide (lo ≤ i) && decide (i < k)) = boolsC fun i => decide (lo ≤ i) && decide (i ≤ hi) := boolsC_congr fun i _ => by rw [Bool.eq_iff_iff]; simp; omega
      rw [hfin] at gB
      clear hfin
      have t1 : decide ((k : Int) ≤ (hi : Int)) = false := by simp; omega
      go_wp2_with (first | (with_reducible refine wpList_load_row rfl 85 _ rfl (w.heap.size + 1) rfl _ _ _ _ gB Tryd.underlying85 rfl (info_bools _) ?_) | (go_at_call 58; refine (rof_any _ _).mono ?_; rintro e w2 ⟨rfl, hb2⟩; have gR2 := ext_heap (Ext.of_below hb2 G0) gR (fun x => x); obtain ⟨q0, q1, q2, q3⟩ := cells4 gR2; have zz := blk_free gR2; have hlR := lt_of_block gR2; have hx2 := hx.trans (Ext.of_below hb2 G0)))
      refine bodyPost_ret (v := setV (spanS lo hi)) (by simp [results, Tryd.results41, go_sem, spanS, q0, q1, q2, q3]) rfl ⟨rfl, ?_⟩
      exact ((((hx2.set (by simp) _).set (by simp) _).set (by simp) _).set (by simp) _).below

set_option maxRecDepth 100000 in
set_option maxHeartbeats 4000000 in
theorem ror_any (a b : Bs) (w : World) :
    Calls Tryd.prog 32 #[setV a, setV b] w fun e w' => e = .returned (setV (a ||| b)) ∧ Below w.heap.size w w' := by
  have hz := zero_bools
  obtain ⟨P, hP⟩ : ∃ P : Nat → Bool, P = fun i => a.getLsbD i || b.getLsbD i := ⟨_, rfl⟩
  have hres : ofP P = a ||| b := by
    apply bs_ext; intro i hi
    rw [ofP_bit, hP]
    simp only [hi, decide_true, Bool.true_and, BitVec.getLsbD_or]
  rw [← hres]
  clear hres
  replace hP := Lib.hid hP
  go_enter Tryd.func32, Tryd.ntmps32
  go_wp2
  generalize hwz : World.alloc (World.alloc (World.alloc (World.alloc w _) _) _) _ = wz
  have fA : wz.heap[w.heap.size]? = some (.cells (setC a) 24 (0, 0)) := by rw [← hwz]; exact heap_past (heap_past (heap_two' w _ _) _) _
  have fA' : wz.heap[w.heap.size + 1]? = some (.cells (setC b) 24 (0, 0)) := by rw [← hwz]; exact heap_past (heap_past (heap_two w _ _) _) _
  have fR : wz.heap[w.heap.size + 1 + 1]? = some (.cells (setC 0#256) 24 (0, 0)) := by rw [← hwz]; exact heap_past (heap_at _ _ _ (by simp)) _
  have fB : wz.heap[w.heap.size + 1 + 1 + 1]? = some (.cells (boolsC fun _ => false) 85 (0, 0)) := by rw [← hwz]; exact heap_at _ _ _ (by simp)
  have y0 : Ext G0 w wz := by rw [← hwz]; exact ((((Ext.refl _ _).alloc _).alloc _).alloc _).alloc _
  clear hwz
  go_loopw [7] (fun i wr => ∃ k : Nat, k ≤ 256 ∧ i = .int .i64 (k : Int) ∧ wr.heap[w.heap.size]? = some (.cells (setC a) 24 (0, 0)) ∧ wr.heap[w.heap.size + 1]? = some (.cells (setC b) 24 (0, 0)) ∧
      wr.heap[w.heap.size + 1 + 1]? = some (.cells (setC 0#256) 24 (0, 0)) ∧ wr.heap[w.heap.size + 1 + 1 + 1]? = some (.cells (boolsC fun i => decide (i < k) && P i) 85 (0, 0)) ∧ Ext G0 w wr) (fun i _ => 256 - (intOf i).toNat)
  case atStart =>
    refine ⟨0, by omega, rfl, fA, fA', fR, ?_, y0⟩
    rw [boolsC_congr (q := fun _ => false) (fun i _ => by simp)]
    exact fB
  case round =>
    obtain ⟨k, hk, rfl, gA, gA', gR, gB, hx⟩ := hrel
    clear fR fB fA fA' y0
    by_cases hlt : k < 256
    · have HA := Lib.hid (rhas_any a k · hlt)
      have HB := Lib.hid (rhas_any b k · hlt)
      have i1 : (k : Int) < 256 := by omega
      have hs := Lib.hid (boolsC_set (fun i => decide (i < k) && P i) k (P k))
      have hnew : boolsC (fun j => if j = k then (P k) else (fun i => decide (i < k) && P i) j) = boolsC fun i => decide (i < k + 1) && P i := boolsC_congr fun i _ => by
        by_cases e : i = k
        · subst e; simp
        · rw [if_neg e]
          have : decide (i < k) = decide (i < k + 1) := by rw [Bool.eq_iff_iff]; simp; omega
          simp only [this]
      have HN := Lib.hid hnew
      clear hnew
      obtain ⟨q0, q1, q2, q3⟩ := cells4 gA
      go_wp2_with fail
      refine (HA.out _).mono ?_
      rintro e w1 ⟨rfl, b1⟩
      have x1 := Ext.of_below b1 G0
      replace gA := ext_heap x1 gA (fun x => x)
      replace gA' := ext_heap x1 gA' (fun x => x)
      replace gR := ext_heap x1 gR (fun x => x)
      replace gB := ext_heap x1 gB (fun x => x)
      replace hx := hx.trans x1
      clear x1 b1 q0 q1 q2 q3
      obtain ⟨q0, q1, q2, q3⟩ := cells4 gA'
      have c0 := (blk_cell gB k).trans (boolsC_get _ k hlt)
      have z := blk_free gB
      have hl := lt_of_block gB
      cases ha : a.getLsbD k with
      | true =>
        have hv : P k = true := by rw [hP.out]; simp [ha]
        rw [hv] at hs HN
        clear hv
        go_wp2_with fail
        go_roundw
        case rel =>
          refine ⟨k + 1, by omega, by go_num, (Below.heap_setCell _ _ _ _ (by simp; omega)).trans gA, (Below.heap_setCell _ _ _ _ (by first | (simp; done) | (simp; omega))).trans gA', (Below.heap_setCell _ _ _ _ (by simp)).trans gR, ?_, hx.set (by simp; omega) _⟩
          rw [blk_set gB, hs.out, HN.out]
        case measure => simp [intOf]; omega
      | false =>
        go_wp2_with fail
        refine (HB.out _).mono ?_
        rintro e w2 ⟨rfl, b2⟩
        have x2 := Ext.of_below b2 G0
        replace gA := ext_heap x2 gA (fun x => x)
        replace gA' := ext_heap x2 gA' (fun x => x)
        replace gR := ext_heap x2 gR (fun x => x)
        replace gB := ext_heap x2 gB (fun x => x)
        replace hx := hx.trans x2
        clear x2 b2 q0 q1 q2 q3 c0 z hl
        have c0 := (blk_cell gB k).trans (boolsC_get _ k hlt)
        have z := blk_free gB
        have hl := lt_of_block gB
        have hv : P k = (b.getLsbD k) := by rw [hP.out]; simp [ha]
        rw [hv] at hs HN
        clear hv ha
        generalize b.getLsbD k = y at *
        go_wp2_with fail
        go_roundw
        case rel =>
          refine ⟨k + 1, by omega, by go_num, (Below.heap_setCell _ _ _ _ (by simp; omega)).trans gA, (Below.heap_setCell _ _ _ _ (by first | (simp; done) | (simp; omega))).trans gA', (Below.heap_setCell _ _ _ _ (by simp)).trans gR, ?_, hx.set (by simp; omega) _⟩
          rw [blk_set gB, hs.out, HN.out]
        case measure => simp [intOf]; omega
    · obtain rfl : k = 256 := by omega
      have hfin : boolsC (fun i => decide (i < 256) && P i) = boolsC P := boolsC_congr fun i hi => by simp [hi]
      rw [hfin] at gB
      clear hfin gA gA'
      go_wp2_with (first | (with_reducible refine wpList_load_row rfl 85 _ rfl (w.heap.size + 1 + 1 + 1) rfl _ _ _ _ gB Tryd.underlying85 rfl (info_bools _) ?_) | (go_at_call 58; refine (rof_any _ _).mono ?_; rintro e w2 ⟨rfl, hb2⟩; have gR2 := ext_heap (Ext.of_below hb2 G0) gR (fun x => x); obtain ⟨q0, q1, q2, q3⟩ := cells4 gR2; have zz := blk_free gR2; have hlR := lt_of_block gR2; have hx2 := hx.trans (Ext.of_below hb2 G0)))
      refine bodyPost_ret (v := setV _) (by simp [results, Tryd.results32, go_sem, q0, q1, q2, q3]) rfl ⟨rfl, ?_⟩
      exact ((((hx2.set (by simp; omega) _).set (by simp; omega) _).set (by simp; omega) _).set (by simp; omega) _).below
set_option maxRecDepth 100000 in
set_option maxHeartbeats 4000000 in
theorem rless_any (a b : Bs) (w : World) :
    Calls Tryd.prog 33 #[setV a, setV b] w fun e w' => e = .returned (setV (a &&& ~~~b)) ∧ Below w.heap.size w w' := by
  have hz := zero_bools
  obtain ⟨P, hP⟩ : ∃ P : Nat → Bool, P = fun i => a.getLsbD i && !b.getLsbD i := ⟨_, rfl⟩
  have hres : ofP P = a &&& ~~~b := by
    apply bs_ext; intro i hi
    rw [ofP_bit, hP]
    simp only [hi, decide_true, Bool.true_and, BitVec.getLsbD_and, BitVec.getLsbD_not]
  rw [← hres]
  clear hres
  replace hP := Lib.hid hP
  go_enter Tryd.func33, Tryd.ntmps33
  go_wp2
  generalize hwz : World.alloc (World.alloc (World.alloc (World.alloc w _) _) _) _ = wz
  have fA : wz.heap[w.heap.size]? = some (.cells (setC a) 24 (0, 0)) := by rw [← hwz]; exact heap_past (heap_past (heap_two' w _ _) _) _
  have fA' : wz.heap[w.heap.size + 1]? = some (.cells (setC b) 24 (0, 0)) := by rw [← hwz]; exact heap_past (heap_past (heap_two w _ _) _) _
  have fR : wz.heap[w.heap.size + 1 + 1]? = some (.cells (setC 0#256) 24 (0, 0)) := by rw [← hwz]; exact heap_past (heap_at _ _ _ (by simp)) _
  have fB : wz.heap[w.heap.size + 1 + 1 + 1]? = some (.cells (boolsC fun _ => false) 85 (0, 0)) := by rw [← hwz]; exact heap_at _ _ _ (by simp)
  have y0 : Ext G0 w wz := by rw [← hwz]; exact ((((Ext.refl _ _).alloc _).alloc _).alloc _).alloc _
  clear hwz
  go_loopw [7] (fun i wr => ∃ k : Nat, k ≤ 256 ∧ i = .int .i64 (k : Int) ∧ wr.heap[w.heap.size]? = some (.cells (setC a) 24 (0, 0)) ∧ wr.heap[w.heap.size + 1]? = some (.cells (setC b) 24 (0, 0)) ∧
      wr.heap[w.heap.size + 1 + 1]? = some (.cells (setC 0#256) 24 (0, 0)) ∧ wr.heap[w.heap.size + 1 + 1 + 1]? = some (.cells (boolsC fun i => decide (i < k) && P i) 85 (0, 0)) ∧ Ext G0 w wr) (fun i _ => 256 - (intOf i).toNat)
  case atStart =>
    refine ⟨0, by omega, rfl, fA, fA', fR, ?_, y0⟩
    rw [boolsC_congr (q := fun _ => false) (fun i _ => by simp)]
    exact fB
  case round =>
    obtain ⟨k, hk, rfl, gA, gA', gR, gB, hx⟩ := hrel
    clear fR fB fA fA' y0
    by_cases hlt : k < 256
    · have HA := Lib.hid (rhas_any a k · hlt)
      have HB := Lib.hid (rhas_any b k · hlt)
      have i1 : (k : Int) < 256 := by omega
      have hs := Lib.hid (boolsC_set (fun i => decide (i < k) && P i) k (P k))
      have hnew : boolsC (fun j => if j = k then (P k) else (fun i => decide (i < k) && P i) j) = boolsC fun i => decide (i < k + 1) && P i := boolsC_congr fun i _ => by
        by_cases e : i = k
        · subst e; simp
        · rw [if_neg e]
          have : decide (i < k) = decide (i < k + 1) := by rw [Bool.eq_iff_iff]; simp; omega
          simp only [this]
      have HN := Lib.hid hnew
      clear hnew
      obtain ⟨q0, q1, q2, q3⟩ := cells4 gA
      go_wp2_with fail
      refine (HA.out _).mono ?_
      rintro e w1 ⟨rfl, b1⟩
      have x1 := Ext.of_below b1 G0
      replace gA := ext_heap x1 gA (fun x => x)
      replace gA' := ext_heap x1 gA' (fun x => x)
      replace gR := ext_heap x1 gR (fun x => x)
      replace gB := ext_heap x1 gB (fun x => x)
      replace hx := hx.trans x1
      clear x1 b1 q0 q1 q2 q3
      obtain ⟨q0, q1, q2, q3⟩ := cells4 gA'
      have c0 := (blk_cell gB k).trans (boolsC_get _ k hlt)
      have z := blk_free gB
      have hl := lt_of_block gB
      cases ha : a.getLsbD k with
      | false =>
        have hv : P k = false := by rw [hP.out]; simp [ha]
        rw [hv] at hs HN
        clear hv
        go_wp2_with fail
        go_roundw
        case rel =>
          refine ⟨k + 1, by omega, by go_num, (Below.heap_setCell _ _ _ _ (by simp; omega)).trans gA, (Below.heap_setCell _ _ _ _ (by first | (simp; done) | (simp; omega))).trans gA', (Below.heap_setCell _ _ _ _ (by simp)).trans gR, ?_, hx.set (by simp; omega) _⟩
          rw [blk_set gB, hs.out, HN.out]
        case measure => simp [intOf]; omega
      | true =>
        go_wp2_with fail
        refine (HB.out _).mono ?_
        rintro e w2 ⟨rfl, b2⟩
        have x2 := Ext.of_below b2 G0
        replace gA := ext_heap x2 gA (fun x => x)
        replace gA' := ext_heap x2 gA' (fun x => x)
        replace gR := ext_heap x2 gR (fun x => x)
        replace gB := ext_heap x2 gB (fun x => x)
        replace hx := hx.trans x2
        clear x2 b2 q0 q1 q2 q3 c0 z hl
        have c0 := (blk_cell gB k).trans (boolsC_get _ k hlt)
        have z := blk_free gB
        have hl := lt_of_block gB
        have hv : P k = (!b.getLsbD k) := by rw [hP.out]; simp [ha]
        rw [hv] at hs HN
        clear hv ha
        generalize b.getLsbD k = y at *
        go_wp2_with fail
        go_roundw
        case rel =>
          refine ⟨k + 1, by omega, by go_num, (Below.heap_setCell _ _ _ _ (by simp; omega)).trans gA, (Below.heap_setCell _ _ _ _ (by first | (simp; done) | (simp; omega))).trans gA', (Below.heap_setCell _ _ _ _ (by simp)).trans gR, ?_, hx.set (by simp; omega) _⟩
          rw [blk_set gB, hs.out, HN.out]
        case measure => simp [intOf]; omega
    · obtain rfl : k = 256 := by omega
      have hfin : boolsC (fun i => decide (i < 256) && P i) = boolsC P := boolsC_congr fun i hi => by simp [hi]
      rw [hfin] at gB
      clear hfin gA gA'
      go_wp2_with (first | (with_reducible refine wpList_load_row rfl 85 _ rfl (w.heap.size + 1 + 1 + 1) rfl _ _ _ _ gB Tryd.underlying85 rfl (info_bools _) ?_) | (go_at_call 58; refine (rof_any _ _).mono ?_; rintro e w2 ⟨rfl, hb2⟩; have gR2 := ext_heap (Ext.of_below hb2 G0) gR (fun x => x); obtain ⟨q0, q1, q2, q3⟩ := cells4 gR2; have zz := blk_free gR2; have hlR := lt_of_block gR2; have hx2 := hx.trans (Ext.of_below hb2 G0)))
      refine bodyPost_ret (v := setV _) (by simp [results, Tryd.results33, go_sem, q0, q1, q2, q3]) rfl ⟨rfl, ?_⟩
      exact ((((hx2.set (by simp; omega) _).set (by simp; omega) _).set (by simp; omega) _).set (by simp; omega) _).below
end Go.Proofs.YtejialnbelleeaaDoor
