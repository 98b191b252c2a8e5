/-
  The reference for sets: among, Fold. Printed by wip/tools/mk_refe.py.
-/
import Derived.Test.YtejialnbelleeaaDoorRefC
import Derived.Test.YtejialnbelleeaaDoorSetP
namespace Go.Proofs.YtejialnbelleeaaDoor
open Go Go.RowKit

theorem among_any (b lo hi : Int) (w : World) :
    Calls Tryd.prog 59 #[.int .i64 b, .int .i64 lo, .int .i64 hi] w fun e w' => e = .returned (.bool (decide (lo ≤ b) && decide (b ≤ hi))) ∧ w = w' := by
  by_cases h : lo ≤ b
  · rw [decide_eq_true h, Bool.true_and]
    go_enter Tryd.func59, Tryd.ntmps59
    go_wp2
    go_ret
    exact ⟨rfl, rfl⟩
  · rw [decide_eq_false h, Bool.false_and]
    go_enter Tryd.func59, Tryd.ntmps59
    go_wp2
    go_ret
    exact ⟨rfl, rfl⟩

/-- What is told after k bytes. -/
def foldK (s : Bs) (k i : Nat) : Bool :=
  (decide (i < k) && s.getLsbD i) || ((decide (97 ≤ i) && decide (i ≤ 122)) && (decide (i - 32 < k) && s.getLsbD (i - 32))) || ((decide (65 ≤ i) && decide (i ≤ 90)) && (decide (i + 32 < k) && s.getLsbD (i + 32)))
theorem foldK_zero (s : Bs) (i : Nat) : foldK s 0 i = false := by unfold foldK; simp
theorem letters_bit (i : Nat) (h : i < 256) : letters.getLsbD i = (decide (65 ≤ i) && decide (i ≤ 90) || decide (97 ≤ i) && decide (i ≤ 122)) := by
  have : ∀ x : Fin 256, letters.getLsbD x.val = (decide (65 ≤ x.val) && decide (x.val ≤ 90) || decide (97 ≤ x.val) && decide (x.val ≤ 122)) := by decide +kernel
  exact this ⟨i, h⟩
theorem xor_upper (i : Nat) (h1 : 65 ≤ i) (h2 : i ≤ 90) : i ^^^ 32 = i + 32 := by
  have : ∀ x : Fin 256, 65 ≤ x.val → x.val ≤ 90 → x.val ^^^ 32 = x.val + 32 := by decide +kernel
  exact this ⟨i, by omega⟩ h1 h2
theorem xor_lower (i : Nat) (h1 : 97 ≤ i) (h2 : i ≤ 122) : i ^^^ 32 = i - 32 := by
  have : ∀ x : Fin 256, 97 ≤ x.val → x.val ≤ 122 → x.val ^^^ 32 = x.val - 32 := by decide +kernel
  exact this ⟨i, by omega⟩ h1 h2
theorem foldK_all (s : Bs) (i : Nat) (h : i < 256) : foldK s 256 i = (foldS s).getLsbD i := by
  rw [foldS_bit s i h, letters_bit i h]
  unfold foldK
  rw [decide_eq_true h, Bool.true_and]
  by_cases u : 65 ≤ i ∧ i ≤ 90
  · rw [xor_upper i u.1 u.2, decide_eq_true u.1, decide_eq_true u.2, decide_eq_false (show ¬ 97 ≤ i by omega), decide_eq_true (show i + 32 < 256 by omega)]
    simp
  · by_cases l : 97 ≤ i ∧ i ≤ 122
    · rw [xor_lower i l.1 l.2, decide_eq_true l.1, decide_eq_true l.2, decide_eq_false (show ¬ i ≤ 90 by omega), decide_eq_true (show i - 32 < 256 by omega)]
      simp
    · have e1 : (decide (65 ≤ i) && decide (i ≤ 90)) = false := by simp; omega
      have e2 : (decide (97 ≤ i) && decide (i ≤ 122)) = false := by simp; omega
      rw [e1, e2]
      simp
theorem lt_succ_bit (s : Bs) (j k : Nat) : (decide (j < k + 1) && s.getLsbD j) = ((decide (j < k) && s.getLsbD j) || (s.getLsbD k && decide (j = k))) := by
  by_cases e : j = k
  · subst e; simp
  · have : decide (j < k + 1) = decide (j < k) := by rw [Bool.eq_iff_iff]; simp; omega
    rw [this]; simp [e]
theorem foldK_succ (s : Bs) (k i : Nat) : foldK s (k + 1) i = (foldK s k i || (s.getLsbD k && (decide (i = k) || ((decide (97 ≤ i) && decide (i ≤ 122)) && decide (i - 32 = k)) || ((decide (65 ≤ i) && decide (i ≤ 90)) && decide (i + 32 = k))))) := by
  unfold foldK
  rw [lt_succ_bit s i k, lt_succ_bit s (i - 32) k, lt_succ_bit s (i + 32) k]
  generalize s.getLsbD k = a
  generalize (decide (i < k) && s.getLsbD i) = b
  generalize (decide (i - 32 < k) && s.getLsbD (i - 32)) = c
  generalize (decide (i + 32 < k) && s.getLsbD (i + 32)) = d
  generalize (decide (97 ≤ i) && decide (i ≤ 122)) = e
  generalize (decide (65 ≤ i) && decide (i ≤ 90)) = f
  generalize decide (i = k) = g
  generalize decide (i - 32 = k) = h
  generalize decide (i + 32 = k) = j
  cases a <;> cases e <;> cases f <;> simp <;> ac_rfl
/-- A round without one of the letters. -/
theorem fold_none (s : Bs) (k : Nat) (b : Bool) (h : s.getLsbD k = true → ¬ (65 ≤ k ∧ k ≤ 90) ∧ ¬ (97 ≤ k ∧ k ≤ 122)) (hb : b = (foldK s k k || s.getLsbD k)) :
    boolsC (fun j => if j = k then b else foldK s k j) = boolsC (foldK s (k + 1)) := boolsC_congr fun i _ => by
  rw [foldK_succ, hb]
  cases hs : s.getLsbD k with
  | false => by_cases e : i = k <;> simp [e]
  | true =>
    have := h hs
    by_cases e : i = k
    · simp [e]
    · have e1 : ((decide (97 ≤ i) && decide (i ≤ 122)) && decide (i - 32 = k)) = false := by simp; omega
      have e2 : ((decide (65 ≤ i) && decide (i ≤ 90)) && decide (i + 32 = k)) = false := by simp; omega
      rw [e1, e2]; simp [e]
theorem fold_upper (s : Bs) (k : Nat) (h : s.getLsbD k = true) (h1 : 65 ≤ k) (h2 : k ≤ 90) :
    boolsC (fun j => if j = k + 32 then true else (fun j => if j = k then true else foldK s k j) j) = boolsC (foldK s (k + 1)) := boolsC_congr fun i _ => by
  rw [foldK_succ, h]
  by_cases e : i = k
  · simp [e]
  · by_cases e' : i = k + 32
    · have e1 : ((decide (97 ≤ i) && decide (i ≤ 122)) && decide (i - 32 = k)) = true := by simp; omega
      rw [e1]; simp [e']
    · have e1 : ((decide (97 ≤ i) && decide (i ≤ 122)) && decide (i - 32 = k)) = false := by simp; omega
      have e2 : ((decide (65 ≤ i) && decide (i ≤ 90)) && decide (i + 32 = k)) = false := by simp; omega
      rw [e1, e2]; simp [e, e']
theorem fold_lower (s : Bs) (k : Nat) (h : s.getLsbD k = true) (h1 : 97 ≤ k) (h2 : k ≤ 122) :
    boolsC (fun j => if j = k - 32 then true else (fun j => if j = k then true else foldK s k j) j) = boolsC (foldK s (k + 1)) := boolsC_congr fun i _ => by
  rw [foldK_succ, h]
  by_cases e : i = k
  · simp [e]
  · by_cases e' : i = k - 32
    · have e1 : ((decide (65 ≤ i) && decide (i ≤ 90)) && decide (i + 32 = k)) = true := by simp; omega
      rw [e1]; simp [e']
    · have e1 : ((decide (97 ≤ i) && decide (i ≤ 122)) && decide (i - 32 = k)) = false := by simp; omega
      have e2 : ((decide (65 ≤ i) && decide (i ≤ 90)) && decide (i + 32 = k)) = false := by simp; omega
      rw [e1, e2]; simp [e, e']

set_option maxRecDepth 100000 in
set_option maxHeartbeats 16000000 in
theorem rfold_any (s : Bs) (w : World) :
    Calls Tryd.prog 36 #[setV s] w fun e w' => e = .returned (setV (foldS s)) ∧ Below w.heap.size w w' := by
  have hz := zero_bools
  obtain ⟨P, hP⟩ : ∃ P : Nat → Nat → Bool, P = foldK s := ⟨_, rfl⟩
  have hres : ofP (P 256) = foldS s := by
    apply bs_ext; intro i hi
    rw [ofP_bit, hP, foldK_all s i hi]
    simp [hi]
  rw [← hres]
  clear hres
  have h0 : boolsC (fun _ => false) = boolsC (P 0) := by rw [hP]; exact boolsC_congr fun i _ => (foldK_zero s i).symm
  replace hP := Lib.hid hP
  go_enter Tryd.func36, Tryd.ntmps36
  go_wp2
  generalize hwz : World.alloc (World.alloc (World.alloc w _) _) _ = wz
  have fA : wz.heap[w.heap.size]? = some (.cells (setC s) 24 (0, 0)) := by rw [← hwz]; exact heap_past (heap_two' w _ _) _
  have fR : wz.heap[w.heap.size + 1]? = some (.cells (setC 0#256) 24 (0, 0)) := by rw [← hwz]; exact heap_past (heap_two w _ _) _
  have fB : wz.heap[w.heap.size + 1 + 1]? = some (.cells (boolsC (P 0)) 85 (0, 0)) := by rw [← hwz, ← h0]; exact heap_at _ _ _ (by simp)
  have y0 : Ext G0 w wz := by rw [← hwz]; exact (((Ext.refl _ _).alloc _).alloc _).alloc _
  clear hwz h0
  go_loopw [5] (fun i wr => ∃ k : Nat, k ≤ 256 ∧ i = .int .i64 (k : Int) ∧ wr.heap[w.heap.size]? = some (.cells (setC s) 24 (0, 0)) ∧ wr.heap[w.heap.size + 1]? = some (.cells (setC 0#256) 24 (0, 0)) ∧
      wr.heap[w.heap.size + 1 + 1]? = some (.cells (boolsC (P k)) 85 (0, 0)) ∧ Ext G0 w wr) (fun i _ => 256 - (intOf i).toNat)
  case atStart => exact ⟨0, by omega, rfl, fA, fR, fB, y0⟩
  case round =>
    obtain ⟨k, hk, rfl, gA, gR, gB, hx⟩ := hrel
    clear fR fB fA y0
    by_cases hlt : k < 256
    · have HA := Lib.hid (rhas_any s k · hlt)
      have HM := Lib.hid (among_any k)
      have i1 : (k : Int) < 256 := by omega
      have hcase : (s.getLsbD k = false) ∨ (s.getLsbD k = true ∧ ¬ (65 ≤ k ∧ k ≤ 90) ∧ ¬ (97 ≤ k ∧ k ≤ 122)) ∨ (s.getLsbD k = true ∧ 65 ≤ k ∧ k ≤ 90) ∨ (s.getLsbD k = true ∧ 97 ≤ k ∧ k ≤ 122) := by
        cases s.getLsbD k <;> simp <;> omega
      have hcell := boolsC_get (P k) k hlt
      rcases hcase with hs | ⟨hs, hn⟩ | ⟨hs, h1, h2⟩ | ⟨hs, h1, h2⟩ <;> cases hp : P k k
      · rw [hp] at hcell
        have c0 := (blk_cell gB k).trans hcell
        have z := blk_free gB
        have hl := lt_of_block gB
        obtain ⟨q0, q1, q2, q3⟩ := cells4 gA
        go_wp2_with fail
        refine (HA.out _).mono ?_
        rintro e w1 ⟨rfl, b1⟩
        have x1 := Ext.of_below b1 G0
        replace gA := ext_heap x1 gA (fun x => x)
        replace gR := ext_heap x1 gR (fun x => x)
        replace gB := ext_heap x1 gB (fun x => x)
        replace hx := hx.trans x1
        rw [hs]
        clear x1 b1 q0 q1 q2 q3
        clear c0 z hl
        have c0 := (blk_cell gB k).trans hcell
        have z := blk_free gB
        have hl := lt_of_block gB
        obtain ⟨q0, q1, q2, q3⟩ := cells4 gA
        go_wp2_with fail
        have gB2 := blk_set gB (k) (.bool false)
        generalize hwz : World.setCell _ ⟨w.heap.size + 1 + 1, k, none⟩ _ = wz
        replace gA : wz.heap[w.heap.size]? = some (.cells (setC s) 24 (0, 0)) := by rw [← hwz]; exact (Below.heap_setCell _ _ _ _ (by first | (simp; done) | (simp; omega))).trans gA
        replace gR : wz.heap[w.heap.size + 1]? = some (.cells (setC 0#256) 24 (0, 0)) := by rw [← hwz]; exact (Below.heap_setCell _ _ _ _ (by simp)).trans gR
        replace hx : Ext G0 w wz := by rw [← hwz]; exact hx.set (by simp; omega) _
        rw [hwz] at gB2
        replace gB := gB2
        clear hwz gB2
        rw [boolsC_set] at gB
        clear q0 q1 q2 q3 c0 z hl
        refine (HA.out _).mono ?_
        rintro e w2 ⟨rfl, b1⟩
        have x1 := Ext.of_below b1 G0
        replace gA := ext_heap x1 gA (fun x => x)
        replace gR := ext_heap x1 gR (fun x => x)
        replace gB := ext_heap x1 gB (fun x => x)
        replace hx := hx.trans x1
        rw [hs]
        clear x1 b1
        obtain ⟨q0, q1, q2, q3⟩ := cells4 gA
        go_wp2_with fail
        refine (HA.out _).mono ?_
        rintro e w3 ⟨rfl, b1⟩
        have x1 := Ext.of_below b1 G0
        replace gA := ext_heap x1 gA (fun x => x)
        replace gR := ext_heap x1 gR (fun x => x)
        replace gB := ext_heap x1 gB (fun x => x)
        replace hx := hx.trans x1
        rw [hs]
        clear x1 b1 q0 q1 q2 q3
        rw [hP.out, fold_none s k _ (fun h => by rw [hs] at h; cases h) (by rw [hs, ← hP.out, hp]; rfl), ← hP.out] at gB
        go_wp2_with fail
        go_roundw
        case rel => exact ⟨k + 1, by omega, by go_num, gA, gR, gB, hx⟩
        case measure => simp [intOf]; omega
      · rw [hp] at hcell
        have c0 := (blk_cell gB k).trans hcell
        have z := blk_free gB
        have hl := lt_of_block gB
        obtain ⟨q0, q1, q2, q3⟩ := cells4 gA
        go_wp2_with fail
        have gB2 := blk_set gB (k) (.bool true)
        generalize hwz : World.setCell _ ⟨w.heap.size + 1 + 1, k, none⟩ _ = wz
        replace gA : wz.heap[w.heap.size]? = some (.cells (setC s) 24 (0, 0)) := by rw [← hwz]; exact (Below.heap_setCell _ _ _ _ (by first | (simp; done) | (simp; omega))).trans gA
        replace gR : wz.heap[w.heap.size + 1]? = some (.cells (setC 0#256) 24 (0, 0)) := by rw [← hwz]; exact (Below.heap_setCell _ _ _ _ (by simp)).trans gR
        replace hx : Ext G0 w wz := by rw [← hwz]; exact hx.set (by simp; omega) _
        rw [hwz] at gB2
        replace gB := gB2
        clear hwz gB2
        rw [boolsC_set] at gB
        clear q0 q1 q2 q3 c0 z hl
        refine (HA.out _).mono ?_
        rintro e w2 ⟨rfl, b1⟩
        have x1 := Ext.of_below b1 G0
        replace gA := ext_heap x1 gA (fun x => x)
        replace gR := ext_heap x1 gR (fun x => x)
        replace gB := ext_heap x1 gB (fun x => x)
        replace hx := hx.trans x1
        rw [hs]
        clear x1 b1
        obtain ⟨q0, q1, q2, q3⟩ := cells4 gA
        go_wp2_with fail
        refine (HA.out _).mono ?_
        rintro e w3 ⟨rfl, b1⟩
        have x1 := Ext.of_below b1 G0
        replace gA := ext_heap x1 gA (fun x => x)
        replace gR := ext_heap x1 gR (fun x => x)
        replace gB := ext_heap x1 gB (fun x => x)
        replace hx := hx.trans x1
        rw [hs]
        clear x1 b1 q0 q1 q2 q3
        rw [hP.out, fold_none s k _ (fun h => by rw [hs] at h; cases h) (by rw [hs, ← hP.out, hp]; rfl), ← hP.out] at gB
        go_wp2_with fail
        go_roundw
        case rel => exact ⟨k + 1, by omega, by go_num, gA, gR, gB, hx⟩
        case measure => simp [intOf]; omega
      · rw [hp] at hcell
        have c0 := (blk_cell gB k).trans hcell
        have z := blk_free gB
        have hl := lt_of_block gB
        obtain ⟨q0, q1, q2, q3⟩ := cells4 gA
        go_wp2_with fail
        refine (HA.out _).mono ?_
        rintro e w1 ⟨rfl, b1⟩
        have x1 := Ext.of_below b1 G0
        replace gA := ext_heap x1 gA (fun x => x)
        replace gR := ext_heap x1 gR (fun x => x)
        replace gB := ext_heap x1 gB (fun x => x)
        replace hx := hx.trans x1
        rw [hs]
        clear x1 b1 q0 q1 q2 q3
        clear c0 z hl
        have c0 := (blk_cell gB k).trans hcell
        have z := blk_free gB
        have hl := lt_of_block gB
        obtain ⟨q0, q1, q2, q3⟩ := cells4 gA
        go_wp2_with fail
        have gB2 := blk_set gB (k) (.bool true)
        generalize hwz : World.setCell _ ⟨w.heap.size + 1 + 1, k, none⟩ _ = wz
        replace gA : wz.heap[w.heap.size]? = some (.cells (setC s) 24 (0, 0)) := by rw [← hwz]; exact (Below.heap_setCell _ _ _ _ (by first | (simp; done) | (simp; omega))).trans gA
        replace gR : wz.heap[w.heap.size + 1]? = some (.cells (setC 0#256) 24 (0, 0)) := by rw [← hwz]; exact (Below.heap_setCell _ _ _ _ (by simp)).trans gR
        replace hx : Ext G0 w wz := by rw [← hwz]; exact hx.set (by simp; omega) _
        rw [hwz] at gB2
        replace gB := gB2
        clear hwz gB2
        rw [boolsC_set] at gB
        clear q0 q1 q2 q3 c0 z hl
        refine (HA.out _).mono ?_
        rintro e w2 ⟨rfl, b1⟩
        have x1 := Ext.of_below b1 G0
        replace gA := ext_heap x1 gA (fun x => x)
        replace gR := ext_heap x1 gR (fun x => x)
        replace gB := ext_heap x1 gB (fun x => x)
        replace hx := hx.trans x1
        rw [hs]
        clear x1 b1
        have hm := fun w => HM.out 65 90 w
        rw [show (decide ((65 : Int) ≤ (k : Int)) && decide ((k : Int) ≤ 90)) = false by simp; omega] at hm
        go_wp2_with fail
        refine (hm _).mono ?_
        clear hm
        rintro e w8 ⟨rfl, rfl⟩
        obtain ⟨q0, q1, q2, q3⟩ := cells4 gA
        go_wp2_with fail
        refine (HA.out _).mono ?_
        rintro e w3 ⟨rfl, b1⟩
        have x1 := Ext.of_below b1 G0
        replace gA := ext_heap x1 gA (fun x => x)
        replace gR := ext_heap x1 gR (fun x => x)
        replace gB := ext_heap x1 gB (fun x => x)
        replace hx := hx.trans x1
        rw [hs]
        clear x1 b1 q0 q1 q2 q3
        have hm := fun w => HM.out 97 122 w
        rw [show (decide ((97 : Int) ≤ (k : Int)) && decide ((k : Int) ≤ 122)) = false by simp; omega] at hm
        go_wp2_with fail
        refine (hm _).mono ?_
        clear hm
        rintro e w8 ⟨rfl, rfl⟩
        rw [hP.out, fold_none s k _ (fun _ => hn) (by rw [hs, ← hP.out, hp]; rfl), ← hP.out] at gB
        go_wp2_with fail
        go_roundw
        case rel => exact ⟨k + 1, by omega, by go_num, gA, gR, gB, hx⟩
        case measure => simp [intOf]; omega
      · rw [hp] at hcell
        have c0 := (blk_cell gB k).trans hcell
        have z := blk_free gB
        have hl := lt_of_block gB
        obtain ⟨q0, q1, q2, q3⟩ := cells4 gA
        go_wp2_with fail
        have gB2 := blk_set gB (k) (.bool true)
        generalize hwz : World.setCell _ ⟨w.heap.size + 1 + 1, k, none⟩ _ = wz
        replace gA : wz.heap[w.heap.size]? = some (.cells (setC s) 24 (0, 0)) := by rw [← hwz]; exact (Below.heap_setCell _ _ _ _ (by first | (simp; done) | (simp; omega))).trans gA
        replace gR : wz.heap[w.heap.size + 1]? = some (.cells (setC 0#256) 24 (0, 0)) := by rw [← hwz]; exact (Below.heap_setCell _ _ _ _ (by simp)).trans gR
        replace hx : Ext G0 w wz := by rw [← hwz]; exact hx.set (by simp; omega) _
        rw [hwz] at gB2
        replace gB := gB2
        clear hwz gB2
        rw [boolsC_set] at gB
        clear q0 q1 q2 q3 c0 z hl
        refine (HA.out _).mono ?_
        rintro e w2 ⟨rfl, b1⟩
        have x1 := Ext.of_below b1 G0
        replace gA := ext_heap x1 gA (fun x => x)
        replace gR := ext_heap x1 gR (fun x => x)
        replace gB := ext_heap x1 gB (fun x => x)
        replace hx := hx.trans x1
        rw [hs]
        clear x1 b1
        have hm := fun w => HM.out 65 90 w
        rw [show (decide ((65 : Int) ≤ (k : Int)) && decide ((k : Int) ≤ 90)) = false by simp; omega] at hm
        go_wp2_with fail
        refine (hm _).mono ?_
        clear hm
        rintro e w8 ⟨rfl, rfl⟩
        obtain ⟨q0, q1, q2, q3⟩ := cells4 gA
        go_wp2_with fail
        refine (HA.out _).mono ?_
        rintro e w3 ⟨rfl, b1⟩
        have x1 := Ext.of_below b1 G0
        replace gA := ext_heap x1 gA (fun x => x)
        replace gR := ext_heap x1 gR (fun x => x)
        replace gB := ext_heap x1 gB (fun x => x)
        replace hx := hx.trans x1
        rw [hs]
        clear x1 b1 q0 q1 q2 q3
        have hm := fun w => HM.out 97 122 w
        rw [show (decide ((97 : Int) ≤ (k : Int)) && decide ((k : Int) ≤ 122)) = false by simp; omega] at hm
        go_wp2_with fail
        refine (hm _).mono ?_
        clear hm
        rintro e w8 ⟨rfl, rfl⟩
        rw [hP.out, fold_none s k _ (fun _ => hn) (by rw [hs, ← hP.out, hp]; rfl), ← hP.out] at gB
        go_wp2_with fail
        go_roundw
        case rel => exact ⟨k + 1, by omega, by go_num, gA, gR, gB, hx⟩
        case measure => simp [intOf]; omega
      · rw [hp] at hcell
        have c0 := (blk_cell gB k).trans hcell
        have z := blk_free gB
        have hl := lt_of_block gB
        obtain ⟨q0, q1, q2, q3⟩ := cells4 gA
        go_wp2_with fail
        refine (HA.out _).mono ?_
        rintro e w1 ⟨rfl, b1⟩
        have x1 := Ext.of_below b1 G0
        replace gA := ext_heap x1 gA (fun x => x)
        replace gR := ext_heap x1 gR (fun x => x)
        replace gB := ext_heap x1 gB (fun x => x)
        replace hx := hx.trans x1
        rw [hs]
        clear x1 b1 q0 q1 q2 q3
        clear c0 z hl
        have c0 := (blk_cell gB k).trans hcell
        have z := blk_free gB
        have hl := lt_of_block gB
        obtain ⟨q0, q1, q2, q3⟩ := cells4 gA
        go_wp2_with fail
        have gB2 := blk_set gB (k) (.bool true)
        generalize hwz : World.setCell _ ⟨w.heap.size + 1 + 1, k, none⟩ _ = wz
        replace gA : wz.heap[w.heap.size]? = some (.cells (setC s) 24 (0, 0)) := by rw [← hwz]; exact (Below.heap_setCell _ _ _ _ (by first | (simp; done) | (simp; omega))).trans gA
        replace gR : wz.heap[w.heap.size + 1]? = some (.cells (setC 0#256) 24 (0, 0)) := by rw [← hwz]; exact (Below.heap_setCell _ _ _ _ (by simp)).trans gR
        replace hx : Ext G0 w wz := by rw [← hwz]; exact hx.set (by simp; omega) _
        rw [hwz] at gB2
        replace gB := gB2
        clear hwz gB2
        rw [boolsC_set] at gB
        clear q0 q1 q2 q3 c0 z hl
        refine (HA.out _).mono ?_
        rintro e w2 ⟨rfl, b1⟩
        have x1 := Ext.of_below b1 G0
        replace gA := ext_heap x1 gA (fun x => x)
        replace gR := ext_heap x1 gR (fun x => x)
        replace gB := ext_heap x1 gB (fun x => x)
        replace hx := hx.trans x1
        rw [hs]
        clear x1 b1
        have hm := fun w => HM.out 65 90 w
        rw [show (decide ((65 : Int) ≤ (k : Int)) && decide ((k : Int) ≤ 90)) = true by simp; omega] at hm
        go_wp2_with fail
        refine (hm _).mono ?_
        clear hm
        rintro e w8 ⟨rfl, rfl⟩
        have z := blk_free gB
        have hl := lt_of_block gB
        have cU := (blk_cell gB (k + 32)).trans (boolsC_get _ (k + 32) (by omega))
        have i2 : ((k : Int) + 32) < 256 := by omega
        obtain ⟨q0, q1, q2, q3⟩ := cells4 gA
        go_wp2_with fail
        have gB2 := blk_set gB (k + 32) (.bool true)
        generalize hwz : World.setCell _ ⟨w.heap.size + 1 + 1, k + 32, none⟩ _ = wz
        replace gA : wz.heap[w.heap.size]? = some (.cells (setC s) 24 (0, 0)) := by rw [← hwz]; exact (Below.heap_setCell _ _ _ _ (by first | (simp; done) | (simp; omega))).trans gA
        replace gR : wz.heap[w.heap.size + 1]? = some (.cells (setC 0#256) 24 (0, 0)) := by rw [← hwz]; exact (Below.heap_setCell _ _ _ _ (by simp)).trans gR
        replace hx : Ext G0 w wz := by rw [← hwz]; exact hx.set (by simp; omega) _
        rw [hwz] at gB2
        replace gB := gB2
        clear hwz gB2
        rw [boolsC_set] at gB
        clear q0 q1 q2 q3 cU z hl
        refine (HA.out _).mono ?_
        rintro e w3 ⟨rfl, b1⟩
        have x1 := Ext.of_below b1 G0
        replace gA := ext_heap x1 gA (fun x => x)
        replace gR := ext_heap x1 gR (fun x => x)
        replace gB := ext_heap x1 gB (fun x => x)
        replace hx := hx.trans x1
        rw [hs]
        clear x1 b1
        have hm := fun w => HM.out 97 122 w
        rw [show (decide ((97 : Int) ≤ (k : Int)) && decide ((k : Int) ≤ 122)) = false by simp; omega] at hm
        go_wp2_with fail
        refine (hm _).mono ?_
        clear hm
        rintro e w8 ⟨rfl, rfl⟩
        rw [hP.out, fold_upper s k hs h1 h2, ← hP.out] at gB
        go_wp2_with fail
        go_roundw
        case rel => exact ⟨k + 1, by omega, by go_num, gA, gR, gB, hx⟩
        case measure => simp [intOf]; omega
      · rw [hp] at hcell
        have c0 := (blk_cell gB k).trans hcell
        have z := blk_free gB
        have hl := lt_of_block gB
        obtain ⟨q0, q1, q2, q3⟩ := cells4 gA
        go_wp2_with fail
        have gB2 := blk_set gB (k) (.bool true)
        generalize hwz : World.setCell _ ⟨w.heap.size + 1 + 1, k, none⟩ _ = wz
        replace gA : wz.heap[w.heap.size]? = some (.cells (setC s) 24 (0, 0)) := by rw [← hwz]; exact (Below.heap_setCell _ _ _ _ (by first | (simp; done) | (simp; omega))).trans gA
        replace gR : wz.heap[w.heap.size + 1]? = some (.cells (setC 0#256) 24 (0, 0)) := by rw [← hwz]; exact (Below.heap_setCell _ _ _ _ (by simp)).trans gR
        replace hx : Ext G0 w wz := by rw [← hwz]; exact hx.set (by simp; omega) _
        rw [hwz] at gB2
        replace gB := gB2
        clear hwz gB2
        rw [boolsC_set] at gB
        clear q0 q1 q2 q3 c0 z hl
        refine (HA.out _).mono ?_
        rintro e w2 ⟨rfl, b1⟩
        have x1 := Ext.of_below b1 G0
        replace gA := ext_heap x1 gA (fun x => x)
        replace gR := ext_heap x1 gR (fun x => x)
        replace gB := ext_heap x1 gB (fun x => x)
        replace hx := hx.trans x1
        rw [hs]
        clear x1 b1
        have hm := fun w => HM.out 65 90 w
        rw [show (decide ((65 : Int) ≤ (k : Int)) && decide ((k : Int) ≤ 90)) = true by simp; omega] at hm
        go_wp2_with fail
        refine (hm _).mono ?_
        clear hm
        rintro e w8 ⟨rfl, rfl⟩
        have z := blk_free gB
        have hl := lt_of_block gB
        have cU := (blk_cell gB (k + 32)).trans (boolsC_get _ (k + 32) (by omega))
        have i2 : ((k : Int) + 32) < 256 := by omega
        obtain ⟨q0, q1, q2, q3⟩ := cells4 gA
        go_wp2_with fail
        have gB2 := blk_set gB (k + 32) (.bool true)
        generalize hwz : World.setCell _ ⟨w.heap.size + 1 + 1, k + 32, none⟩ _ = wz
        replace gA : wz.heap[w.heap.size]? = some (.cells (setC s) 24 (0, 0)) := by rw [← hwz]; exact (Below.heap_setCell _ _ _ _ (by first | (simp; done) | (simp; omega))).trans gA
        replace gR : wz.heap[w.heap.size + 1]? = some (.cells (setC 0#256) 24 (0, 0)) := by rw [← hwz]; exact (Below.heap_setCell _ _ _ _ (by simp)).trans gR
        replace hx : Ext G0 w wz := by rw [← hwz]; exact hx.set (by simp; omega) _
        rw [hwz] at gB2
        replace gB := gB2
        clear hwz gB2
        rw [boolsC_set] at gB
        clear q0 q1 q2 q3 cU z hl
        refine (HA.out _).mono ?_
        rintro e w3 ⟨rfl, b1⟩
        have x1 := Ext.of_below b1 G0
        replace gA := ext_heap x1 gA (fun x => x)
        replace gR := ext_heap x1 gR (fun x => x)
        replace gB := ext_heap x1 gB (fun x => x)
        replace hx := hx.trans x1
        rw [hs]
        clear x1 b1
        have hm := fun w => HM.out 97 122 w
        rw [show (decide ((97 : Int) ≤ (k : Int)) && decide ((k : Int) ≤ 122)) = false by simp; omega] at hm
        go_wp2_with fail
        refine (hm _).mono ?_
        clear hm
        rintro e w8 ⟨rfl, rfl⟩
        rw [hP.out, fold_upper s k hs h1 h2, ← hP.out] at gB
        go_wp2_with fail
        go_roundw
        case rel => exact ⟨k + 1, by omega, by go_num, gA, gR, gB, hx⟩
        case measure => simp [intOf]; omega
      · rw [hp] at hcell
        have c0 := (blk_cell gB k).trans hcell
        have z := blk_free gB
        have hl := lt_of_block gB
        obtain ⟨q0, q1, q2, q3⟩ := cells4 gA
        go_wp2_with fail
        refine (HA.out _).mono ?_
        rintro e w1 ⟨rfl, b1⟩
        have x1 := Ext.of_below b1 G0
        replace gA := ext_heap x1 gA (fun x => x)
        replace gR := ext_heap x1 gR (fun x => x)
        replace gB := ext_heap x1 gB (fun x => x)
        replace hx := hx.trans x1
        rw [hs]
        clear x1 b1 q0 q1 q2 q3
        clear c0 z hl
        have c0 := (blk_cell gB k).trans hcell
        have z := blk_free gB
        have hl := lt_of_block gB
        obtain ⟨q0, q1, q2, q3⟩ := cells4 gA
        go_wp2_with fail
        have gB2 := blk_set gB (k) (.bool true)
        generalize hwz : World.setCell _ ⟨w.heap.size + 1 + 1, k, none⟩ _ = wz
        replace gA : wz.heap[w.heap.size]? = some (.cells (setC s) 24 (0, 0)) := by rw [← hwz]; exact (Below.heap_setCell _ _ _ _ (by first | (simp; done) | (simp; omega))).trans gA
        replace gR : wz.heap[w.heap.size + 1]? = some (.cells (setC 0#256) 24 (0, 0)) := by rw [← hwz]; exact (Below.heap_setCell _ _ _ _ (by simp)).trans gR
        replace hx : Ext G0 w wz := by rw [← hwz]; exact hx.set (by simp; omega) _
        rw [hwz] at gB2
        replace gB := gB2
        clear hwz gB2
        rw [boolsC_set] at gB
        clear q0 q1 q2 q3 c0 z hl
        refine (HA.out _).mono ?_
        rintro e w2 ⟨rfl, b1⟩
        have x1 := Ext.of_below b1 G0
        replace gA := ext_heap x1 gA (fun x => x)
        replace gR := ext_heap x1 gR (fun x => x)
        replace gB := ext_heap x1 gB (fun x => x)
        replace hx := hx.trans x1
        rw [hs]
        clear x1 b1
        have hm := fun w => HM.out 65 90 w
        rw [show (decide ((65 : Int) ≤ (k : Int)) && decide ((k : Int) ≤ 90)) = false by simp; omega] at hm
        go_wp2_with fail
        refine (hm _).mono ?_
        clear hm
        rintro e w8 ⟨rfl, rfl⟩
        obtain ⟨q0, q1, q2, q3⟩ := cells4 gA
        go_wp2_with fail
        refine (HA.out _).mono ?_
        rintro e w3 ⟨rfl, b1⟩
        have x1 := Ext.of_below b1 G0
        replace gA := ext_heap x1 gA (fun x => x)
        replace gR := ext_heap x1 gR (fun x => x)
        replace gB := ext_heap x1 gB (fun x => x)
        replace hx := hx.trans x1
        rw [hs]
        clear x1 b1 q0 q1 q2 q3
        have hm := fun w => HM.out 97 122 w
        rw [show (decide ((97 : Int) ≤ (k : Int)) && decide ((k : Int) ≤ 122)) = true by simp; omega] at hm
        go_wp2_with fail
        refine (hm _).mono ?_
        clear hm
        rintro e w8 ⟨rfl, rfl⟩
        have z := blk_free gB
        have hl := lt_of_block gB
        have cU := (blk_cell gB (k - 32)).trans (boolsC_get _ (k - 32) (by omega))
        have i2 : (k : Int) - 32 = ((k - 32 : Nat) : Int) := by omega
        have i3 : ((k - 32 : Nat) : Int) < 256 := by omega
        go_wp2_with fail
        go_roundw
        case rel =>
          refine ⟨k + 1, by omega, by go_num, (Below.heap_setCell _ _ _ _ (by simp; omega)).trans gA, (Below.heap_setCell _ _ _ _ (by simp)).trans gR, ?_, hx.set (by simp; omega) _⟩
          rw [blk_set gB, boolsC_set, hP.out, fold_lower s k hs h1 h2]
        case measure => simp [intOf]; omega
      · rw [hp] at hcell
        have c0 := (blk_cell gB k).trans hcell
        have z := blk_free gB
        have hl := lt_of_block gB
        obtain ⟨q0, q1, q2, q3⟩ := cells4 gA
        go_wp2_with fail
        have gB2 := blk_set gB (k) (.bool true)
        generalize hwz : World.setCell _ ⟨w.heap.size + 1 + 1, k, none⟩ _ = wz
        replace gA : wz.heap[w.heap.size]? = some (.cells (setC s) 24 (0, 0)) := by rw [← hwz]; exact (Below.heap_setCell _ _ _ _ (by first | (simp; done) | (simp; omega))).trans gA
        replace gR : wz.heap[w.heap.size + 1]? = some (.cells (setC 0#256) 24 (0, 0)) := by rw [← hwz]; exact (Below.heap_setCell _ _ _ _ (by simp)).trans gR
        replace hx : Ext G0 w wz := by rw [← hwz]; exact hx.set (by simp; omega) _
        rw [hwz] at gB2
        replace gB := gB2
        clear hwz gB2
        rw [boolsC_set] at gB
        clear q0 q1 q2 q3 c0 z hl
        refine (HA.out _).mono ?_
        rintro e w2 ⟨rfl, b1⟩
        have x1 := Ext.of_below b1 G0
        replace gA := ext_heap x1 gA (fun x => x)
        replace gR := ext_heap x1 gR (fun x => x)
        replace gB := ext_heap x1 gB (fun x => x)
        replace hx := hx.trans x1
        rw [hs]
        clear x1 b1
        have hm := fun w => HM.out 65 90 w
        rw [show (decide ((65 : Int) ≤ (k : Int)) && decide ((k : Int) ≤ 90)) = false by simp; omega] at hm
        go_wp2_with fail
        refine (hm _).mono ?_
        clear hm
        rintro e w8 ⟨rfl, rfl⟩
        obtain ⟨q0, q1, q2, q3⟩ := cells4 gA
        go_wp2_with fail
        refine (HA.out _).mono ?_
        rintro e w3 ⟨rfl, b1⟩
        have x1 := Ext.of_below b1 G0
        replace gA := ext_heap x1 gA (fun x => x)
        replace gR := ext_heap x1 gR (fun x => x)
        replace gB := ext_heap x1 gB (fun x => x)
        replace hx := hx.trans x1
        rw [hs]
        clear x1 b1 q0 q1 q2 q3
        have hm := fun w => HM.out 97 122 w
        rw [show (decide ((97 : Int) ≤ (k : Int)) && decide ((k : Int) ≤ 122)) = true by simp; omega] at hm
        go_wp2_with fail
        refine (hm _).mono ?_
        clear hm
        rintro e w8 ⟨rfl, rfl⟩
        have z := blk_free gB
        have hl := lt_of_block gB
        have cU := (blk_cell gB (k - 32)).trans (boolsC_get _ (k - 32) (by omega))
        have i2 : (k : Int) - 32 = ((k - 32 : Nat) : Int) := by omega
        have i3 : ((k - 32 : Nat) : Int) < 256 := by omega
        go_wp2_with fail
        go_roundw
        case rel =>
          refine ⟨k + 1, by omega, by go_num, (Below.heap_setCell _ _ _ _ (by simp; omega)).trans gA, (Below.heap_setCell _ _ _ _ (by simp)).trans gR, ?_, hx.set (by simp; omega) _⟩
          rw [blk_set gB, boolsC_set, hP.out, fold_lower s k hs h1 h2]
        case measure => simp [intOf]; omega
    · obtain rfl : k = 256 := by omega
      clear gA
      go_wp2_with (first | (with_reducible refine wpList_load_row rfl 85 _ rfl (w.heap.size + 1 + 1) rfl _ _ _ _ gB Tryd.underlying85 rfl (info_bools _) ?_) | (go_at_call 58; refine (rof_any _ _).mono ?_; rintro e w2 ⟨rfl, hb2⟩; have gR2 := ext_heap (Ext.of_below hb2 G0) gR (fun x => x); obtain ⟨q0, q1, q2, q3⟩ := cells4 gR2; have zz := blk_free gR2; have hlR := lt_of_block gR2; have hx2 := hx.trans (Ext.of_below hb2 G0)))
      refine bodyPost_ret (v := setV _) (by simp [results, Tryd.results36, go_sem, q0, q1, q2, q3]) rfl ⟨rfl, ?_⟩
      exact ((((hx2.set (by simp) _).set (by simp) _).set (by simp) _).set (by simp) _).below

end Go.Proofs.YtejialnbelleeaaDoor
