/-
  The reference for sets: Of, out of which bytes are told by places.
-/
import Derived.Test.YtejialnbelleeaaDoorRefA
import Derived.Laws.Rows
namespace Go.Proofs.YtejialnbelleeaaDoor
open Go Go.RowKit

/-- 256 bools, by places. -/
def boolsL (p : Nat → Bool) : List Value := (List.range 256).map fun i => .bool (p i)
def boolsC (p : Nat → Bool) : Array Value := (boolsL p).toArray
theorem boolsC_get (p : Nat → Bool) (i : Nat) (h : i < 256) : (boolsC p)[i]? = some (.bool (p i)) := by
  unfold boolsC boolsL
  simp [h]
theorem boolsC_size (p : Nat → Bool) : (boolsC p).size = 256 := by unfold boolsC boolsL; simp
theorem boolsC_set (p : Nat → Bool) (i : Nat) (b : Bool) : (boolsC p).setIfInBounds i (.bool b) = boolsC fun j => if j = i then b else p j := by
  apply Array.ext_getElem?
  intro j
  rw [Array.getElem?_setIfInBounds, boolsC_size]
  by_cases hj : j < 256
  · rw [boolsC_get _ _ hj, boolsC_get _ _ hj]
    by_cases e : i = j
    · subst e; simp [hj]
    · rw [if_neg e, if_neg (fun h => e h.symm)]
  · rw [Array.getElem?_eq_none (by rw [boolsC_size]; omega), Array.getElem?_eq_none (by rw [boolsC_size]; omega)]
    split <;> simp_all
theorem boolsC_congr {p q : Nat → Bool} (h : ∀ i, i < 256 → p i = q i) : boolsC p = boolsC q := by
  unfold boolsC boolsL
  congr 1
  exact List.map_congr_left fun i hi => by rw [h i (List.mem_range.1 hi)]

theorem add_bit (x : W64) (k : Nat) (h : x.getLsbD k = false) : x + BitVec.twoPow 64 k = x ||| BitVec.twoPow 64 k := by
  refine BitVec.add_eq_or_of_and_eq_zero _ _ ?_
  apply BitVec.eq_of_getLsbD_eq
  intro i hi
  rw [BitVec.getLsbD_and, BitVec.getLsbD_twoPow]
  by_cases e : k = i
  · subst e; simp [h]
  · simp [e]

set_option maxRecDepth 100000 in
set_option maxHeartbeats 4000000 in
theorem rof_any (p : Nat → Bool) (w : World) :
    Calls Tryd.prog 58 #[.agg (boolsC p)] w fun e w' => e = .returned (setV (ofP p)) ∧ Below w.heap.size w w' := by
  go_enter Tryd.func58, Tryd.ntmps58
  go_wp2
  generalize hwz : World.alloc (World.alloc (World.alloc w _) _) _ = wz
  have fP : wz.heap[w.heap.size]? = some (.cells (boolsC p) 85 (0, 0)) := by rw [← hwz]; exact heap_past (heap_two' w _ _) _
  have fR : wz.heap[w.heap.size + 1]? = some (.cells (setC 0#256) 24 (0, 0)) := by rw [← hwz]; exact heap_past (heap_two w _ _) _
  have fS : wz.heap[w.heap.size + 1 + 1]? = some (.cells (setC 0#256) 24 (0, 0)) := by rw [← hwz]; exact heap_at _ _ _ (by simp)
  have y0 : Ext G0 w wz := by rw [← hwz]; exact (((Ext.refl _ _).alloc _).alloc _).alloc _
  clear hwz
  go_loopw [5] (fun i wr => ∃ k : Nat, k ≤ 256 ∧ i = .int .i64 (k : Int) ∧ wr.heap[w.heap.size]? = some (.cells (boolsC p) 85 (0, 0)) ∧ wr.heap[w.heap.size + 1]? = some (.cells (setC 0#256) 24 (0, 0)) ∧
      wr.heap[w.heap.size + 1 + 1]? = some (.cells (setC (ofP fun i => decide (i < k) && p i)) 24 (0, 0)) ∧ Ext G0 w wr) (fun i _ => 256 - (intOf i).toNat)
  case atStart =>
    refine ⟨0, by omega, rfl, fP, fR, ?_, y0⟩
    rw [show (fun i => decide (i < 0) && p i) = fun _ => false from funext fun i => by simp, ofP_false]
    exact fS
  case round =>
    obtain ⟨k, hk, rfl, gP, gR, gS, hx⟩ := hrel
    clear fP fR fS y0
    by_cases hlt : k < 256
    · have c0 : wr.cell? ⟨w.heap.size, k, none⟩ = some (.bool (p k)) := (blk_cell gP k).trans (boolsC_get p k hlt)
      have hstep : (if p k then ofP (fun i => decide (i < k) && p i) ||| one k else ofP (fun i => decide (i < k) && p i)) = ofP fun i => decide (i < k + 1) && p i := by
        apply bs_ext; intro i hi
        split
        · rename_i hp
          rw [BitVec.getLsbD_or, ofP_bit, ofP_bit, one_bit _ _ hlt, Bool.eq_iff_iff]
          simp only [Bool.or_eq_true, Bool.and_eq_true, decide_eq_true_eq, hi, true_and]
          constructor
          · rintro (⟨h1, h2⟩ | rfl)
            · exact ⟨by omega, h2⟩
            · exact ⟨by omega, hp⟩
          · rintro ⟨h1, h2⟩
            by_cases e : i = k
            · exact .inr e
            · exact .inl ⟨by omega, h2⟩
        · rename_i hp
          rw [ofP_bit, ofP_bit, Bool.eq_iff_iff]
          simp only [Bool.and_eq_true, decide_eq_true_eq, hi, true_and]
          constructor
          · rintro ⟨h1, h2⟩; exact ⟨by omega, h2⟩
          · rintro ⟨h1, h2⟩
            have : i ≠ k := fun e => hp (e ▸ h2)
            exact ⟨by omega, h2⟩
      have hoff : (ofP fun i => decide (i < k) && p i).getLsbD k = false := by rw [ofP_bit]; simp
      have i1 : (k : Int) < 256 := by omega
      generalize (ofP fun i => decide (i < k) && p i) = cur at *
      cases hp : p k with
      | false =>
        rw [hp] at c0 hstep
        simp only [Bool.false_eq_true, if_false] at hstep
        have HS := Lib.hid hstep
        clear hstep hp hoff
        go_wp2
        go_roundw
        case rel => exact ⟨k + 1, by omega, by go_num, gP, gR, by rw [← HS.out]; exact gS, hx⟩
        case measure => simp [intOf]; omega
      | true =>
        rw [hp] at c0 hstep
        simp only [if_true] at hstep
        have HS := Lib.hid hstep
        clear hstep hp
        obtain ⟨q, r, hq, hr, hkk⟩ : ∃ q r, q < 4 ∧ r < 64 ∧ k = 64 * q + r := ⟨k / 64, k % 64, by omega, by omega, by omega⟩
        have e1 : (k : Int) / 64 = (q : Int) := by omega
        have e2 : (k : Int) % 64 = (r : Int) := by omega
        have hadd := add_bit (word cur q) r (by rw [word_bit _ _ _ hr, ← hkk]; exact hoff)
        have hset := setC_set cur k hlt
        rw [show k / 64 = q by omega, show k % 64 = r by omega, ← hadd] at hset
        have hpw : (2 : Int) ^ r = ((BitVec.twoPow 64 r).toNat : Int) := by
          rw [BitVec.toNat_twoPow, Nat.mod_eq_of_lt (Nat.pow_lt_pow_right (by decide) hr), Int.natCast_pow]; rfl
        have hbd : ∀ w, Calls Tryd.prog 61 #[.int .i64 (r : Int)] w fun e w' => e = .returned (wordV (BitVec.twoPow 64 r)) ∧ w = w' := fun w => by
          have := bit_any r w hr
          rw [hpw] at this
          exact this
        have HB := Lib.hid hbd
        have HT := Lib.hid hset
        have hsum := add_word (word cur q) (BitVec.twoPow 64 r)
        clear hset hadd hpw hbd hoff
        generalize BitVec.twoPow 64 r = tp at *
        replace hsum := Lib.hid hsum
        have HKK := Lib.hid hkk
        clear hkk
        have i4 : (q : Int) < 4 := by omega
        go_wp2
        apply region_phi (leaves := (Leaf.val _) :: (Leaf.val _) :: (Leaf.val _) :: (Leaf.val _) :: (Leaf.val _) :: (Leaf.val _) :: (Leaf.val _) :: (Leaf.val _) :: (Leaf.val _) :: (Leaf.val _) :: (Leaf.val _) :: ([] : List Leaf)) (k := 11) (b := #[0, 1, 0, 4, 12, 28, 0, 64, 192, 508, 1023, 2047]) (ms := []) (E := Ext G0) mixed (by kernel_rfl) rfl (by kernel_rfl) rfl
        apply owed_walk rfl
        · intro w1 hw hf
          have s0 : w1.cell? ⟨w.heap.size + 1 + 1, q, none⟩ = some (wordV (word cur q)) := (blk_cell (ext_heapD hw gS (fun x => x)) q).trans (setC_get cur q hq)
          go_wp2
          exact ⟨rfl, rfl, Ext.refl _ _⟩
        · simp
        · go_simp
          try rfl
        apply owed_walk rfl
        · intro w1 hw hf
          have s0 : w1.cell? ⟨w.heap.size + 1 + 1, q, none⟩ = some (wordV (word cur q)) := (blk_cell (ext_heapD hw gS (fun x => x)) q).trans (setC_get cur q hq)
          go_wp2
          exact ⟨rfl, rfl, Ext.refl _ _⟩
        · simp
        · go_simp
          try rfl
        apply owed_walk rfl
        · intro w1 hw hf
          have s0 : w1.cell? ⟨w.heap.size + 1 + 1, q, none⟩ = some (wordV (word cur q)) := (blk_cell (ext_heapD hw gS (fun x => x)) q).trans (setC_get cur q hq)
          go_wp2
          exact ⟨rfl, rfl, Ext.refl _ _⟩
        · simp
        · go_simp
          try rfl
        apply owed_walk rfl
        · intro w1 hw hf
          have s0 : w1.cell? ⟨w.heap.size + 1 + 1, q, none⟩ = some (wordV (word cur q)) := (blk_cell (ext_heapD hw gS (fun x => x)) q).trans (setC_get cur q hq)
          go_wp2
          exact ⟨rfl, rfl, Ext.refl _ _⟩
        · simp
        · go_simp
          try rfl
        apply owed_walk rfl
        · intro w1 hw hf
          have s0 : w1.cell? ⟨w.heap.size + 1 + 1, q, none⟩ = some (wordV (word cur q)) := (blk_cell (ext_heapD hw gS (fun x => x)) q).trans (setC_get cur q hq)
          go_wp2
          exact ⟨rfl, rfl, Ext.refl _ _⟩
        · simp
        · go_simp
          try rfl
        apply owed_walk rfl
        · intro w1 hw hf
          have s0 : w1.cell? ⟨w.heap.size + 1 + 1, q, none⟩ = some (wordV (word cur q)) := (blk_cell (ext_heapD hw gS (fun x => x)) q).trans (setC_get cur q hq)
          go_wp2
          exact ⟨rfl, rfl, Ext.refl _ _⟩
        · simp
        · go_simp
          try rfl
        apply owed_walk rfl
        · intro w1 hw hf
          have s0 : w1.cell? ⟨w.heap.size + 1 + 1, q, none⟩ = some (wordV (word cur q)) := (blk_cell (ext_heapD hw gS (fun x => x)) q).trans (setC_get cur q hq)
          go_wp2
          exact ⟨rfl, rfl, Ext.refl _ _⟩
        · simp
        · go_simp
          try rfl
        apply owed_walk rfl
        · intro w1 hw hf
          have s0 : w1.cell? ⟨w.heap.size + 1 + 1, q, none⟩ = some (wordV (word cur q)) := (blk_cell (ext_heapD hw gS (fun x => x)) q).trans (setC_get cur q hq)
          go_wp2
          exact ⟨rfl, rfl, Ext.refl _ _⟩
        · simp
        · go_simp
          try rfl
        apply owed_walk rfl
        · intro w1 hw hf
          have s0 : w1.cell? ⟨w.heap.size + 1 + 1, q, none⟩ = some (wordV (word cur q)) := (blk_cell (ext_heapD hw gS (fun x => x)) q).trans (setC_get cur q hq)
          go_wp2_with (go_at_call 61; refine (HB.out _).mono ?_; rintro e w2 ⟨rfl, rfl⟩)
          exact ⟨rfl, rfl, Ext.refl _ _⟩
        · simp
        · go_simp
          try rfl
        apply owed_walk rfl
        · intro w1 hw hf
          have s0 : w1.cell? ⟨w.heap.size + 1 + 1, q, none⟩ = some (wordV (word cur q)) := (blk_cell (ext_heapD hw gS (fun x => x)) q).trans (setC_get cur q hq)
          go_wp2
          exact ⟨rfl, rfl, Ext.refl _ _⟩
        · simp
        · go_simp
          try rfl
        apply owed_walk rfl
        · intro w1 hw hf
          have s0 : w1.cell? ⟨w.heap.size + 1 + 1, q, none⟩ = some (wordV (word cur q)) := (blk_cell (ext_heapD hw gS (fun x => x)) q).trans (setC_get cur q hq)
          go_wp2
          exact ⟨rfl, rfl, Ext.refl _ _⟩
        · simp
        · go_simp
          try rfl
        apply owed_end
        intro w1 hw _
        unfold Tail
        have fS := ext_heapD hw gS (fun x => x)
        have fP := ext_heapD hw gP (fun x => x)
        have fR := ext_heapD hw gR (fun x => x)
        have s0 : w1.cell? ⟨w.heap.size + 1 + 1, q, none⟩ = some (wordV (word cur q)) := (blk_cell fS q).trans (setC_get cur q hq)
        have z := blk_free fS
        have hlS := lt_of_block fS
        go_wp2
        go_roundw
        case rel =>
          refine ⟨k + 1, by omega, by go_num, (Below.heap_setCell _ _ _ _ (by simp; omega)).trans fP, (Below.heap_setCell _ _ _ _ (by simp)).trans fR, ?_, (hx.trans hw.ofDrew).set (by simp; omega) _⟩
          rw [blk_set fS, hsum.out, HT.out, HS.out]
        case measure => simp [intOf]; omega
    · obtain rfl : k = 256 := by omega
      have hfin : (ofP fun i => decide (i < 256) && p i) = ofP p := ofP_congr fun i hi => by simp [hi]
      rw [hfin] at gS
      clear hfin gP
      obtain ⟨q0, q1, q2, q3⟩ := cells4 gS
      obtain ⟨r0, r1, r2, r3⟩ := cells4 gR
      have z := blk_free gR
      have hlR := lt_of_block gR
      go_wp2
      refine bodyPost_ret (v := setV (ofP p)) (by simp [results, Tryd.results58, go_sem, r0, r1, r2, r3]) rfl ⟨rfl, ?_⟩
      exact ((((hx.set (by simp) _).set (by simp) _).set (by simp) _).set (by simp) _).below

end Go.Proofs.YtejialnbelleeaaDoor
