/-
  Package set: Has, put, Not, Span, Of.
-/
import Derived.Test.YtejialnbelleeaaKit
import Derived.Test.YtejialnbelleeaaChecked
import Derived.WalkSpells
import Derived.Lib.Hide
import Derived.Handy
import Derived.WalkLawsBesides
namespace Go.Proofs.Ytejialnbelleeaa
open Go Go.RowKit

theorem mixed : Try.prog.follows .mixedOrders = true := by kernel_rfl

set_option maxHeartbeats 400000 in
theorem has_any (s : Bs) (b : Nat) (w : World) (hb : b < 256) :
    Calls Try.prog 37 #[setV s, .int .u8 (b : Int)] w fun e w' => e = .returned (.bool (s.getLsbD b)) ∧ Below w.heap.size w w' := by
  have h0 : (0 : Int) ≤ (b : Int) := by omega
  have h1 : (b : Int) < 256 := by omega
  have hc : (w.alloc (.cells (setC s) 25)).cell? ⟨w.heap.size, b / 64, none⟩ = some (wordV (word s (b / 64))) := by
    rw [blk_cell (heap_alloc_new w _)]
    exact setC_get s (b / 64) (by omega)
  have hfin : ((bits .and .u64 (((word s (b / 64)).toNat : Int) / 2 ^ (b % 64)) 1 == 1) = s.getLsbD b) := by
    rw [bit_test, word_bit _ _ _ (by omega)]
    congr 1; omega
  have HF := Lib.hid hfin
  clear hfin
  go_enter Try.func37, Try.ntmps37
  go_wp2
  go_ret
  exact ⟨congrArg (fun x => Ending.returned (.bool x)) HF.out, (Below.refl _ _).alloc (Nat.le_refl _) _⟩


set_option maxHeartbeats 1000000 in
theorem put_any (g : Nat) (s : Bs) (b : Nat) (w : World) (hb : b < 256) (h : w.heap[g]? = some (.cells (setC s) 77 (0, 0))) :
    Calls Try.prog 45 #[.pointer (some ⟨g, 0, none⟩), .int .u8 (b : Int)] w fun e w' =>
      e = .returned (.tuple #[]) ∧ w'.heap[g]? = some (.cells (setC (s ||| one b)) 77 (0, 0)) ∧ Ext (G1 g) w w' := by
  have h0 : (0 : Int) ≤ (b : Int) := by omega
  have h1 : (b : Int) < 256 := by omega
  go_enter Try.func45, Try.ntmps45
  have hcell : ∀ w1, Ext G0 w.drew w1 → w1.cell? ⟨g, b / 64, none⟩ = some (wordV (word s (b / 64))) := fun w1 hw => by
    rw [blk_cell (ext_heap hw (show w.drew.heap[g]? = _ from h) (fun x => x))]
    exact setC_get s (b / 64) (by omega)
  have HC := Lib.hid hcell
  clear hcell
  apply region_phi (leaves := (Leaf.val _) :: (Leaf.val _) :: (Leaf.val _) :: (Leaf.val _) :: (Leaf.val _) :: (Leaf.val _) :: (Leaf.val _) :: (Leaf.val _) :: (Leaf.val _) :: (Leaf.val _) :: (Leaf.val _) :: (Leaf.val _) :: (Leaf.val _) :: (Leaf.val _) :: ([] : List Leaf)) (k := 14) (b := #[0, 0, 2, 1, 9, 31, 63, 0, 128, 384, 1023, 1, 2049, 8191, 16383]) (ms := []) (E := Ext G0) mixed (by kernel_rfl) rfl (by kernel_rfl) rfl
  iterate 14
    apply owed_walk rfl
    · intro w1 hw _
      have k1 := HC.out w1 hw
      go_wp2
      exact ⟨rfl, rfl, Ext.refl _ _⟩
    · simp
    · go_simp
      try rfl
  apply owed_end
  intro w1 hw _
  unfold Tail
  have k1 := HC.out w1 hw
  have k2 : w1.frozen? ⟨g, b / 64, none⟩ = false := blk_free (ext_heap hw (show w.drew.heap[g]? = _ from h) (fun x => x)) _
  go_wp2
  go_end0
  refine ⟨rfl, ?_, ?_⟩
  · rw [blk_set (ext_heap hw (show w.drew.heap[g]? = _ from h) (fun x => x)), wrap_pow, bits_or, setC_set _ _ hb]
  · exact (hw.ofDrew.up (G1 g)).setCell (p := ⟨g, b / 64, none⟩) (.inl rfl) _

set_option maxHeartbeats 1000000 in
theorem span_any (lo hi : Nat) (w : World) (hlo : lo < 256) (hhi : hi < 256) :
    Calls Try.prog 23 #[.int .u8 (lo : Int), .int .u8 (hi : Int)] w fun e w' => e = .returned (setV (spanS lo hi)) ∧ Below w.heap.size w w' := by
  go_enter Try.func23, Try.ntmps23
  go_wp2
  go_loopw [6] (fun i wr => ∃ k : Nat, lo ≤ k ∧ k ≤ max lo (hi + 1) ∧ i = .int .i64 (k : Int) ∧ wr.heap[w.heap.size + 1]? = some (.cells (setC (ofP fun i => decide (lo ≤ i) && decide (i < k))) 77 (0, 0)) ∧
      wr.heap[w.heap.size]? = some (.cells (setC 0#256) 25 (0, 0)) ∧ Ext G0 w wr) (fun i _ => 256 - (intOf i).toNat)
  case atStart =>
    refine ⟨lo, Nat.le_refl _, by omega, rfl, ?_, ?_, ?_⟩
    · have e : (fun i => decide (lo ≤ i) && decide (i < lo)) = fun _ => false := funext fun i => by
        by_cases h : lo ≤ i <;> simp <;> omega
      rw [e, ofP_false]
      exact heap_two w _ _
    · exact heap_two' w _ _
    · exact ((Ext.refl _ _).alloc _).alloc _
  case round =>
    obtain ⟨k, hk1, hk2, rfl, hg, hr, hx⟩ := hrel
    have hs : ¬ k ≤ hi → (ofP fun i => decide (lo ≤ i) && decide (i < k)) = spanS lo hi := fun hlt =>
      ofP_congr fun i _ => by rw [Bool.eq_iff_iff]; simp; omega
    have HS := Lib.hid hs
    clear hs
    by_cases hlt : k ≤ hi
    · go_wp2_with (go_at_call 45; refine (put_any (w.heap.size + 1) _ k _ (by omega) hg).mono ?_; rintro e w1 ⟨rfl, hg1, hx1⟩)
      go_roundw
      case rel =>
        refine ⟨k + 1, by omega, by omega, by go_num, ?_, ?_, ?_⟩
        · rw [hg1, ofP_or_one _ _ (by omega)]
          congr 3
          exact ofP_congr fun i _ => by rw [Bool.eq_iff_iff]; simp; omega
        · exact ext_heap hx1 hr (fun x => by unfold G1 at x; omega)
        · exact hx.own hx1 (by omega)
      case measure => simp [intOf]; omega
    · have c0 := cell0 hg
      have c1 := cell1 hg
      have c2 := cell2 hg
      have c3 := cell3 hg
      have r0 := cell0 hr
      have r1 := cell1 hr
      have r2 := cell2 hr
      have r3 := cell3 hr
      have z := blk_free hr
      go_wp2
      rw [← HS.out hlt]
      refine bodyPost_ret (v := setV _) (by simp [results, Try.results23, go_sem, r0, r1, r2, r3]) rfl ⟨rfl, ?_⟩
      exact ((((hx.set (Nat.le_refl _) _).set (Nat.le_refl _) _).set (Nat.le_refl _) _).set (Nat.le_refl _) _).below

end Go.Proofs.Ytejialnbelleeaa