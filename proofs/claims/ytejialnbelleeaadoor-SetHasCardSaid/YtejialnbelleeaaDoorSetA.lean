/-
  Package set: Has, put, Not, Span, Of.
-/
import Derived.Test.YtejialnbelleeaaDoorKit
import Derived.Test.YtejialnbelleeaaDoorChecked
import Derived.WalkSpells
import Derived.Lib.Hide
import Derived.Handy
import Derived.WalkLawsBesides
namespace Go.Proofs.YtejialnbelleeaaDoor
open Go Go.RowKit

theorem mixed : Tryd.prog.follows .mixedOrders = true := by kernel_rfl

set_option maxHeartbeats 400000 in
theorem has_any (s : Bs) (b : Nat) (w : World) (hb : b < 256) :
    Calls Tryd.prog 23 #[setV s, .int .u8 (b : Int)] w fun e w' => e = .returned (.bool (s.getLsbD b)) ∧ Below w.heap.size w w' := by
  have h0 : (0 : Int) ≤ (b : Int) := by omega
  have h1 : (b : Int) < 256 := by omega
  have hc : (w.alloc (.cells (setC s) 24)).cell? ⟨w.heap.size, b / 64, none⟩ = some (wordV (word s (b / 64))) := by
    rw [blk_cell (heap_alloc_new w _)]
    exact setC_get s (b / 64) (by omega)
  have hfin : ((bits .and .u64 (((word s (b / 64)).toNat : Int) / 2 ^ (b % 64)) 1 == 1) = s.getLsbD b) := by
    rw [bit_test, word_bit _ _ _ (by omega)]
    congr 1; omega
  have HF := Lib.hid hfin
  clear hfin
  go_enter Tryd.func23, Tryd.ntmps23
  go_wp2
  go_ret
  exact ⟨congrArg (fun x => Ending.returned (.bool x)) HF.out, (Below.refl _ _).alloc (Nat.le_refl _) _⟩


set_option maxHeartbeats 1000000 in
theorem put_any (g : Nat) (s : Bs) (b : Nat) (w : World) (hb : b < 256) (h : w.heap[g]? = some (.cells (setC s) 76 (0, 0))) :
    Calls Tryd.prog 49 #[.pointer (some ⟨g, 0, none⟩), .int .u8 (b : Int)] w fun e w' =>
      e = .returned (.tuple #[]) ∧ w'.heap[g]? = some (.cells (setC (s ||| one b)) 76 (0, 0)) ∧ Ext (G1 g) w w' := by
  have h0 : (0 : Int) ≤ (b : Int) := by omega
  have h1 : (b : Int) < 256 := by omega
  go_enter Tryd.func49, Tryd.ntmps49
  have hcell : ∀ w1, Ext G0 w.drew w1 → w1.cell? ⟨g, b / 64, none⟩ = some (wordV (word s (b / 64))) := fun w1 hw => by
    rw [blk_cell (ext_heap hw (show w.drew.heap[g]? = _ from h) (fun x => x))]
    exact setC_get s (b / 64) (by omega)
  have HC := Lib.hid hcell
  clear hcell
  apply region_phi (leaves := (Leaf.val _) :: (Leaf.val _) :: (Leaf.val _) :: (Leaf.val _) :: (Leaf.val _) :: (Leaf.val _) :: (Leaf.val _) :: (Leaf.val _) :: (Leaf.val _) :: (Leaf.val _) :: (Leaf.val _) :: (Leaf.val _) :: (Leaf.val _) :: (Leaf.val _) :: ([] : List Leaf)) (k := 14) (b := #[0, 0, 2, 1, 9, 31, 63, 0, 128, 384, 1023, 1, 2049, 8191, 16383]) (ms := []) (E := Ext G0) mixed (by kernel_rfl) rfl (by kernel_rfl) rfl
  iterate 14
    apply owed_walk rfl
    · intro w1 hw _
      have k1 := HC.out w1 hw
      go_wp2
      exact ⟨rfl, rfl, Ext.refl _ _⟩
    · simp
    · go_simp
      try rfl
  apply owed_end
  intro w1 hw _
  unfold Tail
  have k1 := HC.out w1 hw
  have k2 : w1.frozen? ⟨g, b / 64, none⟩ = false := blk_free (ext_heap hw (show w.drew.heap[g]? = _ from h) (fun x => x)) _
  go_wp2
  go_end0
  refine ⟨rfl, ?_, ?_⟩
  · rw [blk_set (ext_heap hw (show w.drew.heap[g]? = _ from h) (fun x => x)), wrap_pow, bits_or, setC_set _ _ hb]
  · exact (hw.ofDrew.up (G1 g)).setCell (p := ⟨g, b / 64, none⟩) (.inl rfl) _

set_option maxHeartbeats 1000000 in
theorem span_any (lo hi : Nat) (w : World) (hlo : lo < 256) (hhi : hi < 256) :
    Calls Tryd.prog 40 #[.int .u8 (lo : Int), .int .u8 (hi : Int)] w fun e w' => e = .returned (setV (spanS lo hi)) ∧ Below w.heap.size w w' := by
  go_enter Tryd.func40, Tryd.ntmps40
  go_wp2
  go_loopw [6] (fun i wr => ∃ k : Nat, lo ≤ k ∧ k ≤ max lo (hi + 1) ∧ i = .int .i64 (k : Int) ∧ wr.heap[w.heap.size + 1]? = some (.cells (setC (ofP fun i => decide (lo ≤ i) && decide (i < k))) 76 (0, 0)) ∧
      wr.heap[w.heap.size]? = some (.cells (setC 0#256) 24 (0, 0)) ∧ Ext G0 w wr) (fun i _ => 256 - (intOf i).toNat)
  case atStart =>
    refine ⟨lo, Nat.le_refl _, by omega, rfl, ?_, ?_, ?_⟩
    · have e : (fun i => decide (lo ≤ i) && decide (i < lo)) = fun _ => false := funext fun i => by
        by_cases h : lo ≤ i <;> simp <;> omega
      rw [e, ofP_false]
      exact heap_two w _ _
    · exact heap_two' w _ _
    · exact ((Ext.refl _ _).alloc _).alloc _
  case round =>
    obtain ⟨k, hk1, hk2, rfl, hg, hr, hx⟩ := hrel
    have hs : ¬ k ≤ hi → (ofP fun i => decide (lo ≤ i) && decide (i < k)) = spanS lo hi := fun hlt =>
      ofP_congr fun i _ => by rw [Bool.eq_iff_iff]; simp; omega
    have HS := Lib.hid hs
    clear hs
    by_cases hlt : k ≤ hi
    · go_wp2_with (go_at_call 49; refine (put_any (w.heap.size + 1) _ k _ (by omega) hg).mono ?_; rintro e w1 ⟨rfl, hg1, hx1⟩)
      go_roundw
      case rel =>
        refine ⟨k + 1, by omega, by omega, by go_num, ?_, ?_, ?_⟩
        · rw [hg1, ofP_or_one _ _ (by omega)]
          congr 3
          exact ofP_congr fun i _ => by rw [Bool.eq_iff_iff]; simp; omega
        · exact ext_heap hx1 hr (fun x => by unfold G1 at x; omega)
        · exact hx.own hx1 (by omega)
      case measure => simp [intOf]; omega
    · have c0 := cell0 hg
      have c1 := cell1 hg
      have c2 := cell2 hg
      have c3 := cell3 hg
      have r0 := cell0 hr
      have r1 := cell1 hr
      have r2 := cell2 hr
      have r3 := cell3 hr
      have z := blk_free hr
      go_wp2
      rw [← HS.out hlt]
      refine bodyPost_ret (v := setV _) (by simp [results, Tryd.results40, go_sem, r0, r1, r2, r3]) rfl ⟨rfl, ?_⟩
      exact ((((hx.set (Nat.le_refl _) _).set (Nat.le_refl _) _).set (Nat.le_refl _) _).set (Nat.le_refl _) _).below

set_option maxHeartbeats 1000000 in
theorem not_any (s : Bs) (w : World) :
    Calls Tryd.prog 20 #[setV s] w fun e w' => e = .returned (setV (~~~s)) ∧ Below w.heap.size w w' := by
  go_enter Tryd.func20, Tryd.ntmps20
  go_wp2
  go_rounds 5
  simp only [bits_not, ← word_not s _ (show 0 < 4 by decide), ← word_not s _ (show 1 < 4 by decide), ← word_not s _ (show 2 < 4 by decide), ← word_not s _ (show 3 < 4 by decide)]
  refine bodyPost_ret (v := setV (~~~s)) (by simp [results, Tryd.results20, go_sem]) rfl ⟨rfl, ?_⟩
  exact ((Below.refl _ _).alloc (Nat.le_refl _) _).alloc (by simp) _

/-- A function of two words that computes. -/
structure Opn (f : FuncId) (op : W64 → W64 → W64) : Prop where
  enter : ∀ args w, (callFunc f args).run Tryd.prog w = .ok (.enter f args) w
  calls : ∀ (x y : W64) (w : World), Calls Tryd.prog f #[wordV x, wordV y] w fun e w' => e = .returned (wordV (op x y)) ∧ w = w'

theorem opAnd_any : Opn 53 (fun x y => x &&& y) := by
  refine ⟨fun args w => by kernel_rfl, ?_⟩
  intro x y w
  have h := bits_and x y
  go_enter Tryd.func53, Tryd.ntmps53
  go_wp2
  go_ret
  exact ⟨congrArg (fun z => Ending.returned (.int .u64 z)) (by simp), rfl⟩

theorem opOr_any : Opn 54 (fun x y => x ||| y) := by
  refine ⟨fun args w => by kernel_rfl, ?_⟩
  intro x y w
  have h := bits_or x y
  go_enter Tryd.func54, Tryd.ntmps54
  go_wp2
  go_ret
  exact ⟨congrArg (fun z => Ending.returned (.int .u64 z)) (by simp), rfl⟩

theorem opLess_any : Opn 55 (fun x y => x &&& (BitVec.not y)) := by
  refine ⟨fun args w => by kernel_rfl, ?_⟩
  intro x y w
  have h := bits_andNot x y
  go_enter Tryd.func55, Tryd.ntmps55
  go_wp2
  go_ret
  exact ⟨congrArg (fun z => Ending.returned (.int .u64 z)) (by simp), rfl⟩

set_option maxHeartbeats 1000000 in
theorem wordwise_any (f : FuncId) (w : World) :
    Calls Tryd.prog 52 #[.func (.func f) #[] #[]] w fun e w' => e = .returned (.func (.func 63) #[] #[.pointer (some ⟨w.heap.size, 0, none⟩)]) ∧
      w.alloc (.cells #[.func (.func f) #[] #[]] 81) = w' := by
  have hmf : ∀ (fn : Fn) (first cap : Array Value) (w : World), (Instr.makeFunc fn first cap).run Tryd.prog w = .ok (.func fn first cap) w := fun _ _ _ _ => rfl
  go_enter Tryd.func52, Tryd.ntmps52
  go_wp2
  go_ret
  exact ⟨rfl, rfl⟩

theorem index_set (s : Bs) (w : World) : (Instr.index 24 (setV s) (.int .i64 0)).run Tryd.prog w = .ok (wordV (word s 0)) w ∧ (Instr.index 24 (setV s) (.int .i64 1)).run Tryd.prog w = .ok (wordV (word s 1)) w ∧
    (Instr.index 24 (setV s) (.int .i64 2)).run Tryd.prog w = .ok (wordV (word s 2)) w ∧ (Instr.index 24 (setV s) (.int .i64 3)).run Tryd.prog w = .ok (wordV (word s 3)) w := by
  refine ⟨?_, ?_, ?_, ?_⟩ <;> kernel_rfl

theorem index_k (s : Bs) (k : Nat) (hk : k < 4) (w : World) : (Instr.index 24 (setV s) (.int .i64 (k : Int))).run Tryd.prog w = .ok (wordV (word s k)) w := by
  match k, hk with
  | 0, _ => exact (index_set s w).1
  | 1, _ => exact (index_set s w).2.1
  | 2, _ => exact (index_set s w).2.2.1
  | 3, _ => exact (index_set s w).2.2.2
set_option maxHeartbeats 2000000 in
theorem wordwise1_any (f : FuncId) (op : W64 → W64 → W64) (hop : Opn f op) (a b : Bs) (p : Nat) (t : TypeId) (w : World) (hp : w.heap[p]? = some (.cells #[.func (.func f) #[] #[]] t (0, 0))) :
    Calls Tryd.prog 63 #[setV a, setV b, .pointer (some ⟨p, 0, none⟩)] w fun e w' => e = .returned (setV (mapW op a b)) ∧ Below w.heap.size w w' := by
  have hlt := lt_of_block hp
  go_enter Tryd.func63, Tryd.ntmps63
  go_wp2
  go_loopw [9] (fun i wr => ∃ k : Nat, k ≤ 4 ∧ i = .int .i64 (k : Int) ∧ wr.heap[w.heap.size]? = some (.cells (setC (partW op a b k)) 24 (0, 0)) ∧
      wr.heap[w.heap.size + 1 + 1]? = some (.cells (setC 0#256) 24 (0, 0)) ∧ Ext G0 w wr) (fun i _ => 4 - (intOf i).toNat)
  case atStart =>
    refine ⟨0, by omega, rfl, ?_, ?_, ?_⟩
    · rw [partW_zero]
      exact heap_past (heap_two' w _ _) _
    · exact heap_at _ _ _ (by simp)
    · exact (((Ext.refl _ _).alloc _).alloc _).alloc _
  case round =>
    obtain ⟨k, hk, rfl, hA, hR, hx⟩ := hrel
    by_cases hk4 : k < 4
    · have ik := index_k b k hk4
      go_wp2
      have hW : ∀ w1, Ext G0 wr.drew w1 → w1.cell? ⟨w.heap.size, k, none⟩ = some (wordV (word a k)) ∧ w1.cell? ⟨p, 0, none⟩ = some (.func (.func f) #[] #[]) := fun w1 hw => by
        have hpp : wr.heap[p]? = some (.cells #[.func (.func f) #[] #[]] t (0, 0)) := ext_heap hx hp (fun x => x)
        refine ⟨?_, cell_of_one (ext_heap hw (show wr.drew.heap[p]? = _ from hpp) (fun x => x))⟩
        rw [blk_cell (ext_heap hw (show wr.drew.heap[_]? = _ from hA) (fun x => x)), setC_get _ _ hk4, partW_word _ _ _ _ _ hk4, if_neg (by omega)]
      have HW := Lib.hid hW
      clear hW
      apply region_phi (leaves := (Leaf.val _) :: (Leaf.val _) :: (Leaf.val _) :: (Leaf.val _) :: (Leaf.val _) :: (Leaf.val _) :: (Leaf.val _) :: (Leaf.val _) :: ([] : List Leaf)) (k := 8) (b := #[0, 0, 0, 4, 12, 0, 62, 127, 255]) (ms := []) (E := Ext G0) mixed (by kernel_rfl) rfl (by kernel_rfl) rfl
      iterate 8
        apply owed_walk rfl
        · intro w1 hw _
          obtain ⟨k1, k2⟩ := HW.out w1 hw
          have hcf := hop.enter
          go_wp2_with (refine (hop.calls _ _ _).mono ?_; rintro e w2 ⟨rfl, rfl⟩)
          exact ⟨rfl, rfl, Ext.refl _ _⟩
        · simp
        · go_simp
          try rfl
      apply owed_end
      intro w1 hw _
      unfold Tail
      obtain ⟨k1, k2⟩ := HW.out w1 hw
      have hA1 := ext_heap hw (show wr.drew.heap[_]? = _ from hA) (fun x => x)
      have hR1 := ext_heap hw (show wr.drew.heap[_]? = _ from hR) (fun x => x)
      have hz := blk_free hA1 k
      have hx1 := hx.trans hw.ofDrew
      go_wp2
      go_roundw
      case rel =>
        refine ⟨k + 1, by omega, by go_num, ?_, ?_, ?_⟩
        · rw [blk_set hA1, partW_set _ _ _ _ hk4]
        · rw [Below.heap_setCell _ _ _ _ (by simp; omega)]
          exact hR1
        · exact hx1.set (Nat.le_refl _) _
      case measure => simp [intOf]; omega
    · obtain rfl : k = 4 := by omega
      have c0 := cell0 hA
      have c1 := cell1 hA
      have c2 := cell2 hA
      have c3 := cell3 hA
      have r0 := cell0 hR
      have r1 := cell1 hR
      have r2 := cell2 hR
      have r3 := cell3 hR
      have z := blk_free hR
      go_wp2
      refine bodyPost_ret (v := setV (partW op a b 4)) (by simp [results, Tryd.results63, go_sem, r0, r1, r2, r3]) rfl ⟨by rw [partW_four], ?_⟩
      exact ((((hx.set (by simp; omega) _).set (by simp; omega) _).set (by simp; omega) _).set (by simp; omega) _).below

set_option maxHeartbeats 1000000 in
theorem less_any (a b : Bs) (w : World) :
    Calls Tryd.prog 22 #[setV a, setV b] w fun e w' => e = .returned (setV (a &&& ~~~b)) ∧ Below w.heap.size w w' := by
  go_enter Tryd.func22, Tryd.ntmps22
  go_wp2
  generalize hwz : World.alloc (World.alloc (World.alloc w _) _) _ = wz
  have hA : wz.heap[w.heap.size]? = some (.cells (setC a) 24 (0, 0)) := by rw [← hwz]; exact heap_past (heap_two' w _ _) _
  have hB : wz.heap[w.heap.size + 1]? = some (.cells (setC b) 24 (0, 0)) := by rw [← hwz]; exact heap_past (heap_two w _ _) _
  have hR : wz.heap[w.heap.size + 1 + 1]? = some (.cells (setC 0#256) 24 (0, 0)) := by rw [← hwz]; exact heap_at _ _ _ (by simp)
  have hx : Ext G0 w wz := by rw [← hwz]; exact (((Ext.refl _ _).alloc _).alloc _).alloc _
  clear hwz
  apply region_phi (leaves := (Leaf.ref false false (fun v w => ∃ p, v = .func (.func 63) #[] #[.pointer (some ⟨p, 0, none⟩)] ∧ w.heap[p]? = some (.cells #[.func (.func 55) #[] #[]] 81 (0, 0)))) :: (Leaf.val _) :: (Leaf.val _) :: (Leaf.val _) :: ([] : List Leaf)) (k := 4) (b := #[0, 0, 0, 7, 15]) (ms := []) (E := Ext G0) mixed (by kernel_rfl) rfl (by kernel_rfl) rfl
  apply owed_walk_ref rfl
  · rintro v w w' ⟨p, rfl, h⟩ hx
    exact ⟨p, rfl, ext_heap hx h (fun x => x)⟩
  · intro w1 hw _
    go_wp2_with (go_at_call 52; refine (wordwise_any _ _).mono ?_; rintro e w2 ⟨rfl, rfl⟩)
    exact ⟨rfl, ⟨_, rfl, heap_new _ _⟩, (Ext.refl _ _).alloc _⟩
  · simp
  · intro v
    go_simp
    try rfl
  intro v
  iterate 2
    apply owed_walk rfl
    · intro w1 hw _
      obtain ⟨a0, a1, a2, a3⟩ := cells4 (ext_heapD hw hA (fun x => x))
      obtain ⟨b0, b1, b2, b3⟩ := cells4 (ext_heapD hw hB (fun x => x))
      go_wp2
      exact ⟨rfl, rfl, Ext.refl _ _⟩
    · simp
    · go_simp
      try rfl
  apply owed_walk rfl
  · intro w1 hw hf
    simp only [List.mem_singleton, forall_eq] at hf
    obtain ⟨p, rfl, hp⟩ := hf (by decide)
    go_wp2_with (go_at_call 63; refine (wordwise1_any _ _ opLess_any _ _ _ _ _ hp).mono ?_; rintro e w2 ⟨rfl, hx2⟩)
    exact ⟨rfl, rfl, Ext.of_below hx2 _⟩
  · simp
  · go_simp
    try rfl
  apply owed_end
  intro w1 hw _
  unfold Tail
  have hR1 := ext_heapD hw hR (fun x => x)
  have hx1 := hx.trans hw.ofDrew
  obtain ⟨r0, r1, r2, r3⟩ := cells4 hR1
  have z := blk_free hR1
  go_wp2
  refine bodyPost_ret (v := setV (mapW (fun x y => x &&& (BitVec.not y)) a b)) (by simp [results, Tryd.results22, go_sem, r0, r1, r2, r3]) rfl ⟨?_, ?_⟩
  · exact congrArg _ (congrArg setV (mapW_less a b))
  · exact ((((hx1.set (by simp; omega) _).set (by simp; omega) _).set (by simp; omega) _).set (by simp; omega) _).below

end Go.Proofs.YtejialnbelleeaaDoor