/-
  Package set: And, Or of a set and a row of sets.
-/
import Derived.Test.YtejialnbelleeaaDoorSetA
namespace Go.Proofs.YtejialnbelleeaaDoor
open Go Go.RowKit

theorem cell_ext {w w' : World} (hx : Ext G0 w w') {p : Addr} {v : Value} (h : w.cell? p = some v) : w'.cell? p = some v := by
  rw [ext_cell hx ?_ (fun x => x)]
  · exact h
  · rcases Nat.lt_or_ge p.block w.heap.size with h2 | h2
    · exact h2
    · simp [World.cell?, Array.getElem?_eq_none h2] at h

/-- A slice that reads as a row: each element takes 'sz' cells, told by 'enc'. -/
def SlAt {α : Type} (sz : Nat) (enc : α → List Value) (w : World) (v : Value) (l : List α) : Prop :=
  ∃ A c, v = .slice A l.length c ∧ (l.length ≤ c ∧ (l.length : Int) ≤ 140737488351232) ∧ (l = [] ∨ ∃ b off, A = some ⟨b, off, none⟩ ∧ ∀ i x, l[i]? = some x → ∀ j y, (enc x)[j]? = some y → w.cell? ⟨b, off + i * sz + j, none⟩ = some y)

theorem SlAt.ext {α : Type} {sz : Nat} {enc : α → List Value} {w w' : World} {v : Value} {l : List α} (h : SlAt sz enc w v l) (hx : Ext G0 w w') : SlAt sz enc w' v l := by
  obtain ⟨A, c, rfl, hc, h0⟩ := h
  refine ⟨A, c, rfl, hc, h0.imp id ?_⟩
  rintro ⟨b, off, rfl, h⟩
  refine ⟨b, off, rfl, fun i x hi j y hj => ?_⟩
  exact cell_ext hx (h i x hi j y hj)

theorem flat_get {α β : Type} (sz : Nat) (enc : α → List β) : ∀ (l : List α), (∀ x ∈ l, (enc x).length = sz) → ∀ (i : Nat) (x : α), l[i]? = some x → ∀ (j : Nat) (y : β), (enc x)[j]? = some y → (l.flatMap enc)[i * sz + j]? = some y := by
  intro l
  induction l with
  | nil => intro _ i x h; simp at h
  | cons a l ih =>
    intro hl i x hi j y hj
    rw [List.flatMap_cons]
    have ha := hl a List.mem_cons_self
    cases i with
    | zero =>
      simp at hi
      subst hi
      rw [Nat.zero_mul, Nat.zero_add, List.getElem?_append_left (List.getElem?_eq_some_iff.1 hj).1]
      exact hj
    | succ i =>
      rw [List.getElem?_append_right (by rw [ha, Nat.succ_mul]; omega), ha, show (i + 1) * sz + j - sz = i * sz + j by rw [Nat.succ_mul]; omega]
      exact ih (fun x hx => hl x (List.mem_cons_of_mem _ hx)) i x (by simpa using hi) j y hj

/-- A slice over a block that has just been laid. -/
theorem SlAt.new {α : Type} {sz : Nat} {enc : α → List Value} {w : World} (l : List α) (cs : List Value) (t : TypeId) (c : Nat) (hcs : l.flatMap enc = cs) (hsz : ∀ x ∈ l, (enc x).length = sz) (hc : l.length ≤ c) (hm : (l.length : Int) ≤ 140737488351232) :
    SlAt sz enc (w.alloc (.cells cs.toArray t)) (.slice (some ⟨w.heap.size, 0, none⟩) l.length c) l := by
  refine ⟨_, c, rfl, ⟨hc, hm⟩, .inr ⟨_, _, rfl, fun i x hi j y hj => ?_⟩⟩
  rw [blk_cell (heap_new w _), Nat.zero_add]
  have := flat_get sz enc l hsz i x hi j y hj
  rw [hcs] at this
  simpa using this

abbrev setL (s : Bs) : List Value := [wordV (word s 0), wordV (word s 1), wordV (word s 2), wordV (word s 3)]
abbrev SetsAt := SlAt 4 setL
theorem sets_new (w : World) (l : List Bs) (cs : List Value) (t : TypeId) (h : l.flatMap setL = cs) (hm : (l.length : Int) ≤ 140737488351232) : SetsAt (w.alloc (.cells cs.toArray t)) (.slice (some ⟨w.heap.size, 0, none⟩) l.length l.length) l :=
  SlAt.new l cs t _ h (fun _ _ => rfl) (Nat.le_refl _) hm

theorem sets_cells {w wr : World} {l : List Bs} {b off k : Nat} (h : ∀ i x, l[i]? = some x → ∀ j y, (setL x)[j]? = some y → w.cell? ⟨b, off + i * 4 + j, none⟩ = some y) (hx : Ext G0 w wr) (hk : k < l.length) :
    wr.cell? ⟨b, off + k * 4, none⟩ = some (wordV (word l[k] 0)) ∧ wr.cell? ⟨b, off + k * 4 + 1, none⟩ = some (wordV (word l[k] 1)) ∧ wr.cell? ⟨b, off + k * 4 + 2, none⟩ = some (wordV (word l[k] 2)) ∧ wr.cell? ⟨b, off + k * 4 + 3, none⟩ = some (wordV (word l[k] 3)) := by
  have h := h k l[k] (by simp [hk])
  exact ⟨cell_ext hx (h 0 _ rfl), cell_ext hx (h 1 _ rfl), cell_ext hx (h 2 _ rfl), cell_ext hx (h 3 _ rfl)⟩

set_option maxHeartbeats 1000000 in
theorem folded_any (f : FuncId) (op : W64 → W64 → W64) (hop : Opn f op) (s : Bs) (l : List Bs) (v : Value) (p : Nat) (t : TypeId) (w : World) (hv : SetsAt w v l) (hp : w.heap[p]? = some (.cells #[.func (.func f) #[] #[]] t (0, 0))) :
    Calls Tryd.prog 51 #[setV s, v, .func (.func 63) #[] #[.pointer (some ⟨p, 0, none⟩)]] w fun e w' => e = .returned (setV (l.foldl (mapW op) s)) ∧ Below w.heap.size w w' := by
  obtain ⟨A, c, rfl, hc, hv⟩ := hv
  go_enter Tryd.func51, Tryd.ntmps51
  go_wp2
  go_loopw [11] (fun i wr => ∃ k : Nat, k ≤ l.length ∧ i = .int .i64 (k : Int) ∧ wr.heap[w.heap.size]? = some (.cells (setC ((l.take k).foldl (mapW op) s)) 24 (0, 0)) ∧
      wr.heap[w.heap.size + 1]? = some (.cells (setC 0#256) 24 (0, 0)) ∧ Ext G0 w wr) (fun i _ => l.length - (intOf i).toNat)
  case atStart =>
    refine ⟨0, by omega, rfl, ?_, ?_, ?_⟩
    · exact heap_two' w _ _
    · exact heap_at _ _ _ (by simp)
    · exact ((Ext.refl _ _).alloc _).alloc _
  case round =>
    obtain ⟨k, hk, rfl, hA, hR, hx⟩ := hrel
    obtain ⟨_, hmax⟩ := hc
    by_cases hlt : k < l.length
    · rcases hv with rfl | ⟨b, off, rfl, hcell⟩
      · simp at hlt
      obtain ⟨e0, e1, e2, e3⟩ := sets_cells hcell hx hlt
      have hpp := ext_heap hx hp (fun x => x)
      have hA0 := hA
      obtain ⟨a0, a1, a2, a3⟩ := cells4 hA
      have z := blk_free hA
      have hz0 := lt_of_block hA
      have hz1 := lt_of_block hR
      clear hcell
      have tk : (l.take (k + 1)).foldl (mapW op) s = mapW op ((l.take k).foldl (mapW op) s) l[k] := by
        rw [List.take_succ_eq_append_getElem hlt, List.foldl_append]; rfl
      have TK := Lib.hid tk
      clear tk
      generalize (l.take k).foldl (mapW op) s = cur at *
      generalize l[k] = y at *
      go_wp2_with fail
      refine (wordwise1_any f op hop cur y p t _ (heap_past hpp _)).mono ?_
      rintro e w1 ⟨rfl, hb⟩
      have hx1 := Ext.of_below hb G0
      have hA1 := ext_heap hx1 (heap_past hA0 _) (fun x => x)
      have hR1 := ext_heap hx1 (heap_past hR _) (fun x => x)
      have hx2 := (hx.alloc _).trans hx1
      clear a0 a1 a2 a3 e0 e1 e2 e3 hpp hb hx1 hA hA0 hR hx
      have z1 := blk_free hA1
      obtain ⟨a0, a1, a2, a3⟩ := cells4 hA1
      go_wp2
      go_roundw
      case rel =>
        refine ⟨k + 1, by omega, by go_num, ?_, ?_, ?_⟩
        · rw [TK.out, blk_set4 hA1]
        · rw [heap_set4 (by omega)]
          exact hR1
        · exact (((hx2.set (Nat.le_refl _) _).set (Nat.le_refl _) _).set (Nat.le_refl _) _).set (Nat.le_refl _) _
      case measure => simp [intOf]; omega
    · obtain rfl : k = l.length := by omega
      obtain ⟨a0, a1, a2, a3⟩ := cells4 hA
      obtain ⟨r0, r1, r2, r3⟩ := cells4 hR
      have z := blk_free hR
      rw [List.take_length] at hA a0 a1 a2 a3
      go_wp2
      refine bodyPost_ret (v := setV (l.foldl (mapW op) s)) (by simp [results, Tryd.results51, go_sem, r0, r1, r2, r3]) rfl ⟨rfl, ?_⟩
      exact ((((hx.set (by simp) _).set (by simp) _).set (by simp) _).set (by simp) _).below

set_option maxHeartbeats 1000000 in
theorem mand_any (s : Bs) (l : List Bs) (v : Value) (w : World) (hv : SetsAt w v l) :
    Calls Tryd.prog 17 #[setV s, v] w fun e w' => e = .returned (setV (l.foldl (fun a b => a &&& b) s)) ∧ Below w.heap.size w w' := by
  have hfold : l.foldl (mapW fun x y => x &&& y) s = l.foldl (fun a b => a &&& b) s := congrArg (fun g => l.foldl g s) (funext fun a => funext fun b => mapW_and a b)
  rw [← hfold]
  clear hfold
  go_enter Tryd.func17, Tryd.ntmps17
  go_wp2
  generalize hwz : World.alloc (World.alloc w _) _ = wz
  have hA : wz.heap[w.heap.size]? = some (.cells (setC s) 24 (0, 0)) := by rw [← hwz]; exact heap_two' w _ _
  have hR : wz.heap[w.heap.size + 1]? = some (.cells (setC 0#256) 24 (0, 0)) := by rw [← hwz]; exact heap_two w _ _
  have hx : Ext G0 w wz := by rw [← hwz]; exact ((Ext.refl _ _).alloc _).alloc _
  clear hwz
  apply region_phi (leaves := (Leaf.val _) :: (Leaf.val _) :: (Leaf.ref false false (fun v w => ∃ p, v = .func (.func 63) #[] #[.pointer (some ⟨p, 0, none⟩)] ∧ w.heap[p]? = some (.cells #[.func (.func 53) #[] #[]] 81 (0, 0)))) :: (Leaf.val _) :: ([] : List Leaf)) (k := 4) (b := #[0, 0, 0, 7, 15]) (ms := []) (E := Ext G0) mixed (by kernel_rfl) rfl (by kernel_rfl) rfl
  apply owed_walk rfl
  · intro w1 hw hf
    obtain ⟨a0, a1, a2, a3⟩ := cells4 (ext_heapD hw hA (fun x => x))
    go_wp2
    exact ⟨rfl, rfl, Ext.refl _ _⟩
  · simp
  · go_simp
    try rfl
  apply owed_walk rfl
  · intro w1 hw hf
    go_wp2
    exact ⟨rfl, rfl, Ext.refl _ _⟩
  · simp
  · go_simp
    try rfl
  apply owed_walk_ref rfl
  · (rintro v w w' ⟨p, rfl, h⟩ hx; exact ⟨p, rfl, ext_heap hx h (fun x => x)⟩)
  · intro w1 hw hf
    go_wp2_with (go_at_call 52; refine (wordwise_any _ _).mono ?_; rintro e w2 ⟨rfl, rfl⟩)
    exact ⟨rfl, ⟨_, rfl, heap_new _ _⟩, (Ext.refl _ _).alloc _⟩
  · simp
  · intro v
    go_simp
    try rfl
  intro v2
  apply owed_walk rfl
  · intro w1 hw hf
    simp only [List.mem_singleton, forall_eq] at hf
    obtain ⟨p, rfl, hp⟩ := hf (by decide)
    go_wp2_with (go_at_call 51; refine (folded_any _ _ opAnd_any s l v _ _ _ ((hv.ext hx).ext hw.ofDrew) hp).mono ?_; rintro e w2 ⟨rfl, hx2⟩)
    exact ⟨rfl, rfl, Ext.of_below hx2 _⟩
  · simp
  · go_simp
    try rfl
  apply owed_end
  intro w1 hw _
  unfold Tail
  have hR1 := ext_heapD hw hR (fun x => x)
  have hx1 := hx.trans hw.ofDrew
  obtain ⟨r0, r1, r2, r3⟩ := cells4 hR1
  have z := blk_free hR1
  go_wp2
  refine bodyPost_ret (v := setV (l.foldl (mapW fun x y => x &&& y) s)) (by simp [results, Tryd.results17, go_sem, r0, r1, r2, r3]) rfl ⟨rfl, ?_⟩
  exact ((((hx1.set (by simp) _).set (by simp) _).set (by simp) _).set (by simp) _).below

set_option maxHeartbeats 1000000 in
theorem mor_any (s : Bs) (l : List Bs) (v : Value) (w : World) (hv : SetsAt w v l) :
    Calls Tryd.prog 21 #[setV s, v] w fun e w' => e = .returned (setV (l.foldl (fun a b => a ||| b) s)) ∧ Below w.heap.size w w' := by
  have hfold : l.foldl (mapW fun x y => x ||| y) s = l.foldl (fun a b => a ||| b) s := congrArg (fun g => l.foldl g s) (funext fun a => funext fun b => mapW_or a b)
  rw [← hfold]
  clear hfold
  go_enter Tryd.func21, Tryd.ntmps21
  go_wp2
  generalize hwz : World.alloc (World.alloc w _) _ = wz
  have hA : wz.heap[w.heap.size]? = some (.cells (setC s) 24 (0, 0)) := by rw [← hwz]; exact heap_two' w _ _
  have hR : wz.heap[w.heap.size + 1]? = some (.cells (setC 0#256) 24 (0, 0)) := by rw [← hwz]; exact heap_two w _ _
  have hx : Ext G0 w wz := by rw [← hwz]; exact ((Ext.refl _ _).alloc _).alloc _
  clear hwz
  apply region_phi (leaves := (Leaf.val _) :: (Leaf.val _) :: (Leaf.ref false false (fun v w => ∃ p, v = .func (.func 63) #[] #[.pointer (some ⟨p, 0, none⟩)] ∧ w.heap[p]? = some (.cells #[.func (.func 54) #[] #[]] 81 (0, 0)))) :: (Leaf.val _) :: ([] : List Leaf)) (k := 4) (b := #[0, 0, 0, 7, 15]) (ms := []) (E := Ext G0) mixed (by kernel_rfl) rfl (by kernel_rfl) rfl
  apply owed_walk rfl
  · intro w1 hw hf
    obtain ⟨a0, a1, a2, a3⟩ := cells4 (ext_heapD hw hA (fun x => x))
    go_wp2
    exact ⟨rfl, rfl, Ext.refl _ _⟩
  · simp
  · go_simp
    try rfl
  apply owed_walk rfl
  · intro w1 hw hf
    go_wp2
    exact ⟨rfl, rfl, Ext.refl _ _⟩
  · simp
  · go_simp
    try rfl
  apply owed_walk_ref rfl
  · (rintro v w w' ⟨p, rfl, h⟩ hx; exact ⟨p, rfl, ext_heap hx h (fun x => x)⟩)
  · intro w1 hw hf
    go_wp2_with (go_at_call 52; refine (wordwise_any _ _).mono ?_; rintro e w2 ⟨rfl, rfl⟩)
    exact ⟨rfl, ⟨_, rfl, heap_new _ _⟩, (Ext.refl _ _).alloc _⟩
  · simp
  · intro v
    go_simp
    try rfl
  intro v2
  apply owed_walk rfl
  · intro w1 hw hf
    simp only [List.mem_singleton, forall_eq] at hf
    obtain ⟨p, rfl, hp⟩ := hf (by decide)
    go_wp2_with (go_at_call 51; refine (folded_any _ _ opOr_any s l v _ _ _ ((hv.ext hx).ext hw.ofDrew) hp).mono ?_; rintro e w2 ⟨rfl, hx2⟩)
    exact ⟨rfl, rfl, Ext.of_below hx2 _⟩
  · simp
  · go_simp
    try rfl
  apply owed_end
  intro w1 hw _
  unfold Tail
  have hR1 := ext_heapD hw hR (fun x => x)
  have hx1 := hx.trans hw.ofDrew
  obtain ⟨r0, r1, r2, r3⟩ := cells4 hR1
  have z := blk_free hR1
  go_wp2
  refine bodyPost_ret (v := setV (l.foldl (mapW fun x y => x ||| y) s)) (by simp [results, Tryd.results21, go_sem, r0, r1, r2, r3]) rfl ⟨rfl, ?_⟩
  exact ((((hx1.set (by simp) _).set (by simp) _).set (by simp) _).set (by simp) _).below

end Go.Proofs.YtejialnbelleeaaDoor
