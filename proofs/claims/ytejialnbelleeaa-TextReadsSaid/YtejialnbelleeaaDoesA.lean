/-
  The law TextReads: does, at While, Number, Hex.
-/
import Derived.Test.YtejialnbelleeaaTxtQ0
import Derived.Test.YtejialnbelleeaaPhiM
import Derived.Test.YtejialnbelleeaaRdrD
import Derived.Test.YtejialnbelleeaaRdrI
import Derived.Test.YtejialnbelleeaaRdrJ
import Derived.Test.YtejialnbelleeaaRdrB
namespace Go.Proofs.Ytejialnbelleeaa
open Go Go.RowKit

/-- What it comes to: the reader stands there, and the other one says so. -/
def DoesPost (g : Nat) (s : ByteArray) (p : Nat) (er : Int) (w : World) (e : Ending) (w' : World) : Prop := e = .returned (.tuple #[rdV s p er, .bool true]) ∧ RdAt w' g s p er ∧ Ext (G1 g) w w'

set_option maxRecDepth 100000 in
set_option maxHeartbeats 3000000 in
theorem doesWhile_any (k0 : Int) (l : List ByteArray) (A : Option Addr) (c : Nat) (a : Bs) (n : Int) (pl : Bool) (g p : Nat) (s : ByteArray) (er : Int) (w : World) (hr : RdAt w g s p er) (hk : CallR.kind ⟨k0, l, A, c, a, n, pl⟩ = 3) (hp : p ≤ s.size) (hs : s.size ≤ 140737488351232) (hn1 : n ≤ 9223372036854775807) :
    Calls Try.prog 25 #[.pointer (some ⟨g, 0, none⟩), rdV s p er, callV ⟨k0, l, A, c, a, n, pl⟩] w (DoesPost g s (stepR p er (whileR s a p)).pos (stepR p er (whileR s a p)).err w) := by
  have hK := fun w => kind_any ⟨k0, l, A, c, a, n, pl⟩ w
  rw [hk] at hK
  replace hK := Lib.hid hK
  have HRR := Lib.hid (fun w' : World => rWhile_any s p er a w' hp hs)
  have HPP := Lib.hid (fun (w' : World) (hrw : RdAt w' g s p er) => While_any g p s er a w' hrw hp hs)
  obtain ⟨st, hst⟩ : ∃ st, st = stepR p er (whileR s a p) := ⟨_, rfl⟩
  rw [← hst] at HRR HPP ⊢
  clear hk hst hn1
  have hlg := hr.lt
  go_enter Try.func25, Try.ntmps25
  go_wp2_with fail
  generalize hwz : World.alloc (World.alloc (World.alloc w _) _) _ = wz
  have fW : wz.heap[w.heap.size]? = some (.cells (rdC s p er) 52 (0, 0)) := by rw [← hwz]; exact heap_past (heap_past (heap_new w _) _) _
  have fC : wz.heap[w.heap.size + 1]? = some (.cells (callC ⟨k0, l, A, c, a, n, pl⟩) 27 (0, 0)) := by rw [← hwz]; exact heap_past (heap_two w _ _) _
  have fO : wz.heap[w.heap.size + 1 + 1]? = some (.cells (#[.string ByteArray.empty, .int .i64 0, .int .i64 0]) 52 (0, 0)) := by rw [← hwz]; exact heap_at _ _ _ (by simp)
  have y0 : Ext G0 w wz := by rw [← hwz]; exact (((Ext.refl _ _).alloc _).alloc _).alloc _
  clear hwz
  refine (hK.out _).mono ?_
  rintro e w1 ⟨rfl, x1⟩
  replace fW := ext_heap x1 fW (fun x => x)
  replace fC := ext_heap x1 fC (fun x => x)
  replace fO := ext_heap x1 fO (fun x => x)
  replace y0 := y0.trans x1
  clear hK x1
  have fW_0 := blk_cell fW 0
  have fW_1 := blk_cell fW 1
  have fW_2 := blk_cell fW 2
  have fWz := blk_free fW
  have fWl := lt_of_block fW
  have fC_0 := blk_cell fC 0
  have fC_1 := blk_cell fC 1
  have fC_2 := blk_cell fC 2
  have fC_3 := blk_cell fC 3
  have fC_4 := blk_cell fC 4
  have fC_5 := blk_cell fC 5
  have fC_6 := blk_cell fC 6
  have fC_7 := blk_cell fC 7
  have fCz := blk_free fC
  have fCl := lt_of_block fC
  go_wp2_with fail
  refine (HRR.out _).mono ?_
  rintro e w3 ⟨rfl, x3⟩
  clear fW_0 fW_1 fW_2 fWz fC_0 fC_1 fC_2 fC_3 fC_4 fC_5 fC_6 fC_7 fCz HRR
  replace fW := ext_heap x3 fW (fun x => x)
  replace fC := ext_heap x3 fC (fun x => x)
  replace fO := ext_heap x3 fO (fun x => x)
  replace y0 := y0.trans x3
  clear x3
  go_wp2_with fail
  generalize hwz : World.alloc w3 _ = wt
  have fT : wt.heap[w3.heap.size]? = some (.cells (rdC s st.pos st.err) 52 (0, 0)) := by rw [← hwz]; exact heap_new w3 _
  have yT : Ext G0 w3 wt := by rw [← hwz]; exact (Ext.refl _ _).alloc _
  clear hwz
  have hl3 := lt_of_block fO
  replace fW := ext_heap yT fW (fun x => x)
  replace fC := ext_heap yT fC (fun x => x)
  replace fO := ext_heap yT fO (fun x => x)
  replace y0 := y0.trans yT
  have hls := lt_of_block fT
  have hl0 := lt_of_block fO
  have hgw : w.heap.size ≤ w3.heap.size := by omega
  clear yT
  have hr5 := hr.ext y0 (fun x => x)
  have y1 := y0.up (G2 g (w.heap.size + 1 + 1))
  clear y0
  go_wp2_with fail
  apply region_phiM (leaves := (Leaf.val _) :: (Leaf.val _) :: (Leaf.val _) :: (Leaf.val _) :: (Leaf.ref true true (fun v w' => v = strV (st.val ⟨#[]⟩) ∧ RdAt w' g s st.pos st.err ∧ w'.heap[w.heap.size + 1 + 1]? = some (.cells #[.string ByteArray.empty, .int .i64 0, .int .i64 0] 52 (0, 0)))) :: (Leaf.val _) :: (Leaf.val _) :: (Leaf.ref true true (fun _ w' => RdAt w' g s st.pos st.err ∧ w'.heap[w.heap.size + 1 + 1]? = some (.cells (rdC s st.pos st.err) 52 (0, 0)))) :: ([] : List Leaf)) (k := 8) (b := #[0, 0, 0, 4, 14, 0, 62, 31, 255]) (ms := [4, 7]) (E := Ext (G2 g (w.heap.size + 1 + 1))) mixed (by kernel_rfl) rfl (by kernel_rfl) rfl
  apply owedM_walk rfl
  · intro w1 hw hz hf
    have fT_0 := blk_cell (ext_heapG2 hw fT (by omega) (by omega)) 0
    have fT_1 := blk_cell (ext_heapG2 hw fT (by omega) (by omega)) 1
    have fT_2 := blk_cell (ext_heapG2 hw fT (by omega) (by omega)) 2
    go_wp2
    exact ⟨rfl, rfl, Ext.refl _ _⟩
  · simp
  · go_simp
    try rfl
  apply owedM_walk rfl
  · intro w1 hw hz hf
    go_wp2
    exact ⟨rfl, rfl, Ext.refl _ _⟩
  · simp
  · go_simp
    try rfl
  apply owedM_walk rfl
  · intro w1 hw hz hf
    go_wp2
    exact ⟨rfl, rfl, Ext.refl _ _⟩
  · simp
  · go_simp
    try rfl
  apply owedM_walk rfl
  · intro w1 hw hz hf
    have fC_0 := blk_cell (ext_heapG2 hw fC (by omega) (by omega)) 0
    have fC_1 := blk_cell (ext_heapG2 hw fC (by omega) (by omega)) 1
    have fC_2 := blk_cell (ext_heapG2 hw fC (by omega) (by omega)) 2
    have fC_3 := blk_cell (ext_heapG2 hw fC (by omega) (by omega)) 3
    have fC_4 := blk_cell (ext_heapG2 hw fC (by omega) (by omega)) 4
    have fC_5 := blk_cell (ext_heapG2 hw fC (by omega) (by omega)) 5
    have fC_6 := blk_cell (ext_heapG2 hw fC (by omega) (by omega)) 6
    have fC_7 := blk_cell (ext_heapG2 hw fC (by omega) (by omega)) 7
    go_wp2
    exact ⟨rfl, rfl, Ext.refl _ _⟩
  · simp
  · go_simp
    try rfl
  apply owedM_walk_ref rfl
  · exact fun v w w' h hx => ⟨h.1, h.2.1.ext hx (fun x => x), ext_heap hx h.2.2 (fun x => x)⟩
  · intro w1 hw hz hf
    have h0 := hz (by kernel_rfl)
    go_wp2_with (go_at_call 15; ((with_reducible refine (HPP.out _ (hr5.ext h0.ofDrew (fun x => x))).mono ?_); rintro e w2 ⟨rfl, hr2, hx2⟩))
    exact ⟨rfl, ⟨rfl, hr2, ext_heap hx2 (ext_heap h0.ofDrew fO (fun x => x)) (G1.ne (by omega))⟩, hx2.mono (fun k hk => .inl hk)⟩
  · simp
  · intro v
    go_simp
    try rfl
  intro v4
  apply owedM_walk rfl
  · intro w1 hw hz hf
    go_wp2
    exact ⟨rfl, rfl, Ext.refl _ _⟩
  · simp
  · go_simp
    try rfl
  apply owedM_walk rfl
  · intro w1 hw hz hf
    have hv4 := hf _ (List.Mem.tail _ (List.Mem.head _)) (by dsimp only; decide)
    obtain ⟨_, rfl, _⟩ := hv4
    go_wp2
    exact ⟨rfl, rfl, Ext.refl _ _⟩
  · simp
  · go_simp
    try rfl
  apply owedM_walk_st rfl
  · exact fun w w' h hx => ⟨h.1.ext hx (fun x => x), ext_heap hx h.2 (fun x => x)⟩
  · intro w1 hw hz hf
    have hv4 := hf _ (List.Mem.head _) (by dsimp only; decide)
    obtain ⟨rfl, hr7, fZ⟩ := hv4
    have z0 := blk_cell fZ 0
    have z1 := blk_cell fZ 1
    have z2 := blk_cell fZ 2
    have zz := blk_free fZ
    have zl := lt_of_block fZ
    go_wp2
    exact ⟨rfl, ⟨((hr7.store (by dsimp only; omega) _).store (by dsimp only; omega) _).store (by dsimp only; omega) _, blk_set (blk_set (blk_set fZ 0 _) 1 _) 2 _⟩, (((Ext.refl _ _).setCell (.inl (.inr rfl)) _).setCell (.inl (.inr rfl)) _).setCell (.inl (.inr rfl)) _⟩
  apply owedM_end
  intro w5 hw hf
  have hv7 := hf _ (List.Mem.head _) (by kernel_rfl)
  have hv4 := hf _ (List.Mem.tail _ (List.Mem.tail _ (List.Mem.tail _ (List.Mem.head _)))) (by kernel_rfl)
  clear hf
  unfold Tail
  replace fC := ext_heapG2 hw fC (by omega) (by omega)
  replace fT := ext_heapG2 hw fT (by omega) (by omega)
  replace y1 := y1.trans hw.ofDrew
  clear hw
  clear fO
  obtain ⟨_, rfl, _⟩ := hv4
  obtain ⟨hr6, fO6⟩ := hv7
  have fO6_0 := blk_cell fO6 0
  have fO6_1 := blk_cell fO6 1
  have fO6_2 := blk_cell fO6 2
  have fO6z := blk_free fO6
  have fO6l := lt_of_block fO6
  go_wp2
  refine bodyPost_ret (v := .tuple #[rdV s st.pos st.err, .bool true]) (by simp [results, Try.results25, go_sem, fO6_0, fO6_1, fO6_2]) rfl ⟨rfl, ?_, ?_⟩
  · exact hr6
  · exact ⟨y1.os, y1.tape, y1.output, y1.size, fun k hk hg => y1.block k hk (fun e => e.elim hg (fun e => by omega))⟩
set_option maxRecDepth 100000 in
set_option maxHeartbeats 3000000 in
theorem doesNumber_any (k0 : Int) (l : List ByteArray) (A : Option Addr) (c : Nat) (a : Bs) (n : Int) (pl : Bool) (g p : Nat) (s : ByteArray) (er : Int) (w : World) (hr : RdAt w g s p er) (hk : CallR.kind ⟨k0, l, A, c, a, n, pl⟩ = 5) (hp : p ≤ s.size) (hs : s.size ≤ 140737488351232) (hn1 : n ≤ 9223372036854775807) :
    Calls Try.prog 25 #[.pointer (some ⟨g, 0, none⟩), rdV s p er, callV ⟨k0, l, A, c, a, n, pl⟩] w (DoesPost g s (stepR p er (numR s p n pl)).pos (stepR p er (numR s p n pl)).err w) := by
  have hK := fun w => kind_any ⟨k0, l, A, c, a, n, pl⟩ w
  rw [hk] at hK
  replace hK := Lib.hid hK
  have HRR := Lib.hid (fun w' : World => rNumber_any s p er n pl w' hp hs hn1)
  have HPP := Lib.hid (fun (w' : World) (hrw : RdAt w' g s p er) => Number_any g p s er n pl w' hrw hp hs hn1)
  obtain ⟨st, hst⟩ : ∃ st, st = stepR p er (numR s p n pl) := ⟨_, rfl⟩
  rw [← hst] at HRR HPP ⊢
  clear hk hst hn1
  have hlg := hr.lt
  go_enter Try.func25, Try.ntmps25
  go_wp2_with fail
  generalize hwz : World.alloc (World.alloc (World.alloc w _) _) _ = wz
  have fW : wz.heap[w.heap.size]? = some (.cells (rdC s p er) 52 (0, 0)) := by rw [← hwz]; exact heap_past (heap_past (heap_new w _) _) _
  have fC : wz.heap[w.heap.size + 1]? = some (.cells (callC ⟨k0, l, A, c, a, n, pl⟩) 27 (0, 0)) := by rw [← hwz]; exact heap_past (heap_two w _ _) _
  have fO : wz.heap[w.heap.size + 1 + 1]? = some (.cells (#[.string ByteArray.empty, .int .i64 0, .int .i64 0]) 52 (0, 0)) := by rw [← hwz]; exact heap_at _ _ _ (by simp)
  have y0 : Ext G0 w wz := by rw [← hwz]; exact (((Ext.refl _ _).alloc _).alloc _).alloc _
  clear hwz
  refine (hK.out _).mono ?_
  rintro e w1 ⟨rfl, x1⟩
  replace fW := ext_heap x1 fW (fun x => x)
  replace fC := ext_heap x1 fC (fun x => x)
  replace fO := ext_heap x1 fO (fun x => x)
  replace y0 := y0.trans x1
  clear hK x1
  have fW_0 := blk_cell fW 0
  have fW_1 := blk_cell fW 1
  have fW_2 := blk_cell fW 2
  have fWz := blk_free fW
  have fWl := lt_of_block fW
  have fC_0 := blk_cell fC 0
  have fC_1 := blk_cell fC 1
  have fC_2 := blk_cell fC 2
  have fC_3 := blk_cell fC 3
  have fC_4 := blk_cell fC 4
  have fC_5 := blk_cell fC 5
  have fC_6 := blk_cell fC 6
  have fC_7 := blk_cell fC 7
  have fCz := blk_free fC
  have fCl := lt_of_block fC
  go_wp2_with fail
  refine (HRR.out _).mono ?_
  rintro e w3 ⟨rfl, x3⟩
  clear fW_0 fW_1 fW_2 fWz fC_0 fC_1 fC_2 fC_3 fC_4 fC_5 fC_6 fC_7 fCz HRR
  replace fW := ext_heap x3 fW (fun x => x)
  replace fC := ext_heap x3 fC (fun x => x)
  replace fO := ext_heap x3 fO (fun x => x)
  replace y0 := y0.trans x3
  clear x3
  go_wp2_with fail
  generalize hwz : World.alloc w3 _ = wt
  have fT : wt.heap[w3.heap.size]? = some (.cells (rdC s st.pos st.err) 52 (0, 0)) := by rw [← hwz]; exact heap_new w3 _
  have yT : Ext G0 w3 wt := by rw [← hwz]; exact (Ext.refl _ _).alloc _
  clear hwz
  have hl3 := lt_of_block fO
  replace fW := ext_heap yT fW (fun x => x)
  replace fC := ext_heap yT fC (fun x => x)
  replace fO := ext_heap yT fO (fun x => x)
  replace y0 := y0.trans yT
  have hls := lt_of_block fT
  have hl0 := lt_of_block fO
  have hgw : w.heap.size ≤ w3.heap.size := by omega
  clear yT
  have hr5 := hr.ext y0 (fun x => x)
  have y1 := y0.up (G2 g (w.heap.size + 1 + 1))
  clear y0
  go_wp2_with fail
  apply region_phiM (leaves := (Leaf.val _) :: (Leaf.val _) :: (Leaf.val _) :: (Leaf.val _) :: (Leaf.val _) :: (Leaf.val _) :: (Leaf.ref true true (fun v w' => v = intV (st.val 0) ∧ RdAt w' g s st.pos st.err ∧ w'.heap[w.heap.size + 1 + 1]? = some (.cells #[.string ByteArray.empty, .int .i64 0, .int .i64 0] 52 (0, 0)))) :: (Leaf.val _) :: (Leaf.val _) :: (Leaf.ref true true (fun _ w' => RdAt w' g s st.pos st.err ∧ w'.heap[w.heap.size + 1 + 1]? = some (.cells (rdC s st.pos st.err) 52 (0, 0)))) :: ([] : List Leaf)) (k := 10) (b := #[0, 0, 0, 4, 0, 16, 62, 0, 254, 127, 1023]) (ms := [6, 9]) (E := Ext (G2 g (w.heap.size + 1 + 1))) mixed (by kernel_rfl) rfl (by kernel_rfl) rfl
  apply owedM_walk rfl
  · intro w1 hw hz hf
    have fT_0 := blk_cell (ext_heapG2 hw fT (by omega) (by omega)) 0
    have fT_1 := blk_cell (ext_heapG2 hw fT (by omega) (by omega)) 1
    have fT_2 := blk_cell (ext_heapG2 hw fT (by omega) (by omega)) 2
    go_wp2
    exact ⟨rfl, rfl, Ext.refl _ _⟩
  · simp
  · go_simp
    try rfl
  apply owedM_walk rfl
  · intro w1 hw hz hf
    go_wp2
    exact ⟨rfl, rfl, Ext.refl _ _⟩
  · simp
  · go_simp
    try rfl
  apply owedM_walk rfl
  · intro w1 hw hz hf
    go_wp2
    exact ⟨rfl, rfl, Ext.refl _ _⟩
  · simp
  · go_simp
    try rfl
  apply owedM_walk rfl
  · intro w1 hw hz hf
    have fC_0 := blk_cell (ext_heapG2 hw fC (by omega) (by omega)) 0
    have fC_1 := blk_cell (ext_heapG2 hw fC (by omega) (by omega)) 1
    have fC_2 := blk_cell (ext_heapG2 hw fC (by omega) (by omega)) 2
    have fC_3 := blk_cell (ext_heapG2 hw fC (by omega) (by omega)) 3
    have fC_4 := blk_cell (ext_heapG2 hw fC (by omega) (by omega)) 4
    have fC_5 := blk_cell (ext_heapG2 hw fC (by omega) (by omega)) 5
    have fC_6 := blk_cell (ext_heapG2 hw fC (by omega) (by omega)) 6
    have fC_7 := blk_cell (ext_heapG2 hw fC (by omega) (by omega)) 7
    go_wp2
    exact ⟨rfl, rfl, Ext.refl _ _⟩
  · simp
  · go_simp
    try rfl
  apply owedM_walk rfl
  · intro w1 hw hz hf
    go_wp2
    exact ⟨rfl, rfl, Ext.refl _ _⟩
  · simp
  · go_simp
    try rfl
  apply owedM_walk rfl
  · intro w1 hw hz hf
    have fC_0 := blk_cell (ext_heapG2 hw fC (by omega) (by omega)) 0
    have fC_1 := blk_cell (ext_heapG2 hw fC (by omega) (by omega)) 1
    have fC_2 := blk_cell (ext_heapG2 hw fC (by omega) (by omega)) 2
    have fC_3 := blk_cell (ext_heapG2 hw fC (by omega) (by omega)) 3
    have fC_4 := blk_cell (ext_heapG2 hw fC (by omega) (by omega)) 4
    have fC_5 := blk_cell (ext_heapG2 hw fC (by omega) (by omega)) 5
    have fC_6 := blk_cell (ext_heapG2 hw fC (by omega) (by omega)) 6
    have fC_7 := blk_cell (ext_heapG2 hw fC (by omega) (by omega)) 7
    go_wp2
    exact ⟨rfl, rfl, Ext.refl _ _⟩
  · simp
  · go_simp
    try rfl
  apply owedM_walk_ref rfl
  · exact fun v w w' h hx => ⟨h.1, h.2.1.ext hx (fun x => x), ext_heap hx h.2.2 (fun x => x)⟩
  · intro w1 hw hz hf
    have h0 := hz (by kernel_rfl)
    go_wp2_with (go_at_call 18; ((with_reducible refine (HPP.out _ (hr5.ext h0.ofDrew (fun x => x))).mono ?_); rintro e w2 ⟨rfl, hr2, hx2⟩))
    exact ⟨rfl, ⟨rfl, hr2, ext_heap hx2 (ext_heap h0.ofDrew fO (fun x => x)) (G1.ne (by omega))⟩, hx2.mono (fun k hk => .inl hk)⟩
  · simp
  · intro v
    go_simp
    try rfl
  intro v6
  apply owedM_walk rfl
  · intro w1 hw hz hf
    go_wp2
    exact ⟨rfl, rfl, Ext.refl _ _⟩
  · simp
  · go_simp
    try rfl
  apply owedM_walk rfl
  · intro w1 hw hz hf
    have hv6 := hf _ (List.Mem.tail _ (List.Mem.head _)) (by dsimp only; decide)
    obtain ⟨_, rfl, _⟩ := hv6
    go_wp2
    exact ⟨rfl, rfl, Ext.refl _ _⟩
  · simp
  · go_simp
    try rfl
  apply owedM_walk_st rfl
  · exact fun w w' h hx => ⟨h.1.ext hx (fun x => x), ext_heap hx h.2 (fun x => x)⟩
  · intro w1 hw hz hf
    have hv6 := hf _ (List.Mem.head _) (by dsimp only; decide)
    obtain ⟨rfl, hr7, fZ⟩ := hv6
    have z0 := blk_cell fZ 0
    have z1 := blk_cell fZ 1
    have z2 := blk_cell fZ 2
    have zz := blk_free fZ
    have zl := lt_of_block fZ
    go_wp2
    exact ⟨rfl, ⟨((hr7.store (by dsimp only; omega) _).store (by dsimp only; omega) _).store (by dsimp only; omega) _, blk_set (blk_set (blk_set fZ 0 _) 1 _) 2 _⟩, (((Ext.refl _ _).setCell (.inl (.inr rfl)) _).setCell (.inl (.inr rfl)) _).setCell (.inl (.inr rfl)) _⟩
  apply owedM_end
  intro w5 hw hf
  have hv9 := hf _ (List.Mem.head _) (by kernel_rfl)
  have hv6 := hf _ (List.Mem.tail _ (List.Mem.tail _ (List.Mem.tail _ (List.Mem.head _)))) (by kernel_rfl)
  clear hf
  unfold Tail
  replace fC := ext_heapG2 hw fC (by omega) (by omega)
  replace fT := ext_heapG2 hw fT (by omega) (by omega)
  replace y1 := y1.trans hw.ofDrew
  clear hw
  clear fO
  obtain ⟨_, rfl, _⟩ := hv6
  obtain ⟨hr6, fO6⟩ := hv9
  have fO6_0 := blk_cell fO6 0
  have fO6_1 := blk_cell fO6 1
  have fO6_2 := blk_cell fO6 2
  have fO6z := blk_free fO6
  have fO6l := lt_of_block fO6
  go_wp2
  refine bodyPost_ret (v := .tuple #[rdV s st.pos st.err, .bool true]) (by simp [results, Try.results25, go_sem, fO6_0, fO6_1, fO6_2]) rfl ⟨rfl, ?_, ?_⟩
  · exact hr6
  · exact ⟨y1.os, y1.tape, y1.output, y1.size, fun k hk hg => y1.block k hk (fun e => e.elim hg (fun e => by omega))⟩
set_option maxRecDepth 100000 in
set_option maxHeartbeats 3000000 in
theorem doesHex_any (k0 : Int) (l : List ByteArray) (A : Option Addr) (c : Nat) (a : Bs) (n : Int) (pl : Bool) (g p : Nat) (s : ByteArray) (er : Int) (w : World) (hr : RdAt w g s p er) (hk : CallR.kind ⟨k0, l, A, c, a, n, pl⟩ = 6) (hp : p ≤ s.size) (hs : s.size ≤ 140737488351232) (hn1 : n ≤ 9223372036854775807) :
    Calls Try.prog 25 #[.pointer (some ⟨g, 0, none⟩), rdV s p er, callV ⟨k0, l, A, c, a, n, pl⟩] w (DoesPost g s (stepR p er (hexR s p n)).pos (stepR p er (hexR s p n)).err w) := by
  have hK := fun w => kind_any ⟨k0, l, A, c, a, n, pl⟩ w
  rw [hk] at hK
  replace hK := Lib.hid hK
  have HRR := Lib.hid (fun w' : World => rHex_any s p er n w' hp hs)
  have HPP := Lib.hid (fun (w' : World) (hrw : RdAt w' g s p er) => Hex_any g p s er n w' hrw hp hs)
  obtain ⟨st, hst⟩ : ∃ st, st = stepR p er (hexR s p n) := ⟨_, rfl⟩
  rw [← hst] at HRR HPP ⊢
  clear hk hst hn1
  have hlg := hr.lt
  go_enter Try.func25, Try.ntmps25
  go_wp2_with fail
  generalize hwz : World.alloc (World.alloc (World.alloc w _) _) _ = wz
  have fW : wz.heap[w.heap.size]? = some (.cells (rdC s p er) 52 (0, 0)) := by rw [← hwz]; exact heap_past (heap_past (heap_new w _) _) _
  have fC : wz.heap[w.heap.size + 1]? = some (.cells (callC ⟨k0, l, A, c, a, n, pl⟩) 27 (0, 0)) := by rw [← hwz]; exact heap_past (heap_two w _ _) _
  have fO : wz.heap[w.heap.size + 1 + 1]? = some (.cells (#[.string ByteArray.empty, .int .i64 0, .int .i64 0]) 52 (0, 0)) := by rw [← hwz]; exact heap_at _ _ _ (by simp)
  have y0 : Ext G0 w wz := by rw [← hwz]; exact (((Ext.refl _ _).alloc _).alloc _).alloc _
  clear hwz
  refine (hK.out _).mono ?_
  rintro e w1 ⟨rfl, x1⟩
  replace fW := ext_heap x1 fW (fun x => x)
  replace fC := ext_heap x1 fC (fun x => x)
  replace fO := ext_heap x1 fO (fun x => x)
  replace y0 := y0.trans x1
  clear hK x1
  have fW_0 := blk_cell fW 0
  have fW_1 := blk_cell fW 1
  have fW_2 := blk_cell fW 2
  have fWz := blk_free fW
  have fWl := lt_of_block fW
  have fC_0 := blk_cell fC 0
  have fC_1 := blk_cell fC 1
  have fC_2 := blk_cell fC 2
  have fC_3 := blk_cell fC 3
  have fC_4 := blk_cell fC 4
  have fC_5 := blk_cell fC 5
  have fC_6 := blk_cell fC 6
  have fC_7 := blk_cell fC 7
  have fCz := blk_free fC
  have fCl := lt_of_block fC
  go_wp2_with fail
  refine (HRR.out _).mono ?_
  rintro e w3 ⟨rfl, x3⟩
  clear fW_0 fW_1 fW_2 fWz fC_0 fC_1 fC_2 fC_3 fC_4 fC_5 fC_6 fC_7 fCz HRR
  replace fW := ext_heap x3 fW (fun x => x)
  replace fC := ext_heap x3 fC (fun x => x)
  replace fO := ext_heap x3 fO (fun x => x)
  replace y0 := y0.trans x3
  clear x3
  go_wp2_with fail
  generalize hwz : World.alloc w3 _ = wt
  have fT : wt.heap[w3.heap.size]? = some (.cells (rdC s st.pos st.err) 52 (0, 0)) := by rw [← hwz]; exact heap_new w3 _
  have yT : Ext G0 w3 wt := by rw [← hwz]; exact (Ext.refl _ _).alloc _
  clear hwz
  have hl3 := lt_of_block fO
  replace fW := ext_heap yT fW (fun x => x)
  replace fC := ext_heap yT fC (fun x => x)
  replace fO := ext_heap yT fO (fun x => x)
  replace y0 := y0.trans yT
  have hls := lt_of_block fT
  have hl0 := lt_of_block fO
  have hgw : w.heap.size ≤ w3.heap.size := by omega
  clear yT
  have hr5 := hr.ext y0 (fun x => x)
  have y1 := y0.up (G2 g (w.heap.size + 1 + 1))
  clear y0
  go_wp2_with fail
  apply region_phiM (leaves := (Leaf.val _) :: (Leaf.val _) :: (Leaf.val _) :: (Leaf.val _) :: (Leaf.ref true true (fun v w' => v = intV (st.val 0) ∧ RdAt w' g s st.pos st.err ∧ w'.heap[w.heap.size + 1 + 1]? = some (.cells #[.string ByteArray.empty, .int .i64 0, .int .i64 0] 52 (0, 0)))) :: (Leaf.val _) :: (Leaf.val _) :: (Leaf.ref true true (fun _ w' => RdAt w' g s st.pos st.err ∧ w'.heap[w.heap.size + 1 + 1]? = some (.cells (rdC s st.pos st.err) 52 (0, 0)))) :: ([] : List Leaf)) (k := 8) (b := #[0, 0, 0, 4, 14, 0, 62, 31, 255]) (ms := [4, 7]) (E := Ext (G2 g (w.heap.size + 1 + 1))) mixed (by kernel_rfl) rfl (by kernel_rfl) rfl
  apply owedM_walk rfl
  · intro w1 hw hz hf
    have fT_0 := blk_cell (ext_heapG2 hw fT (by omega) (by omega)) 0
    have fT_1 := blk_cell (ext_heapG2 hw fT (by omega) (by omega)) 1
    have fT_2 := blk_cell (ext_heapG2 hw fT (by omega) (by omega)) 2
    go_wp2
    exact ⟨rfl, rfl, Ext.refl _ _⟩
  · simp
  · go_simp
    try rfl
  apply owedM_walk rfl
  · intro w1 hw hz hf
    go_wp2
    exact ⟨rfl, rfl, Ext.refl _ _⟩
  · simp
  · go_simp
    try rfl
  apply owedM_walk rfl
  · intro w1 hw hz hf
    go_wp2
    exact ⟨rfl, rfl, Ext.refl _ _⟩
  · simp
  · go_simp
    try rfl
  apply owedM_walk rfl
  · intro w1 hw hz hf
    have fC_0 := blk_cell (ext_heapG2 hw fC (by omega) (by omega)) 0
    have fC_1 := blk_cell (ext_heapG2 hw fC (by omega) (by omega)) 1
    have fC_2 := blk_cell (ext_heapG2 hw fC (by omega) (by omega)) 2
    have fC_3 := blk_cell (ext_heapG2 hw fC (by omega) (by omega)) 3
    have fC_4 := blk_cell (ext_heapG2 hw fC (by omega) (by omega)) 4
    have fC_5 := blk_cell (ext_heapG2 hw fC (by omega) (by omega)) 5
    have fC_6 := blk_cell (ext_heapG2 hw fC (by omega) (by omega)) 6
    have fC_7 := blk_cell (ext_heapG2 hw fC (by omega) (by omega)) 7
    go_wp2
    exact ⟨rfl, rfl, Ext.refl _ _⟩
  · simp
  · go_simp
    try rfl
  apply owedM_walk_ref rfl
  · exact fun v w w' h hx => ⟨h.1, h.2.1.ext hx (fun x => x), ext_heap hx h.2.2 (fun x => x)⟩
  · intro w1 hw hz hf
    have h0 := hz (by kernel_rfl)
    go_wp2_with (go_at_call 19; ((with_reducible refine (HPP.out _ (hr5.ext h0.ofDrew (fun x => x))).mono ?_); rintro e w2 ⟨rfl, hr2, hx2⟩))
    exact ⟨rfl, ⟨rfl, hr2, ext_heap hx2 (ext_heap h0.ofDrew fO (fun x => x)) (G1.ne (by omega))⟩, hx2.mono (fun k hk => .inl hk)⟩
  · simp
  · intro v
    go_simp
    try rfl
  intro v4
  apply owedM_walk rfl
  · intro w1 hw hz hf
    go_wp2
    exact ⟨rfl, rfl, Ext.refl _ _⟩
  · simp
  · go_simp
    try rfl
  apply owedM_walk rfl
  · intro w1 hw hz hf
    have hv4 := hf _ (List.Mem.tail _ (List.Mem.head _)) (by dsimp only; decide)
    obtain ⟨_, rfl, _⟩ := hv4
    go_wp2
    exact ⟨rfl, rfl, Ext.refl _ _⟩
  · simp
  · go_simp
    try rfl
  apply owedM_walk_st rfl
  · exact fun w w' h hx => ⟨h.1.ext hx (fun x => x), ext_heap hx h.2 (fun x => x)⟩
  · intro w1 hw hz hf
    have hv4 := hf _ (List.Mem.head _) (by dsimp only; decide)
    obtain ⟨rfl, hr7, fZ⟩ := hv4
    have z0 := blk_cell fZ 0
    have z1 := blk_cell fZ 1
    have z2 := blk_cell fZ 2
    have zz := blk_free fZ
    have zl := lt_of_block fZ
    go_wp2
    exact ⟨rfl, ⟨((hr7.store (by dsimp only; omega) _).store (by dsimp only; omega) _).store (by dsimp only; omega) _, blk_set (blk_set (blk_set fZ 0 _) 1 _) 2 _⟩, (((Ext.refl _ _).setCell (.inl (.inr rfl)) _).setCell (.inl (.inr rfl)) _).setCell (.inl (.inr rfl)) _⟩
  apply owedM_end
  intro w5 hw hf
  have hv7 := hf _ (List.Mem.head _) (by kernel_rfl)
  have hv4 := hf _ (List.Mem.tail _ (List.Mem.tail _ (List.Mem.tail _ (List.Mem.head _)))) (by kernel_rfl)
  clear hf
  unfold Tail
  replace fC := ext_heapG2 hw fC (by omega) (by omega)
  replace fT := ext_heapG2 hw fT (by omega) (by omega)
  replace y1 := y1.trans hw.ofDrew
  clear hw
  clear fO
  obtain ⟨_, rfl, _⟩ := hv4
  obtain ⟨hr6, fO6⟩ := hv7
  have fO6_0 := blk_cell fO6 0
  have fO6_1 := blk_cell fO6 1
  have fO6_2 := blk_cell fO6 2
  have fO6z := blk_free fO6
  have fO6l := lt_of_block fO6
  go_wp2
  refine bodyPost_ret (v := .tuple #[rdV s st.pos st.err, .bool true]) (by simp [results, Try.results25, go_sem, fO6_0, fO6_1, fO6_2]) rfl ⟨rfl, ?_, ?_⟩
  · exact hr6
  · exact ⟨y1.os, y1.tape, y1.output, y1.size, fun k hk hg => y1.block k hk (fun e => e.elim hg (fun e => by omega))⟩
set_option maxRecDepth 100000 in
set_option maxHeartbeats 3000000 in
theorem doesEnd_any (k0 : Int) (l : List ByteArray) (A : Option Addr) (c : Nat) (a : Bs) (n : Int) (pl : Bool) (g p : Nat) (s : ByteArray) (er : Int) (w : World) (hr : RdAt w g s p er) (hk : CallR.kind ⟨k0, l, A, c, a, n, pl⟩ = 8) (hp : p ≤ s.size) (hs : s.size ≤ 140737488351232) (hn1 : n ≤ 9223372036854775807) :
    Calls Try.prog 25 #[.pointer (some ⟨g, 0, none⟩), rdV s p er, callV ⟨k0, l, A, c, a, n, pl⟩] w (DoesPost g s (stepR p er (endR s p)).pos (stepR p er (endR s p)).err w) := by
  have hK := fun w => kind_any ⟨k0, l, A, c, a, n, pl⟩ w
  rw [hk] at hK
  replace hK := Lib.hid hK
  have HRR := Lib.hid (fun w' : World => rEnd_any s p er w' hp)
  have HPP := Lib.hid (fun (w' : World) (hrw : RdAt w' g s p er) => End_any g p s er w' hrw hp)
  obtain ⟨st, hst⟩ : ∃ st, st = stepR p er (endR s p) := ⟨_, rfl⟩
  rw [← hst] at HRR HPP ⊢
  clear hk hst hn1
  have hlg := hr.lt
  go_enter Try.func25, Try.ntmps25
  go_wp2_with fail
  generalize hwz : World.alloc (World.alloc (World.alloc w _) _) _ = wz
  have fW : wz.heap[w.heap.size]? = some (.cells (rdC s p er) 52 (0, 0)) := by rw [← hwz]; exact heap_past (heap_past (heap_new w _) _) _
  have fC : wz.heap[w.heap.size + 1]? = some (.cells (callC ⟨k0, l, A, c, a, n, pl⟩) 27 (0, 0)) := by rw [← hwz]; exact heap_past (heap_two w _ _) _
  have fO : wz.heap[w.heap.size + 1 + 1]? = some (.cells (#[.string ByteArray.empty, .int .i64 0, .int .i64 0]) 52 (0, 0)) := by rw [← hwz]; exact heap_at _ _ _ (by simp)
  have y0 : Ext G0 w wz := by rw [← hwz]; exact (((Ext.refl _ _).alloc _).alloc _).alloc _
  clear hwz
  refine (hK.out _).mono ?_
  rintro e w1 ⟨rfl, x1⟩
  replace fW := ext_heap x1 fW (fun x => x)
  replace fC := ext_heap x1 fC (fun x => x)
  replace fO := ext_heap x1 fO (fun x => x)
  replace y0 := y0.trans x1
  clear hK x1
  have fW_0 := blk_cell fW 0
  have fW_1 := blk_cell fW 1
  have fW_2 := blk_cell fW 2
  have fWz := blk_free fW
  have fWl := lt_of_block fW
  have fC_0 := blk_cell fC 0
  have fC_1 := blk_cell fC 1
  have fC_2 := blk_cell fC 2
  have fC_3 := blk_cell fC 3
  have fC_4 := blk_cell fC 4
  have fC_5 := blk_cell fC 5
  have fC_6 := blk_cell fC 6
  have fC_7 := blk_cell fC 7
  have fCz := blk_free fC
  have fCl := lt_of_block fC
  go_wp2_with fail
  refine (HRR.out _).mono ?_
  rintro e w3 ⟨rfl, x3⟩
  clear fW_0 fW_1 fW_2 fWz fC_0 fC_1 fC_2 fC_3 fC_4 fC_5 fC_6 fC_7 fCz HRR
  replace fW := ext_heap x3 fW (fun x => x)
  replace fC := ext_heap x3 fC (fun x => x)
  replace fO := ext_heap x3 fO (fun x => x)
  replace y0 := y0.trans x3
  clear x3
  go_wp2_with fail
  generalize hwz : World.alloc w3 _ = wt
  have fT : wt.heap[w3.heap.size]? = some (.cells (rdC s st.pos st.err) 52 (0, 0)) := by rw [← hwz]; exact heap_new w3 _
  have yT : Ext G0 w3 wt := by rw [← hwz]; exact (Ext.refl _ _).alloc _
  clear hwz
  have hl3 := lt_of_block fO
  replace fW := ext_heap yT fW (fun x => x)
  replace fC := ext_heap yT fC (fun x => x)
  replace fO := ext_heap yT fO (fun x => x)
  replace y0 := y0.trans yT
  have hls := lt_of_block fT
  have hl0 := lt_of_block fO
  have hgw : w.heap.size ≤ w3.heap.size := by omega
  clear yT
  have hr5 := hr.ext y0 (fun x => x)
  have y1 := y0.up (G2 g (w.heap.size + 1 + 1))
  clear y0
  go_wp2_with fail
  apply region_phiM (leaves := (Leaf.val _) :: (Leaf.val _) :: (Leaf.ref true true (fun v w' => v = boolV (st.val false) ∧ RdAt w' g s st.pos st.err ∧ w'.heap[w.heap.size + 1 + 1]? = some (.cells #[.string ByteArray.empty, .int .i64 0, .int .i64 0] 52 (0, 0)))) :: (Leaf.val _) :: (Leaf.val _) :: (Leaf.ref true true (fun _ w' => RdAt w' g s st.pos st.err ∧ w'.heap[w.heap.size + 1 + 1]? = some (.cells (rdC s st.pos st.err) 52 (0, 0)))) :: ([] : List Leaf)) (k := 6) (b := #[0, 0, 2, 0, 14, 7, 63]) (ms := [2, 5]) (E := Ext (G2 g (w.heap.size + 1 + 1))) mixed (by kernel_rfl) rfl (by kernel_rfl) rfl
  apply owedM_walk rfl
  · intro w1 hw hz hf
    have fT_0 := blk_cell (ext_heapG2 hw fT (by omega) (by omega)) 0
    have fT_1 := blk_cell (ext_heapG2 hw fT (by omega) (by omega)) 1
    have fT_2 := blk_cell (ext_heapG2 hw fT (by omega) (by omega)) 2
    go_wp2
    exact ⟨rfl, rfl, Ext.refl _ _⟩
  · simp
  · go_simp
    try rfl
  apply owedM_walk rfl
  · intro w1 hw hz hf
    go_wp2
    exact ⟨rfl, rfl, Ext.refl _ _⟩
  · simp
  · go_simp
    try rfl
  apply owedM_walk_ref rfl
  · exact fun v w w' h hx => ⟨h.1, h.2.1.ext hx (fun x => x), ext_heap hx h.2.2 (fun x => x)⟩
  · intro w1 hw hz hf
    have h0 := hz (by kernel_rfl)
    go_wp2_with (go_at_call 20; ((with_reducible refine (HPP.out _ (hr5.ext h0.ofDrew (fun x => x))).mono ?_); rintro e w2 ⟨rfl, hr2, hx2⟩))
    exact ⟨rfl, ⟨rfl, hr2, ext_heap hx2 (ext_heap h0.ofDrew fO (fun x => x)) (G1.ne (by omega))⟩, hx2.mono (fun k hk => .inl hk)⟩
  · simp
  · intro v
    go_simp
    try rfl
  intro v2
  apply owedM_walk rfl
  · intro w1 hw hz hf
    go_wp2
    exact ⟨rfl, rfl, Ext.refl _ _⟩
  · simp
  · go_simp
    try rfl
  apply owedM_walk rfl
  · intro w1 hw hz hf
    have hv2 := hf _ (List.Mem.tail _ (List.Mem.head _)) (by dsimp only; decide)
    obtain ⟨_, rfl, _⟩ := hv2
    go_wp2
    exact ⟨rfl, rfl, Ext.refl _ _⟩
  · simp
  · go_simp
    try rfl
  apply owedM_walk_st rfl
  · exact fun w w' h hx => ⟨h.1.ext hx (fun x => x), ext_heap hx h.2 (fun x => x)⟩
  · intro w1 hw hz hf
    have hv2 := hf _ (List.Mem.head _) (by dsimp only; decide)
    obtain ⟨rfl, hr7, fZ⟩ := hv2
    have z0 := blk_cell fZ 0
    have z1 := blk_cell fZ 1
    have z2 := blk_cell fZ 2
    have zz := blk_free fZ
    have zl := lt_of_block fZ
    go_wp2
    exact ⟨rfl, ⟨((hr7.store (by dsimp only; omega) _).store (by dsimp only; omega) _).store (by dsimp only; omega) _, blk_set (blk_set (blk_set fZ 0 _) 1 _) 2 _⟩, (((Ext.refl _ _).setCell (.inl (.inr rfl)) _).setCell (.inl (.inr rfl)) _).setCell (.inl (.inr rfl)) _⟩
  apply owedM_end
  intro w5 hw hf
  have hv5 := hf _ (List.Mem.head _) (by kernel_rfl)
  have hv2 := hf _ (List.Mem.tail _ (List.Mem.tail _ (List.Mem.tail _ (List.Mem.head _)))) (by kernel_rfl)
  clear hf
  unfold Tail
  replace fC := ext_heapG2 hw fC (by omega) (by omega)
  replace fT := ext_heapG2 hw fT (by omega) (by omega)
  replace y1 := y1.trans hw.ofDrew
  clear hw
  clear fO
  obtain ⟨_, rfl, _⟩ := hv2
  obtain ⟨hr6, fO6⟩ := hv5
  have fO6_0 := blk_cell fO6 0
  have fO6_1 := blk_cell fO6 1
  have fO6_2 := blk_cell fO6 2
  have fO6z := blk_free fO6
  have fO6l := lt_of_block fO6
  go_wp2
  refine bodyPost_ret (v := .tuple #[rdV s st.pos st.err, .bool true]) (by simp [results, Try.results25, go_sem, fO6_0, fO6_1, fO6_2]) rfl ⟨rfl, ?_, ?_⟩
  · exact hr6
  · exact ⟨y1.os, y1.tape, y1.output, y1.size, fun k hk hg => y1.block k hk (fun e => e.elim hg (fun e => by omega))⟩
end Go.Proofs.Ytejialnbelleeaa
