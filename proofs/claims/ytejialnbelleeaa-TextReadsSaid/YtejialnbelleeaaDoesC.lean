/-
  The law TextReads: does, at Want.
-/
import Derived.Test.YtejialnbelleeaaDoesA
import Derived.Test.YtejialnbelleeaaRdrG
import Derived.Test.YtejialnbelleeaaTxtO
namespace Go.Proofs.Ytejialnbelleeaa
open Go Go.RowKit

set_option maxRecDepth 100000 in
set_option maxHeartbeats 4000000 in
theorem doesWant_any (k0 : Int) (l : List ByteArray) (A : Option Addr) (c : Nat) (a : Bs) (n : Int) (pl : Bool) (g p : Nat) (s : ByteArray) (er : Int) (w : World) (hr : RdAt w g s p er) (hk : CallR.kind ⟨k0, l, A, c, a, n, pl⟩ = 4) (hp : p ≤ s.size) (hs : s.size ≤ 140737488351232) (hg : CallR.good ⟨k0, l, A, c, a, n, pl⟩ w) :
    Calls Try.prog 25 #[.pointer (some ⟨g, 0, none⟩), rdV s p er, callV ⟨k0, l, A, c, a, n, pl⟩] w (DoesPost g s (stepR p er (wantR s (CallR.word ⟨k0, l, A, c, a, n, pl⟩) p)).pos (stepR p er (wantR s (CallR.word ⟨k0, l, A, c, a, n, pl⟩) p)).err w) := by
  have hK := fun w => kind_any ⟨k0, l, A, c, a, n, pl⟩ w
  rw [hk] at hK
  replace hK := Lib.hid hK
  have hws := word_size ⟨k0, l, A, c, a, n, pl⟩
  have HW := Lib.hid (fun w hg => word_any ⟨k0, l, A, c, a, n, pl⟩ w hg)
  generalize CallR.word ⟨k0, l, A, c, a, n, pl⟩ = wd at *
  have HRR := Lib.hid (fun w' : World => rWant_any s wd p er w' hp hs (by omega))
  have HPP := Lib.hid (fun (w' : World) (hrw : RdAt w' g s p er) => Want_any g p s er wd w' hrw hp hs (by omega))
  obtain ⟨st, hst⟩ : ∃ st, st = stepR p er (wantR s wd p) := ⟨_, rfl⟩
  rw [← hst] at HRR HPP ⊢
  clear hk hst
  have hlg := hr.lt
  go_enter Try.func25, Try.ntmps25
  go_wp2_with fail
  generalize hwz : World.alloc (World.alloc (World.alloc w _) _) _ = wz
  have fW : wz.heap[w.heap.size]? = some (.cells (rdC s p er) 52 (0, 0)) := by rw [← hwz]; exact heap_past (heap_past (heap_new w _) _) _
  have fC : wz.heap[w.heap.size + 1]? = some (.cells (callC ⟨k0, l, A, c, a, n, pl⟩) 27 (0, 0)) := by rw [← hwz]; exact heap_past (heap_two w _ _) _
  have fO : wz.heap[w.heap.size + 1 + 1]? = some (.cells (#[.string ByteArray.empty, .int .i64 0, .int .i64 0]) 52 (0, 0)) := by rw [← hwz]; exact heap_at _ _ _ (by simp)
  have y0 : Ext G0 w wz := by rw [← hwz]; exact (((Ext.refl _ _).alloc _).alloc _).alloc _
  clear hwz
  refine (hK.out _).mono ?_
  rintro e w1 ⟨rfl, x1⟩
  replace fW := ext_heap x1 fW (fun x => x)
  replace fC := ext_heap x1 fC (fun x => x)
  replace fO := ext_heap x1 fO (fun x => x)
  replace y0 := y0.trans x1
  clear hK x1
  have hl1 := lt_of_block fO
  obtain ⟨n1, hn1⟩ : ∃ n1, n1 = w1.heap.size := ⟨_, rfl⟩
  rw [← hn1] at hl1
  replace hn1 := Lib.hid hn1
  have hgg := hg.ext y0
  have y1 := y0.up (fun k => n1 ≤ k)
  go_wp2_with fail
  apply region_phiM (leaves := (Leaf.val _) :: (Leaf.val _) :: (Leaf.val _) :: (Leaf.val _) :: (Leaf.val _) :: (Leaf.val _) :: (Leaf.val _) :: (Leaf.ref true false (NewAt n1 (.cells #[.string ByteArray.empty, .int .i64 0, .int .i64 0] 52 (0, 0)))) :: (Leaf.lay 16 (NewAt n1 (.cells (rdC s st.pos st.err) 52 (0, 0)))) :: ([] : List Leaf)) (k := 9) (b := #[0, 0, 2, 7, 15, 31, 31, 0, 191, 511]) (ms := [8]) (E := EF n1 (.cells (rdC s st.pos st.err) 52 (0, 0))) mixed (by kernel_rfl) rfl (by kernel_rfl) rfl
  apply owedM_walk rfl
  · intro w1 hw hz hf
    have fW_0 := blk_cell (ext_heapF hw fW (by omega)) 0
    have fW_1 := blk_cell (ext_heapF hw fW (by omega)) 1
    have fW_2 := blk_cell (ext_heapF hw fW (by omega)) 2
    go_wp2
    exact ⟨rfl, rfl, Ext.refl _ _⟩
  · simp
  · go_simp
    try rfl
  apply owedM_walk rfl
  · intro w1 hw hz hf
    have fC_0 := blk_cell (ext_heapF hw fC (by omega)) 0
    have fC_1 := blk_cell (ext_heapF hw fC (by omega)) 1
    have fC_2 := blk_cell (ext_heapF hw fC (by omega)) 2
    have fC_3 := blk_cell (ext_heapF hw fC (by omega)) 3
    have fC_4 := blk_cell (ext_heapF hw fC (by omega)) 4
    have fC_5 := blk_cell (ext_heapF hw fC (by omega)) 5
    have fC_6 := blk_cell (ext_heapF hw fC (by omega)) 6
    have fC_7 := blk_cell (ext_heapF hw fC (by omega)) 7
    go_wp2
    exact ⟨rfl, rfl, Ext.refl _ _⟩
  · simp
  · go_simp
    try rfl
  apply owedM_walk rfl
  · intro w1 hw hz hf
    have h0 := hz (by kernel_rfl)
    go_wp2_with (go_at_call 17; (with_reducible refine (HW.out _ (hgg.ext h0.ofDrew)).mono ?_); rintro e w2 ⟨rfl, hx2⟩)
    exact ⟨rfl, rfl, hx2⟩
  · simp
  · go_simp
    try rfl
  apply owedM_walk rfl
  · intro w1 hw hz hf
    have h0 := hz (by kernel_rfl)
    go_wp2_with (go_at_call 49; (with_reducible refine (HRR.out _).mono ?_); rintro e w2 ⟨rfl, hx2⟩)
    exact ⟨rfl, rfl, hx2⟩
  · simp
  · go_simp
    try rfl
  apply owedM_walk rfl
  · intro w1 hw hz hf
    go_wp2
    exact ⟨rfl, rfl, Ext.refl _ _⟩
  · simp
  · go_simp
    try rfl
  apply owedM_walk rfl
  · intro w1 hw hz hf
    go_wp2
    exact ⟨rfl, rfl, Ext.refl _ _⟩
  · simp
  · go_simp
    try rfl
  apply owedM_walk rfl
  · intro w1 hw hz hf
    go_wp2
    exact ⟨rfl, rfl, Ext.refl _ _⟩
  · simp
  · go_simp
    try rfl
  apply owedM_walk_ref rfl
  · exact fun v w w' h hx => h.ext hx
  · intro w1 hw hz hf
    have h0 := hz (by kernel_rfl)
    go_wp2
    exact ⟨rfl, ⟨_, rfl, by rw [hn1.out]; exact hw.ext.size, heap_new _ _⟩, (Ext.refl _ _).alloc _⟩
  · simp
  · intro v
    go_simp
    try rfl
  intro v7
  apply owedM_walk_lay (c := _) (by go_simp; try rfl) rfl (by simp [Oper.looksAt, Op.operands]; try decide)
  · exact fun v w w' h hx => h.keep hx
  · intro w1 hw hz hf
    have hv7 := hf _ (List.Mem.head _) (by dsimp only; decide)
    obtain ⟨q, rfl, hq, fZ⟩ := hv7
    have z0 := blk_cell fZ 0
    have z1 := blk_cell fZ 1
    have z2 := blk_cell fZ 2
    have zz := blk_free fZ
    have zl := lt_of_block fZ
    go_wp2
    exact ⟨rfl, ⟨q, rfl, hq, blk_set (blk_set (blk_set fZ 0 _) 1 _) 2 _⟩, EF.set3 hq fZ⟩
  apply owedM_end
  intro w3 hw hf
  have hv8 := hf _ (List.Mem.head _) (by kernel_rfl)
  have hv7 := hf _ (List.Mem.tail _ (List.Mem.tail _ (List.Mem.head _))) (by kernel_rfl)
  clear hf
  unfold Tail
  replace fW := ext_heapF hw fW (by omega)
  replace fC := ext_heapF hw fC (by omega)
  replace fO := ext_heapF hw fO (by omega)
  replace y1 := y1.trans hw.ext.ofDrew
  clear hw
  obtain ⟨q, rfl, hq, fT⟩ := hv8
  have hr5 : RdAt w3 g s p er := hr.ext (G := fun k => n1 ≤ k) y1 (by omega)
  have hl3 := lt_of_block fO
  have hls := lt_of_block fT
  have hgw : w.heap.size ≤ w3.heap.size := by omega
  have y2 : Ext (G2 g (w.heap.size + 1 + 1)) w w3 := ⟨y1.os, y1.tape, y1.output, y1.size, fun k hk _ => y1.block k hk (by omega)⟩
  have y3 : Ext G0 w w3 := ⟨y1.os, y1.tape, y1.output, y1.size, fun k hk _ => y1.block k hk (by omega)⟩
  have hg3 := hg.ext y3
  clear y1 y3 hv7 HRR hg hgg
  go_wp2_with fail
  go_wp2_with fail
  apply region_phiM (leaves := (Leaf.val _) :: (Leaf.val _) :: (Leaf.val _) :: (Leaf.val _) :: (Leaf.ref true true (fun v w' => v = boolV (st.val false) ∧ RdAt w' g s st.pos st.err ∧ w'.heap[w.heap.size + 1 + 1]? = some (.cells #[.string ByteArray.empty, .int .i64 0, .int .i64 0] 52 (0, 0)))) :: (Leaf.val _) :: (Leaf.val _) :: (Leaf.ref true true (fun _ w' => RdAt w' g s st.pos st.err ∧ w'.heap[w.heap.size + 1 + 1]? = some (.cells (rdC s st.pos st.err) 52 (0, 0)))) :: ([] : List Leaf)) (k := 8) (b := #[0, 0, 0, 4, 14, 0, 62, 31, 255]) (ms := [4, 7]) (E := Ext (G2 g (w.heap.size + 1 + 1))) mixed (by kernel_rfl) rfl (by kernel_rfl) rfl
  apply owedM_walk rfl
  · intro w1 hw hz hf
    have fT_0 := blk_cell (ext_heapG2 hw fT (by omega) (by omega)) 0
    have fT_1 := blk_cell (ext_heapG2 hw fT (by omega) (by omega)) 1
    have fT_2 := blk_cell (ext_heapG2 hw fT (by omega) (by omega)) 2
    go_wp2
    exact ⟨rfl, rfl, Ext.refl _ _⟩
  · simp
  · go_simp
    try rfl
  apply owedM_walk rfl
  · intro w1 hw hz hf
    go_wp2
    exact ⟨rfl, rfl, Ext.refl _ _⟩
  · simp
  · go_simp
    try rfl
  apply owedM_walk rfl
  · intro w1 hw hz hf
    have fC_0 := blk_cell (ext_heapG2 hw fC (by omega) (by omega)) 0
    have fC_1 := blk_cell (ext_heapG2 hw fC (by omega) (by omega)) 1
    have fC_2 := blk_cell (ext_heapG2 hw fC (by omega) (by omega)) 2
    have fC_3 := blk_cell (ext_heapG2 hw fC (by omega) (by omega)) 3
    have fC_4 := blk_cell (ext_heapG2 hw fC (by omega) (by omega)) 4
    have fC_5 := blk_cell (ext_heapG2 hw fC (by omega) (by omega)) 5
    have fC_6 := blk_cell (ext_heapG2 hw fC (by omega) (by omega)) 6
    have fC_7 := blk_cell (ext_heapG2 hw fC (by omega) (by omega)) 7
    go_wp2
    exact ⟨rfl, rfl, Ext.refl _ _⟩
  · simp
  · go_simp
    try rfl
  apply owedM_walk rfl
  · intro w1 hw hz hf
    have h0 := hz (by kernel_rfl)
    go_wp2_with (go_at_call 17; (with_reducible refine (HW.out _ (hg3.ext h0.ofDrew)).mono ?_); rintro e w2 ⟨rfl, hx2⟩)
    exact ⟨rfl, rfl, hx2⟩
  · simp
  · go_simp
    try rfl
  apply owedM_walk_ref rfl
  · exact fun v w w' h hx => ⟨h.1, h.2.1.ext hx (fun x => x), ext_heap hx h.2.2 (fun x => x)⟩
  · intro w1 hw hz hf
    have h0 := hz (by kernel_rfl)
    go_wp2_with (go_at_call 16; ((with_reducible refine (HPP.out _ (hr5.ext h0.ofDrew (fun x => x))).mono ?_); rintro e w2 ⟨rfl, hr2, hx2⟩))
    exact ⟨rfl, ⟨rfl, hr2, ext_heap hx2 (ext_heap h0.ofDrew fO (fun x => x)) (G1.ne (by omega))⟩, hx2.mono (fun k hk => .inl hk)⟩
  · simp
  · intro v
    go_simp
    try rfl
  intro v4
  apply owedM_walk rfl
  · intro w1 hw hz hf
    go_wp2
    exact ⟨rfl, rfl, Ext.refl _ _⟩
  · simp
  · go_simp
    try rfl
  apply owedM_walk rfl
  · intro w1 hw hz hf
    have hv4 := hf _ (List.Mem.tail _ (List.Mem.head _)) (by dsimp only; decide)
    obtain ⟨_, rfl, _⟩ := hv4
    go_wp2
    exact ⟨rfl, rfl, Ext.refl _ _⟩
  · simp
  · go_simp
    try rfl
  apply owedM_walk_st rfl
  · exact fun w w' h hx => ⟨h.1.ext hx (fun x => x), ext_heap hx h.2 (fun x => x)⟩
  · intro w1 hw hz hf
    have hv4 := hf _ (List.Mem.head _) (by dsimp only; decide)
    obtain ⟨rfl, hr7, fZ⟩ := hv4
    have z0 := blk_cell fZ 0
    have z1 := blk_cell fZ 1
    have z2 := blk_cell fZ 2
    have zz := blk_free fZ
    have zl := lt_of_block fZ
    go_wp2
    exact ⟨rfl, ⟨((hr7.store (by dsimp only; omega) _).store (by dsimp only; omega) _).store (by dsimp only; omega) _, blk_set (blk_set (blk_set fZ 0 _) 1 _) 2 _⟩, (((Ext.refl _ _).setCell (.inl (.inr rfl)) _).setCell (.inl (.inr rfl)) _).setCell (.inl (.inr rfl)) _⟩
  apply owedM_end
  intro w5 hw hf
  have hv7 := hf _ (List.Mem.head _) (by kernel_rfl)
  have hv4 := hf _ (List.Mem.tail _ (List.Mem.tail _ (List.Mem.tail _ (List.Mem.head _)))) (by kernel_rfl)
  clear hf
  unfold Tail
  replace fC := ext_heapG2 hw fC (by omega) (by omega)
  replace fT := ext_heapG2 hw fT (by omega) (by omega)
  replace y2 := y2.trans hw.ofDrew
  clear hw
  clear fO
  obtain ⟨_, rfl, _⟩ := hv4
  obtain ⟨hr6, fO6⟩ := hv7
  have fO6_0 := blk_cell fO6 0
  have fO6_1 := blk_cell fO6 1
  have fO6_2 := blk_cell fO6 2
  have fO6z := blk_free fO6
  have fO6l := lt_of_block fO6
  go_wp2
  refine bodyPost_ret (v := .tuple #[rdV s st.pos st.err, .bool true]) (by simp [results, Try.results25, go_sem, fO6_0, fO6_1, fO6_2]) rfl ⟨rfl, ?_, ?_⟩
  · exact hr6
  · exact ⟨y2.os, y2.tape, y2.output, y2.size, fun k hk hg => y2.block k hk (fun e => e.elim hg (fun e => by omega))⟩

end Go.Proofs.Ytejialnbelleeaa
