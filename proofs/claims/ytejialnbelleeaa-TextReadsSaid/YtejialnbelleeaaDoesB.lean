/-
  The law TextReads: does, at Fail, Is.
-/
import Derived.Test.YtejialnbelleeaaDoesA
import Derived.Test.YtejialnbelleeaaRdrC
import Derived.Test.YtejialnbelleeaaRdrF
import Derived.Test.YtejialnbelleeaaClnS
import Derived.Test.YtejialnbelleeaaTxtO
namespace Go.Proofs.Ytejialnbelleeaa
open Go Go.RowKit

set_option maxRecDepth 100000 in
set_option maxHeartbeats 3000000 in
theorem doesFail_any (k0 : Int) (l : List ByteArray) (A : Option Addr) (c : Nat) (a : Bs) (n : Int) (pl : Bool) (g p : Nat) (s : ByteArray) (er : Int) (w : World) (hr : RdAt w g s p er) (hk : CallR.kind ⟨k0, l, A, c, a, n, pl⟩ = 7) :
    Calls Try.prog 25 #[.pointer (some ⟨g, 0, none⟩), rdV s p er, callV ⟨k0, l, A, c, a, n, pl⟩] w (DoesPost g s (stepR p er (failR s p n ((l.length % 3 : Nat) : Int))).pos (stepR p er (failR s p n ((l.length % 3 : Nat) : Int))).err w) := by
  have hK := fun w => kind_any ⟨k0, l, A, c, a, n, pl⟩ w
  rw [hk] at hK
  replace hK := Lib.hid hK
  have hm : (l.length : Int).tmod 3 = ((l.length % 3 : Nat) : Int) := by rw [Int.tmod_eq_emod_of_nonneg (by omega)]; omega
  obtain ⟨fe, hfe⟩ : ∃ fe : Nat, fe = l.length % 3 := ⟨_, rfl⟩
  have hfe3 : fe < 3 := by omega
  rw [← hfe] at hm ⊢
  have HRR := Lib.hid (fun w' : World => rFail_any s p er n (fe : Int) w')
  have HPP := Lib.hid (fun (w' : World) (hrw : RdAt w' g s p er) => Fail_any g p s er n (fe : Int) w' hrw)
  obtain ⟨st, hst⟩ : ∃ st, st = stepR p er (failR s p n (fe : Int)) := ⟨_, rfl⟩
  rw [← hst] at HRR HPP ⊢
  clear hk hst hfe
  have hlg := hr.lt
  go_enter Try.func25, Try.ntmps25
  go_wp2_with fail
  generalize hwz : World.alloc (World.alloc (World.alloc w _) _) _ = wz
  have fW : wz.heap[w.heap.size]? = some (.cells (rdC s p er) 52 (0, 0)) := by rw [← hwz]; exact heap_past (heap_past (heap_new w _) _) _
  have fC : wz.heap[w.heap.size + 1]? = some (.cells (callC ⟨k0, l, A, c, a, n, pl⟩) 27 (0, 0)) := by rw [← hwz]; exact heap_past (heap_two w _ _) _
  have fO : wz.heap[w.heap.size + 1 + 1]? = some (.cells (#[.string ByteArray.empty, .int .i64 0, .int .i64 0]) 52 (0, 0)) := by rw [← hwz]; exact heap_at _ _ _ (by simp)
  have y0 : Ext G0 w wz := by rw [← hwz]; exact (((Ext.refl _ _).alloc _).alloc _).alloc _
  clear hwz
  refine (hK.out _).mono ?_
  rintro e w1 ⟨rfl, x1⟩
  replace fW := ext_heap x1 fW (fun x => x)
  replace fC := ext_heap x1 fC (fun x => x)
  replace fO := ext_heap x1 fO (fun x => x)
  replace y0 := y0.trans x1
  clear hK x1
  have fC_0 := blk_cell fC 0
  have fC_1 := blk_cell fC 1
  have fC_2 := blk_cell fC 2
  have fC_3 := blk_cell fC 3
  have fC_4 := blk_cell fC 4
  have fC_5 := blk_cell fC 5
  have fC_6 := blk_cell fC 6
  have fC_7 := blk_cell fC 7
  have fCz := blk_free fC
  have fCl := lt_of_block fC
  go_wp2_with fail
  refine (HPP.out _ (hr.ext y0 (fun x => x))).mono ?_
  rintro e w3 ⟨rfl, hr3, x3⟩
  clear fC_0 fC_1 fC_2 fC_3 fC_4 fC_5 fC_6 fC_7 fCz HPP
  have gW := ext_heap x3 fW (G1.ne (by omega))
  have gC := ext_heap x3 fC (G1.ne (by omega))
  have gO := ext_heap x3 fO (G1.ne (by omega))
  have y1 := (y0.up (G1 g)).trans x3
  clear fW fC fO x3 y0
  have gW_0 := blk_cell gW 0
  have gW_1 := blk_cell gW 1
  have gW_2 := blk_cell gW 2
  have gWz := blk_free gW
  have gWl := lt_of_block gW
  have gC_0 := blk_cell gC 0
  have gC_1 := blk_cell gC 1
  have gC_2 := blk_cell gC 2
  have gC_3 := blk_cell gC 3
  have gC_4 := blk_cell gC 4
  have gC_5 := blk_cell gC 5
  have gC_6 := blk_cell gC 6
  have gC_7 := blk_cell gC 7
  have gCz := blk_free gC
  have gCl := lt_of_block gC
  go_wp2_with fail
  refine (HRR.out _).mono ?_
  rintro e w4 ⟨rfl, x4⟩
  replace gO := ext_heap x4 gO (fun x => x)
  have hr4 := hr3.ext x4 (fun x => x)
  have y2 := y1.trans (x4.up (G1 g))
  clear x4 gW_0 gW_1 gW_2 gWz gC_0 gC_1 gC_2 gC_3 gC_4 gC_5 gC_6 gC_7 gCz
  have gO_0 := blk_cell gO 0
  have gO_1 := blk_cell gO 1
  have gO_2 := blk_cell gO 2
  have gOz := blk_free gO
  have gOl := lt_of_block gO
  go_wp2
  refine bodyPost_ret (v := .tuple #[rdV s st.pos st.err, .bool true]) (by simp [results, Try.results25, go_sem, gO_0, gO_1, gO_2]) rfl ⟨rfl, ?_, ?_⟩
  · exact ((hr4.store (by dsimp only; omega) _).store (by dsimp only; omega) _).store (by dsimp only; omega) _
  · exact ((y2.setCell (.inr (by dsimp only; omega)) _).setCell (.inr (by dsimp only; omega)) _).setCell (.inr (by dsimp only; omega)) _

set_option maxRecDepth 100000 in
set_option maxHeartbeats 4000000 in
theorem doesIs_any (k0 : Int) (l : List ByteArray) (A : Option Addr) (c : Nat) (a : Bs) (n : Int) (pl : Bool) (g p : Nat) (s : ByteArray) (er : Int) (w : World) (hr : RdAt w g s p er) (hk : CallR.kind ⟨k0, l, A, c, a, n, pl⟩ = 2) (hp : p ≤ s.size) (hs : s.size ≤ 140737488351232) (hg : CallR.good ⟨k0, l, A, c, a, n, pl⟩ w) :
    Calls Try.prog 25 #[.pointer (some ⟨g, 0, none⟩), rdV s p er, callV ⟨k0, l, A, c, a, n, pl⟩] w (DoesPost g s (stepR p er (isL (mets s p 0 (l.take 6)) p)).pos (stepR p er (isL (mets s p 0 (l.take 6)) p)).err w) := by
  have hK := fun w => kind_any ⟨k0, l, A, c, a, n, pl⟩ w
  rw [hk] at hK
  replace hK := Lib.hid hK
  have hv6 := hg.strs.takeN 6
  have hsz6 : ∀ t ∈ l.take 6, t.size ≤ 140737488351232 := fun t ht => hg.sizes t (List.mem_of_mem_take ht)
  have hlm : (l.length : Int) ≤ 140737488351232 := by obtain ⟨_, _, _, ⟨_, h⟩, _⟩ := hg.strs; exact h
  have hlc : l.length ≤ c := by obtain ⟨_, _, he, ⟨h, _⟩, _⟩ := hg.strs; injection he with e1 e2 e3; rw [← e3] at h; exact h
  obtain ⟨m, hm⟩ : ∃ m, m = (l.take 6).length := ⟨_, rfl⟩
  have hm6 : min (l.length : Int) 6 = (m : Int) := by rw [hm, List.length_take]; omega
  have hml : m ≤ l.length := by rw [hm, List.length_take]; omega
  have hm7 : m ≤ 6 := by rw [hm, List.length_take]; omega
  simp only at hv6
  generalize l.take 6 = ws at *
  rw [← hm] at hv6
  replace hv6 := Lib.hid hv6
  have HRR := Lib.hid (fun (w' : World) (A' : Option Addr) (c' : Nat) (hvw : StrsAt w' (.slice A' ws.length c') ws) => rIs_any s p er ws A' c' w' hp hs hvw hsz6)
  have HPP := Lib.hid (fun (w' : World) (A' : Option Addr) (c' : Nat) (hvw : StrsAt w' (.slice A' ws.length c') ws) (hrw : RdAt w' g s p er) => Is_any g p s er ws A' c' w' hrw hp hs hvw hsz6)
  have HCL := Lib.hid (fun (w' : World) (hvw : StrsAt w' (.slice A m c) ws) => cloneStr_any ws (.slice A m c) w' hvw (by omega))
  obtain ⟨st, hst⟩ : ∃ st, st = stepR p er (isL (mets s p 0 ws) p) := ⟨_, rfl⟩
  rw [← hst] at HRR HPP ⊢
  have hwl : (ws.length : Int) ≤ 140737488351232 := by omega
  rw [← hm] at HRR HPP HCL hwl
  replace hm := Lib.hid hm
  clear hk hst hg
  have hlg := hr.lt
  go_enter Try.func25, Try.ntmps25
  go_wp2_with fail
  generalize hwz : World.alloc (World.alloc (World.alloc w _) _) _ = wz
  have fW : wz.heap[w.heap.size]? = some (.cells (rdC s p er) 52 (0, 0)) := by rw [← hwz]; exact heap_past (heap_past (heap_new w _) _) _
  have fC : wz.heap[w.heap.size + 1]? = some (.cells (callC ⟨k0, l, A, c, a, n, pl⟩) 27 (0, 0)) := by rw [← hwz]; exact heap_past (heap_two w _ _) _
  have fO : wz.heap[w.heap.size + 1 + 1]? = some (.cells (#[.string ByteArray.empty, .int .i64 0, .int .i64 0]) 52 (0, 0)) := by rw [← hwz]; exact heap_at _ _ _ (by simp)
  have y0 : Ext G0 w wz := by rw [← hwz]; exact (((Ext.refl _ _).alloc _).alloc _).alloc _
  clear hwz
  refine (hK.out _).mono ?_
  rintro e w1 ⟨rfl, x1⟩
  replace fW := ext_heap x1 fW (fun x => x)
  replace fC := ext_heap x1 fC (fun x => x)
  replace fO := ext_heap x1 fO (fun x => x)
  replace y0 := y0.trans x1
  clear hK x1
  have c1 : w1.cell? ⟨w.heap.size + 1, 1, none⟩ = some (.slice A l.length c) := blk_cell fC 1
  have i0 : (0 : Int) ≤ (m : Int) := by omega
  have i1 : (m : Int) ≤ (c : Int) := by omega
  go_wp2_with fail
  refine (HCL.out _ (hv6.out.ext y0)).mono ?_
  rintro e w2 ⟨v', rfl, hown, hbel⟩
  have hv' := SlAt.of_owns (sz := 1) (enc := strL) (fun _ _ => rfl) (by rw [hm.out] at hown; exact hown) (by rw [← hm.out]; exact hwl)
  obtain ⟨A', c', rfl, _, _⟩ := id hv'
  rw [← hm.out] at hv' ⊢
  replace hv' := Lib.hid hv'
  have x2 := Ext.of_below hbel G0
  clear c1 hown hbel HCL hv6
  replace fW := ext_heap x2 fW (fun x => x)
  replace fC := ext_heap x2 fC (fun x => x)
  replace fO := ext_heap x2 fO (fun x => x)
  replace y0 := y0.trans x2
  clear x2
  have fW_0 := blk_cell fW 0
  have fW_1 := blk_cell fW 1
  have fW_2 := blk_cell fW 2
  have fWz := blk_free fW
  have fWl := lt_of_block fW
  go_wp2_with fail
  refine (HRR.out _ A' c' hv'.out).mono ?_
  rintro e w3 ⟨rfl, x3⟩
  clear fW_0 fW_1 fW_2 fWz HRR
  replace fW := ext_heap x3 fW (fun x => x)
  replace fC := ext_heap x3 fC (fun x => x)
  replace fO := ext_heap x3 fO (fun x => x)
  replace y0 := y0.trans x3
  replace hv' := Lib.hid (hv'.out.ext x3)
  clear x3
  go_wp2_with fail
  generalize hwz : World.alloc w3 _ = wt
  have fT : wt.heap[w3.heap.size]? = some (.cells (rdC s st.pos st.err) 52 (0, 0)) := by rw [← hwz]; exact heap_new w3 _
  have yT : Ext G0 w3 wt := by rw [← hwz]; exact (Ext.refl _ _).alloc _
  clear hwz
  have hl3 := lt_of_block fO
  replace fW := ext_heap yT fW (fun x => x)
  replace fC := ext_heap yT fC (fun x => x)
  replace fO := ext_heap yT fO (fun x => x)
  replace y0 := y0.trans yT
  replace hv' := Lib.hid (hv'.out.ext yT)
  have hls := lt_of_block fT
  have hl0 := lt_of_block fO
  have hgw : w.heap.size ≤ w3.heap.size := by omega
  clear yT
  have hr5 := hr.ext y0 (fun x => x)
  have y1 := y0.up (G2 g (w.heap.size + 1 + 1))
  clear y0
  go_wp2_with fail
  apply region_phiM (leaves := (Leaf.val _) :: (Leaf.val _) :: (Leaf.val _) :: (Leaf.ref true true (fun v w' => v = intV (st.val 0) ∧ RdAt w' g s st.pos st.err ∧ w'.heap[w.heap.size + 1 + 1]? = some (.cells #[.string ByteArray.empty, .int .i64 0, .int .i64 0] 52 (0, 0)))) :: (Leaf.val _) :: (Leaf.val _) :: (Leaf.ref true true (fun _ w' => RdAt w' g s st.pos st.err ∧ w'.heap[w.heap.size + 1 + 1]? = some (.cells (rdC s st.pos st.err) 52 (0, 0)))) :: ([] : List Leaf)) (k := 7) (b := #[0, 0, 0, 6, 0, 30, 15, 127]) (ms := [3, 6]) (E := Ext (G2 g (w.heap.size + 1 + 1))) mixed (by kernel_rfl) rfl (by kernel_rfl) rfl
  apply owedM_walk rfl
  · intro w1 hw hz hf
    have fT_0 := blk_cell (ext_heapG2 hw fT (by omega) (by omega)) 0
    have fT_1 := blk_cell (ext_heapG2 hw fT (by omega) (by omega)) 1
    have fT_2 := blk_cell (ext_heapG2 hw fT (by omega) (by omega)) 2
    go_wp2
    exact ⟨rfl, rfl, Ext.refl _ _⟩
  · simp
  · go_simp
    try rfl
  apply owedM_walk rfl
  · intro w1 hw hz hf
    go_wp2
    exact ⟨rfl, rfl, Ext.refl _ _⟩
  · simp
  · go_simp
    try rfl
  apply owedM_walk rfl
  · intro w1 hw hz hf
    go_wp2
    exact ⟨rfl, rfl, Ext.refl _ _⟩
  · simp
  · go_simp
    try rfl
  apply owedM_walk_ref rfl
  · exact fun v w w' h hx => ⟨h.1, h.2.1.ext hx (fun x => x), ext_heap hx h.2.2 (fun x => x)⟩
  · intro w1 hw hz hf
    have h0 := hz (by kernel_rfl)
    go_wp2_with (go_at_call 14; ((with_reducible refine (HPP.out _ A' c' (hv'.out.ext h0.ofDrew) (hr5.ext h0.ofDrew (fun x => x))).mono ?_); rintro e w2 ⟨rfl, hr2, hx2⟩))
    exact ⟨rfl, ⟨rfl, hr2, ext_heap hx2 (ext_heap h0.ofDrew fO (fun x => x)) (G1.ne (by omega))⟩, hx2.mono (fun k hk => .inl hk)⟩
  · simp
  · intro v
    go_simp
    try rfl
  intro v3
  apply owedM_walk rfl
  · intro w1 hw hz hf
    go_wp2
    exact ⟨rfl, rfl, Ext.refl _ _⟩
  · simp
  · go_simp
    try rfl
  apply owedM_walk rfl
  · intro w1 hw hz hf
    have hv3 := hf _ (List.Mem.tail _ (List.Mem.head _)) (by dsimp only; decide)
    obtain ⟨_, rfl, _⟩ := hv3
    go_wp2
    exact ⟨rfl, rfl, Ext.refl _ _⟩
  · simp
  · go_simp
    try rfl
  apply owedM_walk_st rfl
  · exact fun w w' h hx => ⟨h.1.ext hx (fun x => x), ext_heap hx h.2 (fun x => x)⟩
  · intro w1 hw hz hf
    have hv3 := hf _ (List.Mem.head _) (by dsimp only; decide)
    obtain ⟨rfl, hr7, fZ⟩ := hv3
    have z0 := blk_cell fZ 0
    have z1 := blk_cell fZ 1
    have z2 := blk_cell fZ 2
    have zz := blk_free fZ
    have zl := lt_of_block fZ
    go_wp2
    exact ⟨rfl, ⟨((hr7.store (by dsimp only; omega) _).store (by dsimp only; omega) _).store (by dsimp only; omega) _, blk_set (blk_set (blk_set fZ 0 _) 1 _) 2 _⟩, (((Ext.refl _ _).setCell (.inl (.inr rfl)) _).setCell (.inl (.inr rfl)) _).setCell (.inl (.inr rfl)) _⟩
  apply owedM_end
  intro w5 hw hf
  have hv6 := hf _ (List.Mem.head _) (by kernel_rfl)
  have hv3 := hf _ (List.Mem.tail _ (List.Mem.tail _ (List.Mem.tail _ (List.Mem.head _)))) (by kernel_rfl)
  clear hf
  unfold Tail
  replace fC := ext_heapG2 hw fC (by omega) (by omega)
  replace fT := ext_heapG2 hw fT (by omega) (by omega)
  replace y1 := y1.trans hw.ofDrew
  clear hw
  clear fO
  obtain ⟨_, rfl, _⟩ := hv3
  obtain ⟨hr6, fO6⟩ := hv6
  have fO6_0 := blk_cell fO6 0
  have fO6_1 := blk_cell fO6 1
  have fO6_2 := blk_cell fO6 2
  have fO6z := blk_free fO6
  have fO6l := lt_of_block fO6
  go_wp2
  refine bodyPost_ret (v := .tuple #[rdV s st.pos st.err, .bool true]) (by simp [results, Try.results25, go_sem, fO6_0, fO6_1, fO6_2]) rfl ⟨rfl, ?_, ?_⟩
  · exact hr6
  · exact ⟨y1.os, y1.tape, y1.output, y1.size, fun k hk hg => y1.block k hk (fun e => e.elim hg (fun e => by omega))⟩

end Go.Proofs.Ytejialnbelleeaa
