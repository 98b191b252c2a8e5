/-
  The law TextReads: does, at Peek, Next.
-/
import Derived.Test.YtejialnbelleeaaDoesA
import Derived.Test.YtejialnbelleeaaTxtO
namespace Go.Proofs.Ytejialnbelleeaa
open Go Go.RowKit

set_option maxRecDepth 100000 in
set_option maxHeartbeats 4000000 in
theorem doesPeek0_any (k0 : Int) (l : List ByteArray) (A : Option Addr) (c : Nat) (a : Bs) (n : Int) (pl : Bool) (g p : Nat) (s : ByteArray) (er : Int) (w : World) (hr : RdAt w g s p er) (hk : CallR.kind ⟨k0, l, A, c, a, n, pl⟩ = 0) (hp : p ≤ s.size) (hs : s.size ≤ 140737488351232) :
    Calls Try.prog 25 #[.pointer (some ⟨g, 0, none⟩), rdV s p er, callV ⟨k0, l, A, c, a, n, pl⟩] w (DoesPost g s (if 0 = 1 then nextP s p er else p) er w) := by
  have hK := fun w => kind_any ⟨k0, l, A, c, a, n, pl⟩ w
  rw [hk] at hK
  replace hK := Lib.hid hK
  have HP := Lib.hid (fun (w' : World) (hrw : RdAt w' g s p er) => Peek_any g p s er w' hrw hp)
  have HN := Lib.hid (fun (w' : World) (hrw : RdAt w' g s p er) => Next_any g p s er w' hrw hp hs)
  have HL := Lib.hid (fun w' : World => rLeft_any s p er w' hp hs)
  have hlg := hr.lt
  clear hk
  by_cases hc : er = 0 ∧ p < s.size
  · have hv : peekN s p er = (byteA s p, true) := by unfold peekN byteA; rw [dif_pos hc, dif_pos hc.2]
    have hlv : leftN s p er = (s.size : Int) - (p : Int) := if_pos hc.1
    have hnv : nextP s p er = p + 1 := if_pos hc
    rw [hv] at HP HN
    rw [hnv] at HN
    rw [hlv] at HL
    rw [hnv]
    have hlt := hc.2
    have e1 := byteA_eq hlt
    have hbl := byteA_lt s p
    have t0 : decide (0 < (s.size : Int) - (p : Int)) = true := by simp; omega
    have i1 : (p : Int) < (s.size : Int) := by omega
    have s1 := IntWalk.i64_in ((p : Int) + 1) (by omega)
    simp only [peekV] at HP HN
    clear hv hlv hnv hc
    generalize byteA s p = bv at *
    go_enter Try.func25, Try.ntmps25
    go_wp2_with fail
    generalize hwz : World.alloc (World.alloc (World.alloc w _) _) _ = wz
    have fW : wz.heap[w.heap.size]? = some (.cells (rdC s p er) 52 (0, 0)) := by rw [← hwz]; exact heap_past (heap_past (heap_new w _) _) _
    have fC : wz.heap[w.heap.size + 1]? = some (.cells (callC ⟨k0, l, A, c, a, n, pl⟩) 27 (0, 0)) := by rw [← hwz]; exact heap_past (heap_two w _ _) _
    have fO : wz.heap[w.heap.size + 1 + 1]? = some (.cells (#[.string ByteArray.empty, .int .i64 0, .int .i64 0]) 52 (0, 0)) := by rw [← hwz]; exact heap_at _ _ _ (by simp)
    have y0 : Ext G0 w wz := by rw [← hwz]; exact (((Ext.refl _ _).alloc _).alloc _).alloc _
    clear hwz
    refine (hK.out _).mono ?_
    rintro e w1 ⟨rfl, x1⟩
    replace fW := ext_heap x1 fW (fun x => x)
    replace fC := ext_heap x1 fC (fun x => x)
    replace fO := ext_heap x1 fO (fun x => x)
    replace y0 := y0.trans x1
    clear x1
    go_wp2_with fail
    refine (HP.out _ (hr.ext y0 (fun x => x))).mono ?_
    rintro e w2 ⟨rfl, x2⟩
    replace fW := ext_heap x2 fW (fun x => x)
    replace fC := ext_heap x2 fC (fun x => x)
    replace fO := ext_heap x2 fO (fun x => x)
    replace y0 := y0.trans x2
    clear x2 HP
    have fC_0 := blk_cell fC 0
    have fC_1 := blk_cell fC 1
    have fC_2 := blk_cell fC 2
    have fC_3 := blk_cell fC 3
    have fC_4 := blk_cell fC 4
    have fC_5 := blk_cell fC 5
    have fC_6 := blk_cell fC 6
    have fC_7 := blk_cell fC 7
    have fCz := blk_free fC
    have fCl := lt_of_block fC
    go_wp2_with fail
    refine (hK.out _).mono ?_
    rintro e w3 ⟨rfl, x3⟩
    clear fC_0 fC_1 fC_2 fC_3 fC_4 fC_5 fC_6 fC_7 fCz
    replace fW := ext_heap x3 fW (fun x => x)
    replace fC := ext_heap x3 fC (fun x => x)
    replace fO := ext_heap x3 fO (fun x => x)
    replace y0 := y0.trans x3
    clear x3
    have hr5 := hr.ext y0 (fun x => x)
    have y1 := y0.up (G1 g)
    clear y0
    have hl1 := lt_of_block fO
    clear HN
    have fW_0 := blk_cell fW 0
    have fW_1 := blk_cell fW 1
    have fW_2 := blk_cell fW 2
    have fWz := blk_free fW
    have fWl := lt_of_block fW
    go_wp2_with fail
    refine (HL.out _).mono ?_
    rintro e w5 ⟨rfl, x5⟩
    clear fW_0 fW_1 fW_2 fWz
    replace hr5 := hr5.ext x5 (fun x => x)
    replace fW := ext_heap x5 fW (fun x => x)
    replace fC := ext_heap x5 fC (fun x => x)
    replace fO := ext_heap x5 fO (fun x => x)
    replace y1 := y1.trans (x5.up _)
    clear x5 HL
    have fW_0 := blk_cell fW 0
    have fW_1 := blk_cell fW 1
    have fW_2 := blk_cell fW 2
    have fWz := blk_free fW
    have fWl := lt_of_block fW
    have fC_0 := blk_cell fC 0
    have fC_1 := blk_cell fC 1
    have fC_2 := blk_cell fC 2
    have fC_3 := blk_cell fC 3
    have fC_4 := blk_cell fC 4
    have fC_5 := blk_cell fC 5
    have fC_6 := blk_cell fC 6
    have fC_7 := blk_cell fC 7
    have fCz := blk_free fC
    have fCl := lt_of_block fC
    go_wp2_with fail
    refine (hK.out _).mono ?_
    rintro e w6 ⟨rfl, x6⟩
    clear fC_0 fC_1 fC_2 fC_3 fC_4 fC_5 fC_6 fC_7 fCz fW_0 fW_1 fW_2 fWz fWl fCl
    replace hr5 := hr5.ext x6 (fun x => x)
    replace fW := ext_heap x6 fW (fun x => x)
    replace fO := ext_heap x6 fO (fun x => x)
    replace y1 := y1.trans (x6.up _)
    clear x6 hK fC
    have fW_0 := blk_cell fW 0
    have fW_1 := blk_cell fW 1
    have fW_2 := blk_cell fW 2
    have fWz := blk_free fW
    have fWl := lt_of_block fW
    have fO_0 := blk_cell fO 0
    have fO_1 := blk_cell fO 1
    have fO_2 := blk_cell fO 2
    have fOz := blk_free fO
    have fOl := lt_of_block fO
    go_wp2
    refine bodyPost_ret (v := .tuple #[rdV s p er, .bool true]) (by simp [results, Try.results25, go_sem, fO_0, fO_1, fO_2]) rfl ⟨rfl, ?_, ?_⟩
    · exact ((hr5.store (by dsimp only; omega) _).store (by dsimp only; omega) _).store (by dsimp only; omega) _
    · exact ((y1.setCell (.inr (by dsimp only; omega)) _).setCell (.inr (by dsimp only; omega)) _).setCell (.inr (by dsimp only; omega)) _
  · have hv : peekN s p er = (0, false) := by unfold peekN; rw [dif_neg hc]
    have hlv : leftN s p er = 0 := by
      unfold leftN
      split
      · rename_i h; have : ¬ p < s.size := fun h2 => hc ⟨h, h2⟩
        omega
      · rfl
    have hnv : nextP s p er = p := if_neg hc
    rw [hv] at HP HN
    rw [hnv] at HN
    rw [hlv] at HL
    rw [hnv, ite_self]
    simp only [peekV] at HP HN
    clear hv hlv hnv hc
    go_enter Try.func25, Try.ntmps25
    go_wp2_with fail
    generalize hwz : World.alloc (World.alloc (World.alloc w _) _) _ = wz
    have fW : wz.heap[w.heap.size]? = some (.cells (rdC s p er) 52 (0, 0)) := by rw [← hwz]; exact heap_past (heap_past (heap_new w _) _) _
    have fC : wz.heap[w.heap.size + 1]? = some (.cells (callC ⟨k0, l, A, c, a, n, pl⟩) 27 (0, 0)) := by rw [← hwz]; exact heap_past (heap_two w _ _) _
    have fO : wz.heap[w.heap.size + 1 + 1]? = some (.cells (#[.string ByteArray.empty, .int .i64 0, .int .i64 0]) 52 (0, 0)) := by rw [← hwz]; exact heap_at _ _ _ (by simp)
    have y0 : Ext G0 w wz := by rw [← hwz]; exact (((Ext.refl _ _).alloc _).alloc _).alloc _
    clear hwz
    refine (hK.out _).mono ?_
    rintro e w1 ⟨rfl, x1⟩
    replace fW := ext_heap x1 fW (fun x => x)
    replace fC := ext_heap x1 fC (fun x => x)
    replace fO := ext_heap x1 fO (fun x => x)
    replace y0 := y0.trans x1
    clear x1
    go_wp2_with fail
    refine (HP.out _ (hr.ext y0 (fun x => x))).mono ?_
    rintro e w2 ⟨rfl, x2⟩
    replace fW := ext_heap x2 fW (fun x => x)
    replace fC := ext_heap x2 fC (fun x => x)
    replace fO := ext_heap x2 fO (fun x => x)
    replace y0 := y0.trans x2
    clear x2 HP
    have fC_0 := blk_cell fC 0
    have fC_1 := blk_cell fC 1
    have fC_2 := blk_cell fC 2
    have fC_3 := blk_cell fC 3
    have fC_4 := blk_cell fC 4
    have fC_5 := blk_cell fC 5
    have fC_6 := blk_cell fC 6
    have fC_7 := blk_cell fC 7
    have fCz := blk_free fC
    have fCl := lt_of_block fC
    go_wp2_with fail
    refine (hK.out _).mono ?_
    rintro e w3 ⟨rfl, x3⟩
    clear fC_0 fC_1 fC_2 fC_3 fC_4 fC_5 fC_6 fC_7 fCz
    replace fW := ext_heap x3 fW (fun x => x)
    replace fC := ext_heap x3 fC (fun x => x)
    replace fO := ext_heap x3 fO (fun x => x)
    replace y0 := y0.trans x3
    clear x3
    have hr5 := hr.ext y0 (fun x => x)
    have y1 := y0.up (G1 g)
    clear y0
    have hl1 := lt_of_block fO
    clear HN fC
    have fW_0 := blk_cell fW 0
    have fW_1 := blk_cell fW 1
    have fW_2 := blk_cell fW 2
    have fWz := blk_free fW
    have fWl := lt_of_block fW
    go_wp2_with fail
    refine (HL.out _).mono ?_
    rintro e w5 ⟨rfl, x5⟩
    clear fW_0 fW_1 fW_2 fWz
    replace hr5 := hr5.ext x5 (fun x => x)
    replace fW := ext_heap x5 fW (fun x => x)
    replace fO := ext_heap x5 fO (fun x => x)
    replace y1 := y1.trans (x5.up _)
    clear x5 HL
    have fW_0 := blk_cell fW 0
    have fW_1 := blk_cell fW 1
    have fW_2 := blk_cell fW 2
    have fWz := blk_free fW
    have fWl := lt_of_block fW
    have fO_0 := blk_cell fO 0
    have fO_1 := blk_cell fO 1
    have fO_2 := blk_cell fO 2
    have fOz := blk_free fO
    have fOl := lt_of_block fO
    go_wp2
    refine bodyPost_ret (v := .tuple #[rdV s p er, .bool true]) (by simp [results, Try.results25, go_sem, fO_0, fO_1, fO_2]) rfl ⟨rfl, ?_, ?_⟩
    · exact ((hr5.store (by dsimp only; omega) _).store (by dsimp only; omega) _).store (by dsimp only; omega) _
    · exact ((y1.setCell (.inr (by dsimp only; omega)) _).setCell (.inr (by dsimp only; omega)) _).setCell (.inr (by dsimp only; omega)) _

set_option maxRecDepth 100000 in
set_option maxHeartbeats 4000000 in
theorem doesPeek1_any (k0 : Int) (l : List ByteArray) (A : Option Addr) (c : Nat) (a : Bs) (n : Int) (pl : Bool) (g p : Nat) (s : ByteArray) (er : Int) (w : World) (hr : RdAt w g s p er) (hk : CallR.kind ⟨k0, l, A, c, a, n, pl⟩ = 1) (hp : p ≤ s.size) (hs : s.size ≤ 140737488351232) :
    Calls Try.prog 25 #[.pointer (some ⟨g, 0, none⟩), rdV s p er, callV ⟨k0, l, A, c, a, n, pl⟩] w (DoesPost g s (if 1 = 1 then nextP s p er else p) er w) := by
  have hK := fun w => kind_any ⟨k0, l, A, c, a, n, pl⟩ w
  rw [hk] at hK
  replace hK := Lib.hid hK
  have HP := Lib.hid (fun (w' : World) (hrw : RdAt w' g s p er) => Peek_any g p s er w' hrw hp)
  have HN := Lib.hid (fun (w' : World) (hrw : RdAt w' g s p er) => Next_any g p s er w' hrw hp hs)
  have HL := Lib.hid (fun w' : World => rLeft_any s p er w' hp hs)
  have hlg := hr.lt
  clear hk
  by_cases hc : er = 0 ∧ p < s.size
  · have hv : peekN s p er = (byteA s p, true) := by unfold peekN byteA; rw [dif_pos hc, dif_pos hc.2]
    have hlv : leftN s p er = (s.size : Int) - (p : Int) := if_pos hc.1
    have hnv : nextP s p er = p + 1 := if_pos hc
    rw [hv] at HP HN
    rw [hnv] at HN
    rw [hlv] at HL
    rw [hnv]
    have hlt := hc.2
    have e1 := byteA_eq hlt
    have hbl := byteA_lt s p
    have t0 : decide (0 < (s.size : Int) - (p : Int)) = true := by simp; omega
    have i1 : (p : Int) < (s.size : Int) := by omega
    have s1 := IntWalk.i64_in ((p : Int) + 1) (by omega)
    simp only [peekV] at HP HN
    clear hv hlv hnv hc
    generalize byteA s p = bv at *
    go_enter Try.func25, Try.ntmps25
    go_wp2_with fail
    generalize hwz : World.alloc (World.alloc (World.alloc w _) _) _ = wz
    have fW : wz.heap[w.heap.size]? = some (.cells (rdC s p er) 52 (0, 0)) := by rw [← hwz]; exact heap_past (heap_past (heap_new w _) _) _
    have fC : wz.heap[w.heap.size + 1]? = some (.cells (callC ⟨k0, l, A, c, a, n, pl⟩) 27 (0, 0)) := by rw [← hwz]; exact heap_past (heap_two w _ _) _
    have fO : wz.heap[w.heap.size + 1 + 1]? = some (.cells (#[.string ByteArray.empty, .int .i64 0, .int .i64 0]) 52 (0, 0)) := by rw [← hwz]; exact heap_at _ _ _ (by simp)
    have y0 : Ext G0 w wz := by rw [← hwz]; exact (((Ext.refl _ _).alloc _).alloc _).alloc _
    clear hwz
    refine (hK.out _).mono ?_
    rintro e w1 ⟨rfl, x1⟩
    replace fW := ext_heap x1 fW (fun x => x)
    replace fC := ext_heap x1 fC (fun x => x)
    replace fO := ext_heap x1 fO (fun x => x)
    replace y0 := y0.trans x1
    clear x1
    go_wp2_with fail
    refine (HP.out _ (hr.ext y0 (fun x => x))).mono ?_
    rintro e w2 ⟨rfl, x2⟩
    replace fW := ext_heap x2 fW (fun x => x)
    replace fC := ext_heap x2 fC (fun x => x)
    replace fO := ext_heap x2 fO (fun x => x)
    replace y0 := y0.trans x2
    clear x2 HP
    have fC_0 := blk_cell fC 0
    have fC_1 := blk_cell fC 1
    have fC_2 := blk_cell fC 2
    have fC_3 := blk_cell fC 3
    have fC_4 := blk_cell fC 4
    have fC_5 := blk_cell fC 5
    have fC_6 := blk_cell fC 6
    have fC_7 := blk_cell fC 7
    have fCz := blk_free fC
    have fCl := lt_of_block fC
    go_wp2_with fail
    refine (hK.out _).mono ?_
    rintro e w3 ⟨rfl, x3⟩
    clear fC_0 fC_1 fC_2 fC_3 fC_4 fC_5 fC_6 fC_7 fCz
    replace fW := ext_heap x3 fW (fun x => x)
    replace fC := ext_heap x3 fC (fun x => x)
    replace fO := ext_heap x3 fO (fun x => x)
    replace y0 := y0.trans x3
    clear x3
    have hr5 := hr.ext y0 (fun x => x)
    have y1 := y0.up (G1 g)
    clear y0
    have hl1 := lt_of_block fO
    go_wp2_with fail
    refine (HN.out _ hr5).mono ?_
    rintro e w4 ⟨rfl, hr6, x4⟩
    replace fW := ext_heap x4 fW (G1.ne (by omega))
    replace fC := ext_heap x4 fC (G1.ne (by omega))
    replace fO := ext_heap x4 fO (G1.ne (by omega))
    replace y1 := y1.trans x4
    clear hr5 x4
    have hr5 := hr6
    clear HN
    have fW_0 := blk_cell fW 0
    have fW_1 := blk_cell fW 1
    have fW_2 := blk_cell fW 2
    have fWz := blk_free fW
    have fWl := lt_of_block fW
    go_wp2_with fail
    refine (HL.out _).mono ?_
    rintro e w5 ⟨rfl, x5⟩
    clear fW_0 fW_1 fW_2 fWz
    replace hr5 := hr5.ext x5 (fun x => x)
    replace fW := ext_heap x5 fW (fun x => x)
    replace fC := ext_heap x5 fC (fun x => x)
    replace fO := ext_heap x5 fO (fun x => x)
    replace y1 := y1.trans (x5.up _)
    clear x5 HL
    have fW_0 := blk_cell fW 0
    have fW_1 := blk_cell fW 1
    have fW_2 := blk_cell fW 2
    have fWz := blk_free fW
    have fWl := lt_of_block fW
    have fC_0 := blk_cell fC 0
    have fC_1 := blk_cell fC 1
    have fC_2 := blk_cell fC 2
    have fC_3 := blk_cell fC 3
    have fC_4 := blk_cell fC 4
    have fC_5 := blk_cell fC 5
    have fC_6 := blk_cell fC 6
    have fC_7 := blk_cell fC 7
    have fCz := blk_free fC
    have fCl := lt_of_block fC
    go_wp2_with fail
    refine (hK.out _).mono ?_
    rintro e w6 ⟨rfl, x6⟩
    clear fC_0 fC_1 fC_2 fC_3 fC_4 fC_5 fC_6 fC_7 fCz fW_0 fW_1 fW_2 fWz fWl fCl
    replace hr5 := hr5.ext x6 (fun x => x)
    replace fW := ext_heap x6 fW (fun x => x)
    replace fO := ext_heap x6 fO (fun x => x)
    replace y1 := y1.trans (x6.up _)
    clear x6 hK fC
    have fW_0 := blk_cell fW 0
    have fW_1 := blk_cell fW 1
    have fW_2 := blk_cell fW 2
    have fWz := blk_free fW
    have fWl := lt_of_block fW
    have fO_0 := blk_cell fO 0
    have fO_1 := blk_cell fO 1
    have fO_2 := blk_cell fO 2
    have fOz := blk_free fO
    have fOl := lt_of_block fO
    go_wp2
    refine bodyPost_ret (v := .tuple #[rdV s (p + 1) er, .bool true]) (by simp [results, Try.results25, go_sem, fO_0, fO_1, fO_2]) rfl ⟨rfl, ?_, ?_⟩
    · exact (((hr5.store (by dsimp only; omega) _).store (by dsimp only; omega) _).store (by dsimp only; omega) _).store (by dsimp only; omega) _
    · exact (((y1.setCell (.inr (by dsimp only; omega)) _).setCell (.inr (by dsimp only; omega)) _).setCell (.inr (by dsimp only; omega)) _).setCell (.inr (by dsimp only; omega)) _
  · have hv : peekN s p er = (0, false) := by unfold peekN; rw [dif_neg hc]
    have hlv : leftN s p er = 0 := by
      unfold leftN
      split
      · rename_i h; have : ¬ p < s.size := fun h2 => hc ⟨h, h2⟩
        omega
      · rfl
    have hnv : nextP s p er = p := if_neg hc
    rw [hv] at HP HN
    rw [hnv] at HN
    rw [hlv] at HL
    rw [hnv, ite_self]
    simp only [peekV] at HP HN
    clear hv hlv hnv hc
    go_enter Try.func25, Try.ntmps25
    go_wp2_with fail
    generalize hwz : World.alloc (World.alloc (World.alloc w _) _) _ = wz
    have fW : wz.heap[w.heap.size]? = some (.cells (rdC s p er) 52 (0, 0)) := by rw [← hwz]; exact heap_past (heap_past (heap_new w _) _) _
    have fC : wz.heap[w.heap.size + 1]? = some (.cells (callC ⟨k0, l, A, c, a, n, pl⟩) 27 (0, 0)) := by rw [← hwz]; exact heap_past (heap_two w _ _) _
    have fO : wz.heap[w.heap.size + 1 + 1]? = some (.cells (#[.string ByteArray.empty, .int .i64 0, .int .i64 0]) 52 (0, 0)) := by rw [← hwz]; exact heap_at _ _ _ (by simp)
    have y0 : Ext G0 w wz := by rw [← hwz]; exact (((Ext.refl _ _).alloc _).alloc _).alloc _
    clear hwz
    refine (hK.out _).mono ?_
    rintro e w1 ⟨rfl, x1⟩
    replace fW := ext_heap x1 fW (fun x => x)
    replace fC := ext_heap x1 fC (fun x => x)
    replace fO := ext_heap x1 fO (fun x => x)
    replace y0 := y0.trans x1
    clear x1
    go_wp2_with fail
    refine (HP.out _ (hr.ext y0 (fun x => x))).mono ?_
    rintro e w2 ⟨rfl, x2⟩
    replace fW := ext_heap x2 fW (fun x => x)
    replace fC := ext_heap x2 fC (fun x => x)
    replace fO := ext_heap x2 fO (fun x => x)
    replace y0 := y0.trans x2
    clear x2 HP
    have fC_0 := blk_cell fC 0
    have fC_1 := blk_cell fC 1
    have fC_2 := blk_cell fC 2
    have fC_3 := blk_cell fC 3
    have fC_4 := blk_cell fC 4
    have fC_5 := blk_cell fC 5
    have fC_6 := blk_cell fC 6
    have fC_7 := blk_cell fC 7
    have fCz := blk_free fC
    have fCl := lt_of_block fC
    go_wp2_with fail
    refine (hK.out _).mono ?_
    rintro e w3 ⟨rfl, x3⟩
    clear fC_0 fC_1 fC_2 fC_3 fC_4 fC_5 fC_6 fC_7 fCz
    replace fW := ext_heap x3 fW (fun x => x)
    replace fC := ext_heap x3 fC (fun x => x)
    replace fO := ext_heap x3 fO (fun x => x)
    replace y0 := y0.trans x3
    clear x3
    have hr5 := hr.ext y0 (fun x => x)
    have y1 := y0.up (G1 g)
    clear y0
    have hl1 := lt_of_block fO
    go_wp2_with fail
    refine (HN.out _ hr5).mono ?_
    rintro e w4 ⟨rfl, hr6, x4⟩
    replace fW := ext_heap x4 fW (G1.ne (by omega))
    replace fO := ext_heap x4 fO (G1.ne (by omega))
    replace y1 := y1.trans x4
    clear hr5 x4
    have hr5 := hr6
    clear HN fC
    have fW_0 := blk_cell fW 0
    have fW_1 := blk_cell fW 1
    have fW_2 := blk_cell fW 2
    have fWz := blk_free fW
    have fWl := lt_of_block fW
    go_wp2_with fail
    refine (HL.out _).mono ?_
    rintro e w5 ⟨rfl, x5⟩
    clear fW_0 fW_1 fW_2 fWz
    replace hr5 := hr5.ext x5 (fun x => x)
    replace fW := ext_heap x5 fW (fun x => x)
    replace fO := ext_heap x5 fO (fun x => x)
    replace y1 := y1.trans (x5.up _)
    clear x5 HL
    have fW_0 := blk_cell fW 0
    have fW_1 := blk_cell fW 1
    have fW_2 := blk_cell fW 2
    have fWz := blk_free fW
    have fWl := lt_of_block fW
    have fO_0 := blk_cell fO 0
    have fO_1 := blk_cell fO 1
    have fO_2 := blk_cell fO 2
    have fOz := blk_free fO
    have fOl := lt_of_block fO
    go_wp2
    refine bodyPost_ret (v := .tuple #[rdV s p er, .bool true]) (by simp [results, Try.results25, go_sem, fO_0, fO_1, fO_2]) rfl ⟨rfl, ?_, ?_⟩
    · exact ((hr5.store (by dsimp only; omega) _).store (by dsimp only; omega) _).store (by dsimp only; omega) _
    · exact ((y1.setCell (.inr (by dsimp only; omega)) _).setCell (.inr (by dsimp only; omega)) _).setCell (.inr (by dsimp only; omega)) _

end Go.Proofs.Ytejialnbelleeaa
