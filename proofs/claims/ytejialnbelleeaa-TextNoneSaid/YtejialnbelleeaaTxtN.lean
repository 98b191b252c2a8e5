/-
  TextNone is true: what nobody tells.
-/
import Derived.Test.YtejialnbelleeaaTxtM
namespace Go.Proofs.Ytejialnbelleeaa
open Go Go.RowKit

set_option maxRecDepth 100000 in
set_option maxHeartbeats 4000000 in
theorem none_any (x : CallR) (w : World) (hg : x.good w) :
    Calls Try.prog 3 #[callV x] w fun e w' => e = .returned (.bool true) ∧ Below w.heap.size w w' := by
  have hW := fun w hg => word_any x w hg
  obtain ⟨tw, htw⟩ : ∃ tw, tw = x.word := ⟨_, rfl⟩
  rw [← htw] at hW
  clear htw
  have HW := Lib.hid hW
  have HG := Lib.hid hg
  have HP := Lib.hid Peek_nil
  have HN := Lib.hid Next_nil
  unfold peekV at HP HN
  clear hW hg
  obtain ⟨k, l, A, c, a, n, pl⟩ := x
  go_enter Try.func3, Try.ntmps3
  go_wp2_with fail
  generalize hwz : World.alloc w _ = wz
  have fC : wz.heap[w.heap.size]? = some (.cells (callC ⟨k, l, A, c, a, n, pl⟩) 27 (0, 0)) := by rw [← hwz]; exact heap_new _ _
  have y0 : Ext G0 w wz := by rw [← hwz]; exact (Ext.refl _ _).alloc _
  clear hwz
  refine (wakes_any _).mono ?_
  rintro e w1 ⟨rfl, x1⟩
  replace fC := ext_heap x1 fC (fun x => x)
  have y1 := y0.trans x1
  clear x1 y0
  go_wp2_with fail
  refine (HP.out _).mono ?_
  rintro e w2 ⟨rfl, x2⟩
  replace fC := ext_heap x2 fC (fun x => x)
  have y2 := y1.trans x2
  clear x2 y1
  go_wp2_with fail
  refine (HN.out _).mono ?_
  rintro e w3 ⟨rfl, x3⟩
  replace fC := ext_heap x3 fC (fun x => x)
  have y3 := y2.trans x3
  clear x3 y2
  go_wp2_with fail
  refine (Err_nil _).mono ?_
  rintro e w4 ⟨rfl, x4⟩
  replace fC := ext_heap x4 fC (fun x => x)
  have y4 := y3.trans x4
  clear x4 y3
  have c3 : w4.cell? ⟨w.heap.size, 6, none⟩ = some (.int .i64 n) := blk_cell fC 6
  go_wp2_with fail
  clear c3
  refine (Fail_nil _ _ _).mono ?_
  rintro e w5 ⟨rfl, x5⟩
  replace fC := ext_heap x5 fC (fun x => x)
  have y5 := y4.trans x5
  clear x5 y4
  go_wp2_with fail
  refine (At_nil _).mono ?_
  rintro e w6 ⟨rfl, rfl⟩
  go_wp2_with fail
  refine (Left_nil _).mono ?_
  rintro e w7 ⟨rfl, x7⟩
  replace fC := ext_heap x7 fC (fun x => x)
  have y7 := y5.trans x7
  clear x7 y5
  have c1 : w7.cell? ⟨w.heap.size, 1, none⟩ = some (.slice A l.length c) := blk_cell fC 1
  go_wp2_with fail
  clear c1
  refine (Is_nil l A c _).mono ?_
  rintro e w8 ⟨rfl, x8⟩
  replace fC := ext_heap x8 fC (fun x => x)
  have y8 := y7.trans x8
  clear x8 y7
  have c2 : w8.cell? ⟨w.heap.size, 2, none⟩ = some (wordV (word a 0)) := blk_cell fC 2
  have c3 : w8.cell? ⟨w.heap.size, 3, none⟩ = some (wordV (word a 1)) := blk_cell fC 3
  have c4 : w8.cell? ⟨w.heap.size, 4, none⟩ = some (wordV (word a 2)) := blk_cell fC 4
  have c5 : w8.cell? ⟨w.heap.size, 5, none⟩ = some (wordV (word a 3)) := blk_cell fC 5
  go_wp2_with fail
  clear c2 c3 c4 c5
  refine (While_nil a _).mono ?_
  rintro e w9 ⟨rfl, x9⟩
  replace fC := ext_heap x9 fC (fun x => x)
  have y9 := y8.trans x9
  clear x9 y8
  have c0 : w9.cell? ⟨w.heap.size, 0, none⟩ = some (.int .i64 k) := blk_cell fC 0
  have c1 : w9.cell? ⟨w.heap.size, 1, none⟩ = some (.slice A l.length c) := blk_cell fC 1
  have c2 : w9.cell? ⟨w.heap.size, 2, none⟩ = some (wordV (word a 0)) := blk_cell fC 2
  have c3 : w9.cell? ⟨w.heap.size, 3, none⟩ = some (wordV (word a 1)) := blk_cell fC 3
  have c4 : w9.cell? ⟨w.heap.size, 4, none⟩ = some (wordV (word a 2)) := blk_cell fC 4
  have c5 : w9.cell? ⟨w.heap.size, 5, none⟩ = some (wordV (word a 3)) := blk_cell fC 5
  have c6 : w9.cell? ⟨w.heap.size, 6, none⟩ = some (.int .i64 n) := blk_cell fC 6
  have c7 : w9.cell? ⟨w.heap.size, 7, none⟩ = some (.bool pl) := blk_cell fC 7
  go_wp2_with fail
  clear c0 c1 c2 c3 c4 c5 c6 c7
  refine (HW.out _ (HG.out.ext y9)).mono ?_
  rintro e w10 ⟨rfl, x10⟩
  replace fC := ext_heap x10 fC (fun x => x)
  have y10 := y9.trans x10
  clear x10 y9
  go_wp2_with fail
  refine (Want_nil _ _).mono ?_
  rintro e w11 ⟨rfl, x11⟩
  replace fC := ext_heap x11 fC (fun x => x)
  have y11 := y10.trans x11
  clear x11 y10
  have c6 : w11.cell? ⟨w.heap.size, 6, none⟩ = some (.int .i64 n) := blk_cell fC 6
  have c7 : w11.cell? ⟨w.heap.size, 7, none⟩ = some (.bool pl) := blk_cell fC 7
  go_wp2_with fail
  clear c6 c7
  refine (Number_nil n pl _).mono ?_
  rintro e w12 ⟨rfl, x12⟩
  replace fC := ext_heap x12 fC (fun x => x)
  have y12 := y11.trans x12
  clear x12 y11
  have c6 : w12.cell? ⟨w.heap.size, 6, none⟩ = some (.int .i64 n) := blk_cell fC 6
  go_wp2_with fail
  clear c6
  refine (Hex_nil n _).mono ?_
  rintro e w13 ⟨rfl, x13⟩
  have y13 := y12.trans x13
  clear x13 y12 fC
  go_wp2_with fail
  refine (End_nil _).mono ?_
  rintro e w14 ⟨rfl, x14⟩
  go_wp2
  go_ret
  exact ⟨rfl, (y13.trans x14).below⟩

end Go.Proofs.Ytejialnbelleeaa
