/-
  TextReads is true: the walk.
-/
import Derived.Test.YtejialnbelleeaaDoesE
namespace Go.Proofs.Ytejialnbelleeaa
open Go Go.RowKit

def ReadsRel (s : ByteArray) (g b p : Nat) (er : Int) (w wr : World) : Prop := p ≤ s.size ∧ RdAt wr g s p er ∧ wr.heap[b]? = some (.cells (rdC s p er) 52 (0, 0)) ∧ Ext G0 w wr

set_option maxRecDepth 100000 in
set_option maxHeartbeats 6000000 in
theorem reads_law (s0 : ByteArray) (l : List CallR) (A : Option Addr) (c : Nat) (w : World) (hv : CallsAt w (.slice A l.length c) l) (hg : ∀ x ∈ l, x.good w) (hs0 : s0.size ≤ 140737488351232) :
    Calls Try.prog 6 #[.string s0, .slice A l.length c] w fun e w' => e = .returned (.bool true) ∧ Below w.heap.size w w' := by
  have hf300 := front_size s0 300
  obtain ⟨s, hsf⟩ : ∃ s, s = front s0 300 := ⟨_, rfl⟩
  rw [← hsf] at hf300
  have hs : s.size ≤ 140737488351232 := by omega
  obtain ⟨_, _, he, ⟨hlc, hlm⟩, hcells⟩ := hv
  injection he with e1 e2 e3
  subst e1 e3
  clear e2
  have HC := Lib.hid hcells
  have HG := Lib.hid hg
  clear hcells hg
  have hmin : ∃ m : Nat, min (s0.size : Int) 300 = (m : Int) ∧ m ≤ s0.size ∧ s = s0.extract 0 m := by
    by_cases h : s0.size ≤ 300
    · exact ⟨s0.size, by omega, Nat.le_refl _, by rw [hsf, front_whole h, ByteArray.extract_zero_size]⟩
    · exact ⟨300, by omega, by omega, hsf.trans (front_part h)⟩
  clear hsf
  obtain ⟨m, hm, hml, hsq⟩ := hmin
  have HSQ := Lib.hid hsq
  clear hsq
  go_enter Try.func6, Try.ntmps6
  go_wp2_with fail
  refine (wakes_any _).mono ?_
  rintro e w1 ⟨rfl, x1⟩
  go_wp2_with fail
  rw [← HSQ.out]
  clear hm hml HSQ
  refine (Of_any _ _).mono ?_
  rintro e w2 ⟨g, rfl, r2, n2, x2⟩
  have y2 := x1.trans x2
  have m2 := Nat.le_trans x1.size n2
  have hgl2 := r2.lt
  clear x1 x2 n2
  go_wp2_with fail
  generalize hwz : World.alloc w2 _ = wb
  have fB : wb.heap[w2.heap.size]? = some (.cells (rdC s 0 0) 52 (0, 0)) := by rw [← hwz]; exact heap_new w2 _
  have yb : Ext G0 w2 wb := by rw [← hwz]; exact (Ext.refl _ _).alloc _
  clear hwz
  have hlb : w.heap.size ≤ w2.heap.size := y2.size
  replace r2 := r2.ext yb (fun x => x)
  replace y2 := y2.trans yb
  clear yb
  go_loopg [29] l.length (fun n v wr => ∃ (k p : Nat) (er : Int), n = l.length - k ∧ v = .int .i64 (k : Int) ∧ k ≤ l.length ∧ ReadsRel s g w2.heap.size p er w wr)
  case atStart => exact ⟨0, 0, 0, rfl, rfl, Nat.zero_le _, Nat.zero_le _, r2, fB, y2⟩
  case round =>
    obtain ⟨k, p, er, rfl, rfl, hk, hp, hr, gB, hx⟩ := hrel
    clear r2 y2 fB
    by_cases hlt : k < l.length
    · have i1 : k < l.length := hlt
      rcases HC.out with h | ⟨b, off, hA, hcell⟩
      · rw [h] at hlt; simp at hlt
      subst hA
      obtain ⟨d0, d1, d2, d3, d4, d5, d6, d7⟩ := calls_cells hcell hx hlt
      have hgw := HG.out _ (List.getElem_mem hlt)
      have hgl := hr.lt
      have hbl := lt_of_block gB
      clear hcell
      generalize l[k] = x at *
      by_cases h20 : k = 20
      · have t20 : ((k : Int) == 20) = true := by simp [h20]
        clear h20
        go_wp2
        go_ret
        exact ⟨rfl, (hx.alloc _).below⟩
      · have t20 : ((k : Int) == 20) = false := by simp; omega
        have g0 := blk_cell gB 0
        have g1 := blk_cell gB 1
        have g2 := blk_cell gB 2
        clear h20
        go_wp2_with fail
        generalize hwz : World.alloc wr _ = wz
        have fC : wz.heap[wr.heap.size]? = some (.cells (callC x) 27 (0, 0)) := by rw [← hwz]; exact heap_new wr _
        have yz : Ext G0 wr wz := by rw [← hwz]; exact (Ext.refl _ _).alloc _
        clear hwz d0 d1 d2 d3 d4 d5 d6 d7 g0 g1 g2
        replace hr := hr.ext yz (fun x => x)
        replace gB := ext_heap yz gB (fun x => x)
        replace hx := hx.trans yz
        clear yz fC
        refine (does_any x g p s er _ hr (hgw.ext hx) hp hs).mono ?_
        rintro e w4 ⟨rfl, hr4, x4⟩
        have hp4 : (stepD s x p er).1 ≤ s.size := stepD_le x hp
        generalize (stepD s x p er).1 = p4 at *
        generalize (stepD s x p er).2 = er4 at *
        replace gB := ext_heap x4 gB (G1.ne (by omega))
        replace hx := hx.own x4 m2
        clear x4 hr
        have gB_0 := blk_cell gB 0
        have gB_1 := blk_cell gB 1
        have gB_2 := blk_cell gB 2
        have gBz := blk_free gB
        have gBl := lt_of_block gB
        go_wp2_with fail
        generalize hwt : World.alloc _ _ = wt
        have fB : wt.heap[w2.heap.size]? = some (.cells (rdC s p4 er4) 52 (0, 0)) := by rw [← hwt]; exact heap_past (blk_set (blk_set (blk_set gB 0 _) 1 _) 2 _) _
        have hr5 : RdAt wt g s p4 er4 := by rw [← hwt]; exact heap_past (((hr4.store (by dsimp only; omega) _).store (by dsimp only; omega) _).store (by dsimp only; omega) _) _
        have hy : Ext G0 w wt := by rw [← hwt]; exact (((hx.set (by dsimp only; omega) _).set (by dsimp only; omega) _).set (by dsimp only; omega) _).alloc _
        clear hwt gB hr4 hx gB_0 gB_1 gB_2 gBz gBl
        refine (Err_any g p4 s er4 _ hr5).mono ?_
        rintro e w5 ⟨rfl, x5⟩
        replace fB := ext_heap x5 fB (fun x => x)
        replace hr5 := hr5.ext x5 (fun x => x)
        replace hy := hy.trans x5
        clear x5
        have HAT := Lib.hid (fun (w' : World) (h : RdAt w' g s p4 er4) => At_any g p4 s er4 w' h)
        have HLF := Lib.hid (fun (w' : World) (h : RdAt w' g s p4 er4) => Left_any g p4 s er4 w' h hp4 hs)
        have HRL := Lib.hid (fun (w' : World) => rLeft_any s p4 er4 w' hp4 hs)
        generalize leftN s p4 er4 = lv at *
        by_cases he : er4 = 0
        · subst he
          rw [show errV p4 0 = .tuple #[.int .i64 0, .int .i64 0] from rfl]
          have fB_0 := blk_cell fB 0
          have fB_1 := blk_cell fB 1
          have fB_2 := blk_cell fB 2
          have fBz := blk_free fB
          have fBl := lt_of_block fB
          clear fB_0 fB_1 fBz
          go_wp2_with fail
          apply region_phi (leaves := (Leaf.val _) :: (Leaf.val _) :: (Leaf.val _) :: (Leaf.val _) :: (Leaf.val _) :: (Leaf.val _) :: (Leaf.val _) :: (Leaf.val _) :: (Leaf.val _) :: (Leaf.val _) :: (Leaf.val _) :: (Leaf.val _) :: (Leaf.val _) :: (Leaf.val _) :: (Leaf.val _) :: (Leaf.val _) :: (Leaf.val _) :: (Leaf.val _) :: (Leaf.val _) :: (Leaf.val _) :: (Leaf.val _) :: (Leaf.val _) :: (Leaf.val _) :: ([] : List Leaf)) (k := 23) (b := #[0, 1, 0, 4, 15, 31, 63, 127, 63, 511, 1023, 2047, 4095, 8191, 8191, 24575, 65535, 131071, 262143, 524287, 524287, 2097151, 4194303]) (ms := []) (E := Ext G0) mixed (by kernel_rfl) rfl (by kernel_rfl) rfl
          apply owed_walk rfl
          · intro w1 hw hf
            go_wp2
            exact ⟨rfl, rfl, Ext.refl _ _⟩
          · simp
          · go_simp
            try rfl
          apply owed_walk rfl
          · intro w1 hw hf
            go_wp2_with (go_at_call 12; (with_reducible refine (HAT.out _ (hr5.ext hw.ofDrew (fun x => x))).mono ?_); rintro e w2 ⟨rfl, rfl⟩)
            exact ⟨rfl, rfl, Ext.refl _ _⟩
          · simp
          · go_simp
            try rfl
          apply owed_walk rfl
          · intro w1 hw hf
            go_wp2
            exact ⟨rfl, rfl, Ext.refl _ _⟩
          · simp
          · go_simp
            try rfl
          apply owed_walk rfl
          · intro w1 hw hf
            have fB_0 := blk_cell (ext_heapD hw fB (fun x => x)) 0
            have fB_1 := blk_cell (ext_heapD hw fB (fun x => x)) 1
            have fB_2 := blk_cell (ext_heapD hw fB (fun x => x)) 2
            go_wp2
            exact ⟨rfl, rfl, Ext.refl _ _⟩
          · simp
          · go_simp
            try rfl
          apply owed_walk rfl
          · intro w1 hw hf
            go_wp2
            exact ⟨rfl, rfl, Ext.refl _ _⟩
          · simp
          · go_simp
            try rfl
          apply owed_walk rfl
          · intro w1 hw hf
            go_wp2
            exact ⟨rfl, rfl, Ext.refl _ _⟩
          · simp
          · go_simp
            try rfl
          apply owed_walk rfl
          · intro w1 hw hf
            go_wp2
            exact ⟨rfl, rfl, Ext.refl _ _⟩
          · simp
          · go_simp
            try rfl
          apply owed_walk rfl
          · intro w1 hw hf
            go_wp2_with (go_at_call 13; (with_reducible refine (HLF.out _ (hr5.ext hw.ofDrew (fun x => x))).mono ?_); rintro e w2 ⟨rfl, hx2⟩)
            exact ⟨rfl, rfl, hx2⟩
          · simp
          · go_simp
            try rfl
          apply owed_walk rfl
          · intro w1 hw hf
            have fB_0 := blk_cell (ext_heapD hw fB (fun x => x)) 0
            have fB_1 := blk_cell (ext_heapD hw fB (fun x => x)) 1
            have fB_2 := blk_cell (ext_heapD hw fB (fun x => x)) 2
            go_wp2
            exact ⟨rfl, rfl, Ext.refl _ _⟩
          · simp
          · go_simp
            try rfl
          apply owed_walk rfl
          · intro w1 hw hf
            go_wp2_with (go_at_call 26; (with_reducible refine (HRL.out _).mono ?_); rintro e w2 ⟨rfl, hx2⟩)
            exact ⟨rfl, rfl, hx2⟩
          · simp
          · go_simp
            try rfl
          apply owed_walk rfl
          · intro w1 hw hf
            go_wp2
            exact ⟨rfl, rfl, Ext.refl _ _⟩
          · simp
          · go_simp
            try rfl
          apply owed_walk rfl
          · intro w1 hw hf
            go_wp2
            exact ⟨rfl, rfl, Ext.refl _ _⟩
          · simp
          · go_simp
            try rfl
          apply owed_walk rfl
          · intro w1 hw hf
            go_wp2
            exact ⟨rfl, rfl, Ext.refl _ _⟩
          · simp
          · go_simp
            try rfl
          apply owed_walk rfl
          · intro w1 hw hf
            go_wp2
            exact ⟨rfl, rfl, Ext.refl _ _⟩
          · simp
          · go_simp
            try rfl
          apply owed_walk rfl
          · intro w1 hw hf
            go_wp2
            exact ⟨rfl, rfl, Ext.refl _ _⟩
          · simp
          · go_simp
            try rfl
          apply owed_walk rfl
          · intro w1 hw hf
            have fB_0 := blk_cell (ext_heapD hw fB (fun x => x)) 0
            have fB_1 := blk_cell (ext_heapD hw fB (fun x => x)) 1
            have fB_2 := blk_cell (ext_heapD hw fB (fun x => x)) 2
            go_wp2
            exact ⟨rfl, rfl, Ext.refl _ _⟩
          · simp
          · go_simp
            try rfl
          apply owed_walk rfl
          · intro w1 hw hf
            go_wp2
            exact ⟨rfl, rfl, Ext.refl _ _⟩
          · simp
          · go_simp
            try rfl
          apply owed_walk rfl
          · intro w1 hw hf
            go_wp2
            exact ⟨rfl, rfl, Ext.refl _ _⟩
          · simp
          · go_simp
            try rfl
          apply owed_walk rfl
          · intro w1 hw hf
            go_wp2
            exact ⟨rfl, rfl, Ext.refl _ _⟩
          · simp
          · go_simp
            try rfl
          apply owed_walk rfl
          · intro w1 hw hf
            go_wp2
            exact ⟨rfl, rfl, Ext.refl _ _⟩
          · simp
          · go_simp
            try rfl
          apply owed_walk rfl
          · intro w1 hw hf
            go_wp2
            exact ⟨rfl, rfl, Ext.refl _ _⟩
          · simp
          · go_simp
            try rfl
          apply owed_walk rfl
          · intro w1 hw hf
            go_wp2
            exact ⟨rfl, rfl, Ext.refl _ _⟩
          · simp
          · go_simp
            try rfl
          apply owed_walk rfl
          · intro w1 hw hf
            go_wp2
            exact ⟨rfl, rfl, Ext.refl _ _⟩
          · simp
          · go_simp
            try rfl
          apply owed_end
          intro w6 hw _
          refine Tail.nil rfl ?_
          replace fB := ext_heapD hw fB (fun x => x)
          replace hr5 := ext_heapD hw hr5 (fun x => x)
          replace hy := hy.trans hw.ofDrew
          clear hw
          go_wp2
          go_roundg (l.length - (k + 1))
          case rel => exact ⟨k + 1, p4, 0, rfl, by go_num, by omega, hp4, hr5, fB, hy⟩
          case measure => omega
        · rw [show errV p4 er4 = .tuple #[.int .i64 (p4 : Int), .int .i64 er4] from by unfold errV; rw [if_neg he]]
          have te : (er4 != 0) = true := by simp [he]
          have fB_0 := blk_cell fB 0
          have fB_1 := blk_cell fB 1
          have fB_2 := blk_cell fB 2
          have fBz := blk_free fB
          have fBl := lt_of_block fB
          go_wp2_with fail
          apply region_phi (leaves := (Leaf.val _) :: (Leaf.val _) :: (Leaf.val _) :: (Leaf.val _) :: (Leaf.val _) :: (Leaf.val _) :: (Leaf.val _) :: (Leaf.val _) :: (Leaf.val _) :: (Leaf.val _) :: (Leaf.val _) :: (Leaf.val _) :: (Leaf.val _) :: (Leaf.val _) :: (Leaf.val _) :: (Leaf.val _) :: (Leaf.val _) :: (Leaf.val _) :: (Leaf.val _) :: (Leaf.val _) :: (Leaf.val _) :: (Leaf.val _) :: (Leaf.val _) :: ([] : List Leaf)) (k := 23) (b := #[0, 1, 0, 4, 15, 31, 63, 127, 63, 511, 1023, 2047, 4095, 8191, 8191, 24575, 65535, 131071, 262143, 524287, 524287, 2097151, 4194303]) (ms := []) (E := Ext G0) mixed (by kernel_rfl) rfl (by kernel_rfl) rfl
          apply owed_walk rfl
          · intro w1 hw hf
            go_wp2
            exact ⟨rfl, rfl, Ext.refl _ _⟩
          · simp
          · go_simp
            try rfl
          apply owed_walk rfl
          · intro w1 hw hf
            go_wp2_with (go_at_call 12; (with_reducible refine (HAT.out _ (hr5.ext hw.ofDrew (fun x => x))).mono ?_); rintro e w2 ⟨rfl, rfl⟩)
            exact ⟨rfl, rfl, Ext.refl _ _⟩
          · simp
          · go_simp
            try rfl
          apply owed_walk rfl
          · intro w1 hw hf
            go_wp2
            exact ⟨rfl, rfl, Ext.refl _ _⟩
          · simp
          · go_simp
            try rfl
          apply owed_walk rfl
          · intro w1 hw hf
            have fB_0 := blk_cell (ext_heapD hw fB (fun x => x)) 0
            have fB_1 := blk_cell (ext_heapD hw fB (fun x => x)) 1
            have fB_2 := blk_cell (ext_heapD hw fB (fun x => x)) 2
            go_wp2
            exact ⟨rfl, rfl, Ext.refl _ _⟩
          · simp
          · go_simp
            try rfl
          apply owed_walk rfl
          · intro w1 hw hf
            go_wp2
            exact ⟨rfl, rfl, Ext.refl _ _⟩
          · simp
          · go_simp
            try rfl
          apply owed_walk rfl
          · intro w1 hw hf
            go_wp2
            exact ⟨rfl, rfl, Ext.refl _ _⟩
          · simp
          · go_simp
            try rfl
          apply owed_walk rfl
          · intro w1 hw hf
            go_wp2
            exact ⟨rfl, rfl, Ext.refl _ _⟩
          · simp
          · go_simp
            try rfl
          apply owed_walk rfl
          · intro w1 hw hf
            go_wp2_with (go_at_call 13; (with_reducible refine (HLF.out _ (hr5.ext hw.ofDrew (fun x => x))).mono ?_); rintro e w2 ⟨rfl, hx2⟩)
            exact ⟨rfl, rfl, hx2⟩
          · simp
          · go_simp
            try rfl
          apply owed_walk rfl
          · intro w1 hw hf
            have fB_0 := blk_cell (ext_heapD hw fB (fun x => x)) 0
            have fB_1 := blk_cell (ext_heapD hw fB (fun x => x)) 1
            have fB_2 := blk_cell (ext_heapD hw fB (fun x => x)) 2
            go_wp2
            exact ⟨rfl, rfl, Ext.refl _ _⟩
          · simp
          · go_simp
            try rfl
          apply owed_walk rfl
          · intro w1 hw hf
            go_wp2_with (go_at_call 26; (with_reducible refine (HRL.out _).mono ?_); rintro e w2 ⟨rfl, hx2⟩)
            exact ⟨rfl, rfl, hx2⟩
          · simp
          · go_simp
            try rfl
          apply owed_walk rfl
          · intro w1 hw hf
            go_wp2
            exact ⟨rfl, rfl, Ext.refl _ _⟩
          · simp
          · go_simp
            try rfl
          apply owed_walk rfl
          · intro w1 hw hf
            go_wp2
            exact ⟨rfl, rfl, Ext.refl _ _⟩
          · simp
          · go_simp
            try rfl
          apply owed_walk rfl
          · intro w1 hw hf
            go_wp2
            exact ⟨rfl, rfl, Ext.refl _ _⟩
          · simp
          · go_simp
            try rfl
          apply owed_walk rfl
          · intro w1 hw hf
            go_wp2
            exact ⟨rfl, rfl, Ext.refl _ _⟩
          · simp
          · go_simp
            try rfl
          apply owed_walk rfl
          · intro w1 hw hf
            go_wp2
            exact ⟨rfl, rfl, Ext.refl _ _⟩
          · simp
          · go_simp
            try rfl
          apply owed_walk rfl
          · intro w1 hw hf
            have fB_0 := blk_cell (ext_heapD hw fB (fun x => x)) 0
            have fB_1 := blk_cell (ext_heapD hw fB (fun x => x)) 1
            have fB_2 := blk_cell (ext_heapD hw fB (fun x => x)) 2
            go_wp2
            exact ⟨rfl, rfl, Ext.refl _ _⟩
          · simp
          · go_simp
            try rfl
          apply owed_walk rfl
          · intro w1 hw hf
            go_wp2
            exact ⟨rfl, rfl, Ext.refl _ _⟩
          · simp
          · go_simp
            try rfl
          apply owed_walk rfl
          · intro w1 hw hf
            go_wp2
            exact ⟨rfl, rfl, Ext.refl _ _⟩
          · simp
          · go_simp
            try rfl
          apply owed_walk rfl
          · intro w1 hw hf
            go_wp2
            exact ⟨rfl, rfl, Ext.refl _ _⟩
          · simp
          · go_simp
            try rfl
          apply owed_walk rfl
          · intro w1 hw hf
            go_wp2
            exact ⟨rfl, rfl, Ext.refl _ _⟩
          · simp
          · go_simp
            try rfl
          apply owed_walk rfl
          · intro w1 hw hf
            go_wp2
            exact ⟨rfl, rfl, Ext.refl _ _⟩
          · simp
          · go_simp
            try rfl
          apply owed_walk rfl
          · intro w1 hw hf
            go_wp2
            exact ⟨rfl, rfl, Ext.refl _ _⟩
          · simp
          · go_simp
            try rfl
          apply owed_walk rfl
          · intro w1 hw hf
            go_wp2
            exact ⟨rfl, rfl, Ext.refl _ _⟩
          · simp
          · go_simp
            try rfl
          apply owed_end
          intro w6 hw _
          refine Tail.nil rfl ?_
          replace fB := ext_heapD hw fB (fun x => x)
          replace hr5 := ext_heapD hw hr5 (fun x => x)
          replace hy := hy.trans hw.ofDrew
          clear hw
          go_wp2
          go_roundg (l.length - (k + 1))
          case rel => exact ⟨k + 1, p4, er4, rfl, by go_num, by omega, hp4, hr5, fB, hy⟩
          case measure => omega
    · obtain rfl : k = l.length := by omega
      have i1 : ¬ l.length < l.length := by omega
      go_wp2
      go_ret
      exact ⟨rfl, hx.below⟩

/-- With the length told apart. -/
theorem reads_law_n (s0 : ByteArray) (l : List CallR) (A : Option Addr) (n c : Nat) (w : World) (hn : l.length = n) (hv : CallsAt w (.slice A n c) l) (hg : ∀ x ∈ l, x.good w) (hs0 : s0.size ≤ 140737488351232) :
    Calls Try.prog 6 #[.string s0, .slice A n c] w fun e w' => e = .returned (.bool true) ∧ Below w.heap.size w w' := by
  subst hn; exact reads_law s0 l A c w hv hg hs0

end Go.Proofs.Ytejialnbelleeaa
