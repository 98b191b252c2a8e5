/-
  The reference for sets: FromRuns.
-/
import Derived.Test.YtejialnbelleeaaDoorRefH
namespace Go.Proofs.YtejialnbelleeaaDoor
open Go Go.RowKit

/-- All the runs joined. -/
def orS (l : List RunN) : Bs := l.foldl (fun a r => a ||| spanS r.1 r.2) 0#256
theorem orS_take (l : List RunN) (k : Nat) (h : k < l.length) : orS (l.take (k + 1)) = orS (l.take k) ||| spanS l[k].1 l[k].2 := by
  unfold orS; rw [List.take_succ_eq_append_getElem h, List.foldl_append]; rfl
def fromQ (l : List RunN) : Value := .tuple #[setV (if runsS (orS l) = l then orS l else 0#256), .bool (decide (runsS (orS l) = l))]

set_option maxRecDepth 100000 in
set_option maxHeartbeats 8000000 in
theorem rfromRuns_any (l : List RunN) (v : Value) (w : World) (hv : RunsAt w v l) (hl : ∀ r ∈ l, r.1 < 256 ∧ r.2 < 256) :
    Calls Tryd.prog 26 #[v] w fun e w' => e = .returned (fromQ l) ∧ Below w.heap.size w w' := by
  obtain ⟨A, c, rfl, ⟨hc, hm⟩, hcells⟩ := hv
  replace hcells := Lib.hid hcells
  obtain ⟨V, hV⟩ : ∃ V, V = fromQ l := ⟨_, rfl⟩
  rw [← hV]
  replace hV := Lib.hid hV
  go_enter Tryd.func26, Tryd.ntmps26
  go_wp2
  generalize hwz : World.alloc (World.alloc w _) _ = wz
  have fR : wz.heap[w.heap.size]? = some (.cells (setC 0#256) 24 (0, 0)) := by rw [← hwz]; exact heap_two' w _ _
  have fT : wz.heap[w.heap.size + 1]? = some (.cells (setC 0#256) 24 (0, 0)) := by rw [← hwz]; exact heap_two w _ _
  have y0 : Ext G0 w wz := by rw [← hwz]; exact ((Ext.refl _ _).alloc _).alloc _
  clear hwz
  go_loopw [12] (fun i wr => ∃ k : Nat, k ≤ l.length ∧ i = .int .i64 (k : Int) ∧ wr.heap[w.heap.size]? = some (.cells (setC 0#256) 24 (0, 0)) ∧ wr.heap[w.heap.size + 1]? = some (.cells (setC (orS (l.take k))) 24 (0, 0)) ∧ Ext G0 w wr) (fun i _ => l.length - (intOf i).toNat)
  case atStart => exact ⟨0, Nat.zero_le _, rfl, fR, fT, y0⟩
  case round =>
    obtain ⟨k, hk, rfl, gR, gT, hx⟩ := hrel
    clear fR fT y0
    by_cases hlt : k < l.length
    · have i1 : (k : Int) < (l.length : Int) := by omega
      rcases hcells.out with h | ⟨b, off, hA, hcell⟩
      · rw [h] at hlt; simp at hlt
      subst hA
      obtain ⟨d0, d1⟩ := runs_cells hcell hx hlt
      have hT := Lib.hid (orS_take l k hlt)
      obtain ⟨hb1, hb2⟩ := hl _ (List.getElem_mem hlt)
      clear hcell
      generalize l[k] = x at *
      generalize orS (l.take k) = T0 at *
      obtain ⟨lo, hh⟩ := x
      simp only at d0 d1 hb1 hb2 hT
      have j1 : (0 : Int) ≤ (lo : Int) := by omega
      have j2 : (lo : Int) < 256 := by omega
      have j3 : (0 : Int) ≤ (hh : Int) := by omega
      have j4 : (hh : Int) < 256 := by omega
      have n1 := lt_of_block gT
      go_wp2_with fail
      clear d0 d1
      generalize hwz : World.alloc wr _ = wz
      have gX : wz.heap[wr.heap.size]? = some (.cells #[.int .u8 (lo : Int), .int .u8 (hh : Int)] 32 (0, 0)) := by rw [← hwz]; exact heap_new _ _
      have hx1 : Ext G0 wr wz := by rw [← hwz]; exact (Ext.refl _ _).alloc _
      clear hwz
      replace gR := ext_heap hx1 gR (fun x => x)
      replace gT := ext_heap hx1 gT (fun x => x)
      replace hx := hx.trans hx1
      clear hx1
      generalize wr.heap.size = nX at *
      apply region_phi (leaves := (Leaf.val _) :: (Leaf.val _) :: (Leaf.val _) :: (Leaf.val _) :: (Leaf.val _) :: (Leaf.val _) :: (Leaf.val _) :: (Leaf.val _) :: (Leaf.val _) :: ([] : List Leaf)) (k := 9) (b := #[0, 0, 2, 6, 0, 16, 48, 126, 255, 511]) (ms := []) (E := Ext G0) mixed (by kernel_rfl) rfl (by kernel_rfl) rfl
      apply owed_walk rfl
      · intro w1 hw hf
        have r0 := blk_cell (ext_heapD hw gX (fun x => x)) 0
        have r1 := blk_cell (ext_heapD hw gX (fun x => x)) 1
        obtain ⟨q0, q1, q2, q3⟩ := cells4 (ext_heapD hw gT (fun x => x))
        go_wp2
        exact ⟨rfl, rfl, Ext.refl _ _⟩
      · simp
      · go_simp
        try rfl
      apply owed_walk rfl
      · intro w1 hw hf
        have r0 := blk_cell (ext_heapD hw gX (fun x => x)) 0
        have r1 := blk_cell (ext_heapD hw gX (fun x => x)) 1
        go_wp2
        exact ⟨rfl, rfl, Ext.refl _ _⟩
      · simp
      · go_simp
        try rfl
      apply owed_walk rfl
      · intro w1 hw hf
        have r0 := blk_cell (ext_heapD hw gX (fun x => x)) 0
        have r1 := blk_cell (ext_heapD hw gX (fun x => x)) 1
        go_wp2
        exact ⟨rfl, rfl, Ext.refl _ _⟩
      · simp
      · go_simp
        try rfl
      apply owed_walk rfl
      · intro w1 hw hf
        have r0 := blk_cell (ext_heapD hw gX (fun x => x)) 0
        have r1 := blk_cell (ext_heapD hw gX (fun x => x)) 1
        go_wp2
        exact ⟨rfl, rfl, Ext.refl _ _⟩
      · simp
      · go_simp
        try rfl
      apply owed_walk rfl
      · intro w1 hw hf
        have r0 := blk_cell (ext_heapD hw gX (fun x => x)) 0
        have r1 := blk_cell (ext_heapD hw gX (fun x => x)) 1
        go_wp2
        exact ⟨rfl, rfl, Ext.refl _ _⟩
      · simp
      · go_simp
        try rfl
      apply owed_walk rfl
      · intro w1 hw hf
        have r0 := blk_cell (ext_heapD hw gX (fun x => x)) 0
        have r1 := blk_cell (ext_heapD hw gX (fun x => x)) 1
        go_wp2
        exact ⟨rfl, rfl, Ext.refl _ _⟩
      · simp
      · go_simp
        try rfl
      apply owed_walk rfl
      · intro w1 hw hf
        have r0 := blk_cell (ext_heapD hw gX (fun x => x)) 0
        have r1 := blk_cell (ext_heapD hw gX (fun x => x)) 1
        go_wp2
        exact ⟨rfl, rfl, Ext.refl _ _⟩
      · simp
      · go_simp
        try rfl
      apply owed_walk rfl
      · intro w1 hw hf
        have r0 := blk_cell (ext_heapD hw gX (fun x => x)) 0
        have r1 := blk_cell (ext_heapD hw gX (fun x => x)) 1
        go_wp2_with (go_at_call 41; refine (rspan_any lo hh _ hb2).mono ?_; rintro e w2 ⟨rfl, hx2⟩)
        exact ⟨rfl, rfl, Ext.of_below hx2 _⟩
      · simp
      · go_simp
        try rfl
      apply owed_walk rfl
      · intro w1 hw hf
        have r0 := blk_cell (ext_heapD hw gX (fun x => x)) 0
        have r1 := blk_cell (ext_heapD hw gX (fun x => x)) 1
        go_wp2_with (go_at_call 32; refine (ror_any _ _ _).mono ?_; rintro e w2 ⟨rfl, hx2⟩)
        exact ⟨rfl, rfl, Ext.of_below hx2 _⟩
      · simp
      · go_simp
        try rfl
      apply owed_end
      intro w5 hw _
      unfold Tail
      replace gR := ext_heapD hw gR (fun x => x)
      replace gT := ext_heapD hw gT (fun x => x)
      have hx5 := hx.trans hw.ofDrew
      have zT := blk_free gT
      have hlT := lt_of_block gT
      obtain ⟨a0, a1, a2, a3⟩ := cells4 gT
      clear hw hx
      go_wp2
      go_roundw
      case rel =>
        refine ⟨k + 1, by omega, by go_num, ?_, ?_, (((hx5.set (by simp) _).set (by simp) _).set (by simp) _).set (by simp) _⟩
        · rw [Below.heap_setCell _ _ _ _ (by simp), Below.heap_setCell _ _ _ _ (by simp), Below.heap_setCell _ _ _ _ (by simp), Below.heap_setCell _ _ _ _ (by simp)]
          exact gR
        · rw [hT.out]
          exact blk_set (blk_set (blk_set (blk_set gT 0 _) 1 _) 2 _) 3 _
      case measure => simp [intOf]; omega
    · obtain rfl : k = l.length := by omega
      rw [List.take_length] at gT
      obtain ⟨T, hTT⟩ : ∃ T, T = orS l := ⟨_, rfl⟩
      have hVT : V = .tuple #[setV (if runsS T = l then T else 0#256), .bool (decide (runsS T = l))] := by rw [hV.out, hTT]; rfl
      rw [← hTT] at gT
      replace hVT := Lib.hid hVT
      clear hTT hV
      have hrr := Lib.hid (rruns_any T)
      obtain ⟨q0, q1, q2, q3⟩ := cells4 gT
      go_wp2_with fail
      refine (hrr.out _).mono ?_
      rintro e w2 ⟨v', rfl, hown, b2⟩
      have x2 := Ext.of_below b2 G0
      replace gR := ext_heap x2 gR (fun x => x)
      replace gT := ext_heap x2 gT (fun x => x)
      replace hx := hx.trans x2
      have hlr : (runsS T).length ≤ 256 := Nat.le_trans (runsU_length _) (bytesS_length T)
      have hown' := SlAt.of_owns (sz := 2) (enc := runL) (fun _ _ => rfl) hown (by omega)
      clear q0 q1 q2 q3 x2 b2 hown hrr
      generalize runsS T = R at *
      obtain ⟨A2, c2, rfl, ⟨hc2, hm2⟩, hcells2⟩ := hown'
      replace hcells2 := Lib.hid hcells2
      have zR := blk_free gR
      have hlR := lt_of_block gR
      obtain ⟨r0, r1, r2, r3⟩ := cells4 gR
      by_cases hlen : R.length = l.length
      · have t1 : ((R.length : Int) != (l.length : Int)) = false := by simp; omega
        have hlen' : (R.length : Int) = (l.length : Int) := by omega
        clear r0 r1 r2 r3 zR hlR
        go_wp2_with fail
        go_loopw [36] (fun i wr => ∃ k : Nat, k ≤ l.length ∧ i = .int .i64 (k : Int) ∧ R.take k = l.take k ∧ Ext G0 w2 wr) (fun i _ => l.length - (intOf i).toNat)
        case atStart => exact ⟨0, Nat.zero_le _, rfl, rfl, Ext.refl _ _⟩
        case round =>
          obtain ⟨k, hk, rfl, heq, hy⟩ := hrel
          replace gR := ext_heap hy gR (fun x => x)
          replace gT := ext_heap hy gT (fun x => x)
          by_cases hlt2 : k < l.length
          · have i1 : (k : Int) < (l.length : Int) := by omega
            have hlt3 : k < R.length := by omega
            have i2 : (k : Int) < (R.length : Int) := by omega
            rcases hcells.out with h | ⟨b, off, hA, hcell⟩
            · rw [h] at hlt2; simp at hlt2
            subst hA
            rcases hcells2.out with h | ⟨b2, off2, hA, hcell2⟩
            · rw [h] at hlt3; simp at hlt3
            subst hA
            obtain ⟨d0, d1⟩ := runs_cells hcell (hx.trans hy) hlt2
            obtain ⟨e0, e1⟩ := runs_cells hcell2 hy hlt3
            have hqq := equalIn_run R[k] l[k]
            have hstep : R[k] = l[k] → R.take (k + 1) = l.take (k + 1) := fun h => by rw [List.take_succ_eq_append_getElem hlt2, List.take_succ_eq_append_getElem hlt3, heq, h]
            have hbad : R[k] ≠ l[k] → R ≠ l := fun h e => h (by subst e; rfl)
            clear hcell hcell2 heq
            generalize l[k] = x at *
            generalize R[k] = y at *
            generalize hpp : R.take (k + 1) = R1 at *
            generalize hpq : l.take (k + 1) = l1 at *
            obtain ⟨lo, hh⟩ := x
            obtain ⟨lo2, hh2⟩ := y
            go_wp2_with fail
            clear d0 d1
            generalize hwz : World.alloc wr _ = wz
            have gX : wz.heap[wr.heap.size]? = some (.cells #[.int .u8 (lo : Int), .int .u8 (hh : Int)] 32 (0, 0)) := by rw [← hwz]; exact heap_new _ _
            have hx1 : Ext G0 wr wz := by rw [← hwz]; exact (Ext.refl _ _).alloc _
            clear hwz
            replace gR := ext_heap hx1 gR (fun x => x)
            replace gT := ext_heap hx1 gT (fun x => x)
            replace e0 := cell_ext hx1 e0
            replace e1 := cell_ext hx1 e1
            replace hy := hy.trans hx1
            clear hx1
            generalize wr.heap.size = nX at *
            by_cases hq : (lo2, hh2) = (lo, hh)
            · have hs := hstep hq
              rw [decide_eq_true hq] at hqq
              replace hs := Lib.hid hs
              clear hstep hbad hq
              apply region_phi (leaves := (Leaf.val _) :: (Leaf.val _) :: (Leaf.val _) :: (Leaf.val _) :: (Leaf.val _) :: (Leaf.val _) :: ([] : List Leaf)) (k := 6) (b := #[0, 0, 3, 7, 0, 31]) (ms := []) (E := Ext G0) mixed (by kernel_rfl) rfl (by kernel_rfl) rfl
              apply owed_walk rfl
              · intro w1 hw hf
                have r0 := blk_cell (ext_heapD hw gX (fun x => x)) 0
                have r1 := blk_cell (ext_heapD hw gX (fun x => x)) 1
                have s0 := cell_ext hw.ofDrew e0
                have s1 := cell_ext hw.ofDrew e1
                go_wp2
                exact ⟨rfl, rfl, Ext.refl _ _⟩
              · simp
              · go_simp
                try rfl
              apply owed_walk rfl
              · intro w1 hw hf
                have r0 := blk_cell (ext_heapD hw gX (fun x => x)) 0
                have r1 := blk_cell (ext_heapD hw gX (fun x => x)) 1
                have s0 := cell_ext hw.ofDrew e0
                have s1 := cell_ext hw.ofDrew e1
                go_wp2
                exact ⟨rfl, rfl, Ext.refl _ _⟩
              · simp
              · go_simp
                try rfl
              apply owed_walk rfl
              · intro w1 hw hf
                have r0 := blk_cell (ext_heapD hw gX (fun x => x)) 0
                have r1 := blk_cell (ext_heapD hw gX (fun x => x)) 1
                have s0 := cell_ext hw.ofDrew e0
                have s1 := cell_ext hw.ofDrew e1
                go_wp2
                exact ⟨rfl, rfl, Ext.refl _ _⟩
              · simp
              · go_simp
                try rfl
              apply owed_walk rfl
              · intro w1 hw hf
                have r0 := blk_cell (ext_heapD hw gX (fun x => x)) 0
                have r1 := blk_cell (ext_heapD hw gX (fun x => x)) 1
                have s0 := cell_ext hw.ofDrew e0
                have s1 := cell_ext hw.ofDrew e1
                go_wp2
                exact ⟨rfl, rfl, Ext.refl _ _⟩
              · simp
              · go_simp
                try rfl
              apply owed_walk rfl
              · intro w1 hw hf
                have r0 := blk_cell (ext_heapD hw gX (fun x => x)) 0
                have r1 := blk_cell (ext_heapD hw gX (fun x => x)) 1
                have s0 := cell_ext hw.ofDrew e0
                have s1 := cell_ext hw.ofDrew e1
                go_wp2
                exact ⟨rfl, rfl, Ext.refl _ _⟩
              · simp
              · go_simp
                try rfl
              apply owed_walk rfl
              · intro w1 hw hf
                have r0 := blk_cell (ext_heapD hw gX (fun x => x)) 0
                have r1 := blk_cell (ext_heapD hw gX (fun x => x)) 1
                have s0 := cell_ext hw.ofDrew e0
                have s1 := cell_ext hw.ofDrew e1
                go_wp2
                exact ⟨rfl, rfl, Ext.refl _ _⟩
              · simp
              · go_simp
                try rfl
              apply owed_end
              intro w5 hw _
              refine Tail.nil rfl ?_
              go_wp2
              go_roundw
              case rel => exact ⟨k + 1, by omega, by go_num, by rw [hpp, hpq]; exact hs.out, hy.trans hw.ofDrew⟩
              case measure => simp [intOf]; omega
            · have hne := hbad hq
              rw [decide_eq_false hq] at hqq
              rw [if_neg hne, decide_eq_false hne] at hVT
              clear hstep hbad hq
              apply region_phi (leaves := (Leaf.val _) :: (Leaf.val _) :: (Leaf.val _) :: (Leaf.val _) :: (Leaf.val _) :: (Leaf.val _) :: ([] : List Leaf)) (k := 6) (b := #[0, 0, 3, 7, 0, 31]) (ms := []) (E := Ext G0) mixed (by kernel_rfl) rfl (by kernel_rfl) rfl
              apply owed_walk rfl
              · intro w1 hw hf
                have r0 := blk_cell (ext_heapD hw gX (fun x => x)) 0
                have r1 := blk_cell (ext_heapD hw gX (fun x => x)) 1
                have s0 := cell_ext hw.ofDrew e0
                have s1 := cell_ext hw.ofDrew e1
                go_wp2
                exact ⟨rfl, rfl, Ext.refl _ _⟩
              · simp
              · go_simp
                try rfl
              apply owed_walk rfl
              · intro w1 hw hf
                have r0 := blk_cell (ext_heapD hw gX (fun x => x)) 0
                have r1 := blk_cell (ext_heapD hw gX (fun x => x)) 1
                have s0 := cell_ext hw.ofDrew e0
                have s1 := cell_ext hw.ofDrew e1
                go_wp2
                exact ⟨rfl, rfl, Ext.refl _ _⟩
              · simp
              · go_simp
                try rfl
              apply owed_walk rfl
              · intro w1 hw hf
                have r0 := blk_cell (ext_heapD hw gX (fun x => x)) 0
                have r1 := blk_cell (ext_heapD hw gX (fun x => x)) 1
                have s0 := cell_ext hw.ofDrew e0
                have s1 := cell_ext hw.ofDrew e1
                go_wp2
                exact ⟨rfl, rfl, Ext.refl _ _⟩
              · simp
              · go_simp
                try rfl
              apply owed_walk rfl
              · intro w1 hw hf
                have r0 := blk_cell (ext_heapD hw gX (fun x => x)) 0
                have r1 := blk_cell (ext_heapD hw gX (fun x => x)) 1
                have s0 := cell_ext hw.ofDrew e0
                have s1 := cell_ext hw.ofDrew e1
                go_wp2
                exact ⟨rfl, rfl, Ext.refl _ _⟩
              · simp
              · go_simp
                try rfl
              apply owed_walk rfl
              · intro w1 hw hf
                have r0 := blk_cell (ext_heapD hw gX (fun x => x)) 0
                have r1 := blk_cell (ext_heapD hw gX (fun x => x)) 1
                have s0 := cell_ext hw.ofDrew e0
                have s1 := cell_ext hw.ofDrew e1
                go_wp2
                exact ⟨rfl, rfl, Ext.refl _ _⟩
              · simp
              · go_simp
                try rfl
              apply owed_walk rfl
              · intro w1 hw hf
                have r0 := blk_cell (ext_heapD hw gX (fun x => x)) 0
                have r1 := blk_cell (ext_heapD hw gX (fun x => x)) 1
                have s0 := cell_ext hw.ofDrew e0
                have s1 := cell_ext hw.ofDrew e1
                go_wp2
                exact ⟨rfl, rfl, Ext.refl _ _⟩
              · simp
              · go_simp
                try rfl
              apply owed_end
              intro w5 hw _
              refine Tail.nil rfl ?_
              replace gR := ext_heapD hw gR (fun x => x)
              have hx5 := (hx.trans hy).trans hw.ofDrew
              have zR := blk_free gR
              have hlR := lt_of_block gR
              obtain ⟨r0, r1, r2, r3⟩ := cells4 gR
              go_wp2
              refine bodyPost_ret (v := V) (by rw [hVT.out]; simp [results, Tryd.results26, go_sem, r0, r1, r2, r3]; exact ⟨rfl, rfl, rfl, rfl⟩) rfl ⟨rfl, ?_⟩
              exact ((((hx5.set (Nat.le_refl _) _).set (Nat.le_refl _) _).set (Nat.le_refl _) _).set (Nat.le_refl _) _).below
          · obtain rfl : k = l.length := by omega
            rw [List.take_length, ← hlen, List.take_length] at heq
            rw [if_pos heq, decide_eq_true heq] at hVT
            have hx5 := hx.trans hy
            have zR := blk_free gR
            have hlR := lt_of_block gR
            obtain ⟨r0, r1, r2, r3⟩ := cells4 gR
            obtain ⟨q0, q1, q2, q3⟩ := cells4 gT
            clear heq
            go_wp2
            refine bodyPost_ret (v := V) (by rw [hVT.out]; simp [results, Tryd.results26, go_sem, r0, r1, r2, r3]) rfl ⟨rfl, ?_⟩
            exact ((((hx5.set (Nat.le_refl _) _).set (Nat.le_refl _) _).set (Nat.le_refl _) _).set (Nat.le_refl _) _).below
      · have hne : ¬ R = l := fun e => hlen (by rw [e])
        rw [if_neg hne, decide_eq_false hne] at hVT
        have t1 : ((R.length : Int) != (l.length : Int)) = true := by simp; omega
        go_wp2
        refine bodyPost_ret (v := V) (by rw [hVT.out]; simp [results, Tryd.results26, go_sem, r0, r1, r2, r3]; exact ⟨rfl, rfl, rfl, rfl⟩) rfl ⟨rfl, ?_⟩
        exact ((((hx.set (Nat.le_refl _) _).set (Nat.le_refl _) _).set (Nat.le_refl _) _).set (Nat.le_refl _) _).below

end Go.Proofs.YtejialnbelleeaaDoor
